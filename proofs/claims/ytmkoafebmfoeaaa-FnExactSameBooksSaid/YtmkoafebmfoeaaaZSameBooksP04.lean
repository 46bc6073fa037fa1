/-
  Own work: part 5 of the texts that the proof of the given statement leans on.
-/
import Derived.Laws.Strings
import Derived.Test.YtmkoafebmfoeaaaZSameBooksP03
/-
  Own work. Plain laws: loops, indices, integers that fit.
-/
namespace Go.Di

theorem whileO_eq {σ ρ : Type} (f : σ → Option (σ ⊕ ρ)) (x : σ) : whileO f x = (f x).bind fun z => match z with
    | .inl y => whileO f y
    | .inr r => some r := by
  cases h : f x with
  | none =>
    cases hw : whileO f x with
    | none => rfl
    | some r =>
      obtain ⟨n, hn⟩ := whileO_iff.1 hw
      cases n with
      | zero => cases hn
      | succ n => unfold iterO at hn; rw [h] at hn; cases hn
  | some z =>
    cases z with
    | inl y => exact whileO_inl h
    | inr r => exact whileO_inr h

/-- Rounds along a family of states. -/
theorem whileO_run {σ ρ : Type} (f : σ → Option (σ ⊕ ρ)) (st : Nat → σ) (n : Nat) (h : ∀ i, i < n → f (st i) = some (.inl (st (i + 1)))) : whileO f (st 0) = whileO f (st n) := by
  induction n with
  | zero => rfl
  | succ n ih =>
    rw [ih fun i hi => h i (Nat.lt_succ_of_lt hi)]
    exact whileO_inl (h n (Nat.lt_succ_self n))

theorem whileO_upto {σ ρ : Type} (f : σ → Option (σ ⊕ ρ)) (st : Nat → σ) (n : Nat) (r : ρ) (h : ∀ i, i < n → f (st i) = some (.inl (st (i + 1)))) (he : f (st n) = some (.inr r)) : whileO f (st 0) = some r := by
  rw [whileO_run f st n h]; exact whileO_inr he

theorem wrap_i64 {n : Int} (h1 : -9223372036854775808 ≤ n) (h2 : n ≤ 9223372036854775807) : IntKind.i64.wrap n = n := by
  simp only [IntKind.wrap, IntKind.bits, IntKind.signed]
  simp
  omega

theorem idx_nat {α : Type} (xs : List α) (i : Nat) : idx xs (i : Int) = xs[i]? := by simp [idx]
theorem idx_at {α : Type} {xs : List α} {i : Nat} (h : i < xs.length) : idx xs (i : Int) = some xs[i] := by simp [idx, h]
theorem idx_int {α : Type} {xs : List α} {i : Int} (h0 : 0 ≤ i) (h : i < xs.length) : idx xs i = some (xs[i.toNat]'(by omega)) := by
  have : i.toNat < xs.length := by omega
  simp [idx, h0, this]

@[simp] theorem guardO_true : guardO true = some () := rfl

/-- Equality as a Bool. -/
noncomputable def eqB {α : Type} (a b : α) : Bool := @decide (a = b) (Classical.propDecidable _)
theorem eqB_iff {α : Type} {a b : α} : eqB a b = true ↔ a = b := by unfold eqB; exact @decide_eq_true_iff _ (Classical.propDecidable _)
@[simp] theorem eqB_self {α : Type} (a : α) : eqB a a = true := eqB_iff.2 rfl
theorem eqB_false {α : Type} {a b : α} : eqB a b = false ↔ a ≠ b := by rw [← Bool.not_eq_true, eqB_iff]

theorem strEq_eq (a b : ByteArray) : strEq a b = eqB a b := by
  rw [Bool.eq_iff_iff, eqB_iff]
  unfold strEq
  rw [beq_iff_eq, Go.ByteArray.toList_eq, Go.ByteArray.toList_eq]
  constructor
  · intro h
    cases a with | mk a => cases b with | mk b =>
    congr 1; exact Array.ext' h
  · rintro rfl; rfl
@[simp] theorem strEq_self (a : ByteArray) : strEq a a = true := by rw [strEq_eq]; exact eqB_self a
end Go.Di
/-
  Own work. Plain laws: the loops that copy, compare and measure.
-/
namespace Go.Di

theorem copy_loop {α : Type} {S : (List α × Int × List α × Unit) → Option ((List α × Int × List α × Unit) ⊕ (List α × Unit))} {a : List α} {z : α}
    (hS : ∀ (i : Nat) (out : List α) (h : i < a.length), out.length = a.length → S (a, (i : Int), out, ()) = some (.inl (a, ((i + 1 : Nat) : Int), out.set i a[i], ())))
    (hE : ∀ out, S (a, (a.length : Int), out, ()) = some (.inr (out, ()))) : whileO S (a, 0, List.replicate a.length z, ()) = some (a, ()) := by
  have h := whileO_upto S (fun i => (a, (i : Int), a.take i ++ List.replicate (a.length - i) z, ())) a.length (a, ()) (fun i hi => ?_) (by rw [hE]; simp)
  · simpa using h
  · rw [hS i _ hi (by simp; omega)]
    congr 5
    apply List.ext_getElem?
    intro j
    have hl : (a.take i).length = i := by simp; omega
    by_cases hj : j = i
    · subst hj
      rw [List.getElem?_set_self (by simp; omega), List.getElem?_append_left (by simp; omega)]
      simp [hi]
    · rw [List.getElem?_set_ne (by omega)]
      by_cases hlt : j < i
      · rw [List.getElem?_append_left (by omega), List.getElem?_append_left (by simp; omega), List.getElem?_take_of_lt hlt, List.getElem?_take_of_lt (by omega)]
      · have hl2 : (a.take (i + 1)).length = i + 1 := by simp; omega
        rw [List.getElem?_append_right (by omega), List.getElem?_append_right (by omega), hl, hl2]
        simp only [List.getElem?_replicate]
        congr 1
        simp; omega

theorem eq_loop {α : Type} {S : (List α × List α × Int × Unit) → Option ((List α × List α × Int × Unit) ⊕ ((Bool × Unit) ⊕ Unit))} {a b : List α} (hl : a.length = b.length)
    (hS : ∀ (i : Nat) (h : i < a.length), S (a, b, (i : Int), ()) = some (cond (eqB a[i] (b[i]'(by omega))) (.inl (a, b, ((i + 1 : Nat) : Int), ())) (.inr (.inl (false, ())))))
    (hE : S (a, b, (a.length : Int), ()) = some (.inr (.inr ()))) : whileO S (a, b, 0, ()) = some (cond (eqB a b) (.inr ()) (.inl (false, ()))) := by
  have key : ∀ (m i : Nat), i + m = a.length → a.take i = b.take i → whileO S (a, b, (i : Int), ()) = some (cond (eqB a b) (.inr ()) (.inl (false, ()))) := by
    intro m
    induction m with
    | zero =>
      intro i him ht
      have : a = b := by
        have h1 : a.take i = a := List.take_of_length_le (by omega)
        have h2 : b.take i = b := List.take_of_length_le (by omega)
        rw [← h1, ← h2, ht]
      subst this
      have hi : i = a.length := by omega
      subst hi
      rw [whileO_inr hE]; simp
    | succ m ih =>
      intro i him ht
      have hi : i < a.length := by omega
      cases he : eqB a[i] (b[i]'(by omega)) with
      | true =>
        rw [whileO_inl (by rw [hS i hi, he]; rfl)]
        refine ih (i + 1) (by omega) ?_
        rw [List.take_succ_eq_append_getElem hi, List.take_succ_eq_append_getElem (by omega), ht, eqB_iff.1 he]
      | false =>
        rw [whileO_inr (by rw [hS i hi, he]; rfl)]
        have hne : eqB a b = false := by
          rw [eqB_false]; rintro rfl; rw [eqB_self] at he; cases he
        rw [hne]; rfl
  exact key a.length 0 (by omega) (by simp)

/-- What remains of a measure. -/
theorem sz_loop {α : Type} {S : (List α × Int × Int × Unit) → Option ((List α × Int × Int × Unit) ⊕ ((Int × Unit) ⊕ (Int × Unit)))} {a : List α} {size : α → Nat}
    (hS : ∀ (i : Nat) (left : Int) (h : i < a.length), 0 ≤ left → left ≤ 1048576 → S (a, left, (i : Int), ()) = some (.inr (.inl (-1, ()))) ∨ ∃ r : Int, 0 ≤ r ∧ r + size a[i] = left ∧ S (a, left, (i : Int), ()) = some (.inl (a, r, ((i + 1 : Nat) : Int), ())))
    (hE : ∀ left, S (a, left, (a.length : Int), ()) = some (.inr (.inr (left, ())))) (left : Int) (h0 : 0 ≤ left) (h1 : left ≤ 1048576) :
    whileO S (a, left, 0, ()) = some (.inl (-1, ())) ∨ ∃ r : Int, 0 ≤ r ∧ r + (a.map size).sum = left ∧ whileO S (a, left, 0, ()) = some (.inr (r, ())) := by
  have key : ∀ (m i : Nat) (left : Int), i + m = a.length → 0 ≤ left → left ≤ 1048576 → whileO S (a, left, (i : Int), ()) = some (.inl (-1, ())) ∨ ∃ r : Int, 0 ≤ r ∧ r + ((a.drop i).map size).sum = left ∧ whileO S (a, left, (i : Int), ()) = some (.inr (r, ())) := by
    intro m
    induction m with
    | zero =>
      intro i left him h0 h1
      have hi : i = a.length := by omega
      subst hi
      exact .inr ⟨left, h0, by simp, whileO_inr (hE left)⟩
    | succ m ih =>
      intro i left him h0 h1
      have hi : i < a.length := by omega
      rcases hS i left hi h0 h1 with h | ⟨r, q1, q2, q3⟩
      · exact .inl (whileO_inr h)
      · rw [whileO_inl q3]
        rcases ih (i + 1) r (by omega) q1 (by omega) with h | ⟨r', k1, k2, k3⟩
        · exact .inl h
        · refine .inr ⟨r', k1, ?_, k3⟩
          rw [List.drop_eq_getElem_cons hi, List.map_cons, List.sum_cons]
          omega
  have := key a.length 0 left (by omega) h0 h1
  simpa using this
end Go.Di
/-
  Own work. Plain laws: the helpers of the given statements measure, copy and compare.
-/
namespace Go.Di

def SzR (x : Option Int) (left : Int) (n : Nat) : Prop := x = some (-1) ∨ ∃ r : Int, 0 ≤ r ∧ r + n = left ∧ x = some r

theorem SzR.bind {x : Option Int} {left : Int} {n m : Nat} {k : Int → Option Int} (h : SzR x left n) (hk : ∀ r : Int, 0 ≤ r → r + n = left → SzR (k r) r m) :
    SzR (x.bind fun r => cond (decide (r < 0)) (some (-1)) (k r)) left (n + m) := by
  rcases h with rfl | ⟨r, h0, h1, rfl⟩
  · exact .inl rfl
  · have : decide (r < 0) = false := by simpa using h0
    simp only [Option.bind_some, this, cond_false]
    rcases hk r h0 h1 with h | ⟨r', k0, k1, h⟩
    · exact .inl h
    · exact .inr ⟨r', k0, by omega, h⟩
theorem SzR.ret {left : Int} (h : 0 ≤ left) : SzR (some left) left 0 := .inr ⟨left, h, by omega, rfl⟩
theorem SzR.last {x : Option Int} {left : Int} {n : Nat} (h : SzR x left n) : SzR (x.bind fun r => cond (decide (r < 0)) (some (-1)) (some r)) left n :=
  SzR.bind (m := 0) h fun r h0 _ => SzR.ret h0

theorem sub_len {left : Int} {n : Nat} (h0 : 0 ≤ left) (h1 : left ≤ 1048576) (hn : n ≤ maxLen) : IntKind.i64.wrap (left - (n : Int)) = left - n := by
  unfold maxLen at hn
  exact wrap_i64 (by omega) (by omega)

theorem sz_ints {a : List Int} (ha : a.length ≤ maxLen) {left : Int} (h0 : 0 ≤ left) (h1 : left ≤ 1048576) : SzR (M_laws_szIntS a left) left a.length := by
  unfold M_laws_szIntS
  rw [sub_len h0 h1 ha]
  by_cases h : left - (a.length : Int) < 0
  · rw [decide_eq_true h]; exact .inl rfl
  · rw [decide_eq_false h]; exact .inr ⟨_, by omega, by omega, rfl⟩

def Rt.sz (r : Rt) : Nat := r.mag.length + r.den.length
def Obs.sz (o : Obs) : Nat := o.value.sz + o.variance.sz
def Sta.sz (s : Sta) : Nat := s.name.size + (s.x.sz + s.y.sz)

theorem sz_rat {r : Rt} (hr : r.wf) {left : Int} (h0 : 0 ≤ left) (h1 : left ≤ 1048576) : SzR (M_laws_szRat r left) left r.sz := by
  unfold M_laws_szRat M_laws_szBigInt
  exact SzR.bind (SzR.last (sz_ints hr.1.1 h0 h1)) fun r' q0 q1 => SzR.last (sz_ints hr.2.1 q0 (by omega))
theorem sz_obs {o : Obs} (h : ST.wf .obs o) {left : Int} (h0 : 0 ≤ left) (h1 : left ≤ 1048576) : SzR (M_laws_szObservation o left) left o.sz := by
  unfold M_laws_szObservation
  exact SzR.bind (sz_rat h.2.1 h0 h1) fun r' q0 q1 => SzR.last (sz_rat h.2.2 q0 (by omega))
theorem sz_sta {s : Sta} (h : ST.wf .sta s) {left : Int} (h0 : 0 ≤ left) (h1 : left ≤ 1048576) : SzR (M_laws_szStation s left) left s.sz := by
  unfold M_laws_szStation
  have hn := h.1
  rw [sub_len h0 h1 hn]
  by_cases hs : left - (s.name.size : Int) < 0
  · rw [decide_eq_true hs]; exact .inl rfl
  · rw [decide_eq_false hs]
    simp only [cond_false]
    rcases SzR.bind (sz_rat h.2.1 (show 0 ≤ left - (s.name.size : Int) by omega) (by omega)) fun r' q0 q1 => SzR.last (sz_rat h.2.2 q0 (by omega)) with h | ⟨r, q0, q1, h⟩
    · exact .inl h
    · exact .inr ⟨r, q0, by unfold Sta.sz; omega, h⟩

def lsz {α : Type} (f : α → Nat) (l : List α) : Nat := l.length + (l.map f).sum

theorem sz_list {α : Type} {S : (List α × Int × Int × Unit) → Option ((List α × Int × Int × Unit) ⊕ ((Int × Unit) ⊕ (Int × Unit)))} {f : α → Int → Option Int} {size : α → Nat} {l : List α} (hlen : l.length ≤ maxLen)
    (hel : ∀ x ∈ l, ∀ left : Int, 0 ≤ left → left ≤ 1048576 → SzR (f x left) left (size x))
    (hS : S = fun (a, left, i, _) => cond (decide (i < (a.length : Int))) ((idx a i).bind fun e => (f e left).bind fun r => cond (decide (r < 0)) (some (.inr (.inl ((-1), ())))) (some (.inl (a, r, IntKind.i64.wrap (i + 1), ())))) (some (.inr (.inr (left, ())))))
    {left : Int} (h0 : 0 ≤ left) (h1 : left ≤ 1048576) :
    SzR (cond (decide ((IntKind.i64.wrap (left - (l.length : Int))) < 0)) (some (-1)) ((whileO S (l, IntKind.i64.wrap (left - (l.length : Int)), 0, ())).bind fun r => match r with
      | .inl (t, _) => some t
      | .inr (left1, _) => some left1)) left (lsz size l) := by
  rw [sub_len h0 h1 hlen]
  by_cases h : left - (l.length : Int) < 0
  · rw [decide_eq_true h]; exact .inl rfl
  · rw [decide_eq_false h]
    simp only [cond_false]
    have key := sz_loop (S := S) (a := l) (size := size) (by
      intro i left hi q0 q1
      have hlt : decide ((i : Int) < (l.length : Int)) = true := by simpa using hi
      have hwr : IntKind.i64.wrap ((i : Int) + 1) = ((i + 1 : Nat) : Int) := by unfold maxLen at hlen; rw [wrap_i64 (by omega) (by omega)]; simp
      subst hS
      simp only [hlt, cond_true, idx_at hi, Option.bind_some]
      rcases hel _ (List.getElem_mem hi) left q0 q1 with e | ⟨r, k0, k1, e⟩
      · rw [e]; exact .inl rfl
      · rw [e]
        have : decide (r < 0) = false := by simpa using k0
        simp only [Option.bind_some, this, cond_false, hwr]
        exact .inr ⟨r, k0, k1, rfl⟩) (by intro left; subst hS; simp) (left - (l.length : Int)) (by omega) (by omega)
    rcases key with e | ⟨r, k0, k1, e⟩
    · rw [e]; exact .inl rfl
    · rw [e]; exact .inr ⟨r, k0, by unfold lsz; omega, rfl⟩
theorem sz_obss {l : List Obs} (hl : CK.wf (.sl .obs) l) {left : Int} (h0 : 0 ≤ left) (h1 : left ≤ 1048576) : SzR (M_laws_szObservationS l left) left (lsz Obs.sz l) :=
  sz_list (S := S_laws_szObservationS_0) hl.1 (fun x hx left q0 q1 => sz_obs (hl.2 x hx) q0 q1) rfl h0 h1
theorem sz_stas {l : List Sta} (hl : CK.wf (.sl .sta) l) {left : Int} (h0 : 0 ≤ left) (h1 : left ≤ 1048576) : SzR (M_laws_szStationS l left) left (lsz Sta.sz l) :=
  sz_list (S := S_laws_szStationS_0) hl.1 (fun x hx left q0 q1 => sz_sta (hl.2 x hx) q0 q1) rfl h0 h1
theorem sz_rats {l : List Rt} (hl : CK.wf (.sl .rat) l) {left : Int} (h0 : 0 ≤ left) (h1 : left ≤ 1048576) : SzR (M_laws_szRatS l left) left (lsz Rt.sz l) :=
  sz_list (S := S_laws_szRatS_0) hl.1 (fun x hx left q0 q1 => sz_rat (hl.2 x hx) q0 q1) rfl h0 h1
theorem sz_net {n : Net} (hn : CK.wf (.sl .sta) n.stations) {left : Int} (h0 : 0 ≤ left) (h1 : left ≤ 1048576) : SzR (M_laws_szNetwork n left) left (lsz Sta.sz n.stations) := by
  unfold M_laws_szNetwork
  exact SzR.last (sz_stas hn h0 h1)
theorem sz_mx {m : Mx} (hm : CK.wf (.sl .rat) m.cells) {left : Int} (h0 : 0 ≤ left) (h1 : left ≤ 1048576) : SzR (M_laws_szMatrix m left) left (lsz Rt.sz m.cells) := by
  unfold M_laws_szMatrix
  exact SzR.last (sz_rats hm h0 h1)
theorem sz_book {b : Bk} (hs : CK.wf (.sl .sta) b.stations) (ho : CK.wf (.sl .obs) b.obs) {left : Int} (h0 : 0 ≤ left) (h1 : left ≤ 1048576) : SzR (M_laws_szBook b left) left (lsz Sta.sz b.stations + lsz Obs.sz b.obs) := by
  unfold M_laws_szBook
  exact SzR.bind (sz_net (n := ⟨b.plane, b.stations⟩) hs h0 h1) fun r' q0 q1 => SzR.last (sz_obss ho q0 (by omega))

/-! ### Copies -/
theorem guard_len {n : Nat} (h : n ≤ 1048576) : (((decide (0 ≤ (n : Int))) && (decide ((n : Int) ≤ (n : Int)))) && (decide ((n : Int) ≤ (maxNew : Int)))) = true := by
  have : (n : Int) ≤ (maxNew : Int) := by unfold maxNew; omega
  simp [this]
theorem succ_wrap {i n : Nat} (h : i < n) (hn : n ≤ 1048576) : IntKind.i64.wrap ((i : Int) + 1) = ((i + 1 : Nat) : Int) := by
  rw [wrap_i64 (by omega) (by omega)]; simp

theorem to_ints {a : List Int} (ha : a.length ≤ 1048576) : M_laws_toIntS a = some a := by
  unfold M_laws_toIntS L_laws_toIntS_0
  rw [guard_len ha, guardO_true, Option.bind_some, Int.toNat_natCast, copy_loop (z := (0 : Int)) (fun i out hi ho => ?_) (fun out => by simp [S_laws_toIntS_0])]
  · rfl
  · have hlt : decide ((i : Int) < (a.length : Int)) = true := by simpa using hi
    simp only [S_laws_toIntS_0, hlt, cond_true, idx_at hi, idx_at (show i < out.length by omega), Option.bind_some, succ_wrap hi ha, Int.toNat_natCast]
def Rt.fit (r : Rt) : Prop := r.mag.length ≤ 1048576 ∧ r.den.length ≤ 1048576
theorem to_rat {r : Rt} (h : r.fit) : M_laws_toRat r = some r := by
  unfold M_laws_toRat M_laws_toBigInt
  rw [to_ints h.1, to_ints h.2]; rfl
def Obs.fit (o : Obs) : Prop := o.value.fit ∧ o.variance.fit
def Sta.fit (s : Sta) : Prop := s.x.fit ∧ s.y.fit
theorem to_obs {o : Obs} (h : o.fit) : M_laws_toObservation o = some o := by
  unfold M_laws_toObservation
  rw [to_rat h.1, to_rat h.2]; rfl
theorem to_sta {s : Sta} (h : s.fit) : M_laws_toStation s = some s := by
  unfold M_laws_toStation
  rw [to_rat h.1, to_rat h.2]; rfl
def lfit {α : Type} (f : α → Prop) (l : List α) : Prop := l.length ≤ 1048576 ∧ ∀ x ∈ l, f x
theorem to_obss {l : List Obs} (h : lfit Obs.fit l) : M_laws_toObservationS l = some l := by
  unfold M_laws_toObservationS L_laws_toObservationS_0
  rw [guard_len h.1, guardO_true, Option.bind_some, Int.toNat_natCast, copy_loop (fun i out hi ho => ?_) (fun out => by simp [S_laws_toObservationS_0])]
  · rfl
  · have hlt : decide ((i : Int) < (l.length : Int)) = true := by simpa using hi
    simp only [S_laws_toObservationS_0, hlt, cond_true, idx_at hi, idx_at (show i < out.length by omega), Option.bind_some, succ_wrap hi h.1, Int.toNat_natCast, to_obs (h.2 _ (List.getElem_mem hi))]
theorem to_stas {l : List Sta} (h : lfit Sta.fit l) : M_laws_toStationS l = some l := by
  unfold M_laws_toStationS L_laws_toStationS_0
  rw [guard_len h.1, guardO_true, Option.bind_some, Int.toNat_natCast, copy_loop (fun i out hi ho => ?_) (fun out => by simp [S_laws_toStationS_0])]
  · rfl
  · have hlt : decide ((i : Int) < (l.length : Int)) = true := by simpa using hi
    simp only [S_laws_toStationS_0, hlt, cond_true, idx_at hi, idx_at (show i < out.length by omega), Option.bind_some, succ_wrap hi h.1, Int.toNat_natCast, to_sta (h.2 _ (List.getElem_mem hi))]
theorem to_rats {l : List Rt} (h : lfit Rt.fit l) : M_laws_toRatS l = some l := by
  unfold M_laws_toRatS L_laws_toRatS_0
  rw [guard_len h.1, guardO_true, Option.bind_some, Int.toNat_natCast, copy_loop (fun i out hi ho => ?_) (fun out => by simp [S_laws_toRatS_0])]
  · rfl
  · have hlt : decide ((i : Int) < (l.length : Int)) = true := by simpa using hi
    simp only [S_laws_toRatS_0, hlt, cond_true, idx_at hi, idx_at (show i < out.length by omega), Option.bind_some, succ_wrap hi h.1, Int.toNat_natCast, to_rat (h.2 _ (List.getElem_mem hi))]
theorem to_net {n : Net} (h : lfit Sta.fit n.stations) : M_laws_toNetwork n = some n := by
  unfold M_laws_toNetwork
  rw [to_stas h]; rfl
theorem to_mx {m : Mx} (h : lfit Rt.fit m.cells) : M_laws_toMatrix m = some m := by
  unfold M_laws_toMatrix
  rw [to_rats h]; rfl
theorem to_book {b : Bk} (hs : lfit Sta.fit b.stations) (ho : lfit Obs.fit b.obs) : M_laws_toBook b = some b := by
  unfold M_laws_toBook
  rw [to_net (n := ⟨b.plane, b.stations⟩) hs]
  simp only [Option.bind_some]
  rw [to_obss ho]; rfl

/-! ### What is measured fits -/
theorem le_sum {α : Type} {f : α → Nat} : ∀ {l : List α} {x : α}, x ∈ l → f x ≤ (l.map f).sum
  | y :: l, x, h => by
    rw [List.map_cons, List.sum_cons]
    rcases List.mem_cons.1 h with rfl | h
    · omega
    · have := le_sum (f := f) h; omega
theorem Rt.fit_of {r : Rt} (h : r.sz ≤ 1048576) : r.fit := by unfold Rt.sz at h; exact ⟨by omega, by omega⟩
theorem Obs.fit_of {o : Obs} (h : o.sz ≤ 1048576) : o.fit := by unfold Obs.sz at h; exact ⟨Rt.fit_of (by omega), Rt.fit_of (by omega)⟩
theorem Sta.fit_of {s : Sta} (h : s.sz ≤ 1048576) : s.fit := by unfold Sta.sz at h; exact ⟨Rt.fit_of (by omega), Rt.fit_of (by omega)⟩
theorem lfit_of {α : Type} {f : α → Nat} {p : α → Prop} (hp : ∀ x, f x ≤ 1048576 → p x) {l : List α} (h : lsz f l ≤ 1048576) : lfit p l := by
  unfold lsz at h
  exact ⟨by omega, fun x hx => hp x (by have := le_sum (f := f) hx; omega)⟩

/-! ### Comparisons -/
theorem i64_ne (a b : Nat) : ((a : Int) != (b : Int)) = !(a == b) := by
  rw [Bool.eq_iff_iff]; simp; omega
theorem eq_list {α : Type} {S : (List α × List α × Int × Unit) → Option ((List α × List α × Int × Unit) ⊕ ((Bool × Unit) ⊕ Unit))} {f : α → α → Option Bool} {a b : List α} (hlen : a.length ≤ 1048576)
    (hel : ∀ x ∈ a, ∀ y ∈ b, f x y = some (eqB x y))
    (hS : S = fun (a, b, i, _) => cond (decide (i < (a.length : Int))) ((idx a i).bind fun e => (idx b i).bind fun e1 => (f e e1).bind fun r => cond (!r) (some (.inr (.inl (false, ())))) (some (.inl (a, b, IntKind.i64.wrap (i + 1), ())))) (some (.inr (.inr ())))) :
    (cond ((a.length : Int) != (b.length : Int)) (some false) ((whileO S (a, b, 0, ())).bind fun r => match r with
      | .inl (t, _) => some t
      | .inr _ => some true)) = some (eqB a b) := by
  rw [i64_ne]
  by_cases hl : a.length = b.length
  · rw [eq_loop (S := S) hl (by
      intro i hi
      have hlt : decide ((i : Int) < (a.length : Int)) = true := by simpa using hi
      have hwr := succ_wrap hi hlen
      subst hS
      simp only [hlt, cond_true, idx_at hi, idx_at (show i < b.length by omega), Option.bind_some, hel _ (List.getElem_mem hi) _ (List.getElem_mem (show i < b.length by omega)), hwr]
      cases eqB a[i] (b[i]'(by omega)) <;> rfl) (by subst hS; simp)]
    have : (a.length == b.length) = true := by simpa using hl
    rw [this]
    cases eqB a b <;> rfl
  · have : (a.length == b.length) = false := by simpa using hl
    rw [this]
    have hne : eqB a b = false := by rw [eqB_false]; rintro rfl; exact hl rfl
    rw [hne]; rfl

theorem eqB_mk {α β : Type} {a b : α} {c d : β} (h : a = b ↔ c = d) : eqB a b = eqB c d := by rw [Bool.eq_iff_iff, eqB_iff, eqB_iff]; exact h
theorem beq_int (a b : Int) : (a == b) = eqB a b := by rw [Bool.eq_iff_iff, eqB_iff]; simp
theorem bne_int (a b : Int) : (a != b) = !eqB a b := by rw [← beq_int]; rfl
theorem beq_bool (a b : Bool) : (a == b) = eqB a b := by rw [Bool.eq_iff_iff, eqB_iff]; simp
theorem and_eqB {p q r : Prop} {a b c : Bool} (ha : a = true ↔ p) (hb : b = true ↔ q) (hc : c = true ↔ r) (h : r ↔ p ∧ q) : cond (!a) (some false) (some b) = some c := by
  cases a <;> cases b <;> cases c <;> simp_all

theorem eq_ints {a b : List Int} (ha : a.length ≤ 1048576) : M_laws_eqIntS a b = some (eqB a b) := by
  unfold M_laws_eqIntS L_laws_eqIntS_0
  exact eq_list (S := S_laws_eqIntS_0) (f := fun x y => some (eqB x y)) ha (fun _ _ _ _ => rfl) (by
    funext ⟨a, b, i, u⟩
    simp only [S_laws_eqIntS_0, bne_int, Option.bind_some])

theorem cond_ret (r : Bool) : cond (!r) (some false) (some true) = some r := by cases r <;> rfl
theorem chain {x : Option Bool} {a b : Bool} {k : Option Bool} (hx : x = some a) (hk : k = some b) : (x.bind fun r => cond (!r) (some false) k) = some (a && b) := by
  subst hx; subst hk; cases a <;> rfl
theorem chain1 {x : Option Bool} {a : Bool} (hx : x = some a) : (x.bind fun r => cond (!r) (some false) (some true)) = some a := by
  subst hx; cases a <;> rfl
theorem chain0 {a b : Bool} {k : Option Bool} (hk : k = some b) : cond (!a) (some false) k = some (a && b) := by
  subst hk; cases a <;> rfl

theorem eq_rat {r s : Rt} (h : r.fit) : M_laws_eqRat r s = some (eqB r s) := by
  unfold M_laws_eqRat M_laws_eqBigInt
  rw [chain (chain0 (chain1 (eq_ints h.1))) (chain1 (eq_ints h.2)), beq_bool]
  congr 1
  rw [Bool.eq_iff_iff, eqB_iff]
  simp only [Bool.and_eq_true, eqB_iff]
  cases r; cases s; simp [and_assoc]
theorem eq_obs {r s : Obs} (h : r.fit) : M_laws_eqObservation r s = some (eqB r s) := by
  unfold M_laws_eqObservation
  simp only [bne_int]
  rw [chain0 (chain0 (chain0 (chain (eq_rat h.1) (chain1 (eq_rat h.2)))))]
  congr 1
  rw [Bool.eq_iff_iff, eqB_iff]
  simp only [Bool.and_eq_true, eqB_iff]
  cases r; cases s; simp
theorem eq_sta {r s : Sta} (h : r.fit) : M_laws_eqStation r s = some (eqB r s) := by
  unfold M_laws_eqStation
  simp only [strEq_eq, beq_bool]
  rw [chain0 (chain (eq_rat h.1) (chain (eq_rat h.2) (chain0 rfl)))]
  congr 1
  rw [Bool.eq_iff_iff, eqB_iff]
  simp only [Bool.and_eq_true, eqB_iff]
  cases r; cases s; simp
theorem eq_obss {a b : List Obs} (h : lfit Obs.fit a) : M_laws_eqObservationS a b = some (eqB a b) :=
  eq_list (S := S_laws_eqObservationS_0) h.1 (fun x hx y _ => eq_obs (h.2 x hx)) rfl
theorem eq_stas {a b : List Sta} (h : lfit Sta.fit a) : M_laws_eqStationS a b = some (eqB a b) :=
  eq_list (S := S_laws_eqStationS_0) h.1 (fun x hx y _ => eq_sta (h.2 x hx)) rfl
theorem eq_rats {a b : List Rt} (h : lfit Rt.fit a) : M_laws_eqRatS a b = some (eqB a b) :=
  eq_list (S := S_laws_eqRatS_0) h.1 (fun x hx y _ => eq_rat (h.2 x hx)) rfl
theorem eq_net {a b : Net} (h : lfit Sta.fit a.stations) : M_laws_eqNetwork a b = some (eqB a b) := by
  unfold M_laws_eqNetwork
  rw [beq_bool, chain0 (chain1 (eq_stas h))]
  congr 1
  rw [Bool.eq_iff_iff, eqB_iff]
  simp only [Bool.and_eq_true, eqB_iff]
  cases a; cases b; simp
theorem eq_mx {a b : Mx} (h : lfit Rt.fit a.cells) : M_laws_eqMatrix a b = some (eqB a b) := by
  unfold M_laws_eqMatrix
  simp only [bne_int]
  rw [chain0 (chain0 (chain1 (eq_rats h)))]
  congr 1
  rw [Bool.eq_iff_iff, eqB_iff]
  simp only [Bool.and_eq_true, eqB_iff]
  cases a; cases b; simp
theorem eq_book {a b : Bk} (hs : lfit Sta.fit a.stations) (ho : lfit Obs.fit a.obs) : M_laws_eqBook a b = some (eqB a b) := by
  unfold M_laws_eqBook
  rw [chain (eq_net (a := ⟨a.plane, a.stations⟩) hs) (chain1 (eq_obss ho))]
  congr 1
  rw [Bool.eq_iff_iff, eqB_iff]
  simp only [Bool.and_eq_true, eqB_iff]
  cases a; cases b; simp [and_assoc]
end Go.Di
/-
  Own work, written by program (gen.py) out of the functions of the given program: what they compute, as plain Lean.
-/
namespace Go.Di
noncomputable def M_spec_EqualMatrices (a : Mx) (b : Mx) : Option Bool :=
  cond (a.rows == b.rows)
    (cond (a.cols == b.cols)
      ((M_spec_EqualVectors a.cells b.cells).bind fun r =>
      some r)
      (some false))
    (some false)

noncomputable def M_impl_EqualMatrices (a : Mx) (b : Mx) : Option Bool :=
  cond (a.rows == b.rows)
    (cond (a.cols == b.cols)
      ((M_impl_EqualVectors a.cells b.cells).bind fun r =>
      some r)
      (some false))
    (some false)

noncomputable def M_spec_l06Zero (rows : Int) (cols : Int) : Option Mx :=
  (M_spec_l05Zeros (IntKind.i64.wrap (rows * cols))).bind fun r =>
  some (⟨rows, cols, r⟩ : Mx)

noncomputable def S_spec_l06Identity_0 : Int × Int × Int × Int × Int × Int × (List Rt) × Unit → Option ((Int × Int × Int × Int × Int × Int × (List Rt) × Unit) ⊕ (Int × Int × Int × Int × (List Rt) × Unit)) := fun (n, i, v, v1, v2, v3, xs, _) =>
  cond (decide (i < n))
    ((M_spec_RatFromInt 1).bind fun r =>
    (idx xs (IntKind.i64.wrap ((IntKind.i64.wrap (i * n)) + i))).bind fun _ =>
    some (.inl (n, IntKind.i64.wrap (i + 1), v, v1, v2, v3, xs.set ((IntKind.i64.wrap ((IntKind.i64.wrap (i * n)) + i)).toNat) r, ())))
    (some (.inr (v, v1, v2, v3, xs, ())))
noncomputable def L_spec_l06Identity_0 (n : Int) (i : Int) (v : Int) (v1 : Int) (v2 : Int) (v3 : Int) (xs : List Rt) : Option (Int × Int × Int × Int × (List Rt) × Unit) := whileO S_spec_l06Identity_0 (n, i, v, v1, v2, v3, xs, ())
noncomputable def M_spec_l06Identity (n : Int) : Option Mx :=
  (M_spec_l06Zero n n).bind fun r =>
  (L_spec_l06Identity_0 n 0 0 0 r.rows r.cols r.cells).bind fun (v, v1, v2, v3, xs, _) =>
  some (⟨v2, v3, xs⟩ : Mx)

noncomputable def M_spec_IdentityMatrix (n : Int) : Option Mx :=
  (M_spec_l01In n 0 24).bind fun r =>
  cond (!r)
    (some (⟨0, 0, ([] : List Rt)⟩ : Mx))
    ((M_spec_l06Identity n).bind fun r1 =>
    some r1)

noncomputable def M_impl_isLength (n : Int) : Option Bool :=
  cond (decide (n ≥ 0))
    (some (decide (n ≤ 24)))
    (some false)

noncomputable def S_spec_MatrixOk_0 : (List Rt) × Int × Int × Unit → Option (((List Rt) × Int × Int × Unit) ⊕ ((Bool × Unit) ⊕ (Unit))) := fun (t, t1, t2, _) =>
  cond (decide (t2 < t1))
    ((idx t t2).bind fun e =>
    (M_spec_RatOk e).bind fun r =>
    cond (!r)
      (some (.inr (.inl (false, ()))))
      (some (.inl (t, t1, IntKind.i64.wrap (t2 + 1), ()))))
    (some (.inr (.inr (()))))
noncomputable def L_spec_MatrixOk_0 (t : List Rt) (t1 : Int) (t2 : Int) : Option ((Bool × Unit) ⊕ (Unit)) := whileO S_spec_MatrixOk_0 (t, t1, t2, ())
noncomputable def M_spec_MatrixOk (m : Mx) : Option Bool :=
  (M_spec_l01In m.rows 0 24).bind fun r =>
  cond (!r)
    (some false)
    ((M_spec_l01In m.cols 0 24).bind fun r1 =>
    cond (!r1)
      (some false)
      (cond ((m.cells.length : Int) != (IntKind.i64.wrap (m.rows * m.cols)))
        (some false)
        ((L_spec_MatrixOk_0 m.cells (m.cells.length : Int) 0).bind fun r2 =>
        match r2 with
        | .inl (t, _) =>
          some t
        | .inr _ =>
          some true)))

noncomputable def M_spec_l06At (m : Mx) (i : Int) (k : Int) : Option Rt :=
  (idx m.cells (IntKind.i64.wrap ((IntKind.i64.wrap (i * m.cols)) + k))).bind fun e =>
  some e

noncomputable def M_spec_CellAt (m : Mx) (i : Int) (k : Int) : Option Rt :=
  (M_spec_MatrixOk m).bind fun r =>
  cond (!r)
    (some (⟨false, ([] : List Int), ([] : List Int)⟩ : Rt))
    ((M_spec_l01In i 0 (IntKind.i64.wrap (m.rows - 1))).bind fun r1 =>
    cond (!r1)
      (some (⟨false, ([] : List Int), ([] : List Int)⟩ : Rt))
      ((M_spec_l01In k 0 (IntKind.i64.wrap (m.cols - 1))).bind fun r2 =>
      cond (!r2)
        (some (⟨false, ([] : List Int), ([] : List Int)⟩ : Rt))
        ((M_spec_l06At m i k).bind fun r3 =>
        (M_spec_l04Copy r3).bind fun r4 =>
        some r4)))

noncomputable def M_spec_l06Row (m : Mx) (i : Int) : Option (List Rt) :=
  (guardO (inside m.cells.length (IntKind.i64.wrap (i * m.cols), IntKind.i64.wrap ((IntKind.i64.wrap (i + 1)) * m.cols)))).bind fun _ =>
  some (cut m.cells ((IntKind.i64.wrap (i * m.cols)).toNat) ((IntKind.i64.wrap ((IntKind.i64.wrap (i + 1)) * m.cols)).toNat))

noncomputable def M_spec_RowOf (m : Mx) (i : Int) : Option (List Rt) :=
  (M_spec_MatrixOk m).bind fun r =>
  cond (!r)
    (some ([] : List Rt))
    ((M_spec_l01In i 0 (IntKind.i64.wrap (m.rows - 1))).bind fun r1 =>
    cond (!r1)
      (some ([] : List Rt))
      ((M_spec_l06Row m i).bind fun r2 =>
      (M_spec_l05Copy r2).bind fun r3 =>
      some r3))

noncomputable def M_impl_Matrix_at (m : Mx) (i : Int) (k : Int) : Option Rt :=
  (idx m.cells (IntKind.i64.wrap ((IntKind.i64.wrap (i * m.cols)) + k))).bind fun e =>
  some e

noncomputable def M_impl_Matrix_row (m : Mx) (i : Int) : Option (List Rt) :=
  (guardO (inside m.cells.length (IntKind.i64.wrap (i * m.cols), IntKind.i64.wrap ((IntKind.i64.wrap (i + 1)) * m.cols)))).bind fun _ =>
  some (cut m.cells ((IntKind.i64.wrap (i * m.cols)).toNat) ((IntKind.i64.wrap ((IntKind.i64.wrap (i + 1)) * m.cols)).toNat))

noncomputable def M_impl_givenMatrix (m : Mx) : Option (Mx × Bool) :=
  (M_impl_complete m.cells).bind fun r =>
  cond (!r)
    (some ((⟨0, 0, ([] : List Rt)⟩ : Mx), false))
    (some (m, true))

end Go.Di
/-
  Own work, written by program (gen.py) out of the functions of the given program: what they compute, as plain Lean.
-/
namespace Go.Di
noncomputable def S_spec_l13First_0 : (List Obs) × Int × Int × Unit → Option (((List Obs) × Int × Int × Unit) ⊕ ((Int × Unit) ⊕ (Int × Unit))) := fun (list, i, k, _) =>
  cond (decide (k < i))
    ((idx list k).bind fun e =>
    (idx list i).bind fun e1 =>
    cond (e.kind == e1.kind)
      ((idx list i).bind fun e2 =>
      cond (e2.kind != 8)
        ((idx list k).bind fun e3 =>
        (idx list i).bind fun e4 =>
        cond (e3.frm == e4.frm)
          ((idx list k).bind fun e5 =>
          (idx list i).bind fun e6 =>
          cond (e5.to == e6.to)
            (some (.inr (.inl (k, ()))))
            (some (.inl (list, i, IntKind.i64.wrap (k + 1), ()))))
          (some (.inl (list, i, IntKind.i64.wrap (k + 1), ()))))
        (some (.inl (list, i, IntKind.i64.wrap (k + 1), ()))))
      (some (.inl (list, i, IntKind.i64.wrap (k + 1), ()))))
    (some (.inr (.inr (i, ()))))
noncomputable def L_spec_l13First_0 (list : List Obs) (i : Int) (k : Int) : Option ((Int × Unit) ⊕ (Int × Unit)) := whileO S_spec_l13First_0 (list, i, k, ())
noncomputable def M_spec_l13First (list : List Obs) (i : Int) : Option Int :=
  (L_spec_l13First_0 list i 0).bind fun r =>
  match r with
  | .inl (t, _) =>
    some t
  | .inr (i1, _) =>
    some i1

noncomputable def S_spec_CountRepeats_0 : (List Obs) × Int × Int × Int × Unit → Option (((List Obs) × Int × Int × Int × Unit) ⊕ (Int × Unit)) := fun (list, n, t, t1, _) =>
  cond (decide (t1 < t))
    ((M_spec_l13First list t1).bind fun r =>
    cond (r != t1)
      (some (.inl (list, IntKind.i64.wrap (n + 1), t, IntKind.i64.wrap (t1 + 1), ())))
      (some (.inl (list, n, t, IntKind.i64.wrap (t1 + 1), ()))))
    (some (.inr (n, ())))
noncomputable def L_spec_CountRepeats_0 (list : List Obs) (n : Int) (t : Int) (t1 : Int) : Option (Int × Unit) := whileO S_spec_CountRepeats_0 (list, n, t, t1, ())
noncomputable def M_spec_CountRepeats (list : List Obs) : Option Int :=
  (L_spec_CountRepeats_0 list 0 (list.length : Int) 0).bind fun (n, _) =>
  some n

noncomputable def M_impl_alike (a : Obs) (b : Obs) : Option Bool :=
  cond (a.kind == b.kind)
    (cond (a.kind != 8)
      (cond (a.frm == b.frm)
        (some (a.to == b.to))
        (some false))
      (some false))
    (some false)

noncomputable def S_impl_isRepeat_0 : (List Obs) × Int × (List Obs) × Int × Int × Unit → Option (((List Obs) × Int × (List Obs) × Int × Int × Unit) ⊕ ((Bool × Unit) ⊕ (Unit))) := fun (list, i, t, t1, t2, _) =>
  cond (decide (t2 < t1))
    ((idx t t2).bind fun e =>
    (idx list i).bind fun e1 =>
    (M_impl_alike e e1).bind fun r =>
    cond r
      (some (.inr (.inl (true, ()))))
      (some (.inl (list, i, t, t1, IntKind.i64.wrap (t2 + 1), ()))))
    (some (.inr (.inr (()))))
noncomputable def L_impl_isRepeat_0 (list : List Obs) (i : Int) (t : List Obs) (t1 : Int) (t2 : Int) : Option ((Bool × Unit) ⊕ (Unit)) := whileO S_impl_isRepeat_0 (list, i, t, t1, t2, ())
noncomputable def M_impl_isRepeat (list : List Obs) (i : Int) : Option Bool :=
  (guardO (inside list.length (0, i))).bind fun _ =>
  (L_impl_isRepeat_0 list i (cut list 0 i.toNat) ((cut list 0 i.toNat).length : Int) 0).bind fun r =>
  match r with
  | .inl (t, _) =>
    some t
  | .inr _ =>
    some false

noncomputable def S_impl_CountRepeats_0 : (List Obs) × Int × Int × Int × Unit → Option (((List Obs) × Int × Int × Int × Unit) ⊕ (Int × Unit)) := fun (list, n, t, t1, _) =>
  cond (decide (t1 < t))
    ((M_impl_isRepeat list t1).bind fun r =>
    cond r
      (some (.inl (list, IntKind.i64.wrap (n + 1), t, IntKind.i64.wrap (t1 + 1), ())))
      (some (.inl (list, n, t, IntKind.i64.wrap (t1 + 1), ()))))
    (some (.inr (n, ())))
noncomputable def L_impl_CountRepeats_0 (list : List Obs) (n : Int) (t : Int) (t1 : Int) : Option (Int × Unit) := whileO S_impl_CountRepeats_0 (list, n, t, t1, ())
noncomputable def M_impl_CountRepeats (list : List Obs) : Option Int :=
  (L_impl_CountRepeats_0 list 0 (list.length : Int) 0).bind fun (n, _) =>
  some n

end Go.Di
/-
  Own work. Plain laws: comparisons, searches and counts of the program and of the reference.
-/
namespace Go.Di

theorem find_loop {σ ρ : Type} {S : σ → Option (σ ⊕ ρ)} (st : Nat → σ) (n : Nat) (r : Nat → Option ρ) (e : ρ)
    (hS : ∀ i, i < n → S (st i) = some (match r i with | some y => .inr y | none => .inl (st (i + 1)))) (hE : S (st n) = some (.inr e)) :
    whileO S (st 0) = some (((List.range n).findSome? r).getD e) := by
  have key : ∀ (m i : Nat), i + m = n → (∀ j, j < i → r j = none) → whileO S (st i) = some (((List.range n).findSome? r).getD e) := by
    intro m
    induction m with
    | zero =>
      intro i him hn
      have : i = n := by omega
      subst this
      rw [whileO_inr hE]
      have : (List.range i).findSome? r = none := by
        rw [List.findSome?_eq_none_iff]
        intro j hj; exact hn j (List.mem_range.1 hj)
      rw [this]; rfl
    | succ m ih =>
      intro i him hn
      have hi : i < n := by omega
      cases hr : r i with
      | some y =>
        rw [whileO_inr (r := y) (by rw [hS i hi, hr])]
        have : (List.range n).findSome? r = some y := by
          rw [List.findSome?_eq_some_iff]
          refine ⟨List.range i, i, (List.range' (i + 1) m), ?_, hr, fun j hj => hn j (List.mem_range.1 hj)⟩
          rw [List.range_eq_range', List.range_eq_range', ← him]
          rw [← List.range'_append_1 (s := 0) (m := i) (n := m + 1), List.range'_succ]; simp
        rw [this]; rfl
      | none =>
        rw [whileO_inl (y := st (i + 1)) (by rw [hS i hi, hr])]
        refine ih (i + 1) (by omega) fun j hj => ?_
        by_cases h : j = i
        · subst h; exact hr
        · exact hn j (by omega)
  exact key n 0 (by omega) fun j hj => by omega

theorem all_loop {σ : Type} {S : σ → Option (σ ⊕ ((Bool × Unit) ⊕ Unit))} (st : Nat → σ) (n : Nat) (p : Nat → Bool)
    (hS : ∀ i, i < n → S (st i) = some (cond (p i) (.inl (st (i + 1))) (.inr (.inl (false, ()))))) (hE : S (st n) = some (.inr (.inr ()))) :
    whileO S (st 0) = some (cond ((List.range n).all p) (.inr ()) (.inl (false, ()))) := by
  rw [find_loop st n (fun i => cond (p i) none (some (.inl (false, ())))) (.inr ()) (fun i hi => by rw [hS i hi]; cases p i <;> rfl) hE]
  congr 1
  cases h : (List.range n).all p with
  | true =>
    have : (List.range n).findSome? (fun i => cond (p i) none (some (Sum.inl (β := Unit) (false, ())))) = none := by
      rw [List.findSome?_eq_none_iff]
      intro j hj
      rw [List.all_eq_true] at h
      rw [h j hj]; rfl
    rw [this]; rfl
  | false =>
    cases hf : (List.range n).findSome? (fun i => cond (p i) none (some (Sum.inl (β := Unit) (false, ())))) with
    | none =>
      rw [List.findSome?_eq_none_iff] at hf
      have : (List.range n).all p = true := by
        rw [List.all_eq_true]; intro j hj
        have := hf j hj
        cases hp : p j with
        | true => rfl
        | false => rw [hp] at this; cases this
      rw [this] at h; cases h
    | some y =>
      obtain ⟨j, _, hj⟩ := List.exists_of_findSome?_eq_some hf
      cases hp : p j with
      | true => rw [hp] at hj; cases hj
      | false => rw [hp] at hj; cases hj; rfl

theorem all_eqB {α : Type} {a b : List α} (hl : a.length = b.length) : ((List.range a.length).all fun i => eqB a[i]? b[i]?) = eqB a b := by
  rw [Bool.eq_iff_iff, List.all_eq_true, eqB_iff]
  constructor
  · intro h
    apply List.ext_getElem?
    intro i
    by_cases hi : i < a.length
    · exact eqB_iff.1 (h i (List.mem_range.2 hi))
    · rw [List.getElem?_eq_none (by omega), List.getElem?_eq_none (by omega)]
  · rintro rfl i _; exact eqB_self _

theorem eqB_at {α : Type} {a b : List α} {i : Nat} (h1 : i < a.length) (h2 : i < b.length) : eqB a[i]? b[i]? = eqB a[i] b[i] := by
  rw [List.getElem?_eq_getElem h1, List.getElem?_eq_getElem h2]
  exact eqB_mk (by simp)

/-- A comparison of lists by a range loop, whatever else the state holds. -/
theorem same_list {α σ : Type} {S : σ → Option (σ ⊕ ((Bool × Unit) ⊕ Unit))} {a b : List α} (st : Nat → σ) (hl : a.length = b.length)
    (hS : ∀ (i : Nat) (h1 : i < a.length) (h2 : i < b.length), S (st i) = some (cond (eqB a[i] b[i]) (.inl (st (i + 1))) (.inr (.inl (false, ()))))) (hE : S (st a.length) = some (.inr (.inr ()))) :
    (whileO S (st 0)).bind (fun r => match r with
      | .inl (t, _) => some t
      | .inr _ => some true) = some (eqB a b) := by
  rw [all_loop st a.length (fun i => eqB a[i]? b[i]?) (fun i hi => by rw [hS i hi (by omega), eqB_at hi (by omega)]) hE, all_eqB hl]
  cases eqB a b <;> rfl

theorem len_case {α : Type} {a b : List α} {x : Option Bool} (h : a.length = b.length → x = some (eqB a b)) : cond ((a.length : Int) != (b.length : Int)) (some false) x = some (eqB a b) := by
  rw [i64_ne]
  by_cases hl : a.length = b.length
  · rw [h hl]
    have : (a.length == b.length) = true := by simpa using hl
    rw [this]; rfl
  · have : (a.length == b.length) = false := by simpa using hl
    rw [this]
    have hne : eqB a b = false := by rw [eqB_false]; rintro rfl; exact hl rfl
    rw [hne]; rfl

theorem dlt {i n : Nat} (h : i < n) : decide ((i : Int) < (n : Int)) = true := by simpa using h

theorem spec_list {a b : List Int} (ha : a.length ≤ 1048576) : M_spec_l04List a b = some (eqB a b) := by
  unfold M_spec_l04List L_spec_l04List_0
  refine len_case fun hl => ?_
  exact same_list (S := S_spec_l04List_0) (fun i => (a, b, (a.length : Int), (i : Int), ())) hl (fun i h1 h2 => by
    simp only [S_spec_l04List_0, dlt h1, cond_true, idx_at h1, idx_at h2, Option.bind_some, succ_wrap h1 ha, bne_int]
    cases eqB a[i] b[i] <;> rfl) (by simp [S_spec_l04List_0])
theorem impl_list {a b : List Int} (ha : a.length ≤ 1048576) : M_impl_sameInts a b = some (eqB a b) := by
  unfold M_impl_sameInts L_impl_sameInts_0
  refine len_case fun hl => ?_
  exact same_list (S := S_impl_sameInts_0) (fun i => (a, b, (a.length : Int), (i : Int), ())) hl (fun i h1 h2 => by
    simp only [S_impl_sameInts_0, dlt h1, cond_true, idx_at h1, idx_at h2, Option.bind_some, succ_wrap h1 ha, bne_int]
    cases eqB a[i] b[i] <;> rfl) (by simp [S_impl_sameInts_0])

theorem cond_and {a b : Bool} {k : Option Bool} (h : k = some b) : cond a k (some false) = some (a && b) := by subst h; cases a <;> rfl
theorem bind_and {x : Option Bool} {a b : Bool} {k : Option Bool} (hx : x = some a) (h : k = some b) : (x.bind fun r => cond r k (some false)) = some (a && b) := by subst hx; subst h; cases a <;> rfl
theorem bind_id {x : Option Bool} : (x.bind fun r => some r) = x := by cases x <;> rfl

theorem eqB_rt (r s : Rt) : eqB r s = (eqB r.neg s.neg && (eqB r.mag s.mag && eqB r.den s.den)) := by
  rw [Bool.eq_iff_iff, eqB_iff]
  simp only [Bool.and_eq_true, eqB_iff]
  cases r; cases s; simp
theorem spec_ratEq {r s : Rt} (h : r.fit) : M_spec_RatEqual r s = some (eqB r s) := by
  unfold M_spec_RatEqual
  rw [beq_bool, cond_and (bind_and (spec_list h.1) (by rw [bind_id]; exact spec_list h.2)), eqB_rt]
theorem impl_ratEq {r s : Rt} (h : r.fit) : M_impl_RatEqual r s = some (eqB r s) := by
  unfold M_impl_RatEqual
  rw [beq_bool, cond_and (bind_and (impl_list h.1) (by rw [bind_id]; exact impl_list h.2)), eqB_rt]

theorem spec_vecEq {a b : List Rt} (h : lfit Rt.fit a) : M_spec_EqualVectors a b = some (eqB a b) := by
  unfold M_spec_EqualVectors L_spec_EqualVectors_0
  refine len_case fun hl => ?_
  exact same_list (S := S_spec_EqualVectors_0) (fun i => (b, a, (a.length : Int), (i : Int), ())) hl (fun i h1 h2 => by
    simp only [S_spec_EqualVectors_0, dlt h1, cond_true, idx_at h1, idx_at h2, Option.bind_some, succ_wrap h1 h.1, spec_ratEq (h.2 _ (List.getElem_mem h1))]
    cases eqB a[i] b[i] <;> rfl) (by simp [S_spec_EqualVectors_0])
theorem impl_vecEq {a b : List Rt} (h : lfit Rt.fit a) : M_impl_EqualVectors a b = some (eqB a b) := by
  unfold M_impl_EqualVectors L_impl_EqualVectors_0
  refine len_case fun hl => ?_
  exact same_list (S := S_impl_EqualVectors_0) (fun i => (a, b, (a.length : Int), (i : Int), ())) hl (fun i h1 h2 => by
    simp only [S_impl_EqualVectors_0, dlt h1, cond_true, idx_at h1, idx_at h2, Option.bind_some, succ_wrap h1 h.1, impl_ratEq (h.2 _ (List.getElem_mem h1))]
    cases eqB a[i] b[i] <;> rfl) (by simp [S_impl_EqualVectors_0])

theorem eqB_mx (r s : Mx) : eqB r s = (eqB r.rows s.rows && (eqB r.cols s.cols && eqB r.cells s.cells)) := by
  rw [Bool.eq_iff_iff, eqB_iff]
  simp only [Bool.and_eq_true, eqB_iff]
  cases r; cases s; simp
theorem spec_mxEq {a b : Mx} (h : lfit Rt.fit a.cells) : M_spec_EqualMatrices a b = some (eqB a b) := by
  unfold M_spec_EqualMatrices
  rw [beq_int, beq_int, cond_and (cond_and (by rw [bind_id]; exact spec_vecEq h)), eqB_mx]
theorem impl_mxEq {a b : Mx} (h : lfit Rt.fit a.cells) : M_impl_EqualMatrices a b = some (eqB a b) := by
  unfold M_impl_EqualMatrices
  rw [beq_int, beq_int, cond_and (cond_and (by rw [bind_id]; exact impl_vecEq h)), eqB_mx]

theorem eqB_obs (a b : Obs) : eqB a b = (eqB a.kind b.kind && (eqB a.frm b.frm && (eqB a.to b.to && (eqB a.value b.value && eqB a.variance b.variance)))) := by
  rw [Bool.eq_iff_iff, eqB_iff]
  simp only [Bool.and_eq_true, eqB_iff]
  cases a; cases b; simp
theorem spec_obsEq {a b : Obs} (h : a.fit) : M_spec_l11Same a b = some (eqB a b) := by
  unfold M_spec_l11Same
  rw [beq_int, beq_int, beq_int, cond_and (cond_and (cond_and (bind_and (spec_ratEq h.1) (by rw [bind_id]; exact spec_ratEq h.2)))), eqB_obs]
theorem impl_obsEq {a b : Obs} (h : a.fit) : M_impl_sameObservation a b = some (eqB a b) := by
  unfold M_impl_sameObservation
  rw [beq_int, beq_int, beq_int, cond_and (cond_and (cond_and (bind_and (impl_ratEq h.1) (by rw [bind_id]; exact impl_ratEq h.2)))), eqB_obs]
theorem spec_obssEq {a b : List Obs} (h : lfit Obs.fit a) : M_spec_SameObservations a b = some (eqB a b) := by
  unfold M_spec_SameObservations L_spec_SameObservations_0
  refine len_case fun hl => ?_
  exact same_list (S := S_spec_SameObservations_0) (fun i => (b, a, (a.length : Int), (i : Int), ())) hl (fun i h1 h2 => by
    simp only [S_spec_SameObservations_0, dlt h1, cond_true, idx_at h1, idx_at h2, Option.bind_some, succ_wrap h1 h.1, spec_obsEq (h.2 _ (List.getElem_mem h1))]
    cases eqB a[i] b[i] <;> rfl) (by simp [S_spec_SameObservations_0])
theorem impl_obssEq {a b : List Obs} (h : lfit Obs.fit a) : M_impl_SameObservations a b = some (eqB a b) := by
  unfold M_impl_SameObservations L_impl_SameObservations_0
  refine len_case fun hl => ?_
  exact same_list (S := S_impl_SameObservations_0) (fun i => (a, b, (a.length : Int), (i : Int), ())) hl (fun i h1 h2 => by
    simp only [S_impl_SameObservations_0, dlt h1, cond_true, idx_at h1, idx_at h2, Option.bind_some, succ_wrap h1 h.1, impl_obsEq (h.2 _ (List.getElem_mem h1))]
    cases eqB a[i] b[i] <;> rfl) (by simp [S_impl_SameObservations_0])

theorem eqB_sta (a b : Sta) : eqB a b = (eqB a.name b.name && (eqB a.fixed b.fixed && (eqB a.x b.x && eqB a.y b.y))) := by
  rw [Bool.eq_iff_iff, eqB_iff]
  simp only [Bool.and_eq_true, eqB_iff]
  cases a; cases b; simp [and_comm, and_assoc, and_left_comm]
theorem eqB_net (a b : Net) : eqB a b = (eqB a.plane b.plane && eqB a.stations b.stations) := by
  rw [Bool.eq_iff_iff, eqB_iff]
  simp only [Bool.and_eq_true, eqB_iff]
  cases a; cases b; simp
theorem spec_netEq {a b : Net} (h : lfit Sta.fit a.stations) : M_spec_SameNetworks a b = some (eqB a b) := by
  unfold M_spec_SameNetworks L_spec_SameNetworks_0
  rw [beq_bool, chain0 (len_case fun hl => ?_), eqB_net]
  exact same_list (S := S_spec_SameNetworks_0) (fun i => (a.stations, (a.stations.length : Int), (i : Int), b.plane, b.stations, ())) hl (fun i h1 h2 => by
    have hf := h.2 _ (List.getElem_mem h1)
    simp only [S_spec_SameNetworks_0, dlt h1, cond_true, idx_at h1, idx_at h2, Option.bind_some, succ_wrap h1 h.1, spec_ratEq hf.1, spec_ratEq hf.2, strEq_eq, beq_bool, eqB_sta a.stations[i]]
    cases eqB a.stations[i].name b.stations[i].name <;> cases eqB a.stations[i].fixed b.stations[i].fixed <;> cases eqB a.stations[i].x b.stations[i].x <;> cases eqB a.stations[i].y b.stations[i].y <;> rfl) (by simp [S_spec_SameNetworks_0])
theorem impl_netEq {a b : Net} (h : lfit Sta.fit a.stations) : M_impl_SameNetworks a b = some (eqB a b) := by
  unfold M_impl_SameNetworks L_impl_SameNetworks_0
  rw [beq_bool, chain0 (len_case fun hl => ?_), eqB_net]
  exact same_list (S := S_impl_SameNetworks_0) (fun i => (a.stations, (a.stations.length : Int), (i : Int), b.plane, b.stations, ())) hl (fun i h1 h2 => by
    have hf := h.2 _ (List.getElem_mem h1)
    simp only [S_impl_SameNetworks_0, dlt h1, cond_true, idx_at h1, idx_at h2, Option.bind_some, succ_wrap h1 h.1, impl_ratEq hf.1, impl_ratEq hf.2, strEq_eq, beq_bool, eqB_sta a.stations[i]]
    cases eqB a.stations[i].name b.stations[i].name <;> cases eqB a.stations[i].fixed b.stations[i].fixed <;> cases eqB a.stations[i].x b.stations[i].x <;> cases eqB a.stations[i].y b.stations[i].y <;> rfl) (by simp [S_impl_SameNetworks_0])

/-! ### Searches -/
theorem findStation_eq : M_spec_FindStation = M_impl_FindStation := rfl
noncomputable def findSta (l : List Sta) (name : ByteArray) : Int := ((List.range l.length).findSome? fun i => match l[i]? with
  | some e => cond (eqB e.name name) (some (i : Int)) none
  | none => none).getD (-1)
theorem impl_find {n : Net} {name : ByteArray} (h : n.stations.length ≤ 1048576) : M_impl_FindStation n name = some (findSta n.stations name) := by
  unfold M_impl_FindStation L_impl_FindStation_0
  have key := find_loop (S := S_impl_FindStation_0) (fun i => (name, n.stations, (n.stations.length : Int), (i : Int), ())) n.stations.length (fun i => match n.stations[i]? with
    | some e => cond (eqB e.name name) (some (Sum.inl ((i : Int), ()))) none
    | none => none) (.inr ()) (fun i hi => by
      simp only [S_impl_FindStation_0, dlt hi, cond_true, idx_at hi, Option.bind_some, succ_wrap hi h, strEq_eq, List.getElem?_eq_getElem hi]
      cases eqB n.stations[i].name name <;> rfl) (by simp [S_impl_FindStation_0])
  rw [show ((0 : Int)) = ((0 : Nat) : Int) from rfl, key]
  have : ∀ l : List Nat, (match (l.findSome? (fun i => match n.stations[i]? with
      | some e => cond (eqB e.name name) (some (Sum.inl (β := Unit) ((i : Int), ()))) none
      | none => none)).getD (.inr ()) with
    | .inl (t, _) => some t
    | .inr _ => some (-1)) = some ((l.findSome? fun i => match n.stations[i]? with
      | some e => cond (eqB e.name name) (some (i : Int)) none
      | none => none).getD (-1)) := by
    intro l
    induction l with
    | nil => rfl
    | cons j l ih =>
      simp only [List.findSome?_cons]
      cases n.stations[j]? with
      | none => exact ih
      | some e =>
        cases hb : eqB e.name name with
        | true => simp [hb]
        | false => simpa [hb] using ih
  exact this _
end Go.Di
/-
  Own work, written by program (gen.py) out of the functions of the given program: what they compute, as plain Lean.
-/
namespace Go.Di
noncomputable def M_laws_FnExactIsBetween (aKind : Int) : Option Bool :=
  (M_spec_IsBetween aKind).bind fun r =>
  (M_impl_IsBetween aKind).bind fun r1 =>
  cond (!(r1 == r))
    (some false)
    (some true)

end Go.Di
/-
  Own work, written by program (gen.py) out of the functions of the given program: what they compute, as plain Lean.
-/
namespace Go.Di
noncomputable def M_laws_FnExactKindName (aKind : Int) : Option Bool :=
  (M_spec_KindName aKind).bind fun r =>
  (M_impl_KindName aKind).bind fun r1 =>
  cond (!(strEq r1 r))
    (some false)
    (some true)

end Go.Di
/-
  Own work, written by program (gen.py) out of the functions of the given program: what they compute, as plain Lean.
-/
namespace Go.Di
noncomputable def M_laws_FnExactCountRepeats (aList : List Obs) : Option Bool :=
  (M_laws_szObservationS aList 1048576).bind fun r =>
  cond (decide (r < 0))
    (some true)
    ((M_laws_toObservationS aList).bind fun r1 =>
    (M_spec_CountRepeats r1).bind fun r2 =>
    (M_laws_toObservationS aList).bind fun r3 =>
    (M_impl_CountRepeats r3).bind fun r4 =>
    cond (r4 != r2)
      (some false)
      ((M_laws_toObservationS aList).bind fun r5 =>
      (M_laws_eqObservationS r3 r5).bind fun r6 =>
      cond (!r6)
        (some false)
        (some true)))

end Go.Di
/-
  Own work, written by program (gen.py) out of the functions of the given program: what they compute, as plain Lean.
-/
namespace Go.Di
noncomputable def M_laws_FnExactFindStation (aN : Net) (aName : ByteArray) : Option Bool :=
  cond (decide ((aName.size : Int) > 1048576))
    (some true)
    ((M_laws_szNetwork aN 1048576).bind fun r =>
    cond (decide (r < 0))
      (some true)
      ((M_laws_toNetwork aN).bind fun r1 =>
      (M_spec_FindStation r1 aName).bind fun r2 =>
      (M_laws_toNetwork aN).bind fun r3 =>
      (M_impl_FindStation r3 aName).bind fun r4 =>
      cond (r4 != r2)
        (some false)
        ((M_laws_toNetwork aN).bind fun r5 =>
        (M_laws_eqNetwork r3 r5).bind fun r6 =>
        cond (!r6)
          (some false)
          (some true))))

end Go.Di
/-
  Own work, written by program (gen.py) out of the functions of the given program: what they compute, as plain Lean.
-/
namespace Go.Di
noncomputable def M_laws_FnExactEqualMatrices (aA : Mx) (aB : Mx) : Option Bool :=
  (M_laws_szMatrix aA 1048576).bind fun r =>
  cond (decide (r < 0))
    (some true)
    ((M_laws_szMatrix aB r).bind fun r1 =>
    cond (decide (r1 < 0))
      (some true)
      ((M_laws_toMatrix aA).bind fun r2 =>
      (M_laws_toMatrix aB).bind fun r3 =>
      (M_spec_EqualMatrices r2 r3).bind fun r4 =>
      (M_laws_toMatrix aA).bind fun r5 =>
      (M_laws_toMatrix aB).bind fun r6 =>
      (M_impl_EqualMatrices r5 r6).bind fun r7 =>
      cond (!(r7 == r4))
        (some false)
        ((M_laws_toMatrix aA).bind fun r8 =>
        (M_laws_eqMatrix r5 r8).bind fun r9 =>
        cond (!r9)
          (some false)
          ((M_laws_toMatrix aB).bind fun r10 =>
          (M_laws_eqMatrix r6 r10).bind fun r11 =>
          cond (!r11)
            (some false)
            (some true)))))

end Go.Di
/-
  Own work, written by program (gen.py) out of the functions of the given program: what they compute, as plain Lean.
-/
namespace Go.Di
noncomputable def M_laws_FnExactSameObservations (aA : List Obs) (aB : List Obs) : Option Bool :=
  (M_laws_szObservationS aA 1048576).bind fun r =>
  cond (decide (r < 0))
    (some true)
    ((M_laws_szObservationS aB r).bind fun r1 =>
    cond (decide (r1 < 0))
      (some true)
      ((M_laws_toObservationS aA).bind fun r2 =>
      (M_laws_toObservationS aB).bind fun r3 =>
      (M_spec_SameObservations r2 r3).bind fun r4 =>
      (M_laws_toObservationS aA).bind fun r5 =>
      (M_laws_toObservationS aB).bind fun r6 =>
      (M_impl_SameObservations r5 r6).bind fun r7 =>
      cond (!(r7 == r4))
        (some false)
        ((M_laws_toObservationS aA).bind fun r8 =>
        (M_laws_eqObservationS r5 r8).bind fun r9 =>
        cond (!r9)
          (some false)
          ((M_laws_toObservationS aB).bind fun r10 =>
          (M_laws_eqObservationS r6 r10).bind fun r11 =>
          cond (!r11)
            (some false)
            (some true)))))

end Go.Di
/-
  Own work, written by program (gen.py) out of the functions of the given program: what they compute, as plain Lean.
-/
namespace Go.Di
noncomputable def M_laws_FnExactSameNetworks (aA : Net) (aB : Net) : Option Bool :=
  (M_laws_szNetwork aA 1048576).bind fun r =>
  cond (decide (r < 0))
    (some true)
    ((M_laws_szNetwork aB r).bind fun r1 =>
    cond (decide (r1 < 0))
      (some true)
      ((M_laws_toNetwork aA).bind fun r2 =>
      (M_laws_toNetwork aB).bind fun r3 =>
      (M_spec_SameNetworks r2 r3).bind fun r4 =>
      (M_laws_toNetwork aA).bind fun r5 =>
      (M_laws_toNetwork aB).bind fun r6 =>
      (M_impl_SameNetworks r5 r6).bind fun r7 =>
      cond (!(r7 == r4))
        (some false)
        ((M_laws_toNetwork aA).bind fun r8 =>
        (M_laws_eqNetwork r5 r8).bind fun r9 =>
        cond (!r9)
          (some false)
          ((M_laws_toNetwork aB).bind fun r10 =>
          (M_laws_eqNetwork r6 r10).bind fun r11 =>
          cond (!r11)
            (some false)
            (some true)))))

end Go.Di
/-
  Own work. Given statements on comparisons, searches and counts, as plain laws.
-/
namespace Go.Di

theorem law_IsBetween (n : Int) : M_laws_FnExactIsBetween n = some true := by
  unfold M_laws_FnExactIsBetween M_spec_IsBetween M_impl_IsBetween M_spec_l01In
  cases h1 : (n == 2) <;> cases h2 : decide (n ≥ 5) <;> cases h3 : decide (n ≤ 8) <;> rfl

/-- A measure of a statement's argument: too great, or what fits goes on. -/
theorem sz_case {x : Option Int} {left : Int} {n : Nat} {k : Int → Option Bool} (h : SzR x left n) (hk : ∀ r : Int, 0 ≤ r → r + n = left → k r = some true) :
    (x.bind fun r => cond (decide (r < 0)) (some true) (k r)) = some true := by
  rcases h with rfl | ⟨r, h0, h1, rfl⟩
  · rfl
  · have : decide (r < 0) = false := by simpa using h0
    simp only [Option.bind_some, this, cond_false, hk r h0 h1]

theorem law_EqualMatrices (a b : Mx) (ha : CK.wf (.sl .rat) a.cells) (hb : CK.wf (.sl .rat) b.cells) : M_laws_FnExactEqualMatrices a b = some true := by
  unfold M_laws_FnExactEqualMatrices
  refine sz_case (sz_mx ha (by omega) (by omega)) fun r h0 h1 => sz_case (sz_mx hb h0 (by omega)) fun r' k0 k1 => ?_
  have fa : lfit Rt.fit a.cells := lfit_of (f := Rt.sz) (fun x => Rt.fit_of) (by omega)
  have fb : lfit Rt.fit b.cells := lfit_of (f := Rt.sz) (fun x => Rt.fit_of) (by omega)
  simp [to_mx fa, to_mx fb, spec_mxEq fa, impl_mxEq fa, eq_mx fa, eq_mx fb]
theorem law_SameObservations (a b : List Obs) (ha : CK.wf (.sl .obs) a) (hb : CK.wf (.sl .obs) b) : M_laws_FnExactSameObservations a b = some true := by
  unfold M_laws_FnExactSameObservations
  refine sz_case (sz_obss ha (by omega) (by omega)) fun r h0 h1 => sz_case (sz_obss hb h0 (by omega)) fun r' k0 k1 => ?_
  have fa : lfit Obs.fit a := lfit_of (f := Obs.sz) (fun x => Obs.fit_of) (by omega)
  have fb : lfit Obs.fit b := lfit_of (f := Obs.sz) (fun x => Obs.fit_of) (by omega)
  simp [to_obss fa, to_obss fb, spec_obssEq fa, impl_obssEq fa, eq_obss fa, eq_obss fb]
theorem law_SameNetworks (a b : Net) (ha : CK.wf (.sl .sta) a.stations) (hb : CK.wf (.sl .sta) b.stations) : M_laws_FnExactSameNetworks a b = some true := by
  unfold M_laws_FnExactSameNetworks
  refine sz_case (sz_net ha (by omega) (by omega)) fun r h0 h1 => sz_case (sz_net hb h0 (by omega)) fun r' k0 k1 => ?_
  have fa : lfit Sta.fit a.stations := lfit_of (f := Sta.sz) (fun x => Sta.fit_of) (by omega)
  have fb : lfit Sta.fit b.stations := lfit_of (f := Sta.sz) (fun x => Sta.fit_of) (by omega)
  simp [to_net fa, to_net fb, spec_netEq fa, impl_netEq fa, eq_net fa, eq_net fb]
theorem law_SameBooks (a b : Bk) (ha : CK.wf (.sl .sta) a.stations) (ha' : CK.wf (.sl .obs) a.obs) (hb : CK.wf (.sl .sta) b.stations) (hb' : CK.wf (.sl .obs) b.obs) : M_laws_FnExactSameBooks a b = some true := by
  unfold M_laws_FnExactSameBooks
  refine sz_case (sz_book ha ha' (by omega) (by omega)) fun r h0 h1 => sz_case (sz_book hb hb' h0 (by omega)) fun r' k0 k1 => ?_
  have fa : lfit Sta.fit a.stations := lfit_of (f := Sta.sz) (fun x => Sta.fit_of) (by omega)
  have fb : lfit Sta.fit b.stations := lfit_of (f := Sta.sz) (fun x => Sta.fit_of) (by omega)
  have fa' : lfit Obs.fit a.obs := lfit_of (f := Obs.sz) (fun x => Obs.fit_of) (by omega)
  have fb' : lfit Obs.fit b.obs := lfit_of (f := Obs.sz) (fun x => Obs.fit_of) (by omega)
  simp [to_book fa fa', to_book fb fb', M_spec_SameBooks, M_impl_SameBooks, spec_netEq (a := ⟨a.plane, a.stations⟩) fa, impl_netEq (a := ⟨a.plane, a.stations⟩) fa, spec_obssEq fa', impl_obssEq fa', eq_book fa fa', eq_book fb fb']
  cases eqB (⟨a.plane, a.stations⟩ : Net) ⟨b.plane, b.stations⟩ <;> simp
theorem law_FindStation (n : Net) (name : ByteArray) (hn : CK.wf (.sl .sta) n.stations) : M_laws_FnExactFindStation n name = some true := by
  unfold M_laws_FnExactFindStation
  cases hc : decide ((name.size : Int) > 1048576) with
  | true => rfl
  | false =>
    simp only [cond_false]
    refine sz_case (sz_net hn (by omega) (by omega)) fun r h0 h1 => ?_
    have fn : lfit Sta.fit n.stations := lfit_of (f := Sta.sz) (fun x => Sta.fit_of) (by omega)
    simp [to_net fn, findStation_eq, impl_find fn.1, eq_net fn]
theorem law_KindName (kind : Int) : M_laws_FnExactKindName kind = some true := by
  have key : M_spec_KindName kind = M_impl_KindName kind ∧ ∃ v, M_impl_KindName kind = some v := by
    by_cases h : 1 ≤ kind ∧ kind ≤ 8
    · have : kind = 1 ∨ kind = 2 ∨ kind = 3 ∨ kind = 4 ∨ kind = 5 ∨ kind = 6 ∨ kind = 7 ∨ kind = 8 := by omega
      rcases this with rfl | rfl | rfl | rfl | rfl | rfl | rfl | rfl <;> exact ⟨rfl, _, rfl⟩
    · unfold M_spec_KindName M_impl_KindName M_spec_l01In
      by_cases h1 : kind < 1
      · have e1 : decide (kind ≥ 1) = false := by simpa using h1
        have e2 : decide (kind < 1) = true := by simpa using h1
        rw [e1, e2]; exact ⟨rfl, _, rfl⟩
      · have e1 : decide (kind ≥ 1) = true := by simp; omega
        have e2 : decide (kind < 1) = false := by simp; omega
        have e3 : decide (kind ≤ 8) = false := by simp; omega
        have e4 : decide (kind > 8) = true := by simp; omega
        rw [e1, e2, e3, e4]; exact ⟨rfl, _, rfl⟩
  obtain ⟨h1, v, h2⟩ := key
  unfold M_laws_FnExactKindName
  simp [h1, h2]

/-! ### Repeats -/
def alikeB (a b : Obs) : Bool := a.kind == b.kind && (a.kind != 8 && (a.frm == b.frm && a.to == b.to))
theorem impl_alike (a b : Obs) : M_impl_alike a b = some (alikeB a b) := by
  unfold M_impl_alike alikeB
  rw [cond_and (cond_and (cond_and rfl))]
def repP (l : List Obs) (i k : Nat) : Bool := match l[k]?, l[i]? with
  | some a, some b => alikeB a b
  | _, _ => false
theorem repP_at {l : List Obs} {i k : Nat} (hi : i < l.length) (hk : k < l.length) : repP l i k = alikeB l[k] l[i] := by simp [repP, hi, hk]
theorem spec_first {l : List Obs} {i : Nat} (hi : i < l.length) (hl : l.length ≤ 1048576) :
    M_spec_l13First l i = some (((List.range i).findSome? fun k => cond (repP l i k) (some (k : Int)) none).getD (i : Int)) := by
  unfold M_spec_l13First L_spec_l13First_0
  have key := find_loop (S := S_spec_l13First_0) (fun k => (l, (i : Int), (k : Int), ())) i (fun k => cond (repP l i k) (some (Sum.inl ((k : Int), ()))) none) (.inr ((i : Int), ())) (fun k hk => by
    have hk' : k < l.length := by omega
    simp only [S_spec_l13First_0, dlt hk, cond_true, idx_at hk', idx_at hi, Option.bind_some, succ_wrap hk' hl, repP_at hi hk', alikeB]
    by_cases h1 : (l[k]).kind = (l[i]).kind
    · rw [h1]
      cases (l[i].kind != 8) <;> cases (l[k].frm == l[i].frm) <;> cases (l[k].to == l[i].to) <;> simp
    · have : ((l[k]).kind == (l[i]).kind) = false := by simpa using h1
      simp [this]) (by simp [S_spec_l13First_0])
  rw [show ((0 : Int)) = ((0 : Nat) : Int) from rfl, key]
  have : ∀ m : List Nat, (match (m.findSome? (fun k => cond (repP l i k) (some (Sum.inl (β := Int × Unit) ((k : Int), ()))) none)).getD (.inr ((i : Int), ())) with
    | .inl (t, _) => some t
    | .inr (i1, _) => some i1) = some ((m.findSome? fun k => cond (repP l i k) (some (k : Int)) none).getD (i : Int)) := by
    intro m
    induction m with
    | nil => rfl
    | cons j m ih =>
      simp only [List.findSome?_cons]
      cases hb : repP l i j with
      | true => simp
      | false => simpa using ih
  exact this _
theorem impl_rep {l : List Obs} {i : Nat} (hi : i < l.length) (hl : l.length ≤ 1048576) : M_impl_isRepeat l i = some ((List.range i).any (repP l i)) := by
  unfold M_impl_isRepeat L_impl_isRepeat_0
  have hin : inside l.length (0, (i : Int)) = true := by simp [inside]; omega
  have hcut : cut l 0 ((i : Int)).toNat = l.take i := by simp [cut]
  have hlen : (l.take i).length = i := by simp; omega
  rw [hin, hcut, hlen]
  simp only [guardO_true, Option.bind_some]
  have key := find_loop (S := S_impl_isRepeat_0) (fun k => (l, (i : Int), l.take i, (i : Int), (k : Int), ())) i (fun k => cond (repP l i k) (some (Sum.inl (true, ()))) none) (.inr ()) (fun k hk => by
    have hk' : k < l.length := by omega
    have hk2 : k < (l.take i).length := by omega
    simp only [S_impl_isRepeat_0, dlt hk, cond_true, idx_at hk2, idx_at hi, Option.bind_some, succ_wrap hk' hl, repP_at hi hk', impl_alike]
    simp only [List.getElem_take]
    cases alikeB l[k] l[i] <;> rfl) (by simp [S_impl_isRepeat_0])
  rw [show ((0 : Int)) = ((0 : Nat) : Int) from rfl, key]
  have : ∀ m : List Nat, (match (m.findSome? (fun k => cond (repP l i k) (some (Sum.inl (β := Unit) (true, ()))) none)).getD (.inr ()) with
    | .inl (t, _) => some t
    | .inr _ => some false) = some (m.any (repP l i)) := by
    intro m
    induction m with
    | nil => rfl
    | cons j m ih =>
      simp only [List.findSome?_cons, List.any_cons]
      cases hb : repP l i j with
      | true => simp
      | false => simpa using ih
  exact this _
theorem first_ne (l : List Obs) (i : Nat) : (((List.range i).findSome? fun k => cond (repP l i k) (some (k : Int)) none).getD (i : Int) != (i : Int)) = (List.range i).any (repP l i) := by
  cases h : (List.range i).findSome? fun k => cond (repP l i k) (some (k : Int)) none with
  | none =>
    rw [List.findSome?_eq_none_iff] at h
    have : (List.range i).any (repP l i) = false := by
      rw [List.any_eq_false]
      intro j hj
      have := h j hj
      cases hb : repP l i j with
      | true => rw [hb] at this; cases this
      | false => simp
    rw [this]; simp
  | some y =>
    obtain ⟨j, hj, hy⟩ := List.exists_of_findSome?_eq_some h
    cases hb : repP l i j with
    | false => rw [hb] at hy; cases hy
    | true =>
      rw [hb] at hy; cases hy
      have h1 : (List.range i).any (repP l i) = true := List.any_eq_true.2 ⟨j, hj, hb⟩
      rw [h1]
      have := List.mem_range.1 hj
      simp; omega
def countP (p : Nat → Bool) : Nat → Nat
  | 0 => 0
  | n + 1 => countP p n + cond (p n) 1 0
theorem countP_le (p : Nat → Bool) : ∀ n, countP p n ≤ n
  | 0 => Nat.le_refl _
  | n + 1 => by
    have := countP_le p n
    unfold countP
    cases p n <;> simp <;> omega
theorem count_step (p : Nat → Bool) (i : Nat) : ((countP p (i + 1) : Nat) : Int) = cond (p i) ((countP p i : Int) + 1) (countP p i : Int) := by
  show ((countP p i + cond (p i) 1 0 : Nat) : Int) = _
  cases p i <;> simp

theorem spec_count {l : List Obs} (hl : l.length ≤ 1048576) : M_spec_CountRepeats l = some ((countP (fun i => (List.range i).any (repP l i)) l.length : Nat) : Int) := by
  unfold M_spec_CountRepeats L_spec_CountRepeats_0
  have key := whileO_upto S_spec_CountRepeats_0 (fun i => (l, ((countP (fun i => (List.range i).any (repP l i)) i : Nat) : Int), (l.length : Int), (i : Int), ())) l.length (((countP (fun i => (List.range i).any (repP l i)) l.length : Nat) : Int), ()) (fun i hi => by
    have hc := countP_le (fun i => (List.range i).any (repP l i)) i
    have hw : IntKind.i64.wrap (((countP (fun i => (List.range i).any (repP l i)) i : Nat) : Int) + 1) = ((countP (fun i => (List.range i).any (repP l i)) i : Nat) : Int) + 1 := wrap_i64 (by omega) (by omega)
    simp only [S_spec_CountRepeats_0, dlt hi, cond_true, spec_first hi hl, Option.bind_some, first_ne, succ_wrap hi hl, hw, count_step]
    cases (List.range i).any (repP l i) <;> rfl) (by simp [S_spec_CountRepeats_0])
  exact (congrArg (fun x => x.bind fun (n, _) => some n) key)
theorem impl_count {l : List Obs} (hl : l.length ≤ 1048576) : M_impl_CountRepeats l = some ((countP (fun i => (List.range i).any (repP l i)) l.length : Nat) : Int) := by
  unfold M_impl_CountRepeats L_impl_CountRepeats_0
  have key := whileO_upto S_impl_CountRepeats_0 (fun i => (l, ((countP (fun i => (List.range i).any (repP l i)) i : Nat) : Int), (l.length : Int), (i : Int), ())) l.length (((countP (fun i => (List.range i).any (repP l i)) l.length : Nat) : Int), ()) (fun i hi => by
    have hc := countP_le (fun i => (List.range i).any (repP l i)) i
    have hw : IntKind.i64.wrap (((countP (fun i => (List.range i).any (repP l i)) i : Nat) : Int) + 1) = ((countP (fun i => (List.range i).any (repP l i)) i : Nat) : Int) + 1 := wrap_i64 (by omega) (by omega)
    simp only [S_impl_CountRepeats_0, dlt hi, cond_true, impl_rep hi hl, Option.bind_some, succ_wrap hi hl, hw, count_step]
    cases (List.range i).any (repP l i) <;> rfl) (by simp [S_impl_CountRepeats_0])
  exact (congrArg (fun x => x.bind fun (n, _) => some n) key)
theorem law_CountRepeats (l : List Obs) (h : CK.wf (.sl .obs) l) : M_laws_FnExactCountRepeats l = some true := by
  unfold M_laws_FnExactCountRepeats
  refine sz_case (sz_obss h (by omega) (by omega)) fun r h0 h1 => ?_
  have fl : lfit Obs.fit l := lfit_of (f := Obs.sz) (fun x => Obs.fit_of) (by omega)
  simp [to_obss fl, spec_count fl.1, impl_count fl.1, eq_obss fl]
end Go.Di
