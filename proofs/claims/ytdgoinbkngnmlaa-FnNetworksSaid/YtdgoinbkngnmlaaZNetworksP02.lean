/-
  Own work: part 9 of the texts that the proof of the given statement leans on.
-/
import Derived.Test.YtdgoinbkngnmlaaZNetworksP01
namespace Go.Di
end Go.Di
namespace Go.Di
end Go.Di
namespace Go.Di
/-! ### Half tangents -/
/-! ### Lists of observations -/
end Go.Di
namespace Go.Di
def Cur.ok (c : Cur) : Prop := 0 ≤ c.i ∧ c.i ≤ (c.b.length : Int) ∧ c.b.length ≤ 1048576
theorem and255 (x : BitVec 64) : 0 ≤ ((x &&& BitVec.ofInt 64 255).toNat : Int) ∧ ((x &&& BitVec.ofInt 64 255).toNat : Int) ≤ 255 := by
  refine ⟨by omega, ?_⟩
  have h : (x &&& BitVec.ofInt 64 255).toNat ≤ 255 := by
    rw [BitVec.toNat_and]
    have : (BitVec.ofInt 64 255).toNat = 255 := by decide
    rw [this]; exact Nat.and_le_right
  omega
theorem wrap255 (x : BitVec 64) : 0 ≤ IntKind.i64.wrap ((x &&& BitVec.ofInt 64 255).toNat : Int) ∧ IntKind.i64.wrap ((x &&& BitVec.ofInt 64 255).toNat : Int) ≤ 255 := by
  have h := and255 x
  rw [wrap_i64 (by omega) (by omega)]; exact h
theorem cur_byte {c : Cur} (h : c.ok) : ∃ v c', M_spec_l01Byte c = some (v, c') ∧ 0 ≤ v ∧ v ≤ 255 ∧ c'.ok := by
  unfold M_spec_l01Byte
  cases hc : decide (c.i < (c.b.length : Int)) with
  | true =>
    have hl := of_decide_eq_true hc
    rw [cond_true, idx_int h.1 hl, Option.bind_some]
    refine ⟨_, _, rfl, (wrap255 _).1, (wrap255 _).2, ?_⟩
    have h1 := h.1
    have h2 := h.2.2
    show 0 ≤ IntKind.i64.wrap (c.i + 1) ∧ IntKind.i64.wrap (c.i + 1) ≤ _ ∧ _
    rw [wrap_i64 (by omega) (by omega)]
    exact ⟨by omega, by show c.i + 1 ≤ (c.b.length : Int); omega, h2⟩
  | false =>
    rw [cond_false]
    exact ⟨_, _, rfl, (wrap255 _).1, (wrap255 _).2, h⟩
theorem tmod_lt {a n : Int} (h0 : 0 ≤ a) (hn : 0 < n) : 0 ≤ a.tmod n ∧ a.tmod n < n := ⟨Int.tmod_nonneg _ h0, Int.tmod_lt_of_pos _ hn⟩
theorem cur_below {c : Cur} (h : c.ok) {n : Int} (hn : 0 < n) : ∃ v c', M_spec_l01Below c n = some (v, c') ∧ 0 ≤ v ∧ v < n ∧ c'.ok := by
  unfold M_spec_l01Below
  rw [decide_eq_false (show ¬ n ≤ 0 by omega), cond_false]
  have hg : guardO (n != 0) = some () := by
    have : (n != 0) = true := by simp; omega
    rw [this]; rfl
  obtain ⟨v, c1, e1, h1, h2, k1⟩ := cur_byte h
  cases decide (n ≤ 256) with
  | true =>
    rw [cond_true, e1, Option.bind_some]
    simp only [hg, Option.bind_some]
    exact ⟨_, _, rfl, (tmod_lt h1 hn).1, (tmod_lt h1 hn).2, k1⟩
  | false =>
    obtain ⟨v2, c2, e2, h3, h4, k2⟩ := cur_byte k1
    obtain ⟨v3, c3, e3, h5, h6, k3⟩ := cur_byte k2
    obtain ⟨v4, c4, e4, h7, h8, k4⟩ := cur_byte k3
    rw [cond_false, e1, Option.bind_some]
    simp only [e2, e3, e4, hg, Option.bind_some]
    have h0 : 0 ≤ IntKind.i64.wrap (IntKind.i64.wrap (IntKind.i64.wrap (IntKind.i64.wrap (v * 16777216) + IntKind.i64.wrap (v2 * 65536)) + IntKind.i64.wrap (v3 * 256)) + v4) := by
      rw [wrap_i64 (n := v * 16777216) (by omega) (by omega), wrap_i64 (n := v2 * 65536) (by omega) (by omega), wrap_i64 (n := v3 * 256) (by omega) (by omega), wrap_i64 (n := v * 16777216 + v2 * 65536) (by omega) (by omega), wrap_i64 (n := v * 16777216 + v2 * 65536 + v3 * 256) (by omega) (by omega), wrap_i64 (by omega) (by omega)]
      omega
    exact ⟨_, _, rfl, (tmod_lt h0 hn).1, (tmod_lt h0 hn).2, k4⟩
theorem cur_once {c : Cur} (h : c.ok) {n : Int} (hn : 0 < n) : ∃ v c', M_spec_l01Once c n = some (v, c') ∧ c'.ok := by
  obtain ⟨v, c1, e1, _, _, k1⟩ := cur_below h hn
  unfold M_spec_l01Once
  rw [e1, Option.bind_some]
  exact ⟨_, _, rfl, k1⟩
theorem cur_new {code : List Int} (h : code.length ≤ 1048576) : ∃ c, M_spec_l01New code = some c ∧ c.ok := by
  unfold M_spec_l01New L_spec_l01New_0
  obtain ⟨r, hr, hq⟩ := whileO_meas (S := S_spec_l01New_0) (fun x => x.1 = code ∧ 0 ≤ x.2.2.1 ∧ x.2.2.1 ≤ (code.length : Int)) (fun x => code.length - x.2.2.1.toNat) (fun r => r.1 = code)
    (by
      rintro ⟨co, hh, i, u⟩ ⟨hco, h1, h2⟩
      simp only at h1 h2 hco
      subst hco
      unfold S_spec_l01New_0
      simp only
      cases hc : decide (i < (co.length : Int)) with
      | true =>
        have hl := of_decide_eq_true hc
        rw [cond_true]
        cases decide (i < 4000) with
        | true =>
          rw [cond_true, idx_int h1 hl, Option.bind_some]
          refine .inl ⟨_, rfl, ⟨rfl, ?_, ?_⟩, ?_⟩ <;> simp only <;> rw [wrap_i64 (by omega) (by omega)] <;> omega
        | false => exact .inr ⟨_, rfl, rfl⟩
      | false => exact .inr ⟨_, rfl, rfl⟩)
    (x := (code, IntKind.i64.wrap (1973 + (code.length : Int)), 0, ())) ⟨rfl, by simp, by simp⟩
  rw [hr, Option.bind_some]
  obtain ⟨co, hh, u⟩ := r
  simp only at hq
  subst hq
  exact ⟨_, rfl, by show (0 : Int) ≤ 0; omega, by show (0 : Int) ≤ (co.length : Int); omega, h⟩
theorem cur_at {code : List Int} (h : code.length ≤ 1048576) {n : Int} (hn : n ≤ 1000000) : ∃ c, M_spec_l30New code n = some c ∧ c.ok := by
  unfold M_spec_l30New L_spec_l30New_0
  obtain ⟨c, e, k⟩ := cur_new h
  rw [e, Option.bind_some]
  obtain ⟨r, hr, hq⟩ := whileO_meas (S := S_spec_l30New_0) (fun x => x.1 = n ∧ 0 ≤ x.2.1 ∧ Cur.ok ⟨x.2.2.1, x.2.2.2.1, x.2.2.2.2.1⟩) (fun x => (n - x.2.1).toNat) (fun r => Cur.ok ⟨r.1, r.2.1, r.2.2.1⟩)
    (by
      rintro ⟨m, i, v, v1, v2, u⟩ ⟨rfl, h1, h2⟩
      simp only at h1 h2 hn
      unfold S_spec_l30New_0
      simp only
      cases hc : decide (i < m) with
      | true =>
        have hl := of_decide_eq_true hc
        obtain ⟨w, c', e1, _, _, k1⟩ := cur_byte h2
        rw [cond_true, e1, Option.bind_some]
        refine .inl ⟨_, rfl, ⟨rfl, ?_, k1⟩, ?_⟩ <;> simp only <;> rw [wrap_i64 (by omega) (by omega)] <;> omega
      | false => exact .inr ⟨_, rfl, h2⟩)
    (x := (n, 0, c.b, c.i, c.h, ())) ⟨rfl, by simp, k⟩
  rw [hr, Option.bind_some]
  exact ⟨_, rfl, hq⟩
/-! ### Bounds of a fraction's parts -/
def Bd (q : Rat) (n d : Nat) : Prop := q.num.natAbs ≤ n ∧ q.den ≤ d
theorem Bd.mono {q : Rat} {n d m e : Nat} (h : Bd q n d) (h1 : n ≤ m) (h2 : d ≤ e) : Bd q m e := ⟨Nat.le_trans h.1 h1, Nat.le_trans h.2 h2⟩
theorem bd_mk {z : Int} {d : Nat} (hd : d ≠ 0) : Bd (mkRat z d) z.natAbs d := by
  refine ⟨?_, ?_⟩
  · rw [mk_abs z hd]; exact Nat.div_le_self _ _
  · rw [(mk_parts z hd).2]; exact Nat.div_le_self _ _
theorem bd_int (n : Int) : Bd (n : Rat) n.natAbs 1 := ⟨by rw [Rat.num_intCast]; exact Nat.le_refl _, by rw [Rat.den_intCast]; exact Nat.le_refl _⟩
theorem bd_add {a b : Rat} {n d m e : Nat} (h : Bd a n d) (k : Bd b m e) : Bd (a + b) (n * e + m * d) (d * e) := by
  rw [← mk_add]
  refine (bd_mk (Nat.mul_ne_zero a.den_nz b.den_nz)).mono ?_ (Nat.mul_le_mul h.2 k.2)
  refine Nat.le_trans (Int.natAbs_add_le _ _) (Nat.add_le_add ?_ ?_)
  · rw [Int.natAbs_mul]; exact Nat.mul_le_mul h.1 k.2
  · rw [Int.natAbs_mul]; exact Nat.mul_le_mul k.1 h.2
theorem bd_div {a b : Rat} {n d m e : Nat} (h : Bd a n d) (k : Bd b m e) (hb : b ≠ 0) : Bd (a / b) (n * e) (d * m) := by
  rw [← mk_div a b hb]
  have hn : b.num ≠ 0 := fun h => hb (Rat.num_eq_zero.1 h)
  refine (bd_mk (Nat.mul_ne_zero a.den_nz (by omega))).mono ?_ (Nat.mul_le_mul h.2 k.1)
  rw [Int.natAbs_mul, sg_abs]; exact Nat.mul_le_mul h.1 k.2
theorem Bd.fit {q : Rat} {n d : Nat} (h : Bd q n d) (h1 : n ≤ 10 ^ 200) (h2 : d ≤ 10 ^ 200) : Fit q := by
  have e : ((10 ^ 200 : Nat) : Int) < bp 24 := by decide
  exact ⟨len_dg.2 (Int.lt_of_le_of_lt (Int.ofNat_le.2 (Nat.le_trans h.1 h1)) e), len_dg.2 (Int.lt_of_le_of_lt (Int.ofNat_le.2 (Nat.le_trans h.2 h2)) e)⟩
theorem chk_bd {q : Rat} {n d : Nat} (h : Bd q n d) (h1 : n ≤ 10 ^ 200) (h2 : d ≤ 10 ^ 200) : chk q = some q := chk_fit (h.fit h1 h2)
theorem cur_number {c : Cur} (h : c.ok) : ∃ q c', M_spec_l05Number c = some (rq q, c') ∧ Bd q 20 6 ∧ c'.ok := by
  unfold M_spec_l05Number
  obtain ⟨w, c1, e1, k1⟩ := cur_once h (n := 3) (by omega)
  rw [e1, Option.bind_some]
  cases w with
  | true =>
    obtain ⟨a, c2, e2, h1, h2, k2⟩ := cur_below k1 (n := 41) (by omega)
    obtain ⟨b, c3, e3, h3, h4, k3⟩ := cur_below k2 (n := 6) (by omega)
    simp only [cond_true, e2, e3, Option.bind_some]
    rw [wrap_i64 (n := a - 20) (by omega) (by omega), wrap_i64 (n := 1 + b) (by omega) (by omega), spec_ratOf (by omega) (by omega) (by omega) (by omega) (by omega)]
    have bd : Bd (((a - 20 : Int) : Rat) / ((1 + b : Int) : Rat)) 20 6 := by
      have hb : ((1 + b : Int) : Rat) ≠ 0 := by
        intro e0
        have h0 := congrArg Rat.num e0
        rw [Rat.num_intCast] at h0
        have : (0 : Rat).num = 0 := rfl
        omega
      exact (bd_div (bd_int _) (bd_int _) hb).mono (by omega) (by omega)
    rw [chk_bd bd (by decide) (by decide), Option.bind_some]
    exact ⟨_, _, rfl, bd, k3⟩
  | false =>
    obtain ⟨a, c2, e2, h1, h2, k2⟩ := cur_below k1 (n := 21) (by omega)
    simp only [cond_false, e2, Option.bind_some]
    rw [wrap_i64 (n := a - 10) (by omega) (by omega), spec_ratInt (by omega) (by omega), Option.bind_some]
    exact ⟨_, _, rfl, (bd_int _).mono (by omega) (by omega), k2⟩
end Go.Di
namespace Go.Di
theorem fit_bd {q : Rat} {n d : Nat} (h : Bd q n d) (h1 : decide (n ≤ 10 ^ 200) = true) (h2 : decide (d ≤ 10 ^ 200) = true) : Fit q := h.fit (of_decide_eq_true h1) (of_decide_eq_true h2)
end Go.Di
namespace Go.Di
def staU (plane : Bool) (e : Sta) : Nat := cond e.fixed 0 (cond plane 2 1)
def cntU (plane : Bool) (l : List Sta) : Nat → Nat
  | 0 => 0
  | i + 1 => cntU plane l i + (match l[i]? with
    | some e => staU plane e
    | none => 0)
theorem cntU_succ {plane : Bool} {l : List Sta} {i : Nat} (h : i < l.length) : cntU plane l (i + 1) = cntU plane l i + staU plane l[i] := by
  show cntU plane l i + _ = _
  rw [List.getElem?_eq_getElem h]
theorem cntU_le (plane : Bool) (l : List Sta) : ∀ i, cntU plane l i ≤ 2 * i
  | 0 => Nat.le_refl _
  | i + 1 => by
    have := cntU_le plane l i
    show cntU plane l i + _ ≤ _
    cases l[i]? with
    | none => simp only; omega
    | some e =>
      have h2 : staU plane e ≤ 2 := by unfold staU; cases e.fixed <;> cases plane <;> simp
      simp only; omega
theorem cntU_take (plane : Bool) (l : List Sta) (n : Nat) : ∀ i, i ≤ n → cntU plane (l.take n) i = cntU plane l i
  | 0, _ => rfl
  | i + 1, h => by
    show cntU plane (l.take n) i + _ = cntU plane l i + _
    rw [cntU_take plane l n i (by omega), List.getElem?_take_of_lt (by omega)]
theorem wrap_small {n : Int} (h : 0 ≤ n) (h2 : n ≤ 4611686018427387904) : IntKind.i64.wrap n = n := wrap_i64 (by omega) (by omega)
theorem impl_axes (p : Bool) : M_impl_axes p = some (cond p 2 1) := by unfold M_impl_axes; cases p <;> rfl
theorem cnt_step {plane : Bool} {l : List Sta} {i : Nat} (h : i < l.length) (hl : l.length ≤ 1048576) : (cond (!l[i].fixed) (some (IntKind.i64.wrap ((cntU plane l i : Int) + cond plane 2 1))) (some (cntU plane l i : Int)) : Option Int) = some ((cntU plane l (i + 1) : Nat) : Int) := by
  have := cntU_le plane l i
  rw [cntU_succ h]
  unfold staU
  cases l[i].fixed with
  | true => simp
  | false =>
    cases plane <;> simp only [Bool.not_false, cond_true, cond_false] <;> rw [wrap_small (by omega) (by omega)] <;> congr 1
theorem impl_count10 {n : Net} (h : n.stations.length ≤ 1048576) : M_impl_unknowns n = some ((cntU n.plane n.stations n.stations.length : Nat) : Int) := by
  unfold M_impl_unknowns L_impl_unknowns_0
  have key := whileO_upto S_impl_unknowns_0 (fun i => (((cntU n.plane n.stations i : Nat) : Int), n.stations, (n.stations.length : Int), (i : Int), n.plane, n.stations, ())) n.stations.length (((cntU n.plane n.stations n.stations.length : Nat) : Int), ()) (fun i hi => by
    have hs := cnt_step (plane := n.plane) hi h
    simp only [S_impl_unknowns_0, dlt hi, cond_true, idx_at hi, Option.bind_some, impl_axes, succ_wrap hi h]
    cases hf : n.stations[i].fixed with
    | true => rw [hf] at hs; simp only [Bool.not_true, cond_false, Option.some.injEq] at hs ⊢; rw [hs]
    | false => rw [hf] at hs; simp only [Bool.not_false, cond_true, Option.some.injEq] at hs ⊢; rw [hs]) (by simp [S_impl_unknowns_0])
  exact congrArg (fun x => x.bind fun (k, _) => some k) key
def firstU (plane : Bool) (l : List Sta) (i : Nat) : Int := match l[i]? with
  | some e => cond e.fixed (-1) (cntU plane l i : Int)
  | none => -1
theorem firstU_at {plane : Bool} {l : List Sta} {i : Nat} (h : i < l.length) : firstU plane l i = cond l[i].fixed (-1) (cntU plane l i : Int) := by
  unfold firstU; rw [List.getElem?_eq_getElem h]
theorem firstU_le {plane : Bool} {l : List Sta} {i : Nat} (h : i < l.length) : firstU plane l i ≤ 2 * i := by
  rw [firstU_at h]
  have := cntU_le plane l i
  cases l[i].fixed <;> simp only [cond_true, cond_false] <;> omega
theorem firstU_ge {plane : Bool} {l : List Sta} {i : Nat} (h : i < l.length) : -1 ≤ firstU plane l i := by
  rw [firstU_at h]
  cases l[i].fixed <;> simp only [cond_true, cond_false] <;> omega
theorem impl_first {n : Net} {i : Nat} (h : n.stations.length ≤ 1048576) (hi : i < n.stations.length) : M_impl_unknownOf n (i : Int) = some (firstU n.plane n.stations i) := by
  unfold M_impl_unknownOf
  rw [idx_at hi, Option.bind_some, firstU_at hi]
  cases n.stations[i].fixed with
  | true => rfl
  | false =>
    have hc : cut n.stations 0 i = n.stations.take i := by simp [cut]
    rw [cond_false, cond_false, inside_cut _ _ (by omega), Option.bind_some, Int.toNat_natCast, hc, impl_count10 (by simp; omega), Option.bind_some]
    simp only []
    rw [List.length_take, Nat.min_eq_left (by omega), cntU_take _ _ _ _ (Nat.le_refl _)]
theorem impl_countU {n : Net} (h : lfit Sta.fitN n.stations) : M_impl_CountUnknowns n = some (cond (netB n) ((cntU n.plane n.stations n.stations.length : Nat) : Int) 0) := by
  unfold M_impl_CountUnknowns
  rw [impl_netOk (fitN_fit h), Option.bind_some]
  cases netB n with
  | false => rfl
  | true => simp only [Bool.not_true, cond_false, cond_true]; rw [impl_count10 h.1]; rfl
noncomputable def unkOf (n : Net) (s : Int) : Int := cond (netB n && (decide (0 ≤ s) && decide (s < n.stations.length))) (firstU n.plane n.stations s.toNat) (-1)
theorem impl_unkOf {n : Net} (h : lfit Sta.fitN n.stations) (s : Int) : M_impl_UnknownOf n s = some (unkOf n s) := by
  unfold M_impl_UnknownOf unkOf
  rw [impl_netOk (fitN_fit h), Option.bind_some]
  cases netB n with
  | false => rfl
  | true =>
    have hl := h.1
    simp only [Bool.not_true, cond_false, Bool.true_and]
    by_cases h1 : 0 ≤ s
    · rw [decide_eq_false (show ¬ s < 0 by omega), decide_eq_true h1, cond_false]
      by_cases h2 : s < n.stations.length
      · rw [decide_eq_false (show ¬ s ≥ n.stations.length by omega), decide_eq_true h2]
        obtain ⟨m, rfl⟩ : ∃ m : Nat, s = (m : Int) := ⟨s.toNat, by omega⟩
        simp only [cond_false, cond_true, Bool.true_and]
        rw [impl_first hl (by omega), Option.bind_some, Int.toNat_natCast]
      · rw [decide_eq_true (show s ≥ n.stations.length by omega), decide_eq_false h2]; rfl
    · rw [decide_eq_true (show s < 0 by omega), decide_eq_false h1]; rfl
def unkName (n : Net) (k : Int) (i : Nat) : Option ByteArray := match n.stations[i]? with
  | some e => cond (decide (firstU n.plane n.stations i ≥ 0)) (cond (firstU n.plane n.stations i == k) (some (e.name ++ (⟨#[46, 120]⟩ : ByteArray))) (cond n.plane (cond (firstU n.plane n.stations i + 1 == k) (some (e.name ++ (⟨#[46, 121]⟩ : ByteArray))) none) none)) none
  | none => none
def nameU (n : Net) (k : Int) : ByteArray := ((List.range n.stations.length).findSome? (unkName n k)).getD ⟨#[]⟩
theorem room_str {s : ByteArray} (h : s.size ≤ 1048576) (a b : UInt8) : guardO (Nat.ble (s.size + ((⟨#[a, b]⟩ : ByteArray).size)) 4611686018427387904) = some () := by
  have h2 : ((⟨#[a, b]⟩ : ByteArray).size) = 2 := rfl
  have : Nat.ble (s.size + ((⟨#[a, b]⟩ : ByteArray).size)) 4611686018427387904 = true := by rw [Nat.ble_eq, h2]; omega
  rw [this]; rfl
theorem name_end {l : List Nat} {f : Nat → Option ByteArray} : (match (l.findSome? fun i => (f i).map (Sum.inl (β := Unit) ∘ fun b => (b, ()))).getD (.inr ()) with
    | .inl (t, _) => some t
    | .inr _ => some (⟨#[]⟩ : ByteArray)) = some ((l.findSome? f).getD ⟨#[]⟩) := by
  induction l with
  | nil => rfl
  | cons i l ih =>
    simp only [List.findSome?_cons]
    cases f i with
    | none => exact ih
    | some b => rfl
theorem impl_nameLoop {n : Net} (h : lfit Sta.fitN n.stations) (k : Int) : ((L_impl_NameOfUnknown_0 k n.stations (n.stations.length : Int) 0 n.plane n.stations).bind fun r1 =>
    match r1 with
    | .inl (t, _) => some t
    | .inr _ => some (⟨#[]⟩ : ByteArray)) = some (nameU n k) := by
  unfold L_impl_NameOfUnknown_0
  have key := find_loop (S := S_impl_NameOfUnknown_0) (fun i => (k, n.stations, (n.stations.length : Int), (i : Int), n.plane, n.stations, ())) n.stations.length (fun i => (unkName n k i).map (Sum.inl (β := Unit) ∘ fun b => (b, ()))) (.inr ()) (fun i hi => by
    have hf := impl_first (n := ⟨n.plane, n.stations⟩) h.1 hi
    have hle := firstU_le (plane := n.plane) hi
    have hge := firstU_ge (plane := n.plane) hi
    have hl := h.1
    have hn := (h.2 _ (List.getElem_mem hi)).2
    have hw : IntKind.i64.wrap (firstU n.plane n.stations i + 1) = firstU n.plane n.stations i + 1 := wrap_i64 (by omega) (by omega)
    simp only [S_impl_NameOfUnknown_0, dlt hi, cond_true, idx_at hi, Option.bind_some, hf, succ_wrap hi h.1, hw, room_str hn, unkName, List.getElem?_eq_getElem hi]
    cases hg : decide (firstU n.plane n.stations i ≥ 0) <;> cases hk : firstU n.plane n.stations i == k <;> cases hp : n.plane <;> rw [hp] at hg hk <;> simp only [cond_true, cond_false] <;> first
      | rfl
      | (cases hk1 : (firstU true n.stations i + 1 == k) <;> simp only [cond_true, cond_false] <;> rfl)) (by simp [S_impl_NameOfUnknown_0])
  rw [show ((0 : Int)) = ((0 : Nat) : Int) from rfl, key, Option.bind_some]
  exact name_end
theorem nameU_neg {n : Net} {k : Int} (hk : k < 0) : nameU n k = ⟨#[]⟩ := by
  unfold nameU
  have : (List.range n.stations.length).findSome? (unkName n k) = none := by
    rw [List.findSome?_eq_none_iff]
    intro i hi
    have hi := List.mem_range.1 hi
    unfold unkName
    rw [List.getElem?_eq_getElem hi]
    cases hg : decide (firstU n.plane n.stations i ≥ 0) with
    | false => simp only [cond_false]
    | true =>
      have hg' := of_decide_eq_true hg
      have e1 : (firstU n.plane n.stations i == k) = false := by rw [beq_eq_false_iff_ne]; omega
      have e2 : (firstU n.plane n.stations i + 1 == k) = false := by rw [beq_eq_false_iff_ne]; omega
      simp only [e1, e2, cond_true, cond_false]
      cases n.plane <;> rfl
  rw [this]; rfl
theorem impl_nameU {n : Net} (h : lfit Sta.fitN n.stations) (k : Int) : M_impl_NameOfUnknown n k = some (cond (netB n) (nameU n k) ⟨#[]⟩) := by
  unfold M_impl_NameOfUnknown
  rw [impl_netOk (fitN_fit h), Option.bind_some]
  cases netB n with
  | false => rfl
  | true =>
    simp only [Bool.not_true, cond_false, cond_true]
    by_cases hk : k < 0
    · rw [decide_eq_true hk, cond_true, nameU_neg hk]
    · rw [decide_eq_false hk, cond_false]; exact impl_nameLoop h k
end Go.Di
namespace Go.Di
/-! ### Marks -/
def wS (s : Sta) : Nat := 4 + s.x.mag.length + s.x.den.length + s.y.mag.length + s.y.den.length
structure Sfit (l : List Sta) : Prop where
  fit : lfit Sta.fit l
  few : ws wS l ≤ 1000000000
/-! ### Lists whose first elements are changed -/
def mapTo {α : Type} (f : Nat → α → α) (a : List α) (i : Nat) : List α := a.mapIdx fun j x => if j < i then f j x else x
theorem len_mapTo {α : Type} (f : Nat → α → α) (a : List α) (i : Nat) : (mapTo f a i).length = a.length := by simp [mapTo]
theorem mapTo_zero {α : Type} (f : Nat → α → α) (a : List α) : mapTo f a 0 = a := by
  apply List.ext_getElem?
  intro j
  simp only [mapTo, List.getElem?_mapIdx, Nat.not_lt_zero, if_false]
  cases a[j]? <;> rfl
theorem mapTo_at {α : Type} (f : Nat → α → α) (a : List α) {i : Nat} (h : i < a.length) : (mapTo f a i)[i]? = some a[i] := by
  simp [mapTo, h]
theorem mapTo_step {α : Type} (f : Nat → α → α) (a : List α) {i : Nat} (h : i < a.length) : (mapTo f a i).set i (f i a[i]) = mapTo f a (i + 1) := by
  apply List.ext_getElem?
  intro j
  rw [List.getElem?_set]
  simp only [mapTo, List.getElem?_mapIdx, List.length_mapIdx]
  by_cases hj : i = j
  · subst hj; simp [h]
  · rw [if_neg hj]
    by_cases hlt : j < i
    · simp [hlt, show j < i + 1 by omega]
    · simp [hlt, show ¬ j < i + 1 by omega]
theorem mapTo_keep {α : Type} (f : Nat → α → α) (a : List α) {i : Nat} (h : i < a.length) (hf : f i a[i] = a[i]) : mapTo f a (i + 1) = mapTo f a i := by
  rw [← mapTo_step f a h, hf]
  apply List.ext_getElem?
  intro j
  rw [List.getElem?_set]
  split
  · rename_i e; subst e
    rw [mapTo_at f a h, if_pos (by rw [len_mapTo]; exact h)]
  · rfl
/-! ### Copies -/
theorem impl_copyNet {n : Net} (h : lfit Sta.fit n.stations) : M_impl_copyNetwork n = some n := by
  unfold M_impl_copyNetwork L_impl_copyNetwork_0
  have h1 := h.1
  rw [app_loop (S := S_impl_copyNetwork_0) (fun i out => (n.stations, (n.stations.length : Int), i, false, [], n.plane, out, ())) (fun i => (n.stations[i]?).getD ⟨⟨#[]⟩, ⟨false, [], []⟩, ⟨false, [], []⟩, false⟩) n.stations.length (r := fun out => (false, [], n.plane, out, ())) (fun i out hi ho => by
    have hg : n.stations[i]? = some n.stations[i] := List.getElem?_eq_getElem hi
    have hf := h.2 _ (List.getElem_mem hi)
    simp only [S_impl_copyNetwork_0, dlt hi, cond_true, idx_at hi, Option.bind_some, impl_copyRat hf.1, impl_copyRat hf.2, room1 (show out.length ≤ 2000000 by omega), succ_wrap hi h.1, hg, Option.getD_some]) (fun out _ => by simp [S_impl_copyNetwork_0]), range_get]
  rfl
/-! ### Sums -/
noncomputable def addR (a b : Rt) : Rt := (M_impl_add a b).getD ⟨false, [], []⟩
theorem addR_good {a b : Rt} (ha : Good a) (hb : Good b) : M_impl_add a b = some (addR a b) ∧ M_spec_l04Add a b = some (addR a b) ∧ (addR a b).sz ≤ 48 := by
  obtain ⟨p, hp, rfl⟩ := ha
  obtain ⟨q, hq, rfl⟩ := hb
  have h1 := impl_addO hp.ok hq.ok
  have h2 := spec_addO hp.ok hq.ok
  have e : addR (rq p) (rq q) = ro (addO (some p) (some q)) := by
    unfold addR
    rw [show rq p = ro (some p) from rfl, show rq q = ro (some q) from rfl, h1]; rfl
  rw [e]
  exact ⟨h1, h2, ro_sz oks_addO⟩
theorem staB_good {s : Sta} {p : Bool} (h : staB s p = true) : Good s.x ∧ Good s.y := by
  unfold staB at h
  simp only [Bool.and_eq_true, pB_iff] at h
  exact ⟨h.2.1, h.2.2.1⟩
def gapP (l : List Sta) (i : Nat) : Bool := match l[i]? with
  | some s => !(((s.x.den.length : Int) == 0) || ((s.y.den.length : Int) == 0))
  | none => true
def fullB (l : List Sta) : Bool := (List.range l.length).all (gapP l)
theorem impl_full {p : Bool} {l : List Sta} (h : l.length ≤ 1048576) : M_impl_stationsComplete ⟨p, l⟩ = some (fullB l) := by
  unfold M_impl_stationsComplete L_impl_stationsComplete_0
  have key := all_loopE (S := S_impl_stationsComplete_0) (fun i => (l, (l.length : Int), (i : Int), ())) l.length (gapP l) () (fun i hi => by
    have hg : l[i]? = some l[i] := List.getElem?_eq_getElem hi
    simp only [S_impl_stationsComplete_0, dlt hi, cond_true, idx_at hi, Option.bind_some, M_impl_void, gapP, hg, succ_wrap hi h]
    cases ((l[i].x.den.length : Int) == 0) <;> cases ((l[i].y.den.length : Int) == 0) <;> rfl) (by simp [S_impl_stationsComplete_0])
  rw [show ((0 : Nat) : Int) = 0 from rfl] at key
  simp only []
  rw [key]
  show _ = some ((List.range l.length).all (gapP l))
  cases (List.range l.length).all (gapP l) <;> rfl
noncomputable def netO (p : Bool) (l : List Sta) : Net × Bool := cond (fullB l) (⟨p, l⟩, true) (⟨false, []⟩, false)
/-! ### Shifted networks -/
/-! ### Moved networks -/
theorem cntU_mono (p : Bool) (l : List Sta) : ∀ {i n : Nat}, i ≤ n → cntU p l i ≤ cntU p l n
  | i, 0, h => by have : i = 0 := by omega
                  subst this; exact Nat.le_refl _
  | i, n + 1, h => by
    by_cases hi : i = n + 1
    · subst hi; exact Nat.le_refl _
    · exact Nat.le_trans (cntU_mono p l (show i ≤ n by omega)) (Nat.le_add_right _ _)
noncomputable def mvF (p : Bool) (l : List Sta) (v : List Rt) (i : Nat) (s : Sta) : Sta :=
  cond s.fixed s ⟨s.name, addR s.x ((v[cntU p l i]?).getD ⟨false, [], []⟩), cond p (addR s.y ((v[cntU p l i + 1]?).getD ⟨false, [], []⟩)) s.y, s.fixed⟩
end Go.Di
namespace Go.Di
theorem impl_move {n : Net} (hn : lfit Sta.fitN n.stations) {v : List Rt} (hv : lfit Rt.fit v) (hb : netB n = true) (kv : vecB v = true) (hvl : v.length = cntU n.plane n.stations n.stations.length) :
    M_impl_MoveStations n v = some (netO n.plane (mapTo (mvF n.plane n.stations v) n.stations n.stations.length)) := by
  have hn' := fitN_fit hn
  have h8 := netB_len hb
  have kl : ((v.length : Int) != ((cntU n.plane n.stations n.stations.length : Nat) : Int)) = false := by rw [i64_ne]; simpa using hvl
  have gv : ∀ i (hi : i < v.length), Good v[i] := fun i hi => by
    unfold vecB at kv
    rw [Bool.and_eq_true, List.all_eq_true] at kv
    exact pB_iff.1 (kv.2 _ (List.getElem_mem hi))
  have hg : ∀ i (hi : i < n.stations.length), Good n.stations[i].x ∧ Good n.stations[i].y := fun i hi => staB_good (netB_sta hb hi)
  have hroom : ∀ i (hi : i < n.stations.length), n.stations[i].fixed = false → ∃ x0, v[cntU n.plane n.stations i]? = some x0 ∧ Good x0 ∧ (n.plane = true → ∃ x1, v[cntU n.plane n.stations i + 1]? = some x1 ∧ Good x1 ∧ cntU n.plane n.stations i + 1 < v.length) := fun i hi hf => by
    have h1 := cntU_succ (plane := n.plane) hi
    have h2 := cntU_mono n.plane n.stations (show i + 1 ≤ n.stations.length by omega)
    unfold staU at h1
    rw [hf] at h1
    have h3 : cntU n.plane n.stations i < v.length ∧ (n.plane = true → cntU n.plane n.stations i + 1 < v.length) := by
      cases hp : n.plane with
      | true => rw [hp] at h1 h2 hvl; simp only [cond_true, cond_false] at h1; exact ⟨by omega, fun _ => by omega⟩
      | false => rw [hp] at h1 h2 hvl; simp only [cond_false] at h1; exact ⟨by omega, fun h => by cases h⟩
    exact ⟨_, List.getElem?_eq_getElem h3.1, gv _ h3.1, fun hp => ⟨_, List.getElem?_eq_getElem (h3.2 hp), gv _ (h3.2 hp), h3.2 hp⟩⟩
  let R := mapTo (mvF n.plane n.stations v) n.stations n.stations.length
  have hRl : R.length = n.stations.length := len_mapTo ..
  unfold M_impl_MoveStations L_impl_MoveStations_0
  rw [impl_netOk hn', hb, impl_isVec hv, kv, impl_count10 hn.1]
  simp only [Option.bind_some, Bool.not_true, cond_false, kl]
  rw [impl_copyNet hn', Option.bind_some]
  have key := whileO_upto S_impl_MoveStations_0 (fun i => (v, (n.stations.length : Int), (i : Int), n.plane, n.stations, false, [], n.plane, mapTo (mvF n.plane n.stations v) n.stations i, ())) n.stations.length (false, [], n.plane, R, ()) (fun i hi => by
    have hc : i < (mapTo (mvF n.plane n.stations v) n.stations i).length := by rw [len_mapTo]; exact hi
    have hsw := succ_wrap hi (show n.stations.length ≤ 1048576 by omega)
    simp only [S_impl_MoveStations_0, dlt hi, cond_true, Option.bind_some, impl_first (n := ⟨n.plane, n.stations⟩) hn.1 hi, firstU_at hi, hsw, get_int (mapTo_at (mvF n.plane n.stations v) n.stations hi)]
    cases hf : n.stations[i].fixed with
    | true =>
      rw [mapTo_keep (mvF n.plane n.stations v) n.stations hi (by unfold mvF; rw [hf]; rfl)]; rfl
    | false =>
      obtain ⟨x0, e0, g0, r2⟩ := hroom i hi hf
      have hd : decide (((cntU n.plane n.stations i : Nat) : Int) < 0) = false := decide_eq_false (by omega)
      have a1 := (addR_good (hg i hi).1 g0).1
      simp only [cond_false, hd, get_int e0, Option.bind_some, a1, Int.toNat_natCast, mapTo_at (mvF n.plane n.stations v) n.stations hi]
      rw [← mapTo_step (mvF n.plane n.stations v) n.stations hi]
      have em : mvF n.plane n.stations v i n.stations[i] = ⟨n.stations[i].name, addR n.stations[i].x x0, cond n.plane (addR n.stations[i].y ((v[cntU n.plane n.stations i + 1]?).getD ⟨false, [], []⟩)) n.stations[i].y, n.stations[i].fixed⟩ := by
        unfold mvF; rw [hf, e0]; rfl
      rw [em]
      cases hp : n.plane with
      | false => simp only [cond_false]
      | true =>
        obtain ⟨x1, e1, g1, r3⟩ := r2 hp
        rw [hp] at e1 r3 hc
        have hw : IntKind.i64.wrap (((cntU true n.stations i : Nat) : Int) + 1) = ((cntU true n.stations i + 1 : Nat) : Int) := by
          have := hv.1
          rw [wrap_i64 (by omega) (by omega)]; omega
        have a2 := (addR_good (hg i hi).2 g1).1
        simp only [cond_true, hw, get_int e1, Option.bind_some, a2, get_set hc, List.set_set, e1, Option.getD_some]) (by simp [S_impl_MoveStations_0, R])
  rw [mapTo_zero, show ((0 : Nat) : Int) = 0 from rfl] at key
  rw [key, Option.bind_some]
  show ((M_impl_stationsComplete ⟨n.plane, R⟩).bind _) = _
  rw [impl_full (by omega), Option.bind_some]
  unfold netO
  cases fullB R <;> rfl
end Go.Di
namespace Go.Di
end Go.Di
namespace Go.Di
structure MxQ (m : Mx) (r c : Nat) (q : List Rat) : Prop where
  r24 : r ≤ 24
  c24 : c ≤ 24
  len : q.length = r * c
  fits : Fits q
  eq : m = ⟨r, c, q.map rq⟩
/-! ### Matrices of integers -/
/-! ### Elements, rows, diagonals -/
/-! ### Products with vectors -/
end Go.Di
namespace Go.Di
/-! ### Vectors drawn from bytes -/
def Small (q : List Rat) : Prop := ∀ x ∈ q, Bd x 20 6
theorem Small.fits {q : List Rat} (h : Small q) : Fits q := fun x hx => (h x hx).fit (by decide) (by decide)
theorem make_vec {code : List Int} (h : code.length ≤ 1048576) {n : Int} (hn : n ≤ 1000000) {k : Nat} (hk : k ≤ 1000) : ∃ q : List Rat, M_spec_MakeVector code n (k : Int) = some (q.map rq) ∧ q.length = k ∧ Small q := by
  unfold M_spec_MakeVector M_spec_l05Draw L_spec_l05Draw_0
  obtain ⟨c, e, kc⟩ := cur_at h hn
  rw [e, Option.bind_some]
  obtain ⟨r, hr, q, h1, h2, h3⟩ := whileO_meas (S := S_spec_l05Draw_0) (fun x => x.1 = (k : Int) ∧ Cur.ok ⟨x.2.1, x.2.2.1, x.2.2.2.1⟩ ∧ ∃ q : List Rat, x.2.2.2.2.1 = q.map rq ∧ q.length ≤ k ∧ Small q) (fun x => k - x.2.2.2.2.1.length) (fun r => ∃ q : List Rat, r.2.2.2.1 = q.map rq ∧ q.length = k ∧ Small q)
    (by
      rintro ⟨m, v, v1, v2, v3, u⟩ ⟨h0, h1, q, h2, h3, h4⟩
      simp only at h0 h1 h2 h3
      subst h0; subst h2
      unfold S_spec_l05Draw_0
      simp only [List.length_map]
      cases hc : decide ((q.length : Int) < (k : Int)) with
      | true =>
        have hl := of_decide_eq_true hc
        obtain ⟨x, c', e1, b1, k1⟩ := cur_number h1
        simp only [cond_true, e1, Option.bind_some, room1 (show q.length ≤ 2000000 by omega)]
        refine .inl ⟨_, rfl, ⟨rfl, k1, q ++ [x], by simp, by simp; omega, ?_⟩, ?_⟩
        · intro y hy
          rcases List.mem_append.1 hy with hy | hy
          · exact h4 y hy
          · rw [List.mem_singleton.1 hy]; exact b1
        · simp only [List.length_append, List.length_map, List.length_singleton]; omega
      | false =>
        have hl := of_decide_eq_false hc
        exact .inr ⟨_, rfl, q, rfl, by omega, h4⟩)
    (x := ((k : Int), c.b, c.i, c.h, [], ())) ⟨rfl, kc, [], rfl, by simp, fun x hx => (by cases hx)⟩
  rw [hr, Option.bind_some]
  obtain ⟨v, v1, v2, v3, u⟩ := r
  simp only at h1
  subst h1
  exact ⟨q, rfl, h2, h3⟩
theorem zero_vec {k : Nat} (hk : k ≤ 24) : M_impl_ZeroVector (k : Int) = some ((List.replicate k (0 : Rat)).map rq) := by
  unfold M_impl_ZeroVector L_impl_ZeroVector_0
  rw [decide_eq_false (show ¬ (k : Int) < 0 by omega), decide_eq_false (show ¬ (k : Int) > 24 by omega)]
  simp only [cond_false]
  have key := app_loop (S := S_impl_ZeroVector_0) (fun i out => ((k : Int), i, out, ())) (fun _ => rq 0) k (r := fun out => (out, ())) (fun i out hi ho => by
    simp only [S_impl_ZeroVector_0, dlt hi, cond_true, whole_zero, Option.bind_some, room1 (show out.length ≤ 2000000 by omega), succ_wrap hi (show k ≤ 1048576 by omega)]
    rfl) (fun out _ => by simp [S_impl_ZeroVector_0])
  refine (congrArg (fun x => Option.bind x _) key).trans ?_
  show some ((List.range k).map fun _ => rq 0) = _
  congr 1
  apply List.ext_getElem?
  intro j
  by_cases hj : j < k
  · simp [hj, List.getElem?_replicate]
  · simp [hj, List.getElem?_replicate]
theorem zero_sub {x : Rat} (hx : Fit x) : M_impl_sub (rq 0) (rq x) = some (rq (-x)) := by
  have h := impl_subO (o := some 0) (p := some x) fit_zero.ok hx.ok
  have e : subO (some 0) (some x) = some (-x) := by
    show chk (0 + -x) = _
    rw [Rat.zero_add, chk_fit (fit_neg hx)]
  rw [e] at h; exact h
theorem neg_fits {q : List Rat} (h : Fits q) : Fits (q.map fun x => -x) := fun x hx => by
  obtain ⟨y, hy, rfl⟩ := List.mem_map.1 hx
  exact fit_neg (h y hy)
theorem lfit_rq {q : List Rat} (h : Fits q) (hn : q.length ≤ 20000) : lfit Rt.fit (q.map rq) := (rfit_rq h hn).fit
theorem q_vec {q : List Rat} (h : Fits q) (hn : q.length ≤ 24) : vecB (q.map rq) = true := by
  unfold vecB
  rw [List.length_map, decide_eq_true hn, q_goods h]; rfl
theorem sub_vec {q : List Rat} (h : Fits q) (hn : q.length ≤ 24) : M_impl_SubtractVectors ((List.replicate q.length (0 : Rat)).map rq) (q.map rq) = some ((q.map fun x => -x).map rq, true) := by
  unfold M_impl_SubtractVectors
  have hz : Fits (List.replicate q.length (0 : Rat)) := fun x hx => by rw [(List.mem_replicate.1 hx).2]; exact fit_zero
  have hzl : (List.replicate q.length (0 : Rat)).length = q.length := by simp
  rw [impl_isVec (lfit_rq hz (by omega)), impl_isVec (lfit_rq h (by omega)), q_vec hz (by omega), q_vec h hn]
  have hl : (((((List.replicate q.length (0 : Rat)).map rq).length : Int)) != (((q.map rq).length : Nat) : Int)) = false := by simp
  simp only [Option.bind_some, Bool.not_true, cond_false, hl]
  unfold M_impl_pairwise__impl_sub L_impl_pairwise__impl_sub_0
  have key := app_loop (S := S_impl_pairwise__impl_sub_0) (fun i out => ((List.replicate q.length (0 : Rat)).map rq, q.map rq, (q.length : Int), i, out, ())) (fun i => rq (-((q[i]?).getD 0))) q.length (r := fun out => (out, ())) (fun i out hi ho => by
    have i1 : idx ((List.replicate q.length (0 : Rat)).map rq) (i : Int) = some (rq 0) := by
      rw [idx_q (by omega), List.getElem?_replicate, if_pos hi]; rfl
    have i2 : idx (q.map rq) (i : Int) = some (rq q[i]) := by
      rw [idx_q hi, List.getElem?_eq_getElem hi]; rfl
    have i3 := zero_sub (h _ (List.getElem_mem hi))
    simp only [S_impl_pairwise__impl_sub_0, dlt hi, cond_true, i1, i2, i3, Option.bind_some, room1 (show out.length ≤ 2000000 by omega), succ_wrap hi (show q.length ≤ 1048576 by omega), List.getElem?_eq_getElem hi, Option.getD_some]) (fun out _ => by simp [S_impl_pairwise__impl_sub_0])
  have e1 : (((List.replicate q.length (0 : Rat)).map rq).length : Int) = (q.length : Int) := by simp
  rw [e1]
  have e2 : (List.range q.length).map (fun i => rq (-((q[i]?).getD 0))) = (q.map fun x => -x).map rq := by
    apply List.ext_getElem?
    intro j
    by_cases hj : j < q.length
    · simp [hj]
    · simp [hj]
  have e3 : (q.map fun x => -x).map rq = (q.map fun x => some (-x)).map ro := by
    rw [List.map_map, List.map_map]; rfl
  have hcomp : M_impl_complete ((q.map fun x => -x).map rq) = some true := by
    rw [e3, impl_complete (by simp; omega)]
    congr 1
    rw [List.all_eq_true]
    intro o ho
    obtain ⟨x, _, rfl⟩ := List.mem_map.1 ho
    rfl
  rw [show (0 : Int) = ((0 : Nat) : Int) from rfl] at key ⊢
  rw [key, e2, Option.bind_some]
  simp only [hcomp, Option.bind_some, Bool.not_true, cond_false]
/-! ### Networks drawn from bytes -/
def nmS (j : Nat) : ByteArray := (([(⟨#[97]⟩ : ByteArray), (⟨#[98]⟩ : ByteArray), (⟨#[99]⟩ : ByteArray), (⟨#[100]⟩ : ByteArray), (⟨#[101, 49]⟩ : ByteArray), (⟨#[102]⟩ : ByteArray), (⟨#[103]⟩ : ByteArray), (⟨#[104]⟩ : ByteArray), (⟨#[105, 57]⟩ : ByteArray)] : List ByteArray)[j]?).getD ⟨#[]⟩
theorem four {j : Nat} (h : j < 4) : j = 0 ∨ j = 1 ∨ j = 2 ∨ j = 3 := by omega
theorem spec_name {j : Nat} (h : j < 4) : M_spec_l10Name (j : Int) = some (nmS j) := by
  rcases four h with rfl | rfl | rfl | rfl <;> rfl
def StaN (b d : Nat) (plane : Bool) (s : Sta) : Prop := ∃ p q : Rat, s.x = rq p ∧ s.y = rq q ∧ Bd p b d ∧ Bd q b d ∧ (plane = false → q = 0)
def NetI (b d : Nat) (plane : Bool) (l : List Sta) : Prop := ∀ j (h : j < l.length), l[j].name = nmS j ∧ StaN b d plane l[j]
theorem netI_app {b d : Nat} {p : Bool} {l : List Sta} (h : NetI b d p l) {s : Sta} (h1 : s.name = nmS l.length) (h2 : StaN b d p s) : NetI b d p (l ++ [s]) := by
  intro j hj
  rw [List.length_append, List.length_singleton] at hj
  by_cases hl : j < l.length
  · rw [List.getElem_append_left hl]; exact h j hl
  · have : j = l.length := by omega
    subst this
    rw [List.getElem_append_right (Nat.le_refl _)]
    simp only [Nat.sub_self, List.getElem_cons_zero]
    exact ⟨h1, h2⟩
theorem draw_plane {c : Cur} (h : c.ok) {n fixed : Int} (h0 : 0 ≤ n) (h1 : n ≤ 4) : ∃ l c', M_spec_l10Plane c n fixed = some (⟨true, l⟩, c') ∧ NetI 100 1 true l ∧ l.length ≤ 4 := by
  unfold M_spec_l10Plane L_spec_l10Plane_0
  obtain ⟨r, hr, e1, e2, e3⟩ := whileO_meas (S := S_spec_l10Plane_0) (fun x => x.1 = n ∧ x.2.2.1 = (x.2.2.2.2.2.2.2.2.2.1.length : Int) ∧ x.2.2.1 ≤ n ∧ Cur.ok ⟨x.2.2.2.1, x.2.2.2.2.1, x.2.2.2.2.2.1⟩ ∧ x.2.2.2.2.2.2.2.2.1 = true ∧ NetI 100 1 true x.2.2.2.2.2.2.2.2.2.1) (fun x => (n - x.2.2.1).toNat) (fun r => r.2.2.2.2.2.1 = true ∧ NetI 100 1 true r.2.2.2.2.2.2.1 ∧ r.2.2.2.2.2.2.1.length ≤ 4)
    (by
      rintro ⟨m, fx, i, v, v1, v2, v3, v4, v5, xs, u⟩ ⟨k1, k2, k3, k4, k5, k6⟩
      simp only at k1 k2 k3 k4 k5 k6
      subst k1; subst k2; subst k5
      unfold S_spec_l10Plane_0
      simp only
      cases hc : decide ((xs.length : Int) < m) with
      | true =>
        have hl := of_decide_eq_true hc
        obtain ⟨a, c1, e1, a1, a2, g1⟩ := cur_below k4 (n := 9) (by omega)
        obtain ⟨b, c2, e2, b1, b2, g2⟩ := cur_below g1 (n := 9) (by omega)
        have hw : IntKind.i64.wrap ((xs.length : Int) * (xs.length : Int)) = (xs.length : Int) * (xs.length : Int) ∧ 0 ≤ (xs.length : Int) * (xs.length : Int) ∧ (xs.length : Int) * (xs.length : Int) ≤ 9 := by
          have : xs.length = 0 ∨ xs.length = 1 ∨ xs.length = 2 ∨ xs.length = 3 := by omega
          rcases this with e | e | e | e <;> rw [e] <;> exact ⟨rfl, by decide, by decide⟩
        simp only [cond_true, spec_name (show xs.length < 4 by omega), Option.bind_some, e1, e2]
        rw [hw.1, wrap_i64 (n := 10 * a) (by omega) (by omega), wrap_i64 (n := 10 * b) (by omega) (by omega), wrap_i64 (n := 10 * a + xs.length) (by omega) (by omega), wrap_i64 (n := 10 * b + (xs.length : Int) * (xs.length : Int)) (by omega) (by omega), spec_ratInt (by omega) (by omega), spec_ratInt (by omega) (by omega), room1 (show xs.length ≤ 2000000 by omega), wrap_i64 (n := (xs.length : Int) + 1) (by omega) (by omega)]
        have hst : StaN 100 1 true ⟨nmS xs.length, rq ((10 * a + (xs.length : Int) : Int) : Rat), rq ((10 * b + (xs.length : Int) * (xs.length : Int) : Int) : Rat), decide ((xs.length : Int) < fx)⟩ :=
          ⟨((10 * a + (xs.length : Int) : Int) : Rat), ((10 * b + (xs.length : Int) * (xs.length : Int) : Int) : Rat), rfl, rfl, (bd_int _).mono (by omega) (by omega), (bd_int _).mono (by omega) (by omega), fun h => by cases h⟩
        have happ := netI_app k6 (s := ⟨nmS xs.length, rq ((10 * a + (xs.length : Int) : Int) : Rat), rq ((10 * b + (xs.length : Int) * (xs.length : Int) : Int) : Rat), decide ((xs.length : Int) < fx)⟩) rfl hst
        simp only [Option.bind_some]
        refine .inl ⟨_, rfl, ⟨rfl, by simp, ?_, g2, rfl, happ⟩, ?_⟩
        · show (xs.length : Int) + 1 ≤ m; omega
        · show (m - ((xs.length : Int) + 1)).toNat < (m - (xs.length : Int)).toNat; omega
      | false => exact .inr ⟨_, rfl, rfl, k6, by show xs.length ≤ 4; omega⟩)
    (x := (n, fixed, 0, c.b, c.i, c.h, false, [], true, [], ())) ⟨rfl, rfl, h0, h, rfl, fun j hj => by simp at hj⟩
  rw [hr, Option.bind_some]
  obtain ⟨v, v1, v2, v3, v4, v5, xs, u⟩ := r
  simp only at e1 e2 e3
  subst e1
  exact ⟨xs, _, rfl, e2, e3⟩
theorem draw_heights {c : Cur} (h : c.ok) {n fixed : Int} (h0 : 0 ≤ n) (h1 : n ≤ 4) : ∃ l c', M_spec_l10Heights c n fixed = some (⟨false, l⟩, c') ∧ NetI 100 1 false l ∧ l.length ≤ 4 := by
  unfold M_spec_l10Heights L_spec_l10Heights_0
  obtain ⟨r, hr, e1, e2, e3⟩ := whileO_meas (S := S_spec_l10Heights_0) (fun x => x.1 = n ∧ x.2.2.1 = (x.2.2.2.2.2.2.2.2.2.1.length : Int) ∧ x.2.2.1 ≤ n ∧ Cur.ok ⟨x.2.2.2.1, x.2.2.2.2.1, x.2.2.2.2.2.1⟩ ∧ x.2.2.2.2.2.2.2.2.1 = false ∧ NetI 100 1 false x.2.2.2.2.2.2.2.2.2.1) (fun x => (n - x.2.2.1).toNat) (fun r => r.2.2.2.2.2.1 = false ∧ NetI 100 1 false r.2.2.2.2.2.2.1 ∧ r.2.2.2.2.2.2.1.length ≤ 4)
    (by
      rintro ⟨m, fx, i, v, v1, v2, v3, v4, v5, xs, u⟩ ⟨k1, k2, k3, k4, k5, k6⟩
      simp only at k1 k2 k3 k4 k5 k6
      subst k1; subst k2; subst k5
      unfold S_spec_l10Heights_0
      simp only
      cases hc : decide ((xs.length : Int) < m) with
      | true =>
        have hl := of_decide_eq_true hc
        obtain ⟨a, c1, e1, a1, a2, g1⟩ := cur_below k4 (n := 60) (by omega)
        simp only [cond_true, spec_name (show xs.length < 4 by omega), Option.bind_some, e1, spec_zero]
        rw [spec_ratInt (by omega) (by omega), room1 (show xs.length ≤ 2000000 by omega), wrap_i64 (n := (xs.length : Int) + 1) (by omega) (by omega)]
        have hst : StaN 100 1 false ⟨nmS xs.length, rq ((a : Int) : Rat), rq 0, decide ((xs.length : Int) < fx)⟩ :=
          ⟨((a : Int) : Rat), 0, rfl, rfl, (bd_int _).mono (by omega) (by omega), (bd_int 0).mono (by omega) (by omega), fun _ => rfl⟩
        have happ := netI_app k6 (s := ⟨nmS xs.length, rq ((a : Int) : Rat), rq 0, decide ((xs.length : Int) < fx)⟩) rfl hst
        simp only [Option.bind_some]
        refine .inl ⟨_, rfl, ⟨rfl, by simp, ?_, g1, rfl, happ⟩, ?_⟩
        · show (xs.length : Int) + 1 ≤ m; omega
        · show (m - ((xs.length : Int) + 1)).toNat < (m - (xs.length : Int)).toNat; omega
      | false => exact .inr ⟨_, rfl, rfl, k6, by show xs.length ≤ 4; omega⟩)
    (x := (n, fixed, 0, c.b, c.i, c.h, false, [], false, [], ())) ⟨rfl, rfl, h0, h, rfl, fun j hj => by simp at hj⟩
  rw [hr, Option.bind_some]
  obtain ⟨v, v1, v2, v3, v4, v5, xs, u⟩ := r
  simp only at e1 e2 e3
  subst e1
  exact ⟨xs, _, rfl, e2, e3⟩
theorem make_net {code : List Int} (h : code.length ≤ 1048576) : ∃ p l, M_spec_MakeNetwork code = some ⟨p, l⟩ ∧ NetI 100 1 p l ∧ l.length ≤ 4 := by
  unfold M_spec_MakeNetwork M_spec_l10Draw
  obtain ⟨c, e, k⟩ := cur_new h
  obtain ⟨a, c1, e1, a1, a2, k1⟩ := cur_below k (n := 5) (by omega)
  obtain ⟨b, c2, e2, b1, b2, k2⟩ := cur_below k1 (n := 3) (by omega)
  obtain ⟨w, c3, e3, k3⟩ := cur_once k2 (n := 2) (by omega)
  rw [e, Option.bind_some, e1, Option.bind_some]
  simp only [e2, e3, Option.bind_some]
  cases w with
  | true =>
    obtain ⟨l, c4, e4, i4, l4⟩ := draw_plane k3 (n := a) (fixed := b) a1 (by omega)
    rw [cond_true, e4, Option.bind_some]
    exact ⟨true, l, rfl, i4, l4⟩
  | false =>
    obtain ⟨l, c4, e4, i4, l4⟩ := draw_heights k3 (n := a) (fixed := b) a1 (by omega)
    rw [cond_false, e4, Option.bind_some]
    exact ⟨false, l, rfl, i4, l4⟩
end Go.Di
namespace Go.Di
theorem findSome_first {β : Type} {f : Nat → Option β} {n i : Nat} {b : β} (hi : i < n) (hf : f i = some b) (hlt : ∀ j, j < i → f j = none) : (List.range n).findSome? f = some b := by
  induction n with
  | zero => omega
  | succ n ih =>
    rw [List.range_succ, List.findSome?_append]
    by_cases h : i < n
    · rw [ih h]; rfl
    · have : i = n := by omega
      subst this
      have h0 : (List.range i).findSome? f = none := by
        rw [List.findSome?_eq_none_iff]; intro j hj; exact hlt j (List.mem_range.1 hj)
      rw [h0]; simp [hf]
theorem nm_ne {i j : Nat} (hj : j < i) (hi : i < 4) : nmS j ≠ nmS i := by
  rcases four hi with rfl | rfl | rfl | rfl <;> rcases four (show j < 4 by omega) with rfl | rfl | rfl | rfl <;> first | omega | decide
theorem nm_name {i : Nat} (hi : i < 4) : nameB (nmS i) = true := by
  rcases four hi with rfl | rfl | rfl | rfl <;> decide
theorem nm_size {i : Nat} (hi : i < 4) : (nmS i).size ≤ 8 := nameB_size (nm_name hi)
theorem StaN.fits {b d : Nat} {p : Bool} {s : Sta} (h : StaN b d p s) (hb : b ≤ 10 ^ 200) (hd : d ≤ 10 ^ 200) : s.fit := by
  obtain ⟨x, y, hx, hy, bx, bY, _⟩ := h
  have f1 : (rq x).fit := ro_fit (bx.fit hb hd).ok
  have f2 : (rq y).fit := ro_fit (bY.fit hb hd).ok
  exact ⟨by rw [hx]; exact f1, by rw [hy]; exact f2⟩
theorem net_fitN {b d : Nat} {p : Bool} {l : List Sta} (h : NetI b d p l) (hl : l.length ≤ 4) (hb : b ≤ 10 ^ 200) (hd : d ≤ 10 ^ 200) : lfit Sta.fitN l := by
  refine ⟨by omega, fun s hs => ?_⟩
  obtain ⟨i, hi, rfl⟩ := List.mem_iff_getElem.1 hs
  obtain ⟨h1, h2⟩ := h i hi
  refine ⟨h2.fits hb hd, ?_⟩
  have := nm_size (show i < 4 by omega)
  rw [h1]; omega
theorem netB_small {b d : Nat} {p : Bool} {l : List Sta} (h : NetI b d p l) (hl : l.length ≤ 4) (hb : b ≤ 10 ^ 200) (hd : d ≤ 10 ^ 200) : netB ⟨p, l⟩ = true := by
  unfold netB
  show (decide (l.length ≤ 8) && (List.range l.length).all (netP ⟨p, l⟩)) = true
  rw [decide_eq_true (show l.length ≤ 8 by omega), Bool.true_and, List.all_eq_true]
  intro i hi
  have hi := List.mem_range.1 hi
  unfold netP
  simp only [List.getElem?_eq_getElem hi]
  obtain ⟨h1, x, y, hx, hy, bx, bY, hp⟩ := h i hi
  have hs : staB l[i] p = true := by
    unfold staB
    rw [h1, nm_name (by omega), hx, hy, good_rq (bx.fit hb hd), good_rq (bY.fit hb hd)]
    cases p with
    | true => rfl
    | false => rw [hp rfl, rq_zero]; rfl
  have hf : findSta l l[i].name = (i : Int) := by
    unfold findSta
    rw [findSome_first hi (b := (i : Int)) (by simp only [List.getElem?_eq_getElem hi, eqB_self, cond_true]) (fun j hj => by
      have hjl : j < l.length := by omega
      simp only [List.getElem?_eq_getElem hjl, (h j hjl).1, h1, eqB_false.2 (nm_ne hj (show i < 4 by omega)), cond_false])]
    rfl
  rw [hs, hf]; simp
theorem fullB_small {b d : Nat} {p : Bool} {l : List Sta} (h : NetI b d p l) : fullB l = true := by
  unfold fullB
  rw [List.all_eq_true]
  intro i hi
  have hi := List.mem_range.1 hi
  unfold gapP
  simp only [List.getElem?_eq_getElem hi]
  obtain ⟨_, x, y, hx, hy, _⟩ := h i hi
  rw [hx, hy]
  have e1 : (((rq x).den.length : Int) == 0) = false := den_void (some x)
  have e2 : (((rq y).den.length : Int) == 0) = false := den_void (some y)
  rw [e1, e2]; rfl
theorem netO_small {b d : Nat} {p : Bool} {l : List Sta} (h : NetI b d p l) : netO p l = (⟨p, l⟩, true) := by
  unfold netO; rw [fullB_small h]; rfl
/-! ### Unknowns -/
theorem cntU_double (l : List Sta) : ∀ i, cntU true l i = 2 * cntU false l i
  | 0 => rfl
  | i + 1 => by
    unfold cntU
    rw [cntU_double l i]
    cases l[i]? with
    | none => rfl
    | some e => simp only [staU]; cases e.fixed <;> simp only [cond_true, cond_false] <;> omega
theorem cntU_same {p : Bool} {l m : List Sta} (h : ∀ j : Nat, (l[j]?).map Sta.fixed = (m[j]?).map Sta.fixed) : ∀ i, cntU p l i = cntU p m i
  | 0 => rfl
  | i + 1 => by
    unfold cntU
    rw [cntU_same h i]
    have hi := h i
    cases hl : l[i]? with
    | none =>
      cases hm : m[i]? with
      | none => rfl
      | some e => rw [hl, hm] at hi; cases hi
    | some e =>
      cases hm : m[i]? with
      | none => rw [hl, hm] at hi; cases hi
      | some f =>
        rw [hl, hm] at hi
        simp only [Option.map_some, Option.some.injEq] at hi
        simp only [staU, hi]
theorem unk_none {n : Net} {k : Int} {i j : Nat} (hj : j < i) (hi : i ≤ n.stations.length) (hk : (cntU n.plane n.stations i : Int) ≤ k) : unkName n k j = none := by
  have hjl : j < n.stations.length := by omega
  unfold unkName
  simp only [List.getElem?_eq_getElem hjl, firstU_at hjl]
  have h1 := cntU_succ (plane := n.plane) hjl
  have h2 := cntU_mono n.plane n.stations (show j + 1 ≤ i by omega)
  unfold staU at h1
  cases hf : n.stations[j].fixed with
  | true => rfl
  | false =>
    rw [hf] at h1
    simp only [cond_false] at h1 ⊢
    have h3 : cond n.plane 2 1 ≥ 1 := by cases n.plane <;> decide
    rw [decide_eq_true (show ((cntU n.plane n.stations j : Nat) : Int) ≥ 0 by omega), cond_true, beq_eq_false_iff_ne.2 (show ((cntU n.plane n.stations j : Nat) : Int) ≠ k by omega), cond_false]
    cases hp : n.plane with
    | false => rfl
    | true =>
      rw [hp] at h1 h2 hk
      simp only [cond_true] at h1 ⊢
      rw [beq_eq_false_iff_ne.2 (show ((cntU true n.stations j : Nat) : Int) + 1 ≠ k by omega), cond_false]
theorem name_at {n : Net} {i : Nat} (hi : i < n.stations.length) (hf : n.stations[i].fixed = false) : nameU n ((cntU n.plane n.stations i : Nat) : Int) = n.stations[i].name ++ (⟨#[46, 120]⟩ : ByteArray) := by
  unfold nameU
  rw [findSome_first hi (b := n.stations[i].name ++ (⟨#[46, 120]⟩ : ByteArray)) (by
    unfold unkName
    simp only [List.getElem?_eq_getElem hi, firstU_at hi, hf, cond_false, beq_self_eq_true, cond_true]
    rw [decide_eq_true (show ((cntU n.plane n.stations i : Nat) : Int) ≥ 0 by omega), cond_true]) (fun j hj => unk_none hj (by omega) (Int.le_refl _))]
  rfl
theorem name_past {n : Net} : nameU n ((cntU n.plane n.stations n.stations.length : Nat) : Int) = ⟨#[]⟩ := by
  unfold nameU
  have : (List.range n.stations.length).findSome? (unkName n ((cntU n.plane n.stations n.stations.length : Nat) : Int)) = none := by
    rw [List.findSome?_eq_none_iff]
    intro j hj
    exact unk_none (List.mem_range.1 hj) (Nat.le_refl _) (Int.le_refl _)
  rw [this]; rfl
/-! ### There and back -/
theorem addR_rq {a b : Rat} (ha : Fit a) (hb : Fit b) (h : Fit (a + b)) : addR (rq a) (rq b) = rq (a + b) := by
  unfold addR
  have e := impl_addO ha.ok hb.ok
  have e2 : addO (some a) (some b) = some (a + b) := chk_fit h
  rw [e2] at e
  have e' : M_impl_add (rq a) (rq b) = some (rq (a + b)) := e
  rw [e']; rfl
theorem mapTo_get {α : Type} {f : Nat → α → α} {a : List α} {j : Nat} (h : j < a.length) : (mapTo f a a.length)[j]'(by rw [len_mapTo]; exact h) = f j a[j] := by
  simp [mapTo, h]
theorem free_room {p : Bool} {l : List Sta} {j : Nat} (hj : j < l.length) (hf : l[j].fixed = false) : cntU p l j < cntU p l l.length ∧ (p = true → cntU p l j + 1 < cntU p l l.length) := by
  have h1 := cntU_succ (plane := p) hj
  have h2 := cntU_mono p l (show j + 1 ≤ l.length by omega)
  unfold staU at h1
  rw [hf] at h1
  simp only [cond_false] at h1
  cases p with
  | true => simp only [cond_true] at h1; exact ⟨by omega, fun _ => by omega⟩
  | false => simp only [cond_false] at h1; exact ⟨by omega, fun h => by cases h⟩
theorem q_get {q : List Rat} {i : Nat} (h : i < q.length) : ((q.map rq)[i]?).getD ⟨false, [], []⟩ = rq q[i] := by
  rw [List.getElem?_map, List.getElem?_eq_getElem h]; rfl
theorem mv_free {p : Bool} {l : List Sta} {q : List Rat} (hq : q.length = cntU p l l.length) {j : Nat} (hj : j < l.length) (hf : l[j].fixed = false) {s : Sta} (hs : s.fixed = false) :
    ∃ (h1 : cntU p l j < q.length), mvF p l (q.map rq) j s = ⟨s.name, addR s.x (rq q[cntU p l j]), cond p (addR s.y (rq ((q[cntU p l j + 1]?).getD 0))) s.y, s.fixed⟩ := by
  obtain ⟨h1, h2⟩ := free_room (p := p) hj hf
  refine ⟨by omega, ?_⟩
  unfold mvF
  rw [hs, cond_false, q_get (by omega)]
  cases p with
  | false => simp only [cond_false]
  | true =>
    have h3 := h2 rfl
    rw [q_get (by omega), List.getElem?_eq_getElem (by omega)]; simp only [cond_true, Option.getD_some]
theorem sum_back (a b : Rat) : a + b + -b = a := by grind
theorem move_net {p : Bool} {l : List Sta} (h : NetI 100 1 p l) {q : List Rat} (hq : q.length = cntU p l l.length) (hs : Small q) :
    NetI 620 6 p (mapTo (mvF p l (q.map rq)) l l.length) ∧ (∀ i, cntU p (mapTo (mvF p l (q.map rq)) l l.length) i = cntU p l i) ∧
      mapTo (mvF p (mapTo (mvF p l (q.map rq)) l l.length) ((q.map fun x => -x).map rq)) (mapTo (mvF p l (q.map rq)) l l.length) (mapTo (mvF p l (q.map rq)) l l.length).length = l := by
  have hlen : (mapTo (mvF p l (q.map rq)) l l.length).length = l.length := len_mapTo ..
  have sm : ∀ {i} (hi : i < q.length), Bd q[i] 20 6 := fun hi => hs _ (List.getElem_mem hi)
  have hget : ∀ {j} (hj : j < l.length), (mapTo (mvF p l (q.map rq)) l l.length)[j]'(by rw [hlen]; exact hj) = mvF p l (q.map rq) j l[j] := fun hj => mapTo_get hj
  have hfix : ∀ {j} (hj : j < l.length), (mvF p l (q.map rq) j l[j]).fixed = l[j].fixed := fun {j} hj => by
    unfold mvF
    cases hf : l[j].fixed with
    | true => rw [cond_true, hf]
    | false => rfl
  have hname : ∀ {j} (hj : j < l.length), (mvF p l (q.map rq) j l[j]).name = l[j].name := fun {j} hj => by
    unfold mvF
    cases l[j].fixed <;> rfl
  have hcnt : ∀ i, cntU p (mapTo (mvF p l (q.map rq)) l l.length) i = cntU p l i := cntU_same fun j => by
    by_cases hj : j < l.length
    · rw [List.getElem?_eq_getElem (by rw [hlen]; exact hj), hget hj, List.getElem?_eq_getElem hj]
      simp only [Option.map_some, hfix hj]
    · have e1 : l[j]? = none := List.getElem?_eq_none (by omega)
      have e2 : (mapTo (mvF p l (q.map rq)) l l.length)[j]? = none := List.getElem?_eq_none (by omega)
      rw [e1, e2]
  have hsta : ∀ {j} (hj : j < l.length), StaN 620 6 p (mvF p l (q.map rq) j l[j]) := fun {j} hj => by
    obtain ⟨_, x, y, hx, hy, bx, bY, hp⟩ := h j hj
    cases hf : l[j].fixed with
    | true =>
      have : mvF p l (q.map rq) j l[j] = l[j] := by unfold mvF; rw [hf]; rfl
      rw [this]
      exact ⟨x, y, hx, hy, bx.mono (by omega) (by omega), bY.mono (by omega) (by omega), hp⟩
    | false =>
      obtain ⟨h1, e⟩ := mv_free hq hj hf hf
      have h2 := (free_room (p := p) hj hf).2
      rw [e]
      have b1 := bd_add bx (sm h1)
      have f1 : addR (rq x) (rq q[cntU p l j]) = rq (x + q[cntU p l j]) := addR_rq (bx.fit (by decide) (by decide)) ((sm h1).fit (by decide) (by decide)) (fit_bd b1 (by decide) (by decide))
      by_cases hpp : p = true
      case neg =>
        have hpf : p = false := by cases p <;> simp_all
        subst hpf
        exact ⟨_, y, by rw [hx]; exact f1, hy, b1, bY.mono (by omega) (by omega), hp⟩
      case pos =>
        subst hpp
        have h3 : cntU true l j + 1 < q.length := by have := h2 rfl; omega
        have b2 := bd_add bY (sm h3)
        refine ⟨_, y + q[cntU true l j + 1], by rw [hx]; exact f1, ?_, b1, b2, fun h => by cases h⟩
        show addR l[j].y _ = _
        rw [hy, List.getElem?_eq_getElem h3]
        exact addR_rq (bY.fit (by decide) (by decide)) ((sm h3).fit (by decide) (by decide)) (fit_bd b2 (by decide) (by decide))
  refine ⟨?_, hcnt, ?_⟩
  · intro j hj
    have hj' : j < l.length := by rw [hlen] at hj; exact hj
    rw [hget hj']
    exact ⟨by rw [hname hj']; exact (h j hj').1, hsta hj'⟩
  · apply List.ext_getElem
    · rw [len_mapTo, hlen]
    · intro j h1 h2
      have hjR : j < (mapTo (mvF p l (q.map rq)) l l.length).length := by rw [hlen]; exact h2
      rw [mapTo_get hjR, hget h2]
      obtain ⟨_, x, y, hx, hy, bx, bY, hp⟩ := h j h2
      cases hf : l[j].fixed with
      | true =>
        have e : mvF p l (q.map rq) j l[j] = l[j] := by unfold mvF; rw [hf]; rfl
        rw [e]; unfold mvF; rw [hf]; rfl
      | false =>
        obtain ⟨k1, e⟩ := mv_free hq h2 hf hf
        have k2 := (free_room (p := p) h2 hf).2
        have hRf : (mapTo (mvF p l (q.map rq)) l l.length)[j].fixed = false := by rw [hget h2, hfix h2, hf]
        obtain ⟨k3, e'⟩ := mv_free (p := p) (l := mapTo (mvF p l (q.map rq)) l l.length) (q := q.map fun x => -x) (by rw [List.length_map, hlen, hcnt, hq]) hjR hRf (s := mvF p l (q.map rq) j l[j]) (by rw [hfix h2, hf])
        rw [e', e]
        simp only [hcnt, List.getElem_map]
        have b1 := bd_add bx (sm k1)
        have f1 := fit_bd b1 (by decide) (by decide)
        have fx : Fit x := bx.fit (by decide) (by decide)
        have fq := (sm k1).fit (by decide) (by decide)
        have a1 : addR l[j].x (rq q[cntU p l j]) = rq (x + q[cntU p l j]) := by rw [hx]; exact addR_rq fx fq f1
        have a2 : addR (rq (x + q[cntU p l j])) (rq (-q[cntU p l j])) = l[j].x := by
          rw [addR_rq f1 (fit_neg fq) (by rw [sum_back]; exact fx), sum_back, hx]
        rw [a1, a2]
        have hy2 : cond p (addR (cond p (addR l[j].y (rq ((q[cntU p l j + 1]?).getD 0))) l[j].y) (rq (((q.map fun x => -x)[cntU p l j + 1]?).getD 0))) (cond p (addR l[j].y (rq ((q[cntU p l j + 1]?).getD 0))) l[j].y) = l[j].y := by
          cases p with
          | false => rfl
          | true =>
            have h3 : cntU true l j + 1 < q.length := by have := k2 rfl; omega
            have b2 := bd_add bY (sm h3)
            have f2 := fit_bd b2 (by decide) (by decide)
            have fy : Fit y := bY.fit (by decide) (by decide)
            have fz := (sm h3).fit (by decide) (by decide)
            simp only [cond_true, List.getElem?_map, List.getElem?_eq_getElem h3, Option.map_some, Option.getD_some]
            rw [hy, addR_rq fy fz f2, addR_rq f2 (fit_neg fz) (by rw [sum_back]; exact fy), sum_back]
        rw [hy2]
end Go.Di
namespace Go.Di
theorem unkOf_at {p : Bool} {l : List Sta} (hb : netB ⟨p, l⟩ = true) {i : Nat} (hi : i < l.length) : unkOf ⟨p, l⟩ (i : Int) = cond l[i].fixed (-1) (cntU p l i : Int) := by
  unfold unkOf
  rw [hb, decide_eq_true (show (0 : Int) ≤ (i : Int) by omega), decide_eq_true (show (i : Int) < ((⟨p, l⟩ : Net).stations.length : Int) by simp only; omega)]
  simp only [Bool.and_self, cond_true, Int.toNat_natCast]
  exact firstU_at hi
theorem nets_loop {p : Bool} {l : List Sta} (K : Int) (hb : netB ⟨p, l⟩ = true) (hf : lfit Sta.fitN l) :
    whileO S_laws_FnNetworks_0 (K, 0, l, (l.length : Int), 0, p, l, ()) = some (.inr (K, ((cntU false l l.length : Nat) : Int), p, l, ())) := by
  have h8 : l.length ≤ 8 := netB_len hb
  refine whileO_upto S_laws_FnNetworks_0 (fun i => (K, ((cntU false l i : Nat) : Int), l, (l.length : Int), (i : Int), p, l, ())) l.length _ (fun i hi => ?_) (by simp [S_laws_FnNetworks_0])
  have hs := netB_sta hb hi
  have hn := (hf.2 _ (List.getElem_mem hi))
  have hfi : findSta l l[i].name = (i : Int) := by
    have hb' := hb
    unfold netB at hb'
    rw [Bool.and_eq_true, List.all_eq_true] at hb'
    have := hb'.2 i (List.mem_range.2 hi)
    unfold netP at this
    simp only [List.getElem?_eq_getElem hi, Bool.and_eq_true, beq_iff_eq] at this
    exact this.2
  have hne : ((i : Int) != (i : Int)) = false := by simp
  have h2i := cntU_le false l i
  have hsu := cntU_succ (plane := false) hi
  unfold staU at hsu
  have hw : IntKind.i64.wrap (((cntU false l i : Nat) : Int) + 1) = ((cntU false l i + 1 : Nat) : Int) := by rw [wrap_i64 (by omega) (by omega)]; omega
  simp only [S_laws_FnNetworks_0, dlt hi, cond_true, idx_at hi, Option.bind_some, impl_unkOf (n := ⟨p, l⟩) hf, unkOf_at hb hi, impl_find (n := ⟨p, l⟩) hf.1, hfi, hne, cond_false, impl_staOk p hn.1, hs, succ_wrap hi hf.1, hw]
  cases hx : l[i].fixed with
  | true =>
    rw [hx] at hsu
    simp only [cond_true] at hsu ⊢
    rw [hsu]; rfl
  | false =>
    rw [hx] at hsu
    simp only [cond_false] at hsu ⊢
    rw [decide_eq_false (show ¬ ((cntU p l i : Nat) : Int) < 0 by omega), decide_eq_true (show ((cntU p l i : Nat) : Int) ≥ 0 by omega), room_str hn.2, Option.bind_some, impl_nameU (n := ⟨p, l⟩) hf, hb]
    have hna := name_at (n := ⟨p, l⟩) hi hx
    simp only at hna
    simp only [cond_true, Option.bind_some, hna, strEq_self, Bool.not_true, cond_false, beq_self_eq_true, hsu]
theorem law_FnNetworks (code : List Int) (_ : CK.wf (.sl .byte) code) : M_laws_FnNetworks code = some true := by
  unfold M_laws_FnNetworks
  cases hc : decide ((code.length : Int) > 1048576) with
  | true => rfl
  | false =>
    have hl : code.length ≤ 1048576 := by have := of_decide_eq_false hc; omega
    obtain ⟨p, l, e1, hI, h4⟩ := make_net hl
    have hf := net_fitN hI h4 (by decide) (by decide)
    have hb := netB_small hI h4 (by decide) (by decide)
    have c8 := cntU_le p l l.length
    obtain ⟨q, e2, hq, hs⟩ := make_vec hl (n := 40) (by omega) (k := cntU p l l.length) (by omega)
    obtain ⟨m1, m2, m3⟩ := move_net hI hq hs
    have fq := hs.fits
    have v1 := lfit_rq fq (by omega)
    have k1 := q_vec fq (by omega)
    have mv1 := impl_move (n := ⟨p, l⟩) hf v1 hb k1 (by rw [List.length_map]; exact hq)
    have cu := impl_countU (n := ⟨p, l⟩) hf
    simp only [hb, cond_true] at cu mv1
    have hRl : (mapTo (mvF p l (q.map rq)) l l.length).length = l.length := len_mapTo ..
    generalize hR : mapTo (mvF p l (q.map rq)) l l.length = R at *
    have fR := net_fitN m1 (by omega) (by decide) (by decide)
    have bR := netB_small m1 (by omega) (by decide) (by decide)
    have nf := neg_fits fq
    have mv2 := impl_move (n := ⟨p, R⟩) fR (lfit_rq nf (by rw [List.length_map]; omega)) bR (q_vec nf (by rw [List.length_map]; omega)) (by simp only [List.length_map]; rw [m2, hRl]; exact hq)
    simp only [m3] at mv2
    rw [netO_small m1] at mv1
    rw [netO_small hI] at mv2
    have z := zero_vec (k := cntU p l l.length) (by omega)
    have sv := sub_vec fq (by omega)
    rw [hq] at sv
    have nu := impl_nameU (n := ⟨p, l⟩) hf ((cntU p l l.length : Nat) : Int)
    have np := name_past (n := ⟨p, l⟩)
    simp only at np
    rw [hb, cond_true, np] at nu
    have lp := nets_loop ((cntU p l l.length : Nat) : Int) hb hf
    simp only [cond_false, e1, e2, cu, mv1, mv2, z, sv, Option.bind_some, Bool.not_true, impl_netOk (n := ⟨p, l⟩) (fitN_fit hf), hb, impl_netEq (a := ⟨p, l⟩) (b := ⟨p, l⟩) (fitN_fit hf), eqB_self, nu, strEq_self, L_laws_FnNetworks_0, lp]
    cases p with
    | false => simp
    | true =>
      have h2 := cntU_double l l.length
      have hw : IntKind.i64.wrap (2 * ((cntU false l l.length : Nat) : Int)) = ((cntU true l l.length : Nat) : Int) := by rw [wrap_i64 (by omega) (by omega)]; omega
      simp only [hw, cond_true, beq_self_eq_true]
      cases (((cntU true l l.length : Nat) : Int) == ((cntU false l l.length : Nat) : Int)) <;> rfl
end Go.Di
