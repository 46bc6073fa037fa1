/-
  Own work: part 9 of the texts that the proof of the given statement leans on.
-/
import Derived.Test.YtkjfphfbpocijaaZMoveStationsP01
namespace Go.Di
def staU (plane : Bool) (e : Sta) : Nat := cond e.fixed 0 (cond plane 2 1)
def cntU (plane : Bool) (l : List Sta) : Nat → Nat
  | 0 => 0
  | i + 1 => cntU plane l i + (match l[i]? with
    | some e => staU plane e
    | none => 0)
theorem cntU_succ {plane : Bool} {l : List Sta} {i : Nat} (h : i < l.length) : cntU plane l (i + 1) = cntU plane l i + staU plane l[i] := by
  show cntU plane l i + _ = _
  rw [List.getElem?_eq_getElem h]
theorem cntU_le (plane : Bool) (l : List Sta) : ∀ i, cntU plane l i ≤ 2 * i
  | 0 => Nat.le_refl _
  | i + 1 => by
    have := cntU_le plane l i
    show cntU plane l i + _ ≤ _
    cases l[i]? with
    | none => simp only; omega
    | some e =>
      have h2 : staU plane e ≤ 2 := by unfold staU; cases e.fixed <;> cases plane <;> simp
      simp only; omega
theorem cntU_take (plane : Bool) (l : List Sta) (n : Nat) : ∀ i, i ≤ n → cntU plane (l.take n) i = cntU plane l i
  | 0, _ => rfl
  | i + 1, h => by
    show cntU plane (l.take n) i + _ = cntU plane l i + _
    rw [cntU_take plane l n i (by omega), List.getElem?_take_of_lt (by omega)]
theorem wrap_small {n : Int} (h : 0 ≤ n) (h2 : n ≤ 4611686018427387904) : IntKind.i64.wrap n = n := wrap_i64 (by omega) (by omega)
theorem impl_axes (p : Bool) : M_impl_axes p = some (cond p 2 1) := by unfold M_impl_axes; cases p <;> rfl
theorem spec_axes (n : Net) : M_spec_l10Axes n = some (cond n.plane 2 1) := by unfold M_spec_l10Axes; cases n.plane <;> rfl
theorem cnt_step {plane : Bool} {l : List Sta} {i : Nat} (h : i < l.length) (hl : l.length ≤ 1048576) : (cond (!l[i].fixed) (some (IntKind.i64.wrap ((cntU plane l i : Int) + cond plane 2 1))) (some (cntU plane l i : Int)) : Option Int) = some ((cntU plane l (i + 1) : Nat) : Int) := by
  have := cntU_le plane l i
  rw [cntU_succ h]
  unfold staU
  cases l[i].fixed with
  | true => simp
  | false =>
    cases plane <;> simp only [Bool.not_false, cond_true, cond_false] <;> rw [wrap_small (by omega) (by omega)] <;> congr 1
theorem spec_count10 {n : Net} (h : n.stations.length ≤ 1048576) : M_spec_l10Count n = some ((cntU n.plane n.stations n.stations.length : Nat) : Int) := by
  unfold M_spec_l10Count L_spec_l10Count_0
  have key := whileO_upto S_spec_l10Count_0 (fun i => (((cntU n.plane n.stations i : Nat) : Int), n.stations, (n.stations.length : Int), (i : Int), n.plane, n.stations, ())) n.stations.length (((cntU n.plane n.stations n.stations.length : Nat) : Int), ()) (fun i hi => by
    have hs := cnt_step (plane := n.plane) hi h
    simp only [S_spec_l10Count_0, dlt hi, cond_true, idx_at hi, Option.bind_some, spec_axes, succ_wrap hi h]
    cases hf : n.stations[i].fixed with
    | true => rw [hf] at hs; simp only [Bool.not_true, cond_false, Option.some.injEq] at hs ⊢; rw [hs]
    | false => rw [hf] at hs; simp only [Bool.not_false, cond_true, Option.some.injEq] at hs ⊢; rw [hs]) (by simp [S_spec_l10Count_0])
  exact congrArg (fun x => x.bind fun (k, _) => some k) key
theorem impl_count10 {n : Net} (h : n.stations.length ≤ 1048576) : M_impl_unknowns n = some ((cntU n.plane n.stations n.stations.length : Nat) : Int) := by
  unfold M_impl_unknowns L_impl_unknowns_0
  have key := whileO_upto S_impl_unknowns_0 (fun i => (((cntU n.plane n.stations i : Nat) : Int), n.stations, (n.stations.length : Int), (i : Int), n.plane, n.stations, ())) n.stations.length (((cntU n.plane n.stations n.stations.length : Nat) : Int), ()) (fun i hi => by
    have hs := cnt_step (plane := n.plane) hi h
    simp only [S_impl_unknowns_0, dlt hi, cond_true, idx_at hi, Option.bind_some, impl_axes, succ_wrap hi h]
    cases hf : n.stations[i].fixed with
    | true => rw [hf] at hs; simp only [Bool.not_true, cond_false, Option.some.injEq] at hs ⊢; rw [hs]
    | false => rw [hf] at hs; simp only [Bool.not_false, cond_true, Option.some.injEq] at hs ⊢; rw [hs]) (by simp [S_impl_unknowns_0])
  exact congrArg (fun x => x.bind fun (k, _) => some k) key
def firstU (plane : Bool) (l : List Sta) (i : Nat) : Int := match l[i]? with
  | some e => cond e.fixed (-1) (cntU plane l i : Int)
  | none => -1
theorem firstU_at {plane : Bool} {l : List Sta} {i : Nat} (h : i < l.length) : firstU plane l i = cond l[i].fixed (-1) (cntU plane l i : Int) := by
  unfold firstU; rw [List.getElem?_eq_getElem h]
theorem impl_first {n : Net} {i : Nat} (h : n.stations.length ≤ 1048576) (hi : i < n.stations.length) : M_impl_unknownOf n (i : Int) = some (firstU n.plane n.stations i) := by
  unfold M_impl_unknownOf
  rw [idx_at hi, Option.bind_some, firstU_at hi]
  cases n.stations[i].fixed with
  | true => rfl
  | false =>
    have hc : cut n.stations 0 i = n.stations.take i := by simp [cut]
    rw [cond_false, cond_false, inside_cut _ _ (by omega), Option.bind_some, Int.toNat_natCast, hc, impl_count10 (by simp; omega), Option.bind_some]
    simp only []
    rw [List.length_take, Nat.min_eq_left (by omega), cntU_take _ _ _ _ (Nat.le_refl _)]
theorem spec_first10 {n : Net} {i : Nat} (h : n.stations.length ≤ 1048576) (hi : i < n.stations.length) : M_spec_l10First n (i : Int) = some (firstU n.plane n.stations i) := by
  unfold M_spec_l10First L_spec_l10First_0
  have key := whileO_upto S_spec_l10First_0 (fun j => ((i : Int), ((cntU n.plane n.stations j : Nat) : Int), n.stations, (n.stations.length : Int), (j : Int), n.plane, n.stations, ())) i (.inl (firstU n.plane n.stations i, ())) (fun j hj => by
    have hjl : j < n.stations.length := by omega
    have hs := cnt_step (plane := n.plane) hjl h
    have hne : ((j : Int) == (i : Int)) = false := by rw [beq_eq_false_iff_ne]; omega
    simp only [S_spec_l10First_0, dlt hjl, cond_true, idx_at hjl, Option.bind_some, spec_axes, succ_wrap hjl h, hne, cond_false]
    cases hf : n.stations[j].fixed with
    | true => rw [hf] at hs; simp only [Bool.not_true, cond_false, Option.some.injEq] at hs ⊢; rw [hs]
    | false => rw [hf] at hs; simp only [Bool.not_false, cond_true, Option.some.injEq] at hs ⊢; rw [hs]) (by
    have he : ((i : Int) == (i : Int)) = true := by simp
    simp only [S_spec_l10First_0, dlt hi, cond_true, idx_at hi, Option.bind_some, he, firstU_at hi]
    cases n.stations[i].fixed <;> rfl)
  have := congrArg (fun x : Option ((Int × Unit) ⊕ Unit) => x.bind fun r => match r with
    | .inl (t, _) => some t
    | .inr _ => some (-1)) key
  exact this
end Go.Di
namespace Go.Di
/-! ### Marks -/
theorem size_one (n : Int) : (bytesOf [n]).size = 1 := rfl
theorem mark_loopT : ∀ (n : Nat) (k : Int) (out : ByteArray), k ≤ n → 0 ≤ k → out.size + n ≤ 4000000000 → ∃ b, whileO S_laws_markText_0 (k, out, ()) = some (b, ()) ∧ b.size ≤ out.size + n
  | n, k, out, h1, h0, hs => by
    by_cases hk : 0 < k
    · have hn : 0 < n := by omega
      have hq : k.tdiv 10 ≤ ((n / 10 : Nat) : Int) ∧ 0 ≤ k.tdiv 10 := by
        rw [Int.tdiv_eq_ediv_of_nonneg h0]; omega
      have hw : IntKind.i64.wrap (k.tdiv 10) = k.tdiv 10 := wrap_i64 (by omega) (by omega)
      have hg : guardO (Nat.ble ((bytesOf ([IntKind.u8.wrap (IntKind.i64.wrap (48 + (k.tmod 10)))] : List Int)).size + out.size) 4611686018427387904) = some () := by
        have : Nat.ble ((bytesOf ([IntKind.u8.wrap (IntKind.i64.wrap (48 + (k.tmod 10)))] : List Int)).size + out.size) 4611686018427387904 = true := Nat.ble_eq_true_of_le (by rw [size_one]; omega)
        rw [this]; rfl
      have hlt : n / 10 < n := by omega
      have hsz : ((bytesOf ([IntKind.u8.wrap (IntKind.i64.wrap (48 + (k.tmod 10)))] : List Int)) ++ out).size = 1 + out.size := by rw [ByteArray.size_append, size_one]
      obtain ⟨b, e, hb⟩ := mark_loopT (n / 10) (k.tdiv 10) ((bytesOf ([IntKind.u8.wrap (IntKind.i64.wrap (48 + (k.tmod 10)))] : List Int)) ++ out) hq.1 hq.2 (by rw [hsz]; omega)
      refine ⟨b, ?_, by rw [hsz] at hb; omega⟩
      rw [← e]
      refine whileO_inl ?_
      have hd : decide (k > 0) = true := decide_eq_true hk
      simp only [S_laws_markText_0, hd, cond_true, hg, Option.bind_some, hw]
    · have hd : decide (k > 0) = false := decide_eq_false hk
      exact ⟨out, whileO_inr (by simp only [S_laws_markText_0, hd, cond_false]), by omega⟩
theorem mark_text {k : Int} (h0 : 0 ≤ k) (h1 : k ≤ 3000000000) : ∃ b, M_laws_markText k = some b := by
  unfold M_laws_markText L_laws_markText_0
  cases decide (k ≤ 0) with
  | true => exact ⟨_, rfl⟩
  | false =>
    obtain ⟨b, e, hb⟩ := mark_loopT k.toNat k ⟨#[]⟩ (by omega) h0 (by show 0 + k.toNat ≤ 4000000000; omega)
    have hb : b.size ≤ 0 + k.toNat := hb
    simp only [cond_false, e, Option.bind_some]
    have : Nat.ble ((⟨#[109]⟩ : ByteArray).size + b.size) 4611686018427387904 = true := Nat.ble_eq_true_of_le (by show 1 + b.size ≤ _; omega)
    rw [this]; exact ⟨_, rfl⟩
def wS (s : Sta) : Nat := 4 + s.x.mag.length + s.x.den.length + s.y.mag.length + s.y.den.length
noncomputable def mkS (k : Int) (s : Sta) : Sta :=
  ⟨(M_laws_markText k).getD ⟨#[]⟩, ⟨((k + 1).tmod 3) == 0, upto (k + 2) s.x.mag.length, upto (k + 2 + s.x.mag.length) s.x.den.length⟩,
    ⟨((k + 2 + s.x.mag.length + s.x.den.length).tmod 3) == 0, upto (k + 2 + s.x.mag.length + s.x.den.length + 1) s.y.mag.length, upto (k + 2 + s.x.mag.length + s.x.den.length + 1 + s.y.mag.length) s.y.den.length⟩,
    ((k + 2 + s.x.mag.length + s.x.den.length + 1 + s.y.mag.length + s.y.den.length).tmod 3) == 0⟩
theorem mark_stas {a : List Sta} (ha : lfit Sta.fit a) (hw : ws wS a ≤ 1000000000) {k : Int} (h0 : 0 ≤ k) (h1 : k ≤ 1000000000) : M_laws_markStationS_md a k = some (k + (ws wS a : Nat), marks mkS wS k a) := by
  unfold M_laws_markStationS_md L_laws_markStationS_md_0
  rw [mark_loop (mk := mkS) (w := wS) (B := 2000000000) h0 (by omega) (fun i K c hi q0 q1 hl hc => ?_) (fun K c hl => by simp [S_laws_markStationS_md_0, hl])]
  · rfl
  · have hlt := lt_of_get hc
    have hf := ha.2 _ (List.getElem_mem hi)
    have f1 := hf.1.1
    have f2 := hf.1.2
    have f3 := hf.2.1
    have f4 := hf.2.2
    obtain ⟨b, hb⟩ := mark_text (k := K) q0 (by omega)
    generalize hx : a[i] = x at *
    have e1 : IntKind.i64.wrap (K + 1) = K + 1 := wrap_i64 (by omega) (by omega)
    have e2 : IntKind.i64.wrap (K + 1 + 1) = K + 2 := by rw [wrap_i64 (by omega) (by omega)]; omega
    have e5 : IntKind.i64.wrap (K + 2 + (x.x.mag.length : Int) + (x.x.den.length : Int) + 1) = K + 2 + (x.x.mag.length : Int) + (x.x.den.length : Int) + 1 := wrap_i64 (by omega) (by omega)
    have e6 : IntKind.i64.wrap (K + 2 + (x.x.mag.length : Int) + (x.x.den.length : Int) + 1 + (x.y.mag.length : Int) + (x.y.den.length : Int) + 1) = K + 2 + (x.x.mag.length : Int) + (x.x.den.length : Int) + 1 + (x.y.mag.length : Int) + (x.y.den.length : Int) + 1 := wrap_i64 (by omega) (by omega)
    simp only [S_laws_markStationS_md_0, dlt hlt, cond_true, hb, get_int hc, Option.bind_some, Int.toNat_natCast, hc, idx_set hlt, get_set hlt, List.set_set, e1, e2,
      mark_ints f1 (show 0 ≤ K + 2 by omega) (by omega), mark_ints f2 (show 0 ≤ K + 2 + (x.x.mag.length : Int) by omega) (by omega), e5,
      mark_ints f3 (show 0 ≤ K + 2 + (x.x.mag.length : Int) + (x.x.den.length : Int) + 1 by omega) (by omega),
      mark_ints f4 (show 0 ≤ K + 2 + (x.x.mag.length : Int) + (x.x.den.length : Int) + 1 + (x.y.mag.length : Int) by omega) (by omega), e6, succ_wrap hi ha.1, mkS, Option.getD_some]
    congr 3
    unfold wS; omega
theorem held_stas {a : List Sta} (ha : lfit Sta.fit a) (hw : ws wS a ≤ 1000000000) {k : Int} (h0 : 0 ≤ k) (h1 : k ≤ 1000000000) : M_laws_heldStationS (marks mkS wS k a) k = some (k + (ws wS a : Nat)) := by
  unfold M_laws_heldStationS L_laws_heldStationS_0
  rw [held_loop (mk := mkS) (w := wS) (B := 2000000000) h0 (by omega) (fun i K c hi q0 q1 hl hc => ?_) (fun K c hl => by simp [S_laws_heldStationS_0, hl])]
  · rfl
  · have hlt := lt_of_get hc
    have hf := ha.2 _ (List.getElem_mem hi)
    have f1 := hf.1.1
    have f2 := hf.1.2
    have f3 := hf.2.1
    have f4 := hf.2.2
    obtain ⟨b, hb⟩ := mark_text (k := K) q0 (by omega)
    generalize hx : a[i] = x at *
    have e1 : IntKind.i64.wrap (K + 1) = K + 1 := wrap_i64 (by omega) (by omega)
    have e2 : IntKind.i64.wrap (K + 1 + 1) = K + 2 := by rw [wrap_i64 (by omega) (by omega)]; omega
    have e5 : IntKind.i64.wrap (K + 2 + (x.x.mag.length : Int) + (x.x.den.length : Int) + 1) = K + 2 + (x.x.mag.length : Int) + (x.x.den.length : Int) + 1 := wrap_i64 (by omega) (by omega)
    have e6 : IntKind.i64.wrap (K + 2 + (x.x.mag.length : Int) + (x.x.den.length : Int) + 1 + (x.y.mag.length : Int) + (x.y.den.length : Int) + 1) = K + 2 + (x.x.mag.length : Int) + (x.x.den.length : Int) + 1 + (x.y.mag.length : Int) + (x.y.den.length : Int) + 1 := wrap_i64 (by omega) (by omega)
    simp only [S_laws_heldStationS_0, dlt hlt, cond_true, get_int hc, Option.bind_some, hb, e1, e2, e5, e6, mkS, Option.getD_some, strEq_self, beq_self_eq_true, Bool.not_true, cond_false,
      held_ints f1 (show 0 ≤ K + 2 by omega) (by omega), held_ints f2 (show 0 ≤ K + 2 + (x.x.mag.length : Int) by omega) (by omega),
      held_ints f3 (show 0 ≤ K + 2 + (x.x.mag.length : Int) + (x.x.den.length : Int) + 1 by omega) (by omega),
      held_ints f4 (show 0 ≤ K + 2 + (x.x.mag.length : Int) + (x.x.den.length : Int) + 1 + (x.y.mag.length : Int) by omega) (by omega), succ_wrap hi ha.1,
      dneg (show 0 ≤ K + 2 + (x.x.mag.length : Int) by omega), dneg (show 0 ≤ K + 2 + (x.x.mag.length : Int) + (x.x.den.length : Int) by omega),
      dneg (show 0 ≤ K + 2 + (x.x.mag.length : Int) + (x.x.den.length : Int) + 1 + (x.y.mag.length : Int) by omega),
      dneg (show 0 ≤ K + 2 + (x.x.mag.length : Int) + (x.x.den.length : Int) + 1 + (x.y.mag.length : Int) + (x.y.den.length : Int) by omega)]
    congr 4
    unfold wS; omega
theorem mark_net {n : Net} (ha : lfit Sta.fit n.stations) (hw : ws wS n.stations ≤ 1000000000) {k : Int} (h0 : 0 ≤ k) (h1 : k ≤ 1000000000) : M_laws_markNetwork_md n k = some (k + (ws wS n.stations : Nat), marks mkS wS k n.stations) := by
  unfold M_laws_markNetwork_md
  rw [mark_stas ha hw h0 h1]; rfl
theorem held_net {a : List Sta} {p : Bool} (ha : lfit Sta.fit a) (hw : ws wS a ≤ 1000000000) {k : Int} (h0 : 0 ≤ k) (h1 : k ≤ 1000000000) : M_laws_heldNetwork ⟨p, marks mkS wS k a⟩ k = some (k + (ws wS a : Nat)) := by
  unfold M_laws_heldNetwork
  simp only [held_stas ha hw h0 h1, Option.bind_some]
  rw [dneg (by omega)]; rfl
structure Sfit (l : List Sta) : Prop where
  fit : lfit Sta.fit l
  few : ws wS l ≤ 1000000000
theorem wS_le (l : List Sta) : ws wS l ≤ 4 * l.length + (l.map Sta.sz).sum := by
  unfold ws
  induction l with
  | nil => exact Nat.le_refl _
  | cons r l ih => simp only [List.map_cons, List.sum_cons, List.length_cons]; unfold wS Sta.sz Rt.sz at *; omega
theorem sfit_lsz {l : List Sta} (h : lsz Sta.sz l ≤ 1048576) : Sfit l := ⟨lfit_of (f := Sta.sz) (fun _ => Sta.fit_of) h, by have := wS_le l; unfold lsz at h; omega⟩
theorem sfit_small {l : List Sta} (hl : l.length ≤ 8) (h : ∀ s ∈ l, s.x.sz ≤ 48 ∧ s.y.sz ≤ 48) : Sfit l := by
  have fitOf : ∀ r : Rt, r.sz ≤ 48 → r.fit := fun r hr => Rt.fit_of (by omega)
  refine ⟨⟨by omega, fun s hs => ⟨fitOf _ (h s hs).1, fitOf _ (h s hs).2⟩⟩, ?_⟩
  have : ws wS l ≤ 100 * l.length := by
    clear hl
    unfold ws
    induction l with
    | nil => simp
    | cons r l ih =>
      have h1 := ih fun x hx => h x (List.mem_cons_of_mem _ hx)
      have h2 := h r (List.mem_cons_self ..)
      have e : wS r = 4 + r.x.mag.length + r.x.den.length + r.y.mag.length + r.y.den.length := rfl
      simp only [List.map_cons, List.sum_cons, List.length_cons, e]; unfold Rt.sz at h2; omega
  omega
theorem sfit_nil : Sfit [] := sfit_small (by simp) fun s h => by cases h
/-! ### Lists whose first elements are changed -/
def mapTo {α : Type} (f : Nat → α → α) (a : List α) (i : Nat) : List α := a.mapIdx fun j x => if j < i then f j x else x
theorem len_mapTo {α : Type} (f : Nat → α → α) (a : List α) (i : Nat) : (mapTo f a i).length = a.length := by simp [mapTo]
theorem mapTo_zero {α : Type} (f : Nat → α → α) (a : List α) : mapTo f a 0 = a := by
  apply List.ext_getElem?
  intro j
  simp only [mapTo, List.getElem?_mapIdx, Nat.not_lt_zero, if_false]
  cases a[j]? <;> rfl
theorem mapTo_at {α : Type} (f : Nat → α → α) (a : List α) {i : Nat} (h : i < a.length) : (mapTo f a i)[i]? = some a[i] := by
  simp [mapTo, h]
theorem mapTo_step {α : Type} (f : Nat → α → α) (a : List α) {i : Nat} (h : i < a.length) : (mapTo f a i).set i (f i a[i]) = mapTo f a (i + 1) := by
  apply List.ext_getElem?
  intro j
  rw [List.getElem?_set]
  simp only [mapTo, List.getElem?_mapIdx, List.length_mapIdx]
  by_cases hj : i = j
  · subst hj; simp [h]
  · rw [if_neg hj]
    by_cases hlt : j < i
    · simp [hlt, show j < i + 1 by omega]
    · simp [hlt, show ¬ j < i + 1 by omega]
theorem mapTo_keep {α : Type} (f : Nat → α → α) (a : List α) {i : Nat} (h : i < a.length) (hf : f i a[i] = a[i]) : mapTo f a (i + 1) = mapTo f a i := by
  rw [← mapTo_step f a h, hf]
  apply List.ext_getElem?
  intro j
  rw [List.getElem?_set]
  split
  · rename_i e; subst e
    rw [mapTo_at f a h, if_pos (by rw [len_mapTo]; exact h)]
  · rfl
theorem mapTo_mem {α : Type} {f : Nat → α → α} {a : List α} {x : α} (h : x ∈ mapTo f a a.length) : ∃ (j : Nat) (hj : j < a.length), x = f j a[j] := by
  obtain ⟨j, hj⟩ := List.getElem?_of_mem h
  have hl := lt_of_get hj
  rw [len_mapTo] at hl
  refine ⟨j, hl, ?_⟩
  simp only [mapTo, List.getElem?_mapIdx, List.getElem?_eq_getElem hl, Option.map_some, hl, if_true, Option.some.injEq] at hj
  exact hj.symm
/-! ### Copies -/
theorem impl_copyNet {n : Net} (h : lfit Sta.fit n.stations) : M_impl_copyNetwork n = some n := by
  unfold M_impl_copyNetwork L_impl_copyNetwork_0
  have h1 := h.1
  rw [app_loop (S := S_impl_copyNetwork_0) (fun i out => (n.stations, (n.stations.length : Int), i, false, [], n.plane, out, ())) (fun i => (n.stations[i]?).getD ⟨⟨#[]⟩, ⟨false, [], []⟩, ⟨false, [], []⟩, false⟩) n.stations.length (r := fun out => (false, [], n.plane, out, ())) (fun i out hi ho => by
    have hg : n.stations[i]? = some n.stations[i] := List.getElem?_eq_getElem hi
    have hf := h.2 _ (List.getElem_mem hi)
    simp only [S_impl_copyNetwork_0, dlt hi, cond_true, idx_at hi, Option.bind_some, impl_copyRat hf.1, impl_copyRat hf.2, room1 (show out.length ≤ 2000000 by omega), succ_wrap hi h.1, hg, Option.getD_some]) (fun out _ => by simp [S_impl_copyNetwork_0]), range_get]
  rfl
theorem spec_copyNet {n : Net} (h : lfit Sta.fit n.stations) : M_spec_l10Copy n = some n := by
  unfold M_spec_l10Copy L_spec_l10Copy_0
  have h1 := h.1
  rw [app_loop (S := S_spec_l10Copy_0) (fun i out => (n.stations, (n.stations.length : Int), i, false, [], n.plane, out, ())) (fun i => (n.stations[i]?).getD ⟨⟨#[]⟩, ⟨false, [], []⟩, ⟨false, [], []⟩, false⟩) n.stations.length (r := fun out => (false, [], n.plane, out, ())) (fun i out hi ho => by
    have hg : n.stations[i]? = some n.stations[i] := List.getElem?_eq_getElem hi
    have hf := h.2 _ (List.getElem_mem hi)
    simp only [S_spec_l10Copy_0, dlt hi, cond_true, idx_at hi, Option.bind_some, spec_copyRat hf.1, spec_copyRat hf.2, room1 (show out.length ≤ 2000000 by omega), succ_wrap hi h.1, hg, Option.getD_some]) (fun out _ => by simp [S_spec_l10Copy_0]), range_get]
  rfl
/-! ### Sums -/
noncomputable def addR (a b : Rt) : Rt := (M_impl_add a b).getD ⟨false, [], []⟩
theorem addR_good {a b : Rt} (ha : Good a) (hb : Good b) : M_impl_add a b = some (addR a b) ∧ M_spec_l04Add a b = some (addR a b) ∧ (addR a b).sz ≤ 48 := by
  obtain ⟨p, hp, rfl⟩ := ha
  obtain ⟨q, hq, rfl⟩ := hb
  have h1 := impl_addO hp.ok hq.ok
  have h2 := spec_addO hp.ok hq.ok
  have e : addR (rq p) (rq q) = ro (addO (some p) (some q)) := by
    unfold addR
    rw [show rq p = ro (some p) from rfl, show rq q = ro (some q) from rfl, h1]; rfl
  rw [e]
  exact ⟨h1, h2, ro_sz oks_addO⟩
theorem good_sz {a : Rt} (h : Good a) : a.sz ≤ 48 := by
  obtain ⟨q, hq, rfl⟩ := h
  exact rq_sz hq
theorem staB_good {s : Sta} {p : Bool} (h : staB s p = true) : Good s.x ∧ Good s.y := by
  unfold staB at h
  simp only [Bool.and_eq_true, pB_iff] at h
  exact ⟨h.2.1, h.2.2.1⟩
def gapP (l : List Sta) (i : Nat) : Bool := match l[i]? with
  | some s => !(((s.x.den.length : Int) == 0) || ((s.y.den.length : Int) == 0))
  | none => true
def fullB (l : List Sta) : Bool := (List.range l.length).all (gapP l)
theorem impl_full {p : Bool} {l : List Sta} (h : l.length ≤ 1048576) : M_impl_stationsComplete ⟨p, l⟩ = some (fullB l) := by
  unfold M_impl_stationsComplete L_impl_stationsComplete_0
  have key := all_loopE (S := S_impl_stationsComplete_0) (fun i => (l, (l.length : Int), (i : Int), ())) l.length (gapP l) () (fun i hi => by
    have hg : l[i]? = some l[i] := List.getElem?_eq_getElem hi
    simp only [S_impl_stationsComplete_0, dlt hi, cond_true, idx_at hi, Option.bind_some, M_impl_void, gapP, hg, succ_wrap hi h]
    cases ((l[i].x.den.length : Int) == 0) <;> cases ((l[i].y.den.length : Int) == 0) <;> rfl) (by simp [S_impl_stationsComplete_0])
  rw [show ((0 : Nat) : Int) = 0 from rfl] at key
  simp only []
  rw [key]
  show _ = some ((List.range l.length).all (gapP l))
  cases (List.range l.length).all (gapP l) <;> rfl
theorem spec_full {p : Bool} {l : List Sta} (h : l.length ≤ 1048576) : M_spec_l10Done ⟨p, l⟩ = some (cond (fullB l) (⟨p, l⟩, true) (⟨false, []⟩, false)) := by
  unfold M_spec_l10Done L_spec_l10Done_0
  have hb : ∀ r : Rt, M_spec_l05Bad r = some ((r.den.length : Int) == 0) := fun r => rfl
  have key := find_loop (S := S_spec_l10Done_0) (fun i => (l, (l.length : Int), (i : Int), p, l, false, [], ())) l.length (fun i => cond (gapP l i) none (some (.inl (false, false, [], ())))) (.inr (p, l, false, [], ())) (fun i hi => by
    have hg : l[i]? = some l[i] := List.getElem?_eq_getElem hi
    simp only [S_spec_l10Done_0, dlt hi, cond_true, idx_at hi, Option.bind_some, hb, gapP, hg, succ_wrap hi h]
    cases ((l[i].x.den.length : Int) == 0) <;> cases ((l[i].y.den.length : Int) == 0) <;> rfl) (by simp [S_spec_l10Done_0])
  rw [show ((0 : Nat) : Int) = 0 from rfl] at key
  simp only []
  rw [key, Option.bind_some]
  have : ((List.range l.length).findSome? fun i => cond (gapP l i) none (some (Sum.inl (β := Bool × List Sta × Bool × List Sta × Unit) (false, false, ([] : List Sta), ())))) = cond (fullB l) none (some (.inl (false, false, [], ()))) := by
    unfold fullB
    cases ha : (List.range l.length).all (gapP l) with
    | true =>
      rw [cond_true, List.findSome?_eq_none_iff]
      intro i hi
      rw [List.all_eq_true.1 ha i hi]; rfl
    | false =>
      cases hf : (List.range l.length).findSome? fun i => cond (gapP l i) none (some (Sum.inl (β := Bool × List Sta × Bool × List Sta × Unit) (false, false, ([] : List Sta), ()))) with
      | none =>
        rw [List.findSome?_eq_none_iff] at hf
        have : (List.range l.length).all (gapP l) = true := List.all_eq_true.2 fun i hi => by
          have := hf i hi
          cases hg : gapP l i with
          | true => rfl
          | false => rw [hg] at this; cases this
        rw [this] at ha; cases ha
      | some y =>
        obtain ⟨i, _, hi⟩ := List.exists_of_findSome?_eq_some hf
        cases hg : gapP l i with
        | true => rw [hg] at hi; cases hi
        | false => rw [hg] at hi; simpa using hi.symm
  rw [this]
  cases fullB l <;> rfl
noncomputable def netO (p : Bool) (l : List Sta) : Net × Bool := cond (fullB l) (⟨p, l⟩, true) (⟨false, []⟩, false)
theorem netO_fit {p : Bool} {l : List Sta} (h : Sfit l) : Sfit (netO p l).1.stations := by
  unfold netO
  cases fullB l
  · exact sfit_nil
  · exact h
/-! ### Shifted networks -/
/-! ### Moved networks -/
theorem cntU_mono (p : Bool) (l : List Sta) : ∀ {i n : Nat}, i ≤ n → cntU p l i ≤ cntU p l n
  | i, 0, h => by have : i = 0 := by omega
                  subst this; exact Nat.le_refl _
  | i, n + 1, h => by
    by_cases hi : i = n + 1
    · subst hi; exact Nat.le_refl _
    · exact Nat.le_trans (cntU_mono p l (show i ≤ n by omega)) (Nat.le_add_right _ _)
noncomputable def mvF (p : Bool) (l : List Sta) (v : List Rt) (i : Nat) (s : Sta) : Sta :=
  cond s.fixed s ⟨s.name, addR s.x ((v[cntU p l i]?).getD ⟨false, [], []⟩), cond p (addR s.y ((v[cntU p l i + 1]?).getD ⟨false, [], []⟩)) s.y, s.fixed⟩
theorem move_both {n : Net} (hn : lfit Sta.fitN n.stations) {v : List Rt} (hv : lfit Rt.fit v) : ∃ m b, M_spec_MoveStations n v = some (m, b) ∧ M_impl_MoveStations n v = some (m, b) ∧ Sfit m.stations := by
  have hn' := fitN_fit hn
  have no : ∀ {s i : Option (Net × Bool)}, s = some (⟨false, []⟩, false) → i = some (⟨false, []⟩, false) → ∃ m b, s = some (m, b) ∧ i = some (m, b) ∧ Sfit m.stations := fun h1 h2 => ⟨_, _, h1, h2, sfit_nil⟩
  cases hb : netB n with
  | false => exact no (by unfold M_spec_MoveStations; rw [spec_netOk hn, hb]; rfl) (by unfold M_impl_MoveStations; rw [impl_netOk hn', hb]; rfl)
  | true =>
  cases kv : vecB v with
  | false => exact no (by unfold M_spec_MoveStations; rw [spec_netOk hn, hb, spec_isVec hv, kv]; rfl) (by unfold M_impl_MoveStations; rw [impl_netOk hn', hb, impl_isVec hv, kv]; rfl)
  | true =>
  have h8 := netB_len hb
  cases kl : ((v.length : Int) != ((cntU n.plane n.stations n.stations.length : Nat) : Int)) with
  | true => exact no (by unfold M_spec_MoveStations; rw [spec_netOk hn, hb, spec_isVec hv, kv, spec_count10 hn.1]; simp only [Option.bind_some, Bool.not_true, cond_false, kl]; rfl) (by unfold M_impl_MoveStations; rw [impl_netOk hn', hb, impl_isVec hv, kv, impl_count10 hn.1]; simp only [Option.bind_some, Bool.not_true, cond_false, kl]; rfl)
  | false =>
  have hvl : v.length = cntU n.plane n.stations n.stations.length := by rw [i64_ne] at kl; simpa using kl
  have gv : ∀ i (hi : i < v.length), Good v[i] := fun i hi => by
    unfold vecB at kv
    rw [Bool.and_eq_true, List.all_eq_true] at kv
    exact pB_iff.1 (kv.2 _ (List.getElem_mem hi))
  have hg : ∀ i (hi : i < n.stations.length), Good n.stations[i].x ∧ Good n.stations[i].y := fun i hi => staB_good (netB_sta hb hi)
  have hroom : ∀ i (hi : i < n.stations.length), n.stations[i].fixed = false → ∃ x0, v[cntU n.plane n.stations i]? = some x0 ∧ Good x0 ∧ (n.plane = true → ∃ x1, v[cntU n.plane n.stations i + 1]? = some x1 ∧ Good x1 ∧ cntU n.plane n.stations i + 1 < v.length) := fun i hi hf => by
    have h1 := cntU_succ (plane := n.plane) hi
    have h2 := cntU_mono n.plane n.stations (show i + 1 ≤ n.stations.length by omega)
    unfold staU at h1
    rw [hf] at h1
    have h3 : cntU n.plane n.stations i < v.length ∧ (n.plane = true → cntU n.plane n.stations i + 1 < v.length) := by
      cases hp : n.plane with
      | true => rw [hp] at h1 h2 hvl; simp only [cond_true, cond_false] at h1; exact ⟨by omega, fun _ => by omega⟩
      | false => rw [hp] at h1 h2 hvl; simp only [cond_false] at h1; exact ⟨by omega, fun h => by cases h⟩
    exact ⟨_, List.getElem?_eq_getElem h3.1, gv _ h3.1, fun hp => ⟨_, List.getElem?_eq_getElem (h3.2 hp), gv _ (h3.2 hp), h3.2 hp⟩⟩
  let R := mapTo (mvF n.plane n.stations v) n.stations n.stations.length
  have hR : Sfit R := by
    refine sfit_small (by simp only [R]; rw [len_mapTo]; exact h8) fun s hs => ?_
    obtain ⟨j, hj, rfl⟩ := mapTo_mem hs
    unfold mvF
    cases hf : n.stations[j].fixed with
    | true => exact ⟨good_sz (hg j hj).1, good_sz (hg j hj).2⟩
    | false =>
      obtain ⟨x0, e0, g0, r2⟩ := hroom j hj hf
      simp only [cond_false, e0, Option.getD_some]
      refine ⟨(addR_good (hg j hj).1 g0).2.2, ?_⟩
      cases hp : n.plane with
      | false => exact good_sz (hg j hj).2
      | true =>
        obtain ⟨x1, e1, g1, _⟩ := r2 hp
        rw [hp] at e1
        rw [e1]
        exact (addR_good (hg j hj).2 g1).2.2
  have hRl : R.length = n.stations.length := len_mapTo ..
  refine ⟨(netO n.plane R).1, (netO n.plane R).2, ?_, ?_, netO_fit hR⟩
  · unfold M_spec_MoveStations M_spec_l10Move L_spec_l10Move_0
    rw [spec_netOk hn, hb, spec_isVec hv, kv, spec_count10 hn.1]
    simp only [Option.bind_some, Bool.not_true, cond_false, kl]
    rw [spec_copyNet hn', Option.bind_some]
    have key := whileO_upto S_spec_l10Move_0 (fun i => (v, n.stations, (n.stations.length : Int), (i : Int), n.plane, n.stations, false, [], n.plane, mapTo (mvF n.plane n.stations v) n.stations i, ())) n.stations.length (false, [], n.plane, R, ()) (fun i hi => by
      have hc : i < (mapTo (mvF n.plane n.stations v) n.stations i).length := by rw [len_mapTo]; exact hi
      have hsw := succ_wrap hi (show n.stations.length ≤ 1048576 by omega)
      simp only [S_spec_l10Move_0, dlt hi, cond_true, idx_at hi, Option.bind_some, spec_first10 (n := ⟨n.plane, n.stations⟩) hn.1 hi, firstU_at hi, hsw]
      cases hf : n.stations[i].fixed with
      | true =>
        rw [mapTo_keep (mvF n.plane n.stations v) n.stations hi (by unfold mvF; rw [hf]; rfl)]; rfl
      | false =>
        obtain ⟨x0, e0, g0, r2⟩ := hroom i hi hf
        have hd : decide (((cntU n.plane n.stations i : Nat) : Int) < 0) = false := decide_eq_false (by omega)
        have a1 := (addR_good (hg i hi).1 g0).2.1
        simp only [cond_false, hd, get_int e0, Option.bind_some, a1, get_int (mapTo_at (mvF n.plane n.stations v) n.stations hi), Int.toNat_natCast, mapTo_at (mvF n.plane n.stations v) n.stations hi]
        rw [← mapTo_step (mvF n.plane n.stations v) n.stations hi]
        have em : mvF n.plane n.stations v i n.stations[i] = ⟨n.stations[i].name, addR n.stations[i].x x0, cond n.plane (addR n.stations[i].y ((v[cntU n.plane n.stations i + 1]?).getD ⟨false, [], []⟩)) n.stations[i].y, n.stations[i].fixed⟩ := by
          unfold mvF; rw [hf, e0]; rfl
        rw [em]
        cases hp : n.plane with
        | false => simp only [cond_false]
        | true =>
          obtain ⟨x1, e1, g1, r3⟩ := r2 hp
          rw [hp] at e1 r3 hc
          have hw : IntKind.i64.wrap (((cntU true n.stations i : Nat) : Int) + 1) = ((cntU true n.stations i + 1 : Nat) : Int) := by
            have := hv.1
            rw [wrap_i64 (by omega) (by omega)]; omega
          have a2 := (addR_good (hg i hi).2 g1).2.1
          simp only [cond_true, hw, get_int e1, Option.bind_some, a2, idx_set hc, get_set hc, List.set_set, e1, Option.getD_some]) (by simp [S_spec_l10Move_0, R])
    rw [mapTo_zero, show ((0 : Nat) : Int) = 0 from rfl] at key
    rw [key, Option.bind_some]
    show ((M_spec_l10Done ⟨n.plane, R⟩).bind _).bind _ = _
    rw [spec_full (by omega)]; rfl
  · unfold M_impl_MoveStations L_impl_MoveStations_0
    rw [impl_netOk hn', hb, impl_isVec hv, kv, impl_count10 hn.1]
    simp only [Option.bind_some, Bool.not_true, cond_false, kl]
    rw [impl_copyNet hn', Option.bind_some]
    have key := whileO_upto S_impl_MoveStations_0 (fun i => (v, (n.stations.length : Int), (i : Int), n.plane, n.stations, false, [], n.plane, mapTo (mvF n.plane n.stations v) n.stations i, ())) n.stations.length (false, [], n.plane, R, ()) (fun i hi => by
      have hc : i < (mapTo (mvF n.plane n.stations v) n.stations i).length := by rw [len_mapTo]; exact hi
      have hsw := succ_wrap hi (show n.stations.length ≤ 1048576 by omega)
      simp only [S_impl_MoveStations_0, dlt hi, cond_true, Option.bind_some, impl_first (n := ⟨n.plane, n.stations⟩) hn.1 hi, firstU_at hi, hsw, get_int (mapTo_at (mvF n.plane n.stations v) n.stations hi)]
      cases hf : n.stations[i].fixed with
      | true =>
        rw [mapTo_keep (mvF n.plane n.stations v) n.stations hi (by unfold mvF; rw [hf]; rfl)]; rfl
      | false =>
        obtain ⟨x0, e0, g0, r2⟩ := hroom i hi hf
        have hd : decide (((cntU n.plane n.stations i : Nat) : Int) < 0) = false := decide_eq_false (by omega)
        have a1 := (addR_good (hg i hi).1 g0).1
        simp only [cond_false, hd, get_int e0, Option.bind_some, a1, get_int (mapTo_at (mvF n.plane n.stations v) n.stations hi), Int.toNat_natCast, mapTo_at (mvF n.plane n.stations v) n.stations hi]
        rw [← mapTo_step (mvF n.plane n.stations v) n.stations hi]
        have em : mvF n.plane n.stations v i n.stations[i] = ⟨n.stations[i].name, addR n.stations[i].x x0, cond n.plane (addR n.stations[i].y ((v[cntU n.plane n.stations i + 1]?).getD ⟨false, [], []⟩)) n.stations[i].y, n.stations[i].fixed⟩ := by
          unfold mvF; rw [hf, e0]; rfl
        rw [em]
        cases hp : n.plane with
        | false => simp only [cond_false]
        | true =>
          obtain ⟨x1, e1, g1, r3⟩ := r2 hp
          rw [hp] at e1 r3 hc
          have hw : IntKind.i64.wrap (((cntU true n.stations i : Nat) : Int) + 1) = ((cntU true n.stations i + 1 : Nat) : Int) := by
            have := hv.1
            rw [wrap_i64 (by omega) (by omega)]; omega
          have a2 := (addR_good (hg i hi).2 g1).1
          simp only [cond_true, hw, get_int e1, Option.bind_some, a2, idx_set hc, get_set hc, List.set_set, e1, Option.getD_some]) (by simp [S_impl_MoveStations_0, R])
    rw [mapTo_zero, show ((0 : Nat) : Int) = 0 from rfl] at key
    rw [key, Option.bind_some]
    show ((M_impl_stationsComplete ⟨n.plane, R⟩).bind _) = _
    rw [impl_full (by omega), Option.bind_some]
    unfold netO
    cases fullB R <;> rfl
end Go.Di
namespace Go.Di
theorem sz_go {x : Option Int} {left : Int} {n : Nat} {k : Int → Option Bool} (h : SzR x left n) (hk : ∀ r : Int, 0 ≤ r → r + n = left → k r = some true) :
    (x.bind fun r => cond (decide (r < 0)) (some true) (k r)) = some true := by
  rcases h with rfl | ⟨r, h0, h1, rfl⟩
  · rfl
  · have : decide (r < 0) = false := by simpa using h0
    simp only [Option.bind_some, this, cond_false, hk r h0 h1]
end Go.Di
namespace Go.Di
end Go.Di
namespace Go.Di
theorem law_MoveStations (n : Net) (v : List Rt) (h : CK.wf (.sl .sta) n.stations) (h1 : CK.wf (.sl .rat) v) : M_laws_FnExactMoveStations n v = some true := by
  unfold M_laws_FnExactMoveStations
  refine sz_go (sz_net h (by omega) (by omega)) fun r r0 r1 => sz_go (sz_rats h1 r0 (by omega)) fun r' q0 q1 => ?_
  have fn : lfit Sta.fitN n.stations := lfit_of (f := Sta.sz) (fun x => Sta.fitN_of) (by omega)
  have f := sfit_lsz (l := n.stations) (by omega)
  have f1 := f.few
  have hw := wS_le n.stations
  have hz : lsz Sta.sz n.stations ≤ 1048576 := by omega
  unfold lsz at hz
  have fv := rfit_lsz (l := v) (by omega)
  have f2 := fv.few
  obtain ⟨m, b, hs, hi, g⟩ := move_both fn fv.fit
  have g1 := g.few
  simp (disch := omega) only [to_net f.fit, to_rats fv.fit, hs, hi, Option.bind_some, eq_net f.fit, eq_net g.fit, eq_rats fv.fit, eqB_self, beq_self_eq_true, Bool.not_true, cond_false, mark_net f.fit f.few, mark_net g.fit g.few, mark_rats fv.fit fv.few, held_net g.fit g.few, dneg, bneSelf]
end Go.Di
