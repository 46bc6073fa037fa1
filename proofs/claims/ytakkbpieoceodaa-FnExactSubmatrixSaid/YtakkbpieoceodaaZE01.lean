/-
  Own work: part 6 of the texts that the proof of the given statement leans on.
-/
import Derived.Test.YtakkbpieoceodaaZE00
namespace Go.Di
def Good (r : Rt) : Prop := ∃ q : Rat, Fit q ∧ r = rq q
theorem Good.ro {r : Rt} (h : Good r) : ∃ q : Rat, Fit q ∧ r = ro (some q) := h
def GoodP (r : Rt) : Prop := NatOk r.mag ∧ (r.mag ≠ [] ∨ r.neg = false) ∧ NatOk r.den ∧ r.den ≠ [] ∧ r.mag.length ≤ 24 ∧ r.den.length ≤ 24 ∧ Nat.gcd (nv r.den).toNat (nv r.mag).toNat = 1
theorem good_iff {r : Rt} : Good r ↔ GoodP r := by
  constructor
  · rintro ⟨q, hf, rfl⟩
    have h24 := hf.1
    have h24' := hf.2
    refine ⟨⟨dg_can _, by show (dg q.num.natAbs).length ≤ 60; omega⟩, ?_, ⟨dg_can _, by show (dg q.den).length ≤ 60; omega⟩, fun h => q.den_nz (dg_nil.1 h), h24, h24', ?_⟩
    · by_cases h : q.num < 0
      · left; intro e; have := dg_nil.1 e; omega
      · right; exact decide_eq_false h
    · show Nat.gcd (nv (dg q.den)).toNat (nv (dg q.num.natAbs)).toNat = 1
      rw [nv_dg, nv_dg, Int.toNat_natCast, Int.toNat_natCast, Nat.gcd_comm]; exact q.reduced
  · rintro ⟨⟨h1, _⟩, h2, ⟨h3, _⟩, h4, h5, h6, h7⟩
    obtain ⟨neg, mag, den⟩ := r
    simp only at h1 h2 h3 h4 h5 h6 h7
    have e1 := h1.dg
    have e2 := h3.dg
    generalize (nv mag).toNat = m at *
    generalize (nv den).toNat = d at *
    subst e1; subst e2
    have hd : d ≠ 0 := fun h => h4 (by rw [h, dg_zero])
    let q : Rat := Rat.mk' (sg neg m) d hd (by rw [sg_abs]; show Nat.gcd m d = 1; rw [Nat.gcd_comm]; exact h7)
    refine ⟨q, ⟨by show (dg (sg neg m).natAbs).length ≤ 24; rw [sg_abs]; exact h5, h6⟩, ?_⟩
    show _ = (⟨decide (sg neg m < 0), dg (sg neg m).natAbs, dg d⟩ : Rt)
    rw [sg_abs]
    by_cases hm : m = 0
    · subst hm
      rcases h2 with h2 | h2
      · exact absurd dg_zero h2
      · rw [h2]; rfl
    · rw [sg_neg hm]
theorem lenB {a : List Int} : ((a.length : Int) == 0) = pB (a = []) := by
  rw [Bool.eq_iff_iff, pB_iff]; simp
theorem lenP {a : List Int} : decide ((a.length : Int) > 0) = pB (a ≠ []) := by
  rw [Bool.eq_iff_iff, pB_iff]; simp [List.length_pos_iff]
theorem pB_dec {p : Prop} [Decidable p] : pB p = decide p := by rw [Bool.eq_iff_iff, pB_iff, decide_eq_true_iff]
theorem gcdOne {d m : Nat} {x : Option (List Int)} (h : x = some (dg (Nat.gcd d m))) {k : List Int → Option Bool} (hk : ∀ g : Nat, k (dg g) = some (decide (g = 1))) :
    (x.bind fun r3 => (k r3).bind fun r4 => some r4) = some (decide (Nat.gcd d m = 1)) := by
  rw [h, Option.bind_some, hk]; rfl
theorem impl_ratOk {r : Rt} (h : r.fit) : M_impl_RatOk r = some (pB (Good r)) := by
  rw [pB_congr good_iff]
  unfold M_impl_RatOk M_impl_BigIntOk
  rw [impl_natOk h.1, impl_natOk h.2, lenP, lenB, le24, le24]
  simp only [Option.bind_some]
  unfold GoodP
  by_cases h1 : NatOk r.mag
  · rw [pB_iff.2 h1, cond_true]
    by_cases h2 : r.mag ≠ [] ∨ r.neg = false
    · have hb : cond (pB (r.mag ≠ [])) (some true) (some (!r.neg)) = some true := by
        rcases h2 with h2 | h2
        · rw [pB_iff.2 h2]; rfl
        · rw [h2]; cases pB (r.mag ≠ []) <;> rfl
      rw [hb]
      simp only [Option.bind_some, Bool.not_true, cond_false]
      by_cases h3 : NatOk r.den
      · rw [pB_iff.2 h3]
        simp only [Bool.not_true, cond_false]
        by_cases h4 : r.den = []
        · rw [pB_iff.2 h4, cond_true]; symm; rw [pB_not.2 (fun k => k.2.2.2.1 h4)]
        · rw [pB_not.2 h4, cond_false]
          by_cases h5 : r.mag.length ≤ 24
          · rw [decide_eq_true h5]
            simp only [Bool.not_true, cond_false]
            by_cases h6 : r.den.length ≤ 24
            · rw [decide_eq_true h6]
              simp only [Bool.not_true, cond_false]
              have e1 := h1.1.dg
              have e2 := h3.1.dg
              have hd0 : 0 < (nv r.den).toNat := by
                rcases Nat.eq_zero_or_pos (nv r.den).toNat with h | h
                · rw [h, dg_zero] at e2; exact absurd e2 h4
                · exact h
              have hg := impl_gcd (m := (nv r.den).toNat) (n := (nv r.mag).toNat) (by rw [← e2]; omega) (by rw [← e1]; omega) hd0
              rw [← e2, ← e1] at hg
              rw [gcdOne hg impl_isOne, ← pB_dec]
              congr 1
              exact pB_congr ⟨fun h => ⟨h1, h2, h3, h4, h5, h6, h⟩, fun h => h.2.2.2.2.2.2⟩
            · rw [decide_eq_false h6]; symm; rw [pB_not.2 (fun k => h6 k.2.2.2.2.2.1)]; rfl
          · rw [decide_eq_false h5]; symm; rw [pB_not.2 (fun k => h5 k.2.2.2.2.1)]; rfl
      · rw [pB_not.2 h3]; symm; rw [pB_not.2 (fun k => h3 k.2.2.1)]; rfl
    · have hb : cond (pB (r.mag ≠ [])) (some true) (some (!r.neg)) = some false := by
        have h3 : ¬ r.mag ≠ [] := fun h => h2 (.inl h)
        have h4 : r.neg = true := by
          cases hn : r.neg with
          | true => rfl
          | false => exact absurd (.inr hn) h2
        rw [pB_not.2 h3, h4]; rfl
      rw [hb]; symm; rw [pB_not.2 (fun k => h2 k.2.1)]; rfl
  · rw [pB_not.2 h1]; symm; rw [pB_not.2 (fun k => h1 k.1)]; rfl
theorem spec_ratOk {r : Rt} (h : r.fit) : M_spec_RatOk r = some (pB (Good r)) := by
  rw [pB_congr good_iff]
  unfold M_spec_RatOk M_spec_BigIntOk
  rw [spec_natOk h.1, spec_natOk h.2, lenP, lenB, le24, le24]
  simp only [Option.bind_some]
  unfold GoodP
  by_cases h1 : NatOk r.mag
  · rw [pB_iff.2 h1, cond_true]
    by_cases h2 : r.mag ≠ [] ∨ r.neg = false
    · have hb : cond (!r.neg) (some true) (some (pB (r.mag ≠ []))) = some true := by
        rcases h2 with h2 | h2
        · rw [pB_iff.2 h2]; cases r.neg <;> rfl
        · rw [h2]; rfl
      rw [hb]
      simp only [Option.bind_some, Bool.not_true, cond_false]
      by_cases h3 : NatOk r.den
      · rw [pB_iff.2 h3]
        simp only [Bool.not_true, cond_false]
        by_cases h4 : r.den = []
        · rw [pB_iff.2 h4, cond_true]; symm; rw [pB_not.2 (fun k => k.2.2.2.1 h4)]
        · rw [pB_not.2 h4, cond_false]
          by_cases h6 : r.den.length ≤ 24
          · rw [decide_eq_true h6]
            simp only [Bool.not_true, cond_false]
            by_cases h5 : r.mag.length ≤ 24
            · rw [decide_eq_true h5]
              simp only [Bool.not_true, cond_false]
              have e1 := h1.1.dg
              have e2 := h3.1.dg
              have hg := spec_gcd (m := (nv r.mag).toNat) (n := (nv r.den).toNat) (by rw [← e1]; omega) (by rw [← e2]; omega)
              rw [← e2, ← e1] at hg
              rw [gcdOne hg spec_isOne, ← pB_dec]
              congr 1
              exact pB_congr ⟨fun h => ⟨h1, h2, h3, h4, h5, h6, by rw [Nat.gcd_comm]; exact h⟩, fun h => by rw [Nat.gcd_comm]; exact h.2.2.2.2.2.2⟩
            · rw [decide_eq_false h5]; symm; rw [pB_not.2 (fun k => h5 k.2.2.2.2.1)]; rfl
          · rw [decide_eq_false h6]; symm; rw [pB_not.2 (fun k => h6 k.2.2.2.2.2.1)]; rfl
      · rw [pB_not.2 h3]; symm; rw [pB_not.2 (fun k => h3 k.2.2.1)]; rfl
    · have hb : cond (!r.neg) (some true) (some (pB (r.mag ≠ []))) = some false := by
        have h3 : ¬ r.mag ≠ [] := fun h => h2 (.inl h)
        have h4 : r.neg = true := by
          cases hn : r.neg with
          | true => rfl
          | false => exact absurd (.inr hn) h2
        rw [pB_not.2 h3, h4]; rfl
      rw [hb]; symm; rw [pB_not.2 (fun k => h2 k.2.1)]; rfl
  · rw [pB_not.2 h1]; symm; rw [pB_not.2 (fun k => h1 k.1)]; rfl
/-! ### Whole numbers -/
theorem impl_copyRat {r : Rt} (h : r.mag.length ≤ 1048576 ∧ r.den.length ≤ 1048576) : M_impl_copyRat r = some r := by
  unfold M_impl_copyRat
  rw [impl_copy (by omega), Option.bind_some, impl_copy (by omega), Option.bind_some]
theorem spec_copyRat {r : Rt} (h : r.mag.length ≤ 1048576 ∧ r.den.length ≤ 1048576) : M_spec_l04Copy r = some r := by
  unfold M_spec_l04Copy
  rw [room (by omega), Option.bind_some, room (by omega), Option.bind_some]
end Go.Di
namespace Go.Di
/-! ### Names -/
/-! ### Stations, matrices -/
noncomputable def goodB (r : Rt) : Bool := pB (Good r)
theorem spec_goods {l : List Rt} (h : lfit Rt.fit l) : whileO S_spec_MatrixOk_0 (l, (l.length : Int), 0, ()) = some (cond (l.all goodB) (.inr ()) (.inl (false, ()))) := by
  have key := all_loopE (S := S_spec_MatrixOk_0) (fun i => (l, (l.length : Int), (i : Int), ())) l.length (atB goodB l) () (fun i hi => by
    simp only [S_spec_MatrixOk_0, dlt hi, cond_true, idx_at hi, Option.bind_some, spec_ratOk (h.2 _ (List.getElem_mem hi)), succ_wrap hi h.1, atB_at goodB hi, goodB]
    cases pB (Good l[i]) <;> rfl) (by simp [S_spec_MatrixOk_0])
  rw [all_range] at key; exact key
theorem impl_goods {l : List Rt} (h : lfit Rt.fit l) : whileO S_impl_MatrixOk_0 (l, (l.length : Int), 0, ()) = some (cond (l.all goodB) (.inr ()) (.inl (false, ()))) := by
  have key := all_loopE (S := S_impl_MatrixOk_0) (fun i => (l, (l.length : Int), (i : Int), ())) l.length (atB goodB l) () (fun i hi => by
    simp only [S_impl_MatrixOk_0, dlt hi, cond_true, idx_at hi, Option.bind_some, impl_ratOk (h.2 _ (List.getElem_mem hi)), succ_wrap hi h.1, atB_at goodB hi, goodB]
    cases pB (Good l[i]) <;> rfl) (by simp [S_impl_MatrixOk_0])
  rw [all_range] at key; exact key
def inB (n lo hi : Int) : Bool := decide (n ≥ lo) && decide (n ≤ hi)
theorem spec_in (n lo hi : Int) : M_spec_l01In n lo hi = some (inB n lo hi) := by
  unfold M_spec_l01In inB; cases decide (n ≥ lo) <;> rfl
theorem impl_len (n : Int) : M_impl_isLength n = some (inB n 0 24) := by
  unfold M_impl_isLength inB; cases decide (n ≥ 0) <;> rfl
noncomputable def mxB (m : Mx) : Bool := inB m.rows 0 24 && (inB m.cols 0 24 && (((m.cells.length : Int) == IntKind.i64.wrap (m.rows * m.cols)) && m.cells.all goodB))
theorem spec_mxOk {m : Mx} (h : lfit Rt.fit m.cells) : M_spec_MatrixOk m = some (mxB m) := by
  unfold M_spec_MatrixOk mxB L_spec_MatrixOk_0
  refine chain (spec_in ..) (chain (spec_in ..) ?_)
  rw [show ((m.cells.length : Int) != IntKind.i64.wrap (m.rows * m.cols)) = !((m.cells.length : Int) == IntKind.i64.wrap (m.rows * m.cols)) from rfl]
  refine chain0 ?_
  rw [spec_goods h]
  cases m.cells.all goodB <;> rfl
theorem impl_mxOk {m : Mx} (h : lfit Rt.fit m.cells) : M_impl_MatrixOk m = some (mxB m) := by
  unfold M_impl_MatrixOk mxB L_impl_MatrixOk_0
  refine chain (impl_len _) (chain (impl_len _) ?_)
  rw [show ((m.cells.length : Int) != IntKind.i64.wrap (m.rows * m.cols)) = !((m.cells.length : Int) == IntKind.i64.wrap (m.rows * m.cols)) from rfl]
  refine chain0 ?_
  rw [impl_goods h]
  cases m.cells.all goodB <;> rfl
/-! ### Networks -/
end Go.Di
namespace Go.Di
def upto (k : Int) (n : Nat) : List Int := (List.range n).map fun (i : Nat) => k + (i : Int)
@[simp] theorem len_upto (k : Int) (n : Nat) : (upto k n).length = n := by simp [upto]
theorem upto_at {k : Int} {n i : Nat} (h : i < n) : (upto k n)[i]'(by simpa using h) = k + i := by simp [upto]
theorem upto_succ (k : Int) (n : Nat) : upto k (n + 1) = upto k n ++ [k + n] := by simp [upto, List.range_succ]
theorem mark_ints {a : List Int} {k : Int} (ha : a.length ≤ 1048576) (h0 : 0 ≤ k) (h1 : k ≤ 1000000000000) : M_laws_markIntS_md a k = some (k + a.length, upto k a.length) := by
  unfold M_laws_markIntS_md L_laws_markIntS_md_0
  have key := whileO_upto S_laws_markIntS_md_0 (fun i => (k + (i : Int), (i : Int), upto k i ++ a.drop i, ())) a.length (k + (a.length : Int), upto k a.length, ()) (fun i hi => by
    have hl : (upto k i ++ a.drop i).length = a.length := by simp; omega
    have hlt : decide ((i : Int) < ((upto k i ++ a.drop i).length : Int)) = true := by rw [hl]; exact dlt hi
    have hi' : i < (upto k i ++ a.drop i).length := by rw [hl]; exact hi
    have e1 : IntKind.i64.wrap (k + (i : Int) + 1) = k + ((i + 1 : Nat) : Int) := by rw [wrap_i64 (by omega) (by omega)]; omega
    simp only [S_laws_markIntS_md_0, hlt, cond_true, idx_at hi', Option.bind_some, e1, succ_wrap hi ha, Int.toNat_natCast]
    congr 4
    rw [upto_succ, List.set_append_right _ _ (by simp), len_upto, Nat.sub_self, List.drop_eq_getElem_cons hi, List.set_cons_zero, List.append_assoc]
    rfl) (by simp [S_laws_markIntS_md_0])
  simp only [Int.natCast_zero, Int.add_zero] at key
  rw [show upto k 0 ++ a.drop 0 = a by simp [upto]] at key
  rw [key]; rfl
theorem held_ints {k : Int} {n : Nat} (hn : n ≤ 1048576) (h0 : 0 ≤ k) (h1 : k ≤ 1000000000000) : M_laws_heldIntS (upto k n) k = some (k + n) := by
  unfold M_laws_heldIntS L_laws_heldIntS_0
  have key := whileO_upto S_laws_heldIntS_0 (fun i => (upto k n, k + (i : Int), (i : Int), ())) n (.inr (k + (n : Int), ())) (fun i hi => by
    have hi' : i < (upto k n).length := by simpa using hi
    have hlt : decide ((i : Int) < ((upto k n).length : Int)) = true := dlt hi'
    have e1 : IntKind.i64.wrap (k + (i : Int) + 1) = k + ((i + 1 : Nat) : Int) := by rw [wrap_i64 (by omega) (by omega)]; omega
    have e2 : ((upto k n)[i] != k + (i : Int)) = false := by rw [upto_at hi]; simp
    simp only [S_laws_heldIntS_0, hlt, cond_true, idx_at hi', Option.bind_some, e1, succ_wrap hi hn, e2, cond_false]) (by simp [S_laws_heldIntS_0])
  simp only [Int.natCast_zero, Int.add_zero] at key
  rw [key]; rfl
theorem dneg {x : Int} (h : 0 ≤ x) : decide (x < 0) = false := decide_eq_false (by omega)
theorem bneSelf (x : Int) : (x != x) = false := by simp
end Go.Di
namespace Go.Di
end Go.Di
namespace Go.Di
/-! ### Signs -/
/-! ### Rounded down -/
/-! ### Roots of fractions -/
/-! ### Readings -/
end Go.Di
namespace Go.Di
/-! ### Marks on lists -/
def ws {α : Type} (w : α → Nat) (l : List α) : Nat := (l.map w).sum
theorem ws_step {α : Type} (w : α → Nat) (l : List α) {i : Nat} (h : i < l.length) : ws w (l.take (i + 1)) = ws w (l.take i) + w l[i] := by
  unfold ws
  rw [List.take_succ_eq_append_getElem h, List.map_append, List.sum_append]; simp
theorem ws_le {α : Type} (w : α → Nat) (l : List α) (i : Nat) : ws w (l.take i) ≤ ws w l := by
  have : ws w l = ws w (l.take i) + ws w (l.drop i) := by
    unfold ws
    rw [← List.sum_append, ← List.map_append, List.take_append_drop]
  omega
theorem ws_all {α : Type} (w : α → Nat) (l : List α) : ws w (l.take l.length) = ws w l := by rw [List.take_length]
def marksTo {α : Type} (mk : Int → α → α) (w : α → Nat) (k : Int) (a : List α) (i : Nat) : List α := a.mapIdx fun j x => if j < i then mk (k + (ws w (a.take j) : Nat)) x else x
def marks {α : Type} (mk : Int → α → α) (w : α → Nat) (k : Int) (a : List α) : List α := marksTo mk w k a a.length
theorem len_marksTo {α : Type} (mk : Int → α → α) (w : α → Nat) (k : Int) (a : List α) (i : Nat) : (marksTo mk w k a i).length = a.length := by simp [marksTo]
theorem len_marks {α : Type} (mk : Int → α → α) (w : α → Nat) (k : Int) (a : List α) : (marks mk w k a).length = a.length := len_marksTo ..
theorem marksTo_zero {α : Type} (mk : Int → α → α) (w : α → Nat) (k : Int) (a : List α) : marksTo mk w k a 0 = a := by
  apply List.ext_getElem?
  intro j
  simp only [marksTo, List.getElem?_mapIdx, Nat.not_lt_zero, if_false]
  cases a[j]? <;> rfl
theorem marksTo_at {α : Type} (mk : Int → α → α) (w : α → Nat) (k : Int) (a : List α) {i : Nat} (h : i < a.length) : (marksTo mk w k a i)[i]? = some a[i] := by
  simp [marksTo, h]
theorem marksTo_step {α : Type} (mk : Int → α → α) (w : α → Nat) (k : Int) (a : List α) {i : Nat} (h : i < a.length) :
    (marksTo mk w k a i).set i (mk (k + (ws w (a.take i) : Nat)) a[i]) = marksTo mk w k a (i + 1) := by
  apply List.ext_getElem?
  intro j
  rw [List.getElem?_set]
  simp only [marksTo, List.getElem?_mapIdx, List.length_mapIdx]
  by_cases hj : i = j
  · subst hj; simp [h]
  · rw [if_neg hj]
    by_cases hlt : j < i
    · simp [hlt, show j < i + 1 by omega]
    · simp [hlt, show ¬ j < i + 1 by omega]
theorem marks_at {α : Type} (mk : Int → α → α) (w : α → Nat) (k : Int) (a : List α) {i : Nat} (h : i < a.length) : (marks mk w k a)[i]? = some (mk (k + (ws w (a.take i) : Nat)) a[i]) := by
  simp [marks, marksTo, h]
theorem mark_loop {α : Type} {mk : Int → α → α} {w : α → Nat} {S : Int × Int × List α × Unit → Option ((Int × Int × List α × Unit) ⊕ (Int × List α × Unit))} {a : List α} {k : Int} {B : Int} (h0 : 0 ≤ k) (hB : k + (ws w a : Nat) ≤ B)
    (hS : ∀ (i : Nat) (K : Int) (c : List α) (h : i < a.length), 0 ≤ K → K ≤ B → c.length = a.length → c[i]? = some a[i] → S (K, (i : Int), c, ()) = some (.inl (K + (w a[i] : Nat), ((i + 1 : Nat) : Int), c.set i (mk K a[i]), ())))
    (hE : ∀ K c, c.length = a.length → S (K, (a.length : Int), c, ()) = some (.inr (K, c, ()))) : whileO S (k, 0, a, ()) = some (k + (ws w a : Nat), marks mk w k a, ()) := by
  have key := whileO_upto S (fun i => (k + (ws w (a.take i) : Nat), (i : Int), marksTo mk w k a i, ())) a.length (k + (ws w a : Nat), marks mk w k a, ()) (fun i hi => by
    have hle := ws_le w a i
    rw [hS i _ _ hi (by omega) (by omega) (len_marksTo ..) (marksTo_at _ _ _ _ hi), marksTo_step _ _ _ _ hi, ws_step w a hi]
    congr 3
    omega) (by
    rw [hE _ _ (len_marksTo ..), ws_all]; rfl)
  rw [marksTo_zero] at key
  have h0 : ws w (a.take 0) = 0 := by simp [ws]
  rw [h0] at key
  simpa using key
theorem held_loop {α : Type} {mk : Int → α → α} {w : α → Nat} {S : List α × Int × Int × Unit → Option ((List α × Int × Int × Unit) ⊕ ((Int × Unit) ⊕ (Int × Unit)))} {a : List α} {k : Int} {B : Int} (h0 : 0 ≤ k) (hB : k + (ws w a : Nat) ≤ B)
    (hS : ∀ (i : Nat) (K : Int) (c : List α) (h : i < a.length), 0 ≤ K → K ≤ B → c.length = a.length → c[i]? = some (mk K a[i]) → S (c, K, (i : Int), ()) = some (.inl (c, K + (w a[i] : Nat), ((i + 1 : Nat) : Int), ())))
    (hE : ∀ K c, c.length = a.length → S (c, K, (a.length : Int), ()) = some (.inr (.inr (K, ())))) : whileO S (marks mk w k a, k, 0, ()) = some (.inr (k + (ws w a : Nat), ())) := by
  have key := whileO_upto S (fun i => (marks mk w k a, k + (ws w (a.take i) : Nat), (i : Int), ())) a.length (.inr (k + (ws w a : Nat), ())) (fun i hi => by
    have hle := ws_le w a i
    rw [hS i _ _ hi (by omega) (by omega) (len_marks ..) (marks_at _ _ _ _ hi), ws_step w a hi]
    congr 4
    omega) (by
    rw [hE _ _ (len_marks ..), ws_all])
  have h0 : ws w (a.take 0) = 0 := by simp [ws]
  rw [h0] at key
  simpa using key
theorem get_int {α : Type} {c : List α} {i : Nat} {x : α} (h : c[i]? = some x) : idx c (i : Int) = some x := by rw [idx_nat]; exact h
theorem lt_of_get {α : Type} {c : List α} {i : Nat} {x : α} (h : c[i]? = some x) : i < c.length := (List.getElem?_eq_some_iff.1 h).1
theorem get_set {α : Type} {c : List α} {i : Nat} (h : i < c.length) (x : α) : (c.set i x)[i]? = some x := List.getElem?_set_self h
theorem idx_set {α : Type} {c : List α} {i : Nat} (h : i < c.length) (x : α) : idx (c.set i x) (i : Int) = some x := get_int (get_set h x)
/-! ### Fractions -/
def wR (r : Rt) : Nat := 1 + r.mag.length + r.den.length
def mkR (k : Int) (r : Rt) : Rt := ⟨(k.tmod 3) == 0, upto (k + 1) r.mag.length, upto (k + 1 + r.mag.length) r.den.length⟩
theorem ws_rats (l : List Rt) : ws wR l = lsz Rt.sz l := by
  unfold ws lsz
  induction l with
  | nil => rfl
  | cons r l ih => simp only [List.map_cons, List.sum_cons, List.length_cons, ih]; unfold wR Rt.sz; omega
theorem fit_at {l : List Rt} (h : lfit Rt.fit l) {i : Nat} (hi : i < l.length) : l[i].fit := h.2 _ (List.getElem_mem hi)
theorem mark_rats {a : List Rt} (ha : lfit Rt.fit a) (hw : ws wR a ≤ 1000000000) {k : Int} (h0 : 0 ≤ k) (h1 : k ≤ 1000000000) : M_laws_markRatS_md a k = some (k + (ws wR a : Nat), marks mkR wR k a) := by
  unfold M_laws_markRatS_md L_laws_markRatS_md_0
  rw [mark_loop (mk := mkR) (w := wR) (B := 2000000000) h0 (by omega) (fun i K c hi q0 q1 hl hc => ?_) (fun K c hl => by simp [S_laws_markRatS_md_0, hl])]
  · rfl
  · have hlt := lt_of_get hc
    have hf := fit_at ha hi
    have f1 := hf.1
    have f2 := hf.2
    have e1 : IntKind.i64.wrap (K + 1) = K + 1 := wrap_i64 (by omega) (by omega)
    simp only [S_laws_markRatS_md_0, dlt hlt, cond_true, get_int hc, Option.bind_some, Int.toNat_natCast, hc, idx_set hlt, get_set hlt, List.set_set, e1,
      mark_ints f1 (show 0 ≤ K + 1 by omega) (by omega), mark_ints f2 (show 0 ≤ K + 1 + (a[i].mag.length : Int) by omega) (by omega), succ_wrap hi ha.1]
    congr 3
    unfold wR; omega
theorem held_rats {a : List Rt} (ha : lfit Rt.fit a) (hw : ws wR a ≤ 1000000000) {k : Int} (h0 : 0 ≤ k) (h1 : k ≤ 1000000000) : M_laws_heldRatS (marks mkR wR k a) k = some (k + (ws wR a : Nat)) := by
  unfold M_laws_heldRatS L_laws_heldRatS_0
  rw [held_loop (mk := mkR) (w := wR) (B := 2000000000) h0 (by omega) (fun i K c hi q0 q1 hl hc => ?_) (fun K c hl => by simp [S_laws_heldRatS_0, hl])]
  · rfl
  · have hlt := lt_of_get hc
    have hf := fit_at ha hi
    have f1 := hf.1
    have f2 := hf.2
    have e1 : IntKind.i64.wrap (K + 1) = K + 1 := wrap_i64 (by omega) (by omega)
    simp only [S_laws_heldRatS_0, dlt hlt, cond_true, get_int hc, Option.bind_some, e1, mkR, beq_self_eq_true, Bool.not_true, cond_false,
      held_ints f1 (show 0 ≤ K + 1 by omega) (by omega), held_ints f2 (show 0 ≤ K + 1 + (a[i].mag.length : Int) by omega) (by omega), succ_wrap hi ha.1,
      dneg (show 0 ≤ K + 1 + (a[i].mag.length : Int) by omega), dneg (show 0 ≤ K + 1 + (a[i].mag.length : Int) + (a[i].den.length : Int) by omega)]
    congr 4
    unfold wR; omega
theorem mark_mx {m : Mx} (ha : lfit Rt.fit m.cells) (hw : ws wR m.cells ≤ 1000000000) {k : Int} (h0 : 0 ≤ k) (h1 : k ≤ 1000000000) : M_laws_markMatrix_md m k = some (k + (ws wR m.cells : Nat), marks mkR wR k m.cells) := by
  unfold M_laws_markMatrix_md
  rw [mark_rats ha hw h0 h1]; rfl
theorem held_mx {a : List Rt} {x y : Int} (ha : lfit Rt.fit a) (hw : ws wR a ≤ 1000000000) {k : Int} (h0 : 0 ≤ k) (h1 : k ≤ 1000000000) : M_laws_heldMatrix ⟨x, y, marks mkR wR k a⟩ k = some (k + (ws wR a : Nat)) := by
  unfold M_laws_heldMatrix
  simp only [held_rats ha hw h0 h1, Option.bind_some]
  rw [dneg (by omega)]; rfl
/-! ### Loops that append -/
theorem room1 {n : Nat} (h : n ≤ 2000000) : guardO (Nat.ble (n + 1) maxNew) = some () := by
  have : Nat.ble (n + 1) maxNew = true := Nat.ble_eq_true_of_le (by unfold maxNew; omega)
  rw [this]; rfl
/-! ### Valid vectors -/
def Fits (q : List Rat) : Prop := ∀ x ∈ q, Fit x
theorem goods_q : ∀ {l : List Rt}, l.all goodB = true → ∃ q : List Rat, Fits q ∧ l = q.map rq
  | [], _ => ⟨[], fun x h => (by cases h), rfl⟩
  | r :: l, h => by
    rw [List.all_cons, Bool.and_eq_true] at h
    obtain ⟨q, hq, rfl⟩ := goods_q h.2
    obtain ⟨x, hx, rfl⟩ := pB_iff.1 h.1
    exact ⟨x :: q, fun y hy => by
      rcases List.mem_cons.1 hy with rfl | hy
      · exact hx
      · exact hq y hy, rfl⟩
theorem Fits.get {q : List Rat} (h : Fits q) (i : Nat) : Oks q[i]? := fun x hx => h x (List.mem_of_getElem? hx)
theorem rq_sz {q : Rat} (h : Fit q) : (rq q).sz ≤ 48 := by
  have := h.1
  have := h.2
  show (dg q.num.natAbs).length + (dg q.den).length ≤ 48
  omega
theorem ro_sz {o : Option Rat} (h : Oks o) : (ro o).sz ≤ 48 := by
  cases o with
  | none => show 0 + 0 ≤ 48; omega
  | some q => exact rq_sz (h q rfl)
structure Rfit (l : List Rt) : Prop where
  fit : lfit Rt.fit l
  few : ws wR l ≤ 1000000000
theorem rfit_lsz {l : List Rt} (h : lsz Rt.sz l ≤ 1048576) : Rfit l := ⟨lfit_of (f := Rt.sz) (fun _ => Rt.fit_of) h, by rw [ws_rats]; omega⟩
theorem lsz_small {l : List Rt} (h : ∀ x ∈ l, x.sz ≤ 48) (n : Nat) (hn : l.length ≤ n) : lsz Rt.sz l ≤ 49 * n := by
  have : (l.map Rt.sz).sum ≤ 48 * l.length := by
    clear hn
    induction l with
    | nil => simp
    | cons r l ih =>
      have h1 := ih fun x hx => h x (List.mem_cons_of_mem _ hx)
      have h2 := h r (List.mem_cons_self ..)
      simp only [List.map_cons, List.sum_cons, List.length_cons]; omega
  unfold lsz; omega
theorem rfit_ro {l : List (Option Rat)} (h : ∀ o ∈ l, Oks o) (hn : l.length ≤ 20000) : Rfit (l.map ro) := by
  refine rfit_lsz (Nat.le_trans (lsz_small (n := 20000) (fun x hx => ?_) (by simpa using hn)) (by omega))
  obtain ⟨o, ho, rfl⟩ := List.mem_map.1 hx
  exact ro_sz (h o ho)
theorem rfit_nil : Rfit [] := ⟨⟨by simp, fun x h => (by cases h)⟩, by simp [ws]⟩
theorem idx_q {q : List Rat} {i : Nat} (h : i < q.length) : idx (q.map rq) (i : Int) = some (ro q[i]?) := by
  rw [idx_nat, List.getElem?_map, List.getElem?_eq_getElem h]; rfl
/-! ### Inner products -/
/-! ### Vectors without gaps -/
end Go.Di
