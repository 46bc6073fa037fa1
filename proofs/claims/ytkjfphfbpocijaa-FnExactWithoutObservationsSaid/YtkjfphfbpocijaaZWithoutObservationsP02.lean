/-
  Own work: part 10 of the texts that the proof of the given statement leans on.
-/
import Derived.Test.YtkjfphfbpocijaaZWithoutObservationsP01
/-
  Own work. Plain laws: observations that are valid.
-/
namespace Go.Di

/-- The sign of a valid fraction, in the reference. -/
theorem spec_signq {q : Rat} (h : Fit q) : M_spec_RatSign (rq q) = some (cond (decide (q.num < 0)) (-1) (cond (decide (q.num ≠ 0)) 1 0)) := by
  unfold M_spec_RatSign
  have hf : (rq q).fit := ro_fit h.ok
  rw [spec_ratOk hf, good_rq h, Option.bind_some]
  show cond (!true) _ (cond (((dg q.num.natAbs).length : Int) == 0) _ (cond (decide (q.num < 0)) _ _)) = _
  rw [dg_len0]
  by_cases h0 : q.num = 0
  · rw [decide_eq_true (show q.num.natAbs = 0 by omega), decide_eq_false (show ¬ q.num < 0 by omega), decide_eq_false (show ¬ q.num ≠ 0 by omega)]; rfl
  · rw [decide_eq_false (show ¬ q.num.natAbs = 0 by omega), decide_eq_true h0]
    cases decide (q.num < 0) <;> rfl
/-- A valid fraction over 0. -/
noncomputable def posB (r : Rt) : Bool := pB (∃ q : Rat, Fit q ∧ r = rq q ∧ 0 < q.num)
theorem posB_rq {q : Rat} (h : Fit q) : posB (rq q) = decide (0 < q.num) := by
  unfold posB
  rw [← pB_dec]
  refine pB_congr ⟨?_, fun h0 => ⟨q, h, rfl, h0⟩⟩
  rintro ⟨p, _, h1, h2⟩
  rw [rq_inj h1]; exact h2
theorem posB_good {r : Rt} (h : ¬ Good r) : posB r = false := by
  unfold posB
  rw [pB_not]
  rintro ⟨q, h1, h2, _⟩
  exact h ⟨q, h1, h2⟩
theorem spec_pos {r : Rt} (hf : r.fit) : ∃ s : Int, M_spec_RatSign r = some s ∧ decide (s > 0) = posB r := by
  by_cases hg : Good r
  · obtain ⟨q, h1, rfl⟩ := hg
    rw [spec_signq h1, posB_rq h1]
    refine ⟨_, rfl, ?_⟩
    by_cases h2 : q.num < 0
    · rw [decide_eq_true h2, decide_eq_false (show ¬ 0 < q.num by omega)]; rfl
    · rw [decide_eq_false h2]
      by_cases h3 : q.num = 0
      · rw [decide_eq_false (show ¬ q.num ≠ 0 by omega), decide_eq_false (show ¬ 0 < q.num by omega)]; rfl
      · rw [decide_eq_true h3, decide_eq_true (show 0 < q.num by omega)]; rfl
  · unfold M_spec_RatSign
    rw [spec_ratOk hf, pB_not.2 hg, posB_good hg]; exact ⟨0, rfl, rfl⟩
theorem impl_posq {q : Rat} (h1 : Fit q) : ∃ s : Int, M_impl_sign (rq q) = some s ∧ decide (s > 0) = posB (rq q) ∧ decide (s ≤ 0) = !posB (rq q) := by
  rw [impl_signq, posB_rq h1]
  refine ⟨_, rfl, ?_⟩
  by_cases h2 : q.num < 0
  · rw [decide_eq_true h2, decide_eq_false (show ¬ 0 < q.num by omega)]; exact ⟨rfl, rfl⟩
  · rw [decide_eq_false h2]
    by_cases h3 : q.num = 0
    · rw [decide_eq_false (show ¬ q.num ≠ 0 by omega), decide_eq_false (show ¬ 0 < q.num by omega)]; exact ⟨rfl, rfl⟩
    · rw [decide_eq_true h3, decide_eq_true (show 0 < q.num by omega)]; exact ⟨rfl, rfl⟩

/-- The end of both checks: the value, the sign of a distance, the variance. -/
noncomputable def endB (o : Obs) : Bool := pB (Good o.value) && ((!(o.kind == 7) || posB o.value) && posB o.variance)
theorem spec_end {o : Obs} (h : o.fit) : ((M_spec_RatOk o.value).bind fun r5 =>
      cond r5
        (cond (o.kind != 7)
          ((M_spec_RatSign o.variance).bind fun r6 =>
          some (decide (r6 > 0)))
          ((M_spec_RatSign o.value).bind fun r6 =>
          cond (decide (r6 > 0))
            ((M_spec_RatSign o.variance).bind fun r7 =>
            some (decide (r7 > 0)))
            (some false)))
        (some false)) = some (endB o) := by
  obtain ⟨s, h1, h2⟩ := spec_pos h.1
  obtain ⟨t, h3, h4⟩ := spec_pos h.2
  unfold endB
  rw [spec_ratOk h.1, h1, h3]
  simp only [Option.bind_some, h2, h4]
  rw [show (o.kind != 7) = !(o.kind == 7) from rfl]
  cases pB (Good o.value) <;> cases (o.kind == 7) <;> cases posB o.value <;> cases posB o.variance <;> rfl
theorem impl_end {o : Obs} (h : o.fit) : ((M_impl_RatOk o.value).bind fun r1 =>
      cond (!r1)
        (some false)
        (cond (o.kind == 7)
          ((M_impl_sign o.value).bind fun r2 =>
          cond (decide (r2 ≤ 0))
            (some false)
            ((M_impl_RatOk o.variance).bind fun r3 =>
            cond r3
              ((M_impl_sign o.variance).bind fun r4 =>
              some (decide (r4 > 0)))
              (some false)))
          ((M_impl_RatOk o.variance).bind fun r2 =>
          cond r2
            ((M_impl_sign o.variance).bind fun r3 =>
            some (decide (r3 > 0)))
            (some false)))) = some (endB o) := by
  have hv : ((M_impl_RatOk o.variance).bind fun r3 => cond r3 ((M_impl_sign o.variance).bind fun r4 => some (decide (r4 > 0))) (some false)) = some (posB o.variance) := by
    rw [impl_ratOk h.2, Option.bind_some]
    by_cases hg : Good o.variance
    · rw [pB_iff.2 hg, cond_true]
      obtain ⟨q, h1, h2⟩ := hg
      rw [h2]
      obtain ⟨s, k1, k2, _⟩ := impl_posq h1
      rw [k1, Option.bind_some, k2]
    · rw [pB_not.2 hg, posB_good hg]; rfl
  unfold endB
  rw [hv, impl_ratOk h.1, Option.bind_some]
  by_cases hg : Good o.value
  · rw [pB_iff.2 hg]
    simp only [Bool.not_true, cond_false, Bool.true_and]
    obtain ⟨q, h1, h2⟩ := hg
    rw [h2]
    obtain ⟨s, k1, _, k3⟩ := impl_posq h1
    rw [k1, Option.bind_some, k3]
    cases (o.kind == 7) <;> cases posB (rq q) <;> cases posB o.variance <;> rfl
  · rw [pB_not.2 hg]; rfl

def betB (k : Int) : Bool := k == 2 || (decide (k ≥ 5) && decide (k ≤ 8))
theorem spec_bet (k : Int) : M_spec_IsBetween k = some (betB k) := by
  unfold M_spec_IsBetween M_spec_l01In betB
  cases (k == 2) <;> cases decide (k ≥ 5) <;> rfl
theorem impl_bet (k : Int) : M_impl_IsBetween k = some (betB k) := by
  unfold M_impl_IsBetween betB
  cases (k == 2) <;> cases decide (k ≥ 5) <;> rfl
def fitsB (k : Int) (plane : Bool) : Bool := cond plane (inB k 3 8) (inB k 1 2)
theorem spec_fits (k : Int) (plane : Bool) : M_spec_l11Fits k plane = some (fitsB k plane) := by
  unfold M_spec_l11Fits fitsB
  rw [spec_in, spec_in]
  cases plane <;> rfl
noncomputable def obsB (n : Net) (o : Obs) : Bool :=
  fitsB o.kind n.plane && ((decide (0 ≤ o.frm) && decide (o.frm < n.stations.length)) && (cond (betB o.kind) ((decide (0 ≤ o.to) && decide (o.to < n.stations.length)) && !(o.to == o.frm)) (o.to == 0) && endB o))
theorem inB_len {x : Int} {n : Nat} (h : n ≤ 1048576) : inB x 0 (IntKind.i64.wrap ((n : Int) - 1)) = (decide (0 ≤ x) && decide (x < n)) := by
  rw [wrap_i64 (by omega) (by omega)]
  unfold inB
  rw [Bool.eq_iff_iff]; simp; omega
theorem spec_obsOk {n : Net} {o : Obs} (hn : n.stations.length ≤ 1048576) (h : o.fit) : M_spec_l11Ok n o = some (obsB n o) := by
  have he := spec_end h
  unfold M_spec_l11Ok obsB
  simp only [spec_fits, spec_in, spec_bet, Option.bind_some, inB_len hn, he]
  rw [show (o.to != 0) = !(o.to == 0) from rfl]
  cases fitsB o.kind n.plane <;> cases (decide (0 ≤ o.frm) && decide (o.frm < n.stations.length)) <;> cases betB o.kind <;> cases (decide (0 ≤ o.to) && decide (o.to < n.stations.length)) <;> cases (o.to == o.frm) <;> cases (o.to == 0) <;> cases endB o <;> rfl
theorem impl_obsFits {n : Net} {o : Obs} (h : o.fit) : M_impl_observationFits n o = some (obsB n o) := by
  have he := impl_end h
  unfold M_impl_observationFits obsB
  simp only [impl_bet, Option.bind_some, he]
  rw [show (o.to != 0) = !(o.to == 0) from rfl]
  have hk : fitsB o.kind n.plane = (decide (o.kind ≥ 1) && (decide (o.kind ≤ 8) && !(n.plane == decide (o.kind ≤ 2)))) := by
    unfold fitsB inB
    cases n.plane with
    | true => rw [Bool.eq_iff_iff]; simp; omega
    | false => rw [Bool.eq_iff_iff]; simp; omega
  rw [hk, lt_not o.kind 1, gt_not o.kind 8, ge_le o.kind 1, lt_not o.frm 0, lt_not o.to 0]
  have g1 : decide (o.frm ≥ (n.stations.length : Int)) = !decide (o.frm < (n.stations.length : Int)) := by rw [Bool.eq_iff_iff]; simp
  have g2 : decide (o.to ≥ (n.stations.length : Int)) = !decide (o.to < (n.stations.length : Int)) := by rw [Bool.eq_iff_iff]; simp
  rw [g1, g2]
  cases decide (1 ≤ o.kind) <;> cases decide (o.kind ≤ 8) <;> cases (n.plane == decide (o.kind ≤ 2)) <;> cases decide (0 ≤ o.frm) <;> cases decide (o.frm < (n.stations.length : Int)) <;> cases betB o.kind <;> cases decide (0 ≤ o.to) <;> cases decide (o.to < (n.stations.length : Int)) <;> cases (o.to == o.frm) <;> cases (o.to == 0) <;> cases endB o <;> rfl
theorem spec_obsOk' {n : Net} {o : Obs} (hn : lfit Sta.fitN n.stations) (h : o.fit) : M_spec_ObservationOk n o = some (netB n && obsB n o) := by
  unfold M_spec_ObservationOk
  exact bind_and (spec_netOk hn) (by rw [spec_obsOk hn.1 h]; rfl)
theorem impl_obsOk' {n : Net} {o : Obs} (hn : lfit Sta.fitN n.stations) (h : o.fit) : M_impl_ObservationOk n o = some (netB n && obsB n o) := by
  unfold M_impl_ObservationOk
  exact bind_and (impl_netOk (fitN_fit hn)) (by rw [impl_obsFits h]; rfl)
end Go.Di
/-
  Own work, written by program (gen.py) out of the functions of the given program: what they compute, as plain Lean.
-/
namespace Go.Di
noncomputable def S_impl_DiagonalOf_0 : Int × Int × Int × Int × (List Rt) × (List Rt) × Unit → Option ((Int × Int × Int × Int × (List Rt) × (List Rt) × Unit) ⊕ ((List Rt) × Unit)) := fun (t, t1, v, v1, v2, out, _) =>
  cond (decide (t1 < t))
    ((M_impl_Matrix_at (⟨v, v1, v2⟩ : Mx) t1 t1).bind fun r =>
    (M_impl_copyRat r).bind fun r1 =>
    (guardO (Nat.ble (out.length + 1) maxNew)).bind fun _ =>
    some (.inl (t, IntKind.i64.wrap (t1 + 1), v, v1, v2, out ++ ([r1] : List Rt), ())))
    (some (.inr (out, ())))
noncomputable def L_impl_DiagonalOf_0 (t : Int) (t1 : Int) (v : Int) (v1 : Int) (v2 : List Rt) (out : List Rt) : Option ((List Rt) × Unit) := whileO S_impl_DiagonalOf_0 (t, t1, v, v1, v2, out, ())
noncomputable def M_impl_DiagonalOf (m : Mx) : Option (List Rt) :=
  (M_impl_MatrixOk m).bind fun r =>
  cond (!r)
    (some ([] : List Rt))
    (cond (m.rows != m.cols)
      (some ([] : List Rt))
      ((L_impl_DiagonalOf_0 m.rows 0 m.rows m.cols m.cells ([] : List Rt)).bind fun (out, _) =>
      some out))

noncomputable def M_impl_QuadraticForm (m : Mx) (v : List Rt) : Option (Rt × Bool) :=
  (M_impl_ApplyMatrix m v).bind fun (r0, r1) =>
  cond (!r1)
    (some ((⟨false, ([] : List Int), ([] : List Int)⟩ : Rt), false))
    (cond (m.rows != m.cols)
      (some ((⟨false, ([] : List Int), ([] : List Int)⟩ : Rt), false))
      ((M_impl_inner v r0).bind fun r =>
      (M_impl_given_c r).bind fun (r0_1, r1_1) =>
      some (r0_1, r1_1)))

noncomputable def S_impl_TraceOf_0 : Int × Int × Int × Int × (List Rt) × Bool × (List Int) × (List Int) × Bool × (List Int) × (List Int) × Unit → Option ((Int × Int × Int × Int × (List Rt) × Bool × (List Int) × (List Int) × Bool × (List Int) × (List Int) × Unit) ⊕ (Bool × (List Int) × (List Int) × Bool × (List Int) × (List Int) × Unit)) := fun (t, t1, v, v1, v2, v3, v4, v5, v6, xs, xs1, _) =>
  cond (decide (t1 < t))
    ((M_impl_Matrix_at (⟨v, v1, v2⟩ : Mx) t1 t1).bind fun r =>
    (M_impl_add (⟨v6, xs, xs1⟩ : Rt) r).bind fun r1 =>
    some (.inl (t, IntKind.i64.wrap (t1 + 1), v, v1, v2, v3, v4, v5, r1.neg, r1.mag, r1.den, ())))
    (some (.inr (v3, v4, v5, v6, xs, xs1, ())))
noncomputable def L_impl_TraceOf_0 (t : Int) (t1 : Int) (v : Int) (v1 : Int) (v2 : List Rt) (v3 : Bool) (v4 : List Int) (v5 : List Int) (v6 : Bool) (xs : List Int) (xs1 : List Int) : Option (Bool × (List Int) × (List Int) × Bool × (List Int) × (List Int) × Unit) := whileO S_impl_TraceOf_0 (t, t1, v, v1, v2, v3, v4, v5, v6, xs, xs1, ())
noncomputable def M_impl_TraceOf (m : Mx) : Option (Rt × Bool) :=
  (M_impl_MatrixOk m).bind fun r =>
  cond (!r)
    (some ((⟨false, ([] : List Int), ([] : List Int)⟩ : Rt), false))
    (cond (m.rows != m.cols)
      (some ((⟨false, ([] : List Int), ([] : List Int)⟩ : Rt), false))
      ((M_impl_whole 0).bind fun r1 =>
      (L_impl_TraceOf_0 m.rows 0 m.rows m.cols m.cells false ([] : List Int) ([] : List Int) r1.neg r1.mag r1.den).bind fun (_, _, _, v3, xs, xs1, _) =>
      (M_impl_given_c (⟨v3, xs, xs1⟩ : Rt)).bind fun (r0, r1_1) =>
      some (r0, r1_1)))

noncomputable def S_spec_DiagonalOf_0 : Int × Int × Int × (List Rt) × (List Rt) × Unit → Option ((Int × Int × Int × (List Rt) × (List Rt) × Unit) ⊕ ((List Rt) × Unit)) := fun (i, v, v1, v2, out, _) =>
  cond (decide (i < v))
    ((M_spec_l06At (⟨v, v1, v2⟩ : Mx) i i).bind fun r =>
    (M_spec_l04Copy r).bind fun r1 =>
    (guardO (Nat.ble (out.length + 1) maxNew)).bind fun _ =>
    some (.inl (IntKind.i64.wrap (i + 1), v, v1, v2, out ++ ([r1] : List Rt), ())))
    (some (.inr (out, ())))
noncomputable def L_spec_DiagonalOf_0 (i : Int) (v : Int) (v1 : Int) (v2 : List Rt) (out : List Rt) : Option ((List Rt) × Unit) := whileO S_spec_DiagonalOf_0 (i, v, v1, v2, out, ())
noncomputable def M_spec_DiagonalOf (m : Mx) : Option (List Rt) :=
  (M_spec_MatrixOk m).bind fun r =>
  cond (!r)
    (some ([] : List Rt))
    (cond (m.rows != m.cols)
      (some ([] : List Rt))
      ((L_spec_DiagonalOf_0 0 m.rows m.cols m.cells ([] : List Rt)).bind fun (out, _) =>
      some out))

noncomputable def M_spec_IsSymmetric (m : Mx) : Option Bool :=
  (M_spec_MatrixOk m).bind fun r =>
  cond r
    (cond (m.rows == m.cols)
      ((M_spec_l06Transpose m).bind fun r1 =>
      (M_spec_EqualMatrices m r1).bind fun r2 =>
      some r2)
      (some false))
    (some false)

noncomputable def M_spec_QuadraticForm (m : Mx) (v : List Rt) : Option (Rt × Bool) :=
  (M_spec_ApplyMatrix m v).bind fun (r0, r1) =>
  cond (!r1)
    (some ((⟨false, ([] : List Int), ([] : List Int)⟩ : Rt), false))
    (cond (m.rows != m.cols)
      (some ((⟨false, ([] : List Int), ([] : List Int)⟩ : Rt), false))
      ((M_spec_l05Inner v r0).bind fun r =>
      (M_spec_l05Bad r).bind fun r2 =>
      some (r, !r2)))

noncomputable def S_spec_l08Ascending_0 : (List Int) × Int × (List Int) × Int × Int × Unit → Option (((List Int) × Int × (List Int) × Int × Int × Unit) ⊕ ((Bool × Unit) ⊕ (Unit))) := fun (list, n, t, t1, t2, _) =>
  cond (decide (t2 < t1))
    ((idx t t2).bind fun e =>
    (M_spec_l01In e 0 (IntKind.i64.wrap (n - 1))).bind fun r =>
    cond (!r)
      (some (.inr (.inl (false, ()))))
      (cond (decide (t2 > 0))
        ((idx list (IntKind.i64.wrap (t2 - 1))).bind fun e1 =>
        cond (decide (e1 ≥ e))
          (some (.inr (.inl (false, ()))))
          (some (.inl (list, n, t, t1, IntKind.i64.wrap (t2 + 1), ()))))
        (some (.inl (list, n, t, t1, IntKind.i64.wrap (t2 + 1), ())))))
    (some (.inr (.inr (()))))
noncomputable def L_spec_l08Ascending_0 (list : List Int) (n : Int) (t : List Int) (t1 : Int) (t2 : Int) : Option ((Bool × Unit) ⊕ (Unit)) := whileO S_spec_l08Ascending_0 (list, n, t, t1, t2, ())
noncomputable def M_spec_l08Ascending (list : List Int) (n : Int) : Option Bool :=
  (L_spec_l08Ascending_0 list n list (list.length : Int) 0).bind fun r =>
  match r with
  | .inl (t, _) =>
    some t
  | .inr _ =>
    some true

noncomputable def S_spec_l08Part_1 : (List Int) × Int × (List Int) × Int × Int × (List Int) × Int × Int × Int × Int × (List Rt) × Int × Int × (List Rt) × Int × Int × (List Rt) × Unit → Option (((List Int) × Int × (List Int) × Int × Int × (List Int) × Int × Int × Int × Int × (List Rt) × Int × Int × (List Rt) × Int × Int × (List Rt) × Unit) ⊕ ((List Int) × (List Int) × Int × Int × Int × Int × (List Rt) × Int × Int × (List Rt) × Int × Int × (List Rt) × Unit)) := fun (list, i, t, t1, t2, t3, t4, t5, v, v1, v2, v3, v4, v5, v6, v7, xs, _) =>
  cond (decide (t5 < t4))
    ((idx t3 t5).bind fun e =>
    (M_spec_l06At (⟨v, v1, v2⟩ : Mx) i e).bind fun r =>
    (M_spec_l04Copy r).bind fun r1 =>
    (guardO (Nat.ble (xs.length + 1) maxNew)).bind fun _ =>
    some (.inl (list, i, t, t1, t2, t3, t4, IntKind.i64.wrap (t5 + 1), v, v1, v2, v3, v4, v5, v6, v7, xs ++ ([r1] : List Rt), ())))
    (some (.inr (list, t, t1, t2, v, v1, v2, v3, v4, v5, v6, v7, xs, ())))
noncomputable def L_spec_l08Part_1 (list : List Int) (i : Int) (t : List Int) (t1 : Int) (t2 : Int) (t3 : List Int) (t4 : Int) (t5 : Int) (v : Int) (v1 : Int) (v2 : List Rt) (v3 : Int) (v4 : Int) (v5 : List Rt) (v6 : Int) (v7 : Int) (xs : List Rt) : Option ((List Int) × (List Int) × Int × Int × Int × Int × (List Rt) × Int × Int × (List Rt) × Int × Int × (List Rt) × Unit) := whileO S_spec_l08Part_1 (list, i, t, t1, t2, t3, t4, t5, v, v1, v2, v3, v4, v5, v6, v7, xs, ())
noncomputable def S_spec_l08Part_0 : (List Int) × (List Int) × Int × Int × Int × Int × (List Rt) × Int × Int × (List Rt) × Int × Int × (List Rt) × Unit → Option (((List Int) × (List Int) × Int × Int × Int × Int × (List Rt) × Int × Int × (List Rt) × Int × Int × (List Rt) × Unit) ⊕ (Int × Int × (List Rt) × Int × Int × (List Rt) × Unit)) := fun (list, t, t1, t2, v, v1, v2, v3, v4, v5, v6, v7, xs, _) =>
  cond (decide (t2 < t1))
    ((idx t t2).bind fun e =>
    (L_spec_l08Part_1 list e t t1 t2 list (list.length : Int) 0 v v1 v2 v3 v4 v5 v6 v7 xs).bind fun (list1, t3, t4, t5, v8, v9, v10, v11, v12, v13, v14, v15, xs1, _) =>
    some (.inl (list1, t3, t4, IntKind.i64.wrap (t5 + 1), v8, v9, v10, v11, v12, v13, v14, v15, xs1, ())))
    (some (.inr (v3, v4, v5, v6, v7, xs, ())))
noncomputable def L_spec_l08Part_0 (list : List Int) (t : List Int) (t1 : Int) (t2 : Int) (v : Int) (v1 : Int) (v2 : List Rt) (v3 : Int) (v4 : Int) (v5 : List Rt) (v6 : Int) (v7 : Int) (xs : List Rt) : Option (Int × Int × (List Rt) × Int × Int × (List Rt) × Unit) := whileO S_spec_l08Part_0 (list, t, t1, t2, v, v1, v2, v3, v4, v5, v6, v7, xs, ())
noncomputable def M_spec_l08Part (m : Mx) (list : List Int) : Option Mx :=
  (L_spec_l08Part_0 list list (list.length : Int) 0 m.rows m.cols m.cells 0 0 ([] : List Rt) (list.length : Int) (list.length : Int) ([] : List Rt)).bind fun (_, _, _, v3, v4, xs, _) =>
  some (⟨v3, v4, xs⟩ : Mx)

noncomputable def M_spec_Submatrix (m : Mx) (list : List Int) : Option (Mx × Bool) :=
  (M_spec_MatrixOk m).bind fun r =>
  cond (!r)
    (some ((⟨0, 0, ([] : List Rt)⟩ : Mx), false))
    (cond (m.rows != m.cols)
      (some ((⟨0, 0, ([] : List Rt)⟩ : Mx), false))
      ((M_spec_l08Ascending list m.rows).bind fun r1 =>
      cond (!r1)
        (some ((⟨0, 0, ([] : List Rt)⟩ : Mx), false))
        ((M_spec_l08Part m list).bind fun r2 =>
        some (r2, true))))

noncomputable def S_spec_l08Sum_0 : (List Rt) × Int × Int × Bool × (List Int) × (List Int) × Bool × (List Int) × (List Int) × Unit → Option (((List Rt) × Int × Int × Bool × (List Int) × (List Int) × Bool × (List Int) × (List Int) × Unit) ⊕ (Bool × (List Int) × (List Int) × Bool × (List Int) × (List Int) × Unit)) := fun (t, t1, t2, v, v1, v2, v3, xs, xs1, _) =>
  cond (decide (t2 < t1))
    ((idx t t2).bind fun e =>
    (M_spec_l04Add (⟨v3, xs, xs1⟩ : Rt) e).bind fun r =>
    some (.inl (t, t1, IntKind.i64.wrap (t2 + 1), v, v1, v2, r.neg, r.mag, r.den, ())))
    (some (.inr (v, v1, v2, v3, xs, xs1, ())))
noncomputable def L_spec_l08Sum_0 (t : List Rt) (t1 : Int) (t2 : Int) (v : Bool) (v1 : List Int) (v2 : List Int) (v3 : Bool) (xs : List Int) (xs1 : List Int) : Option (Bool × (List Int) × (List Int) × Bool × (List Int) × (List Int) × Unit) := whileO S_spec_l08Sum_0 (t, t1, t2, v, v1, v2, v3, xs, xs1, ())
noncomputable def M_spec_l08Sum (v : List Rt) : Option Rt :=
  (M_spec_l05Zero).bind fun r =>
  (L_spec_l08Sum_0 v (v.length : Int) 0 false ([] : List Int) ([] : List Int) r.neg r.mag r.den).bind fun (_, _, _, v4, xs, xs1, _) =>
  some (⟨v4, xs, xs1⟩ : Rt)

noncomputable def M_spec_TraceOf (m : Mx) : Option (Rt × Bool) :=
  (M_spec_MatrixOk m).bind fun r =>
  cond (!r)
    (some ((⟨false, ([] : List Int), ([] : List Int)⟩ : Rt), false))
    (cond (m.rows != m.cols)
      (some ((⟨false, ([] : List Int), ([] : List Int)⟩ : Rt), false))
      ((M_spec_DiagonalOf m).bind fun r1 =>
      (M_spec_l08Sum r1).bind fun r2 =>
      (M_spec_l05Bad r2).bind fun r3 =>
      some (r2, !r3)))

end Go.Di
/-
  Own work. Plain laws: matrices: elements, rows, diagonals, traces, products with vectors.
-/
namespace Go.Di

theorem inB_iff {n lo hi : Int} : inB n lo hi = true ↔ lo ≤ n ∧ n ≤ hi := by
  unfold inB; simp only [Bool.and_eq_true, decide_eq_true_iff]
theorem inB_not {n lo hi : Int} : inB n lo hi = false ↔ n < lo ∨ hi < n := by
  rw [← Bool.not_eq_true, inB_iff]; omega

/-- A valid matrix. -/
structure MxQ (m : Mx) (r c : Nat) (q : List Rat) : Prop where
  r24 : r ≤ 24
  c24 : c ≤ 24
  len : q.length = r * c
  fits : Fits q
  eq : m = ⟨r, c, q.map rq⟩
theorem prod24 {r c : Nat} (hr : r ≤ 24) (hc : c ≤ 24) : r * c ≤ 576 := by
  calc r * c ≤ 24 * 24 := Nat.mul_le_mul hr hc
    _ = 576 := rfl
theorem mx_cases {m : Mx} (h : mxB m = true) : ∃ r c q, MxQ m r c q := by
  unfold mxB at h
  simp only [Bool.and_eq_true, inB_iff] at h
  obtain ⟨⟨h1, h2⟩, ⟨h3, h4⟩, h5, h6⟩ := h
  obtain ⟨q, hq, he⟩ := goods_q h6
  obtain ⟨rows, cols, cells⟩ := m
  simp only at *
  obtain ⟨r, rfl⟩ := Int.eq_ofNat_of_zero_le h1
  obtain ⟨c, rfl⟩ := Int.eq_ofNat_of_zero_le h3
  have hp := prod24 (show r ≤ 24 by omega) (show c ≤ 24 by omega)
  have e1 : ((r : Int) * (c : Int)) = ((r * c : Nat) : Int) := by simp
  rw [e1, wrap_i64 (by omega) (by omega), beq_iff_eq] at h5
  subst he
  exact ⟨r, c, q, by omega, by omega, by rw [List.length_map] at h5; omega, hq, rfl⟩
theorem mx_ok {r c : Nat} {q : List Rat} (hr : r ≤ 24) (hc : c ≤ 24) (hl : q.length = r * c) (hf : Fits q) : mxB ⟨r, c, q.map rq⟩ = true := by
  have hp := prod24 hr hc
  have e1 : ((r : Int) * (c : Int)) = ((r * c : Nat) : Int) := by simp
  unfold mxB
  simp only [Bool.and_eq_true, inB_iff, q_goods hf, List.length_map]
  rw [e1, wrap_i64 (by omega) (by omega), beq_iff_eq, hl]
  exact ⟨⟨by omega, by omega⟩, ⟨by omega, by omega⟩, rfl, trivial⟩

theorem at_pos {i c k : Nat} (hi : i < 1000) (hc : c ≤ 1000) (hk : k < 1000) : IntKind.i64.wrap (IntKind.i64.wrap ((i : Int) * (c : Int)) + (k : Int)) = ((i * c + k : Nat) : Int) := by
  have hp : i * c ≤ 1000 * 1000 := Nat.mul_le_mul (by omega) hc
  have e1 : ((i : Int) * (c : Int)) = ((i * c : Nat) : Int) := by simp
  rw [e1, wrap_i64 (n := ((i * c : Nat) : Int)) (by omega) (by omega), wrap_i64 (by omega) (by omega)]
  simp
theorem at_lt {i r c k : Nat} (hi : i < r) (hk : k < c) : i * c + k < r * c := by
  have : (i + 1) * c ≤ r * c := Nat.mul_le_mul_right _ (by omega)
  rw [Nat.add_mul, Nat.one_mul] at this
  omega
theorem impl_at {r c : Nat} {q : List Rat} {i k : Nat} {x : Int} (hl : q.length = r * c) (hr : r ≤ 24) (hc : c ≤ 24) (hi : i < r) (hk : k < c) : M_impl_Matrix_at ⟨x, c, q.map rq⟩ i k = some (ro q[i * c + k]?) := by
  unfold M_impl_Matrix_at
  simp only []
  rw [at_pos (by omega) (by omega) (by omega), idx_q (by rw [hl]; exact at_lt hi hk)]; rfl
theorem spec_at {r c : Nat} {q : List Rat} {i k : Nat} {x : Int} (hl : q.length = r * c) (hr : r ≤ 24) (hc : c ≤ 24) (hi : i < r) (hk : k < c) : M_spec_l06At ⟨x, c, q.map rq⟩ i k = some (ro q[i * c + k]?) :=
  impl_at hl hr hc hi hk

def rowq (q : List Rat) (c i : Nat) : List Rat := cut q (i * c) ((i + 1) * c)
theorem rowq_len {q : List Rat} {r c i : Nat} (hl : q.length = r * c) (hi : i < r) : (rowq q c i).length = c := by
  have : (i + 1) * c ≤ r * c := Nat.mul_le_mul_right _ (by omega)
  unfold rowq cut
  rw [List.length_drop, List.length_take, hl, Nat.min_eq_left this, Nat.add_mul, Nat.one_mul]; omega
theorem rowq_fits {q : List Rat} (hf : Fits q) (c i : Nat) : Fits (rowq q c i) := fun x hx => hf x (List.mem_of_mem_take (List.mem_of_mem_drop hx))
theorem rowq_get {q : List Rat} {c i k : Nat} (hk : k < c) : (rowq q c i)[k]? = q[i * c + k]? := by
  unfold rowq cut
  rw [List.getElem?_drop, List.getElem?_take_of_lt (by rw [Nat.add_mul, Nat.one_mul]; omega)]
theorem cut_map (q : List Rat) (lo hi : Nat) : cut (q.map rq) lo hi = (cut q lo hi).map rq := by
  unfold cut; rw [List.map_drop, List.map_take]
theorem impl_row {r c : Nat} {q : List Rat} {i : Nat} {x : Int} (hl : q.length = r * c) (hr : r ≤ 24) (hc : c ≤ 24) (hi : i < r) : M_impl_Matrix_row ⟨x, c, q.map rq⟩ i = some ((rowq q c i).map rq) := by
  unfold M_impl_Matrix_row
  have hp := prod24 hr hc
  have h1 : (i + 1) * c ≤ r * c := Nat.mul_le_mul_right _ (by omega)
  have h2 : i * c ≤ (i + 1) * c := Nat.mul_le_mul_right _ (by omega)
  have e1 : ((i : Int) * (c : Int)) = ((i * c : Nat) : Int) := by simp
  have e2 : (((i + 1 : Nat) : Int) * (c : Int)) = (((i + 1) * c : Nat) : Int) := by simp
  simp only []
  rw [wrap_nat (n := 1000) (by omega) (by omega), e1, e2, wrap_i64 (by omega) (by omega), wrap_i64 (by omega) (by omega)]
  have hin : inside (q.map rq).length (((i * c : Nat) : Int), (((i + 1) * c : Nat) : Int)) = true := by
    unfold inside
    rw [List.length_map, hl]
    simp only [Bool.and_eq_true, decide_eq_true_iff]
    omega
  rw [hin, guardO_true, Option.bind_some, Int.toNat_natCast, Int.toNat_natCast, cut_map]; rfl
theorem spec_row {r c : Nat} {q : List Rat} {i : Nat} {x : Int} (hl : q.length = r * c) (hr : r ≤ 24) (hc : c ≤ 24) (hi : i < r) : M_spec_l06Row ⟨x, c, q.map rq⟩ i = some ((rowq q c i).map rq) :=
  impl_row hl hr hc hi

/-! ### Matrices of integers -/
def MRfit (m : Mx) : Prop := Rfit m.cells
theorem of_both {rows cols : Int} {l : List Int} (hl : CK.wf (.sl .int) l) (h20 : l.length ≤ 1048576) : ∃ m, M_spec_MatrixOf rows cols l = some m ∧ M_impl_MatrixOf rows cols l = some m ∧ Rfit m.cells := by
  have hz : Rfit (⟨0, 0, []⟩ : Mx).cells := rfit_nil
  cases h1 : inB rows 0 24 with
  | false => exact ⟨⟨0, 0, []⟩, by unfold M_spec_MatrixOf; rw [spec_in, h1]; rfl, by unfold M_impl_MatrixOf; rw [impl_len, h1]; rfl, hz⟩
  | true =>
  cases h2 : inB cols 0 24 with
  | false => exact ⟨⟨0, 0, []⟩, by unfold M_spec_MatrixOf; rw [spec_in, spec_in, h1, h2]; rfl, by unfold M_impl_MatrixOf; rw [impl_len, impl_len, h1, h2]; rfl, hz⟩
  | true =>
  cases h3 : ((l.length : Int) != IntKind.i64.wrap (rows * cols)) with
  | true => exact ⟨⟨0, 0, []⟩, by unfold M_spec_MatrixOf; rw [spec_in, spec_in, h1, h2, h3]; rfl, by unfold M_impl_MatrixOf; rw [impl_len, impl_len, h1, h2, h3]; rfl, hz⟩
  | false =>
  rw [inB_iff] at h1 h2
  have hlen : l.length ≤ 576 := by
    obtain ⟨r, rfl⟩ := Int.eq_ofNat_of_zero_le h1.1
    obtain ⟨c, rfl⟩ := Int.eq_ofNat_of_zero_le h2.1
    have hp := prod24 (show r ≤ 24 by omega) (show c ≤ 24 by omega)
    have e1 : ((r : Int) * (c : Int)) = ((r * c : Nat) : Int) := by simp
    rw [e1, wrap_i64 (by omega) (by omega)] at h3
    simp at h3
    have h3 : (l.length : Int) = ((r * c : Nat) : Int) := by simpa using h3
    omega
  have hel : ∀ i (h : i < l.length), -9223372036854775808 ≤ l[i] ∧ l[i] ≤ 9223372036854775807 := fun i h => by
    have := hl.2 _ (List.getElem_mem h)
    simpa [ST.wf, Lit.wf, show IntKind.i64.min = -9223372036854775808 from rfl] using this
  have hin1 := inB_iff.2 h1
  have hin2 := inB_iff.2 h2
  refine ⟨⟨rows, cols, ((List.range l.length).map fun i => (some (((l[i]?).getD 0 : Int) : Rat))).map ro⟩, ?_, ?_, rfit_ro (fun o ho => ?_) (by simp; omega)⟩
  · unfold M_spec_MatrixOf L_spec_MatrixOf_0
    rw [spec_in, spec_in, hin1, hin2, h3]
    simp only [Option.bind_some, Bool.not_true, cond_false]
    rw [app_loop (S := S_spec_MatrixOf_0) (fun i out => (l, (l.length : Int), i, 0, 0, [], rows, cols, out, ())) (fun i => ro (some (((l[i]?).getD 0 : Int) : Rat))) l.length (r := fun out => (0, 0, [], rows, cols, out, ())) (fun i out hi ho => by
      have hg : l[i]? = some l[i] := List.getElem?_eq_getElem hi
      have hb := hel i hi
      simp only [S_spec_MatrixOf_0, dlt hi, cond_true, idx_at hi, Option.bind_some, spec_ratInt hb.1 hb.2, room1 (show out.length ≤ 2000000 by omega), succ_wrap hi h20, hg, Option.getD_some]) (fun out _ => by simp [S_spec_MatrixOf_0]), List.map_map]
    rfl
  · unfold M_impl_MatrixOf L_impl_MatrixOf_0
    rw [impl_len, impl_len, hin1, hin2, h3]
    simp only [Option.bind_some, Bool.not_true, cond_false]
    rw [app_loop (S := S_impl_MatrixOf_0) (fun i out => (l, (l.length : Int), i, 0, 0, [], rows, cols, out, ())) (fun i => ro (some (((l[i]?).getD 0 : Int) : Rat))) l.length (r := fun out => (0, 0, [], rows, cols, out, ())) (fun i out hi ho => by
      have hg : l[i]? = some l[i] := List.getElem?_eq_getElem hi
      have hb := hel i hi
      simp only [S_impl_MatrixOf_0, dlt hi, cond_true, idx_at hi, Option.bind_some, impl_whole hb.1 hb.2, room1 (show out.length ≤ 2000000 by omega), succ_wrap hi h20, hg, Option.getD_some]) (fun out _ => by simp [S_impl_MatrixOf_0]), List.map_map]
    rfl
  · obtain ⟨i, hi, rfl⟩ := List.mem_map.1 ho
    have hi' := List.mem_range.1 hi
    rw [List.getElem?_eq_getElem hi', Option.getD_some]
    exact (fit_int (hel i hi').1 (hel i hi').2).ok

/-! ### Elements, rows, diagonals -/
theorem inB_len' {i : Int} {r : Nat} (hr : r ≤ 24) : inB i 0 (IntKind.i64.wrap ((r : Int) - 1)) = (decide (0 ≤ i) && decide (i < (r : Int))) := inB_len (by omega)
theorem lt0 (i : Int) : decide (i < 0) = !decide (0 ≤ i) := by rw [Bool.eq_iff_iff]; simp
theorem ge_n (i n : Int) : decide (i ≥ n) = !decide (i < n) := by rw [Bool.eq_iff_iff]; simp

theorem copy_ro {o : Option Rat} (h : Oks o) : M_impl_copyRat (ro o) = some (ro o) := impl_copyRat (ro_fit h)
theorem copy_ro' {o : Option Rat} (h : Oks o) : M_spec_l04Copy (ro o) = some (ro o) := spec_copyRat (ro_fit h)

theorem cell_both {m : Mx} (hm : lfit Rt.fit m.cells) (i k : Int) : ∃ o, Oks o ∧ M_spec_CellAt m i k = some (ro o) ∧ M_impl_CellAt m i k = some (ro o) := by
  cases hb : mxB m with
  | false => exact ⟨none, oks_none, by unfold M_spec_CellAt; rw [spec_mxOk hm, hb]; rfl, by unfold M_impl_CellAt; rw [impl_mxOk hm, hb]; rfl⟩
  | true =>
  obtain ⟨r, c, q, hq⟩ := mx_cases hb
  obtain ⟨hr, hc, hl, hf, rfl⟩ := hq
  have hs : M_spec_CellAt ⟨r, c, q.map rq⟩ i k = cond (decide (0 ≤ i) && decide (i < (r : Int))) (cond (decide (0 ≤ k) && decide (k < (c : Int))) ((M_spec_l06At ⟨r, c, q.map rq⟩ i k).bind fun r3 => (M_spec_l04Copy r3).bind fun r4 => some r4) (some (ro none))) (some (ro none)) := by
    unfold M_spec_CellAt
    rw [spec_mxOk hm, hb, spec_in, inB_len' hr, spec_in, inB_len' hc]
    cases (decide (0 ≤ i) && decide (i < (r : Int))) <;> cases (decide (0 ≤ k) && decide (k < (c : Int))) <;> rfl
  have hi' : M_impl_CellAt ⟨r, c, q.map rq⟩ i k = cond (decide (0 ≤ i) && decide (i < (r : Int))) (cond (decide (0 ≤ k) && decide (k < (c : Int))) ((M_impl_Matrix_at ⟨r, c, q.map rq⟩ i k).bind fun r3 => (M_impl_copyRat r3).bind fun r4 => some r4) (some (ro none))) (some (ro none)) := by
    unfold M_impl_CellAt
    rw [impl_mxOk hm, hb, lt0 i, show decide (i ≥ (⟨r, c, q.map rq⟩ : Mx).rows) = !decide (i < (r : Int)) from ge_n i r, lt0 k, show decide (k ≥ (⟨r, c, q.map rq⟩ : Mx).cols) = !decide (k < (c : Int)) from ge_n k c]
    cases decide (0 ≤ i) <;> cases decide (i < (r : Int)) <;> cases decide (0 ≤ k) <;> cases decide (k < (c : Int)) <;> rfl
  rw [hs, hi']
  by_cases h1 : 0 ≤ i ∧ i < r
  · by_cases h2 : 0 ≤ k ∧ k < c
    · obtain ⟨i, rfl⟩ := Int.eq_ofNat_of_zero_le h1.1
      obtain ⟨k, rfl⟩ := Int.eq_ofNat_of_zero_le h2.1
      have hi : i < r := by omega
      have hk : k < c := by omega
      refine ⟨q[i * c + k]?, hf.get _, ?_, ?_⟩
      · rw [spec_at hl hr hc hi hk, decide_eq_true h1.1, decide_eq_true h1.2, decide_eq_true h2.1, decide_eq_true h2.2]
        simp only [Bool.and_true, cond_true, Option.bind_some, copy_ro' (hf.get _)]
      · rw [impl_at hl hr hc hi hk, decide_eq_true h1.1, decide_eq_true h1.2, decide_eq_true h2.1, decide_eq_true h2.2]
        simp only [Bool.and_true, cond_true, Option.bind_some, copy_ro (hf.get _)]
    · have : (decide (0 ≤ k) && decide (k < (c : Int))) = false := by rw [← Bool.not_eq_true, Bool.and_eq_true, decide_eq_true_iff, decide_eq_true_iff]; exact h2
      rw [this]
      exact ⟨none, oks_none, by cases (decide (0 ≤ i) && decide (i < (r : Int))) <;> rfl, by cases (decide (0 ≤ i) && decide (i < (r : Int))) <;> rfl⟩
  · have : (decide (0 ≤ i) && decide (i < (r : Int))) = false := by rw [← Bool.not_eq_true, Bool.and_eq_true, decide_eq_true_iff, decide_eq_true_iff]; exact h1
    rw [this]
    exact ⟨none, oks_none, rfl, rfl⟩

theorem row_both {m : Mx} (hm : lfit Rt.fit m.cells) (i : Int) : ∃ R, M_spec_RowOf m i = some R ∧ M_impl_RowOf m i = some R ∧ Rfit R := by
  cases hb : mxB m with
  | false => exact ⟨[], by unfold M_spec_RowOf; rw [spec_mxOk hm, hb]; rfl, by unfold M_impl_RowOf; rw [impl_mxOk hm, hb]; rfl, rfit_nil⟩
  | true =>
  obtain ⟨r, c, q, hq⟩ := mx_cases hb
  obtain ⟨hr, hc, hl, hf, rfl⟩ := hq
  by_cases h1 : 0 ≤ i ∧ i < r
  · obtain ⟨i, rfl⟩ := Int.eq_ofNat_of_zero_le h1.1
    have hi : i < r := by omega
    have hrf : Rfit ((rowq q c i).map rq) := rfit_rq (rowq_fits hf c i) (by rw [rowq_len hl hi]; omega)
    refine ⟨(rowq q c i).map rq, ?_, ?_, hrf⟩
    · unfold M_spec_RowOf
      rw [spec_mxOk hm, hb, spec_in, inB_len' hr, spec_row hl hr hc hi, decide_eq_true h1.1, decide_eq_true h1.2]
      simp only [Option.bind_some, Bool.not_true, cond_false, Bool.and_true, spec_copyVec hrf.fit]
    · unfold M_impl_RowOf
      rw [impl_mxOk hm, hb, lt0, show decide ((i : Int) ≥ (⟨r, c, q.map rq⟩ : Mx).rows) = !decide ((i : Int) < (r : Int)) from ge_n i r, decide_eq_true h1.1, decide_eq_true h1.2, impl_row hl hr hc hi]
      simp only [Option.bind_some, Bool.not_true, cond_false, impl_copyVec hrf.fit]
  · have : (decide (0 ≤ i) && decide (i < (r : Int))) = false := by rw [← Bool.not_eq_true, Bool.and_eq_true, decide_eq_true_iff, decide_eq_true_iff]; exact h1
    refine ⟨[], ?_, ?_, rfit_nil⟩
    · unfold M_spec_RowOf
      rw [spec_mxOk hm, hb, spec_in, inB_len' hr, this]; rfl
    · unfold M_impl_RowOf
      rw [impl_mxOk hm, hb, lt0 i, show decide (i ≥ (⟨r, c, q.map rq⟩ : Mx).rows) = !decide (i < (r : Int)) from ge_n i r]
      cases h2 : decide (0 ≤ i) <;> cases h3 : decide (i < (r : Int)) <;> (try rfl)
      rw [h2, h3] at this; cases this

theorem nat_bne (a b : Nat) : ((a : Int) != (b : Int)) = !(a == b) := i64_ne a b
theorem diag_both {m : Mx} (hm : lfit Rt.fit m.cells) : ∃ R, M_spec_DiagonalOf m = some R ∧ M_impl_DiagonalOf m = some R ∧ Rfit R ∧ (R = [] ∨ ∃ r q, MxQ m r r q ∧ R = ((List.range r).map fun i => q[i * r + i]?).map ro) := by
  cases hb : mxB m with
  | false => exact ⟨[], by unfold M_spec_DiagonalOf; rw [spec_mxOk hm, hb]; rfl, by unfold M_impl_DiagonalOf; rw [impl_mxOk hm, hb]; rfl, rfit_nil, .inl rfl⟩
  | true =>
  obtain ⟨r, c, q, hq⟩ := mx_cases hb
  have hq0 := hq
  obtain ⟨hr, hc, hl, hf, rfl⟩ := hq
  by_cases h1 : r = c
  · subst h1
    have hbb : ((r : Int) != (r : Int)) = false := by simp
    refine ⟨((List.range r).map fun i => q[i * r + i]?).map ro, ?_, ?_, rfit_ro (fun o ho => ?_) (by simp; omega), .inr ⟨r, q, hq0, rfl⟩⟩
    · unfold M_spec_DiagonalOf L_spec_DiagonalOf_0
      rw [spec_mxOk hm, hb]
      simp only [Option.bind_some, Bool.not_true, cond_false, hbb]
      rw [app_loop (S := S_spec_DiagonalOf_0) (fun i out => (i, (r : Int), (r : Int), q.map rq, out, ())) (fun i => ro q[i * r + i]?) r (r := fun out => (out, ())) (fun i out hi ho => by
        simp only [S_spec_DiagonalOf_0, dlt hi, cond_true, spec_at hl hr hc hi hi, Option.bind_some, copy_ro' (hf.get _), room1 (show out.length ≤ 2000000 by omega), succ_wrap hi (show r ≤ 1048576 by omega)]) (fun out _ => by simp [S_spec_DiagonalOf_0]), List.map_map]
      rfl
    · unfold M_impl_DiagonalOf L_impl_DiagonalOf_0
      rw [impl_mxOk hm, hb]
      simp only [Option.bind_some, Bool.not_true, cond_false, hbb]
      rw [app_loop (S := S_impl_DiagonalOf_0) (fun i out => ((r : Int), i, (r : Int), (r : Int), q.map rq, out, ())) (fun i => ro q[i * r + i]?) r (r := fun out => (out, ())) (fun i out hi ho => by
        simp only [S_impl_DiagonalOf_0, dlt hi, cond_true, impl_at hl hr hc hi hi, Option.bind_some, copy_ro (hf.get _), room1 (show out.length ≤ 2000000 by omega), succ_wrap hi (show r ≤ 1048576 by omega)]) (fun out _ => by simp [S_impl_DiagonalOf_0]), List.map_map]
      rfl
    · obtain ⟨i, _, rfl⟩ := List.mem_map.1 ho
      exact hf.get _
  · have hbb : ((r : Int) != (c : Int)) = true := by rw [nat_bne]; simpa using h1
    exact ⟨[], by unfold M_spec_DiagonalOf; rw [spec_mxOk hm, hb]; simp only [Option.bind_some, Bool.not_true, cond_false, hbb]; rfl, by unfold M_impl_DiagonalOf; rw [impl_mxOk hm, hb]; simp only [Option.bind_some, Bool.not_true, cond_false, hbb]; rfl, rfit_nil, .inl rfl⟩

noncomputable def sumO (l : List (Option Rat)) : Nat → Option Rat
  | 0 => some 0
  | i + 1 => addO (sumO l i) (l[i]?.getD none)
theorem oks_sumO (l : List (Option Rat)) (i : Nat) : Oks (sumO l i) := by
  cases i with
  | zero => exact fit_zero.ok
  | succ i => exact oks_addO
theorem spec_sum {l : List (Option Rat)} (h : ∀ o ∈ l, Oks o) (hn : l.length ≤ 1048576) : M_spec_l08Sum (l.map ro) = some (ro (sumO l l.length)) := by
  unfold M_spec_l08Sum L_spec_l08Sum_0
  rw [spec_zero, Option.bind_some, List.length_map]
  have key := whileO_upto S_spec_l08Sum_0 (fun i => (l.map ro, (l.length : Int), (i : Int), false, ([] : List Int), ([] : List Int), (ro (sumO l i)).neg, (ro (sumO l i)).mag, (ro (sumO l i)).den, ())) l.length
    (false, [], [], (ro (sumO l l.length)).neg, (ro (sumO l l.length)).mag, (ro (sumO l l.length)).den, ()) (fun i hi => by
      have st : sumO l (i + 1) = addO (sumO l i) l[i] := by
        show addO _ (l[i]?.getD none) = _
        rw [List.getElem?_eq_getElem hi]; rfl
      simp only [S_spec_l08Sum_0, dlt hi, cond_true, idx_o hi, Option.bind_some, spec_addO (oks_sumO l i) (h _ (List.getElem_mem hi)), succ_wrap hi hn, st]) (by simp [S_spec_l08Sum_0])
  rw [show ro (some 0) = ro (sumO l 0) from rfl]
  refine (congrArg (fun x => Option.bind x _) key).trans ?_
  rfl

theorem trace_both {m : Mx} (hm : lfit Rt.fit m.cells) : ∃ o b, Oks o ∧ M_spec_TraceOf m = some (ro o, b) ∧ M_impl_TraceOf m = some (ro o, b) := by
  cases hb : mxB m with
  | false => exact ⟨none, false, oks_none, by unfold M_spec_TraceOf; rw [spec_mxOk hm, hb]; rfl, by unfold M_impl_TraceOf; rw [impl_mxOk hm, hb]; rfl⟩
  | true =>
  obtain ⟨r, c, q, hq⟩ := mx_cases hb
  have hq0 := hq
  obtain ⟨hr, hc, hl, hf, hmq⟩ := hq
  by_cases h1 : r = c
  · subst h1
    obtain ⟨R, d1, d2, _, d3⟩ := diag_both hm
    have hbb : (m.rows != m.cols) = false := by rw [hmq]; simp
    let l : List (Option Rat) := (List.range r).map fun i => q[i * r + i]?
    have hR : R = l.map ro := by
      rcases d3 with rfl | ⟨r', q', hq', rfl⟩
      · unfold M_spec_DiagonalOf L_spec_DiagonalOf_0 at d1
        rw [spec_mxOk hm, hb] at d1
        simp only [Option.bind_some, Bool.not_true, cond_false, hbb] at d1
        subst hmq
        rw [app_loop (S := S_spec_DiagonalOf_0) (fun i out => (i, (r : Int), (r : Int), q.map rq, out, ())) (fun i => ro q[i * r + i]?) r (r := fun out => (out, ())) (fun i out hi ho => by
          simp only [S_spec_DiagonalOf_0, dlt hi, cond_true, spec_at hl hr hc hi hi, Option.bind_some, copy_ro' (hf.get _), room1 (show out.length ≤ 2000000 by omega), succ_wrap hi (show r ≤ 1048576 by omega)]) (fun out _ => by simp [S_spec_DiagonalOf_0])] at d1
        simp only [Option.bind_some, Option.some.injEq] at d1
        rw [← d1, List.map_map]; rfl
      · have e := hq'.eq
        rw [hmq] at e
        injection e with e1 e2 e3
        have : r = r' := by omega
        subst this
        have : q = q' := by
          refine List.map_inj_right (f := rq) (fun x y h => rq_inj h) |>.1 e3
        subst this
        rfl
    have hlO : ∀ o ∈ l, Oks o := fun o ho => by
      obtain ⟨i, _, rfl⟩ := List.mem_map.1 ho
      exact hf.get _
    have hll : l.length = r := by simp [l]
    refine ⟨sumO l r, (sumO l r).isSome, oks_sumO l r, ?_, ?_⟩
    · unfold M_spec_TraceOf
      rw [spec_mxOk hm, hb, d1, hR]
      simp only [Option.bind_some, Bool.not_true, cond_false, hbb]
      rw [spec_sum hlO (by rw [hll]; omega), hll, Option.bind_some, spec_badO, Option.bind_some]
      cases sumO l r <;> rfl
    · unfold M_impl_TraceOf L_impl_TraceOf_0
      rw [impl_mxOk hm, hb]
      simp only [Option.bind_some, Bool.not_true, cond_false, hbb, whole_zero]
      subst hmq
      have key := whileO_upto S_impl_TraceOf_0 (fun i => ((r : Int), (i : Int), (r : Int), (r : Int), q.map rq, false, ([] : List Int), ([] : List Int), (ro (sumO l i)).neg, (ro (sumO l i)).mag, (ro (sumO l i)).den, ())) r
        (false, [], [], (ro (sumO l r)).neg, (ro (sumO l r)).mag, (ro (sumO l r)).den, ()) (fun i hi => by
          have st : sumO l (i + 1) = addO (sumO l i) q[i * r + i]? := by
            show addO _ (l[i]?.getD none) = _
            simp [l, hi]
          simp only [S_impl_TraceOf_0, dlt hi, cond_true, impl_at hl hr hc hi hi, Option.bind_some, impl_addO (oks_sumO l i) (hf.get _), succ_wrap hi (show r ≤ 1048576 by omega), st]) (by simp [S_impl_TraceOf_0])
      rw [show ro (some 0) = ro (sumO l 0) from rfl]
      refine (congrArg (fun x => Option.bind x _) key).trans ?_
      show ((M_impl_given_c (ro (sumO l r))).bind _) = _
      rw [impl_given]; rfl
  · have hbb : (m.rows != m.cols) = true := by rw [hmq]; rw [nat_bne]; simpa using h1
    exact ⟨none, false, oks_none, by unfold M_spec_TraceOf; rw [spec_mxOk hm, hb]; simp only [Option.bind_some, Bool.not_true, cond_false, hbb]; rfl, by unfold M_impl_TraceOf; rw [impl_mxOk hm, hb]; simp only [Option.bind_some, Bool.not_true, cond_false, hbb]; rfl⟩

/-! ### Products with vectors -/
noncomputable def appO (q : List Rat) (r c : Nat) (v : List Rat) : List (Option Rat) := (List.range r).map fun i => innO (rowq q c i) v c
theorem oks_appO {q : List Rat} {r c : Nat} {v : List Rat} : ∀ o ∈ appO q r c v, Oks o := fun o ho => by
  obtain ⟨i, _, rfl⟩ := List.mem_map.1 ho
  exact oks_innO _ _ _
theorem len_appO (q : List Rat) (r c : Nat) (v : List Rat) : (appO q r c v).length = r := by simp [appO]
theorem impl_applied {q v : List Rat} {r c : Nat} (hr : r ≤ 24) (hc : c ≤ 24) (hl : q.length = r * c) (hf : Fits q) (hv : Fits v) (hvl : v.length = c) :
    M_impl_applied ⟨r, c, q.map rq⟩ (v.map rq) = some (cond ((appO q r c v).all Option.isSome) ((appO q r c v).map ro, true) ([], false)) := by
  unfold M_impl_applied L_impl_applied_0
  rw [app_loop (S := S_impl_applied_0) (fun i out => (v.map rq, (r : Int), i, (r : Int), (c : Int), q.map rq, out, ())) (fun i => ro (innO (rowq q c i) v c)) r (r := fun out => (out, ())) (fun i out hi ho => by
    have hin := impl_inner (rowq_fits hf c i) hv (by rw [rowq_len hl hi]; omega) (by rw [rowq_len hl hi]; omega)
    rw [rowq_len hl hi] at hin
    simp only [S_impl_applied_0, dlt hi, cond_true, impl_row hl hr hc hi, Option.bind_some, hin, room1 (show out.length ≤ 2000000 by omega), succ_wrap hi (show r ≤ 1048576 by omega)]) (fun out _ => by simp [S_impl_applied_0])]
  rw [show (List.range r).map (fun i => ro (innO (rowq q c i) v c)) = (appO q r c v).map ro by unfold appO; rw [List.map_map]; rfl]
  simp only [Option.bind_some]
  rw [impl_complete (by rw [len_appO]; omega), Option.bind_some]
  cases (appO q r c v).all Option.isSome <;> rfl
theorem spec_applied {q v : List Rat} {r c : Nat} (hr : r ≤ 24) (hc : c ≤ 24) (hl : q.length = r * c) (hf : Fits q) (hv : Fits v) (hvl : v.length = c) :
    M_spec_l06Apply ⟨r, c, q.map rq⟩ (v.map rq) = some ((appO q r c v).map ro) := by
  unfold M_spec_l06Apply L_spec_l06Apply_0
  rw [app_loop (S := S_spec_l06Apply_0) (fun i out => (v.map rq, i, (r : Int), (c : Int), q.map rq, out, ())) (fun i => ro (innO (rowq q c i) v c)) r (r := fun out => (out, ())) (fun i out hi ho => by
    have hin := spec_inner (rowq_fits hf c i) hv (by rw [rowq_len hl hi]; omega) (by rw [rowq_len hl hi]; omega)
    rw [rowq_len hl hi] at hin
    simp only [S_spec_l06Apply_0, dlt hi, cond_true, spec_row hl hr hc hi, Option.bind_some, hin, room1 (show out.length ≤ 2000000 by omega), succ_wrap hi (show r ≤ 1048576 by omega)]) (fun out _ => by simp [S_spec_l06Apply_0])]
  unfold appO; rw [List.map_map]; rfl
theorem spec_done {l : List (Option Rat)} (h : l.length ≤ 1048576) : M_spec_l05Done_c (l.map ro) = some (cond (l.all Option.isSome) (l.map ro, true) ([], false)) := by
  unfold M_spec_l05Done_c
  rw [spec_fine h, Option.bind_some]
  cases l.all Option.isSome <;> rfl

theorem vec_cases {v : List Rt} (h : vecB v = true) : ∃ q : List Rat, Fits q ∧ q.length ≤ 24 ∧ v = q.map rq := by
  unfold vecB at h
  rw [Bool.and_eq_true, decide_eq_true_iff] at h
  obtain ⟨q, hq, rfl⟩ := goods_q h.2
  exact ⟨q, hq, by simpa using h.1, rfl⟩
theorem all_some {l : List (Option Rat)} (h : l.all Option.isSome = true) (hk : ∀ o ∈ l, Oks o) : ∃ q : List Rat, Fits q ∧ l.map ro = q.map rq ∧ q.length = l.length := by
  induction l with
  | nil => exact ⟨[], fun x hx => (by cases hx), rfl, rfl⟩
  | cons o l ih =>
    rw [List.all_cons, Bool.and_eq_true] at h
    obtain ⟨q, hq, e, e2⟩ := ih h.2 fun x hx => hk x (List.mem_cons_of_mem _ hx)
    cases o with
    | none => cases h.1
    | some x =>
      refine ⟨x :: q, fun y hy => ?_, by rw [List.map_cons, List.map_cons, e]; rfl, by simp [e2]⟩
      rcases List.mem_cons.1 hy with rfl | hy
      · exact hk (some y) (List.mem_cons_self ..) y rfl
      · exact hq y hy

/-- What a product with a vector is. -/
theorem apply_cases {m : Mx} (hm : lfit Rt.fit m.cells) {v : List Rt} (hv : lfit Rt.fit v) :
    (M_spec_ApplyMatrix m v = some ([], false) ∧ M_impl_ApplyMatrix m v = some ([], false)) ∨
    ∃ r c q w y, MxQ m r c q ∧ Fits w ∧ w.length = c ∧ v = w.map rq ∧ Fits y ∧ y.length = r ∧ M_spec_ApplyMatrix m v = some (y.map rq, true) ∧ M_impl_ApplyMatrix m v = some (y.map rq, true) := by
  cases hb : mxB m with
  | false => exact .inl ⟨by unfold M_spec_ApplyMatrix; rw [spec_mxOk hm, hb]; rfl, by unfold M_impl_ApplyMatrix; rw [impl_mxOk hm, hb]; rfl⟩
  | true =>
  cases hvb : vecB v with
  | false => exact .inl ⟨by unfold M_spec_ApplyMatrix; rw [spec_mxOk hm, hb, spec_isVec hv, hvb]; rfl, by unfold M_impl_ApplyMatrix; rw [impl_mxOk hm, hb, impl_isVec hv, hvb]; rfl⟩
  | true =>
  cases hlen : ((v.length : Int) != m.cols) with
  | true => exact .inl ⟨by unfold M_spec_ApplyMatrix; rw [spec_mxOk hm, hb, spec_isVec hv, hvb, hlen]; rfl, by unfold M_impl_ApplyMatrix; rw [impl_mxOk hm, hb, impl_isVec hv, hvb, hlen]; rfl⟩
  | false =>
  obtain ⟨r, c, q, hq⟩ := mx_cases hb
  have hq0 := hq
  obtain ⟨hr, hc, hl, hf, hmq⟩ := hq
  obtain ⟨w, hw, hw24, rfl⟩ := vec_cases hvb
  have hwc : w.length = c := by
    rw [hmq] at hlen
    rw [List.length_map, nat_bne] at hlen
    simpa using hlen
  have hs : M_spec_ApplyMatrix m (w.map rq) = some (cond ((appO q r c w).all Option.isSome) ((appO q r c w).map ro, true) ([], false)) := by
    unfold M_spec_ApplyMatrix
    rw [spec_mxOk hm, hb, spec_isVec hv, hvb, hlen]
    simp only [Option.bind_some, Bool.not_true, cond_false]
    rw [hmq, spec_applied hr hc hl hf hw hwc, Option.bind_some, spec_done (by rw [len_appO]; omega)]
    cases (appO q r c w).all Option.isSome <;> rfl
  have hi : M_impl_ApplyMatrix m (w.map rq) = some (cond ((appO q r c w).all Option.isSome) ((appO q r c w).map ro, true) ([], false)) := by
    unfold M_impl_ApplyMatrix
    rw [impl_mxOk hm, hb, impl_isVec hv, hvb, hlen]
    simp only [Option.bind_some, Bool.not_true, cond_false]
    rw [hmq, impl_applied hr hc hl hf hw hwc]
    cases (appO q r c w).all Option.isSome <;> rfl
  cases ha : (appO q r c w).all Option.isSome with
  | false => rw [ha] at hs hi; exact .inl ⟨hs, hi⟩
  | true =>
    rw [ha] at hs hi
    obtain ⟨y, hy, e, e2⟩ := all_some ha oks_appO
    rw [e] at hs hi
    exact .inr ⟨r, c, q, w, y, hq0, hw, hwc, rfl, hy, by rw [e2, len_appO], hs, hi⟩
theorem apply_both {m : Mx} (hm : lfit Rt.fit m.cells) {v : List Rt} (hv : lfit Rt.fit v) : ∃ R b, M_spec_ApplyMatrix m v = some (R, b) ∧ M_impl_ApplyMatrix m v = some (R, b) ∧ Rfit R := by
  rcases apply_cases hm hv with ⟨h1, h2⟩ | ⟨r, c, q, w, y, hq, hw, hwc, rfl, hy, hyl, h1, h2⟩
  · exact ⟨_, _, h1, h2, rfit_nil⟩
  · exact ⟨_, _, h1, h2, rfit_rq hy (by have := hq.r24; omega)⟩
theorem quad_both {m : Mx} (hm : lfit Rt.fit m.cells) {v : List Rt} (hv : lfit Rt.fit v) : ∃ o b, Oks o ∧ M_spec_QuadraticForm m v = some (ro o, b) ∧ M_impl_QuadraticForm m v = some (ro o, b) := by
  rcases apply_cases hm hv with ⟨h1, h2⟩ | ⟨r, c, q, w, y, hq, hw, hwc, rfl, hy, hyl, h1, h2⟩
  · exact ⟨none, false, oks_none, by unfold M_spec_QuadraticForm; rw [h1]; rfl, by unfold M_impl_QuadraticForm; rw [h2]; rfl⟩
  · have hr := hq.r24
    have hmq := hq.eq
    by_cases hrc : r = c
    · subst hrc
      have hbb : (m.rows != m.cols) = false := by rw [hmq]; simp
      refine ⟨innO w y r, (innO w y r).isSome, oks_innO _ _ _, ?_, ?_⟩
      · unfold M_spec_QuadraticForm
        have := spec_inner hw hy (by omega) (by omega)
        rw [hwc] at this
        rw [h1]
        simp only [Option.bind_some, Bool.not_true, cond_false, hbb, this, spec_badO]
        cases innO w y r <;> rfl
      · unfold M_impl_QuadraticForm
        have := impl_inner hw hy (by omega) (by omega)
        rw [hwc] at this
        rw [h2]
        simp only [Option.bind_some, Bool.not_true, cond_false, hbb, this, impl_given]
    · have hbb : (m.rows != m.cols) = true := by rw [hmq]; rw [nat_bne]; simpa using hrc
      exact ⟨none, false, oks_none, by unfold M_spec_QuadraticForm; rw [h1]; simp only [Option.bind_some, Bool.not_true, cond_false, hbb]; rfl, by unfold M_impl_QuadraticForm; rw [h2]; simp only [Option.bind_some, Bool.not_true, cond_false, hbb]; rfl⟩
end Go.Di
/-
  Own work. Plain laws: marks on lists of observations; observations left out.
-/
namespace Go.Di

def wO (o : Obs) : Nat := 5 + o.value.mag.length + o.value.den.length + o.variance.mag.length + o.variance.den.length
def mkO (k : Int) (o : Obs) : Obs :=
  ⟨k, k + 1, k + 2, ⟨((k + 3).tmod 3) == 0, upto (k + 4) o.value.mag.length, upto (k + 4 + o.value.mag.length) o.value.den.length⟩,
    ⟨((k + 4 + o.value.mag.length + o.value.den.length).tmod 3) == 0, upto (k + 4 + o.value.mag.length + o.value.den.length + 1) o.variance.mag.length, upto (k + 4 + o.value.mag.length + o.value.den.length + 1 + o.variance.mag.length) o.variance.den.length⟩⟩
theorem ws_obss (l : List Obs) : ws wO l = 5 * l.length + (l.map Obs.sz).sum := by
  unfold ws
  induction l with
  | nil => rfl
  | cons r l ih => simp only [List.map_cons, List.sum_cons, List.length_cons, ih]; unfold wO Obs.sz Rt.sz; omega

theorem mark_obss {a : List Obs} (ha : lfit Obs.fit a) (hw : ws wO a ≤ 1000000000) {k : Int} (h0 : 0 ≤ k) (h1 : k ≤ 1000000000) : M_laws_markObservationS_md a k = some (k + (ws wO a : Nat), marks mkO wO k a) := by
  unfold M_laws_markObservationS_md L_laws_markObservationS_md_0
  rw [mark_loop (mk := mkO) (w := wO) (B := 2000000000) h0 (by omega) (fun i K c hi q0 q1 hl hc => ?_) (fun K c hl => by simp [S_laws_markObservationS_md_0, hl])]
  · rfl
  · have hlt := lt_of_get hc
    have hf := ha.2 _ (List.getElem_mem hi)
    have f1 := hf.1.1
    have f2 := hf.1.2
    have f3 := hf.2.1
    have f4 := hf.2.2
    generalize hx : a[i] = x at *
    have e1 : IntKind.i64.wrap (K + 1) = K + 1 := wrap_i64 (by omega) (by omega)
    have e2 : IntKind.i64.wrap (K + 1 + 1) = K + 2 := by rw [wrap_i64 (by omega) (by omega)]; omega
    have e3 : IntKind.i64.wrap (K + 2 + 1) = K + 3 := by rw [wrap_i64 (by omega) (by omega)]; omega
    have e4 : IntKind.i64.wrap (K + 3 + 1) = K + 4 := by rw [wrap_i64 (by omega) (by omega)]; omega
    have e5 : IntKind.i64.wrap (K + 4 + (x.value.mag.length : Int) + (x.value.den.length : Int) + 1) = K + 4 + (x.value.mag.length : Int) + (x.value.den.length : Int) + 1 := wrap_i64 (by omega) (by omega)
    simp only [S_laws_markObservationS_md_0, dlt hlt, cond_true, get_int hc, Option.bind_some, Int.toNat_natCast, hc, idx_set hlt, get_set hlt, List.set_set, e1, e2, e3, e4,
      mark_ints f1 (show 0 ≤ K + 4 by omega) (by omega), mark_ints f2 (show 0 ≤ K + 4 + (x.value.mag.length : Int) by omega) (by omega), e5,
      mark_ints f3 (show 0 ≤ K + 4 + (x.value.mag.length : Int) + (x.value.den.length : Int) + 1 by omega) (by omega),
      mark_ints f4 (show 0 ≤ K + 4 + (x.value.mag.length : Int) + (x.value.den.length : Int) + 1 + (x.variance.mag.length : Int) by omega) (by omega), succ_wrap hi ha.1]
    congr 3
    unfold wO; omega
theorem held_obss {a : List Obs} (ha : lfit Obs.fit a) (hw : ws wO a ≤ 1000000000) {k : Int} (h0 : 0 ≤ k) (h1 : k ≤ 1000000000) : M_laws_heldObservationS (marks mkO wO k a) k = some (k + (ws wO a : Nat)) := by
  unfold M_laws_heldObservationS L_laws_heldObservationS_0
  rw [held_loop (mk := mkO) (w := wO) (B := 2000000000) h0 (by omega) (fun i K c hi q0 q1 hl hc => ?_) (fun K c hl => by simp [S_laws_heldObservationS_0, hl])]
  · rfl
  · have hlt := lt_of_get hc
    have hf := ha.2 _ (List.getElem_mem hi)
    have f1 := hf.1.1
    have f2 := hf.1.2
    have f3 := hf.2.1
    have f4 := hf.2.2
    generalize hx : a[i] = x at *
    have e1 : IntKind.i64.wrap (K + 1) = K + 1 := wrap_i64 (by omega) (by omega)
    have e2 : IntKind.i64.wrap (K + 1 + 1) = K + 2 := by rw [wrap_i64 (by omega) (by omega)]; omega
    have e3 : IntKind.i64.wrap (K + 2 + 1) = K + 3 := by rw [wrap_i64 (by omega) (by omega)]; omega
    have e4 : IntKind.i64.wrap (K + 3 + 1) = K + 4 := by rw [wrap_i64 (by omega) (by omega)]; omega
    have e5 : IntKind.i64.wrap (K + 4 + (x.value.mag.length : Int) + (x.value.den.length : Int) + 1) = K + 4 + (x.value.mag.length : Int) + (x.value.den.length : Int) + 1 := wrap_i64 (by omega) (by omega)
    simp only [S_laws_heldObservationS_0, dlt hlt, cond_true, get_int hc, Option.bind_some, e1, e2, e3, e4, e5, mkO, bneSelf, beq_self_eq_true, Bool.not_true, cond_false,
      held_ints f1 (show 0 ≤ K + 4 by omega) (by omega), held_ints f2 (show 0 ≤ K + 4 + (x.value.mag.length : Int) by omega) (by omega),
      held_ints f3 (show 0 ≤ K + 4 + (x.value.mag.length : Int) + (x.value.den.length : Int) + 1 by omega) (by omega),
      held_ints f4 (show 0 ≤ K + 4 + (x.value.mag.length : Int) + (x.value.den.length : Int) + 1 + (x.variance.mag.length : Int) by omega) (by omega), succ_wrap hi ha.1,
      dneg (show 0 ≤ K + 4 + (x.value.mag.length : Int) by omega), dneg (show 0 ≤ K + 4 + (x.value.mag.length : Int) + (x.value.den.length : Int) by omega),
      dneg (show 0 ≤ K + 4 + (x.value.mag.length : Int) + (x.value.den.length : Int) + 1 + (x.variance.mag.length : Int) by omega),
      dneg (show 0 ≤ K + 4 + (x.value.mag.length : Int) + (x.value.den.length : Int) + 1 + (x.variance.mag.length : Int) + (x.variance.den.length : Int) by omega)]
    congr 4
    unfold wO; omega

theorem impl_copyObs {o : Obs} (h : o.fit) : M_impl_copyObservation o = some o := by
  unfold M_impl_copyObservation
  rw [impl_copyRat h.1, Option.bind_some, impl_copyRat h.2]; rfl
theorem spec_copyObs {o : Obs} (h : o.fit) : M_spec_l11Copy o = some o := by
  unfold M_spec_l11Copy
  rw [spec_copyRat h.1, Option.bind_some, spec_copyRat h.2]; rfl
theorem impl_has {l : List Int} (h : l.length ≤ 1048576) (n : Int) : ∃ b, M_impl_hasInt l n = some b := by
  unfold M_impl_hasInt L_impl_hasInt_0
  have key := find_loop (S := S_impl_hasInt_0) (fun i => (n, l, (l.length : Int), (i : Int), ())) l.length (fun i => cond (((l[i]?).getD 0) == n) (some (.inl (true, ()))) none) (.inr ()) (fun i hi => by
    have hg : l[i]? = some l[i] := List.getElem?_eq_getElem hi
    simp only [S_impl_hasInt_0, dlt hi, cond_true, idx_at hi, Option.bind_some, succ_wrap hi h, hg, Option.getD_some]
    cases (l[i] == n) <;> rfl) (by simp [S_impl_hasInt_0])
  rw [show ((0 : Nat) : Int) = 0 from rfl] at key
  rw [key, Option.bind_some]
  cases ((List.range l.length).findSome? fun i => cond (((l[i]?).getD 0) == n) (some (Sum.inl (β := Unit) (true, ()))) none).getD (.inr ()) with
  | inl r => exact ⟨r.1, rfl⟩
  | inr _ => exact ⟨false, rfl⟩
theorem spec_has : M_spec_l07Has = M_impl_hasInt := rfl

noncomputable def leftO (l : List Obs) (skip : List Int) : Nat → List Obs
  | 0 => []
  | i + 1 => cond ((M_impl_hasInt skip (i : Int)).getD false) (leftO l skip i) (leftO l skip i ++ (l[i]?).toList)
theorem leftO_mem {l : List Obs} {skip : List Int} : ∀ {i : Nat} {o : Obs}, o ∈ leftO l skip i → o ∈ l
  | 0, o, h => by cases h
  | i + 1, o, h => by
    unfold leftO at h
    cases hb : (M_impl_hasInt skip (i : Int)).getD false with
    | true => rw [hb] at h; exact leftO_mem h
    | false =>
      rw [hb] at h
      rcases List.mem_append.1 h with h | h
      · exact leftO_mem h
      · exact List.mem_of_getElem? (i := i) (by simpa using h)
theorem leftO_len (l : List Obs) (skip : List Int) : ∀ i : Nat, (leftO l skip i).length ≤ i ∧ ((leftO l skip i).map Obs.sz).sum ≤ ((l.take i).map Obs.sz).sum
  | 0 => ⟨Nat.le_refl _, by simp [leftO]⟩
  | i + 1 => by
    have ih := leftO_len l skip i
    have hle : ((l.take i).map Obs.sz).sum ≤ ((l.take (i + 1)).map Obs.sz).sum := by
      rw [List.take_add_one, List.map_append, List.sum_append]; omega
    unfold leftO
    cases (M_impl_hasInt skip (i : Int)).getD false with
    | true => exact ⟨by simp only [cond_true]; omega, by simp only [cond_true]; omega⟩
    | false =>
      simp only [cond_false, List.length_append, List.map_append, List.sum_append]
      rw [List.take_add_one, List.map_append, List.sum_append]
      refine ⟨?_, by omega⟩
      cases l[i]? <;> simp <;> omega
theorem without_both {l : List Obs} (hl : lfit Obs.fit l) {skip : List Int} (hs : skip.length ≤ 1048576) : M_spec_WithoutObservations l skip = some (leftO l skip l.length) ∧ M_impl_WithoutObservations l skip = some (leftO l skip l.length) := by
  have h1 := hl.1
  constructor
  · unfold M_spec_WithoutObservations L_spec_WithoutObservations_0
    have key := whileO_upto S_spec_WithoutObservations_0 (fun i => (skip, l, (l.length : Int), (i : Int), leftO l skip i, ())) l.length (leftO l skip l.length, ()) (fun i hi => by
      obtain ⟨b, hb⟩ := impl_has hs (i : Int)
      have hg : l[i]? = some l[i] := List.getElem?_eq_getElem hi
      have hlen := (leftO_len l skip i).1
      simp only [S_spec_WithoutObservations_0, dlt hi, cond_true, idx_at hi, Option.bind_some, spec_has, hb, spec_copyObs (hl.2 _ (List.getElem_mem hi)), room1 (show (leftO l skip i).length ≤ 2000000 by omega), succ_wrap hi h1]
      rw [show leftO l skip (i + 1) = cond ((M_impl_hasInt skip (i : Int)).getD false) (leftO l skip i) (leftO l skip i ++ (l[i]?).toList) from rfl, hb, hg]
      cases b <;> rfl) (by simp [S_spec_WithoutObservations_0])
    refine (congrArg (fun x => Option.bind x _) key).trans ?_
    rfl
  · unfold M_impl_WithoutObservations L_impl_WithoutObservations_0
    have key := whileO_upto S_impl_WithoutObservations_0 (fun i => (skip, l, (l.length : Int), (i : Int), leftO l skip i, ())) l.length (leftO l skip l.length, ()) (fun i hi => by
      obtain ⟨b, hb⟩ := impl_has hs (i : Int)
      have hg : l[i]? = some l[i] := List.getElem?_eq_getElem hi
      have hlen := (leftO_len l skip i).1
      simp only [S_impl_WithoutObservations_0, dlt hi, cond_true, idx_at hi, Option.bind_some, hb, impl_copyObs (hl.2 _ (List.getElem_mem hi)), room1 (show (leftO l skip i).length ≤ 2000000 by omega), succ_wrap hi h1]
      rw [show leftO l skip (i + 1) = cond ((M_impl_hasInt skip (i : Int)).getD false) (leftO l skip i) (leftO l skip i ++ (l[i]?).toList) from rfl, hb, hg]
      cases b <;> rfl) (by simp [S_impl_WithoutObservations_0])
    refine (congrArg (fun x => Option.bind x _) key).trans ?_
    rfl
end Go.Di
/-
  Own work, written by program (gen.py) out of the functions of the given program: what they compute, as plain Lean.
-/
namespace Go.Di
noncomputable def M_laws_FnExactMatrixOf (aRows : Int) (aCols : Int) (aList : List Int) : Option Bool :=
  cond (decide ((aList.length : Int) > 1048576))
    (some true)
    ((M_laws_toIntS aList).bind fun r =>
    (M_spec_MatrixOf aRows aCols r).bind fun r1 =>
    (M_laws_toIntS aList).bind fun r2 =>
    (M_impl_MatrixOf aRows aCols r2).bind fun r3 =>
    (M_laws_eqMatrix r3 r1).bind fun r4 =>
    cond (!r4)
      (some false)
      ((M_laws_toIntS aList).bind fun r5 =>
      (M_laws_eqIntS r2 r5).bind fun r6 =>
      cond (!r6)
        (some false)
        ((M_laws_markIntS_md r2 1).bind fun (r0, _) =>
        cond (decide (r0 < 0))
          (some false)
          ((M_laws_eqMatrix r3 r1).bind fun r7 =>
          cond (!r7)
            (some false)
            ((M_laws_markMatrix_md r3 1).bind fun (r0_1, x0_1) =>
            (M_laws_heldMatrix (⟨r3.rows, r3.cols, x0_1⟩ : Mx) 1).bind fun r8 =>
            cond (decide (r8 < 0))
              (some false)
              (cond (r8 != r0_1)
                (some false)
                ((M_laws_toIntS aList).bind fun r9 =>
                (M_impl_MatrixOf aRows aCols r9).bind fun r10 =>
                (M_laws_eqMatrix r10 r1).bind fun r11 =>
                cond (!r11)
                  (some false)
                  ((M_laws_heldMatrix (⟨r3.rows, r3.cols, x0_1⟩ : Mx) 1).bind fun r12 =>
                  cond (decide (r12 < 0))
                    (some false)
                    (cond (r12 != r0_1)
                      (some false)
                      (some true))))))))))

end Go.Di
/-
  Own work, written by program (gen.py) out of the functions of the given program: what they compute, as plain Lean.
-/
namespace Go.Di
noncomputable def M_laws_FnExactCellAt (aM : Mx) (aI : Int) (aK : Int) : Option Bool :=
  (M_laws_szMatrix aM 1048576).bind fun r =>
  cond (decide (r < 0))
    (some true)
    ((M_laws_toMatrix aM).bind fun r1 =>
    (M_spec_CellAt r1 aI aK).bind fun r2 =>
    (M_laws_toMatrix aM).bind fun r3 =>
    (M_impl_CellAt r3 aI aK).bind fun r4 =>
    (M_laws_eqRat r4 r2).bind fun r5 =>
    cond (!r5)
      (some false)
      ((M_laws_toMatrix aM).bind fun r6 =>
      (M_laws_eqMatrix r3 r6).bind fun r7 =>
      cond (!r7)
        (some false)
        ((M_laws_markMatrix_md r3 1).bind fun (r0, _) =>
        cond (decide (r0 < 0))
          (some false)
          ((M_laws_eqRat r4 r2).bind fun r8 =>
          cond (!r8)
            (some false)
            ((M_laws_markRat_md r4 1).bind fun (r0_1, x0_1, x1) =>
            (M_laws_heldRat (⟨r4.neg, x0_1, x1⟩ : Rt) 1).bind fun r9 =>
            cond (decide (r9 < 0))
              (some false)
              (cond (r9 != r0_1)
                (some false)
                ((M_laws_toMatrix aM).bind fun r10 =>
                (M_impl_CellAt r10 aI aK).bind fun r11 =>
                (M_laws_eqRat r11 r2).bind fun r12 =>
                cond (!r12)
                  (some false)
                  ((M_laws_heldRat (⟨r4.neg, x0_1, x1⟩ : Rt) 1).bind fun r13 =>
                  cond (decide (r13 < 0))
                    (some false)
                    (cond (r13 != r0_1)
                      (some false)
                      (some true))))))))))

end Go.Di
/-
  Own work, written by program (gen.py) out of the functions of the given program: what they compute, as plain Lean.
-/
namespace Go.Di
noncomputable def M_laws_FnExactRowOf (aM : Mx) (aI : Int) : Option Bool :=
  (M_laws_szMatrix aM 1048576).bind fun r =>
  cond (decide (r < 0))
    (some true)
    ((M_laws_toMatrix aM).bind fun r1 =>
    (M_spec_RowOf r1 aI).bind fun r2 =>
    (M_laws_toMatrix aM).bind fun r3 =>
    (M_impl_RowOf r3 aI).bind fun r4 =>
    (M_laws_eqRatS r4 r2).bind fun r5 =>
    cond (!r5)
      (some false)
      ((M_laws_toMatrix aM).bind fun r6 =>
      (M_laws_eqMatrix r3 r6).bind fun r7 =>
      cond (!r7)
        (some false)
        ((M_laws_markMatrix_md r3 1).bind fun (r0, _) =>
        cond (decide (r0 < 0))
          (some false)
          ((M_laws_eqRatS r4 r2).bind fun r8 =>
          cond (!r8)
            (some false)
            ((M_laws_markRatS_md r4 1).bind fun (r0_1, x0_1) =>
            (M_laws_heldRatS x0_1 1).bind fun r9 =>
            cond (decide (r9 < 0))
              (some false)
              (cond (r9 != r0_1)
                (some false)
                ((M_laws_toMatrix aM).bind fun r10 =>
                (M_impl_RowOf r10 aI).bind fun r11 =>
                (M_laws_eqRatS r11 r2).bind fun r12 =>
                cond (!r12)
                  (some false)
                  ((M_laws_heldRatS x0_1 1).bind fun r13 =>
                  cond (decide (r13 < 0))
                    (some false)
                    (cond (r13 != r0_1)
                      (some false)
                      (some true))))))))))

end Go.Di
/-
  Own work, written by program (gen.py) out of the functions of the given program: what they compute, as plain Lean.
-/
namespace Go.Di
noncomputable def M_laws_FnExactDiagonalOf (aM : Mx) : Option Bool :=
  (M_laws_szMatrix aM 1048576).bind fun r =>
  cond (decide (r < 0))
    (some true)
    ((M_laws_toMatrix aM).bind fun r1 =>
    (M_spec_DiagonalOf r1).bind fun r2 =>
    (M_laws_toMatrix aM).bind fun r3 =>
    (M_impl_DiagonalOf r3).bind fun r4 =>
    (M_laws_eqRatS r4 r2).bind fun r5 =>
    cond (!r5)
      (some false)
      ((M_laws_toMatrix aM).bind fun r6 =>
      (M_laws_eqMatrix r3 r6).bind fun r7 =>
      cond (!r7)
        (some false)
        ((M_laws_markMatrix_md r3 1).bind fun (r0, _) =>
        cond (decide (r0 < 0))
          (some false)
          ((M_laws_eqRatS r4 r2).bind fun r8 =>
          cond (!r8)
            (some false)
            ((M_laws_markRatS_md r4 1).bind fun (r0_1, x0_1) =>
            (M_laws_heldRatS x0_1 1).bind fun r9 =>
            cond (decide (r9 < 0))
              (some false)
              (cond (r9 != r0_1)
                (some false)
                ((M_laws_toMatrix aM).bind fun r10 =>
                (M_impl_DiagonalOf r10).bind fun r11 =>
                (M_laws_eqRatS r11 r2).bind fun r12 =>
                cond (!r12)
                  (some false)
                  ((M_laws_heldRatS x0_1 1).bind fun r13 =>
                  cond (decide (r13 < 0))
                    (some false)
                    (cond (r13 != r0_1)
                      (some false)
                      (some true))))))))))

end Go.Di
/-
  Own work, written by program (gen.py) out of the functions of the given program: what they compute, as plain Lean.
-/
namespace Go.Di
noncomputable def M_laws_FnExactTraceOf (aM : Mx) : Option Bool :=
  (M_laws_szMatrix aM 1048576).bind fun r =>
  cond (decide (r < 0))
    (some true)
    ((M_laws_toMatrix aM).bind fun r1 =>
    (M_spec_TraceOf r1).bind fun (r0, r1_1) =>
    (M_laws_toMatrix aM).bind fun r2 =>
    (M_impl_TraceOf r2).bind fun (r0_1, r1_2) =>
    (M_laws_eqRat r0_1 r0).bind fun r3 =>
    cond (!r3)
      (some false)
      (cond (!(r1_2 == r1_1))
        (some false)
        ((M_laws_toMatrix aM).bind fun r4 =>
        (M_laws_eqMatrix r2 r4).bind fun r5 =>
        cond (!r5)
          (some false)
          ((M_laws_markMatrix_md r2 1).bind fun (r0_2, _) =>
          cond (decide (r0_2 < 0))
            (some false)
            ((M_laws_eqRat r0_1 r0).bind fun r6 =>
            cond (!r6)
              (some false)
              (cond (!(r1_2 == r1_1))
                (some false)
                ((M_laws_markRat_md r0_1 1).bind fun (r0_3, x0_1, x1) =>
                (M_laws_heldRat (⟨r0_1.neg, x0_1, x1⟩ : Rt) 1).bind fun r7 =>
                cond (decide (r7 < 0))
                  (some false)
                  (cond (r7 != r0_3)
                    (some false)
                    ((M_laws_toMatrix aM).bind fun r8 =>
                    (M_impl_TraceOf r8).bind fun (r0_4, r1_3) =>
                    (M_laws_eqRat r0_4 r0).bind fun r9 =>
                    cond (!r9)
                      (some false)
                      (cond (!(r1_3 == r1_1))
                        (some false)
                        ((M_laws_heldRat (⟨r0_1.neg, x0_1, x1⟩ : Rt) 1).bind fun r10 =>
                        cond (decide (r10 < 0))
                          (some false)
                          (cond (r10 != r0_3)
                            (some false)
                            (some true)))))))))))))

end Go.Di
/-
  Own work, written by program (gen.py) out of the functions of the given program: what they compute, as plain Lean.
-/
namespace Go.Di
noncomputable def M_laws_FnExactApplyMatrix (aM : Mx) (aV : List Rt) : Option Bool :=
  (M_laws_szMatrix aM 1048576).bind fun r =>
  cond (decide (r < 0))
    (some true)
    ((M_laws_szRatS aV r).bind fun r1 =>
    cond (decide (r1 < 0))
      (some true)
      ((M_laws_toMatrix aM).bind fun r2 =>
      (M_laws_toRatS aV).bind fun r3 =>
      (M_spec_ApplyMatrix r2 r3).bind fun (r0, r1_1) =>
      (M_laws_toMatrix aM).bind fun r4 =>
      (M_laws_toRatS aV).bind fun r5 =>
      (M_impl_ApplyMatrix r4 r5).bind fun (r0_1, r1_2) =>
      (M_laws_eqRatS r0_1 r0).bind fun r6 =>
      cond (!r6)
        (some false)
        (cond (!(r1_2 == r1_1))
          (some false)
          ((M_laws_toMatrix aM).bind fun r7 =>
          (M_laws_eqMatrix r4 r7).bind fun r8 =>
          cond (!r8)
            (some false)
            ((M_laws_toRatS aV).bind fun r9 =>
            (M_laws_eqRatS r5 r9).bind fun r10 =>
            cond (!r10)
              (some false)
              ((M_laws_markMatrix_md r4 1).bind fun (r0_2, _) =>
              (M_laws_markRatS_md r5 r0_2).bind fun (r0_3, _) =>
              cond (decide (r0_3 < 0))
                (some false)
                ((M_laws_eqRatS r0_1 r0).bind fun r11 =>
                cond (!r11)
                  (some false)
                  (cond (!(r1_2 == r1_1))
                    (some false)
                    ((M_laws_markRatS_md r0_1 1).bind fun (r0_4, x0_2) =>
                    (M_laws_heldRatS x0_2 1).bind fun r12 =>
                    cond (decide (r12 < 0))
                      (some false)
                      (cond (r12 != r0_4)
                        (some false)
                        ((M_laws_toMatrix aM).bind fun r13 =>
                        (M_laws_toRatS aV).bind fun r14 =>
                        (M_impl_ApplyMatrix r13 r14).bind fun (r0_5, r1_3) =>
                        (M_laws_eqRatS r0_5 r0).bind fun r15 =>
                        cond (!r15)
                          (some false)
                          (cond (!(r1_3 == r1_1))
                            (some false)
                            ((M_laws_heldRatS x0_2 1).bind fun r16 =>
                            cond (decide (r16 < 0))
                              (some false)
                              (cond (r16 != r0_4)
                                (some false)
                                (some true)))))))))))))))

end Go.Di
/-
  Own work, written by program (gen.py) out of the functions of the given program: what they compute, as plain Lean.
-/
namespace Go.Di
noncomputable def M_laws_FnExactQuadraticForm (aM : Mx) (aV : List Rt) : Option Bool :=
  (M_laws_szMatrix aM 1048576).bind fun r =>
  cond (decide (r < 0))
    (some true)
    ((M_laws_szRatS aV r).bind fun r1 =>
    cond (decide (r1 < 0))
      (some true)
      ((M_laws_toMatrix aM).bind fun r2 =>
      (M_laws_toRatS aV).bind fun r3 =>
      (M_spec_QuadraticForm r2 r3).bind fun (r0, r1_1) =>
      (M_laws_toMatrix aM).bind fun r4 =>
      (M_laws_toRatS aV).bind fun r5 =>
      (M_impl_QuadraticForm r4 r5).bind fun (r0_1, r1_2) =>
      (M_laws_eqRat r0_1 r0).bind fun r6 =>
      cond (!r6)
        (some false)
        (cond (!(r1_2 == r1_1))
          (some false)
          ((M_laws_toMatrix aM).bind fun r7 =>
          (M_laws_eqMatrix r4 r7).bind fun r8 =>
          cond (!r8)
            (some false)
            ((M_laws_toRatS aV).bind fun r9 =>
            (M_laws_eqRatS r5 r9).bind fun r10 =>
            cond (!r10)
              (some false)
              ((M_laws_markMatrix_md r4 1).bind fun (r0_2, _) =>
              (M_laws_markRatS_md r5 r0_2).bind fun (r0_3, _) =>
              cond (decide (r0_3 < 0))
                (some false)
                ((M_laws_eqRat r0_1 r0).bind fun r11 =>
                cond (!r11)
                  (some false)
                  (cond (!(r1_2 == r1_1))
                    (some false)
                    ((M_laws_markRat_md r0_1 1).bind fun (r0_4, x0_2, x1) =>
                    (M_laws_heldRat (⟨r0_1.neg, x0_2, x1⟩ : Rt) 1).bind fun r12 =>
                    cond (decide (r12 < 0))
                      (some false)
                      (cond (r12 != r0_4)
                        (some false)
                        ((M_laws_toMatrix aM).bind fun r13 =>
                        (M_laws_toRatS aV).bind fun r14 =>
                        (M_impl_QuadraticForm r13 r14).bind fun (r0_5, r1_3) =>
                        (M_laws_eqRat r0_5 r0).bind fun r15 =>
                        cond (!r15)
                          (some false)
                          (cond (!(r1_3 == r1_1))
                            (some false)
                            ((M_laws_heldRat (⟨r0_1.neg, x0_2, x1⟩ : Rt) 1).bind fun r16 =>
                            cond (decide (r16 < 0))
                              (some false)
                              (cond (r16 != r0_4)
                                (some false)
                                (some true)))))))))))))))

end Go.Di
/-
  Own work. Given statements on matrices' elements, rows, diagonals, traces, products with vectors, observations left out, as plain laws.
-/
namespace Go.Di

/-- A measure of a statement's argument: too great, or what fits goes on. -/
theorem sz_go {x : Option Int} {left : Int} {n : Nat} {k : Int → Option Bool} (h : SzR x left n) (hk : ∀ r : Int, 0 ≤ r → r + n = left → k r = some true) :
    (x.bind fun r => cond (decide (r < 0)) (some true) (k r)) = some true := by
  rcases h with rfl | ⟨r, h0, h1, rfl⟩
  · rfl
  · have : decide (r < 0) = false := by simpa using h0
    simp only [Option.bind_some, this, cond_false, hk r h0 h1]
theorem small_then {n : Nat} {x : Option Bool} (h : n ≤ 1048576 → x = some true) : cond (decide ((n : Int) > 1048576)) (some true) x = some true := by
  cases hc : decide ((n : Int) > 1048576) with
  | true => rfl
  | false => exact h (by have := of_decide_eq_false hc; omega)

theorem law_MatrixOf (rows cols : Int) (l : List Int) (h : CK.wf (.sl .int) l) : M_laws_FnExactMatrixOf rows cols l = some true := by
  unfold M_laws_FnExactMatrixOf
  refine small_then fun hl => ?_
  obtain ⟨m, hs, hi, f⟩ := of_both (rows := rows) (cols := cols) h hl
  have f1 := f.few
  simp (disch := omega) only [to_ints hl, hs, hi, Option.bind_some, eq_mx f.fit, eq_ints hl, eqB_self, Bool.not_true, cond_false, mark_ints hl, mark_mx f.fit f.few, held_mx f.fit f.few, dneg, bneSelf]
theorem law_CellAt (m : Mx) (i k : Int) (h : CK.wf (.sl .rat) m.cells) : M_laws_FnExactCellAt m i k = some true := by
  unfold M_laws_FnExactCellAt
  refine sz_go (sz_mx h (by omega) (by omega)) fun r r0 r1 => ?_
  have f := rfit_lsz (l := m.cells) (by omega)
  have f1 := f.few
  obtain ⟨o, ok, hs, hi⟩ := cell_both f.fit i k
  have fo := ro_fit ok
  have fo1 := fo.1
  have fo2 := fo.2
  simp (disch := omega) only [to_mx f.fit, hs, hi, Option.bind_some, eq_rat fo, eq_mx f.fit, eqB_self, Bool.not_true, cond_false, mark_rat fo, mark_mx f.fit f.few, held_rat, dneg, bneSelf]
theorem law_RowOf (m : Mx) (i : Int) (h : CK.wf (.sl .rat) m.cells) : M_laws_FnExactRowOf m i = some true := by
  unfold M_laws_FnExactRowOf
  refine sz_go (sz_mx h (by omega) (by omega)) fun r r0 r1 => ?_
  have f := rfit_lsz (l := m.cells) (by omega)
  have f1 := f.few
  obtain ⟨R, hs, hi, g⟩ := row_both f.fit i
  have g1 := g.few
  simp (disch := omega) only [to_mx f.fit, hs, hi, Option.bind_some, eq_rats g.fit, eq_mx f.fit, eqB_self, Bool.not_true, cond_false, mark_rats g.fit g.few, mark_mx f.fit f.few, held_rats g.fit g.few, dneg, bneSelf]
theorem law_DiagonalOf (m : Mx) (h : CK.wf (.sl .rat) m.cells) : M_laws_FnExactDiagonalOf m = some true := by
  unfold M_laws_FnExactDiagonalOf
  refine sz_go (sz_mx h (by omega) (by omega)) fun r r0 r1 => ?_
  have f := rfit_lsz (l := m.cells) (by omega)
  have f1 := f.few
  obtain ⟨R, hs, hi, g, _⟩ := diag_both f.fit
  have g1 := g.few
  simp (disch := omega) only [to_mx f.fit, hs, hi, Option.bind_some, eq_rats g.fit, eq_mx f.fit, eqB_self, Bool.not_true, cond_false, mark_rats g.fit g.few, mark_mx f.fit f.few, held_rats g.fit g.few, dneg, bneSelf]
theorem law_TraceOf (m : Mx) (h : CK.wf (.sl .rat) m.cells) : M_laws_FnExactTraceOf m = some true := by
  unfold M_laws_FnExactTraceOf
  refine sz_go (sz_mx h (by omega) (by omega)) fun r r0 r1 => ?_
  have f := rfit_lsz (l := m.cells) (by omega)
  have f1 := f.few
  obtain ⟨o, b, ok, hs, hi⟩ := trace_both f.fit
  have fo := ro_fit ok
  have fo1 := fo.1
  have fo2 := fo.2
  simp (disch := omega) only [to_mx f.fit, hs, hi, Option.bind_some, eq_rat fo, eq_mx f.fit, eqB_self, beq_self_eq_true, Bool.not_true, cond_false, mark_rat fo, mark_mx f.fit f.few, held_rat, dneg, bneSelf]
theorem law_ApplyMatrix (m : Mx) (v : List Rt) (h : CK.wf (.sl .rat) m.cells) (hv : CK.wf (.sl .rat) v) : M_laws_FnExactApplyMatrix m v = some true := by
  unfold M_laws_FnExactApplyMatrix
  refine sz_go (sz_mx h (by omega) (by omega)) fun r r0 r1 => sz_go (sz_rats hv r0 (by omega)) fun r' q0 q1 => ?_
  have f := rfit_lsz (l := m.cells) (by omega)
  have fv := rfit_lsz (l := v) (by omega)
  have f1 := f.few
  have f2 := fv.few
  have hw : ws wR m.cells ≤ 1048576 := by rw [ws_rats]; omega
  obtain ⟨R, b, hs, hi, g⟩ := apply_both f.fit fv.fit
  have g1 := g.few
  simp (disch := omega) only [to_mx f.fit, to_rats fv.fit, hs, hi, Option.bind_some, eq_rats g.fit, eq_rats fv.fit, eq_mx f.fit, eqB_self, beq_self_eq_true, Bool.not_true, cond_false, mark_rats g.fit g.few, mark_rats fv.fit fv.few, mark_mx f.fit f.few, held_rats g.fit g.few, dneg, bneSelf]
theorem law_QuadraticForm (m : Mx) (v : List Rt) (h : CK.wf (.sl .rat) m.cells) (hv : CK.wf (.sl .rat) v) : M_laws_FnExactQuadraticForm m v = some true := by
  unfold M_laws_FnExactQuadraticForm
  refine sz_go (sz_mx h (by omega) (by omega)) fun r r0 r1 => sz_go (sz_rats hv r0 (by omega)) fun r' q0 q1 => ?_
  have f := rfit_lsz (l := m.cells) (by omega)
  have fv := rfit_lsz (l := v) (by omega)
  have f1 := f.few
  have f2 := fv.few
  have hw : ws wR m.cells ≤ 1048576 := by rw [ws_rats]; omega
  obtain ⟨o, b, ok, hs, hi⟩ := quad_both f.fit fv.fit
  have fo := ro_fit ok
  have fo1 := fo.1
  have fo2 := fo.2
  simp (disch := omega) only [to_mx f.fit, to_rats fv.fit, hs, hi, Option.bind_some, eq_rat fo, eq_rats fv.fit, eq_mx f.fit, eqB_self, beq_self_eq_true, Bool.not_true, cond_false, mark_rat fo, mark_rats fv.fit fv.few, mark_mx f.fit f.few, held_rat, dneg, bneSelf]
theorem law_WithoutObservations (l : List Obs) (skip : List Int) (h : CK.wf (.sl .obs) l) (_ : CK.wf (.sl .int) skip) : M_laws_FnExactWithoutObservations l skip = some true := by
  unfold M_laws_FnExactWithoutObservations
  refine small_then fun hk => sz_go (sz_obss h (by omega) (by omega)) fun r r0 r1 => ?_
  have hsz : lsz Obs.sz l ≤ 1048576 := by omega
  have f : lfit Obs.fit l := lfit_of (f := Obs.sz) (fun x => Obs.fit_of) hsz
  have hw : ws wO l ≤ 6000000 := by rw [ws_obss]; unfold lsz at hsz; omega
  obtain ⟨hs, hi⟩ := without_both f hk
  have hn := leftO_len l skip l.length
  rw [List.take_length] at hn
  have g : lfit Obs.fit (leftO l skip l.length) := ⟨by have := f.1; omega, fun x hx => f.2 x (leftO_mem hx)⟩
  have hg : ws wO (leftO l skip l.length) ≤ 6000000 := by rw [ws_obss]; unfold lsz at hsz; omega
  generalize leftO l skip l.length = R at *
  simp (disch := omega) only [to_obss f, to_ints hk, hs, hi, Option.bind_some, eq_obss g, eq_obss f, eq_ints hk, eqB_self, Bool.not_true, cond_false, mark_obss f (show ws wO l ≤ 1000000000 by omega), mark_ints hk, mark_obss g (show ws wO R ≤ 1000000000 by omega), held_obss g (show ws wO R ≤ 1000000000 by omega), dneg, bneSelf]
end Go.Di
