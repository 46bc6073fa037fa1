/-
  Own work: part 9 of the texts that the proof of the given statement leans on.
-/
import Derived.Test.YtkjfphfbpocijaaZQuadraticFormP01
namespace Go.Di
end Go.Di
namespace Go.Di
theorem inB_iff {n lo hi : Int} : inB n lo hi = true ↔ lo ≤ n ∧ n ≤ hi := by
  unfold inB; simp only [Bool.and_eq_true, decide_eq_true_iff]
structure MxQ (m : Mx) (r c : Nat) (q : List Rat) : Prop where
  r24 : r ≤ 24
  c24 : c ≤ 24
  len : q.length = r * c
  fits : Fits q
  eq : m = ⟨r, c, q.map rq⟩
theorem prod24 {r c : Nat} (hr : r ≤ 24) (hc : c ≤ 24) : r * c ≤ 576 := by
  calc r * c ≤ 24 * 24 := Nat.mul_le_mul hr hc
    _ = 576 := rfl
theorem mx_cases {m : Mx} (h : mxB m = true) : ∃ r c q, MxQ m r c q := by
  unfold mxB at h
  simp only [Bool.and_eq_true, inB_iff] at h
  obtain ⟨⟨h1, h2⟩, ⟨h3, h4⟩, h5, h6⟩ := h
  obtain ⟨q, hq, he⟩ := goods_q h6
  obtain ⟨rows, cols, cells⟩ := m
  simp only at *
  obtain ⟨r, rfl⟩ := Int.eq_ofNat_of_zero_le h1
  obtain ⟨c, rfl⟩ := Int.eq_ofNat_of_zero_le h3
  have hp := prod24 (show r ≤ 24 by omega) (show c ≤ 24 by omega)
  have e1 : ((r : Int) * (c : Int)) = ((r * c : Nat) : Int) := by simp
  rw [e1, wrap_i64 (by omega) (by omega), beq_iff_eq] at h5
  subst he
  exact ⟨r, c, q, by omega, by omega, by rw [List.length_map] at h5; omega, hq, rfl⟩
def rowq (q : List Rat) (c i : Nat) : List Rat := cut q (i * c) ((i + 1) * c)
theorem rowq_len {q : List Rat} {r c i : Nat} (hl : q.length = r * c) (hi : i < r) : (rowq q c i).length = c := by
  have : (i + 1) * c ≤ r * c := Nat.mul_le_mul_right _ (by omega)
  unfold rowq cut
  rw [List.length_drop, List.length_take, hl, Nat.min_eq_left this, Nat.add_mul, Nat.one_mul]; omega
theorem rowq_fits {q : List Rat} (hf : Fits q) (c i : Nat) : Fits (rowq q c i) := fun x hx => hf x (List.mem_of_mem_take (List.mem_of_mem_drop hx))
theorem cut_map (q : List Rat) (lo hi : Nat) : cut (q.map rq) lo hi = (cut q lo hi).map rq := by
  unfold cut; rw [List.map_drop, List.map_take]
theorem impl_row {r c : Nat} {q : List Rat} {i : Nat} {x : Int} (hl : q.length = r * c) (hr : r ≤ 24) (hc : c ≤ 24) (hi : i < r) : M_impl_Matrix_row ⟨x, c, q.map rq⟩ i = some ((rowq q c i).map rq) := by
  unfold M_impl_Matrix_row
  have hp := prod24 hr hc
  have h1 : (i + 1) * c ≤ r * c := Nat.mul_le_mul_right _ (by omega)
  have h2 : i * c ≤ (i + 1) * c := Nat.mul_le_mul_right _ (by omega)
  have e1 : ((i : Int) * (c : Int)) = ((i * c : Nat) : Int) := by simp
  have e2 : (((i + 1 : Nat) : Int) * (c : Int)) = (((i + 1) * c : Nat) : Int) := by simp
  simp only []
  rw [wrap_nat (n := 1000) (by omega) (by omega), e1, e2, wrap_i64 (by omega) (by omega), wrap_i64 (by omega) (by omega)]
  have hin : inside (q.map rq).length (((i * c : Nat) : Int), (((i + 1) * c : Nat) : Int)) = true := by
    unfold inside
    rw [List.length_map, hl]
    simp only [Bool.and_eq_true, decide_eq_true_iff]
    omega
  rw [hin, guardO_true, Option.bind_some, Int.toNat_natCast, Int.toNat_natCast, cut_map]; rfl
theorem spec_row {r c : Nat} {q : List Rat} {i : Nat} {x : Int} (hl : q.length = r * c) (hr : r ≤ 24) (hc : c ≤ 24) (hi : i < r) : M_spec_l06Row ⟨x, c, q.map rq⟩ i = some ((rowq q c i).map rq) :=
  impl_row hl hr hc hi
/-! ### Matrices of integers -/
/-! ### Elements, rows, diagonals -/
theorem nat_bne (a b : Nat) : ((a : Int) != (b : Int)) = !(a == b) := i64_ne a b
/-! ### Products with vectors -/
noncomputable def appO (q : List Rat) (r c : Nat) (v : List Rat) : List (Option Rat) := (List.range r).map fun i => innO (rowq q c i) v c
theorem oks_appO {q : List Rat} {r c : Nat} {v : List Rat} : ∀ o ∈ appO q r c v, Oks o := fun o ho => by
  obtain ⟨i, _, rfl⟩ := List.mem_map.1 ho
  exact oks_innO _ _ _
theorem len_appO (q : List Rat) (r c : Nat) (v : List Rat) : (appO q r c v).length = r := by simp [appO]
theorem impl_applied {q v : List Rat} {r c : Nat} (hr : r ≤ 24) (hc : c ≤ 24) (hl : q.length = r * c) (hf : Fits q) (hv : Fits v) (hvl : v.length = c) :
    M_impl_applied ⟨r, c, q.map rq⟩ (v.map rq) = some (cond ((appO q r c v).all Option.isSome) ((appO q r c v).map ro, true) ([], false)) := by
  unfold M_impl_applied L_impl_applied_0
  rw [app_loop (S := S_impl_applied_0) (fun i out => (v.map rq, (r : Int), i, (r : Int), (c : Int), q.map rq, out, ())) (fun i => ro (innO (rowq q c i) v c)) r (r := fun out => (out, ())) (fun i out hi ho => by
    have hin := impl_inner (rowq_fits hf c i) hv (by rw [rowq_len hl hi]; omega) (by rw [rowq_len hl hi]; omega)
    rw [rowq_len hl hi] at hin
    simp only [S_impl_applied_0, dlt hi, cond_true, impl_row hl hr hc hi, Option.bind_some, hin, room1 (show out.length ≤ 2000000 by omega), succ_wrap hi (show r ≤ 1048576 by omega)]) (fun out _ => by simp [S_impl_applied_0])]
  rw [show (List.range r).map (fun i => ro (innO (rowq q c i) v c)) = (appO q r c v).map ro by unfold appO; rw [List.map_map]; rfl]
  simp only [Option.bind_some]
  rw [impl_complete (by rw [len_appO]; omega), Option.bind_some]
  cases (appO q r c v).all Option.isSome <;> rfl
theorem spec_applied {q v : List Rat} {r c : Nat} (hr : r ≤ 24) (hc : c ≤ 24) (hl : q.length = r * c) (hf : Fits q) (hv : Fits v) (hvl : v.length = c) :
    M_spec_l06Apply ⟨r, c, q.map rq⟩ (v.map rq) = some ((appO q r c v).map ro) := by
  unfold M_spec_l06Apply L_spec_l06Apply_0
  rw [app_loop (S := S_spec_l06Apply_0) (fun i out => (v.map rq, i, (r : Int), (c : Int), q.map rq, out, ())) (fun i => ro (innO (rowq q c i) v c)) r (r := fun out => (out, ())) (fun i out hi ho => by
    have hin := spec_inner (rowq_fits hf c i) hv (by rw [rowq_len hl hi]; omega) (by rw [rowq_len hl hi]; omega)
    rw [rowq_len hl hi] at hin
    simp only [S_spec_l06Apply_0, dlt hi, cond_true, spec_row hl hr hc hi, Option.bind_some, hin, room1 (show out.length ≤ 2000000 by omega), succ_wrap hi (show r ≤ 1048576 by omega)]) (fun out _ => by simp [S_spec_l06Apply_0])]
  unfold appO; rw [List.map_map]; rfl
theorem spec_done {l : List (Option Rat)} (h : l.length ≤ 1048576) : M_spec_l05Done_c (l.map ro) = some (cond (l.all Option.isSome) (l.map ro, true) ([], false)) := by
  unfold M_spec_l05Done_c
  rw [spec_fine h, Option.bind_some]
  cases l.all Option.isSome <;> rfl
theorem vec_cases {v : List Rt} (h : vecB v = true) : ∃ q : List Rat, Fits q ∧ q.length ≤ 24 ∧ v = q.map rq := by
  unfold vecB at h
  rw [Bool.and_eq_true, decide_eq_true_iff] at h
  obtain ⟨q, hq, rfl⟩ := goods_q h.2
  exact ⟨q, hq, by simpa using h.1, rfl⟩
theorem all_some {l : List (Option Rat)} (h : l.all Option.isSome = true) (hk : ∀ o ∈ l, Oks o) : ∃ q : List Rat, Fits q ∧ l.map ro = q.map rq ∧ q.length = l.length := by
  induction l with
  | nil => exact ⟨[], fun x hx => (by cases hx), rfl, rfl⟩
  | cons o l ih =>
    rw [List.all_cons, Bool.and_eq_true] at h
    obtain ⟨q, hq, e, e2⟩ := ih h.2 fun x hx => hk x (List.mem_cons_of_mem _ hx)
    cases o with
    | none => cases h.1
    | some x =>
      refine ⟨x :: q, fun y hy => ?_, by rw [List.map_cons, List.map_cons, e]; rfl, by simp [e2]⟩
      rcases List.mem_cons.1 hy with rfl | hy
      · exact hk (some y) (List.mem_cons_self ..) y rfl
      · exact hq y hy
theorem apply_cases {m : Mx} (hm : lfit Rt.fit m.cells) {v : List Rt} (hv : lfit Rt.fit v) :
    (M_spec_ApplyMatrix m v = some ([], false) ∧ M_impl_ApplyMatrix m v = some ([], false)) ∨
    ∃ r c q w y, MxQ m r c q ∧ Fits w ∧ w.length = c ∧ v = w.map rq ∧ Fits y ∧ y.length = r ∧ M_spec_ApplyMatrix m v = some (y.map rq, true) ∧ M_impl_ApplyMatrix m v = some (y.map rq, true) := by
  cases hb : mxB m with
  | false => exact .inl ⟨by unfold M_spec_ApplyMatrix; rw [spec_mxOk hm, hb]; rfl, by unfold M_impl_ApplyMatrix; rw [impl_mxOk hm, hb]; rfl⟩
  | true =>
  cases hvb : vecB v with
  | false => exact .inl ⟨by unfold M_spec_ApplyMatrix; rw [spec_mxOk hm, hb, spec_isVec hv, hvb]; rfl, by unfold M_impl_ApplyMatrix; rw [impl_mxOk hm, hb, impl_isVec hv, hvb]; rfl⟩
  | true =>
  cases hlen : ((v.length : Int) != m.cols) with
  | true => exact .inl ⟨by unfold M_spec_ApplyMatrix; rw [spec_mxOk hm, hb, spec_isVec hv, hvb, hlen]; rfl, by unfold M_impl_ApplyMatrix; rw [impl_mxOk hm, hb, impl_isVec hv, hvb, hlen]; rfl⟩
  | false =>
  obtain ⟨r, c, q, hq⟩ := mx_cases hb
  have hq0 := hq
  obtain ⟨hr, hc, hl, hf, hmq⟩ := hq
  obtain ⟨w, hw, hw24, rfl⟩ := vec_cases hvb
  have hwc : w.length = c := by
    rw [hmq] at hlen
    rw [List.length_map, nat_bne] at hlen
    simpa using hlen
  have hs : M_spec_ApplyMatrix m (w.map rq) = some (cond ((appO q r c w).all Option.isSome) ((appO q r c w).map ro, true) ([], false)) := by
    unfold M_spec_ApplyMatrix
    rw [spec_mxOk hm, hb, spec_isVec hv, hvb, hlen]
    simp only [Option.bind_some, Bool.not_true, cond_false]
    rw [hmq, spec_applied hr hc hl hf hw hwc, Option.bind_some, spec_done (by rw [len_appO]; omega)]
    cases (appO q r c w).all Option.isSome <;> rfl
  have hi : M_impl_ApplyMatrix m (w.map rq) = some (cond ((appO q r c w).all Option.isSome) ((appO q r c w).map ro, true) ([], false)) := by
    unfold M_impl_ApplyMatrix
    rw [impl_mxOk hm, hb, impl_isVec hv, hvb, hlen]
    simp only [Option.bind_some, Bool.not_true, cond_false]
    rw [hmq, impl_applied hr hc hl hf hw hwc]
    cases (appO q r c w).all Option.isSome <;> rfl
  cases ha : (appO q r c w).all Option.isSome with
  | false => rw [ha] at hs hi; exact .inl ⟨hs, hi⟩
  | true =>
    rw [ha] at hs hi
    obtain ⟨y, hy, e, e2⟩ := all_some ha oks_appO
    rw [e] at hs hi
    exact .inr ⟨r, c, q, w, y, hq0, hw, hwc, rfl, hy, by rw [e2, len_appO], hs, hi⟩
theorem quad_both {m : Mx} (hm : lfit Rt.fit m.cells) {v : List Rt} (hv : lfit Rt.fit v) : ∃ o b, Oks o ∧ M_spec_QuadraticForm m v = some (ro o, b) ∧ M_impl_QuadraticForm m v = some (ro o, b) := by
  rcases apply_cases hm hv with ⟨h1, h2⟩ | ⟨r, c, q, w, y, hq, hw, hwc, rfl, hy, hyl, h1, h2⟩
  · exact ⟨none, false, oks_none, by unfold M_spec_QuadraticForm; rw [h1]; rfl, by unfold M_impl_QuadraticForm; rw [h2]; rfl⟩
  · have hr := hq.r24
    have hmq := hq.eq
    by_cases hrc : r = c
    · subst hrc
      have hbb : (m.rows != m.cols) = false := by rw [hmq]; simp
      refine ⟨innO w y r, (innO w y r).isSome, oks_innO _ _ _, ?_, ?_⟩
      · unfold M_spec_QuadraticForm
        have := spec_inner hw hy (by omega) (by omega)
        rw [hwc] at this
        rw [h1]
        simp only [Option.bind_some, Bool.not_true, cond_false, hbb, this, spec_badO]
        cases innO w y r <;> rfl
      · unfold M_impl_QuadraticForm
        have := impl_inner hw hy (by omega) (by omega)
        rw [hwc] at this
        rw [h2]
        simp only [Option.bind_some, Bool.not_true, cond_false, hbb, this, impl_given]
    · have hbb : (m.rows != m.cols) = true := by rw [hmq]; rw [nat_bne]; simpa using hrc
      exact ⟨none, false, oks_none, by unfold M_spec_QuadraticForm; rw [h1]; simp only [Option.bind_some, Bool.not_true, cond_false, hbb]; rfl, by unfold M_impl_QuadraticForm; rw [h2]; simp only [Option.bind_some, Bool.not_true, cond_false, hbb]; rfl⟩
end Go.Di
namespace Go.Di
end Go.Di
namespace Go.Di
theorem sz_go {x : Option Int} {left : Int} {n : Nat} {k : Int → Option Bool} (h : SzR x left n) (hk : ∀ r : Int, 0 ≤ r → r + n = left → k r = some true) :
    (x.bind fun r => cond (decide (r < 0)) (some true) (k r)) = some true := by
  rcases h with rfl | ⟨r, h0, h1, rfl⟩
  · rfl
  · have : decide (r < 0) = false := by simpa using h0
    simp only [Option.bind_some, this, cond_false, hk r h0 h1]
end Go.Di
namespace Go.Di
end Go.Di
namespace Go.Di
end Go.Di
namespace Go.Di
end Go.Di
namespace Go.Di
end Go.Di
namespace Go.Di
end Go.Di
namespace Go.Di
end Go.Di
namespace Go.Di
end Go.Di
namespace Go.Di
theorem law_QuadraticForm (m : Mx) (v : List Rt) (h : CK.wf (.sl .rat) m.cells) (hv : CK.wf (.sl .rat) v) : M_laws_FnExactQuadraticForm m v = some true := by
  unfold M_laws_FnExactQuadraticForm
  refine sz_go (sz_mx h (by omega) (by omega)) fun r r0 r1 => sz_go (sz_rats hv r0 (by omega)) fun r' q0 q1 => ?_
  have f := rfit_lsz (l := m.cells) (by omega)
  have fv := rfit_lsz (l := v) (by omega)
  have f1 := f.few
  have f2 := fv.few
  have hw : ws wR m.cells ≤ 1048576 := by rw [ws_rats]; omega
  obtain ⟨o, b, ok, hs, hi⟩ := quad_both f.fit fv.fit
  have fo := ro_fit ok
  have fo1 := fo.1
  have fo2 := fo.2
  simp (disch := omega) only [to_mx f.fit, to_rats fv.fit, hs, hi, Option.bind_some, eq_rat fo, eq_rats fv.fit, eq_mx f.fit, eqB_self, beq_self_eq_true, Bool.not_true, cond_false, mark_rat fo, mark_rats fv.fit fv.few, mark_mx f.fit f.few, held_rat, dneg, bneSelf]
end Go.Di
