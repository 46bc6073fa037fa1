/-
  Own work: part 7 of the texts that the proof of the given statement leans on.
-/
import Derived.Test.YtgimphipdnieaaaGreatZE01
namespace Go.Di
noncomputable def M_impl_IsSymmetric (m : Mx) : Option Bool :=
  (M_impl_MatrixOk m).bind fun r =>
  cond r
    ((M_impl_turned m).bind fun r1 =>
    (M_impl_EqualMatrices m r1).bind fun r2 =>
    some r2)
    (some false)
noncomputable def S_impl_Factor_m_3 : Int × Int × Int × Int × Int × Int × Int × Int × Int × Int × Int × (List Rt) × (List Rt) × Int × Int × Bool × (List Int) × (List Int) × Bool × (List Rt) × (List Rt) × (List Int) × (List Int) × Unit → Option ((Int × Int × Int × Int × Int × Int × Int × Int × Int × Int × Int × (List Rt) × (List Rt) × Int × Int × Bool × (List Int) × (List Int) × Bool × (List Rt) × (List Rt) × (List Int) × (List Int) × Unit) ⊕ (Int × Int × Int × Int × Int × Int × Int × Int × Int × (List Rt) × (List Rt) × Int × Int × Bool × (List Int) × (List Int) × Bool × (List Rt) × (List Rt) × (List Int) × (List Int) × Unit)) := fun (n, k, i, t, t1, t2, t3, v, v1, v2, v3, v4, m_cells, v5, v6, v7, v8, v9, v10, d, xs, xs1, xs2, _) =>
  cond (decide (t3 < t2))
    ((idx d t3).bind fun _ =>
    (d[t3.toNat]?).bind fun e =>
    (M_impl_Matrix_at_mdd (⟨v5, v6, xs⟩ : Mx) i t3).bind fun (r0, x0) =>
    (M_impl_Matrix_at_mdd (⟨v5, v6, x0⟩ : Mx) k t3).bind fun (r0_1, x0_1) =>
    (M_impl_mul r0 r0_1).bind fun r =>
    (M_impl_mul r e).bind fun r1 =>
    (M_impl_sub (⟨v10, xs1, xs2⟩ : Rt) r1).bind fun r2 =>
    some (.inl (n, k, i, t, t1, t2, IntKind.i64.wrap (t3 + 1), v, v1, v2, v3, v4, m_cells, v5, v6, v7, v8, v9, r2.neg, d, x0_1, r2.mag, r2.den, ())))
    (some (.inr (n, k, i, t, t1, v, v1, v2, v3, v4, m_cells, v5, v6, v7, v8, v9, v10, d, xs, xs1, xs2, ())))
noncomputable def L_impl_Factor_m_3 (n : Int) (k : Int) (i : Int) (t : Int) (t1 : Int) (t2 : Int) (t3 : Int) (v : Int) (v1 : Int) (v2 : Int) (v3 : Int) (v4 : List Rt) (m_cells : List Rt) (v5 : Int) (v6 : Int) (v7 : Bool) (v8 : List Int) (v9 : List Int) (v10 : Bool) (d : List Rt) (xs : List Rt) (xs1 : List Int) (xs2 : List Int) : Option (Int × Int × Int × Int × Int × Int × Int × Int × Int × (List Rt) × (List Rt) × Int × Int × Bool × (List Int) × (List Int) × Bool × (List Rt) × (List Rt) × (List Int) × (List Int) × Unit) := whileO S_impl_Factor_m_3 (n, k, i, t, t1, t2, t3, v, v1, v2, v3, v4, m_cells, v5, v6, v7, v8, v9, v10, d, xs, xs1, xs2, ())
noncomputable def S_impl_Factor_m_2 : Int × Int × Int × Int × Int × Int × Int × Int × Int × (List Rt) × (List Rt) × Int × Int × Bool × (List Int) × (List Int) × (List Rt) × (List Rt) × Unit → Option ((Int × Int × Int × Int × Int × Int × Int × Int × Int × (List Rt) × (List Rt) × Int × Int × Bool × (List Int) × (List Int) × (List Rt) × (List Rt) × Unit) ⊕ (((List Rt) × Bool × Int × Int × (List Rt) × (List Rt) × Unit) ⊕ (Int × Int × Int × Int × Int × Int × Int × (List Rt) × (List Rt) × Int × Int × (List Rt) × (List Rt) × Unit))) := fun (n, k, i, t, t1, v, v1, v2, v3, v4, m_cells, v5, v6, v7, v8, v9, d, xs, _) =>
  cond (decide (i < n))
    ((M_impl_Matrix_at_mdd (⟨v, v1, m_cells⟩ : Mx) i k).bind fun (r0, x0) =>
    (M_impl_copyRat r0).bind fun r =>
    (L_impl_Factor_m_3 n k i t t1 k 0 v v1 v2 v3 v4 x0 v5 v6 v7 v8 v9 r.neg d xs r.mag r.den).bind fun (n1, k1, i1, t2, t3, v10, v11, v12, v13, v14, m_cells1, v15, v16, v17, v18, v19, v20, d1, xs1, xs2, xs3, _) =>
    (M_impl_div (⟨v20, xs2, xs3⟩ : Rt) (⟨v17, v18, v19⟩ : Rt)).bind fun r1 =>
    (M_impl_void r1).bind fun r2 =>
    cond r2
      (some (.inr (.inl (([] : List Rt), false, 0, 0, ([] : List Rt), m_cells1, ()))))
      ((idx xs1 (IntKind.i64.wrap ((IntKind.i64.wrap (i1 * n1)) + k1))).bind fun _ =>
      some (.inl (n1, k1, IntKind.i64.wrap (i1 + 1), t2, t3, v10, v11, v12, v13, v14, m_cells1, v15, v16, v17, v18, v19, d1, xs1.set ((IntKind.i64.wrap ((IntKind.i64.wrap (i1 * n1)) + k1)).toNat) r1, ()))))
    (some (.inr (.inr (n, t, t1, v, v1, v2, v3, v4, m_cells, v5, v6, d, xs, ()))))
noncomputable def L_impl_Factor_m_2 (n : Int) (k : Int) (i : Int) (t : Int) (t1 : Int) (v : Int) (v1 : Int) (v2 : Int) (v3 : Int) (v4 : List Rt) (m_cells : List Rt) (v5 : Int) (v6 : Int) (v7 : Bool) (v8 : List Int) (v9 : List Int) (d : List Rt) (xs : List Rt) : Option (((List Rt) × Bool × Int × Int × (List Rt) × (List Rt) × Unit) ⊕ (Int × Int × Int × Int × Int × Int × Int × (List Rt) × (List Rt) × Int × Int × (List Rt) × (List Rt) × Unit)) := whileO S_impl_Factor_m_2 (n, k, i, t, t1, v, v1, v2, v3, v4, m_cells, v5, v6, v7, v8, v9, d, xs, ())
noncomputable def S_impl_Factor_m_1 : Int × Int × Int × Int × Int × Int × Int × Int × Int × Int × (List Rt) × (List Rt) × Int × Int × Bool × (List Rt) × (List Int) × (List Int) × (List Rt) × Unit → Option ((Int × Int × Int × Int × Int × Int × Int × Int × Int × Int × (List Rt) × (List Rt) × Int × Int × Bool × (List Rt) × (List Int) × (List Int) × (List Rt) × Unit) ⊕ (Int × Int × Int × Int × Int × Int × Int × Int × (List Rt) × (List Rt) × Int × Int × Bool × (List Rt) × (List Int) × (List Int) × (List Rt) × Unit)) := fun (n, k, t, t1, t2, t3, v, v1, v2, v3, v4, m_cells, v5, v6, v7, xs, xs1, xs2, d, _) =>
  cond (decide (t3 < t2))
    ((idx d t3).bind fun _ =>
    (d[t3.toNat]?).bind fun e =>
    (M_impl_Matrix_at_mdd (⟨v5, v6, xs⟩ : Mx) k t3).bind fun (r0, x0) =>
    (M_impl_Matrix_at_mdd (⟨v5, v6, x0⟩ : Mx) k t3).bind fun (r0_1, x0_1) =>
    (M_impl_mul r0 r0_1).bind fun r =>
    (M_impl_mul r e).bind fun r1 =>
    (M_impl_sub (⟨v7, xs1, xs2⟩ : Rt) r1).bind fun r2 =>
    some (.inl (n, k, t, t1, t2, IntKind.i64.wrap (t3 + 1), v, v1, v2, v3, v4, m_cells, v5, v6, r2.neg, x0_1, r2.mag, r2.den, d, ())))
    (some (.inr (n, k, t, t1, v, v1, v2, v3, v4, m_cells, v5, v6, v7, xs, xs1, xs2, d, ())))
noncomputable def L_impl_Factor_m_1 (n : Int) (k : Int) (t : Int) (t1 : Int) (t2 : Int) (t3 : Int) (v : Int) (v1 : Int) (v2 : Int) (v3 : Int) (v4 : List Rt) (m_cells : List Rt) (v5 : Int) (v6 : Int) (v7 : Bool) (xs : List Rt) (xs1 : List Int) (xs2 : List Int) (d : List Rt) : Option (Int × Int × Int × Int × Int × Int × Int × Int × (List Rt) × (List Rt) × Int × Int × Bool × (List Rt) × (List Int) × (List Int) × (List Rt) × Unit) := whileO S_impl_Factor_m_1 (n, k, t, t1, t2, t3, v, v1, v2, v3, v4, m_cells, v5, v6, v7, xs, xs1, xs2, d, ())
noncomputable def S_impl_Factor_m_0 : Int × Int × Int × Int × Int × Int × Int × (List Rt) × (List Rt) × Int × Int × (List Rt) × (List Rt) × Unit → Option ((Int × Int × Int × Int × Int × Int × Int × (List Rt) × (List Rt) × Int × Int × (List Rt) × (List Rt) × Unit) ⊕ (((List Rt) × Bool × Int × Int × (List Rt) × (List Rt) × Unit) ⊕ (Int × Int × (List Rt) × (List Rt) × Int × Int × (List Rt) × (List Rt) × Unit))) := fun (n, t, t1, v, v1, v2, v3, v4, m_cells, v5, v6, xs, d, _) =>
  cond (decide (t1 < t))
    ((M_impl_Matrix_at_mdd (⟨v, v1, m_cells⟩ : Mx) t1 t1).bind fun (r0, x0) =>
    (M_impl_copyRat r0).bind fun r =>
    (L_impl_Factor_m_1 n t1 t t1 t1 0 v v1 v2 v3 v4 x0 v5 v6 r.neg xs r.mag r.den d).bind fun (n1, k, t2, t3, v7, v8, v9, v10, v11, m_cells1, v12, v13, v14, xs1, xs2, xs3, d1, _) =>
    (M_impl_void (⟨v14, xs2, xs3⟩ : Rt)).bind fun r1 =>
    cond r1
      (some (.inr (.inl (([] : List Rt), false, 0, 0, ([] : List Rt), m_cells1, ()))))
      ((M_impl_sign (⟨v14, xs2, xs3⟩ : Rt)).bind fun r2 =>
      cond (decide (r2 ≤ 0))
        (some (.inr (.inl (([] : List Rt), false, 0, 0, ([] : List Rt), m_cells1, ()))))
        ((guardO (Nat.ble (d1.length + 1) maxNew)).bind fun _ =>
        (L_impl_Factor_m_2 n1 k (IntKind.i64.wrap (k + 1)) t2 t3 v7 v8 v9 v10 v11 m_cells1 v12 v13 v14 xs2 xs3 (d1 ++ ([(⟨v14, xs2, xs3⟩ : Rt)] : List Rt)) xs1).bind fun r3 =>
        match r3 with
        | .inl (t4, t5, v15, v16, v17, m_cells2, _) =>
          some (.inr (.inl (t4, t5, v15, v16, v17, m_cells2, ())))
        | .inr (n2, t6, t7, v18, v19, v20, v21, v22, m_cells3, v23, v24, d2, xs4, _) =>
          some (.inl (n2, t6, IntKind.i64.wrap (t7 + 1), v18, v19, v20, v21, v22, m_cells3, v23, v24, xs4, d2, ())))))
    (some (.inr (.inr (v2, v3, v4, m_cells, v5, v6, xs, d, ()))))
noncomputable def L_impl_Factor_m_0 (n : Int) (t : Int) (t1 : Int) (v : Int) (v1 : Int) (v2 : Int) (v3 : Int) (v4 : List Rt) (m_cells : List Rt) (v5 : Int) (v6 : Int) (xs : List Rt) (d : List Rt) : Option (((List Rt) × Bool × Int × Int × (List Rt) × (List Rt) × Unit) ⊕ (Int × Int × (List Rt) × (List Rt) × Int × Int × (List Rt) × (List Rt) × Unit)) := whileO S_impl_Factor_m_0 (n, t, t1, v, v1, v2, v3, v4, m_cells, v5, v6, xs, d, ())
noncomputable def M_impl_Factor_m (m : Mx) : Option (Mx × List Rt × Bool × List Rt) :=
  (M_impl_IsSymmetric m).bind fun r =>
  cond (!r)
    (some ((⟨0, 0, ([] : List Rt)⟩ : Mx), ([] : List Rt), false, m.cells))
    ((M_impl_unit m.rows).bind fun r1 =>
    (L_impl_Factor_m_0 m.rows m.rows 0 m.rows m.cols 0 0 ([] : List Rt) m.cells r1.rows r1.cols r1.cells ([] : List Rt)).bind fun r2 =>
    match r2 with
    | .inl (t, t1, v, v1, v2, m_cells, _) =>
      some ((⟨v, v1, v2⟩ : Mx), t, t1, m_cells)
    | .inr (_, _, _, m_cells1, v6, v7, xs, d, _) =>
      some ((⟨v6, v7, xs⟩ : Mx), d, true, m_cells1))
noncomputable def M_impl_IsPositive_m (m : Mx) : Option (Bool × List Rt) :=
  (M_impl_Factor_m m).bind fun (_, _, r2, x0) =>
  some (r2, x0)
noncomputable def M_spec_IsSymmetric (m : Mx) : Option Bool :=
  (M_spec_MatrixOk m).bind fun r =>
  cond r
    (cond (m.rows == m.cols)
      ((M_spec_l06Transpose m).bind fun r1 =>
      (M_spec_EqualMatrices m r1).bind fun r2 =>
      some r2)
      (some false))
    (some false)
noncomputable def S_spec_l08Factor_m_3 : Int × Int × Int × Int × Int × Int × Int × Int × (List Rt) × (List Rt) × Int × Int × Bool × (List Int) × (List Int) × Bool × (List Int) × (List Int) × (List Rt) × (List Rt) × Unit → Option ((Int × Int × Int × Int × Int × Int × Int × Int × (List Rt) × (List Rt) × Int × Int × Bool × (List Int) × (List Int) × Bool × (List Int) × (List Int) × (List Rt) × (List Rt) × Unit) ⊕ (Int × Int × Int × Int × Int × Int × Int × (List Rt) × (List Rt) × Int × Int × Bool × (List Int) × (List Int) × Bool × (List Int) × (List Int) × (List Rt) × (List Rt) × Unit)) := fun (n, k, i, j, v, v1, v2, v3, v4, m_cells, v5, v6, v7, v8, v9, v10, v11, v12, d, xs, _) =>
  cond (decide (j < k))
    ((idx d j).bind fun _ =>
    (d[j.toNat]?).bind fun e =>
    (M_spec_l06At_mdd (⟨v5, v6, xs⟩ : Mx) i j).bind fun (r0, x0) =>
    (M_spec_l06At_mdd (⟨v5, v6, x0⟩ : Mx) k j).bind fun (r0_1, x0_1) =>
    (M_spec_l04Mul r0 r0_1).bind fun r =>
    (M_spec_l04Mul r e).bind fun r1 =>
    (M_spec_l05Sub (⟨v10, v11, v12⟩ : Rt) r1).bind fun r2 =>
    some (.inl (n, k, i, IntKind.i64.wrap (j + 1), v, v1, v2, v3, v4, m_cells, v5, v6, v7, v8, v9, r2.neg, r2.mag, r2.den, d, x0_1, ())))
    (some (.inr (n, k, i, v, v1, v2, v3, v4, m_cells, v5, v6, v7, v8, v9, v10, v11, v12, d, xs, ())))
noncomputable def L_spec_l08Factor_m_3 (n : Int) (k : Int) (i : Int) (j : Int) (v : Int) (v1 : Int) (v2 : Int) (v3 : Int) (v4 : List Rt) (m_cells : List Rt) (v5 : Int) (v6 : Int) (v7 : Bool) (v8 : List Int) (v9 : List Int) (v10 : Bool) (v11 : List Int) (v12 : List Int) (d : List Rt) (xs : List Rt) : Option (Int × Int × Int × Int × Int × Int × Int × (List Rt) × (List Rt) × Int × Int × Bool × (List Int) × (List Int) × Bool × (List Int) × (List Int) × (List Rt) × (List Rt) × Unit) := whileO S_spec_l08Factor_m_3 (n, k, i, j, v, v1, v2, v3, v4, m_cells, v5, v6, v7, v8, v9, v10, v11, v12, d, xs, ())
noncomputable def S_spec_l08Factor_m_2 : Int × Int × Int × Int × Int × Int × Int × (List Rt) × (List Rt) × Int × Int × Bool × (List Int) × (List Int) × (List Rt) × (List Rt) × Unit → Option ((Int × Int × Int × Int × Int × Int × Int × (List Rt) × (List Rt) × Int × Int × Bool × (List Int) × (List Int) × (List Rt) × (List Rt) × Unit) ⊕ (Int × Int × Int × Int × Int × Int × (List Rt) × (List Rt) × Int × Int × (List Rt) × (List Rt) × Unit)) := fun (n, k, i, v, v1, v2, v3, v4, m_cells, v5, v6, v7, v8, v9, d, xs, _) =>
  cond (decide (i < n))
    ((M_spec_l06At_mdd (⟨v, v1, m_cells⟩ : Mx) i k).bind fun (r0, x0) =>
    (L_spec_l08Factor_m_3 n k i 0 v v1 v2 v3 v4 x0 v5 v6 v7 v8 v9 r0.neg r0.mag r0.den d xs).bind fun (n1, k1, i1, v10, v11, v12, v13, v14, m_cells1, v15, v16, v17, v18, v19, v20, v21, v22, d1, xs1, _) =>
    (M_spec_l05Div (⟨v20, v21, v22⟩ : Rt) (⟨v17, v18, v19⟩ : Rt)).bind fun r =>
    (idx xs1 (IntKind.i64.wrap ((IntKind.i64.wrap (i1 * n1)) + k1))).bind fun _ =>
    some (.inl (n1, k1, IntKind.i64.wrap (i1 + 1), v10, v11, v12, v13, v14, m_cells1, v15, v16, v17, v18, v19, d1, xs1.set ((IntKind.i64.wrap ((IntKind.i64.wrap (i1 * n1)) + k1)).toNat) r, ())))
    (some (.inr (n, k, v, v1, v2, v3, v4, m_cells, v5, v6, d, xs, ())))
noncomputable def L_spec_l08Factor_m_2 (n : Int) (k : Int) (i : Int) (v : Int) (v1 : Int) (v2 : Int) (v3 : Int) (v4 : List Rt) (m_cells : List Rt) (v5 : Int) (v6 : Int) (v7 : Bool) (v8 : List Int) (v9 : List Int) (d : List Rt) (xs : List Rt) : Option (Int × Int × Int × Int × Int × Int × (List Rt) × (List Rt) × Int × Int × (List Rt) × (List Rt) × Unit) := whileO S_spec_l08Factor_m_2 (n, k, i, v, v1, v2, v3, v4, m_cells, v5, v6, v7, v8, v9, d, xs, ())
noncomputable def S_spec_l08Factor_m_1 : Int × Int × Int × Int × Int × Int × Int × (List Rt) × (List Rt) × Int × Int × Bool × (List Int) × (List Int) × (List Rt) × (List Rt) × Unit → Option ((Int × Int × Int × Int × Int × Int × Int × (List Rt) × (List Rt) × Int × Int × Bool × (List Int) × (List Int) × (List Rt) × (List Rt) × Unit) ⊕ (Int × Int × Int × Int × Int × Int × (List Rt) × (List Rt) × Int × Int × Bool × (List Int) × (List Int) × (List Rt) × (List Rt) × Unit)) := fun (n, k, j, v, v1, v2, v3, v4, m_cells, v5, v6, v7, v8, v9, xs, d, _) =>
  cond (decide (j < k))
    ((M_spec_l06At_mdd (⟨v5, v6, xs⟩ : Mx) k j).bind fun (r0, x0) =>
    (idx d j).bind fun _ =>
    (d[j.toNat]?).bind fun e =>
    (M_spec_l04Mul r0 r0).bind fun r =>
    (M_spec_l04Mul r e).bind fun r1 =>
    (M_spec_l05Sub (⟨v7, v8, v9⟩ : Rt) r1).bind fun r2 =>
    some (.inl (n, k, IntKind.i64.wrap (j + 1), v, v1, v2, v3, v4, m_cells, v5, v6, r2.neg, r2.mag, r2.den, x0, d, ())))
    (some (.inr (n, k, v, v1, v2, v3, v4, m_cells, v5, v6, v7, v8, v9, xs, d, ())))
noncomputable def L_spec_l08Factor_m_1 (n : Int) (k : Int) (j : Int) (v : Int) (v1 : Int) (v2 : Int) (v3 : Int) (v4 : List Rt) (m_cells : List Rt) (v5 : Int) (v6 : Int) (v7 : Bool) (v8 : List Int) (v9 : List Int) (xs : List Rt) (d : List Rt) : Option (Int × Int × Int × Int × Int × Int × (List Rt) × (List Rt) × Int × Int × Bool × (List Int) × (List Int) × (List Rt) × (List Rt) × Unit) := whileO S_spec_l08Factor_m_1 (n, k, j, v, v1, v2, v3, v4, m_cells, v5, v6, v7, v8, v9, xs, d, ())
noncomputable def S_spec_l08Factor_m_0 : Int × Int × Int × Int × Int × Int × (List Rt) × (List Rt) × Int × Int × (List Rt) × (List Rt) × Unit → Option ((Int × Int × Int × Int × Int × Int × (List Rt) × (List Rt) × Int × Int × (List Rt) × (List Rt) × Unit) ⊕ (((List Rt) × Bool × Int × Int × (List Rt) × (List Rt) × Unit) ⊕ (Int × Int × (List Rt) × (List Rt) × Int × Int × (List Rt) × (List Rt) × Unit))) := fun (n, k, v, v1, v2, v3, v4, m_cells, v5, v6, xs, d, _) =>
  cond (decide (k < n))
    ((M_spec_l06At_mdd (⟨v, v1, m_cells⟩ : Mx) k k).bind fun (r0, x0) =>
    (L_spec_l08Factor_m_1 n k 0 v v1 v2 v3 v4 x0 v5 v6 r0.neg r0.mag r0.den xs d).bind fun (n1, k1, v7, v8, v9, v10, v11, m_cells1, v12, v13, v14, v15, v16, xs1, d1, _) =>
    (M_spec_l05Bad (⟨v14, v15, v16⟩ : Rt)).bind fun r =>
    cond r
      (some (.inr (.inl (([] : List Rt), false, 0, 0, ([] : List Rt), m_cells1, ()))))
      (cond v14
        (some (.inr (.inl (([] : List Rt), false, 0, 0, ([] : List Rt), m_cells1, ()))))
        ((M_spec_l05Nil (⟨v14, v15, v16⟩ : Rt)).bind fun r1 =>
        cond r1
          (some (.inr (.inl (([] : List Rt), false, 0, 0, ([] : List Rt), m_cells1, ()))))
          ((M_spec_l04Copy (⟨v14, v15, v16⟩ : Rt)).bind fun r2 =>
          (guardO (Nat.ble (d1.length + 1) maxNew)).bind fun _ =>
          (L_spec_l08Factor_m_2 n1 k1 (IntKind.i64.wrap (k1 + 1)) v7 v8 v9 v10 v11 m_cells1 v12 v13 v14 v15 v16 (d1 ++ ([r2] : List Rt)) xs1).bind fun (n2, k2, v17, v18, v19, v20, v21, m_cells2, v22, v23, d2, xs2, _) =>
          (M_spec_l05Fine xs2).bind fun r3 =>
          cond (!r3)
            (some (.inr (.inl (([] : List Rt), false, 0, 0, ([] : List Rt), m_cells2, ()))))
            (some (.inl (n2, IntKind.i64.wrap (k2 + 1), v17, v18, v19, v20, v21, m_cells2, v22, v23, xs2, d2, ())))))))
    (some (.inr (.inr (v2, v3, v4, m_cells, v5, v6, xs, d, ()))))
noncomputable def L_spec_l08Factor_m_0 (n : Int) (k : Int) (v : Int) (v1 : Int) (v2 : Int) (v3 : Int) (v4 : List Rt) (m_cells : List Rt) (v5 : Int) (v6 : Int) (xs : List Rt) (d : List Rt) : Option (((List Rt) × Bool × Int × Int × (List Rt) × (List Rt) × Unit) ⊕ (Int × Int × (List Rt) × (List Rt) × Int × Int × (List Rt) × (List Rt) × Unit)) := whileO S_spec_l08Factor_m_0 (n, k, v, v1, v2, v3, v4, m_cells, v5, v6, xs, d, ())
noncomputable def M_spec_l08Factor_m (m : Mx) : Option (Mx × List Rt × Bool × List Rt) :=
  (M_spec_l06Identity_n m.rows).bind fun r =>
  (L_spec_l08Factor_m_0 m.rows 0 m.rows m.cols 0 0 ([] : List Rt) m.cells r.rows r.cols r.cells ([] : List Rt)).bind fun r1 =>
  match r1 with
  | .inl (t, t1, v, v1, v2, m_cells, _) =>
    some ((⟨v, v1, v2⟩ : Mx), t, t1, m_cells)
  | .inr (_, _, _, m_cells1, v6, v7, xs, d, _) =>
    some ((⟨v6, v7, xs⟩ : Mx), d, true, m_cells1)
noncomputable def M_spec_Factor_m (m : Mx) : Option (Mx × List Rt × Bool × List Rt) :=
  (M_spec_IsSymmetric m).bind fun r =>
  cond (!r)
    (some ((⟨0, 0, ([] : List Rt)⟩ : Mx), ([] : List Rt), false, m.cells))
    ((M_spec_l08Factor_m m).bind fun (r0, r1, r2, x0) =>
    some (r0, r1, r2, x0))
noncomputable def M_spec_IsPositive_m (m : Mx) : Option (Bool × List Rt) :=
  (M_spec_Factor_m m).bind fun (_, _, r2, x0) =>
  some (r2, x0)
end Go.Di
namespace Go.Di
noncomputable def M_laws_FnExactIsPositive (aM : Mx) : Option Bool :=
  (M_laws_szMatrix aM 1048576).bind fun r =>
  cond (decide (r < 0))
    (some true)
    ((M_laws_toMatrix_n aM).bind fun r1 =>
    (M_spec_IsPositive_m r1).bind fun (r0, _) =>
    (M_laws_toMatrix_n aM).bind fun r2 =>
    (M_impl_IsPositive_m r2).bind fun (r0_1, x0_1) =>
    cond (!(r0_1 == r0))
      (some false)
      ((M_laws_toMatrix_n aM).bind fun r3 =>
      (M_laws_eqMatrix (⟨r2.rows, r2.cols, x0_1⟩ : Mx) r3).bind fun r4 =>
      cond (!r4)
        (some false)
        (some true)))
end Go.Di
