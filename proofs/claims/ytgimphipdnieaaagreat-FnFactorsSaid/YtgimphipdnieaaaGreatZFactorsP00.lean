/-
  Own work: part 7 of the texts that the proof of the given statement leans on.
-/
import Derived.Test.YtgimphipdnieaaaGreatZE01
namespace Go.Di
noncomputable def S_spec_l30New_0 : Int × Int × (List Int) × Int × Int × Unit → Option ((Int × Int × (List Int) × Int × Int × Unit) ⊕ ((List Int) × Int × Int × Unit)) := fun (n, i, v, v1, v2, _) =>
  cond (decide (i < n))
    ((M_spec_l01Byte (⟨v, v1, v2⟩ : Cur)).bind fun (_, x0) =>
    some (.inl (n, IntKind.i64.wrap (i + 1), x0.b, x0.i, x0.h, ())))
    (some (.inr (v, v1, v2, ())))
noncomputable def L_spec_l30New_0 (n : Int) (i : Int) (v : List Int) (v1 : Int) (v2 : Int) : Option ((List Int) × Int × Int × Unit) := whileO S_spec_l30New_0 (n, i, v, v1, v2, ())
noncomputable def M_spec_l30New (code : List Int) (n : Int) : Option Cur :=
  (M_spec_l01New code).bind fun r =>
  (L_spec_l30New_0 n 0 r.b r.i r.h).bind fun (v, v1, v2, _) =>
  some (⟨v, v1, v2⟩ : Cur)
noncomputable def S_spec_l08Sure_n_0 : Int × (List Int) × Int × Int × Int × Int × (List Rt) × Int × Int × (List Rt) × Unit → Option ((Int × (List Int) × Int × Int × Int × Int × (List Rt) × Int × Int × (List Rt) × Unit) ⊕ ((List Int) × Int × Int × Int × Int × (List Rt) × Int × Int × (List Rt) × Unit)) := fun (i, v, v1, v2, v3, v4, v5, v6, v7, xs, _) =>
  cond (decide (i < 3))
    ((idx xs (IntKind.i64.wrap ((IntKind.i64.wrap (i * 3)) + i))).bind fun _ =>
    (xs[(IntKind.i64.wrap ((IntKind.i64.wrap (i * 3)) + i)).toNat]?).bind fun e =>
    (M_spec_l01Below (⟨v, v1, v2⟩ : Cur) 4).bind fun (r0, x0) =>
    (M_spec_RatOf (IntKind.i64.wrap (1 + r0)) 2).bind fun r =>
    (M_spec_l04Add e r).bind fun r1 =>
    (idx xs (IntKind.i64.wrap ((IntKind.i64.wrap (i * 3)) + i))).bind fun _ =>
    some (.inl (IntKind.i64.wrap (i + 1), x0.b, x0.i, x0.h, v3, v4, v5, v6, v7, xs.set ((IntKind.i64.wrap ((IntKind.i64.wrap (i * 3)) + i)).toNat) r1, ())))
    (some (.inr (v, v1, v2, v3, v4, v5, v6, v7, xs, ())))
noncomputable def L_spec_l08Sure_n_0 (i : Int) (v : List Int) (v1 : Int) (v2 : Int) (v3 : Int) (v4 : Int) (v5 : List Rt) (v6 : Int) (v7 : Int) (xs : List Rt) : Option ((List Int) × Int × Int × Int × Int × (List Rt) × Int × Int × (List Rt) × Unit) := whileO S_spec_l08Sure_n_0 (i, v, v1, v2, v3, v4, v5, v6, v7, xs, ())
noncomputable def M_spec_l08Sure_n (c : Cur) : Option (Mx × Cur) :=
  (M_spec_l06Draw c 3 3).bind fun (r0, x0) =>
  (M_spec_l06Transpose_m r0).bind fun (r0_1, x0_1) =>
  (M_spec_l06Multiply_mm r0_1 (⟨r0.rows, r0.cols, x0_1⟩ : Mx)).bind fun (r0_2, _, _) =>
  (L_spec_l08Sure_n_0 0 x0.b x0.i x0.h 0 0 ([] : List Rt) r0_2.rows r0_2.cols r0_2.cells).bind fun (v, v1, v2, _, _, _, v6, v7, xs, _) =>
  some ((⟨v6, v7, xs⟩ : Mx), (⟨v, v1, v2⟩ : Cur))
noncomputable def M_spec_MakeSymmetric_n (code : List Int) : Option Mx :=
  (M_spec_l01New code).bind fun r =>
  (M_spec_l08Sure_n r).bind fun (r0, _) =>
  some r0
noncomputable def M_spec_MakeVector (code : List Int) (n : Int) (length : Int) : Option (List Rt) :=
  (M_spec_l30New code n).bind fun r =>
  (M_spec_l05Draw r length).bind fun (r0, _) =>
  some r0
end Go.Di
namespace Go.Di
noncomputable def M_impl_IsSymmetric (m : Mx) : Option Bool :=
  (M_impl_MatrixOk m).bind fun r =>
  cond r
    ((M_impl_turned m).bind fun r1 =>
    (M_impl_EqualMatrices m r1).bind fun r2 =>
    some r2)
    (some false)
noncomputable def S_impl_Factor_m_3 : Int × Int × Int × Int × Int × Int × Int × Int × Int × Int × Int × (List Rt) × (List Rt) × Int × Int × Bool × (List Int) × (List Int) × Bool × (List Rt) × (List Rt) × (List Int) × (List Int) × Unit → Option ((Int × Int × Int × Int × Int × Int × Int × Int × Int × Int × Int × (List Rt) × (List Rt) × Int × Int × Bool × (List Int) × (List Int) × Bool × (List Rt) × (List Rt) × (List Int) × (List Int) × Unit) ⊕ (Int × Int × Int × Int × Int × Int × Int × Int × Int × (List Rt) × (List Rt) × Int × Int × Bool × (List Int) × (List Int) × Bool × (List Rt) × (List Rt) × (List Int) × (List Int) × Unit)) := fun (n, k, i, t, t1, t2, t3, v, v1, v2, v3, v4, m_cells, v5, v6, v7, v8, v9, v10, d, xs, xs1, xs2, _) =>
  cond (decide (t3 < t2))
    ((idx d t3).bind fun _ =>
    (d[t3.toNat]?).bind fun e =>
    (M_impl_Matrix_at_mdd (⟨v5, v6, xs⟩ : Mx) i t3).bind fun (r0, x0) =>
    (M_impl_Matrix_at_mdd (⟨v5, v6, x0⟩ : Mx) k t3).bind fun (r0_1, x0_1) =>
    (M_impl_mul r0 r0_1).bind fun r =>
    (M_impl_mul r e).bind fun r1 =>
    (M_impl_sub (⟨v10, xs1, xs2⟩ : Rt) r1).bind fun r2 =>
    some (.inl (n, k, i, t, t1, t2, IntKind.i64.wrap (t3 + 1), v, v1, v2, v3, v4, m_cells, v5, v6, v7, v8, v9, r2.neg, d, x0_1, r2.mag, r2.den, ())))
    (some (.inr (n, k, i, t, t1, v, v1, v2, v3, v4, m_cells, v5, v6, v7, v8, v9, v10, d, xs, xs1, xs2, ())))
noncomputable def L_impl_Factor_m_3 (n : Int) (k : Int) (i : Int) (t : Int) (t1 : Int) (t2 : Int) (t3 : Int) (v : Int) (v1 : Int) (v2 : Int) (v3 : Int) (v4 : List Rt) (m_cells : List Rt) (v5 : Int) (v6 : Int) (v7 : Bool) (v8 : List Int) (v9 : List Int) (v10 : Bool) (d : List Rt) (xs : List Rt) (xs1 : List Int) (xs2 : List Int) : Option (Int × Int × Int × Int × Int × Int × Int × Int × Int × (List Rt) × (List Rt) × Int × Int × Bool × (List Int) × (List Int) × Bool × (List Rt) × (List Rt) × (List Int) × (List Int) × Unit) := whileO S_impl_Factor_m_3 (n, k, i, t, t1, t2, t3, v, v1, v2, v3, v4, m_cells, v5, v6, v7, v8, v9, v10, d, xs, xs1, xs2, ())
noncomputable def S_impl_Factor_m_2 : Int × Int × Int × Int × Int × Int × Int × Int × Int × (List Rt) × (List Rt) × Int × Int × Bool × (List Int) × (List Int) × (List Rt) × (List Rt) × Unit → Option ((Int × Int × Int × Int × Int × Int × Int × Int × Int × (List Rt) × (List Rt) × Int × Int × Bool × (List Int) × (List Int) × (List Rt) × (List Rt) × Unit) ⊕ (((List Rt) × Bool × Int × Int × (List Rt) × (List Rt) × Unit) ⊕ (Int × Int × Int × Int × Int × Int × Int × (List Rt) × (List Rt) × Int × Int × (List Rt) × (List Rt) × Unit))) := fun (n, k, i, t, t1, v, v1, v2, v3, v4, m_cells, v5, v6, v7, v8, v9, d, xs, _) =>
  cond (decide (i < n))
    ((M_impl_Matrix_at_mdd (⟨v, v1, m_cells⟩ : Mx) i k).bind fun (r0, x0) =>
    (M_impl_copyRat r0).bind fun r =>
    (L_impl_Factor_m_3 n k i t t1 k 0 v v1 v2 v3 v4 x0 v5 v6 v7 v8 v9 r.neg d xs r.mag r.den).bind fun (n1, k1, i1, t2, t3, v10, v11, v12, v13, v14, m_cells1, v15, v16, v17, v18, v19, v20, d1, xs1, xs2, xs3, _) =>
    (M_impl_div (⟨v20, xs2, xs3⟩ : Rt) (⟨v17, v18, v19⟩ : Rt)).bind fun r1 =>
    (M_impl_void r1).bind fun r2 =>
    cond r2
      (some (.inr (.inl (([] : List Rt), false, 0, 0, ([] : List Rt), m_cells1, ()))))
      ((idx xs1 (IntKind.i64.wrap ((IntKind.i64.wrap (i1 * n1)) + k1))).bind fun _ =>
      some (.inl (n1, k1, IntKind.i64.wrap (i1 + 1), t2, t3, v10, v11, v12, v13, v14, m_cells1, v15, v16, v17, v18, v19, d1, xs1.set ((IntKind.i64.wrap ((IntKind.i64.wrap (i1 * n1)) + k1)).toNat) r1, ()))))
    (some (.inr (.inr (n, t, t1, v, v1, v2, v3, v4, m_cells, v5, v6, d, xs, ()))))
noncomputable def L_impl_Factor_m_2 (n : Int) (k : Int) (i : Int) (t : Int) (t1 : Int) (v : Int) (v1 : Int) (v2 : Int) (v3 : Int) (v4 : List Rt) (m_cells : List Rt) (v5 : Int) (v6 : Int) (v7 : Bool) (v8 : List Int) (v9 : List Int) (d : List Rt) (xs : List Rt) : Option (((List Rt) × Bool × Int × Int × (List Rt) × (List Rt) × Unit) ⊕ (Int × Int × Int × Int × Int × Int × Int × (List Rt) × (List Rt) × Int × Int × (List Rt) × (List Rt) × Unit)) := whileO S_impl_Factor_m_2 (n, k, i, t, t1, v, v1, v2, v3, v4, m_cells, v5, v6, v7, v8, v9, d, xs, ())
noncomputable def S_impl_Factor_m_1 : Int × Int × Int × Int × Int × Int × Int × Int × Int × Int × (List Rt) × (List Rt) × Int × Int × Bool × (List Rt) × (List Int) × (List Int) × (List Rt) × Unit → Option ((Int × Int × Int × Int × Int × Int × Int × Int × Int × Int × (List Rt) × (List Rt) × Int × Int × Bool × (List Rt) × (List Int) × (List Int) × (List Rt) × Unit) ⊕ (Int × Int × Int × Int × Int × Int × Int × Int × (List Rt) × (List Rt) × Int × Int × Bool × (List Rt) × (List Int) × (List Int) × (List Rt) × Unit)) := fun (n, k, t, t1, t2, t3, v, v1, v2, v3, v4, m_cells, v5, v6, v7, xs, xs1, xs2, d, _) =>
  cond (decide (t3 < t2))
    ((idx d t3).bind fun _ =>
    (d[t3.toNat]?).bind fun e =>
    (M_impl_Matrix_at_mdd (⟨v5, v6, xs⟩ : Mx) k t3).bind fun (r0, x0) =>
    (M_impl_Matrix_at_mdd (⟨v5, v6, x0⟩ : Mx) k t3).bind fun (r0_1, x0_1) =>
    (M_impl_mul r0 r0_1).bind fun r =>
    (M_impl_mul r e).bind fun r1 =>
    (M_impl_sub (⟨v7, xs1, xs2⟩ : Rt) r1).bind fun r2 =>
    some (.inl (n, k, t, t1, t2, IntKind.i64.wrap (t3 + 1), v, v1, v2, v3, v4, m_cells, v5, v6, r2.neg, x0_1, r2.mag, r2.den, d, ())))
    (some (.inr (n, k, t, t1, v, v1, v2, v3, v4, m_cells, v5, v6, v7, xs, xs1, xs2, d, ())))
noncomputable def L_impl_Factor_m_1 (n : Int) (k : Int) (t : Int) (t1 : Int) (t2 : Int) (t3 : Int) (v : Int) (v1 : Int) (v2 : Int) (v3 : Int) (v4 : List Rt) (m_cells : List Rt) (v5 : Int) (v6 : Int) (v7 : Bool) (xs : List Rt) (xs1 : List Int) (xs2 : List Int) (d : List Rt) : Option (Int × Int × Int × Int × Int × Int × Int × Int × (List Rt) × (List Rt) × Int × Int × Bool × (List Rt) × (List Int) × (List Int) × (List Rt) × Unit) := whileO S_impl_Factor_m_1 (n, k, t, t1, t2, t3, v, v1, v2, v3, v4, m_cells, v5, v6, v7, xs, xs1, xs2, d, ())
noncomputable def S_impl_Factor_m_0 : Int × Int × Int × Int × Int × Int × Int × (List Rt) × (List Rt) × Int × Int × (List Rt) × (List Rt) × Unit → Option ((Int × Int × Int × Int × Int × Int × Int × (List Rt) × (List Rt) × Int × Int × (List Rt) × (List Rt) × Unit) ⊕ (((List Rt) × Bool × Int × Int × (List Rt) × (List Rt) × Unit) ⊕ (Int × Int × (List Rt) × (List Rt) × Int × Int × (List Rt) × (List Rt) × Unit))) := fun (n, t, t1, v, v1, v2, v3, v4, m_cells, v5, v6, xs, d, _) =>
  cond (decide (t1 < t))
    ((M_impl_Matrix_at_mdd (⟨v, v1, m_cells⟩ : Mx) t1 t1).bind fun (r0, x0) =>
    (M_impl_copyRat r0).bind fun r =>
    (L_impl_Factor_m_1 n t1 t t1 t1 0 v v1 v2 v3 v4 x0 v5 v6 r.neg xs r.mag r.den d).bind fun (n1, k, t2, t3, v7, v8, v9, v10, v11, m_cells1, v12, v13, v14, xs1, xs2, xs3, d1, _) =>
    (M_impl_void (⟨v14, xs2, xs3⟩ : Rt)).bind fun r1 =>
    cond r1
      (some (.inr (.inl (([] : List Rt), false, 0, 0, ([] : List Rt), m_cells1, ()))))
      ((M_impl_sign (⟨v14, xs2, xs3⟩ : Rt)).bind fun r2 =>
      cond (decide (r2 ≤ 0))
        (some (.inr (.inl (([] : List Rt), false, 0, 0, ([] : List Rt), m_cells1, ()))))
        ((guardO (Nat.ble (d1.length + 1) maxNew)).bind fun _ =>
        (L_impl_Factor_m_2 n1 k (IntKind.i64.wrap (k + 1)) t2 t3 v7 v8 v9 v10 v11 m_cells1 v12 v13 v14 xs2 xs3 (d1 ++ ([(⟨v14, xs2, xs3⟩ : Rt)] : List Rt)) xs1).bind fun r3 =>
        match r3 with
        | .inl (t4, t5, v15, v16, v17, m_cells2, _) =>
          some (.inr (.inl (t4, t5, v15, v16, v17, m_cells2, ())))
        | .inr (n2, t6, t7, v18, v19, v20, v21, v22, m_cells3, v23, v24, d2, xs4, _) =>
          some (.inl (n2, t6, IntKind.i64.wrap (t7 + 1), v18, v19, v20, v21, v22, m_cells3, v23, v24, xs4, d2, ())))))
    (some (.inr (.inr (v2, v3, v4, m_cells, v5, v6, xs, d, ()))))
noncomputable def L_impl_Factor_m_0 (n : Int) (t : Int) (t1 : Int) (v : Int) (v1 : Int) (v2 : Int) (v3 : Int) (v4 : List Rt) (m_cells : List Rt) (v5 : Int) (v6 : Int) (xs : List Rt) (d : List Rt) : Option (((List Rt) × Bool × Int × Int × (List Rt) × (List Rt) × Unit) ⊕ (Int × Int × (List Rt) × (List Rt) × Int × Int × (List Rt) × (List Rt) × Unit)) := whileO S_impl_Factor_m_0 (n, t, t1, v, v1, v2, v3, v4, m_cells, v5, v6, xs, d, ())
noncomputable def M_impl_Factor_m (m : Mx) : Option (Mx × List Rt × Bool × List Rt) :=
  (M_impl_IsSymmetric m).bind fun r =>
  cond (!r)
    (some ((⟨0, 0, ([] : List Rt)⟩ : Mx), ([] : List Rt), false, m.cells))
    ((M_impl_unit m.rows).bind fun r1 =>
    (L_impl_Factor_m_0 m.rows m.rows 0 m.rows m.cols 0 0 ([] : List Rt) m.cells r1.rows r1.cols r1.cells ([] : List Rt)).bind fun r2 =>
    match r2 with
    | .inl (t, t1, v, v1, v2, m_cells, _) =>
      some ((⟨v, v1, v2⟩ : Mx), t, t1, m_cells)
    | .inr (_, _, _, m_cells1, v6, v7, xs, d, _) =>
      some ((⟨v6, v7, xs⟩ : Mx), d, true, m_cells1))
noncomputable def M_impl_IsPositive_m (m : Mx) : Option (Bool × List Rt) :=
  (M_impl_Factor_m m).bind fun (_, _, r2, x0) =>
  some (r2, x0)
noncomputable def M_impl_QuadraticForm (m : Mx) (v : List Rt) : Option (Rt × Bool) :=
  (M_impl_ApplyMatrix m v).bind fun (r0, r1) =>
  cond (!r1)
    (some ((⟨false, ([] : List Int), ([] : List Int)⟩ : Rt), false))
    (cond (m.rows != m.cols)
      (some ((⟨false, ([] : List Int), ([] : List Int)⟩ : Rt), false))
      ((M_impl_inner v r0).bind fun r =>
      (M_impl_given_c r).bind fun (r0_1, r1_1) =>
      some (r0_1, r1_1)))
noncomputable def M_impl_part_c1 (i : Int) (k : Int) (g : Mx) (g1 : List Int) (g2 : List Int) : Option Rt :=
  (idx g1 i).bind fun e =>
  (idx g2 k).bind fun e1 =>
  (M_impl_Matrix_at g e e1).bind fun r =>
  (M_impl_copyRat r).bind fun r1 =>
  some r1
noncomputable def S_impl_built__impl_part_c1_1 : Int × Int × Int × (List Rt) × (List Int) × (List Int) × Int × Int × Int × Int × Int × Int × Int × (List Rt) × Int × Int × (List Rt) × Unit → Option ((Int × Int × Int × (List Rt) × (List Int) × (List Int) × Int × Int × Int × Int × Int × Int × Int × (List Rt) × Int × Int × (List Rt) × Unit) ⊕ (Int × Int × Int × (List Rt) × (List Int) × (List Int) × Int × Int × Int × Int × (List Rt) × Int × Int × (List Rt) × Unit)) := fun (cols, g, g1, g2, g3, g4, i, t, t1, t2, t3, v, v1, v2, v3, v4, xs, _) =>
  cond (decide (t3 < t2))
    ((M_impl_part_c1 i t3 (⟨g, g1, g2⟩ : Mx) g3 g4).bind fun r =>
    (guardO (Nat.ble (xs.length + 1) maxNew)).bind fun _ =>
    some (.inl (cols, g, g1, g2, g3, g4, i, t, t1, t2, IntKind.i64.wrap (t3 + 1), v, v1, v2, v3, v4, xs ++ ([r] : List Rt), ())))
    (some (.inr (cols, g, g1, g2, g3, g4, t, t1, v, v1, v2, v3, v4, xs, ())))
noncomputable def L_impl_built__impl_part_c1_1 (cols : Int) (g : Int) (g1 : Int) (g2 : List Rt) (g3 : List Int) (g4 : List Int) (i : Int) (t : Int) (t1 : Int) (t2 : Int) (t3 : Int) (v : Int) (v1 : Int) (v2 : List Rt) (v3 : Int) (v4 : Int) (xs : List Rt) : Option (Int × Int × Int × (List Rt) × (List Int) × (List Int) × Int × Int × Int × Int × (List Rt) × Int × Int × (List Rt) × Unit) := whileO S_impl_built__impl_part_c1_1 (cols, g, g1, g2, g3, g4, i, t, t1, t2, t3, v, v1, v2, v3, v4, xs, ())
noncomputable def S_impl_built__impl_part_c1_0 : Int × Int × Int × (List Rt) × (List Int) × (List Int) × Int × Int × Int × Int × (List Rt) × Int × Int × (List Rt) × Unit → Option ((Int × Int × Int × (List Rt) × (List Int) × (List Int) × Int × Int × Int × Int × (List Rt) × Int × Int × (List Rt) × Unit) ⊕ (Int × Int × (List Rt) × Int × Int × (List Rt) × Unit)) := fun (cols, g, g1, g2, g3, g4, t, t1, v, v1, v2, v3, v4, xs, _) =>
  cond (decide (t1 < t))
    ((L_impl_built__impl_part_c1_1 cols g g1 g2 g3 g4 t1 t t1 cols 0 v v1 v2 v3 v4 xs).bind fun (cols1, g5, g6, g7, g8, g9, t2, t3, v5, v6, v7, v8, v9, xs1, _) =>
    some (.inl (cols1, g5, g6, g7, g8, g9, t2, IntKind.i64.wrap (t3 + 1), v5, v6, v7, v8, v9, xs1, ())))
    (some (.inr (v, v1, v2, v3, v4, xs, ())))
noncomputable def L_impl_built__impl_part_c1_0 (cols : Int) (g : Int) (g1 : Int) (g2 : List Rt) (g3 : List Int) (g4 : List Int) (t : Int) (t1 : Int) (v : Int) (v1 : Int) (v2 : List Rt) (v3 : Int) (v4 : Int) (xs : List Rt) : Option (Int × Int × (List Rt) × Int × Int × (List Rt) × Unit) := whileO S_impl_built__impl_part_c1_0 (cols, g, g1, g2, g3, g4, t, t1, v, v1, v2, v3, v4, xs, ())
noncomputable def M_impl_built__impl_part_c1 (rows : Int) (cols : Int) (g : Mx) (g1 : List Int) (g2 : List Int) : Option Mx :=
  (L_impl_built__impl_part_c1_0 cols g.rows g.cols g.cells g1 g2 rows 0 0 0 ([] : List Rt) rows cols ([] : List Rt)).bind fun (_, _, _, v3, v4, xs, _) =>
  some (⟨v3, v4, xs⟩ : Mx)
noncomputable def M_impl_part (m : Mx) (rows : List Int) (cols : List Int) : Option Mx :=
  (M_impl_built__impl_part_c1 (rows.length : Int) (cols.length : Int) m rows cols).bind fun r =>
  some r
noncomputable def M_impl_Submatrix (m : Mx) (list : List Int) : Option (Mx × Bool) :=
  (M_impl_MatrixOk m).bind fun r =>
  cond (!r)
    (some ((⟨0, 0, ([] : List Rt)⟩ : Mx), false))
    (cond (m.rows != m.cols)
      (some ((⟨0, 0, ([] : List Rt)⟩ : Mx), false))
      ((M_impl_ascendingTo list m.rows).bind fun r1 =>
      cond (!r1)
        (some ((⟨0, 0, ([] : List Rt)⟩ : Mx), false))
        ((M_impl_part m list list).bind fun r2 =>
        some (r2, true))))
end Go.Di
namespace Go.Di
noncomputable def S_laws_FnFactors_0 : (List Int) × (List Rt) × Int × Int × Int × Int × Int × Int × (List Rt) × Int × Int × (List Rt) × (List Rt) × Unit → Option (((List Int) × (List Rt) × Int × Int × Int × Int × Int × Int × (List Rt) × Int × Int × (List Rt) × (List Rt) × Unit) ⊕ ((Bool × Unit) ⊕ ((List Int) × Int × Int × Int × Int × (List Rt) × Int × Int × (List Rt) × (List Rt) × Unit))) := fun (code, t, t1, t2, v, v1, v2, v3, v4, v5, v6, xs, xs1, _) =>
  cond (decide (t2 < t1))
    ((idx t t2).bind fun e =>
    (idx xs1 (IntKind.i64.wrap (4 * t2))).bind fun _ =>
    (M_impl_RatSign e).bind fun r =>
    cond (decide (r ≤ 0))
      (some (.inr (.inl (false, ()))))
      (some (.inl (code, t, t1, IntKind.i64.wrap (t2 + 1), v, v1, v2, v3, v4, v5, v6, xs, xs1.set ((IntKind.i64.wrap (4 * t2)).toNat) e, ()))))
    (some (.inr (.inr (code, v, v1, v2, v3, v4, v5, v6, xs, xs1, ()))))
noncomputable def L_laws_FnFactors_0 (code : List Int) (t : List Rt) (t1 : Int) (t2 : Int) (v : Int) (v1 : Int) (v2 : Int) (v3 : Int) (v4 : List Rt) (v5 : Int) (v6 : Int) (xs : List Rt) (xs1 : List Rt) : Option ((Bool × Unit) ⊕ ((List Int) × Int × Int × Int × Int × (List Rt) × Int × Int × (List Rt) × (List Rt) × Unit)) := whileO S_laws_FnFactors_0 (code, t, t1, t2, v, v1, v2, v3, v4, v5, v6, xs, xs1, ())
noncomputable def M_laws_FnFactors (code : List Int) : Option Bool :=
  cond (decide ((code.length : Int) > 1048576))
    (some true)
    ((M_spec_MakeSymmetric_n code).bind fun r =>
    (M_impl_Factor_m r).bind fun (r0, r1, r2, x0) =>
    cond (!r2)
      (some false)
      (cond ((r1.length : Int) != 3)
        (some false)
        (cond (r0.rows != 3)
          (some false)
          ((M_impl_IsPositive_m (⟨r.rows, r.cols, x0⟩ : Mx)).bind fun (r0_1, x0_1) =>
          cond (!r0_1)
            (some false)
            ((M_impl_IsSymmetric (⟨r.rows, r.cols, x0_1⟩ : Mx)).bind fun r3 =>
            cond (!r3)
              (some false)
              ((M_impl_MatrixOf_ddm 3 3 ([0, 0, 0, 0, 0, 0, 0, 0, 0] : List Int)).bind fun (r0_2, _) =>
              cond ((r0_2.cells.length : Int) != 9)
                (some false)
                ((L_laws_FnFactors_0 code r1 (r1.length : Int) 0 r.rows r.cols r0.rows r0.cols r0.cells r0_2.rows r0_2.cols x0_1 r0_2.cells).bind fun r4 =>
                match r4 with
                | .inl (t, _) =>
                  some t
                | .inr (code1, v, v1, v2, v3, v4, v5, v6, xs, xs1, _) =>
                  (M_impl_Multiply (⟨v2, v3, v4⟩ : Mx) (⟨v5, v6, xs1⟩ : Mx)).bind fun (r0_3, r1_1) =>
                  (M_impl_Transpose (⟨v2, v3, v4⟩ : Mx)).bind fun r5 =>
                  (M_impl_Multiply r0_3 r5).bind fun (r0_4, r1_2) =>
                  (M_spec_MakeVector code1 40 3).bind fun r6 =>
                  (M_impl_QuadraticForm (⟨v, v1, xs⟩ : Mx) r6).bind fun (r0_5, r1_3) =>
                  (M_impl_Submatrix (⟨v, v1, xs⟩ : Mx) ([0, 2] : List Int)).bind fun (r0_6, r1_4) =>
                  cond r1_1
                    (cond r1_2
                      (cond r1_3
                        (cond r1_4
                          ((M_impl_EqualMatrices r0_4 (⟨v, v1, xs⟩ : Mx)).bind fun r7 =>
                          cond r7
                            ((M_impl_RatSign r0_5).bind fun r8 =>
                            cond (decide (r8 > 0))
                              ((M_impl_IsPositive_m r0_6).bind fun (r0_7, _) =>
                              some r0_7)
                              ((M_impl_ZeroVector 3).bind fun r9 =>
                              (M_impl_EqualVectors r6 r9).bind fun r10 =>
                              cond r10
                                ((M_impl_IsPositive_m r0_6).bind fun (r0_7, _) =>
                                some r0_7)
                                (some false)))
                            (some false))
                          (some false))
                        (some false))
                      (some false))
                    (some false))))))))
end Go.Di
