/-
  Own work: part 4 of the texts that the proof of the given statement leans on.
-/
import Derived.Test.YtmkoafebmfoeaaaZMatrixOkP02
/-
  Own work, written by program (gen.py) out of the functions of the given program: what they compute, as plain Lean.
-/
namespace Go.Di
noncomputable def S_spec_MatrixOf_0 : (List Int) × Int × Int × Int × Int × (List Rt) × Int × Int × (List Rt) × Unit → Option (((List Int) × Int × Int × Int × Int × (List Rt) × Int × Int × (List Rt) × Unit) ⊕ (Int × Int × (List Rt) × Int × Int × (List Rt) × Unit)) := fun (t, t1, t2, v, v1, v2, v3, v4, xs, _) =>
  cond (decide (t2 < t1))
    ((idx t t2).bind fun e =>
    (M_spec_RatFromInt e).bind fun r =>
    (guardO (Nat.ble (xs.length + 1) maxNew)).bind fun _ =>
    some (.inl (t, t1, IntKind.i64.wrap (t2 + 1), v, v1, v2, v3, v4, xs ++ ([r] : List Rt), ())))
    (some (.inr (v, v1, v2, v3, v4, xs, ())))
noncomputable def L_spec_MatrixOf_0 (t : List Int) (t1 : Int) (t2 : Int) (v : Int) (v1 : Int) (v2 : List Rt) (v3 : Int) (v4 : Int) (xs : List Rt) : Option (Int × Int × (List Rt) × Int × Int × (List Rt) × Unit) := whileO S_spec_MatrixOf_0 (t, t1, t2, v, v1, v2, v3, v4, xs, ())
noncomputable def M_spec_MatrixOf (rows : Int) (cols : Int) (list : List Int) : Option Mx :=
  (M_spec_l01In rows 0 24).bind fun r =>
  cond (!r)
    (some (⟨0, 0, ([] : List Rt)⟩ : Mx))
    ((M_spec_l01In cols 0 24).bind fun r1 =>
    cond (!r1)
      (some (⟨0, 0, ([] : List Rt)⟩ : Mx))
      (cond ((list.length : Int) != (IntKind.i64.wrap (rows * cols)))
        (some (⟨0, 0, ([] : List Rt)⟩ : Mx))
        ((L_spec_MatrixOf_0 list (list.length : Int) 0 0 0 ([] : List Rt) rows cols ([] : List Rt)).bind fun (v, v1, v2, v3, v4, xs, _) =>
        some (⟨v3, v4, xs⟩ : Mx))))

noncomputable def M_impl_isLength (n : Int) : Option Bool :=
  cond (decide (n ≥ 0))
    (some (decide (n ≤ 24)))
    (some false)

noncomputable def S_impl_MatrixOf_0 : (List Int) × Int × Int × Int × Int × (List Rt) × Int × Int × (List Rt) × Unit → Option (((List Int) × Int × Int × Int × Int × (List Rt) × Int × Int × (List Rt) × Unit) ⊕ (Int × Int × (List Rt) × Int × Int × (List Rt) × Unit)) := fun (t, t1, t2, v, v1, v2, v3, v4, xs, _) =>
  cond (decide (t2 < t1))
    ((idx t t2).bind fun e =>
    (M_impl_whole e).bind fun r =>
    (guardO (Nat.ble (xs.length + 1) maxNew)).bind fun _ =>
    some (.inl (t, t1, IntKind.i64.wrap (t2 + 1), v, v1, v2, v3, v4, xs ++ ([r] : List Rt), ())))
    (some (.inr (v, v1, v2, v3, v4, xs, ())))
noncomputable def L_impl_MatrixOf_0 (t : List Int) (t1 : Int) (t2 : Int) (v : Int) (v1 : Int) (v2 : List Rt) (v3 : Int) (v4 : Int) (xs : List Rt) : Option (Int × Int × (List Rt) × Int × Int × (List Rt) × Unit) := whileO S_impl_MatrixOf_0 (t, t1, t2, v, v1, v2, v3, v4, xs, ())
noncomputable def M_impl_MatrixOf (rows : Int) (cols : Int) (list : List Int) : Option Mx :=
  (M_impl_isLength rows).bind fun r =>
  cond (!r)
    (some (⟨0, 0, ([] : List Rt)⟩ : Mx))
    ((M_impl_isLength cols).bind fun r1 =>
    cond (!r1)
      (some (⟨0, 0, ([] : List Rt)⟩ : Mx))
      (cond ((list.length : Int) != (IntKind.i64.wrap (rows * cols)))
        (some (⟨0, 0, ([] : List Rt)⟩ : Mx))
        ((L_impl_MatrixOf_0 list (list.length : Int) 0 0 0 ([] : List Rt) rows cols ([] : List Rt)).bind fun (v, v1, v2, v3, v4, xs, _) =>
        some (⟨v3, v4, xs⟩ : Mx))))

noncomputable def M_spec_l06Zero (rows : Int) (cols : Int) : Option Mx :=
  (M_spec_l05Zeros (IntKind.i64.wrap (rows * cols))).bind fun r =>
  some (⟨rows, cols, r⟩ : Mx)

noncomputable def S_spec_l06Identity_0 : Int × Int × Int × Int × (List Rt) × Int × Int × (List Rt) × Unit → Option ((Int × Int × Int × Int × (List Rt) × Int × Int × (List Rt) × Unit) ⊕ (Int × Int × (List Rt) × Int × Int × (List Rt) × Unit)) := fun (n, i, v, v1, v2, v3, v4, xs, _) =>
  cond (decide (i < n))
    ((M_spec_RatFromInt 1).bind fun r =>
    (idx xs (IntKind.i64.wrap ((IntKind.i64.wrap (i * n)) + i))).bind fun _ =>
    some (.inl (n, IntKind.i64.wrap (i + 1), v, v1, v2, v3, v4, xs.set ((IntKind.i64.wrap ((IntKind.i64.wrap (i * n)) + i)).toNat) r, ())))
    (some (.inr (v, v1, v2, v3, v4, xs, ())))
noncomputable def L_spec_l06Identity_0 (n : Int) (i : Int) (v : Int) (v1 : Int) (v2 : List Rt) (v3 : Int) (v4 : Int) (xs : List Rt) : Option (Int × Int × (List Rt) × Int × Int × (List Rt) × Unit) := whileO S_spec_l06Identity_0 (n, i, v, v1, v2, v3, v4, xs, ())
noncomputable def M_spec_l06Identity (n : Int) : Option Mx :=
  (M_spec_l06Zero n n).bind fun r =>
  (L_spec_l06Identity_0 n 0 0 0 ([] : List Rt) r.rows r.cols r.cells).bind fun (v, v1, v2, v3, v4, xs, _) =>
  some (⟨v3, v4, xs⟩ : Mx)

noncomputable def M_spec_IdentityMatrix (n : Int) : Option Mx :=
  (M_spec_l01In n 0 24).bind fun r =>
  cond (!r)
    (some (⟨0, 0, ([] : List Rt)⟩ : Mx))
    ((M_spec_l06Identity n).bind fun r1 =>
    some r1)

noncomputable def S_spec_MatrixOk_0 : (List Rt) × Int × Int × Unit → Option (((List Rt) × Int × Int × Unit) ⊕ ((Bool × Unit) ⊕ (Unit))) := fun (t, t1, t2, _) =>
  cond (decide (t2 < t1))
    ((idx t t2).bind fun e =>
    (M_spec_RatOk e).bind fun r =>
    cond (!r)
      (some (.inr (.inl (false, ()))))
      (some (.inl (t, t1, IntKind.i64.wrap (t2 + 1), ()))))
    (some (.inr (.inr (()))))
noncomputable def L_spec_MatrixOk_0 (t : List Rt) (t1 : Int) (t2 : Int) : Option ((Bool × Unit) ⊕ (Unit)) := whileO S_spec_MatrixOk_0 (t, t1, t2, ())
noncomputable def M_spec_MatrixOk (m : Mx) : Option Bool :=
  (M_spec_l01In m.rows 0 24).bind fun r =>
  cond (!r)
    (some false)
    ((M_spec_l01In m.cols 0 24).bind fun r1 =>
    cond (!r1)
      (some false)
      (cond ((m.cells.length : Int) != (IntKind.i64.wrap (m.rows * m.cols)))
        (some false)
        ((L_spec_MatrixOk_0 m.cells (m.cells.length : Int) 0).bind fun r2 =>
        match r2 with
        | .inl (t, _) =>
          some t
        | .inr _ =>
          some true)))

noncomputable def S_impl_MatrixOk_0 : (List Rt) × Int × Int × Unit → Option (((List Rt) × Int × Int × Unit) ⊕ ((Bool × Unit) ⊕ (Unit))) := fun (t, t1, t2, _) =>
  cond (decide (t2 < t1))
    ((idx t t2).bind fun e =>
    (M_impl_RatOk e).bind fun r =>
    cond (!r)
      (some (.inr (.inl (false, ()))))
      (some (.inl (t, t1, IntKind.i64.wrap (t2 + 1), ()))))
    (some (.inr (.inr (()))))
noncomputable def L_impl_MatrixOk_0 (t : List Rt) (t1 : Int) (t2 : Int) : Option ((Bool × Unit) ⊕ (Unit)) := whileO S_impl_MatrixOk_0 (t, t1, t2, ())
noncomputable def M_impl_MatrixOk (m : Mx) : Option Bool :=
  (M_impl_isLength m.rows).bind fun r =>
  cond (!r)
    (some false)
    ((M_impl_isLength m.cols).bind fun r1 =>
    cond (!r1)
      (some false)
      (cond ((m.cells.length : Int) != (IntKind.i64.wrap (m.rows * m.cols)))
        (some false)
        ((L_impl_MatrixOk_0 m.cells (m.cells.length : Int) 0).bind fun r2 =>
        match r2 with
        | .inl (t, _) =>
          some t
        | .inr _ =>
          some true)))

noncomputable def M_spec_l06At (m : Mx) (i : Int) (k : Int) : Option Rt :=
  (idx m.cells (IntKind.i64.wrap ((IntKind.i64.wrap (i * m.cols)) + k))).bind fun e =>
  some e

noncomputable def M_impl_Matrix_at (m : Mx) (i : Int) (k : Int) : Option Rt :=
  (idx m.cells (IntKind.i64.wrap ((IntKind.i64.wrap (i * m.cols)) + k))).bind fun e =>
  some e

noncomputable def M_spec_CellAt (m : Mx) (i : Int) (k : Int) : Option Rt :=
  (M_spec_MatrixOk m).bind fun r =>
  cond (!r)
    (some (⟨false, ([] : List Int), ([] : List Int)⟩ : Rt))
    ((M_spec_l01In i 0 (IntKind.i64.wrap (m.rows - 1))).bind fun r1 =>
    cond (!r1)
      (some (⟨false, ([] : List Int), ([] : List Int)⟩ : Rt))
      ((M_spec_l01In k 0 (IntKind.i64.wrap (m.cols - 1))).bind fun r2 =>
      cond (!r2)
        (some (⟨false, ([] : List Int), ([] : List Int)⟩ : Rt))
        ((M_spec_l06At m i k).bind fun r3 =>
        (M_spec_l04Copy r3).bind fun r4 =>
        some r4)))

noncomputable def M_impl_CellAt (m : Mx) (i : Int) (k : Int) : Option Rt :=
  (M_impl_MatrixOk m).bind fun r =>
  cond (!r)
    (some (⟨false, ([] : List Int), ([] : List Int)⟩ : Rt))
    (cond (decide (i < 0))
      (some (⟨false, ([] : List Int), ([] : List Int)⟩ : Rt))
      (cond (decide (i ≥ m.rows))
        (some (⟨false, ([] : List Int), ([] : List Int)⟩ : Rt))
        (cond (decide (k < 0))
          (some (⟨false, ([] : List Int), ([] : List Int)⟩ : Rt))
          (cond (decide (k ≥ m.cols))
            (some (⟨false, ([] : List Int), ([] : List Int)⟩ : Rt))
            ((M_impl_Matrix_at m i k).bind fun r1 =>
            (M_impl_copyRat r1).bind fun r2 =>
            some r2)))))

noncomputable def M_spec_l06Row (m : Mx) (i : Int) : Option (List Rt) :=
  (guardO (inside m.cells.length (IntKind.i64.wrap (i * m.cols), IntKind.i64.wrap ((IntKind.i64.wrap (i + 1)) * m.cols)))).bind fun _ =>
  some (cut m.cells ((IntKind.i64.wrap (i * m.cols)).toNat) ((IntKind.i64.wrap ((IntKind.i64.wrap (i + 1)) * m.cols)).toNat))

noncomputable def M_spec_RowOf (m : Mx) (i : Int) : Option (List Rt) :=
  (M_spec_MatrixOk m).bind fun r =>
  cond (!r)
    (some ([] : List Rt))
    ((M_spec_l01In i 0 (IntKind.i64.wrap (m.rows - 1))).bind fun r1 =>
    cond (!r1)
      (some ([] : List Rt))
      ((M_spec_l06Row m i).bind fun r2 =>
      (M_spec_l05Copy r2).bind fun r3 =>
      some r3))

noncomputable def M_impl_Matrix_row (m : Mx) (i : Int) : Option (List Rt) :=
  (guardO (inside m.cells.length (IntKind.i64.wrap (i * m.cols), IntKind.i64.wrap ((IntKind.i64.wrap (i + 1)) * m.cols)))).bind fun _ =>
  some (cut m.cells ((IntKind.i64.wrap (i * m.cols)).toNat) ((IntKind.i64.wrap ((IntKind.i64.wrap (i + 1)) * m.cols)).toNat))

noncomputable def M_impl_RowOf (m : Mx) (i : Int) : Option (List Rt) :=
  (M_impl_MatrixOk m).bind fun r =>
  cond (!r)
    (some ([] : List Rt))
    (cond (decide (i < 0))
      (some ([] : List Rt))
      (cond (decide (i ≥ m.rows))
        (some ([] : List Rt))
        ((M_impl_Matrix_row m i).bind fun r1 =>
        (M_impl_copyVector r1).bind fun r2 =>
        some r2)))

noncomputable def S_spec_l06Transpose_1 : Int × Int × Int × Int × (List Rt) × Int × Int × (List Rt) × Int × Int × (List Rt) × Unit → Option ((Int × Int × Int × Int × (List Rt) × Int × Int × (List Rt) × Int × Int × (List Rt) × Unit) ⊕ (Int × Int × Int × (List Rt) × Int × Int × (List Rt) × Int × Int × (List Rt) × Unit)) := fun (k, i, v, v1, v2, v3, v4, v5, v6, v7, xs, _) =>
  cond (decide (i < v))
    ((M_spec_l06At (⟨v, v1, v2⟩ : Mx) i k).bind fun r =>
    (M_spec_l04Copy r).bind fun r1 =>
    (guardO (Nat.ble (xs.length + 1) maxNew)).bind fun _ =>
    some (.inl (k, IntKind.i64.wrap (i + 1), v, v1, v2, v3, v4, v5, v6, v7, xs ++ ([r1] : List Rt), ())))
    (some (.inr (k, v, v1, v2, v3, v4, v5, v6, v7, xs, ())))
noncomputable def L_spec_l06Transpose_1 (k : Int) (i : Int) (v : Int) (v1 : Int) (v2 : List Rt) (v3 : Int) (v4 : Int) (v5 : List Rt) (v6 : Int) (v7 : Int) (xs : List Rt) : Option (Int × Int × Int × (List Rt) × Int × Int × (List Rt) × Int × Int × (List Rt) × Unit) := whileO S_spec_l06Transpose_1 (k, i, v, v1, v2, v3, v4, v5, v6, v7, xs, ())
noncomputable def S_spec_l06Transpose_0 : Int × Int × Int × (List Rt) × Int × Int × (List Rt) × Int × Int × (List Rt) × Unit → Option ((Int × Int × Int × (List Rt) × Int × Int × (List Rt) × Int × Int × (List Rt) × Unit) ⊕ (Int × Int × (List Rt) × Int × Int × (List Rt) × Unit)) := fun (k, v, v1, v2, v3, v4, v5, v6, v7, xs, _) =>
  cond (decide (k < v1))
    ((L_spec_l06Transpose_1 k 0 v v1 v2 v3 v4 v5 v6 v7 xs).bind fun (k1, v8, v9, v10, v11, v12, v13, v14, v15, xs1, _) =>
    some (.inl (IntKind.i64.wrap (k1 + 1), v8, v9, v10, v11, v12, v13, v14, v15, xs1, ())))
    (some (.inr (v3, v4, v5, v6, v7, xs, ())))
noncomputable def L_spec_l06Transpose_0 (k : Int) (v : Int) (v1 : Int) (v2 : List Rt) (v3 : Int) (v4 : Int) (v5 : List Rt) (v6 : Int) (v7 : Int) (xs : List Rt) : Option (Int × Int × (List Rt) × Int × Int × (List Rt) × Unit) := whileO S_spec_l06Transpose_0 (k, v, v1, v2, v3, v4, v5, v6, v7, xs, ())
noncomputable def M_spec_l06Transpose (m : Mx) : Option Mx :=
  (L_spec_l06Transpose_0 0 m.rows m.cols m.cells 0 0 ([] : List Rt) m.cols m.rows ([] : List Rt)).bind fun (v, v1, v2, v3, v4, xs, _) =>
  some (⟨v3, v4, xs⟩ : Mx)

noncomputable def M_spec_EqualMatrices (a : Mx) (b : Mx) : Option Bool :=
  cond (a.rows == b.rows)
    (cond (a.cols == b.cols)
      ((M_spec_EqualVectors a.cells b.cells).bind fun r =>
      some r)
      (some false))
    (some false)

noncomputable def M_impl_IdentityMatrix_c1 (i : Int) (k : Int) : Option Rt :=
  cond (i == k)
    ((M_impl_whole 1).bind fun r =>
    some r)
    ((M_impl_whole 0).bind fun r =>
    some r)

noncomputable def M_impl_EqualMatrices (a : Mx) (b : Mx) : Option Bool :=
  cond (a.rows == b.rows)
    (cond (a.cols == b.cols)
      ((M_impl_EqualVectors a.cells b.cells).bind fun r =>
      some r)
      (some false))
    (some false)

noncomputable def M_spec_Transpose (m : Mx) : Option Mx :=
  (M_spec_MatrixOk m).bind fun r =>
  cond (!r)
    (some (⟨0, 0, ([] : List Rt)⟩ : Mx))
    ((M_spec_l06Transpose m).bind fun r1 =>
    some r1)

noncomputable def S_impl_applied_0 : (List Rt) × Int × Int × Int × Int × (List Rt) × (List Rt) × Unit → Option (((List Rt) × Int × Int × Int × Int × (List Rt) × (List Rt) × Unit) ⊕ ((List Rt) × Unit)) := fun (v, t, t1, v1, v2, v3, out, _) =>
  cond (decide (t1 < t))
    ((M_impl_Matrix_row (⟨v1, v2, v3⟩ : Mx) t1).bind fun r =>
    (M_impl_inner r v).bind fun r1 =>
    (guardO (Nat.ble (out.length + 1) maxNew)).bind fun _ =>
    some (.inl (v, t, IntKind.i64.wrap (t1 + 1), v1, v2, v3, out ++ ([r1] : List Rt), ())))
    (some (.inr (out, ())))
noncomputable def L_impl_applied_0 (v : List Rt) (t : Int) (t1 : Int) (v1 : Int) (v2 : Int) (v3 : List Rt) (out : List Rt) : Option ((List Rt) × Unit) := whileO S_impl_applied_0 (v, t, t1, v1, v2, v3, out, ())
noncomputable def M_impl_applied (m : Mx) (v : List Rt) : Option (List Rt × Bool) :=
  (L_impl_applied_0 v m.rows 0 m.rows m.cols m.cells ([] : List Rt)).bind fun (out, _) =>
  (M_impl_complete out).bind fun r =>
  cond (!r)
    (some (([] : List Rt), false))
    (some (out, true))

noncomputable def M_impl_ApplyMatrix (m : Mx) (v : List Rt) : Option (List Rt × Bool) :=
  (M_impl_MatrixOk m).bind fun r =>
  cond (!r)
    (some (([] : List Rt), false))
    ((M_impl_IsVector v).bind fun r1 =>
    cond (!r1)
      (some (([] : List Rt), false))
      (cond ((v.length : Int) != m.cols)
        (some (([] : List Rt), false))
        ((M_impl_applied m v).bind fun (r0, r1_1) =>
        some (r0, r1_1))))

noncomputable def M_impl_givenMatrix (m : Mx) : Option (Mx × Bool) :=
  (M_impl_complete m.cells).bind fun r =>
  cond (!r)
    (some ((⟨0, 0, ([] : List Rt)⟩ : Mx), false))
    (some (m, true))

end Go.Di
/-
  Own work, written by program (gen.py) out of the functions of the given program: what they compute, as plain Lean.
-/
namespace Go.Di
noncomputable def M_laws_FnExactMatrixOk (aM : Mx) : Option Bool :=
  (M_laws_szMatrix aM 1048576).bind fun r =>
  cond (decide (r < 0))
    (some true)
    ((M_laws_toMatrix aM).bind fun r1 =>
    (M_spec_MatrixOk r1).bind fun r2 =>
    (M_laws_toMatrix aM).bind fun r3 =>
    (M_impl_MatrixOk r3).bind fun r4 =>
    cond (!(r4 == r2))
      (some false)
      ((M_laws_toMatrix aM).bind fun r5 =>
      (M_laws_eqMatrix r3 r5).bind fun r6 =>
      cond (!r6)
        (some false)
        (some true)))

end Go.Di
