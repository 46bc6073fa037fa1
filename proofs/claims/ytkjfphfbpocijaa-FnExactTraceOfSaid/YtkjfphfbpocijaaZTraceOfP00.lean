/-
  Own work: part 8 of the texts that the proof of the given statement leans on.
-/
import Derived.Test.YtkjfphfbpocijaaZE02
/-
  Own work, written by program (gen.py) out of the functions of the given program: what they compute, as plain Lean.
-/
namespace Go.Di
noncomputable def S_impl_DiagonalOf_0 : Int × Int × Int × Int × (List Rt) × (List Rt) × Unit → Option ((Int × Int × Int × Int × (List Rt) × (List Rt) × Unit) ⊕ ((List Rt) × Unit)) := fun (t, t1, v, v1, v2, out, _) =>
  cond (decide (t1 < t))
    ((M_impl_Matrix_at (⟨v, v1, v2⟩ : Mx) t1 t1).bind fun r =>
    (M_impl_copyRat r).bind fun r1 =>
    (guardO (Nat.ble (out.length + 1) maxNew)).bind fun _ =>
    some (.inl (t, IntKind.i64.wrap (t1 + 1), v, v1, v2, out ++ ([r1] : List Rt), ())))
    (some (.inr (out, ())))
noncomputable def L_impl_DiagonalOf_0 (t : Int) (t1 : Int) (v : Int) (v1 : Int) (v2 : List Rt) (out : List Rt) : Option ((List Rt) × Unit) := whileO S_impl_DiagonalOf_0 (t, t1, v, v1, v2, out, ())
noncomputable def M_impl_DiagonalOf (m : Mx) : Option (List Rt) :=
  (M_impl_MatrixOk m).bind fun r =>
  cond (!r)
    (some ([] : List Rt))
    (cond (m.rows != m.cols)
      (some ([] : List Rt))
      ((L_impl_DiagonalOf_0 m.rows 0 m.rows m.cols m.cells ([] : List Rt)).bind fun (out, _) =>
      some out))

noncomputable def M_impl_QuadraticForm (m : Mx) (v : List Rt) : Option (Rt × Bool) :=
  (M_impl_ApplyMatrix m v).bind fun (r0, r1) =>
  cond (!r1)
    (some ((⟨false, ([] : List Int), ([] : List Int)⟩ : Rt), false))
    (cond (m.rows != m.cols)
      (some ((⟨false, ([] : List Int), ([] : List Int)⟩ : Rt), false))
      ((M_impl_inner v r0).bind fun r =>
      (M_impl_given_c r).bind fun (r0_1, r1_1) =>
      some (r0_1, r1_1)))

noncomputable def S_impl_TraceOf_0 : Int × Int × Int × Int × (List Rt) × Bool × (List Int) × (List Int) × Bool × (List Int) × (List Int) × Unit → Option ((Int × Int × Int × Int × (List Rt) × Bool × (List Int) × (List Int) × Bool × (List Int) × (List Int) × Unit) ⊕ (Bool × (List Int) × (List Int) × Bool × (List Int) × (List Int) × Unit)) := fun (t, t1, v, v1, v2, v3, v4, v5, v6, xs, xs1, _) =>
  cond (decide (t1 < t))
    ((M_impl_Matrix_at (⟨v, v1, v2⟩ : Mx) t1 t1).bind fun r =>
    (M_impl_add (⟨v6, xs, xs1⟩ : Rt) r).bind fun r1 =>
    some (.inl (t, IntKind.i64.wrap (t1 + 1), v, v1, v2, v3, v4, v5, r1.neg, r1.mag, r1.den, ())))
    (some (.inr (v3, v4, v5, v6, xs, xs1, ())))
noncomputable def L_impl_TraceOf_0 (t : Int) (t1 : Int) (v : Int) (v1 : Int) (v2 : List Rt) (v3 : Bool) (v4 : List Int) (v5 : List Int) (v6 : Bool) (xs : List Int) (xs1 : List Int) : Option (Bool × (List Int) × (List Int) × Bool × (List Int) × (List Int) × Unit) := whileO S_impl_TraceOf_0 (t, t1, v, v1, v2, v3, v4, v5, v6, xs, xs1, ())
noncomputable def M_impl_TraceOf (m : Mx) : Option (Rt × Bool) :=
  (M_impl_MatrixOk m).bind fun r =>
  cond (!r)
    (some ((⟨false, ([] : List Int), ([] : List Int)⟩ : Rt), false))
    (cond (m.rows != m.cols)
      (some ((⟨false, ([] : List Int), ([] : List Int)⟩ : Rt), false))
      ((M_impl_whole 0).bind fun r1 =>
      (L_impl_TraceOf_0 m.rows 0 m.rows m.cols m.cells false ([] : List Int) ([] : List Int) r1.neg r1.mag r1.den).bind fun (_, _, _, v3, xs, xs1, _) =>
      (M_impl_given_c (⟨v3, xs, xs1⟩ : Rt)).bind fun (r0, r1_1) =>
      some (r0, r1_1)))

noncomputable def S_spec_DiagonalOf_0 : Int × Int × Int × (List Rt) × (List Rt) × Unit → Option ((Int × Int × Int × (List Rt) × (List Rt) × Unit) ⊕ ((List Rt) × Unit)) := fun (i, v, v1, v2, out, _) =>
  cond (decide (i < v))
    ((M_spec_l06At (⟨v, v1, v2⟩ : Mx) i i).bind fun r =>
    (M_spec_l04Copy r).bind fun r1 =>
    (guardO (Nat.ble (out.length + 1) maxNew)).bind fun _ =>
    some (.inl (IntKind.i64.wrap (i + 1), v, v1, v2, out ++ ([r1] : List Rt), ())))
    (some (.inr (out, ())))
noncomputable def L_spec_DiagonalOf_0 (i : Int) (v : Int) (v1 : Int) (v2 : List Rt) (out : List Rt) : Option ((List Rt) × Unit) := whileO S_spec_DiagonalOf_0 (i, v, v1, v2, out, ())
noncomputable def M_spec_DiagonalOf (m : Mx) : Option (List Rt) :=
  (M_spec_MatrixOk m).bind fun r =>
  cond (!r)
    (some ([] : List Rt))
    (cond (m.rows != m.cols)
      (some ([] : List Rt))
      ((L_spec_DiagonalOf_0 0 m.rows m.cols m.cells ([] : List Rt)).bind fun (out, _) =>
      some out))

noncomputable def M_spec_IsSymmetric (m : Mx) : Option Bool :=
  (M_spec_MatrixOk m).bind fun r =>
  cond r
    (cond (m.rows == m.cols)
      ((M_spec_l06Transpose m).bind fun r1 =>
      (M_spec_EqualMatrices m r1).bind fun r2 =>
      some r2)
      (some false))
    (some false)

noncomputable def M_spec_QuadraticForm (m : Mx) (v : List Rt) : Option (Rt × Bool) :=
  (M_spec_ApplyMatrix m v).bind fun (r0, r1) =>
  cond (!r1)
    (some ((⟨false, ([] : List Int), ([] : List Int)⟩ : Rt), false))
    (cond (m.rows != m.cols)
      (some ((⟨false, ([] : List Int), ([] : List Int)⟩ : Rt), false))
      ((M_spec_l05Inner v r0).bind fun r =>
      (M_spec_l05Bad r).bind fun r2 =>
      some (r, !r2)))

noncomputable def S_spec_l08Ascending_0 : (List Int) × Int × (List Int) × Int × Int × Unit → Option (((List Int) × Int × (List Int) × Int × Int × Unit) ⊕ ((Bool × Unit) ⊕ (Unit))) := fun (list, n, t, t1, t2, _) =>
  cond (decide (t2 < t1))
    ((idx t t2).bind fun e =>
    (M_spec_l01In e 0 (IntKind.i64.wrap (n - 1))).bind fun r =>
    cond (!r)
      (some (.inr (.inl (false, ()))))
      (cond (decide (t2 > 0))
        ((idx list (IntKind.i64.wrap (t2 - 1))).bind fun e1 =>
        cond (decide (e1 ≥ e))
          (some (.inr (.inl (false, ()))))
          (some (.inl (list, n, t, t1, IntKind.i64.wrap (t2 + 1), ()))))
        (some (.inl (list, n, t, t1, IntKind.i64.wrap (t2 + 1), ())))))
    (some (.inr (.inr (()))))
noncomputable def L_spec_l08Ascending_0 (list : List Int) (n : Int) (t : List Int) (t1 : Int) (t2 : Int) : Option ((Bool × Unit) ⊕ (Unit)) := whileO S_spec_l08Ascending_0 (list, n, t, t1, t2, ())
noncomputable def M_spec_l08Ascending (list : List Int) (n : Int) : Option Bool :=
  (L_spec_l08Ascending_0 list n list (list.length : Int) 0).bind fun r =>
  match r with
  | .inl (t, _) =>
    some t
  | .inr _ =>
    some true

noncomputable def S_spec_l08Part_1 : (List Int) × Int × (List Int) × Int × Int × (List Int) × Int × Int × Int × Int × (List Rt) × Int × Int × (List Rt) × Int × Int × (List Rt) × Unit → Option (((List Int) × Int × (List Int) × Int × Int × (List Int) × Int × Int × Int × Int × (List Rt) × Int × Int × (List Rt) × Int × Int × (List Rt) × Unit) ⊕ ((List Int) × (List Int) × Int × Int × Int × Int × (List Rt) × Int × Int × (List Rt) × Int × Int × (List Rt) × Unit)) := fun (list, i, t, t1, t2, t3, t4, t5, v, v1, v2, v3, v4, v5, v6, v7, xs, _) =>
  cond (decide (t5 < t4))
    ((idx t3 t5).bind fun e =>
    (M_spec_l06At (⟨v, v1, v2⟩ : Mx) i e).bind fun r =>
    (M_spec_l04Copy r).bind fun r1 =>
    (guardO (Nat.ble (xs.length + 1) maxNew)).bind fun _ =>
    some (.inl (list, i, t, t1, t2, t3, t4, IntKind.i64.wrap (t5 + 1), v, v1, v2, v3, v4, v5, v6, v7, xs ++ ([r1] : List Rt), ())))
    (some (.inr (list, t, t1, t2, v, v1, v2, v3, v4, v5, v6, v7, xs, ())))
noncomputable def L_spec_l08Part_1 (list : List Int) (i : Int) (t : List Int) (t1 : Int) (t2 : Int) (t3 : List Int) (t4 : Int) (t5 : Int) (v : Int) (v1 : Int) (v2 : List Rt) (v3 : Int) (v4 : Int) (v5 : List Rt) (v6 : Int) (v7 : Int) (xs : List Rt) : Option ((List Int) × (List Int) × Int × Int × Int × Int × (List Rt) × Int × Int × (List Rt) × Int × Int × (List Rt) × Unit) := whileO S_spec_l08Part_1 (list, i, t, t1, t2, t3, t4, t5, v, v1, v2, v3, v4, v5, v6, v7, xs, ())
noncomputable def S_spec_l08Part_0 : (List Int) × (List Int) × Int × Int × Int × Int × (List Rt) × Int × Int × (List Rt) × Int × Int × (List Rt) × Unit → Option (((List Int) × (List Int) × Int × Int × Int × Int × (List Rt) × Int × Int × (List Rt) × Int × Int × (List Rt) × Unit) ⊕ (Int × Int × (List Rt) × Int × Int × (List Rt) × Unit)) := fun (list, t, t1, t2, v, v1, v2, v3, v4, v5, v6, v7, xs, _) =>
  cond (decide (t2 < t1))
    ((idx t t2).bind fun e =>
    (L_spec_l08Part_1 list e t t1 t2 list (list.length : Int) 0 v v1 v2 v3 v4 v5 v6 v7 xs).bind fun (list1, t3, t4, t5, v8, v9, v10, v11, v12, v13, v14, v15, xs1, _) =>
    some (.inl (list1, t3, t4, IntKind.i64.wrap (t5 + 1), v8, v9, v10, v11, v12, v13, v14, v15, xs1, ())))
    (some (.inr (v3, v4, v5, v6, v7, xs, ())))
noncomputable def L_spec_l08Part_0 (list : List Int) (t : List Int) (t1 : Int) (t2 : Int) (v : Int) (v1 : Int) (v2 : List Rt) (v3 : Int) (v4 : Int) (v5 : List Rt) (v6 : Int) (v7 : Int) (xs : List Rt) : Option (Int × Int × (List Rt) × Int × Int × (List Rt) × Unit) := whileO S_spec_l08Part_0 (list, t, t1, t2, v, v1, v2, v3, v4, v5, v6, v7, xs, ())
noncomputable def M_spec_l08Part (m : Mx) (list : List Int) : Option Mx :=
  (L_spec_l08Part_0 list list (list.length : Int) 0 m.rows m.cols m.cells 0 0 ([] : List Rt) (list.length : Int) (list.length : Int) ([] : List Rt)).bind fun (_, _, _, v3, v4, xs, _) =>
  some (⟨v3, v4, xs⟩ : Mx)

noncomputable def M_spec_Submatrix (m : Mx) (list : List Int) : Option (Mx × Bool) :=
  (M_spec_MatrixOk m).bind fun r =>
  cond (!r)
    (some ((⟨0, 0, ([] : List Rt)⟩ : Mx), false))
    (cond (m.rows != m.cols)
      (some ((⟨0, 0, ([] : List Rt)⟩ : Mx), false))
      ((M_spec_l08Ascending list m.rows).bind fun r1 =>
      cond (!r1)
        (some ((⟨0, 0, ([] : List Rt)⟩ : Mx), false))
        ((M_spec_l08Part m list).bind fun r2 =>
        some (r2, true))))

noncomputable def S_spec_l08Sum_0 : (List Rt) × Int × Int × Bool × (List Int) × (List Int) × Bool × (List Int) × (List Int) × Unit → Option (((List Rt) × Int × Int × Bool × (List Int) × (List Int) × Bool × (List Int) × (List Int) × Unit) ⊕ (Bool × (List Int) × (List Int) × Bool × (List Int) × (List Int) × Unit)) := fun (t, t1, t2, v, v1, v2, v3, xs, xs1, _) =>
  cond (decide (t2 < t1))
    ((idx t t2).bind fun e =>
    (M_spec_l04Add (⟨v3, xs, xs1⟩ : Rt) e).bind fun r =>
    some (.inl (t, t1, IntKind.i64.wrap (t2 + 1), v, v1, v2, r.neg, r.mag, r.den, ())))
    (some (.inr (v, v1, v2, v3, xs, xs1, ())))
noncomputable def L_spec_l08Sum_0 (t : List Rt) (t1 : Int) (t2 : Int) (v : Bool) (v1 : List Int) (v2 : List Int) (v3 : Bool) (xs : List Int) (xs1 : List Int) : Option (Bool × (List Int) × (List Int) × Bool × (List Int) × (List Int) × Unit) := whileO S_spec_l08Sum_0 (t, t1, t2, v, v1, v2, v3, xs, xs1, ())
noncomputable def M_spec_l08Sum (v : List Rt) : Option Rt :=
  (M_spec_l05Zero).bind fun r =>
  (L_spec_l08Sum_0 v (v.length : Int) 0 false ([] : List Int) ([] : List Int) r.neg r.mag r.den).bind fun (_, _, _, v4, xs, xs1, _) =>
  some (⟨v4, xs, xs1⟩ : Rt)

noncomputable def M_spec_TraceOf (m : Mx) : Option (Rt × Bool) :=
  (M_spec_MatrixOk m).bind fun r =>
  cond (!r)
    (some ((⟨false, ([] : List Int), ([] : List Int)⟩ : Rt), false))
    (cond (m.rows != m.cols)
      (some ((⟨false, ([] : List Int), ([] : List Int)⟩ : Rt), false))
      ((M_spec_DiagonalOf m).bind fun r1 =>
      (M_spec_l08Sum r1).bind fun r2 =>
      (M_spec_l05Bad r2).bind fun r3 =>
      some (r2, !r3)))

end Go.Di
/-
  Own work, written by program (gen.py) out of the functions of the given program: what they compute, as plain Lean.
-/
namespace Go.Di
noncomputable def M_laws_FnExactTraceOf (aM : Mx) : Option Bool :=
  (M_laws_szMatrix aM 1048576).bind fun r =>
  cond (decide (r < 0))
    (some true)
    ((M_laws_toMatrix aM).bind fun r1 =>
    (M_spec_TraceOf r1).bind fun (r0, r1_1) =>
    (M_laws_toMatrix aM).bind fun r2 =>
    (M_impl_TraceOf r2).bind fun (r0_1, r1_2) =>
    (M_laws_eqRat r0_1 r0).bind fun r3 =>
    cond (!r3)
      (some false)
      (cond (!(r1_2 == r1_1))
        (some false)
        ((M_laws_toMatrix aM).bind fun r4 =>
        (M_laws_eqMatrix r2 r4).bind fun r5 =>
        cond (!r5)
          (some false)
          ((M_laws_markMatrix_md r2 1).bind fun (r0_2, _) =>
          cond (decide (r0_2 < 0))
            (some false)
            ((M_laws_eqRat r0_1 r0).bind fun r6 =>
            cond (!r6)
              (some false)
              (cond (!(r1_2 == r1_1))
                (some false)
                ((M_laws_markRat_md r0_1 1).bind fun (r0_3, x0_1, x1) =>
                (M_laws_heldRat (⟨r0_1.neg, x0_1, x1⟩ : Rt) 1).bind fun r7 =>
                cond (decide (r7 < 0))
                  (some false)
                  (cond (r7 != r0_3)
                    (some false)
                    ((M_laws_toMatrix aM).bind fun r8 =>
                    (M_impl_TraceOf r8).bind fun (r0_4, r1_3) =>
                    (M_laws_eqRat r0_4 r0).bind fun r9 =>
                    cond (!r9)
                      (some false)
                      (cond (!(r1_3 == r1_1))
                        (some false)
                        ((M_laws_heldRat (⟨r0_1.neg, x0_1, x1⟩ : Rt) 1).bind fun r10 =>
                        cond (decide (r10 < 0))
                          (some false)
                          (cond (r10 != r0_3)
                            (some false)
                            (some true)))))))))))))

end Go.Di
