/-
  Own work: part 7 of the texts that the proof of the given statement leans on.
-/
import Derived.Test.YtakkbpieoceodaaZE01
namespace Go.Di
noncomputable def M_impl_part_c1 (i : Int) (k : Int) (g : Mx) (g1 : List Int) (g2 : List Int) : Option Rt :=
  (idx g1 i).bind fun e =>
  (idx g2 k).bind fun e1 =>
  (M_impl_Matrix_at g e e1).bind fun r =>
  (M_impl_copyRat r).bind fun r1 =>
  some r1
noncomputable def S_impl_built__impl_part_c1_1 : Int × Int × Int × (List Rt) × (List Int) × (List Int) × Int × Int × Int × Int × Int × Int × Int × (List Rt) × Int × Int × (List Rt) × Unit → Option ((Int × Int × Int × (List Rt) × (List Int) × (List Int) × Int × Int × Int × Int × Int × Int × Int × (List Rt) × Int × Int × (List Rt) × Unit) ⊕ (Int × Int × Int × (List Rt) × (List Int) × (List Int) × Int × Int × Int × Int × (List Rt) × Int × Int × (List Rt) × Unit)) := fun (cols, g, g1, g2, g3, g4, i, t, t1, t2, t3, v, v1, v2, v3, v4, xs, _) =>
  cond (decide (t3 < t2))
    ((M_impl_part_c1 i t3 (⟨g, g1, g2⟩ : Mx) g3 g4).bind fun r =>
    (guardO (Nat.ble (xs.length + 1) maxNew)).bind fun _ =>
    some (.inl (cols, g, g1, g2, g3, g4, i, t, t1, t2, IntKind.i64.wrap (t3 + 1), v, v1, v2, v3, v4, xs ++ ([r] : List Rt), ())))
    (some (.inr (cols, g, g1, g2, g3, g4, t, t1, v, v1, v2, v3, v4, xs, ())))
noncomputable def L_impl_built__impl_part_c1_1 (cols : Int) (g : Int) (g1 : Int) (g2 : List Rt) (g3 : List Int) (g4 : List Int) (i : Int) (t : Int) (t1 : Int) (t2 : Int) (t3 : Int) (v : Int) (v1 : Int) (v2 : List Rt) (v3 : Int) (v4 : Int) (xs : List Rt) : Option (Int × Int × Int × (List Rt) × (List Int) × (List Int) × Int × Int × Int × Int × (List Rt) × Int × Int × (List Rt) × Unit) := whileO S_impl_built__impl_part_c1_1 (cols, g, g1, g2, g3, g4, i, t, t1, t2, t3, v, v1, v2, v3, v4, xs, ())
noncomputable def S_impl_built__impl_part_c1_0 : Int × Int × Int × (List Rt) × (List Int) × (List Int) × Int × Int × Int × Int × (List Rt) × Int × Int × (List Rt) × Unit → Option ((Int × Int × Int × (List Rt) × (List Int) × (List Int) × Int × Int × Int × Int × (List Rt) × Int × Int × (List Rt) × Unit) ⊕ (Int × Int × (List Rt) × Int × Int × (List Rt) × Unit)) := fun (cols, g, g1, g2, g3, g4, t, t1, v, v1, v2, v3, v4, xs, _) =>
  cond (decide (t1 < t))
    ((L_impl_built__impl_part_c1_1 cols g g1 g2 g3 g4 t1 t t1 cols 0 v v1 v2 v3 v4 xs).bind fun (cols1, g5, g6, g7, g8, g9, t2, t3, v5, v6, v7, v8, v9, xs1, _) =>
    some (.inl (cols1, g5, g6, g7, g8, g9, t2, IntKind.i64.wrap (t3 + 1), v5, v6, v7, v8, v9, xs1, ())))
    (some (.inr (v, v1, v2, v3, v4, xs, ())))
noncomputable def L_impl_built__impl_part_c1_0 (cols : Int) (g : Int) (g1 : Int) (g2 : List Rt) (g3 : List Int) (g4 : List Int) (t : Int) (t1 : Int) (v : Int) (v1 : Int) (v2 : List Rt) (v3 : Int) (v4 : Int) (xs : List Rt) : Option (Int × Int × (List Rt) × Int × Int × (List Rt) × Unit) := whileO S_impl_built__impl_part_c1_0 (cols, g, g1, g2, g3, g4, t, t1, v, v1, v2, v3, v4, xs, ())
noncomputable def M_impl_built__impl_part_c1 (rows : Int) (cols : Int) (g : Mx) (g1 : List Int) (g2 : List Int) : Option Mx :=
  (L_impl_built__impl_part_c1_0 cols g.rows g.cols g.cells g1 g2 rows 0 0 0 ([] : List Rt) rows cols ([] : List Rt)).bind fun (_, _, _, v3, v4, xs, _) =>
  some (⟨v3, v4, xs⟩ : Mx)
noncomputable def M_impl_part (m : Mx) (rows : List Int) (cols : List Int) : Option Mx :=
  (M_impl_built__impl_part_c1 (rows.length : Int) (cols.length : Int) m rows cols).bind fun r =>
  some r
noncomputable def M_impl_Submatrix (m : Mx) (list : List Int) : Option (Mx × Bool) :=
  (M_impl_MatrixOk m).bind fun r =>
  cond (!r)
    (some ((⟨0, 0, ([] : List Rt)⟩ : Mx), false))
    (cond (m.rows != m.cols)
      (some ((⟨0, 0, ([] : List Rt)⟩ : Mx), false))
      ((M_impl_ascendingTo list m.rows).bind fun r1 =>
      cond (!r1)
        (some ((⟨0, 0, ([] : List Rt)⟩ : Mx), false))
        ((M_impl_part m list list).bind fun r2 =>
        some (r2, true))))
noncomputable def S_spec_l08Ascending_0 : (List Int) × Int × (List Int) × Int × Int × Unit → Option (((List Int) × Int × (List Int) × Int × Int × Unit) ⊕ ((Bool × Unit) ⊕ (Unit))) := fun (list, n, t, t1, t2, _) =>
  cond (decide (t2 < t1))
    ((idx t t2).bind fun e =>
    (M_spec_l01In e 0 (IntKind.i64.wrap (n - 1))).bind fun r =>
    cond (!r)
      (some (.inr (.inl (false, ()))))
      (cond (decide (t2 > 0))
        ((idx list (IntKind.i64.wrap (t2 - 1))).bind fun e1 =>
        cond (decide (e1 ≥ e))
          (some (.inr (.inl (false, ()))))
          (some (.inl (list, n, t, t1, IntKind.i64.wrap (t2 + 1), ()))))
        (some (.inl (list, n, t, t1, IntKind.i64.wrap (t2 + 1), ())))))
    (some (.inr (.inr (()))))
noncomputable def L_spec_l08Ascending_0 (list : List Int) (n : Int) (t : List Int) (t1 : Int) (t2 : Int) : Option ((Bool × Unit) ⊕ (Unit)) := whileO S_spec_l08Ascending_0 (list, n, t, t1, t2, ())
noncomputable def M_spec_l08Ascending (list : List Int) (n : Int) : Option Bool :=
  (L_spec_l08Ascending_0 list n list (list.length : Int) 0).bind fun r =>
  match r with
  | .inl (t, _) =>
    some t
  | .inr _ =>
    some true
noncomputable def S_spec_l08Part_1 : (List Int) × Int × (List Int) × Int × Int × (List Int) × Int × Int × Int × Int × (List Rt) × Int × Int × (List Rt) × Int × Int × (List Rt) × Unit → Option (((List Int) × Int × (List Int) × Int × Int × (List Int) × Int × Int × Int × Int × (List Rt) × Int × Int × (List Rt) × Int × Int × (List Rt) × Unit) ⊕ ((List Int) × (List Int) × Int × Int × Int × Int × (List Rt) × Int × Int × (List Rt) × Int × Int × (List Rt) × Unit)) := fun (list, i, t, t1, t2, t3, t4, t5, v, v1, v2, v3, v4, v5, v6, v7, xs, _) =>
  cond (decide (t5 < t4))
    ((idx t3 t5).bind fun e =>
    (M_spec_l06At (⟨v, v1, v2⟩ : Mx) i e).bind fun r =>
    (M_spec_l04Copy r).bind fun r1 =>
    (guardO (Nat.ble (xs.length + 1) maxNew)).bind fun _ =>
    some (.inl (list, i, t, t1, t2, t3, t4, IntKind.i64.wrap (t5 + 1), v, v1, v2, v3, v4, v5, v6, v7, xs ++ ([r1] : List Rt), ())))
    (some (.inr (list, t, t1, t2, v, v1, v2, v3, v4, v5, v6, v7, xs, ())))
noncomputable def L_spec_l08Part_1 (list : List Int) (i : Int) (t : List Int) (t1 : Int) (t2 : Int) (t3 : List Int) (t4 : Int) (t5 : Int) (v : Int) (v1 : Int) (v2 : List Rt) (v3 : Int) (v4 : Int) (v5 : List Rt) (v6 : Int) (v7 : Int) (xs : List Rt) : Option ((List Int) × (List Int) × Int × Int × Int × Int × (List Rt) × Int × Int × (List Rt) × Int × Int × (List Rt) × Unit) := whileO S_spec_l08Part_1 (list, i, t, t1, t2, t3, t4, t5, v, v1, v2, v3, v4, v5, v6, v7, xs, ())
noncomputable def S_spec_l08Part_0 : (List Int) × (List Int) × Int × Int × Int × Int × (List Rt) × Int × Int × (List Rt) × Int × Int × (List Rt) × Unit → Option (((List Int) × (List Int) × Int × Int × Int × Int × (List Rt) × Int × Int × (List Rt) × Int × Int × (List Rt) × Unit) ⊕ (Int × Int × (List Rt) × Int × Int × (List Rt) × Unit)) := fun (list, t, t1, t2, v, v1, v2, v3, v4, v5, v6, v7, xs, _) =>
  cond (decide (t2 < t1))
    ((idx t t2).bind fun e =>
    (L_spec_l08Part_1 list e t t1 t2 list (list.length : Int) 0 v v1 v2 v3 v4 v5 v6 v7 xs).bind fun (list1, t3, t4, t5, v8, v9, v10, v11, v12, v13, v14, v15, xs1, _) =>
    some (.inl (list1, t3, t4, IntKind.i64.wrap (t5 + 1), v8, v9, v10, v11, v12, v13, v14, v15, xs1, ())))
    (some (.inr (v3, v4, v5, v6, v7, xs, ())))
noncomputable def L_spec_l08Part_0 (list : List Int) (t : List Int) (t1 : Int) (t2 : Int) (v : Int) (v1 : Int) (v2 : List Rt) (v3 : Int) (v4 : Int) (v5 : List Rt) (v6 : Int) (v7 : Int) (xs : List Rt) : Option (Int × Int × (List Rt) × Int × Int × (List Rt) × Unit) := whileO S_spec_l08Part_0 (list, t, t1, t2, v, v1, v2, v3, v4, v5, v6, v7, xs, ())
noncomputable def M_spec_l08Part (m : Mx) (list : List Int) : Option Mx :=
  (L_spec_l08Part_0 list list (list.length : Int) 0 m.rows m.cols m.cells 0 0 ([] : List Rt) (list.length : Int) (list.length : Int) ([] : List Rt)).bind fun (_, _, _, v3, v4, xs, _) =>
  some (⟨v3, v4, xs⟩ : Mx)
noncomputable def M_spec_Submatrix (m : Mx) (list : List Int) : Option (Mx × Bool) :=
  (M_spec_MatrixOk m).bind fun r =>
  cond (!r)
    (some ((⟨0, 0, ([] : List Rt)⟩ : Mx), false))
    (cond (m.rows != m.cols)
      (some ((⟨0, 0, ([] : List Rt)⟩ : Mx), false))
      ((M_spec_l08Ascending list m.rows).bind fun r1 =>
      cond (!r1)
        (some ((⟨0, 0, ([] : List Rt)⟩ : Mx), false))
        ((M_spec_l08Part m list).bind fun r2 =>
        some (r2, true))))
end Go.Di
namespace Go.Di
noncomputable def M_laws_FnExactSubmatrix (aM : Mx) (aList : List Int) : Option Bool :=
  cond (decide ((aList.length : Int) > 1048576))
    (some true)
    ((M_laws_szMatrix aM 1048576).bind fun r =>
    cond (decide (r < 0))
      (some true)
      ((M_laws_toMatrix aM).bind fun r1 =>
      (M_laws_toIntS aList).bind fun r2 =>
      (M_spec_Submatrix r1 r2).bind fun (r0, r1_1) =>
      (M_laws_toMatrix aM).bind fun r3 =>
      (M_laws_toIntS aList).bind fun r4 =>
      (M_impl_Submatrix r3 r4).bind fun (r0_1, r1_2) =>
      (M_laws_eqMatrix r0_1 r0).bind fun r5 =>
      cond (!r5)
        (some false)
        (cond (!(r1_2 == r1_1))
          (some false)
          ((M_laws_toMatrix aM).bind fun r6 =>
          (M_laws_eqMatrix r3 r6).bind fun r7 =>
          cond (!r7)
            (some false)
            ((M_laws_toIntS aList).bind fun r8 =>
            (M_laws_eqIntS r4 r8).bind fun r9 =>
            cond (!r9)
              (some false)
              ((M_laws_markMatrix_md r3 1).bind fun (r0_2, _) =>
              (M_laws_markIntS_md r4 r0_2).bind fun (r0_3, _) =>
              cond (decide (r0_3 < 0))
                (some false)
                ((M_laws_eqMatrix r0_1 r0).bind fun r10 =>
                cond (!r10)
                  (some false)
                  (cond (!(r1_2 == r1_1))
                    (some false)
                    ((M_laws_markMatrix_md r0_1 1).bind fun (r0_4, x0_2) =>
                    (M_laws_heldMatrix (⟨r0_1.rows, r0_1.cols, x0_2⟩ : Mx) 1).bind fun r11 =>
                    cond (decide (r11 < 0))
                      (some false)
                      (cond (r11 != r0_4)
                        (some false)
                        ((M_laws_toMatrix aM).bind fun r12 =>
                        (M_laws_toIntS aList).bind fun r13 =>
                        (M_impl_Submatrix r12 r13).bind fun (r0_5, r1_3) =>
                        (M_laws_eqMatrix r0_5 r0).bind fun r14 =>
                        cond (!r14)
                          (some false)
                          (cond (!(r1_3 == r1_1))
                            (some false)
                            ((M_laws_heldMatrix (⟨r0_1.rows, r0_1.cols, x0_2⟩ : Mx) 1).bind fun r15 =>
                            cond (decide (r15 < 0))
                              (some false)
                              (cond (r15 != r0_4)
                                (some false)
                                (some true)))))))))))))))
end Go.Di
