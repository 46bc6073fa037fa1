/-
  Own work: part 7 of the texts that the proof of the given statement leans on.
-/
import Derived.Test.YtjdajoianejebaaZE02
/-
  Own work, written by program (gen.py) out of the functions of the given program: what they compute, as plain Lean.
-/
namespace Go.Di
noncomputable def M_laws_FnExactUnitOf (aT : Rt) : Option Bool :=
  (M_laws_szRat aT 1048576).bind fun r =>
  cond (decide (r < 0))
    (some true)
    ((M_laws_toRat aT).bind fun r1 =>
    (M_spec_UnitOf r1).bind fun (r0, r1_1) =>
    (M_laws_toRat aT).bind fun r2 =>
    (M_impl_UnitOf r2).bind fun (r0_1, r1_2) =>
    (M_laws_eqRat r0_1 r0).bind fun r3 =>
    cond (!r3)
      (some false)
      ((M_laws_eqRat r1_2 r1_1).bind fun r4 =>
      cond (!r4)
        (some false)
        ((M_laws_toRat aT).bind fun r5 =>
        (M_laws_eqRat r2 r5).bind fun r6 =>
        cond (!r6)
          (some false)
          ((M_laws_markRat_md r2 1).bind fun (r0_2, _, _) =>
          cond (decide (r0_2 < 0))
            (some false)
            ((M_laws_eqRat r0_1 r0).bind fun r7 =>
            cond (!r7)
              (some false)
              ((M_laws_eqRat r1_2 r1_1).bind fun r8 =>
              cond (!r8)
                (some false)
                ((M_laws_markRat_md r0_1 1).bind fun (r0_3, x0_1, x1_1) =>
                (M_laws_markRat_md r1_2 r0_3).bind fun (r0_4, x0_2, x1_2) =>
                (M_laws_heldRat (⟨r0_1.neg, x0_1, x1_1⟩ : Rt) 1).bind fun r9 =>
                cond (decide (r9 < 0))
                  (some false)
                  ((M_laws_heldRat (⟨r1_2.neg, x0_2, x1_2⟩ : Rt) r9).bind fun r10 =>
                  cond (decide (r10 < 0))
                    (some false)
                    (cond (r10 != r0_4)
                      (some false)
                      ((M_laws_toRat aT).bind fun r11 =>
                      (M_impl_UnitOf r11).bind fun (r0_5, r1_3) =>
                      (M_laws_eqRat r0_5 r0).bind fun r12 =>
                      cond (!r12)
                        (some false)
                        ((M_laws_eqRat r1_3 r1_1).bind fun r13 =>
                        cond (!r13)
                          (some false)
                          ((M_laws_heldRat (⟨r0_1.neg, x0_1, x1_1⟩ : Rt) 1).bind fun r14 =>
                          cond (decide (r14 < 0))
                            (some false)
                            ((M_laws_heldRat (⟨r1_2.neg, x0_2, x1_2⟩ : Rt) r14).bind fun r15 =>
                            cond (decide (r15 < 0))
                              (some false)
                              (cond (r15 != r0_4)
                                (some false)
                                (some true)))))))))))))))

end Go.Di
