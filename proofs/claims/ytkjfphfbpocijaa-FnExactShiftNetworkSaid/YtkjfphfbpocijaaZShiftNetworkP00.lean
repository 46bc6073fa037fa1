/-
  Own work: part 7 of the texts that the proof of the given statement leans on.
-/
import Derived.Test.YtkjfphfbpocijaaZE01
namespace Go.Di
noncomputable def M_laws_FnExactShiftNetwork (aN : Net) (aX : Rt) (aY : Rt) : Option Bool :=
  (M_laws_szNetwork aN 1048576).bind fun r =>
  cond (decide (r < 0))
    (some true)
    ((M_laws_szRat aX r).bind fun r1 =>
    cond (decide (r1 < 0))
      (some true)
      ((M_laws_szRat aY r1).bind fun r2 =>
      cond (decide (r2 < 0))
        (some true)
        ((M_laws_toNetwork aN).bind fun r3 =>
        (M_laws_toRat aX).bind fun r4 =>
        (M_laws_toRat aY).bind fun r5 =>
        (M_spec_ShiftNetwork r3 r4 r5).bind fun (r0, r1_1) =>
        (M_laws_toNetwork aN).bind fun r6 =>
        (M_laws_toRat aX).bind fun r7 =>
        (M_laws_toRat aY).bind fun r8 =>
        (M_impl_ShiftNetwork r6 r7 r8).bind fun (r0_1, r1_2) =>
        (M_laws_eqNetwork r0_1 r0).bind fun r9 =>
        cond (!r9)
          (some false)
          (cond (!(r1_2 == r1_1))
            (some false)
            ((M_laws_toNetwork aN).bind fun r10 =>
            (M_laws_eqNetwork r6 r10).bind fun r11 =>
            cond (!r11)
              (some false)
              ((M_laws_toRat aX).bind fun r12 =>
              (M_laws_eqRat r7 r12).bind fun r13 =>
              cond (!r13)
                (some false)
                ((M_laws_toRat aY).bind fun r14 =>
                (M_laws_eqRat r8 r14).bind fun r15 =>
                cond (!r15)
                  (some false)
                  ((M_laws_markNetwork_md r6 1).bind fun (r0_2, _) =>
                  (M_laws_markRat_md r7 r0_2).bind fun (r0_3, _, _) =>
                  (M_laws_markRat_md r8 r0_3).bind fun (r0_4, _, _) =>
                  cond (decide (r0_4 < 0))
                    (some false)
                    ((M_laws_eqNetwork r0_1 r0).bind fun r16 =>
                    cond (!r16)
                      (some false)
                      (cond (!(r1_2 == r1_1))
                        (some false)
                        ((M_laws_markNetwork_md r0_1 1).bind fun (r0_5, x0_3) =>
                        (M_laws_heldNetwork (⟨r0_1.plane, x0_3⟩ : Net) 1).bind fun r17 =>
                        cond (decide (r17 < 0))
                          (some false)
                          (cond (r17 != r0_5)
                            (some false)
                            ((M_laws_toNetwork aN).bind fun r18 =>
                            (M_laws_toRat aX).bind fun r19 =>
                            (M_laws_toRat aY).bind fun r20 =>
                            (M_impl_ShiftNetwork r18 r19 r20).bind fun (r0_6, r1_3) =>
                            (M_laws_eqNetwork r0_6 r0).bind fun r21 =>
                            cond (!r21)
                              (some false)
                              (cond (!(r1_3 == r1_1))
                                (some false)
                                ((M_laws_heldNetwork (⟨r0_1.plane, x0_3⟩ : Net) 1).bind fun r22 =>
                                cond (decide (r22 < 0))
                                  (some false)
                                  (cond (r22 != r0_5)
                                    (some false)
                                    (some true)))))))))))))))))
end Go.Di
