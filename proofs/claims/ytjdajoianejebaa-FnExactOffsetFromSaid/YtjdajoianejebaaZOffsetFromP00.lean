/-
  Own work: part 7 of the texts that the proof of the given statement leans on.
-/
import Derived.Test.YtjdajoianejebaaZE02
/-
  Own work, written by program (gen.py) out of the functions of the given program: what they compute, as plain Lean.
-/
namespace Go.Di
noncomputable def M_laws_FnExactOffsetFrom (aT : Rt) (aX : Rt) (aY : Rt) : Option Bool :=
  (M_laws_szRat aT 1048576).bind fun r =>
  cond (decide (r < 0))
    (some true)
    ((M_laws_szRat aX r).bind fun r1 =>
    cond (decide (r1 < 0))
      (some true)
      ((M_laws_szRat aY r1).bind fun r2 =>
      cond (decide (r2 < 0))
        (some true)
        ((M_laws_toRat aT).bind fun r3 =>
        (M_laws_toRat aX).bind fun r4 =>
        (M_laws_toRat aY).bind fun r5 =>
        (M_spec_OffsetFrom r3 r4 r5).bind fun r6 =>
        (M_laws_toRat aT).bind fun r7 =>
        (M_laws_toRat aX).bind fun r8 =>
        (M_laws_toRat aY).bind fun r9 =>
        (M_impl_OffsetFrom r7 r8 r9).bind fun r10 =>
        (M_laws_eqRat r10 r6).bind fun r11 =>
        cond (!r11)
          (some false)
          ((M_laws_toRat aT).bind fun r12 =>
          (M_laws_eqRat r7 r12).bind fun r13 =>
          cond (!r13)
            (some false)
            ((M_laws_toRat aX).bind fun r14 =>
            (M_laws_eqRat r8 r14).bind fun r15 =>
            cond (!r15)
              (some false)
              ((M_laws_toRat aY).bind fun r16 =>
              (M_laws_eqRat r9 r16).bind fun r17 =>
              cond (!r17)
                (some false)
                ((M_laws_markRat_md r7 1).bind fun (r0, _, _) =>
                (M_laws_markRat_md r8 r0).bind fun (r0_1, _, _) =>
                (M_laws_markRat_md r9 r0_1).bind fun (r0_2, _, _) =>
                cond (decide (r0_2 < 0))
                  (some false)
                  ((M_laws_eqRat r10 r6).bind fun r18 =>
                  cond (!r18)
                    (some false)
                    ((M_laws_markRat_md r10 1).bind fun (r0_3, x0_3, x1_3) =>
                    (M_laws_heldRat (⟨r10.neg, x0_3, x1_3⟩ : Rt) 1).bind fun r19 =>
                    cond (decide (r19 < 0))
                      (some false)
                      (cond (r19 != r0_3)
                        (some false)
                        ((M_laws_toRat aT).bind fun r20 =>
                        (M_laws_toRat aX).bind fun r21 =>
                        (M_laws_toRat aY).bind fun r22 =>
                        (M_impl_OffsetFrom r20 r21 r22).bind fun r23 =>
                        (M_laws_eqRat r23 r6).bind fun r24 =>
                        cond (!r24)
                          (some false)
                          ((M_laws_heldRat (⟨r10.neg, x0_3, x1_3⟩ : Rt) 1).bind fun r25 =>
                          cond (decide (r25 < 0))
                            (some false)
                            (cond (r25 != r0_3)
                              (some false)
                              (some true))))))))))))))

end Go.Di
