/-
  Own work: part 7 of the texts that the proof of the given statement leans on.
-/
import Derived.Test.YtjdajoianejebaaZE02
/-
  Own work, written by program (gen.py) out of the functions of the given program: what they compute, as plain Lean.
-/
namespace Go.Di
noncomputable def M_laws_FnExactHalfTangent (aX : Rt) (aY : Rt) : Option Bool :=
  (M_laws_szRat aX 1048576).bind fun r =>
  cond (decide (r < 0))
    (some true)
    ((M_laws_szRat aY r).bind fun r1 =>
    cond (decide (r1 < 0))
      (some true)
      ((M_laws_toRat aX).bind fun r2 =>
      (M_laws_toRat aY).bind fun r3 =>
      (M_spec_HalfTangent r2 r3).bind fun r4 =>
      (M_laws_toRat aX).bind fun r5 =>
      (M_laws_toRat aY).bind fun r6 =>
      (M_impl_HalfTangent r5 r6).bind fun r7 =>
      (M_laws_eqRat r7 r4).bind fun r8 =>
      cond (!r8)
        (some false)
        ((M_laws_toRat aX).bind fun r9 =>
        (M_laws_eqRat r5 r9).bind fun r10 =>
        cond (!r10)
          (some false)
          ((M_laws_toRat aY).bind fun r11 =>
          (M_laws_eqRat r6 r11).bind fun r12 =>
          cond (!r12)
            (some false)
            ((M_laws_markRat_md r5 1).bind fun (r0, _, _) =>
            (M_laws_markRat_md r6 r0).bind fun (r0_1, _, _) =>
            cond (decide (r0_1 < 0))
              (some false)
              ((M_laws_eqRat r7 r4).bind fun r13 =>
              cond (!r13)
                (some false)
                ((M_laws_markRat_md r7 1).bind fun (r0_2, x0_2, x1_2) =>
                (M_laws_heldRat (⟨r7.neg, x0_2, x1_2⟩ : Rt) 1).bind fun r14 =>
                cond (decide (r14 < 0))
                  (some false)
                  (cond (r14 != r0_2)
                    (some false)
                    ((M_laws_toRat aX).bind fun r15 =>
                    (M_laws_toRat aY).bind fun r16 =>
                    (M_impl_HalfTangent r15 r16).bind fun r17 =>
                    (M_laws_eqRat r17 r4).bind fun r18 =>
                    cond (!r18)
                      (some false)
                      ((M_laws_heldRat (⟨r7.neg, x0_2, x1_2⟩ : Rt) 1).bind fun r19 =>
                      cond (decide (r19 < 0))
                        (some false)
                        (cond (r19 != r0_2)
                          (some false)
                          (some true))))))))))))

end Go.Di
