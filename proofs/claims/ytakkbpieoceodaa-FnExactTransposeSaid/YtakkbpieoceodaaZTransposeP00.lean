/-
  Own work: part 7 of the texts that the proof of the given statement leans on.
-/
import Derived.Test.YtakkbpieoceodaaZE01
namespace Go.Di
noncomputable def M_laws_FnExactTranspose (aM : Mx) : Option Bool :=
  (M_laws_szMatrix aM 1048576).bind fun r =>
  cond (decide (r < 0))
    (some true)
    ((M_laws_toMatrix aM).bind fun r1 =>
    (M_spec_Transpose r1).bind fun r2 =>
    (M_laws_toMatrix aM).bind fun r3 =>
    (M_impl_Transpose r3).bind fun r4 =>
    (M_laws_eqMatrix r4 r2).bind fun r5 =>
    cond (!r5)
      (some false)
      ((M_laws_toMatrix aM).bind fun r6 =>
      (M_laws_eqMatrix r3 r6).bind fun r7 =>
      cond (!r7)
        (some false)
        ((M_laws_markMatrix_md r3 1).bind fun (r0, _) =>
        cond (decide (r0 < 0))
          (some false)
          ((M_laws_eqMatrix r4 r2).bind fun r8 =>
          cond (!r8)
            (some false)
            ((M_laws_markMatrix_md r4 1).bind fun (r0_1, x0_1) =>
            (M_laws_heldMatrix (⟨r4.rows, r4.cols, x0_1⟩ : Mx) 1).bind fun r9 =>
            cond (decide (r9 < 0))
              (some false)
              (cond (r9 != r0_1)
                (some false)
                ((M_laws_toMatrix aM).bind fun r10 =>
                (M_impl_Transpose r10).bind fun r11 =>
                (M_laws_eqMatrix r11 r2).bind fun r12 =>
                cond (!r12)
                  (some false)
                  ((M_laws_heldMatrix (⟨r4.rows, r4.cols, x0_1⟩ : Mx) 1).bind fun r13 =>
                  cond (decide (r13 < 0))
                    (some false)
                    (cond (r13 != r0_1)
                      (some false)
                      (some true))))))))))
end Go.Di
