/-
  Own work: part 7 of the texts that the proof of the given statement leans on.
-/
import Derived.Test.YtgimphipdnieaaaGreatZE01
namespace Go.Di
noncomputable def M_laws_FnExactDeterminant (aM : Mx) : Option Bool :=
  (M_laws_szMatrix aM 1048576).bind fun r =>
  cond (decide (r < 0))
    (some true)
    ((M_laws_toMatrix aM).bind fun r1 =>
    (M_spec_Determinant r1).bind fun (r0, r1_1) =>
    (M_laws_toMatrix aM).bind fun r2 =>
    (M_impl_Determinant r2).bind fun (r0_1, r1_2) =>
    (M_laws_eqRat r0_1 r0).bind fun r3 =>
    cond (!r3)
      (some false)
      (cond (!(r1_2 == r1_1))
        (some false)
        ((M_laws_toMatrix aM).bind fun r4 =>
        (M_laws_eqMatrix r2 r4).bind fun r5 =>
        cond (!r5)
          (some false)
          ((M_laws_markMatrix_md r2 1).bind fun (r0_2, _) =>
          cond (decide (r0_2 < 0))
            (some false)
            ((M_laws_eqRat r0_1 r0).bind fun r6 =>
            cond (!r6)
              (some false)
              (cond (!(r1_2 == r1_1))
                (some false)
                ((M_laws_markRat_md r0_1 1).bind fun (r0_3, x0_1, x1) =>
                (M_laws_heldRat (⟨r0_1.neg, x0_1, x1⟩ : Rt) 1).bind fun r7 =>
                cond (decide (r7 < 0))
                  (some false)
                  (cond (r7 != r0_3)
                    (some false)
                    ((M_laws_toMatrix aM).bind fun r8 =>
                    (M_impl_Determinant r8).bind fun (r0_4, r1_3) =>
                    (M_laws_eqRat r0_4 r0).bind fun r9 =>
                    cond (!r9)
                      (some false)
                      (cond (!(r1_3 == r1_1))
                        (some false)
                        ((M_laws_heldRat (⟨r0_1.neg, x0_1, x1⟩ : Rt) 1).bind fun r10 =>
                        cond (decide (r10 < 0))
                          (some false)
                          (cond (r10 != r0_3)
                            (some false)
                            (some true)))))))))))))
end Go.Di
