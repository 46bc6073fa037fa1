/-
  Own work: part 6 of the texts that the proof of the given statement leans on.
-/
import Derived.Test.YtakkbpieoceodaaZE00
namespace Go.Di
noncomputable def M_laws_FnExactIdentityMatrix (aN : Int) : Option Bool :=
  (M_spec_IdentityMatrix aN).bind fun r =>
  (M_impl_IdentityMatrix aN).bind fun r1 =>
  (M_laws_eqMatrix r1 r).bind fun r2 =>
  cond (!r2)
    (some false)
    ((M_laws_markMatrix_md r1 1).bind fun (r0, x0) =>
    (M_laws_heldMatrix (⟨r1.rows, r1.cols, x0⟩ : Mx) 1).bind fun r3 =>
    cond (decide (r3 < 0))
      (some false)
      (cond (r3 != r0)
        (some false)
        ((M_impl_IdentityMatrix aN).bind fun r4 =>
        (M_laws_eqMatrix r4 r).bind fun r5 =>
        cond (!r5)
          (some false)
          ((M_laws_heldMatrix (⟨r1.rows, r1.cols, x0⟩ : Mx) 1).bind fun r6 =>
          cond (decide (r6 < 0))
            (some false)
            (cond (r6 != r0)
              (some false)
              (some true))))))
end Go.Di
