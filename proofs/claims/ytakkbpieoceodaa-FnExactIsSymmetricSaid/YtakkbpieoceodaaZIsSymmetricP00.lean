/-
  Own work: part 7 of the texts that the proof of the given statement leans on.
-/
import Derived.Test.YtakkbpieoceodaaZE01
namespace Go.Di
noncomputable def M_impl_IsSymmetric (m : Mx) : Option Bool :=
  (M_impl_MatrixOk m).bind fun r =>
  cond r
    ((M_impl_turned m).bind fun r1 =>
    (M_impl_EqualMatrices m r1).bind fun r2 =>
    some r2)
    (some false)
noncomputable def M_spec_IsSymmetric (m : Mx) : Option Bool :=
  (M_spec_MatrixOk m).bind fun r =>
  cond r
    (cond (m.rows == m.cols)
      ((M_spec_l06Transpose m).bind fun r1 =>
      (M_spec_EqualMatrices m r1).bind fun r2 =>
      some r2)
      (some false))
    (some false)
end Go.Di
namespace Go.Di
noncomputable def M_laws_FnExactIsSymmetric (aM : Mx) : Option Bool :=
  (M_laws_szMatrix aM 1048576).bind fun r =>
  cond (decide (r < 0))
    (some true)
    ((M_laws_toMatrix aM).bind fun r1 =>
    (M_spec_IsSymmetric r1).bind fun r2 =>
    (M_laws_toMatrix aM).bind fun r3 =>
    (M_impl_IsSymmetric r3).bind fun r4 =>
    cond (!(r4 == r2))
      (some false)
      ((M_laws_toMatrix aM).bind fun r5 =>
      (M_laws_eqMatrix r3 r5).bind fun r6 =>
      cond (!r6)
        (some false)
        (some true)))
end Go.Di
