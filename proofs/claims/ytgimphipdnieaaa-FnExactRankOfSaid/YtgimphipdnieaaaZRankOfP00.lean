/-
  Own work: part 7 of the texts that the proof of the given statement leans on.
-/
import Derived.Test.YtgimphipdnieaaaZE01
namespace Go.Di
noncomputable def M_laws_FnExactRankOf (aM : Mx) : Option Bool :=
  (M_laws_szMatrix aM 1048576).bind fun r =>
  cond (decide (r < 0))
    (some true)
    ((M_laws_toMatrix aM).bind fun r1 =>
    (M_spec_RankOf r1).bind fun r2 =>
    (M_laws_toMatrix aM).bind fun r3 =>
    (M_impl_RankOf r3).bind fun r4 =>
    cond (r4 != r2)
      (some false)
      ((M_laws_toMatrix aM).bind fun r5 =>
      (M_laws_eqMatrix r3 r5).bind fun r6 =>
      cond (!r6)
        (some false)
        (some true)))
end Go.Di
