/-
  Own work: part 7 of the texts that the proof of the given statement leans on.
-/
import Derived.Test.YtcjeodgjnjmemaaZE02
/-
  Own work, written by program (gen.py) out of the functions of the given program: what they compute, as plain Lean.
-/
namespace Go.Di
noncomputable def M_laws_FnExactNameOfUnknown (aN : Net) (aK : Int) : Option Bool :=
  (M_laws_szNetwork aN 1048576).bind fun r =>
  cond (decide (r < 0))
    (some true)
    ((M_laws_toNetwork aN).bind fun r1 =>
    (M_spec_NameOfUnknown r1 aK).bind fun r2 =>
    (M_laws_toNetwork aN).bind fun r3 =>
    (M_impl_NameOfUnknown r3 aK).bind fun r4 =>
    cond (!(strEq r4 r2))
      (some false)
      ((M_laws_toNetwork aN).bind fun r5 =>
      (M_laws_eqNetwork r3 r5).bind fun r6 =>
      cond (!r6)
        (some false)
        (some true)))

end Go.Di
