/-
  Own work: part 7 of the texts that the proof of the given statement leans on.
-/
import Derived.Test.YtjdajoianejebaaZE02
/-
  Own work, written by program (gen.py) out of the functions of the given program: what they compute, as plain Lean.
-/
namespace Go.Di
noncomputable def M_laws_FnExactBookOk (aB : Bk) : Option Bool :=
  (M_laws_szBook aB 1048576).bind fun r =>
  cond (decide (r < 0))
    (some true)
    ((M_laws_toBook aB).bind fun r1 =>
    (M_spec_BookOk r1).bind fun r2 =>
    (M_laws_toBook aB).bind fun r3 =>
    (M_impl_BookOk r3).bind fun r4 =>
    cond (!(r4 == r2))
      (some false)
      ((M_laws_toBook aB).bind fun r5 =>
      (M_laws_eqBook r3 r5).bind fun r6 =>
      cond (!r6)
        (some false)
        (some true)))

end Go.Di
