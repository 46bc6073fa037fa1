/-
  Own work: part 7 of the texts that the proof of the given statement leans on.
-/
import Derived.Test.YtjdajoianejebaaZE02
/-
  Own work, written by program (gen.py) out of the functions of the given program: what they compute, as plain Lean.
-/
namespace Go.Di
noncomputable def M_laws_FnExactObservationsOk (aN : Net) (aList : List Obs) : Option Bool :=
  (M_laws_szNetwork aN 1048576).bind fun r =>
  cond (decide (r < 0))
    (some true)
    ((M_laws_szObservationS aList r).bind fun r1 =>
    cond (decide (r1 < 0))
      (some true)
      ((M_laws_toNetwork aN).bind fun r2 =>
      (M_laws_toObservationS aList).bind fun r3 =>
      (M_spec_ObservationsOk r2 r3).bind fun r4 =>
      (M_laws_toNetwork aN).bind fun r5 =>
      (M_laws_toObservationS aList).bind fun r6 =>
      (M_impl_ObservationsOk r5 r6).bind fun r7 =>
      cond (!(r7 == r4))
        (some false)
        ((M_laws_toNetwork aN).bind fun r8 =>
        (M_laws_eqNetwork r5 r8).bind fun r9 =>
        cond (!r9)
          (some false)
          ((M_laws_toObservationS aList).bind fun r10 =>
          (M_laws_eqObservationS r6 r10).bind fun r11 =>
          cond (!r11)
            (some false)
            (some true)))))

end Go.Di
