/-
  Own work: part 8 of the texts that the proof of the given statement leans on.
-/
import Derived.Test.YtkjfphfbpocijaaZE02
/-
  Own work, written by program (gen.py) out of the functions of the given program: what they compute, as plain Lean.
-/
namespace Go.Di
noncomputable def M_laws_FnExactWithoutObservations (aList : List Obs) (aSkip : List Int) : Option Bool :=
  cond (decide ((aSkip.length : Int) > 1048576))
    (some true)
    ((M_laws_szObservationS aList 1048576).bind fun r =>
    cond (decide (r < 0))
      (some true)
      ((M_laws_toObservationS aList).bind fun r1 =>
      (M_laws_toIntS aSkip).bind fun r2 =>
      (M_spec_WithoutObservations r1 r2).bind fun r3 =>
      (M_laws_toObservationS aList).bind fun r4 =>
      (M_laws_toIntS aSkip).bind fun r5 =>
      (M_impl_WithoutObservations r4 r5).bind fun r6 =>
      (M_laws_eqObservationS r6 r3).bind fun r7 =>
      cond (!r7)
        (some false)
        ((M_laws_toObservationS aList).bind fun r8 =>
        (M_laws_eqObservationS r4 r8).bind fun r9 =>
        cond (!r9)
          (some false)
          ((M_laws_toIntS aSkip).bind fun r10 =>
          (M_laws_eqIntS r5 r10).bind fun r11 =>
          cond (!r11)
            (some false)
            ((M_laws_markObservationS_md r4 1).bind fun (r0, _) =>
            (M_laws_markIntS_md r5 r0).bind fun (r0_1, _) =>
            cond (decide (r0_1 < 0))
              (some false)
              ((M_laws_eqObservationS r6 r3).bind fun r12 =>
              cond (!r12)
                (some false)
                ((M_laws_markObservationS_md r6 1).bind fun (r0_2, x0_2) =>
                (M_laws_heldObservationS x0_2 1).bind fun r13 =>
                cond (decide (r13 < 0))
                  (some false)
                  (cond (r13 != r0_2)
                    (some false)
                    ((M_laws_toObservationS aList).bind fun r14 =>
                    (M_laws_toIntS aSkip).bind fun r15 =>
                    (M_impl_WithoutObservations r14 r15).bind fun r16 =>
                    (M_laws_eqObservationS r16 r3).bind fun r17 =>
                    cond (!r17)
                      (some false)
                      ((M_laws_heldObservationS x0_2 1).bind fun r18 =>
                      cond (decide (r18 < 0))
                        (some false)
                        (cond (r18 != r0_2)
                          (some false)
                          (some true))))))))))))

end Go.Di
