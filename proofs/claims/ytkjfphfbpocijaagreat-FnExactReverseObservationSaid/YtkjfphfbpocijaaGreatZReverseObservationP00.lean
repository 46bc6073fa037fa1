/-
  Own work: part 7 of the texts that the proof of the given statement leans on.
-/
import Derived.Test.YtkjfphfbpocijaaGreatZE01
namespace Go.Di
noncomputable def M_laws_FnExactReverseObservation (aN : Net) (aO : Obs) : Option Bool :=
  (M_laws_szNetwork aN 1048576).bind fun r =>
  cond (decide (r < 0))
    (some true)
    ((M_laws_szObservation aO r).bind fun r1 =>
    cond (decide (r1 < 0))
      (some true)
      ((M_laws_toNetwork aN).bind fun r2 =>
      (M_laws_toObservation aO).bind fun r3 =>
      (M_spec_ReverseObservation r2 r3).bind fun (r0, r1_1) =>
      (M_laws_toNetwork aN).bind fun r4 =>
      (M_laws_toObservation aO).bind fun r5 =>
      (M_impl_ReverseObservation r4 r5).bind fun (r0_1, r1_2) =>
      (M_laws_eqObservation r0_1 r0).bind fun r6 =>
      cond (!r6)
        (some false)
        (cond (!(r1_2 == r1_1))
          (some false)
          ((M_laws_toNetwork aN).bind fun r7 =>
          (M_laws_eqNetwork r4 r7).bind fun r8 =>
          cond (!r8)
            (some false)
            ((M_laws_toObservation aO).bind fun r9 =>
            (M_laws_eqObservation r5 r9).bind fun r10 =>
            cond (!r10)
              (some false)
              ((M_laws_markNetwork_md r4 1).bind fun (r0_2, _) =>
              (M_laws_markObservation_md r5 r0_2).bind fun (r0_3, _, _, _, _) =>
              cond (decide (r0_3 < 0))
                (some false)
                ((M_laws_eqObservation r0_1 r0).bind fun r11 =>
                cond (!r11)
                  (some false)
                  (cond (!(r1_2 == r1_1))
                    (some false)
                    ((M_laws_markObservation_md r0_1 1).bind fun (r0_4, x0_2, x1_1, x2_1, x3_1) =>
                    (M_laws_heldObservation (⟨r0_1.kind, r0_1.frm, r0_1.to, (⟨r0_1.value.neg, x0_2, x1_1⟩ : Rt), (⟨r0_1.variance.neg, x2_1, x3_1⟩ : Rt)⟩ : Obs) 1).bind fun r12 =>
                    cond (decide (r12 < 0))
                      (some false)
                      (cond (r12 != r0_4)
                        (some false)
                        ((M_laws_toNetwork aN).bind fun r13 =>
                        (M_laws_toObservation aO).bind fun r14 =>
                        (M_impl_ReverseObservation r13 r14).bind fun (r0_5, r1_3) =>
                        (M_laws_eqObservation r0_5 r0).bind fun r15 =>
                        cond (!r15)
                          (some false)
                          (cond (!(r1_3 == r1_1))
                            (some false)
                            ((M_laws_heldObservation (⟨r0_1.kind, r0_1.frm, r0_1.to, (⟨r0_1.value.neg, x0_2, x1_1⟩ : Rt), (⟨r0_1.variance.neg, x2_1, x3_1⟩ : Rt)⟩ : Obs) 1).bind fun r16 =>
                            cond (decide (r16 < 0))
                              (some false)
                              (cond (r16 != r0_4)
                                (some false)
                                (some true)))))))))))))))
end Go.Di
