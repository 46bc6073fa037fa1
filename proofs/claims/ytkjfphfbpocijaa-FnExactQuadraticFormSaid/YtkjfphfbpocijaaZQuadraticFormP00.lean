/-
  Own work: part 7 of the texts that the proof of the given statement leans on.
-/
import Derived.Test.YtkjfphfbpocijaaZE01
namespace Go.Di
noncomputable def M_impl_QuadraticForm (m : Mx) (v : List Rt) : Option (Rt × Bool) :=
  (M_impl_ApplyMatrix m v).bind fun (r0, r1) =>
  cond (!r1)
    (some ((⟨false, ([] : List Int), ([] : List Int)⟩ : Rt), false))
    (cond (m.rows != m.cols)
      (some ((⟨false, ([] : List Int), ([] : List Int)⟩ : Rt), false))
      ((M_impl_inner v r0).bind fun r =>
      (M_impl_given_c r).bind fun (r0_1, r1_1) =>
      some (r0_1, r1_1)))
noncomputable def M_spec_QuadraticForm (m : Mx) (v : List Rt) : Option (Rt × Bool) :=
  (M_spec_ApplyMatrix m v).bind fun (r0, r1) =>
  cond (!r1)
    (some ((⟨false, ([] : List Int), ([] : List Int)⟩ : Rt), false))
    (cond (m.rows != m.cols)
      (some ((⟨false, ([] : List Int), ([] : List Int)⟩ : Rt), false))
      ((M_spec_l05Inner v r0).bind fun r =>
      (M_spec_l05Bad r).bind fun r2 =>
      some (r, !r2)))
end Go.Di
namespace Go.Di
noncomputable def M_laws_FnExactQuadraticForm (aM : Mx) (aV : List Rt) : Option Bool :=
  (M_laws_szMatrix aM 1048576).bind fun r =>
  cond (decide (r < 0))
    (some true)
    ((M_laws_szRatS aV r).bind fun r1 =>
    cond (decide (r1 < 0))
      (some true)
      ((M_laws_toMatrix aM).bind fun r2 =>
      (M_laws_toRatS aV).bind fun r3 =>
      (M_spec_QuadraticForm r2 r3).bind fun (r0, r1_1) =>
      (M_laws_toMatrix aM).bind fun r4 =>
      (M_laws_toRatS aV).bind fun r5 =>
      (M_impl_QuadraticForm r4 r5).bind fun (r0_1, r1_2) =>
      (M_laws_eqRat r0_1 r0).bind fun r6 =>
      cond (!r6)
        (some false)
        (cond (!(r1_2 == r1_1))
          (some false)
          ((M_laws_toMatrix aM).bind fun r7 =>
          (M_laws_eqMatrix r4 r7).bind fun r8 =>
          cond (!r8)
            (some false)
            ((M_laws_toRatS aV).bind fun r9 =>
            (M_laws_eqRatS r5 r9).bind fun r10 =>
            cond (!r10)
              (some false)
              ((M_laws_markMatrix_md r4 1).bind fun (r0_2, _) =>
              (M_laws_markRatS_md r5 r0_2).bind fun (r0_3, _) =>
              cond (decide (r0_3 < 0))
                (some false)
                ((M_laws_eqRat r0_1 r0).bind fun r11 =>
                cond (!r11)
                  (some false)
                  (cond (!(r1_2 == r1_1))
                    (some false)
                    ((M_laws_markRat_md r0_1 1).bind fun (r0_4, x0_2, x1) =>
                    (M_laws_heldRat (⟨r0_1.neg, x0_2, x1⟩ : Rt) 1).bind fun r12 =>
                    cond (decide (r12 < 0))
                      (some false)
                      (cond (r12 != r0_4)
                        (some false)
                        ((M_laws_toMatrix aM).bind fun r13 =>
                        (M_laws_toRatS aV).bind fun r14 =>
                        (M_impl_QuadraticForm r13 r14).bind fun (r0_5, r1_3) =>
                        (M_laws_eqRat r0_5 r0).bind fun r15 =>
                        cond (!r15)
                          (some false)
                          (cond (!(r1_3 == r1_1))
                            (some false)
                            ((M_laws_heldRat (⟨r0_1.neg, x0_2, x1⟩ : Rt) 1).bind fun r16 =>
                            cond (decide (r16 < 0))
                              (some false)
                              (cond (r16 != r0_4)
                                (some false)
                                (some true)))))))))))))))
end Go.Di
