/-
  Own work: part 7 of the texts that the proof of the given statement leans on.
-/
import Derived.Test.YtcjeodgjnjmemaaZE02
/-
  Own work, written by program (gen.py) out of the functions of the given program: what they compute, as plain Lean.
-/
namespace Go.Di
noncomputable def M_laws_FnExactRootBelow (aR : Rt) : Option Bool :=
  (M_laws_szRat aR 1048576).bind fun r =>
  cond (decide (r < 0))
    (some true)
    ((M_laws_toRat aR).bind fun r1 =>
    (M_spec_RootBelow r1).bind fun r2 =>
    (M_laws_toRat aR).bind fun r3 =>
    (M_impl_RootBelow r3).bind fun r4 =>
    (M_laws_eqRat r4 r2).bind fun r5 =>
    cond (!r5)
      (some false)
      ((M_laws_toRat aR).bind fun r6 =>
      (M_laws_eqRat r3 r6).bind fun r7 =>
      cond (!r7)
        (some false)
        ((M_laws_markRat_md r3 1).bind fun (r0, x0, x1) =>
        cond (decide (r0 < 0))
          (some false)
          ((M_laws_eqRat r4 r2).bind fun r8 =>
          cond (!r8)
            (some false)
            ((M_laws_markRat_md r4 1).bind fun (r0_1, x0_1, x1_1) =>
            (M_laws_heldRat (⟨r4.neg, x0_1, x1_1⟩ : Rt) 1).bind fun r9 =>
            cond (decide (r9 < 0))
              (some false)
              (cond (r9 != r0_1)
                (some false)
                ((M_laws_toRat aR).bind fun r10 =>
                (M_impl_RootBelow r10).bind fun r11 =>
                (M_laws_eqRat r11 r2).bind fun r12 =>
                cond (!r12)
                  (some false)
                  ((M_laws_heldRat (⟨r4.neg, x0_1, x1_1⟩ : Rt) 1).bind fun r13 =>
                  cond (decide (r13 < 0))
                    (some false)
                    (cond (r13 != r0_1)
                      (some false)
                      (some true))))))))))

end Go.Di
