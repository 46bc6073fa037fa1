/-
  Own work: part 8 of the texts that the proof of the given statement leans on.
-/
import Derived.Test.YtkjfphfbpocijaaZE02
/-
  Own work, written by program (gen.py) out of the functions of the given program: what they compute, as plain Lean.
-/
namespace Go.Di
noncomputable def M_laws_FnExactMatrixOf (aRows : Int) (aCols : Int) (aList : List Int) : Option Bool :=
  cond (decide ((aList.length : Int) > 1048576))
    (some true)
    ((M_laws_toIntS aList).bind fun r =>
    (M_spec_MatrixOf aRows aCols r).bind fun r1 =>
    (M_laws_toIntS aList).bind fun r2 =>
    (M_impl_MatrixOf aRows aCols r2).bind fun r3 =>
    (M_laws_eqMatrix r3 r1).bind fun r4 =>
    cond (!r4)
      (some false)
      ((M_laws_toIntS aList).bind fun r5 =>
      (M_laws_eqIntS r2 r5).bind fun r6 =>
      cond (!r6)
        (some false)
        ((M_laws_markIntS_md r2 1).bind fun (r0, _) =>
        cond (decide (r0 < 0))
          (some false)
          ((M_laws_eqMatrix r3 r1).bind fun r7 =>
          cond (!r7)
            (some false)
            ((M_laws_markMatrix_md r3 1).bind fun (r0_1, x0_1) =>
            (M_laws_heldMatrix (⟨r3.rows, r3.cols, x0_1⟩ : Mx) 1).bind fun r8 =>
            cond (decide (r8 < 0))
              (some false)
              (cond (r8 != r0_1)
                (some false)
                ((M_laws_toIntS aList).bind fun r9 =>
                (M_impl_MatrixOf aRows aCols r9).bind fun r10 =>
                (M_laws_eqMatrix r10 r1).bind fun r11 =>
                cond (!r11)
                  (some false)
                  ((M_laws_heldMatrix (⟨r3.rows, r3.cols, x0_1⟩ : Mx) 1).bind fun r12 =>
                  cond (decide (r12 < 0))
                    (some false)
                    (cond (r12 != r0_1)
                      (some false)
                      (some true))))))))))

end Go.Di
