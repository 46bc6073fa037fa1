/-
  Own work: part 9 of the texts that the proof of the given statement leans on.
-/
import Derived.Test.YtjdajoianejebaaZBookOkP01
/-
  Own work, written by program (gen.py) out of the functions of the given program: what they compute, as plain Lean.
-/
namespace Go.Di
noncomputable def M_laws_FnExactMatrixOk (aM : Mx) : Option Bool :=
  (M_laws_szMatrix aM 1048576).bind fun r =>
  cond (decide (r < 0))
    (some true)
    ((M_laws_toMatrix aM).bind fun r1 =>
    (M_spec_MatrixOk r1).bind fun r2 =>
    (M_laws_toMatrix aM).bind fun r3 =>
    (M_impl_MatrixOk r3).bind fun r4 =>
    cond (!(r4 == r2))
      (some false)
      ((M_laws_toMatrix aM).bind fun r5 =>
      (M_laws_eqMatrix r3 r5).bind fun r6 =>
      cond (!r6)
        (some false)
        (some true)))

end Go.Di
/-
  Own work, written by program (gen.py) out of the functions of the given program: what they compute, as plain Lean.
-/
namespace Go.Di
noncomputable def M_laws_FnExactStationOk (aS : Sta) (aPlane : Bool) : Option Bool :=
  (M_laws_szStation aS 1048576).bind fun r =>
  cond (decide (r < 0))
    (some true)
    ((M_laws_toStation aS).bind fun r1 =>
    (M_spec_StationOk r1 aPlane).bind fun r2 =>
    (M_laws_toStation aS).bind fun r3 =>
    (M_impl_StationOk r3 aPlane).bind fun r4 =>
    cond (!(r4 == r2))
      (some false)
      ((M_laws_toStation aS).bind fun r5 =>
      (M_laws_eqStation r3 r5).bind fun r6 =>
      cond (!r6)
        (some false)
        (some true)))

end Go.Di
/-
  Own work, written by program (gen.py) out of the functions of the given program: what they compute, as plain Lean.
-/
namespace Go.Di
noncomputable def M_laws_FnExactNetworkOk (aN : Net) : Option Bool :=
  (M_laws_szNetwork aN 1048576).bind fun r =>
  cond (decide (r < 0))
    (some true)
    ((M_laws_toNetwork aN).bind fun r1 =>
    (M_spec_NetworkOk r1).bind fun r2 =>
    (M_laws_toNetwork aN).bind fun r3 =>
    (M_impl_NetworkOk r3).bind fun r4 =>
    cond (!(r4 == r2))
      (some false)
      ((M_laws_toNetwork aN).bind fun r5 =>
      (M_laws_eqNetwork r3 r5).bind fun r6 =>
      cond (!r6)
        (some false)
        (some true)))

end Go.Di
/-
  Own work, written by program (gen.py) out of the functions of the given program: what they compute, as plain Lean.
-/
namespace Go.Di
noncomputable def M_laws_FnExactRootOfNat (aA : List Int) : Option Bool :=
  cond (decide ((aA.length : Int) > 1048576))
    (some true)
    ((M_laws_toIntS aA).bind fun r =>
    (M_spec_RootOfNat r).bind fun r1 =>
    (M_laws_toIntS aA).bind fun r2 =>
    (M_impl_RootOfNat r2).bind fun r3 =>
    (M_laws_eqIntS r3 r1).bind fun r4 =>
    cond (!r4)
      (some false)
      ((M_laws_toIntS aA).bind fun r5 =>
      (M_laws_eqIntS r2 r5).bind fun r6 =>
      cond (!r6)
        (some false)
        ((M_laws_markIntS_md r2 1).bind fun (r0, _) =>
        cond (decide (r0 < 0))
          (some false)
          ((M_laws_eqIntS r3 r1).bind fun r7 =>
          cond (!r7)
            (some false)
            ((M_laws_markIntS_md r3 1).bind fun (r0_1, x0_1) =>
            (M_laws_heldIntS x0_1 1).bind fun r8 =>
            cond (decide (r8 < 0))
              (some false)
              (cond (r8 != r0_1)
                (some false)
                ((M_laws_toIntS aA).bind fun r9 =>
                (M_impl_RootOfNat r9).bind fun r10 =>
                (M_laws_eqIntS r10 r1).bind fun r11 =>
                cond (!r11)
                  (some false)
                  ((M_laws_heldIntS x0_1 1).bind fun r12 =>
                  cond (decide (r12 < 0))
                    (some false)
                    (cond (r12 != r0_1)
                      (some false)
                      (some true))))))))))

end Go.Di
/-
  Own work. Given statements on stations, matrices, networks that are valid, and on roots, as plain laws.
-/
namespace Go.Di

/-- A measure of a statement's argument: too great, or what fits goes on. -/
theorem sz_then {x : Option Int} {left : Int} {n : Nat} {k : Int → Option Bool} (h : SzR x left n) (hk : ∀ r : Int, 0 ≤ r → r + n = left → k r = some true) :
    (x.bind fun r => cond (decide (r < 0)) (some true) (k r)) = some true := by
  rcases h with rfl | ⟨r, h0, h1, rfl⟩
  · rfl
  · have : decide (r < 0) = false := by simpa using h0
    simp only [Option.bind_some, this, cond_false, hk r h0 h1]

theorem law_MatrixOk (m : Mx) (h : CK.wf (.sl .rat) m.cells) : M_laws_FnExactMatrixOk m = some true := by
  unfold M_laws_FnExactMatrixOk
  refine sz_then (sz_mx h (by omega) (by omega)) fun r h0 h1 => ?_
  have f : lfit Rt.fit m.cells := lfit_of (f := Rt.sz) (fun x => Rt.fit_of) (by omega)
  simp [to_mx f, spec_mxOk f, impl_mxOk f, eq_mx f]
theorem law_StationOk (s : Sta) (plane : Bool) (hn : CK.wf .str s.name) (h1 : CK.wf (.sl .int) s.x.mag) (h2 : CK.wf (.sl .int) s.x.den) (h3 : CK.wf (.sl .int) s.y.mag) (h4 : CK.wf (.sl .int) s.y.den) : M_laws_FnExactStationOk s plane = some true := by
  unfold M_laws_FnExactStationOk
  refine sz_then (sz_sta (s := s) ⟨hn, ⟨h1, h2⟩, h3, h4⟩ (by omega) (by omega)) fun r h0 h1 => ?_
  have f : s.fitN := Sta.fitN_of (by omega)
  simp [to_sta f.1, spec_staOk plane f.1 f.2, impl_staOk plane f.1, eq_sta f.1]
theorem law_NetworkOk (n : Net) (h : CK.wf (.sl .sta) n.stations) : M_laws_FnExactNetworkOk n = some true := by
  unfold M_laws_FnExactNetworkOk
  refine sz_then (sz_net h (by omega) (by omega)) fun r h0 h1 => ?_
  have f : lfit Sta.fitN n.stations := lfit_of (f := Sta.sz) (fun x => Sta.fitN_of) (by omega)
  have f' := fitN_fit f
  simp [to_net f', spec_netOk f, impl_netOk f', eq_net f']

theorem law_RootOfNat (a : List Int) (_ : CK.wf (.sl .int) a) : M_laws_FnExactRootOfNat a = some true := by
  unfold M_laws_FnExactRootOfNat
  cases hc : decide ((a.length : Int) > 1048576) with
  | true => rfl
  | false =>
    have hl : a.length ≤ 1048576 := by have := of_decide_eq_false hc; omega
    simp only [cond_false]
    have hs := spec_rootOf hl
    have hi := impl_rootOf hl
    have hrl : (cond (pB (NatOk a)) (dg (rootN (nv a).toNat)) []).length ≤ 1048576 := by
      by_cases hk : NatOk a
      · rw [pB_iff.2 hk, cond_true]
        have := root_len (a := (nv a).toNat)
        rw [← hk.1.dg] at this
        have := hk.2
        omega
      · rw [pB_not.2 hk]; simp
    generalize cond (pB (NatOk a)) (dg (rootN (nv a).toNat)) [] = w at *
    have m1 := mark_ints (a := a) (k := 1) hl (by omega) (by omega)
    have m2 := mark_ints (a := w) (k := 1) hrl (by omega) (by omega)
    have e1 := held_ints (k := 1) (n := w.length) hrl (by omega) (by omega)
    have n1 : decide ((1 : Int) + (a.length : Int) < 0) = false := decide_eq_false (by omega)
    have n2 : decide ((1 : Int) + (w.length : Int) < 0) = false := decide_eq_false (by omega)
    have n3 : ((1 : Int) + (w.length : Int) != 1 + (w.length : Int)) = false := by simp
    simp only [to_ints hl, hs, hi, Option.bind_some, eq_ints hrl, eq_ints hl, eqB_self, Bool.not_true, cond_false, m1, m2, e1, n1, n2, n3]
end Go.Di
/-
  Own work, written by program (gen.py) out of the functions of the given program: what they compute, as plain Lean.
-/
namespace Go.Di
noncomputable def M_laws_FnExactRoundTo (aR : Rt) (aN : Int) : Option Bool :=
  (M_laws_szRat aR 1048576).bind fun r =>
  cond (decide (r < 0))
    (some true)
    ((M_laws_toRat aR).bind fun r1 =>
    (M_spec_RoundTo r1 aN).bind fun r2 =>
    (M_laws_toRat aR).bind fun r3 =>
    (M_impl_RoundTo r3 aN).bind fun r4 =>
    (M_laws_eqRat r4 r2).bind fun r5 =>
    cond (!r5)
      (some false)
      ((M_laws_toRat aR).bind fun r6 =>
      (M_laws_eqRat r3 r6).bind fun r7 =>
      cond (!r7)
        (some false)
        ((M_laws_markRat_md r3 1).bind fun (r0, _, _) =>
        cond (decide (r0 < 0))
          (some false)
          ((M_laws_eqRat r4 r2).bind fun r8 =>
          cond (!r8)
            (some false)
            ((M_laws_markRat_md r4 1).bind fun (r0_1, x0_1, x1_1) =>
            (M_laws_heldRat (⟨r4.neg, x0_1, x1_1⟩ : Rt) 1).bind fun r9 =>
            cond (decide (r9 < 0))
              (some false)
              (cond (r9 != r0_1)
                (some false)
                ((M_laws_toRat aR).bind fun r10 =>
                (M_impl_RoundTo r10 aN).bind fun r11 =>
                (M_laws_eqRat r11 r2).bind fun r12 =>
                cond (!r12)
                  (some false)
                  ((M_laws_heldRat (⟨r4.neg, x0_1, x1_1⟩ : Rt) 1).bind fun r13 =>
                  cond (decide (r13 < 0))
                    (some false)
                    (cond (r13 != r0_1)
                      (some false)
                      (some true))))))))))

end Go.Di
/-
  Own work, written by program (gen.py) out of the functions of the given program: what they compute, as plain Lean.
-/
namespace Go.Di
noncomputable def M_laws_FnExactRootBelow (aR : Rt) : Option Bool :=
  (M_laws_szRat aR 1048576).bind fun r =>
  cond (decide (r < 0))
    (some true)
    ((M_laws_toRat aR).bind fun r1 =>
    (M_spec_RootBelow r1).bind fun r2 =>
    (M_laws_toRat aR).bind fun r3 =>
    (M_impl_RootBelow r3).bind fun r4 =>
    (M_laws_eqRat r4 r2).bind fun r5 =>
    cond (!r5)
      (some false)
      ((M_laws_toRat aR).bind fun r6 =>
      (M_laws_eqRat r3 r6).bind fun r7 =>
      cond (!r7)
        (some false)
        ((M_laws_markRat_md r3 1).bind fun (r0, _, _) =>
        cond (decide (r0 < 0))
          (some false)
          ((M_laws_eqRat r4 r2).bind fun r8 =>
          cond (!r8)
            (some false)
            ((M_laws_markRat_md r4 1).bind fun (r0_1, x0_1, x1_1) =>
            (M_laws_heldRat (⟨r4.neg, x0_1, x1_1⟩ : Rt) 1).bind fun r9 =>
            cond (decide (r9 < 0))
              (some false)
              (cond (r9 != r0_1)
                (some false)
                ((M_laws_toRat aR).bind fun r10 =>
                (M_impl_RootBelow r10).bind fun r11 =>
                (M_laws_eqRat r11 r2).bind fun r12 =>
                cond (!r12)
                  (some false)
                  ((M_laws_heldRat (⟨r4.neg, x0_1, x1_1⟩ : Rt) 1).bind fun r13 =>
                  cond (decide (r13 < 0))
                    (some false)
                    (cond (r13 != r0_1)
                      (some false)
                      (some true))))))))))

end Go.Di
/-
  Own work, written by program (gen.py) out of the functions of the given program: what they compute, as plain Lean.
-/
namespace Go.Di
noncomputable def M_laws_FnExactCorrectReading (aReading : Rt) (aConstant : Rt) (aMillionths : Rt) : Option Bool :=
  (M_laws_szRat aReading 1048576).bind fun r =>
  cond (decide (r < 0))
    (some true)
    ((M_laws_szRat aConstant r).bind fun r1 =>
    cond (decide (r1 < 0))
      (some true)
      ((M_laws_szRat aMillionths r1).bind fun r2 =>
      cond (decide (r2 < 0))
        (some true)
        ((M_laws_toRat aReading).bind fun r3 =>
        (M_laws_toRat aConstant).bind fun r4 =>
        (M_laws_toRat aMillionths).bind fun r5 =>
        (M_spec_CorrectReading r3 r4 r5).bind fun r6 =>
        (M_laws_toRat aReading).bind fun r7 =>
        (M_laws_toRat aConstant).bind fun r8 =>
        (M_laws_toRat aMillionths).bind fun r9 =>
        (M_impl_CorrectReading r7 r8 r9).bind fun r10 =>
        (M_laws_eqRat r10 r6).bind fun r11 =>
        cond (!r11)
          (some false)
          ((M_laws_toRat aReading).bind fun r12 =>
          (M_laws_eqRat r7 r12).bind fun r13 =>
          cond (!r13)
            (some false)
            ((M_laws_toRat aConstant).bind fun r14 =>
            (M_laws_eqRat r8 r14).bind fun r15 =>
            cond (!r15)
              (some false)
              ((M_laws_toRat aMillionths).bind fun r16 =>
              (M_laws_eqRat r9 r16).bind fun r17 =>
              cond (!r17)
                (some false)
                ((M_laws_markRat_md r7 1).bind fun (r0, _, _) =>
                (M_laws_markRat_md r8 r0).bind fun (r0_1, _, _) =>
                (M_laws_markRat_md r9 r0_1).bind fun (r0_2, _, _) =>
                cond (decide (r0_2 < 0))
                  (some false)
                  ((M_laws_eqRat r10 r6).bind fun r18 =>
                  cond (!r18)
                    (some false)
                    ((M_laws_markRat_md r10 1).bind fun (r0_3, x0_3, x1_3) =>
                    (M_laws_heldRat (⟨r10.neg, x0_3, x1_3⟩ : Rt) 1).bind fun r19 =>
                    cond (decide (r19 < 0))
                      (some false)
                      (cond (r19 != r0_3)
                        (some false)
                        ((M_laws_toRat aReading).bind fun r20 =>
                        (M_laws_toRat aConstant).bind fun r21 =>
                        (M_laws_toRat aMillionths).bind fun r22 =>
                        (M_impl_CorrectReading r20 r21 r22).bind fun r23 =>
                        (M_laws_eqRat r23 r6).bind fun r24 =>
                        cond (!r24)
                          (some false)
                          ((M_laws_heldRat (⟨r10.neg, x0_3, x1_3⟩ : Rt) 1).bind fun r25 =>
                          cond (decide (r25 < 0))
                            (some false)
                            (cond (r25 != r0_3)
                              (some false)
                              (some true))))))))))))))

end Go.Di
/-
  Own work, written by program (gen.py) out of the functions of the given program: what they compute, as plain Lean.
-/
namespace Go.Di
noncomputable def M_laws_FnExactCountUnknowns (aN : Net) : Option Bool :=
  (M_laws_szNetwork aN 1048576).bind fun r =>
  cond (decide (r < 0))
    (some true)
    ((M_laws_toNetwork aN).bind fun r1 =>
    (M_spec_CountUnknowns r1).bind fun r2 =>
    (M_laws_toNetwork aN).bind fun r3 =>
    (M_impl_CountUnknowns r3).bind fun r4 =>
    cond (r4 != r2)
      (some false)
      ((M_laws_toNetwork aN).bind fun r5 =>
      (M_laws_eqNetwork r3 r5).bind fun r6 =>
      cond (!r6)
        (some false)
        (some true)))

end Go.Di
/-
  Own work, written by program (gen.py) out of the functions of the given program: what they compute, as plain Lean.
-/
namespace Go.Di
noncomputable def M_laws_FnExactUnknownOf (aN : Net) (aStation : Int) : Option Bool :=
  (M_laws_szNetwork aN 1048576).bind fun r =>
  cond (decide (r < 0))
    (some true)
    ((M_laws_toNetwork aN).bind fun r1 =>
    (M_spec_UnknownOf r1 aStation).bind fun r2 =>
    (M_laws_toNetwork aN).bind fun r3 =>
    (M_impl_UnknownOf r3 aStation).bind fun r4 =>
    cond (r4 != r2)
      (some false)
      ((M_laws_toNetwork aN).bind fun r5 =>
      (M_laws_eqNetwork r3 r5).bind fun r6 =>
      cond (!r6)
        (some false)
        (some true)))

end Go.Di
/-
  Own work, written by program (gen.py) out of the functions of the given program: what they compute, as plain Lean.
-/
namespace Go.Di
noncomputable def M_laws_FnExactNameOfUnknown (aN : Net) (aK : Int) : Option Bool :=
  (M_laws_szNetwork aN 1048576).bind fun r =>
  cond (decide (r < 0))
    (some true)
    ((M_laws_toNetwork aN).bind fun r1 =>
    (M_spec_NameOfUnknown r1 aK).bind fun r2 =>
    (M_laws_toNetwork aN).bind fun r3 =>
    (M_impl_NameOfUnknown r3 aK).bind fun r4 =>
    cond (!(strEq r4 r2))
      (some false)
      ((M_laws_toNetwork aN).bind fun r5 =>
      (M_laws_eqNetwork r3 r5).bind fun r6 =>
      cond (!r6)
        (some false)
        (some true)))

end Go.Di
/-
  Own work, written by program (gen.py) out of the functions of the given program: what they compute, as plain Lean.
-/
namespace Go.Di
noncomputable def M_laws_FnExactObservationOk (aN : Net) (aO : Obs) : Option Bool :=
  (M_laws_szNetwork aN 1048576).bind fun r =>
  cond (decide (r < 0))
    (some true)
    ((M_laws_szObservation aO r).bind fun r1 =>
    cond (decide (r1 < 0))
      (some true)
      ((M_laws_toNetwork aN).bind fun r2 =>
      (M_laws_toObservation aO).bind fun r3 =>
      (M_spec_ObservationOk r2 r3).bind fun r4 =>
      (M_laws_toNetwork aN).bind fun r5 =>
      (M_laws_toObservation aO).bind fun r6 =>
      (M_impl_ObservationOk r5 r6).bind fun r7 =>
      cond (!(r7 == r4))
        (some false)
        ((M_laws_toNetwork aN).bind fun r8 =>
        (M_laws_eqNetwork r5 r8).bind fun r9 =>
        cond (!r9)
          (some false)
          ((M_laws_toObservation aO).bind fun r10 =>
          (M_laws_eqObservation r6 r10).bind fun r11 =>
          cond (!r11)
            (some false)
            (some true)))))

end Go.Di
/-
  Own work. Given statements on roundings, roots, readings, unknowns, observations, as plain laws.
-/
namespace Go.Di

theorem wf_rat {r : Rt} (h1 : CK.wf (.sl .int) r.mag) (h2 : CK.wf (.sl .int) r.den) : r.wf := ⟨h1, h2⟩

theorem law_RoundTo (r : Rt) (n : Int) (h1 : CK.wf (.sl .int) r.mag) (h2 : CK.wf (.sl .int) r.den) : M_laws_FnExactRoundTo r n = some true := by
  unfold M_laws_FnExactRoundTo
  refine sz_then (sz_rat (wf_rat h1 h2) (by omega) (by omega)) fun l l0 l1 => ?_
  have f : r.fit := Rt.fit_of (by omega)
  obtain ⟨o, ok, hs, hi⟩ := round_both f n
  have fo := ro_fit ok
  have fo1 := fo.1
  have fo2 := fo.2
  simp (disch := omega) only [to_rat f, hs, hi, Option.bind_some, eq_rat fo, eq_rat f, eqB_self, Bool.not_true, cond_false, mark_rat f, mark_rat fo, held_rat, dneg, bneSelf]
theorem law_RootBelow (r : Rt) (h1 : CK.wf (.sl .int) r.mag) (h2 : CK.wf (.sl .int) r.den) : M_laws_FnExactRootBelow r = some true := by
  unfold M_laws_FnExactRootBelow
  refine sz_then (sz_rat (wf_rat h1 h2) (by omega) (by omega)) fun l l0 l1 => ?_
  have f : r.fit := Rt.fit_of (by omega)
  obtain ⟨o, ok, hs, hi⟩ := rb_both f
  have fo := ro_fit ok
  have fo1 := fo.1
  have fo2 := fo.2
  simp (disch := omega) only [to_rat f, hs, hi, Option.bind_some, eq_rat fo, eq_rat f, eqB_self, Bool.not_true, cond_false, mark_rat f, mark_rat fo, held_rat, dneg, bneSelf]
theorem law_CorrectReading (a b c : Rt) (h1 : CK.wf (.sl .int) a.mag) (h2 : CK.wf (.sl .int) a.den) (h3 : CK.wf (.sl .int) b.mag) (h4 : CK.wf (.sl .int) b.den) (h5 : CK.wf (.sl .int) c.mag) (h6 : CK.wf (.sl .int) c.den) : M_laws_FnExactCorrectReading a b c = some true := by
  unfold M_laws_FnExactCorrectReading
  refine sz_then (sz_rat (wf_rat h1 h2) (by omega) (by omega)) fun l l0 l1 => sz_then (sz_rat (wf_rat h3 h4) l0 (by omega)) fun l' l0' l1' => sz_then (sz_rat (wf_rat h5 h6) l0' (by omega)) fun l'' l0'' l1'' => ?_
  have fa : a.fit := Rt.fit_of (by omega)
  have fb : b.fit := Rt.fit_of (by omega)
  have fc : c.fit := Rt.fit_of (by omega)
  have a1 := fa.1
  have a2 := fa.2
  have b1 := fb.1
  have b2 := fb.2
  have c1 := fc.1
  have c2 := fc.2
  obtain ⟨o, ok, hs, hi⟩ := cr_both fa fb fc
  have fo := ro_fit ok
  have fo1 := fo.1
  have fo2 := fo.2
  simp (disch := omega) only [to_rat fa, to_rat fb, to_rat fc, hs, hi, Option.bind_some, eq_rat fo, eq_rat fa, eq_rat fb, eq_rat fc, eqB_self, Bool.not_true, cond_false, mark_rat fa, mark_rat fb, mark_rat fc, mark_rat fo, held_rat, dneg, bneSelf]
theorem law_CountUnknowns (n : Net) (h : CK.wf (.sl .sta) n.stations) : M_laws_FnExactCountUnknowns n = some true := by
  unfold M_laws_FnExactCountUnknowns
  refine sz_then (sz_net h (by omega) (by omega)) fun r h0 h1 => ?_
  have f : lfit Sta.fitN n.stations := lfit_of (f := Sta.sz) (fun x => Sta.fitN_of) (by omega)
  have f' := fitN_fit f
  simp [to_net f', spec_countU f, impl_countU f, eq_net f']
theorem law_UnknownOf (n : Net) (s : Int) (h : CK.wf (.sl .sta) n.stations) : M_laws_FnExactUnknownOf n s = some true := by
  unfold M_laws_FnExactUnknownOf
  refine sz_then (sz_net h (by omega) (by omega)) fun r h0 h1 => ?_
  have f : lfit Sta.fitN n.stations := lfit_of (f := Sta.sz) (fun x => Sta.fitN_of) (by omega)
  have f' := fitN_fit f
  simp [to_net f', spec_unkOf f, impl_unkOf f, eq_net f']
theorem law_NameOfUnknown (n : Net) (k : Int) (h : CK.wf (.sl .sta) n.stations) : M_laws_FnExactNameOfUnknown n k = some true := by
  unfold M_laws_FnExactNameOfUnknown
  refine sz_then (sz_net h (by omega) (by omega)) fun r h0 h1 => ?_
  have f : lfit Sta.fitN n.stations := lfit_of (f := Sta.sz) (fun x => Sta.fitN_of) (by omega)
  have f' := fitN_fit f
  simp [to_net f', spec_nameU f, impl_nameU f, eq_net f']
theorem law_ObservationOk (n : Net) (o : Obs) (h : CK.wf (.sl .sta) n.stations) (h1 : CK.wf (.sl .int) o.value.mag) (h2 : CK.wf (.sl .int) o.value.den) (h3 : CK.wf (.sl .int) o.variance.mag) (h4 : CK.wf (.sl .int) o.variance.den) : M_laws_FnExactObservationOk n o = some true := by
  unfold M_laws_FnExactObservationOk
  refine sz_then (sz_net h (by omega) (by omega)) fun r r0 r1 => ?_
  have hso : SzR (M_laws_szObservation o r) r o.sz := by
    unfold M_laws_szObservation
    exact SzR.bind (sz_rat (wf_rat h1 h2) r0 (by omega)) fun r' q0 q1 => SzR.last (sz_rat (wf_rat h3 h4) q0 (by omega))
  refine sz_then hso fun r' q0 q1 => ?_
  have f : lfit Sta.fitN n.stations := lfit_of (f := Sta.sz) (fun x => Sta.fitN_of) (by omega)
  have f' := fitN_fit f
  have fo : o.fit := Obs.fit_of (by omega)
  simp [to_net f', to_obs fo, spec_obsOk' f fo, impl_obsOk' f fo, eq_net f', eq_obs fo]
end Go.Di
/-
  Own work, written by program (gen.py) out of the functions of the given program: what they compute, as plain Lean.
-/
namespace Go.Di
noncomputable def M_laws_FnExactUnitOf (aT : Rt) : Option Bool :=
  (M_laws_szRat aT 1048576).bind fun r =>
  cond (decide (r < 0))
    (some true)
    ((M_laws_toRat aT).bind fun r1 =>
    (M_spec_UnitOf r1).bind fun (r0, r1_1) =>
    (M_laws_toRat aT).bind fun r2 =>
    (M_impl_UnitOf r2).bind fun (r0_1, r1_2) =>
    (M_laws_eqRat r0_1 r0).bind fun r3 =>
    cond (!r3)
      (some false)
      ((M_laws_eqRat r1_2 r1_1).bind fun r4 =>
      cond (!r4)
        (some false)
        ((M_laws_toRat aT).bind fun r5 =>
        (M_laws_eqRat r2 r5).bind fun r6 =>
        cond (!r6)
          (some false)
          ((M_laws_markRat_md r2 1).bind fun (r0_2, _, _) =>
          cond (decide (r0_2 < 0))
            (some false)
            ((M_laws_eqRat r0_1 r0).bind fun r7 =>
            cond (!r7)
              (some false)
              ((M_laws_eqRat r1_2 r1_1).bind fun r8 =>
              cond (!r8)
                (some false)
                ((M_laws_markRat_md r0_1 1).bind fun (r0_3, x0_1, x1_1) =>
                (M_laws_markRat_md r1_2 r0_3).bind fun (r0_4, x0_2, x1_2) =>
                (M_laws_heldRat (⟨r0_1.neg, x0_1, x1_1⟩ : Rt) 1).bind fun r9 =>
                cond (decide (r9 < 0))
                  (some false)
                  ((M_laws_heldRat (⟨r1_2.neg, x0_2, x1_2⟩ : Rt) r9).bind fun r10 =>
                  cond (decide (r10 < 0))
                    (some false)
                    (cond (r10 != r0_4)
                      (some false)
                      ((M_laws_toRat aT).bind fun r11 =>
                      (M_impl_UnitOf r11).bind fun (r0_5, r1_3) =>
                      (M_laws_eqRat r0_5 r0).bind fun r12 =>
                      cond (!r12)
                        (some false)
                        ((M_laws_eqRat r1_3 r1_1).bind fun r13 =>
                        cond (!r13)
                          (some false)
                          ((M_laws_heldRat (⟨r0_1.neg, x0_1, x1_1⟩ : Rt) 1).bind fun r14 =>
                          cond (decide (r14 < 0))
                            (some false)
                            ((M_laws_heldRat (⟨r1_2.neg, x0_2, x1_2⟩ : Rt) r14).bind fun r15 =>
                            cond (decide (r15 < 0))
                              (some false)
                              (cond (r15 != r0_4)
                                (some false)
                                (some true)))))))))))))))

end Go.Di
/-
  Own work, written by program (gen.py) out of the functions of the given program: what they compute, as plain Lean.
-/
namespace Go.Di
noncomputable def M_laws_FnExactLengthAlong (aT : Rt) (aX : Rt) (aY : Rt) : Option Bool :=
  (M_laws_szRat aT 1048576).bind fun r =>
  cond (decide (r < 0))
    (some true)
    ((M_laws_szRat aX r).bind fun r1 =>
    cond (decide (r1 < 0))
      (some true)
      ((M_laws_szRat aY r1).bind fun r2 =>
      cond (decide (r2 < 0))
        (some true)
        ((M_laws_toRat aT).bind fun r3 =>
        (M_laws_toRat aX).bind fun r4 =>
        (M_laws_toRat aY).bind fun r5 =>
        (M_spec_LengthAlong r3 r4 r5).bind fun r6 =>
        (M_laws_toRat aT).bind fun r7 =>
        (M_laws_toRat aX).bind fun r8 =>
        (M_laws_toRat aY).bind fun r9 =>
        (M_impl_LengthAlong r7 r8 r9).bind fun r10 =>
        (M_laws_eqRat r10 r6).bind fun r11 =>
        cond (!r11)
          (some false)
          ((M_laws_toRat aT).bind fun r12 =>
          (M_laws_eqRat r7 r12).bind fun r13 =>
          cond (!r13)
            (some false)
            ((M_laws_toRat aX).bind fun r14 =>
            (M_laws_eqRat r8 r14).bind fun r15 =>
            cond (!r15)
              (some false)
              ((M_laws_toRat aY).bind fun r16 =>
              (M_laws_eqRat r9 r16).bind fun r17 =>
              cond (!r17)
                (some false)
                ((M_laws_markRat_md r7 1).bind fun (r0, _, _) =>
                (M_laws_markRat_md r8 r0).bind fun (r0_1, _, _) =>
                (M_laws_markRat_md r9 r0_1).bind fun (r0_2, _, _) =>
                cond (decide (r0_2 < 0))
                  (some false)
                  ((M_laws_eqRat r10 r6).bind fun r18 =>
                  cond (!r18)
                    (some false)
                    ((M_laws_markRat_md r10 1).bind fun (r0_3, x0_3, x1_3) =>
                    (M_laws_heldRat (⟨r10.neg, x0_3, x1_3⟩ : Rt) 1).bind fun r19 =>
                    cond (decide (r19 < 0))
                      (some false)
                      (cond (r19 != r0_3)
                        (some false)
                        ((M_laws_toRat aT).bind fun r20 =>
                        (M_laws_toRat aX).bind fun r21 =>
                        (M_laws_toRat aY).bind fun r22 =>
                        (M_impl_LengthAlong r20 r21 r22).bind fun r23 =>
                        (M_laws_eqRat r23 r6).bind fun r24 =>
                        cond (!r24)
                          (some false)
                          ((M_laws_heldRat (⟨r10.neg, x0_3, x1_3⟩ : Rt) 1).bind fun r25 =>
                          cond (decide (r25 < 0))
                            (some false)
                            (cond (r25 != r0_3)
                              (some false)
                              (some true))))))))))))))

end Go.Di
/-
  Own work, written by program (gen.py) out of the functions of the given program: what they compute, as plain Lean.
-/
namespace Go.Di
noncomputable def M_laws_FnExactOffsetFrom (aT : Rt) (aX : Rt) (aY : Rt) : Option Bool :=
  (M_laws_szRat aT 1048576).bind fun r =>
  cond (decide (r < 0))
    (some true)
    ((M_laws_szRat aX r).bind fun r1 =>
    cond (decide (r1 < 0))
      (some true)
      ((M_laws_szRat aY r1).bind fun r2 =>
      cond (decide (r2 < 0))
        (some true)
        ((M_laws_toRat aT).bind fun r3 =>
        (M_laws_toRat aX).bind fun r4 =>
        (M_laws_toRat aY).bind fun r5 =>
        (M_spec_OffsetFrom r3 r4 r5).bind fun r6 =>
        (M_laws_toRat aT).bind fun r7 =>
        (M_laws_toRat aX).bind fun r8 =>
        (M_laws_toRat aY).bind fun r9 =>
        (M_impl_OffsetFrom r7 r8 r9).bind fun r10 =>
        (M_laws_eqRat r10 r6).bind fun r11 =>
        cond (!r11)
          (some false)
          ((M_laws_toRat aT).bind fun r12 =>
          (M_laws_eqRat r7 r12).bind fun r13 =>
          cond (!r13)
            (some false)
            ((M_laws_toRat aX).bind fun r14 =>
            (M_laws_eqRat r8 r14).bind fun r15 =>
            cond (!r15)
              (some false)
              ((M_laws_toRat aY).bind fun r16 =>
              (M_laws_eqRat r9 r16).bind fun r17 =>
              cond (!r17)
                (some false)
                ((M_laws_markRat_md r7 1).bind fun (r0, _, _) =>
                (M_laws_markRat_md r8 r0).bind fun (r0_1, _, _) =>
                (M_laws_markRat_md r9 r0_1).bind fun (r0_2, _, _) =>
                cond (decide (r0_2 < 0))
                  (some false)
                  ((M_laws_eqRat r10 r6).bind fun r18 =>
                  cond (!r18)
                    (some false)
                    ((M_laws_markRat_md r10 1).bind fun (r0_3, x0_3, x1_3) =>
                    (M_laws_heldRat (⟨r10.neg, x0_3, x1_3⟩ : Rt) 1).bind fun r19 =>
                    cond (decide (r19 < 0))
                      (some false)
                      (cond (r19 != r0_3)
                        (some false)
                        ((M_laws_toRat aT).bind fun r20 =>
                        (M_laws_toRat aX).bind fun r21 =>
                        (M_laws_toRat aY).bind fun r22 =>
                        (M_impl_OffsetFrom r20 r21 r22).bind fun r23 =>
                        (M_laws_eqRat r23 r6).bind fun r24 =>
                        cond (!r24)
                          (some false)
                          ((M_laws_heldRat (⟨r10.neg, x0_3, x1_3⟩ : Rt) 1).bind fun r25 =>
                          cond (decide (r25 < 0))
                            (some false)
                            (cond (r25 != r0_3)
                              (some false)
                              (some true))))))))))))))

end Go.Di
/-
  Own work, written by program (gen.py) out of the functions of the given program: what they compute, as plain Lean.
-/
namespace Go.Di
noncomputable def M_laws_FnExactHalfTangent (aX : Rt) (aY : Rt) : Option Bool :=
  (M_laws_szRat aX 1048576).bind fun r =>
  cond (decide (r < 0))
    (some true)
    ((M_laws_szRat aY r).bind fun r1 =>
    cond (decide (r1 < 0))
      (some true)
      ((M_laws_toRat aX).bind fun r2 =>
      (M_laws_toRat aY).bind fun r3 =>
      (M_spec_HalfTangent r2 r3).bind fun r4 =>
      (M_laws_toRat aX).bind fun r5 =>
      (M_laws_toRat aY).bind fun r6 =>
      (M_impl_HalfTangent r5 r6).bind fun r7 =>
      (M_laws_eqRat r7 r4).bind fun r8 =>
      cond (!r8)
        (some false)
        ((M_laws_toRat aX).bind fun r9 =>
        (M_laws_eqRat r5 r9).bind fun r10 =>
        cond (!r10)
          (some false)
          ((M_laws_toRat aY).bind fun r11 =>
          (M_laws_eqRat r6 r11).bind fun r12 =>
          cond (!r12)
            (some false)
            ((M_laws_markRat_md r5 1).bind fun (r0, _, _) =>
            (M_laws_markRat_md r6 r0).bind fun (r0_1, _, _) =>
            cond (decide (r0_1 < 0))
              (some false)
              ((M_laws_eqRat r7 r4).bind fun r13 =>
              cond (!r13)
                (some false)
                ((M_laws_markRat_md r7 1).bind fun (r0_2, x0_2, x1_2) =>
                (M_laws_heldRat (⟨r7.neg, x0_2, x1_2⟩ : Rt) 1).bind fun r14 =>
                cond (decide (r14 < 0))
                  (some false)
                  (cond (r14 != r0_2)
                    (some false)
                    ((M_laws_toRat aX).bind fun r15 =>
                    (M_laws_toRat aY).bind fun r16 =>
                    (M_impl_HalfTangent r15 r16).bind fun r17 =>
                    (M_laws_eqRat r17 r4).bind fun r18 =>
                    cond (!r18)
                      (some false)
                      ((M_laws_heldRat (⟨r7.neg, x0_2, x1_2⟩ : Rt) 1).bind fun r19 =>
                      cond (decide (r19 < 0))
                        (some false)
                        (cond (r19 != r0_2)
                          (some false)
                          (some true))))))))))))

end Go.Di
/-
  Own work, written by program (gen.py) out of the functions of the given program: what they compute, as plain Lean.
-/
namespace Go.Di
noncomputable def M_laws_FnExactObservationsOk (aN : Net) (aList : List Obs) : Option Bool :=
  (M_laws_szNetwork aN 1048576).bind fun r =>
  cond (decide (r < 0))
    (some true)
    ((M_laws_szObservationS aList r).bind fun r1 =>
    cond (decide (r1 < 0))
      (some true)
      ((M_laws_toNetwork aN).bind fun r2 =>
      (M_laws_toObservationS aList).bind fun r3 =>
      (M_spec_ObservationsOk r2 r3).bind fun r4 =>
      (M_laws_toNetwork aN).bind fun r5 =>
      (M_laws_toObservationS aList).bind fun r6 =>
      (M_impl_ObservationsOk r5 r6).bind fun r7 =>
      cond (!(r7 == r4))
        (some false)
        ((M_laws_toNetwork aN).bind fun r8 =>
        (M_laws_eqNetwork r5 r8).bind fun r9 =>
        cond (!r9)
          (some false)
          ((M_laws_toObservationS aList).bind fun r10 =>
          (M_laws_eqObservationS r6 r10).bind fun r11 =>
          cond (!r11)
            (some false)
            (some true)))))

end Go.Di
/-
  Own work. Given statements on directions, lengths along and across them, half tangents, lists of observations, books, as plain laws.
-/
namespace Go.Di

theorem law_UnitOf (r : Rt) (h1 : CK.wf (.sl .int) r.mag) (h2 : CK.wf (.sl .int) r.den) : M_laws_FnExactUnitOf r = some true := by
  unfold M_laws_FnExactUnitOf
  refine sz_then (sz_rat (wf_rat h1 h2) (by omega) (by omega)) fun l l0 l1 => ?_
  have f : r.fit := Rt.fit_of (by omega)
  obtain ⟨c, s, oc, os, hs, hi⟩ := unit_both f
  have fc := ro_fit oc
  have fc1 := fc.1
  have fc2 := fc.2
  have fs := ro_fit os
  have fs1 := fs.1
  have fs2 := fs.2
  simp (disch := omega) only [to_rat f, hs, hi, Option.bind_some, eq_rat fc, eq_rat fs, eq_rat f, eqB_self, Bool.not_true, cond_false, mark_rat f, mark_rat fc, mark_rat fs, held_rat, dneg, bneSelf]
theorem law_LengthAlong (a b c : Rt) (h1 : CK.wf (.sl .int) a.mag) (h2 : CK.wf (.sl .int) a.den) (h3 : CK.wf (.sl .int) b.mag) (h4 : CK.wf (.sl .int) b.den) (h5 : CK.wf (.sl .int) c.mag) (h6 : CK.wf (.sl .int) c.den) : M_laws_FnExactLengthAlong a b c = some true := by
  unfold M_laws_FnExactLengthAlong
  refine sz_then (sz_rat (wf_rat h1 h2) (by omega) (by omega)) fun l l0 l1 => sz_then (sz_rat (wf_rat h3 h4) l0 (by omega)) fun l' l0' l1' => sz_then (sz_rat (wf_rat h5 h6) l0' (by omega)) fun l'' l0'' l1'' => ?_
  have fa : a.fit := Rt.fit_of (by omega)
  have fb : b.fit := Rt.fit_of (by omega)
  have fc : c.fit := Rt.fit_of (by omega)
  have a1 := fa.1
  have a2 := fa.2
  have b1 := fb.1
  have b2 := fb.2
  have c1 := fc.1
  have c2 := fc.2
  obtain ⟨o, ok, hs, hi⟩ := along_both fa fb fc
  have fo := ro_fit ok
  have fo1 := fo.1
  have fo2 := fo.2
  simp (disch := omega) only [to_rat fa, to_rat fb, to_rat fc, hs, hi, Option.bind_some, eq_rat fo, eq_rat fa, eq_rat fb, eq_rat fc, eqB_self, Bool.not_true, cond_false, mark_rat fa, mark_rat fb, mark_rat fc, mark_rat fo, held_rat, dneg, bneSelf]
theorem law_OffsetFrom (a b c : Rt) (h1 : CK.wf (.sl .int) a.mag) (h2 : CK.wf (.sl .int) a.den) (h3 : CK.wf (.sl .int) b.mag) (h4 : CK.wf (.sl .int) b.den) (h5 : CK.wf (.sl .int) c.mag) (h6 : CK.wf (.sl .int) c.den) : M_laws_FnExactOffsetFrom a b c = some true := by
  unfold M_laws_FnExactOffsetFrom
  refine sz_then (sz_rat (wf_rat h1 h2) (by omega) (by omega)) fun l l0 l1 => sz_then (sz_rat (wf_rat h3 h4) l0 (by omega)) fun l' l0' l1' => sz_then (sz_rat (wf_rat h5 h6) l0' (by omega)) fun l'' l0'' l1'' => ?_
  have fa : a.fit := Rt.fit_of (by omega)
  have fb : b.fit := Rt.fit_of (by omega)
  have fc : c.fit := Rt.fit_of (by omega)
  have a1 := fa.1
  have a2 := fa.2
  have b1 := fb.1
  have b2 := fb.2
  have c1 := fc.1
  have c2 := fc.2
  obtain ⟨o, ok, hs, hi⟩ := offset_both fa fb fc
  have fo := ro_fit ok
  have fo1 := fo.1
  have fo2 := fo.2
  simp (disch := omega) only [to_rat fa, to_rat fb, to_rat fc, hs, hi, Option.bind_some, eq_rat fo, eq_rat fa, eq_rat fb, eq_rat fc, eqB_self, Bool.not_true, cond_false, mark_rat fa, mark_rat fb, mark_rat fc, mark_rat fo, held_rat, dneg, bneSelf]
theorem law_HalfTangent (a b : Rt) (h1 : CK.wf (.sl .int) a.mag) (h2 : CK.wf (.sl .int) a.den) (h3 : CK.wf (.sl .int) b.mag) (h4 : CK.wf (.sl .int) b.den) : M_laws_FnExactHalfTangent a b = some true := by
  unfold M_laws_FnExactHalfTangent
  refine sz_then (sz_rat (wf_rat h1 h2) (by omega) (by omega)) fun l l0 l1 => sz_then (sz_rat (wf_rat h3 h4) l0 (by omega)) fun l' l0' l1' => ?_
  have fa : a.fit := Rt.fit_of (by omega)
  have fb : b.fit := Rt.fit_of (by omega)
  have a1 := fa.1
  have a2 := fa.2
  have b1 := fb.1
  have b2 := fb.2
  obtain ⟨o, ok, hs, hi⟩ := half_both fa fb
  have fo := ro_fit ok
  have fo1 := fo.1
  have fo2 := fo.2
  simp (disch := omega) only [to_rat fa, to_rat fb, hs, hi, Option.bind_some, eq_rat fo, eq_rat fa, eq_rat fb, eqB_self, Bool.not_true, cond_false, mark_rat fa, mark_rat fb, mark_rat fo, held_rat, dneg, bneSelf]
theorem law_ObservationsOk (n : Net) (l : List Obs) (h : CK.wf (.sl .sta) n.stations) (h1 : CK.wf (.sl .obs) l) : M_laws_FnExactObservationsOk n l = some true := by
  unfold M_laws_FnExactObservationsOk
  refine sz_then (sz_net h (by omega) (by omega)) fun r r0 r1 => sz_then (sz_obss h1 r0 (by omega)) fun r' q0 q1 => ?_
  have f : lfit Sta.fitN n.stations := lfit_of (f := Sta.sz) (fun x => Sta.fitN_of) (by omega)
  have f' := fitN_fit f
  have fo : lfit Obs.fit l := lfit_of (f := Obs.sz) (fun x => Obs.fit_of) (by omega)
  simp [to_net f', to_obss fo, spec_obssOk f fo, impl_obssOk f fo, eq_net f', eq_obss fo]
theorem law_BookOk (b : Bk) (h : CK.wf (.sl .sta) b.stations) (h1 : CK.wf (.sl .obs) b.obs) : M_laws_FnExactBookOk b = some true := by
  unfold M_laws_FnExactBookOk
  refine sz_then (sz_book h h1 (by omega) (by omega)) fun r r0 r1 => ?_
  have f : lfit Sta.fitN b.stations := lfit_of (f := Sta.sz) (fun x => Sta.fitN_of) (by omega)
  have f' := fitN_fit f
  have fo : lfit Obs.fit b.obs := lfit_of (f := Obs.sz) (fun x => Obs.fit_of) (by omega)
  simp [to_book f' fo, spec_bookOk f fo, impl_bookOk f fo, eq_book f' fo]
end Go.Di
