/-
  Own work: part 9 of the texts that the proof of the given statement leans on.
-/
import Derived.Test.YtmkoafebmfoeaaaZRootOfNatP01
/-
  Own work, written by program (gen.py) out of the functions of the given program: what they compute, as plain Lean.
-/
namespace Go.Di
noncomputable def M_laws_FnExactMatrixOk (aM : Mx) : Option Bool :=
  (M_laws_szMatrix aM 1048576).bind fun r =>
  cond (decide (r < 0))
    (some true)
    ((M_laws_toMatrix aM).bind fun r1 =>
    (M_spec_MatrixOk r1).bind fun r2 =>
    (M_laws_toMatrix aM).bind fun r3 =>
    (M_impl_MatrixOk r3).bind fun r4 =>
    cond (!(r4 == r2))
      (some false)
      ((M_laws_toMatrix aM).bind fun r5 =>
      (M_laws_eqMatrix r3 r5).bind fun r6 =>
      cond (!r6)
        (some false)
        (some true)))

end Go.Di
/-
  Own work, written by program (gen.py) out of the functions of the given program: what they compute, as plain Lean.
-/
namespace Go.Di
noncomputable def M_laws_FnExactStationOk (aS : Sta) (aPlane : Bool) : Option Bool :=
  (M_laws_szStation aS 1048576).bind fun r =>
  cond (decide (r < 0))
    (some true)
    ((M_laws_toStation aS).bind fun r1 =>
    (M_spec_StationOk r1 aPlane).bind fun r2 =>
    (M_laws_toStation aS).bind fun r3 =>
    (M_impl_StationOk r3 aPlane).bind fun r4 =>
    cond (!(r4 == r2))
      (some false)
      ((M_laws_toStation aS).bind fun r5 =>
      (M_laws_eqStation r3 r5).bind fun r6 =>
      cond (!r6)
        (some false)
        (some true)))

end Go.Di
/-
  Own work, written by program (gen.py) out of the functions of the given program: what they compute, as plain Lean.
-/
namespace Go.Di
noncomputable def M_laws_FnExactNetworkOk (aN : Net) : Option Bool :=
  (M_laws_szNetwork aN 1048576).bind fun r =>
  cond (decide (r < 0))
    (some true)
    ((M_laws_toNetwork aN).bind fun r1 =>
    (M_spec_NetworkOk r1).bind fun r2 =>
    (M_laws_toNetwork aN).bind fun r3 =>
    (M_impl_NetworkOk r3).bind fun r4 =>
    cond (!(r4 == r2))
      (some false)
      ((M_laws_toNetwork aN).bind fun r5 =>
      (M_laws_eqNetwork r3 r5).bind fun r6 =>
      cond (!r6)
        (some false)
        (some true)))

end Go.Di
/-
  Own work. Given statements on stations, matrices, networks that are valid, and on roots, as plain laws.
-/
namespace Go.Di

/-- A measure of a statement's argument: too great, or what fits goes on. -/
theorem sz_then {x : Option Int} {left : Int} {n : Nat} {k : Int → Option Bool} (h : SzR x left n) (hk : ∀ r : Int, 0 ≤ r → r + n = left → k r = some true) :
    (x.bind fun r => cond (decide (r < 0)) (some true) (k r)) = some true := by
  rcases h with rfl | ⟨r, h0, h1, rfl⟩
  · rfl
  · have : decide (r < 0) = false := by simpa using h0
    simp only [Option.bind_some, this, cond_false, hk r h0 h1]

theorem law_MatrixOk (m : Mx) (h : CK.wf (.sl .rat) m.cells) : M_laws_FnExactMatrixOk m = some true := by
  unfold M_laws_FnExactMatrixOk
  refine sz_then (sz_mx h (by omega) (by omega)) fun r h0 h1 => ?_
  have f : lfit Rt.fit m.cells := lfit_of (f := Rt.sz) (fun x => Rt.fit_of) (by omega)
  simp [to_mx f, spec_mxOk f, impl_mxOk f, eq_mx f]
theorem law_StationOk (s : Sta) (plane : Bool) (hn : CK.wf .str s.name) (h1 : CK.wf (.sl .int) s.x.mag) (h2 : CK.wf (.sl .int) s.x.den) (h3 : CK.wf (.sl .int) s.y.mag) (h4 : CK.wf (.sl .int) s.y.den) : M_laws_FnExactStationOk s plane = some true := by
  unfold M_laws_FnExactStationOk
  refine sz_then (sz_sta (s := s) ⟨hn, ⟨h1, h2⟩, h3, h4⟩ (by omega) (by omega)) fun r h0 h1 => ?_
  have f : s.fitN := Sta.fitN_of (by omega)
  simp [to_sta f.1, spec_staOk plane f.1 f.2, impl_staOk plane f.1, eq_sta f.1]
theorem law_NetworkOk (n : Net) (h : CK.wf (.sl .sta) n.stations) : M_laws_FnExactNetworkOk n = some true := by
  unfold M_laws_FnExactNetworkOk
  refine sz_then (sz_net h (by omega) (by omega)) fun r h0 h1 => ?_
  have f : lfit Sta.fitN n.stations := lfit_of (f := Sta.sz) (fun x => Sta.fitN_of) (by omega)
  have f' := fitN_fit f
  simp [to_net f', spec_netOk f, impl_netOk f', eq_net f']

theorem law_RootOfNat (a : List Int) (_ : CK.wf (.sl .int) a) : M_laws_FnExactRootOfNat a = some true := by
  unfold M_laws_FnExactRootOfNat
  cases hc : decide ((a.length : Int) > 1048576) with
  | true => rfl
  | false =>
    have hl : a.length ≤ 1048576 := by have := of_decide_eq_false hc; omega
    simp only [cond_false]
    have hs := spec_rootOf hl
    have hi := impl_rootOf hl
    have hrl : (cond (pB (NatOk a)) (dg (rootN (nv a).toNat)) []).length ≤ 1048576 := by
      by_cases hk : NatOk a
      · rw [pB_iff.2 hk, cond_true]
        have := root_len (a := (nv a).toNat)
        rw [← hk.1.dg] at this
        have := hk.2
        omega
      · rw [pB_not.2 hk]; simp
    generalize cond (pB (NatOk a)) (dg (rootN (nv a).toNat)) [] = w at *
    have m1 := mark_ints (a := a) (k := 1) hl (by omega) (by omega)
    have m2 := mark_ints (a := w) (k := 1) hrl (by omega) (by omega)
    have e1 := held_ints (k := 1) (n := w.length) hrl (by omega) (by omega)
    have n1 : decide ((1 : Int) + (a.length : Int) < 0) = false := decide_eq_false (by omega)
    have n2 : decide ((1 : Int) + (w.length : Int) < 0) = false := decide_eq_false (by omega)
    have n3 : ((1 : Int) + (w.length : Int) != 1 + (w.length : Int)) = false := by simp
    simp only [to_ints hl, hs, hi, Option.bind_some, eq_ints hrl, eq_ints hl, eqB_self, Bool.not_true, cond_false, m1, m2, e1, n1, n2, n3]
end Go.Di
