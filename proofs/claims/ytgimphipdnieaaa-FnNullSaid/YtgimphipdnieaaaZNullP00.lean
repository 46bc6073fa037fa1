/-
  Own work: part 7 of the texts that the proof of the given statement leans on.
-/
import Derived.Test.YtgimphipdnieaaaZE01
namespace Go.Di
noncomputable def S_spec_l30New_0 : Int × Int × (List Int) × Int × Int × Unit → Option ((Int × Int × (List Int) × Int × Int × Unit) ⊕ ((List Int) × Int × Int × Unit)) := fun (n, i, v, v1, v2, _) =>
  cond (decide (i < n))
    ((M_spec_l01Byte (⟨v, v1, v2⟩ : Cur)).bind fun (_, x0) =>
    some (.inl (n, IntKind.i64.wrap (i + 1), x0.b, x0.i, x0.h, ())))
    (some (.inr (v, v1, v2, ())))
noncomputable def L_spec_l30New_0 (n : Int) (i : Int) (v : List Int) (v1 : Int) (v2 : Int) : Option ((List Int) × Int × Int × Unit) := whileO S_spec_l30New_0 (n, i, v, v1, v2, ())
noncomputable def M_spec_l30New (code : List Int) (n : Int) : Option Cur :=
  (M_spec_l01New code).bind fun r =>
  (L_spec_l30New_0 n 0 r.b r.i r.h).bind fun (v, v1, v2, _) =>
  some (⟨v, v1, v2⟩ : Cur)
noncomputable def M_spec_MakeMatrix (code : List Int) (n : Int) (rows : Int) (cols : Int) : Option Mx :=
  (M_spec_l30New code n).bind fun r =>
  (M_spec_l06Draw r rows cols).bind fun (r0, _) =>
  some r0
noncomputable def M_spec_MakeVector (code : List Int) (n : Int) (length : Int) : Option (List Rt) :=
  (M_spec_l30New code n).bind fun r =>
  (M_spec_l05Draw r length).bind fun (r0, _) =>
  some r0
end Go.Di
namespace Go.Di
noncomputable def S_laws_FnNull_0 : Int × Int × Int × Int × (List Rt) × (List (List Rt)) × Unit → Option ((Int × Int × Int × Int × (List Rt) × (List (List Rt)) × Unit) ⊕ ((Bool × Unit) ⊕ (Unit))) := fun (t, t1, v, v1, v2, t2, _) =>
  cond (decide (t1 < t))
    ((idx t2 t1).bind fun _ =>
    (t2[t1.toNat]?).bind fun e =>
    (M_impl_ApplyMatrix (⟨v, v1, v2⟩ : Mx) e).bind fun (r0, r1) =>
    cond (!r1)
      (some (.inr (.inl (false, ()))))
      ((M_impl_ZeroVector 2).bind fun r =>
      (M_impl_EqualVectors r0 r).bind fun r2 =>
      cond (!r2)
        (some (.inr (.inl (false, ()))))
        (some (.inl (t, IntKind.i64.wrap (t1 + 1), v, v1, v2, t2, ())))))
    (some (.inr (.inr (()))))
noncomputable def L_laws_FnNull_0 (t : Int) (t1 : Int) (v : Int) (v1 : Int) (v2 : List Rt) (t2 : List (List Rt)) : Option ((Bool × Unit) ⊕ (Unit)) := whileO S_laws_FnNull_0 (t, t1, v, v1, v2, t2, ())
noncomputable def M_laws_FnNull (code : List Int) : Option Bool :=
  cond (decide ((code.length : Int) > 1048576))
    (some true)
    ((M_spec_MakeMatrix code 1 2 4).bind fun r =>
    (M_impl_NullVectors r).bind fun (r0, r1) =>
    (M_impl_Reduce r).bind fun (r0_1, r1_1, r2) =>
    cond (!r1)
      (some false)
      (cond (!r2)
        (some false)
        (cond ((IntKind.i64.wrap ((r0.length : Int) + (r1_1.length : Int))) != 4)
          (some false)
          ((M_impl_RankOf r).bind fun r3 =>
          cond (r3 != (r1_1.length : Int))
            (some false)
            ((M_impl_RankOf r0_1).bind fun r4 =>
            cond (r4 != (r1_1.length : Int))
              (some false)
              ((L_laws_FnNull_0 (r0.length : Int) 0 r.rows r.cols r.cells r0).bind fun r5 =>
              match r5 with
              | .inl (t, _) =>
                some t
              | .inr _ =>
                some true))))))
end Go.Di
