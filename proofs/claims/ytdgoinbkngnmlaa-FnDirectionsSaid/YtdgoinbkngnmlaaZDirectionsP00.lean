/-
  Own work: part 7 of the texts that the proof of the given statement leans on.
-/
import Derived.Test.YtdgoinbkngnmlaaZE01
namespace Go.Di
noncomputable def S_spec_l30New_0 : Int × Int × (List Int) × Int × Int × Unit → Option ((Int × Int × (List Int) × Int × Int × Unit) ⊕ ((List Int) × Int × Int × Unit)) := fun (n, i, v, v1, v2, _) =>
  cond (decide (i < n))
    ((M_spec_l01Byte (⟨v, v1, v2⟩ : Cur)).bind fun (_, x0) =>
    some (.inl (n, IntKind.i64.wrap (i + 1), x0.b, x0.i, x0.h, ())))
    (some (.inr (v, v1, v2, ())))
noncomputable def L_spec_l30New_0 (n : Int) (i : Int) (v : List Int) (v1 : Int) (v2 : Int) : Option ((List Int) × Int × Int × Unit) := whileO S_spec_l30New_0 (n, i, v, v1, v2, ())
noncomputable def M_spec_l30New (code : List Int) (n : Int) : Option Cur :=
  (M_spec_l01New code).bind fun r =>
  (L_spec_l30New_0 n 0 r.b r.i r.h).bind fun (v, v1, v2, _) =>
  some (⟨v, v1, v2⟩ : Cur)
noncomputable def M_spec_MakeRat (code : List Int) (n : Int) : Option Rt :=
  (M_spec_l30New code n).bind fun r =>
  (M_spec_l05Number r).bind fun (r0, _) =>
  some r0
end Go.Di
namespace Go.Di
noncomputable def M_laws_FnDirections (code : List Int) : Option Bool :=
  cond (decide ((code.length : Int) > 1048576))
    (some true)
    ((M_spec_MakeRat code 1).bind fun r =>
    (M_spec_MakeRat code 5).bind fun r1 =>
    (M_spec_MakeRat code 9).bind fun r2 =>
    (M_impl_UnitOf r).bind fun (r0, r1_1) =>
    (M_impl_LengthAlong r r1 r2).bind fun r3 =>
    (M_impl_OffsetFrom r r1 r2).bind fun r4 =>
    (M_impl_RatMul r0 r0).bind fun r5 =>
    (M_impl_RatMul r1_1 r1_1).bind fun r6 =>
    (M_impl_RatAdd r5 r6).bind fun r7 =>
    (M_impl_RatMul r3 r3).bind fun r8 =>
    (M_impl_RatMul r4 r4).bind fun r9 =>
    (M_impl_RatAdd r8 r9).bind fun r10 =>
    (M_impl_RatFromInt 1).bind fun r11 =>
    (M_impl_RatEqual r7 r11).bind fun r12 =>
    cond r12
      ((M_impl_RatMul r1 r1).bind fun r13 =>
      (M_impl_RatMul r2 r2).bind fun r14 =>
      (M_impl_RatAdd r13 r14).bind fun r15 =>
      (M_impl_RatEqual r10 r15).bind fun r16 =>
      cond r16
        ((M_impl_RatOk r10).bind fun r17 =>
        some r17)
        (some false))
      (some false))
end Go.Di
