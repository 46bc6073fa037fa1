/-
  Own work: part 7 of the texts that the proof of the given statement leans on.
-/
import Derived.Test.YtdgoinbkngnmlaaZE01
namespace Go.Di
noncomputable def S_spec_l30New_0 : Int × Int × (List Int) × Int × Int × Unit → Option ((Int × Int × (List Int) × Int × Int × Unit) ⊕ ((List Int) × Int × Int × Unit)) := fun (n, i, v, v1, v2, _) =>
  cond (decide (i < n))
    ((M_spec_l01Byte (⟨v, v1, v2⟩ : Cur)).bind fun (_, x0) =>
    some (.inl (n, IntKind.i64.wrap (i + 1), x0.b, x0.i, x0.h, ())))
    (some (.inr (v, v1, v2, ())))
noncomputable def L_spec_l30New_0 (n : Int) (i : Int) (v : List Int) (v1 : Int) (v2 : Int) : Option ((List Int) × Int × Int × Unit) := whileO S_spec_l30New_0 (n, i, v, v1, v2, ())
noncomputable def M_spec_l30New (code : List Int) (n : Int) : Option Cur :=
  (M_spec_l01New code).bind fun r =>
  (L_spec_l30New_0 n 0 r.b r.i r.h).bind fun (v, v1, v2, _) =>
  some (⟨v, v1, v2⟩ : Cur)
noncomputable def M_spec_MakeNum (code : List Int) (n : Int) : Option Int :=
  (M_spec_l30New code n).bind fun r =>
  (M_spec_l01Byte r).bind fun (r0, x0) =>
  (M_spec_l01Byte x0).bind fun (r0_1, _) =>
  some (IntKind.i64.wrap ((IntKind.i64.wrap (r0 * 256)) + r0_1))
noncomputable def M_spec_MakeRat (code : List Int) (n : Int) : Option Rt :=
  (M_spec_l30New code n).bind fun r =>
  (M_spec_l05Number r).bind fun (r0, _) =>
  some r0
end Go.Di
namespace Go.Di
noncomputable def M_laws_FnRounded (code : List Int) : Option Bool :=
  cond (decide ((code.length : Int) > 1048576))
    (some true)
    ((M_spec_MakeRat code 1).bind fun r =>
    (M_spec_MakeNum code 9).bind fun r1 =>
    (M_impl_RoundTo r (IntKind.i64.wrap (1 + (r1.tmod 50)))).bind fun r2 =>
    (M_impl_RatSub r2 r).bind fun r3 =>
    (M_impl_RatFromInt (IntKind.i64.wrap (2 * (IntKind.i64.wrap (1 + (r1.tmod 50)))))).bind fun r4 =>
    (M_impl_RatMul r3 r4).bind fun r5 =>
    (M_impl_RatFromInt 1).bind fun r6 =>
    (M_impl_RatOk r2).bind fun r7 =>
    cond r7
      ((M_impl_RatCmp r5 r6).bind fun r8 =>
      cond (decide (r8 ≤ 0))
        ((M_impl_RatNeg r6).bind fun r9 =>
        (M_impl_RatCmp r5 r9).bind fun r10 =>
        cond (decide (r10 > 0))
          ((M_impl_RoundTo r2 (IntKind.i64.wrap (1 + (r1.tmod 50)))).bind fun r11 =>
          (M_impl_RatEqual r11 r2).bind fun r12 =>
          some r12)
          (some false))
        (some false))
      (some false))
end Go.Di
