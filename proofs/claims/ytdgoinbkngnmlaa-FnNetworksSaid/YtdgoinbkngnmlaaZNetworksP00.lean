/-
  Own work: part 7 of the texts that the proof of the given statement leans on.
-/
import Derived.Test.YtdgoinbkngnmlaaZE01
namespace Go.Di
noncomputable def S_spec_l30New_0 : Int × Int × (List Int) × Int × Int × Unit → Option ((Int × Int × (List Int) × Int × Int × Unit) ⊕ ((List Int) × Int × Int × Unit)) := fun (n, i, v, v1, v2, _) =>
  cond (decide (i < n))
    ((M_spec_l01Byte (⟨v, v1, v2⟩ : Cur)).bind fun (_, x0) =>
    some (.inl (n, IntKind.i64.wrap (i + 1), x0.b, x0.i, x0.h, ())))
    (some (.inr (v, v1, v2, ())))
noncomputable def L_spec_l30New_0 (n : Int) (i : Int) (v : List Int) (v1 : Int) (v2 : Int) : Option ((List Int) × Int × Int × Unit) := whileO S_spec_l30New_0 (n, i, v, v1, v2, ())
noncomputable def M_spec_l30New (code : List Int) (n : Int) : Option Cur :=
  (M_spec_l01New code).bind fun r =>
  (L_spec_l30New_0 n 0 r.b r.i r.h).bind fun (v, v1, v2, _) =>
  some (⟨v, v1, v2⟩ : Cur)
noncomputable def M_spec_MakeNetwork (code : List Int) : Option Net :=
  (M_spec_l01New code).bind fun r =>
  (M_spec_l10Draw r).bind fun (r0, _) =>
  some r0
noncomputable def M_spec_MakeVector (code : List Int) (n : Int) (length : Int) : Option (List Rt) :=
  (M_spec_l30New code n).bind fun r =>
  (M_spec_l05Draw r length).bind fun (r0, _) =>
  some r0
end Go.Di
namespace Go.Di
noncomputable def S_laws_FnNetworks_0 : Int × Int × (List Sta) × Int × Int × Bool × (List Sta) × Unit → Option ((Int × Int × (List Sta) × Int × Int × Bool × (List Sta) × Unit) ⊕ ((Bool × Unit) ⊕ (Int × Int × Bool × (List Sta) × Unit))) := fun (k, seen, t, t1, t2, v, v1, _) =>
  cond (decide (t2 < t1))
    ((idx t t2).bind fun e =>
    (M_impl_UnknownOf (⟨v, v1⟩ : Net) t2).bind fun r =>
    (M_impl_FindStation (⟨v, v1⟩ : Net) e.name).bind fun r1 =>
    cond (r1 != t2)
      (some (.inr (.inl (false, ()))))
      (cond (!((decide (r < 0)) == e.fixed))
        (some (.inr (.inl (false, ()))))
        (cond (decide (r ≥ 0))
          ((guardO (Nat.ble (e.name.size + ((⟨#[46, 120]⟩ : ByteArray).size)) 4611686018427387904)).bind fun _ =>
          (M_impl_NameOfUnknown (⟨v, v1⟩ : Net) r).bind fun r2 =>
          cond (!(strEq r2 (e.name ++ (⟨#[46, 120]⟩ : ByteArray))))
            (some (.inr (.inl (false, ()))))
            ((M_impl_StationOk e v).bind fun r3 =>
            cond (!r3)
              (some (.inr (.inl (false, ()))))
              (cond (decide (r ≥ 0))
                (some (.inl (k, IntKind.i64.wrap (seen + 1), t, t1, IntKind.i64.wrap (t2 + 1), v, v1, ())))
                (some (.inl (k, seen, t, t1, IntKind.i64.wrap (t2 + 1), v, v1, ()))))))
          ((M_impl_StationOk e v).bind fun r2 =>
          cond (!r2)
            (some (.inr (.inl (false, ()))))
            (cond (decide (r ≥ 0))
              (some (.inl (k, IntKind.i64.wrap (seen + 1), t, t1, IntKind.i64.wrap (t2 + 1), v, v1, ())))
              (some (.inl (k, seen, t, t1, IntKind.i64.wrap (t2 + 1), v, v1, ()))))))))
    (some (.inr (.inr (k, seen, v, v1, ()))))
noncomputable def L_laws_FnNetworks_0 (k : Int) (seen : Int) (t : List Sta) (t1 : Int) (t2 : Int) (v : Bool) (v1 : List Sta) : Option ((Bool × Unit) ⊕ (Int × Int × Bool × (List Sta) × Unit)) := whileO S_laws_FnNetworks_0 (k, seen, t, t1, t2, v, v1, ())
noncomputable def M_laws_FnNetworks (code : List Int) : Option Bool :=
  cond (decide ((code.length : Int) > 1048576))
    (some true)
    ((M_spec_MakeNetwork code).bind fun r =>
    (M_impl_CountUnknowns r).bind fun r1 =>
    (M_spec_MakeVector code 40 r1).bind fun r2 =>
    (M_impl_MoveStations r r2).bind fun (r0, r1_1) =>
    (M_impl_ZeroVector r1).bind fun r3 =>
    (M_impl_SubtractVectors r3 r2).bind fun (r0_1, r1_2) =>
    (M_impl_MoveStations r0 r0_1).bind fun (r0_2, r1_3) =>
    cond (!r1_1)
      (some false)
      (cond (!r1_2)
        (some false)
        (cond (!r1_3)
          (some false)
          ((M_impl_NetworkOk r).bind fun r4 =>
          cond (!r4)
            (some false)
            ((M_impl_SameNetworks r0_2 r).bind fun r5 =>
            cond (!r5)
              (some false)
              ((M_impl_NameOfUnknown r r1).bind fun r6 =>
              cond (!(strEq r6 (⟨#[]⟩ : ByteArray)))
                (some false)
                ((L_laws_FnNetworks_0 r1 0 r.stations (r.stations.length : Int) 0 r.plane r.stations).bind fun r7 =>
                match r7 with
                | .inl (t, _) =>
                  some t
                | .inr (k, seen, v, _, _) =>
                  cond (k == seen)
                    (some true)
                    (cond v
                      (some (k == (IntKind.i64.wrap (2 * seen))))
                      (some false)))))))))
end Go.Di
