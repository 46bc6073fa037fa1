/-
  Own work: part 7 of the texts that the proof of the given statement leans on.
-/
import Derived.Test.YtgimphipdnieaaaGreatZE01
namespace Go.Di
noncomputable def S_spec_l30New_0 : Int × Int × (List Int) × Int × Int × Unit → Option ((Int × Int × (List Int) × Int × Int × Unit) ⊕ ((List Int) × Int × Int × Unit)) := fun (n, i, v, v1, v2, _) =>
  cond (decide (i < n))
    ((M_spec_l01Byte (⟨v, v1, v2⟩ : Cur)).bind fun (_, x0) =>
    some (.inl (n, IntKind.i64.wrap (i + 1), x0.b, x0.i, x0.h, ())))
    (some (.inr (v, v1, v2, ())))
noncomputable def L_spec_l30New_0 (n : Int) (i : Int) (v : List Int) (v1 : Int) (v2 : Int) : Option ((List Int) × Int × Int × Unit) := whileO S_spec_l30New_0 (n, i, v, v1, v2, ())
noncomputable def M_spec_l30New (code : List Int) (n : Int) : Option Cur :=
  (M_spec_l01New code).bind fun r =>
  (L_spec_l30New_0 n 0 r.b r.i r.h).bind fun (v, v1, v2, _) =>
  some (⟨v, v1, v2⟩ : Cur)
noncomputable def M_spec_MakeMatrix (code : List Int) (n : Int) (rows : Int) (cols : Int) : Option Mx :=
  (M_spec_l30New code n).bind fun r =>
  (M_spec_l06Draw r rows cols).bind fun (r0, _) =>
  some r0
noncomputable def M_spec_MakeVector (code : List Int) (n : Int) (length : Int) : Option (List Rt) :=
  (M_spec_l30New code n).bind fun r =>
  (M_spec_l05Draw r length).bind fun (r0, _) =>
  some r0
end Go.Di
namespace Go.Di
noncomputable def M_laws_FnInverse (code : List Int) : Option Bool :=
  cond (decide ((code.length : Int) > 1048576))
    (some true)
    ((M_spec_MakeMatrix code 1 3 3).bind fun r =>
    (M_spec_MakeVector code 40 3).bind fun r1 =>
    (M_impl_Inverse r).bind fun (r0, r1_1) =>
    (M_impl_Determinant r).bind fun (r0_1, r1_2) =>
    (M_impl_SolveSystem r r1).bind fun (r0_2, r1_3) =>
    cond (!r1_2)
      (some false)
      ((M_impl_RatSign r0_1).bind fun r2 =>
      cond (!(r1_1 == (r2 != 0)))
        (some false)
        (cond (!(r1_3 == r1_1))
          (some false)
          ((M_impl_RankOf r).bind fun r3 =>
          cond (!((r3 == 3) == r1_1))
            (some false)
            (cond (!r1_1)
              ((M_impl_IdentityMatrix 2).bind fun r4 =>
              (M_impl_MatrixOf 2 2 ([1, 0, 0, 1] : List Int)).bind fun r5 =>
              (M_impl_EqualMatrices r4 r5).bind fun r6 =>
              some r6)
              ((M_impl_Multiply r r0).bind fun (r0_3, r1_4) =>
              (M_impl_ApplyMatrix r r0_2).bind fun (r0_4, r1_5) =>
              (M_impl_ApplyMatrix r0 r1).bind fun (r0_5, r1_6) =>
              cond r1_4
                (cond r1_5
                  (cond r1_6
                    ((M_impl_IdentityMatrix 3).bind fun r4 =>
                    (M_impl_EqualMatrices r0_3 r4).bind fun r5 =>
                    cond r5
                      ((M_impl_EqualVectors r0_4 r1).bind fun r6 =>
                      cond r6
                        ((M_impl_EqualVectors r0_5 r0_2).bind fun r7 =>
                        some r7)
                        (some false))
                      (some false))
                    (some false))
                  (some false))
                (some false)))))))
end Go.Di
