/-
  Own work: part 5 of the texts that the proof of the given statement leans on.
-/
import Derived.Laws.Strings
import Derived.Test.YtkjfphfbpocijaaZD03
/-
  Own work, written by program (gen.py) out of the functions of the given program: what they compute, as plain Lean.
-/
namespace Go.Di
noncomputable def S_impl_IsName_0 : ByteArray × Int × Unit → Option ((ByteArray × Int × Unit) ⊕ ((Bool × Unit) ⊕ (Unit))) := fun (s, i, _) =>
  cond (decide (i < (s.size : Int)))
    ((strAt s i).bind fun b =>
    cond (decide (b < 97))
      ((strAt s i).bind fun b1 =>
      cond (decide (b1 < 48))
        (some (.inr (.inl (false, ()))))
        ((strAt s i).bind fun b2 =>
        cond (decide (b2 > 57))
          (some (.inr (.inl (false, ()))))
          (some (.inl (s, IntKind.i64.wrap (i + 1), ())))))
      ((strAt s i).bind fun b1 =>
      cond (decide (b1 > 122))
        ((strAt s i).bind fun b2 =>
        cond (decide (b2 < 48))
          (some (.inr (.inl (false, ()))))
          ((strAt s i).bind fun b3 =>
          cond (decide (b3 > 57))
            (some (.inr (.inl (false, ()))))
            (some (.inl (s, IntKind.i64.wrap (i + 1), ())))))
        (some (.inl (s, IntKind.i64.wrap (i + 1), ())))))
    (some (.inr (.inr (()))))
noncomputable def L_impl_IsName_0 (s : ByteArray) (i : Int) : Option ((Bool × Unit) ⊕ (Unit)) := whileO S_impl_IsName_0 (s, i, ())
noncomputable def M_impl_IsName (s : ByteArray) : Option Bool :=
  cond (decide ((s.size : Int) < 1))
    (some false)
    (cond (decide ((s.size : Int) > 8))
      (some false)
      ((strAt s 0).bind fun b =>
      cond (decide (b < 97))
        (some false)
        ((strAt s 0).bind fun b1 =>
        cond (decide (b1 > 122))
          (some false)
          ((L_impl_IsName_0 s 0).bind fun r =>
          match r with
          | .inl (t, _) =>
            some t
          | .inr _ =>
            some true))))

noncomputable def S_impl_ascendingTo_0 : (List Int) × Int × (List Int) × Int × Int × Unit → Option (((List Int) × Int × (List Int) × Int × Int × Unit) ⊕ ((Bool × Unit) ⊕ (Unit))) := fun (l, n, t, t1, t2, _) =>
  cond (decide (t2 < t1))
    ((idx t t2).bind fun e =>
    cond (decide (e < 0))
      (some (.inr (.inl (false, ()))))
      (cond (decide (e ≥ n))
        (some (.inr (.inl (false, ()))))
        (cond (decide (t2 > 0))
          ((idx l (IntKind.i64.wrap (t2 - 1))).bind fun e1 =>
          cond (decide (e1 ≥ e))
            (some (.inr (.inl (false, ()))))
            (some (.inl (l, n, t, t1, IntKind.i64.wrap (t2 + 1), ()))))
          (some (.inl (l, n, t, t1, IntKind.i64.wrap (t2 + 1), ()))))))
    (some (.inr (.inr (()))))
noncomputable def L_impl_ascendingTo_0 (l : List Int) (n : Int) (t : List Int) (t1 : Int) (t2 : Int) : Option ((Bool × Unit) ⊕ (Unit)) := whileO S_impl_ascendingTo_0 (l, n, t, t1, t2, ())
noncomputable def M_impl_ascendingTo (l : List Int) (n : Int) : Option Bool :=
  (L_impl_ascendingTo_0 l n l (l.length : Int) 0).bind fun r =>
  match r with
  | .inl (t, _) =>
    some t
  | .inr _ =>
    some true

noncomputable def M_impl_copyInts (l : List Int) : Option (List Int) :=
  (guardO (Nat.ble l.length maxNew)).bind fun _ =>
  some l

noncomputable def S_impl_hasInt_0 : Int × (List Int) × Int × Int × Unit → Option ((Int × (List Int) × Int × Int × Unit) ⊕ ((Bool × Unit) ⊕ (Unit))) := fun (n, t, t1, t2, _) =>
  cond (decide (t2 < t1))
    ((idx t t2).bind fun e =>
    cond (e == n)
      (some (.inr (.inl (true, ()))))
      (some (.inl (n, t, t1, IntKind.i64.wrap (t2 + 1), ()))))
    (some (.inr (.inr (()))))
noncomputable def L_impl_hasInt_0 (n : Int) (t : List Int) (t1 : Int) (t2 : Int) : Option ((Bool × Unit) ⊕ (Unit)) := whileO S_impl_hasInt_0 (n, t, t1, t2, ())
noncomputable def M_impl_hasInt (l : List Int) (n : Int) : Option Bool :=
  (L_impl_hasInt_0 n l (l.length : Int) 0).bind fun r =>
  match r with
  | .inl (t, _) =>
    some t
  | .inr _ =>
    some false

noncomputable def M_spec_l01In (n : Int) (lo : Int) (hi : Int) : Option Bool :=
  cond (decide (n ≥ lo))
    (some (decide (n ≤ hi)))
    (some false)

noncomputable def S_spec_IsName_0 : ByteArray × Int × Unit → Option ((ByteArray × Int × Unit) ⊕ ((Bool × Unit) ⊕ (ByteArray × Unit))) := fun (s, i, _) =>
  cond (decide (i < (s.size : Int)))
    ((strAt s i).bind fun b =>
    cond (decide (b ≥ 97))
      ((strAt s i).bind fun b1 =>
      cond (!(decide (b1 ≤ 122)))
        (cond (i == 0)
          (some (.inr (.inl (false, ()))))
          ((strAt s i).bind fun b2 =>
          cond (decide (b2 < 48))
            (some (.inr (.inl (false, ()))))
            ((strAt s i).bind fun b3 =>
            cond (decide (b3 > 57))
              (some (.inr (.inl (false, ()))))
              (some (.inl (s, IntKind.i64.wrap (i + 1), ()))))))
        (some (.inl (s, IntKind.i64.wrap (i + 1), ()))))
      (cond (i == 0)
        (some (.inr (.inl (false, ()))))
        ((strAt s i).bind fun b1 =>
        cond (decide (b1 < 48))
          (some (.inr (.inl (false, ()))))
          ((strAt s i).bind fun b2 =>
          cond (decide (b2 > 57))
            (some (.inr (.inl (false, ()))))
            (some (.inl (s, IntKind.i64.wrap (i + 1), ())))))))
    (some (.inr (.inr (s, ()))))
noncomputable def L_spec_IsName_0 (s : ByteArray) (i : Int) : Option ((Bool × Unit) ⊕ (ByteArray × Unit)) := whileO S_spec_IsName_0 (s, i, ())
noncomputable def M_spec_IsName (s : ByteArray) : Option Bool :=
  (L_spec_IsName_0 s 0).bind fun r =>
  match r with
  | .inl (t, _) =>
    some t
  | .inr (s1, _) =>
    (M_spec_l01In (s1.size : Int) 1 8).bind fun r1 =>
    some r1

end Go.Di
/-
  Own work, written by program (gen.py) out of the functions of the given program: what they compute, as plain Lean.
-/
namespace Go.Di
noncomputable def S_impl_NatOf_0 : Int × (List Int) × Unit → Option ((Int × (List Int) × Unit) ⊕ ((List Int) × Unit)) := fun (n, out, _) =>
  cond (decide (n > 0))
    ((guardO (Nat.ble (out.length + 1) maxNew)).bind fun _ =>
    some (.inl (IntKind.i64.wrap (n.tdiv 1000000000), out ++ ([n.tmod 1000000000] : List Int), ())))
    (some (.inr (out, ())))
noncomputable def L_impl_NatOf_0 (n : Int) (out : List Int) : Option ((List Int) × Unit) := whileO S_impl_NatOf_0 (n, out, ())
noncomputable def M_impl_NatOf (n : Int) : Option (List Int) :=
  (L_impl_NatOf_0 n ([] : List Int)).bind fun (out, _) =>
  some out

noncomputable def S_impl_NatOk_0 : (List Int) × Int × Int × Unit → Option (((List Int) × Int × Int × Unit) ⊕ ((Bool × Unit) ⊕ (Unit))) := fun (t, t1, t2, _) =>
  cond (decide (t2 < t1))
    ((idx t t2).bind fun e =>
    cond (decide (e < 0))
      (some (.inr (.inl (false, ()))))
      (cond (decide (e ≥ 1000000000))
        (some (.inr (.inl (false, ()))))
        (some (.inl (t, t1, IntKind.i64.wrap (t2 + 1), ())))))
    (some (.inr (.inr (()))))
noncomputable def L_impl_NatOk_0 (t : List Int) (t1 : Int) (t2 : Int) : Option ((Bool × Unit) ⊕ (Unit)) := whileO S_impl_NatOk_0 (t, t1, t2, ())
noncomputable def M_impl_NatOk (a : List Int) : Option Bool :=
  cond (decide ((a.length : Int) > 60))
    (some false)
    (cond (decide ((a.length : Int) > 0))
      ((idx a (IntKind.i64.wrap ((a.length : Int) - 1))).bind fun e =>
      cond (e == 0)
        (some false)
        ((L_impl_NatOk_0 a (a.length : Int) 0).bind fun r =>
        match r with
        | .inl (t, _) =>
          some t
        | .inr _ =>
          some true))
      ((L_impl_NatOk_0 a (a.length : Int) 0).bind fun r =>
      match r with
      | .inl (t, _) =>
        some t
      | .inr _ =>
        some true))

noncomputable def S_impl_trim_c_0 : Int × (List Int) × Unit → Option ((Int × (List Int) × Unit) ⊕ (Int × (List Int) × Unit)) := fun (n, a, _) =>
  cond (decide (n > 0))
    ((idx a (IntKind.i64.wrap (n - 1))).bind fun _ =>
    (a[(IntKind.i64.wrap (n - 1)).toNat]?).bind fun e =>
    cond (e == 0)
      (some (.inl (IntKind.i64.wrap (n - 1), a, ())))
      (some (.inr (n, a, ()))))
    (some (.inr (n, a, ())))
noncomputable def L_impl_trim_c_0 (n : Int) (a : List Int) : Option (Int × (List Int) × Unit) := whileO S_impl_trim_c_0 (n, a, ())
noncomputable def M_impl_trim_c (a : List Int) : Option (List Int) :=
  (L_impl_trim_c_0 (a.length : Int) a).bind fun (n, a1, _) =>
  (guardO (inside a1.length (0, n))).bind fun _ =>
  some (a1.take n.toNat)

noncomputable def S_impl_divSmall_0 : (List Int) × Int × Int × Int × (List Int) × Unit → Option (((List Int) × Int × Int × Int × (List Int) × Unit) ⊕ (Int × (List Int) × Unit)) := fun (a, d, rest, i, out, _) =>
  cond (decide (i ≥ 0))
    ((idx a i).bind fun e =>
    (guardO (d != 0)).bind fun _ =>
    (idx out i).bind fun _ =>
    (guardO (d != 0)).bind fun _ =>
    some (.inl (a, d, (IntKind.i64.wrap ((IntKind.i64.wrap (rest * 1000000000)) + e)).tmod d, IntKind.i64.wrap (i - 1), out.set i.toNat (IntKind.i64.wrap ((IntKind.i64.wrap ((IntKind.i64.wrap (rest * 1000000000)) + e)).tdiv d)), ())))
    (some (.inr (rest, out, ())))
noncomputable def L_impl_divSmall_0 (a : List Int) (d : Int) (rest : Int) (i : Int) (out : List Int) : Option (Int × (List Int) × Unit) := whileO S_impl_divSmall_0 (a, d, rest, i, out, ())
noncomputable def M_impl_divSmall (a : List Int) (d : Int) : Option (List Int × List Int) :=
  (guardO (((decide (0 ≤ (a.length : Int))) && (decide ((a.length : Int) ≤ (a.length : Int)))) && (decide ((a.length : Int) ≤ (maxNew : Int))))).bind fun _ =>
  (L_impl_divSmall_0 a d 0 (IntKind.i64.wrap ((a.length : Int) - 1)) (List.replicate ((a.length : Int).toNat) 0 : List Int)).bind fun (rest, out, _) =>
  (M_impl_trim_c out).bind fun r =>
  (M_impl_NatOf rest).bind fun r1 =>
  some (r, r1)

noncomputable def S_impl_natAdd_0 : (List Int) × (List Int) × Int × Int × Int × (List Int) × Unit → Option (((List Int) × (List Int) × Int × Int × Int × (List Int) × Unit) ⊕ (Int × (List Int) × Unit)) := fun (a, b, carry, t, t1, out, _) =>
  cond (decide (t1 < t))
    ((idx a t1).bind fun e =>
    cond (decide (t1 < (b.length : Int)))
      ((idx b t1).bind fun e1 =>
      cond (decide ((IntKind.i64.wrap ((IntKind.i64.wrap (e + carry)) + e1)) ≥ 1000000000))
        ((guardO (Nat.ble (out.length + 1) maxNew)).bind fun _ =>
        some (.inl (a, b, 1, t, IntKind.i64.wrap (t1 + 1), out ++ ([IntKind.i64.wrap ((IntKind.i64.wrap ((IntKind.i64.wrap (e + carry)) + e1)) - 1000000000)] : List Int), ())))
        ((guardO (Nat.ble (out.length + 1) maxNew)).bind fun _ =>
        some (.inl (a, b, 0, t, IntKind.i64.wrap (t1 + 1), out ++ ([IntKind.i64.wrap ((IntKind.i64.wrap (e + carry)) + e1)] : List Int), ()))))
      (cond (decide ((IntKind.i64.wrap (e + carry)) ≥ 1000000000))
        ((guardO (Nat.ble (out.length + 1) maxNew)).bind fun _ =>
        some (.inl (a, b, 1, t, IntKind.i64.wrap (t1 + 1), out ++ ([IntKind.i64.wrap ((IntKind.i64.wrap (e + carry)) - 1000000000)] : List Int), ())))
        ((guardO (Nat.ble (out.length + 1) maxNew)).bind fun _ =>
        some (.inl (a, b, 0, t, IntKind.i64.wrap (t1 + 1), out ++ ([IntKind.i64.wrap (e + carry)] : List Int), ())))))
    (some (.inr (carry, out, ())))
noncomputable def L_impl_natAdd_0 (a : List Int) (b : List Int) (carry : Int) (t : Int) (t1 : Int) (out : List Int) : Option (Int × (List Int) × Unit) := whileO S_impl_natAdd_0 (a, b, carry, t, t1, out, ())
noncomputable def M_impl_natAdd (a : List Int) (b : List Int) : Option (List Int) :=
  cond (decide ((a.length : Int) < (b.length : Int)))
    ((guardO ((decide (0 ≤ (IntKind.i64.wrap ((b.length : Int) + 1)))) && (decide ((IntKind.i64.wrap ((b.length : Int) + 1)) ≤ (maxNew : Int))))).bind fun _ =>
    (L_impl_natAdd_0 b a 0 (b.length : Int) 0 (List.replicate 0 0 : List Int)).bind fun (carry, out, _) =>
    cond (decide (carry > 0))
      ((guardO (Nat.ble (out.length + 1) maxNew)).bind fun _ =>
      some (out ++ ([1] : List Int)))
      (some out))
    ((guardO ((decide (0 ≤ (IntKind.i64.wrap ((a.length : Int) + 1)))) && (decide ((IntKind.i64.wrap ((a.length : Int) + 1)) ≤ (maxNew : Int))))).bind fun _ =>
    (L_impl_natAdd_0 a b 0 (a.length : Int) 0 (List.replicate 0 0 : List Int)).bind fun (carry, out, _) =>
    cond (decide (carry > 0))
      ((guardO (Nat.ble (out.length + 1) maxNew)).bind fun _ =>
      some (out ++ ([1] : List Int)))
      (some out))

noncomputable def S_impl_natCmp_0 : (List Int) × (List Int) × Int × Unit → Option (((List Int) × (List Int) × Int × Unit) ⊕ ((Int × Unit) ⊕ (Unit))) := fun (a, b, i, _) =>
  cond (decide (i ≥ 0))
    ((idx a i).bind fun e =>
    (idx b i).bind fun e1 =>
    cond (decide (e < e1))
      (some (.inr (.inl ((-1), ()))))
      ((idx a i).bind fun e2 =>
      (idx b i).bind fun e3 =>
      cond (decide (e2 > e3))
        (some (.inr (.inl (1, ()))))
        (some (.inl (a, b, IntKind.i64.wrap (i - 1), ())))))
    (some (.inr (.inr (()))))
noncomputable def L_impl_natCmp_0 (a : List Int) (b : List Int) (i : Int) : Option ((Int × Unit) ⊕ (Unit)) := whileO S_impl_natCmp_0 (a, b, i, ())
noncomputable def M_impl_natCmp (a : List Int) (b : List Int) : Option Int :=
  cond ((a.length : Int) != (b.length : Int))
    (cond (decide ((a.length : Int) < (b.length : Int)))
      (some (-1))
      (some 1))
    ((L_impl_natCmp_0 a b (IntKind.i64.wrap ((a.length : Int) - 1))).bind fun r =>
    match r with
    | .inl (t, _) =>
      some t
    | .inr _ =>
      some 0)

noncomputable def S_impl_natMul_1 : (List Int) × Int × Int × Int × (List Int) × Int × Int × (List Int) × Int × Int × (List Int) × Unit → Option (((List Int) × Int × Int × Int × (List Int) × Int × Int × (List Int) × Int × Int × (List Int) × Unit) ⊕ ((List Int) × Int × Int × (List Int) × Int × Int × (List Int) × Unit)) := fun (b, i, x, carry, t, t1, t2, t3, t4, t5, out, _) =>
  cond (decide (t5 < t4))
    ((idx t3 t5).bind fun e =>
    (idx out (IntKind.i64.wrap (i + t5))).bind fun _ =>
    (out[(IntKind.i64.wrap (i + t5)).toNat]?).bind fun e1 =>
    (idx out (IntKind.i64.wrap (i + t5))).bind fun _ =>
    some (.inl (b, i, x, IntKind.i64.wrap ((IntKind.i64.wrap ((IntKind.i64.wrap (e1 + (IntKind.i64.wrap (x * e)))) + carry)).tdiv 1000000000), t, t1, t2, t3, t4, IntKind.i64.wrap (t5 + 1), out.set ((IntKind.i64.wrap (i + t5)).toNat) ((IntKind.i64.wrap ((IntKind.i64.wrap (e1 + (IntKind.i64.wrap (x * e)))) + carry)).tmod 1000000000), ())))
    (some (.inr (b, i, carry, t, t1, t2, out, ())))
noncomputable def L_impl_natMul_1 (b : List Int) (i : Int) (x : Int) (carry : Int) (t : List Int) (t1 : Int) (t2 : Int) (t3 : List Int) (t4 : Int) (t5 : Int) (out : List Int) : Option ((List Int) × Int × Int × (List Int) × Int × Int × (List Int) × Unit) := whileO S_impl_natMul_1 (b, i, x, carry, t, t1, t2, t3, t4, t5, out, ())
noncomputable def S_impl_natMul_0 : (List Int) × (List Int) × Int × Int × (List Int) × Unit → Option (((List Int) × (List Int) × Int × Int × (List Int) × Unit) ⊕ ((List Int) × Unit)) := fun (b, t, t1, t2, out, _) =>
  cond (decide (t2 < t1))
    ((idx t t2).bind fun e =>
    (L_impl_natMul_1 b t2 e 0 t t1 t2 b (b.length : Int) 0 out).bind fun (b1, i, carry, t3, t4, t5, out1, _) =>
    (idx out1 (IntKind.i64.wrap (i + (b1.length : Int)))).bind fun _ =>
    (out1[(IntKind.i64.wrap (i + (b1.length : Int))).toNat]?).bind fun e1 =>
    (idx out1 (IntKind.i64.wrap (i + (b1.length : Int)))).bind fun _ =>
    some (.inl (b1, t3, t4, IntKind.i64.wrap (t5 + 1), out1.set ((IntKind.i64.wrap (i + (b1.length : Int))).toNat) (IntKind.i64.wrap (e1 + carry)), ())))
    (some (.inr (out, ())))
noncomputable def L_impl_natMul_0 (b : List Int) (t : List Int) (t1 : Int) (t2 : Int) (out : List Int) : Option ((List Int) × Unit) := whileO S_impl_natMul_0 (b, t, t1, t2, out, ())
noncomputable def M_impl_natMul (a : List Int) (b : List Int) : Option (List Int) :=
  (guardO (((decide (0 ≤ (IntKind.i64.wrap ((a.length : Int) + (b.length : Int))))) && (decide ((IntKind.i64.wrap ((a.length : Int) + (b.length : Int))) ≤ (IntKind.i64.wrap ((a.length : Int) + (b.length : Int)))))) && (decide ((IntKind.i64.wrap ((a.length : Int) + (b.length : Int))) ≤ (maxNew : Int))))).bind fun _ =>
  (L_impl_natMul_0 b a (a.length : Int) 0 (List.replicate ((IntKind.i64.wrap ((a.length : Int) + (b.length : Int))).toNat) 0 : List Int)).bind fun (out, _) =>
  (M_impl_trim_c out).bind fun r =>
  some r

noncomputable def S_impl_natDiv_4 : Int × Int × Int × Int × Int × Int × Int × Int × (List Int) × (List Int) × (List Int) × Unit → Option ((Int × Int × Int × Int × Int × Int × Int × Int × (List Int) × (List Int) × (List Int) × Unit) ⊕ (Int × Int × Int × Int × Int × Int × (List Int) × (List Int) × (List Int) × Unit)) := fun (f, n, top, k, q, carry, t, t1, x, y, out, _) =>
  cond (decide (t1 < t))
    ((idx x (IntKind.i64.wrap (k + t1))).bind fun _ =>
    (x[(IntKind.i64.wrap (k + t1)).toNat]?).bind fun e =>
    (idx y t1).bind fun _ =>
    (y[t1.toNat]?).bind fun e1 =>
    cond (decide ((IntKind.i64.wrap ((IntKind.i64.wrap (e + e1)) + carry)) ≥ 1000000000))
      ((idx x (IntKind.i64.wrap (k + t1))).bind fun _ =>
      some (.inl (f, n, top, k, q, 1, t, IntKind.i64.wrap (t1 + 1), x.set ((IntKind.i64.wrap (k + t1)).toNat) (IntKind.i64.wrap ((IntKind.i64.wrap ((IntKind.i64.wrap (e + e1)) + carry)) - 1000000000)), y, out, ())))
      ((idx x (IntKind.i64.wrap (k + t1))).bind fun _ =>
      some (.inl (f, n, top, k, q, 0, t, IntKind.i64.wrap (t1 + 1), x.set ((IntKind.i64.wrap (k + t1)).toNat) (IntKind.i64.wrap ((IntKind.i64.wrap (e + e1)) + carry)), y, out, ()))))
    (some (.inr (f, n, top, k, q, carry, x, y, out, ())))
noncomputable def L_impl_natDiv_4 (f : Int) (n : Int) (top : Int) (k : Int) (q : Int) (carry : Int) (t : Int) (t1 : Int) (x : List Int) (y : List Int) (out : List Int) : Option (Int × Int × Int × Int × Int × Int × (List Int) × (List Int) × (List Int) × Unit) := whileO S_impl_natDiv_4 (f, n, top, k, q, carry, t, t1, x, y, out, ())
noncomputable def S_impl_natDiv_3 : Int × Int × Int × Int × Int × Int × Int × Int × (List Int) × (List Int) × (List Int) × Unit → Option ((Int × Int × Int × Int × Int × Int × Int × Int × (List Int) × (List Int) × (List Int) × Unit) ⊕ (Int × Int × Int × Int × Int × Int × (List Int) × (List Int) × (List Int) × Unit)) := fun (f, n, top, k, q, borrow, t, t1, x, y, out, _) =>
  cond (decide (t1 < t))
    ((idx x (IntKind.i64.wrap (k + t1))).bind fun _ =>
    (x[(IntKind.i64.wrap (k + t1)).toNat]?).bind fun e =>
    (idx y t1).bind fun _ =>
    (y[t1.toNat]?).bind fun e1 =>
    cond (decide ((IntKind.i64.wrap ((IntKind.i64.wrap (e - (IntKind.i64.wrap (q * e1)))) - borrow)) < 0))
      ((idx x (IntKind.i64.wrap (k + t1))).bind fun _ =>
      some (.inl (f, n, top, k, q, IntKind.i64.wrap ((IntKind.i64.wrap (999999999 - (IntKind.i64.wrap ((IntKind.i64.wrap (e - (IntKind.i64.wrap (q * e1)))) - borrow)))).tdiv 1000000000), t, IntKind.i64.wrap (t1 + 1), x.set ((IntKind.i64.wrap (k + t1)).toNat) (IntKind.i64.wrap ((IntKind.i64.wrap ((IntKind.i64.wrap (e - (IntKind.i64.wrap (q * e1)))) - borrow)) + (IntKind.i64.wrap ((IntKind.i64.wrap ((IntKind.i64.wrap (999999999 - (IntKind.i64.wrap ((IntKind.i64.wrap (e - (IntKind.i64.wrap (q * e1)))) - borrow)))).tdiv 1000000000)) * 1000000000)))), y, out, ())))
      ((idx x (IntKind.i64.wrap (k + t1))).bind fun _ =>
      some (.inl (f, n, top, k, q, 0, t, IntKind.i64.wrap (t1 + 1), x.set ((IntKind.i64.wrap (k + t1)).toNat) (IntKind.i64.wrap ((IntKind.i64.wrap (e - (IntKind.i64.wrap (q * e1)))) - borrow)), y, out, ()))))
    (some (.inr (f, n, top, k, q, borrow, x, y, out, ())))
noncomputable def L_impl_natDiv_3 (f : Int) (n : Int) (top : Int) (k : Int) (q : Int) (borrow : Int) (t : Int) (t1 : Int) (x : List Int) (y : List Int) (out : List Int) : Option (Int × Int × Int × Int × Int × Int × (List Int) × (List Int) × (List Int) × Unit) := whileO S_impl_natDiv_3 (f, n, top, k, q, borrow, t, t1, x, y, out, ())
noncomputable def S_impl_natDiv_2 : Int × Int × Int × Int × Int × Int × (List Int) × (List Int) × (List Int) × Unit → Option ((Int × Int × Int × Int × Int × Int × (List Int) × (List Int) × (List Int) × Unit) ⊕ (Int × Int × Int × Int × Int × (List Int) × (List Int) × (List Int) × Unit)) := fun (f, n, top, k, q, r, x, y, out, _) =>
  cond (decide (q ≥ 1000000000))
    (cond (decide ((IntKind.i64.wrap (r + top)) ≥ 1000000000))
      (some (.inr (f, n, top, k, IntKind.i64.wrap (q - 1), x, y, out, ())))
      (some (.inl (f, n, top, k, IntKind.i64.wrap (q - 1), IntKind.i64.wrap (r + top), x, y, out, ()))))
    ((idx y (IntKind.i64.wrap (n - 2))).bind fun _ =>
    (y[(IntKind.i64.wrap (n - 2)).toNat]?).bind fun e =>
    (idx x (IntKind.i64.wrap ((IntKind.i64.wrap (k + n)) - 2))).bind fun _ =>
    (x[(IntKind.i64.wrap ((IntKind.i64.wrap (k + n)) - 2)).toNat]?).bind fun e1 =>
    cond (decide ((IntKind.i64.wrap (q * e)) > (IntKind.i64.wrap ((IntKind.i64.wrap (r * 1000000000)) + e1))))
      (cond (decide ((IntKind.i64.wrap (r + top)) ≥ 1000000000))
        (some (.inr (f, n, top, k, IntKind.i64.wrap (q - 1), x, y, out, ())))
        (some (.inl (f, n, top, k, IntKind.i64.wrap (q - 1), IntKind.i64.wrap (r + top), x, y, out, ()))))
      (some (.inr (f, n, top, k, q, x, y, out, ()))))
noncomputable def L_impl_natDiv_2 (f : Int) (n : Int) (top : Int) (k : Int) (q : Int) (r : Int) (x : List Int) (y : List Int) (out : List Int) : Option (Int × Int × Int × Int × Int × (List Int) × (List Int) × (List Int) × Unit) := whileO S_impl_natDiv_2 (f, n, top, k, q, r, x, y, out, ())
noncomputable def S_impl_natDiv_1 : Int × Int × Int × Int × (List Int) × (List Int) × (List Int) × Unit → Option ((Int × Int × Int × Int × (List Int) × (List Int) × (List Int) × Unit) ⊕ (Int × (List Int) × (List Int) × Unit)) := fun (f, n, top, k, x, y, out, _) =>
  cond (decide (k ≥ 0))
    ((idx x (IntKind.i64.wrap (k + n))).bind fun _ =>
    (x[(IntKind.i64.wrap (k + n)).toNat]?).bind fun e =>
    (idx x (IntKind.i64.wrap ((IntKind.i64.wrap (k + n)) - 1))).bind fun _ =>
    (x[(IntKind.i64.wrap ((IntKind.i64.wrap (k + n)) - 1)).toNat]?).bind fun e1 =>
    (guardO (top != 0)).bind fun _ =>
    (guardO (top != 0)).bind fun _ =>
    (L_impl_natDiv_2 f n top k (IntKind.i64.wrap ((IntKind.i64.wrap ((IntKind.i64.wrap (e * 1000000000)) + e1)).tdiv top)) ((IntKind.i64.wrap ((IntKind.i64.wrap (e * 1000000000)) + e1)).tmod top) x y out).bind fun (f1, n1, top1, k1, q, x1, y1, out1, _) =>
    (L_impl_natDiv_3 f1 n1 top1 k1 q 0 n1 0 x1 y1 out1).bind fun (f2, n2, top2, k2, q1, borrow, x2, y2, out2, _) =>
    (idx x2 (IntKind.i64.wrap (k2 + n2))).bind fun _ =>
    (x2[(IntKind.i64.wrap (k2 + n2)).toNat]?).bind fun e2 =>
    (idx x2 (IntKind.i64.wrap (k2 + n2))).bind fun _ =>
    (idx (x2.set ((IntKind.i64.wrap (k2 + n2)).toNat) (IntKind.i64.wrap (e2 - borrow))) (IntKind.i64.wrap (k2 + n2))).bind fun _ =>
    ((x2.set ((IntKind.i64.wrap (k2 + n2)).toNat) (IntKind.i64.wrap (e2 - borrow)))[(IntKind.i64.wrap (k2 + n2)).toNat]?).bind fun e3 =>
    cond (decide (e3 < 0))
      ((L_impl_natDiv_4 f2 n2 top2 k2 (IntKind.i64.wrap (q1 - 1)) 0 n2 0 (x2.set ((IntKind.i64.wrap (k2 + n2)).toNat) (IntKind.i64.wrap (e2 - borrow))) y2 out2).bind fun (f3, n3, top3, k3, q2, carry, x3, y3, out3, _) =>
      (idx x3 (IntKind.i64.wrap (k3 + n3))).bind fun _ =>
      (x3[(IntKind.i64.wrap (k3 + n3)).toNat]?).bind fun e4 =>
      (idx x3 (IntKind.i64.wrap (k3 + n3))).bind fun _ =>
      (idx out3 k3).bind fun _ =>
      some (.inl (f3, n3, top3, IntKind.i64.wrap (k3 - 1), x3.set ((IntKind.i64.wrap (k3 + n3)).toNat) (IntKind.i64.wrap (e4 + carry)), y3, out3.set k3.toNat q2, ())))
      ((idx out2 k2).bind fun _ =>
      some (.inl (f2, n2, top2, IntKind.i64.wrap (k2 - 1), x2.set ((IntKind.i64.wrap (k2 + n2)).toNat) (IntKind.i64.wrap (e2 - borrow)), y2, out2.set k2.toNat q1, ()))))
    (some (.inr (f, x, out, ())))
noncomputable def L_impl_natDiv_1 (f : Int) (n : Int) (top : Int) (k : Int) (x : List Int) (y : List Int) (out : List Int) : Option (Int × (List Int) × (List Int) × Unit) := whileO S_impl_natDiv_1 (f, n, top, k, x, y, out, ())
noncomputable def S_impl_natDiv_0 : (List Int) × Int × Int × (List Int) × (List Int) × Unit → Option (((List Int) × Int × Int × (List Int) × (List Int) × Unit) ⊕ (Int × Int × (List Int) × (List Int) × Unit)) := fun (a, f, n, x, y, _) =>
  cond (decide ((x.length : Int) ≤ (a.length : Int)))
    ((guardO (Nat.ble (x.length + 1) maxNew)).bind fun _ =>
    some (.inl (a, f, n, x ++ ([0] : List Int), y, ())))
    (some (.inr (f, n, x, y, ())))
noncomputable def L_impl_natDiv_0 (a : List Int) (f : Int) (n : Int) (x : List Int) (y : List Int) : Option (Int × Int × (List Int) × (List Int) × Unit) := whileO S_impl_natDiv_0 (a, f, n, x, y, ())
noncomputable def M_impl_natDiv (a : List Int) (b : List Int) : Option (List Int × List Int) :=
  (M_impl_natCmp a b).bind fun r =>
  cond (decide (r < 0))
    ((M_impl_copyInts a).bind fun r1 =>
    some (([] : List Int), r1))
    (cond ((b.length : Int) == 1)
      ((idx b 0).bind fun e =>
      (M_impl_divSmall a e).bind fun (r0, r1) =>
      some (r0, r1))
      ((idx b (IntKind.i64.wrap ((b.length : Int) - 1))).bind fun e =>
      (guardO ((IntKind.i64.wrap (e + 1)) != 0)).bind fun _ =>
      (M_impl_natMul a ([IntKind.i64.wrap ((1000000000 : Int).tdiv (IntKind.i64.wrap (e + 1)))] : List Int)).bind fun r1 =>
      (M_impl_natMul b ([IntKind.i64.wrap ((1000000000 : Int).tdiv (IntKind.i64.wrap (e + 1)))] : List Int)).bind fun r2 =>
      (L_impl_natDiv_0 a (IntKind.i64.wrap ((1000000000 : Int).tdiv (IntKind.i64.wrap (e + 1)))) (r2.length : Int) r1 r2).bind fun (f, n, x, y, _) =>
      (guardO (((decide (0 ≤ (IntKind.i64.wrap ((x.length : Int) - n)))) && (decide ((IntKind.i64.wrap ((x.length : Int) - n)) ≤ (IntKind.i64.wrap ((x.length : Int) - n))))) && (decide ((IntKind.i64.wrap ((x.length : Int) - n)) ≤ (maxNew : Int))))).bind fun _ =>
      (idx y (IntKind.i64.wrap (n - 1))).bind fun _ =>
      (y[(IntKind.i64.wrap (n - 1)).toNat]?).bind fun e1 =>
      (L_impl_natDiv_1 f n e1 (IntKind.i64.wrap ((IntKind.i64.wrap ((x.length : Int) - n)) - 1)) x y (List.replicate ((IntKind.i64.wrap ((x.length : Int) - n)).toNat) 0 : List Int)).bind fun (f1, x1, out, _) =>
      (M_impl_trim_c x1).bind fun r3 =>
      (M_impl_divSmall r3 f1).bind fun (r0, _) =>
      (M_impl_trim_c out).bind fun r4 =>
      some (r4, r0)))

noncomputable def S_impl_natGcd_1 : Int × Int × Unit → Option ((Int × Int × Unit) ⊕ (Int × Unit)) := fun (x, y, _) =>
  cond (y != 0)
    ((guardO (y != 0)).bind fun _ =>
    some (.inl (y, x.tmod y, ())))
    (some (.inr (x, ())))
noncomputable def L_impl_natGcd_1 (x : Int) (y : Int) : Option (Int × Unit) := whileO S_impl_natGcd_1 (x, y, ())
noncomputable def S_impl_natGcd_0 : (List Int) × (List Int) × Unit → Option (((List Int) × (List Int) × Unit) ⊕ ((List Int) × (List Int) × Unit)) := fun (a, b, _) =>
  cond (decide ((b.length : Int) > 1))
    ((M_impl_natDiv a b).bind fun (_, r1) =>
    some (.inl (b, r1, ())))
    (cond (decide ((a.length : Int) > 1))
      (cond (decide ((b.length : Int) > 0))
        ((M_impl_natDiv a b).bind fun (_, r1) =>
        some (.inl (b, r1, ())))
        (some (.inr (a, b, ()))))
      (some (.inr (a, b, ()))))
noncomputable def L_impl_natGcd_0 (a : List Int) (b : List Int) : Option ((List Int) × (List Int) × Unit) := whileO S_impl_natGcd_0 (a, b, ())
noncomputable def M_impl_natGcd (a : List Int) (b : List Int) : Option (List Int) :=
  (L_impl_natGcd_0 a b).bind fun (a1, b1, _) =>
  cond ((b1.length : Int) == 0)
    ((M_impl_copyInts a1).bind fun r =>
    some r)
    ((idx a1 0).bind fun e =>
    (idx b1 0).bind fun e1 =>
    (L_impl_natGcd_1 e e1).bind fun (x, _) =>
    some ([x] : List Int))

noncomputable def S_impl_natSub_0 : (List Int) × Int × Int × Int × (List Int) × Unit → Option (((List Int) × Int × Int × Int × (List Int) × Unit) ⊕ ((List Int) × Unit)) := fun (b, borrow, t, t1, out, _) =>
  cond (decide (t1 < t))
    ((idx out t1).bind fun _ =>
    (out[t1.toNat]?).bind fun e =>
    cond (decide (t1 < (b.length : Int)))
      ((idx b t1).bind fun e1 =>
      cond (decide ((IntKind.i64.wrap ((IntKind.i64.wrap (e - borrow)) - e1)) < 0))
        ((idx out t1).bind fun _ =>
        some (.inl (b, 1, t, IntKind.i64.wrap (t1 + 1), out.set t1.toNat (IntKind.i64.wrap ((IntKind.i64.wrap ((IntKind.i64.wrap (e - borrow)) - e1)) + 1000000000)), ())))
        ((idx out t1).bind fun _ =>
        some (.inl (b, 0, t, IntKind.i64.wrap (t1 + 1), out.set t1.toNat (IntKind.i64.wrap ((IntKind.i64.wrap (e - borrow)) - e1)), ()))))
      (cond (decide ((IntKind.i64.wrap (e - borrow)) < 0))
        ((idx out t1).bind fun _ =>
        some (.inl (b, 1, t, IntKind.i64.wrap (t1 + 1), out.set t1.toNat (IntKind.i64.wrap ((IntKind.i64.wrap (e - borrow)) + 1000000000)), ())))
        ((idx out t1).bind fun _ =>
        some (.inl (b, 0, t, IntKind.i64.wrap (t1 + 1), out.set t1.toNat (IntKind.i64.wrap (e - borrow)), ())))))
    (some (.inr (out, ())))
noncomputable def L_impl_natSub_0 (b : List Int) (borrow : Int) (t : Int) (t1 : Int) (out : List Int) : Option ((List Int) × Unit) := whileO S_impl_natSub_0 (b, borrow, t, t1, out, ())
noncomputable def M_impl_natSub (a : List Int) (b : List Int) : Option (List Int) :=
  (M_impl_copyInts a).bind fun r =>
  (L_impl_natSub_0 b 0 (r.length : Int) 0 r).bind fun (out, _) =>
  (M_impl_trim_c out).bind fun r1 =>
  some r1

noncomputable def S_impl_trim_0 : (List Int) × Int × Unit → Option (((List Int) × Int × Unit) ⊕ ((List Int) × Int × Unit)) := fun (a, n, _) =>
  cond (decide (n > 0))
    ((idx a (IntKind.i64.wrap (n - 1))).bind fun e =>
    cond (e == 0)
      (some (.inl (a, IntKind.i64.wrap (n - 1), ())))
      (some (.inr (a, n, ()))))
    (some (.inr (a, n, ())))
noncomputable def L_impl_trim_0 (a : List Int) (n : Int) : Option ((List Int) × Int × Unit) := whileO S_impl_trim_0 (a, n, ())
noncomputable def M_impl_trim (a : List Int) : Option (List Int) :=
  (L_impl_trim_0 a (a.length : Int)).bind fun (a1, n, _) =>
  (guardO (inside a1.length (0, n))).bind fun _ =>
  some (cut a1 0 n.toNat)

noncomputable def S_spec_NatOf_0 : Int × (List Int) × Unit → Option ((Int × (List Int) × Unit) ⊕ ((List Int) × Unit)) := fun (n, out, _) =>
  cond (decide (n > 0))
    ((guardO (Nat.ble (out.length + 1) maxNew)).bind fun _ =>
    some (.inl (IntKind.i64.wrap (n.tdiv 1000000000), out ++ ([n.tmod 1000000000] : List Int), ())))
    (some (.inr (out, ())))
noncomputable def L_spec_NatOf_0 (n : Int) (out : List Int) : Option ((List Int) × Unit) := whileO S_spec_NatOf_0 (n, out, ())
noncomputable def M_spec_NatOf (n : Int) : Option (List Int) :=
  (L_spec_NatOf_0 n ([] : List Int)).bind fun (out, _) =>
  some out

noncomputable def S_spec_NatOk_0 : (List Int) × (List Int) × Int × Int × Unit → Option (((List Int) × (List Int) × Int × Int × Unit) ⊕ ((Bool × Unit) ⊕ ((List Int) × Unit))) := fun (a, t, t1, t2, _) =>
  cond (decide (t2 < t1))
    ((idx t t2).bind fun e =>
    (M_spec_l01In e 0 999999999).bind fun r =>
    cond (!r)
      (some (.inr (.inl (false, ()))))
      (some (.inl (a, t, t1, IntKind.i64.wrap (t2 + 1), ()))))
    (some (.inr (.inr (a, ()))))
noncomputable def L_spec_NatOk_0 (a : List Int) (t : List Int) (t1 : Int) (t2 : Int) : Option ((Bool × Unit) ⊕ ((List Int) × Unit)) := whileO S_spec_NatOk_0 (a, t, t1, t2, ())
noncomputable def M_spec_NatOk (a : List Int) : Option Bool :=
  (L_spec_NatOk_0 a a (a.length : Int) 0).bind fun r =>
  match r with
  | .inl (t, _) =>
    some t
  | .inr (a1, _) =>
    cond (decide ((a1.length : Int) ≤ 60))
      (cond ((a1.length : Int) == 0)
        (some true)
        ((idx a1 (IntKind.i64.wrap ((a1.length : Int) - 1))).bind fun e =>
        some (e != 0)))
      (some false)

noncomputable def S_spec_l02Cmp_0 : (List Int) × (List Int) × Int × Unit → Option (((List Int) × (List Int) × Int × Unit) ⊕ ((Int × Unit) ⊕ (Unit))) := fun (a, b, i, _) =>
  cond (decide (i ≥ 0))
    ((idx a i).bind fun e =>
    (idx b i).bind fun e1 =>
    cond (decide (e < e1))
      (some (.inr (.inl ((-1), ()))))
      ((idx a i).bind fun e2 =>
      (idx b i).bind fun e3 =>
      cond (decide (e2 > e3))
        (some (.inr (.inl (1, ()))))
        (some (.inl (a, b, IntKind.i64.wrap (i - 1), ())))))
    (some (.inr (.inr (()))))
noncomputable def L_spec_l02Cmp_0 (a : List Int) (b : List Int) (i : Int) : Option ((Int × Unit) ⊕ (Unit)) := whileO S_spec_l02Cmp_0 (a, b, i, ())
noncomputable def M_spec_l02Cmp (a : List Int) (b : List Int) : Option Int :=
  cond ((a.length : Int) != (b.length : Int))
    (cond (decide ((a.length : Int) < (b.length : Int)))
      (some (-1))
      (some 1))
    ((L_spec_l02Cmp_0 a b (IntKind.i64.wrap ((a.length : Int) - 1))).bind fun r =>
    match r with
    | .inl (t, _) =>
      some t
    | .inr _ =>
      some 0)

noncomputable def S_spec_NatToInt_0 : (List Int) × Int × Int × Unit → Option (((List Int) × Int × Int × Unit) ⊕ (Int × Unit)) := fun (a, n, i, _) =>
  cond (decide (i ≥ 0))
    ((idx a i).bind fun e =>
    some (.inl (a, IntKind.i64.wrap ((IntKind.i64.wrap (n * 1000000000)) + e), IntKind.i64.wrap (i - 1), ())))
    (some (.inr (n, ())))
noncomputable def L_spec_NatToInt_0 (a : List Int) (n : Int) (i : Int) : Option (Int × Unit) := whileO S_spec_NatToInt_0 (a, n, i, ())
noncomputable def M_spec_NatToInt (a : List Int) : Option (Int × Bool) :=
  (M_spec_NatOk a).bind fun r =>
  cond (!r)
    (some (0, false))
    ((M_spec_l02Cmp a ([854775807, 223372036, 9] : List Int)).bind fun r1 =>
    cond (decide (r1 > 0))
      (some (0, false))
      ((L_spec_NatToInt_0 a 0 (IntKind.i64.wrap ((a.length : Int) - 1))).bind fun (n, _) =>
      some (n, true)))

noncomputable def S_spec_l02Add_0 : (List Int) × (List Int) × Int × Int × (List Int) × Unit → Option (((List Int) × (List Int) × Int × Int × (List Int) × Unit) ⊕ ((List Int) × Unit)) := fun (a, b, carry, i, out, _) =>
  cond (decide (i < (a.length : Int)))
    (cond (decide (i < (a.length : Int)))
      ((idx a i).bind fun e =>
      cond (decide (i < (b.length : Int)))
        ((idx b i).bind fun e1 =>
        (guardO (Nat.ble (out.length + 1) maxNew)).bind fun _ =>
        some (.inl (a, b, IntKind.i64.wrap ((IntKind.i64.wrap ((IntKind.i64.wrap (carry + e)) + e1)).tdiv 1000000000), IntKind.i64.wrap (i + 1), out ++ ([(IntKind.i64.wrap ((IntKind.i64.wrap (carry + e)) + e1)).tmod 1000000000] : List Int), ())))
        ((guardO (Nat.ble (out.length + 1) maxNew)).bind fun _ =>
        some (.inl (a, b, IntKind.i64.wrap ((IntKind.i64.wrap (carry + e)).tdiv 1000000000), IntKind.i64.wrap (i + 1), out ++ ([(IntKind.i64.wrap (carry + e)).tmod 1000000000] : List Int), ()))))
      (cond (decide (i < (b.length : Int)))
        ((idx b i).bind fun e =>
        (guardO (Nat.ble (out.length + 1) maxNew)).bind fun _ =>
        some (.inl (a, b, IntKind.i64.wrap ((IntKind.i64.wrap (carry + e)).tdiv 1000000000), IntKind.i64.wrap (i + 1), out ++ ([(IntKind.i64.wrap (carry + e)).tmod 1000000000] : List Int), ())))
        ((guardO (Nat.ble (out.length + 1) maxNew)).bind fun _ =>
        some (.inl (a, b, IntKind.i64.wrap (carry.tdiv 1000000000), IntKind.i64.wrap (i + 1), out ++ ([carry.tmod 1000000000] : List Int), ())))))
    (cond (decide (i < (b.length : Int)))
      (cond (decide (i < (a.length : Int)))
        ((idx a i).bind fun e =>
        cond (decide (i < (b.length : Int)))
          ((idx b i).bind fun e1 =>
          (guardO (Nat.ble (out.length + 1) maxNew)).bind fun _ =>
          some (.inl (a, b, IntKind.i64.wrap ((IntKind.i64.wrap ((IntKind.i64.wrap (carry + e)) + e1)).tdiv 1000000000), IntKind.i64.wrap (i + 1), out ++ ([(IntKind.i64.wrap ((IntKind.i64.wrap (carry + e)) + e1)).tmod 1000000000] : List Int), ())))
          ((guardO (Nat.ble (out.length + 1) maxNew)).bind fun _ =>
          some (.inl (a, b, IntKind.i64.wrap ((IntKind.i64.wrap (carry + e)).tdiv 1000000000), IntKind.i64.wrap (i + 1), out ++ ([(IntKind.i64.wrap (carry + e)).tmod 1000000000] : List Int), ()))))
        (cond (decide (i < (b.length : Int)))
          ((idx b i).bind fun e =>
          (guardO (Nat.ble (out.length + 1) maxNew)).bind fun _ =>
          some (.inl (a, b, IntKind.i64.wrap ((IntKind.i64.wrap (carry + e)).tdiv 1000000000), IntKind.i64.wrap (i + 1), out ++ ([(IntKind.i64.wrap (carry + e)).tmod 1000000000] : List Int), ())))
          ((guardO (Nat.ble (out.length + 1) maxNew)).bind fun _ =>
          some (.inl (a, b, IntKind.i64.wrap (carry.tdiv 1000000000), IntKind.i64.wrap (i + 1), out ++ ([carry.tmod 1000000000] : List Int), ())))))
      (cond (decide (carry > 0))
        (cond (decide (i < (a.length : Int)))
          ((idx a i).bind fun e =>
          cond (decide (i < (b.length : Int)))
            ((idx b i).bind fun e1 =>
            (guardO (Nat.ble (out.length + 1) maxNew)).bind fun _ =>
            some (.inl (a, b, IntKind.i64.wrap ((IntKind.i64.wrap ((IntKind.i64.wrap (carry + e)) + e1)).tdiv 1000000000), IntKind.i64.wrap (i + 1), out ++ ([(IntKind.i64.wrap ((IntKind.i64.wrap (carry + e)) + e1)).tmod 1000000000] : List Int), ())))
            ((guardO (Nat.ble (out.length + 1) maxNew)).bind fun _ =>
            some (.inl (a, b, IntKind.i64.wrap ((IntKind.i64.wrap (carry + e)).tdiv 1000000000), IntKind.i64.wrap (i + 1), out ++ ([(IntKind.i64.wrap (carry + e)).tmod 1000000000] : List Int), ()))))
          (cond (decide (i < (b.length : Int)))
            ((idx b i).bind fun e =>
            (guardO (Nat.ble (out.length + 1) maxNew)).bind fun _ =>
            some (.inl (a, b, IntKind.i64.wrap ((IntKind.i64.wrap (carry + e)).tdiv 1000000000), IntKind.i64.wrap (i + 1), out ++ ([(IntKind.i64.wrap (carry + e)).tmod 1000000000] : List Int), ())))
            ((guardO (Nat.ble (out.length + 1) maxNew)).bind fun _ =>
            some (.inl (a, b, IntKind.i64.wrap (carry.tdiv 1000000000), IntKind.i64.wrap (i + 1), out ++ ([carry.tmod 1000000000] : List Int), ())))))
        (some (.inr (out, ())))))
noncomputable def L_spec_l02Add_0 (a : List Int) (b : List Int) (carry : Int) (i : Int) (out : List Int) : Option ((List Int) × Unit) := whileO S_spec_l02Add_0 (a, b, carry, i, out, ())
noncomputable def M_spec_l02Add (a : List Int) (b : List Int) : Option (List Int) :=
  (L_spec_l02Add_0 a b 0 0 ([] : List Int)).bind fun (out, _) =>
  some out

noncomputable def S_spec_l02Trim_0 : (List Int) × Int × Unit → Option (((List Int) × Int × Unit) ⊕ ((List Int) × Int × Unit)) := fun (a, n, _) =>
  cond (decide (n > 0))
    ((idx a (IntKind.i64.wrap (n - 1))).bind fun e =>
    cond (e == 0)
      (some (.inl (a, IntKind.i64.wrap (n - 1), ())))
      (some (.inr (a, n, ()))))
    (some (.inr (a, n, ())))
noncomputable def L_spec_l02Trim_0 (a : List Int) (n : Int) : Option ((List Int) × Int × Unit) := whileO S_spec_l02Trim_0 (a, n, ())
noncomputable def M_spec_l02Trim (a : List Int) : Option (List Int) :=
  (L_spec_l02Trim_0 a (a.length : Int)).bind fun (a1, n, _) =>
  (guardO (inside a1.length (0, n))).bind fun _ =>
  some (cut a1 0 n.toNat)

noncomputable def M_spec_l02Cap (a : List Int) : Option (List Int) :=
  (M_spec_l02Trim a).bind fun r =>
  cond (decide ((r.length : Int) > 60))
    (some ([] : List Int))
    (some r)

noncomputable def S_spec_l02Trim_c_0 : Int × (List Int) × Unit → Option ((Int × (List Int) × Unit) ⊕ (Int × (List Int) × Unit)) := fun (n, a, _) =>
  cond (decide (n > 0))
    ((idx a (IntKind.i64.wrap (n - 1))).bind fun _ =>
    (a[(IntKind.i64.wrap (n - 1)).toNat]?).bind fun e =>
    cond (e == 0)
      (some (.inl (IntKind.i64.wrap (n - 1), a, ())))
      (some (.inr (n, a, ()))))
    (some (.inr (n, a, ())))
noncomputable def L_spec_l02Trim_c_0 (n : Int) (a : List Int) : Option (Int × (List Int) × Unit) := whileO S_spec_l02Trim_c_0 (n, a, ())
noncomputable def M_spec_l02Trim_c (a : List Int) : Option (List Int) :=
  (L_spec_l02Trim_c_0 (a.length : Int) a).bind fun (n, a1, _) =>
  (guardO (inside a1.length (0, n))).bind fun _ =>
  some (a1.take n.toNat)

noncomputable def S_spec_l02Mul_1 : (List Int) × Int × Int × Int × (List Int) × Int × Int × (List Int) × Int × Int × (List Int) × Unit → Option (((List Int) × Int × Int × Int × (List Int) × Int × Int × (List Int) × Int × Int × (List Int) × Unit) ⊕ ((List Int) × Int × Int × (List Int) × Int × Int × (List Int) × Unit)) := fun (b, i, x, carry, t, t1, t2, t3, t4, t5, out, _) =>
  cond (decide (t5 < t4))
    ((idx t3 t5).bind fun e =>
    (idx out (IntKind.i64.wrap (i + t5))).bind fun _ =>
    (out[(IntKind.i64.wrap (i + t5)).toNat]?).bind fun e1 =>
    (idx out (IntKind.i64.wrap (i + t5))).bind fun _ =>
    some (.inl (b, i, x, IntKind.i64.wrap ((IntKind.i64.wrap ((IntKind.i64.wrap (e1 + (IntKind.i64.wrap (x * e)))) + carry)).tdiv 1000000000), t, t1, t2, t3, t4, IntKind.i64.wrap (t5 + 1), out.set ((IntKind.i64.wrap (i + t5)).toNat) ((IntKind.i64.wrap ((IntKind.i64.wrap (e1 + (IntKind.i64.wrap (x * e)))) + carry)).tmod 1000000000), ())))
    (some (.inr (b, i, carry, t, t1, t2, out, ())))
noncomputable def L_spec_l02Mul_1 (b : List Int) (i : Int) (x : Int) (carry : Int) (t : List Int) (t1 : Int) (t2 : Int) (t3 : List Int) (t4 : Int) (t5 : Int) (out : List Int) : Option ((List Int) × Int × Int × (List Int) × Int × Int × (List Int) × Unit) := whileO S_spec_l02Mul_1 (b, i, x, carry, t, t1, t2, t3, t4, t5, out, ())
noncomputable def S_spec_l02Mul_0 : (List Int) × (List Int) × Int × Int × (List Int) × Unit → Option (((List Int) × (List Int) × Int × Int × (List Int) × Unit) ⊕ ((List Int) × Unit)) := fun (b, t, t1, t2, out, _) =>
  cond (decide (t2 < t1))
    ((idx t t2).bind fun e =>
    (L_spec_l02Mul_1 b t2 e 0 t t1 t2 b (b.length : Int) 0 out).bind fun (b1, i, carry, t3, t4, t5, out1, _) =>
    (idx out1 (IntKind.i64.wrap (i + (b1.length : Int)))).bind fun _ =>
    some (.inl (b1, t3, t4, IntKind.i64.wrap (t5 + 1), out1.set ((IntKind.i64.wrap (i + (b1.length : Int))).toNat) carry, ())))
    (some (.inr (out, ())))
noncomputable def L_spec_l02Mul_0 (b : List Int) (t : List Int) (t1 : Int) (t2 : Int) (out : List Int) : Option ((List Int) × Unit) := whileO S_spec_l02Mul_0 (b, t, t1, t2, out, ())
noncomputable def M_spec_l02Mul (a : List Int) (b : List Int) : Option (List Int) :=
  cond ((a.length : Int) == 0)
    (some ([] : List Int))
    (cond ((b.length : Int) == 0)
      (some ([] : List Int))
      ((guardO (((decide (0 ≤ (IntKind.i64.wrap ((a.length : Int) + (b.length : Int))))) && (decide ((IntKind.i64.wrap ((a.length : Int) + (b.length : Int))) ≤ (IntKind.i64.wrap ((a.length : Int) + (b.length : Int)))))) && (decide ((IntKind.i64.wrap ((a.length : Int) + (b.length : Int))) ≤ (maxNew : Int))))).bind fun _ =>
      (L_spec_l02Mul_0 b a (a.length : Int) 0 (List.replicate ((IntKind.i64.wrap ((a.length : Int) + (b.length : Int))).toNat) 0 : List Int)).bind fun (out, _) =>
      (M_spec_l02Trim_c out).bind fun r =>
      some r))

noncomputable def S_spec_l02Digit_0 : (List Int) × (List Int) × Int × Int × Unit → Option (((List Int) × (List Int) × Int × Int × Unit) ⊕ (Int × Unit)) := fun (r, b, lo, hi, _) =>
  cond (decide (lo < hi))
    ((M_spec_NatOf (IntKind.i64.wrap ((IntKind.i64.wrap ((IntKind.i64.wrap (lo + hi)) + 1)).tdiv 2))).bind fun r1 =>
    (M_spec_l02Mul b r1).bind fun r2 =>
    (M_spec_l02Cmp r2 r).bind fun r3 =>
    cond (decide (r3 ≤ 0))
      (some (.inl (r, b, IntKind.i64.wrap ((IntKind.i64.wrap ((IntKind.i64.wrap (lo + hi)) + 1)).tdiv 2), hi, ())))
      (some (.inl (r, b, lo, IntKind.i64.wrap ((IntKind.i64.wrap ((IntKind.i64.wrap ((IntKind.i64.wrap (lo + hi)) + 1)).tdiv 2)) - 1), ()))))
    (some (.inr (lo, ())))
noncomputable def L_spec_l02Digit_0 (r : List Int) (b : List Int) (lo : Int) (hi : Int) : Option (Int × Unit) := whileO S_spec_l02Digit_0 (r, b, lo, hi, ())
noncomputable def M_spec_l02Digit (r : List Int) (b : List Int) : Option Int :=
  (L_spec_l02Digit_0 r b 0 999999999).bind fun (lo, _) =>
  some lo

noncomputable def S_spec_l02Small_0 : (List Int) × Int × Int × Int × (List Int) × Unit → Option (((List Int) × Int × Int × Int × (List Int) × Unit) ⊕ (Int × (List Int) × Unit)) := fun (a, d, rest, i, out, _) =>
  cond (decide (i ≥ 0))
    ((idx a i).bind fun e =>
    (guardO (d != 0)).bind fun _ =>
    (idx out i).bind fun _ =>
    (guardO (d != 0)).bind fun _ =>
    some (.inl (a, d, (IntKind.i64.wrap ((IntKind.i64.wrap (rest * 1000000000)) + e)).tmod d, IntKind.i64.wrap (i - 1), out.set i.toNat (IntKind.i64.wrap ((IntKind.i64.wrap ((IntKind.i64.wrap (rest * 1000000000)) + e)).tdiv d)), ())))
    (some (.inr (rest, out, ())))
noncomputable def L_spec_l02Small_0 (a : List Int) (d : Int) (rest : Int) (i : Int) (out : List Int) : Option (Int × (List Int) × Unit) := whileO S_spec_l02Small_0 (a, d, rest, i, out, ())
noncomputable def M_spec_l02Small (a : List Int) (d : Int) : Option (List Int × Int) :=
  (guardO (((decide (0 ≤ (a.length : Int))) && (decide ((a.length : Int) ≤ (a.length : Int)))) && (decide ((a.length : Int) ≤ (maxNew : Int))))).bind fun _ =>
  (L_spec_l02Small_0 a d 0 (IntKind.i64.wrap ((a.length : Int) - 1)) (List.replicate ((a.length : Int).toNat) 0 : List Int)).bind fun (rest, out, _) =>
  (M_spec_l02Trim_c out).bind fun r =>
  some (r, rest)

noncomputable def S_spec_l02Sub_0 : (List Int) × (List Int) × Int × Int × Int × (List Int) × Unit → Option (((List Int) × (List Int) × Int × Int × Int × (List Int) × Unit) ⊕ ((List Int) × Unit)) := fun (a, b, less, t, t1, out, _) =>
  cond (decide (t1 < t))
    ((idx a t1).bind fun e =>
    cond (decide (t1 < (b.length : Int)))
      ((idx b t1).bind fun e1 =>
      cond (decide ((IntKind.i64.wrap ((IntKind.i64.wrap (e - less)) - e1)) < 0))
        ((guardO (Nat.ble (out.length + 1) maxNew)).bind fun _ =>
        some (.inl (a, b, 1, t, IntKind.i64.wrap (t1 + 1), out ++ ([IntKind.i64.wrap ((IntKind.i64.wrap ((IntKind.i64.wrap (e - less)) - e1)) + 1000000000)] : List Int), ())))
        ((guardO (Nat.ble (out.length + 1) maxNew)).bind fun _ =>
        some (.inl (a, b, 0, t, IntKind.i64.wrap (t1 + 1), out ++ ([IntKind.i64.wrap ((IntKind.i64.wrap (e - less)) - e1)] : List Int), ()))))
      (cond (decide ((IntKind.i64.wrap (e - less)) < 0))
        ((guardO (Nat.ble (out.length + 1) maxNew)).bind fun _ =>
        some (.inl (a, b, 1, t, IntKind.i64.wrap (t1 + 1), out ++ ([IntKind.i64.wrap ((IntKind.i64.wrap (e - less)) + 1000000000)] : List Int), ())))
        ((guardO (Nat.ble (out.length + 1) maxNew)).bind fun _ =>
        some (.inl (a, b, 0, t, IntKind.i64.wrap (t1 + 1), out ++ ([IntKind.i64.wrap (e - less)] : List Int), ())))))
    (some (.inr (out, ())))
noncomputable def L_spec_l02Sub_0 (a : List Int) (b : List Int) (less : Int) (t : Int) (t1 : Int) (out : List Int) : Option ((List Int) × Unit) := whileO S_spec_l02Sub_0 (a, b, less, t, t1, out, ())
noncomputable def M_spec_l02Sub (a : List Int) (b : List Int) : Option (List Int) :=
  (L_spec_l02Sub_0 a b 0 (a.length : Int) 0 ([] : List Int)).bind fun (out, _) =>
  (M_spec_l02Trim_c out).bind fun r =>
  some r

noncomputable def S_spec_l02Div_0 : (List Int) × (List Int) × Int × (List Int) × (List Int) × Unit → Option (((List Int) × (List Int) × Int × (List Int) × (List Int) × Unit) ⊕ ((List Int) × (List Int) × Unit)) := fun (a, b, i, out, rest, _) =>
  cond (decide (i ≥ 0))
    ((idx a i).bind fun e =>
    (guardO (Nat.ble (1 + rest.length) maxNew)).bind fun _ =>
    (M_spec_l02Trim_c (([e] : List Int) ++ rest)).bind fun r =>
    (M_spec_l02Cmp r b).bind fun r1 =>
    cond (decide (r1 < 0))
      (some (.inl (a, b, IntKind.i64.wrap (i - 1), out, r, ())))
      ((M_spec_l02Digit r b).bind fun r2 =>
      (idx out i).bind fun _ =>
      (M_spec_NatOf r2).bind fun r3 =>
      (M_spec_l02Mul b r3).bind fun r4 =>
      (M_spec_l02Sub r r4).bind fun r5 =>
      some (.inl (a, b, IntKind.i64.wrap (i - 1), out.set i.toNat r2, r5, ()))))
    (some (.inr (out, rest, ())))
noncomputable def L_spec_l02Div_0 (a : List Int) (b : List Int) (i : Int) (out : List Int) (rest : List Int) : Option ((List Int) × (List Int) × Unit) := whileO S_spec_l02Div_0 (a, b, i, out, rest, ())
noncomputable def M_spec_l02Div (a : List Int) (b : List Int) : Option (List Int × List Int) :=
  cond ((b.length : Int) == 1)
    ((idx b 0).bind fun e =>
    (M_spec_l02Small a e).bind fun (r0, r1) =>
    (M_spec_NatOf r1).bind fun r =>
    some (r0, r))
    ((guardO (((decide (0 ≤ (a.length : Int))) && (decide ((a.length : Int) ≤ (a.length : Int)))) && (decide ((a.length : Int) ≤ (maxNew : Int))))).bind fun _ =>
    (L_spec_l02Div_0 a b (IntKind.i64.wrap ((a.length : Int) - 1)) (List.replicate ((a.length : Int).toNat) 0 : List Int) ([] : List Int)).bind fun (out, rest, _) =>
    (M_spec_l02Trim_c out).bind fun r =>
    some (r, rest))

noncomputable def S_spec_l02Plain_0 : Int × Int × Unit → Option ((Int × Int × Unit) ⊕ (Int × Unit)) := fun (x, y, _) =>
  cond (decide (y > 0))
    ((guardO (y != 0)).bind fun _ =>
    some (.inl (y, x.tmod y, ())))
    (some (.inr (x, ())))
noncomputable def L_spec_l02Plain_0 (x : Int) (y : Int) : Option (Int × Unit) := whileO S_spec_l02Plain_0 (x, y, ())
noncomputable def M_spec_l02Plain (x : Int) (y : Int) : Option (List Int) :=
  (L_spec_l02Plain_0 x y).bind fun (x1, _) =>
  (M_spec_NatOf x1).bind fun r =>
  some r

noncomputable def S_spec_l02Gcd_0 : (List Int) × (List Int) × Unit → Option (((List Int) × (List Int) × Unit) ⊕ (((List Int) × Unit) ⊕ ((List Int) × Unit))) := fun (x, y, _) =>
  cond (decide ((y.length : Int) > 0))
    (cond (decide ((x.length : Int) < 3))
      (cond (decide ((y.length : Int) < 3))
        ((M_spec_NatToInt x).bind fun (r0, _) =>
        (M_spec_NatToInt y).bind fun (r0_1, _) =>
        (M_spec_l02Plain r0 r0_1).bind fun r =>
        some (.inr (.inl (r, ()))))
        ((M_spec_l02Div x y).bind fun (_, r1) =>
        some (.inl (y, r1, ()))))
      ((M_spec_l02Div x y).bind fun (_, r1) =>
      some (.inl (y, r1, ()))))
    (some (.inr (.inr (x, ()))))
noncomputable def L_spec_l02Gcd_0 (x : List Int) (y : List Int) : Option (((List Int) × Unit) ⊕ ((List Int) × Unit)) := whileO S_spec_l02Gcd_0 (x, y, ())
noncomputable def M_spec_l02Gcd (a : List Int) (b : List Int) : Option (List Int) :=
  (guardO (Nat.ble a.length maxNew)).bind fun _ =>
  (guardO (Nat.ble b.length maxNew)).bind fun _ =>
  (L_spec_l02Gcd_0 a b).bind fun r =>
  match r with
  | .inl (t, _) =>
    some t
  | .inr (x, _) =>
    some x

end Go.Di
/-
  Own work, written by program (gen.py) out of the functions of the given program: what they compute, as plain Lean.
-/
namespace Go.Di
noncomputable def M_impl_signed_dc (neg : Bool) (mag : List Int) : Option Bg :=
  cond ((mag.length : Int) == 0)
    (some (⟨false, ([] : List Int)⟩ : Bg))
    (some (⟨neg, mag⟩ : Bg))

noncomputable def M_impl_BigIntOf (n : Int) : Option Bg :=
  cond (decide (n ≥ 0))
    ((M_impl_NatOf n).bind fun r =>
    (M_impl_signed_dc false r).bind fun r1 =>
    some r1)
    ((M_impl_NatOf (IntKind.i64.wrap (0 - (IntKind.i64.wrap (n + 1))))).bind fun r =>
    (M_impl_natAdd r ([1] : List Int)).bind fun r1 =>
    (M_impl_signed_dc true r1).bind fun r2 =>
    some r2)

noncomputable def M_impl_BigIntOk (x : Bg) : Option Bool :=
  (M_impl_NatOk x.mag).bind fun r =>
  cond r
    (cond (decide ((x.mag.length : Int) > 0))
      (some true)
      (some (!x.neg)))
    (some false)

noncomputable def M_impl_bigAdd (x : Bg) (y : Bg) : Option Bg :=
  cond (x.neg == y.neg)
    ((M_impl_natAdd x.mag y.mag).bind fun r =>
    (M_impl_signed_dc x.neg r).bind fun r1 =>
    some r1)
    ((M_impl_natCmp x.mag y.mag).bind fun r =>
    cond (decide (r ≥ 0))
      ((M_impl_natSub x.mag y.mag).bind fun r1 =>
      (M_impl_signed_dc x.neg r1).bind fun r2 =>
      some r2)
      ((M_impl_natSub y.mag x.mag).bind fun r1 =>
      (M_impl_signed_dc y.neg r1).bind fun r2 =>
      some r2))

noncomputable def M_impl_bigCmp (x : Bg) (y : Bg) : Option Int :=
  cond (!(x.neg == y.neg))
    (cond x.neg
      (some (-1))
      (cond (!(x.neg == y.neg))
        (some 1)
        (cond x.neg
          ((M_impl_natCmp y.mag x.mag).bind fun r =>
          some r)
          ((M_impl_natCmp x.mag y.mag).bind fun r =>
          some r))))
    (cond (!(x.neg == y.neg))
      (some 1)
      (cond x.neg
        ((M_impl_natCmp y.mag x.mag).bind fun r =>
        some r)
        ((M_impl_natCmp x.mag y.mag).bind fun r =>
        some r)))

noncomputable def M_impl_bigFloor (x : Bg) (m : List Int) : Option (Bg × List Int) :=
  (M_impl_natDiv x.mag m).bind fun (r0, r1) =>
  cond (!x.neg)
    ((M_impl_signed_dc false r0).bind fun r =>
    some (r, r1))
    (cond (decide ((r1.length : Int) > 0))
      ((M_impl_natAdd r0 ([1] : List Int)).bind fun r =>
      (M_impl_natSub m r1).bind fun r2 =>
      (M_impl_signed_dc true r).bind fun r3 =>
      some (r3, r2))
      ((M_impl_signed_dc true r0).bind fun r =>
      some (r, r1)))

noncomputable def M_impl_bigMul (x : Bg) (y : Bg) : Option Bg :=
  (M_impl_natMul x.mag y.mag).bind fun r =>
  (M_impl_signed_dc (!(x.neg == y.neg)) r).bind fun r1 =>
  some r1

noncomputable def M_impl_bigNeg (x : Bg) : Option Bg :=
  (M_impl_copyInts x.mag).bind fun r =>
  (M_impl_signed_dc (!x.neg) r).bind fun r1 =>
  some r1

noncomputable def M_impl_signed (neg : Bool) (mag : List Int) : Option Bg :=
  cond ((mag.length : Int) == 0)
    (some (⟨false, ([] : List Int)⟩ : Bg))
    (some (⟨neg, mag⟩ : Bg))

noncomputable def M_spec_l03Make (neg : Bool) (a : List Int) : Option Bg :=
  (M_spec_l02Cap a).bind fun r =>
  cond neg
    ((guardO (Nat.ble r.length maxNew)).bind fun _ =>
    some (⟨decide ((r.length : Int) > 0), r⟩ : Bg))
    ((guardO (Nat.ble r.length maxNew)).bind fun _ =>
    some (⟨false, r⟩ : Bg))

noncomputable def M_spec_BigIntOf (n : Int) : Option Bg :=
  cond (n == (-9223372036854775808))
    ((M_spec_l03Make true ([854775808, 223372036, 9] : List Int)).bind fun r =>
    some r)
    (cond (decide (n < 0))
      ((M_spec_NatOf (IntKind.i64.wrap (0 - n))).bind fun r =>
      (M_spec_l03Make true r).bind fun r1 =>
      some r1)
      ((M_spec_NatOf n).bind fun r =>
      (M_spec_l03Make false r).bind fun r1 =>
      some r1))

noncomputable def M_spec_BigIntOk (x : Bg) : Option Bool :=
  (M_spec_NatOk x.mag).bind fun r =>
  cond r
    (cond (!x.neg)
      (some true)
      (some (decide ((x.mag.length : Int) > 0))))
    (some false)

noncomputable def M_spec_l03Add (x : Bg) (y : Bg) : Option Bg :=
  cond (x.neg == y.neg)
    ((M_spec_l02Add x.mag y.mag).bind fun r =>
    (M_spec_l03Make x.neg r).bind fun r1 =>
    some r1)
    ((M_spec_l02Cmp x.mag y.mag).bind fun r =>
    cond (decide (r ≥ 0))
      ((M_spec_l02Sub x.mag y.mag).bind fun r1 =>
      (M_spec_l03Make x.neg r1).bind fun r2 =>
      some r2)
      ((M_spec_l02Sub y.mag x.mag).bind fun r1 =>
      (M_spec_l03Make y.neg r1).bind fun r2 =>
      some r2))

end Go.Di
/-
  Own work, written by program (gen.py) out of the functions of the given program: what they compute, as plain Lean.
-/
namespace Go.Di
noncomputable def M_impl_isOne (a : List Int) : Option Bool :=
  cond ((a.length : Int) == 1)
    ((idx a 0).bind fun e =>
    some (e == 1))
    (some false)

noncomputable def M_impl_RatOk (r : Rt) : Option Bool :=
  (M_impl_BigIntOk (⟨r.neg, r.mag⟩ : Bg)).bind fun r1 =>
  cond (!r1)
    (some false)
    ((M_impl_NatOk r.den).bind fun r2 =>
    cond (!r2)
      (some false)
      (cond ((r.den.length : Int) == 0)
        (some false)
        (cond (decide ((r.mag.length : Int) > 24))
          (some false)
          (cond (decide ((r.den.length : Int) > 24))
            (some false)
            ((M_impl_natGcd r.den r.mag).bind fun r3 =>
            (M_impl_isOne r3).bind fun r4 =>
            some r4)))))

noncomputable def M_impl_both (r : Rt) (s : Rt) : Option Bool :=
  (M_impl_RatOk r).bind fun r1 =>
  cond r1
    ((M_impl_RatOk s).bind fun r2 =>
    some r2)
    (some false)

noncomputable def M_impl_void (r : Rt) : Option Bool :=
  some ((r.den.length : Int) == 0)

noncomputable def S_impl_sameInts_0 : (List Int) × (List Int) × Int × Int × Unit → Option (((List Int) × (List Int) × Int × Int × Unit) ⊕ ((Bool × Unit) ⊕ (Unit))) := fun (a, b, t, t1, _) =>
  cond (decide (t1 < t))
    ((idx a t1).bind fun e =>
    (idx b t1).bind fun e1 =>
    cond (e != e1)
      (some (.inr (.inl (false, ()))))
      (some (.inl (a, b, t, IntKind.i64.wrap (t1 + 1), ()))))
    (some (.inr (.inr (()))))
noncomputable def L_impl_sameInts_0 (a : List Int) (b : List Int) (t : Int) (t1 : Int) : Option ((Bool × Unit) ⊕ (Unit)) := whileO S_impl_sameInts_0 (a, b, t, t1, ())
noncomputable def M_impl_sameInts (a : List Int) (b : List Int) : Option Bool :=
  cond ((a.length : Int) != (b.length : Int))
    (some false)
    ((L_impl_sameInts_0 a b (a.length : Int) 0).bind fun r =>
    match r with
    | .inl (t, _) =>
      some t
    | .inr _ =>
      some true)

noncomputable def M_impl_lowest_cc (num : Bg) (den : List Int) : Option Rt :=
  cond ((num.mag.length : Int) == 0)
    (some (⟨false, ([] : List Int), ([1] : List Int)⟩ : Rt))
    ((M_impl_natGcd den num.mag).bind fun r =>
    (M_impl_isOne r).bind fun r1 =>
    cond (!r1)
      ((M_impl_natDiv num.mag r).bind fun (r0, _) =>
      (M_impl_natDiv den r).bind fun (r0_1, _) =>
      (M_impl_signed_dc num.neg r0).bind fun r2 =>
      cond (decide ((r2.mag.length : Int) > 24))
        (some (⟨false, ([] : List Int), ([] : List Int)⟩ : Rt))
        (cond (decide ((r0_1.length : Int) > 24))
          (some (⟨false, ([] : List Int), ([] : List Int)⟩ : Rt))
          (some (⟨r2.neg, r2.mag, r0_1⟩ : Rt))))
      (cond (decide ((num.mag.length : Int) > 24))
        (some (⟨false, ([] : List Int), ([] : List Int)⟩ : Rt))
        (cond (decide ((den.length : Int) > 24))
          (some (⟨false, ([] : List Int), ([] : List Int)⟩ : Rt))
          (some (⟨num.neg, num.mag, den⟩ : Rt)))))

noncomputable def M_impl_add (r : Rt) (s : Rt) : Option Rt :=
  (M_impl_void r).bind fun r1 =>
  cond r1
    (some (⟨false, ([] : List Int), ([] : List Int)⟩ : Rt))
    ((M_impl_void s).bind fun r2 =>
    cond r2
      (some (⟨false, ([] : List Int), ([] : List Int)⟩ : Rt))
      ((M_impl_sameInts r.den s.den).bind fun r3 =>
      cond r3
        ((M_impl_bigAdd (⟨r.neg, r.mag⟩ : Bg) (⟨s.neg, s.mag⟩ : Bg)).bind fun r4 =>
        (M_impl_copyInts r.den).bind fun r5 =>
        (M_impl_lowest_cc r4 r5).bind fun r6 =>
        some r6)
        ((M_impl_bigMul (⟨r.neg, r.mag⟩ : Bg) (⟨false, s.den⟩ : Bg)).bind fun r4 =>
        (M_impl_bigMul (⟨s.neg, s.mag⟩ : Bg) (⟨false, r.den⟩ : Bg)).bind fun r5 =>
        (M_impl_bigAdd r4 r5).bind fun r6 =>
        (M_impl_natMul r.den s.den).bind fun r7 =>
        (M_impl_lowest_cc r6 r7).bind fun r8 =>
        some r8)))

noncomputable def M_impl_RatAdd (r : Rt) (s : Rt) : Option Rt :=
  (M_impl_both r s).bind fun r1 =>
  cond (!r1)
    (some (⟨false, ([] : List Int), ([] : List Int)⟩ : Rt))
    ((M_impl_add r s).bind fun r2 =>
    some r2)

noncomputable def M_impl_cmp (r : Rt) (s : Rt) : Option Int :=
  (M_impl_bigMul (⟨r.neg, r.mag⟩ : Bg) (⟨false, s.den⟩ : Bg)).bind fun r1 =>
  (M_impl_bigMul (⟨s.neg, s.mag⟩ : Bg) (⟨false, r.den⟩ : Bg)).bind fun r2 =>
  (M_impl_bigCmp r1 r2).bind fun r3 =>
  some r3

noncomputable def M_impl_RatCmp (r : Rt) (s : Rt) : Option Int :=
  (M_impl_both r s).bind fun r1 =>
  cond (!r1)
    (some 0)
    ((M_impl_cmp r s).bind fun r2 =>
    some r2)

noncomputable def M_impl_RatEqual (r : Rt) (s : Rt) : Option Bool :=
  cond (r.neg == s.neg)
    ((M_impl_sameInts r.mag s.mag).bind fun r1 =>
    cond r1
      ((M_impl_sameInts r.den s.den).bind fun r2 =>
      some r2)
      (some false))
    (some false)

noncomputable def M_impl_lowest (num : Bg) (den : List Int) : Option Rt :=
  cond ((num.mag.length : Int) == 0)
    (some (⟨false, ([] : List Int), ([1] : List Int)⟩ : Rt))
    ((M_impl_natGcd den num.mag).bind fun r =>
    (M_impl_isOne r).bind fun r1 =>
    cond (!r1)
      ((M_impl_natDiv num.mag r).bind fun (r0, _) =>
      (M_impl_natDiv den r).bind fun (r0_1, _) =>
      (M_impl_signed_dc num.neg r0).bind fun r2 =>
      cond (decide ((r2.mag.length : Int) > 24))
        (some (⟨false, ([] : List Int), ([] : List Int)⟩ : Rt))
        (cond (decide ((r0_1.length : Int) > 24))
          (some (⟨false, ([] : List Int), ([] : List Int)⟩ : Rt))
          (some (⟨r2.neg, r2.mag, r0_1⟩ : Rt))))
      (cond (decide ((num.mag.length : Int) > 24))
        (some (⟨false, ([] : List Int), ([] : List Int)⟩ : Rt))
        (cond (decide ((den.length : Int) > 24))
          (some (⟨false, ([] : List Int), ([] : List Int)⟩ : Rt))
          (some (⟨num.neg, num.mag, den⟩ : Rt)))))

noncomputable def M_impl_copyRat (r : Rt) : Option Rt :=
  (M_impl_copyInts r.mag).bind fun r1 =>
  (M_impl_copyInts r.den).bind fun r2 =>
  some (⟨r.neg, r1, r2⟩ : Rt)

noncomputable def M_impl_RatMake (num : Bg) (den : Bg) : Option Rt :=
  (M_impl_BigIntOk num).bind fun r =>
  cond (!r)
    (some (⟨false, ([] : List Int), ([] : List Int)⟩ : Rt))
    ((M_impl_BigIntOk den).bind fun r1 =>
    cond (!r1)
      (some (⟨false, ([] : List Int), ([] : List Int)⟩ : Rt))
      (cond ((den.mag.length : Int) == 0)
        (some (⟨false, ([] : List Int), ([] : List Int)⟩ : Rt))
        ((M_impl_signed (!(num.neg == den.neg)) num.mag).bind fun r2 =>
        (M_impl_lowest r2 den.mag).bind fun r3 =>
        (M_impl_copyRat r3).bind fun r4 =>
        some r4)))

noncomputable def M_impl_RatOf (n : Int) (d : Int) : Option Rt :=
  (M_impl_BigIntOf n).bind fun r =>
  (M_impl_BigIntOf d).bind fun r1 =>
  (M_impl_RatMake r r1).bind fun r2 =>
  some r2

noncomputable def M_impl_RatFromInt (n : Int) : Option Rt :=
  (M_impl_RatOf n 1).bind fun r =>
  some r

noncomputable def M_impl_mul (r : Rt) (s : Rt) : Option Rt :=
  (M_impl_void r).bind fun r1 =>
  cond r1
    (some (⟨false, ([] : List Int), ([] : List Int)⟩ : Rt))
    ((M_impl_void s).bind fun r2 =>
    cond r2
      (some (⟨false, ([] : List Int), ([] : List Int)⟩ : Rt))
      ((M_impl_bigMul (⟨r.neg, r.mag⟩ : Bg) (⟨s.neg, s.mag⟩ : Bg)).bind fun r3 =>
      (M_impl_natMul r.den s.den).bind fun r4 =>
      (M_impl_lowest_cc r3 r4).bind fun r5 =>
      some r5))

noncomputable def M_impl_RatMul (r : Rt) (s : Rt) : Option Rt :=
  (M_impl_both r s).bind fun r1 =>
  cond (!r1)
    (some (⟨false, ([] : List Int), ([] : List Int)⟩ : Rt))
    ((M_impl_mul r s).bind fun r2 =>
    some r2)

noncomputable def M_impl_neg (r : Rt) : Option Rt :=
  (M_impl_void r).bind fun r1 =>
  cond r1
    (some (⟨false, ([] : List Int), ([] : List Int)⟩ : Rt))
    ((M_impl_bigNeg (⟨r.neg, r.mag⟩ : Bg)).bind fun r2 =>
    (M_impl_copyInts r.den).bind fun r3 =>
    some (⟨r2.neg, r2.mag, r3⟩ : Rt))

noncomputable def M_impl_RatNeg (r : Rt) : Option Rt :=
  (M_impl_RatOk r).bind fun r1 =>
  cond (!r1)
    (some (⟨false, ([] : List Int), ([] : List Int)⟩ : Rt))
    ((M_impl_neg r).bind fun r2 =>
    some r2)

noncomputable def M_impl_sub (r : Rt) (s : Rt) : Option Rt :=
  (M_impl_neg s).bind fun r1 =>
  (M_impl_add r r1).bind fun r2 =>
  some r2

noncomputable def M_impl_RatSub (r : Rt) (s : Rt) : Option Rt :=
  (M_impl_both r s).bind fun r1 =>
  cond (!r1)
    (some (⟨false, ([] : List Int), ([] : List Int)⟩ : Rt))
    ((M_impl_sub r s).bind fun r2 =>
    some r2)

noncomputable def S_impl_copyVector_0 : (List Rt) × Int × Int × (List Rt) × Unit → Option (((List Rt) × Int × Int × (List Rt) × Unit) ⊕ ((List Rt) × Unit)) := fun (t, t1, t2, out, _) =>
  cond (decide (t2 < t1))
    ((idx t t2).bind fun e =>
    (M_impl_copyRat e).bind fun r =>
    (guardO (Nat.ble (out.length + 1) maxNew)).bind fun _ =>
    some (.inl (t, t1, IntKind.i64.wrap (t2 + 1), out ++ ([r] : List Rt), ())))
    (some (.inr (out, ())))
noncomputable def L_impl_copyVector_0 (t : List Rt) (t1 : Int) (t2 : Int) (out : List Rt) : Option ((List Rt) × Unit) := whileO S_impl_copyVector_0 (t, t1, t2, out, ())
noncomputable def M_impl_copyVector (v : List Rt) : Option (List Rt) :=
  (L_impl_copyVector_0 v (v.length : Int) 0 ([] : List Rt)).bind fun (out, _) =>
  some out

noncomputable def M_impl_div (r : Rt) (s : Rt) : Option Rt :=
  (M_impl_void r).bind fun r1 =>
  cond r1
    (some (⟨false, ([] : List Int), ([] : List Int)⟩ : Rt))
    ((M_impl_void s).bind fun r2 =>
    cond r2
      (some (⟨false, ([] : List Int), ([] : List Int)⟩ : Rt))
      (cond ((s.mag.length : Int) == 0)
        (some (⟨false, ([] : List Int), ([] : List Int)⟩ : Rt))
        ((M_impl_mul r (⟨s.neg, s.den, s.mag⟩ : Rt)).bind fun r3 =>
        some r3)))

noncomputable def M_impl_isZero (r : Rt) : Option Bool :=
  some ((r.mag.length : Int) == 0)

noncomputable def M_impl_sign (r : Rt) : Option Int :=
  cond r.neg
    (some (-1))
    (cond (decide ((r.mag.length : Int) > 0))
      (some 1)
      (some 0))

noncomputable def M_impl_whole (n : Int) : Option Rt :=
  (M_impl_RatFromInt n).bind fun r =>
  some r

noncomputable def S_spec_l04List_0 : (List Int) × (List Int) × Int × Int × Unit → Option (((List Int) × (List Int) × Int × Int × Unit) ⊕ ((Bool × Unit) ⊕ (Unit))) := fun (a, b, t, t1, _) =>
  cond (decide (t1 < t))
    ((idx a t1).bind fun e =>
    (idx b t1).bind fun e1 =>
    cond (e != e1)
      (some (.inr (.inl (false, ()))))
      (some (.inl (a, b, t, IntKind.i64.wrap (t1 + 1), ()))))
    (some (.inr (.inr (()))))
noncomputable def L_spec_l04List_0 (a : List Int) (b : List Int) (t : Int) (t1 : Int) : Option ((Bool × Unit) ⊕ (Unit)) := whileO S_spec_l04List_0 (a, b, t, t1, ())
noncomputable def M_spec_l04List (a : List Int) (b : List Int) : Option Bool :=
  cond ((a.length : Int) != (b.length : Int))
    (some false)
    ((L_spec_l04List_0 a b (a.length : Int) 0).bind fun r =>
    match r with
    | .inl (t, _) =>
      some t
    | .inr _ =>
      some true)

noncomputable def M_spec_RatEqual (r : Rt) (s : Rt) : Option Bool :=
  cond (r.neg == s.neg)
    ((M_spec_l04List r.mag s.mag).bind fun r1 =>
    cond r1
      ((M_spec_l04List r.den s.den).bind fun r2 =>
      some r2)
      (some false))
    (some false)

noncomputable def M_spec_RatFromInt (n : Int) : Option Rt :=
  (M_spec_BigIntOf n).bind fun r =>
  some (⟨r.neg, r.mag, ([1] : List Int)⟩ : Rt)

noncomputable def M_spec_l04One (a : List Int) : Option Bool :=
  cond ((a.length : Int) == 1)
    ((idx a 0).bind fun e =>
    some (e == 1))
    (some false)

noncomputable def M_spec_l04Low (neg : Bool) (a : List Int) (b : List Int) : Option Rt :=
  (M_spec_l02Trim a).bind fun r =>
  (M_spec_l02Trim b).bind fun r1 =>
  cond ((r1.length : Int) == 0)
    (some (⟨false, ([] : List Int), ([] : List Int)⟩ : Rt))
    ((M_spec_l04One r1).bind fun r2 =>
    cond (!r2)
      ((M_spec_l02Gcd r r1).bind fun r3 =>
      (M_spec_l04One r3).bind fun r4 =>
      cond (!r4)
        ((M_spec_l02Div r r3).bind fun (r0, _) =>
        (M_spec_l02Div r1 r3).bind fun (r0_1, _) =>
        cond (decide ((r0.length : Int) > 24))
          (some (⟨false, ([] : List Int), ([] : List Int)⟩ : Rt))
          (cond (decide ((r0_1.length : Int) > 24))
            (some (⟨false, ([] : List Int), ([] : List Int)⟩ : Rt))
            ((M_spec_l03Make neg r0).bind fun r5 =>
            (guardO (Nat.ble r0_1.length maxNew)).bind fun _ =>
            some (⟨r5.neg, r5.mag, r0_1⟩ : Rt))))
        (cond (decide ((r.length : Int) > 24))
          (some (⟨false, ([] : List Int), ([] : List Int)⟩ : Rt))
          (cond (decide ((r1.length : Int) > 24))
            (some (⟨false, ([] : List Int), ([] : List Int)⟩ : Rt))
            ((M_spec_l03Make neg r).bind fun r5 =>
            (guardO (Nat.ble r1.length maxNew)).bind fun _ =>
            some (⟨r5.neg, r5.mag, r1⟩ : Rt)))))
      (cond (decide ((r.length : Int) > 24))
        (some (⟨false, ([] : List Int), ([] : List Int)⟩ : Rt))
        (cond (decide ((r1.length : Int) > 24))
          (some (⟨false, ([] : List Int), ([] : List Int)⟩ : Rt))
          ((M_spec_l03Make neg r).bind fun r3 =>
          (guardO (Nat.ble r1.length maxNew)).bind fun _ =>
          some (⟨r3.neg, r3.mag, r1⟩ : Rt)))))

noncomputable def M_spec_RatMake (num : Bg) (den : Bg) : Option Rt :=
  (M_spec_BigIntOk num).bind fun r =>
  cond (!r)
    (some (⟨false, ([] : List Int), ([] : List Int)⟩ : Rt))
    ((M_spec_BigIntOk den).bind fun r1 =>
    cond (!r1)
      (some (⟨false, ([] : List Int), ([] : List Int)⟩ : Rt))
      ((M_spec_l04Low (!(num.neg == den.neg)) num.mag den.mag).bind fun r2 =>
      some r2))

noncomputable def M_spec_RatOf (n : Int) (d : Int) : Option Rt :=
  (M_spec_BigIntOf n).bind fun r =>
  (M_spec_BigIntOf d).bind fun r1 =>
  (M_spec_RatMake r r1).bind fun r2 =>
  some r2

noncomputable def M_spec_RatOk (r : Rt) : Option Bool :=
  (M_spec_BigIntOk (⟨r.neg, r.mag⟩ : Bg)).bind fun r1 =>
  cond (!r1)
    (some false)
    ((M_spec_NatOk r.den).bind fun r2 =>
    cond (!r2)
      (some false)
      (cond ((r.den.length : Int) == 0)
        (some false)
        (cond (decide ((r.den.length : Int) > 24))
          (some false)
          (cond (decide ((r.mag.length : Int) > 24))
            (some false)
            ((M_spec_l02Gcd r.mag r.den).bind fun r3 =>
            (M_spec_l04One r3).bind fun r4 =>
            some r4)))))

noncomputable def M_spec_RatSign (r : Rt) : Option Int :=
  (M_spec_RatOk r).bind fun r1 =>
  cond (!r1)
    (some 0)
    (cond ((r.mag.length : Int) == 0)
      (some 0)
      (cond r.neg
        (some (-1))
        (some 1)))

noncomputable def M_spec_l04Add (r : Rt) (s : Rt) : Option Rt :=
  (M_spec_l04One r.den).bind fun r1 =>
  cond r1
    ((M_spec_l04One s.den).bind fun r2 =>
    cond r2
      ((M_spec_l03Add (⟨r.neg, r.mag⟩ : Bg) (⟨s.neg, s.mag⟩ : Bg)).bind fun r3 =>
      (M_spec_l04Low r3.neg r3.mag ([1] : List Int)).bind fun r4 =>
      some r4)
      ((M_spec_l02Mul r.mag s.den).bind fun r3 =>
      (M_spec_l03Make r.neg r3).bind fun r4 =>
      (M_spec_l02Mul s.mag r.den).bind fun r5 =>
      (M_spec_l03Make s.neg r5).bind fun r6 =>
      (M_spec_l03Add r4 r6).bind fun r7 =>
      (M_spec_l02Mul r.den s.den).bind fun r8 =>
      (M_spec_l04Low r7.neg r7.mag r8).bind fun r9 =>
      some r9))
    ((M_spec_l02Mul r.mag s.den).bind fun r2 =>
    (M_spec_l03Make r.neg r2).bind fun r3 =>
    (M_spec_l02Mul s.mag r.den).bind fun r4 =>
    (M_spec_l03Make s.neg r4).bind fun r5 =>
    (M_spec_l03Add r3 r5).bind fun r6 =>
    (M_spec_l02Mul r.den s.den).bind fun r7 =>
    (M_spec_l04Low r6.neg r6.mag r7).bind fun r8 =>
    some r8)

noncomputable def M_spec_l04Copy (r : Rt) : Option Rt :=
  (guardO (Nat.ble r.mag.length maxNew)).bind fun _ =>
  (guardO (Nat.ble r.den.length maxNew)).bind fun _ =>
  some r

noncomputable def M_spec_l04Mul (r : Rt) (s : Rt) : Option Rt :=
  (M_spec_l02Mul r.mag s.mag).bind fun r1 =>
  (M_spec_l02Mul r.den s.den).bind fun r2 =>
  (M_spec_l04Low (!(r.neg == s.neg)) r1 r2).bind fun r3 =>
  some r3

noncomputable def M_spec_l04Neg (r : Rt) : Option Rt :=
  (M_spec_l03Make (!r.neg) r.mag).bind fun r1 =>
  (guardO (Nat.ble r.den.length maxNew)).bind fun _ =>
  some (⟨r1.neg, r1.mag, r.den⟩ : Rt)

end Go.Di
/-
  Own work, written by program (gen.py) out of the functions of the given program: what they compute, as plain Lean.
-/
namespace Go.Di
noncomputable def S_impl_EqualVectors_0 : (List Rt) × (List Rt) × Int × Int × Unit → Option (((List Rt) × (List Rt) × Int × Int × Unit) ⊕ ((Bool × Unit) ⊕ (Unit))) := fun (a, b, t, t1, _) =>
  cond (decide (t1 < t))
    ((idx a t1).bind fun e =>
    (idx b t1).bind fun e1 =>
    (M_impl_RatEqual e e1).bind fun r =>
    cond (!r)
      (some (.inr (.inl (false, ()))))
      (some (.inl (a, b, t, IntKind.i64.wrap (t1 + 1), ()))))
    (some (.inr (.inr (()))))
noncomputable def L_impl_EqualVectors_0 (a : List Rt) (b : List Rt) (t : Int) (t1 : Int) : Option ((Bool × Unit) ⊕ (Unit)) := whileO S_impl_EqualVectors_0 (a, b, t, t1, ())
noncomputable def M_impl_EqualVectors (a : List Rt) (b : List Rt) : Option Bool :=
  cond ((a.length : Int) != (b.length : Int))
    (some false)
    ((L_impl_EqualVectors_0 a b (a.length : Int) 0).bind fun r =>
    match r with
    | .inl (t, _) =>
      some t
    | .inr _ =>
      some true)

noncomputable def S_impl_IsVector_0 : (List Rt) × Int × Int × Unit → Option (((List Rt) × Int × Int × Unit) ⊕ ((Bool × Unit) ⊕ (Unit))) := fun (t, t1, t2, _) =>
  cond (decide (t2 < t1))
    ((idx t t2).bind fun e =>
    (M_impl_RatOk e).bind fun r =>
    cond (!r)
      (some (.inr (.inl (false, ()))))
      (some (.inl (t, t1, IntKind.i64.wrap (t2 + 1), ()))))
    (some (.inr (.inr (()))))
noncomputable def L_impl_IsVector_0 (t : List Rt) (t1 : Int) (t2 : Int) : Option ((Bool × Unit) ⊕ (Unit)) := whileO S_impl_IsVector_0 (t, t1, t2, ())
noncomputable def M_impl_IsVector (v : List Rt) : Option Bool :=
  cond (decide ((v.length : Int) > 24))
    (some false)
    ((L_impl_IsVector_0 v (v.length : Int) 0).bind fun r =>
    match r with
    | .inl (t, _) =>
      some t
    | .inr _ =>
      some true)

noncomputable def S_impl_ZeroVector_0 : Int × Int × (List Rt) × Unit → Option ((Int × Int × (List Rt) × Unit) ⊕ ((List Rt) × Unit)) := fun (t, t1, out, _) =>
  cond (decide (t1 < t))
    ((M_impl_whole 0).bind fun r =>
    (guardO (Nat.ble (out.length + 1) maxNew)).bind fun _ =>
    some (.inl (t, IntKind.i64.wrap (t1 + 1), out ++ ([r] : List Rt), ())))
    (some (.inr (out, ())))
noncomputable def L_impl_ZeroVector_0 (t : Int) (t1 : Int) (out : List Rt) : Option ((List Rt) × Unit) := whileO S_impl_ZeroVector_0 (t, t1, out, ())
noncomputable def M_impl_ZeroVector (n : Int) : Option (List Rt) :=
  cond (decide (n < 0))
    (some ([] : List Rt))
    (cond (decide (n > 24))
      (some ([] : List Rt))
      ((L_impl_ZeroVector_0 n 0 ([] : List Rt)).bind fun (out, _) =>
      some out))

noncomputable def S_impl_complete_0 : (List Rt) × Int × Int × Unit → Option (((List Rt) × Int × Int × Unit) ⊕ ((Bool × Unit) ⊕ (Unit))) := fun (t, t1, t2, _) =>
  cond (decide (t2 < t1))
    ((idx t t2).bind fun e =>
    (M_impl_void e).bind fun r =>
    cond r
      (some (.inr (.inl (false, ()))))
      (some (.inl (t, t1, IntKind.i64.wrap (t2 + 1), ()))))
    (some (.inr (.inr (()))))
noncomputable def L_impl_complete_0 (t : List Rt) (t1 : Int) (t2 : Int) : Option ((Bool × Unit) ⊕ (Unit)) := whileO S_impl_complete_0 (t, t1, t2, ())
noncomputable def M_impl_complete (v : List Rt) : Option Bool :=
  (L_impl_complete_0 v (v.length : Int) 0).bind fun r =>
  match r with
  | .inl (t, _) =>
    some t
  | .inr _ =>
    some true

noncomputable def M_impl_given (r : Rt) : Option (Rt × Bool) :=
  (M_impl_void r).bind fun r1 =>
  cond r1
    (some ((⟨false, ([] : List Int), ([] : List Int)⟩ : Rt), false))
    (some (r, true))

noncomputable def M_impl_given_c (r : Rt) : Option (Rt × Bool) :=
  (M_impl_void r).bind fun r1 =>
  cond r1
    (some ((⟨false, ([] : List Int), ([] : List Int)⟩ : Rt), false))
    (some (r, true))

noncomputable def S_impl_inner_0 : (List Rt) × (List Rt) × Int × Int × Bool × (List Int) × (List Int) × Bool × (List Int) × (List Int) × Unit → Option (((List Rt) × (List Rt) × Int × Int × Bool × (List Int) × (List Int) × Bool × (List Int) × (List Int) × Unit) ⊕ (Bool × (List Int) × (List Int) × Bool × (List Int) × (List Int) × Unit)) := fun (a, b, t, t1, v, v1, v2, v3, xs, xs1, _) =>
  cond (decide (t1 < t))
    ((idx a t1).bind fun e =>
    (idx b t1).bind fun e1 =>
    (M_impl_mul e e1).bind fun r =>
    (M_impl_add (⟨v3, xs, xs1⟩ : Rt) r).bind fun r1 =>
    some (.inl (a, b, t, IntKind.i64.wrap (t1 + 1), v, v1, v2, r1.neg, r1.mag, r1.den, ())))
    (some (.inr (v, v1, v2, v3, xs, xs1, ())))
noncomputable def L_impl_inner_0 (a : List Rt) (b : List Rt) (t : Int) (t1 : Int) (v : Bool) (v1 : List Int) (v2 : List Int) (v3 : Bool) (xs : List Int) (xs1 : List Int) : Option (Bool × (List Int) × (List Int) × Bool × (List Int) × (List Int) × Unit) := whileO S_impl_inner_0 (a, b, t, t1, v, v1, v2, v3, xs, xs1, ())
noncomputable def M_impl_inner (a : List Rt) (b : List Rt) : Option Rt :=
  (M_impl_whole 0).bind fun r =>
  (L_impl_inner_0 a b (a.length : Int) 0 false ([] : List Int) ([] : List Int) r.neg r.mag r.den).bind fun (_, _, _, v3, xs, xs1, _) =>
  some (⟨v3, xs, xs1⟩ : Rt)

noncomputable def S_spec_EqualVectors_0 : (List Rt) × (List Rt) × Int × Int × Unit → Option (((List Rt) × (List Rt) × Int × Int × Unit) ⊕ ((Bool × Unit) ⊕ (Unit))) := fun (b, t, t1, t2, _) =>
  cond (decide (t2 < t1))
    ((idx t t2).bind fun e =>
    (idx b t2).bind fun e1 =>
    (M_spec_RatEqual e e1).bind fun r =>
    cond (!r)
      (some (.inr (.inl (false, ()))))
      (some (.inl (b, t, t1, IntKind.i64.wrap (t2 + 1), ()))))
    (some (.inr (.inr (()))))
noncomputable def L_spec_EqualVectors_0 (b : List Rt) (t : List Rt) (t1 : Int) (t2 : Int) : Option ((Bool × Unit) ⊕ (Unit)) := whileO S_spec_EqualVectors_0 (b, t, t1, t2, ())
noncomputable def M_spec_EqualVectors (a : List Rt) (b : List Rt) : Option Bool :=
  cond ((a.length : Int) != (b.length : Int))
    (some false)
    ((L_spec_EqualVectors_0 b a (a.length : Int) 0).bind fun r =>
    match r with
    | .inl (t, _) =>
      some t
    | .inr _ =>
      some true)

noncomputable def S_spec_IsVector_0 : (List Rt) × Int × Int × Unit → Option (((List Rt) × Int × Int × Unit) ⊕ ((Bool × Unit) ⊕ (Unit))) := fun (t, t1, t2, _) =>
  cond (decide (t2 < t1))
    ((idx t t2).bind fun e =>
    (M_spec_RatOk e).bind fun r =>
    cond (!r)
      (some (.inr (.inl (false, ()))))
      (some (.inl (t, t1, IntKind.i64.wrap (t2 + 1), ()))))
    (some (.inr (.inr (()))))
noncomputable def L_spec_IsVector_0 (t : List Rt) (t1 : Int) (t2 : Int) : Option ((Bool × Unit) ⊕ (Unit)) := whileO S_spec_IsVector_0 (t, t1, t2, ())
noncomputable def M_spec_IsVector (v : List Rt) : Option Bool :=
  cond (decide ((v.length : Int) > 24))
    (some false)
    ((L_spec_IsVector_0 v (v.length : Int) 0).bind fun r =>
    match r with
    | .inl (t, _) =>
      some t
    | .inr _ =>
      some true)

noncomputable def M_spec_l05Bad (r : Rt) : Option Bool :=
  some ((r.den.length : Int) == 0)

noncomputable def S_spec_l05Copy_0 : (List Rt) × Int × Int × (List Rt) × Unit → Option (((List Rt) × Int × Int × (List Rt) × Unit) ⊕ ((List Rt) × Unit)) := fun (t, t1, t2, out, _) =>
  cond (decide (t2 < t1))
    ((idx t t2).bind fun e =>
    (M_spec_l04Copy e).bind fun r =>
    (guardO (Nat.ble (out.length + 1) maxNew)).bind fun _ =>
    some (.inl (t, t1, IntKind.i64.wrap (t2 + 1), out ++ ([r] : List Rt), ())))
    (some (.inr (out, ())))
noncomputable def L_spec_l05Copy_0 (t : List Rt) (t1 : Int) (t2 : Int) (out : List Rt) : Option ((List Rt) × Unit) := whileO S_spec_l05Copy_0 (t, t1, t2, out, ())
noncomputable def M_spec_l05Copy (v : List Rt) : Option (List Rt) :=
  (L_spec_l05Copy_0 v (v.length : Int) 0 ([] : List Rt)).bind fun (out, _) =>
  some out

noncomputable def M_spec_l05Div (a : Rt) (b : Rt) : Option Rt :=
  (M_spec_l02Mul a.mag b.den).bind fun r =>
  (M_spec_l02Mul a.den b.mag).bind fun r1 =>
  (M_spec_l04Low (!(a.neg == b.neg)) r r1).bind fun r2 =>
  some r2

noncomputable def S_spec_l05Fine_0 : (List Rt) × Int × Int × Unit → Option (((List Rt) × Int × Int × Unit) ⊕ ((Bool × Unit) ⊕ (Unit))) := fun (t, t1, t2, _) =>
  cond (decide (t2 < t1))
    ((idx t t2).bind fun e =>
    (M_spec_l05Bad e).bind fun r =>
    cond r
      (some (.inr (.inl (false, ()))))
      (some (.inl (t, t1, IntKind.i64.wrap (t2 + 1), ()))))
    (some (.inr (.inr (()))))
noncomputable def L_spec_l05Fine_0 (t : List Rt) (t1 : Int) (t2 : Int) : Option ((Bool × Unit) ⊕ (Unit)) := whileO S_spec_l05Fine_0 (t, t1, t2, ())
noncomputable def M_spec_l05Fine (v : List Rt) : Option Bool :=
  (L_spec_l05Fine_0 v (v.length : Int) 0).bind fun r =>
  match r with
  | .inl (t, _) =>
    some t
  | .inr _ =>
    some true

noncomputable def M_spec_l05Done (v : List Rt) : Option (List Rt × Bool) :=
  (M_spec_l05Fine v).bind fun r =>
  cond (!r)
    (some (([] : List Rt), false))
    (some (v, true))

noncomputable def M_spec_l05Done_c (v : List Rt) : Option (List Rt × Bool) :=
  (M_spec_l05Fine v).bind fun r =>
  cond (!r)
    (some (([] : List Rt), false))
    (some (v, true))

noncomputable def M_spec_l05Zero : Option Rt :=
  (M_spec_RatFromInt 0).bind fun r =>
  some r

noncomputable def M_spec_l05Nil (r : Rt) : Option Bool :=
  some ((r.mag.length : Int) == 0)

noncomputable def S_spec_l05Inner_0 : (List Rt) × (List Rt) × Int × Int × Bool × (List Int) × (List Int) × Bool × (List Int) × (List Int) × Unit → Option (((List Rt) × (List Rt) × Int × Int × Bool × (List Int) × (List Int) × Bool × (List Int) × (List Int) × Unit) ⊕ (Bool × (List Int) × (List Int) × Bool × (List Int) × (List Int) × Unit)) := fun (b, t, t1, t2, v, v1, v2, v3, xs, xs1, _) =>
  cond (decide (t2 < t1))
    ((idx t t2).bind fun e =>
    (M_spec_l05Nil e).bind fun r =>
    cond r
      ((M_spec_l05Bad e).bind fun r1 =>
      cond (!r1)
        (some (.inl (b, t, t1, IntKind.i64.wrap (t2 + 1), v, v1, v2, v3, xs, xs1, ())))
        ((idx b t2).bind fun e1 =>
        (M_spec_l05Nil e1).bind fun r2 =>
        cond r2
          ((idx b t2).bind fun e2 =>
          (M_spec_l05Bad e2).bind fun r3 =>
          cond (!r3)
            (some (.inl (b, t, t1, IntKind.i64.wrap (t2 + 1), v, v1, v2, v3, xs, xs1, ())))
            ((idx b t2).bind fun e3 =>
            (M_spec_l04Mul e e3).bind fun r4 =>
            (M_spec_l04Add (⟨v3, xs, xs1⟩ : Rt) r4).bind fun r5 =>
            some (.inl (b, t, t1, IntKind.i64.wrap (t2 + 1), v, v1, v2, r5.neg, r5.mag, r5.den, ()))))
          ((idx b t2).bind fun e2 =>
          (M_spec_l04Mul e e2).bind fun r3 =>
          (M_spec_l04Add (⟨v3, xs, xs1⟩ : Rt) r3).bind fun r4 =>
          some (.inl (b, t, t1, IntKind.i64.wrap (t2 + 1), v, v1, v2, r4.neg, r4.mag, r4.den, ())))))
      ((idx b t2).bind fun e1 =>
      (M_spec_l05Nil e1).bind fun r1 =>
      cond r1
        ((idx b t2).bind fun e2 =>
        (M_spec_l05Bad e2).bind fun r2 =>
        cond (!r2)
          (some (.inl (b, t, t1, IntKind.i64.wrap (t2 + 1), v, v1, v2, v3, xs, xs1, ())))
          ((idx b t2).bind fun e3 =>
          (M_spec_l04Mul e e3).bind fun r3 =>
          (M_spec_l04Add (⟨v3, xs, xs1⟩ : Rt) r3).bind fun r4 =>
          some (.inl (b, t, t1, IntKind.i64.wrap (t2 + 1), v, v1, v2, r4.neg, r4.mag, r4.den, ()))))
        ((idx b t2).bind fun e2 =>
        (M_spec_l04Mul e e2).bind fun r2 =>
        (M_spec_l04Add (⟨v3, xs, xs1⟩ : Rt) r2).bind fun r3 =>
        some (.inl (b, t, t1, IntKind.i64.wrap (t2 + 1), v, v1, v2, r3.neg, r3.mag, r3.den, ())))))
    (some (.inr (v, v1, v2, v3, xs, xs1, ())))
noncomputable def L_spec_l05Inner_0 (b : List Rt) (t : List Rt) (t1 : Int) (t2 : Int) (v : Bool) (v1 : List Int) (v2 : List Int) (v3 : Bool) (xs : List Int) (xs1 : List Int) : Option (Bool × (List Int) × (List Int) × Bool × (List Int) × (List Int) × Unit) := whileO S_spec_l05Inner_0 (b, t, t1, t2, v, v1, v2, v3, xs, xs1, ())
noncomputable def M_spec_l05Inner (a : List Rt) (b : List Rt) : Option Rt :=
  (M_spec_l05Zero).bind fun r =>
  (L_spec_l05Inner_0 b a (a.length : Int) 0 false ([] : List Int) ([] : List Int) r.neg r.mag r.den).bind fun (_, _, _, v3, xs, xs1, _) =>
  some (⟨v3, xs, xs1⟩ : Rt)

noncomputable def M_spec_l05Sub (a : Rt) (b : Rt) : Option Rt :=
  (M_spec_l04Neg b).bind fun r =>
  (M_spec_l04Add a r).bind fun r1 =>
  some r1

noncomputable def S_spec_l05Zeros_0 : Int × (List Rt) × Unit → Option ((Int × (List Rt) × Unit) ⊕ ((List Rt) × Unit)) := fun (n, out, _) =>
  cond (decide ((out.length : Int) < n))
    ((M_spec_l05Zero).bind fun r =>
    (guardO (Nat.ble (out.length + 1) maxNew)).bind fun _ =>
    some (.inl (n, out ++ ([r] : List Rt), ())))
    (some (.inr (out, ())))
noncomputable def L_spec_l05Zeros_0 (n : Int) (out : List Rt) : Option ((List Rt) × Unit) := whileO S_spec_l05Zeros_0 (n, out, ())
noncomputable def M_spec_l05Zeros (n : Int) : Option (List Rt) :=
  (L_spec_l05Zeros_0 n ([] : List Rt)).bind fun (out, _) =>
  some out

end Go.Di
/-
  Own work, written by program (gen.py) out of the functions of the given program: what they compute, as plain Lean.
-/
namespace Go.Di
noncomputable def M_impl_isLength (n : Int) : Option Bool :=
  cond (decide (n ≥ 0))
    (some (decide (n ≤ 24)))
    (some false)

noncomputable def S_impl_MatrixOk_0 : (List Rt) × Int × Int × Unit → Option (((List Rt) × Int × Int × Unit) ⊕ ((Bool × Unit) ⊕ (Unit))) := fun (t, t1, t2, _) =>
  cond (decide (t2 < t1))
    ((idx t t2).bind fun e =>
    (M_impl_RatOk e).bind fun r =>
    cond (!r)
      (some (.inr (.inl (false, ()))))
      (some (.inl (t, t1, IntKind.i64.wrap (t2 + 1), ()))))
    (some (.inr (.inr (()))))
noncomputable def L_impl_MatrixOk_0 (t : List Rt) (t1 : Int) (t2 : Int) : Option ((Bool × Unit) ⊕ (Unit)) := whileO S_impl_MatrixOk_0 (t, t1, t2, ())
noncomputable def M_impl_MatrixOk (m : Mx) : Option Bool :=
  (M_impl_isLength m.rows).bind fun r =>
  cond (!r)
    (some false)
    ((M_impl_isLength m.cols).bind fun r1 =>
    cond (!r1)
      (some false)
      (cond ((m.cells.length : Int) != (IntKind.i64.wrap (m.rows * m.cols)))
        (some false)
        ((L_impl_MatrixOk_0 m.cells (m.cells.length : Int) 0).bind fun r2 =>
        match r2 with
        | .inl (t, _) =>
          some t
        | .inr _ =>
          some true)))

noncomputable def M_impl_Matrix_row (m : Mx) (i : Int) : Option (List Rt) :=
  (guardO (inside m.cells.length (IntKind.i64.wrap (i * m.cols), IntKind.i64.wrap ((IntKind.i64.wrap (i + 1)) * m.cols)))).bind fun _ =>
  some (cut m.cells ((IntKind.i64.wrap (i * m.cols)).toNat) ((IntKind.i64.wrap ((IntKind.i64.wrap (i + 1)) * m.cols)).toNat))

noncomputable def S_impl_applied_0 : (List Rt) × Int × Int × Int × Int × (List Rt) × (List Rt) × Unit → Option (((List Rt) × Int × Int × Int × Int × (List Rt) × (List Rt) × Unit) ⊕ ((List Rt) × Unit)) := fun (v, t, t1, v1, v2, v3, out, _) =>
  cond (decide (t1 < t))
    ((M_impl_Matrix_row (⟨v1, v2, v3⟩ : Mx) t1).bind fun r =>
    (M_impl_inner r v).bind fun r1 =>
    (guardO (Nat.ble (out.length + 1) maxNew)).bind fun _ =>
    some (.inl (v, t, IntKind.i64.wrap (t1 + 1), v1, v2, v3, out ++ ([r1] : List Rt), ())))
    (some (.inr (out, ())))
noncomputable def L_impl_applied_0 (v : List Rt) (t : Int) (t1 : Int) (v1 : Int) (v2 : Int) (v3 : List Rt) (out : List Rt) : Option ((List Rt) × Unit) := whileO S_impl_applied_0 (v, t, t1, v1, v2, v3, out, ())
noncomputable def M_impl_applied (m : Mx) (v : List Rt) : Option (List Rt × Bool) :=
  (L_impl_applied_0 v m.rows 0 m.rows m.cols m.cells ([] : List Rt)).bind fun (out, _) =>
  (M_impl_complete out).bind fun r =>
  cond (!r)
    (some (([] : List Rt), false))
    (some (out, true))

noncomputable def M_impl_ApplyMatrix (m : Mx) (v : List Rt) : Option (List Rt × Bool) :=
  (M_impl_MatrixOk m).bind fun r =>
  cond (!r)
    (some (([] : List Rt), false))
    ((M_impl_IsVector v).bind fun r1 =>
    cond (!r1)
      (some (([] : List Rt), false))
      (cond ((v.length : Int) != m.cols)
        (some (([] : List Rt), false))
        ((M_impl_applied m v).bind fun (r0, r1_1) =>
        some (r0, r1_1))))

noncomputable def M_impl_Matrix_at (m : Mx) (i : Int) (k : Int) : Option Rt :=
  (idx m.cells (IntKind.i64.wrap ((IntKind.i64.wrap (i * m.cols)) + k))).bind fun e =>
  some e

noncomputable def M_impl_CellAt (m : Mx) (i : Int) (k : Int) : Option Rt :=
  (M_impl_MatrixOk m).bind fun r =>
  cond (!r)
    (some (⟨false, ([] : List Int), ([] : List Int)⟩ : Rt))
    (cond (decide (i < 0))
      (some (⟨false, ([] : List Int), ([] : List Int)⟩ : Rt))
      (cond (decide (i ≥ m.rows))
        (some (⟨false, ([] : List Int), ([] : List Int)⟩ : Rt))
        (cond (decide (k < 0))
          (some (⟨false, ([] : List Int), ([] : List Int)⟩ : Rt))
          (cond (decide (k ≥ m.cols))
            (some (⟨false, ([] : List Int), ([] : List Int)⟩ : Rt))
            ((M_impl_Matrix_at m i k).bind fun r1 =>
            (M_impl_copyRat r1).bind fun r2 =>
            some r2)))))

noncomputable def M_impl_EqualMatrices (a : Mx) (b : Mx) : Option Bool :=
  cond (a.rows == b.rows)
    (cond (a.cols == b.cols)
      ((M_impl_EqualVectors a.cells b.cells).bind fun r =>
      some r)
      (some false))
    (some false)

noncomputable def M_impl_IdentityMatrix_c1 (i : Int) (k : Int) : Option Rt :=
  cond (i == k)
    ((M_impl_whole 1).bind fun r =>
    some r)
    ((M_impl_whole 0).bind fun r =>
    some r)

noncomputable def S_impl_MatrixOf_0 : (List Int) × Int × Int × Int × Int × (List Rt) × Int × Int × (List Rt) × Unit → Option (((List Int) × Int × Int × Int × Int × (List Rt) × Int × Int × (List Rt) × Unit) ⊕ (Int × Int × (List Rt) × Int × Int × (List Rt) × Unit)) := fun (t, t1, t2, v, v1, v2, v3, v4, xs, _) =>
  cond (decide (t2 < t1))
    ((idx t t2).bind fun e =>
    (M_impl_whole e).bind fun r =>
    (guardO (Nat.ble (xs.length + 1) maxNew)).bind fun _ =>
    some (.inl (t, t1, IntKind.i64.wrap (t2 + 1), v, v1, v2, v3, v4, xs ++ ([r] : List Rt), ())))
    (some (.inr (v, v1, v2, v3, v4, xs, ())))
noncomputable def L_impl_MatrixOf_0 (t : List Int) (t1 : Int) (t2 : Int) (v : Int) (v1 : Int) (v2 : List Rt) (v3 : Int) (v4 : Int) (xs : List Rt) : Option (Int × Int × (List Rt) × Int × Int × (List Rt) × Unit) := whileO S_impl_MatrixOf_0 (t, t1, t2, v, v1, v2, v3, v4, xs, ())
noncomputable def M_impl_MatrixOf (rows : Int) (cols : Int) (list : List Int) : Option Mx :=
  (M_impl_isLength rows).bind fun r =>
  cond (!r)
    (some (⟨0, 0, ([] : List Rt)⟩ : Mx))
    ((M_impl_isLength cols).bind fun r1 =>
    cond (!r1)
      (some (⟨0, 0, ([] : List Rt)⟩ : Mx))
      (cond ((list.length : Int) != (IntKind.i64.wrap (rows * cols)))
        (some (⟨0, 0, ([] : List Rt)⟩ : Mx))
        ((L_impl_MatrixOf_0 list (list.length : Int) 0 0 0 ([] : List Rt) rows cols ([] : List Rt)).bind fun (_, _, _, v3, v4, xs, _) =>
        some (⟨v3, v4, xs⟩ : Mx))))

noncomputable def M_impl_RowOf (m : Mx) (i : Int) : Option (List Rt) :=
  (M_impl_MatrixOk m).bind fun r =>
  cond (!r)
    (some ([] : List Rt))
    (cond (decide (i < 0))
      (some ([] : List Rt))
      (cond (decide (i ≥ m.rows))
        (some ([] : List Rt))
        ((M_impl_Matrix_row m i).bind fun r1 =>
        (M_impl_copyVector r1).bind fun r2 =>
        some r2)))

noncomputable def M_impl_givenMatrix (m : Mx) : Option (Mx × Bool) :=
  (M_impl_complete m.cells).bind fun r =>
  cond (!r)
    (some ((⟨0, 0, ([] : List Rt)⟩ : Mx), false))
    (some (m, true))

noncomputable def S_spec_MatrixOk_0 : (List Rt) × Int × Int × Unit → Option (((List Rt) × Int × Int × Unit) ⊕ ((Bool × Unit) ⊕ (Unit))) := fun (t, t1, t2, _) =>
  cond (decide (t2 < t1))
    ((idx t t2).bind fun e =>
    (M_spec_RatOk e).bind fun r =>
    cond (!r)
      (some (.inr (.inl (false, ()))))
      (some (.inl (t, t1, IntKind.i64.wrap (t2 + 1), ()))))
    (some (.inr (.inr (()))))
noncomputable def L_spec_MatrixOk_0 (t : List Rt) (t1 : Int) (t2 : Int) : Option ((Bool × Unit) ⊕ (Unit)) := whileO S_spec_MatrixOk_0 (t, t1, t2, ())
noncomputable def M_spec_MatrixOk (m : Mx) : Option Bool :=
  (M_spec_l01In m.rows 0 24).bind fun r =>
  cond (!r)
    (some false)
    ((M_spec_l01In m.cols 0 24).bind fun r1 =>
    cond (!r1)
      (some false)
      (cond ((m.cells.length : Int) != (IntKind.i64.wrap (m.rows * m.cols)))
        (some false)
        ((L_spec_MatrixOk_0 m.cells (m.cells.length : Int) 0).bind fun r2 =>
        match r2 with
        | .inl (t, _) =>
          some t
        | .inr _ =>
          some true)))

noncomputable def M_spec_l06Done_c (m : Mx) : Option (Mx × Bool) :=
  (M_spec_l05Fine m.cells).bind fun r =>
  cond (!r)
    (some ((⟨0, 0, ([] : List Rt)⟩ : Mx), false))
    (some (m, true))

noncomputable def S_spec_AddMatrices_0 : (List Rt) × Int × Int × Int × Int × (List Rt) × Int × Int × (List Rt) × Int × Int × (List Rt) × Unit → Option (((List Rt) × Int × Int × Int × Int × (List Rt) × Int × Int × (List Rt) × Int × Int × (List Rt) × Unit) ⊕ (Int × Int × (List Rt) × Int × Int × (List Rt) × Unit)) := fun (t, t1, t2, v, v1, v2, v3, v4, v5, v6, v7, xs, _) =>
  cond (decide (t2 < t1))
    ((idx t t2).bind fun e =>
    (idx v2 t2).bind fun e1 =>
    (M_spec_l04Add e e1).bind fun r =>
    (guardO (Nat.ble (xs.length + 1) maxNew)).bind fun _ =>
    some (.inl (t, t1, IntKind.i64.wrap (t2 + 1), v, v1, v2, v3, v4, v5, v6, v7, xs ++ ([r] : List Rt), ())))
    (some (.inr (v3, v4, v5, v6, v7, xs, ())))
noncomputable def L_spec_AddMatrices_0 (t : List Rt) (t1 : Int) (t2 : Int) (v : Int) (v1 : Int) (v2 : List Rt) (v3 : Int) (v4 : Int) (v5 : List Rt) (v6 : Int) (v7 : Int) (xs : List Rt) : Option (Int × Int × (List Rt) × Int × Int × (List Rt) × Unit) := whileO S_spec_AddMatrices_0 (t, t1, t2, v, v1, v2, v3, v4, v5, v6, v7, xs, ())
noncomputable def M_spec_AddMatrices (a : Mx) (b : Mx) : Option (Mx × Bool) :=
  (M_spec_MatrixOk a).bind fun r =>
  cond (!r)
    (some ((⟨0, 0, ([] : List Rt)⟩ : Mx), false))
    ((M_spec_MatrixOk b).bind fun r1 =>
    cond (!r1)
      (some ((⟨0, 0, ([] : List Rt)⟩ : Mx), false))
      (cond (a.rows != b.rows)
        (some ((⟨0, 0, ([] : List Rt)⟩ : Mx), false))
        (cond (a.cols != b.cols)
          (some ((⟨0, 0, ([] : List Rt)⟩ : Mx), false))
          ((L_spec_AddMatrices_0 a.cells (a.cells.length : Int) 0 b.rows b.cols b.cells 0 0 ([] : List Rt) a.rows a.cols ([] : List Rt)).bind fun (_, _, _, v3, v4, xs, _) =>
          (M_spec_l06Done_c (⟨v3, v4, xs⟩ : Mx)).bind fun (r0, r1_1) =>
          some (r0, r1_1)))))

noncomputable def M_spec_l06Row (m : Mx) (i : Int) : Option (List Rt) :=
  (guardO (inside m.cells.length (IntKind.i64.wrap (i * m.cols), IntKind.i64.wrap ((IntKind.i64.wrap (i + 1)) * m.cols)))).bind fun _ =>
  some (cut m.cells ((IntKind.i64.wrap (i * m.cols)).toNat) ((IntKind.i64.wrap ((IntKind.i64.wrap (i + 1)) * m.cols)).toNat))

noncomputable def S_spec_l06Apply_0 : (List Rt) × Int × Int × Int × (List Rt) × (List Rt) × Unit → Option (((List Rt) × Int × Int × Int × (List Rt) × (List Rt) × Unit) ⊕ ((List Rt) × Unit)) := fun (v, i, v1, v2, v3, out, _) =>
  cond (decide (i < v1))
    ((M_spec_l06Row (⟨v1, v2, v3⟩ : Mx) i).bind fun r =>
    (M_spec_l05Inner r v).bind fun r1 =>
    (guardO (Nat.ble (out.length + 1) maxNew)).bind fun _ =>
    some (.inl (v, IntKind.i64.wrap (i + 1), v1, v2, v3, out ++ ([r1] : List Rt), ())))
    (some (.inr (out, ())))
noncomputable def L_spec_l06Apply_0 (v : List Rt) (i : Int) (v1 : Int) (v2 : Int) (v3 : List Rt) (out : List Rt) : Option ((List Rt) × Unit) := whileO S_spec_l06Apply_0 (v, i, v1, v2, v3, out, ())
noncomputable def M_spec_l06Apply (m : Mx) (v : List Rt) : Option (List Rt) :=
  (L_spec_l06Apply_0 v 0 m.rows m.cols m.cells ([] : List Rt)).bind fun (out, _) =>
  some out

noncomputable def M_spec_ApplyMatrix (m : Mx) (v : List Rt) : Option (List Rt × Bool) :=
  (M_spec_MatrixOk m).bind fun r =>
  cond (!r)
    (some (([] : List Rt), false))
    ((M_spec_IsVector v).bind fun r1 =>
    cond (!r1)
      (some (([] : List Rt), false))
      (cond ((v.length : Int) != m.cols)
        (some (([] : List Rt), false))
        ((M_spec_l06Apply m v).bind fun r2 =>
        (M_spec_l05Done_c r2).bind fun (r0, r1_1) =>
        some (r0, r1_1))))

noncomputable def M_spec_l06At (m : Mx) (i : Int) (k : Int) : Option Rt :=
  (idx m.cells (IntKind.i64.wrap ((IntKind.i64.wrap (i * m.cols)) + k))).bind fun e =>
  some e

noncomputable def M_spec_CellAt (m : Mx) (i : Int) (k : Int) : Option Rt :=
  (M_spec_MatrixOk m).bind fun r =>
  cond (!r)
    (some (⟨false, ([] : List Int), ([] : List Int)⟩ : Rt))
    ((M_spec_l01In i 0 (IntKind.i64.wrap (m.rows - 1))).bind fun r1 =>
    cond (!r1)
      (some (⟨false, ([] : List Int), ([] : List Int)⟩ : Rt))
      ((M_spec_l01In k 0 (IntKind.i64.wrap (m.cols - 1))).bind fun r2 =>
      cond (!r2)
        (some (⟨false, ([] : List Int), ([] : List Int)⟩ : Rt))
        ((M_spec_l06At m i k).bind fun r3 =>
        (M_spec_l04Copy r3).bind fun r4 =>
        some r4)))

noncomputable def M_spec_EqualMatrices (a : Mx) (b : Mx) : Option Bool :=
  cond (a.rows == b.rows)
    (cond (a.cols == b.cols)
      ((M_spec_EqualVectors a.cells b.cells).bind fun r =>
      some r)
      (some false))
    (some false)

noncomputable def M_spec_l06Zero (rows : Int) (cols : Int) : Option Mx :=
  (M_spec_l05Zeros (IntKind.i64.wrap (rows * cols))).bind fun r =>
  some (⟨rows, cols, r⟩ : Mx)

noncomputable def S_spec_l06Identity_0 : Int × Int × Int × Int × (List Rt) × Int × Int × (List Rt) × Unit → Option ((Int × Int × Int × Int × (List Rt) × Int × Int × (List Rt) × Unit) ⊕ (Int × Int × (List Rt) × Int × Int × (List Rt) × Unit)) := fun (n, i, v, v1, v2, v3, v4, xs, _) =>
  cond (decide (i < n))
    ((M_spec_RatFromInt 1).bind fun r =>
    (idx xs (IntKind.i64.wrap ((IntKind.i64.wrap (i * n)) + i))).bind fun _ =>
    ((xs[(IntKind.i64.wrap ((IntKind.i64.wrap (i * n)) + i)).toNat]?).bind fun _ => some r).bind fun e =>
    some (.inl (n, IntKind.i64.wrap (i + 1), v, v1, v2, v3, v4, xs.set ((IntKind.i64.wrap ((IntKind.i64.wrap (i * n)) + i)).toNat) e, ())))
    (some (.inr (v, v1, v2, v3, v4, xs, ())))
noncomputable def L_spec_l06Identity_0 (n : Int) (i : Int) (v : Int) (v1 : Int) (v2 : List Rt) (v3 : Int) (v4 : Int) (xs : List Rt) : Option (Int × Int × (List Rt) × Int × Int × (List Rt) × Unit) := whileO S_spec_l06Identity_0 (n, i, v, v1, v2, v3, v4, xs, ())
noncomputable def M_spec_l06Identity (n : Int) : Option Mx :=
  (M_spec_l06Zero n n).bind fun r =>
  (L_spec_l06Identity_0 n 0 0 0 ([] : List Rt) r.rows r.cols r.cells).bind fun (_, _, _, v3, v4, xs, _) =>
  some (⟨v3, v4, xs⟩ : Mx)

noncomputable def M_spec_IdentityMatrix (n : Int) : Option Mx :=
  (M_spec_l01In n 0 24).bind fun r =>
  cond (!r)
    (some (⟨0, 0, ([] : List Rt)⟩ : Mx))
    ((M_spec_l06Identity n).bind fun r1 =>
    some r1)

noncomputable def S_spec_MatrixOf_0 : (List Int) × Int × Int × Int × Int × (List Rt) × Int × Int × (List Rt) × Unit → Option (((List Int) × Int × Int × Int × Int × (List Rt) × Int × Int × (List Rt) × Unit) ⊕ (Int × Int × (List Rt) × Int × Int × (List Rt) × Unit)) := fun (t, t1, t2, v, v1, v2, v3, v4, xs, _) =>
  cond (decide (t2 < t1))
    ((idx t t2).bind fun e =>
    (M_spec_RatFromInt e).bind fun r =>
    (guardO (Nat.ble (xs.length + 1) maxNew)).bind fun _ =>
    some (.inl (t, t1, IntKind.i64.wrap (t2 + 1), v, v1, v2, v3, v4, xs ++ ([r] : List Rt), ())))
    (some (.inr (v, v1, v2, v3, v4, xs, ())))
noncomputable def L_spec_MatrixOf_0 (t : List Int) (t1 : Int) (t2 : Int) (v : Int) (v1 : Int) (v2 : List Rt) (v3 : Int) (v4 : Int) (xs : List Rt) : Option (Int × Int × (List Rt) × Int × Int × (List Rt) × Unit) := whileO S_spec_MatrixOf_0 (t, t1, t2, v, v1, v2, v3, v4, xs, ())
noncomputable def M_spec_MatrixOf (rows : Int) (cols : Int) (list : List Int) : Option Mx :=
  (M_spec_l01In rows 0 24).bind fun r =>
  cond (!r)
    (some (⟨0, 0, ([] : List Rt)⟩ : Mx))
    ((M_spec_l01In cols 0 24).bind fun r1 =>
    cond (!r1)
      (some (⟨0, 0, ([] : List Rt)⟩ : Mx))
      (cond ((list.length : Int) != (IntKind.i64.wrap (rows * cols)))
        (some (⟨0, 0, ([] : List Rt)⟩ : Mx))
        ((L_spec_MatrixOf_0 list (list.length : Int) 0 0 0 ([] : List Rt) rows cols ([] : List Rt)).bind fun (_, _, _, v3, v4, xs, _) =>
        some (⟨v3, v4, xs⟩ : Mx))))

noncomputable def S_spec_l06Transpose_1 : Int × Int × Int × Int × (List Rt) × Int × Int × (List Rt) × Int × Int × (List Rt) × Unit → Option ((Int × Int × Int × Int × (List Rt) × Int × Int × (List Rt) × Int × Int × (List Rt) × Unit) ⊕ (Int × Int × Int × (List Rt) × Int × Int × (List Rt) × Int × Int × (List Rt) × Unit)) := fun (k, i, v, v1, v2, v3, v4, v5, v6, v7, xs, _) =>
  cond (decide (i < v))
    ((M_spec_l06At (⟨v, v1, v2⟩ : Mx) i k).bind fun r =>
    (M_spec_l04Copy r).bind fun r1 =>
    (guardO (Nat.ble (xs.length + 1) maxNew)).bind fun _ =>
    some (.inl (k, IntKind.i64.wrap (i + 1), v, v1, v2, v3, v4, v5, v6, v7, xs ++ ([r1] : List Rt), ())))
    (some (.inr (k, v, v1, v2, v3, v4, v5, v6, v7, xs, ())))
noncomputable def L_spec_l06Transpose_1 (k : Int) (i : Int) (v : Int) (v1 : Int) (v2 : List Rt) (v3 : Int) (v4 : Int) (v5 : List Rt) (v6 : Int) (v7 : Int) (xs : List Rt) : Option (Int × Int × Int × (List Rt) × Int × Int × (List Rt) × Int × Int × (List Rt) × Unit) := whileO S_spec_l06Transpose_1 (k, i, v, v1, v2, v3, v4, v5, v6, v7, xs, ())
noncomputable def S_spec_l06Transpose_0 : Int × Int × Int × (List Rt) × Int × Int × (List Rt) × Int × Int × (List Rt) × Unit → Option ((Int × Int × Int × (List Rt) × Int × Int × (List Rt) × Int × Int × (List Rt) × Unit) ⊕ (Int × Int × (List Rt) × Int × Int × (List Rt) × Unit)) := fun (k, v, v1, v2, v3, v4, v5, v6, v7, xs, _) =>
  cond (decide (k < v1))
    ((L_spec_l06Transpose_1 k 0 v v1 v2 v3 v4 v5 v6 v7 xs).bind fun (k1, v8, v9, v10, v11, v12, v13, v14, v15, xs1, _) =>
    some (.inl (IntKind.i64.wrap (k1 + 1), v8, v9, v10, v11, v12, v13, v14, v15, xs1, ())))
    (some (.inr (v3, v4, v5, v6, v7, xs, ())))
noncomputable def L_spec_l06Transpose_0 (k : Int) (v : Int) (v1 : Int) (v2 : List Rt) (v3 : Int) (v4 : Int) (v5 : List Rt) (v6 : Int) (v7 : Int) (xs : List Rt) : Option (Int × Int × (List Rt) × Int × Int × (List Rt) × Unit) := whileO S_spec_l06Transpose_0 (k, v, v1, v2, v3, v4, v5, v6, v7, xs, ())
noncomputable def M_spec_l06Transpose (m : Mx) : Option Mx :=
  (L_spec_l06Transpose_0 0 m.rows m.cols m.cells 0 0 ([] : List Rt) m.cols m.rows ([] : List Rt)).bind fun (_, _, _, v3, v4, xs, _) =>
  some (⟨v3, v4, xs⟩ : Mx)

noncomputable def S_spec_l06Multiply_1 : Int × Int × Int × Int × (List Rt) × Int × Int × (List Rt) × Int × Int × (List Rt) × Int × Int × Int × Int × (List Rt) × (List Rt) × Unit → Option ((Int × Int × Int × Int × (List Rt) × Int × Int × (List Rt) × Int × Int × (List Rt) × Int × Int × Int × Int × (List Rt) × (List Rt) × Unit) ⊕ (Int × Int × Int × (List Rt) × Int × Int × (List Rt) × Int × Int × (List Rt) × Int × Int × Int × Int × (List Rt) × (List Rt) × Unit)) := fun (i, k, v, v1, v2, v3, v4, v5, v6, v7, v8, v9, v10, v11, v12, v13, xs, _) =>
  cond (decide (k < v4))
    ((M_spec_l06Row (⟨v, v1, v2⟩ : Mx) i).bind fun r =>
    (M_spec_l06Row (⟨v11, v12, v13⟩ : Mx) k).bind fun r1 =>
    (M_spec_l05Inner r r1).bind fun r2 =>
    (guardO (Nat.ble (xs.length + 1) maxNew)).bind fun _ =>
    some (.inl (i, IntKind.i64.wrap (k + 1), v, v1, v2, v3, v4, v5, v6, v7, v8, v9, v10, v11, v12, v13, xs ++ ([r2] : List Rt), ())))
    (some (.inr (i, v, v1, v2, v3, v4, v5, v6, v7, v8, v9, v10, v11, v12, v13, xs, ())))
noncomputable def L_spec_l06Multiply_1 (i : Int) (k : Int) (v : Int) (v1 : Int) (v2 : List Rt) (v3 : Int) (v4 : Int) (v5 : List Rt) (v6 : Int) (v7 : Int) (v8 : List Rt) (v9 : Int) (v10 : Int) (v11 : Int) (v12 : Int) (v13 : List Rt) (xs : List Rt) : Option (Int × Int × Int × (List Rt) × Int × Int × (List Rt) × Int × Int × (List Rt) × Int × Int × Int × Int × (List Rt) × (List Rt) × Unit) := whileO S_spec_l06Multiply_1 (i, k, v, v1, v2, v3, v4, v5, v6, v7, v8, v9, v10, v11, v12, v13, xs, ())
noncomputable def S_spec_l06Multiply_0 : Int × Int × Int × (List Rt) × Int × Int × (List Rt) × Int × Int × (List Rt) × Int × Int × Int × Int × (List Rt) × (List Rt) × Unit → Option ((Int × Int × Int × (List Rt) × Int × Int × (List Rt) × Int × Int × (List Rt) × Int × Int × Int × Int × (List Rt) × (List Rt) × Unit) ⊕ (Int × Int × (List Rt) × Int × Int × (List Rt) × Unit)) := fun (i, v, v1, v2, v3, v4, v5, v6, v7, v8, v9, v10, v11, v12, v13, xs, _) =>
  cond (decide (i < v))
    ((L_spec_l06Multiply_1 i 0 v v1 v2 v3 v4 v5 v6 v7 v8 v9 v10 v11 v12 v13 xs).bind fun (i1, v14, v15, v16, v17, v18, v19, v20, v21, v22, v23, v24, v25, v26, v27, xs1, _) =>
    some (.inl (IntKind.i64.wrap (i1 + 1), v14, v15, v16, v17, v18, v19, v20, v21, v22, v23, v24, v25, v26, v27, xs1, ())))
    (some (.inr (v6, v7, v8, v9, v10, xs, ())))
noncomputable def L_spec_l06Multiply_0 (i : Int) (v : Int) (v1 : Int) (v2 : List Rt) (v3 : Int) (v4 : Int) (v5 : List Rt) (v6 : Int) (v7 : Int) (v8 : List Rt) (v9 : Int) (v10 : Int) (v11 : Int) (v12 : Int) (v13 : List Rt) (xs : List Rt) : Option (Int × Int × (List Rt) × Int × Int × (List Rt) × Unit) := whileO S_spec_l06Multiply_0 (i, v, v1, v2, v3, v4, v5, v6, v7, v8, v9, v10, v11, v12, v13, xs, ())
noncomputable def M_spec_l06Multiply (a : Mx) (b : Mx) : Option Mx :=
  (M_spec_l06Transpose b).bind fun r =>
  (L_spec_l06Multiply_0 0 a.rows a.cols a.cells b.rows b.cols b.cells 0 0 ([] : List Rt) a.rows b.cols r.rows r.cols r.cells ([] : List Rt)).bind fun (_, _, _, v3, v4, xs, _) =>
  some (⟨v3, v4, xs⟩ : Mx)

noncomputable def M_spec_Multiply (a : Mx) (b : Mx) : Option (Mx × Bool) :=
  (M_spec_MatrixOk a).bind fun r =>
  cond (!r)
    (some ((⟨0, 0, ([] : List Rt)⟩ : Mx), false))
    ((M_spec_MatrixOk b).bind fun r1 =>
    cond (!r1)
      (some ((⟨0, 0, ([] : List Rt)⟩ : Mx), false))
      (cond (a.cols != b.rows)
        (some ((⟨0, 0, ([] : List Rt)⟩ : Mx), false))
        ((M_spec_l06Multiply a b).bind fun r2 =>
        (M_spec_l06Done_c r2).bind fun (r0, r1_1) =>
        some (r0, r1_1))))

noncomputable def M_spec_RowOf (m : Mx) (i : Int) : Option (List Rt) :=
  (M_spec_MatrixOk m).bind fun r =>
  cond (!r)
    (some ([] : List Rt))
    ((M_spec_l01In i 0 (IntKind.i64.wrap (m.rows - 1))).bind fun r1 =>
    cond (!r1)
      (some ([] : List Rt))
      ((M_spec_l06Row m i).bind fun r2 =>
      (M_spec_l05Copy r2).bind fun r3 =>
      some r3))

noncomputable def M_spec_Transpose (m : Mx) : Option Mx :=
  (M_spec_MatrixOk m).bind fun r =>
  cond (!r)
    (some (⟨0, 0, ([] : List Rt)⟩ : Mx))
    ((M_spec_l06Transpose m).bind fun r1 =>
    some r1)

noncomputable def M_spec_l06Copy (m : Mx) : Option Mx :=
  (M_spec_l05Copy m.cells).bind fun r =>
  some (⟨m.rows, m.cols, r⟩ : Mx)

noncomputable def M_spec_l06Done (m : Mx) : Option (Mx × Bool) :=
  (M_spec_l05Fine m.cells).bind fun r =>
  cond (!r)
    (some ((⟨0, 0, ([] : List Rt)⟩ : Mx), false))
    (some (m, true))

end Go.Di
/-
  Own work, written by program (gen.py) out of the functions of the given program: what they compute, as plain Lean.
-/
namespace Go.Di
noncomputable def S_spec_l07Has_0 : Int × (List Int) × Int × Int × Unit → Option ((Int × (List Int) × Int × Int × Unit) ⊕ ((Bool × Unit) ⊕ (Unit))) := fun (n, t, t1, t2, _) =>
  cond (decide (t2 < t1))
    ((idx t t2).bind fun e =>
    cond (e == n)
      (some (.inr (.inl (true, ()))))
      (some (.inl (n, t, t1, IntKind.i64.wrap (t2 + 1), ()))))
    (some (.inr (.inr (()))))
noncomputable def L_spec_l07Has_0 (n : Int) (t : List Int) (t1 : Int) (t2 : Int) : Option ((Bool × Unit) ⊕ (Unit)) := whileO S_spec_l07Has_0 (n, t, t1, t2, ())
noncomputable def M_spec_l07Has (l : List Int) (n : Int) : Option Bool :=
  (L_spec_l07Has_0 n l (l.length : Int) 0).bind fun r =>
  match r with
  | .inl (t, _) =>
    some t
  | .inr _ =>
    some false

end Go.Di
/-
  Own work, written by program (gen.py) out of the functions of the given program: what they compute, as plain Lean.
-/
namespace Go.Di
noncomputable def S_impl_root_0 : (List Int) × (List Int) × Unit → Option (((List Int) × (List Int) × Unit) ⊕ ((List Int) × Unit)) := fun (a, x, _) =>
  (M_impl_natDiv a x).bind fun (r0, _) =>
  (M_impl_natAdd x r0).bind fun r =>
  (M_impl_natDiv r ([2] : List Int)).bind fun (r0_1, _) =>
  (M_impl_natCmp r0_1 x).bind fun r2 =>
  cond (decide (r2 ≥ 0))
    (some (.inr (x, ())))
    (some (.inl (a, r0_1, ())))
noncomputable def L_impl_root_0 (a : List Int) (x : List Int) : Option ((List Int) × Unit) := whileO S_impl_root_0 (a, x, ())
noncomputable def M_impl_root (a : List Int) : Option (List Int) :=
  cond ((a.length : Int) == 0)
    (some ([] : List Int))
    ((guardO (((decide (0 ≤ (IntKind.i64.wrap ((IntKind.i64.wrap ((IntKind.i64.wrap ((a.length : Int) + 1)).tdiv 2)) + 1)))) && (decide ((IntKind.i64.wrap ((IntKind.i64.wrap ((IntKind.i64.wrap ((a.length : Int) + 1)).tdiv 2)) + 1)) ≤ (IntKind.i64.wrap ((IntKind.i64.wrap ((IntKind.i64.wrap ((a.length : Int) + 1)).tdiv 2)) + 1))))) && (decide ((IntKind.i64.wrap ((IntKind.i64.wrap ((IntKind.i64.wrap ((a.length : Int) + 1)).tdiv 2)) + 1)) ≤ (maxNew : Int))))).bind fun _ =>
    (idx (List.replicate ((IntKind.i64.wrap ((IntKind.i64.wrap ((IntKind.i64.wrap ((a.length : Int) + 1)).tdiv 2)) + 1)).toNat) 0 : List Int) (IntKind.i64.wrap (((List.replicate ((IntKind.i64.wrap ((IntKind.i64.wrap ((IntKind.i64.wrap ((a.length : Int) + 1)).tdiv 2)) + 1)).toNat) 0 : List Int).length : Int) - 1))).bind fun _ =>
    (L_impl_root_0 a ((List.replicate ((IntKind.i64.wrap ((IntKind.i64.wrap ((IntKind.i64.wrap ((a.length : Int) + 1)).tdiv 2)) + 1)).toNat) 0 : List Int).set ((IntKind.i64.wrap (((List.replicate ((IntKind.i64.wrap ((IntKind.i64.wrap ((IntKind.i64.wrap ((a.length : Int) + 1)).tdiv 2)) + 1)).toNat) 0 : List Int).length : Int) - 1)).toNat) 1)).bind fun (t, _) =>
    some t)

noncomputable def M_impl_RootBelow (r : Rt) : Option Rt :=
  (M_impl_RatOk r).bind fun r1 =>
  cond (!r1)
    (some (⟨false, ([] : List Int), ([] : List Int)⟩ : Rt))
    ((M_impl_sign r).bind fun r2 =>
    cond (decide (r2 < 0))
      (some (⟨false, ([] : List Int), ([] : List Int)⟩ : Rt))
      ((M_impl_whole 1000000).bind fun r3 =>
      (M_impl_mul r r3).bind fun r4 =>
      (M_impl_whole 1000000).bind fun r5 =>
      (M_impl_mul r4 r5).bind fun r6 =>
      (M_impl_void r6).bind fun r7 =>
      cond r7
        (some (⟨false, ([] : List Int), ([] : List Int)⟩ : Rt))
        ((M_impl_natDiv r6.mag r6.den).bind fun (r0, _) =>
        (M_impl_root r0).bind fun r8 =>
        (M_impl_signed_dc false r8).bind fun r9 =>
        (M_impl_NatOf 1000000).bind fun r10 =>
        (M_impl_lowest_cc r9 r10).bind fun r11 =>
        some r11)))

noncomputable def M_impl_RoundTo (r : Rt) (n : Int) : Option Rt :=
  (M_impl_RatOk r).bind fun r1 =>
  cond (!r1)
    (some (⟨false, ([] : List Int), ([] : List Int)⟩ : Rt))
    (cond (decide (n < 1))
      (some (⟨false, ([] : List Int), ([] : List Int)⟩ : Rt))
      (cond (decide (n > 1000000))
        (some (⟨false, ([] : List Int), ([] : List Int)⟩ : Rt))
        ((M_impl_whole n).bind fun r2 =>
        (M_impl_mul r r2).bind fun r3 =>
        (M_impl_RatOf 1 2).bind fun r4 =>
        (M_impl_add r3 r4).bind fun r5 =>
        (M_impl_void r5).bind fun r6 =>
        cond r6
          (some (⟨false, ([] : List Int), ([] : List Int)⟩ : Rt))
          ((M_impl_bigFloor (⟨r5.neg, r5.mag⟩ : Bg) r5.den).bind fun (r0, _) =>
          (M_impl_NatOf n).bind fun r7 =>
          (M_impl_lowest_cc r0 r7).bind fun r8 =>
          some r8))))

noncomputable def M_impl_HalfTangent (x : Rt) (y : Rt) : Option Rt :=
  (M_impl_both x y).bind fun r =>
  cond (!r)
    (some (⟨false, ([] : List Int), ([] : List Int)⟩ : Rt))
    ((M_impl_isZero x).bind fun r1 =>
    cond r1
      ((M_impl_isZero y).bind fun r2 =>
      cond r2
        (some (⟨false, ([] : List Int), ([] : List Int)⟩ : Rt))
        ((M_impl_mul x x).bind fun r3 =>
        (M_impl_mul y y).bind fun r4 =>
        (M_impl_add r3 r4).bind fun r5 =>
        (M_impl_void r5).bind fun r6 =>
        cond r6
          (some (⟨false, ([] : List Int), ([] : List Int)⟩ : Rt))
          ((M_impl_RootBelow r5).bind fun r7 =>
          (M_impl_add r7 x).bind fun r8 =>
          (M_impl_div y r8).bind fun r9 =>
          (M_impl_sign x).bind fun r10 =>
          cond (decide (r10 < 0))
            ((M_impl_sub r7 x).bind fun r11 =>
            (M_impl_div r11 y).bind fun r12 =>
            (M_impl_void r12).bind fun r13 =>
            cond r13
              (some (⟨false, ([] : List Int), ([] : List Int)⟩ : Rt))
              ((M_impl_RoundTo r12 1000000).bind fun r14 =>
              some r14))
            ((M_impl_void r9).bind fun r11 =>
            cond r11
              (some (⟨false, ([] : List Int), ([] : List Int)⟩ : Rt))
              ((M_impl_RoundTo r9 1000000).bind fun r12 =>
              some r12)))))
      ((M_impl_mul x x).bind fun r2 =>
      (M_impl_mul y y).bind fun r3 =>
      (M_impl_add r2 r3).bind fun r4 =>
      (M_impl_void r4).bind fun r5 =>
      cond r5
        (some (⟨false, ([] : List Int), ([] : List Int)⟩ : Rt))
        ((M_impl_RootBelow r4).bind fun r6 =>
        (M_impl_add r6 x).bind fun r7 =>
        (M_impl_div y r7).bind fun r8 =>
        (M_impl_sign x).bind fun r9 =>
        cond (decide (r9 < 0))
          ((M_impl_sub r6 x).bind fun r10 =>
          (M_impl_div r10 y).bind fun r11 =>
          (M_impl_void r11).bind fun r12 =>
          cond r12
            (some (⟨false, ([] : List Int), ([] : List Int)⟩ : Rt))
            ((M_impl_RoundTo r11 1000000).bind fun r13 =>
            some r13))
          ((M_impl_void r8).bind fun r10 =>
          cond r10
            (some (⟨false, ([] : List Int), ([] : List Int)⟩ : Rt))
            ((M_impl_RoundTo r8 1000000).bind fun r11 =>
            some r11)))))

noncomputable def M_impl_UnitOf (a : Rt) : Option (Rt × Rt) :=
  (M_impl_RatOk a).bind fun r =>
  cond (!r)
    (some ((⟨false, ([] : List Int), ([] : List Int)⟩ : Rt), (⟨false, ([] : List Int), ([] : List Int)⟩ : Rt)))
    ((M_impl_mul a a).bind fun r1 =>
    (M_impl_whole 1).bind fun r2 =>
    (M_impl_add r2 r1).bind fun r3 =>
    (M_impl_whole 1).bind fun r4 =>
    (M_impl_sub r4 r1).bind fun r5 =>
    (M_impl_div r5 r3).bind fun r6 =>
    (M_impl_whole 2).bind fun r7 =>
    (M_impl_mul r7 a).bind fun r8 =>
    (M_impl_div r8 r3).bind fun r9 =>
    (M_impl_void r6).bind fun r10 =>
    cond r10
      (some ((⟨false, ([] : List Int), ([] : List Int)⟩ : Rt), (⟨false, ([] : List Int), ([] : List Int)⟩ : Rt)))
      ((M_impl_void r9).bind fun r11 =>
      cond r11
        (some ((⟨false, ([] : List Int), ([] : List Int)⟩ : Rt), (⟨false, ([] : List Int), ([] : List Int)⟩ : Rt)))
        (some (r6, r9))))

noncomputable def M_impl_LengthAlong (a : Rt) (x : Rt) (y : Rt) : Option Rt :=
  (M_impl_UnitOf a).bind fun (r0, r1) =>
  (M_impl_both x y).bind fun r =>
  cond (!r)
    (some (⟨false, ([] : List Int), ([] : List Int)⟩ : Rt))
    ((M_impl_mul r0 x).bind fun r2 =>
    (M_impl_mul r1 y).bind fun r3 =>
    (M_impl_add r2 r3).bind fun r4 =>
    some r4)

noncomputable def M_impl_OffsetFrom (a : Rt) (x : Rt) (y : Rt) : Option Rt :=
  (M_impl_UnitOf a).bind fun (r0, r1) =>
  (M_impl_both x y).bind fun r =>
  cond (!r)
    (some (⟨false, ([] : List Int), ([] : List Int)⟩ : Rt))
    ((M_impl_mul r0 y).bind fun r2 =>
    (M_impl_mul r1 x).bind fun r3 =>
    (M_impl_sub r2 r3).bind fun r4 =>
    some r4)

noncomputable def M_impl_RootOfNat (a : List Int) : Option (List Int) :=
  (M_impl_NatOk a).bind fun r =>
  cond (!r)
    (some ([] : List Int))
    ((M_impl_root a).bind fun r1 =>
    some r1)

noncomputable def S_spec_l09Root_1 : (List Int) × (List Int) × Unit → Option (((List Int) × (List Int) × Unit) ⊕ ((List Int) × Unit)) := fun (a, x, _) =>
  (M_spec_l02Div a x).bind fun (r0, _) =>
  (M_spec_l02Add x r0).bind fun r =>
  (M_spec_l02Trim r).bind fun r2 =>
  (M_spec_l02Div r2 ([2] : List Int)).bind fun (r0_1, _) =>
  (M_spec_l02Trim r0_1).bind fun r3 =>
  (M_spec_l02Trim x).bind fun r4 =>
  (M_spec_l02Cmp r3 r4).bind fun r5 =>
  cond (decide (r5 ≥ 0))
    ((M_spec_l02Trim x).bind fun r6 =>
    (guardO (Nat.ble r6.length maxNew)).bind fun _ =>
    some (.inr (r6, ())))
    ((M_spec_l02Trim r0_1).bind fun r6 =>
    some (.inl (a, r6, ())))
noncomputable def L_spec_l09Root_1 (a : List Int) (x : List Int) : Option ((List Int) × Unit) := whileO S_spec_l09Root_1 (a, x, ())
noncomputable def S_spec_l09Root_0 : (List Int) × (List Int) × Unit → Option (((List Int) × (List Int) × Unit) ⊕ ((List Int) × (List Int) × Unit)) := fun (a, x, _) =>
  cond (decide ((x.length : Int) < (IntKind.i64.wrap ((IntKind.i64.wrap ((a.length : Int) + 1)).tdiv 2))))
    ((guardO (Nat.ble (x.length + 1) maxNew)).bind fun _ =>
    some (.inl (a, x ++ ([0] : List Int), ())))
    (some (.inr (a, x, ())))
noncomputable def L_spec_l09Root_0 (a : List Int) (x : List Int) : Option ((List Int) × (List Int) × Unit) := whileO S_spec_l09Root_0 (a, x, ())
noncomputable def M_spec_l09Root (a : List Int) : Option (List Int) :=
  cond ((a.length : Int) == 0)
    (some ([] : List Int))
    ((L_spec_l09Root_0 a ([] : List Int)).bind fun (a1, x, _) =>
    (guardO (Nat.ble (x.length + 1) maxNew)).bind fun _ =>
    (L_spec_l09Root_1 a1 (x ++ ([1] : List Int))).bind fun (t, _) =>
    some t)

noncomputable def M_spec_RootBelow (r : Rt) : Option Rt :=
  (M_spec_RatOk r).bind fun r1 =>
  cond (!r1)
    (some (⟨false, ([] : List Int), ([] : List Int)⟩ : Rt))
    (cond r.neg
      (some (⟨false, ([] : List Int), ([] : List Int)⟩ : Rt))
      ((M_spec_RatFromInt 1000000000000).bind fun r2 =>
      (M_spec_l04Mul r r2).bind fun r3 =>
      (M_spec_l05Bad r3).bind fun r4 =>
      cond r4
        (some (⟨false, ([] : List Int), ([] : List Int)⟩ : Rt))
        ((M_spec_l02Div r3.mag r3.den).bind fun (r0, _) =>
        (M_spec_l02Trim_c r0).bind fun r5 =>
        (M_spec_l09Root r5).bind fun r6 =>
        (M_spec_NatOf 1000000).bind fun r7 =>
        (M_spec_l04Low false r6 r7).bind fun r8 =>
        some r8)))

noncomputable def M_spec_l09Floor (r : Rt) : Option Bg :=
  (M_spec_l02Div r.mag r.den).bind fun (r0, r1) =>
  (M_spec_l02Trim_c r0).bind fun r2 =>
  cond r.neg
    ((M_spec_l02Trim_c r1).bind fun r3 =>
    cond (decide ((r3.length : Int) > 0))
      ((M_spec_l02Add r2 ([1] : List Int)).bind fun r4 =>
      (M_spec_l02Trim_c r4).bind fun r5 =>
      (M_spec_l03Make r.neg r5).bind fun r6 =>
      some r6)
      ((M_spec_l03Make r.neg r2).bind fun r4 =>
      some r4))
    ((M_spec_l03Make r.neg r2).bind fun r3 =>
    some r3)

noncomputable def M_spec_RoundTo (r : Rt) (n : Int) : Option Rt :=
  (M_spec_RatOk r).bind fun r1 =>
  cond (!r1)
    (some (⟨false, ([] : List Int), ([] : List Int)⟩ : Rt))
    ((M_spec_l01In n 1 1000000).bind fun r2 =>
    cond (!r2)
      (some (⟨false, ([] : List Int), ([] : List Int)⟩ : Rt))
      ((M_spec_RatFromInt n).bind fun r3 =>
      (M_spec_l04Mul r r3).bind fun r4 =>
      (M_spec_RatOf 1 2).bind fun r5 =>
      (M_spec_l04Add r4 r5).bind fun r6 =>
      (M_spec_l05Bad r6).bind fun r7 =>
      cond r7
        (some (⟨false, ([] : List Int), ([] : List Int)⟩ : Rt))
        ((M_spec_l09Floor r6).bind fun r8 =>
        (M_spec_NatOf n).bind fun r9 =>
        (M_spec_l04Low r8.neg r8.mag r9).bind fun r10 =>
        some r10)))

noncomputable def M_spec_HalfTangent (x : Rt) (y : Rt) : Option Rt :=
  (M_spec_RatOk x).bind fun r =>
  cond (!r)
    (some (⟨false, ([] : List Int), ([] : List Int)⟩ : Rt))
    ((M_spec_RatOk y).bind fun r1 =>
    cond (!r1)
      (some (⟨false, ([] : List Int), ([] : List Int)⟩ : Rt))
      ((M_spec_l04Mul x x).bind fun r2 =>
      (M_spec_l04Mul y y).bind fun r3 =>
      (M_spec_l04Add r2 r3).bind fun r4 =>
      (M_spec_RootBelow r4).bind fun r5 =>
      (M_spec_l05Bad r5).bind fun r6 =>
      cond r6
        (some (⟨false, ([] : List Int), ([] : List Int)⟩ : Rt))
        ((M_spec_l05Nil x).bind fun r7 =>
        cond r7
          ((M_spec_l05Nil y).bind fun r8 =>
          cond r8
            (some (⟨false, ([] : List Int), ([] : List Int)⟩ : Rt))
            (cond x.neg
              ((M_spec_l05Sub r5 x).bind fun r9 =>
              (M_spec_l05Div r9 y).bind fun r10 =>
              (M_spec_RoundTo r10 1000000).bind fun r11 =>
              some r11)
              ((M_spec_l04Add r5 x).bind fun r9 =>
              (M_spec_l05Div y r9).bind fun r10 =>
              (M_spec_RoundTo r10 1000000).bind fun r11 =>
              some r11)))
          (cond x.neg
            ((M_spec_l05Sub r5 x).bind fun r8 =>
            (M_spec_l05Div r8 y).bind fun r9 =>
            (M_spec_RoundTo r9 1000000).bind fun r10 =>
            some r10)
            ((M_spec_l04Add r5 x).bind fun r8 =>
            (M_spec_l05Div y r8).bind fun r9 =>
            (M_spec_RoundTo r9 1000000).bind fun r10 =>
            some r10)))))

noncomputable def M_spec_l09Unit (a : Rt) : Option (Rt × Rt) :=
  (M_spec_RatFromInt 1).bind fun r =>
  (M_spec_l04Mul a a).bind fun r1 =>
  (M_spec_l05Sub r r1).bind fun r2 =>
  (M_spec_l04Add r r1).bind fun r3 =>
  (M_spec_l05Div r2 r3).bind fun r4 =>
  (M_spec_RatFromInt 2).bind fun r5 =>
  (M_spec_l04Mul r5 a).bind fun r6 =>
  (M_spec_l04Add r r1).bind fun r7 =>
  (M_spec_l05Div r6 r7).bind fun r8 =>
  (M_spec_l05Bad r4).bind fun r9 =>
  cond r9
    (some ((⟨false, ([] : List Int), ([] : List Int)⟩ : Rt), (⟨false, ([] : List Int), ([] : List Int)⟩ : Rt)))
    ((M_spec_l05Bad r8).bind fun r10 =>
    cond r10
      (some ((⟨false, ([] : List Int), ([] : List Int)⟩ : Rt), (⟨false, ([] : List Int), ([] : List Int)⟩ : Rt)))
      (some (r4, r8)))

noncomputable def M_spec_UnitOf (a : Rt) : Option (Rt × Rt) :=
  (M_spec_RatOk a).bind fun r =>
  cond (!r)
    (some ((⟨false, ([] : List Int), ([] : List Int)⟩ : Rt), (⟨false, ([] : List Int), ([] : List Int)⟩ : Rt)))
    ((M_spec_l09Unit a).bind fun (r0, r1) =>
    some (r0, r1))

noncomputable def M_spec_LengthAlong (a : Rt) (x : Rt) (y : Rt) : Option Rt :=
  (M_spec_UnitOf a).bind fun (r0, r1) =>
  (M_spec_RatOk x).bind fun r =>
  cond (!r)
    (some (⟨false, ([] : List Int), ([] : List Int)⟩ : Rt))
    ((M_spec_RatOk y).bind fun r2 =>
    cond (!r2)
      (some (⟨false, ([] : List Int), ([] : List Int)⟩ : Rt))
      ((M_spec_l04Mul r0 x).bind fun r3 =>
      (M_spec_l04Mul r1 y).bind fun r4 =>
      (M_spec_l04Add r3 r4).bind fun r5 =>
      some r5))

noncomputable def M_spec_OffsetFrom (a : Rt) (x : Rt) (y : Rt) : Option Rt :=
  (M_spec_UnitOf a).bind fun (r0, r1) =>
  (M_spec_RatOk x).bind fun r =>
  cond (!r)
    (some (⟨false, ([] : List Int), ([] : List Int)⟩ : Rt))
    ((M_spec_RatOk y).bind fun r2 =>
    cond (!r2)
      (some (⟨false, ([] : List Int), ([] : List Int)⟩ : Rt))
      ((M_spec_l04Mul r0 y).bind fun r3 =>
      (M_spec_l04Mul r1 x).bind fun r4 =>
      (M_spec_l05Sub r3 r4).bind fun r5 =>
      some r5))

noncomputable def M_spec_RootOfNat (a : List Int) : Option (List Int) :=
  (M_spec_NatOk a).bind fun r =>
  cond (!r)
    (some ([] : List Int))
    ((M_spec_l09Root a).bind fun r1 =>
    some r1)

end Go.Di
/-
  Own work, written by program (gen.py) out of the functions of the given program: what they compute, as plain Lean.
-/
namespace Go.Di
noncomputable def M_impl_StationOk (s : Sta) (plane : Bool) : Option Bool :=
  (M_impl_IsName s.name).bind fun r =>
  cond r
    ((M_impl_RatOk s.x).bind fun r1 =>
    cond r1
      ((M_impl_RatOk s.y).bind fun r2 =>
      cond r2
        (cond plane
          (some true)
          ((M_impl_isZero s.y).bind fun r3 =>
          some r3))
        (some false))
      (some false))
    (some false)

noncomputable def S_impl_FindStation_0 : ByteArray × (List Sta) × Int × Int × Unit → Option ((ByteArray × (List Sta) × Int × Int × Unit) ⊕ ((Int × Unit) ⊕ (Unit))) := fun (name, t, t1, t2, _) =>
  cond (decide (t2 < t1))
    ((idx t t2).bind fun e =>
    cond (strEq e.name name)
      (some (.inr (.inl (t2, ()))))
      (some (.inl (name, t, t1, IntKind.i64.wrap (t2 + 1), ()))))
    (some (.inr (.inr (()))))
noncomputable def L_impl_FindStation_0 (name : ByteArray) (t : List Sta) (t1 : Int) (t2 : Int) : Option ((Int × Unit) ⊕ (Unit)) := whileO S_impl_FindStation_0 (name, t, t1, t2, ())
noncomputable def M_impl_FindStation (n : Net) (name : ByteArray) : Option Int :=
  (L_impl_FindStation_0 name n.stations (n.stations.length : Int) 0).bind fun r =>
  match r with
  | .inl (t, _) =>
    some t
  | .inr _ =>
    some (-1)

noncomputable def S_impl_NetworkOk_0 : (List Sta) × Int × Int × Bool × (List Sta) × Unit → Option (((List Sta) × Int × Int × Bool × (List Sta) × Unit) ⊕ ((Bool × Unit) ⊕ (Unit))) := fun (t, t1, t2, v, v1, _) =>
  cond (decide (t2 < t1))
    ((idx t t2).bind fun e =>
    (M_impl_StationOk e v).bind fun r =>
    cond (!r)
      (some (.inr (.inl (false, ()))))
      ((M_impl_FindStation (⟨v, v1⟩ : Net) e.name).bind fun r1 =>
      cond (r1 != t2)
        (some (.inr (.inl (false, ()))))
        (some (.inl (t, t1, IntKind.i64.wrap (t2 + 1), v, v1, ())))))
    (some (.inr (.inr (()))))
noncomputable def L_impl_NetworkOk_0 (t : List Sta) (t1 : Int) (t2 : Int) (v : Bool) (v1 : List Sta) : Option ((Bool × Unit) ⊕ (Unit)) := whileO S_impl_NetworkOk_0 (t, t1, t2, v, v1, ())
noncomputable def M_impl_NetworkOk (n : Net) : Option Bool :=
  cond (decide ((n.stations.length : Int) > 8))
    (some false)
    ((L_impl_NetworkOk_0 n.stations (n.stations.length : Int) 0 n.plane n.stations).bind fun r =>
    match r with
    | .inl (t, _) =>
      some t
    | .inr _ =>
      some true)

noncomputable def M_impl_axes (plane : Bool) : Option Int :=
  cond plane
    (some 2)
    (some 1)

noncomputable def S_impl_unknowns_0 : Int × (List Sta) × Int × Int × Bool × (List Sta) × Unit → Option ((Int × (List Sta) × Int × Int × Bool × (List Sta) × Unit) ⊕ (Int × Unit)) := fun (k, t, t1, t2, v, v1, _) =>
  cond (decide (t2 < t1))
    ((idx t t2).bind fun e =>
    cond (!e.fixed)
      ((M_impl_axes v).bind fun r =>
      some (.inl (IntKind.i64.wrap (k + r), t, t1, IntKind.i64.wrap (t2 + 1), v, v1, ())))
      (some (.inl (k, t, t1, IntKind.i64.wrap (t2 + 1), v, v1, ()))))
    (some (.inr (k, ())))
noncomputable def L_impl_unknowns_0 (k : Int) (t : List Sta) (t1 : Int) (t2 : Int) (v : Bool) (v1 : List Sta) : Option (Int × Unit) := whileO S_impl_unknowns_0 (k, t, t1, t2, v, v1, ())
noncomputable def M_impl_unknowns (n : Net) : Option Int :=
  (L_impl_unknowns_0 0 n.stations (n.stations.length : Int) 0 n.plane n.stations).bind fun (k, _) =>
  some k

noncomputable def M_impl_CountUnknowns (n : Net) : Option Int :=
  (M_impl_NetworkOk n).bind fun r =>
  cond (!r)
    (some 0)
    ((M_impl_unknowns n).bind fun r1 =>
    some r1)

noncomputable def M_impl_unknownOf (n : Net) (station : Int) : Option Int :=
  (idx n.stations station).bind fun e =>
  cond e.fixed
    (some (-1))
    ((guardO (inside n.stations.length (0, station))).bind fun _ =>
    (M_impl_unknowns (⟨n.plane, cut n.stations 0 station.toNat⟩ : Net)).bind fun r =>
    some r)

noncomputable def S_impl_NameOfUnknown_0 : Int × (List Sta) × Int × Int × Bool × (List Sta) × Unit → Option ((Int × (List Sta) × Int × Int × Bool × (List Sta) × Unit) ⊕ ((ByteArray × Unit) ⊕ (Unit))) := fun (k, t, t1, t2, v, v1, _) =>
  cond (decide (t2 < t1))
    ((idx t t2).bind fun e =>
    (M_impl_unknownOf (⟨v, v1⟩ : Net) t2).bind fun r =>
    cond (r == k)
      (cond (decide (r ≥ 0))
        ((guardO (Nat.ble (e.name.size + ((⟨#[46, 120]⟩ : ByteArray).size)) 4611686018427387904)).bind fun _ =>
        some (.inr (.inl (e.name ++ (⟨#[46, 120]⟩ : ByteArray), ()))))
        (cond (decide (r ≥ 0))
          (cond v
            (cond ((IntKind.i64.wrap (r + 1)) == k)
              ((guardO (Nat.ble (e.name.size + ((⟨#[46, 121]⟩ : ByteArray).size)) 4611686018427387904)).bind fun _ =>
              some (.inr (.inl (e.name ++ (⟨#[46, 121]⟩ : ByteArray), ()))))
              (some (.inl (k, t, t1, IntKind.i64.wrap (t2 + 1), v, v1, ()))))
            (some (.inl (k, t, t1, IntKind.i64.wrap (t2 + 1), v, v1, ()))))
          (some (.inl (k, t, t1, IntKind.i64.wrap (t2 + 1), v, v1, ())))))
      (cond (decide (r ≥ 0))
        (cond v
          (cond ((IntKind.i64.wrap (r + 1)) == k)
            ((guardO (Nat.ble (e.name.size + ((⟨#[46, 121]⟩ : ByteArray).size)) 4611686018427387904)).bind fun _ =>
            some (.inr (.inl (e.name ++ (⟨#[46, 121]⟩ : ByteArray), ()))))
            (some (.inl (k, t, t1, IntKind.i64.wrap (t2 + 1), v, v1, ()))))
          (some (.inl (k, t, t1, IntKind.i64.wrap (t2 + 1), v, v1, ()))))
        (some (.inl (k, t, t1, IntKind.i64.wrap (t2 + 1), v, v1, ())))))
    (some (.inr (.inr (()))))
noncomputable def L_impl_NameOfUnknown_0 (k : Int) (t : List Sta) (t1 : Int) (t2 : Int) (v : Bool) (v1 : List Sta) : Option ((ByteArray × Unit) ⊕ (Unit)) := whileO S_impl_NameOfUnknown_0 (k, t, t1, t2, v, v1, ())
noncomputable def M_impl_NameOfUnknown (n : Net) (k : Int) : Option ByteArray :=
  (M_impl_NetworkOk n).bind fun r =>
  cond (!r)
    (some (⟨#[]⟩ : ByteArray))
    (cond (decide (k < 0))
      (some (⟨#[]⟩ : ByteArray))
      ((L_impl_NameOfUnknown_0 k n.stations (n.stations.length : Int) 0 n.plane n.stations).bind fun r1 =>
      match r1 with
      | .inl (t, _) =>
        some t
      | .inr _ =>
        some (⟨#[]⟩ : ByteArray)))

noncomputable def S_impl_SameNetworks_0 : (List Sta) × Int × Int × Bool × (List Sta) × Unit → Option (((List Sta) × Int × Int × Bool × (List Sta) × Unit) ⊕ ((Bool × Unit) ⊕ (Unit))) := fun (t, t1, t2, v, v1, _) =>
  cond (decide (t2 < t1))
    ((idx t t2).bind fun e =>
    (idx v1 t2).bind fun e1 =>
    cond (!(strEq e.name e1.name))
      (some (.inr (.inl (false, ()))))
      (cond (!(e.fixed == e1.fixed))
        (some (.inr (.inl (false, ()))))
        ((M_impl_RatEqual e.x e1.x).bind fun r =>
        cond (!r)
          (some (.inr (.inl (false, ()))))
          ((M_impl_RatEqual e.y e1.y).bind fun r1 =>
          cond (!r1)
            (some (.inr (.inl (false, ()))))
            (some (.inl (t, t1, IntKind.i64.wrap (t2 + 1), v, v1, ())))))))
    (some (.inr (.inr (()))))
noncomputable def L_impl_SameNetworks_0 (t : List Sta) (t1 : Int) (t2 : Int) (v : Bool) (v1 : List Sta) : Option ((Bool × Unit) ⊕ (Unit)) := whileO S_impl_SameNetworks_0 (t, t1, t2, v, v1, ())
noncomputable def M_impl_SameNetworks (a : Net) (b : Net) : Option Bool :=
  cond (!(a.plane == b.plane))
    (some false)
    (cond ((a.stations.length : Int) != (b.stations.length : Int))
      (some false)
      ((L_impl_SameNetworks_0 a.stations (a.stations.length : Int) 0 b.plane b.stations).bind fun r =>
      match r with
      | .inl (t, _) =>
        some t
      | .inr _ =>
        some true))

noncomputable def M_impl_UnknownOf (n : Net) (station : Int) : Option Int :=
  (M_impl_NetworkOk n).bind fun r =>
  cond (!r)
    (some (-1))
    (cond (decide (station < 0))
      (some (-1))
      (cond (decide (station ≥ (n.stations.length : Int)))
        (some (-1))
        ((M_impl_unknownOf n station).bind fun r1 =>
        some r1)))

noncomputable def S_impl_copyNetwork_0 : (List Sta) × Int × Int × Bool × (List Sta) × Bool × (List Sta) × Unit → Option (((List Sta) × Int × Int × Bool × (List Sta) × Bool × (List Sta) × Unit) ⊕ (Bool × (List Sta) × Bool × (List Sta) × Unit)) := fun (t, t1, t2, v, v1, v2, xs, _) =>
  cond (decide (t2 < t1))
    ((idx t t2).bind fun e =>
    (M_impl_copyRat e.x).bind fun r =>
    (M_impl_copyRat e.y).bind fun r1 =>
    (guardO (Nat.ble (xs.length + 1) maxNew)).bind fun _ =>
    some (.inl (t, t1, IntKind.i64.wrap (t2 + 1), v, v1, v2, xs ++ ([(⟨e.name, r, r1, e.fixed⟩ : Sta)] : List Sta), ())))
    (some (.inr (v, v1, v2, xs, ())))
noncomputable def L_impl_copyNetwork_0 (t : List Sta) (t1 : Int) (t2 : Int) (v : Bool) (v1 : List Sta) (v2 : Bool) (xs : List Sta) : Option (Bool × (List Sta) × Bool × (List Sta) × Unit) := whileO S_impl_copyNetwork_0 (t, t1, t2, v, v1, v2, xs, ())
noncomputable def M_impl_copyNetwork (n : Net) : Option Net :=
  (L_impl_copyNetwork_0 n.stations (n.stations.length : Int) 0 false ([] : List Sta) n.plane ([] : List Sta)).bind fun (_, _, v2, xs, _) =>
  some (⟨v2, xs⟩ : Net)

noncomputable def S_impl_stationsComplete_0 : (List Sta) × Int × Int × Unit → Option (((List Sta) × Int × Int × Unit) ⊕ ((Bool × Unit) ⊕ (Unit))) := fun (t, t1, t2, _) =>
  cond (decide (t2 < t1))
    ((idx t t2).bind fun e =>
    (M_impl_void e.x).bind fun r =>
    cond r
      (some (.inr (.inl (false, ()))))
      ((M_impl_void e.y).bind fun r1 =>
      cond r1
        (some (.inr (.inl (false, ()))))
        (some (.inl (t, t1, IntKind.i64.wrap (t2 + 1), ())))))
    (some (.inr (.inr (()))))
noncomputable def L_impl_stationsComplete_0 (t : List Sta) (t1 : Int) (t2 : Int) : Option ((Bool × Unit) ⊕ (Unit)) := whileO S_impl_stationsComplete_0 (t, t1, t2, ())
noncomputable def M_impl_stationsComplete (n : Net) : Option Bool :=
  (L_impl_stationsComplete_0 n.stations (n.stations.length : Int) 0).bind fun r =>
  match r with
  | .inl (t, _) =>
    some t
  | .inr _ =>
    some true

noncomputable def M_spec_StationOk (s : Sta) (plane : Bool) : Option Bool :=
  (M_spec_IsName s.name).bind fun r =>
  cond r
    ((M_spec_RatOk s.x).bind fun r1 =>
    cond r1
      ((M_spec_RatOk s.y).bind fun r2 =>
      cond r2
        (cond plane
          (some true)
          ((M_spec_l05Nil s.y).bind fun r3 =>
          some r3))
        (some false))
      (some false))
    (some false)

noncomputable def S_spec_FindStation_0 : ByteArray × (List Sta) × Int × Int × Unit → Option ((ByteArray × (List Sta) × Int × Int × Unit) ⊕ ((Int × Unit) ⊕ (Unit))) := fun (name, t, t1, t2, _) =>
  cond (decide (t2 < t1))
    ((idx t t2).bind fun e =>
    cond (strEq e.name name)
      (some (.inr (.inl (t2, ()))))
      (some (.inl (name, t, t1, IntKind.i64.wrap (t2 + 1), ()))))
    (some (.inr (.inr (()))))
noncomputable def L_spec_FindStation_0 (name : ByteArray) (t : List Sta) (t1 : Int) (t2 : Int) : Option ((Int × Unit) ⊕ (Unit)) := whileO S_spec_FindStation_0 (name, t, t1, t2, ())
noncomputable def M_spec_FindStation (n : Net) (name : ByteArray) : Option Int :=
  (L_spec_FindStation_0 name n.stations (n.stations.length : Int) 0).bind fun r =>
  match r with
  | .inl (t, _) =>
    some t
  | .inr _ =>
    some (-1)

noncomputable def S_spec_NetworkOk_0 : (List Sta) × Int × Int × Bool × (List Sta) × Unit → Option (((List Sta) × Int × Int × Bool × (List Sta) × Unit) ⊕ ((Bool × Unit) ⊕ (Unit))) := fun (t, t1, t2, v, v1, _) =>
  cond (decide (t2 < t1))
    ((idx t t2).bind fun e =>
    (M_spec_StationOk e v).bind fun r =>
    cond (!r)
      (some (.inr (.inl (false, ()))))
      ((M_spec_FindStation (⟨v, v1⟩ : Net) e.name).bind fun r1 =>
      cond (r1 != t2)
        (some (.inr (.inl (false, ()))))
        (some (.inl (t, t1, IntKind.i64.wrap (t2 + 1), v, v1, ())))))
    (some (.inr (.inr (()))))
noncomputable def L_spec_NetworkOk_0 (t : List Sta) (t1 : Int) (t2 : Int) (v : Bool) (v1 : List Sta) : Option ((Bool × Unit) ⊕ (Unit)) := whileO S_spec_NetworkOk_0 (t, t1, t2, v, v1, ())
noncomputable def M_spec_NetworkOk (n : Net) : Option Bool :=
  cond (decide ((n.stations.length : Int) > 8))
    (some false)
    ((L_spec_NetworkOk_0 n.stations (n.stations.length : Int) 0 n.plane n.stations).bind fun r =>
    match r with
    | .inl (t, _) =>
      some t
    | .inr _ =>
      some true)

noncomputable def M_spec_l10Axes (n : Net) : Option Int :=
  cond n.plane
    (some 2)
    (some 1)

noncomputable def S_spec_l10Count_0 : Int × (List Sta) × Int × Int × Bool × (List Sta) × Unit → Option ((Int × (List Sta) × Int × Int × Bool × (List Sta) × Unit) ⊕ (Int × Unit)) := fun (k, t, t1, t2, v, v1, _) =>
  cond (decide (t2 < t1))
    ((idx t t2).bind fun e =>
    cond (!e.fixed)
      ((M_spec_l10Axes (⟨v, v1⟩ : Net)).bind fun r =>
      some (.inl (IntKind.i64.wrap (k + r), t, t1, IntKind.i64.wrap (t2 + 1), v, v1, ())))
      (some (.inl (k, t, t1, IntKind.i64.wrap (t2 + 1), v, v1, ()))))
    (some (.inr (k, ())))
noncomputable def L_spec_l10Count_0 (k : Int) (t : List Sta) (t1 : Int) (t2 : Int) (v : Bool) (v1 : List Sta) : Option (Int × Unit) := whileO S_spec_l10Count_0 (k, t, t1, t2, v, v1, ())
noncomputable def M_spec_l10Count (n : Net) : Option Int :=
  (L_spec_l10Count_0 0 n.stations (n.stations.length : Int) 0 n.plane n.stations).bind fun (k, _) =>
  some k

noncomputable def M_spec_CountUnknowns (n : Net) : Option Int :=
  (M_spec_NetworkOk n).bind fun r =>
  cond (!r)
    (some 0)
    ((M_spec_l10Count n).bind fun r1 =>
    some r1)

noncomputable def S_spec_l10Copy_0 : (List Sta) × Int × Int × Bool × (List Sta) × Bool × (List Sta) × Unit → Option (((List Sta) × Int × Int × Bool × (List Sta) × Bool × (List Sta) × Unit) ⊕ (Bool × (List Sta) × Bool × (List Sta) × Unit)) := fun (t, t1, t2, v, v1, v2, xs, _) =>
  cond (decide (t2 < t1))
    ((idx t t2).bind fun e =>
    (M_spec_l04Copy e.x).bind fun r =>
    (M_spec_l04Copy e.y).bind fun r1 =>
    (guardO (Nat.ble (xs.length + 1) maxNew)).bind fun _ =>
    some (.inl (t, t1, IntKind.i64.wrap (t2 + 1), v, v1, v2, xs ++ ([(⟨e.name, r, r1, e.fixed⟩ : Sta)] : List Sta), ())))
    (some (.inr (v, v1, v2, xs, ())))
noncomputable def L_spec_l10Copy_0 (t : List Sta) (t1 : Int) (t2 : Int) (v : Bool) (v1 : List Sta) (v2 : Bool) (xs : List Sta) : Option (Bool × (List Sta) × Bool × (List Sta) × Unit) := whileO S_spec_l10Copy_0 (t, t1, t2, v, v1, v2, xs, ())
noncomputable def M_spec_l10Copy (n : Net) : Option Net :=
  (L_spec_l10Copy_0 n.stations (n.stations.length : Int) 0 false ([] : List Sta) n.plane ([] : List Sta)).bind fun (_, _, v2, xs, _) =>
  some (⟨v2, xs⟩ : Net)

noncomputable def S_spec_l10First_0 : Int × Int × (List Sta) × Int × Int × Bool × (List Sta) × Unit → Option ((Int × Int × (List Sta) × Int × Int × Bool × (List Sta) × Unit) ⊕ ((Int × Unit) ⊕ (Unit))) := fun (station, k, t, t1, t2, v, v1, _) =>
  cond (decide (t2 < t1))
    ((idx t t2).bind fun e =>
    cond (t2 == station)
      (cond e.fixed
        (some (.inr (.inl ((-1), ()))))
        (cond (t2 == station)
          (some (.inr (.inl (k, ()))))
          (cond (!e.fixed)
            ((M_spec_l10Axes (⟨v, v1⟩ : Net)).bind fun r =>
            some (.inl (station, IntKind.i64.wrap (k + r), t, t1, IntKind.i64.wrap (t2 + 1), v, v1, ())))
            (some (.inl (station, k, t, t1, IntKind.i64.wrap (t2 + 1), v, v1, ()))))))
      (cond (t2 == station)
        (some (.inr (.inl (k, ()))))
        (cond (!e.fixed)
          ((M_spec_l10Axes (⟨v, v1⟩ : Net)).bind fun r =>
          some (.inl (station, IntKind.i64.wrap (k + r), t, t1, IntKind.i64.wrap (t2 + 1), v, v1, ())))
          (some (.inl (station, k, t, t1, IntKind.i64.wrap (t2 + 1), v, v1, ()))))))
    (some (.inr (.inr (()))))
noncomputable def L_spec_l10First_0 (station : Int) (k : Int) (t : List Sta) (t1 : Int) (t2 : Int) (v : Bool) (v1 : List Sta) : Option ((Int × Unit) ⊕ (Unit)) := whileO S_spec_l10First_0 (station, k, t, t1, t2, v, v1, ())
noncomputable def M_spec_l10First (n : Net) (station : Int) : Option Int :=
  (L_spec_l10First_0 station 0 n.stations (n.stations.length : Int) 0 n.plane n.stations).bind fun r =>
  match r with
  | .inl (t, _) =>
    some t
  | .inr _ =>
    some (-1)

noncomputable def S_spec_l10Done_0 : (List Sta) × Int × Int × Bool × (List Sta) × Bool × (List Sta) × Unit → Option (((List Sta) × Int × Int × Bool × (List Sta) × Bool × (List Sta) × Unit) ⊕ ((Bool × Bool × (List Sta) × Unit) ⊕ (Bool × (List Sta) × Bool × (List Sta) × Unit))) := fun (t, t1, t2, v, v1, v2, v3, _) =>
  cond (decide (t2 < t1))
    ((idx t t2).bind fun e =>
    (M_spec_l05Bad e.x).bind fun r =>
    cond r
      (some (.inr (.inl (false, false, ([] : List Sta), ()))))
      ((M_spec_l05Bad e.y).bind fun r1 =>
      cond r1
        (some (.inr (.inl (false, false, ([] : List Sta), ()))))
        (some (.inl (t, t1, IntKind.i64.wrap (t2 + 1), v, v1, v2, v3, ())))))
    (some (.inr (.inr (v, v1, v2, v3, ()))))
noncomputable def L_spec_l10Done_0 (t : List Sta) (t1 : Int) (t2 : Int) (v : Bool) (v1 : List Sta) (v2 : Bool) (v3 : List Sta) : Option ((Bool × Bool × (List Sta) × Unit) ⊕ (Bool × (List Sta) × Bool × (List Sta) × Unit)) := whileO S_spec_l10Done_0 (t, t1, t2, v, v1, v2, v3, ())
noncomputable def M_spec_l10Done (n : Net) : Option (Net × Bool) :=
  (L_spec_l10Done_0 n.stations (n.stations.length : Int) 0 n.plane n.stations false ([] : List Sta)).bind fun r =>
  match r with
  | .inl (t, v, v1, _) =>
    some ((⟨v, v1⟩ : Net), t)
  | .inr (v2, v3, _, _, _) =>
    some ((⟨v2, v3⟩ : Net), true)

noncomputable def S_spec_l10Move_0 : (List Rt) × (List Sta) × Int × Int × Bool × (List Sta) × Bool × (List Sta) × Bool × (List Sta) × Unit → Option (((List Rt) × (List Sta) × Int × Int × Bool × (List Sta) × Bool × (List Sta) × Bool × (List Sta) × Unit) ⊕ (Bool × (List Sta) × Bool × (List Sta) × Unit)) := fun (v, t, t1, t2, v1, v2, v3, v4, v5, xs, _) =>
  cond (decide (t2 < t1))
    ((idx t t2).bind fun e =>
    (M_spec_l10First (⟨v1, v2⟩ : Net) t2).bind fun r =>
    cond (decide (r < 0))
      (some (.inl (v, t, t1, IntKind.i64.wrap (t2 + 1), v1, v2, v3, v4, v5, xs, ())))
      ((idx v r).bind fun e1 =>
      (M_spec_l04Add e.x e1).bind fun r1 =>
      (idx xs t2).bind fun _ =>
      ((xs[t2.toNat]?).bind fun e => some (⟨e.name, r1, e.y, e.fixed⟩ : Sta)).bind fun e2 =>
      cond v1
        ((idx v (IntKind.i64.wrap (r + 1))).bind fun e3 =>
        (M_spec_l04Add e.y e3).bind fun r2 =>
        (idx (xs.set t2.toNat e2) t2).bind fun _ =>
        (((xs.set t2.toNat e2)[t2.toNat]?).bind fun e => some (⟨e.name, e.x, r2, e.fixed⟩ : Sta)).bind fun e4 =>
        some (.inl (v, t, t1, IntKind.i64.wrap (t2 + 1), v1, v2, v3, v4, v5, (xs.set t2.toNat e2).set t2.toNat e4, ())))
        (some (.inl (v, t, t1, IntKind.i64.wrap (t2 + 1), v1, v2, v3, v4, v5, xs.set t2.toNat e2, ())))))
    (some (.inr (v3, v4, v5, xs, ())))
noncomputable def L_spec_l10Move_0 (v : List Rt) (t : List Sta) (t1 : Int) (t2 : Int) (v1 : Bool) (v2 : List Sta) (v3 : Bool) (v4 : List Sta) (v5 : Bool) (xs : List Sta) : Option (Bool × (List Sta) × Bool × (List Sta) × Unit) := whileO S_spec_l10Move_0 (v, t, t1, t2, v1, v2, v3, v4, v5, xs, ())
noncomputable def M_spec_l10Move (n : Net) (v : List Rt) : Option (Net × Bool) :=
  (M_spec_l10Copy n).bind fun r =>
  (L_spec_l10Move_0 v n.stations (n.stations.length : Int) 0 n.plane n.stations false ([] : List Sta) r.plane r.stations).bind fun (_, _, v3, xs, _) =>
  (M_spec_l10Done (⟨v3, xs⟩ : Net)).bind fun (r0, r1) =>
  some (r0, r1)

noncomputable def M_spec_MoveStations (n : Net) (v : List Rt) : Option (Net × Bool) :=
  (M_spec_NetworkOk n).bind fun r =>
  cond (!r)
    (some ((⟨false, ([] : List Sta)⟩ : Net), false))
    ((M_spec_IsVector v).bind fun r1 =>
    cond (!r1)
      (some ((⟨false, ([] : List Sta)⟩ : Net), false))
      ((M_spec_l10Count n).bind fun r2 =>
      cond ((v.length : Int) != r2)
        (some ((⟨false, ([] : List Sta)⟩ : Net), false))
        ((M_spec_l10Move n v).bind fun (r0, r1_1) =>
        some (r0, r1_1))))

noncomputable def S_spec_NameOfUnknown_0 : Int × (List Sta) × Int × Int × Bool × (List Sta) × Unit → Option ((Int × (List Sta) × Int × Int × Bool × (List Sta) × Unit) ⊕ ((ByteArray × Unit) ⊕ (Unit))) := fun (k, t, t1, t2, v, v1, _) =>
  cond (decide (t2 < t1))
    ((idx t t2).bind fun e =>
    (M_spec_l10First (⟨v, v1⟩ : Net) t2).bind fun r =>
    cond (decide (r ≥ 0))
      (cond (r == k)
        ((guardO (Nat.ble (e.name.size + ((⟨#[46, 120]⟩ : ByteArray).size)) 4611686018427387904)).bind fun _ =>
        some (.inr (.inl (e.name ++ (⟨#[46, 120]⟩ : ByteArray), ()))))
        (cond (decide (r ≥ 0))
          (cond v
            (cond ((IntKind.i64.wrap (r + 1)) == k)
              ((guardO (Nat.ble (e.name.size + ((⟨#[46, 121]⟩ : ByteArray).size)) 4611686018427387904)).bind fun _ =>
              some (.inr (.inl (e.name ++ (⟨#[46, 121]⟩ : ByteArray), ()))))
              (some (.inl (k, t, t1, IntKind.i64.wrap (t2 + 1), v, v1, ()))))
            (some (.inl (k, t, t1, IntKind.i64.wrap (t2 + 1), v, v1, ()))))
          (some (.inl (k, t, t1, IntKind.i64.wrap (t2 + 1), v, v1, ())))))
      (cond (decide (r ≥ 0))
        (cond v
          (cond ((IntKind.i64.wrap (r + 1)) == k)
            ((guardO (Nat.ble (e.name.size + ((⟨#[46, 121]⟩ : ByteArray).size)) 4611686018427387904)).bind fun _ =>
            some (.inr (.inl (e.name ++ (⟨#[46, 121]⟩ : ByteArray), ()))))
            (some (.inl (k, t, t1, IntKind.i64.wrap (t2 + 1), v, v1, ()))))
          (some (.inl (k, t, t1, IntKind.i64.wrap (t2 + 1), v, v1, ()))))
        (some (.inl (k, t, t1, IntKind.i64.wrap (t2 + 1), v, v1, ())))))
    (some (.inr (.inr (()))))
noncomputable def L_spec_NameOfUnknown_0 (k : Int) (t : List Sta) (t1 : Int) (t2 : Int) (v : Bool) (v1 : List Sta) : Option ((ByteArray × Unit) ⊕ (Unit)) := whileO S_spec_NameOfUnknown_0 (k, t, t1, t2, v, v1, ())
noncomputable def M_spec_NameOfUnknown (n : Net) (k : Int) : Option ByteArray :=
  (M_spec_NetworkOk n).bind fun r =>
  cond (!r)
    (some (⟨#[]⟩ : ByteArray))
    ((L_spec_NameOfUnknown_0 k n.stations (n.stations.length : Int) 0 n.plane n.stations).bind fun r1 =>
    match r1 with
    | .inl (t, _) =>
      some t
    | .inr _ =>
      some (⟨#[]⟩ : ByteArray))

noncomputable def S_spec_SameNetworks_0 : (List Sta) × Int × Int × Bool × (List Sta) × Unit → Option (((List Sta) × Int × Int × Bool × (List Sta) × Unit) ⊕ ((Bool × Unit) ⊕ (Unit))) := fun (t, t1, t2, v, v1, _) =>
  cond (decide (t2 < t1))
    ((idx t t2).bind fun e =>
    (idx v1 t2).bind fun e1 =>
    cond (!(strEq e.name e1.name))
      (some (.inr (.inl (false, ()))))
      (cond (!(e.fixed == e1.fixed))
        (some (.inr (.inl (false, ()))))
        ((M_spec_RatEqual e.x e1.x).bind fun r =>
        cond (!r)
          (some (.inr (.inl (false, ()))))
          ((M_spec_RatEqual e.y e1.y).bind fun r1 =>
          cond (!r1)
            (some (.inr (.inl (false, ()))))
            (some (.inl (t, t1, IntKind.i64.wrap (t2 + 1), v, v1, ())))))))
    (some (.inr (.inr (()))))
noncomputable def L_spec_SameNetworks_0 (t : List Sta) (t1 : Int) (t2 : Int) (v : Bool) (v1 : List Sta) : Option ((Bool × Unit) ⊕ (Unit)) := whileO S_spec_SameNetworks_0 (t, t1, t2, v, v1, ())
noncomputable def M_spec_SameNetworks (a : Net) (b : Net) : Option Bool :=
  cond (!(a.plane == b.plane))
    (some false)
    (cond ((a.stations.length : Int) != (b.stations.length : Int))
      (some false)
      ((L_spec_SameNetworks_0 a.stations (a.stations.length : Int) 0 b.plane b.stations).bind fun r =>
      match r with
      | .inl (t, _) =>
        some t
      | .inr _ =>
        some true))

noncomputable def S_spec_ShiftNetwork_0 : (List Sta) × Int × Int × Bool × (List Sta) × Bool × (List Int) × (List Int) × Bool × (List Int) × (List Int) × Bool × (List Sta) × Bool × (List Sta) × Unit → Option (((List Sta) × Int × Int × Bool × (List Sta) × Bool × (List Int) × (List Int) × Bool × (List Int) × (List Int) × Bool × (List Sta) × Bool × (List Sta) × Unit) ⊕ (Bool × (List Sta) × Bool × (List Sta) × Unit)) := fun (t, t1, t2, v, v1, v2, v3, v4, v5, v6, v7, v8, v9, v10, xs, _) =>
  cond (decide (t2 < t1))
    ((idx t t2).bind fun e =>
    (M_spec_l04Add e.x (⟨v2, v3, v4⟩ : Rt)).bind fun r =>
    (idx xs t2).bind fun _ =>
    ((xs[t2.toNat]?).bind fun e => some (⟨e.name, r, e.y, e.fixed⟩ : Sta)).bind fun e1 =>
    cond v
      ((M_spec_l04Add e.y (⟨v5, v6, v7⟩ : Rt)).bind fun r1 =>
      (idx (xs.set t2.toNat e1) t2).bind fun _ =>
      (((xs.set t2.toNat e1)[t2.toNat]?).bind fun e => some (⟨e.name, e.x, r1, e.fixed⟩ : Sta)).bind fun e2 =>
      some (.inl (t, t1, IntKind.i64.wrap (t2 + 1), v, v1, v2, v3, v4, v5, v6, v7, v8, v9, v10, (xs.set t2.toNat e1).set t2.toNat e2, ())))
      (some (.inl (t, t1, IntKind.i64.wrap (t2 + 1), v, v1, v2, v3, v4, v5, v6, v7, v8, v9, v10, xs.set t2.toNat e1, ()))))
    (some (.inr (v8, v9, v10, xs, ())))
noncomputable def L_spec_ShiftNetwork_0 (t : List Sta) (t1 : Int) (t2 : Int) (v : Bool) (v1 : List Sta) (v2 : Bool) (v3 : List Int) (v4 : List Int) (v5 : Bool) (v6 : List Int) (v7 : List Int) (v8 : Bool) (v9 : List Sta) (v10 : Bool) (xs : List Sta) : Option (Bool × (List Sta) × Bool × (List Sta) × Unit) := whileO S_spec_ShiftNetwork_0 (t, t1, t2, v, v1, v2, v3, v4, v5, v6, v7, v8, v9, v10, xs, ())
noncomputable def M_spec_ShiftNetwork (n : Net) (x : Rt) (y : Rt) : Option (Net × Bool) :=
  (M_spec_NetworkOk n).bind fun r =>
  cond (!r)
    (some ((⟨false, ([] : List Sta)⟩ : Net), false))
    ((M_spec_RatOk x).bind fun r1 =>
    cond (!r1)
      (some ((⟨false, ([] : List Sta)⟩ : Net), false))
      ((M_spec_RatOk y).bind fun r2 =>
      cond (!r2)
        (some ((⟨false, ([] : List Sta)⟩ : Net), false))
        ((M_spec_l10Copy n).bind fun r3 =>
        (L_spec_ShiftNetwork_0 n.stations (n.stations.length : Int) 0 n.plane n.stations x.neg x.mag x.den y.neg y.mag y.den false ([] : List Sta) r3.plane r3.stations).bind fun (_, _, v2, xs, _) =>
        (M_spec_l10Done (⟨v2, xs⟩ : Net)).bind fun (r0, r1_1) =>
        some (r0, r1_1))))

noncomputable def M_spec_UnknownOf (n : Net) (station : Int) : Option Int :=
  (M_spec_NetworkOk n).bind fun r =>
  cond (!r)
    (some (-1))
    ((M_spec_l01In station 0 (IntKind.i64.wrap ((n.stations.length : Int) - 1))).bind fun r1 =>
    cond (!r1)
      (some (-1))
      ((M_spec_l10First n station).bind fun r2 =>
      some r2))

noncomputable def M_spec_l10Name (i : Int) : Option ByteArray :=
  (idx ([(⟨#[97]⟩ : ByteArray), (⟨#[98]⟩ : ByteArray), (⟨#[99]⟩ : ByteArray), (⟨#[100]⟩ : ByteArray), (⟨#[101, 49]⟩ : ByteArray), (⟨#[102]⟩ : ByteArray), (⟨#[103]⟩ : ByteArray), (⟨#[104]⟩ : ByteArray), (⟨#[105, 57]⟩ : ByteArray)] : List ByteArray) i).bind fun _ =>
  (([(⟨#[97]⟩ : ByteArray), (⟨#[98]⟩ : ByteArray), (⟨#[99]⟩ : ByteArray), (⟨#[100]⟩ : ByteArray), (⟨#[101, 49]⟩ : ByteArray), (⟨#[102]⟩ : ByteArray), (⟨#[103]⟩ : ByteArray), (⟨#[104]⟩ : ByteArray), (⟨#[105, 57]⟩ : ByteArray)] : List ByteArray)[i.toNat]?).bind fun e =>
  some e

end Go.Di
/-
  Own work, written by program (gen.py) out of the functions of the given program: what they compute, as plain Lean.
-/
namespace Go.Di
noncomputable def M_impl_IsBetween (kind : Int) : Option Bool :=
  cond (kind == 2)
    (some true)
    (cond (decide (kind ≥ 5))
      (some (decide (kind ≤ 8)))
      (some false))

noncomputable def M_impl_observationFits (n : Net) (o : Obs) : Option Bool :=
  cond (decide (o.kind < 1))
    (some false)
    (cond (decide (o.kind > 8))
      (some false)
      (cond (n.plane == (decide (o.kind ≤ 2)))
        (some false)
        (cond (decide (o.frm < 0))
          (some false)
          (cond (decide (o.frm ≥ (n.stations.length : Int)))
            (some false)
            ((M_impl_IsBetween o.kind).bind fun r =>
            cond r
              (cond (decide (o.to < 0))
                (some false)
                (cond (decide (o.to ≥ (n.stations.length : Int)))
                  (some false)
                  (cond (o.to == o.frm)
                    (some false)
                    ((M_impl_RatOk o.value).bind fun r1 =>
                    cond (!r1)
                      (some false)
                      (cond (o.kind == 7)
                        ((M_impl_sign o.value).bind fun r2 =>
                        cond (decide (r2 ≤ 0))
                          (some false)
                          ((M_impl_RatOk o.variance).bind fun r3 =>
                          cond r3
                            ((M_impl_sign o.variance).bind fun r4 =>
                            some (decide (r4 > 0)))
                            (some false)))
                        ((M_impl_RatOk o.variance).bind fun r2 =>
                        cond r2
                          ((M_impl_sign o.variance).bind fun r3 =>
                          some (decide (r3 > 0)))
                          (some false)))))))
              (cond (o.to != 0)
                (some false)
                ((M_impl_RatOk o.value).bind fun r1 =>
                cond (!r1)
                  (some false)
                  (cond (o.kind == 7)
                    ((M_impl_sign o.value).bind fun r2 =>
                    cond (decide (r2 ≤ 0))
                      (some false)
                      ((M_impl_RatOk o.variance).bind fun r3 =>
                      cond r3
                        ((M_impl_sign o.variance).bind fun r4 =>
                        some (decide (r4 > 0)))
                        (some false)))
                    ((M_impl_RatOk o.variance).bind fun r2 =>
                    cond r2
                      ((M_impl_sign o.variance).bind fun r3 =>
                      some (decide (r3 > 0)))
                      (some false))))))))))

noncomputable def M_impl_ObservationOk (n : Net) (o : Obs) : Option Bool :=
  (M_impl_NetworkOk n).bind fun r =>
  cond r
    ((M_impl_observationFits n o).bind fun r1 =>
    some r1)
    (some false)

noncomputable def S_impl_ObservationsOk_0 : (List Obs) × Int × Int × Bool × (List Sta) × Unit → Option (((List Obs) × Int × Int × Bool × (List Sta) × Unit) ⊕ ((Bool × Unit) ⊕ (Unit))) := fun (t, t1, t2, v, v1, _) =>
  cond (decide (t2 < t1))
    ((idx t t2).bind fun e =>
    (M_impl_observationFits (⟨v, v1⟩ : Net) e).bind fun r =>
    cond (!r)
      (some (.inr (.inl (false, ()))))
      (some (.inl (t, t1, IntKind.i64.wrap (t2 + 1), v, v1, ()))))
    (some (.inr (.inr (()))))
noncomputable def L_impl_ObservationsOk_0 (t : List Obs) (t1 : Int) (t2 : Int) (v : Bool) (v1 : List Sta) : Option ((Bool × Unit) ⊕ (Unit)) := whileO S_impl_ObservationsOk_0 (t, t1, t2, v, v1, ())
noncomputable def M_impl_ObservationsOk (n : Net) (list : List Obs) : Option Bool :=
  (M_impl_NetworkOk n).bind fun r =>
  cond (!r)
    (some false)
    (cond (decide ((list.length : Int) > 20))
      (some false)
      ((L_impl_ObservationsOk_0 list (list.length : Int) 0 n.plane n.stations).bind fun r1 =>
      match r1 with
      | .inl (t, _) =>
        some t
      | .inr _ =>
        some true))

noncomputable def M_impl_sameObservation (a : Obs) (b : Obs) : Option Bool :=
  cond (a.kind == b.kind)
    (cond (a.frm == b.frm)
      (cond (a.to == b.to)
        ((M_impl_RatEqual a.value b.value).bind fun r =>
        cond r
          ((M_impl_RatEqual a.variance b.variance).bind fun r1 =>
          some r1)
          (some false))
        (some false))
      (some false))
    (some false)

noncomputable def S_impl_SameObservations_0 : (List Obs) × (List Obs) × Int × Int × Unit → Option (((List Obs) × (List Obs) × Int × Int × Unit) ⊕ ((Bool × Unit) ⊕ (Unit))) := fun (a, b, t, t1, _) =>
  cond (decide (t1 < t))
    ((idx a t1).bind fun e =>
    (idx b t1).bind fun e1 =>
    (M_impl_sameObservation e e1).bind fun r =>
    cond (!r)
      (some (.inr (.inl (false, ()))))
      (some (.inl (a, b, t, IntKind.i64.wrap (t1 + 1), ()))))
    (some (.inr (.inr (()))))
noncomputable def L_impl_SameObservations_0 (a : List Obs) (b : List Obs) (t : Int) (t1 : Int) : Option ((Bool × Unit) ⊕ (Unit)) := whileO S_impl_SameObservations_0 (a, b, t, t1, ())
noncomputable def M_impl_SameObservations (a : List Obs) (b : List Obs) : Option Bool :=
  cond ((a.length : Int) != (b.length : Int))
    (some false)
    ((L_impl_SameObservations_0 a b (a.length : Int) 0).bind fun r =>
    match r with
    | .inl (t, _) =>
      some t
    | .inr _ =>
      some true)

noncomputable def M_impl_copyObservation (o : Obs) : Option Obs :=
  (M_impl_copyRat o.value).bind fun r =>
  (M_impl_copyRat o.variance).bind fun r1 =>
  some (⟨o.kind, o.frm, o.to, r, r1⟩ : Obs)

noncomputable def S_impl_WithoutObservations_0 : (List Int) × (List Obs) × Int × Int × (List Obs) × Unit → Option (((List Int) × (List Obs) × Int × Int × (List Obs) × Unit) ⊕ ((List Obs) × Unit)) := fun (skip, t, t1, t2, out, _) =>
  cond (decide (t2 < t1))
    ((idx t t2).bind fun e =>
    (M_impl_hasInt skip t2).bind fun r =>
    cond (!r)
      ((M_impl_copyObservation e).bind fun r1 =>
      (guardO (Nat.ble (out.length + 1) maxNew)).bind fun _ =>
      some (.inl (skip, t, t1, IntKind.i64.wrap (t2 + 1), out ++ ([r1] : List Obs), ())))
      (some (.inl (skip, t, t1, IntKind.i64.wrap (t2 + 1), out, ()))))
    (some (.inr (out, ())))
noncomputable def L_impl_WithoutObservations_0 (skip : List Int) (t : List Obs) (t1 : Int) (t2 : Int) (out : List Obs) : Option ((List Obs) × Unit) := whileO S_impl_WithoutObservations_0 (skip, t, t1, t2, out, ())
noncomputable def M_impl_WithoutObservations (list : List Obs) (skip : List Int) : Option (List Obs) :=
  (L_impl_WithoutObservations_0 skip list (list.length : Int) 0 ([] : List Obs)).bind fun (out, _) =>
  some out

noncomputable def M_spec_IsBetween (kind : Int) : Option Bool :=
  cond (kind == 2)
    (some true)
    ((M_spec_l01In kind 5 8).bind fun r =>
    some r)

noncomputable def M_spec_l11Fits (kind : Int) (plane : Bool) : Option Bool :=
  cond plane
    ((M_spec_l01In kind 3 8).bind fun r =>
    some r)
    ((M_spec_l01In kind 1 2).bind fun r =>
    some r)

noncomputable def M_spec_l11Ok (n : Net) (o : Obs) : Option Bool :=
  (M_spec_l11Fits o.kind n.plane).bind fun r =>
  cond (!r)
    (some false)
    ((M_spec_l01In o.frm 0 (IntKind.i64.wrap ((n.stations.length : Int) - 1))).bind fun r1 =>
    cond (!r1)
      (some false)
      ((M_spec_IsBetween o.kind).bind fun r2 =>
      cond r2
        ((M_spec_l01In o.to 0 (IntKind.i64.wrap ((n.stations.length : Int) - 1))).bind fun r3 =>
        cond (!r3)
          (some false)
          (cond (o.to == o.frm)
            (some false)
            ((M_spec_IsBetween o.kind).bind fun r4 =>
            cond (!r4)
              (cond (o.to != 0)
                (some false)
                ((M_spec_RatOk o.value).bind fun r5 =>
                cond r5
                  (cond (o.kind != 7)
                    ((M_spec_RatSign o.variance).bind fun r6 =>
                    some (decide (r6 > 0)))
                    ((M_spec_RatSign o.value).bind fun r6 =>
                    cond (decide (r6 > 0))
                      ((M_spec_RatSign o.variance).bind fun r7 =>
                      some (decide (r7 > 0)))
                      (some false)))
                  (some false)))
              ((M_spec_RatOk o.value).bind fun r5 =>
              cond r5
                (cond (o.kind != 7)
                  ((M_spec_RatSign o.variance).bind fun r6 =>
                  some (decide (r6 > 0)))
                  ((M_spec_RatSign o.value).bind fun r6 =>
                  cond (decide (r6 > 0))
                    ((M_spec_RatSign o.variance).bind fun r7 =>
                    some (decide (r7 > 0)))
                    (some false)))
                (some false)))))
        ((M_spec_IsBetween o.kind).bind fun r3 =>
        cond (!r3)
          (cond (o.to != 0)
            (some false)
            ((M_spec_RatOk o.value).bind fun r4 =>
            cond r4
              (cond (o.kind != 7)
                ((M_spec_RatSign o.variance).bind fun r5 =>
                some (decide (r5 > 0)))
                ((M_spec_RatSign o.value).bind fun r5 =>
                cond (decide (r5 > 0))
                  ((M_spec_RatSign o.variance).bind fun r6 =>
                  some (decide (r6 > 0)))
                  (some false)))
              (some false)))
          ((M_spec_RatOk o.value).bind fun r4 =>
          cond r4
            (cond (o.kind != 7)
              ((M_spec_RatSign o.variance).bind fun r5 =>
              some (decide (r5 > 0)))
              ((M_spec_RatSign o.value).bind fun r5 =>
              cond (decide (r5 > 0))
                ((M_spec_RatSign o.variance).bind fun r6 =>
                some (decide (r6 > 0)))
                (some false)))
            (some false)))))

noncomputable def M_spec_ObservationOk (n : Net) (o : Obs) : Option Bool :=
  (M_spec_NetworkOk n).bind fun r =>
  cond r
    ((M_spec_l11Ok n o).bind fun r1 =>
    some r1)
    (some false)

noncomputable def S_spec_ObservationsOk_0 : (List Obs) × Int × Int × Bool × (List Sta) × Unit → Option (((List Obs) × Int × Int × Bool × (List Sta) × Unit) ⊕ ((Bool × Unit) ⊕ (Unit))) := fun (t, t1, t2, v, v1, _) =>
  cond (decide (t2 < t1))
    ((idx t t2).bind fun e =>
    (M_spec_l11Ok (⟨v, v1⟩ : Net) e).bind fun r =>
    cond (!r)
      (some (.inr (.inl (false, ()))))
      (some (.inl (t, t1, IntKind.i64.wrap (t2 + 1), v, v1, ()))))
    (some (.inr (.inr (()))))
noncomputable def L_spec_ObservationsOk_0 (t : List Obs) (t1 : Int) (t2 : Int) (v : Bool) (v1 : List Sta) : Option ((Bool × Unit) ⊕ (Unit)) := whileO S_spec_ObservationsOk_0 (t, t1, t2, v, v1, ())
noncomputable def M_spec_ObservationsOk (n : Net) (list : List Obs) : Option Bool :=
  (M_spec_NetworkOk n).bind fun r =>
  cond (!r)
    (some false)
    (cond (decide ((list.length : Int) > 20))
      (some false)
      ((L_spec_ObservationsOk_0 list (list.length : Int) 0 n.plane n.stations).bind fun r1 =>
      match r1 with
      | .inl (t, _) =>
        some t
      | .inr _ =>
        some true))

noncomputable def M_spec_l11Same (a : Obs) (b : Obs) : Option Bool :=
  cond (a.kind == b.kind)
    (cond (a.frm == b.frm)
      (cond (a.to == b.to)
        ((M_spec_RatEqual a.value b.value).bind fun r =>
        cond r
          ((M_spec_RatEqual a.variance b.variance).bind fun r1 =>
          some r1)
          (some false))
        (some false))
      (some false))
    (some false)

noncomputable def S_spec_SameObservations_0 : (List Obs) × (List Obs) × Int × Int × Unit → Option (((List Obs) × (List Obs) × Int × Int × Unit) ⊕ ((Bool × Unit) ⊕ (Unit))) := fun (b, t, t1, t2, _) =>
  cond (decide (t2 < t1))
    ((idx t t2).bind fun e =>
    (idx b t2).bind fun e1 =>
    (M_spec_l11Same e e1).bind fun r =>
    cond (!r)
      (some (.inr (.inl (false, ()))))
      (some (.inl (b, t, t1, IntKind.i64.wrap (t2 + 1), ()))))
    (some (.inr (.inr (()))))
noncomputable def L_spec_SameObservations_0 (b : List Obs) (t : List Obs) (t1 : Int) (t2 : Int) : Option ((Bool × Unit) ⊕ (Unit)) := whileO S_spec_SameObservations_0 (b, t, t1, t2, ())
noncomputable def M_spec_SameObservations (a : List Obs) (b : List Obs) : Option Bool :=
  cond ((a.length : Int) != (b.length : Int))
    (some false)
    ((L_spec_SameObservations_0 b a (a.length : Int) 0).bind fun r =>
    match r with
    | .inl (t, _) =>
      some t
    | .inr _ =>
      some true)

noncomputable def M_spec_l11Copy (o : Obs) : Option Obs :=
  (M_spec_l04Copy o.value).bind fun r =>
  (M_spec_l04Copy o.variance).bind fun r1 =>
  some (⟨o.kind, o.frm, o.to, r, r1⟩ : Obs)

noncomputable def S_spec_WithoutObservations_0 : (List Int) × (List Obs) × Int × Int × (List Obs) × Unit → Option (((List Int) × (List Obs) × Int × Int × (List Obs) × Unit) ⊕ ((List Obs) × Unit)) := fun (skip, t, t1, t2, out, _) =>
  cond (decide (t2 < t1))
    ((idx t t2).bind fun e =>
    (M_spec_l07Has skip t2).bind fun r =>
    cond (!r)
      ((M_spec_l11Copy e).bind fun r1 =>
      (guardO (Nat.ble (out.length + 1) maxNew)).bind fun _ =>
      some (.inl (skip, t, t1, IntKind.i64.wrap (t2 + 1), out ++ ([r1] : List Obs), ())))
      (some (.inl (skip, t, t1, IntKind.i64.wrap (t2 + 1), out, ()))))
    (some (.inr (out, ())))
noncomputable def L_spec_WithoutObservations_0 (skip : List Int) (t : List Obs) (t1 : Int) (t2 : Int) (out : List Obs) : Option ((List Obs) × Unit) := whileO S_spec_WithoutObservations_0 (skip, t, t1, t2, out, ())
noncomputable def M_spec_WithoutObservations (list : List Obs) (skip : List Int) : Option (List Obs) :=
  (L_spec_WithoutObservations_0 skip list (list.length : Int) 0 ([] : List Obs)).bind fun (out, _) =>
  some out

end Go.Di
/-
  Own work, written by program (gen.py) out of the functions of the given program: what they compute, as plain Lean.
-/
namespace Go.Di
noncomputable def M_impl_CorrectReading (reading : Rt) (constant : Rt) (millionths : Rt) : Option Rt :=
  (M_impl_both reading constant).bind fun r =>
  cond (!r)
    (some (⟨false, ([] : List Int), ([] : List Int)⟩ : Rt))
    ((M_impl_RatOk millionths).bind fun r1 =>
    cond (!r1)
      (some (⟨false, ([] : List Int), ([] : List Int)⟩ : Rt))
      ((M_impl_whole 1).bind fun r2 =>
      (M_impl_whole 1000000).bind fun r3 =>
      (M_impl_div millionths r3).bind fun r4 =>
      (M_impl_add r2 r4).bind fun r5 =>
      (M_impl_mul reading r5).bind fun r6 =>
      (M_impl_add r6 constant).bind fun r7 =>
      some r7))

noncomputable def M_spec_CorrectReading (reading : Rt) (constant : Rt) (millionths : Rt) : Option Rt :=
  (M_spec_RatOk reading).bind fun r =>
  cond (!r)
    (some (⟨false, ([] : List Int), ([] : List Int)⟩ : Rt))
    ((M_spec_RatOk constant).bind fun r1 =>
    cond (!r1)
      (some (⟨false, ([] : List Int), ([] : List Int)⟩ : Rt))
      ((M_spec_RatOk millionths).bind fun r2 =>
      cond (!r2)
        (some (⟨false, ([] : List Int), ([] : List Int)⟩ : Rt))
        ((M_spec_RatFromInt 1).bind fun r3 =>
        (M_spec_RatFromInt 1000000).bind fun r4 =>
        (M_spec_l05Div millionths r4).bind fun r5 =>
        (M_spec_l04Add r3 r5).bind fun r6 =>
        (M_spec_l04Mul reading r6).bind fun r7 =>
        (M_spec_l04Add r7 constant).bind fun r8 =>
        some r8)))

end Go.Di
/-
  Own work, written by program (gen.py) out of the functions of the given program: what they compute, as plain Lean.
-/
namespace Go.Di
noncomputable def S_laws_eqIntS_0 : (List Int) × (List Int) × Int × Unit → Option (((List Int) × (List Int) × Int × Unit) ⊕ ((Bool × Unit) ⊕ (Unit))) := fun (a, b, i, _) =>
  cond (decide (i < (a.length : Int)))
    ((idx a i).bind fun e =>
    (idx b i).bind fun e1 =>
    cond (e != e1)
      (some (.inr (.inl (false, ()))))
      (some (.inl (a, b, IntKind.i64.wrap (i + 1), ()))))
    (some (.inr (.inr (()))))
noncomputable def L_laws_eqIntS_0 (a : List Int) (b : List Int) (i : Int) : Option ((Bool × Unit) ⊕ (Unit)) := whileO S_laws_eqIntS_0 (a, b, i, ())
noncomputable def M_laws_eqIntS (a : List Int) (b : List Int) : Option Bool :=
  cond ((a.length : Int) != (b.length : Int))
    (some false)
    ((L_laws_eqIntS_0 a b 0).bind fun r =>
    match r with
    | .inl (t, _) =>
      some t
    | .inr _ =>
      some true)

noncomputable def M_laws_eqBigInt (a : Bg) (b : Bg) : Option Bool :=
  cond (!(a.neg == b.neg))
    (some false)
    ((M_laws_eqIntS a.mag b.mag).bind fun r =>
    cond (!r)
      (some false)
      (some true))

noncomputable def M_laws_eqRat (a : Rt) (b : Rt) : Option Bool :=
  (M_laws_eqBigInt (⟨a.neg, a.mag⟩ : Bg) (⟨b.neg, b.mag⟩ : Bg)).bind fun r =>
  cond (!r)
    (some false)
    ((M_laws_eqIntS a.den b.den).bind fun r1 =>
    cond (!r1)
      (some false)
      (some true))

noncomputable def M_laws_eqStation (a : Sta) (b : Sta) : Option Bool :=
  cond (!(strEq a.name b.name))
    (some false)
    ((M_laws_eqRat a.x b.x).bind fun r =>
    cond (!r)
      (some false)
      ((M_laws_eqRat a.y b.y).bind fun r1 =>
      cond (!r1)
        (some false)
        (cond (!(a.fixed == b.fixed))
          (some false)
          (some true))))

noncomputable def S_laws_eqStationS_0 : (List Sta) × (List Sta) × Int × Unit → Option (((List Sta) × (List Sta) × Int × Unit) ⊕ ((Bool × Unit) ⊕ (Unit))) := fun (a, b, i, _) =>
  cond (decide (i < (a.length : Int)))
    ((idx a i).bind fun e =>
    (idx b i).bind fun e1 =>
    (M_laws_eqStation e e1).bind fun r =>
    cond (!r)
      (some (.inr (.inl (false, ()))))
      (some (.inl (a, b, IntKind.i64.wrap (i + 1), ()))))
    (some (.inr (.inr (()))))
noncomputable def L_laws_eqStationS_0 (a : List Sta) (b : List Sta) (i : Int) : Option ((Bool × Unit) ⊕ (Unit)) := whileO S_laws_eqStationS_0 (a, b, i, ())
noncomputable def M_laws_eqStationS (a : List Sta) (b : List Sta) : Option Bool :=
  cond ((a.length : Int) != (b.length : Int))
    (some false)
    ((L_laws_eqStationS_0 a b 0).bind fun r =>
    match r with
    | .inl (t, _) =>
      some t
    | .inr _ =>
      some true)

noncomputable def M_laws_eqNetwork (a : Net) (b : Net) : Option Bool :=
  cond (!(a.plane == b.plane))
    (some false)
    ((M_laws_eqStationS a.stations b.stations).bind fun r =>
    cond (!r)
      (some false)
      (some true))

noncomputable def M_laws_eqObservation (a : Obs) (b : Obs) : Option Bool :=
  cond (a.kind != b.kind)
    (some false)
    (cond (a.frm != b.frm)
      (some false)
      (cond (a.to != b.to)
        (some false)
        ((M_laws_eqRat a.value b.value).bind fun r =>
        cond (!r)
          (some false)
          ((M_laws_eqRat a.variance b.variance).bind fun r1 =>
          cond (!r1)
            (some false)
            (some true)))))

noncomputable def S_laws_eqObservationS_0 : (List Obs) × (List Obs) × Int × Unit → Option (((List Obs) × (List Obs) × Int × Unit) ⊕ ((Bool × Unit) ⊕ (Unit))) := fun (a, b, i, _) =>
  cond (decide (i < (a.length : Int)))
    ((idx a i).bind fun e =>
    (idx b i).bind fun e1 =>
    (M_laws_eqObservation e e1).bind fun r =>
    cond (!r)
      (some (.inr (.inl (false, ()))))
      (some (.inl (a, b, IntKind.i64.wrap (i + 1), ()))))
    (some (.inr (.inr (()))))
noncomputable def L_laws_eqObservationS_0 (a : List Obs) (b : List Obs) (i : Int) : Option ((Bool × Unit) ⊕ (Unit)) := whileO S_laws_eqObservationS_0 (a, b, i, ())
noncomputable def M_laws_eqObservationS (a : List Obs) (b : List Obs) : Option Bool :=
  cond ((a.length : Int) != (b.length : Int))
    (some false)
    ((L_laws_eqObservationS_0 a b 0).bind fun r =>
    match r with
    | .inl (t, _) =>
      some t
    | .inr _ =>
      some true)

noncomputable def M_laws_eqBook (a : Bk) (b : Bk) : Option Bool :=
  (M_laws_eqNetwork (⟨a.plane, a.stations⟩ : Net) (⟨b.plane, b.stations⟩ : Net)).bind fun r =>
  cond (!r)
    (some false)
    ((M_laws_eqObservationS a.obs b.obs).bind fun r1 =>
    cond (!r1)
      (some false)
      (some true))

noncomputable def S_laws_eqRatS_0 : (List Rt) × (List Rt) × Int × Unit → Option (((List Rt) × (List Rt) × Int × Unit) ⊕ ((Bool × Unit) ⊕ (Unit))) := fun (a, b, i, _) =>
  cond (decide (i < (a.length : Int)))
    ((idx a i).bind fun e =>
    (idx b i).bind fun e1 =>
    (M_laws_eqRat e e1).bind fun r =>
    cond (!r)
      (some (.inr (.inl (false, ()))))
      (some (.inl (a, b, IntKind.i64.wrap (i + 1), ()))))
    (some (.inr (.inr (()))))
noncomputable def L_laws_eqRatS_0 (a : List Rt) (b : List Rt) (i : Int) : Option ((Bool × Unit) ⊕ (Unit)) := whileO S_laws_eqRatS_0 (a, b, i, ())
noncomputable def M_laws_eqRatS (a : List Rt) (b : List Rt) : Option Bool :=
  cond ((a.length : Int) != (b.length : Int))
    (some false)
    ((L_laws_eqRatS_0 a b 0).bind fun r =>
    match r with
    | .inl (t, _) =>
      some t
    | .inr _ =>
      some true)

noncomputable def M_laws_eqMatrix (a : Mx) (b : Mx) : Option Bool :=
  cond (a.rows != b.rows)
    (some false)
    (cond (a.cols != b.cols)
      (some false)
      ((M_laws_eqRatS a.cells b.cells).bind fun r =>
      cond (!r)
        (some false)
        (some true)))

noncomputable def S_laws_heldIntS_0 : (List Int) × Int × Int × Unit → Option (((List Int) × Int × Int × Unit) ⊕ ((Int × Unit) ⊕ (Int × Unit))) := fun (a, k, i, _) =>
  cond (decide (i < (a.length : Int)))
    ((idx a i).bind fun e =>
    cond (e != k)
      (some (.inr (.inl ((-1), ()))))
      (some (.inl (a, IntKind.i64.wrap (k + 1), IntKind.i64.wrap (i + 1), ()))))
    (some (.inr (.inr (k, ()))))
noncomputable def L_laws_heldIntS_0 (a : List Int) (k : Int) (i : Int) : Option ((Int × Unit) ⊕ (Int × Unit)) := whileO S_laws_heldIntS_0 (a, k, i, ())
noncomputable def M_laws_heldIntS (a : List Int) (k : Int) : Option Int :=
  (L_laws_heldIntS_0 a k 0).bind fun r =>
  match r with
  | .inl (t, _) =>
    some t
  | .inr (k1, _) =>
    some k1

noncomputable def M_laws_heldBigInt (a : Bg) (k : Int) : Option Int :=
  (M_laws_heldIntS a.mag k).bind fun r =>
  cond (decide (r < 0))
    (some (-1))
    (some r)

noncomputable def S_laws_heldRatS_0 : (List Rt) × Int × Int × Unit → Option (((List Rt) × Int × Int × Unit) ⊕ ((Int × Unit) ⊕ (Int × Unit))) := fun (a, k, i, _) =>
  cond (decide (i < (a.length : Int)))
    ((idx a i).bind fun e =>
    cond (!(e.neg == ((k.tmod 3) == 0)))
      (some (.inr (.inl ((-1), ()))))
      ((idx a i).bind fun e1 =>
      (M_laws_heldIntS e1.mag (IntKind.i64.wrap (k + 1))).bind fun r =>
      cond (decide (r < 0))
        (some (.inr (.inl ((-1), ()))))
        ((idx a i).bind fun e2 =>
        (M_laws_heldIntS e2.den r).bind fun r1 =>
        cond (decide (r1 < 0))
          (some (.inr (.inl ((-1), ()))))
          (some (.inl (a, r1, IntKind.i64.wrap (i + 1), ()))))))
    (some (.inr (.inr (k, ()))))
noncomputable def L_laws_heldRatS_0 (a : List Rt) (k : Int) (i : Int) : Option ((Int × Unit) ⊕ (Int × Unit)) := whileO S_laws_heldRatS_0 (a, k, i, ())
noncomputable def M_laws_heldRatS (a : List Rt) (k : Int) : Option Int :=
  (L_laws_heldRatS_0 a k 0).bind fun r =>
  match r with
  | .inl (t, _) =>
    some t
  | .inr (k1, _) =>
    some k1

noncomputable def M_laws_heldMatrix (a : Mx) (k : Int) : Option Int :=
  (M_laws_heldRatS a.cells k).bind fun r =>
  cond (decide (r < 0))
    (some (-1))
    (some r)

noncomputable def S_laws_heldObservationS_0 : (List Obs) × Int × Int × Unit → Option (((List Obs) × Int × Int × Unit) ⊕ ((Int × Unit) ⊕ (Int × Unit))) := fun (a, k, i, _) =>
  cond (decide (i < (a.length : Int)))
    ((idx a i).bind fun e =>
    cond (e.kind != k)
      (some (.inr (.inl ((-1), ()))))
      ((idx a i).bind fun e1 =>
      cond (e1.frm != (IntKind.i64.wrap (k + 1)))
        (some (.inr (.inl ((-1), ()))))
        ((idx a i).bind fun e2 =>
        cond (e2.to != (IntKind.i64.wrap ((IntKind.i64.wrap (k + 1)) + 1)))
          (some (.inr (.inl ((-1), ()))))
          ((idx a i).bind fun e3 =>
          cond (!(e3.value.neg == (((IntKind.i64.wrap ((IntKind.i64.wrap ((IntKind.i64.wrap (k + 1)) + 1)) + 1)).tmod 3) == 0)))
            (some (.inr (.inl ((-1), ()))))
            ((idx a i).bind fun e4 =>
            (M_laws_heldIntS e4.value.mag (IntKind.i64.wrap ((IntKind.i64.wrap ((IntKind.i64.wrap ((IntKind.i64.wrap (k + 1)) + 1)) + 1)) + 1))).bind fun r =>
            cond (decide (r < 0))
              (some (.inr (.inl ((-1), ()))))
              ((idx a i).bind fun e5 =>
              (M_laws_heldIntS e5.value.den r).bind fun r1 =>
              cond (decide (r1 < 0))
                (some (.inr (.inl ((-1), ()))))
                ((idx a i).bind fun e6 =>
                cond (!(e6.variance.neg == ((r1.tmod 3) == 0)))
                  (some (.inr (.inl ((-1), ()))))
                  ((idx a i).bind fun e7 =>
                  (M_laws_heldIntS e7.variance.mag (IntKind.i64.wrap (r1 + 1))).bind fun r2 =>
                  cond (decide (r2 < 0))
                    (some (.inr (.inl ((-1), ()))))
                    ((idx a i).bind fun e8 =>
                    (M_laws_heldIntS e8.variance.den r2).bind fun r3 =>
                    cond (decide (r3 < 0))
                      (some (.inr (.inl ((-1), ()))))
                      (some (.inl (a, r3, IntKind.i64.wrap (i + 1), ()))))))))))))
    (some (.inr (.inr (k, ()))))
noncomputable def L_laws_heldObservationS_0 (a : List Obs) (k : Int) (i : Int) : Option ((Int × Unit) ⊕ (Int × Unit)) := whileO S_laws_heldObservationS_0 (a, k, i, ())
noncomputable def M_laws_heldObservationS (a : List Obs) (k : Int) : Option Int :=
  (L_laws_heldObservationS_0 a k 0).bind fun r =>
  match r with
  | .inl (t, _) =>
    some t
  | .inr (k1, _) =>
    some k1

noncomputable def M_laws_heldRat (a : Rt) (k : Int) : Option Int :=
  (M_laws_heldBigInt (⟨a.neg, a.mag⟩ : Bg) k).bind fun r =>
  cond (decide (r < 0))
    (some (-1))
    ((M_laws_heldIntS a.den r).bind fun r1 =>
    cond (decide (r1 < 0))
      (some (-1))
      (some r1))

noncomputable def S_laws_markIntS_md_0 : Int × Int × (List Int) × Unit → Option ((Int × Int × (List Int) × Unit) ⊕ (Int × (List Int) × Unit)) := fun (k, i, a, _) =>
  cond (decide (i < (a.length : Int)))
    ((idx a i).bind fun _ =>
    some (.inl (IntKind.i64.wrap (k + 1), IntKind.i64.wrap (i + 1), a.set i.toNat k, ())))
    (some (.inr (k, a, ())))
noncomputable def L_laws_markIntS_md_0 (k : Int) (i : Int) (a : List Int) : Option (Int × (List Int) × Unit) := whileO S_laws_markIntS_md_0 (k, i, a, ())
noncomputable def M_laws_markIntS_md (a : List Int) (k : Int) : Option (Int × List Int) :=
  (L_laws_markIntS_md_0 k 0 a).bind fun (k1, a1, _) =>
  some (k1, a1)

noncomputable def M_laws_markBigInt_md (a : Bg) (k : Int) : Option (Int × List Int) :=
  (M_laws_markIntS_md a.mag k).bind fun (r0, x0) =>
  some (r0, x0)

noncomputable def S_laws_markRatS_md_0 : Int × Int × (List Rt) × Unit → Option ((Int × Int × (List Rt) × Unit) ⊕ (Int × (List Rt) × Unit)) := fun (k, i, a, _) =>
  cond (decide (i < (a.length : Int)))
    ((idx a i).bind fun _ =>
    ((a[i.toNat]?).bind fun e => some (⟨(k.tmod 3) == 0, e.mag, e.den⟩ : Rt)).bind fun e =>
    (idx (a.set i.toNat e) i).bind fun _ =>
    ((a.set i.toNat e)[i.toNat]?).bind fun e1 =>
    ((M_laws_markIntS_md e1.mag (IntKind.i64.wrap (k + 1))).bind fun y => ((a.set i.toNat e)[i.toNat]?).bind fun e => some ((⟨e.neg, y.2, e.den⟩ : Rt), y.1)).bind fun (e2, r) =>
    (idx ((a.set i.toNat e).set i.toNat e2) i).bind fun _ =>
    (((a.set i.toNat e).set i.toNat e2)[i.toNat]?).bind fun e3 =>
    ((M_laws_markIntS_md e3.den r).bind fun y => (((a.set i.toNat e).set i.toNat e2)[i.toNat]?).bind fun e => some ((⟨e.neg, e.mag, y.2⟩ : Rt), y.1)).bind fun (e4, r1) =>
    some (.inl (r1, IntKind.i64.wrap (i + 1), ((a.set i.toNat e).set i.toNat e2).set i.toNat e4, ())))
    (some (.inr (k, a, ())))
noncomputable def L_laws_markRatS_md_0 (k : Int) (i : Int) (a : List Rt) : Option (Int × (List Rt) × Unit) := whileO S_laws_markRatS_md_0 (k, i, a, ())
noncomputable def M_laws_markRatS_md (a : List Rt) (k : Int) : Option (Int × List Rt) :=
  (L_laws_markRatS_md_0 k 0 a).bind fun (k1, a1, _) =>
  some (k1, a1)

noncomputable def M_laws_markMatrix_md (a : Mx) (k : Int) : Option (Int × List Rt) :=
  (M_laws_markRatS_md a.cells k).bind fun (r0, x0) =>
  some (r0, x0)

noncomputable def S_laws_markObservationS_md_0 : Int × Int × (List Obs) × Unit → Option ((Int × Int × (List Obs) × Unit) ⊕ (Int × (List Obs) × Unit)) := fun (k, i, a, _) =>
  cond (decide (i < (a.length : Int)))
    ((idx a i).bind fun _ =>
    ((a[i.toNat]?).bind fun e => some (⟨k, e.frm, e.to, e.value, e.variance⟩ : Obs)).bind fun e =>
    (idx (a.set i.toNat e) i).bind fun _ =>
    (((a.set i.toNat e)[i.toNat]?).bind fun e => some (⟨e.kind, IntKind.i64.wrap (k + 1), e.to, e.value, e.variance⟩ : Obs)).bind fun e1 =>
    (idx ((a.set i.toNat e).set i.toNat e1) i).bind fun _ =>
    ((((a.set i.toNat e).set i.toNat e1)[i.toNat]?).bind fun e => some (⟨e.kind, e.frm, IntKind.i64.wrap ((IntKind.i64.wrap (k + 1)) + 1), e.value, e.variance⟩ : Obs)).bind fun e2 =>
    (idx (((a.set i.toNat e).set i.toNat e1).set i.toNat e2) i).bind fun _ =>
    (((((a.set i.toNat e).set i.toNat e1).set i.toNat e2)[i.toNat]?).bind fun e => some (⟨e.kind, e.frm, e.to, (⟨((IntKind.i64.wrap ((IntKind.i64.wrap ((IntKind.i64.wrap (k + 1)) + 1)) + 1)).tmod 3) == 0, e.value.mag, e.value.den⟩ : Rt), e.variance⟩ : Obs)).bind fun e3 =>
    (idx ((((a.set i.toNat e).set i.toNat e1).set i.toNat e2).set i.toNat e3) i).bind fun _ =>
    (((((a.set i.toNat e).set i.toNat e1).set i.toNat e2).set i.toNat e3)[i.toNat]?).bind fun e4 =>
    ((M_laws_markIntS_md e4.value.mag (IntKind.i64.wrap ((IntKind.i64.wrap ((IntKind.i64.wrap ((IntKind.i64.wrap (k + 1)) + 1)) + 1)) + 1))).bind fun y => (((((a.set i.toNat e).set i.toNat e1).set i.toNat e2).set i.toNat e3)[i.toNat]?).bind fun e => some ((⟨e.kind, e.frm, e.to, (⟨e.value.neg, y.2, e.value.den⟩ : Rt), e.variance⟩ : Obs), y.1)).bind fun (e5, r) =>
    (idx (((((a.set i.toNat e).set i.toNat e1).set i.toNat e2).set i.toNat e3).set i.toNat e5) i).bind fun _ =>
    ((((((a.set i.toNat e).set i.toNat e1).set i.toNat e2).set i.toNat e3).set i.toNat e5)[i.toNat]?).bind fun e6 =>
    ((M_laws_markIntS_md e6.value.den r).bind fun y => ((((((a.set i.toNat e).set i.toNat e1).set i.toNat e2).set i.toNat e3).set i.toNat e5)[i.toNat]?).bind fun e => some ((⟨e.kind, e.frm, e.to, (⟨e.value.neg, e.value.mag, y.2⟩ : Rt), e.variance⟩ : Obs), y.1)).bind fun (e7, r1) =>
    (idx ((((((a.set i.toNat e).set i.toNat e1).set i.toNat e2).set i.toNat e3).set i.toNat e5).set i.toNat e7) i).bind fun _ =>
    ((((((((a.set i.toNat e).set i.toNat e1).set i.toNat e2).set i.toNat e3).set i.toNat e5).set i.toNat e7)[i.toNat]?).bind fun e => some (⟨e.kind, e.frm, e.to, e.value, (⟨(r1.tmod 3) == 0, e.variance.mag, e.variance.den⟩ : Rt)⟩ : Obs)).bind fun e8 =>
    (idx (((((((a.set i.toNat e).set i.toNat e1).set i.toNat e2).set i.toNat e3).set i.toNat e5).set i.toNat e7).set i.toNat e8) i).bind fun _ =>
    ((((((((a.set i.toNat e).set i.toNat e1).set i.toNat e2).set i.toNat e3).set i.toNat e5).set i.toNat e7).set i.toNat e8)[i.toNat]?).bind fun e9 =>
    ((M_laws_markIntS_md e9.variance.mag (IntKind.i64.wrap (r1 + 1))).bind fun y => ((((((((a.set i.toNat e).set i.toNat e1).set i.toNat e2).set i.toNat e3).set i.toNat e5).set i.toNat e7).set i.toNat e8)[i.toNat]?).bind fun e => some ((⟨e.kind, e.frm, e.to, e.value, (⟨e.variance.neg, y.2, e.variance.den⟩ : Rt)⟩ : Obs), y.1)).bind fun (e10, r2) =>
    (idx ((((((((a.set i.toNat e).set i.toNat e1).set i.toNat e2).set i.toNat e3).set i.toNat e5).set i.toNat e7).set i.toNat e8).set i.toNat e10) i).bind fun _ =>
    (((((((((a.set i.toNat e).set i.toNat e1).set i.toNat e2).set i.toNat e3).set i.toNat e5).set i.toNat e7).set i.toNat e8).set i.toNat e10)[i.toNat]?).bind fun e11 =>
    ((M_laws_markIntS_md e11.variance.den r2).bind fun y => (((((((((a.set i.toNat e).set i.toNat e1).set i.toNat e2).set i.toNat e3).set i.toNat e5).set i.toNat e7).set i.toNat e8).set i.toNat e10)[i.toNat]?).bind fun e => some ((⟨e.kind, e.frm, e.to, e.value, (⟨e.variance.neg, e.variance.mag, y.2⟩ : Rt)⟩ : Obs), y.1)).bind fun (e12, r3) =>
    some (.inl (r3, IntKind.i64.wrap (i + 1), ((((((((a.set i.toNat e).set i.toNat e1).set i.toNat e2).set i.toNat e3).set i.toNat e5).set i.toNat e7).set i.toNat e8).set i.toNat e10).set i.toNat e12, ())))
    (some (.inr (k, a, ())))
noncomputable def L_laws_markObservationS_md_0 (k : Int) (i : Int) (a : List Obs) : Option (Int × (List Obs) × Unit) := whileO S_laws_markObservationS_md_0 (k, i, a, ())
noncomputable def M_laws_markObservationS_md (a : List Obs) (k : Int) : Option (Int × List Obs) :=
  (L_laws_markObservationS_md_0 k 0 a).bind fun (k1, a1, _) =>
  some (k1, a1)

noncomputable def M_laws_markRat_md (a : Rt) (k : Int) : Option (Int × List Int × List Int) :=
  (M_laws_markBigInt_md (⟨a.neg, a.mag⟩ : Bg) k).bind fun (r0, x0) =>
  (M_laws_markIntS_md a.den r0).bind fun (r0_1, x0_1) =>
  some (r0_1, x0, x0_1)

noncomputable def M_laws_szIntS (a : List Int) (left : Int) : Option Int :=
  cond (decide ((IntKind.i64.wrap (left - (a.length : Int))) < 0))
    (some (-1))
    (some (IntKind.i64.wrap (left - (a.length : Int))))

noncomputable def M_laws_szBigInt (a : Bg) (left : Int) : Option Int :=
  (M_laws_szIntS a.mag left).bind fun r =>
  cond (decide (r < 0))
    (some (-1))
    (some r)

noncomputable def M_laws_szRat (a : Rt) (left : Int) : Option Int :=
  (M_laws_szBigInt (⟨a.neg, a.mag⟩ : Bg) left).bind fun r =>
  cond (decide (r < 0))
    (some (-1))
    ((M_laws_szIntS a.den r).bind fun r1 =>
    cond (decide (r1 < 0))
      (some (-1))
      (some r1))

noncomputable def M_laws_szStation (a : Sta) (left : Int) : Option Int :=
  cond (decide ((IntKind.i64.wrap (left - (a.name.size : Int))) < 0))
    (some (-1))
    ((M_laws_szRat a.x (IntKind.i64.wrap (left - (a.name.size : Int)))).bind fun r =>
    cond (decide (r < 0))
      (some (-1))
      ((M_laws_szRat a.y r).bind fun r1 =>
      cond (decide (r1 < 0))
        (some (-1))
        (some r1)))

noncomputable def S_laws_szStationS_0 : (List Sta) × Int × Int × Unit → Option (((List Sta) × Int × Int × Unit) ⊕ ((Int × Unit) ⊕ (Int × Unit))) := fun (a, left, i, _) =>
  cond (decide (i < (a.length : Int)))
    ((idx a i).bind fun e =>
    (M_laws_szStation e left).bind fun r =>
    cond (decide (r < 0))
      (some (.inr (.inl ((-1), ()))))
      (some (.inl (a, r, IntKind.i64.wrap (i + 1), ()))))
    (some (.inr (.inr (left, ()))))
noncomputable def L_laws_szStationS_0 (a : List Sta) (left : Int) (i : Int) : Option ((Int × Unit) ⊕ (Int × Unit)) := whileO S_laws_szStationS_0 (a, left, i, ())
noncomputable def M_laws_szStationS (a : List Sta) (left : Int) : Option Int :=
  cond (decide ((IntKind.i64.wrap (left - (a.length : Int))) < 0))
    (some (-1))
    ((L_laws_szStationS_0 a (IntKind.i64.wrap (left - (a.length : Int))) 0).bind fun r =>
    match r with
    | .inl (t, _) =>
      some t
    | .inr (left1, _) =>
      some left1)

noncomputable def M_laws_szNetwork (a : Net) (left : Int) : Option Int :=
  (M_laws_szStationS a.stations left).bind fun r =>
  cond (decide (r < 0))
    (some (-1))
    (some r)

noncomputable def M_laws_szObservation (a : Obs) (left : Int) : Option Int :=
  (M_laws_szRat a.value left).bind fun r =>
  cond (decide (r < 0))
    (some (-1))
    ((M_laws_szRat a.variance r).bind fun r1 =>
    cond (decide (r1 < 0))
      (some (-1))
      (some r1))

noncomputable def S_laws_szObservationS_0 : (List Obs) × Int × Int × Unit → Option (((List Obs) × Int × Int × Unit) ⊕ ((Int × Unit) ⊕ (Int × Unit))) := fun (a, left, i, _) =>
  cond (decide (i < (a.length : Int)))
    ((idx a i).bind fun e =>
    (M_laws_szObservation e left).bind fun r =>
    cond (decide (r < 0))
      (some (.inr (.inl ((-1), ()))))
      (some (.inl (a, r, IntKind.i64.wrap (i + 1), ()))))
    (some (.inr (.inr (left, ()))))
noncomputable def L_laws_szObservationS_0 (a : List Obs) (left : Int) (i : Int) : Option ((Int × Unit) ⊕ (Int × Unit)) := whileO S_laws_szObservationS_0 (a, left, i, ())
noncomputable def M_laws_szObservationS (a : List Obs) (left : Int) : Option Int :=
  cond (decide ((IntKind.i64.wrap (left - (a.length : Int))) < 0))
    (some (-1))
    ((L_laws_szObservationS_0 a (IntKind.i64.wrap (left - (a.length : Int))) 0).bind fun r =>
    match r with
    | .inl (t, _) =>
      some t
    | .inr (left1, _) =>
      some left1)

noncomputable def M_laws_szBook (a : Bk) (left : Int) : Option Int :=
  (M_laws_szNetwork (⟨a.plane, a.stations⟩ : Net) left).bind fun r =>
  cond (decide (r < 0))
    (some (-1))
    ((M_laws_szObservationS a.obs r).bind fun r1 =>
    cond (decide (r1 < 0))
      (some (-1))
      (some r1))

noncomputable def S_laws_szRatS_0 : (List Rt) × Int × Int × Unit → Option (((List Rt) × Int × Int × Unit) ⊕ ((Int × Unit) ⊕ (Int × Unit))) := fun (a, left, i, _) =>
  cond (decide (i < (a.length : Int)))
    ((idx a i).bind fun e =>
    (M_laws_szRat e left).bind fun r =>
    cond (decide (r < 0))
      (some (.inr (.inl ((-1), ()))))
      (some (.inl (a, r, IntKind.i64.wrap (i + 1), ()))))
    (some (.inr (.inr (left, ()))))
noncomputable def L_laws_szRatS_0 (a : List Rt) (left : Int) (i : Int) : Option ((Int × Unit) ⊕ (Int × Unit)) := whileO S_laws_szRatS_0 (a, left, i, ())
noncomputable def M_laws_szRatS (a : List Rt) (left : Int) : Option Int :=
  cond (decide ((IntKind.i64.wrap (left - (a.length : Int))) < 0))
    (some (-1))
    ((L_laws_szRatS_0 a (IntKind.i64.wrap (left - (a.length : Int))) 0).bind fun r =>
    match r with
    | .inl (t, _) =>
      some t
    | .inr (left1, _) =>
      some left1)

noncomputable def M_laws_szMatrix (a : Mx) (left : Int) : Option Int :=
  (M_laws_szRatS a.cells left).bind fun r =>
  cond (decide (r < 0))
    (some (-1))
    (some r)

noncomputable def S_laws_toIntS_0 : (List Int) × Int × (List Int) × Unit → Option (((List Int) × Int × (List Int) × Unit) ⊕ ((List Int) × Unit)) := fun (a, i, out, _) =>
  cond (decide (i < (a.length : Int)))
    ((idx a i).bind fun e =>
    (idx out i).bind fun _ =>
    some (.inl (a, IntKind.i64.wrap (i + 1), out.set i.toNat e, ())))
    (some (.inr (out, ())))
noncomputable def L_laws_toIntS_0 (a : List Int) (i : Int) (out : List Int) : Option ((List Int) × Unit) := whileO S_laws_toIntS_0 (a, i, out, ())
noncomputable def M_laws_toIntS (a : List Int) : Option (List Int) :=
  (guardO (((decide (0 ≤ (a.length : Int))) && (decide ((a.length : Int) ≤ (a.length : Int)))) && (decide ((a.length : Int) ≤ (maxNew : Int))))).bind fun _ =>
  (L_laws_toIntS_0 a 0 (List.replicate ((a.length : Int).toNat) 0 : List Int)).bind fun (out, _) =>
  some out

noncomputable def M_laws_toBigInt (a : Bg) : Option Bg :=
  (M_laws_toIntS a.mag).bind fun r =>
  some (⟨a.neg, r⟩ : Bg)

noncomputable def M_laws_toRat (a : Rt) : Option Rt :=
  (M_laws_toBigInt (⟨a.neg, a.mag⟩ : Bg)).bind fun r =>
  (M_laws_toIntS a.den).bind fun r1 =>
  some (⟨r.neg, r.mag, r1⟩ : Rt)

noncomputable def M_laws_toStation (a : Sta) : Option Sta :=
  (M_laws_toRat a.x).bind fun r =>
  (M_laws_toRat a.y).bind fun r1 =>
  some (⟨a.name, r, r1, a.fixed⟩ : Sta)

noncomputable def S_laws_toStationS_0 : (List Sta) × Int × (List Sta) × Unit → Option (((List Sta) × Int × (List Sta) × Unit) ⊕ ((List Sta) × Unit)) := fun (a, i, out, _) =>
  cond (decide (i < (a.length : Int)))
    ((idx a i).bind fun e =>
    (M_laws_toStation e).bind fun r =>
    (idx out i).bind fun _ =>
    ((out[i.toNat]?).bind fun _ => some r).bind fun e1 =>
    some (.inl (a, IntKind.i64.wrap (i + 1), out.set i.toNat e1, ())))
    (some (.inr (out, ())))
noncomputable def L_laws_toStationS_0 (a : List Sta) (i : Int) (out : List Sta) : Option ((List Sta) × Unit) := whileO S_laws_toStationS_0 (a, i, out, ())
noncomputable def M_laws_toStationS (a : List Sta) : Option (List Sta) :=
  (guardO (((decide (0 ≤ (a.length : Int))) && (decide ((a.length : Int) ≤ (a.length : Int)))) && (decide ((a.length : Int) ≤ (maxNew : Int))))).bind fun _ =>
  (L_laws_toStationS_0 a 0 (List.replicate ((a.length : Int).toNat) (⟨(⟨#[]⟩ : ByteArray), (⟨false, ([] : List Int), ([] : List Int)⟩ : Rt), (⟨false, ([] : List Int), ([] : List Int)⟩ : Rt), false⟩ : Sta) : List Sta)).bind fun (out, _) =>
  some out

noncomputable def M_laws_toNetwork (a : Net) : Option Net :=
  (M_laws_toStationS a.stations).bind fun r =>
  some (⟨a.plane, r⟩ : Net)

noncomputable def M_laws_toObservation (a : Obs) : Option Obs :=
  (M_laws_toRat a.value).bind fun r =>
  (M_laws_toRat a.variance).bind fun r1 =>
  some (⟨a.kind, a.frm, a.to, r, r1⟩ : Obs)

noncomputable def S_laws_toObservationS_0 : (List Obs) × Int × (List Obs) × Unit → Option (((List Obs) × Int × (List Obs) × Unit) ⊕ ((List Obs) × Unit)) := fun (a, i, out, _) =>
  cond (decide (i < (a.length : Int)))
    ((idx a i).bind fun e =>
    (M_laws_toObservation e).bind fun r =>
    (idx out i).bind fun _ =>
    ((out[i.toNat]?).bind fun _ => some r).bind fun e1 =>
    some (.inl (a, IntKind.i64.wrap (i + 1), out.set i.toNat e1, ())))
    (some (.inr (out, ())))
noncomputable def L_laws_toObservationS_0 (a : List Obs) (i : Int) (out : List Obs) : Option ((List Obs) × Unit) := whileO S_laws_toObservationS_0 (a, i, out, ())
noncomputable def M_laws_toObservationS (a : List Obs) : Option (List Obs) :=
  (guardO (((decide (0 ≤ (a.length : Int))) && (decide ((a.length : Int) ≤ (a.length : Int)))) && (decide ((a.length : Int) ≤ (maxNew : Int))))).bind fun _ =>
  (L_laws_toObservationS_0 a 0 (List.replicate ((a.length : Int).toNat) (⟨0, 0, 0, (⟨false, ([] : List Int), ([] : List Int)⟩ : Rt), (⟨false, ([] : List Int), ([] : List Int)⟩ : Rt)⟩ : Obs) : List Obs)).bind fun (out, _) =>
  some out

noncomputable def M_laws_toBook (a : Bk) : Option Bk :=
  (M_laws_toNetwork (⟨a.plane, a.stations⟩ : Net)).bind fun r =>
  (M_laws_toObservationS a.obs).bind fun r1 =>
  some (⟨r.plane, r.stations, r1⟩ : Bk)

noncomputable def S_laws_toRatS_0 : (List Rt) × Int × (List Rt) × Unit → Option (((List Rt) × Int × (List Rt) × Unit) ⊕ ((List Rt) × Unit)) := fun (a, i, out, _) =>
  cond (decide (i < (a.length : Int)))
    ((idx a i).bind fun e =>
    (M_laws_toRat e).bind fun r =>
    (idx out i).bind fun _ =>
    ((out[i.toNat]?).bind fun _ => some r).bind fun e1 =>
    some (.inl (a, IntKind.i64.wrap (i + 1), out.set i.toNat e1, ())))
    (some (.inr (out, ())))
noncomputable def L_laws_toRatS_0 (a : List Rt) (i : Int) (out : List Rt) : Option ((List Rt) × Unit) := whileO S_laws_toRatS_0 (a, i, out, ())
noncomputable def M_laws_toRatS (a : List Rt) : Option (List Rt) :=
  (guardO (((decide (0 ≤ (a.length : Int))) && (decide ((a.length : Int) ≤ (a.length : Int)))) && (decide ((a.length : Int) ≤ (maxNew : Int))))).bind fun _ =>
  (L_laws_toRatS_0 a 0 (List.replicate ((a.length : Int).toNat) (⟨false, ([] : List Int), ([] : List Int)⟩ : Rt) : List Rt)).bind fun (out, _) =>
  some out

noncomputable def M_laws_toMatrix (a : Mx) : Option Mx :=
  (M_laws_toRatS a.cells).bind fun r =>
  some (⟨a.rows, a.cols, r⟩ : Mx)

end Go.Di
/-
  Own work. Plain laws: loops, indices, integers that fit.
-/
namespace Go.Di

theorem whileO_eq {σ ρ : Type} (f : σ → Option (σ ⊕ ρ)) (x : σ) : whileO f x = (f x).bind fun z => match z with
    | .inl y => whileO f y
    | .inr r => some r := by
  cases h : f x with
  | none =>
    cases hw : whileO f x with
    | none => rfl
    | some r =>
      obtain ⟨n, hn⟩ := whileO_iff.1 hw
      cases n with
      | zero => cases hn
      | succ n => unfold iterO at hn; rw [h] at hn; cases hn
  | some z =>
    cases z with
    | inl y => exact whileO_inl h
    | inr r => exact whileO_inr h

/-- Rounds along a family of states. -/
theorem whileO_run {σ ρ : Type} (f : σ → Option (σ ⊕ ρ)) (st : Nat → σ) (n : Nat) (h : ∀ i, i < n → f (st i) = some (.inl (st (i + 1)))) : whileO f (st 0) = whileO f (st n) := by
  induction n with
  | zero => rfl
  | succ n ih =>
    rw [ih fun i hi => h i (Nat.lt_succ_of_lt hi)]
    exact whileO_inl (h n (Nat.lt_succ_self n))

theorem whileO_upto {σ ρ : Type} (f : σ → Option (σ ⊕ ρ)) (st : Nat → σ) (n : Nat) (r : ρ) (h : ∀ i, i < n → f (st i) = some (.inl (st (i + 1)))) (he : f (st n) = some (.inr r)) : whileO f (st 0) = some r := by
  rw [whileO_run f st n h]; exact whileO_inr he

theorem wrap_i64 {n : Int} (h1 : -9223372036854775808 ≤ n) (h2 : n ≤ 9223372036854775807) : IntKind.i64.wrap n = n := by
  simp only [IntKind.wrap, IntKind.bits, IntKind.signed]
  simp
  omega

theorem idx_nat {α : Type} (xs : List α) (i : Nat) : idx xs (i : Int) = xs[i]? := by simp [idx]
theorem idx_at {α : Type} {xs : List α} {i : Nat} (h : i < xs.length) : idx xs (i : Int) = some xs[i] := by simp [idx, h]
theorem idx_int {α : Type} {xs : List α} {i : Int} (h0 : 0 ≤ i) (h : i < xs.length) : idx xs i = some (xs[i.toNat]'(by omega)) := by
  have : i.toNat < xs.length := by omega
  simp [idx, h0, this]

@[simp] theorem guardO_true : guardO true = some () := rfl

/-- Equality as a Bool. -/
noncomputable def eqB {α : Type} (a b : α) : Bool := @decide (a = b) (Classical.propDecidable _)
theorem eqB_iff {α : Type} {a b : α} : eqB a b = true ↔ a = b := by unfold eqB; exact @decide_eq_true_iff _ (Classical.propDecidable _)
@[simp] theorem eqB_self {α : Type} (a : α) : eqB a a = true := eqB_iff.2 rfl
theorem eqB_false {α : Type} {a b : α} : eqB a b = false ↔ a ≠ b := by rw [← Bool.not_eq_true, eqB_iff]

theorem strEq_eq (a b : ByteArray) : strEq a b = eqB a b := by
  rw [Bool.eq_iff_iff, eqB_iff]
  unfold strEq
  rw [beq_iff_eq, Go.ByteArray.toList_eq, Go.ByteArray.toList_eq]
  constructor
  · intro h
    cases a with | mk a => cases b with | mk b =>
    congr 1; exact Array.ext' h
  · rintro rfl; rfl
@[simp] theorem strEq_self (a : ByteArray) : strEq a a = true := by rw [strEq_eq]; exact eqB_self a
end Go.Di
/-
  Own work. Plain laws: the loops that copy, compare and measure.
-/
namespace Go.Di

theorem copy_loop {α : Type} {S : (List α × Int × List α × Unit) → Option ((List α × Int × List α × Unit) ⊕ (List α × Unit))} {a : List α} {z : α}
    (hS : ∀ (i : Nat) (out : List α) (h : i < a.length), out.length = a.length → S (a, (i : Int), out, ()) = some (.inl (a, ((i + 1 : Nat) : Int), out.set i a[i], ())))
    (hE : ∀ out, S (a, (a.length : Int), out, ()) = some (.inr (out, ()))) : whileO S (a, 0, List.replicate a.length z, ()) = some (a, ()) := by
  have h := whileO_upto S (fun i => (a, (i : Int), a.take i ++ List.replicate (a.length - i) z, ())) a.length (a, ()) (fun i hi => ?_) (by rw [hE]; simp)
  · simpa using h
  · rw [hS i _ hi (by simp; omega)]
    congr 5
    apply List.ext_getElem?
    intro j
    have hl : (a.take i).length = i := by simp; omega
    by_cases hj : j = i
    · subst hj
      rw [List.getElem?_set_self (by simp; omega), List.getElem?_append_left (by simp; omega)]
      simp [hi]
    · rw [List.getElem?_set_ne (by omega)]
      by_cases hlt : j < i
      · rw [List.getElem?_append_left (by omega), List.getElem?_append_left (by simp; omega), List.getElem?_take_of_lt hlt, List.getElem?_take_of_lt (by omega)]
      · have hl2 : (a.take (i + 1)).length = i + 1 := by simp; omega
        rw [List.getElem?_append_right (by omega), List.getElem?_append_right (by omega), hl, hl2]
        simp only [List.getElem?_replicate]
        congr 1
        simp; omega

theorem eq_loop {α : Type} {S : (List α × List α × Int × Unit) → Option ((List α × List α × Int × Unit) ⊕ ((Bool × Unit) ⊕ Unit))} {a b : List α} (hl : a.length = b.length)
    (hS : ∀ (i : Nat) (h : i < a.length), S (a, b, (i : Int), ()) = some (cond (eqB a[i] (b[i]'(by omega))) (.inl (a, b, ((i + 1 : Nat) : Int), ())) (.inr (.inl (false, ())))))
    (hE : S (a, b, (a.length : Int), ()) = some (.inr (.inr ()))) : whileO S (a, b, 0, ()) = some (cond (eqB a b) (.inr ()) (.inl (false, ()))) := by
  have key : ∀ (m i : Nat), i + m = a.length → a.take i = b.take i → whileO S (a, b, (i : Int), ()) = some (cond (eqB a b) (.inr ()) (.inl (false, ()))) := by
    intro m
    induction m with
    | zero =>
      intro i him ht
      have : a = b := by
        have h1 : a.take i = a := List.take_of_length_le (by omega)
        have h2 : b.take i = b := List.take_of_length_le (by omega)
        rw [← h1, ← h2, ht]
      subst this
      have hi : i = a.length := by omega
      subst hi
      rw [whileO_inr hE]; simp
    | succ m ih =>
      intro i him ht
      have hi : i < a.length := by omega
      cases he : eqB a[i] (b[i]'(by omega)) with
      | true =>
        rw [whileO_inl (by rw [hS i hi, he]; rfl)]
        refine ih (i + 1) (by omega) ?_
        rw [List.take_succ_eq_append_getElem hi, List.take_succ_eq_append_getElem (by omega), ht, eqB_iff.1 he]
      | false =>
        rw [whileO_inr (by rw [hS i hi, he]; rfl)]
        have hne : eqB a b = false := by
          rw [eqB_false]; rintro rfl; rw [eqB_self] at he; cases he
        rw [hne]; rfl
  exact key a.length 0 (by omega) (by simp)

/-- What remains of a measure. -/
theorem sz_loop {α : Type} {S : (List α × Int × Int × Unit) → Option ((List α × Int × Int × Unit) ⊕ ((Int × Unit) ⊕ (Int × Unit)))} {a : List α} {size : α → Nat}
    (hS : ∀ (i : Nat) (left : Int) (h : i < a.length), 0 ≤ left → left ≤ 1048576 → S (a, left, (i : Int), ()) = some (.inr (.inl (-1, ()))) ∨ ∃ r : Int, 0 ≤ r ∧ r + size a[i] = left ∧ S (a, left, (i : Int), ()) = some (.inl (a, r, ((i + 1 : Nat) : Int), ())))
    (hE : ∀ left, S (a, left, (a.length : Int), ()) = some (.inr (.inr (left, ())))) (left : Int) (h0 : 0 ≤ left) (h1 : left ≤ 1048576) :
    whileO S (a, left, 0, ()) = some (.inl (-1, ())) ∨ ∃ r : Int, 0 ≤ r ∧ r + (a.map size).sum = left ∧ whileO S (a, left, 0, ()) = some (.inr (r, ())) := by
  have key : ∀ (m i : Nat) (left : Int), i + m = a.length → 0 ≤ left → left ≤ 1048576 → whileO S (a, left, (i : Int), ()) = some (.inl (-1, ())) ∨ ∃ r : Int, 0 ≤ r ∧ r + ((a.drop i).map size).sum = left ∧ whileO S (a, left, (i : Int), ()) = some (.inr (r, ())) := by
    intro m
    induction m with
    | zero =>
      intro i left him h0 h1
      have hi : i = a.length := by omega
      subst hi
      exact .inr ⟨left, h0, by simp, whileO_inr (hE left)⟩
    | succ m ih =>
      intro i left him h0 h1
      have hi : i < a.length := by omega
      rcases hS i left hi h0 h1 with h | ⟨r, q1, q2, q3⟩
      · exact .inl (whileO_inr h)
      · rw [whileO_inl q3]
        rcases ih (i + 1) r (by omega) q1 (by omega) with h | ⟨r', k1, k2, k3⟩
        · exact .inl h
        · refine .inr ⟨r', k1, ?_, k3⟩
          rw [List.drop_eq_getElem_cons hi, List.map_cons, List.sum_cons]
          omega
  have := key a.length 0 left (by omega) h0 h1
  simpa using this
end Go.Di
/-
  Own work. Plain laws: the helpers of the given statements measure, copy and compare.
-/
namespace Go.Di

def SzR (x : Option Int) (left : Int) (n : Nat) : Prop := x = some (-1) ∨ ∃ r : Int, 0 ≤ r ∧ r + n = left ∧ x = some r

theorem SzR.bind {x : Option Int} {left : Int} {n m : Nat} {k : Int → Option Int} (h : SzR x left n) (hk : ∀ r : Int, 0 ≤ r → r + n = left → SzR (k r) r m) :
    SzR (x.bind fun r => cond (decide (r < 0)) (some (-1)) (k r)) left (n + m) := by
  rcases h with rfl | ⟨r, h0, h1, rfl⟩
  · exact .inl rfl
  · have : decide (r < 0) = false := by simpa using h0
    simp only [Option.bind_some, this, cond_false]
    rcases hk r h0 h1 with h | ⟨r', k0, k1, h⟩
    · exact .inl h
    · exact .inr ⟨r', k0, by omega, h⟩
theorem SzR.ret {left : Int} (h : 0 ≤ left) : SzR (some left) left 0 := .inr ⟨left, h, by omega, rfl⟩
theorem SzR.last {x : Option Int} {left : Int} {n : Nat} (h : SzR x left n) : SzR (x.bind fun r => cond (decide (r < 0)) (some (-1)) (some r)) left n :=
  SzR.bind (m := 0) h fun _r h0 _ => SzR.ret h0

theorem sub_len {left : Int} {n : Nat} (h0 : 0 ≤ left) (h1 : left ≤ 1048576) (hn : n ≤ maxLen) : IntKind.i64.wrap (left - (n : Int)) = left - n := by
  unfold maxLen at hn
  exact wrap_i64 (by omega) (by omega)

theorem sz_ints {a : List Int} (ha : a.length ≤ maxLen) {left : Int} (h0 : 0 ≤ left) (h1 : left ≤ 1048576) : SzR (M_laws_szIntS a left) left a.length := by
  unfold M_laws_szIntS
  rw [sub_len h0 h1 ha]
  by_cases h : left - (a.length : Int) < 0
  · rw [decide_eq_true h]; exact .inl rfl
  · rw [decide_eq_false h]; exact .inr ⟨_, by omega, by omega, rfl⟩

def Rt.sz (r : Rt) : Nat := r.mag.length + r.den.length
def Obs.sz (o : Obs) : Nat := o.value.sz + o.variance.sz
def Sta.sz (s : Sta) : Nat := s.name.size + (s.x.sz + s.y.sz)

theorem sz_rat {r : Rt} (hr : r.wf) {left : Int} (h0 : 0 ≤ left) (h1 : left ≤ 1048576) : SzR (M_laws_szRat r left) left r.sz := by
  unfold M_laws_szRat M_laws_szBigInt
  exact SzR.bind (SzR.last (sz_ints hr.1.1 h0 h1)) fun r' q0 q1 => SzR.last (sz_ints hr.2.1 q0 (by omega))
theorem sz_obs {o : Obs} (h : ST.wf .obs o) {left : Int} (h0 : 0 ≤ left) (h1 : left ≤ 1048576) : SzR (M_laws_szObservation o left) left o.sz := by
  unfold M_laws_szObservation
  exact SzR.bind (sz_rat h.2.1 h0 h1) fun r' q0 q1 => SzR.last (sz_rat h.2.2 q0 (by omega))
theorem sz_sta {s : Sta} (h : ST.wf .sta s) {left : Int} (h0 : 0 ≤ left) (h1 : left ≤ 1048576) : SzR (M_laws_szStation s left) left s.sz := by
  unfold M_laws_szStation
  have hn := h.1
  rw [sub_len h0 h1 hn]
  by_cases hs : left - (s.name.size : Int) < 0
  · rw [decide_eq_true hs]; exact .inl rfl
  · rw [decide_eq_false hs]
    simp only [cond_false]
    rcases SzR.bind (sz_rat h.2.1 (show 0 ≤ left - (s.name.size : Int) by omega) (by omega)) fun r' q0 q1 => SzR.last (sz_rat h.2.2 q0 (by omega)) with h | ⟨r, q0, q1, h⟩
    · exact .inl h
    · exact .inr ⟨r, q0, by unfold Sta.sz; omega, h⟩

def lsz {α : Type} (f : α → Nat) (l : List α) : Nat := l.length + (l.map f).sum

theorem sz_list {α : Type} {S : (List α × Int × Int × Unit) → Option ((List α × Int × Int × Unit) ⊕ ((Int × Unit) ⊕ (Int × Unit)))} {f : α → Int → Option Int} {size : α → Nat} {l : List α} (hlen : l.length ≤ maxLen)
    (hel : ∀ x ∈ l, ∀ left : Int, 0 ≤ left → left ≤ 1048576 → SzR (f x left) left (size x))
    (hS : S = fun (a, left, i, _) => cond (decide (i < (a.length : Int))) ((idx a i).bind fun e => (f e left).bind fun r => cond (decide (r < 0)) (some (.inr (.inl ((-1), ())))) (some (.inl (a, r, IntKind.i64.wrap (i + 1), ())))) (some (.inr (.inr (left, ())))))
    {left : Int} (h0 : 0 ≤ left) (h1 : left ≤ 1048576) :
    SzR (cond (decide ((IntKind.i64.wrap (left - (l.length : Int))) < 0)) (some (-1)) ((whileO S (l, IntKind.i64.wrap (left - (l.length : Int)), 0, ())).bind fun r => match r with
      | .inl (t, _) => some t
      | .inr (left1, _) => some left1)) left (lsz size l) := by
  rw [sub_len h0 h1 hlen]
  by_cases h : left - (l.length : Int) < 0
  · rw [decide_eq_true h]; exact .inl rfl
  · rw [decide_eq_false h]
    simp only [cond_false]
    have key := sz_loop (S := S) (a := l) (size := size) (by
      intro i left hi q0 q1
      have hlt : decide ((i : Int) < (l.length : Int)) = true := by simpa using hi
      have hwr : IntKind.i64.wrap ((i : Int) + 1) = ((i + 1 : Nat) : Int) := by unfold maxLen at hlen; rw [wrap_i64 (by omega) (by omega)]; simp
      subst hS
      simp only [hlt, cond_true, idx_at hi, Option.bind_some]
      rcases hel _ (List.getElem_mem hi) left q0 q1 with e | ⟨r, k0, k1, e⟩
      · rw [e]; exact .inl rfl
      · rw [e]
        have : decide (r < 0) = false := by simpa using k0
        simp only [Option.bind_some, this, cond_false, hwr]
        exact .inr ⟨r, k0, k1, rfl⟩) (by intro left; subst hS; simp) (left - (l.length : Int)) (by omega) (by omega)
    rcases key with e | ⟨r, k0, k1, e⟩
    · rw [e]; exact .inl rfl
    · rw [e]; exact .inr ⟨r, k0, by unfold lsz; omega, rfl⟩
theorem sz_obss {l : List Obs} (hl : CK.wf (.sl .obs) l) {left : Int} (h0 : 0 ≤ left) (h1 : left ≤ 1048576) : SzR (M_laws_szObservationS l left) left (lsz Obs.sz l) :=
  sz_list (S := S_laws_szObservationS_0) hl.1 (fun x hx _left q0 q1 => sz_obs (hl.2 x hx) q0 q1) rfl h0 h1
theorem sz_stas {l : List Sta} (hl : CK.wf (.sl .sta) l) {left : Int} (h0 : 0 ≤ left) (h1 : left ≤ 1048576) : SzR (M_laws_szStationS l left) left (lsz Sta.sz l) :=
  sz_list (S := S_laws_szStationS_0) hl.1 (fun x hx _left q0 q1 => sz_sta (hl.2 x hx) q0 q1) rfl h0 h1
theorem sz_rats {l : List Rt} (hl : CK.wf (.sl .rat) l) {left : Int} (h0 : 0 ≤ left) (h1 : left ≤ 1048576) : SzR (M_laws_szRatS l left) left (lsz Rt.sz l) :=
  sz_list (S := S_laws_szRatS_0) hl.1 (fun x hx _left q0 q1 => sz_rat (hl.2 x hx) q0 q1) rfl h0 h1
theorem sz_net {n : Net} (hn : CK.wf (.sl .sta) n.stations) {left : Int} (h0 : 0 ≤ left) (h1 : left ≤ 1048576) : SzR (M_laws_szNetwork n left) left (lsz Sta.sz n.stations) := by
  unfold M_laws_szNetwork
  exact SzR.last (sz_stas hn h0 h1)
theorem sz_mx {m : Mx} (hm : CK.wf (.sl .rat) m.cells) {left : Int} (h0 : 0 ≤ left) (h1 : left ≤ 1048576) : SzR (M_laws_szMatrix m left) left (lsz Rt.sz m.cells) := by
  unfold M_laws_szMatrix
  exact SzR.last (sz_rats hm h0 h1)
theorem sz_book {b : Bk} (hs : CK.wf (.sl .sta) b.stations) (ho : CK.wf (.sl .obs) b.obs) {left : Int} (h0 : 0 ≤ left) (h1 : left ≤ 1048576) : SzR (M_laws_szBook b left) left (lsz Sta.sz b.stations + lsz Obs.sz b.obs) := by
  unfold M_laws_szBook
  exact SzR.bind (sz_net (n := ⟨b.plane, b.stations⟩) hs h0 h1) fun r' q0 q1 => SzR.last (sz_obss ho q0 (by omega))

/-! ### Copies -/
theorem guard_len {n : Nat} (h : n ≤ 1048576) : (((decide (0 ≤ (n : Int))) && (decide ((n : Int) ≤ (n : Int)))) && (decide ((n : Int) ≤ (maxNew : Int)))) = true := by
  have : (n : Int) ≤ (maxNew : Int) := by unfold maxNew; omega
  simp [this]
theorem succ_wrap {i n : Nat} (h : i < n) (hn : n ≤ 1048576) : IntKind.i64.wrap ((i : Int) + 1) = ((i + 1 : Nat) : Int) := by
  rw [wrap_i64 (by omega) (by omega)]; simp

theorem to_ints {a : List Int} (ha : a.length ≤ 1048576) : M_laws_toIntS a = some a := by
  unfold M_laws_toIntS L_laws_toIntS_0
  rw [guard_len ha, guardO_true, Option.bind_some, Int.toNat_natCast, copy_loop (z := (0 : Int)) (fun i out hi ho => ?_) (fun out => by simp [S_laws_toIntS_0])]
  · rfl
  · have hlt : decide ((i : Int) < (a.length : Int)) = true := by simpa using hi
    simp only [S_laws_toIntS_0, hlt, cond_true, idx_at hi, idx_at (show i < out.length by omega), Option.bind_some, succ_wrap hi ha, Int.toNat_natCast]
def Rt.fit (r : Rt) : Prop := r.mag.length ≤ 1048576 ∧ r.den.length ≤ 1048576
theorem to_rat {r : Rt} (h : r.fit) : M_laws_toRat r = some r := by
  unfold M_laws_toRat M_laws_toBigInt
  rw [to_ints h.1, to_ints h.2]; rfl
def Obs.fit (o : Obs) : Prop := o.value.fit ∧ o.variance.fit
def Sta.fit (s : Sta) : Prop := s.x.fit ∧ s.y.fit
theorem to_obs {o : Obs} (h : o.fit) : M_laws_toObservation o = some o := by
  unfold M_laws_toObservation
  rw [to_rat h.1, to_rat h.2]; rfl
theorem to_sta {s : Sta} (h : s.fit) : M_laws_toStation s = some s := by
  unfold M_laws_toStation
  rw [to_rat h.1, to_rat h.2]; rfl
def lfit {α : Type} (f : α → Prop) (l : List α) : Prop := l.length ≤ 1048576 ∧ ∀ x ∈ l, f x
theorem to_obss {l : List Obs} (h : lfit Obs.fit l) : M_laws_toObservationS l = some l := by
  unfold M_laws_toObservationS L_laws_toObservationS_0
  rw [guard_len h.1, guardO_true, Option.bind_some, Int.toNat_natCast, copy_loop (fun i out hi ho => ?_) (fun out => by simp [S_laws_toObservationS_0])]
  · rfl
  · have hlt : decide ((i : Int) < (l.length : Int)) = true := by simpa using hi
    simp only [S_laws_toObservationS_0, hlt, cond_true, idx_at hi, idx_at (show i < out.length by omega), Option.bind_some, succ_wrap hi h.1, Int.toNat_natCast, to_obs (h.2 _ (List.getElem_mem hi)), List.getElem?_eq_getElem (show i < out.length by omega)]
theorem to_stas {l : List Sta} (h : lfit Sta.fit l) : M_laws_toStationS l = some l := by
  unfold M_laws_toStationS L_laws_toStationS_0
  rw [guard_len h.1, guardO_true, Option.bind_some, Int.toNat_natCast, copy_loop (fun i out hi ho => ?_) (fun out => by simp [S_laws_toStationS_0])]
  · rfl
  · have hlt : decide ((i : Int) < (l.length : Int)) = true := by simpa using hi
    simp only [S_laws_toStationS_0, hlt, cond_true, idx_at hi, idx_at (show i < out.length by omega), Option.bind_some, succ_wrap hi h.1, Int.toNat_natCast, to_sta (h.2 _ (List.getElem_mem hi)), List.getElem?_eq_getElem (show i < out.length by omega)]
theorem to_rats {l : List Rt} (h : lfit Rt.fit l) : M_laws_toRatS l = some l := by
  unfold M_laws_toRatS L_laws_toRatS_0
  rw [guard_len h.1, guardO_true, Option.bind_some, Int.toNat_natCast, copy_loop (fun i out hi ho => ?_) (fun out => by simp [S_laws_toRatS_0])]
  · rfl
  · have hlt : decide ((i : Int) < (l.length : Int)) = true := by simpa using hi
    simp only [S_laws_toRatS_0, hlt, cond_true, idx_at hi, idx_at (show i < out.length by omega), Option.bind_some, succ_wrap hi h.1, Int.toNat_natCast, to_rat (h.2 _ (List.getElem_mem hi)), List.getElem?_eq_getElem (show i < out.length by omega)]
theorem to_net {n : Net} (h : lfit Sta.fit n.stations) : M_laws_toNetwork n = some n := by
  unfold M_laws_toNetwork
  rw [to_stas h]; rfl
theorem to_mx {m : Mx} (h : lfit Rt.fit m.cells) : M_laws_toMatrix m = some m := by
  unfold M_laws_toMatrix
  rw [to_rats h]; rfl
theorem to_book {b : Bk} (hs : lfit Sta.fit b.stations) (ho : lfit Obs.fit b.obs) : M_laws_toBook b = some b := by
  unfold M_laws_toBook
  rw [to_net (n := ⟨b.plane, b.stations⟩) hs]
  simp only [Option.bind_some]
  rw [to_obss ho]; rfl

/-! ### What is measured fits -/
theorem le_sum {α : Type} {f : α → Nat} : ∀ {l : List α} {x : α}, x ∈ l → f x ≤ (l.map f).sum
  | y :: l, x, h => by
    rw [List.map_cons, List.sum_cons]
    rcases List.mem_cons.1 h with rfl | h
    · omega
    · have := le_sum (f := f) h; omega
theorem Rt.fit_of {r : Rt} (h : r.sz ≤ 1048576) : r.fit := by unfold Rt.sz at h; exact ⟨by omega, by omega⟩
theorem Obs.fit_of {o : Obs} (h : o.sz ≤ 1048576) : o.fit := by unfold Obs.sz at h; exact ⟨Rt.fit_of (by omega), Rt.fit_of (by omega)⟩
theorem Sta.fit_of {s : Sta} (h : s.sz ≤ 1048576) : s.fit := by unfold Sta.sz at h; exact ⟨Rt.fit_of (by omega), Rt.fit_of (by omega)⟩
theorem lfit_of {α : Type} {f : α → Nat} {p : α → Prop} (hp : ∀ x, f x ≤ 1048576 → p x) {l : List α} (h : lsz f l ≤ 1048576) : lfit p l := by
  unfold lsz at h
  exact ⟨by omega, fun x hx => hp x (by have := le_sum (f := f) hx; omega)⟩

/-! ### Comparisons -/
theorem i64_ne (a b : Nat) : ((a : Int) != (b : Int)) = !(a == b) := by
  rw [Bool.eq_iff_iff]; simp; omega
theorem eq_list {α : Type} {S : (List α × List α × Int × Unit) → Option ((List α × List α × Int × Unit) ⊕ ((Bool × Unit) ⊕ Unit))} {f : α → α → Option Bool} {a b : List α} (hlen : a.length ≤ 1048576)
    (hel : ∀ x ∈ a, ∀ y ∈ b, f x y = some (eqB x y))
    (hS : S = fun (a, b, i, _) => cond (decide (i < (a.length : Int))) ((idx a i).bind fun e => (idx b i).bind fun e1 => (f e e1).bind fun r => cond (!r) (some (.inr (.inl (false, ())))) (some (.inl (a, b, IntKind.i64.wrap (i + 1), ())))) (some (.inr (.inr ())))) :
    (cond ((a.length : Int) != (b.length : Int)) (some false) ((whileO S (a, b, 0, ())).bind fun r => match r with
      | .inl (t, _) => some t
      | .inr _ => some true)) = some (eqB a b) := by
  rw [i64_ne]
  by_cases hl : a.length = b.length
  · rw [eq_loop (S := S) hl (by
      intro i hi
      have hlt : decide ((i : Int) < (a.length : Int)) = true := by simpa using hi
      have hwr := succ_wrap hi hlen
      subst hS
      simp only [hlt, cond_true, idx_at hi, idx_at (show i < b.length by omega), Option.bind_some, hel _ (List.getElem_mem hi) _ (List.getElem_mem (show i < b.length by omega)), hwr]
      cases eqB a[i] (b[i]'(by omega)) <;> rfl) (by subst hS; simp)]
    have : (a.length == b.length) = true := by simpa using hl
    rw [this]
    cases eqB a b <;> rfl
  · have : (a.length == b.length) = false := by simpa using hl
    rw [this]
    have hne : eqB a b = false := by rw [eqB_false]; rintro rfl; exact hl rfl
    rw [hne]; rfl

theorem eqB_mk {α β : Type} {a b : α} {c d : β} (h : a = b ↔ c = d) : eqB a b = eqB c d := by rw [Bool.eq_iff_iff, eqB_iff, eqB_iff]; exact h
theorem beq_int (a b : Int) : (a == b) = eqB a b := by rw [Bool.eq_iff_iff, eqB_iff]; simp
theorem bne_int (a b : Int) : (a != b) = !eqB a b := by rw [← beq_int]; rfl
theorem beq_bool (a b : Bool) : (a == b) = eqB a b := by rw [Bool.eq_iff_iff, eqB_iff]; simp
theorem and_eqB {p q r : Prop} {a b c : Bool} (ha : a = true ↔ p) (hb : b = true ↔ q) (hc : c = true ↔ r) (h : r ↔ p ∧ q) : cond (!a) (some false) (some b) = some c := by
  cases a <;> cases b <;> cases c <;> simp_all

theorem eq_ints {a b : List Int} (ha : a.length ≤ 1048576) : M_laws_eqIntS a b = some (eqB a b) := by
  unfold M_laws_eqIntS L_laws_eqIntS_0
  exact eq_list (S := S_laws_eqIntS_0) (f := fun x y => some (eqB x y)) ha (fun _ _ _ _ => rfl) (by
    funext ⟨a, b, i, u⟩
    simp only [S_laws_eqIntS_0, bne_int, Option.bind_some])

theorem cond_ret (r : Bool) : cond (!r) (some false) (some true) = some r := by cases r <;> rfl
theorem chain {x : Option Bool} {a b : Bool} {k : Option Bool} (hx : x = some a) (hk : k = some b) : (x.bind fun r => cond (!r) (some false) k) = some (a && b) := by
  subst hx; subst hk; cases a <;> rfl
theorem chain1 {x : Option Bool} {a : Bool} (hx : x = some a) : (x.bind fun r => cond (!r) (some false) (some true)) = some a := by
  subst hx; cases a <;> rfl
theorem chain0 {a b : Bool} {k : Option Bool} (hk : k = some b) : cond (!a) (some false) k = some (a && b) := by
  subst hk; cases a <;> rfl

theorem eq_rat {r s : Rt} (h : r.fit) : M_laws_eqRat r s = some (eqB r s) := by
  unfold M_laws_eqRat M_laws_eqBigInt
  rw [chain (chain0 (chain1 (eq_ints h.1))) (chain1 (eq_ints h.2)), beq_bool]
  congr 1
  rw [Bool.eq_iff_iff, eqB_iff]
  simp only [Bool.and_eq_true, eqB_iff]
  cases r; cases s; simp [and_assoc]
theorem eq_obs {r s : Obs} (h : r.fit) : M_laws_eqObservation r s = some (eqB r s) := by
  unfold M_laws_eqObservation
  simp only [bne_int]
  rw [chain0 (chain0 (chain0 (chain (eq_rat h.1) (chain1 (eq_rat h.2)))))]
  congr 1
  rw [Bool.eq_iff_iff, eqB_iff]
  simp only [Bool.and_eq_true, eqB_iff]
  cases r; cases s; simp
theorem eq_sta {r s : Sta} (h : r.fit) : M_laws_eqStation r s = some (eqB r s) := by
  unfold M_laws_eqStation
  simp only [strEq_eq, beq_bool]
  rw [chain0 (chain (eq_rat h.1) (chain (eq_rat h.2) (chain0 rfl)))]
  congr 1
  rw [Bool.eq_iff_iff, eqB_iff]
  simp only [Bool.and_eq_true, eqB_iff]
  cases r; cases s; simp
theorem eq_obss {a b : List Obs} (h : lfit Obs.fit a) : M_laws_eqObservationS a b = some (eqB a b) :=
  eq_list (S := S_laws_eqObservationS_0) h.1 (fun x hx _y _ => eq_obs (h.2 x hx)) rfl
theorem eq_stas {a b : List Sta} (h : lfit Sta.fit a) : M_laws_eqStationS a b = some (eqB a b) :=
  eq_list (S := S_laws_eqStationS_0) h.1 (fun x hx _y _ => eq_sta (h.2 x hx)) rfl
theorem eq_rats {a b : List Rt} (h : lfit Rt.fit a) : M_laws_eqRatS a b = some (eqB a b) :=
  eq_list (S := S_laws_eqRatS_0) h.1 (fun x hx _y _ => eq_rat (h.2 x hx)) rfl
theorem eq_net {a b : Net} (h : lfit Sta.fit a.stations) : M_laws_eqNetwork a b = some (eqB a b) := by
  unfold M_laws_eqNetwork
  rw [beq_bool, chain0 (chain1 (eq_stas h))]
  congr 1
  rw [Bool.eq_iff_iff, eqB_iff]
  simp only [Bool.and_eq_true, eqB_iff]
  cases a; cases b; simp
theorem eq_mx {a b : Mx} (h : lfit Rt.fit a.cells) : M_laws_eqMatrix a b = some (eqB a b) := by
  unfold M_laws_eqMatrix
  simp only [bne_int]
  rw [chain0 (chain0 (chain1 (eq_rats h)))]
  congr 1
  rw [Bool.eq_iff_iff, eqB_iff]
  simp only [Bool.and_eq_true, eqB_iff]
  cases a; cases b; simp
theorem eq_book {a b : Bk} (hs : lfit Sta.fit a.stations) (ho : lfit Obs.fit a.obs) : M_laws_eqBook a b = some (eqB a b) := by
  unfold M_laws_eqBook
  rw [chain (eq_net (a := ⟨a.plane, a.stations⟩) hs) (chain1 (eq_obss ho))]
  congr 1
  rw [Bool.eq_iff_iff, eqB_iff]
  simp only [Bool.and_eq_true, eqB_iff]
  cases a; cases b; simp [and_assoc]
end Go.Di
