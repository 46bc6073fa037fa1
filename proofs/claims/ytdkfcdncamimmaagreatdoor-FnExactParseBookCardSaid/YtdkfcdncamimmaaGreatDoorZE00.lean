/-
  Own work: part 5 of the texts that the proof of the given statement leans on.
-/
import Derived.Laws.Strings
import Derived.Test.YtdkfcdncamimmaaGreatDoorZD03
namespace Go.Di
noncomputable def S_impl_IsDigits_0:ByteArray × Int × Unit → Option ((ByteArray × Int × Unit) ⊕ ((Bool × Unit) ⊕ (ByteArray × Unit))):=fun (s,i,_) =>
  cond (decide (i < (s.size:Int)))
    ((strAt s i).bind fun b =>
    cond (decide (b < 48))
      (some (.inr (.inl (false,()))))
      ((strAt s i).bind fun b1 =>
      cond (decide (b1 > 57))
        (some (.inr (.inl (false,()))))
        (some (.inl (s,IntKind.i64.wrap (i + 1),())))))
    (some (.inr (.inr (s,()))))
noncomputable def L_impl_IsDigits_0 (s:ByteArray) (i:Int):Option ((Bool × Unit) ⊕ (ByteArray × Unit)):=whileO S_impl_IsDigits_0 (s,i,())
noncomputable def M_impl_IsDigits (s:ByteArray):Option Bool :=
  (L_impl_IsDigits_0 s 0).bind fun r =>
  match r with
  | .inl (t,_) =>
    some t
  | .inr (s1,_) =>
    some (!(strEq s1 (⟨#[]⟩:ByteArray)))
noncomputable def S_impl_IsName_0:ByteArray × Int × Unit → Option ((ByteArray × Int × Unit) ⊕ ((Bool × Unit) ⊕ (Unit))):=fun (s,i,_) =>
  cond (decide (i < (s.size:Int)))
    ((strAt s i).bind fun b =>
    cond (decide (b < 97))
      ((strAt s i).bind fun b1 =>
      cond (decide (b1 < 48))
        (some (.inr (.inl (false,()))))
        ((strAt s i).bind fun b2 =>
        cond (decide (b2 > 57))
          (some (.inr (.inl (false,()))))
          (some (.inl (s,IntKind.i64.wrap (i + 1),())))))
      ((strAt s i).bind fun b1 =>
      cond (decide (b1 > 122))
        ((strAt s i).bind fun b2 =>
        cond (decide (b2 < 48))
          (some (.inr (.inl (false,()))))
          ((strAt s i).bind fun b3 =>
          cond (decide (b3 > 57))
            (some (.inr (.inl (false,()))))
            (some (.inl (s,IntKind.i64.wrap (i + 1),())))))
        (some (.inl (s,IntKind.i64.wrap (i + 1),())))))
    (some (.inr (.inr (()))))
noncomputable def L_impl_IsName_0 (s:ByteArray) (i:Int):Option ((Bool × Unit) ⊕ (Unit)):=whileO S_impl_IsName_0 (s,i,())
noncomputable def M_impl_IsName (s:ByteArray):Option Bool :=
  cond (decide ((s.size:Int) < 1))
    (some false)
    (cond (decide ((s.size:Int) > 8))
      (some false)
      ((strAt s 0).bind fun b =>
      cond (decide (b < 97))
        (some false)
        ((strAt s 0).bind fun b1 =>
        cond (decide (b1 > 122))
          (some false)
          ((L_impl_IsName_0 s 0).bind fun r =>
          match r with
          | .inl (t,_) =>
            some t
          | .inr _ =>
            some true))))
noncomputable def M_impl_Join (l:List ByteArray) (by_:ByteArray):Option ByteArray :=
  (M_strings_Join l by_).bind fun r =>
  some r
noncomputable def M_impl_PadZeros (s:ByteArray) (n:Int):Option ByteArray :=
  cond (decide ((s.size:Int) ≥ n))
    (some s)
    (cond (decide (n > 2000))
      (some s)
      ((M_strings_Repeat (⟨#[48]⟩:ByteArray) (IntKind.i64.wrap (n - (s.size:Int)))).bind fun r =>
      (guardO (Nat.ble (r.size + s.size) 4611686018427387904)).bind fun _ =>
      some (r ++ s)))
noncomputable def S_impl_SplitAny_0:ByteArray × ByteArray × Int × Int × (List ByteArray) × Unit → Option ((ByteArray × ByteArray × Int × Int × (List ByteArray) × Unit) ⊕ (ByteArray × Int × (List ByteArray) × Unit)):=fun (s,by_,from_,i,out,_) =>
  cond (decide (i < (s.size:Int)))
    ((strAt s i).bind fun b =>
    (M_strings_IndexByte by_ b).bind fun r =>
    cond (decide (r ≥ 0))
      ((guardO (inside s.size (from_,i))).bind fun _ =>
      (guardO (Nat.ble (out.length + 1) maxNew)).bind fun _ =>
      some (.inl (s,by_,IntKind.i64.wrap (i + 1),IntKind.i64.wrap (i + 1),out ++ ([s.extract from_.toNat i.toNat]:List ByteArray),())))
      (some (.inl (s,by_,from_,IntKind.i64.wrap (i + 1),out,()))))
    (some (.inr (s,from_,out,())))
noncomputable def L_impl_SplitAny_0 (s:ByteArray) (by_:ByteArray) (from_:Int) (i:Int) (out:List ByteArray):Option (ByteArray × Int × (List ByteArray) × Unit):=whileO S_impl_SplitAny_0 (s,by_,from_,i,out,())
noncomputable def M_impl_SplitAny (s:ByteArray) (by_:ByteArray):Option (List ByteArray) :=
  (L_impl_SplitAny_0 s by_ 0 0 ([]:List ByteArray)).bind fun (s1,from_,out,_) =>
  (guardO (inside s1.size (from_,(s1.size:Int)))).bind fun _ =>
  (guardO (Nat.ble (out.length + 1) maxNew)).bind fun _ =>
  some (out ++ ([s1.extract from_.toNat ((s1.size:Int).toNat)]:List ByteArray))
noncomputable def M_impl_SplitLines (s:ByteArray):Option (List ByteArray) :=
  (M_impl_SplitAny s (⟨#[10]⟩:ByteArray)).bind fun r =>
  (idx r (IntKind.i64.wrap ((r.length:Int) - 1))).bind fun _ =>
  (r[(IntKind.i64.wrap ((r.length:Int) - 1)).toNat]?).bind fun e =>
  cond (strEq e (⟨#[]⟩:ByteArray))
    ((guardO (inside r.length (0,IntKind.i64.wrap ((r.length:Int) - 1)))).bind fun _ =>
    some (r.take ((IntKind.i64.wrap ((r.length:Int) - 1)).toNat)))
    (some r)
noncomputable def M_impl_copyInts (l:List Int):Option (List Int) :=
  (guardO (Nat.ble l.length maxNew)).bind fun _ =>
  some l
noncomputable def S_spec_FormatInt_0:Int × ByteArray × Unit → Option ((Int × ByteArray × Unit) ⊕ (Int × ByteArray × Unit)):=fun (n,s,_) =>
  cond (decide (n > 9))
    ((guardO (Nat.ble (((bytesOf ([IntKind.u8.wrap (IntKind.i64.wrap (48 + (n.tmod 10)))]:List Int)).size) + s.size) 4611686018427387904)).bind fun _ =>
    some (.inl (IntKind.i64.wrap (n.tdiv 10),(bytesOf ([IntKind.u8.wrap (IntKind.i64.wrap (48 + (n.tmod 10)))]:List Int)) ++ s,())))
    (some (.inr (n,s,())))
noncomputable def L_spec_FormatInt_0 (n:Int) (s:ByteArray):Option (Int × ByteArray × Unit):=whileO S_spec_FormatInt_0 (n,s,())
noncomputable def M_spec_FormatInt (n:Int):Option ByteArray :=
  cond (decide (n < 0))
    (cond ((IntKind.i64.wrap (n.tdiv 10)) == 0)
      ((guardO (Nat.ble (((⟨#[45]⟩:ByteArray).size) + ((bytesOf ([IntKind.u8.wrap (IntKind.i64.wrap (48 - n))]:List Int)).size)) 4611686018427387904)).bind fun _ =>
      some ((⟨#[45]⟩:ByteArray) ++ (bytesOf ([IntKind.u8.wrap (IntKind.i64.wrap (48 - n))]:List Int))))
      none)
    ((L_spec_FormatInt_0 n (⟨#[]⟩:ByteArray)).bind fun (n1,s,_) =>
    (guardO (Nat.ble (((bytesOf ([IntKind.u8.wrap (IntKind.i64.wrap (48 + n1))]:List Int)).size) + s.size) 4611686018427387904)).bind fun _ =>
    some ((bytesOf ([IntKind.u8.wrap (IntKind.i64.wrap (48 + n1))]:List Int)) ++ s))
noncomputable def S_spec_IsDigits_0:ByteArray × Int × Unit → Option ((ByteArray × Int × Unit) ⊕ ((Bool × Unit) ⊕ (ByteArray × Unit))):=fun (s,i,_) =>
  cond (decide (i < (s.size:Int)))
    ((strAt s i).bind fun b =>
    cond (decide (b < 48))
      (some (.inr (.inl (false,()))))
      ((strAt s i).bind fun b1 =>
      cond (decide (b1 > 57))
        (some (.inr (.inl (false,()))))
        (some (.inl (s,IntKind.i64.wrap (i + 1),())))))
    (some (.inr (.inr (s,()))))
noncomputable def L_spec_IsDigits_0 (s:ByteArray) (i:Int):Option ((Bool × Unit) ⊕ (ByteArray × Unit)):=whileO S_spec_IsDigits_0 (s,i,())
noncomputable def M_spec_IsDigits (s:ByteArray):Option Bool :=
  (L_spec_IsDigits_0 s 0).bind fun r =>
  match r with
  | .inl (t,_) =>
    some t
  | .inr (s1,_) =>
    some (decide ((s1.size:Int) > 0))
noncomputable def M_spec_l01In (n:Int) (lo:Int) (hi:Int):Option Bool :=
  cond (decide (n ≥ lo))
    (some (decide (n ≤ hi)))
    (some false)
noncomputable def S_spec_IsName_0:ByteArray × Int × Unit → Option ((ByteArray × Int × Unit) ⊕ ((Bool × Unit) ⊕ (ByteArray × Unit))):=fun (s,i,_) =>
  cond (decide (i < (s.size:Int)))
    ((strAt s i).bind fun b =>
    cond (decide (b ≥ 97))
      ((strAt s i).bind fun b1 =>
      cond (!(decide (b1 ≤ 122)))
        (cond (i == 0)
          (some (.inr (.inl (false,()))))
          ((strAt s i).bind fun b2 =>
          cond (decide (b2 < 48))
            (some (.inr (.inl (false,()))))
            ((strAt s i).bind fun b3 =>
            cond (decide (b3 > 57))
              (some (.inr (.inl (false,()))))
              (some (.inl (s,IntKind.i64.wrap (i + 1),()))))))
        (some (.inl (s,IntKind.i64.wrap (i + 1),()))))
      (cond (i == 0)
        (some (.inr (.inl (false,()))))
        ((strAt s i).bind fun b1 =>
        cond (decide (b1 < 48))
          (some (.inr (.inl (false,()))))
          ((strAt s i).bind fun b2 =>
          cond (decide (b2 > 57))
            (some (.inr (.inl (false,()))))
            (some (.inl (s,IntKind.i64.wrap (i + 1),())))))))
    (some (.inr (.inr (s,()))))
noncomputable def L_spec_IsName_0 (s:ByteArray) (i:Int):Option ((Bool × Unit) ⊕ (ByteArray × Unit)):=whileO S_spec_IsName_0 (s,i,())
noncomputable def M_spec_IsName (s:ByteArray):Option Bool :=
  (L_spec_IsName_0 s 0).bind fun r =>
  match r with
  | .inl (t,_) =>
    some t
  | .inr (s1,_) =>
    (M_spec_l01In (s1.size:Int) 1 8).bind fun r1 =>
    some r1
noncomputable def S_spec_PadZeros_0:ByteArray × Int × Unit → Option ((ByteArray × Int × Unit) ⊕ (ByteArray × Unit)):=fun (s,n,_) =>
  cond (decide ((s.size:Int) < n))
    ((guardO (Nat.ble (((⟨#[48]⟩:ByteArray).size) + s.size) 4611686018427387904)).bind fun _ =>
    some (.inl ((⟨#[48]⟩:ByteArray) ++ s,n,())))
    (some (.inr (s,())))
noncomputable def L_spec_PadZeros_0 (s:ByteArray) (n:Int):Option (ByteArray × Unit):=whileO S_spec_PadZeros_0 (s,n,())
noncomputable def M_spec_PadZeros (s:ByteArray) (n:Int):Option ByteArray :=
  cond (decide (n > 2000))
    (some s)
    ((L_spec_PadZeros_0 s n).bind fun (s1,_) =>
    some s1)
noncomputable def S_spec_SplitAny_1:ByteArray × ByteArray × Int × Int × Int × (List ByteArray) × Unit → Option ((ByteArray × ByteArray × Int × Int × Int × (List ByteArray) × Unit) ⊕ (ByteArray × ByteArray × Int × Int × (List ByteArray) × Unit)):=fun (s,by_,from_,i,k,out,_) =>
  cond (decide (k < (by_.size:Int)))
    ((strAt s i).bind fun b =>
    (strAt by_ k).bind fun b1 =>
    cond (b == b1)
      ((guardO (inside s.size (from_,i))).bind fun _ =>
      (guardO (Nat.ble (out.length + 1) maxNew)).bind fun _ =>
      some (.inr (s,by_,IntKind.i64.wrap (i + 1),i,out ++ ([s.extract from_.toNat i.toNat]:List ByteArray),())))
      (some (.inl (s,by_,from_,i,IntKind.i64.wrap (k + 1),out,()))))
    (some (.inr (s,by_,from_,i,out,())))
noncomputable def L_spec_SplitAny_1 (s:ByteArray) (by_:ByteArray) (from_:Int) (i:Int) (k:Int) (out:List ByteArray):Option (ByteArray × ByteArray × Int × Int × (List ByteArray) × Unit):=whileO S_spec_SplitAny_1 (s,by_,from_,i,k,out,())
noncomputable def S_spec_SplitAny_0:ByteArray × ByteArray × Int × Int × (List ByteArray) × Unit → Option ((ByteArray × ByteArray × Int × Int × (List ByteArray) × Unit) ⊕ (ByteArray × Int × (List ByteArray) × Unit)):=fun (s,by_,from_,i,out,_) =>
  cond (decide (i < (s.size:Int)))
    ((L_spec_SplitAny_1 s by_ from_ i 0 out).bind fun (s1,by_1,from_1,i1,out1,_) =>
    some (.inl (s1,by_1,from_1,IntKind.i64.wrap (i1 + 1),out1,())))
    (some (.inr (s,from_,out,())))
noncomputable def L_spec_SplitAny_0 (s:ByteArray) (by_:ByteArray) (from_:Int) (i:Int) (out:List ByteArray):Option (ByteArray × Int × (List ByteArray) × Unit):=whileO S_spec_SplitAny_0 (s,by_,from_,i,out,())
noncomputable def M_spec_SplitAny (s:ByteArray) (by_:ByteArray):Option (List ByteArray) :=
  (L_spec_SplitAny_0 s by_ 0 0 ([]:List ByteArray)).bind fun (s1,from_,out,_) =>
  (guardO (inside s1.size (from_,(s1.size:Int)))).bind fun _ =>
  (guardO (Nat.ble (out.length + 1) maxNew)).bind fun _ =>
  some (out ++ ([s1.extract from_.toNat ((s1.size:Int).toNat)]:List ByteArray))
noncomputable def M_spec_SplitLines (s:ByteArray):Option (List ByteArray) :=
  (M_spec_SplitAny s (⟨#[10]⟩:ByteArray)).bind fun r =>
  (idx r (IntKind.i64.wrap ((r.length:Int) - 1))).bind fun _ =>
  (r[(IntKind.i64.wrap ((r.length:Int) - 1)).toNat]?).bind fun e =>
  cond (strEq e (⟨#[]⟩:ByteArray))
    ((guardO (inside r.length (0,IntKind.i64.wrap ((r.length:Int) - 1)))).bind fun _ =>
    some (r.take ((IntKind.i64.wrap ((r.length:Int) - 1)).toNat)))
    (some r)
end Go.Di
namespace Go.Di
noncomputable def S_impl_NatOf_0:Int × (List Int) × Unit → Option ((Int × (List Int) × Unit) ⊕ ((List Int) × Unit)):=fun (n,out,_) =>
  cond (decide (n > 0))
    ((guardO (Nat.ble (out.length + 1) maxNew)).bind fun _ =>
    some (.inl (IntKind.i64.wrap (n.tdiv 1000000000),out ++ ([n.tmod 1000000000]:List Int),())))
    (some (.inr (out,())))
noncomputable def L_impl_NatOf_0 (n:Int) (out:List Int):Option ((List Int) × Unit):=whileO S_impl_NatOf_0 (n,out,())
noncomputable def M_impl_NatOf (n:Int):Option (List Int) :=
  (L_impl_NatOf_0 n ([]:List Int)).bind fun (out,_) =>
  some out
noncomputable def S_impl_NatOk_0:(List Int) × Int × Int × Unit → Option (((List Int) × Int × Int × Unit) ⊕ ((Bool × Unit) ⊕ (Unit))):=fun (t,t1,t2,_) =>
  cond (decide (t2 < t1))
    ((idx t t2).bind fun e =>
    cond (decide (e < 0))
      (some (.inr (.inl (false,()))))
      (cond (decide (e ≥ 1000000000))
        (some (.inr (.inl (false,()))))
        (some (.inl (t,t1,IntKind.i64.wrap (t2 + 1),())))))
    (some (.inr (.inr (()))))
noncomputable def L_impl_NatOk_0 (t:List Int) (t1:Int) (t2:Int):Option ((Bool × Unit) ⊕ (Unit)):=whileO S_impl_NatOk_0 (t,t1,t2,())
noncomputable def M_impl_NatOk (a:List Int):Option Bool :=
  cond (decide ((a.length:Int) > 60))
    (some false)
    (cond (decide ((a.length:Int) > 0))
      ((idx a (IntKind.i64.wrap ((a.length:Int) - 1))).bind fun e =>
      cond (e == 0)
        (some false)
        ((L_impl_NatOk_0 a (a.length:Int) 0).bind fun r =>
        match r with
        | .inl (t,_) =>
          some t
        | .inr _ =>
          some true))
      ((L_impl_NatOk_0 a (a.length:Int) 0).bind fun r =>
      match r with
      | .inl (t,_) =>
        some t
      | .inr _ =>
        some true))
noncomputable def S_impl_trim_c_0:Int × (List Int) × Unit → Option ((Int × (List Int) × Unit) ⊕ (Int × (List Int) × Unit)):=fun (n,a,_) =>
  cond (decide (n > 0))
    ((idx a (IntKind.i64.wrap (n - 1))).bind fun _ =>
    (a[(IntKind.i64.wrap (n - 1)).toNat]?).bind fun e =>
    cond (e == 0)
      (some (.inl (IntKind.i64.wrap (n - 1),a,())))
      (some (.inr (n,a,()))))
    (some (.inr (n,a,())))
noncomputable def L_impl_trim_c_0 (n:Int) (a:List Int):Option (Int × (List Int) × Unit):=whileO S_impl_trim_c_0 (n,a,())
noncomputable def M_impl_trim_c (a:List Int):Option (List Int) :=
  (L_impl_trim_c_0 (a.length:Int) a).bind fun (n,a1,_) =>
  (guardO (inside a1.length (0,n))).bind fun _ =>
  some (a1.take n.toNat)
noncomputable def S_impl_ParseNat_0:ByteArray × Int × (List Int) × Unit → Option ((ByteArray × Int × (List Int) × Unit) ⊕ ((List Int) × Unit)):=fun (s,end_,out,_) =>
  cond (decide (end_ > 0))
    ((guardO (inside s.size (cond (decide (0 > (IntKind.i64.wrap (end_ - 9)))) 0 (IntKind.i64.wrap (end_ - 9)),end_))).bind fun _ =>
    (M_strconv_Atoi (s.extract ((cond (decide (0 > (IntKind.i64.wrap (end_ - 9)))) 0 (IntKind.i64.wrap (end_ - 9))).toNat) end_.toNat)).bind fun r0 =>
    (guardO (Nat.ble (out.length + 1) maxNew)).bind fun _ =>
    some (.inl (s,IntKind.i64.wrap (end_ - 9),out ++ ([r0]:List Int),())))
    (some (.inr (out,())))
noncomputable def L_impl_ParseNat_0 (s:ByteArray) (end_:Int) (out:List Int):Option ((List Int) × Unit):=whileO S_impl_ParseNat_0 (s,end_,out,())
noncomputable def M_impl_ParseNat (s:ByteArray):Option (List Int × Bool) :=
  (M_impl_IsDigits s).bind fun r =>
  cond (!r)
    (some (([]:List Int),false))
    (cond (decide ((s.size:Int) > 540))
      (some (([]:List Int),false))
      (cond (decide ((s.size:Int) > 1))
        ((strAt s 0).bind fun b =>
        cond (b == 48)
          (some (([]:List Int),false))
          ((L_impl_ParseNat_0 s (s.size:Int) ([]:List Int)).bind fun (out,_) =>
          (M_impl_trim_c out).bind fun r1 =>
          some (r1,true)))
        ((L_impl_ParseNat_0 s (s.size:Int) ([]:List Int)).bind fun (out,_) =>
        (M_impl_trim_c out).bind fun r1 =>
        some (r1,true))))
noncomputable def S_impl_divSmall_0:(List Int) × Int × Int × Int × (List Int) × Unit → Option (((List Int) × Int × Int × Int × (List Int) × Unit) ⊕ (Int × (List Int) × Unit)):=fun (a,d,rest,i,out,_) =>
  cond (decide (i ≥ 0))
    ((idx a i).bind fun e =>
    (guardO (d != 0)).bind fun _ =>
    (idx out i).bind fun _ =>
    (guardO (d != 0)).bind fun _ =>
    some (.inl (a,d,(IntKind.i64.wrap ((IntKind.i64.wrap (rest * 1000000000)) + e)).tmod d,IntKind.i64.wrap (i - 1),out.set i.toNat (IntKind.i64.wrap ((IntKind.i64.wrap ((IntKind.i64.wrap (rest * 1000000000)) + e)).tdiv d)),())))
    (some (.inr (rest,out,())))
noncomputable def L_impl_divSmall_0 (a:List Int) (d:Int) (rest:Int) (i:Int) (out:List Int):Option (Int × (List Int) × Unit):=whileO S_impl_divSmall_0 (a,d,rest,i,out,())
noncomputable def M_impl_divSmall (a:List Int) (d:Int):Option (List Int × List Int) :=
  (guardO (((decide (0 ≤ (a.length:Int))) && (decide ((a.length:Int) ≤ (a.length:Int)))) && (decide ((a.length:Int) ≤ (maxNew:Int))))).bind fun _ =>
  (L_impl_divSmall_0 a d 0 (IntKind.i64.wrap ((a.length:Int) - 1)) (List.replicate ((a.length:Int).toNat) 0:List Int)).bind fun (rest,out,_) =>
  (M_impl_trim_c out).bind fun r =>
  (M_impl_NatOf rest).bind fun r1 =>
  some (r,r1)
noncomputable def S_impl_formatNat_0:(List Int) × ByteArray × Int × Unit → Option (((List Int) × ByteArray × Int × Unit) ⊕ (ByteArray × Unit)):=fun (a,s,i,_) =>
  cond (decide (i ≥ 0))
    ((idx a i).bind fun e =>
    (M_strconv_Itoa e).bind fun r =>
    (M_impl_PadZeros r 9).bind fun r1 =>
    (guardO (Nat.ble (s.size + r1.size) 4611686018427387904)).bind fun _ =>
    some (.inl (a,s ++ r1,IntKind.i64.wrap (i - 1),())))
    (some (.inr (s,())))
noncomputable def L_impl_formatNat_0 (a:List Int) (s:ByteArray) (i:Int):Option (ByteArray × Unit):=whileO S_impl_formatNat_0 (a,s,i,())
noncomputable def M_impl_formatNat (a:List Int):Option ByteArray :=
  cond ((a.length:Int) == 0)
    (some (⟨#[48]⟩:ByteArray))
    ((idx a (IntKind.i64.wrap ((a.length:Int) - 1))).bind fun e =>
    (M_strconv_Itoa e).bind fun r =>
    (L_impl_formatNat_0 a r (IntKind.i64.wrap ((a.length:Int) - 2))).bind fun (s,_) =>
    some s)
noncomputable def S_impl_natAdd_0:(List Int) × (List Int) × Int × Int × Int × (List Int) × Unit → Option (((List Int) × (List Int) × Int × Int × Int × (List Int) × Unit) ⊕ (Int × (List Int) × Unit)):=fun (a,b,carry,t,t1,out,_) =>
  cond (decide (t1 < t))
    ((idx a t1).bind fun e =>
    cond (decide (t1 < (b.length:Int)))
      ((idx b t1).bind fun e1 =>
      cond (decide ((IntKind.i64.wrap ((IntKind.i64.wrap (e + carry)) + e1)) ≥ 1000000000))
        ((guardO (Nat.ble (out.length + 1) maxNew)).bind fun _ =>
        some (.inl (a,b,1,t,IntKind.i64.wrap (t1 + 1),out ++ ([IntKind.i64.wrap ((IntKind.i64.wrap ((IntKind.i64.wrap (e + carry)) + e1)) - 1000000000)]:List Int),())))
        ((guardO (Nat.ble (out.length + 1) maxNew)).bind fun _ =>
        some (.inl (a,b,0,t,IntKind.i64.wrap (t1 + 1),out ++ ([IntKind.i64.wrap ((IntKind.i64.wrap (e + carry)) + e1)]:List Int),()))))
      (cond (decide ((IntKind.i64.wrap (e + carry)) ≥ 1000000000))
        ((guardO (Nat.ble (out.length + 1) maxNew)).bind fun _ =>
        some (.inl (a,b,1,t,IntKind.i64.wrap (t1 + 1),out ++ ([IntKind.i64.wrap ((IntKind.i64.wrap (e + carry)) - 1000000000)]:List Int),())))
        ((guardO (Nat.ble (out.length + 1) maxNew)).bind fun _ =>
        some (.inl (a,b,0,t,IntKind.i64.wrap (t1 + 1),out ++ ([IntKind.i64.wrap (e + carry)]:List Int),())))))
    (some (.inr (carry,out,())))
noncomputable def L_impl_natAdd_0 (a:List Int) (b:List Int) (carry:Int) (t:Int) (t1:Int) (out:List Int):Option (Int × (List Int) × Unit):=whileO S_impl_natAdd_0 (a,b,carry,t,t1,out,())
noncomputable def M_impl_natAdd (a:List Int) (b:List Int):Option (List Int) :=
  cond (decide ((a.length:Int) < (b.length:Int)))
    ((guardO ((decide (0 ≤ (IntKind.i64.wrap ((b.length:Int) + 1)))) && (decide ((IntKind.i64.wrap ((b.length:Int) + 1)) ≤ (maxNew:Int))))).bind fun _ =>
    (L_impl_natAdd_0 b a 0 (b.length:Int) 0 (List.replicate 0 0:List Int)).bind fun (carry,out,_) =>
    cond (decide (carry > 0))
      ((guardO (Nat.ble (out.length + 1) maxNew)).bind fun _ =>
      some (out ++ ([1]:List Int)))
      (some out))
    ((guardO ((decide (0 ≤ (IntKind.i64.wrap ((a.length:Int) + 1)))) && (decide ((IntKind.i64.wrap ((a.length:Int) + 1)) ≤ (maxNew:Int))))).bind fun _ =>
    (L_impl_natAdd_0 a b 0 (a.length:Int) 0 (List.replicate 0 0:List Int)).bind fun (carry,out,_) =>
    cond (decide (carry > 0))
      ((guardO (Nat.ble (out.length + 1) maxNew)).bind fun _ =>
      some (out ++ ([1]:List Int)))
      (some out))
noncomputable def S_impl_natCmp_0:(List Int) × (List Int) × Int × Unit → Option (((List Int) × (List Int) × Int × Unit) ⊕ ((Int × Unit) ⊕ (Unit))):=fun (a,b,i,_) =>
  cond (decide (i ≥ 0))
    ((idx a i).bind fun e =>
    (idx b i).bind fun e1 =>
    cond (decide (e < e1))
      (some (.inr (.inl ((-1),()))))
      ((idx a i).bind fun e2 =>
      (idx b i).bind fun e3 =>
      cond (decide (e2 > e3))
        (some (.inr (.inl (1,()))))
        (some (.inl (a,b,IntKind.i64.wrap (i - 1),())))))
    (some (.inr (.inr (()))))
noncomputable def L_impl_natCmp_0 (a:List Int) (b:List Int) (i:Int):Option ((Int × Unit) ⊕ (Unit)):=whileO S_impl_natCmp_0 (a,b,i,())
noncomputable def M_impl_natCmp (a:List Int) (b:List Int):Option Int :=
  cond ((a.length:Int) != (b.length:Int))
    (cond (decide ((a.length:Int) < (b.length:Int)))
      (some (-1))
      (some 1))
    ((L_impl_natCmp_0 a b (IntKind.i64.wrap ((a.length:Int) - 1))).bind fun r =>
    match r with
    | .inl (t,_) =>
      some t
    | .inr _ =>
      some 0)
noncomputable def S_impl_natMul_1:(List Int) × Int × Int × Int × (List Int) × Int × Int × (List Int) × Int × Int × (List Int) × Unit → Option (((List Int) × Int × Int × Int × (List Int) × Int × Int × (List Int) × Int × Int × (List Int) × Unit) ⊕ ((List Int) × Int × Int × (List Int) × Int × Int × (List Int) × Unit)):=fun (b,i,x,carry,t,t1,t2,t3,t4,t5,out,_) =>
  cond (decide (t5 < t4))
    ((idx t3 t5).bind fun e =>
    (idx out (IntKind.i64.wrap (i + t5))).bind fun _ =>
    (out[(IntKind.i64.wrap (i + t5)).toNat]?).bind fun e1 =>
    (idx out (IntKind.i64.wrap (i + t5))).bind fun _ =>
    some (.inl (b,i,x,IntKind.i64.wrap ((IntKind.i64.wrap ((IntKind.i64.wrap (e1 + (IntKind.i64.wrap (x * e)))) + carry)).tdiv 1000000000),t,t1,t2,t3,t4,IntKind.i64.wrap (t5 + 1),out.set ((IntKind.i64.wrap (i + t5)).toNat) ((IntKind.i64.wrap ((IntKind.i64.wrap (e1 + (IntKind.i64.wrap (x * e)))) + carry)).tmod 1000000000),())))
    (some (.inr (b,i,carry,t,t1,t2,out,())))
noncomputable def L_impl_natMul_1 (b:List Int) (i:Int) (x:Int) (carry:Int) (t:List Int) (t1:Int) (t2:Int) (t3:List Int) (t4:Int) (t5:Int) (out:List Int):Option ((List Int) × Int × Int × (List Int) × Int × Int × (List Int) × Unit):=whileO S_impl_natMul_1 (b,i,x,carry,t,t1,t2,t3,t4,t5,out,())
noncomputable def S_impl_natMul_0:(List Int) × (List Int) × Int × Int × (List Int) × Unit → Option (((List Int) × (List Int) × Int × Int × (List Int) × Unit) ⊕ ((List Int) × Unit)):=fun (b,t,t1,t2,out,_) =>
  cond (decide (t2 < t1))
    ((idx t t2).bind fun e =>
    (L_impl_natMul_1 b t2 e 0 t t1 t2 b (b.length:Int) 0 out).bind fun (b1,i,carry,t3,t4,t5,out1,_) =>
    (idx out1 (IntKind.i64.wrap (i + (b1.length:Int)))).bind fun _ =>
    (out1[(IntKind.i64.wrap (i + (b1.length:Int))).toNat]?).bind fun e1 =>
    (idx out1 (IntKind.i64.wrap (i + (b1.length:Int)))).bind fun _ =>
    some (.inl (b1,t3,t4,IntKind.i64.wrap (t5 + 1),out1.set ((IntKind.i64.wrap (i + (b1.length:Int))).toNat) (IntKind.i64.wrap (e1 + carry)),())))
    (some (.inr (out,())))
noncomputable def L_impl_natMul_0 (b:List Int) (t:List Int) (t1:Int) (t2:Int) (out:List Int):Option ((List Int) × Unit):=whileO S_impl_natMul_0 (b,t,t1,t2,out,())
noncomputable def M_impl_natMul (a:List Int) (b:List Int):Option (List Int) :=
  (guardO (((decide (0 ≤ (IntKind.i64.wrap ((a.length:Int) + (b.length:Int))))) && (decide ((IntKind.i64.wrap ((a.length:Int) + (b.length:Int))) ≤ (IntKind.i64.wrap ((a.length:Int) + (b.length:Int)))))) && (decide ((IntKind.i64.wrap ((a.length:Int) + (b.length:Int))) ≤ (maxNew:Int))))).bind fun _ =>
  (L_impl_natMul_0 b a (a.length:Int) 0 (List.replicate ((IntKind.i64.wrap ((a.length:Int) + (b.length:Int))).toNat) 0:List Int)).bind fun (out,_) =>
  (M_impl_trim_c out).bind fun r =>
  some r
noncomputable def S_impl_natDiv_4:Int × Int × Int × Int × Int × Int × Int × Int × (List Int) × (List Int) × (List Int) × Unit → Option ((Int × Int × Int × Int × Int × Int × Int × Int × (List Int) × (List Int) × (List Int) × Unit) ⊕ (Int × Int × Int × Int × Int × Int × (List Int) × (List Int) × (List Int) × Unit)):=fun (f,n,top,k,q,carry,t,t1,x,y,out,_) =>
  cond (decide (t1 < t))
    ((idx x (IntKind.i64.wrap (k + t1))).bind fun _ =>
    (x[(IntKind.i64.wrap (k + t1)).toNat]?).bind fun e =>
    (idx y t1).bind fun _ =>
    (y[t1.toNat]?).bind fun e1 =>
    cond (decide ((IntKind.i64.wrap ((IntKind.i64.wrap (e + e1)) + carry)) ≥ 1000000000))
      ((idx x (IntKind.i64.wrap (k + t1))).bind fun _ =>
      some (.inl (f,n,top,k,q,1,t,IntKind.i64.wrap (t1 + 1),x.set ((IntKind.i64.wrap (k + t1)).toNat) (IntKind.i64.wrap ((IntKind.i64.wrap ((IntKind.i64.wrap (e + e1)) + carry)) - 1000000000)),y,out,())))
      ((idx x (IntKind.i64.wrap (k + t1))).bind fun _ =>
      some (.inl (f,n,top,k,q,0,t,IntKind.i64.wrap (t1 + 1),x.set ((IntKind.i64.wrap (k + t1)).toNat) (IntKind.i64.wrap ((IntKind.i64.wrap (e + e1)) + carry)),y,out,()))))
    (some (.inr (f,n,top,k,q,carry,x,y,out,())))
noncomputable def L_impl_natDiv_4 (f:Int) (n:Int) (top:Int) (k:Int) (q:Int) (carry:Int) (t:Int) (t1:Int) (x:List Int) (y:List Int) (out:List Int):Option (Int × Int × Int × Int × Int × Int × (List Int) × (List Int) × (List Int) × Unit):=whileO S_impl_natDiv_4 (f,n,top,k,q,carry,t,t1,x,y,out,())
noncomputable def S_impl_natDiv_3:Int × Int × Int × Int × Int × Int × Int × Int × (List Int) × (List Int) × (List Int) × Unit → Option ((Int × Int × Int × Int × Int × Int × Int × Int × (List Int) × (List Int) × (List Int) × Unit) ⊕ (Int × Int × Int × Int × Int × Int × (List Int) × (List Int) × (List Int) × Unit)):=fun (f,n,top,k,q,borrow,t,t1,x,y,out,_) =>
  cond (decide (t1 < t))
    ((idx x (IntKind.i64.wrap (k + t1))).bind fun _ =>
    (x[(IntKind.i64.wrap (k + t1)).toNat]?).bind fun e =>
    (idx y t1).bind fun _ =>
    (y[t1.toNat]?).bind fun e1 =>
    cond (decide ((IntKind.i64.wrap ((IntKind.i64.wrap (e - (IntKind.i64.wrap (q * e1)))) - borrow)) < 0))
      ((idx x (IntKind.i64.wrap (k + t1))).bind fun _ =>
      some (.inl (f,n,top,k,q,IntKind.i64.wrap ((IntKind.i64.wrap (999999999 - (IntKind.i64.wrap ((IntKind.i64.wrap (e - (IntKind.i64.wrap (q * e1)))) - borrow)))).tdiv 1000000000),t,IntKind.i64.wrap (t1 + 1),x.set ((IntKind.i64.wrap (k + t1)).toNat) (IntKind.i64.wrap ((IntKind.i64.wrap ((IntKind.i64.wrap (e - (IntKind.i64.wrap (q * e1)))) - borrow)) + (IntKind.i64.wrap ((IntKind.i64.wrap ((IntKind.i64.wrap (999999999 - (IntKind.i64.wrap ((IntKind.i64.wrap (e - (IntKind.i64.wrap (q * e1)))) - borrow)))).tdiv 1000000000)) * 1000000000)))),y,out,())))
      ((idx x (IntKind.i64.wrap (k + t1))).bind fun _ =>
      some (.inl (f,n,top,k,q,0,t,IntKind.i64.wrap (t1 + 1),x.set ((IntKind.i64.wrap (k + t1)).toNat) (IntKind.i64.wrap ((IntKind.i64.wrap (e - (IntKind.i64.wrap (q * e1)))) - borrow)),y,out,()))))
    (some (.inr (f,n,top,k,q,borrow,x,y,out,())))
noncomputable def L_impl_natDiv_3 (f:Int) (n:Int) (top:Int) (k:Int) (q:Int) (borrow:Int) (t:Int) (t1:Int) (x:List Int) (y:List Int) (out:List Int):Option (Int × Int × Int × Int × Int × Int × (List Int) × (List Int) × (List Int) × Unit):=whileO S_impl_natDiv_3 (f,n,top,k,q,borrow,t,t1,x,y,out,())
noncomputable def S_impl_natDiv_2:Int × Int × Int × Int × Int × Int × (List Int) × (List Int) × (List Int) × Unit → Option ((Int × Int × Int × Int × Int × Int × (List Int) × (List Int) × (List Int) × Unit) ⊕ (Int × Int × Int × Int × Int × (List Int) × (List Int) × (List Int) × Unit)):=fun (f,n,top,k,q,r,x,y,out,_) =>
  cond (decide (q ≥ 1000000000))
    (cond (decide ((IntKind.i64.wrap (r + top)) ≥ 1000000000))
      (some (.inr (f,n,top,k,IntKind.i64.wrap (q - 1),x,y,out,())))
      (some (.inl (f,n,top,k,IntKind.i64.wrap (q - 1),IntKind.i64.wrap (r + top),x,y,out,()))))
    ((idx y (IntKind.i64.wrap (n - 2))).bind fun _ =>
    (y[(IntKind.i64.wrap (n - 2)).toNat]?).bind fun e =>
    (idx x (IntKind.i64.wrap ((IntKind.i64.wrap (k + n)) - 2))).bind fun _ =>
    (x[(IntKind.i64.wrap ((IntKind.i64.wrap (k + n)) - 2)).toNat]?).bind fun e1 =>
    cond (decide ((IntKind.i64.wrap (q * e)) > (IntKind.i64.wrap ((IntKind.i64.wrap (r * 1000000000)) + e1))))
      (cond (decide ((IntKind.i64.wrap (r + top)) ≥ 1000000000))
        (some (.inr (f,n,top,k,IntKind.i64.wrap (q - 1),x,y,out,())))
        (some (.inl (f,n,top,k,IntKind.i64.wrap (q - 1),IntKind.i64.wrap (r + top),x,y,out,()))))
      (some (.inr (f,n,top,k,q,x,y,out,()))))
noncomputable def L_impl_natDiv_2 (f:Int) (n:Int) (top:Int) (k:Int) (q:Int) (r:Int) (x:List Int) (y:List Int) (out:List Int):Option (Int × Int × Int × Int × Int × (List Int) × (List Int) × (List Int) × Unit):=whileO S_impl_natDiv_2 (f,n,top,k,q,r,x,y,out,())
noncomputable def S_impl_natDiv_1:Int × Int × Int × Int × (List Int) × (List Int) × (List Int) × Unit → Option ((Int × Int × Int × Int × (List Int) × (List Int) × (List Int) × Unit) ⊕ (Int × (List Int) × (List Int) × Unit)):=fun (f,n,top,k,x,y,out,_) =>
  cond (decide (k ≥ 0))
    ((idx x (IntKind.i64.wrap (k + n))).bind fun _ =>
    (x[(IntKind.i64.wrap (k + n)).toNat]?).bind fun e =>
    (idx x (IntKind.i64.wrap ((IntKind.i64.wrap (k + n)) - 1))).bind fun _ =>
    (x[(IntKind.i64.wrap ((IntKind.i64.wrap (k + n)) - 1)).toNat]?).bind fun e1 =>
    (guardO (top != 0)).bind fun _ =>
    (guardO (top != 0)).bind fun _ =>
    (L_impl_natDiv_2 f n top k (IntKind.i64.wrap ((IntKind.i64.wrap ((IntKind.i64.wrap (e * 1000000000)) + e1)).tdiv top)) ((IntKind.i64.wrap ((IntKind.i64.wrap (e * 1000000000)) + e1)).tmod top) x y out).bind fun (f1,n1,top1,k1,q,x1,y1,out1,_) =>
    (L_impl_natDiv_3 f1 n1 top1 k1 q 0 n1 0 x1 y1 out1).bind fun (f2,n2,top2,k2,q1,borrow,x2,y2,out2,_) =>
    (idx x2 (IntKind.i64.wrap (k2 + n2))).bind fun _ =>
    (x2[(IntKind.i64.wrap (k2 + n2)).toNat]?).bind fun e2 =>
    (idx x2 (IntKind.i64.wrap (k2 + n2))).bind fun _ =>
    (idx (x2.set ((IntKind.i64.wrap (k2 + n2)).toNat) (IntKind.i64.wrap (e2 - borrow))) (IntKind.i64.wrap (k2 + n2))).bind fun _ =>
    ((x2.set ((IntKind.i64.wrap (k2 + n2)).toNat) (IntKind.i64.wrap (e2 - borrow)))[(IntKind.i64.wrap (k2 + n2)).toNat]?).bind fun e3 =>
    cond (decide (e3 < 0))
      ((L_impl_natDiv_4 f2 n2 top2 k2 (IntKind.i64.wrap (q1 - 1)) 0 n2 0 (x2.set ((IntKind.i64.wrap (k2 + n2)).toNat) (IntKind.i64.wrap (e2 - borrow))) y2 out2).bind fun (f3,n3,top3,k3,q2,carry,x3,y3,out3,_) =>
      (idx x3 (IntKind.i64.wrap (k3 + n3))).bind fun _ =>
      (x3[(IntKind.i64.wrap (k3 + n3)).toNat]?).bind fun e4 =>
      (idx x3 (IntKind.i64.wrap (k3 + n3))).bind fun _ =>
      (idx out3 k3).bind fun _ =>
      some (.inl (f3,n3,top3,IntKind.i64.wrap (k3 - 1),x3.set ((IntKind.i64.wrap (k3 + n3)).toNat) (IntKind.i64.wrap (e4 + carry)),y3,out3.set k3.toNat q2,())))
      ((idx out2 k2).bind fun _ =>
      some (.inl (f2,n2,top2,IntKind.i64.wrap (k2 - 1),x2.set ((IntKind.i64.wrap (k2 + n2)).toNat) (IntKind.i64.wrap (e2 - borrow)),y2,out2.set k2.toNat q1,()))))
    (some (.inr (f,x,out,())))
noncomputable def L_impl_natDiv_1 (f:Int) (n:Int) (top:Int) (k:Int) (x:List Int) (y:List Int) (out:List Int):Option (Int × (List Int) × (List Int) × Unit):=whileO S_impl_natDiv_1 (f,n,top,k,x,y,out,())
noncomputable def S_impl_natDiv_0:(List Int) × Int × Int × (List Int) × (List Int) × Unit → Option (((List Int) × Int × Int × (List Int) × (List Int) × Unit) ⊕ (Int × Int × (List Int) × (List Int) × Unit)):=fun (a,f,n,x,y,_) =>
  cond (decide ((x.length:Int) ≤ (a.length:Int)))
    ((guardO (Nat.ble (x.length + 1) maxNew)).bind fun _ =>
    some (.inl (a,f,n,x ++ ([0]:List Int),y,())))
    (some (.inr (f,n,x,y,())))
noncomputable def L_impl_natDiv_0 (a:List Int) (f:Int) (n:Int) (x:List Int) (y:List Int):Option (Int × Int × (List Int) × (List Int) × Unit):=whileO S_impl_natDiv_0 (a,f,n,x,y,())
noncomputable def M_impl_natDiv (a:List Int) (b:List Int):Option (List Int × List Int) :=
  (M_impl_natCmp a b).bind fun r =>
  cond (decide (r < 0))
    ((M_impl_copyInts a).bind fun r1 =>
    some (([]:List Int),r1))
    (cond ((b.length:Int) == 1)
      ((idx b 0).bind fun e =>
      (M_impl_divSmall a e).bind fun (r0,r1) =>
      some (r0,r1))
      ((idx b (IntKind.i64.wrap ((b.length:Int) - 1))).bind fun e =>
      (guardO ((IntKind.i64.wrap (e + 1)) != 0)).bind fun _ =>
      (M_impl_natMul a ([IntKind.i64.wrap ((1000000000:Int).tdiv (IntKind.i64.wrap (e + 1)))]:List Int)).bind fun r1 =>
      (M_impl_natMul b ([IntKind.i64.wrap ((1000000000:Int).tdiv (IntKind.i64.wrap (e + 1)))]:List Int)).bind fun r2 =>
      (L_impl_natDiv_0 a (IntKind.i64.wrap ((1000000000:Int).tdiv (IntKind.i64.wrap (e + 1)))) (r2.length:Int) r1 r2).bind fun (f,n,x,y,_) =>
      (guardO (((decide (0 ≤ (IntKind.i64.wrap ((x.length:Int) - n)))) && (decide ((IntKind.i64.wrap ((x.length:Int) - n)) ≤ (IntKind.i64.wrap ((x.length:Int) - n))))) && (decide ((IntKind.i64.wrap ((x.length:Int) - n)) ≤ (maxNew:Int))))).bind fun _ =>
      (idx y (IntKind.i64.wrap (n - 1))).bind fun _ =>
      (y[(IntKind.i64.wrap (n - 1)).toNat]?).bind fun e1 =>
      (L_impl_natDiv_1 f n e1 (IntKind.i64.wrap ((IntKind.i64.wrap ((x.length:Int) - n)) - 1)) x y (List.replicate ((IntKind.i64.wrap ((x.length:Int) - n)).toNat) 0:List Int)).bind fun (f1,x1,out,_) =>
      (M_impl_trim_c x1).bind fun r3 =>
      (M_impl_divSmall r3 f1).bind fun (r0,_) =>
      (M_impl_trim_c out).bind fun r4 =>
      some (r4,r0)))
noncomputable def S_impl_natGcd_1:Int × Int × Unit → Option ((Int × Int × Unit) ⊕ (Int × Unit)):=fun (x,y,_) =>
  cond (y != 0)
    ((guardO (y != 0)).bind fun _ =>
    some (.inl (y,x.tmod y,())))
    (some (.inr (x,())))
noncomputable def L_impl_natGcd_1 (x:Int) (y:Int):Option (Int × Unit):=whileO S_impl_natGcd_1 (x,y,())
noncomputable def S_impl_natGcd_0:(List Int) × (List Int) × Unit → Option (((List Int) × (List Int) × Unit) ⊕ ((List Int) × (List Int) × Unit)):=fun (a,b,_) =>
  cond (decide ((b.length:Int) > 1))
    ((M_impl_natDiv a b).bind fun (_,r1) =>
    some (.inl (b,r1,())))
    (cond (decide ((a.length:Int) > 1))
      (cond (decide ((b.length:Int) > 0))
        ((M_impl_natDiv a b).bind fun (_,r1) =>
        some (.inl (b,r1,())))
        (some (.inr (a,b,()))))
      (some (.inr (a,b,()))))
noncomputable def L_impl_natGcd_0 (a:List Int) (b:List Int):Option ((List Int) × (List Int) × Unit):=whileO S_impl_natGcd_0 (a,b,())
noncomputable def M_impl_natGcd (a:List Int) (b:List Int):Option (List Int) :=
  (L_impl_natGcd_0 a b).bind fun (a1,b1,_) =>
  cond ((b1.length:Int) == 0)
    ((M_impl_copyInts a1).bind fun r =>
    some r)
    ((idx a1 0).bind fun e =>
    (idx b1 0).bind fun e1 =>
    (L_impl_natGcd_1 e e1).bind fun (x,_) =>
    some ([x]:List Int))
noncomputable def S_spec_NatOk_0:(List Int) × (List Int) × Int × Int × Unit → Option (((List Int) × (List Int) × Int × Int × Unit) ⊕ ((Bool × Unit) ⊕ ((List Int) × Unit))):=fun (a,t,t1,t2,_) =>
  cond (decide (t2 < t1))
    ((idx t t2).bind fun e =>
    (M_spec_l01In e 0 999999999).bind fun r =>
    cond (!r)
      (some (.inr (.inl (false,()))))
      (some (.inl (a,t,t1,IntKind.i64.wrap (t2 + 1),()))))
    (some (.inr (.inr (a,()))))
noncomputable def L_spec_NatOk_0 (a:List Int) (t:List Int) (t1:Int) (t2:Int):Option ((Bool × Unit) ⊕ ((List Int) × Unit)):=whileO S_spec_NatOk_0 (a,t,t1,t2,())
noncomputable def M_spec_NatOk (a:List Int):Option Bool :=
  (L_spec_NatOk_0 a a (a.length:Int) 0).bind fun r =>
  match r with
  | .inl (t,_) =>
    some t
  | .inr (a1,_) =>
    cond (decide ((a1.length:Int) ≤ 60))
      (cond ((a1.length:Int) == 0)
        (some true)
        ((idx a1 (IntKind.i64.wrap ((a1.length:Int) - 1))).bind fun e =>
        some (e != 0)))
      (some false)
noncomputable def S_spec_FormatNat_0:(List Int) × ByteArray × Int × Unit → Option (((List Int) × ByteArray × Int × Unit) ⊕ (ByteArray × Unit)):=fun (a,s,i,_) =>
  cond (decide (i ≥ 0))
    ((idx a i).bind fun e =>
    (M_spec_FormatInt e).bind fun r =>
    (M_spec_PadZeros r 9).bind fun r1 =>
    (guardO (Nat.ble (s.size + r1.size) 4611686018427387904)).bind fun _ =>
    some (.inl (a,s ++ r1,IntKind.i64.wrap (i - 1),())))
    (some (.inr (s,())))
noncomputable def L_spec_FormatNat_0 (a:List Int) (s:ByteArray) (i:Int):Option (ByteArray × Unit):=whileO S_spec_FormatNat_0 (a,s,i,())
noncomputable def M_spec_FormatNat (a:List Int):Option ByteArray :=
  (M_spec_NatOk a).bind fun r =>
  cond (!r)
    (some (⟨#[]⟩:ByteArray))
    (cond ((a.length:Int) == 0)
      (some (⟨#[48]⟩:ByteArray))
      ((idx a (IntKind.i64.wrap ((a.length:Int) - 1))).bind fun e =>
      (M_spec_FormatInt e).bind fun r1 =>
      (L_spec_FormatNat_0 a r1 (IntKind.i64.wrap ((a.length:Int) - 2))).bind fun (s,_) =>
      some s))
noncomputable def S_spec_NatOf_0:Int × (List Int) × Unit → Option ((Int × (List Int) × Unit) ⊕ ((List Int) × Unit)):=fun (n,out,_) =>
  cond (decide (n > 0))
    ((guardO (Nat.ble (out.length + 1) maxNew)).bind fun _ =>
    some (.inl (IntKind.i64.wrap (n.tdiv 1000000000),out ++ ([n.tmod 1000000000]:List Int),())))
    (some (.inr (out,())))
noncomputable def L_spec_NatOf_0 (n:Int) (out:List Int):Option ((List Int) × Unit):=whileO S_spec_NatOf_0 (n,out,())
noncomputable def M_spec_NatOf (n:Int):Option (List Int) :=
  (L_spec_NatOf_0 n ([]:List Int)).bind fun (out,_) =>
  some out
noncomputable def S_spec_l02Cmp_0:(List Int) × (List Int) × Int × Unit → Option (((List Int) × (List Int) × Int × Unit) ⊕ ((Int × Unit) ⊕ (Unit))):=fun (a,b,i,_) =>
  cond (decide (i ≥ 0))
    ((idx a i).bind fun e =>
    (idx b i).bind fun e1 =>
    cond (decide (e < e1))
      (some (.inr (.inl ((-1),()))))
      ((idx a i).bind fun e2 =>
      (idx b i).bind fun e3 =>
      cond (decide (e2 > e3))
        (some (.inr (.inl (1,()))))
        (some (.inl (a,b,IntKind.i64.wrap (i - 1),())))))
    (some (.inr (.inr (()))))
noncomputable def L_spec_l02Cmp_0 (a:List Int) (b:List Int) (i:Int):Option ((Int × Unit) ⊕ (Unit)):=whileO S_spec_l02Cmp_0 (a,b,i,())
noncomputable def M_spec_l02Cmp (a:List Int) (b:List Int):Option Int :=
  cond ((a.length:Int) != (b.length:Int))
    (cond (decide ((a.length:Int) < (b.length:Int)))
      (some (-1))
      (some 1))
    ((L_spec_l02Cmp_0 a b (IntKind.i64.wrap ((a.length:Int) - 1))).bind fun r =>
    match r with
    | .inl (t,_) =>
      some t
    | .inr _ =>
      some 0)
noncomputable def S_spec_NatToInt_0:(List Int) × Int × Int × Unit → Option (((List Int) × Int × Int × Unit) ⊕ (Int × Unit)):=fun (a,n,i,_) =>
  cond (decide (i ≥ 0))
    ((idx a i).bind fun e =>
    some (.inl (a,IntKind.i64.wrap ((IntKind.i64.wrap (n * 1000000000)) + e),IntKind.i64.wrap (i - 1),())))
    (some (.inr (n,())))
noncomputable def L_spec_NatToInt_0 (a:List Int) (n:Int) (i:Int):Option (Int × Unit):=whileO S_spec_NatToInt_0 (a,n,i,())
noncomputable def M_spec_NatToInt (a:List Int):Option (Int × Bool) :=
  (M_spec_NatOk a).bind fun r =>
  cond (!r)
    (some (0,false))
    ((M_spec_l02Cmp a ([854775807,223372036,9]:List Int)).bind fun r1 =>
    cond (decide (r1 > 0))
      (some (0,false))
      ((L_spec_NatToInt_0 a 0 (IntKind.i64.wrap ((a.length:Int) - 1))).bind fun (n,_) =>
      some (n,true)))
noncomputable def S_spec_l02Trim_c_0:Int × (List Int) × Unit → Option ((Int × (List Int) × Unit) ⊕ (Int × (List Int) × Unit)):=fun (n,a,_) =>
  cond (decide (n > 0))
    ((idx a (IntKind.i64.wrap (n - 1))).bind fun _ =>
    (a[(IntKind.i64.wrap (n - 1)).toNat]?).bind fun e =>
    cond (e == 0)
      (some (.inl (IntKind.i64.wrap (n - 1),a,())))
      (some (.inr (n,a,()))))
    (some (.inr (n,a,())))
noncomputable def L_spec_l02Trim_c_0 (n:Int) (a:List Int):Option (Int × (List Int) × Unit):=whileO S_spec_l02Trim_c_0 (n,a,())
noncomputable def M_spec_l02Trim_c (a:List Int):Option (List Int) :=
  (L_spec_l02Trim_c_0 (a.length:Int) a).bind fun (n,a1,_) =>
  (guardO (inside a1.length (0,n))).bind fun _ =>
  some (a1.take n.toNat)
noncomputable def S_spec_ParseNat_1:ByteArray × Int × Int × Int × (List Int) × Unit → Option ((ByteArray × Int × Int × Int × (List Int) × Unit) ⊕ (ByteArray × Int × Int × (List Int) × Unit)):=fun (s,end_,n,i,out,_) =>
  cond (decide (i < end_))
    ((strAt s i).bind fun b =>
    some (.inl (s,end_,IntKind.i64.wrap ((IntKind.i64.wrap ((IntKind.i64.wrap (n * 10)) + (IntKind.i64.wrap b))) - 48),IntKind.i64.wrap (i + 1),out,())))
    (some (.inr (s,end_,n,out,())))
noncomputable def L_spec_ParseNat_1 (s:ByteArray) (end_:Int) (n:Int) (i:Int) (out:List Int):Option (ByteArray × Int × Int × (List Int) × Unit):=whileO S_spec_ParseNat_1 (s,end_,n,i,out,())
noncomputable def S_spec_ParseNat_0:ByteArray × Int × (List Int) × Unit → Option ((ByteArray × Int × (List Int) × Unit) ⊕ ((List Int) × Unit)):=fun (s,end_,out,_) =>
  cond (decide (end_ > 0))
    (cond (decide ((IntKind.i64.wrap (end_ - 9)) < 0))
      ((L_spec_ParseNat_1 s end_ 0 0 out).bind fun (s1,end_1,n,out1,_) =>
      (guardO (Nat.ble (out1.length + 1) maxNew)).bind fun _ =>
      some (.inl (s1,IntKind.i64.wrap (end_1 - 9),out1 ++ ([n]:List Int),())))
      ((L_spec_ParseNat_1 s end_ 0 (IntKind.i64.wrap (end_ - 9)) out).bind fun (s1,end_1,n,out1,_) =>
      (guardO (Nat.ble (out1.length + 1) maxNew)).bind fun _ =>
      some (.inl (s1,IntKind.i64.wrap (end_1 - 9),out1 ++ ([n]:List Int),()))))
    (some (.inr (out,())))
noncomputable def L_spec_ParseNat_0 (s:ByteArray) (end_:Int) (out:List Int):Option ((List Int) × Unit):=whileO S_spec_ParseNat_0 (s,end_,out,())
noncomputable def M_spec_ParseNat (s:ByteArray):Option (List Int × Bool) :=
  (M_spec_IsDigits s).bind fun r =>
  cond (!r)
    (some (([]:List Int),false))
    (cond (decide ((s.size:Int) > 540))
      (some (([]:List Int),false))
      (cond (decide ((s.size:Int) > 1))
        ((strAt s 0).bind fun b =>
        cond (b == 48)
          (some (([]:List Int),false))
          ((L_spec_ParseNat_0 s (s.size:Int) ([]:List Int)).bind fun (out,_) =>
          (M_spec_l02Trim_c out).bind fun r1 =>
          some (r1,true)))
        ((L_spec_ParseNat_0 s (s.size:Int) ([]:List Int)).bind fun (out,_) =>
        (M_spec_l02Trim_c out).bind fun r1 =>
        some (r1,true))))
noncomputable def S_spec_l02Trim_0:(List Int) × Int × Unit → Option (((List Int) × Int × Unit) ⊕ ((List Int) × Int × Unit)):=fun (a,n,_) =>
  cond (decide (n > 0))
    ((idx a (IntKind.i64.wrap (n - 1))).bind fun e =>
    cond (e == 0)
      (some (.inl (a,IntKind.i64.wrap (n - 1),())))
      (some (.inr (a,n,()))))
    (some (.inr (a,n,())))
noncomputable def L_spec_l02Trim_0 (a:List Int) (n:Int):Option ((List Int) × Int × Unit):=whileO S_spec_l02Trim_0 (a,n,())
noncomputable def M_spec_l02Trim (a:List Int):Option (List Int) :=
  (L_spec_l02Trim_0 a (a.length:Int)).bind fun (a1,n,_) =>
  (guardO (inside a1.length (0,n))).bind fun _ =>
  some (cut a1 0 n.toNat)
noncomputable def M_spec_l02Cap (a:List Int):Option (List Int) :=
  (M_spec_l02Trim a).bind fun r =>
  cond (decide ((r.length:Int) > 60))
    (some ([]:List Int))
    (some r)
noncomputable def S_spec_l02Mul_1:(List Int) × Int × Int × Int × (List Int) × Int × Int × (List Int) × Int × Int × (List Int) × Unit → Option (((List Int) × Int × Int × Int × (List Int) × Int × Int × (List Int) × Int × Int × (List Int) × Unit) ⊕ ((List Int) × Int × Int × (List Int) × Int × Int × (List Int) × Unit)):=fun (b,i,x,carry,t,t1,t2,t3,t4,t5,out,_) =>
  cond (decide (t5 < t4))
    ((idx t3 t5).bind fun e =>
    (idx out (IntKind.i64.wrap (i + t5))).bind fun _ =>
    (out[(IntKind.i64.wrap (i + t5)).toNat]?).bind fun e1 =>
    (idx out (IntKind.i64.wrap (i + t5))).bind fun _ =>
    some (.inl (b,i,x,IntKind.i64.wrap ((IntKind.i64.wrap ((IntKind.i64.wrap (e1 + (IntKind.i64.wrap (x * e)))) + carry)).tdiv 1000000000),t,t1,t2,t3,t4,IntKind.i64.wrap (t5 + 1),out.set ((IntKind.i64.wrap (i + t5)).toNat) ((IntKind.i64.wrap ((IntKind.i64.wrap (e1 + (IntKind.i64.wrap (x * e)))) + carry)).tmod 1000000000),())))
    (some (.inr (b,i,carry,t,t1,t2,out,())))
noncomputable def L_spec_l02Mul_1 (b:List Int) (i:Int) (x:Int) (carry:Int) (t:List Int) (t1:Int) (t2:Int) (t3:List Int) (t4:Int) (t5:Int) (out:List Int):Option ((List Int) × Int × Int × (List Int) × Int × Int × (List Int) × Unit):=whileO S_spec_l02Mul_1 (b,i,x,carry,t,t1,t2,t3,t4,t5,out,())
noncomputable def S_spec_l02Mul_0:(List Int) × (List Int) × Int × Int × (List Int) × Unit → Option (((List Int) × (List Int) × Int × Int × (List Int) × Unit) ⊕ ((List Int) × Unit)):=fun (b,t,t1,t2,out,_) =>
  cond (decide (t2 < t1))
    ((idx t t2).bind fun e =>
    (L_spec_l02Mul_1 b t2 e 0 t t1 t2 b (b.length:Int) 0 out).bind fun (b1,i,carry,t3,t4,t5,out1,_) =>
    (idx out1 (IntKind.i64.wrap (i + (b1.length:Int)))).bind fun _ =>
    some (.inl (b1,t3,t4,IntKind.i64.wrap (t5 + 1),out1.set ((IntKind.i64.wrap (i + (b1.length:Int))).toNat) carry,())))
    (some (.inr (out,())))
noncomputable def L_spec_l02Mul_0 (b:List Int) (t:List Int) (t1:Int) (t2:Int) (out:List Int):Option ((List Int) × Unit):=whileO S_spec_l02Mul_0 (b,t,t1,t2,out,())
noncomputable def M_spec_l02Mul (a:List Int) (b:List Int):Option (List Int) :=
  cond ((a.length:Int) == 0)
    (some ([]:List Int))
    (cond ((b.length:Int) == 0)
      (some ([]:List Int))
      ((guardO (((decide (0 ≤ (IntKind.i64.wrap ((a.length:Int) + (b.length:Int))))) && (decide ((IntKind.i64.wrap ((a.length:Int) + (b.length:Int))) ≤ (IntKind.i64.wrap ((a.length:Int) + (b.length:Int)))))) && (decide ((IntKind.i64.wrap ((a.length:Int) + (b.length:Int))) ≤ (maxNew:Int))))).bind fun _ =>
      (L_spec_l02Mul_0 b a (a.length:Int) 0 (List.replicate ((IntKind.i64.wrap ((a.length:Int) + (b.length:Int))).toNat) 0:List Int)).bind fun (out,_) =>
      (M_spec_l02Trim_c out).bind fun r =>
      some r))
noncomputable def S_spec_l02Digit_0:(List Int) × (List Int) × Int × Int × Unit → Option (((List Int) × (List Int) × Int × Int × Unit) ⊕ (Int × Unit)):=fun (r,b,lo,hi,_) =>
  cond (decide (lo < hi))
    ((M_spec_NatOf (IntKind.i64.wrap ((IntKind.i64.wrap ((IntKind.i64.wrap (lo + hi)) + 1)).tdiv 2))).bind fun r1 =>
    (M_spec_l02Mul b r1).bind fun r2 =>
    (M_spec_l02Cmp r2 r).bind fun r3 =>
    cond (decide (r3 ≤ 0))
      (some (.inl (r,b,IntKind.i64.wrap ((IntKind.i64.wrap ((IntKind.i64.wrap (lo + hi)) + 1)).tdiv 2),hi,())))
      (some (.inl (r,b,lo,IntKind.i64.wrap ((IntKind.i64.wrap ((IntKind.i64.wrap ((IntKind.i64.wrap (lo + hi)) + 1)).tdiv 2)) - 1),()))))
    (some (.inr (lo,())))
noncomputable def L_spec_l02Digit_0 (r:List Int) (b:List Int) (lo:Int) (hi:Int):Option (Int × Unit):=whileO S_spec_l02Digit_0 (r,b,lo,hi,())
noncomputable def M_spec_l02Digit (r:List Int) (b:List Int):Option Int :=
  (L_spec_l02Digit_0 r b 0 999999999).bind fun (lo,_) =>
  some lo
noncomputable def S_spec_l02Small_0:(List Int) × Int × Int × Int × (List Int) × Unit → Option (((List Int) × Int × Int × Int × (List Int) × Unit) ⊕ (Int × (List Int) × Unit)):=fun (a,d,rest,i,out,_) =>
  cond (decide (i ≥ 0))
    ((idx a i).bind fun e =>
    (guardO (d != 0)).bind fun _ =>
    (idx out i).bind fun _ =>
    (guardO (d != 0)).bind fun _ =>
    some (.inl (a,d,(IntKind.i64.wrap ((IntKind.i64.wrap (rest * 1000000000)) + e)).tmod d,IntKind.i64.wrap (i - 1),out.set i.toNat (IntKind.i64.wrap ((IntKind.i64.wrap ((IntKind.i64.wrap (rest * 1000000000)) + e)).tdiv d)),())))
    (some (.inr (rest,out,())))
noncomputable def L_spec_l02Small_0 (a:List Int) (d:Int) (rest:Int) (i:Int) (out:List Int):Option (Int × (List Int) × Unit):=whileO S_spec_l02Small_0 (a,d,rest,i,out,())
noncomputable def M_spec_l02Small (a:List Int) (d:Int):Option (List Int × Int) :=
  (guardO (((decide (0 ≤ (a.length:Int))) && (decide ((a.length:Int) ≤ (a.length:Int)))) && (decide ((a.length:Int) ≤ (maxNew:Int))))).bind fun _ =>
  (L_spec_l02Small_0 a d 0 (IntKind.i64.wrap ((a.length:Int) - 1)) (List.replicate ((a.length:Int).toNat) 0:List Int)).bind fun (rest,out,_) =>
  (M_spec_l02Trim_c out).bind fun r =>
  some (r,rest)
noncomputable def S_spec_l02Sub_0:(List Int) × (List Int) × Int × Int × Int × (List Int) × Unit → Option (((List Int) × (List Int) × Int × Int × Int × (List Int) × Unit) ⊕ ((List Int) × Unit)):=fun (a,b,less,t,t1,out,_) =>
  cond (decide (t1 < t))
    ((idx a t1).bind fun e =>
    cond (decide (t1 < (b.length:Int)))
      ((idx b t1).bind fun e1 =>
      cond (decide ((IntKind.i64.wrap ((IntKind.i64.wrap (e - less)) - e1)) < 0))
        ((guardO (Nat.ble (out.length + 1) maxNew)).bind fun _ =>
        some (.inl (a,b,1,t,IntKind.i64.wrap (t1 + 1),out ++ ([IntKind.i64.wrap ((IntKind.i64.wrap ((IntKind.i64.wrap (e - less)) - e1)) + 1000000000)]:List Int),())))
        ((guardO (Nat.ble (out.length + 1) maxNew)).bind fun _ =>
        some (.inl (a,b,0,t,IntKind.i64.wrap (t1 + 1),out ++ ([IntKind.i64.wrap ((IntKind.i64.wrap (e - less)) - e1)]:List Int),()))))
      (cond (decide ((IntKind.i64.wrap (e - less)) < 0))
        ((guardO (Nat.ble (out.length + 1) maxNew)).bind fun _ =>
        some (.inl (a,b,1,t,IntKind.i64.wrap (t1 + 1),out ++ ([IntKind.i64.wrap ((IntKind.i64.wrap (e - less)) + 1000000000)]:List Int),())))
        ((guardO (Nat.ble (out.length + 1) maxNew)).bind fun _ =>
        some (.inl (a,b,0,t,IntKind.i64.wrap (t1 + 1),out ++ ([IntKind.i64.wrap (e - less)]:List Int),())))))
    (some (.inr (out,())))
noncomputable def L_spec_l02Sub_0 (a:List Int) (b:List Int) (less:Int) (t:Int) (t1:Int) (out:List Int):Option ((List Int) × Unit):=whileO S_spec_l02Sub_0 (a,b,less,t,t1,out,())
noncomputable def M_spec_l02Sub (a:List Int) (b:List Int):Option (List Int) :=
  (L_spec_l02Sub_0 a b 0 (a.length:Int) 0 ([]:List Int)).bind fun (out,_) =>
  (M_spec_l02Trim_c out).bind fun r =>
  some r
noncomputable def S_spec_l02Div_0:(List Int) × (List Int) × Int × (List Int) × (List Int) × Unit → Option (((List Int) × (List Int) × Int × (List Int) × (List Int) × Unit) ⊕ ((List Int) × (List Int) × Unit)):=fun (a,b,i,out,rest,_) =>
  cond (decide (i ≥ 0))
    ((idx a i).bind fun e =>
    (guardO (Nat.ble (1 + rest.length) maxNew)).bind fun _ =>
    (M_spec_l02Trim_c (([e]:List Int) ++ rest)).bind fun r =>
    (M_spec_l02Cmp r b).bind fun r1 =>
    cond (decide (r1 < 0))
      (some (.inl (a,b,IntKind.i64.wrap (i - 1),out,r,())))
      ((M_spec_l02Digit r b).bind fun r2 =>
      (idx out i).bind fun _ =>
      (M_spec_NatOf r2).bind fun r3 =>
      (M_spec_l02Mul b r3).bind fun r4 =>
      (M_spec_l02Sub r r4).bind fun r5 =>
      some (.inl (a,b,IntKind.i64.wrap (i - 1),out.set i.toNat r2,r5,()))))
    (some (.inr (out,rest,())))
noncomputable def L_spec_l02Div_0 (a:List Int) (b:List Int) (i:Int) (out:List Int) (rest:List Int):Option ((List Int) × (List Int) × Unit):=whileO S_spec_l02Div_0 (a,b,i,out,rest,())
noncomputable def M_spec_l02Div (a:List Int) (b:List Int):Option (List Int × List Int) :=
  cond ((b.length:Int) == 1)
    ((idx b 0).bind fun e =>
    (M_spec_l02Small a e).bind fun (r0,r1) =>
    (M_spec_NatOf r1).bind fun r =>
    some (r0,r))
    ((guardO (((decide (0 ≤ (a.length:Int))) && (decide ((a.length:Int) ≤ (a.length:Int)))) && (decide ((a.length:Int) ≤ (maxNew:Int))))).bind fun _ =>
    (L_spec_l02Div_0 a b (IntKind.i64.wrap ((a.length:Int) - 1)) (List.replicate ((a.length:Int).toNat) 0:List Int) ([]:List Int)).bind fun (out,rest,_) =>
    (M_spec_l02Trim_c out).bind fun r =>
    some (r,rest))
noncomputable def S_spec_l02Plain_0:Int × Int × Unit → Option ((Int × Int × Unit) ⊕ (Int × Unit)):=fun (x,y,_) =>
  cond (decide (y > 0))
    ((guardO (y != 0)).bind fun _ =>
    some (.inl (y,x.tmod y,())))
    (some (.inr (x,())))
noncomputable def L_spec_l02Plain_0 (x:Int) (y:Int):Option (Int × Unit):=whileO S_spec_l02Plain_0 (x,y,())
noncomputable def M_spec_l02Plain (x:Int) (y:Int):Option (List Int) :=
  (L_spec_l02Plain_0 x y).bind fun (x1,_) =>
  (M_spec_NatOf x1).bind fun r =>
  some r
noncomputable def S_spec_l02Gcd_0:(List Int) × (List Int) × Unit → Option (((List Int) × (List Int) × Unit) ⊕ (((List Int) × Unit) ⊕ ((List Int) × Unit))):=fun (x,y,_) =>
  cond (decide ((y.length:Int) > 0))
    (cond (decide ((x.length:Int) < 3))
      (cond (decide ((y.length:Int) < 3))
        ((M_spec_NatToInt x).bind fun (r0,_) =>
        (M_spec_NatToInt y).bind fun (r0_1,_) =>
        (M_spec_l02Plain r0 r0_1).bind fun r =>
        some (.inr (.inl (r,()))))
        ((M_spec_l02Div x y).bind fun (_,r1) =>
        some (.inl (y,r1,()))))
      ((M_spec_l02Div x y).bind fun (_,r1) =>
      some (.inl (y,r1,()))))
    (some (.inr (.inr (x,()))))
noncomputable def L_spec_l02Gcd_0 (x:List Int) (y:List Int):Option (((List Int) × Unit) ⊕ ((List Int) × Unit)):=whileO S_spec_l02Gcd_0 (x,y,())
noncomputable def M_spec_l02Gcd (a:List Int) (b:List Int):Option (List Int) :=
  (guardO (Nat.ble a.length maxNew)).bind fun _ =>
  (guardO (Nat.ble b.length maxNew)).bind fun _ =>
  (L_spec_l02Gcd_0 a b).bind fun r =>
  match r with
  | .inl (t,_) =>
    some t
  | .inr (x,_) =>
    some x
end Go.Di
namespace Go.Di
noncomputable def M_internal_stringslite_HasPrefix (s:ByteArray) (prefix_:ByteArray):Option Bool :=
  cond (decide ((s.size:Int) ≥ (prefix_.size:Int)))
    ((guardO (inside s.size (0,(prefix_.size:Int)))).bind fun _ =>
    some (strEq (s.extract 0 ((prefix_.size:Int).toNat)) prefix_))
    (some false)
noncomputable def M_internal_stringslite_CutPrefix (s:ByteArray) (prefix_:ByteArray):Option (ByteArray × Bool) :=
  (M_internal_stringslite_HasPrefix s prefix_).bind fun r =>
  cond (!r)
    (some (s,false))
    ((guardO (inside s.size ((prefix_.size:Int),(s.size:Int)))).bind fun _ =>
    some (s.extract ((prefix_.size:Int).toNat) ((s.size:Int).toNat),true))
noncomputable def S_laws_eqIntS_0:(List Int) × (List Int) × Int × Unit → Option (((List Int) × (List Int) × Int × Unit) ⊕ ((Bool × Unit) ⊕ (Unit))):=fun (a,b,i,_) =>
  cond (decide (i < (a.length:Int)))
    ((idx a i).bind fun e =>
    (idx b i).bind fun e1 =>
    cond (e != e1)
      (some (.inr (.inl (false,()))))
      (some (.inl (a,b,IntKind.i64.wrap (i + 1),()))))
    (some (.inr (.inr (()))))
noncomputable def L_laws_eqIntS_0 (a:List Int) (b:List Int) (i:Int):Option ((Bool × Unit) ⊕ (Unit)):=whileO S_laws_eqIntS_0 (a,b,i,())
noncomputable def M_laws_eqIntS (a:List Int) (b:List Int):Option Bool :=
  cond ((a.length:Int) != (b.length:Int))
    (some false)
    ((L_laws_eqIntS_0 a b 0).bind fun r =>
    match r with
    | .inl (t,_) =>
      some t
    | .inr _ =>
      some true)
noncomputable def M_laws_eqBigInt (a:Bg) (b:Bg):Option Bool :=
  cond (!(a.neg == b.neg))
    (some false)
    ((M_laws_eqIntS a.mag b.mag).bind fun r =>
    cond (!r)
      (some false)
      (some true))
noncomputable def M_laws_eqRat (a:Rt) (b:Rt):Option Bool :=
  (M_laws_eqBigInt (⟨a.neg,a.mag⟩:Bg) (⟨b.neg,b.mag⟩:Bg)).bind fun r =>
  cond (!r)
    (some false)
    ((M_laws_eqIntS a.den b.den).bind fun r1 =>
    cond (!r1)
      (some false)
      (some true))
noncomputable def M_laws_eqStation (a:Sta) (b:Sta):Option Bool :=
  cond (!(strEq a.name b.name))
    (some false)
    ((M_laws_eqRat a.x b.x).bind fun r =>
    cond (!r)
      (some false)
      ((M_laws_eqRat a.y b.y).bind fun r1 =>
      cond (!r1)
        (some false)
        (cond (!(a.fixed == b.fixed))
          (some false)
          (some true))))
noncomputable def S_laws_eqStationS_0:(List Sta) × (List Sta) × Int × Unit → Option (((List Sta) × (List Sta) × Int × Unit) ⊕ ((Bool × Unit) ⊕ (Unit))):=fun (a,b,i,_) =>
  cond (decide (i < (a.length:Int)))
    ((idx a i).bind fun e =>
    (idx b i).bind fun e1 =>
    (M_laws_eqStation e e1).bind fun r =>
    cond (!r)
      (some (.inr (.inl (false,()))))
      (some (.inl (a,b,IntKind.i64.wrap (i + 1),()))))
    (some (.inr (.inr (()))))
noncomputable def L_laws_eqStationS_0 (a:List Sta) (b:List Sta) (i:Int):Option ((Bool × Unit) ⊕ (Unit)):=whileO S_laws_eqStationS_0 (a,b,i,())
noncomputable def M_laws_eqStationS (a:List Sta) (b:List Sta):Option Bool :=
  cond ((a.length:Int) != (b.length:Int))
    (some false)
    ((L_laws_eqStationS_0 a b 0).bind fun r =>
    match r with
    | .inl (t,_) =>
      some t
    | .inr _ =>
      some true)
noncomputable def M_laws_eqNetwork (a:Net) (b:Net):Option Bool :=
  cond (!(a.plane == b.plane))
    (some false)
    ((M_laws_eqStationS a.stations b.stations).bind fun r =>
    cond (!r)
      (some false)
      (some true))
noncomputable def M_laws_eqObservation (a:Obs) (b:Obs):Option Bool :=
  cond (a.kind != b.kind)
    (some false)
    (cond (a.frm != b.frm)
      (some false)
      (cond (a.to != b.to)
        (some false)
        ((M_laws_eqRat a.value b.value).bind fun r =>
        cond (!r)
          (some false)
          ((M_laws_eqRat a.variance b.variance).bind fun r1 =>
          cond (!r1)
            (some false)
            (some true)))))
noncomputable def S_laws_eqObservationS_0:(List Obs) × (List Obs) × Int × Unit → Option (((List Obs) × (List Obs) × Int × Unit) ⊕ ((Bool × Unit) ⊕ (Unit))):=fun (a,b,i,_) =>
  cond (decide (i < (a.length:Int)))
    ((idx a i).bind fun e =>
    (idx b i).bind fun e1 =>
    (M_laws_eqObservation e e1).bind fun r =>
    cond (!r)
      (some (.inr (.inl (false,()))))
      (some (.inl (a,b,IntKind.i64.wrap (i + 1),()))))
    (some (.inr (.inr (()))))
noncomputable def L_laws_eqObservationS_0 (a:List Obs) (b:List Obs) (i:Int):Option ((Bool × Unit) ⊕ (Unit)):=whileO S_laws_eqObservationS_0 (a,b,i,())
noncomputable def M_laws_eqObservationS (a:List Obs) (b:List Obs):Option Bool :=
  cond ((a.length:Int) != (b.length:Int))
    (some false)
    ((L_laws_eqObservationS_0 a b 0).bind fun r =>
    match r with
    | .inl (t,_) =>
      some t
    | .inr _ =>
      some true)
noncomputable def M_laws_eqBook (a:Bk) (b:Bk):Option Bool :=
  (M_laws_eqNetwork (⟨a.plane,a.stations⟩:Net) (⟨b.plane,b.stations⟩:Net)).bind fun r =>
  cond (!r)
    (some false)
    ((M_laws_eqObservationS a.obs b.obs).bind fun r1 =>
    cond (!r1)
      (some false)
      (some true))
noncomputable def S_laws_heldIntS_0:(List Int) × Int × Int × Unit → Option (((List Int) × Int × Int × Unit) ⊕ ((Int × Unit) ⊕ (Int × Unit))):=fun (a,k,i,_) =>
  cond (decide (i < (a.length:Int)))
    ((idx a i).bind fun e =>
    cond (e != k)
      (some (.inr (.inl ((-1),()))))
      (some (.inl (a,IntKind.i64.wrap (k + 1),IntKind.i64.wrap (i + 1),()))))
    (some (.inr (.inr (k,()))))
noncomputable def L_laws_heldIntS_0 (a:List Int) (k:Int) (i:Int):Option ((Int × Unit) ⊕ (Int × Unit)):=whileO S_laws_heldIntS_0 (a,k,i,())
noncomputable def M_laws_heldIntS (a:List Int) (k:Int):Option Int :=
  (L_laws_heldIntS_0 a k 0).bind fun r =>
  match r with
  | .inl (t,_) =>
    some t
  | .inr (k1,_) =>
    some k1
noncomputable def S_laws_markText_0:Int × ByteArray × Unit → Option ((Int × ByteArray × Unit) ⊕ (ByteArray × Unit)):=fun (k,out,_) =>
  cond (decide (k > 0))
    ((guardO (Nat.ble (((bytesOf ([IntKind.u8.wrap (IntKind.i64.wrap (48 + (k.tmod 10)))]:List Int)).size) + out.size) 4611686018427387904)).bind fun _ =>
    some (.inl (IntKind.i64.wrap (k.tdiv 10),(bytesOf ([IntKind.u8.wrap (IntKind.i64.wrap (48 + (k.tmod 10)))]:List Int)) ++ out,())))
    (some (.inr (out,())))
noncomputable def L_laws_markText_0 (k:Int) (out:ByteArray):Option (ByteArray × Unit):=whileO S_laws_markText_0 (k,out,())
noncomputable def M_laws_markText (k:Int):Option ByteArray :=
  cond (decide (k ≤ 0))
    (some (⟨#[109,48]⟩:ByteArray))
    ((L_laws_markText_0 k (⟨#[]⟩:ByteArray)).bind fun (out,_) =>
    (guardO (Nat.ble (((⟨#[109]⟩:ByteArray).size) + out.size) 4611686018427387904)).bind fun _ =>
    some ((⟨#[109]⟩:ByteArray) ++ out))
noncomputable def S_laws_heldStationS_0:(List Sta) × Int × Int × Unit → Option (((List Sta) × Int × Int × Unit) ⊕ ((Int × Unit) ⊕ (Int × Unit))):=fun (a,k,i,_) =>
  cond (decide (i < (a.length:Int)))
    ((idx a i).bind fun e =>
    (M_laws_markText k).bind fun r =>
    cond (!(strEq e.name r))
      (some (.inr (.inl ((-1),()))))
      ((idx a i).bind fun e1 =>
      cond (!(e1.x.neg == (((IntKind.i64.wrap (k + 1)).tmod 3) == 0)))
        (some (.inr (.inl ((-1),()))))
        ((idx a i).bind fun e2 =>
        (M_laws_heldIntS e2.x.mag (IntKind.i64.wrap ((IntKind.i64.wrap (k + 1)) + 1))).bind fun r1 =>
        cond (decide (r1 < 0))
          (some (.inr (.inl ((-1),()))))
          ((idx a i).bind fun e3 =>
          (M_laws_heldIntS e3.x.den r1).bind fun r2 =>
          cond (decide (r2 < 0))
            (some (.inr (.inl ((-1),()))))
            ((idx a i).bind fun e4 =>
            cond (!(e4.y.neg == ((r2.tmod 3) == 0)))
              (some (.inr (.inl ((-1),()))))
              ((idx a i).bind fun e5 =>
              (M_laws_heldIntS e5.y.mag (IntKind.i64.wrap (r2 + 1))).bind fun r3 =>
              cond (decide (r3 < 0))
                (some (.inr (.inl ((-1),()))))
                ((idx a i).bind fun e6 =>
                (M_laws_heldIntS e6.y.den r3).bind fun r4 =>
                cond (decide (r4 < 0))
                  (some (.inr (.inl ((-1),()))))
                  ((idx a i).bind fun e7 =>
                  cond (!(e7.fixed == ((r4.tmod 3) == 0)))
                    (some (.inr (.inl ((-1),()))))
                    (some (.inl (a,IntKind.i64.wrap (r4 + 1),IntKind.i64.wrap (i + 1),())))))))))))
    (some (.inr (.inr (k,()))))
noncomputable def L_laws_heldStationS_0 (a:List Sta) (k:Int) (i:Int):Option ((Int × Unit) ⊕ (Int × Unit)):=whileO S_laws_heldStationS_0 (a,k,i,())
noncomputable def M_laws_heldStationS (a:List Sta) (k:Int):Option Int :=
  (L_laws_heldStationS_0 a k 0).bind fun r =>
  match r with
  | .inl (t,_) =>
    some t
  | .inr (k1,_) =>
    some k1
noncomputable def M_laws_heldNetwork (a:Net) (k:Int):Option Int :=
  (M_laws_heldStationS a.stations k).bind fun r =>
  cond (decide (r < 0))
    (some (-1))
    (some r)
noncomputable def S_laws_heldObservationS_0:(List Obs) × Int × Int × Unit → Option (((List Obs) × Int × Int × Unit) ⊕ ((Int × Unit) ⊕ (Int × Unit))):=fun (a,k,i,_) =>
  cond (decide (i < (a.length:Int)))
    ((idx a i).bind fun e =>
    cond (e.kind != k)
      (some (.inr (.inl ((-1),()))))
      ((idx a i).bind fun e1 =>
      cond (e1.frm != (IntKind.i64.wrap (k + 1)))
        (some (.inr (.inl ((-1),()))))
        ((idx a i).bind fun e2 =>
        cond (e2.to != (IntKind.i64.wrap ((IntKind.i64.wrap (k + 1)) + 1)))
          (some (.inr (.inl ((-1),()))))
          ((idx a i).bind fun e3 =>
          cond (!(e3.value.neg == (((IntKind.i64.wrap ((IntKind.i64.wrap ((IntKind.i64.wrap (k + 1)) + 1)) + 1)).tmod 3) == 0)))
            (some (.inr (.inl ((-1),()))))
            ((idx a i).bind fun e4 =>
            (M_laws_heldIntS e4.value.mag (IntKind.i64.wrap ((IntKind.i64.wrap ((IntKind.i64.wrap ((IntKind.i64.wrap (k + 1)) + 1)) + 1)) + 1))).bind fun r =>
            cond (decide (r < 0))
              (some (.inr (.inl ((-1),()))))
              ((idx a i).bind fun e5 =>
              (M_laws_heldIntS e5.value.den r).bind fun r1 =>
              cond (decide (r1 < 0))
                (some (.inr (.inl ((-1),()))))
                ((idx a i).bind fun e6 =>
                cond (!(e6.variance.neg == ((r1.tmod 3) == 0)))
                  (some (.inr (.inl ((-1),()))))
                  ((idx a i).bind fun e7 =>
                  (M_laws_heldIntS e7.variance.mag (IntKind.i64.wrap (r1 + 1))).bind fun r2 =>
                  cond (decide (r2 < 0))
                    (some (.inr (.inl ((-1),()))))
                    ((idx a i).bind fun e8 =>
                    (M_laws_heldIntS e8.variance.den r2).bind fun r3 =>
                    cond (decide (r3 < 0))
                      (some (.inr (.inl ((-1),()))))
                      (some (.inl (a,r3,IntKind.i64.wrap (i + 1),()))))))))))))
    (some (.inr (.inr (k,()))))
noncomputable def L_laws_heldObservationS_0 (a:List Obs) (k:Int) (i:Int):Option ((Int × Unit) ⊕ (Int × Unit)):=whileO S_laws_heldObservationS_0 (a,k,i,())
noncomputable def M_laws_heldObservationS (a:List Obs) (k:Int):Option Int :=
  (L_laws_heldObservationS_0 a k 0).bind fun r =>
  match r with
  | .inl (t,_) =>
    some t
  | .inr (k1,_) =>
    some k1
noncomputable def M_laws_heldBook (a:Bk) (k:Int):Option Int :=
  (M_laws_heldNetwork (⟨a.plane,a.stations⟩:Net) k).bind fun r =>
  cond (decide (r < 0))
    (some (-1))
    ((M_laws_heldObservationS a.obs r).bind fun r1 =>
    cond (decide (r1 < 0))
      (some (-1))
      (some r1))
noncomputable def S_laws_markIntS_md_0:Int × Int × (List Int) × Unit → Option ((Int × Int × (List Int) × Unit) ⊕ (Int × (List Int) × Unit)):=fun (k,i,a,_) =>
  cond (decide (i < (a.length:Int)))
    ((idx a i).bind fun _ =>
    some (.inl (IntKind.i64.wrap (k + 1),IntKind.i64.wrap (i + 1),a.set i.toNat k,())))
    (some (.inr (k,a,())))
noncomputable def L_laws_markIntS_md_0 (k:Int) (i:Int) (a:List Int):Option (Int × (List Int) × Unit):=whileO S_laws_markIntS_md_0 (k,i,a,())
noncomputable def M_laws_markIntS_md (a:List Int) (k:Int):Option (Int × List Int) :=
  (L_laws_markIntS_md_0 k 0 a).bind fun (k1,a1,_) =>
  some (k1,a1)
noncomputable def S_laws_markStationS_md_0:Int × Int × (List Sta) × Unit → Option ((Int × Int × (List Sta) × Unit) ⊕ (Int × (List Sta) × Unit)):=fun (k,i,a,_) =>
  cond (decide (i < (a.length:Int)))
    ((M_laws_markText k).bind fun r =>
    (idx a i).bind fun _ =>
    ((a[i.toNat]?).bind fun e => some (⟨r,e.x,e.y,e.fixed⟩:Sta)).bind fun e =>
    (idx (a.set i.toNat e) i).bind fun _ =>
    (((a.set i.toNat e)[i.toNat]?).bind fun e => some (⟨e.name,(⟨((IntKind.i64.wrap (k + 1)).tmod 3) == 0,e.x.mag,e.x.den⟩:Rt),e.y,e.fixed⟩:Sta)).bind fun e1 =>
    (idx ((a.set i.toNat e).set i.toNat e1) i).bind fun _ =>
    (((a.set i.toNat e).set i.toNat e1)[i.toNat]?).bind fun e2 =>
    ((M_laws_markIntS_md e2.x.mag (IntKind.i64.wrap ((IntKind.i64.wrap (k + 1)) + 1))).bind fun y => (((a.set i.toNat e).set i.toNat e1)[i.toNat]?).bind fun e => some ((⟨e.name,(⟨e.x.neg,y.2,e.x.den⟩:Rt),e.y,e.fixed⟩:Sta),y.1)).bind fun (e3,r1) =>
    (idx (((a.set i.toNat e).set i.toNat e1).set i.toNat e3) i).bind fun _ =>
    ((((a.set i.toNat e).set i.toNat e1).set i.toNat e3)[i.toNat]?).bind fun e4 =>
    ((M_laws_markIntS_md e4.x.den r1).bind fun y => ((((a.set i.toNat e).set i.toNat e1).set i.toNat e3)[i.toNat]?).bind fun e => some ((⟨e.name,(⟨e.x.neg,e.x.mag,y.2⟩:Rt),e.y,e.fixed⟩:Sta),y.1)).bind fun (e5,r2) =>
    (idx ((((a.set i.toNat e).set i.toNat e1).set i.toNat e3).set i.toNat e5) i).bind fun _ =>
    ((((((a.set i.toNat e).set i.toNat e1).set i.toNat e3).set i.toNat e5)[i.toNat]?).bind fun e => some (⟨e.name,e.x,(⟨(r2.tmod 3) == 0,e.y.mag,e.y.den⟩:Rt),e.fixed⟩:Sta)).bind fun e6 =>
    (idx (((((a.set i.toNat e).set i.toNat e1).set i.toNat e3).set i.toNat e5).set i.toNat e6) i).bind fun _ =>
    ((((((a.set i.toNat e).set i.toNat e1).set i.toNat e3).set i.toNat e5).set i.toNat e6)[i.toNat]?).bind fun e7 =>
    ((M_laws_markIntS_md e7.y.mag (IntKind.i64.wrap (r2 + 1))).bind fun y => ((((((a.set i.toNat e).set i.toNat e1).set i.toNat e3).set i.toNat e5).set i.toNat e6)[i.toNat]?).bind fun e => some ((⟨e.name,e.x,(⟨e.y.neg,y.2,e.y.den⟩:Rt),e.fixed⟩:Sta),y.1)).bind fun (e8,r3) =>
    (idx ((((((a.set i.toNat e).set i.toNat e1).set i.toNat e3).set i.toNat e5).set i.toNat e6).set i.toNat e8) i).bind fun _ =>
    (((((((a.set i.toNat e).set i.toNat e1).set i.toNat e3).set i.toNat e5).set i.toNat e6).set i.toNat e8)[i.toNat]?).bind fun e9 =>
    ((M_laws_markIntS_md e9.y.den r3).bind fun y => (((((((a.set i.toNat e).set i.toNat e1).set i.toNat e3).set i.toNat e5).set i.toNat e6).set i.toNat e8)[i.toNat]?).bind fun e => some ((⟨e.name,e.x,(⟨e.y.neg,e.y.mag,y.2⟩:Rt),e.fixed⟩:Sta),y.1)).bind fun (e10,r4) =>
    (idx (((((((a.set i.toNat e).set i.toNat e1).set i.toNat e3).set i.toNat e5).set i.toNat e6).set i.toNat e8).set i.toNat e10) i).bind fun _ =>
    (((((((((a.set i.toNat e).set i.toNat e1).set i.toNat e3).set i.toNat e5).set i.toNat e6).set i.toNat e8).set i.toNat e10)[i.toNat]?).bind fun e => some (⟨e.name,e.x,e.y,(r4.tmod 3) == 0⟩:Sta)).bind fun e11 =>
    some (.inl (IntKind.i64.wrap (r4 + 1),IntKind.i64.wrap (i + 1),(((((((a.set i.toNat e).set i.toNat e1).set i.toNat e3).set i.toNat e5).set i.toNat e6).set i.toNat e8).set i.toNat e10).set i.toNat e11,())))
    (some (.inr (k,a,())))
noncomputable def L_laws_markStationS_md_0 (k:Int) (i:Int) (a:List Sta):Option (Int × (List Sta) × Unit):=whileO S_laws_markStationS_md_0 (k,i,a,())
noncomputable def M_laws_markStationS_md (a:List Sta) (k:Int):Option (Int × List Sta) :=
  (L_laws_markStationS_md_0 k 0 a).bind fun (k1,a1,_) =>
  some (k1,a1)
noncomputable def M_laws_markNetwork_md (a:Net) (k:Int):Option (Int × List Sta) :=
  (M_laws_markStationS_md a.stations k).bind fun (r0,x0) =>
  some (r0,x0)
noncomputable def S_laws_markObservationS_md_0:Int × Int × (List Obs) × Unit → Option ((Int × Int × (List Obs) × Unit) ⊕ (Int × (List Obs) × Unit)):=fun (k,i,a,_) =>
  cond (decide (i < (a.length:Int)))
    ((idx a i).bind fun _ =>
    ((a[i.toNat]?).bind fun e => some (⟨k,e.frm,e.to,e.value,e.variance⟩:Obs)).bind fun e =>
    (idx (a.set i.toNat e) i).bind fun _ =>
    (((a.set i.toNat e)[i.toNat]?).bind fun e => some (⟨e.kind,IntKind.i64.wrap (k + 1),e.to,e.value,e.variance⟩:Obs)).bind fun e1 =>
    (idx ((a.set i.toNat e).set i.toNat e1) i).bind fun _ =>
    ((((a.set i.toNat e).set i.toNat e1)[i.toNat]?).bind fun e => some (⟨e.kind,e.frm,IntKind.i64.wrap ((IntKind.i64.wrap (k + 1)) + 1),e.value,e.variance⟩:Obs)).bind fun e2 =>
    (idx (((a.set i.toNat e).set i.toNat e1).set i.toNat e2) i).bind fun _ =>
    (((((a.set i.toNat e).set i.toNat e1).set i.toNat e2)[i.toNat]?).bind fun e => some (⟨e.kind,e.frm,e.to,(⟨((IntKind.i64.wrap ((IntKind.i64.wrap ((IntKind.i64.wrap (k + 1)) + 1)) + 1)).tmod 3) == 0,e.value.mag,e.value.den⟩:Rt),e.variance⟩:Obs)).bind fun e3 =>
    (idx ((((a.set i.toNat e).set i.toNat e1).set i.toNat e2).set i.toNat e3) i).bind fun _ =>
    (((((a.set i.toNat e).set i.toNat e1).set i.toNat e2).set i.toNat e3)[i.toNat]?).bind fun e4 =>
    ((M_laws_markIntS_md e4.value.mag (IntKind.i64.wrap ((IntKind.i64.wrap ((IntKind.i64.wrap ((IntKind.i64.wrap (k + 1)) + 1)) + 1)) + 1))).bind fun y => (((((a.set i.toNat e).set i.toNat e1).set i.toNat e2).set i.toNat e3)[i.toNat]?).bind fun e => some ((⟨e.kind,e.frm,e.to,(⟨e.value.neg,y.2,e.value.den⟩:Rt),e.variance⟩:Obs),y.1)).bind fun (e5,r) =>
    (idx (((((a.set i.toNat e).set i.toNat e1).set i.toNat e2).set i.toNat e3).set i.toNat e5) i).bind fun _ =>
    ((((((a.set i.toNat e).set i.toNat e1).set i.toNat e2).set i.toNat e3).set i.toNat e5)[i.toNat]?).bind fun e6 =>
    ((M_laws_markIntS_md e6.value.den r).bind fun y => ((((((a.set i.toNat e).set i.toNat e1).set i.toNat e2).set i.toNat e3).set i.toNat e5)[i.toNat]?).bind fun e => some ((⟨e.kind,e.frm,e.to,(⟨e.value.neg,e.value.mag,y.2⟩:Rt),e.variance⟩:Obs),y.1)).bind fun (e7,r1) =>
    (idx ((((((a.set i.toNat e).set i.toNat e1).set i.toNat e2).set i.toNat e3).set i.toNat e5).set i.toNat e7) i).bind fun _ =>
    ((((((((a.set i.toNat e).set i.toNat e1).set i.toNat e2).set i.toNat e3).set i.toNat e5).set i.toNat e7)[i.toNat]?).bind fun e => some (⟨e.kind,e.frm,e.to,e.value,(⟨(r1.tmod 3) == 0,e.variance.mag,e.variance.den⟩:Rt)⟩:Obs)).bind fun e8 =>
    (idx (((((((a.set i.toNat e).set i.toNat e1).set i.toNat e2).set i.toNat e3).set i.toNat e5).set i.toNat e7).set i.toNat e8) i).bind fun _ =>
    ((((((((a.set i.toNat e).set i.toNat e1).set i.toNat e2).set i.toNat e3).set i.toNat e5).set i.toNat e7).set i.toNat e8)[i.toNat]?).bind fun e9 =>
    ((M_laws_markIntS_md e9.variance.mag (IntKind.i64.wrap (r1 + 1))).bind fun y => ((((((((a.set i.toNat e).set i.toNat e1).set i.toNat e2).set i.toNat e3).set i.toNat e5).set i.toNat e7).set i.toNat e8)[i.toNat]?).bind fun e => some ((⟨e.kind,e.frm,e.to,e.value,(⟨e.variance.neg,y.2,e.variance.den⟩:Rt)⟩:Obs),y.1)).bind fun (e10,r2) =>
    (idx ((((((((a.set i.toNat e).set i.toNat e1).set i.toNat e2).set i.toNat e3).set i.toNat e5).set i.toNat e7).set i.toNat e8).set i.toNat e10) i).bind fun _ =>
    (((((((((a.set i.toNat e).set i.toNat e1).set i.toNat e2).set i.toNat e3).set i.toNat e5).set i.toNat e7).set i.toNat e8).set i.toNat e10)[i.toNat]?).bind fun e11 =>
    ((M_laws_markIntS_md e11.variance.den r2).bind fun y => (((((((((a.set i.toNat e).set i.toNat e1).set i.toNat e2).set i.toNat e3).set i.toNat e5).set i.toNat e7).set i.toNat e8).set i.toNat e10)[i.toNat]?).bind fun e => some ((⟨e.kind,e.frm,e.to,e.value,(⟨e.variance.neg,e.variance.mag,y.2⟩:Rt)⟩:Obs),y.1)).bind fun (e12,r3) =>
    some (.inl (r3,IntKind.i64.wrap (i + 1),((((((((a.set i.toNat e).set i.toNat e1).set i.toNat e2).set i.toNat e3).set i.toNat e5).set i.toNat e7).set i.toNat e8).set i.toNat e10).set i.toNat e12,())))
    (some (.inr (k,a,())))
noncomputable def L_laws_markObservationS_md_0 (k:Int) (i:Int) (a:List Obs):Option (Int × (List Obs) × Unit):=whileO S_laws_markObservationS_md_0 (k,i,a,())
noncomputable def M_laws_markObservationS_md (a:List Obs) (k:Int):Option (Int × List Obs) :=
  (L_laws_markObservationS_md_0 k 0 a).bind fun (k1,a1,_) =>
  some (k1,a1)
noncomputable def M_laws_markBook_md (a:Bk) (k:Int):Option (Int × List Sta × List Obs) :=
  (M_laws_markNetwork_md (⟨a.plane,a.stations⟩:Net) k).bind fun (r0,x0) =>
  (M_laws_markObservationS_md a.obs r0).bind fun (r0_1,x0_1) =>
  some (r0_1,x0,x0_1)
noncomputable def M_strings_CutPrefix (s:ByteArray) (prefix_:ByteArray):Option (ByteArray × Bool) :=
  (M_internal_stringslite_CutPrefix s prefix_).bind fun (r0,r1) =>
  some (r0,r1)
end Go.Di
namespace Go.Di
noncomputable def M_impl_signed_dc (neg:Bool) (mag:List Int):Option Bg :=
  cond ((mag.length:Int) == 0)
    (some (⟨false,([]:List Int)⟩:Bg))
    (some (⟨neg,mag⟩:Bg))
noncomputable def M_impl_BigIntOf (n:Int):Option Bg :=
  cond (decide (n ≥ 0))
    ((M_impl_NatOf n).bind fun r =>
    (M_impl_signed_dc false r).bind fun r1 =>
    some r1)
    ((M_impl_NatOf (IntKind.i64.wrap (0 - (IntKind.i64.wrap (n + 1))))).bind fun r =>
    (M_impl_natAdd r ([1]:List Int)).bind fun r1 =>
    (M_impl_signed_dc true r1).bind fun r2 =>
    some r2)
noncomputable def M_impl_BigIntOk (x:Bg):Option Bool :=
  (M_impl_NatOk x.mag).bind fun r =>
  cond r
    (cond (decide ((x.mag.length:Int) > 0))
      (some true)
      (some (!x.neg)))
    (some false)
noncomputable def M_impl_ParseBigInt (s:ByteArray):Option (Bg × Bool) :=
  (M_strings_CutPrefix s (⟨#[45]⟩:ByteArray)).bind fun (r0,r1) =>
  (M_impl_ParseNat r0).bind fun (r0_1,r1_1) =>
  cond (!r1_1)
    (some ((⟨false,([]:List Int)⟩:Bg),false))
    (cond r1
      (cond ((r0_1.length:Int) == 0)
        (some ((⟨false,([]:List Int)⟩:Bg),false))
        ((M_impl_signed_dc r1 r0_1).bind fun r =>
        some (r,true)))
      ((M_impl_signed_dc r1 r0_1).bind fun r =>
      some (r,true)))
noncomputable def M_impl_formatBig (x:Bg):Option ByteArray :=
  cond x.neg
    ((M_impl_formatNat x.mag).bind fun r =>
    (guardO (Nat.ble (((⟨#[45]⟩:ByteArray).size) + r.size) 4611686018427387904)).bind fun _ =>
    some ((⟨#[45]⟩:ByteArray) ++ r))
    ((M_impl_formatNat x.mag).bind fun r =>
    some r)
noncomputable def M_impl_signed (neg:Bool) (mag:List Int):Option Bg :=
  cond ((mag.length:Int) == 0)
    (some (⟨false,([]:List Int)⟩:Bg))
    (some (⟨neg,mag⟩:Bg))
noncomputable def M_spec_l03Make (neg:Bool) (a:List Int):Option Bg :=
  (M_spec_l02Cap a).bind fun r =>
  cond neg
    ((guardO (Nat.ble r.length maxNew)).bind fun _ =>
    some (⟨decide ((r.length:Int) > 0),r⟩:Bg))
    ((guardO (Nat.ble r.length maxNew)).bind fun _ =>
    some (⟨false,r⟩:Bg))
noncomputable def M_spec_BigIntOf (n:Int):Option Bg :=
  cond (n == (-9223372036854775808))
    ((M_spec_l03Make true ([854775808,223372036,9]:List Int)).bind fun r =>
    some r)
    (cond (decide (n < 0))
      ((M_spec_NatOf (IntKind.i64.wrap (0 - n))).bind fun r =>
      (M_spec_l03Make true r).bind fun r1 =>
      some r1)
      ((M_spec_NatOf n).bind fun r =>
      (M_spec_l03Make false r).bind fun r1 =>
      some r1))
noncomputable def M_spec_BigIntOk (x:Bg):Option Bool :=
  (M_spec_NatOk x.mag).bind fun r =>
  cond r
    (cond (!x.neg)
      (some true)
      (some (decide ((x.mag.length:Int) > 0))))
    (some false)
noncomputable def M_spec_FormatBigInt (x:Bg):Option ByteArray :=
  (M_spec_BigIntOk x).bind fun r =>
  cond (!r)
    (some (⟨#[]⟩:ByteArray))
    (cond x.neg
      ((M_spec_FormatNat x.mag).bind fun r1 =>
      (guardO (Nat.ble (((⟨#[45]⟩:ByteArray).size) + r1.size) 4611686018427387904)).bind fun _ =>
      some ((⟨#[45]⟩:ByteArray) ++ r1))
      ((M_spec_FormatNat x.mag).bind fun r1 =>
      some r1))
noncomputable def M_spec_ParseBigInt (s:ByteArray):Option (Bg × Bool) :=
  cond (decide ((s.size:Int) > 0))
    ((strAt s 0).bind fun b =>
    cond (b == 45)
      ((guardO (inside s.size (1,(s.size:Int)))).bind fun _ =>
      (M_spec_ParseNat (s.extract 1 ((s.size:Int).toNat))).bind fun (r0,r1) =>
      cond (!r1)
        (some ((⟨false,([]:List Int)⟩:Bg),false))
        (cond (b == 45)
          (cond ((r0.length:Int) == 0)
            (some ((⟨false,([]:List Int)⟩:Bg),false))
            (some ((⟨b == 45,r0⟩:Bg),true)))
          (some ((⟨b == 45,r0⟩:Bg),true))))
      ((M_spec_ParseNat s).bind fun (r0,r1) =>
      cond (!r1)
        (some ((⟨false,([]:List Int)⟩:Bg),false))
        (cond (b == 45)
          (cond ((r0.length:Int) == 0)
            (some ((⟨false,([]:List Int)⟩:Bg),false))
            (some ((⟨b == 45,r0⟩:Bg),true)))
          (some ((⟨b == 45,r0⟩:Bg),true)))))
    ((M_spec_ParseNat s).bind fun (r0,r1) =>
    cond (!r1)
      (some ((⟨false,([]:List Int)⟩:Bg),false))
      (some ((⟨false,r0⟩:Bg),true)))
end Go.Di
namespace Go.Di
noncomputable def M_impl_isOne (a:List Int):Option Bool :=
  cond ((a.length:Int) == 1)
    ((idx a 0).bind fun e =>
    some (e == 1))
    (some false)
noncomputable def M_impl_RatOk (r:Rt):Option Bool :=
  (M_impl_BigIntOk (⟨r.neg,r.mag⟩:Bg)).bind fun r1 =>
  cond (!r1)
    (some false)
    ((M_impl_NatOk r.den).bind fun r2 =>
    cond (!r2)
      (some false)
      (cond ((r.den.length:Int) == 0)
        (some false)
        (cond (decide ((r.mag.length:Int) > 24))
          (some false)
          (cond (decide ((r.den.length:Int) > 24))
            (some false)
            ((M_impl_natGcd r.den r.mag).bind fun r3 =>
            (M_impl_isOne r3).bind fun r4 =>
            some r4)))))
noncomputable def M_impl_formatRat (r:Rt):Option ByteArray :=
  (M_impl_isOne r.den).bind fun r1 =>
  cond r1
    ((M_impl_formatBig (⟨r.neg,r.mag⟩:Bg)).bind fun r2 =>
    some r2)
    ((M_impl_formatBig (⟨r.neg,r.mag⟩:Bg)).bind fun r2 =>
    (guardO (Nat.ble (r2.size + ((⟨#[47]⟩:ByteArray).size)) 4611686018427387904)).bind fun _ =>
    (M_impl_formatNat r.den).bind fun r3 =>
    (guardO (Nat.ble (((r2 ++ (⟨#[47]⟩:ByteArray)).size) + r3.size) 4611686018427387904)).bind fun _ =>
    some ((r2 ++ (⟨#[47]⟩:ByteArray)) ++ r3))
noncomputable def M_impl_ParseRat (s:ByteArray):Option (Rt × Bool) :=
  (M_strings_Cut s (⟨#[47]⟩:ByteArray)).bind fun (r0,r1,r2) =>
  (M_impl_ParseBigInt r0).bind fun (r0_1,r1_1) =>
  cond r2
    ((M_impl_ParseNat r1).bind fun (r0_2,r1_2) =>
    cond (!r1_1)
      (some ((⟨false,([]:List Int),([]:List Int)⟩:Rt),false))
      (cond (!r1_2)
        (some ((⟨false,([]:List Int),([]:List Int)⟩:Rt),false))
        ((M_impl_RatOk (⟨r0_1.neg,r0_1.mag,r0_2⟩:Rt)).bind fun r =>
        cond (!r)
          (some ((⟨false,([]:List Int),([]:List Int)⟩:Rt),false))
          ((M_impl_formatRat (⟨r0_1.neg,r0_1.mag,r0_2⟩:Rt)).bind fun r3 =>
          cond (!(strEq r3 s))
            (some ((⟨false,([]:List Int),([]:List Int)⟩:Rt),false))
            (some ((⟨r0_1.neg,r0_1.mag,r0_2⟩:Rt),true))))))
    (cond (!r1_1)
      (some ((⟨false,([]:List Int),([]:List Int)⟩:Rt),false))
      ((M_impl_RatOk (⟨r0_1.neg,r0_1.mag,([1]:List Int)⟩:Rt)).bind fun r =>
      cond (!r)
        (some ((⟨false,([]:List Int),([]:List Int)⟩:Rt),false))
        ((M_impl_formatRat (⟨r0_1.neg,r0_1.mag,([1]:List Int)⟩:Rt)).bind fun r3 =>
        cond (!(strEq r3 s))
          (some ((⟨false,([]:List Int),([]:List Int)⟩:Rt),false))
          (some ((⟨r0_1.neg,r0_1.mag,([1]:List Int)⟩:Rt),true)))))
noncomputable def M_impl_lowest_cc (num:Bg) (den:List Int):Option Rt :=
  cond ((num.mag.length:Int) == 0)
    (some (⟨false,([]:List Int),([1]:List Int)⟩:Rt))
    ((M_impl_natGcd den num.mag).bind fun r =>
    (M_impl_isOne r).bind fun r1 =>
    cond (!r1)
      ((M_impl_natDiv num.mag r).bind fun (r0,_) =>
      (M_impl_natDiv den r).bind fun (r0_1,_) =>
      (M_impl_signed_dc num.neg r0).bind fun r2 =>
      cond (decide ((r2.mag.length:Int) > 24))
        (some (⟨false,([]:List Int),([]:List Int)⟩:Rt))
        (cond (decide ((r0_1.length:Int) > 24))
          (some (⟨false,([]:List Int),([]:List Int)⟩:Rt))
          (some (⟨r2.neg,r2.mag,r0_1⟩:Rt))))
      (cond (decide ((num.mag.length:Int) > 24))
        (some (⟨false,([]:List Int),([]:List Int)⟩:Rt))
        (cond (decide ((den.length:Int) > 24))
          (some (⟨false,([]:List Int),([]:List Int)⟩:Rt))
          (some (⟨num.neg,num.mag,den⟩:Rt)))))
noncomputable def M_impl_lowest (num:Bg) (den:List Int):Option Rt :=
  cond ((num.mag.length:Int) == 0)
    (some (⟨false,([]:List Int),([1]:List Int)⟩:Rt))
    ((M_impl_natGcd den num.mag).bind fun r =>
    (M_impl_isOne r).bind fun r1 =>
    cond (!r1)
      ((M_impl_natDiv num.mag r).bind fun (r0,_) =>
      (M_impl_natDiv den r).bind fun (r0_1,_) =>
      (M_impl_signed_dc num.neg r0).bind fun r2 =>
      cond (decide ((r2.mag.length:Int) > 24))
        (some (⟨false,([]:List Int),([]:List Int)⟩:Rt))
        (cond (decide ((r0_1.length:Int) > 24))
          (some (⟨false,([]:List Int),([]:List Int)⟩:Rt))
          (some (⟨r2.neg,r2.mag,r0_1⟩:Rt))))
      (cond (decide ((num.mag.length:Int) > 24))
        (some (⟨false,([]:List Int),([]:List Int)⟩:Rt))
        (cond (decide ((den.length:Int) > 24))
          (some (⟨false,([]:List Int),([]:List Int)⟩:Rt))
          (some (⟨num.neg,num.mag,den⟩:Rt)))))
noncomputable def M_impl_copyRat (r:Rt):Option Rt :=
  (M_impl_copyInts r.mag).bind fun r1 =>
  (M_impl_copyInts r.den).bind fun r2 =>
  some (⟨r.neg,r1,r2⟩:Rt)
noncomputable def M_impl_RatMake (num:Bg) (den:Bg):Option Rt :=
  (M_impl_BigIntOk num).bind fun r =>
  cond (!r)
    (some (⟨false,([]:List Int),([]:List Int)⟩:Rt))
    ((M_impl_BigIntOk den).bind fun r1 =>
    cond (!r1)
      (some (⟨false,([]:List Int),([]:List Int)⟩:Rt))
      (cond ((den.mag.length:Int) == 0)
        (some (⟨false,([]:List Int),([]:List Int)⟩:Rt))
        ((M_impl_signed (!(num.neg == den.neg)) num.mag).bind fun r2 =>
        (M_impl_lowest r2 den.mag).bind fun r3 =>
        (M_impl_copyRat r3).bind fun r4 =>
        some r4)))
noncomputable def M_impl_RatOf (n:Int) (d:Int):Option Rt :=
  (M_impl_BigIntOf n).bind fun r =>
  (M_impl_BigIntOf d).bind fun r1 =>
  (M_impl_RatMake r r1).bind fun r2 =>
  some r2
noncomputable def M_impl_RatFromInt (n:Int):Option Rt :=
  (M_impl_RatOf n 1).bind fun r =>
  some r
noncomputable def M_impl_sign (r:Rt):Option Int :=
  cond r.neg
    (some (-1))
    (cond (decide ((r.mag.length:Int) > 0))
      (some 1)
      (some 0))
noncomputable def M_impl_isZero (r:Rt):Option Bool :=
  some ((r.mag.length:Int) == 0)
noncomputable def M_impl_whole (n:Int):Option Rt :=
  (M_impl_RatFromInt n).bind fun r =>
  some r
noncomputable def M_spec_l04One (a:List Int):Option Bool :=
  cond ((a.length:Int) == 1)
    ((idx a 0).bind fun e =>
    some (e == 1))
    (some false)
noncomputable def M_spec_RatOk (r:Rt):Option Bool :=
  (M_spec_BigIntOk (⟨r.neg,r.mag⟩:Bg)).bind fun r1 =>
  cond (!r1)
    (some false)
    ((M_spec_NatOk r.den).bind fun r2 =>
    cond (!r2)
      (some false)
      (cond ((r.den.length:Int) == 0)
        (some false)
        (cond (decide ((r.den.length:Int) > 24))
          (some false)
          (cond (decide ((r.mag.length:Int) > 24))
            (some false)
            ((M_spec_l02Gcd r.mag r.den).bind fun r3 =>
            (M_spec_l04One r3).bind fun r4 =>
            some r4)))))
noncomputable def M_spec_FormatRat (r:Rt):Option ByteArray :=
  (M_spec_RatOk r).bind fun r1 =>
  cond (!r1)
    (some (⟨#[]⟩:ByteArray))
    ((M_spec_l04One r.den).bind fun r2 =>
    cond r2
      ((M_spec_FormatBigInt (⟨r.neg,r.mag⟩:Bg)).bind fun r3 =>
      some r3)
      ((M_spec_FormatBigInt (⟨r.neg,r.mag⟩:Bg)).bind fun r3 =>
      (guardO (Nat.ble (r3.size + ((⟨#[47]⟩:ByteArray).size)) 4611686018427387904)).bind fun _ =>
      (M_spec_FormatNat r.den).bind fun r4 =>
      (guardO (Nat.ble (((r3 ++ (⟨#[47]⟩:ByteArray)).size) + r4.size) 4611686018427387904)).bind fun _ =>
      some ((r3 ++ (⟨#[47]⟩:ByteArray)) ++ r4)))
noncomputable def M_spec_ParseRat (s:ByteArray):Option (Rt × Bool) :=
  (M_spec_SplitAny s (⟨#[47]⟩:ByteArray)).bind fun r =>
  (idx r 0).bind fun _ =>
  (r[0]?).bind fun e =>
  (M_spec_ParseBigInt e).bind fun (r0,r1) =>
  cond (decide ((r.length:Int) > 1))
    ((idx r 1).bind fun _ =>
    (r[1]?).bind fun e1 =>
    (M_spec_ParseNat e1).bind fun (r0_1,r1_1) =>
    cond (!r1)
      (some ((⟨false,([]:List Int),([]:List Int)⟩:Rt),false))
      (cond (!r1_1)
        (some ((⟨false,([]:List Int),([]:List Int)⟩:Rt),false))
        ((M_spec_FormatRat (⟨r0.neg,r0.mag,r0_1⟩:Rt)).bind fun r2 =>
        cond (strEq r2 (⟨#[]⟩:ByteArray))
          (some ((⟨false,([]:List Int),([]:List Int)⟩:Rt),false))
          ((M_spec_FormatRat (⟨r0.neg,r0.mag,r0_1⟩:Rt)).bind fun r3 =>
          cond (!(strEq r3 s))
            (some ((⟨false,([]:List Int),([]:List Int)⟩:Rt),false))
            (some ((⟨r0.neg,r0.mag,r0_1⟩:Rt),true))))))
    (cond (!r1)
      (some ((⟨false,([]:List Int),([]:List Int)⟩:Rt),false))
      ((M_spec_FormatRat (⟨r0.neg,r0.mag,([1]:List Int)⟩:Rt)).bind fun r2 =>
      cond (strEq r2 (⟨#[]⟩:ByteArray))
        (some ((⟨false,([]:List Int),([]:List Int)⟩:Rt),false))
        ((M_spec_FormatRat (⟨r0.neg,r0.mag,([1]:List Int)⟩:Rt)).bind fun r3 =>
        cond (!(strEq r3 s))
          (some ((⟨false,([]:List Int),([]:List Int)⟩:Rt),false))
          (some ((⟨r0.neg,r0.mag,([1]:List Int)⟩:Rt),true)))))
noncomputable def M_spec_RatFromInt (n:Int):Option Rt :=
  (M_spec_BigIntOf n).bind fun r =>
  some (⟨r.neg,r.mag,([1]:List Int)⟩:Rt)
noncomputable def M_spec_RatSign (r:Rt):Option Int :=
  (M_spec_RatOk r).bind fun r1 =>
  cond (!r1)
    (some 0)
    (cond ((r.mag.length:Int) == 0)
      (some 0)
      (cond r.neg
        (some (-1))
        (some 1)))
end Go.Di
namespace Go.Di
noncomputable def M_spec_l05Zero:Option Rt :=
  (M_spec_RatFromInt 0).bind fun r =>
  some r
noncomputable def M_spec_l05Nil (r:Rt):Option Bool :=
  some ((r.mag.length:Int) == 0)
end Go.Di
namespace Go.Di
end Go.Di
namespace Go.Di
end Go.Di
namespace Go.Di
end Go.Di
namespace Go.Di
noncomputable def M_impl_StationOk (s:Sta) (plane:Bool):Option Bool :=
  (M_impl_IsName s.name).bind fun r =>
  cond r
    ((M_impl_RatOk s.x).bind fun r1 =>
    cond r1
      ((M_impl_RatOk s.y).bind fun r2 =>
      cond r2
        (cond plane
          (some true)
          ((M_impl_isZero s.y).bind fun r3 =>
          some r3))
        (some false))
      (some false))
    (some false)
noncomputable def S_impl_FindStation_0:ByteArray × (List Sta) × Int × Int × Unit → Option ((ByteArray × (List Sta) × Int × Int × Unit) ⊕ ((Int × Unit) ⊕ (Unit))):=fun (name,t,t1,t2,_) =>
  cond (decide (t2 < t1))
    ((idx t t2).bind fun e =>
    cond (strEq e.name name)
      (some (.inr (.inl (t2,()))))
      (some (.inl (name,t,t1,IntKind.i64.wrap (t2 + 1),()))))
    (some (.inr (.inr (()))))
noncomputable def L_impl_FindStation_0 (name:ByteArray) (t:List Sta) (t1:Int) (t2:Int):Option ((Int × Unit) ⊕ (Unit)):=whileO S_impl_FindStation_0 (name,t,t1,t2,())
noncomputable def M_impl_FindStation (n:Net) (name:ByteArray):Option Int :=
  (L_impl_FindStation_0 name n.stations (n.stations.length:Int) 0).bind fun r =>
  match r with
  | .inl (t,_) =>
    some t
  | .inr _ =>
    some (-1)
noncomputable def S_impl_NetworkOk_0:(List Sta) × Int × Int × Bool × (List Sta) × Unit → Option (((List Sta) × Int × Int × Bool × (List Sta) × Unit) ⊕ ((Bool × Unit) ⊕ (Unit))):=fun (t,t1,t2,v,v1,_) =>
  cond (decide (t2 < t1))
    ((idx t t2).bind fun e =>
    (M_impl_StationOk e v).bind fun r =>
    cond (!r)
      (some (.inr (.inl (false,()))))
      ((M_impl_FindStation (⟨v,v1⟩:Net) e.name).bind fun r1 =>
      cond (r1 != t2)
        (some (.inr (.inl (false,()))))
        (some (.inl (t,t1,IntKind.i64.wrap (t2 + 1),v,v1,())))))
    (some (.inr (.inr (()))))
noncomputable def L_impl_NetworkOk_0 (t:List Sta) (t1:Int) (t2:Int) (v:Bool) (v1:List Sta):Option ((Bool × Unit) ⊕ (Unit)):=whileO S_impl_NetworkOk_0 (t,t1,t2,v,v1,())
noncomputable def M_impl_NetworkOk (n:Net):Option Bool :=
  cond (decide ((n.stations.length:Int) > 8))
    (some false)
    ((L_impl_NetworkOk_0 n.stations (n.stations.length:Int) 0 n.plane n.stations).bind fun r =>
    match r with
    | .inl (t,_) =>
      some t
    | .inr _ =>
      some true)
noncomputable def M_impl_axes (plane:Bool):Option Int :=
  cond plane
    (some 2)
    (some 1)
noncomputable def M_spec_StationOk (s:Sta) (plane:Bool):Option Bool :=
  (M_spec_IsName s.name).bind fun r =>
  cond r
    ((M_spec_RatOk s.x).bind fun r1 =>
    cond r1
      ((M_spec_RatOk s.y).bind fun r2 =>
      cond r2
        (cond plane
          (some true)
          ((M_spec_l05Nil s.y).bind fun r3 =>
          some r3))
        (some false))
      (some false))
    (some false)
noncomputable def S_spec_FindStation_0:ByteArray × (List Sta) × Int × Int × Unit → Option ((ByteArray × (List Sta) × Int × Int × Unit) ⊕ ((Int × Unit) ⊕ (Unit))):=fun (name,t,t1,t2,_) =>
  cond (decide (t2 < t1))
    ((idx t t2).bind fun e =>
    cond (strEq e.name name)
      (some (.inr (.inl (t2,()))))
      (some (.inl (name,t,t1,IntKind.i64.wrap (t2 + 1),()))))
    (some (.inr (.inr (()))))
noncomputable def L_spec_FindStation_0 (name:ByteArray) (t:List Sta) (t1:Int) (t2:Int):Option ((Int × Unit) ⊕ (Unit)):=whileO S_spec_FindStation_0 (name,t,t1,t2,())
noncomputable def M_spec_FindStation (n:Net) (name:ByteArray):Option Int :=
  (L_spec_FindStation_0 name n.stations (n.stations.length:Int) 0).bind fun r =>
  match r with
  | .inl (t,_) =>
    some t
  | .inr _ =>
    some (-1)
noncomputable def S_spec_NetworkOk_0:(List Sta) × Int × Int × Bool × (List Sta) × Unit → Option (((List Sta) × Int × Int × Bool × (List Sta) × Unit) ⊕ ((Bool × Unit) ⊕ (Unit))):=fun (t,t1,t2,v,v1,_) =>
  cond (decide (t2 < t1))
    ((idx t t2).bind fun e =>
    (M_spec_StationOk e v).bind fun r =>
    cond (!r)
      (some (.inr (.inl (false,()))))
      ((M_spec_FindStation (⟨v,v1⟩:Net) e.name).bind fun r1 =>
      cond (r1 != t2)
        (some (.inr (.inl (false,()))))
        (some (.inl (t,t1,IntKind.i64.wrap (t2 + 1),v,v1,())))))
    (some (.inr (.inr (()))))
noncomputable def L_spec_NetworkOk_0 (t:List Sta) (t1:Int) (t2:Int) (v:Bool) (v1:List Sta):Option ((Bool × Unit) ⊕ (Unit)):=whileO S_spec_NetworkOk_0 (t,t1,t2,v,v1,())
noncomputable def M_spec_NetworkOk (n:Net):Option Bool :=
  cond (decide ((n.stations.length:Int) > 8))
    (some false)
    ((L_spec_NetworkOk_0 n.stations (n.stations.length:Int) 0 n.plane n.stations).bind fun r =>
    match r with
    | .inl (t,_) =>
      some t
    | .inr _ =>
      some true)
end Go.Di
namespace Go.Di
noncomputable def M_impl_IsBetween (kind:Int):Option Bool :=
  cond (kind == 2)
    (some true)
    (cond (decide (kind ≥ 5))
      (some (decide (kind ≤ 8)))
      (some false))
noncomputable def M_impl_KindName (kind:Int):Option ByteArray :=
  cond (decide (kind < 1))
    (some (⟨#[]⟩:ByteArray))
    (cond (decide (kind > 8))
      (some (⟨#[]⟩:ByteArray))
      ((idx ([(⟨#[]⟩:ByteArray),(⟨#[104,101,105,103,104,116]⟩:ByteArray),(⟨#[114,105,115,101]⟩:ByteArray),(⟨#[101,97,115,116]⟩:ByteArray),(⟨#[110,111,114,116,104]⟩:ByteArray),(⟨#[100,101,97,115,116]⟩:ByteArray),(⟨#[100,110,111,114,116,104]⟩:ByteArray),(⟨#[100,105,115,116,97,110,99,101]⟩:ByteArray),(⟨#[98,101,97,114,105,110,103]⟩:ByteArray)]:List ByteArray) kind).bind fun _ =>
      (([(⟨#[]⟩:ByteArray),(⟨#[104,101,105,103,104,116]⟩:ByteArray),(⟨#[114,105,115,101]⟩:ByteArray),(⟨#[101,97,115,116]⟩:ByteArray),(⟨#[110,111,114,116,104]⟩:ByteArray),(⟨#[100,101,97,115,116]⟩:ByteArray),(⟨#[100,110,111,114,116,104]⟩:ByteArray),(⟨#[100,105,115,116,97,110,99,101]⟩:ByteArray),(⟨#[98,101,97,114,105,110,103]⟩:ByteArray)]:List ByteArray)[kind.toNat]?).bind fun e =>
      some e))
noncomputable def M_impl_observationFits (n:Net) (o:Obs):Option Bool :=
  cond (decide (o.kind < 1))
    (some false)
    (cond (decide (o.kind > 8))
      (some false)
      (cond (n.plane == (decide (o.kind ≤ 2)))
        (some false)
        (cond (decide (o.frm < 0))
          (some false)
          (cond (decide (o.frm ≥ (n.stations.length:Int)))
            (some false)
            ((M_impl_IsBetween o.kind).bind fun r =>
            cond r
              (cond (decide (o.to < 0))
                (some false)
                (cond (decide (o.to ≥ (n.stations.length:Int)))
                  (some false)
                  (cond (o.to == o.frm)
                    (some false)
                    ((M_impl_RatOk o.value).bind fun r1 =>
                    cond (!r1)
                      (some false)
                      (cond (o.kind == 7)
                        ((M_impl_sign o.value).bind fun r2 =>
                        cond (decide (r2 ≤ 0))
                          (some false)
                          ((M_impl_RatOk o.variance).bind fun r3 =>
                          cond r3
                            ((M_impl_sign o.variance).bind fun r4 =>
                            some (decide (r4 > 0)))
                            (some false)))
                        ((M_impl_RatOk o.variance).bind fun r2 =>
                        cond r2
                          ((M_impl_sign o.variance).bind fun r3 =>
                          some (decide (r3 > 0)))
                          (some false)))))))
              (cond (o.to != 0)
                (some false)
                ((M_impl_RatOk o.value).bind fun r1 =>
                cond (!r1)
                  (some false)
                  (cond (o.kind == 7)
                    ((M_impl_sign o.value).bind fun r2 =>
                    cond (decide (r2 ≤ 0))
                      (some false)
                      ((M_impl_RatOk o.variance).bind fun r3 =>
                      cond r3
                        ((M_impl_sign o.variance).bind fun r4 =>
                        some (decide (r4 > 0)))
                        (some false)))
                    ((M_impl_RatOk o.variance).bind fun r2 =>
                    cond r2
                      ((M_impl_sign o.variance).bind fun r3 =>
                      some (decide (r3 > 0)))
                      (some false))))))))))
noncomputable def M_impl_ObservationOk (n:Net) (o:Obs):Option Bool :=
  (M_impl_NetworkOk n).bind fun r =>
  cond r
    ((M_impl_observationFits n o).bind fun r1 =>
    some r1)
    (some false)
noncomputable def S_impl_ObservationsOk_0:(List Obs) × Int × Int × Bool × (List Sta) × Unit → Option (((List Obs) × Int × Int × Bool × (List Sta) × Unit) ⊕ ((Bool × Unit) ⊕ (Unit))):=fun (t,t1,t2,v,v1,_) =>
  cond (decide (t2 < t1))
    ((idx t t2).bind fun e =>
    (M_impl_observationFits (⟨v,v1⟩:Net) e).bind fun r =>
    cond (!r)
      (some (.inr (.inl (false,()))))
      (some (.inl (t,t1,IntKind.i64.wrap (t2 + 1),v,v1,()))))
    (some (.inr (.inr (()))))
noncomputable def L_impl_ObservationsOk_0 (t:List Obs) (t1:Int) (t2:Int) (v:Bool) (v1:List Sta):Option ((Bool × Unit) ⊕ (Unit)):=whileO S_impl_ObservationsOk_0 (t,t1,t2,v,v1,())
noncomputable def M_impl_ObservationsOk (n:Net) (list:List Obs):Option Bool :=
  (M_impl_NetworkOk n).bind fun r =>
  cond (!r)
    (some false)
    (cond (decide ((list.length:Int) > 20))
      (some false)
      ((L_impl_ObservationsOk_0 list (list.length:Int) 0 n.plane n.stations).bind fun r1 =>
      match r1 with
      | .inl (t,_) =>
        some t
      | .inr _ =>
        some true))
noncomputable def M_spec_IsBetween (kind:Int):Option Bool :=
  cond (kind == 2)
    (some true)
    ((M_spec_l01In kind 5 8).bind fun r =>
    some r)
noncomputable def M_spec_KindName (kind:Int):Option ByteArray :=
  (M_spec_l01In kind 1 8).bind fun r =>
  cond (!r)
    (some (⟨#[]⟩:ByteArray))
    ((idx ([(⟨#[104,101,105,103,104,116]⟩:ByteArray),(⟨#[114,105,115,101]⟩:ByteArray),(⟨#[101,97,115,116]⟩:ByteArray),(⟨#[110,111,114,116,104]⟩:ByteArray),(⟨#[100,101,97,115,116]⟩:ByteArray),(⟨#[100,110,111,114,116,104]⟩:ByteArray),(⟨#[100,105,115,116,97,110,99,101]⟩:ByteArray),(⟨#[98,101,97,114,105,110,103]⟩:ByteArray)]:List ByteArray) (IntKind.i64.wrap (kind - 1))).bind fun _ =>
    (([(⟨#[104,101,105,103,104,116]⟩:ByteArray),(⟨#[114,105,115,101]⟩:ByteArray),(⟨#[101,97,115,116]⟩:ByteArray),(⟨#[110,111,114,116,104]⟩:ByteArray),(⟨#[100,101,97,115,116]⟩:ByteArray),(⟨#[100,110,111,114,116,104]⟩:ByteArray),(⟨#[100,105,115,116,97,110,99,101]⟩:ByteArray),(⟨#[98,101,97,114,105,110,103]⟩:ByteArray)]:List ByteArray)[(IntKind.i64.wrap (kind - 1)).toNat]?).bind fun e =>
    some e)
noncomputable def M_spec_l11Fits (kind:Int) (plane:Bool):Option Bool :=
  cond plane
    ((M_spec_l01In kind 3 8).bind fun r =>
    some r)
    ((M_spec_l01In kind 1 2).bind fun r =>
    some r)
noncomputable def M_spec_l11Ok (n:Net) (o:Obs):Option Bool :=
  (M_spec_l11Fits o.kind n.plane).bind fun r =>
  cond (!r)
    (some false)
    ((M_spec_l01In o.frm 0 (IntKind.i64.wrap ((n.stations.length:Int) - 1))).bind fun r1 =>
    cond (!r1)
      (some false)
      ((M_spec_IsBetween o.kind).bind fun r2 =>
      cond r2
        ((M_spec_l01In o.to 0 (IntKind.i64.wrap ((n.stations.length:Int) - 1))).bind fun r3 =>
        cond (!r3)
          (some false)
          (cond (o.to == o.frm)
            (some false)
            ((M_spec_IsBetween o.kind).bind fun r4 =>
            cond (!r4)
              (cond (o.to != 0)
                (some false)
                ((M_spec_RatOk o.value).bind fun r5 =>
                cond r5
                  (cond (o.kind != 7)
                    ((M_spec_RatSign o.variance).bind fun r6 =>
                    some (decide (r6 > 0)))
                    ((M_spec_RatSign o.value).bind fun r6 =>
                    cond (decide (r6 > 0))
                      ((M_spec_RatSign o.variance).bind fun r7 =>
                      some (decide (r7 > 0)))
                      (some false)))
                  (some false)))
              ((M_spec_RatOk o.value).bind fun r5 =>
              cond r5
                (cond (o.kind != 7)
                  ((M_spec_RatSign o.variance).bind fun r6 =>
                  some (decide (r6 > 0)))
                  ((M_spec_RatSign o.value).bind fun r6 =>
                  cond (decide (r6 > 0))
                    ((M_spec_RatSign o.variance).bind fun r7 =>
                    some (decide (r7 > 0)))
                    (some false)))
                (some false)))))
        ((M_spec_IsBetween o.kind).bind fun r3 =>
        cond (!r3)
          (cond (o.to != 0)
            (some false)
            ((M_spec_RatOk o.value).bind fun r4 =>
            cond r4
              (cond (o.kind != 7)
                ((M_spec_RatSign o.variance).bind fun r5 =>
                some (decide (r5 > 0)))
                ((M_spec_RatSign o.value).bind fun r5 =>
                cond (decide (r5 > 0))
                  ((M_spec_RatSign o.variance).bind fun r6 =>
                  some (decide (r6 > 0)))
                  (some false)))
              (some false)))
          ((M_spec_RatOk o.value).bind fun r4 =>
          cond r4
            (cond (o.kind != 7)
              ((M_spec_RatSign o.variance).bind fun r5 =>
              some (decide (r5 > 0)))
              ((M_spec_RatSign o.value).bind fun r5 =>
              cond (decide (r5 > 0))
                ((M_spec_RatSign o.variance).bind fun r6 =>
                some (decide (r6 > 0)))
                (some false)))
            (some false)))))
noncomputable def M_spec_ObservationOk (n:Net) (o:Obs):Option Bool :=
  (M_spec_NetworkOk n).bind fun r =>
  cond r
    ((M_spec_l11Ok n o).bind fun r1 =>
    some r1)
    (some false)
noncomputable def S_spec_ObservationsOk_0:(List Obs) × Int × Int × Bool × (List Sta) × Unit → Option (((List Obs) × Int × Int × Bool × (List Sta) × Unit) ⊕ ((Bool × Unit) ⊕ (Unit))):=fun (t,t1,t2,v,v1,_) =>
  cond (decide (t2 < t1))
    ((idx t t2).bind fun e =>
    (M_spec_l11Ok (⟨v,v1⟩:Net) e).bind fun r =>
    cond (!r)
      (some (.inr (.inl (false,()))))
      (some (.inl (t,t1,IntKind.i64.wrap (t2 + 1),v,v1,()))))
    (some (.inr (.inr (()))))
noncomputable def L_spec_ObservationsOk_0 (t:List Obs) (t1:Int) (t2:Int) (v:Bool) (v1:List Sta):Option ((Bool × Unit) ⊕ (Unit)):=whileO S_spec_ObservationsOk_0 (t,t1,t2,v,v1,())
noncomputable def M_spec_ObservationsOk (n:Net) (list:List Obs):Option Bool :=
  (M_spec_NetworkOk n).bind fun r =>
  cond (!r)
    (some false)
    (cond (decide ((list.length:Int) > 20))
      (some false)
      ((L_spec_ObservationsOk_0 list (list.length:Int) 0 n.plane n.stations).bind fun r1 =>
      match r1 with
      | .inl (t,_) =>
        some t
      | .inr _ =>
        some true))
end Go.Di
namespace Go.Di
end Go.Di
namespace Go.Di
theorem whileO_run {σ ρ:Type} (f:σ → Option (σ ⊕ ρ)) (st:Nat → σ) (n:Nat) (h:∀ i,i < n → f (st i) = some (.inl (st (i + 1)))):whileO f (st 0) = whileO f (st n):=by
  induction n with
  | zero => rfl
  | succ n ih =>
    rw [ih fun i hi => h i (Nat.lt_succ_of_lt hi)]
    exact whileO_inl (h n (Nat.lt_succ_self n))
theorem whileO_upto {σ ρ:Type} (f:σ → Option (σ ⊕ ρ)) (st:Nat → σ) (n:Nat) (r:ρ) (h:∀ i,i < n → f (st i) = some (.inl (st (i + 1)))) (he:f (st n) = some (.inr r)):whileO f (st 0) = some r:=by
  rw [whileO_run f st n h]; exact whileO_inr he
theorem wrap_i64 {n:Int} (h1:-9223372036854775808 ≤ n) (h2:n ≤ 9223372036854775807):IntKind.i64.wrap n = n:=by
  simp only [IntKind.wrap,IntKind.bits,IntKind.signed]
  simp
  omega
theorem idx_nat {α:Type} (xs:List α) (i:Nat):idx xs (i:Int) = xs[i]?:=by simp [idx]
theorem idx_at {α:Type} {xs:List α} {i:Nat} (h:i < xs.length):idx xs (i:Int) = some xs[i]:=by simp [idx,h]
theorem idx_int {α:Type} {xs:List α} {i:Int} (h0:0 ≤ i) (h:i < xs.length):idx xs i = some (xs[i.toNat]'(by omega)):=by
  have:i.toNat < xs.length:=by omega
  simp [idx,h0,this]
@[simp] theorem guardO_true:guardO true = some ():=rfl
noncomputable def eqB {α:Type} (a b:α):Bool:=@decide (a = b) (Classical.propDecidable _)
theorem eqB_iff {α:Type} {a b:α}:eqB a b = true ↔ a = b:=by unfold eqB; exact @decide_eq_true_iff _ (Classical.propDecidable _)
@[simp] theorem eqB_self {α:Type} (a:α):eqB a a = true:=eqB_iff.2 rfl
theorem eqB_false {α:Type} {a b:α}:eqB a b = false ↔ a ≠ b:=by rw [← Bool.not_eq_true,eqB_iff]
theorem strEq_eq (a b:ByteArray):strEq a b = eqB a b:=by
  rw [Bool.eq_iff_iff,eqB_iff]
  unfold strEq
  rw [beq_iff_eq,Go.ByteArray.toList_eq,Go.ByteArray.toList_eq]
  constructor
  · intro h
    cases a with | mk a => cases b with | mk b =>
    congr 1; exact Array.ext' h
  · rintro rfl; rfl
@[simp] theorem strEq_self (a:ByteArray):strEq a a = true:=by rw [strEq_eq]; exact eqB_self a
end Go.Di
namespace Go.Di
theorem eq_loop {α:Type} {S:(List α × List α × Int × Unit) → Option ((List α × List α × Int × Unit) ⊕ ((Bool × Unit) ⊕ Unit))} {a b:List α} (hl:a.length = b.length)
    (hS:∀ (i:Nat) (h:i < a.length),S (a,b,(i:Int),()) = some (cond (eqB a[i] (b[i]'(by omega))) (.inl (a,b,((i + 1:Nat):Int),())) (.inr (.inl (false,())))))
    (hE:S (a,b,(a.length:Int),()) = some (.inr (.inr ()))):whileO S (a,b,0,()) = some (cond (eqB a b) (.inr ()) (.inl (false,()))):=by
  have key:∀ (m i:Nat),i + m = a.length → a.take i = b.take i → whileO S (a,b,(i:Int),()) = some (cond (eqB a b) (.inr ()) (.inl (false,()))):=by
    intro m
    induction m with
    | zero =>
      intro i him ht
      have:a = b:=by
        have h1:a.take i = a:=List.take_of_length_le (by omega)
        have h2:b.take i = b:=List.take_of_length_le (by omega)
        rw [← h1,← h2,ht]
      subst this
      have hi:i = a.length:=by omega
      subst hi
      rw [whileO_inr hE]; simp
    | succ m ih =>
      intro i him ht
      have hi:i < a.length:=by omega
      cases he:eqB a[i] (b[i]'(by omega)) with
      | true =>
        rw [whileO_inl (by rw [hS i hi,he]; rfl)]
        refine ih (i + 1) (by omega) ?_
        rw [List.take_succ_eq_append_getElem hi,List.take_succ_eq_append_getElem (by omega),ht,eqB_iff.1 he]
      | false =>
        rw [whileO_inr (by rw [hS i hi,he]; rfl)]
        have hne:eqB a b = false:=by
          rw [eqB_false]; rintro rfl; rw [eqB_self] at he; cases he
        rw [hne]; rfl
  exact key a.length 0 (by omega) (by simp)
end Go.Di
namespace Go.Di
def SzR (x:Option Int) (left:Int) (n:Nat):Prop:=x = some (-1) ∨ ∃ r:Int,0 ≤ r ∧ r + n = left ∧ x = some r
theorem SzR.bind {x:Option Int} {left:Int} {n m:Nat} {k:Int → Option Int} (h:SzR x left n) (hk:∀ r:Int,0 ≤ r → r + n = left → SzR (k r) r m) :
    SzR (x.bind fun r => cond (decide (r < 0)) (some (-1)) (k r)) left (n + m):=by
  rcases h with rfl | ⟨r,h0,h1,rfl⟩
  · exact .inl rfl
  · have:decide (r < 0) = false:=by simpa using h0
    simp only [Option.bind_some,this,cond_false]
    rcases hk r h0 h1 with h | ⟨r',k0,k1,h⟩
    · exact .inl h
    · exact .inr ⟨r',k0,by omega,h⟩
theorem SzR.ret {left:Int} (h:0 ≤ left):SzR (some left) left 0:=.inr ⟨left,h,by omega,rfl⟩
/-! ### Copies -/
theorem succ_wrap {i n:Nat} (h:i < n) (hn:n ≤ 1048576):IntKind.i64.wrap ((i:Int) + 1) = ((i + 1:Nat):Int):=by
  rw [wrap_i64 (by omega) (by omega)]; simp
def Rt.fit (r:Rt):Prop:=r.mag.length ≤ 1048576 ∧ r.den.length ≤ 1048576
def Obs.fit (o:Obs):Prop:=o.value.fit ∧ o.variance.fit
def Sta.fit (s:Sta):Prop:=s.x.fit ∧ s.y.fit
def lfit {α:Type} (f:α → Prop) (l:List α):Prop:=l.length ≤ 1048576 ∧ ∀ x ∈ l,f x
/-! ### What is measured fits -/
/-! ### Comparisons -/
theorem i64_ne (a b:Nat):((a:Int) != (b:Int)) = !(a == b):=by
  rw [Bool.eq_iff_iff]; simp; omega
theorem eq_list {α:Type} {S:(List α × List α × Int × Unit) → Option ((List α × List α × Int × Unit) ⊕ ((Bool × Unit) ⊕ Unit))} {f:α → α → Option Bool} {a b:List α} (hlen:a.length ≤ 1048576)
    (hel:∀ x ∈ a,∀ y ∈ b,f x y = some (eqB x y))
    (hS:S = fun (a,b,i,_) => cond (decide (i < (a.length:Int))) ((idx a i).bind fun e => (idx b i).bind fun e1 => (f e e1).bind fun r => cond (!r) (some (.inr (.inl (false,())))) (some (.inl (a,b,IntKind.i64.wrap (i + 1),())))) (some (.inr (.inr ())))) :
    (cond ((a.length:Int) != (b.length:Int)) (some false) ((whileO S (a,b,0,())).bind fun r => match r with
      | .inl (t,_) => some t
      | .inr _ => some true)) = some (eqB a b):=by
  rw [i64_ne]
  by_cases hl:a.length = b.length
  · rw [eq_loop (S:=S) hl (by
      intro i hi
      have hlt:decide ((i:Int) < (a.length:Int)) = true:=by simpa using hi
      have hwr:=succ_wrap hi hlen
      subst hS
      simp only [hlt,cond_true,idx_at hi,idx_at (show i < b.length by omega),Option.bind_some,hel _ (List.getElem_mem hi) _ (List.getElem_mem (show i < b.length by omega)),hwr]
      cases eqB a[i] (b[i]'(by omega)) <;> rfl) (by subst hS; simp)]
    have:(a.length == b.length) = true:=by simpa using hl
    rw [this]
    cases eqB a b <;> rfl
  · have:(a.length == b.length) = false:=by simpa using hl
    rw [this]
    have hne:eqB a b = false:=by rw [eqB_false]; rintro rfl; exact hl rfl
    rw [hne]; rfl
theorem beq_int (a b:Int):(a == b) = eqB a b:=by rw [Bool.eq_iff_iff,eqB_iff]; simp
theorem bne_int (a b:Int):(a != b) = !eqB a b:=by rw [← beq_int]; rfl
theorem beq_bool (a b:Bool):(a == b) = eqB a b:=by rw [Bool.eq_iff_iff,eqB_iff]; simp
theorem eq_ints {a b:List Int} (ha:a.length ≤ 1048576):M_laws_eqIntS a b = some (eqB a b):=by
  unfold M_laws_eqIntS L_laws_eqIntS_0
  exact eq_list (S:=S_laws_eqIntS_0) (f:=fun x y => some (eqB x y)) ha (fun _ _ _ _ => rfl) (by
    funext ⟨a,b,i,u⟩
    simp only [S_laws_eqIntS_0,bne_int,Option.bind_some])
theorem chain {x:Option Bool} {a b:Bool} {k:Option Bool} (hx:x = some a) (hk:k = some b):(x.bind fun r => cond (!r) (some false) k) = some (a && b):=by
  subst hx; subst hk; cases a <;> rfl
theorem chain1 {x:Option Bool} {a:Bool} (hx:x = some a):(x.bind fun r => cond (!r) (some false) (some true)) = some a:=by
  subst hx; cases a <;> rfl
theorem chain0 {a b:Bool} {k:Option Bool} (hk:k = some b):cond (!a) (some false) k = some (a && b):=by
  subst hk; cases a <;> rfl
theorem eq_rat {r s:Rt} (h:r.fit):M_laws_eqRat r s = some (eqB r s):=by
  unfold M_laws_eqRat M_laws_eqBigInt
  rw [chain (chain0 (chain1 (eq_ints h.1))) (chain1 (eq_ints h.2)),beq_bool]
  congr 1
  rw [Bool.eq_iff_iff,eqB_iff]
  simp only [Bool.and_eq_true,eqB_iff]
  cases r; cases s; simp [and_assoc]
theorem eq_obs {r s:Obs} (h:r.fit):M_laws_eqObservation r s = some (eqB r s):=by
  unfold M_laws_eqObservation
  simp only [bne_int]
  rw [chain0 (chain0 (chain0 (chain (eq_rat h.1) (chain1 (eq_rat h.2)))))]
  congr 1
  rw [Bool.eq_iff_iff,eqB_iff]
  simp only [Bool.and_eq_true,eqB_iff]
  cases r; cases s; simp
theorem eq_sta {r s:Sta} (h:r.fit):M_laws_eqStation r s = some (eqB r s):=by
  unfold M_laws_eqStation
  simp only [strEq_eq,beq_bool]
  rw [chain0 (chain (eq_rat h.1) (chain (eq_rat h.2) (chain0 rfl)))]
  congr 1
  rw [Bool.eq_iff_iff,eqB_iff]
  simp only [Bool.and_eq_true,eqB_iff]
  cases r; cases s; simp
theorem eq_obss {a b:List Obs} (h:lfit Obs.fit a):M_laws_eqObservationS a b = some (eqB a b) :=
  eq_list (S:=S_laws_eqObservationS_0) h.1 (fun x hx _y _ => eq_obs (h.2 x hx)) rfl
theorem eq_stas {a b:List Sta} (h:lfit Sta.fit a):M_laws_eqStationS a b = some (eqB a b) :=
  eq_list (S:=S_laws_eqStationS_0) h.1 (fun x hx _y _ => eq_sta (h.2 x hx)) rfl
theorem eq_net {a b:Net} (h:lfit Sta.fit a.stations):M_laws_eqNetwork a b = some (eqB a b):=by
  unfold M_laws_eqNetwork
  rw [beq_bool,chain0 (chain1 (eq_stas h))]
  congr 1
  rw [Bool.eq_iff_iff,eqB_iff]
  simp only [Bool.and_eq_true,eqB_iff]
  cases a; cases b; simp
theorem eq_book {a b:Bk} (hs:lfit Sta.fit a.stations) (ho:lfit Obs.fit a.obs):M_laws_eqBook a b = some (eqB a b):=by
  unfold M_laws_eqBook
  rw [chain (eq_net (a:=⟨a.plane,a.stations⟩) hs) (chain1 (eq_obss ho))]
  congr 1
  rw [Bool.eq_iff_iff,eqB_iff]
  simp only [Bool.and_eq_true,eqB_iff]
  cases a; cases b; simp [and_assoc]
end Go.Di
namespace Go.Di
theorem find_loop {σ ρ:Type} {S:σ → Option (σ ⊕ ρ)} (st:Nat → σ) (n:Nat) (r:Nat → Option ρ) (e:ρ)
    (hS:∀ i,i < n → S (st i) = some (match r i with | some y => .inr y | none => .inl (st (i + 1)))) (hE:S (st n) = some (.inr e)) :
    whileO S (st 0) = some (((List.range n).findSome? r).getD e):=by
  have key:∀ (m i:Nat),i + m = n → (∀ j,j < i → r j = none) → whileO S (st i) = some (((List.range n).findSome? r).getD e):=by
    intro m
    induction m with
    | zero =>
      intro i him hn
      have:i = n:=by omega
      subst this
      rw [whileO_inr hE]
      have:(List.range i).findSome? r = none:=by
        rw [List.findSome?_eq_none_iff]
        intro j hj; exact hn j (List.mem_range.1 hj)
      rw [this]; rfl
    | succ m ih =>
      intro i him hn
      have hi:i < n:=by omega
      cases hr:r i with
      | some y =>
        rw [whileO_inr (r:=y) (by rw [hS i hi,hr])]
        have:(List.range n).findSome? r = some y:=by
          rw [List.findSome?_eq_some_iff]
          refine ⟨List.range i,i,(List.range' (i + 1) m),?_,hr,fun j hj => hn j (List.mem_range.1 hj)⟩
          rw [List.range_eq_range',List.range_eq_range',← him]
          rw [← List.range'_append_1 (s:=0) (m:=i) (n:=m + 1),List.range'_succ]; simp
        rw [this]; rfl
      | none =>
        rw [whileO_inl (y:=st (i + 1)) (by rw [hS i hi,hr])]
        refine ih (i + 1) (by omega) fun j hj => ?_
        by_cases h:j = i
        · subst h; exact hr
        · exact hn j (by omega)
  exact key n 0 (by omega) fun j hj => by omega
theorem dlt {i n:Nat} (h:i < n):decide ((i:Int) < (n:Int)) = true:=by simpa using h
theorem bind_and {x:Option Bool} {a b:Bool} {k:Option Bool} (hx:x = some a) (h:k = some b):(x.bind fun r => cond r k (some false)) = some (a && b):=by subst hx; subst h; cases a <;> rfl
/-! ### Searches -/
theorem findStation_eq:M_spec_FindStation = M_impl_FindStation:=rfl
noncomputable def findSta (l:List Sta) (name:ByteArray):Int:=((List.range l.length).findSome? fun i => match l[i]? with
  | some e => cond (eqB e.name name) (some (i:Int)) none
  | none => none).getD (-1)
theorem impl_find {n:Net} {name:ByteArray} (h:n.stations.length ≤ 1048576):M_impl_FindStation n name = some (findSta n.stations name):=by
  unfold M_impl_FindStation L_impl_FindStation_0
  have key:=find_loop (S:=S_impl_FindStation_0) (fun i => (name,n.stations,(n.stations.length:Int),(i:Int),())) n.stations.length (fun i => match n.stations[i]? with
    | some e => cond (eqB e.name name) (some (Sum.inl ((i:Int),()))) none
    | none => none) (.inr ()) (fun i hi => by
      simp only [S_impl_FindStation_0,dlt hi,cond_true,idx_at hi,Option.bind_some,succ_wrap hi h,strEq_eq,List.getElem?_eq_getElem hi]
      cases eqB n.stations[i].name name <;> rfl) (by simp [S_impl_FindStation_0])
  rw [show ((0:Int)) = ((0:Nat):Int) from rfl,key]
  have:∀ l:List Nat,(match (l.findSome? (fun i => match n.stations[i]? with
      | some e => cond (eqB e.name name) (some (Sum.inl (β:=Unit) ((i:Int),()))) none
      | none => none)).getD (.inr ()) with
    | .inl (t,_) => some t
    | .inr _ => some (-1)) = some ((l.findSome? fun i => match n.stations[i]? with
      | some e => cond (eqB e.name name) (some (i:Int)) none
      | none => none).getD (-1)):=by
    intro l
    induction l with
    | nil => rfl
    | cons j l ih =>
      simp only [List.findSome?_cons]
      cases n.stations[j]? with
      | none => exact ih
      | some e =>
        cases hb:eqB e.name name with
        | true => simp [hb]
        | false => simpa [hb] using ih
  exact this _
end Go.Di
namespace Go.Di
def Dig (xs:List Int):Prop:=∀ d ∈ xs,0 ≤ d ∧ d < 1000000000
def nv:List Int → Int
  | [] => 0
  | d :: r => d + 1000000000 * nv r
def bp (n:Nat):Int:=1000000000 ^ n
theorem bp_zero:bp 0 = 1:=rfl
theorem bp_succ (n:Nat):bp (n + 1) = 1000000000 * bp n:=by unfold bp; rw [Int.pow_succ,Int.mul_comm]
theorem bp_add (m n:Nat):bp (m + n) = bp m * bp n:=by unfold bp; rw [Int.pow_add]
theorem bp_pos (n:Nat):0 < bp n:=by
  induction n with
  | zero => decide
  | succ n ih => rw [bp_succ]; omega
theorem bp_mono {m n:Nat} (h:m ≤ n):bp m ≤ bp n:=by
  induction h with
  | refl => exact Int.le_refl _
  | step h ih => rw [bp_succ]; have:=bp_pos; rename_i k; have:=bp_pos k; omega
theorem nv_append (xs ys:List Int):nv (xs ++ ys) = nv xs + bp xs.length * nv ys:=by
  induction xs with
  | nil => simp [nv,bp_zero]
  | cons d r ih =>
    simp only [List.cons_append,nv,ih,List.length_cons,bp_succ]
    grind
theorem nv_snoc (xs:List Int) (d:Int):nv (xs ++ [d]) = nv xs + bp xs.length * d:=by
  rw [nv_append]; simp [nv]
theorem Dig.nil:Dig []:=fun d h => by cases h
theorem Dig.cons {d:Int} {r:List Int} (h:0 ≤ d ∧ d < 1000000000) (hr:Dig r):Dig (d :: r):=fun e he => by
  rcases List.mem_cons.1 he with rfl | he
  · exact h
  · exact hr e he
theorem Dig.head {d:Int} {r:List Int} (h:Dig (d :: r)):0 ≤ d ∧ d < 1000000000:=h d (List.mem_cons_self ..)
theorem Dig.tail {d:Int} {r:List Int} (h:Dig (d :: r)):Dig r:=fun e he => h e (List.mem_cons_of_mem _ he)
theorem Dig.append {xs ys:List Int} (h:Dig xs) (k:Dig ys):Dig (xs ++ ys):=fun e he => by
  rcases List.mem_append.1 he with he | he
  · exact h e he
  · exact k e he
theorem Dig.snoc {xs:List Int} {d:Int} (h:Dig xs) (hd:0 ≤ d ∧ d < 1000000000):Dig (xs ++ [d]):=h.append (Dig.cons hd Dig.nil)
theorem Dig.take {xs:List Int} (h:Dig xs) (n:Nat):Dig (xs.take n):=fun e he => h e (List.mem_of_mem_take he)
theorem Dig.drop {xs:List Int} (h:Dig xs) (n:Nat):Dig (xs.drop n):=fun e he => h e (List.mem_of_mem_drop he)
theorem Dig.at {xs:List Int} (h:Dig xs) {i:Nat} (hi:i < xs.length):0 ≤ xs[i] ∧ xs[i] < 1000000000:=h _ (List.getElem_mem hi)
theorem Dig.zeros (n:Nat):Dig (List.replicate n 0):=fun d h => by rw [List.eq_of_mem_replicate h]; omega
theorem nv_zeros (n:Nat):nv (List.replicate n 0) = 0:=by
  induction n with
  | zero => rfl
  | succ n ih => rw [List.replicate_succ,nv,ih]; rfl
theorem nv_nonneg:∀ {xs:List Int},Dig xs → 0 ≤ nv xs
  | [],_ => Int.le_refl _
  | d :: r,h => by have:=nv_nonneg h.tail; have:=h.head; simp only [nv]; omega
theorem nv_lt:∀ {xs:List Int},Dig xs → nv xs < bp xs.length
  | [],_ => by simp [nv,bp_zero]
  | d :: r,h => by have:=nv_lt h.tail; have:=h.head; simp only [nv,List.length_cons,bp_succ]; omega
def Top0 (xs:List Int):Prop:=xs.getLast? ≠ some 0
def Can (xs:List Int):Prop:=Dig xs ∧ Top0 xs
theorem Can.tail {d:Int} {r:List Int} (h:Can (d :: r)):Can r:=by
  refine ⟨h.1.tail,?_⟩
  cases r with
  | nil => simp [Top0]
  | cons e r => have:=h.2; simpa [Top0,List.getLast?_cons_cons] using this
theorem Can.zero {xs:List Int} (h:Can xs) (hv:nv xs = 0):xs = []:=by
  induction xs with
  | nil => rfl
  | cons d r ih =>
    have h1:=nv_nonneg h.1.tail
    have h2:=h.1.head
    simp only [nv] at hv
    have h3:nv r = 0:=by omega
    have h4:=ih h.tail h3
    subst h4
    have:d = 0:=by omega
    subst this
    exact absurd rfl h.2
theorem Can.ext:∀ {xs ys:List Int},Can xs → Can ys → nv xs = nv ys → xs = ys
  | [],ys,_,h,hv => (h.zero hv.symm).symm
  | d :: r,[],h,_,hv => h.zero hv
  | d :: r,e :: s,h,k,hv => by
    have h1:=h.1.head
    have k1:=k.1.head
    simp only [nv] at hv
    have:d = e:=by omega
    subst this
    rw [Can.ext h.tail k.tail (by omega)]
def dg (n:Nat):List Int:=if h:n = 0 then [] else ((n % 1000000000:Nat):Int) :: dg (n / 1000000000)
termination_by n
decreasing_by exact Nat.div_lt_self (by omega) (by decide)
theorem dg_zero:dg 0 = []:=by rw [dg]; rfl
theorem dg_pos {n:Nat} (h:n ≠ 0):dg n = ((n % 1000000000:Nat):Int) :: dg (n / 1000000000):=by rw [dg,dif_neg h]
theorem dg_dig (n:Nat):Dig (dg n):=by
  induction n using Nat.strongRecOn with
  | _ n ih =>
    by_cases h:n = 0
    · subst h; rw [dg_zero]; exact Dig.nil
    · rw [dg_pos h]
      exact Dig.cons (by omega) (ih _ (Nat.div_lt_self (by omega) (by decide)))
theorem nv_dg (n:Nat):nv (dg n) = n:=by
  induction n using Nat.strongRecOn with
  | _ n ih =>
    by_cases h:n = 0
    · subst h; rw [dg_zero]; rfl
    · rw [dg_pos h,nv,ih _ (Nat.div_lt_self (by omega) (by decide))]; omega
theorem dg_nil {n:Nat}:dg n = [] ↔ n = 0:=by
  constructor
  · intro h; have:=nv_dg n; rw [h] at this; simp [nv] at this; omega
  · rintro rfl; exact dg_zero
theorem dg_can (n:Nat):Can (dg n):=by
  refine ⟨dg_dig n,?_⟩
  induction n using Nat.strongRecOn with
  | _ n ih =>
    by_cases h:n = 0
    · subst h; rw [dg_zero]; simp [Top0]
    · rw [dg_pos h]
      have hd:=ih _ (Nat.div_lt_self (by omega) (by decide):n / 1000000000 < n)
      cases hr:dg (n / 1000000000) with
      | nil =>
        have:=dg_nil.1 hr
        simp [Top0]; omega
      | cons e s => rw [hr] at hd; simpa [Top0,List.getLast?_cons_cons] using hd
theorem Can.dg {xs:List Int} (h:Can xs):xs = dg (nv xs).toNat :=
  h.ext (dg_can _) (by rw [nv_dg]; have:=nv_nonneg h.1; omega)
theorem dg_inj {m n:Nat} (h:dg m = dg n):m = n:=by have:=nv_dg m; rw [h,nv_dg] at this; omega
def tz (xs:List Int):List Int:=(xs.reverse.dropWhile (· == 0)).reverse
theorem tz_snoc (xs:List Int) (d:Int):tz (xs ++ [d]) = if d = 0 then tz xs else xs ++ [d]:=by
  unfold tz
  rw [List.reverse_append]
  by_cases h:d = 0
  · simp [h]
  · simp [h]
theorem tz_spec:∀ (n:Nat) (xs:List Int),xs.length = n → Dig xs → Can (tz xs) ∧ nv (tz xs) = nv xs:=by
  intro n
  induction n with
  | zero =>
    intro xs hl h
    have:xs = []:=List.length_eq_zero_iff.1 hl
    subst this
    exact ⟨⟨Dig.nil,by simp [Top0,tz]⟩,rfl⟩
  | succ n ih =>
    intro xs hl h
    obtain ⟨ys,d,rfl⟩:∃ ys d,xs = ys ++ [d]:=⟨xs.dropLast,xs.getLast (by intro e; subst e; simp at hl),(List.dropLast_concat_getLast _).symm⟩
    rw [tz_snoc]
    have hd:=h d (by simp)
    have hy:Dig ys:=fun e he => h e (List.mem_append_left _ he)
    split
    · rename_i h0; subst h0
      obtain ⟨k1,k2⟩:=ih ys (by simpa using hl) hy
      exact ⟨k1,by rw [k2,nv_snoc]; omega⟩
    · rename_i h0
      exact ⟨⟨h,by simpa [Top0] using h0⟩,rfl⟩
theorem tz_dg {xs:List Int} (h:Dig xs):tz xs = dg (nv xs).toNat:=by
  obtain ⟨h1,h2⟩:=tz_spec _ xs rfl h
  rw [h1.dg,h2]
theorem len_dg {n k:Nat}:(dg n).length ≤ k ↔ (n:Int) < bp k:=by
  have h1:=nv_lt (dg_dig n)
  rw [nv_dg] at h1
  constructor
  · intro h; have:=bp_mono h; omega
  · intro h
    rcases Nat.lt_or_ge k (dg n).length with hk | hk
    · exfalso
      -- the top limb is worth at least bp k
      have hne:dg n ≠ []:=by intro e; rw [e] at hk; simp at hk
      have hs:=List.dropLast_concat_getLast hne
      have hv:=nv_snoc (dg n).dropLast ((dg n).getLast hne)
      rw [hs,nv_dg] at hv
      have hd:=dg_dig n _ (List.getLast_mem hne)
      have h0:(dg n).getLast hne ≠ 0:=by
        intro e
        have:=(dg_can n).2
        rw [Top0,List.getLast?_eq_some_getLast hne,e] at this
        exact this rfl
      have hp:=nv_nonneg ((dg_dig n).take ((dg n).length - 1))
      rw [← List.dropLast_eq_take] at hp
      have hl:(dg n).dropLast.length = (dg n).length - 1:=List.length_dropLast
      have hb:=bp_mono (show k ≤ (dg n).dropLast.length by omega)
      have hq:=bp_pos (dg n).dropLast.length
      have:bp (dg n).dropLast.length ≤ bp (dg n).dropLast.length * (dg n).getLast hne:=by
        have h1:(1:Int) ≤ (dg n).getLast hne:=by omega
        have:=Int.mul_le_mul_of_nonneg_left h1 (Int.le_of_lt hq)
        simpa using this
      omega
    · exact hk
end Go.Di
namespace Go.Di
noncomputable def pB (p:Prop):Bool:=@decide p (Classical.propDecidable _)
theorem pB_iff {p:Prop}:pB p = true ↔ p:=by unfold pB; exact @decide_eq_true_iff _ (Classical.propDecidable _)
theorem pB_congr {p q:Prop} (h:p ↔ q):pB p = pB q:=by rw [Bool.eq_iff_iff,pB_iff,pB_iff]; exact h
theorem pB_not {p:Prop}:pB p = false ↔ ¬ p:=by rw [← Bool.not_eq_true,pB_iff]
theorem all_loopE {σ τ:Type} {S:σ → Option (σ ⊕ ((Bool × Unit) ⊕ τ))} (st:Nat → σ) (n:Nat) (p:Nat → Bool) (e:τ)
    (hS:∀ i,i < n → S (st i) = some (cond (p i) (.inl (st (i + 1))) (.inr (.inl (false,()))))) (hE:S (st n) = some (.inr (.inr e))) :
    whileO S (st 0) = some (cond ((List.range n).all p) (.inr e) (.inl (false,()))):=by
  rw [find_loop st n (fun i => cond (p i) none (some (.inl (false,())))) (.inr e) (fun i hi => by rw [hS i hi]; cases p i <;> rfl) hE]
  congr 1
  cases h:(List.range n).all p with
  | true =>
    have:(List.range n).findSome? (fun i => cond (p i) none (some (Sum.inl (β:=τ) (false,())))) = none:=by
      rw [List.findSome?_eq_none_iff]
      intro j hj
      rw [List.all_eq_true] at h
      rw [h j hj]; rfl
    rw [this]; rfl
  | false =>
    have hne:(List.range n).findSome? (fun i => cond (p i) none (some (Sum.inl (β:=τ) (false,())))) = some (.inl (false,())):=by
      cases hf:(List.range n).findSome? (fun i => cond (p i) none (some (Sum.inl (β:=τ) (false,())))) with
      | none =>
        rw [List.findSome?_eq_none_iff] at hf
        have:(List.range n).all p = true:=by
          rw [List.all_eq_true]
          intro j hj
          have:=hf j hj
          cases hp:p j with
          | true => rfl
          | false => rw [hp] at this; cases this
        rw [this] at h; cases h
      | some y =>
        obtain ⟨j,hj,hy⟩:=List.exists_of_findSome?_eq_some hf
        cases hp:p j with
        | true => rw [hp] at hy; cases hy
        | false => rw [hp] at hy; cases hy; rfl
    rw [hne]; rfl
def atB {α:Type} (f:α → Bool) (a:List α) (i:Nat):Bool:=((a[i]?).map f).getD true
theorem atB_at {α:Type} (f:α → Bool) {a:List α} {i:Nat} (h:i < a.length):atB f a i = f a[i]:=by simp [atB,h]
theorem all_range {α:Type} (f:α → Bool) (a:List α):(List.range a.length).all (atB f a) = a.all f:=by
  rw [Bool.eq_iff_iff,List.all_eq_true,List.all_eq_true]
  constructor
  · intro h d hd
    obtain ⟨i,hi,rfl⟩:=List.getElem_of_mem hd
    have:=h i (List.mem_range.2 hi)
    rw [atB_at f hi] at this; exact this
  · intro h i hi
    have hi:=List.mem_range.1 hi
    rw [atB_at f hi]
    exact h _ (List.getElem_mem hi)
def digB (d:Int):Bool:=decide (0 ≤ d) && decide (d < 1000000000)
theorem digB_all {a:List Int}:a.all digB = true ↔ Dig a:=by
  rw [List.all_eq_true]
  constructor
  · intro h d hd; have:=h d hd; simp [digB] at this; exact this
  · intro h d hd; have:=h d hd; simp [digB]; exact this
def NatOk (a:List Int):Prop:=Can a ∧ a.length ≤ 60
theorem last_idx {a:List Int} (hn:a ≠ []) (hl:a.length ≤ 1073741824):idx a (IntKind.i64.wrap ((a.length:Int) - 1)) = some (a.getLast hn):=by
  have hp:0 < a.length:=List.length_pos_iff.2 hn
  rw [wrap_i64 (by omega) (by omega)]
  have:((a.length:Int) - 1) = ((a.length - 1:Nat):Int):=by omega
  rw [this,idx_at (by omega)]
  rw [List.getLast_eq_getElem]
theorem spec_natOk {a:List Int} (h:a.length ≤ 1048576):M_spec_NatOk a = some (pB (NatOk a)):=by
  have hloop:L_spec_NatOk_0 a a (a.length:Int) 0 = some (cond (a.all digB) (.inr (a,())) (.inl (false,()))):=by
    rw [← all_range]
    refine all_loopE (S:=S_spec_NatOk_0) (fun i => (a,a,(a.length:Int),(i:Int),())) a.length (atB digB a) (a,()) (fun i hi => ?_) (by simp [S_spec_NatOk_0])
    simp only [S_spec_NatOk_0,dlt hi,cond_true,idx_at hi,Option.bind_some,succ_wrap hi h,M_spec_l01In,atB_at digB hi]
    have e1:digB a[i] = (decide (a[i] ≥ 0) && decide (a[i] ≤ 999999999)):=by
      unfold digB
      rw [Bool.eq_iff_iff]; simp; omega
    rw [e1]
    cases decide (a[i] ≥ 0) <;> cases decide (a[i] ≤ 999999999) <;> rfl
  unfold M_spec_NatOk
  rw [hloop]
  · have hdig:=@digB_all a
    cases hall:a.all digB with
    | false =>
      simp only [cond_false,Option.bind_some]
      rw [hall] at hdig
      congr 1
      symm
      rw [pB_not]
      intro hk
      exact absurd (hdig.2 hk.1.1) (by simp)
    | true =>
      rw [hall] at hdig
      have hd:=hdig.1 rfl
      simp only [cond_true,Option.bind_some]
      by_cases h60:a.length ≤ 60
      · have:decide ((a.length:Int) ≤ 60) = true:=by simpa using (by omega:(a.length:Int) ≤ 60)
        rw [this,cond_true]
        cases a with
        | nil => simp [pB_iff,NatOk,Can,Top0,Dig.nil]
        | cons d r =>
          have h0:(((d :: r).length:Int) == 0) = false:=by simp; omega
          rw [h0,cond_false,last_idx (by simp) (by omega),Option.bind_some]
          congr 1
          rw [Bool.eq_iff_iff,pB_iff]
          simp only [bne_iff_ne,ne_eq,NatOk,Can,Top0,hd,true_and,h60,and_true]
          rw [List.getLast?_eq_some_getLast (by simp)]
          simp
      · have:decide ((a.length:Int) ≤ 60) = false:=by simpa using (by omega:(60:Int) < a.length)
        rw [this,cond_false]
        congr 1
        symm
        rw [pB_not]
        intro hk; exact h60 hk.2
theorem impl_natOk {a:List Int} (h:a.length ≤ 1048576):M_impl_NatOk a = some (pB (NatOk a)):=by
  have hloop:L_impl_NatOk_0 a (a.length:Int) 0 = some (cond (a.all digB) (.inr ()) (.inl (false,()))):=by
    rw [← all_range]
    refine all_loopE (S:=S_impl_NatOk_0) (fun i => (a,(a.length:Int),(i:Int),())) a.length (atB digB a) () (fun i hi => ?_) (by simp [S_impl_NatOk_0])
    simp only [S_impl_NatOk_0,dlt hi,cond_true,idx_at hi,Option.bind_some,succ_wrap hi h,atB_at digB hi]
    have e1:digB a[i] = (!decide (a[i] < 0) && !decide (a[i] ≥ 1000000000)):=by
      unfold digB
      rw [Bool.eq_iff_iff]; simp
    rw [e1]
    cases decide (a[i] < 0) <;> cases decide (a[i] ≥ 1000000000) <;> rfl
  have hdig:=@digB_all a
  have fin:(Option.bind (L_impl_NatOk_0 a (a.length:Int) 0) fun r => match r with
      | .inl (t,_) => some t
      | .inr _ => some true) = some (a.all digB):=by
    rw [hloop]; cases a.all digB <;> rfl
  unfold M_impl_NatOk
  by_cases h60:a.length ≤ 60
  · have:decide ((a.length:Int) > 60) = false:=by simpa using (by omega:(a.length:Int) ≤ 60)
    rw [this,cond_false]
    cases a with
    | nil =>
      rw [show decide ((([]:List Int).length:Int) > 0) = false from rfl,cond_false]
      refine fin.trans ?_
      congr 1; symm; rw [show ([]:List Int).all digB = true from rfl,pB_iff]; exact ⟨⟨Dig.nil,by simp [Top0]⟩,by simp⟩
    | cons d r =>
      have h0:decide ((((d :: r).length:Nat):Int) > 0) = true:=by simp
      rw [h0,cond_true,last_idx (by simp) (by omega),Option.bind_some]
      have key:some (pB (NatOk (d :: r))) = cond ((d :: r).getLast (by simp) == 0) (some false) (some ((d :: r).all digB)):=by
        have e:pB (NatOk (d :: r)) = (!((d :: r).getLast (by simp) == 0) && (d :: r).all digB):=by
          rw [Bool.eq_iff_iff,pB_iff,Bool.and_eq_true,hdig]
          simp only [NatOk,Can,Top0,h60,and_true]
          rw [List.getLast?_eq_some_getLast (by simp)]
          simp [and_comm]
        rw [e]
        cases ((d :: r).getLast (by simp) == 0) <;> rfl
      rw [key]
      congr 1
  · have:decide ((a.length:Int) > 60) = true:=by simpa using (by omega:(60:Int) < a.length)
    rw [this,cond_true]
    congr 1; symm; rw [pB_not]; intro hk; exact h60 hk.2
/-! ### Zeros taken away -/
theorem trim_loop {S:(Int × List Int × Unit) → Option ((Int × List Int × Unit) ⊕ (Int × List Int × Unit))} {a:List Int}
    (hS:∀ (i:Nat) (h:i < a.length),S (((i + 1:Nat):Int),a,()) = some (cond (a[i] == 0) (.inl ((i:Int),a,())) (.inr (((i + 1:Nat):Int),a,()))))
    (hE:S (0,a,()) = some (.inr (0,a,()))):∀ m:Nat,m ≤ a.length → ∃ k:Nat,k ≤ m ∧ a.take k = tz (a.take m) ∧ whileO S ((m:Int),a,()) = some ((k:Int),a,()):=by
  intro m
  induction m with
  | zero => intro _; exact ⟨0,Nat.le_refl _,by simp [tz],whileO_inr hE⟩
  | succ m ih =>
    intro hm
    have hlt:m < a.length:=hm
    have ht:a.take (m + 1) = a.take m ++ [a[m]]:=by rw [List.take_succ_eq_append_getElem hlt]
    cases hz:a[m] == 0 with
    | true =>
      obtain ⟨k,k1,k2,k3⟩:=ih (by omega)
      refine ⟨k,by omega,?_,?_⟩
      · rw [ht,tz_snoc,if_pos (by simpa using hz)]; exact k2
      · rw [whileO_inl (by rw [hS m hlt,hz]; rfl)]; exact k3
    | false =>
      refine ⟨m + 1,Nat.le_refl _,?_,?_⟩
      · rw [ht,tz_snoc,if_neg (by simpa using hz)]
      · exact whileO_inr (by rw [hS m hlt,hz]; rfl)
theorem inside_cut (n k:Nat) (h:k ≤ n):guardO (inside n (0,(k:Int))) = some ():=by
  have:inside n (0,(k:Int)) = true:=by unfold inside; simp; omega
  rw [this]; rfl
theorem spec_trim {a:List Int} (h:a.length ≤ 1073741824):M_spec_l02Trim_c a = some (tz a):=by
  unfold M_spec_l02Trim_c L_spec_l02Trim_c_0
  obtain ⟨k,k1,k2,k3⟩:=trim_loop (S:=S_spec_l02Trim_c_0) (a:=a) (fun i hi => by
    have e1:decide (((i + 1:Nat):Int) > 0) = true:=by simp
    have e2:IntKind.i64.wrap (((i + 1:Nat):Int) - 1) = (i:Int):=by rw [wrap_i64 (by omega) (by omega)]; omega
    simp only [S_spec_l02Trim_c_0,e1,cond_true,e2,idx_at hi,Option.bind_some,Int.toNat_natCast,List.getElem?_eq_getElem hi]
    cases a[i] == 0 <;> rfl) (by simp [S_spec_l02Trim_c_0]) a.length (Nat.le_refl _)
  rw [k3]
  simp only [Option.bind_some,inside_cut _ _ k1,Int.toNat_natCast]
  rw [k2,List.take_length]
theorem impl_trim {a:List Int} (h:a.length ≤ 1073741824):M_impl_trim_c a = some (tz a):=by
  unfold M_impl_trim_c L_impl_trim_c_0
  obtain ⟨k,k1,k2,k3⟩:=trim_loop (S:=S_impl_trim_c_0) (a:=a) (fun i hi => by
    have e1:decide (((i + 1:Nat):Int) > 0) = true:=by simp
    have e2:IntKind.i64.wrap (((i + 1:Nat):Int) - 1) = (i:Int):=by rw [wrap_i64 (by omega) (by omega)]; omega
    simp only [S_impl_trim_c_0,e1,cond_true,e2,idx_at hi,Option.bind_some,Int.toNat_natCast,List.getElem?_eq_getElem hi]
    cases a[i] == 0 <;> rfl) (by simp [S_impl_trim_c_0]) a.length (Nat.le_refl _)
  rw [k3]
  simp only [Option.bind_some,inside_cut _ _ k1,Int.toNat_natCast]
  rw [k2,List.take_length]
end Go.Di
namespace Go.Di
theorem whileO_inv {σ ρ:Type} {S:σ → Option (σ ⊕ ρ)} (I:Nat → σ → Prop) (n:Nat) (Q:ρ → Prop)
    (hS:∀ i,i < n → ∀ x,I i x → (∃ y,S x = some (.inl y) ∧ I (i + 1) y) ∨ ∃ r,S x = some (.inr r) ∧ Q r) (hE:∀ x,I n x → ∃ r,S x = some (.inr r) ∧ Q r) {x:σ} (h0:I 0 x):∃ r,whileO S x = some r ∧ Q r:=by
  have key:∀ (m i:Nat) (x:σ),i + m = n → I i x → ∃ r,whileO S x = some r ∧ Q r:=by
    intro m
    induction m with
    | zero =>
      intro i x him h
      have:i = n:=by omega
      subst this
      obtain ⟨r,h1,h2⟩:=hE x h
      exact ⟨r,whileO_inr h1,h2⟩
    | succ m ih =>
      intro i x him h
      rcases hS i (by omega) x h with ⟨y,h1,h2⟩ | ⟨r,h1,h2⟩
      · obtain ⟨r,h3,h4⟩:=ih (i + 1) y (by omega) h2
        exact ⟨r,(whileO_inl h1).trans h3,h4⟩
      · exact ⟨r,whileO_inr h1,h2⟩
  exact key n 0 x (by omega) h0
theorem nv_take_succ {a:List Int} {i:Nat} (h:i < a.length):nv (a.take (i + 1)) = nv (a.take i) + bp i * a[i]:=by
  rw [List.take_succ_eq_append_getElem h,nv_snoc]
  have:(a.take i).length = i:=by rw [List.length_take]; omega
  rw [this]
theorem nv_take_all {a:List Int} {i:Nat} (h:a.length ≤ i):nv (a.take i) = nv a:=by rw [List.take_of_length_le h]
theorem take_lt {a:List Int} (h:Dig a) {i:Nat} (hi:i ≤ a.length):0 ≤ nv (a.take i) ∧ nv (a.take i) < bp i:=by
  have h1:=nv_lt (h.take i)
  rw [List.length_take,Nat.min_eq_left hi] at h1
  exact ⟨nv_nonneg (h.take i),h1⟩
theorem bp_lex {p x y s t:Int} (hp:0 < p) (hxy:x < y) (hs:s < p) (ht:0 ≤ t):s + p * x < t + p * y:=by
  have h1:=Int.mul_le_mul_of_nonneg_left (show x + 1 ≤ y by omega) (Int.le_of_lt hp)
  have h2:p * (x + 1) = p * x + p:=by grind
  omega
theorem wrap_add {n:Int} (h1:-1000000000000000000 ≤ n) (h2:n ≤ 1000000000000000000):IntKind.i64.wrap n = n:=wrap_i64 (by omega) (by omega)
theorem wrap_idx {i n:Nat} (h:i ≤ n) (hn:n ≤ 1073741824):IntKind.i64.wrap ((i:Int) + 1) = ((i + 1:Nat):Int):=by
  rw [wrap_i64 (by omega) (by omega)]; omega
theorem room {n:Nat} (h:n ≤ 1073741824):guardO (Nat.ble n maxNew) = some ():=by
  have:Nat.ble n maxNew = true:=by rw [Nat.ble_eq]; unfold maxNew; omega
  rw [this]; rfl
/-! ### Compare -/
def cmpI (x y:Int):Int:=if x < y then -1 else if y < x then 1 else 0
theorem Can.low {a:List Int} (h:Can a) (hn:a ≠ []):bp (a.length - 1) ≤ nv a:=by
  have hs:=List.dropLast_concat_getLast hn
  have hv:=nv_snoc a.dropLast (a.getLast hn)
  rw [hs] at hv
  have h1:=h.1 _ (List.getLast_mem hn)
  have h0:a.getLast hn ≠ 0:=by
    intro e
    have:=h.2
    rw [Top0,List.getLast?_eq_some_getLast hn,e] at this
    exact this rfl
  have hp:=nv_nonneg (h.1.take (a.length - 1))
  rw [← List.dropLast_eq_take] at hp
  have hl:a.dropLast.length = a.length - 1:=List.length_dropLast
  rw [hl] at hv
  have:=Int.mul_le_mul_of_nonneg_left (show 1 ≤ a.getLast hn by omega) (Int.le_of_lt (bp_pos (a.length - 1)))
  omega
theorem Can.len_lt {a b:List Int} (h:Can a) (k:Can b) (hl:a.length < b.length):nv a < nv b:=by
  have h1:=nv_lt h.1
  have hb:b ≠ []:=by intro e; subst e; simp at hl
  have h2:=k.low hb
  have h3:=bp_mono (show a.length ≤ b.length - 1 by omega)
  omega
theorem cmp_loop {S:(List Int × List Int × Int × Unit) → Option ((List Int × List Int × Int × Unit) ⊕ ((Int × Unit) ⊕ Unit))} {a b:List Int} (hl:a.length = b.length) (ha:Dig a) (hb:Dig b)
    (hS:∀ (i:Nat) (h1:i < a.length) (h2:i < b.length),S (a,b,(i:Int),()) = some (cond (decide (a[i] < b[i])) (.inr (.inl (-1,()))) (cond (decide (a[i] > b[i])) (.inr (.inl (1,()))) (.inl (a,b,(i:Int) - 1,())))))
    (hE:S (a,b,-1,()) = some (.inr (.inr ()))) :
    ((whileO S (a,b,(a.length:Int) - 1,())).bind fun r => match r with
      | .inl (t,_) => some t
      | .inr _ => some 0) = some (cmpI (nv a) (nv b)):=by
  have key:∀ m:Nat,m ≤ a.length → ((whileO S (a,b,(m:Int) - 1,())).bind fun r => match r with
      | .inl (t,_) => some t
      | .inr _ => some 0) = some (cmpI (nv (a.take m)) (nv (b.take m))):=by
    intro m
    induction m with
    | zero =>
      intro _
      rw [whileO_inr (show S (a,b,((0:Nat):Int) - 1,()) = some (.inr (.inr ())) from hE)]
      simp [cmpI]
    | succ m ih =>
      intro hm
      have h1:m < a.length:=hm
      have h2:m < b.length:=by omega
      have e:((m + 1:Nat):Int) - 1 = (m:Int):=by omega
      obtain ⟨p1,p2⟩:=take_lt ha (Nat.le_of_lt h1)
      obtain ⟨q1,q2⟩:=take_lt hb (Nat.le_of_lt h2)
      rw [nv_take_succ h1,nv_take_succ h2,e]
      by_cases hlt:a[m] < b[m]
      · rw [whileO_inr (by rw [hS m h1 h2,decide_eq_true hlt]; rfl)]
        have:=bp_lex (bp_pos m) hlt p2 q1
        simp [cmpI,this]
      · by_cases hgt:a[m] > b[m]
        · rw [whileO_inr (by rw [hS m h1 h2,decide_eq_false hlt,decide_eq_true hgt]; rfl)]
          have:=bp_lex (bp_pos m) hgt q2 p1
          have h3:¬ (nv (a.take m) + bp m * a[m] < nv (b.take m) + bp m * b[m]):=by omega
          simp [cmpI,this,h3]
        · rw [whileO_inl (by rw [hS m h1 h2,decide_eq_false hlt,decide_eq_false hgt]; rfl),ih (by omega)]
          have:a[m] = b[m]:=by omega
          rw [this]
          congr 1
          unfold cmpI
          have e1:(nv (a.take m) + bp m * b[m] < nv (b.take m) + bp m * b[m]) ↔ nv (a.take m) < nv (b.take m):=by omega
          have e2:(nv (b.take m) + bp m * b[m] < nv (a.take m) + bp m * b[m]) ↔ nv (b.take m) < nv (a.take m):=by omega
          simp only [e1,e2]
  have:=key a.length (Nat.le_refl _)
  rwa [List.take_length,hl,List.take_length,← hl] at this
theorem cmp_len {a b:List Int} (ha:Can a) (hb:Can b) {x:Option Int} (h:a.length = b.length → x = some (cmpI (nv a) (nv b))) :
    cond ((a.length:Int) != (b.length:Int)) (cond (decide ((a.length:Int) < (b.length:Int))) (some (-1)) (some 1)) x = some (cmpI (nv a) (nv b)):=by
  rw [i64_ne]
  by_cases hl:a.length = b.length
  · have:(a.length == b.length) = true:=by simpa using hl
    rw [this]; exact h hl
  · have:(a.length == b.length) = false:=by simpa using hl
    rw [this]
    simp only [Bool.not_false,cond_true]
    by_cases hlt:a.length < b.length
    · rw [decide_eq_true (by omega:(a.length:Int) < (b.length:Int)),cond_true]
      have:=ha.len_lt hb hlt
      simp [cmpI,this]
    · rw [decide_eq_false (by omega:¬ (a.length:Int) < (b.length:Int)),cond_false]
      have:=hb.len_lt ha (by omega)
      have h3:¬ nv a < nv b:=by omega
      simp [cmpI,this,h3]
theorem spec_cmp {a b:List Int} (ha:Can a) (hb:Can b) (hl:a.length ≤ 1073741824):M_spec_l02Cmp a b = some (cmpI (nv a) (nv b)):=by
  unfold M_spec_l02Cmp L_spec_l02Cmp_0
  refine cmp_len ha hb fun h => ?_
  rw [wrap_i64 (by omega) (by omega)]
  refine cmp_loop (S:=S_spec_l02Cmp_0) h ha.1 hb.1 (fun i h1 h2 => ?_) (by simp [S_spec_l02Cmp_0])
  simp only [S_spec_l02Cmp_0,show decide ((i:Int) ≥ 0) = true by simp,cond_true,idx_at h1,idx_at h2,Option.bind_some,wrap_i64 (show -9223372036854775808 ≤ (i:Int) - 1 by omega) (show (i:Int) - 1 ≤ 9223372036854775807 by omega)]
  cases decide (a[i] < b[i]) <;> cases decide (a[i] > b[i]) <;> rfl
theorem impl_cmp {a b:List Int} (ha:Can a) (hb:Can b) (hl:a.length ≤ 1073741824):M_impl_natCmp a b = some (cmpI (nv a) (nv b)):=by
  unfold M_impl_natCmp L_impl_natCmp_0
  refine cmp_len ha hb fun h => ?_
  rw [wrap_i64 (by omega) (by omega)]
  refine cmp_loop (S:=S_impl_natCmp_0) h ha.1 hb.1 (fun i h1 h2 => ?_) (by simp [S_impl_natCmp_0])
  simp only [S_impl_natCmp_0,show decide ((i:Int) ≥ 0) = true by simp,cond_true,idx_at h1,idx_at h2,Option.bind_some,wrap_i64 (show -9223372036854775808 ≤ (i:Int) - 1 by omega) (show (i:Int) - 1 ≤ 9223372036854775807 by omega)]
  cases decide (a[i] < b[i]) <;> cases decide (a[i] > b[i]) <;> rfl
/-! ### Numbers out of ints -/
theorem natOf_loop {S:(Int × List Int × Unit) → Option ((Int × List Int × Unit) ⊕ (List Int × Unit))}
    (hS:∀ (n:Nat) (out:List Int),0 < n → n ≤ 9223372036854775807 → out.length < 1073741824 → S ((n:Int),out,()) = some (.inl (((n / 1000000000:Nat):Int),out ++ [((n % 1000000000:Nat):Int)],())))
    (hE:∀ (n:Int) (out:List Int),n ≤ 0 → S (n,out,()) = some (.inr (out,()))):∀ (n:Nat) (out:List Int),n ≤ 9223372036854775807 → out.length + n < 1073741824 + 9223372036854775807 → out.length + (dg n).length ≤ 1073741824 → whileO S ((n:Int),out,()) = some (out ++ dg n,()):=by
  intro n
  induction n using Nat.strongRecOn with
  | _ n ih =>
    intro out hn _ hlen
    by_cases h:n = 0
    · subst h; rw [dg_zero,List.append_nil]; exact whileO_inr (hE _ _ (by simp))
    · have hd:=dg_pos h
      rw [hd] at hlen
      simp only [List.length_cons] at hlen
      rw [whileO_inl (hS n out (by omega) hn (by omega)),ih (n / 1000000000) (Nat.div_lt_self (by omega) (by decide)) _ (by omega) (by simp; omega) (by simp; omega),hd]
      simp
theorem len_small {n:Nat} (h:n ≤ 9223372036854775807):(dg n).length ≤ 3:=len_dg.2 (by simp [bp]; omega)
theorem spec_natOf {n:Int} (h:n ≤ 9223372036854775807):M_spec_NatOf n = some (dg n.toNat):=by
  unfold M_spec_NatOf L_spec_NatOf_0
  have hS:∀ (n:Nat) (out:List Int),0 < n → n ≤ 9223372036854775807 → out.length < 1073741824 → S_spec_NatOf_0 ((n:Int),out,()) = some (.inl (((n / 1000000000:Nat):Int),out ++ [((n % 1000000000:Nat):Int)],())):=fun n out h0 hn hl => by
    simp only [S_spec_NatOf_0,show decide ((n:Int) > 0) = true by simpa using h0,cond_true,room (show out.length + 1 ≤ 1073741824 by omega),Option.bind_some]
    rw [Int.tdiv_eq_ediv_of_nonneg (by omega),Int.tmod_eq_emod_of_nonneg (by omega),wrap_i64 (by omega) (by omega)]
    rfl
  have hE:∀ (n:Int) (out:List Int),n ≤ 0 → S_spec_NatOf_0 (n,out,()) = some (.inr (out,())):=fun n out hn => by
    simp only [S_spec_NatOf_0,show decide (n > 0) = false by simpa using hn,cond_false]
  by_cases h0:n ≤ 0
  · rw [whileO_inr (hE n [] h0)]
    have:n.toNat = 0:=by omega
    rw [this,dg_zero]; rfl
  · have e:n = ((n.toNat:Nat):Int):=by omega
    have:=natOf_loop hS hE n.toNat [] (by omega) (by simp; omega) (by have:=len_small (show n.toNat ≤ 9223372036854775807 by omega); simp; omega)
    rw [← e] at this
    rw [this]; simp
theorem impl_natOf {n:Int} (h:n ≤ 9223372036854775807):M_impl_NatOf n = some (dg n.toNat):=spec_natOf h
end Go.Di
namespace Go.Di
theorem nv_take_get (a:List Int) (i:Nat):nv (a.take (i + 1)) = nv (a.take i) + bp i * (a[i]?).getD 0:=by
  by_cases h:i < a.length
  · rw [nv_take_succ h,List.getElem?_eq_getElem h]; rfl
  · rw [nv_take_all (by omega),nv_take_all (by omega),List.getElem?_eq_none (by omega)]; simp
theorem Dig.get {a:List Int} (h:Dig a) (i:Nat):0 ≤ (a[i]?).getD 0 ∧ (a[i]?).getD 0 < 1000000000:=by
  by_cases hi:i < a.length
  · rw [List.getElem?_eq_getElem hi]; exact h.at hi
  · rw [List.getElem?_eq_none (by omega)]; simp
theorem Can.mk' {xs:List Int} (h:Dig xs) (k:xs ≠ [] → bp (xs.length - 1) ≤ nv xs):Can xs:=by
  refine ⟨h,fun hl => ?_⟩
  have hn:xs ≠ []:=by intro e; subst e; simp at hl
  have hs:=List.dropLast_concat_getLast hn
  have h0:xs.getLast hn = 0:=by rw [List.getLast?_eq_some_getLast hn] at hl; simpa using hl
  have hv:=nv_snoc xs.dropLast (xs.getLast hn)
  rw [hs,h0] at hv
  have hd:Dig xs.dropLast:=by rw [List.dropLast_eq_take]; exact h.take _
  have:=nv_lt hd
  rw [List.length_dropLast] at this
  have:=k hn
  omega
theorem eq_dg {xs:List Int} {n:Nat} (h:Can xs) (hv:nv xs = n):xs = dg n:=by rw [h.dg,hv]; simp
/-! ### Added,in the reference model -/
structure AddI (a b:List Int) (i:Nat) (c:Int) (out:List Int):Prop where
  len:out.length = i
  dig:Dig out
  c01:0 ≤ c ∧ c ≤ 1
  val:nv out + bp i * c = nv (a.take i) + nv (b.take i)
theorem AddI.step {a b out:List Int} {c:Int} {i:Nat} (h:AddI a b i c out) (ha:Dig a) (hb:Dig b) :
    AddI a b (i + 1) ((c + (a[i]?).getD 0 + (b[i]?).getD 0) / 1000000000) (out ++ [(c + (a[i]?).getD 0 + (b[i]?).getD 0) % 1000000000]):=by
  have h1:=ha.get i
  have h2:=hb.get i
  obtain ⟨hl,hd,hc,hv⟩:=h
  refine ⟨by simp [hl],hd.snoc (by omega),by omega,?_⟩
  rw [nv_snoc,hl,nv_take_get,nv_take_get,bp_succ]
  generalize hs:c + (a[i]?).getD 0 + (b[i]?).getD 0 = s at *
  have hm:s = s % 1000000000 + 1000000000 * (s / 1000000000):=by omega
  generalize s % 1000000000 = r at *
  generalize s / 1000000000 = q at *
  generalize (a[i]?).getD 0 = x at *
  generalize (b[i]?).getD 0 = y at *
  generalize bp i = p at *
  grind
end Go.Di
namespace Go.Di
theorem implAdd_step {a b out:List Int} {c:Int} {i:Nat} (ha:Dig a) (hb:Dig b) (hc:0 ≤ c ∧ c ≤ 1) (ho:out.length ≤ 1073741000) (hi:i < a.length) (hl:a.length ≤ 1073741000) :
    S_impl_natAdd_0 (a,b,c,(a.length:Int),(i:Int),out,()) = some (.inl (a,b,(c + (a[i]?).getD 0 + (b[i]?).getD 0) / 1000000000,(a.length:Int),((i + 1:Nat):Int),out ++ [(c + (a[i]?).getD 0 + (b[i]?).getD 0) % 1000000000],())):=by
  have h1:=ha.get i
  have h2:=hb.get i
  have hw:=wrap_idx (Nat.le_of_lt hi) (show a.length ≤ 1073741824 by omega)
  have hr:=room (show out.length + 1 ≤ 1073741824 by omega)
  by_cases hB:i < b.length
  · simp only [S_impl_natAdd_0,dlt hi,dlt hB,cond_true,idx_at hi,idx_at hB,Option.bind_some,hr,hw]
    rw [List.getElem?_eq_getElem hi,List.getElem?_eq_getElem hB] at *
    simp only [Option.getD_some] at *
    rw [wrap_add (n:=a[i] + c) (by omega) (by omega),wrap_add (n:=a[i] + c + b[i]) (by omega) (by omega)]
    by_cases hs:a[i] + c + b[i] ≥ 1000000000
    · rw [decide_eq_true hs,cond_true,wrap_add (by omega) (by omega)]
      rw [show (c + a[i] + b[i]) / 1000000000 = 1 by omega,show (c + a[i] + b[i]) % 1000000000 = a[i] + c + b[i] - 1000000000 by omega]
    · rw [decide_eq_false hs,cond_false]
      rw [show (c + a[i] + b[i]) / 1000000000 = 0 by omega,show (c + a[i] + b[i]) % 1000000000 = a[i] + c + b[i] by omega]
  · have hB':decide ((i:Int) < (b.length:Int)) = false:=by simpa using hB
    simp only [S_impl_natAdd_0,dlt hi,hB',cond_true,cond_false,idx_at hi,Option.bind_some,hr,hw]
    rw [List.getElem?_eq_getElem hi,List.getElem?_eq_none (by omega:b.length ≤ i)] at *
    simp only [Option.getD_some,Option.getD_none,Int.add_zero] at *
    rw [wrap_add (n:=a[i] + c) (by omega) (by omega)]
    by_cases hs:a[i] + c ≥ 1000000000
    · rw [decide_eq_true hs,cond_true,wrap_add (by omega) (by omega)]
      rw [show (c + a[i]) / 1000000000 = 1 by omega,show (c + a[i]) % 1000000000 = a[i] + c - 1000000000 by omega]
    · rw [decide_eq_false hs,cond_false]
      rw [show (c + a[i]) / 1000000000 = 0 by omega,show (c + a[i]) % 1000000000 = a[i] + c by omega]
theorem implAdd_loop {a b:List Int} (ha:Dig a) (hb:Dig b) (hl:a.length ≤ 1073741000):∃ c out,L_impl_natAdd_0 a b 0 (a.length:Int) 0 [] = some (c,out,()) ∧ AddI a b a.length c out:=by
  unfold L_impl_natAdd_0
  obtain ⟨r,h1,c,out,rfl,h2⟩:=whileO_inv (S:=S_impl_natAdd_0) (fun i x => ∃ c out,x = (a,b,c,(a.length:Int),(i:Int),out,()) ∧ AddI a b i c out) a.length (fun r => ∃ c out,r = (c,out,()) ∧ AddI a b a.length c out)
    (fun i hi x hx => by
      obtain ⟨c,out,rfl,hI⟩:=hx
      exact .inl ⟨_,implAdd_step ha hb hI.c01 (by have:=hI.len; omega) hi hl,_,_,rfl,hI.step ha hb⟩)
    (fun x hx => by
      obtain ⟨c,out,rfl,hI⟩:=hx
      exact ⟨_,by simp [S_impl_natAdd_0],c,out,rfl,hI⟩)
    (x:=(a,b,0,(a.length:Int),0,[],())) ⟨0,[],rfl,⟨rfl,Dig.nil,by omega,by simp [nv]⟩⟩
  exact ⟨c,out,h1,h2⟩
theorem implAdd_half {a b:List Int} (ha:Can a) (hb:Can b) (hl:a.length ≤ 1073740000) (hle:b.length ≤ a.length) {m:Nat} (hm:nv a + nv b = m) :
    ((guardO ((decide (0 ≤ (IntKind.i64.wrap ((a.length:Int) + 1)))) && (decide ((IntKind.i64.wrap ((a.length:Int) + 1)) ≤ (maxNew:Int))))).bind fun _ =>
    (L_impl_natAdd_0 a b 0 (a.length:Int) 0 (List.replicate 0 0:List Int)).bind fun (carry,out,_) =>
    cond (decide (carry > 0))
      ((guardO (Nat.ble (out.length + 1) maxNew)).bind fun _ =>
      some (out ++ ([1]:List Int)))
      (some out)) = some (dg m):=by
  have hw:IntKind.i64.wrap ((a.length:Int) + 1) = ((a.length + 1:Nat):Int):=wrap_idx (Nat.le_refl _) (by omega)
  rw [hw]
  have hg:guardO (decide (0 ≤ ((a.length + 1:Nat):Int)) && decide (((a.length + 1:Nat):Int) ≤ (maxNew:Int))) = some ():=by
    rw [decide_eq_true (by omega),decide_eq_true (by unfold maxNew; omega)]; rfl
  rw [hg,Option.bind_some]
  obtain ⟨c,out,h1,h2⟩:=implAdd_loop ha.1 hb.1 (by omega)
  rw [show (List.replicate 0 0:List Int) = [] from rfl,h1,Option.bind_some]
  simp only []
  have hv:=h2.val
  rw [nv_take_all (Nat.le_refl _),nv_take_all hle] at hv
  have hlen:=h2.len
  by_cases hc:c > 0
  · have hc1:c = 1:=by have:=h2.c01; omega
    subst hc1
    rw [show decide ((1:Int) > 0) = true from rfl,cond_true,room (by omega),Option.bind_some]
    refine congrArg some ?_
    have h0:=nv_nonneg h2.dig
    refine eq_dg (Can.mk' (h2.dig.snoc (by omega)) fun _ => ?_) ?_
    · rw [nv_snoc,List.length_append,hlen]; simp; omega
    · rw [nv_snoc,hlen]; omega
  · have hc0:c = 0:=by have:=h2.c01; omega
    subst hc0
    rw [show decide ((0:Int) > 0) = false from rfl,cond_false]
    refine congrArg some ?_
    refine eq_dg (Can.mk' h2.dig fun hne => ?_) (by omega)
    have hpos:=List.length_pos_iff.2 hne
    have:=ha.low (by intro e; rw [e] at hlen; simp at hlen; exact hne hlen)
    have h0:=nv_nonneg hb.1
    rw [hlen]; omega
theorem impl_add {m n:Nat} (hm:(dg m).length ≤ 1073740000) (hn:(dg n).length ≤ 1073740000):M_impl_natAdd (dg m) (dg n) = some (dg (m + n)):=by
  unfold M_impl_natAdd
  by_cases h:(dg m).length < (dg n).length
  · rw [dlt h,cond_true]
    exact implAdd_half (dg_can n) (dg_can m) hn (by omega) (by rw [nv_dg,nv_dg]; omega)
  · rw [show decide (((dg m).length:Int) < ((dg n).length:Int)) = false by simpa using h,cond_false]
    exact implAdd_half (dg_can m) (dg_can n) hm (by omega) (by rw [nv_dg,nv_dg]; omega)
/-! ### Taken away -/
structure SubI (a b:List Int) (i:Nat) (c:Int) (out:List Int):Prop where
  len:out.length = i
  dig:Dig out
  c01:0 ≤ c ∧ c ≤ 1
  val:nv out + nv (b.take i) = nv (a.take i) + bp i * c
theorem SubI.step {a b out:List Int} {c:Int} {i:Nat} (h:SubI a b i c out) (_ha:Dig a) (_hb:Dig b) {c' d:Int} (hs:d - 1000000000 * c' = (a[i]?).getD 0 - c - (b[i]?).getD 0) (hd':0 ≤ d ∧ d < 1000000000) (hc':0 ≤ c' ∧ c' ≤ 1) :
    SubI a b (i + 1) c' (out ++ [d]):=by
  obtain ⟨hl,hd,hc,hv⟩:=h
  refine ⟨by simp [hl],hd.snoc hd',hc',?_⟩
  rw [nv_snoc,hl,nv_take_get,nv_take_get,bp_succ]
  generalize (a[i]?).getD 0 = x at *
  generalize (b[i]?).getD 0 = y at *
  generalize bp i = p at *
  grind
theorem SubI.fin {a b out:List Int} {c:Int} (h:SubI a b a.length c out) (ha:Dig a) (_hb:Dig b) (hle:nv b ≤ nv a) (hlen:b.length ≤ a.length) {m:Nat} (hm:nv a - nv b = m):tz out = dg m:=by
  have hv:=h.val
  rw [nv_take_all (Nat.le_refl _),nv_take_all hlen] at hv
  have h1:=nv_lt h.dig
  rw [h.len] at h1
  have h2:=nv_lt ha
  have hp:=bp_pos a.length
  have hc:c = 0:=by
    have:=h.c01
    by_cases e:c = 0
    · exact e
    · have:c = 1:=by omega
      subst this
      omega
  subst hc
  rw [tz_dg h.dig]
  congr 1
  omega
theorem specSub_step {a b out:List Int} {c:Int} {i:Nat} (ha:Dig a) (hb:Dig b) (hI:SubI a b i c out) (hi:i < a.length) (hl:a.length ≤ 1073741000) :
    ∃ c' out',S_spec_l02Sub_0 (a,b,c,(a.length:Int),(i:Int),out,()) = some (.inl (a,b,c',(a.length:Int),((i + 1:Nat):Int),out',())) ∧ SubI a b (i + 1) c' out':=by
  have h1:=ha.get i
  have h2:=hb.get i
  have hc:=hI.c01
  have hw:=wrap_idx (Nat.le_of_lt hi) (show a.length ≤ 1073741824 by omega)
  have hr:=room (show out.length + 1 ≤ 1073741824 by have:=hI.len; omega)
  have hstep:∀ c' d:Int,d - 1000000000 * c' = (a[i]?).getD 0 - c - (b[i]?).getD 0 → 0 ≤ d ∧ d < 1000000000 → 0 ≤ c' ∧ c' ≤ 1 → SubI a b (i + 1) c' (out ++ [d]):=fun c' d => hI.step ha hb
  by_cases hB:i < b.length
  · simp only [S_spec_l02Sub_0,dlt hi,dlt hB,cond_true,idx_at hi,idx_at hB,Option.bind_some,hr,hw]
    rw [List.getElem?_eq_getElem hi,List.getElem?_eq_getElem hB] at *
    simp only [Option.getD_some] at *
    rw [wrap_add (n:=a[i] - c) (by omega) (by omega),wrap_add (n:=a[i] - c - b[i]) (by omega) (by omega)]
    by_cases hs:a[i] - c - b[i] < 0
    · rw [decide_eq_true hs,cond_true,wrap_add (by omega) (by omega)]
      exact ⟨_,_,rfl,hstep _ _ (by omega) (by omega) (by omega)⟩
    · rw [decide_eq_false hs,cond_false]
      exact ⟨_,_,rfl,hstep _ _ (by omega) (by omega) (by omega)⟩
  · have hB':decide ((i:Int) < (b.length:Int)) = false:=by simpa using hB
    simp only [S_spec_l02Sub_0,dlt hi,hB',cond_true,cond_false,idx_at hi,Option.bind_some,hr,hw]
    rw [List.getElem?_eq_getElem hi,List.getElem?_eq_none (by omega:b.length ≤ i)] at *
    simp only [Option.getD_some,Option.getD_none] at *
    rw [wrap_add (n:=a[i] - c) (by omega) (by omega)]
    by_cases hs:a[i] - c < 0
    · rw [decide_eq_true hs,cond_true,wrap_add (by omega) (by omega)]
      exact ⟨_,_,rfl,hstep _ _ (by omega) (by omega) (by omega)⟩
    · rw [decide_eq_false hs,cond_false]
      exact ⟨_,_,rfl,hstep _ _ (by omega) (by omega) (by omega)⟩
theorem Can.len_le {a b:List Int} (h:Can a) (k:Can b) (hv:nv a ≤ nv b):a.length ≤ b.length:=by
  rcases Nat.lt_or_ge b.length a.length with h1 | h1
  · have:=k.len_lt h h1; omega
  · exact h1
theorem spec_sub {m n:Nat} (hm:(dg m).length ≤ 1073740000) (hnm:n ≤ m):M_spec_l02Sub (dg m) (dg n) = some (dg (m - n)):=by
  unfold M_spec_l02Sub L_spec_l02Sub_0
  have hca:=dg_can m
  have hcb:=dg_can n
  have hva:=nv_dg m
  have hvb:=nv_dg n
  generalize dg m = a at *
  generalize dg n = b at *
  have hlen:=hcb.len_le hca (by omega)
  obtain ⟨r,h1,c,out,rfl,h2⟩:=whileO_inv (S:=S_spec_l02Sub_0) (fun i x => ∃ c out,x = (a,b,c,(a.length:Int),(i:Int),out,()) ∧ SubI a b i c out) a.length (fun r => ∃ c out,r = (out,()) ∧ SubI a b a.length c out)
    (fun i hi x hx => by
      obtain ⟨c,out,rfl,hI⟩:=hx
      obtain ⟨c',out',q1,q2⟩:=specSub_step hca.1 hcb.1 hI hi (by omega)
      exact .inl ⟨_,q1,c',out',rfl,q2⟩)
    (fun x hx => by
      obtain ⟨c,out,rfl,hI⟩:=hx
      exact ⟨_,by simp [S_spec_l02Sub_0],c,out,rfl,hI⟩)
    (x:=(a,b,0,(a.length:Int),0,[],())) ⟨0,[],rfl,⟨rfl,Dig.nil,by omega,by simp [nv]⟩⟩
  rw [h1,Option.bind_some]
  simp only []
  rw [spec_trim (by have:=h2.len; omega),Option.bind_some,h2.fin hca.1 hcb.1 (by omega) hlen (m:=m - n) (by omega)]
end Go.Di
namespace Go.Di
theorem idx_get {α:Type} {xs:List α} {i:Nat} {x:α} (h:xs[i]? = some x):idx xs (i:Int) = some x:=by rw [idx_nat]; exact h
/-! ### Divided by one limb -/
structure SmallI (a:List Int) (d:Int) (i:Nat) (rest:Int) (out:List Int):Prop where
  len:out.length = a.length
  dig:Dig out
  r0:0 ≤ rest ∧ rest < d
  val:nv (a.drop i) = d * nv (out.drop i) + rest
theorem nv_drop {a:List Int} {i:Nat} (h:i < a.length):nv (a.drop i) = a[i] + 1000000000 * nv (a.drop (i + 1)):=by
  rw [List.drop_eq_getElem_cons h,nv]
theorem Dig.set {a:List Int} (h:Dig a) (i:Nat) {d:Int} (hd:0 ≤ d ∧ d < 1000000000):Dig (a.set i d):=fun e he => by
  rcases List.mem_or_eq_of_mem_set he with h1 | rfl
  · exact h e h1
  · exact hd
theorem SmallI.step {a out:List Int} {d rest:Int} {i:Nat} (h:SmallI a d (i + 1) rest out) (ha:Dig a) (hi:i < a.length) (hd:0 < d ∧ d < 1000000000) :
    SmallI a d i ((rest * 1000000000 + a[i]) % d) (out.set i ((rest * 1000000000 + a[i]) / d)):=by
  obtain ⟨hl,hdg,hr,hv⟩:=h
  have h1:=ha.at hi
  have hq:(rest * 1000000000 + a[i]) / d < 1000000000:=by
    apply Int.ediv_lt_of_lt_mul (by omega)
    have:rest * 1000000000 ≤ (d - 1) * 1000000000:=Int.mul_le_mul_of_nonneg_right (by omega) (by omega)
    omega
  have hq0:0 ≤ (rest * 1000000000 + a[i]) / d:=Int.ediv_nonneg (by omega) (by omega)
  refine ⟨by simp [hl],hdg.set i ⟨hq0,hq⟩,⟨Int.emod_nonneg _ (by omega),Int.emod_lt_of_pos _ hd.1⟩,?_⟩
  have hio:i < (out.set i ((rest * 1000000000 + a[i]) / d)).length:=by simp; omega
  rw [nv_drop hi,nv_drop hio,hv]
  have e1:(out.set i ((rest * 1000000000 + a[i]) / d))[i] = (rest * 1000000000 + a[i]) / d:=by simp
  have e2:(out.set i ((rest * 1000000000 + a[i]) / d)).drop (i + 1) = out.drop (i + 1):=by rw [List.drop_set_of_lt (by omega)]
  rw [e1,e2]
  have hdm:=Int.mul_ediv_add_emod (rest * 1000000000 + a[i]) d
  generalize (rest * 1000000000 + a[i]) / d = q at *
  generalize (rest * 1000000000 + a[i]) % d = r at *
  generalize nv (out.drop (i + 1)) = o at *
  grind
theorem small_loop {S:(List Int × Int × Int × Int × List Int × Unit) → Option ((List Int × Int × Int × Int × List Int × Unit) ⊕ (Int × List Int × Unit))} {a:List Int} {d:Int} (ha:Dig a) (hd:0 < d ∧ d < 1000000000)
    (hS:∀ (i:Nat) (rest:Int) (out:List Int) (h:i < a.length),out.length = a.length → 0 ≤ rest → rest < d → S (a,d,rest,(i:Int),out,()) = some (.inl (a,d,(rest * 1000000000 + a[i]) % d,(i:Int) - 1,out.set i ((rest * 1000000000 + a[i]) / d),())))
    (hE:∀ rest out,S (a,d,rest,-1,out,()) = some (.inr (rest,out,()))) :
    ∃ rest out,whileO S (a,d,0,(a.length:Int) - 1,List.replicate a.length 0,()) = some (rest,out,()) ∧ out.length = a.length ∧ Dig out ∧ 0 ≤ rest ∧ rest < d ∧ nv a = d * nv out + rest:=by
  obtain ⟨r,h1,rest,out,rfl,hI⟩:=whileO_inv (S:=S) (fun k x => ∃ rest out,x = (a,d,rest,((a.length - k:Nat):Int) - 1,out,()) ∧ SmallI a d (a.length - k) rest out) a.length (fun r => ∃ rest out,r = (rest,out,()) ∧ SmallI a d 0 rest out)
    (fun k hk x hx => by
      obtain ⟨rest,out,rfl,hI⟩:=hx
      have e:((a.length - k:Nat):Int) - 1 = ((a.length - (k + 1):Nat):Int):=by omega
      have hi:a.length - (k + 1) < a.length:=by omega
      have e2:a.length - k = (a.length - (k + 1)) + 1:=by omega
      rw [e]
      refine .inl ⟨_,hS _ rest out hi hI.len hI.r0.1 hI.r0.2,_,_,rfl,?_⟩
      rw [e2] at hI
      exact hI.step ha hi hd)
    (fun x hx => by
      obtain ⟨rest,out,rfl,hI⟩:=hx
      rw [Nat.sub_self] at *
      exact ⟨_,hE rest out,rest,out,rfl,hI⟩)
    (x:=(a,d,0,(a.length:Int) - 1,List.replicate a.length 0,())) ⟨0,List.replicate a.length 0,by simp,⟨by simp,Dig.zeros _,by omega,by simp [nv]⟩⟩
  exact ⟨rest,out,h1,hI.len,hI.dig,hI.r0.1,hI.r0.2,by have:=hI.val; simpa using this⟩
theorem mk_guard {n:Nat} (h:n ≤ 1073741824):guardO (((decide (0 ≤ (n:Int))) && (decide ((n:Int) ≤ (n:Int)))) && (decide ((n:Int) ≤ (maxNew:Int)))) = some ():=by
  rw [decide_eq_true (by omega:(0:Int) ≤ n),decide_eq_true (by omega:(n:Int) ≤ n),decide_eq_true (by unfold maxNew; omega:(n:Int) ≤ (maxNew:Int))]; rfl
theorem small_dg {m:Nat} {d:Nat} {out:List Int} {rest:Int} (hd:Dig out) (h0:0 ≤ rest) (h1:rest < d) (hv:nv (dg m) = d * nv out + rest):tz out = dg (m / d) ∧ rest = ((m % d:Nat):Int):=by
  rw [nv_dg] at hv
  have hn:=nv_nonneg hd
  have hpos:(0:Int) < d:=by omega
  have e1:(m:Int) / d = nv out:=by
    rw [hv,Int.add_comm,Int.add_mul_ediv_left _ _ (by omega),Int.ediv_eq_zero_of_lt h0 h1]; omega
  have e2:(m:Int) % d = rest:=by
    rw [hv,Int.add_comm,Int.add_mul_emod_self_left,Int.emod_eq_of_lt h0 h1]
  refine ⟨?_,by rw [← e2]; simp⟩
  rw [tz_dg hd]
  have e3:((m / d:Nat):Int) = (m:Int) / (d:Int):=by simp
  refine congrArg dg ?_
  omega
theorem small_step {a out:List Int} {d rest:Int} {i:Nat} (ha:Dig a) (hd:0 < d ∧ d < 1000000000) (h:i < a.length) (hl:a.length ≤ 1073741824) (ho:out.length = a.length) (h0:0 ≤ rest) (h1:rest < d) :
    S_spec_l02Small_0 (a,d,rest,(i:Int),out,()) = some (.inl (a,d,(rest * 1000000000 + a[i]) % d,(i:Int) - 1,out.set i ((rest * 1000000000 + a[i]) / d),())):=by
  have hx:=ha.at h
  have hdn:guardO (d != 0) = some ():=by
    have:(d != 0) = true:=by simp; omega
    rw [this]; rfl
  have hq0:0 ≤ (rest * 1000000000 + a[i]) / d:=Int.ediv_nonneg (by omega) (by omega)
  have hq:(rest * 1000000000 + a[i]) / d < 1000000000:=by
    apply Int.ediv_lt_of_lt_mul (by omega)
    have:rest * 1000000000 ≤ (d - 1) * 1000000000:=Int.mul_le_mul_of_nonneg_right (by omega) (by omega)
    omega
  simp only [S_spec_l02Small_0,show decide ((i:Int) ≥ 0) = true by simp,cond_true,idx_at h,idx_at (show i < out.length by omega),hdn,Option.bind_some,Int.toNat_natCast]
  rw [wrap_add (n:=rest * 1000000000) (by omega) (by omega),wrap_add (n:=rest * 1000000000 + a[i]) (by omega) (by omega),Int.tmod_eq_emod_of_nonneg (by omega),Int.tdiv_eq_ediv_of_nonneg (by omega),wrap_add (n:=(i:Int) - 1) (by omega) (by omega),wrap_add (by omega) (by omega)]
theorem spec_small {m d:Nat} (hm:(dg m).length ≤ 1073740000) (hd:0 < d ∧ d < 1000000000):M_spec_l02Small (dg m) (d:Int) = some (dg (m / d),((m % d:Nat):Int)):=by
  unfold M_spec_l02Small L_spec_l02Small_0
  have ha:=dg_dig m
  rw [mk_guard (by omega),Option.bind_some,Int.toNat_natCast,wrap_i64 (by omega) (by omega)]
  obtain ⟨rest,out,h1,h2,h3,h4,h5,h6⟩:=small_loop (S:=S_spec_l02Small_0) (d:=(d:Int)) ha (by omega) (fun i rest out h ho h0 h1 => small_step ha (by omega) h (by omega) ho h0 h1) (by simp [S_spec_l02Small_0])
  rw [h1,Option.bind_some]
  try simp only []
  obtain ⟨e1,e2⟩:=small_dg h3 h4 h5 h6
  rw [spec_trim (by omega),Option.bind_some,e1,e2]
theorem impl_small {m d:Nat} (hm:(dg m).length ≤ 1073740000) (hd:0 < d ∧ d < 1000000000):M_impl_divSmall (dg m) (d:Int) = some (dg (m / d),dg (m % d)):=by
  unfold M_impl_divSmall L_impl_divSmall_0
  have ha:=dg_dig m
  rw [mk_guard (by omega),Option.bind_some,Int.toNat_natCast,wrap_i64 (by omega) (by omega)]
  obtain ⟨rest,out,h1,h2,h3,h4,h5,h6⟩:=small_loop (S:=S_impl_divSmall_0) (d:=(d:Int)) ha (by omega) (fun i rest out h ho h0 h1 => small_step ha (by omega) h (by omega) ho h0 h1) (by simp [S_impl_divSmall_0])
  rw [h1,Option.bind_some]
  simp only []
  obtain ⟨e1,e2⟩:=small_dg h3 h4 h5 h6
  have:m % d < d:=Nat.mod_lt _ hd.1
  rw [impl_trim (by omega),Option.bind_some,e1,e2,impl_natOf (by omega),Option.bind_some,Int.toNat_natCast]
end Go.Di
namespace Go.Di
theorem nv_set:∀ {xs:List Int} {i:Nat} {d:Int} (h:i < xs.length),nv (xs.set i d) = nv xs + bp i * (d - xs[i])
  | x :: r,0,d,h => by simp [nv,bp_zero]; omega
  | x :: r,i + 1,d,h => by
    have hi:i < r.length:=by simpa using h
    rw [List.set_cons_succ,nv,nv_set hi,bp_succ,nv]
    have:(x :: r)[i + 1] = r[i]:=rfl
    rw [this]
    generalize bp i = p
    generalize nv r = v
    grind
structure MulI (b out0:List Int) (i:Nat) (x:Int) (j:Nat) (c:Int) (out:List Int):Prop where
  len:out.length = out0.length
  dig:Dig out
  c0:0 ≤ c ∧ c < 1000000000
  rest:∀ k,i + b.length ≤ k → out[k]? = out0[k]?
  val:nv out + bp (i + j) * c = nv out0 + bp i * (x * nv (b.take j))
theorem mul_bound {e x y c:Int} (he:0 ≤ e ∧ e < 1000000000) (hx:0 ≤ x ∧ x < 1000000000) (hy:0 ≤ y ∧ y < 1000000000) (hc:0 ≤ c ∧ c < 1000000000):0 ≤ x * y ∧ x * y ≤ 999999998000000001 ∧ 0 ≤ e + x * y + c ∧ e + x * y + c < 1000000000000000000:=by
  have h0:=Int.mul_nonneg hx.1 hy.1
  have h1:x * y ≤ 999999999 * 999999999:=Int.mul_le_mul (by omega) (by omega) hy.1 (by omega)
  omega
theorem MulI.step {b out0 out:List Int} {i j:Nat} {x c:Int} (h:MulI b out0 i x j c out) (hb:Dig b) (hx:0 ≤ x ∧ x < 1000000000) (hj:j < b.length) (hk:i + j < out.length) :
    MulI b out0 i x (j + 1) ((out[i + j] + x * b[j] + c) / 1000000000) (out.set (i + j) ((out[i + j] + x * b[j] + c) % 1000000000)):=by
  obtain ⟨hl,hd,hc,hr,hv⟩:=h
  have he:=hd.at hk
  have hy:=hb.at hj
  obtain ⟨_,_,h3,h4⟩:=mul_bound he hx hy hc
  refine ⟨by simp [hl],hd.set _ (by omega),by omega,fun k hk' => ?_,?_⟩
  · rw [List.getElem?_set_ne (by omega)]; exact hr k hk'
  · rw [nv_set hk,nv_take_succ hj,show i + (j + 1) = (i + j) + 1 from rfl,bp_succ,bp_add] at *
    generalize hn:out[i + j] + x * b[j] + c = n at *
    have hm:n = n % 1000000000 + 1000000000 * (n / 1000000000):=by omega
    generalize n % 1000000000 = r at *
    generalize n / 1000000000 = q at *
    generalize out[i + j] = e at *
    generalize b[j] = y at *
    generalize nv (b.take j) = v at *
    generalize bp i = p at *
    generalize bp j = p' at *
    grind
def InnerS (S:(List Int × Int × Int × Int × List Int × Int × Int × List Int × Int × Int × List Int × Unit) → Option ((List Int × Int × Int × Int × List Int × Int × Int × List Int × Int × Int × List Int × Unit) ⊕ (List Int × Int × Int × List Int × Int × Int × List Int × Unit))):Prop :=
  (∀ (b t out:List Int) (i j:Nat) (x c t1 t2:Int) (hj:j < b.length) (hk:i + j < out.length),Dig b → Dig out → 0 ≤ x ∧ x < 1000000000 → 0 ≤ c ∧ c < 1000000000 → out.length ≤ 1073741824 →
    S (b,(i:Int),x,c,t,t1,t2,b,(b.length:Int),(j:Int),out,()) = some (.inl (b,(i:Int),x,(out[i + j] + x * b[j] + c) / 1000000000,t,t1,t2,b,(b.length:Int),((j + 1:Nat):Int),out.set (i + j) ((out[i + j] + x * b[j] + c) % 1000000000),()))) ∧
  ∀ (b t out:List Int) (i x c t1 t2:Int),S (b,i,x,c,t,t1,t2,b,(b.length:Int),(b.length:Int),out,()) = some (.inr (b,i,c,t,t1,t2,out,()))
theorem inner_spec:InnerS S_spec_l02Mul_1:=by
  refine ⟨fun b t out i j x c t1 t2 hj hk hb ho hx hc hl => ?_,fun b t out i x c t1 t2 => by simp [S_spec_l02Mul_1]⟩
  obtain ⟨h1,h2,h3,h4⟩:=mul_bound (ho.at hk) hx (hb.at hj) hc
  have he:=ho.at hk
  have e1:IntKind.i64.wrap ((i:Int) + (j:Int)) = ((i + j:Nat):Int):=by rw [wrap_i64 (by omega) (by omega)]; omega
  have e2:IntKind.i64.wrap ((j:Int) + 1) = ((j + 1:Nat):Int):=by rw [wrap_i64 (by omega) (by omega)]; omega
  simp only [S_spec_l02Mul_1,dlt hj,cond_true,idx_at hj,e1,idx_at hk,Int.toNat_natCast,List.getElem?_eq_getElem hk,Option.bind_some,e2]
  rw [wrap_add (n:=x * b[j]) (by omega) (by omega),wrap_add (n:=out[i + j] + x * b[j]) (by omega) (by omega),wrap_add (n:=out[i + j] + x * b[j] + c) (by omega) (by omega),
    Int.tdiv_eq_ediv_of_nonneg h3,Int.tmod_eq_emod_of_nonneg h3,wrap_add (by omega) (by omega)]
theorem inner_impl:InnerS S_impl_natMul_1:=inner_spec
theorem inner_loop {S:(List Int × Int × Int × Int × List Int × Int × Int × List Int × Int × Int × List Int × Unit) → Option ((List Int × Int × Int × Int × List Int × Int × Int × List Int × Int × Int × List Int × Unit) ⊕ (List Int × Int × Int × List Int × Int × Int × List Int × Unit))} (hS:InnerS S)
    {b t out0:List Int} {i:Nat} {x t1 t2:Int} (hb:Dig b) (hd:Dig out0) (hx:0 ≤ x ∧ x < 1000000000) (hl:out0.length ≤ 1073741824) (hfit:i + b.length ≤ out0.length) :
    ∃ c out,whileO S (b,(i:Int),x,0,t,t1,t2,b,(b.length:Int),0,out0,()) = some (b,(i:Int),c,t,t1,t2,out,()) ∧ MulI b out0 i x b.length c out:=by
  obtain ⟨r,h1,c,out,rfl,h2⟩:=whileO_inv (S:=S) (fun j y => ∃ c out,y = (b,(i:Int),x,c,t,t1,t2,b,(b.length:Int),(j:Int),out,()) ∧ MulI b out0 i x j c out) b.length (fun r => ∃ c out,r = (b,(i:Int),c,t,t1,t2,out,()) ∧ MulI b out0 i x b.length c out)
    (fun j hj y hy => by
      obtain ⟨c,out,rfl,hI⟩:=hy
      have hk:i + j < out.length:=by rw [hI.len]; omega
      exact .inl ⟨_,hS.1 b t out i j x c t1 t2 hj hk hb hI.dig hx hI.c0 (by rw [hI.len]; exact hl),_,_,rfl,hI.step hb hx hj hk⟩)
    (fun y hy => by
      obtain ⟨c,out,rfl,hI⟩:=hy
      exact ⟨_,hS.2 b t out i x c t1 t2,c,out,rfl,hI⟩)
    (x:=(b,(i:Int),x,0,t,t1,t2,b,(b.length:Int),0,out0,())) ⟨0,out0,rfl,⟨rfl,hd,by omega,fun _ _ => rfl,by simp [nv]⟩⟩
  exact ⟨c,out,h1,h2⟩
structure OutI (a b:List Int) (i:Nat) (out:List Int):Prop where
  len:out.length = a.length + b.length
  dig:Dig out
  zero:∀ k,i + b.length ≤ k → k < out.length → out[k]? = some 0
  val:nv out = nv (a.take i) * nv b
theorem OutI.step {a b out0 out:List Int} {i:Nat} {c:Int} (h:OutI a b i out0) (hi:i < a.length) (hm:MulI b out0 i a[i] b.length c out) :
    out[i + b.length]? = some 0 ∧ OutI a b (i + 1) (out.set (i + b.length) c):=by
  have hlen:i + b.length < out.length:=by rw [hm.len,h.len]; omega
  have hz:out[i + b.length]? = some 0:=by rw [hm.rest _ (Nat.le_refl _)]; exact h.zero _ (Nat.le_refl _) (by rw [h.len]; omega)
  have hz':out[i + b.length] = 0:=by rw [List.getElem?_eq_getElem hlen] at hz; simpa using hz
  refine ⟨hz,by simp [hm.len,h.len],hm.dig.set _ hm.c0,fun k hk hk' => ?_,?_⟩
  · rw [List.getElem?_set_ne (by omega),hm.rest k (by omega)]
    exact h.zero k (by omega) (by rw [List.length_set,hm.len] at hk'; exact hk')
  · rw [nv_set hlen,hz']
    have hv:=hm.val
    rw [h.val,List.take_length] at hv
    rw [nv_take_succ hi]
    generalize bp (i + b.length) = q at *
    generalize bp i = p at *
    generalize nv (a.take i) = u at *
    generalize nv b = v at *
    generalize a[i] = x at *
    grind
theorem spec_mul {m n:Nat} (hm:(dg m).length ≤ 500000000) (hn:(dg n).length ≤ 500000000):M_spec_l02Mul (dg m) (dg n) = some (dg (m * n)):=by
  unfold M_spec_l02Mul
  have ha:=dg_dig m
  have hb:=dg_dig n
  have hva:=nv_dg m
  have hvb:=nv_dg n
  by_cases hm0:m = 0
  · subst hm0; rw [dg_zero]; simp [dg_zero]
  by_cases hn0:n = 0
  · subst hn0; rw [dg_zero]; cases (((dg m).length:Int) == 0) <;> simp [dg_zero]
  have ea:(((dg m).length:Int) == 0) = false:=by have:=List.length_pos_iff.2 (fun e => hm0 (dg_nil.1 e)); rw [beq_eq_false_iff_ne]; omega
  have eb:(((dg n).length:Int) == 0) = false:=by have:=List.length_pos_iff.2 (fun e => hn0 (dg_nil.1 e)); rw [beq_eq_false_iff_ne]; omega
  rw [ea,eb,cond_false,cond_false]
  generalize dg m = a at *
  generalize dg n = b at *
  have ew:IntKind.i64.wrap ((a.length:Int) + (b.length:Int)) = ((a.length + b.length:Nat):Int):=by rw [wrap_i64 (by omega) (by omega)]; omega
  rw [ew,mk_guard (by omega),Option.bind_some,Int.toNat_natCast]
  unfold L_spec_l02Mul_0
  obtain ⟨r,h1,out,rfl,hI⟩:=whileO_inv (S:=S_spec_l02Mul_0) (fun i y => ∃ out,y = (b,a,(a.length:Int),(i:Int),out,()) ∧ OutI a b i out) a.length (fun r => ∃ out,r = (out,()) ∧ OutI a b a.length out)
    (fun i hi y hy => by
      obtain ⟨out0,rfl,hI⟩:=hy
      obtain ⟨c,out,q1,q2⟩:=inner_loop inner_spec (t:=a) (t1:=(a.length:Int)) (t2:=(i:Int)) (i:=i) (x:=a[i]) hb hI.dig (ha.at hi) (by rw [hI.len]; omega) (by rw [hI.len]; omega)
      obtain ⟨hz,hI'⟩:=hI.step hi q2
      left
      refine ⟨_,?_,_,rfl,hI'⟩
      have e1:IntKind.i64.wrap ((i:Int) + (b.length:Int)) = ((i + b.length:Nat):Int):=by rw [wrap_i64 (by omega) (by omega)]; omega
      have e2:IntKind.i64.wrap ((i:Int) + 1) = ((i + 1:Nat):Int):=by rw [wrap_i64 (by omega) (by omega)]; omega
      simp only [S_spec_l02Mul_0,L_spec_l02Mul_1,dlt hi,cond_true,idx_at hi,Option.bind_some,q1,e1,idx_get hz,Int.toNat_natCast,e2])
    (fun y hy => by
      obtain ⟨out,rfl,hI⟩:=hy
      exact ⟨_,by simp [S_spec_l02Mul_0],out,rfl,hI⟩)
    (x:=(b,a,(a.length:Int),0,List.replicate (a.length + b.length) 0,())) ⟨_,rfl,⟨by simp,Dig.zeros _,fun k _ hk => by simp at hk; simp [hk],by simp [nv,nv_zeros]⟩⟩
  rw [h1,Option.bind_some]
  simp only []
  rw [spec_trim (by rw [hI.len]; omega),Option.bind_some,tz_dg hI.dig,hI.val,List.take_length,hva,hvb]
  rfl
theorem impl_mul {m n:Nat} (hm:(dg m).length ≤ 500000000) (hn:(dg n).length ≤ 500000000):M_impl_natMul (dg m) (dg n) = some (dg (m * n)):=by
  unfold M_impl_natMul
  have ha:=dg_dig m
  have hb:=dg_dig n
  have hva:=nv_dg m
  have hvb:=nv_dg n
  generalize dg m = a at *
  generalize dg n = b at *
  have ew:IntKind.i64.wrap ((a.length:Int) + (b.length:Int)) = ((a.length + b.length:Nat):Int):=by rw [wrap_i64 (by omega) (by omega)]; omega
  rw [ew,mk_guard (by omega),Option.bind_some,Int.toNat_natCast]
  unfold L_impl_natMul_0
  obtain ⟨r,h1,out,rfl,hI⟩:=whileO_inv (S:=S_impl_natMul_0) (fun i y => ∃ out,y = (b,a,(a.length:Int),(i:Int),out,()) ∧ OutI a b i out) a.length (fun r => ∃ out,r = (out,()) ∧ OutI a b a.length out)
    (fun i hi y hy => by
      obtain ⟨out0,rfl,hI⟩:=hy
      obtain ⟨c,out,q1,q2⟩:=inner_loop inner_impl (t:=a) (t1:=(a.length:Int)) (t2:=(i:Int)) (i:=i) (x:=a[i]) hb hI.dig (ha.at hi) (by rw [hI.len]; omega) (by rw [hI.len]; omega)
      obtain ⟨hz,hI'⟩:=hI.step hi q2
      left
      have hc:=q2.c0
      refine ⟨_,?_,_,rfl,hI'⟩
      have e1:IntKind.i64.wrap ((i:Int) + (b.length:Int)) = ((i + b.length:Nat):Int):=by rw [wrap_i64 (by omega) (by omega)]; omega
      have e2:IntKind.i64.wrap ((i:Int) + 1) = ((i + 1:Nat):Int):=by rw [wrap_i64 (by omega) (by omega)]; omega
      have e3:IntKind.i64.wrap (0 + c) = c:=by rw [wrap_i64 (by omega) (by omega)]; omega
      simp only [S_impl_natMul_0,L_impl_natMul_1,dlt hi,cond_true,idx_at hi,Option.bind_some,q1,e1,idx_get hz,Int.toNat_natCast,hz,e2,e3])
    (fun y hy => by
      obtain ⟨out,rfl,hI⟩:=hy
      exact ⟨_,by simp [S_impl_natMul_0],out,rfl,hI⟩)
    (x:=(b,a,(a.length:Int),0,List.replicate (a.length + b.length) 0,())) ⟨_,rfl,⟨by simp,Dig.zeros _,fun k _ hk => by simp at hk; simp [hk],by simp [nv,nv_zeros]⟩⟩
  rw [h1,Option.bind_some]
  simp only []
  rw [impl_trim (by rw [hI.len]; omega),Option.bind_some,tz_dg hI.dig,hI.val,List.take_length,hva,hvb]
  rfl
end Go.Di
namespace Go.Di
theorem whileO_meas {σ ρ:Type} {S:σ → Option (σ ⊕ ρ)} (I:σ → Prop) (μ:σ → Nat) (Q:ρ → Prop)
    (h:∀ x,I x → (∃ y,S x = some (.inl y) ∧ I y ∧ μ y < μ x) ∨ ∃ r,S x = some (.inr r) ∧ Q r):∀ {x:σ},I x → ∃ r,whileO S x = some r ∧ Q r:=by
  have key:∀ (n:Nat) (x:σ),μ x = n → I x → ∃ r,whileO S x = some r ∧ Q r:=by
    intro n
    induction n using Nat.strongRecOn with
    | _ n ih =>
      intro x hn hI
      rcases h x hI with ⟨y,h1,h2,h3⟩ | ⟨r,h1,h2⟩
      · obtain ⟨r,h4,h5⟩:=ih (μ y) (by omega) y rfl h2
        exact ⟨r,(whileO_inl h1).trans h4,h5⟩
      · exact ⟨r,whileO_inr h1,h2⟩
  exact fun {x} hI => key _ x rfl hI
theorem len_dg_mono {m n:Nat} (h:m ≤ n):(dg m).length ≤ (dg n).length:=len_dg.2 (by have:=(len_dg (n:=n)).1 (Nat.le_refl _); omega)
theorem len_dg_mul (m n:Nat):(dg (m * n)).length ≤ (dg m).length + (dg n).length:=by
  rw [len_dg,bp_add]
  have h1:=(len_dg (n:=m)).1 (Nat.le_refl _)
  have h2:=(len_dg (n:=n)).1 (Nat.le_refl _)
  have h3:=bp_pos (dg m).length
  have h4:=bp_pos (dg n).length
  have:((m * n:Nat):Int) = (m:Int) * (n:Int):=by simp
  rw [this]
  by_cases hn:n = 0
  · subst hn; simp; exact Int.mul_pos h3 h4
  · calc (m:Int) * n < bp (dg m).length * n:=Int.mul_lt_mul_of_pos_right h1 (by omega)
      _ ≤ bp (dg m).length * bp (dg n).length:=Int.mul_le_mul_of_nonneg_left (by omega) (by omega)
theorem cmpI_le {x y:Int}:decide (cmpI x y ≤ 0) = decide (x ≤ y):=by
  unfold cmpI
  split
  · simp; omega
  · split <;> simp <;> omega
theorem cmpI_lt {x y:Int}:decide (cmpI x y < 0) = decide (x < y):=by
  unfold cmpI
  split
  · simp; omega
  · split <;> simp <;> omega
theorem spec_digit {r b:Nat} (_hr:(dg r).length ≤ 400000000) (hb:(dg b).length ≤ 400000000) (h0:0 < b) (hlt:r < 1000000000 * b):M_spec_l02Digit (dg r) (dg b) = some ((r / b:Nat):Int):=by
  unfold M_spec_l02Digit L_spec_l02Digit_0
  have hq:r / b < 1000000000:=Nat.div_lt_of_lt_mul (by rw [Nat.mul_comm]; exact hlt)
  obtain ⟨y,h1,h2⟩:=whileO_meas (S:=S_spec_l02Digit_0) (fun x => ∃ lo hi:Nat,x = (dg r,dg b,(lo:Int),(hi:Int),()) ∧ lo ≤ r / b ∧ r / b ≤ hi ∧ hi ≤ 999999999) (fun x => (x.2.2.2.1 - x.2.2.1).toNat) (fun y => y = (((r / b:Nat):Int),()))
    (fun x hx => by
      obtain ⟨lo,hi,rfl,k1,k2,k3⟩:=hx
      by_cases hlh:lo < hi
      · left
        have hq:IntKind.i64.wrap ((IntKind.i64.wrap ((IntKind.i64.wrap ((lo:Int) + hi)) + 1)).tdiv 2) = (((lo + hi + 1) / 2:Nat):Int):=by
          rw [wrap_add (n:=(lo:Int) + hi) (by omega) (by omega),wrap_add (n:=(lo:Int) + hi + 1) (by omega) (by omega),Int.tdiv_eq_ediv_of_nonneg (by omega),wrap_add (by omega) (by omega)]
          omega
        have hm:(lo + hi + 1) / 2 ≤ 999999999:=by omega
        have hl3:=len_small (show (lo + hi + 1) / 2 ≤ 9223372036854775807 by omega)
        have hml:=len_dg_mul b ((lo + hi + 1) / 2)
        have hcmp:=spec_cmp (dg_can (b * ((lo + hi + 1) / 2))) (dg_can r) (by omega)
        rw [nv_dg,nv_dg] at hcmp
        generalize hmid:(lo + hi + 1) / 2 = q at *
        have hqb:0 < q:=by omega
        simp only [S_spec_l02Digit_0,show decide ((lo:Int) < (hi:Int)) = true by simpa using hlh,cond_true,hq,spec_natOf (show (q:Int) ≤ 9223372036854775807 by omega),Int.toNat_natCast,Option.bind_some,spec_mul (show (dg b).length ≤ 500000000 by omega) (show (dg q).length ≤ 500000000 by omega),hcmp,cmpI_le]
        by_cases hle:b * q ≤ r
        · have hd:decide (((b * q:Nat):Int) ≤ (r:Int)) = true:=by simpa using (by exact_mod_cast hle:((b * q:Nat):Int) ≤ (r:Int))
          rw [hd,cond_true]
          refine ⟨_,rfl,⟨q,hi,rfl,?_,k2,k3⟩,by simp; omega⟩
          exact (Nat.le_div_iff_mul_le h0).2 (by rw [Nat.mul_comm]; exact hle)
        · have hd:decide (((b * q:Nat):Int) ≤ (r:Int)) = false:=by
            rw [decide_eq_false_iff_not]; intro hh; exact hle (by exact_mod_cast hh)
          rw [hd,cond_false]
          have e:IntKind.i64.wrap ((q:Int) - 1) = ((q - 1:Nat):Int):=by rw [wrap_add (by omega) (by omega)]; omega
          rw [e]
          refine ⟨_,rfl,⟨lo,q - 1,rfl,k1,?_,by omega⟩,by simp; omega⟩
          have:r / b < q:=(Nat.div_lt_iff_lt_mul h0).2 (by rw [Nat.mul_comm]; omega)
          omega
      · right
        have hlo:lo = r / b:=by omega
        have hd:decide ((lo:Int) < (hi:Int)) = false:=by simpa using hlh
        refine ⟨((lo:Int),()),?_,by rw [hlo]⟩
        simp only [S_spec_l02Digit_0,hd,cond_false])
    (x:=(dg r,dg b,0,999999999,())) ⟨0,999999999,rfl,Nat.zero_le _,by omega,by omega⟩
  rw [h1,h2]; rfl
end Go.Di
namespace Go.Di
structure DivI (a:List Int) (n:Nat) (i:Nat) (out:List Int) (rv:Nat):Prop where
  len:out.length = a.length
  dig:Dig out
  zero:∀ k,k < i → k < a.length → out[k]? = some 0
  lt:rv < n
  val:nv (a.drop i) = n * nv (out.drop i) + rv
theorem nat_lt_lit {q:Nat} (h:q < 1000000000):(q:Int) < 1000000000:=by omega
theorem DivI.step {a out:List Int} {n i rv:Nat} (h:DivI a n (i + 1) out rv) (ha:Dig a) (hi:i < a.length) (hn:0 < n) {x:Nat} (hx:(x:Int) = a[i] + 1000000000 * rv) :
    DivI a n i (out.set i ((x / n:Nat):Int)) (x % n):=by
  obtain ⟨hl,hd,hz,hlt,hv⟩:=h
  have h1:=ha.at hi
  have hxlt:x < 1000000000 * n:=by
    have:1000000000 * (rv:Int) ≤ 1000000000 * ((n:Int) - 1):=Int.mul_le_mul_of_nonneg_left (by omega) (by omega)
    omega
  have hq:x / n < 1000000000:=Nat.div_lt_of_lt_mul (by rw [Nat.mul_comm]; exact hxlt)
  have hq0:0 ≤ ((x / n:Nat):Int) ∧ ((x / n:Nat):Int) < 1000000000:=⟨Int.natCast_nonneg _,nat_lt_lit hq⟩
  refine ⟨by simp [hl],hd.set i hq0,fun k hk hk' => ?_,Nat.mod_lt _ hn,?_⟩
  · rw [List.getElem?_set_ne (by omega)]; exact hz k (by omega) hk'
  · have hio:i < (out.set i ((x / n:Nat):Int)).length:=by simp; omega
    rw [nv_drop hi,nv_drop hio,hv]
    have e1:(out.set i ((x / n:Nat):Int))[i] = ((x / n:Nat):Int):=by simp
    have e2:(out.set i ((x / n:Nat):Int)).drop (i + 1) = out.drop (i + 1):=by rw [List.drop_set_of_lt (by omega)]
    rw [e1,e2]
    have hdm:(n:Int) * ((x / n:Nat):Int) + ((x % n:Nat):Int) = (x:Int):=by exact_mod_cast Nat.div_add_mod x n
    generalize ((x / n:Nat):Int) = q at *
    generalize ((x % n:Nat):Int) = r at *
    generalize nv (out.drop (i + 1)) = o at *
    grind
theorem set_same_zero {out:List Int} {i:Nat} (h:out[i]? = some 0):out.set i 0 = out:=by
  apply List.ext_getElem?
  intro j
  rw [List.getElem?_set]
  split
  · rename_i e; subst e
    split
    · exact h.symm
    · rename_i hn; rw [List.getElem?_eq_none (by omega)] at h; cases h
  · rfl
theorem specDiv_step {a out:List Int} {n i rv:Nat} (hI:DivI a n (i + 1) out rv) (ha:Dig a) (hi:i < a.length) (hn:0 < n) (hl:a.length ≤ 100000000) (hln:(dg n).length ≤ 100000000) :
    ∃ out' rv',S_spec_l02Div_0 (a,dg n,(i:Int),out,dg rv,()) = some (.inl (a,dg n,(i:Int) - 1,out',dg rv',())) ∧ DivI a n i out' rv':=by
  have h1:=ha.at hi
  let x:Nat:=a[i].toNat + 1000000000 * rv
  have hx:(x:Int) = a[i] + 1000000000 * rv:=by simp only [x]; omega
  have hxlt:x < 1000000000 * n:=by
    have:=hI.lt
    have:1000000000 * (rv:Int) ≤ 1000000000 * ((n:Int) - 1):=Int.mul_le_mul_of_nonneg_left (by omega) (by omega)
    omega
  have hr:=len_dg_mono (Nat.le_of_lt hI.lt)
  have htz:tz ([a[i]] ++ dg rv) = dg x:=by
    rw [tz_dg (Dig.append (Dig.cons h1 Dig.nil) (dg_dig rv)),nv_append,nv_dg]
    refine congrArg dg ?_
    simp only [nv,List.length_cons,List.length_nil,bp_succ,bp_zero]
    omega
  have hxl:(dg x).length ≤ (dg n).length + 2:=by
    have h2:=len_dg_mono (Nat.le_of_lt hxlt)
    have h3:=len_dg_mul 1000000000 n
    have h4:(dg 1000000000).length ≤ 2:=len_dg.2 (by simp [bp])
    omega
  refine ⟨out.set i ((x / n:Nat):Int),x % n,?_,hI.step ha hi hn hx⟩
  have hcmp:=spec_cmp (dg_can x) (dg_can n) (by omega)
  rw [nv_dg,nv_dg] at hcmp
  have e0:IntKind.i64.wrap ((i:Int) - 1) = (i:Int) - 1:=wrap_add (by omega) (by omega)
  have hz:=hI.zero i (by omega) hi
  simp only [S_spec_l02Div_0,show decide ((i:Int) ≥ 0) = true by simp,cond_true,idx_at hi,room (show 1 + (dg rv).length ≤ 1073741824 by omega),Option.bind_some,spec_trim (show ([a[i]] ++ dg rv).length ≤ 1073741824 by simp; omega),htz,hcmp,cmpI_lt,e0]
  by_cases hlt:x < n
  · have hd:decide ((x:Int) < (n:Int)) = true:=by simpa using hlt
    rw [hd,cond_true,Nat.div_eq_of_lt hlt,Nat.mod_eq_of_lt hlt]
    rw [show ((0:Nat):Int) = 0 from rfl,set_same_zero hz]
  · have hd:decide ((x:Int) < (n:Int)) = false:=by simpa using hlt
    have hq:x / n < 1000000000:=Nat.div_lt_of_lt_mul (by rw [Nat.mul_comm]; exact hxlt)
    have hql:=len_small (show x / n ≤ 9223372036854775807 by omega)
    have hle:n * (x / n) ≤ x:=Nat.mul_div_le x n
    have hsub:x - n * (x / n) = x % n:=by have:=Nat.div_add_mod x n; omega
    simp only [hd,cond_false,spec_digit (show (dg x).length ≤ 400000000 by omega) (show (dg n).length ≤ 400000000 by omega) hn hxlt,Option.bind_some,idx_get hz,spec_natOf (show ((x / n:Nat):Int) ≤ 9223372036854775807 by omega),Int.toNat_natCast,
      spec_mul (show (dg n).length ≤ 500000000 by omega) (show (dg (x / n)).length ≤ 500000000 by omega),spec_sub (show (dg x).length ≤ 1073740000 by omega) hle,hsub]
theorem spec_div {m n:Nat} (hm:(dg m).length ≤ 100000000) (hn:(dg n).length ≤ 100000000) (h0:0 < n):M_spec_l02Div (dg m) (dg n) = some (dg (m / n),dg (m % n)):=by
  unfold M_spec_l02Div
  have hne:dg n ≠ []:=fun e => by have:=dg_nil.1 e; omega
  by_cases h1:(dg n).length = 1
  · have hb:(((dg n).length:Int) == 1) = true:=by rw [h1]; rfl
    rw [hb,cond_true]
    have hd:=dg_pos (show n ≠ 0 by omega)
    have hnil:dg (n / 1000000000) = []:=by
      rw [hd] at h1; simpa using h1
    have hsm:n < 1000000000:=by have:=dg_nil.1 hnil; omega
    have e:dg n = [(n:Int)]:=by rw [hd,hnil,Nat.mod_eq_of_lt hsm]
    rw [e,show ((0:Int) = ((0:Nat):Int)) from rfl,idx_get (x:=(n:Int)) (by rfl),Option.bind_some,spec_small (by omega) ⟨h0,hsm⟩,Option.bind_some]
    have:m % n < n:=Nat.mod_lt _ h0
    simp only [spec_natOf (show ((m % n:Nat):Int) ≤ 9223372036854775807 by omega),Option.bind_some,Int.toNat_natCast]
  · have hb:(((dg n).length:Int) == 1) = false:=by rw [beq_eq_false_iff_ne]; omega
    rw [hb,cond_false,mk_guard (by omega),Option.bind_some,Int.toNat_natCast,wrap_i64 (by omega) (by omega)]
    have ha:=dg_dig m
    have hva:=nv_dg m
    generalize dg m = a at *
    unfold L_spec_l02Div_0
    obtain ⟨r,h1,out,rv,rfl,hI⟩:=whileO_inv (S:=S_spec_l02Div_0) (fun k x => ∃ out rv,x = (a,dg n,((a.length - k:Nat):Int) - 1,out,dg rv,()) ∧ DivI a n (a.length - k) out rv) a.length (fun r => ∃ out rv,r = (out,dg rv,()) ∧ DivI a n 0 out rv)
      (fun k hk x hx => by
        obtain ⟨out,rv,rfl,hI⟩:=hx
        have e:((a.length - k:Nat):Int) - 1 = ((a.length - (k + 1):Nat):Int):=by omega
        have e2:a.length - k = (a.length - (k + 1)) + 1:=by omega
        rw [e2] at hI
        obtain ⟨out',rv',q1,q2⟩:=specDiv_step hI ha (by omega) h0 hm hn
        rw [e]
        exact .inl ⟨_,q1,out',rv',rfl,q2⟩)
      (fun x hx => by
        obtain ⟨out,rv,rfl,hI⟩:=hx
        rw [Nat.sub_self] at *
        exact ⟨_,by simp [S_spec_l02Div_0],out,rv,rfl,hI⟩)
      (x:=(a,dg n,(a.length:Int) - 1,List.replicate a.length 0,[],())) ⟨List.replicate a.length 0,0,by simp [dg_zero],⟨by simp,Dig.zeros _,fun k _ hk => by simp [hk],h0,by simp [nv]⟩⟩
    rw [h1,Option.bind_some]
    simp only []
    have hv:=hI.val
    simp only [List.drop_zero] at hv
    rw [hva] at hv
    have hnn:=nv_nonneg hI.dig
    have hlt:=hI.lt
    have hvn:m = n * (nv out).toNat + rv:=by
      have:((nv out).toNat:Int) = nv out:=by omega
      rw [← this] at hv
      exact_mod_cast hv
    have e1:m / n = (nv out).toNat:=by rw [hvn,Nat.mul_add_div h0,Nat.div_eq_of_lt hlt,Nat.add_zero]
    have e2:m % n = rv:=by rw [hvn,Nat.mul_add_mod,Nat.mod_eq_of_lt hlt]
    rw [spec_trim (by rw [hI.len]; omega),Option.bind_some,tz_dg hI.dig,e1,e2]
end Go.Di
namespace Go.Di
theorem euclid_loop {S:(Int × Int × Unit) → Option ((Int × Int × Unit) ⊕ (Int × Unit))} (hS:∀ x y:Nat,0 < y → S ((x:Int),(y:Int),()) = some (.inl ((y:Int),((x % y:Nat):Int),())))
    (hE:∀ x:Nat,S ((x:Int),0,()) = some (.inr ((x:Int),()))):∀ y x:Nat,whileO S ((x:Int),(y:Int),()) = some (((Nat.gcd x y:Nat):Int),()):=by
  intro y
  induction y using Nat.strongRecOn with
  | _ y ih =>
    intro x
    by_cases h:y = 0
    · subst h
      rw [Nat.gcd_zero_right]; exact whileO_inr (hE x)
    · rw [whileO_inl (hS x y (by omega)),ih (x % y) (Nat.mod_lt _ (by omega)) y]
      rw [Nat.gcd_comm x y,Nat.gcd_rec y x,Nat.gcd_comm (x % y) y]
theorem tmod_nat (x y:Nat):(x:Int).tmod (y:Int) = ((x % y:Nat):Int):=by
  rw [Int.tmod_eq_emod_of_nonneg (by omega)]; simp
theorem spec_plain {x y:Nat} (hx:x ≤ 9223372036854775807) (hy:y ≤ 9223372036854775807):M_spec_l02Plain (x:Int) (y:Int) = some (dg (Nat.gcd x y)):=by
  unfold M_spec_l02Plain L_spec_l02Plain_0
  rw [euclid_loop (S:=S_spec_l02Plain_0) (fun x y h => by
    have h1:decide ((y:Int) > 0) = true:=by simpa using h
    have h2:guardO ((y:Int) != 0) = some ():=by
      have:((y:Int) != 0) = true:=by simp; omega
      rw [this]; rfl
    simp only [S_spec_l02Plain_0,h1,cond_true,h2,Option.bind_some,tmod_nat]) (fun x => by simp [S_spec_l02Plain_0]) y x,Option.bind_some]
  have hg:Nat.gcd x y ≤ 9223372036854775807:=by
    by_cases h:x = 0
    · subst h; simpa using hy
    · exact Nat.le_trans (Nat.gcd_le_left y (by omega)) hx
  simp only [spec_natOf (show ((Nat.gcd x y:Nat):Int) ≤ 9223372036854775807 by omega),Option.bind_some,Int.toNat_natCast]
theorem max_dg:([854775807,223372036,9]:List Int) = dg 9223372036854775807:=by
  refine eq_dg ⟨fun d hd => ?_,by simp [Top0]⟩ (by simp [nv])
  simp at hd
  omega
theorem toInt_loop {S:(List Int × Int × Int × Unit) → Option ((List Int × Int × Int × Unit) ⊕ (Int × Unit))} {a:List Int} (ha:Dig a) (hm:nv a ≤ 9223372036854775807)
    (hS:∀ (i:Nat) (n:Int) (h:i < a.length),0 ≤ n → n * 1000000000 + a[i] ≤ 9223372036854775807 → S (a,n,(i:Int),()) = some (.inl (a,n * 1000000000 + a[i],(i:Int) - 1,())))
    (hE:∀ n,S (a,n,-1,()) = some (.inr (n,()))):whileO S (a,0,(a.length:Int) - 1,()) = some (nv a,()):=by
  have hle:∀ i,nv (a.drop i) ≤ 9223372036854775807:=by
    intro i
    induction i with
    | zero => simpa using hm
    | succ i ih =>
      by_cases h:i < a.length
      · rw [nv_drop h] at ih
        have:=ha.at h
        have h0:=nv_nonneg (ha.drop (i + 1))
        omega
      · rw [List.drop_of_length_le (by omega)]; simp [nv]
  obtain ⟨r,h1,h2⟩:=whileO_inv (S:=S) (fun k x => x = (a,nv (a.drop (a.length - k)),((a.length - k:Nat):Int) - 1,())) a.length (fun r => r = (nv a,()))
    (fun k hk x hx => by
      subst hx
      have hi:a.length - (k + 1) < a.length:=by omega
      have e:((a.length - k:Nat):Int) - 1 = ((a.length - (k + 1):Nat):Int):=by omega
      have e2:a.length - k = (a.length - (k + 1)) + 1:=by omega
      have hd:=nv_drop hi
      have hb:=hle (a.length - (k + 1))
      rw [hd] at hb
      rw [e,hd]
      left
      refine ⟨_,hS _ _ hi (nv_nonneg (ha.drop _)) ?_,?_⟩
      · rw [e2]; omega
      · rw [e2]; congr 2; omega)
    (fun x hx => by
      subst hx
      rw [Nat.sub_self]
      exact ⟨_,hE _,by simp⟩)
    (x:=(a,0,(a.length:Int) - 1,())) (by simp [nv])
  rw [h1,h2]
end Go.Di
namespace Go.Di
theorem natOk_dg {m:Nat} (h:(dg m).length ≤ 60):pB (NatOk (dg m)) = true:=pB_iff.2 ⟨dg_can m,h⟩
theorem spec_toInt {m:Nat} (h:(dg m).length < 3):M_spec_NatToInt (dg m) = some ((m:Int),true):=by
  unfold M_spec_NatToInt L_spec_NatToInt_0
  have hv:=nv_dg m
  have hlt:(m:Int) < bp 2:=len_dg.1 (by omega)
  have hb2:bp 2 = 1000000000000000000:=by decide
  rw [hb2] at hlt
  obtain ⟨K,hK,hKv⟩:∃ K:Nat,([854775807,223372036,9]:List Int) = dg K ∧ 9000000000000000000 < K:=⟨_,max_dg,by omega⟩
  have hcmp:=spec_cmp (dg_can m) (dg_can K) (by omega)
  rw [nv_dg,nv_dg] at hcmp
  rw [spec_natOk (by omega),natOk_dg (by omega),Option.bind_some,hK,hcmp]
  simp only [Bool.not_true,cond_false,Option.bind_some]
  have hc:decide (cmpI (m:Int) (K:Int) > 0) = false:=by
    rw [decide_eq_false_iff_not]
    unfold cmpI
    split
    · omega
    · split <;> omega
  rw [hc,cond_false]
  have ha:=dg_dig m
  generalize dg m = a at *
  rw [wrap_i64 (by omega) (by omega)]
  rw [toInt_loop (S:=S_spec_NatToInt_0) ha (by omega) (fun i n hi h0 hn => by
    have hx:=ha.at hi
    simp only [S_spec_NatToInt_0,show decide ((i:Int) ≥ 0) = true by simp,cond_true,idx_at hi,Option.bind_some]
    rw [wrap_i64 (n:=n * 1000000000) (by omega) (by omega),wrap_i64 (n:=n * 1000000000 + a[i]) (by omega) (by omega),wrap_i64 (n:=(i:Int) - 1) (by omega) (by omega)]) (by simp [S_spec_NatToInt_0]),Option.bind_some,hv]
theorem spec_gcd {m n:Nat} (hm:(dg m).length ≤ 100000000) (hn:(dg n).length ≤ 100000000):M_spec_l02Gcd (dg m) (dg n) = some (dg (Nat.gcd m n)):=by
  unfold M_spec_l02Gcd L_spec_l02Gcd_0
  rw [room (by omega),room (by omega),Option.bind_some,Option.bind_some]
  obtain ⟨r,h1,h2⟩:=whileO_meas (S:=S_spec_l02Gcd_0) (fun x => ∃ p q:Nat,x = (dg p,dg q,()) ∧ Nat.gcd p q = Nat.gcd m n ∧ (dg p).length ≤ 100000000 ∧ (dg q).length ≤ 100000000) (fun x => (nv x.2.1).toNat)
    (fun r => (match r with | .inl (t,_) => t | .inr (x,_) => x) = dg (Nat.gcd m n))
    (fun x hx => by
      obtain ⟨p,q,rfl,hg,hp,hq⟩:=hx
      by_cases h0:q = 0
      · subst h0
        right
        refine ⟨.inr (dg p,()),by simp [S_spec_l02Gcd_0,dg_zero],?_⟩
        rw [← hg,Nat.gcd_zero_right]
      · have hqn:dg q ≠ []:=fun e => h0 (dg_nil.1 e)
        have hl:decide (((dg q).length:Int) > 0) = true:=by have:=List.length_pos_iff.2 hqn; simp only [decide_eq_true_eq]; omega
        have hstep:(∃ y,(some (Sum.inl (dg q,dg (p % q),())):Option ((List Int × List Int × Unit) ⊕ ((List Int × Unit) ⊕ (List Int × Unit)))) = some (.inl y) ∧ (∃ p' q':Nat,y = (dg p',dg q',()) ∧ Nat.gcd p' q' = Nat.gcd m n ∧ (dg p').length ≤ 100000000 ∧ (dg q').length ≤ 100000000) ∧ (nv y.2.1).toNat < (nv (dg q)).toNat):=by
          refine ⟨_,rfl,⟨q,p % q,rfl,?_,hq,?_⟩,?_⟩
          · rw [← hg,Nat.gcd_comm p q,Nat.gcd_rec q p,Nat.gcd_comm]
          · exact Nat.le_trans (len_dg_mono (Nat.mod_le p q)) hp
          · simp only [nv_dg,Int.toNat_natCast]; exact Nat.mod_lt _ (by omega)
        have hdiv:=spec_div hp hq (show 0 < q by omega)
        by_cases hp3:(dg p).length < 3
        · have e1:decide (((dg p).length:Int) < 3) = true:=by simp only [decide_eq_true_eq]; omega
          by_cases hq3:(dg q).length < 3
          · have e2:decide (((dg q).length:Int) < 3) = true:=by simp only [decide_eq_true_eq]; omega
            right
            have b2:bp 2 = 1000000000000000000:=by decide
            have lp:(p:Int) < bp 2:=len_dg.1 (by omega)
            have lq:(q:Int) < bp 2:=len_dg.1 (by omega)
            refine ⟨.inl (dg (Nat.gcd p q),()),?_,by rw [hg]⟩
            simp only [S_spec_l02Gcd_0,hl,e1,e2,cond_true,spec_toInt hp3,spec_toInt hq3,Option.bind_some,spec_plain (show p ≤ 9223372036854775807 by omega) (show q ≤ 9223372036854775807 by omega)]
          · have e2:decide (((dg q).length:Int) < 3) = false:=by simp only [decide_eq_false_iff_not]; omega
            left
            simp only [S_spec_l02Gcd_0,hl,e1,e2,cond_true,cond_false,hdiv,Option.bind_some]
            exact hstep
        · have e1:decide (((dg p).length:Int) < 3) = false:=by simp only [decide_eq_false_iff_not]; omega
          left
          simp only [S_spec_l02Gcd_0,hl,e1,cond_true,cond_false,hdiv,Option.bind_some]
          exact hstep)
    (x:=(dg m,dg n,())) ⟨m,n,rfl,rfl,hm,hn⟩
  rw [h1,Option.bind_some]
  cases r with
  | inl t => exact congrArg some h2
  | inr t => exact congrArg some h2
end Go.Di
namespace Go.Di
structure TakeI (y x0:List Int) (k:Nat) (q:Int) (j:Nat) (br:Int) (x:List Int):Prop where
  len:x.length = x0.length
  dig:Dig x
  b0:0 ≤ br ∧ br ≤ q
  rest:∀ p,k + y.length ≤ p → x[p]? = x0[p]?
  low:∀ p,p < k → x[p]? = x0[p]?
  val:nv x + bp k * (q * nv (y.take j)) = nv x0 + bp (k + j) * br
theorem TakeI.step {y x0 x:List Int} {k j:Nat} {q br s b':Int} (h:TakeI y x0 k q j br x) (_hy:Dig y) (_hq:0 ≤ q ∧ q ≤ 1000000000) (hj:j < y.length) (hk:k + j < x.length) (hs:s - 1000000000 * b' = x[k + j] - q * y[j] - br) (hs0:0 ≤ s ∧ s < 1000000000) (hb':0 ≤ b' ∧ b' ≤ q) :
    TakeI y x0 k q (j + 1) b' (x.set (k + j) s):=by
  obtain ⟨hl,hd,hb,hr,hlow,hv⟩:=h
  refine ⟨by simp [hl],hd.set _ hs0,hb',fun p hp => ?_,fun p hp => ?_,?_⟩
  · rw [List.getElem?_set_ne (by omega)]; exact hr p hp
  · rw [List.getElem?_set_ne (by omega)]; exact hlow p hp
  · rw [nv_set hk,nv_take_succ hj,show k + (j + 1) = (k + j) + 1 from rfl,bp_succ,bp_add] at *
    generalize x[k + j] = e at *
    generalize y[j] = z at *
    generalize nv (y.take j) = v at *
    generalize bp k = p at *
    generalize bp j = p' at *
    grind
structure BackI (y x0:List Int) (k:Nat) (j:Nat) (c:Int) (x:List Int):Prop where
  len:x.length = x0.length
  dig:∀ p,p < k + y.length → ∀ d,x[p]? = some d → 0 ≤ d ∧ d < 1000000000
  c0:0 ≤ c ∧ c ≤ 1
  rest:∀ p,k + y.length ≤ p → x[p]? = x0[p]?
  low:∀ p,p < k → x[p]? = x0[p]?
  val:nv x + bp (k + j) * c = nv x0 + bp k * nv (y.take j)
theorem BackI.step {y x0 x:List Int} {k j:Nat} {c s c':Int} (h:BackI y x0 k j c x) (hj:j < y.length) (hk:k + j < x.length) (hs:s + 1000000000 * c' = x[k + j] + y[j] + c) (hs0:0 ≤ s ∧ s < 1000000000) (hc':0 ≤ c' ∧ c' ≤ 1) :
    BackI y x0 k (j + 1) c' (x.set (k + j) s):=by
  obtain ⟨hl,hd,hc,hr,hlow,hv⟩:=h
  refine ⟨by simp [hl],fun p hp d hpd => ?_,hc',fun p hp => ?_,fun p hp => ?_,?_⟩
  · rw [List.getElem?_set] at hpd
    split at hpd
    · first
        | (cases hpd; exact hs0)
        | (split at hpd <;> first | (cases hpd; exact hs0) | cases hpd)
    · exact hd p hp d hpd
  · rw [List.getElem?_set_ne (by omega)]; exact hr p hp
  · rw [List.getElem?_set_ne (by omega)]; exact hlow p hp
  · rw [nv_set hk,nv_take_succ hj,show k + (j + 1) = (k + j) + 1 from rfl,bp_succ,bp_add] at *
    generalize x[k + j] = e at *
    generalize y[j] = z at *
    generalize nv (y.take j) = v at *
    generalize bp k = p at *
    generalize bp j = p' at *
    grind
end Go.Di
namespace Go.Di
theorem take_loop {y x0 out:List Int} {k:Nat} {f top q:Int} (hy:Dig y) (hx:Dig x0) (hq:0 ≤ q ∧ q < 1000000000) (hfit:k + y.length < x0.length) (hl:x0.length ≤ 1073741824) :
    ∃ br x,L_impl_natDiv_3 f (y.length:Int) top (k:Int) q 0 (y.length:Int) 0 x0 y out = some (f,(y.length:Int),top,(k:Int),q,br,x,y,out,()) ∧ TakeI y x0 k q y.length br x:=by
  unfold L_impl_natDiv_3
  obtain ⟨r,h1,br,x,rfl,h2⟩:=whileO_inv (S:=S_impl_natDiv_3) (fun j z => ∃ br x,z = (f,(y.length:Int),top,(k:Int),q,br,(y.length:Int),(j:Int),x,y,out,()) ∧ TakeI y x0 k q j br x) y.length (fun r => ∃ br x,r = (f,(y.length:Int),top,(k:Int),q,br,x,y,out,()) ∧ TakeI y x0 k q y.length br x)
    (fun j hj z hz => by
      obtain ⟨br,x,rfl,hI⟩:=hz
      left
      have hk:k + j < x.length:=by rw [hI.len]; omega
      have he:=hI.dig.at hk
      have hyj:=hy.at hj
      have hb:=hI.b0
      have h0:=Int.mul_nonneg hq.1 hyj.1
      have hmax:q * y[j] ≤ q * 999999999:=Int.mul_le_mul_of_nonneg_left (by omega) hq.1
      have e1:IntKind.i64.wrap ((k:Int) + (j:Int)) = ((k + j:Nat):Int):=by rw [wrap_i64 (by omega) (by omega)]; omega
      have e2:IntKind.i64.wrap ((j:Int) + 1) = ((j + 1:Nat):Int):=by rw [wrap_i64 (by omega) (by omega)]; omega
      simp only [S_impl_natDiv_3,dlt hj,cond_true,e1,e2,idx_at hk,idx_at hj,Int.toNat_natCast,List.getElem?_eq_getElem hk,List.getElem?_eq_getElem hj,Option.bind_some]
      rw [wrap_add (n:=q * y[j]) (by omega) (by omega),wrap_i64 (n:=x[k + j] - q * y[j]) (by omega) (by omega),wrap_i64 (n:=x[k + j] - q * y[j] - br) (by omega) (by omega)]
      generalize hs:x[k + j] - q * y[j] - br = s at *
      by_cases hneg:s < 0
      · rw [decide_eq_true hneg,cond_true,wrap_i64 (n:=999999999 - s) (by omega) (by omega),Int.tdiv_eq_ediv_of_nonneg (by omega)]
        rw [wrap_i64 (n:=(999999999 - s) / 1000000000) (by omega) (by omega),wrap_i64 (n:=(999999999 - s) / 1000000000 * 1000000000) (by omega) (by omega),wrap_i64 (n:=s + (999999999 - s) / 1000000000 * 1000000000) (by omega) (by omega)]
        refine ⟨_,rfl,_,_,rfl,?_⟩
        exact hI.step hy (by omega) hj hk (by omega) (by omega) (by omega)
      · rw [decide_eq_false hneg,cond_false]
        refine ⟨_,rfl,_,_,rfl,?_⟩
        exact hI.step hy (by omega) hj hk (by omega) (by omega) (by omega))
    (fun z hz => by
      obtain ⟨br,x,rfl,hI⟩:=hz
      exact ⟨_,by simp [S_impl_natDiv_3],br,x,rfl,hI⟩)
    (x:=(f,(y.length:Int),top,(k:Int),q,0,(y.length:Int),0,x0,y,out,())) ⟨0,x0,rfl,⟨rfl,hx,by omega,fun _ _ => rfl,fun _ _ => rfl,by simp [nv]⟩⟩
  exact ⟨br,x,h1,h2⟩
end Go.Di
namespace Go.Di
theorem back_loop {y x0 out:List Int} {k:Nat} {f top q:Int} (hy:Dig y) (hx:∀ p,p < k + y.length → ∀ d,x0[p]? = some d → 0 ≤ d ∧ d < 1000000000) (hfit:k + y.length < x0.length) (hl:x0.length ≤ 1073741824) :
    ∃ c x,L_impl_natDiv_4 f (y.length:Int) top (k:Int) q 0 (y.length:Int) 0 x0 y out = some (f,(y.length:Int),top,(k:Int),q,c,x,y,out,()) ∧ BackI y x0 k y.length c x:=by
  unfold L_impl_natDiv_4
  obtain ⟨r,h1,c,x,rfl,h2⟩:=whileO_inv (S:=S_impl_natDiv_4) (fun j z => ∃ c x,z = (f,(y.length:Int),top,(k:Int),q,c,(y.length:Int),(j:Int),x,y,out,()) ∧ BackI y x0 k j c x) y.length (fun r => ∃ c x,r = (f,(y.length:Int),top,(k:Int),q,c,x,y,out,()) ∧ BackI y x0 k y.length c x)
    (fun j hj z hz => by
      obtain ⟨c,x,rfl,hI⟩:=hz
      left
      have hk:k + j < x.length:=by rw [hI.len]; omega
      have he:=hI.dig (k + j) (by omega) _ (List.getElem?_eq_getElem hk)
      have hyj:=hy.at hj
      have hc:=hI.c0
      have e1:IntKind.i64.wrap ((k:Int) + (j:Int)) = ((k + j:Nat):Int):=by rw [wrap_i64 (by omega) (by omega)]; omega
      have e2:IntKind.i64.wrap ((j:Int) + 1) = ((j + 1:Nat):Int):=by rw [wrap_i64 (by omega) (by omega)]; omega
      simp only [S_impl_natDiv_4,dlt hj,cond_true,e1,e2,idx_at hk,idx_at hj,Int.toNat_natCast,List.getElem?_eq_getElem hk,List.getElem?_eq_getElem hj,Option.bind_some]
      rw [wrap_i64 (n:=x[k + j] + y[j]) (by omega) (by omega),wrap_i64 (n:=x[k + j] + y[j] + c) (by omega) (by omega)]
      by_cases hge:x[k + j] + y[j] + c ≥ 1000000000
      · rw [decide_eq_true hge,cond_true,wrap_i64 (n:=x[k + j] + y[j] + c - 1000000000) (by omega) (by omega)]
        exact ⟨_,rfl,_,_,rfl,hI.step hj hk (by omega) (by omega) (by omega)⟩
      · rw [decide_eq_false hge,cond_false]
        exact ⟨_,rfl,_,_,rfl,hI.step hj hk (by omega) (by omega) (by omega)⟩)
    (fun z hz => by
      obtain ⟨c,x,rfl,hI⟩:=hz
      exact ⟨_,by simp [S_impl_natDiv_4],c,x,rfl,hI⟩)
    (x:=(f,(y.length:Int),top,(k:Int),q,0,(y.length:Int),0,x0,y,out,())) ⟨0,x0,rfl,⟨rfl,hx,by omega,fun _ _ => rfl,fun _ _ => rfl,by simp [nv]⟩⟩
  exact ⟨c,x,h1,h2⟩
end Go.Di
namespace Go.Di
theorem guess_loop {x y out:List Int} {k n:Nat} {f top q r Q:Int} {xn x1 x2 y2:Int} (hn:2 ≤ n) (hl:x.length ≤ 1073741824) (hkn:k + n < x.length) (hyn:y.length = n)
    (hx2:x[k + n - 2]? = some x2) (hy2:y[n - 2]? = some y2) (b2:0 ≤ x2 ∧ x2 < 1000000000) (c2:0 ≤ y2 ∧ y2 < 1000000000) (bn:0 ≤ xn ∧ xn ≤ top) (b1:0 ≤ x1 ∧ x1 < 1000000000) (ht:1 ≤ top ∧ top < 1000000000)
    (hQ:0 ≤ Q ∧ Q < 1000000000) (hQ2:Q * (top * 1000000000 + y2) ≤ (xn * 1000000000 + x1) * 1000000000 + x2)
    (h0:q * top + r = xn * 1000000000 + x1) (hr:0 ≤ r ∧ r < 1000000000) (hqQ:Q ≤ q) :
    ∃ q',L_impl_natDiv_2 f (n:Int) top (k:Int) q r x y out = some (f,(n:Int),top,(k:Int),q',x,y,out,()) ∧ Q ≤ q' ∧ q' < 1000000000 ∧ q' * (top * 1000000000 + y2) ≤ (xn * 1000000000 + x1) * 1000000000 + x2:=by
  unfold L_impl_natDiv_2
  obtain ⟨z,h1,q',rfl,h2⟩:=whileO_meas (S:=S_impl_natDiv_2) (fun z => ∃ q r,z = (f,(n:Int),top,(k:Int),q,r,x,y,out,()) ∧ q * top + r = xn * 1000000000 + x1 ∧ 0 ≤ r ∧ r < 1000000000 ∧ Q ≤ q) (fun z => z.2.2.2.2.1.toNat)
    (fun z => ∃ q',z = (f,(n:Int),top,(k:Int),q',x,y,out,()) ∧ Q ≤ q' ∧ q' < 1000000000 ∧ q' * (top * 1000000000 + y2) ≤ (xn * 1000000000 + x1) * 1000000000 + x2)
    (fun z hz => by
      obtain ⟨q,r,rfl,e0,r0,r1,hqQ⟩:=hz
      have ey:IntKind.i64.wrap ((n:Int) - 2) = ((n - 2:Nat):Int):=by rw [wrap_i64 (by omega) (by omega)]; omega
      have ex:IntKind.i64.wrap ((IntKind.i64.wrap ((k:Int) + (n:Int))) - 2) = ((k + n - 2:Nat):Int):=by rw [wrap_i64 (n:=(k:Int) + n) (by omega) (by omega),wrap_i64 (by omega) (by omega)]; omega
      have er:IntKind.i64.wrap (r + top) = r + top:=wrap_i64 (by omega) (by omega)
      have hqb:q ≤ 2000000000000000000:=by
        rcases Int.lt_or_le q 0 with h | h
        · omega
        · have h3:q * 1 ≤ q * top:=Int.mul_le_mul_of_nonneg_left ht.1 h
          omega
      have eq1:IntKind.i64.wrap (q - 1) = q - 1:=wrap_i64 (by omega) (by omega)
      -- one down
      have down:Q < q → (∃ z,cond (decide (r + top ≥ 1000000000)) (some (Sum.inr (f,(n:Int),top,(k:Int),q - 1,x,y,out,()))) (some (.inl (f,(n:Int),top,(k:Int),q - 1,r + top,x,y,out,()))) = some (.inl z) ∧ (∃ q r,z = (f,(n:Int),top,(k:Int),q,r,x,y,out,()) ∧ q * top + r = xn * 1000000000 + x1 ∧ 0 ≤ r ∧ r < 1000000000 ∧ Q ≤ q) ∧ z.2.2.2.2.1.toNat < q.toNat) ∨
          ∃ w,cond (decide (r + top ≥ 1000000000)) (some (Sum.inr (f,(n:Int),top,(k:Int),q - 1,x,y,out,()))) (some (.inl (f,(n:Int),top,(k:Int),q - 1,r + top,x,y,out,()))) = some (.inr w) ∧ ∃ q',w = (f,(n:Int),top,(k:Int),q',x,y,out,()) ∧ Q ≤ q' ∧ q' < 1000000000 ∧ q' * (top * 1000000000 + y2) ≤ (xn * 1000000000 + x1) * 1000000000 + x2:=by
        intro hlt
        have e1:(q - 1) * top + (r + top) = xn * 1000000000 + x1:=by rw [← e0]; grind
        by_cases hb:r + top ≥ 1000000000
        · right
          rw [decide_eq_true hb,cond_true]
          have hq1:q - 1 < 1000000000:=by
            rcases Int.lt_or_le (q - 1) 1000000000 with h | h
            · exact h
            · exfalso
              have h3:1000000000 * top ≤ (q - 1) * top:=Int.mul_le_mul_of_nonneg_right h (by omega)
              have h4:xn * 1000000000 ≤ top * 1000000000:=Int.mul_le_mul_of_nonneg_right bn.2 (by omega)
              omega
          refine ⟨_,rfl,_,rfl,by omega,hq1,?_⟩
          have h5:(q - 1) * y2 ≤ 999999999 * 999999999:=Int.mul_le_mul (by omega) (by omega) c2.1 (by omega)
          have h6:(q - 1) * (top * 1000000000 + y2) = ((q - 1) * top) * 1000000000 + (q - 1) * y2:=by grind
          rw [h6]
          generalize (q - 1) * top = A at *
          omega
        · left
          rw [decide_eq_false hb,cond_false]
          exact ⟨_,rfl,⟨_,_,rfl,e1,by omega,by omega,by omega⟩,by simp; omega⟩
      by_cases hge:q ≥ 1000000000
      · simp only [S_impl_natDiv_2,decide_eq_true hge,cond_true,er,eq1]
        exact down (by omega)
      · have hqy:0 ≤ q * y2:=Int.mul_nonneg (by omega) c2.1
        have hqy2:q * y2 ≤ 999999999 * 999999999:=Int.mul_le_mul (by omega) (by omega) c2.1 (by omega)
        simp only [S_impl_natDiv_2,decide_eq_false hge,cond_false,ey,ex,idx_get hy2,idx_get hx2,hy2,hx2,Int.toNat_natCast,Option.bind_some,er,eq1]
        rw [wrap_i64 (n:=q * y2) (by omega) (by omega),wrap_i64 (n:=r * 1000000000) (by omega) (by omega),wrap_i64 (n:=r * 1000000000 + x2) (by omega) (by omega)]
        have h6:q * (top * 1000000000 + y2) = (q * top) * 1000000000 + q * y2:=by grind
        by_cases hgt:q * y2 > r * 1000000000 + x2
        · rw [decide_eq_true hgt,cond_true]
          refine down ?_
          rcases Int.lt_or_le Q q with h | h
          · exact h
          · exfalso
            have:q = Q:=by omega
            subst this
            rw [h6] at hQ2
            generalize q * top = A at *
            omega
        · rw [decide_eq_false hgt,cond_false]
          right
          refine ⟨_,rfl,_,rfl,hqQ,by omega,?_⟩
          rw [h6]
          generalize q * top = A at *
          omega)
    (x:=(f,(n:Int),top,(k:Int),q,r,x,y,out,())) ⟨q,r,rfl,h0,hr.1,hr.2,hqQ⟩
  exact ⟨q',h1,h2⟩
end Go.Di
namespace Go.Di
theorem guess_near {p X Y X3 Y2 xl yl Q q top:Int} (hp:0 < p) (hX:X = xl + p * X3) (hxl:0 ≤ xl ∧ xl < p) (hY:Y = yl + p * Y2) (hyl:0 ≤ yl ∧ yl < p) (hY0:0 < Y) (htop:top * 1000000000 ≤ Y2) (ht:1 ≤ top)
    (hQ:Q = X / Y) (hq0:0 ≤ q) (hqB:q < 1000000000) (hq:q * Y2 ≤ X3):q ≤ Q + 1:=by
  have h1:p * (q * Y2) ≤ p * X3:=Int.mul_le_mul_of_nonneg_left hq (by omega)
  have h2:q * yl ≤ q * p:=Int.mul_le_mul_of_nonneg_left (by omega) hq0
  have h3:p * q ≤ p * 1000000000:=Int.mul_le_mul_of_nonneg_left (by omega) (by omega)
  have h4:p * 1000000000 ≤ p * Y2:=Int.mul_le_mul_of_nonneg_left (by omega) (by omega)
  have h5:q * Y = q * yl + p * (q * Y2):=by rw [hY]; grind
  have h6:p * q = q * p:=Int.mul_comm _ _
  have h7:q * Y ≤ X + Y:=by omega
  have h8 : (q - 1) * Y ≤ X := by have:(q - 1) * Y = q * Y - Y:=by grind
                                  omega
  have h9:q - 1 ≤ X / Y:=(Int.le_ediv_iff_mul_le hY0).2 h8
  omega
theorem guess_below {p X Y X3 Y2 xl yl Q:Int} (hp:0 < p) (hX:X = xl + p * X3) (hxl:0 ≤ xl ∧ xl < p) (hY:Y = yl + p * Y2) (hyl:0 ≤ yl) (hQ0:0 ≤ Q) (hQ:Q * Y ≤ X):Q * Y2 ≤ X3:=by
  have h1:0 ≤ Q * yl:=Int.mul_nonneg hQ0 hyl
  have h2:Q * Y = Q * yl + p * (Q * Y2):=by rw [hY]; grind
  have h3:p * (Q * Y2) < p * (X3 + 1):=by
    have:p * (X3 + 1) = p * X3 + p:=by grind
    omega
  have:=Int.lt_of_mul_lt_mul_left h3 (by omega)
  omega
end Go.Di
namespace Go.Di
theorem nv_split (x:List Int) {k:Nat} (h:k ≤ x.length):nv x = nv (x.take k) + bp k * nv (x.drop k):=by
  have:=nv_append (x.take k) (x.drop k)
  rw [List.take_append_drop,List.length_take,Nat.min_eq_left h] at this
  exact this
theorem take_ext {x x':List Int} {k:Nat} (h:∀ p,p < k → x'[p]? = x[p]?):x'.take k = x.take k:=by
  apply List.ext_getElem?
  intro p
  by_cases hp:p < k
  · rw [List.getElem?_take_of_lt hp,List.getElem?_take_of_lt hp,h p hp]
  · rw [List.getElem?_eq_none (by simp; omega),List.getElem?_eq_none (by simp; omega)]
theorem nv_zero_of {x:List Int} (h:∀ p,p < x.length → x[p]? = some 0):nv x = 0:=by
  have:x = List.replicate x.length 0:=by
    apply List.ext_getElem?
    intro p
    by_cases hp:p < x.length
    · rw [h p hp]; simp [hp]
    · rw [List.getElem?_eq_none (by omega),List.getElem?_eq_none (by simp; omega)]
  rw [this,nv_zeros]
end Go.Di
namespace Go.Di
theorem three_top {x:List Int} {k n:Nat} (hx:Dig x) (hn:2 ≤ n) (hkn:k + n < x.length) (hz:∀ p,k + n < p → p < x.length → x[p]? = some 0) :
    ∃ xl,0 ≤ xl ∧ xl < bp (n - 2) ∧ nv (x.drop k) = xl + bp (n - 2) * ((x[k + n] * 1000000000 + x[k + n - 1]) * 1000000000 + x[k + n - 2]):=by
  refine ⟨nv ((x.drop k).take (n - 2)),?_,?_,?_⟩
  · exact nv_nonneg ((hx.drop k).take _)
  · exact (take_lt (hx.drop k) (by rw [List.length_drop]; omega)).2
  · rw [nv_split (x.drop k) (k:=n - 2) (by rw [List.length_drop]; omega),List.drop_drop,show k + (n - 2) = k + n - 2 by omega]
    rw [nv_drop (show k + n - 2 < x.length by omega),show k + n - 2 + 1 = k + n - 1 by omega,nv_drop (show k + n - 1 < x.length by omega),show k + n - 1 + 1 = k + n by omega,nv_drop hkn]
    have h0:nv (x.drop (k + n + 1)) = 0:=nv_zero_of fun p hp => by
      rw [List.length_drop] at hp
      rw [List.getElem?_drop]; exact hz _ (by omega) (by omega)
    rw [h0]
    generalize x[k + n] = a
    generalize x[k + n - 1] = b
    generalize x[k + n - 2] = c
    grind
theorem two_top {y:List Int} (hy:Dig y) (hn:2 ≤ y.length) :
    ∃ yl,0 ≤ yl ∧ yl < bp (y.length - 2) ∧ nv y = yl + bp (y.length - 2) * (y[y.length - 1] * 1000000000 + y[y.length - 2]):=by
  refine ⟨nv (y.take (y.length - 2)),nv_nonneg (hy.take _),(take_lt hy (by omega)).2,?_⟩
  rw [nv_split y (k:=y.length - 2) (by omega),nv_drop (show y.length - 2 < y.length by omega),show y.length - 2 + 1 = y.length - 1 by omega,nv_drop (show y.length - 1 < y.length by omega),List.drop_of_length_le (by omega)]
  have h:=hy
  simp only [nv]
  have e:nv (y.take (y.length - 2)) = nv (y.take (y.length - 2)):=rfl
  generalize y[y.length - 1] = a
  generalize y[y.length - 2] = b
  grind
end Go.Di
namespace Go.Di
structure RoundI (y:List Int) (L:Nat) (V:Int) (k:Nat) (x out:List Int):Prop where
  xlen:x.length = L
  olen:out.length + y.length = L
  xd:Dig x
  od:Dig out
  zero:∀ p,k + y.length ≤ p → p < L → x[p]? = some 0
  lt:nv (x.drop k) < nv y
  val:V = nv x + bp k * (nv y * nv (out.drop k))
theorem RoundI.mk' {y x x' out:List Int} {L k:Nat} {V q:Int} (h:RoundI y L V (k + 1) x out) (hk:k < out.length) (hlen:x'.length = L) (hd:Dig x') (hlow:∀ p,p < k → x'[p]? = x[p]?) (hz:∀ p,k + y.length ≤ p → p < L → x'[p]? = some 0)
    (hq:0 ≤ q ∧ q < 1000000000) (hw:nv (x'.drop k) = nv (x.drop k) - q * nv y) (hlt:nv (x'.drop k) < nv y):RoundI y L V k x' (out.set k q):=by
  refine ⟨hlen,by simp [h.olen],hd,h.od.set k hq,hz,hlt,?_⟩
  have hkx:k ≤ x.length:=by rw [h.xlen]; have:=h.olen; omega
  have e1:=nv_split x hkx
  have e2:=nv_split x' (k:=k) (by rw [hlen]; have:=h.olen; omega)
  rw [take_ext hlow] at e2
  have e3:=nv_drop (a:=out.set k q) (i:=k) (by simp; exact hk)
  have e4:(out.set k q).drop (k + 1) = out.drop (k + 1):=by rw [List.drop_set_of_lt (by omega)]
  have e5:(out.set k q)[k]'(by simp; exact hk) = q:=by simp
  rw [e4,e5] at e3
  have hv:=h.val
  rw [e3,e2,hw]
  rw [e1,bp_succ] at hv
  rw [hv]
  generalize nv (x.take k) = a
  generalize nv (x.drop k) = b
  generalize nv (out.drop (k + 1)) = o
  generalize nv y = z
  generalize bp k = p
  grind
end Go.Di
namespace Go.Di
theorem bp_half {n:Nat} (h:1 ≤ n) {y:List Int} (hy:Dig y) (hl:y.length = n) {t:Int} (ht:y[n - 1]? = some t) (h5:1 ≤ t):bp (n - 1) ≤ nv y:=by
  have hlt:n - 1 < y.length:=by omega
  have e:=nv_split y (k:=n - 1) (by omega)
  rw [nv_drop hlt,show n - 1 + 1 = n by omega,List.drop_of_length_le (by omega)] at e
  rw [List.getElem?_eq_getElem hlt] at ht
  have ht:y[n - 1] = t:=by simpa using ht
  rw [ht] at e
  have h0:=nv_nonneg (hy.take (n - 1))
  have hp:=bp_pos (n - 1)
  have:bp (n - 1) * 1 ≤ bp (n - 1) * t:=Int.mul_le_mul_of_nonneg_left h5 (by omega)
  simp only [nv,Int.mul_zero,Int.add_zero] at e
  omega
end Go.Di
namespace Go.Di
theorem after_take {y x x':List Int} {k:Nat} {q br:Int} (hI:TakeI y x k q y.length br x') (hk:k + y.length < x.length) :
    nv ((x'.set (k + y.length) (x[k + y.length] - br)).drop k) = nv (x.drop k) - q * nv y:=by
  have hlx:k + y.length < x'.length:=by rw [hI.len]; exact hk
  have hv:=hI.val
  rw [List.take_length] at hv
  have hs:=nv_set (d:=x[k + y.length] - br) hlx
  have he:x'[k + y.length] = x[k + y.length]:=by
    have:=hI.rest (k + y.length) (Nat.le_refl _)
    rw [List.getElem?_eq_getElem hlx,List.getElem?_eq_getElem hk] at this
    simpa using this
  rw [he] at hs
  have e1:=nv_split x (k:=k) (by omega)
  have e2:=nv_split (x'.set (k + y.length) (x[k + y.length] - br)) (k:=k) (by simp; omega)
  have e3:(x'.set (k + y.length) (x[k + y.length] - br)).take k = x.take k:=take_ext fun p hp => by
    rw [List.getElem?_set_ne (by omega)]; exact hI.low p hp
  rw [e3,hs] at e2
  have hp:=bp_pos k
  have key:bp k * nv ((x'.set (k + y.length) (x[k + y.length] - br)).drop k) = bp k * (nv (x.drop k) - q * nv y):=by
    generalize nv ((x'.set (k + y.length) (x[k + y.length] - br)).drop k) = A at *
    generalize nv (x.drop k) = X at *
    generalize x[k + y.length] = e at *
    generalize bp (k + y.length) = P at *
    generalize bp k = p at *
    generalize nv (x.take k) = u at *
    generalize nv y = z at *
    grind
  exact Int.eq_of_mul_eq_mul_left (by omega) key
end Go.Di
namespace Go.Di
theorem win_top {x:List Int} {k n:Nat} (hkn:k + n < x.length) (hz:∀ p,k + n < p → p < x.length → x[p]? = some 0):nv (x.drop k) = nv ((x.drop k).take n) + bp n * x[k + n]:=by
  rw [nv_split (x.drop k) (k:=n) (by rw [List.length_drop]; omega),List.drop_drop,nv_drop hkn]
  have h0:nv (x.drop (k + n + 1)) = 0:=nv_zero_of fun p hp => by
    rw [List.length_drop] at hp
    rw [List.getElem?_drop]; exact hz _ (by omega) (by omega)
  rw [h0]; simp
theorem top_sign {W b e D Y:Int} (hW:0 ≤ W ∧ W < b) (hD:D = W + b * e) (hY:0 < Y ∧ Y < b):(0 ≤ D → D < Y → e = 0) ∧ (D < 0 → -Y ≤ D → e = -1):=by
  constructor
  · intro h1 h2
    rcases Int.lt_or_le e 0 with h | h
    · have:b * e ≤ b * (-1):=Int.mul_le_mul_of_nonneg_left (by omega) (by omega)
      omega
    · rcases Int.lt_or_le 0 e with h' | h'
      · have:b * 1 ≤ b * e:=Int.mul_le_mul_of_nonneg_left (by omega) (by omega)
        omega
      · omega
  · intro h1 h2
    rcases Int.lt_or_le e (-1) with h | h
    · have:b * e ≤ b * (-2):=Int.mul_le_mul_of_nonneg_left (by omega) (by omega)
      omega
    · rcases Int.lt_or_le (-1) e with h' | h'
      · have:0 ≤ b * e:=Int.mul_nonneg (by omega) (by omega)
        omega
      · omega
end Go.Di
