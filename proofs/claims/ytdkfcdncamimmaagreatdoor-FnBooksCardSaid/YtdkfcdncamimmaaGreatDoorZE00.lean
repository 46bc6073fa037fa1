/-
  Own work: part 5 of the texts that the proof of the given statement leans on.
-/
import Derived.Laws.Strings
import Derived.Test.YtdkfcdncamimmaaGreatDoorZD03
noncomputable section
namespace Go.Di
def zcG:ByteArray × Int × Unit→Option ((ByteArray × Int × Unit) ⊕ ((Bool × Unit) ⊕ (ByteArray × Unit))):=fun (s,i,_) =>
  cond (decide (i < (s.size:Int)))
    ((zeh s i).bind fun b =>
    cond (decide (b < 48))
      (some (.inr (.inl (false,()))))
      ((zeh s i).bind fun b1 =>
      cond (decide (b1 > 57))
        (some (.inr (.inl (false,()))))
        (some (.inl (s,IntKind.i64.wrap (i+1),())))))
    (some (.inr (.inr (s,()))))
def zit (s:ByteArray) (i:Int):Option ((Bool × Unit) ⊕ (ByteArray × Unit)):=whileO zcG (s,i,())
def zfO (s:ByteArray):Option Bool :=
  (zit s 0).bind fun r =>
  match r with
  | .inl (t,_) =>
    some t
  | .inr (s1,_) =>
    some (!(strEq s1 (⟨#[]⟩:ByteArray)))
def zdw:ByteArray × Int × Unit→Option ((ByteArray × Int × Unit) ⊕ ((Bool × Unit) ⊕ (Unit))):=fun (s,i,_) =>
  cond (decide (i < (s.size:Int)))
    ((zeh s i).bind fun b =>
    cond (decide (b < 97))
      ((zeh s i).bind fun b1 =>
      cond (decide (b1 < 48))
        (some (.inr (.inl (false,()))))
        ((zeh s i).bind fun b2 =>
        cond (decide (b2 > 57))
          (some (.inr (.inl (false,()))))
          (some (.inl (s,IntKind.i64.wrap (i+1),())))))
      ((zeh s i).bind fun b1 =>
      cond (decide (b1 > 122))
        ((zeh s i).bind fun b2 =>
        cond (decide (b2 < 48))
          (some (.inr (.inl (false,()))))
          ((zeh s i).bind fun b3 =>
          cond (decide (b3 > 57))
            (some (.inr (.inl (false,()))))
            (some (.inl (s,IntKind.i64.wrap (i+1),())))))
        (some (.inl (s,IntKind.i64.wrap (i+1),())))))
    (some (.inr (.inr (()))))
def zjX (s:ByteArray) (i:Int):Option ((Bool × Unit) ⊕ (Unit)):=whileO zdw (s,i,())
def zgS (s:ByteArray):Option Bool :=
  cond (decide ((s.size:Int) < 1))
    (some false)
    (cond (decide ((s.size:Int) > 8))
      (some false)
      ((zeh s 0).bind fun b =>
      cond (decide (b < 97))
        (some false)
        ((zeh s 0).bind fun b1 =>
        cond (decide (b1 > 122))
          (some false)
          ((zjX s 0).bind fun r =>
          match r with
          | .inl (t,_) =>
            some t
          | .inr _ =>
            some true))))
def zhk (l:List ByteArray) (by_:ByteArray):Option ByteArray :=
 (zge l by_).bind fun r =>
 some r
def zfN (s:ByteArray) (n:Int):Option ByteArray :=
  cond (decide ((s.size:Int) ≥ n))
    (some s)
    (cond (decide (n > 2000))
      (some s)
      ((zeZ (⟨#[48]⟩:ByteArray) (IntKind.i64.wrap (n - (s.size:Int)))).bind fun r =>
      (zah (Nat.ble (r.size+s.size) 4611686018427387904)).bind fun _ =>
      some (r++s)))
def zbp:ByteArray × ByteArray × Int × Int × (List ByteArray) × Unit→Option ((ByteArray × ByteArray × Int × Int × (List ByteArray) × Unit) ⊕ (ByteArray × Int × (List ByteArray) × Unit)):=fun (s,by_,from_,i,out,_) =>
  cond (decide (i < (s.size:Int)))
    ((zeh s i).bind fun b =>
    (zdK by_ b).bind fun r =>
    cond (decide (r ≥ 0))
      ((zah (inside s.size (from_,i))).bind fun _ =>
      (zah (Nat.ble (out.length+1) zan)).bind fun _ =>
      some (.inl (s,by_,IntKind.i64.wrap (i+1),IntKind.i64.wrap (i+1),out++([s.extract from_.toNat i.toNat]:List ByteArray),())))
      (some (.inl (s,by_,from_,IntKind.i64.wrap (i+1),out,()))))
    (some (.inr (s,from_,out,())))
def zis (s:ByteArray) (by_:ByteArray) (from_:Int) (i:Int) (out:List ByteArray):Option (ByteArray × Int × (List ByteArray) × Unit):=whileO zbp (s,by_,from_,i,out,())
def zdB (s:ByteArray) (by_:ByteArray):Option (List ByteArray) :=
 (zis s by_ 0 0 ([]:List ByteArray)).bind fun (s1,from_,out,_) =>
 (zah (inside s1.size (from_,(s1.size:Int)))).bind fun _ =>
 (zah (Nat.ble (out.length+1) zan)).bind fun _ =>
 some (out++([s1.extract from_.toNat ((s1.size:Int).toNat)]:List ByteArray))
def zeN (s:ByteArray):Option (List ByteArray) :=
  (zdB s (⟨#[10]⟩:ByteArray)).bind fun r =>
  (idx r (IntKind.i64.wrap ((r.length:Int) - 1))).bind fun _ =>
  (r[(IntKind.i64.wrap ((r.length:Int) - 1)).toNat]?).bind fun e =>
  cond (strEq e (⟨#[]⟩:ByteArray))
    ((zah (inside r.length (0,IntKind.i64.wrap ((r.length:Int) - 1)))).bind fun _ =>
    some (r.take ((IntKind.i64.wrap ((r.length:Int) - 1)).toNat)))
    (some r)
def za3 (l:List Int):Option (List Int) :=
 (zah (Nat.ble l.length zan)).bind fun _ =>
 some l
def zbt:Int × (List Int) × Int × Int × Unit→Option ((Int × (List Int) × Int × Int × Unit) ⊕ ((Bool × Unit) ⊕ (Unit))):=fun (n,t,t1,t2,_) =>
  cond (decide (t2 < t1))
    ((idx t t2).bind fun e =>
    cond (e==n)
      (some (.inr (.inl (true,()))))
      (some (.inl (n,t,t1,IntKind.i64.wrap (t2+1),()))))
    (some (.inr (.inr (()))))
def zhr (n:Int) (t:List Int) (t1:Int) (t2:Int):Option ((Bool × Unit) ⊕ (Unit)):=whileO zbt (n,t,t1,t2,())
def zbb (l:List Int) (n:Int):Option Bool :=
  (zhr n l (l.length:Int) 0).bind fun r =>
  match r with
  | .inl (t,_) =>
    some t
  | .inr _ =>
    some false
def zea:Int × ByteArray × Unit→Option ((Int × ByteArray × Unit) ⊕ (Int × ByteArray × Unit)):=fun (n,s,_) =>
  cond (decide (n > 9))
    ((zah (Nat.ble (((bytesOf ([IntKind.u8.wrap (IntKind.i64.wrap (48+(n.tmod 10)))]:List Int)).size)+s.size) 4611686018427387904)).bind fun _ =>
    some (.inl (IntKind.i64.wrap (n.tdiv 10),(bytesOf ([IntKind.u8.wrap (IntKind.i64.wrap (48+(n.tmod 10)))]:List Int))++s,())))
    (some (.inr (n,s,())))
def zef (n:Int) (s:ByteArray):Option (Int × ByteArray × Unit):=whileO zea (n,s,())
def ze1 (n:Int):Option ByteArray :=
  cond (decide (n < 0))
    (cond ((IntKind.i64.wrap (n.tdiv 10))==0)
      ((zah (Nat.ble (((⟨#[45]⟩:ByteArray).size)+((bytesOf ([IntKind.u8.wrap (IntKind.i64.wrap (48 - n))]:List Int)).size)) 4611686018427387904)).bind fun _ =>
      some ((⟨#[45]⟩:ByteArray)++(bytesOf ([IntKind.u8.wrap (IntKind.i64.wrap (48 - n))]:List Int))))
      none)
    ((zef n (⟨#[]⟩:ByteArray)).bind fun (n1,s,_) =>
    (zah (Nat.ble (((bytesOf ([IntKind.u8.wrap (IntKind.i64.wrap (48+n1))]:List Int)).size)+s.size) 4611686018427387904)).bind fun _ =>
    some ((bytesOf ([IntKind.u8.wrap (IntKind.i64.wrap (48+n1))]:List Int))++s))
def zeE:ByteArray × Int × Unit→Option ((ByteArray × Int × Unit) ⊕ ((Bool × Unit) ⊕ (ByteArray × Unit))):=fun (s,i,_) =>
  cond (decide (i < (s.size:Int)))
    ((zeh s i).bind fun b =>
    cond (decide (b < 48))
      (some (.inr (.inl (false,()))))
      ((zeh s i).bind fun b1 =>
      cond (decide (b1 > 57))
        (some (.inr (.inl (false,()))))
        (some (.inl (s,IntKind.i64.wrap (i+1),())))))
    (some (.inr (.inr (s,()))))
def zio (s:ByteArray) (i:Int):Option ((Bool × Unit) ⊕ (ByteArray × Unit)):=whileO zeE (s,i,())
def zhj (s:ByteArray):Option Bool :=
  (zio s 0).bind fun r =>
  match r with
  | .inl (t,_) =>
    some t
  | .inr (s1,_) =>
    some (decide ((s1.size:Int) > 0))
def zaX (n:Int) (lo:Int) (hi:Int):Option Bool :=
  cond (decide (n ≥ lo))
    (some (decide (n≤hi)))
    (some false)
def zfw:ByteArray × Int × Unit→Option ((ByteArray × Int × Unit) ⊕ ((Bool × Unit) ⊕ (ByteArray × Unit))):=fun (s,i,_) =>
  cond (decide (i < (s.size:Int)))
    ((zeh s i).bind fun b =>
    cond (decide (b ≥ 97))
      ((zeh s i).bind fun b1 =>
      cond (!(decide (b1≤122)))
        (cond (i==0)
          (some (.inr (.inl (false,()))))
          ((zeh s i).bind fun b2 =>
          cond (decide (b2 < 48))
            (some (.inr (.inl (false,()))))
            ((zeh s i).bind fun b3 =>
            cond (decide (b3 > 57))
              (some (.inr (.inl (false,()))))
              (some (.inl (s,IntKind.i64.wrap (i+1),()))))))
        (some (.inl (s,IntKind.i64.wrap (i+1),()))))
      (cond (i==0)
        (some (.inr (.inl (false,()))))
        ((zeh s i).bind fun b1 =>
        cond (decide (b1 < 48))
          (some (.inr (.inl (false,()))))
          ((zeh s i).bind fun b2 =>
          cond (decide (b2 > 57))
            (some (.inr (.inl (false,()))))
            (some (.inl (s,IntKind.i64.wrap (i+1),())))))))
    (some (.inr (.inr (s,()))))
def zjP (s:ByteArray) (i:Int):Option ((Bool × Unit) ⊕ (ByteArray × Unit)):=whileO zfw (s,i,())
def ziY (s:ByteArray):Option Bool :=
  (zjP s 0).bind fun r =>
  match r with
  | .inl (t,_) =>
    some t
  | .inr (s1,_) =>
    (zaX (s1.size:Int) 1 8).bind fun r1 =>
    some r1
def zdk:ByteArray × Int × Unit→Option ((ByteArray × Int × Unit) ⊕ (ByteArray × Unit)):=fun (s,n,_) =>
  cond (decide ((s.size:Int) < n))
    ((zah (Nat.ble (((⟨#[48]⟩:ByteArray).size)+s.size) 4611686018427387904)).bind fun _ =>
    some (.inl ((⟨#[48]⟩:ByteArray)++s,n,())))
    (some (.inr (s,())))
def zim (s:ByteArray) (n:Int):Option (ByteArray × Unit):=whileO zdk (s,n,())
def zhi (s:ByteArray) (n:Int):Option ByteArray :=
  cond (decide (n > 2000))
    (some s)
    ((zim s n).bind fun (s1,_) =>
    some s1)
def zdj:ByteArray × ByteArray × Int × Int × Int × (List ByteArray) × Unit→Option ((ByteArray × ByteArray × Int × Int × Int × (List ByteArray) × Unit) ⊕ (ByteArray × ByteArray × Int × Int × (List ByteArray) × Unit)):=fun (s,by_,from_,i,k,out,_) =>
  cond (decide (k < (by_.size:Int)))
    ((zeh s i).bind fun b =>
    (zeh by_ k).bind fun b1 =>
    cond (b==b1)
      ((zah (inside s.size (from_,i))).bind fun _ =>
      (zah (Nat.ble (out.length+1) zan)).bind fun _ =>
      some (.inr (s,by_,IntKind.i64.wrap (i+1),i,out++([s.extract from_.toNat i.toNat]:List ByteArray),())))
      (some (.inl (s,by_,from_,i,IntKind.i64.wrap (k+1),out,()))))
    (some (.inr (s,by_,from_,i,out,())))
def zdC (s:ByteArray) (by_:ByteArray) (from_:Int) (i:Int) (k:Int) (out:List ByteArray):Option (ByteArray × ByteArray × Int × Int × (List ByteArray) × Unit):=whileO zdj (s,by_,from_,i,k,out,())
def zb5:ByteArray × ByteArray × Int × Int × (List ByteArray) × Unit→Option ((ByteArray × ByteArray × Int × Int × (List ByteArray) × Unit) ⊕ (ByteArray × Int × (List ByteArray) × Unit)):=fun (s,by_,from_,i,out,_) =>
  cond (decide (i < (s.size:Int)))
    ((zdC s by_ from_ i 0 out).bind fun (s1,by_1,from_1,i1,out1,_) =>
    some (.inl (s1,by_1,from_1,IntKind.i64.wrap (i1+1),out1,())))
    (some (.inr (s,from_,out,())))
def zil (s:ByteArray) (by_:ByteArray) (from_:Int) (i:Int) (out:List ByteArray):Option (ByteArray × Int × (List ByteArray) × Unit):=whileO zb5 (s,by_,from_,i,out,())
def zdx (s:ByteArray) (by_:ByteArray):Option (List ByteArray) :=
 (zil s by_ 0 0 ([]:List ByteArray)).bind fun (s1,from_,out,_) =>
 (zah (inside s1.size (from_,(s1.size:Int)))).bind fun _ =>
 (zah (Nat.ble (out.length+1) zan)).bind fun _ =>
 some (out++([s1.extract from_.toNat ((s1.size:Int).toNat)]:List ByteArray))
def zf5 (s:ByteArray):Option (List ByteArray) :=
  (zdx s (⟨#[10]⟩:ByteArray)).bind fun r =>
  (idx r (IntKind.i64.wrap ((r.length:Int) - 1))).bind fun _ =>
  (r[(IntKind.i64.wrap ((r.length:Int) - 1)).toNat]?).bind fun e =>
  cond (strEq e (⟨#[]⟩:ByteArray))
    ((zah (inside r.length (0,IntKind.i64.wrap ((r.length:Int) - 1)))).bind fun _ =>
    some (r.take ((IntKind.i64.wrap ((r.length:Int) - 1)).toNat)))
    (some r)
def zcy (c:Cur):Option (Int × Cur) :=
  cond (decide (c.i < (c.b.length:Int)))
    ((idx c.b c.i).bind fun e =>
    some (IntKind.i64.wrap ((BitVec.ofInt 64 (IntKind.i64.wrap ((IntKind.i64.wrap ((BitVec.ofInt 64 (IntKind.i64.wrap ((BitVec.ofInt 64 (zsR .i64 (IntKind.i64.wrap ((IntKind.i64.wrap (c.h * 6364136223846793005))+1442695040888963407)) 33) ^^^ BitVec.ofInt 64 (zsR .i64 (IntKind.i64.wrap ((IntKind.i64.wrap (c.h * 6364136223846793005))+1442695040888963407)) 45)).toNat:Int)) &&& BitVec.ofInt 64 255).toNat:Int))+(IntKind.i64.wrap e))) &&& BitVec.ofInt 64 255).toNat:Int),(⟨c.b,IntKind.i64.wrap (c.i+1),IntKind.i64.wrap ((IntKind.i64.wrap (c.h * 6364136223846793005))+1442695040888963407)⟩:Cur)))
    (some (IntKind.i64.wrap ((BitVec.ofInt 64 (IntKind.i64.wrap ((BitVec.ofInt 64 (zsR .i64 (IntKind.i64.wrap ((IntKind.i64.wrap (c.h * 6364136223846793005))+1442695040888963407)) 33) ^^^ BitVec.ofInt 64 (zsR .i64 (IntKind.i64.wrap ((IntKind.i64.wrap (c.h * 6364136223846793005))+1442695040888963407)) 45)).toNat:Int)) &&& BitVec.ofInt 64 255).toNat:Int),(⟨c.b,c.i,IntKind.i64.wrap ((IntKind.i64.wrap (c.h * 6364136223846793005))+1442695040888963407)⟩:Cur)))
def zaq (c:Cur) (n:Int):Option (Int × Cur) :=
  cond (decide (n≤0))
    (some (0,c))
    (cond (decide (n≤256))
      ((zcy c).bind fun (r0,x0) =>
      (zah (n != 0)).bind fun _ =>
      some (r0.tmod n,x0))
      ((zcy c).bind fun (r0,x0) =>
      (zcy x0).bind fun (r0_1,x0_1) =>
      (zcy x0_1).bind fun (r0_2,x0_2) =>
      (zcy x0_2).bind fun (r0_3,x0_3) =>
      (zah (n != 0)).bind fun _ =>
      some ((IntKind.i64.wrap ((IntKind.i64.wrap ((IntKind.i64.wrap ((IntKind.i64.wrap (r0 * 16777216))+(IntKind.i64.wrap (r0_1 * 65536))))+(IntKind.i64.wrap (r0_2 * 256))))+r0_3)).tmod n,x0_3)))
def zen:(List Int) × Int × Int × Unit→Option (((List Int) × Int × Int × Unit) ⊕ ((List Int) × Int × Unit)):=fun (code,h,i,_) =>
  cond (decide (i < (code.length:Int)))
    (cond (decide (i < 4000))
      ((idx code i).bind fun e =>
      some (.inl (code,IntKind.i64.wrap ((BitVec.ofInt 64 (IntKind.i64.wrap ((IntKind.i64.wrap ((IntKind.i64.wrap (h * 67))+(IntKind.i64.wrap e)))+7)) &&& BitVec.ofInt 64 1073741823).toNat:Int),IntKind.i64.wrap (i+1),())))
      (some (.inr (code,h,()))))
    (some (.inr (code,h,())))
def zjO (code:List Int) (h:Int) (i:Int):Option ((List Int) × Int × Unit):=whileO zen (code,h,i,())
def zgO (code:List Int):Option Cur :=
 (zjO code (IntKind.i64.wrap (1973+(code.length:Int))) 0).bind fun (code1,h,_) =>
 some (⟨code1,0,h⟩:Cur)
def zd4 (c:Cur) (n:Int):Option (Bool × Cur) :=
 (zaq c n).bind fun (r0,x0) =>
 some (r0==0,x0)
end Go.Di
namespace Go.Di
def zhI:Int × (List Int) × Unit→Option ((Int × (List Int) × Unit) ⊕ ((List Int) × Unit)):=fun (n,out,_) =>
  cond (decide (n > 0))
    ((zah (Nat.ble (out.length+1) zan)).bind fun _ =>
    some (.inl (IntKind.i64.wrap (n.tdiv 1000000000),out++([n.tmod 1000000000]:List Int),())))
    (some (.inr (out,())))
def zpV (n:Int) (out:List Int):Option ((List Int) × Unit):=whileO zhI (n,out,())
def zeu (n:Int):Option (List Int) :=
 (zpV n ([]:List Int)).bind fun (out,_) =>
 some out
def zd1:(List Int) × Int × Int × Unit→Option (((List Int) × Int × Int × Unit) ⊕ ((Bool × Unit) ⊕ (Unit))):=fun (t,t1,t2,_) =>
  cond (decide (t2 < t1))
    ((idx t t2).bind fun e =>
    cond (decide (e < 0))
      (some (.inr (.inl (false,()))))
      (cond (decide (e ≥ 1000000000))
        (some (.inr (.inl (false,()))))
        (some (.inl (t,t1,IntKind.i64.wrap (t2+1),())))))
    (some (.inr (.inr (()))))
def zgk (t:List Int) (t1:Int) (t2:Int):Option ((Bool × Unit) ⊕ (Unit)):=whileO zd1 (t,t1,t2,())
def zgv (a:List Int):Option Bool :=
  cond (decide ((a.length:Int) > 60))
    (some false)
    (cond (decide ((a.length:Int) > 0))
      ((idx a (IntKind.i64.wrap ((a.length:Int) - 1))).bind fun e =>
      cond (e==0)
        (some false)
        ((zgk a (a.length:Int) 0).bind fun r =>
        match r with
        | .inl (t,_) =>
          some t
        | .inr _ =>
          some true))
      ((zgk a (a.length:Int) 0).bind fun r =>
      match r with
      | .inl (t,_) =>
        some t
      | .inr _ =>
        some true))
def zdl:Int × (List Int) × Unit→Option ((Int × (List Int) × Unit) ⊕ (Int × (List Int) × Unit)):=fun (n,a,_) =>
  cond (decide (n > 0))
    ((idx a (IntKind.i64.wrap (n - 1))).bind fun _ =>
    (a[(IntKind.i64.wrap (n - 1)).toNat]?).bind fun e =>
    cond (e==0)
      (some (.inl (IntKind.i64.wrap (n - 1),a,())))
      (some (.inr (n,a,()))))
    (some (.inr (n,a,())))
def zjQ (n:Int) (a:List Int):Option (Int × (List Int) × Unit):=whileO zdl (n,a,())
def zb8 (a:List Int):Option (List Int) :=
 (zjQ (a.length:Int) a).bind fun (n,a1,_) =>
 (zah (inside a1.length (0,n))).bind fun _ =>
 some (a1.take n.toNat)
def zcF:ByteArray × Int × (List Int) × Unit→Option ((ByteArray × Int × (List Int) × Unit) ⊕ ((List Int) × Unit)):=fun (s,end_,out,_) =>
  cond (decide (end_ > 0))
    ((zah (inside s.size (cond (decide (0 > (IntKind.i64.wrap (end_ - 9)))) 0 (IntKind.i64.wrap (end_ - 9)),end_))).bind fun _ =>
    (zeT (s.extract ((cond (decide (0 > (IntKind.i64.wrap (end_ - 9)))) 0 (IntKind.i64.wrap (end_ - 9))).toNat) end_.toNat)).bind fun r0 =>
    (zah (Nat.ble (out.length+1) zan)).bind fun _ =>
    some (.inl (s,IntKind.i64.wrap (end_ - 9),out++([r0]:List Int),())))
    (some (.inr (out,())))
def zf9 (s:ByteArray) (end_:Int) (out:List Int):Option ((List Int) × Unit):=whileO zcF (s,end_,out,())
def zet (s:ByteArray):Option (List Int × Bool) :=
  (zfO s).bind fun r =>
  cond (!r)
    (some (([]:List Int),false))
    (cond (decide ((s.size:Int) > 540))
      (some (([]:List Int),false))
      (cond (decide ((s.size:Int) > 1))
        ((zeh s 0).bind fun b =>
        cond (b==48)
          (some (([]:List Int),false))
          ((zf9 s (s.size:Int) ([]:List Int)).bind fun (out,_) =>
          (zb8 out).bind fun r1 =>
          some (r1,true)))
        ((zf9 s (s.size:Int) ([]:List Int)).bind fun (out,_) =>
        (zb8 out).bind fun r1 =>
        some (r1,true))))
def zdv:(List Int) × Int × Int × Int × (List Int) × Unit→Option (((List Int) × Int × Int × Int × (List Int) × Unit) ⊕ (Int × (List Int) × Unit)):=fun (a,d,rest,i,out,_) =>
  cond (decide (i ≥ 0))
    ((idx a i).bind fun e =>
    (zah (d != 0)).bind fun _ =>
    (idx out i).bind fun _ =>
    (zah (d != 0)).bind fun _ =>
    some (.inl (a,d,(IntKind.i64.wrap ((IntKind.i64.wrap (rest * 1000000000))+e)).tmod d,IntKind.i64.wrap (i - 1),out.set i.toNat (IntKind.i64.wrap ((IntKind.i64.wrap ((IntKind.i64.wrap (rest * 1000000000))+e)).tdiv d)),())))
    (some (.inr (rest,out,())))
def zir (a:List Int) (d:Int) (rest:Int) (i:Int) (out:List Int):Option (Int × (List Int) × Unit):=whileO zdv (a,d,rest,i,out,())
def zes (a:List Int) (d:Int):Option (List Int × List Int) :=
 (zah (((decide (0≤(a.length:Int))) && (decide ((a.length:Int)≤(a.length:Int)))) && (decide ((a.length:Int)≤(zan:Int))))).bind fun _ =>
 (zir a d 0 (IntKind.i64.wrap ((a.length:Int) - 1)) (List.replicate ((a.length:Int).toNat) 0:List Int)).bind fun (rest,out,_) =>
 (zb8 out).bind fun r =>
 (zeu rest).bind fun r1 =>
 some (r,r1)
def zeb:(List Int) × ByteArray × Int × Unit→Option (((List Int) × ByteArray × Int × Unit) ⊕ (ByteArray × Unit)):=fun (a,s,i,_) =>
  cond (decide (i ≥ 0))
    ((idx a i).bind fun e =>
    (zd3 e).bind fun r =>
    (zfN r 9).bind fun r1 =>
    (zah (Nat.ble (s.size+r1.size) 4611686018427387904)).bind fun _ =>
    some (.inl (a,s++r1,IntKind.i64.wrap (i - 1),())))
    (some (.inr (s,())))
def zfS (a:List Int) (s:ByteArray) (i:Int):Option (ByteArray × Unit):=whileO zeb (a,s,i,())
def zbS (a:List Int):Option ByteArray :=
  cond ((a.length:Int)==0)
    (some (⟨#[48]⟩:ByteArray))
    ((idx a (IntKind.i64.wrap ((a.length:Int) - 1))).bind fun e =>
    (zd3 e).bind fun r =>
    (zfS a r (IntKind.i64.wrap ((a.length:Int) - 2))).bind fun (s,_) =>
    some s)
def zce:(List Int) × (List Int) × Int × Int × Int × (List Int) × Unit→Option (((List Int) × (List Int) × Int × Int × Int × (List Int) × Unit) ⊕ (Int × (List Int) × Unit)):=fun (a,b,carry,t,t1,out,_) =>
  cond (decide (t1 < t))
    ((idx a t1).bind fun e =>
    cond (decide (t1 < (b.length:Int)))
      ((idx b t1).bind fun e1 =>
      cond (decide ((IntKind.i64.wrap ((IntKind.i64.wrap (e+carry))+e1)) ≥ 1000000000))
        ((zah (Nat.ble (out.length+1) zan)).bind fun _ =>
        some (.inl (a,b,1,t,IntKind.i64.wrap (t1+1),out++([IntKind.i64.wrap ((IntKind.i64.wrap ((IntKind.i64.wrap (e+carry))+e1)) - 1000000000)]:List Int),())))
        ((zah (Nat.ble (out.length+1) zan)).bind fun _ =>
        some (.inl (a,b,0,t,IntKind.i64.wrap (t1+1),out++([IntKind.i64.wrap ((IntKind.i64.wrap (e+carry))+e1)]:List Int),()))))
      (cond (decide ((IntKind.i64.wrap (e+carry)) ≥ 1000000000))
        ((zah (Nat.ble (out.length+1) zan)).bind fun _ =>
        some (.inl (a,b,1,t,IntKind.i64.wrap (t1+1),out++([IntKind.i64.wrap ((IntKind.i64.wrap (e+carry)) - 1000000000)]:List Int),())))
        ((zah (Nat.ble (out.length+1) zan)).bind fun _ =>
        some (.inl (a,b,0,t,IntKind.i64.wrap (t1+1),out++([IntKind.i64.wrap (e+carry)]:List Int),())))))
    (some (.inr (carry,out,())))
def zew (a:List Int) (b:List Int) (carry:Int) (t:Int) (t1:Int) (out:List Int):Option (Int × (List Int) × Unit):=whileO zce (a,b,carry,t,t1,out,())
def zdO (a:List Int) (b:List Int):Option (List Int) :=
  cond (decide ((a.length:Int) < (b.length:Int)))
    ((zah ((decide (0≤(IntKind.i64.wrap ((b.length:Int)+1)))) && (decide ((IntKind.i64.wrap ((b.length:Int)+1))≤(zan:Int))))).bind fun _ =>
    (zew b a 0 (b.length:Int) 0 (List.replicate 0 0:List Int)).bind fun (carry,out,_) =>
    cond (decide (carry > 0))
      ((zah (Nat.ble (out.length+1) zan)).bind fun _ =>
      some (out++([1]:List Int)))
      (some out))
    ((zah ((decide (0≤(IntKind.i64.wrap ((a.length:Int)+1)))) && (decide ((IntKind.i64.wrap ((a.length:Int)+1))≤(zan:Int))))).bind fun _ =>
    (zew a b 0 (a.length:Int) 0 (List.replicate 0 0:List Int)).bind fun (carry,out,_) =>
    cond (decide (carry > 0))
      ((zah (Nat.ble (out.length+1) zan)).bind fun _ =>
      some (out++([1]:List Int)))
      (some out))
def zdu:(List Int) × (List Int) × Int × Unit→Option (((List Int) × (List Int) × Int × Unit) ⊕ ((Int × Unit) ⊕ (Unit))):=fun (a,b,i,_) =>
  cond (decide (i ≥ 0))
    ((idx a i).bind fun e =>
    (idx b i).bind fun e1 =>
    cond (decide (e < e1))
      (some (.inr (.inl ((-1),()))))
      ((idx a i).bind fun e2 =>
      (idx b i).bind fun e3 =>
      cond (decide (e2 > e3))
        (some (.inr (.inl (1,()))))
        (some (.inl (a,b,IntKind.i64.wrap (i - 1),())))))
    (some (.inr (.inr (()))))
def zjW (a:List Int) (b:List Int) (i:Int):Option ((Int × Unit) ⊕ (Unit)):=whileO zdu (a,b,i,())
def zeL (a:List Int) (b:List Int):Option Int :=
  cond ((a.length:Int) != (b.length:Int))
    (cond (decide ((a.length:Int) < (b.length:Int)))
      (some (-1))
      (some 1))
    ((zjW a b (IntKind.i64.wrap ((a.length:Int) - 1))).bind fun r =>
    match r with
    | .inl (t,_) =>
      some t
    | .inr _ =>
      some 0)
def zfx:(List Int) × Int × Int × Int × (List Int) × Int × Int × (List Int) × Int × Int × (List Int) × Unit→Option (((List Int) × Int × Int × Int × (List Int) × Int × Int × (List Int) × Int × Int × (List Int) × Unit) ⊕ ((List Int) × Int × Int × (List Int) × Int × Int × (List Int) × Unit)):=fun (b,i,x,carry,t,t1,t2,t3,t4,t5,out,_) =>
  cond (decide (t5 < t4))
    ((idx t3 t5).bind fun e =>
    (idx out (IntKind.i64.wrap (i+t5))).bind fun _ =>
    (out[(IntKind.i64.wrap (i+t5)).toNat]?).bind fun e1 =>
    (idx out (IntKind.i64.wrap (i+t5))).bind fun _ =>
    some (.inl (b,i,x,IntKind.i64.wrap ((IntKind.i64.wrap ((IntKind.i64.wrap (e1+(IntKind.i64.wrap (x * e))))+carry)).tdiv 1000000000),t,t1,t2,t3,t4,IntKind.i64.wrap (t5+1),out.set ((IntKind.i64.wrap (i+t5)).toNat) ((IntKind.i64.wrap ((IntKind.i64.wrap (e1+(IntKind.i64.wrap (x * e))))+carry)).tmod 1000000000),())))
    (some (.inr (b,i,carry,t,t1,t2,out,())))
def zjS (b:List Int) (i:Int) (x:Int) (carry:Int) (t:List Int) (t1:Int) (t2:Int) (t3:List Int) (t4:Int) (t5:Int) (out:List Int):Option ((List Int) × Int × Int × (List Int) × Int × Int × (List Int) × Unit):=whileO zfx (b,i,x,carry,t,t1,t2,t3,t4,t5,out,())
def zdn:(List Int) × (List Int) × Int × Int × (List Int) × Unit→Option (((List Int) × (List Int) × Int × Int × (List Int) × Unit) ⊕ ((List Int) × Unit)):=fun (b,t,t1,t2,out,_) =>
  cond (decide (t2 < t1))
    ((idx t t2).bind fun e =>
    (zjS b t2 e 0 t t1 t2 b (b.length:Int) 0 out).bind fun (b1,i,carry,t3,t4,t5,out1,_) =>
    (idx out1 (IntKind.i64.wrap (i+(b1.length:Int)))).bind fun _ =>
    (out1[(IntKind.i64.wrap (i+(b1.length:Int))).toNat]?).bind fun e1 =>
    (idx out1 (IntKind.i64.wrap (i+(b1.length:Int)))).bind fun _ =>
    some (.inl (b1,t3,t4,IntKind.i64.wrap (t5+1),out1.set ((IntKind.i64.wrap (i+(b1.length:Int))).toNat) (IntKind.i64.wrap (e1+carry)),())))
    (some (.inr (out,())))
def zjT (b:List Int) (t:List Int) (t1:Int) (t2:Int) (out:List Int):Option ((List Int) × Unit):=whileO zdn (b,t,t1,t2,out,())
def zbL (a:List Int) (b:List Int):Option (List Int) :=
 (zah (((decide (0≤(IntKind.i64.wrap ((a.length:Int)+(b.length:Int))))) && (decide ((IntKind.i64.wrap ((a.length:Int)+(b.length:Int)))≤(IntKind.i64.wrap ((a.length:Int)+(b.length:Int)))))) && (decide ((IntKind.i64.wrap ((a.length:Int)+(b.length:Int)))≤(zan:Int))))).bind fun _ =>
 (zjT b a (a.length:Int) 0 (List.replicate ((IntKind.i64.wrap ((a.length:Int)+(b.length:Int))).toNat) 0:List Int)).bind fun (out,_) =>
 (zb8 out).bind fun r =>
 some r
def zdp:Int × Int × Int × Int × Int × Int × Int × Int × (List Int) × (List Int) × (List Int) × Unit→Option ((Int × Int × Int × Int × Int × Int × Int × Int × (List Int) × (List Int) × (List Int) × Unit) ⊕ (Int × Int × Int × Int × Int × Int × (List Int) × (List Int) × (List Int) × Unit)):=fun (f,n,top,k,q,carry,t,t1,x,y,out,_) =>
  cond (decide (t1 < t))
    ((idx x (IntKind.i64.wrap (k+t1))).bind fun _ =>
    (x[(IntKind.i64.wrap (k+t1)).toNat]?).bind fun e =>
    (idx y t1).bind fun _ =>
    (y[t1.toNat]?).bind fun e1 =>
    cond (decide ((IntKind.i64.wrap ((IntKind.i64.wrap (e+e1))+carry)) ≥ 1000000000))
      ((idx x (IntKind.i64.wrap (k+t1))).bind fun _ =>
      some (.inl (f,n,top,k,q,1,t,IntKind.i64.wrap (t1+1),x.set ((IntKind.i64.wrap (k+t1)).toNat) (IntKind.i64.wrap ((IntKind.i64.wrap ((IntKind.i64.wrap (e+e1))+carry)) - 1000000000)),y,out,())))
      ((idx x (IntKind.i64.wrap (k+t1))).bind fun _ =>
      some (.inl (f,n,top,k,q,0,t,IntKind.i64.wrap (t1+1),x.set ((IntKind.i64.wrap (k+t1)).toNat) (IntKind.i64.wrap ((IntKind.i64.wrap (e+e1))+carry)),y,out,()))))
    (some (.inr (f,n,top,k,q,carry,x,y,out,())))
def zhm (f:Int) (n:Int) (top:Int) (k:Int) (q:Int) (carry:Int) (t:Int) (t1:Int) (x:List Int) (y:List Int) (out:List Int):Option (Int × Int × Int × Int × Int × Int × (List Int) × (List Int) × (List Int) × Unit):=whileO zdp (f,n,top,k,q,carry,t,t1,x,y,out,())
def zdq:Int × Int × Int × Int × Int × Int × Int × Int × (List Int) × (List Int) × (List Int) × Unit→Option ((Int × Int × Int × Int × Int × Int × Int × Int × (List Int) × (List Int) × (List Int) × Unit) ⊕ (Int × Int × Int × Int × Int × Int × (List Int) × (List Int) × (List Int) × Unit)):=fun (f,n,top,k,q,borrow,t,t1,x,y,out,_) =>
  cond (decide (t1 < t))
    ((idx x (IntKind.i64.wrap (k+t1))).bind fun _ =>
    (x[(IntKind.i64.wrap (k+t1)).toNat]?).bind fun e =>
    (idx y t1).bind fun _ =>
    (y[t1.toNat]?).bind fun e1 =>
    cond (decide ((IntKind.i64.wrap ((IntKind.i64.wrap (e - (IntKind.i64.wrap (q * e1)))) - borrow)) < 0))
      ((idx x (IntKind.i64.wrap (k+t1))).bind fun _ =>
      some (.inl (f,n,top,k,q,IntKind.i64.wrap ((IntKind.i64.wrap (999999999 - (IntKind.i64.wrap ((IntKind.i64.wrap (e - (IntKind.i64.wrap (q * e1)))) - borrow)))).tdiv 1000000000),t,IntKind.i64.wrap (t1+1),x.set ((IntKind.i64.wrap (k+t1)).toNat) (IntKind.i64.wrap ((IntKind.i64.wrap ((IntKind.i64.wrap (e - (IntKind.i64.wrap (q * e1)))) - borrow))+(IntKind.i64.wrap ((IntKind.i64.wrap ((IntKind.i64.wrap (999999999 - (IntKind.i64.wrap ((IntKind.i64.wrap (e - (IntKind.i64.wrap (q * e1)))) - borrow)))).tdiv 1000000000)) * 1000000000)))),y,out,())))
      ((idx x (IntKind.i64.wrap (k+t1))).bind fun _ =>
      some (.inl (f,n,top,k,q,0,t,IntKind.i64.wrap (t1+1),x.set ((IntKind.i64.wrap (k+t1)).toNat) (IntKind.i64.wrap ((IntKind.i64.wrap (e - (IntKind.i64.wrap (q * e1)))) - borrow)),y,out,()))))
    (some (.inr (f,n,top,k,q,borrow,x,y,out,())))
def zhn (f:Int) (n:Int) (top:Int) (k:Int) (q:Int) (borrow:Int) (t:Int) (t1:Int) (x:List Int) (y:List Int) (out:List Int):Option (Int × Int × Int × Int × Int × Int × (List Int) × (List Int) × (List Int) × Unit):=whileO zdq (f,n,top,k,q,borrow,t,t1,x,y,out,())
def zdr:Int × Int × Int × Int × Int × Int × (List Int) × (List Int) × (List Int) × Unit→Option ((Int × Int × Int × Int × Int × Int × (List Int) × (List Int) × (List Int) × Unit) ⊕ (Int × Int × Int × Int × Int × (List Int) × (List Int) × (List Int) × Unit)):=fun (f,n,top,k,q,r,x,y,out,_) =>
  cond (decide (q ≥ 1000000000))
    (cond (decide ((IntKind.i64.wrap (r+top)) ≥ 1000000000))
      (some (.inr (f,n,top,k,IntKind.i64.wrap (q - 1),x,y,out,())))
      (some (.inl (f,n,top,k,IntKind.i64.wrap (q - 1),IntKind.i64.wrap (r+top),x,y,out,()))))
    ((idx y (IntKind.i64.wrap (n - 2))).bind fun _ =>
    (y[(IntKind.i64.wrap (n - 2)).toNat]?).bind fun e =>
    (idx x (IntKind.i64.wrap ((IntKind.i64.wrap (k+n)) - 2))).bind fun _ =>
    (x[(IntKind.i64.wrap ((IntKind.i64.wrap (k+n)) - 2)).toNat]?).bind fun e1 =>
    cond (decide ((IntKind.i64.wrap (q * e)) > (IntKind.i64.wrap ((IntKind.i64.wrap (r * 1000000000))+e1))))
      (cond (decide ((IntKind.i64.wrap (r+top)) ≥ 1000000000))
        (some (.inr (f,n,top,k,IntKind.i64.wrap (q - 1),x,y,out,())))
        (some (.inl (f,n,top,k,IntKind.i64.wrap (q - 1),IntKind.i64.wrap (r+top),x,y,out,()))))
      (some (.inr (f,n,top,k,q,x,y,out,()))))
def zho (f:Int) (n:Int) (top:Int) (k:Int) (q:Int) (r:Int) (x:List Int) (y:List Int) (out:List Int):Option (Int × Int × Int × Int × Int × (List Int) × (List Int) × (List Int) × Unit):=whileO zdr (f,n,top,k,q,r,x,y,out,())
def zcO:Int × Int × Int × Int × (List Int) × (List Int) × (List Int) × Unit→Option ((Int × Int × Int × Int × (List Int) × (List Int) × (List Int) × Unit) ⊕ (Int × (List Int) × (List Int) × Unit)):=fun (f,n,top,k,x,y,out,_) =>
  cond (decide (k ≥ 0))
    ((idx x (IntKind.i64.wrap (k+n))).bind fun _ =>
    (x[(IntKind.i64.wrap (k+n)).toNat]?).bind fun e =>
    (idx x (IntKind.i64.wrap ((IntKind.i64.wrap (k+n)) - 1))).bind fun _ =>
    (x[(IntKind.i64.wrap ((IntKind.i64.wrap (k+n)) - 1)).toNat]?).bind fun e1 =>
    (zah (top != 0)).bind fun _ =>
    (zah (top != 0)).bind fun _ =>
    (zho f n top k (IntKind.i64.wrap ((IntKind.i64.wrap ((IntKind.i64.wrap (e * 1000000000))+e1)).tdiv top)) ((IntKind.i64.wrap ((IntKind.i64.wrap (e * 1000000000))+e1)).tmod top) x y out).bind fun (f1,n1,zby,k1,q,x1,y1,out1,_) =>
    (zhn f1 n1 zby k1 q 0 n1 0 x1 y1 out1).bind fun (f2,n2,top2,k2,q1,borrow,x2,y2,out2,_) =>
    (idx x2 (IntKind.i64.wrap (k2+n2))).bind fun _ =>
    (x2[(IntKind.i64.wrap (k2+n2)).toNat]?).bind fun e2 =>
    (idx x2 (IntKind.i64.wrap (k2+n2))).bind fun _ =>
    (idx (x2.set ((IntKind.i64.wrap (k2+n2)).toNat) (IntKind.i64.wrap (e2 - borrow))) (IntKind.i64.wrap (k2+n2))).bind fun _ =>
    ((x2.set ((IntKind.i64.wrap (k2+n2)).toNat) (IntKind.i64.wrap (e2 - borrow)))[(IntKind.i64.wrap (k2+n2)).toNat]?).bind fun e3 =>
    cond (decide (e3 < 0))
      ((zhm f2 n2 top2 k2 (IntKind.i64.wrap (q1 - 1)) 0 n2 0 (x2.set ((IntKind.i64.wrap (k2+n2)).toNat) (IntKind.i64.wrap (e2 - borrow))) y2 out2).bind fun (f3,n3,top3,k3,q2,carry,x3,y3,out3,_) =>
      (idx x3 (IntKind.i64.wrap (k3+n3))).bind fun _ =>
      (x3[(IntKind.i64.wrap (k3+n3)).toNat]?).bind fun e4 =>
      (idx x3 (IntKind.i64.wrap (k3+n3))).bind fun _ =>
      (idx out3 k3).bind fun _ =>
      some (.inl (f3,n3,top3,IntKind.i64.wrap (k3 - 1),x3.set ((IntKind.i64.wrap (k3+n3)).toNat) (IntKind.i64.wrap (e4+carry)),y3,out3.set k3.toNat q2,())))
      ((idx out2 k2).bind fun _ =>
      some (.inl (f2,n2,top2,IntKind.i64.wrap (k2 - 1),x2.set ((IntKind.i64.wrap (k2+n2)).toNat) (IntKind.i64.wrap (e2 - borrow)),y2,out2.set k2.toNat q1,()))))
    (some (.inr (f,x,out,())))
def zhp (f:Int) (n:Int) (top:Int) (k:Int) (x:List Int) (y:List Int) (out:List Int):Option (Int × (List Int) × (List Int) × Unit):=whileO zcO (f,n,top,k,x,y,out,())
def zds:(List Int) × Int × Int × (List Int) × (List Int) × Unit→Option (((List Int) × Int × Int × (List Int) × (List Int) × Unit) ⊕ (Int × Int × (List Int) × (List Int) × Unit)):=fun (a,f,n,x,y,_) =>
  cond (decide ((x.length:Int)≤(a.length:Int)))
    ((zah (Nat.ble (x.length+1) zan)).bind fun _ =>
    some (.inl (a,f,n,x++([0]:List Int),y,())))
    (some (.inr (f,n,x,y,())))
def zhq (a:List Int) (f:Int) (n:Int) (x:List Int) (y:List Int):Option (Int × Int × (List Int) × (List Int) × Unit):=whileO zds (a,f,n,x,y,())
def zba (a:List Int) (b:List Int):Option (List Int × List Int) :=
  (zeL a b).bind fun r =>
  cond (decide (r < 0))
    ((za3 a).bind fun r1 =>
    some (([]:List Int),r1))
    (cond ((b.length:Int)==1)
      ((idx b 0).bind fun e =>
      (zes a e).bind fun (r0,r1) =>
      some (r0,r1))
      ((idx b (IntKind.i64.wrap ((b.length:Int) - 1))).bind fun e =>
      (zah ((IntKind.i64.wrap (e+1)) != 0)).bind fun _ =>
      (zbL a ([IntKind.i64.wrap ((1000000000:Int).tdiv (IntKind.i64.wrap (e+1)))]:List Int)).bind fun r1 =>
      (zbL b ([IntKind.i64.wrap ((1000000000:Int).tdiv (IntKind.i64.wrap (e+1)))]:List Int)).bind fun r2 =>
      (zhq a (IntKind.i64.wrap ((1000000000:Int).tdiv (IntKind.i64.wrap (e+1)))) (r2.length:Int) r1 r2).bind fun (f,n,x,y,_) =>
      (zah (((decide (0≤(IntKind.i64.wrap ((x.length:Int) - n)))) && (decide ((IntKind.i64.wrap ((x.length:Int) - n))≤(IntKind.i64.wrap ((x.length:Int) - n))))) && (decide ((IntKind.i64.wrap ((x.length:Int) - n))≤(zan:Int))))).bind fun _ =>
      (idx y (IntKind.i64.wrap (n - 1))).bind fun _ =>
      (y[(IntKind.i64.wrap (n - 1)).toNat]?).bind fun e1 =>
      (zhp f n e1 (IntKind.i64.wrap ((IntKind.i64.wrap ((x.length:Int) - n)) - 1)) x y (List.replicate ((IntKind.i64.wrap ((x.length:Int) - n)).toNat) 0:List Int)).bind fun (f1,x1,out,_) =>
      (zb8 x1).bind fun r3 =>
      (zes r3 f1).bind fun (r0,_) =>
      (zb8 out).bind fun r4 =>
      some (r4,r0)))
def zdo:Int × Int × Unit→Option ((Int × Int × Unit) ⊕ (Int × Unit)):=fun (x,y,_) =>
  cond (y != 0)
    ((zah (y != 0)).bind fun _ =>
    some (.inl (y,x.tmod y,())))
    (some (.inr (x,())))
def zjU (x:Int) (y:Int):Option (Int × Unit):=whileO zdo (x,y,())
def zcd:(List Int) × (List Int) × Unit→Option (((List Int) × (List Int) × Unit) ⊕ ((List Int) × (List Int) × Unit)):=fun (a,b,_) =>
  cond (decide ((b.length:Int) > 1))
    ((zba a b).bind fun (_,r1) =>
    some (.inl (b,r1,())))
    (cond (decide ((a.length:Int) > 1))
      (cond (decide ((b.length:Int) > 0))
        ((zba a b).bind fun (_,r1) =>
        some (.inl (b,r1,())))
        (some (.inr (a,b,()))))
      (some (.inr (a,b,()))))
def zjV (a:List Int) (b:List Int):Option ((List Int) × (List Int) × Unit):=whileO zcd (a,b,())
def zeK (a:List Int) (b:List Int):Option (List Int) :=
  (zjV a b).bind fun (a1,b1,_) =>
  cond ((b1.length:Int)==0)
    ((za3 a1).bind fun r =>
    some r)
    ((idx a1 0).bind fun e =>
    (idx b1 0).bind fun e1 =>
    (zjU e e1).bind fun (x,_) =>
    some ([x]:List Int))
def zdm:(List Int) × Int × Int × Int × (List Int) × Unit→Option (((List Int) × Int × Int × Int × (List Int) × Unit) ⊕ ((List Int) × Unit)):=fun (b,borrow,t,t1,out,_) =>
  cond (decide (t1 < t))
    ((idx out t1).bind fun _ =>
    (out[t1.toNat]?).bind fun e =>
    cond (decide (t1 < (b.length:Int)))
      ((idx b t1).bind fun e1 =>
      cond (decide ((IntKind.i64.wrap ((IntKind.i64.wrap (e - borrow)) - e1)) < 0))
        ((idx out t1).bind fun _ =>
        some (.inl (b,1,t,IntKind.i64.wrap (t1+1),out.set t1.toNat (IntKind.i64.wrap ((IntKind.i64.wrap ((IntKind.i64.wrap (e - borrow)) - e1))+1000000000)),())))
        ((idx out t1).bind fun _ =>
        some (.inl (b,0,t,IntKind.i64.wrap (t1+1),out.set t1.toNat (IntKind.i64.wrap ((IntKind.i64.wrap (e - borrow)) - e1)),()))))
      (cond (decide ((IntKind.i64.wrap (e - borrow)) < 0))
        ((idx out t1).bind fun _ =>
        some (.inl (b,1,t,IntKind.i64.wrap (t1+1),out.set t1.toNat (IntKind.i64.wrap ((IntKind.i64.wrap (e - borrow))+1000000000)),())))
        ((idx out t1).bind fun _ =>
        some (.inl (b,0,t,IntKind.i64.wrap (t1+1),out.set t1.toNat (IntKind.i64.wrap (e - borrow)),())))))
    (some (.inr (out,())))
def zjR (b:List Int) (borrow:Int) (t:Int) (t1:Int) (out:List Int):Option ((List Int) × Unit):=whileO zdm (b,borrow,t,t1,out,())
def zfJ (a:List Int) (b:List Int):Option (List Int) :=
 (za3 a).bind fun r =>
 (zjR b 0 (r.length:Int) 0 r).bind fun (out,_) =>
 (zb8 out).bind fun r1 =>
 some r1
def zd0:(List Int) × (List Int) × Int × Int × Unit→Option (((List Int) × (List Int) × Int × Int × Unit) ⊕ ((Bool × Unit) ⊕ ((List Int) × Unit))):=fun (a,t,t1,t2,_) =>
  cond (decide (t2 < t1))
    ((idx t t2).bind fun e =>
    (zaX e 0 999999999).bind fun r =>
    cond (!r)
      (some (.inr (.inl (false,()))))
      (some (.inl (a,t,t1,IntKind.i64.wrap (t2+1),()))))
    (some (.inr (.inr (a,()))))
def zlp (a:List Int) (t:List Int) (t1:Int) (t2:Int):Option ((Bool × Unit) ⊕ ((List Int) × Unit)):=whileO zd0 (a,t,t1,t2,())
def zeq (a:List Int):Option Bool :=
  (zlp a a (a.length:Int) 0).bind fun r =>
  match r with
  | .inl (t,_) =>
    some t
  | .inr (a1,_) =>
    cond (decide ((a1.length:Int)≤60))
      (cond ((a1.length:Int)==0)
        (some true)
        ((idx a1 (IntKind.i64.wrap ((a1.length:Int) - 1))).bind fun e =>
        some (e != 0)))
      (some false)
def zhv:(List Int) × ByteArray × Int × Unit→Option (((List Int) × ByteArray × Int × Unit) ⊕ (ByteArray × Unit)):=fun (a,s,i,_) =>
  cond (decide (i ≥ 0))
    ((idx a i).bind fun e =>
    (ze1 e).bind fun r =>
    (zhi r 9).bind fun r1 =>
    (zah (Nat.ble (s.size+r1.size) 4611686018427387904)).bind fun _ =>
    some (.inl (a,s++r1,IntKind.i64.wrap (i - 1),())))
    (some (.inr (s,())))
def zfR (a:List Int) (s:ByteArray) (i:Int):Option (ByteArray × Unit):=whileO zhv (a,s,i,())
def zcl (a:List Int):Option ByteArray :=
  (zeq a).bind fun r =>
  cond (!r)
    (some (⟨#[]⟩:ByteArray))
    (cond ((a.length:Int)==0)
      (some (⟨#[48]⟩:ByteArray))
      ((idx a (IntKind.i64.wrap ((a.length:Int) - 1))).bind fun e =>
      (ze1 e).bind fun r1 =>
      (zfR a r1 (IntKind.i64.wrap ((a.length:Int) - 2))).bind fun (s,_) =>
      some s))
def zdb:Int × (List Int) × Unit→Option ((Int × (List Int) × Unit) ⊕ ((List Int) × Unit)):=fun (n,out,_) =>
  cond (decide (n > 0))
    ((zah (Nat.ble (out.length+1) zan)).bind fun _ =>
    some (.inl (IntKind.i64.wrap (n.tdiv 1000000000),out++([n.tmod 1000000000]:List Int),())))
    (some (.inr (out,())))
def zlq (n:Int) (out:List Int):Option ((List Int) × Unit):=whileO zdb (n,out,())
def zcf (n:Int):Option (List Int) :=
 (zlq n ([]:List Int)).bind fun (out,_) =>
 some out
def zdi:(List Int) × (List Int) × Int × Unit→Option (((List Int) × (List Int) × Int × Unit) ⊕ ((Int × Unit) ⊕ (Unit))):=fun (a,b,i,_) =>
  cond (decide (i ≥ 0))
    ((idx a i).bind fun e =>
    (idx b i).bind fun e1 =>
    cond (decide (e < e1))
      (some (.inr (.inl ((-1),()))))
      ((idx a i).bind fun e2 =>
      (idx b i).bind fun e3 =>
      cond (decide (e2 > e3))
        (some (.inr (.inl (1,()))))
        (some (.inl (a,b,IntKind.i64.wrap (i - 1),())))))
    (some (.inr (.inr (()))))
def zjM (a:List Int) (b:List Int) (i:Int):Option ((Int × Unit) ⊕ (Unit)):=whileO zdi (a,b,i,())
def zc5 (a:List Int) (b:List Int):Option Int :=
  cond ((a.length:Int) != (b.length:Int))
    (cond (decide ((a.length:Int) < (b.length:Int)))
      (some (-1))
      (some 1))
    ((zjM a b (IntKind.i64.wrap ((a.length:Int) - 1))).bind fun r =>
    match r with
    | .inl (t,_) =>
      some t
    | .inr _ =>
      some 0)
def zcD:(List Int) × Int × Int × Unit→Option (((List Int) × Int × Int × Unit) ⊕ (Int × Unit)):=fun (a,n,i,_) =>
  cond (decide (i ≥ 0))
    ((idx a i).bind fun e =>
    some (.inl (a,IntKind.i64.wrap ((IntKind.i64.wrap (n * 1000000000))+e),IntKind.i64.wrap (i - 1),())))
    (some (.inr (n,())))
def zin (a:List Int) (n:Int) (i:Int):Option (Int × Unit):=whileO zcD (a,n,i,())
def zep (a:List Int):Option (Int × Bool) :=
  (zeq a).bind fun r =>
  cond (!r)
    (some (0,false))
    ((zc5 a ([854775807,223372036,9]:List Int)).bind fun r1 =>
    cond (decide (r1 > 0))
      (some (0,false))
      ((zin a 0 (IntKind.i64.wrap ((a.length:Int) - 1))).bind fun (n,_) =>
      some (n,true)))
def zci:Int × (List Int) × Unit→Option ((Int × (List Int) × Unit) ⊕ (Int × (List Int) × Unit)):=fun (n,a,_) =>
  cond (decide (n > 0))
    ((idx a (IntKind.i64.wrap (n - 1))).bind fun _ =>
    (a[(IntKind.i64.wrap (n - 1)).toNat]?).bind fun e =>
    cond (e==0)
      (some (.inl (IntKind.i64.wrap (n - 1),a,())))
      (some (.inr (n,a,()))))
    (some (.inr (n,a,())))
def zhx (n:Int) (a:List Int):Option (Int × (List Int) × Unit):=whileO zci (n,a,())
def zaN (a:List Int):Option (List Int) :=
 (zhx (a.length:Int) a).bind fun (n,a1,_) =>
 (zah (inside a1.length (0,n))).bind fun _ =>
 some (a1.take n.toNat)
def zeC:ByteArray × Int × Int × Int × (List Int) × Unit→Option ((ByteArray × Int × Int × Int × (List Int) × Unit) ⊕ (ByteArray × Int × Int × (List Int) × Unit)):=fun (s,end_,n,i,out,_) =>
  cond (decide (i < end_))
    ((zeh s i).bind fun b =>
    some (.inl (s,end_,IntKind.i64.wrap ((IntKind.i64.wrap ((IntKind.i64.wrap (n * 10))+(IntKind.i64.wrap b))) - 48),IntKind.i64.wrap (i+1),out,())))
    (some (.inr (s,end_,n,out,())))
def zdD (s:ByteArray) (end_:Int) (n:Int) (i:Int) (out:List Int):Option (ByteArray × Int × Int × (List Int) × Unit):=whileO zeC (s,end_,n,i,out,())
def zeD:ByteArray × Int × (List Int) × Unit→Option ((ByteArray × Int × (List Int) × Unit) ⊕ ((List Int) × Unit)):=fun (s,end_,out,_) =>
  cond (decide (end_ > 0))
    (cond (decide ((IntKind.i64.wrap (end_ - 9)) < 0))
      ((zdD s end_ 0 0 out).bind fun (s1,end_1,n,out1,_) =>
      (zah (Nat.ble (out1.length+1) zan)).bind fun _ =>
      some (.inl (s1,IntKind.i64.wrap (end_1 - 9),out1++([n]:List Int),())))
      ((zdD s end_ 0 (IntKind.i64.wrap (end_ - 9)) out).bind fun (s1,end_1,n,out1,_) =>
      (zah (Nat.ble (out1.length+1) zan)).bind fun _ =>
      some (.inl (s1,IntKind.i64.wrap (end_1 - 9),out1++([n]:List Int),()))))
    (some (.inr (out,())))
def zf8 (s:ByteArray) (end_:Int) (out:List Int):Option ((List Int) × Unit):=whileO zeD (s,end_,out,())
def zdy (s:ByteArray):Option (List Int × Bool) :=
  (zhj s).bind fun r =>
  cond (!r)
    (some (([]:List Int),false))
    (cond (decide ((s.size:Int) > 540))
      (some (([]:List Int),false))
      (cond (decide ((s.size:Int) > 1))
        ((zeh s 0).bind fun b =>
        cond (b==48)
          (some (([]:List Int),false))
          ((zf8 s (s.size:Int) ([]:List Int)).bind fun (out,_) =>
          (zaN out).bind fun r1 =>
          some (r1,true)))
        ((zf8 s (s.size:Int) ([]:List Int)).bind fun (out,_) =>
        (zaN out).bind fun r1 =>
        some (r1,true))))
def zbj:(List Int) × (List Int) × Int × Int × (List Int) × Unit→Option (((List Int) × (List Int) × Int × Int × (List Int) × Unit) ⊕ ((List Int) × Unit)):=fun (a,b,carry,i,out,_) =>
  cond (decide (i < (a.length:Int)))
    (cond (decide (i < (a.length:Int)))
      ((idx a i).bind fun e =>
      cond (decide (i < (b.length:Int)))
        ((idx b i).bind fun e1 =>
        (zah (Nat.ble (out.length+1) zan)).bind fun _ =>
        some (.inl (a,b,IntKind.i64.wrap ((IntKind.i64.wrap ((IntKind.i64.wrap (carry+e))+e1)).tdiv 1000000000),IntKind.i64.wrap (i+1),out++([(IntKind.i64.wrap ((IntKind.i64.wrap (carry+e))+e1)).tmod 1000000000]:List Int),())))
        ((zah (Nat.ble (out.length+1) zan)).bind fun _ =>
        some (.inl (a,b,IntKind.i64.wrap ((IntKind.i64.wrap (carry+e)).tdiv 1000000000),IntKind.i64.wrap (i+1),out++([(IntKind.i64.wrap (carry+e)).tmod 1000000000]:List Int),()))))
      (cond (decide (i < (b.length:Int)))
        ((idx b i).bind fun e =>
        (zah (Nat.ble (out.length+1) zan)).bind fun _ =>
        some (.inl (a,b,IntKind.i64.wrap ((IntKind.i64.wrap (carry+e)).tdiv 1000000000),IntKind.i64.wrap (i+1),out++([(IntKind.i64.wrap (carry+e)).tmod 1000000000]:List Int),())))
        ((zah (Nat.ble (out.length+1) zan)).bind fun _ =>
        some (.inl (a,b,IntKind.i64.wrap (carry.tdiv 1000000000),IntKind.i64.wrap (i+1),out++([carry.tmod 1000000000]:List Int),())))))
    (cond (decide (i < (b.length:Int)))
      (cond (decide (i < (a.length:Int)))
        ((idx a i).bind fun e =>
        cond (decide (i < (b.length:Int)))
          ((idx b i).bind fun e1 =>
          (zah (Nat.ble (out.length+1) zan)).bind fun _ =>
          some (.inl (a,b,IntKind.i64.wrap ((IntKind.i64.wrap ((IntKind.i64.wrap (carry+e))+e1)).tdiv 1000000000),IntKind.i64.wrap (i+1),out++([(IntKind.i64.wrap ((IntKind.i64.wrap (carry+e))+e1)).tmod 1000000000]:List Int),())))
          ((zah (Nat.ble (out.length+1) zan)).bind fun _ =>
          some (.inl (a,b,IntKind.i64.wrap ((IntKind.i64.wrap (carry+e)).tdiv 1000000000),IntKind.i64.wrap (i+1),out++([(IntKind.i64.wrap (carry+e)).tmod 1000000000]:List Int),()))))
        (cond (decide (i < (b.length:Int)))
          ((idx b i).bind fun e =>
          (zah (Nat.ble (out.length+1) zan)).bind fun _ =>
          some (.inl (a,b,IntKind.i64.wrap ((IntKind.i64.wrap (carry+e)).tdiv 1000000000),IntKind.i64.wrap (i+1),out++([(IntKind.i64.wrap (carry+e)).tmod 1000000000]:List Int),())))
          ((zah (Nat.ble (out.length+1) zan)).bind fun _ =>
          some (.inl (a,b,IntKind.i64.wrap (carry.tdiv 1000000000),IntKind.i64.wrap (i+1),out++([carry.tmod 1000000000]:List Int),())))))
      (cond (decide (carry > 0))
        (cond (decide (i < (a.length:Int)))
          ((idx a i).bind fun e =>
          cond (decide (i < (b.length:Int)))
            ((idx b i).bind fun e1 =>
            (zah (Nat.ble (out.length+1) zan)).bind fun _ =>
            some (.inl (a,b,IntKind.i64.wrap ((IntKind.i64.wrap ((IntKind.i64.wrap (carry+e))+e1)).tdiv 1000000000),IntKind.i64.wrap (i+1),out++([(IntKind.i64.wrap ((IntKind.i64.wrap (carry+e))+e1)).tmod 1000000000]:List Int),())))
            ((zah (Nat.ble (out.length+1) zan)).bind fun _ =>
            some (.inl (a,b,IntKind.i64.wrap ((IntKind.i64.wrap (carry+e)).tdiv 1000000000),IntKind.i64.wrap (i+1),out++([(IntKind.i64.wrap (carry+e)).tmod 1000000000]:List Int),()))))
          (cond (decide (i < (b.length:Int)))
            ((idx b i).bind fun e =>
            (zah (Nat.ble (out.length+1) zan)).bind fun _ =>
            some (.inl (a,b,IntKind.i64.wrap ((IntKind.i64.wrap (carry+e)).tdiv 1000000000),IntKind.i64.wrap (i+1),out++([(IntKind.i64.wrap (carry+e)).tmod 1000000000]:List Int),())))
            ((zah (Nat.ble (out.length+1) zan)).bind fun _ =>
            some (.inl (a,b,IntKind.i64.wrap (carry.tdiv 1000000000),IntKind.i64.wrap (i+1),out++([carry.tmod 1000000000]:List Int),())))))
        (some (.inr (out,())))))
def zjN (a:List Int) (b:List Int) (carry:Int) (i:Int) (out:List Int):Option ((List Int) × Unit):=whileO zbj (a,b,carry,i,out,())
def zeJ (a:List Int) (b:List Int):Option (List Int) :=
 (zjN a b 0 0 ([]:List Int)).bind fun (out,_) =>
 some out
def zdW:(List Int) × Int × Unit→Option (((List Int) × Int × Unit) ⊕ ((List Int) × Int × Unit)):=fun (a,n,_) =>
  cond (decide (n > 0))
    ((idx a (IntKind.i64.wrap (n - 1))).bind fun e =>
    cond (e==0)
      (some (.inl (a,IntKind.i64.wrap (n - 1),())))
      (some (.inr (a,n,()))))
    (some (.inr (a,n,())))
def zgB (a:List Int) (n:Int):Option ((List Int) × Int × Unit):=whileO zdW (a,n,())
def zbu (a:List Int):Option (List Int) :=
 (zgB a (a.length:Int)).bind fun (a1,n,_) =>
 (zah (inside a1.length (0,n))).bind fun _ =>
 some (cut a1 0 n.toNat)
def zgN (a:List Int):Option (List Int) :=
  (zbu a).bind fun r =>
  cond (decide ((r.length:Int) > 60))
    (some ([]:List Int))
    (some r)
def zdg:(List Int) × Int × Int × Int × (List Int) × Int × Int × (List Int) × Int × Int × (List Int) × Unit→Option (((List Int) × Int × Int × Int × (List Int) × Int × Int × (List Int) × Int × Int × (List Int) × Unit) ⊕ ((List Int) × Int × Int × (List Int) × Int × Int × (List Int) × Unit)):=fun (b,i,x,carry,t,t1,t2,t3,t4,t5,out,_) =>
  cond (decide (t5 < t4))
    ((idx t3 t5).bind fun e =>
    (idx out (IntKind.i64.wrap (i+t5))).bind fun _ =>
    (out[(IntKind.i64.wrap (i+t5)).toNat]?).bind fun e1 =>
    (idx out (IntKind.i64.wrap (i+t5))).bind fun _ =>
    some (.inl (b,i,x,IntKind.i64.wrap ((IntKind.i64.wrap ((IntKind.i64.wrap (e1+(IntKind.i64.wrap (x * e))))+carry)).tdiv 1000000000),t,t1,t2,t3,t4,IntKind.i64.wrap (t5+1),out.set ((IntKind.i64.wrap (i+t5)).toNat) ((IntKind.i64.wrap ((IntKind.i64.wrap (e1+(IntKind.i64.wrap (x * e))))+carry)).tmod 1000000000),())))
    (some (.inr (b,i,carry,t,t1,t2,out,())))
def zjI (b:List Int) (i:Int) (x:Int) (carry:Int) (t:List Int) (t1:Int) (t2:Int) (t3:List Int) (t4:Int) (t5:Int) (out:List Int):Option ((List Int) × Int × Int × (List Int) × Int × Int × (List Int) × Unit):=whileO zdg (b,i,x,carry,t,t1,t2,t3,t4,t5,out,())
def zdh:(List Int) × (List Int) × Int × Int × (List Int) × Unit→Option (((List Int) × (List Int) × Int × Int × (List Int) × Unit) ⊕ ((List Int) × Unit)):=fun (b,t,t1,t2,out,_) =>
  cond (decide (t2 < t1))
    ((idx t t2).bind fun e =>
    (zjI b t2 e 0 t t1 t2 b (b.length:Int) 0 out).bind fun (b1,i,carry,t3,t4,t5,out1,_) =>
    (idx out1 (IntKind.i64.wrap (i+(b1.length:Int)))).bind fun _ =>
    some (.inl (b1,t3,t4,IntKind.i64.wrap (t5+1),out1.set ((IntKind.i64.wrap (i+(b1.length:Int))).toNat) carry,())))
    (some (.inr (out,())))
def zjJ (b:List Int) (t:List Int) (t1:Int) (t2:Int) (out:List Int):Option ((List Int) × Unit):=whileO zdh (b,t,t1,t2,out,())
def zaA (a:List Int) (b:List Int):Option (List Int) :=
  cond ((a.length:Int)==0)
    (some ([]:List Int))
    (cond ((b.length:Int)==0)
      (some ([]:List Int))
      ((zah (((decide (0≤(IntKind.i64.wrap ((a.length:Int)+(b.length:Int))))) && (decide ((IntKind.i64.wrap ((a.length:Int)+(b.length:Int)))≤(IntKind.i64.wrap ((a.length:Int)+(b.length:Int)))))) && (decide ((IntKind.i64.wrap ((a.length:Int)+(b.length:Int)))≤(zan:Int))))).bind fun _ =>
      (zjJ b a (a.length:Int) 0 (List.replicate ((IntKind.i64.wrap ((a.length:Int)+(b.length:Int))).toNat) 0:List Int)).bind fun (out,_) =>
      (zaN out).bind fun r =>
      some r))
def zcC:(List Int) × (List Int) × Int × Int × Unit→Option (((List Int) × (List Int) × Int × Int × Unit) ⊕ (Int × Unit)):=fun (r,b,lo,hi,_) =>
  cond (decide (lo < hi))
    ((zcf (IntKind.i64.wrap ((IntKind.i64.wrap ((IntKind.i64.wrap (lo+hi))+1)).tdiv 2))).bind fun r1 =>
    (zaA b r1).bind fun r2 =>
    (zc5 r2 r).bind fun r3 =>
    cond (decide (r3≤0))
      (some (.inl (r,b,IntKind.i64.wrap ((IntKind.i64.wrap ((IntKind.i64.wrap (lo+hi))+1)).tdiv 2),hi,())))
      (some (.inl (r,b,lo,IntKind.i64.wrap ((IntKind.i64.wrap ((IntKind.i64.wrap ((IntKind.i64.wrap (lo+hi))+1)).tdiv 2)) - 1),()))))
    (some (.inr (lo,())))
def zik (r:List Int) (b:List Int) (lo:Int) (hi:Int):Option (Int × Unit):=whileO zcC (r,b,lo,hi,())
def zfG (r:List Int) (b:List Int):Option Int :=
 (zik r b 0 999999999).bind fun (lo,_) =>
 some lo
def zb4:(List Int) × Int × Int × Int × (List Int) × Unit→Option (((List Int) × Int × Int × Int × (List Int) × Unit) ⊕ (Int × (List Int) × Unit)):=fun (a,d,rest,i,out,_) =>
  cond (decide (i ≥ 0))
    ((idx a i).bind fun e =>
    (zah (d != 0)).bind fun _ =>
    (idx out i).bind fun _ =>
    (zah (d != 0)).bind fun _ =>
    some (.inl (a,d,(IntKind.i64.wrap ((IntKind.i64.wrap (rest * 1000000000))+e)).tmod d,IntKind.i64.wrap (i - 1),out.set i.toNat (IntKind.i64.wrap ((IntKind.i64.wrap ((IntKind.i64.wrap (rest * 1000000000))+e)).tdiv d)),())))
    (some (.inr (rest,out,())))
def zii (a:List Int) (d:Int) (rest:Int) (i:Int) (out:List Int):Option (Int × (List Int) × Unit):=whileO zb4 (a,d,rest,i,out,())
def zfD (a:List Int) (d:Int):Option (List Int × Int) :=
 (zah (((decide (0≤(a.length:Int))) && (decide ((a.length:Int)≤(a.length:Int)))) && (decide ((a.length:Int)≤(zan:Int))))).bind fun _ =>
 (zii a d 0 (IntKind.i64.wrap ((a.length:Int) - 1)) (List.replicate ((a.length:Int).toNat) 0:List Int)).bind fun (rest,out,_) =>
 (zaN out).bind fun r =>
 some (r,rest)
def zcb:(List Int) × (List Int) × Int × Int × Int × (List Int) × Unit→Option (((List Int) × (List Int) × Int × Int × Int × (List Int) × Unit) ⊕ ((List Int) × Unit)):=fun (a,b,less,t,t1,out,_) =>
  cond (decide (t1 < t))
    ((idx a t1).bind fun e =>
    cond (decide (t1 < (b.length:Int)))
      ((idx b t1).bind fun e1 =>
      cond (decide ((IntKind.i64.wrap ((IntKind.i64.wrap (e - less)) - e1)) < 0))
        ((zah (Nat.ble (out.length+1) zan)).bind fun _ =>
        some (.inl (a,b,1,t,IntKind.i64.wrap (t1+1),out++([IntKind.i64.wrap ((IntKind.i64.wrap ((IntKind.i64.wrap (e - less)) - e1))+1000000000)]:List Int),())))
        ((zah (Nat.ble (out.length+1) zan)).bind fun _ =>
        some (.inl (a,b,0,t,IntKind.i64.wrap (t1+1),out++([IntKind.i64.wrap ((IntKind.i64.wrap (e - less)) - e1)]:List Int),()))))
      (cond (decide ((IntKind.i64.wrap (e - less)) < 0))
        ((zah (Nat.ble (out.length+1) zan)).bind fun _ =>
        some (.inl (a,b,1,t,IntKind.i64.wrap (t1+1),out++([IntKind.i64.wrap ((IntKind.i64.wrap (e - less))+1000000000)]:List Int),())))
        ((zah (Nat.ble (out.length+1) zan)).bind fun _ =>
        some (.inl (a,b,0,t,IntKind.i64.wrap (t1+1),out++([IntKind.i64.wrap (e - less)]:List Int),())))))
    (some (.inr (out,())))
def zjH (a:List Int) (b:List Int) (less:Int) (t:Int) (t1:Int) (out:List Int):Option ((List Int) × Unit):=whileO zcb (a,b,less,t,t1,out,())
def zeI (a:List Int) (b:List Int):Option (List Int) :=
 (zjH a b 0 (a.length:Int) 0 ([]:List Int)).bind fun (out,_) =>
 (zaN out).bind fun r =>
 some r
def zcN:(List Int) × (List Int) × Int × (List Int) × (List Int) × Unit→Option (((List Int) × (List Int) × Int × (List Int) × (List Int) × Unit) ⊕ ((List Int) × (List Int) × Unit)):=fun (a,b,i,out,rest,_) =>
  cond (decide (i ≥ 0))
    ((idx a i).bind fun e =>
    (zah (Nat.ble (1+rest.length) zan)).bind fun _ =>
    (zaN (([e]:List Int)++rest)).bind fun r =>
    (zc5 r b).bind fun r1 =>
    cond (decide (r1 < 0))
      (some (.inl (a,b,IntKind.i64.wrap (i - 1),out,r,())))
      ((zfG r b).bind fun r2 =>
      (idx out i).bind fun _ =>
      (zcf r2).bind fun r3 =>
      (zaA b r3).bind fun r4 =>
      (zeI r r4).bind fun r5 =>
      some (.inl (a,b,IntKind.i64.wrap (i - 1),out.set i.toNat r2,r5,()))))
    (some (.inr (out,rest,())))
def zjL (a:List Int) (b:List Int) (i:Int) (out:List Int) (rest:List Int):Option ((List Int) × (List Int) × Unit):=whileO zcN (a,b,i,out,rest,())
def zbx (a:List Int) (b:List Int):Option (List Int × List Int) :=
  cond ((b.length:Int)==1)
    ((idx b 0).bind fun e =>
    (zfD a e).bind fun (r0,r1) =>
    (zcf r1).bind fun r =>
    some (r0,r))
    ((zah (((decide (0≤(a.length:Int))) && (decide ((a.length:Int)≤(a.length:Int)))) && (decide ((a.length:Int)≤(zan:Int))))).bind fun _ =>
    (zjL a b (IntKind.i64.wrap ((a.length:Int) - 1)) (List.replicate ((a.length:Int).toNat) 0:List Int) ([]:List Int)).bind fun (out,rest,_) =>
    (zaN out).bind fun r =>
    some (r,rest))
def zcB:Int × Int × Unit→Option ((Int × Int × Unit) ⊕ (Int × Unit)):=fun (x,y,_) =>
  cond (decide (y > 0))
    ((zah (y != 0)).bind fun _ =>
    some (.inl (y,x.tmod y,())))
    (some (.inr (x,())))
def zij (x:Int) (y:Int):Option (Int × Unit):=whileO zcB (x,y,())
def zfE (x:Int) (y:Int):Option (List Int) :=
 (zij x y).bind fun (x1,_) =>
 (zcf x1).bind fun r =>
 some r
def zcc:(List Int) × (List Int) × Unit→Option (((List Int) × (List Int) × Unit) ⊕ (((List Int) × Unit) ⊕ ((List Int) × Unit))):=fun (x,y,_) =>
  cond (decide ((y.length:Int) > 0))
    (cond (decide ((x.length:Int) < 3))
      (cond (decide ((y.length:Int) < 3))
        ((zep x).bind fun (r0,_) =>
        (zep y).bind fun (r0_1,_) =>
        (zfE r0 r0_1).bind fun r =>
        some (.inr (.inl (r,()))))
        ((zbx x y).bind fun (_,r1) =>
        some (.inl (y,r1,()))))
      ((zbx x y).bind fun (_,r1) =>
      some (.inl (y,r1,()))))
    (some (.inr (.inr (x,()))))
def zjK (x:List Int) (y:List Int):Option (((List Int) × Unit) ⊕ ((List Int) × Unit)):=whileO zcc (x,y,())
def zfF (a:List Int) (b:List Int):Option (List Int) :=
  (zah (Nat.ble a.length zan)).bind fun _ =>
  (zah (Nat.ble b.length zan)).bind fun _ =>
  (zjK a b).bind fun r =>
  match r with
  | .inl (t,_) =>
    some t
  | .inr (x,_) =>
    some x
end Go.Di
namespace Go.Di
def zbU (s:ByteArray) (prefix_:ByteArray):Option Bool :=
  cond (decide ((s.size:Int) ≥ (prefix_.size:Int)))
    ((zah (inside s.size (0,(prefix_.size:Int)))).bind fun _ =>
    some (strEq (s.extract 0 ((prefix_.size:Int).toNat)) prefix_))
    (some false)
def zbV (s:ByteArray) (prefix_:ByteArray):Option (ByteArray × Bool) :=
  (zbU s prefix_).bind fun r =>
  cond (!r)
    (some (s,false))
    ((zah (inside s.size ((prefix_.size:Int),(s.size:Int)))).bind fun _ =>
    some (s.extract ((prefix_.size:Int).toNat) ((s.size:Int).toNat),true))
def zdL (s:ByteArray) (prefix_:ByteArray):Option (ByteArray × Bool) :=
 (zbV s prefix_).bind fun (r0,r1) =>
 some (r0,r1)
end Go.Di
namespace Go.Di
def zay (neg:Bool) (mag:List Int):Option Bg :=
  cond ((mag.length:Int)==0)
    (some (⟨false,([]:List Int)⟩:Bg))
    (some (⟨neg,mag⟩:Bg))
def zev (n:Int):Option Bg :=
  cond (decide (n ≥ 0))
    ((zeu n).bind fun r =>
    (zay false r).bind fun r1 =>
    some r1)
    ((zeu (IntKind.i64.wrap (0 - (IntKind.i64.wrap (n+1))))).bind fun r =>
    (zdO r ([1]:List Int)).bind fun r1 =>
    (zay true r1).bind fun r2 =>
    some r2)
def zcR (x:Bg):Option Bool :=
  (zgv x.mag).bind fun r =>
  cond r
    (cond (decide ((x.mag.length:Int) > 0))
      (some true)
      (some (!x.neg)))
    (some false)
def zed (s:ByteArray):Option (Bg × Bool) :=
  (zdL s (⟨#[45]⟩:ByteArray)).bind fun (r0,r1) =>
  (zet r0).bind fun (r0_1,r1_1) =>
  cond (!r1_1)
    (some ((⟨false,([]:List Int)⟩:Bg),false))
    (cond r1
      (cond ((r0_1.length:Int)==0)
        (some ((⟨false,([]:List Int)⟩:Bg),false))
        ((zay r1 r0_1).bind fun r =>
        some (r,true)))
      ((zay r1 r0_1).bind fun r =>
      some (r,true)))
def zfM (x:Bg) (y:Bg):Option Bg :=
  cond (x.neg==y.neg)
    ((zdO x.mag y.mag).bind fun r =>
    (zay x.neg r).bind fun r1 =>
    some r1)
    ((zeL x.mag y.mag).bind fun r =>
    cond (decide (r ≥ 0))
      ((zfJ x.mag y.mag).bind fun r1 =>
      (zay x.neg r1).bind fun r2 =>
      some r2)
      ((zfJ y.mag x.mag).bind fun r1 =>
      (zay y.neg r1).bind fun r2 =>
      some r2))
def zfL (x:Bg) (m:List Int):Option (Bg × List Int) :=
  (zba x.mag m).bind fun (r0,r1) =>
  cond (!x.neg)
    ((zay false r0).bind fun r =>
    some (r,r1))
    (cond (decide ((r1.length:Int) > 0))
      ((zdO r0 ([1]:List Int)).bind fun r =>
      (zfJ m r1).bind fun r2 =>
      (zay true r).bind fun r3 =>
      some (r3,r2))
      ((zay true r0).bind fun r =>
      some (r,r1)))
def zcv (x:Bg) (y:Bg):Option Bg :=
 (zbL x.mag y.mag).bind fun r =>
 (zay (!(x.neg==y.neg)) r).bind fun r1 =>
 some r1
def zgR (x:Bg):Option Bg :=
 (za3 x.mag).bind fun r =>
 (zay (!x.neg) r).bind fun r1 =>
 some r1
def zdX (x:Bg):Option ByteArray :=
  cond x.neg
    ((zbS x.mag).bind fun r =>
    (zah (Nat.ble (((⟨#[45]⟩:ByteArray).size)+r.size) 4611686018427387904)).bind fun _ =>
    some ((⟨#[45]⟩:ByteArray)++r))
    ((zbS x.mag).bind fun r =>
    some r)
def zgP (neg:Bool) (mag:List Int):Option Bg :=
  cond ((mag.length:Int)==0)
    (some (⟨false,([]:List Int)⟩:Bg))
    (some (⟨neg,mag⟩:Bg))
def zat (neg:Bool) (a:List Int):Option Bg :=
  (zgN a).bind fun r =>
  cond neg
    ((zah (Nat.ble r.length zan)).bind fun _ =>
    some (⟨decide ((r.length:Int) > 0),r⟩:Bg))
    ((zah (Nat.ble r.length zan)).bind fun _ =>
    some (⟨false,r⟩:Bg))
def zdz (n:Int):Option Bg :=
  cond (n==(-9223372036854775808))
    ((zat true ([854775808,223372036,9]:List Int)).bind fun r =>
    some r)
    (cond (decide (n < 0))
      ((zcf (IntKind.i64.wrap (0 - n))).bind fun r =>
      (zat true r).bind fun r1 =>
      some r1)
      ((zcf n).bind fun r =>
      (zat false r).bind fun r1 =>
      some r1))
def zbv (x:Bg):Option Bool :=
  (zeq x.mag).bind fun r =>
  cond r
    (cond (!x.neg)
      (some true)
      (some (decide ((x.mag.length:Int) > 0))))
    (some false)
def zdM (x:Bg):Option ByteArray :=
  (zbv x).bind fun r =>
  cond (!r)
    (some (⟨#[]⟩:ByteArray))
    (cond x.neg
      ((zcl x.mag).bind fun r1 =>
      (zah (Nat.ble (((⟨#[45]⟩:ByteArray).size)+r1.size) 4611686018427387904)).bind fun _ =>
      some ((⟨#[45]⟩:ByteArray)++r1))
      ((zcl x.mag).bind fun r1 =>
      some r1))
def zfH (s:ByteArray):Option (Bg × Bool) :=
  cond (decide ((s.size:Int) > 0))
    ((zeh s 0).bind fun b =>
    cond (b == 45)
      ((zah (inside s.size (1,(s.size:Int)))).bind fun _ =>
      (zdy (s.extract 1 ((s.size:Int).toNat))).bind fun (r0,r1) =>
      cond (!r1)
        (some ((⟨false,([]:List Int)⟩:Bg),false))
        (cond (b==45)
          (cond ((r0.length:Int)==0)
            (some ((⟨false,([]:List Int)⟩:Bg),false))
            (some ((⟨b==45,r0⟩:Bg),true)))
          (some ((⟨b==45,r0⟩:Bg),true))))
      ((zdy s).bind fun (r0,r1) =>
      cond (!r1)
        (some ((⟨false,([]:List Int)⟩:Bg),false))
        (cond (b==45)
          (cond ((r0.length:Int)==0)
            (some ((⟨false,([]:List Int)⟩:Bg),false))
            (some ((⟨b==45,r0⟩:Bg),true)))
          (some ((⟨b==45,r0⟩:Bg),true)))))
    ((zdy s).bind fun (r0,r1) =>
    cond (!r1)
      (some ((⟨false,([]:List Int)⟩:Bg),false))
      (some ((⟨false,r0⟩:Bg),true)))
def zc4 (x:Bg) (y:Bg):Option Bg :=
  cond (x.neg==y.neg)
    ((zeJ x.mag y.mag).bind fun r =>
    (zat x.neg r).bind fun r1 =>
    some r1)
    ((zc5 x.mag y.mag).bind fun r =>
    cond (decide (r ≥ 0))
      ((zeI x.mag y.mag).bind fun r1 =>
      (zat x.neg r1).bind fun r2 =>
      some r2)
      ((zeI y.mag x.mag).bind fun r1 =>
      (zat y.neg r1).bind fun r2 =>
      some r2))
end Go.Di
namespace Go.Di
def zdH (a:List Int):Option Bool :=
  cond ((a.length:Int)==1)
    ((idx a 0).bind fun e =>
    some (e==1))
    (some false)
def zaI (r:Rt):Option Bool :=
  (zcR (⟨r.neg,r.mag⟩:Bg)).bind fun r1 =>
  cond (!r1)
    (some false)
    ((zgv r.den).bind fun r2 =>
    cond (!r2)
      (some false)
      (cond ((r.den.length:Int)==0)
        (some false)
        (cond (decide ((r.mag.length:Int) > 24))
          (some false)
          (cond (decide ((r.den.length:Int) > 24))
            (some false)
            ((zeK r.den r.mag).bind fun r3 =>
            (zdH r3).bind fun r4 =>
            some r4)))))
def zaS (r:Rt):Option ByteArray :=
  (zdH r.den).bind fun r1 =>
  cond r1
    ((zdX (⟨r.neg,r.mag⟩:Bg)).bind fun r2 =>
    some r2)
    ((zdX (⟨r.neg,r.mag⟩:Bg)).bind fun r2 =>
    (zah (Nat.ble (r2.size+((⟨#[47]⟩:ByteArray).size)) 4611686018427387904)).bind fun _ =>
    (zbS r.den).bind fun r3 =>
    (zah (Nat.ble (((r2++(⟨#[47]⟩:ByteArray)).size)+r3.size) 4611686018427387904)).bind fun _ =>
    some ((r2++(⟨#[47]⟩:ByteArray))++r3))
def zaF (s:ByteArray):Option (Rt × Bool) :=
  (zfy s (⟨#[47]⟩:ByteArray)).bind fun (r0,r1,r2) =>
  (zed r0).bind fun (r0_1,r1_1) =>
  cond r2
    ((zet r1).bind fun (r0_2,r1_2) =>
    cond (!r1_1)
      (some ((⟨false,([]:List Int),([]:List Int)⟩:Rt),false))
      (cond (!r1_2)
        (some ((⟨false,([]:List Int),([]:List Int)⟩:Rt),false))
        ((zaI (⟨r0_1.neg,r0_1.mag,r0_2⟩:Rt)).bind fun r =>
        cond (!r)
          (some ((⟨false,([]:List Int),([]:List Int)⟩:Rt),false))
          ((zaS (⟨r0_1.neg,r0_1.mag,r0_2⟩:Rt)).bind fun r3 =>
          cond (!(strEq r3 s))
            (some ((⟨false,([]:List Int),([]:List Int)⟩:Rt),false))
            (some ((⟨r0_1.neg,r0_1.mag,r0_2⟩:Rt),true))))))
    (cond (!r1_1)
      (some ((⟨false,([]:List Int),([]:List Int)⟩:Rt),false))
      ((zaI (⟨r0_1.neg,r0_1.mag,([1]:List Int)⟩:Rt)).bind fun r =>
      cond (!r)
        (some ((⟨false,([]:List Int),([]:List Int)⟩:Rt),false))
        ((zaS (⟨r0_1.neg,r0_1.mag,([1]:List Int)⟩:Rt)).bind fun r3 =>
        cond (!(strEq r3 s))
          (some ((⟨false,([]:List Int),([]:List Int)⟩:Rt),false))
          (some ((⟨r0_1.neg,r0_1.mag,([1]:List Int)⟩:Rt),true)))))
def zpC (r:Rt) (s:Rt):Option Bool :=
  (zaI r).bind fun r1 =>
  cond r1
    ((zaI s).bind fun r2 =>
    some r2)
    (some false)
def za8 (r:Rt):Option Bool :=
 some ((r.den.length:Int)==0)
def zcE:(List Int) × (List Int) × Int × Int × Unit→Option (((List Int) × (List Int) × Int × Int × Unit) ⊕ ((Bool × Unit) ⊕ (Unit))):=fun (a,b,t,t1,_) =>
  cond (decide (t1 < t))
    ((idx a t1).bind fun e =>
    (idx b t1).bind fun e1 =>
    cond (e != e1)
      (some (.inr (.inl (false,()))))
      (some (.inl (a,b,t,IntKind.i64.wrap (t1+1),()))))
    (some (.inr (.inr (()))))
def ziq (a:List Int) (b:List Int) (t:Int) (t1:Int):Option ((Bool × Unit) ⊕ (Unit)):=whileO zcE (a,b,t,t1,())
def zdA (a:List Int) (b:List Int):Option Bool :=
  cond ((a.length:Int) != (b.length:Int))
    (some false)
    ((ziq a b (a.length:Int) 0).bind fun r =>
    match r with
    | .inl (t,_) =>
      some t
    | .inr _ =>
      some true)
def zbR (num:Bg) (den:List Int):Option Rt :=
  cond ((num.mag.length:Int)==0)
    (some (⟨false,([]:List Int),([1]:List Int)⟩:Rt))
    ((zeK den num.mag).bind fun r =>
    (zdH r).bind fun r1 =>
    cond (!r1)
      ((zba num.mag r).bind fun (r0,_) =>
      (zba den r).bind fun (r0_1,_) =>
      (zay num.neg r0).bind fun r2 =>
      cond (decide ((r2.mag.length:Int) > 24))
        (some (⟨false,([]:List Int),([]:List Int)⟩:Rt))
        (cond (decide ((r0_1.length:Int) > 24))
          (some (⟨false,([]:List Int),([]:List Int)⟩:Rt))
          (some (⟨r2.neg,r2.mag,r0_1⟩:Rt))))
      (cond (decide ((num.mag.length:Int) > 24))
        (some (⟨false,([]:List Int),([]:List Int)⟩:Rt))
        (cond (decide ((den.length:Int) > 24))
          (some (⟨false,([]:List Int),([]:List Int)⟩:Rt))
          (some (⟨num.neg,num.mag,den⟩:Rt)))))
def zeM (r:Rt) (s:Rt):Option Rt :=
  (za8 r).bind fun r1 =>
  cond r1
    (some (⟨false,([]:List Int),([]:List Int)⟩:Rt))
    ((za8 s).bind fun r2 =>
    cond r2
      (some (⟨false,([]:List Int),([]:List Int)⟩:Rt))
      ((zdA r.den s.den).bind fun r3 =>
      cond r3
        ((zfM (⟨r.neg,r.mag⟩:Bg) (⟨s.neg,s.mag⟩:Bg)).bind fun r4 =>
        (za3 r.den).bind fun r5 =>
        (zbR r4 r5).bind fun r6 =>
        some r6)
        ((zcv (⟨r.neg,r.mag⟩:Bg) (⟨false,s.den⟩:Bg)).bind fun r4 =>
        (zcv (⟨s.neg,s.mag⟩:Bg) (⟨false,r.den⟩:Bg)).bind fun r5 =>
        (zfM r4 r5).bind fun r6 =>
        (zbL r.den s.den).bind fun r7 =>
        (zbR r6 r7).bind fun r8 =>
        some r8)))
def zcQ (r:Rt) (s:Rt):Option Bool :=
  cond (r.neg==s.neg)
    ((zdA r.mag s.mag).bind fun r1 =>
    cond r1
      ((zdA r.den s.den).bind fun r2 =>
      some r2)
      (some false))
    (some false)
def zgQ (num:Bg) (den:List Int):Option Rt :=
  cond ((num.mag.length:Int)==0)
    (some (⟨false,([]:List Int),([1]:List Int)⟩:Rt))
    ((zeK den num.mag).bind fun r =>
    (zdH r).bind fun r1 =>
    cond (!r1)
      ((zba num.mag r).bind fun (r0,_) =>
      (zba den r).bind fun (r0_1,_) =>
      (zay num.neg r0).bind fun r2 =>
      cond (decide ((r2.mag.length:Int) > 24))
        (some (⟨false,([]:List Int),([]:List Int)⟩:Rt))
        (cond (decide ((r0_1.length:Int) > 24))
          (some (⟨false,([]:List Int),([]:List Int)⟩:Rt))
          (some (⟨r2.neg,r2.mag,r0_1⟩:Rt))))
      (cond (decide ((num.mag.length:Int) > 24))
        (some (⟨false,([]:List Int),([]:List Int)⟩:Rt))
        (cond (decide ((den.length:Int) > 24))
          (some (⟨false,([]:List Int),([]:List Int)⟩:Rt))
          (some (⟨num.neg,num.mag,den⟩:Rt)))))
def zd5 (r:Rt):Option Rt :=
 (za3 r.mag).bind fun r1 =>
 (za3 r.den).bind fun r2 =>
 some (⟨r.neg,r1,r2⟩:Rt)
def zgj (num:Bg) (den:Bg):Option Rt :=
  (zcR num).bind fun r =>
  cond (!r)
    (some (⟨false,([]:List Int),([]:List Int)⟩:Rt))
    ((zcR den).bind fun r1 =>
    cond (!r1)
      (some (⟨false,([]:List Int),([]:List Int)⟩:Rt))
      (cond ((den.mag.length:Int)==0)
        (some (⟨false,([]:List Int),([]:List Int)⟩:Rt))
        ((zgP (!(num.neg==den.neg)) num.mag).bind fun r2 =>
        (zgQ r2 den.mag).bind fun r3 =>
        (zd5 r3).bind fun r4 =>
        some r4)))
def zgu (n:Int) (d:Int):Option Rt :=
 (zev n).bind fun r =>
 (zev d).bind fun r1 =>
 (zgj r r1).bind fun r2 =>
 some r2
def zeO (n:Int):Option Rt :=
 (zgu n 1).bind fun r =>
 some r
def zcH (r:Rt) (s:Rt):Option Rt :=
  (za8 r).bind fun r1 =>
  cond r1
    (some (⟨false,([]:List Int),([]:List Int)⟩:Rt))
    ((za8 s).bind fun r2 =>
    cond r2
      (some (⟨false,([]:List Int),([]:List Int)⟩:Rt))
      ((zcv (⟨r.neg,r.mag⟩:Bg) (⟨s.neg,s.mag⟩:Bg)).bind fun r3 =>
      (zbL r.den s.den).bind fun r4 =>
      (zbR r3 r4).bind fun r5 =>
      some r5))
def zmJ (r:Rt):Option Rt :=
  (za8 r).bind fun r1 =>
  cond r1
    (some (⟨false,([]:List Int),([]:List Int)⟩:Rt))
    ((zgR (⟨r.neg,r.mag⟩:Bg)).bind fun r2 =>
    (za3 r.den).bind fun r3 =>
    some (⟨r2.neg,r2.mag,r3⟩:Rt))
def za9 (r:Rt):Option Int :=
  cond r.neg
    (some (-1))
    (cond (decide ((r.mag.length:Int) > 0))
      (some 1)
      (some 0))
def zif (r:Rt) (s:Rt):Option Rt :=
 (zmJ s).bind fun r1 =>
 (zeM r r1).bind fun r2 =>
 some r2
def zfj (r:Rt) (s:Rt):Option Rt :=
  (za8 r).bind fun r1 =>
  cond r1
    (some (⟨false,([]:List Int),([]:List Int)⟩:Rt))
    ((za8 s).bind fun r2 =>
    cond r2
      (some (⟨false,([]:List Int),([]:List Int)⟩:Rt))
      (cond ((s.mag.length:Int)==0)
        (some (⟨false,([]:List Int),([]:List Int)⟩:Rt))
        ((zcH r (⟨s.neg,s.den,s.mag⟩:Rt)).bind fun r3 =>
        some r3)))
def zfK (r:Rt):Option Bool :=
 some ((r.mag.length:Int)==0)
def zc7 (n:Int):Option Rt :=
 (zeO n).bind fun r =>
 some r
def zct (a:List Int):Option Bool :=
  cond ((a.length:Int)==1)
    ((idx a 0).bind fun e =>
    some (e==1))
    (some false)
def za5 (r:Rt):Option Bool :=
  (zbv (⟨r.neg,r.mag⟩:Bg)).bind fun r1 =>
  cond (!r1)
    (some false)
    ((zeq r.den).bind fun r2 =>
    cond (!r2)
      (some false)
      (cond ((r.den.length:Int)==0)
        (some false)
        (cond (decide ((r.den.length:Int) > 24))
          (some false)
          (cond (decide ((r.mag.length:Int) > 24))
            (some false)
            ((zfF r.mag r.den).bind fun r3 =>
            (zct r3).bind fun r4 =>
            some r4)))))
def zaD (r:Rt):Option ByteArray :=
  (za5 r).bind fun r1 =>
  cond (!r1)
    (some (⟨#[]⟩:ByteArray))
    ((zct r.den).bind fun r2 =>
    cond r2
      ((zdM (⟨r.neg,r.mag⟩:Bg)).bind fun r3 =>
      some r3)
      ((zdM (⟨r.neg,r.mag⟩:Bg)).bind fun r3 =>
      (zah (Nat.ble (r3.size+((⟨#[47]⟩:ByteArray).size)) 4611686018427387904)).bind fun _ =>
      (zcl r.den).bind fun r4 =>
      (zah (Nat.ble (((r3++(⟨#[47]⟩:ByteArray)).size)+r4.size) 4611686018427387904)).bind fun _ =>
      some ((r3++(⟨#[47]⟩:ByteArray))++r4)))
def zar (s:ByteArray):Option (Rt × Bool) :=
  (zdx s (⟨#[47]⟩:ByteArray)).bind fun r =>
  (idx r 0).bind fun _ =>
  (r[0]?).bind fun e =>
  (zfH e).bind fun (r0,r1) =>
  cond (decide ((r.length:Int) > 1))
    ((idx r 1).bind fun _ =>
    (r[1]?).bind fun e1 =>
    (zdy e1).bind fun (r0_1,r1_1) =>
    cond (!r1)
      (some ((⟨false,([]:List Int),([]:List Int)⟩:Rt),false))
      (cond (!r1_1)
        (some ((⟨false,([]:List Int),([]:List Int)⟩:Rt),false))
        ((zaD (⟨r0.neg,r0.mag,r0_1⟩:Rt)).bind fun r2 =>
        cond (strEq r2 (⟨#[]⟩:ByteArray))
          (some ((⟨false,([]:List Int),([]:List Int)⟩:Rt),false))
          ((zaD (⟨r0.neg,r0.mag,r0_1⟩:Rt)).bind fun r3 =>
          cond (!(strEq r3 s))
            (some ((⟨false,([]:List Int),([]:List Int)⟩:Rt),false))
            (some ((⟨r0.neg,r0.mag,r0_1⟩:Rt),true))))))
    (cond (!r1)
      (some ((⟨false,([]:List Int),([]:List Int)⟩:Rt),false))
      ((zaD (⟨r0.neg,r0.mag,([1]:List Int)⟩:Rt)).bind fun r2 =>
      cond (strEq r2 (⟨#[]⟩:ByteArray))
        (some ((⟨false,([]:List Int),([]:List Int)⟩:Rt),false))
        ((zaD (⟨r0.neg,r0.mag,([1]:List Int)⟩:Rt)).bind fun r3 =>
        cond (!(strEq r3 s))
          (some ((⟨false,([]:List Int),([]:List Int)⟩:Rt),false))
          (some ((⟨r0.neg,r0.mag,([1]:List Int)⟩:Rt),true)))))
def za2 (n:Int):Option Rt :=
 (zdz n).bind fun r =>
 some (⟨r.neg,r.mag,([1]:List Int)⟩:Rt)
def zaL (neg:Bool) (a:List Int) (b:List Int):Option Rt :=
  (zbu a).bind fun r =>
  (zbu b).bind fun r1 =>
  cond ((r1.length:Int)==0)
    (some (⟨false,([]:List Int),([]:List Int)⟩:Rt))
    ((zct r1).bind fun r2 =>
    cond (!r2)
      ((zfF r r1).bind fun r3 =>
      (zct r3).bind fun r4 =>
      cond (!r4)
        ((zbx r r3).bind fun (r0,_) =>
        (zbx r1 r3).bind fun (r0_1,_) =>
        cond (decide ((r0.length:Int) > 24))
          (some (⟨false,([]:List Int),([]:List Int)⟩:Rt))
          (cond (decide ((r0_1.length:Int) > 24))
            (some (⟨false,([]:List Int),([]:List Int)⟩:Rt))
            ((zat neg r0).bind fun r5 =>
            (zah (Nat.ble r0_1.length zan)).bind fun _ =>
            some (⟨r5.neg,r5.mag,r0_1⟩:Rt))))
        (cond (decide ((r.length:Int) > 24))
          (some (⟨false,([]:List Int),([]:List Int)⟩:Rt))
          (cond (decide ((r1.length:Int) > 24))
            (some (⟨false,([]:List Int),([]:List Int)⟩:Rt))
            ((zat neg r).bind fun r5 =>
            (zah (Nat.ble r1.length zan)).bind fun _ =>
            some (⟨r5.neg,r5.mag,r1⟩:Rt)))))
      (cond (decide ((r.length:Int) > 24))
        (some (⟨false,([]:List Int),([]:List Int)⟩:Rt))
        (cond (decide ((r1.length:Int) > 24))
          (some (⟨false,([]:List Int),([]:List Int)⟩:Rt))
          ((zat neg r).bind fun r3 =>
          (zah (Nat.ble r1.length zan)).bind fun _ =>
          some (⟨r3.neg,r3.mag,r1⟩:Rt)))))
def zgi (num:Bg) (den:Bg):Option Rt :=
  (zbv num).bind fun r =>
  cond (!r)
    (some (⟨false,([]:List Int),([]:List Int)⟩:Rt))
    ((zbv den).bind fun r1 =>
    cond (!r1)
      (some (⟨false,([]:List Int),([]:List Int)⟩:Rt))
      ((zaL (!(num.neg==den.neg)) num.mag den.mag).bind fun r2 =>
      some r2))
def zbC (n:Int) (d:Int):Option Rt :=
 (zdz n).bind fun r =>
 (zdz d).bind fun r1 =>
 (zgi r r1).bind fun r2 =>
 some r2
def zav (r:Rt):Option Int :=
  (za5 r).bind fun r1 =>
  cond (!r1)
    (some 0)
    (cond ((r.mag.length:Int)==0)
      (some 0)
      (cond r.neg
        (some (-1))
        (some 1)))
def zaz (r:Rt) (s:Rt):Option Rt :=
  (zct r.den).bind fun r1 =>
  cond r1
    ((zct s.den).bind fun r2 =>
    cond r2
      ((zc4 (⟨r.neg,r.mag⟩:Bg) (⟨s.neg,s.mag⟩:Bg)).bind fun r3 =>
      (zaL r3.neg r3.mag ([1]:List Int)).bind fun r4 =>
      some r4)
      ((zaA r.mag s.den).bind fun r3 =>
      (zat r.neg r3).bind fun r4 =>
      (zaA s.mag r.den).bind fun r5 =>
      (zat s.neg r5).bind fun r6 =>
      (zc4 r4 r6).bind fun r7 =>
      (zaA r.den s.den).bind fun r8 =>
      (zaL r7.neg r7.mag r8).bind fun r9 =>
      some r9))
    ((zaA r.mag s.den).bind fun r2 =>
    (zat r.neg r2).bind fun r3 =>
    (zaA s.mag r.den).bind fun r4 =>
    (zat s.neg r4).bind fun r5 =>
    (zc4 r3 r5).bind fun r6 =>
    (zaA r.den s.den).bind fun r7 =>
    (zaL r6.neg r6.mag r7).bind fun r8 =>
    some r8)
def zgh (r:Rt):Option Rt :=
 (zah (Nat.ble r.mag.length zan)).bind fun _ =>
 (zah (Nat.ble r.den.length zan)).bind fun _ =>
 some r
def zbr (r:Rt) (s:Rt):Option Rt :=
 (zaA r.mag s.mag).bind fun r1 =>
 (zaA r.den s.den).bind fun r2 =>
 (zaL (!(r.neg==s.neg)) r1 r2).bind fun r3 =>
 some r3
def zgM (r:Rt):Option Rt :=
 (zat (!r.neg) r.mag).bind fun r1 =>
 (zah (Nat.ble r.den.length zan)).bind fun _ =>
 some (⟨r1.neg,r1.mag,r.den⟩:Rt)
end Go.Di
namespace Go.Di
def zbK (r:Rt):Option Bool :=
 some ((r.den.length:Int)==0)
def zcs (a:Rt) (b:Rt):Option Rt :=
 (zaA a.mag b.den).bind fun r =>
 (zaA a.den b.mag).bind fun r1 =>
 (zaL (!(a.neg==b.neg)) r r1).bind fun r2 =>
 some r2
def zbl:Option Rt :=
 (za2 0).bind fun r =>
 some r
def zfC (r:Rt):Option Bool :=
 some ((r.mag.length:Int)==0)
def zbw (a:Rt) (b:Rt):Option Rt :=
 (zgM b).bind fun r =>
 (zaz a r).bind fun r1 =>
 some r1
end Go.Di
namespace Go.Di
end Go.Di
namespace Go.Di
def zpA:Int × (List Int) × Int × Int × Unit→Option ((Int × (List Int) × Int × Int × Unit) ⊕ ((Bool × Unit) ⊕ (Unit))):=fun (n,t,t1,t2,_) =>
  cond (decide (t2 < t1))
    ((idx t t2).bind fun e =>
    cond (e==n)
      (some (.inr (.inl (true,()))))
      (some (.inl (n,t,t1,IntKind.i64.wrap (t2+1),()))))
    (some (.inr (.inr (()))))
def zpD (n:Int) (t:List Int) (t1:Int) (t2:Int):Option ((Bool × Unit) ⊕ (Unit)):=whileO zpA (n,t,t1,t2,())
def zml (l:List Int) (n:Int):Option Bool :=
  (zpD n l (l.length:Int) 0).bind fun r =>
  match r with
  | .inl (t,_) =>
    some t
  | .inr _ =>
    some false
end Go.Di
namespace Go.Di
def zgK:(List Int) × (List Int) × Unit→Option (((List Int) × (List Int) × Unit) ⊕ ((List Int) × Unit)):=fun (a,x,_) =>
  (zba a x).bind fun (r0,_) =>
  (zdO x r0).bind fun r =>
  (zba r ([2]:List Int)).bind fun (r0_1,_) =>
  (zeL r0_1 x).bind fun r2 =>
  cond (decide (r2 ≥ 0))
    (some (.inr (x,())))
    (some (.inl (a,r0_1,())))
def zmm (a:List Int) (x:List Int):Option ((List Int) × Unit):=whileO zgK (a,x,())
def zlF (a:List Int):Option (List Int) :=
  cond ((a.length:Int)==0)
    (some ([]:List Int))
    ((zah (((decide (0≤(IntKind.i64.wrap ((IntKind.i64.wrap ((IntKind.i64.wrap ((a.length:Int)+1)).tdiv 2))+1)))) && (decide ((IntKind.i64.wrap ((IntKind.i64.wrap ((IntKind.i64.wrap ((a.length:Int)+1)).tdiv 2))+1))≤(IntKind.i64.wrap ((IntKind.i64.wrap ((IntKind.i64.wrap ((a.length:Int)+1)).tdiv 2))+1))))) && (decide ((IntKind.i64.wrap ((IntKind.i64.wrap ((IntKind.i64.wrap ((a.length:Int)+1)).tdiv 2))+1))≤(zan:Int))))).bind fun _ =>
    (idx (List.replicate ((IntKind.i64.wrap ((IntKind.i64.wrap ((IntKind.i64.wrap ((a.length:Int)+1)).tdiv 2))+1)).toNat) 0:List Int) (IntKind.i64.wrap (((List.replicate ((IntKind.i64.wrap ((IntKind.i64.wrap ((IntKind.i64.wrap ((a.length:Int)+1)).tdiv 2))+1)).toNat) 0:List Int).length:Int) - 1))).bind fun _ =>
    (zmm a ((List.replicate ((IntKind.i64.wrap ((IntKind.i64.wrap ((IntKind.i64.wrap ((a.length:Int)+1)).tdiv 2))+1)).toNat) 0:List Int).set ((IntKind.i64.wrap (((List.replicate ((IntKind.i64.wrap ((IntKind.i64.wrap ((IntKind.i64.wrap ((a.length:Int)+1)).tdiv 2))+1)).toNat) 0:List Int).length:Int) - 1)).toNat) 1)).bind fun (t,_) =>
    some t)
def zcm (r:Rt):Option Rt :=
  (zaI r).bind fun r1 =>
  cond (!r1)
    (some (⟨false,([]:List Int),([]:List Int)⟩:Rt))
    ((za9 r).bind fun r2 =>
    cond (decide (r2 < 0))
      (some (⟨false,([]:List Int),([]:List Int)⟩:Rt))
      ((zc7 1000000).bind fun r3 =>
      (zcH r r3).bind fun r4 =>
      (zc7 1000000).bind fun r5 =>
      (zcH r4 r5).bind fun r6 =>
      (za8 r6).bind fun r7 =>
      cond r7
        (some (⟨false,([]:List Int),([]:List Int)⟩:Rt))
        ((zba r6.mag r6.den).bind fun (r0,_) =>
        (zlF r0).bind fun r8 =>
        (zay false r8).bind fun r9 =>
        (zeu 1000000).bind fun r10 =>
        (zbR r9 r10).bind fun r11 =>
        some r11)))
def zbH (r:Rt) (n:Int):Option Rt :=
  (zaI r).bind fun r1 =>
  cond (!r1)
    (some (⟨false,([]:List Int),([]:List Int)⟩:Rt))
    (cond (decide (n < 1))
      (some (⟨false,([]:List Int),([]:List Int)⟩:Rt))
      (cond (decide (n > 1000000))
        (some (⟨false,([]:List Int),([]:List Int)⟩:Rt))
        ((zc7 n).bind fun r2 =>
        (zcH r r2).bind fun r3 =>
        (zgu 1 2).bind fun r4 =>
        (zeM r3 r4).bind fun r5 =>
        (za8 r5).bind fun r6 =>
        cond r6
          (some (⟨false,([]:List Int),([]:List Int)⟩:Rt))
          ((zfL (⟨r5.neg,r5.mag⟩:Bg) r5.den).bind fun (r0,_) =>
          (zeu n).bind fun r7 =>
          (zbR r0 r7).bind fun r8 =>
          some r8))))
def zhw (x:Rt) (y:Rt):Option Rt :=
  (zpC x y).bind fun r =>
  cond (!r)
    (some (⟨false,([]:List Int),([]:List Int)⟩:Rt))
    ((zfK x).bind fun r1 =>
    cond r1
      ((zfK y).bind fun r2 =>
      cond r2
        (some (⟨false,([]:List Int),([]:List Int)⟩:Rt))
        ((zcH x x).bind fun r3 =>
        (zcH y y).bind fun r4 =>
        (zeM r3 r4).bind fun r5 =>
        (za8 r5).bind fun r6 =>
        cond r6
          (some (⟨false,([]:List Int),([]:List Int)⟩:Rt))
          ((zcm r5).bind fun r7 =>
          (zeM r7 x).bind fun r8 =>
          (zfj y r8).bind fun r9 =>
          (za9 x).bind fun r10 =>
          cond (decide (r10 < 0))
            ((zif r7 x).bind fun r11 =>
            (zfj r11 y).bind fun r12 =>
            (za8 r12).bind fun r13 =>
            cond r13
              (some (⟨false,([]:List Int),([]:List Int)⟩:Rt))
              ((zbH r12 1000000).bind fun r14 =>
              some r14))
            ((za8 r9).bind fun r11 =>
            cond r11
              (some (⟨false,([]:List Int),([]:List Int)⟩:Rt))
              ((zbH r9 1000000).bind fun r12 =>
              some r12)))))
      ((zcH x x).bind fun r2 =>
      (zcH y y).bind fun r3 =>
      (zeM r2 r3).bind fun r4 =>
      (za8 r4).bind fun r5 =>
      cond r5
        (some (⟨false,([]:List Int),([]:List Int)⟩:Rt))
        ((zcm r4).bind fun r6 =>
        (zeM r6 x).bind fun r7 =>
        (zfj y r7).bind fun r8 =>
        (za9 x).bind fun r9 =>
        cond (decide (r9 < 0))
          ((zif r6 x).bind fun r10 =>
          (zfj r10 y).bind fun r11 =>
          (za8 r11).bind fun r12 =>
          cond r12
            (some (⟨false,([]:List Int),([]:List Int)⟩:Rt))
            ((zbH r11 1000000).bind fun r13 =>
            some r13))
          ((za8 r8).bind fun r10 =>
          cond r10
            (some (⟨false,([]:List Int),([]:List Int)⟩:Rt))
            ((zbH r8 1000000).bind fun r11 =>
            some r11)))))
def zcW:(List Int) × (List Int) × Unit→Option (((List Int) × (List Int) × Unit) ⊕ ((List Int) × Unit)):=fun (a,x,_) =>
  (zbx a x).bind fun (r0,_) =>
  (zeJ x r0).bind fun r =>
  (zbu r).bind fun r2 =>
  (zbx r2 ([2]:List Int)).bind fun (r0_1,_) =>
  (zbu r0_1).bind fun r3 =>
  (zbu x).bind fun r4 =>
  (zc5 r3 r4).bind fun r5 =>
  cond (decide (r5 ≥ 0))
    ((zbu x).bind fun r6 =>
    (zah (Nat.ble r6.length zan)).bind fun _ =>
    some (.inr (r6,())))
    ((zbu r0_1).bind fun r6 =>
    some (.inl (a,r6,())))
def zi5 (a:List Int) (x:List Int):Option ((List Int) × Unit):=whileO zcW (a,x,())
def zcX:(List Int) × (List Int) × Unit→Option (((List Int) × (List Int) × Unit) ⊕ ((List Int) × (List Int) × Unit)):=fun (a,x,_) =>
  cond (decide ((x.length:Int) < (IntKind.i64.wrap ((IntKind.i64.wrap ((a.length:Int)+1)).tdiv 2))))
    ((zah (Nat.ble (x.length+1) zan)).bind fun _ =>
    some (.inl (a,x++([0]:List Int),())))
    (some (.inr (a,x,())))
def zi6 (a:List Int) (x:List Int):Option ((List Int) × (List Int) × Unit):=whileO zcX (a,x,())
def zgg (a:List Int):Option (List Int) :=
  cond ((a.length:Int)==0)
    (some ([]:List Int))
    ((zi6 a ([]:List Int)).bind fun (a1,x,_) =>
    (zah (Nat.ble (x.length+1) zan)).bind fun _ =>
    (zi5 a1 (x++([1]:List Int))).bind fun (t,_) =>
    some t)
def zbm (r:Rt):Option Rt :=
  (za5 r).bind fun r1 =>
  cond (!r1)
    (some (⟨false,([]:List Int),([]:List Int)⟩:Rt))
    (cond r.neg
      (some (⟨false,([]:List Int),([]:List Int)⟩:Rt))
      ((za2 1000000000000).bind fun r2 =>
      (zbr r r2).bind fun r3 =>
      (zbK r3).bind fun r4 =>
      cond r4
        (some (⟨false,([]:List Int),([]:List Int)⟩:Rt))
        ((zbx r3.mag r3.den).bind fun (r0,_) =>
        (zaN r0).bind fun r5 =>
        (zgg r5).bind fun r6 =>
        (zcf 1000000).bind fun r7 =>
        (zaL false r6 r7).bind fun r8 =>
        some r8)))
def zfB (r:Rt):Option Bg :=
  (zbx r.mag r.den).bind fun (r0,r1) =>
  (zaN r0).bind fun r2 =>
  cond r.neg
    ((zaN r1).bind fun r3 =>
    cond (decide ((r3.length:Int) > 0))
      ((zeJ r2 ([1]:List Int)).bind fun r4 =>
      (zaN r4).bind fun r5 =>
      (zat r.neg r5).bind fun r6 =>
      some r6)
      ((zat r.neg r2).bind fun r4 =>
      some r4))
    ((zat r.neg r2).bind fun r3 =>
    some r3)
def zaY (r:Rt) (n:Int):Option Rt :=
  (za5 r).bind fun r1 =>
  cond (!r1)
    (some (⟨false,([]:List Int),([]:List Int)⟩:Rt))
    ((zaX n 1 1000000).bind fun r2 =>
    cond (!r2)
      (some (⟨false,([]:List Int),([]:List Int)⟩:Rt))
      ((za2 n).bind fun r3 =>
      (zbr r r3).bind fun r4 =>
      (zbC 1 2).bind fun r5 =>
      (zaz r4 r5).bind fun r6 =>
      (zbK r6).bind fun r7 =>
      cond r7
        (some (⟨false,([]:List Int),([]:List Int)⟩:Rt))
        ((zfB r6).bind fun r8 =>
        (zcf n).bind fun r9 =>
        (zaL r8.neg r8.mag r9).bind fun r10 =>
        some r10)))
def zec (x:Rt) (y:Rt):Option Rt :=
  (za5 x).bind fun r =>
  cond (!r)
    (some (⟨false,([]:List Int),([]:List Int)⟩:Rt))
    ((za5 y).bind fun r1 =>
    cond (!r1)
      (some (⟨false,([]:List Int),([]:List Int)⟩:Rt))
      ((zbr x x).bind fun r2 =>
      (zbr y y).bind fun r3 =>
      (zaz r2 r3).bind fun r4 =>
      (zbm r4).bind fun r5 =>
      (zbK r5).bind fun r6 =>
      cond r6
        (some (⟨false,([]:List Int),([]:List Int)⟩:Rt))
        ((zfC x).bind fun r7 =>
        cond r7
          ((zfC y).bind fun r8 =>
          cond r8
            (some (⟨false,([]:List Int),([]:List Int)⟩:Rt))
            (cond x.neg
              ((zbw r5 x).bind fun r9 =>
              (zcs r9 y).bind fun r10 =>
              (zaY r10 1000000).bind fun r11 =>
              some r11)
              ((zaz r5 x).bind fun r9 =>
              (zcs y r9).bind fun r10 =>
              (zaY r10 1000000).bind fun r11 =>
              some r11)))
          (cond x.neg
            ((zbw r5 x).bind fun r8 =>
            (zcs r8 y).bind fun r9 =>
            (zaY r9 1000000).bind fun r10 =>
            some r10)
            ((zaz r5 x).bind fun r8 =>
            (zcs y r8).bind fun r9 =>
            (zaY r9 1000000).bind fun r10 =>
            some r10)))))
end Go.Di
namespace Go.Di
def ze2 (s:Sta) (plane:Bool):Option Bool :=
  (zgS s.name).bind fun r =>
  cond r
    ((zaI s.x).bind fun r1 =>
    cond r1
      ((zaI s.y).bind fun r2 =>
      cond r2
        (cond plane
          (some true)
          ((zfK s.y).bind fun r3 =>
          some r3))
        (some false))
      (some false))
    (some false)
def zbP:ByteArray × (List Sta) × Int × Int × Unit→Option ((ByteArray × (List Sta) × Int × Int × Unit) ⊕ ((Int × Unit) ⊕ (Unit))):=fun (name,t,t1,t2,_) =>
  cond (decide (t2 < t1))
    ((idx t t2).bind fun e =>
    cond (strEq e.name name)
      (some (.inr (.inl (t2,()))))
      (some (.inl (name,t,t1,IntKind.i64.wrap (t2+1),()))))
    (some (.inr (.inr (()))))
def zgF (name:ByteArray) (t:List Sta) (t1:Int) (t2:Int):Option ((Int × Unit) ⊕ (Unit)):=whileO zbP (name,t,t1,t2,())
def za4 (n:Net) (name:ByteArray):Option Int :=
  (zgF name n.stations (n.stations.length:Int) 0).bind fun r =>
  match r with
  | .inl (t,_) =>
    some t
  | .inr _ =>
    some (-1)
def zcj:(List Sta) × Int × Int × Bool × (List Sta) × Unit→Option (((List Sta) × Int × Int × Bool × (List Sta) × Unit) ⊕ ((Bool × Unit) ⊕ (Unit))):=fun (t,t1,t2,v,v1,_) =>
  cond (decide (t2 < t1))
    ((idx t t2).bind fun e =>
    (ze2 e v).bind fun r =>
    cond (!r)
      (some (.inr (.inl (false,()))))
      ((za4 (⟨v,v1⟩:Net) e.name).bind fun r1 =>
      cond (r1 != t2)
        (some (.inr (.inl (false,()))))
        (some (.inl (t,t1,IntKind.i64.wrap (t2+1),v,v1,())))))
    (some (.inr (.inr (()))))
def zhz (t:List Sta) (t1:Int) (t2:Int) (v:Bool) (v1:List Sta):Option ((Bool × Unit) ⊕ (Unit)):=whileO zcj (t,t1,t2,v,v1,())
def zdZ (n:Net):Option Bool :=
  cond (decide ((n.stations.length:Int) > 8))
    (some false)
    ((zhz n.stations (n.stations.length:Int) 0 n.plane n.stations).bind fun r =>
    match r with
    | .inl (t,_) =>
      some t
    | .inr _ =>
      some true)
def zlG (plane:Bool):Option Int :=
  cond plane
    (some 2)
    (some 1)
def zbB:(List Sta) × Int × Int × Bool × (List Sta) × Unit→Option (((List Sta) × Int × Int × Bool × (List Sta) × Unit) ⊕ ((Bool × Unit) ⊕ (Unit))):=fun (t,t1,t2,v,v1,_) =>
  cond (decide (t2 < t1))
    ((idx t t2).bind fun e =>
    (idx v1 t2).bind fun e1 =>
    cond (!(strEq e.name e1.name))
      (some (.inr (.inl (false,()))))
      (cond (!(e.fixed==e1.fixed))
        (some (.inr (.inl (false,()))))
        ((zcQ e.x e1.x).bind fun r =>
        cond (!r)
          (some (.inr (.inl (false,()))))
          ((zcQ e.y e1.y).bind fun r1 =>
          cond (!r1)
            (some (.inr (.inl (false,()))))
            (some (.inl (t,t1,IntKind.i64.wrap (t2+1),v,v1,())))))))
    (some (.inr (.inr (()))))
def zgw (t:List Sta) (t1:Int) (t2:Int) (v:Bool) (v1:List Sta):Option ((Bool × Unit) ⊕ (Unit)):=whileO zbB (t,t1,t2,v,v1,())
def zdP (a:Net) (b:Net):Option Bool :=
  cond (!(a.plane==b.plane))
    (some false)
    (cond ((a.stations.length:Int) != (b.stations.length:Int))
      (some false)
      ((zgw a.stations (a.stations.length:Int) 0 b.plane b.stations).bind fun r =>
      match r with
      | .inl (t,_) =>
        some t
      | .inr _ =>
        some true))
def zgz (s:Sta) (plane:Bool):Option Bool :=
  (ziY s.name).bind fun r =>
  cond r
    ((za5 s.x).bind fun r1 =>
    cond r1
      ((za5 s.y).bind fun r2 =>
      cond r2
        (cond plane
          (some true)
          ((zfC s.y).bind fun r3 =>
          some r3))
        (some false))
      (some false))
    (some false)
def zlb:ByteArray × (List Sta) × Int × Int × Unit→Option ((ByteArray × (List Sta) × Int × Int × Unit) ⊕ ((Int × Unit) ⊕ (Unit))):=fun (name,t,t1,t2,_) =>
  cond (decide (t2 < t1))
    ((idx t t2).bind fun e =>
    cond (strEq e.name name)
      (some (.inr (.inl (t2,()))))
      (some (.inl (name,t,t1,IntKind.i64.wrap (t2+1),()))))
    (some (.inr (.inr (()))))
def zlc (name:ByteArray) (t:List Sta) (t1:Int) (t2:Int):Option ((Int × Unit) ⊕ (Unit)):=whileO zlb (name,t,t1,t2,())
def zc6 (n:Net) (name:ByteArray):Option Int :=
  (zlc name n.stations (n.stations.length:Int) 0).bind fun r =>
  match r with
  | .inl (t,_) =>
    some t
  | .inr _ =>
    some (-1)
def zd9:(List Sta) × Int × Int × Bool × (List Sta) × Unit→Option (((List Sta) × Int × Int × Bool × (List Sta) × Unit) ⊕ ((Bool × Unit) ⊕ (Unit))):=fun (t,t1,t2,v,v1,_) =>
  cond (decide (t2 < t1))
    ((idx t t2).bind fun e =>
    (zgz e v).bind fun r =>
    cond (!r)
      (some (.inr (.inl (false,()))))
      ((zc6 (⟨v,v1⟩:Net) e.name).bind fun r1 =>
      cond (r1 != t2)
        (some (.inr (.inl (false,()))))
        (some (.inl (t,t1,IntKind.i64.wrap (t2+1),v,v1,())))))
    (some (.inr (.inr (()))))
def zhy (t:List Sta) (t1:Int) (t2:Int) (v:Bool) (v1:List Sta):Option ((Bool × Unit) ⊕ (Unit)):=whileO zd9 (t,t1,t2,v,v1,())
def ze0 (n:Net):Option Bool :=
  cond (decide ((n.stations.length:Int) > 8))
    (some false)
    ((zhy n.stations (n.stations.length:Int) 0 n.plane n.stations).bind fun r =>
    match r with
    | .inl (t,_) =>
      some t
    | .inr _ =>
      some true)
def zgf (i:Int):Option ByteArray :=
 (idx ([(⟨#[97]⟩:ByteArray),(⟨#[98]⟩:ByteArray),(⟨#[99]⟩:ByteArray),(⟨#[100]⟩:ByteArray),(⟨#[101,49]⟩:ByteArray),(⟨#[102]⟩:ByteArray),(⟨#[103]⟩:ByteArray),(⟨#[104]⟩:ByteArray),(⟨#[105,57]⟩:ByteArray)]:List ByteArray) i).bind fun _ =>
 (([(⟨#[97]⟩:ByteArray),(⟨#[98]⟩:ByteArray),(⟨#[99]⟩:ByteArray),(⟨#[100]⟩:ByteArray),(⟨#[101,49]⟩:ByteArray),(⟨#[102]⟩:ByteArray),(⟨#[103]⟩:ByteArray),(⟨#[104]⟩:ByteArray),(⟨#[105,57]⟩:ByteArray)]:List ByteArray)[i.toNat]?).bind fun e =>
 some e
def zdf:Int × Int × Int × (List Int) × Int × Int × Bool × (List Sta) × Bool × (List Sta) × Unit→Option ((Int × Int × Int × (List Int) × Int × Int × Bool × (List Sta) × Bool × (List Sta) × Unit) ⊕ ((List Int) × Int × Int × Bool × (List Sta) × Bool × (List Sta) × Unit)):=fun (n,fixed,i,v,v1,v2,v3,v4,v5,xs,_) =>
  cond (decide (i < n))
    ((zgf i).bind fun r =>
    (zaq (⟨v,v1,v2⟩:Cur) 9).bind fun (r0,x0) =>
    (za2 (IntKind.i64.wrap ((IntKind.i64.wrap (10 * r0))+i))).bind fun r1 =>
    (zaq x0 9).bind fun (r0_1,x0_1) =>
    (za2 (IntKind.i64.wrap ((IntKind.i64.wrap (10 * r0_1))+(IntKind.i64.wrap (i * i))))).bind fun r2 =>
    (zah (Nat.ble (xs.length+1) zan)).bind fun _ =>
    some (.inl (n,fixed,IntKind.i64.wrap (i+1),x0_1.b,x0_1.i,x0_1.h,v3,v4,v5,xs++([(⟨r,r1,r2,decide (i < fixed)⟩:Sta)]:List Sta),())))
    (some (.inr (v,v1,v2,v3,v4,v5,xs,())))
def zih (n:Int) (fixed:Int) (i:Int) (v:List Int) (v1:Int) (v2:Int) (v3:Bool) (v4:List Sta) (v5:Bool) (xs:List Sta):Option ((List Int) × Int × Int × Bool × (List Sta) × Bool × (List Sta) × Unit):=whileO zdf (n,fixed,i,v,v1,v2,v3,v4,v5,xs,())
def zfA (c:Cur) (n:Int) (fixed:Int):Option (Net × Cur) :=
 (zih n fixed 0 c.b c.i c.h false ([]:List Sta) true ([]:List Sta)).bind fun (v,v1,v2,_,_,v5,xs,_) =>
 some ((⟨v5,xs⟩:Net),(⟨v,v1,v2⟩:Cur))
def zcM:Int × Int × Int × (List Int) × Int × Int × Bool × (List Sta) × Bool × (List Sta) × Unit→Option ((Int × Int × Int × (List Int) × Int × Int × Bool × (List Sta) × Bool × (List Sta) × Unit) ⊕ ((List Int) × Int × Int × Bool × (List Sta) × Bool × (List Sta) × Unit)):=fun (n,fixed,i,v,v1,v2,v3,v4,v5,xs,_) =>
  cond (decide (i < n))
    ((zgf i).bind fun r =>
    (zaq (⟨v,v1,v2⟩:Cur) 60).bind fun (r0,x0) =>
    (za2 r0).bind fun r1 =>
    (zbl).bind fun r2 =>
    (zah (Nat.ble (xs.length+1) zan)).bind fun _ =>
    some (.inl (n,fixed,IntKind.i64.wrap (i+1),x0.b,x0.i,x0.h,v3,v4,v5,xs++([(⟨r,r1,r2,decide (i < fixed)⟩:Sta)]:List Sta),())))
    (some (.inr (v,v1,v2,v3,v4,v5,xs,())))
def zhl (n:Int) (fixed:Int) (i:Int) (v:List Int) (v1:Int) (v2:Int) (v3:Bool) (v4:List Sta) (v5:Bool) (xs:List Sta):Option ((List Int) × Int × Int × Bool × (List Sta) × Bool × (List Sta) × Unit):=whileO zcM (n,fixed,i,v,v1,v2,v3,v4,v5,xs,())
def zeH (c:Cur) (n:Int) (fixed:Int):Option (Net × Cur) :=
 (zhl n fixed 0 c.b c.i c.h false ([]:List Sta) false ([]:List Sta)).bind fun (v,v1,v2,_,_,v5,xs,_) =>
 some ((⟨v5,xs⟩:Net),(⟨v,v1,v2⟩:Cur))
end Go.Di
namespace Go.Di
def zbT (kind:Int):Option Bool :=
  cond (kind==2)
    (some true)
    (cond (decide (kind ≥ 5))
      (some (decide (kind≤8)))
      (some false))
def zbk (kind:Int):Option ByteArray :=
  cond (decide (kind < 1))
    (some (⟨#[]⟩:ByteArray))
    (cond (decide (kind > 8))
      (some (⟨#[]⟩:ByteArray))
      ((idx ([(⟨#[]⟩:ByteArray),(⟨#[104,101,105,103,104,116]⟩:ByteArray),(⟨#[114,105,115,101]⟩:ByteArray),(⟨#[101,97,115,116]⟩:ByteArray),(⟨#[110,111,114,116,104]⟩:ByteArray),(⟨#[100,101,97,115,116]⟩:ByteArray),(⟨#[100,110,111,114,116,104]⟩:ByteArray),(⟨#[100,105,115,116,97,110,99,101]⟩:ByteArray),(⟨#[98,101,97,114,105,110,103]⟩:ByteArray)]:List ByteArray) kind).bind fun _ =>
      (([(⟨#[]⟩:ByteArray),(⟨#[104,101,105,103,104,116]⟩:ByteArray),(⟨#[114,105,115,101]⟩:ByteArray),(⟨#[101,97,115,116]⟩:ByteArray),(⟨#[110,111,114,116,104]⟩:ByteArray),(⟨#[100,101,97,115,116]⟩:ByteArray),(⟨#[100,110,111,114,116,104]⟩:ByteArray),(⟨#[100,105,115,116,97,110,99,101]⟩:ByteArray),(⟨#[98,101,97,114,105,110,103]⟩:ByteArray)]:List ByteArray)[kind.toNat]?).bind fun e =>
      some e))
def M_impl_observationFits (n:Net) (o:Obs):Option Bool :=
  cond (decide (o.kind < 1))
    (some false)
    (cond (decide (o.kind > 8))
      (some false)
      (cond (n.plane == (decide (o.kind≤2)))
        (some false)
        (cond (decide (o.frm < 0))
          (some false)
          (cond (decide (o.frm ≥ (n.stations.length:Int)))
            (some false)
            ((zbT o.kind).bind fun r =>
            cond r
              (cond (decide (o.to < 0))
                (some false)
                (cond (decide (o.to ≥ (n.stations.length:Int)))
                  (some false)
                  (cond (o.to==o.frm)
                    (some false)
                    ((zaI o.value).bind fun r1 =>
                    cond (!r1)
                      (some false)
                      (cond (o.kind==7)
                        ((za9 o.value).bind fun r2 =>
                        cond (decide (r2≤0))
                          (some false)
                          ((zaI o.variance).bind fun r3 =>
                          cond r3
                            ((za9 o.variance).bind fun r4 =>
                            some (decide (r4 > 0)))
                            (some false)))
                        ((zaI o.variance).bind fun r2 =>
                        cond r2
                          ((za9 o.variance).bind fun r3 =>
                          some (decide (r3 > 0)))
                          (some false)))))))
              (cond (o.to != 0)
                (some false)
                ((zaI o.value).bind fun r1 =>
                cond (!r1)
                  (some false)
                  (cond (o.kind==7)
                    ((za9 o.value).bind fun r2 =>
                    cond (decide (r2≤0))
                      (some false)
                      ((zaI o.variance).bind fun r3 =>
                      cond r3
                        ((za9 o.variance).bind fun r4 =>
                        some (decide (r4 > 0)))
                        (some false)))
                    ((zaI o.variance).bind fun r2 =>
                    cond r2
                      ((za9 o.variance).bind fun r3 =>
                      some (decide (r3 > 0)))
                      (some false))))))))))
def za1 (n:Net) (o:Obs):Option Bool :=
  (zdZ n).bind fun r =>
  cond r
    ((M_impl_observationFits n o).bind fun r1 =>
    some r1)
    (some false)
def zbq:(List Obs) × Int × Int × Bool × (List Sta) × Unit→Option (((List Obs) × Int × Int × Bool × (List Sta) × Unit) ⊕ ((Bool × Unit) ⊕ (Unit))):=fun (t,t1,t2,v,v1,_) =>
  cond (decide (t2 < t1))
    ((idx t t2).bind fun e =>
    (M_impl_observationFits (⟨v,v1⟩:Net) e).bind fun r =>
    cond (!r)
      (some (.inr (.inl (false,()))))
      (some (.inl (t,t1,IntKind.i64.wrap (t2+1),v,v1,()))))
    (some (.inr (.inr (()))))
def zfU (t:List Obs) (t1:Int) (t2:Int) (v:Bool) (v1:List Sta):Option ((Bool × Unit) ⊕ (Unit)):=whileO zbq (t,t1,t2,v,v1,())
def zbE (n:Net) (list:List Obs):Option Bool :=
  (zdZ n).bind fun r =>
  cond (!r)
    (some false)
    (cond (decide ((list.length:Int) > 20))
      (some false)
      ((zfU list (list.length:Int) 0 n.plane n.stations).bind fun r1 =>
      match r1 with
      | .inl (t,_) =>
        some t
      | .inr _ =>
        some true))
def zcU (o:Obs):Option Obs :=
 (zd5 o.value).bind fun r =>
 (zd5 o.variance).bind fun r1 =>
 some (⟨o.kind,o.frm,o.to,r,r1⟩:Obs)
def zcT (a:Obs) (b:Obs):Option Bool :=
  cond (a.kind==b.kind)
    (cond (a.frm==b.frm)
      (cond (a.to==b.to)
        ((zcQ a.value b.value).bind fun r =>
        cond r
          ((zcQ a.variance b.variance).bind fun r1 =>
          some r1)
          (some false))
        (some false))
      (some false))
    (some false)
def zbe:(List Obs) × (List Obs) × Int × Int × Unit→Option (((List Obs) × (List Obs) × Int × Int × Unit) ⊕ ((Bool × Unit) ⊕ (Unit))):=fun (a,b,t,t1,_) =>
  cond (decide (t1 < t))
    ((idx a t1).bind fun e =>
    (idx b t1).bind fun e1 =>
    (zcT e e1).bind fun r =>
    cond (!r)
      (some (.inr (.inl (false,()))))
      (some (.inl (a,b,t,IntKind.i64.wrap (t1+1),()))))
    (some (.inr (.inr (()))))
def zeW (a:List Obs) (b:List Obs) (t:Int) (t1:Int):Option ((Bool × Unit) ⊕ (Unit)):=whileO zbe (a,b,t,t1,())
def zbM (a:List Obs) (b:List Obs):Option Bool :=
  cond ((a.length:Int) != (b.length:Int))
    (some false)
    ((zeW a b (a.length:Int) 0).bind fun r =>
    match r with
    | .inl (t,_) =>
      some t
    | .inr _ =>
      some true)
def za0:(List Int) × (List Obs) × Int × Int × (List Obs) × Unit→Option (((List Int) × (List Obs) × Int × Int × (List Obs) × Unit) ⊕ ((List Obs) × Unit)):=fun (skip,t,t1,t2,out,_) =>
  cond (decide (t2 < t1))
    ((idx t t2).bind fun e =>
    (zbb skip t2).bind fun r =>
    cond (!r)
      ((zcU e).bind fun r1 =>
      (zah (Nat.ble (out.length+1) zan)).bind fun _ =>
      some (.inl (skip,t,t1,IntKind.i64.wrap (t2+1),out++([r1]:List Obs),())))
      (some (.inl (skip,t,t1,IntKind.i64.wrap (t2+1),out,()))))
    (some (.inr (out,())))
def zeg (skip:List Int) (t:List Obs) (t1:Int) (t2:Int) (out:List Obs):Option ((List Obs) × Unit):=whileO za0 (skip,t,t1,t2,out,())
def zbY (list:List Obs) (skip:List Int):Option (List Obs) :=
 (zeg skip list (list.length:Int) 0 ([]:List Obs)).bind fun (out,_) =>
 some out
def zck (kind:Int):Option Bool :=
  cond (kind==2)
    (some true)
    ((zaX kind 5 8).bind fun r =>
    some r)
def zer (kind:Int):Option ByteArray :=
  (zaX kind 1 8).bind fun r =>
  cond (!r)
    (some (⟨#[]⟩:ByteArray))
    ((idx ([(⟨#[104,101,105,103,104,116]⟩:ByteArray),(⟨#[114,105,115,101]⟩:ByteArray),(⟨#[101,97,115,116]⟩:ByteArray),(⟨#[110,111,114,116,104]⟩:ByteArray),(⟨#[100,101,97,115,116]⟩:ByteArray),(⟨#[100,110,111,114,116,104]⟩:ByteArray),(⟨#[100,105,115,116,97,110,99,101]⟩:ByteArray),(⟨#[98,101,97,114,105,110,103]⟩:ByteArray)]:List ByteArray) (IntKind.i64.wrap (kind - 1))).bind fun _ =>
    (([(⟨#[104,101,105,103,104,116]⟩:ByteArray),(⟨#[114,105,115,101]⟩:ByteArray),(⟨#[101,97,115,116]⟩:ByteArray),(⟨#[110,111,114,116,104]⟩:ByteArray),(⟨#[100,101,97,115,116]⟩:ByteArray),(⟨#[100,110,111,114,116,104]⟩:ByteArray),(⟨#[100,105,115,116,97,110,99,101]⟩:ByteArray),(⟨#[98,101,97,114,105,110,103]⟩:ByteArray)]:List ByteArray)[(IntKind.i64.wrap (kind - 1)).toNat]?).bind fun e =>
    some e)
def zhJ (kind:Int) (plane:Bool):Option Bool :=
  cond plane
    ((zaX kind 3 8).bind fun r =>
    some r)
    ((zaX kind 1 2).bind fun r =>
    some r)
def M_spec_l11Ok (n:Net) (o:Obs):Option Bool :=
  (zhJ o.kind n.plane).bind fun r =>
  cond (!r)
    (some false)
    ((zaX o.frm 0 (IntKind.i64.wrap ((n.stations.length:Int) - 1))).bind fun r1 =>
    cond (!r1)
      (some false)
      ((zck o.kind).bind fun r2 =>
      cond r2
        ((zaX o.to 0 (IntKind.i64.wrap ((n.stations.length:Int) - 1))).bind fun r3 =>
        cond (!r3)
          (some false)
          (cond (o.to == o.frm)
            (some false)
            ((zck o.kind).bind fun r4 =>
            cond (!r4)
              (cond (o.to != 0)
                (some false)
                ((za5 o.value).bind fun r5 =>
                cond r5
                  (cond (o.kind != 7)
                    ((zav o.variance).bind fun r6 =>
                    some (decide (r6 > 0)))
                    ((zav o.value).bind fun r6 =>
                    cond (decide (r6 > 0))
                      ((zav o.variance).bind fun r7 =>
                      some (decide (r7 > 0)))
                      (some false)))
                  (some false)))
              ((za5 o.value).bind fun r5 =>
              cond r5
                (cond (o.kind != 7)
                  ((zav o.variance).bind fun r6 =>
                  some (decide (r6 > 0)))
                  ((zav o.value).bind fun r6 =>
                  cond (decide (r6 > 0))
                    ((zav o.variance).bind fun r7 =>
                    some (decide (r7 > 0)))
                    (some false)))
                (some false)))))
        ((zck o.kind).bind fun r3 =>
        cond (!r3)
          (cond (o.to != 0)
            (some false)
            ((za5 o.value).bind fun r4 =>
            cond r4
              (cond (o.kind != 7)
                ((zav o.variance).bind fun r5 =>
                some (decide (r5 > 0)))
                ((zav o.value).bind fun r5 =>
                cond (decide (r5 > 0))
                  ((zav o.variance).bind fun r6 =>
                  some (decide (r6 > 0)))
                  (some false)))
              (some false)))
          ((za5 o.value).bind fun r4 =>
          cond r4
            (cond (o.kind != 7)
              ((zav o.variance).bind fun r5 =>
              some (decide (r5 > 0)))
              ((zav o.value).bind fun r5 =>
              cond (decide (r5 > 0))
                ((zav o.variance).bind fun r6 =>
                some (decide (r6 > 0)))
                (some false)))
            (some false)))))
def M_spec_ObservationOk (n:Net) (o:Obs):Option Bool :=
  (ze0 n).bind fun r =>
  cond r
    ((M_spec_l11Ok n o).bind fun r1 =>
    some r1)
    (some false)
def zcr:(List Obs) × Int × Int × Bool × (List Sta) × Unit→Option (((List Obs) × Int × Int × Bool × (List Sta) × Unit) ⊕ ((Bool × Unit) ⊕ (Unit))):=fun (t,t1,t2,v,v1,_) =>
  cond (decide (t2 < t1))
    ((idx t t2).bind fun e =>
    (M_spec_l11Ok (⟨v,v1⟩:Net) e).bind fun r =>
    cond (!r)
      (some (.inr (.inl (false,()))))
      (some (.inl (t,t1,IntKind.i64.wrap (t2+1),v,v1,()))))
    (some (.inr (.inr (()))))
def zfQ (t:List Obs) (t1:Int) (t2:Int) (v:Bool) (v1:List Sta):Option ((Bool × Unit) ⊕ (Unit)):=whileO zcr (t,t1,t2,v,v1,())
def zeo (n:Net) (list:List Obs):Option Bool :=
  (ze0 n).bind fun r =>
  cond (!r)
    (some false)
    (cond (decide ((list.length:Int) > 20))
      (some false)
      ((zfQ list (list.length:Int) 0 n.plane n.stations).bind fun r1 =>
      match r1 with
      | .inl (t,_) =>
        some t
      | .inr _ =>
        some true))
def zhL (o:Obs):Option Obs :=
 (zgh o.value).bind fun r =>
 (zgh o.variance).bind fun r1 =>
 some (⟨o.kind,o.frm,o.to,r,r1⟩:Obs)
def zbG:(List Int) × (List Obs) × Int × Int × (List Obs) × Unit→Option (((List Int) × (List Obs) × Int × Int × (List Obs) × Unit) ⊕ ((List Obs) × Unit)):=fun (skip,t,t1,t2,out,_) =>
  cond (decide (t2 < t1))
    ((idx t t2).bind fun e =>
    (zml skip t2).bind fun r =>
    cond (!r)
      ((zhL e).bind fun r1 =>
      (zah (Nat.ble (out.length+1) zan)).bind fun _ =>
      some (.inl (skip,t,t1,IntKind.i64.wrap (t2+1),out++([r1]:List Obs),())))
      (some (.inl (skip,t,t1,IntKind.i64.wrap (t2+1),out,()))))
    (some (.inr (out,())))
def zee (skip:List Int) (t:List Obs) (t1:Int) (t2:Int) (out:List Obs):Option ((List Obs) × Unit):=whileO zbG (skip,t,t1,t2,out,())
def zeP (list:List Obs) (skip:List Int):Option (List Obs) :=
 (zee skip list (list.length:Int) 0 ([]:List Obs)).bind fun (out,_) =>
 some out
def zeG (c:Cur) (n:Net) (i:Int) (k:Int):Option (Obs × Cur) :=
  (idx n.stations k).bind fun e =>
  (idx n.stations i).bind fun e1 =>
  (zbw e.x e1.x).bind fun r =>
  (idx n.stations k).bind fun e2 =>
  (idx n.stations i).bind fun e3 =>
  (zbw e2.y e3.y).bind fun r1 =>
  (zaq c 4).bind fun (r0,x0) =>
  (zaq x0 3).bind fun (r0_1,x0_1) =>
  (zbC (IntKind.i64.wrap (1+r0_1)) 2).bind fun r2 =>
  (zaq x0_1 5).bind fun (r0_2,x0_2) =>
  (zbC (IntKind.i64.wrap (r0_2 - 2)) 4).bind fun r3 =>
  cond ((IntKind.i64.wrap (5+r0))==5)
    ((zaz r r3).bind fun r4 =>
    (zbK r4).bind fun r5 =>
    cond r5
      ((zaz r r3).bind fun r6 =>
      some ((⟨5,i,k,r6,r2⟩:Obs),x0_2))
      (cond ((IntKind.i64.wrap (5+r0))==7)
        ((zav r4).bind fun r6 =>
        cond (decide (r6≤0))
          ((zaz r r3).bind fun r7 =>
          some ((⟨5,i,k,r7,r2⟩:Obs),x0_2))
          (some ((⟨IntKind.i64.wrap (5+r0),i,k,r4,r2⟩:Obs),x0_2)))
        (some ((⟨IntKind.i64.wrap (5+r0),i,k,r4,r2⟩:Obs),x0_2))))
    (cond ((IntKind.i64.wrap (5+r0))==6)
      ((zaz r1 r3).bind fun r4 =>
      (zbK r4).bind fun r5 =>
      cond r5
        ((zaz r r3).bind fun r6 =>
        some ((⟨5,i,k,r6,r2⟩:Obs),x0_2))
        (cond ((IntKind.i64.wrap (5+r0))==7)
          ((zav r4).bind fun r6 =>
          cond (decide (r6≤0))
            ((zaz r r3).bind fun r7 =>
            some ((⟨5,i,k,r7,r2⟩:Obs),x0_2))
            (some ((⟨IntKind.i64.wrap (5+r0),i,k,r4,r2⟩:Obs),x0_2)))
          (some ((⟨IntKind.i64.wrap (5+r0),i,k,r4,r2⟩:Obs),x0_2))))
      (cond ((IntKind.i64.wrap (5+r0))==7)
        ((zbr r r).bind fun r4 =>
        (zbr r1 r1).bind fun r5 =>
        (zaz r4 r5).bind fun r6 =>
        (zbm r6).bind fun r7 =>
        (zaY r7 4).bind fun r8 =>
        (zbK r8).bind fun r9 =>
        cond r9
          ((zaz r r3).bind fun r10 =>
          some ((⟨5,i,k,r10,r2⟩:Obs),x0_2))
          (cond ((IntKind.i64.wrap (5+r0))==7)
            ((zav r8).bind fun r10 =>
            cond (decide (r10≤0))
              ((zaz r r3).bind fun r11 =>
              some ((⟨5,i,k,r11,r2⟩:Obs),x0_2))
              (some ((⟨IntKind.i64.wrap (5+r0),i,k,r8,r2⟩:Obs),x0_2)))
            (some ((⟨IntKind.i64.wrap (5+r0),i,k,r8,r2⟩:Obs),x0_2))))
        ((zec r r1).bind fun r4 =>
        (zaY r4 100).bind fun r5 =>
        (zbK r5).bind fun r6 =>
        cond r6
          ((zaz r r3).bind fun r7 =>
          some ((⟨5,i,k,r7,r2⟩:Obs),x0_2))
          (cond ((IntKind.i64.wrap (5+r0))==7)
            ((zav r5).bind fun r7 =>
            cond (decide (r7≤0))
              ((zaz r r3).bind fun r8 =>
              some ((⟨5,i,k,r8,r2⟩:Obs),x0_2))
              (some ((⟨IntKind.i64.wrap (5+r0),i,k,r5,r2⟩:Obs),x0_2)))
            (some ((⟨IntKind.i64.wrap (5+r0),i,k,r5,r2⟩:Obs),x0_2))))))
def zdd:Int × Bool × Int × (List Int) × Int × Int × Bool × (List Sta) × (List Obs) × Unit→Option ((Int × Bool × Int × (List Int) × Int × Int × Bool × (List Sta) × (List Obs) × Unit) ⊕ (Int × (List Int) × Int × Int × Bool × (List Sta) × (List Obs) × Unit)):=fun (m,far,k,v,v1,v2,v3,v4,list,_) =>
  cond (decide (k > 0))
    (cond (decide (m > 1))
      ((zaq (⟨v,v1,v2⟩:Cur) m).bind fun (r0,x0) =>
      (zaq x0 (IntKind.i64.wrap (m - 1))).bind fun (r0_1,x0_1) =>
      (zah (m != 0)).bind fun _ =>
      (zeG x0_1 (⟨v3,v4⟩:Net) r0 ((IntKind.i64.wrap ((IntKind.i64.wrap (r0+1))+r0_1)).tmod m)).bind fun (r0_2,x0_2) =>
      cond (r0_2.kind==7)
        (cond far
          (cond far
            ((zah (Nat.ble (list.length+1) zan)).bind fun _ =>
            some (.inl (m,true,IntKind.i64.wrap (k - 1),x0_2.b,x0_2.i,x0_2.h,v3,v4,list++([(⟨5,r0_2.frm,r0_2.to,r0_2.value,r0_2.variance⟩:Obs)]:List Obs),())))
            ((zah (Nat.ble (list.length+1) zan)).bind fun _ =>
            some (.inl (m,false,IntKind.i64.wrap (k - 1),x0_2.b,x0_2.i,x0_2.h,v3,v4,list++([(⟨5,r0_2.frm,r0_2.to,r0_2.value,r0_2.variance⟩:Obs)]:List Obs),()))))
          (cond far
            ((zah (Nat.ble (list.length+1) zan)).bind fun _ =>
            some (.inl (m,true,IntKind.i64.wrap (k - 1),x0_2.b,x0_2.i,x0_2.h,v3,v4,list++([r0_2]:List Obs),())))
            ((zah (Nat.ble (list.length+1) zan)).bind fun _ =>
            some (.inl (m,r0_2.kind==7,IntKind.i64.wrap (k - 1),x0_2.b,x0_2.i,x0_2.h,v3,v4,list++([r0_2]:List Obs),())))))
        (cond far
          ((zah (Nat.ble (list.length+1) zan)).bind fun _ =>
          some (.inl (m,true,IntKind.i64.wrap (k - 1),x0_2.b,x0_2.i,x0_2.h,v3,v4,list++([r0_2]:List Obs),())))
          ((zah (Nat.ble (list.length+1) zan)).bind fun _ =>
          some (.inl (m,r0_2.kind==7,IntKind.i64.wrap (k - 1),x0_2.b,x0_2.i,x0_2.h,v3,v4,list++([r0_2]:List Obs),())))))
      (some (.inr (m,v,v1,v2,v3,v4,list,()))))
    (some (.inr (m,v,v1,v2,v3,v4,list,())))
def zf6 (m:Int) (far:Bool) (k:Int) (v:List Int) (v1:Int) (v2:Int) (v3:Bool) (v4:List Sta) (list:List Obs):Option (Int × (List Int) × Int × Int × Bool × (List Sta) × (List Obs) × Unit):=whileO zdd (m,far,k,v,v1,v2,v3,v4,list,())
def zde:Int × Int × (List Int) × Int × Int × Bool × (List Sta) × (List Obs) × Unit→Option ((Int × Int × (List Int) × Int × Int × Bool × (List Sta) × (List Obs) × Unit) ⊕ (Int × (List Int) × Int × Int × Bool × (List Sta) × (List Obs) × Unit)):=fun (m,i,v,v1,v2,v3,v4,list,_) =>
  cond (decide ((IntKind.i64.wrap (i+1)) < m))
    ((idx v4 (IntKind.i64.wrap (i+1))).bind fun e =>
    (idx v4 i).bind fun e1 =>
    (zbw e.x e1.x).bind fun r =>
    (idx v4 (IntKind.i64.wrap (i+1))).bind fun e2 =>
    (idx v4 i).bind fun e3 =>
    (zbw e2.y e3.y).bind fun r1 =>
    (zaq (⟨v,v1,v2⟩:Cur) 5).bind fun (r0,x0) =>
    (zbC (IntKind.i64.wrap (r0 - 2)) 4).bind fun r2 =>
    (zaz r r2).bind fun r3 =>
    (zbC 1 2).bind fun r4 =>
    (zah (Nat.ble (list.length+1) zan)).bind fun _ =>
    (zbC 1 2).bind fun r5 =>
    (zah (Nat.ble (((list++([(⟨5,i,IntKind.i64.wrap (i+1),r3,r4⟩:Obs)]:List Obs)).length)+1) zan)).bind fun _ =>
    some (.inl (m,IntKind.i64.wrap (i+1),x0.b,x0.i,x0.h,v3,v4,(list++([(⟨5,i,IntKind.i64.wrap (i+1),r3,r4⟩:Obs)]:List Obs))++([(⟨6,i,IntKind.i64.wrap (i+1),r1,r5⟩:Obs)]:List Obs),())))
    (some (.inr (m,v,v1,v2,v3,v4,list,())))
def zf7 (m:Int) (i:Int) (v:List Int) (v1:Int) (v2:Int) (v3:Bool) (v4:List Sta) (list:List Obs):Option (Int × (List Int) × Int × Int × Bool × (List Sta) × (List Obs) × Unit):=whileO zde (m,i,v,v1,v2,v3,v4,list,())
def zfz (c:Cur) (n:Net):Option (List Obs × Cur) :=
  (zf7 (n.stations.length:Int) 0 c.b c.i c.h n.plane n.stations ([]:List Obs)).bind fun (m,v,v1,v2,v3,v4,list,_) =>
  (zaq (⟨v,v1,v2⟩:Cur) 4).bind fun (r0,x0) =>
  (zf6 m false r0 x0.b x0.i x0.h v3 v4 list).bind fun (m1,v5,v6,v7,_,v9,list1,_) =>
  cond (decide (m1 > 0))
    ((zd4 (⟨v5,v6,v7⟩:Cur) 4).bind fun (r0_1,x0_1) =>
    cond r0_1
      ((idx v9 (IntKind.i64.wrap (m1 - 1))).bind fun e =>
      (za2 3).bind fun r =>
      (zah (Nat.ble (list1.length+1) zan)).bind fun _ =>
      some (list1++([(⟨3,IntKind.i64.wrap (m1 - 1),0,e.x,r⟩:Obs)]:List Obs),x0_1))
      (some (list1,x0_1)))
    (some (list1,(⟨v5,v6,v7⟩:Cur)))
def zeV (c:Cur) (n:Net) (i:Int) (k:Int):Option (Obs × Cur) :=
 (idx n.stations k).bind fun e =>
 (idx n.stations i).bind fun e1 =>
 (zbw e.x e1.x).bind fun r =>
 (zaq c 9).bind fun (r0,x0) =>
 (zbC (IntKind.i64.wrap (r0 - 4)) 4).bind fun r1 =>
 (zaz r r1).bind fun r2 =>
 (zaq x0 4).bind fun (r0_1,x0_1) =>
 (zaq x0_1 2).bind fun (r0_2,x0_2) =>
 (zbC (IntKind.i64.wrap (1+r0_1)) (IntKind.i64.wrap (1+r0_2))).bind fun r3 =>
 some ((⟨2,i,k,r2,r3⟩:Obs),x0_2)
def zcK:Int × Int × (List Int) × Int × Int × Bool × (List Sta) × (List Obs) × Unit→Option ((Int × Int × (List Int) × Int × Int × Bool × (List Sta) × (List Obs) × Unit) ⊕ (Int × (List Int) × Int × Int × Bool × (List Sta) × (List Obs) × Unit)):=fun (m,k,v,v1,v2,v3,v4,list,_) =>
  cond (decide (k > 0))
    (cond (decide (m > 1))
      ((zaq (⟨v,v1,v2⟩:Cur) m).bind fun (r0,x0) =>
      (zaq x0 (IntKind.i64.wrap (m - 1))).bind fun (r0_1,x0_1) =>
      (zah (m != 0)).bind fun _ =>
      (zeV x0_1 (⟨v3,v4⟩:Net) r0 ((IntKind.i64.wrap ((IntKind.i64.wrap (r0+1))+r0_1)).tmod m)).bind fun (r0_2,x0_2) =>
      (zah (Nat.ble (list.length+1) zan)).bind fun _ =>
      some (.inl (m,IntKind.i64.wrap (k - 1),x0_2.b,x0_2.i,x0_2.h,v3,v4,list++([r0_2]:List Obs),())))
      (some (.inr (m,v,v1,v2,v3,v4,list,()))))
    (some (.inr (m,v,v1,v2,v3,v4,list,())))
def zfa (m:Int) (k:Int) (v:List Int) (v1:Int) (v2:Int) (v3:Bool) (v4:List Sta) (list:List Obs):Option (Int × (List Int) × Int × Int × Bool × (List Sta) × (List Obs) × Unit):=whileO zcK (m,k,v,v1,v2,v3,v4,list,())
def zcL:Int × Int × (List Int) × Int × Int × Bool × (List Sta) × (List Obs) × Unit→Option ((Int × Int × (List Int) × Int × Int × Bool × (List Sta) × (List Obs) × Unit) ⊕ (Int × (List Int) × Int × Int × Bool × (List Sta) × (List Obs) × Unit)):=fun (m,i,v,v1,v2,v3,v4,list,_) =>
  cond (decide ((IntKind.i64.wrap (i+1)) < m))
    ((zeV (⟨v,v1,v2⟩:Cur) (⟨v3,v4⟩:Net) i (IntKind.i64.wrap (i+1))).bind fun (r0,x0) =>
    (zah (Nat.ble (list.length+1) zan)).bind fun _ =>
    some (.inl (m,IntKind.i64.wrap (i+1),x0.b,x0.i,x0.h,v3,v4,list++([r0]:List Obs),())))
    (some (.inr (m,v,v1,v2,v3,v4,list,())))
def zfb (m:Int) (i:Int) (v:List Int) (v1:Int) (v2:Int) (v3:Bool) (v4:List Sta) (list:List Obs):Option (Int × (List Int) × Int × Int × Bool × (List Sta) × (List Obs) × Unit):=whileO zcL (m,i,v,v1,v2,v3,v4,list,())
def zeF (c:Cur) (n:Net):Option (List Obs × Cur) :=
  (zfb (n.stations.length:Int) 0 c.b c.i c.h n.plane n.stations ([]:List Obs)).bind fun (m,v,v1,v2,v3,v4,list,_) =>
  (zaq (⟨v,v1,v2⟩:Cur) 4).bind fun (r0,x0) =>
  (zfa m r0 x0.b x0.i x0.h v3 v4 list).bind fun (m1,v5,v6,v7,_,v9,list1,_) =>
  cond (decide (m1 > 0))
    ((zd4 (⟨v5,v6,v7⟩:Cur) 3).bind fun (r0_1,x0_1) =>
    cond r0_1
      ((zaq x0_1 m1).bind fun (r0_2,x0_2) =>
      (idx v9 r0_2).bind fun e =>
      (zaq x0_2 5).bind fun (r0_3,x0_3) =>
      (zbC (IntKind.i64.wrap (r0_3 - 2)) 2).bind fun r =>
      (zaz e.x r).bind fun r1 =>
      (za2 2).bind fun r2 =>
      (zah (Nat.ble (list1.length+1) zan)).bind fun _ =>
      some (list1++([(⟨1,r0_2,0,r1,r2⟩:Obs)]:List Obs),x0_3))
      (some (list1,x0_1)))
    (some (list1,(⟨v5,v6,v7⟩:Cur)))
def zhK (c:Cur):Option (Net × List Obs × Cur) :=
  (zd4 c 3).bind fun (r0,x0) =>
  cond r0
    ((zaq x0 2).bind fun (r0_1,x0_1) =>
    (zaq x0_1 2).bind fun (r0_2,x0_2) =>
    (zfA x0_2 (IntKind.i64.wrap (2+r0_1)) r0_2).bind fun (r0_3,x0_3) =>
    (zfz x0_3 r0_3).bind fun (r0_4,x0_4) =>
    some (r0_3,r0_4,x0_4))
    ((zaq x0 3).bind fun (r0_1,x0_1) =>
    (zaq x0_1 3).bind fun (r0_2,x0_2) =>
    (zeH x0_2 (IntKind.i64.wrap (2+r0_1)) r0_2).bind fun (r0_3,x0_3) =>
    (zeF x0_3 r0_3).bind fun (r0_4,x0_4) =>
    some (r0_3,r0_4,x0_4))
end Go.Di
namespace Go.Di
end Go.Di
namespace Go.Di
theorem zjY {σ ρ:Type} (f:σ→Option (σ ⊕ ρ)) (st:Nat→σ) (n:Nat) (h:∀ i,i < n→f (st i)=some (.inl (st (i+1)))):whileO f (st 0)=whileO f (st n):=by
  induction n with
  | zero=>rfl
  | succ n ih =>
    rw[ih fun i hi=>h i (Nat.lt_succ_of_lt hi)]
    exact za6 (h n (Nat.lt_succ_self n))
theorem ze4 {σ ρ:Type} (f:σ→Option (σ ⊕ ρ)) (st:Nat→σ) (n:Nat) (r:ρ) (h:∀ i,i < n→f (st i)=some (.inl (st (i+1)))) (he:f (st n)=some (.inr r)):whileO f (st 0)=some r:=by
 rw[zjY f st n h]; exact zaw he
theorem wrap_i64 {n:Int} (h1 : -9223372036854775808≤n) (h2:n≤9223372036854775807):IntKind.i64.wrap n=n:=by
 simp only[IntKind.wrap,IntKind.bits,IntKind.signed]
 simp
 omega
theorem zN2 {α:Type} (xs:List α) (i:Nat):idx xs (i:Int)=xs[i]? := by simp[idx]
theorem zaT {α:Type} {xs:List α} {i:Nat} (h:i < xs.length):idx xs (i:Int)=some xs[i]:=by simp[idx,h]
theorem ziH {α:Type} {xs:List α} {i:Int} (h0:0≤i) (h:i < xs.length):idx xs i=some (xs[i.toNat]'(by omega)):=by
 have:i.toNat < xs.length:=by omega
 simp[idx,h0,this]
@[simp] theorem zbf:zah true=some ():=rfl
def eqB {α:Type} (a b:α):Bool:=@decide (a=b) (Classical.propDecidable _)
theorem zb9 {α:Type} {a b:α}:eqB a b=true↔a=b:=by unfold eqB; exact @decide_eq_true_iff _ (Classical.propDecidable _)
@[simp] theorem zeY {α:Type} (a:α):eqB a a=true:=zb9.2 rfl
theorem zdV {α:Type} {a b:α}:eqB a b=false↔a≠b:=by rw[← Bool.not_eq_true,zb9]
theorem zbW (a b:ByteArray):strEq a b=eqB a b:=by
 rw[Bool.eq_iff_iff,zb9]
 unfold strEq
 rw[beq_iff_eq,Go.ByteArray.toList_eq,Go.ByteArray.toList_eq]
 constructor
 ·intro h
  cases a with | mk a=>cases b with | mk b =>
  congr 1; exact Array.ext' h
 ·rintro rfl; rfl
@[simp] theorem zfW (a:ByteArray):strEq a a=true:=by rw[zbW]; exact zeY a
end Go.Di
namespace Go.Di
end Go.Di
namespace Go.Di
def SzR (x:Option Int) (left:Int) (n:Nat):Prop:=x=some (-1)∨∃ r:Int,0≤r∧r+n=left∧x=some r
theorem SzR.bind {x:Option Int} {left:Int} {n m:Nat} {k:Int→Option Int} (h:SzR x left n) (hk:∀ r:Int,0≤r→r+n=left→SzR (k r) r m) :
  SzR (x.bind fun r=>cond (decide (r < 0)) (some (-1)) (k r)) left (n+m):=by
 rcases h with rfl | ⟨r,h0,h1,rfl⟩
 ·exact .inl rfl
 ·have:decide (r < 0)=false:=by simpa using h0
  simp only[Option.bind_some,this,cond_false]
  rcases hk r h0 h1 with h | ⟨r',k0,k1,h⟩
  ·exact .inl h
  ·exact .inr ⟨r',k0,by omega,h⟩
theorem SzR.ret {left:Int} (h:0≤left):SzR (some left) left 0 := .inr ⟨left,h,by omega,rfl⟩
def Rt.sz (r:Rt):Nat:=r.mag.length+r.den.length
def Obs.sz (o:Obs):Nat:=o.value.sz+o.variance.sz
def Sta.sz (s:Sta):Nat:=s.name.size+(s.x.sz+s.y.sz)
/-! ### Copies -/
theorem zbZ {i n:Nat} (h:i < n) (hn:n≤1048576):IntKind.i64.wrap ((i:Int)+1)=((i+1:Nat):Int):=by
 rw[wrap_i64 (by omega) (by omega)]; simp
def Rt.fit (r:Rt):Prop:=r.mag.length≤1048576∧r.den.length≤1048576
def Obs.fit (o:Obs):Prop:=o.value.fit∧o.variance.fit
def Sta.fit (s:Sta):Prop:=s.x.fit∧s.y.fit
def zg8 {α:Type} (f:α→Prop) (l:List α):Prop:=l.length≤1048576∧∀ x∈l,f x
/-! ### What is measured fits -/
/-! ### Comparisons -/
theorem zL8 (a b:Nat):((a:Int) != (b:Int))=!(a==b):=by
 rw[Bool.eq_iff_iff]; simp; omega
theorem zQa {α β:Type} {a b:α} {c d:β} (h:a=b↔c=d):eqB a b=eqB c d:=by rw[Bool.eq_iff_iff,zb9,zb9]; exact h
theorem zsz (a b:Int):(a==b)=eqB a b:=by rw[Bool.eq_iff_iff,zb9]; simp
theorem zOo (a b:Int):(a != b)=!eqB a b:=by rw[← zsz]; rfl
theorem zsA (a b:Bool):(a==b)=eqB a b:=by rw[Bool.eq_iff_iff,zb9]; simp
theorem chain {x:Option Bool} {a b:Bool} {k:Option Bool} (hx:x=some a) (hk:k=some b):(x.bind fun r=>cond (!r) (some false) k)=some (a && b):=by
 subst hx; subst hk; cases a<;>rfl
theorem zuo {a b:Bool} {k:Option Bool} (hk:k=some b):cond (!a) (some false) k=some (a && b):=by
 subst hk; cases a<;>rfl
end Go.Di
namespace Go.Di
theorem find_loop {σ ρ:Type} {S:σ→Option (σ ⊕ ρ)} (st:Nat→σ) (n:Nat) (r:Nat→Option ρ) (e:ρ)
    (hS:∀ i,i < n→S (st i)=some (match r i with | some y => .inr y | none => .inl (st (i+1)))) (hE:S (st n)=some (.inr e)) :
    whileO S (st 0)=some (((List.range n).findSome? r).getD e):=by
  have key : ∀ (m i:Nat),i+m=n→(∀ j,j < i→r j=none)→whileO S (st i)=some (((List.range n).findSome? r).getD e):=by
    intro m
    induction m with
    | zero =>
      intro i him hn
      have:i=n:=by omega
      subst this
      rw[zaw hE]
      have:(List.range i).findSome? r=none:=by
        rw[List.findSome?_eq_none_iff]
        intro j hj; exact hn j (List.mem_range.1 hj)
      rw[this]; rfl
    | succ m ih =>
      intro i him hn
      have hi:i < n:=by omega
      cases hr:r i with
      | some y =>
        rw[zaw (r:=y) (by rw[hS i hi,hr])]
        have:(List.range n).findSome? r=some y:=by
          rw[List.findSome?_eq_some_iff]
          refine ⟨List.range i,i,(List.range' (i+1) m),?_,hr,fun j hj=>hn j (List.mem_range.1 hj)⟩
          rw[List.range_eq_range',List.range_eq_range',← him]
          rw[← List.range'_append_1 (s:=0) (m:=i) (n:=m+1),List.range'_succ]; simp
        rw[this]; rfl
      | none =>
        rw[za6 (y:=st (i+1)) (by rw[hS i hi,hr])]
        refine ih (i+1) (by omega) fun j hj=>?_
        by_cases h:j=i
        · subst h; exact hr
        · exact hn j (by omega)
  exact key n 0 (by omega) fun j hj=>by omega
theorem zKh {σ:Type} {S:σ→Option (σ ⊕ ((Bool × Unit) ⊕ Unit))} (st:Nat→σ) (n:Nat) (p:Nat→Bool)
    (hS:∀ i,i < n→S (st i)=some (cond (p i) (.inl (st (i+1))) (.inr (.inl (false,()))))) (hE:S (st n)=some (.inr (.inr ()))) :
    whileO S (st 0)=some (cond ((List.range n).all p) (.inr ()) (.inl (false,()))):=by
  rw[find_loop st n (fun i=>cond (p i) none (some (.inl (false,())))) (.inr ()) (fun i hi=>by rw[hS i hi]; cases p i<;>rfl) hE]
  congr 1
  cases h:(List.range n).all p with
  | true =>
    have:(List.range n).findSome? (fun i=>cond (p i) none (some (Sum.inl (β:=Unit) (false,()))))=none:=by
      rw[List.findSome?_eq_none_iff]
      intro j hj
      rw[List.all_eq_true] at h
      rw[h j hj]; rfl
    rw[this]; rfl
  | false =>
    cases hf:(List.range n).findSome? (fun i=>cond (p i) none (some (Sum.inl (β:=Unit) (false,())))) with
    | none =>
      rw[List.findSome?_eq_none_iff] at hf
      have:(List.range n).all p=true:=by
        rw[List.all_eq_true]; intro j hj
        have:=hf j hj
        cases hp:p j with
        | true=>rfl
        | false=>rw[hp] at this; cases this
      rw[this] at h; cases h
    | some y =>
      obtain ⟨j,_,hj⟩:=List.exists_of_findSome?_eq_some hf
      cases hp:p j with
      | true=>rw[hp] at hj; cases hj
      | false=>rw[hp] at hj; cases hj; rfl
theorem zOt {α:Type} {a b:List α} (hl:a.length=b.length):((List.range a.length).all fun i=>eqB a[i]? b[i]?)=eqB a b:=by
 rw[Bool.eq_iff_iff,List.all_eq_true,zb9]
 constructor
 ·intro h
  apply List.ext_getElem?
  intro i
  by_cases hi:i < a.length
  ·exact zb9.1 (h i (List.mem_range.2 hi))
  ·rw[List.getElem?_eq_none (by omega),List.getElem?_eq_none (by omega)]
 ·rintro rfl i _; exact zeY _
theorem zQb {α:Type} {a b:List α} {i:Nat} (h1:i < a.length) (h2:i < b.length):eqB a[i]? b[i]? = eqB a[i] b[i]:=by
 rw[List.getElem?_eq_getElem h1,List.getElem?_eq_getElem h2]
 exact zQa (by simp)
theorem zou {α σ:Type} {S:σ→Option (σ ⊕ ((Bool × Unit) ⊕ Unit))} {a b:List α} (st:Nat→σ) (hl:a.length=b.length)
  (hS:∀ (i:Nat) (h1:i < a.length) (h2:i < b.length),S (st i)=some (cond (eqB a[i] b[i]) (.inl (st (i+1))) (.inr (.inl (false,()))))) (hE:S (st a.length)=some (.inr (.inr ()))) :
  (whileO S (st 0)).bind (fun r=>match r with
   | .inl (t,_)=>some t
   | .inr _=>some true)=some (eqB a b):=by
 rw[zKh st a.length (fun i=>eqB a[i]? b[i]?) (fun i hi=>by rw[hS i hi (by omega),zQb hi (by omega)]) hE,zOt hl]
 cases eqB a b<;>rfl
theorem zrx {α:Type} {a b:List α} {x:Option Bool} (h:a.length=b.length→x=some (eqB a b)):cond ((a.length:Int) != (b.length:Int)) (some false) x=some (eqB a b):=by
 rw[zL8]
 by_cases hl:a.length=b.length
 ·rw[h hl]
  have:(a.length==b.length)=true:=by simpa using hl
  rw[this]; rfl
 ·have:(a.length==b.length)=false:=by simpa using hl
  rw[this]
  have hne:eqB a b=false:=by rw[zdV]; rintro rfl; exact hl rfl
  rw[hne]; rfl
theorem dlt {i n:Nat} (h:i < n):decide ((i:Int) < (n:Int))=true:=by simpa using h
theorem zo1 {a b:List Int} (ha:a.length≤1048576):zdA a b=some (eqB a b):=by
 unfold zdA ziq
 refine zrx fun hl=>?_
 exact zou (S:=zcE) (fun i=>(a,b,(a.length:Int),(i:Int),())) hl (fun i h1 h2=>by
  simp only[zcE,dlt h1,cond_true,zaT h1,zaT h2,Option.bind_some,zbZ h1 ha,zOo]
  cases eqB a[i] b[i]<;>rfl) (by simp[zcE])
theorem zn9 {a b:Bool} {k:Option Bool} (h:k=some b):cond a k (some false)=some (a && b):=by subst h; cases a<;>rfl
theorem zgd {x:Option Bool} {a b:Bool} {k:Option Bool} (hx:x=some a) (h:k=some b):(x.bind fun r=>cond r k (some false))=some (a && b):=by subst hx; subst h; cases a<;>rfl
theorem zG1 {x:Option Bool}:(x.bind fun r=>some r)=x:=by cases x<;>rfl
theorem zP9 (r s:Rt):eqB r s=(eqB r.neg s.neg && (eqB r.mag s.mag && eqB r.den s.den)):=by
 rw[Bool.eq_iff_iff,zb9]
 simp only[Bool.and_eq_true,zb9]
 cases r; cases s; simp
theorem zkc {r s:Rt} (h:r.fit):zcQ r s=some (eqB r s):=by
 unfold zcQ
 rw[zsA,zn9 (zgd (zo1 h.1) (by rw[zG1]; exact zo1 h.2)),zP9]
theorem zN8 (a b:Obs):eqB a b=(eqB a.kind b.kind && (eqB a.frm b.frm && (eqB a.to b.to && (eqB a.value b.value && eqB a.variance b.variance)))):=by
 rw[Bool.eq_iff_iff,zb9]
 simp only[Bool.and_eq_true,zb9]
 cases a; cases b; simp
theorem zBn {a b:Obs} (h:a.fit):zcT a b=some (eqB a b):=by
 unfold zcT
 rw[zsz,zsz,zsz,zn9 (zn9 (zn9 (zgd (zkc h.1) (by rw[zG1]; exact zkc h.2)))),zN8]
theorem zoY {a b:List Obs} (h:zg8 Obs.fit a):zbM a b=some (eqB a b):=by
 unfold zbM zeW
 refine zrx fun hl=>?_
 exact zou (S:=zbe) (fun i=>(a,b,(a.length:Int),(i:Int),())) hl (fun i h1 h2=>by
  simp only[zbe,dlt h1,cond_true,zaT h1,zaT h2,Option.bind_some,zbZ h1 h.1,zBn (h.2 _ (List.getElem_mem h1))]
  cases eqB a[i] b[i]<;>rfl) (by simp[zbe])
theorem zN7 (a b:Sta):eqB a b=(eqB a.name b.name && (eqB a.fixed b.fixed && (eqB a.x b.x && eqB a.y b.y))):=by
 rw[Bool.eq_iff_iff,zb9]
 simp only[Bool.and_eq_true,zb9]
 cases a; cases b; simp[and_comm,and_left_comm]
theorem zN9 (a b:Net):eqB a b=(eqB a.plane b.plane && eqB a.stations b.stations):=by
 rw[Bool.eq_iff_iff,zb9]
 simp only[Bool.and_eq_true,zb9]
 cases a; cases b; simp
theorem zBo {a b:Net} (h:zg8 Sta.fit a.stations):zdP a b=some (eqB a b):=by
 unfold zdP zgw
 rw[zsA,zuo (zrx fun hl=>?_),zN9]
 exact zou (S:=zbB) (fun i=>(a.stations,(a.stations.length:Int),(i:Int),b.plane,b.stations,())) hl (fun i h1 h2=>by
  have hf:=h.2 _ (List.getElem_mem h1)
  simp only[zbB,dlt h1,cond_true,zaT h1,zaT h2,Option.bind_some,zbZ h1 h.1,zkc hf.1,zkc hf.2,zbW,zsA,zN7 a.stations[i]]
  cases eqB a.stations[i].name b.stations[i].name<;>cases eqB a.stations[i].fixed b.stations[i].fixed<;>cases eqB a.stations[i].x b.stations[i].x<;>cases eqB a.stations[i].y b.stations[i].y<;>rfl) (by simp[zbB])
/-! ### Searches -/
theorem zhC:zc6=za4:=rfl
def zaV (l:List Sta) (name:ByteArray):Int:=((List.range l.length).findSome? fun i=>match l[i]? with
 | some e=>cond (eqB e.name name) (some (i:Int)) none
 | none=>none).getD (-1)
theorem zh5 {n:Net} {name:ByteArray} (h:n.stations.length≤1048576):za4 n name=some (zaV n.stations name):=by
  unfold za4 zgF
  have key:=find_loop (S:=zbP) (fun i=>(name,n.stations,(n.stations.length:Int),(i:Int),())) n.stations.length (fun i=>match n.stations[i]? with
    | some e=>cond (eqB e.name name) (some (Sum.inl ((i:Int),()))) none
    | none=>none) (.inr ()) (fun i hi=>by
      simp only[zbP,dlt hi,cond_true,zaT hi,Option.bind_some,zbZ hi h,zbW,List.getElem?_eq_getElem hi]
      cases eqB n.stations[i].name name<;>rfl) (by simp[zbP])
  rw[show ((0:Int))=((0:Nat):Int) from rfl,key]
  have : ∀ l:List Nat,(match (l.findSome? (fun i=>match n.stations[i]? with
      | some e=>cond (eqB e.name name) (some (Sum.inl (β:=Unit) ((i:Int),()))) none
      | none=>none)).getD (.inr ()) with
    | .inl (t,_)=>some t
    | .inr _=>some (-1))=some ((l.findSome? fun i=>match n.stations[i]? with
      | some e=>cond (eqB e.name name) (some (i:Int)) none
      | none=>none).getD (-1)):=by
    intro l
    induction l with
    | nil=>rfl
    | cons j l ih =>
      simp only[List.findSome?_cons]
      cases n.stations[j]? with
      | none=>exact ih
      | some e =>
        cases hb:eqB e.name name with
        | true=>simp[hb]
        | false=>simpa [hb] using ih
  exact this _
end Go.Di
namespace Go.Di
def Dig (xs:List Int):Prop:=∀ d∈xs,0≤d∧d < 1000000000
def nv:List Int→Int
 | []=>0
 | d :: r=>d+1000000000 * nv r
def bp (n:Nat):Int:=1000000000 ^ n
theorem zpr:bp 0=1:=rfl
theorem zfs (n:Nat):bp (n+1)=1000000000 * bp n:=by unfold bp; rw[Int.pow_succ,Int.mul_comm]
theorem zuB (m n:Nat):bp (m+n)=bp m * bp n:=by unfold bp; rw[Int.pow_add]
theorem zgq (n:Nat):0 < bp n:=by
 induction n with
 | zero=>decide
 | succ n ih=>rw[zfs]; omega
theorem zxb {m n:Nat} (h:m≤n):bp m≤bp n:=by
 induction h with
 | refl=>exact Int.le_refl _
 | step h ih=>rw[zfs]; have:=zgq; rename_i k; have:=zgq k; omega
theorem zlW (xs ys:List Int):nv (xs++ys)=nv xs+bp xs.length * nv ys:=by
  induction xs with
  | nil=>simp[nv,zpr]
  | cons d r ih =>
    simp only[List.cons_append,nv,ih,List.length_cons,zfs]
    grind
theorem zg4 (xs:List Int) (d:Int):nv (xs++[d])=nv xs+bp xs.length * d:=by
 rw[zlW]; simp[nv]
theorem Dig.nil:Dig []:=fun d h=>by cases h
theorem Dig.cons {d:Int} {r:List Int} (h:0≤d∧d < 1000000000) (hr:Dig r):Dig (d :: r):=fun e he=>by
 rcases List.mem_cons.1 he with rfl | he
 ·exact h
 ·exact hr e he
theorem Dig.head {d:Int} {r:List Int} (h:Dig (d :: r)):0≤d∧d < 1000000000:=h d (List.mem_cons_self ..)
theorem Dig.tail {d:Int} {r:List Int} (h:Dig (d :: r)):Dig r:=fun e he=>h e (List.mem_cons_of_mem _ he)
theorem Dig.append {xs ys:List Int} (h:Dig xs) (k:Dig ys):Dig (xs++ys):=fun e he=>by
 rcases List.mem_append.1 he with he | he
 ·exact h e he
 ·exact k e he
theorem Dig.snoc {xs:List Int} {d:Int} (h:Dig xs) (hd:0≤d∧d < 1000000000):Dig (xs++[d]):=h.append (Dig.cons hd Dig.nil)
theorem Dig.take {xs:List Int} (h:Dig xs) (n:Nat):Dig (xs.take n):=fun e he=>h e (List.mem_of_mem_take he)
theorem Dig.drop {xs:List Int} (h:Dig xs) (n:Nat):Dig (xs.drop n):=fun e he=>h e (List.mem_of_mem_drop he)
theorem Dig.at {xs:List Int} (h:Dig xs) {i:Nat} (hi:i < xs.length):0≤xs[i]∧xs[i] < 1000000000:=h _ (List.getElem_mem hi)
theorem Dig.zeros (n:Nat):Dig (List.replicate n 0):=fun d h=>by rw[List.eq_of_mem_replicate h]; omega
theorem zlV (n:Nat):nv (List.replicate n 0)=0:=by
 induction n with
 | zero=>rfl
 | succ n ih=>rw[List.replicate_succ,nv,ih]; rfl
theorem zbc:∀ {xs:List Int},Dig xs→0≤nv xs
 | [],_=>Int.le_refl _
 | d :: r,h=>by have:=zbc h.tail; have:=h.head; simp only[nv]; omega
theorem zrt:∀ {xs:List Int},Dig xs→nv xs < bp xs.length
 | [],_=>by simp[nv,zpr]
 | d :: r,h=>by have:=zrt h.tail; have:=h.head; simp only[nv,List.length_cons,zfs]; omega
def zpH (xs:List Int):Prop:=xs.getLast? ≠ some 0
def Can (xs:List Int):Prop:=Dig xs∧zpH xs
theorem Can.tail {d:Int} {r:List Int} (h:Can (d :: r)):Can r:=by
 refine ⟨h.1.tail,?_⟩
 cases r with
 | nil=>simp[zpH]
 | cons e r=>have:=h.2; simpa [zpH,List.getLast?_cons_cons] using this
theorem Can.zero {xs:List Int} (h:Can xs) (hv:nv xs=0):xs=[]:=by
  induction xs with
  | nil=>rfl
  | cons d r ih =>
    have h1:=zbc h.1.tail
    have h2:=h.1.head
    simp only[nv] at hv
    have h3:nv r=0:=by omega
    have h4:=ih h.tail h3
    subst h4
    have:d=0:=by omega
    subst this
    exact absurd rfl h.2
theorem Can.ext:∀ {xs ys:List Int},Can xs→Can ys→nv xs=nv ys→xs=ys
  | [],ys,_,h,hv=>(h.zero hv.symm).symm
  | d :: r,[],h,_,hv=>h.zero hv
  | d :: r,e :: s,h,k,hv=>by
    have h1:=h.1.head
    have k1:=k.1.head
    simp only[nv] at hv
    have:d=e:=by omega
    subst this
    rw[Can.ext h.tail k.tail (by omega)]
def dg (n:Nat):List Int:=if h:n=0 then [] else ((n % 1000000000:Nat):Int) :: dg (n / 1000000000)
termination_by n
decreasing_by exact Nat.div_lt_self (by omega) (by decide)
theorem zaE:dg 0=[]:=by rw[dg]; rfl
theorem zqK {n:Nat} (h:n≠0):dg n=((n % 1000000000:Nat):Int) :: dg (n / 1000000000):=by rw[dg,dif_neg h]
theorem zfh (n:Nat):Dig (dg n):=by
  induction n using Nat.strongRecOn with
  | _ n ih =>
    by_cases h:n=0
    · subst h; rw[zaE]; exact Dig.nil
    · rw[zqK h]
      exact Dig.cons (by omega) (ih _ (Nat.div_lt_self (by omega) (by decide)))
theorem zcA (n:Nat):nv (dg n)=n:=by
  induction n using Nat.strongRecOn with
  | _ n ih =>
    by_cases h:n=0
    · subst h; rw[zaE]; rfl
    · rw[zqK h,nv,ih _ (Nat.div_lt_self (by omega) (by decide))]; omega
theorem zfq {n:Nat}:dg n=[]↔n=0:=by
 constructor
 ·intro h; have:=zcA n; rw[h] at this; simp[nv] at this; omega
 ·rintro rfl; exact zaE
theorem zb7 (n:Nat):Can (dg n):=by
  refine ⟨zfh n,?_⟩
  induction n using Nat.strongRecOn with
  | _ n ih =>
    by_cases h:n=0
    · subst h; rw[zaE]; simp[zpH]
    · rw [zqK h]
      have hd:=ih _ (Nat.div_lt_self (by omega) (by decide):n / 1000000000 < n)
      cases hr:dg (n / 1000000000) with
      | nil =>
        have:=zfq.1 hr
        simp[zpH]; omega
      | cons e s=>rw[hr] at hd; simpa [zpH,List.getLast?_cons_cons] using hd
theorem Can.dg {xs:List Int} (h:Can xs):xs=dg (nv xs).toNat :=
 h.ext (zb7 _) (by rw[zcA]; have:=zbc h.1; omega)
theorem zF0 {m n:Nat} (h:dg m=dg n):m=n:=by have:=zcA m; rw[h,zcA] at this; omega
def tz (xs:List Int):List Int:=(xs.reverse.dropWhile (·==0)).reverse
theorem zra (xs:List Int) (d:Int):tz (xs++[d])=if d=0 then tz xs else xs++[d]:=by
 unfold tz
 rw[List.reverse_append]
 by_cases h:d=0
 ·simp[h]
 ·simp[h]
theorem zMA:∀ (n:Nat) (xs:List Int),xs.length=n→Dig xs→Can (tz xs)∧nv (tz xs)=nv xs:=by
  intro n
  induction n with
  | zero =>
    intro xs hl h
    have:xs=[]:=List.length_eq_zero_iff.1 hl
    subst this
    exact ⟨⟨Dig.nil,by simp[zpH,tz]⟩,rfl⟩
  | succ n ih =>
    intro xs hl h
    obtain ⟨ys,d,rfl⟩:∃ ys d,xs=ys++[d]:=⟨xs.dropLast,xs.getLast (by intro e; subst e; simp at hl),(List.dropLast_concat_getLast _).symm⟩
    rw[zra]
    have hd:=h d (by simp)
    have hy:Dig ys:=fun e he=>h e (List.mem_append_left _ he)
    split
    · rename_i h0; subst h0
      obtain ⟨k1,k2⟩:=ih ys (by simpa using hl) hy
      exact ⟨k1,by rw[k2,zg4]; omega⟩
    · rename_i h0
      exact ⟨⟨h,by simpa [zpH] using h0⟩,rfl⟩
theorem zrb {xs:List Int} (h:Dig xs):tz xs=dg (nv xs).toNat:=by
 obtain ⟨h1,h2⟩:=zMA _ xs rfl h
 rw[h1.dg,h2]
theorem zgn {n k:Nat}:(dg n).length≤k↔(n:Int) < bp k:=by
  have h1:=zrt (zfh n)
  rw[zcA] at h1
  constructor
  · intro h; have:=zxb h; omega
  · intro h
    rcases Nat.lt_or_ge k (dg n).length with hk | hk
    · exfalso
      -- the top limb is worth at least bp k
      have hne:dg n≠[]:=by intro e; rw[e] at hk; simp at hk
      have hs:=List.dropLast_concat_getLast hne
      have hv:=zg4 (dg n).dropLast ((dg n).getLast hne)
      rw[hs,zcA] at hv
      have hd:=zfh n _ (List.getLast_mem hne)
      have h0:(dg n).getLast hne≠0:=by
        intro e
        have:=(zb7 n).2
        rw[zpH,List.getLast?_eq_some_getLast hne,e] at this
        exact this rfl
      have hp:=zbc ((zfh n).take ((dg n).length - 1))
      rw[← List.dropLast_eq_take] at hp
      have hl:(dg n).dropLast.length=(dg n).length - 1:=List.length_dropLast
      have hb:=zxb (show k≤(dg n).dropLast.length by omega)
      have hq:=zgq (dg n).dropLast.length
      have:bp (dg n).dropLast.length≤bp (dg n).dropLast.length * (dg n).getLast hne:=by
        have h1:(1:Int)≤(dg n).getLast hne:=by omega
        have:=Int.mul_le_mul_of_nonneg_left h1 (Int.le_of_lt hq)
        simpa using this
      omega
    · exact hk
end Go.Di
namespace Go.Di
def pB (p:Prop):Bool:=@decide p (Classical.propDecidable _)
theorem pB_iff {p:Prop}:pB p=true↔p:=by unfold pB; exact @decide_eq_true_iff _ (Classical.propDecidable _)
theorem zlT {p q:Prop} (h:p↔q):pB p=pB q:=by rw[Bool.eq_iff_iff,pB_iff,pB_iff]; exact h
theorem pB_not {p:Prop}:pB p=false↔¬ p:=by rw[← Bool.not_eq_true,pB_iff]
theorem all_loopE {σ τ:Type} {S:σ→Option (σ ⊕ ((Bool × Unit) ⊕ τ))} (st:Nat→σ) (n:Nat) (p:Nat→Bool) (e:τ)
    (hS:∀ i,i < n→S (st i)=some (cond (p i) (.inl (st (i+1))) (.inr (.inl (false,()))))) (hE:S (st n)=some (.inr (.inr e))) :
    whileO S (st 0)=some (cond ((List.range n).all p) (.inr e) (.inl (false,()))):=by
  rw[find_loop st n (fun i=>cond (p i) none (some (.inl (false,())))) (.inr e) (fun i hi=>by rw[hS i hi]; cases p i<;>rfl) hE]
  congr 1
  cases h:(List.range n).all p with
  | true =>
    have:(List.range n).findSome? (fun i=>cond (p i) none (some (Sum.inl (β:=τ) (false,()))))=none:=by
      rw[List.findSome?_eq_none_iff]
      intro j hj
      rw[List.all_eq_true] at h
      rw[h j hj]; rfl
    rw[this]; rfl
  | false =>
    have hne:(List.range n).findSome? (fun i=>cond (p i) none (some (Sum.inl (β:=τ) (false,()))))=some (.inl (false,())):=by
      cases hf:(List.range n).findSome? (fun i=>cond (p i) none (some (Sum.inl (β:=τ) (false,())))) with
      | none =>
        rw[List.findSome?_eq_none_iff] at hf
        have:(List.range n).all p=true:=by
          rw[List.all_eq_true]
          intro j hj
          have:=hf j hj
          cases hp:p j with
          | true=>rfl
          | false=>rw[hp] at this; cases this
        rw[this] at h; cases h
      | some y =>
        obtain ⟨j,hj,hy⟩:=List.exists_of_findSome?_eq_some hf
        cases hp:p j with
        | true=>rw[hp] at hy; cases hy
        | false=>rw[hp] at hy; cases hy; rfl
    rw[hne]; rfl
def atB {α:Type} (f:α→Bool) (a:List α) (i:Nat):Bool:=((a[i]?).map f).getD true
theorem zqU {α:Type} (f:α→Bool) {a:List α} {i:Nat} (h:i < a.length):atB f a i=f a[i]:=by simp[atB,h]
theorem zmj {α:Type} (f:α→Bool) (a:List α):(List.range a.length).all (atB f a)=a.all f:=by
 rw[Bool.eq_iff_iff,List.all_eq_true,List.all_eq_true]
 constructor
 ·intro h d hd
  obtain ⟨i,hi,rfl⟩:=List.getElem_of_mem hd
  have:=h i (List.mem_range.2 hi)
  rw[zqU f hi] at this; exact this
 ·intro h i hi
  have hi:=List.mem_range.1 hi
  rw[zqU f hi]
  exact h _ (List.getElem_mem hi)
def zrS (d:Int):Bool:=decide (0≤d) && decide (d < 1000000000)
theorem zyu {a:List Int}:a.all zrS=true↔Dig a:=by
 rw[List.all_eq_true]
 constructor
 ·intro h d hd; have:=h d hd; simp[zrS] at this; exact this
 ·intro h d hd; have:=h d hd; simp[zrS]; exact this
def zgL (a:List Int):Prop:=Can a∧a.length≤60
theorem zka {a:List Int} (hn:a≠[]) (hl:a.length≤1073741824):idx a (IntKind.i64.wrap ((a.length:Int) - 1))=some (a.getLast hn):=by
 have hp:0 < a.length:=List.length_pos_iff.2 hn
 rw[wrap_i64 (by omega) (by omega)]
 have:((a.length:Int) - 1)=((a.length - 1:Nat):Int):=by omega
 rw[this,zaT (by omega)]
 rw[List.getLast_eq_getElem]
theorem spec_natOk {a:List Int} (h:a.length≤1048576):zeq a=some (pB (zgL a)):=by
  have hloop:zlp a a (a.length:Int) 0=some (cond (a.all zrS) (.inr (a,())) (.inl (false,()))):=by
    rw[← zmj]
    refine all_loopE (S:=zd0) (fun i=>(a,a,(a.length:Int),(i:Int),())) a.length (atB zrS a) (a,()) (fun i hi=>?_) (by simp[zd0])
    simp only[zd0,dlt hi,cond_true,zaT hi,Option.bind_some,zbZ hi h,zaX,zqU zrS hi]
    have e1:zrS a[i]=(decide (a[i] ≥ 0) && decide (a[i]≤999999999)):=by
      unfold zrS
      rw[Bool.eq_iff_iff]; simp; omega
    rw[e1]
    cases decide (a[i] ≥ 0)<;>cases decide (a[i]≤999999999)<;>rfl
  unfold zeq
  rw[hloop]
  · have hdig:=@zyu a
    cases hall:a.all zrS with
    | false =>
      simp only[cond_false,Option.bind_some]
      rw[hall] at hdig
      congr 1
      symm
      rw[pB_not]
      intro hk
      exact absurd (hdig.2 hk.1.1) (by simp)
    | true =>
      rw[hall] at hdig
      have hd:=hdig.1 rfl
      simp only[cond_true,Option.bind_some]
      by_cases h60:a.length≤60
      · have:decide ((a.length:Int)≤60)=true:=by simpa using (by omega:(a.length:Int)≤60)
        rw[this,cond_true]
        cases a with
        | nil=>simp[pB_iff,zgL,Can,zpH,Dig.nil]
        | cons d r =>
          have h0:(((d :: r).length:Int)==0)=false:=by simp; omega
          rw[h0,cond_false,zka (by simp) (by omega),Option.bind_some]
          congr 1
          rw[Bool.eq_iff_iff,pB_iff]
          simp only[bne_iff_ne,ne_eq,zgL,Can,zpH,hd,true_and,h60,and_true]
          rw[List.getLast?_eq_some_getLast (by simp)]
          simp
      · have:decide ((a.length:Int)≤60)=false:=by simpa using (by omega:(60:Int) < a.length)
        rw[this,cond_false]
        congr 1
        symm
        rw[pB_not]
        intro hk; exact h60 hk.2
theorem impl_natOk {a:List Int} (h:a.length≤1048576):zgv a=some (pB (zgL a)):=by
  have hloop:zgk a (a.length:Int) 0=some (cond (a.all zrS) (.inr ()) (.inl (false,()))):=by
    rw[← zmj]
    refine all_loopE (S:=zd1) (fun i=>(a,(a.length:Int),(i:Int),())) a.length (atB zrS a) () (fun i hi=>?_) (by simp[zd1])
    simp only[zd1,dlt hi,cond_true,zaT hi,Option.bind_some,zbZ hi h,zqU zrS hi]
    have e1:zrS a[i]=(!decide (a[i] < 0) && !decide (a[i] ≥ 1000000000)):=by
      unfold zrS
      rw[Bool.eq_iff_iff]; simp
    rw[e1]
    cases decide (a[i] < 0)<;>cases decide (a[i] ≥ 1000000000)<;>rfl
  have hdig:=@zyu a
  have fin:(Option.bind (zgk a (a.length:Int) 0) fun r=>match r with
      | .inl (t,_)=>some t
      | .inr _=>some true)=some (a.all zrS):=by
    rw[hloop]; cases a.all zrS<;>rfl
  unfold zgv
  by_cases h60:a.length≤60
  · have : decide ((a.length:Int) > 60)=false:=by simpa using (by omega:(a.length:Int)≤60)
    rw[this,cond_false]
    cases a with
    | nil =>
      rw[show decide ((([]:List Int).length:Int) > 0)=false from rfl,cond_false]
      refine fin.trans ?_
      congr 1; symm; rw[show ([]:List Int).all zrS=true from rfl,pB_iff]; exact ⟨⟨Dig.nil,by simp[zpH]⟩,by simp⟩
    | cons d r =>
      have h0:decide ((((d :: r).length:Nat):Int) > 0)=true:=by simp
      rw[h0,cond_true,zka (by simp) (by omega),Option.bind_some]
      have key:some (pB (zgL (d :: r)))=cond ((d :: r).getLast (by simp)==0) (some false) (some ((d :: r).all zrS)):=by
        have e:pB (zgL (d :: r))=(!((d :: r).getLast (by simp)==0) && (d :: r).all zrS):=by
          rw[Bool.eq_iff_iff,pB_iff,Bool.and_eq_true,hdig]
          simp only[zgL,Can,zpH,h60,and_true]
          rw[List.getLast?_eq_some_getLast (by simp)]
          simp[and_comm]
        rw[e]
        cases ((d :: r).getLast (by simp)==0)<;>rfl
      rw[key]
      congr 1
  · have:decide ((a.length:Int) > 60)=true:=by simpa using (by omega:(60:Int) < a.length)
    rw[this,cond_true]
    congr 1; symm; rw[pB_not]; intro hk; exact h60 hk.2
/-! ### Zeros taken away -/
theorem zsE {S:(Int × List Int × Unit)→Option ((Int × List Int × Unit) ⊕ (Int × List Int × Unit))} {a:List Int}
    (hS:∀ (i:Nat) (h:i < a.length),S (((i+1:Nat):Int),a,())=some (cond (a[i]==0) (.inl ((i:Int),a,())) (.inr (((i+1:Nat):Int),a,()))))
    (hE:S (0,a,())=some (.inr (0,a,()))):∀ m:Nat,m≤a.length→∃ k:Nat,k≤m∧a.take k=tz (a.take m)∧whileO S ((m:Int),a,())=some ((k:Int),a,()):=by
  intro m
  induction m with
  | zero=>intro _; exact ⟨0,Nat.le_refl _,by simp[tz],zaw hE⟩
  | succ m ih =>
    intro hm
    have hlt:m < a.length:=hm
    have ht:a.take (m+1)=a.take m++[a[m]]:=by rw[List.take_succ_eq_append_getElem hlt]
    cases hz:a[m]==0 with
    | true =>
      obtain ⟨k,k1,k2,k3⟩:=ih (by omega)
      refine ⟨k,by omega,?_,?_⟩
      · rw[ht,zra,if_pos (by simpa using hz)]; exact k2
      · rw[za6 (by rw[hS m hlt,hz]; rfl)]; exact k3
    | false =>
      refine ⟨m+1,Nat.le_refl _,?_,?_⟩
      · rw[ht,zra,if_neg (by simpa using hz)]
      · exact zaw (by rw[hS m hlt,hz]; rfl)
theorem zmz (n k:Nat) (h:k≤n):zah (inside n (0,(k:Int)))=some ():=by
 have:inside n (0,(k:Int))=true:=by unfold inside; simp; omega
 rw[this]; rfl
theorem zgZ {a:List Int} (h:a.length≤1073741824):zaN a=some (tz a):=by
 unfold zaN zhx
 obtain ⟨k,k1,k2,k3⟩:=zsE (S:=zci) (a:=a) (fun i hi=>by
  have e1:decide (((i+1:Nat):Int) > 0)=true:=by simp
  have e2:IntKind.i64.wrap (((i+1:Nat):Int) - 1)=(i:Int):=by rw[wrap_i64 (by omega) (by omega)]; omega
  simp only[zci,e1,cond_true,e2,zaT hi,Option.bind_some,Int.toNat_natCast,List.getElem?_eq_getElem hi]
  cases a[i]==0<;>rfl) (by simp[zci]) a.length (Nat.le_refl _)
 rw[k3]
 simp only[Option.bind_some,zmz _ _ k1,Int.toNat_natCast]
 rw[k2,List.take_length]
theorem zh3 {a:List Int} (h:a.length≤1073741824):zb8 a=some (tz a):=by
 unfold zb8 zjQ
 obtain ⟨k,k1,k2,k3⟩:=zsE (S:=zdl) (a:=a) (fun i hi=>by
  have e1:decide (((i+1:Nat):Int) > 0)=true:=by simp
  have e2:IntKind.i64.wrap (((i+1:Nat):Int) - 1)=(i:Int):=by rw[wrap_i64 (by omega) (by omega)]; omega
  simp only[zdl,e1,cond_true,e2,zaT hi,Option.bind_some,Int.toNat_natCast,List.getElem?_eq_getElem hi]
  cases a[i]==0<;>rfl) (by simp[zdl]) a.length (Nat.le_refl _)
 rw[k3]
 simp only[Option.bind_some,zmz _ _ k1,Int.toNat_natCast]
 rw[k2,List.take_length]
end Go.Di
namespace Go.Di
theorem zcz {σ ρ:Type} {S:σ→Option (σ ⊕ ρ)} (I:Nat→σ→Prop) (n:Nat) (Q:ρ→Prop)
    (hS:∀ i,i < n→∀ x,I i x→(∃ y,S x=some (.inl y)∧I (i+1) y)∨∃ r,S x=some (.inr r)∧Q r) (hE:∀ x,I n x→∃ r,S x=some (.inr r)∧Q r) {x:σ} (h0:I 0 x):∃ r,whileO S x=some r∧Q r:=by
  have key:∀ (m i:Nat) (x:σ),i+m=n→I i x→∃ r,whileO S x=some r∧Q r:=by
    intro m
    induction m with
    | zero =>
      intro i x him h
      have:i=n:=by omega
      subst this
      obtain ⟨r,h1,h2⟩:=hE x h
      exact ⟨r,zaw h1,h2⟩
    | succ m ih =>
      intro i x him h
      rcases hS i (by omega) x h with ⟨y,h1,h2⟩ | ⟨r,h1,h2⟩
      · obtain ⟨r,h3,h4⟩:=ih (i+1) y (by omega) h2
        exact ⟨r,(za6 h1).trans h3,h4⟩
      · exact ⟨r,zaw h1,h2⟩
  exact key n 0 x (by omega) h0
theorem zek {a:List Int} {i:Nat} (h:i < a.length):nv (a.take (i+1))=nv (a.take i)+bp i * a[i]:=by
 rw[List.take_succ_eq_append_getElem h,zg4]
 have:(a.take i).length=i:=by rw[List.length_take]; omega
 rw[this]
theorem zc9 {a:List Int} {i:Nat} (h:a.length≤i):nv (a.take i)=nv a:=by rw[List.take_of_length_le h]
theorem zmr {a:List Int} (h:Dig a) {i:Nat} (hi:i≤a.length):0≤nv (a.take i)∧nv (a.take i) < bp i:=by
 have h1:=zrt (h.take i)
 rw[List.length_take,Nat.min_eq_left hi] at h1
 exact ⟨zbc (h.take i),h1⟩
theorem zMd {p x y s t:Int} (hp:0 < p) (hxy:x < y) (hs:s < p) (ht:0≤t):s+p * x < t+p * y:=by
 have h1:=Int.mul_le_mul_of_nonneg_left (show x+1≤y by omega) (Int.le_of_lt hp)
 have h2:p * (x+1)=p * x+p:=by grind
 omega
theorem wrap_add {n:Int} (h1 : -1000000000000000000≤n) (h2:n≤1000000000000000000):IntKind.i64.wrap n=n:=wrap_i64 (by omega) (by omega)
theorem zlI {i n:Nat} (h:i≤n) (hn:n≤1073741824):IntKind.i64.wrap ((i:Int)+1)=((i+1:Nat):Int):=by
 rw[wrap_i64 (by omega) (by omega)]; omega
theorem room {n:Nat} (h:n≤1073741824):zah (Nat.ble n zan)=some ():=by
 have:Nat.ble n zan=true:=by rw[Nat.ble_eq]; unfold zan; omega
 rw[this]; rfl
/-! ### Compare -/
def zqO (x y:Int):Int:=if x < y then -1 else if y < x then 1 else 0
theorem Can.low {a:List Int} (h:Can a) (hn:a≠[]):bp (a.length - 1)≤nv a:=by
 have hs:=List.dropLast_concat_getLast hn
 have hv:=zg4 a.dropLast (a.getLast hn)
 rw[hs] at hv
 have h1:=h.1 _ (List.getLast_mem hn)
 have h0:a.getLast hn≠0:=by
  intro e
  have:=h.2
  rw[zpH,List.getLast?_eq_some_getLast hn,e] at this
  exact this rfl
 have hp:=zbc (h.1.take (a.length - 1))
 rw[← List.dropLast_eq_take] at hp
 have hl:a.dropLast.length=a.length - 1:=List.length_dropLast
 rw[hl] at hv
 have:=Int.mul_le_mul_of_nonneg_left (show 1≤a.getLast hn by omega) (Int.le_of_lt (zgq (a.length - 1)))
 omega
theorem Can.zFw {a b:List Int} (h:Can a) (k:Can b) (hl:a.length < b.length):nv a < nv b:=by
 have h1:=zrt h.1
 have hb:b≠[]:=by intro e; subst e; simp at hl
 have h2:=k.low hb
 have h3:=zxb (show a.length≤b.length - 1 by omega)
 omega
theorem cmp_loop {S:(List Int × List Int × Int × Unit)→Option ((List Int × List Int × Int × Unit) ⊕ ((Int × Unit) ⊕ Unit))} {a b:List Int} (hl:a.length=b.length) (ha:Dig a) (hb:Dig b)
    (hS:∀ (i:Nat) (h1:i < a.length) (h2:i < b.length),S (a,b,(i:Int),())=some (cond (decide (a[i] < b[i])) (.inr (.inl (-1,()))) (cond (decide (a[i] > b[i])) (.inr (.inl (1,()))) (.inl (a,b,(i:Int) - 1,())))))
    (hE:S (a,b,-1,())=some (.inr (.inr ()))) :
    ((whileO S (a,b,(a.length:Int) - 1,())).bind fun r=>match r with
      | .inl (t,_)=>some t
      | .inr _=>some 0)=some (zqO (nv a) (nv b)):=by
  have key : ∀ m:Nat,m≤a.length→((whileO S (a,b,(m:Int) - 1,())).bind fun r=>match r with
      | .inl (t,_)=>some t
      | .inr _=>some 0)=some (zqO (nv (a.take m)) (nv (b.take m))):=by
    intro m
    induction m with
    | zero =>
      intro _
      rw[zaw (show S (a,b,((0:Nat):Int) - 1,())=some (.inr (.inr ())) from hE)]
      simp[zqO]
    | succ m ih =>
      intro hm
      have h1:m < a.length:=hm
      have h2:m < b.length:=by omega
      have e:((m+1:Nat):Int) - 1=(m:Int):=by omega
      obtain ⟨p1,p2⟩:=zmr ha (Nat.le_of_lt h1)
      obtain ⟨q1,q2⟩:=zmr hb (Nat.le_of_lt h2)
      rw[zek h1,zek h2,e]
      by_cases hlt:a[m] < b[m]
      · rw[zaw (by rw[hS m h1 h2,decide_eq_true hlt]; rfl)]
        have:=zMd (zgq m) hlt p2 q1
        simp[zqO,this]
      · by_cases hgt:a[m] > b[m]
        · rw[zaw (by rw[hS m h1 h2,decide_eq_false hlt,decide_eq_true hgt]; rfl)]
          have:=zMd (zgq m) hgt q2 p1
          have h3:¬ (nv (a.take m)+bp m * a[m] < nv (b.take m)+bp m * b[m]):=by omega
          simp[zqO,this,h3]
        · rw[za6 (by rw[hS m h1 h2,decide_eq_false hlt,decide_eq_false hgt]; rfl),ih (by omega)]
          have:a[m]=b[m]:=by omega
          rw[this]
          congr 1
          unfold zqO
          have e1:(nv (a.take m)+bp m * b[m] < nv (b.take m)+bp m * b[m])↔nv (a.take m) < nv (b.take m):=by omega
          have e2:(nv (b.take m)+bp m * b[m] < nv (a.take m)+bp m * b[m])↔nv (b.take m) < nv (a.take m):=by omega
          simp only[e1,e2]
  have:=key a.length (Nat.le_refl _)
  rwa [List.take_length,hl,List.take_length,← hl] at this
theorem zGu {a b:List Int} (ha:Can a) (hb:Can b) {x:Option Int} (h:a.length=b.length→x=some (zqO (nv a) (nv b))) :
  cond ((a.length:Int) != (b.length:Int)) (cond (decide ((a.length:Int) < (b.length:Int))) (some (-1)) (some 1)) x=some (zqO (nv a) (nv b)):=by
 rw[zL8]
 by_cases hl:a.length=b.length
 ·have:(a.length==b.length)=true:=by simpa using hl
  rw[this]; exact h hl
 ·have:(a.length==b.length)=false:=by simpa using hl
  rw[this]
  simp only[Bool.not_false,cond_true]
  by_cases hlt:a.length < b.length
  ·rw[decide_eq_true (by omega:(a.length:Int) < (b.length:Int)),cond_true]
   have:=ha.zFw hb hlt
   simp[zqO,this]
  ·rw[decide_eq_false (by omega:¬ (a.length:Int) < (b.length:Int)),cond_false]
   have:=hb.zFw ha (by omega)
   have h3:¬ nv a < nv b:=by omega
   simp[zqO,this,h3]
theorem zlL {a b:List Int} (ha:Can a) (hb:Can b) (hl:a.length≤1073741824):zc5 a b=some (zqO (nv a) (nv b)):=by
 unfold zc5 zjM
 refine zGu ha hb fun h=>?_
 rw[wrap_i64 (by omega) (by omega)]
 refine cmp_loop (S:=zdi) h ha.1 hb.1 (fun i h1 h2=>?_) (by simp[zdi])
 simp only[zdi,show decide ((i:Int) ≥ 0)=true by simp,cond_true,zaT h1,zaT h2,Option.bind_some,wrap_i64 (show -9223372036854775808≤(i:Int) - 1 by omega) (show (i:Int) - 1≤9223372036854775807 by omega)]
 cases decide (a[i] < b[i])<;>cases decide (a[i] > b[i])<;>rfl
theorem zrG {a b:List Int} (ha:Can a) (hb:Can b) (hl:a.length≤1073741824):zeL a b=some (zqO (nv a) (nv b)):=by
 unfold zeL zjW
 refine zGu ha hb fun h=>?_
 rw[wrap_i64 (by omega) (by omega)]
 refine cmp_loop (S:=zdu) h ha.1 hb.1 (fun i h1 h2=>?_) (by simp[zdu])
 simp only[zdu,show decide ((i:Int) ≥ 0)=true by simp,cond_true,zaT h1,zaT h2,Option.bind_some,wrap_i64 (show -9223372036854775808≤(i:Int) - 1 by omega) (show (i:Int) - 1≤9223372036854775807 by omega)]
 cases decide (a[i] < b[i])<;>cases decide (a[i] > b[i])<;>rfl
/-! ### Numbers out of ints -/
theorem zAJ {S:(Int × List Int × Unit)→Option ((Int × List Int × Unit) ⊕ (List Int × Unit))}
    (hS:∀ (n:Nat) (out:List Int),0 < n→n≤9223372036854775807→out.length < 1073741824→S ((n:Int),out,())=some (.inl (((n / 1000000000:Nat):Int),out++[((n % 1000000000:Nat):Int)],())))
    (hE:∀ (n:Int) (out:List Int),n≤0→S (n,out,())=some (.inr (out,()))):∀ (n:Nat) (out:List Int),n≤9223372036854775807→out.length+n < 1073741824+9223372036854775807→out.length+(dg n).length≤1073741824→whileO S ((n:Int),out,())=some (out++dg n,()):=by
  intro n
  induction n using Nat.strongRecOn with
  | _ n ih =>
    intro out hn _ hlen
    by_cases h:n=0
    · subst h; rw[zaE,List.append_nil]; exact zaw (hE _ _ (by simp))
    · have hd:=zqK h
      rw[hd] at hlen
      simp only[List.length_cons] at hlen
      rw[za6 (hS n out (by omega) hn (by omega)),ih (n / 1000000000) (Nat.div_lt_self (by omega) (by decide)) _ (by omega) (by simp; omega) (by simp; omega),hd]
      simp
theorem zeS {n:Nat} (h:n≤9223372036854775807):(dg n).length≤3:=zgn.2 (by simp[bp]; omega)
theorem zez {n:Int} (h:n≤9223372036854775807):zcf n=some (dg n.toNat):=by
 unfold zcf zlq
 have hS:∀ (n:Nat) (out:List Int),0 < n→n≤9223372036854775807→out.length < 1073741824→zdb ((n:Int),out,())=some (.inl (((n / 1000000000:Nat):Int),out++[((n % 1000000000:Nat):Int)],())):=fun n out h0 hn hl=>by
  simp only[zdb,show decide ((n:Int) > 0)=true by simpa using h0,cond_true,room (show out.length+1≤1073741824 by omega),Option.bind_some]
  rw[Int.tdiv_eq_ediv_of_nonneg (by omega),Int.tmod_eq_emod_of_nonneg (by omega),wrap_i64 (by omega) (by omega)]
  rfl
 have hE:∀ (n:Int) (out:List Int),n≤0→zdb (n,out,())=some (.inr (out,())):=fun n out hn=>by
  simp only[zdb,show decide (n > 0)=false by simpa using hn,cond_false]
 by_cases h0:n≤0
 ·rw[zaw (hE n [] h0)]
  have:n.toNat=0:=by omega
  rw[this,zaE]; rfl
 ·have e:n=((n.toNat:Nat):Int):=by omega
  have:=zAJ hS hE n.toNat [] (by omega) (by simp; omega) (by have:=zeS (show n.toNat≤9223372036854775807 by omega); simp; omega)
  rw[← e] at this
  rw[this]; simp
theorem zh4 {n:Int} (h:n≤9223372036854775807):zeu n=some (dg n.toNat):=zez h
end Go.Di
namespace Go.Di
theorem ziC (a:List Int) (i:Nat):nv (a.take (i+1))=nv (a.take i)+bp i * (a[i]?).getD 0:=by
 by_cases h:i < a.length
 ·rw[zek h,List.getElem?_eq_getElem h]; rfl
 ·rw[zc9 (by omega),zc9 (by omega),List.getElem?_eq_none (by omega)]; simp
theorem Dig.get {a:List Int} (h:Dig a) (i:Nat):0≤(a[i]?).getD 0∧(a[i]?).getD 0 < 1000000000:=by
 by_cases hi:i < a.length
 ·rw[List.getElem?_eq_getElem hi]; exact h.at hi
 ·rw[List.getElem?_eq_none (by omega)]; simp
theorem Can.mk' {xs:List Int} (h:Dig xs) (k:xs≠[]→bp (xs.length - 1)≤nv xs):Can xs:=by
 refine ⟨h,fun hl=>?_⟩
 have hn:xs≠[]:=by intro e; subst e; simp at hl
 have hs:=List.dropLast_concat_getLast hn
 have h0:xs.getLast hn=0:=by rw[List.getLast?_eq_some_getLast hn] at hl; simpa using hl
 have hv:=zg4 xs.dropLast (xs.getLast hn)
 rw[hs,h0] at hv
 have hd:Dig xs.dropLast:=by rw[List.dropLast_eq_take]; exact h.take _
 have:=zrt hd
 rw[List.length_dropLast] at this
 have:=k hn
 omega
theorem zBw {xs:List Int} {n:Nat} (h:Can xs) (hv:nv xs=n):xs=dg n:=by rw[h.dg,hv]; simp
/-! ### Added,in the reference model -/
theorem zsP {a b out:List Int} {c:Int} {i:Nat} (ha:Dig a) (hb:Dig b) (hc:0≤c∧c≤1) (ho:out.length≤1073741000) (hi:i≤1073741000) (hgo:i < a.length∨i < b.length∨0 < c) :
  zbj (a,b,c,(i:Int),out,())=some (.inl (a,b,(c+(a[i]?).getD 0+(b[i]?).getD 0) / 1000000000,((i+1:Nat):Int),out++[(c+(a[i]?).getD 0+(b[i]?).getD 0) % 1000000000],())):=by
 have h1:=ha.get i
 have h2:=hb.get i
 have hw:=zlI (Nat.le_refl i) (by omega)
 have hr:=room (show out.length+1≤1073741824 by omega)
 by_cases hA:i < a.length<;>by_cases hB:i < b.length
 ·simp only[zbj,dlt hA,dlt hB,cond_true,zaT hA,zaT hB,Option.bind_some,hr,hw]
  rw[List.getElem?_eq_getElem hA,List.getElem?_eq_getElem hB] at *
  simp only[Option.getD_some] at *
  rw[wrap_add (n:=c+a[i]) (by omega) (by omega),wrap_add (n:=c+a[i]+b[i]) (by omega) (by omega),Int.tdiv_eq_ediv_of_nonneg (by omega),Int.tmod_eq_emod_of_nonneg (by omega),wrap_add (by omega) (by omega)]
 ·have hB':decide ((i:Int) < (b.length:Int))=false:=by simpa using hB
  simp only[zbj,dlt hA,hB',cond_true,cond_false,zaT hA,Option.bind_some,hr,hw]
  rw[List.getElem?_eq_getElem hA,List.getElem?_eq_none (by omega:b.length≤i)] at *
  simp only[Option.getD_some,Option.getD_none,Int.add_zero] at *
  rw[wrap_add (n:=c+a[i]) (by omega) (by omega),Int.tdiv_eq_ediv_of_nonneg (by omega),Int.tmod_eq_emod_of_nonneg (by omega),wrap_add (by omega) (by omega)]
 ·have hA':decide ((i:Int) < (a.length:Int))=false:=by simpa using hA
  simp only[zbj,dlt hB,hA',cond_true,cond_false,zaT hB,Option.bind_some,hr,hw]
  rw[List.getElem?_eq_getElem hB,List.getElem?_eq_none (by omega:a.length≤i)] at *
  simp only[Option.getD_some,Option.getD_none,Int.add_zero] at *
  rw[wrap_add (n:=c+b[i]) (by omega) (by omega),Int.tdiv_eq_ediv_of_nonneg (by omega),Int.tmod_eq_emod_of_nonneg (by omega),wrap_add (by omega) (by omega)]
 ·have hA':decide ((i:Int) < (a.length:Int))=false:=by simpa using hA
  have hB':decide ((i:Int) < (b.length:Int))=false:=by simpa using hB
  have hc':decide (c > 0)=true:=by simpa using (by omega:0 < c)
  simp only[zbj,hA',hB',hc',cond_true,cond_false,Option.bind_some,hr,hw]
  rw[List.getElem?_eq_none (by omega:a.length≤i),List.getElem?_eq_none (by omega:b.length≤i)] at *
  simp only[Option.getD_none,Int.add_zero] at *
  rw[Int.tdiv_eq_ediv_of_nonneg (by omega),Int.tmod_eq_emod_of_nonneg (by omega),wrap_add (by omega) (by omega)]
theorem zoq {a b out:List Int} {i:Nat} (hA:a.length≤i) (hB:b.length≤i):zbj (a,b,0,(i:Int),out,())=some (.inr (out,())):=by
 have hA':decide ((i:Int) < (a.length:Int))=false:=by simpa using hA
 have hB':decide ((i:Int) < (b.length:Int))=false:=by simpa using hB
 simp only[zbj,hA',hB',cond_false]
 rfl
structure AddI (a b:List Int) (i:Nat) (c:Int) (out:List Int):Prop where
 len:out.length=i
 dig:Dig out
 c01:0≤c∧c≤1
 val:nv out+bp i * c=nv (a.take i)+nv (b.take i)
theorem AddI.step {a b out:List Int} {c:Int} {i:Nat} (h:AddI a b i c out) (ha:Dig a) (hb:Dig b) :
  AddI a b (i+1) ((c+(a[i]?).getD 0+(b[i]?).getD 0) / 1000000000) (out++[(c+(a[i]?).getD 0+(b[i]?).getD 0) % 1000000000]):=by
 have h1:=ha.get i
 have h2:=hb.get i
 obtain ⟨hl,hd,hc,hv⟩:=h
 refine ⟨by simp[hl],hd.snoc (by omega),by omega,?_⟩
 rw[zg4,hl,ziC,ziC,zfs]
 generalize hs:c+(a[i]?).getD 0+(b[i]?).getD 0=s at *
 have hm:s=s % 1000000000+1000000000 * (s / 1000000000):=by omega
 generalize s % 1000000000=r at *
 generalize s / 1000000000=q at *
 generalize (a[i]?).getD 0=x at *
 generalize (b[i]?).getD 0=y at *
 generalize bp i=p at *
 grind
theorem spec_add {m n:Nat} (hm:(dg m).length≤1073740000) (hn:(dg n).length≤1073740000):zeJ (dg m) (dg n)=some (dg (m+n)):=by
  unfold zeJ zjN
  have ha:=zfh m
  have hb:=zfh n
  have hca:=zb7 m
  have hcb:=zb7 n
  have hva:=zcA m
  have hvb:=zcA n
  generalize dg m=a at *
  generalize dg n=b at *
  let k:=max a.length b.length
  have hk:a.length≤k∧b.length≤k∧(k=a.length∨k=b.length)∧k≤1073740000:=by omega
  obtain ⟨r,h1,h2⟩:=zcz (S:=zbj) (fun i x=>∃ c out,x=(a,b,c,(i:Int),out,())∧AddI a b i c out∧(k < i→c=0∧bp k≤nv out)) (k+1) (fun r=>∃ out,r=(out,())∧Can out∧nv out=nv a+nv b)
    (fun i hi x hx=>by
      obtain ⟨c,out,rfl,hI,hlast⟩:=hx
      by_cases hgo:i < a.length∨i < b.length∨0 < c
      · left
        refine ⟨_,zsP ha hb hI.c01 (by have:=hI.len; omega) (by omega) hgo,_,_,rfl,hI.step ha hb,fun hki=>?_⟩
        have hik:i=k:=by omega
        subst hik
        have hA:a.length≤k:=hk.1
        have hB:b.length≤k:=hk.2.1
        have hc:c=1:=by have:=hI.c01; omega
        rw[List.getElem?_eq_none hA,List.getElem?_eq_none hB]
        subst hc
        refine ⟨by simp,?_⟩
        rw[zg4,hI.len]
        have:=zbc hI.dig
        simp only[Option.getD_none,Int.add_zero]
        have e:(1:Int) % 1000000000=1:=by decide
        rw[e]; omega
      · right
        have hc:c=0:=by have:=hI.c01; omega
        subst hc
        refine ⟨_,zoq (by omega) (by omega),out,rfl,?_⟩
        have hv:=hI.val
        rw[zc9 (by omega),zc9 (by omega)] at hv
        have hik:i=k:=by omega
        refine ⟨Can.mk' hI.dig fun hne=>?_,by omega⟩
        rw[hI.len]
        have hpos:0 < i:=by
          have:=List.length_pos_iff.2 hne; have:=hI.len; omega
        rcases hk.2.2.1 with e | e
        · have:=hca.low (by intro e'; subst e'; simp at e; omega)
          have h0:=zbc hb
          rw[hik,e]; omega
        · have:=hcb.low (by intro e'; subst e'; simp at e; omega)
          have h0:=zbc ha
          rw[hik,e]; omega)
    (fun x hx=>by
      obtain ⟨c,out,rfl,hI,hlast⟩:=hx
      obtain ⟨rfl,hb'⟩:=hlast (by omega)
      refine ⟨_,zoq (by omega) (by omega),out,rfl,?_⟩
      have hv:=hI.val
      rw[zc9 (by omega),zc9 (by omega)] at hv
      exact ⟨Can.mk' hI.dig fun _=>by rw[hI.len]; simpa using hb',by omega⟩)
    (x:=(a,b,0,0,[],())) ⟨0,[],rfl,⟨rfl,Dig.nil,by omega,by simp[nv]⟩,fun h=>by omega⟩
  rw[h1]
  obtain ⟨out,rfl,h3,h4⟩:=h2
  simp only[Option.bind_some]
  rw[zBw h3 (n:=m+n) (by omega)]
end Go.Di
namespace Go.Di
theorem ztI {a b out:List Int} {c:Int} {i:Nat} (ha:Dig a) (hb:Dig b) (hc:0≤c∧c≤1) (ho:out.length≤1073741000) (hi:i < a.length) (hl:a.length≤1073741000) :
  zce (a,b,c,(a.length:Int),(i:Int),out,())=some (.inl (a,b,(c+(a[i]?).getD 0+(b[i]?).getD 0) / 1000000000,(a.length:Int),((i+1:Nat):Int),out++[(c+(a[i]?).getD 0+(b[i]?).getD 0) % 1000000000],())):=by
 have h1:=ha.get i
 have h2:=hb.get i
 have hw:=zlI (Nat.le_of_lt hi) (show a.length≤1073741824 by omega)
 have hr:=room (show out.length+1≤1073741824 by omega)
 by_cases hB:i < b.length
 ·simp only[zce,dlt hi,dlt hB,cond_true,zaT hi,zaT hB,Option.bind_some,hr,hw]
  rw[List.getElem?_eq_getElem hi,List.getElem?_eq_getElem hB] at *
  simp only[Option.getD_some] at *
  rw[wrap_add (n:=a[i]+c) (by omega) (by omega),wrap_add (n:=a[i]+c+b[i]) (by omega) (by omega)]
  by_cases hs:a[i]+c+b[i] ≥ 1000000000
  ·rw[decide_eq_true hs,cond_true,wrap_add (by omega) (by omega)]
   rw[show (c+a[i]+b[i]) / 1000000000=1 by omega,show (c+a[i]+b[i]) % 1000000000=a[i]+c+b[i] - 1000000000 by omega]
  ·rw[decide_eq_false hs,cond_false]
   rw[show (c+a[i]+b[i]) / 1000000000=0 by omega,show (c+a[i]+b[i]) % 1000000000=a[i]+c+b[i] by omega]
 ·have hB':decide ((i:Int) < (b.length:Int))=false:=by simpa using hB
  simp only[zce,dlt hi,hB',cond_true,cond_false,zaT hi,Option.bind_some,hr,hw]
  rw[List.getElem?_eq_getElem hi,List.getElem?_eq_none (by omega:b.length≤i)] at *
  simp only[Option.getD_some,Option.getD_none,Int.add_zero] at *
  rw[wrap_add (n:=a[i]+c) (by omega) (by omega)]
  by_cases hs:a[i]+c ≥ 1000000000
  ·rw[decide_eq_true hs,cond_true,wrap_add (by omega) (by omega)]
   rw[show (c+a[i]) / 1000000000=1 by omega,show (c+a[i]) % 1000000000=a[i]+c - 1000000000 by omega]
  ·rw[decide_eq_false hs,cond_false]
   rw[show (c+a[i]) / 1000000000=0 by omega,show (c+a[i]) % 1000000000=a[i]+c by omega]
theorem ztJ {a b:List Int} (ha:Dig a) (hb:Dig b) (hl:a.length≤1073741000):∃ c out,zew a b 0 (a.length:Int) 0 []=some (c,out,())∧AddI a b a.length c out:=by
 unfold zew
 obtain ⟨r,h1,c,out,rfl,h2⟩:=zcz (S:=zce) (fun i x=>∃ c out,x=(a,b,c,(a.length:Int),(i:Int),out,())∧AddI a b i c out) a.length (fun r=>∃ c out,r=(c,out,())∧AddI a b a.length c out)
  (fun i hi x hx=>by
   obtain ⟨c,out,rfl,hI⟩:=hx
   exact .inl ⟨_,ztI ha hb hI.c01 (by have:=hI.len; omega) hi hl,_,_,rfl,hI.step ha hb⟩)
  (fun x hx=>by
   obtain ⟨c,out,rfl,hI⟩:=hx
   exact ⟨_,by simp[zce],c,out,rfl,hI⟩)
  (x:=(a,b,0,(a.length:Int),0,[],())) ⟨0,[],rfl,⟨rfl,Dig.nil,by omega,by simp[nv]⟩⟩
 exact ⟨c,out,h1,h2⟩
theorem znE {a b:List Int} (ha:Can a) (hb:Can b) (hl:a.length≤1073740000) (hle:b.length≤a.length) {m:Nat} (hm:nv a+nv b=m) :
    ((zah ((decide (0≤(IntKind.i64.wrap ((a.length:Int)+1)))) && (decide ((IntKind.i64.wrap ((a.length:Int)+1))≤(zan:Int))))).bind fun _ =>
    (zew a b 0 (a.length:Int) 0 (List.replicate 0 0:List Int)).bind fun (carry,out,_) =>
    cond (decide (carry > 0))
      ((zah (Nat.ble (out.length+1) zan)).bind fun _ =>
      some (out++([1]:List Int)))
      (some out))=some (dg m):=by
  have hw:IntKind.i64.wrap ((a.length:Int)+1)=((a.length+1:Nat):Int):=zlI (Nat.le_refl _) (by omega)
  rw[hw]
  have hg:zah (decide (0≤((a.length+1:Nat):Int)) && decide (((a.length+1:Nat):Int)≤(zan:Int)))=some ():=by
    rw[decide_eq_true (by omega),decide_eq_true (by unfold zan; omega)]; rfl
  rw[hg,Option.bind_some]
  obtain ⟨c,out,h1,h2⟩:=ztJ ha.1 hb.1 (by omega)
  rw[show (List.replicate 0 0:List Int)=[] from rfl,h1,Option.bind_some]
  simp only[]
  have hv:=h2.val
  rw[zc9 (Nat.le_refl _),zc9 hle] at hv
  have hlen:=h2.len
  by_cases hc:c > 0
  · have hc1:c=1:=by have:=h2.c01; omega
    subst hc1
    rw[show decide ((1:Int) > 0)=true from rfl,cond_true,room (by omega),Option.bind_some]
    refine congrArg some ?_
    have h0:=zbc h2.dig
    refine zBw (Can.mk' (h2.dig.snoc (by omega)) fun _=>?_) ?_
    · rw[zg4,List.length_append,hlen]; simp; omega
    · rw[zg4,hlen]; omega
  · have hc0:c=0:=by have:=h2.c01; omega
    subst hc0
    rw[show decide ((0:Int) > 0)=false from rfl,cond_false]
    refine congrArg some ?_
    refine zBw (Can.mk' h2.dig fun hne=>?_) (by omega)
    have hpos:=List.length_pos_iff.2 hne
    have:=ha.low (by intro e; rw[e] at hlen; simp at hlen; exact hne hlen)
    have h0:=zbc hb.1
    rw[hlen]; omega
theorem zn2 {m n:Nat} (hm:(dg m).length≤1073740000) (hn:(dg n).length≤1073740000):zdO (dg m) (dg n)=some (dg (m+n)):=by
 unfold zdO
 by_cases h:(dg m).length < (dg n).length
 ·rw[dlt h,cond_true]
  exact znE (zb7 n) (zb7 m) hn (by omega) (by rw[zcA,zcA]; omega)
 ·rw[show decide (((dg m).length:Int) < ((dg n).length:Int))=false by simpa using h,cond_false]
  exact znE (zb7 m) (zb7 n) hm (by omega) (by rw[zcA,zcA]; omega)
/-! ### Taken away -/
structure SubI (a b:List Int) (i:Nat) (c:Int) (out:List Int):Prop where
 len:out.length=i
 dig:Dig out
 c01:0≤c∧c≤1
 val:nv out+nv (b.take i)=nv (a.take i)+bp i * c
theorem SubI.step {a b out:List Int} {c:Int} {i:Nat} (h:SubI a b i c out) (_ha:Dig a) (_hb:Dig b) {c' d:Int} (hs:d - 1000000000 * c'=(a[i]?).getD 0 - c - (b[i]?).getD 0) (hd':0≤d∧d < 1000000000) (hc':0≤c'∧c'≤1) :
  SubI a b (i+1) c' (out++[d]):=by
 obtain ⟨hl,hd,hc,hv⟩:=h
 refine ⟨by simp[hl],hd.snoc hd',hc',?_⟩
 rw[zg4,hl,ziC,ziC,zfs]
 generalize (a[i]?).getD 0=x at *
 generalize (b[i]?).getD 0=y at *
 generalize bp i=p at *
 grind
theorem SubI.fin {a b out:List Int} {c:Int} (h:SubI a b a.length c out) (ha:Dig a) (_hb:Dig b) (hle:nv b≤nv a) (hlen:b.length≤a.length) {m:Nat} (hm:nv a - nv b=m):tz out=dg m:=by
 have hv:=h.val
 rw[zc9 (Nat.le_refl _),zc9 hlen] at hv
 have h1:=zrt h.dig
 rw[h.len] at h1
 have h2:=zrt ha
 have hp:=zgq a.length
 have hc:c=0:=by
  have:=h.c01
  by_cases e:c=0
  ·exact e
  ·have:c=1:=by omega
   subst this
   omega
 subst hc
 rw[zrb h.dig]
 congr 1
 omega
theorem zsN {a b out:List Int} {c:Int} {i:Nat} (ha:Dig a) (hb:Dig b) (hI:SubI a b i c out) (hi:i < a.length) (hl:a.length≤1073741000) :
    ∃ c' out',zcb (a,b,c,(a.length:Int),(i:Int),out,())=some (.inl (a,b,c',(a.length:Int),((i+1:Nat):Int),out',()))∧SubI a b (i+1) c' out':=by
  have h1:=ha.get i
  have h2:=hb.get i
  have hc:=hI.c01
  have hw:=zlI (Nat.le_of_lt hi) (show a.length≤1073741824 by omega)
  have hr:=room (show out.length+1≤1073741824 by have:=hI.len; omega)
  have hstep:∀ c' d:Int,d - 1000000000 * c'=(a[i]?).getD 0 - c - (b[i]?).getD 0→0≤d∧d < 1000000000→0≤c'∧c'≤1→SubI a b (i+1) c' (out++[d]):=fun c' d=>hI.step ha hb
  by_cases hB:i < b.length
  · simp only[zcb,dlt hi,dlt hB,cond_true,zaT hi,zaT hB,Option.bind_some,hr,hw]
    rw[List.getElem?_eq_getElem hi,List.getElem?_eq_getElem hB] at *
    simp only[Option.getD_some] at *
    rw[wrap_add (n:=a[i] - c) (by omega) (by omega),wrap_add (n:=a[i] - c - b[i]) (by omega) (by omega)]
    by_cases hs:a[i] - c - b[i] < 0
    · rw[decide_eq_true hs,cond_true,wrap_add (by omega) (by omega)]
      exact ⟨_,_,rfl,hstep _ _ (by omega) (by omega) (by omega)⟩
    · rw[decide_eq_false hs,cond_false]
      exact ⟨_,_,rfl,hstep _ _ (by omega) (by omega) (by omega)⟩
  · have hB':decide ((i:Int) < (b.length:Int))=false:=by simpa using hB
    simp only[zcb,dlt hi,hB',cond_true,cond_false,zaT hi,Option.bind_some,hr,hw]
    rw[List.getElem?_eq_getElem hi,List.getElem?_eq_none (by omega:b.length≤i)] at *
    simp only[Option.getD_some,Option.getD_none] at *
    rw[wrap_add (n:=a[i] - c) (by omega) (by omega)]
    by_cases hs:a[i] - c < 0
    · rw[decide_eq_true hs,cond_true,wrap_add (by omega) (by omega)]
      exact ⟨_,_,rfl,hstep _ _ (by omega) (by omega) (by omega)⟩
    · rw[decide_eq_false hs,cond_false]
      exact ⟨_,_,rfl,hstep _ _ (by omega) (by omega) (by omega)⟩
theorem Can.zL4 {a b:List Int} (h:Can a) (k:Can b) (hv:nv a≤nv b):a.length≤b.length:=by
 rcases Nat.lt_or_ge b.length a.length with h1 | h1
 ·have:=k.zFw h h1; omega
 ·exact h1
theorem zrg {m n:Nat} (hm:(dg m).length≤1073740000) (hnm:n≤m):zeI (dg m) (dg n)=some (dg (m - n)):=by
 unfold zeI zjH
 have hca:=zb7 m
 have hcb:=zb7 n
 have hva:=zcA m
 have hvb:=zcA n
 generalize dg m=a at *
 generalize dg n=b at *
 have hlen:=hcb.zL4 hca (by omega)
 obtain ⟨r,h1,c,out,rfl,h2⟩:=zcz (S:=zcb) (fun i x=>∃ c out,x=(a,b,c,(a.length:Int),(i:Int),out,())∧SubI a b i c out) a.length (fun r=>∃ c out,r=(out,())∧SubI a b a.length c out)
  (fun i hi x hx=>by
   obtain ⟨c,out,rfl,hI⟩:=hx
   obtain ⟨c',out',q1,q2⟩:=zsN hca.1 hcb.1 hI hi (by omega)
   exact .inl ⟨_,q1,c',out',rfl,q2⟩)
  (fun x hx=>by
   obtain ⟨c,out,rfl,hI⟩:=hx
   exact ⟨_,by simp[zcb],c,out,rfl,hI⟩)
  (x:=(a,b,0,(a.length:Int),0,[],())) ⟨0,[],rfl,⟨rfl,Dig.nil,by omega,by simp[nv]⟩⟩
 rw[h1,Option.bind_some]
 simp only[]
 rw[zgZ (by have:=h2.len; omega),Option.bind_some,h2.fin hca.1 hcb.1 (by omega) hlen (m:=m - n) (by omega)]
end Go.Di
namespace Go.Di
theorem set_mid {a out:List Int} {i:Nat} {d:Int} (hl:out.length=i) (hi:i < a.length):(out++a.drop i).set i d=(out++[d])++a.drop (i+1):=by
 rw[List.set_append_right _ _ (by omega),hl,Nat.sub_self,List.drop_eq_getElem_cons hi,List.set_cons_zero]
 simp
theorem zN4 {a out:List Int} {i:Nat} (hl:out.length=i) (hi:i < a.length):(out++a.drop i)[i]? = some a[i]:=by
 rw[List.getElem?_append_right (by omega),hl,Nat.sub_self,List.drop_eq_getElem_cons hi]; rfl
theorem zf0 {α:Type} {xs:List α} {i:Nat} {x:α} (h:xs[i]? = some x):idx xs (i:Int)=some x:=by rw[zN2]; exact h
theorem ztH {a b out:List Int} {c:Int} {i:Nat} (ha:Dig a) (hb:Dig b) (hI:SubI a b i c out) (hi:i < a.length) (hl:a.length≤1073741000) :
    ∃ c' out',zdm (b,c,(a.length:Int),(i:Int),out++a.drop i,())=some (.inl (b,c',(a.length:Int),((i+1:Nat):Int),out'++a.drop (i+1),()))∧SubI a b (i+1) c' out':=by
  have h1:=ha.get i
  have h2:=hb.get i
  have hc:=hI.c01
  have hw:=zlI (Nat.le_of_lt hi) (show a.length≤1073741824 by omega)
  have hg:=zN4 hI.len hi
  have hstep:∀ c' d:Int,d - 1000000000 * c'=(a[i]?).getD 0 - c - (b[i]?).getD 0→0≤d∧d < 1000000000→0≤c'∧c'≤1→SubI a b (i+1) c' (out++[d]):=fun c' d=>hI.step ha hb
  by_cases hB:i < b.length
  · simp only[zdm,dlt hi,dlt hB,cond_true,zf0 hg,Int.toNat_natCast,hg,zaT hB,Option.bind_some,hw,set_mid hI.len hi]
    rw[List.getElem?_eq_getElem hi,List.getElem?_eq_getElem hB] at *
    simp only[Option.getD_some] at *
    rw[wrap_add (n:=a[i] - c) (by omega) (by omega),wrap_add (n:=a[i] - c - b[i]) (by omega) (by omega)]
    by_cases hs:a[i] - c - b[i] < 0
    · rw[decide_eq_true hs,cond_true,wrap_add (by omega) (by omega)]
      exact ⟨_,_,rfl,hstep _ _ (by omega) (by omega) (by omega)⟩
    · rw[decide_eq_false hs,cond_false]
      exact ⟨_,_,rfl,hstep _ _ (by omega) (by omega) (by omega)⟩
  · have hB':decide ((i:Int) < (b.length:Int))=false:=by simpa using hB
    simp only[zdm,dlt hi,hB',cond_true,cond_false,zf0 hg,Int.toNat_natCast,hg,Option.bind_some,hw,set_mid hI.len hi]
    rw[List.getElem?_eq_getElem hi,List.getElem?_eq_none (by omega:b.length≤i)] at *
    simp only[Option.getD_some,Option.getD_none] at *
    rw[wrap_add (n:=a[i] - c) (by omega) (by omega)]
    by_cases hs:a[i] - c < 0
    · rw[decide_eq_true hs,cond_true,wrap_add (by omega) (by omega)]
      exact ⟨_,_,rfl,hstep _ _ (by omega) (by omega) (by omega)⟩
    · rw[decide_eq_false hs,cond_false]
      exact ⟨_,_,rfl,hstep _ _ (by omega) (by omega) (by omega)⟩
theorem zrF {m n:Nat} (hm:(dg m).length≤1073740000) (hnm:n≤m):zfJ (dg m) (dg n)=some (dg (m - n)):=by
 unfold zfJ zjR za3
 have hca:=zb7 m
 have hcb:=zb7 n
 have hva:=zcA m
 have hvb:=zcA n
 generalize dg m=a at *
 generalize dg n=b at *
 have hlen:=hcb.zL4 hca (by omega)
 rw[room (by omega),Option.bind_some,Option.bind_some]
 obtain ⟨r,h1,c,out,rfl,h2⟩:=zcz (S:=zdm) (fun i x=>∃ c out,x=(b,c,(a.length:Int),(i:Int),out++a.drop i,())∧SubI a b i c out) a.length (fun r=>∃ c out,r=(out,())∧SubI a b a.length c out)
  (fun i hi x hx=>by
   obtain ⟨c,out,rfl,hI⟩:=hx
   obtain ⟨c',out',q1,q2⟩:=ztH hca.1 hcb.1 hI hi (by omega)
   exact .inl ⟨_,q1,c',out',rfl,q2⟩)
  (fun x hx=>by
   obtain ⟨c,out,rfl,hI⟩:=hx
   exact ⟨_,by simp[zdm],c,out,rfl,hI⟩)
  (x:=(b,0,(a.length:Int),0,a,())) ⟨0,[],by simp,⟨rfl,Dig.nil,by omega,by simp[nv]⟩⟩
 rw[h1,Option.bind_some]
 simp only[]
 rw[zh3 (by have:=h2.len; omega),Option.bind_some,h2.fin hca.1 hcb.1 (by omega) hlen (m:=m - n) (by omega)]
/-! ### Divided by one limb -/
structure SmallI (a:List Int) (d:Int) (i:Nat) (rest:Int) (out:List Int):Prop where
 len:out.length=a.length
 dig:Dig out
 r0:0≤rest∧rest < d
 val:nv (a.drop i)=d * nv (out.drop i)+rest
theorem zd6 {a:List Int} {i:Nat} (h:i < a.length):nv (a.drop i)=a[i]+1000000000 * nv (a.drop (i+1)):=by
 rw[List.drop_eq_getElem_cons h,nv]
theorem Dig.set {a:List Int} (h:Dig a) (i:Nat) {d:Int} (hd:0≤d∧d < 1000000000):Dig (a.set i d):=fun e he=>by
 rcases List.mem_or_eq_of_mem_set he with h1 | rfl
 ·exact h e h1
 ·exact hd
theorem SmallI.step {a out:List Int} {d rest:Int} {i:Nat} (h:SmallI a d (i+1) rest out) (ha:Dig a) (hi:i < a.length) (hd:0 < d∧d < 1000000000) :
  SmallI a d i ((rest * 1000000000+a[i]) % d) (out.set i ((rest * 1000000000+a[i]) / d)):=by
 obtain ⟨hl,hdg,hr,hv⟩:=h
 have h1:=ha.at hi
 have hq:(rest * 1000000000+a[i]) / d < 1000000000:=by
  apply Int.ediv_lt_of_lt_mul (by omega)
  have:rest * 1000000000≤(d - 1) * 1000000000:=Int.mul_le_mul_of_nonneg_right (by omega) (by omega)
  omega
 have hq0:0≤(rest * 1000000000+a[i]) / d:=Int.ediv_nonneg (by omega) (by omega)
 refine ⟨by simp[hl],hdg.set i ⟨hq0,hq⟩,⟨Int.emod_nonneg _ (by omega),Int.emod_lt_of_pos _ hd.1⟩,?_⟩
 have hio:i < (out.set i ((rest * 1000000000+a[i]) / d)).length:=by simp; omega
 rw[zd6 hi,zd6 hio,hv]
 have e1:(out.set i ((rest * 1000000000+a[i]) / d))[i]=(rest * 1000000000+a[i]) / d:=by simp
 have e2:(out.set i ((rest * 1000000000+a[i]) / d)).drop (i+1)=out.drop (i+1):=by rw[List.drop_set_of_lt (by omega)]
 rw[e1,e2]
 have hdm:=Int.mul_ediv_add_emod (rest * 1000000000+a[i]) d
 generalize (rest * 1000000000+a[i]) / d=q at *
 generalize (rest * 1000000000+a[i]) % d=r at *
 generalize nv (out.drop (i+1))=o at *
 grind
theorem zp9 {S:(List Int × Int × Int × Int × List Int × Unit)→Option ((List Int × Int × Int × Int × List Int × Unit) ⊕ (Int × List Int × Unit))} {a:List Int} {d:Int} (ha:Dig a) (hd:0 < d∧d < 1000000000)
    (hS:∀ (i:Nat) (rest:Int) (out:List Int) (h:i < a.length),out.length=a.length→0≤rest→rest < d→S (a,d,rest,(i:Int),out,())=some (.inl (a,d,(rest * 1000000000+a[i]) % d,(i:Int) - 1,out.set i ((rest * 1000000000+a[i]) / d),())))
    (hE:∀ rest out,S (a,d,rest,-1,out,())=some (.inr (rest,out,()))) :
    ∃ rest out,whileO S (a,d,0,(a.length:Int) - 1,List.replicate a.length 0,())=some (rest,out,())∧out.length=a.length∧Dig out∧0≤rest∧rest < d∧nv a=d * nv out+rest:=by
  obtain ⟨r,h1,rest,out,rfl,hI⟩:=zcz (S:=S) (fun k x=>∃ rest out,x=(a,d,rest,((a.length - k:Nat):Int) - 1,out,())∧SmallI a d (a.length - k) rest out) a.length (fun r=>∃ rest out,r=(rest,out,())∧SmallI a d 0 rest out)
    (fun k hk x hx=>by
      obtain ⟨rest,out,rfl,hI⟩:=hx
      have e:((a.length - k:Nat):Int) - 1=((a.length - (k+1):Nat):Int):=by omega
      have hi:a.length - (k+1) < a.length:=by omega
      have e2:a.length - k=(a.length - (k+1))+1:=by omega
      rw[e]
      refine .inl ⟨_,hS _ rest out hi hI.len hI.r0.1 hI.r0.2,_,_,rfl,?_⟩
      rw[e2] at hI
      exact hI.step ha hi hd)
    (fun x hx=>by
      obtain ⟨rest,out,rfl,hI⟩:=hx
      rw[Nat.sub_self] at *
      exact ⟨_,hE rest out,rest,out,rfl,hI⟩)
    (x:=(a,d,0,(a.length:Int) - 1,List.replicate a.length 0,())) ⟨0,List.replicate a.length 0,by simp,⟨by simp,Dig.zeros _,by omega,by simp[nv]⟩⟩
  exact ⟨rest,out,h1,hI.len,hI.dig,hI.r0.1,hI.r0.2,by have:=hI.val; simpa using this⟩
theorem ziE {n:Nat} (h:n≤1073741824):zah (((decide (0≤(n:Int))) && (decide ((n:Int)≤(n:Int)))) && (decide ((n:Int)≤(zan:Int))))=some ():=by
 rw[decide_eq_true (by omega:(0:Int)≤n),decide_eq_true (by omega:(n:Int)≤n),decide_eq_true (by unfold zan; omega:(n:Int)≤(zan:Int))]; rfl
theorem zxB {m:Nat} {d:Nat} {out:List Int} {rest:Int} (hd:Dig out) (h0:0≤rest) (h1:rest < d) (hv:nv (dg m)=d * nv out+rest):tz out=dg (m / d)∧rest=((m % d:Nat):Int):=by
 rw[zcA] at hv
 have hn:=zbc hd
 have hpos:(0:Int) < d:=by omega
 have e1:(m:Int) / d=nv out:=by
  rw[hv,Int.add_comm,Int.add_mul_ediv_left _ _ (by omega),Int.ediv_eq_zero_of_lt h0 h1]; omega
 have e2:(m:Int) % d=rest:=by
  rw[hv,Int.add_comm,Int.add_mul_emod_self_left,Int.emod_eq_of_lt h0 h1]
 refine ⟨?_,by rw[← e2]; simp⟩
 rw[zrb hd]
 have e3:((m / d:Nat):Int)=(m:Int) / (d:Int):=by simp
 refine congrArg dg ?_
 omega
theorem zp8 {a out:List Int} {d rest:Int} {i:Nat} (ha:Dig a) (hd:0 < d∧d < 1000000000) (h:i < a.length) (hl:a.length≤1073741824) (ho:out.length=a.length) (h0:0≤rest) (h1:rest < d) :
  zb4 (a,d,rest,(i:Int),out,())=some (.inl (a,d,(rest * 1000000000+a[i]) % d,(i:Int) - 1,out.set i ((rest * 1000000000+a[i]) / d),())):=by
 have hx:=ha.at h
 have hdn:zah (d != 0)=some ():=by
  have:(d != 0)=true:=by simp; omega
  rw[this]; rfl
 have hq0:0≤(rest * 1000000000+a[i]) / d:=Int.ediv_nonneg (by omega) (by omega)
 have hq:(rest * 1000000000+a[i]) / d < 1000000000:=by
  apply Int.ediv_lt_of_lt_mul (by omega)
  have:rest * 1000000000≤(d - 1) * 1000000000:=Int.mul_le_mul_of_nonneg_right (by omega) (by omega)
  omega
 simp only[zb4,show decide ((i:Int) ≥ 0)=true by simp,cond_true,zaT h,zaT (show i < out.length by omega),hdn,Option.bind_some,Int.toNat_natCast]
 rw[wrap_add (n:=rest * 1000000000) (by omega) (by omega),wrap_add (n:=rest * 1000000000+a[i]) (by omega) (by omega),Int.tmod_eq_emod_of_nonneg (by omega),Int.tdiv_eq_ediv_of_nonneg (by omega),wrap_add (n:=(i:Int) - 1) (by omega) (by omega),wrap_add (by omega) (by omega)]
theorem zAn {m d:Nat} (hm:(dg m).length≤1073740000) (hd:0 < d∧d < 1000000000):zfD (dg m) (d:Int)=some (dg (m / d),((m % d:Nat):Int)):=by
 unfold zfD zii
 have ha:=zfh m
 rw[ziE (by omega),Option.bind_some,Int.toNat_natCast,wrap_i64 (by omega) (by omega)]
 obtain ⟨rest,out,h1,h2,h3,h4,h5,h6⟩:=zp9 (S:=zb4) (d:=(d:Int)) ha (by omega) (fun i rest out h ho h0 h1=>zp8 ha (by omega) h (by omega) ho h0 h1) (by simp[zb4])
 rw[h1,Option.bind_some]
 try simp only[]
 obtain ⟨e1,e2⟩:=zxB h3 h4 h5 h6
 rw[zgZ (by omega),Option.bind_some,e1,e2]
theorem zqB {m d:Nat} (hm:(dg m).length≤1073740000) (hd:0 < d∧d < 1000000000):zes (dg m) (d:Int)=some (dg (m / d),dg (m % d)):=by
 unfold zes zir
 have ha:=zfh m
 rw[ziE (by omega),Option.bind_some,Int.toNat_natCast,wrap_i64 (by omega) (by omega)]
 obtain ⟨rest,out,h1,h2,h3,h4,h5,h6⟩:=zp9 (S:=zdv) (d:=(d:Int)) ha (by omega) (fun i rest out h ho h0 h1=>zp8 ha (by omega) h (by omega) ho h0 h1) (by simp[zdv])
 rw[h1,Option.bind_some]
 simp only[]
 obtain ⟨e1,e2⟩:=zxB h3 h4 h5 h6
 have:m % d < d:=Nat.mod_lt _ hd.1
 rw[zh3 (by omega),Option.bind_some,e1,e2,zh4 (by omega),Option.bind_some,Int.toNat_natCast]
end Go.Di
namespace Go.Di
theorem zoI:∀ {xs:List Int} {i:Nat} {d:Int} (h:i < xs.length),nv (xs.set i d)=nv xs+bp i * (d - xs[i])
  | x :: r,0,d,h=>by simp[nv,zpr]; omega
  | x :: r,i+1,d,h=>by
    have hi:i < r.length:=by simpa using h
    rw[List.set_cons_succ,nv,zoI hi,zfs,nv]
    have:(x :: r)[i+1]=r[i]:=rfl
    rw[this]
    generalize bp i=p
    generalize nv r=v
    grind
structure MulI (b out0:List Int) (i:Nat) (x:Int) (j:Nat) (c:Int) (out:List Int):Prop where
 len:out.length=out0.length
 dig:Dig out
 c0:0≤c∧c < 1000000000
 rest:∀ k,i+b.length≤k→out[k]? = out0[k]?
 val:nv out+bp (i+j) * c=nv out0+bp i * (x * nv (b.take j))
theorem zs6 {e x y c:Int} (he:0≤e∧e < 1000000000) (hx:0≤x∧x < 1000000000) (hy:0≤y∧y < 1000000000) (hc:0≤c∧c < 1000000000):0≤x * y∧x * y≤999999998000000001∧0≤e+x * y+c∧e+x * y+c < 1000000000000000000:=by
 have h0:=Int.mul_nonneg hx.1 hy.1
 have h1:x * y≤999999999 * 999999999:=Int.mul_le_mul (by omega) (by omega) hy.1 (by omega)
 omega
theorem MulI.step {b out0 out:List Int} {i j:Nat} {x c:Int} (h:MulI b out0 i x j c out) (hb:Dig b) (hx:0≤x∧x < 1000000000) (hj:j < b.length) (hk:i+j < out.length) :
  MulI b out0 i x (j+1) ((out[i+j]+x * b[j]+c) / 1000000000) (out.set (i+j) ((out[i+j]+x * b[j]+c) % 1000000000)):=by
 obtain ⟨hl,hd,hc,hr,hv⟩:=h
 have he:=hd.at hk
 have hy:=hb.at hj
 obtain ⟨_,_,h3,h4⟩:=zs6 he hx hy hc
 refine ⟨by simp[hl],hd.set _ (by omega),by omega,fun k hk'=>?_,?_⟩
 ·rw[List.getElem?_set_ne (by omega)]; exact hr k hk'
 ·rw[zoI hk,zek hj,show i+(j+1)=(i+j)+1 from rfl,zfs,zuB] at *
  generalize hn:out[i+j]+x * b[j]+c=n at *
  have hm:n=n % 1000000000+1000000000 * (n / 1000000000):=by omega
  generalize n % 1000000000=r at *
  generalize n / 1000000000=q at *
  generalize out[i+j]=e at *
  generalize b[j]=y at *
  generalize nv (b.take j)=v at *
  generalize bp i=p at *
  generalize bp j=p' at *
  grind
def zHf (S:(List Int × Int × Int × Int × List Int × Int × Int × List Int × Int × Int × List Int × Unit)→Option ((List Int × Int × Int × Int × List Int × Int × Int × List Int × Int × Int × List Int × Unit) ⊕ (List Int × Int × Int × List Int × Int × Int × List Int × Unit))):Prop :=
  (∀ (b t out:List Int) (i j:Nat) (x c t1 t2:Int) (hj:j < b.length) (hk:i+j < out.length),Dig b→Dig out→0≤x∧x < 1000000000→0≤c∧c < 1000000000→out.length≤1073741824 →
    S (b,(i:Int),x,c,t,t1,t2,b,(b.length:Int),(j:Int),out,())=some (.inl (b,(i:Int),x,(out[i+j]+x * b[j]+c) / 1000000000,t,t1,t2,b,(b.length:Int),((j+1:Nat):Int),out.set (i+j) ((out[i+j]+x * b[j]+c) % 1000000000),()))) ∧
  ∀ (b t out:List Int) (i x c t1 t2:Int),S (b,i,x,c,t,t1,t2,b,(b.length:Int),(b.length:Int),out,())=some (.inr (b,i,c,t,t1,t2,out,()))
theorem zqz:zHf zdg:=by
 refine ⟨fun b t out i j x c t1 t2 hj hk hb ho hx hc hl=>?_,fun b t out i x c t1 t2=>by simp[zdg]⟩
 obtain ⟨h1,h2,h3,h4⟩:=zs6 (ho.at hk) hx (hb.at hj) hc
 have he:=ho.at hk
 have e1:IntKind.i64.wrap ((i:Int)+(j:Int))=((i+j:Nat):Int):=by rw[wrap_i64 (by omega) (by omega)]; omega
 have e2:IntKind.i64.wrap ((j:Int)+1)=((j+1:Nat):Int):=by rw[wrap_i64 (by omega) (by omega)]; omega
 simp only[zdg,dlt hj,cond_true,zaT hj,e1,zaT hk,Int.toNat_natCast,List.getElem?_eq_getElem hk,Option.bind_some,e2]
 rw [wrap_add (n:=x * b[j]) (by omega) (by omega),wrap_add (n:=out[i+j]+x * b[j]) (by omega) (by omega),wrap_add (n:=out[i+j]+x * b[j]+c) (by omega) (by omega),
  Int.tdiv_eq_ediv_of_nonneg h3,Int.tmod_eq_emod_of_nonneg h3,wrap_add (by omega) (by omega)]
theorem zBk:zHf zfx:=zqz
theorem zqA {S:(List Int × Int × Int × Int × List Int × Int × Int × List Int × Int × Int × List Int × Unit)→Option ((List Int × Int × Int × Int × List Int × Int × Int × List Int × Int × Int × List Int × Unit) ⊕ (List Int × Int × Int × List Int × Int × Int × List Int × Unit))} (hS:zHf S)
    {b t out0:List Int} {i:Nat} {x t1 t2:Int} (hb:Dig b) (hd:Dig out0) (hx:0≤x∧x < 1000000000) (hl:out0.length≤1073741824) (hfit:i+b.length≤out0.length) :
    ∃ c out,whileO S (b,(i:Int),x,0,t,t1,t2,b,(b.length:Int),0,out0,())=some (b,(i:Int),c,t,t1,t2,out,())∧MulI b out0 i x b.length c out:=by
  obtain ⟨r,h1,c,out,rfl,h2⟩:=zcz (S:=S) (fun j y=>∃ c out,y=(b,(i:Int),x,c,t,t1,t2,b,(b.length:Int),(j:Int),out,())∧MulI b out0 i x j c out) b.length (fun r=>∃ c out,r=(b,(i:Int),c,t,t1,t2,out,())∧MulI b out0 i x b.length c out)
    (fun j hj y hy=>by
      obtain ⟨c,out,rfl,hI⟩:=hy
      have hk:i+j < out.length:=by rw[hI.len]; omega
      exact .inl ⟨_,hS.1 b t out i j x c t1 t2 hj hk hb hI.dig hx hI.c0 (by rw[hI.len]; exact hl),_,_,rfl,hI.step hb hx hj hk⟩)
    (fun y hy=>by
      obtain ⟨c,out,rfl,hI⟩:=hy
      exact ⟨_,hS.2 b t out i x c t1 t2,c,out,rfl,hI⟩)
    (x:=(b,(i:Int),x,0,t,t1,t2,b,(b.length:Int),0,out0,())) ⟨0,out0,rfl,⟨rfl,hd,by omega,fun _ _=>rfl,by simp[nv]⟩⟩
  exact ⟨c,out,h1,h2⟩
structure OutI (a b:List Int) (i:Nat) (out:List Int):Prop where
 len:out.length=a.length+b.length
 dig:Dig out
 zero:∀ k,i+b.length≤k→k < out.length→out[k]? = some 0
 val:nv out=nv (a.take i) * nv b
theorem OutI.step {a b out0 out:List Int} {i:Nat} {c:Int} (h:OutI a b i out0) (hi:i < a.length) (hm:MulI b out0 i a[i] b.length c out) :
  out[i+b.length]? = some 0∧OutI a b (i+1) (out.set (i+b.length) c):=by
 have hlen:i+b.length < out.length:=by rw[hm.len,h.len]; omega
 have hz:out[i+b.length]? = some 0:=by rw[hm.rest _ (Nat.le_refl _)]; exact h.zero _ (Nat.le_refl _) (by rw[h.len]; omega)
 have hz':out[i+b.length]=0:=by rw[List.getElem?_eq_getElem hlen] at hz; simpa using hz
 refine ⟨hz,by simp[hm.len,h.len],hm.dig.set _ hm.c0,fun k hk hk'=>?_,?_⟩
 ·rw[List.getElem?_set_ne (by omega),hm.rest k (by omega)]
  exact h.zero k (by omega) (by rw[List.length_set,hm.len] at hk'; exact hk')
 ·rw[zoI hlen,hz']
  have hv:=hm.val
  rw[h.val,List.take_length] at hv
  rw[zek hi]
  generalize bp (i+b.length)=q at *
  generalize bp i=p at *
  generalize nv (a.take i)=u at *
  generalize nv b=v at *
  generalize a[i]=x at *
  grind
theorem zc0 {m n:Nat} (hm:(dg m).length≤500000000) (hn:(dg n).length≤500000000):zaA (dg m) (dg n)=some (dg (m * n)):=by
 unfold zaA
 have ha:=zfh m
 have hb:=zfh n
 have hva:=zcA m
 have hvb:=zcA n
 by_cases hm0:m=0
 ·subst hm0; rw[zaE]; simp[zaE]
 by_cases hn0:n=0
 ·subst hn0; rw[zaE]; cases (((dg m).length:Int)==0)<;>simp[zaE]
 have ea:(((dg m).length:Int)==0)=false:=by have:=List.length_pos_iff.2 (fun e=>hm0 (zfq.1 e)); rw[beq_eq_false_iff_ne]; omega
 have eb:(((dg n).length:Int)==0)=false:=by have:=List.length_pos_iff.2 (fun e=>hn0 (zfq.1 e)); rw[beq_eq_false_iff_ne]; omega
 rw[ea,eb,cond_false,cond_false]
 generalize dg m=a at *
 generalize dg n=b at *
 have ew:IntKind.i64.wrap ((a.length:Int)+(b.length:Int))=((a.length+b.length:Nat):Int):=by rw[wrap_i64 (by omega) (by omega)]; omega
 rw[ew,ziE (by omega),Option.bind_some,Int.toNat_natCast]
 unfold zjJ
 obtain ⟨r,h1,out,rfl,hI⟩:=zcz (S:=zdh) (fun i y=>∃ out,y=(b,a,(a.length:Int),(i:Int),out,())∧OutI a b i out) a.length (fun r=>∃ out,r=(out,())∧OutI a b a.length out)
  (fun i hi y hy=>by
   obtain ⟨out0,rfl,hI⟩:=hy
   obtain ⟨c,out,q1,q2⟩:=zqA zqz (t:=a) (t1:=(a.length:Int)) (t2:=(i:Int)) (i:=i) (x:=a[i]) hb hI.dig (ha.at hi) (by rw[hI.len]; omega) (by rw[hI.len]; omega)
   obtain ⟨hz,hI'⟩:=hI.step hi q2
   left
   refine ⟨_,?_,_,rfl,hI'⟩
   have e1:IntKind.i64.wrap ((i:Int)+(b.length:Int))=((i+b.length:Nat):Int):=by rw[wrap_i64 (by omega) (by omega)]; omega
   have e2:IntKind.i64.wrap ((i:Int)+1)=((i+1:Nat):Int):=by rw[wrap_i64 (by omega) (by omega)]; omega
   simp only[zdh,zjI,dlt hi,cond_true,zaT hi,Option.bind_some,q1,e1,zf0 hz,Int.toNat_natCast,e2])
  (fun y hy=>by
   obtain ⟨out,rfl,hI⟩:=hy
   exact ⟨_,by simp[zdh],out,rfl,hI⟩)
  (x:=(b,a,(a.length:Int),0,List.replicate (a.length+b.length) 0,())) ⟨_,rfl,⟨by simp,Dig.zeros _,fun k _ hk=>by simp at hk; simp[hk],by simp[nv,zlV]⟩⟩
 rw[h1,Option.bind_some]
 simp only[]
 rw[zgZ (by rw[hI.len]; omega),Option.bind_some,zrb hI.dig,hI.val,List.take_length,hva,hvb]
 rfl
theorem zkd {m n:Nat} (hm:(dg m).length≤500000000) (hn:(dg n).length≤500000000):zbL (dg m) (dg n)=some (dg (m * n)):=by
 unfold zbL
 have ha:=zfh m
 have hb:=zfh n
 have hva:=zcA m
 have hvb:=zcA n
 generalize dg m=a at *
 generalize dg n=b at *
 have ew:IntKind.i64.wrap ((a.length:Int)+(b.length:Int))=((a.length+b.length:Nat):Int):=by rw[wrap_i64 (by omega) (by omega)]; omega
 rw[ew,ziE (by omega),Option.bind_some,Int.toNat_natCast]
 unfold zjT
 obtain ⟨r,h1,out,rfl,hI⟩:=zcz (S:=zdn) (fun i y=>∃ out,y=(b,a,(a.length:Int),(i:Int),out,())∧OutI a b i out) a.length (fun r=>∃ out,r=(out,())∧OutI a b a.length out)
  (fun i hi y hy=>by
   obtain ⟨out0,rfl,hI⟩:=hy
   obtain ⟨c,out,q1,q2⟩:=zqA zBk (t:=a) (t1:=(a.length:Int)) (t2:=(i:Int)) (i:=i) (x:=a[i]) hb hI.dig (ha.at hi) (by rw[hI.len]; omega) (by rw[hI.len]; omega)
   obtain ⟨hz,hI'⟩:=hI.step hi q2
   left
   have hc:=q2.c0
   refine ⟨_,?_,_,rfl,hI'⟩
   have e1:IntKind.i64.wrap ((i:Int)+(b.length:Int))=((i+b.length:Nat):Int):=by rw[wrap_i64 (by omega) (by omega)]; omega
   have e2:IntKind.i64.wrap ((i:Int)+1)=((i+1:Nat):Int):=by rw[wrap_i64 (by omega) (by omega)]; omega
   have e3:IntKind.i64.wrap (0+c)=c:=by rw[wrap_i64 (by omega) (by omega)]; omega
   simp only[zdn,zjS,dlt hi,cond_true,zaT hi,Option.bind_some,q1,e1,zf0 hz,Int.toNat_natCast,hz,e2,e3])
  (fun y hy=>by
   obtain ⟨out,rfl,hI⟩:=hy
   exact ⟨_,by simp[zdn],out,rfl,hI⟩)
  (x:=(b,a,(a.length:Int),0,List.replicate (a.length+b.length) 0,())) ⟨_,rfl,⟨by simp,Dig.zeros _,fun k _ hk=>by simp at hk; simp[hk],by simp[nv,zlV]⟩⟩
 rw[h1,Option.bind_some]
 simp only[]
 rw[zh3 (by rw[hI.len]; omega),Option.bind_some,zrb hI.dig,hI.val,List.take_length,hva,hvb]
 rfl
end Go.Di
namespace Go.Di
theorem zcI {σ ρ:Type} {S:σ→Option (σ ⊕ ρ)} (I:σ→Prop) (μ:σ→Nat) (Q:ρ→Prop)
    (h:∀ x,I x→(∃ y,S x=some (.inl y)∧I y∧μ y < μ x)∨∃ r,S x=some (.inr r)∧Q r):∀ {x:σ},I x→∃ r,whileO S x=some r∧Q r:=by
  have key:∀ (n:Nat) (x:σ),μ x=n→I x→∃ r,whileO S x=some r∧Q r:=by
    intro n
    induction n using Nat.strongRecOn with
    | _ n ih =>
      intro x hn hI
      rcases h x hI with ⟨y,h1,h2,h3⟩ | ⟨r,h1,h2⟩
      · obtain ⟨r,h4,h5⟩:=ih (μ y) (by omega) y rfl h2
        exact ⟨r,(za6 h1).trans h4,h5⟩
      · exact ⟨r,zaw h1,h2⟩
  exact fun {x} hI=>key _ x rfl hI
theorem zaG {m n:Nat} (h:m≤n):(dg m).length≤(dg n).length:=zgn.2 (by have:=(zgn (n:=n)).1 (Nat.le_refl _); omega)
theorem zj9 (m n:Nat):(dg (m * n)).length≤(dg m).length+(dg n).length:=by
 rw[zgn,zuB]
 have h1:=(zgn (n:=m)).1 (Nat.le_refl _)
 have h2:=(zgn (n:=n)).1 (Nat.le_refl _)
 have h3:=zgq (dg m).length
 have h4:=zgq (dg n).length
 have:((m * n:Nat):Int)=(m:Int) * (n:Int):=by simp
 rw[this]
 by_cases hn:n=0
 ·subst hn; simp; exact Int.mul_pos h3 h4
 ·calc (m:Int) * n < bp (dg m).length * n:=Int.mul_lt_mul_of_pos_right h1 (by omega)
   _≤bp (dg m).length * bp (dg n).length:=Int.mul_le_mul_of_nonneg_left (by omega) (by omega)
theorem zOl {x y:Int}:decide (zqO x y≤0)=decide (x≤y):=by
 unfold zqO
 split
 ·simp; omega
 ·split<;>simp<;>omega
theorem zGv {x y:Int}:decide (zqO x y < 0)=decide (x < y):=by
 unfold zqO
 split
 ·simp; omega
 ·split<;>simp<;>omega
theorem zsu {x y:Int}:decide (zqO x y ≥ 0)=decide (y≤x):=by
 unfold zqO
 split
 ·simp; omega
 ·split<;>simp<;>omega
theorem spec_digit {r b:Nat} (_hr:(dg r).length≤400000000) (hb:(dg b).length≤400000000) (h0:0 < b) (hlt:r < 1000000000 * b):zfG (dg r) (dg b)=some ((r / b:Nat):Int):=by
  unfold zfG zik
  have hq:r / b < 1000000000:=Nat.div_lt_of_lt_mul (by rw[Nat.mul_comm]; exact hlt)
  obtain ⟨y, h1,h2⟩:=zcI (S:=zcC) (fun x=>∃ lo hi:Nat,x=(dg r,dg b,(lo:Int),(hi:Int),())∧lo≤r / b∧r / b≤hi∧hi≤999999999) (fun x=>(x.2.2.2.1 - x.2.2.1).toNat) (fun y=>y=(((r / b:Nat):Int),()))
    (fun x hx=>by
      obtain ⟨lo,hi,rfl,k1,k2,k3⟩:=hx
      by_cases hlh:lo < hi
      · left
        have hq:IntKind.i64.wrap ((IntKind.i64.wrap ((IntKind.i64.wrap ((lo:Int)+hi))+1)).tdiv 2)=(((lo+hi+1) / 2:Nat):Int):=by
          rw[wrap_add (n:=(lo:Int)+hi) (by omega) (by omega),wrap_add (n:=(lo:Int)+hi+1) (by omega) (by omega),Int.tdiv_eq_ediv_of_nonneg (by omega),wrap_add (by omega) (by omega)]
          omega
        have hm:(lo+hi+1) / 2≤999999999:=by omega
        have hl3:=zeS (show (lo+hi+1) / 2≤9223372036854775807 by omega)
        have hml:=zj9 b ((lo+hi+1) / 2)
        have hcmp:=zlL (zb7 (b * ((lo+hi+1) / 2))) (zb7 r) (by omega)
        rw[zcA,zcA] at hcmp
        generalize hmid:(lo+hi+1) / 2=q at *
        have hqb:0 < q:=by omega
        simp only[zcC,show decide ((lo:Int) < (hi:Int))=true by simpa using hlh,cond_true,hq,zez (show (q:Int)≤9223372036854775807 by omega),Int.toNat_natCast,Option.bind_some,zc0 (show (dg b).length≤500000000 by omega) (show (dg q).length≤500000000 by omega),hcmp,zOl]
        by_cases hle:b * q≤r
        · have hd:decide (((b * q:Nat):Int)≤(r:Int))=true:=by simpa using (by exact_mod_cast hle:((b * q:Nat):Int)≤(r:Int))
          rw[hd,cond_true]
          refine ⟨_,rfl,⟨q,hi,rfl,?_,k2,k3⟩,by simp; omega⟩
          exact (Nat.le_div_iff_mul_le h0).2 (by rw[Nat.mul_comm]; exact hle)
        · have hd:decide (((b * q:Nat):Int)≤(r:Int))=false:=by
            rw[decide_eq_false_iff_not]; intro hh; exact hle (by exact_mod_cast hh)
          rw[hd,cond_false]
          have e:IntKind.i64.wrap ((q:Int) - 1)=((q - 1:Nat):Int):=by rw[wrap_add (by omega) (by omega)]; omega
          rw[e]
          refine ⟨_,rfl,⟨lo,q - 1,rfl,k1,?_,by omega⟩,by simp; omega⟩
          have:r / b < q:=(Nat.div_lt_iff_lt_mul h0).2 (by rw[Nat.mul_comm]; omega)
          omega
      · right
        have hlo:lo=r / b:=by omega
        have hd:decide ((lo:Int) < (hi:Int))=false:=by simpa using hlh
        refine ⟨((lo:Int),()),?_,by rw[hlo]⟩
        simp only[zcC,hd,cond_false])
    (x:=(dg r,dg b,0,999999999,())) ⟨0,999999999,rfl,Nat.zero_le _,by omega,by omega⟩
  rw[h1,h2]; rfl
end Go.Di
namespace Go.Di
structure DivI (a:List Int) (n:Nat) (i:Nat) (out:List Int) (rv:Nat):Prop where
 len:out.length=a.length
 dig:Dig out
 zero:∀ k,k < i→k < a.length→out[k]? = some 0
 lt:rv < n
 val:nv (a.drop i)=n * nv (out.drop i)+rv
theorem zAI {q:Nat} (h:q < 1000000000):(q:Int) < 1000000000:=by omega
theorem DivI.step {a out:List Int} {n i rv:Nat} (h:DivI a n (i+1) out rv) (ha:Dig a) (hi:i < a.length) (hn:0 < n) {x:Nat} (hx:(x:Int)=a[i]+1000000000 * rv) :
  DivI a n i (out.set i ((x / n:Nat):Int)) (x % n):=by
 obtain ⟨hl,hd,hz,hlt,hv⟩:=h
 have h1:=ha.at hi
 have hxlt:x < 1000000000 * n:=by
  have:1000000000 * (rv:Int)≤1000000000 * ((n:Int) - 1):=Int.mul_le_mul_of_nonneg_left (by omega) (by omega)
  omega
 have hq:x / n < 1000000000:=Nat.div_lt_of_lt_mul (by rw[Nat.mul_comm]; exact hxlt)
 have hq0:0≤((x / n:Nat):Int)∧((x / n:Nat):Int) < 1000000000:=⟨Int.natCast_nonneg _,zAI hq⟩
 refine ⟨by simp[hl],hd.set i hq0,fun k hk hk'=>?_,Nat.mod_lt _ hn,?_⟩
 ·rw[List.getElem?_set_ne (by omega)]; exact hz k (by omega) hk'
 ·have hio:i < (out.set i ((x / n:Nat):Int)).length:=by simp; omega
  rw[zd6 hi,zd6 hio,hv]
  have e1:(out.set i ((x / n:Nat):Int))[i]=((x / n:Nat):Int):=by simp
  have e2:(out.set i ((x / n:Nat):Int)).drop (i+1)=out.drop (i+1):=by rw[List.drop_set_of_lt (by omega)]
  rw[e1,e2]
  have hdm:(n:Int) * ((x / n:Nat):Int)+((x % n:Nat):Int)=(x:Int):=by exact_mod_cast Nat.div_add_mod x n
  generalize ((x / n:Nat):Int)=q at *
  generalize ((x % n:Nat):Int)=r at *
  generalize nv (out.drop (i+1))=o at *
  grind
theorem zrk {out:List Int} {i:Nat} (h:out[i]? = some 0):out.set i 0=out:=by
 apply List.ext_getElem?
 intro j
 rw[List.getElem?_set]
 split
 ·rename_i e; subst e
  split
  ·exact h.symm
  ·rename_i hn; rw[List.getElem?_eq_none (by omega)] at h; cases h
 ·rfl
theorem zsO {a out:List Int} {n i rv:Nat} (hI:DivI a n (i+1) out rv) (ha:Dig a) (hi:i < a.length) (hn:0 < n) (hl:a.length≤100000000) (hln:(dg n).length≤100000000) :
    ∃ out' rv',zcN (a,dg n,(i:Int),out,dg rv,())=some (.inl (a,dg n,(i:Int) - 1,out',dg rv',()))∧DivI a n i out' rv':=by
  have h1:=ha.at hi
  let x:Nat:=a[i].toNat+1000000000 * rv
  have hx:(x:Int)=a[i]+1000000000 * rv:=by simp only[x]; omega
  have hxlt:x < 1000000000 * n:=by
    have:=hI.lt
    have:1000000000 * (rv:Int)≤1000000000 * ((n:Int) - 1):=Int.mul_le_mul_of_nonneg_left (by omega) (by omega)
    omega
  have hr:=zaG (Nat.le_of_lt hI.lt)
  have htz:tz ([a[i]]++dg rv)=dg x:=by
    rw[zrb (Dig.append (Dig.cons h1 Dig.nil) (zfh rv)),zlW,zcA]
    refine congrArg dg ?_
    simp only[nv,List.length_cons,List.length_nil,zfs,zpr]
    omega
  have hxl:(dg x).length≤(dg n).length+2:=by
    have h2:=zaG (Nat.le_of_lt hxlt)
    have h3:=zj9 1000000000 n
    have h4:(dg 1000000000).length≤2:=zgn.2 (by simp[bp])
    omega
  refine ⟨out.set i ((x / n:Nat):Int),x % n,?_,hI.step ha hi hn hx⟩
  have hcmp:=zlL (zb7 x) (zb7 n) (by omega)
  rw[zcA,zcA] at hcmp
  have e0:IntKind.i64.wrap ((i:Int) - 1)=(i:Int) - 1:=wrap_add (by omega) (by omega)
  have hz:=hI.zero i (by omega) hi
  simp only[zcN,show decide ((i:Int) ≥ 0)=true by simp,cond_true,zaT hi,room (show 1+(dg rv).length≤1073741824 by omega),Option.bind_some,zgZ (show ([a[i]]++dg rv).length≤1073741824 by simp; omega),htz,hcmp,zGv,e0]
  by_cases hlt:x < n
  · have hd:decide ((x:Int) < (n:Int))=true:=by simpa using hlt
    rw[hd,cond_true,Nat.div_eq_of_lt hlt,Nat.mod_eq_of_lt hlt]
    rw[show ((0:Nat):Int)=0 from rfl,zrk hz]
  · have hd:decide ((x:Int) < (n:Int))=false:=by simpa using hlt
    have hq:x / n < 1000000000:=Nat.div_lt_of_lt_mul (by rw[Nat.mul_comm]; exact hxlt)
    have hql:=zeS (show x / n≤9223372036854775807 by omega)
    have hle:n * (x / n)≤x:=Nat.mul_div_le x n
    have hsub:x - n * (x / n)=x % n:=by have:=Nat.div_add_mod x n; omega
    simp only[hd,cond_false,spec_digit (show (dg x).length≤400000000 by omega) (show (dg n).length≤400000000 by omega) hn hxlt,Option.bind_some,zf0 hz,zez (show ((x / n:Nat):Int)≤9223372036854775807 by omega),Int.toNat_natCast,
      zc0 (show (dg n).length≤500000000 by omega) (show (dg (x / n)).length≤500000000 by omega),zrg (show (dg x).length≤1073740000 by omega) hle,hsub]
theorem zix {m n:Nat} (hm:(dg m).length≤100000000) (hn:(dg n).length≤100000000) (h0:0 < n):zbx (dg m) (dg n)=some (dg (m / n),dg (m % n)):=by
  unfold zbx
  have hne:dg n≠[]:=fun e=>by have:=zfq.1 e; omega
  by_cases h1:(dg n).length=1
  · have hb:(((dg n).length:Int)==1)=true:=by rw[h1]; rfl
    rw[hb,cond_true]
    have hd:=zqK (show n≠0 by omega)
    have hnil:dg (n / 1000000000)=[]:=by
      rw[hd] at h1; simpa using h1
    have hsm:n < 1000000000:=by have:=zfq.1 hnil; omega
    have e:dg n=[(n:Int)]:=by rw[hd,hnil,Nat.mod_eq_of_lt hsm]
    rw[e,show ((0:Int)=((0:Nat):Int)) from rfl,zf0 (x:=(n:Int)) (by rfl),Option.bind_some,zAn (by omega) ⟨h0,hsm⟩,Option.bind_some]
    have:m % n < n:=Nat.mod_lt _ h0
    simp only[zez (show ((m % n:Nat):Int)≤9223372036854775807 by omega),Option.bind_some,Int.toNat_natCast]
  · have hb:(((dg n).length:Int)==1)=false:=by rw[beq_eq_false_iff_ne]; omega
    rw[hb,cond_false,ziE (by omega),Option.bind_some,Int.toNat_natCast,wrap_i64 (by omega) (by omega)]
    have ha:=zfh m
    have hva:=zcA m
    generalize dg m=a at *
    unfold zjL
    obtain ⟨r,h1,out,rv,rfl,hI⟩:=zcz (S:=zcN) (fun k x=>∃ out rv,x=(a,dg n,((a.length - k:Nat):Int) - 1,out,dg rv,())∧DivI a n (a.length - k) out rv) a.length (fun r=>∃ out rv,r=(out,dg rv,())∧DivI a n 0 out rv)
      (fun k hk x hx=>by
        obtain ⟨out,rv,rfl,hI⟩:=hx
        have e:((a.length - k:Nat):Int) - 1=((a.length - (k+1):Nat):Int):=by omega
        have e2:a.length - k=(a.length - (k+1))+1:=by omega
        rw[e2] at hI
        obtain ⟨out',rv',q1,q2⟩:=zsO hI ha (by omega) h0 hm hn
        rw[e]
        exact .inl ⟨_,q1,out',rv',rfl,q2⟩)
      (fun x hx=>by
        obtain ⟨out,rv,rfl,hI⟩:=hx
        rw[Nat.sub_self] at *
        exact ⟨_,by simp[zcN],out,rv,rfl,hI⟩)
      (x:=(a,dg n,(a.length:Int) - 1,List.replicate a.length 0,[],())) ⟨List.replicate a.length 0,0,by simp[zaE],⟨by simp,Dig.zeros _,fun k _ hk=>by simp[hk],h0,by simp[nv]⟩⟩
    rw[h1,Option.bind_some]
    simp only[]
    have hv:=hI.val
    simp only[List.drop_zero] at hv
    rw[hva] at hv
    have hnn:=zbc hI.dig
    have hlt:=hI.lt
    have hvn:m=n * (nv out).toNat+rv:=by
      have:((nv out).toNat:Int)=nv out:=by omega
      rw[← this] at hv
      exact_mod_cast hv
    have e1:m / n=(nv out).toNat:=by rw[hvn,Nat.mul_add_div h0,Nat.div_eq_of_lt hlt,Nat.add_zero]
    have e2:m % n=rv:=by rw[hvn,Nat.mul_add_mod,Nat.mod_eq_of_lt hlt]
    rw[zgZ (by rw[hI.len]; omega),Option.bind_some,zrb hI.dig,e1,e2]
end Go.Di
namespace Go.Di
theorem zo9 {S:(Int × Int × Unit)→Option ((Int × Int × Unit) ⊕ (Int × Unit))} (hS:∀ x y:Nat,0 < y→S ((x:Int),(y:Int),())=some (.inl ((y:Int),((x % y:Nat):Int),())))
    (hE:∀ x:Nat,S ((x:Int),0,())=some (.inr ((x:Int),()))):∀ y x:Nat,whileO S ((x:Int),(y:Int),())=some (((Nat.gcd x y:Nat):Int),()):=by
  intro y
  induction y using Nat.strongRecOn with
  | _ y ih =>
    intro x
    by_cases h:y=0
    · subst h
      rw[Nat.gcd_zero_right]; exact zaw (hE x)
    · rw[za6 (hS x y (by omega)),ih (x % y) (Nat.mod_lt _ (by omega)) y]
      rw[Nat.gcd_comm x y,Nat.gcd_rec y x,Nat.gcd_comm (x % y) y]
theorem zxw (x y:Nat):(x:Int).tmod (y:Int)=((x % y:Nat):Int):=by
 rw[Int.tmod_eq_emod_of_nonneg (by omega)]; simp
theorem zAp {x y:Nat} (hx:x≤9223372036854775807) (hy:y≤9223372036854775807):zfE (x:Int) (y:Int)=some (dg (Nat.gcd x y)):=by
  unfold zfE zij
  rw [zo9 (S:=zcB) (fun x y h=>by
    have h1:decide ((y:Int) > 0)=true:=by simpa using h
    have h2:zah ((y:Int) != 0)=some ():=by
      have:((y:Int) != 0)=true:=by simp; omega
      rw[this]; rfl
    simp only[zcB,h1,cond_true,h2,Option.bind_some,zxw]) (fun x=>by simp[zcB]) y x,Option.bind_some]
  have hg:Nat.gcd x y≤9223372036854775807:=by
    by_cases h:x=0
    · subst h; simpa using hy
    · exact Nat.le_trans (Nat.gcd_le_left y (by omega)) hx
  simp only[zez (show ((Nat.gcd x y:Nat):Int)≤9223372036854775807 by omega),Option.bind_some,Int.toNat_natCast]
theorem zPm:([854775807,223372036,9]:List Int)=dg 9223372036854775807:=by
 refine zBw ⟨fun d hd=>?_,by simp[zpH]⟩ (by simp[nv])
 simp at hd
 omega
theorem zAk {S:(List Int × Int × Int × Unit)→Option ((List Int × Int × Int × Unit) ⊕ (Int × Unit))} {a:List Int} (ha:Dig a) (hm:nv a≤9223372036854775807)
    (hS:∀ (i:Nat) (n:Int) (h:i < a.length),0≤n→n * 1000000000+a[i]≤9223372036854775807→S (a,n,(i:Int),())=some (.inl (a,n * 1000000000+a[i],(i:Int) - 1,())))
    (hE:∀ n,S (a,n,-1,())=some (.inr (n,()))):whileO S (a,0,(a.length:Int) - 1,())=some (nv a,()):=by
  have hle:∀ i,nv (a.drop i)≤9223372036854775807:=by
    intro i
    induction i with
    | zero=>simpa using hm
    | succ i ih =>
      by_cases h:i < a.length
      · rw[zd6 h] at ih
        have:=ha.at h
        have h0:=zbc (ha.drop (i+1))
        omega
      · rw[List.drop_of_length_le (by omega)]; simp[nv]
  obtain ⟨r,h1,h2⟩:=zcz (S:=S) (fun k x=>x=(a,nv (a.drop (a.length - k)),((a.length - k:Nat):Int) - 1,())) a.length (fun r=>r=(nv a,()))
    (fun k hk x hx=>by
      subst hx
      have hi:a.length - (k+1) < a.length:=by omega
      have e:((a.length - k:Nat):Int) - 1=((a.length - (k+1):Nat):Int):=by omega
      have e2:a.length - k=(a.length - (k+1))+1:=by omega
      have hd:=zd6 hi
      have hb:=hle (a.length - (k+1))
      rw[hd] at hb
      rw[e,hd]
      left
      refine ⟨_,hS _ _ hi (zbc (ha.drop _)) ?_,?_⟩
      · rw[e2]; omega
      · rw[e2]; congr 2; omega)
    (fun x hx=>by
      subst hx
      rw[Nat.sub_self]
      exact ⟨_,hE _,by simp⟩)
    (x:=(a,0,(a.length:Int) - 1,())) (by simp[nv])
  rw[h1,h2]
end Go.Di
namespace Go.Di
theorem zHS {m:Nat} (h:(dg m).length≤60):pB (zgL (dg m))=true:=pB_iff.2 ⟨zb7 m,h⟩
theorem zp2 {m:Nat} (h:(dg m).length < 3):zep (dg m)=some ((m:Int),true):=by
 unfold zep zin
 have hv:=zcA m
 have hlt:(m:Int) < bp 2:=zgn.1 (by omega)
 have hb2:bp 2=1000000000000000000:=by decide
 rw[hb2] at hlt
 obtain ⟨K,hK,hKv⟩:∃ K:Nat,([854775807,223372036,9]:List Int)=dg K∧9000000000000000000 < K:=⟨_,zPm,by omega⟩
 have hcmp:=zlL (zb7 m) (zb7 K) (by omega)
 rw[zcA,zcA] at hcmp
 rw[spec_natOk (by omega),zHS (by omega),Option.bind_some,hK,hcmp]
 simp only[Bool.not_true,cond_false,Option.bind_some]
 have hc:decide (zqO (m:Int) (K:Int) > 0)=false:=by
  rw[decide_eq_false_iff_not]
  unfold zqO
  split
  ·omega
  ·split<;>omega
 rw[hc,cond_false]
 have ha:=zfh m
 generalize dg m=a at *
 rw[wrap_i64 (by omega) (by omega)]
 rw [zAk (S:=zcD) ha (by omega) (fun i n hi h0 hn=>by
  have hx:=ha.at hi
  simp only[zcD,show decide ((i:Int) ≥ 0)=true by simp,cond_true,zaT hi,Option.bind_some]
  rw[wrap_i64 (n:=n * 1000000000) (by omega) (by omega),wrap_i64 (n:=n * 1000000000+a[i]) (by omega) (by omega),wrap_i64 (n:=(i:Int) - 1) (by omega) (by omega)]) (by simp[zcD]),Option.bind_some,hv]
theorem spec_gcd {m n:Nat} (hm:(dg m).length≤100000000) (hn:(dg n).length≤100000000):zfF (dg m) (dg n)=some (dg (Nat.gcd m n)):=by
  unfold zfF zjK
  rw[room (by omega),room (by omega),Option.bind_some,Option.bind_some]
  obtain ⟨r, h1,h2⟩:=zcI (S:=zcc) (fun x=>∃ p q:Nat,x=(dg p,dg q,())∧Nat.gcd p q=Nat.gcd m n∧(dg p).length≤100000000∧(dg q).length≤100000000) (fun x=>(nv x.2.1).toNat)
    (fun r=>(match r with | .inl (t,_)=>t | .inr (x,_)=>x)=dg (Nat.gcd m n))
    (fun x hx=>by
      obtain ⟨p,q,rfl,hg,hp,hq⟩:=hx
      by_cases h0:q=0
      · subst h0
        right
        refine ⟨.inr (dg p,()),by simp[zcc,zaE],?_⟩
        rw[← hg,Nat.gcd_zero_right]
      · have hqn:dg q≠[]:=fun e=>h0 (zfq.1 e)
        have hl:decide (((dg q).length:Int) > 0)=true:=by have:=List.length_pos_iff.2 hqn; simp only[decide_eq_true_eq]; omega
        have hstep:(∃ y,(some (Sum.inl (dg q,dg (p % q),())):Option ((List Int × List Int × Unit) ⊕ ((List Int × Unit) ⊕ (List Int × Unit))))=some (.inl y)∧(∃ p' q':Nat,y=(dg p',dg q',())∧Nat.gcd p' q'=Nat.gcd m n∧(dg p').length≤100000000∧(dg q').length≤100000000)∧(nv y.2.1).toNat < (nv (dg q)).toNat):=by
          refine ⟨_,rfl,⟨q,p % q,rfl,?_,hq,?_⟩,?_⟩
          · rw[← hg,Nat.gcd_comm p q,Nat.gcd_rec q p,Nat.gcd_comm]
          · exact Nat.le_trans (zaG (Nat.mod_le p q)) hp
          · simp only[zcA,Int.toNat_natCast]; exact Nat.mod_lt _ (by omega)
        have hdiv:=zix hp hq (show 0 < q by omega)
        by_cases hp3:(dg p).length < 3
        · have e1:decide (((dg p).length:Int) < 3)=true:=by simp only[decide_eq_true_eq]; omega
          by_cases hq3:(dg q).length < 3
          · have e2:decide (((dg q).length:Int) < 3)=true:=by simp only[decide_eq_true_eq]; omega
            right
            have b2:bp 2=1000000000000000000:=by decide
            have lp:(p:Int) < bp 2:=zgn.1 (by omega)
            have lq:(q:Int) < bp 2:=zgn.1 (by omega)
            refine ⟨.inl (dg (Nat.gcd p q),()),?_,by rw[hg]⟩
            simp only[zcc,hl,e1,e2,cond_true,zp2 hp3,zp2 hq3,Option.bind_some,zAp (show p≤9223372036854775807 by omega) (show q≤9223372036854775807 by omega)]
          · have e2:decide (((dg q).length:Int) < 3)=false:=by simp only[decide_eq_false_iff_not]; omega
            left
            simp only[zcc,hl,e1,e2,cond_true,cond_false,hdiv,Option.bind_some]
            exact hstep
        · have e1:decide (((dg p).length:Int) < 3)=false:=by simp only[decide_eq_false_iff_not]; omega
          left
          simp only[zcc,hl,e1,cond_true,cond_false,hdiv,Option.bind_some]
          exact hstep)
    (x:=(dg m,dg n,())) ⟨m,n,rfl,rfl,hm,hn⟩
  rw[h1,Option.bind_some]
  cases r with
  | inl t=>exact congrArg some h2
  | inr t=>exact congrArg some h2
end Go.Di
namespace Go.Di
structure TakeI (y x0:List Int) (k:Nat) (q:Int) (j:Nat) (br:Int) (x:List Int):Prop where
 len:x.length=x0.length
 dig:Dig x
 b0:0≤br∧br≤q
 rest:∀ p,k+y.length≤p→x[p]? = x0[p]?
 low:∀ p,p < k→x[p]? = x0[p]?
 val:nv x+bp k * (q * nv (y.take j))=nv x0+bp (k+j) * br
theorem TakeI.step {y x0 x:List Int} {k j:Nat} {q br s b':Int} (h:TakeI y x0 k q j br x) (_hy:Dig y) (_hq:0≤q∧q≤1000000000) (hj:j < y.length) (hk:k+j < x.length) (hs:s - 1000000000 * b'=x[k+j] - q * y[j] - br) (hs0:0≤s∧s < 1000000000) (hb':0≤b'∧b'≤q) :
  TakeI y x0 k q (j+1) b' (x.set (k+j) s):=by
 obtain ⟨hl,hd,hb,hr,hlow,hv⟩:=h
 refine ⟨by simp[hl],hd.set _ hs0,hb',fun p hp=>?_,fun p hp=>?_,?_⟩
 ·rw[List.getElem?_set_ne (by omega)]; exact hr p hp
 ·rw[List.getElem?_set_ne (by omega)]; exact hlow p hp
 ·rw[zoI hk,zek hj,show k+(j+1)=(k+j)+1 from rfl,zfs,zuB] at *
  generalize x[k+j]=e at *
  generalize y[j]=z at *
  generalize nv (y.take j)=v at *
  generalize bp k=p at *
  generalize bp j=p' at *
  grind
structure BackI (y x0:List Int) (k:Nat) (j:Nat) (c:Int) (x:List Int):Prop where
 len:x.length=x0.length
 dig:∀ p,p < k+y.length→∀ d,x[p]? = some d→0≤d∧d < 1000000000
 c0:0≤c∧c≤1
 rest:∀ p,k+y.length≤p→x[p]? = x0[p]?
 low:∀ p,p < k→x[p]? = x0[p]?
 val:nv x+bp (k+j) * c=nv x0+bp k * nv (y.take j)
theorem BackI.step {y x0 x:List Int} {k j:Nat} {c s c':Int} (h:BackI y x0 k j c x) (hj:j < y.length) (hk:k+j < x.length) (hs:s+1000000000 * c'=x[k+j]+y[j]+c) (hs0:0≤s∧s < 1000000000) (hc':0≤c'∧c'≤1) :
    BackI y x0 k (j+1) c' (x.set (k+j) s):=by
  obtain ⟨hl,hd,hc,hr,hlow,hv⟩:=h
  refine ⟨by simp[hl],fun p hp d hpd=>?_,hc',fun p hp=>?_,fun p hp=>?_,?_⟩
  · rw [List.getElem?_set] at hpd
    split at hpd
    · first
        | (cases hpd; exact hs0)
        | (split at hpd<;>first | (cases hpd; exact hs0) | cases hpd)
    · exact hd p hp d hpd
  · rw[List.getElem?_set_ne (by omega)]; exact hr p hp
  · rw[List.getElem?_set_ne (by omega)]; exact hlow p hp
  · rw[zoI hk,zek hj,show k+(j+1)=(k+j)+1 from rfl,zfs,zuB] at *
    generalize x[k+j]=e at *
    generalize y[j]=z at *
    generalize nv (y.take j)=v at *
    generalize bp k=p at *
    generalize bp j=p' at *
    grind
end Go.Di
namespace Go.Di
theorem zCK {y x0 out:List Int} {k:Nat} {f top q:Int} (hy:Dig y) (hx:Dig x0) (hq:0≤q∧q < 1000000000) (hfit:k+y.length < x0.length) (hl:x0.length≤1073741824) :
    ∃ br x,zhn f (y.length:Int) top (k:Int) q 0 (y.length:Int) 0 x0 y out=some (f,(y.length:Int),top,(k:Int),q,br,x,y,out,())∧TakeI y x0 k q y.length br x:=by
  unfold zhn
  obtain ⟨r,h1,br,x,rfl,h2⟩:=zcz (S:=zdq) (fun j z=>∃ br x,z=(f,(y.length:Int),top,(k:Int),q,br,(y.length:Int),(j:Int),x,y,out,())∧TakeI y x0 k q j br x) y.length (fun r=>∃ br x,r=(f,(y.length:Int),top,(k:Int),q,br,x,y,out,())∧TakeI y x0 k q y.length br x)
    (fun j hj z hz=>by
      obtain ⟨br,x,rfl,hI⟩:=hz
      left
      have hk:k+j < x.length:=by rw[hI.len]; omega
      have he:=hI.dig.at hk
      have hyj:=hy.at hj
      have hb:=hI.b0
      have h0:=Int.mul_nonneg hq.1 hyj.1
      have hmax:q * y[j]≤q * 999999999:=Int.mul_le_mul_of_nonneg_left (by omega) hq.1
      have e1:IntKind.i64.wrap ((k:Int)+(j:Int))=((k+j:Nat):Int):=by rw[wrap_i64 (by omega) (by omega)]; omega
      have e2:IntKind.i64.wrap ((j:Int)+1)=((j+1:Nat):Int):=by rw[wrap_i64 (by omega) (by omega)]; omega
      simp only[zdq,dlt hj,cond_true,e1,e2,zaT hk,zaT hj,Int.toNat_natCast,List.getElem?_eq_getElem hk,List.getElem?_eq_getElem hj,Option.bind_some]
      rw[wrap_add (n:=q * y[j]) (by omega) (by omega),wrap_i64 (n:=x[k+j] - q * y[j]) (by omega) (by omega),wrap_i64 (n:=x[k+j] - q * y[j] - br) (by omega) (by omega)]
      generalize hs:x[k+j] - q * y[j] - br=s at *
      by_cases hneg:s < 0
      · rw[decide_eq_true hneg,cond_true,wrap_i64 (n:=999999999 - s) (by omega) (by omega),Int.tdiv_eq_ediv_of_nonneg (by omega)]
        rw[wrap_i64 (n:=(999999999 - s) / 1000000000) (by omega) (by omega),wrap_i64 (n:=(999999999 - s) / 1000000000 * 1000000000) (by omega) (by omega),wrap_i64 (n:=s+(999999999 - s) / 1000000000 * 1000000000) (by omega) (by omega)]
        refine ⟨_,rfl,_,_,rfl,?_⟩
        exact hI.step hy (by omega) hj hk (by omega) (by omega) (by omega)
      · rw[decide_eq_false hneg,cond_false]
        refine ⟨_,rfl,_,_,rfl,?_⟩
        exact hI.step hy (by omega) hj hk (by omega) (by omega) (by omega))
    (fun z hz=>by
      obtain ⟨br,x,rfl,hI⟩:=hz
      exact ⟨_,by simp[zdq],br,x,rfl,hI⟩)
    (x:=(f,(y.length:Int),top,(k:Int),q,0,(y.length:Int),0,x0,y,out,())) ⟨0,x0,rfl,⟨rfl,hx,by omega,fun _ _=>rfl,fun _ _=>rfl,by simp[nv]⟩⟩
  exact ⟨br,x,h1,h2⟩
end Go.Di
