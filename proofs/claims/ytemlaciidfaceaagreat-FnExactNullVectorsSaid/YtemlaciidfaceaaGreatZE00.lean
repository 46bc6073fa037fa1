/-
  Own work: part 5 of the texts that the proof of the given statement leans on.
-/
import Derived.Laws.Strings
import Derived.Test.YtemlaciidfaceaaGreatZD03
noncomputable section
namespace Go.Di
def zaN (l:List Int):Option (List Int) :=
  (zak (Nat.ble l.length zan)).bind fun _ =>
  some l
def zcc:Int × (List Int) × Int × Int × Unit→Option ((Int × (List Int) × Int × Int × Unit) ⊕ ((Bool × Unit) ⊕ (Unit))):=fun (n,t,t1,t2,_) =>
  cond (decide (t2 < t1))
    ((idx t t2).bind fun e =>
    cond (e==n)
      (some (.inr (.inl (true,()))))
      (some (.inl (n,t,t1,IntKind.i64.wrap (t2+1),()))))
    (some (.inr (.inr (()))))
def ziK (n:Int) (t:List Int) (t1:Int) (t2:Int):Option ((Bool × Unit) ⊕ (Unit)):=whileO zcc (n,t,t1,t2,())
def zdL (l:List Int) (n:Int):Option Bool :=
  (ziK n l (l.length:Int) 0).bind fun r =>
  match r with
  | .inl (t,_) =>
    some t
  | .inr _ =>
    some false
def zdu (n:Int) (lo:Int) (hi:Int):Option Bool :=
  cond (decide (n ≥ lo))
    (some (decide (n≤hi)))
    (some false)
end Go.Di
namespace Go.Di
def zgC:Int × (List Int) × Unit→Option ((Int × (List Int) × Unit) ⊕ ((List Int) × Unit)):=fun (n,out,_) =>
  cond (decide (n > 0))
    ((zak (Nat.ble (out.length+1) zan)).bind fun _ =>
    some (.inl (IntKind.i64.wrap (n.tdiv 1000000000),out++([n.tmod 1000000000]:List Int),())))
    (some (.inr (out,())))
def zow (n:Int) (out:List Int):Option ((List Int) × Unit):=whileO zgC (n,out,())
def zfl (n:Int):Option (List Int) :=
  (zow n ([]:List Int)).bind fun (out,_) =>
  some out
def zdc:(List Int) × Int × Int × Unit→Option (((List Int) × Int × Int × Unit) ⊕ ((Bool × Unit) ⊕ (Unit))):=fun (t,t1,t2,_) =>
  cond (decide (t2 < t1))
    ((idx t t2).bind fun e =>
    cond (decide (e < 0))
      (some (.inr (.inl (false,()))))
      (cond (decide (e ≥ 1000000000))
        (some (.inr (.inl (false,()))))
        (some (.inl (t,t1,IntKind.i64.wrap (t2+1),())))))
    (some (.inr (.inr (()))))
def zfb (t:List Int) (t1:Int) (t2:Int):Option ((Bool × Unit) ⊕ (Unit)):=whileO zdc (t,t1,t2,())
def zfk (a:List Int):Option Bool :=
  cond (decide ((a.length:Int) > 60))
    (some false)
    (cond (decide ((a.length:Int) > 0))
      ((idx a (IntKind.i64.wrap ((a.length:Int) - 1))).bind fun e =>
      cond (e==0)
        (some false)
        ((zfb a (a.length:Int) 0).bind fun r =>
        match r with
        | .inl (t,_) =>
          some t
        | .inr _ =>
          some true))
      ((zfb a (a.length:Int) 0).bind fun r =>
      match r with
      | .inl (t,_) =>
        some t
      | .inr _ =>
        some true))
def zcK:Int × (List Int) × Unit→Option ((Int × (List Int) × Unit) ⊕ (Int × (List Int) × Unit)):=fun (n,a,_) =>
  cond (decide (n > 0))
    ((idx a (IntKind.i64.wrap (n - 1))).bind fun _ =>
    (a[(IntKind.i64.wrap (n - 1)).toNat]?).bind fun e =>
    cond (e==0)
      (some (.inl (IntKind.i64.wrap (n - 1),a,())))
      (some (.inr (n,a,()))))
    (some (.inr (n,a,())))
def ziD (n:Int) (a:List Int):Option (Int × (List Int) × Unit):=whileO zcK (n,a,())
def zcv (a:List Int):Option (List Int) :=
  (ziD (a.length:Int) a).bind fun (n,a1,_) =>
  (zak (inside a1.length (0,n))).bind fun _ =>
  some (a1.take n.toNat)
def zcW:(List Int) × Int × Int × Int × (List Int) × Unit→Option (((List Int) × Int × Int × Int × (List Int) × Unit) ⊕ (Int × (List Int) × Unit)):=fun (a,d,rest,i,out,_) =>
  cond (decide (i ≥ 0))
    ((idx a i).bind fun e =>
    (zak (d != 0)).bind fun _ =>
    (idx out i).bind fun _ =>
    (zak (d != 0)).bind fun _ =>
    some (.inl (a,d,(IntKind.i64.wrap ((IntKind.i64.wrap (rest * 1000000000))+e)).tmod d,IntKind.i64.wrap (i - 1),out.set i.toNat (IntKind.i64.wrap ((IntKind.i64.wrap ((IntKind.i64.wrap (rest * 1000000000))+e)).tdiv d)),())))
    (some (.inr (rest,out,())))
def zhc (a:List Int) (d:Int) (rest:Int) (i:Int) (out:List Int):Option (Int × (List Int) × Unit):=whileO zcW (a,d,rest,i,out,())
def zdy (a:List Int) (d:Int):Option (List Int × List Int) :=
  (zak (((decide (0≤(a.length:Int))) && (decide ((a.length:Int)≤(a.length:Int)))) && (decide ((a.length:Int)≤(zan:Int))))).bind fun _ =>
  (zhc a d 0 (IntKind.i64.wrap ((a.length:Int) - 1)) (List.replicate ((a.length:Int).toNat) 0:List Int)).bind fun (rest,out,_) =>
  (zcv out).bind fun r =>
  (zfl rest).bind fun r1 =>
  some (r,r1)
def zbK:(List Int) × (List Int) × Int × Int × Int × (List Int) × Unit→Option (((List Int) × (List Int) × Int × Int × Int × (List Int) × Unit) ⊕ (Int × (List Int) × Unit)):=fun (a,b,carry,t,t1,out,_) =>
  cond (decide (t1 < t))
    ((idx a t1).bind fun e =>
    cond (decide (t1 < (b.length:Int)))
      ((idx b t1).bind fun e1 =>
      cond (decide ((IntKind.i64.wrap ((IntKind.i64.wrap (e+carry))+e1)) ≥ 1000000000))
        ((zak (Nat.ble (out.length+1) zan)).bind fun _ =>
        some (.inl (a,b,1,t,IntKind.i64.wrap (t1+1),out++([IntKind.i64.wrap ((IntKind.i64.wrap ((IntKind.i64.wrap (e+carry))+e1)) - 1000000000)]:List Int),())))
        ((zak (Nat.ble (out.length+1) zan)).bind fun _ =>
        some (.inl (a,b,0,t,IntKind.i64.wrap (t1+1),out++([IntKind.i64.wrap ((IntKind.i64.wrap (e+carry))+e1)]:List Int),()))))
      (cond (decide ((IntKind.i64.wrap (e+carry)) ≥ 1000000000))
        ((zak (Nat.ble (out.length+1) zan)).bind fun _ =>
        some (.inl (a,b,1,t,IntKind.i64.wrap (t1+1),out++([IntKind.i64.wrap ((IntKind.i64.wrap (e+carry)) - 1000000000)]:List Int),())))
        ((zak (Nat.ble (out.length+1) zan)).bind fun _ =>
        some (.inl (a,b,0,t,IntKind.i64.wrap (t1+1),out++([IntKind.i64.wrap (e+carry)]:List Int),())))))
    (some (.inr (carry,out,())))
def zdB (a:List Int) (b:List Int) (carry:Int) (t:Int) (t1:Int) (out:List Int):Option (Int × (List Int) × Unit):=whileO zbK (a,b,carry,t,t1,out,())
def zeJ (a:List Int) (b:List Int):Option (List Int) :=
  cond (decide ((a.length:Int) < (b.length:Int)))
    ((zak ((decide (0≤(IntKind.i64.wrap ((b.length:Int)+1)))) && (decide ((IntKind.i64.wrap ((b.length:Int)+1))≤(zan:Int))))).bind fun _ =>
    (zdB b a 0 (b.length:Int) 0 (List.replicate 0 0:List Int)).bind fun (carry,out,_) =>
    cond (decide (carry > 0))
      ((zak (Nat.ble (out.length+1) zan)).bind fun _ =>
      some (out++([1]:List Int)))
      (some out))
    ((zak ((decide (0≤(IntKind.i64.wrap ((a.length:Int)+1)))) && (decide ((IntKind.i64.wrap ((a.length:Int)+1))≤(zan:Int))))).bind fun _ =>
    (zdB a b 0 (a.length:Int) 0 (List.replicate 0 0:List Int)).bind fun (carry,out,_) =>
    cond (decide (carry > 0))
      ((zak (Nat.ble (out.length+1) zan)).bind fun _ =>
      some (out++([1]:List Int)))
      (some out))
def zcV:(List Int) × (List Int) × Int × Unit→Option (((List Int) × (List Int) × Int × Unit) ⊕ ((Int × Unit) ⊕ (Unit))):=fun (a,b,i,_) =>
  cond (decide (i ≥ 0))
    ((idx a i).bind fun e =>
    (idx b i).bind fun e1 =>
    cond (decide (e < e1))
      (some (.inr (.inl ((-1),()))))
      ((idx a i).bind fun e2 =>
      (idx b i).bind fun e3 =>
      cond (decide (e2 > e3))
        (some (.inr (.inl (1,()))))
        (some (.inl (a,b,IntKind.i64.wrap (i - 1),())))))
    (some (.inr (.inr (()))))
def ziJ (a:List Int) (b:List Int) (i:Int):Option ((Int × Unit) ⊕ (Unit)):=whileO zcV (a,b,i,())
def zeI (a:List Int) (b:List Int):Option Int :=
  cond ((a.length:Int) != (b.length:Int))
    (cond (decide ((a.length:Int) < (b.length:Int)))
      (some (-1))
      (some 1))
    ((ziJ a b (IntKind.i64.wrap ((a.length:Int) - 1))).bind fun r =>
    match r with
    | .inl (t,_) =>
      some t
    | .inr _ =>
      some 0)
def zeo:(List Int) × Int × Int × Int × (List Int) × Int × Int × (List Int) × Int × Int × (List Int) × Unit→Option (((List Int) × Int × Int × Int × (List Int) × Int × Int × (List Int) × Int × Int × (List Int) × Unit) ⊕ ((List Int) × Int × Int × (List Int) × Int × Int × (List Int) × Unit)):=fun (b,i,x,carry,t,t1,t2,t3,t4,t5,out,_) =>
  cond (decide (t5 < t4))
    ((idx t3 t5).bind fun e =>
    (idx out (IntKind.i64.wrap (i+t5))).bind fun _ =>
    (out[(IntKind.i64.wrap (i+t5)).toNat]?).bind fun e1 =>
    (idx out (IntKind.i64.wrap (i+t5))).bind fun _ =>
    some (.inl (b,i,x,IntKind.i64.wrap ((IntKind.i64.wrap ((IntKind.i64.wrap (e1+(IntKind.i64.wrap (x * e))))+carry)).tdiv 1000000000),t,t1,t2,t3,t4,IntKind.i64.wrap (t5+1),out.set ((IntKind.i64.wrap (i+t5)).toNat) ((IntKind.i64.wrap ((IntKind.i64.wrap (e1+(IntKind.i64.wrap (x * e))))+carry)).tmod 1000000000),())))
    (some (.inr (b,i,carry,t,t1,t2,out,())))
def ziF (b:List Int) (i:Int) (x:Int) (carry:Int) (t:List Int) (t1:Int) (t2:Int) (t3:List Int) (t4:Int) (t5:Int) (out:List Int):Option ((List Int) × Int × Int × (List Int) × Int × Int × (List Int) × Unit):=whileO zeo (b,i,x,carry,t,t1,t2,t3,t4,t5,out,())
def zcP:(List Int) × (List Int) × Int × Int × (List Int) × Unit→Option (((List Int) × (List Int) × Int × Int × (List Int) × Unit) ⊕ ((List Int) × Unit)):=fun (b,t,t1,t2,out,_) =>
  cond (decide (t2 < t1))
    ((idx t t2).bind fun e =>
    (ziF b t2 e 0 t t1 t2 b (b.length:Int) 0 out).bind fun (b1,i,carry,t3,t4,t5,out1,_) =>
    (idx out1 (IntKind.i64.wrap (i+(b1.length:Int)))).bind fun _ =>
    (out1[(IntKind.i64.wrap (i+(b1.length:Int))).toNat]?).bind fun e1 =>
    (idx out1 (IntKind.i64.wrap (i+(b1.length:Int)))).bind fun _ =>
    some (.inl (b1,t3,t4,IntKind.i64.wrap (t5+1),out1.set ((IntKind.i64.wrap (i+(b1.length:Int))).toNat) (IntKind.i64.wrap (e1+carry)),())))
    (some (.inr (out,())))
def ziG (b:List Int) (t:List Int) (t1:Int) (t2:Int) (out:List Int):Option ((List Int) × Unit):=whileO zcP (b,t,t1,t2,out,())
def zbc (a:List Int) (b:List Int):Option (List Int) :=
  (zak (((decide (0≤(IntKind.i64.wrap ((a.length:Int)+(b.length:Int))))) && (decide ((IntKind.i64.wrap ((a.length:Int)+(b.length:Int)))≤(IntKind.i64.wrap ((a.length:Int)+(b.length:Int)))))) && (decide ((IntKind.i64.wrap ((a.length:Int)+(b.length:Int)))≤(zan:Int))))).bind fun _ =>
  (ziG b a (a.length:Int) 0 (List.replicate ((IntKind.i64.wrap ((a.length:Int)+(b.length:Int))).toNat) 0:List Int)).bind fun (out,_) =>
  (zcv out).bind fun r =>
  some r
def zcR:Int × Int × Int × Int × Int × Int × Int × Int × (List Int) × (List Int) × (List Int) × Unit→Option ((Int × Int × Int × Int × Int × Int × Int × Int × (List Int) × (List Int) × (List Int) × Unit) ⊕ (Int × Int × Int × Int × Int × Int × (List Int) × (List Int) × (List Int) × Unit)):=fun (f,n,top,k,q,carry,t,t1,x,y,out,_) =>
  cond (decide (t1 < t))
    ((idx x (IntKind.i64.wrap (k+t1))).bind fun _ =>
    (x[(IntKind.i64.wrap (k+t1)).toNat]?).bind fun e =>
    (idx y t1).bind fun _ =>
    (y[t1.toNat]?).bind fun e1 =>
    cond (decide ((IntKind.i64.wrap ((IntKind.i64.wrap (e+e1))+carry)) ≥ 1000000000))
      ((idx x (IntKind.i64.wrap (k+t1))).bind fun _ =>
      some (.inl (f,n,top,k,q,1,t,IntKind.i64.wrap (t1+1),x.set ((IntKind.i64.wrap (k+t1)).toNat) (IntKind.i64.wrap ((IntKind.i64.wrap ((IntKind.i64.wrap (e+e1))+carry)) - 1000000000)),y,out,())))
      ((idx x (IntKind.i64.wrap (k+t1))).bind fun _ =>
      some (.inl (f,n,top,k,q,0,t,IntKind.i64.wrap (t1+1),x.set ((IntKind.i64.wrap (k+t1)).toNat) (IntKind.i64.wrap ((IntKind.i64.wrap (e+e1))+carry)),y,out,()))))
    (some (.inr (f,n,top,k,q,carry,x,y,out,())))
def zf9 (f:Int) (n:Int) (top:Int) (k:Int) (q:Int) (carry:Int) (t:Int) (t1:Int) (x:List Int) (y:List Int) (out:List Int):Option (Int × Int × Int × Int × Int × Int × (List Int) × (List Int) × (List Int) × Unit):=whileO zcR (f,n,top,k,q,carry,t,t1,x,y,out,())
def zcS:Int × Int × Int × Int × Int × Int × Int × Int × (List Int) × (List Int) × (List Int) × Unit→Option ((Int × Int × Int × Int × Int × Int × Int × Int × (List Int) × (List Int) × (List Int) × Unit) ⊕ (Int × Int × Int × Int × Int × Int × (List Int) × (List Int) × (List Int) × Unit)):=fun (f,n,top,k,q,borrow,t,t1,x,y,out,_) =>
  cond (decide (t1 < t))
    ((idx x (IntKind.i64.wrap (k+t1))).bind fun _ =>
    (x[(IntKind.i64.wrap (k+t1)).toNat]?).bind fun e =>
    (idx y t1).bind fun _ =>
    (y[t1.toNat]?).bind fun e1 =>
    cond (decide ((IntKind.i64.wrap ((IntKind.i64.wrap (e - (IntKind.i64.wrap (q * e1)))) - borrow)) < 0))
      ((idx x (IntKind.i64.wrap (k+t1))).bind fun _ =>
      some (.inl (f,n,top,k,q,IntKind.i64.wrap ((IntKind.i64.wrap (999999999 - (IntKind.i64.wrap ((IntKind.i64.wrap (e - (IntKind.i64.wrap (q * e1)))) - borrow)))).tdiv 1000000000),t,IntKind.i64.wrap (t1+1),x.set ((IntKind.i64.wrap (k+t1)).toNat) (IntKind.i64.wrap ((IntKind.i64.wrap ((IntKind.i64.wrap (e - (IntKind.i64.wrap (q * e1)))) - borrow))+(IntKind.i64.wrap ((IntKind.i64.wrap ((IntKind.i64.wrap (999999999 - (IntKind.i64.wrap ((IntKind.i64.wrap (e - (IntKind.i64.wrap (q * e1)))) - borrow)))).tdiv 1000000000)) * 1000000000)))),y,out,())))
      ((idx x (IntKind.i64.wrap (k+t1))).bind fun _ =>
      some (.inl (f,n,top,k,q,0,t,IntKind.i64.wrap (t1+1),x.set ((IntKind.i64.wrap (k+t1)).toNat) (IntKind.i64.wrap ((IntKind.i64.wrap (e - (IntKind.i64.wrap (q * e1)))) - borrow)),y,out,()))))
    (some (.inr (f,n,top,k,q,borrow,x,y,out,())))
def zga (f:Int) (n:Int) (top:Int) (k:Int) (q:Int) (borrow:Int) (t:Int) (t1:Int) (x:List Int) (y:List Int) (out:List Int):Option (Int × Int × Int × Int × Int × Int × (List Int) × (List Int) × (List Int) × Unit):=whileO zcS (f,n,top,k,q,borrow,t,t1,x,y,out,())
def zcT:Int × Int × Int × Int × Int × Int × (List Int) × (List Int) × (List Int) × Unit→Option ((Int × Int × Int × Int × Int × Int × (List Int) × (List Int) × (List Int) × Unit) ⊕ (Int × Int × Int × Int × Int × (List Int) × (List Int) × (List Int) × Unit)):=fun (f,n,top,k,q,r,x,y,out,_) =>
  cond (decide (q ≥ 1000000000))
    (cond (decide ((IntKind.i64.wrap (r+top)) ≥ 1000000000))
      (some (.inr (f,n,top,k,IntKind.i64.wrap (q - 1),x,y,out,())))
      (some (.inl (f,n,top,k,IntKind.i64.wrap (q - 1),IntKind.i64.wrap (r+top),x,y,out,()))))
    ((idx y (IntKind.i64.wrap (n - 2))).bind fun _ =>
    (y[(IntKind.i64.wrap (n - 2)).toNat]?).bind fun e =>
    (idx x (IntKind.i64.wrap ((IntKind.i64.wrap (k+n)) - 2))).bind fun _ =>
    (x[(IntKind.i64.wrap ((IntKind.i64.wrap (k+n)) - 2)).toNat]?).bind fun e1 =>
    cond (decide ((IntKind.i64.wrap (q * e)) > (IntKind.i64.wrap ((IntKind.i64.wrap (r * 1000000000))+e1))))
      (cond (decide ((IntKind.i64.wrap (r+top)) ≥ 1000000000))
        (some (.inr (f,n,top,k,IntKind.i64.wrap (q - 1),x,y,out,())))
        (some (.inl (f,n,top,k,IntKind.i64.wrap (q - 1),IntKind.i64.wrap (r+top),x,y,out,()))))
      (some (.inr (f,n,top,k,q,x,y,out,()))))
def zgb (f:Int) (n:Int) (top:Int) (k:Int) (q:Int) (r:Int) (x:List Int) (y:List Int) (out:List Int):Option (Int × Int × Int × Int × Int × (List Int) × (List Int) × (List Int) × Unit):=whileO zcT (f,n,top,k,q,r,x,y,out,())
def zcb:Int × Int × Int × Int × (List Int) × (List Int) × (List Int) × Unit→Option ((Int × Int × Int × Int × (List Int) × (List Int) × (List Int) × Unit) ⊕ (Int × (List Int) × (List Int) × Unit)):=fun (f,n,top,k,x,y,out,_) =>
  cond (decide (k ≥ 0))
    ((idx x (IntKind.i64.wrap (k+n))).bind fun _ =>
    (x[(IntKind.i64.wrap (k+n)).toNat]?).bind fun e =>
    (idx x (IntKind.i64.wrap ((IntKind.i64.wrap (k+n)) - 1))).bind fun _ =>
    (x[(IntKind.i64.wrap ((IntKind.i64.wrap (k+n)) - 1)).toNat]?).bind fun e1 =>
    (zak (top != 0)).bind fun _ =>
    (zak (top != 0)).bind fun _ =>
    (zgb f n top k (IntKind.i64.wrap ((IntKind.i64.wrap ((IntKind.i64.wrap (e * 1000000000))+e1)).tdiv top)) ((IntKind.i64.wrap ((IntKind.i64.wrap (e * 1000000000))+e1)).tmod top) x y out).bind fun (f1,n1,zaE,k1,q,x1,y1,out1,_) =>
    (zga f1 n1 zaE k1 q 0 n1 0 x1 y1 out1).bind fun (f2,n2,top2,k2,q1,borrow,x2,y2,out2,_) =>
    (idx x2 (IntKind.i64.wrap (k2+n2))).bind fun _ =>
    (x2[(IntKind.i64.wrap (k2+n2)).toNat]?).bind fun e2 =>
    (idx x2 (IntKind.i64.wrap (k2+n2))).bind fun _ =>
    (idx (x2.set ((IntKind.i64.wrap (k2+n2)).toNat) (IntKind.i64.wrap (e2 - borrow))) (IntKind.i64.wrap (k2+n2))).bind fun _ =>
    ((x2.set ((IntKind.i64.wrap (k2+n2)).toNat) (IntKind.i64.wrap (e2 - borrow)))[(IntKind.i64.wrap (k2+n2)).toNat]?).bind fun e3 =>
    cond (decide (e3 < 0))
      ((zf9 f2 n2 top2 k2 (IntKind.i64.wrap (q1 - 1)) 0 n2 0 (x2.set ((IntKind.i64.wrap (k2+n2)).toNat) (IntKind.i64.wrap (e2 - borrow))) y2 out2).bind fun (f3,n3,top3,k3,q2,carry,x3,y3,out3,_) =>
      (idx x3 (IntKind.i64.wrap (k3+n3))).bind fun _ =>
      (x3[(IntKind.i64.wrap (k3+n3)).toNat]?).bind fun e4 =>
      (idx x3 (IntKind.i64.wrap (k3+n3))).bind fun _ =>
      (idx out3 k3).bind fun _ =>
      some (.inl (f3,n3,top3,IntKind.i64.wrap (k3 - 1),x3.set ((IntKind.i64.wrap (k3+n3)).toNat) (IntKind.i64.wrap (e4+carry)),y3,out3.set k3.toNat q2,())))
      ((idx out2 k2).bind fun _ =>
      some (.inl (f2,n2,top2,IntKind.i64.wrap (k2 - 1),x2.set ((IntKind.i64.wrap (k2+n2)).toNat) (IntKind.i64.wrap (e2 - borrow)),y2,out2.set k2.toNat q1,()))))
    (some (.inr (f,x,out,())))
def zgc (f:Int) (n:Int) (top:Int) (k:Int) (x:List Int) (y:List Int) (out:List Int):Option (Int × (List Int) × (List Int) × Unit):=whileO zcb (f,n,top,k,x,y,out,())
def zcU:(List Int) × Int × Int × (List Int) × (List Int) × Unit→Option (((List Int) × Int × Int × (List Int) × (List Int) × Unit) ⊕ (Int × Int × (List Int) × (List Int) × Unit)):=fun (a,f,n,x,y,_) =>
  cond (decide ((x.length:Int)≤(a.length:Int)))
    ((zak (Nat.ble (x.length+1) zan)).bind fun _ =>
    some (.inl (a,f,n,x++([0]:List Int),y,())))
    (some (.inr (f,n,x,y,())))
def zgd (a:List Int) (f:Int) (n:Int) (x:List Int) (y:List Int):Option (Int × Int × (List Int) × (List Int) × Unit):=whileO zcU (a,f,n,x,y,())
def zbD (a:List Int) (b:List Int):Option (List Int × List Int) :=
  (zeI a b).bind fun r =>
  cond (decide (r < 0))
    ((zaN a).bind fun r1 =>
    some (([]:List Int),r1))
    (cond ((b.length:Int)==1)
      ((idx b 0).bind fun e =>
      (zdy a e).bind fun (r0,r1) =>
      some (r0,r1))
      ((idx b (IntKind.i64.wrap ((b.length:Int) - 1))).bind fun e =>
      (zak ((IntKind.i64.wrap (e+1)) != 0)).bind fun _ =>
      (zbc a ([IntKind.i64.wrap ((1000000000:Int).tdiv (IntKind.i64.wrap (e+1)))]:List Int)).bind fun r1 =>
      (zbc b ([IntKind.i64.wrap ((1000000000:Int).tdiv (IntKind.i64.wrap (e+1)))]:List Int)).bind fun r2 =>
      (zgd a (IntKind.i64.wrap ((1000000000:Int).tdiv (IntKind.i64.wrap (e+1)))) (r2.length:Int) r1 r2).bind fun (f,n,x,y,_) =>
      (zak (((decide (0≤(IntKind.i64.wrap ((x.length:Int) - n)))) && (decide ((IntKind.i64.wrap ((x.length:Int) - n))≤(IntKind.i64.wrap ((x.length:Int) - n))))) && (decide ((IntKind.i64.wrap ((x.length:Int) - n))≤(zan:Int))))).bind fun _ =>
      (idx y (IntKind.i64.wrap (n - 1))).bind fun _ =>
      (y[(IntKind.i64.wrap (n - 1)).toNat]?).bind fun e1 =>
      (zgc f n e1 (IntKind.i64.wrap ((IntKind.i64.wrap ((x.length:Int) - n)) - 1)) x y (List.replicate ((IntKind.i64.wrap ((x.length:Int) - n)).toNat) 0:List Int)).bind fun (f1,x1,out,_) =>
      (zcv x1).bind fun r3 =>
      (zdy r3 f1).bind fun (r0,_) =>
      (zcv out).bind fun r4 =>
      some (r4,r0)))
def zcQ:Int × Int × Unit→Option ((Int × Int × Unit) ⊕ (Int × Unit)):=fun (x,y,_) =>
  cond (y != 0)
    ((zak (y != 0)).bind fun _ =>
    some (.inl (y,x.tmod y,())))
    (some (.inr (x,())))
def ziH (x:Int) (y:Int):Option (Int × Unit):=whileO zcQ (x,y,())
def zbJ:(List Int) × (List Int) × Unit→Option (((List Int) × (List Int) × Unit) ⊕ ((List Int) × (List Int) × Unit)):=fun (a,b,_) =>
  cond (decide ((b.length:Int) > 1))
    ((zbD a b).bind fun (_,r1) =>
    some (.inl (b,r1,())))
    (cond (decide ((a.length:Int) > 1))
      (cond (decide ((b.length:Int) > 0))
        ((zbD a b).bind fun (_,r1) =>
        some (.inl (b,r1,())))
        (some (.inr (a,b,()))))
      (some (.inr (a,b,()))))
def ziI (a:List Int) (b:List Int):Option ((List Int) × (List Int) × Unit):=whileO zbJ (a,b,())
def zdJ (a:List Int) (b:List Int):Option (List Int) :=
  (ziI a b).bind fun (a1,b1,_) =>
  cond ((b1.length:Int)==0)
    ((zaN a1).bind fun r =>
    some r)
    ((idx a1 0).bind fun e =>
    (idx b1 0).bind fun e1 =>
    (ziH e e1).bind fun (x,_) =>
    some ([x]:List Int))
def zbI:(List Int) × Int × Int × Int × (List Int) × Unit→Option (((List Int) × Int × Int × Int × (List Int) × Unit) ⊕ ((List Int) × Unit)):=fun (b,borrow,t,t1,out,_) =>
  cond (decide (t1 < t))
    ((idx out t1).bind fun _ =>
    (out[t1.toNat]?).bind fun e =>
    cond (decide (t1 < (b.length:Int)))
      ((idx b t1).bind fun e1 =>
      cond (decide ((IntKind.i64.wrap ((IntKind.i64.wrap (e - borrow)) - e1)) < 0))
        ((idx out t1).bind fun _ =>
        some (.inl (b,1,t,IntKind.i64.wrap (t1+1),out.set t1.toNat (IntKind.i64.wrap ((IntKind.i64.wrap ((IntKind.i64.wrap (e - borrow)) - e1))+1000000000)),())))
        ((idx out t1).bind fun _ =>
        some (.inl (b,0,t,IntKind.i64.wrap (t1+1),out.set t1.toNat (IntKind.i64.wrap ((IntKind.i64.wrap (e - borrow)) - e1)),()))))
      (cond (decide ((IntKind.i64.wrap (e - borrow)) < 0))
        ((idx out t1).bind fun _ =>
        some (.inl (b,1,t,IntKind.i64.wrap (t1+1),out.set t1.toNat (IntKind.i64.wrap ((IntKind.i64.wrap (e - borrow))+1000000000)),())))
        ((idx out t1).bind fun _ =>
        some (.inl (b,0,t,IntKind.i64.wrap (t1+1),out.set t1.toNat (IntKind.i64.wrap (e - borrow)),())))))
    (some (.inr (out,())))
def ziE (b:List Int) (borrow:Int) (t:Int) (t1:Int) (out:List Int):Option ((List Int) × Unit):=whileO zbI (b,borrow,t,t1,out,())
def zeH (a:List Int) (b:List Int):Option (List Int) :=
  (zaN a).bind fun r =>
  (ziE b 0 (r.length:Int) 0 r).bind fun (out,_) =>
  (zcv out).bind fun r1 =>
  some r1
def zdb:(List Int) × (List Int) × Int × Int × Unit→Option (((List Int) × (List Int) × Int × Int × Unit) ⊕ ((Bool × Unit) ⊕ ((List Int) × Unit))):=fun (a,t,t1,t2,_) =>
  cond (decide (t2 < t1))
    ((idx t t2).bind fun e =>
    (zdu e 0 999999999).bind fun r =>
    cond (!r)
      (some (.inr (.inl (false,()))))
      (some (.inl (a,t,t1,IntKind.i64.wrap (t2+1),()))))
    (some (.inr (.inr (a,()))))
def zkb (a:List Int) (t:List Int) (t1:Int) (t2:Int):Option ((Bool × Unit) ⊕ ((List Int) × Unit)):=whileO zdb (a,t,t1,t2,())
def zea (a:List Int):Option Bool :=
  (zkb a a (a.length:Int) 0).bind fun r =>
  match r with
  | .inl (t,_) =>
    some t
  | .inr (a1,_) =>
    cond (decide ((a1.length:Int)≤60))
      (cond ((a1.length:Int)==0)
        (some true)
        ((idx a1 (IntKind.i64.wrap ((a1.length:Int) - 1))).bind fun e =>
        some (e != 0)))
      (some false)
def zcA:Int × (List Int) × Unit→Option ((Int × (List Int) × Unit) ⊕ ((List Int) × Unit)):=fun (n,out,_) =>
  cond (decide (n > 0))
    ((zak (Nat.ble (out.length+1) zan)).bind fun _ =>
    some (.inl (IntKind.i64.wrap (n.tdiv 1000000000),out++([n.tmod 1000000000]:List Int),())))
    (some (.inr (out,())))
def zkc (n:Int) (out:List Int):Option ((List Int) × Unit):=whileO zcA (n,out,())
def zcs (n:Int):Option (List Int) :=
  (zkc n ([]:List Int)).bind fun (out,_) =>
  some out
def zcI:(List Int) × (List Int) × Int × Unit→Option (((List Int) × (List Int) × Int × Unit) ⊕ ((Int × Unit) ⊕ (Unit))):=fun (a,b,i,_) =>
  cond (decide (i ≥ 0))
    ((idx a i).bind fun e =>
    (idx b i).bind fun e1 =>
    cond (decide (e < e1))
      (some (.inr (.inl ((-1),()))))
      ((idx a i).bind fun e2 =>
      (idx b i).bind fun e3 =>
      cond (decide (e2 > e3))
        (some (.inr (.inl (1,()))))
        (some (.inl (a,b,IntKind.i64.wrap (i - 1),())))))
    (some (.inr (.inr (()))))
def ziy (a:List Int) (b:List Int) (i:Int):Option ((Int × Unit) ⊕ (Unit)):=whileO zcI (a,b,i,())
def zc4 (a:List Int) (b:List Int):Option Int :=
  cond ((a.length:Int) != (b.length:Int))
    (cond (decide ((a.length:Int) < (b.length:Int)))
      (some (-1))
      (some 1))
    ((ziy a b (IntKind.i64.wrap ((a.length:Int) - 1))).bind fun r =>
    match r with
    | .inl (t,_) =>
      some t
    | .inr _ =>
      some 0)
def zb3:(List Int) × Int × Int × Unit→Option (((List Int) × Int × Int × Unit) ⊕ (Int × Unit)):=fun (a,n,i,_) =>
  cond (decide (i ≥ 0))
    ((idx a i).bind fun e =>
    some (.inl (a,IntKind.i64.wrap ((IntKind.i64.wrap (n * 1000000000))+e),IntKind.i64.wrap (i - 1),())))
    (some (.inr (n,())))
def zg7 (a:List Int) (n:Int) (i:Int):Option (Int × Unit):=whileO zb3 (a,n,i,())
def zdv (a:List Int):Option (Int × Bool) :=
  (zea a).bind fun r =>
  cond (!r)
    (some (0,false))
    ((zc4 a ([854775807,223372036,9]:List Int)).bind fun r1 =>
    cond (decide (r1 > 0))
      (some (0,false))
      ((zg7 a 0 (IntKind.i64.wrap ((a.length:Int) - 1))).bind fun (n,_) =>
      some (n,true)))
def zbN:Int × (List Int) × Unit→Option ((Int × (List Int) × Unit) ⊕ (Int × (List Int) × Unit)):=fun (n,a,_) =>
  cond (decide (n > 0))
    ((idx a (IntKind.i64.wrap (n - 1))).bind fun _ =>
    (a[(IntKind.i64.wrap (n - 1)).toNat]?).bind fun e =>
    cond (e==0)
      (some (.inl (IntKind.i64.wrap (n - 1),a,())))
      (some (.inr (n,a,()))))
    (some (.inr (n,a,())))
def zgu (n:Int) (a:List Int):Option (Int × (List Int) × Unit):=whileO zbN (n,a,())
def zbk (a:List Int):Option (List Int) :=
  (zgu (a.length:Int) a).bind fun (n,a1,_) =>
  (zak (inside a1.length (0,n))).bind fun _ =>
  some (a1.take n.toNat)
def zaV:(List Int) × (List Int) × Int × Int × (List Int) × Unit→Option (((List Int) × (List Int) × Int × Int × (List Int) × Unit) ⊕ ((List Int) × Unit)):=fun (a,b,carry,i,out,_) =>
  cond (decide (i < (a.length:Int)))
    (cond (decide (i < (a.length:Int)))
      ((idx a i).bind fun e =>
      cond (decide (i < (b.length:Int)))
        ((idx b i).bind fun e1 =>
        (zak (Nat.ble (out.length+1) zan)).bind fun _ =>
        some (.inl (a,b,IntKind.i64.wrap ((IntKind.i64.wrap ((IntKind.i64.wrap (carry+e))+e1)).tdiv 1000000000),IntKind.i64.wrap (i+1),out++([(IntKind.i64.wrap ((IntKind.i64.wrap (carry+e))+e1)).tmod 1000000000]:List Int),())))
        ((zak (Nat.ble (out.length+1) zan)).bind fun _ =>
        some (.inl (a,b,IntKind.i64.wrap ((IntKind.i64.wrap (carry+e)).tdiv 1000000000),IntKind.i64.wrap (i+1),out++([(IntKind.i64.wrap (carry+e)).tmod 1000000000]:List Int),()))))
      (cond (decide (i < (b.length:Int)))
        ((idx b i).bind fun e =>
        (zak (Nat.ble (out.length+1) zan)).bind fun _ =>
        some (.inl (a,b,IntKind.i64.wrap ((IntKind.i64.wrap (carry+e)).tdiv 1000000000),IntKind.i64.wrap (i+1),out++([(IntKind.i64.wrap (carry+e)).tmod 1000000000]:List Int),())))
        ((zak (Nat.ble (out.length+1) zan)).bind fun _ =>
        some (.inl (a,b,IntKind.i64.wrap (carry.tdiv 1000000000),IntKind.i64.wrap (i+1),out++([carry.tmod 1000000000]:List Int),())))))
    (cond (decide (i < (b.length:Int)))
      (cond (decide (i < (a.length:Int)))
        ((idx a i).bind fun e =>
        cond (decide (i < (b.length:Int)))
          ((idx b i).bind fun e1 =>
          (zak (Nat.ble (out.length+1) zan)).bind fun _ =>
          some (.inl (a,b,IntKind.i64.wrap ((IntKind.i64.wrap ((IntKind.i64.wrap (carry+e))+e1)).tdiv 1000000000),IntKind.i64.wrap (i+1),out++([(IntKind.i64.wrap ((IntKind.i64.wrap (carry+e))+e1)).tmod 1000000000]:List Int),())))
          ((zak (Nat.ble (out.length+1) zan)).bind fun _ =>
          some (.inl (a,b,IntKind.i64.wrap ((IntKind.i64.wrap (carry+e)).tdiv 1000000000),IntKind.i64.wrap (i+1),out++([(IntKind.i64.wrap (carry+e)).tmod 1000000000]:List Int),()))))
        (cond (decide (i < (b.length:Int)))
          ((idx b i).bind fun e =>
          (zak (Nat.ble (out.length+1) zan)).bind fun _ =>
          some (.inl (a,b,IntKind.i64.wrap ((IntKind.i64.wrap (carry+e)).tdiv 1000000000),IntKind.i64.wrap (i+1),out++([(IntKind.i64.wrap (carry+e)).tmod 1000000000]:List Int),())))
          ((zak (Nat.ble (out.length+1) zan)).bind fun _ =>
          some (.inl (a,b,IntKind.i64.wrap (carry.tdiv 1000000000),IntKind.i64.wrap (i+1),out++([carry.tmod 1000000000]:List Int),())))))
      (cond (decide (carry > 0))
        (cond (decide (i < (a.length:Int)))
          ((idx a i).bind fun e =>
          cond (decide (i < (b.length:Int)))
            ((idx b i).bind fun e1 =>
            (zak (Nat.ble (out.length+1) zan)).bind fun _ =>
            some (.inl (a,b,IntKind.i64.wrap ((IntKind.i64.wrap ((IntKind.i64.wrap (carry+e))+e1)).tdiv 1000000000),IntKind.i64.wrap (i+1),out++([(IntKind.i64.wrap ((IntKind.i64.wrap (carry+e))+e1)).tmod 1000000000]:List Int),())))
            ((zak (Nat.ble (out.length+1) zan)).bind fun _ =>
            some (.inl (a,b,IntKind.i64.wrap ((IntKind.i64.wrap (carry+e)).tdiv 1000000000),IntKind.i64.wrap (i+1),out++([(IntKind.i64.wrap (carry+e)).tmod 1000000000]:List Int),()))))
          (cond (decide (i < (b.length:Int)))
            ((idx b i).bind fun e =>
            (zak (Nat.ble (out.length+1) zan)).bind fun _ =>
            some (.inl (a,b,IntKind.i64.wrap ((IntKind.i64.wrap (carry+e)).tdiv 1000000000),IntKind.i64.wrap (i+1),out++([(IntKind.i64.wrap (carry+e)).tmod 1000000000]:List Int),())))
            ((zak (Nat.ble (out.length+1) zan)).bind fun _ =>
            some (.inl (a,b,IntKind.i64.wrap (carry.tdiv 1000000000),IntKind.i64.wrap (i+1),out++([carry.tmod 1000000000]:List Int),())))))
        (some (.inr (out,())))))
def ziz (a:List Int) (b:List Int) (carry:Int) (i:Int) (out:List Int):Option ((List Int) × Unit):=whileO zaV (a,b,carry,i,out,())
def zfA (a:List Int) (b:List Int):Option (List Int) :=
  (ziz a b 0 0 ([]:List Int)).bind fun (out,_) =>
  some out
def zc8:(List Int) × Int × Unit→Option (((List Int) × Int × Unit) ⊕ ((List Int) × Int × Unit)):=fun (a,n,_) =>
  cond (decide (n > 0))
    ((idx a (IntKind.i64.wrap (n - 1))).bind fun e =>
    cond (e==0)
      (some (.inl (a,IntKind.i64.wrap (n - 1),())))
      (some (.inr (a,n,()))))
    (some (.inr (a,n,())))
def zfq (a:List Int) (n:Int):Option ((List Int) × Int × Unit):=whileO zc8 (a,n,())
def zdd (a:List Int):Option (List Int) :=
  (zfq a (a.length:Int)).bind fun (a1,n,_) =>
  (zak (inside a1.length (0,n))).bind fun _ =>
  some (cut a1 0 n.toNat)
def zfz (a:List Int):Option (List Int) :=
  (zdd a).bind fun r =>
  cond (decide ((r.length:Int) > 60))
    (some ([]:List Int))
    (some r)
def zcG:(List Int) × Int × Int × Int × (List Int) × Int × Int × (List Int) × Int × Int × (List Int) × Unit→Option (((List Int) × Int × Int × Int × (List Int) × Int × Int × (List Int) × Int × Int × (List Int) × Unit) ⊕ ((List Int) × Int × Int × (List Int) × Int × Int × (List Int) × Unit)):=fun (b,i,x,carry,t,t1,t2,t3,t4,t5,out,_) =>
  cond (decide (t5 < t4))
    ((idx t3 t5).bind fun e =>
    (idx out (IntKind.i64.wrap (i+t5))).bind fun _ =>
    (out[(IntKind.i64.wrap (i+t5)).toNat]?).bind fun e1 =>
    (idx out (IntKind.i64.wrap (i+t5))).bind fun _ =>
    some (.inl (b,i,x,IntKind.i64.wrap ((IntKind.i64.wrap ((IntKind.i64.wrap (e1+(IntKind.i64.wrap (x * e))))+carry)).tdiv 1000000000),t,t1,t2,t3,t4,IntKind.i64.wrap (t5+1),out.set ((IntKind.i64.wrap (i+t5)).toNat) ((IntKind.i64.wrap ((IntKind.i64.wrap (e1+(IntKind.i64.wrap (x * e))))+carry)).tmod 1000000000),())))
    (some (.inr (b,i,carry,t,t1,t2,out,())))
def ziu (b:List Int) (i:Int) (x:Int) (carry:Int) (t:List Int) (t1:Int) (t2:Int) (t3:List Int) (t4:Int) (t5:Int) (out:List Int):Option ((List Int) × Int × Int × (List Int) × Int × Int × (List Int) × Unit):=whileO zcG (b,i,x,carry,t,t1,t2,t3,t4,t5,out,())
def zcH:(List Int) × (List Int) × Int × Int × (List Int) × Unit→Option (((List Int) × (List Int) × Int × Int × (List Int) × Unit) ⊕ ((List Int) × Unit)):=fun (b,t,t1,t2,out,_) =>
  cond (decide (t2 < t1))
    ((idx t t2).bind fun e =>
    (ziu b t2 e 0 t t1 t2 b (b.length:Int) 0 out).bind fun (b1,i,carry,t3,t4,t5,out1,_) =>
    (idx out1 (IntKind.i64.wrap (i+(b1.length:Int)))).bind fun _ =>
    some (.inl (b1,t3,t4,IntKind.i64.wrap (t5+1),out1.set ((IntKind.i64.wrap (i+(b1.length:Int))).toNat) carry,())))
    (some (.inr (out,())))
def ziv (b:List Int) (t:List Int) (t1:Int) (t2:Int) (out:List Int):Option ((List Int) × Unit):=whileO zcH (b,t,t1,t2,out,())
def zat (a:List Int) (b:List Int):Option (List Int) :=
  cond ((a.length:Int)==0)
    (some ([]:List Int))
    (cond ((b.length:Int)==0)
      (some ([]:List Int))
      ((zak (((decide (0≤(IntKind.i64.wrap ((a.length:Int)+(b.length:Int))))) && (decide ((IntKind.i64.wrap ((a.length:Int)+(b.length:Int)))≤(IntKind.i64.wrap ((a.length:Int)+(b.length:Int)))))) && (decide ((IntKind.i64.wrap ((a.length:Int)+(b.length:Int)))≤(zan:Int))))).bind fun _ =>
      (ziv b a (a.length:Int) 0 (List.replicate ((IntKind.i64.wrap ((a.length:Int)+(b.length:Int))).toNat) 0:List Int)).bind fun (out,_) =>
      (zbk out).bind fun r =>
      some r))
def zb2:(List Int) × (List Int) × Int × Int × Unit→Option (((List Int) × (List Int) × Int × Int × Unit) ⊕ (Int × Unit)):=fun (r,b,lo,hi,_) =>
  cond (decide (lo < hi))
    ((zcs (IntKind.i64.wrap ((IntKind.i64.wrap ((IntKind.i64.wrap (lo+hi))+1)).tdiv 2))).bind fun r1 =>
    (zat b r1).bind fun r2 =>
    (zc4 r2 r).bind fun r3 =>
    cond (decide (r3≤0))
      (some (.inl (r,b,IntKind.i64.wrap ((IntKind.i64.wrap ((IntKind.i64.wrap (lo+hi))+1)).tdiv 2),hi,())))
      (some (.inl (r,b,lo,IntKind.i64.wrap ((IntKind.i64.wrap ((IntKind.i64.wrap ((IntKind.i64.wrap (lo+hi))+1)).tdiv 2)) - 1),()))))
    (some (.inr (lo,())))
def zg6 (r:List Int) (b:List Int) (lo:Int) (hi:Int):Option (Int × Unit):=whileO zb2 (r,b,lo,hi,())
def zew (r:List Int) (b:List Int):Option Int :=
  (zg6 r b 0 999999999).bind fun (lo,_) =>
  some lo
def zbm:(List Int) × Int × Int × Int × (List Int) × Unit→Option (((List Int) × Int × Int × Int × (List Int) × Unit) ⊕ (Int × (List Int) × Unit)):=fun (a,d,rest,i,out,_) =>
  cond (decide (i ≥ 0))
    ((idx a i).bind fun e =>
    (zak (d != 0)).bind fun _ =>
    (idx out i).bind fun _ =>
    (zak (d != 0)).bind fun _ =>
    some (.inl (a,d,(IntKind.i64.wrap ((IntKind.i64.wrap (rest * 1000000000))+e)).tmod d,IntKind.i64.wrap (i - 1),out.set i.toNat (IntKind.i64.wrap ((IntKind.i64.wrap ((IntKind.i64.wrap (rest * 1000000000))+e)).tdiv d)),())))
    (some (.inr (rest,out,())))
def zg4 (a:List Int) (d:Int) (rest:Int) (i:Int) (out:List Int):Option (Int × (List Int) × Unit):=whileO zbm (a,d,rest,i,out,())
def zet (a:List Int) (d:Int):Option (List Int × Int) :=
  (zak (((decide (0≤(a.length:Int))) && (decide ((a.length:Int)≤(a.length:Int)))) && (decide ((a.length:Int)≤(zan:Int))))).bind fun _ =>
  (zg4 a d 0 (IntKind.i64.wrap ((a.length:Int) - 1)) (List.replicate ((a.length:Int).toNat) 0:List Int)).bind fun (rest,out,_) =>
  (zbk out).bind fun r =>
  some (r,rest)
def zbF:(List Int) × (List Int) × Int × Int × Int × (List Int) × Unit→Option (((List Int) × (List Int) × Int × Int × Int × (List Int) × Unit) ⊕ ((List Int) × Unit)):=fun (a,b,less,t,t1,out,_) =>
  cond (decide (t1 < t))
    ((idx a t1).bind fun e =>
    cond (decide (t1 < (b.length:Int)))
      ((idx b t1).bind fun e1 =>
      cond (decide ((IntKind.i64.wrap ((IntKind.i64.wrap (e - less)) - e1)) < 0))
        ((zak (Nat.ble (out.length+1) zan)).bind fun _ =>
        some (.inl (a,b,1,t,IntKind.i64.wrap (t1+1),out++([IntKind.i64.wrap ((IntKind.i64.wrap ((IntKind.i64.wrap (e - less)) - e1))+1000000000)]:List Int),())))
        ((zak (Nat.ble (out.length+1) zan)).bind fun _ =>
        some (.inl (a,b,0,t,IntKind.i64.wrap (t1+1),out++([IntKind.i64.wrap ((IntKind.i64.wrap (e - less)) - e1)]:List Int),()))))
      (cond (decide ((IntKind.i64.wrap (e - less)) < 0))
        ((zak (Nat.ble (out.length+1) zan)).bind fun _ =>
        some (.inl (a,b,1,t,IntKind.i64.wrap (t1+1),out++([IntKind.i64.wrap ((IntKind.i64.wrap (e - less))+1000000000)]:List Int),())))
        ((zak (Nat.ble (out.length+1) zan)).bind fun _ =>
        some (.inl (a,b,0,t,IntKind.i64.wrap (t1+1),out++([IntKind.i64.wrap (e - less)]:List Int),())))))
    (some (.inr (out,())))
def zit (a:List Int) (b:List Int) (less:Int) (t:Int) (t1:Int) (out:List Int):Option ((List Int) × Unit):=whileO zbF (a,b,less,t,t1,out,())
def zdI (a:List Int) (b:List Int):Option (List Int) :=
  (zit a b 0 (a.length:Int) 0 ([]:List Int)).bind fun (out,_) =>
  (zbk out).bind fun r =>
  some r
def zb9:(List Int) × (List Int) × Int × (List Int) × (List Int) × Unit→Option (((List Int) × (List Int) × Int × (List Int) × (List Int) × Unit) ⊕ ((List Int) × (List Int) × Unit)):=fun (a,b,i,out,rest,_) =>
  cond (decide (i ≥ 0))
    ((idx a i).bind fun e =>
    (zak (Nat.ble (1+rest.length) zan)).bind fun _ =>
    (zbk (([e]:List Int)++rest)).bind fun r =>
    (zc4 r b).bind fun r1 =>
    cond (decide (r1 < 0))
      (some (.inl (a,b,IntKind.i64.wrap (i - 1),out,r,())))
      ((zew r b).bind fun r2 =>
      (idx out i).bind fun _ =>
      (zcs r2).bind fun r3 =>
      (zat b r3).bind fun r4 =>
      (zdI r r4).bind fun r5 =>
      some (.inl (a,b,IntKind.i64.wrap (i - 1),out.set i.toNat r2,r5,()))))
    (some (.inr (out,rest,())))
def zix (a:List Int) (b:List Int) (i:Int) (out:List Int) (rest:List Int):Option ((List Int) × (List Int) × Unit):=whileO zb9 (a,b,i,out,rest,())
def zc3 (a:List Int) (b:List Int):Option (List Int × List Int) :=
  cond ((b.length:Int)==1)
    ((idx b 0).bind fun e =>
    (zet a e).bind fun (r0,r1) =>
    (zcs r1).bind fun r =>
    some (r0,r))
    ((zak (((decide (0≤(a.length:Int))) && (decide ((a.length:Int)≤(a.length:Int)))) && (decide ((a.length:Int)≤(zan:Int))))).bind fun _ =>
    (zix a b (IntKind.i64.wrap ((a.length:Int) - 1)) (List.replicate ((a.length:Int).toNat) 0:List Int) ([]:List Int)).bind fun (out,rest,_) =>
    (zbk out).bind fun r =>
    some (r,rest))
def zb1:Int × Int × Unit→Option ((Int × Int × Unit) ⊕ (Int × Unit)):=fun (x,y,_) =>
  cond (decide (y > 0))
    ((zak (y != 0)).bind fun _ =>
    some (.inl (y,x.tmod y,())))
    (some (.inr (x,())))
def zg5 (x:Int) (y:Int):Option (Int × Unit):=whileO zb1 (x,y,())
def zeu (x:Int) (y:Int):Option (List Int) :=
  (zg5 x y).bind fun (x1,_) =>
  (zcs x1).bind fun r =>
  some r
def zbG:(List Int) × (List Int) × Unit→Option (((List Int) × (List Int) × Unit) ⊕ (((List Int) × Unit) ⊕ ((List Int) × Unit))):=fun (x,y,_) =>
  cond (decide ((y.length:Int) > 0))
    (cond (decide ((x.length:Int) < 3))
      (cond (decide ((y.length:Int) < 3))
        ((zdv x).bind fun (r0,_) =>
        (zdv y).bind fun (r0_1,_) =>
        (zeu r0 r0_1).bind fun r =>
        some (.inr (.inl (r,()))))
        ((zc3 x y).bind fun (_,r1) =>
        some (.inl (y,r1,()))))
      ((zc3 x y).bind fun (_,r1) =>
      some (.inl (y,r1,()))))
    (some (.inr (.inr (x,()))))
def ziw (x:List Int) (y:List Int):Option (((List Int) × Unit) ⊕ ((List Int) × Unit)):=whileO zbG (x,y,())
def zev (a:List Int) (b:List Int):Option (List Int) :=
  (zak (Nat.ble a.length zan)).bind fun _ =>
  (zak (Nat.ble b.length zan)).bind fun _ =>
  (ziw a b).bind fun r =>
  match r with
  | .inl (t,_) =>
    some t
  | .inr (x,_) =>
    some x
end Go.Di
namespace Go.Di
def zds:(List Int) × (List Int) × Int × Unit→Option (((List Int) × (List Int) × Int × Unit) ⊕ ((Bool × Unit) ⊕ (Unit))):=fun (a,b,i,_) =>
  cond (decide (i < (a.length:Int)))
    ((idx a i).bind fun e =>
    (idx b i).bind fun e1 =>
    cond (e != e1)
      (some (.inr (.inl (false,()))))
      (some (.inl (a,b,IntKind.i64.wrap (i+1),()))))
    (some (.inr (.inr (()))))
def ziC (a:List Int) (b:List Int) (i:Int):Option ((Bool × Unit) ⊕ (Unit)):=whileO zds (a,b,i,())
def zeE (a:List Int) (b:List Int):Option Bool :=
  cond ((a.length:Int) != (b.length:Int))
    (some false)
    ((ziC a b 0).bind fun r =>
    match r with
    | .inl (t,_) =>
      some t
    | .inr _ =>
      some true)
def zf8 (a:Bg) (b:Bg):Option Bool :=
  cond (!(a.neg==b.neg))
    (some false)
    ((zeE a.mag b.mag).bind fun r =>
    cond (!r)
      (some false)
      (some true))
def zgr (a:Rt) (b:Rt):Option Bool :=
  (zf8 (⟨a.neg,a.mag⟩:Bg) (⟨b.neg,b.mag⟩:Bg)).bind fun r =>
  cond (!r)
    (some false)
    ((zeE a.den b.den).bind fun r1 =>
    cond (!r1)
      (some false)
      (some true))
def zen:(List Rt) × (List Rt) × Int × Unit→Option (((List Rt) × (List Rt) × Int × Unit) ⊕ ((Bool × Unit) ⊕ (Unit))):=fun (a,b,i,_) =>
  cond (decide (i < (a.length:Int)))
    ((idx a i).bind fun e =>
    (idx b i).bind fun e1 =>
    (zgr e e1).bind fun r =>
    cond (!r)
      (some (.inr (.inl (false,()))))
      (some (.inl (a,b,IntKind.i64.wrap (i+1),()))))
    (some (.inr (.inr (()))))
def zom (a:List Rt) (b:List Rt) (i:Int):Option ((Bool × Unit) ⊕ (Unit)):=whileO zen (a,b,i,())
def zfC (a:List Rt) (b:List Rt):Option Bool :=
  cond ((a.length:Int) != (b.length:Int))
    (some false)
    ((zom a b 0).bind fun r =>
    match r with
    | .inl (t,_) =>
      some t
    | .inr _ =>
      some true)
def zeD (a:Mx) (b:Mx):Option Bool :=
  cond (a.rows != b.rows)
    (some false)
    (cond (a.cols != b.cols)
      (some false)
      ((zfC a.cells b.cells).bind fun r =>
      cond (!r)
        (some false)
        (some true)))
def zd4:(List (List Rt)) × (List (List Rt)) × Int × Unit→Option (((List (List Rt)) × (List (List Rt)) × Int × Unit) ⊕ ((Bool × Unit) ⊕ (Unit))):=fun (a,b,i,_) =>
  cond (decide (i < (a.length:Int)))
    ((idx a i).bind fun e =>
    (idx b i).bind fun e1 =>
    (zfC e e1).bind fun r =>
    cond (!r)
      (some (.inr (.inl (false,()))))
      (some (.inl (a,b,IntKind.i64.wrap (i+1),()))))
    (some (.inr (.inr (()))))
def zmv (a:List (List Rt)) (b:List (List Rt)) (i:Int):Option ((Bool × Unit) ⊕ (Unit)):=whileO zd4 (a,b,i,())
def zdZ (a:List (List Rt)) (b:List (List Rt)):Option Bool :=
  cond ((a.length:Int) != (b.length:Int))
    (some false)
    ((zmv a b 0).bind fun r =>
    match r with
    | .inl (t,_) =>
      some t
    | .inr _ =>
      some true)
def zb4:(List Int) × Int × Int × Unit→Option (((List Int) × Int × Int × Unit) ⊕ ((Int × Unit) ⊕ (Int × Unit))):=fun (a,k,i,_) =>
  cond (decide (i < (a.length:Int)))
    ((idx a i).bind fun e =>
    cond (e != k)
      (some (.inr (.inl ((-1),()))))
      (some (.inl (a,IntKind.i64.wrap (k+1),IntKind.i64.wrap (i+1),()))))
    (some (.inr (.inr (k,()))))
def zha (a:List Int) (k:Int) (i:Int):Option ((Int × Unit) ⊕ (Int × Unit)):=whileO zb4 (a,k,i,())
def zdw (a:List Int) (k:Int):Option Int :=
  (zha a k 0).bind fun r =>
  match r with
  | .inl (t,_) =>
    some t
  | .inr (k1,_) =>
    some k1
def zcJ:(List Rt) × Int × Int × Unit→Option (((List Rt) × Int × Int × Unit) ⊕ ((Int × Unit) ⊕ (Int × Unit))):=fun (a,k,i,_) =>
  cond (decide (i < (a.length:Int)))
    ((idx a i).bind fun e =>
    cond (!(e.neg==((k.tmod 3)==0)))
      (some (.inr (.inl ((-1),()))))
      ((idx a i).bind fun e1 =>
      (zdw e1.mag (IntKind.i64.wrap (k+1))).bind fun r =>
      cond (decide (r < 0))
        (some (.inr (.inl ((-1),()))))
        ((idx a i).bind fun e2 =>
        (zdw e2.den r).bind fun r1 =>
        cond (decide (r1 < 0))
          (some (.inr (.inl ((-1),()))))
          (some (.inl (a,r1,IntKind.i64.wrap (i+1),()))))))
    (some (.inr (.inr (k,()))))
def zg9 (a:List Rt) (k:Int) (i:Int):Option ((Int × Unit) ⊕ (Int × Unit)):=whileO zcJ (a,k,i,())
def zeC (a:List Rt) (k:Int):Option Int :=
  (zg9 a k 0).bind fun r =>
  match r with
  | .inl (t,_) =>
    some t
  | .inr (k1,_) =>
    some k1
def zco:(List (List Rt)) × Int × Int × Unit→Option (((List (List Rt)) × Int × Int × Unit) ⊕ ((Int × Unit) ⊕ (Int × Unit))):=fun (a,k,i,_) =>
  cond (decide (i < (a.length:Int)))
    ((idx a i).bind fun e =>
    (zeC e k).bind fun r =>
    cond (decide (r < 0))
      (some (.inr (.inl ((-1),()))))
      (some (.inl (a,r,IntKind.i64.wrap (i+1),()))))
    (some (.inr (.inr (k,()))))
def zgv (a:List (List Rt)) (k:Int) (i:Int):Option ((Int × Unit) ⊕ (Int × Unit)):=whileO zco (a,k,i,())
def zc9 (a:List (List Rt)) (k:Int):Option Int :=
  (zgv a k 0).bind fun r =>
  match r with
  | .inl (t,_) =>
    some t
  | .inr (k1,_) =>
    some k1
def zbi:Int × Int × (List Int) × Unit→Option ((Int × Int × (List Int) × Unit) ⊕ (Int × (List Int) × Unit)):=fun (k,i,a,_) =>
  cond (decide (i < (a.length:Int)))
    ((idx a i).bind fun _ =>
    some (.inl (IntKind.i64.wrap (k+1),IntKind.i64.wrap (i+1),a.set i.toNat k,())))
    (some (.inr (k,a,())))
def zfs (k:Int) (i:Int) (a:List Int):Option (Int × (List Int) × Unit):=whileO zbi (k,i,a,())
def zcu (a:List Int) (k:Int):Option (Int × List Int) :=
  (zfs k 0 a).bind fun (k1,a1,_) =>
  some (k1,a1)
def zbU:Int × Int × (List Rt) × Unit→Option ((Int × Int × (List Rt) × Unit) ⊕ (Int × (List Rt) × Unit)):=fun (k,i,a,_) =>
  cond (decide (i < (a.length:Int)))
    ((idx a i).bind fun _ =>
    ((a[i.toNat]?).bind fun e=>some (⟨(k.tmod 3)==0,e.mag,e.den⟩:Rt)).bind fun e =>
    (idx (a.set i.toNat e) i).bind fun _ =>
    ((a.set i.toNat e)[i.toNat]?).bind fun e1 =>
    ((zcu e1.mag (IntKind.i64.wrap (k+1))).bind fun y=>((a.set i.toNat e)[i.toNat]?).bind fun e=>some ((⟨e.neg,y.2,e.den⟩:Rt),y.1)).bind fun (e2,r) =>
    (idx ((a.set i.toNat e).set i.toNat e2) i).bind fun _ =>
    (((a.set i.toNat e).set i.toNat e2)[i.toNat]?).bind fun e3 =>
    ((zcu e3.den r).bind fun y=>(((a.set i.toNat e).set i.toNat e2)[i.toNat]?).bind fun e=>some ((⟨e.neg,e.mag,y.2⟩:Rt),y.1)).bind fun (e4,r1) =>
    some (.inl (r1,IntKind.i64.wrap (i+1),((a.set i.toNat e).set i.toNat e2).set i.toNat e4,())))
    (some (.inr (k,a,())))
def zfr (k:Int) (i:Int) (a:List Rt):Option (Int × (List Rt) × Unit):=whileO zbU (k,i,a,())
def zct (a:List Rt) (k:Int):Option (Int × List Rt) :=
  (zfr k 0 a).bind fun (k1,a1,_) =>
  some (k1,a1)
def zcE (a:Mx) (k:Int):Option (Int × List Rt) :=
  (zct a.cells k).bind fun (r0,x0) =>
  some (r0,x0)
def zbH:Int × Int × (List (List Rt)) × Unit→Option ((Int × Int × (List (List Rt)) × Unit) ⊕ (Int × (List (List Rt)) × Unit)):=fun (k,i,a,_) =>
  cond (decide (i < (a.length:Int)))
    ((idx a i).bind fun _ =>
    (a[i.toNat]?).bind fun e =>
    ((a[i.toNat]?).bind fun e=>(zct e k).bind fun y=>some (y.2,y.1)).bind fun (e1,r) =>
    some (.inl (r,IntKind.i64.wrap (i+1),a.set i.toNat e1,())))
    (some (.inr (k,a,())))
def zfn (k:Int) (i:Int) (a:List (List Rt)):Option (Int × (List (List Rt)) × Unit):=whileO zbH (k,i,a,())
def zc5 (a:List (List Rt)) (k:Int):Option (Int × List (List Rt)) :=
  (zfn k 0 a).bind fun (k1,a1,_) =>
  some (k1,a1)
def zeB (a:List Int) (left:Int):Option Int :=
  cond (decide ((IntKind.i64.wrap (left - (a.length:Int))) < 0))
    (some (-1))
    (some (IntKind.i64.wrap (left - (a.length:Int))))
def zf7 (a:Bg) (left:Int):Option Int :=
  (zeB a.mag left).bind fun r =>
  cond (decide (r < 0))
    (some (-1))
    (some r)
def zgq (a:Rt) (left:Int):Option Int :=
  (zf7 (⟨a.neg,a.mag⟩:Bg) left).bind fun r =>
  cond (decide (r < 0))
    (some (-1))
    ((zeB a.den r).bind fun r1 =>
    cond (decide (r1 < 0))
      (some (-1))
      (some r1))
def zem:(List Rt) × Int × Int × Unit→Option (((List Rt) × Int × Int × Unit) ⊕ ((Int × Unit) ⊕ (Int × Unit))):=fun (a,left,i,_) =>
  cond (decide (i < (a.length:Int)))
    ((idx a i).bind fun e =>
    (zgq e left).bind fun r =>
    cond (decide (r < 0))
      (some (.inr (.inl ((-1),()))))
      (some (.inl (a,r,IntKind.i64.wrap (i+1),()))))
    (some (.inr (.inr (left,()))))
def zol (a:List Rt) (left:Int) (i:Int):Option ((Int × Unit) ⊕ (Int × Unit)):=whileO zem (a,left,i,())
def zhU (a:List Rt) (left:Int):Option Int :=
  cond (decide ((IntKind.i64.wrap (left - (a.length:Int))) < 0))
    (some (-1))
    ((zol a (IntKind.i64.wrap (left - (a.length:Int))) 0).bind fun r =>
    match r with
    | .inl (t,_) =>
      some t
    | .inr (left1,_) =>
      some left1)
def zeA (a:Mx) (left:Int):Option Int :=
  (zhU a.cells left).bind fun r =>
  cond (decide (r < 0))
    (some (-1))
    (some r)
def zdr:(List Int) × Int × (List Int) × Unit→Option (((List Int) × Int × (List Int) × Unit) ⊕ ((List Int) × Unit)):=fun (a,i,out,_) =>
  cond (decide (i < (a.length:Int)))
    ((idx a i).bind fun e =>
    (idx out i).bind fun _ =>
    some (.inl (a,IntKind.i64.wrap (i+1),out.set i.toNat e,())))
    (some (.inr (out,())))
def ziB (a:List Int) (i:Int) (out:List Int):Option ((List Int) × Unit):=whileO zdr (a,i,out,())
def zez (a:List Int):Option (List Int) :=
  (zak (((decide (0≤(a.length:Int))) && (decide ((a.length:Int)≤(a.length:Int)))) && (decide ((a.length:Int)≤(zan:Int))))).bind fun _ =>
  (ziB a 0 (List.replicate ((a.length:Int).toNat) 0:List Int)).bind fun (out,_) =>
  some out
def zf6 (a:Bg):Option Bg :=
  (zez a.mag).bind fun r =>
  some (⟨a.neg,r⟩:Bg)
def zgp (a:Rt):Option Rt :=
  (zf6 (⟨a.neg,a.mag⟩:Bg)).bind fun r =>
  (zez a.den).bind fun r1 =>
  some (⟨r.neg,r.mag,r1⟩:Rt)
def zdq:(List Rt) × Int × (List Rt) × Unit→Option (((List Rt) × Int × (List Rt) × Unit) ⊕ ((List Rt) × Unit)):=fun (a,i,out,_) =>
  cond (decide (i < (a.length:Int)))
    ((idx a i).bind fun e =>
    (zgp e).bind fun r =>
    (idx out i).bind fun _ =>
    ((out[i.toNat]?).bind fun _=>some r).bind fun e1 =>
    some (.inl (a,IntKind.i64.wrap (i+1),out.set i.toNat e1,())))
    (some (.inr (out,())))
def ziA (a:List Rt) (i:Int) (out:List Rt):Option ((List Rt) × Unit):=whileO zdq (a,i,out,())
def zfB (a:List Rt):Option (List Rt) :=
  (zak (((decide (0≤(a.length:Int))) && (decide ((a.length:Int)≤(a.length:Int)))) && (decide ((a.length:Int)≤(zan:Int))))).bind fun _ =>
  (ziA a 0 (List.replicate ((a.length:Int).toNat) (⟨false,([]:List Int),([]:List Int)⟩:Rt):List Rt)).bind fun (out,_) =>
  some out
def zce (a:Mx):Option Mx :=
  (zfB a.cells).bind fun r =>
  some (⟨a.rows,a.cols,r⟩:Mx)
end Go.Di
namespace Go.Di
def zaL (neg:Bool) (mag:List Int):Option Bg :=
  cond ((mag.length:Int)==0)
    (some (⟨false,([]:List Int)⟩:Bg))
    (some (⟨neg,mag⟩:Bg))
def zdA (n:Int):Option Bg :=
  cond (decide (n ≥ 0))
    ((zfl n).bind fun r =>
    (zaL false r).bind fun r1 =>
    some r1)
    ((zfl (IntKind.i64.wrap (0 - (IntKind.i64.wrap (n+1))))).bind fun r =>
    (zeJ r ([1]:List Int)).bind fun r1 =>
    (zaL true r1).bind fun r2 =>
    some r2)
def zcg (x:Bg):Option Bool :=
  (zfk x.mag).bind fun r =>
  cond r
    (cond (decide ((x.mag.length:Int) > 0))
      (some true)
      (some (!x.neg)))
    (some false)
def zdM (x:Bg) (y:Bg):Option Bg :=
  cond (x.neg==y.neg)
    ((zeJ x.mag y.mag).bind fun r =>
    (zaL x.neg r).bind fun r1 =>
    some r1)
    ((zeI x.mag y.mag).bind fun r =>
    cond (decide (r ≥ 0))
      ((zeH x.mag y.mag).bind fun r1 =>
      (zaL x.neg r1).bind fun r2 =>
      some r2)
      ((zeH y.mag x.mag).bind fun r1 =>
      (zaL y.neg r1).bind fun r2 =>
      some r2))
def zbE (x:Bg) (y:Bg):Option Bg :=
  (zbc x.mag y.mag).bind fun r =>
  (zaL (!(x.neg==y.neg)) r).bind fun r1 =>
  some r1
def zeK (x:Bg):Option Bg :=
  (zaN x.mag).bind fun r =>
  (zaL (!x.neg) r).bind fun r1 =>
  some r1
def zfD (neg:Bool) (mag:List Int):Option Bg :=
  cond ((mag.length:Int)==0)
    (some (⟨false,([]:List Int)⟩:Bg))
    (some (⟨neg,mag⟩:Bg))
def zav (neg:Bool) (a:List Int):Option Bg :=
  (zfz a).bind fun r =>
  cond neg
    ((zak (Nat.ble r.length zan)).bind fun _ =>
    some (⟨decide ((r.length:Int) > 0),r⟩:Bg))
    ((zak (Nat.ble r.length zan)).bind fun _ =>
    some (⟨false,r⟩:Bg))
def zey (n:Int):Option Bg :=
  cond (n==(-9223372036854775808))
    ((zav true ([854775808,223372036,9]:List Int)).bind fun r =>
    some r)
    (cond (decide (n < 0))
      ((zcs (IntKind.i64.wrap (0 - n))).bind fun r =>
      (zav true r).bind fun r1 =>
      some r1)
      ((zcs n).bind fun r =>
      (zav false r).bind fun r1 =>
      some r1))
def zf5 (x:Bg):Option Bool :=
  (zea x.mag).bind fun r =>
  cond r
    (cond (!x.neg)
      (some true)
      (some (decide ((x.mag.length:Int) > 0))))
    (some false)
def zcq (x:Bg) (y:Bg):Option Bg :=
  cond (x.neg==y.neg)
    ((zfA x.mag y.mag).bind fun r =>
    (zav x.neg r).bind fun r1 =>
    some r1)
    ((zc4 x.mag y.mag).bind fun r =>
    cond (decide (r ≥ 0))
      ((zdI x.mag y.mag).bind fun r1 =>
      (zav x.neg r1).bind fun r2 =>
      some r2)
      ((zdI y.mag x.mag).bind fun r1 =>
      (zav y.neg r1).bind fun r2 =>
      some r2))
end Go.Di
namespace Go.Di
def zfj (a:List Int):Option Bool :=
  cond ((a.length:Int)==1)
    ((idx a 0).bind fun e =>
    some (e==1))
    (some false)
def zgs (r:Rt):Option Bool :=
  (zcg (⟨r.neg,r.mag⟩:Bg)).bind fun r1 =>
  cond (!r1)
    (some false)
    ((zfk r.den).bind fun r2 =>
    cond (!r2)
      (some false)
      (cond ((r.den.length:Int)==0)
        (some false)
        (cond (decide ((r.mag.length:Int) > 24))
          (some false)
          (cond (decide ((r.den.length:Int) > 24))
            (some false)
            ((zdJ r.den r.mag).bind fun r3 =>
            (zfj r3).bind fun r4 =>
            some r4)))))
def zbx (r:Rt):Option Bool :=
  some ((r.den.length:Int)==0)
def zb5:(List Int) × (List Int) × Int × Int × Unit→Option (((List Int) × (List Int) × Int × Int × Unit) ⊕ ((Bool × Unit) ⊕ (Unit))):=fun (a,b,t,t1,_) =>
  cond (decide (t1 < t))
    ((idx a t1).bind fun e =>
    (idx b t1).bind fun e1 =>
    cond (e != e1)
      (some (.inr (.inl (false,()))))
      (some (.inl (a,b,t,IntKind.i64.wrap (t1+1),()))))
    (some (.inr (.inr (()))))
def zhb (a:List Int) (b:List Int) (t:Int) (t1:Int):Option ((Bool × Unit) ⊕ (Unit)):=whileO zb5 (a,b,t,t1,())
def zeF (a:List Int) (b:List Int):Option Bool :=
  cond ((a.length:Int) != (b.length:Int))
    (some false)
    ((zhb a b (a.length:Int) 0).bind fun r =>
    match r with
    | .inl (t,_) =>
      some t
    | .inr _ =>
      some true)
def zbR (num:Bg) (den:List Int):Option Rt :=
  cond ((num.mag.length:Int)==0)
    (some (⟨false,([]:List Int),([1]:List Int)⟩:Rt))
    ((zdJ den num.mag).bind fun r =>
    (zfj r).bind fun r1 =>
    cond (!r1)
      ((zbD num.mag r).bind fun (r0,_) =>
      (zbD den r).bind fun (r0_1,_) =>
      (zaL num.neg r0).bind fun r2 =>
      cond (decide ((r2.mag.length:Int) > 24))
        (some (⟨false,([]:List Int),([]:List Int)⟩:Rt))
        (cond (decide ((r0_1.length:Int) > 24))
          (some (⟨false,([]:List Int),([]:List Int)⟩:Rt))
          (some (⟨r2.neg,r2.mag,r0_1⟩:Rt))))
      (cond (decide ((num.mag.length:Int) > 24))
        (some (⟨false,([]:List Int),([]:List Int)⟩:Rt))
        (cond (decide ((den.length:Int) > 24))
          (some (⟨false,([]:List Int),([]:List Int)⟩:Rt))
          (some (⟨num.neg,num.mag,den⟩:Rt)))))
def zjK (r:Rt) (s:Rt):Option Rt :=
  (zbx r).bind fun r1 =>
  cond r1
    (some (⟨false,([]:List Int),([]:List Int)⟩:Rt))
    ((zbx s).bind fun r2 =>
    cond r2
      (some (⟨false,([]:List Int),([]:List Int)⟩:Rt))
      ((zeF r.den s.den).bind fun r3 =>
      cond r3
        ((zdM (⟨r.neg,r.mag⟩:Bg) (⟨s.neg,s.mag⟩:Bg)).bind fun r4 =>
        (zaN r.den).bind fun r5 =>
        (zbR r4 r5).bind fun r6 =>
        some r6)
        ((zbE (⟨r.neg,r.mag⟩:Bg) (⟨false,s.den⟩:Bg)).bind fun r4 =>
        (zbE (⟨s.neg,s.mag⟩:Bg) (⟨false,r.den⟩:Bg)).bind fun r5 =>
        (zdM r4 r5).bind fun r6 =>
        (zbc r.den s.den).bind fun r7 =>
        (zbR r6 r7).bind fun r8 =>
        some r8)))
def zfE (num:Bg) (den:List Int):Option Rt :=
  cond ((num.mag.length:Int)==0)
    (some (⟨false,([]:List Int),([1]:List Int)⟩:Rt))
    ((zdJ den num.mag).bind fun r =>
    (zfj r).bind fun r1 =>
    cond (!r1)
      ((zbD num.mag r).bind fun (r0,_) =>
      (zbD den r).bind fun (r0_1,_) =>
      (zaL num.neg r0).bind fun r2 =>
      cond (decide ((r2.mag.length:Int) > 24))
        (some (⟨false,([]:List Int),([]:List Int)⟩:Rt))
        (cond (decide ((r0_1.length:Int) > 24))
          (some (⟨false,([]:List Int),([]:List Int)⟩:Rt))
          (some (⟨r2.neg,r2.mag,r0_1⟩:Rt))))
      (cond (decide ((num.mag.length:Int) > 24))
        (some (⟨false,([]:List Int),([]:List Int)⟩:Rt))
        (cond (decide ((den.length:Int) > 24))
          (some (⟨false,([]:List Int),([]:List Int)⟩:Rt))
          (some (⟨num.neg,num.mag,den⟩:Rt)))))
def zd0 (r:Rt):Option Rt :=
  (zaN r.mag).bind fun r1 =>
  (zaN r.den).bind fun r2 =>
  some (⟨r.neg,r1,r2⟩:Rt)
def zfa (num:Bg) (den:Bg):Option Rt :=
  (zcg num).bind fun r =>
  cond (!r)
    (some (⟨false,([]:List Int),([]:List Int)⟩:Rt))
    ((zcg den).bind fun r1 =>
    cond (!r1)
      (some (⟨false,([]:List Int),([]:List Int)⟩:Rt))
      (cond ((den.mag.length:Int)==0)
        (some (⟨false,([]:List Int),([]:List Int)⟩:Rt))
        ((zfD (!(num.neg==den.neg)) num.mag).bind fun r2 =>
        (zfE r2 den.mag).bind fun r3 =>
        (zd0 r3).bind fun r4 =>
        some r4)))
def zgt (n:Int) (d:Int):Option Rt :=
  (zdA n).bind fun r =>
  (zdA d).bind fun r1 =>
  (zfa r r1).bind fun r2 =>
  some r2
def zdN (n:Int):Option Rt :=
  (zgt n 1).bind fun r =>
  some r
def zeb (r:Rt) (s:Rt):Option Rt :=
  (zbx r).bind fun r1 =>
  cond r1
    (some (⟨false,([]:List Int),([]:List Int)⟩:Rt))
    ((zbx s).bind fun r2 =>
    cond r2
      (some (⟨false,([]:List Int),([]:List Int)⟩:Rt))
      ((zbE (⟨r.neg,r.mag⟩:Bg) (⟨s.neg,s.mag⟩:Bg)).bind fun r3 =>
      (zbc r.den s.den).bind fun r4 =>
      (zbR r3 r4).bind fun r5 =>
      some r5))
def zfM (r:Rt):Option Rt :=
  (zbx r).bind fun r1 =>
  cond r1
    (some (⟨false,([]:List Int),([]:List Int)⟩:Rt))
    ((zeK (⟨r.neg,r.mag⟩:Bg)).bind fun r2 =>
    (zaN r.den).bind fun r3 =>
    some (⟨r2.neg,r2.mag,r3⟩:Rt))
def zg2 (r:Rt) (s:Rt):Option Rt :=
  (zfM s).bind fun r1 =>
  (zjK r r1).bind fun r2 =>
  some r2
def zbu:(List Rt) × Int × Int × (List Rt) × Unit→Option (((List Rt) × Int × Int × (List Rt) × Unit) ⊕ ((List Rt) × Unit)):=fun (t,t1,t2,out,_) =>
  cond (decide (t2 < t1))
    ((idx t t2).bind fun e =>
    (zd0 e).bind fun r =>
    (zak (Nat.ble (out.length+1) zan)).bind fun _ =>
    some (.inl (t,t1,IntKind.i64.wrap (t2+1),out++([r]:List Rt),())))
    (some (.inr (out,())))
def zge (t:List Rt) (t1:Int) (t2:Int) (out:List Rt):Option ((List Rt) × Unit):=whileO zbu (t,t1,t2,out,())
def zb7 (v:List Rt):Option (List Rt) :=
  (zge v (v.length:Int) 0 ([]:List Rt)).bind fun (out,_) =>
  some out
def zfN (r:Rt) (s:Rt):Option Rt :=
  (zbx r).bind fun r1 =>
  cond r1
    (some (⟨false,([]:List Int),([]:List Int)⟩:Rt))
    ((zbx s).bind fun r2 =>
    cond r2
      (some (⟨false,([]:List Int),([]:List Int)⟩:Rt))
      (cond ((s.mag.length:Int)==0)
        (some (⟨false,([]:List Int),([]:List Int)⟩:Rt))
        ((zeb r (⟨s.neg,s.den,s.mag⟩:Rt)).bind fun r3 =>
        some r3)))
def zdK (r:Rt):Option Bool :=
  some ((r.mag.length:Int)==0)
def zbL (n:Int):Option Rt :=
  (zdN n).bind fun r =>
  some r
def zc2 (a:List Int):Option Bool :=
  cond ((a.length:Int)==1)
    ((idx a 0).bind fun e =>
    some (e==1))
    (some false)
def zgo (r:Rt):Option Bool :=
  (zf5 (⟨r.neg,r.mag⟩:Bg)).bind fun r1 =>
  cond (!r1)
    (some false)
    ((zea r.den).bind fun r2 =>
    cond (!r2)
      (some false)
      (cond ((r.den.length:Int)==0)
        (some false)
        (cond (decide ((r.den.length:Int) > 24))
          (some false)
          (cond (decide ((r.mag.length:Int) > 24))
            (some false)
            ((zev r.mag r.den).bind fun r3 =>
            (zc2 r3).bind fun r4 =>
            some r4)))))
def zba (n:Int):Option Rt :=
  (zey n).bind fun r =>
  some (⟨r.neg,r.mag,([1]:List Int)⟩:Rt)
def zaO (neg:Bool) (a:List Int) (b:List Int):Option Rt :=
  (zdd a).bind fun r =>
  (zdd b).bind fun r1 =>
  cond ((r1.length:Int)==0)
    (some (⟨false,([]:List Int),([]:List Int)⟩:Rt))
    ((zc2 r1).bind fun r2 =>
    cond (!r2)
      ((zev r r1).bind fun r3 =>
      (zc2 r3).bind fun r4 =>
      cond (!r4)
        ((zc3 r r3).bind fun (r0,_) =>
        (zc3 r1 r3).bind fun (r0_1,_) =>
        cond (decide ((r0.length:Int) > 24))
          (some (⟨false,([]:List Int),([]:List Int)⟩:Rt))
          (cond (decide ((r0_1.length:Int) > 24))
            (some (⟨false,([]:List Int),([]:List Int)⟩:Rt))
            ((zav neg r0).bind fun r5 =>
            (zak (Nat.ble r0_1.length zan)).bind fun _ =>
            some (⟨r5.neg,r5.mag,r0_1⟩:Rt))))
        (cond (decide ((r.length:Int) > 24))
          (some (⟨false,([]:List Int),([]:List Int)⟩:Rt))
          (cond (decide ((r1.length:Int) > 24))
            (some (⟨false,([]:List Int),([]:List Int)⟩:Rt))
            ((zav neg r).bind fun r5 =>
            (zak (Nat.ble r1.length zan)).bind fun _ =>
            some (⟨r5.neg,r5.mag,r1⟩:Rt)))))
      (cond (decide ((r.length:Int) > 24))
        (some (⟨false,([]:List Int),([]:List Int)⟩:Rt))
        (cond (decide ((r1.length:Int) > 24))
          (some (⟨false,([]:List Int),([]:List Int)⟩:Rt))
          ((zav neg r).bind fun r3 =>
          (zak (Nat.ble r1.length zan)).bind fun _ =>
          some (⟨r3.neg,r3.mag,r1⟩:Rt)))))
def zdH (r:Rt) (s:Rt):Option Rt :=
  (zc2 r.den).bind fun r1 =>
  cond r1
    ((zc2 s.den).bind fun r2 =>
    cond r2
      ((zcq (⟨r.neg,r.mag⟩:Bg) (⟨s.neg,s.mag⟩:Bg)).bind fun r3 =>
      (zaO r3.neg r3.mag ([1]:List Int)).bind fun r4 =>
      some r4)
      ((zat r.mag s.den).bind fun r3 =>
      (zav r.neg r3).bind fun r4 =>
      (zat s.mag r.den).bind fun r5 =>
      (zav s.neg r5).bind fun r6 =>
      (zcq r4 r6).bind fun r7 =>
      (zat r.den s.den).bind fun r8 =>
      (zaO r7.neg r7.mag r8).bind fun r9 =>
      some r9))
    ((zat r.mag s.den).bind fun r2 =>
    (zav r.neg r2).bind fun r3 =>
    (zat s.mag r.den).bind fun r4 =>
    (zav s.neg r4).bind fun r5 =>
    (zcq r3 r5).bind fun r6 =>
    (zat r.den s.den).bind fun r7 =>
    (zaO r6.neg r6.mag r7).bind fun r8 =>
    some r8)
def ze9 (r:Rt):Option Rt :=
  (zak (Nat.ble r.mag.length zan)).bind fun _ =>
  (zak (Nat.ble r.den.length zan)).bind fun _ =>
  some r
def zes (r:Rt) (s:Rt):Option Rt :=
  (zat r.mag s.mag).bind fun r1 =>
  (zat r.den s.den).bind fun r2 =>
  (zaO (!(r.neg==s.neg)) r1 r2).bind fun r3 =>
  some r3
def zer (r:Rt):Option Rt :=
  (zav (!r.neg) r.mag).bind fun r1 =>
  (zak (Nat.ble r.den.length zan)).bind fun _ =>
  some (⟨r1.neg,r1.mag,r.den⟩:Rt)
end Go.Di
namespace Go.Di
def zb6:(List Rt) × Int × Int × Unit→Option (((List Rt) × Int × Int × Unit) ⊕ ((Bool × Unit) ⊕ (Unit))):=fun (t,t1,t2,_) =>
  cond (decide (t2 < t1))
    ((idx t t2).bind fun e =>
    (zbx e).bind fun r =>
    cond r
      (some (.inr (.inl (false,()))))
      (some (.inl (t,t1,IntKind.i64.wrap (t2+1),()))))
    (some (.inr (.inr (()))))
def zhd (t:List Rt) (t1:Int) (t2:Int):Option ((Bool × Unit) ⊕ (Unit)):=whileO zb6 (t,t1,t2,())
def za5 (v:List Rt):Option Bool :=
  (zhd v (v.length:Int) 0).bind fun r =>
  match r with
  | .inl (t,_) =>
    some t
  | .inr _ =>
    some true
def zbv:Int × Int × (List Rt) × Unit→Option ((Int × Int × (List Rt) × Unit) ⊕ ((List Rt) × Unit)):=fun (t,t1,out,_) =>
  cond (decide (t1 < t))
    ((zbL 0).bind fun r =>
    (zak (Nat.ble (out.length+1) zan)).bind fun _ =>
    some (.inl (t,IntKind.i64.wrap (t1+1),out++([r]:List Rt),())))
    (some (.inr (out,())))
def zgf (t:Int) (t1:Int) (out:List Rt):Option ((List Rt) × Unit):=whileO zbv (t,t1,out,())
def zcX (n:Int):Option (List Rt) :=
  cond (decide (n < 0))
    (some ([]:List Rt))
    (cond (decide (n > 24))
      (some ([]:List Rt))
      ((zgf n 0 ([]:List Rt)).bind fun (out,_) =>
      some out))
def zfy (r:Rt):Option Bool :=
  some ((r.den.length:Int)==0)
def zcj:(List Rt) × Int × Int × (List Rt) × Unit→Option (((List Rt) × Int × Int × (List Rt) × Unit) ⊕ ((List Rt) × Unit)):=fun (t,t1,t2,out,_) =>
  cond (decide (t2 < t1))
    ((idx t t2).bind fun e =>
    (ze9 e).bind fun r =>
    (zak (Nat.ble (out.length+1) zan)).bind fun _ =>
    some (.inl (t,t1,IntKind.i64.wrap (t2+1),out++([r]:List Rt),())))
    (some (.inr (out,())))
def zhZ (t:List Rt) (t1:Int) (t2:Int) (out:List Rt):Option ((List Rt) × Unit):=whileO zcj (t,t1,t2,out,())
def ze8 (v:List Rt):Option (List Rt) :=
  (zhZ v (v.length:Int) 0 ([]:List Rt)).bind fun (out,_) =>
  some out
def zeq (a:Rt) (b:Rt):Option Rt :=
  (zat a.mag b.den).bind fun r =>
  (zat a.den b.mag).bind fun r1 =>
  (zaO (!(a.neg==b.neg)) r r1).bind fun r2 =>
  some r2
def zci:(List Rt) × Int × Int × Unit→Option (((List Rt) × Int × Int × Unit) ⊕ ((Bool × Unit) ⊕ (Unit))):=fun (t,t1,t2,_) =>
  cond (decide (t2 < t1))
    ((idx t t2).bind fun e =>
    (zfy e).bind fun r =>
    cond r
      (some (.inr (.inl (false,()))))
      (some (.inl (t,t1,IntKind.i64.wrap (t2+1),()))))
    (some (.inr (.inr (()))))
def zhY (t:List Rt) (t1:Int) (t2:Int):Option ((Bool × Unit) ⊕ (Unit)):=whileO zci (t,t1,t2,())
def zbC (v:List Rt):Option Bool :=
  (zhY v (v.length:Int) 0).bind fun r =>
  match r with
  | .inl (t,_) =>
    some t
  | .inr _ =>
    some true
def zc1 (r:Rt):Option Bool :=
  some ((r.mag.length:Int)==0)
def ze7:Option Rt :=
  (zba 0).bind fun r =>
  some r
def zfx (a:Rt) (b:Rt):Option Rt :=
  (zer b).bind fun r =>
  (zdH a r).bind fun r1 =>
  some r1
def zb0:Int × (List Rt) × Unit→Option ((Int × (List Rt) × Unit) ⊕ ((List Rt) × Unit)):=fun (n,out,_) =>
  cond (decide ((out.length:Int) < n))
    ((ze7).bind fun r =>
    (zak (Nat.ble (out.length+1) zan)).bind fun _ =>
    some (.inl (n,out++([r]:List Rt),())))
    (some (.inr (out,())))
def zg3 (n:Int) (out:List Rt):Option ((List Rt) × Unit):=whileO zb0 (n,out,())
def zep (n:Int):Option (List Rt) :=
  (zg3 n ([]:List Rt)).bind fun (out,_) =>
  some out
end Go.Di
namespace Go.Di
def zdx (n:Int):Option Bool :=
  cond (decide (n ≥ 0))
    (some (decide (n≤24)))
    (some false)
def zbw:(List Rt) × Int × Int × Unit→Option (((List Rt) × Int × Int × Unit) ⊕ ((Bool × Unit) ⊕ (Unit))):=fun (t,t1,t2,_) =>
  cond (decide (t2 < t1))
    ((idx t t2).bind fun e =>
    (zgs e).bind fun r =>
    cond (!r)
      (some (.inr (.inl (false,()))))
      (some (.inl (t,t1,IntKind.i64.wrap (t2+1),()))))
    (some (.inr (.inr (()))))
def zhe (t:List Rt) (t1:Int) (t2:Int):Option ((Bool × Unit) ⊕ (Unit)):=whileO zbw (t,t1,t2,())
def zdz (m:Mx):Option Bool :=
  (zdx m.rows).bind fun r =>
  cond (!r)
    (some false)
    ((zdx m.cols).bind fun r1 =>
    cond (!r1)
      (some false)
      (cond ((m.cells.length:Int) != (IntKind.i64.wrap (m.rows * m.cols)))
        (some false)
        ((zhe m.cells (m.cells.length:Int) 0).bind fun r2 =>
        match r2 with
        | .inl (t,_) =>
          some t
        | .inr _ =>
          some true)))
def zda (m:Mx) (i:Int) (k:Int):Option Rt :=
  (idx m.cells (IntKind.i64.wrap ((IntKind.i64.wrap (i * m.cols))+k))).bind fun e =>
  some e
def zbj (m:Mx) (i:Int) (k:Int):Option (Rt × List Rt) :=
  (idx m.cells (IntKind.i64.wrap ((IntKind.i64.wrap (i * m.cols))+k))).bind fun _ =>
  (m.cells[(IntKind.i64.wrap ((IntKind.i64.wrap (i * m.cols))+k)).toNat]?).bind fun e =>
  some (e,m.cells)
def zaK (m:Mx) (i:Int):Option ((Nat × Nat) × List Rt) :=
  (zak (inside m.cells.length (IntKind.i64.wrap (i * m.cols),IntKind.i64.wrap ((IntKind.i64.wrap (i+1)) * m.cols)))).bind fun _ =>
  some (((IntKind.i64.wrap (i * m.cols)).toNat,((IntKind.i64.wrap ((IntKind.i64.wrap (i+1)) * m.cols)).toNat) - ((IntKind.i64.wrap (i * m.cols)).toNat)),m.cells)
def zbn:(List Rt) × Int × Int × Unit→Option (((List Rt) × Int × Int × Unit) ⊕ ((Bool × Unit) ⊕ (Unit))):=fun (t,t1,t2,_) =>
  cond (decide (t2 < t1))
    ((idx t t2).bind fun e =>
    (zgo e).bind fun r =>
    cond (!r)
      (some (.inr (.inl (false,()))))
      (some (.inl (t,t1,IntKind.i64.wrap (t2+1),()))))
    (some (.inr (.inr (()))))
def zg8 (t:List Rt) (t1:Int) (t2:Int):Option ((Bool × Unit) ⊕ (Unit)):=whileO zbn (t,t1,t2,())
def zex (m:Mx):Option Bool :=
  (zdu m.rows 0 24).bind fun r =>
  cond (!r)
    (some false)
    ((zdu m.cols 0 24).bind fun r1 =>
    cond (!r1)
      (some false)
      (cond ((m.cells.length:Int) != (IntKind.i64.wrap (m.rows * m.cols)))
        (some false)
        ((zg8 m.cells (m.cells.length:Int) 0).bind fun r2 =>
        match r2 with
        | .inl (t,_) =>
          some t
        | .inr _ =>
          some true)))
def zis (m:Mx) (i:Int) (k:Int):Option Rt :=
  (idx m.cells (IntKind.i64.wrap ((IntKind.i64.wrap (i * m.cols))+k))).bind fun e =>
  some e
def zaQ (m:Mx) (i:Int) (k:Int):Option (Rt × List Rt) :=
  (idx m.cells (IntKind.i64.wrap ((IntKind.i64.wrap (i * m.cols))+k))).bind fun _ =>
  (m.cells[(IntKind.i64.wrap ((IntKind.i64.wrap (i * m.cols))+k)).toNat]?).bind fun e =>
  some (e,m.cells)
def ze6 (m:Mx):Option Mx :=
  (ze8 m.cells).bind fun r =>
  some (⟨m.rows,m.cols,r⟩:Mx)
end Go.Di
namespace Go.Di
def zcL:Int × Int × Nat × Nat × Nat × Nat × Int × Int × Int × Int × Int × Int × (List Rt) × (List Int) × (List Rt) × Int × Int × Int × Int × Bool × (List Int) × (List Int) × (List Rt) × (List Rt) × (List Int) × Unit→Option ((Int × Int × Nat × Nat × Nat × Nat × Int × Int × Int × Int × Int × Int × (List Rt) × (List Int) × (List Rt) × Int × Int × Int × Int × Bool × (List Int) × (List Int) × (List Rt) × (List Rt) × (List Int) × Unit) ⊕ (Int × Int × Nat × Nat × Nat × Nat × Int × Int × Int × Int × (List Rt) × (List Int) × (List Rt) × Int × Int × Int × Int × (List Rt) × (List Rt) × (List Int) × Unit)):=fun (used,c,lo,len,lo1,len1,t,t1,t2,t3,v,v1,v2,v3,v4,v5,v6,v7,v8,v9,v10,v11,xs,xs1,xs2,_) =>
  cond (decide (t3 < t2))
    ((idx (cut xs lo1 (lo1+len1)) t3).bind fun _ =>
    (xs[lo1+t3.toNat]?).bind fun e =>
    (idx (cut xs lo (lo+len)) t3).bind fun _ =>
    (xs[lo+t3.toNat]?).bind fun e1 =>
    (zeb (⟨v9,v10,v11⟩:Rt) e1).bind fun r =>
    (zg2 e r).bind fun r1 =>
    (idx (cut xs lo1 (lo1+len1)) t3).bind fun _ =>
    some (.inl (used,c,lo,len,lo1,len1,t,t1,t2,IntKind.i64.wrap (t3+1),v,v1,v2,v3,v4,v5,v6,v7,v8,v9,v10,v11,xs.set (lo1+t3.toNat) r1,xs1,xs2,())))
    (some (.inr (used,c,lo,len,lo1,len1,t,t1,v,v1,v2,v3,v4,v5,v6,v7,v8,xs,xs1,xs2,())))
def L_impl_reduce_5 (used:Int) (c:Int) (lo:Nat) (len:Nat) (lo1:Nat) (len1:Nat) (t:Int) (t1:Int) (t2:Int) (t3:Int) (v:Int) (v1:Int) (v2:List Rt) (v3:List Int) (v4:List Rt) (v5:Int) (v6:Int) (v7:Int) (v8:Int) (v9:Bool) (v10:List Int) (v11:List Int) (xs:List Rt) (xs1:List Rt) (xs2:List Int):Option (Int × Int × Nat × Nat × Nat × Nat × Int × Int × Int × Int × (List Rt) × (List Int) × (List Rt) × Int × Int × Int × Int × (List Rt) × (List Rt) × (List Int) × Unit):=whileO zcL (used,c,lo,len,lo1,len1,t,t1,t2,t3,v,v1,v2,v3,v4,v5,v6,v7,v8,v9,v10,v11,xs,xs1,xs2,())
def zcM:Int × Int × Nat × Nat × Int × Int × Int × Int × (List Rt) × (List Int) × (List Rt) × Int × Int × Int × Int × (List Rt) × (List Rt) × (List Int) × Unit→Option ((Int × Int × Nat × Nat × Int × Int × Int × Int × (List Rt) × (List Int) × (List Rt) × Int × Int × Int × Int × (List Rt) × (List Rt) × (List Int) × Unit) ⊕ ((Bool × Int × Int × (List Rt) × (List Int) × (List Rt) × Unit) ⊕ (Int × Int × Int × Int × (List Rt) × (List Int) × (List Rt) × Int × Int × Int × Int × (List Rt) × (List Rt) × (List Int) × Unit))):=fun (used,c,lo,len,t,t1,v,v1,v2,v3,v4,v5,v6,v7,v8,xs,xs1,xs2,_) =>
  cond (decide (t1 < t))
    ((zaK (⟨v7,v8,xs⟩:Mx) t1).bind fun (r0,x0) =>
    cond (t1==used)
      (some (.inl (used,c,lo,len,t,IntKind.i64.wrap (t1+1),v,v1,v2,v3,v4,v5,v6,v7,v8,x0,xs1,xs2,())))
      ((idx (cut x0 r0.1 (r0.1+r0.2)) c).bind fun _ =>
      (x0[r0.1+c.toNat]?).bind fun e =>
      (zdK e).bind fun r =>
      cond r
        (some (.inl (used,c,lo,len,t,IntKind.i64.wrap (t1+1),v,v1,v2,v3,v4,v5,v6,v7,v8,x0,xs1,xs2,())))
        ((idx (cut x0 r0.1 (r0.1+r0.2)) c).bind fun _ =>
        (x0[r0.1+c.toNat]?).bind fun e1 =>
        (L_impl_reduce_5 used c lo len r0.1 r0.2 t t1 (r0.2:Int) 0 v v1 v2 v3 v4 v5 v6 v7 v8 e1.neg e1.mag e1.den x0 xs1 xs2).bind fun (used1,c1,lo1,len1,lo2,len2,t2,t3,v9,v10,v11,v12,v13,v14,v15,v16,v17,xs3,xs4,xs5,_) =>
        (za5 (cut xs3 lo2 (lo2+len2))).bind fun r1 =>
        cond (!r1)
          (some (.inr (.inl (false,0,0,([]:List Rt),([]:List Int),([]:List Rt),()))))
          (some (.inl (used1,c1,lo1,len1,t2,IntKind.i64.wrap (t3+1),v9,v10,v11,v12,v13,v14,v15,v16,v17,xs3,xs4,xs5,()))))))
    (some (.inr (.inr (used,c,v,v1,v2,v3,v4,v5,v6,v7,v8,xs,xs1,xs2,()))))
def L_impl_reduce_4 (used:Int) (c:Int) (lo:Nat) (len:Nat) (t:Int) (t1:Int) (v:Int) (v1:Int) (v2:List Rt) (v3:List Int) (v4:List Rt) (v5:Int) (v6:Int) (v7:Int) (v8:Int) (xs:List Rt) (xs1:List Rt) (xs2:List Int):Option ((Bool × Int × Int × (List Rt) × (List Int) × (List Rt) × Unit) ⊕ (Int × Int × Int × Int × (List Rt) × (List Int) × (List Rt) × Int × Int × Int × Int × (List Rt) × (List Rt) × (List Int) × Unit)):=whileO zcM (used,c,lo,len,t,t1,v,v1,v2,v3,v4,v5,v6,v7,v8,xs,xs1,xs2,())
def zcN:Int × Int × Nat × Nat × Int × Int × Int × Int × (List Rt) × (List Int) × (List Rt) × Int × Int × Int × Int × Bool × (List Int) × (List Int) × (List Rt) × (List Rt) × (List Int) × Unit→Option ((Int × Int × Nat × Nat × Int × Int × Int × Int × (List Rt) × (List Int) × (List Rt) × Int × Int × Int × Int × Bool × (List Int) × (List Int) × (List Rt) × (List Rt) × (List Int) × Unit) ⊕ (Int × Int × Nat × Nat × Int × Int × (List Rt) × (List Int) × (List Rt) × Int × Int × Int × Int × (List Rt) × (List Rt) × (List Int) × Unit)):=fun (used,c,lo,len,t,t1,v,v1,v2,v3,v4,v5,v6,v7,v8,v9,v10,v11,xs,xs1,xs2,_) =>
  cond (decide (t1 < t))
    ((idx (cut xs lo (lo+len)) t1).bind fun _ =>
    (xs[lo+t1.toNat]?).bind fun e =>
    (zfN e (⟨v9,v10,v11⟩:Rt)).bind fun r =>
    (idx (cut xs lo (lo+len)) t1).bind fun _ =>
    some (.inl (used,c,lo,len,t,IntKind.i64.wrap (t1+1),v,v1,v2,v3,v4,v5,v6,v7,v8,v9,v10,v11,xs.set (lo+t1.toNat) r,xs1,xs2,())))
    (some (.inr (used,c,lo,len,v,v1,v2,v3,v4,v5,v6,v7,v8,xs,xs1,xs2,())))
def L_impl_reduce_3 (used:Int) (c:Int) (lo:Nat) (len:Nat) (t:Int) (t1:Int) (v:Int) (v1:Int) (v2:List Rt) (v3:List Int) (v4:List Rt) (v5:Int) (v6:Int) (v7:Int) (v8:Int) (v9:Bool) (v10:List Int) (v11:List Int) (xs:List Rt) (xs1:List Rt) (xs2:List Int):Option (Int × Int × Nat × Nat × Int × Int × (List Rt) × (List Int) × (List Rt) × Int × Int × Int × Int × (List Rt) × (List Rt) × (List Int) × Unit):=whileO zcN (used,c,lo,len,t,t1,v,v1,v2,v3,v4,v5,v6,v7,v8,v9,v10,v11,xs,xs1,xs2,())
def zcO:Int × Int × Nat × Nat × Nat × Nat × Int × Int × Int × Int × (List Rt) × (List Int) × (List Rt) × Int × Int × Int × Int × (List Rt) × (List Rt) × (List Int) × Unit→Option ((Int × Int × Nat × Nat × Nat × Nat × Int × Int × Int × Int × (List Rt) × (List Int) × (List Rt) × Int × Int × Int × Int × (List Rt) × (List Rt) × (List Int) × Unit) ⊕ (Int × Int × Int × Int × (List Rt) × (List Int) × (List Rt) × Int × Int × Int × Int × (List Rt) × (List Rt) × (List Int) × Unit)):=fun (used,c,lo,len,lo1,len1,t,t1,v,v1,v2,v3,v4,v5,v6,v7,v8,xs,xs1,xs2,_) =>
  cond (decide (t1 < t))
    ((idx (cut xs lo1 (lo1+len1)) t1).bind fun _ =>
    (xs[lo1+t1.toNat]?).bind fun e =>
    (idx (cut xs lo (lo+len)) t1).bind fun _ =>
    (xs[lo+t1.toNat]?).bind fun e1 =>
    (idx (cut xs lo (lo+len)) t1).bind fun _ =>
    (idx (cut (xs.set (lo+t1.toNat) e) lo1 (lo1+len1)) t1).bind fun _ =>
    some (.inl (used,c,lo,len,lo1,len1,t,IntKind.i64.wrap (t1+1),v,v1,v2,v3,v4,v5,v6,v7,v8,(xs.set (lo+t1.toNat) e).set (lo1+t1.toNat) e1,xs1,xs2,())))
    (some (.inr (used,c,v,v1,v2,v3,v4,v5,v6,v7,v8,xs,xs1,xs2,())))
def L_impl_reduce_2 (used:Int) (c:Int) (lo:Nat) (len:Nat) (lo1:Nat) (len1:Nat) (t:Int) (t1:Int) (v:Int) (v1:Int) (v2:List Rt) (v3:List Int) (v4:List Rt) (v5:Int) (v6:Int) (v7:Int) (v8:Int) (xs:List Rt) (xs1:List Rt) (xs2:List Int):Option (Int × Int × Int × Int × (List Rt) × (List Int) × (List Rt) × Int × Int × Int × Int × (List Rt) × (List Rt) × (List Int) × Unit):=whileO zcO (used,c,lo,len,lo1,len1,t,t1,v,v1,v2,v3,v4,v5,v6,v7,v8,xs,xs1,xs2,())
def zca:Int × Int × Int × Int × Int × (List Rt) × (List Int) × (List Rt) × Int × Int × Int × Int × (List Rt) × (List Int) × (List Rt) × Unit→Option ((Int × Int × Int × Int × Int × (List Rt) × (List Int) × (List Rt) × Int × Int × Int × Int × (List Rt) × (List Int) × (List Rt) × Unit) ⊕ (Int × Int × Int × Int × Int × (List Rt) × (List Int) × (List Rt) × Int × Int × Int × Int × (List Rt) × (List Int) × (List Rt) × Unit)):=fun (used,c,p,v,v1,v2,v3,v4,v5,v6,v7,v8,xs,xs1,xs2,_) =>
  cond (decide (p < v7))
    ((zbj (⟨v7,v8,xs⟩:Mx) p c).bind fun (r0,x0) =>
    (zdK r0).bind fun r =>
    cond r
      (some (.inl (used,c,IntKind.i64.wrap (p+1),v,v1,v2,v3,v4,v5,v6,v7,v8,x0,xs1,xs2,())))
      (some (.inr (used,c,p,v,v1,v2,v3,v4,v5,v6,v7,v8,x0,xs1,xs2,()))))
    (some (.inr (used,c,p,v,v1,v2,v3,v4,v5,v6,v7,v8,xs,xs1,xs2,())))
def zeM (used:Int) (c:Int) (p:Int) (v:Int) (v1:Int) (v2:List Rt) (v3:List Int) (v4:List Rt) (v5:Int) (v6:Int) (v7:Int) (v8:Int) (xs:List Rt) (xs1:List Int) (xs2:List Rt):Option (Int × Int × Int × Int × Int × (List Rt) × (List Int) × (List Rt) × Int × Int × Int × Int × (List Rt) × (List Int) × (List Rt) × Unit):=whileO zca (used,c,p,v,v1,v2,v3,v4,v5,v6,v7,v8,xs,xs1,xs2,())
def zaM:Int × Int × Int × Int × (List Rt) × (List Int) × (List Rt) × Int × Int × Int × Int × (List Rt) × (List Int) × (List Rt) × Unit→Option ((Int × Int × Int × Int × (List Rt) × (List Int) × (List Rt) × Int × Int × Int × Int × (List Rt) × (List Int) × (List Rt) × Unit) ⊕ ((Bool × Int × Int × (List Rt) × (List Int) × (List Rt) × Unit) ⊕ (Int × Int × (List Rt) × (List Int) × (List Rt) × Int × Int × (List Rt) × (List Int) × (List Rt) × Unit))):=fun (used,c,v,v1,v2,v3,v4,v5,v6,v7,v8,xs,xs1,xs2,_) =>
  cond (decide (c < v8))
    (cond (decide (used < v7))
      ((zeM used c used v v1 v2 v3 v4 v5 v6 v7 v8 xs xs1 xs2).bind fun (used1,c1,p,v9,v10,v11,v12,v13,v14,v15,v16,v17,xs3,xs4,xs5,_) =>
      cond (p == v16)
        (some (.inl (used1,IntKind.i64.wrap (c1+1),v9,v10,v11,v12,v13,v14,v15,v16,v17,xs3,xs4,xs5,())))
        (cond (p != used1)
          ((zbL (-1)).bind fun r =>
          (zak (Nat.ble (xs5.length+1) zan)).bind fun _ =>
          (zaK (⟨v16,v17,xs3⟩:Mx) p).bind fun (r0,x0) =>
          (zaK (⟨v16,v17,x0⟩:Mx) used1).bind fun (r0_1,x0_1) =>
          (L_impl_reduce_2 used1 c1 r0.1 r0.2 r0_1.1 r0_1.2 (r0.2:Int) 0 v9 v10 v11 v12 v13 v14 v15 v16 v17 x0_1 (xs5++([r]:List Rt)) xs4).bind fun (used2,c2,v18,v19,v20,v21,v22,v23,v24,v25,v26,xs6,xs7,xs8,_) =>
          (zaK (⟨v25,v26,xs6⟩:Mx) used2).bind fun (r0_2,x0_2) =>
          (idx (cut x0_2 r0_2.1 (r0_2.1+r0_2.2)) c2).bind fun _ =>
          (x0_2[r0_2.1+c2.toNat]?).bind fun e =>
          (zak (Nat.ble (xs7.length+1) zan)).bind fun _ =>
          (L_impl_reduce_3 used2 c2 r0_2.1 r0_2.2 (r0_2.2:Int) 0 v18 v19 v20 v21 v22 v23 v24 v25 v26 e.neg e.mag e.den x0_2 (xs7++([e]:List Rt)) xs8).bind fun (used3,c3,lo,len,v27,v28,v29,v30,v31,v32,v33,v34,v35,xs9,xs10,xs11,_) =>
          (za5 (cut xs9 lo (lo+len))).bind fun r1 =>
          cond (!r1)
            (some (.inr (.inl (false,0,0,([]:List Rt),([]:List Int),([]:List Rt),()))))
            ((L_impl_reduce_4 used3 c3 lo len v34 0 v27 v28 v29 v30 v31 v32 v33 v34 v35 xs9 xs10 xs11).bind fun r2 =>
            match r2 with
            | .inl (t,v36,v37,v38,v39,v40,_) =>
              some (.inr (.inl (t,v36,v37,v38,v39,v40,())))
            | .inr (used4,c4,v41,v42,v43,v44,v45,v46,v47,v48,v49,xs12,xs13,xs14,_) =>
              (zak (Nat.ble (xs14.length+1) zan)).bind fun _ =>
              some (.inl (IntKind.i64.wrap (used4+1),IntKind.i64.wrap (c4+1),v41,v42,v43,v44,v45,v46,v47,v48,v49,xs12,xs14++([c4]:List Int),xs13,()))))
          ((zaK (⟨v16,v17,xs3⟩:Mx) used1).bind fun (r0,x0) =>
          (idx (cut x0 r0.1 (r0.1+r0.2)) c1).bind fun _ =>
          (x0[r0.1+c1.toNat]?).bind fun e =>
          (zak (Nat.ble (xs5.length+1) zan)).bind fun _ =>
          (L_impl_reduce_3 used1 c1 r0.1 r0.2 (r0.2:Int) 0 v9 v10 v11 v12 v13 v14 v15 v16 v17 e.neg e.mag e.den x0 (xs5++([e]:List Rt)) xs4).bind fun (used2,c2,lo,len,v18,v19,v20,v21,v22,v23,v24,v25,v26,xs6,xs7,xs8,_) =>
          (za5 (cut xs6 lo (lo+len))).bind fun r =>
          cond (!r)
            (some (.inr (.inl (false,0,0,([]:List Rt),([]:List Int),([]:List Rt),()))))
            ((L_impl_reduce_4 used2 c2 lo len v25 0 v18 v19 v20 v21 v22 v23 v24 v25 v26 xs6 xs7 xs8).bind fun r1 =>
            match r1 with
            | .inl (t,v27,v28,v29,v30,v31,_) =>
              some (.inr (.inl (t,v27,v28,v29,v30,v31,())))
            | .inr (used3,c3,v32,v33,v34,v35,v36,v37,v38,v39,v40,xs9,xs10,xs11,_) =>
              (zak (Nat.ble (xs11.length+1) zan)).bind fun _ =>
              some (.inl (IntKind.i64.wrap (used3+1),IntKind.i64.wrap (c3+1),v32,v33,v34,v35,v36,v37,v38,v39,v40,xs9,xs11++([c3]:List Int),xs10,()))))))
      (some (.inr (.inr (v,v1,v2,v3,v4,v5,v6,xs,xs1,xs2,())))))
    (some (.inr (.inr (v,v1,v2,v3,v4,v5,v6,xs,xs1,xs2,()))))
def zeN (used:Int) (c:Int) (v:Int) (v1:Int) (v2:List Rt) (v3:List Int) (v4:List Rt) (v5:Int) (v6:Int) (v7:Int) (v8:Int) (xs:List Rt) (xs1:List Int) (xs2:List Rt):Option ((Bool × Int × Int × (List Rt) × (List Int) × (List Rt) × Unit) ⊕ (Int × Int × (List Rt) × (List Int) × (List Rt) × Int × Int × (List Rt) × (List Int) × (List Rt) × Unit)):=whileO zaM (used,c,v,v1,v2,v3,v4,v5,v6,v7,v8,xs,xs1,xs2,())
def zbX (m:Mx):Option (Rdn × Bool) :=
  (zb7 m.cells).bind fun r =>
  (zeN 0 0 0 0 ([]:List Rt) ([]:List Int) ([]:List Rt) m.rows m.cols m.rows m.cols r ([]:List Int) ([]:List Rt)).bind fun r1 =>
  match r1 with
  | .inl (t,v,v1,v2,v3,v4,_) =>
    some ((⟨v,v1,v2,v3,v4⟩:Rdn),t)
  | .inr (_,_,_,_,_,v10,v11,xs,xs1,xs2,_) =>
    some ((⟨v10,v11,xs,xs1,xs2⟩:Rdn),true)
def zeL (m:Mx):Option (Mx × List Int × Bool) :=
  (zdz m).bind fun r =>
  cond (!r)
    (some ((⟨0,0,([]:List Rt)⟩:Mx),([]:List Int),false))
    ((zbX m).bind fun (r0,r1) =>
    cond (!r1)
      (some ((⟨0,0,([]:List Rt)⟩:Mx),([]:List Int),false))
      (some ((⟨r0.rows,r0.cols,r0.cells⟩:Mx),r0.pivots,true)))
def zcD:(List Int) × Int × Int × Int × (List Int) × Int × Int × Int × Int × (List Rt) × Int × Int × (List Rt) × (List Rt) × (List (List Rt)) × Unit→Option (((List Int) × Int × Int × Int × (List Int) × Int × Int × Int × Int × (List Rt) × Int × Int × (List Rt) × (List Rt) × (List (List Rt)) × Unit) ⊕ ((List Int) × Int × Int × Int × Int × (List Rt) × Int × Int × (List Rt) × (List Rt) × (List (List Rt)) × Unit)):=fun (p,c,t,t1,t2,t3,t4,v,v1,v2,v3,v4,v5,v6,out,_) =>
  cond (decide (t4 < t3))
    ((idx t2 t4).bind fun e =>
    (zda (⟨v3,v4,v5⟩:Mx) t4 c).bind fun r =>
    (zfM r).bind fun r1 =>
    (idx v6 e).bind fun _ =>
    ((v6[e.toNat]?).bind fun _=>some r1).bind fun e1 =>
    some (.inl (p,c,t,t1,t2,t3,IntKind.i64.wrap (t4+1),v,v1,v2,v3,v4,v5,v6.set e.toNat e1,out,())))
    (some (.inr (p,t,t1,v,v1,v2,v3,v4,v5,v6,out,())))
def zdW (p:List Int) (c:Int) (t:Int) (t1:Int) (t2:List Int) (t3:Int) (t4:Int) (v:Int) (v1:Int) (v2:List Rt) (v3:Int) (v4:Int) (v5:List Rt) (v6:List Rt) (out:List (List Rt)):Option ((List Int) × Int × Int × Int × Int × (List Rt) × Int × Int × (List Rt) × (List Rt) × (List (List Rt)) × Unit):=whileO zcD (p,c,t,t1,t2,t3,t4,v,v1,v2,v3,v4,v5,v6,out,())
def zbV:(List Int) × Int × Int × Int × Int × (List Rt) × Int × Int × (List Rt) × (List (List Rt)) × Unit→Option (((List Int) × Int × Int × Int × Int × (List Rt) × Int × Int × (List Rt) × (List (List Rt)) × Unit) ⊕ ((List (List Rt)) × Unit)):=fun (p,t,t1,v,v1,v2,v3,v4,v5,out,_) =>
  cond (decide (t1 < t))
    ((zdL p t1).bind fun r =>
    cond r
      (some (.inl (p,t,IntKind.i64.wrap (t1+1),v,v1,v2,v3,v4,v5,out,())))
      ((zcX v1).bind fun r1 =>
      (zbL 1).bind fun r2 =>
      (idx r1 t1).bind fun _ =>
      ((r1[t1.toNat]?).bind fun _=>some r2).bind fun e =>
      (zdW p t1 t t1 p (p.length:Int) 0 v v1 v2 v3 v4 v5 (r1.set t1.toNat e) out).bind fun (p1,t2,t3,v6,v7,v8,v9,v10,v11,v12,out1,_) =>
      (zak (Nat.ble (out1.length+1) zan)).bind fun _ =>
      some (.inl (p1,t2,IntKind.i64.wrap (t3+1),v6,v7,v8,v9,v10,v11,out1++([v12]:List (List Rt)),()))))
    (some (.inr (out,())))
def zft (p:List Int) (t:Int) (t1:Int) (v:Int) (v1:Int) (v2:List Rt) (v3:Int) (v4:Int) (v5:List Rt) (out:List (List Rt)):Option ((List (List Rt)) × Unit):=whileO zbV (p,t,t1,v,v1,v2,v3,v4,v5,out,())
def za8:Int × Int × Int × Int × (List Rt) × Int × Int × Bool × (List Int) × (List Int) × Unit→Option ((Int × Int × Int × Int × (List Rt) × Int × Int × Bool × (List Int) × (List Int) × Unit) ⊕ (Int × Int × Int × (List Rt) × Int × Int × Unit)):=fun (n,k,i,j,m_cells,v,v1,v2,v3,v4,_) =>
  cond (decide (j < v1))
    ((zaQ (⟨v,v1,m_cells⟩:Mx) n j).bind fun (r0,x0) =>
    (zc1 r0).bind fun r =>
    cond (!r)
      ((zaQ (⟨v,v1,x0⟩:Mx) i j).bind fun (r0_1,x0_1) =>
      (zaQ (⟨v,v1,x0_1⟩:Mx) n j).bind fun (r0_2,x0_2) =>
      (zes (⟨v2,v3,v4⟩:Rt) r0_2).bind fun r1 =>
      (zfx r0_1 r1).bind fun r2 =>
      (idx x0_2 (IntKind.i64.wrap ((IntKind.i64.wrap (i * v1))+j))).bind fun _ =>
      some (.inl (n,k,i,IntKind.i64.wrap (j+1),x0_2.set ((IntKind.i64.wrap ((IntKind.i64.wrap (i * v1))+j)).toNat) r2,v,v1,v2,v3,v4,())))
      (some (.inl (n,k,i,IntKind.i64.wrap (j+1),x0,v,v1,v2,v3,v4,()))))
    (some (.inr (n,k,i,m_cells,v,v1,())))
def L_spec_l07Clear_mdd_1 (n:Int) (k:Int) (i:Int) (j:Int) (m_cells:List Rt) (v:Int) (v1:Int) (v2:Bool) (v3:List Int) (v4:List Int):Option (Int × Int × Int × (List Rt) × Int × Int × Unit):=whileO za8 (n,k,i,j,m_cells,v,v1,v2,v3,v4,())
def za9:Int × Int × Int × (List Rt) × Int × Int × Unit→Option ((Int × Int × Int × (List Rt) × Int × Int × Unit) ⊕ ((List Rt) × Unit)):=fun (n,k,i,m_cells,v,v1,_) =>
  cond (decide (i < v))
    ((zaQ (⟨v,v1,m_cells⟩:Mx) i k).bind fun (r0,x0) =>
    cond (i==n)
      (some (.inl (n,k,IntKind.i64.wrap (i+1),x0,v,v1,())))
      ((zc1 r0).bind fun r =>
      cond r
        (some (.inl (n,k,IntKind.i64.wrap (i+1),x0,v,v1,())))
        ((L_spec_l07Clear_mdd_1 n k i k x0 v v1 r0.neg r0.mag r0.den).bind fun (n1,k1,i1,m_cells1,v2,v3,_) =>
        some (.inl (n1,k1,IntKind.i64.wrap (i1+1),m_cells1,v2,v3,())))))
    (some (.inr (m_cells,())))
def zfm (n:Int) (k:Int) (i:Int) (m_cells:List Rt) (v:Int) (v1:Int):Option ((List Rt) × Unit):=whileO za9 (n,k,i,m_cells,v,v1,())
def zcd (m:Mx) (n:Int) (k:Int):Option (List Rt) :=
  (zfm n k 0 m.cells m.rows m.cols).bind fun (m_cells,_) =>
  some m_cells
def zbf:Int × Int × Int × Int × Int × (List Rt) × Bool × (List Int) × (List Int) × (List Rt) × (List Int) × Unit→Option ((Int × Int × Int × Int × Int × (List Rt) × Bool × (List Int) × (List Int) × (List Rt) × (List Int) × Unit) ⊕ (Int × Int × Int × Int × (List Rt) × (List Rt) × (List Int) × Unit)):=fun (k,n,j,v,v1,m_cells,v2,v3,v4,factors,pivots,_) =>
  cond (decide (j < v1))
    ((zaQ (⟨v,v1,m_cells⟩:Mx) n j).bind fun (r0,x0) =>
    (zeq r0 (⟨v2,v3,v4⟩:Rt)).bind fun r =>
    (idx x0 (IntKind.i64.wrap ((IntKind.i64.wrap (n * v1))+j))).bind fun _ =>
    some (.inl (k,n,IntKind.i64.wrap (j+1),v,v1,x0.set ((IntKind.i64.wrap ((IntKind.i64.wrap (n * v1))+j)).toNat) r,v2,v3,v4,factors,pivots,())))
    (some (.inr (k,n,v,v1,m_cells,factors,pivots,())))
def L_spec_l07Reduce_m_3 (k:Int) (n:Int) (j:Int) (v:Int) (v1:Int) (m_cells:List Rt) (v2:Bool) (v3:List Int) (v4:List Int) (factors:List Rt) (pivots:List Int):Option (Int × Int × Int × Int × (List Rt) × (List Rt) × (List Int) × Unit):=whileO zbf (k,n,j,v,v1,m_cells,v2,v3,v4,factors,pivots,())
def zbg:Int × Int × Int × Int × Int × Int × (List Rt) × (List Rt) × (List Int) × Unit→Option ((Int × Int × Int × Int × Int × Int × (List Rt) × (List Rt) × (List Int) × Unit) ⊕ (Int × Int × Int × Int × (List Rt) × (List Rt) × (List Int) × Unit)):=fun (k,n,i,j,v,v1,m_cells,factors,pivots,_) =>
  cond (decide (j < v1))
    ((idx m_cells (IntKind.i64.wrap ((IntKind.i64.wrap (i * v1))+j))).bind fun _ =>
    (m_cells[(IntKind.i64.wrap ((IntKind.i64.wrap (i * v1))+j)).toNat]?).bind fun e =>
    (idx m_cells (IntKind.i64.wrap ((IntKind.i64.wrap (n * v1))+j))).bind fun _ =>
    (m_cells[(IntKind.i64.wrap ((IntKind.i64.wrap (n * v1))+j)).toNat]?).bind fun e1 =>
    (idx m_cells (IntKind.i64.wrap ((IntKind.i64.wrap (i * v1))+j))).bind fun _ =>
    (idx (m_cells.set ((IntKind.i64.wrap ((IntKind.i64.wrap (i * v1))+j)).toNat) e1) (IntKind.i64.wrap ((IntKind.i64.wrap (n * v1))+j))).bind fun _ =>
    some (.inl (k,n,i,IntKind.i64.wrap (j+1),v,v1,(m_cells.set ((IntKind.i64.wrap ((IntKind.i64.wrap (i * v1))+j)).toNat) e1).set ((IntKind.i64.wrap ((IntKind.i64.wrap (n * v1))+j)).toNat) e,factors,pivots,())))
    (some (.inr (k,n,v,v1,m_cells,factors,pivots,())))
def zdR (k:Int) (n:Int) (i:Int) (j:Int) (v:Int) (v1:Int) (m_cells:List Rt) (factors:List Rt) (pivots:List Int):Option (Int × Int × Int × Int × (List Rt) × (List Rt) × (List Int) × Unit):=whileO zbg (k,n,i,j,v,v1,m_cells,factors,pivots,())
def zaX:Int × Int × Int × Int × Int × (List Rt) × (List Int) × (List Rt) × Unit→Option ((Int × Int × Int × Int × Int × (List Rt) × (List Int) × (List Rt) × Unit) ⊕ (Int × Int × Int × Int × Int × (List Rt) × (List Int) × (List Rt) × Unit)):=fun (k,n,i,v,v1,m_cells,pivots,factors,_) =>
  cond (decide (i < v))
    ((zaQ (⟨v,v1,m_cells⟩:Mx) i k).bind fun (r0,x0) =>
    (zc1 r0).bind fun r =>
    cond r
      (some (.inl (k,n,IntKind.i64.wrap (i+1),v,v1,x0,pivots,factors,())))
      (some (.inr (k,n,i,v,v1,x0,pivots,factors,()))))
    (some (.inr (k,n,i,v,v1,m_cells,pivots,factors,())))
def zdS (k:Int) (n:Int) (i:Int) (v:Int) (v1:Int) (m_cells:List Rt) (pivots:List Int) (factors:List Rt):Option (Int × Int × Int × Int × Int × (List Rt) × (List Int) × (List Rt) × Unit):=whileO zaX (k,n,i,v,v1,m_cells,pivots,factors,())
def zaA:Int × Int × Int × (List Rt) × (List Int) × (List Rt) × Unit→Option ((Int × Int × Int × (List Rt) × (List Int) × (List Rt) × Unit) ⊕ (((List Rt) × (List Int) × (List Rt) × Unit) ⊕ ((List Rt) × (List Int) × (List Rt) × Unit))):=fun (k,v,v1,m_cells,pivots,factors,_) =>
  cond (decide (k < v1))
    (cond (decide ((pivots.length:Int) < v))
      ((zdS k (pivots.length:Int) (pivots.length:Int) v v1 m_cells pivots factors).bind fun (k1,n,i,v2,v3,m_cells1,pivots1,factors1,_) =>
      cond (i==v2)
        (some (.inl (IntKind.i64.wrap (k1+1),v2,v3,m_cells1,pivots1,factors1,())))
        (cond (i != n)
          ((zba (-1)).bind fun r =>
          (zak (Nat.ble (factors1.length+1) zan)).bind fun _ =>
          (zdR k1 n i 0 v2 v3 m_cells1 (factors1++([r]:List Rt)) pivots1).bind fun (k2,n1,v4,v5,m_cells2,factors2,pivots2,_) =>
          (zaQ (⟨v4,v5,m_cells2⟩:Mx) n1 k2).bind fun (r0,x0) =>
          (zak (Nat.ble (factors2.length+1) zan)).bind fun _ =>
          (L_spec_l07Reduce_m_3 k2 n1 k2 v4 v5 x0 r0.neg r0.mag r0.den (factors2++([r0]:List Rt)) pivots2).bind fun (k3,n2,v6,v7,m_cells3,factors3,pivots3,_) =>
          (zcd (⟨v6,v7,m_cells3⟩:Mx) n2 k3).bind fun x0_1 =>
          (zak (Nat.ble (pivots3.length+1) zan)).bind fun _ =>
          (zbC x0_1).bind fun r1 =>
          cond (!r1)
            (some (.inr (.inl (x0_1,pivots3++([k3]:List Int),factors3,()))))
            (some (.inl (IntKind.i64.wrap (k3+1),v6,v7,x0_1,pivots3++([k3]:List Int),factors3,()))))
          ((zaQ (⟨v2,v3,m_cells1⟩:Mx) n k1).bind fun (r0,x0) =>
          (zak (Nat.ble (factors1.length+1) zan)).bind fun _ =>
          (L_spec_l07Reduce_m_3 k1 n k1 v2 v3 x0 r0.neg r0.mag r0.den (factors1++([r0]:List Rt)) pivots1).bind fun (k2,n1,v4,v5,m_cells2,factors2,pivots2,_) =>
          (zcd (⟨v4,v5,m_cells2⟩:Mx) n1 k2).bind fun x0_1 =>
          (zak (Nat.ble (pivots2.length+1) zan)).bind fun _ =>
          (zbC x0_1).bind fun r =>
          cond (!r)
            (some (.inr (.inl (x0_1,pivots2++([k2]:List Int),factors2,()))))
            (some (.inl (IntKind.i64.wrap (k2+1),v4,v5,x0_1,pivots2++([k2]:List Int),factors2,()))))))
      (some (.inr (.inr (m_cells,pivots,factors,())))))
    (some (.inr (.inr (m_cells,pivots,factors,()))))
def zdT (k:Int) (v:Int) (v1:Int) (m_cells:List Rt) (pivots:List Int) (factors:List Rt):Option (((List Rt) × (List Int) × (List Rt) × Unit) ⊕ ((List Rt) × (List Int) × (List Rt) × Unit)):=whileO zaA (k,v,v1,m_cells,pivots,factors,())
def za0 (m:Mx):Option (List Int × List Rt × List Rt) :=
  (zdT 0 m.rows m.cols m.cells ([]:List Int) ([]:List Rt)).bind fun r =>
  match r with
  | .inl (m_cells,t,t1,_) =>
    some (t,t1,m_cells)
  | .inr (m_cells1,pivots,factors,_) =>
    some (pivots,factors,m_cells1)
def zcr (m:Mx):Option (Mx × List Int × Bool) :=
  (zex m).bind fun r =>
  cond (!r)
    (some ((⟨0,0,([]:List Rt)⟩:Mx),([]:List Int),false))
    ((ze6 m).bind fun r1 =>
    (za0 r1).bind fun (r0,_,x0) =>
    (zbC x0).bind fun r2 =>
    cond (!r2)
      (some ((⟨0,0,([]:List Rt)⟩:Mx),([]:List Int),false))
      (some ((⟨r1.rows,r1.cols,x0⟩:Mx),r0,true)))
def zf4:Int × (List Int) × Int × Int × Unit→Option ((Int × (List Int) × Int × Int × Unit) ⊕ ((Bool × Unit) ⊕ (Unit))):=fun (n,t,t1,t2,_) =>
  cond (decide (t2 < t1))
    ((idx t t2).bind fun e =>
    cond (e==n)
      (some (.inr (.inl (true,()))))
      (some (.inl (n,t,t1,IntKind.i64.wrap (t2+1),()))))
    (some (.inr (.inr (()))))
def zok (n:Int) (t:List Int) (t1:Int) (t2:Int):Option ((Bool × Unit) ⊕ (Unit)):=whileO zf4 (n,t,t1,t2,())
def zhT (l:List Int) (n:Int):Option Bool :=
  (zok n l (l.length:Int) 0).bind fun r =>
  match r with
  | .inl (t,_) =>
    some t
  | .inr _ =>
    some false
def zbh:(List Int) × Int × (List Int) × Int × Int × Int × Int × (List Rt) × Int × Int × (List Rt) × (List Rt) × (List (List Rt)) × Unit→Option (((List Int) × Int × (List Int) × Int × Int × Int × Int × (List Rt) × Int × Int × (List Rt) × (List Rt) × (List (List Rt)) × Unit) ⊕ ((List Int) × Int × Int × Int × (List Rt) × Int × Int × (List Rt) × (List Rt) × (List (List Rt)) × Unit)):=fun (pivots,k,t,t1,t2,v,v1,v2,v3,v4,v5,v6,out,_) =>
  cond (decide (t2 < t1))
    ((idx t t2).bind fun e =>
    (zis (⟨v3,v4,v5⟩:Mx) t2 k).bind fun r =>
    (zer r).bind fun r1 =>
    (idx v6 e).bind fun _ =>
    ((v6[e.toNat]?).bind fun _=>some r1).bind fun e1 =>
    some (.inl (pivots,k,t,t1,IntKind.i64.wrap (t2+1),v,v1,v2,v3,v4,v5,v6.set e.toNat e1,out,())))
    (some (.inr (pivots,k,v,v1,v2,v3,v4,v5,v6,out,())))
def zdU (pivots:List Int) (k:Int) (t:List Int) (t1:Int) (t2:Int) (v:Int) (v1:Int) (v2:List Rt) (v3:Int) (v4:Int) (v5:List Rt) (v6:List Rt) (out:List (List Rt)):Option ((List Int) × Int × Int × Int × (List Rt) × Int × Int × (List Rt) × (List Rt) × (List (List Rt)) × Unit):=whileO zbh (pivots,k,t,t1,t2,v,v1,v2,v3,v4,v5,v6,out,())
def zaY:(List Int) × Int × Int × Int × (List Rt) × Int × Int × (List Rt) × (List (List Rt)) × Unit→Option (((List Int) × Int × Int × Int × (List Rt) × Int × Int × (List Rt) × (List (List Rt)) × Unit) ⊕ ((List (List Rt)) × Unit)):=fun (pivots,k,v,v1,v2,v3,v4,v5,out,_) =>
  cond (decide (k < v1))
    ((zhT pivots k).bind fun r =>
    cond r
      (some (.inl (pivots,IntKind.i64.wrap (k+1),v,v1,v2,v3,v4,v5,out,())))
      ((zep v1).bind fun r1 =>
      (zba 1).bind fun r2 =>
      (idx r1 k).bind fun _ =>
      ((r1[k.toNat]?).bind fun _=>some r2).bind fun e =>
      (zdU pivots k pivots (pivots.length:Int) 0 v v1 v2 v3 v4 v5 (r1.set k.toNat e) out).bind fun (pivots1,k1,v6,v7,v8,v9,v10,v11,v12,out1,_) =>
      (zak (Nat.ble (out1.length+1) zan)).bind fun _ =>
      some (.inl (pivots1,IntKind.i64.wrap (k1+1),v6,v7,v8,v9,v10,v11,out1++([v12]:List (List Rt)),()))))
    (some (.inr (out,())))
def zdV (pivots:List Int) (k:Int) (v:Int) (v1:Int) (v2:List Rt) (v3:Int) (v4:Int) (v5:List Rt) (out:List (List Rt)):Option ((List (List Rt)) × Unit):=whileO zaY (pivots,k,v,v1,v2,v3,v4,v5,out,())
def zbO (m:Mx):Option (List (List Rt) × Bool) :=
  (zcr m).bind fun (r0,r1,r2) =>
  cond (!r2)
    (some (([]:List (List Rt)),false))
    ((zdV r1 0 m.rows m.cols m.cells r0.rows r0.cols r0.cells ([]:List (List Rt))).bind fun (out,_) =>
    some (out,true))
end Go.Di
namespace Go.Di
end Go.Di
namespace Go.Di
end Go.Di
namespace Go.Di
end Go.Di
namespace Go.Di
end Go.Di
namespace Go.Di
theorem zyM {σ ρ:Type} (f:σ→Option (σ ⊕ ρ)) (st:Nat→σ) (n:Nat) (h:∀ i,i < n→f (st i)=some (.inl (st (i+1)))):whileO f (st 0)=whileO f (st n):=by
  induction n with
  | zero=>rfl
  | succ n ih =>
    rw[ih fun i hi=>h i (Nat.lt_succ_of_lt hi)]
    exact zbd (h n (Nat.lt_succ_self n))
theorem whileO_upto {σ ρ:Type} (f:σ→Option (σ ⊕ ρ)) (st:Nat→σ) (n:Nat) (r:ρ) (h:∀ i,i < n→f (st i)=some (.inl (st (i+1)))) (he:f (st n)=some (.inr r)):whileO f (st 0)=some r:=by
  rw[zyM f st n h]; exact zaz he
theorem wrap_i64 {n:Int} (h1 : -9223372036854775808≤n) (h2:n≤9223372036854775807):IntKind.i64.wrap n=n:=by
  simp only[IntKind.wrap,IntKind.bits,IntKind.signed]
  simp
  omega
theorem zht {α:Type} (xs:List α) (i:Nat):idx xs (i:Int)=xs[i]? := by simp[idx]
theorem zaH {α:Type} {xs:List α} {i:Nat} (h:i < xs.length):idx xs (i:Int)=some xs[i]:=by simp[idx,h]
@[simp] theorem zkq:zak true=some ():=rfl
def eqB {α:Type} (a b:α):Bool:=@decide (a=b) (Classical.propDecidable _)
theorem zd5 {α:Type} {a b:α}:eqB a b=true↔a=b:=by unfold eqB; exact @decide_eq_true_iff _ (Classical.propDecidable _)
@[simp] theorem zmR {α:Type} (a:α):eqB a a=true:=zd5.2 rfl
theorem zkT {α:Type} {a b:α}:eqB a b=false↔a≠b:=by rw[← Bool.not_eq_true,zd5]
theorem zFI (a b:ByteArray):zop a b=eqB a b:=by
  rw[Bool.eq_iff_iff,zd5]
  unfold zop
  rw[beq_iff_eq,Go.ByteArray.toList_eq,Go.ByteArray.toList_eq]
  constructor
  · intro h
    cases a with | mk a=>cases b with | mk b =>
    congr 1; exact Array.ext' h
  · rintro rfl; rfl
@[simp] theorem zNs (a:ByteArray):zop a a=true:=by rw[zFI]; exact zmR a
end Go.Di
namespace Go.Di
theorem zsm {α:Type} {S:(List α × Int × List α × Unit)→Option ((List α × Int × List α × Unit) ⊕ (List α × Unit))} {a:List α} {z:α}
    (hS:∀ (i:Nat) (out:List α) (h:i < a.length),out.length=a.length→S (a,(i:Int),out,())=some (.inl (a,((i+1:Nat):Int),out.set i a[i],())))
    (hE:∀ out,S (a,(a.length:Int),out,())=some (.inr (out,()))):whileO S (a,0,List.replicate a.length z,())=some (a,()):=by
  have h:=whileO_upto S (fun i=>(a,(i:Int),a.take i++List.replicate (a.length - i) z,())) a.length (a,()) (fun i hi=>?_) (by rw[hE]; simp)
  · simpa using h
  · rw [hS i _ hi (by simp; omega)]
    congr 5
    apply List.ext_getElem?
    intro j
    have hl:(a.take i).length=i:=by simp; omega
    by_cases hj:j=i
    · subst hj
      rw[List.getElem?_set_self (by simp; omega),List.getElem?_append_left (by simp; omega)]
      simp[hi]
    · rw [List.getElem?_set_ne (by omega)]
      by_cases hlt:j < i
      · rw[List.getElem?_append_left (by omega),List.getElem?_append_left (by simp; omega),List.getElem?_take_of_lt hlt,List.getElem?_take_of_lt (by omega)]
      · have hl2:(a.take (i+1)).length=i+1:=by simp; omega
        rw[List.getElem?_append_right (by omega),List.getElem?_append_right (by omega),hl,hl2]
        simp only[List.getElem?_replicate]
        congr 1
        simp; omega
theorem eq_loop {α:Type} {S:(List α × List α × Int × Unit)→Option ((List α × List α × Int × Unit) ⊕ ((Bool × Unit) ⊕ Unit))} {a b:List α} (hl:a.length=b.length)
    (hS:∀ (i:Nat) (h:i < a.length),S (a,b,(i:Int),())=some (cond (eqB a[i] (b[i]'(by omega))) (.inl (a,b,((i+1:Nat):Int),())) (.inr (.inl (false,())))))
    (hE:S (a,b,(a.length:Int),())=some (.inr (.inr ()))):whileO S (a,b,0,())=some (cond (eqB a b) (.inr ()) (.inl (false,()))):=by
  have key : ∀ (m i:Nat),i+m=a.length→a.take i=b.take i→whileO S (a,b,(i:Int),())=some (cond (eqB a b) (.inr ()) (.inl (false,()))):=by
    intro m
    induction m with
    | zero =>
      intro i him ht
      have:a=b:=by
        have h1:a.take i=a:=List.take_of_length_le (by omega)
        have h2:b.take i=b:=List.take_of_length_le (by omega)
        rw[← h1,← h2,ht]
      subst this
      have hi:i=a.length:=by omega
      subst hi
      rw[zaz hE]; simp
    | succ m ih =>
      intro i him ht
      have hi:i < a.length:=by omega
      cases he:eqB a[i] (b[i]'(by omega)) with
      | true =>
        rw[zbd (by rw[hS i hi,he]; rfl)]
        refine ih (i+1) (by omega) ?_
        rw[List.take_succ_eq_append_getElem hi,List.take_succ_eq_append_getElem (by omega),ht,zd5.1 he]
      | false =>
        rw[zaz (by rw[hS i hi,he]; rfl)]
        have hne:eqB a b=false:=by
          rw[zkT]; rintro rfl; rw[zmR] at he; cases he
        rw[hne]; rfl
  exact key a.length 0 (by omega) (by simp)
theorem sz_loop {α:Type} {S:(List α × Int × Int × Unit)→Option ((List α × Int × Int × Unit) ⊕ ((Int × Unit) ⊕ (Int × Unit)))} {a:List α} {size:α→Nat}
    (hS:∀ (i:Nat) (left:Int) (h:i < a.length),0≤left→left≤1048576→S (a,left,(i:Int),())=some (.inr (.inl (-1,())))∨∃ r:Int,0≤r∧r+size a[i]=left∧S (a,left,(i:Int),())=some (.inl (a,r,((i+1:Nat):Int),())))
    (hE:∀ left,S (a,left,(a.length:Int),())=some (.inr (.inr (left,())))) (left:Int) (h0:0≤left) (h1:left≤1048576) :
    whileO S (a,left,0,())=some (.inl (-1,()))∨∃ r:Int,0≤r∧r+(a.map size).sum=left∧whileO S (a,left,0,())=some (.inr (r,())):=by
  have key : ∀ (m i:Nat) (left:Int),i+m=a.length→0≤left→left≤1048576→whileO S (a,left,(i:Int),())=some (.inl (-1,()))∨∃ r:Int,0≤r∧r+((a.drop i).map size).sum=left∧whileO S (a,left,(i:Int),())=some (.inr (r,())):=by
    intro m
    induction m with
    | zero =>
      intro i left him h0 h1
      have hi:i=a.length:=by omega
      subst hi
      exact .inr ⟨left,h0,by simp,zaz (hE left)⟩
    | succ m ih =>
      intro i left him h0 h1
      have hi:i < a.length:=by omega
      rcases hS i left hi h0 h1 with h | ⟨r,q1,q2,q3⟩
      · exact .inl (zaz h)
      · rw [zbd q3]
        rcases ih (i+1) r (by omega) q1 (by omega) with h | ⟨r',k1,k2,k3⟩
        · exact .inl h
        · refine .inr ⟨r',k1,?_,k3⟩
          rw[List.drop_eq_getElem_cons hi,List.map_cons,List.sum_cons]
          omega
  have:=key a.length 0 left (by omega) h0 h1
  simpa using this
end Go.Di
namespace Go.Di
def SzR (x:Option Int) (left:Int) (n:Nat):Prop:=x=some (-1)∨∃ r:Int,0≤r∧r+n=left∧x=some r
theorem SzR.bind {x:Option Int} {left:Int} {n m:Nat} {k:Int→Option Int} (h:SzR x left n) (hk:∀ r:Int,0≤r→r+n=left→SzR (k r) r m) :
    SzR (x.bind fun r=>cond (decide (r < 0)) (some (-1)) (k r)) left (n+m):=by
  rcases h with rfl | ⟨r,h0,h1,rfl⟩
  · exact .inl rfl
  · have:decide (r < 0)=false:=by simpa using h0
    simp only[Option.bind_some,this,cond_false]
    rcases hk r h0 h1 with h | ⟨r',k0,k1,h⟩
    · exact .inl h
    · exact .inr ⟨r',k0,by omega,h⟩
theorem SzR.ret {left:Int} (h:0≤left):SzR (some left) left 0 := .inr ⟨left,h,by omega,rfl⟩
theorem SzR.last {x:Option Int} {left:Int} {n:Nat} (h:SzR x left n):SzR (x.bind fun r=>cond (decide (r < 0)) (some (-1)) (some r)) left n :=
  SzR.bind (m:=0) h fun _r h0 _=>SzR.ret h0
theorem zA3 {left:Int} {n:Nat} (h0:0≤left) (h1:left≤1048576) (hn:n≤maxLen):IntKind.i64.wrap (left - (n:Int))=left - n:=by
  unfold maxLen at hn
  exact wrap_i64 (by omega) (by omega)
theorem zA2 {a:List Int} (ha:a.length≤maxLen) {left:Int} (h0:0≤left) (h1:left≤1048576):SzR (zeB a left) left a.length:=by
  unfold zeB
  rw[zA3 h0 h1 ha]
  by_cases h:left - (a.length:Int) < 0
  · rw[decide_eq_true h]; exact .inl rfl
  · rw[decide_eq_false h]; exact .inr ⟨_,by omega,by omega,rfl⟩
def Rt.sz (r:Rt):Nat:=r.mag.length+r.den.length
def Obs.sz (o:Obs):Nat:=o.value.sz+o.variance.sz
def Sta.sz (s:Sta):Nat:=s.name.size+(s.x.sz+s.y.sz)
theorem zNA {r:Rt} (hr:r.wf) {left:Int} (h0:0≤left) (h1:left≤1048576):SzR (zgq r left) left r.sz:=by
  unfold zgq zf7
  exact SzR.bind (SzR.last (zA2 hr.1.1 h0 h1)) fun r' q0 q1=>SzR.last (zA2 hr.2.1 q0 (by omega))
def lsz {α:Type} (f:α→Nat) (l:List α):Nat:=l.length+(l.map f).sum
theorem zK5 {α:Type} {S:(List α × Int × Int × Unit)→Option ((List α × Int × Int × Unit) ⊕ ((Int × Unit) ⊕ (Int × Unit)))} {f:α→Int→Option Int} {size:α→Nat} {l:List α} (hlen:l.length≤maxLen)
    (hel:∀ x∈l,∀ left:Int,0≤left→left≤1048576→SzR (f x left) left (size x))
    (hS:S=fun (a,left,i,_)=>cond (decide (i < (a.length:Int))) ((idx a i).bind fun e=>(f e left).bind fun r=>cond (decide (r < 0)) (some (.inr (.inl ((-1),())))) (some (.inl (a,r,IntKind.i64.wrap (i+1),())))) (some (.inr (.inr (left,())))))
    {left:Int} (h0:0≤left) (h1:left≤1048576) :
    SzR (cond (decide ((IntKind.i64.wrap (left - (l.length:Int))) < 0)) (some (-1)) ((whileO S (l,IntKind.i64.wrap (left - (l.length:Int)),0,())).bind fun r=>match r with
      | .inl (t,_)=>some t
      | .inr (left1,_)=>some left1)) left (lsz size l):=by
  rw[zA3 h0 h1 hlen]
  by_cases h:left - (l.length:Int) < 0
  · rw[decide_eq_true h]; exact .inl rfl
  · rw [decide_eq_false h]
    simp only[cond_false]
    have key:=sz_loop (S:=S) (a:=l) (size:=size) (by
      intro i left hi q0 q1
      have hlt:decide ((i:Int) < (l.length:Int))=true:=by simpa using hi
      have hwr:IntKind.i64.wrap ((i:Int)+1)=((i+1:Nat):Int):=by unfold maxLen at hlen; rw[wrap_i64 (by omega) (by omega)]; simp
      subst hS
      simp only[hlt,cond_true,zaH hi,Option.bind_some]
      rcases hel _ (List.getElem_mem hi) left q0 q1 with e | ⟨r,k0,k1,e⟩
      · rw[e]; exact .inl rfl
      · rw[e]
        have:decide (r < 0)=false:=by simpa using k0
        simp only[Option.bind_some,this,cond_false,hwr]
        exact .inr ⟨r,k0,k1,rfl⟩) (by intro left; subst hS; simp) (left - (l.length:Int)) (by omega) (by omega)
    rcases key with e | ⟨r,k0,k1,e⟩
    · rw[e]; exact .inl rfl
    · rw[e]; exact .inr ⟨r,k0,by unfold lsz; omega,rfl⟩
theorem zK3 {l:List Rt} (hl:CK.wf (.sl .rat) l) {left:Int} (h0:0≤left) (h1:left≤1048576):SzR (zhU l left) left (lsz Rt.sz l) :=
  zK5 (S:=zem) hl.1 (fun x hx _left q0 q1=>zNA (hl.2 x hx) q0 q1) rfl h0 h1
theorem zP0 {m:Mx} (hm:CK.wf (.sl .rat) m.cells) {left:Int} (h0:0≤left) (h1:left≤1048576):SzR (zeA m left) left (lsz Rt.sz m.cells):=by
  unfold zeA
  exact SzR.last (zK3 hm h0 h1)
/-! ### Copies -/
theorem zr7 {n:Nat} (h:n≤1048576):(((decide (0≤(n:Int))) && (decide ((n:Int)≤(n:Int)))) && (decide ((n:Int)≤(zan:Int))))=true:=by
  have:(n:Int)≤(zan:Int):=by unfold zan; omega
  simp[this]
theorem zar {i n:Nat} (h:i < n) (hn:n≤1048576):IntKind.i64.wrap ((i:Int)+1)=((i+1:Nat):Int):=by
  rw[wrap_i64 (by omega) (by omega)]; simp
theorem zAZ {a:List Int} (ha:a.length≤1048576):zez a=some a:=by
  unfold zez ziB
  rw[zr7 ha,zkq,Option.bind_some,Int.toNat_natCast,zsm (z:=(0:Int)) (fun i out hi ho=>?_) (fun out=>by simp[zdr])]
  · rfl
  · have hlt:decide ((i:Int) < (a.length:Int))=true:=by simpa using hi
    simp only[zdr,hlt,cond_true,zaH hi,zaH (show i < out.length by omega),Option.bind_some,zar hi ha,Int.toNat_natCast]
def Rt.fit (r:Rt):Prop:=r.mag.length≤1048576∧r.den.length≤1048576
theorem zNz {r:Rt} (h:r.fit):zgp r=some r:=by
  unfold zgp zf6
  rw[zAZ h.1,zAZ h.2]; rfl
def Obs.fit (o:Obs):Prop:=o.value.fit∧o.variance.fit
def Sta.fit (s:Sta):Prop:=s.x.fit∧s.y.fit
def zmJ {α:Type} (f:α→Prop) (l:List α):Prop:=l.length≤1048576∧∀ x∈l,f x
theorem zK1 {l:List Rt} (h:zmJ Rt.fit l):zfB l=some l:=by
  unfold zfB ziA
  rw[zr7 h.1,zkq,Option.bind_some,Int.toNat_natCast,zsm (fun i out hi ho=>?_) (fun out=>by simp[zdq])]
  · rfl
  · have hlt:decide ((i:Int) < (l.length:Int))=true:=by simpa using hi
    simp only[zdq,hlt,cond_true,zaH hi,zaH (show i < out.length by omega),Option.bind_some,zar hi h.1,Int.toNat_natCast,zNz (h.2 _ (List.getElem_mem hi)),List.getElem?_eq_getElem (show i < out.length by omega)]
theorem zPY {m:Mx} (h:zmJ Rt.fit m.cells):zce m=some m:=by
  unfold zce
  rw[zK1 h]; rfl
/-! ### What is measured fits -/
theorem zKC {α:Type} {f:α→Nat}:∀ {l:List α} {x:α},x∈l→f x≤(l.map f).sum
  | y :: l,x,h=>by
    rw[List.map_cons,List.sum_cons]
    rcases List.mem_cons.1 h with rfl | h
    · omega
    · have:=zKC (f:=f) h; omega
theorem Rt.znM {r:Rt} (h:r.sz≤1048576):r.fit:=by unfold Rt.sz at h; exact ⟨by omega,by omega⟩
theorem Obs.znM {o:Obs} (h:o.sz≤1048576):o.fit:=by unfold Obs.sz at h; exact ⟨Rt.znM (by omega),Rt.znM (by omega)⟩
theorem Sta.znM {s:Sta} (h:s.sz≤1048576):s.fit:=by unfold Sta.sz at h; exact ⟨Rt.znM (by omega),Rt.znM (by omega)⟩
theorem zLE {α:Type} {f:α→Nat} {p:α→Prop} (hp:∀ x,f x≤1048576→p x) {l:List α} (h:lsz f l≤1048576):zmJ p l:=by
  unfold lsz at h
  exact ⟨by omega,fun x hx=>hp x (by have:=zKC (f:=f) hx; omega)⟩
/-! ### Comparisons -/
theorem zD1 (a b:Nat):((a:Int) != (b:Int))=!(a==b):=by
  rw[Bool.eq_iff_iff]; simp; omega
theorem zvq {α:Type} {S:(List α × List α × Int × Unit)→Option ((List α × List α × Int × Unit) ⊕ ((Bool × Unit) ⊕ Unit))} {f:α→α→Option Bool} {a b:List α} (hlen:a.length≤1048576)
    (hel:∀ x∈a,∀ y∈b,f x y=some (eqB x y))
    (hS:S=fun (a,b,i,_)=>cond (decide (i < (a.length:Int))) ((idx a i).bind fun e=>(idx b i).bind fun e1=>(f e e1).bind fun r=>cond (!r) (some (.inr (.inl (false,())))) (some (.inl (a,b,IntKind.i64.wrap (i+1),())))) (some (.inr (.inr ())))) :
    (cond ((a.length:Int) != (b.length:Int)) (some false) ((whileO S (a,b,0,())).bind fun r=>match r with
      | .inl (t,_)=>some t
      | .inr _=>some true))=some (eqB a b):=by
  rw[zD1]
  by_cases hl:a.length=b.length
  · rw [eq_loop (S:=S) hl (by
      intro i hi
      have hlt:decide ((i:Int) < (a.length:Int))=true:=by simpa using hi
      have hwr:=zar hi hlen
      subst hS
      simp only[hlt,cond_true,zaH hi,zaH (show i < b.length by omega),Option.bind_some,hel _ (List.getElem_mem hi) _ (List.getElem_mem (show i < b.length by omega)),hwr]
      cases eqB a[i] (b[i]'(by omega))<;>rfl) (by subst hS; simp)]
    have:(a.length==b.length)=true:=by simpa using hl
    rw[this]
    cases eqB a b<;>rfl
  · have:(a.length==b.length)=false:=by simpa using hl
    rw[this]
    have hne:eqB a b=false:=by rw[zkT]; rintro rfl; exact hl rfl
    rw[hne]; rfl
theorem zOF {α β:Type} {a b:α} {c d:β} (h:a=b↔c=d):eqB a b=eqB c d:=by rw[Bool.eq_iff_iff,zd5,zd5]; exact h
theorem zMS (a b:Int):(a==b)=eqB a b:=by rw[Bool.eq_iff_iff,zd5]; simp
theorem zvG (a b:Int):(a != b)=!eqB a b:=by rw[← zMS]; rfl
theorem zIM (a b:Bool):(a==b)=eqB a b:=by rw[Bool.eq_iff_iff,zd5]; simp
theorem zEk {a b:List Int} (ha:a.length≤1048576):zeE a b=some (eqB a b):=by
  unfold zeE ziC
  exact zvq (S:=zds) (f:=fun x y=>some (eqB x y)) ha (fun _ _ _ _=>rfl) (by
    funext ⟨a,b,i,u⟩
    simp only[zds,zvG,Option.bind_some])
theorem chain {x:Option Bool} {a b:Bool} {k:Option Bool} (hx:x=some a) (hk:k=some b):(x.bind fun r=>cond (!r) (some false) k)=some (a && b):=by
  subst hx; subst hk; cases a<;>rfl
theorem zEL {x:Option Bool} {a:Bool} (hx:x=some a):(x.bind fun r=>cond (!r) (some false) (some true))=some a:=by
  subst hx; cases a<;>rfl
theorem zsF {a b:Bool} {k:Option Bool} (hk:k=some b):cond (!a) (some false) k=some (a && b):=by
  subst hk; cases a<;>rfl
theorem zOE {r s:Rt} (h:r.fit):zgr r s=some (eqB r s):=by
  unfold zgr zf8
  rw[chain (zsF (zEL (zEk h.1))) (zEL (zEk h.2)),zIM]
  congr 1
  rw[Bool.eq_iff_iff,zd5]
  simp only[Bool.and_eq_true,zd5]
  cases r; cases s; simp[and_assoc]
theorem zEj {a b:List Rt} (h:zmJ Rt.fit a):zfC a b=some (eqB a b) :=
  zvq (S:=zen) h.1 (fun x hx _y _=>zOE (h.2 x hx)) rfl
theorem zQW {a b:Mx} (h:zmJ Rt.fit a.cells):zeD a b=some (eqB a b):=by
  unfold zeD
  simp only[zvG]
  rw[zsF (zsF (zEL (zEj h)))]
  congr 1
  rw[Bool.eq_iff_iff,zd5]
  simp only[Bool.and_eq_true,zd5]
  cases a; cases b; simp
end Go.Di
namespace Go.Di
theorem find_loop {σ ρ:Type} {S:σ→Option (σ ⊕ ρ)} (st:Nat→σ) (n:Nat) (r:Nat→Option ρ) (e:ρ)
    (hS:∀ i,i < n→S (st i)=some (match r i with | some y => .inr y | none => .inl (st (i+1)))) (hE:S (st n)=some (.inr e)) :
    whileO S (st 0)=some (((List.range n).findSome? r).getD e):=by
  have key : ∀ (m i:Nat),i+m=n→(∀ j,j < i→r j=none)→whileO S (st i)=some (((List.range n).findSome? r).getD e):=by
    intro m
    induction m with
    | zero =>
      intro i him hn
      have:i=n:=by omega
      subst this
      rw[zaz hE]
      have:(List.range i).findSome? r=none:=by
        rw[List.findSome?_eq_none_iff]
        intro j hj; exact hn j (List.mem_range.1 hj)
      rw[this]; rfl
    | succ m ih =>
      intro i him hn
      have hi:i < n:=by omega
      cases hr:r i with
      | some y =>
        rw[zaz (r:=y) (by rw[hS i hi,hr])]
        have:(List.range n).findSome? r=some y:=by
          rw[List.findSome?_eq_some_iff]
          refine ⟨List.range i,i,(List.range' (i+1) m),?_,hr,fun j hj=>hn j (List.mem_range.1 hj)⟩
          rw[List.range_eq_range',List.range_eq_range',← him]
          rw[← List.range'_append_1 (s:=0) (m:=i) (n:=m+1),List.range'_succ]; simp
        rw[this]; rfl
      | none =>
        rw[zbd (y:=st (i+1)) (by rw[hS i hi,hr])]
        refine ih (i+1) (by omega) fun j hj=>?_
        by_cases h:j=i
        · subst h; exact hr
        · exact hn j (by omega)
  exact key n 0 (by omega) fun j hj=>by omega
theorem zIO {σ:Type} {S:σ→Option (σ ⊕ ((Bool × Unit) ⊕ Unit))} (st:Nat→σ) (n:Nat) (p:Nat→Bool)
    (hS:∀ i,i < n→S (st i)=some (cond (p i) (.inl (st (i+1))) (.inr (.inl (false,()))))) (hE:S (st n)=some (.inr (.inr ()))) :
    whileO S (st 0)=some (cond ((List.range n).all p) (.inr ()) (.inl (false,()))):=by
  rw[find_loop st n (fun i=>cond (p i) none (some (.inl (false,())))) (.inr ()) (fun i hi=>by rw[hS i hi]; cases p i<;>rfl) hE]
  congr 1
  cases h:(List.range n).all p with
  | true =>
    have:(List.range n).findSome? (fun i=>cond (p i) none (some (Sum.inl (β:=Unit) (false,()))))=none:=by
      rw[List.findSome?_eq_none_iff]
      intro j hj
      rw[List.all_eq_true] at h
      rw[h j hj]; rfl
    rw[this]; rfl
  | false =>
    cases hf:(List.range n).findSome? (fun i=>cond (p i) none (some (Sum.inl (β:=Unit) (false,())))) with
    | none =>
      rw[List.findSome?_eq_none_iff] at hf
      have:(List.range n).all p=true:=by
        rw[List.all_eq_true]; intro j hj
        have:=hf j hj
        cases hp:p j with
        | true=>rfl
        | false=>rw[hp] at this; cases this
      rw[this] at h; cases h
    | some y =>
      obtain ⟨j,_,hj⟩:=List.exists_of_findSome?_eq_some hf
      cases hp:p j with
      | true=>rw[hp] at hj; cases hj
      | false=>rw[hp] at hj; cases hj; rfl
theorem zMV {α:Type} {a b:List α} (hl:a.length=b.length):((List.range a.length).all fun i=>eqB a[i]? b[i]?)=eqB a b:=by
  rw[Bool.eq_iff_iff,List.all_eq_true,zd5]
  constructor
  · intro h
    apply List.ext_getElem?
    intro i
    by_cases hi:i < a.length
    · exact zd5.1 (h i (List.mem_range.2 hi))
    · rw[List.getElem?_eq_none (by omega),List.getElem?_eq_none (by omega)]
  · rintro rfl i _; exact zmR _
theorem zOG {α:Type} {a b:List α} {i:Nat} (h1:i < a.length) (h2:i < b.length):eqB a[i]? b[i]? = eqB a[i] b[i]:=by
  rw[List.getElem?_eq_getElem h1,List.getElem?_eq_getElem h2]
  exact zOF (by simp)
theorem zBI {α σ:Type} {S:σ→Option (σ ⊕ ((Bool × Unit) ⊕ Unit))} {a b:List α} (st:Nat→σ) (hl:a.length=b.length)
    (hS:∀ (i:Nat) (h1:i < a.length) (h2:i < b.length),S (st i)=some (cond (eqB a[i] b[i]) (.inl (st (i+1))) (.inr (.inl (false,()))))) (hE:S (st a.length)=some (.inr (.inr ()))) :
    (whileO S (st 0)).bind (fun r=>match r with
      | .inl (t,_)=>some t
      | .inr _=>some true)=some (eqB a b):=by
  rw[zIO st a.length (fun i=>eqB a[i]? b[i]?) (fun i hi=>by rw[hS i hi (by omega),zOG hi (by omega)]) hE,zMV hl]
  cases eqB a b<;>rfl
theorem zGs {α:Type} {a b:List α} {x:Option Bool} (h:a.length=b.length→x=some (eqB a b)):cond ((a.length:Int) != (b.length:Int)) (some false) x=some (eqB a b):=by
  rw[zD1]
  by_cases hl:a.length=b.length
  · rw[h hl]
    have:(a.length==b.length)=true:=by simpa using hl
    rw[this]; rfl
  · have:(a.length==b.length)=false:=by simpa using hl
    rw[this]
    have hne:eqB a b=false:=by rw[zkT]; rintro rfl; exact hl rfl
    rw[hne]; rfl
theorem dlt {i n:Nat} (h:i < n):decide ((i:Int) < (n:Int))=true:=by simpa using h
theorem zDY {a b:List Int} (ha:a.length≤1048576):zeF a b=some (eqB a b):=by
  unfold zeF zhb
  refine zGs fun hl=>?_
  exact zBI (S:=zb5) (fun i=>(a,b,(a.length:Int),(i:Int),())) hl (fun i h1 h2=>by
    simp only[zb5,dlt h1,cond_true,zaH h1,zaH h2,Option.bind_some,zar h1 ha,zvG]
    cases eqB a[i] b[i]<;>rfl) (by simp[zb5])
/-! ### Searches -/
end Go.Di
namespace Go.Di
def Dig (xs:List Int):Prop:=∀ d∈xs,0≤d∧d < 1000000000
def nv:List Int→Int
  | []=>0
  | d :: r=>d+1000000000 * nv r
def bp (n:Nat):Int:=1000000000 ^ n
theorem zod:bp 0=1:=rfl
theorem zek (n:Nat):bp (n+1)=1000000000 * bp n:=by unfold bp; rw[Int.pow_succ,Int.mul_comm]
theorem zsR (m n:Nat):bp (m+n)=bp m * bp n:=by unfold bp; rw[Int.pow_add]
theorem zfg (n:Nat):0 < bp n:=by
  induction n with
  | zero=>decide
  | succ n ih=>rw[zek]; omega
theorem zvF {m n:Nat} (h:m≤n):bp m≤bp n:=by
  induction h with
  | refl=>exact Int.le_refl _
  | step h ih=>rw[zek]; have:=zfg; rename_i k; have:=zfg k; omega
theorem zkL (xs ys:List Int):nv (xs++ys)=nv xs+bp xs.length * nv ys:=by
  induction xs with
  | nil=>simp[nv,zod]
  | cons d r ih =>
    simp only[List.cons_append,nv,ih,List.length_cons,zek]
    grind
theorem zgw (xs:List Int) (d:Int):nv (xs++[d])=nv xs+bp xs.length * d:=by
  rw[zkL]; simp[nv]
theorem Dig.nil:Dig []:=fun d h=>by cases h
theorem Dig.cons {d:Int} {r:List Int} (h:0≤d∧d < 1000000000) (hr:Dig r):Dig (d :: r):=fun e he=>by
  rcases List.mem_cons.1 he with rfl | he
  · exact h
  · exact hr e he
theorem Dig.head {d:Int} {r:List Int} (h:Dig (d :: r)):0≤d∧d < 1000000000:=h d (List.mem_cons_self ..)
theorem Dig.tail {d:Int} {r:List Int} (h:Dig (d :: r)):Dig r:=fun e he=>h e (List.mem_cons_of_mem _ he)
theorem Dig.append {xs ys:List Int} (h:Dig xs) (k:Dig ys):Dig (xs++ys):=fun e he=>by
  rcases List.mem_append.1 he with he | he
  · exact h e he
  · exact k e he
theorem Dig.snoc {xs:List Int} {d:Int} (h:Dig xs) (hd:0≤d∧d < 1000000000):Dig (xs++[d]):=h.append (Dig.cons hd Dig.nil)
theorem Dig.take {xs:List Int} (h:Dig xs) (n:Nat):Dig (xs.take n):=fun e he=>h e (List.mem_of_mem_take he)
theorem Dig.drop {xs:List Int} (h:Dig xs) (n:Nat):Dig (xs.drop n):=fun e he=>h e (List.mem_of_mem_drop he)
theorem Dig.at {xs:List Int} (h:Dig xs) {i:Nat} (hi:i < xs.length):0≤xs[i]∧xs[i] < 1000000000:=h _ (List.getElem_mem hi)
theorem Dig.zeros (n:Nat):Dig (List.replicate n 0):=fun d h=>by rw[List.eq_of_mem_replicate h]; omega
theorem zmH (n:Nat):nv (List.replicate n 0)=0:=by
  induction n with
  | zero=>rfl
  | succ n ih=>rw[List.replicate_succ,nv,ih]; rfl
theorem zaP:∀ {xs:List Int},Dig xs→0≤nv xs
  | [],_=>Int.le_refl _
  | d :: r,h=>by have:=zaP h.tail; have:=h.head; simp only[nv]; omega
theorem zpQ:∀ {xs:List Int},Dig xs→nv xs < bp xs.length
  | [],_=>by simp[nv,zod]
  | d :: r,h=>by have:=zpQ h.tail; have:=h.head; simp only[nv,List.length_cons,zek]; omega
def zqU (xs:List Int):Prop:=xs.getLast? ≠ some 0
def Can (xs:List Int):Prop:=Dig xs∧zqU xs
theorem Can.tail {d:Int} {r:List Int} (h:Can (d :: r)):Can r:=by
  refine ⟨h.1.tail,?_⟩
  cases r with
  | nil=>simp[zqU]
  | cons e r=>have:=h.2; simpa [zqU,List.getLast?_cons_cons] using this
theorem Can.zero {xs:List Int} (h:Can xs) (hv:nv xs=0):xs=[]:=by
  induction xs with
  | nil=>rfl
  | cons d r ih =>
    have h1:=zaP h.1.tail
    have h2:=h.1.head
    simp only[nv] at hv
    have h3:nv r=0:=by omega
    have h4:=ih h.tail h3
    subst h4
    have:d=0:=by omega
    subst this
    exact absurd rfl h.2
theorem Can.ext:∀ {xs ys:List Int},Can xs→Can ys→nv xs=nv ys→xs=ys
  | [],ys,_,h,hv=>(h.zero hv.symm).symm
  | d :: r,[],h,_,hv=>h.zero hv
  | d :: r,e :: s,h,k,hv=>by
    have h1:=h.1.head
    have k1:=k.1.head
    simp only[nv] at hv
    have:d=e:=by omega
    subst this
    rw[Can.ext h.tail k.tail (by omega)]
def dg (n:Nat):List Int:=if h:n=0 then [] else ((n % 1000000000:Nat):Int) :: dg (n / 1000000000)
termination_by n
decreasing_by exact Nat.div_lt_self (by omega) (by decide)
theorem zaB:dg 0=[]:=by rw[dg]; rfl
theorem zo3 {n:Nat} (h:n≠0):dg n=((n % 1000000000:Nat):Int) :: dg (n / 1000000000):=by rw[dg,dif_neg h]
theorem zej (n:Nat):Dig (dg n):=by
  induction n using Nat.strongRecOn with
  | _ n ih =>
    by_cases h:n=0
    · subst h; rw[zaB]; exact Dig.nil
    · rw[zo3 h]
      exact Dig.cons (by omega) (ih _ (Nat.div_lt_self (by omega) (by decide)))
theorem zcx (n:Nat):nv (dg n)=n:=by
  induction n using Nat.strongRecOn with
  | _ n ih =>
    by_cases h:n=0
    · subst h; rw[zaB]; rfl
    · rw[zo3 h,nv,ih _ (Nat.div_lt_self (by omega) (by decide))]; omega
theorem zfX {n:Nat}:dg n=[]↔n=0:=by
  constructor
  · intro h; have:=zcx n; rw[h] at this; simp[nv] at this; omega
  · rintro rfl; exact zaB
theorem zbY (n:Nat):Can (dg n):=by
  refine ⟨zej n,?_⟩
  induction n using Nat.strongRecOn with
  | _ n ih =>
    by_cases h:n=0
    · subst h; rw[zaB]; simp[zqU]
    · rw [zo3 h]
      have hd:=ih _ (Nat.div_lt_self (by omega) (by decide):n / 1000000000 < n)
      cases hr:dg (n / 1000000000) with
      | nil =>
        have:=zfX.1 hr
        simp[zqU]; omega
      | cons e s=>rw[hr] at hd; simpa [zqU,List.getLast?_cons_cons] using hd
theorem Can.dg {xs:List Int} (h:Can xs):xs=dg (nv xs).toNat :=
  h.ext (zbY _) (by rw[zcx]; have:=zaP h.1; omega)
theorem zOK {m n:Nat} (h:dg m=dg n):m=n:=by have:=zcx m; rw[h,zcx] at this; omega
def tz (xs:List Int):List Int:=(xs.reverse.dropWhile (·==0)).reverse
theorem ztV (xs:List Int) (d:Int):tz (xs++[d])=if d=0 then tz xs else xs++[d]:=by
  unfold tz
  rw[List.reverse_append]
  by_cases h:d=0
  · simp[h]
  · simp[h]
theorem zKY:∀ (n:Nat) (xs:List Int),xs.length=n→Dig xs→Can (tz xs)∧nv (tz xs)=nv xs:=by
  intro n
  induction n with
  | zero =>
    intro xs hl h
    have:xs=[]:=List.length_eq_zero_iff.1 hl
    subst this
    exact ⟨⟨Dig.nil,by simp[zqU,tz]⟩,rfl⟩
  | succ n ih =>
    intro xs hl h
    obtain ⟨ys,d,rfl⟩:∃ ys d,xs=ys++[d]:=⟨xs.dropLast,xs.getLast (by intro e; subst e; simp at hl),(List.dropLast_concat_getLast _).symm⟩
    rw[ztV]
    have hd:=h d (by simp)
    have hy:Dig ys:=fun e he=>h e (List.mem_append_left _ he)
    split
    · rename_i h0; subst h0
      obtain ⟨k1,k2⟩:=ih ys (by simpa using hl) hy
      exact ⟨k1,by rw[k2,zgw]; omega⟩
    · rename_i h0
      exact ⟨⟨h,by simpa [zqU] using h0⟩,rfl⟩
theorem zqY {xs:List Int} (h:Dig xs):tz xs=dg (nv xs).toNat:=by
  obtain ⟨h1,h2⟩:=zKY _ xs rfl h
  rw[h1.dg,h2]
theorem zfe {n k:Nat}:(dg n).length≤k↔(n:Int) < bp k:=by
  have h1:=zpQ (zej n)
  rw[zcx] at h1
  constructor
  · intro h; have:=zvF h; omega
  · intro h
    rcases Nat.lt_or_ge k (dg n).length with hk | hk
    · exfalso
      -- the top limb is worth at least bp k
      have hne:dg n≠[]:=by intro e; rw[e] at hk; simp at hk
      have hs:=List.dropLast_concat_getLast hne
      have hv:=zgw (dg n).dropLast ((dg n).getLast hne)
      rw[hs,zcx] at hv
      have hd:=zej n _ (List.getLast_mem hne)
      have h0:(dg n).getLast hne≠0:=by
        intro e
        have:=(zbY n).2
        rw[zqU,List.getLast?_eq_some_getLast hne,e] at this
        exact this rfl
      have hp:=zaP ((zej n).take ((dg n).length - 1))
      rw[← List.dropLast_eq_take] at hp
      have hl:(dg n).dropLast.length=(dg n).length - 1:=List.length_dropLast
      have hb:=zvF (show k≤(dg n).dropLast.length by omega)
      have hq:=zfg (dg n).dropLast.length
      have:bp (dg n).dropLast.length≤bp (dg n).dropLast.length * (dg n).getLast hne:=by
        have h1:(1:Int)≤(dg n).getLast hne:=by omega
        have:=Int.mul_le_mul_of_nonneg_left h1 (Int.le_of_lt hq)
        simpa using this
      omega
    · exact hk
end Go.Di
namespace Go.Di
def pB (p:Prop):Bool:=@decide p (Classical.propDecidable _)
theorem pB_iff {p:Prop}:pB p=true↔p:=by unfold pB; exact @decide_eq_true_iff _ (Classical.propDecidable _)
theorem zmG {p q:Prop} (h:p↔q):pB p=pB q:=by rw[Bool.eq_iff_iff,pB_iff,pB_iff]; exact h
theorem pB_not {p:Prop}:pB p=false↔¬ p:=by rw[← Bool.not_eq_true,pB_iff]
theorem all_loopE {σ τ:Type} {S:σ→Option (σ ⊕ ((Bool × Unit) ⊕ τ))} (st:Nat→σ) (n:Nat) (p:Nat→Bool) (e:τ)
    (hS:∀ i,i < n→S (st i)=some (cond (p i) (.inl (st (i+1))) (.inr (.inl (false,()))))) (hE:S (st n)=some (.inr (.inr e))) :
    whileO S (st 0)=some (cond ((List.range n).all p) (.inr e) (.inl (false,()))):=by
  rw[find_loop st n (fun i=>cond (p i) none (some (.inl (false,())))) (.inr e) (fun i hi=>by rw[hS i hi]; cases p i<;>rfl) hE]
  congr 1
  cases h:(List.range n).all p with
  | true =>
    have:(List.range n).findSome? (fun i=>cond (p i) none (some (Sum.inl (β:=τ) (false,()))))=none:=by
      rw[List.findSome?_eq_none_iff]
      intro j hj
      rw[List.all_eq_true] at h
      rw[h j hj]; rfl
    rw[this]; rfl
  | false =>
    have hne:(List.range n).findSome? (fun i=>cond (p i) none (some (Sum.inl (β:=τ) (false,()))))=some (.inl (false,())):=by
      cases hf:(List.range n).findSome? (fun i=>cond (p i) none (some (Sum.inl (β:=τ) (false,())))) with
      | none =>
        rw[List.findSome?_eq_none_iff] at hf
        have:(List.range n).all p=true:=by
          rw[List.all_eq_true]
          intro j hj
          have:=hf j hj
          cases hp:p j with
          | true=>rfl
          | false=>rw[hp] at this; cases this
        rw[this] at h; cases h
      | some y =>
        obtain ⟨j,hj,hy⟩:=List.exists_of_findSome?_eq_some hf
        cases hp:p j with
        | true=>rw[hp] at hy; cases hy
        | false=>rw[hp] at hy; cases hy; rfl
    rw[hne]; rfl
def atB {α:Type} (f:α→Bool) (a:List α) (i:Nat):Bool:=((a[i]?).map f).getD true
theorem zmp {α:Type} (f:α→Bool) {a:List α} {i:Nat} (h:i < a.length):atB f a i=f a[i]:=by simp[atB,h]
theorem zg0 {α:Type} (f:α→Bool) (a:List α):(List.range a.length).all (atB f a)=a.all f:=by
  rw[Bool.eq_iff_iff,List.all_eq_true,List.all_eq_true]
  constructor
  · intro h d hd
    obtain ⟨i,hi,rfl⟩:=List.getElem_of_mem hd
    have:=h i (List.mem_range.2 hi)
    rw[zmp f hi] at this; exact this
  · intro h i hi
    have hi:=List.mem_range.1 hi
    rw[zmp f hi]
    exact h _ (List.getElem_mem hi)
def zp9 (d:Int):Bool:=decide (0≤d) && decide (d < 1000000000)
theorem zwU {a:List Int}:a.all zp9=true↔Dig a:=by
  rw[List.all_eq_true]
  constructor
  · intro h d hd; have:=h d hd; simp[zp9] at this; exact this
  · intro h d hd; have:=h d hd; simp[zp9]; exact this
def zkt (a:List Int):Prop:=Can a∧a.length≤60
theorem zmL {a:List Int} (hn:a≠[]) (hl:a.length≤1073741824):idx a (IntKind.i64.wrap ((a.length:Int) - 1))=some (a.getLast hn):=by
  have hp:0 < a.length:=List.length_pos_iff.2 hn
  rw[wrap_i64 (by omega) (by omega)]
  have:((a.length:Int) - 1)=((a.length - 1:Nat):Int):=by omega
  rw[this,zaH (by omega)]
  rw[List.getLast_eq_getElem]
theorem spec_natOk {a:List Int} (h:a.length≤1048576):zea a=some (pB (zkt a)):=by
  have hloop:zkb a a (a.length:Int) 0=some (cond (a.all zp9) (.inr (a,())) (.inl (false,()))):=by
    rw[← zg0]
    refine all_loopE (S:=zdb) (fun i=>(a,a,(a.length:Int),(i:Int),())) a.length (atB zp9 a) (a,()) (fun i hi=>?_) (by simp[zdb])
    simp only[zdb,dlt hi,cond_true,zaH hi,Option.bind_some,zar hi h,zdu,zmp zp9 hi]
    have e1:zp9 a[i]=(decide (a[i] ≥ 0) && decide (a[i]≤999999999)):=by
      unfold zp9
      rw[Bool.eq_iff_iff]; simp; omega
    rw[e1]
    cases decide (a[i] ≥ 0)<;>cases decide (a[i]≤999999999)<;>rfl
  unfold zea
  rw[hloop]
  · have hdig:=@zwU a
    cases hall:a.all zp9 with
    | false =>
      simp only[cond_false,Option.bind_some]
      rw[hall] at hdig
      congr 1
      symm
      rw[pB_not]
      intro hk
      exact absurd (hdig.2 hk.1.1) (by simp)
    | true =>
      rw[hall] at hdig
      have hd:=hdig.1 rfl
      simp only[cond_true,Option.bind_some]
      by_cases h60:a.length≤60
      · have:decide ((a.length:Int)≤60)=true:=by simpa using (by omega:(a.length:Int)≤60)
        rw[this,cond_true]
        cases a with
        | nil=>simp[pB_iff,zkt,Can,zqU,Dig.nil]
        | cons d r =>
          have h0:(((d :: r).length:Int)==0)=false:=by simp; omega
          rw[h0,cond_false,zmL (by simp) (by omega),Option.bind_some]
          congr 1
          rw[Bool.eq_iff_iff,pB_iff]
          simp only[bne_iff_ne,ne_eq,zkt,Can,zqU,hd,true_and,h60,and_true]
          rw[List.getLast?_eq_some_getLast (by simp)]
          simp
      · have:decide ((a.length:Int)≤60)=false:=by simpa using (by omega:(60:Int) < a.length)
        rw[this,cond_false]
        congr 1
        symm
        rw[pB_not]
        intro hk; exact h60 hk.2
theorem impl_natOk {a:List Int} (h:a.length≤1048576):zfk a=some (pB (zkt a)):=by
  have hloop:zfb a (a.length:Int) 0=some (cond (a.all zp9) (.inr ()) (.inl (false,()))):=by
    rw[← zg0]
    refine all_loopE (S:=zdc) (fun i=>(a,(a.length:Int),(i:Int),())) a.length (atB zp9 a) () (fun i hi=>?_) (by simp[zdc])
    simp only[zdc,dlt hi,cond_true,zaH hi,Option.bind_some,zar hi h,zmp zp9 hi]
    have e1:zp9 a[i]=(!decide (a[i] < 0) && !decide (a[i] ≥ 1000000000)):=by
      unfold zp9
      rw[Bool.eq_iff_iff]; simp
    rw[e1]
    cases decide (a[i] < 0)<;>cases decide (a[i] ≥ 1000000000)<;>rfl
  have hdig:=@zwU a
  have fin:(Option.bind (zfb a (a.length:Int) 0) fun r=>match r with
      | .inl (t,_)=>some t
      | .inr _=>some true)=some (a.all zp9):=by
    rw[hloop]; cases a.all zp9<;>rfl
  unfold zfk
  by_cases h60:a.length≤60
  · have : decide ((a.length:Int) > 60)=false:=by simpa using (by omega:(a.length:Int)≤60)
    rw[this,cond_false]
    cases a with
    | nil =>
      rw[show decide ((([]:List Int).length:Int) > 0)=false from rfl,cond_false]
      refine fin.trans ?_
      congr 1; symm; rw[show ([]:List Int).all zp9=true from rfl,pB_iff]; exact ⟨⟨Dig.nil,by simp[zqU]⟩,by simp⟩
    | cons d r =>
      have h0:decide ((((d :: r).length:Nat):Int) > 0)=true:=by simp
      rw[h0,cond_true,zmL (by simp) (by omega),Option.bind_some]
      have key:some (pB (zkt (d :: r)))=cond ((d :: r).getLast (by simp)==0) (some false) (some ((d :: r).all zp9)):=by
        have e:pB (zkt (d :: r))=(!((d :: r).getLast (by simp)==0) && (d :: r).all zp9):=by
          rw[Bool.eq_iff_iff,pB_iff,Bool.and_eq_true,hdig]
          simp only[zkt,Can,zqU,h60,and_true]
          rw[List.getLast?_eq_some_getLast (by simp)]
          simp[and_comm]
        rw[e]
        cases ((d :: r).getLast (by simp)==0)<;>rfl
      rw[key]
      congr 1
  · have:decide ((a.length:Int) > 60)=true:=by simpa using (by omega:(60:Int) < a.length)
    rw[this,cond_true]
    congr 1; symm; rw[pB_not]; intro hk; exact h60 hk.2
/-! ### Zeros taken away -/
theorem zqZ {S:(Int × List Int × Unit)→Option ((Int × List Int × Unit) ⊕ (Int × List Int × Unit))} {a:List Int}
    (hS:∀ (i:Nat) (h:i < a.length),S (((i+1:Nat):Int),a,())=some (cond (a[i]==0) (.inl ((i:Int),a,())) (.inr (((i+1:Nat):Int),a,()))))
    (hE:S (0,a,())=some (.inr (0,a,()))):∀ m:Nat,m≤a.length→∃ k:Nat,k≤m∧a.take k=tz (a.take m)∧whileO S ((m:Int),a,())=some ((k:Int),a,()):=by
  intro m
  induction m with
  | zero=>intro _; exact ⟨0,Nat.le_refl _,by simp[tz],zaz hE⟩
  | succ m ih =>
    intro hm
    have hlt:m < a.length:=hm
    have ht:a.take (m+1)=a.take m++[a[m]]:=by rw[List.take_succ_eq_append_getElem hlt]
    cases hz:a[m]==0 with
    | true =>
      obtain ⟨k,k1,k2,k3⟩:=ih (by omega)
      refine ⟨k,by omega,?_,?_⟩
      · rw[ht,ztV,if_pos (by simpa using hz)]; exact k2
      · rw[zbd (by rw[hS m hlt,hz]; rfl)]; exact k3
    | false =>
      refine ⟨m+1,Nat.le_refl _,?_,?_⟩
      · rw[ht,ztV,if_neg (by simpa using hz)]
      · exact zaz (by rw[hS m hlt,hz]; rfl)
theorem zlf (n k:Nat) (h:k≤n):zak (inside n (0,(k:Int)))=some ():=by
  have:inside n (0,(k:Int))=true:=by unfold inside; simp; omega
  rw[this]; rfl
theorem zh6 {a:List Int} (h:a.length≤1073741824):zbk a=some (tz a):=by
  unfold zbk zgu
  obtain ⟨k,k1,k2,k3⟩:=zqZ (S:=zbN) (a:=a) (fun i hi=>by
    have e1:decide (((i+1:Nat):Int) > 0)=true:=by simp
    have e2:IntKind.i64.wrap (((i+1:Nat):Int) - 1)=(i:Int):=by rw[wrap_i64 (by omega) (by omega)]; omega
    simp only[zbN,e1,cond_true,e2,zaH hi,Option.bind_some,Int.toNat_natCast,List.getElem?_eq_getElem hi]
    cases a[i]==0<;>rfl) (by simp[zbN]) a.length (Nat.le_refl _)
  rw[k3]
  simp only[Option.bind_some,zlf _ _ k1,Int.toNat_natCast]
  rw[k2,List.take_length]
theorem zid {a:List Int} (h:a.length≤1073741824):zcv a=some (tz a):=by
  unfold zcv ziD
  obtain ⟨k,k1,k2,k3⟩:=zqZ (S:=zcK) (a:=a) (fun i hi=>by
    have e1:decide (((i+1:Nat):Int) > 0)=true:=by simp
    have e2:IntKind.i64.wrap (((i+1:Nat):Int) - 1)=(i:Int):=by rw[wrap_i64 (by omega) (by omega)]; omega
    simp only[zcK,e1,cond_true,e2,zaH hi,Option.bind_some,Int.toNat_natCast,List.getElem?_eq_getElem hi]
    cases a[i]==0<;>rfl) (by simp[zcK]) a.length (Nat.le_refl _)
  rw[k3]
  simp only[Option.bind_some,zlf _ _ k1,Int.toNat_natCast]
  rw[k2,List.take_length]
end Go.Di
namespace Go.Di
theorem zbZ {σ ρ:Type} {S:σ→Option (σ ⊕ ρ)} (I:Nat→σ→Prop) (n:Nat) (Q:ρ→Prop)
    (hS:∀ i,i < n→∀ x,I i x→(∃ y,S x=some (.inl y)∧I (i+1) y)∨∃ r,S x=some (.inr r)∧Q r) (hE:∀ x,I n x→∃ r,S x=some (.inr r)∧Q r) {x:σ} (h0:I 0 x):∃ r,whileO S x=some r∧Q r:=by
  have key:∀ (m i:Nat) (x:σ),i+m=n→I i x→∃ r,whileO S x=some r∧Q r:=by
    intro m
    induction m with
    | zero =>
      intro i x him h
      have:i=n:=by omega
      subst this
      obtain ⟨r,h1,h2⟩:=hE x h
      exact ⟨r,zaz h1,h2⟩
    | succ m ih =>
      intro i x him h
      rcases hS i (by omega) x h with ⟨y,h1,h2⟩ | ⟨r,h1,h2⟩
      · obtain ⟨r,h3,h4⟩:=ih (i+1) y (by omega) h2
        exact ⟨r,(zbd h1).trans h3,h4⟩
      · exact ⟨r,zaz h1,h2⟩
  exact key n 0 x (by omega) h0
theorem zdl {a:List Int} {i:Nat} (h:i < a.length):nv (a.take (i+1))=nv (a.take i)+bp i * a[i]:=by
  rw[List.take_succ_eq_append_getElem h,zgw]
  have:(a.take i).length=i:=by rw[List.length_take]; omega
  rw[this]
theorem zcw {a:List Int} {i:Nat} (h:a.length≤i):nv (a.take i)=nv a:=by rw[List.take_of_length_le h]
theorem zk8 {a:List Int} (h:Dig a) {i:Nat} (hi:i≤a.length):0≤nv (a.take i)∧nv (a.take i) < bp i:=by
  have h1:=zpQ (h.take i)
  rw[List.length_take,Nat.min_eq_left hi] at h1
  exact ⟨zaP (h.take i),h1⟩
theorem zKJ {p x y s t:Int} (hp:0 < p) (hxy:x < y) (hs:s < p) (ht:0≤t):s+p * x < t+p * y:=by
  have h1:=Int.mul_le_mul_of_nonneg_left (show x+1≤y by omega) (Int.le_of_lt hp)
  have h2:p * (x+1)=p * x+p:=by grind
  omega
theorem wrap_add {n:Int} (h1 : -1000000000000000000≤n) (h2:n≤1000000000000000000):IntKind.i64.wrap n=n:=wrap_i64 (by omega) (by omega)
theorem zkv {i n:Nat} (h:i≤n) (hn:n≤1073741824):IntKind.i64.wrap ((i:Int)+1)=((i+1:Nat):Int):=by
  rw[wrap_i64 (by omega) (by omega)]; omega
theorem room {n:Nat} (h:n≤1073741824):zak (Nat.ble n zan)=some ():=by
  have:Nat.ble n zan=true:=by rw[Nat.ble_eq]; unfold zan; omega
  rw[this]; rfl
/-! ### Compare -/
def zo6 (x y:Int):Int:=if x < y then -1 else if y < x then 1 else 0
theorem Can.low {a:List Int} (h:Can a) (hn:a≠[]):bp (a.length - 1)≤nv a:=by
  have hs:=List.dropLast_concat_getLast hn
  have hv:=zgw a.dropLast (a.getLast hn)
  rw[hs] at hv
  have h1:=h.1 _ (List.getLast_mem hn)
  have h0:a.getLast hn≠0:=by
    intro e
    have:=h.2
    rw[zqU,List.getLast?_eq_some_getLast hn,e] at this
    exact this rfl
  have hp:=zaP (h.1.take (a.length - 1))
  rw[← List.dropLast_eq_take] at hp
  have hl:a.dropLast.length=a.length - 1:=List.length_dropLast
  rw[hl] at hv
  have:=Int.mul_le_mul_of_nonneg_left (show 1≤a.getLast hn by omega) (Int.le_of_lt (zfg (a.length - 1)))
  omega
theorem Can.zDJ {a b:List Int} (h:Can a) (k:Can b) (hl:a.length < b.length):nv a < nv b:=by
  have h1:=zpQ h.1
  have hb:b≠[]:=by intro e; subst e; simp at hl
  have h2:=k.low hb
  have h3:=zvF (show a.length≤b.length - 1 by omega)
  omega
theorem cmp_loop {S:(List Int × List Int × Int × Unit)→Option ((List Int × List Int × Int × Unit) ⊕ ((Int × Unit) ⊕ Unit))} {a b:List Int} (hl:a.length=b.length) (ha:Dig a) (hb:Dig b)
    (hS:∀ (i:Nat) (h1:i < a.length) (h2:i < b.length),S (a,b,(i:Int),())=some (cond (decide (a[i] < b[i])) (.inr (.inl (-1,()))) (cond (decide (a[i] > b[i])) (.inr (.inl (1,()))) (.inl (a,b,(i:Int) - 1,())))))
    (hE:S (a,b,-1,())=some (.inr (.inr ()))) :
    ((whileO S (a,b,(a.length:Int) - 1,())).bind fun r=>match r with
      | .inl (t,_)=>some t
      | .inr _=>some 0)=some (zo6 (nv a) (nv b)):=by
  have key : ∀ m:Nat,m≤a.length→((whileO S (a,b,(m:Int) - 1,())).bind fun r=>match r with
      | .inl (t,_)=>some t
      | .inr _=>some 0)=some (zo6 (nv (a.take m)) (nv (b.take m))):=by
    intro m
    induction m with
    | zero =>
      intro _
      rw[zaz (show S (a,b,((0:Nat):Int) - 1,())=some (.inr (.inr ())) from hE)]
      simp[zo6]
    | succ m ih =>
      intro hm
      have h1:m < a.length:=hm
      have h2:m < b.length:=by omega
      have e:((m+1:Nat):Int) - 1=(m:Int):=by omega
      obtain ⟨p1,p2⟩:=zk8 ha (Nat.le_of_lt h1)
      obtain ⟨q1,q2⟩:=zk8 hb (Nat.le_of_lt h2)
      rw[zdl h1,zdl h2,e]
      by_cases hlt:a[m] < b[m]
      · rw[zaz (by rw[hS m h1 h2,decide_eq_true hlt]; rfl)]
        have:=zKJ (zfg m) hlt p2 q1
        simp[zo6,this]
      · by_cases hgt:a[m] > b[m]
        · rw[zaz (by rw[hS m h1 h2,decide_eq_false hlt,decide_eq_true hgt]; rfl)]
          have:=zKJ (zfg m) hgt q2 p1
          have h3:¬ (nv (a.take m)+bp m * a[m] < nv (b.take m)+bp m * b[m]):=by omega
          simp[zo6,this,h3]
        · rw[zbd (by rw[hS m h1 h2,decide_eq_false hlt,decide_eq_false hgt]; rfl),ih (by omega)]
          have:a[m]=b[m]:=by omega
          rw[this]
          congr 1
          unfold zo6
          have e1:(nv (a.take m)+bp m * b[m] < nv (b.take m)+bp m * b[m])↔nv (a.take m) < nv (b.take m):=by omega
          have e2:(nv (b.take m)+bp m * b[m] < nv (a.take m)+bp m * b[m])↔nv (b.take m) < nv (a.take m):=by omega
          simp only[e1,e2]
  have:=key a.length (Nat.le_refl _)
  rwa [List.take_length,hl,List.take_length,← hl] at this
theorem zEI {a b:List Int} (ha:Can a) (hb:Can b) {x:Option Int} (h:a.length=b.length→x=some (zo6 (nv a) (nv b))) :
    cond ((a.length:Int) != (b.length:Int)) (cond (decide ((a.length:Int) < (b.length:Int))) (some (-1)) (some 1)) x=some (zo6 (nv a) (nv b)):=by
  rw[zD1]
  by_cases hl:a.length=b.length
  · have:(a.length==b.length)=true:=by simpa using hl
    rw[this]; exact h hl
  · have:(a.length==b.length)=false:=by simpa using hl
    rw[this]
    simp only[Bool.not_false,cond_true]
    by_cases hlt:a.length < b.length
    · rw[decide_eq_true (by omega:(a.length:Int) < (b.length:Int)),cond_true]
      have:=ha.zDJ hb hlt
      simp[zo6,this]
    · rw[decide_eq_false (by omega:¬ (a.length:Int) < (b.length:Int)),cond_false]
      have:=hb.zDJ ha (by omega)
      have h3:¬ nv a < nv b:=by omega
      simp[zo6,this,h3]
theorem zmB {a b:List Int} (ha:Can a) (hb:Can b) (hl:a.length≤1073741824):zc4 a b=some (zo6 (nv a) (nv b)):=by
  unfold zc4 ziy
  refine zEI ha hb fun h=>?_
  rw[wrap_i64 (by omega) (by omega)]
  refine cmp_loop (S:=zcI) h ha.1 hb.1 (fun i h1 h2=>?_) (by simp[zcI])
  simp only[zcI,show decide ((i:Int) ≥ 0)=true by simp,cond_true,zaH h1,zaH h2,Option.bind_some,wrap_i64 (show -9223372036854775808≤(i:Int) - 1 by omega) (show (i:Int) - 1≤9223372036854775807 by omega)]
  cases decide (a[i] < b[i])<;>cases decide (a[i] > b[i])<;>rfl
theorem zwJ {a b:List Int} (ha:Can a) (hb:Can b) (hl:a.length≤1073741824):zeI a b=some (zo6 (nv a) (nv b)):=by
  unfold zeI ziJ
  refine zEI ha hb fun h=>?_
  rw[wrap_i64 (by omega) (by omega)]
  refine cmp_loop (S:=zcV) h ha.1 hb.1 (fun i h1 h2=>?_) (by simp[zcV])
  simp only[zcV,show decide ((i:Int) ≥ 0)=true by simp,cond_true,zaH h1,zaH h2,Option.bind_some,wrap_i64 (show -9223372036854775808≤(i:Int) - 1 by omega) (show (i:Int) - 1≤9223372036854775807 by omega)]
  cases decide (a[i] < b[i])<;>cases decide (a[i] > b[i])<;>rfl
/-! ### Numbers out of ints -/
theorem zy6 {S:(Int × List Int × Unit)→Option ((Int × List Int × Unit) ⊕ (List Int × Unit))}
    (hS:∀ (n:Nat) (out:List Int),0 < n→n≤9223372036854775807→out.length < 1073741824→S ((n:Int),out,())=some (.inl (((n / 1000000000:Nat):Int),out++[((n % 1000000000:Nat):Int)],())))
    (hE:∀ (n:Int) (out:List Int),n≤0→S (n,out,())=some (.inr (out,()))):∀ (n:Nat) (out:List Int),n≤9223372036854775807→out.length+n < 1073741824+9223372036854775807→out.length+(dg n).length≤1073741824→whileO S ((n:Int),out,())=some (out++dg n,()):=by
  intro n
  induction n using Nat.strongRecOn with
  | _ n ih =>
    intro out hn _ hlen
    by_cases h:n=0
    · subst h; rw[zaB,List.append_nil]; exact zaz (hE _ _ (by simp))
    · have hd:=zo3 h
      rw[hd] at hlen
      simp only[List.length_cons] at hlen
      rw[zbd (hS n out (by omega) hn (by omega)),ih (n / 1000000000) (Nat.div_lt_self (by omega) (by decide)) _ (by omega) (by simp; omega) (by simp; omega),hd]
      simp
theorem zgP {n:Nat} (h:n≤9223372036854775807):(dg n).length≤3:=zfe.2 (by simp[bp]; omega)
theorem zeP {n:Int} (h:n≤9223372036854775807):zcs n=some (dg n.toNat):=by
  unfold zcs zkc
  have hS:∀ (n:Nat) (out:List Int),0 < n→n≤9223372036854775807→out.length < 1073741824→zcA ((n:Int),out,())=some (.inl (((n / 1000000000:Nat):Int),out++[((n % 1000000000:Nat):Int)],())):=fun n out h0 hn hl=>by
    simp only[zcA,show decide ((n:Int) > 0)=true by simpa using h0,cond_true,room (show out.length+1≤1073741824 by omega),Option.bind_some]
    rw[Int.tdiv_eq_ediv_of_nonneg (by omega),Int.tmod_eq_emod_of_nonneg (by omega),wrap_i64 (by omega) (by omega)]
    rfl
  have hE:∀ (n:Int) (out:List Int),n≤0→zcA (n,out,())=some (.inr (out,())):=fun n out hn=>by
    simp only[zcA,show decide (n > 0)=false by simpa using hn,cond_false]
  by_cases h0:n≤0
  · rw[zaz (hE n [] h0)]
    have:n.toNat=0:=by omega
    rw[this,zaB]; rfl
  · have e:n=((n.toNat:Nat):Int):=by omega
    have:=zy6 hS hE n.toNat [] (by omega) (by simp; omega) (by have:=zgP (show n.toNat≤9223372036854775807 by omega); simp; omega)
    rw[← e] at this
    rw[this]; simp
theorem zlh {n:Int} (h:n≤9223372036854775807):zfl n=some (dg n.toNat):=zeP h
end Go.Di
namespace Go.Di
theorem zhn (a:List Int) (i:Nat):nv (a.take (i+1))=nv (a.take i)+bp i * (a[i]?).getD 0:=by
  by_cases h:i < a.length
  · rw[zdl h,List.getElem?_eq_getElem h]; rfl
  · rw[zcw (by omega),zcw (by omega),List.getElem?_eq_none (by omega)]; simp
theorem Dig.get {a:List Int} (h:Dig a) (i:Nat):0≤(a[i]?).getD 0∧(a[i]?).getD 0 < 1000000000:=by
  by_cases hi:i < a.length
  · rw[List.getElem?_eq_getElem hi]; exact h.at hi
  · rw[List.getElem?_eq_none (by omega)]; simp
theorem Can.mk' {xs:List Int} (h:Dig xs) (k:xs≠[]→bp (xs.length - 1)≤nv xs):Can xs:=by
  refine ⟨h,fun hl=>?_⟩
  have hn:xs≠[]:=by intro e; subst e; simp at hl
  have hs:=List.dropLast_concat_getLast hn
  have h0:xs.getLast hn=0:=by rw[List.getLast?_eq_some_getLast hn] at hl; simpa using hl
  have hv:=zgw xs.dropLast (xs.getLast hn)
  rw[hs,h0] at hv
  have hd:Dig xs.dropLast:=by rw[List.dropLast_eq_take]; exact h.take _
  have:=zpQ hd
  rw[List.length_dropLast] at this
  have:=k hn
  omega
theorem zEl {xs:List Int} {n:Nat} (h:Can xs) (hv:nv xs=n):xs=dg n:=by rw[h.dg,hv]; simp
/-! ### Added,in the reference model -/
theorem zq6 {a b out:List Int} {c:Int} {i:Nat} (ha:Dig a) (hb:Dig b) (hc:0≤c∧c≤1) (ho:out.length≤1073741000) (hi:i≤1073741000) (hgo:i < a.length∨i < b.length∨0 < c) :
    zaV (a,b,c,(i:Int),out,())=some (.inl (a,b,(c+(a[i]?).getD 0+(b[i]?).getD 0) / 1000000000,((i+1:Nat):Int),out++[(c+(a[i]?).getD 0+(b[i]?).getD 0) % 1000000000],())):=by
  have h1:=ha.get i
  have h2:=hb.get i
  have hw:=zkv (Nat.le_refl i) (by omega)
  have hr:=room (show out.length+1≤1073741824 by omega)
  by_cases hA:i < a.length<;>by_cases hB:i < b.length
  · simp only[zaV,dlt hA,dlt hB,cond_true,zaH hA,zaH hB,Option.bind_some,hr,hw]
    rw[List.getElem?_eq_getElem hA,List.getElem?_eq_getElem hB] at *
    simp only[Option.getD_some] at *
    rw[wrap_add (n:=c+a[i]) (by omega) (by omega),wrap_add (n:=c+a[i]+b[i]) (by omega) (by omega),Int.tdiv_eq_ediv_of_nonneg (by omega),Int.tmod_eq_emod_of_nonneg (by omega),wrap_add (by omega) (by omega)]
  · have hB':decide ((i:Int) < (b.length:Int))=false:=by simpa using hB
    simp only[zaV,dlt hA,hB',cond_true,cond_false,zaH hA,Option.bind_some,hr,hw]
    rw[List.getElem?_eq_getElem hA,List.getElem?_eq_none (by omega:b.length≤i)] at *
    simp only[Option.getD_some,Option.getD_none,Int.add_zero] at *
    rw[wrap_add (n:=c+a[i]) (by omega) (by omega),Int.tdiv_eq_ediv_of_nonneg (by omega),Int.tmod_eq_emod_of_nonneg (by omega),wrap_add (by omega) (by omega)]
  · have hA':decide ((i:Int) < (a.length:Int))=false:=by simpa using hA
    simp only[zaV,dlt hB,hA',cond_true,cond_false,zaH hB,Option.bind_some,hr,hw]
    rw[List.getElem?_eq_getElem hB,List.getElem?_eq_none (by omega:a.length≤i)] at *
    simp only[Option.getD_some,Option.getD_none,Int.add_zero] at *
    rw[wrap_add (n:=c+b[i]) (by omega) (by omega),Int.tdiv_eq_ediv_of_nonneg (by omega),Int.tmod_eq_emod_of_nonneg (by omega),wrap_add (by omega) (by omega)]
  · have hA':decide ((i:Int) < (a.length:Int))=false:=by simpa using hA
    have hB':decide ((i:Int) < (b.length:Int))=false:=by simpa using hB
    have hc':decide (c > 0)=true:=by simpa using (by omega:0 < c)
    simp only[zaV,hA',hB',hc',cond_true,cond_false,Option.bind_some,hr,hw]
    rw[List.getElem?_eq_none (by omega:a.length≤i),List.getElem?_eq_none (by omega:b.length≤i)] at *
    simp only[Option.getD_none,Int.add_zero] at *
    rw[Int.tdiv_eq_ediv_of_nonneg (by omega),Int.tmod_eq_emod_of_nonneg (by omega),wrap_add (by omega) (by omega)]
theorem zm5 {a b out:List Int} {i:Nat} (hA:a.length≤i) (hB:b.length≤i):zaV (a,b,0,(i:Int),out,())=some (.inr (out,())):=by
  have hA':decide ((i:Int) < (a.length:Int))=false:=by simpa using hA
  have hB':decide ((i:Int) < (b.length:Int))=false:=by simpa using hB
  simp only[zaV,hA',hB',cond_false]
  rfl
structure AddI (a b:List Int) (i:Nat) (c:Int) (out:List Int):Prop where
  len:out.length=i
  dig:Dig out
  c01:0≤c∧c≤1
  val:nv out+bp i * c=nv (a.take i)+nv (b.take i)
theorem AddI.step {a b out:List Int} {c:Int} {i:Nat} (h:AddI a b i c out) (ha:Dig a) (hb:Dig b) :
    AddI a b (i+1) ((c+(a[i]?).getD 0+(b[i]?).getD 0) / 1000000000) (out++[(c+(a[i]?).getD 0+(b[i]?).getD 0) % 1000000000]):=by
  have h1:=ha.get i
  have h2:=hb.get i
  obtain ⟨hl,hd,hc,hv⟩:=h
  refine ⟨by simp[hl],hd.snoc (by omega),by omega,?_⟩
  rw[zgw,hl,zhn,zhn,zek]
  generalize hs:c+(a[i]?).getD 0+(b[i]?).getD 0=s at *
  have hm:s=s % 1000000000+1000000000 * (s / 1000000000):=by omega
  generalize s % 1000000000=r at *
  generalize s / 1000000000=q at *
  generalize (a[i]?).getD 0=x at *
  generalize (b[i]?).getD 0=y at *
  generalize bp i=p at *
  grind
theorem spec_add {m n:Nat} (hm:(dg m).length≤1073740000) (hn:(dg n).length≤1073740000):zfA (dg m) (dg n)=some (dg (m+n)):=by
  unfold zfA ziz
  have ha:=zej m
  have hb:=zej n
  have hca:=zbY m
  have hcb:=zbY n
  have hva:=zcx m
  have hvb:=zcx n
  generalize dg m=a at *
  generalize dg n=b at *
  let k:=max a.length b.length
  have hk:a.length≤k∧b.length≤k∧(k=a.length∨k=b.length)∧k≤1073740000:=by omega
  obtain ⟨r,h1,h2⟩:=zbZ (S:=zaV) (fun i x=>∃ c out,x=(a,b,c,(i:Int),out,())∧AddI a b i c out∧(k < i→c=0∧bp k≤nv out)) (k+1) (fun r=>∃ out,r=(out,())∧Can out∧nv out=nv a+nv b)
    (fun i hi x hx=>by
      obtain ⟨c,out,rfl,hI,hlast⟩:=hx
      by_cases hgo:i < a.length∨i < b.length∨0 < c
      · left
        refine ⟨_,zq6 ha hb hI.c01 (by have:=hI.len; omega) (by omega) hgo,_,_,rfl,hI.step ha hb,fun hki=>?_⟩
        have hik:i=k:=by omega
        subst hik
        have hA:a.length≤k:=hk.1
        have hB:b.length≤k:=hk.2.1
        have hc:c=1:=by have:=hI.c01; omega
        rw[List.getElem?_eq_none hA,List.getElem?_eq_none hB]
        subst hc
        refine ⟨by simp,?_⟩
        rw[zgw,hI.len]
        have:=zaP hI.dig
        simp only[Option.getD_none,Int.add_zero]
        have e:(1:Int) % 1000000000=1:=by decide
        rw[e]; omega
      · right
        have hc:c=0:=by have:=hI.c01; omega
        subst hc
        refine ⟨_,zm5 (by omega) (by omega),out,rfl,?_⟩
        have hv:=hI.val
        rw[zcw (by omega),zcw (by omega)] at hv
        have hik:i=k:=by omega
        refine ⟨Can.mk' hI.dig fun hne=>?_,by omega⟩
        rw[hI.len]
        have hpos:0 < i:=by
          have:=List.length_pos_iff.2 hne; have:=hI.len; omega
        rcases hk.2.2.1 with e | e
        · have:=hca.low (by intro e'; subst e'; simp at e; omega)
          have h0:=zaP hb
          rw[hik,e]; omega
        · have:=hcb.low (by intro e'; subst e'; simp at e; omega)
          have h0:=zaP ha
          rw[hik,e]; omega)
    (fun x hx=>by
      obtain ⟨c,out,rfl,hI,hlast⟩:=hx
      obtain ⟨rfl,hb'⟩:=hlast (by omega)
      refine ⟨_,zm5 (by omega) (by omega),out,rfl,?_⟩
      have hv:=hI.val
      rw[zcw (by omega),zcw (by omega)] at hv
      exact ⟨Can.mk' hI.dig fun _=>by rw[hI.len]; simpa using hb',by omega⟩)
    (x:=(a,b,0,0,[],())) ⟨0,[],rfl,⟨rfl,Dig.nil,by omega,by simp[nv]⟩,fun h=>by omega⟩
  rw[h1]
  obtain ⟨out,rfl,h3,h4⟩:=h2
  simp only[Option.bind_some]
  rw[zEl h3 (n:=m+n) (by omega)]
end Go.Di
namespace Go.Di
theorem zr2 {a b out:List Int} {c:Int} {i:Nat} (ha:Dig a) (hb:Dig b) (hc:0≤c∧c≤1) (ho:out.length≤1073741000) (hi:i < a.length) (hl:a.length≤1073741000) :
    zbK (a,b,c,(a.length:Int),(i:Int),out,())=some (.inl (a,b,(c+(a[i]?).getD 0+(b[i]?).getD 0) / 1000000000,(a.length:Int),((i+1:Nat):Int),out++[(c+(a[i]?).getD 0+(b[i]?).getD 0) % 1000000000],())):=by
  have h1:=ha.get i
  have h2:=hb.get i
  have hw:=zkv (Nat.le_of_lt hi) (show a.length≤1073741824 by omega)
  have hr:=room (show out.length+1≤1073741824 by omega)
  by_cases hB:i < b.length
  · simp only[zbK,dlt hi,dlt hB,cond_true,zaH hi,zaH hB,Option.bind_some,hr,hw]
    rw[List.getElem?_eq_getElem hi,List.getElem?_eq_getElem hB] at *
    simp only[Option.getD_some] at *
    rw[wrap_add (n:=a[i]+c) (by omega) (by omega),wrap_add (n:=a[i]+c+b[i]) (by omega) (by omega)]
    by_cases hs:a[i]+c+b[i] ≥ 1000000000
    · rw[decide_eq_true hs,cond_true,wrap_add (by omega) (by omega)]
      rw[show (c+a[i]+b[i]) / 1000000000=1 by omega,show (c+a[i]+b[i]) % 1000000000=a[i]+c+b[i] - 1000000000 by omega]
    · rw[decide_eq_false hs,cond_false]
      rw[show (c+a[i]+b[i]) / 1000000000=0 by omega,show (c+a[i]+b[i]) % 1000000000=a[i]+c+b[i] by omega]
  · have hB':decide ((i:Int) < (b.length:Int))=false:=by simpa using hB
    simp only[zbK,dlt hi,hB',cond_true,cond_false,zaH hi,Option.bind_some,hr,hw]
    rw[List.getElem?_eq_getElem hi,List.getElem?_eq_none (by omega:b.length≤i)] at *
    simp only[Option.getD_some,Option.getD_none,Int.add_zero] at *
    rw[wrap_add (n:=a[i]+c) (by omega) (by omega)]
    by_cases hs:a[i]+c ≥ 1000000000
    · rw[decide_eq_true hs,cond_true,wrap_add (by omega) (by omega)]
      rw[show (c+a[i]) / 1000000000=1 by omega,show (c+a[i]) % 1000000000=a[i]+c - 1000000000 by omega]
    · rw[decide_eq_false hs,cond_false]
      rw[show (c+a[i]) / 1000000000=0 by omega,show (c+a[i]) % 1000000000=a[i]+c by omega]
theorem zr3 {a b:List Int} (ha:Dig a) (hb:Dig b) (hl:a.length≤1073741000):∃ c out,zdB a b 0 (a.length:Int) 0 []=some (c,out,())∧AddI a b a.length c out:=by
  unfold zdB
  obtain ⟨r,h1,c,out,rfl,h2⟩:=zbZ (S:=zbK) (fun i x=>∃ c out,x=(a,b,c,(a.length:Int),(i:Int),out,())∧AddI a b i c out) a.length (fun r=>∃ c out,r=(c,out,())∧AddI a b a.length c out)
    (fun i hi x hx=>by
      obtain ⟨c,out,rfl,hI⟩:=hx
      exact .inl ⟨_,zr2 ha hb hI.c01 (by have:=hI.len; omega) hi hl,_,_,rfl,hI.step ha hb⟩)
    (fun x hx=>by
      obtain ⟨c,out,rfl,hI⟩:=hx
      exact ⟨_,by simp[zbK],c,out,rfl,hI⟩)
    (x:=(a,b,0,(a.length:Int),0,[],())) ⟨0,[],rfl,⟨rfl,Dig.nil,by omega,by simp[nv]⟩⟩
  exact ⟨c,out,h1,h2⟩
theorem zml {a b:List Int} (ha:Can a) (hb:Can b) (hl:a.length≤1073740000) (hle:b.length≤a.length) {m:Nat} (hm:nv a+nv b=m) :
    ((zak ((decide (0≤(IntKind.i64.wrap ((a.length:Int)+1)))) && (decide ((IntKind.i64.wrap ((a.length:Int)+1))≤(zan:Int))))).bind fun _ =>
    (zdB a b 0 (a.length:Int) 0 (List.replicate 0 0:List Int)).bind fun (carry,out,_) =>
    cond (decide (carry > 0))
      ((zak (Nat.ble (out.length+1) zan)).bind fun _ =>
      some (out++([1]:List Int)))
      (some out))=some (dg m):=by
  have hw:IntKind.i64.wrap ((a.length:Int)+1)=((a.length+1:Nat):Int):=zkv (Nat.le_refl _) (by omega)
  rw[hw]
  have hg:zak (decide (0≤((a.length+1:Nat):Int)) && decide (((a.length+1:Nat):Int)≤(zan:Int)))=some ():=by
    rw[decide_eq_true (by omega),decide_eq_true (by unfold zan; omega)]; rfl
  rw[hg,Option.bind_some]
  obtain ⟨c,out,h1,h2⟩:=zr3 ha.1 hb.1 (by omega)
  rw[show (List.replicate 0 0:List Int)=[] from rfl,h1,Option.bind_some]
  simp only[]
  have hv:=h2.val
  rw[zcw (Nat.le_refl _),zcw hle] at hv
  have hlen:=h2.len
  by_cases hc:c > 0
  · have hc1:c=1:=by have:=h2.c01; omega
    subst hc1
    rw[show decide ((1:Int) > 0)=true from rfl,cond_true,room (by omega),Option.bind_some]
    refine congrArg some ?_
    have h0:=zaP h2.dig
    refine zEl (Can.mk' (h2.dig.snoc (by omega)) fun _=>?_) ?_
    · rw[zgw,List.length_append,hlen]; simp; omega
    · rw[zgw,hlen]; omega
  · have hc0:c=0:=by have:=h2.c01; omega
    subst hc0
    rw[show decide ((0:Int) > 0)=false from rfl,cond_false]
    refine congrArg some ?_
    refine zEl (Can.mk' h2.dig fun hne=>?_) (by omega)
    have hpos:=List.length_pos_iff.2 hne
    have:=ha.low (by intro e; rw[e] at hlen; simp at hlen; exact hne hlen)
    have h0:=zaP hb.1
    rw[hlen]; omega
theorem zwK {m n:Nat} (hm:(dg m).length≤1073740000) (hn:(dg n).length≤1073740000):zeJ (dg m) (dg n)=some (dg (m+n)):=by
  unfold zeJ
  by_cases h:(dg m).length < (dg n).length
  · rw[dlt h,cond_true]
    exact zml (zbY n) (zbY m) hn (by omega) (by rw[zcx,zcx]; omega)
  · rw[show decide (((dg m).length:Int) < ((dg n).length:Int))=false by simpa using h,cond_false]
    exact zml (zbY m) (zbY n) hm (by omega) (by rw[zcx,zcx]; omega)
/-! ### Taken away -/
structure SubI (a b:List Int) (i:Nat) (c:Int) (out:List Int):Prop where
  len:out.length=i
  dig:Dig out
  c01:0≤c∧c≤1
  val:nv out+nv (b.take i)=nv (a.take i)+bp i * c
theorem SubI.step {a b out:List Int} {c:Int} {i:Nat} (h:SubI a b i c out) (_ha:Dig a) (_hb:Dig b) {c' d:Int} (hs:d - 1000000000 * c'=(a[i]?).getD 0 - c - (b[i]?).getD 0) (hd':0≤d∧d < 1000000000) (hc':0≤c'∧c'≤1) :
    SubI a b (i+1) c' (out++[d]):=by
  obtain ⟨hl,hd,hc,hv⟩:=h
  refine ⟨by simp[hl],hd.snoc hd',hc',?_⟩
  rw[zgw,hl,zhn,zhn,zek]
  generalize (a[i]?).getD 0=x at *
  generalize (b[i]?).getD 0=y at *
  generalize bp i=p at *
  grind
theorem SubI.fin {a b out:List Int} {c:Int} (h:SubI a b a.length c out) (ha:Dig a) (_hb:Dig b) (hle:nv b≤nv a) (hlen:b.length≤a.length) {m:Nat} (hm:nv a - nv b=m):tz out=dg m:=by
  have hv:=h.val
  rw[zcw (Nat.le_refl _),zcw hlen] at hv
  have h1:=zpQ h.dig
  rw[h.len] at h1
  have h2:=zpQ ha
  have hp:=zfg a.length
  have hc:c=0:=by
    have:=h.c01
    by_cases e:c=0
    · exact e
    · have:c=1:=by omega
      subst this
      omega
  subst hc
  rw[zqY h.dig]
  congr 1
  omega
theorem zq4 {a b out:List Int} {c:Int} {i:Nat} (ha:Dig a) (hb:Dig b) (hI:SubI a b i c out) (hi:i < a.length) (hl:a.length≤1073741000) :
    ∃ c' out',zbF (a,b,c,(a.length:Int),(i:Int),out,())=some (.inl (a,b,c',(a.length:Int),((i+1:Nat):Int),out',()))∧SubI a b (i+1) c' out':=by
  have h1:=ha.get i
  have h2:=hb.get i
  have hc:=hI.c01
  have hw:=zkv (Nat.le_of_lt hi) (show a.length≤1073741824 by omega)
  have hr:=room (show out.length+1≤1073741824 by have:=hI.len; omega)
  have hstep:∀ c' d:Int,d - 1000000000 * c'=(a[i]?).getD 0 - c - (b[i]?).getD 0→0≤d∧d < 1000000000→0≤c'∧c'≤1→SubI a b (i+1) c' (out++[d]):=fun c' d=>hI.step ha hb
  by_cases hB:i < b.length
  · simp only[zbF,dlt hi,dlt hB,cond_true,zaH hi,zaH hB,Option.bind_some,hr,hw]
    rw[List.getElem?_eq_getElem hi,List.getElem?_eq_getElem hB] at *
    simp only[Option.getD_some] at *
    rw[wrap_add (n:=a[i] - c) (by omega) (by omega),wrap_add (n:=a[i] - c - b[i]) (by omega) (by omega)]
    by_cases hs:a[i] - c - b[i] < 0
    · rw[decide_eq_true hs,cond_true,wrap_add (by omega) (by omega)]
      exact ⟨_,_,rfl,hstep _ _ (by omega) (by omega) (by omega)⟩
    · rw[decide_eq_false hs,cond_false]
      exact ⟨_,_,rfl,hstep _ _ (by omega) (by omega) (by omega)⟩
  · have hB':decide ((i:Int) < (b.length:Int))=false:=by simpa using hB
    simp only[zbF,dlt hi,hB',cond_true,cond_false,zaH hi,Option.bind_some,hr,hw]
    rw[List.getElem?_eq_getElem hi,List.getElem?_eq_none (by omega:b.length≤i)] at *
    simp only[Option.getD_some,Option.getD_none] at *
    rw[wrap_add (n:=a[i] - c) (by omega) (by omega)]
    by_cases hs:a[i] - c < 0
    · rw[decide_eq_true hs,cond_true,wrap_add (by omega) (by omega)]
      exact ⟨_,_,rfl,hstep _ _ (by omega) (by omega) (by omega)⟩
    · rw[decide_eq_false hs,cond_false]
      exact ⟨_,_,rfl,hstep _ _ (by omega) (by omega) (by omega)⟩
theorem Can.zKB {a b:List Int} (h:Can a) (k:Can b) (hv:nv a≤nv b):a.length≤b.length:=by
  rcases Nat.lt_or_ge b.length a.length with h1 | h1
  · have:=k.zDJ h h1; omega
  · exact h1
theorem zpB {m n:Nat} (hm:(dg m).length≤1073740000) (hnm:n≤m):zdI (dg m) (dg n)=some (dg (m - n)):=by
  unfold zdI zit
  have hca:=zbY m
  have hcb:=zbY n
  have hva:=zcx m
  have hvb:=zcx n
  generalize dg m=a at *
  generalize dg n=b at *
  have hlen:=hcb.zKB hca (by omega)
  obtain ⟨r,h1,c,out,rfl,h2⟩:=zbZ (S:=zbF) (fun i x=>∃ c out,x=(a,b,c,(a.length:Int),(i:Int),out,())∧SubI a b i c out) a.length (fun r=>∃ c out,r=(out,())∧SubI a b a.length c out)
    (fun i hi x hx=>by
      obtain ⟨c,out,rfl,hI⟩:=hx
      obtain ⟨c',out',q1,q2⟩:=zq4 hca.1 hcb.1 hI hi (by omega)
      exact .inl ⟨_,q1,c',out',rfl,q2⟩)
    (fun x hx=>by
      obtain ⟨c,out,rfl,hI⟩:=hx
      exact ⟨_,by simp[zbF],c,out,rfl,hI⟩)
    (x:=(a,b,0,(a.length:Int),0,[],())) ⟨0,[],rfl,⟨rfl,Dig.nil,by omega,by simp[nv]⟩⟩
  rw[h1,Option.bind_some]
  simp only[]
  rw[zh6 (by have:=h2.len; omega),Option.bind_some,h2.fin hca.1 hcb.1 (by omega) hlen (m:=m - n) (by omega)]
end Go.Di
namespace Go.Di
theorem set_mid {a out:List Int} {i:Nat} {d:Int} (hl:out.length=i) (hi:i < a.length):(out++a.drop i).set i d=(out++[d])++a.drop (i+1):=by
  rw[List.set_append_right _ _ (by omega),hl,Nat.sub_self,List.drop_eq_getElem_cons hi,List.set_cons_zero]
  simp
theorem zMA {a out:List Int} {i:Nat} (hl:out.length=i) (hi:i < a.length):(out++a.drop i)[i]? = some a[i]:=by
  rw[List.getElem?_append_right (by omega),hl,Nat.sub_self,List.drop_eq_getElem_cons hi]; rfl
theorem zeV {α:Type} {xs:List α} {i:Nat} {x:α} (h:xs[i]? = some x):idx xs (i:Int)=some x:=by rw[zht]; exact h
theorem zr1 {a b out:List Int} {c:Int} {i:Nat} (ha:Dig a) (hb:Dig b) (hI:SubI a b i c out) (hi:i < a.length) (hl:a.length≤1073741000) :
    ∃ c' out',zbI (b,c,(a.length:Int),(i:Int),out++a.drop i,())=some (.inl (b,c',(a.length:Int),((i+1:Nat):Int),out'++a.drop (i+1),()))∧SubI a b (i+1) c' out':=by
  have h1:=ha.get i
  have h2:=hb.get i
  have hc:=hI.c01
  have hw:=zkv (Nat.le_of_lt hi) (show a.length≤1073741824 by omega)
  have hg:=zMA hI.len hi
  have hstep:∀ c' d:Int,d - 1000000000 * c'=(a[i]?).getD 0 - c - (b[i]?).getD 0→0≤d∧d < 1000000000→0≤c'∧c'≤1→SubI a b (i+1) c' (out++[d]):=fun c' d=>hI.step ha hb
  by_cases hB:i < b.length
  · simp only[zbI,dlt hi,dlt hB,cond_true,zeV hg,Int.toNat_natCast,hg,zaH hB,Option.bind_some,hw,set_mid hI.len hi]
    rw[List.getElem?_eq_getElem hi,List.getElem?_eq_getElem hB] at *
    simp only[Option.getD_some] at *
    rw[wrap_add (n:=a[i] - c) (by omega) (by omega),wrap_add (n:=a[i] - c - b[i]) (by omega) (by omega)]
    by_cases hs:a[i] - c - b[i] < 0
    · rw[decide_eq_true hs,cond_true,wrap_add (by omega) (by omega)]
      exact ⟨_,_,rfl,hstep _ _ (by omega) (by omega) (by omega)⟩
    · rw[decide_eq_false hs,cond_false]
      exact ⟨_,_,rfl,hstep _ _ (by omega) (by omega) (by omega)⟩
  · have hB':decide ((i:Int) < (b.length:Int))=false:=by simpa using hB
    simp only[zbI,dlt hi,hB',cond_true,cond_false,zeV hg,Int.toNat_natCast,hg,Option.bind_some,hw,set_mid hI.len hi]
    rw[List.getElem?_eq_getElem hi,List.getElem?_eq_none (by omega:b.length≤i)] at *
    simp only[Option.getD_some,Option.getD_none] at *
    rw[wrap_add (n:=a[i] - c) (by omega) (by omega)]
    by_cases hs:a[i] - c < 0
    · rw[decide_eq_true hs,cond_true,wrap_add (by omega) (by omega)]
      exact ⟨_,_,rfl,hstep _ _ (by omega) (by omega) (by omega)⟩
    · rw[decide_eq_false hs,cond_false]
      exact ⟨_,_,rfl,hstep _ _ (by omega) (by omega) (by omega)⟩
theorem zwH {m n:Nat} (hm:(dg m).length≤1073740000) (hnm:n≤m):zeH (dg m) (dg n)=some (dg (m - n)):=by
  unfold zeH ziE zaN
  have hca:=zbY m
  have hcb:=zbY n
  have hva:=zcx m
  have hvb:=zcx n
  generalize dg m=a at *
  generalize dg n=b at *
  have hlen:=hcb.zKB hca (by omega)
  rw[room (by omega),Option.bind_some,Option.bind_some]
  obtain ⟨r,h1,c,out,rfl,h2⟩:=zbZ (S:=zbI) (fun i x=>∃ c out,x=(b,c,(a.length:Int),(i:Int),out++a.drop i,())∧SubI a b i c out) a.length (fun r=>∃ c out,r=(out,())∧SubI a b a.length c out)
    (fun i hi x hx=>by
      obtain ⟨c,out,rfl,hI⟩:=hx
      obtain ⟨c',out',q1,q2⟩:=zr1 hca.1 hcb.1 hI hi (by omega)
      exact .inl ⟨_,q1,c',out',rfl,q2⟩)
    (fun x hx=>by
      obtain ⟨c,out,rfl,hI⟩:=hx
      exact ⟨_,by simp[zbI],c,out,rfl,hI⟩)
    (x:=(b,0,(a.length:Int),0,a,())) ⟨0,[],by simp,⟨rfl,Dig.nil,by omega,by simp[nv]⟩⟩
  rw[h1,Option.bind_some]
  simp only[]
  rw[zid (by have:=h2.len; omega),Option.bind_some,h2.fin hca.1 hcb.1 (by omega) hlen (m:=m - n) (by omega)]
/-! ### Divided by one limb -/
structure SmallI (a:List Int) (d:Int) (i:Nat) (rest:Int) (out:List Int):Prop where
  len:out.length=a.length
  dig:Dig out
  r0:0≤rest∧rest < d
  val:nv (a.drop i)=d * nv (out.drop i)+rest
theorem zde {a:List Int} {i:Nat} (h:i < a.length):nv (a.drop i)=a[i]+1000000000 * nv (a.drop (i+1)):=by
  rw[List.drop_eq_getElem_cons h,nv]
theorem Dig.set {a:List Int} (h:Dig a) (i:Nat) {d:Int} (hd:0≤d∧d < 1000000000):Dig (a.set i d):=fun e he=>by
  rcases List.mem_or_eq_of_mem_set he with h1 | rfl
  · exact h e h1
  · exact hd
theorem SmallI.step {a out:List Int} {d rest:Int} {i:Nat} (h:SmallI a d (i+1) rest out) (ha:Dig a) (hi:i < a.length) (hd:0 < d∧d < 1000000000) :
    SmallI a d i ((rest * 1000000000+a[i]) % d) (out.set i ((rest * 1000000000+a[i]) / d)):=by
  obtain ⟨hl,hdg,hr,hv⟩:=h
  have h1:=ha.at hi
  have hq:(rest * 1000000000+a[i]) / d < 1000000000:=by
    apply Int.ediv_lt_of_lt_mul (by omega)
    have:rest * 1000000000≤(d - 1) * 1000000000:=Int.mul_le_mul_of_nonneg_right (by omega) (by omega)
    omega
  have hq0:0≤(rest * 1000000000+a[i]) / d:=Int.ediv_nonneg (by omega) (by omega)
  refine ⟨by simp[hl],hdg.set i ⟨hq0,hq⟩,⟨Int.emod_nonneg _ (by omega),Int.emod_lt_of_pos _ hd.1⟩,?_⟩
  have hio:i < (out.set i ((rest * 1000000000+a[i]) / d)).length:=by simp; omega
  rw[zde hi,zde hio,hv]
  have e1:(out.set i ((rest * 1000000000+a[i]) / d))[i]=(rest * 1000000000+a[i]) / d:=by simp
  have e2:(out.set i ((rest * 1000000000+a[i]) / d)).drop (i+1)=out.drop (i+1):=by rw[List.drop_set_of_lt (by omega)]
  rw[e1,e2]
  have hdm:=Int.mul_ediv_add_emod (rest * 1000000000+a[i]) d
  generalize (rest * 1000000000+a[i]) / d=q at *
  generalize (rest * 1000000000+a[i]) % d=r at *
  generalize nv (out.drop (i+1))=o at *
  grind
theorem zoB {S:(List Int × Int × Int × Int × List Int × Unit)→Option ((List Int × Int × Int × Int × List Int × Unit) ⊕ (Int × List Int × Unit))} {a:List Int} {d:Int} (ha:Dig a) (hd:0 < d∧d < 1000000000)
    (hS:∀ (i:Nat) (rest:Int) (out:List Int) (h:i < a.length),out.length=a.length→0≤rest→rest < d→S (a,d,rest,(i:Int),out,())=some (.inl (a,d,(rest * 1000000000+a[i]) % d,(i:Int) - 1,out.set i ((rest * 1000000000+a[i]) / d),())))
    (hE:∀ rest out,S (a,d,rest,-1,out,())=some (.inr (rest,out,()))) :
    ∃ rest out,whileO S (a,d,0,(a.length:Int) - 1,List.replicate a.length 0,())=some (rest,out,())∧out.length=a.length∧Dig out∧0≤rest∧rest < d∧nv a=d * nv out+rest:=by
  obtain ⟨r,h1,rest,out,rfl,hI⟩:=zbZ (S:=S) (fun k x=>∃ rest out,x=(a,d,rest,((a.length - k:Nat):Int) - 1,out,())∧SmallI a d (a.length - k) rest out) a.length (fun r=>∃ rest out,r=(rest,out,())∧SmallI a d 0 rest out)
    (fun k hk x hx=>by
      obtain ⟨rest,out,rfl,hI⟩:=hx
      have e:((a.length - k:Nat):Int) - 1=((a.length - (k+1):Nat):Int):=by omega
      have hi:a.length - (k+1) < a.length:=by omega
      have e2:a.length - k=(a.length - (k+1))+1:=by omega
      rw[e]
      refine .inl ⟨_,hS _ rest out hi hI.len hI.r0.1 hI.r0.2,_,_,rfl,?_⟩
      rw[e2] at hI
      exact hI.step ha hi hd)
    (fun x hx=>by
      obtain ⟨rest,out,rfl,hI⟩:=hx
      rw[Nat.sub_self] at *
      exact ⟨_,hE rest out,rest,out,rfl,hI⟩)
    (x:=(a,d,0,(a.length:Int) - 1,List.replicate a.length 0,())) ⟨0,List.replicate a.length 0,by simp,⟨by simp,Dig.zeros _,by omega,by simp[nv]⟩⟩
  exact ⟨rest,out,h1,hI.len,hI.dig,hI.r0.1,hI.r0.2,by have:=hI.val; simpa using this⟩
theorem ziS {n:Nat} (h:n≤1073741824):zak (((decide (0≤(n:Int))) && (decide ((n:Int)≤(n:Int)))) && (decide ((n:Int)≤(zan:Int))))=some ():=by
  rw[decide_eq_true (by omega:(0:Int)≤n),decide_eq_true (by omega:(n:Int)≤n),decide_eq_true (by unfold zan; omega:(n:Int)≤(zan:Int))]; rfl
theorem zwd {m:Nat} {d:Nat} {out:List Int} {rest:Int} (hd:Dig out) (h0:0≤rest) (h1:rest < d) (hv:nv (dg m)=d * nv out+rest):tz out=dg (m / d)∧rest=((m % d:Nat):Int):=by
  rw[zcx] at hv
  have hn:=zaP hd
  have hpos:(0:Int) < d:=by omega
  have e1:(m:Int) / d=nv out:=by
    rw[hv,Int.add_comm,Int.add_mul_ediv_left _ _ (by omega),Int.ediv_eq_zero_of_lt h0 h1]; omega
  have e2:(m:Int) % d=rest:=by
    rw[hv,Int.add_comm,Int.add_mul_emod_self_left,Int.emod_eq_of_lt h0 h1]
  refine ⟨?_,by rw[← e2]; simp⟩
  rw[zqY hd]
  have e3:((m / d:Nat):Int)=(m:Int) / (d:Int):=by simp
  refine congrArg dg ?_
  omega
theorem zoA {a out:List Int} {d rest:Int} {i:Nat} (ha:Dig a) (hd:0 < d∧d < 1000000000) (h:i < a.length) (hl:a.length≤1073741824) (ho:out.length=a.length) (h0:0≤rest) (h1:rest < d) :
    zbm (a,d,rest,(i:Int),out,())=some (.inl (a,d,(rest * 1000000000+a[i]) % d,(i:Int) - 1,out.set i ((rest * 1000000000+a[i]) / d),())):=by
  have hx:=ha.at h
  have hdn:zak (d != 0)=some ():=by
    have:(d != 0)=true:=by simp; omega
    rw[this]; rfl
  have hq0:0≤(rest * 1000000000+a[i]) / d:=Int.ediv_nonneg (by omega) (by omega)
  have hq:(rest * 1000000000+a[i]) / d < 1000000000:=by
    apply Int.ediv_lt_of_lt_mul (by omega)
    have:rest * 1000000000≤(d - 1) * 1000000000:=Int.mul_le_mul_of_nonneg_right (by omega) (by omega)
    omega
  simp only[zbm,show decide ((i:Int) ≥ 0)=true by simp,cond_true,zaH h,zaH (show i < out.length by omega),hdn,Option.bind_some,Int.toNat_natCast]
  rw[wrap_add (n:=rest * 1000000000) (by omega) (by omega),wrap_add (n:=rest * 1000000000+a[i]) (by omega) (by omega),Int.tmod_eq_emod_of_nonneg (by omega),Int.tdiv_eq_ediv_of_nonneg (by omega),wrap_add (n:=(i:Int) - 1) (by omega) (by omega),wrap_add (by omega) (by omega)]
theorem zyS {m d:Nat} (hm:(dg m).length≤1073740000) (hd:0 < d∧d < 1000000000):zet (dg m) (d:Int)=some (dg (m / d),((m % d:Nat):Int)):=by
  unfold zet zg4
  have ha:=zej m
  rw[ziS (by omega),Option.bind_some,Int.toNat_natCast,wrap_i64 (by omega) (by omega)]
  obtain ⟨rest,out,h1,h2,h3,h4,h5,h6⟩:=zoB (S:=zbm) (d:=(d:Int)) ha (by omega) (fun i rest out h ho h0 h1=>zoA ha (by omega) h (by omega) ho h0 h1) (by simp[zbm])
  rw[h1,Option.bind_some]
  try simp only[]
  obtain ⟨e1,e2⟩:=zwd h3 h4 h5 h6
  rw[zh6 (by omega),Option.bind_some,e1,e2]
theorem zoX {m d:Nat} (hm:(dg m).length≤1073740000) (hd:0 < d∧d < 1000000000):zdy (dg m) (d:Int)=some (dg (m / d),dg (m % d)):=by
  unfold zdy zhc
  have ha:=zej m
  rw[ziS (by omega),Option.bind_some,Int.toNat_natCast,wrap_i64 (by omega) (by omega)]
  obtain ⟨rest,out,h1,h2,h3,h4,h5,h6⟩:=zoB (S:=zcW) (d:=(d:Int)) ha (by omega) (fun i rest out h ho h0 h1=>zoA ha (by omega) h (by omega) ho h0 h1) (by simp[zcW])
  rw[h1,Option.bind_some]
  simp only[]
  obtain ⟨e1,e2⟩:=zwd h3 h4 h5 h6
  have:m % d < d:=Nat.mod_lt _ hd.1
  rw[zid (by omega),Option.bind_some,e1,e2,zlh (by omega),Option.bind_some,Int.toNat_natCast]
end Go.Di
namespace Go.Di
theorem znp:∀ {xs:List Int} {i:Nat} {d:Int} (h:i < xs.length),nv (xs.set i d)=nv xs+bp i * (d - xs[i])
  | x :: r,0,d,h=>by simp[nv,zod]; omega
  | x :: r,i+1,d,h=>by
    have hi:i < r.length:=by simpa using h
    rw[List.set_cons_succ,nv,znp hi,zek,nv]
    have:(x :: r)[i+1]=r[i]:=rfl
    rw[this]
    generalize bp i=p
    generalize nv r=v
    grind
structure MulI (b out0:List Int) (i:Nat) (x:Int) (j:Nat) (c:Int) (out:List Int):Prop where
  len:out.length=out0.length
  dig:Dig out
  c0:0≤c∧c < 1000000000
  rest:∀ k,i+b.length≤k→out[k]? = out0[k]?
  val:nv out+bp (i+j) * c=nv out0+bp i * (x * nv (b.take j))
theorem zrl {e x y c:Int} (he:0≤e∧e < 1000000000) (hx:0≤x∧x < 1000000000) (hy:0≤y∧y < 1000000000) (hc:0≤c∧c < 1000000000):0≤x * y∧x * y≤999999998000000001∧0≤e+x * y+c∧e+x * y+c < 1000000000000000000:=by
  have h0:=Int.mul_nonneg hx.1 hy.1
  have h1:x * y≤999999999 * 999999999:=Int.mul_le_mul (by omega) (by omega) hy.1 (by omega)
  omega
theorem MulI.step {b out0 out:List Int} {i j:Nat} {x c:Int} (h:MulI b out0 i x j c out) (hb:Dig b) (hx:0≤x∧x < 1000000000) (hj:j < b.length) (hk:i+j < out.length) :
    MulI b out0 i x (j+1) ((out[i+j]+x * b[j]+c) / 1000000000) (out.set (i+j) ((out[i+j]+x * b[j]+c) % 1000000000)):=by
  obtain ⟨hl,hd,hc,hr,hv⟩:=h
  have he:=hd.at hk
  have hy:=hb.at hj
  obtain ⟨_,_,h3,h4⟩:=zrl he hx hy hc
  refine ⟨by simp[hl],hd.set _ (by omega),by omega,fun k hk'=>?_,?_⟩
  · rw[List.getElem?_set_ne (by omega)]; exact hr k hk'
  · rw[znp hk,zdl hj,show i+(j+1)=(i+j)+1 from rfl,zek,zsR] at *
    generalize hn:out[i+j]+x * b[j]+c=n at *
    have hm:n=n % 1000000000+1000000000 * (n / 1000000000):=by omega
    generalize n % 1000000000=r at *
    generalize n / 1000000000=q at *
    generalize out[i+j]=e at *
    generalize b[j]=y at *
    generalize nv (b.take j)=v at *
    generalize bp i=p at *
    generalize bp j=p' at *
    grind
def zFo (S:(List Int × Int × Int × Int × List Int × Int × Int × List Int × Int × Int × List Int × Unit)→Option ((List Int × Int × Int × Int × List Int × Int × Int × List Int × Int × Int × List Int × Unit) ⊕ (List Int × Int × Int × List Int × Int × Int × List Int × Unit))):Prop :=
  (∀ (b t out:List Int) (i j:Nat) (x c t1 t2:Int) (hj:j < b.length) (hk:i+j < out.length),Dig b→Dig out→0≤x∧x < 1000000000→0≤c∧c < 1000000000→out.length≤1073741824 →
    S (b,(i:Int),x,c,t,t1,t2,b,(b.length:Int),(j:Int),out,())=some (.inl (b,(i:Int),x,(out[i+j]+x * b[j]+c) / 1000000000,t,t1,t2,b,(b.length:Int),((j+1:Nat):Int),out.set (i+j) ((out[i+j]+x * b[j]+c) % 1000000000),()))) ∧
  ∀ (b t out:List Int) (i x c t1 t2:Int),S (b,i,x,c,t,t1,t2,b,(b.length:Int),(b.length:Int),out,())=some (.inr (b,i,c,t,t1,t2,out,()))
theorem zoV:zFo zcG:=by
  refine ⟨fun b t out i j x c t1 t2 hj hk hb ho hx hc hl=>?_,fun b t out i x c t1 t2=>by simp[zcG]⟩
  obtain ⟨h1,h2,h3,h4⟩:=zrl (ho.at hk) hx (hb.at hj) hc
  have he:=ho.at hk
  have e1:IntKind.i64.wrap ((i:Int)+(j:Int))=((i+j:Nat):Int):=by rw[wrap_i64 (by omega) (by omega)]; omega
  have e2:IntKind.i64.wrap ((j:Int)+1)=((j+1:Nat):Int):=by rw[wrap_i64 (by omega) (by omega)]; omega
  simp only[zcG,dlt hj,cond_true,zaH hj,e1,zaH hk,Int.toNat_natCast,List.getElem?_eq_getElem hk,Option.bind_some,e2]
  rw [wrap_add (n:=x * b[j]) (by omega) (by omega),wrap_add (n:=out[i+j]+x * b[j]) (by omega) (by omega),wrap_add (n:=out[i+j]+x * b[j]+c) (by omega) (by omega),
    Int.tdiv_eq_ediv_of_nonneg h3,Int.tmod_eq_emod_of_nonneg h3,wrap_add (by omega) (by omega)]
theorem zzC:zFo zeo:=zoV
theorem zoW {S:(List Int × Int × Int × Int × List Int × Int × Int × List Int × Int × Int × List Int × Unit)→Option ((List Int × Int × Int × Int × List Int × Int × Int × List Int × Int × Int × List Int × Unit) ⊕ (List Int × Int × Int × List Int × Int × Int × List Int × Unit))} (hS:zFo S)
    {b t out0:List Int} {i:Nat} {x t1 t2:Int} (hb:Dig b) (hd:Dig out0) (hx:0≤x∧x < 1000000000) (hl:out0.length≤1073741824) (hfit:i+b.length≤out0.length) :
    ∃ c out,whileO S (b,(i:Int),x,0,t,t1,t2,b,(b.length:Int),0,out0,())=some (b,(i:Int),c,t,t1,t2,out,())∧MulI b out0 i x b.length c out:=by
  obtain ⟨r,h1,c,out,rfl,h2⟩:=zbZ (S:=S) (fun j y=>∃ c out,y=(b,(i:Int),x,c,t,t1,t2,b,(b.length:Int),(j:Int),out,())∧MulI b out0 i x j c out) b.length (fun r=>∃ c out,r=(b,(i:Int),c,t,t1,t2,out,())∧MulI b out0 i x b.length c out)
    (fun j hj y hy=>by
      obtain ⟨c,out,rfl,hI⟩:=hy
      have hk:i+j < out.length:=by rw[hI.len]; omega
      exact .inl ⟨_,hS.1 b t out i j x c t1 t2 hj hk hb hI.dig hx hI.c0 (by rw[hI.len]; exact hl),_,_,rfl,hI.step hb hx hj hk⟩)
    (fun y hy=>by
      obtain ⟨c,out,rfl,hI⟩:=hy
      exact ⟨_,hS.2 b t out i x c t1 t2,c,out,rfl,hI⟩)
    (x:=(b,(i:Int),x,0,t,t1,t2,b,(b.length:Int),0,out0,())) ⟨0,out0,rfl,⟨rfl,hd,by omega,fun _ _=>rfl,by simp[nv]⟩⟩
  exact ⟨c,out,h1,h2⟩
structure OutI (a b:List Int) (i:Nat) (out:List Int):Prop where
  len:out.length=a.length+b.length
  dig:Dig out
  zero:∀ k,i+b.length≤k→k < out.length→out[k]? = some 0
  val:nv out=nv (a.take i) * nv b
theorem OutI.step {a b out0 out:List Int} {i:Nat} {c:Int} (h:OutI a b i out0) (hi:i < a.length) (hm:MulI b out0 i a[i] b.length c out) :
    out[i+b.length]? = some 0∧OutI a b (i+1) (out.set (i+b.length) c):=by
  have hlen:i+b.length < out.length:=by rw[hm.len,h.len]; omega
  have hz:out[i+b.length]? = some 0:=by rw[hm.rest _ (Nat.le_refl _)]; exact h.zero _ (Nat.le_refl _) (by rw[h.len]; omega)
  have hz':out[i+b.length]=0:=by rw[List.getElem?_eq_getElem hlen] at hz; simpa using hz
  refine ⟨hz,by simp[hm.len,h.len],hm.dig.set _ hm.c0,fun k hk hk'=>?_,?_⟩
  · rw[List.getElem?_set_ne (by omega),hm.rest k (by omega)]
    exact h.zero k (by omega) (by rw[List.length_set,hm.len] at hk'; exact hk')
  · rw[znp hlen,hz']
    have hv:=hm.val
    rw[h.val,List.take_length] at hv
    rw[zdl hi]
    generalize bp (i+b.length)=q at *
    generalize bp i=p at *
    generalize nv (a.take i)=u at *
    generalize nv b=v at *
    generalize a[i]=x at *
    grind
theorem zcl {m n:Nat} (hm:(dg m).length≤500000000) (hn:(dg n).length≤500000000):zat (dg m) (dg n)=some (dg (m * n)):=by
  unfold zat
  have ha:=zej m
  have hb:=zej n
  have hva:=zcx m
  have hvb:=zcx n
  by_cases hm0:m=0
  · subst hm0; rw[zaB]; simp[zaB]
  by_cases hn0:n=0
  · subst hn0; rw[zaB]; cases (((dg m).length:Int)==0)<;>simp[zaB]
  have ea:(((dg m).length:Int)==0)=false:=by have:=List.length_pos_iff.2 (fun e=>hm0 (zfX.1 e)); rw[beq_eq_false_iff_ne]; omega
  have eb:(((dg n).length:Int)==0)=false:=by have:=List.length_pos_iff.2 (fun e=>hn0 (zfX.1 e)); rw[beq_eq_false_iff_ne]; omega
  rw[ea,eb,cond_false,cond_false]
  generalize dg m=a at *
  generalize dg n=b at *
  have ew:IntKind.i64.wrap ((a.length:Int)+(b.length:Int))=((a.length+b.length:Nat):Int):=by rw[wrap_i64 (by omega) (by omega)]; omega
  rw[ew,ziS (by omega),Option.bind_some,Int.toNat_natCast]
  unfold ziv
  obtain ⟨r,h1,out,rfl,hI⟩:=zbZ (S:=zcH) (fun i y=>∃ out,y=(b,a,(a.length:Int),(i:Int),out,())∧OutI a b i out) a.length (fun r=>∃ out,r=(out,())∧OutI a b a.length out)
    (fun i hi y hy=>by
      obtain ⟨out0,rfl,hI⟩:=hy
      obtain ⟨c,out,q1,q2⟩:=zoW zoV (t:=a) (t1:=(a.length:Int)) (t2:=(i:Int)) (i:=i) (x:=a[i]) hb hI.dig (ha.at hi) (by rw[hI.len]; omega) (by rw[hI.len]; omega)
      obtain ⟨hz,hI'⟩:=hI.step hi q2
      left
      refine ⟨_,?_,_,rfl,hI'⟩
      have e1:IntKind.i64.wrap ((i:Int)+(b.length:Int))=((i+b.length:Nat):Int):=by rw[wrap_i64 (by omega) (by omega)]; omega
      have e2:IntKind.i64.wrap ((i:Int)+1)=((i+1:Nat):Int):=by rw[wrap_i64 (by omega) (by omega)]; omega
      simp only[zcH,ziu,dlt hi,cond_true,zaH hi,Option.bind_some,q1,e1,zeV hz,Int.toNat_natCast,e2])
    (fun y hy=>by
      obtain ⟨out,rfl,hI⟩:=hy
      exact ⟨_,by simp[zcH],out,rfl,hI⟩)
    (x:=(b,a,(a.length:Int),0,List.replicate (a.length+b.length) 0,())) ⟨_,rfl,⟨by simp,Dig.zeros _,fun k _ hk=>by simp at hk; simp[hk],by simp[nv,zmH]⟩⟩
  rw[h1,Option.bind_some]
  simp only[]
  rw[zh6 (by rw[hI.len]; omega),Option.bind_some,zqY hI.dig,hI.val,List.take_length,hva,hvb]
  rfl
theorem ziU {m n:Nat} (hm:(dg m).length≤500000000) (hn:(dg n).length≤500000000):zbc (dg m) (dg n)=some (dg (m * n)):=by
  unfold zbc
  have ha:=zej m
  have hb:=zej n
  have hva:=zcx m
  have hvb:=zcx n
  generalize dg m=a at *
  generalize dg n=b at *
  have ew:IntKind.i64.wrap ((a.length:Int)+(b.length:Int))=((a.length+b.length:Nat):Int):=by rw[wrap_i64 (by omega) (by omega)]; omega
  rw[ew,ziS (by omega),Option.bind_some,Int.toNat_natCast]
  unfold ziG
  obtain ⟨r,h1,out,rfl,hI⟩:=zbZ (S:=zcP) (fun i y=>∃ out,y=(b,a,(a.length:Int),(i:Int),out,())∧OutI a b i out) a.length (fun r=>∃ out,r=(out,())∧OutI a b a.length out)
    (fun i hi y hy=>by
      obtain ⟨out0,rfl,hI⟩:=hy
      obtain ⟨c,out,q1,q2⟩:=zoW zzC (t:=a) (t1:=(a.length:Int)) (t2:=(i:Int)) (i:=i) (x:=a[i]) hb hI.dig (ha.at hi) (by rw[hI.len]; omega) (by rw[hI.len]; omega)
      obtain ⟨hz,hI'⟩:=hI.step hi q2
      left
      have hc:=q2.c0
      refine ⟨_,?_,_,rfl,hI'⟩
      have e1:IntKind.i64.wrap ((i:Int)+(b.length:Int))=((i+b.length:Nat):Int):=by rw[wrap_i64 (by omega) (by omega)]; omega
      have e2:IntKind.i64.wrap ((i:Int)+1)=((i+1:Nat):Int):=by rw[wrap_i64 (by omega) (by omega)]; omega
      have e3:IntKind.i64.wrap (0+c)=c:=by rw[wrap_i64 (by omega) (by omega)]; omega
      simp only[zcP,ziF,dlt hi,cond_true,zaH hi,Option.bind_some,q1,e1,zeV hz,Int.toNat_natCast,hz,e2,e3])
    (fun y hy=>by
      obtain ⟨out,rfl,hI⟩:=hy
      exact ⟨_,by simp[zcP],out,rfl,hI⟩)
    (x:=(b,a,(a.length:Int),0,List.replicate (a.length+b.length) 0,())) ⟨_,rfl,⟨by simp,Dig.zeros _,fun k _ hk=>by simp at hk; simp[hk],by simp[nv,zmH]⟩⟩
  rw[h1,Option.bind_some]
  simp only[]
  rw[zid (by rw[hI.len]; omega),Option.bind_some,zqY hI.dig,hI.val,List.take_length,hva,hvb]
  rfl
end Go.Di
namespace Go.Di
theorem zhg {σ ρ:Type} {S:σ→Option (σ ⊕ ρ)} (I:σ→Prop) (μ:σ→Nat) (Q:ρ→Prop)
    (h:∀ x,I x→(∃ y,S x=some (.inl y)∧I y∧μ y < μ x)∨∃ r,S x=some (.inr r)∧Q r):∀ {x:σ},I x→∃ r,whileO S x=some r∧Q r:=by
  have key:∀ (n:Nat) (x:σ),μ x=n→I x→∃ r,whileO S x=some r∧Q r:=by
    intro n
    induction n using Nat.strongRecOn with
    | _ n ih =>
      intro x hn hI
      rcases h x hI with ⟨y,h1,h2,h3⟩ | ⟨r,h1,h2⟩
      · obtain ⟨r,h4,h5⟩:=ih (μ y) (by omega) y rfl h2
        exact ⟨r,(zbd h1).trans h4,h5⟩
      · exact ⟨r,zaz h1,h2⟩
  exact fun {x} hI=>key _ x rfl hI
theorem zbP {m n:Nat} (h:m≤n):(dg m).length≤(dg n).length:=zfe.2 (by have:=(zfe (n:=n)).1 (Nat.le_refl _); omega)
theorem ziT (m n:Nat):(dg (m * n)).length≤(dg m).length+(dg n).length:=by
  rw[zfe,zsR]
  have h1:=(zfe (n:=m)).1 (Nat.le_refl _)
  have h2:=(zfe (n:=n)).1 (Nat.le_refl _)
  have h3:=zfg (dg m).length
  have h4:=zfg (dg n).length
  have:((m * n:Nat):Int)=(m:Int) * (n:Int):=by simp
  rw[this]
  by_cases hn:n=0
  · subst hn; simp; exact Int.mul_pos h3 h4
  · calc (m:Int) * n < bp (dg m).length * n:=Int.mul_lt_mul_of_pos_right h1 (by omega)
      _≤bp (dg m).length * bp (dg n).length:=Int.mul_le_mul_of_nonneg_left (by omega) (by omega)
theorem zMO {x y:Int}:decide (zo6 x y≤0)=decide (x≤y):=by
  unfold zo6
  split
  · simp; omega
  · split<;>simp<;>omega
theorem zEJ {x y:Int}:decide (zo6 x y < 0)=decide (x < y):=by
  unfold zo6
  split
  · simp; omega
  · split<;>simp<;>omega
theorem zEK {x y:Int}:decide (zo6 x y ≥ 0)=decide (y≤x):=by
  unfold zo6
  split
  · simp; omega
  · split<;>simp<;>omega
theorem spec_digit {r b:Nat} (_hr:(dg r).length≤400000000) (hb:(dg b).length≤400000000) (h0:0 < b) (hlt:r < 1000000000 * b):zew (dg r) (dg b)=some ((r / b:Nat):Int):=by
  unfold zew zg6
  have hq:r / b < 1000000000:=Nat.div_lt_of_lt_mul (by rw[Nat.mul_comm]; exact hlt)
  obtain ⟨y, h1,h2⟩:=zhg (S:=zb2) (fun x=>∃ lo hi:Nat,x=(dg r,dg b,(lo:Int),(hi:Int),())∧lo≤r / b∧r / b≤hi∧hi≤999999999) (fun x=>(x.2.2.2.1 - x.2.2.1).toNat) (fun y=>y=(((r / b:Nat):Int),()))
    (fun x hx=>by
      obtain ⟨lo,hi,rfl,k1,k2,k3⟩:=hx
      by_cases hlh:lo < hi
      · left
        have hq:IntKind.i64.wrap ((IntKind.i64.wrap ((IntKind.i64.wrap ((lo:Int)+hi))+1)).tdiv 2)=(((lo+hi+1) / 2:Nat):Int):=by
          rw[wrap_add (n:=(lo:Int)+hi) (by omega) (by omega),wrap_add (n:=(lo:Int)+hi+1) (by omega) (by omega),Int.tdiv_eq_ediv_of_nonneg (by omega),wrap_add (by omega) (by omega)]
          omega
        have hm:(lo+hi+1) / 2≤999999999:=by omega
        have hl3:=zgP (show (lo+hi+1) / 2≤9223372036854775807 by omega)
        have hml:=ziT b ((lo+hi+1) / 2)
        have hcmp:=zmB (zbY (b * ((lo+hi+1) / 2))) (zbY r) (by omega)
        rw[zcx,zcx] at hcmp
        generalize hmid:(lo+hi+1) / 2=q at *
        have hqb:0 < q:=by omega
        simp only[zb2,show decide ((lo:Int) < (hi:Int))=true by simpa using hlh,cond_true,hq,zeP (show (q:Int)≤9223372036854775807 by omega),Int.toNat_natCast,Option.bind_some,zcl (show (dg b).length≤500000000 by omega) (show (dg q).length≤500000000 by omega),hcmp,zMO]
        by_cases hle:b * q≤r
        · have hd:decide (((b * q:Nat):Int)≤(r:Int))=true:=by simpa using (by exact_mod_cast hle:((b * q:Nat):Int)≤(r:Int))
          rw[hd,cond_true]
          refine ⟨_,rfl,⟨q,hi,rfl,?_,k2,k3⟩,by simp; omega⟩
          exact (Nat.le_div_iff_mul_le h0).2 (by rw[Nat.mul_comm]; exact hle)
        · have hd:decide (((b * q:Nat):Int)≤(r:Int))=false:=by
            rw[decide_eq_false_iff_not]; intro hh; exact hle (by exact_mod_cast hh)
          rw[hd,cond_false]
          have e:IntKind.i64.wrap ((q:Int) - 1)=((q - 1:Nat):Int):=by rw[wrap_add (by omega) (by omega)]; omega
          rw[e]
          refine ⟨_,rfl,⟨lo,q - 1,rfl,k1,?_,by omega⟩,by simp; omega⟩
          have:r / b < q:=(Nat.div_lt_iff_lt_mul h0).2 (by rw[Nat.mul_comm]; omega)
          omega
      · right
        have hlo:lo=r / b:=by omega
        have hd:decide ((lo:Int) < (hi:Int))=false:=by simpa using hlh
        refine ⟨((lo:Int),()),?_,by rw[hlo]⟩
        simp only[zb2,hd,cond_false])
    (x:=(dg r,dg b,0,999999999,())) ⟨0,999999999,rfl,Nat.zero_le _,by omega,by omega⟩
  rw[h1,h2]; rfl
end Go.Di
namespace Go.Di
structure DivI (a:List Int) (n:Nat) (i:Nat) (out:List Int) (rv:Nat):Prop where
  len:out.length=a.length
  dig:Dig out
  zero:∀ k,k < i→k < a.length→out[k]? = some 0
  lt:rv < n
  val:nv (a.drop i)=n * nv (out.drop i)+rv
theorem zy5 {q:Nat} (h:q < 1000000000):(q:Int) < 1000000000:=by omega
theorem DivI.step {a out:List Int} {n i rv:Nat} (h:DivI a n (i+1) out rv) (ha:Dig a) (hi:i < a.length) (hn:0 < n) {x:Nat} (hx:(x:Int)=a[i]+1000000000 * rv) :
    DivI a n i (out.set i ((x / n:Nat):Int)) (x % n):=by
  obtain ⟨hl,hd,hz,hlt,hv⟩:=h
  have h1:=ha.at hi
  have hxlt:x < 1000000000 * n:=by
    have:1000000000 * (rv:Int)≤1000000000 * ((n:Int) - 1):=Int.mul_le_mul_of_nonneg_left (by omega) (by omega)
    omega
  have hq:x / n < 1000000000:=Nat.div_lt_of_lt_mul (by rw[Nat.mul_comm]; exact hxlt)
  have hq0:0≤((x / n:Nat):Int)∧((x / n:Nat):Int) < 1000000000:=⟨Int.natCast_nonneg _,zy5 hq⟩
  refine ⟨by simp[hl],hd.set i hq0,fun k hk hk'=>?_,Nat.mod_lt _ hn,?_⟩
  · rw[List.getElem?_set_ne (by omega)]; exact hz k (by omega) hk'
  · have hio:i < (out.set i ((x / n:Nat):Int)).length:=by simp; omega
    rw[zde hi,zde hio,hv]
    have e1:(out.set i ((x / n:Nat):Int))[i]=((x / n:Nat):Int):=by simp
    have e2:(out.set i ((x / n:Nat):Int)).drop (i+1)=out.drop (i+1):=by rw[List.drop_set_of_lt (by omega)]
    rw[e1,e2]
    have hdm:(n:Int) * ((x / n:Nat):Int)+((x % n:Nat):Int)=(x:Int):=by exact_mod_cast Nat.div_add_mod x n
    generalize ((x / n:Nat):Int)=q at *
    generalize ((x % n:Nat):Int)=r at *
    generalize nv (out.drop (i+1))=o at *
    grind
theorem zpH {out:List Int} {i:Nat} (h:out[i]? = some 0):out.set i 0=out:=by
  apply List.ext_getElem?
  intro j
  rw[List.getElem?_set]
  split
  · rename_i e; subst e
    split
    · exact h.symm
    · rename_i hn; rw[List.getElem?_eq_none (by omega)] at h; cases h
  · rfl
theorem zq5 {a out:List Int} {n i rv:Nat} (hI:DivI a n (i+1) out rv) (ha:Dig a) (hi:i < a.length) (hn:0 < n) (hl:a.length≤100000000) (hln:(dg n).length≤100000000) :
    ∃ out' rv',zb9 (a,dg n,(i:Int),out,dg rv,())=some (.inl (a,dg n,(i:Int) - 1,out',dg rv',()))∧DivI a n i out' rv':=by
  have h1:=ha.at hi
  let x:Nat:=a[i].toNat+1000000000 * rv
  have hx:(x:Int)=a[i]+1000000000 * rv:=by simp only[x]; omega
  have hxlt:x < 1000000000 * n:=by
    have:=hI.lt
    have:1000000000 * (rv:Int)≤1000000000 * ((n:Int) - 1):=Int.mul_le_mul_of_nonneg_left (by omega) (by omega)
    omega
  have hr:=zbP (Nat.le_of_lt hI.lt)
  have htz:tz ([a[i]]++dg rv)=dg x:=by
    rw[zqY (Dig.append (Dig.cons h1 Dig.nil) (zej rv)),zkL,zcx]
    refine congrArg dg ?_
    simp only[nv,List.length_cons,List.length_nil,zek,zod]
    omega
  have hxl:(dg x).length≤(dg n).length+2:=by
    have h2:=zbP (Nat.le_of_lt hxlt)
    have h3:=ziT 1000000000 n
    have h4:(dg 1000000000).length≤2:=zfe.2 (by simp[bp])
    omega
  refine ⟨out.set i ((x / n:Nat):Int),x % n,?_,hI.step ha hi hn hx⟩
  have hcmp:=zmB (zbY x) (zbY n) (by omega)
  rw[zcx,zcx] at hcmp
  have e0:IntKind.i64.wrap ((i:Int) - 1)=(i:Int) - 1:=wrap_add (by omega) (by omega)
  have hz:=hI.zero i (by omega) hi
  simp only[zb9,show decide ((i:Int) ≥ 0)=true by simp,cond_true,zaH hi,room (show 1+(dg rv).length≤1073741824 by omega),Option.bind_some,zh6 (show ([a[i]]++dg rv).length≤1073741824 by simp; omega),htz,hcmp,zEJ,e0]
  by_cases hlt:x < n
  · have hd:decide ((x:Int) < (n:Int))=true:=by simpa using hlt
    rw[hd,cond_true,Nat.div_eq_of_lt hlt,Nat.mod_eq_of_lt hlt]
    rw[show ((0:Nat):Int)=0 from rfl,zpH hz]
  · have hd:decide ((x:Int) < (n:Int))=false:=by simpa using hlt
    have hq:x / n < 1000000000:=Nat.div_lt_of_lt_mul (by rw[Nat.mul_comm]; exact hxlt)
    have hql:=zgP (show x / n≤9223372036854775807 by omega)
    have hle:n * (x / n)≤x:=Nat.mul_div_le x n
    have hsub:x - n * (x / n)=x % n:=by have:=Nat.div_add_mod x n; omega
    simp only[hd,cond_false,spec_digit (show (dg x).length≤400000000 by omega) (show (dg n).length≤400000000 by omega) hn hxlt,Option.bind_some,zeV hz,zeP (show ((x / n:Nat):Int)≤9223372036854775807 by omega),Int.toNat_natCast,
      zcl (show (dg n).length≤500000000 by omega) (show (dg (x / n)).length≤500000000 by omega),zpB (show (dg x).length≤1073740000 by omega) hle,hsub]
theorem zpC {m n:Nat} (hm:(dg m).length≤100000000) (hn:(dg n).length≤100000000) (h0:0 < n):zc3 (dg m) (dg n)=some (dg (m / n),dg (m % n)):=by
  unfold zc3
  have hne:dg n≠[]:=fun e=>by have:=zfX.1 e; omega
  by_cases h1:(dg n).length=1
  · have hb:(((dg n).length:Int)==1)=true:=by rw[h1]; rfl
    rw[hb,cond_true]
    have hd:=zo3 (show n≠0 by omega)
    have hnil:dg (n / 1000000000)=[]:=by
      rw[hd] at h1; simpa using h1
    have hsm:n < 1000000000:=by have:=zfX.1 hnil; omega
    have e:dg n=[(n:Int)]:=by rw[hd,hnil,Nat.mod_eq_of_lt hsm]
    rw[e,show ((0:Int)=((0:Nat):Int)) from rfl,zeV (x:=(n:Int)) (by rfl),Option.bind_some,zyS (by omega) ⟨h0,hsm⟩,Option.bind_some]
    have:m % n < n:=Nat.mod_lt _ h0
    simp only[zeP (show ((m % n:Nat):Int)≤9223372036854775807 by omega),Option.bind_some,Int.toNat_natCast]
  · have hb:(((dg n).length:Int)==1)=false:=by rw[beq_eq_false_iff_ne]; omega
    rw[hb,cond_false,ziS (by omega),Option.bind_some,Int.toNat_natCast,wrap_i64 (by omega) (by omega)]
    have ha:=zej m
    have hva:=zcx m
    generalize dg m=a at *
    unfold zix
    obtain ⟨r,h1,out,rv,rfl,hI⟩:=zbZ (S:=zb9) (fun k x=>∃ out rv,x=(a,dg n,((a.length - k:Nat):Int) - 1,out,dg rv,())∧DivI a n (a.length - k) out rv) a.length (fun r=>∃ out rv,r=(out,dg rv,())∧DivI a n 0 out rv)
      (fun k hk x hx=>by
        obtain ⟨out,rv,rfl,hI⟩:=hx
        have e:((a.length - k:Nat):Int) - 1=((a.length - (k+1):Nat):Int):=by omega
        have e2:a.length - k=(a.length - (k+1))+1:=by omega
        rw[e2] at hI
        obtain ⟨out',rv',q1,q2⟩:=zq5 hI ha (by omega) h0 hm hn
        rw[e]
        exact .inl ⟨_,q1,out',rv',rfl,q2⟩)
      (fun x hx=>by
        obtain ⟨out,rv,rfl,hI⟩:=hx
        rw[Nat.sub_self] at *
        exact ⟨_,by simp[zb9],out,rv,rfl,hI⟩)
      (x:=(a,dg n,(a.length:Int) - 1,List.replicate a.length 0,[],())) ⟨List.replicate a.length 0,0,by simp[zaB],⟨by simp,Dig.zeros _,fun k _ hk=>by simp[hk],h0,by simp[nv]⟩⟩
    rw[h1,Option.bind_some]
    simp only[]
    have hv:=hI.val
    simp only[List.drop_zero] at hv
    rw[hva] at hv
    have hnn:=zaP hI.dig
    have hlt:=hI.lt
    have hvn:m=n * (nv out).toNat+rv:=by
      have:((nv out).toNat:Int)=nv out:=by omega
      rw[← this] at hv
      exact_mod_cast hv
    have e1:m / n=(nv out).toNat:=by rw[hvn,Nat.mul_add_div h0,Nat.div_eq_of_lt hlt,Nat.add_zero]
    have e2:m % n=rv:=by rw[hvn,Nat.mul_add_mod,Nat.mod_eq_of_lt hlt]
    rw[zh6 (by rw[hI.len]; omega),Option.bind_some,zqY hI.dig,e1,e2]
end Go.Di
namespace Go.Di
theorem znQ {S:(Int × Int × Unit)→Option ((Int × Int × Unit) ⊕ (Int × Unit))} (hS:∀ x y:Nat,0 < y→S ((x:Int),(y:Int),())=some (.inl ((y:Int),((x % y:Nat):Int),())))
    (hE:∀ x:Nat,S ((x:Int),0,())=some (.inr ((x:Int),()))):∀ y x:Nat,whileO S ((x:Int),(y:Int),())=some (((Nat.gcd x y:Nat):Int),()):=by
  intro y
  induction y using Nat.strongRecOn with
  | _ y ih =>
    intro x
    by_cases h:y=0
    · subst h
      rw[Nat.gcd_zero_right]; exact zaz (hE x)
    · rw[zbd (hS x y (by omega)),ih (x % y) (Nat.mod_lt _ (by omega)) y]
      rw[Nat.gcd_comm x y,Nat.gcd_rec y x,Nat.gcd_comm (x % y) y]
theorem zwa (x y:Nat):(x:Int).tmod (y:Int)=((x % y:Nat):Int):=by
  rw[Int.tmod_eq_emod_of_nonneg (by omega)]; simp
theorem zyT {x y:Nat} (hx:x≤9223372036854775807) (hy:y≤9223372036854775807):zeu (x:Int) (y:Int)=some (dg (Nat.gcd x y)):=by
  unfold zeu zg5
  rw [znQ (S:=zb1) (fun x y h=>by
    have h1:decide ((y:Int) > 0)=true:=by simpa using h
    have h2:zak ((y:Int) != 0)=some ():=by
      have:((y:Int) != 0)=true:=by simp; omega
      rw[this]; rfl
    simp only[zb1,h1,cond_true,h2,Option.bind_some,zwa]) (fun x=>by simp[zb1]) y x,Option.bind_some]
  have hg:Nat.gcd x y≤9223372036854775807:=by
    by_cases h:x=0
    · subst h; simpa using hy
    · exact Nat.le_trans (Nat.gcd_le_left y (by omega)) hx
  simp only[zeP (show ((Nat.gcd x y:Nat):Int)≤9223372036854775807 by omega),Option.bind_some,Int.toNat_natCast]
theorem zNY:([854775807,223372036,9]:List Int)=dg 9223372036854775807:=by
  refine zEl ⟨fun d hd=>?_,by simp[zqU]⟩ (by simp[nv])
  simp at hd
  omega
theorem zyO {S:(List Int × Int × Int × Unit)→Option ((List Int × Int × Int × Unit) ⊕ (Int × Unit))} {a:List Int} (ha:Dig a) (hm:nv a≤9223372036854775807)
    (hS:∀ (i:Nat) (n:Int) (h:i < a.length),0≤n→n * 1000000000+a[i]≤9223372036854775807→S (a,n,(i:Int),())=some (.inl (a,n * 1000000000+a[i],(i:Int) - 1,())))
    (hE:∀ n,S (a,n,-1,())=some (.inr (n,()))):whileO S (a,0,(a.length:Int) - 1,())=some (nv a,()):=by
  have hle:∀ i,nv (a.drop i)≤9223372036854775807:=by
    intro i
    induction i with
    | zero=>simpa using hm
    | succ i ih =>
      by_cases h:i < a.length
      · rw[zde h] at ih
        have:=ha.at h
        have h0:=zaP (ha.drop (i+1))
        omega
      · rw[List.drop_of_length_le (by omega)]; simp[nv]
  obtain ⟨r,h1,h2⟩:=zbZ (S:=S) (fun k x=>x=(a,nv (a.drop (a.length - k)),((a.length - k:Nat):Int) - 1,())) a.length (fun r=>r=(nv a,()))
    (fun k hk x hx=>by
      subst hx
      have hi:a.length - (k+1) < a.length:=by omega
      have e:((a.length - k:Nat):Int) - 1=((a.length - (k+1):Nat):Int):=by omega
      have e2:a.length - k=(a.length - (k+1))+1:=by omega
      have hd:=zde hi
      have hb:=hle (a.length - (k+1))
      rw[hd] at hb
      rw[e,hd]
      left
      refine ⟨_,hS _ _ hi (zaP (ha.drop _)) ?_,?_⟩
      · rw[e2]; omega
      · rw[e2]; congr 2; omega)
    (fun x hx=>by
      subst hx
      rw[Nat.sub_self]
      exact ⟨_,hE _,by simp⟩)
    (x:=(a,0,(a.length:Int) - 1,())) (by simp[nv])
  rw[h1,h2]
end Go.Di
namespace Go.Di
theorem zF9 {m:Nat} (h:(dg m).length≤60):pB (zkt (dg m))=true:=pB_iff.2 ⟨zbY m,h⟩
theorem zoy {m:Nat} (h:(dg m).length < 3):zdv (dg m)=some ((m:Int),true):=by
  unfold zdv zg7
  have hv:=zcx m
  have hlt:(m:Int) < bp 2:=zfe.1 (by omega)
  have hb2:bp 2=1000000000000000000:=by decide
  rw[hb2] at hlt
  obtain ⟨K,hK,hKv⟩:∃ K:Nat,([854775807,223372036,9]:List Int)=dg K∧9000000000000000000 < K:=⟨_,zNY,by omega⟩
  have hcmp:=zmB (zbY m) (zbY K) (by omega)
  rw[zcx,zcx] at hcmp
  rw[spec_natOk (by omega),zF9 (by omega),Option.bind_some,hK,hcmp]
  simp only[Bool.not_true,cond_false,Option.bind_some]
  have hc:decide (zo6 (m:Int) (K:Int) > 0)=false:=by
    rw[decide_eq_false_iff_not]
    unfold zo6
    split
    · omega
    · split<;>omega
  rw[hc,cond_false]
  have ha:=zej m
  generalize dg m=a at *
  rw[wrap_i64 (by omega) (by omega)]
  rw [zyO (S:=zb3) ha (by omega) (fun i n hi h0 hn=>by
    have hx:=ha.at hi
    simp only[zb3,show decide ((i:Int) ≥ 0)=true by simp,cond_true,zaH hi,Option.bind_some]
    rw[wrap_i64 (n:=n * 1000000000) (by omega) (by omega),wrap_i64 (n:=n * 1000000000+a[i]) (by omega) (by omega),wrap_i64 (n:=(i:Int) - 1) (by omega) (by omega)]) (by simp[zb3]),Option.bind_some,hv]
theorem spec_gcd {m n:Nat} (hm:(dg m).length≤100000000) (hn:(dg n).length≤100000000):zev (dg m) (dg n)=some (dg (Nat.gcd m n)):=by
  unfold zev ziw
  rw[room (by omega),room (by omega),Option.bind_some,Option.bind_some]
  obtain ⟨r, h1,h2⟩:=zhg (S:=zbG) (fun x=>∃ p q:Nat,x=(dg p,dg q,())∧Nat.gcd p q=Nat.gcd m n∧(dg p).length≤100000000∧(dg q).length≤100000000) (fun x=>(nv x.2.1).toNat)
    (fun r=>(match r with | .inl (t,_)=>t | .inr (x,_)=>x)=dg (Nat.gcd m n))
    (fun x hx=>by
      obtain ⟨p,q,rfl,hg,hp,hq⟩:=hx
      by_cases h0:q=0
      · subst h0
        right
        refine ⟨.inr (dg p,()),by simp[zbG,zaB],?_⟩
        rw[← hg,Nat.gcd_zero_right]
      · have hqn:dg q≠[]:=fun e=>h0 (zfX.1 e)
        have hl:decide (((dg q).length:Int) > 0)=true:=by have:=List.length_pos_iff.2 hqn; simp only[decide_eq_true_eq]; omega
        have hstep:(∃ y,(some (Sum.inl (dg q,dg (p % q),())):Option ((List Int × List Int × Unit) ⊕ ((List Int × Unit) ⊕ (List Int × Unit))))=some (.inl y)∧(∃ p' q':Nat,y=(dg p',dg q',())∧Nat.gcd p' q'=Nat.gcd m n∧(dg p').length≤100000000∧(dg q').length≤100000000)∧(nv y.2.1).toNat < (nv (dg q)).toNat):=by
          refine ⟨_,rfl,⟨q,p % q,rfl,?_,hq,?_⟩,?_⟩
          · rw[← hg,Nat.gcd_comm p q,Nat.gcd_rec q p,Nat.gcd_comm]
          · exact Nat.le_trans (zbP (Nat.mod_le p q)) hp
          · simp only[zcx,Int.toNat_natCast]; exact Nat.mod_lt _ (by omega)
        have hdiv:=zpC hp hq (show 0 < q by omega)
        by_cases hp3:(dg p).length < 3
        · have e1:decide (((dg p).length:Int) < 3)=true:=by simp only[decide_eq_true_eq]; omega
          by_cases hq3:(dg q).length < 3
          · have e2:decide (((dg q).length:Int) < 3)=true:=by simp only[decide_eq_true_eq]; omega
            right
            have b2:bp 2=1000000000000000000:=by decide
            have lp:(p:Int) < bp 2:=zfe.1 (by omega)
            have lq:(q:Int) < bp 2:=zfe.1 (by omega)
            refine ⟨.inl (dg (Nat.gcd p q),()),?_,by rw[hg]⟩
            simp only[zbG,hl,e1,e2,cond_true,zoy hp3,zoy hq3,Option.bind_some,zyT (show p≤9223372036854775807 by omega) (show q≤9223372036854775807 by omega)]
          · have e2:decide (((dg q).length:Int) < 3)=false:=by simp only[decide_eq_false_iff_not]; omega
            left
            simp only[zbG,hl,e1,e2,cond_true,cond_false,hdiv,Option.bind_some]
            exact hstep
        · have e1:decide (((dg p).length:Int) < 3)=false:=by simp only[decide_eq_false_iff_not]; omega
          left
          simp only[zbG,hl,e1,cond_true,cond_false,hdiv,Option.bind_some]
          exact hstep)
    (x:=(dg m,dg n,())) ⟨m,n,rfl,rfl,hm,hn⟩
  rw[h1,Option.bind_some]
  cases r with
  | inl t=>exact congrArg some h2
  | inr t=>exact congrArg some h2
end Go.Di
namespace Go.Di
structure TakeI (y x0:List Int) (k:Nat) (q:Int) (j:Nat) (br:Int) (x:List Int):Prop where
  len:x.length=x0.length
  dig:Dig x
  b0:0≤br∧br≤q
  rest:∀ p,k+y.length≤p→x[p]? = x0[p]?
  low:∀ p,p < k→x[p]? = x0[p]?
  val:nv x+bp k * (q * nv (y.take j))=nv x0+bp (k+j) * br
theorem TakeI.step {y x0 x:List Int} {k j:Nat} {q br s b':Int} (h:TakeI y x0 k q j br x) (_hy:Dig y) (_hq:0≤q∧q≤1000000000) (hj:j < y.length) (hk:k+j < x.length) (hs:s - 1000000000 * b'=x[k+j] - q * y[j] - br) (hs0:0≤s∧s < 1000000000) (hb':0≤b'∧b'≤q) :
    TakeI y x0 k q (j+1) b' (x.set (k+j) s):=by
  obtain ⟨hl,hd,hb,hr,hlow,hv⟩:=h
  refine ⟨by simp[hl],hd.set _ hs0,hb',fun p hp=>?_,fun p hp=>?_,?_⟩
  · rw[List.getElem?_set_ne (by omega)]; exact hr p hp
  · rw[List.getElem?_set_ne (by omega)]; exact hlow p hp
  · rw[znp hk,zdl hj,show k+(j+1)=(k+j)+1 from rfl,zek,zsR] at *
    generalize x[k+j]=e at *
    generalize y[j]=z at *
    generalize nv (y.take j)=v at *
    generalize bp k=p at *
    generalize bp j=p' at *
    grind
structure BackI (y x0:List Int) (k:Nat) (j:Nat) (c:Int) (x:List Int):Prop where
  len:x.length=x0.length
  dig:∀ p,p < k+y.length→∀ d,x[p]? = some d→0≤d∧d < 1000000000
  c0:0≤c∧c≤1
  rest:∀ p,k+y.length≤p→x[p]? = x0[p]?
  low:∀ p,p < k→x[p]? = x0[p]?
  val:nv x+bp (k+j) * c=nv x0+bp k * nv (y.take j)
theorem BackI.step {y x0 x:List Int} {k j:Nat} {c s c':Int} (h:BackI y x0 k j c x) (hj:j < y.length) (hk:k+j < x.length) (hs:s+1000000000 * c'=x[k+j]+y[j]+c) (hs0:0≤s∧s < 1000000000) (hc':0≤c'∧c'≤1) :
    BackI y x0 k (j+1) c' (x.set (k+j) s):=by
  obtain ⟨hl,hd,hc,hr,hlow,hv⟩:=h
  refine ⟨by simp[hl],fun p hp d hpd=>?_,hc',fun p hp=>?_,fun p hp=>?_,?_⟩
  · rw [List.getElem?_set] at hpd
    split at hpd
    · first
        | (cases hpd; exact hs0)
        | (split at hpd<;>first | (cases hpd; exact hs0) | cases hpd)
    · exact hd p hp d hpd
  · rw[List.getElem?_set_ne (by omega)]; exact hr p hp
  · rw[List.getElem?_set_ne (by omega)]; exact hlow p hp
  · rw[znp hk,zdl hj,show k+(j+1)=(k+j)+1 from rfl,zek,zsR] at *
    generalize x[k+j]=e at *
    generalize y[j]=z at *
    generalize nv (y.take j)=v at *
    generalize bp k=p at *
    generalize bp j=p' at *
    grind
end Go.Di
namespace Go.Di
theorem zA1 {y x0 out:List Int} {k:Nat} {f top q:Int} (hy:Dig y) (hx:Dig x0) (hq:0≤q∧q < 1000000000) (hfit:k+y.length < x0.length) (hl:x0.length≤1073741824) :
    ∃ br x,zga f (y.length:Int) top (k:Int) q 0 (y.length:Int) 0 x0 y out=some (f,(y.length:Int),top,(k:Int),q,br,x,y,out,())∧TakeI y x0 k q y.length br x:=by
  unfold zga
  obtain ⟨r,h1,br,x,rfl,h2⟩:=zbZ (S:=zcS) (fun j z=>∃ br x,z=(f,(y.length:Int),top,(k:Int),q,br,(y.length:Int),(j:Int),x,y,out,())∧TakeI y x0 k q j br x) y.length (fun r=>∃ br x,r=(f,(y.length:Int),top,(k:Int),q,br,x,y,out,())∧TakeI y x0 k q y.length br x)
    (fun j hj z hz=>by
      obtain ⟨br,x,rfl,hI⟩:=hz
      left
      have hk:k+j < x.length:=by rw[hI.len]; omega
      have he:=hI.dig.at hk
      have hyj:=hy.at hj
      have hb:=hI.b0
      have h0:=Int.mul_nonneg hq.1 hyj.1
      have hmax:q * y[j]≤q * 999999999:=Int.mul_le_mul_of_nonneg_left (by omega) hq.1
      have e1:IntKind.i64.wrap ((k:Int)+(j:Int))=((k+j:Nat):Int):=by rw[wrap_i64 (by omega) (by omega)]; omega
      have e2:IntKind.i64.wrap ((j:Int)+1)=((j+1:Nat):Int):=by rw[wrap_i64 (by omega) (by omega)]; omega
      simp only[zcS,dlt hj,cond_true,e1,e2,zaH hk,zaH hj,Int.toNat_natCast,List.getElem?_eq_getElem hk,List.getElem?_eq_getElem hj,Option.bind_some]
      rw[wrap_add (n:=q * y[j]) (by omega) (by omega),wrap_i64 (n:=x[k+j] - q * y[j]) (by omega) (by omega),wrap_i64 (n:=x[k+j] - q * y[j] - br) (by omega) (by omega)]
      generalize hs:x[k+j] - q * y[j] - br=s at *
      by_cases hneg:s < 0
      · rw[decide_eq_true hneg,cond_true,wrap_i64 (n:=999999999 - s) (by omega) (by omega),Int.tdiv_eq_ediv_of_nonneg (by omega)]
        rw[wrap_i64 (n:=(999999999 - s) / 1000000000) (by omega) (by omega),wrap_i64 (n:=(999999999 - s) / 1000000000 * 1000000000) (by omega) (by omega),wrap_i64 (n:=s+(999999999 - s) / 1000000000 * 1000000000) (by omega) (by omega)]
        refine ⟨_,rfl,_,_,rfl,?_⟩
        exact hI.step hy (by omega) hj hk (by omega) (by omega) (by omega)
      · rw[decide_eq_false hneg,cond_false]
        refine ⟨_,rfl,_,_,rfl,?_⟩
        exact hI.step hy (by omega) hj hk (by omega) (by omega) (by omega))
    (fun z hz=>by
      obtain ⟨br,x,rfl,hI⟩:=hz
      exact ⟨_,by simp[zcS],br,x,rfl,hI⟩)
    (x:=(f,(y.length:Int),top,(k:Int),q,0,(y.length:Int),0,x0,y,out,())) ⟨0,x0,rfl,⟨rfl,hx,by omega,fun _ _=>rfl,fun _ _=>rfl,by simp[nv]⟩⟩
  exact ⟨br,x,h1,h2⟩
end Go.Di
namespace Go.Di
theorem zFe {y x0 out:List Int} {k:Nat} {f top q:Int} (hy:Dig y) (hx:∀ p,p < k+y.length→∀ d,x0[p]? = some d→0≤d∧d < 1000000000) (hfit:k+y.length < x0.length) (hl:x0.length≤1073741824) :
    ∃ c x,zf9 f (y.length:Int) top (k:Int) q 0 (y.length:Int) 0 x0 y out=some (f,(y.length:Int),top,(k:Int),q,c,x,y,out,())∧BackI y x0 k y.length c x:=by
  unfold zf9
  obtain ⟨r,h1,c,x,rfl,h2⟩:=zbZ (S:=zcR) (fun j z=>∃ c x,z=(f,(y.length:Int),top,(k:Int),q,c,(y.length:Int),(j:Int),x,y,out,())∧BackI y x0 k j c x) y.length (fun r=>∃ c x,r=(f,(y.length:Int),top,(k:Int),q,c,x,y,out,())∧BackI y x0 k y.length c x)
    (fun j hj z hz=>by
      obtain ⟨c,x,rfl,hI⟩:=hz
      left
      have hk:k+j < x.length:=by rw[hI.len]; omega
      have he:=hI.dig (k+j) (by omega) _ (List.getElem?_eq_getElem hk)
      have hyj:=hy.at hj
      have hc:=hI.c0
      have e1:IntKind.i64.wrap ((k:Int)+(j:Int))=((k+j:Nat):Int):=by rw[wrap_i64 (by omega) (by omega)]; omega
      have e2:IntKind.i64.wrap ((j:Int)+1)=((j+1:Nat):Int):=by rw[wrap_i64 (by omega) (by omega)]; omega
      simp only[zcR,dlt hj,cond_true,e1,e2,zaH hk,zaH hj,Int.toNat_natCast,List.getElem?_eq_getElem hk,List.getElem?_eq_getElem hj,Option.bind_some]
      rw[wrap_i64 (n:=x[k+j]+y[j]) (by omega) (by omega),wrap_i64 (n:=x[k+j]+y[j]+c) (by omega) (by omega)]
      by_cases hge:x[k+j]+y[j]+c ≥ 1000000000
      · rw[decide_eq_true hge,cond_true,wrap_i64 (n:=x[k+j]+y[j]+c - 1000000000) (by omega) (by omega)]
        exact ⟨_,rfl,_,_,rfl,hI.step hj hk (by omega) (by omega) (by omega)⟩
      · rw[decide_eq_false hge,cond_false]
        exact ⟨_,rfl,_,_,rfl,hI.step hj hk (by omega) (by omega) (by omega)⟩)
    (fun z hz=>by
      obtain ⟨c,x,rfl,hI⟩:=hz
      exact ⟨_,by simp[zcR],c,x,rfl,hI⟩)
    (x:=(f,(y.length:Int),top,(k:Int),q,0,(y.length:Int),0,x0,y,out,())) ⟨0,x0,rfl,⟨rfl,hx,by omega,fun _ _=>rfl,fun _ _=>rfl,by simp[nv]⟩⟩
  exact ⟨c,x,h1,h2⟩
end Go.Di
namespace Go.Di
theorem guess_loop {x y out:List Int} {k n:Nat} {f top q r Q:Int} {xn x1 x2 y2:Int} (hn:2≤n) (hl:x.length≤1073741824) (hkn:k+n < x.length) (hyn:y.length=n)
    (hx2:x[k+n - 2]? = some x2) (hy2:y[n - 2]? = some y2) (b2:0≤x2∧x2 < 1000000000) (c2:0≤y2∧y2 < 1000000000) (bn:0≤xn∧xn≤top) (b1:0≤x1∧x1 < 1000000000) (ht:1≤top∧top < 1000000000)
    (hQ:0≤Q∧Q < 1000000000) (hQ2:Q * (top * 1000000000+y2)≤(xn * 1000000000+x1) * 1000000000+x2)
    (h0:q * top+r=xn * 1000000000+x1) (hr:0≤r∧r < 1000000000) (hqQ:Q≤q) :
    ∃ q',zgb f (n:Int) top (k:Int) q r x y out=some (f,(n:Int),top,(k:Int),q',x,y,out,())∧Q≤q'∧q' < 1000000000∧q' * (top * 1000000000+y2)≤(xn * 1000000000+x1) * 1000000000+x2:=by
  unfold zgb
  obtain ⟨z, h1,q',rfl,h2⟩:=zhg (S:=zcT) (fun z=>∃ q r,z=(f,(n:Int),top,(k:Int),q,r,x,y,out,())∧q * top+r=xn * 1000000000+x1∧0≤r∧r < 1000000000∧Q≤q) (fun z=>z.2.2.2.2.1.toNat)
    (fun z=>∃ q',z=(f,(n:Int),top,(k:Int),q',x,y,out,())∧Q≤q'∧q' < 1000000000∧q' * (top * 1000000000+y2)≤(xn * 1000000000+x1) * 1000000000+x2)
    (fun z hz => by
      obtain ⟨q,r,rfl,e0,r0,r1,hqQ⟩:=hz
      have ey:IntKind.i64.wrap ((n:Int) - 2)=((n - 2:Nat):Int):=by rw[wrap_i64 (by omega) (by omega)]; omega
      have ex:IntKind.i64.wrap ((IntKind.i64.wrap ((k:Int)+(n:Int))) - 2)=((k+n - 2:Nat):Int):=by rw[wrap_i64 (n:=(k:Int)+n) (by omega) (by omega),wrap_i64 (by omega) (by omega)]; omega
      have er:IntKind.i64.wrap (r+top)=r+top:=wrap_i64 (by omega) (by omega)
      have hqb:q≤2000000000000000000:=by
        rcases Int.lt_or_le q 0 with h | h
        · omega
        · have h3:q * 1≤q * top:=Int.mul_le_mul_of_nonneg_left ht.1 h
          omega
      have eq1:IntKind.i64.wrap (q - 1)=q - 1:=wrap_i64 (by omega) (by omega)
      -- one down
      have down:Q < q→(∃ z,cond (decide (r+top ≥ 1000000000)) (some (Sum.inr (f,(n:Int),top,(k:Int),q - 1,x,y,out,()))) (some (.inl (f,(n:Int),top,(k:Int),q - 1,r+top,x,y,out,())))=some (.inl z)∧(∃ q r,z=(f,(n:Int),top,(k:Int),q,r,x,y,out,())∧q * top+r=xn * 1000000000+x1∧0≤r∧r < 1000000000∧Q≤q)∧z.2.2.2.2.1.toNat < q.toNat) ∨
          ∃ w,cond (decide (r+top ≥ 1000000000)) (some (Sum.inr (f,(n:Int),top,(k:Int),q - 1,x,y,out,()))) (some (.inl (f,(n:Int),top,(k:Int),q - 1,r+top,x,y,out,())))=some (.inr w)∧∃ q',w=(f,(n:Int),top,(k:Int),q',x,y,out,())∧Q≤q'∧q' < 1000000000∧q' * (top * 1000000000+y2)≤(xn * 1000000000+x1) * 1000000000+x2:=by
        intro hlt
        have e1:(q - 1) * top+(r+top)=xn * 1000000000+x1:=by rw[← e0]; grind
        by_cases hb:r+top ≥ 1000000000
        · right
          rw[decide_eq_true hb,cond_true]
          have hq1:q - 1 < 1000000000:=by
            rcases Int.lt_or_le (q - 1) 1000000000 with h | h
            · exact h
            · exfalso
              have h3:1000000000 * top≤(q - 1) * top:=Int.mul_le_mul_of_nonneg_right h (by omega)
              have h4:xn * 1000000000≤top * 1000000000:=Int.mul_le_mul_of_nonneg_right bn.2 (by omega)
              omega
          refine ⟨_,rfl,_,rfl,by omega,hq1,?_⟩
          have h5:(q - 1) * y2≤999999999 * 999999999:=Int.mul_le_mul (by omega) (by omega) c2.1 (by omega)
          have h6:(q - 1) * (top * 1000000000+y2)=((q - 1) * top) * 1000000000+(q - 1) * y2:=by grind
          rw[h6]
          generalize (q - 1) * top=A at *
          omega
        · left
          rw[decide_eq_false hb,cond_false]
          exact ⟨_,rfl,⟨_,_,rfl,e1,by omega,by omega,by omega⟩,by simp; omega⟩
      by_cases hge:q ≥ 1000000000
      · simp only[zcT,decide_eq_true hge,cond_true,er,eq1]
        exact down (by omega)
      · have hqy:0≤q * y2:=Int.mul_nonneg (by omega) c2.1
        have hqy2:q * y2≤999999999 * 999999999:=Int.mul_le_mul (by omega) (by omega) c2.1 (by omega)
        simp only[zcT,decide_eq_false hge,cond_false,ey,ex,zeV hy2,zeV hx2,hy2,hx2,Int.toNat_natCast,Option.bind_some,er,eq1]
        rw[wrap_i64 (n:=q * y2) (by omega) (by omega),wrap_i64 (n:=r * 1000000000) (by omega) (by omega),wrap_i64 (n:=r * 1000000000+x2) (by omega) (by omega)]
        have h6:q * (top * 1000000000+y2)=(q * top) * 1000000000+q * y2:=by grind
        by_cases hgt:q * y2 > r * 1000000000+x2
        · rw [decide_eq_true hgt,cond_true]
          refine down ?_
          rcases Int.lt_or_le Q q with h | h
          · exact h
          · exfalso
            have:q=Q:=by omega
            subst this
            rw[h6] at hQ2
            generalize q * top=A at *
            omega
        · rw[decide_eq_false hgt,cond_false]
          right
          refine ⟨_,rfl,_,rfl,hqQ,by omega,?_⟩
          rw[h6]
          generalize q * top=A at *
          omega)
    (x:=(f,(n:Int),top,(k:Int),q,r,x,y,out,())) ⟨q,r,rfl,h0,hr.1,hr.2,hqQ⟩
  exact ⟨q',h1,h2⟩
end Go.Di
namespace Go.Di
theorem guess_near {p X Y X3 Y2 xl yl Q q top:Int} (hp:0 < p) (hX:X=xl+p * X3) (hxl:0≤xl∧xl < p) (hY:Y=yl+p * Y2) (hyl:0≤yl∧yl < p) (hY0:0 < Y) (htop:top * 1000000000≤Y2) (ht:1≤top)
    (hQ:Q=X / Y) (hq0:0≤q) (hqB:q < 1000000000) (hq:q * Y2≤X3):q≤Q+1:=by
  have h1:p * (q * Y2)≤p * X3:=Int.mul_le_mul_of_nonneg_left hq (by omega)
  have h2:q * yl≤q * p:=Int.mul_le_mul_of_nonneg_left (by omega) hq0
  have h3:p * q≤p * 1000000000:=Int.mul_le_mul_of_nonneg_left (by omega) (by omega)
  have h4:p * 1000000000≤p * Y2:=Int.mul_le_mul_of_nonneg_left (by omega) (by omega)
  have h5:q * Y=q * yl+p * (q * Y2):=by rw[hY]; grind
  have h6:p * q=q * p:=Int.mul_comm _ _
  have h7:q * Y≤X+Y:=by omega
  have h8 : (q - 1) * Y ≤ X := by have:(q - 1) * Y=q * Y - Y:=by grind
                                  omega
  have h9:q - 1≤X / Y:=(Int.le_ediv_iff_mul_le hY0).2 h8
  omega
theorem zvj {p X Y X3 Y2 xl yl Q:Int} (hp:0 < p) (hX:X=xl+p * X3) (hxl:0≤xl∧xl < p) (hY:Y=yl+p * Y2) (hyl:0≤yl) (hQ0:0≤Q) (hQ:Q * Y≤X):Q * Y2≤X3:=by
  have h1:0≤Q * yl:=Int.mul_nonneg hQ0 hyl
  have h2:Q * Y=Q * yl+p * (Q * Y2):=by rw[hY]; grind
  have h3:p * (Q * Y2) < p * (X3+1):=by
    have:p * (X3+1)=p * X3+p:=by grind
    omega
  have:=Int.lt_of_mul_lt_mul_left h3 (by omega)
  omega
end Go.Di
namespace Go.Di
theorem zdh (x:List Int) {k:Nat} (h:k≤x.length):nv x=nv (x.take k)+bp k * nv (x.drop k):=by
  have:=zkL (x.take k) (x.drop k)
  rw[List.take_append_drop,List.length_take,Nat.min_eq_left h] at this
  exact this
theorem zpz {x x':List Int} {k:Nat} (h:∀ p,p < k→x'[p]? = x[p]?):x'.take k=x.take k:=by
  apply List.ext_getElem?
  intro p
  by_cases hp:p < k
  · rw[List.getElem?_take_of_lt hp,List.getElem?_take_of_lt hp,h p hp]
  · rw[List.getElem?_eq_none (by simp; omega),List.getElem?_eq_none (by simp; omega)]
theorem zoK {x:List Int} (h:∀ p,p < x.length→x[p]? = some 0):nv x=0:=by
  have:x=List.replicate x.length 0:=by
    apply List.ext_getElem?
    intro p
    by_cases hp:p < x.length
    · rw[h p hp]; simp[hp]
    · rw[List.getElem?_eq_none (by omega),List.getElem?_eq_none (by simp; omega)]
  rw[this,zmH]
end Go.Di
namespace Go.Di
theorem zA0 {x:List Int} {k n:Nat} (hx:Dig x) (hn:2≤n) (hkn:k+n < x.length) (hz:∀ p,k+n < p→p < x.length→x[p]? = some 0) :
    ∃ xl,0≤xl∧xl < bp (n - 2)∧nv (x.drop k)=xl+bp (n - 2) * ((x[k+n] * 1000000000+x[k+n - 1]) * 1000000000+x[k+n - 2]):=by
  refine ⟨nv ((x.drop k).take (n - 2)),?_,?_,?_⟩
  · exact zaP ((hx.drop k).take _)
  · exact (zk8 (hx.drop k) (by rw[List.length_drop]; omega)).2
  · rw [zdh (x.drop k) (k:=n - 2) (by rw[List.length_drop]; omega),List.drop_drop,show k+(n - 2)=k+n - 2 by omega]
    rw[zde (show k+n - 2 < x.length by omega),show k+n - 2+1=k+n - 1 by omega,zde (show k+n - 1 < x.length by omega),show k+n - 1+1=k+n by omega,zde hkn]
    have h0:nv (x.drop (k+n+1))=0:=zoK fun p hp=>by
      rw[List.length_drop] at hp
      rw[List.getElem?_drop]; exact hz _ (by omega) (by omega)
    rw[h0]
    generalize x[k+n]=a
    generalize x[k+n - 1]=b
    generalize x[k+n - 2]=c
    grind
theorem zKZ {y:List Int} (hy:Dig y) (hn:2≤y.length) :
    ∃ yl,0≤yl∧yl < bp (y.length - 2)∧nv y=yl+bp (y.length - 2) * (y[y.length - 1] * 1000000000+y[y.length - 2]):=by
  refine ⟨nv (y.take (y.length - 2)),zaP (hy.take _),(zk8 hy (by omega)).2,?_⟩
  rw[zdh y (k:=y.length - 2) (by omega),zde (show y.length - 2 < y.length by omega),show y.length - 2+1=y.length - 1 by omega,zde (show y.length - 1 < y.length by omega),List.drop_of_length_le (by omega)]
  have h:=hy
  simp only[nv]
  have e:nv (y.take (y.length - 2))=nv (y.take (y.length - 2)):=rfl
  generalize y[y.length - 1]=a
  generalize y[y.length - 2]=b
  grind
end Go.Di
namespace Go.Di
structure RoundI (y:List Int) (L:Nat) (V:Int) (k:Nat) (x out:List Int):Prop where
  xlen:x.length=L
  olen:out.length+y.length=L
  xd:Dig x
  od:Dig out
  zero:∀ p,k+y.length≤p→p < L→x[p]? = some 0
  lt:nv (x.drop k) < nv y
  val:V=nv x+bp k * (nv y * nv (out.drop k))
theorem RoundI.mk' {y x x' out:List Int} {L k:Nat} {V q:Int} (h:RoundI y L V (k+1) x out) (hk:k < out.length) (hlen:x'.length=L) (hd:Dig x') (hlow:∀ p,p < k→x'[p]? = x[p]?) (hz:∀ p,k+y.length≤p→p < L→x'[p]? = some 0)
    (hq:0≤q∧q < 1000000000) (hw:nv (x'.drop k)=nv (x.drop k) - q * nv y) (hlt:nv (x'.drop k) < nv y):RoundI y L V k x' (out.set k q):=by
  refine ⟨hlen,by simp[h.olen],hd,h.od.set k hq,hz,hlt,?_⟩
  have hkx:k≤x.length:=by rw[h.xlen]; have:=h.olen; omega
  have e1:=zdh x hkx
  have e2:=zdh x' (k:=k) (by rw[hlen]; have:=h.olen; omega)
  rw[zpz hlow] at e2
  have e3:=zde (a:=out.set k q) (i:=k) (by simp; exact hk)
  have e4:(out.set k q).drop (k+1)=out.drop (k+1):=by rw[List.drop_set_of_lt (by omega)]
  have e5:(out.set k q)[k]'(by simp; exact hk)=q:=by simp
  rw[e4,e5] at e3
  have hv:=h.val
  rw[e3,e2,hw]
  rw[e1,zek] at hv
  rw[hv]
  generalize nv (x.take k)=a
  generalize nv (x.drop k)=b
  generalize nv (out.drop (k+1))=o
  generalize nv y=z
  generalize bp k=p
  grind
end Go.Di
namespace Go.Di
theorem zMQ {n:Nat} (h:1≤n) {y:List Int} (hy:Dig y) (hl:y.length=n) {t:Int} (ht:y[n - 1]? = some t) (h5:1≤t):bp (n - 1)≤nv y:=by
  have hlt:n - 1 < y.length:=by omega
  have e:=zdh y (k:=n - 1) (by omega)
  rw[zde hlt,show n - 1+1=n by omega,List.drop_of_length_le (by omega)] at e
  rw[List.getElem?_eq_getElem hlt] at ht
  have ht:y[n - 1]=t:=by simpa using ht
  rw[ht] at e
  have h0:=zaP (hy.take (n - 1))
  have hp:=zfg (n - 1)
  have:bp (n - 1) * 1≤bp (n - 1) * t:=Int.mul_le_mul_of_nonneg_left h5 (by omega)
  simp only[nv,Int.mul_zero,Int.add_zero] at e
  omega
end Go.Di
