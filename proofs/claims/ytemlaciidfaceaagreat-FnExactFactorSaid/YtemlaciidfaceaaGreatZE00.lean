/-
  Own work: part 5 of the texts that the proof of the given statement leans on.
-/
import Derived.Laws.Strings
import Derived.Test.YtemlaciidfaceaaGreatZD03
noncomputable section
namespace Go.Di
def zaM (l:List Int):Option (List Int) :=
  (zal (Nat.ble l.length zar)).bind fun _ =>
  some l
def zdx (n:Int) (lo:Int) (hi:Int):Option Bool :=
  cond (decide (n ≥ lo))
    (some (decide (n≤hi)))
    (some false)
end Go.Di
namespace Go.Di
def zgw:Int × (List Int) × Unit→Option ((Int × (List Int) × Unit) ⊕ ((List Int) × Unit)):=fun (n,out,_) =>
  cond (decide (n > 0))
    ((zal (Nat.ble (out.length+1) zar)).bind fun _ =>
    some (.inl (IntKind.i64.wrap (n.tdiv 1000000000),out++([n.tmod 1000000000]:List Int),())))
    (some (.inr (out,())))
def znL (n:Int) (out:List Int):Option ((List Int) × Unit):=whileO zgw (n,out,())
def zfh (n:Int):Option (List Int) :=
  (znL n ([]:List Int)).bind fun (out,_) =>
  some out
def zdh:(List Int) × Int × Int × Unit→Option (((List Int) × Int × Int × Unit) ⊕ ((Bool × Unit) ⊕ (Unit))):=fun (t,t1,t2,_) =>
  cond (decide (t2 < t1))
    ((idx t t2).bind fun e =>
    cond (decide (e < 0))
      (some (.inr (.inl (false,()))))
      (cond (decide (e ≥ 1000000000))
        (some (.inr (.inl (false,()))))
        (some (.inl (t,t1,IntKind.i64.wrap (t2+1),())))))
    (some (.inr (.inr (()))))
def ze8 (t:List Int) (t1:Int) (t2:Int):Option ((Bool × Unit) ⊕ (Unit)):=whileO zdh (t,t1,t2,())
def zfg (a:List Int):Option Bool :=
  cond (decide ((a.length:Int) > 60))
    (some false)
    (cond (decide ((a.length:Int) > 0))
      ((idx a (IntKind.i64.wrap ((a.length:Int) - 1))).bind fun e =>
      cond (e==0)
        (some false)
        ((ze8 a (a.length:Int) 0).bind fun r =>
        match r with
        | .inl (t,_) =>
          some t
        | .inr _ =>
          some true))
      ((ze8 a (a.length:Int) 0).bind fun r =>
      match r with
      | .inl (t,_) =>
        some t
      | .inr _ =>
        some true))
def zcN:Int × (List Int) × Unit→Option ((Int × (List Int) × Unit) ⊕ (Int × (List Int) × Unit)):=fun (n,a,_) =>
  cond (decide (n > 0))
    ((idx a (IntKind.i64.wrap (n - 1))).bind fun _ =>
    (a[(IntKind.i64.wrap (n - 1)).toNat]?).bind fun e =>
    cond (e==0)
      (some (.inl (IntKind.i64.wrap (n - 1),a,())))
      (some (.inr (n,a,()))))
    (some (.inr (n,a,())))
def zii (n:Int) (a:List Int):Option (Int × (List Int) × Unit):=whileO zcN (n,a,())
def zcz (a:List Int):Option (List Int) :=
  (zii (a.length:Int) a).bind fun (n,a1,_) =>
  (zal (inside a1.length (0,n))).bind fun _ =>
  some (a1.take n.toNat)
def zcV:(List Int) × Int × Int × Int × (List Int) × Unit→Option (((List Int) × Int × Int × Int × (List Int) × Unit) ⊕ (Int × (List Int) × Unit)):=fun (a,d,rest,i,out,_) =>
  cond (decide (i ≥ 0))
    ((idx a i).bind fun e =>
    (zal (d != 0)).bind fun _ =>
    (idx out i).bind fun _ =>
    (zal (d != 0)).bind fun _ =>
    some (.inl (a,d,(IntKind.i64.wrap ((IntKind.i64.wrap (rest * 1000000000))+e)).tmod d,IntKind.i64.wrap (i - 1),out.set i.toNat (IntKind.i64.wrap ((IntKind.i64.wrap ((IntKind.i64.wrap (rest * 1000000000))+e)).tdiv d)),())))
    (some (.inr (rest,out,())))
def zg4 (a:List Int) (d:Int) (rest:Int) (i:Int) (out:List Int):Option (Int × (List Int) × Unit):=whileO zcV (a,d,rest,i,out,())
def zdD (a:List Int) (d:Int):Option (List Int × List Int) :=
  (zal (((decide (0≤(a.length:Int))) && (decide ((a.length:Int)≤(a.length:Int)))) && (decide ((a.length:Int)≤(zar:Int))))).bind fun _ =>
  (zg4 a d 0 (IntKind.i64.wrap ((a.length:Int) - 1)) (List.replicate ((a.length:Int).toNat) 0:List Int)).bind fun (rest,out,_) =>
  (zcz out).bind fun r =>
  (zfh rest).bind fun r1 =>
  some (r,r1)
def zbG:(List Int) × (List Int) × Int × Int × Int × (List Int) × Unit→Option (((List Int) × (List Int) × Int × Int × Int × (List Int) × Unit) ⊕ (Int × (List Int) × Unit)):=fun (a,b,carry,t,t1,out,_) =>
  cond (decide (t1 < t))
    ((idx a t1).bind fun e =>
    cond (decide (t1 < (b.length:Int)))
      ((idx b t1).bind fun e1 =>
      cond (decide ((IntKind.i64.wrap ((IntKind.i64.wrap (e+carry))+e1)) ≥ 1000000000))
        ((zal (Nat.ble (out.length+1) zar)).bind fun _ =>
        some (.inl (a,b,1,t,IntKind.i64.wrap (t1+1),out++([IntKind.i64.wrap ((IntKind.i64.wrap ((IntKind.i64.wrap (e+carry))+e1)) - 1000000000)]:List Int),())))
        ((zal (Nat.ble (out.length+1) zar)).bind fun _ =>
        some (.inl (a,b,0,t,IntKind.i64.wrap (t1+1),out++([IntKind.i64.wrap ((IntKind.i64.wrap (e+carry))+e1)]:List Int),()))))
      (cond (decide ((IntKind.i64.wrap (e+carry)) ≥ 1000000000))
        ((zal (Nat.ble (out.length+1) zar)).bind fun _ =>
        some (.inl (a,b,1,t,IntKind.i64.wrap (t1+1),out++([IntKind.i64.wrap ((IntKind.i64.wrap (e+carry)) - 1000000000)]:List Int),())))
        ((zal (Nat.ble (out.length+1) zar)).bind fun _ =>
        some (.inl (a,b,0,t,IntKind.i64.wrap (t1+1),out++([IntKind.i64.wrap (e+carry)]:List Int),())))))
    (some (.inr (carry,out,())))
def zdG (a:List Int) (b:List Int) (carry:Int) (t:Int) (t1:Int) (out:List Int):Option (Int × (List Int) × Unit):=whileO zbG (a,b,carry,t,t1,out,())
def zeI (a:List Int) (b:List Int):Option (List Int) :=
  cond (decide ((a.length:Int) < (b.length:Int)))
    ((zal ((decide (0≤(IntKind.i64.wrap ((b.length:Int)+1)))) && (decide ((IntKind.i64.wrap ((b.length:Int)+1))≤(zar:Int))))).bind fun _ =>
    (zdG b a 0 (b.length:Int) 0 (List.replicate 0 0:List Int)).bind fun (carry,out,_) =>
    cond (decide (carry > 0))
      ((zal (Nat.ble (out.length+1) zar)).bind fun _ =>
      some (out++([1]:List Int)))
      (some out))
    ((zal ((decide (0≤(IntKind.i64.wrap ((a.length:Int)+1)))) && (decide ((IntKind.i64.wrap ((a.length:Int)+1))≤(zar:Int))))).bind fun _ =>
    (zdG a b 0 (a.length:Int) 0 (List.replicate 0 0:List Int)).bind fun (carry,out,_) =>
    cond (decide (carry > 0))
      ((zal (Nat.ble (out.length+1) zar)).bind fun _ =>
      some (out++([1]:List Int)))
      (some out))
def zcU:(List Int) × (List Int) × Int × Unit→Option (((List Int) × (List Int) × Int × Unit) ⊕ ((Int × Unit) ⊕ (Unit))):=fun (a,b,i,_) =>
  cond (decide (i ≥ 0))
    ((idx a i).bind fun e =>
    (idx b i).bind fun e1 =>
    cond (decide (e < e1))
      (some (.inr (.inl ((-1),()))))
      ((idx a i).bind fun e2 =>
      (idx b i).bind fun e3 =>
      cond (decide (e2 > e3))
        (some (.inr (.inl (1,()))))
        (some (.inl (a,b,IntKind.i64.wrap (i - 1),())))))
    (some (.inr (.inr (()))))
def zio (a:List Int) (b:List Int) (i:Int):Option ((Int × Unit) ⊕ (Unit)):=whileO zcU (a,b,i,())
def zeH (a:List Int) (b:List Int):Option Int :=
  cond ((a.length:Int) != (b.length:Int))
    (cond (decide ((a.length:Int) < (b.length:Int)))
      (some (-1))
      (some 1))
    ((zio a b (IntKind.i64.wrap ((a.length:Int) - 1))).bind fun r =>
    match r with
    | .inl (t,_) =>
      some t
    | .inr _ =>
      some 0)
def zer:(List Int) × Int × Int × Int × (List Int) × Int × Int × (List Int) × Int × Int × (List Int) × Unit→Option (((List Int) × Int × Int × Int × (List Int) × Int × Int × (List Int) × Int × Int × (List Int) × Unit) ⊕ ((List Int) × Int × Int × (List Int) × Int × Int × (List Int) × Unit)):=fun (b,i,x,carry,t,t1,t2,t3,t4,t5,out,_) =>
  cond (decide (t5 < t4))
    ((idx t3 t5).bind fun e =>
    (idx out (IntKind.i64.wrap (i+t5))).bind fun _ =>
    (out[(IntKind.i64.wrap (i+t5)).toNat]?).bind fun e1 =>
    (idx out (IntKind.i64.wrap (i+t5))).bind fun _ =>
    some (.inl (b,i,x,IntKind.i64.wrap ((IntKind.i64.wrap ((IntKind.i64.wrap (e1+(IntKind.i64.wrap (x * e))))+carry)).tdiv 1000000000),t,t1,t2,t3,t4,IntKind.i64.wrap (t5+1),out.set ((IntKind.i64.wrap (i+t5)).toNat) ((IntKind.i64.wrap ((IntKind.i64.wrap (e1+(IntKind.i64.wrap (x * e))))+carry)).tmod 1000000000),())))
    (some (.inr (b,i,carry,t,t1,t2,out,())))
def zik (b:List Int) (i:Int) (x:Int) (carry:Int) (t:List Int) (t1:Int) (t2:Int) (t3:List Int) (t4:Int) (t5:Int) (out:List Int):Option ((List Int) × Int × Int × (List Int) × Int × Int × (List Int) × Unit):=whileO zer (b,i,x,carry,t,t1,t2,t3,t4,t5,out,())
def zcO:(List Int) × (List Int) × Int × Int × (List Int) × Unit→Option (((List Int) × (List Int) × Int × Int × (List Int) × Unit) ⊕ ((List Int) × Unit)):=fun (b,t,t1,t2,out,_) =>
  cond (decide (t2 < t1))
    ((idx t t2).bind fun e =>
    (zik b t2 e 0 t t1 t2 b (b.length:Int) 0 out).bind fun (b1,i,carry,t3,t4,t5,out1,_) =>
    (idx out1 (IntKind.i64.wrap (i+(b1.length:Int)))).bind fun _ =>
    (out1[(IntKind.i64.wrap (i+(b1.length:Int))).toNat]?).bind fun e1 =>
    (idx out1 (IntKind.i64.wrap (i+(b1.length:Int)))).bind fun _ =>
    some (.inl (b1,t3,t4,IntKind.i64.wrap (t5+1),out1.set ((IntKind.i64.wrap (i+(b1.length:Int))).toNat) (IntKind.i64.wrap (e1+carry)),())))
    (some (.inr (out,())))
def zil (b:List Int) (t:List Int) (t1:Int) (t2:Int) (out:List Int):Option ((List Int) × Unit):=whileO zcO (b,t,t1,t2,out,())
def zbg (a:List Int) (b:List Int):Option (List Int) :=
  (zal (((decide (0≤(IntKind.i64.wrap ((a.length:Int)+(b.length:Int))))) && (decide ((IntKind.i64.wrap ((a.length:Int)+(b.length:Int)))≤(IntKind.i64.wrap ((a.length:Int)+(b.length:Int)))))) && (decide ((IntKind.i64.wrap ((a.length:Int)+(b.length:Int)))≤(zar:Int))))).bind fun _ =>
  (zil b a (a.length:Int) 0 (List.replicate ((IntKind.i64.wrap ((a.length:Int)+(b.length:Int))).toNat) 0:List Int)).bind fun (out,_) =>
  (zcz out).bind fun r =>
  some r
def zcQ:Int × Int × Int × Int × Int × Int × Int × Int × (List Int) × (List Int) × (List Int) × Unit→Option ((Int × Int × Int × Int × Int × Int × Int × Int × (List Int) × (List Int) × (List Int) × Unit) ⊕ (Int × Int × Int × Int × Int × Int × (List Int) × (List Int) × (List Int) × Unit)):=fun (f,n,top,k,q,carry,t,t1,x,y,out,_) =>
  cond (decide (t1 < t))
    ((idx x (IntKind.i64.wrap (k+t1))).bind fun _ =>
    (x[(IntKind.i64.wrap (k+t1)).toNat]?).bind fun e =>
    (idx y t1).bind fun _ =>
    (y[t1.toNat]?).bind fun e1 =>
    cond (decide ((IntKind.i64.wrap ((IntKind.i64.wrap (e+e1))+carry)) ≥ 1000000000))
      ((idx x (IntKind.i64.wrap (k+t1))).bind fun _ =>
      some (.inl (f,n,top,k,q,1,t,IntKind.i64.wrap (t1+1),x.set ((IntKind.i64.wrap (k+t1)).toNat) (IntKind.i64.wrap ((IntKind.i64.wrap ((IntKind.i64.wrap (e+e1))+carry)) - 1000000000)),y,out,())))
      ((idx x (IntKind.i64.wrap (k+t1))).bind fun _ =>
      some (.inl (f,n,top,k,q,0,t,IntKind.i64.wrap (t1+1),x.set ((IntKind.i64.wrap (k+t1)).toNat) (IntKind.i64.wrap ((IntKind.i64.wrap (e+e1))+carry)),y,out,()))))
    (some (.inr (f,n,top,k,q,carry,x,y,out,())))
def zf7 (f:Int) (n:Int) (top:Int) (k:Int) (q:Int) (carry:Int) (t:Int) (t1:Int) (x:List Int) (y:List Int) (out:List Int):Option (Int × Int × Int × Int × Int × Int × (List Int) × (List Int) × (List Int) × Unit):=whileO zcQ (f,n,top,k,q,carry,t,t1,x,y,out,())
def zcR:Int × Int × Int × Int × Int × Int × Int × Int × (List Int) × (List Int) × (List Int) × Unit→Option ((Int × Int × Int × Int × Int × Int × Int × Int × (List Int) × (List Int) × (List Int) × Unit) ⊕ (Int × Int × Int × Int × Int × Int × (List Int) × (List Int) × (List Int) × Unit)):=fun (f,n,top,k,q,borrow,t,t1,x,y,out,_) =>
  cond (decide (t1 < t))
    ((idx x (IntKind.i64.wrap (k+t1))).bind fun _ =>
    (x[(IntKind.i64.wrap (k+t1)).toNat]?).bind fun e =>
    (idx y t1).bind fun _ =>
    (y[t1.toNat]?).bind fun e1 =>
    cond (decide ((IntKind.i64.wrap ((IntKind.i64.wrap (e - (IntKind.i64.wrap (q * e1)))) - borrow)) < 0))
      ((idx x (IntKind.i64.wrap (k+t1))).bind fun _ =>
      some (.inl (f,n,top,k,q,IntKind.i64.wrap ((IntKind.i64.wrap (999999999 - (IntKind.i64.wrap ((IntKind.i64.wrap (e - (IntKind.i64.wrap (q * e1)))) - borrow)))).tdiv 1000000000),t,IntKind.i64.wrap (t1+1),x.set ((IntKind.i64.wrap (k+t1)).toNat) (IntKind.i64.wrap ((IntKind.i64.wrap ((IntKind.i64.wrap (e - (IntKind.i64.wrap (q * e1)))) - borrow))+(IntKind.i64.wrap ((IntKind.i64.wrap ((IntKind.i64.wrap (999999999 - (IntKind.i64.wrap ((IntKind.i64.wrap (e - (IntKind.i64.wrap (q * e1)))) - borrow)))).tdiv 1000000000)) * 1000000000)))),y,out,())))
      ((idx x (IntKind.i64.wrap (k+t1))).bind fun _ =>
      some (.inl (f,n,top,k,q,0,t,IntKind.i64.wrap (t1+1),x.set ((IntKind.i64.wrap (k+t1)).toNat) (IntKind.i64.wrap ((IntKind.i64.wrap (e - (IntKind.i64.wrap (q * e1)))) - borrow)),y,out,()))))
    (some (.inr (f,n,top,k,q,borrow,x,y,out,())))
def zf8 (f:Int) (n:Int) (top:Int) (k:Int) (q:Int) (borrow:Int) (t:Int) (t1:Int) (x:List Int) (y:List Int) (out:List Int):Option (Int × Int × Int × Int × Int × Int × (List Int) × (List Int) × (List Int) × Unit):=whileO zcR (f,n,top,k,q,borrow,t,t1,x,y,out,())
def zcS:Int × Int × Int × Int × Int × Int × (List Int) × (List Int) × (List Int) × Unit→Option ((Int × Int × Int × Int × Int × Int × (List Int) × (List Int) × (List Int) × Unit) ⊕ (Int × Int × Int × Int × Int × (List Int) × (List Int) × (List Int) × Unit)):=fun (f,n,top,k,q,r,x,y,out,_) =>
  cond (decide (q ≥ 1000000000))
    (cond (decide ((IntKind.i64.wrap (r+top)) ≥ 1000000000))
      (some (.inr (f,n,top,k,IntKind.i64.wrap (q - 1),x,y,out,())))
      (some (.inl (f,n,top,k,IntKind.i64.wrap (q - 1),IntKind.i64.wrap (r+top),x,y,out,()))))
    ((idx y (IntKind.i64.wrap (n - 2))).bind fun _ =>
    (y[(IntKind.i64.wrap (n - 2)).toNat]?).bind fun e =>
    (idx x (IntKind.i64.wrap ((IntKind.i64.wrap (k+n)) - 2))).bind fun _ =>
    (x[(IntKind.i64.wrap ((IntKind.i64.wrap (k+n)) - 2)).toNat]?).bind fun e1 =>
    cond (decide ((IntKind.i64.wrap (q * e)) > (IntKind.i64.wrap ((IntKind.i64.wrap (r * 1000000000))+e1))))
      (cond (decide ((IntKind.i64.wrap (r+top)) ≥ 1000000000))
        (some (.inr (f,n,top,k,IntKind.i64.wrap (q - 1),x,y,out,())))
        (some (.inl (f,n,top,k,IntKind.i64.wrap (q - 1),IntKind.i64.wrap (r+top),x,y,out,()))))
      (some (.inr (f,n,top,k,q,x,y,out,()))))
def zf9 (f:Int) (n:Int) (top:Int) (k:Int) (q:Int) (r:Int) (x:List Int) (y:List Int) (out:List Int):Option (Int × Int × Int × Int × Int × (List Int) × (List Int) × (List Int) × Unit):=whileO zcS (f,n,top,k,q,r,x,y,out,())
def zcc:Int × Int × Int × Int × (List Int) × (List Int) × (List Int) × Unit→Option ((Int × Int × Int × Int × (List Int) × (List Int) × (List Int) × Unit) ⊕ (Int × (List Int) × (List Int) × Unit)):=fun (f,n,top,k,x,y,out,_) =>
  cond (decide (k ≥ 0))
    ((idx x (IntKind.i64.wrap (k+n))).bind fun _ =>
    (x[(IntKind.i64.wrap (k+n)).toNat]?).bind fun e =>
    (idx x (IntKind.i64.wrap ((IntKind.i64.wrap (k+n)) - 1))).bind fun _ =>
    (x[(IntKind.i64.wrap ((IntKind.i64.wrap (k+n)) - 1)).toNat]?).bind fun e1 =>
    (zal (top != 0)).bind fun _ =>
    (zal (top != 0)).bind fun _ =>
    (zf9 f n top k (IntKind.i64.wrap ((IntKind.i64.wrap ((IntKind.i64.wrap (e * 1000000000))+e1)).tdiv top)) ((IntKind.i64.wrap ((IntKind.i64.wrap (e * 1000000000))+e1)).tmod top) x y out).bind fun (f1,n1,zaN,k1,q,x1,y1,out1,_) =>
    (zf8 f1 n1 zaN k1 q 0 n1 0 x1 y1 out1).bind fun (f2,n2,top2,k2,q1,borrow,x2,y2,out2,_) =>
    (idx x2 (IntKind.i64.wrap (k2+n2))).bind fun _ =>
    (x2[(IntKind.i64.wrap (k2+n2)).toNat]?).bind fun e2 =>
    (idx x2 (IntKind.i64.wrap (k2+n2))).bind fun _ =>
    (idx (x2.set ((IntKind.i64.wrap (k2+n2)).toNat) (IntKind.i64.wrap (e2 - borrow))) (IntKind.i64.wrap (k2+n2))).bind fun _ =>
    ((x2.set ((IntKind.i64.wrap (k2+n2)).toNat) (IntKind.i64.wrap (e2 - borrow)))[(IntKind.i64.wrap (k2+n2)).toNat]?).bind fun e3 =>
    cond (decide (e3 < 0))
      ((zf7 f2 n2 top2 k2 (IntKind.i64.wrap (q1 - 1)) 0 n2 0 (x2.set ((IntKind.i64.wrap (k2+n2)).toNat) (IntKind.i64.wrap (e2 - borrow))) y2 out2).bind fun (f3,n3,top3,k3,q2,carry,x3,y3,out3,_) =>
      (idx x3 (IntKind.i64.wrap (k3+n3))).bind fun _ =>
      (x3[(IntKind.i64.wrap (k3+n3)).toNat]?).bind fun e4 =>
      (idx x3 (IntKind.i64.wrap (k3+n3))).bind fun _ =>
      (idx out3 k3).bind fun _ =>
      some (.inl (f3,n3,top3,IntKind.i64.wrap (k3 - 1),x3.set ((IntKind.i64.wrap (k3+n3)).toNat) (IntKind.i64.wrap (e4+carry)),y3,out3.set k3.toNat q2,())))
      ((idx out2 k2).bind fun _ =>
      some (.inl (f2,n2,top2,IntKind.i64.wrap (k2 - 1),x2.set ((IntKind.i64.wrap (k2+n2)).toNat) (IntKind.i64.wrap (e2 - borrow)),y2,out2.set k2.toNat q1,()))))
    (some (.inr (f,x,out,())))
def zga (f:Int) (n:Int) (top:Int) (k:Int) (x:List Int) (y:List Int) (out:List Int):Option (Int × (List Int) × (List Int) × Unit):=whileO zcc (f,n,top,k,x,y,out,())
def zcT:(List Int) × Int × Int × (List Int) × (List Int) × Unit→Option (((List Int) × Int × Int × (List Int) × (List Int) × Unit) ⊕ (Int × Int × (List Int) × (List Int) × Unit)):=fun (a,f,n,x,y,_) =>
  cond (decide ((x.length:Int)≤(a.length:Int)))
    ((zal (Nat.ble (x.length+1) zar)).bind fun _ =>
    some (.inl (a,f,n,x++([0]:List Int),y,())))
    (some (.inr (f,n,x,y,())))
def zgb (a:List Int) (f:Int) (n:Int) (x:List Int) (y:List Int):Option (Int × Int × (List Int) × (List Int) × Unit):=whileO zcT (a,f,n,x,y,())
def zbA (a:List Int) (b:List Int):Option (List Int × List Int) :=
  (zeH a b).bind fun r =>
  cond (decide (r < 0))
    ((zaM a).bind fun r1 =>
    some (([]:List Int),r1))
    (cond ((b.length:Int)==1)
      ((idx b 0).bind fun e =>
      (zdD a e).bind fun (r0,r1) =>
      some (r0,r1))
      ((idx b (IntKind.i64.wrap ((b.length:Int) - 1))).bind fun e =>
      (zal ((IntKind.i64.wrap (e+1)) != 0)).bind fun _ =>
      (zbg a ([IntKind.i64.wrap ((1000000000:Int).tdiv (IntKind.i64.wrap (e+1)))]:List Int)).bind fun r1 =>
      (zbg b ([IntKind.i64.wrap ((1000000000:Int).tdiv (IntKind.i64.wrap (e+1)))]:List Int)).bind fun r2 =>
      (zgb a (IntKind.i64.wrap ((1000000000:Int).tdiv (IntKind.i64.wrap (e+1)))) (r2.length:Int) r1 r2).bind fun (f,n,x,y,_) =>
      (zal (((decide (0≤(IntKind.i64.wrap ((x.length:Int) - n)))) && (decide ((IntKind.i64.wrap ((x.length:Int) - n))≤(IntKind.i64.wrap ((x.length:Int) - n))))) && (decide ((IntKind.i64.wrap ((x.length:Int) - n))≤(zar:Int))))).bind fun _ =>
      (idx y (IntKind.i64.wrap (n - 1))).bind fun _ =>
      (y[(IntKind.i64.wrap (n - 1)).toNat]?).bind fun e1 =>
      (zga f n e1 (IntKind.i64.wrap ((IntKind.i64.wrap ((x.length:Int) - n)) - 1)) x y (List.replicate ((IntKind.i64.wrap ((x.length:Int) - n)).toNat) 0:List Int)).bind fun (f1,x1,out,_) =>
      (zcz x1).bind fun r3 =>
      (zdD r3 f1).bind fun (r0,_) =>
      (zcz out).bind fun r4 =>
      some (r4,r0)))
def zcP:Int × Int × Unit→Option ((Int × Int × Unit) ⊕ (Int × Unit)):=fun (x,y,_) =>
  cond (y != 0)
    ((zal (y != 0)).bind fun _ =>
    some (.inl (y,x.tmod y,())))
    (some (.inr (x,())))
def zim (x:Int) (y:Int):Option (Int × Unit):=whileO zcP (x,y,())
def zbF:(List Int) × (List Int) × Unit→Option (((List Int) × (List Int) × Unit) ⊕ ((List Int) × (List Int) × Unit)):=fun (a,b,_) =>
  cond (decide ((b.length:Int) > 1))
    ((zbA a b).bind fun (_,r1) =>
    some (.inl (b,r1,())))
    (cond (decide ((a.length:Int) > 1))
      (cond (decide ((b.length:Int) > 0))
        ((zbA a b).bind fun (_,r1) =>
        some (.inl (b,r1,())))
        (some (.inr (a,b,()))))
      (some (.inr (a,b,()))))
def zin (a:List Int) (b:List Int):Option ((List Int) × (List Int) × Unit):=whileO zbF (a,b,())
def zdS (a:List Int) (b:List Int):Option (List Int) :=
  (zin a b).bind fun (a1,b1,_) =>
  cond ((b1.length:Int)==0)
    ((zaM a1).bind fun r =>
    some r)
    ((idx a1 0).bind fun e =>
    (idx b1 0).bind fun e1 =>
    (zim e e1).bind fun (x,_) =>
    some ([x]:List Int))
def zbE:(List Int) × Int × Int × Int × (List Int) × Unit→Option (((List Int) × Int × Int × Int × (List Int) × Unit) ⊕ ((List Int) × Unit)):=fun (b,borrow,t,t1,out,_) =>
  cond (decide (t1 < t))
    ((idx out t1).bind fun _ =>
    (out[t1.toNat]?).bind fun e =>
    cond (decide (t1 < (b.length:Int)))
      ((idx b t1).bind fun e1 =>
      cond (decide ((IntKind.i64.wrap ((IntKind.i64.wrap (e - borrow)) - e1)) < 0))
        ((idx out t1).bind fun _ =>
        some (.inl (b,1,t,IntKind.i64.wrap (t1+1),out.set t1.toNat (IntKind.i64.wrap ((IntKind.i64.wrap ((IntKind.i64.wrap (e - borrow)) - e1))+1000000000)),())))
        ((idx out t1).bind fun _ =>
        some (.inl (b,0,t,IntKind.i64.wrap (t1+1),out.set t1.toNat (IntKind.i64.wrap ((IntKind.i64.wrap (e - borrow)) - e1)),()))))
      (cond (decide ((IntKind.i64.wrap (e - borrow)) < 0))
        ((idx out t1).bind fun _ =>
        some (.inl (b,1,t,IntKind.i64.wrap (t1+1),out.set t1.toNat (IntKind.i64.wrap ((IntKind.i64.wrap (e - borrow))+1000000000)),())))
        ((idx out t1).bind fun _ =>
        some (.inl (b,0,t,IntKind.i64.wrap (t1+1),out.set t1.toNat (IntKind.i64.wrap (e - borrow)),())))))
    (some (.inr (out,())))
def zij (b:List Int) (borrow:Int) (t:Int) (t1:Int) (out:List Int):Option ((List Int) × Unit):=whileO zbE (b,borrow,t,t1,out,())
def zeG (a:List Int) (b:List Int):Option (List Int) :=
  (zaM a).bind fun r =>
  (zij b 0 (r.length:Int) 0 r).bind fun (out,_) =>
  (zcz out).bind fun r1 =>
  some r1
def zdg:(List Int) × (List Int) × Int × Int × Unit→Option (((List Int) × (List Int) × Int × Int × Unit) ⊕ ((Bool × Unit) ⊕ ((List Int) × Unit))):=fun (a,t,t1,t2,_) =>
  cond (decide (t2 < t1))
    ((idx t t2).bind fun e =>
    (zdx e 0 999999999).bind fun r =>
    cond (!r)
      (some (.inr (.inl (false,()))))
      (some (.inl (a,t,t1,IntKind.i64.wrap (t2+1),()))))
    (some (.inr (.inr (a,()))))
def zjM (a:List Int) (t:List Int) (t1:Int) (t2:Int):Option ((Bool × Unit) ⊕ ((List Int) × Unit)):=whileO zdg (a,t,t1,t2,())
def zed (a:List Int):Option Bool :=
  (zjM a a (a.length:Int) 0).bind fun r =>
  match r with
  | .inl (t,_) =>
    some t
  | .inr (a1,_) =>
    cond (decide ((a1.length:Int)≤60))
      (cond ((a1.length:Int)==0)
        (some true)
        ((idx a1 (IntKind.i64.wrap ((a1.length:Int) - 1))).bind fun e =>
        some (e != 0)))
      (some false)
def zcD:Int × (List Int) × Unit→Option ((Int × (List Int) × Unit) ⊕ ((List Int) × Unit)):=fun (n,out,_) =>
  cond (decide (n > 0))
    ((zal (Nat.ble (out.length+1) zar)).bind fun _ =>
    some (.inl (IntKind.i64.wrap (n.tdiv 1000000000),out++([n.tmod 1000000000]:List Int),())))
    (some (.inr (out,())))
def zjN (n:Int) (out:List Int):Option ((List Int) × Unit):=whileO zcD (n,out,())
def zcv (n:Int):Option (List Int) :=
  (zjN n ([]:List Int)).bind fun (out,_) =>
  some out
def zcL:(List Int) × (List Int) × Int × Unit→Option (((List Int) × (List Int) × Int × Unit) ⊕ ((Int × Unit) ⊕ (Unit))):=fun (a,b,i,_) =>
  cond (decide (i ≥ 0))
    ((idx a i).bind fun e =>
    (idx b i).bind fun e1 =>
    cond (decide (e < e1))
      (some (.inr (.inl ((-1),()))))
      ((idx a i).bind fun e2 =>
      (idx b i).bind fun e3 =>
      cond (decide (e2 > e3))
        (some (.inr (.inl (1,()))))
        (some (.inl (a,b,IntKind.i64.wrap (i - 1),())))))
    (some (.inr (.inr (()))))
def zic (a:List Int) (b:List Int) (i:Int):Option ((Int × Unit) ⊕ (Unit)):=whileO zcL (a,b,i,())
def zdc (a:List Int) (b:List Int):Option Int :=
  cond ((a.length:Int) != (b.length:Int))
    (cond (decide ((a.length:Int) < (b.length:Int)))
      (some (-1))
      (some 1))
    ((zic a b (IntKind.i64.wrap ((a.length:Int) - 1))).bind fun r =>
    match r with
    | .inl (t,_) =>
      some t
    | .inr _ =>
      some 0)
def zb1:(List Int) × Int × Int × Unit→Option (((List Int) × Int × Int × Unit) ⊕ (Int × Unit)):=fun (a,n,i,_) =>
  cond (decide (i ≥ 0))
    ((idx a i).bind fun e =>
    some (.inl (a,IntKind.i64.wrap ((IntKind.i64.wrap (n * 1000000000))+e),IntKind.i64.wrap (i - 1),())))
    (some (.inr (n,())))
def zgZ (a:List Int) (n:Int) (i:Int):Option (Int × Unit):=whileO zb1 (a,n,i,())
def zdy (a:List Int):Option (Int × Bool) :=
  (zed a).bind fun r =>
  cond (!r)
    (some (0,false))
    ((zdc a ([854775807,223372036,9]:List Int)).bind fun r1 =>
    cond (decide (r1 > 0))
      (some (0,false))
      ((zgZ a 0 (IntKind.i64.wrap ((a.length:Int) - 1))).bind fun (n,_) =>
      some (n,true)))
def zbI:Int × (List Int) × Unit→Option ((Int × (List Int) × Unit) ⊕ (Int × (List Int) × Unit)):=fun (n,a,_) =>
  cond (decide (n > 0))
    ((idx a (IntKind.i64.wrap (n - 1))).bind fun _ =>
    (a[(IntKind.i64.wrap (n - 1)).toNat]?).bind fun e =>
    cond (e==0)
      (some (.inl (IntKind.i64.wrap (n - 1),a,())))
      (some (.inr (n,a,()))))
    (some (.inr (n,a,())))
def zgr (n:Int) (a:List Int):Option (Int × (List Int) × Unit):=whileO zbI (n,a,())
def zbo (a:List Int):Option (List Int) :=
  (zgr (a.length:Int) a).bind fun (n,a1,_) =>
  (zal (inside a1.length (0,n))).bind fun _ =>
  some (a1.take n.toNat)
def zaV:(List Int) × (List Int) × Int × Int × (List Int) × Unit→Option (((List Int) × (List Int) × Int × Int × (List Int) × Unit) ⊕ ((List Int) × Unit)):=fun (a,b,carry,i,out,_) =>
  cond (decide (i < (a.length:Int)))
    (cond (decide (i < (a.length:Int)))
      ((idx a i).bind fun e =>
      cond (decide (i < (b.length:Int)))
        ((idx b i).bind fun e1 =>
        (zal (Nat.ble (out.length+1) zar)).bind fun _ =>
        some (.inl (a,b,IntKind.i64.wrap ((IntKind.i64.wrap ((IntKind.i64.wrap (carry+e))+e1)).tdiv 1000000000),IntKind.i64.wrap (i+1),out++([(IntKind.i64.wrap ((IntKind.i64.wrap (carry+e))+e1)).tmod 1000000000]:List Int),())))
        ((zal (Nat.ble (out.length+1) zar)).bind fun _ =>
        some (.inl (a,b,IntKind.i64.wrap ((IntKind.i64.wrap (carry+e)).tdiv 1000000000),IntKind.i64.wrap (i+1),out++([(IntKind.i64.wrap (carry+e)).tmod 1000000000]:List Int),()))))
      (cond (decide (i < (b.length:Int)))
        ((idx b i).bind fun e =>
        (zal (Nat.ble (out.length+1) zar)).bind fun _ =>
        some (.inl (a,b,IntKind.i64.wrap ((IntKind.i64.wrap (carry+e)).tdiv 1000000000),IntKind.i64.wrap (i+1),out++([(IntKind.i64.wrap (carry+e)).tmod 1000000000]:List Int),())))
        ((zal (Nat.ble (out.length+1) zar)).bind fun _ =>
        some (.inl (a,b,IntKind.i64.wrap (carry.tdiv 1000000000),IntKind.i64.wrap (i+1),out++([carry.tmod 1000000000]:List Int),())))))
    (cond (decide (i < (b.length:Int)))
      (cond (decide (i < (a.length:Int)))
        ((idx a i).bind fun e =>
        cond (decide (i < (b.length:Int)))
          ((idx b i).bind fun e1 =>
          (zal (Nat.ble (out.length+1) zar)).bind fun _ =>
          some (.inl (a,b,IntKind.i64.wrap ((IntKind.i64.wrap ((IntKind.i64.wrap (carry+e))+e1)).tdiv 1000000000),IntKind.i64.wrap (i+1),out++([(IntKind.i64.wrap ((IntKind.i64.wrap (carry+e))+e1)).tmod 1000000000]:List Int),())))
          ((zal (Nat.ble (out.length+1) zar)).bind fun _ =>
          some (.inl (a,b,IntKind.i64.wrap ((IntKind.i64.wrap (carry+e)).tdiv 1000000000),IntKind.i64.wrap (i+1),out++([(IntKind.i64.wrap (carry+e)).tmod 1000000000]:List Int),()))))
        (cond (decide (i < (b.length:Int)))
          ((idx b i).bind fun e =>
          (zal (Nat.ble (out.length+1) zar)).bind fun _ =>
          some (.inl (a,b,IntKind.i64.wrap ((IntKind.i64.wrap (carry+e)).tdiv 1000000000),IntKind.i64.wrap (i+1),out++([(IntKind.i64.wrap (carry+e)).tmod 1000000000]:List Int),())))
          ((zal (Nat.ble (out.length+1) zar)).bind fun _ =>
          some (.inl (a,b,IntKind.i64.wrap (carry.tdiv 1000000000),IntKind.i64.wrap (i+1),out++([carry.tmod 1000000000]:List Int),())))))
      (cond (decide (carry > 0))
        (cond (decide (i < (a.length:Int)))
          ((idx a i).bind fun e =>
          cond (decide (i < (b.length:Int)))
            ((idx b i).bind fun e1 =>
            (zal (Nat.ble (out.length+1) zar)).bind fun _ =>
            some (.inl (a,b,IntKind.i64.wrap ((IntKind.i64.wrap ((IntKind.i64.wrap (carry+e))+e1)).tdiv 1000000000),IntKind.i64.wrap (i+1),out++([(IntKind.i64.wrap ((IntKind.i64.wrap (carry+e))+e1)).tmod 1000000000]:List Int),())))
            ((zal (Nat.ble (out.length+1) zar)).bind fun _ =>
            some (.inl (a,b,IntKind.i64.wrap ((IntKind.i64.wrap (carry+e)).tdiv 1000000000),IntKind.i64.wrap (i+1),out++([(IntKind.i64.wrap (carry+e)).tmod 1000000000]:List Int),()))))
          (cond (decide (i < (b.length:Int)))
            ((idx b i).bind fun e =>
            (zal (Nat.ble (out.length+1) zar)).bind fun _ =>
            some (.inl (a,b,IntKind.i64.wrap ((IntKind.i64.wrap (carry+e)).tdiv 1000000000),IntKind.i64.wrap (i+1),out++([(IntKind.i64.wrap (carry+e)).tmod 1000000000]:List Int),())))
            ((zal (Nat.ble (out.length+1) zar)).bind fun _ =>
            some (.inl (a,b,IntKind.i64.wrap (carry.tdiv 1000000000),IntKind.i64.wrap (i+1),out++([carry.tmod 1000000000]:List Int),())))))
        (some (.inr (out,())))))
def zid (a:List Int) (b:List Int) (carry:Int) (i:Int) (out:List Int):Option ((List Int) × Unit):=whileO zaV (a,b,carry,i,out,())
def zfA (a:List Int) (b:List Int):Option (List Int) :=
  (zid a b 0 0 ([]:List Int)).bind fun (out,_) =>
  some out
def zdf:(List Int) × Int × Unit→Option (((List Int) × Int × Unit) ⊕ ((List Int) × Int × Unit)):=fun (a,n,_) =>
  cond (decide (n > 0))
    ((idx a (IntKind.i64.wrap (n - 1))).bind fun e =>
    cond (e==0)
      (some (.inl (a,IntKind.i64.wrap (n - 1),())))
      (some (.inr (a,n,()))))
    (some (.inr (a,n,())))
def zfp (a:List Int) (n:Int):Option ((List Int) × Int × Unit):=whileO zdf (a,n,())
def zdi (a:List Int):Option (List Int) :=
  (zfp a (a.length:Int)).bind fun (a1,n,_) =>
  (zal (inside a1.length (0,n))).bind fun _ =>
  some (cut a1 0 n.toNat)
def zfz (a:List Int):Option (List Int) :=
  (zdi a).bind fun r =>
  cond (decide ((r.length:Int) > 60))
    (some ([]:List Int))
    (some r)
def zcJ:(List Int) × Int × Int × Int × (List Int) × Int × Int × (List Int) × Int × Int × (List Int) × Unit→Option (((List Int) × Int × Int × Int × (List Int) × Int × Int × (List Int) × Int × Int × (List Int) × Unit) ⊕ ((List Int) × Int × Int × (List Int) × Int × Int × (List Int) × Unit)):=fun (b,i,x,carry,t,t1,t2,t3,t4,t5,out,_) =>
  cond (decide (t5 < t4))
    ((idx t3 t5).bind fun e =>
    (idx out (IntKind.i64.wrap (i+t5))).bind fun _ =>
    (out[(IntKind.i64.wrap (i+t5)).toNat]?).bind fun e1 =>
    (idx out (IntKind.i64.wrap (i+t5))).bind fun _ =>
    some (.inl (b,i,x,IntKind.i64.wrap ((IntKind.i64.wrap ((IntKind.i64.wrap (e1+(IntKind.i64.wrap (x * e))))+carry)).tdiv 1000000000),t,t1,t2,t3,t4,IntKind.i64.wrap (t5+1),out.set ((IntKind.i64.wrap (i+t5)).toNat) ((IntKind.i64.wrap ((IntKind.i64.wrap (e1+(IntKind.i64.wrap (x * e))))+carry)).tmod 1000000000),())))
    (some (.inr (b,i,carry,t,t1,t2,out,())))
def zh8 (b:List Int) (i:Int) (x:Int) (carry:Int) (t:List Int) (t1:Int) (t2:Int) (t3:List Int) (t4:Int) (t5:Int) (out:List Int):Option ((List Int) × Int × Int × (List Int) × Int × Int × (List Int) × Unit):=whileO zcJ (b,i,x,carry,t,t1,t2,t3,t4,t5,out,())
def zcK:(List Int) × (List Int) × Int × Int × (List Int) × Unit→Option (((List Int) × (List Int) × Int × Int × (List Int) × Unit) ⊕ ((List Int) × Unit)):=fun (b,t,t1,t2,out,_) =>
  cond (decide (t2 < t1))
    ((idx t t2).bind fun e =>
    (zh8 b t2 e 0 t t1 t2 b (b.length:Int) 0 out).bind fun (b1,i,carry,t3,t4,t5,out1,_) =>
    (idx out1 (IntKind.i64.wrap (i+(b1.length:Int)))).bind fun _ =>
    some (.inl (b1,t3,t4,IntKind.i64.wrap (t5+1),out1.set ((IntKind.i64.wrap (i+(b1.length:Int))).toNat) carry,())))
    (some (.inr (out,())))
def zh9 (b:List Int) (t:List Int) (t1:Int) (t2:Int) (out:List Int):Option ((List Int) × Unit):=whileO zcK (b,t,t1,t2,out,())
def zas (a:List Int) (b:List Int):Option (List Int) :=
  cond ((a.length:Int)==0)
    (some ([]:List Int))
    (cond ((b.length:Int)==0)
      (some ([]:List Int))
      ((zal (((decide (0≤(IntKind.i64.wrap ((a.length:Int)+(b.length:Int))))) && (decide ((IntKind.i64.wrap ((a.length:Int)+(b.length:Int)))≤(IntKind.i64.wrap ((a.length:Int)+(b.length:Int)))))) && (decide ((IntKind.i64.wrap ((a.length:Int)+(b.length:Int)))≤(zar:Int))))).bind fun _ =>
      (zh9 b a (a.length:Int) 0 (List.replicate ((IntKind.i64.wrap ((a.length:Int)+(b.length:Int))).toNat) 0:List Int)).bind fun (out,_) =>
      (zbo out).bind fun r =>
      some r))
def zb0:(List Int) × (List Int) × Int × Int × Unit→Option (((List Int) × (List Int) × Int × Int × Unit) ⊕ (Int × Unit)):=fun (r,b,lo,hi,_) =>
  cond (decide (lo < hi))
    ((zcv (IntKind.i64.wrap ((IntKind.i64.wrap ((IntKind.i64.wrap (lo+hi))+1)).tdiv 2))).bind fun r1 =>
    (zas b r1).bind fun r2 =>
    (zdc r2 r).bind fun r3 =>
    cond (decide (r3≤0))
      (some (.inl (r,b,IntKind.i64.wrap ((IntKind.i64.wrap ((IntKind.i64.wrap (lo+hi))+1)).tdiv 2),hi,())))
      (some (.inl (r,b,lo,IntKind.i64.wrap ((IntKind.i64.wrap ((IntKind.i64.wrap ((IntKind.i64.wrap (lo+hi))+1)).tdiv 2)) - 1),()))))
    (some (.inr (lo,())))
def zgY (r:List Int) (b:List Int) (lo:Int) (hi:Int):Option (Int × Unit):=whileO zb0 (r,b,lo,hi,())
def zew (r:List Int) (b:List Int):Option Int :=
  (zgY r b 0 999999999).bind fun (lo,_) =>
  some lo
def zbs:(List Int) × Int × Int × Int × (List Int) × Unit→Option (((List Int) × Int × Int × Int × (List Int) × Unit) ⊕ (Int × (List Int) × Unit)):=fun (a,d,rest,i,out,_) =>
  cond (decide (i ≥ 0))
    ((idx a i).bind fun e =>
    (zal (d != 0)).bind fun _ =>
    (idx out i).bind fun _ =>
    (zal (d != 0)).bind fun _ =>
    some (.inl (a,d,(IntKind.i64.wrap ((IntKind.i64.wrap (rest * 1000000000))+e)).tmod d,IntKind.i64.wrap (i - 1),out.set i.toNat (IntKind.i64.wrap ((IntKind.i64.wrap ((IntKind.i64.wrap (rest * 1000000000))+e)).tdiv d)),())))
    (some (.inr (rest,out,())))
def zgW (a:List Int) (d:Int) (rest:Int) (i:Int) (out:List Int):Option (Int × (List Int) × Unit):=whileO zbs (a,d,rest,i,out,())
def zet (a:List Int) (d:Int):Option (List Int × Int) :=
  (zal (((decide (0≤(a.length:Int))) && (decide ((a.length:Int)≤(a.length:Int)))) && (decide ((a.length:Int)≤(zar:Int))))).bind fun _ =>
  (zgW a d 0 (IntKind.i64.wrap ((a.length:Int) - 1)) (List.replicate ((a.length:Int).toNat) 0:List Int)).bind fun (rest,out,_) =>
  (zbo out).bind fun r =>
  some (r,rest)
def zbC:(List Int) × (List Int) × Int × Int × Int × (List Int) × Unit→Option (((List Int) × (List Int) × Int × Int × Int × (List Int) × Unit) ⊕ ((List Int) × Unit)):=fun (a,b,less,t,t1,out,_) =>
  cond (decide (t1 < t))
    ((idx a t1).bind fun e =>
    cond (decide (t1 < (b.length:Int)))
      ((idx b t1).bind fun e1 =>
      cond (decide ((IntKind.i64.wrap ((IntKind.i64.wrap (e - less)) - e1)) < 0))
        ((zal (Nat.ble (out.length+1) zar)).bind fun _ =>
        some (.inl (a,b,1,t,IntKind.i64.wrap (t1+1),out++([IntKind.i64.wrap ((IntKind.i64.wrap ((IntKind.i64.wrap (e - less)) - e1))+1000000000)]:List Int),())))
        ((zal (Nat.ble (out.length+1) zar)).bind fun _ =>
        some (.inl (a,b,0,t,IntKind.i64.wrap (t1+1),out++([IntKind.i64.wrap ((IntKind.i64.wrap (e - less)) - e1)]:List Int),()))))
      (cond (decide ((IntKind.i64.wrap (e - less)) < 0))
        ((zal (Nat.ble (out.length+1) zar)).bind fun _ =>
        some (.inl (a,b,1,t,IntKind.i64.wrap (t1+1),out++([IntKind.i64.wrap ((IntKind.i64.wrap (e - less))+1000000000)]:List Int),())))
        ((zal (Nat.ble (out.length+1) zar)).bind fun _ =>
        some (.inl (a,b,0,t,IntKind.i64.wrap (t1+1),out++([IntKind.i64.wrap (e - less)]:List Int),())))))
    (some (.inr (out,())))
def zh7 (a:List Int) (b:List Int) (less:Int) (t:Int) (t1:Int) (out:List Int):Option ((List Int) × Unit):=whileO zbC (a,b,less,t,t1,out,())
def zdQ (a:List Int) (b:List Int):Option (List Int) :=
  (zh7 a b 0 (a.length:Int) 0 ([]:List Int)).bind fun (out,_) =>
  (zbo out).bind fun r =>
  some r
def zcb:(List Int) × (List Int) × Int × (List Int) × (List Int) × Unit→Option (((List Int) × (List Int) × Int × (List Int) × (List Int) × Unit) ⊕ ((List Int) × (List Int) × Unit)):=fun (a,b,i,out,rest,_) =>
  cond (decide (i ≥ 0))
    ((idx a i).bind fun e =>
    (zal (Nat.ble (1+rest.length) zar)).bind fun _ =>
    (zbo (([e]:List Int)++rest)).bind fun r =>
    (zdc r b).bind fun r1 =>
    cond (decide (r1 < 0))
      (some (.inl (a,b,IntKind.i64.wrap (i - 1),out,r,())))
      ((zew r b).bind fun r2 =>
      (idx out i).bind fun _ =>
      (zcv r2).bind fun r3 =>
      (zas b r3).bind fun r4 =>
      (zdQ r r4).bind fun r5 =>
      some (.inl (a,b,IntKind.i64.wrap (i - 1),out.set i.toNat r2,r5,()))))
    (some (.inr (out,rest,())))
def zib (a:List Int) (b:List Int) (i:Int) (out:List Int) (rest:List Int):Option ((List Int) × (List Int) × Unit):=whileO zcb (a,b,i,out,rest,())
def zdb (a:List Int) (b:List Int):Option (List Int × List Int) :=
  cond ((b.length:Int)==1)
    ((idx b 0).bind fun e =>
    (zet a e).bind fun (r0,r1) =>
    (zcv r1).bind fun r =>
    some (r0,r))
    ((zal (((decide (0≤(a.length:Int))) && (decide ((a.length:Int)≤(a.length:Int)))) && (decide ((a.length:Int)≤(zar:Int))))).bind fun _ =>
    (zib a b (IntKind.i64.wrap ((a.length:Int) - 1)) (List.replicate ((a.length:Int).toNat) 0:List Int) ([]:List Int)).bind fun (out,rest,_) =>
    (zbo out).bind fun r =>
    some (r,rest))
def zbZ:Int × Int × Unit→Option ((Int × Int × Unit) ⊕ (Int × Unit)):=fun (x,y,_) =>
  cond (decide (y > 0))
    ((zal (y != 0)).bind fun _ =>
    some (.inl (y,x.tmod y,())))
    (some (.inr (x,())))
def zgX (x:Int) (y:Int):Option (Int × Unit):=whileO zbZ (x,y,())
def zeu (x:Int) (y:Int):Option (List Int) :=
  (zgX x y).bind fun (x1,_) =>
  (zcv x1).bind fun r =>
  some r
def zbD:(List Int) × (List Int) × Unit→Option (((List Int) × (List Int) × Unit) ⊕ (((List Int) × Unit) ⊕ ((List Int) × Unit))):=fun (x,y,_) =>
  cond (decide ((y.length:Int) > 0))
    (cond (decide ((x.length:Int) < 3))
      (cond (decide ((y.length:Int) < 3))
        ((zdy x).bind fun (r0,_) =>
        (zdy y).bind fun (r0_1,_) =>
        (zeu r0 r0_1).bind fun r =>
        some (.inr (.inl (r,()))))
        ((zdb x y).bind fun (_,r1) =>
        some (.inl (y,r1,()))))
      ((zdb x y).bind fun (_,r1) =>
      some (.inl (y,r1,()))))
    (some (.inr (.inr (x,()))))
def zia (x:List Int) (y:List Int):Option (((List Int) × Unit) ⊕ ((List Int) × Unit)):=whileO zbD (x,y,())
def zev (a:List Int) (b:List Int):Option (List Int) :=
  (zal (Nat.ble a.length zar)).bind fun _ =>
  (zal (Nat.ble b.length zar)).bind fun _ =>
  (zia a b).bind fun r =>
  match r with
  | .inl (t,_) =>
    some t
  | .inr (x,_) =>
    some x
end Go.Di
namespace Go.Di
def zdv:(List Int) × (List Int) × Int × Unit→Option (((List Int) × (List Int) × Int × Unit) ⊕ ((Bool × Unit) ⊕ (Unit))):=fun (a,b,i,_) =>
  cond (decide (i < (a.length:Int)))
    ((idx a i).bind fun e =>
    (idx b i).bind fun e1 =>
    cond (e != e1)
      (some (.inr (.inl (false,()))))
      (some (.inl (a,b,IntKind.i64.wrap (i+1),()))))
    (some (.inr (.inr (()))))
def zih (a:List Int) (b:List Int) (i:Int):Option ((Bool × Unit) ⊕ (Unit)):=whileO zdv (a,b,i,())
def zeE (a:List Int) (b:List Int):Option Bool :=
  cond ((a.length:Int) != (b.length:Int))
    (some false)
    ((zih a b 0).bind fun r =>
    match r with
    | .inl (t,_) =>
      some t
    | .inr _ =>
      some true)
def zf5 (a:Bg) (b:Bg):Option Bool :=
  cond (!(a.neg==b.neg))
    (some false)
    ((zeE a.mag b.mag).bind fun r =>
    cond (!r)
      (some false)
      (some true))
def zgk (a:Rt) (b:Rt):Option Bool :=
  (zf5 (⟨a.neg,a.mag⟩:Bg) (⟨b.neg,b.mag⟩:Bg)).bind fun r =>
  cond (!r)
    (some false)
    ((zeE a.den b.den).bind fun r1 =>
    cond (!r1)
      (some false)
      (some true))
def zeq:(List Rt) × (List Rt) × Int × Unit→Option (((List Rt) × (List Rt) × Int × Unit) ⊕ ((Bool × Unit) ⊕ (Unit))):=fun (a,b,i,_) =>
  cond (decide (i < (a.length:Int)))
    ((idx a i).bind fun e =>
    (idx b i).bind fun e1 =>
    (zgk e e1).bind fun r =>
    cond (!r)
      (some (.inr (.inl (false,()))))
      (some (.inl (a,b,IntKind.i64.wrap (i+1),()))))
    (some (.inr (.inr (()))))
def znA (a:List Rt) (b:List Rt) (i:Int):Option ((Bool × Unit) ⊕ (Unit)):=whileO zeq (a,b,i,())
def zdR (a:List Rt) (b:List Rt):Option Bool :=
  cond ((a.length:Int) != (b.length:Int))
    (some false)
    ((znA a b 0).bind fun r =>
    match r with
    | .inl (t,_) =>
      some t
    | .inr _ =>
      some true)
def zcf (a:Mx) (b:Mx):Option Bool :=
  cond (a.rows != b.rows)
    (some false)
    (cond (a.cols != b.cols)
      (some false)
      ((zdR a.cells b.cells).bind fun r =>
      cond (!r)
        (some false)
        (some true)))
def zb2:(List Int) × Int × Int × Unit→Option (((List Int) × Int × Int × Unit) ⊕ ((Int × Unit) ⊕ (Int × Unit))):=fun (a,k,i,_) =>
  cond (decide (i < (a.length:Int)))
    ((idx a i).bind fun e =>
    cond (e != k)
      (some (.inr (.inl ((-1),()))))
      (some (.inl (a,IntKind.i64.wrap (k+1),IntKind.i64.wrap (i+1),()))))
    (some (.inr (.inr (k,()))))
def zg2 (a:List Int) (k:Int) (i:Int):Option ((Int × Unit) ⊕ (Int × Unit)):=whileO zb2 (a,k,i,())
def zdA (a:List Int) (k:Int):Option Int :=
  (zg2 a k 0).bind fun r =>
  match r with
  | .inl (t,_) =>
    some t
  | .inr (k1,_) =>
    some k1
def zcM:(List Rt) × Int × Int × Unit→Option (((List Rt) × Int × Int × Unit) ⊕ ((Int × Unit) ⊕ (Int × Unit))):=fun (a,k,i,_) =>
  cond (decide (i < (a.length:Int)))
    ((idx a i).bind fun e =>
    cond (!(e.neg==((k.tmod 3)==0)))
      (some (.inr (.inl ((-1),()))))
      ((idx a i).bind fun e1 =>
      (zdA e1.mag (IntKind.i64.wrap (k+1))).bind fun r =>
      cond (decide (r < 0))
        (some (.inr (.inl ((-1),()))))
        ((idx a i).bind fun e2 =>
        (zdA e2.den r).bind fun r1 =>
        cond (decide (r1 < 0))
          (some (.inr (.inl ((-1),()))))
          (some (.inl (a,r1,IntKind.i64.wrap (i+1),()))))))
    (some (.inr (.inr (k,()))))
def zg1 (a:List Rt) (k:Int) (i:Int):Option ((Int × Unit) ⊕ (Int × Unit)):=whileO zcM (a,k,i,())
def zcW (a:List Rt) (k:Int):Option Int :=
  (zg1 a k 0).bind fun r =>
  match r with
  | .inl (t,_) =>
    some t
  | .inr (k1,_) =>
    some k1
def zcX (a:Mx) (k:Int):Option Int :=
  (zcW a.cells k).bind fun r =>
  cond (decide (r < 0))
    (some (-1))
    (some r)
def zbm:Int × Int × (List Int) × Unit→Option ((Int × Int × (List Int) × Unit) ⊕ (Int × (List Int) × Unit)):=fun (k,i,a,_) =>
  cond (decide (i < (a.length:Int)))
    ((idx a i).bind fun _ =>
    some (.inl (IntKind.i64.wrap (k+1),IntKind.i64.wrap (i+1),a.set i.toNat k,())))
    (some (.inr (k,a,())))
def zfs (k:Int) (i:Int) (a:List Int):Option (Int × (List Int) × Unit):=whileO zbm (k,i,a,())
def zcx (a:List Int) (k:Int):Option (Int × List Int) :=
  (zfs k 0 a).bind fun (k1,a1,_) =>
  some (k1,a1)
def zbP:Int × Int × (List Rt) × Unit→Option ((Int × Int × (List Rt) × Unit) ⊕ (Int × (List Rt) × Unit)):=fun (k,i,a,_) =>
  cond (decide (i < (a.length:Int)))
    ((idx a i).bind fun _ =>
    ((a[i.toNat]?).bind fun e=>some (⟨(k.tmod 3)==0,e.mag,e.den⟩:Rt)).bind fun e =>
    (idx (a.set i.toNat e) i).bind fun _ =>
    ((a.set i.toNat e)[i.toNat]?).bind fun e1 =>
    ((zcx e1.mag (IntKind.i64.wrap (k+1))).bind fun y=>((a.set i.toNat e)[i.toNat]?).bind fun e=>some ((⟨e.neg,y.2,e.den⟩:Rt),y.1)).bind fun (e2,r) =>
    (idx ((a.set i.toNat e).set i.toNat e2) i).bind fun _ =>
    (((a.set i.toNat e).set i.toNat e2)[i.toNat]?).bind fun e3 =>
    ((zcx e3.den r).bind fun y=>(((a.set i.toNat e).set i.toNat e2)[i.toNat]?).bind fun e=>some ((⟨e.neg,e.mag,y.2⟩:Rt),y.1)).bind fun (e4,r1) =>
    some (.inl (r1,IntKind.i64.wrap (i+1),((a.set i.toNat e).set i.toNat e2).set i.toNat e4,())))
    (some (.inr (k,a,())))
def zfr (k:Int) (i:Int) (a:List Rt):Option (Int × (List Rt) × Unit):=whileO zbP (k,i,a,())
def zcw (a:List Rt) (k:Int):Option (Int × List Rt) :=
  (zfr k 0 a).bind fun (k1,a1,_) =>
  some (k1,a1)
def zbQ (a:Mx) (k:Int):Option (Int × List Rt) :=
  (zcw a.cells k).bind fun (r0,x0) =>
  some (r0,x0)
def zeD (a:List Int) (left:Int):Option Int :=
  cond (decide ((IntKind.i64.wrap (left - (a.length:Int))) < 0))
    (some (-1))
    (some (IntKind.i64.wrap (left - (a.length:Int))))
def zf4 (a:Bg) (left:Int):Option Int :=
  (zeD a.mag left).bind fun r =>
  cond (decide (r < 0))
    (some (-1))
    (some r)
def zgj (a:Rt) (left:Int):Option Int :=
  (zf4 (⟨a.neg,a.mag⟩:Bg) left).bind fun r =>
  cond (decide (r < 0))
    (some (-1))
    ((zeD a.den r).bind fun r1 =>
    cond (decide (r1 < 0))
      (some (-1))
      (some r1))
def zep:(List Rt) × Int × Int × Unit→Option (((List Rt) × Int × Int × Unit) ⊕ ((Int × Unit) ⊕ (Int × Unit))):=fun (a,left,i,_) =>
  cond (decide (i < (a.length:Int)))
    ((idx a i).bind fun e =>
    (zgj e left).bind fun r =>
    cond (decide (r < 0))
      (some (.inr (.inl ((-1),()))))
      (some (.inl (a,r,IntKind.i64.wrap (i+1),()))))
    (some (.inr (.inr (left,()))))
def znz (a:List Rt) (left:Int) (i:Int):Option ((Int × Unit) ⊕ (Int × Unit)):=whileO zep (a,left,i,())
def zhB (a:List Rt) (left:Int):Option Int :=
  cond (decide ((IntKind.i64.wrap (left - (a.length:Int))) < 0))
    (some (-1))
    ((znz a (IntKind.i64.wrap (left - (a.length:Int))) 0).bind fun r =>
    match r with
    | .inl (t,_) =>
      some t
    | .inr (left1,_) =>
      some left1)
def zeC (a:Mx) (left:Int):Option Int :=
  (zhB a.cells left).bind fun r =>
  cond (decide (r < 0))
    (some (-1))
    (some r)
def zdu:(List Int) × Int × (List Int) × Unit→Option (((List Int) × Int × (List Int) × Unit) ⊕ ((List Int) × Unit)):=fun (a,i,out,_) =>
  cond (decide (i < (a.length:Int)))
    ((idx a i).bind fun e =>
    (idx out i).bind fun _ =>
    some (.inl (a,IntKind.i64.wrap (i+1),out.set i.toNat e,())))
    (some (.inr (out,())))
def zif (a:List Int) (i:Int) (out:List Int):Option ((List Int) × Unit):=whileO zdu (a,i,out,())
def zeB (a:List Int):Option (List Int) :=
  (zal (((decide (0≤(a.length:Int))) && (decide ((a.length:Int)≤(a.length:Int)))) && (decide ((a.length:Int)≤(zar:Int))))).bind fun _ =>
  (zif a 0 (List.replicate ((a.length:Int).toNat) 0:List Int)).bind fun (out,_) =>
  some out
def zf3 (a:Bg):Option Bg :=
  (zeB a.mag).bind fun r =>
  some (⟨a.neg,r⟩:Bg)
def zgi (a:Rt):Option Rt :=
  (zf3 (⟨a.neg,a.mag⟩:Bg)).bind fun r =>
  (zeB a.den).bind fun r1 =>
  some (⟨r.neg,r.mag,r1⟩:Rt)
def zds:(List Rt) × Int × (List Rt) × Unit→Option (((List Rt) × Int × (List Rt) × Unit) ⊕ ((List Rt) × Unit)):=fun (a,i,out,_) =>
  cond (decide (i < (a.length:Int)))
    ((idx a i).bind fun e =>
    (zgi e).bind fun r =>
    (idx out i).bind fun _ =>
    ((out[i.toNat]?).bind fun _=>some r).bind fun e1 =>
    some (.inl (a,IntKind.i64.wrap (i+1),out.set i.toNat e1,())))
    (some (.inr (out,())))
def zie (a:List Rt) (i:Int) (out:List Rt):Option ((List Rt) × Unit):=whileO zds (a,i,out,())
def zfB (a:List Rt):Option (List Rt) :=
  (zal (((decide (0≤(a.length:Int))) && (decide ((a.length:Int)≤(a.length:Int)))) && (decide ((a.length:Int)≤(zar:Int))))).bind fun _ =>
  (zie a 0 (List.replicate ((a.length:Int).toNat) (⟨false,([]:List Int),([]:List Int)⟩:Rt):List Rt)).bind fun (out,_) =>
  some out
def zce (a:Mx):Option Mx :=
  (zfB a.cells).bind fun r =>
  some (⟨a.rows,a.cols,r⟩:Mx)
end Go.Di
namespace Go.Di
def zaL (neg:Bool) (mag:List Int):Option Bg :=
  cond ((mag.length:Int)==0)
    (some (⟨false,([]:List Int)⟩:Bg))
    (some (⟨neg,mag⟩:Bg))
def zdF (n:Int):Option Bg :=
  cond (decide (n ≥ 0))
    ((zfh n).bind fun r =>
    (zaL false r).bind fun r1 =>
    some r1)
    ((zfh (IntKind.i64.wrap (0 - (IntKind.i64.wrap (n+1))))).bind fun r =>
    (zeI r ([1]:List Int)).bind fun r1 =>
    (zaL true r1).bind fun r2 =>
    some r2)
def zcg (x:Bg):Option Bool :=
  (zfg x.mag).bind fun r =>
  cond r
    (cond (decide ((x.mag.length:Int) > 0))
      (some true)
      (some (!x.neg)))
    (some false)
def zdT (x:Bg) (y:Bg):Option Bg :=
  cond (x.neg==y.neg)
    ((zeI x.mag y.mag).bind fun r =>
    (zaL x.neg r).bind fun r1 =>
    some r1)
    ((zeH x.mag y.mag).bind fun r =>
    cond (decide (r ≥ 0))
      ((zeG x.mag y.mag).bind fun r1 =>
      (zaL x.neg r1).bind fun r2 =>
      some r2)
      ((zeG y.mag x.mag).bind fun r1 =>
      (zaL y.neg r1).bind fun r2 =>
      some r2))
def zbB (x:Bg) (y:Bg):Option Bg :=
  (zbg x.mag y.mag).bind fun r =>
  (zaL (!(x.neg==y.neg)) r).bind fun r1 =>
  some r1
def zeJ (x:Bg):Option Bg :=
  (zaM x.mag).bind fun r =>
  (zaL (!x.neg) r).bind fun r1 =>
  some r1
def zfC (neg:Bool) (mag:List Int):Option Bg :=
  cond ((mag.length:Int)==0)
    (some (⟨false,([]:List Int)⟩:Bg))
    (some (⟨neg,mag⟩:Bg))
def zau (neg:Bool) (a:List Int):Option Bg :=
  (zfz a).bind fun r =>
  cond neg
    ((zal (Nat.ble r.length zar)).bind fun _ =>
    some (⟨decide ((r.length:Int) > 0),r⟩:Bg))
    ((zal (Nat.ble r.length zar)).bind fun _ =>
    some (⟨false,r⟩:Bg))
def zeA (n:Int):Option Bg :=
  cond (n==(-9223372036854775808))
    ((zau true ([854775808,223372036,9]:List Int)).bind fun r =>
    some r)
    (cond (decide (n < 0))
      ((zcv (IntKind.i64.wrap (0 - n))).bind fun r =>
      (zau true r).bind fun r1 =>
      some r1)
      ((zcv n).bind fun r =>
      (zau false r).bind fun r1 =>
      some r1))
def zf2 (x:Bg):Option Bool :=
  (zed x.mag).bind fun r =>
  cond r
    (cond (!x.neg)
      (some true)
      (some (decide ((x.mag.length:Int) > 0))))
    (some false)
def zcu (x:Bg) (y:Bg):Option Bg :=
  cond (x.neg==y.neg)
    ((zfA x.mag y.mag).bind fun r =>
    (zau x.neg r).bind fun r1 =>
    some r1)
    ((zdc x.mag y.mag).bind fun r =>
    cond (decide (r ≥ 0))
      ((zdQ x.mag y.mag).bind fun r1 =>
      (zau x.neg r1).bind fun r2 =>
      some r2)
      ((zdQ y.mag x.mag).bind fun r1 =>
      (zau y.neg r1).bind fun r2 =>
      some r2))
end Go.Di
namespace Go.Di
def zff (a:List Int):Option Bool :=
  cond ((a.length:Int)==1)
    ((idx a 0).bind fun e =>
    some (e==1))
    (some false)
def zgl (r:Rt):Option Bool :=
  (zcg (⟨r.neg,r.mag⟩:Bg)).bind fun r1 =>
  cond (!r1)
    (some false)
    ((zfg r.den).bind fun r2 =>
    cond (!r2)
      (some false)
      (cond ((r.den.length:Int)==0)
        (some false)
        (cond (decide ((r.mag.length:Int) > 24))
          (some false)
          (cond (decide ((r.den.length:Int) > 24))
            (some false)
            ((zdS r.den r.mag).bind fun r3 =>
            (zff r3).bind fun r4 =>
            some r4)))))
def zaW (r:Rt):Option Bool :=
  some ((r.den.length:Int)==0)
def zb3:(List Int) × (List Int) × Int × Int × Unit→Option (((List Int) × (List Int) × Int × Int × Unit) ⊕ ((Bool × Unit) ⊕ (Unit))):=fun (a,b,t,t1,_) =>
  cond (decide (t1 < t))
    ((idx a t1).bind fun e =>
    (idx b t1).bind fun e1 =>
    cond (e != e1)
      (some (.inr (.inl (false,()))))
      (some (.inl (a,b,t,IntKind.i64.wrap (t1+1),()))))
    (some (.inr (.inr (()))))
def zg3 (a:List Int) (b:List Int) (t:Int) (t1:Int):Option ((Bool × Unit) ⊕ (Unit)):=whileO zb3 (a,b,t,t1,())
def zcY (a:List Int) (b:List Int):Option Bool :=
  cond ((a.length:Int) != (b.length:Int))
    (some false)
    ((zg3 a b (a.length:Int) 0).bind fun r =>
    match r with
    | .inl (t,_) =>
      some t
    | .inr _ =>
      some true)
def zbM (num:Bg) (den:List Int):Option Rt :=
  cond ((num.mag.length:Int)==0)
    (some (⟨false,([]:List Int),([1]:List Int)⟩:Rt))
    ((zdS den num.mag).bind fun r =>
    (zff r).bind fun r1 =>
    cond (!r1)
      ((zbA num.mag r).bind fun (r0,_) =>
      (zbA den r).bind fun (r0_1,_) =>
      (zaL num.neg r0).bind fun r2 =>
      cond (decide ((r2.mag.length:Int) > 24))
        (some (⟨false,([]:List Int),([]:List Int)⟩:Rt))
        (cond (decide ((r0_1.length:Int) > 24))
          (some (⟨false,([]:List Int),([]:List Int)⟩:Rt))
          (some (⟨r2.neg,r2.mag,r0_1⟩:Rt))))
      (cond (decide ((num.mag.length:Int) > 24))
        (some (⟨false,([]:List Int),([]:List Int)⟩:Rt))
        (cond (decide ((den.length:Int) > 24))
          (some (⟨false,([]:List Int),([]:List Int)⟩:Rt))
          (some (⟨num.neg,num.mag,den⟩:Rt)))))
def zjq (r:Rt) (s:Rt):Option Rt :=
  (zaW r).bind fun r1 =>
  cond r1
    (some (⟨false,([]:List Int),([]:List Int)⟩:Rt))
    ((zaW s).bind fun r2 =>
    cond r2
      (some (⟨false,([]:List Int),([]:List Int)⟩:Rt))
      ((zcY r.den s.den).bind fun r3 =>
      cond r3
        ((zdT (⟨r.neg,r.mag⟩:Bg) (⟨s.neg,s.mag⟩:Bg)).bind fun r4 =>
        (zaM r.den).bind fun r5 =>
        (zbM r4 r5).bind fun r6 =>
        some r6)
        ((zbB (⟨r.neg,r.mag⟩:Bg) (⟨false,s.den⟩:Bg)).bind fun r4 =>
        (zbB (⟨s.neg,s.mag⟩:Bg) (⟨false,r.den⟩:Bg)).bind fun r5 =>
        (zdT r4 r5).bind fun r6 =>
        (zbg r.den s.den).bind fun r7 =>
        (zbM r6 r7).bind fun r8 =>
        some r8)))
def zeK (r:Rt) (s:Rt):Option Bool :=
  cond (r.neg==s.neg)
    ((zcY r.mag s.mag).bind fun r1 =>
    cond r1
      ((zcY r.den s.den).bind fun r2 =>
      some r2)
      (some false))
    (some false)
def zfD (num:Bg) (den:List Int):Option Rt :=
  cond ((num.mag.length:Int)==0)
    (some (⟨false,([]:List Int),([1]:List Int)⟩:Rt))
    ((zdS den num.mag).bind fun r =>
    (zff r).bind fun r1 =>
    cond (!r1)
      ((zbA num.mag r).bind fun (r0,_) =>
      (zbA den r).bind fun (r0_1,_) =>
      (zaL num.neg r0).bind fun r2 =>
      cond (decide ((r2.mag.length:Int) > 24))
        (some (⟨false,([]:List Int),([]:List Int)⟩:Rt))
        (cond (decide ((r0_1.length:Int) > 24))
          (some (⟨false,([]:List Int),([]:List Int)⟩:Rt))
          (some (⟨r2.neg,r2.mag,r0_1⟩:Rt))))
      (cond (decide ((num.mag.length:Int) > 24))
        (some (⟨false,([]:List Int),([]:List Int)⟩:Rt))
        (cond (decide ((den.length:Int) > 24))
          (some (⟨false,([]:List Int),([]:List Int)⟩:Rt))
          (some (⟨num.neg,num.mag,den⟩:Rt)))))
def zbd (r:Rt):Option Rt :=
  (zaM r.mag).bind fun r1 =>
  (zaM r.den).bind fun r2 =>
  some (⟨r.neg,r1,r2⟩:Rt)
def ze7 (num:Bg) (den:Bg):Option Rt :=
  (zcg num).bind fun r =>
  cond (!r)
    (some (⟨false,([]:List Int),([]:List Int)⟩:Rt))
    ((zcg den).bind fun r1 =>
    cond (!r1)
      (some (⟨false,([]:List Int),([]:List Int)⟩:Rt))
      (cond ((den.mag.length:Int)==0)
        (some (⟨false,([]:List Int),([]:List Int)⟩:Rt))
        ((zfC (!(num.neg==den.neg)) num.mag).bind fun r2 =>
        (zfD r2 den.mag).bind fun r3 =>
        (zbd r3).bind fun r4 =>
        some r4)))
def zgm (n:Int) (d:Int):Option Rt :=
  (zdF n).bind fun r =>
  (zdF d).bind fun r1 =>
  (ze7 r r1).bind fun r2 =>
  some r2
def zdU (n:Int):Option Rt :=
  (zgm n 1).bind fun r =>
  some r
def zb9 (r:Rt) (s:Rt):Option Rt :=
  (zaW r).bind fun r1 =>
  cond r1
    (some (⟨false,([]:List Int),([]:List Int)⟩:Rt))
    ((zaW s).bind fun r2 =>
    cond r2
      (some (⟨false,([]:List Int),([]:List Int)⟩:Rt))
      ((zbB (⟨r.neg,r.mag⟩:Bg) (⟨s.neg,s.mag⟩:Bg)).bind fun r3 =>
      (zbg r.den s.den).bind fun r4 =>
      (zbM r3 r4).bind fun r5 =>
      some r5))
def zjo (r:Rt):Option Rt :=
  (zaW r).bind fun r1 =>
  cond r1
    (some (⟨false,([]:List Int),([]:List Int)⟩:Rt))
    ((zeJ (⟨r.neg,r.mag⟩:Bg)).bind fun r2 =>
    (zaM r.den).bind fun r3 =>
    some (⟨r2.neg,r2.mag,r3⟩:Rt))
def zdB (r:Rt):Option Int :=
  cond r.neg
    (some (-1))
    (cond (decide ((r.mag.length:Int) > 0))
      (some 1)
      (some 0))
def zeZ (r:Rt) (s:Rt):Option Rt :=
  (zjo s).bind fun r1 =>
  (zjq r r1).bind fun r2 =>
  some r2
def zfN (r:Rt) (s:Rt):Option Rt :=
  (zaW r).bind fun r1 =>
  cond r1
    (some (⟨false,([]:List Int),([]:List Int)⟩:Rt))
    ((zaW s).bind fun r2 =>
    cond r2
      (some (⟨false,([]:List Int),([]:List Int)⟩:Rt))
      (cond ((s.mag.length:Int)==0)
        (some (⟨false,([]:List Int),([]:List Int)⟩:Rt))
        ((zb9 r (⟨s.neg,s.den,s.mag⟩:Rt)).bind fun r3 =>
        some r3)))
def zcy (n:Int):Option Rt :=
  (zdU n).bind fun r =>
  some r
def zda (a:List Int):Option Bool :=
  cond ((a.length:Int)==1)
    ((idx a 0).bind fun e =>
    some (e==1))
    (some false)
def zgh (r:Rt):Option Bool :=
  (zf2 (⟨r.neg,r.mag⟩:Bg)).bind fun r1 =>
  cond (!r1)
    (some false)
    ((zed r.den).bind fun r2 =>
    cond (!r2)
      (some false)
      (cond ((r.den.length:Int)==0)
        (some false)
        (cond (decide ((r.den.length:Int) > 24))
          (some false)
          (cond (decide ((r.mag.length:Int) > 24))
            (some false)
            ((zev r.mag r.den).bind fun r3 =>
            (zda r3).bind fun r4 =>
            some r4)))))
def zcl:(List Int) × (List Int) × Int × Int × Unit→Option (((List Int) × (List Int) × Int × Int × Unit) ⊕ ((Bool × Unit) ⊕ (Unit))):=fun (a,b,t,t1,_) =>
  cond (decide (t1 < t))
    ((idx a t1).bind fun e =>
    (idx b t1).bind fun e1 =>
    cond (e != e1)
      (some (.inr (.inl (false,()))))
      (some (.inl (a,b,t,IntKind.i64.wrap (t1+1),()))))
    (some (.inr (.inr (()))))
def zhF (a:List Int) (b:List Int) (t:Int) (t1:Int):Option ((Bool × Unit) ⊕ (Unit)):=whileO zcl (a,b,t,t1,())
def zd2 (a:List Int) (b:List Int):Option Bool :=
  cond ((a.length:Int) != (b.length:Int))
    (some false)
    ((zhF a b (a.length:Int) 0).bind fun r =>
    match r with
    | .inl (t,_) =>
      some t
    | .inr _ =>
      some true)
def zex (r:Rt) (s:Rt):Option Bool :=
  cond (r.neg==s.neg)
    ((zd2 r.mag s.mag).bind fun r1 =>
    cond r1
      ((zd2 r.den s.den).bind fun r2 =>
      some r2)
      (some false))
    (some false)
def zb8 (n:Int):Option Rt :=
  (zeA n).bind fun r =>
  some (⟨r.neg,r.mag,([1]:List Int)⟩:Rt)
def zaO (neg:Bool) (a:List Int) (b:List Int):Option Rt :=
  (zdi a).bind fun r =>
  (zdi b).bind fun r1 =>
  cond ((r1.length:Int)==0)
    (some (⟨false,([]:List Int),([]:List Int)⟩:Rt))
    ((zda r1).bind fun r2 =>
    cond (!r2)
      ((zev r r1).bind fun r3 =>
      (zda r3).bind fun r4 =>
      cond (!r4)
        ((zdb r r3).bind fun (r0,_) =>
        (zdb r1 r3).bind fun (r0_1,_) =>
        cond (decide ((r0.length:Int) > 24))
          (some (⟨false,([]:List Int),([]:List Int)⟩:Rt))
          (cond (decide ((r0_1.length:Int) > 24))
            (some (⟨false,([]:List Int),([]:List Int)⟩:Rt))
            ((zau neg r0).bind fun r5 =>
            (zal (Nat.ble r0_1.length zar)).bind fun _ =>
            some (⟨r5.neg,r5.mag,r0_1⟩:Rt))))
        (cond (decide ((r.length:Int) > 24))
          (some (⟨false,([]:List Int),([]:List Int)⟩:Rt))
          (cond (decide ((r1.length:Int) > 24))
            (some (⟨false,([]:List Int),([]:List Int)⟩:Rt))
            ((zau neg r).bind fun r5 =>
            (zal (Nat.ble r1.length zar)).bind fun _ =>
            some (⟨r5.neg,r5.mag,r1⟩:Rt)))))
      (cond (decide ((r.length:Int) > 24))
        (some (⟨false,([]:List Int),([]:List Int)⟩:Rt))
        (cond (decide ((r1.length:Int) > 24))
          (some (⟨false,([]:List Int),([]:List Int)⟩:Rt))
          ((zau neg r).bind fun r3 =>
          (zal (Nat.ble r1.length zar)).bind fun _ =>
          some (⟨r3.neg,r3.mag,r1⟩:Rt)))))
def zdP (r:Rt) (s:Rt):Option Rt :=
  (zda r.den).bind fun r1 =>
  cond r1
    ((zda s.den).bind fun r2 =>
    cond r2
      ((zcu (⟨r.neg,r.mag⟩:Bg) (⟨s.neg,s.mag⟩:Bg)).bind fun r3 =>
      (zaO r3.neg r3.mag ([1]:List Int)).bind fun r4 =>
      some r4)
      ((zas r.mag s.den).bind fun r3 =>
      (zau r.neg r3).bind fun r4 =>
      (zas s.mag r.den).bind fun r5 =>
      (zau s.neg r5).bind fun r6 =>
      (zcu r4 r6).bind fun r7 =>
      (zas r.den s.den).bind fun r8 =>
      (zaO r7.neg r7.mag r8).bind fun r9 =>
      some r9))
    ((zas r.mag s.den).bind fun r2 =>
    (zau r.neg r2).bind fun r3 =>
    (zas s.mag r.den).bind fun r4 =>
    (zau s.neg r4).bind fun r5 =>
    (zcu r3 r5).bind fun r6 =>
    (zas r.den s.den).bind fun r7 =>
    (zaO r6.neg r6.mag r7).bind fun r8 =>
    some r8)
def zbz (r:Rt):Option Rt :=
  (zal (Nat.ble r.mag.length zar)).bind fun _ =>
  (zal (Nat.ble r.den.length zar)).bind fun _ =>
  some r
def zbf (r:Rt) (s:Rt):Option Rt :=
  (zas r.mag s.mag).bind fun r1 =>
  (zas r.den s.den).bind fun r2 =>
  (zaO (!(r.neg==s.neg)) r1 r2).bind fun r3 =>
  some r3
def zfy (r:Rt):Option Rt :=
  (zau (!r.neg) r.mag).bind fun r1 =>
  (zal (Nat.ble r.den.length zar)).bind fun _ =>
  some (⟨r1.neg,r1.mag,r.den⟩:Rt)
end Go.Di
namespace Go.Di
def zbc:(List Rt) × (List Rt) × Int × Int × Unit→Option (((List Rt) × (List Rt) × Int × Int × Unit) ⊕ ((Bool × Unit) ⊕ (Unit))):=fun (a,b,t,t1,_) =>
  cond (decide (t1 < t))
    ((idx a t1).bind fun e =>
    (idx b t1).bind fun e1 =>
    (zeK e e1).bind fun r =>
    cond (!r)
      (some (.inr (.inl (false,()))))
      (some (.inl (a,b,t,IntKind.i64.wrap (t1+1),()))))
    (some (.inr (.inr (()))))
def zfl (a:List Rt) (b:List Rt) (t:Int) (t1:Int):Option ((Bool × Unit) ⊕ (Unit)):=whileO zbc (a,b,t,t1,())
def zde (a:List Rt) (b:List Rt):Option Bool :=
  cond ((a.length:Int) != (b.length:Int))
    (some false)
    ((zfl a b (a.length:Int) 0).bind fun r =>
    match r with
    | .inl (t,_) =>
      some t
    | .inr _ =>
      some true)
def zbb:(List Rt) × (List Rt) × Int × Int × Unit→Option (((List Rt) × (List Rt) × Int × Int × Unit) ⊕ ((Bool × Unit) ⊕ (Unit))):=fun (b,t,t1,t2,_) =>
  cond (decide (t2 < t1))
    ((idx t t2).bind fun e =>
    (idx b t2).bind fun e1 =>
    (zex e e1).bind fun r =>
    cond (!r)
      (some (.inr (.inl (false,()))))
      (some (.inl (b,t,t1,IntKind.i64.wrap (t2+1),()))))
    (some (.inr (.inr (()))))
def zfk (b:List Rt) (t:List Rt) (t1:Int) (t2:Int):Option ((Bool × Unit) ⊕ (Unit)):=whileO zbb (b,t,t1,t2,())
def zdd (a:List Rt) (b:List Rt):Option Bool :=
  cond ((a.length:Int) != (b.length:Int))
    (some false)
    ((zfk b a (a.length:Int) 0).bind fun r =>
    match r with
    | .inl (t,_) =>
      some t
    | .inr _ =>
      some true)
def zc9 (r:Rt):Option Bool :=
  some ((r.den.length:Int)==0)
def zdO (a:Rt) (b:Rt):Option Rt :=
  (zas a.mag b.den).bind fun r =>
  (zas a.den b.mag).bind fun r1 =>
  (zaO (!(a.neg==b.neg)) r r1).bind fun r2 =>
  some r2
def zck:(List Rt) × Int × Int × Unit→Option (((List Rt) × Int × Int × Unit) ⊕ ((Bool × Unit) ⊕ (Unit))):=fun (t,t1,t2,_) =>
  cond (decide (t2 < t1))
    ((idx t t2).bind fun e =>
    (zc9 e).bind fun r =>
    cond r
      (some (.inr (.inl (false,()))))
      (some (.inl (t,t1,IntKind.i64.wrap (t2+1),()))))
    (some (.inr (.inr (()))))
def zhE (t:List Rt) (t1:Int) (t2:Int):Option ((Bool × Unit) ⊕ (Unit)):=whileO zck (t,t1,t2,())
def zd1 (v:List Rt):Option Bool :=
  (zhE v (v.length:Int) 0).bind fun r =>
  match r with
  | .inl (t,_) =>
    some t
  | .inr _ =>
    some true
def zes (r:Rt):Option Bool :=
  some ((r.mag.length:Int)==0)
def ze6:Option Rt :=
  (zb8 0).bind fun r =>
  some r
def zc8 (a:Rt) (b:Rt):Option Rt :=
  (zfy b).bind fun r =>
  (zdP a r).bind fun r1 =>
  some r1
def zbY:Int × (List Rt) × Unit→Option ((Int × (List Rt) × Unit) ⊕ ((List Rt) × Unit)):=fun (n,out,_) =>
  cond (decide ((out.length:Int) < n))
    ((ze6).bind fun r =>
    (zal (Nat.ble (out.length+1) zar)).bind fun _ =>
    some (.inl (n,out++([r]:List Rt),())))
    (some (.inr (out,())))
def zgV (n:Int) (out:List Rt):Option ((List Rt) × Unit):=whileO zbY (n,out,())
def zdw (n:Int):Option (List Rt) :=
  (zgV n ([]:List Rt)).bind fun (out,_) =>
  some out
end Go.Di
namespace Go.Di
def zdC (n:Int):Option Bool :=
  cond (decide (n ≥ 0))
    (some (decide (n≤24)))
    (some false)
def zbu:(List Rt) × Int × Int × Unit→Option (((List Rt) × Int × Int × Unit) ⊕ ((Bool × Unit) ⊕ (Unit))):=fun (t,t1,t2,_) =>
  cond (decide (t2 < t1))
    ((idx t t2).bind fun e =>
    (zgl e).bind fun r =>
    cond (!r)
      (some (.inr (.inl (false,()))))
      (some (.inl (t,t1,IntKind.i64.wrap (t2+1),()))))
    (some (.inr (.inr (()))))
def zg5 (t:List Rt) (t1:Int) (t2:Int):Option ((Bool × Unit) ⊕ (Unit)):=whileO zbu (t,t1,t2,())
def zeL (m:Mx):Option Bool :=
  (zdC m.rows).bind fun r =>
  cond (!r)
    (some false)
    ((zdC m.cols).bind fun r1 =>
    cond (!r1)
      (some false)
      (cond ((m.cells.length:Int) != (IntKind.i64.wrap (m.rows * m.cols)))
        (some false)
        ((zg5 m.cells (m.cells.length:Int) 0).bind fun r2 =>
        match r2 with
        | .inl (t,_) =>
          some t
        | .inr _ =>
          some true)))
def zbp (m:Mx) (i:Int) (k:Int):Option Rt :=
  (idx m.cells (IntKind.i64.wrap ((IntKind.i64.wrap (i * m.cols))+k))).bind fun e =>
  some e
def zcH (a:Mx) (b:Mx):Option Bool :=
  cond (a.rows==b.rows)
    (cond (a.cols==b.cols)
      ((zde a.cells b.cells).bind fun r =>
      some r)
      (some false))
    (some false)
def zcZ (i:Int) (k:Int):Option Rt :=
  cond (i==k)
    ((zcy 1).bind fun r =>
    some r)
    ((zcy 0).bind fun r =>
    some r)
def zaJ:Int × Int × Int × Int × Int × Int × Int × Int × (List Rt) × Int × Int × (List Rt) × Unit→Option ((Int × Int × Int × Int × Int × Int × Int × Int × (List Rt) × Int × Int × (List Rt) × Unit) ⊕ (Int × Int × Int × Int × Int × (List Rt) × Int × Int × (List Rt) × Unit)):=fun (cols,i,t,t1,t2,t3,v,v1,v2,v3,v4,xs,_) =>
  cond (decide (t3 < t2))
    ((zcZ i t3).bind fun r =>
    (zal (Nat.ble (xs.length+1) zar)).bind fun _ =>
    some (.inl (cols,i,t,t1,t2,IntKind.i64.wrap (t3+1),v,v1,v2,v3,v4,xs++([r]:List Rt),())))
    (some (.inr (cols,t,t1,v,v1,v2,v3,v4,xs,())))
def zbJ (cols:Int) (i:Int) (t:Int) (t1:Int) (t2:Int) (t3:Int) (v:Int) (v1:Int) (v2:List Rt) (v3:Int) (v4:Int) (xs:List Rt):Option (Int × Int × Int × Int × Int × (List Rt) × Int × Int × (List Rt) × Unit):=whileO zaJ (cols,i,t,t1,t2,t3,v,v1,v2,v3,v4,xs,())
def zaK:Int × Int × Int × Int × Int × (List Rt) × Int × Int × (List Rt) × Unit→Option ((Int × Int × Int × Int × Int × (List Rt) × Int × Int × (List Rt) × Unit) ⊕ (Int × Int × (List Rt) × Int × Int × (List Rt) × Unit)):=fun (cols,t,t1,v,v1,v2,v3,v4,xs,_) =>
  cond (decide (t1 < t))
    ((zbJ cols t1 t t1 cols 0 v v1 v2 v3 v4 xs).bind fun (cols1,t2,t3,v5,v6,v7,v8,v9,xs1,_) =>
    some (.inl (cols1,t2,IntKind.i64.wrap (t3+1),v5,v6,v7,v8,v9,xs1,())))
    (some (.inr (v,v1,v2,v3,v4,xs,())))
def zbK (cols:Int) (t:Int) (t1:Int) (v:Int) (v1:Int) (v2:List Rt) (v3:Int) (v4:Int) (xs:List Rt):Option (Int × Int × (List Rt) × Int × Int × (List Rt) × Unit):=whileO zaK (cols,t,t1,v,v1,v2,v3,v4,xs,())
def za4 (rows:Int) (cols:Int):Option Mx :=
  (zbK cols rows 0 0 0 ([]:List Rt) rows cols ([]:List Rt)).bind fun (_,_,_,v3,v4,xs,_) =>
  some (⟨v3,v4,xs⟩:Mx)
def zax (m:Mx) (i:Int) (k:Int):Option (Rt × List Rt) :=
  (idx m.cells (IntKind.i64.wrap ((IntKind.i64.wrap (i * m.cols))+k))).bind fun _ =>
  (m.cells[(IntKind.i64.wrap ((IntKind.i64.wrap (i * m.cols))+k)).toNat]?).bind fun e =>
  some (e,m.cells)
def zfo (i:Int) (k:Int) (g:Mx):Option Rt :=
  (zbp g k i).bind fun r =>
  (zbd r).bind fun r1 =>
  some r1
def zaE:Int × Int × Int × (List Rt) × Int × Int × Int × Int × Int × Int × Int × (List Rt) × Int × Int × (List Rt) × Unit→Option ((Int × Int × Int × (List Rt) × Int × Int × Int × Int × Int × Int × Int × (List Rt) × Int × Int × (List Rt) × Unit) ⊕ (Int × Int × Int × (List Rt) × Int × Int × Int × Int × (List Rt) × Int × Int × (List Rt) × Unit)):=fun (cols,g,g1,g2,i,t,t1,t2,t3,v,v1,v2,v3,v4,xs,_) =>
  cond (decide (t3 < t2))
    ((zfo i t3 (⟨g,g1,g2⟩:Mx)).bind fun r =>
    (zal (Nat.ble (xs.length+1) zar)).bind fun _ =>
    some (.inl (cols,g,g1,g2,i,t,t1,t2,IntKind.i64.wrap (t3+1),v,v1,v2,v3,v4,xs++([r]:List Rt),())))
    (some (.inr (cols,g,g1,g2,t,t1,v,v1,v2,v3,v4,xs,())))
def zc3 (cols:Int) (g:Int) (g1:Int) (g2:List Rt) (i:Int) (t:Int) (t1:Int) (t2:Int) (t3:Int) (v:Int) (v1:Int) (v2:List Rt) (v3:Int) (v4:Int) (xs:List Rt):Option (Int × Int × Int × (List Rt) × Int × Int × Int × Int × (List Rt) × Int × Int × (List Rt) × Unit):=whileO zaE (cols,g,g1,g2,i,t,t1,t2,t3,v,v1,v2,v3,v4,xs,())
def zaF:Int × Int × Int × (List Rt) × Int × Int × Int × Int × (List Rt) × Int × Int × (List Rt) × Unit→Option ((Int × Int × Int × (List Rt) × Int × Int × Int × Int × (List Rt) × Int × Int × (List Rt) × Unit) ⊕ (Int × Int × (List Rt) × Int × Int × (List Rt) × Unit)):=fun (cols,g,g1,g2,t,t1,v,v1,v2,v3,v4,xs,_) =>
  cond (decide (t1 < t))
    ((zc3 cols g g1 g2 t1 t t1 cols 0 v v1 v2 v3 v4 xs).bind fun (cols1,g3,g4,g5,t2,t3,v5,v6,v7,v8,v9,xs1,_) =>
    some (.inl (cols1,g3,g4,g5,t2,IntKind.i64.wrap (t3+1),v5,v6,v7,v8,v9,xs1,())))
    (some (.inr (v,v1,v2,v3,v4,xs,())))
def zc4 (cols:Int) (g:Int) (g1:Int) (g2:List Rt) (t:Int) (t1:Int) (v:Int) (v1:Int) (v2:List Rt) (v3:Int) (v4:Int) (xs:List Rt):Option (Int × Int × (List Rt) × Int × Int × (List Rt) × Unit):=whileO zaF (cols,g,g1,g2,t,t1,v,v1,v2,v3,v4,xs,())
def zbU (rows:Int) (cols:Int) (g:Mx):Option Mx :=
  (zc4 cols g.rows g.cols g.cells rows 0 0 0 ([]:List Rt) rows cols ([]:List Rt)).bind fun (_,_,_,v3,v4,xs,_) =>
  some (⟨v3,v4,xs⟩:Mx)
def zeF (m:Mx):Option Mx :=
  (zbU m.cols m.rows m).bind fun r =>
  some r
def zbt:(List Rt) × Int × Int × Unit→Option (((List Rt) × Int × Int × Unit) ⊕ ((Bool × Unit) ⊕ (Unit))):=fun (t,t1,t2,_) =>
  cond (decide (t2 < t1))
    ((idx t t2).bind fun e =>
    (zgh e).bind fun r =>
    cond (!r)
      (some (.inr (.inl (false,()))))
      (some (.inl (t,t1,IntKind.i64.wrap (t2+1),()))))
    (some (.inr (.inr (()))))
def zg0 (t:List Rt) (t1:Int) (t2:Int):Option ((Bool × Unit) ⊕ (Unit)):=whileO zbt (t,t1,t2,())
def zey (m:Mx):Option Bool :=
  (zdx m.rows 0 24).bind fun r =>
  cond (!r)
    (some false)
    ((zdx m.cols 0 24).bind fun r1 =>
    cond (!r1)
      (some false)
      (cond ((m.cells.length:Int) != (IntKind.i64.wrap (m.rows * m.cols)))
        (some false)
        ((zg0 m.cells (m.cells.length:Int) 0).bind fun r2 =>
        match r2 with
        | .inl (t,_) =>
          some t
        | .inr _ =>
          some true)))
def zec (m:Mx) (i:Int) (k:Int):Option Rt :=
  (idx m.cells (IntKind.i64.wrap ((IntKind.i64.wrap (i * m.cols))+k))).bind fun e =>
  some e
def zcG (a:Mx) (b:Mx):Option Bool :=
  cond (a.rows==b.rows)
    (cond (a.cols==b.cols)
      ((zdd a.cells b.cells).bind fun r =>
      some r)
      (some false))
    (some false)
def ze5 (rows:Int) (cols:Int):Option Mx :=
  (zdw (IntKind.i64.wrap (rows * cols))).bind fun r =>
  some (⟨rows,cols,r⟩:Mx)
def za9:Int × Int × Int × Int × (List Rt) × Int × Int × (List Rt) × Int × Int × (List Rt) × Unit→Option ((Int × Int × Int × Int × (List Rt) × Int × Int × (List Rt) × Int × Int × (List Rt) × Unit) ⊕ (Int × Int × Int × (List Rt) × Int × Int × (List Rt) × Int × Int × (List Rt) × Unit)):=fun (k,i,v,v1,v2,v3,v4,v5,v6,v7,xs,_) =>
  cond (decide (i < v))
    ((zec (⟨v,v1,v2⟩:Mx) i k).bind fun r =>
    (zbz r).bind fun r1 =>
    (zal (Nat.ble (xs.length+1) zar)).bind fun _ =>
    some (.inl (k,IntKind.i64.wrap (i+1),v,v1,v2,v3,v4,v5,v6,v7,xs++([r1]:List Rt),())))
    (some (.inr (k,v,v1,v2,v3,v4,v5,v6,v7,xs,())))
def zfi (k:Int) (i:Int) (v:Int) (v1:Int) (v2:List Rt) (v3:Int) (v4:Int) (v5:List Rt) (v6:Int) (v7:Int) (xs:List Rt):Option (Int × Int × Int × (List Rt) × Int × Int × (List Rt) × Int × Int × (List Rt) × Unit):=whileO za9 (k,i,v,v1,v2,v3,v4,v5,v6,v7,xs,())
def zba:Int × Int × Int × (List Rt) × Int × Int × (List Rt) × Int × Int × (List Rt) × Unit→Option ((Int × Int × Int × (List Rt) × Int × Int × (List Rt) × Int × Int × (List Rt) × Unit) ⊕ (Int × Int × (List Rt) × Int × Int × (List Rt) × Unit)):=fun (k,v,v1,v2,v3,v4,v5,v6,v7,xs,_) =>
  cond (decide (k < v1))
    ((zfi k 0 v v1 v2 v3 v4 v5 v6 v7 xs).bind fun (k1,v8,v9,v10,v11,v12,v13,v14,v15,xs1,_) =>
    some (.inl (IntKind.i64.wrap (k1+1),v8,v9,v10,v11,v12,v13,v14,v15,xs1,())))
    (some (.inr (v3,v4,v5,v6,v7,xs,())))
def zfj (k:Int) (v:Int) (v1:Int) (v2:List Rt) (v3:Int) (v4:Int) (v5:List Rt) (v6:Int) (v7:Int) (xs:List Rt):Option (Int × Int × (List Rt) × Int × Int × (List Rt) × Unit):=whileO zba (k,v,v1,v2,v3,v4,v5,v6,v7,xs,())
def zcd (m:Mx):Option Mx :=
  (zfj 0 m.rows m.cols m.cells 0 0 ([]:List Rt) m.cols m.rows ([]:List Rt)).bind fun (_,_,_,v3,v4,xs,_) =>
  some (⟨v3,v4,xs⟩:Mx)
def zaQ (m:Mx) (i:Int) (k:Int):Option (Rt × List Rt) :=
  (idx m.cells (IntKind.i64.wrap ((IntKind.i64.wrap (i * m.cols))+k))).bind fun _ =>
  (m.cells[(IntKind.i64.wrap ((IntKind.i64.wrap (i * m.cols))+k)).toNat]?).bind fun e =>
  some (e,m.cells)
def za1:Int × Int × Int × Int × (List Rt) × Int × Int × (List Rt) × Unit→Option ((Int × Int × Int × Int × (List Rt) × Int × Int × (List Rt) × Unit) ⊕ (Int × Int × (List Rt) × Int × Int × (List Rt) × Unit)):=fun (n,i,v,v1,v2,v3,v4,xs,_) =>
  cond (decide (i < n))
    ((zb8 1).bind fun r =>
    (idx xs (IntKind.i64.wrap ((IntKind.i64.wrap (i * n))+i))).bind fun _ =>
    some (.inl (n,IntKind.i64.wrap (i+1),v,v1,v2,v3,v4,xs.set ((IntKind.i64.wrap ((IntKind.i64.wrap (i * n))+i)).toNat) r,())))
    (some (.inr (v,v1,v2,v3,v4,xs,())))
def zeN (n:Int) (i:Int) (v:Int) (v1:Int) (v2:List Rt) (v3:Int) (v4:Int) (xs:List Rt):Option (Int × Int × (List Rt) × Int × Int × (List Rt) × Unit):=whileO za1 (n,i,v,v1,v2,v3,v4,xs,())
def zbn (n:Int):Option Mx :=
  (ze5 n n).bind fun r =>
  (zeN n 0 0 0 ([]:List Rt) r.rows r.cols r.cells).bind fun (_,_,_,v3,v4,xs,_) =>
  some (⟨v3,v4,xs⟩:Mx)
end Go.Di
namespace Go.Di
def zjL (i:Int) (k:Int):Option Rt :=
  cond (i==k)
    ((zcy 1).bind fun r =>
    some r)
    ((zcy 0).bind fun r =>
    some r)
def zbS:Int × Int × Int × Int × Int × Int × Int × Int × (List Rt) × Int × Int × (List Rt) × Unit→Option ((Int × Int × Int × Int × Int × Int × Int × Int × (List Rt) × Int × Int × (List Rt) × Unit) ⊕ (Int × Int × Int × Int × Int × (List Rt) × Int × Int × (List Rt) × Unit)):=fun (cols,i,t,t1,t2,t3,v,v1,v2,v3,v4,xs,_) =>
  cond (decide (t3 < t2))
    ((zjL i t3).bind fun r =>
    (zal (Nat.ble (xs.length+1) zar)).bind fun _ =>
    some (.inl (cols,i,t,t1,t2,IntKind.i64.wrap (t3+1),v,v1,v2,v3,v4,xs++([r]:List Rt),())))
    (some (.inr (cols,t,t1,v,v1,v2,v3,v4,xs,())))
def zfE (cols:Int) (i:Int) (t:Int) (t1:Int) (t2:Int) (t3:Int) (v:Int) (v1:Int) (v2:List Rt) (v3:Int) (v4:Int) (xs:List Rt):Option (Int × Int × Int × Int × Int × (List Rt) × Int × Int × (List Rt) × Unit):=whileO zbS (cols,i,t,t1,t2,t3,v,v1,v2,v3,v4,xs,())
def zbT:Int × Int × Int × Int × Int × (List Rt) × Int × Int × (List Rt) × Unit→Option ((Int × Int × Int × Int × Int × (List Rt) × Int × Int × (List Rt) × Unit) ⊕ (Int × Int × (List Rt) × Int × Int × (List Rt) × Unit)):=fun (cols,t,t1,v,v1,v2,v3,v4,xs,_) =>
  cond (decide (t1 < t))
    ((zfE cols t1 t t1 cols 0 v v1 v2 v3 v4 xs).bind fun (cols1,t2,t3,v5,v6,v7,v8,v9,xs1,_) =>
    some (.inl (cols1,t2,IntKind.i64.wrap (t3+1),v5,v6,v7,v8,v9,xs1,())))
    (some (.inr (v,v1,v2,v3,v4,xs,())))
def zfF (cols:Int) (t:Int) (t1:Int) (v:Int) (v1:Int) (v2:List Rt) (v3:Int) (v4:Int) (xs:List Rt):Option (Int × Int × (List Rt) × Int × Int × (List Rt) × Unit):=whileO zbT (cols,t,t1,v,v1,v2,v3,v4,xs,())
def zcj (rows:Int) (cols:Int):Option Mx :=
  (zfF cols rows 0 0 0 ([]:List Rt) rows cols ([]:List Rt)).bind fun (_,_,_,v3,v4,xs,_) =>
  some (⟨v3,v4,xs⟩:Mx)
def zf6 (n:Int):Option Mx :=
  (zcj n n).bind fun r =>
  some r
end Go.Di
namespace Go.Di
end Go.Di
namespace Go.Di
end Go.Di
namespace Go.Di
end Go.Di
namespace Go.Di
end Go.Di
namespace Go.Di
theorem zxM {σ ρ:Type} (f:σ→Option (σ ⊕ ρ)) (st:Nat→σ) (n:Nat) (h:∀ i,i < n→f (st i)=some (.inl (st (i+1)))):whileO f (st 0)=whileO f (st n):=by
  induction n with
  | zero=>rfl
  | succ n ih =>
    rw[ih fun i hi=>h i (Nat.lt_succ_of_lt hi)]
    exact zcI (h n (Nat.lt_succ_self n))
theorem za7 {σ ρ:Type} (f:σ→Option (σ ⊕ ρ)) (st:Nat→σ) (n:Nat) (r:ρ) (h:∀ i,i < n→f (st i)=some (.inl (st (i+1)))) (he:f (st n)=some (.inr r)):whileO f (st 0)=some r:=by
  rw[zxM f st n h]; exact zaR he
theorem wrap_i64 {n:Int} (h1 : -9223372036854775808≤n) (h2:n≤9223372036854775807):IntKind.i64.wrap n=n:=by
  simp only[IntKind.wrap,IntKind.bits,IntKind.signed]
  simp
  omega
theorem zhh {α:Type} (xs:List α) (i:Nat):idx xs (i:Int)=xs[i]? := by simp[idx]
theorem zaG {α:Type} {xs:List α} {i:Nat} (h:i < xs.length):idx xs (i:Int)=some xs[i]:=by simp[idx,h]
@[simp] theorem zjY:zal true=some ():=rfl
def eqB {α:Type} (a b:α):Bool:=@decide (a=b) (Classical.propDecidable _)
theorem zc6 {α:Type} {a b:α}:eqB a b=true↔a=b:=by unfold eqB; exact @decide_eq_true_iff _ (Classical.propDecidable _)
@[simp] theorem zmi {α:Type} (a:α):eqB a a=true:=zc6.2 rfl
theorem zhW {α:Type} {a b:α}:eqB a b=false↔a≠b:=by rw[← Bool.not_eq_true,zc6]
theorem zEF (a b:ByteArray):znF a b=eqB a b:=by
  rw[Bool.eq_iff_iff,zc6]
  unfold znF
  rw[beq_iff_eq,Go.ByteArray.toList_eq,Go.ByteArray.toList_eq]
  constructor
  · intro h
    cases a with | mk a=>cases b with | mk b =>
    congr 1; exact Array.ext' h
  · rintro rfl; rfl
@[simp] theorem zMC (a:ByteArray):znF a a=true:=by rw[zEF]; exact zmi a
end Go.Di
namespace Go.Di
theorem zri {α:Type} {S:(List α × Int × List α × Unit)→Option ((List α × Int × List α × Unit) ⊕ (List α × Unit))} {a:List α} {z:α}
    (hS:∀ (i:Nat) (out:List α) (h:i < a.length),out.length=a.length→S (a,(i:Int),out,())=some (.inl (a,((i+1:Nat):Int),out.set i a[i],())))
    (hE:∀ out,S (a,(a.length:Int),out,())=some (.inr (out,()))):whileO S (a,0,List.replicate a.length z,())=some (a,()):=by
  have h:=za7 S (fun i=>(a,(i:Int),a.take i++List.replicate (a.length - i) z,())) a.length (a,()) (fun i hi=>?_) (by rw[hE]; simp)
  · simpa using h
  · rw [hS i _ hi (by simp; omega)]
    congr 5
    apply List.ext_getElem?
    intro j
    have hl:(a.take i).length=i:=by simp; omega
    by_cases hj:j=i
    · subst hj
      rw[List.getElem?_set_self (by simp; omega),List.getElem?_append_left (by simp; omega)]
      simp[hi]
    · rw [List.getElem?_set_ne (by omega)]
      by_cases hlt:j < i
      · rw[List.getElem?_append_left (by omega),List.getElem?_append_left (by simp; omega),List.getElem?_take_of_lt hlt,List.getElem?_take_of_lt (by omega)]
      · have hl2:(a.take (i+1)).length=i+1:=by simp; omega
        rw[List.getElem?_append_right (by omega),List.getElem?_append_right (by omega),hl,hl2]
        simp only[List.getElem?_replicate]
        congr 1
        simp; omega
theorem eq_loop {α:Type} {S:(List α × List α × Int × Unit)→Option ((List α × List α × Int × Unit) ⊕ ((Bool × Unit) ⊕ Unit))} {a b:List α} (hl:a.length=b.length)
    (hS:∀ (i:Nat) (h:i < a.length),S (a,b,(i:Int),())=some (cond (eqB a[i] (b[i]'(by omega))) (.inl (a,b,((i+1:Nat):Int),())) (.inr (.inl (false,())))))
    (hE:S (a,b,(a.length:Int),())=some (.inr (.inr ()))):whileO S (a,b,0,())=some (cond (eqB a b) (.inr ()) (.inl (false,()))):=by
  have key : ∀ (m i:Nat),i+m=a.length→a.take i=b.take i→whileO S (a,b,(i:Int),())=some (cond (eqB a b) (.inr ()) (.inl (false,()))):=by
    intro m
    induction m with
    | zero =>
      intro i him ht
      have:a=b:=by
        have h1:a.take i=a:=List.take_of_length_le (by omega)
        have h2:b.take i=b:=List.take_of_length_le (by omega)
        rw[← h1,← h2,ht]
      subst this
      have hi:i=a.length:=by omega
      subst hi
      rw[zaR hE]; simp
    | succ m ih =>
      intro i him ht
      have hi:i < a.length:=by omega
      cases he:eqB a[i] (b[i]'(by omega)) with
      | true =>
        rw[zcI (by rw[hS i hi,he]; rfl)]
        refine ih (i+1) (by omega) ?_
        rw[List.take_succ_eq_append_getElem hi,List.take_succ_eq_append_getElem (by omega),ht,zc6.1 he]
      | false =>
        rw[zaR (by rw[hS i hi,he]; rfl)]
        have hne:eqB a b=false:=by
          rw[zhW]; rintro rfl; rw[zmi] at he; cases he
        rw[hne]; rfl
  exact key a.length 0 (by omega) (by simp)
theorem sz_loop {α:Type} {S:(List α × Int × Int × Unit)→Option ((List α × Int × Int × Unit) ⊕ ((Int × Unit) ⊕ (Int × Unit)))} {a:List α} {size:α→Nat}
    (hS:∀ (i:Nat) (left:Int) (h:i < a.length),0≤left→left≤1048576→S (a,left,(i:Int),())=some (.inr (.inl (-1,())))∨∃ r:Int,0≤r∧r+size a[i]=left∧S (a,left,(i:Int),())=some (.inl (a,r,((i+1:Nat):Int),())))
    (hE:∀ left,S (a,left,(a.length:Int),())=some (.inr (.inr (left,())))) (left:Int) (h0:0≤left) (h1:left≤1048576) :
    whileO S (a,left,0,())=some (.inl (-1,()))∨∃ r:Int,0≤r∧r+(a.map size).sum=left∧whileO S (a,left,0,())=some (.inr (r,())):=by
  have key : ∀ (m i:Nat) (left:Int),i+m=a.length→0≤left→left≤1048576→whileO S (a,left,(i:Int),())=some (.inl (-1,()))∨∃ r:Int,0≤r∧r+((a.drop i).map size).sum=left∧whileO S (a,left,(i:Int),())=some (.inr (r,())):=by
    intro m
    induction m with
    | zero =>
      intro i left him h0 h1
      have hi:i=a.length:=by omega
      subst hi
      exact .inr ⟨left,h0,by simp,zaR (hE left)⟩
    | succ m ih =>
      intro i left him h0 h1
      have hi:i < a.length:=by omega
      rcases hS i left hi h0 h1 with h | ⟨r,q1,q2,q3⟩
      · exact .inl (zaR h)
      · rw [zcI q3]
        rcases ih (i+1) r (by omega) q1 (by omega) with h | ⟨r',k1,k2,k3⟩
        · exact .inl h
        · refine .inr ⟨r',k1,?_,k3⟩
          rw[List.drop_eq_getElem_cons hi,List.map_cons,List.sum_cons]
          omega
  have:=key a.length 0 left (by omega) h0 h1
  simpa using this
end Go.Di
namespace Go.Di
def SzR (x:Option Int) (left:Int) (n:Nat):Prop:=x=some (-1)∨∃ r:Int,0≤r∧r+n=left∧x=some r
theorem SzR.bind {x:Option Int} {left:Int} {n m:Nat} {k:Int→Option Int} (h:SzR x left n) (hk:∀ r:Int,0≤r→r+n=left→SzR (k r) r m) :
    SzR (x.bind fun r=>cond (decide (r < 0)) (some (-1)) (k r)) left (n+m):=by
  rcases h with rfl | ⟨r,h0,h1,rfl⟩
  · exact .inl rfl
  · have:decide (r < 0)=false:=by simpa using h0
    simp only[Option.bind_some,this,cond_false]
    rcases hk r h0 h1 with h | ⟨r',k0,k1,h⟩
    · exact .inl h
    · exact .inr ⟨r',k0,by omega,h⟩
theorem SzR.ret {left:Int} (h:0≤left):SzR (some left) left 0 := .inr ⟨left,h,by omega,rfl⟩
theorem SzR.last {x:Option Int} {left:Int} {n:Nat} (h:SzR x left n):SzR (x.bind fun r=>cond (decide (r < 0)) (some (-1)) (some r)) left n :=
  SzR.bind (m:=0) h fun _r h0 _=>SzR.ret h0
theorem zz4 {left:Int} {n:Nat} (h0:0≤left) (h1:left≤1048576) (hn:n≤maxLen):IntKind.i64.wrap (left - (n:Int))=left - n:=by
  unfold maxLen at hn
  exact wrap_i64 (by omega) (by omega)
theorem zz3 {a:List Int} (ha:a.length≤maxLen) {left:Int} (h0:0≤left) (h1:left≤1048576):SzR (zeD a left) left a.length:=by
  unfold zeD
  rw[zz4 h0 h1 ha]
  by_cases h:left - (a.length:Int) < 0
  · rw[decide_eq_true h]; exact .inl rfl
  · rw[decide_eq_false h]; exact .inr ⟨_,by omega,by omega,rfl⟩
def Rt.sz (r:Rt):Nat:=r.mag.length+r.den.length
def Obs.sz (o:Obs):Nat:=o.value.sz+o.variance.sz
def Sta.sz (s:Sta):Nat:=s.name.size+(s.x.sz+s.y.sz)
theorem zMH {r:Rt} (hr:r.wf) {left:Int} (h0:0≤left) (h1:left≤1048576):SzR (zgj r left) left r.sz:=by
  unfold zgj zf4
  exact SzR.bind (SzR.last (zz3 hr.1.1 h0 h1)) fun r' q0 q1=>SzR.last (zz3 hr.2.1 q0 (by omega))
def lsz {α:Type} (f:α→Nat) (l:List α):Nat:=l.length+(l.map f).sum
theorem zKd {α:Type} {S:(List α × Int × Int × Unit)→Option ((List α × Int × Int × Unit) ⊕ ((Int × Unit) ⊕ (Int × Unit)))} {f:α→Int→Option Int} {size:α→Nat} {l:List α} (hlen:l.length≤maxLen)
    (hel:∀ x∈l,∀ left:Int,0≤left→left≤1048576→SzR (f x left) left (size x))
    (hS:S=fun (a,left,i,_)=>cond (decide (i < (a.length:Int))) ((idx a i).bind fun e=>(f e left).bind fun r=>cond (decide (r < 0)) (some (.inr (.inl ((-1),())))) (some (.inl (a,r,IntKind.i64.wrap (i+1),())))) (some (.inr (.inr (left,())))))
    {left:Int} (h0:0≤left) (h1:left≤1048576) :
    SzR (cond (decide ((IntKind.i64.wrap (left - (l.length:Int))) < 0)) (some (-1)) ((whileO S (l,IntKind.i64.wrap (left - (l.length:Int)),0,())).bind fun r=>match r with
      | .inl (t,_)=>some t
      | .inr (left1,_)=>some left1)) left (lsz size l):=by
  rw[zz4 h0 h1 hlen]
  by_cases h:left - (l.length:Int) < 0
  · rw[decide_eq_true h]; exact .inl rfl
  · rw [decide_eq_false h]
    simp only[cond_false]
    have key:=sz_loop (S:=S) (a:=l) (size:=size) (by
      intro i left hi q0 q1
      have hlt:decide ((i:Int) < (l.length:Int))=true:=by simpa using hi
      have hwr:IntKind.i64.wrap ((i:Int)+1)=((i+1:Nat):Int):=by unfold maxLen at hlen; rw[wrap_i64 (by omega) (by omega)]; simp
      subst hS
      simp only[hlt,cond_true,zaG hi,Option.bind_some]
      rcases hel _ (List.getElem_mem hi) left q0 q1 with e | ⟨r,k0,k1,e⟩
      · rw[e]; exact .inl rfl
      · rw[e]
        have:decide (r < 0)=false:=by simpa using k0
        simp only[Option.bind_some,this,cond_false,hwr]
        exact .inr ⟨r,k0,k1,rfl⟩) (by intro left; subst hS; simp) (left - (l.length:Int)) (by omega) (by omega)
    rcases key with e | ⟨r,k0,k1,e⟩
    · rw[e]; exact .inl rfl
    · rw[e]; exact .inr ⟨r,k0,by unfold lsz; omega,rfl⟩
theorem zKc {l:List Rt} (hl:CK.wf (.sl .rat) l) {left:Int} (h0:0≤left) (h1:left≤1048576):SzR (zhB l left) left (lsz Rt.sz l) :=
  zKd (S:=zep) hl.1 (fun x hx _left q0 q1=>zMH (hl.2 x hx) q0 q1) rfl h0 h1
theorem zO8 {m:Mx} (hm:CK.wf (.sl .rat) m.cells) {left:Int} (h0:0≤left) (h1:left≤1048576):SzR (zeC m left) left (lsz Rt.sz m.cells):=by
  unfold zeC
  exact SzR.last (zKc hm h0 h1)
/-! ### Copies -/
theorem zq6 {n:Nat} (h:n≤1048576):(((decide (0≤(n:Int))) && (decide ((n:Int)≤(n:Int)))) && (decide ((n:Int)≤(zar:Int))))=true:=by
  have:(n:Int)≤(zar:Int):=by unfold zar; omega
  simp[this]
theorem zaB {i n:Nat} (h:i < n) (hn:n≤1048576):IntKind.i64.wrap ((i:Int)+1)=((i+1:Nat):Int):=by
  rw[wrap_i64 (by omega) (by omega)]; simp
theorem zz0 {a:List Int} (ha:a.length≤1048576):zeB a=some a:=by
  unfold zeB zif
  rw[zq6 ha,zjY,Option.bind_some,Int.toNat_natCast,zri (z:=(0:Int)) (fun i out hi ho=>?_) (fun out=>by simp[zdu])]
  · rfl
  · have hlt:decide ((i:Int) < (a.length:Int))=true:=by simpa using hi
    simp only[zdu,hlt,cond_true,zaG hi,zaG (show i < out.length by omega),Option.bind_some,zaB hi ha,Int.toNat_natCast]
def Rt.fit (r:Rt):Prop:=r.mag.length≤1048576∧r.den.length≤1048576
theorem zMG {r:Rt} (h:r.fit):zgi r=some r:=by
  unfold zgi zf3
  rw[zz0 h.1,zz0 h.2]; rfl
def Obs.fit (o:Obs):Prop:=o.value.fit∧o.variance.fit
def Sta.fit (s:Sta):Prop:=s.x.fit∧s.y.fit
def znB {α:Type} (f:α→Prop) (l:List α):Prop:=l.length≤1048576∧∀ x∈l,f x
theorem zKb {l:List Rt} (h:znB Rt.fit l):zfB l=some l:=by
  unfold zfB zie
  rw[zq6 h.1,zjY,Option.bind_some,Int.toNat_natCast,zri (fun i out hi ho=>?_) (fun out=>by simp[zds])]
  · rfl
  · have hlt:decide ((i:Int) < (l.length:Int))=true:=by simpa using hi
    simp only[zds,hlt,cond_true,zaG hi,zaG (show i < out.length by omega),Option.bind_some,zaB hi h.1,Int.toNat_natCast,zMG (h.2 _ (List.getElem_mem hi)),List.getElem?_eq_getElem (show i < out.length by omega)]
theorem zO6 {m:Mx} (h:znB Rt.fit m.cells):zce m=some m:=by
  unfold zce
  rw[zKb h]; rfl
/-! ### What is measured fits -/
theorem zJC {α:Type} {f:α→Nat}:∀ {l:List α} {x:α},x∈l→f x≤(l.map f).sum
  | y :: l,x,h=>by
    rw[List.map_cons,List.sum_cons]
    rcases List.mem_cons.1 h with rfl | h
    · omega
    · have:=zJC (f:=f) h; omega
theorem Rt.zm5 {r:Rt} (h:r.sz≤1048576):r.fit:=by unfold Rt.sz at h; exact ⟨by omega,by omega⟩
theorem Obs.zm5 {o:Obs} (h:o.sz≤1048576):o.fit:=by unfold Obs.sz at h; exact ⟨Rt.zm5 (by omega),Rt.zm5 (by omega)⟩
theorem Sta.zm5 {s:Sta} (h:s.sz≤1048576):s.fit:=by unfold Sta.sz at h; exact ⟨Rt.zm5 (by omega),Rt.zm5 (by omega)⟩
theorem zKL {α:Type} {f:α→Nat} {p:α→Prop} (hp:∀ x,f x≤1048576→p x) {l:List α} (h:lsz f l≤1048576):znB p l:=by
  unfold lsz at h
  exact ⟨by omega,fun x hx=>hp x (by have:=zJC (f:=f) hx; omega)⟩
/-! ### Comparisons -/
theorem zCZ (a b:Nat):((a:Int) != (b:Int))=!(a==b):=by
  rw[Bool.eq_iff_iff]; simp; omega
theorem zDd {α:Type} {S:(List α × List α × Int × Unit)→Option ((List α × List α × Int × Unit) ⊕ ((Bool × Unit) ⊕ Unit))} {f:α→α→Option Bool} {a b:List α} (hlen:a.length≤1048576)
    (hel:∀ x∈a,∀ y∈b,f x y=some (eqB x y))
    (hS:S=fun (a,b,i,_)=>cond (decide (i < (a.length:Int))) ((idx a i).bind fun e=>(idx b i).bind fun e1=>(f e e1).bind fun r=>cond (!r) (some (.inr (.inl (false,())))) (some (.inl (a,b,IntKind.i64.wrap (i+1),())))) (some (.inr (.inr ())))) :
    (cond ((a.length:Int) != (b.length:Int)) (some false) ((whileO S (a,b,0,())).bind fun r=>match r with
      | .inl (t,_)=>some t
      | .inr _=>some true))=some (eqB a b):=by
  rw[zCZ]
  by_cases hl:a.length=b.length
  · rw [eq_loop (S:=S) hl (by
      intro i hi
      have hlt:decide ((i:Int) < (a.length:Int))=true:=by simpa using hi
      have hwr:=zaB hi hlen
      subst hS
      simp only[hlt,cond_true,zaG hi,zaG (show i < b.length by omega),Option.bind_some,hel _ (List.getElem_mem hi) _ (List.getElem_mem (show i < b.length by omega)),hwr]
      cases eqB a[i] (b[i]'(by omega))<;>rfl) (by subst hS; simp)]
    have:(a.length==b.length)=true:=by simpa using hl
    rw[this]
    cases eqB a b<;>rfl
  · have:(a.length==b.length)=false:=by simpa using hl
    rw[this]
    have hne:eqB a b=false:=by rw[zhW]; rintro rfl; exact hl rfl
    rw[hne]; rfl
theorem zNM {α β:Type} {a b:α} {c d:β} (h:a=b↔c=d):eqB a b=eqB c d:=by rw[Bool.eq_iff_iff,zc6,zc6]; exact h
theorem znu (a b:Int):(a==b)=eqB a b:=by rw[Bool.eq_iff_iff,zc6]; simp
theorem zpY (a b:Int):(a != b)=!eqB a b:=by rw[← znu]; rfl
theorem zp1 (a b:Bool):(a==b)=eqB a b:=by rw[Bool.eq_iff_iff,zc6]; simp
theorem zDe {a b:List Int} (ha:a.length≤1048576):zeE a b=some (eqB a b):=by
  unfold zeE zih
  exact zDd (S:=zdv) (f:=fun x y=>some (eqB x y)) ha (fun _ _ _ _=>rfl) (by
    funext ⟨a,b,i,u⟩
    simp only[zdv,zpY,Option.bind_some])
theorem chain {x:Option Bool} {a b:Bool} {k:Option Bool} (hx:x=some a) (hk:k=some b):(x.bind fun r=>cond (!r) (some false) k)=some (a && b):=by
  subst hx; subst hk; cases a<;>rfl
theorem zDP {x:Option Bool} {a:Bool} (hx:x=some a):(x.bind fun r=>cond (!r) (some false) (some true))=some a:=by
  subst hx; cases a<;>rfl
theorem zrJ {a b:Bool} {k:Option Bool} (hk:k=some b):cond (!a) (some false) k=some (a && b):=by
  subst hk; cases a<;>rfl
theorem zNK {r s:Rt} (h:r.fit):zgk r s=some (eqB r s):=by
  unfold zgk zf5
  rw[chain (zrJ (zDP (zDe h.1))) (zDP (zDe h.2)),zp1]
  congr 1
  rw[Bool.eq_iff_iff,zc6]
  simp only[Bool.and_eq_true,zc6]
  cases r; cases s; simp[and_assoc]
theorem zDc {a b:List Rt} (h:znB Rt.fit a):zdR a b=some (eqB a b) :=
  zDd (S:=zeq) h.1 (fun x hx _y _=>zNK (h.2 x hx)) rfl
theorem zNL {a b:Mx} (h:znB Rt.fit a.cells):zcf a b=some (eqB a b):=by
  unfold zcf
  simp only[zpY]
  rw[zrJ (zrJ (zDP (zDc h)))]
  congr 1
  rw[Bool.eq_iff_iff,zc6]
  simp only[Bool.and_eq_true,zc6]
  cases a; cases b; simp
end Go.Di
namespace Go.Di
theorem find_loop {σ ρ:Type} {S:σ→Option (σ ⊕ ρ)} (st:Nat→σ) (n:Nat) (r:Nat→Option ρ) (e:ρ)
    (hS:∀ i,i < n→S (st i)=some (match r i with | some y => .inr y | none => .inl (st (i+1)))) (hE:S (st n)=some (.inr e)) :
    whileO S (st 0)=some (((List.range n).findSome? r).getD e):=by
  have key : ∀ (m i:Nat),i+m=n→(∀ j,j < i→r j=none)→whileO S (st i)=some (((List.range n).findSome? r).getD e):=by
    intro m
    induction m with
    | zero =>
      intro i him hn
      have:i=n:=by omega
      subst this
      rw[zaR hE]
      have:(List.range i).findSome? r=none:=by
        rw[List.findSome?_eq_none_iff]
        intro j hj; exact hn j (List.mem_range.1 hj)
      rw[this]; rfl
    | succ m ih =>
      intro i him hn
      have hi:i < n:=by omega
      cases hr:r i with
      | some y =>
        rw[zaR (r:=y) (by rw[hS i hi,hr])]
        have:(List.range n).findSome? r=some y:=by
          rw[List.findSome?_eq_some_iff]
          refine ⟨List.range i,i,(List.range' (i+1) m),?_,hr,fun j hj=>hn j (List.mem_range.1 hj)⟩
          rw[List.range_eq_range',List.range_eq_range',← him]
          rw[← List.range'_append_1 (s:=0) (m:=i) (n:=m+1),List.range'_succ]; simp
        rw[this]; rfl
      | none =>
        rw[zcI (y:=st (i+1)) (by rw[hS i hi,hr])]
        refine ih (i+1) (by omega) fun j hj=>?_
        by_cases h:j=i
        · subst h; exact hr
        · exact hn j (by omega)
  exact key n 0 (by omega) fun j hj=>by omega
theorem zHJ {σ:Type} {S:σ→Option (σ ⊕ ((Bool × Unit) ⊕ Unit))} (st:Nat→σ) (n:Nat) (p:Nat→Bool)
    (hS:∀ i,i < n→S (st i)=some (cond (p i) (.inl (st (i+1))) (.inr (.inl (false,()))))) (hE:S (st n)=some (.inr (.inr ()))) :
    whileO S (st 0)=some (cond ((List.range n).all p) (.inr ()) (.inl (false,()))):=by
  rw[find_loop st n (fun i=>cond (p i) none (some (.inl (false,())))) (.inr ()) (fun i hi=>by rw[hS i hi]; cases p i<;>rfl) hE]
  congr 1
  cases h:(List.range n).all p with
  | true =>
    have:(List.range n).findSome? (fun i=>cond (p i) none (some (Sum.inl (β:=Unit) (false,()))))=none:=by
      rw[List.findSome?_eq_none_iff]
      intro j hj
      rw[List.all_eq_true] at h
      rw[h j hj]; rfl
    rw[this]; rfl
  | false =>
    cases hf:(List.range n).findSome? (fun i=>cond (p i) none (some (Sum.inl (β:=Unit) (false,())))) with
    | none =>
      rw[List.findSome?_eq_none_iff] at hf
      have:(List.range n).all p=true:=by
        rw[List.all_eq_true]; intro j hj
        have:=hf j hj
        cases hp:p j with
        | true=>rfl
        | false=>rw[hp] at this; cases this
      rw[this] at h; cases h
    | some y =>
      obtain ⟨j,_,hj⟩:=List.exists_of_findSome?_eq_some hf
      cases hp:p j with
      | true=>rw[hp] at hj; cases hj
      | false=>rw[hp] at hj; cases hj; rfl
theorem zL6 {α:Type} {a b:List α} (hl:a.length=b.length):((List.range a.length).all fun i=>eqB a[i]? b[i]?)=eqB a b:=by
  rw[Bool.eq_iff_iff,List.all_eq_true,zc6]
  constructor
  · intro h
    apply List.ext_getElem?
    intro i
    by_cases hi:i < a.length
    · exact zc6.1 (h i (List.mem_range.2 hi))
    · rw[List.getElem?_eq_none (by omega),List.getElem?_eq_none (by omega)]
  · rintro rfl i _; exact zmi _
theorem zNN {α:Type} {a b:List α} {i:Nat} (h1:i < a.length) (h2:i < b.length):eqB a[i]? b[i]? = eqB a[i] b[i]:=by
  rw[List.getElem?_eq_getElem h1,List.getElem?_eq_getElem h2]
  exact zNM (by simp)
theorem zkd {α σ:Type} {S:σ→Option (σ ⊕ ((Bool × Unit) ⊕ Unit))} {a b:List α} (st:Nat→σ) (hl:a.length=b.length)
    (hS:∀ (i:Nat) (h1:i < a.length) (h2:i < b.length),S (st i)=some (cond (eqB a[i] b[i]) (.inl (st (i+1))) (.inr (.inl (false,()))))) (hE:S (st a.length)=some (.inr (.inr ()))) :
    (whileO S (st 0)).bind (fun r=>match r with
      | .inl (t,_)=>some t
      | .inr _=>some true)=some (eqB a b):=by
  rw[zHJ st a.length (fun i=>eqB a[i]? b[i]?) (fun i hi=>by rw[hS i hi (by omega),zNN hi (by omega)]) hE,zL6 hl]
  cases eqB a b<;>rfl
theorem zma {α:Type} {a b:List α} {x:Option Bool} (h:a.length=b.length→x=some (eqB a b)):cond ((a.length:Int) != (b.length:Int)) (some false) x=some (eqB a b):=by
  rw[zCZ]
  by_cases hl:a.length=b.length
  · rw[h hl]
    have:(a.length==b.length)=true:=by simpa using hl
    rw[this]; rfl
  · have:(a.length==b.length)=false:=by simpa using hl
    rw[this]
    have hne:eqB a b=false:=by rw[zhW]; rintro rfl; exact hl rfl
    rw[hne]; rfl
theorem dlt {i n:Nat} (h:i < n):decide ((i:Int) < (n:Int))=true:=by simpa using h
theorem zqd {a b:List Int} (ha:a.length≤1048576):zd2 a b=some (eqB a b):=by
  unfold zd2 zhF
  refine zma fun hl=>?_
  exact zkd (S:=zcl) (fun i=>(a,b,(a.length:Int),(i:Int),())) hl (fun i h1 h2=>by
    simp only[zcl,dlt h1,cond_true,zaG h1,zaG h2,Option.bind_some,zaB h1 ha,zpY]
    cases eqB a[i] b[i]<;>rfl) (by simp[zcl])
theorem zmU {a b:List Int} (ha:a.length≤1048576):zcY a b=some (eqB a b):=by
  unfold zcY zg3
  refine zma fun hl=>?_
  exact zkd (S:=zb3) (fun i=>(a,b,(a.length:Int),(i:Int),())) hl (fun i h1 h2=>by
    simp only[zb3,dlt h1,cond_true,zaG h1,zaG h2,Option.bind_some,zaB h1 ha,zpY]
    cases eqB a[i] b[i]<;>rfl) (by simp[zb3])
theorem ziI {a b:Bool} {k:Option Bool} (h:k=some b):cond a k (some false)=some (a && b):=by subst h; cases a<;>rfl
theorem zxx {x:Option Bool} {a b:Bool} {k:Option Bool} (hx:x=some a) (h:k=some b):(x.bind fun r=>cond r k (some false))=some (a && b):=by subst hx; subst h; cases a<;>rfl
theorem zpZ {x:Option Bool}:(x.bind fun r=>some r)=x:=by cases x<;>rfl
theorem zJI (r s:Rt):eqB r s=(eqB r.neg s.neg && (eqB r.mag s.mag && eqB r.den s.den)):=by
  rw[Bool.eq_iff_iff,zc6]
  simp only[Bool.and_eq_true,zc6]
  cases r; cases s; simp
theorem zxS {r s:Rt} (h:r.fit):zex r s=some (eqB r s):=by
  unfold zex
  rw[zp1,ziI (zxx (zqd h.1) (by rw[zpZ]; exact zqd h.2)),zJI]
theorem zyG {r s:Rt} (h:r.fit):zeK r s=some (eqB r s):=by
  unfold zeK
  rw[zp1,ziI (zxx (zmU h.1) (by rw[zpZ]; exact zmU h.2)),zJI]
theorem zxQ {a b:List Rt} (h:znB Rt.fit a):zdd a b=some (eqB a b):=by
  unfold zdd zfk
  refine zma fun hl=>?_
  exact zkd (S:=zbb) (fun i=>(b,a,(a.length:Int),(i:Int),())) hl (fun i h1 h2=>by
    simp only[zbb,dlt h1,cond_true,zaG h1,zaG h2,Option.bind_some,zaB h1 h.1,zxS (h.2 _ (List.getElem_mem h1))]
    cases eqB a[i] b[i]<;>rfl) (by simp[zbb])
theorem zyE {a b:List Rt} (h:znB Rt.fit a):zde a b=some (eqB a b):=by
  unfold zde zfl
  refine zma fun hl=>?_
  exact zkd (S:=zbc) (fun i=>(a,b,(a.length:Int),(i:Int),())) hl (fun i h1 h2=>by
    simp only[zbc,dlt h1,cond_true,zaG h1,zaG h2,Option.bind_some,zaB h1 h.1,zyG (h.2 _ (List.getElem_mem h1))]
    cases eqB a[i] b[i]<;>rfl) (by simp[zbc])
theorem zJJ (r s:Mx):eqB r s=(eqB r.rows s.rows && (eqB r.cols s.cols && eqB r.cells s.cells)):=by
  rw[Bool.eq_iff_iff,zc6]
  simp only[Bool.and_eq_true,zc6]
  cases r; cases s; simp
theorem zz9 {a b:Mx} (h:znB Rt.fit a.cells):zcG a b=some (eqB a b):=by
  unfold zcG
  rw[znu,znu,ziI (ziI (by rw[zpZ]; exact zxQ h)),zJJ]
theorem zCR {a b:Mx} (h:znB Rt.fit a.cells):zcH a b=some (eqB a b):=by
  unfold zcH
  rw[znu,znu,ziI (ziI (by rw[zpZ]; exact zyE h)),zJJ]
/-! ### Searches -/
end Go.Di
namespace Go.Di
def Dig (xs:List Int):Prop:=∀ d∈xs,0≤d∧d < 1000000000
def nv:List Int→Int
  | []=>0
  | d :: r=>d+1000000000 * nv r
def bp (n:Nat):Int:=1000000000 ^ n
theorem znq:bp 0=1:=rfl
theorem zel (n:Nat):bp (n+1)=1000000000 * bp n:=by unfold bp; rw[Int.pow_succ,Int.mul_comm]
theorem zrY (m n:Nat):bp (m+n)=bp m * bp n:=by unfold bp; rw[Int.pow_add]
theorem zfb (n:Nat):0 < bp n:=by
  induction n with
  | zero=>decide
  | succ n ih=>rw[zel]; omega
theorem zuO {m n:Nat} (h:m≤n):bp m≤bp n:=by
  induction h with
  | refl=>exact Int.le_refl _
  | step h ih=>rw[zel]; have:=zfb; rename_i k; have:=zfb k; omega
theorem zkh (xs ys:List Int):nv (xs++ys)=nv xs+bp xs.length * nv ys:=by
  induction xs with
  | nil=>simp[nv,znq]
  | cons d r ih =>
    simp only[List.cons_append,nv,ih,List.length_cons,zel]
    grind
theorem zgs (xs:List Int) (d:Int):nv (xs++[d])=nv xs+bp xs.length * d:=by
  rw[zkh]; simp[nv]
theorem Dig.nil:Dig []:=fun d h=>by cases h
theorem Dig.cons {d:Int} {r:List Int} (h:0≤d∧d < 1000000000) (hr:Dig r):Dig (d :: r):=fun e he=>by
  rcases List.mem_cons.1 he with rfl | he
  · exact h
  · exact hr e he
theorem Dig.head {d:Int} {r:List Int} (h:Dig (d :: r)):0≤d∧d < 1000000000:=h d (List.mem_cons_self ..)
theorem Dig.tail {d:Int} {r:List Int} (h:Dig (d :: r)):Dig r:=fun e he=>h e (List.mem_cons_of_mem _ he)
theorem Dig.append {xs ys:List Int} (h:Dig xs) (k:Dig ys):Dig (xs++ys):=fun e he=>by
  rcases List.mem_append.1 he with he | he
  · exact h e he
  · exact k e he
theorem Dig.snoc {xs:List Int} {d:Int} (h:Dig xs) (hd:0≤d∧d < 1000000000):Dig (xs++[d]):=h.append (Dig.cons hd Dig.nil)
theorem Dig.take {xs:List Int} (h:Dig xs) (n:Nat):Dig (xs.take n):=fun e he=>h e (List.mem_of_mem_take he)
theorem Dig.drop {xs:List Int} (h:Dig xs) (n:Nat):Dig (xs.drop n):=fun e he=>h e (List.mem_of_mem_drop he)
theorem Dig.at {xs:List Int} (h:Dig xs) {i:Nat} (hi:i < xs.length):0≤xs[i]∧xs[i] < 1000000000:=h _ (List.getElem_mem hi)
theorem Dig.zeros (n:Nat):Dig (List.replicate n 0):=fun d h=>by rw[List.eq_of_mem_replicate h]; omega
theorem zl7 (n:Nat):nv (List.replicate n 0)=0:=by
  induction n with
  | zero=>rfl
  | succ n ih=>rw[List.replicate_succ,nv,ih]; rfl
theorem zaP:∀ {xs:List Int},Dig xs→0≤nv xs
  | [],_=>Int.le_refl _
  | d :: r,h=>by have:=zaP h.tail; have:=h.head; simp only[nv]; omega
theorem zoY:∀ {xs:List Int},Dig xs→nv xs < bp xs.length
  | [],_=>by simp[nv,znq]
  | d :: r,h=>by have:=zoY h.tail; have:=h.head; simp only[nv,List.length_cons,zel]; omega
def zp6 (xs:List Int):Prop:=xs.getLast? ≠ some 0
def Can (xs:List Int):Prop:=Dig xs∧zp6 xs
theorem Can.tail {d:Int} {r:List Int} (h:Can (d :: r)):Can r:=by
  refine ⟨h.1.tail,?_⟩
  cases r with
  | nil=>simp[zp6]
  | cons e r=>have:=h.2; simpa [zp6,List.getLast?_cons_cons] using this
theorem Can.zero {xs:List Int} (h:Can xs) (hv:nv xs=0):xs=[]:=by
  induction xs with
  | nil=>rfl
  | cons d r ih =>
    have h1:=zaP h.1.tail
    have h2:=h.1.head
    simp only[nv] at hv
    have h3:nv r=0:=by omega
    have h4:=ih h.tail h3
    subst h4
    have:d=0:=by omega
    subst this
    exact absurd rfl h.2
theorem Can.ext:∀ {xs ys:List Int},Can xs→Can ys→nv xs=nv ys→xs=ys
  | [],ys,_,h,hv=>(h.zero hv.symm).symm
  | d :: r,[],h,_,hv=>h.zero hv
  | d :: r,e :: s,h,k,hv=>by
    have h1:=h.1.head
    have k1:=k.1.head
    simp only[nv] at hv
    have:d=e:=by omega
    subst this
    rw[Can.ext h.tail k.tail (by omega)]
def dg (n:Nat):List Int:=if h:n=0 then [] else ((n % 1000000000:Nat):Int) :: dg (n / 1000000000)
termination_by n
decreasing_by exact Nat.div_lt_self (by omega) (by decide)
theorem zay:dg 0=[]:=by rw[dg]; rfl
theorem zoj {n:Nat} (h:n≠0):dg n=((n % 1000000000:Nat):Int) :: dg (n / 1000000000):=by rw[dg,dif_neg h]
theorem zej (n:Nat):Dig (dg n):=by
  induction n using Nat.strongRecOn with
  | _ n ih =>
    by_cases h:n=0
    · subst h; rw[zay]; exact Dig.nil
    · rw[zoj h]
      exact Dig.cons (by omega) (ih _ (Nat.div_lt_self (by omega) (by decide)))
theorem zcB (n:Nat):nv (dg n)=n:=by
  induction n using Nat.strongRecOn with
  | _ n ih =>
    by_cases h:n=0
    · subst h; rw[zay]; rfl
    · rw[zoj h,nv,ih _ (Nat.div_lt_self (by omega) (by decide))]; omega
theorem zfY {n:Nat}:dg n=[]↔n=0:=by
  constructor
  · intro h; have:=zcB n; rw[h] at this; simp[nv] at this; omega
  · rintro rfl; exact zay
theorem zbV (n:Nat):Can (dg n):=by
  refine ⟨zej n,?_⟩
  induction n using Nat.strongRecOn with
  | _ n ih =>
    by_cases h:n=0
    · subst h; rw[zay]; simp[zp6]
    · rw [zoj h]
      have hd:=ih _ (Nat.div_lt_self (by omega) (by decide):n / 1000000000 < n)
      cases hr:dg (n / 1000000000) with
      | nil =>
        have:=zfY.1 hr
        simp[zp6]; omega
      | cons e s=>rw[hr] at hd; simpa [zp6,List.getLast?_cons_cons] using hd
theorem Can.dg {xs:List Int} (h:Can xs):xs=dg (nv xs).toNat :=
  h.ext (zbV _) (by rw[zcB]; have:=zaP h.1; omega)
theorem zNR {m n:Nat} (h:dg m=dg n):m=n:=by have:=zcB m; rw[h,zcB] at this; omega
def tz (xs:List Int):List Int:=(xs.reverse.dropWhile (·==0)).reverse
theorem zsY (xs:List Int) (d:Int):tz (xs++[d])=if d=0 then tz xs else xs++[d]:=by
  unfold tz
  rw[List.reverse_append]
  by_cases h:d=0
  · simp[h]
  · simp[h]
theorem zJ9:∀ (n:Nat) (xs:List Int),xs.length=n→Dig xs→Can (tz xs)∧nv (tz xs)=nv xs:=by
  intro n
  induction n with
  | zero =>
    intro xs hl h
    have:xs=[]:=List.length_eq_zero_iff.1 hl
    subst this
    exact ⟨⟨Dig.nil,by simp[zp6,tz]⟩,rfl⟩
  | succ n ih =>
    intro xs hl h
    obtain ⟨ys,d,rfl⟩:∃ ys d,xs=ys++[d]:=⟨xs.dropLast,xs.getLast (by intro e; subst e; simp at hl),(List.dropLast_concat_getLast _).symm⟩
    rw[zsY]
    have hd:=h d (by simp)
    have hy:Dig ys:=fun e he=>h e (List.mem_append_left _ he)
    split
    · rename_i h0; subst h0
      obtain ⟨k1,k2⟩:=ih ys (by simpa using hl) hy
      exact ⟨k1,by rw[k2,zgs]; omega⟩
    · rename_i h0
      exact ⟨⟨h,by simpa [zp6] using h0⟩,rfl⟩
theorem zp9 {xs:List Int} (h:Dig xs):tz xs=dg (nv xs).toNat:=by
  obtain ⟨h1,h2⟩:=zJ9 _ xs rfl h
  rw[h1.dg,h2]
theorem zfR {n k:Nat}:(dg n).length≤k↔(n:Int) < bp k:=by
  have h1:=zoY (zej n)
  rw[zcB] at h1
  constructor
  · intro h; have:=zuO h; omega
  · intro h
    rcases Nat.lt_or_ge k (dg n).length with hk | hk
    · exfalso
      -- the top limb is worth at least bp k
      have hne:dg n≠[]:=by intro e; rw[e] at hk; simp at hk
      have hs:=List.dropLast_concat_getLast hne
      have hv:=zgs (dg n).dropLast ((dg n).getLast hne)
      rw[hs,zcB] at hv
      have hd:=zej n _ (List.getLast_mem hne)
      have h0:(dg n).getLast hne≠0:=by
        intro e
        have:=(zbV n).2
        rw[zp6,List.getLast?_eq_some_getLast hne,e] at this
        exact this rfl
      have hp:=zaP ((zej n).take ((dg n).length - 1))
      rw[← List.dropLast_eq_take] at hp
      have hl:(dg n).dropLast.length=(dg n).length - 1:=List.length_dropLast
      have hb:=zuO (show k≤(dg n).dropLast.length by omega)
      have hq:=zfb (dg n).dropLast.length
      have:bp (dg n).dropLast.length≤bp (dg n).dropLast.length * (dg n).getLast hne:=by
        have h1:(1:Int)≤(dg n).getLast hne:=by omega
        have:=Int.mul_le_mul_of_nonneg_left h1 (Int.le_of_lt hq)
        simpa using this
      omega
    · exact hk
end Go.Di
namespace Go.Di
def pB (p:Prop):Bool:=@decide p (Classical.propDecidable _)
theorem pB_iff {p:Prop}:pB p=true↔p:=by unfold pB; exact @decide_eq_true_iff _ (Classical.propDecidable _)
theorem zl6 {p q:Prop} (h:p↔q):pB p=pB q:=by rw[Bool.eq_iff_iff,pB_iff,pB_iff]; exact h
theorem pB_not {p:Prop}:pB p=false↔¬ p:=by rw[← Bool.not_eq_true,pB_iff]
theorem all_loopE {σ τ:Type} {S:σ→Option (σ ⊕ ((Bool × Unit) ⊕ τ))} (st:Nat→σ) (n:Nat) (p:Nat→Bool) (e:τ)
    (hS:∀ i,i < n→S (st i)=some (cond (p i) (.inl (st (i+1))) (.inr (.inl (false,()))))) (hE:S (st n)=some (.inr (.inr e))) :
    whileO S (st 0)=some (cond ((List.range n).all p) (.inr e) (.inl (false,()))):=by
  rw[find_loop st n (fun i=>cond (p i) none (some (.inl (false,())))) (.inr e) (fun i hi=>by rw[hS i hi]; cases p i<;>rfl) hE]
  congr 1
  cases h:(List.range n).all p with
  | true =>
    have:(List.range n).findSome? (fun i=>cond (p i) none (some (Sum.inl (β:=τ) (false,()))))=none:=by
      rw[List.findSome?_eq_none_iff]
      intro j hj
      rw[List.all_eq_true] at h
      rw[h j hj]; rfl
    rw[this]; rfl
  | false =>
    have hne:(List.range n).findSome? (fun i=>cond (p i) none (some (Sum.inl (β:=τ) (false,()))))=some (.inl (false,())):=by
      cases hf:(List.range n).findSome? (fun i=>cond (p i) none (some (Sum.inl (β:=τ) (false,())))) with
      | none =>
        rw[List.findSome?_eq_none_iff] at hf
        have:(List.range n).all p=true:=by
          rw[List.all_eq_true]
          intro j hj
          have:=hf j hj
          cases hp:p j with
          | true=>rfl
          | false=>rw[hp] at this; cases this
        rw[this] at h; cases h
      | some y =>
        obtain ⟨j,hj,hy⟩:=List.exists_of_findSome?_eq_some hf
        cases hp:p j with
        | true=>rw[hp] at hy; cases hy
        | false=>rw[hp] at hy; cases hy; rfl
    rw[hne]; rfl
def atB {α:Type} (f:α→Bool) (a:List α) (i:Nat):Bool:=((a[i]?).map f).getD true
theorem znv {α:Type} (f:α→Bool) {a:List α} {i:Nat} (h:i < a.length):atB f a i=f a[i]:=by simp[atB,h]
theorem zh3 {α:Type} (f:α→Bool) (a:List α):(List.range a.length).all (atB f a)=a.all f:=by
  rw[Bool.eq_iff_iff,List.all_eq_true,List.all_eq_true]
  constructor
  · intro h d hd
    obtain ⟨i,hi,rfl⟩:=List.getElem_of_mem hd
    have:=h i (List.mem_range.2 hi)
    rw[znv f hi] at this; exact this
  · intro h i hi
    have hi:=List.mem_range.1 hi
    rw[znv f hi]
    exact h _ (List.getElem_mem hi)
def zpf (d:Int):Bool:=decide (0≤d) && decide (d < 1000000000)
theorem zvU {a:List Int}:a.all zpf=true↔Dig a:=by
  rw[List.all_eq_true]
  constructor
  · intro h d hd; have:=h d hd; simp[zpf] at this; exact this
  · intro h d hd; have:=h d hd; simp[zpf]; exact this
def zj1 (a:List Int):Prop:=Can a∧a.length≤60
theorem zmc {a:List Int} (hn:a≠[]) (hl:a.length≤1073741824):idx a (IntKind.i64.wrap ((a.length:Int) - 1))=some (a.getLast hn):=by
  have hp:0 < a.length:=List.length_pos_iff.2 hn
  rw[wrap_i64 (by omega) (by omega)]
  have:((a.length:Int) - 1)=((a.length - 1:Nat):Int):=by omega
  rw[this,zaG (by omega)]
  rw[List.getLast_eq_getElem]
theorem spec_natOk {a:List Int} (h:a.length≤1048576):zed a=some (pB (zj1 a)):=by
  have hloop:zjM a a (a.length:Int) 0=some (cond (a.all zpf) (.inr (a,())) (.inl (false,()))):=by
    rw[← zh3]
    refine all_loopE (S:=zdg) (fun i=>(a,a,(a.length:Int),(i:Int),())) a.length (atB zpf a) (a,()) (fun i hi=>?_) (by simp[zdg])
    simp only[zdg,dlt hi,cond_true,zaG hi,Option.bind_some,zaB hi h,zdx,znv zpf hi]
    have e1:zpf a[i]=(decide (a[i] ≥ 0) && decide (a[i]≤999999999)):=by
      unfold zpf
      rw[Bool.eq_iff_iff]; simp; omega
    rw[e1]
    cases decide (a[i] ≥ 0)<;>cases decide (a[i]≤999999999)<;>rfl
  unfold zed
  rw[hloop]
  · have hdig:=@zvU a
    cases hall:a.all zpf with
    | false =>
      simp only[cond_false,Option.bind_some]
      rw[hall] at hdig
      congr 1
      symm
      rw[pB_not]
      intro hk
      exact absurd (hdig.2 hk.1.1) (by simp)
    | true =>
      rw[hall] at hdig
      have hd:=hdig.1 rfl
      simp only[cond_true,Option.bind_some]
      by_cases h60:a.length≤60
      · have:decide ((a.length:Int)≤60)=true:=by simpa using (by omega:(a.length:Int)≤60)
        rw[this,cond_true]
        cases a with
        | nil=>simp[pB_iff,zj1,Can,zp6,Dig.nil]
        | cons d r =>
          have h0:(((d :: r).length:Int)==0)=false:=by simp; omega
          rw[h0,cond_false,zmc (by simp) (by omega),Option.bind_some]
          congr 1
          rw[Bool.eq_iff_iff,pB_iff]
          simp only[bne_iff_ne,ne_eq,zj1,Can,zp6,hd,true_and,h60,and_true]
          rw[List.getLast?_eq_some_getLast (by simp)]
          simp
      · have:decide ((a.length:Int)≤60)=false:=by simpa using (by omega:(60:Int) < a.length)
        rw[this,cond_false]
        congr 1
        symm
        rw[pB_not]
        intro hk; exact h60 hk.2
theorem impl_natOk {a:List Int} (h:a.length≤1048576):zfg a=some (pB (zj1 a)):=by
  have hloop:ze8 a (a.length:Int) 0=some (cond (a.all zpf) (.inr ()) (.inl (false,()))):=by
    rw[← zh3]
    refine all_loopE (S:=zdh) (fun i=>(a,(a.length:Int),(i:Int),())) a.length (atB zpf a) () (fun i hi=>?_) (by simp[zdh])
    simp only[zdh,dlt hi,cond_true,zaG hi,Option.bind_some,zaB hi h,znv zpf hi]
    have e1:zpf a[i]=(!decide (a[i] < 0) && !decide (a[i] ≥ 1000000000)):=by
      unfold zpf
      rw[Bool.eq_iff_iff]; simp
    rw[e1]
    cases decide (a[i] < 0)<;>cases decide (a[i] ≥ 1000000000)<;>rfl
  have hdig:=@zvU a
  have fin:(Option.bind (ze8 a (a.length:Int) 0) fun r=>match r with
      | .inl (t,_)=>some t
      | .inr _=>some true)=some (a.all zpf):=by
    rw[hloop]; cases a.all zpf<;>rfl
  unfold zfg
  by_cases h60:a.length≤60
  · have : decide ((a.length:Int) > 60)=false:=by simpa using (by omega:(a.length:Int)≤60)
    rw[this,cond_false]
    cases a with
    | nil =>
      rw[show decide ((([]:List Int).length:Int) > 0)=false from rfl,cond_false]
      refine fin.trans ?_
      congr 1; symm; rw[show ([]:List Int).all zpf=true from rfl,pB_iff]; exact ⟨⟨Dig.nil,by simp[zp6]⟩,by simp⟩
    | cons d r =>
      have h0:decide ((((d :: r).length:Nat):Int) > 0)=true:=by simp
      rw[h0,cond_true,zmc (by simp) (by omega),Option.bind_some]
      have key:some (pB (zj1 (d :: r)))=cond ((d :: r).getLast (by simp)==0) (some false) (some ((d :: r).all zpf)):=by
        have e:pB (zj1 (d :: r))=(!((d :: r).getLast (by simp)==0) && (d :: r).all zpf):=by
          rw[Bool.eq_iff_iff,pB_iff,Bool.and_eq_true,hdig]
          simp only[zj1,Can,zp6,h60,and_true]
          rw[List.getLast?_eq_some_getLast (by simp)]
          simp[and_comm]
        rw[e]
        cases ((d :: r).getLast (by simp)==0)<;>rfl
      rw[key]
      congr 1
  · have:decide ((a.length:Int) > 60)=true:=by simpa using (by omega:(60:Int) < a.length)
    rw[this,cond_true]
    congr 1; symm; rw[pB_not]; intro hk; exact h60 hk.2
/-! ### Zeros taken away -/
theorem zqa {S:(Int × List Int × Unit)→Option ((Int × List Int × Unit) ⊕ (Int × List Int × Unit))} {a:List Int}
    (hS:∀ (i:Nat) (h:i < a.length),S (((i+1:Nat):Int),a,())=some (cond (a[i]==0) (.inl ((i:Int),a,())) (.inr (((i+1:Nat):Int),a,()))))
    (hE:S (0,a,())=some (.inr (0,a,()))):∀ m:Nat,m≤a.length→∃ k:Nat,k≤m∧a.take k=tz (a.take m)∧whileO S ((m:Int),a,())=some ((k:Int),a,()):=by
  intro m
  induction m with
  | zero=>intro _; exact ⟨0,Nat.le_refl _,by simp[tz],zaR hE⟩
  | succ m ih =>
    intro hm
    have hlt:m < a.length:=hm
    have ht:a.take (m+1)=a.take m++[a[m]]:=by rw[List.take_succ_eq_append_getElem hlt]
    cases hz:a[m]==0 with
    | true =>
      obtain ⟨k,k1,k2,k3⟩:=ih (by omega)
      refine ⟨k,by omega,?_,?_⟩
      · rw[ht,zsY,if_pos (by simpa using hz)]; exact k2
      · rw[zcI (by rw[hS m hlt,hz]; rfl)]; exact k3
    | false =>
      refine ⟨m+1,Nat.le_refl _,?_,?_⟩
      · rw[ht,zsY,if_neg (by simpa using hz)]
      · exact zaR (by rw[hS m hlt,hz]; rfl)
theorem zkM (n k:Nat) (h:k≤n):zal (inside n (0,(k:Int)))=some ():=by
  have:inside n (0,(k:Int))=true:=by unfold inside; simp; omega
  rw[this]; rfl
theorem zhK {a:List Int} (h:a.length≤1073741824):zbo a=some (tz a):=by
  unfold zbo zgr
  obtain ⟨k,k1,k2,k3⟩:=zqa (S:=zbI) (a:=a) (fun i hi=>by
    have e1:decide (((i+1:Nat):Int) > 0)=true:=by simp
    have e2:IntKind.i64.wrap (((i+1:Nat):Int) - 1)=(i:Int):=by rw[wrap_i64 (by omega) (by omega)]; omega
    simp only[zbI,e1,cond_true,e2,zaG hi,Option.bind_some,Int.toNat_natCast,List.getElem?_eq_getElem hi]
    cases a[i]==0<;>rfl) (by simp[zbI]) a.length (Nat.le_refl _)
  rw[k3]
  simp only[Option.bind_some,zkM _ _ k1,Int.toNat_natCast]
  rw[k2,List.take_length]
theorem zhR {a:List Int} (h:a.length≤1073741824):zcz a=some (tz a):=by
  unfold zcz zii
  obtain ⟨k,k1,k2,k3⟩:=zqa (S:=zcN) (a:=a) (fun i hi=>by
    have e1:decide (((i+1:Nat):Int) > 0)=true:=by simp
    have e2:IntKind.i64.wrap (((i+1:Nat):Int) - 1)=(i:Int):=by rw[wrap_i64 (by omega) (by omega)]; omega
    simp only[zcN,e1,cond_true,e2,zaG hi,Option.bind_some,Int.toNat_natCast,List.getElem?_eq_getElem hi]
    cases a[i]==0<;>rfl) (by simp[zcN]) a.length (Nat.le_refl _)
  rw[k3]
  simp only[Option.bind_some,zkM _ _ k1,Int.toNat_natCast]
  rw[k2,List.take_length]
end Go.Di
namespace Go.Di
theorem zbX {σ ρ:Type} {S:σ→Option (σ ⊕ ρ)} (I:Nat→σ→Prop) (n:Nat) (Q:ρ→Prop)
    (hS:∀ i,i < n→∀ x,I i x→(∃ y,S x=some (.inl y)∧I (i+1) y)∨∃ r,S x=some (.inr r)∧Q r) (hE:∀ x,I n x→∃ r,S x=some (.inr r)∧Q r) {x:σ} (h0:I 0 x):∃ r,whileO S x=some r∧Q r:=by
  have key:∀ (m i:Nat) (x:σ),i+m=n→I i x→∃ r,whileO S x=some r∧Q r:=by
    intro m
    induction m with
    | zero =>
      intro i x him h
      have:i=n:=by omega
      subst this
      obtain ⟨r,h1,h2⟩:=hE x h
      exact ⟨r,zaR h1,h2⟩
    | succ m ih =>
      intro i x him h
      rcases hS i (by omega) x h with ⟨y,h1,h2⟩ | ⟨r,h1,h2⟩
      · obtain ⟨r,h3,h4⟩:=ih (i+1) y (by omega) h2
        exact ⟨r,(zcI h1).trans h3,h4⟩
      · exact ⟨r,zaR h1,h2⟩
  exact key n 0 x (by omega) h0
theorem zdo {a:List Int} {i:Nat} (h:i < a.length):nv (a.take (i+1))=nv (a.take i)+bp i * a[i]:=by
  rw[List.take_succ_eq_append_getElem h,zgs]
  have:(a.take i).length=i:=by rw[List.length_take]; omega
  rw[this]
theorem zcA {a:List Int} {i:Nat} (h:a.length≤i):nv (a.take i)=nv a:=by rw[List.take_of_length_le h]
theorem zkD {a:List Int} (h:Dig a) {i:Nat} (hi:i≤a.length):0≤nv (a.take i)∧nv (a.take i) < bp i:=by
  have h1:=zoY (h.take i)
  rw[List.length_take,Nat.min_eq_left hi] at h1
  exact ⟨zaP (h.take i),h1⟩
theorem zJL {p x y s t:Int} (hp:0 < p) (hxy:x < y) (hs:s < p) (ht:0≤t):s+p * x < t+p * y:=by
  have h1:=Int.mul_le_mul_of_nonneg_left (show x+1≤y by omega) (Int.le_of_lt hp)
  have h2:p * (x+1)=p * x+p:=by grind
  omega
theorem wrap_add {n:Int} (h1 : -1000000000000000000≤n) (h2:n≤1000000000000000000):IntKind.i64.wrap n=n:=wrap_i64 (by omega) (by omega)
theorem zj3 {i n:Nat} (h:i≤n) (hn:n≤1073741824):IntKind.i64.wrap ((i:Int)+1)=((i+1:Nat):Int):=by
  rw[wrap_i64 (by omega) (by omega)]; omega
theorem room {n:Nat} (h:n≤1073741824):zal (Nat.ble n zar)=some ():=by
  have:Nat.ble n zar=true:=by rw[Nat.ble_eq]; unfold zar; omega
  rw[this]; rfl
/-! ### Compare -/
def zol (x y:Int):Int:=if x < y then -1 else if y < x then 1 else 0
theorem Can.low {a:List Int} (h:Can a) (hn:a≠[]):bp (a.length - 1)≤nv a:=by
  have hs:=List.dropLast_concat_getLast hn
  have hv:=zgs a.dropLast (a.getLast hn)
  rw[hs] at hv
  have h1:=h.1 _ (List.getLast_mem hn)
  have h0:a.getLast hn≠0:=by
    intro e
    have:=h.2
    rw[zp6,List.getLast?_eq_some_getLast hn,e] at this
    exact this rfl
  have hp:=zaP (h.1.take (a.length - 1))
  rw[← List.dropLast_eq_take] at hp
  have hl:a.dropLast.length=a.length - 1:=List.length_dropLast
  rw[hl] at hv
  have:=Int.mul_le_mul_of_nonneg_left (show 1≤a.getLast hn by omega) (Int.le_of_lt (zfb (a.length - 1)))
  omega
theorem Can.zCF {a b:List Int} (h:Can a) (k:Can b) (hl:a.length < b.length):nv a < nv b:=by
  have h1:=zoY h.1
  have hb:b≠[]:=by intro e; subst e; simp at hl
  have h2:=k.low hb
  have h3:=zuO (show a.length≤b.length - 1 by omega)
  omega
theorem cmp_loop {S:(List Int × List Int × Int × Unit)→Option ((List Int × List Int × Int × Unit) ⊕ ((Int × Unit) ⊕ Unit))} {a b:List Int} (hl:a.length=b.length) (ha:Dig a) (hb:Dig b)
    (hS:∀ (i:Nat) (h1:i < a.length) (h2:i < b.length),S (a,b,(i:Int),())=some (cond (decide (a[i] < b[i])) (.inr (.inl (-1,()))) (cond (decide (a[i] > b[i])) (.inr (.inl (1,()))) (.inl (a,b,(i:Int) - 1,())))))
    (hE:S (a,b,-1,())=some (.inr (.inr ()))) :
    ((whileO S (a,b,(a.length:Int) - 1,())).bind fun r=>match r with
      | .inl (t,_)=>some t
      | .inr _=>some 0)=some (zol (nv a) (nv b)):=by
  have key : ∀ m:Nat,m≤a.length→((whileO S (a,b,(m:Int) - 1,())).bind fun r=>match r with
      | .inl (t,_)=>some t
      | .inr _=>some 0)=some (zol (nv (a.take m)) (nv (b.take m))):=by
    intro m
    induction m with
    | zero =>
      intro _
      rw[zaR (show S (a,b,((0:Nat):Int) - 1,())=some (.inr (.inr ())) from hE)]
      simp[zol]
    | succ m ih =>
      intro hm
      have h1:m < a.length:=hm
      have h2:m < b.length:=by omega
      have e:((m+1:Nat):Int) - 1=(m:Int):=by omega
      obtain ⟨p1,p2⟩:=zkD ha (Nat.le_of_lt h1)
      obtain ⟨q1,q2⟩:=zkD hb (Nat.le_of_lt h2)
      rw[zdo h1,zdo h2,e]
      by_cases hlt:a[m] < b[m]
      · rw[zaR (by rw[hS m h1 h2,decide_eq_true hlt]; rfl)]
        have:=zJL (zfb m) hlt p2 q1
        simp[zol,this]
      · by_cases hgt:a[m] > b[m]
        · rw[zaR (by rw[hS m h1 h2,decide_eq_false hlt,decide_eq_true hgt]; rfl)]
          have:=zJL (zfb m) hgt q2 p1
          have h3:¬ (nv (a.take m)+bp m * a[m] < nv (b.take m)+bp m * b[m]):=by omega
          simp[zol,this,h3]
        · rw[zcI (by rw[hS m h1 h2,decide_eq_false hlt,decide_eq_false hgt]; rfl),ih (by omega)]
          have:a[m]=b[m]:=by omega
          rw[this]
          congr 1
          unfold zol
          have e1:(nv (a.take m)+bp m * b[m] < nv (b.take m)+bp m * b[m])↔nv (a.take m) < nv (b.take m):=by omega
          have e2:(nv (b.take m)+bp m * b[m] < nv (a.take m)+bp m * b[m])↔nv (b.take m) < nv (a.take m):=by omega
          simp only[e1,e2]
  have:=key a.length (Nat.le_refl _)
  rwa [List.take_length,hl,List.take_length,← hl] at this
theorem zDM {a b:List Int} (ha:Can a) (hb:Can b) {x:Option Int} (h:a.length=b.length→x=some (zol (nv a) (nv b))) :
    cond ((a.length:Int) != (b.length:Int)) (cond (decide ((a.length:Int) < (b.length:Int))) (some (-1)) (some 1)) x=some (zol (nv a) (nv b)):=by
  rw[zCZ]
  by_cases hl:a.length=b.length
  · have:(a.length==b.length)=true:=by simpa using hl
    rw[this]; exact h hl
  · have:(a.length==b.length)=false:=by simpa using hl
    rw[this]
    simp only[Bool.not_false,cond_true]
    by_cases hlt:a.length < b.length
    · rw[decide_eq_true (by omega:(a.length:Int) < (b.length:Int)),cond_true]
      have:=ha.zCF hb hlt
      simp[zol,this]
    · rw[decide_eq_false (by omega:¬ (a.length:Int) < (b.length:Int)),cond_false]
      have:=hb.zCF ha (by omega)
      have h3:¬ nv a < nv b:=by omega
      simp[zol,this,h3]
theorem zl2 {a b:List Int} (ha:Can a) (hb:Can b) (hl:a.length≤1073741824):zdc a b=some (zol (nv a) (nv b)):=by
  unfold zdc zic
  refine zDM ha hb fun h=>?_
  rw[wrap_i64 (by omega) (by omega)]
  refine cmp_loop (S:=zcL) h ha.1 hb.1 (fun i h1 h2=>?_) (by simp[zcL])
  simp only[zcL,show decide ((i:Int) ≥ 0)=true by simp,cond_true,zaG h1,zaG h2,Option.bind_some,wrap_i64 (show -9223372036854775808≤(i:Int) - 1 by omega) (show (i:Int) - 1≤9223372036854775807 by omega)]
  cases decide (a[i] < b[i])<;>cases decide (a[i] > b[i])<;>rfl
theorem zvI {a b:List Int} (ha:Can a) (hb:Can b) (hl:a.length≤1073741824):zeH a b=some (zol (nv a) (nv b)):=by
  unfold zeH zio
  refine zDM ha hb fun h=>?_
  rw[wrap_i64 (by omega) (by omega)]
  refine cmp_loop (S:=zcU) h ha.1 hb.1 (fun i h1 h2=>?_) (by simp[zcU])
  simp only[zcU,show decide ((i:Int) ≥ 0)=true by simp,cond_true,zaG h1,zaG h2,Option.bind_some,wrap_i64 (show -9223372036854775808≤(i:Int) - 1 by omega) (show (i:Int) - 1≤9223372036854775807 by omega)]
  cases decide (a[i] < b[i])<;>cases decide (a[i] > b[i])<;>rfl
/-! ### Numbers out of ints -/
theorem zx5 {S:(Int × List Int × Unit)→Option ((Int × List Int × Unit) ⊕ (List Int × Unit))}
    (hS:∀ (n:Nat) (out:List Int),0 < n→n≤9223372036854775807→out.length < 1073741824→S ((n:Int),out,())=some (.inl (((n / 1000000000:Nat):Int),out++[((n % 1000000000:Nat):Int)],())))
    (hE:∀ (n:Int) (out:List Int),n≤0→S (n,out,())=some (.inr (out,()))):∀ (n:Nat) (out:List Int),n≤9223372036854775807→out.length+n < 1073741824+9223372036854775807→out.length+(dg n).length≤1073741824→whileO S ((n:Int),out,())=some (out++dg n,()):=by
  intro n
  induction n using Nat.strongRecOn with
  | _ n ih =>
    intro out hn _ hlen
    by_cases h:n=0
    · subst h; rw[zay,List.append_nil]; exact zaR (hE _ _ (by simp))
    · have hd:=zoj h
      rw[hd] at hlen
      simp only[List.length_cons] at hlen
      rw[zcI (hS n out (by omega) hn (by omega)),ih (n / 1000000000) (Nat.div_lt_self (by omega) (by decide)) _ (by omega) (by simp; omega) (by simp; omega),hd]
      simp
theorem zgJ {n:Nat} (h:n≤9223372036854775807):(dg n).length≤3:=zfR.2 (by simp[bp]; omega)
theorem zeO {n:Int} (h:n≤9223372036854775807):zcv n=some (dg n.toNat):=by
  unfold zcv zjN
  have hS:∀ (n:Nat) (out:List Int),0 < n→n≤9223372036854775807→out.length < 1073741824→zcD ((n:Int),out,())=some (.inl (((n / 1000000000:Nat):Int),out++[((n % 1000000000:Nat):Int)],())):=fun n out h0 hn hl=>by
    simp only[zcD,show decide ((n:Int) > 0)=true by simpa using h0,cond_true,room (show out.length+1≤1073741824 by omega),Option.bind_some]
    rw[Int.tdiv_eq_ediv_of_nonneg (by omega),Int.tmod_eq_emod_of_nonneg (by omega),wrap_i64 (by omega) (by omega)]
    rfl
  have hE:∀ (n:Int) (out:List Int),n≤0→zcD (n,out,())=some (.inr (out,())):=fun n out hn=>by
    simp only[zcD,show decide (n > 0)=false by simpa using hn,cond_false]
  by_cases h0:n≤0
  · rw[zaR (hE n [] h0)]
    have:n.toNat=0:=by omega
    rw[this,zay]; rfl
  · have e:n=((n.toNat:Nat):Int):=by omega
    have:=zx5 hS hE n.toNat [] (by omega) (by simp; omega) (by have:=zgJ (show n.toNat≤9223372036854775807 by omega); simp; omega)
    rw[← e] at this
    rw[this]; simp
theorem zkN {n:Int} (h:n≤9223372036854775807):zfh n=some (dg n.toNat):=zeO h
end Go.Di
namespace Go.Di
theorem zhc (a:List Int) (i:Nat):nv (a.take (i+1))=nv (a.take i)+bp i * (a[i]?).getD 0:=by
  by_cases h:i < a.length
  · rw[zdo h,List.getElem?_eq_getElem h]; rfl
  · rw[zcA (by omega),zcA (by omega),List.getElem?_eq_none (by omega)]; simp
theorem Dig.get {a:List Int} (h:Dig a) (i:Nat):0≤(a[i]?).getD 0∧(a[i]?).getD 0 < 1000000000:=by
  by_cases hi:i < a.length
  · rw[List.getElem?_eq_getElem hi]; exact h.at hi
  · rw[List.getElem?_eq_none (by omega)]; simp
theorem Can.mk' {xs:List Int} (h:Dig xs) (k:xs≠[]→bp (xs.length - 1)≤nv xs):Can xs:=by
  refine ⟨h,fun hl=>?_⟩
  have hn:xs≠[]:=by intro e; subst e; simp at hl
  have hs:=List.dropLast_concat_getLast hn
  have h0:xs.getLast hn=0:=by rw[List.getLast?_eq_some_getLast hn] at hl; simpa using hl
  have hv:=zgs xs.dropLast (xs.getLast hn)
  rw[hs,h0] at hv
  have hd:Dig xs.dropLast:=by rw[List.dropLast_eq_take]; exact h.take _
  have:=zoY hd
  rw[List.length_dropLast] at this
  have:=k hn
  omega
theorem zDf {xs:List Int} {n:Nat} (h:Can xs) (hv:nv xs=n):xs=dg n:=by rw[h.dg,hv]; simp
/-! ### Added,in the reference model -/
theorem zqi {a b out:List Int} {c:Int} {i:Nat} (ha:Dig a) (hb:Dig b) (hc:0≤c∧c≤1) (ho:out.length≤1073741000) (hi:i≤1073741000) (hgo:i < a.length∨i < b.length∨0 < c) :
    zaV (a,b,c,(i:Int),out,())=some (.inl (a,b,(c+(a[i]?).getD 0+(b[i]?).getD 0) / 1000000000,((i+1:Nat):Int),out++[(c+(a[i]?).getD 0+(b[i]?).getD 0) % 1000000000],())):=by
  have h1:=ha.get i
  have h2:=hb.get i
  have hw:=zj3 (Nat.le_refl i) (by omega)
  have hr:=room (show out.length+1≤1073741824 by omega)
  by_cases hA:i < a.length<;>by_cases hB:i < b.length
  · simp only[zaV,dlt hA,dlt hB,cond_true,zaG hA,zaG hB,Option.bind_some,hr,hw]
    rw[List.getElem?_eq_getElem hA,List.getElem?_eq_getElem hB] at *
    simp only[Option.getD_some] at *
    rw[wrap_add (n:=c+a[i]) (by omega) (by omega),wrap_add (n:=c+a[i]+b[i]) (by omega) (by omega),Int.tdiv_eq_ediv_of_nonneg (by omega),Int.tmod_eq_emod_of_nonneg (by omega),wrap_add (by omega) (by omega)]
  · have hB':decide ((i:Int) < (b.length:Int))=false:=by simpa using hB
    simp only[zaV,dlt hA,hB',cond_true,cond_false,zaG hA,Option.bind_some,hr,hw]
    rw[List.getElem?_eq_getElem hA,List.getElem?_eq_none (by omega:b.length≤i)] at *
    simp only[Option.getD_some,Option.getD_none,Int.add_zero] at *
    rw[wrap_add (n:=c+a[i]) (by omega) (by omega),Int.tdiv_eq_ediv_of_nonneg (by omega),Int.tmod_eq_emod_of_nonneg (by omega),wrap_add (by omega) (by omega)]
  · have hA':decide ((i:Int) < (a.length:Int))=false:=by simpa using hA
    simp only[zaV,dlt hB,hA',cond_true,cond_false,zaG hB,Option.bind_some,hr,hw]
    rw[List.getElem?_eq_getElem hB,List.getElem?_eq_none (by omega:a.length≤i)] at *
    simp only[Option.getD_some,Option.getD_none,Int.add_zero] at *
    rw[wrap_add (n:=c+b[i]) (by omega) (by omega),Int.tdiv_eq_ediv_of_nonneg (by omega),Int.tmod_eq_emod_of_nonneg (by omega),wrap_add (by omega) (by omega)]
  · have hA':decide ((i:Int) < (a.length:Int))=false:=by simpa using hA
    have hB':decide ((i:Int) < (b.length:Int))=false:=by simpa using hB
    have hc':decide (c > 0)=true:=by simpa using (by omega:0 < c)
    simp only[zaV,hA',hB',hc',cond_true,cond_false,Option.bind_some,hr,hw]
    rw[List.getElem?_eq_none (by omega:a.length≤i),List.getElem?_eq_none (by omega:b.length≤i)] at *
    simp only[Option.getD_none,Int.add_zero] at *
    rw[Int.tdiv_eq_ediv_of_nonneg (by omega),Int.tmod_eq_emod_of_nonneg (by omega),wrap_add (by omega) (by omega)]
theorem zmq {a b out:List Int} {i:Nat} (hA:a.length≤i) (hB:b.length≤i):zaV (a,b,0,(i:Int),out,())=some (.inr (out,())):=by
  have hA':decide ((i:Int) < (a.length:Int))=false:=by simpa using hA
  have hB':decide ((i:Int) < (b.length:Int))=false:=by simpa using hB
  simp only[zaV,hA',hB',cond_false]
  rfl
structure AddI (a b:List Int) (i:Nat) (c:Int) (out:List Int):Prop where
  len:out.length=i
  dig:Dig out
  c01:0≤c∧c≤1
  val:nv out+bp i * c=nv (a.take i)+nv (b.take i)
theorem AddI.step {a b out:List Int} {c:Int} {i:Nat} (h:AddI a b i c out) (ha:Dig a) (hb:Dig b) :
    AddI a b (i+1) ((c+(a[i]?).getD 0+(b[i]?).getD 0) / 1000000000) (out++[(c+(a[i]?).getD 0+(b[i]?).getD 0) % 1000000000]):=by
  have h1:=ha.get i
  have h2:=hb.get i
  obtain ⟨hl,hd,hc,hv⟩:=h
  refine ⟨by simp[hl],hd.snoc (by omega),by omega,?_⟩
  rw[zgs,hl,zhc,zhc,zel]
  generalize hs:c+(a[i]?).getD 0+(b[i]?).getD 0=s at *
  have hm:s=s % 1000000000+1000000000 * (s / 1000000000):=by omega
  generalize s % 1000000000=r at *
  generalize s / 1000000000=q at *
  generalize (a[i]?).getD 0=x at *
  generalize (b[i]?).getD 0=y at *
  generalize bp i=p at *
  grind
theorem spec_add {m n:Nat} (hm:(dg m).length≤1073740000) (hn:(dg n).length≤1073740000):zfA (dg m) (dg n)=some (dg (m+n)):=by
  unfold zfA zid
  have ha:=zej m
  have hb:=zej n
  have hca:=zbV m
  have hcb:=zbV n
  have hva:=zcB m
  have hvb:=zcB n
  generalize dg m=a at *
  generalize dg n=b at *
  let k:=max a.length b.length
  have hk:a.length≤k∧b.length≤k∧(k=a.length∨k=b.length)∧k≤1073740000:=by omega
  obtain ⟨r,h1,h2⟩:=zbX (S:=zaV) (fun i x=>∃ c out,x=(a,b,c,(i:Int),out,())∧AddI a b i c out∧(k < i→c=0∧bp k≤nv out)) (k+1) (fun r=>∃ out,r=(out,())∧Can out∧nv out=nv a+nv b)
    (fun i hi x hx=>by
      obtain ⟨c,out,rfl,hI,hlast⟩:=hx
      by_cases hgo:i < a.length∨i < b.length∨0 < c
      · left
        refine ⟨_,zqi ha hb hI.c01 (by have:=hI.len; omega) (by omega) hgo,_,_,rfl,hI.step ha hb,fun hki=>?_⟩
        have hik:i=k:=by omega
        subst hik
        have hA:a.length≤k:=hk.1
        have hB:b.length≤k:=hk.2.1
        have hc:c=1:=by have:=hI.c01; omega
        rw[List.getElem?_eq_none hA,List.getElem?_eq_none hB]
        subst hc
        refine ⟨by simp,?_⟩
        rw[zgs,hI.len]
        have:=zaP hI.dig
        simp only[Option.getD_none,Int.add_zero]
        have e:(1:Int) % 1000000000=1:=by decide
        rw[e]; omega
      · right
        have hc:c=0:=by have:=hI.c01; omega
        subst hc
        refine ⟨_,zmq (by omega) (by omega),out,rfl,?_⟩
        have hv:=hI.val
        rw[zcA (by omega),zcA (by omega)] at hv
        have hik:i=k:=by omega
        refine ⟨Can.mk' hI.dig fun hne=>?_,by omega⟩
        rw[hI.len]
        have hpos:0 < i:=by
          have:=List.length_pos_iff.2 hne; have:=hI.len; omega
        rcases hk.2.2.1 with e | e
        · have:=hca.low (by intro e'; subst e'; simp at e; omega)
          have h0:=zaP hb
          rw[hik,e]; omega
        · have:=hcb.low (by intro e'; subst e'; simp at e; omega)
          have h0:=zaP ha
          rw[hik,e]; omega)
    (fun x hx=>by
      obtain ⟨c,out,rfl,hI,hlast⟩:=hx
      obtain ⟨rfl,hb'⟩:=hlast (by omega)
      refine ⟨_,zmq (by omega) (by omega),out,rfl,?_⟩
      have hv:=hI.val
      rw[zcA (by omega),zcA (by omega)] at hv
      exact ⟨Can.mk' hI.dig fun _=>by rw[hI.len]; simpa using hb',by omega⟩)
    (x:=(a,b,0,0,[],())) ⟨0,[],rfl,⟨rfl,Dig.nil,by omega,by simp[nv]⟩,fun h=>by omega⟩
  rw[h1]
  obtain ⟨out,rfl,h3,h4⟩:=h2
  simp only[Option.bind_some]
  rw[zDf h3 (n:=m+n) (by omega)]
end Go.Di
namespace Go.Di
theorem zq1 {a b out:List Int} {c:Int} {i:Nat} (ha:Dig a) (hb:Dig b) (hc:0≤c∧c≤1) (ho:out.length≤1073741000) (hi:i < a.length) (hl:a.length≤1073741000) :
    zbG (a,b,c,(a.length:Int),(i:Int),out,())=some (.inl (a,b,(c+(a[i]?).getD 0+(b[i]?).getD 0) / 1000000000,(a.length:Int),((i+1:Nat):Int),out++[(c+(a[i]?).getD 0+(b[i]?).getD 0) % 1000000000],())):=by
  have h1:=ha.get i
  have h2:=hb.get i
  have hw:=zj3 (Nat.le_of_lt hi) (show a.length≤1073741824 by omega)
  have hr:=room (show out.length+1≤1073741824 by omega)
  by_cases hB:i < b.length
  · simp only[zbG,dlt hi,dlt hB,cond_true,zaG hi,zaG hB,Option.bind_some,hr,hw]
    rw[List.getElem?_eq_getElem hi,List.getElem?_eq_getElem hB] at *
    simp only[Option.getD_some] at *
    rw[wrap_add (n:=a[i]+c) (by omega) (by omega),wrap_add (n:=a[i]+c+b[i]) (by omega) (by omega)]
    by_cases hs:a[i]+c+b[i] ≥ 1000000000
    · rw[decide_eq_true hs,cond_true,wrap_add (by omega) (by omega)]
      rw[show (c+a[i]+b[i]) / 1000000000=1 by omega,show (c+a[i]+b[i]) % 1000000000=a[i]+c+b[i] - 1000000000 by omega]
    · rw[decide_eq_false hs,cond_false]
      rw[show (c+a[i]+b[i]) / 1000000000=0 by omega,show (c+a[i]+b[i]) % 1000000000=a[i]+c+b[i] by omega]
  · have hB':decide ((i:Int) < (b.length:Int))=false:=by simpa using hB
    simp only[zbG,dlt hi,hB',cond_true,cond_false,zaG hi,Option.bind_some,hr,hw]
    rw[List.getElem?_eq_getElem hi,List.getElem?_eq_none (by omega:b.length≤i)] at *
    simp only[Option.getD_some,Option.getD_none,Int.add_zero] at *
    rw[wrap_add (n:=a[i]+c) (by omega) (by omega)]
    by_cases hs:a[i]+c ≥ 1000000000
    · rw[decide_eq_true hs,cond_true,wrap_add (by omega) (by omega)]
      rw[show (c+a[i]) / 1000000000=1 by omega,show (c+a[i]) % 1000000000=a[i]+c - 1000000000 by omega]
    · rw[decide_eq_false hs,cond_false]
      rw[show (c+a[i]) / 1000000000=0 by omega,show (c+a[i]) % 1000000000=a[i]+c by omega]
theorem zq2 {a b:List Int} (ha:Dig a) (hb:Dig b) (hl:a.length≤1073741000):∃ c out,zdG a b 0 (a.length:Int) 0 []=some (c,out,())∧AddI a b a.length c out:=by
  unfold zdG
  obtain ⟨r,h1,c,out,rfl,h2⟩:=zbX (S:=zbG) (fun i x=>∃ c out,x=(a,b,c,(a.length:Int),(i:Int),out,())∧AddI a b i c out) a.length (fun r=>∃ c out,r=(c,out,())∧AddI a b a.length c out)
    (fun i hi x hx=>by
      obtain ⟨c,out,rfl,hI⟩:=hx
      exact .inl ⟨_,zq1 ha hb hI.c01 (by have:=hI.len; omega) hi hl,_,_,rfl,hI.step ha hb⟩)
    (fun x hx=>by
      obtain ⟨c,out,rfl,hI⟩:=hx
      exact ⟨_,by simp[zbG],c,out,rfl,hI⟩)
    (x:=(a,b,0,(a.length:Int),0,[],())) ⟨0,[],rfl,⟨rfl,Dig.nil,by omega,by simp[nv]⟩⟩
  exact ⟨c,out,h1,h2⟩
theorem zlR {a b:List Int} (ha:Can a) (hb:Can b) (hl:a.length≤1073740000) (hle:b.length≤a.length) {m:Nat} (hm:nv a+nv b=m) :
    ((zal ((decide (0≤(IntKind.i64.wrap ((a.length:Int)+1)))) && (decide ((IntKind.i64.wrap ((a.length:Int)+1))≤(zar:Int))))).bind fun _ =>
    (zdG a b 0 (a.length:Int) 0 (List.replicate 0 0:List Int)).bind fun (carry,out,_) =>
    cond (decide (carry > 0))
      ((zal (Nat.ble (out.length+1) zar)).bind fun _ =>
      some (out++([1]:List Int)))
      (some out))=some (dg m):=by
  have hw:IntKind.i64.wrap ((a.length:Int)+1)=((a.length+1:Nat):Int):=zj3 (Nat.le_refl _) (by omega)
  rw[hw]
  have hg:zal (decide (0≤((a.length+1:Nat):Int)) && decide (((a.length+1:Nat):Int)≤(zar:Int)))=some ():=by
    rw[decide_eq_true (by omega),decide_eq_true (by unfold zar; omega)]; rfl
  rw[hg,Option.bind_some]
  obtain ⟨c,out,h1,h2⟩:=zq2 ha.1 hb.1 (by omega)
  rw[show (List.replicate 0 0:List Int)=[] from rfl,h1,Option.bind_some]
  simp only[]
  have hv:=h2.val
  rw[zcA (Nat.le_refl _),zcA hle] at hv
  have hlen:=h2.len
  by_cases hc:c > 0
  · have hc1:c=1:=by have:=h2.c01; omega
    subst hc1
    rw[show decide ((1:Int) > 0)=true from rfl,cond_true,room (by omega),Option.bind_some]
    refine congrArg some ?_
    have h0:=zaP h2.dig
    refine zDf (Can.mk' (h2.dig.snoc (by omega)) fun _=>?_) ?_
    · rw[zgs,List.length_append,hlen]; simp; omega
    · rw[zgs,hlen]; omega
  · have hc0:c=0:=by have:=h2.c01; omega
    subst hc0
    rw[show decide ((0:Int) > 0)=false from rfl,cond_false]
    refine congrArg some ?_
    refine zDf (Can.mk' h2.dig fun hne=>?_) (by omega)
    have hpos:=List.length_pos_iff.2 hne
    have:=ha.low (by intro e; rw[e] at hlen; simp at hlen; exact hne hlen)
    have h0:=zaP hb.1
    rw[hlen]; omega
theorem zvJ {m n:Nat} (hm:(dg m).length≤1073740000) (hn:(dg n).length≤1073740000):zeI (dg m) (dg n)=some (dg (m+n)):=by
  unfold zeI
  by_cases h:(dg m).length < (dg n).length
  · rw[dlt h,cond_true]
    exact zlR (zbV n) (zbV m) hn (by omega) (by rw[zcB,zcB]; omega)
  · rw[show decide (((dg m).length:Int) < ((dg n).length:Int))=false by simpa using h,cond_false]
    exact zlR (zbV m) (zbV n) hm (by omega) (by rw[zcB,zcB]; omega)
/-! ### Taken away -/
structure SubI (a b:List Int) (i:Nat) (c:Int) (out:List Int):Prop where
  len:out.length=i
  dig:Dig out
  c01:0≤c∧c≤1
  val:nv out+nv (b.take i)=nv (a.take i)+bp i * c
theorem SubI.step {a b out:List Int} {c:Int} {i:Nat} (h:SubI a b i c out) (_ha:Dig a) (_hb:Dig b) {c' d:Int} (hs:d - 1000000000 * c'=(a[i]?).getD 0 - c - (b[i]?).getD 0) (hd':0≤d∧d < 1000000000) (hc':0≤c'∧c'≤1) :
    SubI a b (i+1) c' (out++[d]):=by
  obtain ⟨hl,hd,hc,hv⟩:=h
  refine ⟨by simp[hl],hd.snoc hd',hc',?_⟩
  rw[zgs,hl,zhc,zhc,zel]
  generalize (a[i]?).getD 0=x at *
  generalize (b[i]?).getD 0=y at *
  generalize bp i=p at *
  grind
theorem SubI.fin {a b out:List Int} {c:Int} (h:SubI a b a.length c out) (ha:Dig a) (_hb:Dig b) (hle:nv b≤nv a) (hlen:b.length≤a.length) {m:Nat} (hm:nv a - nv b=m):tz out=dg m:=by
  have hv:=h.val
  rw[zcA (Nat.le_refl _),zcA hlen] at hv
  have h1:=zoY h.dig
  rw[h.len] at h1
  have h2:=zoY ha
  have hp:=zfb a.length
  have hc:c=0:=by
    have:=h.c01
    by_cases e:c=0
    · exact e
    · have:c=1:=by omega
      subst this
      omega
  subst hc
  rw[zp9 h.dig]
  congr 1
  omega
theorem zqg {a b out:List Int} {c:Int} {i:Nat} (ha:Dig a) (hb:Dig b) (hI:SubI a b i c out) (hi:i < a.length) (hl:a.length≤1073741000) :
    ∃ c' out',zbC (a,b,c,(a.length:Int),(i:Int),out,())=some (.inl (a,b,c',(a.length:Int),((i+1:Nat):Int),out',()))∧SubI a b (i+1) c' out':=by
  have h1:=ha.get i
  have h2:=hb.get i
  have hc:=hI.c01
  have hw:=zj3 (Nat.le_of_lt hi) (show a.length≤1073741824 by omega)
  have hr:=room (show out.length+1≤1073741824 by have:=hI.len; omega)
  have hstep:∀ c' d:Int,d - 1000000000 * c'=(a[i]?).getD 0 - c - (b[i]?).getD 0→0≤d∧d < 1000000000→0≤c'∧c'≤1→SubI a b (i+1) c' (out++[d]):=fun c' d=>hI.step ha hb
  by_cases hB:i < b.length
  · simp only[zbC,dlt hi,dlt hB,cond_true,zaG hi,zaG hB,Option.bind_some,hr,hw]
    rw[List.getElem?_eq_getElem hi,List.getElem?_eq_getElem hB] at *
    simp only[Option.getD_some] at *
    rw[wrap_add (n:=a[i] - c) (by omega) (by omega),wrap_add (n:=a[i] - c - b[i]) (by omega) (by omega)]
    by_cases hs:a[i] - c - b[i] < 0
    · rw[decide_eq_true hs,cond_true,wrap_add (by omega) (by omega)]
      exact ⟨_,_,rfl,hstep _ _ (by omega) (by omega) (by omega)⟩
    · rw[decide_eq_false hs,cond_false]
      exact ⟨_,_,rfl,hstep _ _ (by omega) (by omega) (by omega)⟩
  · have hB':decide ((i:Int) < (b.length:Int))=false:=by simpa using hB
    simp only[zbC,dlt hi,hB',cond_true,cond_false,zaG hi,Option.bind_some,hr,hw]
    rw[List.getElem?_eq_getElem hi,List.getElem?_eq_none (by omega:b.length≤i)] at *
    simp only[Option.getD_some,Option.getD_none] at *
    rw[wrap_add (n:=a[i] - c) (by omega) (by omega)]
    by_cases hs:a[i] - c < 0
    · rw[decide_eq_true hs,cond_true,wrap_add (by omega) (by omega)]
      exact ⟨_,_,rfl,hstep _ _ (by omega) (by omega) (by omega)⟩
    · rw[decide_eq_false hs,cond_false]
      exact ⟨_,_,rfl,hstep _ _ (by omega) (by omega) (by omega)⟩
theorem Can.zJB {a b:List Int} (h:Can a) (k:Can b) (hv:nv a≤nv b):a.length≤b.length:=by
  rcases Nat.lt_or_ge b.length a.length with h1 | h1
  · have:=k.zCF h h1; omega
  · exact h1
theorem zoI {m n:Nat} (hm:(dg m).length≤1073740000) (hnm:n≤m):zdQ (dg m) (dg n)=some (dg (m - n)):=by
  unfold zdQ zh7
  have hca:=zbV m
  have hcb:=zbV n
  have hva:=zcB m
  have hvb:=zcB n
  generalize dg m=a at *
  generalize dg n=b at *
  have hlen:=hcb.zJB hca (by omega)
  obtain ⟨r,h1,c,out,rfl,h2⟩:=zbX (S:=zbC) (fun i x=>∃ c out,x=(a,b,c,(a.length:Int),(i:Int),out,())∧SubI a b i c out) a.length (fun r=>∃ c out,r=(out,())∧SubI a b a.length c out)
    (fun i hi x hx=>by
      obtain ⟨c,out,rfl,hI⟩:=hx
      obtain ⟨c',out',q1,q2⟩:=zqg hca.1 hcb.1 hI hi (by omega)
      exact .inl ⟨_,q1,c',out',rfl,q2⟩)
    (fun x hx=>by
      obtain ⟨c,out,rfl,hI⟩:=hx
      exact ⟨_,by simp[zbC],c,out,rfl,hI⟩)
    (x:=(a,b,0,(a.length:Int),0,[],())) ⟨0,[],rfl,⟨rfl,Dig.nil,by omega,by simp[nv]⟩⟩
  rw[h1,Option.bind_some]
  simp only[]
  rw[zhK (by have:=h2.len; omega),Option.bind_some,h2.fin hca.1 hcb.1 (by omega) hlen (m:=m - n) (by omega)]
end Go.Di
namespace Go.Di
theorem set_mid {a out:List Int} {i:Nat} {d:Int} (hl:out.length=i) (hi:i < a.length):(out++a.drop i).set i d=(out++[d])++a.drop (i+1):=by
  rw[List.set_append_right _ _ (by omega),hl,Nat.sub_self,List.drop_eq_getElem_cons hi,List.set_cons_zero]
  simp
theorem zLI {a out:List Int} {i:Nat} (hl:out.length=i) (hi:i < a.length):(out++a.drop i)[i]? = some a[i]:=by
  rw[List.getElem?_append_right (by omega),hl,Nat.sub_self,List.drop_eq_getElem_cons hi]; rfl
theorem zeU {α:Type} {xs:List α} {i:Nat} {x:α} (h:xs[i]? = some x):idx xs (i:Int)=some x:=by rw[zhh]; exact h
theorem zq0 {a b out:List Int} {c:Int} {i:Nat} (ha:Dig a) (hb:Dig b) (hI:SubI a b i c out) (hi:i < a.length) (hl:a.length≤1073741000) :
    ∃ c' out',zbE (b,c,(a.length:Int),(i:Int),out++a.drop i,())=some (.inl (b,c',(a.length:Int),((i+1:Nat):Int),out'++a.drop (i+1),()))∧SubI a b (i+1) c' out':=by
  have h1:=ha.get i
  have h2:=hb.get i
  have hc:=hI.c01
  have hw:=zj3 (Nat.le_of_lt hi) (show a.length≤1073741824 by omega)
  have hg:=zLI hI.len hi
  have hstep:∀ c' d:Int,d - 1000000000 * c'=(a[i]?).getD 0 - c - (b[i]?).getD 0→0≤d∧d < 1000000000→0≤c'∧c'≤1→SubI a b (i+1) c' (out++[d]):=fun c' d=>hI.step ha hb
  by_cases hB:i < b.length
  · simp only[zbE,dlt hi,dlt hB,cond_true,zeU hg,Int.toNat_natCast,hg,zaG hB,Option.bind_some,hw,set_mid hI.len hi]
    rw[List.getElem?_eq_getElem hi,List.getElem?_eq_getElem hB] at *
    simp only[Option.getD_some] at *
    rw[wrap_add (n:=a[i] - c) (by omega) (by omega),wrap_add (n:=a[i] - c - b[i]) (by omega) (by omega)]
    by_cases hs:a[i] - c - b[i] < 0
    · rw[decide_eq_true hs,cond_true,wrap_add (by omega) (by omega)]
      exact ⟨_,_,rfl,hstep _ _ (by omega) (by omega) (by omega)⟩
    · rw[decide_eq_false hs,cond_false]
      exact ⟨_,_,rfl,hstep _ _ (by omega) (by omega) (by omega)⟩
  · have hB':decide ((i:Int) < (b.length:Int))=false:=by simpa using hB
    simp only[zbE,dlt hi,hB',cond_true,cond_false,zeU hg,Int.toNat_natCast,hg,Option.bind_some,hw,set_mid hI.len hi]
    rw[List.getElem?_eq_getElem hi,List.getElem?_eq_none (by omega:b.length≤i)] at *
    simp only[Option.getD_some,Option.getD_none] at *
    rw[wrap_add (n:=a[i] - c) (by omega) (by omega)]
    by_cases hs:a[i] - c < 0
    · rw[decide_eq_true hs,cond_true,wrap_add (by omega) (by omega)]
      exact ⟨_,_,rfl,hstep _ _ (by omega) (by omega) (by omega)⟩
    · rw[decide_eq_false hs,cond_false]
      exact ⟨_,_,rfl,hstep _ _ (by omega) (by omega) (by omega)⟩
theorem zvG {m n:Nat} (hm:(dg m).length≤1073740000) (hnm:n≤m):zeG (dg m) (dg n)=some (dg (m - n)):=by
  unfold zeG zij zaM
  have hca:=zbV m
  have hcb:=zbV n
  have hva:=zcB m
  have hvb:=zcB n
  generalize dg m=a at *
  generalize dg n=b at *
  have hlen:=hcb.zJB hca (by omega)
  rw[room (by omega),Option.bind_some,Option.bind_some]
  obtain ⟨r,h1,c,out,rfl,h2⟩:=zbX (S:=zbE) (fun i x=>∃ c out,x=(b,c,(a.length:Int),(i:Int),out++a.drop i,())∧SubI a b i c out) a.length (fun r=>∃ c out,r=(out,())∧SubI a b a.length c out)
    (fun i hi x hx=>by
      obtain ⟨c,out,rfl,hI⟩:=hx
      obtain ⟨c',out',q1,q2⟩:=zq0 hca.1 hcb.1 hI hi (by omega)
      exact .inl ⟨_,q1,c',out',rfl,q2⟩)
    (fun x hx=>by
      obtain ⟨c,out,rfl,hI⟩:=hx
      exact ⟨_,by simp[zbE],c,out,rfl,hI⟩)
    (x:=(b,0,(a.length:Int),0,a,())) ⟨0,[],by simp,⟨rfl,Dig.nil,by omega,by simp[nv]⟩⟩
  rw[h1,Option.bind_some]
  simp only[]
  rw[zhR (by have:=h2.len; omega),Option.bind_some,h2.fin hca.1 hcb.1 (by omega) hlen (m:=m - n) (by omega)]
/-! ### Divided by one limb -/
structure SmallI (a:List Int) (d:Int) (i:Nat) (rest:Int) (out:List Int):Prop where
  len:out.length=a.length
  dig:Dig out
  r0:0≤rest∧rest < d
  val:nv (a.drop i)=d * nv (out.drop i)+rest
theorem zdj {a:List Int} {i:Nat} (h:i < a.length):nv (a.drop i)=a[i]+1000000000 * nv (a.drop (i+1)):=by
  rw[List.drop_eq_getElem_cons h,nv]
theorem Dig.set {a:List Int} (h:Dig a) (i:Nat) {d:Int} (hd:0≤d∧d < 1000000000):Dig (a.set i d):=fun e he=>by
  rcases List.mem_or_eq_of_mem_set he with h1 | rfl
  · exact h e h1
  · exact hd
theorem SmallI.step {a out:List Int} {d rest:Int} {i:Nat} (h:SmallI a d (i+1) rest out) (ha:Dig a) (hi:i < a.length) (hd:0 < d∧d < 1000000000) :
    SmallI a d i ((rest * 1000000000+a[i]) % d) (out.set i ((rest * 1000000000+a[i]) / d)):=by
  obtain ⟨hl,hdg,hr,hv⟩:=h
  have h1:=ha.at hi
  have hq:(rest * 1000000000+a[i]) / d < 1000000000:=by
    apply Int.ediv_lt_of_lt_mul (by omega)
    have:rest * 1000000000≤(d - 1) * 1000000000:=Int.mul_le_mul_of_nonneg_right (by omega) (by omega)
    omega
  have hq0:0≤(rest * 1000000000+a[i]) / d:=Int.ediv_nonneg (by omega) (by omega)
  refine ⟨by simp[hl],hdg.set i ⟨hq0,hq⟩,⟨Int.emod_nonneg _ (by omega),Int.emod_lt_of_pos _ hd.1⟩,?_⟩
  have hio:i < (out.set i ((rest * 1000000000+a[i]) / d)).length:=by simp; omega
  rw[zdj hi,zdj hio,hv]
  have e1:(out.set i ((rest * 1000000000+a[i]) / d))[i]=(rest * 1000000000+a[i]) / d:=by simp
  have e2:(out.set i ((rest * 1000000000+a[i]) / d)).drop (i+1)=out.drop (i+1):=by rw[List.drop_set_of_lt (by omega)]
  rw[e1,e2]
  have hdm:=Int.mul_ediv_add_emod (rest * 1000000000+a[i]) d
  generalize (rest * 1000000000+a[i]) / d=q at *
  generalize (rest * 1000000000+a[i]) % d=r at *
  generalize nv (out.drop (i+1))=o at *
  grind
theorem znR {S:(List Int × Int × Int × Int × List Int × Unit)→Option ((List Int × Int × Int × Int × List Int × Unit) ⊕ (Int × List Int × Unit))} {a:List Int} {d:Int} (ha:Dig a) (hd:0 < d∧d < 1000000000)
    (hS:∀ (i:Nat) (rest:Int) (out:List Int) (h:i < a.length),out.length=a.length→0≤rest→rest < d→S (a,d,rest,(i:Int),out,())=some (.inl (a,d,(rest * 1000000000+a[i]) % d,(i:Int) - 1,out.set i ((rest * 1000000000+a[i]) / d),())))
    (hE:∀ rest out,S (a,d,rest,-1,out,())=some (.inr (rest,out,()))) :
    ∃ rest out,whileO S (a,d,0,(a.length:Int) - 1,List.replicate a.length 0,())=some (rest,out,())∧out.length=a.length∧Dig out∧0≤rest∧rest < d∧nv a=d * nv out+rest:=by
  obtain ⟨r,h1,rest,out,rfl,hI⟩:=zbX (S:=S) (fun k x=>∃ rest out,x=(a,d,rest,((a.length - k:Nat):Int) - 1,out,())∧SmallI a d (a.length - k) rest out) a.length (fun r=>∃ rest out,r=(rest,out,())∧SmallI a d 0 rest out)
    (fun k hk x hx=>by
      obtain ⟨rest,out,rfl,hI⟩:=hx
      have e:((a.length - k:Nat):Int) - 1=((a.length - (k+1):Nat):Int):=by omega
      have hi:a.length - (k+1) < a.length:=by omega
      have e2:a.length - k=(a.length - (k+1))+1:=by omega
      rw[e]
      refine .inl ⟨_,hS _ rest out hi hI.len hI.r0.1 hI.r0.2,_,_,rfl,?_⟩
      rw[e2] at hI
      exact hI.step ha hi hd)
    (fun x hx=>by
      obtain ⟨rest,out,rfl,hI⟩:=hx
      rw[Nat.sub_self] at *
      exact ⟨_,hE rest out,rest,out,rfl,hI⟩)
    (x:=(a,d,0,(a.length:Int) - 1,List.replicate a.length 0,())) ⟨0,List.replicate a.length 0,by simp,⟨by simp,Dig.zeros _,by omega,by simp[nv]⟩⟩
  exact ⟨rest,out,h1,hI.len,hI.dig,hI.r0.1,hI.r0.2,by have:=hI.val; simpa using this⟩
theorem ziz {n:Nat} (h:n≤1073741824):zal (((decide (0≤(n:Int))) && (decide ((n:Int)≤(n:Int)))) && (decide ((n:Int)≤(zar:Int))))=some ():=by
  rw[decide_eq_true (by omega:(0:Int)≤n),decide_eq_true (by omega:(n:Int)≤n),decide_eq_true (by unfold zar; omega:(n:Int)≤(zar:Int))]; rfl
theorem zve {m:Nat} {d:Nat} {out:List Int} {rest:Int} (hd:Dig out) (h0:0≤rest) (h1:rest < d) (hv:nv (dg m)=d * nv out+rest):tz out=dg (m / d)∧rest=((m % d:Nat):Int):=by
  rw[zcB] at hv
  have hn:=zaP hd
  have hpos:(0:Int) < d:=by omega
  have e1:(m:Int) / d=nv out:=by
    rw[hv,Int.add_comm,Int.add_mul_ediv_left _ _ (by omega),Int.ediv_eq_zero_of_lt h0 h1]; omega
  have e2:(m:Int) % d=rest:=by
    rw[hv,Int.add_comm,Int.add_mul_emod_self_left,Int.emod_eq_of_lt h0 h1]
  refine ⟨?_,by rw[← e2]; simp⟩
  rw[zp9 hd]
  have e3:((m / d:Nat):Int)=(m:Int) / (d:Int):=by simp
  refine congrArg dg ?_
  omega
theorem znQ {a out:List Int} {d rest:Int} {i:Nat} (ha:Dig a) (hd:0 < d∧d < 1000000000) (h:i < a.length) (hl:a.length≤1073741824) (ho:out.length=a.length) (h0:0≤rest) (h1:rest < d) :
    zbs (a,d,rest,(i:Int),out,())=some (.inl (a,d,(rest * 1000000000+a[i]) % d,(i:Int) - 1,out.set i ((rest * 1000000000+a[i]) / d),())):=by
  have hx:=ha.at h
  have hdn:zal (d != 0)=some ():=by
    have:(d != 0)=true:=by simp; omega
    rw[this]; rfl
  have hq0:0≤(rest * 1000000000+a[i]) / d:=Int.ediv_nonneg (by omega) (by omega)
  have hq:(rest * 1000000000+a[i]) / d < 1000000000:=by
    apply Int.ediv_lt_of_lt_mul (by omega)
    have:rest * 1000000000≤(d - 1) * 1000000000:=Int.mul_le_mul_of_nonneg_right (by omega) (by omega)
    omega
  simp only[zbs,show decide ((i:Int) ≥ 0)=true by simp,cond_true,zaG h,zaG (show i < out.length by omega),hdn,Option.bind_some,Int.toNat_natCast]
  rw[wrap_add (n:=rest * 1000000000) (by omega) (by omega),wrap_add (n:=rest * 1000000000+a[i]) (by omega) (by omega),Int.tmod_eq_emod_of_nonneg (by omega),Int.tdiv_eq_ediv_of_nonneg (by omega),wrap_add (n:=(i:Int) - 1) (by omega) (by omega),wrap_add (by omega) (by omega)]
theorem zxR {m d:Nat} (hm:(dg m).length≤1073740000) (hd:0 < d∧d < 1000000000):zet (dg m) (d:Int)=some (dg (m / d),((m % d:Nat):Int)):=by
  unfold zet zgW
  have ha:=zej m
  rw[ziz (by omega),Option.bind_some,Int.toNat_natCast,wrap_i64 (by omega) (by omega)]
  obtain ⟨rest,out,h1,h2,h3,h4,h5,h6⟩:=znR (S:=zbs) (d:=(d:Int)) ha (by omega) (fun i rest out h ho h0 h1=>znQ ha (by omega) h (by omega) ho h0 h1) (by simp[zbs])
  rw[h1,Option.bind_some]
  try simp only[]
  obtain ⟨e1,e2⟩:=zve h3 h4 h5 h6
  rw[zhK (by omega),Option.bind_some,e1,e2]
theorem zod {m d:Nat} (hm:(dg m).length≤1073740000) (hd:0 < d∧d < 1000000000):zdD (dg m) (d:Int)=some (dg (m / d),dg (m % d)):=by
  unfold zdD zg4
  have ha:=zej m
  rw[ziz (by omega),Option.bind_some,Int.toNat_natCast,wrap_i64 (by omega) (by omega)]
  obtain ⟨rest,out,h1,h2,h3,h4,h5,h6⟩:=znR (S:=zcV) (d:=(d:Int)) ha (by omega) (fun i rest out h ho h0 h1=>znQ ha (by omega) h (by omega) ho h0 h1) (by simp[zcV])
  rw[h1,Option.bind_some]
  simp only[]
  obtain ⟨e1,e2⟩:=zve h3 h4 h5 h6
  have:m % d < d:=Nat.mod_lt _ hd.1
  rw[zhR (by omega),Option.bind_some,e1,e2,zkN (by omega),Option.bind_some,Int.toNat_natCast]
end Go.Di
namespace Go.Di
theorem zmH:∀ {xs:List Int} {i:Nat} {d:Int} (h:i < xs.length),nv (xs.set i d)=nv xs+bp i * (d - xs[i])
  | x :: r,0,d,h=>by simp[nv,znq]; omega
  | x :: r,i+1,d,h=>by
    have hi:i < r.length:=by simpa using h
    rw[List.set_cons_succ,nv,zmH hi,zel,nv]
    have:(x :: r)[i+1]=r[i]:=rfl
    rw[this]
    generalize bp i=p
    generalize nv r=v
    grind
structure MulI (b out0:List Int) (i:Nat) (x:Int) (j:Nat) (c:Int) (out:List Int):Prop where
  len:out.length=out0.length
  dig:Dig out
  c0:0≤c∧c < 1000000000
  rest:∀ k,i+b.length≤k→out[k]? = out0[k]?
  val:nv out+bp (i+j) * c=nv out0+bp i * (x * nv (b.take j))
theorem zqv {e x y c:Int} (he:0≤e∧e < 1000000000) (hx:0≤x∧x < 1000000000) (hy:0≤y∧y < 1000000000) (hc:0≤c∧c < 1000000000):0≤x * y∧x * y≤999999998000000001∧0≤e+x * y+c∧e+x * y+c < 1000000000000000000:=by
  have h0:=Int.mul_nonneg hx.1 hy.1
  have h1:x * y≤999999999 * 999999999:=Int.mul_le_mul (by omega) (by omega) hy.1 (by omega)
  omega
theorem MulI.step {b out0 out:List Int} {i j:Nat} {x c:Int} (h:MulI b out0 i x j c out) (hb:Dig b) (hx:0≤x∧x < 1000000000) (hj:j < b.length) (hk:i+j < out.length) :
    MulI b out0 i x (j+1) ((out[i+j]+x * b[j]+c) / 1000000000) (out.set (i+j) ((out[i+j]+x * b[j]+c) % 1000000000)):=by
  obtain ⟨hl,hd,hc,hr,hv⟩:=h
  have he:=hd.at hk
  have hy:=hb.at hj
  obtain ⟨_,_,h3,h4⟩:=zqv he hx hy hc
  refine ⟨by simp[hl],hd.set _ (by omega),by omega,fun k hk'=>?_,?_⟩
  · rw[List.getElem?_set_ne (by omega)]; exact hr k hk'
  · rw[zmH hk,zdo hj,show i+(j+1)=(i+j)+1 from rfl,zel,zrY] at *
    generalize hn:out[i+j]+x * b[j]+c=n at *
    have hm:n=n % 1000000000+1000000000 * (n / 1000000000):=by omega
    generalize n % 1000000000=r at *
    generalize n / 1000000000=q at *
    generalize out[i+j]=e at *
    generalize b[j]=y at *
    generalize nv (b.take j)=v at *
    generalize bp i=p at *
    generalize bp j=p' at *
    grind
def zEq (S:(List Int × Int × Int × Int × List Int × Int × Int × List Int × Int × Int × List Int × Unit)→Option ((List Int × Int × Int × Int × List Int × Int × Int × List Int × Int × Int × List Int × Unit) ⊕ (List Int × Int × Int × List Int × Int × Int × List Int × Unit))):Prop :=
  (∀ (b t out:List Int) (i j:Nat) (x c t1 t2:Int) (hj:j < b.length) (hk:i+j < out.length),Dig b→Dig out→0≤x∧x < 1000000000→0≤c∧c < 1000000000→out.length≤1073741824 →
    S (b,(i:Int),x,c,t,t1,t2,b,(b.length:Int),(j:Int),out,())=some (.inl (b,(i:Int),x,(out[i+j]+x * b[j]+c) / 1000000000,t,t1,t2,b,(b.length:Int),((j+1:Nat):Int),out.set (i+j) ((out[i+j]+x * b[j]+c) % 1000000000),()))) ∧
  ∀ (b t out:List Int) (i x c t1 t2:Int),S (b,i,x,c,t,t1,t2,b,(b.length:Int),(b.length:Int),out,())=some (.inr (b,i,c,t,t1,t2,out,()))
theorem zoa:zEq zcJ:=by
  refine ⟨fun b t out i j x c t1 t2 hj hk hb ho hx hc hl=>?_,fun b t out i x c t1 t2=>by simp[zcJ]⟩
  obtain ⟨h1,h2,h3,h4⟩:=zqv (ho.at hk) hx (hb.at hj) hc
  have he:=ho.at hk
  have e1:IntKind.i64.wrap ((i:Int)+(j:Int))=((i+j:Nat):Int):=by rw[wrap_i64 (by omega) (by omega)]; omega
  have e2:IntKind.i64.wrap ((j:Int)+1)=((j+1:Nat):Int):=by rw[wrap_i64 (by omega) (by omega)]; omega
  simp only[zcJ,dlt hj,cond_true,zaG hj,e1,zaG hk,Int.toNat_natCast,List.getElem?_eq_getElem hk,Option.bind_some,e2]
  rw [wrap_add (n:=x * b[j]) (by omega) (by omega),wrap_add (n:=out[i+j]+x * b[j]) (by omega) (by omega),wrap_add (n:=out[i+j]+x * b[j]+c) (by omega) (by omega),
    Int.tdiv_eq_ediv_of_nonneg h3,Int.tmod_eq_emod_of_nonneg h3,wrap_add (by omega) (by omega)]
theorem zyD:zEq zer:=zoa
theorem zob {S:(List Int × Int × Int × Int × List Int × Int × Int × List Int × Int × Int × List Int × Unit)→Option ((List Int × Int × Int × Int × List Int × Int × Int × List Int × Int × Int × List Int × Unit) ⊕ (List Int × Int × Int × List Int × Int × Int × List Int × Unit))} (hS:zEq S)
    {b t out0:List Int} {i:Nat} {x t1 t2:Int} (hb:Dig b) (hd:Dig out0) (hx:0≤x∧x < 1000000000) (hl:out0.length≤1073741824) (hfit:i+b.length≤out0.length) :
    ∃ c out,whileO S (b,(i:Int),x,0,t,t1,t2,b,(b.length:Int),0,out0,())=some (b,(i:Int),c,t,t1,t2,out,())∧MulI b out0 i x b.length c out:=by
  obtain ⟨r,h1,c,out,rfl,h2⟩:=zbX (S:=S) (fun j y=>∃ c out,y=(b,(i:Int),x,c,t,t1,t2,b,(b.length:Int),(j:Int),out,())∧MulI b out0 i x j c out) b.length (fun r=>∃ c out,r=(b,(i:Int),c,t,t1,t2,out,())∧MulI b out0 i x b.length c out)
    (fun j hj y hy=>by
      obtain ⟨c,out,rfl,hI⟩:=hy
      have hk:i+j < out.length:=by rw[hI.len]; omega
      exact .inl ⟨_,hS.1 b t out i j x c t1 t2 hj hk hb hI.dig hx hI.c0 (by rw[hI.len]; exact hl),_,_,rfl,hI.step hb hx hj hk⟩)
    (fun y hy=>by
      obtain ⟨c,out,rfl,hI⟩:=hy
      exact ⟨_,hS.2 b t out i x c t1 t2,c,out,rfl,hI⟩)
    (x:=(b,(i:Int),x,0,t,t1,t2,b,(b.length:Int),0,out0,())) ⟨0,out0,rfl,⟨rfl,hd,by omega,fun _ _=>rfl,by simp[nv]⟩⟩
  exact ⟨c,out,h1,h2⟩
structure OutI (a b:List Int) (i:Nat) (out:List Int):Prop where
  len:out.length=a.length+b.length
  dig:Dig out
  zero:∀ k,i+b.length≤k→k < out.length→out[k]? = some 0
  val:nv out=nv (a.take i) * nv b
theorem OutI.step {a b out0 out:List Int} {i:Nat} {c:Int} (h:OutI a b i out0) (hi:i < a.length) (hm:MulI b out0 i a[i] b.length c out) :
    out[i+b.length]? = some 0∧OutI a b (i+1) (out.set (i+b.length) c):=by
  have hlen:i+b.length < out.length:=by rw[hm.len,h.len]; omega
  have hz:out[i+b.length]? = some 0:=by rw[hm.rest _ (Nat.le_refl _)]; exact h.zero _ (Nat.le_refl _) (by rw[h.len]; omega)
  have hz':out[i+b.length]=0:=by rw[List.getElem?_eq_getElem hlen] at hz; simpa using hz
  refine ⟨hz,by simp[hm.len,h.len],hm.dig.set _ hm.c0,fun k hk hk'=>?_,?_⟩
  · rw[List.getElem?_set_ne (by omega),hm.rest k (by omega)]
    exact h.zero k (by omega) (by rw[List.length_set,hm.len] at hk'; exact hk')
  · rw[zmH hlen,hz']
    have hv:=hm.val
    rw[h.val,List.take_length] at hv
    rw[zdo hi]
    generalize bp (i+b.length)=q at *
    generalize bp i=p at *
    generalize nv (a.take i)=u at *
    generalize nv b=v at *
    generalize a[i]=x at *
    grind
theorem zcn {m n:Nat} (hm:(dg m).length≤500000000) (hn:(dg n).length≤500000000):zas (dg m) (dg n)=some (dg (m * n)):=by
  unfold zas
  have ha:=zej m
  have hb:=zej n
  have hva:=zcB m
  have hvb:=zcB n
  by_cases hm0:m=0
  · subst hm0; rw[zay]; simp[zay]
  by_cases hn0:n=0
  · subst hn0; rw[zay]; cases (((dg m).length:Int)==0)<;>simp[zay]
  have ea:(((dg m).length:Int)==0)=false:=by have:=List.length_pos_iff.2 (fun e=>hm0 (zfY.1 e)); rw[beq_eq_false_iff_ne]; omega
  have eb:(((dg n).length:Int)==0)=false:=by have:=List.length_pos_iff.2 (fun e=>hn0 (zfY.1 e)); rw[beq_eq_false_iff_ne]; omega
  rw[ea,eb,cond_false,cond_false]
  generalize dg m=a at *
  generalize dg n=b at *
  have ew:IntKind.i64.wrap ((a.length:Int)+(b.length:Int))=((a.length+b.length:Nat):Int):=by rw[wrap_i64 (by omega) (by omega)]; omega
  rw[ew,ziz (by omega),Option.bind_some,Int.toNat_natCast]
  unfold zh9
  obtain ⟨r,h1,out,rfl,hI⟩:=zbX (S:=zcK) (fun i y=>∃ out,y=(b,a,(a.length:Int),(i:Int),out,())∧OutI a b i out) a.length (fun r=>∃ out,r=(out,())∧OutI a b a.length out)
    (fun i hi y hy=>by
      obtain ⟨out0,rfl,hI⟩:=hy
      obtain ⟨c,out,q1,q2⟩:=zob zoa (t:=a) (t1:=(a.length:Int)) (t2:=(i:Int)) (i:=i) (x:=a[i]) hb hI.dig (ha.at hi) (by rw[hI.len]; omega) (by rw[hI.len]; omega)
      obtain ⟨hz,hI'⟩:=hI.step hi q2
      left
      refine ⟨_,?_,_,rfl,hI'⟩
      have e1:IntKind.i64.wrap ((i:Int)+(b.length:Int))=((i+b.length:Nat):Int):=by rw[wrap_i64 (by omega) (by omega)]; omega
      have e2:IntKind.i64.wrap ((i:Int)+1)=((i+1:Nat):Int):=by rw[wrap_i64 (by omega) (by omega)]; omega
      simp only[zcK,zh8,dlt hi,cond_true,zaG hi,Option.bind_some,q1,e1,zeU hz,Int.toNat_natCast,e2])
    (fun y hy=>by
      obtain ⟨out,rfl,hI⟩:=hy
      exact ⟨_,by simp[zcK],out,rfl,hI⟩)
    (x:=(b,a,(a.length:Int),0,List.replicate (a.length+b.length) 0,())) ⟨_,rfl,⟨by simp,Dig.zeros _,fun k _ hk=>by simp at hk; simp[hk],by simp[nv,zl7]⟩⟩
  rw[h1,Option.bind_some]
  simp only[]
  rw[zhK (by rw[hI.len]; omega),Option.bind_some,zp9 hI.dig,hI.val,List.take_length,hva,hvb]
  rfl
theorem ziB {m n:Nat} (hm:(dg m).length≤500000000) (hn:(dg n).length≤500000000):zbg (dg m) (dg n)=some (dg (m * n)):=by
  unfold zbg
  have ha:=zej m
  have hb:=zej n
  have hva:=zcB m
  have hvb:=zcB n
  generalize dg m=a at *
  generalize dg n=b at *
  have ew:IntKind.i64.wrap ((a.length:Int)+(b.length:Int))=((a.length+b.length:Nat):Int):=by rw[wrap_i64 (by omega) (by omega)]; omega
  rw[ew,ziz (by omega),Option.bind_some,Int.toNat_natCast]
  unfold zil
  obtain ⟨r,h1,out,rfl,hI⟩:=zbX (S:=zcO) (fun i y=>∃ out,y=(b,a,(a.length:Int),(i:Int),out,())∧OutI a b i out) a.length (fun r=>∃ out,r=(out,())∧OutI a b a.length out)
    (fun i hi y hy=>by
      obtain ⟨out0,rfl,hI⟩:=hy
      obtain ⟨c,out,q1,q2⟩:=zob zyD (t:=a) (t1:=(a.length:Int)) (t2:=(i:Int)) (i:=i) (x:=a[i]) hb hI.dig (ha.at hi) (by rw[hI.len]; omega) (by rw[hI.len]; omega)
      obtain ⟨hz,hI'⟩:=hI.step hi q2
      left
      have hc:=q2.c0
      refine ⟨_,?_,_,rfl,hI'⟩
      have e1:IntKind.i64.wrap ((i:Int)+(b.length:Int))=((i+b.length:Nat):Int):=by rw[wrap_i64 (by omega) (by omega)]; omega
      have e2:IntKind.i64.wrap ((i:Int)+1)=((i+1:Nat):Int):=by rw[wrap_i64 (by omega) (by omega)]; omega
      have e3:IntKind.i64.wrap (0+c)=c:=by rw[wrap_i64 (by omega) (by omega)]; omega
      simp only[zcO,zik,dlt hi,cond_true,zaG hi,Option.bind_some,q1,e1,zeU hz,Int.toNat_natCast,hz,e2,e3])
    (fun y hy=>by
      obtain ⟨out,rfl,hI⟩:=hy
      exact ⟨_,by simp[zcO],out,rfl,hI⟩)
    (x:=(b,a,(a.length:Int),0,List.replicate (a.length+b.length) 0,())) ⟨_,rfl,⟨by simp,Dig.zeros _,fun k _ hk=>by simp at hk; simp[hk],by simp[nv,zl7]⟩⟩
  rw[h1,Option.bind_some]
  simp only[]
  rw[zhR (by rw[hI.len]; omega),Option.bind_some,zp9 hI.dig,hI.val,List.take_length,hva,hvb]
  rfl
end Go.Di
namespace Go.Di
theorem zg7 {σ ρ:Type} {S:σ→Option (σ ⊕ ρ)} (I:σ→Prop) (μ:σ→Nat) (Q:ρ→Prop)
    (h:∀ x,I x→(∃ y,S x=some (.inl y)∧I y∧μ y < μ x)∨∃ r,S x=some (.inr r)∧Q r):∀ {x:σ},I x→∃ r,whileO S x=some r∧Q r:=by
  have key:∀ (n:Nat) (x:σ),μ x=n→I x→∃ r,whileO S x=some r∧Q r:=by
    intro n
    induction n using Nat.strongRecOn with
    | _ n ih =>
      intro x hn hI
      rcases h x hI with ⟨y,h1,h2,h3⟩ | ⟨r,h1,h2⟩
      · obtain ⟨r,h4,h5⟩:=ih (μ y) (by omega) y rfl h2
        exact ⟨r,(zcI h1).trans h4,h5⟩
      · exact ⟨r,zaR h1,h2⟩
  exact fun {x} hI=>key _ x rfl hI
theorem zbL {m n:Nat} (h:m≤n):(dg m).length≤(dg n).length:=zfR.2 (by have:=(zfR (n:=n)).1 (Nat.le_refl _); omega)
theorem ziA (m n:Nat):(dg (m * n)).length≤(dg m).length+(dg n).length:=by
  rw[zfR,zrY]
  have h1:=(zfR (n:=m)).1 (Nat.le_refl _)
  have h2:=(zfR (n:=n)).1 (Nat.le_refl _)
  have h3:=zfb (dg m).length
  have h4:=zfb (dg n).length
  have:((m * n:Nat):Int)=(m:Int) * (n:Int):=by simp
  rw[this]
  by_cases hn:n=0
  · subst hn; simp; exact Int.mul_pos h3 h4
  · calc (m:Int) * n < bp (dg m).length * n:=Int.mul_lt_mul_of_pos_right h1 (by omega)
      _≤bp (dg m).length * bp (dg n).length:=Int.mul_le_mul_of_nonneg_left (by omega) (by omega)
theorem zL0 {x y:Int}:decide (zol x y≤0)=decide (x≤y):=by
  unfold zol
  split
  · simp; omega
  · split<;>simp<;>omega
theorem zDN {x y:Int}:decide (zol x y < 0)=decide (x < y):=by
  unfold zol
  split
  · simp; omega
  · split<;>simp<;>omega
theorem zDO {x y:Int}:decide (zol x y ≥ 0)=decide (y≤x):=by
  unfold zol
  split
  · simp; omega
  · split<;>simp<;>omega
theorem spec_digit {r b:Nat} (_hr:(dg r).length≤400000000) (hb:(dg b).length≤400000000) (h0:0 < b) (hlt:r < 1000000000 * b):zew (dg r) (dg b)=some ((r / b:Nat):Int):=by
  unfold zew zgY
  have hq:r / b < 1000000000:=Nat.div_lt_of_lt_mul (by rw[Nat.mul_comm]; exact hlt)
  obtain ⟨y, h1,h2⟩:=zg7 (S:=zb0) (fun x=>∃ lo hi:Nat,x=(dg r,dg b,(lo:Int),(hi:Int),())∧lo≤r / b∧r / b≤hi∧hi≤999999999) (fun x=>(x.2.2.2.1 - x.2.2.1).toNat) (fun y=>y=(((r / b:Nat):Int),()))
    (fun x hx=>by
      obtain ⟨lo,hi,rfl,k1,k2,k3⟩:=hx
      by_cases hlh:lo < hi
      · left
        have hq:IntKind.i64.wrap ((IntKind.i64.wrap ((IntKind.i64.wrap ((lo:Int)+hi))+1)).tdiv 2)=(((lo+hi+1) / 2:Nat):Int):=by
          rw[wrap_add (n:=(lo:Int)+hi) (by omega) (by omega),wrap_add (n:=(lo:Int)+hi+1) (by omega) (by omega),Int.tdiv_eq_ediv_of_nonneg (by omega),wrap_add (by omega) (by omega)]
          omega
        have hm:(lo+hi+1) / 2≤999999999:=by omega
        have hl3:=zgJ (show (lo+hi+1) / 2≤9223372036854775807 by omega)
        have hml:=ziA b ((lo+hi+1) / 2)
        have hcmp:=zl2 (zbV (b * ((lo+hi+1) / 2))) (zbV r) (by omega)
        rw[zcB,zcB] at hcmp
        generalize hmid:(lo+hi+1) / 2=q at *
        have hqb:0 < q:=by omega
        simp only[zb0,show decide ((lo:Int) < (hi:Int))=true by simpa using hlh,cond_true,hq,zeO (show (q:Int)≤9223372036854775807 by omega),Int.toNat_natCast,Option.bind_some,zcn (show (dg b).length≤500000000 by omega) (show (dg q).length≤500000000 by omega),hcmp,zL0]
        by_cases hle:b * q≤r
        · have hd:decide (((b * q:Nat):Int)≤(r:Int))=true:=by simpa using (by exact_mod_cast hle:((b * q:Nat):Int)≤(r:Int))
          rw[hd,cond_true]
          refine ⟨_,rfl,⟨q,hi,rfl,?_,k2,k3⟩,by simp; omega⟩
          exact (Nat.le_div_iff_mul_le h0).2 (by rw[Nat.mul_comm]; exact hle)
        · have hd:decide (((b * q:Nat):Int)≤(r:Int))=false:=by
            rw[decide_eq_false_iff_not]; intro hh; exact hle (by exact_mod_cast hh)
          rw[hd,cond_false]
          have e:IntKind.i64.wrap ((q:Int) - 1)=((q - 1:Nat):Int):=by rw[wrap_add (by omega) (by omega)]; omega
          rw[e]
          refine ⟨_,rfl,⟨lo,q - 1,rfl,k1,?_,by omega⟩,by simp; omega⟩
          have:r / b < q:=(Nat.div_lt_iff_lt_mul h0).2 (by rw[Nat.mul_comm]; omega)
          omega
      · right
        have hlo:lo=r / b:=by omega
        have hd:decide ((lo:Int) < (hi:Int))=false:=by simpa using hlh
        refine ⟨((lo:Int),()),?_,by rw[hlo]⟩
        simp only[zb0,hd,cond_false])
    (x:=(dg r,dg b,0,999999999,())) ⟨0,999999999,rfl,Nat.zero_le _,by omega,by omega⟩
  rw[h1,h2]; rfl
end Go.Di
namespace Go.Di
structure DivI (a:List Int) (n:Nat) (i:Nat) (out:List Int) (rv:Nat):Prop where
  len:out.length=a.length
  dig:Dig out
  zero:∀ k,k < i→k < a.length→out[k]? = some 0
  lt:rv < n
  val:nv (a.drop i)=n * nv (out.drop i)+rv
theorem zx4 {q:Nat} (h:q < 1000000000):(q:Int) < 1000000000:=by omega
theorem DivI.step {a out:List Int} {n i rv:Nat} (h:DivI a n (i+1) out rv) (ha:Dig a) (hi:i < a.length) (hn:0 < n) {x:Nat} (hx:(x:Int)=a[i]+1000000000 * rv) :
    DivI a n i (out.set i ((x / n:Nat):Int)) (x % n):=by
  obtain ⟨hl,hd,hz,hlt,hv⟩:=h
  have h1:=ha.at hi
  have hxlt:x < 1000000000 * n:=by
    have:1000000000 * (rv:Int)≤1000000000 * ((n:Int) - 1):=Int.mul_le_mul_of_nonneg_left (by omega) (by omega)
    omega
  have hq:x / n < 1000000000:=Nat.div_lt_of_lt_mul (by rw[Nat.mul_comm]; exact hxlt)
  have hq0:0≤((x / n:Nat):Int)∧((x / n:Nat):Int) < 1000000000:=⟨Int.natCast_nonneg _,zx4 hq⟩
  refine ⟨by simp[hl],hd.set i hq0,fun k hk hk'=>?_,Nat.mod_lt _ hn,?_⟩
  · rw[List.getElem?_set_ne (by omega)]; exact hz k (by omega) hk'
  · have hio:i < (out.set i ((x / n:Nat):Int)).length:=by simp; omega
    rw[zdj hi,zdj hio,hv]
    have e1:(out.set i ((x / n:Nat):Int))[i]=((x / n:Nat):Int):=by simp
    have e2:(out.set i ((x / n:Nat):Int)).drop (i+1)=out.drop (i+1):=by rw[List.drop_set_of_lt (by omega)]
    rw[e1,e2]
    have hdm:(n:Int) * ((x / n:Nat):Int)+((x % n:Nat):Int)=(x:Int):=by exact_mod_cast Nat.div_add_mod x n
    generalize ((x / n:Nat):Int)=q at *
    generalize ((x % n:Nat):Int)=r at *
    generalize nv (out.drop (i+1))=o at *
    grind
theorem zoO {out:List Int} {i:Nat} (h:out[i]? = some 0):out.set i 0=out:=by
  apply List.ext_getElem?
  intro j
  rw[List.getElem?_set]
  split
  · rename_i e; subst e
    split
    · exact h.symm
    · rename_i hn; rw[List.getElem?_eq_none (by omega)] at h; cases h
  · rfl
theorem zqh {a out:List Int} {n i rv:Nat} (hI:DivI a n (i+1) out rv) (ha:Dig a) (hi:i < a.length) (hn:0 < n) (hl:a.length≤100000000) (hln:(dg n).length≤100000000) :
    ∃ out' rv',zcb (a,dg n,(i:Int),out,dg rv,())=some (.inl (a,dg n,(i:Int) - 1,out',dg rv',()))∧DivI a n i out' rv':=by
  have h1:=ha.at hi
  let x:Nat:=a[i].toNat+1000000000 * rv
  have hx:(x:Int)=a[i]+1000000000 * rv:=by simp only[x]; omega
  have hxlt:x < 1000000000 * n:=by
    have:=hI.lt
    have:1000000000 * (rv:Int)≤1000000000 * ((n:Int) - 1):=Int.mul_le_mul_of_nonneg_left (by omega) (by omega)
    omega
  have hr:=zbL (Nat.le_of_lt hI.lt)
  have htz:tz ([a[i]]++dg rv)=dg x:=by
    rw[zp9 (Dig.append (Dig.cons h1 Dig.nil) (zej rv)),zkh,zcB]
    refine congrArg dg ?_
    simp only[nv,List.length_cons,List.length_nil,zel,znq]
    omega
  have hxl:(dg x).length≤(dg n).length+2:=by
    have h2:=zbL (Nat.le_of_lt hxlt)
    have h3:=ziA 1000000000 n
    have h4:(dg 1000000000).length≤2:=zfR.2 (by simp[bp])
    omega
  refine ⟨out.set i ((x / n:Nat):Int),x % n,?_,hI.step ha hi hn hx⟩
  have hcmp:=zl2 (zbV x) (zbV n) (by omega)
  rw[zcB,zcB] at hcmp
  have e0:IntKind.i64.wrap ((i:Int) - 1)=(i:Int) - 1:=wrap_add (by omega) (by omega)
  have hz:=hI.zero i (by omega) hi
  simp only[zcb,show decide ((i:Int) ≥ 0)=true by simp,cond_true,zaG hi,room (show 1+(dg rv).length≤1073741824 by omega),Option.bind_some,zhK (show ([a[i]]++dg rv).length≤1073741824 by simp; omega),htz,hcmp,zDN,e0]
  by_cases hlt:x < n
  · have hd:decide ((x:Int) < (n:Int))=true:=by simpa using hlt
    rw[hd,cond_true,Nat.div_eq_of_lt hlt,Nat.mod_eq_of_lt hlt]
    rw[show ((0:Nat):Int)=0 from rfl,zoO hz]
  · have hd:decide ((x:Int) < (n:Int))=false:=by simpa using hlt
    have hq:x / n < 1000000000:=Nat.div_lt_of_lt_mul (by rw[Nat.mul_comm]; exact hxlt)
    have hql:=zgJ (show x / n≤9223372036854775807 by omega)
    have hle:n * (x / n)≤x:=Nat.mul_div_le x n
    have hsub:x - n * (x / n)=x % n:=by have:=Nat.div_add_mod x n; omega
    simp only[hd,cond_false,spec_digit (show (dg x).length≤400000000 by omega) (show (dg n).length≤400000000 by omega) hn hxlt,Option.bind_some,zeU hz,zeO (show ((x / n:Nat):Int)≤9223372036854775807 by omega),Int.toNat_natCast,
      zcn (show (dg n).length≤500000000 by omega) (show (dg (x / n)).length≤500000000 by omega),zoI (show (dg x).length≤1073740000 by omega) hle,hsub]
theorem zoJ {m n:Nat} (hm:(dg m).length≤100000000) (hn:(dg n).length≤100000000) (h0:0 < n):zdb (dg m) (dg n)=some (dg (m / n),dg (m % n)):=by
  unfold zdb
  have hne:dg n≠[]:=fun e=>by have:=zfY.1 e; omega
  by_cases h1:(dg n).length=1
  · have hb:(((dg n).length:Int)==1)=true:=by rw[h1]; rfl
    rw[hb,cond_true]
    have hd:=zoj (show n≠0 by omega)
    have hnil:dg (n / 1000000000)=[]:=by
      rw[hd] at h1; simpa using h1
    have hsm:n < 1000000000:=by have:=zfY.1 hnil; omega
    have e:dg n=[(n:Int)]:=by rw[hd,hnil,Nat.mod_eq_of_lt hsm]
    rw[e,show ((0:Int)=((0:Nat):Int)) from rfl,zeU (x:=(n:Int)) (by rfl),Option.bind_some,zxR (by omega) ⟨h0,hsm⟩,Option.bind_some]
    have:m % n < n:=Nat.mod_lt _ h0
    simp only[zeO (show ((m % n:Nat):Int)≤9223372036854775807 by omega),Option.bind_some,Int.toNat_natCast]
  · have hb:(((dg n).length:Int)==1)=false:=by rw[beq_eq_false_iff_ne]; omega
    rw[hb,cond_false,ziz (by omega),Option.bind_some,Int.toNat_natCast,wrap_i64 (by omega) (by omega)]
    have ha:=zej m
    have hva:=zcB m
    generalize dg m=a at *
    unfold zib
    obtain ⟨r,h1,out,rv,rfl,hI⟩:=zbX (S:=zcb) (fun k x=>∃ out rv,x=(a,dg n,((a.length - k:Nat):Int) - 1,out,dg rv,())∧DivI a n (a.length - k) out rv) a.length (fun r=>∃ out rv,r=(out,dg rv,())∧DivI a n 0 out rv)
      (fun k hk x hx=>by
        obtain ⟨out,rv,rfl,hI⟩:=hx
        have e:((a.length - k:Nat):Int) - 1=((a.length - (k+1):Nat):Int):=by omega
        have e2:a.length - k=(a.length - (k+1))+1:=by omega
        rw[e2] at hI
        obtain ⟨out',rv',q1,q2⟩:=zqh hI ha (by omega) h0 hm hn
        rw[e]
        exact .inl ⟨_,q1,out',rv',rfl,q2⟩)
      (fun x hx=>by
        obtain ⟨out,rv,rfl,hI⟩:=hx
        rw[Nat.sub_self] at *
        exact ⟨_,by simp[zcb],out,rv,rfl,hI⟩)
      (x:=(a,dg n,(a.length:Int) - 1,List.replicate a.length 0,[],())) ⟨List.replicate a.length 0,0,by simp[zay],⟨by simp,Dig.zeros _,fun k _ hk=>by simp[hk],h0,by simp[nv]⟩⟩
    rw[h1,Option.bind_some]
    simp only[]
    have hv:=hI.val
    simp only[List.drop_zero] at hv
    rw[hva] at hv
    have hnn:=zaP hI.dig
    have hlt:=hI.lt
    have hvn:m=n * (nv out).toNat+rv:=by
      have:((nv out).toNat:Int)=nv out:=by omega
      rw[← this] at hv
      exact_mod_cast hv
    have e1:m / n=(nv out).toNat:=by rw[hvn,Nat.mul_add_div h0,Nat.div_eq_of_lt hlt,Nat.add_zero]
    have e2:m % n=rv:=by rw[hvn,Nat.mul_add_mod,Nat.mod_eq_of_lt hlt]
    rw[zhK (by rw[hI.len]; omega),Option.bind_some,zp9 hI.dig,e1,e2]
end Go.Di
namespace Go.Di
theorem zna {S:(Int × Int × Unit)→Option ((Int × Int × Unit) ⊕ (Int × Unit))} (hS:∀ x y:Nat,0 < y→S ((x:Int),(y:Int),())=some (.inl ((y:Int),((x % y:Nat):Int),())))
    (hE:∀ x:Nat,S ((x:Int),0,())=some (.inr ((x:Int),()))):∀ y x:Nat,whileO S ((x:Int),(y:Int),())=some (((Nat.gcd x y:Nat):Int),()):=by
  intro y
  induction y using Nat.strongRecOn with
  | _ y ih =>
    intro x
    by_cases h:y=0
    · subst h
      rw[Nat.gcd_zero_right]; exact zaR (hE x)
    · rw[zcI (hS x y (by omega)),ih (x % y) (Nat.mod_lt _ (by omega)) y]
      rw[Nat.gcd_comm x y,Nat.gcd_rec y x,Nat.gcd_comm (x % y) y]
theorem zvc (x y:Nat):(x:Int).tmod (y:Int)=((x % y:Nat):Int):=by
  rw[Int.tmod_eq_emod_of_nonneg (by omega)]; simp
theorem zxT {x y:Nat} (hx:x≤9223372036854775807) (hy:y≤9223372036854775807):zeu (x:Int) (y:Int)=some (dg (Nat.gcd x y)):=by
  unfold zeu zgX
  rw [zna (S:=zbZ) (fun x y h=>by
    have h1:decide ((y:Int) > 0)=true:=by simpa using h
    have h2:zal ((y:Int) != 0)=some ():=by
      have:((y:Int) != 0)=true:=by simp; omega
      rw[this]; rfl
    simp only[zbZ,h1,cond_true,h2,Option.bind_some,zvc]) (fun x=>by simp[zbZ]) y x,Option.bind_some]
  have hg:Nat.gcd x y≤9223372036854775807:=by
    by_cases h:x=0
    · subst h; simpa using hy
    · exact Nat.le_trans (Nat.gcd_le_left y (by omega)) hx
  simp only[zeO (show ((Nat.gcd x y:Nat):Int)≤9223372036854775807 by omega),Option.bind_some,Int.toNat_natCast]
theorem zM4:([854775807,223372036,9]:List Int)=dg 9223372036854775807:=by
  refine zDf ⟨fun d hd=>?_,by simp[zp6]⟩ (by simp[nv])
  simp at hd
  omega
theorem zxN {S:(List Int × Int × Int × Unit)→Option ((List Int × Int × Int × Unit) ⊕ (Int × Unit))} {a:List Int} (ha:Dig a) (hm:nv a≤9223372036854775807)
    (hS:∀ (i:Nat) (n:Int) (h:i < a.length),0≤n→n * 1000000000+a[i]≤9223372036854775807→S (a,n,(i:Int),())=some (.inl (a,n * 1000000000+a[i],(i:Int) - 1,())))
    (hE:∀ n,S (a,n,-1,())=some (.inr (n,()))):whileO S (a,0,(a.length:Int) - 1,())=some (nv a,()):=by
  have hle:∀ i,nv (a.drop i)≤9223372036854775807:=by
    intro i
    induction i with
    | zero=>simpa using hm
    | succ i ih =>
      by_cases h:i < a.length
      · rw[zdj h] at ih
        have:=ha.at h
        have h0:=zaP (ha.drop (i+1))
        omega
      · rw[List.drop_of_length_le (by omega)]; simp[nv]
  obtain ⟨r,h1,h2⟩:=zbX (S:=S) (fun k x=>x=(a,nv (a.drop (a.length - k)),((a.length - k:Nat):Int) - 1,())) a.length (fun r=>r=(nv a,()))
    (fun k hk x hx=>by
      subst hx
      have hi:a.length - (k+1) < a.length:=by omega
      have e:((a.length - k:Nat):Int) - 1=((a.length - (k+1):Nat):Int):=by omega
      have e2:a.length - k=(a.length - (k+1))+1:=by omega
      have hd:=zdj hi
      have hb:=hle (a.length - (k+1))
      rw[hd] at hb
      rw[e,hd]
      left
      refine ⟨_,hS _ _ hi (zaP (ha.drop _)) ?_,?_⟩
      · rw[e2]; omega
      · rw[e2]; congr 2; omega)
    (fun x hx=>by
      subst hx
      rw[Nat.sub_self]
      exact ⟨_,hE _,by simp⟩)
    (x:=(a,0,(a.length:Int) - 1,())) (by simp[nv])
  rw[h1,h2]
end Go.Di
namespace Go.Di
theorem zE4 {m:Nat} (h:(dg m).length≤60):pB (zj1 (dg m))=true:=pB_iff.2 ⟨zbV m,h⟩
theorem znN {m:Nat} (h:(dg m).length < 3):zdy (dg m)=some ((m:Int),true):=by
  unfold zdy zgZ
  have hv:=zcB m
  have hlt:(m:Int) < bp 2:=zfR.1 (by omega)
  have hb2:bp 2=1000000000000000000:=by decide
  rw[hb2] at hlt
  obtain ⟨K,hK,hKv⟩:∃ K:Nat,([854775807,223372036,9]:List Int)=dg K∧9000000000000000000 < K:=⟨_,zM4,by omega⟩
  have hcmp:=zl2 (zbV m) (zbV K) (by omega)
  rw[zcB,zcB] at hcmp
  rw[spec_natOk (by omega),zE4 (by omega),Option.bind_some,hK,hcmp]
  simp only[Bool.not_true,cond_false,Option.bind_some]
  have hc:decide (zol (m:Int) (K:Int) > 0)=false:=by
    rw[decide_eq_false_iff_not]
    unfold zol
    split
    · omega
    · split<;>omega
  rw[hc,cond_false]
  have ha:=zej m
  generalize dg m=a at *
  rw[wrap_i64 (by omega) (by omega)]
  rw [zxN (S:=zb1) ha (by omega) (fun i n hi h0 hn=>by
    have hx:=ha.at hi
    simp only[zb1,show decide ((i:Int) ≥ 0)=true by simp,cond_true,zaG hi,Option.bind_some]
    rw[wrap_i64 (n:=n * 1000000000) (by omega) (by omega),wrap_i64 (n:=n * 1000000000+a[i]) (by omega) (by omega),wrap_i64 (n:=(i:Int) - 1) (by omega) (by omega)]) (by simp[zb1]),Option.bind_some,hv]
theorem spec_gcd {m n:Nat} (hm:(dg m).length≤100000000) (hn:(dg n).length≤100000000):zev (dg m) (dg n)=some (dg (Nat.gcd m n)):=by
  unfold zev zia
  rw[room (by omega),room (by omega),Option.bind_some,Option.bind_some]
  obtain ⟨r, h1,h2⟩:=zg7 (S:=zbD) (fun x=>∃ p q:Nat,x=(dg p,dg q,())∧Nat.gcd p q=Nat.gcd m n∧(dg p).length≤100000000∧(dg q).length≤100000000) (fun x=>(nv x.2.1).toNat)
    (fun r=>(match r with | .inl (t,_)=>t | .inr (x,_)=>x)=dg (Nat.gcd m n))
    (fun x hx=>by
      obtain ⟨p,q,rfl,hg,hp,hq⟩:=hx
      by_cases h0:q=0
      · subst h0
        right
        refine ⟨.inr (dg p,()),by simp[zbD,zay],?_⟩
        rw[← hg,Nat.gcd_zero_right]
      · have hqn:dg q≠[]:=fun e=>h0 (zfY.1 e)
        have hl:decide (((dg q).length:Int) > 0)=true:=by have:=List.length_pos_iff.2 hqn; simp only[decide_eq_true_eq]; omega
        have hstep:(∃ y,(some (Sum.inl (dg q,dg (p % q),())):Option ((List Int × List Int × Unit) ⊕ ((List Int × Unit) ⊕ (List Int × Unit))))=some (.inl y)∧(∃ p' q':Nat,y=(dg p',dg q',())∧Nat.gcd p' q'=Nat.gcd m n∧(dg p').length≤100000000∧(dg q').length≤100000000)∧(nv y.2.1).toNat < (nv (dg q)).toNat):=by
          refine ⟨_,rfl,⟨q,p % q,rfl,?_,hq,?_⟩,?_⟩
          · rw[← hg,Nat.gcd_comm p q,Nat.gcd_rec q p,Nat.gcd_comm]
          · exact Nat.le_trans (zbL (Nat.mod_le p q)) hp
          · simp only[zcB,Int.toNat_natCast]; exact Nat.mod_lt _ (by omega)
        have hdiv:=zoJ hp hq (show 0 < q by omega)
        by_cases hp3:(dg p).length < 3
        · have e1:decide (((dg p).length:Int) < 3)=true:=by simp only[decide_eq_true_eq]; omega
          by_cases hq3:(dg q).length < 3
          · have e2:decide (((dg q).length:Int) < 3)=true:=by simp only[decide_eq_true_eq]; omega
            right
            have b2:bp 2=1000000000000000000:=by decide
            have lp:(p:Int) < bp 2:=zfR.1 (by omega)
            have lq:(q:Int) < bp 2:=zfR.1 (by omega)
            refine ⟨.inl (dg (Nat.gcd p q),()),?_,by rw[hg]⟩
            simp only[zbD,hl,e1,e2,cond_true,znN hp3,znN hq3,Option.bind_some,zxT (show p≤9223372036854775807 by omega) (show q≤9223372036854775807 by omega)]
          · have e2:decide (((dg q).length:Int) < 3)=false:=by simp only[decide_eq_false_iff_not]; omega
            left
            simp only[zbD,hl,e1,e2,cond_true,cond_false,hdiv,Option.bind_some]
            exact hstep
        · have e1:decide (((dg p).length:Int) < 3)=false:=by simp only[decide_eq_false_iff_not]; omega
          left
          simp only[zbD,hl,e1,cond_true,cond_false,hdiv,Option.bind_some]
          exact hstep)
    (x:=(dg m,dg n,())) ⟨m,n,rfl,rfl,hm,hn⟩
  rw[h1,Option.bind_some]
  cases r with
  | inl t=>exact congrArg some h2
  | inr t=>exact congrArg some h2
end Go.Di
namespace Go.Di
structure TakeI (y x0:List Int) (k:Nat) (q:Int) (j:Nat) (br:Int) (x:List Int):Prop where
  len:x.length=x0.length
  dig:Dig x
  b0:0≤br∧br≤q
  rest:∀ p,k+y.length≤p→x[p]? = x0[p]?
  low:∀ p,p < k→x[p]? = x0[p]?
  val:nv x+bp k * (q * nv (y.take j))=nv x0+bp (k+j) * br
theorem TakeI.step {y x0 x:List Int} {k j:Nat} {q br s b':Int} (h:TakeI y x0 k q j br x) (_hy:Dig y) (_hq:0≤q∧q≤1000000000) (hj:j < y.length) (hk:k+j < x.length) (hs:s - 1000000000 * b'=x[k+j] - q * y[j] - br) (hs0:0≤s∧s < 1000000000) (hb':0≤b'∧b'≤q) :
    TakeI y x0 k q (j+1) b' (x.set (k+j) s):=by
  obtain ⟨hl,hd,hb,hr,hlow,hv⟩:=h
  refine ⟨by simp[hl],hd.set _ hs0,hb',fun p hp=>?_,fun p hp=>?_,?_⟩
  · rw[List.getElem?_set_ne (by omega)]; exact hr p hp
  · rw[List.getElem?_set_ne (by omega)]; exact hlow p hp
  · rw[zmH hk,zdo hj,show k+(j+1)=(k+j)+1 from rfl,zel,zrY] at *
    generalize x[k+j]=e at *
    generalize y[j]=z at *
    generalize nv (y.take j)=v at *
    generalize bp k=p at *
    generalize bp j=p' at *
    grind
structure BackI (y x0:List Int) (k:Nat) (j:Nat) (c:Int) (x:List Int):Prop where
  len:x.length=x0.length
  dig:∀ p,p < k+y.length→∀ d,x[p]? = some d→0≤d∧d < 1000000000
  c0:0≤c∧c≤1
  rest:∀ p,k+y.length≤p→x[p]? = x0[p]?
  low:∀ p,p < k→x[p]? = x0[p]?
  val:nv x+bp (k+j) * c=nv x0+bp k * nv (y.take j)
theorem BackI.step {y x0 x:List Int} {k j:Nat} {c s c':Int} (h:BackI y x0 k j c x) (hj:j < y.length) (hk:k+j < x.length) (hs:s+1000000000 * c'=x[k+j]+y[j]+c) (hs0:0≤s∧s < 1000000000) (hc':0≤c'∧c'≤1) :
    BackI y x0 k (j+1) c' (x.set (k+j) s):=by
  obtain ⟨hl,hd,hc,hr,hlow,hv⟩:=h
  refine ⟨by simp[hl],fun p hp d hpd=>?_,hc',fun p hp=>?_,fun p hp=>?_,?_⟩
  · rw [List.getElem?_set] at hpd
    split at hpd
    · first
        | (cases hpd; exact hs0)
        | (split at hpd<;>first | (cases hpd; exact hs0) | cases hpd)
    · exact hd p hp d hpd
  · rw[List.getElem?_set_ne (by omega)]; exact hr p hp
  · rw[List.getElem?_set_ne (by omega)]; exact hlow p hp
  · rw[zmH hk,zdo hj,show k+(j+1)=(k+j)+1 from rfl,zel,zrY] at *
    generalize x[k+j]=e at *
    generalize y[j]=z at *
    generalize nv (y.take j)=v at *
    generalize bp k=p at *
    generalize bp j=p' at *
    grind
end Go.Di
namespace Go.Di
theorem zz2 {y x0 out:List Int} {k:Nat} {f top q:Int} (hy:Dig y) (hx:Dig x0) (hq:0≤q∧q < 1000000000) (hfit:k+y.length < x0.length) (hl:x0.length≤1073741824) :
    ∃ br x,zf8 f (y.length:Int) top (k:Int) q 0 (y.length:Int) 0 x0 y out=some (f,(y.length:Int),top,(k:Int),q,br,x,y,out,())∧TakeI y x0 k q y.length br x:=by
  unfold zf8
  obtain ⟨r,h1,br,x,rfl,h2⟩:=zbX (S:=zcR) (fun j z=>∃ br x,z=(f,(y.length:Int),top,(k:Int),q,br,(y.length:Int),(j:Int),x,y,out,())∧TakeI y x0 k q j br x) y.length (fun r=>∃ br x,r=(f,(y.length:Int),top,(k:Int),q,br,x,y,out,())∧TakeI y x0 k q y.length br x)
    (fun j hj z hz=>by
      obtain ⟨br,x,rfl,hI⟩:=hz
      left
      have hk:k+j < x.length:=by rw[hI.len]; omega
      have he:=hI.dig.at hk
      have hyj:=hy.at hj
      have hb:=hI.b0
      have h0:=Int.mul_nonneg hq.1 hyj.1
      have hmax:q * y[j]≤q * 999999999:=Int.mul_le_mul_of_nonneg_left (by omega) hq.1
      have e1:IntKind.i64.wrap ((k:Int)+(j:Int))=((k+j:Nat):Int):=by rw[wrap_i64 (by omega) (by omega)]; omega
      have e2:IntKind.i64.wrap ((j:Int)+1)=((j+1:Nat):Int):=by rw[wrap_i64 (by omega) (by omega)]; omega
      simp only[zcR,dlt hj,cond_true,e1,e2,zaG hk,zaG hj,Int.toNat_natCast,List.getElem?_eq_getElem hk,List.getElem?_eq_getElem hj,Option.bind_some]
      rw[wrap_add (n:=q * y[j]) (by omega) (by omega),wrap_i64 (n:=x[k+j] - q * y[j]) (by omega) (by omega),wrap_i64 (n:=x[k+j] - q * y[j] - br) (by omega) (by omega)]
      generalize hs:x[k+j] - q * y[j] - br=s at *
      by_cases hneg:s < 0
      · rw[decide_eq_true hneg,cond_true,wrap_i64 (n:=999999999 - s) (by omega) (by omega),Int.tdiv_eq_ediv_of_nonneg (by omega)]
        rw[wrap_i64 (n:=(999999999 - s) / 1000000000) (by omega) (by omega),wrap_i64 (n:=(999999999 - s) / 1000000000 * 1000000000) (by omega) (by omega),wrap_i64 (n:=s+(999999999 - s) / 1000000000 * 1000000000) (by omega) (by omega)]
        refine ⟨_,rfl,_,_,rfl,?_⟩
        exact hI.step hy (by omega) hj hk (by omega) (by omega) (by omega)
      · rw[decide_eq_false hneg,cond_false]
        refine ⟨_,rfl,_,_,rfl,?_⟩
        exact hI.step hy (by omega) hj hk (by omega) (by omega) (by omega))
    (fun z hz=>by
      obtain ⟨br,x,rfl,hI⟩:=hz
      exact ⟨_,by simp[zcR],br,x,rfl,hI⟩)
    (x:=(f,(y.length:Int),top,(k:Int),q,0,(y.length:Int),0,x0,y,out,())) ⟨0,x0,rfl,⟨rfl,hx,by omega,fun _ _=>rfl,fun _ _=>rfl,by simp[nv]⟩⟩
  exact ⟨br,x,h1,h2⟩
end Go.Di
namespace Go.Di
theorem zEg {y x0 out:List Int} {k:Nat} {f top q:Int} (hy:Dig y) (hx:∀ p,p < k+y.length→∀ d,x0[p]? = some d→0≤d∧d < 1000000000) (hfit:k+y.length < x0.length) (hl:x0.length≤1073741824) :
    ∃ c x,zf7 f (y.length:Int) top (k:Int) q 0 (y.length:Int) 0 x0 y out=some (f,(y.length:Int),top,(k:Int),q,c,x,y,out,())∧BackI y x0 k y.length c x:=by
  unfold zf7
  obtain ⟨r,h1,c,x,rfl,h2⟩:=zbX (S:=zcQ) (fun j z=>∃ c x,z=(f,(y.length:Int),top,(k:Int),q,c,(y.length:Int),(j:Int),x,y,out,())∧BackI y x0 k j c x) y.length (fun r=>∃ c x,r=(f,(y.length:Int),top,(k:Int),q,c,x,y,out,())∧BackI y x0 k y.length c x)
    (fun j hj z hz=>by
      obtain ⟨c,x,rfl,hI⟩:=hz
      left
      have hk:k+j < x.length:=by rw[hI.len]; omega
      have he:=hI.dig (k+j) (by omega) _ (List.getElem?_eq_getElem hk)
      have hyj:=hy.at hj
      have hc:=hI.c0
      have e1:IntKind.i64.wrap ((k:Int)+(j:Int))=((k+j:Nat):Int):=by rw[wrap_i64 (by omega) (by omega)]; omega
      have e2:IntKind.i64.wrap ((j:Int)+1)=((j+1:Nat):Int):=by rw[wrap_i64 (by omega) (by omega)]; omega
      simp only[zcQ,dlt hj,cond_true,e1,e2,zaG hk,zaG hj,Int.toNat_natCast,List.getElem?_eq_getElem hk,List.getElem?_eq_getElem hj,Option.bind_some]
      rw[wrap_i64 (n:=x[k+j]+y[j]) (by omega) (by omega),wrap_i64 (n:=x[k+j]+y[j]+c) (by omega) (by omega)]
      by_cases hge:x[k+j]+y[j]+c ≥ 1000000000
      · rw[decide_eq_true hge,cond_true,wrap_i64 (n:=x[k+j]+y[j]+c - 1000000000) (by omega) (by omega)]
        exact ⟨_,rfl,_,_,rfl,hI.step hj hk (by omega) (by omega) (by omega)⟩
      · rw[decide_eq_false hge,cond_false]
        exact ⟨_,rfl,_,_,rfl,hI.step hj hk (by omega) (by omega) (by omega)⟩)
    (fun z hz=>by
      obtain ⟨c,x,rfl,hI⟩:=hz
      exact ⟨_,by simp[zcQ],c,x,rfl,hI⟩)
    (x:=(f,(y.length:Int),top,(k:Int),q,0,(y.length:Int),0,x0,y,out,())) ⟨0,x0,rfl,⟨rfl,hx,by omega,fun _ _=>rfl,fun _ _=>rfl,by simp[nv]⟩⟩
  exact ⟨c,x,h1,h2⟩
end Go.Di
namespace Go.Di
theorem guess_loop {x y out:List Int} {k n:Nat} {f top q r Q:Int} {xn x1 x2 y2:Int} (hn:2≤n) (hl:x.length≤1073741824) (hkn:k+n < x.length) (hyn:y.length=n)
    (hx2:x[k+n - 2]? = some x2) (hy2:y[n - 2]? = some y2) (b2:0≤x2∧x2 < 1000000000) (c2:0≤y2∧y2 < 1000000000) (bn:0≤xn∧xn≤top) (b1:0≤x1∧x1 < 1000000000) (ht:1≤top∧top < 1000000000)
    (hQ:0≤Q∧Q < 1000000000) (hQ2:Q * (top * 1000000000+y2)≤(xn * 1000000000+x1) * 1000000000+x2)
    (h0:q * top+r=xn * 1000000000+x1) (hr:0≤r∧r < 1000000000) (hqQ:Q≤q) :
    ∃ q',zf9 f (n:Int) top (k:Int) q r x y out=some (f,(n:Int),top,(k:Int),q',x,y,out,())∧Q≤q'∧q' < 1000000000∧q' * (top * 1000000000+y2)≤(xn * 1000000000+x1) * 1000000000+x2:=by
  unfold zf9
  obtain ⟨z, h1,q',rfl,h2⟩:=zg7 (S:=zcS) (fun z=>∃ q r,z=(f,(n:Int),top,(k:Int),q,r,x,y,out,())∧q * top+r=xn * 1000000000+x1∧0≤r∧r < 1000000000∧Q≤q) (fun z=>z.2.2.2.2.1.toNat)
    (fun z=>∃ q',z=(f,(n:Int),top,(k:Int),q',x,y,out,())∧Q≤q'∧q' < 1000000000∧q' * (top * 1000000000+y2)≤(xn * 1000000000+x1) * 1000000000+x2)
    (fun z hz => by
      obtain ⟨q,r,rfl,e0,r0,r1,hqQ⟩:=hz
      have ey:IntKind.i64.wrap ((n:Int) - 2)=((n - 2:Nat):Int):=by rw[wrap_i64 (by omega) (by omega)]; omega
      have ex:IntKind.i64.wrap ((IntKind.i64.wrap ((k:Int)+(n:Int))) - 2)=((k+n - 2:Nat):Int):=by rw[wrap_i64 (n:=(k:Int)+n) (by omega) (by omega),wrap_i64 (by omega) (by omega)]; omega
      have er:IntKind.i64.wrap (r+top)=r+top:=wrap_i64 (by omega) (by omega)
      have hqb:q≤2000000000000000000:=by
        rcases Int.lt_or_le q 0 with h | h
        · omega
        · have h3:q * 1≤q * top:=Int.mul_le_mul_of_nonneg_left ht.1 h
          omega
      have eq1:IntKind.i64.wrap (q - 1)=q - 1:=wrap_i64 (by omega) (by omega)
      -- one down
      have down:Q < q→(∃ z,cond (decide (r+top ≥ 1000000000)) (some (Sum.inr (f,(n:Int),top,(k:Int),q - 1,x,y,out,()))) (some (.inl (f,(n:Int),top,(k:Int),q - 1,r+top,x,y,out,())))=some (.inl z)∧(∃ q r,z=(f,(n:Int),top,(k:Int),q,r,x,y,out,())∧q * top+r=xn * 1000000000+x1∧0≤r∧r < 1000000000∧Q≤q)∧z.2.2.2.2.1.toNat < q.toNat) ∨
          ∃ w,cond (decide (r+top ≥ 1000000000)) (some (Sum.inr (f,(n:Int),top,(k:Int),q - 1,x,y,out,()))) (some (.inl (f,(n:Int),top,(k:Int),q - 1,r+top,x,y,out,())))=some (.inr w)∧∃ q',w=(f,(n:Int),top,(k:Int),q',x,y,out,())∧Q≤q'∧q' < 1000000000∧q' * (top * 1000000000+y2)≤(xn * 1000000000+x1) * 1000000000+x2:=by
        intro hlt
        have e1:(q - 1) * top+(r+top)=xn * 1000000000+x1:=by rw[← e0]; grind
        by_cases hb:r+top ≥ 1000000000
        · right
          rw[decide_eq_true hb,cond_true]
          have hq1:q - 1 < 1000000000:=by
            rcases Int.lt_or_le (q - 1) 1000000000 with h | h
            · exact h
            · exfalso
              have h3:1000000000 * top≤(q - 1) * top:=Int.mul_le_mul_of_nonneg_right h (by omega)
              have h4:xn * 1000000000≤top * 1000000000:=Int.mul_le_mul_of_nonneg_right bn.2 (by omega)
              omega
          refine ⟨_,rfl,_,rfl,by omega,hq1,?_⟩
          have h5:(q - 1) * y2≤999999999 * 999999999:=Int.mul_le_mul (by omega) (by omega) c2.1 (by omega)
          have h6:(q - 1) * (top * 1000000000+y2)=((q - 1) * top) * 1000000000+(q - 1) * y2:=by grind
          rw[h6]
          generalize (q - 1) * top=A at *
          omega
        · left
          rw[decide_eq_false hb,cond_false]
          exact ⟨_,rfl,⟨_,_,rfl,e1,by omega,by omega,by omega⟩,by simp; omega⟩
      by_cases hge:q ≥ 1000000000
      · simp only[zcS,decide_eq_true hge,cond_true,er,eq1]
        exact down (by omega)
      · have hqy:0≤q * y2:=Int.mul_nonneg (by omega) c2.1
        have hqy2:q * y2≤999999999 * 999999999:=Int.mul_le_mul (by omega) (by omega) c2.1 (by omega)
        simp only[zcS,decide_eq_false hge,cond_false,ey,ex,zeU hy2,zeU hx2,hy2,hx2,Int.toNat_natCast,Option.bind_some,er,eq1]
        rw[wrap_i64 (n:=q * y2) (by omega) (by omega),wrap_i64 (n:=r * 1000000000) (by omega) (by omega),wrap_i64 (n:=r * 1000000000+x2) (by omega) (by omega)]
        have h6:q * (top * 1000000000+y2)=(q * top) * 1000000000+q * y2:=by grind
        by_cases hgt:q * y2 > r * 1000000000+x2
        · rw [decide_eq_true hgt,cond_true]
          refine down ?_
          rcases Int.lt_or_le Q q with h | h
          · exact h
          · exfalso
            have:q=Q:=by omega
            subst this
            rw[h6] at hQ2
            generalize q * top=A at *
            omega
        · rw[decide_eq_false hgt,cond_false]
          right
          refine ⟨_,rfl,_,rfl,hqQ,by omega,?_⟩
          rw[h6]
          generalize q * top=A at *
          omega)
    (x:=(f,(n:Int),top,(k:Int),q,r,x,y,out,())) ⟨q,r,rfl,h0,hr.1,hr.2,hqQ⟩
  exact ⟨q',h1,h2⟩
end Go.Di
namespace Go.Di
theorem guess_near {p X Y X3 Y2 xl yl Q q top:Int} (hp:0 < p) (hX:X=xl+p * X3) (hxl:0≤xl∧xl < p) (hY:Y=yl+p * Y2) (hyl:0≤yl∧yl < p) (hY0:0 < Y) (htop:top * 1000000000≤Y2) (ht:1≤top)
    (hQ:Q=X / Y) (hq0:0≤q) (hqB:q < 1000000000) (hq:q * Y2≤X3):q≤Q+1:=by
  have h1:p * (q * Y2)≤p * X3:=Int.mul_le_mul_of_nonneg_left hq (by omega)
  have h2:q * yl≤q * p:=Int.mul_le_mul_of_nonneg_left (by omega) hq0
  have h3:p * q≤p * 1000000000:=Int.mul_le_mul_of_nonneg_left (by omega) (by omega)
  have h4:p * 1000000000≤p * Y2:=Int.mul_le_mul_of_nonneg_left (by omega) (by omega)
  have h5:q * Y=q * yl+p * (q * Y2):=by rw[hY]; grind
  have h6:p * q=q * p:=Int.mul_comm _ _
  have h7:q * Y≤X+Y:=by omega
  have h8 : (q - 1) * Y ≤ X := by have:(q - 1) * Y=q * Y - Y:=by grind
                                  omega
  have h9:q - 1≤X / Y:=(Int.le_ediv_iff_mul_le hY0).2 h8
  omega
theorem zur {p X Y X3 Y2 xl yl Q:Int} (hp:0 < p) (hX:X=xl+p * X3) (hxl:0≤xl∧xl < p) (hY:Y=yl+p * Y2) (hyl:0≤yl) (hQ0:0≤Q) (hQ:Q * Y≤X):Q * Y2≤X3:=by
  have h1:0≤Q * yl:=Int.mul_nonneg hQ0 hyl
  have h2:Q * Y=Q * yl+p * (Q * Y2):=by rw[hY]; grind
  have h3:p * (Q * Y2) < p * (X3+1):=by
    have:p * (X3+1)=p * X3+p:=by grind
    omega
  have:=Int.lt_of_mul_lt_mul_left h3 (by omega)
  omega
end Go.Di
namespace Go.Di
theorem zdk (x:List Int) {k:Nat} (h:k≤x.length):nv x=nv (x.take k)+bp k * nv (x.drop k):=by
  have:=zkh (x.take k) (x.drop k)
  rw[List.take_append_drop,List.length_take,Nat.min_eq_left h] at this
  exact this
theorem zoH {x x':List Int} {k:Nat} (h:∀ p,p < k→x'[p]? = x[p]?):x'.take k=x.take k:=by
  apply List.ext_getElem?
  intro p
  by_cases hp:p < k
  · rw[List.getElem?_take_of_lt hp,List.getElem?_take_of_lt hp,h p hp]
  · rw[List.getElem?_eq_none (by simp; omega),List.getElem?_eq_none (by simp; omega)]
theorem zn0 {x:List Int} (h:∀ p,p < x.length→x[p]? = some 0):nv x=0:=by
  have:x=List.replicate x.length 0:=by
    apply List.ext_getElem?
    intro p
    by_cases hp:p < x.length
    · rw[h p hp]; simp[hp]
    · rw[List.getElem?_eq_none (by omega),List.getElem?_eq_none (by simp; omega)]
  rw[this,zl7]
end Go.Di
namespace Go.Di
theorem zz1 {x:List Int} {k n:Nat} (hx:Dig x) (hn:2≤n) (hkn:k+n < x.length) (hz:∀ p,k+n < p→p < x.length→x[p]? = some 0) :
    ∃ xl,0≤xl∧xl < bp (n - 2)∧nv (x.drop k)=xl+bp (n - 2) * ((x[k+n] * 1000000000+x[k+n - 1]) * 1000000000+x[k+n - 2]):=by
  refine ⟨nv ((x.drop k).take (n - 2)),?_,?_,?_⟩
  · exact zaP ((hx.drop k).take _)
  · exact (zkD (hx.drop k) (by rw[List.length_drop]; omega)).2
  · rw [zdk (x.drop k) (k:=n - 2) (by rw[List.length_drop]; omega),List.drop_drop,show k+(n - 2)=k+n - 2 by omega]
    rw[zdj (show k+n - 2 < x.length by omega),show k+n - 2+1=k+n - 1 by omega,zdj (show k+n - 1 < x.length by omega),show k+n - 1+1=k+n by omega,zdj hkn]
    have h0:nv (x.drop (k+n+1))=0:=zn0 fun p hp=>by
      rw[List.length_drop] at hp
      rw[List.getElem?_drop]; exact hz _ (by omega) (by omega)
    rw[h0]
    generalize x[k+n]=a
    generalize x[k+n - 1]=b
    generalize x[k+n - 2]=c
    grind
theorem zKa {y:List Int} (hy:Dig y) (hn:2≤y.length) :
    ∃ yl,0≤yl∧yl < bp (y.length - 2)∧nv y=yl+bp (y.length - 2) * (y[y.length - 1] * 1000000000+y[y.length - 2]):=by
  refine ⟨nv (y.take (y.length - 2)),zaP (hy.take _),(zkD hy (by omega)).2,?_⟩
  rw[zdk y (k:=y.length - 2) (by omega),zdj (show y.length - 2 < y.length by omega),show y.length - 2+1=y.length - 1 by omega,zdj (show y.length - 1 < y.length by omega),List.drop_of_length_le (by omega)]
  have h:=hy
  simp only[nv]
  have e:nv (y.take (y.length - 2))=nv (y.take (y.length - 2)):=rfl
  generalize y[y.length - 1]=a
  generalize y[y.length - 2]=b
  grind
end Go.Di
namespace Go.Di
structure RoundI (y:List Int) (L:Nat) (V:Int) (k:Nat) (x out:List Int):Prop where
  xlen:x.length=L
  olen:out.length+y.length=L
  xd:Dig x
  od:Dig out
  zero:∀ p,k+y.length≤p→p < L→x[p]? = some 0
  lt:nv (x.drop k) < nv y
  val:V=nv x+bp k * (nv y * nv (out.drop k))
theorem RoundI.mk' {y x x' out:List Int} {L k:Nat} {V q:Int} (h:RoundI y L V (k+1) x out) (hk:k < out.length) (hlen:x'.length=L) (hd:Dig x') (hlow:∀ p,p < k→x'[p]? = x[p]?) (hz:∀ p,k+y.length≤p→p < L→x'[p]? = some 0)
    (hq:0≤q∧q < 1000000000) (hw:nv (x'.drop k)=nv (x.drop k) - q * nv y) (hlt:nv (x'.drop k) < nv y):RoundI y L V k x' (out.set k q):=by
  refine ⟨hlen,by simp[h.olen],hd,h.od.set k hq,hz,hlt,?_⟩
  have hkx:k≤x.length:=by rw[h.xlen]; have:=h.olen; omega
  have e1:=zdk x hkx
  have e2:=zdk x' (k:=k) (by rw[hlen]; have:=h.olen; omega)
  rw[zoH hlow] at e2
  have e3:=zdj (a:=out.set k q) (i:=k) (by simp; exact hk)
  have e4:(out.set k q).drop (k+1)=out.drop (k+1):=by rw[List.drop_set_of_lt (by omega)]
  have e5:(out.set k q)[k]'(by simp; exact hk)=q:=by simp
  rw[e4,e5] at e3
  have hv:=h.val
  rw[e3,e2,hw]
  rw[e1,zel] at hv
  rw[hv]
  generalize nv (x.take k)=a
  generalize nv (x.drop k)=b
  generalize nv (out.drop (k+1))=o
  generalize nv y=z
  generalize bp k=p
  grind
end Go.Di
namespace Go.Di
theorem zL2 {n:Nat} (h:1≤n) {y:List Int} (hy:Dig y) (hl:y.length=n) {t:Int} (ht:y[n - 1]? = some t) (h5:1≤t):bp (n - 1)≤nv y:=by
  have hlt:n - 1 < y.length:=by omega
  have e:=zdk y (k:=n - 1) (by omega)
  rw[zdj hlt,show n - 1+1=n by omega,List.drop_of_length_le (by omega)] at e
  rw[List.getElem?_eq_getElem hlt] at ht
  have ht:y[n - 1]=t:=by simpa using ht
  rw[ht] at e
  have h0:=zaP (hy.take (n - 1))
  have hp:=zfb (n - 1)
  have:bp (n - 1) * 1≤bp (n - 1) * t:=Int.mul_le_mul_of_nonneg_left h5 (by omega)
  simp only[nv,Int.mul_zero,Int.add_zero] at e
  omega
end Go.Di
namespace Go.Di
theorem after_take {y x x':List Int} {k:Nat} {q br:Int} (hI:TakeI y x k q y.length br x') (hk:k+y.length < x.length) :
    nv ((x'.set (k+y.length) (x[k+y.length] - br)).drop k)=nv (x.drop k) - q * nv y:=by
  have hlx:k+y.length < x'.length:=by rw[hI.len]; exact hk
  have hv:=hI.val
  rw[List.take_length] at hv
  have hs:=zmH (d:=x[k+y.length] - br) hlx
  have he:x'[k+y.length]=x[k+y.length]:=by
    have:=hI.rest (k+y.length) (Nat.le_refl _)
    rw[List.getElem?_eq_getElem hlx,List.getElem?_eq_getElem hk] at this
    simpa using this
  rw[he] at hs
  have e1:=zdk x (k:=k) (by omega)
  have e2:=zdk (x'.set (k+y.length) (x[k+y.length] - br)) (k:=k) (by simp; omega)
  have e3:(x'.set (k+y.length) (x[k+y.length] - br)).take k=x.take k:=zoH fun p hp=>by
    rw[List.getElem?_set_ne (by omega)]; exact hI.low p hp
  rw[e3,hs] at e2
  have hp:=zfb k
  have key:bp k * nv ((x'.set (k+y.length) (x[k+y.length] - br)).drop k)=bp k * (nv (x.drop k) - q * nv y):=by
    generalize nv ((x'.set (k+y.length) (x[k+y.length] - br)).drop k)=A at *
    generalize nv (x.drop k)=X at *
    generalize x[k+y.length]=e at *
    generalize bp (k+y.length)=P at *
    generalize bp k=p at *
    generalize nv (x.take k)=u at *
    generalize nv y=z at *
    grind
  exact Int.eq_of_mul_eq_mul_left (by omega) key
end Go.Di
namespace Go.Di
theorem zJ6 {x:List Int} {k n:Nat} (hkn:k+n < x.length) (hz:∀ p,k+n < p→p < x.length→x[p]? = some 0):nv (x.drop k)=nv ((x.drop k).take n)+bp n * x[k+n]:=by
  rw[zdk (x.drop k) (k:=n) (by rw[List.length_drop]; omega),List.drop_drop,zdj hkn]
  have h0:nv (x.drop (k+n+1))=0:=zn0 fun p hp=>by
    rw[List.length_drop] at hp
    rw[List.getElem?_drop]; exact hz _ (by omega) (by omega)
  rw[h0]; simp
theorem zEE {W b e D Y:Int} (hW:0≤W∧W < b) (hD:D=W+b * e) (hY:0 < Y∧Y < b):(0≤D→D < Y→e=0)∧(D < 0 → -Y≤D→e = -1):=by
  constructor
  · intro h1 h2
    rcases Int.lt_or_le e 0 with h | h
    · have:b * e≤b * (-1):=Int.mul_le_mul_of_nonneg_left (by omega) (by omega)
      omega
    · rcases Int.lt_or_le 0 e with h' | h'
      · have:b * 1≤b * e:=Int.mul_le_mul_of_nonneg_left (by omega) (by omega)
        omega
      · omega
  · intro h1 h2
    rcases Int.lt_or_le e (-1) with h | h
    · have:b * e≤b * (-2):=Int.mul_le_mul_of_nonneg_left (by omega) (by omega)
      omega
    · rcases Int.lt_or_le (-1) e with h' | h'
      · have:0≤b * e:=Int.mul_nonneg (by omega) (by omega)
        omega
      · omega
end Go.Di
namespace Go.Di
theorem zfU {x:List Int} {i:Nat} (h:i < x.length):x[i]? = some x[i]:=List.getElem?_eq_getElem h
theorem Dig.zMT {x:List Int} {i:Nat} {d:Int} (h:∀ p,p≠i→∀ e,x[p]? = some e→0≤e∧e < 1000000000) (hd:0≤d∧d < 1000000000):Dig (x.set i d):=fun e he=>by
  obtain ⟨p,hp,rfl⟩:=List.getElem_of_mem he
  rw[List.length_set] at hp
  by_cases hpi:p=i
  · subst hpi; simpa using hd
  · have:=h p hpi x[p] (zfU hp)
    rw[List.getElem_set_ne (by omega)]; exact this
theorem zNQ {x:List Int} {k n:Nat} (hlow:∀ p,p < k+n→∀ e,x[p]? = some e→0≤e∧e < 1000000000):Dig ((x.drop k).take n):=fun e he=>by
  obtain ⟨p,hp,rfl⟩:=List.getElem_of_mem he
  rw[List.length_take,List.length_drop] at hp
  have h1:k+p < x.length:=by omega
  have:=hlow (k+p) (by omega) x[k+p] (zfU h1)
  simpa using this
theorem zu6 {y x:List Int} {k:Nat} (hy:Dig y) (hkn:k+y.length < x.length) (hlow:∀ p,p < k+y.length→∀ e,x[p]? = some e→0≤e∧e < 1000000000)
    (hz:∀ p,k+y.length < p→p < x.length→x[p]? = some 0) (hY:0 < nv y) :
    (0≤nv (x.drop k)→nv (x.drop k) < nv y→x[k+y.length]=0)∧(nv (x.drop k) < 0 → -nv y≤nv (x.drop k)→x[k+y.length] = -1):=by
  have hW:=zNQ hlow
  have h1:=zaP hW
  have h2:=zoY hW
  have hl:((x.drop k).take y.length).length=y.length:=by rw[List.length_take,List.length_drop]; omega
  rw[hl] at h2
  exact zEE (W:=nv ((x.drop k).take y.length)) (b:=bp y.length) ⟨h1,h2⟩ (zJ6 hkn hz) ⟨hY,zoY hy⟩
theorem zx1 {y x out:List Int} {k L:Nat} {f V top:Int} (hy:Dig y) (hn:2≤y.length) (htop:y[y.length - 1]? = some top) (ht:1≤top) (h:RoundI y L V (k+1) x out) (hk:k < out.length) (hL:L≤1000000000) :
    ∃ x' out',zcc (f,(y.length:Int),top,(k:Int),x,y,out,())=some (.inl (f,(y.length:Int),top,(k:Int) - 1,x',y,out',()))∧RoundI y L V k x' out':=by
  have hxl:=h.xlen
  have hol:=h.olen
  have hkn:k+y.length < x.length:=by omega
  have hx:=h.xd
  have hz:∀ p,k+y.length < p→p < x.length→x[p]? = some 0:=fun p h1 h2=>h.zero p (by omega) (by omega)
  have htl:top < 1000000000:=by
    have:=hy.at (show y.length - 1 < y.length by omega)
    rw[zfU (show y.length - 1 < y.length by omega)] at htop
    simp only[Option.some.injEq] at htop
    omega
  have htop':y[y.length - 1]=top:=by
    rw[zfU (show y.length - 1 < y.length by omega)] at htop
    simpa using htop
  have hb:=zL2 (n:=y.length) (by omega) hy rfl htop ht
  have hYp:0 < nv y:=by have:=zfb (y.length - 1); omega
  -- the limbs
  have hxn:=hx.at hkn
  have hx1:=hx.at (show k+y.length - 1 < x.length by omega)
  have hx2:=hx.at (show k+y.length - 2 < x.length by omega)
  have hy2:=hy.at (show y.length - 2 < y.length by omega)
  obtain ⟨xl,xl0,xl1,hX⟩:=zz1 hx hn hkn hz
  obtain ⟨yl,yl0,yl1,hY⟩:=zKa hy hn
  rw[htop'] at hY
  have hXB:nv (x.drop k) < 1000000000 * nv y:=by
    rw[zdj (show k < x.length by omega)]
    have h1:=hx.at (show k < x.length by omega)
    have h2:=h.lt
    omega
  have hX0:=zaP (hx.drop k)
  have hQ0:0≤nv (x.drop k) / nv y:=Int.ediv_nonneg hX0 (by omega)
  have hQB:nv (x.drop k) / nv y < 1000000000:=Int.ediv_lt_of_lt_mul hYp hXB
  have hQX:nv (x.drop k) / nv y * nv y≤nv (x.drop k):=Int.ediv_mul_le _ (by omega)
  have hQX2:nv (x.drop k) < (nv (x.drop k) / nv y+1) * nv y:=Int.lt_ediv_add_one_mul_self _ hYp
  generalize hQ:nv (x.drop k) / nv y=Q at *
  have hp:=zfb (y.length - 2)
  have hgb:=zur hp hX ⟨xl0,xl1⟩ hY yl0 hQ0 hQX
  -- the top of the window is at most the top of the divisor
  have hbn:x[k+y.length]≤top:=by
    have h1:nv (x.drop (k+1))=nv ((x.drop (k+1)).take (y.length - 1))+bp (y.length - 1) * nv (x.drop (k+y.length)):=by
      rw[zdk (x.drop (k+1)) (k:=y.length - 1) (by rw[List.length_drop]; omega),List.drop_drop,show k+1+(y.length - 1)=k+y.length by omega]
    rw[zdj hkn] at h1
    have h2:=zaP ((hx.drop (k+1)).take (y.length - 1))
    have h3:=zaP (hx.drop (k+y.length+1))
    have h4:=h.lt
    have h5:=zdk y (k:=y.length - 1) (by omega)
    rw[zdj (show y.length - 1 < y.length by omega),htop',List.drop_of_length_le (show y.length≤y.length - 1+1 by omega)] at h5
    have h6:=(zkD hy (show y.length - 1≤y.length by omega)).2
    simp only[nv,Int.mul_zero,Int.add_zero] at h5
    have hp1:=zfb (y.length - 1)
    rcases Int.lt_or_le top x[k+y.length] with h7 | h7
    · exfalso
      have h8:bp (y.length - 1) * (top+1)≤bp (y.length - 1) * (x[k+y.length]+1000000000 * nv (x.drop (k+y.length+1))):=Int.mul_le_mul_of_nonneg_left (by omega) (by omega)
      have h9:bp (y.length - 1) * (top+1)=bp (y.length - 1) * top+bp (y.length - 1):=by grind
      omega
    · exact h7
  -- the first try
  have hqr:=Int.mul_ediv_add_emod (x[k+y.length] * 1000000000+x[k+y.length - 1]) top
  have hr0:=Int.emod_nonneg (x[k+y.length] * 1000000000+x[k+y.length - 1]) (show top≠0 by omega)
  have hr1:=Int.emod_lt_of_pos (x[k+y.length] * 1000000000+x[k+y.length - 1]) (show 0 < top by omega)
  have hQq:Q≤(x[k+y.length] * 1000000000+x[k+y.length - 1]) / top:=by
    refine (Int.le_ediv_iff_mul_le (by omega)).2 ?_
    have h1:0≤Q * y[y.length - 2]:=Int.mul_nonneg hQ0 hy2.1
    have h2:Q * (top * 1000000000+y[y.length - 2])=(Q * top) * 1000000000+Q * y[y.length - 2]:=by grind
    rw[h2] at hgb
    generalize Q * top=A at *
    omega
  obtain ⟨q',hq1,hq2,hq3,hq4⟩:=guess_loop (x:=x) (y:=y) (out:=out) (k:=k) (n:=y.length) (f:=f) (top:=top) (q:=(x[k+y.length] * 1000000000+x[k+y.length - 1]) / top) (r:=(x[k+y.length] * 1000000000+x[k+y.length - 1]) % top) (Q:=Q)
    hn (by omega) hkn rfl (zfU (show k+y.length - 2 < x.length by omega)) (zfU (show y.length - 2 < y.length by omega)) hx2 hy2 ⟨hxn.1,hbn⟩ hx1 ⟨ht,htl⟩ ⟨hQ0,hQB⟩ hgb (by rw[Int.mul_comm]; exact hqr) ⟨hr0,by omega⟩ hQq
  have hq5:=guess_near (q:=q') (top:=top) hp hX ⟨xl0,xl1⟩ hY ⟨yl0,yl1⟩ hYp (by omega) ht hQ.symm (by omega) hq3 hq4
  obtain ⟨br,x',ht1,hT⟩:=zz2 (y:=y) (x0:=x) (out:=out) (k:=k) (f:=f) (top:=top) (q:=q') hy hx ⟨by omega,hq3⟩ hkn (by omega)
  have hbr:=hT.b0
  have hlx:k+y.length < x'.length:=by rw[hT.len]; exact hkn
  have hxe:x'[k+y.length]=x[k+y.length]:=by
    have:=hT.rest (k+y.length) (Nat.le_refl _)
    rw[zfU hlx,zfU hkn] at this
    simpa using this
  have hD:=after_take hT hkn
  have e1:IntKind.i64.wrap ((k:Int)+(y.length:Int))=((k+y.length:Nat):Int):=by rw[wrap_i64 (by omega) (by omega)]; omega
  have e2:IntKind.i64.wrap (((k+y.length:Nat):Int) - 1)=((k+y.length - 1:Nat):Int):=by rw[wrap_i64 (by omega) (by omega)]; omega
  have e3:IntKind.i64.wrap ((k:Int) - 1)=(k:Int) - 1:=wrap_i64 (by omega) (by omega)
  have e4:IntKind.i64.wrap (x[k+y.length] - br)=x[k+y.length] - br:=wrap_i64 (by omega) (by omega)
  have e5:IntKind.i64.wrap (q' - 1)=q' - 1:=wrap_i64 (by omega) (by omega)
  have etop:zal (top != 0)=some ():=by
    have:(top != 0)=true:=by simp; omega
    rw[this]; rfl
  have ediv:IntKind.i64.wrap ((IntKind.i64.wrap ((IntKind.i64.wrap (x[k+y.length] * 1000000000))+x[k+y.length - 1])).tdiv top)=(x[k+y.length] * 1000000000+x[k+y.length - 1]) / top:=by
    rw[wrap_i64 (n:=x[k+y.length] * 1000000000) (by omega) (by omega),wrap_i64 (n:=x[k+y.length] * 1000000000+x[k+y.length - 1]) (by omega) (by omega),Int.tdiv_eq_ediv_of_nonneg (by omega)]
    have h1:0≤(x[k+y.length] * 1000000000+x[k+y.length - 1]) / top:=Int.ediv_nonneg (by omega) (by omega)
    have h2:(x[k+y.length] * 1000000000+x[k+y.length - 1]) / top≤x[k+y.length] * 1000000000+x[k+y.length - 1]:=Int.ediv_le_self _ (by omega)
    exact wrap_i64 (by omega) (by omega)
  have emod:(IntKind.i64.wrap ((IntKind.i64.wrap (x[k+y.length] * 1000000000))+x[k+y.length - 1])).tmod top=(x[k+y.length] * 1000000000+x[k+y.length - 1]) % top:=by
    rw[wrap_i64 (n:=x[k+y.length] * 1000000000) (by omega) (by omega),wrap_i64 (n:=x[k+y.length] * 1000000000+x[k+y.length - 1]) (by omega) (by omega),Int.tmod_eq_emod_of_nonneg (by omega)]
  have hset:∀ d:Int,(x'.set (k+y.length) d)[k+y.length]? = some d:=fun d=>by simp[hlx]
  have hsl:k+y.length < (x'.set (k+y.length) (x[k+y.length] - br)).length:=by simpa using hlx
  have hslow:∀ p,p < k+y.length→∀ e,(x'.set (k+y.length) (x[k+y.length] - br))[p]? = some e→0≤e∧e < 1000000000:=fun p hp e he=>by
    rw[List.getElem?_set_ne (by omega)] at he
    exact hT.dig e (List.mem_of_getElem? he)
  have hsz:∀ p,k+y.length < p→p < (x'.set (k+y.length) (x[k+y.length] - br)).length→(x'.set (k+y.length) (x[k+y.length] - br))[p]? = some 0:=fun p h1 h2=>by
    rw[List.getElem?_set_ne (by omega),hT.rest p (by omega)]
    rw[List.length_set,hT.len] at h2
    exact hz p h1 h2
  have hsg:=zu6 hy hsl hslow hsz hYp
  have hse:(x'.set (k+y.length) (x[k+y.length] - br))[k+y.length]'hsl=x[k+y.length] - br:=by simp
  rw[hse,hD] at hsg
  simp only[zcc,show decide ((k:Int) ≥ 0)=true by simp,cond_true,e1,e2,zaG hkn,zfU hkn,Int.toNat_natCast,zaG (show k+y.length - 1 < x.length by omega),zfU (show k+y.length - 1 < x.length by omega),Option.bind_some,etop,ediv,emod,hq1,ht1,zaG hlx,zfU hlx,hxe,e4,zeU (hset _),hset,e3,zaG hk,e5]
  by_cases hneg:x[k+y.length] - br < 0
  · -- one too many
    rw[decide_eq_true hneg,cond_true]
    have hDneg:nv (x.drop k) - q' * nv y < 0:=by
      rcases Int.lt_or_le (nv (x.drop k) - q' * nv y) 0 with h1 | h1
      · exact h1
      · exfalso
        have h2:(q':Int) * nv y≤nv (x.drop k):=by omega
        have h3:Q * nv y≤q' * nv y:=Int.mul_le_mul_of_nonneg_right hq2 (by omega)
        have h4:(Q+1) * nv y=Q * nv y+nv y:=by grind
        have:=hsg.1 h1 (by omega)
        omega
    have hq6:q'=Q+1:=by
      rcases Int.lt_or_le Q q' with h1 | h1
      · omega
      · exfalso
        have:q'=Q:=by omega
        subst this
        omega
    obtain ⟨c,x3,hb1,hB⟩:=zEg (y:=y) (x0:=x'.set (k+y.length) (x[k+y.length] - br)) (out:=out) (k:=k) (f:=f) (top:=top) (q:=q' - 1) hy hslow hsl (by rw[List.length_set,hT.len]; omega)
    have hl3:k+y.length < x3.length:=by rw[hB.len]; exact hsl
    have hc:=hB.c0
    have h3e:x3[k+y.length]=x[k+y.length] - br:=by
      have:=hB.rest (k+y.length) (Nat.le_refl _)
      rw[zfU hl3,hset] at this
      simpa using this
    have e6:IntKind.i64.wrap (x[k+y.length] - br+c)=x[k+y.length] - br+c:=wrap_i64 (by omega) (by omega)
    simp only[hb1,Option.bind_some,e1,zaG hl3,zfU hl3,Int.toNat_natCast,h3e,e6,zaG hk,e3]
    have hm1:=hsg.2 hDneg (by
      have h4:q' * nv y=Q * nv y+nv y:=by rw[hq6]; grind
      omega)
    -- the value behind
    have hv4:nv ((x3.set (k+y.length) (x[k+y.length] - br+c)).drop k)=nv (x.drop k) - Q * nv y:=by
      have hv:=hB.val
      rw[List.take_length] at hv
      have hs:=zmH (d:=x[k+y.length] - br+c) hl3
      rw[h3e] at hs
      have s1:=zdk (x'.set (k+y.length) (x[k+y.length] - br)) (k:=k) (by omega)
      have s2:=zdk (x3.set (k+y.length) (x[k+y.length] - br+c)) (k:=k) (by simp; omega)
      have s3:(x3.set (k+y.length) (x[k+y.length] - br+c)).take k=(x'.set (k+y.length) (x[k+y.length] - br)).take k:=zoH fun p hp=>by
        rw[List.getElem?_set_ne (by omega)]; exact hB.low p hp
      rw[s3,hs] at s2
      rw[hD] at s1
      have h4:q' * nv y=Q * nv y+nv y:=by rw[hq6]; grind
      refine Int.eq_of_mul_eq_mul_left (show bp k≠0 by have:=zfb k; omega) ?_
      rw[h4] at s1
      generalize nv ((x3.set (k+y.length) (x[k+y.length] - br+c)).drop k)=A at *
      generalize nv (x.drop k)=X at *
      generalize nv y=Y at *
      generalize Q * Y=QY at *
      generalize bp (k+y.length)=P at *
      generalize bp k=p at *
      generalize x[k+y.length] - br=e at *
      grind
    have hl4:k+y.length < (x3.set (k+y.length) (x[k+y.length] - br+c)).length:=by simpa using hl3
    have h4low:∀ p,p < k+y.length→∀ e,(x3.set (k+y.length) (x[k+y.length] - br+c))[p]? = some e→0≤e∧e < 1000000000:=fun p hp e he=>by
      rw[List.getElem?_set_ne (by omega)] at he
      exact hB.dig p hp e he
    have h4z:∀ p,k+y.length < p→p < (x3.set (k+y.length) (x[k+y.length] - br+c)).length→(x3.set (k+y.length) (x[k+y.length] - br+c))[p]? = some 0:=fun p h1 h2=>by
      rw[List.getElem?_set_ne (by omega),hB.rest p (by omega)]
      rw[List.length_set,hB.len] at h2
      exact hsz p h1 h2
    have hsg4:=zu6 hy hl4 h4low h4z hYp
    have h5:(Q+1) * nv y=Q * nv y+nv y:=by grind
    have hzero:=hsg4.1 (by rw[hv4]; omega) (by rw[hv4]; omega)
    have hse4:(x3.set (k+y.length) (x[k+y.length] - br+c))[k+y.length]'hl4=x[k+y.length] - br+c:=by simp
    rw[hse4] at hzero
    refine ⟨_,_,rfl,?_⟩
    have hqQ:q' - 1=Q:=by omega
    rw[hqQ]
    refine h.mk' hk (by simp[hB.len,hT.len,hxl]) ?_ (fun p hp=>?_) (fun p hp1 hp2=>?_) ⟨hQ0,hQB⟩ hv4 (by rw[hv4]; omega)
    · rw [hzero]
      refine Dig.zMT (fun p hpne e he=>?_) (by omega)
      rcases Nat.lt_or_ge p (k+y.length) with h6 | h6
      · exact hB.dig p h6 e he
      · have hpl:p < x3.length:=(List.getElem?_eq_some_iff.1 he).1
        have:=h4z p (by omega) (by simpa using hpl)
        rw[List.getElem?_set_ne (by omega)] at this
        rw[this] at he; simp only[Option.some.injEq] at he; omega
    · rw[List.getElem?_set_ne (by omega),hB.low p hp,List.getElem?_set_ne (by omega),hT.low p hp]
    · by_cases hpe:p=k+y.length
      · subst hpe
        rw[List.getElem?_eq_getElem hl4,hse4,hzero]
      · exact h4z p (by omega) (by simp[hB.len,hT.len]; omega)
  · rw [decide_eq_false hneg,cond_false]
    have hDpos:0≤nv (x.drop k) - q' * nv y:=by
      rcases Int.lt_or_le (nv (x.drop k) - q' * nv y) 0 with h1 | h1
      · exfalso
        have h2:q' * nv y≤(Q+1) * nv y:=Int.mul_le_mul_of_nonneg_right (by omega) (by omega)
        have h4:(Q+1) * nv y=Q * nv y+nv y:=by grind
        have:=hsg.2 h1 (by omega)
        omega
      · exact h1
    have hqQ:q'=Q:=by
      rcases Int.lt_or_le Q q' with h1 | h1
      · exfalso
        have h2:(Q+1) * nv y≤q' * nv y:=Int.mul_le_mul_of_nonneg_right h1 (by omega)
        omega
      · omega
    subst hqQ
    have h5:(q'+1) * nv y=q' * nv y+nv y:=by grind
    have hzero:=hsg.1 hDpos (by omega)
    refine ⟨_,_,rfl,?_⟩
    refine h.mk' hk (by simp[hT.len,hxl]) ?_ (fun p hp=>?_) (fun p hp1 hp2=>?_) ⟨hQ0,hQB⟩ hD (by rw[hD]; omega)
    · rw[hzero]
      exact hT.dig.set _ (by omega)
    · rw[List.getElem?_set_ne (by omega),hT.low p hp]
    · by_cases hpe:p=k+y.length
      · subst hpe
        rw[hset,hzero]
      · exact hsz p (by omega) (by simp[hT.len]; omega)
end Go.Di
