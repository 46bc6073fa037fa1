/-
  Own work: part 5 of the texts that the proof of the given statement leans on.
-/
import Derived.Laws.Strings
import Derived.Test.YtemlaciidfaceaaGreatZD03
namespace Go.Di
noncomputable def M_impl_copyInts (l:List Int):Option (List Int) :=
  (guardO (Nat.ble l.length maxNew)).bind fun _ =>
  some l
noncomputable def M_spec_l01In (n:Int) (lo:Int) (hi:Int):Option Bool :=
  cond (decide (n ≥ lo))
    (some (decide (n≤hi)))
    (some false)
end Go.Di
namespace Go.Di
noncomputable def S_impl_NatOf_0:Int × (List Int) × Unit→Option ((Int × (List Int) × Unit) ⊕ ((List Int) × Unit)):=fun (n,out,_) =>
  cond (decide (n > 0))
    ((guardO (Nat.ble (out.length+1) maxNew)).bind fun _ =>
    some (.inl (IntKind.i64.wrap (n.tdiv 1000000000),out++([n.tmod 1000000000]:List Int),())))
    (some (.inr (out,())))
noncomputable def L_impl_NatOf_0 (n:Int) (out:List Int):Option ((List Int) × Unit):=whileO S_impl_NatOf_0 (n,out,())
noncomputable def M_impl_NatOf (n:Int):Option (List Int) :=
  (L_impl_NatOf_0 n ([]:List Int)).bind fun (out,_) =>
  some out
noncomputable def S_impl_NatOk_0:(List Int) × Int × Int × Unit→Option (((List Int) × Int × Int × Unit) ⊕ ((Bool × Unit) ⊕ (Unit))):=fun (t,t1,t2,_) =>
  cond (decide (t2 < t1))
    ((idx t t2).bind fun e =>
    cond (decide (e < 0))
      (some (.inr (.inl (false,()))))
      (cond (decide (e ≥ 1000000000))
        (some (.inr (.inl (false,()))))
        (some (.inl (t,t1,IntKind.i64.wrap (t2+1),())))))
    (some (.inr (.inr (()))))
noncomputable def L_impl_NatOk_0 (t:List Int) (t1:Int) (t2:Int):Option ((Bool × Unit) ⊕ (Unit)):=whileO S_impl_NatOk_0 (t,t1,t2,())
noncomputable def M_impl_NatOk (a:List Int):Option Bool :=
  cond (decide ((a.length:Int) > 60))
    (some false)
    (cond (decide ((a.length:Int) > 0))
      ((idx a (IntKind.i64.wrap ((a.length:Int) - 1))).bind fun e =>
      cond (e==0)
        (some false)
        ((L_impl_NatOk_0 a (a.length:Int) 0).bind fun r =>
        match r with
        | .inl (t,_) =>
          some t
        | .inr _ =>
          some true))
      ((L_impl_NatOk_0 a (a.length:Int) 0).bind fun r =>
      match r with
      | .inl (t,_) =>
        some t
      | .inr _ =>
        some true))
noncomputable def S_impl_trim_c_0:Int × (List Int) × Unit→Option ((Int × (List Int) × Unit) ⊕ (Int × (List Int) × Unit)):=fun (n,a,_) =>
  cond (decide (n > 0))
    ((idx a (IntKind.i64.wrap (n - 1))).bind fun _ =>
    (a[(IntKind.i64.wrap (n - 1)).toNat]?).bind fun e =>
    cond (e==0)
      (some (.inl (IntKind.i64.wrap (n - 1),a,())))
      (some (.inr (n,a,()))))
    (some (.inr (n,a,())))
noncomputable def L_impl_trim_c_0 (n:Int) (a:List Int):Option (Int × (List Int) × Unit):=whileO S_impl_trim_c_0 (n,a,())
noncomputable def M_impl_trim_c (a:List Int):Option (List Int) :=
  (L_impl_trim_c_0 (a.length:Int) a).bind fun (n,a1,_) =>
  (guardO (inside a1.length (0,n))).bind fun _ =>
  some (a1.take n.toNat)
noncomputable def S_impl_divSmall_0:(List Int) × Int × Int × Int × (List Int) × Unit→Option (((List Int) × Int × Int × Int × (List Int) × Unit) ⊕ (Int × (List Int) × Unit)):=fun (a,d,rest,i,out,_) =>
  cond (decide (i ≥ 0))
    ((idx a i).bind fun e =>
    (guardO (d != 0)).bind fun _ =>
    (idx out i).bind fun _ =>
    (guardO (d != 0)).bind fun _ =>
    some (.inl (a,d,(IntKind.i64.wrap ((IntKind.i64.wrap (rest * 1000000000))+e)).tmod d,IntKind.i64.wrap (i - 1),out.set i.toNat (IntKind.i64.wrap ((IntKind.i64.wrap ((IntKind.i64.wrap (rest * 1000000000))+e)).tdiv d)),())))
    (some (.inr (rest,out,())))
noncomputable def L_impl_divSmall_0 (a:List Int) (d:Int) (rest:Int) (i:Int) (out:List Int):Option (Int × (List Int) × Unit):=whileO S_impl_divSmall_0 (a,d,rest,i,out,())
noncomputable def M_impl_divSmall (a:List Int) (d:Int):Option (List Int × List Int) :=
  (guardO (((decide (0≤(a.length:Int))) && (decide ((a.length:Int)≤(a.length:Int)))) && (decide ((a.length:Int)≤(maxNew:Int))))).bind fun _ =>
  (L_impl_divSmall_0 a d 0 (IntKind.i64.wrap ((a.length:Int) - 1)) (List.replicate ((a.length:Int).toNat) 0:List Int)).bind fun (rest,out,_) =>
  (M_impl_trim_c out).bind fun r =>
  (M_impl_NatOf rest).bind fun r1 =>
  some (r,r1)
noncomputable def S_impl_natAdd_0:(List Int) × (List Int) × Int × Int × Int × (List Int) × Unit→Option (((List Int) × (List Int) × Int × Int × Int × (List Int) × Unit) ⊕ (Int × (List Int) × Unit)):=fun (a,b,carry,t,t1,out,_) =>
  cond (decide (t1 < t))
    ((idx a t1).bind fun e =>
    cond (decide (t1 < (b.length:Int)))
      ((idx b t1).bind fun e1 =>
      cond (decide ((IntKind.i64.wrap ((IntKind.i64.wrap (e+carry))+e1)) ≥ 1000000000))
        ((guardO (Nat.ble (out.length+1) maxNew)).bind fun _ =>
        some (.inl (a,b,1,t,IntKind.i64.wrap (t1+1),out++([IntKind.i64.wrap ((IntKind.i64.wrap ((IntKind.i64.wrap (e+carry))+e1)) - 1000000000)]:List Int),())))
        ((guardO (Nat.ble (out.length+1) maxNew)).bind fun _ =>
        some (.inl (a,b,0,t,IntKind.i64.wrap (t1+1),out++([IntKind.i64.wrap ((IntKind.i64.wrap (e+carry))+e1)]:List Int),()))))
      (cond (decide ((IntKind.i64.wrap (e+carry)) ≥ 1000000000))
        ((guardO (Nat.ble (out.length+1) maxNew)).bind fun _ =>
        some (.inl (a,b,1,t,IntKind.i64.wrap (t1+1),out++([IntKind.i64.wrap ((IntKind.i64.wrap (e+carry)) - 1000000000)]:List Int),())))
        ((guardO (Nat.ble (out.length+1) maxNew)).bind fun _ =>
        some (.inl (a,b,0,t,IntKind.i64.wrap (t1+1),out++([IntKind.i64.wrap (e+carry)]:List Int),())))))
    (some (.inr (carry,out,())))
noncomputable def L_impl_natAdd_0 (a:List Int) (b:List Int) (carry:Int) (t:Int) (t1:Int) (out:List Int):Option (Int × (List Int) × Unit):=whileO S_impl_natAdd_0 (a,b,carry,t,t1,out,())
noncomputable def M_impl_natAdd (a:List Int) (b:List Int):Option (List Int) :=
  cond (decide ((a.length:Int) < (b.length:Int)))
    ((guardO ((decide (0≤(IntKind.i64.wrap ((b.length:Int)+1)))) && (decide ((IntKind.i64.wrap ((b.length:Int)+1))≤(maxNew:Int))))).bind fun _ =>
    (L_impl_natAdd_0 b a 0 (b.length:Int) 0 (List.replicate 0 0:List Int)).bind fun (carry,out,_) =>
    cond (decide (carry > 0))
      ((guardO (Nat.ble (out.length+1) maxNew)).bind fun _ =>
      some (out++([1]:List Int)))
      (some out))
    ((guardO ((decide (0≤(IntKind.i64.wrap ((a.length:Int)+1)))) && (decide ((IntKind.i64.wrap ((a.length:Int)+1))≤(maxNew:Int))))).bind fun _ =>
    (L_impl_natAdd_0 a b 0 (a.length:Int) 0 (List.replicate 0 0:List Int)).bind fun (carry,out,_) =>
    cond (decide (carry > 0))
      ((guardO (Nat.ble (out.length+1) maxNew)).bind fun _ =>
      some (out++([1]:List Int)))
      (some out))
noncomputable def S_impl_natCmp_0:(List Int) × (List Int) × Int × Unit→Option (((List Int) × (List Int) × Int × Unit) ⊕ ((Int × Unit) ⊕ (Unit))):=fun (a,b,i,_) =>
  cond (decide (i ≥ 0))
    ((idx a i).bind fun e =>
    (idx b i).bind fun e1 =>
    cond (decide (e < e1))
      (some (.inr (.inl ((-1),()))))
      ((idx a i).bind fun e2 =>
      (idx b i).bind fun e3 =>
      cond (decide (e2 > e3))
        (some (.inr (.inl (1,()))))
        (some (.inl (a,b,IntKind.i64.wrap (i - 1),())))))
    (some (.inr (.inr (()))))
noncomputable def L_impl_natCmp_0 (a:List Int) (b:List Int) (i:Int):Option ((Int × Unit) ⊕ (Unit)):=whileO S_impl_natCmp_0 (a,b,i,())
noncomputable def M_impl_natCmp (a:List Int) (b:List Int):Option Int :=
  cond ((a.length:Int) != (b.length:Int))
    (cond (decide ((a.length:Int) < (b.length:Int)))
      (some (-1))
      (some 1))
    ((L_impl_natCmp_0 a b (IntKind.i64.wrap ((a.length:Int) - 1))).bind fun r =>
    match r with
    | .inl (t,_) =>
      some t
    | .inr _ =>
      some 0)
noncomputable def S_impl_natMul_1:(List Int) × Int × Int × Int × (List Int) × Int × Int × (List Int) × Int × Int × (List Int) × Unit→Option (((List Int) × Int × Int × Int × (List Int) × Int × Int × (List Int) × Int × Int × (List Int) × Unit) ⊕ ((List Int) × Int × Int × (List Int) × Int × Int × (List Int) × Unit)):=fun (b,i,x,carry,t,t1,t2,t3,t4,t5,out,_) =>
  cond (decide (t5 < t4))
    ((idx t3 t5).bind fun e =>
    (idx out (IntKind.i64.wrap (i+t5))).bind fun _ =>
    (out[(IntKind.i64.wrap (i+t5)).toNat]?).bind fun e1 =>
    (idx out (IntKind.i64.wrap (i+t5))).bind fun _ =>
    some (.inl (b,i,x,IntKind.i64.wrap ((IntKind.i64.wrap ((IntKind.i64.wrap (e1+(IntKind.i64.wrap (x * e))))+carry)).tdiv 1000000000),t,t1,t2,t3,t4,IntKind.i64.wrap (t5+1),out.set ((IntKind.i64.wrap (i+t5)).toNat) ((IntKind.i64.wrap ((IntKind.i64.wrap (e1+(IntKind.i64.wrap (x * e))))+carry)).tmod 1000000000),())))
    (some (.inr (b,i,carry,t,t1,t2,out,())))
noncomputable def L_impl_natMul_1 (b:List Int) (i:Int) (x:Int) (carry:Int) (t:List Int) (t1:Int) (t2:Int) (t3:List Int) (t4:Int) (t5:Int) (out:List Int):Option ((List Int) × Int × Int × (List Int) × Int × Int × (List Int) × Unit):=whileO S_impl_natMul_1 (b,i,x,carry,t,t1,t2,t3,t4,t5,out,())
noncomputable def S_impl_natMul_0:(List Int) × (List Int) × Int × Int × (List Int) × Unit→Option (((List Int) × (List Int) × Int × Int × (List Int) × Unit) ⊕ ((List Int) × Unit)):=fun (b,t,t1,t2,out,_) =>
  cond (decide (t2 < t1))
    ((idx t t2).bind fun e =>
    (L_impl_natMul_1 b t2 e 0 t t1 t2 b (b.length:Int) 0 out).bind fun (b1,i,carry,t3,t4,t5,out1,_) =>
    (idx out1 (IntKind.i64.wrap (i+(b1.length:Int)))).bind fun _ =>
    (out1[(IntKind.i64.wrap (i+(b1.length:Int))).toNat]?).bind fun e1 =>
    (idx out1 (IntKind.i64.wrap (i+(b1.length:Int)))).bind fun _ =>
    some (.inl (b1,t3,t4,IntKind.i64.wrap (t5+1),out1.set ((IntKind.i64.wrap (i+(b1.length:Int))).toNat) (IntKind.i64.wrap (e1+carry)),())))
    (some (.inr (out,())))
noncomputable def L_impl_natMul_0 (b:List Int) (t:List Int) (t1:Int) (t2:Int) (out:List Int):Option ((List Int) × Unit):=whileO S_impl_natMul_0 (b,t,t1,t2,out,())
noncomputable def M_impl_natMul (a:List Int) (b:List Int):Option (List Int) :=
  (guardO (((decide (0≤(IntKind.i64.wrap ((a.length:Int)+(b.length:Int))))) && (decide ((IntKind.i64.wrap ((a.length:Int)+(b.length:Int)))≤(IntKind.i64.wrap ((a.length:Int)+(b.length:Int)))))) && (decide ((IntKind.i64.wrap ((a.length:Int)+(b.length:Int)))≤(maxNew:Int))))).bind fun _ =>
  (L_impl_natMul_0 b a (a.length:Int) 0 (List.replicate ((IntKind.i64.wrap ((a.length:Int)+(b.length:Int))).toNat) 0:List Int)).bind fun (out,_) =>
  (M_impl_trim_c out).bind fun r =>
  some r
noncomputable def S_impl_natDiv_4:Int × Int × Int × Int × Int × Int × Int × Int × (List Int) × (List Int) × (List Int) × Unit→Option ((Int × Int × Int × Int × Int × Int × Int × Int × (List Int) × (List Int) × (List Int) × Unit) ⊕ (Int × Int × Int × Int × Int × Int × (List Int) × (List Int) × (List Int) × Unit)):=fun (f,n,top,k,q,carry,t,t1,x,y,out,_) =>
  cond (decide (t1 < t))
    ((idx x (IntKind.i64.wrap (k+t1))).bind fun _ =>
    (x[(IntKind.i64.wrap (k+t1)).toNat]?).bind fun e =>
    (idx y t1).bind fun _ =>
    (y[t1.toNat]?).bind fun e1 =>
    cond (decide ((IntKind.i64.wrap ((IntKind.i64.wrap (e+e1))+carry)) ≥ 1000000000))
      ((idx x (IntKind.i64.wrap (k+t1))).bind fun _ =>
      some (.inl (f,n,top,k,q,1,t,IntKind.i64.wrap (t1+1),x.set ((IntKind.i64.wrap (k+t1)).toNat) (IntKind.i64.wrap ((IntKind.i64.wrap ((IntKind.i64.wrap (e+e1))+carry)) - 1000000000)),y,out,())))
      ((idx x (IntKind.i64.wrap (k+t1))).bind fun _ =>
      some (.inl (f,n,top,k,q,0,t,IntKind.i64.wrap (t1+1),x.set ((IntKind.i64.wrap (k+t1)).toNat) (IntKind.i64.wrap ((IntKind.i64.wrap (e+e1))+carry)),y,out,()))))
    (some (.inr (f,n,top,k,q,carry,x,y,out,())))
noncomputable def L_impl_natDiv_4 (f:Int) (n:Int) (top:Int) (k:Int) (q:Int) (carry:Int) (t:Int) (t1:Int) (x:List Int) (y:List Int) (out:List Int):Option (Int × Int × Int × Int × Int × Int × (List Int) × (List Int) × (List Int) × Unit):=whileO S_impl_natDiv_4 (f,n,top,k,q,carry,t,t1,x,y,out,())
noncomputable def S_impl_natDiv_3:Int × Int × Int × Int × Int × Int × Int × Int × (List Int) × (List Int) × (List Int) × Unit→Option ((Int × Int × Int × Int × Int × Int × Int × Int × (List Int) × (List Int) × (List Int) × Unit) ⊕ (Int × Int × Int × Int × Int × Int × (List Int) × (List Int) × (List Int) × Unit)):=fun (f,n,top,k,q,borrow,t,t1,x,y,out,_) =>
  cond (decide (t1 < t))
    ((idx x (IntKind.i64.wrap (k+t1))).bind fun _ =>
    (x[(IntKind.i64.wrap (k+t1)).toNat]?).bind fun e =>
    (idx y t1).bind fun _ =>
    (y[t1.toNat]?).bind fun e1 =>
    cond (decide ((IntKind.i64.wrap ((IntKind.i64.wrap (e - (IntKind.i64.wrap (q * e1)))) - borrow)) < 0))
      ((idx x (IntKind.i64.wrap (k+t1))).bind fun _ =>
      some (.inl (f,n,top,k,q,IntKind.i64.wrap ((IntKind.i64.wrap (999999999 - (IntKind.i64.wrap ((IntKind.i64.wrap (e - (IntKind.i64.wrap (q * e1)))) - borrow)))).tdiv 1000000000),t,IntKind.i64.wrap (t1+1),x.set ((IntKind.i64.wrap (k+t1)).toNat) (IntKind.i64.wrap ((IntKind.i64.wrap ((IntKind.i64.wrap (e - (IntKind.i64.wrap (q * e1)))) - borrow))+(IntKind.i64.wrap ((IntKind.i64.wrap ((IntKind.i64.wrap (999999999 - (IntKind.i64.wrap ((IntKind.i64.wrap (e - (IntKind.i64.wrap (q * e1)))) - borrow)))).tdiv 1000000000)) * 1000000000)))),y,out,())))
      ((idx x (IntKind.i64.wrap (k+t1))).bind fun _ =>
      some (.inl (f,n,top,k,q,0,t,IntKind.i64.wrap (t1+1),x.set ((IntKind.i64.wrap (k+t1)).toNat) (IntKind.i64.wrap ((IntKind.i64.wrap (e - (IntKind.i64.wrap (q * e1)))) - borrow)),y,out,()))))
    (some (.inr (f,n,top,k,q,borrow,x,y,out,())))
noncomputable def L_impl_natDiv_3 (f:Int) (n:Int) (top:Int) (k:Int) (q:Int) (borrow:Int) (t:Int) (t1:Int) (x:List Int) (y:List Int) (out:List Int):Option (Int × Int × Int × Int × Int × Int × (List Int) × (List Int) × (List Int) × Unit):=whileO S_impl_natDiv_3 (f,n,top,k,q,borrow,t,t1,x,y,out,())
noncomputable def S_impl_natDiv_2:Int × Int × Int × Int × Int × Int × (List Int) × (List Int) × (List Int) × Unit→Option ((Int × Int × Int × Int × Int × Int × (List Int) × (List Int) × (List Int) × Unit) ⊕ (Int × Int × Int × Int × Int × (List Int) × (List Int) × (List Int) × Unit)):=fun (f,n,top,k,q,r,x,y,out,_) =>
  cond (decide (q ≥ 1000000000))
    (cond (decide ((IntKind.i64.wrap (r+top)) ≥ 1000000000))
      (some (.inr (f,n,top,k,IntKind.i64.wrap (q - 1),x,y,out,())))
      (some (.inl (f,n,top,k,IntKind.i64.wrap (q - 1),IntKind.i64.wrap (r+top),x,y,out,()))))
    ((idx y (IntKind.i64.wrap (n - 2))).bind fun _ =>
    (y[(IntKind.i64.wrap (n - 2)).toNat]?).bind fun e =>
    (idx x (IntKind.i64.wrap ((IntKind.i64.wrap (k+n)) - 2))).bind fun _ =>
    (x[(IntKind.i64.wrap ((IntKind.i64.wrap (k+n)) - 2)).toNat]?).bind fun e1 =>
    cond (decide ((IntKind.i64.wrap (q * e)) > (IntKind.i64.wrap ((IntKind.i64.wrap (r * 1000000000))+e1))))
      (cond (decide ((IntKind.i64.wrap (r+top)) ≥ 1000000000))
        (some (.inr (f,n,top,k,IntKind.i64.wrap (q - 1),x,y,out,())))
        (some (.inl (f,n,top,k,IntKind.i64.wrap (q - 1),IntKind.i64.wrap (r+top),x,y,out,()))))
      (some (.inr (f,n,top,k,q,x,y,out,()))))
noncomputable def L_impl_natDiv_2 (f:Int) (n:Int) (top:Int) (k:Int) (q:Int) (r:Int) (x:List Int) (y:List Int) (out:List Int):Option (Int × Int × Int × Int × Int × (List Int) × (List Int) × (List Int) × Unit):=whileO S_impl_natDiv_2 (f,n,top,k,q,r,x,y,out,())
noncomputable def S_impl_natDiv_1:Int × Int × Int × Int × (List Int) × (List Int) × (List Int) × Unit→Option ((Int × Int × Int × Int × (List Int) × (List Int) × (List Int) × Unit) ⊕ (Int × (List Int) × (List Int) × Unit)):=fun (f,n,top,k,x,y,out,_) =>
  cond (decide (k ≥ 0))
    ((idx x (IntKind.i64.wrap (k+n))).bind fun _ =>
    (x[(IntKind.i64.wrap (k+n)).toNat]?).bind fun e =>
    (idx x (IntKind.i64.wrap ((IntKind.i64.wrap (k+n)) - 1))).bind fun _ =>
    (x[(IntKind.i64.wrap ((IntKind.i64.wrap (k+n)) - 1)).toNat]?).bind fun e1 =>
    (guardO (top != 0)).bind fun _ =>
    (guardO (top != 0)).bind fun _ =>
    (L_impl_natDiv_2 f n top k (IntKind.i64.wrap ((IntKind.i64.wrap ((IntKind.i64.wrap (e * 1000000000))+e1)).tdiv top)) ((IntKind.i64.wrap ((IntKind.i64.wrap (e * 1000000000))+e1)).tmod top) x y out).bind fun (f1,n1,top1,k1,q,x1,y1,out1,_) =>
    (L_impl_natDiv_3 f1 n1 top1 k1 q 0 n1 0 x1 y1 out1).bind fun (f2,n2,top2,k2,q1,borrow,x2,y2,out2,_) =>
    (idx x2 (IntKind.i64.wrap (k2+n2))).bind fun _ =>
    (x2[(IntKind.i64.wrap (k2+n2)).toNat]?).bind fun e2 =>
    (idx x2 (IntKind.i64.wrap (k2+n2))).bind fun _ =>
    (idx (x2.set ((IntKind.i64.wrap (k2+n2)).toNat) (IntKind.i64.wrap (e2 - borrow))) (IntKind.i64.wrap (k2+n2))).bind fun _ =>
    ((x2.set ((IntKind.i64.wrap (k2+n2)).toNat) (IntKind.i64.wrap (e2 - borrow)))[(IntKind.i64.wrap (k2+n2)).toNat]?).bind fun e3 =>
    cond (decide (e3 < 0))
      ((L_impl_natDiv_4 f2 n2 top2 k2 (IntKind.i64.wrap (q1 - 1)) 0 n2 0 (x2.set ((IntKind.i64.wrap (k2+n2)).toNat) (IntKind.i64.wrap (e2 - borrow))) y2 out2).bind fun (f3,n3,top3,k3,q2,carry,x3,y3,out3,_) =>
      (idx x3 (IntKind.i64.wrap (k3+n3))).bind fun _ =>
      (x3[(IntKind.i64.wrap (k3+n3)).toNat]?).bind fun e4 =>
      (idx x3 (IntKind.i64.wrap (k3+n3))).bind fun _ =>
      (idx out3 k3).bind fun _ =>
      some (.inl (f3,n3,top3,IntKind.i64.wrap (k3 - 1),x3.set ((IntKind.i64.wrap (k3+n3)).toNat) (IntKind.i64.wrap (e4+carry)),y3,out3.set k3.toNat q2,())))
      ((idx out2 k2).bind fun _ =>
      some (.inl (f2,n2,top2,IntKind.i64.wrap (k2 - 1),x2.set ((IntKind.i64.wrap (k2+n2)).toNat) (IntKind.i64.wrap (e2 - borrow)),y2,out2.set k2.toNat q1,()))))
    (some (.inr (f,x,out,())))
noncomputable def L_impl_natDiv_1 (f:Int) (n:Int) (top:Int) (k:Int) (x:List Int) (y:List Int) (out:List Int):Option (Int × (List Int) × (List Int) × Unit):=whileO S_impl_natDiv_1 (f,n,top,k,x,y,out,())
noncomputable def S_impl_natDiv_0:(List Int) × Int × Int × (List Int) × (List Int) × Unit→Option (((List Int) × Int × Int × (List Int) × (List Int) × Unit) ⊕ (Int × Int × (List Int) × (List Int) × Unit)):=fun (a,f,n,x,y,_) =>
  cond (decide ((x.length:Int)≤(a.length:Int)))
    ((guardO (Nat.ble (x.length+1) maxNew)).bind fun _ =>
    some (.inl (a,f,n,x++([0]:List Int),y,())))
    (some (.inr (f,n,x,y,())))
noncomputable def L_impl_natDiv_0 (a:List Int) (f:Int) (n:Int) (x:List Int) (y:List Int):Option (Int × Int × (List Int) × (List Int) × Unit):=whileO S_impl_natDiv_0 (a,f,n,x,y,())
noncomputable def M_impl_natDiv (a:List Int) (b:List Int):Option (List Int × List Int) :=
  (M_impl_natCmp a b).bind fun r =>
  cond (decide (r < 0))
    ((M_impl_copyInts a).bind fun r1 =>
    some (([]:List Int),r1))
    (cond ((b.length:Int)==1)
      ((idx b 0).bind fun e =>
      (M_impl_divSmall a e).bind fun (r0,r1) =>
      some (r0,r1))
      ((idx b (IntKind.i64.wrap ((b.length:Int) - 1))).bind fun e =>
      (guardO ((IntKind.i64.wrap (e+1)) != 0)).bind fun _ =>
      (M_impl_natMul a ([IntKind.i64.wrap ((1000000000:Int).tdiv (IntKind.i64.wrap (e+1)))]:List Int)).bind fun r1 =>
      (M_impl_natMul b ([IntKind.i64.wrap ((1000000000:Int).tdiv (IntKind.i64.wrap (e+1)))]:List Int)).bind fun r2 =>
      (L_impl_natDiv_0 a (IntKind.i64.wrap ((1000000000:Int).tdiv (IntKind.i64.wrap (e+1)))) (r2.length:Int) r1 r2).bind fun (f,n,x,y,_) =>
      (guardO (((decide (0≤(IntKind.i64.wrap ((x.length:Int) - n)))) && (decide ((IntKind.i64.wrap ((x.length:Int) - n))≤(IntKind.i64.wrap ((x.length:Int) - n))))) && (decide ((IntKind.i64.wrap ((x.length:Int) - n))≤(maxNew:Int))))).bind fun _ =>
      (idx y (IntKind.i64.wrap (n - 1))).bind fun _ =>
      (y[(IntKind.i64.wrap (n - 1)).toNat]?).bind fun e1 =>
      (L_impl_natDiv_1 f n e1 (IntKind.i64.wrap ((IntKind.i64.wrap ((x.length:Int) - n)) - 1)) x y (List.replicate ((IntKind.i64.wrap ((x.length:Int) - n)).toNat) 0:List Int)).bind fun (f1,x1,out,_) =>
      (M_impl_trim_c x1).bind fun r3 =>
      (M_impl_divSmall r3 f1).bind fun (r0,_) =>
      (M_impl_trim_c out).bind fun r4 =>
      some (r4,r0)))
noncomputable def S_impl_natGcd_1:Int × Int × Unit→Option ((Int × Int × Unit) ⊕ (Int × Unit)):=fun (x,y,_) =>
  cond (y != 0)
    ((guardO (y != 0)).bind fun _ =>
    some (.inl (y,x.tmod y,())))
    (some (.inr (x,())))
noncomputable def L_impl_natGcd_1 (x:Int) (y:Int):Option (Int × Unit):=whileO S_impl_natGcd_1 (x,y,())
noncomputable def S_impl_natGcd_0:(List Int) × (List Int) × Unit→Option (((List Int) × (List Int) × Unit) ⊕ ((List Int) × (List Int) × Unit)):=fun (a,b,_) =>
  cond (decide ((b.length:Int) > 1))
    ((M_impl_natDiv a b).bind fun (_,r1) =>
    some (.inl (b,r1,())))
    (cond (decide ((a.length:Int) > 1))
      (cond (decide ((b.length:Int) > 0))
        ((M_impl_natDiv a b).bind fun (_,r1) =>
        some (.inl (b,r1,())))
        (some (.inr (a,b,()))))
      (some (.inr (a,b,()))))
noncomputable def L_impl_natGcd_0 (a:List Int) (b:List Int):Option ((List Int) × (List Int) × Unit):=whileO S_impl_natGcd_0 (a,b,())
noncomputable def M_impl_natGcd (a:List Int) (b:List Int):Option (List Int) :=
  (L_impl_natGcd_0 a b).bind fun (a1,b1,_) =>
  cond ((b1.length:Int)==0)
    ((M_impl_copyInts a1).bind fun r =>
    some r)
    ((idx a1 0).bind fun e =>
    (idx b1 0).bind fun e1 =>
    (L_impl_natGcd_1 e e1).bind fun (x,_) =>
    some ([x]:List Int))
noncomputable def S_impl_natSub_0:(List Int) × Int × Int × Int × (List Int) × Unit→Option (((List Int) × Int × Int × Int × (List Int) × Unit) ⊕ ((List Int) × Unit)):=fun (b,borrow,t,t1,out,_) =>
  cond (decide (t1 < t))
    ((idx out t1).bind fun _ =>
    (out[t1.toNat]?).bind fun e =>
    cond (decide (t1 < (b.length:Int)))
      ((idx b t1).bind fun e1 =>
      cond (decide ((IntKind.i64.wrap ((IntKind.i64.wrap (e - borrow)) - e1)) < 0))
        ((idx out t1).bind fun _ =>
        some (.inl (b,1,t,IntKind.i64.wrap (t1+1),out.set t1.toNat (IntKind.i64.wrap ((IntKind.i64.wrap ((IntKind.i64.wrap (e - borrow)) - e1))+1000000000)),())))
        ((idx out t1).bind fun _ =>
        some (.inl (b,0,t,IntKind.i64.wrap (t1+1),out.set t1.toNat (IntKind.i64.wrap ((IntKind.i64.wrap (e - borrow)) - e1)),()))))
      (cond (decide ((IntKind.i64.wrap (e - borrow)) < 0))
        ((idx out t1).bind fun _ =>
        some (.inl (b,1,t,IntKind.i64.wrap (t1+1),out.set t1.toNat (IntKind.i64.wrap ((IntKind.i64.wrap (e - borrow))+1000000000)),())))
        ((idx out t1).bind fun _ =>
        some (.inl (b,0,t,IntKind.i64.wrap (t1+1),out.set t1.toNat (IntKind.i64.wrap (e - borrow)),())))))
    (some (.inr (out,())))
noncomputable def L_impl_natSub_0 (b:List Int) (borrow:Int) (t:Int) (t1:Int) (out:List Int):Option ((List Int) × Unit):=whileO S_impl_natSub_0 (b,borrow,t,t1,out,())
noncomputable def M_impl_natSub (a:List Int) (b:List Int):Option (List Int) :=
  (M_impl_copyInts a).bind fun r =>
  (L_impl_natSub_0 b 0 (r.length:Int) 0 r).bind fun (out,_) =>
  (M_impl_trim_c out).bind fun r1 =>
  some r1
noncomputable def S_spec_NatOk_0:(List Int) × (List Int) × Int × Int × Unit→Option (((List Int) × (List Int) × Int × Int × Unit) ⊕ ((Bool × Unit) ⊕ ((List Int) × Unit))):=fun (a,t,t1,t2,_) =>
  cond (decide (t2 < t1))
    ((idx t t2).bind fun e =>
    (M_spec_l01In e 0 999999999).bind fun r =>
    cond (!r)
      (some (.inr (.inl (false,()))))
      (some (.inl (a,t,t1,IntKind.i64.wrap (t2+1),()))))
    (some (.inr (.inr (a,()))))
noncomputable def L_spec_NatOk_0 (a:List Int) (t:List Int) (t1:Int) (t2:Int):Option ((Bool × Unit) ⊕ ((List Int) × Unit)):=whileO S_spec_NatOk_0 (a,t,t1,t2,())
noncomputable def M_spec_NatOk (a:List Int):Option Bool :=
  (L_spec_NatOk_0 a a (a.length:Int) 0).bind fun r =>
  match r with
  | .inl (t,_) =>
    some t
  | .inr (a1,_) =>
    cond (decide ((a1.length:Int)≤60))
      (cond ((a1.length:Int)==0)
        (some true)
        ((idx a1 (IntKind.i64.wrap ((a1.length:Int) - 1))).bind fun e =>
        some (e != 0)))
      (some false)
noncomputable def S_spec_NatOf_0:Int × (List Int) × Unit→Option ((Int × (List Int) × Unit) ⊕ ((List Int) × Unit)):=fun (n,out,_) =>
  cond (decide (n > 0))
    ((guardO (Nat.ble (out.length+1) maxNew)).bind fun _ =>
    some (.inl (IntKind.i64.wrap (n.tdiv 1000000000),out++([n.tmod 1000000000]:List Int),())))
    (some (.inr (out,())))
noncomputable def L_spec_NatOf_0 (n:Int) (out:List Int):Option ((List Int) × Unit):=whileO S_spec_NatOf_0 (n,out,())
noncomputable def M_spec_NatOf (n:Int):Option (List Int) :=
  (L_spec_NatOf_0 n ([]:List Int)).bind fun (out,_) =>
  some out
noncomputable def S_spec_l02Cmp_0:(List Int) × (List Int) × Int × Unit→Option (((List Int) × (List Int) × Int × Unit) ⊕ ((Int × Unit) ⊕ (Unit))):=fun (a,b,i,_) =>
  cond (decide (i ≥ 0))
    ((idx a i).bind fun e =>
    (idx b i).bind fun e1 =>
    cond (decide (e < e1))
      (some (.inr (.inl ((-1),()))))
      ((idx a i).bind fun e2 =>
      (idx b i).bind fun e3 =>
      cond (decide (e2 > e3))
        (some (.inr (.inl (1,()))))
        (some (.inl (a,b,IntKind.i64.wrap (i - 1),())))))
    (some (.inr (.inr (()))))
noncomputable def L_spec_l02Cmp_0 (a:List Int) (b:List Int) (i:Int):Option ((Int × Unit) ⊕ (Unit)):=whileO S_spec_l02Cmp_0 (a,b,i,())
noncomputable def M_spec_l02Cmp (a:List Int) (b:List Int):Option Int :=
  cond ((a.length:Int) != (b.length:Int))
    (cond (decide ((a.length:Int) < (b.length:Int)))
      (some (-1))
      (some 1))
    ((L_spec_l02Cmp_0 a b (IntKind.i64.wrap ((a.length:Int) - 1))).bind fun r =>
    match r with
    | .inl (t,_) =>
      some t
    | .inr _ =>
      some 0)
noncomputable def S_spec_NatToInt_0:(List Int) × Int × Int × Unit→Option (((List Int) × Int × Int × Unit) ⊕ (Int × Unit)):=fun (a,n,i,_) =>
  cond (decide (i ≥ 0))
    ((idx a i).bind fun e =>
    some (.inl (a,IntKind.i64.wrap ((IntKind.i64.wrap (n * 1000000000))+e),IntKind.i64.wrap (i - 1),())))
    (some (.inr (n,())))
noncomputable def L_spec_NatToInt_0 (a:List Int) (n:Int) (i:Int):Option (Int × Unit):=whileO S_spec_NatToInt_0 (a,n,i,())
noncomputable def M_spec_NatToInt (a:List Int):Option (Int × Bool) :=
  (M_spec_NatOk a).bind fun r =>
  cond (!r)
    (some (0,false))
    ((M_spec_l02Cmp a ([854775807,223372036,9]:List Int)).bind fun r1 =>
    cond (decide (r1 > 0))
      (some (0,false))
      ((L_spec_NatToInt_0 a 0 (IntKind.i64.wrap ((a.length:Int) - 1))).bind fun (n,_) =>
      some (n,true)))
noncomputable def S_spec_l02Trim_c_0:Int × (List Int) × Unit→Option ((Int × (List Int) × Unit) ⊕ (Int × (List Int) × Unit)):=fun (n,a,_) =>
  cond (decide (n > 0))
    ((idx a (IntKind.i64.wrap (n - 1))).bind fun _ =>
    (a[(IntKind.i64.wrap (n - 1)).toNat]?).bind fun e =>
    cond (e==0)
      (some (.inl (IntKind.i64.wrap (n - 1),a,())))
      (some (.inr (n,a,()))))
    (some (.inr (n,a,())))
noncomputable def L_spec_l02Trim_c_0 (n:Int) (a:List Int):Option (Int × (List Int) × Unit):=whileO S_spec_l02Trim_c_0 (n,a,())
noncomputable def M_spec_l02Trim_c (a:List Int):Option (List Int) :=
  (L_spec_l02Trim_c_0 (a.length:Int) a).bind fun (n,a1,_) =>
  (guardO (inside a1.length (0,n))).bind fun _ =>
  some (a1.take n.toNat)
noncomputable def S_spec_l02Add_0:(List Int) × (List Int) × Int × Int × (List Int) × Unit→Option (((List Int) × (List Int) × Int × Int × (List Int) × Unit) ⊕ ((List Int) × Unit)):=fun (a,b,carry,i,out,_) =>
  cond (decide (i < (a.length:Int)))
    (cond (decide (i < (a.length:Int)))
      ((idx a i).bind fun e =>
      cond (decide (i < (b.length:Int)))
        ((idx b i).bind fun e1 =>
        (guardO (Nat.ble (out.length+1) maxNew)).bind fun _ =>
        some (.inl (a,b,IntKind.i64.wrap ((IntKind.i64.wrap ((IntKind.i64.wrap (carry+e))+e1)).tdiv 1000000000),IntKind.i64.wrap (i+1),out++([(IntKind.i64.wrap ((IntKind.i64.wrap (carry+e))+e1)).tmod 1000000000]:List Int),())))
        ((guardO (Nat.ble (out.length+1) maxNew)).bind fun _ =>
        some (.inl (a,b,IntKind.i64.wrap ((IntKind.i64.wrap (carry+e)).tdiv 1000000000),IntKind.i64.wrap (i+1),out++([(IntKind.i64.wrap (carry+e)).tmod 1000000000]:List Int),()))))
      (cond (decide (i < (b.length:Int)))
        ((idx b i).bind fun e =>
        (guardO (Nat.ble (out.length+1) maxNew)).bind fun _ =>
        some (.inl (a,b,IntKind.i64.wrap ((IntKind.i64.wrap (carry+e)).tdiv 1000000000),IntKind.i64.wrap (i+1),out++([(IntKind.i64.wrap (carry+e)).tmod 1000000000]:List Int),())))
        ((guardO (Nat.ble (out.length+1) maxNew)).bind fun _ =>
        some (.inl (a,b,IntKind.i64.wrap (carry.tdiv 1000000000),IntKind.i64.wrap (i+1),out++([carry.tmod 1000000000]:List Int),())))))
    (cond (decide (i < (b.length:Int)))
      (cond (decide (i < (a.length:Int)))
        ((idx a i).bind fun e =>
        cond (decide (i < (b.length:Int)))
          ((idx b i).bind fun e1 =>
          (guardO (Nat.ble (out.length+1) maxNew)).bind fun _ =>
          some (.inl (a,b,IntKind.i64.wrap ((IntKind.i64.wrap ((IntKind.i64.wrap (carry+e))+e1)).tdiv 1000000000),IntKind.i64.wrap (i+1),out++([(IntKind.i64.wrap ((IntKind.i64.wrap (carry+e))+e1)).tmod 1000000000]:List Int),())))
          ((guardO (Nat.ble (out.length+1) maxNew)).bind fun _ =>
          some (.inl (a,b,IntKind.i64.wrap ((IntKind.i64.wrap (carry+e)).tdiv 1000000000),IntKind.i64.wrap (i+1),out++([(IntKind.i64.wrap (carry+e)).tmod 1000000000]:List Int),()))))
        (cond (decide (i < (b.length:Int)))
          ((idx b i).bind fun e =>
          (guardO (Nat.ble (out.length+1) maxNew)).bind fun _ =>
          some (.inl (a,b,IntKind.i64.wrap ((IntKind.i64.wrap (carry+e)).tdiv 1000000000),IntKind.i64.wrap (i+1),out++([(IntKind.i64.wrap (carry+e)).tmod 1000000000]:List Int),())))
          ((guardO (Nat.ble (out.length+1) maxNew)).bind fun _ =>
          some (.inl (a,b,IntKind.i64.wrap (carry.tdiv 1000000000),IntKind.i64.wrap (i+1),out++([carry.tmod 1000000000]:List Int),())))))
      (cond (decide (carry > 0))
        (cond (decide (i < (a.length:Int)))
          ((idx a i).bind fun e =>
          cond (decide (i < (b.length:Int)))
            ((idx b i).bind fun e1 =>
            (guardO (Nat.ble (out.length+1) maxNew)).bind fun _ =>
            some (.inl (a,b,IntKind.i64.wrap ((IntKind.i64.wrap ((IntKind.i64.wrap (carry+e))+e1)).tdiv 1000000000),IntKind.i64.wrap (i+1),out++([(IntKind.i64.wrap ((IntKind.i64.wrap (carry+e))+e1)).tmod 1000000000]:List Int),())))
            ((guardO (Nat.ble (out.length+1) maxNew)).bind fun _ =>
            some (.inl (a,b,IntKind.i64.wrap ((IntKind.i64.wrap (carry+e)).tdiv 1000000000),IntKind.i64.wrap (i+1),out++([(IntKind.i64.wrap (carry+e)).tmod 1000000000]:List Int),()))))
          (cond (decide (i < (b.length:Int)))
            ((idx b i).bind fun e =>
            (guardO (Nat.ble (out.length+1) maxNew)).bind fun _ =>
            some (.inl (a,b,IntKind.i64.wrap ((IntKind.i64.wrap (carry+e)).tdiv 1000000000),IntKind.i64.wrap (i+1),out++([(IntKind.i64.wrap (carry+e)).tmod 1000000000]:List Int),())))
            ((guardO (Nat.ble (out.length+1) maxNew)).bind fun _ =>
            some (.inl (a,b,IntKind.i64.wrap (carry.tdiv 1000000000),IntKind.i64.wrap (i+1),out++([carry.tmod 1000000000]:List Int),())))))
        (some (.inr (out,())))))
noncomputable def L_spec_l02Add_0 (a:List Int) (b:List Int) (carry:Int) (i:Int) (out:List Int):Option ((List Int) × Unit):=whileO S_spec_l02Add_0 (a,b,carry,i,out,())
noncomputable def M_spec_l02Add (a:List Int) (b:List Int):Option (List Int) :=
  (L_spec_l02Add_0 a b 0 0 ([]:List Int)).bind fun (out,_) =>
  some out
noncomputable def S_spec_l02Trim_0:(List Int) × Int × Unit→Option (((List Int) × Int × Unit) ⊕ ((List Int) × Int × Unit)):=fun (a,n,_) =>
  cond (decide (n > 0))
    ((idx a (IntKind.i64.wrap (n - 1))).bind fun e =>
    cond (e==0)
      (some (.inl (a,IntKind.i64.wrap (n - 1),())))
      (some (.inr (a,n,()))))
    (some (.inr (a,n,())))
noncomputable def L_spec_l02Trim_0 (a:List Int) (n:Int):Option ((List Int) × Int × Unit):=whileO S_spec_l02Trim_0 (a,n,())
noncomputable def M_spec_l02Trim (a:List Int):Option (List Int) :=
  (L_spec_l02Trim_0 a (a.length:Int)).bind fun (a1,n,_) =>
  (guardO (inside a1.length (0,n))).bind fun _ =>
  some (cut a1 0 n.toNat)
noncomputable def M_spec_l02Cap (a:List Int):Option (List Int) :=
  (M_spec_l02Trim a).bind fun r =>
  cond (decide ((r.length:Int) > 60))
    (some ([]:List Int))
    (some r)
noncomputable def S_spec_l02Mul_1:(List Int) × Int × Int × Int × (List Int) × Int × Int × (List Int) × Int × Int × (List Int) × Unit→Option (((List Int) × Int × Int × Int × (List Int) × Int × Int × (List Int) × Int × Int × (List Int) × Unit) ⊕ ((List Int) × Int × Int × (List Int) × Int × Int × (List Int) × Unit)):=fun (b,i,x,carry,t,t1,t2,t3,t4,t5,out,_) =>
  cond (decide (t5 < t4))
    ((idx t3 t5).bind fun e =>
    (idx out (IntKind.i64.wrap (i+t5))).bind fun _ =>
    (out[(IntKind.i64.wrap (i+t5)).toNat]?).bind fun e1 =>
    (idx out (IntKind.i64.wrap (i+t5))).bind fun _ =>
    some (.inl (b,i,x,IntKind.i64.wrap ((IntKind.i64.wrap ((IntKind.i64.wrap (e1+(IntKind.i64.wrap (x * e))))+carry)).tdiv 1000000000),t,t1,t2,t3,t4,IntKind.i64.wrap (t5+1),out.set ((IntKind.i64.wrap (i+t5)).toNat) ((IntKind.i64.wrap ((IntKind.i64.wrap (e1+(IntKind.i64.wrap (x * e))))+carry)).tmod 1000000000),())))
    (some (.inr (b,i,carry,t,t1,t2,out,())))
noncomputable def L_spec_l02Mul_1 (b:List Int) (i:Int) (x:Int) (carry:Int) (t:List Int) (t1:Int) (t2:Int) (t3:List Int) (t4:Int) (t5:Int) (out:List Int):Option ((List Int) × Int × Int × (List Int) × Int × Int × (List Int) × Unit):=whileO S_spec_l02Mul_1 (b,i,x,carry,t,t1,t2,t3,t4,t5,out,())
noncomputable def S_spec_l02Mul_0:(List Int) × (List Int) × Int × Int × (List Int) × Unit→Option (((List Int) × (List Int) × Int × Int × (List Int) × Unit) ⊕ ((List Int) × Unit)):=fun (b,t,t1,t2,out,_) =>
  cond (decide (t2 < t1))
    ((idx t t2).bind fun e =>
    (L_spec_l02Mul_1 b t2 e 0 t t1 t2 b (b.length:Int) 0 out).bind fun (b1,i,carry,t3,t4,t5,out1,_) =>
    (idx out1 (IntKind.i64.wrap (i+(b1.length:Int)))).bind fun _ =>
    some (.inl (b1,t3,t4,IntKind.i64.wrap (t5+1),out1.set ((IntKind.i64.wrap (i+(b1.length:Int))).toNat) carry,())))
    (some (.inr (out,())))
noncomputable def L_spec_l02Mul_0 (b:List Int) (t:List Int) (t1:Int) (t2:Int) (out:List Int):Option ((List Int) × Unit):=whileO S_spec_l02Mul_0 (b,t,t1,t2,out,())
noncomputable def M_spec_l02Mul (a:List Int) (b:List Int):Option (List Int) :=
  cond ((a.length:Int)==0)
    (some ([]:List Int))
    (cond ((b.length:Int)==0)
      (some ([]:List Int))
      ((guardO (((decide (0≤(IntKind.i64.wrap ((a.length:Int)+(b.length:Int))))) && (decide ((IntKind.i64.wrap ((a.length:Int)+(b.length:Int)))≤(IntKind.i64.wrap ((a.length:Int)+(b.length:Int)))))) && (decide ((IntKind.i64.wrap ((a.length:Int)+(b.length:Int)))≤(maxNew:Int))))).bind fun _ =>
      (L_spec_l02Mul_0 b a (a.length:Int) 0 (List.replicate ((IntKind.i64.wrap ((a.length:Int)+(b.length:Int))).toNat) 0:List Int)).bind fun (out,_) =>
      (M_spec_l02Trim_c out).bind fun r =>
      some r))
noncomputable def S_spec_l02Digit_0:(List Int) × (List Int) × Int × Int × Unit→Option (((List Int) × (List Int) × Int × Int × Unit) ⊕ (Int × Unit)):=fun (r,b,lo,hi,_) =>
  cond (decide (lo < hi))
    ((M_spec_NatOf (IntKind.i64.wrap ((IntKind.i64.wrap ((IntKind.i64.wrap (lo+hi))+1)).tdiv 2))).bind fun r1 =>
    (M_spec_l02Mul b r1).bind fun r2 =>
    (M_spec_l02Cmp r2 r).bind fun r3 =>
    cond (decide (r3≤0))
      (some (.inl (r,b,IntKind.i64.wrap ((IntKind.i64.wrap ((IntKind.i64.wrap (lo+hi))+1)).tdiv 2),hi,())))
      (some (.inl (r,b,lo,IntKind.i64.wrap ((IntKind.i64.wrap ((IntKind.i64.wrap ((IntKind.i64.wrap (lo+hi))+1)).tdiv 2)) - 1),()))))
    (some (.inr (lo,())))
noncomputable def L_spec_l02Digit_0 (r:List Int) (b:List Int) (lo:Int) (hi:Int):Option (Int × Unit):=whileO S_spec_l02Digit_0 (r,b,lo,hi,())
noncomputable def M_spec_l02Digit (r:List Int) (b:List Int):Option Int :=
  (L_spec_l02Digit_0 r b 0 999999999).bind fun (lo,_) =>
  some lo
noncomputable def S_spec_l02Small_0:(List Int) × Int × Int × Int × (List Int) × Unit→Option (((List Int) × Int × Int × Int × (List Int) × Unit) ⊕ (Int × (List Int) × Unit)):=fun (a,d,rest,i,out,_) =>
  cond (decide (i ≥ 0))
    ((idx a i).bind fun e =>
    (guardO (d != 0)).bind fun _ =>
    (idx out i).bind fun _ =>
    (guardO (d != 0)).bind fun _ =>
    some (.inl (a,d,(IntKind.i64.wrap ((IntKind.i64.wrap (rest * 1000000000))+e)).tmod d,IntKind.i64.wrap (i - 1),out.set i.toNat (IntKind.i64.wrap ((IntKind.i64.wrap ((IntKind.i64.wrap (rest * 1000000000))+e)).tdiv d)),())))
    (some (.inr (rest,out,())))
noncomputable def L_spec_l02Small_0 (a:List Int) (d:Int) (rest:Int) (i:Int) (out:List Int):Option (Int × (List Int) × Unit):=whileO S_spec_l02Small_0 (a,d,rest,i,out,())
noncomputable def M_spec_l02Small (a:List Int) (d:Int):Option (List Int × Int) :=
  (guardO (((decide (0≤(a.length:Int))) && (decide ((a.length:Int)≤(a.length:Int)))) && (decide ((a.length:Int)≤(maxNew:Int))))).bind fun _ =>
  (L_spec_l02Small_0 a d 0 (IntKind.i64.wrap ((a.length:Int) - 1)) (List.replicate ((a.length:Int).toNat) 0:List Int)).bind fun (rest,out,_) =>
  (M_spec_l02Trim_c out).bind fun r =>
  some (r,rest)
noncomputable def S_spec_l02Sub_0:(List Int) × (List Int) × Int × Int × Int × (List Int) × Unit→Option (((List Int) × (List Int) × Int × Int × Int × (List Int) × Unit) ⊕ ((List Int) × Unit)):=fun (a,b,less,t,t1,out,_) =>
  cond (decide (t1 < t))
    ((idx a t1).bind fun e =>
    cond (decide (t1 < (b.length:Int)))
      ((idx b t1).bind fun e1 =>
      cond (decide ((IntKind.i64.wrap ((IntKind.i64.wrap (e - less)) - e1)) < 0))
        ((guardO (Nat.ble (out.length+1) maxNew)).bind fun _ =>
        some (.inl (a,b,1,t,IntKind.i64.wrap (t1+1),out++([IntKind.i64.wrap ((IntKind.i64.wrap ((IntKind.i64.wrap (e - less)) - e1))+1000000000)]:List Int),())))
        ((guardO (Nat.ble (out.length+1) maxNew)).bind fun _ =>
        some (.inl (a,b,0,t,IntKind.i64.wrap (t1+1),out++([IntKind.i64.wrap ((IntKind.i64.wrap (e - less)) - e1)]:List Int),()))))
      (cond (decide ((IntKind.i64.wrap (e - less)) < 0))
        ((guardO (Nat.ble (out.length+1) maxNew)).bind fun _ =>
        some (.inl (a,b,1,t,IntKind.i64.wrap (t1+1),out++([IntKind.i64.wrap ((IntKind.i64.wrap (e - less))+1000000000)]:List Int),())))
        ((guardO (Nat.ble (out.length+1) maxNew)).bind fun _ =>
        some (.inl (a,b,0,t,IntKind.i64.wrap (t1+1),out++([IntKind.i64.wrap (e - less)]:List Int),())))))
    (some (.inr (out,())))
noncomputable def L_spec_l02Sub_0 (a:List Int) (b:List Int) (less:Int) (t:Int) (t1:Int) (out:List Int):Option ((List Int) × Unit):=whileO S_spec_l02Sub_0 (a,b,less,t,t1,out,())
noncomputable def M_spec_l02Sub (a:List Int) (b:List Int):Option (List Int) :=
  (L_spec_l02Sub_0 a b 0 (a.length:Int) 0 ([]:List Int)).bind fun (out,_) =>
  (M_spec_l02Trim_c out).bind fun r =>
  some r
noncomputable def S_spec_l02Div_0:(List Int) × (List Int) × Int × (List Int) × (List Int) × Unit→Option (((List Int) × (List Int) × Int × (List Int) × (List Int) × Unit) ⊕ ((List Int) × (List Int) × Unit)):=fun (a,b,i,out,rest,_) =>
  cond (decide (i ≥ 0))
    ((idx a i).bind fun e =>
    (guardO (Nat.ble (1+rest.length) maxNew)).bind fun _ =>
    (M_spec_l02Trim_c (([e]:List Int)++rest)).bind fun r =>
    (M_spec_l02Cmp r b).bind fun r1 =>
    cond (decide (r1 < 0))
      (some (.inl (a,b,IntKind.i64.wrap (i - 1),out,r,())))
      ((M_spec_l02Digit r b).bind fun r2 =>
      (idx out i).bind fun _ =>
      (M_spec_NatOf r2).bind fun r3 =>
      (M_spec_l02Mul b r3).bind fun r4 =>
      (M_spec_l02Sub r r4).bind fun r5 =>
      some (.inl (a,b,IntKind.i64.wrap (i - 1),out.set i.toNat r2,r5,()))))
    (some (.inr (out,rest,())))
noncomputable def L_spec_l02Div_0 (a:List Int) (b:List Int) (i:Int) (out:List Int) (rest:List Int):Option ((List Int) × (List Int) × Unit):=whileO S_spec_l02Div_0 (a,b,i,out,rest,())
noncomputable def M_spec_l02Div (a:List Int) (b:List Int):Option (List Int × List Int) :=
  cond ((b.length:Int)==1)
    ((idx b 0).bind fun e =>
    (M_spec_l02Small a e).bind fun (r0,r1) =>
    (M_spec_NatOf r1).bind fun r =>
    some (r0,r))
    ((guardO (((decide (0≤(a.length:Int))) && (decide ((a.length:Int)≤(a.length:Int)))) && (decide ((a.length:Int)≤(maxNew:Int))))).bind fun _ =>
    (L_spec_l02Div_0 a b (IntKind.i64.wrap ((a.length:Int) - 1)) (List.replicate ((a.length:Int).toNat) 0:List Int) ([]:List Int)).bind fun (out,rest,_) =>
    (M_spec_l02Trim_c out).bind fun r =>
    some (r,rest))
noncomputable def S_spec_l02Plain_0:Int × Int × Unit→Option ((Int × Int × Unit) ⊕ (Int × Unit)):=fun (x,y,_) =>
  cond (decide (y > 0))
    ((guardO (y != 0)).bind fun _ =>
    some (.inl (y,x.tmod y,())))
    (some (.inr (x,())))
noncomputable def L_spec_l02Plain_0 (x:Int) (y:Int):Option (Int × Unit):=whileO S_spec_l02Plain_0 (x,y,())
noncomputable def M_spec_l02Plain (x:Int) (y:Int):Option (List Int) :=
  (L_spec_l02Plain_0 x y).bind fun (x1,_) =>
  (M_spec_NatOf x1).bind fun r =>
  some r
noncomputable def S_spec_l02Gcd_0:(List Int) × (List Int) × Unit→Option (((List Int) × (List Int) × Unit) ⊕ (((List Int) × Unit) ⊕ ((List Int) × Unit))):=fun (x,y,_) =>
  cond (decide ((y.length:Int) > 0))
    (cond (decide ((x.length:Int) < 3))
      (cond (decide ((y.length:Int) < 3))
        ((M_spec_NatToInt x).bind fun (r0,_) =>
        (M_spec_NatToInt y).bind fun (r0_1,_) =>
        (M_spec_l02Plain r0 r0_1).bind fun r =>
        some (.inr (.inl (r,()))))
        ((M_spec_l02Div x y).bind fun (_,r1) =>
        some (.inl (y,r1,()))))
      ((M_spec_l02Div x y).bind fun (_,r1) =>
      some (.inl (y,r1,()))))
    (some (.inr (.inr (x,()))))
noncomputable def L_spec_l02Gcd_0 (x:List Int) (y:List Int):Option (((List Int) × Unit) ⊕ ((List Int) × Unit)):=whileO S_spec_l02Gcd_0 (x,y,())
noncomputable def M_spec_l02Gcd (a:List Int) (b:List Int):Option (List Int) :=
  (guardO (Nat.ble a.length maxNew)).bind fun _ =>
  (guardO (Nat.ble b.length maxNew)).bind fun _ =>
  (L_spec_l02Gcd_0 a b).bind fun r =>
  match r with
  | .inl (t,_) =>
    some t
  | .inr (x,_) =>
    some x
end Go.Di
namespace Go.Di
noncomputable def S_laws_eqIntS_0:(List Int) × (List Int) × Int × Unit→Option (((List Int) × (List Int) × Int × Unit) ⊕ ((Bool × Unit) ⊕ (Unit))):=fun (a,b,i,_) =>
  cond (decide (i < (a.length:Int)))
    ((idx a i).bind fun e =>
    (idx b i).bind fun e1 =>
    cond (e != e1)
      (some (.inr (.inl (false,()))))
      (some (.inl (a,b,IntKind.i64.wrap (i+1),()))))
    (some (.inr (.inr (()))))
noncomputable def L_laws_eqIntS_0 (a:List Int) (b:List Int) (i:Int):Option ((Bool × Unit) ⊕ (Unit)):=whileO S_laws_eqIntS_0 (a,b,i,())
noncomputable def M_laws_eqIntS (a:List Int) (b:List Int):Option Bool :=
  cond ((a.length:Int) != (b.length:Int))
    (some false)
    ((L_laws_eqIntS_0 a b 0).bind fun r =>
    match r with
    | .inl (t,_) =>
      some t
    | .inr _ =>
      some true)
noncomputable def M_laws_eqBigInt (a:Bg) (b:Bg):Option Bool :=
  cond (!(a.neg==b.neg))
    (some false)
    ((M_laws_eqIntS a.mag b.mag).bind fun r =>
    cond (!r)
      (some false)
      (some true))
noncomputable def M_laws_eqRat (a:Rt) (b:Rt):Option Bool :=
  (M_laws_eqBigInt (⟨a.neg,a.mag⟩:Bg) (⟨b.neg,b.mag⟩:Bg)).bind fun r =>
  cond (!r)
    (some false)
    ((M_laws_eqIntS a.den b.den).bind fun r1 =>
    cond (!r1)
      (some false)
      (some true))
noncomputable def S_laws_eqRatS_0:(List Rt) × (List Rt) × Int × Unit→Option (((List Rt) × (List Rt) × Int × Unit) ⊕ ((Bool × Unit) ⊕ (Unit))):=fun (a,b,i,_) =>
  cond (decide (i < (a.length:Int)))
    ((idx a i).bind fun e =>
    (idx b i).bind fun e1 =>
    (M_laws_eqRat e e1).bind fun r =>
    cond (!r)
      (some (.inr (.inl (false,()))))
      (some (.inl (a,b,IntKind.i64.wrap (i+1),()))))
    (some (.inr (.inr (()))))
noncomputable def L_laws_eqRatS_0 (a:List Rt) (b:List Rt) (i:Int):Option ((Bool × Unit) ⊕ (Unit)):=whileO S_laws_eqRatS_0 (a,b,i,())
noncomputable def M_laws_eqRatS (a:List Rt) (b:List Rt):Option Bool :=
  cond ((a.length:Int) != (b.length:Int))
    (some false)
    ((L_laws_eqRatS_0 a b 0).bind fun r =>
    match r with
    | .inl (t,_) =>
      some t
    | .inr _ =>
      some true)
noncomputable def M_laws_eqMatrix (a:Mx) (b:Mx):Option Bool :=
  cond (a.rows != b.rows)
    (some false)
    (cond (a.cols != b.cols)
      (some false)
      ((M_laws_eqRatS a.cells b.cells).bind fun r =>
      cond (!r)
        (some false)
        (some true)))
noncomputable def S_laws_heldIntS_0:(List Int) × Int × Int × Unit→Option (((List Int) × Int × Int × Unit) ⊕ ((Int × Unit) ⊕ (Int × Unit))):=fun (a,k,i,_) =>
  cond (decide (i < (a.length:Int)))
    ((idx a i).bind fun e =>
    cond (e != k)
      (some (.inr (.inl ((-1),()))))
      (some (.inl (a,IntKind.i64.wrap (k+1),IntKind.i64.wrap (i+1),()))))
    (some (.inr (.inr (k,()))))
noncomputable def L_laws_heldIntS_0 (a:List Int) (k:Int) (i:Int):Option ((Int × Unit) ⊕ (Int × Unit)):=whileO S_laws_heldIntS_0 (a,k,i,())
noncomputable def M_laws_heldIntS (a:List Int) (k:Int):Option Int :=
  (L_laws_heldIntS_0 a k 0).bind fun r =>
  match r with
  | .inl (t,_) =>
    some t
  | .inr (k1,_) =>
    some k1
noncomputable def S_laws_heldRatS_0:(List Rt) × Int × Int × Unit→Option (((List Rt) × Int × Int × Unit) ⊕ ((Int × Unit) ⊕ (Int × Unit))):=fun (a,k,i,_) =>
  cond (decide (i < (a.length:Int)))
    ((idx a i).bind fun e =>
    cond (!(e.neg==((k.tmod 3)==0)))
      (some (.inr (.inl ((-1),()))))
      ((idx a i).bind fun e1 =>
      (M_laws_heldIntS e1.mag (IntKind.i64.wrap (k+1))).bind fun r =>
      cond (decide (r < 0))
        (some (.inr (.inl ((-1),()))))
        ((idx a i).bind fun e2 =>
        (M_laws_heldIntS e2.den r).bind fun r1 =>
        cond (decide (r1 < 0))
          (some (.inr (.inl ((-1),()))))
          (some (.inl (a,r1,IntKind.i64.wrap (i+1),()))))))
    (some (.inr (.inr (k,()))))
noncomputable def L_laws_heldRatS_0 (a:List Rt) (k:Int) (i:Int):Option ((Int × Unit) ⊕ (Int × Unit)):=whileO S_laws_heldRatS_0 (a,k,i,())
noncomputable def M_laws_heldRatS (a:List Rt) (k:Int):Option Int :=
  (L_laws_heldRatS_0 a k 0).bind fun r =>
  match r with
  | .inl (t,_) =>
    some t
  | .inr (k1,_) =>
    some k1
noncomputable def M_laws_heldMatrix (a:Mx) (k:Int):Option Int :=
  (M_laws_heldRatS a.cells k).bind fun r =>
  cond (decide (r < 0))
    (some (-1))
    (some r)
noncomputable def S_laws_markIntS_md_0:Int × Int × (List Int) × Unit→Option ((Int × Int × (List Int) × Unit) ⊕ (Int × (List Int) × Unit)):=fun (k,i,a,_) =>
  cond (decide (i < (a.length:Int)))
    ((idx a i).bind fun _ =>
    some (.inl (IntKind.i64.wrap (k+1),IntKind.i64.wrap (i+1),a.set i.toNat k,())))
    (some (.inr (k,a,())))
noncomputable def L_laws_markIntS_md_0 (k:Int) (i:Int) (a:List Int):Option (Int × (List Int) × Unit):=whileO S_laws_markIntS_md_0 (k,i,a,())
noncomputable def M_laws_markIntS_md (a:List Int) (k:Int):Option (Int × List Int) :=
  (L_laws_markIntS_md_0 k 0 a).bind fun (k1,a1,_) =>
  some (k1,a1)
noncomputable def S_laws_markRatS_md_0:Int × Int × (List Rt) × Unit→Option ((Int × Int × (List Rt) × Unit) ⊕ (Int × (List Rt) × Unit)):=fun (k,i,a,_) =>
  cond (decide (i < (a.length:Int)))
    ((idx a i).bind fun _ =>
    ((a[i.toNat]?).bind fun e=>some (⟨(k.tmod 3)==0,e.mag,e.den⟩:Rt)).bind fun e =>
    (idx (a.set i.toNat e) i).bind fun _ =>
    ((a.set i.toNat e)[i.toNat]?).bind fun e1 =>
    ((M_laws_markIntS_md e1.mag (IntKind.i64.wrap (k+1))).bind fun y=>((a.set i.toNat e)[i.toNat]?).bind fun e=>some ((⟨e.neg,y.2,e.den⟩:Rt),y.1)).bind fun (e2,r) =>
    (idx ((a.set i.toNat e).set i.toNat e2) i).bind fun _ =>
    (((a.set i.toNat e).set i.toNat e2)[i.toNat]?).bind fun e3 =>
    ((M_laws_markIntS_md e3.den r).bind fun y=>(((a.set i.toNat e).set i.toNat e2)[i.toNat]?).bind fun e=>some ((⟨e.neg,e.mag,y.2⟩:Rt),y.1)).bind fun (e4,r1) =>
    some (.inl (r1,IntKind.i64.wrap (i+1),((a.set i.toNat e).set i.toNat e2).set i.toNat e4,())))
    (some (.inr (k,a,())))
noncomputable def L_laws_markRatS_md_0 (k:Int) (i:Int) (a:List Rt):Option (Int × (List Rt) × Unit):=whileO S_laws_markRatS_md_0 (k,i,a,())
noncomputable def M_laws_markRatS_md (a:List Rt) (k:Int):Option (Int × List Rt) :=
  (L_laws_markRatS_md_0 k 0 a).bind fun (k1,a1,_) =>
  some (k1,a1)
noncomputable def M_laws_markMatrix_md (a:Mx) (k:Int):Option (Int × List Rt) :=
  (M_laws_markRatS_md a.cells k).bind fun (r0,x0) =>
  some (r0,x0)
noncomputable def M_laws_szIntS (a:List Int) (left:Int):Option Int :=
  cond (decide ((IntKind.i64.wrap (left - (a.length:Int))) < 0))
    (some (-1))
    (some (IntKind.i64.wrap (left - (a.length:Int))))
noncomputable def M_laws_szBigInt (a:Bg) (left:Int):Option Int :=
  (M_laws_szIntS a.mag left).bind fun r =>
  cond (decide (r < 0))
    (some (-1))
    (some r)
noncomputable def M_laws_szRat (a:Rt) (left:Int):Option Int :=
  (M_laws_szBigInt (⟨a.neg,a.mag⟩:Bg) left).bind fun r =>
  cond (decide (r < 0))
    (some (-1))
    ((M_laws_szIntS a.den r).bind fun r1 =>
    cond (decide (r1 < 0))
      (some (-1))
      (some r1))
noncomputable def S_laws_szRatS_0:(List Rt) × Int × Int × Unit→Option (((List Rt) × Int × Int × Unit) ⊕ ((Int × Unit) ⊕ (Int × Unit))):=fun (a,left,i,_) =>
  cond (decide (i < (a.length:Int)))
    ((idx a i).bind fun e =>
    (M_laws_szRat e left).bind fun r =>
    cond (decide (r < 0))
      (some (.inr (.inl ((-1),()))))
      (some (.inl (a,r,IntKind.i64.wrap (i+1),()))))
    (some (.inr (.inr (left,()))))
noncomputable def L_laws_szRatS_0 (a:List Rt) (left:Int) (i:Int):Option ((Int × Unit) ⊕ (Int × Unit)):=whileO S_laws_szRatS_0 (a,left,i,())
noncomputable def M_laws_szRatS (a:List Rt) (left:Int):Option Int :=
  cond (decide ((IntKind.i64.wrap (left - (a.length:Int))) < 0))
    (some (-1))
    ((L_laws_szRatS_0 a (IntKind.i64.wrap (left - (a.length:Int))) 0).bind fun r =>
    match r with
    | .inl (t,_) =>
      some t
    | .inr (left1,_) =>
      some left1)
noncomputable def M_laws_szMatrix (a:Mx) (left:Int):Option Int :=
  (M_laws_szRatS a.cells left).bind fun r =>
  cond (decide (r < 0))
    (some (-1))
    (some r)
noncomputable def S_laws_toIntS_0:(List Int) × Int × (List Int) × Unit→Option (((List Int) × Int × (List Int) × Unit) ⊕ ((List Int) × Unit)):=fun (a,i,out,_) =>
  cond (decide (i < (a.length:Int)))
    ((idx a i).bind fun e =>
    (idx out i).bind fun _ =>
    some (.inl (a,IntKind.i64.wrap (i+1),out.set i.toNat e,())))
    (some (.inr (out,())))
noncomputable def L_laws_toIntS_0 (a:List Int) (i:Int) (out:List Int):Option ((List Int) × Unit):=whileO S_laws_toIntS_0 (a,i,out,())
noncomputable def M_laws_toIntS (a:List Int):Option (List Int) :=
  (guardO (((decide (0≤(a.length:Int))) && (decide ((a.length:Int)≤(a.length:Int)))) && (decide ((a.length:Int)≤(maxNew:Int))))).bind fun _ =>
  (L_laws_toIntS_0 a 0 (List.replicate ((a.length:Int).toNat) 0:List Int)).bind fun (out,_) =>
  some out
noncomputable def M_laws_toBigInt (a:Bg):Option Bg :=
  (M_laws_toIntS a.mag).bind fun r =>
  some (⟨a.neg,r⟩:Bg)
noncomputable def M_laws_toRat (a:Rt):Option Rt :=
  (M_laws_toBigInt (⟨a.neg,a.mag⟩:Bg)).bind fun r =>
  (M_laws_toIntS a.den).bind fun r1 =>
  some (⟨r.neg,r.mag,r1⟩:Rt)
noncomputable def S_laws_toRatS_0:(List Rt) × Int × (List Rt) × Unit→Option (((List Rt) × Int × (List Rt) × Unit) ⊕ ((List Rt) × Unit)):=fun (a,i,out,_) =>
  cond (decide (i < (a.length:Int)))
    ((idx a i).bind fun e =>
    (M_laws_toRat e).bind fun r =>
    (idx out i).bind fun _ =>
    ((out[i.toNat]?).bind fun _=>some r).bind fun e1 =>
    some (.inl (a,IntKind.i64.wrap (i+1),out.set i.toNat e1,())))
    (some (.inr (out,())))
noncomputable def L_laws_toRatS_0 (a:List Rt) (i:Int) (out:List Rt):Option ((List Rt) × Unit):=whileO S_laws_toRatS_0 (a,i,out,())
noncomputable def M_laws_toRatS (a:List Rt):Option (List Rt) :=
  (guardO (((decide (0≤(a.length:Int))) && (decide ((a.length:Int)≤(a.length:Int)))) && (decide ((a.length:Int)≤(maxNew:Int))))).bind fun _ =>
  (L_laws_toRatS_0 a 0 (List.replicate ((a.length:Int).toNat) (⟨false,([]:List Int),([]:List Int)⟩:Rt):List Rt)).bind fun (out,_) =>
  some out
noncomputable def M_laws_toMatrix (a:Mx):Option Mx :=
  (M_laws_toRatS a.cells).bind fun r =>
  some (⟨a.rows,a.cols,r⟩:Mx)
end Go.Di
namespace Go.Di
noncomputable def M_impl_signed_dc (neg:Bool) (mag:List Int):Option Bg :=
  cond ((mag.length:Int)==0)
    (some (⟨false,([]:List Int)⟩:Bg))
    (some (⟨neg,mag⟩:Bg))
noncomputable def M_impl_BigIntOf (n:Int):Option Bg :=
  cond (decide (n ≥ 0))
    ((M_impl_NatOf n).bind fun r =>
    (M_impl_signed_dc false r).bind fun r1 =>
    some r1)
    ((M_impl_NatOf (IntKind.i64.wrap (0 - (IntKind.i64.wrap (n+1))))).bind fun r =>
    (M_impl_natAdd r ([1]:List Int)).bind fun r1 =>
    (M_impl_signed_dc true r1).bind fun r2 =>
    some r2)
noncomputable def M_impl_BigIntOk (x:Bg):Option Bool :=
  (M_impl_NatOk x.mag).bind fun r =>
  cond r
    (cond (decide ((x.mag.length:Int) > 0))
      (some true)
      (some (!x.neg)))
    (some false)
noncomputable def M_impl_bigAdd (x:Bg) (y:Bg):Option Bg :=
  cond (x.neg==y.neg)
    ((M_impl_natAdd x.mag y.mag).bind fun r =>
    (M_impl_signed_dc x.neg r).bind fun r1 =>
    some r1)
    ((M_impl_natCmp x.mag y.mag).bind fun r =>
    cond (decide (r ≥ 0))
      ((M_impl_natSub x.mag y.mag).bind fun r1 =>
      (M_impl_signed_dc x.neg r1).bind fun r2 =>
      some r2)
      ((M_impl_natSub y.mag x.mag).bind fun r1 =>
      (M_impl_signed_dc y.neg r1).bind fun r2 =>
      some r2))
noncomputable def M_impl_bigMul (x:Bg) (y:Bg):Option Bg :=
  (M_impl_natMul x.mag y.mag).bind fun r =>
  (M_impl_signed_dc (!(x.neg==y.neg)) r).bind fun r1 =>
  some r1
noncomputable def M_impl_bigNeg (x:Bg):Option Bg :=
  (M_impl_copyInts x.mag).bind fun r =>
  (M_impl_signed_dc (!x.neg) r).bind fun r1 =>
  some r1
noncomputable def M_impl_signed (neg:Bool) (mag:List Int):Option Bg :=
  cond ((mag.length:Int)==0)
    (some (⟨false,([]:List Int)⟩:Bg))
    (some (⟨neg,mag⟩:Bg))
noncomputable def M_spec_l03Make (neg:Bool) (a:List Int):Option Bg :=
  (M_spec_l02Cap a).bind fun r =>
  cond neg
    ((guardO (Nat.ble r.length maxNew)).bind fun _ =>
    some (⟨decide ((r.length:Int) > 0),r⟩:Bg))
    ((guardO (Nat.ble r.length maxNew)).bind fun _ =>
    some (⟨false,r⟩:Bg))
noncomputable def M_spec_BigIntOf (n:Int):Option Bg :=
  cond (n==(-9223372036854775808))
    ((M_spec_l03Make true ([854775808,223372036,9]:List Int)).bind fun r =>
    some r)
    (cond (decide (n < 0))
      ((M_spec_NatOf (IntKind.i64.wrap (0 - n))).bind fun r =>
      (M_spec_l03Make true r).bind fun r1 =>
      some r1)
      ((M_spec_NatOf n).bind fun r =>
      (M_spec_l03Make false r).bind fun r1 =>
      some r1))
noncomputable def M_spec_BigIntOk (x:Bg):Option Bool :=
  (M_spec_NatOk x.mag).bind fun r =>
  cond r
    (cond (!x.neg)
      (some true)
      (some (decide ((x.mag.length:Int) > 0))))
    (some false)
noncomputable def M_spec_l03Add (x:Bg) (y:Bg):Option Bg :=
  cond (x.neg==y.neg)
    ((M_spec_l02Add x.mag y.mag).bind fun r =>
    (M_spec_l03Make x.neg r).bind fun r1 =>
    some r1)
    ((M_spec_l02Cmp x.mag y.mag).bind fun r =>
    cond (decide (r ≥ 0))
      ((M_spec_l02Sub x.mag y.mag).bind fun r1 =>
      (M_spec_l03Make x.neg r1).bind fun r2 =>
      some r2)
      ((M_spec_l02Sub y.mag x.mag).bind fun r1 =>
      (M_spec_l03Make y.neg r1).bind fun r2 =>
      some r2))
end Go.Di
namespace Go.Di
noncomputable def M_impl_isOne (a:List Int):Option Bool :=
  cond ((a.length:Int)==1)
    ((idx a 0).bind fun e =>
    some (e==1))
    (some false)
noncomputable def M_impl_RatOk (r:Rt):Option Bool :=
  (M_impl_BigIntOk (⟨r.neg,r.mag⟩:Bg)).bind fun r1 =>
  cond (!r1)
    (some false)
    ((M_impl_NatOk r.den).bind fun r2 =>
    cond (!r2)
      (some false)
      (cond ((r.den.length:Int)==0)
        (some false)
        (cond (decide ((r.mag.length:Int) > 24))
          (some false)
          (cond (decide ((r.den.length:Int) > 24))
            (some false)
            ((M_impl_natGcd r.den r.mag).bind fun r3 =>
            (M_impl_isOne r3).bind fun r4 =>
            some r4)))))
noncomputable def M_impl_void (r:Rt):Option Bool :=
  some ((r.den.length:Int)==0)
noncomputable def S_impl_sameInts_0:(List Int) × (List Int) × Int × Int × Unit→Option (((List Int) × (List Int) × Int × Int × Unit) ⊕ ((Bool × Unit) ⊕ (Unit))):=fun (a,b,t,t1,_) =>
  cond (decide (t1 < t))
    ((idx a t1).bind fun e =>
    (idx b t1).bind fun e1 =>
    cond (e != e1)
      (some (.inr (.inl (false,()))))
      (some (.inl (a,b,t,IntKind.i64.wrap (t1+1),()))))
    (some (.inr (.inr (()))))
noncomputable def L_impl_sameInts_0 (a:List Int) (b:List Int) (t:Int) (t1:Int):Option ((Bool × Unit) ⊕ (Unit)):=whileO S_impl_sameInts_0 (a,b,t,t1,())
noncomputable def M_impl_sameInts (a:List Int) (b:List Int):Option Bool :=
  cond ((a.length:Int) != (b.length:Int))
    (some false)
    ((L_impl_sameInts_0 a b (a.length:Int) 0).bind fun r =>
    match r with
    | .inl (t,_) =>
      some t
    | .inr _ =>
      some true)
noncomputable def M_impl_lowest_cc (num:Bg) (den:List Int):Option Rt :=
  cond ((num.mag.length:Int)==0)
    (some (⟨false,([]:List Int),([1]:List Int)⟩:Rt))
    ((M_impl_natGcd den num.mag).bind fun r =>
    (M_impl_isOne r).bind fun r1 =>
    cond (!r1)
      ((M_impl_natDiv num.mag r).bind fun (r0,_) =>
      (M_impl_natDiv den r).bind fun (r0_1,_) =>
      (M_impl_signed_dc num.neg r0).bind fun r2 =>
      cond (decide ((r2.mag.length:Int) > 24))
        (some (⟨false,([]:List Int),([]:List Int)⟩:Rt))
        (cond (decide ((r0_1.length:Int) > 24))
          (some (⟨false,([]:List Int),([]:List Int)⟩:Rt))
          (some (⟨r2.neg,r2.mag,r0_1⟩:Rt))))
      (cond (decide ((num.mag.length:Int) > 24))
        (some (⟨false,([]:List Int),([]:List Int)⟩:Rt))
        (cond (decide ((den.length:Int) > 24))
          (some (⟨false,([]:List Int),([]:List Int)⟩:Rt))
          (some (⟨num.neg,num.mag,den⟩:Rt)))))
noncomputable def M_impl_add (r:Rt) (s:Rt):Option Rt :=
  (M_impl_void r).bind fun r1 =>
  cond r1
    (some (⟨false,([]:List Int),([]:List Int)⟩:Rt))
    ((M_impl_void s).bind fun r2 =>
    cond r2
      (some (⟨false,([]:List Int),([]:List Int)⟩:Rt))
      ((M_impl_sameInts r.den s.den).bind fun r3 =>
      cond r3
        ((M_impl_bigAdd (⟨r.neg,r.mag⟩:Bg) (⟨s.neg,s.mag⟩:Bg)).bind fun r4 =>
        (M_impl_copyInts r.den).bind fun r5 =>
        (M_impl_lowest_cc r4 r5).bind fun r6 =>
        some r6)
        ((M_impl_bigMul (⟨r.neg,r.mag⟩:Bg) (⟨false,s.den⟩:Bg)).bind fun r4 =>
        (M_impl_bigMul (⟨s.neg,s.mag⟩:Bg) (⟨false,r.den⟩:Bg)).bind fun r5 =>
        (M_impl_bigAdd r4 r5).bind fun r6 =>
        (M_impl_natMul r.den s.den).bind fun r7 =>
        (M_impl_lowest_cc r6 r7).bind fun r8 =>
        some r8)))
noncomputable def M_impl_lowest (num:Bg) (den:List Int):Option Rt :=
  cond ((num.mag.length:Int)==0)
    (some (⟨false,([]:List Int),([1]:List Int)⟩:Rt))
    ((M_impl_natGcd den num.mag).bind fun r =>
    (M_impl_isOne r).bind fun r1 =>
    cond (!r1)
      ((M_impl_natDiv num.mag r).bind fun (r0,_) =>
      (M_impl_natDiv den r).bind fun (r0_1,_) =>
      (M_impl_signed_dc num.neg r0).bind fun r2 =>
      cond (decide ((r2.mag.length:Int) > 24))
        (some (⟨false,([]:List Int),([]:List Int)⟩:Rt))
        (cond (decide ((r0_1.length:Int) > 24))
          (some (⟨false,([]:List Int),([]:List Int)⟩:Rt))
          (some (⟨r2.neg,r2.mag,r0_1⟩:Rt))))
      (cond (decide ((num.mag.length:Int) > 24))
        (some (⟨false,([]:List Int),([]:List Int)⟩:Rt))
        (cond (decide ((den.length:Int) > 24))
          (some (⟨false,([]:List Int),([]:List Int)⟩:Rt))
          (some (⟨num.neg,num.mag,den⟩:Rt)))))
noncomputable def M_impl_copyRat (r:Rt):Option Rt :=
  (M_impl_copyInts r.mag).bind fun r1 =>
  (M_impl_copyInts r.den).bind fun r2 =>
  some (⟨r.neg,r1,r2⟩:Rt)
noncomputable def M_impl_RatMake (num:Bg) (den:Bg):Option Rt :=
  (M_impl_BigIntOk num).bind fun r =>
  cond (!r)
    (some (⟨false,([]:List Int),([]:List Int)⟩:Rt))
    ((M_impl_BigIntOk den).bind fun r1 =>
    cond (!r1)
      (some (⟨false,([]:List Int),([]:List Int)⟩:Rt))
      (cond ((den.mag.length:Int)==0)
        (some (⟨false,([]:List Int),([]:List Int)⟩:Rt))
        ((M_impl_signed (!(num.neg==den.neg)) num.mag).bind fun r2 =>
        (M_impl_lowest r2 den.mag).bind fun r3 =>
        (M_impl_copyRat r3).bind fun r4 =>
        some r4)))
noncomputable def M_impl_RatOf (n:Int) (d:Int):Option Rt :=
  (M_impl_BigIntOf n).bind fun r =>
  (M_impl_BigIntOf d).bind fun r1 =>
  (M_impl_RatMake r r1).bind fun r2 =>
  some r2
noncomputable def M_impl_RatFromInt (n:Int):Option Rt :=
  (M_impl_RatOf n 1).bind fun r =>
  some r
noncomputable def M_impl_mul (r:Rt) (s:Rt):Option Rt :=
  (M_impl_void r).bind fun r1 =>
  cond r1
    (some (⟨false,([]:List Int),([]:List Int)⟩:Rt))
    ((M_impl_void s).bind fun r2 =>
    cond r2
      (some (⟨false,([]:List Int),([]:List Int)⟩:Rt))
      ((M_impl_bigMul (⟨r.neg,r.mag⟩:Bg) (⟨s.neg,s.mag⟩:Bg)).bind fun r3 =>
      (M_impl_natMul r.den s.den).bind fun r4 =>
      (M_impl_lowest_cc r3 r4).bind fun r5 =>
      some r5))
noncomputable def M_impl_neg (r:Rt):Option Rt :=
  (M_impl_void r).bind fun r1 =>
  cond r1
    (some (⟨false,([]:List Int),([]:List Int)⟩:Rt))
    ((M_impl_bigNeg (⟨r.neg,r.mag⟩:Bg)).bind fun r2 =>
    (M_impl_copyInts r.den).bind fun r3 =>
    some (⟨r2.neg,r2.mag,r3⟩:Rt))
noncomputable def M_impl_sub (r:Rt) (s:Rt):Option Rt :=
  (M_impl_neg s).bind fun r1 =>
  (M_impl_add r r1).bind fun r2 =>
  some r2
noncomputable def S_impl_copyVector_0:(List Rt) × Int × Int × (List Rt) × Unit→Option (((List Rt) × Int × Int × (List Rt) × Unit) ⊕ ((List Rt) × Unit)):=fun (t,t1,t2,out,_) =>
  cond (decide (t2 < t1))
    ((idx t t2).bind fun e =>
    (M_impl_copyRat e).bind fun r =>
    (guardO (Nat.ble (out.length+1) maxNew)).bind fun _ =>
    some (.inl (t,t1,IntKind.i64.wrap (t2+1),out++([r]:List Rt),())))
    (some (.inr (out,())))
noncomputable def L_impl_copyVector_0 (t:List Rt) (t1:Int) (t2:Int) (out:List Rt):Option ((List Rt) × Unit):=whileO S_impl_copyVector_0 (t,t1,t2,out,())
noncomputable def M_impl_copyVector (v:List Rt):Option (List Rt) :=
  (L_impl_copyVector_0 v (v.length:Int) 0 ([]:List Rt)).bind fun (out,_) =>
  some out
noncomputable def M_impl_div (r:Rt) (s:Rt):Option Rt :=
  (M_impl_void r).bind fun r1 =>
  cond r1
    (some (⟨false,([]:List Int),([]:List Int)⟩:Rt))
    ((M_impl_void s).bind fun r2 =>
    cond r2
      (some (⟨false,([]:List Int),([]:List Int)⟩:Rt))
      (cond ((s.mag.length:Int)==0)
        (some (⟨false,([]:List Int),([]:List Int)⟩:Rt))
        ((M_impl_mul r (⟨s.neg,s.den,s.mag⟩:Rt)).bind fun r3 =>
        some r3)))
noncomputable def M_impl_isZero (r:Rt):Option Bool :=
  some ((r.mag.length:Int)==0)
noncomputable def M_impl_whole (n:Int):Option Rt :=
  (M_impl_RatFromInt n).bind fun r =>
  some r
noncomputable def M_spec_l04One (a:List Int):Option Bool :=
  cond ((a.length:Int)==1)
    ((idx a 0).bind fun e =>
    some (e==1))
    (some false)
noncomputable def M_spec_RatOk (r:Rt):Option Bool :=
  (M_spec_BigIntOk (⟨r.neg,r.mag⟩:Bg)).bind fun r1 =>
  cond (!r1)
    (some false)
    ((M_spec_NatOk r.den).bind fun r2 =>
    cond (!r2)
      (some false)
      (cond ((r.den.length:Int)==0)
        (some false)
        (cond (decide ((r.den.length:Int) > 24))
          (some false)
          (cond (decide ((r.mag.length:Int) > 24))
            (some false)
            ((M_spec_l02Gcd r.mag r.den).bind fun r3 =>
            (M_spec_l04One r3).bind fun r4 =>
            some r4)))))
noncomputable def M_spec_RatFromInt (n:Int):Option Rt :=
  (M_spec_BigIntOf n).bind fun r =>
  some (⟨r.neg,r.mag,([1]:List Int)⟩:Rt)
noncomputable def M_spec_l04Low (neg:Bool) (a:List Int) (b:List Int):Option Rt :=
  (M_spec_l02Trim a).bind fun r =>
  (M_spec_l02Trim b).bind fun r1 =>
  cond ((r1.length:Int)==0)
    (some (⟨false,([]:List Int),([]:List Int)⟩:Rt))
    ((M_spec_l04One r1).bind fun r2 =>
    cond (!r2)
      ((M_spec_l02Gcd r r1).bind fun r3 =>
      (M_spec_l04One r3).bind fun r4 =>
      cond (!r4)
        ((M_spec_l02Div r r3).bind fun (r0,_) =>
        (M_spec_l02Div r1 r3).bind fun (r0_1,_) =>
        cond (decide ((r0.length:Int) > 24))
          (some (⟨false,([]:List Int),([]:List Int)⟩:Rt))
          (cond (decide ((r0_1.length:Int) > 24))
            (some (⟨false,([]:List Int),([]:List Int)⟩:Rt))
            ((M_spec_l03Make neg r0).bind fun r5 =>
            (guardO (Nat.ble r0_1.length maxNew)).bind fun _ =>
            some (⟨r5.neg,r5.mag,r0_1⟩:Rt))))
        (cond (decide ((r.length:Int) > 24))
          (some (⟨false,([]:List Int),([]:List Int)⟩:Rt))
          (cond (decide ((r1.length:Int) > 24))
            (some (⟨false,([]:List Int),([]:List Int)⟩:Rt))
            ((M_spec_l03Make neg r).bind fun r5 =>
            (guardO (Nat.ble r1.length maxNew)).bind fun _ =>
            some (⟨r5.neg,r5.mag,r1⟩:Rt)))))
      (cond (decide ((r.length:Int) > 24))
        (some (⟨false,([]:List Int),([]:List Int)⟩:Rt))
        (cond (decide ((r1.length:Int) > 24))
          (some (⟨false,([]:List Int),([]:List Int)⟩:Rt))
          ((M_spec_l03Make neg r).bind fun r3 =>
          (guardO (Nat.ble r1.length maxNew)).bind fun _ =>
          some (⟨r3.neg,r3.mag,r1⟩:Rt)))))
noncomputable def M_spec_l04Add (r:Rt) (s:Rt):Option Rt :=
  (M_spec_l04One r.den).bind fun r1 =>
  cond r1
    ((M_spec_l04One s.den).bind fun r2 =>
    cond r2
      ((M_spec_l03Add (⟨r.neg,r.mag⟩:Bg) (⟨s.neg,s.mag⟩:Bg)).bind fun r3 =>
      (M_spec_l04Low r3.neg r3.mag ([1]:List Int)).bind fun r4 =>
      some r4)
      ((M_spec_l02Mul r.mag s.den).bind fun r3 =>
      (M_spec_l03Make r.neg r3).bind fun r4 =>
      (M_spec_l02Mul s.mag r.den).bind fun r5 =>
      (M_spec_l03Make s.neg r5).bind fun r6 =>
      (M_spec_l03Add r4 r6).bind fun r7 =>
      (M_spec_l02Mul r.den s.den).bind fun r8 =>
      (M_spec_l04Low r7.neg r7.mag r8).bind fun r9 =>
      some r9))
    ((M_spec_l02Mul r.mag s.den).bind fun r2 =>
    (M_spec_l03Make r.neg r2).bind fun r3 =>
    (M_spec_l02Mul s.mag r.den).bind fun r4 =>
    (M_spec_l03Make s.neg r4).bind fun r5 =>
    (M_spec_l03Add r3 r5).bind fun r6 =>
    (M_spec_l02Mul r.den s.den).bind fun r7 =>
    (M_spec_l04Low r6.neg r6.mag r7).bind fun r8 =>
    some r8)
noncomputable def M_spec_l04Copy (r:Rt):Option Rt :=
  (guardO (Nat.ble r.mag.length maxNew)).bind fun _ =>
  (guardO (Nat.ble r.den.length maxNew)).bind fun _ =>
  some r
noncomputable def M_spec_l04Mul (r:Rt) (s:Rt):Option Rt :=
  (M_spec_l02Mul r.mag s.mag).bind fun r1 =>
  (M_spec_l02Mul r.den s.den).bind fun r2 =>
  (M_spec_l04Low (!(r.neg==s.neg)) r1 r2).bind fun r3 =>
  some r3
noncomputable def M_spec_l04Neg (r:Rt):Option Rt :=
  (M_spec_l03Make (!r.neg) r.mag).bind fun r1 =>
  (guardO (Nat.ble r.den.length maxNew)).bind fun _ =>
  some (⟨r1.neg,r1.mag,r.den⟩:Rt)
end Go.Di
namespace Go.Di
noncomputable def S_impl_complete_0:(List Rt) × Int × Int × Unit→Option (((List Rt) × Int × Int × Unit) ⊕ ((Bool × Unit) ⊕ (Unit))):=fun (t,t1,t2,_) =>
  cond (decide (t2 < t1))
    ((idx t t2).bind fun e =>
    (M_impl_void e).bind fun r =>
    cond r
      (some (.inr (.inl (false,()))))
      (some (.inl (t,t1,IntKind.i64.wrap (t2+1),()))))
    (some (.inr (.inr (()))))
noncomputable def L_impl_complete_0 (t:List Rt) (t1:Int) (t2:Int):Option ((Bool × Unit) ⊕ (Unit)):=whileO S_impl_complete_0 (t,t1,t2,())
noncomputable def M_impl_complete (v:List Rt):Option Bool :=
  (L_impl_complete_0 v (v.length:Int) 0).bind fun r =>
  match r with
  | .inl (t,_) =>
    some t
  | .inr _ =>
    some true
noncomputable def M_spec_l05Bad (r:Rt):Option Bool :=
  some ((r.den.length:Int)==0)
noncomputable def S_spec_l05Copy_0:(List Rt) × Int × Int × (List Rt) × Unit→Option (((List Rt) × Int × Int × (List Rt) × Unit) ⊕ ((List Rt) × Unit)):=fun (t,t1,t2,out,_) =>
  cond (decide (t2 < t1))
    ((idx t t2).bind fun e =>
    (M_spec_l04Copy e).bind fun r =>
    (guardO (Nat.ble (out.length+1) maxNew)).bind fun _ =>
    some (.inl (t,t1,IntKind.i64.wrap (t2+1),out++([r]:List Rt),())))
    (some (.inr (out,())))
noncomputable def L_spec_l05Copy_0 (t:List Rt) (t1:Int) (t2:Int) (out:List Rt):Option ((List Rt) × Unit):=whileO S_spec_l05Copy_0 (t,t1,t2,out,())
noncomputable def M_spec_l05Copy (v:List Rt):Option (List Rt) :=
  (L_spec_l05Copy_0 v (v.length:Int) 0 ([]:List Rt)).bind fun (out,_) =>
  some out
noncomputable def M_spec_l05Div (a:Rt) (b:Rt):Option Rt :=
  (M_spec_l02Mul a.mag b.den).bind fun r =>
  (M_spec_l02Mul a.den b.mag).bind fun r1 =>
  (M_spec_l04Low (!(a.neg==b.neg)) r r1).bind fun r2 =>
  some r2
noncomputable def S_spec_l05Fine_0:(List Rt) × Int × Int × Unit→Option (((List Rt) × Int × Int × Unit) ⊕ ((Bool × Unit) ⊕ (Unit))):=fun (t,t1,t2,_) =>
  cond (decide (t2 < t1))
    ((idx t t2).bind fun e =>
    (M_spec_l05Bad e).bind fun r =>
    cond r
      (some (.inr (.inl (false,()))))
      (some (.inl (t,t1,IntKind.i64.wrap (t2+1),()))))
    (some (.inr (.inr (()))))
noncomputable def L_spec_l05Fine_0 (t:List Rt) (t1:Int) (t2:Int):Option ((Bool × Unit) ⊕ (Unit)):=whileO S_spec_l05Fine_0 (t,t1,t2,())
noncomputable def M_spec_l05Fine (v:List Rt):Option Bool :=
  (L_spec_l05Fine_0 v (v.length:Int) 0).bind fun r =>
  match r with
  | .inl (t,_) =>
    some t
  | .inr _ =>
    some true
noncomputable def M_spec_l05Nil (r:Rt):Option Bool :=
  some ((r.mag.length:Int)==0)
noncomputable def M_spec_l05Sub (a:Rt) (b:Rt):Option Rt :=
  (M_spec_l04Neg b).bind fun r =>
  (M_spec_l04Add a r).bind fun r1 =>
  some r1
end Go.Di
namespace Go.Di
noncomputable def M_impl_isLength (n:Int):Option Bool :=
  cond (decide (n ≥ 0))
    (some (decide (n≤24)))
    (some false)
noncomputable def S_impl_MatrixOk_0:(List Rt) × Int × Int × Unit→Option (((List Rt) × Int × Int × Unit) ⊕ ((Bool × Unit) ⊕ (Unit))):=fun (t,t1,t2,_) =>
  cond (decide (t2 < t1))
    ((idx t t2).bind fun e =>
    (M_impl_RatOk e).bind fun r =>
    cond (!r)
      (some (.inr (.inl (false,()))))
      (some (.inl (t,t1,IntKind.i64.wrap (t2+1),()))))
    (some (.inr (.inr (()))))
noncomputable def L_impl_MatrixOk_0 (t:List Rt) (t1:Int) (t2:Int):Option ((Bool × Unit) ⊕ (Unit)):=whileO S_impl_MatrixOk_0 (t,t1,t2,())
noncomputable def M_impl_MatrixOk (m:Mx):Option Bool :=
  (M_impl_isLength m.rows).bind fun r =>
  cond (!r)
    (some false)
    ((M_impl_isLength m.cols).bind fun r1 =>
    cond (!r1)
      (some false)
      (cond ((m.cells.length:Int) != (IntKind.i64.wrap (m.rows * m.cols)))
        (some false)
        ((L_impl_MatrixOk_0 m.cells (m.cells.length:Int) 0).bind fun r2 =>
        match r2 with
        | .inl (t,_) =>
          some t
        | .inr _ =>
          some true)))
noncomputable def M_impl_Matrix_at_mdd (m:Mx) (i:Int) (k:Int):Option (Rt × List Rt) :=
  (idx m.cells (IntKind.i64.wrap ((IntKind.i64.wrap (i * m.cols))+k))).bind fun _ =>
  (m.cells[(IntKind.i64.wrap ((IntKind.i64.wrap (i * m.cols))+k)).toNat]?).bind fun e =>
  some (e,m.cells)
noncomputable def M_impl_Matrix_row_md (m:Mx) (i:Int):Option ((Nat × Nat) × List Rt) :=
  (guardO (inside m.cells.length (IntKind.i64.wrap (i * m.cols),IntKind.i64.wrap ((IntKind.i64.wrap (i+1)) * m.cols)))).bind fun _ =>
  some (((IntKind.i64.wrap (i * m.cols)).toNat,((IntKind.i64.wrap ((IntKind.i64.wrap (i+1)) * m.cols)).toNat) - ((IntKind.i64.wrap (i * m.cols)).toNat)),m.cells)
noncomputable def S_spec_MatrixOk_0:(List Rt) × Int × Int × Unit→Option (((List Rt) × Int × Int × Unit) ⊕ ((Bool × Unit) ⊕ (Unit))):=fun (t,t1,t2,_) =>
  cond (decide (t2 < t1))
    ((idx t t2).bind fun e =>
    (M_spec_RatOk e).bind fun r =>
    cond (!r)
      (some (.inr (.inl (false,()))))
      (some (.inl (t,t1,IntKind.i64.wrap (t2+1),()))))
    (some (.inr (.inr (()))))
noncomputable def L_spec_MatrixOk_0 (t:List Rt) (t1:Int) (t2:Int):Option ((Bool × Unit) ⊕ (Unit)):=whileO S_spec_MatrixOk_0 (t,t1,t2,())
noncomputable def M_spec_MatrixOk (m:Mx):Option Bool :=
  (M_spec_l01In m.rows 0 24).bind fun r =>
  cond (!r)
    (some false)
    ((M_spec_l01In m.cols 0 24).bind fun r1 =>
    cond (!r1)
      (some false)
      (cond ((m.cells.length:Int) != (IntKind.i64.wrap (m.rows * m.cols)))
        (some false)
        ((L_spec_MatrixOk_0 m.cells (m.cells.length:Int) 0).bind fun r2 =>
        match r2 with
        | .inl (t,_) =>
          some t
        | .inr _ =>
          some true)))
noncomputable def M_spec_l06At_mdd (m:Mx) (i:Int) (k:Int):Option (Rt × List Rt) :=
  (idx m.cells (IntKind.i64.wrap ((IntKind.i64.wrap (i * m.cols))+k))).bind fun _ =>
  (m.cells[(IntKind.i64.wrap ((IntKind.i64.wrap (i * m.cols))+k)).toNat]?).bind fun e =>
  some (e,m.cells)
noncomputable def M_spec_l06Copy (m:Mx):Option Mx :=
  (M_spec_l05Copy m.cells).bind fun r =>
  some (⟨m.rows,m.cols,r⟩:Mx)
end Go.Di
namespace Go.Di
noncomputable def S_impl_reduce_5:Int × Int × Nat × Nat × Nat × Nat × Int × Int × Int × Int × Int × Int × (List Rt) × (List Int) × (List Rt) × Int × Int × Int × Int × Bool × (List Int) × (List Int) × (List Rt) × (List Rt) × (List Int) × Unit→Option ((Int × Int × Nat × Nat × Nat × Nat × Int × Int × Int × Int × Int × Int × (List Rt) × (List Int) × (List Rt) × Int × Int × Int × Int × Bool × (List Int) × (List Int) × (List Rt) × (List Rt) × (List Int) × Unit) ⊕ (Int × Int × Nat × Nat × Nat × Nat × Int × Int × Int × Int × (List Rt) × (List Int) × (List Rt) × Int × Int × Int × Int × (List Rt) × (List Rt) × (List Int) × Unit)):=fun (used,c,lo,len,lo1,len1,t,t1,t2,t3,v,v1,v2,v3,v4,v5,v6,v7,v8,v9,v10,v11,xs,xs1,xs2,_) =>
  cond (decide (t3 < t2))
    ((idx (cut xs lo1 (lo1+len1)) t3).bind fun _ =>
    (xs[lo1+t3.toNat]?).bind fun e =>
    (idx (cut xs lo (lo+len)) t3).bind fun _ =>
    (xs[lo+t3.toNat]?).bind fun e1 =>
    (M_impl_mul (⟨v9,v10,v11⟩:Rt) e1).bind fun r =>
    (M_impl_sub e r).bind fun r1 =>
    (idx (cut xs lo1 (lo1+len1)) t3).bind fun _ =>
    some (.inl (used,c,lo,len,lo1,len1,t,t1,t2,IntKind.i64.wrap (t3+1),v,v1,v2,v3,v4,v5,v6,v7,v8,v9,v10,v11,xs.set (lo1+t3.toNat) r1,xs1,xs2,())))
    (some (.inr (used,c,lo,len,lo1,len1,t,t1,v,v1,v2,v3,v4,v5,v6,v7,v8,xs,xs1,xs2,())))
noncomputable def L_impl_reduce_5 (used:Int) (c:Int) (lo:Nat) (len:Nat) (lo1:Nat) (len1:Nat) (t:Int) (t1:Int) (t2:Int) (t3:Int) (v:Int) (v1:Int) (v2:List Rt) (v3:List Int) (v4:List Rt) (v5:Int) (v6:Int) (v7:Int) (v8:Int) (v9:Bool) (v10:List Int) (v11:List Int) (xs:List Rt) (xs1:List Rt) (xs2:List Int):Option (Int × Int × Nat × Nat × Nat × Nat × Int × Int × Int × Int × (List Rt) × (List Int) × (List Rt) × Int × Int × Int × Int × (List Rt) × (List Rt) × (List Int) × Unit):=whileO S_impl_reduce_5 (used,c,lo,len,lo1,len1,t,t1,t2,t3,v,v1,v2,v3,v4,v5,v6,v7,v8,v9,v10,v11,xs,xs1,xs2,())
noncomputable def S_impl_reduce_4:Int × Int × Nat × Nat × Int × Int × Int × Int × (List Rt) × (List Int) × (List Rt) × Int × Int × Int × Int × (List Rt) × (List Rt) × (List Int) × Unit→Option ((Int × Int × Nat × Nat × Int × Int × Int × Int × (List Rt) × (List Int) × (List Rt) × Int × Int × Int × Int × (List Rt) × (List Rt) × (List Int) × Unit) ⊕ ((Bool × Int × Int × (List Rt) × (List Int) × (List Rt) × Unit) ⊕ (Int × Int × Int × Int × (List Rt) × (List Int) × (List Rt) × Int × Int × Int × Int × (List Rt) × (List Rt) × (List Int) × Unit))):=fun (used,c,lo,len,t,t1,v,v1,v2,v3,v4,v5,v6,v7,v8,xs,xs1,xs2,_) =>
  cond (decide (t1 < t))
    ((M_impl_Matrix_row_md (⟨v7,v8,xs⟩:Mx) t1).bind fun (r0,x0) =>
    cond (t1==used)
      (some (.inl (used,c,lo,len,t,IntKind.i64.wrap (t1+1),v,v1,v2,v3,v4,v5,v6,v7,v8,x0,xs1,xs2,())))
      ((idx (cut x0 r0.1 (r0.1+r0.2)) c).bind fun _ =>
      (x0[r0.1+c.toNat]?).bind fun e =>
      (M_impl_isZero e).bind fun r =>
      cond r
        (some (.inl (used,c,lo,len,t,IntKind.i64.wrap (t1+1),v,v1,v2,v3,v4,v5,v6,v7,v8,x0,xs1,xs2,())))
        ((idx (cut x0 r0.1 (r0.1+r0.2)) c).bind fun _ =>
        (x0[r0.1+c.toNat]?).bind fun e1 =>
        (L_impl_reduce_5 used c lo len r0.1 r0.2 t t1 (r0.2:Int) 0 v v1 v2 v3 v4 v5 v6 v7 v8 e1.neg e1.mag e1.den x0 xs1 xs2).bind fun (used1,c1,lo1,len1,lo2,len2,t2,t3,v9,v10,v11,v12,v13,v14,v15,v16,v17,xs3,xs4,xs5,_) =>
        (M_impl_complete (cut xs3 lo2 (lo2+len2))).bind fun r1 =>
        cond (!r1)
          (some (.inr (.inl (false,0,0,([]:List Rt),([]:List Int),([]:List Rt),()))))
          (some (.inl (used1,c1,lo1,len1,t2,IntKind.i64.wrap (t3+1),v9,v10,v11,v12,v13,v14,v15,v16,v17,xs3,xs4,xs5,()))))))
    (some (.inr (.inr (used,c,v,v1,v2,v3,v4,v5,v6,v7,v8,xs,xs1,xs2,()))))
noncomputable def L_impl_reduce_4 (used:Int) (c:Int) (lo:Nat) (len:Nat) (t:Int) (t1:Int) (v:Int) (v1:Int) (v2:List Rt) (v3:List Int) (v4:List Rt) (v5:Int) (v6:Int) (v7:Int) (v8:Int) (xs:List Rt) (xs1:List Rt) (xs2:List Int):Option ((Bool × Int × Int × (List Rt) × (List Int) × (List Rt) × Unit) ⊕ (Int × Int × Int × Int × (List Rt) × (List Int) × (List Rt) × Int × Int × Int × Int × (List Rt) × (List Rt) × (List Int) × Unit)):=whileO S_impl_reduce_4 (used,c,lo,len,t,t1,v,v1,v2,v3,v4,v5,v6,v7,v8,xs,xs1,xs2,())
noncomputable def S_impl_reduce_3:Int × Int × Nat × Nat × Int × Int × Int × Int × (List Rt) × (List Int) × (List Rt) × Int × Int × Int × Int × Bool × (List Int) × (List Int) × (List Rt) × (List Rt) × (List Int) × Unit→Option ((Int × Int × Nat × Nat × Int × Int × Int × Int × (List Rt) × (List Int) × (List Rt) × Int × Int × Int × Int × Bool × (List Int) × (List Int) × (List Rt) × (List Rt) × (List Int) × Unit) ⊕ (Int × Int × Nat × Nat × Int × Int × (List Rt) × (List Int) × (List Rt) × Int × Int × Int × Int × (List Rt) × (List Rt) × (List Int) × Unit)):=fun (used,c,lo,len,t,t1,v,v1,v2,v3,v4,v5,v6,v7,v8,v9,v10,v11,xs,xs1,xs2,_) =>
  cond (decide (t1 < t))
    ((idx (cut xs lo (lo+len)) t1).bind fun _ =>
    (xs[lo+t1.toNat]?).bind fun e =>
    (M_impl_div e (⟨v9,v10,v11⟩:Rt)).bind fun r =>
    (idx (cut xs lo (lo+len)) t1).bind fun _ =>
    some (.inl (used,c,lo,len,t,IntKind.i64.wrap (t1+1),v,v1,v2,v3,v4,v5,v6,v7,v8,v9,v10,v11,xs.set (lo+t1.toNat) r,xs1,xs2,())))
    (some (.inr (used,c,lo,len,v,v1,v2,v3,v4,v5,v6,v7,v8,xs,xs1,xs2,())))
noncomputable def L_impl_reduce_3 (used:Int) (c:Int) (lo:Nat) (len:Nat) (t:Int) (t1:Int) (v:Int) (v1:Int) (v2:List Rt) (v3:List Int) (v4:List Rt) (v5:Int) (v6:Int) (v7:Int) (v8:Int) (v9:Bool) (v10:List Int) (v11:List Int) (xs:List Rt) (xs1:List Rt) (xs2:List Int):Option (Int × Int × Nat × Nat × Int × Int × (List Rt) × (List Int) × (List Rt) × Int × Int × Int × Int × (List Rt) × (List Rt) × (List Int) × Unit):=whileO S_impl_reduce_3 (used,c,lo,len,t,t1,v,v1,v2,v3,v4,v5,v6,v7,v8,v9,v10,v11,xs,xs1,xs2,())
noncomputable def S_impl_reduce_2:Int × Int × Nat × Nat × Nat × Nat × Int × Int × Int × Int × (List Rt) × (List Int) × (List Rt) × Int × Int × Int × Int × (List Rt) × (List Rt) × (List Int) × Unit→Option ((Int × Int × Nat × Nat × Nat × Nat × Int × Int × Int × Int × (List Rt) × (List Int) × (List Rt) × Int × Int × Int × Int × (List Rt) × (List Rt) × (List Int) × Unit) ⊕ (Int × Int × Int × Int × (List Rt) × (List Int) × (List Rt) × Int × Int × Int × Int × (List Rt) × (List Rt) × (List Int) × Unit)):=fun (used,c,lo,len,lo1,len1,t,t1,v,v1,v2,v3,v4,v5,v6,v7,v8,xs,xs1,xs2,_) =>
  cond (decide (t1 < t))
    ((idx (cut xs lo1 (lo1+len1)) t1).bind fun _ =>
    (xs[lo1+t1.toNat]?).bind fun e =>
    (idx (cut xs lo (lo+len)) t1).bind fun _ =>
    (xs[lo+t1.toNat]?).bind fun e1 =>
    (idx (cut xs lo (lo+len)) t1).bind fun _ =>
    (idx (cut (xs.set (lo+t1.toNat) e) lo1 (lo1+len1)) t1).bind fun _ =>
    some (.inl (used,c,lo,len,lo1,len1,t,IntKind.i64.wrap (t1+1),v,v1,v2,v3,v4,v5,v6,v7,v8,(xs.set (lo+t1.toNat) e).set (lo1+t1.toNat) e1,xs1,xs2,())))
    (some (.inr (used,c,v,v1,v2,v3,v4,v5,v6,v7,v8,xs,xs1,xs2,())))
noncomputable def L_impl_reduce_2 (used:Int) (c:Int) (lo:Nat) (len:Nat) (lo1:Nat) (len1:Nat) (t:Int) (t1:Int) (v:Int) (v1:Int) (v2:List Rt) (v3:List Int) (v4:List Rt) (v5:Int) (v6:Int) (v7:Int) (v8:Int) (xs:List Rt) (xs1:List Rt) (xs2:List Int):Option (Int × Int × Int × Int × (List Rt) × (List Int) × (List Rt) × Int × Int × Int × Int × (List Rt) × (List Rt) × (List Int) × Unit):=whileO S_impl_reduce_2 (used,c,lo,len,lo1,len1,t,t1,v,v1,v2,v3,v4,v5,v6,v7,v8,xs,xs1,xs2,())
noncomputable def S_impl_reduce_1:Int × Int × Int × Int × Int × (List Rt) × (List Int) × (List Rt) × Int × Int × Int × Int × (List Rt) × (List Int) × (List Rt) × Unit→Option ((Int × Int × Int × Int × Int × (List Rt) × (List Int) × (List Rt) × Int × Int × Int × Int × (List Rt) × (List Int) × (List Rt) × Unit) ⊕ (Int × Int × Int × Int × Int × (List Rt) × (List Int) × (List Rt) × Int × Int × Int × Int × (List Rt) × (List Int) × (List Rt) × Unit)):=fun (used,c,p,v,v1,v2,v3,v4,v5,v6,v7,v8,xs,xs1,xs2,_) =>
  cond (decide (p < v7))
    ((M_impl_Matrix_at_mdd (⟨v7,v8,xs⟩:Mx) p c).bind fun (r0,x0) =>
    (M_impl_isZero r0).bind fun r =>
    cond r
      (some (.inl (used,c,IntKind.i64.wrap (p+1),v,v1,v2,v3,v4,v5,v6,v7,v8,x0,xs1,xs2,())))
      (some (.inr (used,c,p,v,v1,v2,v3,v4,v5,v6,v7,v8,x0,xs1,xs2,()))))
    (some (.inr (used,c,p,v,v1,v2,v3,v4,v5,v6,v7,v8,xs,xs1,xs2,())))
noncomputable def L_impl_reduce_1 (used:Int) (c:Int) (p:Int) (v:Int) (v1:Int) (v2:List Rt) (v3:List Int) (v4:List Rt) (v5:Int) (v6:Int) (v7:Int) (v8:Int) (xs:List Rt) (xs1:List Int) (xs2:List Rt):Option (Int × Int × Int × Int × Int × (List Rt) × (List Int) × (List Rt) × Int × Int × Int × Int × (List Rt) × (List Int) × (List Rt) × Unit):=whileO S_impl_reduce_1 (used,c,p,v,v1,v2,v3,v4,v5,v6,v7,v8,xs,xs1,xs2,())
noncomputable def S_impl_reduce_0:Int × Int × Int × Int × (List Rt) × (List Int) × (List Rt) × Int × Int × Int × Int × (List Rt) × (List Int) × (List Rt) × Unit→Option ((Int × Int × Int × Int × (List Rt) × (List Int) × (List Rt) × Int × Int × Int × Int × (List Rt) × (List Int) × (List Rt) × Unit) ⊕ ((Bool × Int × Int × (List Rt) × (List Int) × (List Rt) × Unit) ⊕ (Int × Int × (List Rt) × (List Int) × (List Rt) × Int × Int × (List Rt) × (List Int) × (List Rt) × Unit))):=fun (used,c,v,v1,v2,v3,v4,v5,v6,v7,v8,xs,xs1,xs2,_) =>
  cond (decide (c < v8))
    (cond (decide (used < v7))
      ((L_impl_reduce_1 used c used v v1 v2 v3 v4 v5 v6 v7 v8 xs xs1 xs2).bind fun (used1,c1,p,v9,v10,v11,v12,v13,v14,v15,v16,v17,xs3,xs4,xs5,_) =>
      cond (p == v16)
        (some (.inl (used1,IntKind.i64.wrap (c1+1),v9,v10,v11,v12,v13,v14,v15,v16,v17,xs3,xs4,xs5,())))
        (cond (p != used1)
          ((M_impl_whole (-1)).bind fun r =>
          (guardO (Nat.ble (xs5.length+1) maxNew)).bind fun _ =>
          (M_impl_Matrix_row_md (⟨v16,v17,xs3⟩:Mx) p).bind fun (r0,x0) =>
          (M_impl_Matrix_row_md (⟨v16,v17,x0⟩:Mx) used1).bind fun (r0_1,x0_1) =>
          (L_impl_reduce_2 used1 c1 r0.1 r0.2 r0_1.1 r0_1.2 (r0.2:Int) 0 v9 v10 v11 v12 v13 v14 v15 v16 v17 x0_1 (xs5++([r]:List Rt)) xs4).bind fun (used2,c2,v18,v19,v20,v21,v22,v23,v24,v25,v26,xs6,xs7,xs8,_) =>
          (M_impl_Matrix_row_md (⟨v25,v26,xs6⟩:Mx) used2).bind fun (r0_2,x0_2) =>
          (idx (cut x0_2 r0_2.1 (r0_2.1+r0_2.2)) c2).bind fun _ =>
          (x0_2[r0_2.1+c2.toNat]?).bind fun e =>
          (guardO (Nat.ble (xs7.length+1) maxNew)).bind fun _ =>
          (L_impl_reduce_3 used2 c2 r0_2.1 r0_2.2 (r0_2.2:Int) 0 v18 v19 v20 v21 v22 v23 v24 v25 v26 e.neg e.mag e.den x0_2 (xs7++([e]:List Rt)) xs8).bind fun (used3,c3,lo,len,v27,v28,v29,v30,v31,v32,v33,v34,v35,xs9,xs10,xs11,_) =>
          (M_impl_complete (cut xs9 lo (lo+len))).bind fun r1 =>
          cond (!r1)
            (some (.inr (.inl (false,0,0,([]:List Rt),([]:List Int),([]:List Rt),()))))
            ((L_impl_reduce_4 used3 c3 lo len v34 0 v27 v28 v29 v30 v31 v32 v33 v34 v35 xs9 xs10 xs11).bind fun r2 =>
            match r2 with
            | .inl (t,v36,v37,v38,v39,v40,_) =>
              some (.inr (.inl (t,v36,v37,v38,v39,v40,())))
            | .inr (used4,c4,v41,v42,v43,v44,v45,v46,v47,v48,v49,xs12,xs13,xs14,_) =>
              (guardO (Nat.ble (xs14.length+1) maxNew)).bind fun _ =>
              some (.inl (IntKind.i64.wrap (used4+1),IntKind.i64.wrap (c4+1),v41,v42,v43,v44,v45,v46,v47,v48,v49,xs12,xs14++([c4]:List Int),xs13,()))))
          ((M_impl_Matrix_row_md (⟨v16,v17,xs3⟩:Mx) used1).bind fun (r0,x0) =>
          (idx (cut x0 r0.1 (r0.1+r0.2)) c1).bind fun _ =>
          (x0[r0.1+c1.toNat]?).bind fun e =>
          (guardO (Nat.ble (xs5.length+1) maxNew)).bind fun _ =>
          (L_impl_reduce_3 used1 c1 r0.1 r0.2 (r0.2:Int) 0 v9 v10 v11 v12 v13 v14 v15 v16 v17 e.neg e.mag e.den x0 (xs5++([e]:List Rt)) xs4).bind fun (used2,c2,lo,len,v18,v19,v20,v21,v22,v23,v24,v25,v26,xs6,xs7,xs8,_) =>
          (M_impl_complete (cut xs6 lo (lo+len))).bind fun r =>
          cond (!r)
            (some (.inr (.inl (false,0,0,([]:List Rt),([]:List Int),([]:List Rt),()))))
            ((L_impl_reduce_4 used2 c2 lo len v25 0 v18 v19 v20 v21 v22 v23 v24 v25 v26 xs6 xs7 xs8).bind fun r1 =>
            match r1 with
            | .inl (t,v27,v28,v29,v30,v31,_) =>
              some (.inr (.inl (t,v27,v28,v29,v30,v31,())))
            | .inr (used3,c3,v32,v33,v34,v35,v36,v37,v38,v39,v40,xs9,xs10,xs11,_) =>
              (guardO (Nat.ble (xs11.length+1) maxNew)).bind fun _ =>
              some (.inl (IntKind.i64.wrap (used3+1),IntKind.i64.wrap (c3+1),v32,v33,v34,v35,v36,v37,v38,v39,v40,xs9,xs11++([c3]:List Int),xs10,()))))))
      (some (.inr (.inr (v,v1,v2,v3,v4,v5,v6,xs,xs1,xs2,())))))
    (some (.inr (.inr (v,v1,v2,v3,v4,v5,v6,xs,xs1,xs2,()))))
noncomputable def L_impl_reduce_0 (used:Int) (c:Int) (v:Int) (v1:Int) (v2:List Rt) (v3:List Int) (v4:List Rt) (v5:Int) (v6:Int) (v7:Int) (v8:Int) (xs:List Rt) (xs1:List Int) (xs2:List Rt):Option ((Bool × Int × Int × (List Rt) × (List Int) × (List Rt) × Unit) ⊕ (Int × Int × (List Rt) × (List Int) × (List Rt) × Int × Int × (List Rt) × (List Int) × (List Rt) × Unit)):=whileO S_impl_reduce_0 (used,c,v,v1,v2,v3,v4,v5,v6,v7,v8,xs,xs1,xs2,())
noncomputable def M_impl_reduce (m:Mx):Option (Rdn × Bool) :=
  (M_impl_copyVector m.cells).bind fun r =>
  (L_impl_reduce_0 0 0 0 0 ([]:List Rt) ([]:List Int) ([]:List Rt) m.rows m.cols m.rows m.cols r ([]:List Int) ([]:List Rt)).bind fun r1 =>
  match r1 with
  | .inl (t,v,v1,v2,v3,v4,_) =>
    some ((⟨v,v1,v2,v3,v4⟩:Rdn),t)
  | .inr (_,_,_,_,_,v10,v11,xs,xs1,xs2,_) =>
    some ((⟨v10,v11,xs,xs1,xs2⟩:Rdn),true)
noncomputable def M_impl_Reduce (m:Mx):Option (Mx × List Int × Bool) :=
  (M_impl_MatrixOk m).bind fun r =>
  cond (!r)
    (some ((⟨0,0,([]:List Rt)⟩:Mx),([]:List Int),false))
    ((M_impl_reduce m).bind fun (r0,r1) =>
    cond (!r1)
      (some ((⟨0,0,([]:List Rt)⟩:Mx),([]:List Int),false))
      (some ((⟨r0.rows,r0.cols,r0.cells⟩:Mx),r0.pivots,true)))
noncomputable def S_spec_l07Clear_mdd_1:Int × Int × Int × Int × (List Rt) × Int × Int × Bool × (List Int) × (List Int) × Unit→Option ((Int × Int × Int × Int × (List Rt) × Int × Int × Bool × (List Int) × (List Int) × Unit) ⊕ (Int × Int × Int × (List Rt) × Int × Int × Unit)):=fun (n,k,i,j,m_cells,v,v1,v2,v3,v4,_) =>
  cond (decide (j < v1))
    ((M_spec_l06At_mdd (⟨v,v1,m_cells⟩:Mx) n j).bind fun (r0,x0) =>
    (M_spec_l05Nil r0).bind fun r =>
    cond (!r)
      ((M_spec_l06At_mdd (⟨v,v1,x0⟩:Mx) i j).bind fun (r0_1,x0_1) =>
      (M_spec_l06At_mdd (⟨v,v1,x0_1⟩:Mx) n j).bind fun (r0_2,x0_2) =>
      (M_spec_l04Mul (⟨v2,v3,v4⟩:Rt) r0_2).bind fun r1 =>
      (M_spec_l05Sub r0_1 r1).bind fun r2 =>
      (idx x0_2 (IntKind.i64.wrap ((IntKind.i64.wrap (i * v1))+j))).bind fun _ =>
      some (.inl (n,k,i,IntKind.i64.wrap (j+1),x0_2.set ((IntKind.i64.wrap ((IntKind.i64.wrap (i * v1))+j)).toNat) r2,v,v1,v2,v3,v4,())))
      (some (.inl (n,k,i,IntKind.i64.wrap (j+1),x0,v,v1,v2,v3,v4,()))))
    (some (.inr (n,k,i,m_cells,v,v1,())))
noncomputable def L_spec_l07Clear_mdd_1 (n:Int) (k:Int) (i:Int) (j:Int) (m_cells:List Rt) (v:Int) (v1:Int) (v2:Bool) (v3:List Int) (v4:List Int):Option (Int × Int × Int × (List Rt) × Int × Int × Unit):=whileO S_spec_l07Clear_mdd_1 (n,k,i,j,m_cells,v,v1,v2,v3,v4,())
noncomputable def S_spec_l07Clear_mdd_0:Int × Int × Int × (List Rt) × Int × Int × Unit→Option ((Int × Int × Int × (List Rt) × Int × Int × Unit) ⊕ ((List Rt) × Unit)):=fun (n,k,i,m_cells,v,v1,_) =>
  cond (decide (i < v))
    ((M_spec_l06At_mdd (⟨v,v1,m_cells⟩:Mx) i k).bind fun (r0,x0) =>
    cond (i==n)
      (some (.inl (n,k,IntKind.i64.wrap (i+1),x0,v,v1,())))
      ((M_spec_l05Nil r0).bind fun r =>
      cond r
        (some (.inl (n,k,IntKind.i64.wrap (i+1),x0,v,v1,())))
        ((L_spec_l07Clear_mdd_1 n k i k x0 v v1 r0.neg r0.mag r0.den).bind fun (n1,k1,i1,m_cells1,v2,v3,_) =>
        some (.inl (n1,k1,IntKind.i64.wrap (i1+1),m_cells1,v2,v3,())))))
    (some (.inr (m_cells,())))
noncomputable def L_spec_l07Clear_mdd_0 (n:Int) (k:Int) (i:Int) (m_cells:List Rt) (v:Int) (v1:Int):Option ((List Rt) × Unit):=whileO S_spec_l07Clear_mdd_0 (n,k,i,m_cells,v,v1,())
noncomputable def M_spec_l07Clear_mdd (m:Mx) (n:Int) (k:Int):Option (List Rt) :=
  (L_spec_l07Clear_mdd_0 n k 0 m.cells m.rows m.cols).bind fun (m_cells,_) =>
  some m_cells
noncomputable def S_spec_l07Reduce_m_3:Int × Int × Int × Int × Int × (List Rt) × Bool × (List Int) × (List Int) × (List Rt) × (List Int) × Unit→Option ((Int × Int × Int × Int × Int × (List Rt) × Bool × (List Int) × (List Int) × (List Rt) × (List Int) × Unit) ⊕ (Int × Int × Int × Int × (List Rt) × (List Rt) × (List Int) × Unit)):=fun (k,n,j,v,v1,m_cells,v2,v3,v4,factors,pivots,_) =>
  cond (decide (j < v1))
    ((M_spec_l06At_mdd (⟨v,v1,m_cells⟩:Mx) n j).bind fun (r0,x0) =>
    (M_spec_l05Div r0 (⟨v2,v3,v4⟩:Rt)).bind fun r =>
    (idx x0 (IntKind.i64.wrap ((IntKind.i64.wrap (n * v1))+j))).bind fun _ =>
    some (.inl (k,n,IntKind.i64.wrap (j+1),v,v1,x0.set ((IntKind.i64.wrap ((IntKind.i64.wrap (n * v1))+j)).toNat) r,v2,v3,v4,factors,pivots,())))
    (some (.inr (k,n,v,v1,m_cells,factors,pivots,())))
noncomputable def L_spec_l07Reduce_m_3 (k:Int) (n:Int) (j:Int) (v:Int) (v1:Int) (m_cells:List Rt) (v2:Bool) (v3:List Int) (v4:List Int) (factors:List Rt) (pivots:List Int):Option (Int × Int × Int × Int × (List Rt) × (List Rt) × (List Int) × Unit):=whileO S_spec_l07Reduce_m_3 (k,n,j,v,v1,m_cells,v2,v3,v4,factors,pivots,())
noncomputable def S_spec_l07Reduce_m_2:Int × Int × Int × Int × Int × Int × (List Rt) × (List Rt) × (List Int) × Unit→Option ((Int × Int × Int × Int × Int × Int × (List Rt) × (List Rt) × (List Int) × Unit) ⊕ (Int × Int × Int × Int × (List Rt) × (List Rt) × (List Int) × Unit)):=fun (k,n,i,j,v,v1,m_cells,factors,pivots,_) =>
  cond (decide (j < v1))
    ((idx m_cells (IntKind.i64.wrap ((IntKind.i64.wrap (i * v1))+j))).bind fun _ =>
    (m_cells[(IntKind.i64.wrap ((IntKind.i64.wrap (i * v1))+j)).toNat]?).bind fun e =>
    (idx m_cells (IntKind.i64.wrap ((IntKind.i64.wrap (n * v1))+j))).bind fun _ =>
    (m_cells[(IntKind.i64.wrap ((IntKind.i64.wrap (n * v1))+j)).toNat]?).bind fun e1 =>
    (idx m_cells (IntKind.i64.wrap ((IntKind.i64.wrap (i * v1))+j))).bind fun _ =>
    (idx (m_cells.set ((IntKind.i64.wrap ((IntKind.i64.wrap (i * v1))+j)).toNat) e1) (IntKind.i64.wrap ((IntKind.i64.wrap (n * v1))+j))).bind fun _ =>
    some (.inl (k,n,i,IntKind.i64.wrap (j+1),v,v1,(m_cells.set ((IntKind.i64.wrap ((IntKind.i64.wrap (i * v1))+j)).toNat) e1).set ((IntKind.i64.wrap ((IntKind.i64.wrap (n * v1))+j)).toNat) e,factors,pivots,())))
    (some (.inr (k,n,v,v1,m_cells,factors,pivots,())))
noncomputable def L_spec_l07Reduce_m_2 (k:Int) (n:Int) (i:Int) (j:Int) (v:Int) (v1:Int) (m_cells:List Rt) (factors:List Rt) (pivots:List Int):Option (Int × Int × Int × Int × (List Rt) × (List Rt) × (List Int) × Unit):=whileO S_spec_l07Reduce_m_2 (k,n,i,j,v,v1,m_cells,factors,pivots,())
noncomputable def S_spec_l07Reduce_m_1:Int × Int × Int × Int × Int × (List Rt) × (List Int) × (List Rt) × Unit→Option ((Int × Int × Int × Int × Int × (List Rt) × (List Int) × (List Rt) × Unit) ⊕ (Int × Int × Int × Int × Int × (List Rt) × (List Int) × (List Rt) × Unit)):=fun (k,n,i,v,v1,m_cells,pivots,factors,_) =>
  cond (decide (i < v))
    ((M_spec_l06At_mdd (⟨v,v1,m_cells⟩:Mx) i k).bind fun (r0,x0) =>
    (M_spec_l05Nil r0).bind fun r =>
    cond r
      (some (.inl (k,n,IntKind.i64.wrap (i+1),v,v1,x0,pivots,factors,())))
      (some (.inr (k,n,i,v,v1,x0,pivots,factors,()))))
    (some (.inr (k,n,i,v,v1,m_cells,pivots,factors,())))
noncomputable def L_spec_l07Reduce_m_1 (k:Int) (n:Int) (i:Int) (v:Int) (v1:Int) (m_cells:List Rt) (pivots:List Int) (factors:List Rt):Option (Int × Int × Int × Int × Int × (List Rt) × (List Int) × (List Rt) × Unit):=whileO S_spec_l07Reduce_m_1 (k,n,i,v,v1,m_cells,pivots,factors,())
noncomputable def S_spec_l07Reduce_m_0:Int × Int × Int × (List Rt) × (List Int) × (List Rt) × Unit→Option ((Int × Int × Int × (List Rt) × (List Int) × (List Rt) × Unit) ⊕ (((List Rt) × (List Int) × (List Rt) × Unit) ⊕ ((List Rt) × (List Int) × (List Rt) × Unit))):=fun (k,v,v1,m_cells,pivots,factors,_) =>
  cond (decide (k < v1))
    (cond (decide ((pivots.length:Int) < v))
      ((L_spec_l07Reduce_m_1 k (pivots.length:Int) (pivots.length:Int) v v1 m_cells pivots factors).bind fun (k1,n,i,v2,v3,m_cells1,pivots1,factors1,_) =>
      cond (i==v2)
        (some (.inl (IntKind.i64.wrap (k1+1),v2,v3,m_cells1,pivots1,factors1,())))
        (cond (i != n)
          ((M_spec_RatFromInt (-1)).bind fun r =>
          (guardO (Nat.ble (factors1.length+1) maxNew)).bind fun _ =>
          (L_spec_l07Reduce_m_2 k1 n i 0 v2 v3 m_cells1 (factors1++([r]:List Rt)) pivots1).bind fun (k2,n1,v4,v5,m_cells2,factors2,pivots2,_) =>
          (M_spec_l06At_mdd (⟨v4,v5,m_cells2⟩:Mx) n1 k2).bind fun (r0,x0) =>
          (guardO (Nat.ble (factors2.length+1) maxNew)).bind fun _ =>
          (L_spec_l07Reduce_m_3 k2 n1 k2 v4 v5 x0 r0.neg r0.mag r0.den (factors2++([r0]:List Rt)) pivots2).bind fun (k3,n2,v6,v7,m_cells3,factors3,pivots3,_) =>
          (M_spec_l07Clear_mdd (⟨v6,v7,m_cells3⟩:Mx) n2 k3).bind fun x0_1 =>
          (guardO (Nat.ble (pivots3.length+1) maxNew)).bind fun _ =>
          (M_spec_l05Fine x0_1).bind fun r1 =>
          cond (!r1)
            (some (.inr (.inl (x0_1,pivots3++([k3]:List Int),factors3,()))))
            (some (.inl (IntKind.i64.wrap (k3+1),v6,v7,x0_1,pivots3++([k3]:List Int),factors3,()))))
          ((M_spec_l06At_mdd (⟨v2,v3,m_cells1⟩:Mx) n k1).bind fun (r0,x0) =>
          (guardO (Nat.ble (factors1.length+1) maxNew)).bind fun _ =>
          (L_spec_l07Reduce_m_3 k1 n k1 v2 v3 x0 r0.neg r0.mag r0.den (factors1++([r0]:List Rt)) pivots1).bind fun (k2,n1,v4,v5,m_cells2,factors2,pivots2,_) =>
          (M_spec_l07Clear_mdd (⟨v4,v5,m_cells2⟩:Mx) n1 k2).bind fun x0_1 =>
          (guardO (Nat.ble (pivots2.length+1) maxNew)).bind fun _ =>
          (M_spec_l05Fine x0_1).bind fun r =>
          cond (!r)
            (some (.inr (.inl (x0_1,pivots2++([k2]:List Int),factors2,()))))
            (some (.inl (IntKind.i64.wrap (k2+1),v4,v5,x0_1,pivots2++([k2]:List Int),factors2,()))))))
      (some (.inr (.inr (m_cells,pivots,factors,())))))
    (some (.inr (.inr (m_cells,pivots,factors,()))))
noncomputable def L_spec_l07Reduce_m_0 (k:Int) (v:Int) (v1:Int) (m_cells:List Rt) (pivots:List Int) (factors:List Rt):Option (((List Rt) × (List Int) × (List Rt) × Unit) ⊕ ((List Rt) × (List Int) × (List Rt) × Unit)):=whileO S_spec_l07Reduce_m_0 (k,v,v1,m_cells,pivots,factors,())
noncomputable def M_spec_l07Reduce_m (m:Mx):Option (List Int × List Rt × List Rt) :=
  (L_spec_l07Reduce_m_0 0 m.rows m.cols m.cells ([]:List Int) ([]:List Rt)).bind fun r =>
  match r with
  | .inl (m_cells,t,t1,_) =>
    some (t,t1,m_cells)
  | .inr (m_cells1,pivots,factors,_) =>
    some (pivots,factors,m_cells1)
noncomputable def M_spec_Reduce (m:Mx):Option (Mx × List Int × Bool) :=
  (M_spec_MatrixOk m).bind fun r =>
  cond (!r)
    (some ((⟨0,0,([]:List Rt)⟩:Mx),([]:List Int),false))
    ((M_spec_l06Copy m).bind fun r1 =>
    (M_spec_l07Reduce_m r1).bind fun (r0,_,x0) =>
    (M_spec_l05Fine x0).bind fun r2 =>
    cond (!r2)
      (some ((⟨0,0,([]:List Rt)⟩:Mx),([]:List Int),false))
      (some ((⟨r1.rows,r1.cols,x0⟩:Mx),r0,true)))
end Go.Di
namespace Go.Di
end Go.Di
namespace Go.Di
end Go.Di
namespace Go.Di
end Go.Di
namespace Go.Di
end Go.Di
namespace Go.Di
theorem whileO_run {σ ρ:Type} (f:σ→Option (σ ⊕ ρ)) (st:Nat→σ) (n:Nat) (h:∀ i,i < n→f (st i)=some (.inl (st (i+1)))):whileO f (st 0)=whileO f (st n):=by
  induction n with
  | zero=>rfl
  | succ n ih =>
    rw[ih fun i hi=>h i (Nat.lt_succ_of_lt hi)]
    exact whileO_inl (h n (Nat.lt_succ_self n))
theorem whileO_upto {σ ρ:Type} (f:σ→Option (σ ⊕ ρ)) (st:Nat→σ) (n:Nat) (r:ρ) (h:∀ i,i < n→f (st i)=some (.inl (st (i+1)))) (he:f (st n)=some (.inr r)):whileO f (st 0)=some r:=by
  rw[whileO_run f st n h]; exact whileO_inr he
theorem wrap_i64 {n:Int} (h1 : -9223372036854775808≤n) (h2:n≤9223372036854775807):IntKind.i64.wrap n=n:=by
  simp only[IntKind.wrap,IntKind.bits,IntKind.signed]
  simp
  omega
theorem idx_nat {α:Type} (xs:List α) (i:Nat):idx xs (i:Int)=xs[i]? := by simp[idx]
theorem idx_at {α:Type} {xs:List α} {i:Nat} (h:i < xs.length):idx xs (i:Int)=some xs[i]:=by simp[idx,h]
@[simp] theorem guardO_true:guardO true=some ():=rfl
noncomputable def eqB {α:Type} (a b:α):Bool:=@decide (a=b) (Classical.propDecidable _)
theorem eqB_iff {α:Type} {a b:α}:eqB a b=true↔a=b:=by unfold eqB; exact @decide_eq_true_iff _ (Classical.propDecidable _)
@[simp] theorem eqB_self {α:Type} (a:α):eqB a a=true:=eqB_iff.2 rfl
theorem eqB_false {α:Type} {a b:α}:eqB a b=false↔a≠b:=by rw[← Bool.not_eq_true,eqB_iff]
theorem strEq_eq (a b:ByteArray):strEq a b=eqB a b:=by
  rw[Bool.eq_iff_iff,eqB_iff]
  unfold strEq
  rw[beq_iff_eq,Go.ByteArray.toList_eq,Go.ByteArray.toList_eq]
  constructor
  · intro h
    cases a with | mk a=>cases b with | mk b =>
    congr 1; exact Array.ext' h
  · rintro rfl; rfl
@[simp] theorem strEq_self (a:ByteArray):strEq a a=true:=by rw[strEq_eq]; exact eqB_self a
end Go.Di
namespace Go.Di
theorem copy_loop {α:Type} {S:(List α × Int × List α × Unit)→Option ((List α × Int × List α × Unit) ⊕ (List α × Unit))} {a:List α} {z:α}
    (hS:∀ (i:Nat) (out:List α) (h:i < a.length),out.length=a.length→S (a,(i:Int),out,())=some (.inl (a,((i+1:Nat):Int),out.set i a[i],())))
    (hE:∀ out,S (a,(a.length:Int),out,())=some (.inr (out,()))):whileO S (a,0,List.replicate a.length z,())=some (a,()):=by
  have h:=whileO_upto S (fun i=>(a,(i:Int),a.take i++List.replicate (a.length - i) z,())) a.length (a,()) (fun i hi=>?_) (by rw[hE]; simp)
  · simpa using h
  · rw [hS i _ hi (by simp; omega)]
    congr 5
    apply List.ext_getElem?
    intro j
    have hl:(a.take i).length=i:=by simp; omega
    by_cases hj:j=i
    · subst hj
      rw[List.getElem?_set_self (by simp; omega),List.getElem?_append_left (by simp; omega)]
      simp[hi]
    · rw [List.getElem?_set_ne (by omega)]
      by_cases hlt:j < i
      · rw[List.getElem?_append_left (by omega),List.getElem?_append_left (by simp; omega),List.getElem?_take_of_lt hlt,List.getElem?_take_of_lt (by omega)]
      · have hl2:(a.take (i+1)).length=i+1:=by simp; omega
        rw[List.getElem?_append_right (by omega),List.getElem?_append_right (by omega),hl,hl2]
        simp only[List.getElem?_replicate]
        congr 1
        simp; omega
theorem eq_loop {α:Type} {S:(List α × List α × Int × Unit)→Option ((List α × List α × Int × Unit) ⊕ ((Bool × Unit) ⊕ Unit))} {a b:List α} (hl:a.length=b.length)
    (hS:∀ (i:Nat) (h:i < a.length),S (a,b,(i:Int),())=some (cond (eqB a[i] (b[i]'(by omega))) (.inl (a,b,((i+1:Nat):Int),())) (.inr (.inl (false,())))))
    (hE:S (a,b,(a.length:Int),())=some (.inr (.inr ()))):whileO S (a,b,0,())=some (cond (eqB a b) (.inr ()) (.inl (false,()))):=by
  have key : ∀ (m i:Nat),i+m=a.length→a.take i=b.take i→whileO S (a,b,(i:Int),())=some (cond (eqB a b) (.inr ()) (.inl (false,()))):=by
    intro m
    induction m with
    | zero =>
      intro i him ht
      have:a=b:=by
        have h1:a.take i=a:=List.take_of_length_le (by omega)
        have h2:b.take i=b:=List.take_of_length_le (by omega)
        rw[← h1,← h2,ht]
      subst this
      have hi:i=a.length:=by omega
      subst hi
      rw[whileO_inr hE]; simp
    | succ m ih =>
      intro i him ht
      have hi:i < a.length:=by omega
      cases he:eqB a[i] (b[i]'(by omega)) with
      | true =>
        rw[whileO_inl (by rw[hS i hi,he]; rfl)]
        refine ih (i+1) (by omega) ?_
        rw[List.take_succ_eq_append_getElem hi,List.take_succ_eq_append_getElem (by omega),ht,eqB_iff.1 he]
      | false =>
        rw[whileO_inr (by rw[hS i hi,he]; rfl)]
        have hne:eqB a b=false:=by
          rw[eqB_false]; rintro rfl; rw[eqB_self] at he; cases he
        rw[hne]; rfl
  exact key a.length 0 (by omega) (by simp)
theorem sz_loop {α:Type} {S:(List α × Int × Int × Unit)→Option ((List α × Int × Int × Unit) ⊕ ((Int × Unit) ⊕ (Int × Unit)))} {a:List α} {size:α→Nat}
    (hS:∀ (i:Nat) (left:Int) (h:i < a.length),0≤left→left≤1048576→S (a,left,(i:Int),())=some (.inr (.inl (-1,())))∨∃ r:Int,0≤r∧r+size a[i]=left∧S (a,left,(i:Int),())=some (.inl (a,r,((i+1:Nat):Int),())))
    (hE:∀ left,S (a,left,(a.length:Int),())=some (.inr (.inr (left,())))) (left:Int) (h0:0≤left) (h1:left≤1048576) :
    whileO S (a,left,0,())=some (.inl (-1,()))∨∃ r:Int,0≤r∧r+(a.map size).sum=left∧whileO S (a,left,0,())=some (.inr (r,())):=by
  have key : ∀ (m i:Nat) (left:Int),i+m=a.length→0≤left→left≤1048576→whileO S (a,left,(i:Int),())=some (.inl (-1,()))∨∃ r:Int,0≤r∧r+((a.drop i).map size).sum=left∧whileO S (a,left,(i:Int),())=some (.inr (r,())):=by
    intro m
    induction m with
    | zero =>
      intro i left him h0 h1
      have hi:i=a.length:=by omega
      subst hi
      exact .inr ⟨left,h0,by simp,whileO_inr (hE left)⟩
    | succ m ih =>
      intro i left him h0 h1
      have hi:i < a.length:=by omega
      rcases hS i left hi h0 h1 with h | ⟨r,q1,q2,q3⟩
      · exact .inl (whileO_inr h)
      · rw [whileO_inl q3]
        rcases ih (i+1) r (by omega) q1 (by omega) with h | ⟨r',k1,k2,k3⟩
        · exact .inl h
        · refine .inr ⟨r',k1,?_,k3⟩
          rw[List.drop_eq_getElem_cons hi,List.map_cons,List.sum_cons]
          omega
  have:=key a.length 0 left (by omega) h0 h1
  simpa using this
end Go.Di
namespace Go.Di
def SzR (x:Option Int) (left:Int) (n:Nat):Prop:=x=some (-1)∨∃ r:Int,0≤r∧r+n=left∧x=some r
theorem SzR.bind {x:Option Int} {left:Int} {n m:Nat} {k:Int→Option Int} (h:SzR x left n) (hk:∀ r:Int,0≤r→r+n=left→SzR (k r) r m) :
    SzR (x.bind fun r=>cond (decide (r < 0)) (some (-1)) (k r)) left (n+m):=by
  rcases h with rfl | ⟨r,h0,h1,rfl⟩
  · exact .inl rfl
  · have:decide (r < 0)=false:=by simpa using h0
    simp only[Option.bind_some,this,cond_false]
    rcases hk r h0 h1 with h | ⟨r',k0,k1,h⟩
    · exact .inl h
    · exact .inr ⟨r',k0,by omega,h⟩
theorem SzR.ret {left:Int} (h:0≤left):SzR (some left) left 0 := .inr ⟨left,h,by omega,rfl⟩
theorem SzR.last {x:Option Int} {left:Int} {n:Nat} (h:SzR x left n):SzR (x.bind fun r=>cond (decide (r < 0)) (some (-1)) (some r)) left n :=
  SzR.bind (m:=0) h fun _r h0 _=>SzR.ret h0
theorem sub_len {left:Int} {n:Nat} (h0:0≤left) (h1:left≤1048576) (hn:n≤maxLen):IntKind.i64.wrap (left - (n:Int))=left - n:=by
  unfold maxLen at hn
  exact wrap_i64 (by omega) (by omega)
theorem sz_ints {a:List Int} (ha:a.length≤maxLen) {left:Int} (h0:0≤left) (h1:left≤1048576):SzR (M_laws_szIntS a left) left a.length:=by
  unfold M_laws_szIntS
  rw[sub_len h0 h1 ha]
  by_cases h:left - (a.length:Int) < 0
  · rw[decide_eq_true h]; exact .inl rfl
  · rw[decide_eq_false h]; exact .inr ⟨_,by omega,by omega,rfl⟩
def Rt.sz (r:Rt):Nat:=r.mag.length+r.den.length
def Obs.sz (o:Obs):Nat:=o.value.sz+o.variance.sz
def Sta.sz (s:Sta):Nat:=s.name.size+(s.x.sz+s.y.sz)
theorem sz_rat {r:Rt} (hr:r.wf) {left:Int} (h0:0≤left) (h1:left≤1048576):SzR (M_laws_szRat r left) left r.sz:=by
  unfold M_laws_szRat M_laws_szBigInt
  exact SzR.bind (SzR.last (sz_ints hr.1.1 h0 h1)) fun r' q0 q1=>SzR.last (sz_ints hr.2.1 q0 (by omega))
def lsz {α:Type} (f:α→Nat) (l:List α):Nat:=l.length+(l.map f).sum
theorem sz_list {α:Type} {S:(List α × Int × Int × Unit)→Option ((List α × Int × Int × Unit) ⊕ ((Int × Unit) ⊕ (Int × Unit)))} {f:α→Int→Option Int} {size:α→Nat} {l:List α} (hlen:l.length≤maxLen)
    (hel:∀ x∈l,∀ left:Int,0≤left→left≤1048576→SzR (f x left) left (size x))
    (hS:S=fun (a,left,i,_)=>cond (decide (i < (a.length:Int))) ((idx a i).bind fun e=>(f e left).bind fun r=>cond (decide (r < 0)) (some (.inr (.inl ((-1),())))) (some (.inl (a,r,IntKind.i64.wrap (i+1),())))) (some (.inr (.inr (left,())))))
    {left:Int} (h0:0≤left) (h1:left≤1048576) :
    SzR (cond (decide ((IntKind.i64.wrap (left - (l.length:Int))) < 0)) (some (-1)) ((whileO S (l,IntKind.i64.wrap (left - (l.length:Int)),0,())).bind fun r=>match r with
      | .inl (t,_)=>some t
      | .inr (left1,_)=>some left1)) left (lsz size l):=by
  rw[sub_len h0 h1 hlen]
  by_cases h:left - (l.length:Int) < 0
  · rw[decide_eq_true h]; exact .inl rfl
  · rw [decide_eq_false h]
    simp only[cond_false]
    have key:=sz_loop (S:=S) (a:=l) (size:=size) (by
      intro i left hi q0 q1
      have hlt:decide ((i:Int) < (l.length:Int))=true:=by simpa using hi
      have hwr:IntKind.i64.wrap ((i:Int)+1)=((i+1:Nat):Int):=by unfold maxLen at hlen; rw[wrap_i64 (by omega) (by omega)]; simp
      subst hS
      simp only[hlt,cond_true,idx_at hi,Option.bind_some]
      rcases hel _ (List.getElem_mem hi) left q0 q1 with e | ⟨r,k0,k1,e⟩
      · rw[e]; exact .inl rfl
      · rw[e]
        have:decide (r < 0)=false:=by simpa using k0
        simp only[Option.bind_some,this,cond_false,hwr]
        exact .inr ⟨r,k0,k1,rfl⟩) (by intro left; subst hS; simp) (left - (l.length:Int)) (by omega) (by omega)
    rcases key with e | ⟨r,k0,k1,e⟩
    · rw[e]; exact .inl rfl
    · rw[e]; exact .inr ⟨r,k0,by unfold lsz; omega,rfl⟩
theorem sz_rats {l:List Rt} (hl:CK.wf (.sl .rat) l) {left:Int} (h0:0≤left) (h1:left≤1048576):SzR (M_laws_szRatS l left) left (lsz Rt.sz l) :=
  sz_list (S:=S_laws_szRatS_0) hl.1 (fun x hx _left q0 q1=>sz_rat (hl.2 x hx) q0 q1) rfl h0 h1
theorem sz_mx {m:Mx} (hm:CK.wf (.sl .rat) m.cells) {left:Int} (h0:0≤left) (h1:left≤1048576):SzR (M_laws_szMatrix m left) left (lsz Rt.sz m.cells):=by
  unfold M_laws_szMatrix
  exact SzR.last (sz_rats hm h0 h1)
/-! ### Copies -/
theorem guard_len {n:Nat} (h:n≤1048576):(((decide (0≤(n:Int))) && (decide ((n:Int)≤(n:Int)))) && (decide ((n:Int)≤(maxNew:Int))))=true:=by
  have:(n:Int)≤(maxNew:Int):=by unfold maxNew; omega
  simp[this]
theorem succ_wrap {i n:Nat} (h:i < n) (hn:n≤1048576):IntKind.i64.wrap ((i:Int)+1)=((i+1:Nat):Int):=by
  rw[wrap_i64 (by omega) (by omega)]; simp
theorem to_ints {a:List Int} (ha:a.length≤1048576):M_laws_toIntS a=some a:=by
  unfold M_laws_toIntS L_laws_toIntS_0
  rw[guard_len ha,guardO_true,Option.bind_some,Int.toNat_natCast,copy_loop (z:=(0:Int)) (fun i out hi ho=>?_) (fun out=>by simp[S_laws_toIntS_0])]
  · rfl
  · have hlt:decide ((i:Int) < (a.length:Int))=true:=by simpa using hi
    simp only[S_laws_toIntS_0,hlt,cond_true,idx_at hi,idx_at (show i < out.length by omega),Option.bind_some,succ_wrap hi ha,Int.toNat_natCast]
def Rt.fit (r:Rt):Prop:=r.mag.length≤1048576∧r.den.length≤1048576
theorem to_rat {r:Rt} (h:r.fit):M_laws_toRat r=some r:=by
  unfold M_laws_toRat M_laws_toBigInt
  rw[to_ints h.1,to_ints h.2]; rfl
def Obs.fit (o:Obs):Prop:=o.value.fit∧o.variance.fit
def Sta.fit (s:Sta):Prop:=s.x.fit∧s.y.fit
def lfit {α:Type} (f:α→Prop) (l:List α):Prop:=l.length≤1048576∧∀ x∈l,f x
theorem to_rats {l:List Rt} (h:lfit Rt.fit l):M_laws_toRatS l=some l:=by
  unfold M_laws_toRatS L_laws_toRatS_0
  rw[guard_len h.1,guardO_true,Option.bind_some,Int.toNat_natCast,copy_loop (fun i out hi ho=>?_) (fun out=>by simp[S_laws_toRatS_0])]
  · rfl
  · have hlt:decide ((i:Int) < (l.length:Int))=true:=by simpa using hi
    simp only[S_laws_toRatS_0,hlt,cond_true,idx_at hi,idx_at (show i < out.length by omega),Option.bind_some,succ_wrap hi h.1,Int.toNat_natCast,to_rat (h.2 _ (List.getElem_mem hi)),List.getElem?_eq_getElem (show i < out.length by omega)]
theorem to_mx {m:Mx} (h:lfit Rt.fit m.cells):M_laws_toMatrix m=some m:=by
  unfold M_laws_toMatrix
  rw[to_rats h]; rfl
/-! ### What is measured fits -/
theorem le_sum {α:Type} {f:α→Nat}:∀ {l:List α} {x:α},x∈l→f x≤(l.map f).sum
  | y :: l,x,h=>by
    rw[List.map_cons,List.sum_cons]
    rcases List.mem_cons.1 h with rfl | h
    · omega
    · have:=le_sum (f:=f) h; omega
theorem Rt.fit_of {r:Rt} (h:r.sz≤1048576):r.fit:=by unfold Rt.sz at h; exact ⟨by omega,by omega⟩
theorem Obs.fit_of {o:Obs} (h:o.sz≤1048576):o.fit:=by unfold Obs.sz at h; exact ⟨Rt.fit_of (by omega),Rt.fit_of (by omega)⟩
theorem Sta.fit_of {s:Sta} (h:s.sz≤1048576):s.fit:=by unfold Sta.sz at h; exact ⟨Rt.fit_of (by omega),Rt.fit_of (by omega)⟩
theorem lfit_of {α:Type} {f:α→Nat} {p:α→Prop} (hp:∀ x,f x≤1048576→p x) {l:List α} (h:lsz f l≤1048576):lfit p l:=by
  unfold lsz at h
  exact ⟨by omega,fun x hx=>hp x (by have:=le_sum (f:=f) hx; omega)⟩
/-! ### Comparisons -/
theorem i64_ne (a b:Nat):((a:Int) != (b:Int))=!(a==b):=by
  rw[Bool.eq_iff_iff]; simp; omega
theorem eq_list {α:Type} {S:(List α × List α × Int × Unit)→Option ((List α × List α × Int × Unit) ⊕ ((Bool × Unit) ⊕ Unit))} {f:α→α→Option Bool} {a b:List α} (hlen:a.length≤1048576)
    (hel:∀ x∈a,∀ y∈b,f x y=some (eqB x y))
    (hS:S=fun (a,b,i,_)=>cond (decide (i < (a.length:Int))) ((idx a i).bind fun e=>(idx b i).bind fun e1=>(f e e1).bind fun r=>cond (!r) (some (.inr (.inl (false,())))) (some (.inl (a,b,IntKind.i64.wrap (i+1),())))) (some (.inr (.inr ())))) :
    (cond ((a.length:Int) != (b.length:Int)) (some false) ((whileO S (a,b,0,())).bind fun r=>match r with
      | .inl (t,_)=>some t
      | .inr _=>some true))=some (eqB a b):=by
  rw[i64_ne]
  by_cases hl:a.length=b.length
  · rw [eq_loop (S:=S) hl (by
      intro i hi
      have hlt:decide ((i:Int) < (a.length:Int))=true:=by simpa using hi
      have hwr:=succ_wrap hi hlen
      subst hS
      simp only[hlt,cond_true,idx_at hi,idx_at (show i < b.length by omega),Option.bind_some,hel _ (List.getElem_mem hi) _ (List.getElem_mem (show i < b.length by omega)),hwr]
      cases eqB a[i] (b[i]'(by omega))<;>rfl) (by subst hS; simp)]
    have:(a.length==b.length)=true:=by simpa using hl
    rw[this]
    cases eqB a b<;>rfl
  · have:(a.length==b.length)=false:=by simpa using hl
    rw[this]
    have hne:eqB a b=false:=by rw[eqB_false]; rintro rfl; exact hl rfl
    rw[hne]; rfl
theorem eqB_mk {α β:Type} {a b:α} {c d:β} (h:a=b↔c=d):eqB a b=eqB c d:=by rw[Bool.eq_iff_iff,eqB_iff,eqB_iff]; exact h
theorem beq_int (a b:Int):(a==b)=eqB a b:=by rw[Bool.eq_iff_iff,eqB_iff]; simp
theorem bne_int (a b:Int):(a != b)=!eqB a b:=by rw[← beq_int]; rfl
theorem beq_bool (a b:Bool):(a==b)=eqB a b:=by rw[Bool.eq_iff_iff,eqB_iff]; simp
theorem eq_ints {a b:List Int} (ha:a.length≤1048576):M_laws_eqIntS a b=some (eqB a b):=by
  unfold M_laws_eqIntS L_laws_eqIntS_0
  exact eq_list (S:=S_laws_eqIntS_0) (f:=fun x y=>some (eqB x y)) ha (fun _ _ _ _=>rfl) (by
    funext ⟨a,b,i,u⟩
    simp only[S_laws_eqIntS_0,bne_int,Option.bind_some])
theorem chain {x:Option Bool} {a b:Bool} {k:Option Bool} (hx:x=some a) (hk:k=some b):(x.bind fun r=>cond (!r) (some false) k)=some (a && b):=by
  subst hx; subst hk; cases a<;>rfl
theorem chain1 {x:Option Bool} {a:Bool} (hx:x=some a):(x.bind fun r=>cond (!r) (some false) (some true))=some a:=by
  subst hx; cases a<;>rfl
theorem chain0 {a b:Bool} {k:Option Bool} (hk:k=some b):cond (!a) (some false) k=some (a && b):=by
  subst hk; cases a<;>rfl
theorem eq_rat {r s:Rt} (h:r.fit):M_laws_eqRat r s=some (eqB r s):=by
  unfold M_laws_eqRat M_laws_eqBigInt
  rw[chain (chain0 (chain1 (eq_ints h.1))) (chain1 (eq_ints h.2)),beq_bool]
  congr 1
  rw[Bool.eq_iff_iff,eqB_iff]
  simp only[Bool.and_eq_true,eqB_iff]
  cases r; cases s; simp[and_assoc]
theorem eq_rats {a b:List Rt} (h:lfit Rt.fit a):M_laws_eqRatS a b=some (eqB a b) :=
  eq_list (S:=S_laws_eqRatS_0) h.1 (fun x hx _y _=>eq_rat (h.2 x hx)) rfl
theorem eq_mx {a b:Mx} (h:lfit Rt.fit a.cells):M_laws_eqMatrix a b=some (eqB a b):=by
  unfold M_laws_eqMatrix
  simp only[bne_int]
  rw[chain0 (chain0 (chain1 (eq_rats h)))]
  congr 1
  rw[Bool.eq_iff_iff,eqB_iff]
  simp only[Bool.and_eq_true,eqB_iff]
  cases a; cases b; simp
end Go.Di
namespace Go.Di
theorem find_loop {σ ρ:Type} {S:σ→Option (σ ⊕ ρ)} (st:Nat→σ) (n:Nat) (r:Nat→Option ρ) (e:ρ)
    (hS:∀ i,i < n→S (st i)=some (match r i with | some y => .inr y | none => .inl (st (i+1)))) (hE:S (st n)=some (.inr e)) :
    whileO S (st 0)=some (((List.range n).findSome? r).getD e):=by
  have key : ∀ (m i:Nat),i+m=n→(∀ j,j < i→r j=none)→whileO S (st i)=some (((List.range n).findSome? r).getD e):=by
    intro m
    induction m with
    | zero =>
      intro i him hn
      have:i=n:=by omega
      subst this
      rw[whileO_inr hE]
      have:(List.range i).findSome? r=none:=by
        rw[List.findSome?_eq_none_iff]
        intro j hj; exact hn j (List.mem_range.1 hj)
      rw[this]; rfl
    | succ m ih =>
      intro i him hn
      have hi:i < n:=by omega
      cases hr:r i with
      | some y =>
        rw[whileO_inr (r:=y) (by rw[hS i hi,hr])]
        have:(List.range n).findSome? r=some y:=by
          rw[List.findSome?_eq_some_iff]
          refine ⟨List.range i,i,(List.range' (i+1) m),?_,hr,fun j hj=>hn j (List.mem_range.1 hj)⟩
          rw[List.range_eq_range',List.range_eq_range',← him]
          rw[← List.range'_append_1 (s:=0) (m:=i) (n:=m+1),List.range'_succ]; simp
        rw[this]; rfl
      | none =>
        rw[whileO_inl (y:=st (i+1)) (by rw[hS i hi,hr])]
        refine ih (i+1) (by omega) fun j hj=>?_
        by_cases h:j=i
        · subst h; exact hr
        · exact hn j (by omega)
  exact key n 0 (by omega) fun j hj=>by omega
theorem all_loop {σ:Type} {S:σ→Option (σ ⊕ ((Bool × Unit) ⊕ Unit))} (st:Nat→σ) (n:Nat) (p:Nat→Bool)
    (hS:∀ i,i < n→S (st i)=some (cond (p i) (.inl (st (i+1))) (.inr (.inl (false,()))))) (hE:S (st n)=some (.inr (.inr ()))) :
    whileO S (st 0)=some (cond ((List.range n).all p) (.inr ()) (.inl (false,()))):=by
  rw[find_loop st n (fun i=>cond (p i) none (some (.inl (false,())))) (.inr ()) (fun i hi=>by rw[hS i hi]; cases p i<;>rfl) hE]
  congr 1
  cases h:(List.range n).all p with
  | true =>
    have:(List.range n).findSome? (fun i=>cond (p i) none (some (Sum.inl (β:=Unit) (false,()))))=none:=by
      rw[List.findSome?_eq_none_iff]
      intro j hj
      rw[List.all_eq_true] at h
      rw[h j hj]; rfl
    rw[this]; rfl
  | false =>
    cases hf:(List.range n).findSome? (fun i=>cond (p i) none (some (Sum.inl (β:=Unit) (false,())))) with
    | none =>
      rw[List.findSome?_eq_none_iff] at hf
      have:(List.range n).all p=true:=by
        rw[List.all_eq_true]; intro j hj
        have:=hf j hj
        cases hp:p j with
        | true=>rfl
        | false=>rw[hp] at this; cases this
      rw[this] at h; cases h
    | some y =>
      obtain ⟨j,_,hj⟩:=List.exists_of_findSome?_eq_some hf
      cases hp:p j with
      | true=>rw[hp] at hj; cases hj
      | false=>rw[hp] at hj; cases hj; rfl
theorem all_eqB {α:Type} {a b:List α} (hl:a.length=b.length):((List.range a.length).all fun i=>eqB a[i]? b[i]?)=eqB a b:=by
  rw[Bool.eq_iff_iff,List.all_eq_true,eqB_iff]
  constructor
  · intro h
    apply List.ext_getElem?
    intro i
    by_cases hi:i < a.length
    · exact eqB_iff.1 (h i (List.mem_range.2 hi))
    · rw[List.getElem?_eq_none (by omega),List.getElem?_eq_none (by omega)]
  · rintro rfl i _; exact eqB_self _
theorem eqB_at {α:Type} {a b:List α} {i:Nat} (h1:i < a.length) (h2:i < b.length):eqB a[i]? b[i]? = eqB a[i] b[i]:=by
  rw[List.getElem?_eq_getElem h1,List.getElem?_eq_getElem h2]
  exact eqB_mk (by simp)
theorem same_list {α σ:Type} {S:σ→Option (σ ⊕ ((Bool × Unit) ⊕ Unit))} {a b:List α} (st:Nat→σ) (hl:a.length=b.length)
    (hS:∀ (i:Nat) (h1:i < a.length) (h2:i < b.length),S (st i)=some (cond (eqB a[i] b[i]) (.inl (st (i+1))) (.inr (.inl (false,()))))) (hE:S (st a.length)=some (.inr (.inr ()))) :
    (whileO S (st 0)).bind (fun r=>match r with
      | .inl (t,_)=>some t
      | .inr _=>some true)=some (eqB a b):=by
  rw[all_loop st a.length (fun i=>eqB a[i]? b[i]?) (fun i hi=>by rw[hS i hi (by omega),eqB_at hi (by omega)]) hE,all_eqB hl]
  cases eqB a b<;>rfl
theorem len_case {α:Type} {a b:List α} {x:Option Bool} (h:a.length=b.length→x=some (eqB a b)):cond ((a.length:Int) != (b.length:Int)) (some false) x=some (eqB a b):=by
  rw[i64_ne]
  by_cases hl:a.length=b.length
  · rw[h hl]
    have:(a.length==b.length)=true:=by simpa using hl
    rw[this]; rfl
  · have:(a.length==b.length)=false:=by simpa using hl
    rw[this]
    have hne:eqB a b=false:=by rw[eqB_false]; rintro rfl; exact hl rfl
    rw[hne]; rfl
theorem dlt {i n:Nat} (h:i < n):decide ((i:Int) < (n:Int))=true:=by simpa using h
theorem impl_list {a b:List Int} (ha:a.length≤1048576):M_impl_sameInts a b=some (eqB a b):=by
  unfold M_impl_sameInts L_impl_sameInts_0
  refine len_case fun hl=>?_
  exact same_list (S:=S_impl_sameInts_0) (fun i=>(a,b,(a.length:Int),(i:Int),())) hl (fun i h1 h2=>by
    simp only[S_impl_sameInts_0,dlt h1,cond_true,idx_at h1,idx_at h2,Option.bind_some,succ_wrap h1 ha,bne_int]
    cases eqB a[i] b[i]<;>rfl) (by simp[S_impl_sameInts_0])
/-! ### Searches -/
end Go.Di
namespace Go.Di
def Dig (xs:List Int):Prop:=∀ d∈xs,0≤d∧d < 1000000000
def nv:List Int→Int
  | []=>0
  | d :: r=>d+1000000000 * nv r
def bp (n:Nat):Int:=1000000000 ^ n
theorem bp_zero:bp 0=1:=rfl
theorem bp_succ (n:Nat):bp (n+1)=1000000000 * bp n:=by unfold bp; rw[Int.pow_succ,Int.mul_comm]
theorem bp_add (m n:Nat):bp (m+n)=bp m * bp n:=by unfold bp; rw[Int.pow_add]
theorem bp_pos (n:Nat):0 < bp n:=by
  induction n with
  | zero=>decide
  | succ n ih=>rw[bp_succ]; omega
theorem bp_mono {m n:Nat} (h:m≤n):bp m≤bp n:=by
  induction h with
  | refl=>exact Int.le_refl _
  | step h ih=>rw[bp_succ]; have:=bp_pos; rename_i k; have:=bp_pos k; omega
theorem nv_append (xs ys:List Int):nv (xs++ys)=nv xs+bp xs.length * nv ys:=by
  induction xs with
  | nil=>simp[nv,bp_zero]
  | cons d r ih =>
    simp only[List.cons_append,nv,ih,List.length_cons,bp_succ]
    grind
theorem nv_snoc (xs:List Int) (d:Int):nv (xs++[d])=nv xs+bp xs.length * d:=by
  rw[nv_append]; simp[nv]
theorem Dig.nil:Dig []:=fun d h=>by cases h
theorem Dig.cons {d:Int} {r:List Int} (h:0≤d∧d < 1000000000) (hr:Dig r):Dig (d :: r):=fun e he=>by
  rcases List.mem_cons.1 he with rfl | he
  · exact h
  · exact hr e he
theorem Dig.head {d:Int} {r:List Int} (h:Dig (d :: r)):0≤d∧d < 1000000000:=h d (List.mem_cons_self ..)
theorem Dig.tail {d:Int} {r:List Int} (h:Dig (d :: r)):Dig r:=fun e he=>h e (List.mem_cons_of_mem _ he)
theorem Dig.append {xs ys:List Int} (h:Dig xs) (k:Dig ys):Dig (xs++ys):=fun e he=>by
  rcases List.mem_append.1 he with he | he
  · exact h e he
  · exact k e he
theorem Dig.snoc {xs:List Int} {d:Int} (h:Dig xs) (hd:0≤d∧d < 1000000000):Dig (xs++[d]):=h.append (Dig.cons hd Dig.nil)
theorem Dig.take {xs:List Int} (h:Dig xs) (n:Nat):Dig (xs.take n):=fun e he=>h e (List.mem_of_mem_take he)
theorem Dig.drop {xs:List Int} (h:Dig xs) (n:Nat):Dig (xs.drop n):=fun e he=>h e (List.mem_of_mem_drop he)
theorem Dig.at {xs:List Int} (h:Dig xs) {i:Nat} (hi:i < xs.length):0≤xs[i]∧xs[i] < 1000000000:=h _ (List.getElem_mem hi)
theorem Dig.zeros (n:Nat):Dig (List.replicate n 0):=fun d h=>by rw[List.eq_of_mem_replicate h]; omega
theorem nv_zeros (n:Nat):nv (List.replicate n 0)=0:=by
  induction n with
  | zero=>rfl
  | succ n ih=>rw[List.replicate_succ,nv,ih]; rfl
theorem nv_nonneg:∀ {xs:List Int},Dig xs→0≤nv xs
  | [],_=>Int.le_refl _
  | d :: r,h=>by have:=nv_nonneg h.tail; have:=h.head; simp only[nv]; omega
theorem nv_lt:∀ {xs:List Int},Dig xs→nv xs < bp xs.length
  | [],_=>by simp[nv,bp_zero]
  | d :: r,h=>by have:=nv_lt h.tail; have:=h.head; simp only[nv,List.length_cons,bp_succ]; omega
def Top0 (xs:List Int):Prop:=xs.getLast? ≠ some 0
def Can (xs:List Int):Prop:=Dig xs∧Top0 xs
theorem Can.tail {d:Int} {r:List Int} (h:Can (d :: r)):Can r:=by
  refine ⟨h.1.tail,?_⟩
  cases r with
  | nil=>simp[Top0]
  | cons e r=>have:=h.2; simpa [Top0,List.getLast?_cons_cons] using this
theorem Can.zero {xs:List Int} (h:Can xs) (hv:nv xs=0):xs=[]:=by
  induction xs with
  | nil=>rfl
  | cons d r ih =>
    have h1:=nv_nonneg h.1.tail
    have h2:=h.1.head
    simp only[nv] at hv
    have h3:nv r=0:=by omega
    have h4:=ih h.tail h3
    subst h4
    have:d=0:=by omega
    subst this
    exact absurd rfl h.2
theorem Can.ext:∀ {xs ys:List Int},Can xs→Can ys→nv xs=nv ys→xs=ys
  | [],ys,_,h,hv=>(h.zero hv.symm).symm
  | d :: r,[],h,_,hv=>h.zero hv
  | d :: r,e :: s,h,k,hv=>by
    have h1:=h.1.head
    have k1:=k.1.head
    simp only[nv] at hv
    have:d=e:=by omega
    subst this
    rw[Can.ext h.tail k.tail (by omega)]
def dg (n:Nat):List Int:=if h:n=0 then [] else ((n % 1000000000:Nat):Int) :: dg (n / 1000000000)
termination_by n
decreasing_by exact Nat.div_lt_self (by omega) (by decide)
theorem dg_zero:dg 0=[]:=by rw[dg]; rfl
theorem dg_pos {n:Nat} (h:n≠0):dg n=((n % 1000000000:Nat):Int) :: dg (n / 1000000000):=by rw[dg,dif_neg h]
theorem dg_dig (n:Nat):Dig (dg n):=by
  induction n using Nat.strongRecOn with
  | _ n ih =>
    by_cases h:n=0
    · subst h; rw[dg_zero]; exact Dig.nil
    · rw[dg_pos h]
      exact Dig.cons (by omega) (ih _ (Nat.div_lt_self (by omega) (by decide)))
theorem nv_dg (n:Nat):nv (dg n)=n:=by
  induction n using Nat.strongRecOn with
  | _ n ih =>
    by_cases h:n=0
    · subst h; rw[dg_zero]; rfl
    · rw[dg_pos h,nv,ih _ (Nat.div_lt_self (by omega) (by decide))]; omega
theorem dg_nil {n:Nat}:dg n=[]↔n=0:=by
  constructor
  · intro h; have:=nv_dg n; rw[h] at this; simp[nv] at this; omega
  · rintro rfl; exact dg_zero
theorem dg_can (n:Nat):Can (dg n):=by
  refine ⟨dg_dig n,?_⟩
  induction n using Nat.strongRecOn with
  | _ n ih =>
    by_cases h:n=0
    · subst h; rw[dg_zero]; simp[Top0]
    · rw [dg_pos h]
      have hd:=ih _ (Nat.div_lt_self (by omega) (by decide):n / 1000000000 < n)
      cases hr:dg (n / 1000000000) with
      | nil =>
        have:=dg_nil.1 hr
        simp[Top0]; omega
      | cons e s=>rw[hr] at hd; simpa [Top0,List.getLast?_cons_cons] using hd
theorem Can.dg {xs:List Int} (h:Can xs):xs=dg (nv xs).toNat :=
  h.ext (dg_can _) (by rw[nv_dg]; have:=nv_nonneg h.1; omega)
theorem dg_inj {m n:Nat} (h:dg m=dg n):m=n:=by have:=nv_dg m; rw[h,nv_dg] at this; omega
def tz (xs:List Int):List Int:=(xs.reverse.dropWhile (·==0)).reverse
theorem tz_snoc (xs:List Int) (d:Int):tz (xs++[d])=if d=0 then tz xs else xs++[d]:=by
  unfold tz
  rw[List.reverse_append]
  by_cases h:d=0
  · simp[h]
  · simp[h]
theorem tz_spec:∀ (n:Nat) (xs:List Int),xs.length=n→Dig xs→Can (tz xs)∧nv (tz xs)=nv xs:=by
  intro n
  induction n with
  | zero =>
    intro xs hl h
    have:xs=[]:=List.length_eq_zero_iff.1 hl
    subst this
    exact ⟨⟨Dig.nil,by simp[Top0,tz]⟩,rfl⟩
  | succ n ih =>
    intro xs hl h
    obtain ⟨ys,d,rfl⟩:∃ ys d,xs=ys++[d]:=⟨xs.dropLast,xs.getLast (by intro e; subst e; simp at hl),(List.dropLast_concat_getLast _).symm⟩
    rw[tz_snoc]
    have hd:=h d (by simp)
    have hy:Dig ys:=fun e he=>h e (List.mem_append_left _ he)
    split
    · rename_i h0; subst h0
      obtain ⟨k1,k2⟩:=ih ys (by simpa using hl) hy
      exact ⟨k1,by rw[k2,nv_snoc]; omega⟩
    · rename_i h0
      exact ⟨⟨h,by simpa [Top0] using h0⟩,rfl⟩
theorem tz_dg {xs:List Int} (h:Dig xs):tz xs=dg (nv xs).toNat:=by
  obtain ⟨h1,h2⟩:=tz_spec _ xs rfl h
  rw[h1.dg,h2]
theorem len_dg {n k:Nat}:(dg n).length≤k↔(n:Int) < bp k:=by
  have h1:=nv_lt (dg_dig n)
  rw[nv_dg] at h1
  constructor
  · intro h; have:=bp_mono h; omega
  · intro h
    rcases Nat.lt_or_ge k (dg n).length with hk | hk
    · exfalso
      -- the top limb is worth at least bp k
      have hne:dg n≠[]:=by intro e; rw[e] at hk; simp at hk
      have hs:=List.dropLast_concat_getLast hne
      have hv:=nv_snoc (dg n).dropLast ((dg n).getLast hne)
      rw[hs,nv_dg] at hv
      have hd:=dg_dig n _ (List.getLast_mem hne)
      have h0:(dg n).getLast hne≠0:=by
        intro e
        have:=(dg_can n).2
        rw[Top0,List.getLast?_eq_some_getLast hne,e] at this
        exact this rfl
      have hp:=nv_nonneg ((dg_dig n).take ((dg n).length - 1))
      rw[← List.dropLast_eq_take] at hp
      have hl:(dg n).dropLast.length=(dg n).length - 1:=List.length_dropLast
      have hb:=bp_mono (show k≤(dg n).dropLast.length by omega)
      have hq:=bp_pos (dg n).dropLast.length
      have:bp (dg n).dropLast.length≤bp (dg n).dropLast.length * (dg n).getLast hne:=by
        have h1:(1:Int)≤(dg n).getLast hne:=by omega
        have:=Int.mul_le_mul_of_nonneg_left h1 (Int.le_of_lt hq)
        simpa using this
      omega
    · exact hk
end Go.Di
namespace Go.Di
noncomputable def pB (p:Prop):Bool:=@decide p (Classical.propDecidable _)
theorem pB_iff {p:Prop}:pB p=true↔p:=by unfold pB; exact @decide_eq_true_iff _ (Classical.propDecidable _)
theorem pB_congr {p q:Prop} (h:p↔q):pB p=pB q:=by rw[Bool.eq_iff_iff,pB_iff,pB_iff]; exact h
theorem pB_not {p:Prop}:pB p=false↔¬ p:=by rw[← Bool.not_eq_true,pB_iff]
theorem all_loopE {σ τ:Type} {S:σ→Option (σ ⊕ ((Bool × Unit) ⊕ τ))} (st:Nat→σ) (n:Nat) (p:Nat→Bool) (e:τ)
    (hS:∀ i,i < n→S (st i)=some (cond (p i) (.inl (st (i+1))) (.inr (.inl (false,()))))) (hE:S (st n)=some (.inr (.inr e))) :
    whileO S (st 0)=some (cond ((List.range n).all p) (.inr e) (.inl (false,()))):=by
  rw[find_loop st n (fun i=>cond (p i) none (some (.inl (false,())))) (.inr e) (fun i hi=>by rw[hS i hi]; cases p i<;>rfl) hE]
  congr 1
  cases h:(List.range n).all p with
  | true =>
    have:(List.range n).findSome? (fun i=>cond (p i) none (some (Sum.inl (β:=τ) (false,()))))=none:=by
      rw[List.findSome?_eq_none_iff]
      intro j hj
      rw[List.all_eq_true] at h
      rw[h j hj]; rfl
    rw[this]; rfl
  | false =>
    have hne:(List.range n).findSome? (fun i=>cond (p i) none (some (Sum.inl (β:=τ) (false,()))))=some (.inl (false,())):=by
      cases hf:(List.range n).findSome? (fun i=>cond (p i) none (some (Sum.inl (β:=τ) (false,())))) with
      | none =>
        rw[List.findSome?_eq_none_iff] at hf
        have:(List.range n).all p=true:=by
          rw[List.all_eq_true]
          intro j hj
          have:=hf j hj
          cases hp:p j with
          | true=>rfl
          | false=>rw[hp] at this; cases this
        rw[this] at h; cases h
      | some y =>
        obtain ⟨j,hj,hy⟩:=List.exists_of_findSome?_eq_some hf
        cases hp:p j with
        | true=>rw[hp] at hy; cases hy
        | false=>rw[hp] at hy; cases hy; rfl
    rw[hne]; rfl
def atB {α:Type} (f:α→Bool) (a:List α) (i:Nat):Bool:=((a[i]?).map f).getD true
theorem atB_at {α:Type} (f:α→Bool) {a:List α} {i:Nat} (h:i < a.length):atB f a i=f a[i]:=by simp[atB,h]
theorem all_range {α:Type} (f:α→Bool) (a:List α):(List.range a.length).all (atB f a)=a.all f:=by
  rw[Bool.eq_iff_iff,List.all_eq_true,List.all_eq_true]
  constructor
  · intro h d hd
    obtain ⟨i,hi,rfl⟩:=List.getElem_of_mem hd
    have:=h i (List.mem_range.2 hi)
    rw[atB_at f hi] at this; exact this
  · intro h i hi
    have hi:=List.mem_range.1 hi
    rw[atB_at f hi]
    exact h _ (List.getElem_mem hi)
def digB (d:Int):Bool:=decide (0≤d) && decide (d < 1000000000)
theorem digB_all {a:List Int}:a.all digB=true↔Dig a:=by
  rw[List.all_eq_true]
  constructor
  · intro h d hd; have:=h d hd; simp[digB] at this; exact this
  · intro h d hd; have:=h d hd; simp[digB]; exact this
def NatOk (a:List Int):Prop:=Can a∧a.length≤60
theorem last_idx {a:List Int} (hn:a≠[]) (hl:a.length≤1073741824):idx a (IntKind.i64.wrap ((a.length:Int) - 1))=some (a.getLast hn):=by
  have hp:0 < a.length:=List.length_pos_iff.2 hn
  rw[wrap_i64 (by omega) (by omega)]
  have:((a.length:Int) - 1)=((a.length - 1:Nat):Int):=by omega
  rw[this,idx_at (by omega)]
  rw[List.getLast_eq_getElem]
theorem spec_natOk {a:List Int} (h:a.length≤1048576):M_spec_NatOk a=some (pB (NatOk a)):=by
  have hloop:L_spec_NatOk_0 a a (a.length:Int) 0=some (cond (a.all digB) (.inr (a,())) (.inl (false,()))):=by
    rw[← all_range]
    refine all_loopE (S:=S_spec_NatOk_0) (fun i=>(a,a,(a.length:Int),(i:Int),())) a.length (atB digB a) (a,()) (fun i hi=>?_) (by simp[S_spec_NatOk_0])
    simp only[S_spec_NatOk_0,dlt hi,cond_true,idx_at hi,Option.bind_some,succ_wrap hi h,M_spec_l01In,atB_at digB hi]
    have e1:digB a[i]=(decide (a[i] ≥ 0) && decide (a[i]≤999999999)):=by
      unfold digB
      rw[Bool.eq_iff_iff]; simp; omega
    rw[e1]
    cases decide (a[i] ≥ 0)<;>cases decide (a[i]≤999999999)<;>rfl
  unfold M_spec_NatOk
  rw[hloop]
  · have hdig:=@digB_all a
    cases hall:a.all digB with
    | false =>
      simp only[cond_false,Option.bind_some]
      rw[hall] at hdig
      congr 1
      symm
      rw[pB_not]
      intro hk
      exact absurd (hdig.2 hk.1.1) (by simp)
    | true =>
      rw[hall] at hdig
      have hd:=hdig.1 rfl
      simp only[cond_true,Option.bind_some]
      by_cases h60:a.length≤60
      · have:decide ((a.length:Int)≤60)=true:=by simpa using (by omega:(a.length:Int)≤60)
        rw[this,cond_true]
        cases a with
        | nil=>simp[pB_iff,NatOk,Can,Top0,Dig.nil]
        | cons d r =>
          have h0:(((d :: r).length:Int)==0)=false:=by simp; omega
          rw[h0,cond_false,last_idx (by simp) (by omega),Option.bind_some]
          congr 1
          rw[Bool.eq_iff_iff,pB_iff]
          simp only[bne_iff_ne,ne_eq,NatOk,Can,Top0,hd,true_and,h60,and_true]
          rw[List.getLast?_eq_some_getLast (by simp)]
          simp
      · have:decide ((a.length:Int)≤60)=false:=by simpa using (by omega:(60:Int) < a.length)
        rw[this,cond_false]
        congr 1
        symm
        rw[pB_not]
        intro hk; exact h60 hk.2
theorem impl_natOk {a:List Int} (h:a.length≤1048576):M_impl_NatOk a=some (pB (NatOk a)):=by
  have hloop:L_impl_NatOk_0 a (a.length:Int) 0=some (cond (a.all digB) (.inr ()) (.inl (false,()))):=by
    rw[← all_range]
    refine all_loopE (S:=S_impl_NatOk_0) (fun i=>(a,(a.length:Int),(i:Int),())) a.length (atB digB a) () (fun i hi=>?_) (by simp[S_impl_NatOk_0])
    simp only[S_impl_NatOk_0,dlt hi,cond_true,idx_at hi,Option.bind_some,succ_wrap hi h,atB_at digB hi]
    have e1:digB a[i]=(!decide (a[i] < 0) && !decide (a[i] ≥ 1000000000)):=by
      unfold digB
      rw[Bool.eq_iff_iff]; simp
    rw[e1]
    cases decide (a[i] < 0)<;>cases decide (a[i] ≥ 1000000000)<;>rfl
  have hdig:=@digB_all a
  have fin:(Option.bind (L_impl_NatOk_0 a (a.length:Int) 0) fun r=>match r with
      | .inl (t,_)=>some t
      | .inr _=>some true)=some (a.all digB):=by
    rw[hloop]; cases a.all digB<;>rfl
  unfold M_impl_NatOk
  by_cases h60:a.length≤60
  · have : decide ((a.length:Int) > 60)=false:=by simpa using (by omega:(a.length:Int)≤60)
    rw[this,cond_false]
    cases a with
    | nil =>
      rw[show decide ((([]:List Int).length:Int) > 0)=false from rfl,cond_false]
      refine fin.trans ?_
      congr 1; symm; rw[show ([]:List Int).all digB=true from rfl,pB_iff]; exact ⟨⟨Dig.nil,by simp[Top0]⟩,by simp⟩
    | cons d r =>
      have h0:decide ((((d :: r).length:Nat):Int) > 0)=true:=by simp
      rw[h0,cond_true,last_idx (by simp) (by omega),Option.bind_some]
      have key:some (pB (NatOk (d :: r)))=cond ((d :: r).getLast (by simp)==0) (some false) (some ((d :: r).all digB)):=by
        have e:pB (NatOk (d :: r))=(!((d :: r).getLast (by simp)==0) && (d :: r).all digB):=by
          rw[Bool.eq_iff_iff,pB_iff,Bool.and_eq_true,hdig]
          simp only[NatOk,Can,Top0,h60,and_true]
          rw[List.getLast?_eq_some_getLast (by simp)]
          simp[and_comm]
        rw[e]
        cases ((d :: r).getLast (by simp)==0)<;>rfl
      rw[key]
      congr 1
  · have:decide ((a.length:Int) > 60)=true:=by simpa using (by omega:(60:Int) < a.length)
    rw[this,cond_true]
    congr 1; symm; rw[pB_not]; intro hk; exact h60 hk.2
/-! ### Zeros taken away -/
theorem trim_loop {S:(Int × List Int × Unit)→Option ((Int × List Int × Unit) ⊕ (Int × List Int × Unit))} {a:List Int}
    (hS:∀ (i:Nat) (h:i < a.length),S (((i+1:Nat):Int),a,())=some (cond (a[i]==0) (.inl ((i:Int),a,())) (.inr (((i+1:Nat):Int),a,()))))
    (hE:S (0,a,())=some (.inr (0,a,()))):∀ m:Nat,m≤a.length→∃ k:Nat,k≤m∧a.take k=tz (a.take m)∧whileO S ((m:Int),a,())=some ((k:Int),a,()):=by
  intro m
  induction m with
  | zero=>intro _; exact ⟨0,Nat.le_refl _,by simp[tz],whileO_inr hE⟩
  | succ m ih =>
    intro hm
    have hlt:m < a.length:=hm
    have ht:a.take (m+1)=a.take m++[a[m]]:=by rw[List.take_succ_eq_append_getElem hlt]
    cases hz:a[m]==0 with
    | true =>
      obtain ⟨k,k1,k2,k3⟩:=ih (by omega)
      refine ⟨k,by omega,?_,?_⟩
      · rw[ht,tz_snoc,if_pos (by simpa using hz)]; exact k2
      · rw[whileO_inl (by rw[hS m hlt,hz]; rfl)]; exact k3
    | false =>
      refine ⟨m+1,Nat.le_refl _,?_,?_⟩
      · rw[ht,tz_snoc,if_neg (by simpa using hz)]
      · exact whileO_inr (by rw[hS m hlt,hz]; rfl)
theorem inside_cut (n k:Nat) (h:k≤n):guardO (inside n (0,(k:Int)))=some ():=by
  have:inside n (0,(k:Int))=true:=by unfold inside; simp; omega
  rw[this]; rfl
theorem spec_trim {a:List Int} (h:a.length≤1073741824):M_spec_l02Trim_c a=some (tz a):=by
  unfold M_spec_l02Trim_c L_spec_l02Trim_c_0
  obtain ⟨k,k1,k2,k3⟩:=trim_loop (S:=S_spec_l02Trim_c_0) (a:=a) (fun i hi=>by
    have e1:decide (((i+1:Nat):Int) > 0)=true:=by simp
    have e2:IntKind.i64.wrap (((i+1:Nat):Int) - 1)=(i:Int):=by rw[wrap_i64 (by omega) (by omega)]; omega
    simp only[S_spec_l02Trim_c_0,e1,cond_true,e2,idx_at hi,Option.bind_some,Int.toNat_natCast,List.getElem?_eq_getElem hi]
    cases a[i]==0<;>rfl) (by simp[S_spec_l02Trim_c_0]) a.length (Nat.le_refl _)
  rw[k3]
  simp only[Option.bind_some,inside_cut _ _ k1,Int.toNat_natCast]
  rw[k2,List.take_length]
theorem impl_trim {a:List Int} (h:a.length≤1073741824):M_impl_trim_c a=some (tz a):=by
  unfold M_impl_trim_c L_impl_trim_c_0
  obtain ⟨k,k1,k2,k3⟩:=trim_loop (S:=S_impl_trim_c_0) (a:=a) (fun i hi=>by
    have e1:decide (((i+1:Nat):Int) > 0)=true:=by simp
    have e2:IntKind.i64.wrap (((i+1:Nat):Int) - 1)=(i:Int):=by rw[wrap_i64 (by omega) (by omega)]; omega
    simp only[S_impl_trim_c_0,e1,cond_true,e2,idx_at hi,Option.bind_some,Int.toNat_natCast,List.getElem?_eq_getElem hi]
    cases a[i]==0<;>rfl) (by simp[S_impl_trim_c_0]) a.length (Nat.le_refl _)
  rw[k3]
  simp only[Option.bind_some,inside_cut _ _ k1,Int.toNat_natCast]
  rw[k2,List.take_length]
end Go.Di
namespace Go.Di
theorem whileO_inv {σ ρ:Type} {S:σ→Option (σ ⊕ ρ)} (I:Nat→σ→Prop) (n:Nat) (Q:ρ→Prop)
    (hS:∀ i,i < n→∀ x,I i x→(∃ y,S x=some (.inl y)∧I (i+1) y)∨∃ r,S x=some (.inr r)∧Q r) (hE:∀ x,I n x→∃ r,S x=some (.inr r)∧Q r) {x:σ} (h0:I 0 x):∃ r,whileO S x=some r∧Q r:=by
  have key:∀ (m i:Nat) (x:σ),i+m=n→I i x→∃ r,whileO S x=some r∧Q r:=by
    intro m
    induction m with
    | zero =>
      intro i x him h
      have:i=n:=by omega
      subst this
      obtain ⟨r,h1,h2⟩:=hE x h
      exact ⟨r,whileO_inr h1,h2⟩
    | succ m ih =>
      intro i x him h
      rcases hS i (by omega) x h with ⟨y,h1,h2⟩ | ⟨r,h1,h2⟩
      · obtain ⟨r,h3,h4⟩:=ih (i+1) y (by omega) h2
        exact ⟨r,(whileO_inl h1).trans h3,h4⟩
      · exact ⟨r,whileO_inr h1,h2⟩
  exact key n 0 x (by omega) h0
theorem nv_take_succ {a:List Int} {i:Nat} (h:i < a.length):nv (a.take (i+1))=nv (a.take i)+bp i * a[i]:=by
  rw[List.take_succ_eq_append_getElem h,nv_snoc]
  have:(a.take i).length=i:=by rw[List.length_take]; omega
  rw[this]
theorem nv_take_all {a:List Int} {i:Nat} (h:a.length≤i):nv (a.take i)=nv a:=by rw[List.take_of_length_le h]
theorem take_lt {a:List Int} (h:Dig a) {i:Nat} (hi:i≤a.length):0≤nv (a.take i)∧nv (a.take i) < bp i:=by
  have h1:=nv_lt (h.take i)
  rw[List.length_take,Nat.min_eq_left hi] at h1
  exact ⟨nv_nonneg (h.take i),h1⟩
theorem bp_lex {p x y s t:Int} (hp:0 < p) (hxy:x < y) (hs:s < p) (ht:0≤t):s+p * x < t+p * y:=by
  have h1:=Int.mul_le_mul_of_nonneg_left (show x+1≤y by omega) (Int.le_of_lt hp)
  have h2:p * (x+1)=p * x+p:=by grind
  omega
theorem wrap_add {n:Int} (h1 : -1000000000000000000≤n) (h2:n≤1000000000000000000):IntKind.i64.wrap n=n:=wrap_i64 (by omega) (by omega)
theorem wrap_idx {i n:Nat} (h:i≤n) (hn:n≤1073741824):IntKind.i64.wrap ((i:Int)+1)=((i+1:Nat):Int):=by
  rw[wrap_i64 (by omega) (by omega)]; omega
theorem room {n:Nat} (h:n≤1073741824):guardO (Nat.ble n maxNew)=some ():=by
  have:Nat.ble n maxNew=true:=by rw[Nat.ble_eq]; unfold maxNew; omega
  rw[this]; rfl
/-! ### Compare -/
def cmpI (x y:Int):Int:=if x < y then -1 else if y < x then 1 else 0
theorem Can.low {a:List Int} (h:Can a) (hn:a≠[]):bp (a.length - 1)≤nv a:=by
  have hs:=List.dropLast_concat_getLast hn
  have hv:=nv_snoc a.dropLast (a.getLast hn)
  rw[hs] at hv
  have h1:=h.1 _ (List.getLast_mem hn)
  have h0:a.getLast hn≠0:=by
    intro e
    have:=h.2
    rw[Top0,List.getLast?_eq_some_getLast hn,e] at this
    exact this rfl
  have hp:=nv_nonneg (h.1.take (a.length - 1))
  rw[← List.dropLast_eq_take] at hp
  have hl:a.dropLast.length=a.length - 1:=List.length_dropLast
  rw[hl] at hv
  have:=Int.mul_le_mul_of_nonneg_left (show 1≤a.getLast hn by omega) (Int.le_of_lt (bp_pos (a.length - 1)))
  omega
theorem Can.len_lt {a b:List Int} (h:Can a) (k:Can b) (hl:a.length < b.length):nv a < nv b:=by
  have h1:=nv_lt h.1
  have hb:b≠[]:=by intro e; subst e; simp at hl
  have h2:=k.low hb
  have h3:=bp_mono (show a.length≤b.length - 1 by omega)
  omega
theorem cmp_loop {S:(List Int × List Int × Int × Unit)→Option ((List Int × List Int × Int × Unit) ⊕ ((Int × Unit) ⊕ Unit))} {a b:List Int} (hl:a.length=b.length) (ha:Dig a) (hb:Dig b)
    (hS:∀ (i:Nat) (h1:i < a.length) (h2:i < b.length),S (a,b,(i:Int),())=some (cond (decide (a[i] < b[i])) (.inr (.inl (-1,()))) (cond (decide (a[i] > b[i])) (.inr (.inl (1,()))) (.inl (a,b,(i:Int) - 1,())))))
    (hE:S (a,b,-1,())=some (.inr (.inr ()))) :
    ((whileO S (a,b,(a.length:Int) - 1,())).bind fun r=>match r with
      | .inl (t,_)=>some t
      | .inr _=>some 0)=some (cmpI (nv a) (nv b)):=by
  have key : ∀ m:Nat,m≤a.length→((whileO S (a,b,(m:Int) - 1,())).bind fun r=>match r with
      | .inl (t,_)=>some t
      | .inr _=>some 0)=some (cmpI (nv (a.take m)) (nv (b.take m))):=by
    intro m
    induction m with
    | zero =>
      intro _
      rw[whileO_inr (show S (a,b,((0:Nat):Int) - 1,())=some (.inr (.inr ())) from hE)]
      simp[cmpI]
    | succ m ih =>
      intro hm
      have h1:m < a.length:=hm
      have h2:m < b.length:=by omega
      have e:((m+1:Nat):Int) - 1=(m:Int):=by omega
      obtain ⟨p1,p2⟩:=take_lt ha (Nat.le_of_lt h1)
      obtain ⟨q1,q2⟩:=take_lt hb (Nat.le_of_lt h2)
      rw[nv_take_succ h1,nv_take_succ h2,e]
      by_cases hlt:a[m] < b[m]
      · rw[whileO_inr (by rw[hS m h1 h2,decide_eq_true hlt]; rfl)]
        have:=bp_lex (bp_pos m) hlt p2 q1
        simp[cmpI,this]
      · by_cases hgt:a[m] > b[m]
        · rw[whileO_inr (by rw[hS m h1 h2,decide_eq_false hlt,decide_eq_true hgt]; rfl)]
          have:=bp_lex (bp_pos m) hgt q2 p1
          have h3:¬ (nv (a.take m)+bp m * a[m] < nv (b.take m)+bp m * b[m]):=by omega
          simp[cmpI,this,h3]
        · rw[whileO_inl (by rw[hS m h1 h2,decide_eq_false hlt,decide_eq_false hgt]; rfl),ih (by omega)]
          have:a[m]=b[m]:=by omega
          rw[this]
          congr 1
          unfold cmpI
          have e1:(nv (a.take m)+bp m * b[m] < nv (b.take m)+bp m * b[m])↔nv (a.take m) < nv (b.take m):=by omega
          have e2:(nv (b.take m)+bp m * b[m] < nv (a.take m)+bp m * b[m])↔nv (b.take m) < nv (a.take m):=by omega
          simp only[e1,e2]
  have:=key a.length (Nat.le_refl _)
  rwa [List.take_length,hl,List.take_length,← hl] at this
theorem cmp_len {a b:List Int} (ha:Can a) (hb:Can b) {x:Option Int} (h:a.length=b.length→x=some (cmpI (nv a) (nv b))) :
    cond ((a.length:Int) != (b.length:Int)) (cond (decide ((a.length:Int) < (b.length:Int))) (some (-1)) (some 1)) x=some (cmpI (nv a) (nv b)):=by
  rw[i64_ne]
  by_cases hl:a.length=b.length
  · have:(a.length==b.length)=true:=by simpa using hl
    rw[this]; exact h hl
  · have:(a.length==b.length)=false:=by simpa using hl
    rw[this]
    simp only[Bool.not_false,cond_true]
    by_cases hlt:a.length < b.length
    · rw[decide_eq_true (by omega:(a.length:Int) < (b.length:Int)),cond_true]
      have:=ha.len_lt hb hlt
      simp[cmpI,this]
    · rw[decide_eq_false (by omega:¬ (a.length:Int) < (b.length:Int)),cond_false]
      have:=hb.len_lt ha (by omega)
      have h3:¬ nv a < nv b:=by omega
      simp[cmpI,this,h3]
theorem spec_cmp {a b:List Int} (ha:Can a) (hb:Can b) (hl:a.length≤1073741824):M_spec_l02Cmp a b=some (cmpI (nv a) (nv b)):=by
  unfold M_spec_l02Cmp L_spec_l02Cmp_0
  refine cmp_len ha hb fun h=>?_
  rw[wrap_i64 (by omega) (by omega)]
  refine cmp_loop (S:=S_spec_l02Cmp_0) h ha.1 hb.1 (fun i h1 h2=>?_) (by simp[S_spec_l02Cmp_0])
  simp only[S_spec_l02Cmp_0,show decide ((i:Int) ≥ 0)=true by simp,cond_true,idx_at h1,idx_at h2,Option.bind_some,wrap_i64 (show -9223372036854775808≤(i:Int) - 1 by omega) (show (i:Int) - 1≤9223372036854775807 by omega)]
  cases decide (a[i] < b[i])<;>cases decide (a[i] > b[i])<;>rfl
theorem impl_cmp {a b:List Int} (ha:Can a) (hb:Can b) (hl:a.length≤1073741824):M_impl_natCmp a b=some (cmpI (nv a) (nv b)):=by
  unfold M_impl_natCmp L_impl_natCmp_0
  refine cmp_len ha hb fun h=>?_
  rw[wrap_i64 (by omega) (by omega)]
  refine cmp_loop (S:=S_impl_natCmp_0) h ha.1 hb.1 (fun i h1 h2=>?_) (by simp[S_impl_natCmp_0])
  simp only[S_impl_natCmp_0,show decide ((i:Int) ≥ 0)=true by simp,cond_true,idx_at h1,idx_at h2,Option.bind_some,wrap_i64 (show -9223372036854775808≤(i:Int) - 1 by omega) (show (i:Int) - 1≤9223372036854775807 by omega)]
  cases decide (a[i] < b[i])<;>cases decide (a[i] > b[i])<;>rfl
/-! ### Numbers out of ints -/
theorem natOf_loop {S:(Int × List Int × Unit)→Option ((Int × List Int × Unit) ⊕ (List Int × Unit))}
    (hS:∀ (n:Nat) (out:List Int),0 < n→n≤9223372036854775807→out.length < 1073741824→S ((n:Int),out,())=some (.inl (((n / 1000000000:Nat):Int),out++[((n % 1000000000:Nat):Int)],())))
    (hE:∀ (n:Int) (out:List Int),n≤0→S (n,out,())=some (.inr (out,()))):∀ (n:Nat) (out:List Int),n≤9223372036854775807→out.length+n < 1073741824+9223372036854775807→out.length+(dg n).length≤1073741824→whileO S ((n:Int),out,())=some (out++dg n,()):=by
  intro n
  induction n using Nat.strongRecOn with
  | _ n ih =>
    intro out hn _ hlen
    by_cases h:n=0
    · subst h; rw[dg_zero,List.append_nil]; exact whileO_inr (hE _ _ (by simp))
    · have hd:=dg_pos h
      rw[hd] at hlen
      simp only[List.length_cons] at hlen
      rw[whileO_inl (hS n out (by omega) hn (by omega)),ih (n / 1000000000) (Nat.div_lt_self (by omega) (by decide)) _ (by omega) (by simp; omega) (by simp; omega),hd]
      simp
theorem len_small {n:Nat} (h:n≤9223372036854775807):(dg n).length≤3:=len_dg.2 (by simp[bp]; omega)
theorem spec_natOf {n:Int} (h:n≤9223372036854775807):M_spec_NatOf n=some (dg n.toNat):=by
  unfold M_spec_NatOf L_spec_NatOf_0
  have hS:∀ (n:Nat) (out:List Int),0 < n→n≤9223372036854775807→out.length < 1073741824→S_spec_NatOf_0 ((n:Int),out,())=some (.inl (((n / 1000000000:Nat):Int),out++[((n % 1000000000:Nat):Int)],())):=fun n out h0 hn hl=>by
    simp only[S_spec_NatOf_0,show decide ((n:Int) > 0)=true by simpa using h0,cond_true,room (show out.length+1≤1073741824 by omega),Option.bind_some]
    rw[Int.tdiv_eq_ediv_of_nonneg (by omega),Int.tmod_eq_emod_of_nonneg (by omega),wrap_i64 (by omega) (by omega)]
    rfl
  have hE:∀ (n:Int) (out:List Int),n≤0→S_spec_NatOf_0 (n,out,())=some (.inr (out,())):=fun n out hn=>by
    simp only[S_spec_NatOf_0,show decide (n > 0)=false by simpa using hn,cond_false]
  by_cases h0:n≤0
  · rw[whileO_inr (hE n [] h0)]
    have:n.toNat=0:=by omega
    rw[this,dg_zero]; rfl
  · have e:n=((n.toNat:Nat):Int):=by omega
    have:=natOf_loop hS hE n.toNat [] (by omega) (by simp; omega) (by have:=len_small (show n.toNat≤9223372036854775807 by omega); simp; omega)
    rw[← e] at this
    rw[this]; simp
theorem impl_natOf {n:Int} (h:n≤9223372036854775807):M_impl_NatOf n=some (dg n.toNat):=spec_natOf h
end Go.Di
namespace Go.Di
theorem nv_take_get (a:List Int) (i:Nat):nv (a.take (i+1))=nv (a.take i)+bp i * (a[i]?).getD 0:=by
  by_cases h:i < a.length
  · rw[nv_take_succ h,List.getElem?_eq_getElem h]; rfl
  · rw[nv_take_all (by omega),nv_take_all (by omega),List.getElem?_eq_none (by omega)]; simp
theorem Dig.get {a:List Int} (h:Dig a) (i:Nat):0≤(a[i]?).getD 0∧(a[i]?).getD 0 < 1000000000:=by
  by_cases hi:i < a.length
  · rw[List.getElem?_eq_getElem hi]; exact h.at hi
  · rw[List.getElem?_eq_none (by omega)]; simp
theorem Can.mk' {xs:List Int} (h:Dig xs) (k:xs≠[]→bp (xs.length - 1)≤nv xs):Can xs:=by
  refine ⟨h,fun hl=>?_⟩
  have hn:xs≠[]:=by intro e; subst e; simp at hl
  have hs:=List.dropLast_concat_getLast hn
  have h0:xs.getLast hn=0:=by rw[List.getLast?_eq_some_getLast hn] at hl; simpa using hl
  have hv:=nv_snoc xs.dropLast (xs.getLast hn)
  rw[hs,h0] at hv
  have hd:Dig xs.dropLast:=by rw[List.dropLast_eq_take]; exact h.take _
  have:=nv_lt hd
  rw[List.length_dropLast] at this
  have:=k hn
  omega
theorem eq_dg {xs:List Int} {n:Nat} (h:Can xs) (hv:nv xs=n):xs=dg n:=by rw[h.dg,hv]; simp
/-! ### Added,in the reference model -/
theorem specAdd_step {a b out:List Int} {c:Int} {i:Nat} (ha:Dig a) (hb:Dig b) (hc:0≤c∧c≤1) (ho:out.length≤1073741000) (hi:i≤1073741000) (hgo:i < a.length∨i < b.length∨0 < c) :
    S_spec_l02Add_0 (a,b,c,(i:Int),out,())=some (.inl (a,b,(c+(a[i]?).getD 0+(b[i]?).getD 0) / 1000000000,((i+1:Nat):Int),out++[(c+(a[i]?).getD 0+(b[i]?).getD 0) % 1000000000],())):=by
  have h1:=ha.get i
  have h2:=hb.get i
  have hw:=wrap_idx (Nat.le_refl i) (by omega)
  have hr:=room (show out.length+1≤1073741824 by omega)
  by_cases hA:i < a.length<;>by_cases hB:i < b.length
  · simp only[S_spec_l02Add_0,dlt hA,dlt hB,cond_true,idx_at hA,idx_at hB,Option.bind_some,hr,hw]
    rw[List.getElem?_eq_getElem hA,List.getElem?_eq_getElem hB] at *
    simp only[Option.getD_some] at *
    rw[wrap_add (n:=c+a[i]) (by omega) (by omega),wrap_add (n:=c+a[i]+b[i]) (by omega) (by omega),Int.tdiv_eq_ediv_of_nonneg (by omega),Int.tmod_eq_emod_of_nonneg (by omega),wrap_add (by omega) (by omega)]
  · have hB':decide ((i:Int) < (b.length:Int))=false:=by simpa using hB
    simp only[S_spec_l02Add_0,dlt hA,hB',cond_true,cond_false,idx_at hA,Option.bind_some,hr,hw]
    rw[List.getElem?_eq_getElem hA,List.getElem?_eq_none (by omega:b.length≤i)] at *
    simp only[Option.getD_some,Option.getD_none,Int.add_zero] at *
    rw[wrap_add (n:=c+a[i]) (by omega) (by omega),Int.tdiv_eq_ediv_of_nonneg (by omega),Int.tmod_eq_emod_of_nonneg (by omega),wrap_add (by omega) (by omega)]
  · have hA':decide ((i:Int) < (a.length:Int))=false:=by simpa using hA
    simp only[S_spec_l02Add_0,dlt hB,hA',cond_true,cond_false,idx_at hB,Option.bind_some,hr,hw]
    rw[List.getElem?_eq_getElem hB,List.getElem?_eq_none (by omega:a.length≤i)] at *
    simp only[Option.getD_some,Option.getD_none,Int.add_zero] at *
    rw[wrap_add (n:=c+b[i]) (by omega) (by omega),Int.tdiv_eq_ediv_of_nonneg (by omega),Int.tmod_eq_emod_of_nonneg (by omega),wrap_add (by omega) (by omega)]
  · have hA':decide ((i:Int) < (a.length:Int))=false:=by simpa using hA
    have hB':decide ((i:Int) < (b.length:Int))=false:=by simpa using hB
    have hc':decide (c > 0)=true:=by simpa using (by omega:0 < c)
    simp only[S_spec_l02Add_0,hA',hB',hc',cond_true,cond_false,Option.bind_some,hr,hw]
    rw[List.getElem?_eq_none (by omega:a.length≤i),List.getElem?_eq_none (by omega:b.length≤i)] at *
    simp only[Option.getD_none,Int.add_zero] at *
    rw[Int.tdiv_eq_ediv_of_nonneg (by omega),Int.tmod_eq_emod_of_nonneg (by omega),wrap_add (by omega) (by omega)]
theorem specAdd_end {a b out:List Int} {i:Nat} (hA:a.length≤i) (hB:b.length≤i):S_spec_l02Add_0 (a,b,0,(i:Int),out,())=some (.inr (out,())):=by
  have hA':decide ((i:Int) < (a.length:Int))=false:=by simpa using hA
  have hB':decide ((i:Int) < (b.length:Int))=false:=by simpa using hB
  simp only[S_spec_l02Add_0,hA',hB',cond_false]
  rfl
structure AddI (a b:List Int) (i:Nat) (c:Int) (out:List Int):Prop where
  len:out.length=i
  dig:Dig out
  c01:0≤c∧c≤1
  val:nv out+bp i * c=nv (a.take i)+nv (b.take i)
theorem AddI.step {a b out:List Int} {c:Int} {i:Nat} (h:AddI a b i c out) (ha:Dig a) (hb:Dig b) :
    AddI a b (i+1) ((c+(a[i]?).getD 0+(b[i]?).getD 0) / 1000000000) (out++[(c+(a[i]?).getD 0+(b[i]?).getD 0) % 1000000000]):=by
  have h1:=ha.get i
  have h2:=hb.get i
  obtain ⟨hl,hd,hc,hv⟩:=h
  refine ⟨by simp[hl],hd.snoc (by omega),by omega,?_⟩
  rw[nv_snoc,hl,nv_take_get,nv_take_get,bp_succ]
  generalize hs:c+(a[i]?).getD 0+(b[i]?).getD 0=s at *
  have hm:s=s % 1000000000+1000000000 * (s / 1000000000):=by omega
  generalize s % 1000000000=r at *
  generalize s / 1000000000=q at *
  generalize (a[i]?).getD 0=x at *
  generalize (b[i]?).getD 0=y at *
  generalize bp i=p at *
  grind
theorem spec_add {m n:Nat} (hm:(dg m).length≤1073740000) (hn:(dg n).length≤1073740000):M_spec_l02Add (dg m) (dg n)=some (dg (m+n)):=by
  unfold M_spec_l02Add L_spec_l02Add_0
  have ha:=dg_dig m
  have hb:=dg_dig n
  have hca:=dg_can m
  have hcb:=dg_can n
  have hva:=nv_dg m
  have hvb:=nv_dg n
  generalize dg m=a at *
  generalize dg n=b at *
  let k:=max a.length b.length
  have hk:a.length≤k∧b.length≤k∧(k=a.length∨k=b.length)∧k≤1073740000:=by omega
  obtain ⟨r,h1,h2⟩:=whileO_inv (S:=S_spec_l02Add_0) (fun i x=>∃ c out,x=(a,b,c,(i:Int),out,())∧AddI a b i c out∧(k < i→c=0∧bp k≤nv out)) (k+1) (fun r=>∃ out,r=(out,())∧Can out∧nv out=nv a+nv b)
    (fun i hi x hx=>by
      obtain ⟨c,out,rfl,hI,hlast⟩:=hx
      by_cases hgo:i < a.length∨i < b.length∨0 < c
      · left
        refine ⟨_,specAdd_step ha hb hI.c01 (by have:=hI.len; omega) (by omega) hgo,_,_,rfl,hI.step ha hb,fun hki=>?_⟩
        have hik:i=k:=by omega
        subst hik
        have hA:a.length≤k:=hk.1
        have hB:b.length≤k:=hk.2.1
        have hc:c=1:=by have:=hI.c01; omega
        rw[List.getElem?_eq_none hA,List.getElem?_eq_none hB]
        subst hc
        refine ⟨by simp,?_⟩
        rw[nv_snoc,hI.len]
        have:=nv_nonneg hI.dig
        simp only[Option.getD_none,Int.add_zero]
        have e:(1:Int) % 1000000000=1:=by decide
        rw[e]; omega
      · right
        have hc:c=0:=by have:=hI.c01; omega
        subst hc
        refine ⟨_,specAdd_end (by omega) (by omega),out,rfl,?_⟩
        have hv:=hI.val
        rw[nv_take_all (by omega),nv_take_all (by omega)] at hv
        have hik:i=k:=by omega
        refine ⟨Can.mk' hI.dig fun hne=>?_,by omega⟩
        rw[hI.len]
        have hpos:0 < i:=by
          have:=List.length_pos_iff.2 hne; have:=hI.len; omega
        rcases hk.2.2.1 with e | e
        · have:=hca.low (by intro e'; subst e'; simp at e; omega)
          have h0:=nv_nonneg hb
          rw[hik,e]; omega
        · have:=hcb.low (by intro e'; subst e'; simp at e; omega)
          have h0:=nv_nonneg ha
          rw[hik,e]; omega)
    (fun x hx=>by
      obtain ⟨c,out,rfl,hI,hlast⟩:=hx
      obtain ⟨rfl,hb'⟩:=hlast (by omega)
      refine ⟨_,specAdd_end (by omega) (by omega),out,rfl,?_⟩
      have hv:=hI.val
      rw[nv_take_all (by omega),nv_take_all (by omega)] at hv
      exact ⟨Can.mk' hI.dig fun _=>by rw[hI.len]; simpa using hb',by omega⟩)
    (x:=(a,b,0,0,[],())) ⟨0,[],rfl,⟨rfl,Dig.nil,by omega,by simp[nv]⟩,fun h=>by omega⟩
  rw[h1]
  obtain ⟨out,rfl,h3,h4⟩:=h2
  simp only[Option.bind_some]
  rw[eq_dg h3 (n:=m+n) (by omega)]
end Go.Di
namespace Go.Di
theorem implAdd_step {a b out:List Int} {c:Int} {i:Nat} (ha:Dig a) (hb:Dig b) (hc:0≤c∧c≤1) (ho:out.length≤1073741000) (hi:i < a.length) (hl:a.length≤1073741000) :
    S_impl_natAdd_0 (a,b,c,(a.length:Int),(i:Int),out,())=some (.inl (a,b,(c+(a[i]?).getD 0+(b[i]?).getD 0) / 1000000000,(a.length:Int),((i+1:Nat):Int),out++[(c+(a[i]?).getD 0+(b[i]?).getD 0) % 1000000000],())):=by
  have h1:=ha.get i
  have h2:=hb.get i
  have hw:=wrap_idx (Nat.le_of_lt hi) (show a.length≤1073741824 by omega)
  have hr:=room (show out.length+1≤1073741824 by omega)
  by_cases hB:i < b.length
  · simp only[S_impl_natAdd_0,dlt hi,dlt hB,cond_true,idx_at hi,idx_at hB,Option.bind_some,hr,hw]
    rw[List.getElem?_eq_getElem hi,List.getElem?_eq_getElem hB] at *
    simp only[Option.getD_some] at *
    rw[wrap_add (n:=a[i]+c) (by omega) (by omega),wrap_add (n:=a[i]+c+b[i]) (by omega) (by omega)]
    by_cases hs:a[i]+c+b[i] ≥ 1000000000
    · rw[decide_eq_true hs,cond_true,wrap_add (by omega) (by omega)]
      rw[show (c+a[i]+b[i]) / 1000000000=1 by omega,show (c+a[i]+b[i]) % 1000000000=a[i]+c+b[i] - 1000000000 by omega]
    · rw[decide_eq_false hs,cond_false]
      rw[show (c+a[i]+b[i]) / 1000000000=0 by omega,show (c+a[i]+b[i]) % 1000000000=a[i]+c+b[i] by omega]
  · have hB':decide ((i:Int) < (b.length:Int))=false:=by simpa using hB
    simp only[S_impl_natAdd_0,dlt hi,hB',cond_true,cond_false,idx_at hi,Option.bind_some,hr,hw]
    rw[List.getElem?_eq_getElem hi,List.getElem?_eq_none (by omega:b.length≤i)] at *
    simp only[Option.getD_some,Option.getD_none,Int.add_zero] at *
    rw[wrap_add (n:=a[i]+c) (by omega) (by omega)]
    by_cases hs:a[i]+c ≥ 1000000000
    · rw[decide_eq_true hs,cond_true,wrap_add (by omega) (by omega)]
      rw[show (c+a[i]) / 1000000000=1 by omega,show (c+a[i]) % 1000000000=a[i]+c - 1000000000 by omega]
    · rw[decide_eq_false hs,cond_false]
      rw[show (c+a[i]) / 1000000000=0 by omega,show (c+a[i]) % 1000000000=a[i]+c by omega]
theorem implAdd_loop {a b:List Int} (ha:Dig a) (hb:Dig b) (hl:a.length≤1073741000):∃ c out,L_impl_natAdd_0 a b 0 (a.length:Int) 0 []=some (c,out,())∧AddI a b a.length c out:=by
  unfold L_impl_natAdd_0
  obtain ⟨r,h1,c,out,rfl,h2⟩:=whileO_inv (S:=S_impl_natAdd_0) (fun i x=>∃ c out,x=(a,b,c,(a.length:Int),(i:Int),out,())∧AddI a b i c out) a.length (fun r=>∃ c out,r=(c,out,())∧AddI a b a.length c out)
    (fun i hi x hx=>by
      obtain ⟨c,out,rfl,hI⟩:=hx
      exact .inl ⟨_,implAdd_step ha hb hI.c01 (by have:=hI.len; omega) hi hl,_,_,rfl,hI.step ha hb⟩)
    (fun x hx=>by
      obtain ⟨c,out,rfl,hI⟩:=hx
      exact ⟨_,by simp[S_impl_natAdd_0],c,out,rfl,hI⟩)
    (x:=(a,b,0,(a.length:Int),0,[],())) ⟨0,[],rfl,⟨rfl,Dig.nil,by omega,by simp[nv]⟩⟩
  exact ⟨c,out,h1,h2⟩
theorem implAdd_half {a b:List Int} (ha:Can a) (hb:Can b) (hl:a.length≤1073740000) (hle:b.length≤a.length) {m:Nat} (hm:nv a+nv b=m) :
    ((guardO ((decide (0≤(IntKind.i64.wrap ((a.length:Int)+1)))) && (decide ((IntKind.i64.wrap ((a.length:Int)+1))≤(maxNew:Int))))).bind fun _ =>
    (L_impl_natAdd_0 a b 0 (a.length:Int) 0 (List.replicate 0 0:List Int)).bind fun (carry,out,_) =>
    cond (decide (carry > 0))
      ((guardO (Nat.ble (out.length+1) maxNew)).bind fun _ =>
      some (out++([1]:List Int)))
      (some out))=some (dg m):=by
  have hw:IntKind.i64.wrap ((a.length:Int)+1)=((a.length+1:Nat):Int):=wrap_idx (Nat.le_refl _) (by omega)
  rw[hw]
  have hg:guardO (decide (0≤((a.length+1:Nat):Int)) && decide (((a.length+1:Nat):Int)≤(maxNew:Int)))=some ():=by
    rw[decide_eq_true (by omega),decide_eq_true (by unfold maxNew; omega)]; rfl
  rw[hg,Option.bind_some]
  obtain ⟨c,out,h1,h2⟩:=implAdd_loop ha.1 hb.1 (by omega)
  rw[show (List.replicate 0 0:List Int)=[] from rfl,h1,Option.bind_some]
  simp only[]
  have hv:=h2.val
  rw[nv_take_all (Nat.le_refl _),nv_take_all hle] at hv
  have hlen:=h2.len
  by_cases hc:c > 0
  · have hc1:c=1:=by have:=h2.c01; omega
    subst hc1
    rw[show decide ((1:Int) > 0)=true from rfl,cond_true,room (by omega),Option.bind_some]
    refine congrArg some ?_
    have h0:=nv_nonneg h2.dig
    refine eq_dg (Can.mk' (h2.dig.snoc (by omega)) fun _=>?_) ?_
    · rw[nv_snoc,List.length_append,hlen]; simp; omega
    · rw[nv_snoc,hlen]; omega
  · have hc0:c=0:=by have:=h2.c01; omega
    subst hc0
    rw[show decide ((0:Int) > 0)=false from rfl,cond_false]
    refine congrArg some ?_
    refine eq_dg (Can.mk' h2.dig fun hne=>?_) (by omega)
    have hpos:=List.length_pos_iff.2 hne
    have:=ha.low (by intro e; rw[e] at hlen; simp at hlen; exact hne hlen)
    have h0:=nv_nonneg hb.1
    rw[hlen]; omega
theorem impl_add {m n:Nat} (hm:(dg m).length≤1073740000) (hn:(dg n).length≤1073740000):M_impl_natAdd (dg m) (dg n)=some (dg (m+n)):=by
  unfold M_impl_natAdd
  by_cases h:(dg m).length < (dg n).length
  · rw[dlt h,cond_true]
    exact implAdd_half (dg_can n) (dg_can m) hn (by omega) (by rw[nv_dg,nv_dg]; omega)
  · rw[show decide (((dg m).length:Int) < ((dg n).length:Int))=false by simpa using h,cond_false]
    exact implAdd_half (dg_can m) (dg_can n) hm (by omega) (by rw[nv_dg,nv_dg]; omega)
/-! ### Taken away -/
structure SubI (a b:List Int) (i:Nat) (c:Int) (out:List Int):Prop where
  len:out.length=i
  dig:Dig out
  c01:0≤c∧c≤1
  val:nv out+nv (b.take i)=nv (a.take i)+bp i * c
theorem SubI.step {a b out:List Int} {c:Int} {i:Nat} (h:SubI a b i c out) (_ha:Dig a) (_hb:Dig b) {c' d:Int} (hs:d - 1000000000 * c'=(a[i]?).getD 0 - c - (b[i]?).getD 0) (hd':0≤d∧d < 1000000000) (hc':0≤c'∧c'≤1) :
    SubI a b (i+1) c' (out++[d]):=by
  obtain ⟨hl,hd,hc,hv⟩:=h
  refine ⟨by simp[hl],hd.snoc hd',hc',?_⟩
  rw[nv_snoc,hl,nv_take_get,nv_take_get,bp_succ]
  generalize (a[i]?).getD 0=x at *
  generalize (b[i]?).getD 0=y at *
  generalize bp i=p at *
  grind
theorem SubI.fin {a b out:List Int} {c:Int} (h:SubI a b a.length c out) (ha:Dig a) (_hb:Dig b) (hle:nv b≤nv a) (hlen:b.length≤a.length) {m:Nat} (hm:nv a - nv b=m):tz out=dg m:=by
  have hv:=h.val
  rw[nv_take_all (Nat.le_refl _),nv_take_all hlen] at hv
  have h1:=nv_lt h.dig
  rw[h.len] at h1
  have h2:=nv_lt ha
  have hp:=bp_pos a.length
  have hc:c=0:=by
    have:=h.c01
    by_cases e:c=0
    · exact e
    · have:c=1:=by omega
      subst this
      omega
  subst hc
  rw[tz_dg h.dig]
  congr 1
  omega
theorem specSub_step {a b out:List Int} {c:Int} {i:Nat} (ha:Dig a) (hb:Dig b) (hI:SubI a b i c out) (hi:i < a.length) (hl:a.length≤1073741000) :
    ∃ c' out',S_spec_l02Sub_0 (a,b,c,(a.length:Int),(i:Int),out,())=some (.inl (a,b,c',(a.length:Int),((i+1:Nat):Int),out',()))∧SubI a b (i+1) c' out':=by
  have h1:=ha.get i
  have h2:=hb.get i
  have hc:=hI.c01
  have hw:=wrap_idx (Nat.le_of_lt hi) (show a.length≤1073741824 by omega)
  have hr:=room (show out.length+1≤1073741824 by have:=hI.len; omega)
  have hstep:∀ c' d:Int,d - 1000000000 * c'=(a[i]?).getD 0 - c - (b[i]?).getD 0→0≤d∧d < 1000000000→0≤c'∧c'≤1→SubI a b (i+1) c' (out++[d]):=fun c' d=>hI.step ha hb
  by_cases hB:i < b.length
  · simp only[S_spec_l02Sub_0,dlt hi,dlt hB,cond_true,idx_at hi,idx_at hB,Option.bind_some,hr,hw]
    rw[List.getElem?_eq_getElem hi,List.getElem?_eq_getElem hB] at *
    simp only[Option.getD_some] at *
    rw[wrap_add (n:=a[i] - c) (by omega) (by omega),wrap_add (n:=a[i] - c - b[i]) (by omega) (by omega)]
    by_cases hs:a[i] - c - b[i] < 0
    · rw[decide_eq_true hs,cond_true,wrap_add (by omega) (by omega)]
      exact ⟨_,_,rfl,hstep _ _ (by omega) (by omega) (by omega)⟩
    · rw[decide_eq_false hs,cond_false]
      exact ⟨_,_,rfl,hstep _ _ (by omega) (by omega) (by omega)⟩
  · have hB':decide ((i:Int) < (b.length:Int))=false:=by simpa using hB
    simp only[S_spec_l02Sub_0,dlt hi,hB',cond_true,cond_false,idx_at hi,Option.bind_some,hr,hw]
    rw[List.getElem?_eq_getElem hi,List.getElem?_eq_none (by omega:b.length≤i)] at *
    simp only[Option.getD_some,Option.getD_none] at *
    rw[wrap_add (n:=a[i] - c) (by omega) (by omega)]
    by_cases hs:a[i] - c < 0
    · rw[decide_eq_true hs,cond_true,wrap_add (by omega) (by omega)]
      exact ⟨_,_,rfl,hstep _ _ (by omega) (by omega) (by omega)⟩
    · rw[decide_eq_false hs,cond_false]
      exact ⟨_,_,rfl,hstep _ _ (by omega) (by omega) (by omega)⟩
theorem Can.len_le {a b:List Int} (h:Can a) (k:Can b) (hv:nv a≤nv b):a.length≤b.length:=by
  rcases Nat.lt_or_ge b.length a.length with h1 | h1
  · have:=k.len_lt h h1; omega
  · exact h1
theorem spec_sub {m n:Nat} (hm:(dg m).length≤1073740000) (hnm:n≤m):M_spec_l02Sub (dg m) (dg n)=some (dg (m - n)):=by
  unfold M_spec_l02Sub L_spec_l02Sub_0
  have hca:=dg_can m
  have hcb:=dg_can n
  have hva:=nv_dg m
  have hvb:=nv_dg n
  generalize dg m=a at *
  generalize dg n=b at *
  have hlen:=hcb.len_le hca (by omega)
  obtain ⟨r,h1,c,out,rfl,h2⟩:=whileO_inv (S:=S_spec_l02Sub_0) (fun i x=>∃ c out,x=(a,b,c,(a.length:Int),(i:Int),out,())∧SubI a b i c out) a.length (fun r=>∃ c out,r=(out,())∧SubI a b a.length c out)
    (fun i hi x hx=>by
      obtain ⟨c,out,rfl,hI⟩:=hx
      obtain ⟨c',out',q1,q2⟩:=specSub_step hca.1 hcb.1 hI hi (by omega)
      exact .inl ⟨_,q1,c',out',rfl,q2⟩)
    (fun x hx=>by
      obtain ⟨c,out,rfl,hI⟩:=hx
      exact ⟨_,by simp[S_spec_l02Sub_0],c,out,rfl,hI⟩)
    (x:=(a,b,0,(a.length:Int),0,[],())) ⟨0,[],rfl,⟨rfl,Dig.nil,by omega,by simp[nv]⟩⟩
  rw[h1,Option.bind_some]
  simp only[]
  rw[spec_trim (by have:=h2.len; omega),Option.bind_some,h2.fin hca.1 hcb.1 (by omega) hlen (m:=m - n) (by omega)]
end Go.Di
namespace Go.Di
theorem set_mid {a out:List Int} {i:Nat} {d:Int} (hl:out.length=i) (hi:i < a.length):(out++a.drop i).set i d=(out++[d])++a.drop (i+1):=by
  rw[List.set_append_right _ _ (by omega),hl,Nat.sub_self,List.drop_eq_getElem_cons hi,List.set_cons_zero]
  simp
theorem get_mid {a out:List Int} {i:Nat} (hl:out.length=i) (hi:i < a.length):(out++a.drop i)[i]? = some a[i]:=by
  rw[List.getElem?_append_right (by omega),hl,Nat.sub_self,List.drop_eq_getElem_cons hi]; rfl
theorem idx_get {α:Type} {xs:List α} {i:Nat} {x:α} (h:xs[i]? = some x):idx xs (i:Int)=some x:=by rw[idx_nat]; exact h
theorem implSub_step {a b out:List Int} {c:Int} {i:Nat} (ha:Dig a) (hb:Dig b) (hI:SubI a b i c out) (hi:i < a.length) (hl:a.length≤1073741000) :
    ∃ c' out',S_impl_natSub_0 (b,c,(a.length:Int),(i:Int),out++a.drop i,())=some (.inl (b,c',(a.length:Int),((i+1:Nat):Int),out'++a.drop (i+1),()))∧SubI a b (i+1) c' out':=by
  have h1:=ha.get i
  have h2:=hb.get i
  have hc:=hI.c01
  have hw:=wrap_idx (Nat.le_of_lt hi) (show a.length≤1073741824 by omega)
  have hg:=get_mid hI.len hi
  have hstep:∀ c' d:Int,d - 1000000000 * c'=(a[i]?).getD 0 - c - (b[i]?).getD 0→0≤d∧d < 1000000000→0≤c'∧c'≤1→SubI a b (i+1) c' (out++[d]):=fun c' d=>hI.step ha hb
  by_cases hB:i < b.length
  · simp only[S_impl_natSub_0,dlt hi,dlt hB,cond_true,idx_get hg,Int.toNat_natCast,hg,idx_at hB,Option.bind_some,hw,set_mid hI.len hi]
    rw[List.getElem?_eq_getElem hi,List.getElem?_eq_getElem hB] at *
    simp only[Option.getD_some] at *
    rw[wrap_add (n:=a[i] - c) (by omega) (by omega),wrap_add (n:=a[i] - c - b[i]) (by omega) (by omega)]
    by_cases hs:a[i] - c - b[i] < 0
    · rw[decide_eq_true hs,cond_true,wrap_add (by omega) (by omega)]
      exact ⟨_,_,rfl,hstep _ _ (by omega) (by omega) (by omega)⟩
    · rw[decide_eq_false hs,cond_false]
      exact ⟨_,_,rfl,hstep _ _ (by omega) (by omega) (by omega)⟩
  · have hB':decide ((i:Int) < (b.length:Int))=false:=by simpa using hB
    simp only[S_impl_natSub_0,dlt hi,hB',cond_true,cond_false,idx_get hg,Int.toNat_natCast,hg,Option.bind_some,hw,set_mid hI.len hi]
    rw[List.getElem?_eq_getElem hi,List.getElem?_eq_none (by omega:b.length≤i)] at *
    simp only[Option.getD_some,Option.getD_none] at *
    rw[wrap_add (n:=a[i] - c) (by omega) (by omega)]
    by_cases hs:a[i] - c < 0
    · rw[decide_eq_true hs,cond_true,wrap_add (by omega) (by omega)]
      exact ⟨_,_,rfl,hstep _ _ (by omega) (by omega) (by omega)⟩
    · rw[decide_eq_false hs,cond_false]
      exact ⟨_,_,rfl,hstep _ _ (by omega) (by omega) (by omega)⟩
theorem impl_sub {m n:Nat} (hm:(dg m).length≤1073740000) (hnm:n≤m):M_impl_natSub (dg m) (dg n)=some (dg (m - n)):=by
  unfold M_impl_natSub L_impl_natSub_0 M_impl_copyInts
  have hca:=dg_can m
  have hcb:=dg_can n
  have hva:=nv_dg m
  have hvb:=nv_dg n
  generalize dg m=a at *
  generalize dg n=b at *
  have hlen:=hcb.len_le hca (by omega)
  rw[room (by omega),Option.bind_some,Option.bind_some]
  obtain ⟨r,h1,c,out,rfl,h2⟩:=whileO_inv (S:=S_impl_natSub_0) (fun i x=>∃ c out,x=(b,c,(a.length:Int),(i:Int),out++a.drop i,())∧SubI a b i c out) a.length (fun r=>∃ c out,r=(out,())∧SubI a b a.length c out)
    (fun i hi x hx=>by
      obtain ⟨c,out,rfl,hI⟩:=hx
      obtain ⟨c',out',q1,q2⟩:=implSub_step hca.1 hcb.1 hI hi (by omega)
      exact .inl ⟨_,q1,c',out',rfl,q2⟩)
    (fun x hx=>by
      obtain ⟨c,out,rfl,hI⟩:=hx
      exact ⟨_,by simp[S_impl_natSub_0],c,out,rfl,hI⟩)
    (x:=(b,0,(a.length:Int),0,a,())) ⟨0,[],by simp,⟨rfl,Dig.nil,by omega,by simp[nv]⟩⟩
  rw[h1,Option.bind_some]
  simp only[]
  rw[impl_trim (by have:=h2.len; omega),Option.bind_some,h2.fin hca.1 hcb.1 (by omega) hlen (m:=m - n) (by omega)]
/-! ### Divided by one limb -/
structure SmallI (a:List Int) (d:Int) (i:Nat) (rest:Int) (out:List Int):Prop where
  len:out.length=a.length
  dig:Dig out
  r0:0≤rest∧rest < d
  val:nv (a.drop i)=d * nv (out.drop i)+rest
theorem nv_drop {a:List Int} {i:Nat} (h:i < a.length):nv (a.drop i)=a[i]+1000000000 * nv (a.drop (i+1)):=by
  rw[List.drop_eq_getElem_cons h,nv]
theorem Dig.set {a:List Int} (h:Dig a) (i:Nat) {d:Int} (hd:0≤d∧d < 1000000000):Dig (a.set i d):=fun e he=>by
  rcases List.mem_or_eq_of_mem_set he with h1 | rfl
  · exact h e h1
  · exact hd
theorem SmallI.step {a out:List Int} {d rest:Int} {i:Nat} (h:SmallI a d (i+1) rest out) (ha:Dig a) (hi:i < a.length) (hd:0 < d∧d < 1000000000) :
    SmallI a d i ((rest * 1000000000+a[i]) % d) (out.set i ((rest * 1000000000+a[i]) / d)):=by
  obtain ⟨hl,hdg,hr,hv⟩:=h
  have h1:=ha.at hi
  have hq:(rest * 1000000000+a[i]) / d < 1000000000:=by
    apply Int.ediv_lt_of_lt_mul (by omega)
    have:rest * 1000000000≤(d - 1) * 1000000000:=Int.mul_le_mul_of_nonneg_right (by omega) (by omega)
    omega
  have hq0:0≤(rest * 1000000000+a[i]) / d:=Int.ediv_nonneg (by omega) (by omega)
  refine ⟨by simp[hl],hdg.set i ⟨hq0,hq⟩,⟨Int.emod_nonneg _ (by omega),Int.emod_lt_of_pos _ hd.1⟩,?_⟩
  have hio:i < (out.set i ((rest * 1000000000+a[i]) / d)).length:=by simp; omega
  rw[nv_drop hi,nv_drop hio,hv]
  have e1:(out.set i ((rest * 1000000000+a[i]) / d))[i]=(rest * 1000000000+a[i]) / d:=by simp
  have e2:(out.set i ((rest * 1000000000+a[i]) / d)).drop (i+1)=out.drop (i+1):=by rw[List.drop_set_of_lt (by omega)]
  rw[e1,e2]
  have hdm:=Int.mul_ediv_add_emod (rest * 1000000000+a[i]) d
  generalize (rest * 1000000000+a[i]) / d=q at *
  generalize (rest * 1000000000+a[i]) % d=r at *
  generalize nv (out.drop (i+1))=o at *
  grind
theorem small_loop {S:(List Int × Int × Int × Int × List Int × Unit)→Option ((List Int × Int × Int × Int × List Int × Unit) ⊕ (Int × List Int × Unit))} {a:List Int} {d:Int} (ha:Dig a) (hd:0 < d∧d < 1000000000)
    (hS:∀ (i:Nat) (rest:Int) (out:List Int) (h:i < a.length),out.length=a.length→0≤rest→rest < d→S (a,d,rest,(i:Int),out,())=some (.inl (a,d,(rest * 1000000000+a[i]) % d,(i:Int) - 1,out.set i ((rest * 1000000000+a[i]) / d),())))
    (hE:∀ rest out,S (a,d,rest,-1,out,())=some (.inr (rest,out,()))) :
    ∃ rest out,whileO S (a,d,0,(a.length:Int) - 1,List.replicate a.length 0,())=some (rest,out,())∧out.length=a.length∧Dig out∧0≤rest∧rest < d∧nv a=d * nv out+rest:=by
  obtain ⟨r,h1,rest,out,rfl,hI⟩:=whileO_inv (S:=S) (fun k x=>∃ rest out,x=(a,d,rest,((a.length - k:Nat):Int) - 1,out,())∧SmallI a d (a.length - k) rest out) a.length (fun r=>∃ rest out,r=(rest,out,())∧SmallI a d 0 rest out)
    (fun k hk x hx=>by
      obtain ⟨rest,out,rfl,hI⟩:=hx
      have e:((a.length - k:Nat):Int) - 1=((a.length - (k+1):Nat):Int):=by omega
      have hi:a.length - (k+1) < a.length:=by omega
      have e2:a.length - k=(a.length - (k+1))+1:=by omega
      rw[e]
      refine .inl ⟨_,hS _ rest out hi hI.len hI.r0.1 hI.r0.2,_,_,rfl,?_⟩
      rw[e2] at hI
      exact hI.step ha hi hd)
    (fun x hx=>by
      obtain ⟨rest,out,rfl,hI⟩:=hx
      rw[Nat.sub_self] at *
      exact ⟨_,hE rest out,rest,out,rfl,hI⟩)
    (x:=(a,d,0,(a.length:Int) - 1,List.replicate a.length 0,())) ⟨0,List.replicate a.length 0,by simp,⟨by simp,Dig.zeros _,by omega,by simp[nv]⟩⟩
  exact ⟨rest,out,h1,hI.len,hI.dig,hI.r0.1,hI.r0.2,by have:=hI.val; simpa using this⟩
theorem mk_guard {n:Nat} (h:n≤1073741824):guardO (((decide (0≤(n:Int))) && (decide ((n:Int)≤(n:Int)))) && (decide ((n:Int)≤(maxNew:Int))))=some ():=by
  rw[decide_eq_true (by omega:(0:Int)≤n),decide_eq_true (by omega:(n:Int)≤n),decide_eq_true (by unfold maxNew; omega:(n:Int)≤(maxNew:Int))]; rfl
theorem small_dg {m:Nat} {d:Nat} {out:List Int} {rest:Int} (hd:Dig out) (h0:0≤rest) (h1:rest < d) (hv:nv (dg m)=d * nv out+rest):tz out=dg (m / d)∧rest=((m % d:Nat):Int):=by
  rw[nv_dg] at hv
  have hn:=nv_nonneg hd
  have hpos:(0:Int) < d:=by omega
  have e1:(m:Int) / d=nv out:=by
    rw[hv,Int.add_comm,Int.add_mul_ediv_left _ _ (by omega),Int.ediv_eq_zero_of_lt h0 h1]; omega
  have e2:(m:Int) % d=rest:=by
    rw[hv,Int.add_comm,Int.add_mul_emod_self_left,Int.emod_eq_of_lt h0 h1]
  refine ⟨?_,by rw[← e2]; simp⟩
  rw[tz_dg hd]
  have e3:((m / d:Nat):Int)=(m:Int) / (d:Int):=by simp
  refine congrArg dg ?_
  omega
theorem small_step {a out:List Int} {d rest:Int} {i:Nat} (ha:Dig a) (hd:0 < d∧d < 1000000000) (h:i < a.length) (hl:a.length≤1073741824) (ho:out.length=a.length) (h0:0≤rest) (h1:rest < d) :
    S_spec_l02Small_0 (a,d,rest,(i:Int),out,())=some (.inl (a,d,(rest * 1000000000+a[i]) % d,(i:Int) - 1,out.set i ((rest * 1000000000+a[i]) / d),())):=by
  have hx:=ha.at h
  have hdn:guardO (d != 0)=some ():=by
    have:(d != 0)=true:=by simp; omega
    rw[this]; rfl
  have hq0:0≤(rest * 1000000000+a[i]) / d:=Int.ediv_nonneg (by omega) (by omega)
  have hq:(rest * 1000000000+a[i]) / d < 1000000000:=by
    apply Int.ediv_lt_of_lt_mul (by omega)
    have:rest * 1000000000≤(d - 1) * 1000000000:=Int.mul_le_mul_of_nonneg_right (by omega) (by omega)
    omega
  simp only[S_spec_l02Small_0,show decide ((i:Int) ≥ 0)=true by simp,cond_true,idx_at h,idx_at (show i < out.length by omega),hdn,Option.bind_some,Int.toNat_natCast]
  rw[wrap_add (n:=rest * 1000000000) (by omega) (by omega),wrap_add (n:=rest * 1000000000+a[i]) (by omega) (by omega),Int.tmod_eq_emod_of_nonneg (by omega),Int.tdiv_eq_ediv_of_nonneg (by omega),wrap_add (n:=(i:Int) - 1) (by omega) (by omega),wrap_add (by omega) (by omega)]
theorem spec_small {m d:Nat} (hm:(dg m).length≤1073740000) (hd:0 < d∧d < 1000000000):M_spec_l02Small (dg m) (d:Int)=some (dg (m / d),((m % d:Nat):Int)):=by
  unfold M_spec_l02Small L_spec_l02Small_0
  have ha:=dg_dig m
  rw[mk_guard (by omega),Option.bind_some,Int.toNat_natCast,wrap_i64 (by omega) (by omega)]
  obtain ⟨rest,out,h1,h2,h3,h4,h5,h6⟩:=small_loop (S:=S_spec_l02Small_0) (d:=(d:Int)) ha (by omega) (fun i rest out h ho h0 h1=>small_step ha (by omega) h (by omega) ho h0 h1) (by simp[S_spec_l02Small_0])
  rw[h1,Option.bind_some]
  try simp only[]
  obtain ⟨e1,e2⟩:=small_dg h3 h4 h5 h6
  rw[spec_trim (by omega),Option.bind_some,e1,e2]
theorem impl_small {m d:Nat} (hm:(dg m).length≤1073740000) (hd:0 < d∧d < 1000000000):M_impl_divSmall (dg m) (d:Int)=some (dg (m / d),dg (m % d)):=by
  unfold M_impl_divSmall L_impl_divSmall_0
  have ha:=dg_dig m
  rw[mk_guard (by omega),Option.bind_some,Int.toNat_natCast,wrap_i64 (by omega) (by omega)]
  obtain ⟨rest,out,h1,h2,h3,h4,h5,h6⟩:=small_loop (S:=S_impl_divSmall_0) (d:=(d:Int)) ha (by omega) (fun i rest out h ho h0 h1=>small_step ha (by omega) h (by omega) ho h0 h1) (by simp[S_impl_divSmall_0])
  rw[h1,Option.bind_some]
  simp only[]
  obtain ⟨e1,e2⟩:=small_dg h3 h4 h5 h6
  have:m % d < d:=Nat.mod_lt _ hd.1
  rw[impl_trim (by omega),Option.bind_some,e1,e2,impl_natOf (by omega),Option.bind_some,Int.toNat_natCast]
end Go.Di
namespace Go.Di
theorem nv_set:∀ {xs:List Int} {i:Nat} {d:Int} (h:i < xs.length),nv (xs.set i d)=nv xs+bp i * (d - xs[i])
  | x :: r,0,d,h=>by simp[nv,bp_zero]; omega
  | x :: r,i+1,d,h=>by
    have hi:i < r.length:=by simpa using h
    rw[List.set_cons_succ,nv,nv_set hi,bp_succ,nv]
    have:(x :: r)[i+1]=r[i]:=rfl
    rw[this]
    generalize bp i=p
    generalize nv r=v
    grind
structure MulI (b out0:List Int) (i:Nat) (x:Int) (j:Nat) (c:Int) (out:List Int):Prop where
  len:out.length=out0.length
  dig:Dig out
  c0:0≤c∧c < 1000000000
  rest:∀ k,i+b.length≤k→out[k]? = out0[k]?
  val:nv out+bp (i+j) * c=nv out0+bp i * (x * nv (b.take j))
theorem mul_bound {e x y c:Int} (he:0≤e∧e < 1000000000) (hx:0≤x∧x < 1000000000) (hy:0≤y∧y < 1000000000) (hc:0≤c∧c < 1000000000):0≤x * y∧x * y≤999999998000000001∧0≤e+x * y+c∧e+x * y+c < 1000000000000000000:=by
  have h0:=Int.mul_nonneg hx.1 hy.1
  have h1:x * y≤999999999 * 999999999:=Int.mul_le_mul (by omega) (by omega) hy.1 (by omega)
  omega
theorem MulI.step {b out0 out:List Int} {i j:Nat} {x c:Int} (h:MulI b out0 i x j c out) (hb:Dig b) (hx:0≤x∧x < 1000000000) (hj:j < b.length) (hk:i+j < out.length) :
    MulI b out0 i x (j+1) ((out[i+j]+x * b[j]+c) / 1000000000) (out.set (i+j) ((out[i+j]+x * b[j]+c) % 1000000000)):=by
  obtain ⟨hl,hd,hc,hr,hv⟩:=h
  have he:=hd.at hk
  have hy:=hb.at hj
  obtain ⟨_,_,h3,h4⟩:=mul_bound he hx hy hc
  refine ⟨by simp[hl],hd.set _ (by omega),by omega,fun k hk'=>?_,?_⟩
  · rw[List.getElem?_set_ne (by omega)]; exact hr k hk'
  · rw[nv_set hk,nv_take_succ hj,show i+(j+1)=(i+j)+1 from rfl,bp_succ,bp_add] at *
    generalize hn:out[i+j]+x * b[j]+c=n at *
    have hm:n=n % 1000000000+1000000000 * (n / 1000000000):=by omega
    generalize n % 1000000000=r at *
    generalize n / 1000000000=q at *
    generalize out[i+j]=e at *
    generalize b[j]=y at *
    generalize nv (b.take j)=v at *
    generalize bp i=p at *
    generalize bp j=p' at *
    grind
def InnerS (S:(List Int × Int × Int × Int × List Int × Int × Int × List Int × Int × Int × List Int × Unit)→Option ((List Int × Int × Int × Int × List Int × Int × Int × List Int × Int × Int × List Int × Unit) ⊕ (List Int × Int × Int × List Int × Int × Int × List Int × Unit))):Prop :=
  (∀ (b t out:List Int) (i j:Nat) (x c t1 t2:Int) (hj:j < b.length) (hk:i+j < out.length),Dig b→Dig out→0≤x∧x < 1000000000→0≤c∧c < 1000000000→out.length≤1073741824 →
    S (b,(i:Int),x,c,t,t1,t2,b,(b.length:Int),(j:Int),out,())=some (.inl (b,(i:Int),x,(out[i+j]+x * b[j]+c) / 1000000000,t,t1,t2,b,(b.length:Int),((j+1:Nat):Int),out.set (i+j) ((out[i+j]+x * b[j]+c) % 1000000000),()))) ∧
  ∀ (b t out:List Int) (i x c t1 t2:Int),S (b,i,x,c,t,t1,t2,b,(b.length:Int),(b.length:Int),out,())=some (.inr (b,i,c,t,t1,t2,out,()))
theorem inner_spec:InnerS S_spec_l02Mul_1:=by
  refine ⟨fun b t out i j x c t1 t2 hj hk hb ho hx hc hl=>?_,fun b t out i x c t1 t2=>by simp[S_spec_l02Mul_1]⟩
  obtain ⟨h1,h2,h3,h4⟩:=mul_bound (ho.at hk) hx (hb.at hj) hc
  have he:=ho.at hk
  have e1:IntKind.i64.wrap ((i:Int)+(j:Int))=((i+j:Nat):Int):=by rw[wrap_i64 (by omega) (by omega)]; omega
  have e2:IntKind.i64.wrap ((j:Int)+1)=((j+1:Nat):Int):=by rw[wrap_i64 (by omega) (by omega)]; omega
  simp only[S_spec_l02Mul_1,dlt hj,cond_true,idx_at hj,e1,idx_at hk,Int.toNat_natCast,List.getElem?_eq_getElem hk,Option.bind_some,e2]
  rw [wrap_add (n:=x * b[j]) (by omega) (by omega),wrap_add (n:=out[i+j]+x * b[j]) (by omega) (by omega),wrap_add (n:=out[i+j]+x * b[j]+c) (by omega) (by omega),
    Int.tdiv_eq_ediv_of_nonneg h3,Int.tmod_eq_emod_of_nonneg h3,wrap_add (by omega) (by omega)]
theorem inner_impl:InnerS S_impl_natMul_1:=inner_spec
theorem inner_loop {S:(List Int × Int × Int × Int × List Int × Int × Int × List Int × Int × Int × List Int × Unit)→Option ((List Int × Int × Int × Int × List Int × Int × Int × List Int × Int × Int × List Int × Unit) ⊕ (List Int × Int × Int × List Int × Int × Int × List Int × Unit))} (hS:InnerS S)
    {b t out0:List Int} {i:Nat} {x t1 t2:Int} (hb:Dig b) (hd:Dig out0) (hx:0≤x∧x < 1000000000) (hl:out0.length≤1073741824) (hfit:i+b.length≤out0.length) :
    ∃ c out,whileO S (b,(i:Int),x,0,t,t1,t2,b,(b.length:Int),0,out0,())=some (b,(i:Int),c,t,t1,t2,out,())∧MulI b out0 i x b.length c out:=by
  obtain ⟨r,h1,c,out,rfl,h2⟩:=whileO_inv (S:=S) (fun j y=>∃ c out,y=(b,(i:Int),x,c,t,t1,t2,b,(b.length:Int),(j:Int),out,())∧MulI b out0 i x j c out) b.length (fun r=>∃ c out,r=(b,(i:Int),c,t,t1,t2,out,())∧MulI b out0 i x b.length c out)
    (fun j hj y hy=>by
      obtain ⟨c,out,rfl,hI⟩:=hy
      have hk:i+j < out.length:=by rw[hI.len]; omega
      exact .inl ⟨_,hS.1 b t out i j x c t1 t2 hj hk hb hI.dig hx hI.c0 (by rw[hI.len]; exact hl),_,_,rfl,hI.step hb hx hj hk⟩)
    (fun y hy=>by
      obtain ⟨c,out,rfl,hI⟩:=hy
      exact ⟨_,hS.2 b t out i x c t1 t2,c,out,rfl,hI⟩)
    (x:=(b,(i:Int),x,0,t,t1,t2,b,(b.length:Int),0,out0,())) ⟨0,out0,rfl,⟨rfl,hd,by omega,fun _ _=>rfl,by simp[nv]⟩⟩
  exact ⟨c,out,h1,h2⟩
structure OutI (a b:List Int) (i:Nat) (out:List Int):Prop where
  len:out.length=a.length+b.length
  dig:Dig out
  zero:∀ k,i+b.length≤k→k < out.length→out[k]? = some 0
  val:nv out=nv (a.take i) * nv b
theorem OutI.step {a b out0 out:List Int} {i:Nat} {c:Int} (h:OutI a b i out0) (hi:i < a.length) (hm:MulI b out0 i a[i] b.length c out) :
    out[i+b.length]? = some 0∧OutI a b (i+1) (out.set (i+b.length) c):=by
  have hlen:i+b.length < out.length:=by rw[hm.len,h.len]; omega
  have hz:out[i+b.length]? = some 0:=by rw[hm.rest _ (Nat.le_refl _)]; exact h.zero _ (Nat.le_refl _) (by rw[h.len]; omega)
  have hz':out[i+b.length]=0:=by rw[List.getElem?_eq_getElem hlen] at hz; simpa using hz
  refine ⟨hz,by simp[hm.len,h.len],hm.dig.set _ hm.c0,fun k hk hk'=>?_,?_⟩
  · rw[List.getElem?_set_ne (by omega),hm.rest k (by omega)]
    exact h.zero k (by omega) (by rw[List.length_set,hm.len] at hk'; exact hk')
  · rw[nv_set hlen,hz']
    have hv:=hm.val
    rw[h.val,List.take_length] at hv
    rw[nv_take_succ hi]
    generalize bp (i+b.length)=q at *
    generalize bp i=p at *
    generalize nv (a.take i)=u at *
    generalize nv b=v at *
    generalize a[i]=x at *
    grind
theorem spec_mul {m n:Nat} (hm:(dg m).length≤500000000) (hn:(dg n).length≤500000000):M_spec_l02Mul (dg m) (dg n)=some (dg (m * n)):=by
  unfold M_spec_l02Mul
  have ha:=dg_dig m
  have hb:=dg_dig n
  have hva:=nv_dg m
  have hvb:=nv_dg n
  by_cases hm0:m=0
  · subst hm0; rw[dg_zero]; simp[dg_zero]
  by_cases hn0:n=0
  · subst hn0; rw[dg_zero]; cases (((dg m).length:Int)==0)<;>simp[dg_zero]
  have ea:(((dg m).length:Int)==0)=false:=by have:=List.length_pos_iff.2 (fun e=>hm0 (dg_nil.1 e)); rw[beq_eq_false_iff_ne]; omega
  have eb:(((dg n).length:Int)==0)=false:=by have:=List.length_pos_iff.2 (fun e=>hn0 (dg_nil.1 e)); rw[beq_eq_false_iff_ne]; omega
  rw[ea,eb,cond_false,cond_false]
  generalize dg m=a at *
  generalize dg n=b at *
  have ew:IntKind.i64.wrap ((a.length:Int)+(b.length:Int))=((a.length+b.length:Nat):Int):=by rw[wrap_i64 (by omega) (by omega)]; omega
  rw[ew,mk_guard (by omega),Option.bind_some,Int.toNat_natCast]
  unfold L_spec_l02Mul_0
  obtain ⟨r,h1,out,rfl,hI⟩:=whileO_inv (S:=S_spec_l02Mul_0) (fun i y=>∃ out,y=(b,a,(a.length:Int),(i:Int),out,())∧OutI a b i out) a.length (fun r=>∃ out,r=(out,())∧OutI a b a.length out)
    (fun i hi y hy=>by
      obtain ⟨out0,rfl,hI⟩:=hy
      obtain ⟨c,out,q1,q2⟩:=inner_loop inner_spec (t:=a) (t1:=(a.length:Int)) (t2:=(i:Int)) (i:=i) (x:=a[i]) hb hI.dig (ha.at hi) (by rw[hI.len]; omega) (by rw[hI.len]; omega)
      obtain ⟨hz,hI'⟩:=hI.step hi q2
      left
      refine ⟨_,?_,_,rfl,hI'⟩
      have e1:IntKind.i64.wrap ((i:Int)+(b.length:Int))=((i+b.length:Nat):Int):=by rw[wrap_i64 (by omega) (by omega)]; omega
      have e2:IntKind.i64.wrap ((i:Int)+1)=((i+1:Nat):Int):=by rw[wrap_i64 (by omega) (by omega)]; omega
      simp only[S_spec_l02Mul_0,L_spec_l02Mul_1,dlt hi,cond_true,idx_at hi,Option.bind_some,q1,e1,idx_get hz,Int.toNat_natCast,e2])
    (fun y hy=>by
      obtain ⟨out,rfl,hI⟩:=hy
      exact ⟨_,by simp[S_spec_l02Mul_0],out,rfl,hI⟩)
    (x:=(b,a,(a.length:Int),0,List.replicate (a.length+b.length) 0,())) ⟨_,rfl,⟨by simp,Dig.zeros _,fun k _ hk=>by simp at hk; simp[hk],by simp[nv,nv_zeros]⟩⟩
  rw[h1,Option.bind_some]
  simp only[]
  rw[spec_trim (by rw[hI.len]; omega),Option.bind_some,tz_dg hI.dig,hI.val,List.take_length,hva,hvb]
  rfl
theorem impl_mul {m n:Nat} (hm:(dg m).length≤500000000) (hn:(dg n).length≤500000000):M_impl_natMul (dg m) (dg n)=some (dg (m * n)):=by
  unfold M_impl_natMul
  have ha:=dg_dig m
  have hb:=dg_dig n
  have hva:=nv_dg m
  have hvb:=nv_dg n
  generalize dg m=a at *
  generalize dg n=b at *
  have ew:IntKind.i64.wrap ((a.length:Int)+(b.length:Int))=((a.length+b.length:Nat):Int):=by rw[wrap_i64 (by omega) (by omega)]; omega
  rw[ew,mk_guard (by omega),Option.bind_some,Int.toNat_natCast]
  unfold L_impl_natMul_0
  obtain ⟨r,h1,out,rfl,hI⟩:=whileO_inv (S:=S_impl_natMul_0) (fun i y=>∃ out,y=(b,a,(a.length:Int),(i:Int),out,())∧OutI a b i out) a.length (fun r=>∃ out,r=(out,())∧OutI a b a.length out)
    (fun i hi y hy=>by
      obtain ⟨out0,rfl,hI⟩:=hy
      obtain ⟨c,out,q1,q2⟩:=inner_loop inner_impl (t:=a) (t1:=(a.length:Int)) (t2:=(i:Int)) (i:=i) (x:=a[i]) hb hI.dig (ha.at hi) (by rw[hI.len]; omega) (by rw[hI.len]; omega)
      obtain ⟨hz,hI'⟩:=hI.step hi q2
      left
      have hc:=q2.c0
      refine ⟨_,?_,_,rfl,hI'⟩
      have e1:IntKind.i64.wrap ((i:Int)+(b.length:Int))=((i+b.length:Nat):Int):=by rw[wrap_i64 (by omega) (by omega)]; omega
      have e2:IntKind.i64.wrap ((i:Int)+1)=((i+1:Nat):Int):=by rw[wrap_i64 (by omega) (by omega)]; omega
      have e3:IntKind.i64.wrap (0+c)=c:=by rw[wrap_i64 (by omega) (by omega)]; omega
      simp only[S_impl_natMul_0,L_impl_natMul_1,dlt hi,cond_true,idx_at hi,Option.bind_some,q1,e1,idx_get hz,Int.toNat_natCast,hz,e2,e3])
    (fun y hy=>by
      obtain ⟨out,rfl,hI⟩:=hy
      exact ⟨_,by simp[S_impl_natMul_0],out,rfl,hI⟩)
    (x:=(b,a,(a.length:Int),0,List.replicate (a.length+b.length) 0,())) ⟨_,rfl,⟨by simp,Dig.zeros _,fun k _ hk=>by simp at hk; simp[hk],by simp[nv,nv_zeros]⟩⟩
  rw[h1,Option.bind_some]
  simp only[]
  rw[impl_trim (by rw[hI.len]; omega),Option.bind_some,tz_dg hI.dig,hI.val,List.take_length,hva,hvb]
  rfl
end Go.Di
namespace Go.Di
theorem whileO_meas {σ ρ:Type} {S:σ→Option (σ ⊕ ρ)} (I:σ→Prop) (μ:σ→Nat) (Q:ρ→Prop)
    (h:∀ x,I x→(∃ y,S x=some (.inl y)∧I y∧μ y < μ x)∨∃ r,S x=some (.inr r)∧Q r):∀ {x:σ},I x→∃ r,whileO S x=some r∧Q r:=by
  have key:∀ (n:Nat) (x:σ),μ x=n→I x→∃ r,whileO S x=some r∧Q r:=by
    intro n
    induction n using Nat.strongRecOn with
    | _ n ih =>
      intro x hn hI
      rcases h x hI with ⟨y,h1,h2,h3⟩ | ⟨r,h1,h2⟩
      · obtain ⟨r,h4,h5⟩:=ih (μ y) (by omega) y rfl h2
        exact ⟨r,(whileO_inl h1).trans h4,h5⟩
      · exact ⟨r,whileO_inr h1,h2⟩
  exact fun {x} hI=>key _ x rfl hI
theorem len_dg_mono {m n:Nat} (h:m≤n):(dg m).length≤(dg n).length:=len_dg.2 (by have:=(len_dg (n:=n)).1 (Nat.le_refl _); omega)
theorem len_dg_mul (m n:Nat):(dg (m * n)).length≤(dg m).length+(dg n).length:=by
  rw[len_dg,bp_add]
  have h1:=(len_dg (n:=m)).1 (Nat.le_refl _)
  have h2:=(len_dg (n:=n)).1 (Nat.le_refl _)
  have h3:=bp_pos (dg m).length
  have h4:=bp_pos (dg n).length
  have:((m * n:Nat):Int)=(m:Int) * (n:Int):=by simp
  rw[this]
  by_cases hn:n=0
  · subst hn; simp; exact Int.mul_pos h3 h4
  · calc (m:Int) * n < bp (dg m).length * n:=Int.mul_lt_mul_of_pos_right h1 (by omega)
      _≤bp (dg m).length * bp (dg n).length:=Int.mul_le_mul_of_nonneg_left (by omega) (by omega)
theorem cmpI_le {x y:Int}:decide (cmpI x y≤0)=decide (x≤y):=by
  unfold cmpI
  split
  · simp; omega
  · split<;>simp<;>omega
theorem cmpI_lt {x y:Int}:decide (cmpI x y < 0)=decide (x < y):=by
  unfold cmpI
  split
  · simp; omega
  · split<;>simp<;>omega
theorem cmpI_ge {x y:Int}:decide (cmpI x y ≥ 0)=decide (y≤x):=by
  unfold cmpI
  split
  · simp; omega
  · split<;>simp<;>omega
theorem spec_digit {r b:Nat} (_hr:(dg r).length≤400000000) (hb:(dg b).length≤400000000) (h0:0 < b) (hlt:r < 1000000000 * b):M_spec_l02Digit (dg r) (dg b)=some ((r / b:Nat):Int):=by
  unfold M_spec_l02Digit L_spec_l02Digit_0
  have hq:r / b < 1000000000:=Nat.div_lt_of_lt_mul (by rw[Nat.mul_comm]; exact hlt)
  obtain ⟨y, h1,h2⟩:=whileO_meas (S:=S_spec_l02Digit_0) (fun x=>∃ lo hi:Nat,x=(dg r,dg b,(lo:Int),(hi:Int),())∧lo≤r / b∧r / b≤hi∧hi≤999999999) (fun x=>(x.2.2.2.1 - x.2.2.1).toNat) (fun y=>y=(((r / b:Nat):Int),()))
    (fun x hx=>by
      obtain ⟨lo,hi,rfl,k1,k2,k3⟩:=hx
      by_cases hlh:lo < hi
      · left
        have hq:IntKind.i64.wrap ((IntKind.i64.wrap ((IntKind.i64.wrap ((lo:Int)+hi))+1)).tdiv 2)=(((lo+hi+1) / 2:Nat):Int):=by
          rw[wrap_add (n:=(lo:Int)+hi) (by omega) (by omega),wrap_add (n:=(lo:Int)+hi+1) (by omega) (by omega),Int.tdiv_eq_ediv_of_nonneg (by omega),wrap_add (by omega) (by omega)]
          omega
        have hm:(lo+hi+1) / 2≤999999999:=by omega
        have hl3:=len_small (show (lo+hi+1) / 2≤9223372036854775807 by omega)
        have hml:=len_dg_mul b ((lo+hi+1) / 2)
        have hcmp:=spec_cmp (dg_can (b * ((lo+hi+1) / 2))) (dg_can r) (by omega)
        rw[nv_dg,nv_dg] at hcmp
        generalize hmid:(lo+hi+1) / 2=q at *
        have hqb:0 < q:=by omega
        simp only[S_spec_l02Digit_0,show decide ((lo:Int) < (hi:Int))=true by simpa using hlh,cond_true,hq,spec_natOf (show (q:Int)≤9223372036854775807 by omega),Int.toNat_natCast,Option.bind_some,spec_mul (show (dg b).length≤500000000 by omega) (show (dg q).length≤500000000 by omega),hcmp,cmpI_le]
        by_cases hle:b * q≤r
        · have hd:decide (((b * q:Nat):Int)≤(r:Int))=true:=by simpa using (by exact_mod_cast hle:((b * q:Nat):Int)≤(r:Int))
          rw[hd,cond_true]
          refine ⟨_,rfl,⟨q,hi,rfl,?_,k2,k3⟩,by simp; omega⟩
          exact (Nat.le_div_iff_mul_le h0).2 (by rw[Nat.mul_comm]; exact hle)
        · have hd:decide (((b * q:Nat):Int)≤(r:Int))=false:=by
            rw[decide_eq_false_iff_not]; intro hh; exact hle (by exact_mod_cast hh)
          rw[hd,cond_false]
          have e:IntKind.i64.wrap ((q:Int) - 1)=((q - 1:Nat):Int):=by rw[wrap_add (by omega) (by omega)]; omega
          rw[e]
          refine ⟨_,rfl,⟨lo,q - 1,rfl,k1,?_,by omega⟩,by simp; omega⟩
          have:r / b < q:=(Nat.div_lt_iff_lt_mul h0).2 (by rw[Nat.mul_comm]; omega)
          omega
      · right
        have hlo:lo=r / b:=by omega
        have hd:decide ((lo:Int) < (hi:Int))=false:=by simpa using hlh
        refine ⟨((lo:Int),()),?_,by rw[hlo]⟩
        simp only[S_spec_l02Digit_0,hd,cond_false])
    (x:=(dg r,dg b,0,999999999,())) ⟨0,999999999,rfl,Nat.zero_le _,by omega,by omega⟩
  rw[h1,h2]; rfl
end Go.Di
namespace Go.Di
structure DivI (a:List Int) (n:Nat) (i:Nat) (out:List Int) (rv:Nat):Prop where
  len:out.length=a.length
  dig:Dig out
  zero:∀ k,k < i→k < a.length→out[k]? = some 0
  lt:rv < n
  val:nv (a.drop i)=n * nv (out.drop i)+rv
theorem nat_lt_lit {q:Nat} (h:q < 1000000000):(q:Int) < 1000000000:=by omega
theorem DivI.step {a out:List Int} {n i rv:Nat} (h:DivI a n (i+1) out rv) (ha:Dig a) (hi:i < a.length) (hn:0 < n) {x:Nat} (hx:(x:Int)=a[i]+1000000000 * rv) :
    DivI a n i (out.set i ((x / n:Nat):Int)) (x % n):=by
  obtain ⟨hl,hd,hz,hlt,hv⟩:=h
  have h1:=ha.at hi
  have hxlt:x < 1000000000 * n:=by
    have:1000000000 * (rv:Int)≤1000000000 * ((n:Int) - 1):=Int.mul_le_mul_of_nonneg_left (by omega) (by omega)
    omega
  have hq:x / n < 1000000000:=Nat.div_lt_of_lt_mul (by rw[Nat.mul_comm]; exact hxlt)
  have hq0:0≤((x / n:Nat):Int)∧((x / n:Nat):Int) < 1000000000:=⟨Int.natCast_nonneg _,nat_lt_lit hq⟩
  refine ⟨by simp[hl],hd.set i hq0,fun k hk hk'=>?_,Nat.mod_lt _ hn,?_⟩
  · rw[List.getElem?_set_ne (by omega)]; exact hz k (by omega) hk'
  · have hio:i < (out.set i ((x / n:Nat):Int)).length:=by simp; omega
    rw[nv_drop hi,nv_drop hio,hv]
    have e1:(out.set i ((x / n:Nat):Int))[i]=((x / n:Nat):Int):=by simp
    have e2:(out.set i ((x / n:Nat):Int)).drop (i+1)=out.drop (i+1):=by rw[List.drop_set_of_lt (by omega)]
    rw[e1,e2]
    have hdm:(n:Int) * ((x / n:Nat):Int)+((x % n:Nat):Int)=(x:Int):=by exact_mod_cast Nat.div_add_mod x n
    generalize ((x / n:Nat):Int)=q at *
    generalize ((x % n:Nat):Int)=r at *
    generalize nv (out.drop (i+1))=o at *
    grind
theorem set_same_zero {out:List Int} {i:Nat} (h:out[i]? = some 0):out.set i 0=out:=by
  apply List.ext_getElem?
  intro j
  rw[List.getElem?_set]
  split
  · rename_i e; subst e
    split
    · exact h.symm
    · rename_i hn; rw[List.getElem?_eq_none (by omega)] at h; cases h
  · rfl
theorem specDiv_step {a out:List Int} {n i rv:Nat} (hI:DivI a n (i+1) out rv) (ha:Dig a) (hi:i < a.length) (hn:0 < n) (hl:a.length≤100000000) (hln:(dg n).length≤100000000) :
    ∃ out' rv',S_spec_l02Div_0 (a,dg n,(i:Int),out,dg rv,())=some (.inl (a,dg n,(i:Int) - 1,out',dg rv',()))∧DivI a n i out' rv':=by
  have h1:=ha.at hi
  let x:Nat:=a[i].toNat+1000000000 * rv
  have hx:(x:Int)=a[i]+1000000000 * rv:=by simp only[x]; omega
  have hxlt:x < 1000000000 * n:=by
    have:=hI.lt
    have:1000000000 * (rv:Int)≤1000000000 * ((n:Int) - 1):=Int.mul_le_mul_of_nonneg_left (by omega) (by omega)
    omega
  have hr:=len_dg_mono (Nat.le_of_lt hI.lt)
  have htz:tz ([a[i]]++dg rv)=dg x:=by
    rw[tz_dg (Dig.append (Dig.cons h1 Dig.nil) (dg_dig rv)),nv_append,nv_dg]
    refine congrArg dg ?_
    simp only[nv,List.length_cons,List.length_nil,bp_succ,bp_zero]
    omega
  have hxl:(dg x).length≤(dg n).length+2:=by
    have h2:=len_dg_mono (Nat.le_of_lt hxlt)
    have h3:=len_dg_mul 1000000000 n
    have h4:(dg 1000000000).length≤2:=len_dg.2 (by simp[bp])
    omega
  refine ⟨out.set i ((x / n:Nat):Int),x % n,?_,hI.step ha hi hn hx⟩
  have hcmp:=spec_cmp (dg_can x) (dg_can n) (by omega)
  rw[nv_dg,nv_dg] at hcmp
  have e0:IntKind.i64.wrap ((i:Int) - 1)=(i:Int) - 1:=wrap_add (by omega) (by omega)
  have hz:=hI.zero i (by omega) hi
  simp only[S_spec_l02Div_0,show decide ((i:Int) ≥ 0)=true by simp,cond_true,idx_at hi,room (show 1+(dg rv).length≤1073741824 by omega),Option.bind_some,spec_trim (show ([a[i]]++dg rv).length≤1073741824 by simp; omega),htz,hcmp,cmpI_lt,e0]
  by_cases hlt:x < n
  · have hd:decide ((x:Int) < (n:Int))=true:=by simpa using hlt
    rw[hd,cond_true,Nat.div_eq_of_lt hlt,Nat.mod_eq_of_lt hlt]
    rw[show ((0:Nat):Int)=0 from rfl,set_same_zero hz]
  · have hd:decide ((x:Int) < (n:Int))=false:=by simpa using hlt
    have hq:x / n < 1000000000:=Nat.div_lt_of_lt_mul (by rw[Nat.mul_comm]; exact hxlt)
    have hql:=len_small (show x / n≤9223372036854775807 by omega)
    have hle:n * (x / n)≤x:=Nat.mul_div_le x n
    have hsub:x - n * (x / n)=x % n:=by have:=Nat.div_add_mod x n; omega
    simp only[hd,cond_false,spec_digit (show (dg x).length≤400000000 by omega) (show (dg n).length≤400000000 by omega) hn hxlt,Option.bind_some,idx_get hz,spec_natOf (show ((x / n:Nat):Int)≤9223372036854775807 by omega),Int.toNat_natCast,
      spec_mul (show (dg n).length≤500000000 by omega) (show (dg (x / n)).length≤500000000 by omega),spec_sub (show (dg x).length≤1073740000 by omega) hle,hsub]
theorem spec_div {m n:Nat} (hm:(dg m).length≤100000000) (hn:(dg n).length≤100000000) (h0:0 < n):M_spec_l02Div (dg m) (dg n)=some (dg (m / n),dg (m % n)):=by
  unfold M_spec_l02Div
  have hne:dg n≠[]:=fun e=>by have:=dg_nil.1 e; omega
  by_cases h1:(dg n).length=1
  · have hb:(((dg n).length:Int)==1)=true:=by rw[h1]; rfl
    rw[hb,cond_true]
    have hd:=dg_pos (show n≠0 by omega)
    have hnil:dg (n / 1000000000)=[]:=by
      rw[hd] at h1; simpa using h1
    have hsm:n < 1000000000:=by have:=dg_nil.1 hnil; omega
    have e:dg n=[(n:Int)]:=by rw[hd,hnil,Nat.mod_eq_of_lt hsm]
    rw[e,show ((0:Int)=((0:Nat):Int)) from rfl,idx_get (x:=(n:Int)) (by rfl),Option.bind_some,spec_small (by omega) ⟨h0,hsm⟩,Option.bind_some]
    have:m % n < n:=Nat.mod_lt _ h0
    simp only[spec_natOf (show ((m % n:Nat):Int)≤9223372036854775807 by omega),Option.bind_some,Int.toNat_natCast]
  · have hb:(((dg n).length:Int)==1)=false:=by rw[beq_eq_false_iff_ne]; omega
    rw[hb,cond_false,mk_guard (by omega),Option.bind_some,Int.toNat_natCast,wrap_i64 (by omega) (by omega)]
    have ha:=dg_dig m
    have hva:=nv_dg m
    generalize dg m=a at *
    unfold L_spec_l02Div_0
    obtain ⟨r,h1,out,rv,rfl,hI⟩:=whileO_inv (S:=S_spec_l02Div_0) (fun k x=>∃ out rv,x=(a,dg n,((a.length - k:Nat):Int) - 1,out,dg rv,())∧DivI a n (a.length - k) out rv) a.length (fun r=>∃ out rv,r=(out,dg rv,())∧DivI a n 0 out rv)
      (fun k hk x hx=>by
        obtain ⟨out,rv,rfl,hI⟩:=hx
        have e:((a.length - k:Nat):Int) - 1=((a.length - (k+1):Nat):Int):=by omega
        have e2:a.length - k=(a.length - (k+1))+1:=by omega
        rw[e2] at hI
        obtain ⟨out',rv',q1,q2⟩:=specDiv_step hI ha (by omega) h0 hm hn
        rw[e]
        exact .inl ⟨_,q1,out',rv',rfl,q2⟩)
      (fun x hx=>by
        obtain ⟨out,rv,rfl,hI⟩:=hx
        rw[Nat.sub_self] at *
        exact ⟨_,by simp[S_spec_l02Div_0],out,rv,rfl,hI⟩)
      (x:=(a,dg n,(a.length:Int) - 1,List.replicate a.length 0,[],())) ⟨List.replicate a.length 0,0,by simp[dg_zero],⟨by simp,Dig.zeros _,fun k _ hk=>by simp[hk],h0,by simp[nv]⟩⟩
    rw[h1,Option.bind_some]
    simp only[]
    have hv:=hI.val
    simp only[List.drop_zero] at hv
    rw[hva] at hv
    have hnn:=nv_nonneg hI.dig
    have hlt:=hI.lt
    have hvn:m=n * (nv out).toNat+rv:=by
      have:((nv out).toNat:Int)=nv out:=by omega
      rw[← this] at hv
      exact_mod_cast hv
    have e1:m / n=(nv out).toNat:=by rw[hvn,Nat.mul_add_div h0,Nat.div_eq_of_lt hlt,Nat.add_zero]
    have e2:m % n=rv:=by rw[hvn,Nat.mul_add_mod,Nat.mod_eq_of_lt hlt]
    rw[spec_trim (by rw[hI.len]; omega),Option.bind_some,tz_dg hI.dig,e1,e2]
end Go.Di
namespace Go.Di
theorem euclid_loop {S:(Int × Int × Unit)→Option ((Int × Int × Unit) ⊕ (Int × Unit))} (hS:∀ x y:Nat,0 < y→S ((x:Int),(y:Int),())=some (.inl ((y:Int),((x % y:Nat):Int),())))
    (hE:∀ x:Nat,S ((x:Int),0,())=some (.inr ((x:Int),()))):∀ y x:Nat,whileO S ((x:Int),(y:Int),())=some (((Nat.gcd x y:Nat):Int),()):=by
  intro y
  induction y using Nat.strongRecOn with
  | _ y ih =>
    intro x
    by_cases h:y=0
    · subst h
      rw[Nat.gcd_zero_right]; exact whileO_inr (hE x)
    · rw[whileO_inl (hS x y (by omega)),ih (x % y) (Nat.mod_lt _ (by omega)) y]
      rw[Nat.gcd_comm x y,Nat.gcd_rec y x,Nat.gcd_comm (x % y) y]
theorem tmod_nat (x y:Nat):(x:Int).tmod (y:Int)=((x % y:Nat):Int):=by
  rw[Int.tmod_eq_emod_of_nonneg (by omega)]; simp
theorem spec_plain {x y:Nat} (hx:x≤9223372036854775807) (hy:y≤9223372036854775807):M_spec_l02Plain (x:Int) (y:Int)=some (dg (Nat.gcd x y)):=by
  unfold M_spec_l02Plain L_spec_l02Plain_0
  rw [euclid_loop (S:=S_spec_l02Plain_0) (fun x y h=>by
    have h1:decide ((y:Int) > 0)=true:=by simpa using h
    have h2:guardO ((y:Int) != 0)=some ():=by
      have:((y:Int) != 0)=true:=by simp; omega
      rw[this]; rfl
    simp only[S_spec_l02Plain_0,h1,cond_true,h2,Option.bind_some,tmod_nat]) (fun x=>by simp[S_spec_l02Plain_0]) y x,Option.bind_some]
  have hg:Nat.gcd x y≤9223372036854775807:=by
    by_cases h:x=0
    · subst h; simpa using hy
    · exact Nat.le_trans (Nat.gcd_le_left y (by omega)) hx
  simp only[spec_natOf (show ((Nat.gcd x y:Nat):Int)≤9223372036854775807 by omega),Option.bind_some,Int.toNat_natCast]
theorem max_dg:([854775807,223372036,9]:List Int)=dg 9223372036854775807:=by
  refine eq_dg ⟨fun d hd=>?_,by simp[Top0]⟩ (by simp[nv])
  simp at hd
  omega
theorem toInt_loop {S:(List Int × Int × Int × Unit)→Option ((List Int × Int × Int × Unit) ⊕ (Int × Unit))} {a:List Int} (ha:Dig a) (hm:nv a≤9223372036854775807)
    (hS:∀ (i:Nat) (n:Int) (h:i < a.length),0≤n→n * 1000000000+a[i]≤9223372036854775807→S (a,n,(i:Int),())=some (.inl (a,n * 1000000000+a[i],(i:Int) - 1,())))
    (hE:∀ n,S (a,n,-1,())=some (.inr (n,()))):whileO S (a,0,(a.length:Int) - 1,())=some (nv a,()):=by
  have hle:∀ i,nv (a.drop i)≤9223372036854775807:=by
    intro i
    induction i with
    | zero=>simpa using hm
    | succ i ih =>
      by_cases h:i < a.length
      · rw[nv_drop h] at ih
        have:=ha.at h
        have h0:=nv_nonneg (ha.drop (i+1))
        omega
      · rw[List.drop_of_length_le (by omega)]; simp[nv]
  obtain ⟨r,h1,h2⟩:=whileO_inv (S:=S) (fun k x=>x=(a,nv (a.drop (a.length - k)),((a.length - k:Nat):Int) - 1,())) a.length (fun r=>r=(nv a,()))
    (fun k hk x hx=>by
      subst hx
      have hi:a.length - (k+1) < a.length:=by omega
      have e:((a.length - k:Nat):Int) - 1=((a.length - (k+1):Nat):Int):=by omega
      have e2:a.length - k=(a.length - (k+1))+1:=by omega
      have hd:=nv_drop hi
      have hb:=hle (a.length - (k+1))
      rw[hd] at hb
      rw[e,hd]
      left
      refine ⟨_,hS _ _ hi (nv_nonneg (ha.drop _)) ?_,?_⟩
      · rw[e2]; omega
      · rw[e2]; congr 2; omega)
    (fun x hx=>by
      subst hx
      rw[Nat.sub_self]
      exact ⟨_,hE _,by simp⟩)
    (x:=(a,0,(a.length:Int) - 1,())) (by simp[nv])
  rw[h1,h2]
end Go.Di
namespace Go.Di
theorem natOk_dg {m:Nat} (h:(dg m).length≤60):pB (NatOk (dg m))=true:=pB_iff.2 ⟨dg_can m,h⟩
theorem spec_toInt {m:Nat} (h:(dg m).length < 3):M_spec_NatToInt (dg m)=some ((m:Int),true):=by
  unfold M_spec_NatToInt L_spec_NatToInt_0
  have hv:=nv_dg m
  have hlt:(m:Int) < bp 2:=len_dg.1 (by omega)
  have hb2:bp 2=1000000000000000000:=by decide
  rw[hb2] at hlt
  obtain ⟨K,hK,hKv⟩:∃ K:Nat,([854775807,223372036,9]:List Int)=dg K∧9000000000000000000 < K:=⟨_,max_dg,by omega⟩
  have hcmp:=spec_cmp (dg_can m) (dg_can K) (by omega)
  rw[nv_dg,nv_dg] at hcmp
  rw[spec_natOk (by omega),natOk_dg (by omega),Option.bind_some,hK,hcmp]
  simp only[Bool.not_true,cond_false,Option.bind_some]
  have hc:decide (cmpI (m:Int) (K:Int) > 0)=false:=by
    rw[decide_eq_false_iff_not]
    unfold cmpI
    split
    · omega
    · split<;>omega
  rw[hc,cond_false]
  have ha:=dg_dig m
  generalize dg m=a at *
  rw[wrap_i64 (by omega) (by omega)]
  rw [toInt_loop (S:=S_spec_NatToInt_0) ha (by omega) (fun i n hi h0 hn=>by
    have hx:=ha.at hi
    simp only[S_spec_NatToInt_0,show decide ((i:Int) ≥ 0)=true by simp,cond_true,idx_at hi,Option.bind_some]
    rw[wrap_i64 (n:=n * 1000000000) (by omega) (by omega),wrap_i64 (n:=n * 1000000000+a[i]) (by omega) (by omega),wrap_i64 (n:=(i:Int) - 1) (by omega) (by omega)]) (by simp[S_spec_NatToInt_0]),Option.bind_some,hv]
theorem spec_gcd {m n:Nat} (hm:(dg m).length≤100000000) (hn:(dg n).length≤100000000):M_spec_l02Gcd (dg m) (dg n)=some (dg (Nat.gcd m n)):=by
  unfold M_spec_l02Gcd L_spec_l02Gcd_0
  rw[room (by omega),room (by omega),Option.bind_some,Option.bind_some]
  obtain ⟨r, h1,h2⟩:=whileO_meas (S:=S_spec_l02Gcd_0) (fun x=>∃ p q:Nat,x=(dg p,dg q,())∧Nat.gcd p q=Nat.gcd m n∧(dg p).length≤100000000∧(dg q).length≤100000000) (fun x=>(nv x.2.1).toNat)
    (fun r=>(match r with | .inl (t,_)=>t | .inr (x,_)=>x)=dg (Nat.gcd m n))
    (fun x hx=>by
      obtain ⟨p,q,rfl,hg,hp,hq⟩:=hx
      by_cases h0:q=0
      · subst h0
        right
        refine ⟨.inr (dg p,()),by simp[S_spec_l02Gcd_0,dg_zero],?_⟩
        rw[← hg,Nat.gcd_zero_right]
      · have hqn:dg q≠[]:=fun e=>h0 (dg_nil.1 e)
        have hl:decide (((dg q).length:Int) > 0)=true:=by have:=List.length_pos_iff.2 hqn; simp only[decide_eq_true_eq]; omega
        have hstep:(∃ y,(some (Sum.inl (dg q,dg (p % q),())):Option ((List Int × List Int × Unit) ⊕ ((List Int × Unit) ⊕ (List Int × Unit))))=some (.inl y)∧(∃ p' q':Nat,y=(dg p',dg q',())∧Nat.gcd p' q'=Nat.gcd m n∧(dg p').length≤100000000∧(dg q').length≤100000000)∧(nv y.2.1).toNat < (nv (dg q)).toNat):=by
          refine ⟨_,rfl,⟨q,p % q,rfl,?_,hq,?_⟩,?_⟩
          · rw[← hg,Nat.gcd_comm p q,Nat.gcd_rec q p,Nat.gcd_comm]
          · exact Nat.le_trans (len_dg_mono (Nat.mod_le p q)) hp
          · simp only[nv_dg,Int.toNat_natCast]; exact Nat.mod_lt _ (by omega)
        have hdiv:=spec_div hp hq (show 0 < q by omega)
        by_cases hp3:(dg p).length < 3
        · have e1:decide (((dg p).length:Int) < 3)=true:=by simp only[decide_eq_true_eq]; omega
          by_cases hq3:(dg q).length < 3
          · have e2:decide (((dg q).length:Int) < 3)=true:=by simp only[decide_eq_true_eq]; omega
            right
            have b2:bp 2=1000000000000000000:=by decide
            have lp:(p:Int) < bp 2:=len_dg.1 (by omega)
            have lq:(q:Int) < bp 2:=len_dg.1 (by omega)
            refine ⟨.inl (dg (Nat.gcd p q),()),?_,by rw[hg]⟩
            simp only[S_spec_l02Gcd_0,hl,e1,e2,cond_true,spec_toInt hp3,spec_toInt hq3,Option.bind_some,spec_plain (show p≤9223372036854775807 by omega) (show q≤9223372036854775807 by omega)]
          · have e2:decide (((dg q).length:Int) < 3)=false:=by simp only[decide_eq_false_iff_not]; omega
            left
            simp only[S_spec_l02Gcd_0,hl,e1,e2,cond_true,cond_false,hdiv,Option.bind_some]
            exact hstep
        · have e1:decide (((dg p).length:Int) < 3)=false:=by simp only[decide_eq_false_iff_not]; omega
          left
          simp only[S_spec_l02Gcd_0,hl,e1,cond_true,cond_false,hdiv,Option.bind_some]
          exact hstep)
    (x:=(dg m,dg n,())) ⟨m,n,rfl,rfl,hm,hn⟩
  rw[h1,Option.bind_some]
  cases r with
  | inl t=>exact congrArg some h2
  | inr t=>exact congrArg some h2
end Go.Di
namespace Go.Di
structure TakeI (y x0:List Int) (k:Nat) (q:Int) (j:Nat) (br:Int) (x:List Int):Prop where
  len:x.length=x0.length
  dig:Dig x
  b0:0≤br∧br≤q
  rest:∀ p,k+y.length≤p→x[p]? = x0[p]?
  low:∀ p,p < k→x[p]? = x0[p]?
  val:nv x+bp k * (q * nv (y.take j))=nv x0+bp (k+j) * br
theorem TakeI.step {y x0 x:List Int} {k j:Nat} {q br s b':Int} (h:TakeI y x0 k q j br x) (_hy:Dig y) (_hq:0≤q∧q≤1000000000) (hj:j < y.length) (hk:k+j < x.length) (hs:s - 1000000000 * b'=x[k+j] - q * y[j] - br) (hs0:0≤s∧s < 1000000000) (hb':0≤b'∧b'≤q) :
    TakeI y x0 k q (j+1) b' (x.set (k+j) s):=by
  obtain ⟨hl,hd,hb,hr,hlow,hv⟩:=h
  refine ⟨by simp[hl],hd.set _ hs0,hb',fun p hp=>?_,fun p hp=>?_,?_⟩
  · rw[List.getElem?_set_ne (by omega)]; exact hr p hp
  · rw[List.getElem?_set_ne (by omega)]; exact hlow p hp
  · rw[nv_set hk,nv_take_succ hj,show k+(j+1)=(k+j)+1 from rfl,bp_succ,bp_add] at *
    generalize x[k+j]=e at *
    generalize y[j]=z at *
    generalize nv (y.take j)=v at *
    generalize bp k=p at *
    generalize bp j=p' at *
    grind
structure BackI (y x0:List Int) (k:Nat) (j:Nat) (c:Int) (x:List Int):Prop where
  len:x.length=x0.length
  dig:∀ p,p < k+y.length→∀ d,x[p]? = some d→0≤d∧d < 1000000000
  c0:0≤c∧c≤1
  rest:∀ p,k+y.length≤p→x[p]? = x0[p]?
  low:∀ p,p < k→x[p]? = x0[p]?
  val:nv x+bp (k+j) * c=nv x0+bp k * nv (y.take j)
theorem BackI.step {y x0 x:List Int} {k j:Nat} {c s c':Int} (h:BackI y x0 k j c x) (hj:j < y.length) (hk:k+j < x.length) (hs:s+1000000000 * c'=x[k+j]+y[j]+c) (hs0:0≤s∧s < 1000000000) (hc':0≤c'∧c'≤1) :
    BackI y x0 k (j+1) c' (x.set (k+j) s):=by
  obtain ⟨hl,hd,hc,hr,hlow,hv⟩:=h
  refine ⟨by simp[hl],fun p hp d hpd=>?_,hc',fun p hp=>?_,fun p hp=>?_,?_⟩
  · rw [List.getElem?_set] at hpd
    split at hpd
    · first
        | (cases hpd; exact hs0)
        | (split at hpd<;>first | (cases hpd; exact hs0) | cases hpd)
    · exact hd p hp d hpd
  · rw[List.getElem?_set_ne (by omega)]; exact hr p hp
  · rw[List.getElem?_set_ne (by omega)]; exact hlow p hp
  · rw[nv_set hk,nv_take_succ hj,show k+(j+1)=(k+j)+1 from rfl,bp_succ,bp_add] at *
    generalize x[k+j]=e at *
    generalize y[j]=z at *
    generalize nv (y.take j)=v at *
    generalize bp k=p at *
    generalize bp j=p' at *
    grind
end Go.Di
namespace Go.Di
theorem take_loop {y x0 out:List Int} {k:Nat} {f top q:Int} (hy:Dig y) (hx:Dig x0) (hq:0≤q∧q < 1000000000) (hfit:k+y.length < x0.length) (hl:x0.length≤1073741824) :
    ∃ br x,L_impl_natDiv_3 f (y.length:Int) top (k:Int) q 0 (y.length:Int) 0 x0 y out=some (f,(y.length:Int),top,(k:Int),q,br,x,y,out,())∧TakeI y x0 k q y.length br x:=by
  unfold L_impl_natDiv_3
  obtain ⟨r,h1,br,x,rfl,h2⟩:=whileO_inv (S:=S_impl_natDiv_3) (fun j z=>∃ br x,z=(f,(y.length:Int),top,(k:Int),q,br,(y.length:Int),(j:Int),x,y,out,())∧TakeI y x0 k q j br x) y.length (fun r=>∃ br x,r=(f,(y.length:Int),top,(k:Int),q,br,x,y,out,())∧TakeI y x0 k q y.length br x)
    (fun j hj z hz=>by
      obtain ⟨br,x,rfl,hI⟩:=hz
      left
      have hk:k+j < x.length:=by rw[hI.len]; omega
      have he:=hI.dig.at hk
      have hyj:=hy.at hj
      have hb:=hI.b0
      have h0:=Int.mul_nonneg hq.1 hyj.1
      have hmax:q * y[j]≤q * 999999999:=Int.mul_le_mul_of_nonneg_left (by omega) hq.1
      have e1:IntKind.i64.wrap ((k:Int)+(j:Int))=((k+j:Nat):Int):=by rw[wrap_i64 (by omega) (by omega)]; omega
      have e2:IntKind.i64.wrap ((j:Int)+1)=((j+1:Nat):Int):=by rw[wrap_i64 (by omega) (by omega)]; omega
      simp only[S_impl_natDiv_3,dlt hj,cond_true,e1,e2,idx_at hk,idx_at hj,Int.toNat_natCast,List.getElem?_eq_getElem hk,List.getElem?_eq_getElem hj,Option.bind_some]
      rw[wrap_add (n:=q * y[j]) (by omega) (by omega),wrap_i64 (n:=x[k+j] - q * y[j]) (by omega) (by omega),wrap_i64 (n:=x[k+j] - q * y[j] - br) (by omega) (by omega)]
      generalize hs:x[k+j] - q * y[j] - br=s at *
      by_cases hneg:s < 0
      · rw[decide_eq_true hneg,cond_true,wrap_i64 (n:=999999999 - s) (by omega) (by omega),Int.tdiv_eq_ediv_of_nonneg (by omega)]
        rw[wrap_i64 (n:=(999999999 - s) / 1000000000) (by omega) (by omega),wrap_i64 (n:=(999999999 - s) / 1000000000 * 1000000000) (by omega) (by omega),wrap_i64 (n:=s+(999999999 - s) / 1000000000 * 1000000000) (by omega) (by omega)]
        refine ⟨_,rfl,_,_,rfl,?_⟩
        exact hI.step hy (by omega) hj hk (by omega) (by omega) (by omega)
      · rw[decide_eq_false hneg,cond_false]
        refine ⟨_,rfl,_,_,rfl,?_⟩
        exact hI.step hy (by omega) hj hk (by omega) (by omega) (by omega))
    (fun z hz=>by
      obtain ⟨br,x,rfl,hI⟩:=hz
      exact ⟨_,by simp[S_impl_natDiv_3],br,x,rfl,hI⟩)
    (x:=(f,(y.length:Int),top,(k:Int),q,0,(y.length:Int),0,x0,y,out,())) ⟨0,x0,rfl,⟨rfl,hx,by omega,fun _ _=>rfl,fun _ _=>rfl,by simp[nv]⟩⟩
  exact ⟨br,x,h1,h2⟩
end Go.Di
namespace Go.Di
theorem back_loop {y x0 out:List Int} {k:Nat} {f top q:Int} (hy:Dig y) (hx:∀ p,p < k+y.length→∀ d,x0[p]? = some d→0≤d∧d < 1000000000) (hfit:k+y.length < x0.length) (hl:x0.length≤1073741824) :
    ∃ c x,L_impl_natDiv_4 f (y.length:Int) top (k:Int) q 0 (y.length:Int) 0 x0 y out=some (f,(y.length:Int),top,(k:Int),q,c,x,y,out,())∧BackI y x0 k y.length c x:=by
  unfold L_impl_natDiv_4
  obtain ⟨r,h1,c,x,rfl,h2⟩:=whileO_inv (S:=S_impl_natDiv_4) (fun j z=>∃ c x,z=(f,(y.length:Int),top,(k:Int),q,c,(y.length:Int),(j:Int),x,y,out,())∧BackI y x0 k j c x) y.length (fun r=>∃ c x,r=(f,(y.length:Int),top,(k:Int),q,c,x,y,out,())∧BackI y x0 k y.length c x)
    (fun j hj z hz=>by
      obtain ⟨c,x,rfl,hI⟩:=hz
      left
      have hk:k+j < x.length:=by rw[hI.len]; omega
      have he:=hI.dig (k+j) (by omega) _ (List.getElem?_eq_getElem hk)
      have hyj:=hy.at hj
      have hc:=hI.c0
      have e1:IntKind.i64.wrap ((k:Int)+(j:Int))=((k+j:Nat):Int):=by rw[wrap_i64 (by omega) (by omega)]; omega
      have e2:IntKind.i64.wrap ((j:Int)+1)=((j+1:Nat):Int):=by rw[wrap_i64 (by omega) (by omega)]; omega
      simp only[S_impl_natDiv_4,dlt hj,cond_true,e1,e2,idx_at hk,idx_at hj,Int.toNat_natCast,List.getElem?_eq_getElem hk,List.getElem?_eq_getElem hj,Option.bind_some]
      rw[wrap_i64 (n:=x[k+j]+y[j]) (by omega) (by omega),wrap_i64 (n:=x[k+j]+y[j]+c) (by omega) (by omega)]
      by_cases hge:x[k+j]+y[j]+c ≥ 1000000000
      · rw[decide_eq_true hge,cond_true,wrap_i64 (n:=x[k+j]+y[j]+c - 1000000000) (by omega) (by omega)]
        exact ⟨_,rfl,_,_,rfl,hI.step hj hk (by omega) (by omega) (by omega)⟩
      · rw[decide_eq_false hge,cond_false]
        exact ⟨_,rfl,_,_,rfl,hI.step hj hk (by omega) (by omega) (by omega)⟩)
    (fun z hz=>by
      obtain ⟨c,x,rfl,hI⟩:=hz
      exact ⟨_,by simp[S_impl_natDiv_4],c,x,rfl,hI⟩)
    (x:=(f,(y.length:Int),top,(k:Int),q,0,(y.length:Int),0,x0,y,out,())) ⟨0,x0,rfl,⟨rfl,hx,by omega,fun _ _=>rfl,fun _ _=>rfl,by simp[nv]⟩⟩
  exact ⟨c,x,h1,h2⟩
end Go.Di
namespace Go.Di
theorem guess_loop {x y out:List Int} {k n:Nat} {f top q r Q:Int} {xn x1 x2 y2:Int} (hn:2≤n) (hl:x.length≤1073741824) (hkn:k+n < x.length) (hyn:y.length=n)
    (hx2:x[k+n - 2]? = some x2) (hy2:y[n - 2]? = some y2) (b2:0≤x2∧x2 < 1000000000) (c2:0≤y2∧y2 < 1000000000) (bn:0≤xn∧xn≤top) (b1:0≤x1∧x1 < 1000000000) (ht:1≤top∧top < 1000000000)
    (hQ:0≤Q∧Q < 1000000000) (hQ2:Q * (top * 1000000000+y2)≤(xn * 1000000000+x1) * 1000000000+x2)
    (h0:q * top+r=xn * 1000000000+x1) (hr:0≤r∧r < 1000000000) (hqQ:Q≤q) :
    ∃ q',L_impl_natDiv_2 f (n:Int) top (k:Int) q r x y out=some (f,(n:Int),top,(k:Int),q',x,y,out,())∧Q≤q'∧q' < 1000000000∧q' * (top * 1000000000+y2)≤(xn * 1000000000+x1) * 1000000000+x2:=by
  unfold L_impl_natDiv_2
  obtain ⟨z, h1,q',rfl,h2⟩:=whileO_meas (S:=S_impl_natDiv_2) (fun z=>∃ q r,z=(f,(n:Int),top,(k:Int),q,r,x,y,out,())∧q * top+r=xn * 1000000000+x1∧0≤r∧r < 1000000000∧Q≤q) (fun z=>z.2.2.2.2.1.toNat)
    (fun z=>∃ q',z=(f,(n:Int),top,(k:Int),q',x,y,out,())∧Q≤q'∧q' < 1000000000∧q' * (top * 1000000000+y2)≤(xn * 1000000000+x1) * 1000000000+x2)
    (fun z hz => by
      obtain ⟨q,r,rfl,e0,r0,r1,hqQ⟩:=hz
      have ey:IntKind.i64.wrap ((n:Int) - 2)=((n - 2:Nat):Int):=by rw[wrap_i64 (by omega) (by omega)]; omega
      have ex:IntKind.i64.wrap ((IntKind.i64.wrap ((k:Int)+(n:Int))) - 2)=((k+n - 2:Nat):Int):=by rw[wrap_i64 (n:=(k:Int)+n) (by omega) (by omega),wrap_i64 (by omega) (by omega)]; omega
      have er:IntKind.i64.wrap (r+top)=r+top:=wrap_i64 (by omega) (by omega)
      have hqb:q≤2000000000000000000:=by
        rcases Int.lt_or_le q 0 with h | h
        · omega
        · have h3:q * 1≤q * top:=Int.mul_le_mul_of_nonneg_left ht.1 h
          omega
      have eq1:IntKind.i64.wrap (q - 1)=q - 1:=wrap_i64 (by omega) (by omega)
      -- one down
      have down:Q < q→(∃ z,cond (decide (r+top ≥ 1000000000)) (some (Sum.inr (f,(n:Int),top,(k:Int),q - 1,x,y,out,()))) (some (.inl (f,(n:Int),top,(k:Int),q - 1,r+top,x,y,out,())))=some (.inl z)∧(∃ q r,z=(f,(n:Int),top,(k:Int),q,r,x,y,out,())∧q * top+r=xn * 1000000000+x1∧0≤r∧r < 1000000000∧Q≤q)∧z.2.2.2.2.1.toNat < q.toNat) ∨
          ∃ w,cond (decide (r+top ≥ 1000000000)) (some (Sum.inr (f,(n:Int),top,(k:Int),q - 1,x,y,out,()))) (some (.inl (f,(n:Int),top,(k:Int),q - 1,r+top,x,y,out,())))=some (.inr w)∧∃ q',w=(f,(n:Int),top,(k:Int),q',x,y,out,())∧Q≤q'∧q' < 1000000000∧q' * (top * 1000000000+y2)≤(xn * 1000000000+x1) * 1000000000+x2:=by
        intro hlt
        have e1:(q - 1) * top+(r+top)=xn * 1000000000+x1:=by rw[← e0]; grind
        by_cases hb:r+top ≥ 1000000000
        · right
          rw[decide_eq_true hb,cond_true]
          have hq1:q - 1 < 1000000000:=by
            rcases Int.lt_or_le (q - 1) 1000000000 with h | h
            · exact h
            · exfalso
              have h3:1000000000 * top≤(q - 1) * top:=Int.mul_le_mul_of_nonneg_right h (by omega)
              have h4:xn * 1000000000≤top * 1000000000:=Int.mul_le_mul_of_nonneg_right bn.2 (by omega)
              omega
          refine ⟨_,rfl,_,rfl,by omega,hq1,?_⟩
          have h5:(q - 1) * y2≤999999999 * 999999999:=Int.mul_le_mul (by omega) (by omega) c2.1 (by omega)
          have h6:(q - 1) * (top * 1000000000+y2)=((q - 1) * top) * 1000000000+(q - 1) * y2:=by grind
          rw[h6]
          generalize (q - 1) * top=A at *
          omega
        · left
          rw[decide_eq_false hb,cond_false]
          exact ⟨_,rfl,⟨_,_,rfl,e1,by omega,by omega,by omega⟩,by simp; omega⟩
      by_cases hge:q ≥ 1000000000
      · simp only[S_impl_natDiv_2,decide_eq_true hge,cond_true,er,eq1]
        exact down (by omega)
      · have hqy:0≤q * y2:=Int.mul_nonneg (by omega) c2.1
        have hqy2:q * y2≤999999999 * 999999999:=Int.mul_le_mul (by omega) (by omega) c2.1 (by omega)
        simp only[S_impl_natDiv_2,decide_eq_false hge,cond_false,ey,ex,idx_get hy2,idx_get hx2,hy2,hx2,Int.toNat_natCast,Option.bind_some,er,eq1]
        rw[wrap_i64 (n:=q * y2) (by omega) (by omega),wrap_i64 (n:=r * 1000000000) (by omega) (by omega),wrap_i64 (n:=r * 1000000000+x2) (by omega) (by omega)]
        have h6:q * (top * 1000000000+y2)=(q * top) * 1000000000+q * y2:=by grind
        by_cases hgt:q * y2 > r * 1000000000+x2
        · rw [decide_eq_true hgt,cond_true]
          refine down ?_
          rcases Int.lt_or_le Q q with h | h
          · exact h
          · exfalso
            have:q=Q:=by omega
            subst this
            rw[h6] at hQ2
            generalize q * top=A at *
            omega
        · rw[decide_eq_false hgt,cond_false]
          right
          refine ⟨_,rfl,_,rfl,hqQ,by omega,?_⟩
          rw[h6]
          generalize q * top=A at *
          omega)
    (x:=(f,(n:Int),top,(k:Int),q,r,x,y,out,())) ⟨q,r,rfl,h0,hr.1,hr.2,hqQ⟩
  exact ⟨q',h1,h2⟩
end Go.Di
