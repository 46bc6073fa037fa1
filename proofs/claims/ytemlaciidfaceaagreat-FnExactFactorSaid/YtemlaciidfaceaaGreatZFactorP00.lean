/-
  Own work: part 7 of the texts that the proof of the given statement leans on.
-/
import Derived.Test.YtemlaciidfaceaaGreatZE01
noncomputable section
namespace Go.Di
def zaT (m:Mx):Option Bool :=
  (zeL m).bind fun r =>
  cond r
    ((zeF m).bind fun r1 =>
    (zcH m r1).bind fun r2 =>
    some r2)
    (some false)
def zb4:Int × Int × Int × Int × Int × Int × Int × Int × Int × Int × Int × (List Rt) × (List Rt) × Int × Int × Bool × (List Int) × (List Int) × Bool × (List Rt) × (List Rt) × (List Int) × (List Int) × Unit→Option ((Int × Int × Int × Int × Int × Int × Int × Int × Int × Int × Int × (List Rt) × (List Rt) × Int × Int × Bool × (List Int) × (List Int) × Bool × (List Rt) × (List Rt) × (List Int) × (List Int) × Unit) ⊕ (Int × Int × Int × Int × Int × Int × Int × Int × Int × (List Rt) × (List Rt) × Int × Int × Bool × (List Int) × (List Int) × Bool × (List Rt) × (List Rt) × (List Int) × (List Int) × Unit)):=fun (n,k,i,t,t1,t2,t3,v,v1,v2,v3,v4,m_cells,v5,v6,v7,v8,v9,v10,d,xs,xs1,xs2,_) =>
  cond (decide (t3 < t2))
    ((idx d t3).bind fun _ =>
    (d[t3.toNat]?).bind fun e =>
    (zax (⟨v5,v6,xs⟩:Mx) i t3).bind fun (r0,x0) =>
    (zax (⟨v5,v6,x0⟩:Mx) k t3).bind fun (r0_1,x0_1) =>
    (zb9 r0 r0_1).bind fun r =>
    (zb9 r e).bind fun r1 =>
    (zeZ (⟨v10,xs1,xs2⟩:Rt) r1).bind fun r2 =>
    some (.inl (n,k,i,t,t1,t2,IntKind.i64.wrap (t3+1),v,v1,v2,v3,v4,m_cells,v5,v6,v7,v8,v9,r2.neg,d,x0_1,r2.mag,r2.den,())))
    (some (.inr (n,k,i,t,t1,v,v1,v2,v3,v4,m_cells,v5,v6,v7,v8,v9,v10,d,xs,xs1,xs2,())))
def L_impl_Factor_m_3 (n:Int) (k:Int) (i:Int) (t:Int) (t1:Int) (t2:Int) (t3:Int) (v:Int) (v1:Int) (v2:Int) (v3:Int) (v4:List Rt) (m_cells:List Rt) (v5:Int) (v6:Int) (v7:Bool) (v8:List Int) (v9:List Int) (v10:Bool) (d:List Rt) (xs:List Rt) (xs1:List Int) (xs2:List Int):Option (Int × Int × Int × Int × Int × Int × Int × Int × Int × (List Rt) × (List Rt) × Int × Int × Bool × (List Int) × (List Int) × Bool × (List Rt) × (List Rt) × (List Int) × (List Int) × Unit):=whileO zb4 (n,k,i,t,t1,t2,t3,v,v1,v2,v3,v4,m_cells,v5,v6,v7,v8,v9,v10,d,xs,xs1,xs2,())
def zb5:Int × Int × Int × Int × Int × Int × Int × Int × Int × (List Rt) × (List Rt) × Int × Int × Bool × (List Int) × (List Int) × (List Rt) × (List Rt) × Unit→Option ((Int × Int × Int × Int × Int × Int × Int × Int × Int × (List Rt) × (List Rt) × Int × Int × Bool × (List Int) × (List Int) × (List Rt) × (List Rt) × Unit) ⊕ (((List Rt) × Bool × Int × Int × (List Rt) × (List Rt) × Unit) ⊕ (Int × Int × Int × Int × Int × Int × Int × (List Rt) × (List Rt) × Int × Int × (List Rt) × (List Rt) × Unit))):=fun (n,k,i,t,t1,v,v1,v2,v3,v4,m_cells,v5,v6,v7,v8,v9,d,xs,_) =>
  cond (decide (i < n))
    ((zax (⟨v,v1,m_cells⟩:Mx) i k).bind fun (r0,x0) =>
    (zbd r0).bind fun r =>
    (L_impl_Factor_m_3 n k i t t1 k 0 v v1 v2 v3 v4 x0 v5 v6 v7 v8 v9 r.neg d xs r.mag r.den).bind fun (n1,k1,i1,t2,t3,v10,v11,v12,v13,v14,m_cells1,v15,v16,v17,v18,v19,v20,d1,xs1,xs2,xs3,_) =>
    (zfN (⟨v20,xs2,xs3⟩:Rt) (⟨v17,v18,v19⟩:Rt)).bind fun r1 =>
    (zaW r1).bind fun r2 =>
    cond r2
      (some (.inr (.inl (([]:List Rt),false,0,0,([]:List Rt),m_cells1,()))))
      ((idx xs1 (IntKind.i64.wrap ((IntKind.i64.wrap (i1 * n1))+k1))).bind fun _ =>
      some (.inl (n1,k1,IntKind.i64.wrap (i1+1),t2,t3,v10,v11,v12,v13,v14,m_cells1,v15,v16,v17,v18,v19,d1,xs1.set ((IntKind.i64.wrap ((IntKind.i64.wrap (i1 * n1))+k1)).toNat) r1,()))))
    (some (.inr (.inr (n,t,t1,v,v1,v2,v3,v4,m_cells,v5,v6,d,xs,()))))
def L_impl_Factor_m_2 (n:Int) (k:Int) (i:Int) (t:Int) (t1:Int) (v:Int) (v1:Int) (v2:Int) (v3:Int) (v4:List Rt) (m_cells:List Rt) (v5:Int) (v6:Int) (v7:Bool) (v8:List Int) (v9:List Int) (d:List Rt) (xs:List Rt):Option (((List Rt) × Bool × Int × Int × (List Rt) × (List Rt) × Unit) ⊕ (Int × Int × Int × Int × Int × Int × Int × (List Rt) × (List Rt) × Int × Int × (List Rt) × (List Rt) × Unit)):=whileO zb5 (n,k,i,t,t1,v,v1,v2,v3,v4,m_cells,v5,v6,v7,v8,v9,d,xs,())
def zb6:Int × Int × Int × Int × Int × Int × Int × Int × Int × Int × (List Rt) × (List Rt) × Int × Int × Bool × (List Rt) × (List Int) × (List Int) × (List Rt) × Unit→Option ((Int × Int × Int × Int × Int × Int × Int × Int × Int × Int × (List Rt) × (List Rt) × Int × Int × Bool × (List Rt) × (List Int) × (List Int) × (List Rt) × Unit) ⊕ (Int × Int × Int × Int × Int × Int × Int × Int × (List Rt) × (List Rt) × Int × Int × Bool × (List Rt) × (List Int) × (List Int) × (List Rt) × Unit)):=fun (n,k,t,t1,t2,t3,v,v1,v2,v3,v4,m_cells,v5,v6,v7,xs,xs1,xs2,d,_) =>
  cond (decide (t3 < t2))
    ((idx d t3).bind fun _ =>
    (d[t3.toNat]?).bind fun e =>
    (zax (⟨v5,v6,xs⟩:Mx) k t3).bind fun (r0,x0) =>
    (zax (⟨v5,v6,x0⟩:Mx) k t3).bind fun (r0_1,x0_1) =>
    (zb9 r0 r0_1).bind fun r =>
    (zb9 r e).bind fun r1 =>
    (zeZ (⟨v7,xs1,xs2⟩:Rt) r1).bind fun r2 =>
    some (.inl (n,k,t,t1,t2,IntKind.i64.wrap (t3+1),v,v1,v2,v3,v4,m_cells,v5,v6,r2.neg,x0_1,r2.mag,r2.den,d,())))
    (some (.inr (n,k,t,t1,v,v1,v2,v3,v4,m_cells,v5,v6,v7,xs,xs1,xs2,d,())))
def L_impl_Factor_m_1 (n:Int) (k:Int) (t:Int) (t1:Int) (t2:Int) (t3:Int) (v:Int) (v1:Int) (v2:Int) (v3:Int) (v4:List Rt) (m_cells:List Rt) (v5:Int) (v6:Int) (v7:Bool) (xs:List Rt) (xs1:List Int) (xs2:List Int) (d:List Rt):Option (Int × Int × Int × Int × Int × Int × Int × Int × (List Rt) × (List Rt) × Int × Int × Bool × (List Rt) × (List Int) × (List Int) × (List Rt) × Unit):=whileO zb6 (n,k,t,t1,t2,t3,v,v1,v2,v3,v4,m_cells,v5,v6,v7,xs,xs1,xs2,d,())
def zb7:Int × Int × Int × Int × Int × Int × Int × (List Rt) × (List Rt) × Int × Int × (List Rt) × (List Rt) × Unit→Option ((Int × Int × Int × Int × Int × Int × Int × (List Rt) × (List Rt) × Int × Int × (List Rt) × (List Rt) × Unit) ⊕ (((List Rt) × Bool × Int × Int × (List Rt) × (List Rt) × Unit) ⊕ (Int × Int × (List Rt) × (List Rt) × Int × Int × (List Rt) × (List Rt) × Unit))):=fun (n,t,t1,v,v1,v2,v3,v4,m_cells,v5,v6,xs,d,_) =>
  cond (decide (t1 < t))
    ((zax (⟨v,v1,m_cells⟩:Mx) t1 t1).bind fun (r0,x0) =>
    (zbd r0).bind fun r =>
    (L_impl_Factor_m_1 n t1 t t1 t1 0 v v1 v2 v3 v4 x0 v5 v6 r.neg xs r.mag r.den d).bind fun (n1,k,t2,t3,v7,v8,v9,v10,v11,m_cells1,v12,v13,v14,xs1,xs2,xs3,d1,_) =>
    (zaW (⟨v14,xs2,xs3⟩:Rt)).bind fun r1 =>
    cond r1
      (some (.inr (.inl (([]:List Rt),false,0,0,([]:List Rt),m_cells1,()))))
      ((zdB (⟨v14,xs2,xs3⟩:Rt)).bind fun r2 =>
      cond (decide (r2≤0))
        (some (.inr (.inl (([]:List Rt),false,0,0,([]:List Rt),m_cells1,()))))
        ((zal (Nat.ble (d1.length+1) zar)).bind fun _ =>
        (L_impl_Factor_m_2 n1 k (IntKind.i64.wrap (k+1)) t2 t3 v7 v8 v9 v10 v11 m_cells1 v12 v13 v14 xs2 xs3 (d1++([(⟨v14,xs2,xs3⟩:Rt)]:List Rt)) xs1).bind fun r3 =>
        match r3 with
        | .inl (t4,t5,v15,v16,v17,m_cells2,_) =>
          some (.inr (.inl (t4,t5,v15,v16,v17,m_cells2,())))
        | .inr (n2,t6,t7,v18,v19,v20,v21,v22,m_cells3,v23,v24,d2,xs4,_) =>
          some (.inl (n2,t6,IntKind.i64.wrap (t7+1),v18,v19,v20,v21,v22,m_cells3,v23,v24,xs4,d2,())))))
    (some (.inr (.inr (v2,v3,v4,m_cells,v5,v6,xs,d,()))))
def L_impl_Factor_m_0 (n:Int) (t:Int) (t1:Int) (v:Int) (v1:Int) (v2:Int) (v3:Int) (v4:List Rt) (m_cells:List Rt) (v5:Int) (v6:Int) (xs:List Rt) (d:List Rt):Option (((List Rt) × Bool × Int × Int × (List Rt) × (List Rt) × Unit) ⊕ (Int × Int × (List Rt) × (List Rt) × Int × Int × (List Rt) × (List Rt) × Unit)):=whileO zb7 (n,t,t1,v,v1,v2,v3,v4,m_cells,v5,v6,xs,d,())
def zdE (m:Mx):Option (Mx × List Rt × Bool × List Rt) :=
  (zaT m).bind fun r =>
  cond (!r)
    (some ((⟨0,0,([]:List Rt)⟩:Mx),([]:List Rt),false,m.cells))
    ((zf6 m.rows).bind fun r1 =>
    (L_impl_Factor_m_0 m.rows m.rows 0 m.rows m.cols 0 0 ([]:List Rt) m.cells r1.rows r1.cols r1.cells ([]:List Rt)).bind fun r2 =>
    match r2 with
    | .inl (t,t1,v,v1,v2,m_cells,_) =>
      some ((⟨v,v1,v2⟩:Mx),t,t1,m_cells)
    | .inr (_,_,_,m_cells1,v6,v7,xs,d,_) =>
      some ((⟨v6,v7,xs⟩:Mx),d,true,m_cells1))
def zaH (m:Mx):Option Bool :=
  (zey m).bind fun r =>
  cond r
    (cond (m.rows==m.cols)
      ((zcd m).bind fun r1 =>
      (zcG m r1).bind fun r2 =>
      some r2)
      (some false))
    (some false)
def zcp:Int × Int × Int × Int × Int × Int × (List Rt) × Int × Int × (List Rt) × Int × Int × Bool × (List Int) × (List Int) × Bool × (List Int) × (List Int) × (List Rt) × (List Rt) × Unit→Option ((Int × Int × Int × Int × Int × Int × (List Rt) × Int × Int × (List Rt) × Int × Int × Bool × (List Int) × (List Int) × Bool × (List Int) × (List Int) × (List Rt) × (List Rt) × Unit) ⊕ (Int × Int × Int × Int × Int × (List Rt) × Int × Int × (List Rt) × Int × Int × Bool × (List Int) × (List Int) × Bool × (List Int) × (List Int) × (List Rt) × (List Rt) × Unit)):=fun (n,k,i,j,v,v1,v2,v3,v4,v5,v6,v7,v8,v9,v10,v11,v12,v13,d,xs,_) =>
  cond (decide (j < k))
    ((idx d j).bind fun _ =>
    (d[j.toNat]?).bind fun e =>
    (zaQ (⟨v6,v7,xs⟩:Mx) i j).bind fun (r0,x0) =>
    (zaQ (⟨v6,v7,x0⟩:Mx) k j).bind fun (r0_1,x0_1) =>
    (zbf r0 r0_1).bind fun r =>
    (zbf r e).bind fun r1 =>
    (zc8 (⟨v11,v12,v13⟩:Rt) r1).bind fun r2 =>
    some (.inl (n,k,i,IntKind.i64.wrap (j+1),v,v1,v2,v3,v4,v5,v6,v7,v8,v9,v10,r2.neg,r2.mag,r2.den,d,x0_1,())))
    (some (.inr (n,k,i,v,v1,v2,v3,v4,v5,v6,v7,v8,v9,v10,v11,v12,v13,d,xs,())))
def zgn (n:Int) (k:Int) (i:Int) (j:Int) (v:Int) (v1:Int) (v2:List Rt) (v3:Int) (v4:Int) (v5:List Rt) (v6:Int) (v7:Int) (v8:Bool) (v9:List Int) (v10:List Int) (v11:Bool) (v12:List Int) (v13:List Int) (d:List Rt) (xs:List Rt):Option (Int × Int × Int × Int × Int × (List Rt) × Int × Int × (List Rt) × Int × Int × Bool × (List Int) × (List Int) × Bool × (List Int) × (List Int) × (List Rt) × (List Rt) × Unit):=whileO zcp (n,k,i,j,v,v1,v2,v3,v4,v5,v6,v7,v8,v9,v10,v11,v12,v13,d,xs,())
def zcq:Int × Int × Int × Int × Int × (List Rt) × Int × Int × (List Rt) × Int × Int × Bool × (List Int) × (List Int) × (List Rt) × (List Rt) × Unit→Option ((Int × Int × Int × Int × Int × (List Rt) × Int × Int × (List Rt) × Int × Int × Bool × (List Int) × (List Int) × (List Rt) × (List Rt) × Unit) ⊕ (Int × Int × Int × Int × (List Rt) × Int × Int × (List Rt) × Int × Int × (List Rt) × (List Rt) × Unit)):=fun (n,k,i,v,v1,v2,v3,v4,v5,v6,v7,v8,v9,v10,d,xs,_) =>
  cond (decide (i < n))
    ((zec (⟨v,v1,v2⟩:Mx) i k).bind fun r =>
    (zgn n k i 0 v v1 v2 v3 v4 v5 v6 v7 v8 v9 v10 r.neg r.mag r.den d xs).bind fun (n1,k1,i1,v11,v12,v13,v14,v15,v16,v17,v18,v19,v20,v21,v22,v23,v24,d1,xs1,_) =>
    (zdO (⟨v22,v23,v24⟩:Rt) (⟨v19,v20,v21⟩:Rt)).bind fun r1 =>
    (idx xs1 (IntKind.i64.wrap ((IntKind.i64.wrap (i1 * n1))+k1))).bind fun _ =>
    some (.inl (n1,k1,IntKind.i64.wrap (i1+1),v11,v12,v13,v14,v15,v16,v17,v18,v19,v20,v21,d1,xs1.set ((IntKind.i64.wrap ((IntKind.i64.wrap (i1 * n1))+k1)).toNat) r1,())))
    (some (.inr (n,k,v,v1,v2,v3,v4,v5,v6,v7,d,xs,())))
def zgo (n:Int) (k:Int) (i:Int) (v:Int) (v1:Int) (v2:List Rt) (v3:Int) (v4:Int) (v5:List Rt) (v6:Int) (v7:Int) (v8:Bool) (v9:List Int) (v10:List Int) (d:List Rt) (xs:List Rt):Option (Int × Int × Int × Int × (List Rt) × Int × Int × (List Rt) × Int × Int × (List Rt) × (List Rt) × Unit):=whileO zcq (n,k,i,v,v1,v2,v3,v4,v5,v6,v7,v8,v9,v10,d,xs,())
def zcr:Int × Int × Int × Int × Int × (List Rt) × Int × Int × (List Rt) × Int × Int × Bool × (List Int) × (List Int) × (List Rt) × (List Rt) × Unit→Option ((Int × Int × Int × Int × Int × (List Rt) × Int × Int × (List Rt) × Int × Int × Bool × (List Int) × (List Int) × (List Rt) × (List Rt) × Unit) ⊕ (Int × Int × Int × Int × (List Rt) × Int × Int × (List Rt) × Int × Int × Bool × (List Int) × (List Int) × (List Rt) × (List Rt) × Unit)):=fun (n,k,j,v,v1,v2,v3,v4,v5,v6,v7,v8,v9,v10,xs,d,_) =>
  cond (decide (j < k))
    ((zaQ (⟨v6,v7,xs⟩:Mx) k j).bind fun (r0,x0) =>
    (idx d j).bind fun _ =>
    (d[j.toNat]?).bind fun e =>
    (zbf r0 r0).bind fun r =>
    (zbf r e).bind fun r1 =>
    (zc8 (⟨v8,v9,v10⟩:Rt) r1).bind fun r2 =>
    some (.inl (n,k,IntKind.i64.wrap (j+1),v,v1,v2,v3,v4,v5,v6,v7,r2.neg,r2.mag,r2.den,x0,d,())))
    (some (.inr (n,k,v,v1,v2,v3,v4,v5,v6,v7,v8,v9,v10,xs,d,())))
def zgp (n:Int) (k:Int) (j:Int) (v:Int) (v1:Int) (v2:List Rt) (v3:Int) (v4:Int) (v5:List Rt) (v6:Int) (v7:Int) (v8:Bool) (v9:List Int) (v10:List Int) (xs:List Rt) (d:List Rt):Option (Int × Int × Int × Int × (List Rt) × Int × Int × (List Rt) × Int × Int × Bool × (List Int) × (List Int) × (List Rt) × (List Rt) × Unit):=whileO zcr (n,k,j,v,v1,v2,v3,v4,v5,v6,v7,v8,v9,v10,xs,d,())
def zcs:Int × Int × Int × Int × (List Rt) × Int × Int × (List Rt) × Int × Int × (List Rt) × (List Rt) × Unit→Option ((Int × Int × Int × Int × (List Rt) × Int × Int × (List Rt) × Int × Int × (List Rt) × (List Rt) × Unit) ⊕ (((List Rt) × Bool × Int × Int × (List Rt) × Unit) ⊕ (Int × Int × (List Rt) × Int × Int × (List Rt) × (List Rt) × Unit))):=fun (n,k,v,v1,v2,v3,v4,v5,v6,v7,xs,d,_) =>
  cond (decide (k < n))
    ((zec (⟨v,v1,v2⟩:Mx) k k).bind fun r =>
    (zgp n k 0 v v1 v2 v3 v4 v5 v6 v7 r.neg r.mag r.den xs d).bind fun (n1,k1,v8,v9,v10,v11,v12,v13,v14,v15,v16,v17,v18,xs1,d1,_) =>
    (zc9 (⟨v16,v17,v18⟩:Rt)).bind fun r1 =>
    cond r1
      (some (.inr (.inl (([]:List Rt),false,0,0,([]:List Rt),()))))
      (cond v16
        (some (.inr (.inl (([]:List Rt),false,0,0,([]:List Rt),()))))
        ((zes (⟨v16,v17,v18⟩:Rt)).bind fun r2 =>
        cond r2
          (some (.inr (.inl (([]:List Rt),false,0,0,([]:List Rt),()))))
          ((zbz (⟨v16,v17,v18⟩:Rt)).bind fun r3 =>
          (zal (Nat.ble (d1.length+1) zar)).bind fun _ =>
          (zgo n1 k1 (IntKind.i64.wrap (k1+1)) v8 v9 v10 v11 v12 v13 v14 v15 v16 v17 v18 (d1++([r3]:List Rt)) xs1).bind fun (n2,k2,v19,v20,v21,v22,v23,v24,v25,v26,d2,xs2,_) =>
          (zd1 xs2).bind fun r4 =>
          cond (!r4)
            (some (.inr (.inl (([]:List Rt),false,0,0,([]:List Rt),()))))
            (some (.inl (n2,IntKind.i64.wrap (k2+1),v19,v20,v21,v22,v23,v24,v25,v26,xs2,d2,())))))))
    (some (.inr (.inr (v3,v4,v5,v6,v7,xs,d,()))))
def zgq (n:Int) (k:Int) (v:Int) (v1:Int) (v2:List Rt) (v3:Int) (v4:Int) (v5:List Rt) (v6:Int) (v7:Int) (xs:List Rt) (d:List Rt):Option (((List Rt) × Bool × Int × Int × (List Rt) × Unit) ⊕ (Int × Int × (List Rt) × Int × Int × (List Rt) × (List Rt) × Unit)):=whileO zcs (n,k,v,v1,v2,v3,v4,v5,v6,v7,xs,d,())
def zd4 (m:Mx):Option (Mx × List Rt × Bool) :=
  (zbn m.rows).bind fun r =>
  (zgq m.rows 0 m.rows m.cols m.cells 0 0 ([]:List Rt) r.rows r.cols r.cells ([]:List Rt)).bind fun r1 =>
  match r1 with
  | .inl (t,t1,v,v1,v2,_) =>
    some ((⟨v,v1,v2⟩:Mx),t,t1)
  | .inr (_,_,_,v6,v7,xs,d,_) =>
    some ((⟨v6,v7,xs⟩:Mx),d,true)
def zez (m:Mx):Option (Mx × List Rt × Bool) :=
  (zaH m).bind fun r =>
  cond (!r)
    (some ((⟨0,0,([]:List Rt)⟩:Mx),([]:List Rt),false))
    ((zd4 m).bind fun (r0,r1,r2) =>
    some (r0,r1,r2))
def zbi:Int × Int × Int × Int × Int × Int × Int × Int × (List Rt) × (List Rt) × Int × Int × Bool × (List Int) × (List Int) × Bool × (List Int) × (List Int) × (List Rt) × (List Rt) × Unit→Option ((Int × Int × Int × Int × Int × Int × Int × Int × (List Rt) × (List Rt) × Int × Int × Bool × (List Int) × (List Int) × Bool × (List Int) × (List Int) × (List Rt) × (List Rt) × Unit) ⊕ (Int × Int × Int × Int × Int × Int × Int × (List Rt) × (List Rt) × Int × Int × Bool × (List Int) × (List Int) × Bool × (List Int) × (List Int) × (List Rt) × (List Rt) × Unit)):=fun (n,k,i,j,v,v1,v2,v3,v4,m_cells,v5,v6,v7,v8,v9,v10,v11,v12,d,xs,_) =>
  cond (decide (j < k))
    ((idx d j).bind fun _ =>
    (d[j.toNat]?).bind fun e =>
    (zaQ (⟨v5,v6,xs⟩:Mx) i j).bind fun (r0,x0) =>
    (zaQ (⟨v5,v6,x0⟩:Mx) k j).bind fun (r0_1,x0_1) =>
    (zbf r0 r0_1).bind fun r =>
    (zbf r e).bind fun r1 =>
    (zc8 (⟨v10,v11,v12⟩:Rt) r1).bind fun r2 =>
    some (.inl (n,k,i,IntKind.i64.wrap (j+1),v,v1,v2,v3,v4,m_cells,v5,v6,v7,v8,v9,r2.neg,r2.mag,r2.den,d,x0_1,())))
    (some (.inr (n,k,i,v,v1,v2,v3,v4,m_cells,v5,v6,v7,v8,v9,v10,v11,v12,d,xs,())))
def L_spec_l08Factor_m_3 (n:Int) (k:Int) (i:Int) (j:Int) (v:Int) (v1:Int) (v2:Int) (v3:Int) (v4:List Rt) (m_cells:List Rt) (v5:Int) (v6:Int) (v7:Bool) (v8:List Int) (v9:List Int) (v10:Bool) (v11:List Int) (v12:List Int) (d:List Rt) (xs:List Rt):Option (Int × Int × Int × Int × Int × Int × Int × (List Rt) × (List Rt) × Int × Int × Bool × (List Int) × (List Int) × Bool × (List Int) × (List Int) × (List Rt) × (List Rt) × Unit):=whileO zbi (n,k,i,j,v,v1,v2,v3,v4,m_cells,v5,v6,v7,v8,v9,v10,v11,v12,d,xs,())
def zbj:Int × Int × Int × Int × Int × Int × Int × (List Rt) × (List Rt) × Int × Int × Bool × (List Int) × (List Int) × (List Rt) × (List Rt) × Unit→Option ((Int × Int × Int × Int × Int × Int × Int × (List Rt) × (List Rt) × Int × Int × Bool × (List Int) × (List Int) × (List Rt) × (List Rt) × Unit) ⊕ (Int × Int × Int × Int × Int × Int × (List Rt) × (List Rt) × Int × Int × (List Rt) × (List Rt) × Unit)):=fun (n,k,i,v,v1,v2,v3,v4,m_cells,v5,v6,v7,v8,v9,d,xs,_) =>
  cond (decide (i < n))
    ((zaQ (⟨v,v1,m_cells⟩:Mx) i k).bind fun (r0,x0) =>
    (L_spec_l08Factor_m_3 n k i 0 v v1 v2 v3 v4 x0 v5 v6 v7 v8 v9 r0.neg r0.mag r0.den d xs).bind fun (n1,k1,i1,v10,v11,v12,v13,v14,m_cells1,v15,v16,v17,v18,v19,v20,v21,v22,d1,xs1,_) =>
    (zdO (⟨v20,v21,v22⟩:Rt) (⟨v17,v18,v19⟩:Rt)).bind fun r =>
    (idx xs1 (IntKind.i64.wrap ((IntKind.i64.wrap (i1 * n1))+k1))).bind fun _ =>
    some (.inl (n1,k1,IntKind.i64.wrap (i1+1),v10,v11,v12,v13,v14,m_cells1,v15,v16,v17,v18,v19,d1,xs1.set ((IntKind.i64.wrap ((IntKind.i64.wrap (i1 * n1))+k1)).toNat) r,())))
    (some (.inr (n,k,v,v1,v2,v3,v4,m_cells,v5,v6,d,xs,())))
def L_spec_l08Factor_m_2 (n:Int) (k:Int) (i:Int) (v:Int) (v1:Int) (v2:Int) (v3:Int) (v4:List Rt) (m_cells:List Rt) (v5:Int) (v6:Int) (v7:Bool) (v8:List Int) (v9:List Int) (d:List Rt) (xs:List Rt):Option (Int × Int × Int × Int × Int × Int × (List Rt) × (List Rt) × Int × Int × (List Rt) × (List Rt) × Unit):=whileO zbj (n,k,i,v,v1,v2,v3,v4,m_cells,v5,v6,v7,v8,v9,d,xs,())
def zbk:Int × Int × Int × Int × Int × Int × Int × (List Rt) × (List Rt) × Int × Int × Bool × (List Int) × (List Int) × (List Rt) × (List Rt) × Unit→Option ((Int × Int × Int × Int × Int × Int × Int × (List Rt) × (List Rt) × Int × Int × Bool × (List Int) × (List Int) × (List Rt) × (List Rt) × Unit) ⊕ (Int × Int × Int × Int × Int × Int × (List Rt) × (List Rt) × Int × Int × Bool × (List Int) × (List Int) × (List Rt) × (List Rt) × Unit)):=fun (n,k,j,v,v1,v2,v3,v4,m_cells,v5,v6,v7,v8,v9,xs,d,_) =>
  cond (decide (j < k))
    ((zaQ (⟨v5,v6,xs⟩:Mx) k j).bind fun (r0,x0) =>
    (idx d j).bind fun _ =>
    (d[j.toNat]?).bind fun e =>
    (zbf r0 r0).bind fun r =>
    (zbf r e).bind fun r1 =>
    (zc8 (⟨v7,v8,v9⟩:Rt) r1).bind fun r2 =>
    some (.inl (n,k,IntKind.i64.wrap (j+1),v,v1,v2,v3,v4,m_cells,v5,v6,r2.neg,r2.mag,r2.den,x0,d,())))
    (some (.inr (n,k,v,v1,v2,v3,v4,m_cells,v5,v6,v7,v8,v9,xs,d,())))
def L_spec_l08Factor_m_1 (n:Int) (k:Int) (j:Int) (v:Int) (v1:Int) (v2:Int) (v3:Int) (v4:List Rt) (m_cells:List Rt) (v5:Int) (v6:Int) (v7:Bool) (v8:List Int) (v9:List Int) (xs:List Rt) (d:List Rt):Option (Int × Int × Int × Int × Int × Int × (List Rt) × (List Rt) × Int × Int × Bool × (List Int) × (List Int) × (List Rt) × (List Rt) × Unit):=whileO zbk (n,k,j,v,v1,v2,v3,v4,m_cells,v5,v6,v7,v8,v9,xs,d,())
def zbl:Int × Int × Int × Int × Int × Int × (List Rt) × (List Rt) × Int × Int × (List Rt) × (List Rt) × Unit→Option ((Int × Int × Int × Int × Int × Int × (List Rt) × (List Rt) × Int × Int × (List Rt) × (List Rt) × Unit) ⊕ (((List Rt) × Bool × Int × Int × (List Rt) × (List Rt) × Unit) ⊕ (Int × Int × (List Rt) × (List Rt) × Int × Int × (List Rt) × (List Rt) × Unit))):=fun (n,k,v,v1,v2,v3,v4,m_cells,v5,v6,xs,d,_) =>
  cond (decide (k < n))
    ((zaQ (⟨v,v1,m_cells⟩:Mx) k k).bind fun (r0,x0) =>
    (L_spec_l08Factor_m_1 n k 0 v v1 v2 v3 v4 x0 v5 v6 r0.neg r0.mag r0.den xs d).bind fun (n1,k1,v7,v8,v9,v10,v11,m_cells1,v12,v13,v14,v15,v16,xs1,d1,_) =>
    (zc9 (⟨v14,v15,v16⟩:Rt)).bind fun r =>
    cond r
      (some (.inr (.inl (([]:List Rt),false,0,0,([]:List Rt),m_cells1,()))))
      (cond v14
        (some (.inr (.inl (([]:List Rt),false,0,0,([]:List Rt),m_cells1,()))))
        ((zes (⟨v14,v15,v16⟩:Rt)).bind fun r1 =>
        cond r1
          (some (.inr (.inl (([]:List Rt),false,0,0,([]:List Rt),m_cells1,()))))
          ((zbz (⟨v14,v15,v16⟩:Rt)).bind fun r2 =>
          (zal (Nat.ble (d1.length+1) zar)).bind fun _ =>
          (L_spec_l08Factor_m_2 n1 k1 (IntKind.i64.wrap (k1+1)) v7 v8 v9 v10 v11 m_cells1 v12 v13 v14 v15 v16 (d1++([r2]:List Rt)) xs1).bind fun (n2,k2,v17,v18,v19,v20,v21,m_cells2,v22,v23,d2,xs2,_) =>
          (zd1 xs2).bind fun r3 =>
          cond (!r3)
            (some (.inr (.inl (([]:List Rt),false,0,0,([]:List Rt),m_cells2,()))))
            (some (.inl (n2,IntKind.i64.wrap (k2+1),v17,v18,v19,v20,v21,m_cells2,v22,v23,xs2,d2,())))))))
    (some (.inr (.inr (v2,v3,v4,m_cells,v5,v6,xs,d,()))))
def L_spec_l08Factor_m_0 (n:Int) (k:Int) (v:Int) (v1:Int) (v2:Int) (v3:Int) (v4:List Rt) (m_cells:List Rt) (v5:Int) (v6:Int) (xs:List Rt) (d:List Rt):Option (((List Rt) × Bool × Int × Int × (List Rt) × (List Rt) × Unit) ⊕ (Int × Int × (List Rt) × (List Rt) × Int × Int × (List Rt) × (List Rt) × Unit)):=whileO zbl (n,k,v,v1,v2,v3,v4,m_cells,v5,v6,xs,d,())
def zct (m:Mx):Option (Mx × List Rt × Bool × List Rt) :=
  (zbn m.rows).bind fun r =>
  (L_spec_l08Factor_m_0 m.rows 0 m.rows m.cols 0 0 ([]:List Rt) m.cells r.rows r.cols r.cells ([]:List Rt)).bind fun r1 =>
  match r1 with
  | .inl (t,t1,v,v1,v2,m_cells,_) =>
    some ((⟨v,v1,v2⟩:Mx),t,t1,m_cells)
  | .inr (_,_,_,m_cells1,v6,v7,xs,d,_) =>
    some ((⟨v6,v7,xs⟩:Mx),d,true,m_cells1)
def zdz (m:Mx):Option (Mx × List Rt × Bool × List Rt) :=
  (zaH m).bind fun r =>
  cond (!r)
    (some ((⟨0,0,([]:List Rt)⟩:Mx),([]:List Rt),false,m.cells))
    ((zct m).bind fun (r0,r1,r2,x0) =>
    some (r0,r1,r2,x0))
end Go.Di
namespace Go.Di
def zaY (m:MxT) (i:Int) (k:Int):Option TRt :=
  (idx m.cells (IntKind.i64.wrap ((IntKind.i64.wrap (i * m.cols))+k))).bind fun e =>
  some e
def zbv:Int × Int × Int × Int × Int × Int × Int × Int × Int × (List Rt) × Int × Int × Int × Int × Bool × Tk × Tk × Bool × Tk × Tk × (List TRt) × (List TRt) × (List TRt) × Nat × Unit→Option ((Int × Int × Int × Int × Int × Int × Int × Int × Int × (List Rt) × Int × Int × Int × Int × Bool × Tk × Tk × Bool × Tk × Tk × (List TRt) × (List TRt) × (List TRt) × Nat × Unit) ⊕ (Int × Int × Int × Int × Int × Int × Int × (List Rt) × Int × Int × Int × Int × Bool × Tk × Tk × Bool × Tk × Tk × (List TRt) × (List TRt) × (List TRt) × Nat × Unit)):=fun (n,k,i,t,t1,t2,t3,v,v1,v2,v3,v4,v5,v6,v7,v8,v9,v10,v11,v12,d,xs,xs1,np,_) =>
  cond (decide (t3 < t2))
    ((idx d t3).bind fun _ =>
    (d[t3.toNat]?).bind fun e =>
    (zaY (⟨v5,v6,xs⟩:MxT) i t3).bind fun r =>
    (zaY (⟨v5,v6,xs⟩:MxT) k t3).bind fun r1 =>
    (zb9 r.er r1.er).bind fun r2 =>
    (zb9 r2 e.er).bind fun r3 =>
    (zeZ (⟨v10,v11.xs,v12.xs⟩:Rt) r3).bind fun r4 =>
    some (.inl (n,k,i,t,t1,t2,IntKind.i64.wrap (t3+1),v,v1,v2,v3,v4,v5,v6,v7,v8,v9,r4.neg,(⟨np+4,r4.mag⟩:Tk),(⟨np+5,r4.den⟩:Tk),d,xs,xs1,np+6,())))
    (some (.inr (n,k,i,t,t1,v,v1,v2,v3,v4,v5,v6,v7,v8,v9,v10,v11,v12,d,xs,xs1,np,())))
def ze0 (n:Int) (k:Int) (i:Int) (t:Int) (t1:Int) (t2:Int) (t3:Int) (v:Int) (v1:Int) (v2:List Rt) (v3:Int) (v4:Int) (v5:Int) (v6:Int) (v7:Bool) (v8:Tk) (v9:Tk) (v10:Bool) (v11:Tk) (v12:Tk) (d:List TRt) (xs:List TRt) (xs1:List TRt) (np:Nat):Option (Int × Int × Int × Int × Int × Int × Int × (List Rt) × Int × Int × Int × Int × Bool × Tk × Tk × Bool × Tk × Tk × (List TRt) × (List TRt) × (List TRt) × Nat × Unit):=whileO zbv (n,k,i,t,t1,t2,t3,v,v1,v2,v3,v4,v5,v6,v7,v8,v9,v10,v11,v12,d,xs,xs1,np,())
def zbw:Int × Int × Int × Int × Int × Int × Int × (List Rt) × Int × Int × Int × Int × Bool × Tk × Tk × (List TRt) × (List TRt) × (List TRt) × Nat × Unit→Option ((Int × Int × Int × Int × Int × Int × Int × (List Rt) × Int × Int × Int × Int × Bool × Tk × Tk × (List TRt) × (List TRt) × (List TRt) × Nat × Unit) ⊕ ((Bool × Int × Int × (List TRt) × (List TRt) × Nat × Unit) ⊕ (Int × Int × Int × Int × Int × (List Rt) × Int × Int × Int × Int × (List TRt) × (List TRt) × (List TRt) × Nat × Unit))):=fun (n,k,i,t,t1,v,v1,v2,v3,v4,v5,v6,v7,v8,v9,d,xs,xs1,np,_) =>
  cond (decide (i < n))
    ((zbp (⟨v,v1,v2⟩:Mx) i k).bind fun r =>
    (zbd r).bind fun r1 =>
    (ze0 n k i t t1 k 0 v v1 v2 v3 v4 v5 v6 v7 v8 v9 r1.neg (⟨np,r1.mag⟩:Tk) (⟨np+1,r1.den⟩:Tk) d xs xs1 (np+2)).bind fun (n1,k1,i1,t2,t3,v10,v11,v12,v13,v14,v15,v16,v17,v18,v19,v20,v21,v22,d1,xs2,xs3,np1,_) =>
    (zfN (⟨v20,v21.xs,v22.xs⟩:Rt) (⟨v17,v18.xs,v19.xs⟩:Rt)).bind fun r2 =>
    (zaW r2).bind fun r3 =>
    cond r3
      (some (.inr (.inl (false,0,0,([]:List TRt),([]:List TRt),np1+2,()))))
      ((idx xs2 (IntKind.i64.wrap ((IntKind.i64.wrap (i1 * n1))+k1))).bind fun _ =>
      some (.inl (n1,k1,IntKind.i64.wrap (i1+1),t2,t3,v10,v11,v12,v13,v14,v15,v16,v17,v18,v19,d1,xs2.set ((IntKind.i64.wrap ((IntKind.i64.wrap (i1 * n1))+k1)).toNat) (⟨r2.neg,(⟨np1,r2.mag⟩:Tk),(⟨np1+1,r2.den⟩:Tk)⟩:TRt),xs3,np1+2,()))))
    (some (.inr (.inr (n,t,t1,v,v1,v2,v3,v4,v5,v6,d,xs,xs1,np,()))))
def ze1 (n:Int) (k:Int) (i:Int) (t:Int) (t1:Int) (v:Int) (v1:Int) (v2:List Rt) (v3:Int) (v4:Int) (v5:Int) (v6:Int) (v7:Bool) (v8:Tk) (v9:Tk) (d:List TRt) (xs:List TRt) (xs1:List TRt) (np:Nat):Option ((Bool × Int × Int × (List TRt) × (List TRt) × Nat × Unit) ⊕ (Int × Int × Int × Int × Int × (List Rt) × Int × Int × Int × Int × (List TRt) × (List TRt) × (List TRt) × Nat × Unit)):=whileO zbw (n,k,i,t,t1,v,v1,v2,v3,v4,v5,v6,v7,v8,v9,d,xs,xs1,np,())
def zbx:Int × Int × Int × Int × Int × Int × Int × Int × (List Rt) × Int × Int × Int × Int × Bool × Tk × Tk × (List TRt) × (List TRt) × (List TRt) × Nat × Unit→Option ((Int × Int × Int × Int × Int × Int × Int × Int × (List Rt) × Int × Int × Int × Int × Bool × Tk × Tk × (List TRt) × (List TRt) × (List TRt) × Nat × Unit) ⊕ (Int × Int × Int × Int × Int × Int × (List Rt) × Int × Int × Int × Int × Bool × Tk × Tk × (List TRt) × (List TRt) × (List TRt) × Nat × Unit)):=fun (n,k,t,t1,t2,t3,v,v1,v2,v3,v4,v5,v6,v7,v8,v9,xs,d,xs1,np,_) =>
  cond (decide (t3 < t2))
    ((idx d t3).bind fun _ =>
    (d[t3.toNat]?).bind fun e =>
    (zaY (⟨v5,v6,xs⟩:MxT) k t3).bind fun r =>
    (zaY (⟨v5,v6,xs⟩:MxT) k t3).bind fun r1 =>
    (zb9 r.er r1.er).bind fun r2 =>
    (zb9 r2 e.er).bind fun r3 =>
    (zeZ (⟨v7,v8.xs,v9.xs⟩:Rt) r3).bind fun r4 =>
    some (.inl (n,k,t,t1,t2,IntKind.i64.wrap (t3+1),v,v1,v2,v3,v4,v5,v6,r4.neg,(⟨np+4,r4.mag⟩:Tk),(⟨np+5,r4.den⟩:Tk),xs,d,xs1,np+6,())))
    (some (.inr (n,k,t,t1,v,v1,v2,v3,v4,v5,v6,v7,v8,v9,xs,d,xs1,np,())))
def ze2 (n:Int) (k:Int) (t:Int) (t1:Int) (t2:Int) (t3:Int) (v:Int) (v1:Int) (v2:List Rt) (v3:Int) (v4:Int) (v5:Int) (v6:Int) (v7:Bool) (v8:Tk) (v9:Tk) (xs:List TRt) (d:List TRt) (xs1:List TRt) (np:Nat):Option (Int × Int × Int × Int × Int × Int × (List Rt) × Int × Int × Int × Int × Bool × Tk × Tk × (List TRt) × (List TRt) × (List TRt) × Nat × Unit):=whileO zbx (n,k,t,t1,t2,t3,v,v1,v2,v3,v4,v5,v6,v7,v8,v9,xs,d,xs1,np,())
def zby:Int × Int × Int × Int × Int × (List Rt) × Int × Int × Int × Int × (List TRt) × (List TRt) × (List TRt) × Nat × Unit→Option ((Int × Int × Int × Int × Int × (List Rt) × Int × Int × Int × Int × (List TRt) × (List TRt) × (List TRt) × Nat × Unit) ⊕ ((Bool × Int × Int × (List TRt) × (List TRt) × Nat × Unit) ⊕ (Int × Int × Int × Int × (List TRt) × (List TRt) × (List TRt) × Nat × Unit))):=fun (n,t,t1,v,v1,v2,v3,v4,v5,v6,xs,d,xs1,np,_) =>
  cond (decide (t1 < t))
    ((zbp (⟨v,v1,v2⟩:Mx) t1 t1).bind fun r =>
    (zbd r).bind fun r1 =>
    (ze2 n t1 t t1 t1 0 v v1 v2 v3 v4 v5 v6 r1.neg (⟨np,r1.mag⟩:Tk) (⟨np+1,r1.den⟩:Tk) xs d xs1 (np+2)).bind fun (n1,k,t2,t3,v7,v8,v9,v10,v11,v12,v13,v14,v15,v16,xs2,d1,xs3,np1,_) =>
    (zaW (⟨v14,v15.xs,v16.xs⟩:Rt)).bind fun r2 =>
    cond r2
      (some (.inr (.inl (false,0,0,([]:List TRt),([]:List TRt),np1,()))))
      ((zdB (⟨v14,v15.xs,v16.xs⟩:Rt)).bind fun r3 =>
      cond (decide (r3≤0))
        (some (.inr (.inl (false,0,0,([]:List TRt),([]:List TRt),np1,()))))
        ((zal (Nat.ble (d1.length+1) zar)).bind fun _ =>
        (ze1 n1 k (IntKind.i64.wrap (k+1)) t2 t3 v7 v8 v9 v10 v11 v12 v13 v14 v15 v16 (d1++([(⟨v14,v15,v16⟩:TRt)]:List TRt)) xs2 xs3 np1).bind fun r4 =>
        match r4 with
        | .inl (t4,v17,v18,xs4,t5,np2,_) =>
          some (.inr (.inl (t4,v17,v18,xs4,t5,np2,())))
        | .inr (n2,t6,t7,v19,v20,v21,v22,v23,v24,v25,d2,xs5,xs6,np3,_) =>
          some (.inl (n2,t6,IntKind.i64.wrap (t7+1),v19,v20,v21,v22,v23,v24,v25,xs5,d2,xs6,np3,())))))
    (some (.inr (.inr (v3,v4,v5,v6,xs,d,xs1,np,()))))
def zdV (n:Int) (t:Int) (t1:Int) (v:Int) (v1:Int) (v2:List Rt) (v3:Int) (v4:Int) (v5:Int) (v6:Int) (xs:List TRt) (d:List TRt) (xs1:List TRt) (np:Nat):Option ((Bool × Int × Int × (List TRt) × (List TRt) × Nat × Unit) ⊕ (Int × Int × Int × Int × (List TRt) × (List TRt) × (List TRt) × Nat × Unit)):=whileO zby (n,t,t1,v,v1,v2,v3,v4,v5,v6,xs,d,xs1,np,())
def zc0 (m:Mx):Option (Mx × List Rt × Bool) :=
  (zaT m).bind fun r =>
  cond (!r)
    (some ((⟨0,0,([]:List Rt)⟩:Mx),([]:List Rt),false))
    ((zf6 m.rows).bind fun r1 =>
    (zdV m.rows m.rows 0 m.rows m.cols m.cells 0 0 r1.rows r1.cols (zp7 0 r1.cells) ([]:List TRt) ([]:List TRt) (0+(2 * r1.cells.length))).bind fun r2 =>
    match r2 with
    | .inl (t,v,v1,xs,t1,_,_) =>
      (zal (zdX (zhj xs++(zhj t1++([]:List Nat))))).bind fun _ =>
      some ((⟨v,v1,xs.map TRt.er⟩:Mx),t1.map TRt.er,t)
    | .inr (_,_,v4,v5,xs1,d,_,_,_) =>
      (zal (zdX (zhj xs1++(zhj d++([]:List Nat))))).bind fun _ =>
      some ((⟨v4,v5,xs1.map TRt.er⟩:Mx),d.map TRt.er,true))
end Go.Di
namespace Go.Di
def M_laws_FnExactFactor (aM:Mx):Option Bool :=
  (zeC aM 1048576).bind fun r =>
  cond (decide (r < 0))
    (some true)
    ((zce aM).bind fun r1 =>
    (zez r1).bind fun (r0,r1_1,r2) =>
    (zce aM).bind fun r3 =>
    (zc0 r3).bind fun (r0_1,r1_2,r2_1) =>
    (zcf r0_1 r0).bind fun r4 =>
    cond (!r4)
      (some false)
      ((zdR r1_2 r1_1).bind fun r5 =>
      cond (!r5)
        (some false)
        (cond (!(r2_1 == r2))
          (some false)
          ((zce aM).bind fun r6 =>
          (zcf r3 r6).bind fun r7 =>
          cond (!r7)
            (some false)
            ((zbQ r3 1).bind fun (r0_2,_) =>
            cond (decide (r0_2 < 0))
              (some false)
              ((zcf r0_1 r0).bind fun r8 =>
              cond (!r8)
                (some false)
                ((zdR r1_2 r1_1).bind fun r9 =>
                cond (!r9)
                  (some false)
                  (cond (!(r2_1 == r2))
                    (some false)
                    ((zbQ r0_1 1).bind fun (r0_3,x0_1) =>
                    (zcw r1_2 r0_3).bind fun (r0_4,x0_2) =>
                    (zcX (⟨r0_1.rows,r0_1.cols,x0_1⟩:Mx) 1).bind fun r10 =>
                    cond (decide (r10 < 0))
                      (some false)
                      ((zcW x0_2 r10).bind fun r11 =>
                      cond (decide (r11 < 0))
                        (some false)
                        (cond (r11 != r0_4)
                          (some false)
                          ((zce aM).bind fun r12 =>
                          (zc0 r12).bind fun (r0_5,r1_3,r2_2) =>
                          (zcf r0_5 r0).bind fun r13 =>
                          cond (!r13)
                            (some false)
                            ((zdR r1_3 r1_1).bind fun r14 =>
                            cond (!r14)
                              (some false)
                              (cond (!(r2_2==r2))
                                (some false)
                                ((zcX (⟨r0_1.rows,r0_1.cols,x0_1⟩:Mx) 1).bind fun r15 =>
                                cond (decide (r15 < 0))
                                  (some false)
                                  ((zcW x0_2 r15).bind fun r16 =>
                                  cond (decide (r16 < 0))
                                    (some false)
                                    (cond (r16 != r0_4)
                                      (some false)
                                      (some true))))))))))))))))))
end Go.Di
