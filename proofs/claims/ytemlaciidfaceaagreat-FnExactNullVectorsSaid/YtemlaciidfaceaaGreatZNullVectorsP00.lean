/-
  Own work: part 7 of the texts that the proof of the given statement leans on.
-/
import Derived.Test.YtemlaciidfaceaaGreatZE01
noncomputable section
namespace Go.Di
end Go.Di
namespace Go.Di
def zcF (m:MxT) (i:Int) (k:Int):Option TRt :=
  (idx m.cells (IntKind.i64.wrap ((IntKind.i64.wrap (i * m.cols))+k))).bind fun e =>
  some e
def zaG (m:MxT) (i:Int):Option ((Nat × Nat) × List TRt) :=
  (zak (inside m.cells.length (IntKind.i64.wrap (i * m.cols),IntKind.i64.wrap ((IntKind.i64.wrap (i+1)) * m.cols)))).bind fun _ =>
  some (((IntKind.i64.wrap (i * m.cols)).toNat,((IntKind.i64.wrap ((IntKind.i64.wrap (i+1)) * m.cols)).toNat) - ((IntKind.i64.wrap (i * m.cols)).toNat)),m.cells)
def zbo:Int × Int × Nat × Nat × Nat × Nat × Int × Int × Int × Int × Int × Int × Int × Int × Int × Int × Bool × Tk × Tk × (List TRt) × (List TRt) × (List Int) × (List TRt) × (List Int) × (List TRt) × Nat × Unit→Option ((Int × Int × Nat × Nat × Nat × Nat × Int × Int × Int × Int × Int × Int × Int × Int × Int × Int × Bool × Tk × Tk × (List TRt) × (List TRt) × (List Int) × (List TRt) × (List Int) × (List TRt) × Nat × Unit) ⊕ (Int × Int × Nat × Nat × Nat × Nat × Int × Int × Int × Int × Int × Int × Int × Int × (List TRt) × (List TRt) × (List Int) × (List TRt) × (List Int) × (List TRt) × Nat × Unit)):=fun (used,c,lo,len,lo1,len1,t,t1,t2,t3,v,v1,v2,v3,v4,v5,v6,v7,v8,xs,xs1,xs2,xs3,xs4,xs5,np,_) =>
  cond (decide (t3 < t2))
    ((idx (cut xs lo1 (lo1+len1)) t3).bind fun _ =>
    (xs[lo1+t3.toNat]?).bind fun e =>
    (idx (cut xs lo (lo+len)) t3).bind fun _ =>
    (xs[lo+t3.toNat]?).bind fun e1 =>
    (zeb (⟨v6,v7.xs,v8.xs⟩:Rt) e1.er).bind fun r =>
    (zg2 e.er r).bind fun r1 =>
    (idx (cut xs lo1 (lo1+len1)) t3).bind fun _ =>
    some (.inl (used,c,lo,len,lo1,len1,t,t1,t2,IntKind.i64.wrap (t3+1),v,v1,v2,v3,v4,v5,v6,v7,v8,xs.set (lo1+t3.toNat) (⟨r1.neg,(⟨np+2,r1.mag⟩:Tk),(⟨np+3,r1.den⟩:Tk)⟩:TRt),xs1,xs2,xs3,xs4,xs5,np+4,())))
    (some (.inr (used,c,lo,len,lo1,len1,t,t1,v,v1,v2,v3,v4,v5,xs,xs1,xs2,xs3,xs4,xs5,np,())))
def ze0 (used:Int) (c:Int) (lo:Nat) (len:Nat) (lo1:Nat) (len1:Nat) (t:Int) (t1:Int) (t2:Int) (t3:Int) (v:Int) (v1:Int) (v2:Int) (v3:Int) (v4:Int) (v5:Int) (v6:Bool) (v7:Tk) (v8:Tk) (xs:List TRt) (xs1:List TRt) (xs2:List Int) (xs3:List TRt) (xs4:List Int) (xs5:List TRt) (np:Nat):Option (Int × Int × Nat × Nat × Nat × Nat × Int × Int × Int × Int × Int × Int × Int × Int × (List TRt) × (List TRt) × (List Int) × (List TRt) × (List Int) × (List TRt) × Nat × Unit):=whileO zbo (used,c,lo,len,lo1,len1,t,t1,t2,t3,v,v1,v2,v3,v4,v5,v6,v7,v8,xs,xs1,xs2,xs3,xs4,xs5,np,())
def zbp:Int × Int × Nat × Nat × Int × Int × Int × Int × Int × Int × Int × Int × (List TRt) × (List TRt) × (List Int) × (List TRt) × (List Int) × (List TRt) × Nat × Unit→Option ((Int × Int × Nat × Nat × Int × Int × Int × Int × Int × Int × Int × Int × (List TRt) × (List TRt) × (List Int) × (List TRt) × (List Int) × (List TRt) × Nat × Unit) ⊕ ((Bool × Int × Int × (List TRt) × (List Int) × (List TRt) × Nat × Unit) ⊕ (Int × Int × Int × Int × Int × Int × Int × Int × (List TRt) × (List TRt) × (List Int) × (List TRt) × (List Int) × (List TRt) × Nat × Unit))):=fun (used,c,lo,len,t,t1,v,v1,v2,v3,v4,v5,xs,xs1,xs2,xs3,xs4,xs5,np,_) =>
  cond (decide (t1 < t))
    ((zaG (⟨v4,v5,xs⟩:MxT) t1).bind fun (r0,x0) =>
    cond (t1==used)
      (some (.inl (used,c,lo,len,t,IntKind.i64.wrap (t1+1),v,v1,v2,v3,v4,v5,x0,xs1,xs2,xs3,xs4,xs5,np,())))
      ((idx (cut x0 r0.1 (r0.1+r0.2)) c).bind fun _ =>
      (x0[r0.1+c.toNat]?).bind fun e =>
      (zdK e.er).bind fun r =>
      cond r
        (some (.inl (used,c,lo,len,t,IntKind.i64.wrap (t1+1),v,v1,v2,v3,v4,v5,x0,xs1,xs2,xs3,xs4,xs5,np,())))
        ((idx (cut x0 r0.1 (r0.1+r0.2)) c).bind fun _ =>
        (x0[r0.1+c.toNat]?).bind fun e1 =>
        (ze0 used c lo len r0.1 r0.2 t t1 (r0.2:Int) 0 v v1 v2 v3 v4 v5 e1.neg e1.mag e1.den x0 xs1 xs2 xs3 xs4 xs5 np).bind fun (used1,c1,lo1,len1,lo2,len2,t2,t3,v6,v7,v8,v9,v10,v11,xs6,xs7,xs8,xs9,xs10,xs11,np1,_) =>
        (za5 ((cut xs6 lo2 (lo2+len2)).map TRt.er)).bind fun r1 =>
        cond (!r1)
          (some (.inr (.inl (false,0,0,([]:List TRt),([]:List Int),([]:List TRt),np1,()))))
          (some (.inl (used1,c1,lo1,len1,t2,IntKind.i64.wrap (t3+1),v6,v7,v8,v9,v10,v11,xs6,xs7,xs8,xs9,xs10,xs11,np1,()))))))
    (some (.inr (.inr (used,c,v,v1,v2,v3,v4,v5,xs,xs1,xs2,xs3,xs4,xs5,np,()))))
def zdO (used:Int) (c:Int) (lo:Nat) (len:Nat) (t:Int) (t1:Int) (v:Int) (v1:Int) (v2:Int) (v3:Int) (v4:Int) (v5:Int) (xs:List TRt) (xs1:List TRt) (xs2:List Int) (xs3:List TRt) (xs4:List Int) (xs5:List TRt) (np:Nat):Option ((Bool × Int × Int × (List TRt) × (List Int) × (List TRt) × Nat × Unit) ⊕ (Int × Int × Int × Int × Int × Int × Int × Int × (List TRt) × (List TRt) × (List Int) × (List TRt) × (List Int) × (List TRt) × Nat × Unit)):=whileO zbp (used,c,lo,len,t,t1,v,v1,v2,v3,v4,v5,xs,xs1,xs2,xs3,xs4,xs5,np,())
def zbq:Int × Int × Nat × Nat × Int × Int × Int × Int × Int × Int × Int × Int × Bool × Tk × Tk × (List TRt) × (List TRt) × (List Int) × (List TRt) × (List Int) × (List TRt) × Nat × Unit→Option ((Int × Int × Nat × Nat × Int × Int × Int × Int × Int × Int × Int × Int × Bool × Tk × Tk × (List TRt) × (List TRt) × (List Int) × (List TRt) × (List Int) × (List TRt) × Nat × Unit) ⊕ (Int × Int × Nat × Nat × Int × Int × Int × Int × Int × Int × (List TRt) × (List TRt) × (List Int) × (List TRt) × (List Int) × (List TRt) × Nat × Unit)):=fun (used,c,lo,len,t,t1,v,v1,v2,v3,v4,v5,v6,v7,v8,xs,xs1,xs2,xs3,xs4,xs5,np,_) =>
  cond (decide (t1 < t))
    ((idx (cut xs lo (lo+len)) t1).bind fun _ =>
    (xs[lo+t1.toNat]?).bind fun e =>
    (zfN e.er (⟨v6,v7.xs,v8.xs⟩:Rt)).bind fun r =>
    (idx (cut xs lo (lo+len)) t1).bind fun _ =>
    some (.inl (used,c,lo,len,t,IntKind.i64.wrap (t1+1),v,v1,v2,v3,v4,v5,v6,v7,v8,xs.set (lo+t1.toNat) (⟨r.neg,(⟨np,r.mag⟩:Tk),(⟨np+1,r.den⟩:Tk)⟩:TRt),xs1,xs2,xs3,xs4,xs5,np+2,())))
    (some (.inr (used,c,lo,len,v,v1,v2,v3,v4,v5,xs,xs1,xs2,xs3,xs4,xs5,np,())))
def zdP (used:Int) (c:Int) (lo:Nat) (len:Nat) (t:Int) (t1:Int) (v:Int) (v1:Int) (v2:Int) (v3:Int) (v4:Int) (v5:Int) (v6:Bool) (v7:Tk) (v8:Tk) (xs:List TRt) (xs1:List TRt) (xs2:List Int) (xs3:List TRt) (xs4:List Int) (xs5:List TRt) (np:Nat):Option (Int × Int × Nat × Nat × Int × Int × Int × Int × Int × Int × (List TRt) × (List TRt) × (List Int) × (List TRt) × (List Int) × (List TRt) × Nat × Unit):=whileO zbq (used,c,lo,len,t,t1,v,v1,v2,v3,v4,v5,v6,v7,v8,xs,xs1,xs2,xs3,xs4,xs5,np,())
def zbr:Int × Int × Nat × Nat × Nat × Nat × Int × Int × Int × Int × Int × Int × Int × Int × (List TRt) × (List TRt) × (List Int) × (List TRt) × (List Int) × (List TRt) × Nat × Unit→Option ((Int × Int × Nat × Nat × Nat × Nat × Int × Int × Int × Int × Int × Int × Int × Int × (List TRt) × (List TRt) × (List Int) × (List TRt) × (List Int) × (List TRt) × Nat × Unit) ⊕ (Int × Int × Int × Int × Int × Int × Int × Int × (List TRt) × (List TRt) × (List Int) × (List TRt) × (List Int) × (List TRt) × Nat × Unit)):=fun (used,c,lo,len,lo1,len1,t,t1,v,v1,v2,v3,v4,v5,xs,xs1,xs2,xs3,xs4,xs5,np,_) =>
  cond (decide (t1 < t))
    ((idx (cut xs lo1 (lo1+len1)) t1).bind fun _ =>
    (xs[lo1+t1.toNat]?).bind fun e =>
    (idx (cut xs lo (lo+len)) t1).bind fun _ =>
    (xs[lo+t1.toNat]?).bind fun e1 =>
    (idx (cut xs lo (lo+len)) t1).bind fun _ =>
    (idx (cut (xs.set (lo+t1.toNat) e) lo1 (lo1+len1)) t1).bind fun _ =>
    some (.inl (used,c,lo,len,lo1,len1,t,IntKind.i64.wrap (t1+1),v,v1,v2,v3,v4,v5,(xs.set (lo+t1.toNat) e).set (lo1+t1.toNat) e1,xs1,xs2,xs3,xs4,xs5,np,())))
    (some (.inr (used,c,v,v1,v2,v3,v4,v5,xs,xs1,xs2,xs3,xs4,xs5,np,())))
def ze1 (used:Int) (c:Int) (lo:Nat) (len:Nat) (lo1:Nat) (len1:Nat) (t:Int) (t1:Int) (v:Int) (v1:Int) (v2:Int) (v3:Int) (v4:Int) (v5:Int) (xs:List TRt) (xs1:List TRt) (xs2:List Int) (xs3:List TRt) (xs4:List Int) (xs5:List TRt) (np:Nat):Option (Int × Int × Int × Int × Int × Int × Int × Int × (List TRt) × (List TRt) × (List Int) × (List TRt) × (List Int) × (List TRt) × Nat × Unit):=whileO zbr (used,c,lo,len,lo1,len1,t,t1,v,v1,v2,v3,v4,v5,xs,xs1,xs2,xs3,xs4,xs5,np,())
def zbs:Int × Int × Int × Int × Int × Int × Int × Int × Int × (List TRt) × (List Int) × (List TRt) × (List TRt) × (List Int) × (List TRt) × Nat × Unit→Option ((Int × Int × Int × Int × Int × Int × Int × Int × Int × (List TRt) × (List Int) × (List TRt) × (List TRt) × (List Int) × (List TRt) × Nat × Unit) ⊕ (Int × Int × Int × Int × Int × Int × Int × Int × Int × (List TRt) × (List Int) × (List TRt) × (List TRt) × (List Int) × (List TRt) × Nat × Unit)):=fun (used,c,p,v,v1,v2,v3,v4,v5,xs,xs1,xs2,xs3,xs4,xs5,np,_) =>
  cond (decide (p < v4))
    ((zcF (⟨v4,v5,xs⟩:MxT) p c).bind fun r =>
    (zdK r.er).bind fun r1 =>
    cond r1
      (some (.inl (used,c,IntKind.i64.wrap (p+1),v,v1,v2,v3,v4,v5,xs,xs1,xs2,xs3,xs4,xs5,np,())))
      (some (.inr (used,c,p,v,v1,v2,v3,v4,v5,xs,xs1,xs2,xs3,xs4,xs5,np,()))))
    (some (.inr (used,c,p,v,v1,v2,v3,v4,v5,xs,xs1,xs2,xs3,xs4,xs5,np,())))
def ze2 (used:Int) (c:Int) (p:Int) (v:Int) (v1:Int) (v2:Int) (v3:Int) (v4:Int) (v5:Int) (xs:List TRt) (xs1:List Int) (xs2:List TRt) (xs3:List TRt) (xs4:List Int) (xs5:List TRt) (np:Nat):Option (Int × Int × Int × Int × Int × Int × Int × Int × Int × (List TRt) × (List Int) × (List TRt) × (List TRt) × (List Int) × (List TRt) × Nat × Unit):=whileO zbs (used,c,p,v,v1,v2,v3,v4,v5,xs,xs1,xs2,xs3,xs4,xs5,np,())
def zbt:Int × Int × Int × Int × Int × Int × Int × Int × (List TRt) × (List Int) × (List TRt) × (List TRt) × (List Int) × (List TRt) × Nat × Unit→Option ((Int × Int × Int × Int × Int × Int × Int × Int × (List TRt) × (List Int) × (List TRt) × (List TRt) × (List Int) × (List TRt) × Nat × Unit) ⊕ ((Bool × Int × Int × (List TRt) × (List Int) × (List TRt) × Nat × Unit) ⊕ (Int × Int × Int × Int × (List TRt) × (List Int) × (List TRt) × (List TRt) × (List Int) × (List TRt) × Nat × Unit))):=fun (used,c,v,v1,v2,v3,v4,v5,xs,xs1,xs2,xs3,xs4,xs5,np,_) =>
  cond (decide (c < v5))
    (cond (decide (used < v4))
      ((ze2 used c used v v1 v2 v3 v4 v5 xs xs1 xs2 xs3 xs4 xs5 np).bind fun (used1,c1,p,v6,v7,v8,v9,v10,v11,xs6,xs7,xs8,xs9,xs10,xs11,np1,_) =>
      cond (p == v10)
        (some (.inl (used1,IntKind.i64.wrap (c1+1),v6,v7,v8,v9,v10,v11,xs6,xs7,xs8,xs9,xs10,xs11,np1,())))
        (cond (p != used1)
          ((zbL (-1)).bind fun r =>
          (zak (Nat.ble (xs8.length+1) zan)).bind fun _ =>
          (zaG (⟨v10,v11,xs6⟩:MxT) p).bind fun (r0,x0) =>
          (zaG (⟨v10,v11,x0⟩:MxT) used1).bind fun (r0_1,x0_1) =>
          (ze1 used1 c1 r0.1 r0.2 r0_1.1 r0_1.2 (r0.2:Int) 0 v6 v7 v8 v9 v10 v11 x0_1 (xs8++([(⟨r.neg,(⟨np1,r.mag⟩:Tk),(⟨np1+1,r.den⟩:Tk)⟩:TRt)]:List TRt)) xs7 xs9 xs10 xs11 (np1+2)).bind fun (used2,c2,v12,v13,v14,v15,v16,v17,xs12,xs13,xs14,xs15,xs16,xs17,np2,_) =>
          (zaG (⟨v16,v17,xs12⟩:MxT) used2).bind fun (r0_2,x0_2) =>
          (idx (cut x0_2 r0_2.1 (r0_2.1+r0_2.2)) c2).bind fun _ =>
          (x0_2[r0_2.1+c2.toNat]?).bind fun e =>
          (zak (Nat.ble (xs13.length+1) zan)).bind fun _ =>
          (zdP used2 c2 r0_2.1 r0_2.2 (r0_2.2:Int) 0 v12 v13 v14 v15 v16 v17 e.neg e.mag e.den x0_2 (xs13++([e]:List TRt)) xs14 xs15 xs16 xs17 np2).bind fun (used3,c3,lo,len,v18,v19,v20,v21,v22,v23,xs18,xs19,xs20,xs21,xs22,xs23,np3,_) =>
          (za5 ((cut xs18 lo (lo+len)).map TRt.er)).bind fun r1 =>
          cond (!r1)
            (some (.inr (.inl (false,0,0,([]:List TRt),([]:List Int),([]:List TRt),np3,()))))
            ((zdO used3 c3 lo len v22 0 v18 v19 v20 v21 v22 v23 xs18 xs19 xs20 xs21 xs22 xs23 np3).bind fun r2 =>
            match r2 with
            | .inl (t,v24,v25,xs24,xs25,xs26,np4,_) =>
              some (.inr (.inl (t,v24,v25,xs24,xs25,xs26,np4,())))
            | .inr (used4,c4,v26,v27,v28,v29,v30,v31,xs27,xs28,xs29,xs30,xs31,xs32,np5,_) =>
              (zak (Nat.ble (xs29.length+1) zan)).bind fun _ =>
              some (.inl (IntKind.i64.wrap (used4+1),IntKind.i64.wrap (c4+1),v26,v27,v28,v29,v30,v31,xs27,xs29++([c4]:List Int),xs28,xs30,xs31,xs32,np5,()))))
          ((zaG (⟨v10,v11,xs6⟩:MxT) used1).bind fun (r0,x0) =>
          (idx (cut x0 r0.1 (r0.1+r0.2)) c1).bind fun _ =>
          (x0[r0.1+c1.toNat]?).bind fun e =>
          (zak (Nat.ble (xs8.length+1) zan)).bind fun _ =>
          (zdP used1 c1 r0.1 r0.2 (r0.2:Int) 0 v6 v7 v8 v9 v10 v11 e.neg e.mag e.den x0 (xs8++([e]:List TRt)) xs7 xs9 xs10 xs11 np1).bind fun (used2,c2,lo,len,v12,v13,v14,v15,v16,v17,xs12,xs13,xs14,xs15,xs16,xs17,np2,_) =>
          (za5 ((cut xs12 lo (lo+len)).map TRt.er)).bind fun r =>
          cond (!r)
            (some (.inr (.inl (false,0,0,([]:List TRt),([]:List Int),([]:List TRt),np2,()))))
            ((zdO used2 c2 lo len v16 0 v12 v13 v14 v15 v16 v17 xs12 xs13 xs14 xs15 xs16 xs17 np2).bind fun r1 =>
            match r1 with
            | .inl (t,v18,v19,xs18,xs19,xs20,np3,_) =>
              some (.inr (.inl (t,v18,v19,xs18,xs19,xs20,np3,())))
            | .inr (used3,c3,v20,v21,v22,v23,v24,v25,xs21,xs22,xs23,xs24,xs25,xs26,np4,_) =>
              (zak (Nat.ble (xs23.length+1) zan)).bind fun _ =>
              some (.inl (IntKind.i64.wrap (used3+1),IntKind.i64.wrap (c3+1),v20,v21,v22,v23,v24,v25,xs21,xs23++([c3]:List Int),xs22,xs24,xs25,xs26,np4,()))))))
      (some (.inr (.inr (v,v1,v2,v3,xs,xs1,xs2,xs3,xs4,xs5,np,())))))
    (some (.inr (.inr (v,v1,v2,v3,xs,xs1,xs2,xs3,xs4,xs5,np,()))))
def zdQ (used:Int) (c:Int) (v:Int) (v1:Int) (v2:Int) (v3:Int) (v4:Int) (v5:Int) (xs:List TRt) (xs1:List Int) (xs2:List TRt) (xs3:List TRt) (xs4:List Int) (xs5:List TRt) (np:Nat):Option ((Bool × Int × Int × (List TRt) × (List Int) × (List TRt) × Nat × Unit) ⊕ (Int × Int × Int × Int × (List TRt) × (List Int) × (List TRt) × (List TRt) × (List Int) × (List TRt) × Nat × Unit)):=whileO zbt (used,c,v,v1,v2,v3,v4,v5,xs,xs1,xs2,xs3,xs4,xs5,np,())
def zeG (m:Mx):Option (RdnP × Bool) :=
  (zb7 m.cells).bind fun r =>
  (zdQ 0 0 0 0 m.rows m.cols m.rows m.cols (zqW 0 r) ([]:List Int) ([]:List TRt) ([]:List TRt) ([]:List Int) ([]:List TRt) (0+(2 * r.length))).bind fun r1 =>
  match r1 with
  | .inl (t,v,v1,xs,xs1,_,_,_) =>
    (zak (zed (ziW xs++([]:List Nat)))).bind fun _ =>
    some ((⟨v,v1,xs.map TRt.er,xs1⟩:RdnP),t)
  | .inr (_,_,v4,v5,xs3,xs4,_,_,_,_,_,_) =>
    (zak (zed (ziW xs3++([]:List Nat)))).bind fun _ =>
    some ((⟨v4,v5,xs3.map TRt.er,xs4⟩:RdnP),true)
def zcf (m:Mx):Option (Mx × List Int × Bool) :=
  (zdz m).bind fun r =>
  cond (!r)
    (some ((⟨0,0,([]:List Rt)⟩:Mx),([]:List Int),false))
    ((zeG m).bind fun (r0,r1) =>
    cond (!r1)
      (some ((⟨0,0,([]:List Rt)⟩:Mx),([]:List Int),false))
      (some ((⟨r0.rows,r0.cols,r0.cells⟩:Mx),r0.pivots,true)))
def zdf:(List Int) × Int × Int × Int × (List Int) × Int × Int × Int × Int × (List Rt) × Int × Int × (List Rt) × (List Rt) × (List (List Rt)) × Unit→Option (((List Int) × Int × Int × Int × (List Int) × Int × Int × Int × Int × (List Rt) × Int × Int × (List Rt) × (List Rt) × (List (List Rt)) × Unit) ⊕ ((List Int) × Int × Int × Int × Int × (List Rt) × Int × Int × (List Rt) × (List Rt) × (List (List Rt)) × Unit)):=fun (p,c,t,t1,t2,t3,t4,v,v1,v2,v3,v4,v5,v6,out,_) =>
  cond (decide (t4 < t3))
    ((idx t2 t4).bind fun e =>
    (zda (⟨v3,v4,v5⟩:Mx) t4 c).bind fun r =>
    (zfM r).bind fun r1 =>
    (idx v6 e).bind fun _ =>
    ((v6[e.toNat]?).bind fun _=>some r1).bind fun e1 =>
    some (.inl (p,c,t,t1,t2,t3,IntKind.i64.wrap (t4+1),v,v1,v2,v3,v4,v5,v6.set e.toNat e1,out,())))
    (some (.inr (p,t,t1,v,v1,v2,v3,v4,v5,v6,out,())))
def zh2 (p:List Int) (c:Int) (t:Int) (t1:Int) (t2:List Int) (t3:Int) (t4:Int) (v:Int) (v1:Int) (v2:List Rt) (v3:Int) (v4:Int) (v5:List Rt) (v6:List Rt) (out:List (List Rt)):Option ((List Int) × Int × Int × Int × Int × (List Rt) × Int × Int × (List Rt) × (List Rt) × (List (List Rt)) × Unit):=whileO zdf (p,c,t,t1,t2,t3,t4,v,v1,v2,v3,v4,v5,v6,out,())
def zdg:(List Int) × Int × Int × Int × Int × (List Rt) × Int × Int × (List Rt) × (List (List Rt)) × Unit→Option (((List Int) × Int × Int × Int × Int × (List Rt) × Int × Int × (List Rt) × (List (List Rt)) × Unit) ⊕ ((List (List Rt)) × Unit)):=fun (p,t,t1,v,v1,v2,v3,v4,v5,out,_) =>
  cond (decide (t1 < t))
    ((zdL p t1).bind fun r =>
    cond r
      (some (.inl (p,t,IntKind.i64.wrap (t1+1),v,v1,v2,v3,v4,v5,out,())))
      ((zcX v1).bind fun r1 =>
      (zbL 1).bind fun r2 =>
      (idx r1 t1).bind fun _ =>
      ((r1[t1.toNat]?).bind fun _=>some r2).bind fun e =>
      (zh2 p t1 t t1 p (p.length:Int) 0 v v1 v2 v3 v4 v5 (r1.set t1.toNat e) out).bind fun (p1,t2,t3,v6,v7,v8,v9,v10,v11,v12,out1,_) =>
      (zak (Nat.ble (out1.length+1) zan)).bind fun _ =>
      some (.inl (p1,t2,IntKind.i64.wrap (t3+1),v6,v7,v8,v9,v10,v11,out1++([v12]:List (List Rt)),()))))
    (some (.inr (out,())))
def zh3 (p:List Int) (t:Int) (t1:Int) (v:Int) (v1:Int) (v2:List Rt) (v3:Int) (v4:Int) (v5:List Rt) (out:List (List Rt)):Option ((List (List Rt)) × Unit):=whileO zdg (p,t,t1,v,v1,v2,v3,v4,v5,out,())
def zaZ (m:Mx):Option (List (List Rt) × Bool) :=
  (zcf m).bind fun (r0,r1,r2) =>
  cond (!r2)
    (some (([]:List (List Rt)),false))
    ((zh3 r1 m.cols 0 m.rows m.cols m.cells r0.rows r0.cols r0.cells ([]:List (List Rt))).bind fun (out,_) =>
    some (out,true))
end Go.Di
namespace Go.Di
def M_laws_FnExactNullVectors (aM:Mx):Option Bool :=
  (zeA aM 1048576).bind fun r =>
  cond (decide (r < 0))
    (some true)
    ((zce aM).bind fun r1 =>
    (zbO r1).bind fun (r0,r1_1) =>
    (zce aM).bind fun r2 =>
    (zaZ r2).bind fun (r0_1,r1_2) =>
    (zdZ r0_1 r0).bind fun r3 =>
    cond (!r3)
      (some false)
      (cond (!(r1_2 == r1_1))
        (some false)
        ((zce aM).bind fun r4 =>
        (zeD r2 r4).bind fun r5 =>
        cond (!r5)
          (some false)
          ((zcE r2 1).bind fun (r0_2,_) =>
          cond (decide (r0_2 < 0))
            (some false)
            ((zdZ r0_1 r0).bind fun r6 =>
            cond (!r6)
              (some false)
              (cond (!(r1_2 == r1_1))
                (some false)
                ((zc5 r0_1 1).bind fun (r0_3,x0_1) =>
                (zc9 x0_1 1).bind fun r7 =>
                cond (decide (r7 < 0))
                  (some false)
                  (cond (r7 != r0_3)
                    (some false)
                    ((zce aM).bind fun r8 =>
                    (zaZ r8).bind fun (r0_4,r1_3) =>
                    (zdZ r0_4 r0).bind fun r9 =>
                    cond (!r9)
                      (some false)
                      (cond (!(r1_3==r1_1))
                        (some false)
                        ((zc9 x0_1 1).bind fun r10 =>
                        cond (decide (r10 < 0))
                          (some false)
                          (cond (r10 != r0_3)
                            (some false)
                            (some true)))))))))))))
end Go.Di
