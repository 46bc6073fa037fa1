/-
  Own work: part 7 of the texts that the proof of the given statement leans on.
-/
import Derived.Test.YtemlaciidfaceaaGreatZE01
noncomputable section
namespace Go.Di
end Go.Di
namespace Go.Di
def za2 (m:MxT) (i:Int) (k:Int):Option TRt :=
  (idx m.cells (IntKind.i64.wrap ((IntKind.i64.wrap (i * m.cols))+k))).bind fun e =>
  some e
def zaJ (m:MxT) (i:Int):Option ((Nat × Nat) × List TRt) :=
  (zaj (inside m.cells.length (IntKind.i64.wrap (i * m.cols),IntKind.i64.wrap ((IntKind.i64.wrap (i+1)) * m.cols)))).bind fun _ =>
  some (((IntKind.i64.wrap (i * m.cols)).toNat,((IntKind.i64.wrap ((IntKind.i64.wrap (i+1)) * m.cols)).toNat) - ((IntKind.i64.wrap (i * m.cols)).toNat)),m.cells)
def zbr:Int × Int × Nat × Nat × Nat × Nat × Int × Int × Int × Int × Int × Int × Int × Int × Int × Int × Bool × Tk × Tk × (List TRt) × (List TRt) × (List Int) × (List TRt) × (List Int) × (List TRt) × Nat × Unit→Option ((Int × Int × Nat × Nat × Nat × Nat × Int × Int × Int × Int × Int × Int × Int × Int × Int × Int × Bool × Tk × Tk × (List TRt) × (List TRt) × (List Int) × (List TRt) × (List Int) × (List TRt) × Nat × Unit) ⊕ (Int × Int × Nat × Nat × Nat × Nat × Int × Int × Int × Int × Int × Int × Int × Int × (List TRt) × (List TRt) × (List Int) × (List TRt) × (List Int) × (List TRt) × Nat × Unit)):=fun (used,c,lo,len,lo1,len1,t,t1,t2,t3,v,v1,v2,v3,v4,v5,v6,v7,v8,xs,xs1,xs2,xs3,xs4,xs5,np,_) =>
  cond (decide (t3 < t2))
    ((idx (cut xs lo1 (lo1+len1)) t3).bind fun _ =>
    (xs[lo1+t3.toNat]?).bind fun e =>
    (idx (cut xs lo (lo+len)) t3).bind fun _ =>
    (xs[lo+t3.toNat]?).bind fun e1 =>
    (zec (⟨v6,v7.xs,v8.xs⟩:Rt) e1.er).bind fun r =>
    (zgV e.er r).bind fun r1 =>
    (idx (cut xs lo1 (lo1+len1)) t3).bind fun _ =>
    some (.inl (used,c,lo,len,lo1,len1,t,t1,t2,IntKind.i64.wrap (t3+1),v,v1,v2,v3,v4,v5,v6,v7,v8,xs.set (lo1+t3.toNat) (⟨r1.neg,(⟨np+2,r1.mag⟩:Tk),(⟨np+3,r1.den⟩:Tk)⟩:TRt),xs1,xs2,xs3,xs4,xs5,np+4,())))
    (some (.inr (used,c,lo,len,lo1,len1,t,t1,v,v1,v2,v3,v4,v5,xs,xs1,xs2,xs3,xs4,xs5,np,())))
def ze1 (used:Int) (c:Int) (lo:Nat) (len:Nat) (lo1:Nat) (len1:Nat) (t:Int) (t1:Int) (t2:Int) (t3:Int) (v:Int) (v1:Int) (v2:Int) (v3:Int) (v4:Int) (v5:Int) (v6:Bool) (v7:Tk) (v8:Tk) (xs:List TRt) (xs1:List TRt) (xs2:List Int) (xs3:List TRt) (xs4:List Int) (xs5:List TRt) (np:Nat):Option (Int × Int × Nat × Nat × Nat × Nat × Int × Int × Int × Int × Int × Int × Int × Int × (List TRt) × (List TRt) × (List Int) × (List TRt) × (List Int) × (List TRt) × Nat × Unit):=whileO zbr (used,c,lo,len,lo1,len1,t,t1,t2,t3,v,v1,v2,v3,v4,v5,v6,v7,v8,xs,xs1,xs2,xs3,xs4,xs5,np,())
def zbs:Int × Int × Nat × Nat × Int × Int × Int × Int × Int × Int × Int × Int × (List TRt) × (List TRt) × (List Int) × (List TRt) × (List Int) × (List TRt) × Nat × Unit→Option ((Int × Int × Nat × Nat × Int × Int × Int × Int × Int × Int × Int × Int × (List TRt) × (List TRt) × (List Int) × (List TRt) × (List Int) × (List TRt) × Nat × Unit) ⊕ ((Bool × Int × Int × (List TRt) × (List Int) × (List TRt) × Nat × Unit) ⊕ (Int × Int × Int × Int × Int × Int × Int × Int × (List TRt) × (List TRt) × (List Int) × (List TRt) × (List Int) × (List TRt) × Nat × Unit))):=fun (used,c,lo,len,t,t1,v,v1,v2,v3,v4,v5,xs,xs1,xs2,xs3,xs4,xs5,np,_) =>
  cond (decide (t1 < t))
    ((zaJ (⟨v4,v5,xs⟩:MxT) t1).bind fun (r0,x0) =>
    cond (t1==used)
      (some (.inl (used,c,lo,len,t,IntKind.i64.wrap (t1+1),v,v1,v2,v3,v4,v5,x0,xs1,xs2,xs3,xs4,xs5,np,())))
      ((idx (cut x0 r0.1 (r0.1+r0.2)) c).bind fun _ =>
      (x0[r0.1+c.toNat]?).bind fun e =>
      (zdN e.er).bind fun r =>
      cond r
        (some (.inl (used,c,lo,len,t,IntKind.i64.wrap (t1+1),v,v1,v2,v3,v4,v5,x0,xs1,xs2,xs3,xs4,xs5,np,())))
        ((idx (cut x0 r0.1 (r0.1+r0.2)) c).bind fun _ =>
        (x0[r0.1+c.toNat]?).bind fun e1 =>
        (ze1 used c lo len r0.1 r0.2 t t1 (r0.2:Int) 0 v v1 v2 v3 v4 v5 e1.neg e1.mag e1.den x0 xs1 xs2 xs3 xs4 xs5 np).bind fun (used1,c1,lo1,len1,lo2,len2,t2,t3,v6,v7,v8,v9,v10,v11,xs6,xs7,xs8,xs9,xs10,xs11,np1,_) =>
        (za8 ((cut xs6 lo2 (lo2+len2)).map TRt.er)).bind fun r1 =>
        cond (!r1)
          (some (.inr (.inl (false,0,0,([]:List TRt),([]:List Int),([]:List TRt),np1,()))))
          (some (.inl (used1,c1,lo1,len1,t2,IntKind.i64.wrap (t3+1),v6,v7,v8,v9,v10,v11,xs6,xs7,xs8,xs9,xs10,xs11,np1,()))))))
    (some (.inr (.inr (used,c,v,v1,v2,v3,v4,v5,xs,xs1,xs2,xs3,xs4,xs5,np,()))))
def zdR (used:Int) (c:Int) (lo:Nat) (len:Nat) (t:Int) (t1:Int) (v:Int) (v1:Int) (v2:Int) (v3:Int) (v4:Int) (v5:Int) (xs:List TRt) (xs1:List TRt) (xs2:List Int) (xs3:List TRt) (xs4:List Int) (xs5:List TRt) (np:Nat):Option ((Bool × Int × Int × (List TRt) × (List Int) × (List TRt) × Nat × Unit) ⊕ (Int × Int × Int × Int × Int × Int × Int × Int × (List TRt) × (List TRt) × (List Int) × (List TRt) × (List Int) × (List TRt) × Nat × Unit)):=whileO zbs (used,c,lo,len,t,t1,v,v1,v2,v3,v4,v5,xs,xs1,xs2,xs3,xs4,xs5,np,())
def zbt:Int × Int × Nat × Nat × Int × Int × Int × Int × Int × Int × Int × Int × Bool × Tk × Tk × (List TRt) × (List TRt) × (List Int) × (List TRt) × (List Int) × (List TRt) × Nat × Unit→Option ((Int × Int × Nat × Nat × Int × Int × Int × Int × Int × Int × Int × Int × Bool × Tk × Tk × (List TRt) × (List TRt) × (List Int) × (List TRt) × (List Int) × (List TRt) × Nat × Unit) ⊕ (Int × Int × Nat × Nat × Int × Int × Int × Int × Int × Int × (List TRt) × (List TRt) × (List Int) × (List TRt) × (List Int) × (List TRt) × Nat × Unit)):=fun (used,c,lo,len,t,t1,v,v1,v2,v3,v4,v5,v6,v7,v8,xs,xs1,xs2,xs3,xs4,xs5,np,_) =>
  cond (decide (t1 < t))
    ((idx (cut xs lo (lo+len)) t1).bind fun _ =>
    (xs[lo+t1.toNat]?).bind fun e =>
    (zfN e.er (⟨v6,v7.xs,v8.xs⟩:Rt)).bind fun r =>
    (idx (cut xs lo (lo+len)) t1).bind fun _ =>
    some (.inl (used,c,lo,len,t,IntKind.i64.wrap (t1+1),v,v1,v2,v3,v4,v5,v6,v7,v8,xs.set (lo+t1.toNat) (⟨r.neg,(⟨np,r.mag⟩:Tk),(⟨np+1,r.den⟩:Tk)⟩:TRt),xs1,xs2,xs3,xs4,xs5,np+2,())))
    (some (.inr (used,c,lo,len,v,v1,v2,v3,v4,v5,xs,xs1,xs2,xs3,xs4,xs5,np,())))
def zdS (used:Int) (c:Int) (lo:Nat) (len:Nat) (t:Int) (t1:Int) (v:Int) (v1:Int) (v2:Int) (v3:Int) (v4:Int) (v5:Int) (v6:Bool) (v7:Tk) (v8:Tk) (xs:List TRt) (xs1:List TRt) (xs2:List Int) (xs3:List TRt) (xs4:List Int) (xs5:List TRt) (np:Nat):Option (Int × Int × Nat × Nat × Int × Int × Int × Int × Int × Int × (List TRt) × (List TRt) × (List Int) × (List TRt) × (List Int) × (List TRt) × Nat × Unit):=whileO zbt (used,c,lo,len,t,t1,v,v1,v2,v3,v4,v5,v6,v7,v8,xs,xs1,xs2,xs3,xs4,xs5,np,())
def zbu:Int × Int × Nat × Nat × Nat × Nat × Int × Int × Int × Int × Int × Int × Int × Int × (List TRt) × (List TRt) × (List Int) × (List TRt) × (List Int) × (List TRt) × Nat × Unit→Option ((Int × Int × Nat × Nat × Nat × Nat × Int × Int × Int × Int × Int × Int × Int × Int × (List TRt) × (List TRt) × (List Int) × (List TRt) × (List Int) × (List TRt) × Nat × Unit) ⊕ (Int × Int × Int × Int × Int × Int × Int × Int × (List TRt) × (List TRt) × (List Int) × (List TRt) × (List Int) × (List TRt) × Nat × Unit)):=fun (used,c,lo,len,lo1,len1,t,t1,v,v1,v2,v3,v4,v5,xs,xs1,xs2,xs3,xs4,xs5,np,_) =>
  cond (decide (t1 < t))
    ((idx (cut xs lo1 (lo1+len1)) t1).bind fun _ =>
    (xs[lo1+t1.toNat]?).bind fun e =>
    (idx (cut xs lo (lo+len)) t1).bind fun _ =>
    (xs[lo+t1.toNat]?).bind fun e1 =>
    (idx (cut xs lo (lo+len)) t1).bind fun _ =>
    (idx (cut (xs.set (lo+t1.toNat) e) lo1 (lo1+len1)) t1).bind fun _ =>
    some (.inl (used,c,lo,len,lo1,len1,t,IntKind.i64.wrap (t1+1),v,v1,v2,v3,v4,v5,(xs.set (lo+t1.toNat) e).set (lo1+t1.toNat) e1,xs1,xs2,xs3,xs4,xs5,np,())))
    (some (.inr (used,c,v,v1,v2,v3,v4,v5,xs,xs1,xs2,xs3,xs4,xs5,np,())))
def ze2 (used:Int) (c:Int) (lo:Nat) (len:Nat) (lo1:Nat) (len1:Nat) (t:Int) (t1:Int) (v:Int) (v1:Int) (v2:Int) (v3:Int) (v4:Int) (v5:Int) (xs:List TRt) (xs1:List TRt) (xs2:List Int) (xs3:List TRt) (xs4:List Int) (xs5:List TRt) (np:Nat):Option (Int × Int × Int × Int × Int × Int × Int × Int × (List TRt) × (List TRt) × (List Int) × (List TRt) × (List Int) × (List TRt) × Nat × Unit):=whileO zbu (used,c,lo,len,lo1,len1,t,t1,v,v1,v2,v3,v4,v5,xs,xs1,xs2,xs3,xs4,xs5,np,())
def zbv:Int × Int × Int × Int × Int × Int × Int × Int × Int × (List TRt) × (List Int) × (List TRt) × (List TRt) × (List Int) × (List TRt) × Nat × Unit→Option ((Int × Int × Int × Int × Int × Int × Int × Int × Int × (List TRt) × (List Int) × (List TRt) × (List TRt) × (List Int) × (List TRt) × Nat × Unit) ⊕ (Int × Int × Int × Int × Int × Int × Int × Int × Int × (List TRt) × (List Int) × (List TRt) × (List TRt) × (List Int) × (List TRt) × Nat × Unit)):=fun (used,c,p,v,v1,v2,v3,v4,v5,xs,xs1,xs2,xs3,xs4,xs5,np,_) =>
  cond (decide (p < v4))
    ((za2 (⟨v4,v5,xs⟩:MxT) p c).bind fun r =>
    (zdN r.er).bind fun r1 =>
    cond r1
      (some (.inl (used,c,IntKind.i64.wrap (p+1),v,v1,v2,v3,v4,v5,xs,xs1,xs2,xs3,xs4,xs5,np,())))
      (some (.inr (used,c,p,v,v1,v2,v3,v4,v5,xs,xs1,xs2,xs3,xs4,xs5,np,()))))
    (some (.inr (used,c,p,v,v1,v2,v3,v4,v5,xs,xs1,xs2,xs3,xs4,xs5,np,())))
def ze3 (used:Int) (c:Int) (p:Int) (v:Int) (v1:Int) (v2:Int) (v3:Int) (v4:Int) (v5:Int) (xs:List TRt) (xs1:List Int) (xs2:List TRt) (xs3:List TRt) (xs4:List Int) (xs5:List TRt) (np:Nat):Option (Int × Int × Int × Int × Int × Int × Int × Int × Int × (List TRt) × (List Int) × (List TRt) × (List TRt) × (List Int) × (List TRt) × Nat × Unit):=whileO zbv (used,c,p,v,v1,v2,v3,v4,v5,xs,xs1,xs2,xs3,xs4,xs5,np,())
def zbw:Int × Int × Int × Int × Int × Int × Int × Int × (List TRt) × (List Int) × (List TRt) × (List TRt) × (List Int) × (List TRt) × Nat × Unit→Option ((Int × Int × Int × Int × Int × Int × Int × Int × (List TRt) × (List Int) × (List TRt) × (List TRt) × (List Int) × (List TRt) × Nat × Unit) ⊕ ((Bool × Int × Int × (List TRt) × (List Int) × (List TRt) × Nat × Unit) ⊕ (Int × Int × Int × Int × (List TRt) × (List Int) × (List TRt) × (List TRt) × (List Int) × (List TRt) × Nat × Unit))):=fun (used,c,v,v1,v2,v3,v4,v5,xs,xs1,xs2,xs3,xs4,xs5,np,_) =>
  cond (decide (c < v5))
    (cond (decide (used < v4))
      ((ze3 used c used v v1 v2 v3 v4 v5 xs xs1 xs2 xs3 xs4 xs5 np).bind fun (used1,c1,p,v6,v7,v8,v9,v10,v11,xs6,xs7,xs8,xs9,xs10,xs11,np1,_) =>
      cond (p == v10)
        (some (.inl (used1,IntKind.i64.wrap (c1+1),v6,v7,v8,v9,v10,v11,xs6,xs7,xs8,xs9,xs10,xs11,np1,())))
        (cond (p != used1)
          ((zeb (-1)).bind fun r =>
          (zaj (Nat.ble (xs8.length+1) zan)).bind fun _ =>
          (zaJ (⟨v10,v11,xs6⟩:MxT) p).bind fun (r0,x0) =>
          (zaJ (⟨v10,v11,x0⟩:MxT) used1).bind fun (r0_1,x0_1) =>
          (ze2 used1 c1 r0.1 r0.2 r0_1.1 r0_1.2 (r0.2:Int) 0 v6 v7 v8 v9 v10 v11 x0_1 (xs8++([(⟨r.neg,(⟨np1,r.mag⟩:Tk),(⟨np1+1,r.den⟩:Tk)⟩:TRt)]:List TRt)) xs7 xs9 xs10 xs11 (np1+2)).bind fun (used2,c2,v12,v13,v14,v15,v16,v17,xs12,xs13,xs14,xs15,xs16,xs17,np2,_) =>
          (zaJ (⟨v16,v17,xs12⟩:MxT) used2).bind fun (r0_2,x0_2) =>
          (idx (cut x0_2 r0_2.1 (r0_2.1+r0_2.2)) c2).bind fun _ =>
          (x0_2[r0_2.1+c2.toNat]?).bind fun e =>
          (zaj (Nat.ble (xs13.length+1) zan)).bind fun _ =>
          (zdS used2 c2 r0_2.1 r0_2.2 (r0_2.2:Int) 0 v12 v13 v14 v15 v16 v17 e.neg e.mag e.den x0_2 (xs13++([e]:List TRt)) xs14 xs15 xs16 xs17 np2).bind fun (used3,c3,lo,len,v18,v19,v20,v21,v22,v23,xs18,xs19,xs20,xs21,xs22,xs23,np3,_) =>
          (za8 ((cut xs18 lo (lo+len)).map TRt.er)).bind fun r1 =>
          cond (!r1)
            (some (.inr (.inl (false,0,0,([]:List TRt),([]:List Int),([]:List TRt),np3,()))))
            ((zdR used3 c3 lo len v22 0 v18 v19 v20 v21 v22 v23 xs18 xs19 xs20 xs21 xs22 xs23 np3).bind fun r2 =>
            match r2 with
            | .inl (t,v24,v25,xs24,xs25,xs26,np4,_) =>
              some (.inr (.inl (t,v24,v25,xs24,xs25,xs26,np4,())))
            | .inr (used4,c4,v26,v27,v28,v29,v30,v31,xs27,xs28,xs29,xs30,xs31,xs32,np5,_) =>
              (zaj (Nat.ble (xs29.length+1) zan)).bind fun _ =>
              some (.inl (IntKind.i64.wrap (used4+1),IntKind.i64.wrap (c4+1),v26,v27,v28,v29,v30,v31,xs27,xs29++([c4]:List Int),xs28,xs30,xs31,xs32,np5,()))))
          ((zaJ (⟨v10,v11,xs6⟩:MxT) used1).bind fun (r0,x0) =>
          (idx (cut x0 r0.1 (r0.1+r0.2)) c1).bind fun _ =>
          (x0[r0.1+c1.toNat]?).bind fun e =>
          (zaj (Nat.ble (xs8.length+1) zan)).bind fun _ =>
          (zdS used1 c1 r0.1 r0.2 (r0.2:Int) 0 v6 v7 v8 v9 v10 v11 e.neg e.mag e.den x0 (xs8++([e]:List TRt)) xs7 xs9 xs10 xs11 np1).bind fun (used2,c2,lo,len,v12,v13,v14,v15,v16,v17,xs12,xs13,xs14,xs15,xs16,xs17,np2,_) =>
          (za8 ((cut xs12 lo (lo+len)).map TRt.er)).bind fun r =>
          cond (!r)
            (some (.inr (.inl (false,0,0,([]:List TRt),([]:List Int),([]:List TRt),np2,()))))
            ((zdR used2 c2 lo len v16 0 v12 v13 v14 v15 v16 v17 xs12 xs13 xs14 xs15 xs16 xs17 np2).bind fun r1 =>
            match r1 with
            | .inl (t,v18,v19,xs18,xs19,xs20,np3,_) =>
              some (.inr (.inl (t,v18,v19,xs18,xs19,xs20,np3,())))
            | .inr (used3,c3,v20,v21,v22,v23,v24,v25,xs21,xs22,xs23,xs24,xs25,xs26,np4,_) =>
              (zaj (Nat.ble (xs23.length+1) zan)).bind fun _ =>
              some (.inl (IntKind.i64.wrap (used3+1),IntKind.i64.wrap (c3+1),v20,v21,v22,v23,v24,v25,xs21,xs23++([c3]:List Int),xs22,xs24,xs25,xs26,np4,()))))))
      (some (.inr (.inr (v,v1,v2,v3,xs,xs1,xs2,xs3,xs4,xs5,np,())))))
    (some (.inr (.inr (v,v1,v2,v3,xs,xs1,xs2,xs3,xs4,xs5,np,()))))
def zdT (used:Int) (c:Int) (v:Int) (v1:Int) (v2:Int) (v3:Int) (v4:Int) (v5:Int) (xs:List TRt) (xs1:List Int) (xs2:List TRt) (xs3:List TRt) (xs4:List Int) (xs5:List TRt) (np:Nat):Option ((Bool × Int × Int × (List TRt) × (List Int) × (List TRt) × Nat × Unit) ⊕ (Int × Int × Int × Int × (List TRt) × (List Int) × (List TRt) × (List TRt) × (List Int) × (List TRt) × Nat × Unit)):=whileO zbw (used,c,v,v1,v2,v3,v4,v5,xs,xs1,xs2,xs3,xs4,xs5,np,())
def zdx (m:Mx):Option (RdnP × Bool) :=
  (zb6 m.cells).bind fun r =>
  (zdT 0 0 0 0 m.rows m.cols m.rows m.cols (zl4 0 r) ([]:List Int) ([]:List TRt) ([]:List TRt) ([]:List Int) ([]:List TRt) (0+(2 * r.length))).bind fun r1 =>
  match r1 with
  | .inl (t,v,v1,xs,xs1,_,_,_) =>
    (zaj (zdU (zhH xs++([]:List Nat)))).bind fun _ =>
    some ((⟨v,v1,xs.map TRt.er,xs1⟩:RdnP),t)
  | .inr (_,_,v4,v5,xs3,xs4,_,_,_,_,_,_) =>
    (zaj (zdU (zhH xs3++([]:List Nat)))).bind fun _ =>
    some ((⟨v4,v5,xs3.map TRt.er,xs4⟩:RdnP),true)
def zeL (m:Mx):Option (Mx × List Int × Bool) :=
  (zce m).bind fun r =>
  cond (!r)
    (some ((⟨0,0,([]:List Rt)⟩:Mx),([]:List Int),false))
    ((zdx m).bind fun (r0,r1) =>
    cond (!r1)
      (some ((⟨0,0,([]:List Rt)⟩:Mx),([]:List Int),false))
      (some ((⟨r0.rows,r0.cols,r0.cells⟩:Mx),r0.pivots,true)))
def zcV (m:Mx):Option Int :=
  (zeL m).bind fun (_,r1,r2) =>
  cond (!r2)
    (some (-1))
    (some (r1.length:Int))
def za5:Int × Int × Int × Int × (List Rt) × Int × Int × (List TRt) × (List Int) × (List TRt) × Nat × Unit→Option ((Int × Int × Int × Int × (List Rt) × Int × Int × (List TRt) × (List Int) × (List TRt) × Nat × Unit) ⊕ ((List TRt) × Nat × Unit)):=fun (t,t1,v,v1,v2,v3,v4,xs,xs1,out,np,_) =>
  cond (decide (t1 < t))
    ((za2 (⟨v3,v4,xs⟩:MxT) t1 v).bind fun r =>
    (zaj (Nat.ble (out.length+1) zan)).bind fun _ =>
    some (.inl (t,IntKind.i64.wrap (t1+1),v,v1,v2,v3,v4,xs,xs1,out++([r]:List TRt),np,())))
    (some (.inr (out,np,())))
def zdf (t:Int) (t1:Int) (v:Int) (v1:Int) (v2:List Rt) (v3:Int) (v4:Int) (xs:List TRt) (xs1:List Int) (out:List TRt) (np:Nat):Option ((List TRt) × Nat × Unit):=whileO za5 (t,t1,v,v1,v2,v3,v4,xs,xs1,out,np,())
def zaH (m:Mx) (v:List Rt):Option (List Rt × Bool) :=
  (zce m).bind fun r =>
  cond (!r)
    (some (([]:List Rt),false))
    ((zdA v).bind fun r1 =>
    cond (!r1)
      (some (([]:List Rt),false))
      (cond (m.rows != m.cols)
        (some (([]:List Rt),false))
        (cond (decide (m.rows > 12))
          (some (([]:List Rt),false))
          (cond ((v.length:Int) != m.rows)
            (some (([]:List Rt),false))
            ((zcV m).bind fun r2 =>
            cond (r2 != m.rows)
              (some (([]:List Rt),false))
              ((zeK m (⟨m.rows,1,v⟩:Mx)).bind fun r3 =>
              (zdx r3).bind fun (r0,r1_1) =>
              cond (!r1_1)
                (some (([]:List Rt),false))
                ((zdf m.rows 0 m.rows m.cols m.cells r0.rows r0.cols (zl4 0 r0.cells) r0.pivots ([]:List TRt) (0+(2 * r0.cells.length))).bind fun (out,_,_) =>
                (zaj (zdU (zhH out++([]:List Nat)))).bind fun _ =>
                some (out.map TRt.er,true))))))))
end Go.Di
namespace Go.Di
def M_laws_FnExactSolveSystem (aM:Mx) (aV:List Rt):Option Bool :=
  (zeB aM 1048576).bind fun r =>
  cond (decide (r < 0))
    (some true)
    ((zfD aV r).bind fun r1 =>
    cond (decide (r1 < 0))
      (some true)
      ((zcd aM).bind fun r2 =>
      (zcq aV).bind fun r3 =>
      (zbe r2 r3).bind fun (r0,r1_1) =>
      (zcd aM).bind fun r4 =>
      (zcq aV).bind fun r5 =>
      (zaH r4 r5).bind fun (r0_1,r1_2) =>
      (zc5 r0_1 r0).bind fun r6 =>
      cond (!r6)
        (some false)
        (cond (!(r1_2 == r1_1))
          (some false)
          ((zcd aM).bind fun r7 =>
          (zeD r4 r7).bind fun r8 =>
          cond (!r8)
            (some false)
            ((zcq aV).bind fun r9 =>
            (zc5 r5 r9).bind fun r10 =>
            cond (!r10)
              (some false)
              ((zcC r4 1).bind fun (r0_2,_) =>
              (zbM r5 r0_2).bind fun (r0_3,_) =>
              cond (decide (r0_3 < 0))
                (some false)
                ((zc5 r0_1 r0).bind fun r11 =>
                cond (!r11)
                  (some false)
                  (cond (!(r1_2 == r1_1))
                    (some false)
                    ((zbM r0_1 1).bind fun (r0_4,x0_2) =>
                    (zdv x0_2 1).bind fun r12 =>
                    cond (decide (r12 < 0))
                      (some false)
                      (cond (r12 != r0_4)
                        (some false)
                        ((zcd aM).bind fun r13 =>
                        (zcq aV).bind fun r14 =>
                        (zaH r13 r14).bind fun (r0_5,r1_3) =>
                        (zc5 r0_5 r0).bind fun r15 =>
                        cond (!r15)
                          (some false)
                          (cond (!(r1_3==r1_1))
                            (some false)
                            ((zdv x0_2 1).bind fun r16 =>
                            cond (decide (r16 < 0))
                              (some false)
                              (cond (r16 != r0_4)
                                (some false)
                                (some true)))))))))))))))
end Go.Di
