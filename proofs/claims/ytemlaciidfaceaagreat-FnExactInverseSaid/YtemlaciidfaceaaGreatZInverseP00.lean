/-
  Own work: part 7 of the texts that the proof of the given statement leans on.
-/
import Derived.Test.YtemlaciidfaceaaGreatZE01
noncomputable section
namespace Go.Di
end Go.Di
namespace Go.Di
def za6 (m:MxT) (i:Int) (k:Int):Option TRt :=
  (idx m.cells (IntKind.i64.wrap ((IntKind.i64.wrap (i * m.cols))+k))).bind fun e =>
  some e
def zaL (m:MxT) (i:Int):Option ((Nat × Nat) × List TRt) :=
  (zak (inside m.cells.length (IntKind.i64.wrap (i * m.cols),IntKind.i64.wrap ((IntKind.i64.wrap (i+1)) * m.cols)))).bind fun _ =>
  some (((IntKind.i64.wrap (i * m.cols)).toNat,((IntKind.i64.wrap ((IntKind.i64.wrap (i+1)) * m.cols)).toNat) - ((IntKind.i64.wrap (i * m.cols)).toNat)),m.cells)
def zbx:Int × Int × Nat × Nat × Nat × Nat × Int × Int × Int × Int × Int × Int × Int × Int × Int × Int × Bool × Tk × Tk × (List TRt) × (List TRt) × (List Int) × (List TRt) × (List Int) × (List TRt) × Nat × Unit→Option ((Int × Int × Nat × Nat × Nat × Nat × Int × Int × Int × Int × Int × Int × Int × Int × Int × Int × Bool × Tk × Tk × (List TRt) × (List TRt) × (List Int) × (List TRt) × (List Int) × (List TRt) × Nat × Unit) ⊕ (Int × Int × Nat × Nat × Nat × Nat × Int × Int × Int × Int × Int × Int × Int × Int × (List TRt) × (List TRt) × (List Int) × (List TRt) × (List Int) × (List TRt) × Nat × Unit)):=fun (used,c,lo,len,lo1,len1,t,t1,t2,t3,v,v1,v2,v3,v4,v5,v6,v7,v8,xs,xs1,xs2,xs3,xs4,xs5,np,_) =>
  cond (decide (t3 < t2))
    ((idx (cut xs lo1 (lo1+len1)) t3).bind fun _ =>
    (xs[lo1+t3.toNat]?).bind fun e =>
    (idx (cut xs lo (lo+len)) t3).bind fun _ =>
    (xs[lo+t3.toNat]?).bind fun e1 =>
    (zen (⟨v6,v7.xs,v8.xs⟩:Rt) e1.er).bind fun r =>
    (zha e.er r).bind fun r1 =>
    (idx (cut xs lo1 (lo1+len1)) t3).bind fun _ =>
    some (.inl (used,c,lo,len,lo1,len1,t,t1,t2,IntKind.i64.wrap (t3+1),v,v1,v2,v3,v4,v5,v6,v7,v8,xs.set (lo1+t3.toNat) (⟨r1.neg,(⟨np+2,r1.mag⟩:Tk),(⟨np+3,r1.den⟩:Tk)⟩:TRt),xs1,xs2,xs3,xs4,xs5,np+4,())))
    (some (.inr (used,c,lo,len,lo1,len1,t,t1,v,v1,v2,v3,v4,v5,xs,xs1,xs2,xs3,xs4,xs5,np,())))
def zfc (used:Int) (c:Int) (lo:Nat) (len:Nat) (lo1:Nat) (len1:Nat) (t:Int) (t1:Int) (t2:Int) (t3:Int) (v:Int) (v1:Int) (v2:Int) (v3:Int) (v4:Int) (v5:Int) (v6:Bool) (v7:Tk) (v8:Tk) (xs:List TRt) (xs1:List TRt) (xs2:List Int) (xs3:List TRt) (xs4:List Int) (xs5:List TRt) (np:Nat):Option (Int × Int × Nat × Nat × Nat × Nat × Int × Int × Int × Int × Int × Int × Int × Int × (List TRt) × (List TRt) × (List Int) × (List TRt) × (List Int) × (List TRt) × Nat × Unit):=whileO zbx (used,c,lo,len,lo1,len1,t,t1,t2,t3,v,v1,v2,v3,v4,v5,v6,v7,v8,xs,xs1,xs2,xs3,xs4,xs5,np,())
def zby:Int × Int × Nat × Nat × Int × Int × Int × Int × Int × Int × Int × Int × (List TRt) × (List TRt) × (List Int) × (List TRt) × (List Int) × (List TRt) × Nat × Unit→Option ((Int × Int × Nat × Nat × Int × Int × Int × Int × Int × Int × Int × Int × (List TRt) × (List TRt) × (List Int) × (List TRt) × (List Int) × (List TRt) × Nat × Unit) ⊕ ((Bool × Int × Int × (List TRt) × (List Int) × (List TRt) × Nat × Unit) ⊕ (Int × Int × Int × Int × Int × Int × Int × Int × (List TRt) × (List TRt) × (List Int) × (List TRt) × (List Int) × (List TRt) × Nat × Unit))):=fun (used,c,lo,len,t,t1,v,v1,v2,v3,v4,v5,xs,xs1,xs2,xs3,xs4,xs5,np,_) =>
  cond (decide (t1 < t))
    ((zaL (⟨v4,v5,xs⟩:MxT) t1).bind fun (r0,x0) =>
    cond (t1==used)
      (some (.inl (used,c,lo,len,t,IntKind.i64.wrap (t1+1),v,v1,v2,v3,v4,v5,x0,xs1,xs2,xs3,xs4,xs5,np,())))
      ((idx (cut x0 r0.1 (r0.1+r0.2)) c).bind fun _ =>
      (x0[r0.1+c.toNat]?).bind fun e =>
      (zdY e.er).bind fun r =>
      cond r
        (some (.inl (used,c,lo,len,t,IntKind.i64.wrap (t1+1),v,v1,v2,v3,v4,v5,x0,xs1,xs2,xs3,xs4,xs5,np,())))
        ((idx (cut x0 r0.1 (r0.1+r0.2)) c).bind fun _ =>
        (x0[r0.1+c.toNat]?).bind fun e1 =>
        (zfc used c lo len r0.1 r0.2 t t1 (r0.2:Int) 0 v v1 v2 v3 v4 v5 e1.neg e1.mag e1.den x0 xs1 xs2 xs3 xs4 xs5 np).bind fun (used1,c1,lo1,len1,lo2,len2,t2,t3,v6,v7,v8,v9,v10,v11,xs6,xs7,xs8,xs9,xs10,xs11,np1,_) =>
        (zbc ((cut xs6 lo2 (lo2+len2)).map TRt.er)).bind fun r1 =>
        cond (!r1)
          (some (.inr (.inl (false,0,0,([]:List TRt),([]:List Int),([]:List TRt),np1,()))))
          (some (.inl (used1,c1,lo1,len1,t2,IntKind.i64.wrap (t3+1),v6,v7,v8,v9,v10,v11,xs6,xs7,xs8,xs9,xs10,xs11,np1,()))))))
    (some (.inr (.inr (used,c,v,v1,v2,v3,v4,v5,xs,xs1,xs2,xs3,xs4,xs5,np,()))))
def zd1 (used:Int) (c:Int) (lo:Nat) (len:Nat) (t:Int) (t1:Int) (v:Int) (v1:Int) (v2:Int) (v3:Int) (v4:Int) (v5:Int) (xs:List TRt) (xs1:List TRt) (xs2:List Int) (xs3:List TRt) (xs4:List Int) (xs5:List TRt) (np:Nat):Option ((Bool × Int × Int × (List TRt) × (List Int) × (List TRt) × Nat × Unit) ⊕ (Int × Int × Int × Int × Int × Int × Int × Int × (List TRt) × (List TRt) × (List Int) × (List TRt) × (List Int) × (List TRt) × Nat × Unit)):=whileO zby (used,c,lo,len,t,t1,v,v1,v2,v3,v4,v5,xs,xs1,xs2,xs3,xs4,xs5,np,())
def zbz:Int × Int × Nat × Nat × Int × Int × Int × Int × Int × Int × Int × Int × Bool × Tk × Tk × (List TRt) × (List TRt) × (List Int) × (List TRt) × (List Int) × (List TRt) × Nat × Unit→Option ((Int × Int × Nat × Nat × Int × Int × Int × Int × Int × Int × Int × Int × Bool × Tk × Tk × (List TRt) × (List TRt) × (List Int) × (List TRt) × (List Int) × (List TRt) × Nat × Unit) ⊕ (Int × Int × Nat × Nat × Int × Int × Int × Int × Int × Int × (List TRt) × (List TRt) × (List Int) × (List TRt) × (List Int) × (List TRt) × Nat × Unit)):=fun (used,c,lo,len,t,t1,v,v1,v2,v3,v4,v5,v6,v7,v8,xs,xs1,xs2,xs3,xs4,xs5,np,_) =>
  cond (decide (t1 < t))
    ((idx (cut xs lo (lo+len)) t1).bind fun _ =>
    (xs[lo+t1.toNat]?).bind fun e =>
    (zf0 e.er (⟨v6,v7.xs,v8.xs⟩:Rt)).bind fun r =>
    (idx (cut xs lo (lo+len)) t1).bind fun _ =>
    some (.inl (used,c,lo,len,t,IntKind.i64.wrap (t1+1),v,v1,v2,v3,v4,v5,v6,v7,v8,xs.set (lo+t1.toNat) (⟨r.neg,(⟨np,r.mag⟩:Tk),(⟨np+1,r.den⟩:Tk)⟩:TRt),xs1,xs2,xs3,xs4,xs5,np+2,())))
    (some (.inr (used,c,lo,len,v,v1,v2,v3,v4,v5,xs,xs1,xs2,xs3,xs4,xs5,np,())))
def zd2 (used:Int) (c:Int) (lo:Nat) (len:Nat) (t:Int) (t1:Int) (v:Int) (v1:Int) (v2:Int) (v3:Int) (v4:Int) (v5:Int) (v6:Bool) (v7:Tk) (v8:Tk) (xs:List TRt) (xs1:List TRt) (xs2:List Int) (xs3:List TRt) (xs4:List Int) (xs5:List TRt) (np:Nat):Option (Int × Int × Nat × Nat × Int × Int × Int × Int × Int × Int × (List TRt) × (List TRt) × (List Int) × (List TRt) × (List Int) × (List TRt) × Nat × Unit):=whileO zbz (used,c,lo,len,t,t1,v,v1,v2,v3,v4,v5,v6,v7,v8,xs,xs1,xs2,xs3,xs4,xs5,np,())
def zbA:Int × Int × Nat × Nat × Nat × Nat × Int × Int × Int × Int × Int × Int × Int × Int × (List TRt) × (List TRt) × (List Int) × (List TRt) × (List Int) × (List TRt) × Nat × Unit→Option ((Int × Int × Nat × Nat × Nat × Nat × Int × Int × Int × Int × Int × Int × Int × Int × (List TRt) × (List TRt) × (List Int) × (List TRt) × (List Int) × (List TRt) × Nat × Unit) ⊕ (Int × Int × Int × Int × Int × Int × Int × Int × (List TRt) × (List TRt) × (List Int) × (List TRt) × (List Int) × (List TRt) × Nat × Unit)):=fun (used,c,lo,len,lo1,len1,t,t1,v,v1,v2,v3,v4,v5,xs,xs1,xs2,xs3,xs4,xs5,np,_) =>
  cond (decide (t1 < t))
    ((idx (cut xs lo1 (lo1+len1)) t1).bind fun _ =>
    (xs[lo1+t1.toNat]?).bind fun e =>
    (idx (cut xs lo (lo+len)) t1).bind fun _ =>
    (xs[lo+t1.toNat]?).bind fun e1 =>
    (idx (cut xs lo (lo+len)) t1).bind fun _ =>
    (idx (cut (xs.set (lo+t1.toNat) e) lo1 (lo1+len1)) t1).bind fun _ =>
    some (.inl (used,c,lo,len,lo1,len1,t,IntKind.i64.wrap (t1+1),v,v1,v2,v3,v4,v5,(xs.set (lo+t1.toNat) e).set (lo1+t1.toNat) e1,xs1,xs2,xs3,xs4,xs5,np,())))
    (some (.inr (used,c,v,v1,v2,v3,v4,v5,xs,xs1,xs2,xs3,xs4,xs5,np,())))
def zfd (used:Int) (c:Int) (lo:Nat) (len:Nat) (lo1:Nat) (len1:Nat) (t:Int) (t1:Int) (v:Int) (v1:Int) (v2:Int) (v3:Int) (v4:Int) (v5:Int) (xs:List TRt) (xs1:List TRt) (xs2:List Int) (xs3:List TRt) (xs4:List Int) (xs5:List TRt) (np:Nat):Option (Int × Int × Int × Int × Int × Int × Int × Int × (List TRt) × (List TRt) × (List Int) × (List TRt) × (List Int) × (List TRt) × Nat × Unit):=whileO zbA (used,c,lo,len,lo1,len1,t,t1,v,v1,v2,v3,v4,v5,xs,xs1,xs2,xs3,xs4,xs5,np,())
def zbB:Int × Int × Int × Int × Int × Int × Int × Int × Int × (List TRt) × (List Int) × (List TRt) × (List TRt) × (List Int) × (List TRt) × Nat × Unit→Option ((Int × Int × Int × Int × Int × Int × Int × Int × Int × (List TRt) × (List Int) × (List TRt) × (List TRt) × (List Int) × (List TRt) × Nat × Unit) ⊕ (Int × Int × Int × Int × Int × Int × Int × Int × Int × (List TRt) × (List Int) × (List TRt) × (List TRt) × (List Int) × (List TRt) × Nat × Unit)):=fun (used,c,p,v,v1,v2,v3,v4,v5,xs,xs1,xs2,xs3,xs4,xs5,np,_) =>
  cond (decide (p < v4))
    ((za6 (⟨v4,v5,xs⟩:MxT) p c).bind fun r =>
    (zdY r.er).bind fun r1 =>
    cond r1
      (some (.inl (used,c,IntKind.i64.wrap (p+1),v,v1,v2,v3,v4,v5,xs,xs1,xs2,xs3,xs4,xs5,np,())))
      (some (.inr (used,c,p,v,v1,v2,v3,v4,v5,xs,xs1,xs2,xs3,xs4,xs5,np,()))))
    (some (.inr (used,c,p,v,v1,v2,v3,v4,v5,xs,xs1,xs2,xs3,xs4,xs5,np,())))
def zfe (used:Int) (c:Int) (p:Int) (v:Int) (v1:Int) (v2:Int) (v3:Int) (v4:Int) (v5:Int) (xs:List TRt) (xs1:List Int) (xs2:List TRt) (xs3:List TRt) (xs4:List Int) (xs5:List TRt) (np:Nat):Option (Int × Int × Int × Int × Int × Int × Int × Int × Int × (List TRt) × (List Int) × (List TRt) × (List TRt) × (List Int) × (List TRt) × Nat × Unit):=whileO zbB (used,c,p,v,v1,v2,v3,v4,v5,xs,xs1,xs2,xs3,xs4,xs5,np,())
def zbC:Int × Int × Int × Int × Int × Int × Int × Int × (List TRt) × (List Int) × (List TRt) × (List TRt) × (List Int) × (List TRt) × Nat × Unit→Option ((Int × Int × Int × Int × Int × Int × Int × Int × (List TRt) × (List Int) × (List TRt) × (List TRt) × (List Int) × (List TRt) × Nat × Unit) ⊕ ((Bool × Int × Int × (List TRt) × (List Int) × (List TRt) × Nat × Unit) ⊕ (Int × Int × Int × Int × (List TRt) × (List Int) × (List TRt) × (List TRt) × (List Int) × (List TRt) × Nat × Unit))):=fun (used,c,v,v1,v2,v3,v4,v5,xs,xs1,xs2,xs3,xs4,xs5,np,_) =>
  cond (decide (c < v5))
    (cond (decide (used < v4))
      ((zfe used c used v v1 v2 v3 v4 v5 xs xs1 xs2 xs3 xs4 xs5 np).bind fun (used1,c1,p,v6,v7,v8,v9,v10,v11,xs6,xs7,xs8,xs9,xs10,xs11,np1,_) =>
      cond (p == v10)
        (some (.inl (used1,IntKind.i64.wrap (c1+1),v6,v7,v8,v9,v10,v11,xs6,xs7,xs8,xs9,xs10,xs11,np1,())))
        (cond (p != used1)
          ((zbs (-1)).bind fun r =>
          (zak (Nat.ble (xs8.length+1) zan)).bind fun _ =>
          (zaL (⟨v10,v11,xs6⟩:MxT) p).bind fun (r0,x0) =>
          (zaL (⟨v10,v11,x0⟩:MxT) used1).bind fun (r0_1,x0_1) =>
          (zfd used1 c1 r0.1 r0.2 r0_1.1 r0_1.2 (r0.2:Int) 0 v6 v7 v8 v9 v10 v11 x0_1 (xs8++([(⟨r.neg,(⟨np1,r.mag⟩:Tk),(⟨np1+1,r.den⟩:Tk)⟩:TRt)]:List TRt)) xs7 xs9 xs10 xs11 (np1+2)).bind fun (used2,c2,v12,v13,v14,v15,v16,v17,xs12,xs13,xs14,xs15,xs16,xs17,np2,_) =>
          (zaL (⟨v16,v17,xs12⟩:MxT) used2).bind fun (r0_2,x0_2) =>
          (idx (cut x0_2 r0_2.1 (r0_2.1+r0_2.2)) c2).bind fun _ =>
          (x0_2[r0_2.1+c2.toNat]?).bind fun e =>
          (zak (Nat.ble (xs13.length+1) zan)).bind fun _ =>
          (zd2 used2 c2 r0_2.1 r0_2.2 (r0_2.2:Int) 0 v12 v13 v14 v15 v16 v17 e.neg e.mag e.den x0_2 (xs13++([e]:List TRt)) xs14 xs15 xs16 xs17 np2).bind fun (used3,c3,lo,len,v18,v19,v20,v21,v22,v23,xs18,xs19,xs20,xs21,xs22,xs23,np3,_) =>
          (zbc ((cut xs18 lo (lo+len)).map TRt.er)).bind fun r1 =>
          cond (!r1)
            (some (.inr (.inl (false,0,0,([]:List TRt),([]:List Int),([]:List TRt),np3,()))))
            ((zd1 used3 c3 lo len v22 0 v18 v19 v20 v21 v22 v23 xs18 xs19 xs20 xs21 xs22 xs23 np3).bind fun r2 =>
            match r2 with
            | .inl (t,v24,v25,xs24,xs25,xs26,np4,_) =>
              some (.inr (.inl (t,v24,v25,xs24,xs25,xs26,np4,())))
            | .inr (used4,c4,v26,v27,v28,v29,v30,v31,xs27,xs28,xs29,xs30,xs31,xs32,np5,_) =>
              (zak (Nat.ble (xs29.length+1) zan)).bind fun _ =>
              some (.inl (IntKind.i64.wrap (used4+1),IntKind.i64.wrap (c4+1),v26,v27,v28,v29,v30,v31,xs27,xs29++([c4]:List Int),xs28,xs30,xs31,xs32,np5,()))))
          ((zaL (⟨v10,v11,xs6⟩:MxT) used1).bind fun (r0,x0) =>
          (idx (cut x0 r0.1 (r0.1+r0.2)) c1).bind fun _ =>
          (x0[r0.1+c1.toNat]?).bind fun e =>
          (zak (Nat.ble (xs8.length+1) zan)).bind fun _ =>
          (zd2 used1 c1 r0.1 r0.2 (r0.2:Int) 0 v6 v7 v8 v9 v10 v11 e.neg e.mag e.den x0 (xs8++([e]:List TRt)) xs7 xs9 xs10 xs11 np1).bind fun (used2,c2,lo,len,v12,v13,v14,v15,v16,v17,xs12,xs13,xs14,xs15,xs16,xs17,np2,_) =>
          (zbc ((cut xs12 lo (lo+len)).map TRt.er)).bind fun r =>
          cond (!r)
            (some (.inr (.inl (false,0,0,([]:List TRt),([]:List Int),([]:List TRt),np2,()))))
            ((zd1 used2 c2 lo len v16 0 v12 v13 v14 v15 v16 v17 xs12 xs13 xs14 xs15 xs16 xs17 np2).bind fun r1 =>
            match r1 with
            | .inl (t,v18,v19,xs18,xs19,xs20,np3,_) =>
              some (.inr (.inl (t,v18,v19,xs18,xs19,xs20,np3,())))
            | .inr (used3,c3,v20,v21,v22,v23,v24,v25,xs21,xs22,xs23,xs24,xs25,xs26,np4,_) =>
              (zak (Nat.ble (xs23.length+1) zan)).bind fun _ =>
              some (.inl (IntKind.i64.wrap (used3+1),IntKind.i64.wrap (c3+1),v20,v21,v22,v23,v24,v25,xs21,xs23++([c3]:List Int),xs22,xs24,xs25,xs26,np4,()))))))
      (some (.inr (.inr (v,v1,v2,v3,xs,xs1,xs2,xs3,xs4,xs5,np,())))))
    (some (.inr (.inr (v,v1,v2,v3,xs,xs1,xs2,xs3,xs4,xs5,np,()))))
def zd3 (used:Int) (c:Int) (v:Int) (v1:Int) (v2:Int) (v3:Int) (v4:Int) (v5:Int) (xs:List TRt) (xs1:List Int) (xs2:List TRt) (xs3:List TRt) (xs4:List Int) (xs5:List TRt) (np:Nat):Option ((Bool × Int × Int × (List TRt) × (List Int) × (List TRt) × Nat × Unit) ⊕ (Int × Int × Int × Int × (List TRt) × (List Int) × (List TRt) × (List TRt) × (List Int) × (List TRt) × Nat × Unit)):=whileO zbC (used,c,v,v1,v2,v3,v4,v5,xs,xs1,xs2,xs3,xs4,xs5,np,())
def zeR (m:Mx):Option (RdnP × Bool) :=
  (zcg m.cells).bind fun r =>
  (zd3 0 0 0 0 m.rows m.cols m.rows m.cols (zmC 0 r) ([]:List Int) ([]:List TRt) ([]:List TRt) ([]:List Int) ([]:List TRt) (0+(2 * r.length))).bind fun r1 =>
  match r1 with
  | .inl (t,v,v1,xs,xs1,_,_,_) =>
    (zak (zd4 (zh2 xs++([]:List Nat)))).bind fun _ =>
    some ((⟨v,v1,xs.map TRt.er,xs1⟩:RdnP),t)
  | .inr (_,_,v4,v5,xs3,xs4,_,_,_,_,_,_) =>
    (zak (zd4 (zh2 xs3++([]:List Nat)))).bind fun _ =>
    some ((⟨v4,v5,xs3.map TRt.er,xs4⟩:RdnP),true)
def zcO (i:Int) (k:Int) (g:RdnT) (g1:Mx):Option TRt :=
  (za6 (⟨g.rows,g.cols,g.cells⟩:MxT) i (IntKind.i64.wrap (g1.rows+k))).bind fun r =>
  some r
def zaC:Int × Int × Int × (List TRt) × (List Int) × Unit × Int × Int × (List Rt) × Int × Int × Int × Int × Int × Int × Int × (List TRt) × Int × Int × (List TRt) × Unit→Option ((Int × Int × Int × (List TRt) × (List Int) × Unit × Int × Int × (List Rt) × Int × Int × Int × Int × Int × Int × Int × (List TRt) × Int × Int × (List TRt) × Unit) ⊕ (Int × Int × Int × (List TRt) × (List Int) × Unit × Int × Int × (List Rt) × Int × Int × Int × Int × (List TRt) × Int × Int × (List TRt) × Unit)):=fun (cols,g,g1,g2,g3,g4,g5,g6,g7,i,t,t1,t2,t3,v,v1,v2,v3,v4,xs,_) =>
  cond (decide (t3 < t2))
    ((zcO i t3 (⟨g,g1,g2,g3,g4⟩:RdnT) (⟨g5,g6,g7⟩:Mx)).bind fun r =>
    (zak (Nat.ble (xs.length+1) zan)).bind fun _ =>
    some (.inl (cols,g,g1,g2,g3,g4,g5,g6,g7,i,t,t1,t2,IntKind.i64.wrap (t3+1),v,v1,v2,v3,v4,xs++([r]:List TRt),())))
    (some (.inr (cols,g,g1,g2,g3,g4,g5,g6,g7,t,t1,v,v1,v2,v3,v4,xs,())))
def zcs (cols:Int) (g:Int) (g1:Int) (g2:List TRt) (g3:List Int) (g4:Unit) (g5:Int) (g6:Int) (g7:List Rt) (i:Int) (t:Int) (t1:Int) (t2:Int) (t3:Int) (v:Int) (v1:Int) (v2:List TRt) (v3:Int) (v4:Int) (xs:List TRt):Option (Int × Int × Int × (List TRt) × (List Int) × Unit × Int × Int × (List Rt) × Int × Int × Int × Int × (List TRt) × Int × Int × (List TRt) × Unit):=whileO zaC (cols,g,g1,g2,g3,g4,g5,g6,g7,i,t,t1,t2,t3,v,v1,v2,v3,v4,xs,())
def zaD:Int × Int × Int × (List TRt) × (List Int) × Unit × Int × Int × (List Rt) × Int × Int × Int × Int × (List TRt) × Int × Int × (List TRt) × Unit→Option ((Int × Int × Int × (List TRt) × (List Int) × Unit × Int × Int × (List Rt) × Int × Int × Int × Int × (List TRt) × Int × Int × (List TRt) × Unit) ⊕ (Int × Int × (List TRt) × Int × Int × (List TRt) × Unit)):=fun (cols,g,g1,g2,g3,g4,g5,g6,g7,t,t1,v,v1,v2,v3,v4,xs,_) =>
  cond (decide (t1 < t))
    ((zcs cols g g1 g2 g3 g4 g5 g6 g7 t1 t t1 cols 0 v v1 v2 v3 v4 xs).bind fun (cols1,g8,g9,g10,g11,g12,g13,g14,g15,t2,t3,v5,v6,v7,v8,v9,xs1,_) =>
    some (.inl (cols1,g8,g9,g10,g11,g12,g13,g14,g15,t2,IntKind.i64.wrap (t3+1),v5,v6,v7,v8,v9,xs1,())))
    (some (.inr (v,v1,v2,v3,v4,xs,())))
def zct (cols:Int) (g:Int) (g1:Int) (g2:List TRt) (g3:List Int) (g4:Unit) (g5:Int) (g6:Int) (g7:List Rt) (t:Int) (t1:Int) (v:Int) (v1:Int) (v2:List TRt) (v3:Int) (v4:Int) (xs:List TRt):Option (Int × Int × (List TRt) × Int × Int × (List TRt) × Unit):=whileO zaD (cols,g,g1,g2,g3,g4,g5,g6,g7,t,t1,v,v1,v2,v3,v4,xs,())
def za0 (rows:Int) (cols:Int) (g:RdnT) (g1:Mx):Option MxT :=
  (zct cols g.rows g.cols g.cells g.pivots g.factors g1.rows g1.cols g1.cells rows 0 0 0 ([]:List TRt) rows cols ([]:List TRt)).bind fun (_,_,_,v3,v4,xs,_) =>
  some (⟨v3,v4,xs⟩:MxT)
def zc8 (m:Mx):Option (Mx × Bool × Bool) :=
  (zhZ m.rows).bind fun r =>
  (zfR m r).bind fun r1 =>
  (zeR r1).bind fun (r0,r1_1) =>
  cond (!r1_1)
    (some ((⟨0,0,([]:List Rt)⟩:Mx),false,false))
    ((zfl r0.pivots m.rows).bind fun r2 =>
    cond (!r2)
      (some ((⟨0,0,([]:List Rt)⟩:Mx),true,false))
      ((za0 m.rows m.rows (⟨r0.rows,r0.cols,zmC 0 r0.cells,r0.pivots,()⟩:RdnT) m).bind fun r3 =>
      (zak (zd4 (zh2 r3.cells++([]:List Nat)))).bind fun _ =>
      some ((⟨r3.rows,r3.cols,r3.cells.map TRt.er⟩:Mx),true,true)))
def zdn (m:Mx):Option (Mx × Bool) :=
  (zeW m).bind fun r =>
  cond (!r)
    (some ((⟨0,0,([]:List Rt)⟩:Mx),false))
    (cond (m.rows != m.cols)
      (some ((⟨0,0,([]:List Rt)⟩:Mx),false))
      (cond (decide (m.rows > 12))
        (some ((⟨0,0,([]:List Rt)⟩:Mx),false))
        ((zc8 m).bind fun (r0,r1,r2) =>
        cond (!r1)
          (some ((⟨0,0,([]:List Rt)⟩:Mx),false))
          (cond (!r2)
            (some ((⟨0,0,([]:List Rt)⟩:Mx),false))
            (some (r0,true))))))
end Go.Di
namespace Go.Di
def M_laws_FnExactInverse (aM:Mx):Option Bool :=
  (zeM aM 1048576).bind fun r =>
  cond (decide (r < 0))
    (some true)
    ((zcn aM).bind fun r1 =>
    (zfk r1).bind fun (r0,r1_1) =>
    (zcn aM).bind fun r2 =>
    (zdn r2).bind fun (r0_1,r1_2) =>
    (zco r0_1 r0).bind fun r3 =>
    cond (!r3)
      (some false)
      (cond (!(r1_2 == r1_1))
        (some false)
        ((zcn aM).bind fun r4 =>
        (zco r2 r4).bind fun r5 =>
        cond (!r5)
          (some false)
          ((zb1 r2 1).bind fun (r0_2,_) =>
          cond (decide (r0_2 < 0))
            (some false)
            ((zco r0_1 r0).bind fun r6 =>
            cond (!r6)
              (some false)
              (cond (!(r1_2 == r1_1))
                (some false)
                ((zb1 r0_1 1).bind fun (r0_3,x0_1) =>
                (zc7 (⟨r0_1.rows,r0_1.cols,x0_1⟩:Mx) 1).bind fun r7 =>
                cond (decide (r7 < 0))
                  (some false)
                  (cond (r7 != r0_3)
                    (some false)
                    ((zcn aM).bind fun r8 =>
                    (zdn r8).bind fun (r0_4,r1_3) =>
                    (zco r0_4 r0).bind fun r9 =>
                    cond (!r9)
                      (some false)
                      (cond (!(r1_3==r1_1))
                        (some false)
                        ((zc7 (⟨r0_1.rows,r0_1.cols,x0_1⟩:Mx) 1).bind fun r10 =>
                        cond (decide (r10 < 0))
                          (some false)
                          (cond (r10 != r0_3)
                            (some false)
                            (some true)))))))))))))
end Go.Di
