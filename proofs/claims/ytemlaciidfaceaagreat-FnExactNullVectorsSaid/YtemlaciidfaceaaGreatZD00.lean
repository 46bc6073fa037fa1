/-
  Own work: part 1 of the texts that the proof of the given statement leans on.
-/
import Derived.Calls
import Derived.Orders
import Derived.KernelRfl
import Derived.Laws.AppendOwn
import Derived.Below
import Derived.Laws.OwnMore
import Derived.Laws.Entries
import Derived.Laws.Tables
import Derived.Laws.Small
import Derived.Laws.MakeOwn
noncomputable section
namespace Go.Di
structure Rt where
  neg:Bool
  mag:List Int
  den:List Int
structure Sta where
  name:ByteArray
  x:Rt
  y:Rt
  fixed:Bool
structure Obs where
  kind:Int
  frm:Int
  to:Int
  value:Rt
  variance:Rt
structure Tk where
  id:Nat
  xs:List Int
structure TRt where
  neg:Bool
  mag:Tk
  den:Tk
def TRt.er (r:TRt):Rt:=⟨r.neg,r.mag.xs,r.den.xs⟩
inductive ST where
  | int | byte | str | rat | sta | obs | rats
  /-- fractions whose slices lie in the pool -/
  | trat
def ST.eqb:ST→ST→Bool
  | .int,.int | .byte,.byte | .str,.str | .rat,.rat | .sta,.sta | .obs,.obs | .rats,.rats | .trat,.trat=>true
  | _,_=>false
def ST.El:ST→Type
  | .int=>Int
  | .byte=>Int
  | .str=>ByteArray
  | .rat=>Rt
  | .sta=>Sta
  | .obs=>Obs
  | .rats=>List Rt
  | .trat=>TRt
def ST.size:ST→Nat
  | .int | .byte | .str | .rats=>1
  | .rat | .trat=>3
  | .sta=>8
  | .obs=>9
inductive Cell where
  | int (k:IntKind) (n:Int)
  | bool (b:Bool)
  | str (s:ByteArray)
  | sl (t:ST) (xs:List t.El)
  /-- a slice that lies in the pool -/
  | tok (k:Tk)
  /-- something of which nothing is known -/
  | any
def ST.cells:(t:ST)→t.El→List Cell
  | .int,n=>[.int .i64 n]
  | .byte,n=>[.int .u8 n]
  | .str,s=>[.str s]
  | .rat,r=>[.bool r.neg,.sl .int r.mag,.sl .int r.den]
  | .sta,s=>[.str s.name,.bool s.x.neg,.sl .int s.x.mag,.sl .int s.x.den,.bool s.y.neg,.sl .int s.y.mag,.sl .int s.y.den,.bool s.fixed]
  | .obs,o=>[.int .i64 o.kind,.int .i64 o.frm,.int .i64 o.to,.bool o.value.neg,.sl .int o.value.mag,.sl .int o.value.den,
      .bool o.variance.neg,.sl .int o.variance.mag,.sl .int o.variance.den]
  | .rats,l=>[.sl .rat l]
  | .trat,r=>[.bool r.neg,.tok r.mag,.tok r.den]
inductive CK where
  | int (k:IntKind) | bool | str | sl (t:ST)
  /-- a number that is no cell -/
  | nat
  | tok | any
def CK.ty:CK→Type
  | .int _=>Int
  | .bool=>Bool
  | .str=>ByteArray
  | .sl t=>List t.El
  | .nat=>Nat
  | .tok=>Tk
  | .any=>Unit
def CK.cell:(c:CK)→c.ty→Cell
  | .int k,n => .int k n
  | .bool,b => .bool b
  | .str,s => .str s
  | .sl t,xs => .sl t xs
  | .nat,n => .int .i64 (Int.ofNat n)
  | .tok,k => .tok k
  | .any,_ => .any
def zhr:IntKind→IntKind→Bool
  | .i8,.i8 | .i16,.i16 | .i32,.i32 | .i64,.i64 | .u8,.u8 | .u16,.u16 | .u32,.u32 | .u64,.u64=>true
  | _,_=>false
def ST.cast:(t u:ST)→List t.El→Option (List u.El)
  | .int,.int,xs=>some xs
  | .byte,.byte,xs=>some xs
  | .str,.str,xs=>some xs
  | .rat,.rat,xs=>some xs
  | .sta,.sta,xs=>some xs
  | .obs,.obs,xs=>some xs
  | .rats,.rats,xs=>some xs
  | .trat,.trat,xs=>some xs
  | _,_,_=>none
def CK.get:(c:CK)→Cell→Option c.ty
  | .int k,.int k' n=>match zhr k k' with | true=>some n | false=>none
  | .bool,.bool b=>some b
  | .str,.str s=>some s
  | .sl t,.sl u xs=>ST.cast u t xs
  | .tok,.tok k=>some k
  | .any,.any=>some ()
  | _,_=>none
def ST.kinds:ST→List CK
  | .int=>[.int .i64]
  | .byte=>[.int .u8]
  | .str=>[.str]
  | .rat=>[.bool,.sl .int,.sl .int]
  | .sta=>[.str,.bool,.sl .int,.sl .int,.bool,.sl .int,.sl .int,.bool]
  | .obs=>[.int .i64,.int .i64,.int .i64,.bool,.sl .int,.sl .int,.bool,.sl .int,.sl .int]
  | .rats=>[.sl .rat]
  | .trat=>[.bool,.tok,.tok]
def Tys:List CK→Type
  | []=>Unit
  | c :: cs=>c.ty × Tys cs
def Tys.cells:(cs:List CK)→Tys cs→List Cell
  | [],_=>[]
  | c :: cs,x=>c.cell x.1 :: Tys.cells cs x.2
def ST.mk:(t:ST)→Tys t.kinds→t.El
  | .int,x=>x.1
  | .byte,x=>x.1
  | .str,x=>x.1
  | .rat,x=>⟨x.1,x.2.1,x.2.2.1⟩
  | .sta,x=>⟨x.1,⟨x.2.1,x.2.2.1,x.2.2.2.1⟩,⟨x.2.2.2.2.1,x.2.2.2.2.2.1,x.2.2.2.2.2.2.1⟩,x.2.2.2.2.2.2.2.1⟩
  | .obs,x=>⟨x.1,x.2.1,x.2.2.1,⟨x.2.2.2.1,x.2.2.2.2.1,x.2.2.2.2.2.1⟩,⟨x.2.2.2.2.2.2.1,x.2.2.2.2.2.2.2.1,x.2.2.2.2.2.2.2.2.1⟩⟩
  | .rats,x=>x.1
  | .trat,x=>⟨x.1,x.2.1,x.2.2.1⟩
inductive A1 where
  | bot
  | d (c:Cell)
  /-- a slice of length and capacity 0 -/
  | mt
  /-- the address of a cell of the boxed variable n -/
  | lp (n off:Nat)
  /-- the whole of the own array n -/
  | own (n:Nat)
  /-- a part of the own array n -/
  | win (n lo len:Nat)
  /-- an address into memory that stays as it is, whose cells are known -/
  | sp (cs:List Cell) (off:Nat)
  /-- the address of a cell of element i of the own array n -/
  | oe (n i off:Nat)
  /-- the whole of the deep array n: its elements' slices are its own, too -/
  | dp (n:Nat)
  /-- an address of a cell of element i of the deep array n -/
  | de (n i off:Nat)
  /-- the slice that lies in cell off of element i of the deep array n, and what it holds -/
  | dc (n i off:Nat) (ys:List Int)
  /-- the function f; what it has captured are addresses into memory that stays as it is, whose cells are known -/
  | fn (f:Nat) (caps:List (List Cell))
inductive AV where
  | v (agg:Bool) (cells:List A1)
  | tup (parts:List (Bool × List A1))
def AV.bot:AV := .v false [.bot]
def AV.one (a:A1):AV := .v false [a]
inductive Ent where
  | box (cells:List A1)
  /-- an array of the call's own; fr: from now on it stays as it is -/
  | arr (fr:Bool) (t:ST) (xs:List t.El)
  /-- an array of the call's own, and so are the slices of integers in its elements; fr: from now on all this stays as it is -/
  | deep (fr:Bool) (t:ST) (xs:List t.El)
  /-- n own arrays of integers, known by their numbers -/
  | pool (n:Nat)
structure St where
  env:List AV
  ents:List (Nat × Ent)
def look (n:Nat):List (Nat × Ent)→Option Ent
  | []=>none
  | (m,e) :: r=>match Nat.beq n m with | true=>some e | false=>look n r
def put (n:Nat) (e:Ent):List (Nat × Ent)→List (Nat × Ent)
  | []=>[(n,e)]
  | (m,f) :: r=>match Nat.beq n m with
    | true=>(n,e) :: r
    | false=>match Nat.blt n m with
      | true=>(n,e) :: (m,f) :: r
      | false=>(m,f) :: put n e r
def drop (n:Nat):List (Nat × Ent)→List (Nat × Ent)
  | []=>[]
  | (m,f) :: r=>match Nat.beq n m with
    | true=>drop n r
    | false=>(m,f) :: drop n r
def PN:Nat:=70368744177727
def dcn (n:Nat):Nat:=n+1099511627776
def A1.kill (n:Nat):A1→A1
  | .lp m o=>match Nat.beq n m with | true => .bot | false => .lp m o
  | .own m=>match Nat.beq n m with | true => .bot | false => .own m
  | .win m l k=>match Nat.beq n m with | true => .bot | false => .win m l k
  | .oe m i o=>match Nat.beq n m with | true => .bot | false => .oe m i o
  | .dp m=>match Nat.beq n m with | true => .bot | false => .dp m
  | .de m i o=>match Nat.beq n m with | true => .bot | false => .de m i o
  | .dc m i o ys=>match Nat.beq n m with
    | true => .bot
    | false=>match Nat.beq n (dcn m) with
      | true => .bot
      | false => .dc m i o ys
  | a=>a
def zdF (n:Nat):List A1→List A1
  | []=>[]
  | a :: r=>a.kill n :: zdF n r
def zDM (n:Nat):List (Bool × List A1)→List (Bool × List A1)
  | []=>[]
  | (b,l) :: r=>(b,zdF n l) :: zDM n r
def AV.kill (n:Nat):AV→AV
  | .v b l => .v b (zdF n l)
  | .tup l => .tup (zDM n l)
def zpT (n:Nat):List AV→List AV
  | []=>[]
  | a :: r=>a.kill n :: zpT n r
def Ent.kill (n:Nat):Ent→Ent
  | .box l => .box (zdF n l)
  | e=>e
def zGO (n:Nat):List (Nat × Ent)→List (Nat × Ent)
  | []=>[]
  | (m,e) :: r=>(m,e.kill n) :: zGO n r
def St.free (n:Nat) (s:St):St:=⟨zpT n s.env,zGO n (drop n s.ents)⟩
def St.get (s:St) (t:Nat):AV:=s.env.getD t AV.bot
def St.set (s:St) (t:Nat) (a:AV):St:=⟨s.env.set t a,s.ents⟩
structure TI where
  agg:Bool
  zero:List A1
  fields:List (Nat × Nat × Bool)
  elem:Option ST
  scal:Option CK
  strct:Bool
  deep:Bool:=false
def zcm (t:TypeId):List (TypeId × TI)→Option TI
  | []=>none
  | (u,i) :: r=>match Nat.beq t u with | true=>some i | false=>zcm t r
inductive Susp (α:Type):Type 1 where
  | fail
  | ret (a:α)
  | ask {ρ:Type} (x:Option ρ) (f:ρ→α)
def Susp.zvH {α β:Type}:Susp α→(α→Option β)→Option β
  | .fail,_=>none
  | .ret a,k=>k a
  | .ask x f,k=>x.bind fun r=>k (f r)
/-! ### Templates of states -/
inductive C1T where
  | bot
  | d (c:CK)
  | own (n:Nat)
  | lp (n off:Nat)
  | win (n:Nat)
  | dp (n:Nat)
  /-- an address into memory that stays as it is, with cells of these kinds -/
  | sp (ks:List CK)
  /-- the function f, which has captured such addresses -/
  | fn (f:Nat) (kss:List (List CK))
inductive ET where
  | box (l:List C1T)
  | arr (fr:Bool) (t:ST)
  | deep (t:ST)
  | pool
structure Tm where
  slots:List (Option (Bool × List C1T))
  ents:List (Nat × ET)
def flatK:List (List CK)→List CK
  | []=>[]
  | k :: r=>k++flatK r
def ksL:List C1T→List CK
  | []=>[]
  | .d c :: r=>c :: ksL r
  | .win _ :: r => .nat :: .nat :: ksL r
  | .sp ks :: r=>ks++ksL r
  | .fn _ kss :: r=>flatK kss++ksL r
  | _ :: r=>ksL r
def ksS:List (Option (Bool × List C1T))→List CK
  | []=>[]
  | none :: r=>ksS r
  | some (_,l) :: r=>ksL l++ksS r
def ksE:List (Nat × ET)→List CK
  | []=>[]
  | (_,.box l) :: r=>ksL l++ksE r
  | (_,.arr _ t) :: r => .sl t :: ksE r
  | (_,.deep t) :: r => .sl t :: ksE r
  | (_,.pool) :: r => .nat :: ksE r
def Tm.ks (T:Tm):List CK:=ksS T.slots++ksE T.ents
structure Sig where
  args:List (Bool × List C1T)
  ins:List (Nat × ET)
  tup:Bool
  res:List (Bool × List C1T)
  outs:List (Nat × ET)
def Sig.tin (g:Sig):Tm:=⟨g.args.map some,g.ins⟩
def Sig.zgF (g:Sig):Tm:=⟨g.res.map some,g.outs⟩
structure Con where
  sig:Sig
  ρ:Type
  run:Tys sig.tin.ks→Option ρ
  out:ρ→Tys sig.zgF.ks
def zhy (f:FuncId):List (FuncId × Con)→Option Con
  | []=>none
  | (g,c) :: r=>match Nat.beq f g with | true=>some c | false=>zhy f r
def zak:Bool→Option Unit
  | true=>some ()
  | false=>none
def idx {α:Type} (xs:List α) (i:Int):Option α:=if 0≤i then xs[i.toNat]? else none
def cut {α:Type} (xs:List α) (lo hi:Nat):List α:=(xs.take hi).drop lo
def A1.as (es:List (Nat × Ent)):(c:CK)→A1→Option c.ty
  | c,.d x=>c.get x
  | .sl t,.mt=>some ([]:List t.El)
  | .sl t,.own n=>match look n es with
    | some (.arr _ u xs)=>ST.cast u t xs
    | _=>none
  | .sl t,.win n lo len=>match look n es with
    | some (.arr _ u xs)=>ST.cast u t (cut xs lo (lo+len))
    | _=>none
  | .sl t,.dp n=>match look n es with
    | some (.deep _ u xs)=>ST.cast u t xs
    | _=>none
  | .sl t,.dc n _ _ ys=>match look n es with
    | some (.deep _ .rats _)=>none
    | some (.deep _ _ _)=>ST.cast .int t ys
    | _=>none
  | _,_=>none
def asTys (es:List (Nat × Ent)):(cs:List CK)→List A1→Option (Tys cs)
  | [],[]=>some ()
  | c :: cs,a :: l=>match a.as es c with
    | some x=>match asTys es cs l with
      | some y=>some (x,y)
      | none=>none
    | none=>none
  | _,_=>none
def zbb {α:Type}:Nat→List α→List α × List α
  | 0,l=>([],l)
  | _+1,[]=>([],[])
  | n+1,a :: l=>let p:=zbb n l; (a :: p.1,p.2)
def Tys.fst:(cs ds:List CK)→Tys (cs++ds)→Tys cs
  | [],_,_=>()
  | _ :: cs,ds,x=>(x.1,Tys.fst cs ds x.2)
def Tys.snd:(cs ds:List CK)→Tys (cs++ds)→Tys ds
  | [],_,x=>x
  | _ :: cs,ds,x=>Tys.snd cs ds x.2
def Tys.app:(cs ds:List CK)→Tys cs→Tys ds→Tys (cs++ds)
  | [],_,_,y=>y
  | _ :: cs,ds,x,y=>(x.1,Tys.app cs ds x.2 y)
def zOI:(kss:List (List CK))→Tys (flatK kss)→List (List Cell)
  | [],_=>[]
  | k :: r,x=>Tys.cells k (Tys.fst k (flatK r) x) :: zOI r (Tys.snd k (flatK r) x)
def encL:(l:List C1T)→Tys (ksL l)→List A1
  | [],_=>[]
  | .d c :: r,x => .d (c.cell x.1) :: encL r x.2
  | .bot :: r,x => .bot :: encL r x
  | .own n :: r,x => .own n :: encL r x
  | .lp n o :: r,x => .lp n o :: encL r x
  | .win n :: r,x => .win n x.1 x.2.1 :: encL r x.2.2
  | .dp n :: r,x => .dp n :: encL r x
  | .sp ks :: r,x => .sp (Tys.cells ks (Tys.fst ks (ksL r) x)) 0 :: encL r (Tys.snd ks (ksL r) x)
  | .fn f kss :: r,x => .fn f (zOI kss (Tys.fst (flatK kss) (ksL r) x)) :: encL r (Tys.snd (flatK kss) (ksL r) x)
def encS:(l:List (Option (Bool × List C1T)))→Tys (ksS l)→List AV
  | [],_=>[]
  | none :: r,x => .bot :: encS r x
  | some (b,l) :: r,x => .v b (encL l (Tys.fst (ksL l) (ksS r) x)) :: encS r (Tys.snd (ksL l) (ksS r) x)
def zgE:(l:List (Nat × ET))→Tys (ksE l)→List (Nat × Ent)
  | [],_=>[]
  | (n,.box l) :: r,x=>(n,.box (encL l (Tys.fst (ksL l) (ksE r) x))) :: zgE r (Tys.snd (ksL l) (ksE r) x)
  | (n,.arr fr t) :: r,x=>(n,.arr fr t x.1) :: zgE r x.2
  | (n,.deep t) :: r,x=>(n,.deep false t x.1) :: zgE r x.2
  | (n,.pool) :: r,x=>(n,.pool x.1) :: zgE r x.2
def Tm.enc (T:Tm) (x:Tys T.ks):St:=⟨encS T.slots (Tys.fst (ksS T.slots) (ksE T.ents) x),zgE T.ents (Tys.snd (ksS T.slots) (ksE T.ents) x)⟩
/-! ### Reading a state by a template -/
def zgx (n:Nat):List Nat→Bool
  | []=>false
  | m :: r=>match Nat.beq n m with
    | true=>true
    | false=>zgx n r
def zed:List Nat→Bool
  | []=>true
  | m :: r=>match zgx m r with
    | true=>false
    | false=>zed r
def zaF:List (Nat × Nat)→Nat→Nat
  | [],n=>n
  | (k,m) :: r,n=>match Nat.beq k n with
    | true=>m
    | false=>zaF r n
def znn:List C1T→List A1→List (Nat × Nat)
  | .own n :: r,.own m :: l=>(n,m) :: znn r l
  | .win n :: r,.win m _ _ :: l=>(n,m) :: znn r l
  | .lp n _ :: r,.lp m _ :: l=>(n,m) :: znn r l
  | .dp n :: r,.dp m :: l=>(n,m) :: znn r l
  | _ :: r,_ :: l=>znn r l
  | _,_=>[]
def zB1:List (Option (Bool × List C1T))→List AV→List (Nat × Nat)
  | some (_,l) :: r,.v _ m :: e=>znn l m++zB1 r e
  | _ :: r,_ :: e=>zB1 r e
  | _,_=>[]
def zno (es:List (Nat × Ent)) (p:List (Nat × Nat)):List (Nat × ET)→List (Nat × Nat)
  | []=>[]
  | (n,.box l) :: r=>match look (zaF p n) es with
    | some (.box m)=>znn l m++zno es p r
    | _=>zno es p r
  | _ :: r=>zno es p r
def zj6 (src:List (Nat × Nat)):List (Nat × ET)→List Nat
  | []=>[]
  | (n,.box _) :: r=>zaF src n :: zj6 src r
  | (n,.arr false _) :: r=>zaF src n :: zj6 src r
  | (_,.arr true _) :: r=>zj6 src r
  | (n,.deep _) :: r=>zaF src n :: zj6 src r
  | (n,.pool) :: r=>zaF src n :: zj6 src r
def okA (muts:List Nat):A1→Bool
  | .own m=>match zgx m muts with | true=>false | false=>true
  | .win m _ _=>match zgx m muts with | true=>false | false=>true
  | .dp m=>match zgx m muts with | true=>false | false=>true
  | .dc m _ _ _=>match zgx m muts with | true=>false | false=>true
  | _=>true
def pooled (es:List (Nat × Ent)):Bool:=match look PN es with
  | some (.pool _)=>true
  | _=>false
def A1.via (es:List (Nat × Ent)):(c:CK)→A1→Option c.ty
  | .sl .int,.d (.tok k)=>some k.xs
  | .sl .rat,.own n=>match look n es with
    | some (.arr false .trat xs)=>some (xs.map TRt.er)
    | _=>none
  | .sl .rat,.win n lo len=>match look n es with
    | some (.arr false .trat xs)=>some ((cut xs lo (lo+len)).map TRt.er)
    | _=>none
  | _,_=>none
def readD (es:List (Nat × Ent)) (muts:List Nat) (c:CK) (a:A1):Option c.ty :=
  match okA muts a with
  | true => match a.as es c with
    | some x=>some x
    | none=>match pooled es with
      | true=>match zgx PN muts with
        | true=>none
        | false=>a.via es c
      | false=>none
  | false=>none
def getC:(ks:List CK)→List Cell→Option (Tys ks)
  | [],[]=>some ()
  | k :: ks,c :: cs=>match k.get c with
    | some x=>match getC ks cs with
      | some y=>some (x,y)
      | none=>none
    | none=>none
  | _,_=>none
def getK:(kss:List (List CK))→List (List Cell)→Option (Tys (flatK kss))
  | [],[]=>some ()
  | k :: kss,c :: cs=>match getC k c with
    | some x=>match getK kss cs with
      | some y=>some (Tys.app k (flatK kss) x y)
      | none=>none
    | none=>none
  | _,_=>none
def readL (es:List (Nat × Ent)) (src:List (Nat × Nat)) (muts:List Nat):(l:List C1T)→List A1→Option (Tys (ksL l))
  | [],[]=>some ()
  | .bot :: r,_ :: l=>readL es src muts r l
  | .d c :: r,a :: l=>match readD es muts c a with
    | some x=>match readL es src muts r l with
      | some y=>some (x,y)
      | none=>none
    | none=>none
  | .own n :: r,.own m :: l=>match Nat.beq (zaF src n) m,look m es with
    | true,some _=>readL es src muts r l
    | _,_=>none
  | .lp n off :: r,.lp m o :: l=>match Nat.beq (zaF src n) m,Nat.beq off o,look m es with
    | true,true,some _=>readL es src muts r l
    | _,_,_=>none
  | .win n :: r,.win m lo k :: l=>match Nat.beq (zaF src n) m,look m es with
    | true,some _=>match readL es src muts r l with
      | some y=>some (lo,k,y)
      | none=>none
    | _,_=>none
  | .dp n :: r,.dp m :: l=>match Nat.beq (zaF src n) m,look m es with
    | true,some _=>readL es src muts r l
    | _,_=>none
  | .sp ks :: r,.sp cs off :: l=>match off,getC ks cs with
    | 0,some x=>match readL es src muts r l with
      | some y=>some (Tys.app ks (ksL r) x y)
      | none=>none
    | _,_=>none
  | .fn f kss :: r,.fn g caps :: l=>match Nat.beq f g,getK kss caps with
    | true,some x=>match readL es src muts r l with
      | some y=>some (Tys.app (flatK kss) (ksL r) x y)
      | none=>none
    | _,_=>none
  | _,_=>none
def readS (es:List (Nat × Ent)) (src:List (Nat × Nat)) (muts:List Nat):(l:List (Option (Bool × List C1T)))→List AV→Option (Tys (ksS l))
  | [],[]=>some ()
  | none :: r,_ :: e=>readS es src muts r e
  | some (b,l) :: r,.v b' m :: e=>match b,b' with
    | true,true | false,false=>match readL es src muts l m with
      | some x=>match readS es src muts r e with
        | some y=>some (Tys.app (ksL l) (ksS r) x y)
        | none=>none
      | none=>none
    | _,_=>none
  | _,_=>none
def readE (es:List (Nat × Ent)) (src:List (Nat × Nat)) (muts:List Nat):(l:List (Nat × ET))→Option (Tys (ksE l))
  | []=>some ()
  | (n, .box l) :: r=>match look (zaF src n) es with
    | some (.box m)=>match readL es src muts l m with
      | some x=>match readE es src muts r with
        | some y=>some (Tys.app (ksL l) (ksE r) x y)
        | none=>none
      | none=>none
    | _=>none
  | (n, .arr fr t) :: r=>match look (zaF src n) es with
    | some (.arr fr' u xs)=>match fr,fr' with
      | true,true | false,false=>match ST.cast u t xs with
        | some x=>match readE es src muts r with
          | some y=>some (x,y)
          | none=>none
        | none=>none
      | _,_=>none
    | _=>none
  | (n, .deep t) :: r=>match look (zaF src n) es with
    | some (.deep false u xs)=>match ST.cast u t xs with
      | some x=>match readE es src muts r with
        | some y=>some (x,y)
        | none=>none
      | none=>none
    | _=>none
  | (n,.pool) :: r=>match look (zaF src n) es with
    | some (.pool k)=>match readE es src muts r with
      | some y=>some (k,y)
      | none=>none
    | _=>none
def Tm.src (T:Tm) (s:St):List (Nat × Nat):=let p:=zB1 T.slots s.env; p++zno s.ents p T.ents
def Tm.zF1 (T:Tm) (ex:List Nat) (s:St):Option (Tys T.ks) :=
  let src:=T.src s
  let muts:=zj6 src T.ents
  match Bool.and (zed muts) (Nat.beq (zaF src PN) PN) with
  | true=>match readS s.ents src (ex++muts) T.slots s.env with
    | some x=>match readE s.ents src (ex++muts) T.ents with
      | some y=>some (Tys.app (ksS T.slots) (ksE T.ents) x y)
      | none=>none
    | none=>none
  | false=>none
def Tm.read (T:Tm) (s:St):Option (Tys T.ks):=T.zF1 [] s
def pinsOk (src:List (Nat × Nat)):List (Nat × ET)→Bool
  | []=>true
  | (n,_) :: r=>match Nat.beq (n % 64) 63 with
    | true=>match Nat.beq (zaF src n) n with
      | true=>pinsOk src r
      | false=>false
    | false=>pinsOk src r
def Tm.zBU (T:Tm) (s:St):Option (Tys T.ks):=match pinsOk (T.src s) T.ents with
  | true=>T.read s
  | false=>none
def zos:Bool→List (Bool × List A1)→AV
  | false,[(b,l)] => .v b l
  | _,l => .tup l
def nm (t:Nat):Nat:=64 * t
def zaW (s:St):Operand→AV
  | .tmp t=>s.get t
  | .const (.int k n) => .one (.d (.int k n))
  | .const (.bool b) => .one (.d (.bool b))
  | .const (.string x) => .one (.d (.str x))
  | .const (.slice none 0 0) => .one .mt
  | .func f => .one (.fn f [])
  | _ => .bot
def AV.cells:AV→Option (List A1)
  | .v false [.bot]=>none
  | .v _ l=>some l
  | _=>none
def freeze1 (n:Nat):List (Nat × Ent)→List (Nat × Ent)
  | []=>[]
  | (m,e) :: r=>match Nat.beq n m with
    | true=>match e with
      | .arr _ t xs=>(m,.arr true t xs) :: freeze1 n r
      | .box l=>(m,.box l) :: freeze1 n r
      | .deep _ t xs=>(m,.deep true t xs) :: freeze1 n r
      | .pool k=>(m,.pool k) :: freeze1 n r
    | false=>(m,e) :: freeze1 n r
def A1.freeze (a:A1) (es:List (Nat × Ent)):List (Nat × Ent) :=
  match a with
  | .own n=>freeze1 n es
  | .win n _ _=>freeze1 n es
  | .dp n=>freeze1 n es
  | .dc n _ _ _=>freeze1 n es
  | _=>es
def zau:List A1→List (Nat × Ent)→List (Nat × Ent)
  | [],es=>es
  | a :: r,es=>zau r (a.freeze es)
def St.freeL:List (Nat × Ent)→St→St
  | [],s=>s
  | (n,_) :: r,s=>St.freeL r (s.free n)
def zhW:List (Nat × Ent)→List (Nat × Ent)→List (Nat × Ent)
  | [],es=>es
  | (n,e) :: r,es=>zhW r (put n e es)
def St.zuf (l:List (Nat × Ent)) (s:St):St:=let f:=St.freeL l s; ⟨f.env,zhW l f.ents⟩
def St.push (n:Nat) (e:Ent) (s:St):St:=St.zuf [(n,e)] s
/-! ### Deep arrays -/
def ST.zfZ:ST→Bool
  | .rat | .sta | .obs=>true
  | _=>false
def ST.znX:ST→Bool
  | .rat | .sta | .obs | .rats=>true
  | _=>false
def A1.absorb (es:List (Nat × Ent)):A1→Option (List Nat)
  | .d (.int _ _) | .d (.bool _) | .d (.str _) | .mt=>some []
  | .own m=>match look m es with
    | some (.arr false .int _)=>some [m]
    | _=>none
  | _=>none
def zdp (es:List (Nat × Ent)):List A1→Option (List Nat)
  | []=>some []
  | a :: r=>match a.absorb es,zdp es r with
    | some k,some l=>some (k++l)
    | _,_=>none
def zh1 (n i:Nat):Nat→List Cell→List A1
  | _,[]=>[]
  | j,.sl .int ys :: r => .dc n i j ys :: zh1 n i (j+1) r
  | j,.sl .rat _ :: r => .dc n i j [] :: zh1 n i (j+1) r
  | j,c :: r => .d c :: zh1 n i (j+1) r
def St.za1:List Nat→St→St
  | [],s=>s
  | n :: r,s=>St.za1 r (s.free n)
def window (off k:Nat) (l:List A1):Option (List A1) :=
  let p:=zbb k (zbb off l).2
  match Nat.beq p.1.length k with
  | true=>some p.1
  | false=>none
def patch:Nat→List A1→List A1→Option (List A1)
  | 0,[],l=>some l
  | 0,_ :: _,[]=>none
  | 0,a :: x,_ :: l=>match patch 0 x l with
    | some r=>some (a :: r)
    | none=>none
  | _+1,_,[]=>none
  | n+1,x,b :: l=>match patch n x l with
    | some r=>some (b :: r)
    | none=>none
def zbQ:List Cell→List A1
  | []=>[]
  | c :: r => .d c :: zbQ r
def A1.zvb:A1→Bool
  | .dp _ | .de _ _ _ | .dc _ _ _ _=>true
  | _=>false
def elemOf (es:List (Nat × Ent)) (t:ST) (l:List A1):Option t.El :=
  match asTys es t.kinds l with
  | some x=>some (t.mk x)
  | none=>none
def zK9 (s:ByteArray) (i:Int):Option Int:=if 0≤i then (s.data[i.toNat]?).map fun b=>(b.toNat:Int) else none
def zop (a b:ByteArray):Bool:=a.toList==b.toList
def addrOf:AV→Option A1
  | .v false [a]=>some a
  | _=>none
def partsOf (fs:List (Nat × Nat × Bool)) (s:St):List (Nat × Operand)→List A1→Option (List A1)
  | [],l=>some l
  | (i, x) :: r,l=>match fs[i]? with
    | some (off,k,_)=>match (zaW s x).cells with
      | some c=>match Nat.beq c.length k with
        | true=>match patch off c l with
          | some l'=>partsOf fs s r l'
          | none=>none
        | false=>none
      | none=>none
    | none=>none
def elemsOf (s:St) (t:ST):Nat→List (Nat × Operand)→Option (List t.El × List A1)
  | _,[]=>some ([],[])
  | i, (j, x) :: r=>match Nat.beq i j with
    | true => match (zaW s x).cells with
      | some c=>match elemOf s.ents t c with
        | some e=>match elemsOf s t (i+1) r with
          | some p=>some (e :: p.1,c++p.2)
          | none=>none
        | none=>none
      | none=>none
    | false=>none
def ok (a:AV) (s:St):Susp (AV × St) := .ret (a,s)
def zOO (k:IntKind) (a b:Int):BinOp→Option Int
  | .and=>some (k.wrap ((BitVec.ofInt k.bits a &&& BitVec.ofInt k.bits b).toNat:Int))
  | .or=>some (k.wrap ((BitVec.ofInt k.bits a ||| BitVec.ofInt k.bits b).toNat:Int))
  | .xor=>some (k.wrap ((BitVec.ofInt k.bits a ^^^ BitVec.ofInt k.bits b).toNat:Int))
  | _=>none
def zFP (k:IntKind) (a b:Int):Int:=a.fdiv (2 ^ (min b.toNat k.bits))
def zve (s:St) (k:IntKind) (a b:Int):BinOp→Susp (AV × St)
  | .add=>ok (.one (.d (.int k (k.wrap (a+b))))) s
  | .sub=>ok (.one (.d (.int k (k.wrap (a - b))))) s
  | .mul=>ok (.one (.d (.int k (k.wrap (a * b))))) s
  | .quo => .ask (zak (b != 0)) fun _=>(.one (.d (.int k (k.wrap (a.tdiv b)))),s)
  | .rem => .ask (zak (b != 0)) fun _=>(.one (.d (.int k (a.tmod b))),s)
  | .eql=>ok (.one (.d (.bool (a==b)))) s
  | .neq=>ok (.one (.d (.bool (a != b)))) s
  | .lss=>ok (.one (.d (.bool (decide (a < b))))) s
  | .leq=>ok (.one (.d (.bool (decide (a≤b))))) s
  | .gtr=>ok (.one (.d (.bool (decide (a > b))))) s
  | .geq=>ok (.one (.d (.bool (decide (a ≥ b))))) s
  | .shr => .ask (zak (decide (0≤b))) fun _=>(.one (.d (.int k (zFP k a b))),s)
  | op=>match zOO k a b op with
    | some n=>ok (.one (.d (.int k n))) s
    | none => .fail
def binOp (s:St) (isB:Bool) (op:BinOp):AV→AV→Susp (AV × St)
  | .v false [.d (.int k a)],.v false [.d (.int k' b)]=>match zhr k k' with
    | true=>zve s k a b op
    | false=>match op with
      | .shr => .ask (zak (decide (0≤b))) fun _=>(.one (.d (.int k (zFP k a b))),s)
      | _ => .fail
  | .v false [.d (.bool a)],.v false [.d (.bool b)]=>match isB with
    | true=>match op with
      | .eql=>ok (.one (.d (.bool (a==b)))) s
      | .neq=>ok (.one (.d (.bool (!(a==b))))) s
      | _ => .fail
    | false => .fail
  | .v false [.d (.str a)],.v false [.d (.str b)]=>match op with
    | .eql=>ok (.one (.d (.bool (zop a b)))) s
    | .neq=>ok (.one (.d (.bool (!zop a b)))) s
    | .add => .ask (zak (Nat.ble (a.size+b.size) 4611686018427387904)) fun _=>(.one (.d (.str (a++b))),s)
    | _ => .fail
  | _,_ => .fail
def zof (d:Int):Option AV→Option Int
  | none=>some d
  | some (.v false [.d (.int .i64 l)])=>some l
  | _=>none
def bounds (n:Nat) (lo hi:Option AV):Option (Int × Int) :=
  match zof 0 lo,zof n hi with
  | some l,some h=>some (l,h)
  | _,_=>none
def inside (n:Nat) (b:Int × Int):Bool:=decide (0≤b.1) && decide (b.1≤b.2) && decide (b.2≤(n:Int))
def isStr:Option CK→Bool
  | some .str=>true
  | _=>false
def zQU (t:ST):Option ST→Bool
  | some u=>ST.eqb t u
  | none=>false
def sliceOp (s:St) (i:TI) (x:A1) (lo hi:Option AV):Susp (AV × St) :=
  match x with
  | .d (.str a)=>match isStr i.scal,bounds a.size lo hi with
    | true,some b => .ask (zak (inside a.size b)) fun _=>(.one (.d (.str (a.extract b.1.toNat b.2.toNat))),s)
    | _,_ => .fail
  | .d (.sl t xs)=>match zQU t i.elem,bounds xs.length lo hi with
    | true,some b => .ask (zak (inside xs.length b)) fun _=>(.one (.d (.sl t (cut xs b.1.toNat b.2.toNat))),s)
    | _,_ => .fail
  | .own n=>match look n s.ents with
    | some (.arr _ t xs)=>match zQU t i.elem,bounds xs.length lo hi with
      | true,some b => .ask (zak (inside xs.length b)) fun _=>(.one (.win n b.1.toNat (b.2.toNat - b.1.toNat)),s)
      | _,_ => .fail
    | _ => .fail
  | _ => .fail
def lenOp (s:St) (i:TI):A1→Susp (AV × St)
  | .d (.str a)=>match isStr i.scal with
    | true=>ok (.one (.d (.int .i64 a.size))) s
    | false => .fail
  | x => match i.elem with
    | none => .fail
    | some _=>match x with
      | .d (.sl _ xs)=>ok (.one (.d (.int .i64 xs.length))) s
      | .mt=>ok (.one (.d (.int .i64 0))) s
      | .own n=>match look n s.ents with
        | some (.arr _ _ xs)=>ok (.one (.d (.int .i64 xs.length))) s
        | _ => .fail
      | .dp n=>match look n s.ents with
        | some (.deep _ _ xs)=>ok (.one (.d (.int .i64 xs.length))) s
        | _ => .fail
      | .dc n _ _ ys=>match look n s.ents with
        | some (.deep _ .rats _) => .fail
        | some (.deep _ _ _)=>ok (.one (.d (.int .i64 ys.length))) s
        | _ => .fail
      | .win n _ k=>match look n s.ents with
        | some (.arr _ _ _)=>ok (.one (.d (.int .i64 k))) s
        | _ => .fail
      | _ => .fail
def indexOp (s:St) (e:ST) (x:A1) (i:Int):Susp (AV × St) :=
  match x with
  | .d (.sl t xs)=>match ST.eqb t e with
    | true => .ask (idx xs i) fun e=>(.one (.sp (t.cells e) 0),s)
    | false => .fail
  | .own n=>match look n s.ents with
    | some (.arr _ t xs)=>match ST.eqb t e with
      | true => .ask (idx xs i) fun _=>(.one (.oe n i.toNat 0),s)
      | false => .fail
    | _ => .fail
  | .win n lo k=>match look n s.ents with
    | some (.arr _ t xs)=>match ST.eqb t e with
      | true => .ask (idx (cut xs lo (lo+k)) i) fun _=>(.one (.oe n (lo+i.toNat) 0),s)
      | false => .fail
    | _ => .fail
  | .dp n=>match look n s.ents with
    | some (.deep _ t xs)=>match ST.eqb t e with
      | true => .ask (idx xs i) fun _=>(.one (.de n i.toNat 0),s)
      | false => .fail
    | _ => .fail
  | _ => .fail
def loadOp (s:St) (agg:Bool) (k:Nat):A1→Susp (AV × St)
  | .lp n off=>match look n s.ents with
    | some (.box l)=>match window off k l with
      | some c=>ok (.v agg c) s
      | none => .fail
    | _ => .fail
  | .sp cs off=>match window off k (zbQ cs) with
    | some c=>ok (.v agg c) s
    | none => .fail
  | .oe n i off=>match look n s.ents with
    | some (.arr _ t xs)=>match Nat.ble (off+k) t.size with
      | true => .ask (xs[i]?) fun e=>(.v agg (zbb k (zbb off (zbQ (t.cells e))).2).1,s)
      | false => .fail
    | _ => .fail
  | .de n i off=>match look n s.ents with
    | some (.deep _ t xs)=>match Nat.ble (off+k) t.size with
      | true => .ask (xs[i]?) fun e=>(.v agg (zbb k (zbb off (zh1 n i 0 (t.cells e))).2).1,s)
      | false => .fail
    | _ => .fail
  | _ => .fail
def zgL (s:St) (n i off:Nat) (c:List A1):Susp (AV × St) :=
  match look n (zau c s.ents) with
  | some (.arr false t xs) => .ask ((xs[i]?).bind fun e=>match patch off c (zbQ (t.cells e)) with
    | some l=>elemOf s.ents t l
    | none=>none) fun e'=>(.bot,⟨s.env,put n (.arr false t (xs.set i e')) (zau c s.ents)⟩)
  | _ => .fail
def zzW:List A1→Bool
  | []=>true
  | .d (.int _ _) :: r | .d (.bool _) :: r | .d (.str _) :: r=>zzW r
  | _=>false
def deepStore (s:St) (n i off:Nat) (c:List A1):Susp (AV × St) :=
  match look n s.ents,zdp s.ents c with
  | some (.deep false t xs),some K=>match Bool.and (Bool.and t.zfZ (zed K)) (Bool.or (Bool.not (Nat.beq (n % 64) 63)) (zzW c)) with
    | true => .ask ((xs[i]?).bind fun e=>match patch off c (zbQ (t.cells e)) with
      | some l=>elemOf s.ents t l
      | none=>none) fun e'=>(.bot,let s2:=(St.za1 K s).free (dcn n); ⟨s2.env,put n (.deep false t (xs.set i e')) s2.ents⟩)
    | false => .fail
  | _,_ => .fail
def storeOp (s:St) (a:A1) (c:List A1):Susp (AV × St) :=
  match a with
  | .lp n off=>match look n s.ents with
    | some (.box l)=>match patch off c l with
      | some l'=>ok .bot ⟨s.env,put n (.box l') s.ents⟩
      | none => .fail
    | _ => .fail
  | .oe n i 0=>match look n (zau c s.ents) with
    | some (.arr false t xs)=>match Nat.beq c.length t.size with
      | true=>match elemOf s.ents t c with
        | some e=>ok .bot ⟨s.env,put n (.arr false t (xs.set i e)) (zau c s.ents)⟩
        | none => .fail
      | false=>zgL s n i 0 c
    | _ => .fail
  | .oe n i off=>zgL s n i off c
  | .de n i off=>deepStore s n i off c
  | _ => .fail
def zan:Nat:=68719476736
def zim (es:List (Nat × Ent)) (t:ST) (a:A1):Option (List t.El):=match a.zvb with
  | true=>none
  | false=>a.as es (.sl t)
def appendOp (s:St) (d:Nat) (t:ST) (x y:A1):Susp (AV × St) :=
  match zim s.ents t y with
  | some ys=>match x with
    | .mt => .ask (zak (Nat.ble ys.length zan)) fun _=>(.one (.own (nm d)),s.push (nm d) (.arr false t ys))
    | .own n=>match look n s.ents with
      | some (.arr false u xs)=>match ST.cast u t xs with
        | some xs => .ask (zak (Nat.ble (xs.length+ys.length) zan)) fun _=>(.one (.own (nm d)),(s.free n).push (nm d) (.arr false t (xs++ys)))
        | none => .fail
      | _ => .fail
    | _ => .fail
  | none => .fail
def appendD (s:St) (d:Nat) (t:ST) (x:A1) (m:Nat):Susp (AV × St) :=
  match look m s.ents with
  | some (.deep false u ys)=>match ST.cast u t ys with
    | some ys=>match x with
      | .mt => .ask (zak (Nat.ble ys.length zan)) fun _=>(.one (.dp (nm d)),(s.free m).push (nm d) (.deep false t ys))
      | .dp n=>match Nat.beq n m,look n s.ents with
        | false,some (.deep false v xs)=>match ST.cast v t xs with
          | some xs => .ask (zak (Nat.ble (xs.length+ys.length) zan)) fun _=>(.one (.dp (nm d)),((s.free n).free m).push (nm d) (.deep false t (xs++ys)))
          | none => .fail
        | _,_ => .fail
      | _ => .fail
    | none => .fail
  | _ => .fail
def ST.deep:ST→Bool
  | .int | .byte | .str | .trat=>false
  | _=>true
def C1T.shares:C1T→Bool
  | .d (.sl _)=>true
  | _=>false
def zkg:List (Bool × List C1T)→Bool
  | []=>false
  | (_,l) :: r=>l.any C1T.shares || zkg r
def zfO:List (Nat × ET)→Bool
  | []=>false
  | (_,.box l) :: r=>l.any C1T.shares || zfO r
  | (_,.arr fr t) :: r=>fr || (t.deep || zfO r)
  | (_,.deep _) :: r=>zfO r
  | (_,.pool) :: r=>zfO r
def Sig.shares (g:Sig):Bool:=zkg g.res || zfO g.outs
def A1.ren (f:Nat→Nat):A1→A1
  | .lp n o => .lp (f n) o
  | .own n => .own (f n)
  | .win n l k => .win (f n) l k
  | .oe n i o => .oe (f n) i o
  | .dp n => .dp (f n)
  | .de n i o => .de (f n) i o
  | .dc n i o ys => .dc (f n) i o ys
  | a=>a
def zNQ (f:Nat→Nat):List A1→List A1
  | []=>[]
  | a :: r=>a.ren f :: zNQ f r
def Ent.ren (f:Nat→Nat):Ent→Ent
  | .box l => .box (zNQ f l)
  | e=>e
def zKo (f:Nat→Nat):List (Nat × Ent)→List (Nat × Ent)
  | []=>[]
  | (n,e) :: r=>(f n,e.ren f) :: zKo f r
def zy2 (f:Nat→Nat):List AV→List (Bool × List A1)
  | []=>[]
  | .v b l :: r=>(b,zNQ f l) :: zy2 f r
  | .tup _ :: r=>zy2 f r
def zby (src:List (Nat × Nat)) (d:Nat) (q:Nat):Nat:=match Nat.beq (q % 64) 63 with
  | true=>zaF src q
  | false=>nm d+q
def namesT:List (Nat × ET)→List Nat
  | []=>[]
  | (n,_) :: r=>n :: namesT r
def zj7 (src:List (Nat × Nat)) (outs:List Nat):List (Nat × ET)→List Nat
  | []=>[]
  | (n,_) :: r=>match Nat.beq (n % 64) 63,zgx n outs with
    | true,true=>zj7 src outs r
    | _,_=>zaF src n :: zj7 src outs r
def zmu:List C1T→List A1→List A1
  | .d _ :: r,a :: l=>a :: zmu r l
  | _ :: r,_ :: l=>zmu r l
  | _,_=>[]
def zvt:List (Bool × List C1T)→List AV→List A1
  | (_,l) :: r,.v _ m :: e=>zmu l m++zvt r e
  | _ :: r,_ :: e=>zvt r e
  | _,_=>[]
def zkr (es:List (Nat × Ent)) (src:List (Nat × Nat)):List (Nat × ET)→List A1
  | []=>[]
  | (n,.box l) :: r=>match look (zaF src n) es with
    | some (.box m)=>zmu l m++zkr es src r
    | _=>zkr es src r
  | _ :: r=>zkr es src r
def ET.mut:ET→Bool
  | .box _=>true
  | .arr fr _=>!fr
  | .deep _=>true
  | .pool=>false
def zot (n:Nat):List (Nat × ET)→Option ET
  | []=>none
  | (m,e) :: r=>match Nat.beq n m with
    | true=>some e
    | false=>zot n r
def pinIn (ins:List (Nat × ET)):List (Nat × ET)→Bool
  | []=>true
  | (n, e) :: r=>match Nat.beq (n % 64) 63 with
    | true=>match zot n ins,e with
      | some (.box _),.box _=>pinIn ins r
      | some (.arr false t),.arr false u=>match ST.eqb t u with
        | true=>pinIn ins r
        | false=>false
      | some (.deep t),.deep u=>match ST.eqb t u with
        | true=>pinIn ins r
        | false=>false
      | _,_=>false
    | false=>match Nat.blt n 63,e with
      | true,.arr true _=>false
      | true,.pool=>false
      | true,_=>pinIn ins r
      | false,_=>false
def zyD:List (Nat × ET)→Bool
  | []=>true
  | (_,e) :: r=>match e.mut with
    | true=>zyD r
    | false=>false
def zne (ok:List Nat):List C1T→Bool
  | []=>true
  | .sp _ :: _=>false
  | .fn _ _ :: _=>false
  | .own n :: r | .lp n _ :: r | .win n :: r | .dp n :: r=>match zgx n ok with
    | true=>zne ok r
    | false=>false
  | _ :: r=>zne ok r
def zFW (ok:List Nat):List (Bool × List C1T)→Bool
  | []=>true
  | (_,l) :: r=>match zne ok l with
    | true=>zFW ok r
    | false=>false
def zua (ok:List Nat):List (Nat × ET)→Bool
  | []=>true
  | (_,.box l) :: r=>match zne ok l with
    | true=>zua ok r
    | false=>false
  | _ :: r=>zua ok r
def Sig.fine (g:Sig):Bool:=Bool.and (Bool.not (zgx PN (namesT g.ins))) (Bool.not (zgx PN (namesT g.outs))) && (zed (namesT g.outs) && (pinIn g.ins g.outs && (zyD g.ins && (zFW (namesT g.outs) g.res && zua (namesT g.outs) g.outs))))
def zei (f:Nat→Nat):List (Nat × ET)→List Nat
  | []=>[]
  | (q,_) :: r=>match Nat.beq (q % 64) 63 with
    | true=>zei f r
    | false=>f q :: zei f r
def zh5 (src:List (Nat × Nat)):List (Nat × ET)→List Nat
  | []=>[]
  | (n,.deep _) :: r=>dcn (zaF src n) :: zh5 src r
  | _ :: r=>zh5 src r
def zc7 (s:St) (d:Nat) (g:Sig) (src:List (Nat × Nat)) (y:Tys g.zgF.ks):AV × St :=
  let f:=zby src d
  let o:=g.zgF.enc y
  let s2:=St.za1 ((zj7 src (namesT g.outs) g.ins++zei f g.outs)++zh5 src g.ins) s
  (zos g.tup (zy2 f o.env),⟨s2.env,zhW (zKo f o.ents) s2.ents⟩)
def zaJ (s:St) (g:Sig) (args:List AV):List (Nat × Ent) :=
  match g.shares with
  | true=>zau (zvt g.args args++zkr s.ents (g.tin.src ⟨args,s.ents⟩) g.ins) s.ents
  | false=>s.ents
def zwx:List Nat→List Nat→Bool
  | [],_=>true
  | a :: r,l=>match zgx a l with
    | true=>false
    | false=>zwx r l
def zpN (g:Sig) (src:List (Nat × Nat)) (d:Nat):Bool:=Bool.and (zed ((namesT g.outs).map (zby src d))) (zwx (zh5 src g.ins) ((namesT g.outs).map (zby src d)))
/-! ### The pool -/
def A1.sub (a:A1) (m:Nat) (dp:Bool) (b:A1):A1:=match a with
  | .own k=>match Nat.beq m k with
    | true=>match dp with
      | true => .bot
      | false=>b
    | false => .own k
  | .dp k=>match Nat.beq m k with
    | true=>match dp with
      | true=>b
      | false => .bot
    | false => .dp k
  | a=>a.kill m
def zND (m:Nat) (dp:Bool) (b:A1):List A1→List A1
  | []=>[]
  | a :: r=>a.sub m dp b :: zND m dp b r
def zP2 (m:Nat) (dp:Bool) (b:A1):List (Bool × List A1)→List (Bool × List A1)
  | []=>[]
  | (g,l) :: r=>(g,zND m dp b l) :: zP2 m dp b r
def AV.sub (m:Nat) (dp:Bool) (b:A1):AV→AV
  | .v g l => .v g (zND m dp b l)
  | .tup l => .tup (zP2 m dp b l)
def zqW:Nat→List Rt→List TRt
  | _,[]=>[]
  | n,r :: l=>⟨r.neg,⟨n,r.mag⟩,⟨n+1,r.den⟩⟩ :: zqW (n+2) l
def zpF (m:Nat) (p:AV × St):AV × St :=
  match look m p.2.ents,look PN p.2.ents with
  | some (.arr false .int xs),some (.pool n)=>(p.1.sub m false (.d (.tok ⟨n,xs⟩)),⟨(p.2.free m).env,put PN (.pool (n+1)) (p.2.free m).ents⟩)
  | some (.deep false .rat xs),some (.pool n)=>(p.1.sub m true (.own m),⟨(p.2.free m).env,put PN (.pool (n+2 * xs.length)) (put m (.arr false .trat (zqW n xs)) (p.2.free m).ents)⟩)
  | _,_=>p
def zt7:List Nat→AV × St→AV × St
  | [],p=>p
  | m :: r,p=>zt7 r (zpF m p)
def zld (d:Nat):List A1→List Nat
  | []=>[]
  | .dp m :: r=>match Nat.beq (m / 64) d,Nat.beq (m % 64) 63 with
    | true,false=>m :: zld d r
    | _,_=>zld d r
  | _ :: r=>zld d r
def zF8 (d:Nat):Bool × List A1→List Nat
  | (true,[.d (.bool _),.own m,.own k])=>match Bool.and (Nat.beq (m / 64) d) (Nat.beq (k / 64) d),Bool.or (Nat.beq (m % 64) 63) (Nat.beq (k % 64) 63) with
    | true,false=>[m,k]
    | _,_=>[]
  | (_,l)=>zld d l
def newP (d:Nat):List (Bool × List A1)→List Nat
  | []=>[]
  | p :: r=>zF8 d p++newP d r
def zt6 (d:Nat) (p:AV × St):AV × St :=
  match pooled p.2.ents with
  | true=>match p.1 with
    | .v g l=>zt7 (zF8 d (g,l)) p
    | .tup ps=>zt7 (newP d ps) p
  | false=>p
def Sig.zNx (g:Sig):Bool:=Bool.or g.tup (Nat.beq g.res.length 1)
def Sig.ex (g:Sig):List Nat:=match g.shares with
  | true=>[PN]
  | false=>[]
def zmo (s:St) (d:Nat) (c:Con) (args:List AV):Susp (AV × St) :=
  match c.sig.tin.zF1 c.sig.ex ⟨args,zaJ s c.sig args⟩,Bool.and (Bool.and c.sig.zNx c.sig.fine) (zpN c.sig (c.sig.tin.src ⟨args,zaJ s c.sig args⟩) d) with
  | some x,true => .ask (c.run x) fun y=>zt6 d (zc7 ⟨s.env,zaJ s c.sig args⟩ d c.sig (c.sig.tin.src ⟨args,zaJ s c.sig args⟩) (c.out y))
  | _,_ => .fail
def zkn:List AV→Option (Nat × Nat × Nat × List Int × List AV)
  | .v false [.dc n i off ys] :: r=>some (n,i,off,ys,r)
  | _=>none
def zzV:List AV→Bool
  | []=>true
  | .v false [.d (.int _ _)] :: r | .v false [.d (.bool _)] :: r | .v false [.d (.str _)] :: r=>zzV r
  | _=>false
def Sig.inner (g:Sig):Bool:=match g.args,g.ins,g.res,g.outs with
  | (false,[.own 63]) :: _,[(63,.arr false .int)],[(false,[.d (.int _)])],[(63,.arr false .int)]=>!g.tup
  | _,_,_,_=>false
def zcy (ys:List Int) (r:List AV):St:=⟨.v false [.own 63] :: r,[(63,.arr false .int ys)]⟩
def intOf:AV→Option Int
  | .v false [.d (.int .i64 n)]=>some n
  | _=>none
def innerCall (s:St) (d:Nat) (c:Con) (n i off:Nat) (ys:List Int) (r:List AV):Susp (AV × St) :=
  match look n s.ents,c.sig.inner,zzV r,c.sig.tin.read (zcy ys r),Bool.and c.sig.fine (zpN c.sig (c.sig.tin.src (zcy ys r)) d) with
  | some (.deep false t xs),true,true,some x,true => .ask ((c.run x).bind fun y=>match look 63 (zc7 (zcy ys r) d c.sig (c.sig.tin.src (zcy ys r)) (c.out y)).2.ents with
      | some (.arr false .int zs)=>(xs[i]?).bind fun e=>match patch off [.d (.sl .int zs)] (zbQ (t.cells e)) with
        | some l=>match elemOf [] t l with
          | some e'=>match intOf (zc7 (zcy ys r) d c.sig (c.sig.tin.src (zcy ys r)) (c.out y)).1 with
            | some m=>some (e',m)
            | none=>none
          | none=>none
        | none=>none
      | _=>none) fun p=>(.v false [.d (.int .i64 p.2)],let s2:=s.free (dcn n); ⟨s2.env,put n (.deep false t (xs.set i p.1)) s2.ents⟩)
  | _,_,_,_,_ => .fail
def Sig.znB (g:Sig):Bool:=match g.args,g.ins,g.res,g.outs with
  | (false,[.dp 63]) :: _,[(63,.deep .rat)],[(false,[.d (.int _)])],[(63,.deep .rat)]=>!g.tup
  | _,_,_,_=>false
def zbl (ys:List Rt) (r:List AV):St:=⟨.v false [.dp 63] :: r,[(63,.deep false .rat ys)]⟩
def innerCallR (s:St) (d:Nat) (c:Con) (n i:Nat) (r:List AV):Susp (AV × St) :=
  match look n s.ents,c.sig.znB,zzV r with
  | some (.deep false .rats xs),true,true => .ask ((xs[i]?).bind fun ys=>match c.sig.tin.read (zbl ys r),Bool.and c.sig.fine (zpN c.sig (c.sig.tin.src (zbl ys r)) d) with
      | some x,true=>(c.run x).bind fun y=>match look 63 (zc7 (zbl ys r) d c.sig (c.sig.tin.src (zbl ys r)) (c.out y)).2.ents with
        | some (.deep false .rat zs)=>match intOf (zc7 (zbl ys r) d c.sig (c.sig.tin.src (zbl ys r)) (c.out y)).1 with
          | some m=>some (zs,m)
          | none=>none
        | _=>none
      | _,_=>none) fun p=>(.v false [.d (.int .i64 p.2)],let s2:=s.free (dcn n); ⟨s2.env,put n (.deep false .rats (xs.set i p.1)) s2.ents⟩)
  | _,_,_ => .fail
/-! ### Functions as values -/
def cellOf (es:List (Nat × Ent)):A1→Option Cell
  | .d c=>some c
  | .own n=>match look n es with
    | some (.arr true t xs)=>some (.sl t xs)
    | _=>none
  | .dp n=>match look n es with
    | some (.deep true t xs)=>some (.sl t xs)
    | _=>none
  | .bot=>some .any
  | _=>none
def zkX (es:List (Nat × Ent)):List A1→Option (List Cell)
  | []=>some []
  | a :: r=>match cellOf es a,zkX es r with
    | some c,some l=>some (c :: l)
    | _,_=>none
def A1.shut (n:Nat) (cs:List Cell):A1→A1
  | .lp m off=>match Nat.beq n m with
    | true => .sp cs off
    | false => .lp m off
  | a=>a.kill n
def zpJ (n:Nat) (cs:List Cell):List A1→List A1
  | []=>[]
  | a :: r=>a.shut n cs :: zpJ n cs r
def zFR (n:Nat) (cs:List Cell):List (Bool × List A1)→List (Bool × List A1)
  | []=>[]
  | (b,l) :: r=>(b,zpJ n cs l) :: zFR n cs r
def AV.shut (n:Nat) (cs:List Cell):AV→AV
  | .v b l => .v b (zpJ n cs l)
  | .tup l => .tup (zFR n cs l)
def zq7 (n:Nat) (cs:List Cell):List AV→List AV
  | []=>[]
  | a :: r=>a.shut n cs :: zq7 n cs r
def Ent.shut (n:Nat) (cs:List Cell):Ent→Ent
  | .box l => .box (zpJ n cs l)
  | e=>e
def zFS (n:Nat) (cs:List Cell):List (Nat × Ent)→List (Nat × Ent)
  | []=>[]
  | (m,e) :: r=>(m,e.shut n cs) :: zFS n cs r
def St.shut (n:Nat) (cs:List Cell) (s:St):St:=⟨zq7 n cs s.env,zFS n cs (drop n s.ents)⟩
def seal1 (s:St):AV→Option (List Cell × St)
  | .v false [.sp cs 0]=>some (cs,s)
  | .v false [.lp n 0]=>match look n s.ents with
    | some (.box l)=>match zkX (zau l s.ents) l with
      | some cs=>some (cs,St.shut n cs ⟨s.env,zau l s.ents⟩)
      | none=>none
    | _=>none
  | _=>none
def sealCaps:St→List Operand→Option (List (List Cell) × St)
  | s,[]=>some ([],s)
  | s, x :: r=>match seal1 s (zaW s x) with
    | some (cs,s1)=>match sealCaps s1 r with
      | some (css,s2)=>some (cs :: css,s2)
      | none=>none
    | none=>none
def zj4:List (List Cell)→List AV
  | []=>[]
  | cs :: r => .v false [.sp cs 0] :: zj4 r
def bytesOf (xs:List Int):ByteArray:=⟨(xs.map fun n=>UInt8.ofNat n.toNat).toArray⟩
def opsL (s:St):List Operand→List AV
  | []=>[]
  | x :: r=>zaW s x :: opsL s r
def zNu:Nat:=1048576
def A1.zRn (es:List (Nat × Ent)):A1→Bool
  | .d (.tok _) | .d (.sl .trat _)=>true
  | .own n=>match look n es with
    | some (.arr _ .trat _)=>true
    | some (.arr false .rat _)=>true
    | _=>false
  | .win n _ _=>match look n es with
    | some (.arr _ .trat _)=>true
    | some (.arr false .rat _)=>true
    | _=>false
  | _=>false
def zAY (es:List (Nat × Ent)):List AV→Bool
  | []=>false
  | .v _ l :: r=>Bool.or (l.any (A1.zRn es)) (zAY es r)
  | _ :: r=>zAY es r
def conFor (s:St) (f:FuncId) (avs:List AV) (cons:List (FuncId × Con)):Option Con :=
  match Nat.blt f zNu with
  | true=>match zAY s.ents avs with
    | true=>match zhy (f+zNu) cons with
      | some c=>some c
      | none=>zhy f cons
    | false=>zhy f cons
  | false=>none
def ziL (t:ST):Option t.El:=elemOf [] t (t.kinds.map fun
  | .int k => .d (.int k 0)
  | .bool => .d (.bool false)
  | .str => .d (.str ByteArray.empty)
  | .sl _ => .mt
  | .nat | .tok | .any => .bot)
def zvd (t:TypeId) (lay:List (TypeId × TI)):Bool :=
  match zcm t lay with
  | some { scal:=some .bool,.. }=>true
  | _=>false
def zDO (t:TypeId) (lay:List (TypeId × TI)):Bool :=
  match zcm t lay with
  | some { scal:=some (.int _),.. }=>true
  | _=>false
def zpV (t:TypeId) (lay:List (TypeId × TI)):Bool :=
  match zcm t lay with
  | some { elem:=some .byte,.. }=>true
  | _=>false
def zpU (t:TypeId) (lay:List (TypeId × TI)):Bool :=
  match zcm t lay with
  | some { elem:=some e,deep:=true,.. }=>e.zfZ
  | _=>false
def zDQ (t:TypeId) (lay:List (TypeId × TI)):Bool :=
  match zcm t lay with
  | some { elem:=some .rats,deep:=true,.. }=>true
  | _=>false
def oneDeep (s:St):List (Nat × Operand)→Option (Nat × List Rt)
  | [(0, x)]=>match zaW s x with
    | .v false [.dp m]=>match look m s.ents with
      | some (.deep false .rat ys)=>match Nat.beq (m % 64) 63 with
        | true=>none
        | false=>some (m,ys)
      | _=>none
    | _=>none
  | _=>none
def evalOp (lay : List (TypeId × TI)) (cons:List (FuncId × Con)) (o:Oper) (s:St):Susp (AV × St) :=
  let d:=o.dst.getD 0
  match o.op with
  | .move x | .assign x=>ok (zaW s x) s
  | .pick c a b=>match zaW s c,zaW s a,zaW s b with
    | .v false [.d (.bool t)],.v false [.d (.bool x)],.v false [.d (.bool y)]=>ok (.one (.d (.bool (bif t then x else y)))) s
    | .v false [.d (.bool t)],x,y=>match t with
      | true=>ok x s
      | false=>ok y s
    | _,_,_ => .fail
  | .alloc t=>match zcm t lay with
    | some i=>ok (.one (.lp (nm d) 0)) (s.push (nm d) (.box i.zero))
    | none => .fail
  | .box t x=>match zcm t lay,(zaW s x).cells with
    | some i,some l=>match Nat.beq l.length i.zero.length with
      | true=>ok (.one (.lp (nm d) 0)) (s.push (nm d) (.box (zdF (nm d) l)))
      | false => .fail
    | _,_ => .fail
  | .build t ps=>match zcm t lay with
    | some i=>match i.strct,partsOf i.fields s ps.toList i.zero with
      | true,some l=>ok (.v true l) s
      | _,_ => .fail
    | none => .fail
  | .buildSlice t len ps=>match zcm t lay with
    | some { elem:=some e,.. }=>match len with
      | 0=>ok (.one .mt) s
      | _ => match zDQ t lay with
       | true=>match Nat.beq len 1,oneDeep s ps.toList with
        | true,some (m,ys)=>ok (.one (.dp (nm d))) ((s.free m).push (nm d) (.deep false .rats [ys]))
        | _,_ => .fail
       | false => match elemsOf s e 0 ps.toList with
        | some (es,cs)=>match Nat.beq es.length len with
          | true => match zpU t lay with
            | true=>match zdp s.ents cs with
              | some K=>match zed K with
                | true=>ok (.one (.dp (nm d))) (St.push (nm d) (.deep false e es) (St.za1 K s))
                | false => .fail
              | none => .fail
            | false=>ok (.one (.own (nm d))) (St.push (nm d) (.arr false e es) ⟨s.env,zau cs s.ents⟩)
          | false => .fail
        | none => .fail
    | _ => .fail
  | .load t x=>match zcm t lay,addrOf (zaW s x) with
    | some i,some a=>loadOp s i.agg i.zero.length a
    | _,_ => .fail
  | .store t x y=>match zcm t lay,addrOf (zaW s x),(zaW s y).cells with
    | some i,some a,some c=>match Nat.beq c.length i.zero.length with
      | true=>storeOp s a c
      | false => .fail
    | _,_,_ => .fail
  | .binOp op t x y _=>binOp s (zvd t lay) op (zaW s x) (zaW s y)
  | .unOp op _ x=>match op,zaW s x with
    | .not,.v false [.d (.bool b)]=>ok (.one (.d (.bool (!b)))) s
    | .neg,.v false [.d (.int k n)]=>ok (.one (.d (.int k (k.wrap (0 - n))))) s
    | _,_ => .fail
  | .convert u t x=>match zcm t lay,zaW s x,zDO u lay with
    | some { scal:=some (.int k),.. },.v false [.d (.int _ n)],true=>ok (.one (.d (.int k (k.wrap n)))) s
    | some { scal:=some .str,.. },.v false [a],false=>match zpV u lay,zim s.ents .byte a with
      | true,some xs=>ok (.one (.d (.str (bytesOf xs)))) s
      | _,_ => .fail
    | _,_,_ => .fail
  | .nilCheck x=>match addrOf (zaW s x) with
    | some (.lp n off)=>match look n s.ents with
      | some _=>ok (.one (.lp n off)) s
      | none => .fail
    | some (.sp cs off)=>ok (.one (.sp cs off)) s
    | some (.oe n i off)=>match look n s.ents with
      | some (.arr _ _ _)=>ok (.one (.oe n i off)) s
      | _ => .fail
    | some (.de n i off)=>match look n s.ents with
      | some (.deep _ _ _)=>ok (.one (.de n i off)) s
      | _ => .fail
    | _ => .fail
  | .makeFunc (.func f) first caps=>match first.toList,sealCaps s caps.toList with
    | [],some (css,s')=>ok (.one (.fn f css)) s'
    | _,_ => .fail
  | .makeSlice t l c=>match zcm t lay,zaW s l,zaW s c with
    | some { elem:=some e,.. },.v false [.d (.int .i64 n)],.v false [.d (.int .i64 m)]=>match ziL e with
      | some z=>match zpU t lay with
        | true => .ask (zak (decide (0≤n) && decide (n≤m) && decide (m≤(zan:Int)))) fun _ =>
          (.one (.dp (nm d)),s.push (nm d) (.deep false e (List.replicate n.toNat z)))
        | false => .ask (zak (decide (0≤n) && decide (n≤m) && decide (m≤(zan:Int)))) fun _ =>
          (.one (.own (nm d)),s.push (nm d) (.arr false e (List.replicate n.toNat z)))
      | none => .fail
    | _,_,_ => .fail
  | .slice t x lo hi none=>match zcm t lay,addrOf (zaW s x) with
    | some i,some a=>sliceOp s i a (lo.map (zaW s)) (hi.map (zaW s))
    | _,_ => .fail
  | .fieldAddr t x f=>match zcm t lay,addrOf (zaW s x) with
    | some i,some a=>match i.strct,i.fields[f]?,a with
      | true,some (off,_,_),.lp n o=>match look n s.ents with
        | some _=>ok (.one (.lp n (o+off))) s
        | none => .fail
      | true,some (off,_,_),.sp cs o=>ok (.one (.sp cs (o+off))) s
      | true,some (off,_,_),.oe n j o=>match look n s.ents with
        | some (.arr _ _ _)=>ok (.one (.oe n j (o+off))) s
        | _ => .fail
      | true,some (off,_,_),.de n j o=>match look n s.ents with
        | some (.deep _ _ _)=>ok (.one (.de n j (o+off))) s
        | _ => .fail
      | _,_,_ => .fail
    | _,_ => .fail
  | .field t x f=>match zcm t lay,zaW s x with
    | some i,.v true l=>match i.strct,i.fields[f]? with
      | true,some (off,k,agg)=>match window off k l,agg || Nat.beq k 1 with
        | some c,true=>ok (.v agg c) s
        | _,_ => .fail
      | _,_ => .fail
    | _,_ => .fail
  | .indexAddr t x j=>match zcm t lay,addrOf (zaW s x),zaW s j with
    | some { elem:=some e,.. },some a,.v false [.d (.int .i64 i)]=>indexOp s e a i
    | _,_,_ => .fail
  | .index t x j=>match zcm t lay,addrOf (zaW s x),zaW s j with
    | some { scal:=some .str,.. },some (.d (.str a)),.v false [.d (.int .i64 i)] => .ask (zK9 a i) fun b=>(.one (.d (.int .u8 b)),s)
    | _,_,_ => .fail
  | .extract x i=>match zaW s x with
    | .tup ps=>match ps[i]? with
      | some (b,l)=>ok (.v b l) s
      | none => .fail
    | _ => .fail
  | .call { callee := .builtin .len,args,argTypes }=>match args.toList,argTypes.toList with
    | [x],[t]=>match zcm t lay,addrOf (zaW s x) with
      | some i,some a=>lenOp s i a
      | _,_ => .fail
    | _,_ => .fail
  | .call { callee := .builtin .append,args,argTypes }=>match args.toList,argTypes.toList with
    | [x,y],[t,u]=>match Nat.beq t u,zcm t lay,addrOf (zaW s x),addrOf (zaW s y) with
      | true,some { elem:=some e,.. },some a,some b=>match b with
        | .dp m=>appendD s d e a m
        | b=>appendOp s d e a b
      | _,_,_,_ => .fail
    | _,_ => .fail
  | .call { callee := .builtin .max,args,.. }=>match args.toList with
    | [x,y]=>match zaW s x,zaW s y with
      | .v false [.d (.int k a)],.v false [.d (.int _ b)]=>ok (.one (.d (.int k (cond (decide (b > a)) b a)))) s
      | _,_ => .fail
    | _ => .fail
  | .call { callee := .value (.func f),args,.. }=>match conFor s f (opsL s args.toList) cons with
    | some c=>match zkn (opsL s args.toList),c.sig.inner with
      | some (n,i,off,ys,r),true=>innerCall s d c n i off ys r
      | some (n,i,_,_,r),false=>match c.sig.znB with
        | true=>innerCallR s d c n i r
        | false=>zmo s d c (opsL s args.toList)
      | none,_=>zmo s d c (opsL s args.toList)
    | none => .fail
  | .call { callee := .value (.tmp t),args,.. }=>match addrOf (s.get t) with
    | some (.fn f css)=>match conFor s f (opsL s args.toList) cons with
      | some c=>zmo s d c (opsL s args.toList++zj4 css)
      | none => .fail
    | _ => .fail
  | _ => .fail
inductive Ex where
  | normal
  | exit (id:Nat)
  | ret
structure LM where
  ρ:Type
  run:St→Option ρ
  out:ρ→Ex × St
  elim:{β:Type}→ρ→(Ex→St→Option β)→Option β
  elim_eq:∀ {β:Type} (r:ρ) (k:Ex→St→Option β),elim r k=k (out r).1 (out r).2
def zif (f:Nat):List (Nat × LM)→Option LM
  | []=>none
  | (g,c) :: r=>match Nat.beq f g with | true=>some c | false=>zif f r
structure Env where
  lay:List (TypeId × TI)
  cons:List (FuncId × Con)
  loops:List (Nat × LM)
  plans:List (Nat × List (Nat × List Nat))
def zFC (o:Oper):Bool :=
  match o.op with
  | .store .. => o.dst.isNone
  | .buildSlice _ 0 ps=>ps.toList.isEmpty
  | .buildSlice _ len _=>Nat.ble len 1000
  | _=>true
section
variable {β:Type}
def zyQ (E:Env) (o:Oper) (s:St) (k:St→Option β):Option β :=
  match zFC o with
  | true=>(evalOp E.lay E.cons o s).zvH fun r=>match o.dst with
    | some t=>k (r.2.set t r.1)
    | none=>k r.2
  | false=>none
def zkw (s:St) (t:Nat) (k:Bool→St→Option β):Option β :=
  match s.get t with
  | .v false [.d (.bool c)]=>cond c (k true (s.set t (.one (.d (.bool true))))) (k false (s.set t (.one (.d (.bool false)))))
  | _=>none
def zyZ (o:Oper) (s:St) (k:St→Option β):Option β :=
  match o.dst with
  | some u=>k (s.set u (.tup []))
  | none=>k s
def runOp (E:Env) (ops:List Oper) (o:Oper) (s:St) (k:St→Option β):Option β :=
  match o.guard with
  | none=>zyQ E o s k
  | some (j,p)=>match ops[j]? with
    | some { dst:=some t,.. }=>match s.get t with
      | .tup []=>zyZ o s k
      | _=>zkw s t fun c s=>match c,p with
        | true,true | false,false=>zyQ E o s k
        | _,_=>zyZ o s k
    | _=>none
def zBK (E:Env) (ops:List Oper):List Oper→St→(St→Option β)→Option β
  | [],s,k=>k s
  | o :: r,s,k=>runOp E ops o s fun s=>zBK E ops r s k
/-! ### Regions that draw their order -/
def A1.nms:A1→List Nat
  | .lp n _ | .own n | .win n _ _ | .oe n _ _ | .dp n | .de n _ _=>[n]
  | .dc n _ _ _=>[n,dcn n]
  | _=>[]
def zwy:List A1→List Nat
  | []=>[]
  | a :: r=>a.nms++zwy r
def zLp:List (Bool × List A1)→List Nat
  | []=>[]
  | p :: r=>zwy p.2++zLp r
def AV.nms:AV→List Nat
  | .v _ l=>zwy l
  | .tup ps=>zLp ps
def zgJ (o:Oper):Bool :=
  match o.op with
  | .move _ | .assign _ | .pick _ _ _ | .build _ _ | .load _ _ | .binOp _ _ _ _ _ | .unOp _ _ _ | .convert _ _ _ | .slice _ _ _ _ none
  | .fieldAddr _ _ _ | .field _ _ _ | .indexAddr _ _ _ | .index _ _ _ | .extract _ _ | .buildSlice _ 0 _ | .nilCheck _=>true
  | .call { callee := .builtin .len,.. }=>true
  | _=>false
def early (o:Oper):Bool :=
  match o.op with
  | .assign _=>false
  | _=>Bool.and (zFC o) (zgJ o)
def zoe (s:St):List Nat→List Nat
  | []=>[]
  | n :: r=>match look n s.ents with
    | some (.box l)=>zwy l++zoe s r
    | _=>zoe s r
def zF4 (s:St):List Operand→List Nat
  | []=>[]
  | x :: r=>(zaW s x).nms++(zoe s (zaW s x).nms++zF4 s r)
def readsOf (o:Oper):Bool:=match o.op with
  | .move _=>false
  | _=>true
def evens:List Nat→List Nat
  | []=>[]
  | n :: r=>2 * n :: evens r
def odds:List Nat→List Nat
  | []=>[]
  | n :: r=>(2 * n+1) :: odds r
def zv6 (s:St):List Operand→List Nat
  | []=>[]
  | x :: r=>(zaW s x).nms++zv6 s r
def zkj (s:St) (o:Oper):List Nat :=
  (match readsOf o with
  | true=>evens (zv6 s o.op.operands.toList)
  | false=>[])++odds (zF4 s o.op.operands.toList++match o.dst with
    | some d=>(s.get d).nms
    | none=>[])
def zPL (f:Nat→Bool):List Nat→Bool
  | []=>true
  | n :: r=>match f n with
    | true=>false
    | false=>zPL f r
def zkD (f:Nat→Bool):List (Nat × List Nat)→Bool
  | []=>true
  | (_,l) :: r=>match zPL f l with
    | true=>zkD f r
    | false=>false
def zsf (A:List Nat):List (Nat × List Nat)→List (Nat × List Nat)
  | []=>[]
  | (i,l) :: r=>match zgx i A with
    | true=>zsf A r
    | false=>(i,l) :: zsf A r
def takenNms (s:St):List Operand→List Nat
  | []=>[]
  | x :: r=>match (zaW s x).cells with
    | some c=>match zdp s.ents c with
      | some K=>K++takenNms s r
      | none=>takenNms s r
    | none=>takenNms s r
def zcz (s:St):List Operand→List Nat
  | []=>[]
  | x :: r=>match addrOf (zaW s x) with
    | some (.dp m)=>m :: dcn m :: zcz s r
    | some (.dc m _ _ _)=>m :: dcn m :: zcz s r
    | _=>zcz s r
def zB3 (s:St) (ps:List (Nat × Operand)):List Nat:=match oneDeep s ps with
  | some (m,_)=>[m,dcn m]
  | none=>[]
def touch (cons:List (FuncId × Con)) (s:St) (o:Oper) (n:Nat):Bool :=
  match o.op with
  | .store _ x y=>match addrOf (zaW s x) with
    | some (.lp m _)=>Nat.beq n m
    | some (.oe m _ _)=>Nat.beq n m
    | some (.de m _ _)=>Bool.or (Bool.or (Nat.beq n m) (Nat.beq n (dcn m))) (zgx n (takenNms s [y]))
    | _=>true
  | .call { callee := .builtin .append,args,.. }=>match args.toList with
    | x :: _=>match addrOf (zaW s x) with
      | some (.own m)=>Bool.or (Nat.beq (n / 64) (o.dst.getD 0)) (Nat.beq n m)
      | _=>Bool.or (Nat.beq (n / 64) (o.dst.getD 0)) (zgx n (zcz s args.toList))
    | []=>true
  | .call { callee := .value (.func f),args,.. }=>match conFor s f (opsL s args.toList) cons with
    | some c=>Bool.or (Bool.or (Nat.beq n PN) (Nat.beq (n / 64) (o.dst.getD 0))) (Bool.or (zgx n ((namesT c.sig.ins).map (zaF (c.sig.tin.src ⟨opsL s args.toList,zaJ s c.sig (opsL s args.toList)⟩))++zh5 (c.sig.tin.src ⟨opsL s args.toList,zaJ s c.sig (opsL s args.toList)⟩) c.sig.ins)) (zgx n (zcz s args.toList)))
    | none=>true
  | .call { callee := .value (.tmp t),args,.. }=>match addrOf (s.get t) with
    | some (.fn f css)=>match conFor s f (opsL s args.toList) cons with
      | some c=>Bool.or (Bool.or (Nat.beq n PN) (Nat.beq (n / 64) (o.dst.getD 0))) (zgx n ((namesT c.sig.ins).map (zaF (c.sig.tin.src ⟨opsL s args.toList++zj4 css,zaJ s c.sig (opsL s args.toList++zj4 css)⟩))++zh5 (c.sig.tin.src ⟨opsL s args.toList++zj4 css,zaJ s c.sig (opsL s args.toList++zj4 css)⟩) c.sig.ins))
      | none=>true
    | _=>true
  | .alloc _ | .box _ _ | .makeSlice _ _ _=>Nat.beq (n / 64) (o.dst.getD 0)
  | .buildSlice _ _ ps=>Bool.or (Bool.or (Nat.beq (n / 64) (o.dst.getD 0)) (zgx n (zB3 s ps.toList))) (zgx n (takenNms s (ps.toList.map (·.2))))
  | _=>true
def zec (cons:List (FuncId × Con)) (s:St) (o:Oper) (n:Nat):Bool :=
  match o.op with
  | .call { callee := .value (.func f),args,.. }=>match conFor s f (opsL s args.toList) cons with
    | some c=>Bool.or (Nat.beq (n / 64) (o.dst.getD 0)) (Bool.or (zgx n (zj7 (c.sig.tin.src ⟨opsL s args.toList,zaJ s c.sig (opsL s args.toList)⟩) (namesT c.sig.outs) c.sig.ins++zh5 (c.sig.tin.src ⟨opsL s args.toList,zaJ s c.sig (opsL s args.toList)⟩) c.sig.ins)) (zgx n (zcz s args.toList)))
    | none=>true
  | .store _ x _=>match addrOf (zaW s x) with
    | some (.oe _ _ _)=>false
    | _=>touch cons s o n
  | _=>touch cons s o n
def zv7 (cons:List (FuncId × Con)) (s:St) (o:Oper) (m:Nat):Bool:=match Nat.beq (m % 2) 0 with
  | true=>touch cons s o (m / 2)
  | false=>zec cons s o (m / 2)
def floLay (lay:List (TypeId × TI)):List Oper→Bool
  | []=>true
  | o :: r=>match o.op with
    | .alloc t=>match zcm t lay with
      | some _=>floLay lay r
      | none=>false
    | _=>floLay lay r
def runD {β:Type} (E:Env) (ops:List Oper):List (Nat × List Nat)→List (Nat × List Nat)→St→(St→Option β)→Option β
  | [],_,s,k=>k s
  | (i, A) :: σ,op,s,k=>match ops[i]? with
    | none=>none
    | some o=>match early o with
      | true=>runOp E ops o s fun s'=>runD E ops σ ((i,zkj s' o) :: op) s' k
      | false=>match zkD (zv7 E.cons s o) (zsf A op) with
        | true=>runOp E ops o s fun s'=>runD E ops σ (zsf A op) s' k
        | false=>none
def ziZ (i:Nat):List (Nat × List (Nat × List Nat))→Option (List (Nat × List Nat))
  | []=>none
  | (j,p) :: r=>match Nat.beq i j with | true=>some p | false=>ziZ i r
def keyOf:Code→Nat
  | .region id _ _=>id
  | .seq a b=>match keyOf a with
    | 0=>keyOf b
    | n+1=>n+1
  | .cond _ a _=>keyOf a
  | .block _ a=>keyOf a
  | .loop a=>keyOf a
  | _=>0
def evalC (E:Env):Code→St→(Ex→St→Option β)→Option β
  | .skip,s,k=>k .normal s
  | .region _ ops false,s,k=>zBK E ops.toList ops.toList s fun s=>k .normal s
  | .region id ops true,s,k=>match ziZ id E.plans,floLay E.lay ops.toList with
    | some p,true=>runD E ops.toList p [] s fun s=>k .normal s
    | _,_=>none
  | .seq a b,s,k=>evalC E a s fun e s=>match e with
    | .normal=>evalC E b s k
    | .exit i=>k (.exit i) s
    | .ret=>k .ret s
  | .cond (.tmp t) a b,s,k=>zkw s t fun c s=>match c with
    | true=>evalC E a s k
    | false=>evalC E b s k
  | .block id a,s,k=>evalC E a s fun e s=>match e with
    | .exit i=>match Nat.beq i id with
      | true=>k .normal s
      | false=>k (.exit i) s
    | .normal=>k .normal s
    | .ret=>k .ret s
  | .loop a,s,k=>match zif (keyOf a) E.loops with
    | some m=>(m.run s).bind fun r=>m.elim r k
    | none=>none
  | .exit i,s,k=>k (.exit i) s
  | .ret,s,k=>k .ret s
  | _,_,_=>none
end
/-! ### Functions -/
def resVal (lay:List (TypeId × TI)) (s:St):ResultVar→Option (Bool × List A1)
  | .tmp t=>match s.get t with
    | .v b l=>some (b,l)
    | _=>none
  | .cell t T=>match zcm T lay,s.get t with
    | some i,.v false [.lp n off]=>match look n s.ents with
      | some (.box l)=>match window off i.zero.length l with
        | some c=>some (i.agg,c)
        | none=>none
      | _=>none
    | _,_=>none
def resVals (lay:List (TypeId × TI)) (s:St):List ResultVar→Option (List (Bool × List A1))
  | []=>some []
  | r :: rs=>match resVal lay s r with
    | some p=>match resVals lay s rs with
      | some l=>some (p :: l)
      | none=>none
    | none=>none
inductive Pos where
  | slot (t j:Nat)
  | box (n j:Nat)
  /-- the same, and the array is deep -/
  | slotD (t j:Nat)
  | boxD (n j:Nat)
def zwh (j:Nat) (a:A1) (l:List A1):List A1:=l.set j a
def adoptS (t j n:Nat) (u:ST) (s:St):St :=
  match s.get t with
  | .v g l=>match l[j]? with
    | some .mt=>let s':=s.push n (.arr false u [])
      s'.set t (.v g (zwh j (.own n) (zdF n l)))
    | some (.win m 0 k)=>match Nat.beq (m % 64) 63,look m s.ents with
      | false,some (.arr false w xs)=>let s':=s.push m (.arr false w (xs.take k))
        s'.set t (.v g (zwh j (.own m) (zdF m l)))
      | _,_=>s
    | _=>s
  | _=>s
def adoptB (b j n:Nat) (u:ST) (s:St):St :=
  match look b s.ents with
  | some (.box l)=>match l[j]? with
    | some .mt=>match Nat.beq n b with
      | true=>s
      | false=>let s':=s.push n (.arr false u [])
        ⟨s'.env,put b (.box (zwh j (.own n) (zdF n l))) s'.ents⟩
    | _=>s
  | _=>s
def adoptSD (t j n:Nat) (u:ST) (s:St):St :=
  match s.get t with
  | .v g l=>match l[j]? with
    | some .mt=>let s':=s.push n (.deep false u [])
      s'.set t (.v g (zwh j (.dp n) (zdF n l)))
    | _=>s
  | _=>s
def adoptBD (b j n:Nat) (u:ST) (s:St):St :=
  match look b s.ents with
  | some (.box l)=>match l[j]? with
    | some .mt=>match Nat.beq n b with
      | true=>s
      | false=>let s':=s.push n (.deep false u [])
        ⟨s'.env,put b (.box (zwh j (.dp n) (zdF n l))) s'.ents⟩
    | _=>s
  | _=>s
def adopt1 (p:Pos) (n:Nat) (u:ST) (s:St):St :=
  match Nat.beq (n % 64) 63 with
  | true=>s
  | false=>match p with
    | .slot t j=>adoptS t j n u s
    | .box b j=>adoptB b j n u s
    | .slotD t j=>match u.znX with
      | true=>adoptSD t j n u s
      | false=>s
    | .boxD b j=>match u.znX with
      | true=>adoptBD b j n u s
      | false=>s
def zj9:List (Pos × Nat × ST)→St→St
  | [],s=>s
  | (p,n,u) :: r,s=>zj9 r (adopt1 p n u s)
def zrh:Nat→List (Nat × ET)→List (Bool × List C1T)→List (Pos × Nat × ST)
  | _,_,[]=>[]
  | i,es,(_,l) :: r=>ownPosL i 0 es l++zrh (i+1) es r
where
  ownPosL (i j:Nat) (es:List (Nat × ET)):List C1T→List (Pos × Nat × ST)
    | []=>[]
    | .own n :: l=>match es.find? fun p=>Nat.beq p.1 n with
      | some (_,.arr _ t)=>(.slot i j,nm (1000000+i)+j % 63,t) :: ownPosL i (j+1) es l
      | _=>ownPosL i (j+1) es l
    | .dp n :: l=>match es.find? fun p=>Nat.beq p.1 n with
      | some (_,.deep t)=>(.slotD i j,nm (1000000+i)+j % 63,t) :: ownPosL i (j+1) es l
      | _=>ownPosL i (j+1) es l
    | _ :: l=>ownPosL i (j+1) es l
def zk3:List (Bool × List A1)→List AV
  | []=>[]
  | (b,l) :: r => .v b l :: zk3 r
def leaf (lay:List (TypeId × TI)) (rs:List ResultVar) (sg:Sig):Ex→St→Option (Tys sg.zgF.ks)
  | .exit _,_=>none
  | _,s=>match resVals lay s rs with
    | some ps=>sg.zgF.zBU (zj9 (zrh 0 sg.outs sg.res) ⟨zk3 ps,s.ents⟩)
    | none=>none
def runF {ρ:Type} (E:Env) (fn:Func) (sg:Sig) (dec:Tys sg.zgF.ks→ρ) (x:Tys sg.tin.ks):Option ρ :=
  match fn.body with
  | some c=>let s:=sg.tin.enc x
    evalC E c ⟨s.env++List.replicate (fn.ntmps - s.env.length) AV.bot,s.ents⟩ fun e s=>match leaf E.lay fn.results.toList sg e s with
    | some y=>some (dec y)
    | none=>none
  | none=>none
/-! ### Functions with a pool of their own -/
def zEo:List C1T→List A1→List Nat
  | .dp _ :: r,.own m :: l=>m :: zEo r l
  | _ :: r,_ :: l=>zEo r l
  | _,_=>[]
def zkV:List (Bool × List C1T)→List (Bool × List A1)→List Nat
  | (_,k) :: r,(_,l) :: q=>zEo k l++zkV r q
  | _,_=>[]
def ziW:List TRt→List Nat
  | []=>[]
  | r :: l=>r.mag.id :: r.den.id :: ziW l
def zli (es:List (Nat × Ent)):List Nat→List Nat
  | []=>[]
  | m :: r=>match look m es with
    | some (.arr false .trat xs)=>ziW xs++zli es r
    | _=>zli es r
def zqT (es:List (Nat × Ent)):List Nat→Bool
  | []=>true
  | m :: r=>match look m es,Nat.beq (m % 64) 63 with
    | some (.arr false .trat _),false=>zqT es r
    | _,_=>false
def zFi (ns:List Nat):List Nat→Bool
  | []=>false
  | m :: r=>match zgx m ns with
    | true=>true
    | false=>zFi ns r
def A1.und (ns:List Nat) (a:A1):A1:=match a with
  | .own k=>match zgx k ns with
    | true => .dp k
    | false => .own k
  | a=>match zFi ns a.nms with
    | true => .bot
    | false=>a
def zKX (ns:List Nat):List A1→List A1
  | []=>[]
  | a :: r=>a.und ns :: zKX ns r
def zQ8 (ns:List Nat):List (Bool × List A1)→List (Bool × List A1)
  | []=>[]
  | (b,l) :: r=>(b,zKX ns l) :: zQ8 ns r
def AV.und (ns:List Nat):AV→AV
  | .v b l => .v b (zKX ns l)
  | .tup l => .tup (zQ8 ns l)
def zqX (ns:List Nat):List AV→List AV
  | []=>[]
  | a :: r=>a.und ns :: zqX ns r
def Ent.und (ns:List Nat) (k:Nat) (e:Ent):Ent:=match e with
  | .arr false .trat xs=>match zgx k ns with
    | true => .deep false .rat (xs.map TRt.er)
    | false => .arr false .trat xs
  | .box l => .box (zKX ns l)
  | e=>e
def zoo (ns:List Nat):List (Nat × Ent)→List (Nat × Ent)
  | []=>[]
  | (k,e) :: r=>match Nat.beq k PN with
    | true=>zoo ns r
    | false=>(k,e.und ns k) :: zoo ns r
def zGt (lay:List (TypeId × TI)) (rs:List ResultVar):Ex→St→Option (List (Bool × List A1))
  | .exit _,_=>none
  | _,s=>resVals lay s rs
def zDK (sg:Sig) (ps:List (Bool × List A1)) (es:List (Nat × Ent)):Option (Tys sg.zgF.ks) :=
  match zed (zkV sg.res ps),zqT es (zkV sg.res ps),pooled es with
  | true,true,true=>sg.zgF.zBU (zj9 (zrh 0 sg.outs sg.res) ⟨zqX (zkV sg.res ps) (zk3 ps),zoo (zkV sg.res ps) es⟩)
  | _,_,_=>none
def runFT {ρ:Type} (E:Env) (fn:Func) (sg:Sig) (dec:Tys sg.zgF.ks→ρ) (x:Tys sg.tin.ks):Option ρ :=
  match fn.body with
  | some c=>let s:=sg.tin.enc x
    evalC E c ⟨s.env++List.replicate (fn.ntmps - s.env.length) AV.bot,put PN (.pool 0) s.ents⟩ fun e s=>match zGt E.lay fn.results.toList e s with
      | some ps=>(zak (zed (zli s.ents (zkV sg.res ps)))).bind fun _=>match zDK sg ps s.ents with
        | some y=>some (dec y)
        | none=>none
      | none=>none
  | none=>none
end Go.Di
open Go.RowKit (Below)
namespace Go.Di
def flat (t:ST) (xs:List t.El):List Cell:=xs.flatMap t.cells
def encI (xs:List Int):Value := .tuple (xs.map fun n=>Value.int .i64 n).toArray
theorem zGY {xs ys:List Int} (h:encI xs=encI ys):xs=ys:=by
  simp only[encI,Value.tuple.injEq] at h
  have h':=congrArg Array.toList h
  simp only at h'
  induction xs generalizing ys with
  | nil=>cases ys with
    | nil=>rfl
    | cons y ys=>simp at h'
  | cons x xs ih=>cases ys with
    | nil=>simp at h'
    | cons y ys =>
      simp only[List.map_cons,List.cons.injEq,Value.int.injEq,true_and] at h'
      rw[h'.1,ih (congrArg List.toArray h'.2) h'.2]
inductive Rd (w:World) (π:Nat→Option Value):Value→Cell→List Nat→Prop
  | int (k:IntKind) (n:Int):Rd w π (.int k n) (.int k n) []
  | bool (b:Bool):Rd w π (.bool b) (.bool b) []
  | str (s:ByteArray):Rd w π (.string s) (.str s) []
  | any (v:Value) (h:v.oneCell'=true):Rd w π v .any []
  | tok (a:Option Addr) (len cap:Nat) (k:Tk) (h1:π (2 * k.id)=some (.slice a len cap)) (h2:π (2 * k.id+1)=some (encI k.xs)):Rd w π (.slice a len cap) (.tok k) []
  | emp (a:Option Addr) (t:ST) (cap:Nat):Rd w π (.slice a 0 cap) (.sl t []) []
  | sl (b off len cap:Nat) (t:ST) (xs:List t.El) (vals:Nat→Value) (fp:Nat→List Nat) (hl:len=xs.length) (hc:len≤cap)
      (h1:∀ i c,(flat t xs)[i]? = some c→w.cell? ⟨b,off+i,none⟩=some (vals i))
      (h2:∀ i c,(flat t xs)[i]? = some c→Rd w π (vals i) c (fp i)) :
      Rd w π (.slice (some ⟨b,off,none⟩) len cap) (.sl t xs) (b :: (List.range (flat t xs).length).flatMap fp)
theorem zao (t:ST) (x:t.El):(t.cells x).length=t.size:=by cases t<;>rfl
theorem size_pos (t:ST):0 < t.size:=by cases t<;>decide
theorem zaD (t:ST) (xs:List t.El):(flat t xs).length=xs.length * t.size:=by
  induction xs with
  | nil=>simp[flat]
  | cons x r ih=>simp only[flat,List.flatMap_cons,List.length_append,zao,List.length_cons,Nat.add_mul] at *; omega
theorem flat_get (t:ST):∀ (xs:List t.El) (i:Nat) (x:t.El) (j:Nat),xs[i]? = some x→j < t.size→(flat t xs)[i * t.size+j]? = (t.cells x)[j]?
  | y :: r,0,x,j,h,hj=>by
    simp at h; subst h
    simp only[flat,List.flatMap_cons,Nat.zero_mul,Nat.zero_add]
    exact List.getElem?_append_left (by rw[zao]; exact hj)
  | y :: r,i+1,x,j,h,hj=>by
    simp at h
    simp only[flat,List.flatMap_cons]
    rw[List.getElem?_append_right (by rw[zao,Nat.add_mul]; omega),zao]
    have:=flat_get t r i x j h hj
    simp only[flat] at this
    rw[← this]; congr 1; rw[Nat.add_mul]; omega
theorem Rd.ext {w w':World} {π:Nat→Option Value} {v:Value} {c:Cell} {fp:List Nat} (h:Rd w π v c fp) (he:∀ b∈fp,w'.heap[b]? = w.heap[b]?):Rd w' π v c fp:=by
  induction h with
  | int k n=>exact .int k n
  | bool b=>exact .bool b
  | str s=>exact .str s
  | any v h=>exact .any v h
  | tok a l c k h1 h2=>exact .tok a l c k h1 h2
  | emp a t cap=>exact .emp a t cap
  | sl b off len cap t xs vals fp hl hc h1 h2 ih =>
    refine .sl b off len cap t xs vals fp hl hc (fun i c hi=>?_) (fun i c hi=>ih i c hi fun b' hb'=>he b' ?_)
    · rw[World.cell?_of_block (w:=w) (he b (List.mem_cons_self ..))]; exact h1 i c hi
    · refine List.mem_cons_of_mem _ (List.mem_flatMap.2 ⟨i,List.mem_range.2 ?_,hb'⟩)
      exact (List.getElem?_eq_some_iff.1 hi).1
theorem Rd.more {w:World} {π π':Nat→Option Value} {v:Value} {c:Cell} {fp:List Nat} (h:Rd w π v c fp) (he:∀ i u,π i=some u→π' i=some u):Rd w π' v c fp:=by
  induction h with
  | int k n=>exact .int k n
  | bool b=>exact .bool b
  | str s=>exact .str s
  | any v h=>exact .any v h
  | tok a l c k h1 h2=>exact .tok a l c k (he _ _ h1) (he _ _ h2)
  | emp a t cap=>exact .emp a t cap
  | sl b off len cap t xs vals fp hl hc h1 h2 ih=>exact .sl b off len cap t xs vals fp hl hc h1 ih
theorem Rd.zhm {w:World} {π:Nat→Option Value} {v:Value} {c:Cell} {fp:List Nat} (h:Rd w π v c fp):v.oneCell'=true:=by cases h<;>first | rfl | assumption
def zmw:Value→List Nat
  | .pointer (some a)=>[a.block]
  | .slice (some a) _ (_+1)=>[a.block]
  | _=>[]
def zaE:Value→List Nat
  | .pointer (some a)=>[a.block]
  | .slice (some a) _ (_+1)=>[a.block]
  | .tuple vs=>vs.toList.flatMap zmw
  | _=>[]
def zaq:Value→List Nat
  | .pointer (some a)=>[a.block]
  | .slice (some a) _ (_+1)=>[a.block]
  | .tuple vs=>vs.toList.flatMap zaE
  | _=>[]
def Ent.mut:Ent→Bool
  | .box _=>true
  | .arr fr _ _=>!fr
  | .deep fr _ _=>!fr
  | .pool _=>true
def Top (lk:Nat→Option Ent) (β:Nat→Option Value) (b:Nat):Prop:=∃ n e v,lk n=some e∧e.mut=true∧β n=some v∧b∈zaq v
structure Bs where
  /-- blocks that stay as they are -/
  keep:Nat→Prop
  w0:World
  old:Nat→Prop
  /-- names that stand for one value all along -/
  pin:Nat→Option Value
  /-- variables of the package's own, and what is known of their cells -/
  fix:Nat→Option (Array Value→Prop)
  /-- where these variables may lie -/
  sure:Nat→Prop
  /-- the pool of the caller, if it stays as it is -/
  tk:Option (Nat→Option Value)
structure Kp (keep:Nat→Prop) (w w':World):Prop where
  os:w'.os=w.os
  tape:w'.tape=w.tape
  output:w'.output=w.output
  size:w.heap.size≤w'.heap.size
  block:∀ k,keep k→w'.heap[k]? = w.heap[k]?
theorem Kp.refl (keep:Nat→Prop) (w:World):Kp keep w w:=⟨rfl,rfl,rfl,Nat.le_refl _,fun _ _=>rfl⟩
theorem Kp.trans {keep:Nat→Prop} {a b c:World} (h:Kp keep a b) (k:Kp keep b c):Kp keep a c :=
  ⟨k.os.trans h.os,k.tape.trans h.tape,k.output.trans h.output,Nat.le_trans h.size k.size,fun i hi=>(k.block i hi).trans (h.block i hi)⟩
theorem Kp.mono {keep keep':Nat→Prop} {w w':World} (h:Kp keep w w') (hk:∀ b,keep' b→keep b):Kp keep' w w':=⟨h.os,h.tape,h.output,h.size,fun k hb=>h.block k (hk k hb)⟩
theorem Kp.of {B:Nat} {w w':World} (h:Below B w w') {keep:Nat→Prop} (hk:∀ b,keep b→b < B):Kp keep w w':=⟨h.os,h.tape,h.output,h.size,fun k hb=>h.block k (hk k hb)⟩
structure Cx where
  w:World
  lk:Nat→Option Ent
  β:Nat→Option Value
  av:Nat→Prop
def zd1 (β:Nat→Option Value) (i:Nat):Option Value:=match β PN with
  | some (.tuple vs)=>vs[i]?
  | _=>none
def Cx.fine (x:Cx) (fp:List Nat):Prop:=∀ b∈fp,b < x.w.heap.size∧¬ Top x.lk x.β b∧x.av b
def Cx.rd (x:Cx) (v:Value) (c:Cell):Prop:=∃ fp,Rd x.w (zd1 x.β) v c fp∧x.fine fp
def Cx.za7 (x:Cx) (b off:Nat) (cs:List Cell):Prop :=
  (cs=[]∨x.fine [b])∧∀ i c,cs[i]? = some c→∃ v,x.w.cell? ⟨b,off+i,none⟩=some v∧x.rd v c
def A1Ok (x:Cx):A1→Value→Prop
  | .bot,_=>True
  | .d c,v=>x.rd v c
  | .mt,v=>∃ a,v = .slice a 0 0
  | .lp n off,v=>(x.lk n).isSome→∃ b,x.β n=some (.pointer (some ⟨b,0,none⟩))∧v = .pointer (some ⟨b,off,none⟩)
  | .own n,v=>∀ fr t xs,x.lk n=some (.arr fr t xs)→x.β n=some v
  | .win n lo len,v=>∀ fr t xs,x.lk n=some (.arr fr t xs)→lo+len≤xs.length ∧
      ∃ a m cap,x.β n=some (.slice a m cap)∧lo≤cap∧v = .slice (if cap=lo then a else a.map (·.add (lo * t.size))) len (cap - lo)
  | .sp cs off,v=>∃ b o,v = .pointer (some ⟨b,o+off,none⟩)∧x.za7 b o cs
  | .oe n i off,v=>∀ fr t xs,x.lk n=some (.arr fr t xs)→i < xs.length ∧
      ∃ g o m cap,x.β n=some (.slice (some ⟨g,o,none⟩) m cap)∧v = .pointer (some ⟨g,o+i * t.size+off,none⟩)
  | .dp n,v=>(x.lk n).isSome→∃ vs,x.β n=some (.tuple vs)∧vs[0]? = some v
  | .de n i off,v=>∀ fr t xs,x.lk n=some (.deep fr t xs)→i < xs.length ∧
      ∃ vs g o m cap,x.β n=some (.tuple vs)∧vs[0]? = some (.slice (some ⟨g,o,none⟩) m cap)∧v = .pointer (some ⟨g,o+i * t.size+off,none⟩)
  | .dc n i off ys,v=>∀ fr t xs,x.lk n=some (.deep fr t xs)→off < t.size∧∃ e,xs[i]? = some e ∧
      ((t ≠ .rats∧(t.cells e)[off]? = some (.sl .int ys)∧∃ vs,x.β n=some (.tuple vs)∧vs[1+i * t.size+off]? = some v) ∨
        (t = .rats∧∃ vs ws,x.β n=some (.tuple vs)∧vs[1+i * t.size+off]? = some (.tuple ws)∧ws[0]? = some v))
  | .fn f caps,v=>∃ vs:Array Value,v = .func (.func f) #[] vs∧vs.size=caps.length∧∀ (i:Nat) (cs:List Cell),caps[i]? = some cs→∃ b o,vs[i]? = some (.pointer (some ⟨b,o,none⟩))∧x.za7 b o cs
def zck (x:Cx):List A1→List Value→Prop
  | [],[]=>True
  | a :: l,v :: vs=>A1Ok x a v∧v.oneCell'=true∧zck x l vs
  | _,_=>False
def VOk (x:Cx) (agg:Bool) (l:List A1) (v:Value):Prop :=
  match agg with
  | true=>∃ vs,v = .agg vs∧zck x l vs.toList
  | false=>∃ a,l=[a]∧A1Ok x a v∧(a = .bot∨v.oneCell'=true)
def zk7 (x:Cx):List (Bool × List A1)→List Value→Prop
  | [],[]=>True
  | p :: l,v :: vs=>VOk x p.1 p.2 v∧zk7 x l vs
  | _,_=>False
def zaR (x:Cx):AV→Value→Prop
  | .v agg l,v=>VOk x agg l v
  | .tup ps,v=>∃ vs,v = .tuple vs∧zk7 x ps vs.toList
def OwnI (x:Cx) (xs:List Int) (v:Value):Prop:=(xs=[]∧∃ a,v = .slice a 0 0) ∨
      ∃ (g cap:Nat) (cur:Array Value) (T:TypeId),v = .slice (some ⟨g,0,none⟩) xs.length cap∧0 < cap∧xs.length≤cap∧cap≤maxLen ∧
        x.w.heap[g]? = some (.cells cur T (0,0))∧cur.size=cap * ST.size .int∧∀ (i:Nat) (c:Cell),(flat .int xs)[i]? = some c→∃ u,cur[i]? = some u∧x.rd u c
def zgg (x:Cx) (u:Value):Cell→Value→Prop
  | .sl .int ys,b=>b=u∧OwnI x ys u
  | .sl _ _,_=>False
  | .tok _,_=>False
  | .any,_=>False
  | c,b=>b = .bool false∧x.rd u c
def DeepTop0 (x:Cx) (xs:List ST.rat.El) (s:Value) (us:List Value):Prop:=(xs=[]∧∃ a,s = .slice a 0 0) ∨
      ∃ (g cap:Nat) (cur:Array Value) (T:TypeId),s = .slice (some ⟨g,0,none⟩) xs.length cap∧0 < cap∧xs.length≤cap∧cap≤maxLen ∧
        x.w.heap[g]? = some (.cells cur T (0,0))∧cur.size=cap * ST.size .rat∧∀ (i:Nat) (c:Cell),(flat .rat xs)[i]? = some c→∃ u b,cur[i]? = some u∧us[i]? = some b∧zgg x u c b
def zcB (x:Cx) (u:Value):Cell→Value→Prop
  | .sl .int ys,b=>b=u∧OwnI x ys u
  | .sl .rat rs,b=>∃ us:List Value,b = .tuple (u :: us).toArray∧us.length=rs.length * ST.size .rat∧DeepTop0 x rs u us
  | .sl _ _,_=>False
  | .tok _,_=>False
  | .any,_=>False
  | c,b=>b = .bool false∧x.rd u c
def DeepTop (x:Cx) (t:ST) (xs:List t.El) (s:Value) (us:List Value):Prop:=(xs=[]∧∃ a,s = .slice a 0 0) ∨
      ∃ (g cap:Nat) (cur:Array Value) (T:TypeId),s = .slice (some ⟨g,0,none⟩) xs.length cap∧0 < cap∧xs.length≤cap∧cap≤maxLen ∧
        x.w.heap[g]? = some (.cells cur T (0,0))∧cur.size=cap * t.size∧∀ (i:Nat) (c:Cell),(flat t xs)[i]? = some c→∃ u b,cur[i]? = some u∧us[i]? = some b∧zcB x u c b
def DeepOk (x:Cx) (t:ST) (xs:List t.El) (v:Value):Prop :=
  ∃ (s:Value) (us:List Value),v = .tuple (s :: us).toArray∧us.length=xs.length * t.size∧((s :: us).flatMap zaE).Nodup∧t.znX=true∧DeepTop x t xs s us
def DeepF (x:Cx) (t:ST) (xs:List t.El) (v:Value):Prop :=
  ∃ (s : Value) (us:List Value),v = .tuple (s :: us).toArray∧t.znX=true∧((xs=[]∧∃ a,s = .slice a 0 0) ∨
    ∃ g cap,s = .slice (some ⟨g,0,none⟩) xs.length cap∧xs.length≤cap∧x.fine [g] ∧
      ∀ (i:Nat) (c:Cell),(flat t xs)[i]? = some c→∃ u b,x.w.cell? ⟨g,0+i,none⟩=some u∧us[i]? = some b∧x.rd u c∧(∀ ys,c = .sl .int ys→b=u)∧∀ rs,c = .sl .rat rs→∃ ws,b = .tuple ws∧ws[0]? = some u)
def zir (x:Cx) (n:Nat) (v:Value):Prop :=
  ∃ us:List Value,v = .tuple us.toArray∧us.length=2 * n∧(us.flatMap zaE).Nodup∧∀ i,i < n→∃ u ys,us[2 * i]? = some u∧us[2 * i+1]? = some (encI ys)∧OwnI x ys u
def EntOk (x:Cx):Ent→Value→Prop
  | .pool n,v=>zir x n v
  | .box l,v=>∃ (b:Nat) (vs:Array Value) (T:TypeId),v = .pointer (some ⟨b,0,none⟩)∧x.w.heap[b]? = some (.cells vs T (0,0))∧zck x l vs.toList
  | .arr true t xs,v=>x.rd v (.sl t xs)
  | .arr false t xs,v=>(xs=[]∧∃ a,v = .slice a 0 0) ∨
      ∃ (g cap:Nat) (cur:Array Value) (T:TypeId),v = .slice (some ⟨g,0,none⟩) xs.length cap∧0 < cap∧xs.length≤cap∧cap≤maxLen ∧
        x.w.heap[g]? = some (.cells cur T (0,0))∧cur.size=cap * t.size∧∀ (i:Nat) (c:Cell),(flat t xs)[i]? = some c→∃ u,cur[i]? = some u∧x.rd u c
  | .deep false t xs,v=>DeepOk x t xs v
  | .deep true t xs,v=>DeepF x t xs v
def cx (C:Bs) (s:St) (β:Nat→Option Value) (w:World):Cx:=⟨w,fun n=>look n s.ents,β,fun b=>¬ C.keep b∨C.old b⟩
def zRf (C:Bs):Prop:=∀ b p,C.fix b=some p→(C.sure b∧C.keep b)∧∃ cs t fr,C.w0.heap[b]? = some (.cells cs t fr)∧p cs
structure Gam (C:Bs) (s:St) (X:Nat→Prop) (β:Nat→Option Value) (tm:Array Value) (w:World):Prop where
  len:s.env.length=tm.size
  env:∀ t av,¬ X t→s.env[t]? = some av→zaR (cx C s β w) av (tm.getD t undef)
  ents:∀ n e v,look n s.ents=some e→β n=some v→EntOk (cx C s β w) e v
  uniq:∀ n m e f u v b,look n s.ents=some e→look m s.ents=some f→e.mut=true→f.mut=true→β n=some u→β m=some v→b∈zaq u→b∈zaq v→n=m
  fresh:∀ b,Top (fun n=>look n s.ents) β b→¬ C.keep b∧b < w.heap.size
  kb:∀ b,C.keep b→b < w.heap.size
  below:Kp C.keep C.w0 w
  pin:∀ n v,C.pin n=some v→(look n s.ents).isSome→β n=some v
  np:∀ n,(C.pin n).isSome→n % 64=63∧n≠PN
  bs:∀ n e,look n s.ents=some e→(β n).isSome
  fx:zRf C
  tk:∀ π,C.tk=some π→zd1 β=π∧look PN s.ents=none
/-! ### Passing from one description to another -/
structure Le (x y:Cx) (ok:Nat→Prop):Prop where
  hav:∀ b,x.av b→y.av b
  heap:∀ b,b < x.w.heap.size→¬ Top x.lk x.β b→y.w.heap[b]? = x.w.heap[b]?
  size:x.w.heap.size≤y.w.heap.size
  top:∀ b,b < x.w.heap.size→x.av b→Top y.lk y.β b→Top x.lk x.β b
  /-- what is said of the name n -/
  look:∀ n,ok n→y.lk n=none∨(y.β n=x.β n∧(y.lk n=x.lk n ∨
    (∃ l l',x.lk n=some (.box l)∧y.lk n=some (.box l')) ∨
    (∃ fr fr' t xs xs',x.lk n=some (.arr fr t xs)∧y.lk n=some (.arr fr' t xs')∧xs'.length=xs.length) ∨
    ∃ fr fr' t xs,x.lk n=some (.deep fr t xs)∧y.lk n=some (.deep fr' t xs))) ∨
    (∃ fr fr' t xs xs' vs vs',x.lk n=some (.deep fr t xs)∧y.lk n=some (.deep fr' t xs')∧xs'.length=xs.length∧x.β n=some (.tuple vs)∧y.β n=some (.tuple vs')∧vs'[0]? = vs[0]?) ∨
    ∃ a b vs vs',x.lk n=some (.pool a)∧y.lk n=some (.pool b)∧x.β n=some (.tuple vs)∧y.β n=some (.tuple vs')∧∀ (i:Nat) (v:Value),vs[i]? = some v→vs'[i]? = some v
  /-- what lies in the elements of the deep array n -/
  cont:∀ n,ok n→ok (dcn n)→∀ fr t xs,y.lk n=some (.deep fr t xs)→∃ fr',x.lk n=some (.deep fr' t xs)∧y.β n=x.β n
  /-- what is known of the pool -/
  tk:∀ i v,zd1 x.β i=some v→zd1 y.β i=some v
theorem Le.fine {x y:Cx} {ok} (h:Le x y ok) {fp:List Nat} (hf:x.fine fp):y.fine fp :=
  fun b hb=>⟨Nat.lt_of_lt_of_le (hf b hb).1 h.size,fun ht=>(hf b hb).2.1 (h.top b (hf b hb).1 (hf b hb).2.2 ht),h.hav b (hf b hb).2.2⟩
theorem Le.rd {x y:Cx} {ok} (h:Le x y ok) {v:Value} {c:Cell} (hr:x.rd v c):y.rd v c:=by
  obtain ⟨fp,h1,h2⟩:=hr
  exact ⟨fp,(h1.ext fun b hb=>h.heap b (h2 b hb).1 (h2 b hb).2.1).more h.tk,h.fine h2⟩
theorem Le.za7 {x y:Cx} {ok} (h:Le x y ok) {b off:Nat} {cs:List Cell} (hr:x.za7 b off cs):y.za7 b off cs:=by
  refine ⟨hr.1.imp id h.fine,fun i c hc=>?_⟩
  obtain ⟨v,hv,hd⟩:=hr.2 i c hc
  refine ⟨v,?_,h.rd hd⟩
  rcases hr.1 with h0 | h0
  · subst h0; cases hc
  · have:=h0 b (List.mem_cons_self ..)
    rw[World.cell?_of_block (w:=x.w) (h.heap b this.1 this.2.1)]; exact hv
def A1.refs (ok:Nat→Prop):A1→Prop
  | .lp n _ | .own n | .win n _ _ | .oe n _ _ | .dp n | .de n _ _=>ok n
  | .dc n _ _ _=>ok n∧ok (dcn n)
  | _=>True
theorem Le.a1 {x y:Cx} {ok:Nat→Prop} (h:Le x y ok) {a:A1} {v:Value} (hr:a.refs ok) (ha:A1Ok x a v):A1Ok y a v:=by
  cases a with
  | bot=>trivial
  | d c=>exact h.rd ha
  | mt=>exact ha
  | lp n off =>
    intro hs
    rcases h.look n hr with h0 | ⟨hb,h1⟩ | ⟨f1,f2,t,xs,xs',vs,vs',h1,h2,h3,h4,h5,h6⟩ | ⟨a,b,vs,vs',h1,h2,h4,h5,h6⟩
    · simp[h0] at hs
    · rw[hb]; refine ha ?_
      rcases h1 with h1 | ⟨l,l',h1,_⟩ | ⟨_,_,_,_,_,h1,_⟩ | ⟨_,_,_,_,h1,_⟩
      · rw[← h1]; exact hs
      · simp[h1]
      · simp[h1]
      · simp[h1]
    · obtain ⟨b,k1,_⟩:=ha (by simp[h1])
      rw[h4] at k1; cases k1
    · obtain ⟨b,k1,_⟩:=ha (by simp[h1])
      rw[h4] at k1; cases k1
  | own n =>
    intro fr t xs hs
    rcases h.look n hr with h0 | ⟨hb,h1⟩ | ⟨f1,f2,t,xs,xs',vs,vs',h1,h2,_⟩ | ⟨a,b,vs,vs',h1,h2,_⟩
    · simp[h0] at hs
    · rw[hb]
      rcases h1 with h1 | ⟨l,l',h1,h2⟩ | ⟨fr1,fr2,t1,xs1,xs2,h1,h2,h3⟩ | ⟨fr1,fr2,t1,xs1,h1,h2⟩
      · exact ha fr t xs (by rw[← h1]; exact hs)
      · rw[h2] at hs; cases hs
      · exact ha _ _ _ h1
      · rw[h2] at hs; cases hs
    · rw[h2] at hs; cases hs
    · rw[h2] at hs; cases hs
  | win n lo len =>
    intro fr t xs hs
    rcases h.look n hr with h0 | ⟨hb,h1⟩ | ⟨f1,f2,t,xs,xs',vs,vs',h1,h2,_⟩ | ⟨a,b,vs,vs',h1,h2,_⟩
    · simp[h0] at hs
    · rw [hb]
      rcases h1 with h1 | ⟨l,l',h1,h2⟩ | ⟨fr1,fr2,t1,xs1,xs2,h1,h2,h3⟩ | ⟨fr1,fr2,t1,xs1,h1,h2⟩
      · exact ha fr t xs (by rw[← h1]; exact hs)
      · rw[h2] at hs; cases hs
      · rw[h2] at hs; cases hs
        obtain ⟨g1,g2⟩:=ha fr1 _ xs1 h1
        exact ⟨by omega,g2⟩
      · rw[h2] at hs; cases hs
    · rw[h2] at hs; cases hs
    · rw[h2] at hs; cases hs
  | sp cs off =>
    obtain ⟨b,o,h1,h2⟩:=ha
    exact ⟨b,o,h1,h.za7 h2⟩
  | oe n i off =>
    intro fr t xs hs
    rcases h.look n hr with h0 | ⟨hb,h1⟩ | ⟨f1,f2,t,xs,xs',vs,vs',h1,h2,_⟩ | ⟨a,b,vs,vs',h1,h2,_⟩
    · simp[h0] at hs
    · rw [hb]
      rcases h1 with h1 | ⟨l,l',h1,h2⟩ | ⟨fr1,fr2,t1,xs1,xs2,h1,h2,h3⟩ | ⟨fr1,fr2,t1,xs1,h1,h2⟩
      · exact ha fr t xs (by rw[← h1]; exact hs)
      · rw[h2] at hs; cases hs
      · rw[h2] at hs; cases hs
        obtain ⟨g1,g2⟩:=ha fr1 _ xs1 h1
        exact ⟨by omega,g2⟩
      · rw[h2] at hs; cases hs
    · rw[h2] at hs; cases hs
    · rw[h2] at hs; cases hs
  | dp n =>
    intro hs
    rcases h.look n hr with h0 | ⟨hb,h1⟩ | ⟨f1,f2,t,xs,xs',vs,vs',h1,h2,h3,h4,h5,h6⟩ | ⟨a,b,vs,vs',h1,h2,h4,h5,h6⟩
    · simp[h0] at hs
    · rw[hb]; refine ha ?_
      rcases h1 with h1 | ⟨l,l',h1,_⟩ | ⟨_,_,_,_,_,h1,_⟩ | ⟨_,_,_,_,h1,_⟩
      · rw[← h1]; exact hs
      · simp[h1]
      · simp[h1]
      · simp[h1]
    · obtain ⟨us,k1,k2⟩:=ha (by simp[h1])
      rw[h4] at k1; cases k1
      exact ⟨vs',h5,h6.trans k2⟩
    · obtain ⟨us,k1,k2⟩:=ha (by simp[h1])
      rw[h4] at k1; cases k1
      exact ⟨vs',h5,h6 _ _ k2⟩
  | de n i off =>
    intro fr t xs hs
    rcases h.look n hr with h0 | ⟨hb,h1⟩ | ⟨f1,f2,t',xs1,xs',vs,vs',h1,h2,h3,h4,h5,h6⟩ | ⟨a,b,vs,vs',h1,h2,_⟩
    · simp[h0] at hs
    · rw [hb]
      rcases h1 with h1 | ⟨l,l',h1,h2⟩ | ⟨fr1,fr2,t1,xs1,xs2,h1,h2,h3⟩ | ⟨fr1,fr2,t1,xs1,h1,h2⟩
      · exact ha fr t xs (by rw[← h1]; exact hs)
      · rw[h2] at hs; cases hs
      · rw[h2] at hs; cases hs
      · rw[h2] at hs; cases hs
        exact ha _ _ _ h1
    · rw[h2] at hs; cases hs
      obtain ⟨k1,us,g,o,m,cap,k2,k3,k4⟩:=ha _ _ _ h1
      rw[h4] at k2; cases k2
      exact ⟨by omega,vs',g,o,m,cap,h5,h6.trans k3,k4⟩
    · rw[h2] at hs; cases hs
  | dc n i off ys =>
    intro fr t xs hs
    obtain ⟨fr',h1,h2⟩:=h.cont n hr.1 hr.2 fr t xs hs
    rw[h2]
    exact ha fr' t xs h1
  | fn f caps =>
    obtain ⟨vs,h1,h2,h3⟩:=ha
    refine ⟨vs,h1,h2,fun i cs hc=>?_⟩
    obtain ⟨b,o,h4,h5⟩:=h3 i cs hc
    exact ⟨b,o,h4,h.za7 h5⟩
def zh0 (ok:Nat→Prop) (l:List A1):Prop:=∀ a∈l,a.refs ok
def zKM (ok:Nat→Prop) (l:List (Bool × List A1)):Prop:=∀ p∈l,zh0 ok p.2
def AV.refs (ok:Nat→Prop):AV→Prop
  | .v _ l=>zh0 ok l
  | .tup ps=>zKM ok ps
theorem Le.l1 {x y:Cx} {ok:Nat→Prop} (h:Le x y ok):∀ {l:List A1} {vs:List Value},zh0 ok l→zck x l vs→zck y l vs
  | [],[],_,_=>trivial
  | a :: _l,_v :: _vs,hr,⟨h1,h2,h3⟩=>⟨h.a1 (hr a (List.mem_cons_self ..)) h1,h2,h.l1 (fun b hb=>hr b (List.mem_cons_of_mem _ hb)) h3⟩
  | [],_ :: _,_,h=>h.elim
  | _ :: _,[],_,h=>h.elim
theorem Le.v {x y:Cx} {ok:Nat→Prop} (h:Le x y ok) {g:Bool} {l:List A1} {v:Value} (hr:zh0 ok l) (hv:VOk x g l v):VOk y g l v:=by
  cases g with
  | true=>obtain ⟨vs,h1,h2⟩:=hv; exact ⟨vs,h1,h.l1 hr h2⟩
  | false=>obtain ⟨a,h1,h2,h3⟩:=hv; subst h1; exact ⟨a,rfl,h.a1 (hr a (List.mem_cons_self ..)) h2,h3⟩
theorem Le.ps {x y:Cx} {ok:Nat→Prop} (h:Le x y ok):∀ {l:List (Bool × List A1)} {vs:List Value},zKM ok l→zk7 x l vs→zk7 y l vs
  | [],[],_,_=>trivial
  | p :: _l,_v :: _vs,hr,⟨h1,h2⟩=>⟨h.v (hr p (List.mem_cons_self ..)) h1,h.ps (fun b hb=>hr b (List.mem_cons_of_mem _ hb)) h2⟩
  | [],_ :: _,_,h=>h.elim
  | _ :: _,[],_,h=>h.elim
theorem Le.av {x y:Cx} {ok:Nat→Prop} (h:Le x y ok) {a:AV} {v:Value} (hr:a.refs ok) (ha:zaR x a v):zaR y a v:=by
  cases a with
  | v g l=>exact h.v hr ha
  | tup ps=>obtain ⟨vs,h1,h2⟩:=ha; exact ⟨vs,h1,h.ps hr h2⟩
theorem zkG (a:AV):a.refs fun _=>True:=by
  cases a with
  | v g l=>intro a _; cases a<;>trivial
  | tup ps=>intro p _ a _; cases a<;>trivial
theorem ze3 (l:List A1):zh0 (fun _=>True) l:=by intro a _; cases a<;>trivial
end Go.Di
open Go.RowKit (Below)
namespace Go.Di
theorem zas (n m:Nat) (e:Ent) (r:List (Nat × Ent)):look n ((m,e) :: r)=if n=m then some e else look n r:=by
  by_cases h:n=m
  · subst h; simp[look]
  · have:Nat.beq n m=false:=by rw[Bool.eq_false_iff]; simpa using h
    rw[if_neg h]; simp[look,this]
theorem za6 (n m:Nat) (e:Ent):∀ es,look m (put n e es)=if m=n then some e else look m es
  | []=>by simp[put,zas,look]
  | (k, f) :: r=>by
    unfold put
    split
    · rename_i h; have hk:n=k:=by simpa using h
      subst hk; simp only[zas]; split<;>rfl
    · split
      · simp only[zas]
      · rename_i h _ _; simp only[zas,za6 n m e r]
        have hk:n≠k:=by intro hk; subst hk; simp at h
        by_cases h1:m=k<;>by_cases h2:m=n<;>simp_all
theorem zkQ (n m:Nat):∀ es,look m (drop n es)=if m=n then none else look m es
  | []=>by simp[drop,look]
  | (k,f) :: r=>by
    unfold drop
    split
    · rename_i h; have hk:n=k:=by simpa using h
      subst hk; rw[zkQ n m r,zas]; split<;>simp_all
    · rename_i h; have hk:n≠k:=by intro hk; subst hk; simp at h
      simp only[zas,zkQ n m r]
      by_cases h1:m=k<;>by_cases h2:m=n<;>simp_all
theorem zoR (n m:Nat):∀ es,look m (zGO n es)=(look m es).map (Ent.kill n)
  | []=>rfl
  | (k,f) :: r=>by simp only[zGO,zas,zoR n m r]; split<;>rfl
theorem za4 (n m:Nat) (s:St):look m (s.free n).ents=if m=n then none else (look m s.ents).map (Ent.kill n):=by
  simp only[St.free,zoR,zkQ]; split<;>rfl
def frz:Ent→Ent
  | .arr _ t xs => .arr true t xs
  | .deep _ t xs => .deep true t xs
  | e=>e
theorem look_freeze1 (n m:Nat):∀ es,look m (freeze1 n es)=if m=n then (look m es).map frz else look m es
  | []=>by simp[freeze1,look]
  | (k,f) :: r=>by
    unfold freeze1
    split
    · rename_i h; have hk:n=k:=by simpa using h
      subst hk
      split<;>simp only[zas,look_freeze1 n m r]<;>split<;>simp_all [frz]
    · rename_i h; have hk:n≠k:=by intro hk; subst hk; simp at h
      simp only[zas,look_freeze1 n m r]
      by_cases h1:m=k<;>by_cases h2:m=n<;>simp_all
theorem zny (n:Nat) (a:A1):(a.kill n).refs (·≠n):=by
  cases a with
  | dc m i o ys =>
    simp only[A1.kill]
    split
    · trivial
    · rename_i h1
      split
      · trivial
      · rename_i h2
        exact ⟨fun e=>by subst e; simp at h1,fun e=>by subst e; simp at h2⟩
  | _=>(simp only[A1.kill]<;>(try split)<;>simp_all [A1.refs]<;>(rename_i h; intro hh; subst hh; simp at h))
theorem zfK (n:Nat):∀ l,zh0 (·≠n) (zdF n l)
  | []=>by intro a h; cases h
  | a :: l=>by
    intro b hb
    cases hb with
    | head=>exact zny n a
    | tail _ h=>exact zfK n l b h
theorem zd8 (n:Nat) (a:AV):(a.kill n).refs (·≠n):=by
  cases a with
  | v g l=>exact zfK n l
  | tup ps =>
    simp only[AV.kill,AV.refs]
    induction ps with
    | nil=>intro p hp; cases hp
    | cons q r ih =>
      intro p hp
      cases hp with
      | head=>exact zfK n q.2
      | tail _ h=>exact ih p h
theorem A1Ok.kill {x:Cx} (n:Nat) {a:A1} {v:Value} (h:A1Ok x a v):A1Ok x (a.kill n) v:=by
  cases a<;>simp only[A1.kill]<;>(try split)<;>(try split)<;>first | exact h | trivial
theorem zck.kill {x:Cx} (n:Nat):∀ {l:List A1} {vs:List Value},zck x l vs→zck x (zdF n l) vs
  | [],[],_=>trivial
  | _a :: _l,_v :: _vs,⟨h1,h2,h3⟩=>⟨h1.kill n,h2,zck.kill n h3⟩
  | [],_ :: _,h=>h.elim
  | _ :: _,[],h=>h.elim
theorem VOk.kill {x:Cx} (n:Nat) {g:Bool} {l:List A1} {v:Value} (h:VOk x g l v):VOk x g (zdF n l) v:=by
  cases g with
  | true=>obtain ⟨vs,h1,h2⟩:=h; exact ⟨vs,h1,h2.kill n⟩
  | false =>
    obtain ⟨a,h1,h2,h3⟩:=h; subst h1
    refine ⟨a.kill n,rfl,h2.kill n,?_⟩
    rcases h3 with h3 | h3
    · subst h3; exact .inl rfl
    · exact .inr h3
theorem zk7.kill {x:Cx} (n:Nat):∀ {l:List (Bool × List A1)} {vs:List Value},zk7 x l vs→zk7 x (zDM n l) vs
  | [],[],_=>trivial
  | (_g,_p) :: _l,_v :: _vs,⟨h1,h2⟩=>⟨VOk.kill n h1,zk7.kill n h2⟩
  | [],_ :: _,h=>h.elim
  | _ :: _,[],h=>h.elim
theorem zaR.kill {x:Cx} (n:Nat) {a:AV} {v:Value} (h:zaR x a v):zaR x (a.kill n) v:=by
  cases a with
  | v g l=>exact VOk.kill n h
  | tup ps=>obtain ⟨vs,h1,h2⟩:=h; exact ⟨vs,h1,h2.kill n⟩
def Ent.refs (ok:Nat→Prop):Ent→Prop
  | .box l=>zh0 ok l
  | _=>True
theorem zyw {xs:List Int} {i:Nat} {c:Cell} (h:(flat .int xs)[i]? = some c):∃ n,c = .int .i64 n:=by
  obtain ⟨h1,h2⟩:=List.getElem?_eq_some_iff.1 h
  have hm:c∈flat .int xs:=by rw[← h2]; exact List.getElem_mem h1
  unfold flat at hm
  obtain ⟨n,_,hn⟩:=List.mem_flatMap.1 hm
  exact ⟨n,List.mem_singleton.1 hn⟩
theorem OwnI.go {x y:Cx} {xs:List Int} {v:Value} (h:OwnI x xs v) (hb:∀ b∈zaE v,y.w.heap[b]? = x.w.heap[b]?):OwnI y xs v:=by
  rcases h with h0 | ⟨g,cap,cur,T,h1,h2,h3,h4,h5,h6,h7⟩
  · exact .inl h0
  · refine .inr ⟨g,cap,cur,T,h1,h2,h3,h4,?_,h6,fun i c hc=>?_⟩
    · rw[hb g (by subst h1; cases cap with | zero=>omega | succ k=>simp[zaE])]; exact h5
    · obtain ⟨u,hu,fp,hd,_⟩:=h7 i c hc
      obtain ⟨n,rfl⟩:=zyw hc
      cases hd
      exact ⟨_,hu,[],.int _ _,fun b hb=>by cases hb⟩
theorem zir.go {x y:Cx} {n:Nat} {v:Value} (h:zir x n v) (hb:∀ b∈zaq v,y.w.heap[b]? = x.w.heap[b]?):zir y n v:=by
  obtain ⟨us,h1,h2,h3,h4⟩:=h
  refine ⟨us,h1,h2,h3,fun i hi=>?_⟩
  obtain ⟨u,ys,k1,k2,k3⟩:=h4 i hi
  exact ⟨u,ys,k1,k2,k3.go fun b hbu=>hb b (by subst h1; exact List.mem_flatMap.2 ⟨u,by simpa using List.mem_of_getElem? k1,hbu⟩)⟩
theorem zdD (ad:Option Addr) (k c:Nat):zaE (.slice ad k c)=zmw (.slice ad k c):=by cases ad<;>cases c<;>rfl
theorem OwnI.top {x:Cx} {xs:List Int} {v:Value} (h:OwnI x xs v):zaE v=zmw v:=by
  rcases h with ⟨_,ad,rfl⟩ | ⟨g,cap,_,_,rfl,_⟩<;>exact zdD ..
theorem zgg.top {x:Cx} {u b:Value} {c:Cell} (h:zgg x u c b):zaE b=zmw b:=by
  cases c with
  | int k n=>obtain ⟨rfl,_⟩:=h; rfl
  | bool b=>obtain ⟨rfl,_⟩:=h; rfl
  | str s=>obtain ⟨rfl,_⟩:=h; rfl
  | sl t xs =>
    cases t with
    | int=>rw[h.1]; exact h.2.top
    | _=>exact h.elim
  | tok k=>exact h.elim
  | any=>exact h.elim
theorem zgg.deep {x:Cx} {u b:Value} {c:Cell} (h:zgg x u c b):zcB x u c b:=by
  cases c with
  | sl t xs =>
    cases t with
    | int=>exact h
    | _=>exact h.elim
  | tok k=>exact h.elim
  | any=>exact h.elim
  | _=>exact h
theorem zgg.go {x y:Cx} {u b:Value} {c:Cell} (h:zgg x u c b) (hb:∀ k∈zaE b,y.w.heap[k]? = x.w.heap[k]?):zgg y u c b:=by
  cases c with
  | int k n=>obtain ⟨h1,fp,h2,_⟩:=h; cases h2; exact ⟨h1,[],.int _ _,fun b hb=>by cases hb⟩
  | bool b=>obtain ⟨h1,fp,h2,_⟩:=h; cases h2; exact ⟨h1,[],.bool _,fun b hb=>by cases hb⟩
  | str s=>obtain ⟨h1,fp,h2,_⟩:=h; cases h2; exact ⟨h1,[],.str _,fun b hb=>by cases hb⟩
  | sl t xs =>
    cases t with
    | int=>exact ⟨h.1,h.2.go (by rw[← h.1]; exact hb)⟩
    | _=>exact h.elim
  | tok k=>exact h.elim
  | any=>exact h.elim
theorem zky {u:Value} {us:List Value} {k:Nat} {b:Value} (hb:b∈u :: us) (hk:k∈zmw b):k∈zaE (.tuple (u :: us).toArray):=List.mem_flatMap.2 ⟨b,by simpa using hb,hk⟩
theorem DeepTop0.go {x y:Cx} {rs:List ST.rat.El} {u:Value} {us:List Value} (h:DeepTop0 x rs u us) (hb:∀ k∈zaE (.tuple (u :: us).toArray),y.w.heap[k]? = x.w.heap[k]?):DeepTop0 y rs u us:=by
  rcases h with h0 | ⟨g,cap,cur,T,k1,k2,k3,k4,k5,k6,k7⟩
  · exact .inl h0
  · refine .inr ⟨g,cap,cur,T,k1,k2,k3,k4,?_,k6,fun i c hc=>?_⟩
    · rw[hb g (zky (List.mem_cons_self ..) (by subst k1; cases cap with | zero=>omega | succ k=>simp[zmw]))]; exact k5
    · obtain ⟨u,b,q1,q2,q3⟩:=k7 i c hc
      exact ⟨u,b,q1,q2,q3.go fun k hk=>hb k (zky (List.mem_cons_of_mem _ (List.mem_of_getElem? q2)) (by rw[← q3.top]; exact hk))⟩
theorem zcB.go {x y:Cx} {u b:Value} {c:Cell} (h:zcB x u c b) (hb:∀ k∈zaE b,y.w.heap[k]? = x.w.heap[k]?):zcB y u c b:=by
  cases c with
  | int k n=>obtain ⟨h1,fp,h2,_⟩:=h; cases h2; exact ⟨h1,[],.int _ _,fun b hb=>by cases hb⟩
  | bool b=>obtain ⟨h1,fp,h2,_⟩:=h; cases h2; exact ⟨h1,[],.bool _,fun b hb=>by cases hb⟩
  | str s=>obtain ⟨h1,fp,h2,_⟩:=h; cases h2; exact ⟨h1,[],.str _,fun b hb=>by cases hb⟩
  | sl t xs =>
    cases t with
    | int=>exact ⟨h.1,h.2.go (by rw[← h.1]; exact hb)⟩
    | rat =>
      obtain ⟨us,h1,h2,h3⟩:=h
      exact ⟨us,h1,h2,h3.go (by rw[← h1]; exact hb)⟩
    | _=>exact h.elim
  | tok k=>exact h.elim
  | any=>exact h.elim
theorem DeepOk.go {x y:Cx} {t:ST} {xs:List t.El} {v:Value} (h:DeepOk x t xs v) (hb:∀ b∈zaq v,y.w.heap[b]? = x.w.heap[b]?):DeepOk y t xs v:=by
  obtain ⟨s,us,h1,h2,h3,hcd,h4⟩:=h
  have hb':∀ u∈s :: us,∀ b∈zaE u,y.w.heap[b]? = x.w.heap[b]? := fun u hu b hbu=>hb b (by subst h1; exact List.mem_flatMap.2 ⟨u,by simpa using hu,hbu⟩)
  refine ⟨s,us,h1,h2,h3,hcd,?_⟩
  rcases h4 with h0 | ⟨g,cap,cur,T,k1,k2,k3,k4,k5,k6,k7⟩
  · exact .inl h0
  · refine .inr ⟨g,cap,cur,T,k1,k2,k3,k4,?_,k6,fun i c hc=>?_⟩
    · rw[hb' s (List.mem_cons_self ..) g (by subst k1; cases cap with | zero=>omega | succ k=>simp[zaE])]; exact k5
    · obtain ⟨u,b,q1,q2,q3⟩:=k7 i c hc
      exact ⟨u,b,q1,q2,q3.go (hb' b (List.mem_cons_of_mem _ (List.mem_of_getElem? q2)))⟩
theorem EntOk.le {x y:Cx} {ok:Nat→Prop} (h:Le x y ok) {e:Ent} {v:Value} (hr:e.refs ok) (hb:∀ b∈zaq v,e.mut=true→y.w.heap[b]? = x.w.heap[b]?)
    (he:EntOk x e v):EntOk y e v:=by
  cases e with
  | pool n=>exact zir.go he fun b hbt=>hb b hbt rfl
  | box l =>
    obtain ⟨b,vs,T,h1,h2,h3⟩:=he
    exact ⟨b,vs,T,h1,by rw[hb b (by subst h1; simp[zaq]) rfl]; exact h2,h.l1 hr h3⟩
  | arr fr t xs =>
    cases fr with
    | true=>exact h.rd he
    | false =>
      rcases he with h0 | ⟨g,cap,cur,T,h1,h2,h3,h4,h5,h6,h7⟩
      · exact .inl h0
      · refine .inr ⟨g,cap,cur,T,h1,h2,h3,h4,?_,h6,fun i c hc=>?_⟩
        · rw[hb g (by subst h1; cases cap with | zero=>omega | succ k=>simp[zaq]) rfl]; exact h5
        · obtain ⟨u,hu,hd⟩:=h7 i c hc; exact ⟨u,hu,h.rd hd⟩
  | deep fr t xs =>
    cases fr with
    | false=>exact DeepOk.go he fun b hbt=>hb b hbt rfl
    | true =>
      obtain ⟨s,us,h1,hcd,h4⟩:=he
      refine ⟨s,us,h1,hcd,?_⟩
      rcases h4 with h0 | ⟨g,cap,k1,k2,k3,k4⟩
      · exact .inl h0
      · refine .inr ⟨g,cap,k1,k2,h.fine k3,fun i c hc=>?_⟩
        obtain ⟨u,b,q1,q2,q3,q4⟩:=k4 i c hc
        have hg:=k3 g (List.mem_cons_self ..)
        exact ⟨u,b,by rw[World.cell?_of_block (w:=x.w) (h.heap g hg.1 hg.2.1)]; exact q1,q2,h.rd q3,q4⟩
theorem EntOk.kill {x:Cx} (n:Nat) {e:Ent} {v:Value} (h:EntOk x e v):EntOk x (e.kill n) v:=by
  cases e with
  | pool k=>exact h
  | box l=>obtain ⟨b,vs,T,h1,h2,h3⟩:=h; exact ⟨b,vs,T,h1,h2,h3.kill n⟩
  | arr fr t xs=>exact h
  | deep fr t xs=>exact h
theorem zdG (n:Nat) (e:Ent):(e.kill n).refs (·≠n):=by
  cases e with
  | pool k=>trivial
  | box l=>exact zfK n l
  | arr fr t xs=>trivial
  | deep fr t xs=>trivial
theorem zdn (n:Nat) (e:Ent):(e.kill n).mut=e.mut:=by cases e<;>rfl
theorem zd7 (n:Nat):∀ l:List AV,(zpT n l).length=l.length
  | []=>rfl
  | a :: l=>by simp[zpT,zd7 n l]
theorem zeh (n t:Nat):∀ l:List AV,(zpT n l)[t]? = (l[t]?).map (AV.kill n)
  | []=>by simp[zpT]
  | a :: l=>by cases t with
    | zero=>simp[zpT]
    | succ t=>simpa [zpT] using zeh n t l
section
variable {C:Bs} {w w':World} {s:St} {X:Nat→Prop} {β:Nat→Option Value} {tm:Array Value}
theorem Le.grown (_g:Gam C s X β tm w) (hb:Below w.heap.size w w'):Le (cx C s β w) (cx C s β w') fun _=>True :=
  ⟨fun _ h=>h,fun b hlt _=>hb.block b hlt,hb.size,fun _ _ _ h=>h,fun _n _ => .inr (.inl ⟨rfl,.inl rfl⟩),fun _ _ _ fr _ _ h=>⟨fr,h,rfl⟩,fun _ _ h=>h⟩
theorem Gam.fxw (g:Gam C s X β tm w) (b:Nat) (p:Array Value→Prop) (h:C.fix b=some p):∃ cs t fr,w.heap[b]? = some (.cells cs t fr)∧p cs:=by
  obtain ⟨hk,cs,t,fr,h1,h2⟩:=g.fx b p h
  exact ⟨cs,t,fr,(g.below.block b hk.2).trans h1,h2⟩
theorem Gam.grown (g:Gam C s X β tm w) (hb:Below w.heap.size w w'):Gam C s X β tm w' where
  len:=g.len
  env t av hx h:=(Le.grown g hb).av (zkG av) (g.env t av hx h)
  ents n e v h1 h2:=EntOk.le (Le.grown g hb) (by cases e<;>first | exact ze3 _ | trivial)
    (fun b hb' hm=>hb.block b (g.fresh b ⟨n,e,v,h1,hm,h2,hb'⟩).2) (g.ents n e v h1 h2)
  uniq:=g.uniq
  fresh b h:=⟨(g.fresh b h).1,Nat.lt_of_lt_of_le (g.fresh b h).2 hb.size⟩
  kb b h:=Nat.lt_of_lt_of_le (g.kb b h) hb.size
  below:=g.below.trans (Kp.of hb g.kb)
  pin:=g.pin
  np:=g.np
  bs:=g.bs
  fx:=g.fx
  tk:=g.tk
theorem Gam.set (g:Gam C s X β tm w) {t:Nat} {a:AV} {v:Value} (ha:zaR (cx C s β w) a v) :
    Gam C (s.set t a) (fun u=>X u∧u≠t) β (tm.setIfInBounds t v) w where
  len:=by simp[St.set,g.len]
  env u av hx h:=by
    simp only[St.set,List.getElem?_set] at h
    by_cases hu:t=u
    · subst hu
      by_cases hl:t < s.env.length
      · simp[hl] at h; subst h
        have:t < tm.size:=by rw[← g.len]; exact hl
        show zaR (cx C s β w) a _
        simpa [Array.getD_eq_getD_getElem?,this] using ha
      · simp[hl] at h
    · simp only[hu,if_false] at h
      have:=g.env u av (fun hX=>hx ⟨hX,fun e=>hu e.symm⟩) h
      show zaR (cx C s β w) av _
      simpa [Array.getD_eq_getD_getElem?,Array.getElem?_setIfInBounds_ne hu] using this
  ents:=g.ents
  uniq:=g.uniq
  fresh:=g.fresh
  kb:=g.kb
  below:=g.below
  pin:=g.pin
  np:=g.np
  bs:=g.bs
  fx:=g.fx
  tk:=g.tk
theorem Gam.weaken (g:Gam C s X β tm w) {Y:Nat→Prop} (h:∀ t,X t→Y t):Gam C s Y β tm w :=
  { g with env:=fun t av hy ha=>g.env t av (fun hx=>hy (h t hx)) ha }
theorem Gam.zpI (g:Gam C s X β tm w) {t:Nat} {a:AV} {v:Value} (ha:zaR (cx C s β w) a v) :
    Gam C (s.set t a) X β (tm.setIfInBounds t v) w:=g.set ha |>.weaken fun _ h=>h.1
theorem zv8 {n b:Nat} (h:Top (fun m=>look m (s.free n).ents) β b):Top (fun m=>look m s.ents) β b:=by
  obtain ⟨m,e,v,h1,h2,h3,h4⟩:=h
  simp only[za4] at h1
  split at h1
  · cases h1
  · cases hm:look m s.ents with
    | none=>simp[hm] at h1
    | some f=>simp[hm] at h1; subst h1; exact ⟨m,f,v,hm,by rwa [zdn] at h2,h3,h4⟩
theorem zkm (n:Nat):Le (cx C s β w) (cx C (s.free n) β w) (·≠n) where
  hav _ h:=h
  heap _ _ _:=rfl
  size:=Nat.le_refl _
  top _ _ _ h:=zv8 h
  look m hm:=by
    simp only[cx,za4,if_neg hm]
    cases hl:look m s.ents with
    | none=>left; simp
    | some e =>
      right; left
      refine ⟨trivial,?_⟩
      cases e with
      | box l=>right; left; exact ⟨l,zdF n l,by simp,by simp[Ent.kill]⟩
      | arr fr t xs=>left; simp[Ent.kill]
      | deep fr t xs=>left; simp[Ent.kill]
      | pool k=>left; simp[Ent.kill]
  cont m hm _ fr t xs h:=by
    have h:look m (s.free n).ents=some (.deep fr t xs):=h
    rw[za4,if_neg hm] at h
    cases hl:look m s.ents with
    | none=>rw[hl] at h; cases h
    | some e =>
      rw[hl] at h
      cases e with
      | deep fr' t' xs'=>cases h; exact ⟨fr,hl,rfl⟩
      | box l=>cases h
      | arr fr t' xs'=>cases h
      | pool k=>cases h
  tk _ _ h:=h
theorem Gam.free (g:Gam C s X β tm w) (n:Nat):Gam C (s.free n) X β tm w where
  len:=by simp[St.free,zd7,g.len]
  env t av hx h:=by
    simp only[St.free,zeh] at h
    cases ht:s.env[t]? with
    | none=>simp[ht] at h
    | some a =>
      simp[ht] at h; subst h
      exact (zkm n).av (zd8 n a) ((g.env t a hx ht).kill n)
  ents m e v h1 h2:=by
    simp only[za4] at h1
    split at h1
    · cases h1
    · cases hm:look m s.ents with
      | none=>simp[hm] at h1
      | some f =>
        simp[hm] at h1; subst h1
        exact EntOk.le (zkm n) (zdG n f) (fun _ _ _=>rfl) ((g.ents m f v hm h2).kill n)
  uniq k m e f u v b h1 h2 h3 h4 h5 h6 h7 h8:=by
    simp only[za4] at h1 h2
    split at h1<;>split at h2<;>try (first | cases h1 | cases h2)
    cases hk:look k s.ents with
    | none=>simp[hk] at h1
    | some e' =>
      cases hm:look m s.ents with
      | none=>simp[hm] at h2
      | some f' =>
        simp[hk] at h1; simp[hm] at h2; subst h1; subst h2
        exact g.uniq k m e' f' u v b hk hm (by rwa [zdn] at h3) (by rwa [zdn] at h4) h5 h6 h7 h8
  fresh b h:=g.fresh b (zv8 h)
  kb:=g.kb
  below:=g.below
  pin m v hp hl:=g.pin m v hp (by
    simp only[za4] at hl
    split at hl
    · cases hl
    · cases hm:look m s.ents with
      | none=>simp[hm] at hl
      | some f=>rfl)
  np:=g.np
  fx:=g.fx
  tk π h:=⟨(g.tk π h).1,by rw[za4]; split<;>simp[(g.tk π h).2]⟩
  bs m e h:=by
    simp only[za4] at h
    split at h
    · cases h
    · cases hm:look m s.ents with
      | none=>simp[hm] at h
      | some f=>exact g.bs m f hm
end
end Go.Di
open Go.RowKit (Below)
namespace Go.Di
def zFm (n:Nat) (s:St):Prop:=(∀ (t:Nat) (av:AV),s.env[t]? = some av→av.refs (·≠n))∧∀ (m:Nat) (e:Ent),look m s.ents=some e→e.refs (·≠n)
theorem zBQ {ok:Nat→Prop} (n:Nat) {a:A1} (h:a.refs ok):(a.kill n).refs ok:=by
  cases a<;>simp only[A1.kill]<;>(try split)<;>(try split)<;>first | exact h | trivial
theorem ziN {ok:Nat→Prop} (n:Nat):∀ {l:List A1},zh0 ok l→zh0 ok (zdF n l)
  | [],_=>by intro a h; cases h
  | a :: l,h=>by
    intro b hb
    cases hb with
    | head=>exact zBQ n (h a (List.mem_cons_self ..))
    | tail _ hb=>exact ziN n (fun c hc=>h c (List.mem_cons_of_mem _ hc)) b hb
theorem zh8 {ok:Nat→Prop} (n:Nat) {a:AV} (h:a.refs ok):(a.kill n).refs ok:=by
  cases a with
  | v g l=>exact ziN n h
  | tup ps =>
    simp only[AV.kill,AV.refs] at *
    induction ps with
    | nil=>intro p hp; cases hp
    | cons q r ih =>
      intro p hp
      cases hp with
      | head=>exact ziN n (h q (List.mem_cons_self ..))
      | tail _ hp=>exact ih (fun x hx=>h x (List.mem_cons_of_mem _ hx)) p hp
theorem zhi {ok:Nat→Prop} (n:Nat) {e:Ent} (h:e.refs ok):(e.kill n).refs ok:=by
  cases e with
  | box l=>exact ziN n h
  | arr _ _ _=>trivial
  | deep _ _ _=>trivial
  | pool _=>trivial
theorem zoN (n:Nat) (s:St):zFm n (s.free n)∧look n (s.free n).ents=none:=by
  refine ⟨⟨fun t av h=>?_,fun m e h=>?_⟩,by simp[za4]⟩
  · simp only[St.free,zeh] at h
    cases ht:s.env[t]? with
    | none=>simp[ht] at h
    | some a=>simp[ht] at h; subst h; exact zd8 n a
  · simp only[za4] at h
    split at h
    · cases h
    · cases hm:look m s.ents with
      | none=>simp[hm] at h
      | some f=>simp[hm] at h; subst h; exact zdG n f
theorem zFm.free {n:Nat} {s:St} (h:zFm n s) (hl:look n s.ents=none) (m:Nat):zFm n (s.free m)∧look n (s.free m).ents=none:=by
  refine ⟨⟨fun t av ha=>?_,fun k e ha=>?_⟩,by simp[za4,hl]⟩
  · simp only[St.free,zeh] at ha
    cases ht:s.env[t]? with
    | none=>simp[ht] at ha
    | some a=>simp[ht] at ha; subst ha; exact zh8 m (h.1 t a ht)
  · simp only[za4] at ha
    split at ha
    · cases ha
    · cases hm:look k s.ents with
      | none=>simp[hm] at ha
      | some f=>simp[hm] at ha; subst ha; exact zhi m (h.2 k f hm)
def names (l:List (Nat × Ent)):List Nat:=l.map (·.1)
theorem za3 (m:Nat):∀ (l es:List (Nat × Ent)),m ∉ names l→look m (zhW l es)=look m es
  | [],es,_=>rfl
  | (n,e) :: r,es,h=>by
    simp only[names,List.map_cons,List.mem_cons,not_or] at h
    simp only[zhW]
    rw[za3 m r _ h.2,za6,if_neg h.1]
theorem zef:∀ (l es:List (Nat × Ent)) (n:Nat) (e:Ent),(names l).Nodup→(n,e)∈l→look n (zhW l es)=some e
  | (m,f) :: r,es,n,e,hn,h=>by
    simp only[names,List.map_cons,List.nodup_cons] at hn
    simp only[zhW]
    rcases List.mem_cons.1 h with h | h
    · cases h; rw[za3 _ r _ hn.1,za6,if_pos rfl]
    · exact zef r _ n e hn.2 h
theorem zbW (l es:List (Nat × Ent)) (n:Nat) (e:Ent) (hn:(names l).Nodup) (h:look n (zhW l es)=some e):(n,e)∈l∨(n ∉ names l∧look n es=some e):=by
  by_cases hm:n∈names l
  · left
    obtain ⟨p,hp,rfl⟩:=List.mem_map.1 hm
    rw[zef l es p.1 p.2 hn hp] at h
    cases h; exact hp
  · exact .inr ⟨hm,by rwa [za3 n l es hm] at h⟩
section
variable {C:Bs} {w w':World} {s:St} {X:Nat→Prop} {β β':Nat→Option Value} {tm:Array Value}
theorem Gam.freeL (g:Gam C s X β tm w):∀ l,Gam C (St.freeL l s) X β tm w:=fun l=>by
  induction l generalizing s with
  | nil=>exact g
  | cons p r ih=>exact ih (g.free p.1)
theorem zvr {e:Ent} {l:List (Nat × Ent)} (h:∀ k∈names l,e.refs (·≠k)):e.refs (fun m=>m ∉ names l):=by
  cases e with
  | arr _ _ _=>trivial
  | deep _ _ _=>trivial
  | pool _=>trivial
  | box c =>
    intro a ha
    have h1:∀ k∈names l,a.refs (·≠k):=fun k hk=>h k hk a ha
    cases a<;>try trivial
    all_goals first
      | exact fun hm=>h1 _ hm rfl
      | exact ⟨fun hm=>(h1 _ hm).1 rfl,fun hm=>(h1 _ hm).2 rfl⟩
theorem zzX {a:AV} {l:List (Nat × Ent)} (h:∀ k∈names l,a.refs (·≠k)):a.refs (fun m=>m ∉ names l):=by
  have one:∀ c:A1,(∀ k∈names l,c.refs (·≠k))→c.refs (fun m=>m ∉ names l):=by
    intro c h1
    cases c<;>try trivial
    all_goals first
      | exact fun hm=>h1 _ hm rfl
      | exact ⟨fun hm=>(h1 _ hm).1 rfl,fun hm=>(h1 _ hm).2 rfl⟩
  cases a with
  | v g c=>exact fun b hb=>one b fun k hk=>h k hk b hb
  | tup ps=>exact fun p hp b hb=>one b fun k hk=>h k hk p hp b hb
theorem Gam.zhW (g:Gam C s X β tm w) (hb:Below w.heap.size w w') (l:List (Nat × Ent)) (hn:(names l).Nodup)
    (hno:∀ n∈names l,zFm n s∧look n s.ents=none) (hβ:∀ m,m ∉ names l→β' m=β m)
    (hok:Le (cx C s β w) (cx C ⟨s.env,Go.Di.zhW l s.ents⟩ β' w') (fun m=>m ∉ names l)→∀ n e,(n,e)∈l→∀ v,β' n=some v→EntOk (cx C ⟨s.env,Go.Di.zhW l s.ents⟩ β' w') e v)
    (htop:∀ n e v b,(n,e)∈l→β' n=some v→b∈zaq v→e.mut=true→w.heap.size≤b∧b < w'.heap.size)
    (huniq:∀ n m v u b,n∈names l→m∈names l→β' n=some v→β' m=some u→b∈zaq v→b∈zaq u→n=m) (hpin:∀ n∈names l,n % 64≠63) (hbs:∀ n∈names l,(β' n).isSome) :
    Gam C ⟨s.env,Go.Di.zhW l s.ents⟩ X β' tm w':=by
  have hPN:PN ∉ names l:=fun h=>hpin PN h (by decide)
  have htk:zd1 β'=zd1 β:=by funext i; simp only[zd1,hβ PN hPN]
  have hle:Le (cx C s β w) (cx C ⟨s.env,Go.Di.zhW l s.ents⟩ β' w') (fun m=>m ∉ names l):=by
    refine ⟨fun _ h=>h,fun b hlt _=>hb.block b hlt,hb.size,?_,fun m hm => .inr (.inl ⟨hβ m hm,.inl (za3 m l _ hm)⟩),fun m hm _ fr t xs h=>⟨fr,(za3 m l _ hm).symm.trans h,hβ m hm⟩,fun i v h=>(congrFun htk i).trans h⟩
    rintro b hlt _ ⟨m,e,v,h1,h2,h3,h4⟩
    rcases zbW l _ m e hn h1 with h | ⟨hm,h⟩
    · have:=(htop m e v b h h3 h4 h2).1; simp only[cx] at hlt; omega
    · exact ⟨m,e,v,h,h2,by show β m=some v; rw[← hβ m hm]; exact h3,h4⟩
  refine ⟨g.len,fun t av hx h=>hle.av (zzX fun k hk=>(hno k hk).1.1 t av h) (g.env t av hx h),fun n e v h1 h2=>?_,?_,?_,fun b h=>Nat.lt_of_lt_of_le (g.kb b h) hb.size,g.below.trans (Kp.of hb g.kb),fun n v hp hl=>?_,g.np,fun n e h=>?_,g.fx,fun π h=>⟨htk.trans (g.tk π h).1,(za3 PN l _ hPN).trans (g.tk π h).2⟩⟩
  · rcases zbW l _ n e hn h1 with h | ⟨hm,h⟩
    · exact hok hle n e h v h2
    · rw[hβ n hm] at h2
      exact EntOk.le hle (zvr fun k hk=>(hno k hk).1.2 n e h) (fun b hb' hm'=>hb.block b (g.fresh b ⟨n,e,v,h,hm',h2,hb'⟩).2) (g.ents n e v h h2)
  · intro n m e f u v b h1 h2 h3 h4 h5 h6 h7 h8
    rcases zbW l _ n e hn h1 with h | ⟨hk,h⟩<;>rcases zbW l _ m f hn h2 with h' | ⟨hk',h'⟩
    · exact huniq n m u v b (List.mem_map.2 ⟨_,h,rfl⟩) (List.mem_map.2 ⟨_,h',rfl⟩) h5 h6 h7 h8
    · have:=(htop n e u b h h5 h7 h3).1
      rw[hβ m hk'] at h6
      have:=(g.fresh b ⟨m,f,v,h',h4,h6,h8⟩).2
      omega
    · have:=(htop m f v b h' h6 h8 h4).1
      rw[hβ n hk] at h5
      have:=(g.fresh b ⟨n,e,u,h,h3,h5,h7⟩).2
      omega
    · rw[hβ n hk] at h5; rw[hβ m hk'] at h6
      exact g.uniq n m e f u v b h h' h3 h4 h5 h6 h7 h8
  · rintro b ⟨m,e,v,h1,h2,h3,h4⟩
    rcases zbW l _ m e hn h1 with h | ⟨hm,h⟩
    · have:=htop m e v b h h3 h4 h2
      exact ⟨fun hk=>absurd (g.kb b hk) (by omega),this.2⟩
    · rw[hβ m hm] at h3
      have:=g.fresh b ⟨m,e,v,h,h2,h3,h4⟩
      exact ⟨this.1,Nat.lt_of_lt_of_le this.2 hb.size⟩
  · have hm:n ∉ names l:=fun hm=>hpin n hm (g.np n (by rw[hp]; rfl)).1
    rw[hβ n hm]
    exact g.pin n v hp (by rwa [za3 n l _ hm] at hl)
  · rcases zbW l _ n e hn h with h | ⟨hm,h⟩
    · exact hbs n (List.mem_map.2 ⟨_,h,rfl⟩)
    · rw[hβ n hm]; exact g.bs n e h
/-! ### Arrays that stay as they are -/
theorem zhj {x:Cx} {g cap:Nat} {cur:Array Value} {T:TypeId} {t:ST} {xs:List t.El} (hc:xs.length≤cap) (hg:x.w.heap[g]? = some (.cells cur T (0,0)))
    (hf:¬ Top x.lk x.β g) (hav:x.av g) (h:∀ (i:Nat) (c:Cell),(flat t xs)[i]? = some c→∃ u,cur[i]? = some u∧x.rd u c) :
    x.rd (.slice (some ⟨g,0,none⟩) xs.length cap) (.sl t xs):=by
  have hch:∀ i:Nat,∃ p:Value × List Nat,∀ c:Cell,(flat t xs)[i]? = some c→cur[i]? = some p.1∧Rd x.w (zd1 x.β) p.1 c p.2∧x.fine p.2:=by
    intro i
    cases hi:(flat t xs)[i]? with
    | none=>exact ⟨(undef,[]),fun c hc=>by cases hc⟩
    | some c =>
      obtain ⟨u,hu,fp,h1,h2⟩:=h i c hi
      exact ⟨(u,fp),fun c' hc'=>by cases hc'; exact ⟨hu,h1,h2⟩⟩
  have hex:∃ f:Nat→Value × List Nat,∀ (i:Nat) (c:Cell),(flat t xs)[i]? = some c→cur[i]? = some (f i).1∧Rd x.w (zd1 x.β) (f i).1 c (f i).2∧x.fine (f i).2 :=
    ⟨fun i=>Classical.choose (hch i),fun i=>Classical.choose_spec (hch i)⟩
  obtain ⟨f,hF⟩:=hex
  refine ⟨_,.sl g 0 xs.length cap t xs (fun i=>(f i).1) (fun i=>(f i).2) rfl hc (fun i c hi=>?_) (fun i c hi=>(hF i c hi).2.1),?_⟩
  · simp only[Nat.zero_add]
    rw[cell_of_row x.w g i cur T (0,0) hg]; exact (hF i c hi).1
  · intro b hb
    rcases List.mem_cons.1 hb with rfl | hb
    · exact ⟨(Array.getElem?_eq_some_iff.1 hg).1,hf,hav⟩
    · obtain ⟨i,hi,hb⟩:=List.mem_flatMap.1 hb
      have hi':=List.mem_range.1 hi
      exact (hF i _ (List.getElem?_eq_getElem hi')).2.2 b hb
theorem OwnI.rdx {x:Cx} {ys:List Int} {v:Value} (h:OwnI x ys v) (hf:∀ k∈zaE v,¬ Top x.lk x.β k∧x.av k):x.rd v (.sl .int ys):=by
  rcases h with ⟨h0,ad,h1⟩ | ⟨g1,cap1,cur1,T1,r1,r2,r3,r4,r5,r6,r7⟩
  · subst h0; subst h1; exact ⟨[],.emp ad .int 0,by intro b hb; cases hb⟩
  · have hg1:g1∈zaE v:=by rw[r1]; cases cap1 with | zero=>omega | succ k=>simp[zaE]
    have hcl:=hf g1 hg1
    rw[r1]
    exact zhj r3 r5 hcl.1 hcl.2 r7
theorem zgg.rdx {x:Cx} {u b:Value} {c:Cell} (h:zgg x u c b) (hf:∀ k∈zaE b,¬ Top x.lk x.β k∧x.av k):x.rd u c:=by
  cases c with
  | int k n=>exact h.2
  | bool b=>exact h.2
  | str s=>exact h.2
  | sl t xs =>
    cases t with
    | int=>exact h.2.rdx (by rw[← h.1]; exact hf)
    | _=>exact h.elim
  | tok k=>exact h.elim
  | any=>exact h.elim
theorem DeepTop0.rdx {x:Cx} {rs:List ST.rat.El} {u:Value} {us:List Value} (h:DeepTop0 x rs u us) (hf:∀ k∈zaE (.tuple (u :: us).toArray),¬ Top x.lk x.β k∧x.av k):x.rd u (.sl .rat rs):=by
  rcases h with ⟨h0,ad,h1⟩ | ⟨g1,cap1,cur1,T1,r1,r2,r3,r4,r5,r6,r7⟩
  · subst h0; subst h1; exact ⟨[],.emp ad .rat 0,by intro b hb; cases hb⟩
  · have hg1:g1∈zmw u:=by rw[r1]; cases cap1 with | zero=>omega | succ k=>simp[zmw]
    have hcl:=hf g1 (zky (List.mem_cons_self ..) hg1)
    rw[r1]
    exact zhj (t := .rat) r3 r5 hcl.1 hcl.2 fun i c hc=>by
      obtain ⟨u,b,q1,q2,q3⟩:=r7 i c hc
      exact ⟨u,q1,q3.rdx fun k hk=>hf k (zky (List.mem_cons_of_mem _ (List.mem_of_getElem? q2)) (by rw[← q3.top]; exact hk))⟩
theorem zcB.rdx {x:Cx} {u b:Value} {c:Cell} (h:zcB x u c b) (hf:∀ k∈zaE b,¬ Top x.lk x.β k∧x.av k):x.rd u c:=by
  cases c with
  | int k n=>exact h.2
  | bool b=>exact h.2
  | str s=>exact h.2
  | sl t xs =>
    cases t with
    | int=>exact h.2.rdx (by rw[← h.1]; exact hf)
    | rat =>
      obtain ⟨us,h1,h2,h3⟩:=h
      exact h3.rdx (by rw[← h1]; exact hf)
    | _=>exact h.elim
  | tok k=>exact h.elim
  | any=>exact h.elim
theorem zgO {n m:Nat} {es:List (Nat × Ent)} {fr:Bool} {t:ST} {xs:List t.El} (h:look m (Go.Di.freeze1 n es)=some (.deep fr t xs)):∃ fr',look m es=some (.deep fr' t xs):=by
  rw[look_freeze1] at h
  split at h
  · cases hl:look m es with
    | none=>rw[hl] at h; cases h
    | some e =>
      rw[hl] at h
      cases e with
      | box l=>simp[frz] at h
      | arr f u ys=>simp[frz] at h
      | pool k=>simp[frz] at h
      | deep f u ys=>simp only[Option.map_some,frz,Option.some.injEq] at h; cases h; exact ⟨f,rfl⟩
  · exact ⟨fr,h⟩
theorem Gam.freeze1 (g:Gam C s X β tm w) (n:Nat):Gam C ⟨s.env,Go.Di.freeze1 n s.ents⟩ X β tm w:=by
  have htop:∀ b,Top (fun m=>look m (Go.Di.freeze1 n s.ents)) β b→Top (fun m=>look m s.ents) β b:=by
    rintro b ⟨m,e,v,h1,h2,h3,h4⟩
    simp only[look_freeze1] at h1
    split at h1
    · cases hl:look m s.ents with
      | none=>simp[hl] at h1
      | some f =>
        simp[hl] at h1; subst h1
        exact ⟨m,f,v,hl,by cases f<;>simp_all [frz,Ent.mut],h3,h4⟩
    · exact ⟨m,e,v,h1,h2,h3,h4⟩
  have hle:Le (cx C s β w) (cx C ⟨s.env,Go.Di.freeze1 n s.ents⟩ β w) fun _=>True:=by
    refine ⟨fun _ h=>h,fun _ _ _=>rfl,Nat.le_refl _,fun b _ _ h=>htop b h,fun m _=>?_,fun m _ _ fr t xs h=>(zgO h).elim fun f hf=>⟨f,hf,rfl⟩,fun _ _ h=>h⟩
    simp only[cx,look_freeze1]
    split
    · cases hl:look m s.ents with
      | none=>left; simp
      | some f =>
        right; left; refine ⟨trivial,?_⟩
        cases f with
        | box l=>left; simp[frz]
        | arr fr t xs=>right; right; left; exact ⟨fr,true,t,xs,xs,by simp,by simp[frz],rfl⟩
        | deep fr t xs=>right; right; right; exact ⟨fr,true,t,xs,by simp,by simp[frz]⟩
        | pool k=>left; simp[frz]
    · exact .inr (.inl ⟨trivial,.inl rfl⟩)
  refine ⟨g.len,fun t av hx h=>hle.av (zkG av) (g.env t av hx h),fun m e v h1 h2=>?_,?_,fun b h=>g.fresh b (htop b h),g.kb,g.below,fun m v hp hl=>g.pin m v hp (by
    simp only[look_freeze1] at hl
    split at hl
    · cases hl':look m s.ents with
      | none=>simp[hl'] at hl
      | some f=>rfl
    · exact hl),g.np,fun m e h=>by
      simp only[look_freeze1] at h
      split at h
      · cases hl':look m s.ents with
        | none=>simp[hl'] at h
        | some f=>exact g.bs m f hl'
      · exact g.bs m e h,g.fx,fun π h=>⟨(g.tk π h).1,by rw[look_freeze1]; split<;>simp[(g.tk π h).2]⟩⟩
  · simp only [look_freeze1] at h1
    have old:∀ e,look m s.ents=some e→EntOk (cx C ⟨s.env,Go.Di.freeze1 n s.ents⟩ β w) e v:=fun e h =>
      EntOk.le hle (by cases e<;>first | exact ze3 _ | trivial) (fun _ _ _=>rfl) (g.ents m e v h h2)
    split at h1
    · rename_i hmn
      cases hl:look m s.ents with
      | none=>simp[hl] at h1
      | some f =>
        simp[hl] at h1; subst h1
        cases f with
        | box l=>exact old _ hl
        | pool k=>exact old _ hl
        | deep fr t xs =>
          cases fr with
          | true=>exact old _ hl
          | false =>
            obtain ⟨sv,us,e1,hus,hnd,hcd,hT⟩:=old _ hl
            refine ⟨sv,us,e1,hcd,?_⟩
            have clean:∀ k∈zaq v,(cx C ⟨s.env,Go.Di.freeze1 n s.ents⟩ β w).fine [k]:=fun k hk b hb=>by
              have:=List.mem_singleton.1 hb; subst this
              have hf:=g.fresh b ⟨m,_,_,hl,rfl,h2,hk⟩
              refine ⟨hf.2,?_,.inl hf.1⟩
              rintro ⟨k',e,u,q1,q2,q3,q4⟩
              have q1:=q1; simp only[cx,look_freeze1] at q1
              split at q1
              · rename_i hk'
                have hkm:k'=m:=by rw[hk',hmn]
                subst hkm
                rw[hl] at q1; simp[frz] at q1; subst q1; simp[Ent.mut] at q2
              · rename_i hk'
                have:=g.uniq k' m e (.deep false t xs) u _ b q1 hl q2 rfl q3 h2 q4 hk
                exact hk' (by rw[this,hmn])
            have hin:∀ u∈sv :: us,∀ k∈zaE u,k∈zaq v:=fun u hu k hk=>by rw[e1]; exact List.mem_flatMap.2 ⟨u,by simpa using hu,hk⟩
            rcases hT with h0 | ⟨gb,cap,cur,T,k1,k2,k3,k4,k5,k6,k7⟩
            · exact .inl h0
            · have hgb:gb∈zaE sv:=by rw[k1]; cases cap with | zero=>omega | succ k=>simp[zaE]
              refine .inr ⟨gb,cap,k1,k3,clean gb (hin sv (List.mem_cons_self ..) gb hgb),fun i c hc=>?_⟩
              obtain ⟨u,b,q1,q2,q3⟩:=k7 i c hc
              refine ⟨u,b,by rw[Nat.zero_add,cell_of_row _ _ i cur T (0,0) k5]; exact q1,q2,q3.rdx fun k hk=>?_,fun ys hys=>?_,fun rs hrs=>?_⟩
              · have hcl:=clean k (hin b (List.mem_cons_of_mem _ (List.mem_of_getElem? q2)) k hk) k (List.mem_cons_self ..)
                exact ⟨hcl.2.1,hcl.2.2⟩
              · subst hys; exact q3.1
              · subst hrs
                obtain ⟨us,h1,_⟩:=q3
                exact ⟨_,h1,by simp⟩
        | arr fr t xs =>
          cases fr with
          | true=>exact old _ hl
          | false =>
            have ho:=old _ hl
            rcases ho with ⟨h0,a,ha⟩ | ⟨gb,cap,cur,T,k1,k2,k3,k4,k5,k6,k7⟩
            · subst h0; subst ha; exact ⟨[],.emp a t 0,by intro b hb; cases hb⟩
            · subst k1
              have hgb:gb∈zaq (.slice (some ⟨gb,0,none⟩) xs.length cap):=by cases cap with | zero=>omega | succ k=>simp[zaq]
              refine zhj k3 k5 ?_ (.inl (g.fresh gb ⟨m,_,_,hl,rfl,h2,hgb⟩).1) k7
              rintro ⟨k,e,u,q1,q2,q3,q4⟩
              have q1:=q1; simp only[cx,look_freeze1] at q1
              split at q1
              · rename_i hk
                have hkm:k=m:=by rw[hk,hmn]
                subst hkm
                rw[hl] at q1; simp[frz] at q1; subst q1; simp[Ent.mut] at q2
              · rename_i hk
                have:=g.uniq k m e (.arr false t xs) u _ gb q1 hl q2 rfl q3 h2 q4 hgb
                exact hk (by rw[this,hmn])
    · exact old e h1
  · intro k m e f u v b h1 h2 h3 h4 h5 h6 h7 h8
    have back:∀ m e,look m (Go.Di.freeze1 n s.ents)=some e→e.mut=true→∃ e',look m s.ents=some e'∧e'.mut=true:=by
      intro m e h hm
      simp only[look_freeze1] at h
      split at h
      · cases hl:look m s.ents with
        | none=>simp[hl] at h
        | some f=>simp[hl] at h; subst h; exact ⟨f,rfl,by cases f<;>simp_all [frz,Ent.mut]⟩
      · exact ⟨e,h,hm⟩
    obtain ⟨e',he,hem⟩:=back k e h1 h3
    obtain ⟨f',hf,hfm⟩:=back m f h2 h4
    exact g.uniq k m e' f' u v b he hf hem hfm h5 h6 h7 h8
theorem Gam.zau (g:Gam C s X β tm w):∀ l,Gam C ⟨s.env,Go.Di.zau l s.ents⟩ X β tm w:=fun l=>by
  induction l generalizing s with
  | nil=>exact g
  | cons a r ih =>
    simp only[Go.Di.zau]
    have h1:Gam C ⟨s.env,a.freeze s.ents⟩ X β tm w:=by
      cases a<;>simp only[A1.freeze]<;>first | exact g | exact g.freeze1 _
    exact ih h1
/-! ### Stores -/
def Same (e e':Ent):Prop:=(∃ l l',e = .box l∧e' = .box l')∨∃ (t:ST) (xs xs':List t.El),e = .arr false t xs∧e' = .arr false t xs'∧xs'.length=xs.length
theorem Gam.write (g:Gam C s X β tm w) {n:Nat} {e e':Ent} {v:Value} (hl:look n s.ents=some e) (hs:Same e e') (hv:β n=some v)
    (hw:∀ b,b ∉ zaq v→w'.heap[b]? = w.heap[b]?) (hsz:w'.heap.size=w.heap.size) (hbel:Kp C.keep w w')
    (he:Le (cx C s β w) (cx C ⟨s.env,put n e' s.ents⟩ β w') (fun _=>True)→EntOk (cx C ⟨s.env,put n e' s.ents⟩ β w') e' v) :
    Gam C ⟨s.env,put n e' s.ents⟩ X β tm w':=by
  have hm:e.mut=true:=by rcases hs with ⟨l,l',rfl,rfl⟩ | ⟨t,xs,xs',rfl,rfl,_⟩<;>rfl
  have hm':e'.mut=true:=by rcases hs with ⟨l,l',rfl,rfl⟩ | ⟨t,xs,xs',rfl,rfl,_⟩<;>rfl
  have htop:∀ b,Top (fun m=>look m (put n e' s.ents)) β b→Top (fun m=>look m s.ents) β b:=by
    rintro b ⟨m,f,u,h1,h2,h3,h4⟩
    simp only[za6] at h1
    split at h1
    · rename_i h; subst h; cases h1; exact ⟨m,e,u,hl,hm,h3,h4⟩
    · exact ⟨m,f,u,h1,h2,h3,h4⟩
  have hle:Le (cx C s β w) (cx C ⟨s.env,put n e' s.ents⟩ β w') fun _=>True:=by
    refine ⟨fun _ h=>h,fun b hlt hnt=>hw b fun hb=>hnt ⟨n,e,v,hl,hm,hv,hb⟩,by simp[cx,hsz],fun b _ _ h=>htop b h,fun m _=>?_,fun m _ _ fr t xs h=>⟨fr,?_,rfl⟩,fun _ _ h=>h⟩
    simp only[cx,za6]
    split
    · rename_i h; subst h
      right; left; refine ⟨trivial,?_⟩
      rcases hs with ⟨l,l',rfl,rfl⟩ | ⟨t,xs,xs',rfl,rfl,hx⟩
      · right; left; exact ⟨l,l',hl,rfl⟩
      · right; right; left; exact ⟨false,false,t,xs,xs',hl,rfl,hx⟩
    · exact .inr (.inl ⟨trivial,.inl rfl⟩)
    · have h:look m (put n e' s.ents)=some (.deep fr t xs):=h
      rw[za6] at h
      split at h
      · cases h
        rcases hs with ⟨l,l',_,h2⟩ | ⟨t,xs,xs',_,h2,_⟩<;>cases h2
      · exact h
  refine ⟨g.len,fun t av hx h=>hle.av (zkG av) (g.env t av hx h),fun m f u h1 h2=>?_,?_,fun b h=>?_,by rw[hsz]; exact g.kb,g.below.trans hbel,fun m u hp hlk=>?_,g.np,fun m f h=>?_,g.fx,fun π h=>⟨(g.tk π h).1,?_⟩⟩
  · simp only[za6] at h1
    split at h1
    · rename_i h; subst h; cases h1; rw[hv] at h2; cases h2; exact he hle
    · rename_i hmn
      refine EntOk.le hle (by cases f<;>first | exact ze3 _ | trivial) (fun b hb hfm=>hw b fun hb'=>?_) (g.ents m f u h1 h2)
      exact hmn (g.uniq m n f e u v b h1 hl hfm hm h2 hv hb hb')
  · intro k m f1 f2 u1 u2 b h1 h2 h3 h4 h5 h6 h7 h8
    have back:∀ m f,look m (put n e' s.ents)=some f→f.mut=true→∃ f',look m s.ents=some f'∧f'.mut=true:=by
      intro m f h hfm
      simp only[za6] at h
      split at h
      · rename_i hh; subst hh; exact ⟨e,hl,hm⟩
      · exact ⟨f,h,hfm⟩
    obtain ⟨e1,q1,q2⟩:=back k f1 h1 h3
    obtain ⟨e2,q3,q4⟩:=back m f2 h2 h4
    exact g.uniq k m e1 e2 u1 u2 b q1 q3 q2 q4 h5 h6 h7 h8
  · rw[hsz]; exact g.fresh b (htop b h)
  · simp only[za6] at hlk
    split at hlk
    · rename_i hh; subst hh; exact g.pin m u hp (by rw[hl]; rfl)
    · exact g.pin m u hp hlk
  · simp only[za6] at h
    split at h
    · rename_i hh; subst hh; exact g.bs m e hl
    · exact g.bs m f h
  · rw[za6]
    split
    · rename_i hh; subst hh; rw[(g.tk π h).2] at hl; cases hl
    · exact (g.tk π h).2
end
end Go.Di
open Go.RowKit (Below)
namespace Go.Di
def zzZ:TypeDesc→Bool
  | .struct _ | .array _ _=>true
  | _=>false
def zPJ:A1→Value→Bool
  | .d (.int k n),.int k' m=>zhr k k' && n==m
  | .d (.bool b),.bool c=>b==c
  | .d (.str s),.string u=>s.data.toList==[] && u.data.toList==[]
  | .mt,.slice _ 0 0=>true
  | .bot,v=>v.oneCell'
  | _,_=>false
def zOk:List A1→List Value→Bool
  | [],[]=>true
  | a :: l,v :: vs=>zPJ a v && zOk l vs
  | _,_=>false
def zeroOf:ST→List A1
  | t=>t.kinds.map fun
  | .int k => .d (.int k 0)
  | .bool => .d (.bool false)
  | .str => .d (.str ByteArray.empty)
  | .sl _ => .mt
  | .nat | .tok | .any => .bot
def zRg (P:Program) (E:TypeId) (e:ST):Prop :=
  ∃ (inf:TypeInfo) (z:Value),P.info? E=some inf∧inf.size=e.size∧inf.bytes≤256∧inf.zero=some z∧zOk (zeroOf e) z.cells.toList=true
def zFp (P:Program) (fd:Field) (off k:Nat) (g:Bool):Prop :=
  fd.offset=off∧0 < k∧∃ (inf:TypeInfo) (d:TypeDesc),P.info? fd.type=some inf∧inf.size=k∧P.underlying fd.type=some d∧zzZ d=g
def zhV (P:Program):List Field→List (Nat × Nat × Bool)→Prop
  | [],[]=>True
  | fd :: fs,(off,k,g) :: l=>zFp P fd off k g∧zhV P fs l
  | _,_=>False
def zg1 (P:Program) (t:TypeId) (i:TI):Prop :=
  ∃ (inf:TypeInfo) (d:TypeDesc) (z:Value),P.info? t=some inf∧P.underlying t=some d∧inf.size=i.zero.length∧zzZ d=i.agg ∧
    inf.zero=some z∧zOk i.zero z.cells.toList=true ∧
    (i.strct=true→∃ fs,d = .struct fs∧z = .agg z.cells∧zhV P fs.toList i.fields) ∧
    (∀ e,i.elem=some e→∃ E,d = .slice E∧zRg P E e) ∧
    (∀ k,i.scal=some (.int k)→d = .int k)∧(i.scal=some .str→d = .string)∧(i.scal=some .bool→d = .bool)∧(i.agg=false→i.zero.length=1) ∧
    (i.elem=some .byte→∃ E,d = .slice E∧P.underlying E=some (.int .u8))
def zcC (P:Program) (lay:List (TypeId × TI)):Prop:=∀ t i,zcm t lay=some i→zg1 P t i
theorem zgQ {k k':IntKind} (h:zhr k k'=true):k=k':=by cases k<;>cases k'<;>first | rfl | (simp[zhr] at h)
theorem zKq {x:Cx} {v:Value} {k:IntKind} {n:Int} (h:x.rd v (.int k n)):v = .int k n:=by obtain ⟨fp,h,_⟩:=h; cases h; rfl
theorem zLn {x:Cx} {v:Value} {b:Bool} (h:x.rd v (.bool b)):v = .bool b:=by obtain ⟨fp,h,_⟩:=h; cases h; rfl
theorem zNS {x:Cx} {v:Value} {s:ByteArray} (h:x.rd v (.str s)):v = .string s:=by obtain ⟨fp,h,_⟩:=h; cases h; rfl
theorem zKv {x:Cx} {k:IntKind} {n:Int}:x.rd (.int k n) (.int k n):=⟨[],.int k n,by intro b hb; cases hb⟩
theorem zCc {x:Cx} {b:Bool}:x.rd (.bool b) (.bool b):=⟨[],.bool b,by intro b hb; cases hb⟩
theorem zKu {x:Cx} {s:ByteArray}:x.rd (.string s) (.str s):=⟨[],.str s,by intro b hb; cases hb⟩
theorem zAQ {x:Cx} {a:A1} {v:Value} (h:zPJ a v=true):A1Ok x a v∧v.oneCell'=true:=by
  unfold zPJ at h
  split at h
  · simp at h; obtain ⟨h1,rfl⟩:=h; rw[zgQ h1]; exact ⟨zKv,rfl⟩
  · simp at h; subst h; exact ⟨zCc,rfl⟩
  · rename_i s u
    simp only[Bool.and_eq_true,beq_iff_eq] at h
    have e1:s=u:=by
      cases s with | mk a=>cases u with | mk b =>
      congr 1; exact Array.ext' (by rw[h.1,h.2])
    rw[e1]; exact ⟨zKu,rfl⟩
  · exact ⟨⟨_,rfl⟩,rfl⟩
  · exact ⟨trivial,h⟩
  · cases h
theorem zmb {x:Cx}:∀ {l:List A1} {vs:List Value},zOk l vs=true→zck x l vs
  | [],[],_=>trivial
  | a :: l,v :: vs,h=>by
    simp only[zOk,Bool.and_eq_true] at h
    exact ⟨(zAQ (x:=x) h.1).1,(zAQ (x:=x) h.1).2,zmb h.2⟩
  | [],_ :: _,h=>by cases h
  | _ :: _,[],h=>by cases h
theorem zck.length {x:Cx}:∀ {l:List A1} {vs:List Value},zck x l vs→l.length=vs.length
  | [],[],_=>rfl
  | _ :: l,_ :: vs,⟨_,_,h⟩=>by simp[h.length]
  | [],_ :: _,h=>h.elim
  | _ :: _,[],h=>h.elim
theorem zf2 {x:Cx} {b:Bool} {v:Value} (h:zaR x (.v false [.d (.bool b)]) v):v = .bool b:=by
  obtain ⟨a,h1,h2,_⟩:=h; cases h1; exact zLn h2
theorem zd9 {x:Cx} {k:IntKind} {n:Int} {v:Value} (h:zaR x (.v false [.d (.int k n)]) v):v = .int k n:=by
  obtain ⟨a,h1,h2,_⟩:=h; cases h1; exact zKq h2
theorem zk4 {x:Cx} {s:ByteArray} {v:Value} (h:zaR x (.v false [.d (.str s)]) v):v = .string s:=by
  obtain ⟨a,h1,h2,_⟩:=h; cases h1; exact zNS h2
theorem zbT {x:Cx} {a:A1} {v:Value} (h:A1Ok x a v) (h1:v.oneCell'=true):zaR x (.one a) v:=⟨a,rfl,h,.inr h1⟩
theorem zbM {x:Cx} {b:Bool}:zaR x (.one (.d (.bool b))) (.bool b):=zbT zCc rfl
theorem zaS {x:Cx} {k:IntKind} {n:Int}:zaR x (.one (.d (.int k n))) (.int k n):=zbT zKv rfl
theorem zk5 {x:Cx} {s:ByteArray}:zaR x (.one (.d (.str s))) (.string s):=zbT zKu rfl
theorem zMU {x:Cx}:zaR x (.tup []) undef:=⟨#[],rfl,trivial⟩
theorem zyx {x:Cx} {v:Value} (h:zaR x (.tup []) v):v=undef:=by
  obtain ⟨vs,h1,h2⟩:=h
  subst h1
  cases hv:vs.toList with
  | nil=>rw[Array.toList_eq_nil_iff] at hv; rw[hv]; rfl
  | cons a l=>rw[hv] at h2; exact h2.elim
theorem zk6 {x:Cx} {v:Value}:zaR x .bot v:=⟨.bot,rfl,trivial,.inl rfl⟩
theorem zIN {x:Cx} {g:Bool} {l:List A1} {v:Value} (h:VOk x g l v) (hb:g=false→l≠[.bot]):zck x l v.cells.toList:=by
  cases g with
  | true=>obtain ⟨vs,rfl,h⟩:=h; exact h
  | false =>
    obtain ⟨a,rfl,h1,h2⟩:=h
    have h3:v.oneCell'=true:=h2.resolve_left fun e=>hb rfl (by rw[e])
    have:v.cells=#[v]:=by cases v<;>first | rfl | (simp[Value.oneCell'] at h3)
    rw[this]; exact ⟨h1,h3,trivial⟩
section
variable {P:Program} {C:Bs} {w w':World} {s s':St} {X:Nat→Prop} {β:Nat→Option Value} {a:Act} {o:Oper}
theorem zlc (g:Gam C s X β a.tmps w) {x:Operand} (hx:∀ t,x = .tmp t→¬ X t):zaR (cx C s β w) (zaW s x) (a.eval x):=by
  cases x with
  | tmp t =>
    simp only[zaW,St.get,Act.eval]
    cases h:s.env[t]? with
    | none=>rw[List.getD_eq_getElem?_getD,h]; exact zk6
    | some av=>rw[List.getD_eq_getElem?_getD,h]; exact g.env t av (hx t rfl) h
  | const v =>
    simp only[Act.eval]
    unfold zaW
    split<;>rename_i hv<;>try (first | exact zk6)
    all_goals (cases hv)
    · exact zaS
    · exact zbM
    · exact zk5
    · exact zbT ⟨_,rfl⟩ rfl
  | global g=>exact zk6
  | func f=>exact zbT ⟨#[],rfl,rfl,fun i cs h=>by simp at h⟩ rfl
theorem zdX {K:Act→World→Prop} {Q:Exit→Act→World→Prop} {v:Value} (h:(execOp a.eval o).run P w = .ok (.value v) w') (hk:K (a.put o.dst v) w'):o.wp P a w K Q:=by
  unfold Oper.wp; rw[h]; exact hk
theorem zhf {K:Act→World→Prop} {Q:Exit→Act→World→Prop} (h:(execOp a.eval o).run P w = .ok .skip w') (hk:K (a.put o.dst undef) w'):o.wp P a w K Q:=by
  unfold Oper.wp; rw[h]; exact hk
def Goes (C:Bs) (X:Nat→Prop) (o:Oper) (a:Act) (av:AV) (s':St) (K:Act→World→Prop):Prop :=
  ∀ v w' β',Gam C s' X β' a.tmps w'→zaR (cx C s' β' w') av v→K (a.put o.dst v) w'
theorem zio (b off n:Nat):(⟨b,off,none⟩:Addr).add n=⟨b,off+n,none⟩:=by
  unfold Addr.add; split<;>simp_all
theorem zm9 {t:TypeId} {d:TypeDesc} {inf:TypeInfo} (hu:P.underlying t=some d) (hi:P.info? t=some inf) (b off:Nat) (cs:List Value)
    (hd:zzZ d=true) (hs:inf.size=cs.length) (h:∀ j v,cs[j]? = some v→w.cell? ⟨b,off+j,none⟩=some v) :
    (loadVar t ⟨b,off,none⟩).run P w = .ok (.agg cs.toArray) w:=by
  have hl:=run_loadCells_list (P:=P) w ⟨b,off,none⟩ cs (fun j v hv=>by rw[zio]; exact h j v hv)
  have ha:(isAgg t).run P w = .ok true w:=by
    simp only[isAgg,Sem.run_bind,run_underlying hu,Result.andThen]
    cases d<;>first | rfl | (simp[zzZ] at hd)
  simp[loadVar,ha,sizeOf,typeInfo,hi,hs,hl]
theorem zm8 {t:TypeId} {d:TypeDesc} (hu:P.underlying t=some d) (b off:Nat) (v:Value)
    (hd:zzZ d=false) (h:w.cell? ⟨b,off,none⟩=some v):(loadVar t ⟨b,off,none⟩).run P w = .ok v w:=by
  have ha:(isAgg t).run P w = .ok false w:=by
    simp only[isAgg,Sem.run_bind,run_underlying hu,Result.andThen]
    cases d<;>first | rfl | (simp[zzZ] at hd)
  simp[loadVar,ha,h]
end
end Go.Di
open Go.RowKit (Below)
namespace Go.Di
theorem znP {n:Nat} {p:Nat→Value→Prop} (h:∀ j,j < n→∃ v,p j v):∃ vs:List Value,vs.length=n∧∀ (j:Nat) v,vs[j]? = some v→p j v:=by
  induction n with
  | zero=>exact ⟨[],rfl,fun j v h=>by simp at h⟩
  | succ n ih =>
    obtain ⟨vs,hl,hv⟩:=ih fun j hj=>h j (by omega)
    obtain ⟨v,hn⟩:=h n (by omega)
    refine ⟨vs++[v],by simp[hl],fun j u hu=>?_⟩
    rcases Nat.lt_or_ge j vs.length with hj | hj
    · rw[List.getElem?_append_left hj] at hu; exact hv j u hu
    · rw [List.getElem?_append_right hj] at hu
      have:j - vs.length=0:=by
        rcases Nat.eq_zero_or_pos (j - vs.length) with h0 | h0
        · exact h0
        · rw[List.getElem?_eq_none (by simp; omega)] at hu; cases hu
      rw[this] at hu; simp at hu; subst hu
      have hjn:j=n:=by omega
      rw[hjn]; exact hn
theorem zhh {α:Type}:∀ (n:Nat) (l:List α),zbb n l=(l.take n,l.drop n)
  | 0,l=>by simp[zbb]
  | n+1,[]=>by simp[zbb]
  | n+1,a :: l=>by simp[zbb,zhh n l]
theorem zkd {off k:Nat} {l c:List A1} (h:window off k l=some c):c=(l.drop off).take k∧c.length=k:=by
  unfold window at h
  simp only[zhh] at h
  split at h
  · rename_i hb; cases h; exact ⟨rfl,by simpa using hb⟩
  · cases h
theorem zyK {off k:Nat} {l c:List A1} (h:window off k l=some c) {j:Nat} {a:A1} (hj:c[j]? = some a):l[off+j]? = some a∧j < k:=by
  obtain ⟨rfl,hl⟩:=zkd h
  have hlt:j < k:=by have:=(List.getElem?_eq_some_iff.1 hj).1; omega
  rw[List.getElem?_take_of_lt hlt,List.getElem?_drop] at hj
  exact ⟨hj,hlt⟩
theorem zfI:∀ (off:Nat) (c l l':List A1),patch off c l=some l'→off+c.length≤l.length∧l'=l.take off++c++l.drop (off+c.length)
  | 0,[],l,l',h=>by simp only[patch] at h; cases h; simp
  | 0,_ :: _,[],l',h=>by cases h
  | 0, a :: x,b :: l,l',h=>by
    simp only[patch] at h
    split at h
    · rename_i r hr
      cases h
      obtain ⟨h1,h2⟩:=zfI 0 x l r hr
      simp only[Nat.zero_add] at h1 h2
      constructor
      · simp; omega
      · subst h2; simp
    · cases h
  | n+1,x,[],l',h=>by cases h
  | n + 1,x,b :: l,l',h=>by
    simp only[patch] at h
    split at h
    · rename_i r hr
      cases h
      obtain ⟨h1,h2⟩:=zfI n x l r hr
      constructor
      · simp; omega
      · subst h2
        have:n+1+x.length=(n+x.length)+1:=by omega
        simp[this]
    · cases h
theorem zck.get {x:Cx}:∀ {l:List A1} {vs:List Value},zck x l vs→∀ {j:Nat} {a:A1},l[j]? = some a→∃ v,vs[j]? = some v∧A1Ok x a v∧v.oneCell'=true
  | [],[],_,j,a,h=>by simp at h
  | b :: l,v :: vs,⟨h1,h2,h3⟩,0,a,h=>by simp at h; subst h; exact ⟨v,rfl,h1,h2⟩
  | b :: l,v :: vs,⟨h1,h2,h3⟩,j+1,a,h=>by simp at h; obtain ⟨u,hu,k⟩:=h3.get h; exact ⟨u,by simpa using hu,k⟩
  | [],_ :: _,h,_,_,_=>h.elim
  | _ :: _,[],h,_,_,_=>h.elim
theorem zck.mk {x:Cx}:∀ {l:List A1} {vs:List Value},l.length=vs.length→(∀ (j:Nat) (a:A1) v,l[j]? = some a→vs[j]? = some v→A1Ok x a v∧v.oneCell'=true)→zck x l vs
  | [],[],_,_=>trivial
  | b :: l,v :: vs,hl,h=>⟨(h 0 b v rfl rfl).1,(h 0 b v rfl rfl).2,zck.mk (by simpa using hl) fun j a u h1 h2=>h (j+1) a u (by simpa using h1) (by simpa using h2)⟩
  | [],_ :: _,h,_=>by cases h
  | _ :: _,[],h,_=>by cases h
theorem zck.append {x:Cx}:∀ {l m:List A1} {vs us:List Value},zck x l vs→zck x m us→zck x (l++m) (vs++us)
  | [],_m,[],_us,_,h=>h
  | _a :: _l,_m,_v :: _vs,_us,⟨h1,h2,h3⟩,h=>⟨h1,h2,h3.append h⟩
  | [],_,_ :: _,_,h,_=>h.elim
  | _ :: _,_,[],_,h,_=>h.elim
theorem zck.take {x:Cx}:∀ {l:List A1} {vs:List Value} (n:Nat),zck x l vs→zck x (l.take n) (vs.take n)
  | l,vs,0,h=>by simp; trivial
  | [],[],n+1,_=>trivial
  | a :: l,v :: vs,n+1,⟨h1,h2,h3⟩=>⟨h1,h2,h3.take n⟩
  | [],_ :: _,_+1,h=>h.elim
  | _ :: _,[],_+1,h=>h.elim
theorem zck.drop {x:Cx}:∀ {l:List A1} {vs:List Value} (n:Nat),zck x l vs→zck x (l.drop n) (vs.drop n)
  | _l,_vs,0,h=>h
  | [],[],_n+1,_=>trivial
  | _a :: _l,_v :: _vs,n+1,⟨_h1,_h2,h3⟩=>h3.drop n
  | [],_ :: _,_+1,h=>h.elim
  | _ :: _,[],_+1,h=>h.elim
theorem zck.one {x:Cx}:∀ {l:List A1} {vs:List Value},zck x l vs→∀ v∈vs,v.oneCell'=true
  | a :: l,v :: vs,⟨h1,h2,h3⟩,u,hu=>by
    rcases List.mem_cons.1 hu with rfl | hu
    · exact h2
    · exact h3.one u hu
  | [],[],_,u,hu=>by cases hu
  | [],_ :: _,h,_,_=>h.elim
theorem zck.patch {x:Cx} {off:Nat} {c l l':List A1} {us vs:List Value} (h:zck x l vs) (hc:zck x c us) (hp:patch off c l=some l') :
    off+us.length≤vs.length∧zck x l' (vs.take off++us++vs.drop (off+us.length)):=by
  obtain ⟨h1,rfl⟩:=zfI _ _ _ _ hp
  rw[← hc.length,← h.length]
  exact ⟨h1,((h.take off).append hc).append (h.drop _)⟩
section
variable {P:Program} {C:Bs} {w w':World} {s s':St} {X:Nat→Prop} {β:Nat→Option Value} {a:Act} {o:Oper} {t:TypeId} {i:TI} {x y:Operand}
theorem znu {x:Cx} {t:TypeId} {i:TI} (ht:zg1 P t i) {b q off:Nat} {l c:List A1} (hc:∀ (j:Nat) a,l[j]? = some a→∃ v,x.w.cell? ⟨b,q+j,none⟩=some v∧A1Ok x a v∧v.oneCell'=true)
    (hw:window off i.zero.length l=some c):∃ v,(loadVar t ⟨b,q+off,none⟩).run P x.w = .ok v x.w∧VOk x i.agg c v:=by
  obtain ⟨inf,d,z,h1,h2,h3,h4,_,_,_,_,_,_,_,h5,_⟩:=ht
  have hlen:=(zkd hw).2
  have hex:∀ j,j < i.zero.length→∃ v,x.w.cell? ⟨b,q+off+j,none⟩=some v∧∀ a,c[j]? = some a→A1Ok x a v∧v.oneCell'=true:=by
    intro j hj
    have hcj:c[j]? = some (c[j]'(by omega)):=List.getElem?_eq_getElem (by omega)
    obtain ⟨hl,_⟩:=zyK hw hcj
    obtain ⟨v,hv,k⟩:=hc _ _ hl
    refine ⟨v,by rw[Nat.add_assoc]; exact hv,fun a ha=>?_⟩
    rw[hcj] at ha; cases ha; exact k
  obtain ⟨vs,hvl,hvs⟩:=znP hex
  have hok:zck x c vs:=zck.mk (by omega) fun j a v ha hv=>(hvs j v hv).2 a ha
  cases hg:i.agg with
  | true =>
    exact ⟨.agg vs.toArray,zm9 h2 h1 b (q+off) vs (by rw[h4,hg]) (by omega) (fun j v hv=>(hvs j v hv).1),_,rfl,by simpa using hok⟩
  | false =>
    have h1l:=h5 hg
    match c,vs,hlen,hvl,hok,hvs with
    | [a],[v],_,_,⟨k1,k2,_⟩,hvs =>
      exact ⟨v,zm8 h2 b (q+off) v (by rw[h4,hg]) (hvs 0 v rfl).1,a,rfl,k1,.inr k2⟩
    | [],_,hl,_,_,_=>simp at hl; omega
    | _ :: _ :: _,_,hl,_,_,_=>simp at hl; omega
    | [_],[],_,hl,_,_=>simp at hl; omega
    | [_],_ :: _ :: _,_,hl,_,_=>simp at hl; omega
theorem zFa {x:Cx} {l:List A1} {b:Nat} {v:Value} (h:EntOk x (.box l) v) (hv:v = .pointer (some ⟨b,0,none⟩)) :
    ∃ (vs:Array Value) (T:TypeId),x.w.heap[b]? = some (.cells vs T (0,0))∧zck x l vs.toList:=by
  obtain ⟨b',vs,T,h1,h2,h3⟩:=h
  rw[hv] at h1; cases h1; exact ⟨vs,T,h2,h3⟩
theorem zCi (g:Gam C s X β a.tmps w) {n off:Nat} {l:List A1} {v:Value} (hl:look n s.ents=some (.box l)) (hv:A1Ok (cx C s β w) (.lp n off) v) :
    ∃ b vs T,β n=some (.pointer (some ⟨b,0,none⟩))∧v = .pointer (some ⟨b,off,none⟩)∧w.heap[b]? = some (.cells vs T (0,0))∧zck (cx C s β w) l vs.toList:=by
  obtain ⟨b,h1,h2⟩:=hv (by simp[cx,hl])
  obtain ⟨vs,T,h3,h4⟩:=zFa (g.ents n _ _ hl h1) rfl
  exact ⟨b,vs,T,h1,h2,h3,h4⟩
theorem zLD (hL:zg1 P t i) (ho:o.op = .load t x) (g:Gam C s X β a.tmps w) {n off:Nat} {l c:List A1} (hl:look n s.ents=some (.box l))
    (hx:zaR (cx C s β w) (.v false [.lp n off]) (a.eval x)) (hw:window off i.zero.length l=some c) {K Q} (hK:Goes C X o a (.v i.agg c) s K):o.wp P a w K Q:=by
  obtain ⟨a1,h1,h2,_⟩:=hx; cases h1
  obtain ⟨b,vs,T,hb,hv,hh,hok⟩:=zCi g hl h2
  obtain ⟨v,hr,hv'⟩:=znu (x:=cx C s β w) hL (b:=b) (q:=0) (fun j a1 ha=>by
    obtain ⟨u,hu,k⟩:=hok.get ha
    refine ⟨u,?_,k⟩
    simp only[Nat.zero_add]
    show w.cell? _=_
    rw[cell_of_row _ b j vs T (0,0) hh]; simpa using hu) hw
  refine zdX (v:=v) ?_ (hK v w β g hv')
  simp only[Nat.zero_add] at hr
  simp[execOp,ho,Instr.loadAt,Instr.sureAddr,hv]
  have hr:(loadVar t ⟨b,off,none⟩).run P w = .ok v w:=hr
  simp[hr]
theorem zLB (hL:zg1 P t i) (ho:o.op = .load t x) (g:Gam C s X β a.tmps w) {cs:List Cell} {off:Nat} {c:List A1}
    (hx:zaR (cx C s β w) (.v false [.sp cs off]) (a.eval x)) (hw:window off i.zero.length (zbQ cs)=some c) {K Q} (hK:Goes C X o a (.v i.agg c) s K):o.wp P a w K Q:=by
  obtain ⟨a1,h1,h2,_⟩:=hx; cases h1
  obtain ⟨b,q,hv,hc⟩:=h2
  obtain ⟨v,hr,hv'⟩:=znu (x:=cx C s β w) hL (b:=b) (q:=q) (fun j a1 ha=>by
    have hd:∀ (cs:List Cell) (j:Nat) (a1:A1),(zbQ cs)[j]? = some a1→∃ c,cs[j]? = some c∧a1=A1.d c:=by
      intro cs
      induction cs with
      | nil=>intro j a1 h; simp[zbQ] at h
      | cons c r ih =>
        intro j a1 h
        cases j with
        | zero=>simp[zbQ] at h; exact ⟨c,rfl,h.symm⟩
        | succ j=>simp[zbQ] at h; simpa using ih j a1 h
    obtain ⟨cc,h1,rfl⟩:=hd cs j a1 ha
    obtain ⟨u,hu,hr⟩:=hc.2 j cc h1
    obtain ⟨fp,hr1,hr2⟩:=hr
    exact ⟨u,hu,⟨fp,hr1,hr2⟩,hr1.zhm⟩) hw
  refine zdX (v:=v) ?_ (hK v w β g hv')
  simp[execOp,ho,Instr.loadAt,Instr.sureAddr,hv]
  have hr:(loadVar t ⟨b,q+off,none⟩).run P w = .ok v w:=hr
  simp[hr]
end
end Go.Di
open Go.RowKit (Below)
namespace Go.Di
theorem zik {x:Cx} {av:AV} {l:List A1} {v:Value} (h:zaR x av v) (hc:av.cells=some l):zck x l v.cells.toList∧∃ g,av = .v g l:=by
  unfold AV.cells at hc
  split at hc
  · cases hc
  · rename_i g l' hne
    cases hc
    exact ⟨zIN h fun hg hl=>by subst hg; subst hl; exact hne rfl rfl,g,rfl⟩
  · cases hc
theorem zll {x:Cx} {fr:Bool} {t:ST} {xs:List t.El} {v:Value} (h:EntOk x (.arr fr t xs) v) {g q m cap:Nat} (hv:v = .slice (some ⟨g,q,none⟩) m cap) :
    ∀ (i:Nat) (c:Cell),(flat t xs)[i]? = some c→∃ u,x.w.cell? ⟨g,q+i,none⟩=some u∧x.rd u c:=by
  subst hv
  intro i c hi
  cases fr with
  | true =>
    obtain ⟨fp,h1,h2⟩:=h
    cases h1 with
    | emp=>simp[flat] at hi
    | sl b off len cap t xs vals fp hl hc k1 k2 =>
      refine ⟨vals i,k1 i c hi,fp i,k2 i c hi,fun b' hb'=>h2 b' (List.mem_cons_of_mem _ (List.mem_flatMap.2 ⟨i,List.mem_range.2 ?_,hb'⟩))⟩
      exact (List.getElem?_eq_some_iff.1 hi).1
  | false =>
    rcases h with ⟨h0,_⟩ | ⟨g',cap',cur,T,h1,h2,h3,h4,h5,h6,h7⟩
    · subst h0; simp[flat] at hi
    · cases h1
      obtain ⟨u,hu,hr⟩:=h7 i c hi
      exact ⟨u,by rw[Nat.zero_add,cell_of_row _ _ i cur T (0,0) h5]; exact hu,hr⟩
theorem zsl:∀ (cs:List Cell) (j:Nat) (a1:A1),(zbQ cs)[j]? = some a1→∃ c,cs[j]? = some c∧a1=A1.d c
  | [],j,a1,h=>by simp[zbQ] at h
  | c :: r,0,a1,h=>by simp[zbQ] at h; exact ⟨c,rfl,h.symm⟩
  | c :: r,j+1,a1,h=>by simp[zbQ] at h; simpa using zsl r j a1 h
theorem zcY:∀ cs:List Cell,(zbQ cs).length=cs.length
  | []=>rfl
  | c :: r=>by simp[zbQ,zcY r]
section
variable {P:Program} {C:Bs} {w w':World} {s s':St} {X:Nat→Prop} {β:Nat→Option Value} {a:Act} {o:Oper}
  {t:TypeId} {x y:Operand} {i:TI} {K:Act→World→Prop} {Q:Exit→Act→World→Prop}
theorem zLC (hL:zg1 P t i) (ho:o.op = .load t x) (g:Gam C s X β a.tmps w) {n j off:Nat} {fr:Bool} {u:ST} {xs:List u.El} (hl:look n s.ents=some (.arr fr u xs))
    (hx:zaR (cx C s β w) (.v false [.oe n j off]) (a.eval x)) (hb:off+i.zero.length≤u.size) {e:u.El} (he:xs[j]? = some e)
    (hK:Goes C X o a (.v i.agg (zbb i.zero.length (zbb off (zbQ (u.cells e))).2).1) s K):o.wp P a w K Q:=by
  obtain ⟨a1,h1,h2,_⟩:=hx; cases h1
  obtain ⟨_,gb,q,m,cap,hβ,hv⟩:=h2 fr u xs hl
  have hent:=g.ents n _ _ hl hβ
  have hw:window off i.zero.length (zbQ (u.cells e))=some (zbb i.zero.length (zbb off (zbQ (u.cells e))).2).1:=by
    unfold window
    have:Nat.beq (zbb i.zero.length (zbb off (zbQ (u.cells e))).2).1.length i.zero.length=true:=by
      simp only[zhh,List.length_take,List.length_drop,zcY,zao,Nat.beq_eq]; omega
    simp only[this]
  obtain ⟨v,hr,hv'⟩:=znu (x:=cx C s β w) hL (b:=gb) (q:=q+j * u.size) (fun k a1 ha=>by
    obtain ⟨c,h1,rfl⟩:=zsl _ _ _ ha
    have hk:k < u.size:=by have:=(List.getElem?_eq_some_iff.1 h1).1; rwa [zao] at this
    have:=flat_get u xs j e k he hk
    obtain ⟨v,hv,fp,hr1,hr2⟩:=zll hent rfl (j * u.size+k) c (by rw[this]; exact h1)
    exact ⟨v,by rw[Nat.add_assoc]; exact hv,⟨fp,hr1,hr2⟩,hr1.zhm⟩) hw
  refine zdX (v:=v) ?_ (hK v w β g hv')
  have hr:(loadVar t ⟨gb,q+j * u.size+off,none⟩).run P w = .ok v w:=hr
  simp[execOp,ho,Instr.loadAt,Instr.sureAddr,hv,hr]
theorem below_setRow {keep:Nat→Prop} {g:Nat} (h:¬ keep g) (cs:Array Value):Kp keep w (w.setRow g cs) :=
  ⟨rfl,rfl,rfl,by simp[World.setRow],fun k hk=>setRow_other w g k cs (by intro e; subst e; exact h hk)⟩
theorem run_store (hL:zg1 P t i) (ho:o.op = .store t x y) {b off:Nat} {cur:Array Value} {T:TypeId} (hx:a.eval x = .pointer (some ⟨b,off,none⟩))
    (hh:w.heap[b]? = some (.cells cur T (0,0))) (hlen:(a.eval y).cells.size=i.zero.length) (hfit:off+(a.eval y).cells.size≤cur.size) (h1:∀ v∈(a.eval y).cells.toList,v.oneCell'=true) :
    (execOp a.eval o).run P w = .ok .skip (w.setRow b (cur.toList.take off++(a.eval y).cells.toList++cur.toList.drop (off+(a.eval y).cells.size)).toArray):=by
  obtain ⟨inf,d,z,hi,hu,hs,_⟩:=hL
  have hst:=run_storeCells_at P b off T (a.eval y).cells.toList 0 cur w hh (by simpa using hfit) h1
  simp only[Nat.add_zero,Array.length_toList] at hst
  simp[execOp,ho,Instr.storeAt,Instr.sureAddr,hx,storeVar,sizeOf,typeInfo,hi,hs,hlen,hst]
theorem zFK (hL:zg1 P t i) (ho:o.op = .store t x y) (_hd:o.dst=none) (g:Gam C s X β a.tmps w) {n off:Nat} {l l' c:List A1} {av:AV} (hl:look n s.ents=some (.box l))
    (hx:zaR (cx C s β w) (.v false [.lp n off]) (a.eval x)) (hy:zaR (cx C s β w) av (a.eval y)) (hc:av.cells=some c) (hlen:c.length=i.zero.length) (hp:patch off c l=some l')
    (hK:Goes C X o a .bot ⟨s.env,put n (.box l') s.ents⟩ K):o.wp P a w K Q:=by
  obtain ⟨a1,h1,h2,_⟩:=hx; cases h1
  obtain ⟨b,vs,T,hb,hv,hh,hok⟩:=zCi g hl h2
  obtain ⟨hcv,_⟩:=zik hy hc
  obtain ⟨hfit,hnew⟩:=hok.patch hcv hp
  have hcl:=hcv.length
  simp only[Array.length_toList] at hcl hfit
  refine zhf (run_store hL ho hv hh (by omega) hfit hcv.one) (hK undef _ β ?_ zk6)
  have hbt:¬ C.keep b:=(g.fresh b ⟨n,_,_,hl,rfl,hb,by simp[zaq]⟩).1
  refine g.write hl (.inl ⟨l,l',rfl,rfl⟩) hb (fun k hk=>setRow_other w b k _ fun e=>hk (by simp[zaq,e])) (by simp[World.setRow]) (below_setRow hbt _) fun hle=>?_
  refine ⟨b,_,T,rfl,setRow_heap w b vs _ T (0,0) hh,?_⟩
  have:=hle.l1 (ze3 _) hnew
  simpa using this
theorem flat_set (t:ST) (e:t.El):∀ (xs:List t.El) (i:Nat),i < xs.length→flat t (xs.set i e)=(flat t xs).take (i * t.size)++t.cells e++(flat t xs).drop (i * t.size+t.size)
  | [],i,h=>by simp at h
  | x :: r,0,_=>by
    simp only[flat,List.set_cons_zero,List.flatMap_cons,Nat.zero_mul,List.take_zero,List.nil_append,Nat.zero_add]
    rw[List.drop_append_of_le_length (by rw[zao]; exact Nat.le_refl _)]
    rw[List.drop_of_length_le (by rw[zao]; exact Nat.le_refl _)]; simp
  | x :: r,i+1,h=>by
    have ih:=flat_set t e r i (by simpa using h)
    simp only[flat] at ih
    simp only[flat,List.set_cons_succ,List.flatMap_cons,ih]
    have e1:(i+1) * t.size=(t.cells x).length+i * t.size:=by rw[zao,Nat.add_mul]; omega
    rw[e1,List.take_length_add_append,Nat.add_assoc,List.drop_length_add_append]
    simp
theorem zbS {α:Type} (l m n:List α) (i:Nat):(l++m++n)[i]? = if i < l.length then l[i]? else if i < l.length+m.length then m[i - l.length]? else n[i - l.length - m.length]? := by
  rw[List.append_assoc]
  split
  · rename_i h; exact List.getElem?_append_left h
  · rename_i h
    rw[List.getElem?_append_right (by omega)]
    split
    · exact List.getElem?_append_left (by omega)
    · rw[List.getElem?_append_right (by omega)]
theorem zFJ (hL:zg1 P t i) (ho:o.op = .store t x y) (g:Gam C s X β a.tmps w) {n j:Nat} {u:ST} {xs:List u.El} {e:u.El} (hl:look n s.ents=some (.arr false u xs))
    (hx:zaR (cx C s β w) (.v false [.oe n j 0]) (a.eval x)) (hlen:(a.eval y).cells.size=i.zero.length) (hlen':(a.eval y).cells.size=u.size)
    (hel:∀ (k:Nat) (c:Cell),(u.cells e)[k]? = some c→∃ v,(a.eval y).cells[k]? = some v∧(cx C s β w).rd v c) (h1:∀ v∈(a.eval y).cells.toList,v.oneCell'=true)
    (hK:Goes C X o a .bot ⟨s.env,put n (.arr false u (xs.set j e)) s.ents⟩ K):o.wp P a w K Q:=by
  obtain ⟨a1,q1,q2,_⟩:=hx; cases q1
  obtain ⟨hj,gb,q,m,cap,hβ,hv⟩:=q2 false u xs hl
  have hent:=g.ents n _ _ hl hβ
  rcases hent with ⟨h0,_⟩ | ⟨g',cap',cur,T,k1,k2,k3,k4,k5,k6,k7⟩
  · subst h0; simp at hj
  cases k1
  have hpos:=size_pos u
  have hle:(j+1) * u.size≤cap * u.size:=Nat.mul_le_mul_right _ (by omega)
  have hfit:j * u.size+(a.eval y).cells.size≤cur.size:=by rw[k6,hlen',← Nat.succ_mul]; exact hle
  have hv:a.eval x = .pointer (some ⟨gb,j * u.size,none⟩):=by rw[hv]; simp
  refine zhf (run_store hL ho hv k5 hlen hfit h1) (hK undef _ β ?_ zk6)
  have htop:gb∈zaq (.slice (some ⟨gb,0,none⟩) xs.length cap):=by cases cap with | zero=>omega | succ k=>simp[zaq]
  have hbt:¬ C.keep gb:=(g.fresh gb ⟨n,_,_,hl,rfl,hβ,htop⟩).1
  refine g.write hl (.inr ⟨u,xs,xs.set j e,rfl,rfl,by simp⟩) hβ (fun k hk=>setRow_other w gb k _ fun e'=>hk (by rw[e']; exact htop)) (by simp[World.setRow]) (below_setRow hbt _) fun hle=>?_
  refine .inr ⟨gb,cap,_,T,by simp,k2,by simpa using k3,k4,setRow_heap w gb cur _ T (0,0) k5,?_,fun idx c hc=>?_⟩
  · simp only[List.size_toArray,List.length_append,List.length_take,List.length_drop,Array.length_toList]; omega
  · rw [flat_set u e xs j hj,zbS] at hc
    have hfl:=zaD u xs
    have hjl:(j+1) * u.size≤xs.length * u.size:=Nat.mul_le_mul_right _ (by omega)
    rw[Nat.add_mul,Nat.one_mul] at hjl
    have hlt:((flat u xs).take (j * u.size)).length=j * u.size:=by rw[List.length_take]; omega
    rw[hlt,zao] at hc
    simp only[List.getElem?_toArray]
    rw[zbS]
    have hlt':(cur.toList.take (j * u.size)).length=j * u.size:=by rw[List.length_take,Array.length_toList]; omega
    rw[hlt',Array.length_toList]
    split
    · rename_i h
      rw[if_pos h,List.getElem?_take_of_lt h] at hc
      obtain ⟨v,hv,hr⟩:=k7 idx c hc
      exact ⟨v,by rw[List.getElem?_take_of_lt h]; simpa using hv,hle.rd hr⟩
    · rename_i h
      rw[if_neg h] at hc
      split
      · rename_i h'
        rw[if_pos (by omega)] at hc
        obtain ⟨v,hv,hr⟩:=hel _ c hc
        exact ⟨v,by simpa using hv,hle.rd hr⟩
      · rename_i h'
        rw[if_neg (by omega),List.getElem?_drop] at hc
        rw[show j * u.size+u.size+(idx - j * u.size - u.size)=idx from by omega] at hc
        obtain ⟨v,hv,hr⟩:=k7 idx c hc
        refine ⟨v,?_,hle.rd hr⟩
        rw[List.getElem?_drop,show j * u.size+(a.eval y).cells.size+(idx - j * u.size - (a.eval y).cells.size)=idx from by omega]
        simpa using hv
end
end Go.Di
open Go.RowKit (Below)
namespace Go.Di
def upd (β:Nat→Option Value) (n:Nat) (v:Value):Nat→Option Value:=fun m=>if m=n then some v else β m
theorem upd_same (β:Nat→Option Value) (n:Nat) (v:Value):upd β n v n=some v:=by simp[upd]
theorem zax (β:Nat→Option Value) {n m:Nat} (v:Value) (h:m≠n):upd β n v m=β m:=by simp[upd,h]
theorem znR {t u:ST} (h:ST.eqb t u=true):t=u:=by cases t<;>cases u<;>first | rfl | (simp[ST.eqb] at h)
theorem zaU (w:World) (o:Obj):Below w.heap.size w (w.alloc o):=(Below.refl _ _).alloc (Nat.le_refl _) o
theorem heap_alloc (w:World) (o:Obj):(w.alloc o).heap[w.heap.size]? = some o:=heap_alloc_new w o
section
variable {P:Program} {C:Bs} {w w':World} {s s':St} {X:Nat→Prop} {β β':Nat→Option Value} {a:Act} {o:Oper} {tm:Array Value}
  {t:TypeId} {x y:Operand} {i:TI} {K:Act→World→Prop} {Q:Exit→Act→World→Prop}
theorem zfd (d:Nat):nm d % 64≠63:=by unfold nm; omega
theorem Gam.zhk (g:Gam C s X β tm w) (hb:Below w.heap.size w w') {n:Nat} {e:Ent} {v:Value} (hnm:n % 64≠63) (htop:∀ b∈zaq v,w.heap.size≤b∧b < w'.heap.size)
    (he:Le (cx C (s.free n) β w) (cx C (s.push n e) (upd β n v) w') (fun m=>m ∉ [n])→EntOk (cx C (s.push n e) (upd β n v) w') e v) :
    Gam C (s.push n e) X (upd β n v) tm w':=by
  have g1:=g.free n
  have hno:=zoN n s
  refine g1.zhW hb [(n,e)] (by simp[names]) (fun m hm=>?_) (fun m hm=>zax β v (by simpa [names] using hm)) (fun hle m e' hm u hu=>?_) (fun m e' u b hm hu hbu _=>?_) (fun m k u1 u2 b hm hk hu1 hu2 _ _=>?_) (fun m hm=>by simp[names] at hm; rw[hm]; exact hnm) (fun m hm=>by simp[names] at hm; rw[hm,upd_same]; rfl)
  · simp only[names,List.map_cons,List.map_nil,List.mem_singleton] at hm; subst hm; exact hno
  · simp only[List.mem_singleton] at hm; cases hm; rw[upd_same] at hu; cases hu; exact he hle
  · simp only[List.mem_singleton] at hm; cases hm; rw[upd_same] at hu; cases hu; exact htop b hbu
  · simp[names] at hm hk; rw[hm,hk]
theorem Gam.zBY (g:Gam C s X β tm w) {n:Nat} {l:List A1} {vs:Array Value} {T:TypeId} (hnm:n % 64≠63) (h:zck (cx C s β w) l vs.toList) :
    Gam C (s.push n (.box (zdF n l))) X (upd β n (.pointer (some ⟨w.heap.size,0,none⟩))) tm (w.alloc (.cells vs T)):=by
  refine g.zhk (zaU w _) hnm (fun b hb=>by simp[zaq] at hb; subst hb; simp) fun hle=>?_
  refine ⟨w.heap.size,vs,T,rfl,heap_alloc w _,?_⟩
  have h1:zck (cx C (s.free n) β w) (zdF n l) vs.toList:=(zkm n).l1 (zfK n l) (h.kill n)
  exact hle.l1 (by
    have:=zfK n l
    intro c hc
    have h2:=this c hc
    cases c<;>first | trivial | (intro hm; simp at hm; exact h2 hm) | exact ⟨fun hm=>by simp at hm; exact h2.1 hm,fun hm=>by simp at hm; exact h2.2 hm⟩) h1
theorem alloc_sound (hL:zg1 P t i) (ho:o.op = .alloc t) (g:Gam C s X β a.tmps w) (d:Nat)
    (hK:Goes C X o a (.one (.lp (nm d) 0)) (s.push (nm d) (.box i.zero)) K):o.wp P a w K Q:=by
  obtain ⟨inf,d',z,hi,hu,hs,hag,hz,hzo,_⟩:=hL
  have hk : zdF (nm d) i.zero=i.zero:=by
    have : ∀ (l:List A1) (vs:List Value),zOk l vs=true→zdF (nm d) l=l:=by
      intro l
      induction l with
      | nil=>intro _ _; rfl
      | cons b r ih =>
        intro vs h
        cases vs with
        | nil=>cases h
        | cons v vs =>
          simp only[zOk,Bool.and_eq_true] at h
          simp only[zdF,ih vs h.2]
          cases b<;>first | rfl | (simp[zPJ] at h)
    exact this _ _ hzo
  have gp:=g.zBY (n:=nm d) (l:=i.zero) (vs:=z.cells) (T:=t) (zfd d) (zmb hzo)
  rw[hk] at gp
  refine zdX (v := .pointer (some ⟨w.heap.size,0,none⟩)) (w':=w.alloc (.cells z.cells t)) ?_ (hK _ _ _ gp ?_)
  · simp[execOp,ho,Instr.alloc,zeroValue,typeInfo,hi,hz,newVar,newRow]
  · refine zbT (fun _=>⟨w.heap.size,upd_same ..,rfl⟩) rfl
theorem zE9 (_hL:zg1 P t i) (ho:o.op = .box t x) (g:Gam C s X β a.tmps w) (d:Nat) {av:AV} {l:List A1} (hx:zaR (cx C s β w) av (a.eval x)) (hc:av.cells=some l)
    (hK:Goes C X o a (.one (.lp (nm d) 0)) (s.push (nm d) (.box (zdF (nm d) l))) K):o.wp P a w K Q:=by
  obtain ⟨hcv,_⟩:=zik hx hc
  have gp:=g.zBY (n:=nm d) (l:=l) (vs:=(a.eval x).cells) (T:=t) (zfd d) hcv
  refine zdX (v := .pointer (some ⟨w.heap.size,0,none⟩)) (w':=w.alloc (.cells (a.eval x).cells t)) ?_ (hK _ _ _ gp ?_)
  · simp[execOp,ho,Instr.box,newVar,newRow]
  · refine zbT (fun _=>⟨w.heap.size,upd_same ..,rfl⟩) rfl
theorem zyJ (t:ST) {z0:t.El} (h0:ziL t=some z0):∃ z,ziL t=some z∧∀ vs,zOk (zeroOf t) vs=true→∀ (x:Cx) (j:Nat) (c:Cell),(t.cells z)[j]? = some c→∃ v,vs[j]? = some v∧x.rd v c:=by
  have key:∀ (l:List A1) (cs:List Cell),l.length=cs.length→(∀ (j:Nat) a c,l[j]? = some a→cs[j]? = some c→a = .d c∨(a = .mt∧∃ u,c = .sl u [])) →
      ∀ vs,zOk l vs=true→∀ (x:Cx) (j:Nat) (c:Cell),cs[j]? = some c→∃ v,vs[j]? = some v∧x.rd v c:=by
    intro l cs hlen hcor vs hz x j c hc
    have hj:j < l.length:=by rw[hlen]; exact (List.getElem?_eq_some_iff.1 hc).1
    have hok:zck x l vs:=zmb hz
    obtain ⟨v,hv,ha,_⟩:=hok.get (List.getElem?_eq_getElem hj)
    refine ⟨v,hv,?_⟩
    rcases hcor j _ c (List.getElem?_eq_getElem hj) hc with h | ⟨h,u,rfl⟩
    · rw[h] at ha; exact ha
    · rw[h] at ha; obtain ⟨ad,rfl⟩:=ha; exact ⟨[],.emp ad u 0,by intro b hb; cases hb⟩
  cases t<;>first | cases h0; done | refine ⟨_,rfl,key _ _ rfl ?_⟩
  all_goals
    intro j a c h1 h2
    (rcases j with _ | _ | _ | _ | _ | _ | _ | _ | _ | j)<;>simp[zeroOf,ST.kinds,ST.cells,ST.mk] at h1 h2<;>(try (cases h1; cases h2))<;>first | exact .inl rfl | exact .inr ⟨rfl,_,rfl⟩
theorem zkN (z:Array Value) (n j:Nat) (h:j < n):(madeCells z n)[j]? = some (z[j % z.size]!):=by
  simp[madeCells,h]
theorem zj8 (t:ST) (z:t.El) (n j:Nat) (h:j < n * t.size):(flat t (List.replicate n z))[j]? = (t.cells z)[j % t.size]? := by
  have hp:=size_pos t
  have hd:j=j / t.size * t.size+j % t.size:=by rw[Nat.mul_comm]; exact (Nat.div_add_mod j t.size).symm
  have hq:j / t.size < n:=Nat.div_lt_of_lt_mul (by rw[Nat.mul_comm]; exact h)
  have:=flat_get t (List.replicate n z) (j / t.size) z (j % t.size) (by simp[hq]) (Nat.mod_lt _ hp)
  rw[← this]; congr 1
theorem zy9 (hL:zg1 P t i) (ho:o.op = .makeSlice t x y) (g:Gam C s X β a.tmps w) (d:Nat) {e:ST} (he:i.elem=some e) {z:e.El} (hz:ziL e=some z) {k1 k2:IntKind} {n m:Int}
    (hx:a.eval x = .int k1 n) (hy:a.eval y = .int k2 m) (h0:0≤n) (h1:n≤m) (h2:m≤(zan:Int))
    (hK:Goes C X o a (.one (.own (nm d))) (s.push (nm d) (.arr false e (List.replicate n.toNat z))) K):o.wp P a w K Q:=by
  obtain ⟨inf,d',z',hi,hu,hs,hag,hz',hzo,_,hel,_⟩:=hL
  obtain ⟨E,rfl,einf,ez,q1,q2,q3,q4,q5⟩:=hel e he
  have hmax:m≤68719476736:=h2
  have hbytes:(einf.bytes:Int) * m≤281474976710656:=by
    have:(einf.bytes:Int) * m≤256 * 68719476736:=Int.mul_le_mul (by omega) hmax (by omega) (by omega)
    omega
  have hr:=run_make (P:=P) w t E einf ez hu q1 q4 k1 k2 n m h0 h1 hbytes (by omega)
  rw[q2] at hr
  have hsz:ez.cells.size=e.size:=by
    have h3:zck (cx C s β w) (zeroOf e) ez.cells.toList:=zmb q5
    have:=h3.length
    simp only[Array.length_toList] at this
    rw[← this]; cases e<;>rfl
  obtain ⟨z1,hz1,hzc⟩:=zyJ e hz
  rw[hz] at hz1; cases hz1
  have gp:Gam C (s.push (nm d) (.arr false e (List.replicate n.toNat z))) X (upd β (nm d) (.slice (some ⟨w.heap.size,0,none⟩) n.toNat m.toNat)) a.tmps
      (w.alloc (.cells (madeCells ez.cells (m.toNat * e.size)) E)):=by
    refine g.zhk (zaU w _) (zfd d) (fun b hb=>?_) fun hle=>?_
    · cases hm:m.toNat with
      | zero=>rw[hm] at hb; simp[zaq] at hb
      | succ k=>rw[hm] at hb; simp[zaq] at hb; subst hb; simp
    · by_cases hm:m.toNat=0
      · have hn:n.toNat=0:=by omega
        exact .inl ⟨by simp[hn],_,by rw[hn,hm]⟩
      · refine .inr ⟨w.heap.size,m.toNat,_,E,by simp,by omega,by simp; omega,by unfold maxLen; omega,heap_alloc w _,by simp[madeCells],fun j c hc=>?_⟩
        have hj:=(List.getElem?_eq_some_iff.1 hc).1
        rw[zaD,List.length_replicate] at hj
        rw[zj8 e z _ j hj] at hc
        obtain ⟨v,hv,hr⟩:=hzc _ q5 (cx C (s.push (nm d) (.arr false e (List.replicate n.toNat z))) (upd β (nm d) (.slice (some ⟨w.heap.size,0,none⟩) n.toNat m.toNat)) (w.alloc (.cells (madeCells ez.cells (m.toNat * e.size)) E))) _ c hc
        have hle2:n.toNat * e.size≤m.toNat * e.size:=Nat.mul_le_mul_right _ (by omega)
        refine ⟨v,?_,hr⟩
        rw[zkN _ _ _ (by omega),hsz]
        simp only[Array.getElem?_toList] at hv
        simp[getElem!_def,hv]
  refine zdX (v := .slice (some ⟨w.heap.size,0,none⟩) n.toNat m.toNat) (w':=w.alloc (.cells (madeCells ez.cells (m.toNat * e.size)) E)) ?_ (hK _ _ _ gp ?_)
  · simp[execOp,ho,hx,hy,hr]
  · exact zbT (fun _ _ _ _=>upd_same ..) rfl
end
end Go.Di
open Go.RowKit (Below)
namespace Go.Di
theorem foldl_set:∀ (l:List Value) (off k:Nat) (cs:Array Value),off+k+l.length≤cs.size →
    ((l.zipIdx k).foldl (fun (cs:Array Value) (p:Value × Nat)=>cs.setIfInBounds (off+p.2) p.1) cs).toList=cs.toList.take (off+k)++l++cs.toList.drop (off+k+l.length)
  | [],off,k,cs,h=>by simp
  | v :: l,off,k,cs,h=>by
    simp only[List.length_cons] at h
    simp only[List.zipIdx_cons,List.foldl_cons]
    rw[foldl_set l off (k+1) _ (by simp; omega)]
    simp only[Array.toList_setIfInBounds]
    have h1:off+k < cs.toList.length:=by simp; omega
    have e1:(cs.toList.set (off+k) v).take (off+(k+1))=cs.toList.take (off+k)++[v]:=by
      rw[← Nat.add_assoc,List.take_succ_eq_append_getElem (by simpa using h1),List.take_set_of_le (Nat.le_refl _)]
      simp
    have e2:(cs.toList.set (off+k) v).drop (off+(k+1)+l.length)=cs.toList.drop (off+k+(l.length+1)):=by
      rw[List.drop_set_of_lt (by omega)]; congr 1; omega
    rw[e1,e2]; simp
theorem zEd (place:Nat→Option (Nat × Nat)) (cells:Array Value) (i off k:Nat) (v:Value) (rest:List (Nat × Value)) (hp:place i=some (off,k)) (hk:v.cells.size=k) (hf:off+k≤cells.size) :
    ∃ cells',Instr.fill place cells ((i,v) :: rest)=Instr.fill place cells' rest∧cells'.toList=cells.toList.take off++v.cells.toList++cells.toList.drop (off+k):=by
  refine ⟨v.cells.toList.zipIdx.foldl (fun (cs:Array Value) (p:Value × Nat)=>cs.setIfInBounds (off+p.2) p.1) cells,?_,?_⟩
  · simp only[Instr.fill,hp]
    rw[if_neg (by simp[hk]; omega)]
    congr 1
    rw[← Array.foldl_toList]
    simp
  · have:=foldl_set v.cells.toList off 0 cells (by simp; omega)
    simp only[Nat.add_zero,Array.length_toList,hk] at this
    exact this
theorem zhV.get {P:Program}:∀ {fs:List Field} {l:List (Nat × Nat × Bool)},zhV P fs l→∀ {f off k:Nat} {g:Bool},l[f]? = some (off,k,g)→∃ fd,fs[f]? = some fd∧zFp P fd off k g
  | fd :: fs,(o,k,g) :: l,⟨h,_⟩,0,_,_,_,h1=>by simp at h1; obtain ⟨rfl,rfl,rfl⟩:=h1; exact ⟨fd,rfl,h⟩
  | fd :: fs,(o,k,g) :: l,⟨_,h⟩,f+1,off,k',g',h1=>by simp at h1; simpa using h.get h1
  | [],[],_,f,_,_,_,h1=>by simp at h1
  | [],_ :: _,h,_,_,_,_,_=>h.elim
  | _ :: _,[],h,_,_,_,_,_=>h.elim
theorem zhV.places {P:Program}:∀ {fs:List Field} {l:List (Nat × Nat × Bool)},zhV P fs l →
    fs.mapM (fun f=>(P.info? f.type).map fun i=>(f.offset,i.size))=some (l.map fun p=>(p.1,p.2.1))
  | [],[],_=>rfl
  | fd :: fs,(o,k,g) :: l,⟨⟨h1,h2,inf,d,h3,h4,_,_⟩,h⟩=>by
    simp[List.mapM_cons,h3,h.places,h1,h4]
  | [],_ :: _,h=>h.elim
  | _ :: _,[],h=>h.elim
section
variable {P:Program} {C:Bs} {w w':World} {s s':St} {X:Nat→Prop} {β β':Nat→Option Value} {a:Act} {o:Oper} {tm:Array Value}
  {t:TypeId} {x y:Operand} {i:TI} {K:Act→World→Prop} {Q:Exit→Act→World→Prop}
theorem zal {v:Value} {av:AV} (hr:(execOp a.eval o).run P w = .ok (.value v) w) (g:Gam C s X β a.tmps w) (hav:zaR (cx C s β w) av v) (hK:Goes C X o a av s K):o.wp P a w K Q :=
  zdX hr (hK v w β g hav)
theorem parts_fill {xc:Cx} {ps:List (Nat × Operand)} (fs:List (Nat × Nat × Bool)) (hop:∀ (j:Nat) (z:Operand),(j,z)∈ps→zaR xc (zaW s z) (a.eval z)):∀ (l l':List A1) (cells:Array Value),zck xc l cells.toList→partsOf fs s ps l=some l' →
      ∃ cells',Instr.fill (fun j=>(fs.map fun p=>(p.1,p.2.1))[j]?) cells (ps.map fun p=>(p.1,a.eval p.2))=some cells'∧zck xc l' cells'.toList:=by
  induction ps with
  | nil=>intro l l' cells h hp; simp only[partsOf] at hp; cases hp; exact ⟨cells,rfl,h⟩
  | cons q ps ih =>
    intro l l' cells h hp
    obtain ⟨j,z⟩:=q
    simp only[partsOf] at hp
    split at hp
    · rename_i off k g hf
      split at hp
      · rename_i c hc
        split at hp
        · rename_i hb
          split at hp
          · rename_i l1 hl1
            obtain ⟨hcv,_⟩:=zik (hop j z (List.mem_cons_self ..)) hc
            have hk:c.length=k:=by simpa using hb
            have hcl:=hcv.length
            simp only[Array.length_toList] at hcl
            obtain ⟨hfit,hnew⟩:=h.patch hcv hl1
            simp only[Array.length_toList] at hfit hnew
            obtain ⟨cells',e1,e2⟩:=zEd (fun j=>(fs.map fun p=>(p.1,p.2.1))[j]?) cells j off k (a.eval z) (ps.map fun p=>(p.1,a.eval p.2)) (by simp[hf]) (by omega) (by omega)
            obtain ⟨c2,e3,e4⟩:=ih (fun j' z' hm=>hop j' z' (List.mem_cons_of_mem _ hm)) l1 l' cells' (by rw[e2,show k=(a.eval z).cells.size from by omega]; exact hnew) hp
            exact ⟨c2,by rw[List.map_cons,e1]; exact e3,e4⟩
          · cases hp
        · cases hp
      · cases hp
    · cases hp
theorem zvE (hL:zg1 P t i) {ps:Array (Nat × Operand)} (ho:o.op = .build t ps) (g:Gam C s X β a.tmps w) (hst:i.strct=true) {l:List A1}
    (hop:∀ (j:Nat) (z:Operand),(j,z)∈ps.toList→zaR (cx C s β w) (zaW s z) (a.eval z)) (hp:partsOf i.fields s ps.toList i.zero=some l) (hK:Goes C X o a (.v true l) s K):o.wp P a w K Q:=by
  obtain ⟨inf,d,z,hi,hu,hs,hag,hz,hzo,hfs,_⟩:=hL
  obtain ⟨fs,rfl,hza,hf⟩:=hfs hst
  obtain ⟨cells,h1,h2⟩:=parts_fill i.fields hop i.zero l z.cells (zmb hzo) hp
  refine zal (v := .agg cells) (av := .v true l) ?_ g ⟨cells,rfl,h2⟩ hK
  have hb:P.built t ((ps.map fun (i,x)=>(i,a.eval x)).toList)=some cells:=by
    unfold Program.built
    rw[hi,hu]
    simp only[hz,hf.places]
    rw[← h1]; simp
  have:=run_build (P:=P) w t (ps.map fun (i,x)=>(i,a.eval x)) cells hb
  have this:(Instr.build t (Array.map (fun x=>(x.fst,a.eval x.snd)) ps)).run P w = .ok (.agg cells) w:=by simpa using this
  simp[execOp,ho,this]
theorem zvp (hL:zg1 P t i) {f:Nat} (ho:o.op = .field t x f) (g:Gam C s X β a.tmps w) (hst:i.strct=true) {l c:List A1} {off k:Nat} {ag:Bool}
    (hx:zaR (cx C s β w) (.v true l) (a.eval x)) (hf:i.fields[f]? = some (off,k,ag)) (hw:window off k l=some c) (hone:ag=false→k=1) (hK:Goes C X o a (.v ag c) s K):o.wp P a w K Q:=by
  obtain ⟨inf,d,z,hi,hu,hs,hag,hz,hzo,hfs,_⟩:=hL
  obtain ⟨fs,rfl,_,hfo⟩:=hfs hst
  obtain ⟨fd,hfd,h1,h2,finf,fd',h3,h4,h5,h6⟩:=hfo.get hf
  obtain ⟨vs,hv,hok⟩:=hx
  obtain ⟨rfl,hcl⟩:=zkd hw
  have hok2:=(hok.drop off).take k
  have hlen:=hok2.length
  rw[hcl] at hlen
  have hpart:∃ u,(part fd.type vs off).run P w = .ok u w∧VOk (cx C s β w) ag ((l.drop off).take k) u:=by
    cases hg:ag with
    | true =>
      have ha:(isAgg fd.type).run P w = .ok true w:=by
        simp only[isAgg,Sem.run_bind,run_underlying h5,Result.andThen]
        rw[hg] at h6; cases fd'<;>first | rfl | (simp[zzZ] at h6)
      refine ⟨.agg (vs.extract off (off+k)),by simp[part,ha,sizeOf,typeInfo,h3,h4],_,rfl,?_⟩
      have e:(vs.extract off (off+k)).toList=(vs.toList.drop off).take k:=by
        simp[List.extract_eq_take_drop]
      rw[e]; exact hok2
    | false =>
      have ha:(isAgg fd.type).run P w = .ok false w:=by
        simp only[isAgg,Sem.run_bind,run_underlying h5,Result.andThen]
        rw[hg] at h6; cases fd'<;>first | rfl | (simp[zzZ] at h6)
      have hk1:=hone hg
      subst hk1
      have hlo:off < vs.toList.length:=by simp at hlen ⊢; omega
      have e:(vs.toList.drop off).take 1=[vs.toList[off]]:=by
        rw[List.drop_eq_getElem_cons hlo]; simp
      rw[e] at hok2
      match hm:(l.drop off).take 1,hcl with
      | [b],_ =>
        rw[hm] at hok2
        refine ⟨vs.toList[off],?_,b,rfl,hok2.1,.inr hok2.2.1⟩
        have:vs[off]? = some vs.toList[off]:=by simp at hlo ⊢
        simp[part,ha,this]
      | [],h=>simp at h
      | _ :: _ :: _,h=>simp at h
  obtain ⟨u,hr,hvo⟩:=hpart
  refine zal (v:=u) (av := .v ag ((l.drop off).take k)) ?_ g hvo hK
  have hfd':fs[f]? = some fd:=by simpa using hfd
  simp[execOp,ho,Instr.field,run_underlying hu,hfd',asAgg,hv,h1,hr]
theorem zfv (hL:zg1 P t i) {f:Nat} (ho:o.op = .fieldAddr t x f) (hst:i.strct=true) {off k:Nat} {ag:Bool} (hf:i.fields[f]? = some (off,k,ag)) {b q:Nat}
    (hx:a.eval x = .pointer (some ⟨b,q,none⟩)):(execOp a.eval o).run P w = .ok (.value (.pointer (some ⟨b,q+off,none⟩))) w:=by
  obtain ⟨inf,d,z,hi,hu,hs,hag,hz,hzo,hfs,_⟩:=hL
  obtain ⟨fs,rfl,_,hfo⟩:=hfs hst
  obtain ⟨fd,hfd,h1,h2,finf,fd',h3,h4,h5,h6⟩:=hfo.get hf
  have hfd':fs[f]? = some fd:=by simpa using hfd
  have hne:¬ finf.size=0:=by omega
  simp[execOp,ho,Instr.fieldAt,run_underlying hu,hfd',Instr.sureAddr,hx,fieldPlace,sizeOf,typeInfo,h3,hne,h1,zio]
theorem zsc (hL:zg1 P t i) {f:Nat} (ho:o.op = .fieldAddr t x f) (g:Gam C s X β a.tmps w) (hst:i.strct=true) {off k:Nat} {ag:Bool} (hf:i.fields[f]? = some (off,k,ag)) {n q:Nat} {e:Ent}
    (hl:look n s.ents=some e) (hx:zaR (cx C s β w) (.v false [.lp n q]) (a.eval x)) (hK:Goes C X o a (.one (.lp n (q+off))) s K):o.wp P a w K Q:=by
  obtain ⟨a1,h1,h2,_⟩:=hx; cases h1
  obtain ⟨b,hb,hv⟩:=h2 (by simp[cx,hl])
  exact zal (av := .one (.lp n (q+off))) (zfv hL ho hst hf hv) g (zbT (a := .lp n (q+off)) (fun _=>⟨b,hb,rfl⟩) rfl) hK
theorem zsa (hL:zg1 P t i) {f:Nat} (ho:o.op = .fieldAddr t x f) (g:Gam C s X β a.tmps w) (hst:i.strct=true) {off k:Nat} {ag:Bool} (hf:i.fields[f]? = some (off,k,ag)) {cs:List Cell} {q:Nat}
    (hx:zaR (cx C s β w) (.v false [.sp cs q]) (a.eval x)) (hK:Goes C X o a (.one (.sp cs (q+off))) s K):o.wp P a w K Q:=by
  obtain ⟨a1,h1,h2,_⟩:=hx; cases h1
  obtain ⟨b,q',hv,hc⟩:=h2
  exact zal (av := .one (.sp cs (q+off))) (zfv hL ho hst hf hv) g (zbT (a := .sp cs (q+off)) ⟨b,q',by rw[Nat.add_assoc],hc⟩ rfl) hK
theorem zsb (hL:zg1 P t i) {f:Nat} (ho:o.op = .fieldAddr t x f) (g:Gam C s X β a.tmps w) (hst:i.strct=true) {off k:Nat} {ag:Bool} (hf:i.fields[f]? = some (off,k,ag)) {n j q:Nat} {fr:Bool} {u:ST} {xs:List u.El}
    (hl:look n s.ents=some (.arr fr u xs)) (hx:zaR (cx C s β w) (.v false [.oe n j q]) (a.eval x)) (hK:Goes C X o a (.one (.oe n j (q+off))) s K):o.wp P a w K Q:=by
  obtain ⟨a1,h1,h2,_⟩:=hx; cases h1
  obtain ⟨hj,gb,q',m,cap,hb,hv⟩:=h2 fr u xs hl
  refine zal (av := .one (.oe n j (q+off))) (zfv hL ho hst hf hv) g (zbT (a := .oe n j (q+off)) (fun fr' u' xs' hl'=>?_) rfl) hK
  have:look n s.ents=some (.arr fr' u' xs'):=hl'
  rw[hl] at this; cases this
  exact ⟨hj,gb,q',m,cap,hb,by rw[Nat.add_assoc]⟩
theorem zmM {α:Type} {xs:List α} {i:Int} {e:α} (h:idx xs i=some e):0≤i∧i < xs.length∧xs[i.toNat]? = some e:=by
  unfold idx at h
  split at h
  · rename_i h0
    have:=(List.getElem?_eq_some_iff.1 h).1
    exact ⟨h0,by omega,h⟩
  · cases h
theorem zfu (hL:zg1 P t i) {e:ST} (he:i.elem=some e) (ho:o.op = .indexAddr t x y) {b q len cap:Nat} {j:Int}
    (hx:a.eval x = .slice (some ⟨b,q,none⟩) len cap) (hy:a.eval y = .int .i64 j) (h0:0≤j) (h1:j < len) :
    (execOp a.eval o).run P w = .ok (.value (.pointer (some ⟨b,q+j.toNat * e.size,none⟩))) w:=by
  obtain ⟨inf,d,z,hi,hu,hs,hag,hz,hzo,_,hel,_⟩:=hL
  obtain ⟨E,rfl,einf,ez,q1,q2,_⟩:=hel e he
  simp[execOp,ho,Instr.indexAt,hx,hy,asIntOf,run_underlying hu,h0,h1,sizeOf,typeInfo,q1,q2,zio]
theorem zvg (hL:zg1 P t i) {e:ST} (he:i.elem=some e) (ho:o.op = .indexAddr t x y) (g:Gam C s X β a.tmps w) {xs:List e.El} {j:Int} {el:e.El}
    (hx:zaR (cx C s β w) (.v false [.d (.sl e xs)]) (a.eval x)) (hy:a.eval y = .int .i64 j) (hel:idx xs j=some el) (hK:Goes C X o a (.one (.sp (e.cells el) 0)) s K):o.wp P a w K Q:=by
  obtain ⟨a1,h1,h2,_⟩:=hx; cases h1
  obtain ⟨h0,hlt,hget⟩:=zmM hel
  obtain ⟨fp,hr,hf⟩:=h2
  generalize hv:a.eval x=v at hr
  cases hr with
  | emp ad u cap=>simp at hlt; omega
  | sl b off len cap u ys vals fp hl hc k1 k2 =>
    refine zal (av := .one (.sp (e.cells el) 0)) (zfu hL he ho hv hy h0 (by omega)) g (zbT (a := .sp (e.cells el) 0) ⟨b,off+j.toNat * e.size,rfl,.inr ?_,fun k c hk=>?_⟩ rfl) hK
    · intro b' hb'
      simp only[List.mem_singleton] at hb'; subst hb'
      exact hf b' (List.mem_cons_self ..)
    · have hkl:k < e.size:=by have:=(List.getElem?_eq_some_iff.1 hk).1; rwa [zao] at this
      have hfl:=flat_get e xs j.toNat el k hget hkl
      rw[hk] at hfl
      refine ⟨vals (j.toNat * e.size+k),by rw[Nat.add_assoc]; exact k1 _ c hfl,_,k2 _ c hfl,fun b' hb'=>hf b' (List.mem_cons_of_mem _ (List.mem_flatMap.2 ⟨_,List.mem_range.2 (List.getElem?_eq_some_iff.1 hfl).1,hb'⟩))⟩
theorem zkJ {x:Cx} {fr:Bool} {t:ST} {xs:List t.El} {v:Value} (h:EntOk x (.arr fr t xs) v) (hne:0 < xs.length) :
    ∃ g q cap,v = .slice (some ⟨g,q,none⟩) xs.length cap∧xs.length≤cap:=by
  cases fr with
  | true =>
    obtain ⟨fp,hr,_⟩:=h
    cases hr with
    | emp=>simp at hne
    | sl b off len cap u ys vals fp hl hc k1 k2=>subst hl; exact ⟨b,off,cap,rfl,hc⟩
  | false =>
    rcases h with ⟨h0,_⟩ | ⟨g,cap,cur,T,h1,h2,h3,_⟩
    · subst h0; simp at hne
    · exact ⟨g,0,cap,h1,h3⟩
theorem zpY (hL:zg1 P t i) {e:ST} (he:i.elem=some e) (ho:o.op = .indexAddr t x y) (g:Gam C s X β a.tmps w) {n:Nat} {fr:Bool} {xs:List e.El} {j:Int} {el:e.El}
    (hl:look n s.ents=some (.arr fr e xs)) (hx:zaR (cx C s β w) (.v false [.own n]) (a.eval x)) (hy:a.eval y = .int .i64 j) (hel:idx xs j=some el) (hK:Goes C X o a (.one (.oe n j.toNat 0)) s K):o.wp P a w K Q:=by
  obtain ⟨a1,h1,h2,_⟩:=hx; cases h1
  obtain ⟨h0,hlt,hget⟩:=zmM hel
  have hb:=h2 _ _ _ hl
  obtain ⟨gb,q,cap,hv,hc⟩:=zkJ (g.ents n _ _ hl hb) (by omega)
  refine zal (av := .one (.oe n j.toNat 0)) (zfu hL he ho hv hy h0 hlt) g (zbT (a := .oe n j.toNat 0) (fun fr' u' xs' hl'=>?_) rfl) hK
  have:look n s.ents=some (.arr fr' u' xs'):=hl'
  rw[hl] at this; cases this
  exact ⟨by omega,gb,q,xs.length,cap,by rw[← hv]; exact hb,by simp⟩
theorem zpX (hL:zg1 P t i) {e:ST} (he:i.elem=some e) (ho:o.op = .indexAddr t x y) (g:Gam C s X β a.tmps w) {n lo len:Nat} {fr:Bool} {xs:List e.El} {j:Int} {el:e.El}
    (hl:look n s.ents=some (.arr fr e xs)) (hx:zaR (cx C s β w) (.v false [.win n lo len]) (a.eval x)) (hy:a.eval y = .int .i64 j) (hel:idx (cut xs lo (lo+len)) j=some el) (hK:Goes C X o a (.one (.oe n (lo+j.toNat) 0)) s K):o.wp P a w K Q:=by
  obtain ⟨a1,h1,h2,_⟩:=hx; cases h1
  obtain ⟨h0,hlt,hget⟩:=zmM hel
  obtain ⟨hfit,ad,m,cap,hb,hlo,hv⟩:=h2 fr e xs hl
  have hcl:(cut xs lo (lo+len)).length=len:=by simp[cut]; omega
  rw[hcl] at hlt
  obtain ⟨gb,q,cap',hv',hc⟩:=zkJ (g.ents n _ _ hl hb) (by omega)
  cases hv'
  have hne:¬ cap=lo:=by omega
  rw[if_neg hne] at hv
  simp only[Option.map_some,zio] at hv
  refine zal (av := .one (.oe n (lo+j.toNat) 0)) (zfu hL he ho hv hy h0 hlt) g (zbT (a := .oe n (lo+j.toNat) 0) (fun fr' u' xs' hl'=>?_) rfl) hK
  have:look n s.ents=some (.arr fr' u' xs'):=hl'
  rw[hl] at this; cases this
  exact ⟨by omega,gb,q,xs.length,cap,hb,by simp[Nat.add_mul,Nat.add_assoc]⟩
end
end Go.Di
open Go.RowKit (Below)
namespace Go.Di
theorem zdi {b:Bool} {u:Unit} (h:zak b=some u):b=true:=by cases b<;>first | rfl | (cases h)
theorem znA {n:Nat} {b:Int × Int} (h:inside n b=true):0≤b.1∧b.1≤b.2∧b.2≤(n:Int):=by
  simp only[inside,Bool.and_eq_true,decide_eq_true_eq] at h; exact ⟨h.1.1,h.1.2,h.2⟩
theorem rd_cut {x:Cx} {ad:Option Addr} {len cap:Nat} {t:ST} {xs:List t.El} (h:x.rd (.slice ad len cap) (.sl t xs)) {lo hi:Nat} (h1:lo≤hi) (h2:hi≤len) (hcap:len≤cap) :
    x.rd (.slice (if cap=lo then ad else ad.map (·.add (lo * t.size))) (hi - lo) (cap - lo)) (.sl t (cut xs lo hi)):=by
  obtain ⟨fp,hr,hf⟩:=h
  by_cases he:hi=lo
  · subst he
    have:cut xs hi hi=[]:=by simp[cut]
    rw[this,Nat.sub_self]
    exact ⟨[],.emp _ t _,by intro b hb; cases hb⟩
  · cases hr with
    | emp=>omega
    | sl b off len cap t xs vals fp hl hc k1 k2 =>
      rw[if_neg (by omega)]
      simp only[Option.map_some,zio]
      have hcl:(cut xs lo hi).length=hi - lo:=by simp[cut]; omega
      have hget:∀ (k:Nat) (c:Cell),(flat t (cut xs lo hi))[k]? = some c→(flat t xs)[lo * t.size+k]? = some c:=by
        intro k c hk
        have hkl:=(List.getElem?_eq_some_iff.1 hk).1
        rw[zaD,hcl] at hkl
        have hp:=size_pos t
        have hd:k=k / t.size * t.size+k % t.size:=by rw[Nat.mul_comm]; exact (Nat.div_add_mod k t.size).symm
        have hq:k / t.size < hi - lo:=Nat.div_lt_of_lt_mul (by rw[Nat.mul_comm]; exact hkl)
        have hx:(cut xs lo hi)[k / t.size]? = some (xs[lo+k / t.size]'(by omega)):=by
          simp only[cut,List.getElem?_drop,List.getElem?_take_of_lt (show lo+k / t.size < hi from by omega)]
          exact List.getElem?_eq_getElem (by omega)
        have e1:=flat_get t (cut xs lo hi) (k / t.size) _ (k % t.size) hx (Nat.mod_lt _ hp)
        have e2:=flat_get t xs (lo+k / t.size) _ (k % t.size) (List.getElem?_eq_getElem (by omega)) (Nat.mod_lt _ hp)
        rw[← hd] at e1
        rw[Nat.add_mul,Nat.add_assoc,← hd] at e2
        rw[e2,← e1]; exact hk
      refine ⟨_,.sl b (off+lo * t.size) (hi - lo) (cap - lo) t _ (fun k=>vals (lo * t.size+k)) (fun k=>fp (lo * t.size+k)) hcl.symm (by omega) (fun k c hk=>?_) (fun k c hk=>k2 _ c (hget k c hk)),?_⟩
      · rw[Nat.add_assoc]; exact k1 _ c (hget k c hk)
      · intro b' hb'
        rcases List.mem_cons.1 hb' with rfl | hb'
        · exact hf _ (List.mem_cons_self ..)
        · obtain ⟨k,hk,hb'⟩:=List.mem_flatMap.1 hb'
          have:=hget k _ (List.getElem?_eq_getElem (List.mem_range.1 hk))
          exact hf b' (List.mem_cons_of_mem _ (List.mem_flatMap.2 ⟨_,List.mem_range.2 (List.getElem?_eq_some_iff.1 this).1,hb'⟩))
section
variable {P:Program} {C:Bs} {w w':World} {s s':St} {X:Nat→Prop} {β β':Nat→Option Value} {a:Act} {o:Oper} {tm:Array Value}
  {t:TypeId} {x y:Operand} {i:TI} {K:Act→World→Prop} {Q:Exit→Act→World→Prop}
theorem zo8 {xc:Cx} {d l:Int} {z:Option Operand} (hz:∀ u,z=some u→zaR xc (zaW s u) (a.eval u)) (h:zof d (z.map (zaW s))=some l) :
    (z=none∧l=d)∨∃ u,z=some u∧a.eval u = .int .i64 l:=by
  cases z with
  | none=>simp[zof] at h; exact .inl ⟨rfl,h.symm⟩
  | some u =>
    right
    refine ⟨u,rfl,?_⟩
    simp only[Option.map_some] at h
    unfold zof at h
    split at h
    · rename_i hh; cases hh
    · rename_i l' hh
      cases h; cases hh':zaW s u<;>simp[hh'] at hh
      have:=hz u rfl
      rw[hh',hh.1,hh.2] at this
      exact zd9 this
    · cases h
theorem zoD {xc:Cx} {isS:Bool} {n cap:Nat} {lo hi:Option Operand} (hlo:∀ z,lo=some z→zaR xc (zaW s z) (a.eval z)) (hhi:∀ z,hi=some z→zaR xc (zaW s z) (a.eval z))
    {b:Int × Int} (hb:bounds n (lo.map (zaW s)) (hi.map (zaW s))=some b) (hin:inside n b=true) (hc:n≤cap) :
    (Instr.sliceBounds isS n cap (lo.map a.eval) (hi.map a.eval) none).run P w = .ok (b.1.toNat,b.2.toNat,cap) w:=by
  obtain ⟨h0,h1,h2⟩:=znA hin
  unfold bounds at hb
  split at hb
  · rename_i l h hl hh
    cases hb
    simp only at h0 h1 h2
    have e:(h.toNat:Int)=h:=by omega
    rcases zo8 hlo hl with ⟨rfl,rfl⟩ | ⟨u,rfl,hu⟩<;>rcases zo8 hhi hh with ⟨rfl,rfl⟩ | ⟨u',rfl,hu'⟩
    · simp[Instr.sliceBounds]
    · have q1:0≤h∧h≤(cap:Int):=by omega
      simp[Instr.sliceBounds,Instr.sliceBound,hu',asIntOf,q1]
    · have q1:0≤l∧l≤(n:Int):=by omega
      simp[Instr.sliceBounds,Instr.sliceBound,hu,asIntOf,q1]
    · have q1:0≤h∧h≤(cap:Int):=by omega
      have q2:0≤l∧l≤(h.toNat:Int):=by omega
      simp only[Instr.sliceBounds,Instr.sliceBound,hu,hu',asIntOf,Option.map_some,Sem.run_bind,Sem.run_pure,Result.andThen,q1,q2,if_true,and_self,Option.isSome]
  · cases hb
theorem zBg (hL:zg1 P t i) (hs:i.scal=some .str) {lo hi:Option Operand} (ho:o.op = .slice t x lo hi none) (g:Gam C s X β a.tmps w) {ss:ByteArray}
    (hx:zaR (cx C s β w) (.v false [.d (.str ss)]) (a.eval x)) (hlo:∀ z,lo=some z→zaR (cx C s β w) (zaW s z) (a.eval z)) (hhi:∀ z,hi=some z→zaR (cx C s β w) (zaW s z) (a.eval z))
    {b:Int × Int} (hb:bounds ss.size (lo.map (zaW s)) (hi.map (zaW s))=some b) (hin:inside ss.size b=true)
    (hK:Goes C X o a (.one (.d (.str (ss.extract b.1.toNat b.2.toNat)))) s K):o.wp P a w K Q:=by
  obtain ⟨inf,d,z,hi',hu,_,_,_,_,_,_,_,hstr,_⟩:=hL
  cases hstr hs
  have hv:=zk4 hx
  have hr:=zoD (P:=P) (w:=w) (isS:=false) hlo hhi hb hin (Nat.le_refl _)
  refine zal (v := .string (ss.extract b.1.toNat b.2.toNat)) ?_ g zk5 hK
  simp[execOp,ho,Instr.sliceAt,run_underlying hu,Instr.slice,hv,hr]
theorem zq8 (hL:zg1 P t i) {e:ST} (he:i.elem=some e) {lo hi:Option Operand} (ho:o.op = .slice t x lo hi none) {xc:Cx} {ad:Option Addr} {len cap:Nat}
    (hv:a.eval x = .slice ad len cap) (hlo:∀ z,lo=some z→zaR xc (zaW s z) (a.eval z)) (hhi:∀ z,hi=some z→zaR xc (zaW s z) (a.eval z))
    {b:Int × Int} (hb:bounds len (lo.map (zaW s)) (hi.map (zaW s))=some b) (hin:inside len b=true) (hc:len≤cap) :
    (execOp a.eval o).run P w = .ok (.value (.slice (if cap=b.1.toNat then ad else ad.map (·.add (b.1.toNat * e.size))) (b.2.toNat - b.1.toNat) (cap - b.1.toNat))) w:=by
  obtain ⟨inf,d,z,hi',hu,_,_,_,_,_,hel,_⟩:=hL
  obtain ⟨E,rfl,einf,ez,q1,q2,_⟩:=hel e he
  have hr:=zoD (P:=P) (w:=w) (isS:=true) hlo hhi hb hin hc
  simp[execOp,ho,Instr.sliceAt,run_underlying hu,Instr.slice,hv,hr,sizeOf,typeInfo,q1,q2]
theorem znf {xc:Cx} {v:Value} {t:ST} {xs:List t.El} (h:xc.rd v (.sl t xs)):∃ ad cap,v = .slice ad xs.length cap∧xs.length≤cap:=by
  obtain ⟨fp,hr,_⟩:=h
  cases hr with
  | emp a t cap=>exact ⟨a,cap,rfl,Nat.zero_le _⟩
  | sl b off len cap t xs vals fp hl hc k1 k2=>subst hl; exact ⟨_,cap,rfl,hc⟩
theorem zoh {xc:Cx} {v:Value} {fr:Bool} {t:ST} {xs:List t.El} (h:EntOk xc (.arr fr t xs) v):∃ ad cap,v = .slice ad xs.length cap∧xs.length≤cap:=by
  cases fr with
  | true=>exact znf h
  | false =>
    rcases h with ⟨h0,ad,h1⟩ | ⟨g,cap,cur,T,h1,h2,h3,_⟩
    · subst h0; exact ⟨ad,0,h1,Nat.le_refl _⟩
    · exact ⟨_,cap,h1,h3⟩
theorem zLc (hL:zg1 P t i) {e:ST} (he:i.elem=some e) {lo hi:Option Operand} (ho:o.op = .slice t x lo hi none) (g:Gam C s X β a.tmps w) {xs:List e.El}
    (hx:zaR (cx C s β w) (.v false [.d (.sl e xs)]) (a.eval x)) (hlo:∀ z,lo=some z→zaR (cx C s β w) (zaW s z) (a.eval z)) (hhi:∀ z,hi=some z→zaR (cx C s β w) (zaW s z) (a.eval z))
    {b:Int × Int} (hb:bounds xs.length (lo.map (zaW s)) (hi.map (zaW s))=some b) (hin:inside xs.length b=true)
    (hK:Goes C X o a (.one (.d (.sl e (cut xs b.1.toNat b.2.toNat)))) s K):o.wp P a w K Q:=by
  obtain ⟨a1,h1,h2,_⟩:=hx; cases h1
  obtain ⟨ad,cap,hv,hc⟩:=znf h2
  obtain ⟨q0,q1,q2⟩:=znA hin
  have h2':(cx C s β w).rd (a.eval x) (.sl e xs):=h2
  rw[hv] at h2'
  exact zal (av := .one (.d (.sl e (cut xs b.1.toNat b.2.toNat)))) (zq8 hL he ho hv hlo hhi hb hin hc) g (zbT (a := .d _) (rd_cut h2' (by omega) (by omega) hc) rfl) hK
theorem zBh (hL:zg1 P t i) {e:ST} (he:i.elem=some e) {lo hi:Option Operand} (ho:o.op = .slice t x lo hi none) (g:Gam C s X β a.tmps w) {n:Nat} {fr:Bool} {xs:List e.El}
    (hl:look n s.ents=some (.arr fr e xs)) (hx:zaR (cx C s β w) (.v false [.own n]) (a.eval x)) (hlo:∀ z,lo=some z→zaR (cx C s β w) (zaW s z) (a.eval z)) (hhi:∀ z,hi=some z→zaR (cx C s β w) (zaW s z) (a.eval z))
    {b:Int × Int} (hb:bounds xs.length (lo.map (zaW s)) (hi.map (zaW s))=some b) (hin:inside xs.length b=true)
    (hK:Goes C X o a (.one (.win n b.1.toNat (b.2.toNat - b.1.toNat))) s K):o.wp P a w K Q:=by
  obtain ⟨a1,h1,h2,_⟩:=hx; cases h1
  have hβ:=h2 _ _ _ hl
  obtain ⟨ad,cap,hv,hc⟩:=zoh (g.ents n _ _ hl hβ)
  obtain ⟨q0,q1,q2⟩:=znA hin
  refine zal (av := .one (.win n b.1.toNat (b.2.toNat - b.1.toNat))) (zq8 hL he ho hv hlo hhi hb hin hc) g (zbT (a := .win n _ _) (fun fr' t' xs' hl'=>?_) rfl) hK
  have:look n s.ents=some (.arr fr' t' xs'):=hl'
  rw[hl] at this; cases this
  exact ⟨by omega,ad,xs.length,cap,by rw[← hv]; exact hβ,by omega,rfl⟩
/-! ### Lengths -/
theorem zla (hL:zg1 P t i) {e:ST} (he:i.elem=some e) (ho:o.op = .call { callee := .builtin .len,args:=#[x],argTypes:=#[t] }) {ad:Option Addr} {len cap:Nat} (hv:a.eval x = .slice ad len cap) :
    (execOp a.eval o).run P w = .ok (.value (.int .i64 len)) w:=by
  obtain ⟨inf,d,z,hi',hu,_,_,_,_,_,hel,_⟩:=hL
  obtain ⟨E,rfl,_⟩:=hel e he
  simp[execOp,ho,resolve,invoke,builtin,Builtin.len_,run_underlying hu,hv,goInt]
theorem zt9 (hL:zg1 P t i) (hs:i.scal=some .str) (ho:o.op = .call { callee := .builtin .len,args:=#[x],argTypes:=#[t] }) {ss:ByteArray} (hv:a.eval x = .string ss) :
    (execOp a.eval o).run P w = .ok (.value (.int .i64 ss.size)) w:=by
  obtain ⟨inf,d,z,hi',hu,_,_,_,_,_,_,_,hstr,_⟩:=hL
  cases hstr hs
  simp[execOp,ho,resolve,invoke,builtin,Builtin.len_,run_underlying hu,hv,goInt]
theorem zDP {t:ST} {e:Option ST} (h:zQU t e=true):e=some t:=by
  cases e with
  | none=>cases h
  | some u=>rw[znR h]
theorem zwF {c:Option CK} (h:isStr c=true):c=some .str:=by
  unfold isStr at h; split at h<;>first | rfl | (cases h)
theorem zDU (hL:zg1 P t i) (hs:i.scal=some .str) (ho:o.op = .index t x y) (g:Gam C s X β a.tmps w) {ss:ByteArray} {j b:Int}
    (hx:zaR (cx C s β w) (.v false [.d (.str ss)]) (a.eval x)) (hy:a.eval y = .int .i64 j) (hb:zK9 ss j=some b) (hK:Goes C X o a (.one (.d (.int .u8 b))) s K):o.wp P a w K Q:=by
  obtain ⟨inf,d,z,hi',hu,_,_,_,_,_,_,_,hstr,_⟩:=hL
  cases hstr hs
  have hv:=zk4 hx
  refine zal (v := .int .u8 b) ?_ g zaS hK
  unfold zK9 at hb
  split at hb
  · rename_i h0
    cases hg:ss.data[j.toNat]? with
    | none=>simp[hg] at hb
    | some c =>
      simp[hg] at hb
      have hg':ss[j.toNat]? = some c:=by
        have hlt:=(Array.getElem?_eq_some_iff.1 hg).1
        have e:=(Array.getElem?_eq_some_iff.1 hg).2
        rw[getElem?_pos ss j.toNat hlt]
        exact congrArg some e
      simp[execOp,ho,Instr.index,hv,hy,asIntOf,run_underlying hu,h0,hg',hb]
  · cases hb
/-! ### Arithmetic -/
theorem zDR {op:BinOp} {T U:TypeId} (ho:o.op = .binOp op T x y U) (g:Gam C s X β a.tmps w) {k:IntKind} {m n:Int} (hx:a.eval x = .int k m) (hy:a.eval y = .int k n)
    {r:AV × St} (hr:(zve s k m n op).zvH (fun r=>some r)=some r) (hK:Goes C X o a r.1 r.2 K):o.wp P a w K Q:=by
  cases op<;>simp only[zve,ok,Susp.zvH,Option.some.injEq] at hr
  case add=>subst hr; exact zal (by simp[execOp,ho,hx,hy,eqGuard,Go.binOp,Op.intArith]) g zaS hK
  case sub=>subst hr; exact zal (by simp[execOp,ho,hx,hy,eqGuard,Go.binOp,Op.intArith]) g zaS hK
  case mul=>subst hr; exact zal (by simp[execOp,ho,hx,hy,eqGuard,Go.binOp,Op.intArith]) g zaS hK
  case quo =>
    cases hg:zak (n != 0) with
    | none=>simp[hg] at hr
    | some u =>
      simp[hg] at hr; subst hr
      have hn:n≠0:=by simpa using zdi hg
      exact zal (by simp[execOp,ho,hx,hy,eqGuard,Go.binOp,Op.intDiv,hn]) g zaS hK
  case rem =>
    cases hg:zak (n != 0) with
    | none=>simp[hg] at hr
    | some u =>
      simp[hg] at hr; subst hr
      have hn:n≠0:=by simpa using zdi hg
      exact zal (by simp[execOp,ho,hx,hy,eqGuard,Go.binOp,Op.intDiv,hn]) g zaS hK
  case eql=>subst hr; exact zal (by simp[execOp,ho,hx,hy,eqGuard,Go.binOp,Op.intCmp]) g zbM hK
  case neq=>subst hr; exact zal (by simp[execOp,ho,hx,hy,eqGuard,Go.binOp,Op.intCmp]) g zbM hK
  case lss=>subst hr; exact zal (by simp[execOp,ho,hx,hy,eqGuard,Go.binOp,Op.intCmp]) g zbM hK
  case leq=>subst hr; exact zal (by simp[execOp,ho,hx,hy,eqGuard,Go.binOp,Op.intCmp]) g zbM hK
  case gtr=>subst hr; exact zal (by simp[execOp,ho,hx,hy,eqGuard,Go.binOp,Op.intCmp]) g zbM hK
  case geq=>subst hr; exact zal (by simp[execOp,ho,hx,hy,eqGuard,Go.binOp,Op.intCmp]) g zbM hK
  case shr =>
    cases hg:zak (decide (0≤n)) with
    | none=>simp[hg] at hr
    | some u =>
      simp[hg] at hr; subst hr
      have hn:¬ n < 0:=by have:=of_decide_eq_true (zdi hg); omega
      exact zal (by simp[execOp,ho,hx,hy,eqGuard,Go.binOp,Op.shift,hn,zFP]) g zaS hK
  all_goals simp only[zOO,Option.some.injEq,reduceCtorEq] at hr
  case and=>subst hr; exact zal (by simp[execOp,ho,hx,hy,eqGuard,Go.binOp,Op.intBits]) g zaS hK
  case or=>subst hr; exact zal (by simp[execOp,ho,hx,hy,eqGuard,Go.binOp,Op.intBits]) g zaS hK
  case xor=>subst hr; exact zal (by simp[execOp,ho,hx,hy,eqGuard,Go.binOp,Op.intBits]) g zaS hK
end
end Go.Di
open Go.RowKit (Below)
namespace Go.Di
section
variable {P:Program} {C:Bs} {w w':World} {s s':St} {X:Nat→Prop} {β β':Nat→Option Value} {a:Act} {o:Oper} {tm:Array Value}
  {t:TypeId} {x y:Operand} {i:TI} {K:Act→World→Prop} {Q:Exit→Act→World→Prop}
theorem run_equal_bool {T:TypeId} (hd:P.underlying T=some .bool) (m n:Bool):(Op.equal T (.bool m) (.bool n)).run P w = .ok (m==n) w:=by
  have h:∀ d,(Op.equalIn (d+1) T (.bool m) (.bool n)).run P w = .ok (m==n) w:=fun d=>by simp[Op.equalIn,run_underlying hd]
  exact h 9999
theorem zIK {T U:TypeId} (hd:P.underlying T=some .bool) (ho:o.op = .binOp .eql T x y U) (g:Gam C s X β a.tmps w) {m n:Bool} (hx:a.eval x = .bool m) (hy:a.eval y = .bool n)
    (hK:Goes C X o a (.one (.d (.bool (m==n)))) s K):o.wp P a w K Q:=by
  refine zal (v := .bool (m==n)) ?_ g zbM hK
  have e:Go.binOp .eql T (.bool m) (.bool n)=(do pure (.bool (← Op.equal T (.bool m) (.bool n)))):=rfl
  simp only[execOp,ho,hx,hy,eqGuard,e]
  simp[run_equal_bool hd]
theorem zIJ {T U:TypeId} (hd:P.underlying T=some .bool) (ho:o.op = .binOp .neq T x y U) (g:Gam C s X β a.tmps w) {m n:Bool} (hx:a.eval x = .bool m) (hy:a.eval y = .bool n)
    (hK:Goes C X o a (.one (.d (.bool (!(m==n))))) s K):o.wp P a w K Q:=by
  refine zal (v := .bool (!(m==n))) ?_ g zbM hK
  have e:Go.binOp .neq T (.bool m) (.bool n)=(do pure (.bool (!(← Op.equal T (.bool m) (.bool n))))):=rfl
  simp only[execOp,ho,hx,hy,eqGuard,e]
  simp[run_equal_bool hd]
theorem zK7 {T U:TypeId} (ho:o.op = .binOp .eql T x y U) (g:Gam C s X β a.tmps w) {m n:ByteArray} (hx:a.eval x = .string m) (hy:a.eval y = .string n)
    (hK:Goes C X o a (.one (.d (.bool (zop m n)))) s K):o.wp P a w K Q :=
  zal (by simp[execOp,ho,hx,hy,eqGuard,Go.binOp,Op.stringOp,zop]) g zbM hK
theorem zK6 {T U:TypeId} (ho:o.op = .binOp .neq T x y U) (g:Gam C s X β a.tmps w) {m n:ByteArray} (hx:a.eval x = .string m) (hy:a.eval y = .string n)
    (hK:Goes C X o a (.one (.d (.bool (!zop m n)))) s K):o.wp P a w K Q :=
  zal (v := .bool (!zop m n)) (by simp[execOp,ho,hx,hy,eqGuard,Go.binOp,Op.stringOp,zop]) g zbM hK
theorem zK8 {T U:TypeId} (ho:o.op = .binOp .add T x y U) (g:Gam C s X β a.tmps w) {m n:ByteArray} (hx:a.eval x = .string m) (hy:a.eval y = .string n)
    (hle:m.size+n.size≤4611686018427387904) (hK:Goes C X o a (.one (.d (.str (m++n)))) s K):o.wp P a w K Q:=by
  have hlt:(m.size:Int)+(n.size:Int)≤9223372036854775807:=by omega
  exact zal (v := .string (m++n)) (by simp[execOp,ho,hx,hy,eqGuard,Go.binOp,Op.stringOp,hlt]) g zk5 hK
theorem zB6 {T:TypeId} (ho:o.op = .unOp .not T x) (g:Gam C s X β a.tmps w) {b:Bool} (hx:a.eval x = .bool b) (hK:Goes C X o a (.one (.d (.bool (!b)))) s K):o.wp P a w K Q :=
  zal (by simp[execOp,ho,hx,Op.unary]) g zbM hK
theorem zB9 {T:TypeId} (ho:o.op = .unOp .neg T x) (g:Gam C s X β a.tmps w) {k:IntKind} {n:Int} (hx:a.eval x = .int k n) (hK:Goes C X o a (.one (.d (.int k (k.wrap (0 - n))))) s K):o.wp P a w K Q :=
  zal (v := .int k (k.wrap (0 - n))) (by simp[execOp,ho,hx,Op.unary,Op.intArith]) g zaS hK
/-! ### Append -/
def ztP (w:World) (v:Value) (m k:Nat) (news:List Value):Prop :=
  news.length=m * k∧(∀ u∈news,u.oneCell'=true)∧((m=0∧∃ ad c,v = .slice ad 0 c)∨∃ b q c,v = .slice (some ⟨b,q,none⟩) m c∧∀ (j:Nat) u,news[j]? = some u→w.cell? ⟨b,q+j,none⟩=some u)
theorem ztP.first {w:World} {v:Value} {m k:Nat} {news:List Value} (h:ztP w v m k news) {w':World} (hw:∀ b,b < w.heap.size→w'.heap[b]? = w.heap[b]?) :
    (Builtin.firstCells k m v).run P w' = .ok news.toArray w'∧(Builtin.lenOf v).run P w' = .ok m w':=by
  obtain ⟨h1,_,⟨rfl,ad,c,rfl⟩ | ⟨b,q,c,rfl,h2⟩⟩:=h
  · have:news=[]:=List.eq_nil_of_length_eq_zero (by simpa using h1)
    subst this
    refine ⟨?_,by simp[Builtin.lenOf]⟩
    cases ad<;>simp[Builtin.firstCells,loadCells,loadCellsFrom]
  · refine ⟨run_firstCells_some w' k m _ m c news h1 fun j u hj=>?_,by simp[Builtin.lenOf]⟩
    rw[zio]
    have h3:=h2 j u hj
    have hlt:=World.block_lt_of_cell? w _ h3
    rw[World.cell?_of_block (w:=w) (hw b hlt)]; exact h3
theorem run_append_fits {E:TypeId} {inf:TypeInfo} {_z:Value} {T:TypeId} (hu:P.underlying t=some (.slice E)) (hi:P.info? E=some inf) {g sLen sCap:Nat} {cur:Array Value} {ty:TypeId}
    (hg:w.heap[g]? = some (.cells cur T (0,0))) {v:Value} {m:Nat} {news:List Value} (hn:ztP w v m inf.size news) (hroom:sLen+m≤sCap) (hfit:sLen * inf.size+news.length≤cur.size) :
    (Builtin.append_ #[t,t] ty #[.slice (some ⟨g,0,none⟩) sLen sCap,v]).run P w =
      .ok (.slice (some ⟨g,0,none⟩) (sLen+m) sCap) (w.setRow g (cur.toList.take (sLen * inf.size)++news++cur.toList.drop (sLen * inf.size+news.length)).toArray):=by
  obtain ⟨hf,hl⟩:=hn.first (P:=P) (w':=w) fun _ _=>rfl
  have hst:=run_storeCells_at P g (sLen * inf.size) T news 0 cur w hg (by simpa using hfit) hn.2.1
  simp only[Nat.add_zero] at hst
  simp[Builtin.append_,run_underlying hu,sizeOf,typeInfo,hi,hl,hroom,hf,zio,hst]
theorem zd2 {E:TypeId} {inf:TypeInfo} {z:Value} {ty:TypeId} (hu:P.underlying t=some (.slice E)) (hi:P.info? E=some inf) (hz:inf.zero=some z) {ad:Option Addr} {sLen sCap:Nat} {olds:List Value}
    (ho:(Builtin.firstCells inf.size sLen (.slice ad sLen sCap)).run P w.drew = .ok olds.toArray w.drew) {v:Value} {m:Nat} {news:List Value} (hn:ztP w v m inf.size news)
    (hg:sCap < sLen+m) (h63:((sLen+m:Nat):Int)≤9223372036854775807) (hfit:(sLen+m) * inf.bytes≤140737488355328) :
    ∃ cap,sLen+m≤cap∧(sLen+m≤maxLen→cap≤maxLen)∧(Builtin.append_ #[t,t] ty #[.slice ad sLen sCap,v]).run P w =
      .ok (.slice (some ⟨w.heap.size,0,none⟩) (sLen+m) cap) (w.drew.alloc (.cells (olds.toArray++news.toArray++Builtin.zeroCells z.cells (cap - (sLen+m))) E)):=by
  refine ⟨grownCap w (sLen+m) sCap E,grownCap_ge w _ _ _,grownCap_le_maxLen w _ _ _,?_⟩
  have hn1:¬ (sLen+m≤sCap):=by omega
  have h63':¬ (9223372036854775807 < ((sLen:Int)+(m:Int))):=by omega
  have h48:=growslice_fits hg hfit
  have h48':¬ (281474976710656 < Builtin.nextslicecap (sLen+m) sCap * inf.bytes):=by omega
  obtain ⟨hf,_⟩:=hn.first (P:=P) (w':=w.drew) fun _ _=>rfl
  obtain ⟨_,hl⟩:=hn.first (P:=P) (w':=w) fun _ _=>rfl
  simp[Builtin.append_,run_underlying hu,sizeOf,typeInfo,zeroValue,hi,hz,hl,hn1,h63',h48',Question.forced,hf,ho,newRow,grownCap]
  congr 2
  apply Array.ext'
  simp[List.append_assoc]
end
end Go.Di
open Go.RowKit (Below)
namespace Go.Di
theorem zFV {p q:Nat→Prop} {a:A1} (h1:a.refs p) (h2:a.refs q):a.refs fun k=>p k∧q k:=by
  cases a<;>first | trivial | exact ⟨h1,h2⟩ | exact ⟨⟨h1.1,h2.1⟩,h1.2,h2.2⟩
theorem znd {p q:Nat→Prop} {l:List A1} (h1:zh0 p l) (h2:zh0 q l):zh0 (fun k=>p k∧q k) l:=fun a ha=>zFV (h1 a ha) (h2 a ha)
theorem znc {p q:Nat→Prop} {a:AV} (h1:a.refs p) (h2:a.refs q):a.refs fun k=>p k∧q k:=by
  cases a with
  | v g l=>exact znd h1 h2
  | tup ps=>exact fun x hx=>znd (h1 x hx) (h2 x hx)
theorem zme {p q:Nat→Prop} {e:Ent} (h1:e.refs p) (h2:e.refs q):e.refs fun k=>p k∧q k:=by
  cases e with
  | box l=>exact znd h1 h2
  | pool _=>trivial
  | arr _ _ _=>trivial
  | deep _ _ _=>trivial
theorem zGW {t:ST} {xs:List t.El} {lo hi:Nat} (h1:lo≤hi) (h2:hi≤xs.length) {k:Nat} {c:Cell} (hk:(flat t (cut xs lo hi))[k]? = some c):(flat t xs)[lo * t.size+k]? = some c:=by
  have hcl:(cut xs lo hi).length=hi - lo:=by simp[cut]; omega
  have hkl:=(List.getElem?_eq_some_iff.1 hk).1
  rw[zaD,hcl] at hkl
  have hp:=size_pos t
  have hd:k=k / t.size * t.size+k % t.size:=by rw[Nat.mul_comm]; exact (Nat.div_add_mod k t.size).symm
  have hq:k / t.size < hi - lo:=Nat.div_lt_of_lt_mul (by rw[Nat.mul_comm]; exact hkl)
  have hx:(cut xs lo hi)[k / t.size]? = some (xs[lo+k / t.size]'(by omega)):=by
    simp only[cut,List.getElem?_drop,List.getElem?_take_of_lt (show lo+k / t.size < hi from by omega)]
    exact List.getElem?_eq_getElem (by omega)
  have e1:=flat_get t (cut xs lo hi) (k / t.size) _ (k % t.size) hx (Nat.mod_lt _ hp)
  have e2:=flat_get t xs (lo+k / t.size) _ (k % t.size) (List.getElem?_eq_getElem (by omega)) (Nat.mod_lt _ hp)
  rw[← hd] at e1
  rw[Nat.add_mul,Nat.add_assoc,← hd] at e2
  rw[e2,← e1]; exact hk
theorem ztP.mk {x:Cx} {t:ST} {ys:List t.El} {b q cap:Nat} (h:∀ (j:Nat) (c:Cell),(flat t ys)[j]? = some c→∃ u,x.w.cell? ⟨b,q+j,none⟩=some u∧x.rd u c) :
    ∃ news,ztP x.w (.slice (some ⟨b,q,none⟩) ys.length cap) ys.length t.size news∧∀ (j:Nat) (c:Cell),(flat t ys)[j]? = some c→∃ u,news[j]? = some u∧x.rd u c:=by
  have hex:∀ j,j < (flat t ys).length→∃ v,x.w.cell? ⟨b,q+j,none⟩=some v∧∀ c,(flat t ys)[j]? = some c→x.rd v c:=by
    intro j hj
    obtain ⟨u,h1,h2⟩:=h j _ (List.getElem?_eq_getElem hj)
    exact ⟨u,h1,fun c hc=>by rw[List.getElem?_eq_getElem hj] at hc; cases hc; exact h2⟩
  obtain ⟨vs,hl,hv⟩:=znP hex
  refine ⟨vs,⟨by rw[hl,zaD],fun u hu=>?_,.inr ⟨b,q,cap,rfl,fun j u hj=>(hv j u hj).1⟩⟩,fun j c hc=>?_⟩
  · obtain ⟨j,hj,rfl⟩:=List.getElem_of_mem hu
    have hjl:j < (flat t ys).length:=by omega
    obtain ⟨fp,hr,_⟩:=(hv j _ (List.getElem?_eq_getElem hj)).2 _ (List.getElem?_eq_getElem hjl)
    exact hr.zhm
  · have hj:=(List.getElem?_eq_some_iff.1 hc).1
    have hj':j < vs.length:=by omega
    exact ⟨vs[j],List.getElem?_eq_getElem hj',(hv j _ (List.getElem?_eq_getElem hj')).2 c hc⟩
theorem ztP.none {x:Cx} {t:ST} {ad:Option Addr} {cap:Nat} :
    ∃ news,ztP x.w (.slice ad 0 cap) ([]:List t.El).length t.size news∧∀ (j:Nat) (c:Cell),(flat t ([]:List t.El))[j]? = some c→∃ u,news[j]? = some u∧x.rd u c :=
  ⟨[],⟨by simp,(fun u hu=>by cases hu),.inl ⟨rfl,ad,cap,rfl⟩⟩,fun j c hc=>by simp[flat] at hc⟩
theorem znV {x:Cx} {fr:Bool} {t:ST} {xs:List t.El} {v:Value} (h:EntOk x (.arr fr t xs) v) :
    ∃ news,ztP x.w v xs.length t.size news∧∀ (j:Nat) (c:Cell),(flat t xs)[j]? = some c→∃ u,news[j]? = some u∧x.rd u c:=by
  by_cases hne:0 < xs.length
  · obtain ⟨g,q,cap,rfl,hc⟩:=zkJ h hne
    exact ztP.mk (zll h rfl)
  · have:xs=[]:=List.eq_nil_of_length_eq_zero (by omega)
    subst this
    obtain ⟨ad,cap,rfl,_⟩:=zoh h
    exact ztP.none
theorem zEn {x:Cx} {fr:Bool} {t:ST} {xs:List t.El} {ad:Option Addr} {m cap:Nat} (h:EntOk x (.arr fr t xs) (.slice ad m cap)) {lo len:Nat} (hfit:lo+len≤xs.length) :
    ∃ news,ztP x.w (.slice (if cap=lo then ad else ad.map (·.add (lo * t.size))) len (cap - lo)) (cut xs lo (lo+len)).length t.size news ∧
      ∀ (j:Nat) (c:Cell),(flat t (cut xs lo (lo+len)))[j]? = some c→∃ u,news[j]? = some u∧x.rd u c:=by
  have hcl:(cut xs lo (lo+len)).length=len:=by simp[cut]; omega
  by_cases hne:0 < len
  · obtain ⟨g,q,cap',hv,hc⟩:=zkJ h (by omega)
    cases hv
    rw[if_neg (by omega)]
    simp only[Option.map_some,zio]
    have:=ztP.mk (x:=x) (t:=t) (ys:=cut xs lo (lo+len)) (b:=g) (q:=q+lo * t.size) (cap:=cap - lo) fun j c hj=>by
      obtain ⟨u,h1,h2⟩:=zll h rfl _ c (zGW (by omega) (by omega) hj)
      exact ⟨u,by rw[Nat.add_assoc]; exact h1,h2⟩
    rw[hcl] at this ⊢; exact this
  · have h0:len=0:=by omega
    subst h0
    have:cut xs lo (lo+0)=[]:=List.eq_nil_of_length_eq_zero hcl
    rw[this]; exact ztP.none
theorem cast_eq {u t:ST} {xs:List u.El} {ys:List t.El} (h:ST.cast u t xs=some ys):∃ e:u=t,e▸xs=ys:=by
  cases u<;>cases t<;>first | (simp only[ST.cast,Option.some.injEq] at h; exact ⟨rfl,h⟩) | (simp[ST.cast] at h)
theorem zfw:∀ {c:CK} {x:Cell} {y:c.ty},c.get x=some y→x=c.cell y
  | .int k,.int k' n,y,h=>by
    have h':(match zhr k k' with | true=>some n | false=>none)=some y:=h
    cases hk:zhr k k' with
    | true=>rw[hk] at h'; cases h'; rw[zgQ hk]; rfl
    | false=>rw[hk] at h'; cases h'
  | .bool,.bool b,y,h=>by have h':some b=some y:=h; cases h'; rfl
  | .str,.str s,y,h=>by have h':some s=some y:=h; cases h'; rfl
  | .sl t,.sl u xs,y,h=>by
    have h':ST.cast u t xs=some y:=h
    obtain ⟨rfl,rfl⟩:=cast_eq h'; rfl
  | .tok,.tok k,y,h=>by have h':some k=some y:=h; cases h'; rfl
  | .any,.any,_,_=>rfl
  | .int _,.bool _,_,h | .int _,.str _,_,h | .int _,.sl _ _,_,h=>by cases h
  | .bool,.int _ _,_,h | .bool,.str _,_,h | .bool,.sl _ _,_,h=>by cases h
  | .str,.int _ _,_,h | .str,.bool _,_,h | .str,.sl _ _,_,h=>by cases h
  | .sl _,.int _ _,_,h | .sl _,.bool _,_,h | .sl _,.str _,_,h=>by cases h
theorem zyA {es:List (Nat × Ent)} {n:Nat} {e:ST} {ys:List e.El} (h:A1.as es (.sl e) (.own n)=some ys):∃ fr,look n es=some (.arr fr e ys):=by
  have h':(match look n es with | some (.arr _ u xs)=>ST.cast u e xs | _=>none)=some ys:=h
  cases hl:look n es with
  | none=>rw[hl] at h'; cases h'
  | some f =>
    cases f with
    | box l=>rw[hl] at h'; cases h'
    | deep _ _ _=>rw[hl] at h'; cases h'
    | pool _=>rw[hl] at h'; cases h'
    | arr fr u xs=>rw[hl] at h'; obtain ⟨rfl,rfl⟩:=cast_eq h'; exact ⟨fr,rfl⟩
theorem zFg {es:List (Nat × Ent)} {n lo len:Nat} {e:ST} {ys:List e.El} (h:A1.as es (.sl e) (.win n lo len)=some ys):∃ fr xs,look n es=some (.arr fr e xs)∧ys=cut xs lo (lo+len):=by
  have h':(match look n es with | some (.arr _ u xs)=>ST.cast u e (cut xs lo (lo+len)) | _=>none)=some ys:=h
  cases hl:look n es with
  | none=>rw[hl] at h'; cases h'
  | some f =>
    cases f with
    | box l=>rw[hl] at h'; cases h'
    | deep _ _ _=>rw[hl] at h'; cases h'
    | pool _=>rw[hl] at h'; cases h'
    | arr fr u xs=>rw[hl] at h'; obtain ⟨rfl,rfl⟩:=cast_eq h'; exact ⟨fr,xs,rfl,rfl⟩
section
variable {P:Program} {C:Bs} {w w':World} {s s':St} {X:Nat→Prop} {β β':Nat→Option Value} {a:Act} {o:Oper} {tm:Array Value}
  {t:TypeId} {x y:Operand} {i:TI} {K:Act→World→Prop} {Q:Exit→Act→World→Prop}
theorem zsW {es:List (Nat × Ent)} {t:ST} {b:A1} {ys:List t.El} (h:zim es t b=some ys):b.zvb=false∧b.as es (.sl t)=some ys:=by
  unfold zim at h
  cases hd:b.zvb with
  | true=>rw[hd] at h; cases h
  | false=>rw[hd] at h; exact ⟨rfl,h⟩
theorem zmT (g:Gam C s X β tm w) {b:A1} {e:ST} {ys:List e.El} {v:Value} (hb:A1Ok (cx C s β w) b v) (h:zim s.ents e b=some ys) :
    ∃ news,ztP w v ys.length e.size news∧∀ (j:Nat) (c:Cell),(flat e ys)[j]? = some c→∃ u,news[j]? = some u∧(cx C s β w).rd u c:=by
  obtain ⟨hd,h⟩:=zsW h
  cases b with
  | bot=>simp[A1.as] at h
  | lp _ _=>simp[A1.as] at h
  | sp _ _=>simp[A1.as] at h
  | oe _ _ _=>simp[A1.as] at h
  | fn _ _=>simp[A1.as] at h
  | dp _=>cases hd
  | de _ _ _=>cases hd
  | dc _ _ _ _=>cases hd
  | d c =>
    have hc:=zfw (c := .sl e) (y:=ys) h
    subst hc
    exact znV (fr:=true) hb
  | mt =>
    obtain ⟨ad,rfl⟩:=hb
    have h':some ([]:List e.El)=some ys:=h
    cases h'
    exact ztP.none (x:=cx C s β w) (t:=e)
  | own n =>
    obtain ⟨fr,hl⟩:=zyA h
    exact znV (g.ents n _ _ hl (hb _ _ _ hl))
  | win n lo len =>
    obtain ⟨fr,xs,hl,rfl⟩:=zFg h
    obtain ⟨hfit,ad,m,cap,hβ,hlo,rfl⟩:=hb fr e xs hl
    exact zEn (g.ents n _ _ hl hβ) hfit
theorem Gam.swap (g:Gam C s X β tm w) {n m:Nat} {e e':Ent} {v v':Value} (hl:look n s.ents=some e) (hm:e.mut=true) (hv:β n=some v)
    (hw:∀ b,b < w.heap.size→b ∉ zaq v→w'.heap[b]? = w.heap[b]?) (hsz:w.heap.size≤w'.heap.size) (hbel:Kp C.keep w w') (hnm:m % 64≠63) (htop:∀ b∈zaq v',b∈zaq v∨(w.heap.size≤b∧b < w'.heap.size))
    (he:Le (cx C s β w) (cx C ((s.free n).push m e') (upd β m v') w') (fun k=>k≠n∧k≠m)→EntOk (cx C ((s.free n).push m e') (upd β m v') w') e' v') :
    Gam C ((s.free n).push m e') X (upd β m v') tm w':=by
  have hPN:PN≠m:=fun h=>hnm (h▸by decide)
  have htk:zd1 (upd β m v')=zd1 β:=by funext i; simp only[zd1,zax β v' hPN]
  have hlook:∀ k,look k ((s.free n).push m e').ents=if k=m then some e' else if k=n then none else ((look k s.ents).map (Ent.kill n)).map (Ent.kill m):=by
    intro k
    simp only[St.push,St.zuf,Go.Di.zhW,za6,St.freeL,za4]
    split
    · rfl
    · split<;>rfl
  have old:∀ k f,k≠m→look k ((s.free n).push m e').ents=some f→k≠n∧∃ f0,look k s.ents=some f0∧f=(f0.kill n).kill m:=by
    intro k f hk h
    rw[hlook,if_neg hk] at h
    split at h
    · cases h
    · rename_i hkn
      cases h0:look k s.ents with
      | none=>simp[h0] at h
      | some f0=>simp[h0] at h; exact ⟨hkn,f0,rfl,h.symm⟩
  have mutk:∀ f0:Ent,((f0.kill n).kill m).mut=f0.mut:=fun f0=>by rw[zdn,zdn]
  have htopB:∀ b,Top (fun k=>look k ((s.free n).push m e').ents) (upd β m v') b→(b∈zaq v')∨Top (fun k=>look k s.ents) β b:=by
    rintro b ⟨k,f,u,h1,h2,h3,h4⟩
    by_cases hk:k=m
    · subst hk; rw[upd_same] at h3; cases h3; exact .inl h4
    · obtain ⟨hkn,f0,q1,rfl⟩:=old k f hk h1
      rw[zax β v' hk] at h3
      exact .inr ⟨k,f0,u,q1,by rwa [mutk] at h2,h3,h4⟩
  have hTv:∀ b∈zaq v,Top (fun k=>look k s.ents) β b:=fun b hb=>⟨n,e,v,hl,hm,hv,hb⟩
  have hle:Le (cx C s β w) (cx C ((s.free n).push m e') (upd β m v') w') (fun k=>k≠n∧k≠m):=by
    refine ⟨fun _ h=>h,fun b hlt hnt=>hw b hlt fun hb=>hnt (hTv b hb),hsz,fun b hlt _ ht=>?_,fun k hk=>?_,fun k hk _ fr t xs h=>?_,fun i v h=>(congrFun htk i).trans h⟩
    · rcases htopB b ht with h | h
      · rcases htop b h with h | h
        · exact hTv b h
        · simp only[cx] at hlt; omega
      · exact h
    · simp only[cx,hlook,if_neg hk.1,if_neg hk.2,zax β v' hk.2]
      cases h0:look k s.ents with
      | none=>left; simp
      | some f =>
        right; left; refine ⟨trivial,?_⟩
        cases f with
        | box l=>right; left; exact ⟨l,zdF m (zdF n l),by simp,by simp[Ent.kill]⟩
        | arr fr t xs=>left; simp[Ent.kill]
        | deep fr t xs=>left; simp[Ent.kill]
        | pool k=>left; simp[Ent.kill]
    · obtain ⟨_,f0,q1,q2⟩:=old k _ hk.2 h
      refine ⟨fr,?_,zax β v' hk.2⟩
      show look k s.ents=_
      rw[q1]
      cases f0 with
      | box l=>cases q2
      | arr fr t xs=>cases q2
      | pool k=>cases q2
      | deep fr t xs=>cases q2; rfl
  refine ⟨by simp[St.push,St.zuf,St.freeL,St.free,zd7,g.len],fun t av hx h=>?_,fun k f u h1 h2=>?_,?_,fun b h=>?_,fun b hk=>Nat.lt_of_lt_of_le (g.kb b hk) hsz,g.below.trans hbel,fun k u hp hlk=>?_,g.np,fun k f h=>?_,g.fx,fun π h=>⟨htk.trans (g.tk π h).1,by rw[hlook,if_neg hPN]; split<;>simp[(g.tk π h).2]⟩⟩
  · simp only[St.push,St.zuf,St.freeL,St.free,zeh] at h
    cases h0:s.env[t]? with
    | none=>simp[h0] at h
    | some a0 =>
      simp[h0] at h; subst h
      exact hle.av (znc (zh8 m (zd8 n a0)) (zd8 m _)) (((g.env t a0 hx h0).kill n).kill m)
  · by_cases hk:k=m
    · subst hk; rw[hlook,if_pos rfl] at h1; cases h1; rw[upd_same] at h2; cases h2; exact he hle
    · obtain ⟨hkn,f0,q1,rfl⟩:=old k f hk h1
      rw[zax β v' hk] at h2
      refine EntOk.le hle (zme (zhi m (zdG n f0)) (zdG m _)) (fun b hb hfm=>hw b (g.fresh b ⟨k,f0,u,q1,by rwa [mutk] at hfm,h2,hb⟩).2 fun hb'=>?_) (((g.ents k f0 u q1 h2).kill n).kill m)
      exact hkn (g.uniq k n f0 e u v b q1 hl (by rwa [mutk] at hfm) hm h2 hv hb hb')
  · intro k1 k2 f1 f2 u1 u2 b h1 h2 h3 h4 h5 h6 h7 h8
    have one:∀ k f u,k≠m→look k ((s.free n).push m e').ents=some f→f.mut=true→upd β m v' k=some u→b∈zaq u→b∈zaq v'→False:=by
      intro k f u hk q1 q2 q3 q4 q5
      obtain ⟨hkn,f0,q6,rfl⟩:=old k f hk q1
      rw[zax β v' hk] at q3
      rcases htop b q5 with h | h
      · exact hkn (g.uniq k n f0 e u v b q6 hl (by rwa [mutk] at q2) hm q3 hv q4 h)
      · have:=(g.fresh b ⟨k,f0,u,q6,by rwa [mutk] at q2,q3,q4⟩).2
        omega
    by_cases hk1:k1=m<;>by_cases hk2:k2=m
    · rw[hk1,hk2]
    · subst hk1; rw[upd_same] at h5; cases h5; exact (one k2 f2 u2 hk2 h2 h4 h6 h8 h7).elim
    · subst hk2; rw[upd_same] at h6; cases h6; exact (one k1 f1 u1 hk1 h1 h3 h5 h7 h8).elim
    · obtain ⟨_,e1,q1,rfl⟩:=old k1 f1 hk1 h1
      obtain ⟨_,e2,q2,rfl⟩:=old k2 f2 hk2 h2
      rw[zax β v' hk1] at h5; rw[zax β v' hk2] at h6
      exact g.uniq k1 k2 e1 e2 u1 u2 b q1 q2 (by rwa [mutk] at h3) (by rwa [mutk] at h4) h5 h6 h7 h8
  · rcases htopB b h with h | h
    · rcases htop b h with h | h
      · exact ⟨(g.fresh b (hTv b h)).1,Nat.lt_of_lt_of_le (g.fresh b (hTv b h)).2 hsz⟩
      · exact ⟨fun hk=>absurd (g.kb b hk) (by omega),h.2⟩
    · exact ⟨(g.fresh b h).1,Nat.lt_of_lt_of_le (g.fresh b h).2 hsz⟩
  · have hkm:k≠m:=fun e=>hnm (by rw[← e]; exact (g.np k (by rw[hp]; rfl)).1)
    rw[zax β v' hkm]
    refine g.pin k u hp ?_
    rw[hlook,if_neg hkm] at hlk
    split at hlk
    · cases hlk
    · cases hq:look k s.ents with
      | none=>simp[hq] at hlk
      | some f=>rfl
  · by_cases hk:k=m
    · subst hk; rw[upd_same]; rfl
    · obtain ⟨_,f0,q1,_⟩:=old k f hk h
      rw[zax β v' hk]; exact g.bs k f0 q1
end
end Go.Di
