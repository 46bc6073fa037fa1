/-
  Own work. An abstract executor over the model's Code: abstract values, abstract states, and an evaluator in continuation form.
-/
import Derived.Calls
import Derived.Orders
import Derived.KernelRfl
import Derived.Laws.AppendOwn
namespace Go.Di

structure Rt where
  neg : Bool
  mag : List Int
  den : List Int
structure Sta where
  name : ByteArray
  x : Rt
  y : Rt
  fixed : Bool
structure Obs where
  kind : Int
  frm : Int
  to : Int
  value : Rt
  variance : Rt

inductive ST where
  | int | byte | str | rat | sta | obs | rats

def ST.eqb : ST → ST → Bool
  | .int, .int | .byte, .byte | .str, .str | .rat, .rat | .sta, .sta | .obs, .obs | .rats, .rats => true
  | _, _ => false

def ST.El : ST → Type
  | .int => Int
  | .byte => Int
  | .str => ByteArray
  | .rat => Rt
  | .sta => Sta
  | .obs => Obs
  | .rats => List Rt

def ST.size : ST → Nat
  | .int | .byte | .str | .rats => 1
  | .rat => 3
  | .sta => 8
  | .obs => 9

inductive Cell where
  | int (k : IntKind) (n : Int)
  | bool (b : Bool)
  | str (s : ByteArray)
  | sl (t : ST) (xs : List t.El)

def ST.cells : (t : ST) → t.El → List Cell
  | .int, n => [.int .i64 n]
  | .byte, n => [.int .u8 n]
  | .str, s => [.str s]
  | .rat, r => [.bool r.neg, .sl .int r.mag, .sl .int r.den]
  | .sta, s => [.str s.name, .bool s.x.neg, .sl .int s.x.mag, .sl .int s.x.den, .bool s.y.neg, .sl .int s.y.mag, .sl .int s.y.den, .bool s.fixed]
  | .obs, o => [.int .i64 o.kind, .int .i64 o.frm, .int .i64 o.to, .bool o.value.neg, .sl .int o.value.mag, .sl .int o.value.den,
      .bool o.variance.neg, .sl .int o.variance.mag, .sl .int o.variance.den]
  | .rats, l => [.sl .rat l]

/-- The kinds of data cells. -/
inductive CK where
  | int (k : IntKind) | bool | str | sl (t : ST)

def CK.ty : CK → Type
  | .int _ => Int
  | .bool => Bool
  | .str => ByteArray
  | .sl t => List t.El

def CK.cell : (c : CK) → c.ty → Cell
  | .int k, n => .int k n
  | .bool, b => .bool b
  | .str, s => .str s
  | .sl t, xs => .sl t xs

def kindEqb : IntKind → IntKind → Bool
  | .i8, .i8 | .i16, .i16 | .i32, .i32 | .i64, .i64 | .u8, .u8 | .u16, .u16 | .u32, .u32 | .u64, .u64 => true
  | _, _ => false

/-- Lists of one element type, read as lists of another: the same one, or nothing. -/
def ST.cast : (t u : ST) → List t.El → Option (List u.El)
  | .int, .int, xs => some xs
  | .byte, .byte, xs => some xs
  | .str, .str, xs => some xs
  | .rat, .rat, xs => some xs
  | .sta, .sta, xs => some xs
  | .obs, .obs, xs => some xs
  | .rats, .rats, xs => some xs
  | _, _, _ => none

def CK.get : (c : CK) → Cell → Option c.ty
  | .int k, .int k' n => match kindEqb k k' with | true => some n | false => none
  | .bool, .bool b => some b
  | .str, .str s => some s
  | .sl t, .sl u xs => ST.cast u t xs
  | _, _ => none

/-- The kinds of the cells of an element. -/
def ST.kinds : ST → List CK
  | .int => [.int .i64]
  | .byte => [.int .u8]
  | .str => [.str]
  | .rat => [.bool, .sl .int, .sl .int]
  | .sta => [.str, .bool, .sl .int, .sl .int, .bool, .sl .int, .sl .int, .bool]
  | .obs => [.int .i64, .int .i64, .int .i64, .bool, .sl .int, .sl .int, .bool, .sl .int, .sl .int]
  | .rats => [.sl .rat]

/-- A tuple of typed cells. -/
def Tys : List CK → Type
  | [] => Unit
  | c :: cs => c.ty × Tys cs

def Tys.cells : (cs : List CK) → Tys cs → List Cell
  | [], _ => []
  | c :: cs, x => c.cell x.1 :: Tys.cells cs x.2

def ST.mk : (t : ST) → Tys t.kinds → t.El
  | .int, x => x.1
  | .byte, x => x.1
  | .str, x => x.1
  | .rat, x => ⟨x.1, x.2.1, x.2.2.1⟩
  | .sta, x => ⟨x.1, ⟨x.2.1, x.2.2.1, x.2.2.2.1⟩, ⟨x.2.2.2.2.1, x.2.2.2.2.2.1, x.2.2.2.2.2.2.1⟩, x.2.2.2.2.2.2.2.1⟩
  | .obs, x => ⟨x.1, x.2.1, x.2.2.1, ⟨x.2.2.2.1, x.2.2.2.2.1, x.2.2.2.2.2.1⟩, ⟨x.2.2.2.2.2.2.1, x.2.2.2.2.2.2.2.1, x.2.2.2.2.2.2.2.2.1⟩⟩
  | .rats, x => x.1

/-- An abstract one-cell value. -/
inductive A1 where
  | bot
  | d (c : Cell)
  /-- a slice of length and capacity 0 -/
  | mt
  /-- the address of a cell of the boxed variable n -/
  | lp (n off : Nat)
  /-- the whole of the own array n -/
  | own (n : Nat)
  /-- a part of the own array n -/
  | win (n lo len : Nat)
  /-- an address into memory that stays as it is, whose cells are known -/
  | sp (cs : List Cell) (off : Nat)
  /-- the address of a cell of element i of the own array n -/
  | oe (n i off : Nat)

inductive AV where
  | v (agg : Bool) (cells : List A1)
  | tup (parts : List (Bool × List A1))

def AV.bot : AV := .v false [.bot]
def AV.one (a : A1) : AV := .v false [a]

inductive Ent where
  | box (cells : List A1)
  /-- an array of the call's own; fr: from now on it stays as it is -/
  | arr (fr : Bool) (t : ST) (xs : List t.El)

structure St where
  env : List AV
  ents : List (Nat × Ent)

def look (n : Nat) : List (Nat × Ent) → Option Ent
  | [] => none
  | (m, e) :: r => match Nat.beq n m with | true => some e | false => look n r

/-- Puts an entry, in ascending order of the names; in the place of one of this name. -/
def put (n : Nat) (e : Ent) : List (Nat × Ent) → List (Nat × Ent)
  | [] => [(n, e)]
  | (m, f) :: r => match Nat.beq n m with
    | true => (n, e) :: r
    | false => match Nat.blt n m with
      | true => (n, e) :: (m, f) :: r
      | false => (m, f) :: put n e r

def drop (n : Nat) : List (Nat × Ent) → List (Nat × Ent)
  | [] => []
  | (m, f) :: r => match Nat.beq n m with
    | true => drop n r
    | false => (m, f) :: drop n r

/-- A value that refers to the name n is forgotten. -/
def A1.kill (n : Nat) : A1 → A1
  | .lp m o => match Nat.beq n m with | true => .bot | false => .lp m o
  | .own m => match Nat.beq n m with | true => .bot | false => .own m
  | .win m l k => match Nat.beq n m with | true => .bot | false => .win m l k
  | .oe m i o => match Nat.beq n m with | true => .bot | false => .oe m i o
  | a => a
def killL (n : Nat) : List A1 → List A1
  | [] => []
  | a :: r => a.kill n :: killL n r
def killP (n : Nat) : List (Bool × List A1) → List (Bool × List A1)
  | [] => []
  | (b, l) :: r => (b, killL n l) :: killP n r
def AV.kill (n : Nat) : AV → AV
  | .v b l => .v b (killL n l)
  | .tup l => .tup (killP n l)
def killE (n : Nat) : List AV → List AV
  | [] => []
  | a :: r => a.kill n :: killE n r
def Ent.kill (n : Nat) : Ent → Ent
  | .box l => .box (killL n l)
  | e => e
def killN (n : Nat) : List (Nat × Ent) → List (Nat × Ent)
  | [] => []
  | (m, e) :: r => (m, e.kill n) :: killN n r
/-- The name n is free again: its entry and all that refers to it is forgotten. -/
def St.free (n : Nat) (s : St) : St := ⟨killE n s.env, killN n (drop n s.ents)⟩

def St.get (s : St) (t : Nat) : AV := s.env.getD t AV.bot
def St.set (s : St) (t : Nat) (a : AV) : St := ⟨s.env.set t a, s.ents⟩

/-- What is known of a type. -/
structure TI where
  agg : Bool
  zero : List A1
  fields : List (Nat × Nat × Bool)
  elem : Option ST
  scal : Option CK
  strct : Bool

def findTI (t : TypeId) : List (TypeId × TI) → Option TI
  | [] => none
  | (u, i) :: r => match Nat.beq t u with | true => some i | false => findTI t r

/-- A result that is there, is not there, or hangs on a question. -/
inductive Susp (α : Type) : Type 1 where
  | fail
  | ret (a : α)
  | ask {ρ : Type} (x : Option ρ) (f : ρ → α)

def Susp.bindK {α β : Type} : Susp α → (α → Option β) → Option β
  | .fail, _ => none
  | .ret a, k => k a
  | .ask x f, k => x.bind fun r => k (f r)

inductive RK where
  | data (c : CK)
  | fresh (t : ST)
def RK.ck : RK → CK
  | .data c => c
  | .fresh t => .sl t

/-- A function's contract on data: for each parameter whether it is a struct, and the kinds of its cells; the results likewise. -/
structure Sig where
  args : List (Bool × List CK)
  tup : Bool
  res : List (Bool × List RK)
def ckL : List RK → List CK
  | [] => []
  | k :: r => k.ck :: ckL r
def insOf : List (Bool × List CK) → List CK
  | [] => []
  | (_, l) :: r => l ++ insOf r
def outsOf : List (Bool × List RK) → List CK
  | [] => []
  | (_, l) :: r => ckL l ++ outsOf r
def Sig.ins (s : Sig) : List CK := insOf s.args
def Sig.outs (s : Sig) : List CK := outsOf s.res
structure Con where
  sig : Sig
  run : Tys sig.ins → Option (Tys sig.outs)

def findCon (f : FuncId) : List (FuncId × Con) → Option Con
  | [] => none
  | (g, c) :: r => match Nat.beq f g with | true => some c | false => findCon f r

def guardO : Bool → Option Unit
  | true => some ()
  | false => none

/-- Element i of a list, i an int of Go's. -/
def idx {α : Type} (xs : List α) (i : Int) : Option α := if 0 ≤ i then xs[i.toNat]? else none
/-- The part from lo up to hi. -/
def cut {α : Type} (xs : List α) (lo hi : Nat) : List α := (xs.take hi).drop lo

/-- A one-cell value as a typed datum. -/
def A1.as (es : List (Nat × Ent)) : (c : CK) → A1 → Option c.ty
  | c, .d x => c.get x
  | .sl t, .mt => some ([] : List t.El)
  | .sl t, .own n => match look n es with
    | some (.arr _ u xs) => ST.cast u t xs
    | _ => none
  | .sl t, .win n lo len => match look n es with
    | some (.arr _ u xs) => ST.cast u t (cut xs lo (lo + len))
    | _ => none
  | _, _ => none

def asTys (es : List (Nat × Ent)) : (cs : List CK) → List A1 → Option (Tys cs)
  | [], [] => some ()
  | c :: cs, a :: l => match a.as es c with
    | some x => match asTys es cs l with
      | some y => some (x, y)
      | none => none
    | none => none
  | _, _ => none

def splitAt' {α : Type} : Nat → List α → List α × List α
  | 0, l => ([], l)
  | _ + 1, [] => ([], [])
  | n + 1, a :: l => let p := splitAt' n l; (a :: p.1, p.2)

/-- The arguments' cells in a row, if their shapes are those of the signature. -/
def flatArgs : List (Bool × List CK) → List AV → Option (List A1)
  | [], [] => some []
  | (b, ks) :: ps, .v b' l :: vs => match b, b' with
    | true, true | false, false => match Nat.beq ks.length l.length with
      | true => match flatArgs ps vs with
        | some r => some (l ++ r)
        | none => none
      | false => none
    | _, _ => none
  | _, _ => none

/-- The cells of results, and the entries of those in new memory, named from n on. -/
def resCells : Nat → (ks : List RK) → Tys (ckL ks) → List A1 × List (Nat × Ent)
  | _, [], _ => ([], [])
  | n, .data c :: ks, x => let p := resCells (n + 1) ks x.2; (.d (c.cell x.1) :: p.1, p.2)
  | n, .fresh t :: ks, x => let p := resCells (n + 1) ks x.2; (.own n :: p.1, (n, .arr false t x.1) :: p.2)

/-- Tuples of the concatenation of two lists of kinds. -/
def Tys.fst : (cs ds : List CK) → Tys (cs ++ ds) → Tys cs
  | [], _, _ => ()
  | _ :: cs, ds, x => (x.1, Tys.fst cs ds x.2)
def Tys.snd : (cs ds : List CK) → Tys (cs ++ ds) → Tys ds
  | [], _, x => x
  | _ :: cs, ds, x => Tys.snd cs ds x.2

def resParts : Nat → (rs : List (Bool × List RK)) → Tys (outsOf rs) → List (Bool × List A1) × List (Nat × Ent)
  | _, [], _ => ([], [])
  | n, (b, l) :: rs, x =>
    let a := resCells n l (Tys.fst (ckL l) (outsOf rs) x)
    let c := resParts (n + l.length) rs (Tys.snd (ckL l) (outsOf rs) x)
    ((b, a.1) :: c.1, a.2 ++ c.2)

def mkRes : Bool → List (Bool × List A1) → AV
  | false, [(b, l)] => .v b l
  | _, l => .tup l

/-- Thirty-two names for each temporary. -/
def nm (t : Nat) : Nat := 32 * t

def opnd (s : St) : Operand → AV
  | .tmp t => s.get t
  | .const (.int k n) => .one (.d (.int k n))
  | .const (.bool b) => .one (.d (.bool b))
  | .const (.string x) => .one (.d (.str x))
  | .const (.slice none 0 0) => .one .mt
  | _ => .bot

def AV.cells : AV → Option (List A1)
  | .v false [.bot] => none
  | .v _ l => some l
  | _ => none

/-- The own arrays that these cells refer to stay as they are from now on. -/
def freeze1 (n : Nat) : List (Nat × Ent) → List (Nat × Ent)
  | [] => []
  | (m, e) :: r => match Nat.beq n m with
    | true => match e with
      | .arr _ t xs => (m, .arr true t xs) :: freeze1 n r
      | .box l => (m, .box l) :: freeze1 n r
    | false => (m, e) :: freeze1 n r
def A1.freeze (a : A1) (es : List (Nat × Ent)) : List (Nat × Ent) :=
  match a with
  | .own n => freeze1 n es
  | .win n _ _ => freeze1 n es
  | _ => es
def freezeL : List A1 → List (Nat × Ent) → List (Nat × Ent)
  | [], es => es
  | a :: r, es => freezeL r (a.freeze es)

def St.freeL : List (Nat × Ent) → St → St
  | [], s => s
  | (n, _) :: r, s => St.freeL r (s.free n)
def putL : List (Nat × Ent) → List (Nat × Ent) → List (Nat × Ent)
  | [], es => es
  | (n, e) :: r, es => putL r (put n e es)
/-- New entries, under names that are free from now on. -/
def St.pushL (l : List (Nat × Ent)) (s : St) : St := let f := St.freeL l s; ⟨f.env, putL l f.ents⟩
def St.push (n : Nat) (e : Ent) (s : St) : St := St.pushL [(n, e)] s

/-- Cells from off on, k of them. -/
def window (off k : Nat) (l : List A1) : Option (List A1) :=
  let p := splitAt' k (splitAt' off l).2
  match Nat.beq p.1.length k with
  | true => some p.1
  | false => none
/-- x in the place of the cells from off on. -/
def patch : Nat → List A1 → List A1 → Option (List A1)
  | 0, [], l => some l
  | 0, _ :: _, [] => none
  | 0, a :: x, _ :: l => match patch 0 x l with
    | some r => some (a :: r)
    | none => none
  | _ + 1, _, [] => none
  | n + 1, x, b :: l => match patch n x l with
    | some r => some (b :: r)
    | none => none

def dataL : List Cell → List A1
  | [] => []
  | c :: r => .d c :: dataL r

def elemOf (es : List (Nat × Ent)) (t : ST) (l : List A1) : Option t.El :=
  match asTys es t.kinds l with
  | some x => some (t.mk x)
  | none => none

def strAt (s : ByteArray) (i : Int) : Option Int := if 0 ≤ i then (s.data[i.toNat]?).map fun b => (b.toNat : Int) else none
def strEq (a b : ByteArray) : Bool := a.toList == b.toList

def addrOf : AV → Option A1
  | .v false [a] => some a
  | _ => none

def partsOf (fs : List (Nat × Nat × Bool)) (s : St) : List (Nat × Operand) → List A1 → Option (List A1)
  | [], l => some l
  | (i, x) :: r, l => match fs[i]? with
    | some (off, k, _) => match (opnd s x).cells with
      | some c => match Nat.beq c.length k with
        | true => match patch off c l with
          | some l' => partsOf fs s r l'
          | none => none
        | false => none
      | none => none
    | none => none

def elemsOf (s : St) (t : ST) : Nat → List (Nat × Operand) → Option (List t.El × List A1)
  | _, [] => some ([], [])
  | i, (j, x) :: r => match Nat.beq i j with
    | true => match (opnd s x).cells with
      | some c => match elemOf s.ents t c with
        | some e => match elemsOf s t (i + 1) r with
          | some p => some (e :: p.1, c ++ p.2)
          | none => none
        | none => none
      | none => none
    | false => none

def ok (a : AV) (s : St) : Susp (AV × St) := .ret (a, s)

def intOp (s : St) (k : IntKind) (a b : Int) : BinOp → Susp (AV × St)
  | .add => ok (.one (.d (.int k (k.wrap (a + b))))) s
  | .sub => ok (.one (.d (.int k (k.wrap (a - b))))) s
  | .mul => ok (.one (.d (.int k (k.wrap (a * b))))) s
  | .quo => .ask (guardO (b != 0)) fun _ => (.one (.d (.int k (k.wrap (a.tdiv b)))), s)
  | .rem => .ask (guardO (b != 0)) fun _ => (.one (.d (.int k (a.tmod b))), s)
  | .eql => ok (.one (.d (.bool (a == b)))) s
  | .neq => ok (.one (.d (.bool (a != b)))) s
  | .lss => ok (.one (.d (.bool (decide (a < b))))) s
  | .leq => ok (.one (.d (.bool (decide (a ≤ b))))) s
  | .gtr => ok (.one (.d (.bool (decide (a > b))))) s
  | .geq => ok (.one (.d (.bool (decide (a ≥ b))))) s
  | _ => .fail

def binOp (s : St) (isB : Bool) (op : BinOp) : AV → AV → Susp (AV × St)
  | .v false [.d (.int k a)], .v false [.d (.int k' b)] => match kindEqb k k' with
    | true => intOp s k a b op
    | false => .fail
  | .v false [.d (.bool a)], .v false [.d (.bool b)] => match isB with
    | true => match op with
      | .eql => ok (.one (.d (.bool (a == b)))) s
      | .neq => ok (.one (.d (.bool (!(a == b))))) s
      | _ => .fail
    | false => .fail
  | .v false [.d (.str a)], .v false [.d (.str b)] => match op with
    | .eql => ok (.one (.d (.bool (strEq a b)))) s
    | .neq => ok (.one (.d (.bool (!strEq a b)))) s
    | .add => .ask (guardO (Nat.ble (a.size + b.size) 4611686018427387904)) fun _ => (.one (.d (.str (a ++ b))), s)
    | _ => .fail
  | _, _ => .fail

/-- The bounds of a slice expression over n elements. -/
def boundOf (d : Int) : Option AV → Option Int
  | none => some d
  | some (.v false [.d (.int .i64 l)]) => some l
  | _ => none
def bounds (n : Nat) (lo hi : Option AV) : Option (Int × Int) :=
  match boundOf 0 lo, boundOf n hi with
  | some l, some h => some (l, h)
  | _, _ => none
def inside (n : Nat) (b : Int × Int) : Bool := decide (0 ≤ b.1) && decide (b.1 ≤ b.2) && decide (b.2 ≤ (n : Int))

def isStr : Option CK → Bool
  | some .str => true
  | _ => false
def isEl (t : ST) : Option ST → Bool
  | some u => ST.eqb t u
  | none => false

def sliceOp (s : St) (i : TI) (x : A1) (lo hi : Option AV) : Susp (AV × St) :=
  match x with
  | .d (.str a) => match isStr i.scal, bounds a.size lo hi with
    | true, some b => .ask (guardO (inside a.size b)) fun _ => (.one (.d (.str (a.extract b.1.toNat b.2.toNat))), s)
    | _, _ => .fail
  | .d (.sl t xs) => match isEl t i.elem, bounds xs.length lo hi with
    | true, some b => .ask (guardO (inside xs.length b)) fun _ => (.one (.d (.sl t (cut xs b.1.toNat b.2.toNat))), s)
    | _, _ => .fail
  | .own n => match look n s.ents with
    | some (.arr _ t xs) => match isEl t i.elem, bounds xs.length lo hi with
      | true, some b => .ask (guardO (inside xs.length b)) fun _ => (.one (.win n b.1.toNat (b.2.toNat - b.1.toNat)), s)
      | _, _ => .fail
    | _ => .fail
  | _ => .fail

def lenOp (s : St) (i : TI) : A1 → Susp (AV × St)
  | .d (.str a) => match isStr i.scal with
    | true => ok (.one (.d (.int .i64 a.size))) s
    | false => .fail
  | x => match i.elem with
    | none => .fail
    | some _ => match x with
      | .d (.sl _ xs) => ok (.one (.d (.int .i64 xs.length))) s
      | .mt => ok (.one (.d (.int .i64 0))) s
      | .own n => match look n s.ents with
        | some (.arr _ _ xs) => ok (.one (.d (.int .i64 xs.length))) s
        | _ => .fail
      | .win n _ k => match look n s.ents with
        | some (.arr _ _ _) => ok (.one (.d (.int .i64 k))) s
        | _ => .fail
      | _ => .fail

def indexOp (s : St) (e : ST) (x : A1) (i : Int) : Susp (AV × St) :=
  match x with
  | .d (.sl t xs) => match ST.eqb t e with
    | true => .ask (idx xs i) fun e => (.one (.sp (t.cells e) 0), s)
    | false => .fail
  | .own n => match look n s.ents with
    | some (.arr _ t xs) => match ST.eqb t e with
      | true => .ask (idx xs i) fun _ => (.one (.oe n i.toNat 0), s)
      | false => .fail
    | _ => .fail
  | .win n lo k => match look n s.ents with
    | some (.arr _ t xs) => match ST.eqb t e with
      | true => .ask (idx (cut xs lo (lo + k)) i) fun _ => (.one (.oe n (lo + i.toNat) 0), s)
      | false => .fail
    | _ => .fail
  | _ => .fail

def loadOp (s : St) (agg : Bool) (k : Nat) : A1 → Susp (AV × St)
  | .lp n off => match look n s.ents with
    | some (.box l) => match window off k l with
      | some c => ok (.v agg c) s
      | none => .fail
    | _ => .fail
  | .sp cs off => match window off k (dataL cs) with
    | some c => ok (.v agg c) s
    | none => .fail
  | .oe n i off => match look n s.ents with
    | some (.arr _ t xs) => match Nat.ble (off + k) t.size with
      | true => .ask (xs[i]?) fun e => (.v agg (splitAt' k (splitAt' off (dataL (t.cells e))).2).1, s)
      | false => .fail
    | _ => .fail
  | _ => .fail

def storeOp (s : St) (a : A1) (c : List A1) : Susp (AV × St) :=
  match a with
  | .lp n off => match look n s.ents with
    | some (.box l) => match patch off c l with
      | some l' => ok .bot ⟨s.env, put n (.box l') s.ents⟩
      | none => .fail
    | _ => .fail
  | .oe n i 0 => match look n (freezeL c s.ents) with
    | some (.arr false t xs) => match elemOf s.ents t c with
      | some e => ok .bot ⟨s.env, put n (.arr false t (xs.set i e)) (freezeL c s.ents)⟩
      | none => .fail
    | _ => .fail
  | _ => .fail

def maxNew : Nat := 68719476736

def asList (es : List (Nat × Ent)) (t : ST) (a : A1) : Option (List t.El) := a.as es (.sl t)

def appendOp (s : St) (d : Nat) (t : ST) (x y : A1) : Susp (AV × St) :=
  match asList s.ents t y with
  | some ys => match x with
    | .mt => .ask (guardO (Nat.ble ys.length maxNew)) fun _ => (.one (.own (nm d)), s.push (nm d) (.arr false t ys))
    | .own n => match look n s.ents with
      | some (.arr false u xs) => match ST.cast u t xs with
        | some xs => .ask (guardO (Nat.ble (xs.length + ys.length) maxNew)) fun _ => (.one (.own (nm d)), (s.free n).push (nm d) (.arr false t (xs ++ ys)))
        | none => .fail
      | _ => .fail
    | _ => .fail
  | none => .fail

/-- Does the contract hand back slices that may lie in an argument's memory? -/
def ST.deep : ST → Bool
  | .int | .byte | .str => false
  | _ => true
def RK.shares : RK → Bool
  | .data (.sl _) => true
  | .fresh t => t.deep
  | _ => false
def sharesL : List (Bool × List RK) → Bool
  | [] => false
  | (_, l) :: r => l.any RK.shares || sharesL r

def callOp (s : St) (d : Nat) (c : Con) (args : List AV) : Susp (AV × St) :=
  match flatArgs c.sig.args args with
  | some l => match asTys s.ents c.sig.ins l with
    | some x => .ask (c.run x) fun y =>
      let p := resParts (nm d) c.sig.res y
      (mkRes c.sig.tup p.1, St.pushL p.2 ⟨s.env, match sharesL c.sig.res with | true => freezeL l s.ents | false => s.ents⟩)
    | none => .fail
  | none => .fail

def opsL (s : St) : List Operand → List AV
  | [] => []
  | x :: r => opnd s x :: opsL s r

def zeroElem (t : ST) : Option t.El := elemOf [] t (t.kinds.map fun
  | .int k => .d (.int k 0)
  | .bool => .d (.bool false)
  | .str => .d (.str ByteArray.empty)
  | .sl _ => .mt)

def isBoolT (t : TypeId) (lay : List (TypeId × TI)) : Bool :=
  match findTI t lay with
  | some { scal := some .bool, .. } => true
  | _ => false

def isIntT (t : TypeId) (lay : List (TypeId × TI)) : Bool :=
  match findTI t lay with
  | some { scal := some (.int _), .. } => true
  | _ => false

def evalOp (lay : List (TypeId × TI)) (cons : List (FuncId × Con)) (o : Oper) (s : St) : Susp (AV × St) :=
  let d := o.dst.getD 0
  match o.op with
  | .move x | .assign x => ok (opnd s x) s
  | .pick c a b => match opnd s c, opnd s a, opnd s b with
    | .v false [.d (.bool t)], .v false [.d (.bool x)], .v false [.d (.bool y)] => ok (.one (.d (.bool (bif t then x else y)))) s
    | .v false [.d (.bool t)], x, y => match t with
      | true => ok x s
      | false => ok y s
    | _, _, _ => .fail
  | .alloc t => match findTI t lay with
    | some i => ok (.one (.lp (nm d) 0)) (s.push (nm d) (.box i.zero))
    | none => .fail
  | .box t x => match findTI t lay, (opnd s x).cells with
    | some i, some l => match Nat.beq l.length i.zero.length with
      | true => ok (.one (.lp (nm d) 0)) (s.push (nm d) (.box (killL (nm d) l)))
      | false => .fail
    | _, _ => .fail
  | .build t ps => match findTI t lay with
    | some i => match i.strct, partsOf i.fields s ps.toList i.zero with
      | true, some l => ok (.v true l) s
      | _, _ => .fail
    | none => .fail
  | .buildSlice t len ps => match findTI t lay with
    | some { elem := some e, .. } => match len with
      | 0 => ok (.one .mt) s
      | _ => match elemsOf s e 0 ps.toList with
        | some (es, cs) => match Nat.beq es.length len with
          | true => ok (.one (.own (nm d))) (St.push (nm d) (.arr false e es) ⟨s.env, freezeL cs s.ents⟩)
          | false => .fail
        | none => .fail
    | _ => .fail
  | .load t x => match findTI t lay, addrOf (opnd s x) with
    | some i, some a => loadOp s i.agg i.zero.length a
    | _, _ => .fail
  | .store t x y => match findTI t lay, addrOf (opnd s x), (opnd s y).cells with
    | some i, some a, some c => match Nat.beq c.length i.zero.length with
      | true => storeOp s a c
      | false => .fail
    | _, _, _ => .fail
  | .binOp op t x y _ => binOp s (isBoolT t lay) op (opnd s x) (opnd s y)
  | .unOp op _ x => match op, opnd s x with
    | .not, .v false [.d (.bool b)] => ok (.one (.d (.bool (!b)))) s
    | .neg, .v false [.d (.int k n)] => ok (.one (.d (.int k (k.wrap (0 - n))))) s
    | _, _ => .fail
  | .convert u t x => match findTI t lay, opnd s x, isIntT u lay with
    | some { scal := some (.int k), .. }, .v false [.d (.int _ n)], true => ok (.one (.d (.int k (k.wrap n)))) s
    | _, _, _ => .fail
  | .makeSlice t l c => match findTI t lay, opnd s l, opnd s c with
    | some { elem := some e, .. }, .v false [.d (.int .i64 n)], .v false [.d (.int .i64 m)] => match zeroElem e with
      | some z => .ask (guardO (decide (0 ≤ n) && decide (n ≤ m) && decide (m ≤ (maxNew : Int)))) fun _ =>
        (.one (.own (nm d)), s.push (nm d) (.arr false e (List.replicate n.toNat z)))
      | none => .fail
    | _, _, _ => .fail
  | .slice t x lo hi none => match findTI t lay, addrOf (opnd s x) with
    | some i, some a => sliceOp s i a (lo.map (opnd s)) (hi.map (opnd s))
    | _, _ => .fail
  | .fieldAddr t x f => match findTI t lay, addrOf (opnd s x) with
    | some i, some a => match i.strct, i.fields[f]?, a with
      | true, some (off, _, _), .lp n o => match look n s.ents with
        | some _ => ok (.one (.lp n (o + off))) s
        | none => .fail
      | true, some (off, _, _), .sp cs o => ok (.one (.sp cs (o + off))) s
      | true, some (off, _, _), .oe n j o => match look n s.ents with
        | some (.arr _ _ _) => ok (.one (.oe n j (o + off))) s
        | _ => .fail
      | _, _, _ => .fail
    | _, _ => .fail
  | .field t x f => match findTI t lay, opnd s x with
    | some i, .v true l => match i.strct, i.fields[f]? with
      | true, some (off, k, agg) => match window off k l, agg || Nat.beq k 1 with
        | some c, true => ok (.v agg c) s
        | _, _ => .fail
      | _, _ => .fail
    | _, _ => .fail
  | .indexAddr t x j => match findTI t lay, addrOf (opnd s x), opnd s j with
    | some { elem := some e, .. }, some a, .v false [.d (.int .i64 i)] => indexOp s e a i
    | _, _, _ => .fail
  | .index t x j => match findTI t lay, addrOf (opnd s x), opnd s j with
    | some { scal := some .str, .. }, some (.d (.str a)), .v false [.d (.int .i64 i)] => .ask (strAt a i) fun b => (.one (.d (.int .u8 b)), s)
    | _, _, _ => .fail
  | .extract x i => match opnd s x with
    | .tup ps => match ps[i]? with
      | some (b, l) => ok (.v b l) s
      | none => .fail
    | _ => .fail
  | .call { callee := .builtin .len, args, argTypes } => match args.toList, argTypes.toList with
    | [x], [t] => match findTI t lay, addrOf (opnd s x) with
      | some i, some a => lenOp s i a
      | _, _ => .fail
    | _, _ => .fail
  | .call { callee := .builtin .append, args, argTypes } => match args.toList, argTypes.toList with
    | [x, y], [t, u] => match Nat.beq t u, findTI t lay, addrOf (opnd s x), addrOf (opnd s y) with
      | true, some { elem := some e, .. }, some a, some b => appendOp s d e a b
      | _, _, _, _ => .fail
    | _, _ => .fail
  | .call { callee := .value (.func f), args, .. } => match findCon f cons with
    | some c => callOp s d c (opsL s args.toList)
    | none => .fail
  | _ => .fail

inductive Ex where
  | normal
  | exit (id : Nat)
  | ret

/-- A loop's model: what it does from a state on. -/
structure LM where
  ρ : Type
  run : St → Option ρ
  out : ρ → Ex × St

def findLM (f : Nat) : List (Nat × LM) → Option LM
  | [] => none
  | (g, c) :: r => match Nat.beq f g with | true => some c | false => findLM f r

structure Env where
  lay : List (TypeId × TI)
  cons : List (FuncId × Con)
  loops : List (Nat × LM)
  plans : List (Nat × List (Nat × List Nat))

def opWf (o : Oper) : Bool :=
  match o.op with
  | .store .. => o.dst.isNone
  | .buildSlice _ 0 ps => ps.toList.isEmpty
  | .buildSlice _ len _ => Nat.ble len 1000
  | _ => true

section
variable {β : Type}
def stepO (E : Env) (o : Oper) (s : St) (k : St → Option β) : Option β :=
  match opWf o with
  | true => (evalOp E.lay E.cons o s).bindK fun r => match o.dst with
    | some t => k (r.2.set t r.1)
    | none => k r.2
  | false => none

/-- Goes on with the value of a test, known from now on. -/
def withBool (s : St) (t : Nat) (k : Bool → St → Option β) : Option β :=
  match s.get t with
  | .v false [.d (.bool c)] => cond c (k true (s.set t (.one (.d (.bool true))))) (k false (s.set t (.one (.d (.bool false)))))
  | _ => none

/-- An operation that is passed over. -/
def skipO (o : Oper) (s : St) (k : St → Option β) : Option β :=
  match o.dst with
  | some u => k (s.set u (.tup []))
  | none => k s

def runOp (E : Env) (ops : List Oper) (o : Oper) (s : St) (k : St → Option β) : Option β :=
  match o.guard with
  | none => stepO E o s k
  | some (j, p) => match ops[j]? with
    | some { dst := some t, .. } => match s.get t with
      | .tup [] => skipO o s k
      | _ => withBool s t fun c s => match c, p with
        | true, true | false, false => stepO E o s k
        | _, _ => skipO o s k
    | _ => none

def runOps (E : Env) (ops : List Oper) : List Oper → St → (St → Option β) → Option β
  | [], s, k => k s
  | o :: r, s, k => runOp E ops o s fun s => runOps E ops r s k

/-! ### Regions that draw their order -/
def memN (n : Nat) : List Nat → Bool
  | [] => false
  | m :: r => match Nat.beq n m with
    | true => true
    | false => memN n r
def lenP : List (Bool × List RK) → Nat
  | [] => 0
  | (_, l) :: r => l.length + lenP r

def A1.nms : A1 → List Nat
  | .lp n _ | .own n | .win n _ _ | .oe n _ _ => [n]
  | _ => []
def nmsL : List A1 → List Nat
  | [] => []
  | a :: r => a.nms ++ nmsL r
def nmsP : List (Bool × List A1) → List Nat
  | [] => []
  | p :: r => nmsL p.2 ++ nmsP r
def AV.nms : AV → List Nat
  | .v _ l => nmsL l
  | .tup ps => nmsP ps

/-- Operations that leave the abstract state as it is. -/
def pureOp (o : Oper) : Bool :=
  match o.op with
  | .move _ | .assign _ | .pick _ _ _ | .build _ _ | .load _ _ | .binOp _ _ _ _ _ | .unOp _ _ _ | .convert _ _ _ | .slice _ _ _ _ none
  | .fieldAddr _ _ _ | .field _ _ _ | .indexAddr _ _ _ | .index _ _ _ | .extract _ _ | .buildSlice _ 0 _ => true
  | .call { callee := .builtin .len, .. } => true
  | _ => false

/-- Operations that the run takes as early as it can. -/
def early (o : Oper) : Bool :=
  match o.op with
  | .assign _ => false
  | _ => Bool.and (opWf o) (pureOp o)

def boxNms (s : St) : List Nat → List Nat
  | [] => []
  | n :: r => match look n s.ents with
    | some (.box l) => nmsL l ++ boxNms s r
    | _ => boxNms s r
def opNms (s : St) : List Operand → List Nat
  | [] => []
  | x :: r => (opnd s x).nms ++ (boxNms s (opnd s x).nms ++ opNms s r)
/-- The names that an operation's value hangs on, and those in its value. -/
def openNms (s : St) (o : Oper) : List Nat :=
  opNms s o.op.operands.toList ++ match o.dst with
    | some d => (s.get d).nms
    | none => []

def sepN (f : Nat → Bool) : List Nat → Bool
  | [] => true
  | n :: r => match f n with
    | true => false
    | false => sepN f r
def sepOpens (f : Nat → Bool) : List (Nat × List Nat) → Bool
  | [] => true
  | (_, l) :: r => match sepN f l with
    | true => sepOpens f r
    | false => false
def dropA (A : List Nat) : List (Nat × List Nat) → List (Nat × List Nat)
  | [] => []
  | (i, l) :: r => match memN i A with
    | true => dropA A r
    | false => (i, l) :: dropA A r

/-- May this operation change what is known of the name n? -/
def touch (cons : List (FuncId × Con)) (s : St) (o : Oper) (n : Nat) : Bool :=
  match o.op with
  | .store _ x _ => match addrOf (opnd s x) with
    | some (.lp m _) => Nat.beq n m
    | some (.oe m _ _) => Nat.beq n m
    | _ => true
  | .call { callee := .builtin .append, args, .. } => match args.toList with
    | x :: _ => match addrOf (opnd s x) with
      | some (.own m) => Bool.or (Nat.beq (n / 32) (o.dst.getD 0)) (Nat.beq n m)
      | _ => Nat.beq (n / 32) (o.dst.getD 0)
    | [] => true
  | .call { callee := .value (.func f), .. } => match findCon f cons with
    | some c => match Nat.ble (lenP c.sig.res) 32 with
      | true => Nat.beq (n / 32) (o.dst.getD 0)
      | false => true
    | none => true
  | .alloc _ | .box _ _ | .makeSlice _ _ _ | .buildSlice _ _ _ => Nat.beq (n / 32) (o.dst.getD 0)
  | _ => true

/-- A region in the order of a plan. -/
def runD {β : Type} (E : Env) (ops : List Oper) : List (Nat × List Nat) → List (Nat × List Nat) → St → (St → Option β) → Option β
  | [], _, s, k => k s
  | (i, A) :: σ, op, s, k => match ops[i]? with
    | none => none
    | some o => match early o with
      | true => runOp E ops o s fun s' => runD E ops σ ((i, openNms s' o) :: op) s' k
      | false => match sepOpens (touch E.cons s o) (dropA A op) with
        | true => runOp E ops o s fun s' => runD E ops σ (dropA A op) s' k
        | false => none

def findPlan (i : Nat) : List (Nat × List (Nat × List Nat)) → Option (List (Nat × List Nat))
  | [] => none
  | (j, p) :: r => match Nat.beq i j with | true => some p | false => findPlan i r

/-- The number of the first region in a text: a loop's key. -/
def keyOf : Code → Nat
  | .region id _ _ => id
  | .seq a b => match keyOf a with
    | 0 => keyOf b
    | n + 1 => n + 1
  | .cond _ a _ => keyOf a
  | .block _ a => keyOf a
  | .loop a => keyOf a
  | _ => 0

def evalC (E : Env) : Code → St → (Ex → St → Option β) → Option β
  | .skip, s, k => k .normal s
  | .region _ ops false, s, k => runOps E ops.toList ops.toList s fun s => k .normal s
  | .region id ops true, s, k => match findPlan id E.plans with
    | some p => runD E ops.toList p [] s fun s => k .normal s
    | none => none
  | .seq a b, s, k => evalC E a s fun e s => match e with
    | .normal => evalC E b s k
    | .exit i => k (.exit i) s
    | .ret => k .ret s
  | .cond (.tmp t) a b, s, k => withBool s t fun c s => match c with
    | true => evalC E a s k
    | false => evalC E b s k
  | .block id a, s, k => evalC E a s fun e s => match e with
    | .exit i => match Nat.beq i id with
      | true => k .normal s
      | false => k (.exit i) s
    | .normal => k .normal s
    | .ret => k .ret s
  | .loop a, s, k => match findLM (keyOf a) E.loops with
    | some m => (m.run s).bind fun r => k (m.out r).1 (m.out r).2
    | none => none
  | .exit i, s, k => k (.exit i) s
  | .ret, s, k => k .ret s
  | _, _, _ => none
end


/-! ### Functions -/
def initSt (ps : List (Bool × List A1)) (n : Nat) : St := ⟨ps.map (fun p => AV.v p.1 p.2) ++ List.replicate (n - ps.length) AV.bot, []⟩

def resVal (lay : List (TypeId × TI)) (s : St) : ResultVar → Option (Bool × List A1)
  | .tmp t => match s.get t with
    | .v b l => some (b, l)
    | _ => none
  | .cell t T => match findTI T lay, s.get t with
    | some i, .v false [.lp n off] => match look n s.ents with
      | some (.box l) => match window off i.zero.length l with
        | some c => some (i.agg, c)
        | none => none
      | _ => none
    | _, _ => none
def resVals (lay : List (TypeId × TI)) (s : St) : List ResultVar → Option (List (Bool × List A1))
  | [] => some []
  | r :: rs => match resVal lay s r with
    | some p => match resVals lay s rs with
      | some l => some (p :: l)
      | none => none
    | none => none

/-- An array that is the result's alone. -/
def freshOf (es : List (Nat × Ent)) (t : ST) : A1 → Option (List t.El)
  | .mt => some []
  | .own n => match look n es with
    | some (.arr false u xs) => ST.cast u t xs
    | _ => none
  | _ => none

def asRes (es : List (Nat × Ent)) : (ks : List RK) → List A1 → Option (Tys (ckL ks))
  | [], [] => some ()
  | .data c :: ks, a :: l => match a.as es c with
    | some x => match asRes es ks l with
      | some y => some (x, y)
      | none => none
    | none => none
  | .fresh t :: ks, a :: l => match freshOf es t a with
    | some x => match asRes es ks l with
      | some y => some (x, y)
      | none => none
    | none => none
  | _, _ => none

def Tys.app : (cs ds : List CK) → Tys cs → Tys ds → Tys (cs ++ ds)
  | [], _, _, y => y
  | _ :: cs, ds, x, y => (x.1, Tys.app cs ds x.2 y)

def asResL (es : List (Nat × Ent)) : (rs : List (Bool × List RK)) → List (Bool × List A1) → Option (Tys (outsOf rs))
  | [], [] => some ()
  | (b, ks) :: rs, (b', l) :: ps => match b, b' with
    | true, true | false, false => match asRes es ks l with
      | some x => match asResL es rs ps with
        | some y => some (Tys.app (ckL ks) (outsOf rs) x y)
        | none => none
      | none => none
    | _, _ => none
  | _, _ => none

/-- The names of the arrays handed over, and of those that are read. -/
def A1.nameOf : A1 → List Nat
  | .own n => [n]
  | .win n _ _ => [n]
  | _ => []
def freshNames : List RK → List A1 → List Nat
  | .fresh _ :: ks, a :: l => a.nameOf ++ freshNames ks l
  | .data _ :: ks, _ :: l => freshNames ks l
  | _, _ => []
def dataNames : List RK → List A1 → List Nat
  | .fresh _ :: ks, _ :: l => dataNames ks l
  | .data _ :: ks, a :: l => a.nameOf ++ dataNames ks l
  | _, _ => []
def nodupN : List Nat → Bool
  | [] => true
  | m :: r => match memN m r with
    | true => false
    | false => nodupN r
def apartN : List Nat → List Nat → Bool
  | [], _ => true
  | m :: r, l => match memN m l with
    | true => false
    | false => apartN r l
def flatK : List (Bool × List RK) → List RK
  | [] => []
  | (_, l) :: r => l ++ flatK r
def flatA : List (Bool × List A1) → List A1
  | [] => []
  | (_, l) :: r => l ++ flatA r

def argParts : (ps : List (Bool × List CK)) → Tys (insOf ps) → List (Bool × List A1)
  | [], _ => []
  | (b, ks) :: ps, x => (b, dataL (Tys.cells ks (Tys.fst ks (insOf ps) x))) :: argParts ps (Tys.snd ks (insOf ps) x)

def isTup : List ResultVar → Bool
  | [_] => false
  | _ => true

def leaf (lay : List (TypeId × TI)) (rs : List ResultVar) (sg : Sig) : Ex → St → Option (Tys sg.outs)
  | .exit _, _ => none
  | _, s => match resVals lay s rs with
    | some ps => match Bool.and (nodupN (freshNames (flatK sg.res) (flatA ps))) (apartN (freshNames (flatK sg.res) (flatA ps)) (dataNames (flatK sg.res) (flatA ps))) with
      | true => asResL s.ents sg.res ps
      | false => none
    | none => none

/-- A function, as a Lean function on data. -/
def runF (E : Env) (fn : Func) (sg : Sig) (x : Tys sg.ins) : Option (Tys sg.outs) :=
  match fn.body with
  | some c => evalC E c (initSt (argParts sg.args x) fn.ntmps) (leaf E.lay fn.results.toList sg)
  | none => none
end Go.Di
