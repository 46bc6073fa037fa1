/-
  Own work. When a machine value reads as a datum, and when a machine state is described by an abstract state.
-/
import Derived.Test.YtalnijffcoppkaaDiCore
import Derived.Below
open Go.RowKit (Below)
namespace Go.Di

def flat (t : ST) (xs : List t.El) : List Cell := xs.flatMap t.cells

inductive Rd (w : World) : Value → Cell → List Nat → Prop
  | int (k : IntKind) (n : Int) : Rd w (.int k n) (.int k n) []
  | bool (b : Bool) : Rd w (.bool b) (.bool b) []
  | str (s : ByteArray) : Rd w (.string s) (.str s) []
  | emp (a : Option Addr) (t : ST) (cap : Nat) : Rd w (.slice a 0 cap) (.sl t []) []
  | sl (b off len cap : Nat) (t : ST) (xs : List t.El) (vals : Nat → Value) (fp : Nat → List Nat) (hl : len = xs.length) (hc : len ≤ cap)
      (h1 : ∀ i c, (flat t xs)[i]? = some c → w.cell? ⟨b, off + i, none⟩ = some (vals i))
      (h2 : ∀ i c, (flat t xs)[i]? = some c → Rd w (vals i) c (fp i)) :
      Rd w (.slice (some ⟨b, off, none⟩) len cap) (.sl t xs) (b :: (List.range (flat t xs).length).flatMap fp)

theorem length_cells (t : ST) (x : t.El) : (t.cells x).length = t.size := by cases t <;> rfl
theorem size_pos (t : ST) : 0 < t.size := by cases t <;> decide

theorem length_flat (t : ST) (xs : List t.El) : (flat t xs).length = xs.length * t.size := by
  induction xs with
  | nil => simp [flat]
  | cons x r ih => simp only [flat, List.flatMap_cons, List.length_append, length_cells, List.length_cons, Nat.add_mul] at *; omega

theorem flat_get (t : ST) : ∀ (xs : List t.El) (i : Nat) (x : t.El) (j : Nat), xs[i]? = some x → j < t.size → (flat t xs)[i * t.size + j]? = (t.cells x)[j]?
  | y :: r, 0, x, j, h, hj => by
    simp at h; subst h
    simp only [flat, List.flatMap_cons, Nat.zero_mul, Nat.zero_add]
    exact List.getElem?_append_left (by rw [length_cells]; exact hj)
  | y :: r, i + 1, x, j, h, hj => by
    simp at h
    simp only [flat, List.flatMap_cons]
    rw [List.getElem?_append_right (by rw [length_cells, Nat.add_mul]; omega), length_cells]
    have := flat_get t r i x j h hj
    simp only [flat] at this
    rw [← this]; congr 1; rw [Nat.add_mul]; omega

/-- Reading goes by the blocks that are listed alone. -/
theorem Rd.ext {w w' : World} {v : Value} {c : Cell} {fp : List Nat} (h : Rd w v c fp) (he : ∀ b ∈ fp, w'.heap[b]? = w.heap[b]?) : Rd w' v c fp := by
  induction h with
  | int k n => exact .int k n
  | bool b => exact .bool b
  | str s => exact .str s
  | emp a t cap => exact .emp a t cap
  | sl b off len cap t xs vals fp hl hc h1 h2 ih =>
    refine .sl b off len cap t xs vals fp hl hc (fun i c hi => ?_) (fun i c hi => ih i c hi fun b' hb' => he b' ?_)
    · rw [World.cell?_of_block (w := w) (he b (List.mem_cons_self ..))]; exact h1 i c hi
    · refine List.mem_cons_of_mem _ (List.mem_flatMap.2 ⟨i, List.mem_range.2 ?_, hb'⟩)
      exact (List.getElem?_eq_some_iff.1 hi).1

theorem Rd.oneCell1 {w : World} {v : Value} {c : Cell} {fp : List Nat} (h : Rd w v c fp) : v.oneCell' = true := by cases h <;> rfl

/-- The blocks that an own value lies in. -/
def topOf : Value → List Nat
  | .pointer (some a) => [a.block]
  | .slice (some a) _ (_ + 1) => [a.block]
  | _ => []

def Ent.mut : Ent → Bool
  | .box _ => true
  | .arr fr _ _ => !fr

/-- Blocks that may yet be written. -/
def Top (lk : Nat → Option Ent) (β : Nat → Option Value) (b : Nat) : Prop := ∃ n e v, lk n = some e ∧ e.mut = true ∧ β n = some v ∧ b ∈ topOf v

/-- Where a call began: the number of blocks, the world, the old blocks that its data lie in. -/
structure Bs where
  b0 : Nat
  w0 : World
  old : Nat → Prop
structure Cx where
  w : World
  lk : Nat → Option Ent
  β : Nat → Option Value
  av : Nat → Prop

def Cx.fine (x : Cx) (fp : List Nat) : Prop := ∀ b ∈ fp, b < x.w.heap.size ∧ ¬ Top x.lk x.β b ∧ x.av b
/-- v reads as c in memory that stays as it is. -/
def Cx.rd (x : Cx) (v : Value) (c : Cell) : Prop := ∃ fp, Rd x.w v c fp ∧ x.fine fp
/-- At this address lie these cells, in memory that stays as it is. -/
def Cx.cellsAt (x : Cx) (b off : Nat) (cs : List Cell) : Prop :=
  (cs = [] ∨ x.fine [b]) ∧ ∀ i c, cs[i]? = some c → ∃ v, x.w.cell? ⟨b, off + i, none⟩ = some v ∧ x.rd v c

def A1Ok (x : Cx) : A1 → Value → Prop
  | .bot, _ => True
  | .d c, v => x.rd v c
  | .mt, v => ∃ a, v = .slice a 0 0
  | .lp n off, v => (x.lk n).isSome → ∃ b, x.β n = some (.pointer (some ⟨b, 0, none⟩)) ∧ v = .pointer (some ⟨b, off, none⟩)
  | .own n, v => (x.lk n).isSome → x.β n = some v
  | .win n lo len, v => ∀ fr t xs, x.lk n = some (.arr fr t xs) → lo + len ≤ xs.length ∧
      ∃ a m cap, x.β n = some (.slice a m cap) ∧ lo ≤ cap ∧ v = .slice (if cap = lo then a else a.map (·.add (lo * t.size))) len (cap - lo)
  | .sp cs off, v => ∃ b o, v = .pointer (some ⟨b, o + off, none⟩) ∧ x.cellsAt b o cs
  | .oe n i off, v => ∀ fr t xs, x.lk n = some (.arr fr t xs) → i < xs.length ∧
      ∃ g o m cap, x.β n = some (.slice (some ⟨g, o, none⟩) m cap) ∧ v = .pointer (some ⟨g, o + i * t.size + off, none⟩)

def L1Ok (x : Cx) : List A1 → List Value → Prop
  | [], [] => True
  | a :: l, v :: vs => A1Ok x a v ∧ v.oneCell' = true ∧ L1Ok x l vs
  | _, _ => False

/-- A value of this shape: a struct's cells, or one cell. -/
def VOk (x : Cx) (agg : Bool) (l : List A1) (v : Value) : Prop :=
  match agg with
  | true => ∃ vs, v = .agg vs ∧ L1Ok x l vs.toList
  | false => ∃ a, l = [a] ∧ A1Ok x a v ∧ (a = .bot ∨ v.oneCell' = true)

def PsOk (x : Cx) : List (Bool × List A1) → List Value → Prop
  | [], [] => True
  | p :: l, v :: vs => VOk x p.1 p.2 v ∧ PsOk x l vs
  | _, _ => False

def AVOk (x : Cx) : AV → Value → Prop
  | .v agg l, v => VOk x agg l v
  | .tup ps, v => ∃ vs, v = .tuple vs ∧ PsOk x ps vs.toList

def EntOk (x : Cx) : Ent → Value → Prop
  | .box l, v => ∃ (b : Nat) (vs : Array Value) (T : TypeId), v = .pointer (some ⟨b, 0, none⟩) ∧ x.w.heap[b]? = some (.cells vs T (0, 0)) ∧ L1Ok x l vs.toList
  | .arr true t xs, v => x.rd v (.sl t xs)
  | .arr false t xs, v => (xs = [] ∧ ∃ a, v = .slice a 0 0) ∨
      ∃ (g cap : Nat) (cur : Array Value) (T : TypeId), v = .slice (some ⟨g, 0, none⟩) xs.length cap ∧ 0 < cap ∧ xs.length ≤ cap ∧ cap ≤ maxLen ∧
        x.w.heap[g]? = some (.cells cur T (0, 0)) ∧ cur.size = cap * t.size ∧ ∀ (i : Nat) (c : Cell), (flat t xs)[i]? = some c → ∃ u, cur[i]? = some u ∧ x.rd u c

def cx (C : Bs) (s : St) (β : Nat → Option Value) (w : World) : Cx := ⟨w, fun n => look n s.ents, β, fun b => C.b0 ≤ b ∨ C.old b⟩

structure Gam (C : Bs) (s : St) (X : Nat → Prop) (β : Nat → Option Value) (tm : Array Value) (w : World) : Prop where
  len : s.env.length = tm.size
  env : ∀ t av, ¬ X t → s.env[t]? = some av → AVOk (cx C s β w) av (tm.getD t undef)
  ents : ∀ n e v, look n s.ents = some e → β n = some v → EntOk (cx C s β w) e v
  uniq : ∀ n m e f u v b, look n s.ents = some e → look m s.ents = some f → e.mut = true → f.mut = true → β n = some u → β m = some v → b ∈ topOf u → b ∈ topOf v → n = m
  fresh : ∀ b, Top (fun n => look n s.ents) β b → C.b0 ≤ b ∧ b < w.heap.size
  b0 : C.b0 ≤ w.heap.size
  below : Below C.b0 C.w0 w

/-! ### Passing from one description to another -/

/-- y says no more than x of what is read: what x lets stand, y lets stand. -/
structure Le (x y : Cx) (ok : Nat → Prop) : Prop where
  hav : ∀ b, x.av b → y.av b
  heap : ∀ b, b < x.w.heap.size → ¬ Top x.lk x.β b → y.w.heap[b]? = x.w.heap[b]?
  size : x.w.heap.size ≤ y.w.heap.size
  top : ∀ b, b < x.w.heap.size → Top y.lk y.β b → Top x.lk x.β b
  /-- what is said of the name n -/
  look : ∀ n, ok n → y.lk n = none ∨ (y.β n = x.β n ∧ (y.lk n = x.lk n ∨
    (∃ l l', x.lk n = some (.box l) ∧ y.lk n = some (.box l')) ∨
    (∃ fr fr' t xs xs', x.lk n = some (.arr fr t xs) ∧ y.lk n = some (.arr fr' t xs') ∧ xs'.length = xs.length)))

theorem Le.fine {x y : Cx} {ok} (h : Le x y ok) {fp : List Nat} (hf : x.fine fp) : y.fine fp :=
  fun b hb => ⟨Nat.lt_of_lt_of_le (hf b hb).1 h.size, fun ht => (hf b hb).2.1 (h.top b (hf b hb).1 ht), h.hav b (hf b hb).2.2⟩

theorem Le.rd {x y : Cx} {ok} (h : Le x y ok) {v : Value} {c : Cell} (hr : x.rd v c) : y.rd v c := by
  obtain ⟨fp, h1, h2⟩ := hr
  exact ⟨fp, h1.ext fun b hb => h.heap b (h2 b hb).1 (h2 b hb).2.1, h.fine h2⟩

theorem Le.cellsAt {x y : Cx} {ok} (h : Le x y ok) {b off : Nat} {cs : List Cell} (hr : x.cellsAt b off cs) : y.cellsAt b off cs := by
  refine ⟨hr.1.imp id h.fine, fun i c hc => ?_⟩
  obtain ⟨v, hv, hd⟩ := hr.2 i c hc
  refine ⟨v, ?_, h.rd hd⟩
  rcases hr.1 with h0 | h0
  · subst h0; cases hc
  · have := h0 b (List.mem_cons_self ..)
    rw [World.cell?_of_block (w := x.w) (h.heap b this.1 this.2.1)]; exact hv

/-- Does a value refer to names of this kind alone? -/
def A1.refs (ok : Nat → Prop) : A1 → Prop
  | .lp n _ | .own n | .win n _ _ | .oe n _ _ => ok n
  | _ => True

theorem Le.a1 {x y : Cx} {ok : Nat → Prop} (h : Le x y ok) {a : A1} {v : Value} (hr : a.refs ok) (ha : A1Ok x a v) : A1Ok y a v := by
  cases a with
  | bot => trivial
  | d c => exact h.rd ha
  | mt => exact ha
  | lp n off =>
    intro hs
    rcases h.look n hr with h0 | ⟨hb, h1⟩
    · simp [h0] at hs
    · rw [hb]; refine ha ?_
      rcases h1 with h1 | ⟨l, l', h1, _⟩ | ⟨_, _, _, _, _, h1, _⟩
      · rw [← h1]; exact hs
      · simp [h1]
      · simp [h1]
  | own n =>
    intro hs
    rcases h.look n hr with h0 | ⟨hb, h1⟩
    · simp [h0] at hs
    · rw [hb]; refine ha ?_
      rcases h1 with h1 | ⟨l, l', h1, _⟩ | ⟨_, _, _, _, _, h1, _⟩
      · rw [← h1]; exact hs
      · simp [h1]
      · simp [h1]
  | win n lo len =>
    intro fr t xs hs
    rcases h.look n hr with h0 | ⟨hb, h1⟩
    · simp [h0] at hs
    · rw [hb]
      rcases h1 with h1 | ⟨l, l', h1, h2⟩ | ⟨fr1, fr2, t1, xs1, xs2, h1, h2, h3⟩
      · exact ha fr t xs (by rw [← h1]; exact hs)
      · rw [h2] at hs; cases hs
      · rw [h2] at hs; cases hs
        obtain ⟨g1, g2⟩ := ha fr1 _ xs1 h1
        exact ⟨by omega, g2⟩
  | sp cs off =>
    obtain ⟨b, o, h1, h2⟩ := ha
    exact ⟨b, o, h1, h.cellsAt h2⟩
  | oe n i off =>
    intro fr t xs hs
    rcases h.look n hr with h0 | ⟨hb, h1⟩
    · simp [h0] at hs
    · rw [hb]
      rcases h1 with h1 | ⟨l, l', h1, h2⟩ | ⟨fr1, fr2, t1, xs1, xs2, h1, h2, h3⟩
      · exact ha fr t xs (by rw [← h1]; exact hs)
      · rw [h2] at hs; cases hs
      · rw [h2] at hs; cases hs
        obtain ⟨g1, g2⟩ := ha fr1 _ xs1 h1
        exact ⟨by omega, g2⟩

def L1refs (ok : Nat → Prop) (l : List A1) : Prop := ∀ a ∈ l, a.refs ok
def Psrefs (ok : Nat → Prop) (l : List (Bool × List A1)) : Prop := ∀ p ∈ l, L1refs ok p.2
def AV.refs (ok : Nat → Prop) : AV → Prop
  | .v _ l => L1refs ok l
  | .tup ps => Psrefs ok ps

theorem Le.l1 {x y : Cx} {ok : Nat → Prop} (h : Le x y ok) : ∀ {l : List A1} {vs : List Value}, L1refs ok l → L1Ok x l vs → L1Ok y l vs
  | [], [], _, _ => trivial
  | a :: l, v :: vs, hr, ⟨h1, h2, h3⟩ => ⟨h.a1 (hr a (List.mem_cons_self ..)) h1, h2, h.l1 (fun b hb => hr b (List.mem_cons_of_mem _ hb)) h3⟩
  | [], _ :: _, _, h => h.elim
  | _ :: _, [], _, h => h.elim

theorem Le.v {x y : Cx} {ok : Nat → Prop} (h : Le x y ok) {g : Bool} {l : List A1} {v : Value} (hr : L1refs ok l) (hv : VOk x g l v) : VOk y g l v := by
  cases g with
  | true => obtain ⟨vs, h1, h2⟩ := hv; exact ⟨vs, h1, h.l1 hr h2⟩
  | false => obtain ⟨a, h1, h2, h3⟩ := hv; subst h1; exact ⟨a, rfl, h.a1 (hr a (List.mem_cons_self ..)) h2, h3⟩

theorem Le.ps {x y : Cx} {ok : Nat → Prop} (h : Le x y ok) : ∀ {l : List (Bool × List A1)} {vs : List Value}, Psrefs ok l → PsOk x l vs → PsOk y l vs
  | [], [], _, _ => trivial
  | p :: l, v :: vs, hr, ⟨h1, h2⟩ => ⟨h.v (hr p (List.mem_cons_self ..)) h1, h.ps (fun b hb => hr b (List.mem_cons_of_mem _ hb)) h2⟩
  | [], _ :: _, _, h => h.elim
  | _ :: _, [], _, h => h.elim

theorem Le.av {x y : Cx} {ok : Nat → Prop} (h : Le x y ok) {a : AV} {v : Value} (hr : a.refs ok) (ha : AVOk x a v) : AVOk y a v := by
  cases a with
  | v g l => exact h.v hr ha
  | tup ps => obtain ⟨vs, h1, h2⟩ := ha; exact ⟨vs, h1, h.ps hr h2⟩

theorem refs_true (a : AV) : a.refs fun _ => True := by
  cases a with
  | v g l => intro a _; cases a <;> trivial
  | tup ps => intro p _ a _; cases a <;> trivial
theorem L1refs_true (l : List A1) : L1refs (fun _ => True) l := by intro a _; cases a <;> trivial

end Go.Di
