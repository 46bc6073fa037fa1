/-
  Own work. Templates of states, as they stand at a loop's head.
-/
import Derived.Test.YtalnijffcoppkaaDiWeak
open Go.RowKit (Below)
namespace Go.Di

inductive C1T where
  | bot
  | d (c : CK)
  | own (n : Nat)
  | lp (n off : Nat)
inductive ET where
  | box (l : List C1T)
  | arr (fr : Bool) (t : ST)
structure Tm where
  slots : List (Option (Bool × List C1T))
  ents : List (Nat × ET)

def ksL : List C1T → List CK
  | [] => []
  | .d c :: r => c :: ksL r
  | _ :: r => ksL r
def ksS : List (Option (Bool × List C1T)) → List CK
  | [] => []
  | none :: r => ksS r
  | some (_, l) :: r => ksL l ++ ksS r
def ksE : List (Nat × ET) → List CK
  | [] => []
  | (_, .box l) :: r => ksL l ++ ksE r
  | (_, .arr _ t) :: r => .sl t :: ksE r
def Tm.ks (T : Tm) : List CK := ksS T.slots ++ ksE T.ents

def encL : (l : List C1T) → Tys (ksL l) → List A1
  | [], _ => []
  | .d c :: r, x => .d (c.cell x.1) :: encL r x.2
  | .bot :: r, x => .bot :: encL r x
  | .own n :: r, x => .own n :: encL r x
  | .lp n o :: r, x => .lp n o :: encL r x
def encS : (l : List (Option (Bool × List C1T))) → Tys (ksS l) → List AV
  | [], _ => []
  | none :: r, x => .bot :: encS r x
  | some (b, l) :: r, x => .v b (encL l (Tys.fst (ksL l) (ksS r) x)) :: encS r (Tys.snd (ksL l) (ksS r) x)
def encE : (l : List (Nat × ET)) → Tys (ksE l) → List (Nat × Ent)
  | [], _ => []
  | (n, .box l) :: r, x => (n, .box (encL l (Tys.fst (ksL l) (ksE r) x))) :: encE r (Tys.snd (ksL l) (ksE r) x)
  | (n, .arr fr t) :: r, x => (n, .arr fr t x.1) :: encE r x.2
def Tm.enc (T : Tm) (x : Tys T.ks) : St := ⟨encS T.slots (Tys.fst (ksS T.slots) (ksE T.ents) x), encE T.ents (Tys.snd (ksS T.slots) (ksE T.ents) x)⟩

/-! ### Reading a state by a template -/
def srcOf : List (Nat × Nat) → Nat → Nat
  | [], n => n
  | (k, m) :: r, n => match Nat.beq k n with
    | true => m
    | false => srcOf r n
def pairsL : List C1T → List A1 → List (Nat × Nat)
  | .own n :: r, .own m :: l => (n, m) :: pairsL r l
  | _ :: r, _ :: l => pairsL r l
  | _, _ => []
def pairsS : List (Option (Bool × List C1T)) → List AV → List (Nat × Nat)
  | some (_, l) :: r, .v _ m :: e => pairsL l m ++ pairsS r e
  | _ :: r, _ :: e => pairsS r e
  | _, _ => []
def pairsE (es : List (Nat × Ent)) : List (Nat × ET) → List (Nat × Nat)
  | [] => []
  | (n, .box l) :: r => match look n es with
    | some (.box m) => pairsL l m ++ pairsE es r
    | _ => pairsE es r
  | _ :: r => pairsE es r
/-- Where that comes from which may yet be written. -/
def mutsOf (src : List (Nat × Nat)) : List (Nat × ET) → List Nat
  | [] => []
  | (n, .box _) :: r => srcOf src n :: mutsOf src r
  | (n, .arr false _) :: r => srcOf src n :: mutsOf src r
  | (_, .arr true _) :: r => mutsOf src r
def okA (muts : List Nat) : A1 → Bool
  | .own m => match memN m muts with | true => false | false => true
  | .win m _ _ => match memN m muts with | true => false | false => true
  | _ => true

def readL (es : List (Nat × Ent)) (src : List (Nat × Nat)) (muts : List Nat) : (l : List C1T) → List A1 → Option (Tys (ksL l))
  | [], [] => some ()
  | .bot :: r, _ :: l => readL es src muts r l
  | .d c :: r, a :: l => match okA muts a, a.as es c with
    | true, some x => match readL es src muts r l with
      | some y => some (x, y)
      | none => none
    | _, _ => none
  | .own n :: r, .own m :: l => match Nat.beq (srcOf src n) m, look m es with
    | true, some _ => readL es src muts r l
    | _, _ => none
  | .lp n off :: r, .lp m o :: l => match Nat.beq n m, Nat.beq off o, Nat.beq (srcOf src n) n, look n es with
    | true, true, true, some _ => readL es src muts r l
    | _, _, _, _ => none
  | _, _ => none
def readS (es : List (Nat × Ent)) (src : List (Nat × Nat)) (muts : List Nat) : (l : List (Option (Bool × List C1T))) → List AV → Option (Tys (ksS l))
  | [], [] => some ()
  | none :: r, _ :: e => readS es src muts r e
  | some (b, l) :: r, .v b' m :: e => match b, b' with
    | true, true | false, false => match readL es src muts l m with
      | some x => match readS es src muts r e with
        | some y => some (Tys.app (ksL l) (ksS r) x y)
        | none => none
      | none => none
    | _, _ => none
  | _, _ => none
def readE (es : List (Nat × Ent)) (src : List (Nat × Nat)) (muts : List Nat) : (l : List (Nat × ET)) → Option (Tys (ksE l))
  | [] => some ()
  | (n, .box l) :: r => match Nat.beq (srcOf src n) n, look n es with
    | true, some (.box m) => match readL es src muts l m with
      | some x => match readE es src muts r with
        | some y => some (Tys.app (ksL l) (ksE r) x y)
        | none => none
      | none => none
    | _, _ => none
  | (n, .arr fr t) :: r => match look (srcOf src n) es with
    | some (.arr fr' u xs) => match fr, fr' with
      | true, true | false, false => match ST.cast u t xs with
        | some x => match readE es src muts r with
          | some y => some (x, y)
          | none => none
        | none => none
      | _, _ => none
    | _ => none
def Tm.read (T : Tm) (s : St) : Option (Tys T.ks) :=
  let src := pairsS T.slots s.env ++ pairsE s.ents T.ents
  let muts := mutsOf src T.ents
  match nodupN muts with
  | true => match readS s.ents src muts T.slots s.env with
    | some x => match readE s.ents src muts T.ents with
      | some y => some (Tys.app (ksS T.slots) (ksE T.ents) x y)
      | none => none
    | none => none
  | false => none

theorem app_fst : ∀ (cs ds : List CK) (x : Tys cs) (y : Tys ds), Tys.fst cs ds (Tys.app cs ds x y) = x
  | [], _, _, _ => rfl
  | _ :: cs, ds, x, y => congrArg (Prod.mk x.1) (app_fst cs ds x.2 y)
theorem app_snd : ∀ (cs ds : List CK) (x : Tys cs) (y : Tys ds), Tys.snd cs ds (Tys.app cs ds x y) = y
  | [], _, _, _ => rfl
  | _ :: cs, ds, x, y => app_snd cs ds x.2 y

section
variable {s s' : St} {src : List (Nat × Nat)} {muts : List Nat}

theorem readL_ok (hm : ∀ n e, look n s'.ents = some e → e.mut = true → srcOf src n ∈ muts) : ∀ {l : List C1T} {m : List A1} {x : Tys (ksL l)}, readL s.ents src muts l m = some x → WL s s' (srcOf src) m (encL l x)
  | [], [], x, _ => trivial
  | .bot :: r, a :: l, x, h => ⟨.bot a, readL_ok hm (l := r) h⟩
  | .d c :: r, a :: l, x, h => by
    have h' : (match okA muts a, a.as s.ents c with
      | true, some x => match readL s.ents src muts r l with
        | some y => some ((x, y) : Tys (ksL (.d c :: r)))
        | none => none
      | _, _ => none) = some x := h
    split at h'
    · rename_i z ho hz
      split at h'
      · rename_i y hy
        cases h'
        refine ⟨.data a c z hz fun m hma n e hl hmu heq => ?_, readL_ok hm (l := r) hy⟩
        have := hm n e hl hmu
        rw [heq] at this
        have hmem := memN_iff.2 this
        cases a with
        | own k => simp only [A1.isArr] at hma; subst hma; simp only [okA, hmem] at ho; cases ho
        | win k _ _ => simp only [A1.isArr] at hma; subst hma; simp only [okA, hmem] at ho; cases ho
        | _ => exact hma.elim
      · cases h'
    · cases h'
  | .own n :: r, .own m :: l, x, h => by
    have h' : (match Nat.beq (srcOf src n) m, look m s.ents with
      | true, some _ => readL s.ents src muts r l
      | _, _ => none) = some x := h
    cases hb : Nat.beq (srcOf src n) m with
    | false => rw [hb] at h'; cases h'
    | true =>
      rw [hb] at h'
      cases hl : look m s.ents with
      | none => rw [hl] at h'; cases h'
      | some e =>
        rw [hl] at h'
        have hb := Nat.eq_of_beq_eq_true hb
        subst hb
        exact ⟨.own n (by rw [hl]; rfl), readL_ok hm (l := r) h'⟩
  | .lp n off :: r, .lp m o :: l, x, h => by
    have h' : (match Nat.beq n m, Nat.beq off o, Nat.beq (srcOf src n) n, look n s.ents with
      | true, true, true, some _ => readL s.ents src muts r l
      | _, _, _, _ => none) = some x := h
    cases h1 : Nat.beq n m with
    | false => rw [h1] at h'; cases h'
    | true =>
    cases h2 : Nat.beq off o with
    | false => rw [h1, h2] at h'; cases h'
    | true =>
    cases h3 : Nat.beq (srcOf src n) n with
    | false => rw [h1, h2, h3] at h'; cases h'
    | true =>
    cases hl : look n s.ents with
    | none => rw [h1, h2, h3, hl] at h'; cases h'
    | some e =>
    rw [h1, h2, h3, hl] at h'
    have h1 := Nat.eq_of_beq_eq_true h1
    have h2 := Nat.eq_of_beq_eq_true h2
    subst h1; subst h2
    exact ⟨.lp n off (by rw [hl]; rfl) (Nat.eq_of_beq_eq_true h3), readL_ok hm (l := r) h'⟩
  | [], _ :: _, _, h => by cases h
  | .bot :: _, [], _, h => by cases h
  | .d _ :: _, [], _, h => by cases h
  | .own _ :: _, [], _, h => by cases h
  | .lp _ _ :: _, [], _, h => by cases h
  | .own _ :: _, .bot :: _, _, h | .own _ :: _, .d _ :: _, _, h | .own _ :: _, .mt :: _, _, h | .own _ :: _, .lp _ _ :: _, _, h | .own _ :: _, .win _ _ _ :: _, _, h | .own _ :: _, .sp _ _ :: _, _, h | .own _ :: _, .oe _ _ _ :: _, _, h => by cases h
  | .lp _ _ :: _, .bot :: _, _, h | .lp _ _ :: _, .d _ :: _, _, h | .lp _ _ :: _, .mt :: _, _, h | .lp _ _ :: _, .own _ :: _, _, h | .lp _ _ :: _, .win _ _ _ :: _, _, h | .lp _ _ :: _, .sp _ _ :: _, _, h | .lp _ _ :: _, .oe _ _ _ :: _, _, h => by cases h
end
end Go.Di
