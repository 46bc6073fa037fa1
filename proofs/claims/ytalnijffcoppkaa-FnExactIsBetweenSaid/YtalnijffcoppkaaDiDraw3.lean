/-
  Own work. Regions that draw their order: the run in one order, and what is checked of that order.
-/
import Derived.Test.YtalnijffcoppkaaDiDraw2
open Go.RowKit (Below)
namespace Go.Di

theorem memN_iff {n : Nat} : ∀ {l : List Nat}, memN n l = true ↔ n ∈ l
  | [] => by simp [memN]
  | m :: r => by
    unfold memN
    split
    · rename_i h; simp at h; subst h; simp
    · rename_i h
      have : n ≠ m := by intro e; subst e; simp at h
      rw [memN_iff]; simp [this]

/-! ### The order -/
def bindsOn (o : Oper) (j : Nat) : Bool := o.after.any fun e => Region.binds .any e && Nat.beq e.on j

/-- Does the slot d stand apart from this operation? -/
def apartOf (ops : Array Oper) (d : Nat) (o : Oper) : Bool := !memN d (o.looksAt ops) && (match o.dst with | some u => !Nat.beq u d | none => true)

def earlyOk (ops : Array Oper) (i : Nat) (o : Oper) : Bool :=
  match o.dst with
  | none => true
  | some d => !memN d (o.looksAt ops) && (List.range ops.size).all fun j => Nat.beq j i || match ops[j]? with
    | some oj => (match oj.dst with | some u => !Nat.beq u d | none => true) && (!memN d (oj.looksAt ops) || bindsOn oj i)
    | none => true

def ancOk (ops : Array Oper) (o : Oper) : List Nat → List Nat → Bool
  | [], _ => true
  | a :: A, known => (bindsOn o a || known.any fun m => match ops[m]? with
      | some om => bindsOn om a
      | none => false) && ancOk ops o A (a :: known)

def predsIn (o : Oper) (pre : List Nat) : Bool := o.after.all fun e => !Region.binds .any e || memN e.on pre

def planOk (ops : Array Oper) : List Nat → List (Nat × List Nat) → Bool
  | _, [] => true
  | pre, (i, A) :: rest => match ops[i]? with
    | none => false
    | some o => predsIn o pre && (!memN i pre) && (match early o with
        | true => earlyOk ops i o
        | false => (rest.all fun p => match ops[p.1]? with
            | some o' => o'.after.any fun e => Region.binds .any e && (Nat.beq e.on i || rest.any fun q => Nat.beq e.on q.1)
            | none => false) && ancOk ops o A [] && pre.all fun q => memN q A || match ops[q]? with
              | some oq => !early oq || (match o.dst with | some d => apartOf ops d oq | none => true)
              | none => true) && planOk ops (i :: pre) rest

def fullPlan (ops : Array Oper) (plan : List (Nat × List Nat)) : Bool :=
  planOk ops [] plan && (Nat.ble plan.length ops.size && (List.range ops.size).all fun j => plan.any fun p => Nat.beq j p.1)

/-! ### One operation on abstract states -/
def wantedA (ops : List Oper) (o : Oper) (s : St) : Option Bool :=
  match o.guard with
  | none => some true
  | some (j, p) => match ops[j]? with
    | some { dst := some t, .. } => match s.get t with
      | .v false [.d (.bool c)] => some (c == p)
      | .tup [] => some false
      | _ => none
    | _ => none
def setD (d : Option Nat) (a : AV) (s : St) : St :=
  match d with
  | some t => s.set t a
  | none => s

def Stp (E : Env) (ops : List Oper) (o : Oper) (s s' : St) : Prop :=
  (wantedA ops o s = some true ∧ opWf o = true ∧ ∃ av s1, (evalOp E.lay E.cons o s).Yields (av, s1) ∧ s' = setD o.dst av s1) ∨
  (wantedA ops o s = some false ∧ s' = setD o.dst (.tup []) s)

theorem set_get {s : St} {t : Nat} {a : AV} (h : s.env[t]? = some a) : s.set t a = s := by
  cases s with
  | mk env ents =>
    simp only [St.set, St.mk.injEq, and_true]
    apply List.ext_getElem?
    intro j
    rw [List.getElem?_set]
    split
    · rename_i e; subst e
      split
      · exact h.symm
      · rename_i hn
        simp only at h
        rw [List.getElem?_eq_none (by omega)] at h; cases h
    · rfl

theorem get_some {s : St} {t : Nat} {a : AV} (h : s.get t = a) (hb : a ≠ AV.bot) : s.env[t]? = some a := by
  unfold St.get at h
  rw [List.getD_eq_getElem?_getD] at h
  cases h' : s.env[t]? with
  | none => rw [h'] at h; exact absurd h.symm hb
  | some b => rw [h'] at h; simpa using h

theorem runOp_stp {β : Type} {E : Env} {ops : List Oper} {o : Oper} {s : St} {k : St → Option β} {r : β} (h : runOp E ops o s k = some r) : ∃ s', Stp E ops o s s' ∧ k s' = some r := by
  have step : ∀ {s : St}, stepO E o s k = some r → wantedA ops o s = some true → ∃ s', Stp E ops o s s' ∧ k s' = some r := by
    intro s h hw
    unfold stepO at h
    split at h
    · rename_i hwf
      obtain ⟨⟨av, s1⟩, hy, hk⟩ := bindK_some h
      refine ⟨setD o.dst av s1, .inl ⟨hw, hwf, av, s1, hy, rfl⟩, ?_⟩
      cases hd : o.dst with
      | none => rw [hd] at hk; exact hk
      | some t => rw [hd] at hk; exact hk
    · cases h
  unfold runOp at h
  split at h
  · rename_i hg
    exact step h (by simp [wantedA, hg])
  · rename_i j p hg
    split at h
    · rename_i o2 t _ _ _ _ _ hj
      have skip : wantedA ops o s = some false → skipO o s k = some r → ∃ s', Stp E ops o s s' ∧ k s' = some r := by
        intro hw hk
        unfold skipO at hk
        refine ⟨setD o.dst (.tup []) s, .inr ⟨hw, rfl⟩, ?_⟩
        cases hd : o.dst with
        | none => rw [hd] at hk; exact hk
        | some t => rw [hd] at hk; exact hk
      split at h
      · rename_i hun
        exact skip (by simp only [wantedA, hg, hj, hun]) h
      · unfold withBool at h
        split at h
        · rename_i c hc
          have hs : ∀ b, c = b → s.set t (.one (.d (.bool b))) = s := fun b hb => set_get (by rw [← hb]; exact get_some hc (by intro e; cases e))
          have hw : wantedA ops o s = some (c == p) := by
            simp only [wantedA, hg, hj, hc]
          cases c <;> simp only [cond_true, cond_false] at h <;> rw [hs _ rfl] at h <;> cases p
          · exact step h hw
          · exact skip hw h
          · exact skip hw h
          · exact step h hw
        · cases h
    · cases h

/-! ### What an early operation's value hangs on -/
structure Stable (E : Env) (ops : List Oper) (o : Oper) (s : St) (N : List Nat) : Prop where
  wf : opWf o = true
  known : ∃ c, wantedA ops o s = some c
  yes : wantedA ops o s = some true → ∃ av, (evalOp E.lay E.cons o s).Yields (av, s) ∧ setD o.dst av s = s ∧ ∀ d, o.dst = some d → d < s.env.length → s.env[d]? = some av
  no : wantedA ops o s = some false → setD o.dst (.tup []) s = s
  opn : ∀ x ∈ o.op.operands, ∀ n ∈ (opnd s x).nms, n ∈ N
  box : ∀ x ∈ o.op.operands, ∀ n ∈ (opnd s x).nms, ∀ l, look n s.ents = some (.box l) → ∀ m ∈ nmsL l, m ∈ N
  res : ∀ d, o.dst = some d → ∀ n ∈ (s.get d).nms, n ∈ N

theorem mem_boxNms {s : St} {n m : Nat} {l : List A1} (hl : look n s.ents = some (.box l)) (hm : m ∈ nmsL l) : ∀ {r : List Nat}, n ∈ r → m ∈ boxNms s r
  | k :: r, h => by
    rcases List.mem_cons.1 h with rfl | h
    · simp only [boxNms, hl]; exact List.mem_append_left _ hm
    · have := mem_boxNms hl hm h
      unfold boxNms
      split
      · exact List.mem_append_right _ this
      · exact this
theorem mem_opNms {s : St} {x : Operand} {n : Nat} : ∀ {l : List Operand}, x ∈ l → (n ∈ (opnd s x).nms ∨ n ∈ boxNms s (opnd s x).nms) → n ∈ opNms s l
  | y :: r, h, hn => by
    unfold opNms
    rcases List.mem_cons.1 h with rfl | h
    · rcases hn with hn | hn
      · exact List.mem_append_left _ hn
      · exact List.mem_append_right _ (List.mem_append_left _ hn)
    · exact List.mem_append_right _ (List.mem_append_right _ (mem_opNms h hn))

theorem sepN_ok {f : Nat → Bool} : ∀ {l : List Nat}, sepN f l = true → ∀ n ∈ l, f n = false
  | m :: r, h, n, hn => by
    unfold sepN at h
    split at h
    · cases h
    · rename_i hm
      rcases List.mem_cons.1 hn with rfl | hn
      · exact hm
      · exact sepN_ok h n hn
theorem sepOpens_ok {f : Nat → Bool} : ∀ {l : List (Nat × List Nat)}, sepOpens f l = true → ∀ p ∈ l, ∀ n ∈ p.2, f n = false
  | (i, l) :: r, h, p, hp => by
    unfold sepOpens at h
    split at h
    · rename_i hm
      rcases List.mem_cons.1 hp with rfl | hp
      · exact sepN_ok hm
      · exact sepOpens_ok h p hp
    · cases h
theorem mem_dropA {A : List Nat} {i : Nat} {N : List Nat} (hi : i ∉ A) : ∀ {l : List (Nat × List Nat)}, (i, N) ∈ l → (i, N) ∈ dropA A l
  | (j, M) :: r, h => by
    unfold dropA
    rcases List.mem_cons.1 h with e | h
    · cases e
      split
      · rename_i hm; exact absurd (memN_iff.1 hm) hi
      · exact List.mem_cons_self ..
    · split
      · exact mem_dropA hi h
      · exact List.mem_cons_of_mem _ (mem_dropA hi h)
end Go.Di
