/-
  Own work. Operations that leave the abstract state as it is: what their value hangs on.
-/
import Derived.Test.YtalnijffcoppkaaDiRun
open Go.RowKit (Below)
namespace Go.Di

/-- The same entry, up to whether it may be written. -/
def LkSame (n : Nat) (s s' : St) : Prop := (look n s'.ents).map frz = (look n s.ents).map frz

theorem LkSame.arr {n : Nat} {s s' : St} (h : LkSame n s s') {fr : Bool} {t : ST} {xs : List t.El} (hl : look n s.ents = some (.arr fr t xs)) : ∃ fr', look n s'.ents = some (.arr fr' t xs) := by
  unfold LkSame at h
  rw [hl] at h
  cases h' : look n s'.ents with
  | none => rw [h'] at h; cases h
  | some e =>
    rw [h'] at h
    cases e with
    | box l => simp [frz] at h
    | arr fr' u ys =>
      simp only [frz, Option.map_some, Option.some.injEq] at h
      cases h; exact ⟨_, rfl⟩
theorem LkSame.box {n : Nat} {s s' : St} (h : LkSame n s s') {l : List A1} (hl : look n s.ents = some (.box l)) : look n s'.ents = some (.box l) := by
  unfold LkSame at h
  rw [hl] at h
  cases h' : look n s'.ents with
  | none => rw [h'] at h; cases h
  | some e =>
    rw [h'] at h
    cases e with
    | box l' => simp only [frz, Option.map_some, Option.some.injEq] at h; rw [h]
    | arr fr' u ys => simp [frz] at h
theorem LkSame.some {n : Nat} {s s' : St} (h : LkSame n s s') {e : Ent} (hl : look n s.ents = some e) : ∃ e', look n s'.ents = some e' := by
  unfold LkSame at h
  rw [hl] at h
  cases h' : look n s'.ents with
  | none => rw [h'] at h; cases h
  | some e => exact ⟨e, rfl⟩

section
variable {s s' s1 : St} {av : AV} {lay : List (TypeId × TI)} {cons : List (FuncId × Con)} {o : Oper}

theorem len_local {i : TI} {a : A1} (h : ∀ n ∈ a.nms, LkSame n s s') (hy : (lenOp s i a).Yields (av, s1)) : s1 = s ∧ (lenOp s' i a).Yields (av, s') := by
  unfold lenOp at hy ⊢
  cases a with
  | d c =>
    cases c with
    | str a =>
      simp only at hy ⊢
      split at hy
      · cases hy; exact ⟨rfl, rfl⟩
      · exact hy.elim
    | sl t xs =>
      simp only at hy ⊢
      split at hy
      · exact hy.elim
      · cases hy; exact ⟨rfl, rfl⟩
    | int k n => simp only at hy; split at hy <;> exact hy.elim
    | bool b => simp only at hy; split at hy <;> exact hy.elim
  | mt =>
    simp only at hy ⊢
    split at hy
    · exact hy.elim
    · cases hy; exact ⟨rfl, rfl⟩
  | own n =>
    have hn := h n (by simp [A1.nms])
    simp only at hy ⊢
    split at hy
    · exact hy.elim
    · split at hy
      · rename_i hl
        obtain ⟨fr', hl'⟩ := hn.arr hl
        rw [hl']
        cases hy; exact ⟨rfl, rfl⟩
      · exact hy.elim
  | win n lo k =>
    have hn := h n (by simp [A1.nms])
    simp only at hy ⊢
    split at hy
    · exact hy.elim
    · split at hy
      · rename_i hl
        obtain ⟨fr', hl'⟩ := hn.arr hl
        rw [hl']
        cases hy; exact ⟨rfl, rfl⟩
      · exact hy.elim
  | bot => simp only at hy; split at hy <;> exact hy.elim
  | lp n k => simp only at hy; split at hy <;> exact hy.elim
  | sp c k => simp only at hy; split at hy <;> exact hy.elim
  | oe n j k => simp only at hy; split at hy <;> exact hy.elim

theorem index_local {e : ST} {a : A1} {i : Int} (h : ∀ n ∈ a.nms, LkSame n s s') (hy : (indexOp s e a i).Yields (av, s1)) : s1 = s ∧ (indexOp s' e a i).Yields (av, s') := by
  unfold indexOp at hy ⊢
  cases a with
  | d c =>
    cases c with
    | sl t xs =>
      simp only at hy ⊢
      split at hy
      · obtain ⟨r, h1, h2⟩ := hy; cases h2; exact ⟨rfl, r, h1, rfl⟩
      · exact hy.elim
    | str a => exact hy.elim
    | int k n => exact hy.elim
    | bool b => exact hy.elim
  | own n =>
    have hn := h n (by simp [A1.nms])
    simp only at hy ⊢
    split at hy
    · rename_i hl
      obtain ⟨fr', hl'⟩ := hn.arr hl
      rw [hl']
      simp only
      split at hy
      · obtain ⟨r, h1, h2⟩ := hy; cases h2; exact ⟨rfl, r, h1, rfl⟩
      · exact hy.elim
    · exact hy.elim
  | win n lo k =>
    have hn := h n (by simp [A1.nms])
    simp only at hy ⊢
    split at hy
    · rename_i hl
      obtain ⟨fr', hl'⟩ := hn.arr hl
      rw [hl']
      simp only
      split at hy
      · obtain ⟨r, h1, h2⟩ := hy; cases h2; exact ⟨rfl, r, h1, rfl⟩
      · exact hy.elim
    · exact hy.elim
  | bot => exact hy.elim
  | mt => exact hy.elim
  | lp n k => exact hy.elim
  | sp c k => exact hy.elim
  | oe n j k => exact hy.elim

theorem load_local {g : Bool} {k : Nat} {a : A1} (h : ∀ n ∈ a.nms, LkSame n s s') (hy : (loadOp s g k a).Yields (av, s1)) : s1 = s ∧ (loadOp s' g k a).Yields (av, s') := by
  unfold loadOp at hy ⊢
  cases a with
  | lp n off =>
    have hn := h n (by simp [A1.nms])
    simp only at hy ⊢
    split at hy
    · rename_i hl
      rw [hn.box hl]
      simp only
      split at hy
      · cases hy; exact ⟨rfl, rfl⟩
      · exact hy.elim
    · exact hy.elim
  | sp c off =>
    simp only at hy ⊢
    split at hy
    · cases hy; exact ⟨rfl, rfl⟩
    · exact hy.elim
  | oe n j off =>
    have hn := h n (by simp [A1.nms])
    simp only at hy ⊢
    split at hy
    · rename_i hl
      obtain ⟨fr', hl'⟩ := hn.arr hl
      rw [hl']
      simp only
      split at hy
      · obtain ⟨r, h1, h2⟩ := hy; cases h2; exact ⟨rfl, r, h1, rfl⟩
      · exact hy.elim
    · exact hy.elim
  | d c => exact hy.elim
  | own n => exact hy.elim
  | win n lo k => exact hy.elim
  | bot => exact hy.elim
  | mt => exact hy.elim

theorem slice_local {i : TI} {a : A1} {lo hi : Option AV} (h : ∀ n ∈ a.nms, LkSame n s s') (hy : (sliceOp s i a lo hi).Yields (av, s1)) : s1 = s ∧ (sliceOp s' i a lo hi).Yields (av, s') := by
  unfold sliceOp at hy ⊢
  cases a with
  | d c =>
    cases c with
    | sl t xs =>
      simp only at hy ⊢
      split at hy
      · obtain ⟨r, h1, h2⟩ := hy; cases h2; exact ⟨rfl, r, h1, rfl⟩
      · exact hy.elim
    | str a =>
      simp only at hy ⊢
      split at hy
      · obtain ⟨r, h1, h2⟩ := hy; cases h2; exact ⟨rfl, r, h1, rfl⟩
      · exact hy.elim
    | int k n => exact hy.elim
    | bool b => exact hy.elim
  | own n =>
    have hn := h n (by simp [A1.nms])
    simp only at hy ⊢
    split at hy
    · rename_i hl
      obtain ⟨fr', hl'⟩ := hn.arr hl
      rw [hl']
      simp only
      split at hy
      · obtain ⟨r, h1, h2⟩ := hy; cases h2; exact ⟨rfl, r, h1, rfl⟩
      · exact hy.elim
    · exact hy.elim
  | lp n off => exact hy.elim
  | sp c off => exact hy.elim
  | oe n j off => exact hy.elim
  | win n lo k => exact hy.elim
  | bot => exact hy.elim
  | mt => exact hy.elim

theorem parts_local {fs : List (Nat × Nat × Bool)} : ∀ {ps : List (Nat × Operand)} {l : List A1}, (∀ p ∈ ps, opnd s' p.2 = opnd s p.2) → partsOf fs s' ps l = partsOf fs s ps l
  | [], l, _ => rfl
  | (i, x) :: r, l, h => by
    have hx := h _ (List.mem_cons_self ..)
    simp only at hx
    unfold partsOf
    rw [hx]
    split
    · split
      · split
        · split
          · exact parts_local fun p hp => h p (List.mem_cons_of_mem _ hp)
          · rfl
        · rfl
      · rfl
    · rfl

theorem addr_nms {a : AV} {b : A1} (h : addrOf a = some b) : b.nms ⊆ a.nms := by
  unfold addrOf at h
  split at h
  · cases h; simp [AV.nms, nmsL]
  · cases h

theorem int_local {k : IntKind} {a b : Int} {op : BinOp} (hy : (intOp s k a b op).Yields (av, s1)) : s1 = s ∧ (intOp s' k a b op).Yields (av, s') := by
  cases op <;> simp only [intOp] at hy ⊢ <;> first | (exact hy.elim) | (cases hy; exact ⟨rfl, rfl⟩) | (obtain ⟨r, h1, h2⟩ := hy; cases h2; exact ⟨rfl, r, h1, rfl⟩)

theorem bin_local {g : Bool} {op : BinOp} {x y : AV} (hy : (binOp s g op x y).Yields (av, s1)) : s1 = s ∧ (binOp s' g op x y).Yields (av, s') := by
  unfold binOp at hy ⊢
  split at hy
  · split at hy
    · exact int_local hy
    · exact hy.elim
  · split at hy
    · split at hy
      · cases hy; exact ⟨rfl, rfl⟩
      · cases hy; exact ⟨rfl, rfl⟩
      · exact hy.elim
    · exact hy.elim
  · split at hy
    · cases hy; exact ⟨rfl, rfl⟩
    · cases hy; exact ⟨rfl, rfl⟩
    · obtain ⟨r, h1, h2⟩ := hy; cases h2; exact ⟨rfl, r, h1, rfl⟩
    · exact hy.elim
  · exact hy.elim

/-- What a pure operation gives hangs on its operands, and on the entries that they name. -/
theorem pure_local (hp : pureOp o = true) (hop : ∀ x ∈ o.op.operands, opnd s' x = opnd s x) (hlk : ∀ x ∈ o.op.operands, ∀ n ∈ (opnd s x).nms, LkSame n s s')
    (hy : (evalOp lay cons o s).Yields (av, s1)) : s1 = s ∧ (evalOp lay cons o s').Yields (av, s') := by
  unfold pureOp at hp
  unfold evalOp at hy ⊢
  cases ho : o.op with
  | move x =>
    simp only [ho, Op.operands] at hop hy ⊢
    rw [hop x (by simp)]; cases hy; exact ⟨rfl, rfl⟩
  | assign x =>
    simp only [ho, Op.operands] at hop hy ⊢
    rw [hop x (by simp)]; cases hy; exact ⟨rfl, rfl⟩
  | pick c x y =>
    simp only [ho, Op.operands] at hop hy ⊢
    rw [hop c (by simp), hop x (by simp), hop y (by simp)]
    split at hy
    · cases hy; exact ⟨rfl, rfl⟩
    · split at hy <;> (cases hy; exact ⟨rfl, rfl⟩)
    · exact hy.elim
  | build t ps =>
    simp only [ho, Op.operands] at hop hy ⊢
    split at hy
    · rename_i i hi
      rw [parts_local (s := s) (s' := s') fun p hp => hop p.2 (by simp; exact ⟨p.1, by simpa using hp⟩)]
      split at hy
      · cases hy; exact ⟨rfl, rfl⟩
      · exact hy.elim
    · exact hy.elim
  | load t x =>
    simp only [ho, Op.operands] at hop hlk hy ⊢
    rw [hop x (by simp)]
    split at hy
    · rename_i hi ha
      exact load_local (fun n hn => hlk x (by simp) n (addr_nms ha hn)) hy
    · exact hy.elim
  | binOp b t x y u =>
    simp only [ho, Op.operands] at hop hy ⊢
    rw [hop x (by simp), hop y (by simp)]
    exact bin_local hy
  | unOp u t x =>
    simp only [ho, Op.operands] at hop hy ⊢
    rw [hop x (by simp)]
    split at hy
    · cases hy; exact ⟨rfl, rfl⟩
    · cases hy; exact ⟨rfl, rfl⟩
    · exact hy.elim
  | convert u t x =>
    simp only [ho, Op.operands] at hop hy ⊢
    rw [hop x (by simp)]
    split at hy
    · cases hy; exact ⟨rfl, rfl⟩
    · exact hy.elim
  | slice t x lo hi mx =>
    cases mx with
    | some m => simp [ho] at hp
    | none =>
      simp only [ho, Op.operands] at hop hlk hy ⊢
      have hlo : lo.map (opnd s') = lo.map (opnd s) := by
        cases lo with
        | none => rfl
        | some z => simp only [Option.map_some]; rw [hop z (by simp)]
      have hhi : hi.map (opnd s') = hi.map (opnd s) := by
        cases hi with
        | none => rfl
        | some z => simp only [Option.map_some]; rw [hop z (by simp)]
      rw [hop x (by simp), hlo, hhi]
      split at hy
      · rename_i ha
        exact slice_local (fun n hn => hlk x (by simp) n (addr_nms ha hn)) hy
      · exact hy.elim
  | fieldAddr t x f =>
    simp only [ho, Op.operands] at hop hlk hy ⊢
    rw [hop x (by simp)]
    split at hy
    · rename_i hi ha
      split at hy
      · rename_i hst hf
        split at hy
        · rename_i hl
          obtain ⟨e', he'⟩ := (hlk x (by simp) _ (addr_nms ha (by simp [A1.nms]))).some hl
          rw [he']; cases hy; exact ⟨rfl, rfl⟩
        · exact hy.elim
      · cases hy; exact ⟨rfl, rfl⟩
      · rename_i hst hf
        split at hy
        · rename_i hl
          obtain ⟨fr', he'⟩ := (hlk x (by simp) _ (addr_nms ha (by simp [A1.nms]))).arr hl
          rw [he']; cases hy; exact ⟨rfl, rfl⟩
        · exact hy.elim
      · exact hy.elim
    · exact hy.elim
  | field t x f =>
    simp only [ho, Op.operands] at hop hy ⊢
    rw [hop x (by simp)]
    split at hy
    · split at hy
      · split at hy
        · cases hy; exact ⟨rfl, rfl⟩
        · exact hy.elim
      · exact hy.elim
    · exact hy.elim
  | indexAddr t x y =>
    simp only [ho, Op.operands] at hop hlk hy ⊢
    rw [hop x (by simp), hop y (by simp)]
    split at hy
    · rename_i ha hj
      exact index_local (fun n hn => hlk x (by simp) n (addr_nms ha hn)) hy
    · exact hy.elim
  | index t x y =>
    simp only [ho, Op.operands] at hop hy ⊢
    rw [hop x (by simp), hop y (by simp)]
    split at hy
    · obtain ⟨r, h1, h2⟩ := hy; cases h2; exact ⟨rfl, r, h1, rfl⟩
    · exact hy.elim
  | extract x f =>
    simp only [ho, Op.operands] at hop hy ⊢
    rw [hop x (by simp)]
    split at hy
    · split at hy
      · cases hy; exact ⟨rfl, rfl⟩
      · exact hy.elim
    · exact hy.elim
  | buildSlice t len ps =>
    cases len with
    | succ n => simp [ho] at hp
    | zero =>
      simp only [ho] at hy ⊢
      split at hy
      · cases hy; exact ⟨rfl, rfl⟩
      · exact hy.elim
  | call c =>
    obtain ⟨callee, args, ts⟩ := c
    cases callee with
    | invoke r m => simp [ho] at hp
    | value f => simp [ho] at hp
    | builtin b =>
      cases b <;> try (simp [ho] at hp; done)
      case len =>
        simp only [ho, Op.operands, Call.operands] at hop hlk hy ⊢
        split at hy
        · rename_i x t hx ht
          have hm : x ∈ args.toList := by rw [hx]; simp
          rw [hop x (by simpa using hm)]
          split at hy
          · rename_i hi ha
            exact len_local (fun n hn => hlk x (by simpa using hm) n (addr_nms ha hn)) hy
          · exact hy.elim
        · exact hy.elim
  | _ => simp [ho] at hp
end
end Go.Di
