/-
  Own work. Lists of operations, and whole texts.
-/
import Derived.Test.YtalnijffcoppkaaDiEval3
import Derived.Tactics
open Go.RowKit (Below)
namespace Go.Di

section
variable {P : Program} {C : Bs} {w w' : World} {s s' : St} {X : Nat → Prop} {β β' : Nat → Option Value} {a : Act} {o : Oper} {tm : Array Value}
  {K : Act → World → Prop} {Q : Exit → Act → World → Prop} {lay : List (TypeId × TI)} {cons : List (FuncId × Con)} {av : AV}

theorem evalOp_sound (hL : LayOk P lay) (hC : ConsOk P cons) (hwf : opWf o = true) (g : Gam C s X β a.tmps w) (hx : ∀ t, Operand.tmp t ∈ o.op.operands → ¬ X t) (hy : (evalOp lay cons o s).Yields (av, s')) (hK : Goes C X o a av s' K) : o.wp P a w K Q := by
  have op : ∀ x, x ∈ o.op.operands → AVOk (cx C s β w) (opnd s x) (a.eval x) := fun x hm => opnd_ok g fun t ht => hx t (by rw [← ht]; exact hm)
  cases ho : o.op with
  | move x => exact sound_move (.inl ho) g (op x (by rw [ho]; simp [Op.operands])) hy hK
  | assign x => exact sound_move (.inr ho) g (op x (by rw [ho]; simp [Op.operands])) hy hK
  | pick c x y => exact sound_pick ho g (op c (by rw [ho]; simp [Op.operands])) (op x (by rw [ho]; simp [Op.operands])) (op y (by rw [ho]; simp [Op.operands])) hy hK
  | alloc t => exact sound_alloc hL ho g hy hK
  | box t x => exact sound_box hL ho g (op x (by rw [ho]; simp [Op.operands])) hy hK
  | build t ps => exact sound_build hL ho g (fun j z hz => op z (by rw [ho]; simp [Op.operands]; exact ⟨j, by simpa using hz⟩)) hy hK
  | buildSlice t len ps =>
    have h1 : len ≤ 1000 ∧ (len = 0 → ps.toList = []) := by
      simp only [opWf, ho] at hwf
      cases len with
      | zero => exact ⟨by omega, fun _ => by simpa using hwf⟩
      | succ n => exact ⟨by simpa using hwf, fun h => by cases h⟩
    exact sound_buildSlice hL h1.1 ho g (fun j z hz => op z (by rw [ho]; simp [Op.operands]; exact ⟨j, by simpa using hz⟩)) h1.2 hy hK
  | load t x => exact sound_load hL ho g (op x (by rw [ho]; simp [Op.operands])) hy hK
  | store t x y => exact sound_store hL ho (by simp only [opWf, ho] at hwf; simpa using hwf) g (op x (by rw [ho]; simp [Op.operands])) (op y (by rw [ho]; simp [Op.operands])) hy hK
  | binOp b t x y u => exact sound_binOp hL ho g (op x (by rw [ho]; simp [Op.operands])) (op y (by rw [ho]; simp [Op.operands])) hy hK
  | unOp u t x => exact sound_unOp hL ho g (op x (by rw [ho]; simp [Op.operands])) hy hK
  | convert u t x => exact sound_convert hL ho g (op x (by rw [ho]; simp [Op.operands])) hy hK
  | makeSlice t x y => exact sound_make hL ho g (op x (by rw [ho]; simp [Op.operands])) (op y (by rw [ho]; simp [Op.operands])) hy hK
  | slice t x lo hi mx =>
    cases mx with
    | some m => simp only [evalOp, ho] at hy; exact hy.elim
    | none =>
      exact sound_slice hL ho g (op x (by rw [ho]; simp [Op.operands])) (fun z hz => op z (by rw [ho, hz]; simp [Op.operands])) (fun z hz => op z (by rw [ho, hz]; simp [Op.operands])) hy hK
  | fieldAddr t x f => exact sound_fieldAddr hL ho g (op x (by rw [ho]; simp [Op.operands])) hy hK
  | field t x f => exact sound_field hL ho g (op x (by rw [ho]; simp [Op.operands])) hy hK
  | indexAddr t x y => exact sound_indexAddr hL ho g (op x (by rw [ho]; simp [Op.operands])) (op y (by rw [ho]; simp [Op.operands])) hy hK
  | index t x y => exact sound_index hL ho g (op x (by rw [ho]; simp [Op.operands])) (op y (by rw [ho]; simp [Op.operands])) hy hK
  | extract x f => exact sound_extract ho g (op x (by rw [ho]; simp [Op.operands])) hy hK
  | call c =>
    obtain ⟨callee, args, ts⟩ := c
    cases callee with
    | invoke r m => simp only [evalOp, ho] at hy; exact hy.elim
    | value f =>
      cases f with
      | func f => exact sound_call hC ho g (fun z hz => op z (by rw [ho]; simp [Op.operands, Call.operands]; exact .inr (by simpa using hz))) hy hK
      | tmp t => simp only [evalOp, ho] at hy; exact hy.elim
      | const v => simp only [evalOp, ho] at hy; exact hy.elim
      | global v => simp only [evalOp, ho] at hy; exact hy.elim
    | builtin b =>
      obtain ⟨l⟩ := args
      obtain ⟨m⟩ := ts
      cases b <;> try (simp only [evalOp, ho] at hy; exact hy.elim)
      case len =>
        match l, m with
        | [x], [t] => exact sound_len hL ho g (op x (by rw [ho]; simp [Op.operands, Call.operands])) hy hK
        | [], _ => simp only [evalOp, ho] at hy; exact hy.elim
        | [_], [] => simp only [evalOp, ho] at hy; exact hy.elim
        | [_], _ :: _ :: _ => simp only [evalOp, ho] at hy; exact hy.elim
        | _ :: _ :: _, _ => simp only [evalOp, ho] at hy; exact hy.elim
      case append =>
        match l, m with
        | [x, y], [t, u] => exact sound_append hL ho g (op x (by rw [ho]; simp [Op.operands, Call.operands])) (op y (by rw [ho]; simp [Op.operands, Call.operands])) hy hK
        | [], _ => simp only [evalOp, ho] at hy; exact hy.elim
        | [_], _ => simp only [evalOp, ho] at hy; exact hy.elim
        | [_, _], [] => simp only [evalOp, ho] at hy; exact hy.elim
        | [_, _], [_] => simp only [evalOp, ho] at hy; exact hy.elim
        | [_, _], _ :: _ :: _ :: _ => simp only [evalOp, ho] at hy; exact hy.elim
        | _ :: _ :: _ :: _, _ => simp only [evalOp, ho] at hy; exact hy.elim
  | _ => simp only [evalOp, ho] at hy; exact hy.elim
end

def NoX : Nat → Prop := fun _ => False

theorem set_same {tm : Array Value} {t : Nat} {v : Value} (h : tm.getD t undef = v) : tm.setIfInBounds t v = tm := by
  apply Array.ext (by simp)
  intro j h1 h2
  rw [Array.getElem_setIfInBounds h2]
  split
  · rename_i e; subst e
    simp [Array.getD, h2] at h; exact h.symm
  · rfl

section
variable {P : Program} {C : Bs} {w w' : World} {s s' : St} {X : Nat → Prop} {β' : Nat → Option Value} {a : Act} {o : Oper} {tm : Array Value} {β : Type} {bt : Nat → Option Value}
  {K : Act → World → Prop} {Q : Exit → Act → World → Prop} {E : Env} {k : St → Option β} {r : β}

/-- What follows holds wherever the evaluator's continuation gives r. -/
def Kont (C : Bs) (k : St → Option β) (r : β) (K : Act → World → Prop) : Prop := ∀ s bt a w, Gam C s NoX bt a.tmps w → a.defers = [] → k s = some r → K a w

theorem step_sound (hL : LayOk P E.lay) (hC : ConsOk P E.cons) (g : Gam C s NoX bt a.tmps w) (hd : a.defers = []) (h : stepO E o s k = some r) (hK : Kont C k r K) : o.wp P a w K Q := by
  unfold stepO at h
  split at h
  · rename_i hwf
    obtain ⟨⟨av, s'⟩, hy, hk⟩ := bindK_some h
    refine evalOp_sound hL hC hwf g (fun t _ hx => hx) hy fun v w' bt' g' hav => ?_
    cases hdst : o.dst with
    | none => rw [hdst] at hk; exact hK _ bt' _ w' g' hd hk
    | some t => rw [hdst] at hk; exact hK _ bt' { a with tmps := a.tmps.setIfInBounds t v } w' (g'.setTrue hav) hd hk
  · cases h

theorem withBool_sound (g : Gam C s NoX bt a.tmps w) {t : Nat} {kb : Bool → St → Option β} (h : withBool s t kb = some r) :
    ∃ c s1, a.tmps[t]? = some (.bool c) ∧ Gam C s1 NoX bt a.tmps w ∧ kb c s1 = some r := by
  unfold withBool at h
  split at h
  · rename_i c hc
    have hv : AVOk (cx C s bt w) (.v false [.d (.bool c)]) (a.tmps.getD t undef) := by
      have := opnd_ok g (x := .tmp t) (fun _ _ hx => hx)
      simp only [opnd, Act.eval] at this
      rw [hc] at this; exact this
    have hb := av_bool hv
    have hlt : t < a.tmps.size := by
      rcases Nat.lt_or_ge t a.tmps.size with h' | h'
      · exact h'
      · simp [Array.getD, Nat.not_lt.2 h', undef] at hb
    have hget : a.tmps[t]? = some (.bool c) := by
      rw [Array.getElem?_eq_getElem hlt]; simp [Array.getD, hlt] at hb; rw [hb]
    have gset : ∀ b, c = b → Gam C (s.set t (.one (.d (.bool b)))) NoX bt a.tmps w := by
      intro b hcb
      have := g.setTrue (t := t) (a := .one (.d (.bool b))) (v := .bool b) av_mk_bool
      rwa [set_same (by rw [hb, hcb])] at this
    cases c with
    | true => exact ⟨true, _, hget, gset true rfl, h⟩
    | false => exact ⟨false, _, hget, gset false rfl, h⟩
  · cases h

theorem runOp_sound (hL : LayOk P E.lay) (hC : ConsOk P E.cons) {ops : Array Oper} (g : Gam C s NoX bt a.tmps w) (hd : a.defers = []) (h : runOp E ops.toList o s k = some r) (hK : Kont C k r K) :
    if Region.wanted o (yielded ops a.tmps) then o.wp P a w K Q else K (a.put o.dst undef) w := by
  unfold runOp at h
  split at h
  · rename_i hg
    rw [if_pos (by simp [Region.wanted, hg])]
    exact step_sound hL hC g hd h hK
  · rename_i j p hg
    split at h
    · rename_i o2 t _ _ _ _ _ hj
      have hj' := hj
      rw [Array.getElem?_toList] at hj'
      have skip : ∀ s1, Gam C s1 NoX bt a.tmps w → skipO o s1 k = some r → K (a.put o.dst undef) w := by
        intro s1 g1 hk
        unfold skipO at hk
        cases hdst : o.dst with
        | none => rw [hdst] at hk; exact hK _ bt _ w g1 hd hk
        | some u => rw [hdst] at hk; exact hK _ bt { a with tmps := a.tmps.setIfInBounds u undef } w (g1.setTrue av_un) hd hk
      split at h
      · rename_i hun
        have hv := opnd_ok g (x := .tmp t) (fun _ _ hx => hx)
        simp only [opnd, Act.eval] at hv
        rw [hun] at hv
        have hv := av_un_eq hv
        have hy : yielded ops a.tmps j = none := by
          unfold yielded
          rw [hj']
          simp only [Option.bind_some]
          cases hg' : a.tmps[t]? with
          | none => rfl
          | some v =>
            have : v = undef := by
              have hlt := (Array.getElem?_eq_some_iff.1 hg').1
              have := (Array.getElem?_eq_some_iff.1 hg').2
              simp [Array.getD, hlt] at hv
              rw [← this, hv]
            subst this; rfl
        have hw : Region.wanted o (yielded ops a.tmps) = false := by
          simp only [Region.wanted, hg, hy]; rfl
        rw [hw]
        exact skip s g h
      · obtain ⟨c, s1, hget, g1, hk⟩ := withBool_sound g h
        have hy : yielded ops a.tmps j = some c := by
          simp [yielded, hj', hget]
        have hw : Region.wanted o (yielded ops a.tmps) = (c == p) := by
          simp only [Region.wanted, hg, hy]
          cases c <;> cases p <;> rfl
        rw [hw]
        cases c <;> cases p
        · exact step_sound hL hC g1 hd hk hK
        · exact skip s1 g1 hk
        · exact skip s1 g1 hk
        · exact step_sound hL hC g1 hd hk hK
    · cases h

theorem runOps_sound (hL : LayOk P E.lay) (hC : ConsOk P E.cons) {ops : Array Oper} : ∀ (l : List Oper) {s : St} {bt : Nat → Option Value} {a : Act} {w : World}, Gam C s NoX bt a.tmps w → a.defers = [] → runOps E ops.toList l s k = some r →
    Kont C k r (fun a w => Q .normal a w) → wpList P ops Q l a w
  | [], s, bt, a, w, g, hd, h, hK => hK s bt a w g hd h
  | o :: l, s, bt, a, w, g, hd, h, hK => by
    refine wpList_step fun K hK' => ?_
    exact runOp_sound hL hC g hd h fun s' bt' a' w' g' hd' h' => hK' a' w' (runOps_sound hL hC l g' hd' h' hK)
end
end Go.Di
