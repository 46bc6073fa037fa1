/-
  Own work. Regions that draw their order: whatever order is drawn, the planned run tells what comes out.
-/
import Derived.Test.YtalnijffcoppkaaDiDraw3
open Go.RowKit (Below)
namespace Go.Di

section
variable {P : Program} {C : Bs} {w w' : World} {s s' s1 : St} {X : Nat → Prop} {bt : Nat → Option Value} {a : Act} {o : Oper} {tm : Array Value} {β : Type}
  {K : Act → World → Prop} {Q : Exit → Act → World → Prop} {E : Env} {k : St → Option β} {r : β} {ops : Array Oper} {N : List Nat} {T : Nat → Prop}

theorem mem_looks {t : Nat} (h : Operand.tmp t ∈ o.op.operands) : t ∈ o.looksAt ops := by
  unfold Oper.looksAt
  exact List.mem_append_left _ (List.mem_filterMap.2 ⟨.tmp t, by simpa using h, rfl⟩)
theorem mem_looks_guard {j t : Nat} {p : Bool} {oj : Oper} (hg : o.guard = some (j, p)) (hj : ops[j]? = some oj) (hd : oj.dst = some t) : t ∈ o.looksAt ops := by
  unfold Oper.looksAt
  refine List.mem_append_right _ ?_
  simp [hg, hj, hd]

theorem opnd_congr (h : ∀ t ∈ o.looksAt ops, s'.get t = s.get t) {x : Operand} (hx : x ∈ o.op.operands) : opnd s' x = opnd s x := by
  cases x with
  | tmp t => exact h t (mem_looks hx)
  | const v =>
    unfold opnd
    split
    · rename_i h; cases h
    all_goals first | rfl | (rename_i h; cases h; rfl)
  | _ => simp only [opnd]

theorem wantedA_congr (h : ∀ t ∈ o.looksAt ops, s'.get t = s.get t) : wantedA ops.toList o s' = wantedA ops.toList o s := by
  unfold wantedA
  cases hg : o.guard with
  | none => rfl
  | some q =>
    obtain ⟨j, p⟩ := q
    simp only
    cases hj : ops.toList[j]? with
    | none => rfl
    | some oj =>
      obtain ⟨dst, op, type, pos, after, guard⟩ := oj
      cases dst with
      | none => rfl
      | some t =>
        simp only
        rw [h t (mem_looks_guard hg (by rw [← hj, Array.getElem?_toList]) rfl)]

theorem wantedA_sound (g : Gam C s X bt a.tmps w) (hX : ∀ t ∈ o.looksAt ops, ¬ X t) {c : Bool} (hw : wantedA ops.toList o s = some c) : Region.wanted o (yielded ops a.tmps) = c := by
  unfold wantedA at hw
  cases hg : o.guard with
  | none => rw [hg] at hw; cases hw; simp [Region.wanted, hg]
  | some q =>
    obtain ⟨j, p⟩ := q
    rw [hg] at hw
    simp only at hw
    split at hw
    · rename_i o2 t _ _ _ _ _ hj
      split at hw
      · rename_i b hb
        cases hw
        have hj' := hj
        rw [Array.getElem?_toList] at hj'
        have hx := hX t (mem_looks_guard hg hj' rfl)
        have hv : AVOk (cx C s bt w) (.v false [.d (.bool b)]) (a.tmps.getD t undef) := g.env t _ hx (get_some hb (by intro e; cases e))
        have hb := av_bool hv
        have hlt : t < a.tmps.size := by
          rcases Nat.lt_or_ge t a.tmps.size with h' | h'
          · exact h'
          · simp [Array.getD, Nat.not_lt.2 h', undef] at hb
        have hget : a.tmps[t]? = some (.bool b) := by
          rw [Array.getElem?_eq_getElem hlt]; simp [Array.getD, hlt] at hb; rw [hb]
        have hy : yielded ops a.tmps j = some b := by simp [yielded, hj', hget]
        simp only [Region.wanted, hg, hy]
        cases b <;> cases p <;> rfl
      · rename_i hun
        cases hw
        have hj' := hj
        rw [Array.getElem?_toList] at hj'
        have hx := hX t (mem_looks_guard hg hj' rfl)
        have hv := opnd_ok g (x := .tmp t) (fun u hu hxu => hx (by cases hu; exact hxu))
        simp only [opnd, Act.eval] at hv
        rw [hun] at hv
        have hv := av_un_eq hv
        have hy : yielded ops a.tmps j = none := by
          unfold yielded
          rw [hj']
          simp only [Option.bind_some]
          cases hg' : a.tmps[t]? with
          | none => rfl
          | some v =>
            have : v = undef := by
              have hlt := (Array.getElem?_eq_some_iff.1 hg').1
              have := (Array.getElem?_eq_some_iff.1 hg').2
              simp [Array.getD, hlt] at hv
              rw [← this, hv]
            subst this; rfl
        simp only [Region.wanted, hg, hy]; rfl
      · cases hw
    · cases hw

theorem Gam.park (g : Gam C s X bt tm w) (d : Nat) (a : AV) : Gam C (s.set d a) (fun t => X t ∨ t = d) bt tm w where
  len := by simp [St.set, g.len]
  env t av hx h := by
    have hne : d ≠ t := fun e => hx (.inr e.symm)
    simp only [St.set, List.getElem?_set, hne, if_false] at h
    exact g.env t av (fun h => hx (.inl h)) h
  ents := g.ents
  uniq := g.uniq
  fresh := g.fresh
  b0 := g.b0
  below := g.below

theorem get_set_ne {d t : Nat} {a : AV} (h : d ≠ t) : (s.set d a).get t = s.get t := by
  simp [St.get, St.set, List.getD_eq_getElem?_getD, List.getElem?_set, h]

theorem setD_ents {d : Option Nat} {a : AV} : (setD d a s).ents = s.ents := by cases d <;> rfl
theorem setD_setD {d : Option Nat} {a : AV} : setD d a (setD d a s) = setD d a s := by
  cases d with
  | none => rfl
  | some t => simp [setD, St.set]
theorem setD_len {d : Option Nat} {a : AV} : (setD d a s).env.length = s.env.length := by cases d <;> simp [setD, St.set]

/-- The slot of an early operation's value stands apart from what it looks at. -/
theorem Stp.stable (hp : pureOp o = true) (hd : ∀ d, o.dst = some d → d ∉ o.looksAt ops) (h : Stp E ops.toList o s s') (hwf : opWf o = true) :
    (∃ av, s' = setD o.dst av s) ∧ Stable E ops.toList o s' (openNms s' o) := by
  have main : ∀ av c, s' = setD o.dst av s → wantedA ops.toList o s = some c → (c = true → (evalOp E.lay E.cons o s).Yields (av, s)) → (c = false → av = .tup []) → Stable E ops.toList o s' (openNms s' o) := by
    intro av c hs hw hy hn
    have hget : ∀ t ∈ o.looksAt ops, s'.get t = s.get t := by
      intro t ht
      rw [hs]
      cases hdst : o.dst with
      | none => rfl
      | some d => exact get_set_ne fun e => hd d hdst (e ▸ ht)
    have hw' : wantedA ops.toList o s' = some c := by rw [wantedA_congr hget, hw]
    have hself : setD o.dst av s' = s' := by rw [hs, setD_setD]
    refine ⟨hwf, ⟨c, hw'⟩, fun h => ?_, fun h => ?_, fun x hx n hn => ?_, fun x hx n hn l hl m hm => ?_, fun d hdst n hn => ?_⟩
    · rw [hw'] at h; cases h
      refine ⟨av, (pure_local hp (fun x hx => opnd_congr hget hx) (fun x hx n hn => ?_) (hy rfl)).2, hself, fun d hdst hlt => ?_⟩
      · unfold LkSame; rw [hs, setD_ents]
      · rw [hs] at hlt ⊢
        rw [setD_len] at hlt
        simp [hdst, setD, St.set, hlt]
    · rw [hw'] at h; cases h
      rw [hn rfl] at hself; exact hself
    · exact List.mem_append_left _ (mem_opNms (by simpa using hx) (.inl hn))
    · exact List.mem_append_left _ (mem_opNms (by simpa using hx) (.inr (mem_boxNms hl hm hn)))
    · unfold openNms; rw [hdst]; exact List.mem_append_right _ hn
  rcases h with ⟨h1, h2, av, s1, h3, h4⟩ | ⟨h1, h2⟩
  · have hs1 := (pure_local (s' := s) hp (fun _ _ => rfl) (fun _ _ _ _ => rfl) h3).1
    subst hs1
    exact ⟨⟨av, h4⟩, main av true h4 h1 (fun _ => h3) (fun h => by cases h)⟩
  · exact ⟨⟨_, h2⟩, main (.tup []) false h2 h1 (fun h => by cases h) (fun _ => rfl)⟩

theorem Stable.agree (hp : pureOp o = true) (h : Stable E ops.toList o s N) (hget : ∀ t ∈ o.looksAt ops, s'.get t = s.get t) (hlk : ∀ x ∈ o.op.operands, ∀ n ∈ (opnd s x).nms, LkSame n s s')
    (hdst : ∀ d, o.dst = some d → s'.env[d]? = s.env[d]?) (hlen : s'.env.length = s.env.length) : Stable E ops.toList o s' N := by
  have hw := wantedA_congr hget
  have hg : ∀ d, o.dst = some d → s'.get d = s.get d := fun d hd => by
    unfold St.get; rw [List.getD_eq_getElem?_getD, List.getD_eq_getElem?_getD, hdst d hd]
  have self : ∀ av, setD o.dst av s = s → setD o.dst av s' = s' := by
    intro av h
    cases hd : o.dst with
    | none => rfl
    | some d =>
      rw [hd] at h
      rcases Nat.lt_or_ge d s.env.length with hl | hl
      · have h1 : s.env[d]? = some av := by
          have h2 : (s.set d av).env[d]? = s.env[d]? := by rw [show s.set d av = s from h]
          rw [← h2]; simp [St.set, hl]
        exact set_get (by rw [hdst d hd, h1])
      · have hl' : s'.env.length ≤ d := by rw [hlen]; exact hl
        have : s'.env.set d av = s'.env := List.set_eq_of_length_le hl'
        simp only [setD, St.set, this]
  refine ⟨h.wf, by rw [hw]; exact h.known, fun hy => ?_, fun hn => self _ (h.no (by rw [← hw]; exact hn)), fun x hx n hn => ?_, fun x hx n hn l hl m hm => ?_, fun d hd n hn => ?_⟩
  · obtain ⟨av, h1, h2, h3⟩ := h.yes (by rw [← hw]; exact hy)
    refine ⟨av, (pure_local hp (fun x hx => opnd_congr hget hx) hlk h1).2, self av h2, fun d hd hl => ?_⟩
    rw [hdst d hd]; exact h3 d hd (by rw [hlen] at hl; exact hl)
  · rw [opnd_congr hget hx] at hn; exact h.opn x hx n hn
  · rw [opnd_congr hget hx] at hn
    have hs := hlk x hx n hn
    cases h' : look n s.ents with
    | none => unfold LkSame at hs; rw [h', hl] at hs; cases hs
    | some e =>
      cases e with
      | box l' => rw [hs.box h'] at hl; cases hl; exact h.box x hx n hn l h' m hm
      | arr fr t xs => obtain ⟨fr', h2⟩ := hs.arr h'; rw [h2] at hl; cases hl
  · rw [hg d hd] at hn; exact h.res d hd n hn

theorem Stable.set (hp : pureOp o = true) (h : Stable E ops.toList o s N) {d : Nat} {av : AV} (hl : d ∉ o.looksAt ops) (hd : o.dst ≠ some d) : Stable E ops.toList o (s.set d av) N :=
  h.agree hp (fun t ht => get_set_ne fun e => hl (e ▸ ht)) (fun _ _ _ _ => rfl) (fun u hu => by
    have : d ≠ u := fun e => hd (e ▸ hu)
    simp [St.set, List.getElem?_set, this]) (by simp [St.set])

theorem Stable.keep (hp : pureOp o = true) (h : Stable E ops.toList o s N) (hk : Keep T s s') (hT : ∀ n ∈ N, ¬ T n) : Stable E ops.toList o s' N := by
  have slot : ∀ t, (∀ m ∈ (s.get t).nms, ¬ T m) → s'.env[t]? = s.env[t]? := by
    intro t ht
    cases h' : s.env[t]? with
    | none =>
      rw [List.getElem?_eq_none_iff] at h' ⊢
      rw [hk.len]; exact h'
    | some av =>
      refine hk.env t av h' fun m hm => ht m ?_
      unfold St.get; rw [List.getD_eq_getElem?_getD, h']; exact hm
  have get : ∀ t, (∀ m ∈ (s.get t).nms, ¬ T m) → s'.get t = s.get t := fun t ht => by
    unfold St.get; rw [List.getD_eq_getElem?_getD, List.getD_eq_getElem?_getD, slot t ht]
  refine h.agree hp (fun t ht => ?_) (fun x hx n hn => hk.lk n (hT n (h.opn x hx n hn)) fun l hl m hm => hT m (h.box x hx n hn l hl m hm)) (fun d hd => slot d fun m hm => hT m (h.res d hd m hm)) hk.len
  unfold Oper.looksAt at ht
  rcases List.mem_append.1 ht with ht | ht
  · obtain ⟨x, hx, hxt⟩ := List.mem_filterMap.1 ht
    cases x <;> simp at hxt
    subst hxt
    exact get _ fun m hm => hT m (h.opn (.tmp _) (by simpa using hx) m hm)
  · cases hg : o.guard with
    | none => rw [hg] at ht; cases ht
    | some q =>
      obtain ⟨j, p⟩ := q
      rw [hg] at ht
      simp only [Option.mem_toList] at ht
      obtain ⟨c, hc⟩ := h.known
      unfold wantedA at hc
      rw [hg] at hc
      simp only at hc
      split at hc
      · rename_i o2 t' _ _ _ _ _ hj
        rw [Array.getElem?_toList] at hj
        have : t' = t := by
          rw [hj] at ht; simpa using ht
        subst this
        split at hc
        · rename_i b hb
          refine get _ fun m hm => ?_
          rw [hb] at hm
          simp [AV.nms, nmsL, A1.nms] at hm
        · rename_i hun
          refine get _ fun m hm => ?_
          rw [hun] at hm
          simp [AV.nms, nmsP] at hm
        · cases hc
      · cases hc
end
end Go.Di
