/-
  Own work. A region that draws its order is right, whatever it draws.
-/
import Derived.Test.YtalnijffcoppkaaDiDraw5
open Go.RowKit (Below)
namespace Go.Di

section
variable {P : Program} {C : Bs} {w w' : World} {s s' s1 : St} {X : Nat → Prop} {bt : Nat → Option Value} {a : Act} {o : Oper} {tm : Array Value} {β : Type}
  {K : Act → World → Prop} {Q : Exit → Act → World → Prop} {E : Env} {k : St → Option β} {r : β} {ops : Array Oper} {N : List Nat} {T : Nat → Prop}
  {listed : Array Bool} {pre : List Nat} {rest op : List (Nat × List Nat)} {Pd A : List Nat} {i : Nat}

theorem put_gam (g : Gam C s X bt a.tmps w) {av : AV} {v : Value} (ha : AVOk (cx C s bt w) av v) (d : Option Nat) :
    Gam C (setD d av s) (fun t => X t ∧ d ≠ some t) bt (a.put d v).tmps w := by
  cases d with
  | none => exact g.weaken fun t ht => ⟨ht, by simp⟩
  | some d => exact (g.set ha).weaken fun t ht => ⟨ht.1, fun e => ht.2 (by cases e; rfl)⟩

theorem put_defers (d : Option Nat) (v : Value) : (a.put d v).defers = a.defers := by cases d <;> rfl

theorem Inv.free (h : Inv C E ops k r listed pre rest op Pd s X bt a w) (ho : ops[i]? = some o) (hr : ∀ e ∈ o.after, Region.binds .any e = true → Li listed e.on)
    (hself : i ∈ Pd → ∀ d, o.dst = some d → d ∉ o.looksAt ops) : ∀ t ∈ o.looksAt ops, ¬ X t := by
  intro t ht hX
  obtain ⟨q, hq, oq, h1, h2⟩ := h.hx t hX
  by_cases e : q = i
  · subst e
    rw [ho] at h1; cases h1
    exact hself hq t h2 ht
  · obtain ⟨oq', M, h3, _, h5, h6, _⟩ := h.stab q hq
    rw [h1] at h3; cases h3
    obtain ⟨e', he', hb, heq⟩ := bindsOn_ok (((earlyOk_dst h6 h2).2 i o ho (Ne.symm e)).2 ht)
    have := hr e' he' hb
    rw [heq] at this
    exact not_both (h.unP q hq) this

theorem closed_set (hc : ∀ j o, ops[j]? = some o → Li listed j → ∀ e ∈ o.after, Region.binds .any e = true → Li listed e.on) (ho : ops[i]? = some o) (hr : ∀ e ∈ o.after, Region.binds .any e = true → Li listed e.on) :
    ∀ j o, ops[j]? = some o → Li (listed.setIfInBounds i true) j → ∀ e ∈ o.after, Region.binds .any e = true → Li (listed.setIfInBounds i true) e.on := by
  intro j oj hj hl e he hb
  rcases li_set_inv hl with h | rfl
  · exact li_set (hc j oj hj h e he hb)
  · rw [ho] at hj; cases hj; exact li_set (hr e he hb)

/-- The machine takes an operation that the run took before. -/
theorem Inv.pend (hL : LayOk P E.lay) (hC : ConsOk P E.cons) (h : Inv C E ops k r listed pre rest op Pd s X bt a w) (hi : i ∈ Pd) (hr : i ∈ Region.ready .any ops listed)
    (hK : ∀ X' bt' a' w', Inv C E ops k r (listed.setIfInBounds i true) pre rest op (Pd.erase i) s X' bt' a' w' → K a' w') : wpOp P ops Q i K a w := by
  obtain ⟨o, N, ho, hN, he, hE, hst⟩ := h.stab i hi
  obtain ⟨hu, o2, ho2, hp⟩ := mem_ready.1 hr
  rw [ho] at ho2; cases ho2
  have hX := h.free ho hp fun _ d hd => (earlyOk_dst hE hd).1
  have next : ∀ {av : AV} {v : Value} {bt' w'}, Gam C s X bt' a.tmps w' → AVOk (cx C s bt' w') av v → setD o.dst av s = s → K (a.put o.dst v) w' := by
    intro av v bt' w' g hav hself
    have g' := put_gam g hav o.dst
    rw [hself] at g'
    have hn := h.pdNodup
    refine hK _ _ _ _ ⟨g', by rw [put_defers]; exact h.defers, fun t ht => ?_, by simp [h.size], fun j hj => ?_, fun p hp => ?_, fun q hq => ?_, fun q hq => ?_, hn.erase i, fun q hq => ?_, closed_set h.closed ho hp, h.preOk, h.plan, h.run⟩
    · obtain ⟨q, hq, oq, h1, h2⟩ := h.hx t ht.1
      refine ⟨q, (hn.mem_erase_iff).2 ⟨fun e => ?_, hq⟩, oq, h1, h2⟩
      subst e; rw [ho] at h1; cases h1; exact ht.2 h2
    · by_cases e : j = i
      · exact .inl (by subst e; exact li_self (by rw [h.size]; exact hj))
      · rcases h.all j hj with h1 | h1 | h1
        · exact .inl (li_set h1)
        · exact .inr (.inl h1)
        · exact .inr (.inr ((hn.mem_erase_iff).2 ⟨e, h1⟩))
    · exact un_set (h.unR p hp) fun e => planOk_nin h.plan p hp (e ▸ h.pdPre i hi)
    · have := (hn.mem_erase_iff).1 hq
      exact un_set (h.unP q this.2) (Ne.symm this.1)
    · exact h.pdPre q ((hn.mem_erase_iff).1 hq).2
    · exact h.stab q ((hn.mem_erase_iff).1 hq).2
  unfold wpOp
  rw [ho]
  simp only
  obtain ⟨c, hc⟩ := hst.known
  rw [wantedA_sound h.gam hX hc]
  cases c with
  | true =>
    obtain ⟨av, h1, h2, _⟩ := hst.yes hc
    rw [if_pos rfl]
    exact .inl (evalOp_sound hL hC hst.wf h.gam (fun t ht => hX t (mem_looks ht)) h1 fun v w' bt' g hav => next g hav h2)
  | false =>
    simp only [Bool.false_eq_true, if_false]
    exact next h.gam av_un (hst.no hc)

/-- The machine takes the one operation that the run waits for. -/
theorem Inv.late (hL : LayOk P E.lay) (hC : ConsOk P E.cons) (h : Inv C E ops k r listed pre ((i, A) :: rest) op Pd s X bt a w) (ho : ops[i]? = some o) (he : early o = false) (hr : i ∈ Region.ready .any ops listed)
    (hK : ∀ op' s' X' bt' a' w', Inv C E ops k r (listed.setIfInBounds i true) (i :: pre) rest op' Pd s' X' bt' a' w' → K a' w') : wpOp P ops Q i K a w := by
  obtain ⟨hu, o2, ho2, hp⟩ := mem_ready.1 hr
  rw [ho] at ho2; cases ho2
  obtain ⟨o3, ho3, hh⟩ := planOk_head h.plan
  rw [ho] at ho3; cases ho3
  have hin : i ∉ Pd := fun hm => hh.nin (h.pdPre i hm)
  have hX := h.free ho hp fun hm => absurd hm hin
  have hA : ∀ q ∈ A, Li listed q := anc_listed h.closed hp (hh.anc he) (fun q hq => by cases hq)
  have hrun := h.run
  unfold runD at hrun
  rw [Array.getElem?_toList, ho] at hrun
  simp only [he] at hrun
  split at hrun
  · rename_i hsep
    obtain ⟨s', hst, hk⟩ := runOp_stp hrun
    have next : ∀ {av : AV} {v : Value} {bt' w' s1}, Gam C s1 X bt' a.tmps w' → AVOk (cx C s1 bt' w') av v → Keep (fun n => touch E.cons s o n = true) s s1 → s' = setD o.dst av s1 → K (a.put o.dst v) w' := by
      intro av v bt' w' s1 g hav hkeep hs'
      have g' := put_gam g hav o.dst
      rw [← hs'] at g'
      refine hK _ _ _ _ _ _ ⟨g', by rw [put_defers]; exact h.defers, fun t ht => h.hx t ht.1, by simp [h.size], fun j hj => ?_, fun p hp => ?_, fun q hq => ?_, fun q hq => List.mem_cons_of_mem _ (h.pdPre q hq), h.pdNodup, fun q hq => ?_, closed_set h.closed ho hp, ⟨⟨o, ho, hh.preds⟩, h.preOk⟩, hh.tail, hk⟩
      · rcases h.all j hj with h1 | ⟨p, hp, rfl⟩ | h1
        · exact .inl (li_set h1)
        · rcases List.mem_cons.1 hp with rfl | hp
          · exact .inl (li_self (by rw [h.size]; exact hj))
          · exact .inr (.inl ⟨p, hp, rfl⟩)
        · exact .inr (.inr h1)
      · refine un_set (h.unR p (List.mem_cons_of_mem _ hp)) fun e => ?_
        exact planOk_nin hh.tail p hp (by rw [← e]; exact List.mem_cons_self ..)
      · exact un_set (h.unP q hq) fun e => hin (e ▸ hq)
      · obtain ⟨oq, M, h1, h2, h3, h4, h5⟩ := h.stab q hq
        have hqA : q ∉ A := fun hm => not_both (h.unP q hq) (hA q hm)
        have hmem := mem_dropA hqA h2
        have hkeep' := h5.keep (early_pure h3) hkeep (fun n hn => by rw [sepOpens_ok hsep _ hmem n hn]; simp)
        refine ⟨oq, M, h1, hmem, h3, h4, ?_⟩
        rw [hs']
        cases hd : o.dst with
        | none => exact hkeep'
        | some d =>
          rcases hh.slots he q (h.pdPre q hq) with h6 | h6
          · exact absurd h6 hqA
          · obtain ⟨h7, h8⟩ := h6 oq h1 h3 d hd
            exact hkeep'.set (early_pure h3) h7 h8
    unfold wpOp
    rw [ho]
    simp only
    rcases hst with ⟨hw, hwf, av, s1, hy, hs'⟩ | ⟨hw, hs'⟩
    · rw [wantedA_sound h.gam hX hw, if_pos rfl]
      exact .inl (evalOp_sound hL hC hwf h.gam (fun t ht => hX t (mem_looks ht)) hy fun v w' bt' g hav => next g hav (eff_keeps hy) hs')
    · rw [wantedA_sound h.gam hX hw]
      simp only [Bool.false_eq_true, if_false]
      exact next h.gam av_un (Keep.refl _ _) hs'
  · cases hrun

theorem any_sound (hL : LayOk P E.lay) (hC : ConsOk P E.cons) (hK : Kont C k r (fun a w => Q .normal a w)) : ∀ (fuel : Nat) (rest : List (Nat × List Nat)) {listed : Array Bool} {pre : List Nat} {op : List (Nat × List Nat)} {Pd : List Nat} {s : St} {X : Nat → Prop} {bt : Nat → Option Value} {a : Act} {w : World},
    Inv C E ops k r listed pre rest op Pd s X bt a w → rest.length + Pd.length ≤ fuel → wpAny P .any ops Q fuel listed a w := by
  intro fuel
  induction fuel with
  | zero =>
    intro rest listed pre op Pd s X bt a w h hf
    have h1 : rest = [] := List.length_eq_zero_iff.1 (by omega)
    have h2 : Pd = [] := List.length_eq_zero_iff.1 (by omega)
    subst h1; subst h2
    refine ⟨?_, hK s bt a w (h.gam.weaken fun t ht => ?_) h.defers h.run⟩
    · cases hr : Region.ready .any ops listed with
      | nil => rfl
      | cons j l =>
        have hj : j ∈ Region.ready .any ops listed := by rw [hr]; exact List.mem_cons_self ..
        obtain ⟨hu, o, ho, _⟩ := mem_ready.1 hj
        rcases h.all j (Array.getElem?_eq_some_iff.1 ho).1 with h1 | ⟨p, hp, _⟩ | h1
        · exact absurd h1 (not_both hu)
        · cases hp
        · cases h1
    · obtain ⟨q, hq, _⟩ := h.hx t ht; cases hq
  | succ fuel ih =>
    intro rest
    have core : ∀ {rest : List (Nat × List Nat)} {listed : Array Bool} {pre : List Nat} {op : List (Nat × List Nat)} {Pd : List Nat} {s : St} {X : Nat → Prop} {bt : Nat → Option Value} {a : Act} {w : World},
        Inv C E ops k r listed pre rest op Pd s X bt a w → rest.length + Pd.length ≤ fuel + 1 → (∀ i A l, rest = (i, A) :: l → ∃ o, ops[i]? = some o ∧ early o = false) → wpAny P .any ops Q (fuel + 1) listed a w := by
      intro rest listed pre op Pd s X bt a w h hf hlate
      refine ⟨fun hr => ?_, fun i hi => ?_⟩
      · have hpre := stuck_pre h.size hr h.preOk
        have hPd : Pd = [] := by
          cases hPd : Pd with
          | nil => rfl
          | cons q l =>
            have hq : q ∈ Pd := by rw [hPd]; exact List.mem_cons_self ..
            exact absurd (hpre q (h.pdPre q hq)) (not_both (h.unP q hq))
        have hrest : rest = [] := by
          cases hrest : rest with
          | nil => rfl
          | cons p l =>
            obtain ⟨i, A⟩ := p
            subst hrest
            obtain ⟨o, ho, hh⟩ := planOk_head h.plan
            have : i ∈ Region.ready .any ops listed := mem_ready.2 ⟨h.unR _ (List.mem_cons_self ..), o, ho, fun e he hb => hpre _ (hh.preds e he hb)⟩
            rw [hr] at this; cases this
        subst hrest
        refine hK s bt a w (h.gam.weaken fun t ht => ?_) h.defers h.run
        obtain ⟨q, hq, _⟩ := h.hx t ht; rw [hPd] at hq; cases hq
      · obtain ⟨hu, o, ho, hp⟩ := mem_ready.1 hi
        by_cases hin : i ∈ Pd
        · refine h.pend hL hC hin hi fun X' bt' a' w' h' => ih _ h' ?_
          have := List.length_erase_of_mem hin
          have := List.length_pos_of_mem hin
          omega
        · rcases h.all i (Array.getElem?_eq_some_iff.1 ho).1 with h1 | ⟨p, hpm, rfl⟩ | h1
          · exact absurd h1 (not_both hu)
          · cases hrest : rest with
            | nil => rw [hrest] at hpm; cases hpm
            | cons p0 l =>
              obtain ⟨j, A⟩ := p0
              subst hrest
              obtain ⟨oj, hoj, hel⟩ := hlate j A l rfl
              obtain ⟨oj2, hoj2, hh⟩ := planOk_head h.plan
              rw [hoj] at hoj2; cases hoj2
              have hpj : p = (j, A) := by
                rcases List.mem_cons.1 hpm with h1 | h1
                · exact h1
                · exfalso
                  obtain ⟨o', ho', e, he, hb, hon⟩ := hh.forced hel p h1
                  rw [ho] at ho'; cases ho'
                  have hl := hp e he hb
                  rcases hon with h2 | ⟨q, hq, h2⟩
                  · rw [h2] at hl; exact not_both (h.unR (j, A) (List.mem_cons_self ..)) hl
                  · rw [h2] at hl; exact not_both (h.unR q (List.mem_cons_of_mem _ hq)) hl
              subst hpj
              refine h.late hL hC hoj hel hi fun op' s' X' bt' a' w' h' => ih _ h' ?_
              simp only [List.length_cons] at hf; omega
          · exact absurd h1 hin
    induction rest with
    | nil => intro listed pre op Pd s X bt a w h hf; exact core h hf fun i A l e => by cases e
    | cons p rest ihr =>
      intro listed pre op Pd s X bt a w h hf
      obtain ⟨i, A⟩ := p
      obtain ⟨o, ho, hh⟩ := planOk_head h.plan
      cases he : early o with
      | true =>
        obtain ⟨op', s', X', h'⟩ := h.ahead ho he
        refine ihr h' ?_
        simp only [List.length_cons] at hf ⊢; omega
      | false =>
        refine core h hf fun j B l e => ?_
        cases e; exact ⟨o, ho, he⟩

theorem planOk_get : ∀ {rest : List (Nat × List Nat)} {pre : List Nat}, planOk ops pre rest = true → ∀ p ∈ rest, p.1 < ops.size
  | (i, A) :: rest, pre, h, p, hp => by
    obtain ⟨o, ho, hh⟩ := planOk_head h
    rcases List.mem_cons.1 hp with rfl | hp
    · exact (Array.getElem?_eq_some_iff.1 ho).1
    · exact planOk_get hh.tail p hp

theorem not_li {n j : Nat} : ¬ Li (Array.replicate n false) j := by
  unfold Li
  rcases Nat.lt_or_ge j n with h | h
  · simp [Array.getD, h]
  · simp [Array.getD, Nat.not_lt.2 h]
theorem un_new {n j : Nat} (h : j < n) : Un (Array.replicate n false) j := by
  unfold Un; simp [Array.getD, h]

/-- A region that draws its order. -/
theorem draw_sound (hL : LayOk P E.lay) (hC : ConsOk P E.cons) (hm : P.follows .mixedOrders = true) {plan : List (Nat × List Nat)} (hp : fullPlan ops plan = true) (g : Gam C s NoX bt a.tmps w) (hd : a.defers = [])
    (h : runD E ops.toList plan [] s k = some r) (hK : Kont C k r (fun a w => Q .normal a w)) (id : Nat) : (Code.region id ops true).wp P Q a w := by
  unfold fullPlan at hp
  simp only [Bool.and_eq_true] at hp
  obtain ⟨h1, h2, h3⟩ := hp
  have hinv : Inv C E ops k r (Array.replicate ops.size false) [] plan [] [] s NoX bt a { w with drawn := w.drawn + 1 } := by
    refine ⟨?_, hd, fun t ht => ht.elim, by simp, fun j hj => ?_, fun p hp => un_new (planOk_get h1 p hp), fun q hq => ?_, fun q hq => ?_, List.nodup_nil, fun q hq => ?_, fun j o ho hl => absurd hl not_li, trivial, h1, h⟩
    · exact g.grown ⟨rfl, rfl, rfl, Nat.le_refl _, fun _ _ => rfl⟩
    · obtain ⟨p, hp, he⟩ := List.any_eq_true.1 (List.all_eq_true.1 h3 j (List.mem_range.2 hj))
      exact .inr (.inl ⟨p, hp, (Nat.eq_of_beq_eq_true he).symm⟩)
    · cases hq
    · cases hq
    · cases hq
  exact wp_region_any hm (any_sound hL hC hK ops.size plan hinv (by simpa using Nat.le_of_ble_eq_true h2))
end
end Go.Di
