/-
  Own work. Whatever order a region draws, the planned run tells what comes out.
-/
import Derived.Test.YtalnijffcoppkaaDiDraw4
open Go.RowKit (Below)
namespace Go.Di

section
variable {P : Program} {C : Bs} {w w' : World} {s s' s1 : St} {X : Nat → Prop} {bt : Nat → Option Value} {a : Act} {o : Oper} {tm : Array Value} {β : Type}
  {K : Act → World → Prop} {Q : Exit → Act → World → Prop} {E : Env} {k : St → Option β} {r : β} {ops : Array Oper} {N : List Nat} {T : Nat → Prop}

/-! ### Ticks -/
def Un (listed : Array Bool) (j : Nat) : Prop := listed.getD j true = false
def Li (listed : Array Bool) (j : Nat) : Prop := listed.getD j false = true

theorem not_both {l : Array Bool} {j : Nat} (h : Un l j) : ¬ Li l j := by
  unfold Un Li at *
  intro h'
  rcases Nat.lt_or_ge j l.size with hl | hl
  · simp [Array.getD, hl] at h h'; rw [h] at h'; cases h'
  · simp [Array.getD, Nat.not_lt.2 hl] at h
theorem un_lt {l : Array Bool} {j : Nat} (h : Un l j) : j < l.size := by
  unfold Un at h
  rcases Nat.lt_or_ge j l.size with hl | hl
  · exact hl
  · simp [Array.getD, Nat.not_lt.2 hl] at h
theorem li_of_not {l : Array Bool} {j : Nat} (hl : j < l.size) (h : ¬ Un l j) : Li l j := by
  unfold Un Li at *
  simp [Array.getD, hl] at h ⊢; exact h
theorem li_set {l : Array Bool} {i j : Nat} (h : Li l j) : Li (l.setIfInBounds i true) j := getD_set_true h
theorem li_self {l : Array Bool} {i : Nat} (h : i < l.size) : Li (l.setIfInBounds i true) i := by
  unfold Li; simp [Array.getD, h]
theorem un_set {l : Array Bool} {i j : Nat} (h : Un l j) (hne : i ≠ j) : Un (l.setIfInBounds i true) j := by
  unfold Un at *; rw [getD_set_ne true hne]; exact h
theorem li_set_inv {l : Array Bool} {i j : Nat} (h : Li (l.setIfInBounds i true) j) : Li l j ∨ j = i := by
  by_cases e : i = j
  · exact .inr e.symm
  · unfold Li at *; rw [getD_set_ne false e] at h; exact .inl h

/-! ### What the check of a plan says -/
theorem predsIn_ok {pre : List Nat} (h : predsIn o pre = true) : ∀ e ∈ o.after, Region.binds .any e = true → e.on ∈ pre := by
  intro e he hb
  have := Array.all_eq_true_iff_forall_mem.1 h e he
  simp only [hb, Bool.not_true, Bool.false_or] at this
  exact memN_iff.1 this
theorem bindsOn_ok {j : Nat} (h : bindsOn o j = true) : ∃ e ∈ o.after, Region.binds .any e = true ∧ e.on = j := by
  obtain ⟨e, he, hb⟩ := Array.any_eq_true'.1 h
  simp only [Bool.and_eq_true] at hb
  exact ⟨e, he, hb.1, Nat.eq_of_beq_eq_true hb.2⟩

structure HeadOk (ops : Array Oper) (pre : List Nat) (i : Nat) (A : List Nat) (rest : List (Nat × List Nat)) (o : Oper) : Prop where
  preds : ∀ e ∈ o.after, Region.binds .any e = true → e.on ∈ pre
  nin : i ∉ pre
  ear : early o = true → earlyOk ops i o = true
  forced : early o = false → ∀ p ∈ rest, ∃ o', ops[p.1]? = some o' ∧ ∃ e ∈ o'.after, Region.binds .any e = true ∧ (e.on = i ∨ ∃ q ∈ rest, e.on = q.1)
  anc : early o = false → ancOk ops o A [] = true
  slots : early o = false → ∀ q ∈ pre, q ∈ A ∨ ∀ oq, ops[q]? = some oq → early oq = true → ∀ d, o.dst = some d → d ∉ oq.looksAt ops ∧ oq.dst ≠ some d
  tail : planOk ops (i :: pre) rest = true

theorem planOk_head {pre : List Nat} {i : Nat} {A : List Nat} {rest : List (Nat × List Nat)} (h : planOk ops pre ((i, A) :: rest) = true) : ∃ o, ops[i]? = some o ∧ HeadOk ops pre i A rest o := by
  unfold planOk at h
  cases ho : ops[i]? with
  | none => rw [ho] at h; cases h
  | some o =>
    rw [ho] at h
    simp only [Bool.and_eq_true, Bool.not_eq_true'] at h
    obtain ⟨⟨⟨h1, h2⟩, h3⟩, h4⟩ := h
    refine ⟨o, rfl, predsIn_ok h1, fun hm => (by rw [memN_iff.2 hm] at h2; cases h2), fun he => (by rw [he] at h3; exact h3), fun he p hp => ?_, fun he => ?_, fun he q hq => ?_, h4⟩
    · rw [he] at h3
      simp only [Bool.and_eq_true] at h3
      have := List.all_eq_true.1 h3.1.1 p hp
      cases hop : ops[p.1]? with
      | none => rw [hop] at this; cases this
      | some o' =>
        rw [hop] at this
        obtain ⟨e, he', hb⟩ := Array.any_eq_true'.1 this
        simp only [Bool.and_eq_true, Bool.or_eq_true] at hb
        refine ⟨o', rfl, e, he', hb.1, ?_⟩
        rcases hb.2 with h | h
        · exact .inl (Nat.eq_of_beq_eq_true h)
        · obtain ⟨q, hq, hqe⟩ := List.any_eq_true.1 h
          exact .inr ⟨q, hq, Nat.eq_of_beq_eq_true hqe⟩
    · rw [he] at h3
      simp only [Bool.and_eq_true] at h3
      exact h3.1.2
    · rw [he] at h3
      simp only [Bool.and_eq_true] at h3
      have := List.all_eq_true.1 h3.2 q hq
      simp only [Bool.or_eq_true] at this
      rcases this with h | h
      · exact .inl (memN_iff.1 h)
      · refine .inr fun oq hoq heq d hd => ?_
        rw [hoq] at h
        simp only [heq, Bool.not_true, Bool.false_eq_true, false_or, hd, Bool.or_eq_true] at h
        unfold apartOf at h
        simp only [Bool.and_eq_true, Bool.not_eq_true'] at h
        refine ⟨fun hm => (by rw [memN_iff.2 hm] at h; cases h.1), fun he => ?_⟩
        rw [he] at h
        simp at h

theorem planOk_nin : ∀ {rest : List (Nat × List Nat)} {pre : List Nat}, planOk ops pre rest = true → ∀ p ∈ rest, p.1 ∉ pre
  | (i, A) :: rest, pre, h, p, hp => by
    obtain ⟨o, ho, hh⟩ := planOk_head h
    rcases List.mem_cons.1 hp with rfl | hp
    · exact hh.nin
    · intro hm
      exact planOk_nin hh.tail p hp (List.mem_cons_of_mem _ hm)

def PreOk (ops : Array Oper) : List Nat → Prop
  | [] => True
  | i :: pre => (∃ o, ops[i]? = some o ∧ ∀ e ∈ o.after, Region.binds .any e = true → e.on ∈ pre) ∧ PreOk ops pre

theorem preOk_preds : ∀ {pre : List Nat}, PreOk ops pre → ∀ q ∈ pre, ∃ o, ops[q]? = some o ∧ ∀ e ∈ o.after, Region.binds .any e = true → e.on ∈ pre
  | i :: pre, h, q, hq => by
    rcases List.mem_cons.1 hq with rfl | hq
    · obtain ⟨o, ho, hp⟩ := h.1
      exact ⟨o, ho, fun e he hb => List.mem_cons_of_mem _ (hp e he hb)⟩
    · obtain ⟨o, ho, hp⟩ := preOk_preds h.2 q hq
      exact ⟨o, ho, fun e he hb => List.mem_cons_of_mem _ (hp e he hb)⟩

theorem stuck_pre {listed : Array Bool} (hs : listed.size = ops.size) (hr : Region.ready .any ops listed = []) : ∀ {pre : List Nat}, PreOk ops pre → ∀ q ∈ pre, Li listed q
  | i :: pre, h, q, hq => by
    rcases List.mem_cons.1 hq with rfl | hq
    · obtain ⟨o, ho, hp⟩ := h.1
      have hlt : q < listed.size := by rw [hs]; exact (Array.getElem?_eq_some_iff.1 ho).1
      refine li_of_not hlt fun hu => ?_
      have : q ∈ Region.ready .any ops listed := mem_ready.2 ⟨hu, o, ho, fun e he hb => stuck_pre hs hr h.2 _ (hp e he hb)⟩
      rw [hr] at this; cases this
    · exact stuck_pre hs hr h.2 q hq

/-- Who stands before a ready operation is done. -/
theorem anc_listed {listed : Array Bool} (hc : ∀ j o, ops[j]? = some o → Li listed j → ∀ e ∈ o.after, Region.binds .any e = true → Li listed e.on)
    (ho : ∀ e ∈ o.after, Region.binds .any e = true → Li listed e.on) : ∀ {A known : List Nat}, ancOk ops o A known = true → (∀ q ∈ known, Li listed q) → ∀ q ∈ A, Li listed q
  | b :: A, known, h, hk, q, hq => by
    unfold ancOk at h
    simp only [Bool.and_eq_true, Bool.or_eq_true] at h
    have hb : Li listed b := by
      rcases h.1 with h1 | h1
      · obtain ⟨e, he, hb, rfl⟩ := bindsOn_ok h1
        exact ho e he hb
      · obtain ⟨m, hm, h2⟩ := List.any_eq_true.1 h1
        cases hom : ops[m]? with
        | none => rw [hom] at h2; cases h2
        | some om =>
          rw [hom] at h2
          obtain ⟨e, he, hb, rfl⟩ := bindsOn_ok h2
          exact hc m om hom (hk m hm) e he hb
    rcases List.mem_cons.1 hq with rfl | hq
    · exact hb
    · exact anc_listed hc ho h.2 (fun q hq => (by rcases List.mem_cons.1 hq with rfl | hq; exact hb; exact hk q hq)) q hq

theorem earlyOk_dst {i : Nat} (h : earlyOk ops i o = true) {d : Nat} (hd : o.dst = some d) : d ∉ o.looksAt ops ∧ ∀ j oj, ops[j]? = some oj → j ≠ i → oj.dst ≠ some d ∧ (d ∈ oj.looksAt ops → bindsOn oj i = true) := by
  unfold earlyOk at h
  rw [hd] at h
  simp only [Bool.and_eq_true, Bool.not_eq_true'] at h
  refine ⟨fun hm => (by rw [memN_iff.2 hm] at h; cases h.1), fun j oj hj hne => ?_⟩
  have := List.all_eq_true.1 h.2 j (List.mem_range.2 (Array.getElem?_eq_some_iff.1 hj).1)
  rw [hj] at this
  simp only [Bool.or_eq_true, Bool.and_eq_true, Bool.not_eq_true'] at this
  rcases this with h1 | ⟨h1, h2⟩
  · exact absurd (Nat.eq_of_beq_eq_true h1) hne
  · refine ⟨fun he => (by rw [he] at h1; simp at h1), fun hm => ?_⟩
    rcases h2 with h2 | h2
    · rw [memN_iff.2 hm] at h2; cases h2
    · exact h2

theorem early_pure (h : early o = true) : pureOp o = true := by
  unfold early at h
  split at h
  · cases h
  · simp only [Bool.and_eq_true] at h; exact h.2
theorem early_wf (h : early o = true) : opWf o = true := by
  unfold early at h
  split at h
  · cases h
  · simp only [Bool.and_eq_true] at h; exact h.1

/-! ### The walk through any order -/
structure Inv (C : Bs) (E : Env) (ops : Array Oper) (k : St → Option β) (r : β) (listed : Array Bool) (pre : List Nat) (rest op : List (Nat × List Nat)) (Pd : List Nat) (s : St) (X : Nat → Prop) (bt : Nat → Option Value) (a : Act) (w : World) : Prop where
  gam : Gam C s X bt a.tmps w
  defers : a.defers = []
  hx : ∀ t, X t → ∃ q ∈ Pd, ∃ o, ops[q]? = some o ∧ o.dst = some t
  size : listed.size = ops.size
  all : ∀ j, j < ops.size → Li listed j ∨ (∃ p ∈ rest, p.1 = j) ∨ j ∈ Pd
  unR : ∀ p ∈ rest, Un listed p.1
  unP : ∀ q ∈ Pd, Un listed q
  pdPre : ∀ q ∈ Pd, q ∈ pre
  pdNodup : Pd.Nodup
  stab : ∀ q ∈ Pd, ∃ o N, ops[q]? = some o ∧ (q, N) ∈ op ∧ early o = true ∧ earlyOk ops q o = true ∧ Stable E ops.toList o s N
  closed : ∀ j o, ops[j]? = some o → Li listed j → ∀ e ∈ o.after, Region.binds .any e = true → Li listed e.on
  preOk : PreOk ops pre
  plan : planOk ops pre rest = true
  run : runD E ops.toList rest op s k = some r

/-- An early operation is taken by the run; the machine may yet wait. -/
theorem Inv.ahead {listed : Array Bool} {pre : List Nat} {rest op : List (Nat × List Nat)} {Pd A : List Nat} {i : Nat} (h : Inv C E ops k r listed pre ((i, A) :: rest) op Pd s X bt a w)
    (ho : ops[i]? = some o) (he : early o = true) : ∃ op' s' X', Inv C E ops k r listed (i :: pre) rest op' (i :: Pd) s' X' bt a w := by
  obtain ⟨o2, ho2, hh⟩ := planOk_head h.plan
  rw [ho] at ho2; cases ho2
  have hrun := h.run
  unfold runD at hrun
  rw [Array.getElem?_toList, ho] at hrun
  simp only [he] at hrun
  obtain ⟨s', hst, hk⟩ := runOp_stp hrun
  have hp := early_pure he
  have hE := hh.ear he
  have hwf : opWf o = true := early_wf he
  obtain ⟨⟨av, hs'⟩, hstab⟩ := hst.stable hp (fun d hd => (earlyOk_dst hE hd).1) hwf
  refine ⟨_, s', fun t => X t ∨ o.dst = some t, ?_, h.defers, fun t ht => ?_, h.size, fun j hj => ?_, fun p hp => h.unR p (List.mem_cons_of_mem _ hp), fun q hq => ?_, fun q hq => ?_, ?_, fun q hq => ?_, h.closed, ⟨⟨o, ho, hh.preds⟩, h.preOk⟩, hh.tail, hk⟩
  · rw [hs']
    cases hd : o.dst with
    | none => exact h.gam.weaken fun t ht => .inl ht
    | some d => exact (h.gam.park d av).weaken fun t ht => ht.imp id fun e => by rw [e]
  · rcases ht with ht | ht
    · obtain ⟨q, hq, x⟩ := h.hx t ht; exact ⟨q, List.mem_cons_of_mem _ hq, x⟩
    · exact ⟨i, List.mem_cons_self .., o, ho, ht⟩
  · rcases h.all j hj with h1 | ⟨p, hp, rfl⟩ | h1
    · exact .inl h1
    · rcases List.mem_cons.1 hp with rfl | hp
      · exact .inr (.inr (List.mem_cons_self ..))
      · exact .inr (.inl ⟨p, hp, rfl⟩)
    · exact .inr (.inr (List.mem_cons_of_mem _ h1))
  · rcases List.mem_cons.1 hq with rfl | hq
    · exact h.unR _ (List.mem_cons_self ..)
    · exact h.unP q hq
  · rcases List.mem_cons.1 hq with rfl | hq
    · exact List.mem_cons_self ..
    · exact List.mem_cons_of_mem _ (h.pdPre q hq)
  · exact List.nodup_cons.2 ⟨fun hm => hh.nin (h.pdPre i hm), h.pdNodup⟩
  · rcases List.mem_cons.1 hq with rfl | hq
    · exact ⟨o, _, ho, List.mem_cons_self .., he, hE, hstab⟩
    · obtain ⟨oq, M, h1, h2, h3, h4, h5⟩ := h.stab q hq
      refine ⟨oq, M, h1, List.mem_cons_of_mem _ h2, h3, h4, ?_⟩
      rw [hs']
      cases hd : o.dst with
      | none => exact h5
      | some d =>
        have hne : q ≠ i := fun e => hh.nin (e ▸ h.pdPre q hq)
        obtain ⟨h6, h7⟩ := (earlyOk_dst hE hd).2 q oq h1 hne
        refine h5.set (early_pure h3) (fun hm => ?_) h6
        obtain ⟨e, he', hb, heq⟩ := bindsOn_ok (h7 hm)
        obtain ⟨o3, ho3, hp3⟩ := preOk_preds h.preOk q (h.pdPre q hq)
        rw [h1] at ho3; cases ho3
        have := hp3 e he' hb
        rw [heq] at this
        exact hh.nin this
end
end Go.Di
