/-
  Own work. How the description of a machine state is carried from step to step.
-/
import Derived.Test.YtalnijffcoppkaaDiWorld
open Go.RowKit (Below)
namespace Go.Di

theorem look_cons (n m : Nat) (e : Ent) (r : List (Nat × Ent)) : look n ((m, e) :: r) = if n = m then some e else look n r := by
  by_cases h : n = m
  · subst h; simp [look]
  · have : Nat.beq n m = false := by rw [Bool.eq_false_iff]; simpa using h
    rw [if_neg h]; simp [look, this]

theorem look_put (n m : Nat) (e : Ent) : ∀ es, look m (put n e es) = if m = n then some e else look m es
  | [] => by simp [put, look_cons, look]
  | (k, f) :: r => by
    unfold put
    split
    · rename_i h; have hk : n = k := by simpa using h
      subst hk; simp only [look_cons]; split <;> rfl
    · split
      · simp only [look_cons]
      · rename_i h _ _; simp only [look_cons, look_put n m e r]
        have hk : n ≠ k := by intro hk; subst hk; simp at h
        by_cases h1 : m = k <;> by_cases h2 : m = n <;> simp_all

theorem look_drop (n m : Nat) : ∀ es, look m (drop n es) = if m = n then none else look m es
  | [] => by simp [drop, look]
  | (k, f) :: r => by
    unfold drop
    split
    · rename_i h; have hk : n = k := by simpa using h
      subst hk; rw [look_drop n m r, look_cons]; split <;> simp_all
    · rename_i h; have hk : n ≠ k := by intro hk; subst hk; simp at h
      simp only [look_cons, look_drop n m r]
      by_cases h1 : m = k <;> by_cases h2 : m = n <;> simp_all

theorem look_killN (n m : Nat) : ∀ es, look m (killN n es) = (look m es).map (Ent.kill n)
  | [] => rfl
  | (k, f) :: r => by simp only [killN, look_cons, look_killN n m r]; split <;> rfl

theorem look_free (n m : Nat) (s : St) : look m (s.free n).ents = if m = n then none else (look m s.ents).map (Ent.kill n) := by
  simp only [St.free, look_killN, look_drop]; split <;> rfl

def frz : Ent → Ent
  | .arr _ t xs => .arr true t xs
  | e => e
theorem look_freeze1 (n m : Nat) : ∀ es, look m (freeze1 n es) = if m = n then (look m es).map frz else look m es
  | [] => by simp [freeze1, look]
  | (k, f) :: r => by
    unfold freeze1
    split
    · rename_i h; have hk : n = k := by simpa using h
      subst hk
      split <;> simp only [look_cons, look_freeze1 n m r] <;> split <;> simp_all [frz]
    · rename_i h; have hk : n ≠ k := by intro hk; subst hk; simp at h
      simp only [look_cons, look_freeze1 n m r]
      by_cases h1 : m = k <;> by_cases h2 : m = n <;> simp_all

theorem kill_refs (n : Nat) (a : A1) : (a.kill n).refs (· ≠ n) := by
  cases a <;> simp only [A1.kill] <;> (try split) <;> simp_all [A1.refs] <;> (rename_i h; intro hh; subst hh; simp at h)
theorem killL_refs (n : Nat) : ∀ l, L1refs (· ≠ n) (killL n l)
  | [] => by intro a h; cases h
  | a :: l => by
    intro b hb
    cases hb with
    | head => exact kill_refs n a
    | tail _ h => exact killL_refs n l b h
theorem kill_av_refs (n : Nat) (a : AV) : (a.kill n).refs (· ≠ n) := by
  cases a with
  | v g l => exact killL_refs n l
  | tup ps =>
    simp only [AV.kill, AV.refs]
    induction ps with
    | nil => intro p hp; cases hp
    | cons q r ih =>
      intro p hp
      cases hp with
      | head => exact killL_refs n q.2
      | tail _ h => exact ih p h

theorem A1Ok.kill {x : Cx} (n : Nat) {a : A1} {v : Value} (h : A1Ok x a v) : A1Ok x (a.kill n) v := by
  cases a <;> simp only [A1.kill] <;> (try split) <;> first | exact h | trivial
theorem L1Ok.kill {x : Cx} (n : Nat) : ∀ {l : List A1} {vs : List Value}, L1Ok x l vs → L1Ok x (killL n l) vs
  | [], [], _ => trivial
  | a :: l, v :: vs, ⟨h1, h2, h3⟩ => ⟨h1.kill n, h2, L1Ok.kill n h3⟩
  | [], _ :: _, h => h.elim
  | _ :: _, [], h => h.elim
theorem VOk.kill {x : Cx} (n : Nat) {g : Bool} {l : List A1} {v : Value} (h : VOk x g l v) : VOk x g (killL n l) v := by
  cases g with
  | true => obtain ⟨vs, h1, h2⟩ := h; exact ⟨vs, h1, h2.kill n⟩
  | false =>
    obtain ⟨a, h1, h2, h3⟩ := h; subst h1
    refine ⟨a.kill n, rfl, h2.kill n, ?_⟩
    rcases h3 with h3 | h3
    · subst h3; exact .inl rfl
    · exact .inr h3
theorem PsOk.kill {x : Cx} (n : Nat) : ∀ {l : List (Bool × List A1)} {vs : List Value}, PsOk x l vs → PsOk x (killP n l) vs
  | [], [], _ => trivial
  | (g, p) :: l, v :: vs, ⟨h1, h2⟩ => ⟨VOk.kill n h1, PsOk.kill n h2⟩
  | [], _ :: _, h => h.elim
  | _ :: _, [], h => h.elim
theorem AVOk.kill {x : Cx} (n : Nat) {a : AV} {v : Value} (h : AVOk x a v) : AVOk x (a.kill n) v := by
  cases a with
  | v g l => exact VOk.kill n h
  | tup ps => obtain ⟨vs, h1, h2⟩ := h; exact ⟨vs, h1, h2.kill n⟩

def Ent.refs (ok : Nat → Prop) : Ent → Prop
  | .box l => L1refs ok l
  | _ => True

theorem EntOk.le {x y : Cx} {ok : Nat → Prop} (h : Le x y ok) {e : Ent} {v : Value} (hr : e.refs ok) (hb : ∀ b ∈ topOf v, e.mut = true → y.w.heap[b]? = x.w.heap[b]?)
    (he : EntOk x e v) : EntOk y e v := by
  cases e with
  | box l =>
    obtain ⟨b, vs, T, h1, h2, h3⟩ := he
    exact ⟨b, vs, T, h1, by rw [hb b (by subst h1; simp [topOf]) rfl]; exact h2, h.l1 hr h3⟩
  | arr fr t xs =>
    cases fr with
    | true => exact h.rd he
    | false =>
      rcases he with h0 | ⟨g, cap, cur, T, h1, h2, h3, h4, h5, h6, h7⟩
      · exact .inl h0
      · refine .inr ⟨g, cap, cur, T, h1, h2, h3, h4, ?_, h6, fun i c hc => ?_⟩
        · rw [hb g (by subst h1; cases cap with | zero => omega | succ k => simp [topOf]) rfl]; exact h5
        · obtain ⟨u, hu, hd⟩ := h7 i c hc; exact ⟨u, hu, h.rd hd⟩

theorem EntOk.kill {x : Cx} (n : Nat) {e : Ent} {v : Value} (h : EntOk x e v) : EntOk x (e.kill n) v := by
  cases e with
  | box l => obtain ⟨b, vs, T, h1, h2, h3⟩ := h; exact ⟨b, vs, T, h1, h2, h3.kill n⟩
  | arr fr t xs => exact h
theorem ent_kill_refs (n : Nat) (e : Ent) : (e.kill n).refs (· ≠ n) := by
  cases e with
  | box l => exact killL_refs n l
  | arr fr t xs => trivial
theorem ent_kill_mut (n : Nat) (e : Ent) : (e.kill n).mut = e.mut := by cases e <;> rfl

theorem length_killE (n : Nat) : ∀ l : List AV, (killE n l).length = l.length
  | [] => rfl
  | a :: l => by simp [killE, length_killE n l]
theorem get_killE (n t : Nat) : ∀ l : List AV, (killE n l)[t]? = (l[t]?).map (AV.kill n)
  | [] => by simp [killE]
  | a :: l => by cases t with
    | zero => simp [killE]
    | succ t => simpa [killE] using get_killE n t l

section
variable {C : Bs} {w w' : World} {s : St} {X : Nat → Prop} {β : Nat → Option Value} {tm : Array Value}

theorem Gam.topOld (g : Gam C s X β tm w) {b : Nat} (h : Top (cx C s β w).lk β b) : b < w.heap.size := (g.fresh b h).2

/-- The world has grown: nothing that was there has turned. -/
theorem Le.grown (g : Gam C s X β tm w) (hb : Below w.heap.size w w') : Le (cx C s β w) (cx C s β w') fun _ => True :=
  ⟨fun _ h => h, fun b hlt _ => hb.block b hlt, hb.size, fun _ _ h => h, fun n _ => .inr ⟨rfl, .inl rfl⟩⟩

theorem Gam.grown (g : Gam C s X β tm w) (hb : Below w.heap.size w w') : Gam C s X β tm w' where
  len := g.len
  env t av hx h := (Le.grown g hb).av (refs_true av) (g.env t av hx h)
  ents n e v h1 h2 := EntOk.le (Le.grown g hb) (by cases e <;> first | exact L1refs_true _ | trivial)
    (fun b hb' hm => hb.block b (g.fresh b ⟨n, e, v, h1, hm, h2, hb'⟩).2) (g.ents n e v h1 h2)
  uniq := g.uniq
  fresh b h := ⟨(g.fresh b h).1, Nat.lt_of_lt_of_le (g.fresh b h).2 hb.size⟩
  b0 := Nat.le_trans g.b0 hb.size
  below := g.below.trans (hb.mono g.b0)

/-- A temporary is written. -/
theorem Gam.set (g : Gam C s X β tm w) {t : Nat} {a : AV} {v : Value} (ha : AVOk (cx C s β w) a v) :
    Gam C (s.set t a) (fun u => X u ∧ u ≠ t) β (tm.setIfInBounds t v) w where
  len := by simp [St.set, g.len]
  env u av hx h := by
    simp only [St.set, List.getElem?_set] at h
    by_cases hu : t = u
    · subst hu
      by_cases hl : t < s.env.length
      · simp [hl] at h; subst h
        have : t < tm.size := by rw [← g.len]; exact hl
        show AVOk (cx C s β w) a _
        simpa [Array.getD_eq_getD_getElem?, this] using ha
      · simp [hl] at h
    · simp only [hu, if_false] at h
      have := g.env u av (fun hX => hx ⟨hX, fun e => hu e.symm⟩) h
      show AVOk (cx C s β w) av _
      simpa [Array.getD_eq_getD_getElem?, Array.getElem?_setIfInBounds_ne hu] using this
  ents := g.ents
  uniq := g.uniq
  fresh := g.fresh
  b0 := g.b0
  below := g.below

theorem Gam.weaken (g : Gam C s X β tm w) {Y : Nat → Prop} (h : ∀ t, X t → Y t) : Gam C s Y β tm w :=
  { g with env := fun t av hy ha => g.env t av (fun hx => hy (h t hx)) ha }

theorem Gam.setTrue (g : Gam C s X β tm w) {t : Nat} {a : AV} {v : Value} (ha : AVOk (cx C s β w) a v) :
    Gam C (s.set t a) X β (tm.setIfInBounds t v) w := g.set ha |>.weaken fun _ h => h.1

theorem top_free {n b : Nat} (h : Top (fun m => look m (s.free n).ents) β b) : Top (fun m => look m s.ents) β b := by
  obtain ⟨m, e, v, h1, h2, h3, h4⟩ := h
  simp only [look_free] at h1
  split at h1
  · cases h1
  · cases hm : look m s.ents with
    | none => simp [hm] at h1
    | some f => simp [hm] at h1; subst h1; exact ⟨m, f, v, hm, by rwa [ent_kill_mut] at h2, h3, h4⟩

theorem le_free (n : Nat) : Le (cx C s β w) (cx C (s.free n) β w) (· ≠ n) where
  hav _ h := h
  heap _ _ _ := rfl
  size := Nat.le_refl _
  top _ _ h := top_free h
  look m hm := by
    simp only [cx, look_free, if_neg hm]
    cases hl : look m s.ents with
    | none => left; simp
    | some e =>
      right
      refine ⟨trivial, ?_⟩
      cases e with
      | box l => right; left; exact ⟨l, killL n l, by simp, by simp [Ent.kill]⟩
      | arr fr t xs => left; simp [Ent.kill]

/-- A name is free again. -/
theorem Gam.free (g : Gam C s X β tm w) (n : Nat) : Gam C (s.free n) X β tm w where
  len := by simp [St.free, length_killE, g.len]
  env t av hx h := by
    simp only [St.free, get_killE] at h
    cases ht : s.env[t]? with
    | none => simp [ht] at h
    | some a =>
      simp [ht] at h; subst h
      exact (le_free n).av (kill_av_refs n a) ((g.env t a hx ht).kill n)
  ents m e v h1 h2 := by
    simp only [look_free] at h1
    split at h1
    · cases h1
    · cases hm : look m s.ents with
      | none => simp [hm] at h1
      | some f =>
        simp [hm] at h1; subst h1
        exact EntOk.le (le_free n) (ent_kill_refs n f) (fun _ _ _ => rfl) ((g.ents m f v hm h2).kill n)
  uniq k m e f u v b h1 h2 h3 h4 h5 h6 h7 h8 := by
    simp only [look_free] at h1 h2
    split at h1 <;> split at h2 <;> try (first | cases h1 | cases h2)
    cases hk : look k s.ents with
    | none => simp [hk] at h1
    | some e' =>
      cases hm : look m s.ents with
      | none => simp [hm] at h2
      | some f' =>
        simp [hk] at h1; simp [hm] at h2; subst h1; subst h2
        exact g.uniq k m e' f' u v b hk hm (by rwa [ent_kill_mut] at h3) (by rwa [ent_kill_mut] at h4) h5 h6 h7 h8
  fresh b h := g.fresh b (top_free h)
  b0 := g.b0
  below := g.below
end
end Go.Di
