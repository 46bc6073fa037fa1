/-
  Own work. New entries, arrays that stay as they are from now on, stores, appends: how the description goes on.
-/
import Derived.Test.YtalnijffcoppkaaDiGam
open Go.RowKit (Below)
namespace Go.Di

/-- Nothing in the state refers to the name n. -/
def NoRef (n : Nat) (s : St) : Prop := (∀ (t : Nat) (av : AV), s.env[t]? = some av → av.refs (· ≠ n)) ∧ ∀ (m : Nat) (e : Ent), look m s.ents = some e → e.refs (· ≠ n)

theorem refs_kill {ok : Nat → Prop} (n : Nat) {a : A1} (h : a.refs ok) : (a.kill n).refs ok := by
  cases a <;> simp only [A1.kill] <;> (try split) <;> first | exact h | trivial
theorem refsL_kill {ok : Nat → Prop} (n : Nat) : ∀ {l : List A1}, L1refs ok l → L1refs ok (killL n l)
  | [], _ => by intro a h; cases h
  | a :: l, h => by
    intro b hb
    cases hb with
    | head => exact refs_kill n (h a (List.mem_cons_self ..))
    | tail _ hb => exact refsL_kill n (fun c hc => h c (List.mem_cons_of_mem _ hc)) b hb
theorem refs_av_kill {ok : Nat → Prop} (n : Nat) {a : AV} (h : a.refs ok) : (a.kill n).refs ok := by
  cases a with
  | v g l => exact refsL_kill n h
  | tup ps =>
    simp only [AV.kill, AV.refs] at *
    induction ps with
    | nil => intro p hp; cases hp
    | cons q r ih =>
      intro p hp
      cases hp with
      | head => exact refsL_kill n (h q (List.mem_cons_self ..))
      | tail _ hp => exact ih (fun x hx => h x (List.mem_cons_of_mem _ hx)) p hp
theorem refs_ent_kill {ok : Nat → Prop} (n : Nat) {e : Ent} (h : e.refs ok) : (e.kill n).refs ok := by
  cases e with
  | box l => exact refsL_kill n h
  | arr _ _ _ => trivial

theorem noRef_free (n : Nat) (s : St) : NoRef n (s.free n) ∧ look n (s.free n).ents = none := by
  refine ⟨⟨fun t av h => ?_, fun m e h => ?_⟩, by simp [look_free]⟩
  · simp only [St.free, get_killE] at h
    cases ht : s.env[t]? with
    | none => simp [ht] at h
    | some a => simp [ht] at h; subst h; exact kill_av_refs n a
  · simp only [look_free] at h
    split at h
    · cases h
    · cases hm : look m s.ents with
      | none => simp [hm] at h
      | some f => simp [hm] at h; subst h; exact ent_kill_refs n f
theorem NoRef.free {n : Nat} {s : St} (h : NoRef n s) (hl : look n s.ents = none) (m : Nat) : NoRef n (s.free m) ∧ look n (s.free m).ents = none := by
  refine ⟨⟨fun t av ha => ?_, fun k e ha => ?_⟩, by simp [look_free, hl]⟩
  · simp only [St.free, get_killE] at ha
    cases ht : s.env[t]? with
    | none => simp [ht] at ha
    | some a => simp [ht] at ha; subst ha; exact refs_av_kill m (h.1 t a ht)
  · simp only [look_free] at ha
    split at ha
    · cases ha
    · cases hm : look k s.ents with
      | none => simp [hm] at ha
      | some f => simp [hm] at ha; subst ha; exact refs_ent_kill m (h.2 k f hm)

def names (l : List (Nat × Ent)) : List Nat := l.map (·.1)

theorem freeL_keeps (n : Nat) : ∀ (l : List (Nat × Ent)) (s : St), NoRef n s → look n s.ents = none → NoRef n (St.freeL l s) ∧ look n (St.freeL l s).ents = none
  | [], s, h1, h2 => ⟨h1, h2⟩
  | (m, e) :: r, s, h1, h2 => by
    have := h1.free h2 m
    exact freeL_keeps n r (s.free m) this.1 this.2
theorem noRef_freeL : ∀ (l : List (Nat × Ent)) (s : St) (n : Nat), n ∈ names l → NoRef n (St.freeL l s) ∧ look n (St.freeL l s).ents = none
  | [], s, n, h => by cases h
  | (m, e) :: r, s, n, h => by
    simp only [names, List.map_cons, List.mem_cons] at h
    rcases h with rfl | h
    · have := noRef_free n s
      exact freeL_keeps n r (s.free n) this.1 this.2
    · exact noRef_freeL r (s.free m) n h

theorem look_putL_other (m : Nat) : ∀ (l es : List (Nat × Ent)), m ∉ names l → look m (putL l es) = look m es
  | [], es, _ => rfl
  | (n, e) :: r, es, h => by
    simp only [names, List.map_cons, List.mem_cons, not_or] at h
    simp only [putL]
    rw [look_putL_other m r _ h.2, look_put, if_neg h.1]
theorem look_putL_mem : ∀ (l es : List (Nat × Ent)) (n : Nat) (e : Ent), (names l).Nodup → (n, e) ∈ l → look n (putL l es) = some e
  | (m, f) :: r, es, n, e, hn, h => by
    simp only [names, List.map_cons, List.nodup_cons] at hn
    simp only [putL]
    rcases List.mem_cons.1 h with h | h
    · cases h; rw [look_putL_other _ r _ hn.1, look_put, if_pos rfl]
    · exact look_putL_mem r _ n e hn.2 h
theorem look_putL_inv (l es : List (Nat × Ent)) (n : Nat) (e : Ent) (hn : (names l).Nodup) (h : look n (putL l es) = some e) : (n, e) ∈ l ∨ (n ∉ names l ∧ look n es = some e) := by
  by_cases hm : n ∈ names l
  · left
    obtain ⟨p, hp, rfl⟩ := List.mem_map.1 hm
    rw [look_putL_mem l es p.1 p.2 hn hp] at h
    cases h; exact hp
  · exact .inr ⟨hm, by rwa [look_putL_other n l es hm] at h⟩

section
variable {C : Bs} {w w' : World} {s : St} {X : Nat → Prop} {β β' : Nat → Option Value} {tm : Array Value}

theorem Gam.freeL (g : Gam C s X β tm w) : ∀ l, Gam C (St.freeL l s) X β tm w := fun l => by
  induction l generalizing s with
  | nil => exact g
  | cons p r ih => exact ih (g.free p.1)

theorem ent_refs_ne {e : Ent} {l : List (Nat × Ent)} (h : ∀ k ∈ names l, e.refs (· ≠ k)) : e.refs (fun m => m ∉ names l) := by
  cases e with
  | arr _ _ _ => trivial
  | box c =>
    intro a ha
    have h1 : ∀ k ∈ names l, a.refs (· ≠ k) := fun k hk => h k hk a ha
    cases a <;> try trivial
    all_goals exact fun hm => h1 _ hm rfl
theorem av_refs_ne {a : AV} {l : List (Nat × Ent)} (h : ∀ k ∈ names l, a.refs (· ≠ k)) : a.refs (fun m => m ∉ names l) := by
  have one : ∀ c : A1, (∀ k ∈ names l, c.refs (· ≠ k)) → c.refs (fun m => m ∉ names l) := by
    intro c h1
    cases c <;> try trivial
    all_goals exact fun hm => h1 _ hm rfl
  cases a with
  | v g c => exact fun b hb => one b fun k hk => h k hk b hb
  | tup ps => exact fun p hp b hb => one b fun k hk => h k hk p hp b hb

/-- New entries in new blocks. -/
theorem Gam.putL (g : Gam C s X β tm w) (hb : Below w.heap.size w w') (l : List (Nat × Ent)) (hn : (names l).Nodup)
    (hno : ∀ n ∈ names l, NoRef n s ∧ look n s.ents = none) (hβ : ∀ m, m ∉ names l → β' m = β m)
    (hok : Le (cx C s β w) (cx C ⟨s.env, Go.Di.putL l s.ents⟩ β' w') (fun m => m ∉ names l) → ∀ n e, (n, e) ∈ l → ∀ v, β' n = some v → EntOk (cx C ⟨s.env, Go.Di.putL l s.ents⟩ β' w') e v)
    (htop : ∀ n e v b, (n, e) ∈ l → β' n = some v → b ∈ topOf v → e.mut = true → w.heap.size ≤ b ∧ b < w'.heap.size)
    (huniq : ∀ n m v u b, n ∈ names l → m ∈ names l → β' n = some v → β' m = some u → b ∈ topOf v → b ∈ topOf u → n = m) :
    Gam C ⟨s.env, Go.Di.putL l s.ents⟩ X β' tm w' := by
  have hle : Le (cx C s β w) (cx C ⟨s.env, Go.Di.putL l s.ents⟩ β' w') (fun m => m ∉ names l) := by
    refine ⟨fun _ h => h, fun b hlt _ => hb.block b hlt, hb.size, ?_, fun m hm => .inr ⟨hβ m hm, .inl (look_putL_other m l _ hm)⟩⟩
    rintro b hlt ⟨m, e, v, h1, h2, h3, h4⟩
    rcases look_putL_inv l _ m e hn h1 with h | ⟨hm, h⟩
    · have := (htop m e v b h h3 h4 h2).1; simp only [cx] at hlt; omega
    · exact ⟨m, e, v, h, h2, by show β m = some v; rw [← hβ m hm]; exact h3, h4⟩
  refine ⟨g.len, fun t av hx h => hle.av (av_refs_ne fun k hk => (hno k hk).1.1 t av h) (g.env t av hx h), fun n e v h1 h2 => ?_, ?_, ?_, Nat.le_trans g.b0 hb.size, g.below.trans (hb.mono g.b0)⟩
  · rcases look_putL_inv l _ n e hn h1 with h | ⟨hm, h⟩
    · exact hok hle n e h v h2
    · rw [hβ n hm] at h2
      exact EntOk.le hle (ent_refs_ne fun k hk => (hno k hk).1.2 n e h) (fun b hb' hm' => hb.block b (g.fresh b ⟨n, e, v, h, hm', h2, hb'⟩).2) (g.ents n e v h h2)
  · intro n m e f u v b h1 h2 h3 h4 h5 h6 h7 h8
    rcases look_putL_inv l _ n e hn h1 with h | ⟨hk, h⟩ <;> rcases look_putL_inv l _ m f hn h2 with h' | ⟨hk', h'⟩
    · exact huniq n m u v b (List.mem_map.2 ⟨_, h, rfl⟩) (List.mem_map.2 ⟨_, h', rfl⟩) h5 h6 h7 h8
    · have := (htop n e u b h h5 h7 h3).1
      rw [hβ m hk'] at h6
      have := (g.fresh b ⟨m, f, v, h', h4, h6, h8⟩).2
      omega
    · have := (htop m f v b h' h6 h8 h4).1
      rw [hβ n hk] at h5
      have := (g.fresh b ⟨n, e, u, h, h3, h5, h7⟩).2
      omega
    · rw [hβ n hk] at h5; rw [hβ m hk'] at h6
      exact g.uniq n m e f u v b h h' h3 h4 h5 h6 h7 h8
  · rintro b ⟨m, e, v, h1, h2, h3, h4⟩
    rcases look_putL_inv l _ m e hn h1 with h | ⟨hm, h⟩
    · have := htop m e v b h h3 h4 h2
      exact ⟨Nat.le_trans g.b0 this.1, this.2⟩
    · rw [hβ m hm] at h3
      have := g.fresh b ⟨m, e, v, h, h2, h3, h4⟩
      exact ⟨this.1, Nat.lt_of_lt_of_le this.2 hb.size⟩

/-! ### Arrays that stay as they are -/
theorem rd_slice {x : Cx} {g cap : Nat} {cur : Array Value} {T : TypeId} {t : ST} {xs : List t.El} (hc : xs.length ≤ cap) (hg : x.w.heap[g]? = some (.cells cur T (0, 0)))
    (hf : ¬ Top x.lk x.β g) (hav : x.av g) (h : ∀ (i : Nat) (c : Cell), (flat t xs)[i]? = some c → ∃ u, cur[i]? = some u ∧ x.rd u c) :
    x.rd (.slice (some ⟨g, 0, none⟩) xs.length cap) (.sl t xs) := by
  have hch : ∀ i : Nat, ∃ p : Value × List Nat, ∀ c : Cell, (flat t xs)[i]? = some c → cur[i]? = some p.1 ∧ Rd x.w p.1 c p.2 ∧ x.fine p.2 := by
    intro i
    cases hi : (flat t xs)[i]? with
    | none => exact ⟨(undef, []), fun c hc => by cases hc⟩
    | some c =>
      obtain ⟨u, hu, fp, h1, h2⟩ := h i c hi
      exact ⟨(u, fp), fun c' hc' => by cases hc'; exact ⟨hu, h1, h2⟩⟩
  have hex : ∃ f : Nat → Value × List Nat, ∀ (i : Nat) (c : Cell), (flat t xs)[i]? = some c → cur[i]? = some (f i).1 ∧ Rd x.w (f i).1 c (f i).2 ∧ x.fine (f i).2 :=
    ⟨fun i => Classical.choose (hch i), fun i => Classical.choose_spec (hch i)⟩
  obtain ⟨f, hF⟩ := hex
  refine ⟨_, .sl g 0 xs.length cap t xs (fun i => (f i).1) (fun i => (f i).2) rfl hc (fun i c hi => ?_) (fun i c hi => (hF i c hi).2.1), ?_⟩
  · simp only [Nat.zero_add]
    rw [cell_of_row x.w g i cur T (0, 0) hg]; exact (hF i c hi).1
  · intro b hb
    rcases List.mem_cons.1 hb with rfl | hb
    · exact ⟨(Array.getElem?_eq_some_iff.1 hg).1, hf, hav⟩
    · obtain ⟨i, hi, hb⟩ := List.mem_flatMap.1 hb
      have hi' := List.mem_range.1 hi
      exact (hF i _ (List.getElem?_eq_getElem hi')).2.2 b hb

theorem Gam.freeze1 (g : Gam C s X β tm w) (n : Nat) : Gam C ⟨s.env, Go.Di.freeze1 n s.ents⟩ X β tm w := by
  have htop : ∀ b, Top (fun m => look m (Go.Di.freeze1 n s.ents)) β b → Top (fun m => look m s.ents) β b := by
    rintro b ⟨m, e, v, h1, h2, h3, h4⟩
    simp only [look_freeze1] at h1
    split at h1
    · cases hl : look m s.ents with
      | none => simp [hl] at h1
      | some f =>
        simp [hl] at h1; subst h1
        exact ⟨m, f, v, hl, by cases f <;> simp_all [frz, Ent.mut], h3, h4⟩
    · exact ⟨m, e, v, h1, h2, h3, h4⟩
  have hle : Le (cx C s β w) (cx C ⟨s.env, Go.Di.freeze1 n s.ents⟩ β w) fun _ => True := by
    refine ⟨fun _ h => h, fun _ _ _ => rfl, Nat.le_refl _, fun b _ h => htop b h, fun m _ => ?_⟩
    simp only [cx, look_freeze1]
    split
    · cases hl : look m s.ents with
      | none => left; simp
      | some f =>
        right; refine ⟨trivial, ?_⟩
        cases f with
        | box l => left; simp [frz]
        | arr fr t xs => right; right; exact ⟨fr, true, t, xs, xs, by simp, by simp [frz], rfl⟩
    · exact .inr ⟨trivial, .inl rfl⟩
  refine ⟨g.len, fun t av hx h => hle.av (refs_true av) (g.env t av hx h), fun m e v h1 h2 => ?_, ?_, fun b h => g.fresh b (htop b h), g.b0, g.below⟩
  · simp only [look_freeze1] at h1
    have old : ∀ e, look m s.ents = some e → EntOk (cx C ⟨s.env, Go.Di.freeze1 n s.ents⟩ β w) e v := fun e h =>
      EntOk.le hle (by cases e <;> first | exact L1refs_true _ | trivial) (fun _ _ _ => rfl) (g.ents m e v h h2)
    split at h1
    · rename_i hmn
      cases hl : look m s.ents with
      | none => simp [hl] at h1
      | some f =>
        simp [hl] at h1; subst h1
        cases f with
        | box l => exact old _ hl
        | arr fr t xs =>
          cases fr with
          | true => exact old _ hl
          | false =>
            have ho := old _ hl
            rcases ho with ⟨h0, a, ha⟩ | ⟨gb, cap, cur, T, k1, k2, k3, k4, k5, k6, k7⟩
            · subst h0; subst ha; exact ⟨[], .emp a t 0, by intro b hb; cases hb⟩
            · subst k1
              have hgb : gb ∈ topOf (.slice (some ⟨gb, 0, none⟩) xs.length cap) := by cases cap with | zero => omega | succ k => simp [topOf]
              refine rd_slice k3 k5 ?_ (.inl (g.fresh gb ⟨m, _, _, hl, rfl, h2, hgb⟩).1) k7
              rintro ⟨k, e, u, q1, q2, q3, q4⟩
              have q1 := q1; simp only [cx, look_freeze1] at q1
              split at q1
              · rename_i hk
                have hkm : k = m := by rw [hk, hmn]
                subst hkm
                rw [hl] at q1; simp [frz] at q1; subst q1; simp [Ent.mut] at q2
              · rename_i hk
                have := g.uniq k m e (.arr false t xs) u _ gb q1 hl q2 rfl q3 h2 q4 hgb
                exact hk (by rw [this, hmn])
    · exact old e h1
  · intro k m e f u v b h1 h2 h3 h4 h5 h6 h7 h8
    have back : ∀ m e, look m (Go.Di.freeze1 n s.ents) = some e → e.mut = true → ∃ e', look m s.ents = some e' ∧ e'.mut = true := by
      intro m e h hm
      simp only [look_freeze1] at h
      split at h
      · cases hl : look m s.ents with
        | none => simp [hl] at h
        | some f => simp [hl] at h; subst h; exact ⟨f, rfl, by cases f <;> simp_all [frz, Ent.mut]⟩
      · exact ⟨e, h, hm⟩
    obtain ⟨e', he, hem⟩ := back k e h1 h3
    obtain ⟨f', hf, hfm⟩ := back m f h2 h4
    exact g.uniq k m e' f' u v b he hf hem hfm h5 h6 h7 h8

theorem Gam.freezeL (g : Gam C s X β tm w) : ∀ l, Gam C ⟨s.env, Go.Di.freezeL l s.ents⟩ X β tm w := fun l => by
  induction l generalizing s with
  | nil => exact g
  | cons a r ih =>
    simp only [Go.Di.freezeL]
    have h1 : Gam C ⟨s.env, a.freeze s.ents⟩ X β tm w := by
      cases a <;> simp only [A1.freeze] <;> first | exact g | exact g.freeze1 _
    exact ih h1

/-! ### Stores -/
def Same (e e' : Ent) : Prop := (∃ l l', e = .box l ∧ e' = .box l') ∨ ∃ (t : ST) (xs xs' : List t.El), e = .arr false t xs ∧ e' = .arr false t xs' ∧ xs'.length = xs.length

theorem Gam.write (g : Gam C s X β tm w) {n : Nat} {e e' : Ent} {v : Value} (hl : look n s.ents = some e) (hs : Same e e') (hv : β n = some v)
    (hw : ∀ b, b ∉ topOf v → w'.heap[b]? = w.heap[b]?) (hsz : w'.heap.size = w.heap.size) (hbel : Below C.b0 w w')
    (he : Le (cx C s β w) (cx C ⟨s.env, put n e' s.ents⟩ β w') (fun _ => True) → EntOk (cx C ⟨s.env, put n e' s.ents⟩ β w') e' v) :
    Gam C ⟨s.env, put n e' s.ents⟩ X β tm w' := by
  have hm : e.mut = true := by rcases hs with ⟨l, l', rfl, rfl⟩ | ⟨t, xs, xs', rfl, rfl, _⟩ <;> rfl
  have hm' : e'.mut = true := by rcases hs with ⟨l, l', rfl, rfl⟩ | ⟨t, xs, xs', rfl, rfl, _⟩ <;> rfl
  have htop : ∀ b, Top (fun m => look m (put n e' s.ents)) β b → Top (fun m => look m s.ents) β b := by
    rintro b ⟨m, f, u, h1, h2, h3, h4⟩
    simp only [look_put] at h1
    split at h1
    · rename_i h; subst h; cases h1; exact ⟨m, e, u, hl, hm, h3, h4⟩
    · exact ⟨m, f, u, h1, h2, h3, h4⟩
  have hle : Le (cx C s β w) (cx C ⟨s.env, put n e' s.ents⟩ β w') fun _ => True := by
    refine ⟨fun _ h => h, fun b hlt hnt => hw b fun hb => hnt ⟨n, e, v, hl, hm, hv, hb⟩, by simp [cx, hsz], fun b _ h => htop b h, fun m _ => ?_⟩
    simp only [cx, look_put]
    split
    · rename_i h; subst h
      right; refine ⟨trivial, ?_⟩
      rcases hs with ⟨l, l', rfl, rfl⟩ | ⟨t, xs, xs', rfl, rfl, hx⟩
      · right; left; exact ⟨l, l', hl, rfl⟩
      · right; right; exact ⟨false, false, t, xs, xs', hl, rfl, hx⟩
    · exact .inr ⟨trivial, .inl rfl⟩
  refine ⟨g.len, fun t av hx h => hle.av (refs_true av) (g.env t av hx h), fun m f u h1 h2 => ?_, ?_, fun b h => ?_, by rw [hsz]; exact g.b0, g.below.trans hbel⟩
  · simp only [look_put] at h1
    split at h1
    · rename_i h; subst h; cases h1; rw [hv] at h2; cases h2; exact he hle
    · rename_i hmn
      refine EntOk.le hle (by cases f <;> first | exact L1refs_true _ | trivial) (fun b hb hfm => hw b fun hb' => ?_) (g.ents m f u h1 h2)
      exact hmn (g.uniq m n f e u v b h1 hl hfm hm h2 hv hb hb')
  · intro k m f1 f2 u1 u2 b h1 h2 h3 h4 h5 h6 h7 h8
    have back : ∀ m f, look m (put n e' s.ents) = some f → f.mut = true → ∃ f', look m s.ents = some f' ∧ f'.mut = true := by
      intro m f h hfm
      simp only [look_put] at h
      split at h
      · rename_i hh; subst hh; exact ⟨e, hl, hm⟩
      · exact ⟨f, h, hfm⟩
    obtain ⟨e1, q1, q2⟩ := back k f1 h1 h3
    obtain ⟨e2, q3, q4⟩ := back m f2 h2 h4
    exact g.uniq k m e1 e2 u1 u2 b q1 q3 q2 q4 h5 h6 h7 h8
  · rw [hsz]; exact g.fresh b (htop b h)
end
end Go.Di
