/-
  Own work. A function meets its contract: the results handed over.
-/
import Derived.Test.YtalnijffcoppkaaDiFunc
open Go.RowKit (Below)
namespace Go.Di

theorem fst_app : ∀ {cs ds : List CK} {x : Tys cs} {y : Tys ds}, Tys.fst cs ds (Tys.app cs ds x y) = x
  | [], ds, x, y => rfl
  | c :: cs, ds, x, y => by simp only [Tys.app, Tys.fst, fst_app]; rfl
theorem snd_app : ∀ {cs ds : List CK} {x : Tys cs} {y : Tys ds}, Tys.snd cs ds (Tys.app cs ds x y) = y
  | [], ds, x, y => rfl
  | c :: cs, ds, x, y => by simp only [Tys.app, Tys.snd, snd_app]

def valCells (vs : List Value) : List Value := vs.flatMap fun v => v.cells.toList

theorem asResL_cons {es : List (Nat × Ent)} {b b' : Bool} {ks : List RK} {rs : List (Bool × List RK)} {l : List A1} {ps : List (Bool × List A1)} {y : Tys (outsOf ((b, ks) :: rs))} (h : asResL es ((b, ks) :: rs) ((b', l) :: ps) = some y) :
    b = b' ∧ ∃ x z, asRes es ks l = some x ∧ asResL es rs ps = some z ∧ y = Tys.app (ckL ks) (outsOf rs) x z := by
  cases b <;> cases b' <;> first | (cases h; done) | skip
  all_goals
    have h' : (match asRes es ks l with
      | some x => match asResL es rs ps with
        | some y => some (Tys.app (ckL ks) (outsOf rs) x y)
        | none => none
      | none => none) = some y := h
    refine ⟨rfl, ?_⟩
    cases h1 : asRes es ks l with
    | none => rw [h1] at h'; cases h'
    | some x =>
      rw [h1] at h'
      cases h2 : asResL es rs ps with
      | none => rw [h2] at h'; cases h'
      | some z => rw [h2] at h'; cases h'; exact ⟨x, z, rfl, rfl, rfl⟩

theorem asRes_notBot {es : List (Nat × Ent)} {ks : List RK} {x : Tys (ckL ks)} (h : asRes es ks [.bot] = some x) : False := by
  cases ks with
  | nil => cases h
  | cons k ks => cases k with
    | data c => cases c <;> cases h
    | fresh t => cases h

theorem parts_conv {cx cx' : Cx} {es : List (Nat × Ent)} : ∀ (rs : List (Bool × List RK)) (ps : List (Bool × List A1)) (n : Nat) (y : Tys (outsOf rs)) (vs : List Value), asResL es rs ps = some y → PsOk cx ps vs →
    (∀ (j : Nat) c a y' u, (flatK rs)[j]? = some (.data c) → (flatA ps)[j]? = some a → a.as es c = some y' → A1Ok cx a u → cx'.rd u (c.cell y')) →
    (∀ (j : Nat) u, (valCells vs)[j]? = some u → A1Ok cx' (.own (n + j)) u) →
    PsOk cx' (resParts n rs y).1 vs ∧ L1Ok cx (flatA ps) (valCells vs) ∧ (flatA ps).length = (flatK rs).length ∧
    ∀ p ∈ (resParts n rs y).2, ∃ (j : Nat) (a : A1) (t : ST) (xs : List t.El), p = (n + j, .arr false t xs) ∧ (flatA ps)[j]? = some a ∧ (flatK rs)[j]? = some (.fresh t) ∧ freshOf es t a = some xs
  | [], [], n, y, [], _, _, _, _ => ⟨trivial, trivial, rfl, (fun p hp => by cases hp)⟩
  | (b, ks) :: rs, (b', l) :: ps, n, y, v :: vs, h, ⟨hv, hvs⟩, Hd, Hf => by
    obtain ⟨rfl, x, z, h1, h2, rfl⟩ := asResL_cons h
    obtain ⟨k0, k1, k2, k3⟩ := resCells_from ks l n x h1
    have hcv : L1Ok cx l v.cells.toList := av_cells hv fun _ hl => by subst hl; exact asRes_notBot h1
    have hcl := hcv.length
    have hvc : valCells (v :: vs) = v.cells.toList ++ valCells vs := rfl
    have hfk : flatK ((b, ks) :: rs) = ks ++ flatK rs := rfl
    have hfa : flatA ((b, l) :: ps) = l ++ flatA ps := rfl
    obtain ⟨q1, q2, q3, q4⟩ := parts_conv rs ps (n + ks.length) z vs h2 hvs
      (fun j c a y' u e1 e2 e3 e4 => Hd (ks.length + j) c a y' u (by rw [hfk, List.getElem?_append_right (by omega), Nat.add_sub_cancel_left]; exact e1) (by rw [hfa, List.getElem?_append_right (by omega), k0, Nat.add_sub_cancel_left]; exact e2) e3 e4)
      (fun j u hu => by
        have := Hf (ks.length + j) u (by rw [hvc, List.getElem?_append_right (by omega), ← hcl, k0, Nat.add_sub_cancel_left]; exact hu)
        rw [Nat.add_assoc]; exact this)
    have hL' : L1Ok cx' (resCells n ks x).1 v.cells.toList := by
      refine L1Ok.mk (by omega) fun j b' u hb hu => ?_
      obtain ⟨a, e1, e2⟩ := k3 j b' hb
      obtain ⟨u', e3, e4, e5⟩ := hcv.get e1
      rw [hu] at e3; cases e3
      have hj := (List.getElem?_eq_some_iff.1 e1).1
      refine ⟨?_, e5⟩
      rcases e2 with ⟨c, y', e6, e7, rfl⟩ | ⟨rfl, t, xs, e6, e7⟩
      · exact Hd j c a y' u (by rw [hfk, List.getElem?_append_left (by omega)]; exact e6) (by rw [hfa, List.getElem?_append_left hj]; exact e1) e7 e4
      · exact Hf j u (by rw [hvc, List.getElem?_append_left (by omega)]; exact hu)
    refine ⟨⟨?_, ?_⟩, ?_, by simp [hfa, hfk, k0, q3], ?_⟩
    · show VOk cx' b (resCells n ks (Tys.fst (ckL ks) (outsOf rs) (Tys.app (ckL ks) (outsOf rs) x z))).1 v
      rw [fst_app]
      cases b with
      | true => obtain ⟨us, rfl, _⟩ := hv; exact ⟨us, rfl, hL'⟩
      | false =>
        obtain ⟨a1, rfl, e1, e2⟩ := hv
        have h1c : v.oneCell' = true := e2.resolve_left fun e => by subst e; exact asRes_notBot h1
        have hvv : v.cells = #[v] := by cases v <;> first | rfl | (simp [Value.oneCell'] at h1c)
        rw [hvv] at hL'
        obtain ⟨a2, e3, e4, e5⟩ := L1Ok_single hL'
        exact ⟨a2, e3, e4, .inr h1c⟩
    · show PsOk cx' (resParts (n + ks.length) rs (Tys.snd (ckL ks) (outsOf rs) (Tys.app (ckL ks) (outsOf rs) x z))).1 vs
      rw [snd_app]; exact q1
    · rw [hfa, hvc]; exact hcv.append q2
    · intro p hp
      have hp' : p ∈ (resCells n ks (Tys.fst (ckL ks) (outsOf rs) (Tys.app (ckL ks) (outsOf rs) x z))).2 ++ (resParts (n + ks.length) rs (Tys.snd (ckL ks) (outsOf rs) (Tys.app (ckL ks) (outsOf rs) x z))).2 := hp
      rw [fst_app, snd_app, List.mem_append] at hp'
      rcases hp' with hp' | hp'
      · obtain ⟨j, a, t, xs, e1, e2, e3, e4⟩ := k2 p hp'
        have hj := (List.getElem?_eq_some_iff.1 e2).1
        exact ⟨j, a, t, xs, e1, by rw [hfa, List.getElem?_append_left hj]; exact e2, by rw [hfk, List.getElem?_append_left (by omega)]; exact e3, e4⟩
      · obtain ⟨j, a, t, xs, e1, e2, e3, e4⟩ := q4 p hp'
        exact ⟨ks.length + j, a, t, xs, by rw [e1, Nat.add_assoc], by rw [hfa, List.getElem?_append_right (by omega), k0, Nat.add_sub_cancel_left]; exact e2, by rw [hfk, List.getElem?_append_right (by omega), Nat.add_sub_cancel_left]; exact e3, e4⟩
  | [], _ :: _, _, _, _, h, _, _, _ => by cases h
  | (_, _) :: _, [], _, _, _, h, _, _, _ => by cases h
  | [], [], _, _, _ :: _, _, h, _, _ => h.elim
  | (_, _) :: _, (_, _) :: _, _, _, [], _, h, _, _ => h.elim

theorem fresh_cases {es : List (Nat × Ent)} {t : ST} {a : A1} {xs : List t.El} (h : freshOf es t a = some xs) : (a = .mt ∧ xs = []) ∨ ∃ n, a = .own n ∧ look n es = some (.arr false t xs) := by
  cases a with
  | mt => have h' : some ([] : List t.El) = some xs := h; cases h'; exact .inl ⟨rfl, rfl⟩
  | own n =>
    right
    refine ⟨n, rfl, ?_⟩
    have h' : (match look n es with | some (.arr false u xs) => ST.cast u t xs | _ => none) = some xs := h
    cases hl : look n es with
    | none => rw [hl] at h'; cases h'
    | some e =>
      cases e with
      | box l => rw [hl] at h'; cases h'
      | arr fr u ys =>
        cases fr with
        | true => rw [hl] at h'; cases h'
        | false => rw [hl] at h'; obtain ⟨rfl, rfl⟩ := cast_eq h'; rfl
  | _ => cases h

section
variable {P : Program} {C : Bs} {w w' : World} {s s' : St} {X : Nat → Prop} {bt : Nat → Option Value} {tm : Array Value}

/-- The results, in a description of their own. -/
theorem result_out (g : Gam C s X bt tm w') {rs : List (Bool × List RK)} {ps : List (Bool × List A1)} {y : Tys (outsOf rs)} {vs : List Value} (h : asResL s.ents rs ps = some y) (hv : PsOk (cx C s bt w') ps vs)
    (hn : (freshNames (flatK rs) (flatA ps)).Nodup) (hap : ∀ n ∈ freshNames (flatK rs) (flatA ps), n ∉ dataNames (flatK rs) (flatA ps)) (n0 : Nat) :
    Gam C ⟨[], putL (resParts n0 rs y).2 []⟩ (fun _ => True) (nameVals n0 (valCells vs)) #[] w' ∧ PsOk (cx C ⟨[], putL (resParts n0 rs y).2 []⟩ (nameVals n0 (valCells vs)) w') (resParts n0 rs y).1 vs := by
  obtain ⟨p1, p2, p3⟩ := resParts_spec rs n0 y
  -- what the entries are, ahead of all else
  obtain ⟨_, hL, hlen, hent⟩ := parts_conv (cx := cx C s bt w') (cx' := ⟨w', fun _ => none, fun _ => none, fun _ => True⟩) rs ps n0 y vs h hv (fun j c a y' u e1 e2 e3 e4 => by
      have := as_arg g e4 e3 (old := fun _ => True) (fun _ _ _ _ => trivial) (fun _ _ _ _ _ _ _ _ _ _ _ => trivial)
      exact this) (fun j u hu hs => by cases hs)
  have lkNew : ∀ m e, look m (putL (resParts n0 rs y).2 []) = some e → (m, e) ∈ (resParts n0 rs y).2 := by
    intro m e hm
    rcases look_putL_inv _ _ m e p3 hm with h | ⟨_, h⟩
    · exact h
    · cases h
  have entry : ∀ m e u, look m (putL (resParts n0 rs y).2 []) = some e → nameVals n0 (valCells vs) m = some u →
      ∃ (t : ST) (xs : List t.El) (j : Nat) (a : A1), m = n0 + j ∧ e = .arr false t xs ∧ (flatA ps)[j]? = some a ∧ (flatK rs)[j]? = some (.fresh t) ∧ freshOf s.ents t a = some xs ∧ (valCells vs)[j]? = some u ∧ A1Ok (cx C s bt w') a u := by
    intro m e u hm hu
    obtain ⟨j, a, t, xs, e1, e2, e3, e4⟩ := hent _ (lkNew m e hm)
    cases e1
    rw [nameVals_at] at hu
    obtain ⟨u', q1, q2, _⟩ := hL.get e2
    rw [hu] at q1; cases q1
    exact ⟨t, xs, j, a, rfl, rfl, e2, e3, e4, hu, q2⟩
  have topNew : ∀ b, Top (fun m => look m (putL (resParts n0 rs y).2 [])) (nameVals n0 (valCells vs)) b →
      ∃ (n j : Nat) (a : A1) (t : ST), (flatA ps)[j]? = some a ∧ (flatK rs)[j]? = some (.fresh t) ∧ a = .own n ∧ ∃ e u, look n s.ents = some e ∧ e.mut = true ∧ bt n = some u ∧ b ∈ topOf u := by
    rintro b ⟨m, e, u, h1, h2, h3, h4⟩
    obtain ⟨t, xs, j, a, rfl, rfl, e2, e3, e4, e5, e6⟩ := entry m e u h1 h3
    rcases fresh_cases e4 with ⟨rfl, rfl⟩ | ⟨n, rfl, hl⟩
    · obtain ⟨ad, rfl⟩ := e6
      cases ad <;> simp [topOf] at h4
    · exact ⟨n, j, _, t, e2, e3, rfl, _, u, hl, rfl, e6 (by simp [cx, hl]), h4⟩
  have topOld : ∀ b, Top (fun m => look m (putL (resParts n0 rs y).2 [])) (nameVals n0 (valCells vs)) b → Top (fun m => look m s.ents) bt b := by
    intro b hb
    obtain ⟨n, j, a, t, _, _, _, e, u, q1, q2, q3, q4⟩ := topNew b hb
    exact ⟨n, e, u, q1, q2, q3, q4⟩
  have conv : ∀ u c, (cx C s bt w').rd u c → (cx C ⟨[], putL (resParts n0 rs y).2 []⟩ (nameVals n0 (valCells vs)) w').rd u c := by
    rintro u c ⟨fp, h1, h2⟩
    exact ⟨fp, h1, fun b hb => ⟨(h2 b hb).1, fun ht => (h2 b hb).2.1 (topOld b ht), (h2 b hb).2.2⟩⟩
  have G : Gam C ⟨[], putL (resParts n0 rs y).2 []⟩ (fun _ => True) (nameVals n0 (valCells vs)) #[] w' := by
    refine ⟨rfl, fun t av hx _ => (hx trivial).elim, fun m e u h1 h2 => ?_, ?_, fun b hb => g.fresh b (topOld b hb), g.b0, g.below⟩
    · obtain ⟨t, xs, j, a, rfl, rfl, e2, e3, e4, e5, e6⟩ := entry m e u h1 h2
      rcases fresh_cases e4 with ⟨rfl, rfl⟩ | ⟨n, rfl, hl⟩
      · obtain ⟨ad, rfl⟩ := e6; exact .inl ⟨rfl, ad, rfl⟩
      · rcases g.ents n _ u hl (e6 (by simp [cx, hl])) with h0 | ⟨gb, cap, cur, T, k1, k2, k3, k4, k5, k6, k7⟩
        · exact .inl h0
        · exact .inr ⟨gb, cap, cur, T, k1, k2, k3, k4, k5, k6, fun i c hc => by obtain ⟨u', q1, q2⟩ := k7 i c hc; exact ⟨u', q1, conv u' c q2⟩⟩
    · intro m1 m2 e1 e2 u1 u2 b h1 h2 _ _ h3 h4 h5 h6
      obtain ⟨t1, xs1, j1, a1, rfl, rfl, r2, r3, r4, r5, r6⟩ := entry m1 e1 u1 h1 h3
      obtain ⟨t2, xs2, j2, a2, rfl, rfl, s2, s3, s4, s5, s6⟩ := entry m2 e2 u2 h2 h4
      rcases fresh_cases r4 with ⟨rfl, rfl⟩ | ⟨n1, rfl, hl1⟩
      · obtain ⟨ad, rfl⟩ := r6; cases ad <;> simp [topOf] at h5
      rcases fresh_cases s4 with ⟨rfl, rfl⟩ | ⟨n2, rfl, hl2⟩
      · obtain ⟨ad, rfl⟩ := s6; cases ad <;> simp [topOf] at h6
      have := g.uniq n1 n2 _ _ u1 u2 b hl1 hl2 rfl rfl (r6 (by simp [cx, hl1])) (s6 (by simp [cx, hl2])) h5 h6
      subst this
      rw [names_twice hn r3 r2 (List.mem_singleton.2 rfl) s3 s2 (List.mem_singleton.2 rfl)]
  refine ⟨G, (parts_conv (cx := cx C s bt w') rs ps n0 y vs h hv (fun j c a y' u e1 e2 e3 e4 => ?_) (fun j u hu _ => ?_)).1⟩
  · have harg := as_arg g e4 e3 (old := fun b => ¬ Top (fun m => look m (putL (resParts n0 rs y).2 [])) (nameVals n0 (valCells vs)) b ∧ (C.b0 ≤ b ∨ C.old b)) (fun b h1 h2 h3 => ⟨fun ht => h2 (topOld b ht), h3⟩)
      (fun n fr t xs u hb hl hu hf b hbt => by
        subst hf
        refine ⟨fun ht => ?_, .inl (g.fresh b ⟨n, _, u, hl, rfl, hu, hbt⟩).1⟩
        obtain ⟨n', j', a', t', q1, q2, rfl, e', u', q3, q4, q5, q6⟩ := topNew b ht
        have := g.uniq n n' _ _ u u' b hl q3 rfl q4 hu q5 hbt q6
        subst this
        have hd := names_data e1 e2 n (by cases a <;> simp only [A1.isArr] at hb <;> first | exact hb.elim | (subst hb; exact List.mem_singleton.2 rfl))
        exact hap n (names_fresh q2 q1 n (List.mem_singleton.2 rfl)) hd)
    obtain ⟨fp, r1, r2⟩ := harg
    exact ⟨fp, r1, fun b hb => ⟨(r2 b hb).1, (r2 b hb).2.2.1, (r2 b hb).2.2.2⟩⟩
  · show nameVals n0 (valCells vs) (n0 + j) = some u
    rw [nameVals_at]; exact hu
end
end Go.Di
