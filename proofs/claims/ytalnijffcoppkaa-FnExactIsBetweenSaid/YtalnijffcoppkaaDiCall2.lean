/-
  Own work. A call's results, in the caller's description.
-/
import Derived.Test.YtalnijffcoppkaaDiCall
open Go.RowKit (Below)
namespace Go.Di

def AV.has (a : A1) : AV → Prop
  | .v _ l => a ∈ l
  | .tup ps => ∃ p ∈ ps, a ∈ p.2

theorem L1Ok.conv {x y : Cx} : ∀ {l : List A1} {vs : List Value}, (∀ a ∈ l, ∀ v, A1Ok x a v → A1Ok y a v) → L1Ok x l vs → L1Ok y l vs
  | [], [], _, _ => trivial
  | a :: l, v :: vs, h, ⟨h1, h2, h3⟩ => ⟨h a (List.mem_cons_self ..) v h1, h2, h3.conv fun b hb => h b (List.mem_cons_of_mem _ hb)⟩
  | [], _ :: _, _, h => h.elim
  | _ :: _, [], _, h => h.elim
theorem VOk.conv {x y : Cx} {g : Bool} {l : List A1} {v : Value} (h : ∀ a ∈ l, ∀ v, A1Ok x a v → A1Ok y a v) (hv : VOk x g l v) : VOk y g l v := by
  cases g with
  | true => obtain ⟨vs, h1, h2⟩ := hv; exact ⟨vs, h1, h2.conv h⟩
  | false => obtain ⟨a, rfl, h2, h3⟩ := hv; exact ⟨a, rfl, h a (List.mem_cons_self ..) v h2, h3⟩
theorem PsOk.conv {x y : Cx} : ∀ {ps : List (Bool × List A1)} {vs : List Value}, (∀ p ∈ ps, ∀ a ∈ p.2, ∀ v, A1Ok x a v → A1Ok y a v) → PsOk x ps vs → PsOk y ps vs
  | [], [], _, _ => trivial
  | p :: l, v :: vs, h, ⟨h1, h2⟩ => ⟨VOk.conv (h p (List.mem_cons_self ..)) h1, h2.conv fun q hq => h q (List.mem_cons_of_mem _ hq)⟩
  | [], _ :: _, _, h => h.elim
  | _ :: _, [], _, h => h.elim
theorem AVOk.conv {x y : Cx} {a : AV} {v : Value} (h : ∀ b, a.has b → ∀ v, A1Ok x b v → A1Ok y b v) (hv : AVOk x a v) : AVOk y a v := by
  cases a with
  | v g l => exact VOk.conv h hv
  | tup ps => obtain ⟨vs, h1, h2⟩ := hv; exact ⟨vs, h1, h2.conv fun p hp b hb => h b ⟨p, hp, hb⟩⟩

theorem mkRes_has {t : Bool} {ps : List (Bool × List A1)} {b : A1} (h : (mkRes t ps).has b) : ∃ p ∈ ps, b ∈ p.2 := by
  unfold mkRes at h
  split at h
  · exact ⟨_, List.mem_cons_self .., h⟩
  · exact h

def bare : Cell → Prop
  | .sl _ _ => False
  | _ => True
theorem bare_ne {c : Cell} (h : bare c) : ∀ t xs, c ≠ .sl t xs := by
  intro t xs he; subst he; exact h

/-- What the results' cells and entries are. -/
theorem resCells_spec : ∀ (ks : List RK) (n : Nat) (x : Tys (ckL ks)),
    (∀ a ∈ (resCells n ks x).1, (∃ c, a = .d c ∧ (ks.any RK.shares = false → bare c)) ∨ ∃ m, a = .own m ∧ m ∈ names (resCells n ks x).2) ∧
    (∀ p ∈ (resCells n ks x).2, n ≤ p.1 ∧ p.1 < n + ks.length ∧ ∃ t xs, p.2 = .arr false t xs ∧ (ks.any RK.shares = false → t.deep = false)) ∧ (names (resCells n ks x).2).Nodup
  | [], n, x => ⟨(fun a h => by cases h), (fun p h => by cases h), by simp [resCells, names]⟩
  | .data c :: ks, n, x => by
    obtain ⟨h1, h2, h3⟩ := resCells_spec ks (n + 1) x.2
    refine ⟨fun a ha => ?_, fun p hp => ?_, h3⟩
    · simp only [resCells, List.mem_cons] at ha
      rcases ha with rfl | ha
      · left; refine ⟨_, rfl, fun h => ?_⟩
        cases c <;> first | trivial | (simp [RK.shares] at h)
      · rcases h1 a ha with ⟨c', e, hc⟩ | ⟨m, e, hm⟩
        · exact .inl ⟨c', e, fun h => hc (by simp only [List.any_cons, Bool.or_eq_false_iff] at h; exact h.2)⟩
        · exact .inr ⟨m, e, hm⟩
    · obtain ⟨q1, q2, t, xs, q3, q4⟩ := h2 p hp
      exact ⟨by omega, by simp; omega, t, xs, q3, fun h => q4 (by simp only [List.any_cons, Bool.or_eq_false_iff] at h; exact h.2)⟩
  | .fresh t :: ks, n, x => by
    obtain ⟨h1, h2, h3⟩ := resCells_spec ks (n + 1) x.2
    refine ⟨fun a ha => ?_, fun p hp => ?_, ?_⟩
    · simp only [resCells, List.mem_cons] at ha
      rcases ha with rfl | ha
      · right; exact ⟨n, rfl, by simp [resCells, names]⟩
      · rcases h1 a ha with ⟨c', e, hc⟩ | ⟨m, e, hm⟩
        · exact .inl ⟨c', e, fun h => hc (by simp only [List.any_cons, Bool.or_eq_false_iff] at h; exact h.2)⟩
        · exact .inr ⟨m, e, by simp only [resCells, names, List.map_cons, List.mem_cons]; exact .inr hm⟩
    · simp only [resCells, List.mem_cons] at hp
      rcases hp with rfl | hp
      · exact ⟨Nat.le_refl _, by simp, t, x.1, rfl, fun h => by simp only [List.any_cons, Bool.or_eq_false_iff, RK.shares] at h; exact h.1⟩
      · obtain ⟨q1, q2, t, xs, q3, q4⟩ := h2 p hp
        exact ⟨by omega, by simp; omega, t, xs, q3, fun h => q4 (by simp only [List.any_cons, Bool.or_eq_false_iff] at h; exact h.2)⟩
    · simp only [resCells, names, List.map_cons, List.nodup_cons]
      refine ⟨fun hm => ?_, h3⟩
      obtain ⟨p, hp, e⟩ := List.mem_map.1 hm
      have := (h2 p hp).1; omega

theorem resParts_spec : ∀ (rs : List (Bool × List RK)) (n : Nat) (x : Tys (outsOf rs)),
    (∀ p ∈ (resParts n rs x).1, ∀ a ∈ p.2, (∃ c, a = .d c ∧ (sharesL rs = false → bare c)) ∨ ∃ m, a = .own m ∧ m ∈ names (resParts n rs x).2) ∧
    (∀ p ∈ (resParts n rs x).2, n ≤ p.1 ∧ p.1 < n + lenP rs ∧ ∃ t xs, p.2 = .arr false t xs ∧ (sharesL rs = false → t.deep = false)) ∧ (names (resParts n rs x).2).Nodup
  | [], n, x => ⟨(fun p h => by cases h), (fun p h => by cases h), by simp [resParts, names]⟩
  | (b, l) :: rs, n, x => by
    obtain ⟨h1, h2, h3⟩ := resCells_spec l n (Tys.fst (ckL l) (outsOf rs) x)
    obtain ⟨k1, k2, k3⟩ := resParts_spec rs (n + l.length) (Tys.snd (ckL l) (outsOf rs) x)
    have hs : sharesL ((b, l) :: rs) = false → l.any RK.shares = false ∧ sharesL rs = false := fun h => by simpa [sharesL] using h
    refine ⟨fun p hp a ha => ?_, fun p hp => ?_, ?_⟩
    · simp only [resParts, List.mem_cons] at hp
      rcases hp with rfl | hp
      · rcases h1 a ha with ⟨c', e, hc⟩ | ⟨m, e, hm⟩
        · exact .inl ⟨c', e, fun h => hc (hs h).1⟩
        · exact .inr ⟨m, e, by simp only [resParts, names, List.map_append, List.mem_append]; exact .inl hm⟩
      · rcases k1 p hp a ha with ⟨c', e, hc⟩ | ⟨m, e, hm⟩
        · exact .inl ⟨c', e, fun h => hc (hs h).2⟩
        · exact .inr ⟨m, e, by simp only [resParts, names, List.map_append, List.mem_append]; exact .inr hm⟩
    · simp only [resParts, List.mem_append] at hp
      rcases hp with hp | hp
      · obtain ⟨q1, q2, t, xs, q3, q4⟩ := h2 p hp
        exact ⟨q1, by simp only [lenP]; omega, t, xs, q3, fun h => q4 (hs h).1⟩
      · obtain ⟨q1, q2, t, xs, q3, q4⟩ := k2 p hp
        exact ⟨by omega, by simp only [lenP]; omega, t, xs, q3, fun h => q4 (hs h).2⟩
    · simp only [resParts, names, List.map_append, List.nodup_append]
      refine ⟨h3, k3, fun p hp q hq e => ?_⟩
      obtain ⟨p', hp', rfl⟩ := List.mem_map.1 hp
      obtain ⟨q', hq', rfl⟩ := List.mem_map.1 hq
      have := (h2 p' hp').2.1; have := (k2 q' hq').1; omega

section
variable {P : Program} {C : Bs} {w w' : World} {s s' : St} {X : Nat → Prop} {β β' : Nat → Option Value} {a : Act} {o : Oper} {tm : Array Value}
  {t : TypeId} {x y : Operand} {i : TI} {K : Act → World → Prop} {Q : Exit → Act → World → Prop}

theorem top_freeL {b : Nat} : ∀ (l : List (Nat × Ent)) (s : St), Top (fun m => look m (St.freeL l s).ents) β b → Top (fun m => look m s.ents) β b
  | [], s, h => h
  | (n, _) :: r, s, h => top_free (top_freeL r (s.free n) h)

def Callable (P : Program) (f : FuncId) : Prop := ∃ fn, P.funcs[f]? = some fn ∧ (fn.name == "runtime.NumGoroutine") = false ∧ fn.body.isNone = false

theorem run_call {f : FuncId} (hf : Callable P f) {args : Array Operand} {ts : Array TypeId} (ho : o.op = .call { callee := .value (.func f), args := args, argTypes := ts }) :
    (execOp a.eval o).run P w = .ok (.enter f (args.map a.eval)) w := by
  obtain ⟨fn, h1, h2, h3⟩ := hf
  simp only [beq_eq_false_iff_ne, ne_eq] at h2
  have h4 : fn.body ≠ none := by intro e; rw [e] at h3; cases h3
  simp [execOp, ho, resolve, Act.eval, Deferred.ofValue, invoke, callFunc, h1, h2, h4]

theorem results_in (g : Gam C s X β tm w) (hb : Below w.heap.size w w') {es : List (Nat × Ent)} {ps : List (Bool × List A1)} {tup : Bool} {v : Value} {old : Nat → Prop} {β2 : Nat → Option Value} (shares : Bool)
    (hold : shares = true → ∀ b, old b → b < w.heap.size ∧ ¬ Top (fun m => look m s.ents) β b ∧ (C.b0 ≤ b ∨ C.old b))
    (hp : ∀ p ∈ ps, ∀ a ∈ p.2, (∃ c, a = .d c ∧ (shares = false → bare c)) ∨ ∃ m, a = .own m ∧ m ∈ names es)
    (he : ∀ p ∈ es, ∃ t xs, p.2 = .arr false t xs ∧ (shares = false → t.deep = false)) (hn : (names es).Nodup)
    (G : Gam ⟨w.heap.size, w, old⟩ ⟨[], Go.Di.putL es []⟩ (fun _ => True) β2 #[] w') (hv : AVOk (cx ⟨w.heap.size, w, old⟩ ⟨[], Go.Di.putL es []⟩ β2 w') (mkRes tup ps) v) :
    ∃ β', Gam C (St.pushL es s) X β' tm w' ∧ AVOk (cx C (St.pushL es s) β' w') (mkRes tup ps) v := by
  let β' : Nat → Option Value := fun m => if m ∈ names es then β2 m else β m
  have hβin : ∀ m, m ∈ names es → β' m = β2 m := fun m hm => if_pos hm
  have hβout : ∀ m, m ∉ names es → β' m = β m := fun m hm => if_neg hm
  have look2 : ∀ n e, (n, e) ∈ es → look n (Go.Di.putL es []) = some e := fun n e h => look_putL_mem es [] n e hn h
  have hmem : ∀ n e, (n, e) ∈ es → n ∈ names es := fun n e h => List.mem_map.2 ⟨_, h, rfl⟩
  have topNew : ∀ b, Top (fun m => look m (St.pushL es s).ents) β' b → Top (fun m => look m (Go.Di.putL es [])) β2 b ∨ Top (fun m => look m s.ents) β b := by
    rintro b ⟨m, e, u, h1, h2, h3, h4⟩
    rcases look_putL_inv es _ m e hn h1 with h | ⟨hm, h⟩
    · rw [hβin m (hmem m e h)] at h3; exact .inl ⟨m, e, u, look2 m e h, h2, h3, h4⟩
    · rw [hβout m hm] at h3; exact .inr (top_freeL es s ⟨m, e, u, h, h2, h3, h4⟩)
  have conv : ∀ u c, (shares = false → bare c) → (cx ⟨w.heap.size, w, old⟩ ⟨[], Go.Di.putL es []⟩ β2 w').rd u c → (cx C (St.pushL es s) β' w').rd u c := by
    intro u c hc hr
    cases hs : shares with
    | false => exact rd_bare hr (bare_ne (hc hs))
    | true =>
      obtain ⟨fp, h1, h2⟩ := hr
      refine ⟨fp, h1, fun b hb' => ?_⟩
      obtain ⟨q1, q2, q3⟩ := h2 b hb'
      refine ⟨q1, fun ht => ?_, ?_⟩
      · rcases topNew b ht with h | h
        · exact q2 h
        · rcases q3 with q3 | q3
          · have := (g.fresh b h).2; simp only at q3; omega
          · exact (hold hs b q3).2.1 h
      · rcases q3 with q3 | q3
        · exact .inl (Nat.le_trans g.b0 q3)
        · exact (hold hs b q3).2.2
  have G1 : Gam C (St.pushL es s) X β' tm w' := by
    refine (g.freeL es).putL hb es hn (fun n hn' => noRef_freeL es s n hn') hβout (fun _ n e hm u hu => ?_) (fun n e u b hm hu hb' hmut => ?_) (fun n m u1 u2 b hn1 hm1 h1 h2 h3 h4 => ?_)
    · rw [hβin n (hmem n e hm)] at hu
      have h0 := G.ents n e u (look2 n e hm) hu
      obtain ⟨t, xs, rfl, hd⟩ := he (n, e) hm
      rcases h0 with h0 | ⟨gb, cap, cur, T, k1, k2, k3, k4, k5, k6, k7⟩
      · exact .inl h0
      · refine .inr ⟨gb, cap, cur, T, k1, k2, k3, k4, k5, k6, fun j c hj => ?_⟩
        obtain ⟨u', hu', hr⟩ := k7 j c hj
        refine ⟨u', hu', conv u' c (fun hs => ?_) hr⟩
        have := flat_bare (hd hs) hj
        cases c <;> first | trivial | exact (this _ _ rfl).elim
    · rw [hβin n (hmem n e hm)] at hu
      exact G.fresh b ⟨n, e, u, look2 n e hm, hmut, hu, hb'⟩
    · rw [hβin n hn1] at h1; rw [hβin m hm1] at h2
      obtain ⟨p, hp1, rfl⟩ := List.mem_map.1 hn1
      obtain ⟨q, hq1, rfl⟩ := List.mem_map.1 hm1
      obtain ⟨t1, xs1, e1, _⟩ := he p hp1
      obtain ⟨t2, xs2, e2, _⟩ := he q hq1
      exact G.uniq p.1 q.1 p.2 q.2 u1 u2 b (look2 _ _ hp1) (look2 _ _ hq1) (by rw [e1]; rfl) (by rw [e2]; rfl) h1 h2 h3 h4
  refine ⟨β', G1, AVOk.conv (fun b hb' u hu => ?_) hv⟩
  obtain ⟨p, hp1, hb1⟩ := mkRes_has hb'
  rcases hp p hp1 b hb1 with ⟨c, rfl, hc⟩ | ⟨m, rfl, hm⟩
  · exact conv u c hc hu
  · intro _
    obtain ⟨q, hq1, rfl⟩ := List.mem_map.1 hm
    rw [show (cx C (St.pushL es s) β' w').β q.1 = β2 q.1 from hβin q.1 (hmem q.1 q.2 hq1)]
    exact hu (by simp [cx, look2 q.1 q.2 hq1])
end
end Go.Di
