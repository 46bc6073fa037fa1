/-
  Own work. One operation: what the evaluator says of it holds in the machine.
-/
import Derived.Test.YtalnijffcoppkaaDiCall2
open Go.RowKit (Below)
namespace Go.Di

def Susp.Yields {α : Type} : Susp α → α → Prop
  | .fail, _ => False
  | .ret a, b => a = b
  | .ask x f, b => ∃ r, x = some r ∧ f r = b

theorem bindK_some {α β : Type} {s : Susp α} {k : α → Option β} {r : β} (h : s.bindK k = some r) : ∃ a, s.Yields a ∧ k a = some r := by
  cases s with
  | fail => cases h
  | ret a => exact ⟨a, rfl, h⟩
  | ask x f =>
    cases x with
    | none => simp [Susp.bindK] at h
    | some y => simp [Susp.bindK] at h; exact ⟨f y, ⟨y, rfl, rfl⟩, h⟩

def ConsOk (P : Program) (cons : List (FuncId × Con)) : Prop := ∀ f c, findCon f cons = some c → Meets P f c ∧ Callable P f

section
variable {P : Program} {C : Bs} {w w' : World} {s s' : St} {X : Nat → Prop} {β β' : Nat → Option Value} {a : Act} {o : Oper} {tm : Array Value}
  {t : TypeId} {x y : Operand} {i : TI} {K : Act → World → Prop} {Q : Exit → Act → World → Prop} {lay : List (TypeId × TI)} {cons : List (FuncId × Con)} {av : AV}

theorem addrOf_eq {v : AV} {b : A1} (h : addrOf v = some b) : v = .v false [b] := by
  unfold addrOf at h; split at h
  · cases h; rfl
  · cases h

theorem sound_load (hL : LayOk P lay) (ho : o.op = .load t x) (g : Gam C s X β a.tmps w) (hx : AVOk (cx C s β w) (opnd s x) (a.eval x)) (hy : (evalOp lay cons o s).Yields (av, s')) (hK : Goes C X o a av s' K) : o.wp P a w K Q := by
  simp only [evalOp, ho] at hy
  split at hy
  · rename_i i b hi hb
    have hT := hL t i hi
    rw [addrOf_eq hb] at hx
    unfold loadOp at hy
    split at hy
    · split at hy
      · rename_i l hl
        split at hy
        · rename_i c hw
          cases hy; exact load_lp hT ho g hl hx hw hK
        · exact hy.elim
      · exact hy.elim
    · split at hy
      · rename_i c hw
        cases hy; exact load_sp hT ho g hx hw hK
      · exact hy.elim
    · split at hy
      · rename_i fr u xs hl
        split at hy
        · rename_i hle
          obtain ⟨e, he, hr⟩ := hy
          cases hr
          exact load_oe hT ho g hl hx (Nat.le_of_ble_eq_true hle) he hK
        · exact hy.elim
      · exact hy.elim
    · exact hy.elim
  · exact hy.elim

theorem cells_one {av : AV} {l : List A1} {v : Value} {xc : Cx} (h : AVOk xc av v) (hc : av.cells = some l) : ∀ u ∈ v.cells.toList, u.oneCell' = true := (av_cells' h hc).1.one

theorem look_frz {n : Nat} : ∀ (l : List A1) (es : List (Nat × Ent)) {e : Ent}, look n (freezeL l es) = some e → look n es = some e ∨ ∃ fr t xs, look n es = some (.arr fr t xs) ∧ e = .arr true t xs
  | [], es, e, h => .inl h
  | a :: r, es, e, h => by
    have one : ∀ e, look n (a.freeze es) = some e → look n es = some e ∨ ∃ fr t xs, look n es = some (.arr fr t xs) ∧ e = .arr true t xs := by
      intro e h
      have f1 : ∀ m, look n (freeze1 m es) = some e → look n es = some e ∨ ∃ fr t xs, look n es = some (.arr fr t xs) ∧ e = .arr true t xs := by
        intro m h
        rw [look_freeze1] at h
        split at h
        · cases hl : look n es with
          | none => simp [hl] at h
          | some f =>
            simp [hl] at h; subst h
            cases f with
            | box l => exact .inl (by simp [frz])
            | arr fr t xs => exact .inr ⟨fr, t, xs, rfl, rfl⟩
        · exact .inl h
      cases a <;> simp only [A1.freeze] at h <;> first | exact .inl h | exact f1 _ h
    rcases look_frz r (a.freeze es) h with h1 | ⟨fr, t, xs, h1, rfl⟩
    · exact one e h1
    · rcases one _ h1 with h2 | ⟨fr2, t2, xs2, h2, h3⟩
      · exact .inr ⟨fr, t, xs, h2, rfl⟩
      · cases h3; exact .inr ⟨fr2, t, xs, h2, rfl⟩

theorem frz_keeps {n : Nat} {t : ST} {xs : List t.El} : ∀ (l : List A1) (es : List (Nat × Ent)), look n es = some (.arr true t xs) → look n (freezeL l es) = some (.arr true t xs)
  | [], es, h => h
  | a :: r, es, h => by
    refine frz_keeps r (a.freeze es) ?_
    have f1 : ∀ m, look n (freeze1 m es) = some (.arr true t xs) := fun m => by rw [look_freeze1, h]; split <;> rfl
    cases a <;> simp only [A1.freeze] <;> first | exact h | exact f1 _

/-- Behind a freezing, the arrays that were named stay as they are. -/
theorem frz_mem {n : Nat} {fr : Bool} {t : ST} {xs : List t.El} : ∀ (l : List A1) (es : List (Nat × Ent)) {b : A1}, b ∈ l → b.isArr n → look n (freezeL l es) = some (.arr fr t xs) → fr = true
  | a :: r, es, b, hb, hn, h => by
    rcases List.mem_cons.1 hb with rfl | hb
    · have h1 : ∃ fr' t' xs', look n (b.freeze es) = some (.arr fr' t' xs') := by
        rcases look_frz r (b.freeze es) h with h1 | ⟨fr2, t2, xs2, h1, _⟩
        · exact ⟨_, _, _, h1⟩
        · exact ⟨_, _, _, h1⟩
      obtain ⟨fr', t', xs', h1⟩ := h1
      have h2 : fr' = true := by
        have f1 : ∀ m, m = n → look n (freeze1 m es) = some (.arr fr' t' xs') → fr' = true := by
          intro m hm h
          rw [look_freeze1, if_pos hm.symm] at h
          cases hl : look n es with
          | none => simp [hl] at h
          | some f => cases f <;> simp [hl, frz] at h; first | exact h.1.symm | exact h.1 | simp_all
        cases b <;> simp only [A1.isArr] at hn <;> first | exact hn.elim | exact f1 _ hn h1
      subst h2
      have h : look n (freezeL r (b.freeze es)) = some (.arr fr t xs) := h
      rw [frz_keeps r _ h1] at h
      cases h; rfl
    · exact frz_mem r (a.freeze es) hb hn h

theorem as_frz {b : A1} {es es' : List (Nat × Ent)} (he : ∀ n fr t xs, look n es = some (.arr fr t xs) → ∃ fr', look n es' = some (.arr fr' t xs)) {c : CK} {y : c.ty} (h : b.as es c = some y) : b.as es' c = some y := by
  cases b with
  | bot => cases c <;> cases h
  | lp _ _ => cases c <;> cases h
  | sp _ _ => cases c <;> cases h
  | oe _ _ _ => cases c <;> cases h
  | d d => cases c <;> exact h
  | mt => cases c <;> exact h
  | own n =>
    cases c with
    | sl t =>
      obtain ⟨fr, hl⟩ := as_own (ys := y) h
      obtain ⟨fr', hl'⟩ := he n fr t y hl
      show (match look n es' with | some (.arr _ u xs) => ST.cast u t xs | _ => none) = some y
      rw [hl']
      cases t <;> rfl
    | int k => cases h
    | bool => cases h
    | str => cases h
  | win n lo len =>
    cases c with
    | sl t =>
      obtain ⟨fr, xs, hl, rfl⟩ := as_win (ys := y) h
      obtain ⟨fr', hl'⟩ := he n fr t xs hl
      show (match look n es' with | some (.arr _ u xs) => ST.cast u t (cut xs lo (lo + len)) | _ => none) = some (cut xs lo (lo + len))
      rw [hl']
      cases t <;> rfl
    | int k => cases h
    | bool => cases h
    | str => cases h

theorem frz_look (l : List A1) (es : List (Nat × Ent)) : ∀ n fr t xs, look n es = some (.arr fr t xs) → ∃ fr', look n (freezeL l es) = some (.arr fr' t xs) := by
  induction l generalizing es with
  | nil => exact fun n fr t xs h => ⟨fr, h⟩
  | cons a r ih =>
    intro n fr t xs h
    have one : ∃ fr', look n (a.freeze es) = some (.arr fr' t xs) := by
      have f1 : ∀ m, ∃ fr', look n (freeze1 m es) = some (.arr fr' t xs) := fun m => by
        rw [look_freeze1, h]; split
        · exact ⟨true, rfl⟩
        · exact ⟨fr, rfl⟩
      cases a <;> simp only [A1.freeze] <;> first | exact ⟨fr, h⟩ | exact f1 _
    obtain ⟨fr', h1⟩ := one
    exact ih _ n fr' t xs h1

theorem le_freeze1 (n : Nat) : Le (cx C s β w) (cx C ⟨s.env, Go.Di.freeze1 n s.ents⟩ β w) fun _ => True := by
  refine ⟨fun _ h => h, fun _ _ _ => rfl, Nat.le_refl _, fun b _ h => ?_, fun m _ => ?_⟩
  · obtain ⟨m, e, v, h1, h2, h3, h4⟩ := h
    simp only [cx, look_freeze1] at h1
    split at h1
    · cases hl : look m s.ents with
      | none => simp [hl] at h1
      | some f => simp [hl] at h1; subst h1; exact ⟨m, f, v, hl, by cases f <;> simp_all [frz, Ent.mut], h3, h4⟩
    · exact ⟨m, e, v, h1, h2, h3, h4⟩
  · simp only [cx, look_freeze1]
    split
    · cases hl : look m s.ents with
      | none => left; simp
      | some f =>
        right; refine ⟨trivial, ?_⟩
        cases f with
        | box l => left; simp [frz]
        | arr fr t xs => right; right; exact ⟨fr, true, t, xs, xs, by simp, by simp [frz], rfl⟩
    · exact .inr ⟨trivial, .inl rfl⟩
theorem freezeL_a1 {b : A1} {v : Value} : ∀ (l : List A1) (s : St), A1Ok (cx C s β w) b v → A1Ok (cx C ⟨s.env, freezeL l s.ents⟩ β w) b v
  | [], s, h => h
  | a :: r, s, h => by
    have h1 : A1Ok (cx C ⟨s.env, a.freeze s.ents⟩ β w) b v := by
      cases a <;> simp only [A1.freeze] <;> first | exact h | exact (le_freeze1 _).a1 (by cases b <;> trivial) h
    exact freezeL_a1 r ⟨s.env, a.freeze s.ents⟩ h1

theorem cells_mk (t : ST) (x : Tys t.kinds) : t.cells (t.mk x) = Tys.cells t.kinds x := by cases t <;> rfl

/-- One-cell values that are stored away: behind the freezing they read as data that stay as they are. -/
theorem as_stored (g : Gam C s X β tm w) {l : List A1} : ∀ {ks : List CK} {m : List A1} {x : Tys ks} {vs : List Value}, (∀ b ∈ m, b ∈ l) → L1Ok (cx C s β w) m vs → asTys s.ents ks m = some x →
    ∀ (k : Nat) (c : Cell), (Tys.cells ks x)[k]? = some c → ∃ v, vs[k]? = some v ∧ (cx C ⟨s.env, freezeL l s.ents⟩ β w).rd v c
  | [], [], _, _, _, _, _, k, c, h => by simp [Tys.cells] at h
  | ck :: ks, b :: m, x, v :: vs, hm, ⟨h1, h2, h3⟩, h, k, c, hk => by
    obtain ⟨q1, q2⟩ := asTys_cons h
    cases k with
    | zero =>
      simp only [Tys.cells, List.getElem?_cons_zero, Option.some.injEq] at hk; subst hk
      refine ⟨v, rfl, ?_⟩
      have gf := g.freezeL l
      have h1' := freezeL_a1 l s h1
      have q1' : b.as (freezeL l s.ents) ck = some x.1 := as_frz (frz_look l s.ents) q1
      have harg := as_arg gf h1' q1' (old := fun k => k < w.heap.size ∧ ¬ Top (cx C ⟨s.env, freezeL l s.ents⟩ β w).lk β k ∧ (cx C ⟨s.env, freezeL l s.ents⟩ β w).av k) (fun b hb ht hav => ⟨hb, ht, hav⟩)
        (fun n fr t xs u hb hl hu hf => by
          have := frz_mem l s.ents (hm b (List.mem_cons_self ..)) hb hl
          rw [hf] at this; cases this)
      obtain ⟨fp, r1, r2⟩ := harg
      exact ⟨fp, r1, fun b hb => ⟨(r2 b hb).1, (r2 b hb).2.2.2.1, (r2 b hb).2.2.2.2⟩⟩
    | succ k =>
      simp only [Tys.cells, List.getElem?_cons_succ] at hk
      simpa using as_stored g (fun b hb => hm b (List.mem_cons_of_mem _ hb)) h3 q2 k c hk
  | [], _ :: _, _, _, _, _, h, _, _, _ => by cases h
  | _ :: _, [], _, _, _, _, h, _, _, _ => by cases h
  | _ :: _, _ :: _, _, [], _, h, _, _, _, _ => h.elim

theorem elemOf_eq {es : List (Nat × Ent)} {t : ST} {l : List A1} {e : t.El} (h : elemOf es t l = some e) : ∃ x, asTys es t.kinds l = some x ∧ e = t.mk x := by
  unfold elemOf at h
  split at h
  · rename_i x hx; cases h; exact ⟨x, hx, rfl⟩
  · cases h

theorem length_asTys {es : List (Nat × Ent)} : ∀ {ks : List CK} {l : List A1} {x : Tys ks}, asTys es ks l = some x → l.length = ks.length
  | [], [], _, _ => rfl
  | c :: ks, b :: l, x, h => by simp [length_asTys (asTys_cons h).2]
  | [], _ :: _, _, h => by cases h
  | _ :: _, [], _, h => by cases h
theorem length_kinds (t : ST) : t.kinds.length = t.size := by cases t <;> rfl

theorem sound_store (hL : LayOk P lay) (ho : o.op = .store t x y) (hd : o.dst = none) (g : Gam C s X β a.tmps w) (hx : AVOk (cx C s β w) (opnd s x) (a.eval x)) (hy' : AVOk (cx C s β w) (opnd s y) (a.eval y))
    (hy : (evalOp lay cons o s).Yields (av, s')) (hK : Goes C X o a av s' K) : o.wp P a w K Q := by
  simp only [evalOp, ho] at hy
  split at hy
  · rename_i i b c hi hb hc
    have hT := hL t i hi
    rw [addrOf_eq hb] at hx
    split at hy
    · rename_i hlen
      have hlen : c.length = i.zero.length := by simpa using hlen
      obtain ⟨hcv, _⟩ := av_cells' hy' hc
      have hcl := hcv.length
      simp only [Array.length_toList] at hcl
      unfold storeOp at hy
      split at hy
      · split at hy
        · rename_i l hl
          split at hy
          · rename_i l' hp
            cases hy; exact store_lp hT ho hd g hl hx hy' hc hlen hp hK
          · exact hy.elim
        · exact hy.elim
      · rename_i n j
        split at hy
        · rename_i u xs hl
          split at hy
          · rename_i e he
            cases hy
            obtain ⟨xt, q1, rfl⟩ := elemOf_eq he
            have hlen2 := length_asTys q1
            rw [length_kinds] at hlen2
            have gf := g.freezeL c
            have hx' : AVOk (cx C ⟨s.env, freezeL c s.ents⟩ β w) (.v false [.oe n j 0]) (a.eval x) := by
              obtain ⟨a1, e1, e2, e3⟩ := hx; cases e1; exact ⟨_, rfl, freezeL_a1 c s e2, e3⟩
            exact store_oe hT ho gf hl hx' (by omega) (by omega) (fun k cc hk => by
                rw [cells_mk] at hk
                obtain ⟨v, h1, h2⟩ := as_stored g (l := c) (fun b hb => hb) hcv q1 k cc hk
                exact ⟨v, by simpa using h1, h2⟩) hcv.one hK
          · exact hy.elim
        · exact hy.elim
      · exact hy.elim
    · exact hy.elim
  · exact hy.elim
end
end Go.Di
