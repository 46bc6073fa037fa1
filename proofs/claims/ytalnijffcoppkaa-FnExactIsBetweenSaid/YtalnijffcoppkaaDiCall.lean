/-
  Own work. Calls by contract.
-/
import Derived.Test.YtalnijffcoppkaaDiOps9
open Go.RowKit (Below)
namespace Go.Di

/-- Where a contract's arguments are read: nothing of the call's own yet. -/
def argCx (w : World) (old : Nat → Prop) : Cx := ⟨w, fun _ => none, fun _ => none, old⟩

/-- What a contract promises of a call. -/
def Meets (P : Program) (f : FuncId) (c : Con) : Prop :=
  ∀ (w : World) (old : Nat → Prop) (args : List Value) (x : Tys c.sig.ins) (y : Tys c.sig.outs), c.run x = some y → PsOk (argCx w old) (argParts c.sig.args x) args →
    Calls P f args.toArray w fun e w' => ∃ v, e = .returned v ∧ Below w.heap.size w w' ∧
      ∀ n0, ∃ β, Gam ⟨w.heap.size, w, old⟩ ⟨[], putL (resParts n0 c.sig.res y).2 []⟩ (fun _ => True) β #[] w' ∧
        AVOk (cx ⟨w.heap.size, w, old⟩ ⟨[], putL (resParts n0 c.sig.res y).2 []⟩ β w') (mkRes c.sig.tup (resParts n0 c.sig.res y).1) v

theorem Rd.bare {w w' : World} {v : Value} {c : Cell} {fp : List Nat} (h : Rd w v c fp) (hc : ∀ t xs, c ≠ .sl t xs) : Rd w' v c [] := by
  cases h with
  | int k n => exact .int k n
  | bool b => exact .bool b
  | str s => exact .str s
  | emp a t cap => exact (hc t [] rfl).elim
  | sl b off len cap t xs _ _ _ _ _ _ => exact (hc t xs rfl).elim
theorem rd_bare {x y : Cx} {v : Value} {c : Cell} (h : x.rd v c) (hc : ∀ t xs, c ≠ .sl t xs) : y.rd v c := by
  obtain ⟨fp, h, _⟩ := h
  exact ⟨[], h.bare hc, by intro b hb; cases hb⟩

theorem flat_bare {t : ST} (ht : t.deep = false) {xs : List t.El} {i : Nat} {c : Cell} (h : (flat t xs)[i]? = some c) : ∀ u ys, c ≠ .sl u ys := by
  have hm : c ∈ flat t xs := List.mem_of_getElem? h
  simp only [flat, List.mem_flatMap] at hm
  obtain ⟨x, _, hx⟩ := hm
  cases t <;> simp [ST.deep] at ht <;> simp [ST.cells] at hx <;> subst hx <;> intro u ys he <;> cases he

/-- An own array's datum, were nothing of the call's own. -/
theorem arr_rd {x : Cx} {fr : Bool} {t : ST} {xs : List t.El} {v : Value} (h : EntOk x (.arr fr t xs) v) (htop : fr = false → ∀ b ∈ topOf v, x.av b) {old : Nat → Prop} (ho : ∀ b, b < x.w.heap.size → x.av b → old b) :
    (argCx x.w old).rd v (.sl t xs) := by
  have hfine : ∀ fp, x.fine fp → (argCx x.w old).fine fp := fun fp hf b hb => ⟨(hf b hb).1, (by rintro ⟨n, e, u, h1, _⟩; cases h1), ho b (hf b hb).1 (hf b hb).2.2⟩
  have hrd : ∀ u c, x.rd u c → (argCx x.w old).rd u c := fun u c ⟨fp, h1, h2⟩ => ⟨fp, h1, hfine fp h2⟩
  cases fr with
  | true => exact hrd _ _ h
  | false =>
    rcases h with ⟨h0, ad, h1⟩ | ⟨g, cap, cur, T, h1, h2, h3, h4, h5, h6, h7⟩
    · subst h0; subst h1; exact ⟨[], .emp ad t 0, by intro b hb; cases hb⟩
    · subst h1
      have hg : g ∈ topOf (.slice (some ⟨g, 0, none⟩) xs.length cap) := by cases cap with | zero => omega | succ k => simp [topOf]
      have hlt := (Array.getElem?_eq_some_iff.1 h5).1
      exact rd_slice (x := argCx x.w old) h3 h5 (by rintro ⟨n, e, u, h1, _⟩; cases h1) (ho g hlt (htop rfl g hg)) fun i c hi => by
        obtain ⟨u, hu, hr⟩ := h7 i c hi; exact ⟨u, hu, hrd u c hr⟩

theorem rd_arg {x : Cx} {v : Value} {c : Cell} (h : x.rd v c) {old : Nat → Prop} (ho : ∀ b, b < x.w.heap.size → ¬ Top x.lk x.β b → x.av b → old b) : (argCx x.w old).rd v c := by
  obtain ⟨fp, h1, h2⟩ := h
  exact ⟨fp, h1, fun b hb => ⟨(h2 b hb).1, (by rintro ⟨n, e, u, q, _⟩; cases q), ho b (h2 b hb).1 (h2 b hb).2.1 (h2 b hb).2.2⟩⟩

section
variable {P : Program} {C : Bs} {w w' : World} {s s' : St} {X : Nat → Prop} {β β' : Nat → Option Value} {a : Act} {o : Oper} {tm : Array Value}
  {t : TypeId} {x y : Operand} {i : TI} {K : Act → World → Prop} {Q : Exit → Act → World → Prop}

/-- Which own arrays a value refers to. -/
def A1.isArr (n : Nat) : A1 → Prop
  | .own m => m = n
  | .win m _ _ => m = n
  | _ => False

/-- A one-cell value as a datum that a callee reads. -/
theorem as_arg (g : Gam C s X β tm w) {b : A1} {c : CK} {y : c.ty} {v : Value} (hb : A1Ok (cx C s β w) b v) (h : b.as s.ents c = some y) {old : Nat → Prop}
    (ho : ∀ b, b < w.heap.size → ¬ Top (cx C s β w).lk β b → (cx C s β w).av b → old b)
    (hown : ∀ n fr t xs u, b.isArr n → look n s.ents = some (.arr fr t xs) → β n = some u → fr = false → ∀ k ∈ topOf u, old k) :
    (argCx w old).rd v (c.cell y) := by
  have arr : ∀ n fr t xs u, b.isArr n → look n s.ents = some (.arr fr t xs) → β n = some u → (argCx w old).rd u (.sl t xs) := by
    intro n fr t xs u hb hl hu
    have he := g.ents n _ _ hl hu
    cases fr with
    | true => exact rd_arg (x := cx C s β w) he ho
    | false =>
      rcases he with ⟨h0, ad, h1⟩ | ⟨gb, cap, cur, T, h1, h2, h3, h4, h5, h6, h7⟩
      · subst h0; subst h1; exact ⟨[], .emp ad t 0, by intro b hb; cases hb⟩
      · have hg : gb ∈ topOf u := by rw [h1]; cases cap with | zero => omega | succ k => simp [topOf]
        have hold := hown n false t xs u hb hl hu rfl gb hg
        subst h1
        exact rd_slice (x := argCx w old) h3 h5 (by rintro ⟨n, e, u, h1, _⟩; cases h1) hold fun i c hi => by
          obtain ⟨u, hu, hr⟩ := h7 i c hi; exact ⟨u, hu, rd_arg (x := cx C s β w) hr ho⟩
  cases b with
  | bot => cases c <;> cases h
  | lp _ _ => cases c <;> cases h
  | sp _ _ => cases c <;> cases h
  | oe _ _ _ => cases c <;> cases h
  | d d =>
    have hd : d = c.cell y := get_cell (by cases c <;> exact h)
    subst hd
    exact rd_arg (x := cx C s β w) hb ho
  | mt =>
    cases c with
    | sl t =>
      obtain ⟨ad, rfl⟩ := hb
      have h' : some ([] : List t.El) = some y := h
      cases h'
      exact ⟨[], .emp ad t 0, by intro b hb; cases hb⟩
    | int k => cases h
    | bool => cases h
    | str => cases h
  | own n =>
    cases c with
    | sl t =>
      obtain ⟨fr, hl⟩ := as_own (ys := y) h
      exact arr n fr t y v rfl hl (hb (by simp [cx, hl]))
    | int k => cases h
    | bool => cases h
    | str => cases h
  | win n lo len =>
    cases c with
    | sl t =>
      obtain ⟨fr, xs, hl, rfl⟩ := as_win (ys := y) h
      obtain ⟨hfit, ad, m, cap, hβ, hlo, rfl⟩ := hb fr t xs hl
      have hr := arr n fr t xs _ rfl hl hβ
      obtain ⟨ad', cap', e1, e2⟩ := rd_len hr
      cases e1
      have := rd_cut hr (lo := lo) (hi := lo + len) (by omega) hfit e2
      rw [Nat.add_sub_cancel_left] at this
      exact this
    | int k => cases h
    | bool => cases h
    | str => cases h

theorem asTys_cons {es : List (Nat × Ent)} {c : CK} {cs : List CK} {a : A1} {l : List A1} {x : Tys (c :: cs)} (h : asTys es (c :: cs) (a :: l) = some x) : a.as es c = some x.1 ∧ asTys es cs l = some x.2 := by
  have h' : (match a.as es c with
    | some x => match asTys es cs l with
      | some y => some ((x, y) : Tys (c :: cs))
      | none => none
    | none => none) = some x := h
  cases h1 : a.as es c with
  | none => rw [h1] at h'; cases h'
  | some x1 =>
    rw [h1] at h'
    cases h2 : asTys es cs l with
    | none => rw [h2] at h'; cases h'
    | some y1 => rw [h2] at h'; cases h'; exact ⟨rfl, rfl⟩
theorem asTys_mk {es : List (Nat × Ent)} {c : CK} {cs : List CK} {a : A1} {l : List A1} {x : Tys (c :: cs)} (h1 : a.as es c = some x.1) (h2 : asTys es cs l = some x.2) : asTys es (c :: cs) (a :: l) = some x := by
  show (match a.as es c with
    | some x => match asTys es cs l with
      | some y => some ((x, y) : Tys (c :: cs))
      | none => none
    | none => none) = some x
  rw [h1, h2]; rfl

theorem asTys_append {es : List (Nat × Ent)} : ∀ {cs ds : List CK} {l m : List A1} {x : Tys (cs ++ ds)}, l.length = cs.length → asTys es (cs ++ ds) (l ++ m) = some x →
    asTys es cs l = some (Tys.fst cs ds x) ∧ asTys es ds m = some (Tys.snd cs ds x)
  | [], ds, [], m, x, _, h => ⟨rfl, h⟩
  | c :: cs, ds, a :: l, m, x, hl, h => by
    obtain ⟨h1, h2⟩ := asTys_cons (c := c) (cs := cs ++ ds) (a := a) (l := l ++ m) (x := x) h
    obtain ⟨e1, e2⟩ := asTys_append (cs := cs) (by simpa using hl) h2
    exact ⟨asTys_mk (x := (x.1, Tys.fst cs ds x.2)) h1 e1, e2⟩
  | [], ds, _ :: _, m, x, hl, _ => by simp at hl
  | _ :: _, ds, [], m, x, hl, _ => by simp at hl

theorem asTys_bot {es : List (Nat × Ent)} : ∀ {ks : List CK} {x : Tys ks}, asTys es ks [.bot] ≠ some x
  | [], x, h => by cases h
  | c :: cs, x, h => by
    have := (asTys_cons h).1
    cases c <;> cases this

theorem L1Ok_single {x : Cx} {l : List A1} {v : Value} (h : L1Ok x l [v]) : ∃ a, l = [a] ∧ A1Ok x a v ∧ v.oneCell' = true := by
  match l, h with
  | [a], ⟨h1, h2, _⟩ => exact ⟨a, rfl, h1, h2⟩
  | [], h => exact h.elim
  | _ :: _ :: _, ⟨_, _, h⟩ => exact h.elim

theorem asTys_args (g : Gam C s X β tm w) {old : Nat → Prop} (ho : ∀ b, b < w.heap.size → ¬ Top (cx C s β w).lk β b → (cx C s β w).av b → old b) :
    ∀ {ks : List CK} {l : List A1} {x : Tys ks} {vs : List Value}, L1Ok (cx C s β w) l vs →
      (∀ b ∈ l, ∀ n fr t xs u, b.isArr n → look n s.ents = some (.arr fr t xs) → β n = some u → fr = false → ∀ k ∈ topOf u, old k) → asTys s.ents ks l = some x → L1Ok (argCx w old) (dataL (Tys.cells ks x)) vs
  | [], [], _, [], _, _, _ => trivial
  | c :: ks, b :: l, x, v :: vs, ⟨h1, h2, h3⟩, hown, h => by
    obtain ⟨q1, q2⟩ := asTys_cons h
    exact ⟨as_arg g h1 q1 ho (hown b (List.mem_cons_self ..)), h2, asTys_args g ho h3 (fun b hb => hown b (List.mem_cons_of_mem _ hb)) q2⟩
  | [], _ :: _, _, _, _, _, h => by cases h
  | _ :: _, [], _, _, _, _, h => by cases h
  | [], [], _, _ :: _, h, _, _ => h.elim
  | _ :: _, _ :: _, _, [], h, _, _ => h.elim

theorem args_ok (g : Gam C s X β tm w) {old : Nat → Prop} (ho : ∀ b, b < w.heap.size → ¬ Top (cx C s β w).lk β b → (cx C s β w).av b → old b) :
    ∀ {ps : List (Bool × List CK)} {avs : List AV} {l : List A1} {x : Tys (insOf ps)} {vs : List Value}, (avs.length = vs.length) → (∀ (j : Nat) av v, avs[j]? = some av → vs[j]? = some v → AVOk (cx C s β w) av v) →
      flatArgs ps avs = some l → (∀ b ∈ l, ∀ n fr t xs u, b.isArr n → look n s.ents = some (.arr fr t xs) → β n = some u → fr = false → ∀ k ∈ topOf u, old k) →
      asTys s.ents (insOf ps) l = some x → PsOk (argCx w old) (argParts ps x) vs
  | [], [], l, x, [], _, _, _, _, _ => trivial
  | (b, ks) :: ps, av :: avs, l, x, v :: vs, hlen, hav, hf, hown, h => by
    cases av with
    | tup _ => cases b <;> cases hf
    | v b' l' =>
      have hbl : b = b' ∧ ks.length = l'.length ∧ ∃ r, flatArgs ps avs = some r ∧ l = l' ++ r := by
        cases b <;> cases b' <;> first | (cases hf; done) | skip
        all_goals
          have hf' : (match Nat.beq ks.length l'.length with
            | true => match flatArgs ps avs with
              | some r => some (l' ++ r)
              | none => none
            | false => none) = some l := hf
          cases q1 : Nat.beq ks.length l'.length with
          | false => rw [q1] at hf'; cases hf'
          | true =>
            rw [q1] at hf'
            cases q2 : flatArgs ps avs with
            | none => rw [q2] at hf'; cases hf'
            | some r => rw [q2] at hf'; cases hf'; exact ⟨rfl, by simpa using q1, r, rfl, rfl⟩
      obtain ⟨rfl, hkl, r, hr, rfl⟩ := hbl
      obtain ⟨e1, e2⟩ := asTys_append (cs := ks) (ds := insOf ps) hkl.symm h
      have hv := hav 0 _ _ rfl rfl
      refine ⟨?_, args_ok g ho (by simpa using hlen) (fun j av v h1 h2 => hav (j + 1) av v (by simpa using h1) (by simpa using h2)) hr (fun b hb => hown b (List.mem_append_right _ hb)) e2⟩
      have hnb : b = false → l' ≠ [.bot] := by
        rintro _ rfl
        exact asTys_bot e1
      have hL := av_cells hv hnb
      have hd := asTys_args g ho hL (fun b hb => hown b (List.mem_append_left _ hb)) e1
      cases b with
      | true => obtain ⟨us, rfl, _⟩ := hv; exact ⟨us, rfl, hd⟩
      | false =>
        obtain ⟨a1, rfl, k1, k2⟩ := hv
        have h1 : v.oneCell' = true := k2.resolve_left fun e => hnb rfl (by rw [e])
        have hvc : v.cells = #[v] := by cases v <;> first | rfl | (simp [Value.oneCell'] at h1)
        rw [hvc] at hd
        obtain ⟨a2, e3, e4, e5⟩ := L1Ok_single hd
        exact ⟨a2, e3, e4, .inr h1⟩
  | [], _ :: _, _, _, _, _, _, hf, _, _ => by cases hf
  | (_, _) :: _, [], _, _, _, _, _, hf, _, _ => by cases hf
  | [], [], _, _, _ :: _, hlen, _, _, _, _ => by simp at hlen
  | (_, _) :: _, _ :: _, _, _, [], hlen, _, _, _, _ => by simp at hlen
end
end Go.Di
