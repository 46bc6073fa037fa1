/-
  Own work. Loads, stores, new variables.
-/
import Derived.Test.YtalnijffcoppkaaDiOps
open Go.RowKit (Below)
namespace Go.Di

theorem exists_list {n : Nat} {p : Nat → Value → Prop} (h : ∀ j, j < n → ∃ v, p j v) : ∃ vs : List Value, vs.length = n ∧ ∀ (j : Nat) v, vs[j]? = some v → p j v := by
  induction n with
  | zero => exact ⟨[], rfl, fun j v h => by simp at h⟩
  | succ n ih =>
    obtain ⟨vs, hl, hv⟩ := ih fun j hj => h j (by omega)
    obtain ⟨v, hn⟩ := h n (by omega)
    refine ⟨vs ++ [v], by simp [hl], fun j u hu => ?_⟩
    rcases Nat.lt_or_ge j vs.length with hj | hj
    · rw [List.getElem?_append_left hj] at hu; exact hv j u hu
    · rw [List.getElem?_append_right hj] at hu
      have : j - vs.length = 0 := by
        rcases Nat.eq_zero_or_pos (j - vs.length) with h0 | h0
        · exact h0
        · rw [List.getElem?_eq_none (by simp; omega)] at hu; cases hu
      rw [this] at hu; simp at hu; subst hu
      have hjn : j = n := by omega
      rw [hjn]; exact hn

theorem splitAt'_eq {α : Type} : ∀ (n : Nat) (l : List α), splitAt' n l = (l.take n, l.drop n)
  | 0, l => by simp [splitAt']
  | n + 1, [] => by simp [splitAt']
  | n + 1, a :: l => by simp [splitAt', splitAt'_eq n l]

theorem window_spec {off k : Nat} {l c : List A1} (h : window off k l = some c) : c = (l.drop off).take k ∧ c.length = k := by
  unfold window at h
  simp only [splitAt'_eq] at h
  split at h
  · rename_i hb; cases h; exact ⟨rfl, by simpa using hb⟩
  · cases h

theorem window_get {off k : Nat} {l c : List A1} (h : window off k l = some c) {j : Nat} {a : A1} (hj : c[j]? = some a) : l[off + j]? = some a ∧ j < k := by
  obtain ⟨rfl, hl⟩ := window_spec h
  have hlt : j < k := by have := (List.getElem?_eq_some_iff.1 hj).1; omega
  rw [List.getElem?_take_of_lt hlt, List.getElem?_drop] at hj
  exact ⟨hj, hlt⟩

theorem patch_spec : ∀ (off : Nat) (c l l' : List A1), patch off c l = some l' → off + c.length ≤ l.length ∧ l' = l.take off ++ c ++ l.drop (off + c.length)
  | 0, [], l, l', h => by simp only [patch] at h; cases h; simp
  | 0, _ :: _, [], l', h => by cases h
  | 0, a :: x, b :: l, l', h => by
    simp only [patch] at h
    split at h
    · rename_i r hr
      cases h
      obtain ⟨h1, h2⟩ := patch_spec 0 x l r hr
      simp only [Nat.zero_add] at h1 h2
      constructor
      · simp; omega
      · subst h2; simp
    · cases h
  | n + 1, x, [], l', h => by cases h
  | n + 1, x, b :: l, l', h => by
    simp only [patch] at h
    split at h
    · rename_i r hr
      cases h
      obtain ⟨h1, h2⟩ := patch_spec n x l r hr
      constructor
      · simp; omega
      · subst h2
        have : n + 1 + x.length = (n + x.length) + 1 := by omega
        simp [this]
    · cases h

theorem L1Ok.get {x : Cx} : ∀ {l : List A1} {vs : List Value}, L1Ok x l vs → ∀ {j : Nat} {a : A1}, l[j]? = some a → ∃ v, vs[j]? = some v ∧ A1Ok x a v ∧ v.oneCell' = true
  | [], [], _, j, a, h => by simp at h
  | b :: l, v :: vs, ⟨h1, h2, h3⟩, 0, a, h => by simp at h; subst h; exact ⟨v, rfl, h1, h2⟩
  | b :: l, v :: vs, ⟨h1, h2, h3⟩, j + 1, a, h => by simp at h; obtain ⟨u, hu, k⟩ := h3.get h; exact ⟨u, by simpa using hu, k⟩
  | [], _ :: _, h, _, _, _ => h.elim
  | _ :: _, [], h, _, _, _ => h.elim
theorem L1Ok.mk {x : Cx} : ∀ {l : List A1} {vs : List Value}, l.length = vs.length → (∀ (j : Nat) (a : A1) v, l[j]? = some a → vs[j]? = some v → A1Ok x a v ∧ v.oneCell' = true) → L1Ok x l vs
  | [], [], _, _ => trivial
  | b :: l, v :: vs, hl, h => ⟨(h 0 b v rfl rfl).1, (h 0 b v rfl rfl).2, L1Ok.mk (by simpa using hl) fun j a u h1 h2 => h (j + 1) a u (by simpa using h1) (by simpa using h2)⟩
  | [], _ :: _, h, _ => by cases h
  | _ :: _, [], h, _ => by cases h
theorem L1Ok.append {x : Cx} : ∀ {l m : List A1} {vs us : List Value}, L1Ok x l vs → L1Ok x m us → L1Ok x (l ++ m) (vs ++ us)
  | [], m, [], us, _, h => h
  | a :: l, m, v :: vs, us, ⟨h1, h2, h3⟩, h => ⟨h1, h2, h3.append h⟩
  | [], _, _ :: _, _, h, _ => h.elim
  | _ :: _, _, [], _, h, _ => h.elim
theorem L1Ok.take {x : Cx} : ∀ {l : List A1} {vs : List Value} (n : Nat), L1Ok x l vs → L1Ok x (l.take n) (vs.take n)
  | l, vs, 0, h => by simp; trivial
  | [], [], n + 1, _ => trivial
  | a :: l, v :: vs, n + 1, ⟨h1, h2, h3⟩ => ⟨h1, h2, h3.take n⟩
  | [], _ :: _, _ + 1, h => h.elim
  | _ :: _, [], _ + 1, h => h.elim
theorem L1Ok.drop {x : Cx} : ∀ {l : List A1} {vs : List Value} (n : Nat), L1Ok x l vs → L1Ok x (l.drop n) (vs.drop n)
  | l, vs, 0, h => h
  | [], [], n + 1, _ => trivial
  | a :: l, v :: vs, n + 1, ⟨h1, h2, h3⟩ => h3.drop n
  | [], _ :: _, _ + 1, h => h.elim
  | _ :: _, [], _ + 1, h => h.elim
theorem L1Ok.one {x : Cx} : ∀ {l : List A1} {vs : List Value}, L1Ok x l vs → ∀ v ∈ vs, v.oneCell' = true
  | a :: l, v :: vs, ⟨h1, h2, h3⟩, u, hu => by
    rcases List.mem_cons.1 hu with rfl | hu
    · exact h2
    · exact h3.one u hu
  | [], [], _, u, hu => by cases hu
  | [], _ :: _, h, _, _ => h.elim
theorem L1Ok.patch {x : Cx} {off : Nat} {c l l' : List A1} {us vs : List Value} (h : L1Ok x l vs) (hc : L1Ok x c us) (hp : patch off c l = some l') :
    off + us.length ≤ vs.length ∧ L1Ok x l' (vs.take off ++ us ++ vs.drop (off + us.length)) := by
  obtain ⟨h1, rfl⟩ := patch_spec _ _ _ _ hp
  rw [← hc.length, ← h.length]
  exact ⟨h1, ((h.take off).append hc).append (h.drop _)⟩

section
variable {P : Program} {C : Bs} {w w' : World} {s s' : St} {X : Nat → Prop} {β : Nat → Option Value} {a : Act} {o : Oper} {t : TypeId} {i : TI} {x y : Operand}

theorem load_ok {x : Cx} {t : TypeId} {i : TI} (ht : TIOk P t i) {b q off : Nat} {l c : List A1} (hc : ∀ (j : Nat) a, l[j]? = some a → ∃ v, x.w.cell? ⟨b, q + j, none⟩ = some v ∧ A1Ok x a v ∧ v.oneCell' = true)
    (hw : window off i.zero.length l = some c) : ∃ v, (loadVar t ⟨b, q + off, none⟩).run P x.w = .ok v x.w ∧ VOk x i.agg c v := by
  obtain ⟨inf, d, z, h1, h2, h3, h4, _, _, _, _, _, _, _, h5⟩ := ht
  have hlen := (window_spec hw).2
  have hex : ∀ j, j < i.zero.length → ∃ v, x.w.cell? ⟨b, q + off + j, none⟩ = some v ∧ ∀ a, c[j]? = some a → A1Ok x a v ∧ v.oneCell' = true := by
    intro j hj
    have hcj : c[j]? = some (c[j]'(by omega)) := List.getElem?_eq_getElem (by omega)
    obtain ⟨hl, _⟩ := window_get hw hcj
    obtain ⟨v, hv, k⟩ := hc _ _ hl
    refine ⟨v, by rw [Nat.add_assoc]; exact hv, fun a ha => ?_⟩
    rw [hcj] at ha; cases ha; exact k
  obtain ⟨vs, hvl, hvs⟩ := exists_list hex
  have hok : L1Ok x c vs := L1Ok.mk (by omega) fun j a v ha hv => (hvs j v hv).2 a ha
  cases hg : i.agg with
  | true =>
    exact ⟨.agg vs.toArray, run_loadVar_agg h2 h1 b (q + off) vs (by rw [h4, hg]) (by omega) (fun j v hv => (hvs j v hv).1), _, rfl, by simpa using hok⟩
  | false =>
    have h1l := h5 hg
    match c, vs, hlen, hvl, hok, hvs with
    | [a], [v], _, _, ⟨k1, k2, _⟩, hvs =>
      exact ⟨v, run_loadVar_one h2 b (q + off) v (by rw [h4, hg]) (hvs 0 v rfl).1, a, rfl, k1, .inr k2⟩
    | [], _, hl, _, _, _ => simp at hl; omega
    | _ :: _ :: _, _, hl, _, _, _ => simp at hl; omega
    | [_], [], _, hl, _, _ => simp at hl; omega
    | [_], _ :: _ :: _, _, hl, _, _ => simp at hl; omega

/-- The cells of a variable of the call's own. -/
theorem box_cells {x : Cx} {l : List A1} {b : Nat} {v : Value} (h : EntOk x (.box l) v) (hv : v = .pointer (some ⟨b, 0, none⟩)) :
    ∃ (vs : Array Value) (T : TypeId), x.w.heap[b]? = some (.cells vs T (0, 0)) ∧ L1Ok x l vs.toList := by
  obtain ⟨b', vs, T, h1, h2, h3⟩ := h
  rw [hv] at h1; cases h1; exact ⟨vs, T, h2, h3⟩

theorem lp_val (g : Gam C s X β a.tmps w) {n off : Nat} {l : List A1} {v : Value} (hl : look n s.ents = some (.box l)) (hv : A1Ok (cx C s β w) (.lp n off) v) :
    ∃ b vs T, β n = some (.pointer (some ⟨b, 0, none⟩)) ∧ v = .pointer (some ⟨b, off, none⟩) ∧ w.heap[b]? = some (.cells vs T (0, 0)) ∧ L1Ok (cx C s β w) l vs.toList := by
  obtain ⟨b, h1, h2⟩ := hv (by simp [cx, hl])
  obtain ⟨vs, T, h3, h4⟩ := box_cells (g.ents n _ _ hl h1) rfl
  exact ⟨b, vs, T, h1, h2, h3, h4⟩

theorem load_lp (hL : TIOk P t i) (ho : o.op = .load t x) (g : Gam C s X β a.tmps w) {n off : Nat} {l c : List A1} (hl : look n s.ents = some (.box l))
    (hx : AVOk (cx C s β w) (.v false [.lp n off]) (a.eval x)) (hw : window off i.zero.length l = some c) {K Q} (hK : Goes C X o a (.v i.agg c) s K) : o.wp P a w K Q := by
  obtain ⟨a1, h1, h2, _⟩ := hx; cases h1
  obtain ⟨b, vs, T, hb, hv, hh, hok⟩ := lp_val g hl h2
  obtain ⟨v, hr, hv'⟩ := load_ok (x := cx C s β w) hL (b := b) (q := 0) (fun j a1 ha => by
    obtain ⟨u, hu, k⟩ := hok.get ha
    refine ⟨u, ?_, k⟩
    simp only [Nat.zero_add]
    show w.cell? _ = _
    rw [cell_of_row _ b j vs T (0, 0) hh]; simpa using hu) hw
  refine wp_run (v := v) ?_ (hK v w β g hv')
  simp only [Nat.zero_add] at hr
  simp [execOp, ho, Instr.loadAt, Instr.sureAddr, hv]
  have hr : (loadVar t ⟨b, off, none⟩).run P w = .ok v w := hr
  simp [hr]

theorem load_sp (hL : TIOk P t i) (ho : o.op = .load t x) (g : Gam C s X β a.tmps w) {cs : List Cell} {off : Nat} {c : List A1}
    (hx : AVOk (cx C s β w) (.v false [.sp cs off]) (a.eval x)) (hw : window off i.zero.length (dataL cs) = some c) {K Q} (hK : Goes C X o a (.v i.agg c) s K) : o.wp P a w K Q := by
  obtain ⟨a1, h1, h2, _⟩ := hx; cases h1
  obtain ⟨b, q, hv, hc⟩ := h2
  obtain ⟨v, hr, hv'⟩ := load_ok (x := cx C s β w) hL (b := b) (q := q) (fun j a1 ha => by
    have hd : ∀ (cs : List Cell) (j : Nat) (a1 : A1), (dataL cs)[j]? = some a1 → ∃ c, cs[j]? = some c ∧ a1 = A1.d c := by
      intro cs
      induction cs with
      | nil => intro j a1 h; simp [dataL] at h
      | cons c r ih =>
        intro j a1 h
        cases j with
        | zero => simp [dataL] at h; exact ⟨c, rfl, h.symm⟩
        | succ j => simp [dataL] at h; simpa using ih j a1 h
    obtain ⟨cc, h1, rfl⟩ := hd cs j a1 ha
    obtain ⟨u, hu, hr⟩ := hc.2 j cc h1
    obtain ⟨fp, hr1, hr2⟩ := hr
    exact ⟨u, hu, ⟨fp, hr1, hr2⟩, hr1.oneCell1⟩) hw
  refine wp_run (v := v) ?_ (hK v w β g hv')
  simp [execOp, ho, Instr.loadAt, Instr.sureAddr, hv]
  have hr : (loadVar t ⟨b, q + off, none⟩).run P w = .ok v w := hr
  simp [hr]
end
end Go.Di
