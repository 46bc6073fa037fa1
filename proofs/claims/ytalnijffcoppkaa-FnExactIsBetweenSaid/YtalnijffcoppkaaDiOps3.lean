/-
  Own work. Elements of own arrays, stores, new variables, structs.
-/
import Derived.Test.YtalnijffcoppkaaDiOps2
open Go.RowKit (Below)
namespace Go.Di

theorem av_cells' {x : Cx} {av : AV} {l : List A1} {v : Value} (h : AVOk x av v) (hc : av.cells = some l) : L1Ok x l v.cells.toList ∧ ∃ g, av = .v g l := by
  unfold AV.cells at hc
  split at hc
  · cases hc
  · rename_i g l' hne
    cases hc
    exact ⟨av_cells h fun hg hl => by subst hg; subst hl; exact hne rfl rfl, g, rfl⟩
  · cases hc

theorem elem_cells {x : Cx} {fr : Bool} {t : ST} {xs : List t.El} {v : Value} (h : EntOk x (.arr fr t xs) v) {g q m cap : Nat} (hv : v = .slice (some ⟨g, q, none⟩) m cap) :
    ∀ (i : Nat) (c : Cell), (flat t xs)[i]? = some c → ∃ u, x.w.cell? ⟨g, q + i, none⟩ = some u ∧ x.rd u c := by
  subst hv
  intro i c hi
  cases fr with
  | true =>
    obtain ⟨fp, h1, h2⟩ := h
    cases h1 with
    | emp => simp [flat] at hi
    | sl b off len cap t xs vals fp hl hc k1 k2 =>
      refine ⟨vals i, k1 i c hi, fp i, k2 i c hi, fun b' hb' => h2 b' (List.mem_cons_of_mem _ (List.mem_flatMap.2 ⟨i, List.mem_range.2 ?_, hb'⟩))⟩
      exact (List.getElem?_eq_some_iff.1 hi).1
  | false =>
    rcases h with ⟨h0, _⟩ | ⟨g', cap', cur, T, h1, h2, h3, h4, h5, h6, h7⟩
    · subst h0; simp [flat] at hi
    · cases h1
      obtain ⟨u, hu, hr⟩ := h7 i c hi
      exact ⟨u, by rw [Nat.zero_add, cell_of_row _ _ i cur T (0, 0) h5]; exact hu, hr⟩

theorem dataL_get : ∀ (cs : List Cell) (j : Nat) (a1 : A1), (dataL cs)[j]? = some a1 → ∃ c, cs[j]? = some c ∧ a1 = A1.d c
  | [], j, a1, h => by simp [dataL] at h
  | c :: r, 0, a1, h => by simp [dataL] at h; exact ⟨c, rfl, h.symm⟩
  | c :: r, j + 1, a1, h => by simp [dataL] at h; simpa using dataL_get r j a1 h
theorem length_dataL : ∀ cs : List Cell, (dataL cs).length = cs.length
  | [] => rfl
  | c :: r => by simp [dataL, length_dataL r]

section
variable {P : Program} {C : Bs} {w w' : World} {s s' : St} {X : Nat → Prop} {β : Nat → Option Value} {a : Act} {o : Oper}
  {t : TypeId} {x y : Operand} {i : TI} {K : Act → World → Prop} {Q : Exit → Act → World → Prop}

theorem load_oe (hL : TIOk P t i) (ho : o.op = .load t x) (g : Gam C s X β a.tmps w) {n j off : Nat} {fr : Bool} {u : ST} {xs : List u.El} (hl : look n s.ents = some (.arr fr u xs))
    (hx : AVOk (cx C s β w) (.v false [.oe n j off]) (a.eval x)) (hb : off + i.zero.length ≤ u.size) {e : u.El} (he : xs[j]? = some e)
    (hK : Goes C X o a (.v i.agg (splitAt' i.zero.length (splitAt' off (dataL (u.cells e))).2).1) s K) : o.wp P a w K Q := by
  obtain ⟨a1, h1, h2, _⟩ := hx; cases h1
  obtain ⟨_, gb, q, m, cap, hβ, hv⟩ := h2 fr u xs hl
  have hent := g.ents n _ _ hl hβ
  have hw : window off i.zero.length (dataL (u.cells e)) = some (splitAt' i.zero.length (splitAt' off (dataL (u.cells e))).2).1 := by
    unfold window
    have : Nat.beq (splitAt' i.zero.length (splitAt' off (dataL (u.cells e))).2).1.length i.zero.length = true := by
      simp only [splitAt'_eq, List.length_take, List.length_drop, length_dataL, length_cells, Nat.beq_eq]; omega
    simp only [this]
  obtain ⟨v, hr, hv'⟩ := load_ok (x := cx C s β w) hL (b := gb) (q := q + j * u.size) (fun k a1 ha => by
    obtain ⟨c, h1, rfl⟩ := dataL_get _ _ _ ha
    have hk : k < u.size := by have := (List.getElem?_eq_some_iff.1 h1).1; rwa [length_cells] at this
    have := flat_get u xs j e k he hk
    obtain ⟨v, hv, fp, hr1, hr2⟩ := elem_cells hent rfl (j * u.size + k) c (by rw [this]; exact h1)
    exact ⟨v, by rw [Nat.add_assoc]; exact hv, ⟨fp, hr1, hr2⟩, hr1.oneCell1⟩) hw
  refine wp_run (v := v) ?_ (hK v w β g hv')
  have hr : (loadVar t ⟨gb, q + j * u.size + off, none⟩).run P w = .ok v w := hr
  simp [execOp, ho, Instr.loadAt, Instr.sureAddr, hv, hr]

theorem below_setRow {B g : Nat} (h : B ≤ g) (cs : Array Value) : Below B w (w.setRow g cs) :=
  ⟨rfl, rfl, rfl, by simp [World.setRow], fun k hk => setRow_other w g k cs (by omega)⟩

theorem run_store (hL : TIOk P t i) (ho : o.op = .store t x y) {b off : Nat} {cur : Array Value} {T : TypeId} (hx : a.eval x = .pointer (some ⟨b, off, none⟩))
    (hh : w.heap[b]? = some (.cells cur T (0, 0))) (hlen : (a.eval y).cells.size = i.zero.length) (hfit : off + (a.eval y).cells.size ≤ cur.size) (h1 : ∀ v ∈ (a.eval y).cells.toList, v.oneCell' = true) :
    (execOp a.eval o).run P w = .ok .skip (w.setRow b (cur.toList.take off ++ (a.eval y).cells.toList ++ cur.toList.drop (off + (a.eval y).cells.size)).toArray) := by
  obtain ⟨inf, d, z, hi, hu, hs, _⟩ := hL
  have hst := run_storeCells_at P b off T (a.eval y).cells.toList 0 cur w hh (by simpa using hfit) h1
  simp only [Nat.add_zero, Array.length_toList] at hst
  simp [execOp, ho, Instr.storeAt, Instr.sureAddr, hx, storeVar, sizeOf, typeInfo, hi, hs, hlen, hst]

theorem store_lp (hL : TIOk P t i) (ho : o.op = .store t x y) (hd : o.dst = none) (g : Gam C s X β a.tmps w) {n off : Nat} {l l' c : List A1} {av : AV} (hl : look n s.ents = some (.box l))
    (hx : AVOk (cx C s β w) (.v false [.lp n off]) (a.eval x)) (hy : AVOk (cx C s β w) av (a.eval y)) (hc : av.cells = some c) (hlen : c.length = i.zero.length) (hp : patch off c l = some l')
    (hK : Goes C X o a .bot ⟨s.env, put n (.box l') s.ents⟩ K) : o.wp P a w K Q := by
  obtain ⟨a1, h1, h2, _⟩ := hx; cases h1
  obtain ⟨b, vs, T, hb, hv, hh, hok⟩ := lp_val g hl h2
  obtain ⟨hcv, _⟩ := av_cells' hy hc
  obtain ⟨hfit, hnew⟩ := hok.patch hcv hp
  have hcl := hcv.length
  simp only [Array.length_toList] at hcl hfit
  refine wp_run_skip (run_store hL ho hv hh (by omega) hfit hcv.one) (hK undef _ β ?_ av_bot)
  have hbt : C.b0 ≤ b := (g.fresh b ⟨n, _, _, hl, rfl, hb, by simp [topOf]⟩).1
  refine g.write hl (.inl ⟨l, l', rfl, rfl⟩) hb (fun k hk => setRow_other w b k _ fun e => hk (by simp [topOf, e])) (by simp [World.setRow]) (below_setRow hbt _) fun hle => ?_
  refine ⟨b, _, T, rfl, setRow_heap w b vs _ T (0, 0) hh, ?_⟩
  have := hle.l1 (L1refs_true _) hnew
  simpa using this

theorem flat_set (t : ST) (e : t.El) : ∀ (xs : List t.El) (i : Nat), i < xs.length → flat t (xs.set i e) = (flat t xs).take (i * t.size) ++ t.cells e ++ (flat t xs).drop (i * t.size + t.size)
  | [], i, h => by simp at h
  | x :: r, 0, _ => by
    simp only [flat, List.set_cons_zero, List.flatMap_cons, Nat.zero_mul, List.take_zero, List.nil_append, Nat.zero_add]
    rw [List.drop_append_of_le_length (by rw [length_cells]; exact Nat.le_refl _)]
    rw [List.drop_of_length_le (by rw [length_cells]; exact Nat.le_refl _)]; simp
  | x :: r, i + 1, h => by
    have ih := flat_set t e r i (by simpa using h)
    simp only [flat] at ih
    simp only [flat, List.set_cons_succ, List.flatMap_cons, ih]
    have e1 : (i + 1) * t.size = (t.cells x).length + i * t.size := by rw [length_cells, Nat.add_mul]; omega
    rw [e1, List.take_length_add_append, Nat.add_assoc, List.drop_length_add_append]
    simp

theorem get_three {α : Type} (l m n : List α) (i : Nat) : (l ++ m ++ n)[i]? = if i < l.length then l[i]? else if i < l.length + m.length then m[i - l.length]? else n[i - l.length - m.length]? := by
  rw [List.append_assoc]
  split
  · rename_i h; exact List.getElem?_append_left h
  · rename_i h
    rw [List.getElem?_append_right (by omega)]
    split
    · exact List.getElem?_append_left (by omega)
    · rw [List.getElem?_append_right (by omega)]

/-- A whole element of an own array is stored. -/
theorem store_oe (hL : TIOk P t i) (ho : o.op = .store t x y) (g : Gam C s X β a.tmps w) {n j : Nat} {u : ST} {xs : List u.El} {e : u.El} (hl : look n s.ents = some (.arr false u xs))
    (hx : AVOk (cx C s β w) (.v false [.oe n j 0]) (a.eval x)) (hlen : (a.eval y).cells.size = i.zero.length) (hlen' : (a.eval y).cells.size = u.size)
    (hel : ∀ (k : Nat) (c : Cell), (u.cells e)[k]? = some c → ∃ v, (a.eval y).cells[k]? = some v ∧ (cx C s β w).rd v c) (h1 : ∀ v ∈ (a.eval y).cells.toList, v.oneCell' = true)
    (hK : Goes C X o a .bot ⟨s.env, put n (.arr false u (xs.set j e)) s.ents⟩ K) : o.wp P a w K Q := by
  obtain ⟨a1, q1, q2, _⟩ := hx; cases q1
  obtain ⟨hj, gb, q, m, cap, hβ, hv⟩ := q2 false u xs hl
  have hent := g.ents n _ _ hl hβ
  rcases hent with ⟨h0, _⟩ | ⟨g', cap', cur, T, k1, k2, k3, k4, k5, k6, k7⟩
  · subst h0; simp at hj
  cases k1
  have hpos := size_pos u
  have hle : (j + 1) * u.size ≤ cap * u.size := Nat.mul_le_mul_right _ (by omega)
  have hfit : j * u.size + (a.eval y).cells.size ≤ cur.size := by rw [k6, hlen', ← Nat.succ_mul]; exact hle
  have hv : a.eval x = .pointer (some ⟨gb, j * u.size, none⟩) := by rw [hv]; simp
  refine wp_run_skip (run_store hL ho hv k5 hlen hfit h1) (hK undef _ β ?_ av_bot)
  have htop : gb ∈ topOf (.slice (some ⟨gb, 0, none⟩) xs.length cap) := by cases cap with | zero => omega | succ k => simp [topOf]
  have hbt : C.b0 ≤ gb := (g.fresh gb ⟨n, _, _, hl, rfl, hβ, htop⟩).1
  refine g.write hl (.inr ⟨u, xs, xs.set j e, rfl, rfl, by simp⟩) hβ (fun k hk => setRow_other w gb k _ fun e' => hk (by rw [e']; exact htop)) (by simp [World.setRow]) (below_setRow hbt _) fun hle => ?_
  refine .inr ⟨gb, cap, _, T, by simp, k2, by simpa using k3, k4, setRow_heap w gb cur _ T (0, 0) k5, ?_, fun idx c hc => ?_⟩
  · simp only [List.size_toArray, List.length_append, List.length_take, List.length_drop, Array.length_toList]; omega
  · rw [flat_set u e xs j hj, get_three] at hc
    have hfl := length_flat u xs
    have hjl : (j + 1) * u.size ≤ xs.length * u.size := Nat.mul_le_mul_right _ (by omega)
    rw [Nat.add_mul, Nat.one_mul] at hjl
    have hlt : ((flat u xs).take (j * u.size)).length = j * u.size := by rw [List.length_take]; omega
    rw [hlt, length_cells] at hc
    simp only [List.getElem?_toArray]
    rw [get_three]
    have hlt' : (cur.toList.take (j * u.size)).length = j * u.size := by rw [List.length_take, Array.length_toList]; omega
    rw [hlt', Array.length_toList]
    split
    · rename_i h
      rw [if_pos h, List.getElem?_take_of_lt h] at hc
      obtain ⟨v, hv, hr⟩ := k7 idx c hc
      exact ⟨v, by rw [List.getElem?_take_of_lt h]; simpa using hv, hle.rd hr⟩
    · rename_i h
      rw [if_neg h] at hc
      split
      · rename_i h'
        rw [if_pos (by omega)] at hc
        obtain ⟨v, hv, hr⟩ := hel _ c hc
        exact ⟨v, by simpa using hv, hle.rd hr⟩
      · rename_i h'
        rw [if_neg (by omega), List.getElem?_drop] at hc
        rw [show j * u.size + u.size + (idx - j * u.size - u.size) = idx from by omega] at hc
        obtain ⟨v, hv, hr⟩ := k7 idx c hc
        refine ⟨v, ?_, hle.rd hr⟩
        rw [List.getElem?_drop, show j * u.size + (a.eval y).cells.size + (idx - j * u.size - (a.eval y).cells.size) = idx from by omega]
        simpa using hv
end
end Go.Di
