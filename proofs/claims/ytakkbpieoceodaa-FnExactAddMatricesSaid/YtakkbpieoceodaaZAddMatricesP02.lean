/-
  Own work: part 9 of the texts that the proof of the given statement leans on.
-/
import Derived.Test.YtakkbpieoceodaaZAddMatricesP01
namespace Go.Di
end Go.Di
namespace Go.Di
end Go.Di
namespace Go.Di
theorem inB_iff {n lo hi : Int} : inB n lo hi = true ↔ lo ≤ n ∧ n ≤ hi := by
  unfold inB; simp only [Bool.and_eq_true, decide_eq_true_iff]
structure MxQ (m : Mx) (r c : Nat) (q : List Rat) : Prop where
  r24 : r ≤ 24
  c24 : c ≤ 24
  len : q.length = r * c
  fits : Fits q
  eq : m = ⟨r, c, q.map rq⟩
theorem prod24 {r c : Nat} (hr : r ≤ 24) (hc : c ≤ 24) : r * c ≤ 576 := by
  calc r * c ≤ 24 * 24 := Nat.mul_le_mul hr hc
    _ = 576 := rfl
theorem mx_cases {m : Mx} (h : mxB m = true) : ∃ r c q, MxQ m r c q := by
  unfold mxB at h
  simp only [Bool.and_eq_true, inB_iff] at h
  obtain ⟨⟨h1, h2⟩, ⟨h3, h4⟩, h5, h6⟩ := h
  obtain ⟨q, hq, he⟩ := goods_q h6
  obtain ⟨rows, cols, cells⟩ := m
  simp only at *
  obtain ⟨r, rfl⟩ := Int.eq_ofNat_of_zero_le h1
  obtain ⟨c, rfl⟩ := Int.eq_ofNat_of_zero_le h3
  have hp := prod24 (show r ≤ 24 by omega) (show c ≤ 24 by omega)
  have e1 : ((r : Int) * (c : Int)) = ((r * c : Nat) : Int) := by simp
  rw [e1, wrap_i64 (by omega) (by omega), beq_iff_eq] at h5
  subst he
  exact ⟨r, c, q, by omega, by omega, by rw [List.length_map] at h5; omega, hq, rfl⟩
theorem at_pos {i c k : Nat} (hi : i < 1000) (hc : c ≤ 1000) (hk : k < 1000) : IntKind.i64.wrap (IntKind.i64.wrap ((i : Int) * (c : Int)) + (k : Int)) = ((i * c + k : Nat) : Int) := by
  have hp : i * c ≤ 1000 * 1000 := Nat.mul_le_mul (by omega) hc
  have e1 : ((i : Int) * (c : Int)) = ((i * c : Nat) : Int) := by simp
  rw [e1, wrap_i64 (n := ((i * c : Nat) : Int)) (by omega) (by omega), wrap_i64 (by omega) (by omega)]
  simp
theorem at_lt {i r c k : Nat} (hi : i < r) (hk : k < c) : i * c + k < r * c := by
  have : (i + 1) * c ≤ r * c := Nat.mul_le_mul_right _ (by omega)
  rw [Nat.add_mul, Nat.one_mul] at this
  omega
theorem impl_at {r c : Nat} {q : List Rat} {i k : Nat} {x : Int} (hl : q.length = r * c) (hr : r ≤ 24) (hc : c ≤ 24) (hi : i < r) (hk : k < c) : M_impl_Matrix_at ⟨x, c, q.map rq⟩ i k = some (ro q[i * c + k]?) := by
  unfold M_impl_Matrix_at
  simp only []
  rw [at_pos (by omega) (by omega) (by omega), idx_q (by rw [hl]; exact at_lt hi hk)]; rfl
/-! ### Matrices of integers -/
/-! ### Elements, rows, diagonals -/
theorem nat_bne (a b : Nat) : ((a : Int) != (b : Int)) = !(a == b) := i64_ne a b
/-! ### Products with vectors -/
end Go.Di
namespace Go.Di
/-! ### Grids -/
def grid {α : Type} (r c : Nat) (g : Nat → Nat → α) : List α := (List.range r).flatMap fun i => (List.range c).map (g i)
theorem grid_succ {α : Type} (r c : Nat) (g : Nat → Nat → α) : grid (r + 1) c g = grid r c g ++ (List.range c).map (g r) := by
  unfold grid; rw [List.range_succ, List.flatMap_append]; simp
theorem len_grid {α : Type} (r c : Nat) (g : Nat → Nat → α) : (grid r c g).length = r * c := by
  induction r with
  | zero => simp [grid]
  | succ r ih => rw [grid_succ, List.length_append, ih, List.length_map, List.length_range, Nat.add_mul, Nat.one_mul]
theorem grid_at {α : Type} {r c : Nat} (g : Nat → Nat → α) {j : Nat} (h : j < r * c) : (grid r c g)[j]? = some (g (j / c) (j % c)) := by
  induction r with
  | zero => omega
  | succ r ih =>
    rw [grid_succ]
    by_cases hj : j < r * c
    · rw [List.getElem?_append_left (by rw [len_grid]; exact hj)]; exact ih hj
    · rw [List.getElem?_append_right (by rw [len_grid]; omega), len_grid]
      rw [Nat.add_mul, Nat.one_mul] at h
      have hk : j - r * c < c := by omega
      rw [List.getElem?_map, List.getElem?_range hk]
      have e : j = c * r + (j - r * c) := by rw [Nat.mul_comm c r]; omega
      have h1 : j / c = r := by
        rw [e, Nat.mul_add_div (by omega), Nat.div_eq_of_lt hk]; omega
      have h2 : j % c = j - r * c := by
        conv => lhs; rw [e]
        rw [Nat.mul_add_mod, Nat.mod_eq_of_lt hk]
      rw [h1, h2]; rfl
theorem div_parts {r c j : Nat} (h : j < r * c) : j / c < r ∧ j % c < c ∧ j / c * c + j % c = j := by
  have hc : 0 < c := by
    rcases Nat.eq_zero_or_pos c with h0 | h0
    · subst h0; simp at h
    · exact h0
  refine ⟨Nat.div_lt_of_lt_mul (by rw [Nat.mul_comm]; exact h), Nat.mod_lt _ hc, ?_⟩
  rw [Nat.mul_comm]; exact Nat.div_add_mod j c
theorem grid_lin {α : Type} (r c : Nat) (f : Nat → α) : grid r c (fun i k => f (i * c + k)) = (List.range (r * c)).map f := by
  apply List.ext_getElem?
  intro j
  by_cases hj : j < r * c
  · rw [grid_at _ hj, (div_parts hj).2.2, List.getElem?_map, List.getElem?_range hj]; rfl
  · rw [List.getElem?_eq_none (by rw [len_grid]; omega), List.getElem?_eq_none (by simp; omega)]
/-! ### Loops -/
theorem app_from {β σ ρ : Type} {S : σ → Option (σ ⊕ ρ)} (x0 : List β) (st : Int → List β → σ) (g : Nat → β) (n : Nat) {r : List β → ρ}
    (hS : ∀ (i : Nat) out, i < n → out.length = x0.length + i → S (st (i : Int) out) = some (.inl (st ((i + 1 : Nat) : Int) (out ++ [g i])))) (hE : ∀ out, out.length = x0.length + n → S (st (n : Int) out) = some (.inr (r out))) :
    whileO S (st 0 x0) = some (r (x0 ++ (List.range n).map g)) := by
  have key := whileO_upto S (fun i => st (i : Int) (x0 ++ (List.range i).map g)) n (r (x0 ++ (List.range n).map g)) (fun i hi => by
    rw [hS i _ hi (by simp), List.range_succ, List.map_append, List.append_assoc]; rfl) (hE _ (by simp))
  simpa using key
theorem grid_loop {β σ ρ : Type} {S : σ → Option (σ ⊕ ρ)} (st : Int → List β → σ) (g : Nat → Nat → β) (n c : Nat) {r : List β → ρ}
    (hS : ∀ (i : Nat) out, i < n → out.length = i * c → S (st (i : Int) out) = some (.inl (st ((i + 1 : Nat) : Int) (out ++ (List.range c).map (g i))))) (hE : ∀ out, out.length = n * c → S (st (n : Int) out) = some (.inr (r out))) :
    whileO S (st 0 []) = some (r (grid n c g)) := by
  have key := whileO_upto S (fun i => st (i : Int) (grid i c g)) n (r (grid n c g)) (fun i hi => by
    rw [hS i _ hi (len_grid ..), grid_succ]) (hE _ (len_grid ..))
  simpa [grid] using key
theorem room_row {i n c k r m : Nat} (hi : i < n) (hk : k < c) (hn : n ≤ 24) (hc : c ≤ 24) (hr : r = i * c) (hm : m = r + k) : guardO (Nat.ble (m + 1) maxNew) = some () := by
  have := at_lt hi hk
  have := prod24 hn hc
  exact room1 (by omega)
/-! ### Identities -/
/-! ### Transposed matrices -/
def trans (q : List Rat) (r c : Nat) : List Rat := grid c r fun i k => (q[k * c + i]?).getD 0
/-! ### Sums, products -/
theorem impl_givenMx (x y : Int) {l : List (Option Rat)} (h : l.length ≤ 1048576) : M_impl_givenMatrix_c ⟨x, y, l.map ro⟩ = some (cond (l.all Option.isSome) (⟨x, y, l.map ro⟩, true) (⟨0, 0, []⟩, false)) := by
  unfold M_impl_givenMatrix_c
  simp only [impl_complete h, Option.bind_some]
  cases l.all Option.isSome <;> rfl
theorem spec_doneMx (x y : Int) {l : List (Option Rat)} (h : l.length ≤ 1048576) : M_spec_l06Done_c ⟨x, y, l.map ro⟩ = some (cond (l.all Option.isSome) (⟨x, y, l.map ro⟩, true) (⟨0, 0, []⟩, false)) := by
  unfold M_spec_l06Done_c
  simp only [spec_fine h, Option.bind_some]
  cases l.all Option.isSome <;> rfl
noncomputable def givenO (x y : Int) (l : List (Option Rat)) : Mx × Bool := cond (l.all Option.isSome) (⟨x, y, l.map ro⟩, true) (⟨0, 0, []⟩, false)
theorem givenO_fit {x y : Int} {l : List (Option Rat)} (h : Rfit (l.map ro)) : Rfit (givenO x y l).1.cells := by
  unfold givenO
  cases l.all Option.isSome
  · exact rfit_nil
  · exact h
theorem add_both {a b : Mx} (ha : lfit Rt.fit a.cells) (hb : lfit Rt.fit b.cells) : ∃ m ok, M_spec_AddMatrices a b = some (m, ok) ∧ M_impl_AddMatrices a b = some (m, ok) ∧ Rfit m.cells := by
  have no : ∀ {s i : Option (Mx × Bool)}, s = some (⟨0, 0, []⟩, false) → i = some (⟨0, 0, []⟩, false) → ∃ m ok, s = some (m, ok) ∧ i = some (m, ok) ∧ Rfit m.cells := fun h1 h2 => ⟨_, _, h1, h2, rfit_nil⟩
  cases ka : mxB a with
  | false => exact no (by unfold M_spec_AddMatrices; rw [spec_mxOk ha, ka]; rfl) (by unfold M_impl_AddMatrices; rw [impl_mxOk ha, ka]; rfl)
  | true =>
  cases kb : mxB b with
  | false => exact no (by unfold M_spec_AddMatrices; rw [spec_mxOk ha, ka, spec_mxOk hb, kb]; rfl) (by unfold M_impl_AddMatrices; rw [impl_mxOk ha, ka, impl_mxOk hb, kb]; rfl)
  | true =>
  cases h1 : (a.rows != b.rows) with
  | true => exact no (by unfold M_spec_AddMatrices; rw [spec_mxOk ha, ka, spec_mxOk hb, kb, h1]; rfl) (by unfold M_impl_AddMatrices; rw [impl_mxOk ha, ka, impl_mxOk hb, kb, h1]; rfl)
  | false =>
  cases h2 : (a.cols != b.cols) with
  | true => exact no (by unfold M_spec_AddMatrices; rw [spec_mxOk ha, ka, spec_mxOk hb, kb, h1, h2]; rfl) (by unfold M_impl_AddMatrices; rw [impl_mxOk ha, ka, impl_mxOk hb, kb, h1, h2]; rfl)
  | false =>
  obtain ⟨r, c, p, hp⟩ := mx_cases ka
  obtain ⟨hr, hc, hl, hf, ea⟩ := hp
  obtain ⟨r', c', q, hq⟩ := mx_cases kb
  obtain ⟨_, _, hl', hf', eb⟩ := hq
  have e1 : r' = r := by rw [ea, eb] at h1; simp only at h1; rw [nat_bne] at h1; simp at h1; exact h1.symm
  have e2 : c' = c := by rw [ea, eb] at h2; simp only at h2; rw [nat_bne] at h2; simp at h2; exact h2.symm
  subst e1; subst e2
  have hn := prod24 hr hc
  let G : List (Option Rat) := (List.range (r' * c')).map fun j => addO p[j]? q[j]?
  have hGl : G.length = r' * c' := by simp [G]
  have hGo : ∀ o ∈ G, Oks o := fun o ho => by obtain ⟨j, _, rfl⟩ := List.mem_map.1 ho; exact oks_addO
  refine ⟨(givenO r' c' G).1, (givenO r' c' G).2, ?_, ?_, givenO_fit (rfit_ro hGo (by omega))⟩
  · unfold M_spec_AddMatrices L_spec_AddMatrices_0
    rw [spec_mxOk ha, ka, spec_mxOk hb, kb, h1, h2]
    simp only [Option.bind_some, Bool.not_true, cond_false]
    subst ea; subst eb
    simp only [List.length_map]
    rw [app_loop (S := S_spec_AddMatrices_0) (fun j out => (p.map rq, (p.length : Int), j, (r' : Int), (c' : Int), q.map rq, 0, 0, [], (r' : Int), (c' : Int), out, ())) (fun j => ro (addO p[j]? q[j]?)) p.length (r := fun out => (0, 0, [], (r' : Int), (c' : Int), out, ())) (fun j out hj ho => by
      simp only [S_spec_AddMatrices_0, dlt hj, cond_true, idx_q hj, idx_q (show j < q.length by omega), Option.bind_some, spec_addO (hf.get j) (hf'.get j), room1 (show out.length ≤ 2000000 by omega), succ_wrap hj (show p.length ≤ 1048576 by omega)]) (fun out _ => by simp [S_spec_AddMatrices_0])]
    rw [hl, show (List.range (r' * c')).map (fun j => ro (addO p[j]? q[j]?)) = G.map ro by simp only [G]; rw [List.map_map]; rfl]
    simp only [Option.bind_some]
    rw [spec_doneMx _ _ (by omega)]; rfl
  · unfold M_impl_AddMatrices M_impl_built__impl_AddMatrices_c1 L_impl_built__impl_AddMatrices_c1_0
    rw [impl_mxOk ha, ka, impl_mxOk hb, kb, h1, h2]
    simp only [Option.bind_some, Bool.not_true, cond_false]
    subst ea; subst eb
    simp only []
    rw [grid_loop (S := S_impl_built__impl_AddMatrices_c1_0) (fun i out => ((c' : Int), (r' : Int), (c' : Int), p.map rq, (r' : Int), (c' : Int), q.map rq, (r' : Int), i, 0, 0, [], (r' : Int), (c' : Int), out, ())) (fun i k => ro (addO p[i * c' + k]? q[i * c' + k]?)) r' c' (r := fun out => (0, 0, [], (r' : Int), (c' : Int), out, ())) (fun i out hi ho => by
      unfold S_impl_built__impl_AddMatrices_c1_0 L_impl_built__impl_AddMatrices_c1_1
      simp only [dlt hi, cond_true]
      rw [app_from (S := S_impl_built__impl_AddMatrices_c1_1) out (fun k out => ((c' : Int), (r' : Int), (c' : Int), p.map rq, (r' : Int), (c' : Int), q.map rq, (i : Int), (r' : Int), (i : Int), (c' : Int), k, 0, 0, [], (r' : Int), (c' : Int), out, ())) (fun k => ro (addO p[i * c' + k]? q[i * c' + k]?)) c' (r := fun out => ((c' : Int), (r' : Int), (c' : Int), p.map rq, (r' : Int), (c' : Int), q.map rq, (r' : Int), (i : Int), 0, 0, [], (r' : Int), (c' : Int), out, ())) (fun k xs hk hx => by
        simp only [S_impl_built__impl_AddMatrices_c1_1, M_impl_AddMatrices_c1, dlt hk, cond_true, impl_at hl hr hc hi hk, impl_at hl' hr hc hi hk, Option.bind_some, impl_addO (hf.get _) (hf'.get _), room_row hi hk hr hc ho hx, succ_wrap hk (show c' ≤ 1048576 by omega)]) (fun out _ => by simp [S_impl_built__impl_AddMatrices_c1_1])]
      simp only [Option.bind_some, succ_wrap hi (show r' ≤ 1048576 by omega)]) (fun out _ => by simp [S_impl_built__impl_AddMatrices_c1_0])]
    rw [grid_lin r' c' fun j => ro (addO p[j]? q[j]?), show (List.range (r' * c')).map (fun j => ro (addO p[j]? q[j]?)) = G.map ro by simp only [G]; rw [List.map_map]; rfl]
    simp only [Option.bind_some]
    rw [impl_givenMx _ _ (by omega)]; rfl
/-! ### Parts -/
end Go.Di
namespace Go.Di
theorem sz_go {x : Option Int} {left : Int} {n : Nat} {k : Int → Option Bool} (h : SzR x left n) (hk : ∀ r : Int, 0 ≤ r → r + n = left → k r = some true) :
    (x.bind fun r => cond (decide (r < 0)) (some true) (k r)) = some true := by
  rcases h with rfl | ⟨r, h0, h1, rfl⟩
  · rfl
  · have : decide (r < 0) = false := by simpa using h0
    simp only [Option.bind_some, this, cond_false, hk r h0 h1]
end Go.Di
namespace Go.Di
end Go.Di
namespace Go.Di
end Go.Di
namespace Go.Di
end Go.Di
namespace Go.Di
end Go.Di
namespace Go.Di
end Go.Di
namespace Go.Di
theorem law_AddMatrices (a b : Mx) (h : CK.wf (.sl .rat) a.cells) (h' : CK.wf (.sl .rat) b.cells) : M_laws_FnExactAddMatrices a b = some true := by
  unfold M_laws_FnExactAddMatrices
  refine sz_go (sz_mx h (by omega) (by omega)) fun r r0 r1 => sz_go (sz_mx h' r0 (by omega)) fun r' q0 q1 => ?_
  have f := rfit_lsz (l := a.cells) (by omega)
  have f' := rfit_lsz (l := b.cells) (by omega)
  have f1 := f.few
  have f2 := f'.few
  have hw : ws wR a.cells ≤ 1048576 := by rw [ws_rats]; omega
  obtain ⟨m, ok, hs, hi, g⟩ := add_both f.fit f'.fit
  have g1 := g.few
  simp (disch := omega) only [to_mx f.fit, to_mx f'.fit, hs, hi, Option.bind_some, eq_mx f.fit, eq_mx f'.fit, eq_mx g.fit, eqB_self, beq_self_eq_true, Bool.not_true, cond_false, mark_mx f.fit f.few, mark_mx f'.fit f'.few, mark_mx g.fit g.few, held_mx g.fit g.few, dneg, bneSelf]
end Go.Di
