/-
  Own work: part 9 of the texts that the proof of the given statement leans on.
-/
import Derived.Test.YtakkbpieoceodaaZSubmatrixP01
namespace Go.Di
theorem inB_len {x : Int} {n : Nat} (h : n ≤ 1048576) : inB x 0 (IntKind.i64.wrap ((n : Int) - 1)) = (decide (0 ≤ x) && decide (x < n)) := by
  rw [wrap_i64 (by omega) (by omega)]
  unfold inB
  rw [Bool.eq_iff_iff]; simp; omega
end Go.Di
namespace Go.Di
theorem inB_iff {n lo hi : Int} : inB n lo hi = true ↔ lo ≤ n ∧ n ≤ hi := by
  unfold inB; simp only [Bool.and_eq_true, decide_eq_true_iff]
structure MxQ (m : Mx) (r c : Nat) (q : List Rat) : Prop where
  r24 : r ≤ 24
  c24 : c ≤ 24
  len : q.length = r * c
  fits : Fits q
  eq : m = ⟨r, c, q.map rq⟩
theorem prod24 {r c : Nat} (hr : r ≤ 24) (hc : c ≤ 24) : r * c ≤ 576 := by
  calc r * c ≤ 24 * 24 := Nat.mul_le_mul hr hc
    _ = 576 := rfl
theorem mx_cases {m : Mx} (h : mxB m = true) : ∃ r c q, MxQ m r c q := by
  unfold mxB at h
  simp only [Bool.and_eq_true, inB_iff] at h
  obtain ⟨⟨h1, h2⟩, ⟨h3, h4⟩, h5, h6⟩ := h
  obtain ⟨q, hq, he⟩ := goods_q h6
  obtain ⟨rows, cols, cells⟩ := m
  simp only at *
  obtain ⟨r, rfl⟩ := Int.eq_ofNat_of_zero_le h1
  obtain ⟨c, rfl⟩ := Int.eq_ofNat_of_zero_le h3
  have hp := prod24 (show r ≤ 24 by omega) (show c ≤ 24 by omega)
  have e1 : ((r : Int) * (c : Int)) = ((r * c : Nat) : Int) := by simp
  rw [e1, wrap_i64 (by omega) (by omega), beq_iff_eq] at h5
  subst he
  exact ⟨r, c, q, by omega, by omega, by rw [List.length_map] at h5; omega, hq, rfl⟩
theorem at_pos {i c k : Nat} (hi : i < 1000) (hc : c ≤ 1000) (hk : k < 1000) : IntKind.i64.wrap (IntKind.i64.wrap ((i : Int) * (c : Int)) + (k : Int)) = ((i * c + k : Nat) : Int) := by
  have hp : i * c ≤ 1000 * 1000 := Nat.mul_le_mul (by omega) hc
  have e1 : ((i : Int) * (c : Int)) = ((i * c : Nat) : Int) := by simp
  rw [e1, wrap_i64 (n := ((i * c : Nat) : Int)) (by omega) (by omega), wrap_i64 (by omega) (by omega)]
  simp
theorem at_lt {i r c k : Nat} (hi : i < r) (hk : k < c) : i * c + k < r * c := by
  have : (i + 1) * c ≤ r * c := Nat.mul_le_mul_right _ (by omega)
  rw [Nat.add_mul, Nat.one_mul] at this
  omega
theorem impl_at {r c : Nat} {q : List Rat} {i k : Nat} {x : Int} (hl : q.length = r * c) (hr : r ≤ 24) (hc : c ≤ 24) (hi : i < r) (hk : k < c) : M_impl_Matrix_at ⟨x, c, q.map rq⟩ i k = some (ro q[i * c + k]?) := by
  unfold M_impl_Matrix_at
  simp only []
  rw [at_pos (by omega) (by omega) (by omega), idx_q (by rw [hl]; exact at_lt hi hk)]; rfl
theorem spec_at {r c : Nat} {q : List Rat} {i k : Nat} {x : Int} (hl : q.length = r * c) (hr : r ≤ 24) (hc : c ≤ 24) (hi : i < r) (hk : k < c) : M_spec_l06At ⟨x, c, q.map rq⟩ i k = some (ro q[i * c + k]?) :=
  impl_at hl hr hc hi hk
/-! ### Matrices of integers -/
/-! ### Elements, rows, diagonals -/
theorem lt0 (i : Int) : decide (i < 0) = !decide (0 ≤ i) := by rw [Bool.eq_iff_iff]; simp
theorem ge_n (i n : Int) : decide (i ≥ n) = !decide (i < n) := by rw [Bool.eq_iff_iff]; simp
theorem copy_ro {o : Option Rat} (h : Oks o) : M_impl_copyRat (ro o) = some (ro o) := impl_copyRat (ro_fit h)
theorem copy_ro' {o : Option Rat} (h : Oks o) : M_spec_l04Copy (ro o) = some (ro o) := spec_copyRat (ro_fit h)
theorem nat_bne (a b : Nat) : ((a : Int) != (b : Int)) = !(a == b) := i64_ne a b
/-! ### Products with vectors -/
end Go.Di
namespace Go.Di
/-! ### Grids -/
def grid {α : Type} (r c : Nat) (g : Nat → Nat → α) : List α := (List.range r).flatMap fun i => (List.range c).map (g i)
theorem grid_succ {α : Type} (r c : Nat) (g : Nat → Nat → α) : grid (r + 1) c g = grid r c g ++ (List.range c).map (g r) := by
  unfold grid; rw [List.range_succ, List.flatMap_append]; simp
theorem len_grid {α : Type} (r c : Nat) (g : Nat → Nat → α) : (grid r c g).length = r * c := by
  induction r with
  | zero => simp [grid]
  | succ r ih => rw [grid_succ, List.length_append, ih, List.length_map, List.length_range, Nat.add_mul, Nat.one_mul]
theorem grid_map {α β : Type} (f : α → β) (r c : Nat) (g : Nat → Nat → α) : (grid r c g).map f = grid r c fun i k => f (g i k) := by
  unfold grid
  rw [List.map_flatMap]
  congr 1
  funext i
  rw [List.map_map]; rfl
theorem grid_mem {α : Type} {r c : Nat} {g : Nat → Nat → α} {x : α} (h : x ∈ grid r c g) : ∃ i k, i < r ∧ k < c ∧ x = g i k := by
  obtain ⟨i, hi, hx⟩ := List.mem_flatMap.1 h
  obtain ⟨k, hk, rfl⟩ := List.mem_map.1 hx
  exact ⟨i, k, List.mem_range.1 hi, List.mem_range.1 hk, rfl⟩
/-! ### Loops -/
theorem app_from {β σ ρ : Type} {S : σ → Option (σ ⊕ ρ)} (x0 : List β) (st : Int → List β → σ) (g : Nat → β) (n : Nat) {r : List β → ρ}
    (hS : ∀ (i : Nat) out, i < n → out.length = x0.length + i → S (st (i : Int) out) = some (.inl (st ((i + 1 : Nat) : Int) (out ++ [g i])))) (hE : ∀ out, out.length = x0.length + n → S (st (n : Int) out) = some (.inr (r out))) :
    whileO S (st 0 x0) = some (r (x0 ++ (List.range n).map g)) := by
  have key := whileO_upto S (fun i => st (i : Int) (x0 ++ (List.range i).map g)) n (r (x0 ++ (List.range n).map g)) (fun i hi => by
    rw [hS i _ hi (by simp), List.range_succ, List.map_append, List.append_assoc]; rfl) (hE _ (by simp))
  simpa using key
theorem grid_loop {β σ ρ : Type} {S : σ → Option (σ ⊕ ρ)} (st : Int → List β → σ) (g : Nat → Nat → β) (n c : Nat) {r : List β → ρ}
    (hS : ∀ (i : Nat) out, i < n → out.length = i * c → S (st (i : Int) out) = some (.inl (st ((i + 1 : Nat) : Int) (out ++ (List.range c).map (g i))))) (hE : ∀ out, out.length = n * c → S (st (n : Int) out) = some (.inr (r out))) :
    whileO S (st 0 []) = some (r (grid n c g)) := by
  have key := whileO_upto S (fun i => st (i : Int) (grid i c g)) n (r (grid n c g)) (fun i hi => by
    rw [hS i _ hi (len_grid ..), grid_succ]) (hE _ (len_grid ..))
  simpa [grid] using key
theorem room_row {i n c k r m : Nat} (hi : i < n) (hk : k < c) (hn : n ≤ 24) (hc : c ≤ 24) (hr : r = i * c) (hm : m = r + k) : guardO (Nat.ble (m + 1) maxNew) = some () := by
  have := at_lt hi hk
  have := prod24 hn hc
  exact room1 (by omega)
/-! ### Identities -/
theorem rfit_grid {r c : Nat} {g : Nat → Nat → Option Rat} (hr : r ≤ 24) (hc : c ≤ 24) (h : ∀ i k, i < r → k < c → Oks (g i k)) : Rfit ((grid r c g).map ro) :=
  rfit_ro (fun o ho => by obtain ⟨i, k, hi, hk, rfl⟩ := grid_mem ho; exact h i k hi hk) (by rw [len_grid]; have := prod24 hr hc; omega)
/-! ### Transposed matrices -/
def trans (q : List Rat) (r c : Nat) : List Rat := grid c r fun i k => (q[k * c + i]?).getD 0
/-! ### Sums, products -/
/-! ### Parts -/
def ascP (l : List Int) (n : Int) (i : Nat) : Bool := (decide (0 ≤ (l[i]?).getD 0) && decide ((l[i]?).getD 0 < n)) && (decide (i = 0) || decide ((l[i - 1]?).getD 0 < (l[i]?).getD 0))
def ascB (l : List Int) (n : Int) : Bool := (List.range l.length).all (ascP l n)
theorem pred_wrap {i n : Nat} (h : i < n) (h0 : 0 < i) (hn : n ≤ 1048576) : IntKind.i64.wrap ((i : Int) - 1) = ((i - 1 : Nat) : Int) := by
  rw [wrap_i64 (by omega) (by omega)]; omega
theorem impl_asc {l : List Int} (h : l.length ≤ 1048576) (n : Int) : M_impl_ascendingTo l n = some (ascB l n) := by
  unfold M_impl_ascendingTo L_impl_ascendingTo_0
  have key := all_loopE (S := S_impl_ascendingTo_0) (fun i => (l, n, l, (l.length : Int), (i : Int), ())) l.length (ascP l n) () (fun i hi => by
    have hg : l[i]? = some l[i] := List.getElem?_eq_getElem hi
    simp only [S_impl_ascendingTo_0, dlt hi, cond_true, idx_at hi, Option.bind_some, succ_wrap hi h, ascP, hg, Option.getD_some, show decide (l[i] < 0) = !decide (0 ≤ l[i]) from lt0 _, show decide (l[i] ≥ n) = !decide (l[i] < n) from ge_n _ _]
    cases h1 : decide (0 ≤ l[i]) with
    | false => rfl
    | true =>
      cases h2 : decide (l[i] < n) with
      | false => rfl
      | true =>
        by_cases h0 : i = 0
        · subst h0; rfl
        · have hp : i - 1 < l.length := by omega
          have e1 : decide ((i : Int) > 0) = true := decide_eq_true (by omega)
          simp only [e1, pred_wrap hi (show 0 < i by omega) h, idx_at hp, show decide (l[i - 1] ≥ l[i]) = !decide (l[i - 1] < l[i]) from ge_n _ _, List.getElem?_eq_getElem hp, Option.getD_some, decide_eq_false h0, Option.bind_some, cond_true, Bool.not_true, cond_false, Bool.false_or, Bool.true_and]
          cases decide (l[i - 1] < l[i]) <;> rfl) (by simp [S_impl_ascendingTo_0])
  rw [show ((0 : Nat) : Int) = 0 from rfl] at key
  rw [key]
  show _ = some ((List.range l.length).all (ascP l n))
  cases (List.range l.length).all (ascP l n) <;> rfl
theorem spec_asc {l : List Int} (h : l.length ≤ 1048576) {n : Nat} (hn : n ≤ 1048576) : M_spec_l08Ascending l n = some (ascB l n) := by
  unfold M_spec_l08Ascending L_spec_l08Ascending_0
  have key := all_loopE (S := S_spec_l08Ascending_0) (fun i => (l, (n : Int), l, (l.length : Int), (i : Int), ())) l.length (ascP l n) () (fun i hi => by
    have hg : l[i]? = some l[i] := List.getElem?_eq_getElem hi
    simp only [S_spec_l08Ascending_0, dlt hi, cond_true, idx_at hi, Option.bind_some, succ_wrap hi h, ascP, hg, Option.getD_some, spec_in, inB_len hn]
    cases h1 : decide (0 ≤ l[i]) with
    | false => rfl
    | true =>
      cases h2 : decide (l[i] < (n : Int)) with
      | false => rfl
      | true =>
        by_cases h0 : i = 0
        · subst h0; rfl
        · have hp : i - 1 < l.length := by omega
          have e1 : decide ((i : Int) > 0) = true := decide_eq_true (by omega)
          simp only [e1, pred_wrap hi (show 0 < i by omega) h, idx_at hp, show decide (l[i - 1] ≥ l[i]) = !decide (l[i - 1] < l[i]) from ge_n _ _, List.getElem?_eq_getElem hp, Option.getD_some, decide_eq_false h0, Option.bind_some, cond_true, Bool.not_true, cond_false, Bool.false_or, Bool.true_and, Bool.and_true]
          cases decide (l[i - 1] < l[i]) <;> rfl) (by simp [S_spec_l08Ascending_0])
  rw [show ((0 : Nat) : Int) = 0 from rfl] at key
  rw [key]
  show _ = some ((List.range l.length).all (ascP l n))
  cases (List.range l.length).all (ascP l n) <;> rfl
theorem asc_at {l : List Int} {n : Nat} (h : ascB l n = true) : ∀ i, i < l.length → (i : Int) ≤ (l[i]?).getD 0 ∧ (l[i]?).getD 0 < n := by
  unfold ascB at h
  rw [List.all_eq_true] at h
  have p : ∀ i, i < l.length → ascP l n i = true := fun i hi => h i (List.mem_range.2 hi)
  have q : ∀ i, i < l.length → (0 ≤ (l[i]?).getD 0 ∧ (l[i]?).getD 0 < n) ∧ (i = 0 ∨ (l[i - 1]?).getD 0 < (l[i]?).getD 0) := fun i hi => by
    have := p i hi
    simpa [ascP] using this
  intro i
  induction i with
  | zero => intro hi; exact ⟨(q 0 hi).1.1, (q 0 hi).1.2⟩
  | succ i ih =>
    intro hi
    have h1 := ih (by omega)
    obtain ⟨⟨_, h2⟩, h3⟩ := q (i + 1) hi
    have h3 := h3.resolve_left (by omega)
    rw [Nat.add_sub_cancel] at h3
    exact ⟨by omega, h2⟩
theorem asc_len {l : List Int} {n : Nat} (h : ascB l n = true) : l.length ≤ n := by
  rcases Nat.eq_zero_or_pos l.length with h0 | h0
  · omega
  · have := asc_at h (l.length - 1) (by omega)
    omega
theorem part_both {q : List Rat} {r : Nat} {l : List Int} (hr : r ≤ 24) (hl : q.length = r * r) (hf : Fits q) (ha : ascB l r = true) :
    ∃ R, M_spec_l08Part ⟨r, r, q.map rq⟩ l = some ⟨l.length, l.length, R⟩ ∧ M_impl_part ⟨r, r, q.map rq⟩ l l = some ⟨l.length, l.length, R⟩ ∧ Rfit R := by
  have hln := asc_len ha
  have h24 : l.length ≤ 24 := by omega
  let x : Nat → Nat := fun i => ((l[i]?).getD 0).toNat
  have hx : ∀ i, i < l.length → x i < r ∧ l[i]? = some ((x i : Nat) : Int) := fun i hi => by
    obtain ⟨h1, h2⟩ := asc_at ha i hi
    have hg : l[i]? = some l[i] := List.getElem?_eq_getElem hi
    simp only [x]
    rw [hg, Option.getD_some] at h1 h2 ⊢
    refine ⟨by omega, ?_⟩
    congr 1; omega
  have hix : ∀ i, i < l.length → idx l (i : Int) = some ((x i : Nat) : Int) := fun i hi => by rw [idx_nat]; exact (hx i hi).2
  refine ⟨(grid l.length l.length fun i k => q[x i * r + x k]?).map ro, ?_, ?_, rfit_grid h24 h24 fun i k _ _ => hf.get _⟩
  · unfold M_spec_l08Part L_spec_l08Part_0
    simp only []
    rw [grid_loop (S := S_spec_l08Part_0) (fun i out => (l, l, (l.length : Int), i, (r : Int), (r : Int), q.map rq, 0, 0, [], (l.length : Int), (l.length : Int), out, ())) (fun i k => ro q[x i * r + x k]?) l.length l.length (r := fun out => (0, 0, [], (l.length : Int), (l.length : Int), out, ())) (fun i out hi ho => by
      unfold S_spec_l08Part_0 L_spec_l08Part_1
      simp only [dlt hi, cond_true, hix i hi, Option.bind_some]
      rw [app_from (S := S_spec_l08Part_1) out (fun k out => (l, ((x i : Nat) : Int), l, (l.length : Int), (i : Int), l, (l.length : Int), k, (r : Int), (r : Int), q.map rq, 0, 0, [], (l.length : Int), (l.length : Int), out, ())) (fun k => ro q[x i * r + x k]?) l.length (r := fun out => (l, l, (l.length : Int), (i : Int), (r : Int), (r : Int), q.map rq, 0, 0, [], (l.length : Int), (l.length : Int), out, ())) (fun k xs hk hxs => by
        simp only [S_spec_l08Part_1, dlt hk, cond_true, hix k hk, spec_at hl hr hr (hx i hi).1 (hx k hk).1, Option.bind_some, copy_ro' (hf.get _), room_row hi hk h24 h24 ho hxs, succ_wrap hk (show l.length ≤ 1048576 by omega)]) (fun out _ => by simp [S_spec_l08Part_1])]
      simp only [Option.bind_some, succ_wrap hi (show l.length ≤ 1048576 by omega)]) (fun out _ => by simp [S_spec_l08Part_0])]
    rw [grid_map]; rfl
  · unfold M_impl_part M_impl_built__impl_part_c1 L_impl_built__impl_part_c1_0
    simp only []
    rw [grid_loop (S := S_impl_built__impl_part_c1_0) (fun i out => ((l.length : Int), (r : Int), (r : Int), q.map rq, l, l, (l.length : Int), i, 0, 0, [], (l.length : Int), (l.length : Int), out, ())) (fun i k => ro q[x i * r + x k]?) l.length l.length (r := fun out => (0, 0, [], (l.length : Int), (l.length : Int), out, ())) (fun i out hi ho => by
      unfold S_impl_built__impl_part_c1_0 L_impl_built__impl_part_c1_1
      simp only [dlt hi, cond_true]
      rw [app_from (S := S_impl_built__impl_part_c1_1) out (fun k out => ((l.length : Int), (r : Int), (r : Int), q.map rq, l, l, (i : Int), (l.length : Int), (i : Int), (l.length : Int), k, 0, 0, [], (l.length : Int), (l.length : Int), out, ())) (fun k => ro q[x i * r + x k]?) l.length (r := fun out => ((l.length : Int), (r : Int), (r : Int), q.map rq, l, l, (l.length : Int), (i : Int), 0, 0, [], (l.length : Int), (l.length : Int), out, ())) (fun k xs hk hxs => by
        simp only [S_impl_built__impl_part_c1_1, M_impl_part_c1, dlt hk, cond_true, hix i hi, hix k hk, impl_at hl hr hr (hx i hi).1 (hx k hk).1, Option.bind_some, copy_ro (hf.get _), room_row hi hk h24 h24 ho hxs, succ_wrap hk (show l.length ≤ 1048576 by omega)]) (fun out _ => by simp [S_impl_built__impl_part_c1_1])]
      simp only [Option.bind_some, succ_wrap hi (show l.length ≤ 1048576 by omega)]) (fun out _ => by simp [S_impl_built__impl_part_c1_0])]
    rw [grid_map]; rfl
theorem sub_both {m : Mx} (hm : lfit Rt.fit m.cells) {l : List Int} (hl0 : l.length ≤ 1048576) : ∃ t b, M_spec_Submatrix m l = some (t, b) ∧ M_impl_Submatrix m l = some (t, b) ∧ Rfit t.cells := by
  have no : ∀ {s i : Option (Mx × Bool)}, s = some (⟨0, 0, []⟩, false) → i = some (⟨0, 0, []⟩, false) → ∃ m ok, s = some (m, ok) ∧ i = some (m, ok) ∧ Rfit m.cells := fun h1 h2 => ⟨_, _, h1, h2, rfit_nil⟩
  cases hb : mxB m with
  | false => exact no (by unfold M_spec_Submatrix; rw [spec_mxOk hm, hb]; rfl) (by unfold M_impl_Submatrix; rw [impl_mxOk hm, hb]; rfl)
  | true =>
  cases h1 : (m.rows != m.cols) with
  | true => exact no (by unfold M_spec_Submatrix; rw [spec_mxOk hm, hb, h1]; rfl) (by unfold M_impl_Submatrix; rw [impl_mxOk hm, hb, h1]; rfl)
  | false =>
  obtain ⟨r, c, q, hq⟩ := mx_cases hb
  obtain ⟨hr, hc, hl, hf, hmq⟩ := hq
  have e1 : c = r := by rw [hmq] at h1; simp only at h1; rw [nat_bne] at h1; simp at h1; exact h1.symm
  subst e1
  have hmr : m.rows = (c : Int) := by rw [hmq]
  cases ha : ascB l (c : Int) with
  | false =>
    exact no (by unfold M_spec_Submatrix; rw [spec_mxOk hm, hb, h1]; simp only [Option.bind_some, Bool.not_true, cond_false]; rw [hmr, spec_asc hl0 (show c ≤ 1048576 by omega), ha]; rfl)
      (by unfold M_impl_Submatrix; rw [impl_mxOk hm, hb, h1]; simp only [Option.bind_some, Bool.not_true, cond_false]; rw [hmr, impl_asc hl0, ha]; rfl)
  | true =>
    obtain ⟨R, p1, p2, p3⟩ := part_both hr hl hf ha
    refine ⟨⟨l.length, l.length, R⟩, true, ?_, ?_, p3⟩
    · unfold M_spec_Submatrix; rw [spec_mxOk hm, hb, h1]; simp only [Option.bind_some, Bool.not_true, cond_false]; rw [hmr, spec_asc hl0 (show c ≤ 1048576 by omega), ha]; simp only [Option.bind_some, Bool.not_true, cond_false]; rw [hmq, p1]; rfl
    · unfold M_impl_Submatrix; rw [impl_mxOk hm, hb, h1]; simp only [Option.bind_some, Bool.not_true, cond_false]; rw [hmr, impl_asc hl0, ha]; simp only [Option.bind_some, Bool.not_true, cond_false]; rw [hmq, p2]; rfl
end Go.Di
namespace Go.Di
theorem sz_go {x : Option Int} {left : Int} {n : Nat} {k : Int → Option Bool} (h : SzR x left n) (hk : ∀ r : Int, 0 ≤ r → r + n = left → k r = some true) :
    (x.bind fun r => cond (decide (r < 0)) (some true) (k r)) = some true := by
  rcases h with rfl | ⟨r, h0, h1, rfl⟩
  · rfl
  · have : decide (r < 0) = false := by simpa using h0
    simp only [Option.bind_some, this, cond_false, hk r h0 h1]
theorem small_then {n : Nat} {x : Option Bool} (h : n ≤ 1048576 → x = some true) : cond (decide ((n : Int) > 1048576)) (some true) x = some true := by
  cases hc : decide ((n : Int) > 1048576) with
  | true => rfl
  | false => exact h (by have := of_decide_eq_false hc; omega)
end Go.Di
namespace Go.Di
end Go.Di
namespace Go.Di
end Go.Di
namespace Go.Di
end Go.Di
namespace Go.Di
end Go.Di
namespace Go.Di
end Go.Di
namespace Go.Di
theorem law_Submatrix (m : Mx) (l : List Int) (h : CK.wf (.sl .rat) m.cells) (_ : CK.wf (.sl .int) l) : M_laws_FnExactSubmatrix m l = some true := by
  unfold M_laws_FnExactSubmatrix
  refine small_then fun hl => sz_go (sz_mx h (by omega) (by omega)) fun r r0 r1 => ?_
  have f := rfit_lsz (l := m.cells) (by omega)
  have f1 := f.few
  have hw : ws wR m.cells ≤ 1048576 := by rw [ws_rats]; omega
  obtain ⟨t, b, hs, hi, g⟩ := sub_both f.fit hl
  have g1 := g.few
  simp (disch := omega) only [to_mx f.fit, to_ints hl, hs, hi, Option.bind_some, eq_mx f.fit, eq_mx g.fit, eq_ints hl, eqB_self, beq_self_eq_true, Bool.not_true, cond_false, mark_mx f.fit f.few, mark_ints hl, mark_mx g.fit g.few, held_mx g.fit g.few, dneg, bneSelf]
end Go.Di
