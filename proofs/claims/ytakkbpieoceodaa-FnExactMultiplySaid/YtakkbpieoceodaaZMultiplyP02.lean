/-
  Own work: part 9 of the texts that the proof of the given statement leans on.
-/
import Derived.Test.YtakkbpieoceodaaZMultiplyP01
namespace Go.Di
end Go.Di
namespace Go.Di
end Go.Di
namespace Go.Di
theorem inB_iff {n lo hi : Int} : inB n lo hi = true ↔ lo ≤ n ∧ n ≤ hi := by
  unfold inB; simp only [Bool.and_eq_true, decide_eq_true_iff]
structure MxQ (m : Mx) (r c : Nat) (q : List Rat) : Prop where
  r24 : r ≤ 24
  c24 : c ≤ 24
  len : q.length = r * c
  fits : Fits q
  eq : m = ⟨r, c, q.map rq⟩
theorem prod24 {r c : Nat} (hr : r ≤ 24) (hc : c ≤ 24) : r * c ≤ 576 := by
  calc r * c ≤ 24 * 24 := Nat.mul_le_mul hr hc
    _ = 576 := rfl
theorem mx_cases {m : Mx} (h : mxB m = true) : ∃ r c q, MxQ m r c q := by
  unfold mxB at h
  simp only [Bool.and_eq_true, inB_iff] at h
  obtain ⟨⟨h1, h2⟩, ⟨h3, h4⟩, h5, h6⟩ := h
  obtain ⟨q, hq, he⟩ := goods_q h6
  obtain ⟨rows, cols, cells⟩ := m
  simp only at *
  obtain ⟨r, rfl⟩ := Int.eq_ofNat_of_zero_le h1
  obtain ⟨c, rfl⟩ := Int.eq_ofNat_of_zero_le h3
  have hp := prod24 (show r ≤ 24 by omega) (show c ≤ 24 by omega)
  have e1 : ((r : Int) * (c : Int)) = ((r * c : Nat) : Int) := by simp
  rw [e1, wrap_i64 (by omega) (by omega), beq_iff_eq] at h5
  subst he
  exact ⟨r, c, q, by omega, by omega, by rw [List.length_map] at h5; omega, hq, rfl⟩
theorem at_pos {i c k : Nat} (hi : i < 1000) (hc : c ≤ 1000) (hk : k < 1000) : IntKind.i64.wrap (IntKind.i64.wrap ((i : Int) * (c : Int)) + (k : Int)) = ((i * c + k : Nat) : Int) := by
  have hp : i * c ≤ 1000 * 1000 := Nat.mul_le_mul (by omega) hc
  have e1 : ((i : Int) * (c : Int)) = ((i * c : Nat) : Int) := by simp
  rw [e1, wrap_i64 (n := ((i * c : Nat) : Int)) (by omega) (by omega), wrap_i64 (by omega) (by omega)]
  simp
theorem at_lt {i r c k : Nat} (hi : i < r) (hk : k < c) : i * c + k < r * c := by
  have : (i + 1) * c ≤ r * c := Nat.mul_le_mul_right _ (by omega)
  rw [Nat.add_mul, Nat.one_mul] at this
  omega
theorem impl_at {r c : Nat} {q : List Rat} {i k : Nat} {x : Int} (hl : q.length = r * c) (hr : r ≤ 24) (hc : c ≤ 24) (hi : i < r) (hk : k < c) : M_impl_Matrix_at ⟨x, c, q.map rq⟩ i k = some (ro q[i * c + k]?) := by
  unfold M_impl_Matrix_at
  simp only []
  rw [at_pos (by omega) (by omega) (by omega), idx_q (by rw [hl]; exact at_lt hi hk)]; rfl
theorem spec_at {r c : Nat} {q : List Rat} {i k : Nat} {x : Int} (hl : q.length = r * c) (hr : r ≤ 24) (hc : c ≤ 24) (hi : i < r) (hk : k < c) : M_spec_l06At ⟨x, c, q.map rq⟩ i k = some (ro q[i * c + k]?) :=
  impl_at hl hr hc hi hk
def rowq (q : List Rat) (c i : Nat) : List Rat := cut q (i * c) ((i + 1) * c)
theorem rowq_len {q : List Rat} {r c i : Nat} (hl : q.length = r * c) (hi : i < r) : (rowq q c i).length = c := by
  have : (i + 1) * c ≤ r * c := Nat.mul_le_mul_right _ (by omega)
  unfold rowq cut
  rw [List.length_drop, List.length_take, hl, Nat.min_eq_left this, Nat.add_mul, Nat.one_mul]; omega
theorem rowq_fits {q : List Rat} (hf : Fits q) (c i : Nat) : Fits (rowq q c i) := fun x hx => hf x (List.mem_of_mem_take (List.mem_of_mem_drop hx))
theorem cut_map (q : List Rat) (lo hi : Nat) : cut (q.map rq) lo hi = (cut q lo hi).map rq := by
  unfold cut; rw [List.map_drop, List.map_take]
theorem impl_row {r c : Nat} {q : List Rat} {i : Nat} {x : Int} (hl : q.length = r * c) (hr : r ≤ 24) (hc : c ≤ 24) (hi : i < r) : M_impl_Matrix_row ⟨x, c, q.map rq⟩ i = some ((rowq q c i).map rq) := by
  unfold M_impl_Matrix_row
  have hp := prod24 hr hc
  have h1 : (i + 1) * c ≤ r * c := Nat.mul_le_mul_right _ (by omega)
  have h2 : i * c ≤ (i + 1) * c := Nat.mul_le_mul_right _ (by omega)
  have e1 : ((i : Int) * (c : Int)) = ((i * c : Nat) : Int) := by simp
  have e2 : (((i + 1 : Nat) : Int) * (c : Int)) = (((i + 1) * c : Nat) : Int) := by simp
  simp only []
  rw [wrap_nat (n := 1000) (by omega) (by omega), e1, e2, wrap_i64 (by omega) (by omega), wrap_i64 (by omega) (by omega)]
  have hin : inside (q.map rq).length (((i * c : Nat) : Int), (((i + 1) * c : Nat) : Int)) = true := by
    unfold inside
    rw [List.length_map, hl]
    simp only [Bool.and_eq_true, decide_eq_true_iff]
    omega
  rw [hin, guardO_true, Option.bind_some, Int.toNat_natCast, Int.toNat_natCast, cut_map]; rfl
theorem spec_row {r c : Nat} {q : List Rat} {i : Nat} {x : Int} (hl : q.length = r * c) (hr : r ≤ 24) (hc : c ≤ 24) (hi : i < r) : M_spec_l06Row ⟨x, c, q.map rq⟩ i = some ((rowq q c i).map rq) :=
  impl_row hl hr hc hi
/-! ### Matrices of integers -/
/-! ### Elements, rows, diagonals -/
theorem copy_ro {o : Option Rat} (h : Oks o) : M_impl_copyRat (ro o) = some (ro o) := impl_copyRat (ro_fit h)
theorem copy_ro' {o : Option Rat} (h : Oks o) : M_spec_l04Copy (ro o) = some (ro o) := spec_copyRat (ro_fit h)
theorem nat_bne (a b : Nat) : ((a : Int) != (b : Int)) = !(a == b) := i64_ne a b
/-! ### Products with vectors -/
end Go.Di
namespace Go.Di
/-! ### Grids -/
def grid {α : Type} (r c : Nat) (g : Nat → Nat → α) : List α := (List.range r).flatMap fun i => (List.range c).map (g i)
theorem grid_succ {α : Type} (r c : Nat) (g : Nat → Nat → α) : grid (r + 1) c g = grid r c g ++ (List.range c).map (g r) := by
  unfold grid; rw [List.range_succ, List.flatMap_append]; simp
theorem len_grid {α : Type} (r c : Nat) (g : Nat → Nat → α) : (grid r c g).length = r * c := by
  induction r with
  | zero => simp [grid]
  | succ r ih => rw [grid_succ, List.length_append, ih, List.length_map, List.length_range, Nat.add_mul, Nat.one_mul]
theorem grid_at {α : Type} {r c : Nat} (g : Nat → Nat → α) {j : Nat} (h : j < r * c) : (grid r c g)[j]? = some (g (j / c) (j % c)) := by
  induction r with
  | zero => omega
  | succ r ih =>
    rw [grid_succ]
    by_cases hj : j < r * c
    · rw [List.getElem?_append_left (by rw [len_grid]; exact hj)]; exact ih hj
    · rw [List.getElem?_append_right (by rw [len_grid]; omega), len_grid]
      rw [Nat.add_mul, Nat.one_mul] at h
      have hk : j - r * c < c := by omega
      rw [List.getElem?_map, List.getElem?_range hk]
      have e : j = c * r + (j - r * c) := by rw [Nat.mul_comm c r]; omega
      have h1 : j / c = r := by
        rw [e, Nat.mul_add_div (by omega), Nat.div_eq_of_lt hk]; omega
      have h2 : j % c = j - r * c := by
        conv => lhs; rw [e]
        rw [Nat.mul_add_mod, Nat.mod_eq_of_lt hk]
      rw [h1, h2]; rfl
theorem grid_map {α β : Type} (f : α → β) (r c : Nat) (g : Nat → Nat → α) : (grid r c g).map f = grid r c fun i k => f (g i k) := by
  unfold grid
  rw [List.map_flatMap]
  congr 1
  funext i
  rw [List.map_map]; rfl
theorem grid_mem {α : Type} {r c : Nat} {g : Nat → Nat → α} {x : α} (h : x ∈ grid r c g) : ∃ i k, i < r ∧ k < c ∧ x = g i k := by
  obtain ⟨i, hi, hx⟩ := List.mem_flatMap.1 h
  obtain ⟨k, hk, rfl⟩ := List.mem_map.1 hx
  exact ⟨i, k, List.mem_range.1 hi, List.mem_range.1 hk, rfl⟩
theorem div_parts {r c j : Nat} (h : j < r * c) : j / c < r ∧ j % c < c ∧ j / c * c + j % c = j := by
  have hc : 0 < c := by
    rcases Nat.eq_zero_or_pos c with h0 | h0
    · subst h0; simp at h
    · exact h0
  refine ⟨Nat.div_lt_of_lt_mul (by rw [Nat.mul_comm]; exact h), Nat.mod_lt _ hc, ?_⟩
  rw [Nat.mul_comm]; exact Nat.div_add_mod j c
theorem grid_congr {α : Type} {r c : Nat} {g h : Nat → Nat → α} (e : ∀ i k, i < r → k < c → g i k = h i k) : grid r c g = grid r c h := by
  apply List.ext_getElem?
  intro j
  by_cases hj : j < r * c
  · obtain ⟨h1, h2, _⟩ := div_parts hj
    rw [grid_at g hj, grid_at h hj, e _ _ h1 h2]
  · rw [List.getElem?_eq_none (by rw [len_grid]; omega), List.getElem?_eq_none (by rw [len_grid]; omega)]
/-! ### Loops -/
theorem app_from {β σ ρ : Type} {S : σ → Option (σ ⊕ ρ)} (x0 : List β) (st : Int → List β → σ) (g : Nat → β) (n : Nat) {r : List β → ρ}
    (hS : ∀ (i : Nat) out, i < n → out.length = x0.length + i → S (st (i : Int) out) = some (.inl (st ((i + 1 : Nat) : Int) (out ++ [g i])))) (hE : ∀ out, out.length = x0.length + n → S (st (n : Int) out) = some (.inr (r out))) :
    whileO S (st 0 x0) = some (r (x0 ++ (List.range n).map g)) := by
  have key := whileO_upto S (fun i => st (i : Int) (x0 ++ (List.range i).map g)) n (r (x0 ++ (List.range n).map g)) (fun i hi => by
    rw [hS i _ hi (by simp), List.range_succ, List.map_append, List.append_assoc]; rfl) (hE _ (by simp))
  simpa using key
theorem grid_loop {β σ ρ : Type} {S : σ → Option (σ ⊕ ρ)} (st : Int → List β → σ) (g : Nat → Nat → β) (n c : Nat) {r : List β → ρ}
    (hS : ∀ (i : Nat) out, i < n → out.length = i * c → S (st (i : Int) out) = some (.inl (st ((i + 1 : Nat) : Int) (out ++ (List.range c).map (g i))))) (hE : ∀ out, out.length = n * c → S (st (n : Int) out) = some (.inr (r out))) :
    whileO S (st 0 []) = some (r (grid n c g)) := by
  have key := whileO_upto S (fun i => st (i : Int) (grid i c g)) n (r (grid n c g)) (fun i hi => by
    rw [hS i _ hi (len_grid ..), grid_succ]) (hE _ (len_grid ..))
  simpa [grid] using key
theorem room_row {i n c k r m : Nat} (hi : i < n) (hk : k < c) (hn : n ≤ 24) (hc : c ≤ 24) (hr : r = i * c) (hm : m = r + k) : guardO (Nat.ble (m + 1) maxNew) = some () := by
  have := at_lt hi hk
  have := prod24 hn hc
  exact room1 (by omega)
/-! ### Identities -/
/-! ### Transposed matrices -/
def trans (q : List Rat) (r c : Nat) : List Rat := grid c r fun i k => (q[k * c + i]?).getD 0
theorem len_trans (q : List Rat) (r c : Nat) : (trans q r c).length = c * r := len_grid ..
theorem trans_fits {q : List Rat} {r c : Nat} (hl : q.length = r * c) (hf : Fits q) : Fits (trans q r c) := fun x hx => by
  obtain ⟨i, k, hi, hk, rfl⟩ := grid_mem hx
  have : k * c + i < q.length := by rw [hl]; exact at_lt hk hi
  rw [List.getElem?_eq_getElem this]
  exact hf _ (List.getElem_mem this)
theorem trans_rq {q : List Rat} {r c : Nat} (hl : q.length = r * c) : (trans q r c).map rq = grid c r fun i k => ro q[k * c + i]? := by
  unfold trans
  rw [grid_map]
  refine grid_congr fun i k hi hk => ?_
  have : k * c + i < q.length := by rw [hl]; exact at_lt hk hi
  rw [List.getElem?_eq_getElem this]; rfl
theorem impl_turned {q : List Rat} {r c : Nat} (hr : r ≤ 24) (hc : c ≤ 24) (hl : q.length = r * c) (hf : Fits q) : M_impl_turned ⟨r, c, q.map rq⟩ = some ⟨c, r, (trans q r c).map rq⟩ := by
  unfold M_impl_turned M_impl_built__impl_turned_c1 L_impl_built__impl_turned_c1_0
  simp only []
  rw [grid_loop (S := S_impl_built__impl_turned_c1_0) (fun i out => ((r : Int), (r : Int), (c : Int), q.map rq, (c : Int), i, 0, 0, [], (c : Int), (r : Int), out, ())) (fun i k => ro q[k * c + i]?) c r (r := fun out => (0, 0, [], (c : Int), (r : Int), out, ())) (fun i out hi ho => by
    unfold S_impl_built__impl_turned_c1_0 L_impl_built__impl_turned_c1_1
    simp only [dlt hi, cond_true]
    rw [app_from (S := S_impl_built__impl_turned_c1_1) out (fun k out => ((r : Int), (r : Int), (c : Int), q.map rq, (i : Int), (c : Int), (i : Int), (r : Int), k, 0, 0, [], (c : Int), (r : Int), out, ())) (fun k => ro q[k * c + i]?) r (r := fun out => ((r : Int), (r : Int), (c : Int), q.map rq, (c : Int), (i : Int), 0, 0, [], (c : Int), (r : Int), out, ())) (fun k xs hk hx => by
      simp only [S_impl_built__impl_turned_c1_1, M_impl_turned_c1, dlt hk, cond_true, impl_at hl hr hc hk hi, Option.bind_some, copy_ro (hf.get _), room_row hi hk hc hr ho hx, succ_wrap hk (show r ≤ 1048576 by omega)]) (fun out _ => by simp [S_impl_built__impl_turned_c1_1])]
    simp only [Option.bind_some, succ_wrap hi (show c ≤ 1048576 by omega)]) (fun out _ => by simp [S_impl_built__impl_turned_c1_0])]
  rw [trans_rq hl]; rfl
theorem spec_turned {q : List Rat} {r c : Nat} (hr : r ≤ 24) (hc : c ≤ 24) (hl : q.length = r * c) (hf : Fits q) : M_spec_l06Transpose ⟨r, c, q.map rq⟩ = some ⟨c, r, (trans q r c).map rq⟩ := by
  unfold M_spec_l06Transpose L_spec_l06Transpose_0
  simp only []
  rw [grid_loop (S := S_spec_l06Transpose_0) (fun i out => (i, (r : Int), (c : Int), q.map rq, 0, 0, [], (c : Int), (r : Int), out, ())) (fun i k => ro q[k * c + i]?) c r (r := fun out => (0, 0, [], (c : Int), (r : Int), out, ())) (fun i out hi ho => by
    unfold S_spec_l06Transpose_0 L_spec_l06Transpose_1
    simp only [dlt hi, cond_true]
    rw [app_from (S := S_spec_l06Transpose_1) out (fun k out => ((i : Int), k, (r : Int), (c : Int), q.map rq, 0, 0, [], (c : Int), (r : Int), out, ())) (fun k => ro q[k * c + i]?) r (r := fun out => ((i : Int), (r : Int), (c : Int), q.map rq, 0, 0, [], (c : Int), (r : Int), out, ())) (fun k xs hk hx => by
      simp only [S_spec_l06Transpose_1, dlt hk, cond_true, spec_at hl hr hc hk hi, Option.bind_some, copy_ro' (hf.get _), room_row hi hk hc hr ho hx, succ_wrap hk (show r ≤ 1048576 by omega)]) (fun out _ => by simp [S_spec_l06Transpose_1])]
    simp only [Option.bind_some, succ_wrap hi (show c ≤ 1048576 by omega)]) (fun out _ => by simp [S_spec_l06Transpose_0])]
  rw [trans_rq hl]; rfl
/-! ### Sums, products -/
theorem impl_givenMx (x y : Int) {l : List (Option Rat)} (h : l.length ≤ 1048576) : M_impl_givenMatrix_c ⟨x, y, l.map ro⟩ = some (cond (l.all Option.isSome) (⟨x, y, l.map ro⟩, true) (⟨0, 0, []⟩, false)) := by
  unfold M_impl_givenMatrix_c
  simp only [impl_complete h, Option.bind_some]
  cases l.all Option.isSome <;> rfl
theorem spec_doneMx (x y : Int) {l : List (Option Rat)} (h : l.length ≤ 1048576) : M_spec_l06Done_c ⟨x, y, l.map ro⟩ = some (cond (l.all Option.isSome) (⟨x, y, l.map ro⟩, true) (⟨0, 0, []⟩, false)) := by
  unfold M_spec_l06Done_c
  simp only [spec_fine h, Option.bind_some]
  cases l.all Option.isSome <;> rfl
noncomputable def givenO (x y : Int) (l : List (Option Rat)) : Mx × Bool := cond (l.all Option.isSome) (⟨x, y, l.map ro⟩, true) (⟨0, 0, []⟩, false)
theorem givenO_fit {x y : Int} {l : List (Option Rat)} (h : Rfit (l.map ro)) : Rfit (givenO x y l).1.cells := by
  unfold givenO
  cases l.all Option.isSome
  · exact rfit_nil
  · exact h
noncomputable def mulM (p q : List Rat) (r c n : Nat) : List (Option Rat) := grid r n fun i k => innO (rowq p c i) (rowq (trans q c n) c k) c
theorem oks_mulM {p q : List Rat} {r c n : Nat} : ∀ o ∈ mulM p q r c n, Oks o := fun o ho => by obtain ⟨i, k, _, _, rfl⟩ := grid_mem ho; exact oks_innO _ _ _
theorem impl_mulM {p q : List Rat} {r c n : Nat} (hr : r ≤ 24) (hc : c ≤ 24) (hn : n ≤ 24) (hl : p.length = r * c) (hf : Fits p) (hl' : q.length = c * n) (hf' : Fits q) :
    M_impl_multiply ⟨r, c, p.map rq⟩ ⟨c, n, q.map rq⟩ = some (givenO r n (mulM p q r c n)) := by
  have hp := prod24 hr hn
  have ht := len_trans q c n
  have hft := trans_fits hl' hf'
  unfold M_impl_multiply M_impl_built__impl_multiply_c1 L_impl_built__impl_multiply_c1_0
  rw [impl_turned hc hn hl' hf', Option.bind_some]
  simp only []
  rw [grid_loop (S := S_impl_built__impl_multiply_c1_0) (fun i out => ((n : Int), (r : Int), (c : Int), p.map rq, (n : Int), (c : Int), (trans q c n).map rq, (r : Int), i, 0, 0, [], (r : Int), (n : Int), out, ())) (fun i k => ro (innO (rowq p c i) (rowq (trans q c n) c k) c)) r n (r := fun out => (0, 0, [], (r : Int), (n : Int), out, ())) (fun i out hi ho => by
    unfold S_impl_built__impl_multiply_c1_0 L_impl_built__impl_multiply_c1_1
    simp only [dlt hi, cond_true]
    rw [app_from (S := S_impl_built__impl_multiply_c1_1) out (fun k out => ((n : Int), (r : Int), (c : Int), p.map rq, (n : Int), (c : Int), (trans q c n).map rq, (i : Int), (r : Int), (i : Int), (n : Int), k, 0, 0, [], (r : Int), (n : Int), out, ())) (fun k => ro (innO (rowq p c i) (rowq (trans q c n) c k) c)) n (r := fun out => ((n : Int), (r : Int), (c : Int), p.map rq, (n : Int), (c : Int), (trans q c n).map rq, (r : Int), (i : Int), 0, 0, [], (r : Int), (n : Int), out, ())) (fun k xs hk hx => by
      have hin := impl_inner (rowq_fits hf c i) (rowq_fits hft c k) (by rw [rowq_len hl hi, rowq_len ht hk]; omega) (by rw [rowq_len hl hi]; omega)
      rw [rowq_len hl hi] at hin
      simp only [S_impl_built__impl_multiply_c1_1, M_impl_multiply_c1, dlt hk, cond_true, impl_row hl hr hc hi, impl_row ht hn hc hk, Option.bind_some, hin, room_row hi hk hr hn ho hx, succ_wrap hk (show n ≤ 1048576 by omega)]) (fun out _ => by simp [S_impl_built__impl_multiply_c1_1])]
    simp only [Option.bind_some, succ_wrap hi (show r ≤ 1048576 by omega)]) (fun out _ => by simp [S_impl_built__impl_multiply_c1_0])]
  rw [show grid r n (fun i k => ro (innO (rowq p c i) (rowq (trans q c n) c k) c)) = (mulM p q r c n).map ro by unfold mulM; rw [grid_map]]
  simp only [Option.bind_some]
  rw [impl_givenMx _ _ (by unfold mulM; rw [len_grid]; omega)]; rfl
theorem spec_mulM {p q : List Rat} {r c n : Nat} (hr : r ≤ 24) (hc : c ≤ 24) (hn : n ≤ 24) (hl : p.length = r * c) (hf : Fits p) (hl' : q.length = c * n) (hf' : Fits q) :
    M_spec_l06Multiply ⟨r, c, p.map rq⟩ ⟨c, n, q.map rq⟩ = some ⟨r, n, (mulM p q r c n).map ro⟩ := by
  have hp := prod24 hr hn
  have ht := len_trans q c n
  have hft := trans_fits hl' hf'
  unfold M_spec_l06Multiply L_spec_l06Multiply_0
  rw [spec_turned hc hn hl' hf', Option.bind_some]
  simp only []
  rw [grid_loop (S := S_spec_l06Multiply_0) (fun i out => (i, (r : Int), (c : Int), p.map rq, (c : Int), (n : Int), q.map rq, 0, 0, [], (r : Int), (n : Int), (n : Int), (c : Int), (trans q c n).map rq, out, ())) (fun i k => ro (innO (rowq p c i) (rowq (trans q c n) c k) c)) r n (r := fun out => (0, 0, [], (r : Int), (n : Int), out, ())) (fun i out hi ho => by
    unfold S_spec_l06Multiply_0 L_spec_l06Multiply_1
    simp only [dlt hi, cond_true]
    rw [app_from (S := S_spec_l06Multiply_1) out (fun k out => ((i : Int), k, (r : Int), (c : Int), p.map rq, (c : Int), (n : Int), q.map rq, 0, 0, [], (r : Int), (n : Int), (n : Int), (c : Int), (trans q c n).map rq, out, ())) (fun k => ro (innO (rowq p c i) (rowq (trans q c n) c k) c)) n (r := fun out => ((i : Int), (r : Int), (c : Int), p.map rq, (c : Int), (n : Int), q.map rq, 0, 0, [], (r : Int), (n : Int), (n : Int), (c : Int), (trans q c n).map rq, out, ())) (fun k xs hk hx => by
      have hin := spec_inner (rowq_fits hf c i) (rowq_fits hft c k) (by rw [rowq_len hl hi, rowq_len ht hk]; omega) (by rw [rowq_len hl hi]; omega)
      rw [rowq_len hl hi] at hin
      simp only [S_spec_l06Multiply_1, dlt hk, cond_true, spec_row hl hr hc hi, spec_row ht hn hc hk, Option.bind_some, hin, room_row hi hk hr hn ho hx, succ_wrap hk (show n ≤ 1048576 by omega)]) (fun out _ => by simp [S_spec_l06Multiply_1])]
    simp only [Option.bind_some, succ_wrap hi (show r ≤ 1048576 by omega)]) (fun out _ => by simp [S_spec_l06Multiply_0])]
  unfold mulM; rw [grid_map]; rfl
theorem mul_both {a b : Mx} (ha : lfit Rt.fit a.cells) (hb : lfit Rt.fit b.cells) : ∃ m ok, M_spec_Multiply a b = some (m, ok) ∧ M_impl_Multiply a b = some (m, ok) ∧ Rfit m.cells := by
  have no : ∀ {s i : Option (Mx × Bool)}, s = some (⟨0, 0, []⟩, false) → i = some (⟨0, 0, []⟩, false) → ∃ m ok, s = some (m, ok) ∧ i = some (m, ok) ∧ Rfit m.cells := fun h1 h2 => ⟨_, _, h1, h2, rfit_nil⟩
  cases ka : mxB a with
  | false => exact no (by unfold M_spec_Multiply; rw [spec_mxOk ha, ka]; rfl) (by unfold M_impl_Multiply; rw [impl_mxOk ha, ka]; rfl)
  | true =>
  cases kb : mxB b with
  | false => exact no (by unfold M_spec_Multiply; rw [spec_mxOk ha, ka, spec_mxOk hb, kb]; rfl) (by unfold M_impl_Multiply; rw [impl_mxOk ha, ka, impl_mxOk hb, kb]; rfl)
  | true =>
  cases h1 : (a.cols != b.rows) with
  | true => exact no (by unfold M_spec_Multiply; rw [spec_mxOk ha, ka, spec_mxOk hb, kb, h1]; rfl) (by unfold M_impl_Multiply; rw [impl_mxOk ha, ka, impl_mxOk hb, kb, h1]; rfl)
  | false =>
  obtain ⟨r, c, p, hp⟩ := mx_cases ka
  obtain ⟨hr, hc, hl, hf, ea⟩ := hp
  obtain ⟨c', n, q, hq⟩ := mx_cases kb
  obtain ⟨_, hn, hl', hf', eb⟩ := hq
  have e1 : c' = c := by rw [ea, eb] at h1; simp only at h1; rw [nat_bne] at h1; simp at h1; exact h1.symm
  subst e1
  have hp := prod24 hr hn
  have hgl : (mulM p q r c' n).length = r * n := len_grid ..
  refine ⟨(givenO r n (mulM p q r c' n)).1, (givenO r n (mulM p q r c' n)).2, ?_, ?_, givenO_fit (rfit_ro oks_mulM (by omega))⟩
  · unfold M_spec_Multiply
    rw [spec_mxOk ha, ka, spec_mxOk hb, kb, h1]
    simp only [Option.bind_some, Bool.not_true, cond_false]
    rw [ea, eb, spec_mulM hr hc hn hl hf hl' hf', Option.bind_some, spec_doneMx _ _ (by omega)]; rfl
  · unfold M_impl_Multiply
    rw [impl_mxOk ha, ka, impl_mxOk hb, kb, h1]
    simp only [Option.bind_some, Bool.not_true, cond_false]
    rw [ea, eb, impl_mulM hr hc hn hl hf hl' hf']; rfl
/-! ### Parts -/
end Go.Di
namespace Go.Di
theorem sz_go {x : Option Int} {left : Int} {n : Nat} {k : Int → Option Bool} (h : SzR x left n) (hk : ∀ r : Int, 0 ≤ r → r + n = left → k r = some true) :
    (x.bind fun r => cond (decide (r < 0)) (some true) (k r)) = some true := by
  rcases h with rfl | ⟨r, h0, h1, rfl⟩
  · rfl
  · have : decide (r < 0) = false := by simpa using h0
    simp only [Option.bind_some, this, cond_false, hk r h0 h1]
end Go.Di
namespace Go.Di
end Go.Di
namespace Go.Di
end Go.Di
namespace Go.Di
end Go.Di
namespace Go.Di
end Go.Di
namespace Go.Di
end Go.Di
namespace Go.Di
theorem law_Multiply (a b : Mx) (h : CK.wf (.sl .rat) a.cells) (h' : CK.wf (.sl .rat) b.cells) : M_laws_FnExactMultiply a b = some true := by
  unfold M_laws_FnExactMultiply
  refine sz_go (sz_mx h (by omega) (by omega)) fun r r0 r1 => sz_go (sz_mx h' r0 (by omega)) fun r' q0 q1 => ?_
  have f := rfit_lsz (l := a.cells) (by omega)
  have f' := rfit_lsz (l := b.cells) (by omega)
  have f1 := f.few
  have f2 := f'.few
  have hw : ws wR a.cells ≤ 1048576 := by rw [ws_rats]; omega
  obtain ⟨m, ok, hs, hi, g⟩ := mul_both f.fit f'.fit
  have g1 := g.few
  simp (disch := omega) only [to_mx f.fit, to_mx f'.fit, hs, hi, Option.bind_some, eq_mx f.fit, eq_mx f'.fit, eq_mx g.fit, eqB_self, beq_self_eq_true, Bool.not_true, cond_false, mark_mx f.fit f.few, mark_mx f'.fit f'.few, mark_mx g.fit g.few, held_mx g.fit g.few, dneg, bneSelf]
end Go.Di
