/-
  Own work: part 9 of the texts that the proof of the given statement leans on.
-/
import Derived.Test.YtgimphipdnieaaaGreatZFactorsP01
namespace Go.Di
end Go.Di
namespace Go.Di
theorem inB_iff {n lo hi : Int} : inB n lo hi = true ↔ lo ≤ n ∧ n ≤ hi := by
  unfold inB; simp only [Bool.and_eq_true, decide_eq_true_iff]
structure MxQ (m : Mx) (r c : Nat) (q : List Rat) : Prop where
  r24 : r ≤ 24
  c24 : c ≤ 24
  len : q.length = r * c
  fits : Fits q
  eq : m = ⟨r, c, q.map rq⟩
theorem prod24 {r c : Nat} (hr : r ≤ 24) (hc : c ≤ 24) : r * c ≤ 576 := by
  calc r * c ≤ 24 * 24 := Nat.mul_le_mul hr hc
    _ = 576 := rfl
theorem mx_ok {r c : Nat} {q : List Rat} (hr : r ≤ 24) (hc : c ≤ 24) (hl : q.length = r * c) (hf : Fits q) : mxB ⟨r, c, q.map rq⟩ = true := by
  have hp := prod24 hr hc
  have e1 : ((r : Int) * (c : Int)) = ((r * c : Nat) : Int) := by simp
  unfold mxB
  simp only [Bool.and_eq_true, inB_iff, q_goods hf, List.length_map]
  rw [e1, wrap_i64 (by omega) (by omega), beq_iff_eq, hl]
  exact ⟨⟨by omega, by omega⟩, ⟨by omega, by omega⟩, rfl, trivial⟩
theorem at_pos {i c k : Nat} (hi : i < 1000) (hc : c ≤ 1000) (hk : k < 1000) : IntKind.i64.wrap (IntKind.i64.wrap ((i : Int) * (c : Int)) + (k : Int)) = ((i * c + k : Nat) : Int) := by
  have hp : i * c ≤ 1000 * 1000 := Nat.mul_le_mul (by omega) hc
  have e1 : ((i : Int) * (c : Int)) = ((i * c : Nat) : Int) := by simp
  rw [e1, wrap_i64 (n := ((i * c : Nat) : Int)) (by omega) (by omega), wrap_i64 (by omega) (by omega)]
  simp
theorem at_lt {i r c k : Nat} (hi : i < r) (hk : k < c) : i * c + k < r * c := by
  have : (i + 1) * c ≤ r * c := Nat.mul_le_mul_right _ (by omega)
  rw [Nat.add_mul, Nat.one_mul] at this
  omega
theorem impl_at {r c : Nat} {q : List Rat} {i k : Nat} {x : Int} (hl : q.length = r * c) (hr : r ≤ 24) (hc : c ≤ 24) (hi : i < r) (hk : k < c) : M_impl_Matrix_at ⟨x, c, q.map rq⟩ i k = some (ro q[i * c + k]?) := by
  unfold M_impl_Matrix_at
  simp only []
  rw [at_pos (by omega) (by omega) (by omega), idx_q (by rw [hl]; exact at_lt hi hk)]; rfl
def rowq (q : List Rat) (c i : Nat) : List Rat := cut q (i * c) ((i + 1) * c)
theorem rowq_len {q : List Rat} {r c i : Nat} (hl : q.length = r * c) (hi : i < r) : (rowq q c i).length = c := by
  have : (i + 1) * c ≤ r * c := Nat.mul_le_mul_right _ (by omega)
  unfold rowq cut
  rw [List.length_drop, List.length_take, hl, Nat.min_eq_left this, Nat.add_mul, Nat.one_mul]; omega
theorem rowq_fits {q : List Rat} (hf : Fits q) (c i : Nat) : Fits (rowq q c i) := fun x hx => hf x (List.mem_of_mem_take (List.mem_of_mem_drop hx))
theorem cut_map (q : List Rat) (lo hi : Nat) : cut (q.map rq) lo hi = (cut q lo hi).map rq := by
  unfold cut; rw [List.map_drop, List.map_take]
theorem impl_row {r c : Nat} {q : List Rat} {i : Nat} {x : Int} (hl : q.length = r * c) (hr : r ≤ 24) (hc : c ≤ 24) (hi : i < r) : M_impl_Matrix_row ⟨x, c, q.map rq⟩ i = some ((rowq q c i).map rq) := by
  unfold M_impl_Matrix_row
  have hp := prod24 hr hc
  have h1 : (i + 1) * c ≤ r * c := Nat.mul_le_mul_right _ (by omega)
  have h2 : i * c ≤ (i + 1) * c := Nat.mul_le_mul_right _ (by omega)
  have e1 : ((i : Int) * (c : Int)) = ((i * c : Nat) : Int) := by simp
  have e2 : (((i + 1 : Nat) : Int) * (c : Int)) = (((i + 1) * c : Nat) : Int) := by simp
  simp only []
  rw [wrap_nat (n := 1000) (by omega) (by omega), e1, e2, wrap_i64 (by omega) (by omega), wrap_i64 (by omega) (by omega)]
  have hin : inside (q.map rq).length (((i * c : Nat) : Int), (((i + 1) * c : Nat) : Int)) = true := by
    unfold inside
    rw [List.length_map, hl]
    simp only [Bool.and_eq_true, decide_eq_true_iff]
    omega
  rw [hin, guardO_true, Option.bind_some, Int.toNat_natCast, Int.toNat_natCast, cut_map]; rfl
/-! ### Matrices of integers -/
/-! ### Elements, rows, diagonals -/
theorem lt0 (i : Int) : decide (i < 0) = !decide (0 ≤ i) := by rw [Bool.eq_iff_iff]; simp
theorem ge_n (i n : Int) : decide (i ≥ n) = !decide (i < n) := by rw [Bool.eq_iff_iff]; simp
theorem copy_ro {o : Option Rat} (h : Oks o) : M_impl_copyRat (ro o) = some (ro o) := impl_copyRat (ro_fit h)
theorem copy_ro' {o : Option Rat} (h : Oks o) : M_spec_l04Copy (ro o) = some (ro o) := spec_copyRat (ro_fit h)
/-! ### Products with vectors -/
noncomputable def appO (q : List Rat) (r c : Nat) (v : List Rat) : List (Option Rat) := (List.range r).map fun i => innO (rowq q c i) v c
theorem len_appO (q : List Rat) (r c : Nat) (v : List Rat) : (appO q r c v).length = r := by simp [appO]
theorem impl_applied {q v : List Rat} {r c : Nat} (hr : r ≤ 24) (hc : c ≤ 24) (hl : q.length = r * c) (hf : Fits q) (hv : Fits v) (hvl : v.length = c) :
    M_impl_applied ⟨r, c, q.map rq⟩ (v.map rq) = some (cond ((appO q r c v).all Option.isSome) ((appO q r c v).map ro, true) ([], false)) := by
  unfold M_impl_applied L_impl_applied_0
  rw [app_loop (S := S_impl_applied_0) (fun i out => (v.map rq, (r : Int), i, (r : Int), (c : Int), q.map rq, out, ())) (fun i => ro (innO (rowq q c i) v c)) r (r := fun out => (out, ())) (fun i out hi ho => by
    have hin := impl_inner (rowq_fits hf c i) hv (by rw [rowq_len hl hi]; omega) (by rw [rowq_len hl hi]; omega)
    rw [rowq_len hl hi] at hin
    simp only [S_impl_applied_0, dlt hi, cond_true, impl_row hl hr hc hi, Option.bind_some, hin, room1 (show out.length ≤ 2000000 by omega), succ_wrap hi (show r ≤ 1048576 by omega)]) (fun out _ => by simp [S_impl_applied_0])]
  rw [show (List.range r).map (fun i => ro (innO (rowq q c i) v c)) = (appO q r c v).map ro by unfold appO; rw [List.map_map]; rfl]
  simp only [Option.bind_some]
  rw [impl_complete (by rw [len_appO]; omega), Option.bind_some]
  cases (appO q r c v).all Option.isSome <;> rfl
end Go.Di
namespace Go.Di
/-! ### Grids -/
def grid {α : Type} (r c : Nat) (g : Nat → Nat → α) : List α := (List.range r).flatMap fun i => (List.range c).map (g i)
theorem grid_succ {α : Type} (r c : Nat) (g : Nat → Nat → α) : grid (r + 1) c g = grid r c g ++ (List.range c).map (g r) := by
  unfold grid; rw [List.range_succ, List.flatMap_append]; simp
theorem len_grid {α : Type} (r c : Nat) (g : Nat → Nat → α) : (grid r c g).length = r * c := by
  induction r with
  | zero => simp [grid]
  | succ r ih => rw [grid_succ, List.length_append, ih, List.length_map, List.length_range, Nat.add_mul, Nat.one_mul]
theorem grid_at {α : Type} {r c : Nat} (g : Nat → Nat → α) {j : Nat} (h : j < r * c) : (grid r c g)[j]? = some (g (j / c) (j % c)) := by
  induction r with
  | zero => omega
  | succ r ih =>
    rw [grid_succ]
    by_cases hj : j < r * c
    · rw [List.getElem?_append_left (by rw [len_grid]; exact hj)]; exact ih hj
    · rw [List.getElem?_append_right (by rw [len_grid]; omega), len_grid]
      rw [Nat.add_mul, Nat.one_mul] at h
      have hk : j - r * c < c := by omega
      rw [List.getElem?_map, List.getElem?_range hk]
      have e : j = c * r + (j - r * c) := by rw [Nat.mul_comm c r]; omega
      have h1 : j / c = r := by
        rw [e, Nat.mul_add_div (by omega), Nat.div_eq_of_lt hk]; omega
      have h2 : j % c = j - r * c := by
        conv => lhs; rw [e]
        rw [Nat.mul_add_mod, Nat.mod_eq_of_lt hk]
      rw [h1, h2]; rfl
theorem pos_div {i c k : Nat} (hk : k < c) : (i * c + k) / c = i ∧ (i * c + k) % c = k := by
  constructor
  · rw [Nat.mul_comm, Nat.mul_add_div (by omega), Nat.div_eq_of_lt hk]; omega
  · rw [Nat.mul_comm, Nat.mul_add_mod, Nat.mod_eq_of_lt hk]
theorem grid_map {α β : Type} (f : α → β) (r c : Nat) (g : Nat → Nat → α) : (grid r c g).map f = grid r c fun i k => f (g i k) := by
  unfold grid
  rw [List.map_flatMap]
  congr 1
  funext i
  rw [List.map_map]; rfl
theorem grid_mem {α : Type} {r c : Nat} {g : Nat → Nat → α} {x : α} (h : x ∈ grid r c g) : ∃ i k, i < r ∧ k < c ∧ x = g i k := by
  obtain ⟨i, hi, hx⟩ := List.mem_flatMap.1 h
  obtain ⟨k, hk, rfl⟩ := List.mem_map.1 hx
  exact ⟨i, k, List.mem_range.1 hi, List.mem_range.1 hk, rfl⟩
theorem div_parts {r c j : Nat} (h : j < r * c) : j / c < r ∧ j % c < c ∧ j / c * c + j % c = j := by
  have hc : 0 < c := by
    rcases Nat.eq_zero_or_pos c with h0 | h0
    · subst h0; simp at h
    · exact h0
  refine ⟨Nat.div_lt_of_lt_mul (by rw [Nat.mul_comm]; exact h), Nat.mod_lt _ hc, ?_⟩
  rw [Nat.mul_comm]; exact Nat.div_add_mod j c
theorem grid_congr {α : Type} {r c : Nat} {g h : Nat → Nat → α} (e : ∀ i k, i < r → k < c → g i k = h i k) : grid r c g = grid r c h := by
  apply List.ext_getElem?
  intro j
  by_cases hj : j < r * c
  · obtain ⟨h1, h2, _⟩ := div_parts hj
    rw [grid_at g hj, grid_at h hj, e _ _ h1 h2]
  · rw [List.getElem?_eq_none (by rw [len_grid]; omega), List.getElem?_eq_none (by rw [len_grid]; omega)]
/-! ### Loops -/
theorem app_from {β σ ρ : Type} {S : σ → Option (σ ⊕ ρ)} (x0 : List β) (st : Int → List β → σ) (g : Nat → β) (n : Nat) {r : List β → ρ}
    (hS : ∀ (i : Nat) out, i < n → out.length = x0.length + i → S (st (i : Int) out) = some (.inl (st ((i + 1 : Nat) : Int) (out ++ [g i])))) (hE : ∀ out, out.length = x0.length + n → S (st (n : Int) out) = some (.inr (r out))) :
    whileO S (st 0 x0) = some (r (x0 ++ (List.range n).map g)) := by
  have key := whileO_upto S (fun i => st (i : Int) (x0 ++ (List.range i).map g)) n (r (x0 ++ (List.range n).map g)) (fun i hi => by
    rw [hS i _ hi (by simp), List.range_succ, List.map_append, List.append_assoc]; rfl) (hE _ (by simp))
  simpa using key
theorem grid_loop {β σ ρ : Type} {S : σ → Option (σ ⊕ ρ)} (st : Int → List β → σ) (g : Nat → Nat → β) (n c : Nat) {r : List β → ρ}
    (hS : ∀ (i : Nat) out, i < n → out.length = i * c → S (st (i : Int) out) = some (.inl (st ((i + 1 : Nat) : Int) (out ++ (List.range c).map (g i))))) (hE : ∀ out, out.length = n * c → S (st (n : Int) out) = some (.inr (r out))) :
    whileO S (st 0 []) = some (r (grid n c g)) := by
  have key := whileO_upto S (fun i => st (i : Int) (grid i c g)) n (r (grid n c g)) (fun i hi => by
    rw [hS i _ hi (len_grid ..), grid_succ]) (hE _ (len_grid ..))
  simpa [grid] using key
theorem room_row {i n c k r m : Nat} (hi : i < n) (hk : k < c) (hn : n ≤ 24) (hc : c ≤ 24) (hr : r = i * c) (hm : m = r + k) : guardO (Nat.ble (m + 1) maxNew) = some () := by
  have := at_lt hi hk
  have := prod24 hn hc
  exact room1 (by omega)
/-! ### Identities -/
noncomputable def idO (i k : Nat) : Option Rat := if i = k then some 1 else some 0
theorem fit_one : Fit 1 := by
  have := fit_int (n := 1) (by omega) (by omega)
  simpa using this
theorem oks_idO (i k : Nat) : Oks (idO i k) := by
  unfold idO; split
  · exact fit_one.ok
  · exact fit_zero.ok
theorem whole_one : M_impl_whole 1 = some (ro (some 1)) := by
  have := impl_whole (n := 1) (by omega) (by omega)
  simpa using this
theorem impl_idc (i k : Nat) : M_impl_IdentityMatrix_c1 (i : Int) (k : Int) = some (ro (idO i k)) := by
  unfold M_impl_IdentityMatrix_c1 idO
  have : ((i : Int) == (k : Int)) = decide (i = k) := by rw [Bool.eq_iff_iff]; simp; omega
  rw [this, whole_one, whole_zero]
  by_cases h : i = k
  · rw [decide_eq_true h, if_pos h]; rfl
  · rw [decide_eq_false h, if_neg h]; rfl
theorem impl_idMx {n : Nat} (hn : n ≤ 24) : M_impl_built__impl_IdentityMatrix_c1 n n = some ⟨n, n, (grid n n idO).map ro⟩ := by
  unfold M_impl_built__impl_IdentityMatrix_c1 L_impl_built__impl_IdentityMatrix_c1_0
  rw [grid_loop (S := S_impl_built__impl_IdentityMatrix_c1_0) (fun i out => ((n : Int), (n : Int), i, 0, 0, [], (n : Int), (n : Int), out, ())) (fun i k => ro (idO i k)) n n (r := fun out => (0, 0, [], (n : Int), (n : Int), out, ())) (fun i out hi ho => by
    unfold S_impl_built__impl_IdentityMatrix_c1_0 L_impl_built__impl_IdentityMatrix_c1_1
    simp only [dlt hi, cond_true]
    rw [app_from (S := S_impl_built__impl_IdentityMatrix_c1_1) out (fun k out => ((n : Int), (i : Int), (n : Int), (i : Int), (n : Int), k, 0, 0, [], (n : Int), (n : Int), out, ())) (fun k => ro (idO i k)) n (r := fun out => ((n : Int), (n : Int), (i : Int), 0, 0, [], (n : Int), (n : Int), out, ())) (fun k xs hk hx => by
      simp only [S_impl_built__impl_IdentityMatrix_c1_1, dlt hk, cond_true, impl_idc, Option.bind_some, room_row hi hk hn hn ho hx, succ_wrap hk (show n ≤ 1048576 by omega)]) (fun out _ => by simp [S_impl_built__impl_IdentityMatrix_c1_1])]
    simp only [Option.bind_some, succ_wrap hi (show n ≤ 1048576 by omega)]) (fun out _ => by simp [S_impl_built__impl_IdentityMatrix_c1_0])]
  rw [grid_map]; rfl
/-! ### Transposed matrices -/
def trans (q : List Rat) (r c : Nat) : List Rat := grid c r fun i k => (q[k * c + i]?).getD 0
theorem len_trans (q : List Rat) (r c : Nat) : (trans q r c).length = c * r := len_grid ..
theorem trans_fits {q : List Rat} {r c : Nat} (hl : q.length = r * c) (hf : Fits q) : Fits (trans q r c) := fun x hx => by
  obtain ⟨i, k, hi, hk, rfl⟩ := grid_mem hx
  have : k * c + i < q.length := by rw [hl]; exact at_lt hk hi
  rw [List.getElem?_eq_getElem this]
  exact hf _ (List.getElem_mem this)
theorem trans_rq {q : List Rat} {r c : Nat} (hl : q.length = r * c) : (trans q r c).map rq = grid c r fun i k => ro q[k * c + i]? := by
  unfold trans
  rw [grid_map]
  refine grid_congr fun i k hi hk => ?_
  have : k * c + i < q.length := by rw [hl]; exact at_lt hk hi
  rw [List.getElem?_eq_getElem this]; rfl
theorem impl_turned {q : List Rat} {r c : Nat} (hr : r ≤ 24) (hc : c ≤ 24) (hl : q.length = r * c) (hf : Fits q) : M_impl_turned ⟨r, c, q.map rq⟩ = some ⟨c, r, (trans q r c).map rq⟩ := by
  unfold M_impl_turned M_impl_built__impl_turned_c1 L_impl_built__impl_turned_c1_0
  simp only []
  rw [grid_loop (S := S_impl_built__impl_turned_c1_0) (fun i out => ((r : Int), (r : Int), (c : Int), q.map rq, (c : Int), i, 0, 0, [], (c : Int), (r : Int), out, ())) (fun i k => ro q[k * c + i]?) c r (r := fun out => (0, 0, [], (c : Int), (r : Int), out, ())) (fun i out hi ho => by
    unfold S_impl_built__impl_turned_c1_0 L_impl_built__impl_turned_c1_1
    simp only [dlt hi, cond_true]
    rw [app_from (S := S_impl_built__impl_turned_c1_1) out (fun k out => ((r : Int), (r : Int), (c : Int), q.map rq, (i : Int), (c : Int), (i : Int), (r : Int), k, 0, 0, [], (c : Int), (r : Int), out, ())) (fun k => ro q[k * c + i]?) r (r := fun out => ((r : Int), (r : Int), (c : Int), q.map rq, (c : Int), (i : Int), 0, 0, [], (c : Int), (r : Int), out, ())) (fun k xs hk hx => by
      simp only [S_impl_built__impl_turned_c1_1, M_impl_turned_c1, dlt hk, cond_true, impl_at hl hr hc hk hi, Option.bind_some, copy_ro (hf.get _), room_row hi hk hc hr ho hx, succ_wrap hk (show r ≤ 1048576 by omega)]) (fun out _ => by simp [S_impl_built__impl_turned_c1_1])]
    simp only [Option.bind_some, succ_wrap hi (show c ≤ 1048576 by omega)]) (fun out _ => by simp [S_impl_built__impl_turned_c1_0])]
  rw [trans_rq hl]; rfl
/-! ### Sums, products -/
theorem impl_givenMx (x y : Int) {l : List (Option Rat)} (h : l.length ≤ 1048576) : M_impl_givenMatrix_c ⟨x, y, l.map ro⟩ = some (cond (l.all Option.isSome) (⟨x, y, l.map ro⟩, true) (⟨0, 0, []⟩, false)) := by
  unfold M_impl_givenMatrix_c
  simp only [impl_complete h, Option.bind_some]
  cases l.all Option.isSome <;> rfl
noncomputable def givenO (x y : Int) (l : List (Option Rat)) : Mx × Bool := cond (l.all Option.isSome) (⟨x, y, l.map ro⟩, true) (⟨0, 0, []⟩, false)
noncomputable def mulM (p q : List Rat) (r c n : Nat) : List (Option Rat) := grid r n fun i k => innO (rowq p c i) (rowq (trans q c n) c k) c
theorem impl_mulM {p q : List Rat} {r c n : Nat} (hr : r ≤ 24) (hc : c ≤ 24) (hn : n ≤ 24) (hl : p.length = r * c) (hf : Fits p) (hl' : q.length = c * n) (hf' : Fits q) :
    M_impl_multiply ⟨r, c, p.map rq⟩ ⟨c, n, q.map rq⟩ = some (givenO r n (mulM p q r c n)) := by
  have hp := prod24 hr hn
  have ht := len_trans q c n
  have hft := trans_fits hl' hf'
  unfold M_impl_multiply M_impl_built__impl_multiply_c1 L_impl_built__impl_multiply_c1_0
  rw [impl_turned hc hn hl' hf', Option.bind_some]
  simp only []
  rw [grid_loop (S := S_impl_built__impl_multiply_c1_0) (fun i out => ((n : Int), (r : Int), (c : Int), p.map rq, (n : Int), (c : Int), (trans q c n).map rq, (r : Int), i, 0, 0, [], (r : Int), (n : Int), out, ())) (fun i k => ro (innO (rowq p c i) (rowq (trans q c n) c k) c)) r n (r := fun out => (0, 0, [], (r : Int), (n : Int), out, ())) (fun i out hi ho => by
    unfold S_impl_built__impl_multiply_c1_0 L_impl_built__impl_multiply_c1_1
    simp only [dlt hi, cond_true]
    rw [app_from (S := S_impl_built__impl_multiply_c1_1) out (fun k out => ((n : Int), (r : Int), (c : Int), p.map rq, (n : Int), (c : Int), (trans q c n).map rq, (i : Int), (r : Int), (i : Int), (n : Int), k, 0, 0, [], (r : Int), (n : Int), out, ())) (fun k => ro (innO (rowq p c i) (rowq (trans q c n) c k) c)) n (r := fun out => ((n : Int), (r : Int), (c : Int), p.map rq, (n : Int), (c : Int), (trans q c n).map rq, (r : Int), (i : Int), 0, 0, [], (r : Int), (n : Int), out, ())) (fun k xs hk hx => by
      have hin := impl_inner (rowq_fits hf c i) (rowq_fits hft c k) (by rw [rowq_len hl hi, rowq_len ht hk]; omega) (by rw [rowq_len hl hi]; omega)
      rw [rowq_len hl hi] at hin
      simp only [S_impl_built__impl_multiply_c1_1, M_impl_multiply_c1, dlt hk, cond_true, impl_row hl hr hc hi, impl_row ht hn hc hk, Option.bind_some, hin, room_row hi hk hr hn ho hx, succ_wrap hk (show n ≤ 1048576 by omega)]) (fun out _ => by simp [S_impl_built__impl_multiply_c1_1])]
    simp only [Option.bind_some, succ_wrap hi (show r ≤ 1048576 by omega)]) (fun out _ => by simp [S_impl_built__impl_multiply_c1_0])]
  rw [show grid r n (fun i k => ro (innO (rowq p c i) (rowq (trans q c n) c k) c)) = (mulM p q r c n).map ro by unfold mulM; rw [grid_map]]
  simp only [Option.bind_some]
  rw [impl_givenMx _ _ (by unfold mulM; rw [len_grid]; omega)]; rfl
/-! ### Parts -/
def ascP (l : List Int) (n : Int) (i : Nat) : Bool := (decide (0 ≤ (l[i]?).getD 0) && decide ((l[i]?).getD 0 < n)) && (decide (i = 0) || decide ((l[i - 1]?).getD 0 < (l[i]?).getD 0))
def ascB (l : List Int) (n : Int) : Bool := (List.range l.length).all (ascP l n)
theorem pred_wrap {i n : Nat} (h : i < n) (h0 : 0 < i) (hn : n ≤ 1048576) : IntKind.i64.wrap ((i : Int) - 1) = ((i - 1 : Nat) : Int) := by
  rw [wrap_i64 (by omega) (by omega)]; omega
theorem impl_asc {l : List Int} (h : l.length ≤ 1048576) (n : Int) : M_impl_ascendingTo l n = some (ascB l n) := by
  unfold M_impl_ascendingTo L_impl_ascendingTo_0
  have key := all_loopE (S := S_impl_ascendingTo_0) (fun i => (l, n, l, (l.length : Int), (i : Int), ())) l.length (ascP l n) () (fun i hi => by
    have hg : l[i]? = some l[i] := List.getElem?_eq_getElem hi
    simp only [S_impl_ascendingTo_0, dlt hi, cond_true, idx_at hi, Option.bind_some, succ_wrap hi h, ascP, hg, Option.getD_some, show decide (l[i] < 0) = !decide (0 ≤ l[i]) from lt0 _, show decide (l[i] ≥ n) = !decide (l[i] < n) from ge_n _ _]
    cases h1 : decide (0 ≤ l[i]) with
    | false => rfl
    | true =>
      cases h2 : decide (l[i] < n) with
      | false => rfl
      | true =>
        by_cases h0 : i = 0
        · subst h0; rfl
        · have hp : i - 1 < l.length := by omega
          have e1 : decide ((i : Int) > 0) = true := decide_eq_true (by omega)
          simp only [e1, pred_wrap hi (show 0 < i by omega) h, idx_at hp, show decide (l[i - 1] ≥ l[i]) = !decide (l[i - 1] < l[i]) from ge_n _ _, List.getElem?_eq_getElem hp, Option.getD_some, decide_eq_false h0, Option.bind_some, cond_true, Bool.not_true, cond_false, Bool.false_or, Bool.true_and]
          cases decide (l[i - 1] < l[i]) <;> rfl) (by simp [S_impl_ascendingTo_0])
  rw [show ((0 : Nat) : Int) = 0 from rfl] at key
  rw [key]
  show _ = some ((List.range l.length).all (ascP l n))
  cases (List.range l.length).all (ascP l n) <;> rfl
end Go.Di
namespace Go.Di
end Go.Di
namespace Go.Di
theorem fit2 : Oks (some ((2 : Int) : Rat)) := (fit_int (by omega) (by omega)).ok
/-! ### Half tangents -/
/-! ### Lists of observations -/
end Go.Di
namespace Go.Di
end Go.Di
namespace Go.Di
theorem stop_loop {σ ρ : Type} {S : σ → Option (σ ⊕ ρ)} (st : Nat → σ) (n : Nat) (ok : Nat → Bool) (bad fin : ρ)
    (h : ∀ i, i < n → (∀ j, j < i → ok j = true) → S (st i) = some (cond (ok i) (.inl (st (i + 1))) (.inr bad)))
    (he : (∀ j, j < n → ok j = true) → S (st n) = some (.inr fin)) : whileO S (st 0) = some (cond ((List.range n).all ok) fin bad) := by
  have key : ∀ s i, i + s = n → (∀ j, j < i → ok j = true) → whileO S (st i) = some (cond ((List.range n).all ok) fin bad) := by
    intro s
    induction s with
    | zero =>
      intro i hi hj
      have : i = n := by omega
      subst this
      have ha : (List.range i).all ok = true := by rw [List.all_eq_true]; intro x hx; exact hj x (List.mem_range.1 hx)
      rw [ha, cond_true]; exact whileO_inr (he hj)
    | succ s ih =>
      intro i hi hj
      have hn : i < n := by omega
      have hs := h i hn hj
      cases hb : ok i with
      | true =>
        rw [hb, cond_true] at hs
        rw [whileO_inl hs]
        exact ih (i + 1) (by omega) fun j hji => by
          by_cases e : j = i
          · rw [e]; exact hb
          · exact hj j (by omega)
      | false =>
        rw [hb, cond_false] at hs
        have ha : (List.range n).all ok = false := by
          rw [← Bool.not_eq_true, List.all_eq_true]
          intro hall
          have := hall i (List.mem_range.2 hn)
          rw [hb] at this; cases this
        rw [ha, cond_false]; exact whileO_inr hs
  exact key n 0 (by omega) fun j hj => by omega
noncomputable def cellO (lo : List (Option Rat)) (p : Nat) : Option Rat := (lo[p]?).getD none
theorem oks_cell {lo : List (Option Rat)} (h : ∀ o ∈ lo, Oks o) (p : Nat) : Oks (cellO lo p) := by
  unfold cellO
  cases e : lo[p]? with
  | none => exact oks_none
  | some o => exact h o (List.mem_of_getElem? e)
theorem idx_cell {lo : List (Option Rat)} {p : Nat} (h : p < lo.length) : idx (lo.map ro) (p : Int) = some (ro (cellO lo p)) := by
  rw [idx_o h]; unfold cellO; rw [List.getElem?_eq_getElem h]; rfl
theorem get_cellO {lo : List (Option Rat)} {p : Nat} (h : p < lo.length) : (lo.map ro)[p]? = some (ro (cellO lo p)) := by
  rw [← idx_nat, idx_cell h]
theorem rq_some (q : List Rat) : q.map rq = (q.map some).map ro := by rw [List.map_map]; rfl
theorem cell_some (q : List Rat) (p : Nat) : cellO (q.map some) p = q[p]? := by
  unfold cellO; rw [List.getElem?_map]; cases q[p]? <;> rfl
theorem oks_some {q : List Rat} (h : Fits q) : ∀ o ∈ q.map some, Oks o := fun o ho => by
  obtain ⟨x, hx, rfl⟩ := List.mem_map.1 ho
  exact (h x hx).ok
theorem impl_atO {lo : List (Option Rat)} {n c i k : Nat} {x : Int} (hl : lo.length = n * c) (hn : n ≤ 1000) (hc : c ≤ 1000) (hi : i < n) (hk : k < c) :
    M_impl_Matrix_at_mdd ⟨x, c, lo.map ro⟩ i k = some (ro (cellO lo (i * c + k)), lo.map ro) := by
  have hp : i * c + k < lo.length := by rw [hl]; exact at_lt hi hk
  unfold M_impl_Matrix_at_mdd
  simp only [at_pos (show i < 1000 by omega) hc (show k < 1000 by omega), idx_cell hp, Option.bind_some, Int.toNat_natCast, get_cellO hp]
theorem spec_atO {lo : List (Option Rat)} {n c i k : Nat} {x : Int} (hl : lo.length = n * c) (hn : n ≤ 1000) (hc : c ≤ 1000) (hi : i < n) (hk : k < c) :
    M_spec_l06At_mdd ⟨x, c, lo.map ro⟩ i k = some (ro (cellO lo (i * c + k)), lo.map ro) := impl_atO hl hn hc hi hk
noncomputable def facO (q lo : List (Option Rat)) (d : List Rat) (n i k : Nat) : Nat → Option Rat
  | 0 => cellO q (i * n + k)
  | j + 1 => subO (facO q lo d n i k j) (mulO (mulO (cellO lo (i * n + j)) (cellO lo (k * n + j))) d[j]?)
theorem oks_facO {q lo : List (Option Rat)} (hq : ∀ o ∈ q, Oks o) (d : List Rat) (n i k j : Nat) : Oks (facO q lo d n i k j) := by
  cases j with
  | zero => exact oks_cell hq _
  | succ j => exact oks_subO
section
variable {q lo : List (Option Rat)} {d : List Rat} {n k : Nat}
theorem impl_fac1 (hq : ∀ o ∈ q, Oks o) (hlo : ∀ o ∈ lo, Oks o) (hd : Fits d) (hll : lo.length = n * n) (hdl : k ≤ d.length) (hn : n ≤ 24) (hk : k < n) (a t t1 v v1 v2 v3 x : Int) (v4 mc : List Rt) :
    L_impl_Factor_m_1 a k t t1 k 0 v v1 v2 v3 v4 mc x n (ro (facO q lo d n k k 0)).neg (lo.map ro) (ro (facO q lo d n k k 0)).mag (ro (facO q lo d n k k 0)).den (d.map rq) =
      some (a, (k : Int), t, t1, v, v1, v2, v3, v4, mc, x, (n : Int), (ro (facO q lo d n k k k)).neg, lo.map ro, (ro (facO q lo d n k k k)).mag, (ro (facO q lo d n k k k)).den, d.map rq, ()) := by
  unfold L_impl_Factor_m_1
  exact whileO_upto S_impl_Factor_m_1 (fun j => (a, (k : Int), t, t1, (k : Int), (j : Int), v, v1, v2, v3, v4, mc, x, (n : Int), (ro (facO q lo d n k k j)).neg, lo.map ro, (ro (facO q lo d n k k j)).mag, (ro (facO q lo d n k k j)).den, d.map rq, ())) k
    (a, (k : Int), t, t1, v, v1, v2, v3, v4, mc, x, (n : Int), (ro (facO q lo d n k k k)).neg, lo.map ro, (ro (facO q lo d n k k k)).mag, (ro (facO q lo d n k k k)).den, d.map rq, ()) (fun j hj => by
      have hjd : j < d.length := by omega
      have gd : (d.map rq)[j]? = some (ro d[j]?) := by rw [← idx_nat, idx_q hjd]
      simp only [S_impl_Factor_m_1, dlt hj, cond_true, idx_q hjd, Option.bind_some, Int.toNat_natCast, gd, impl_atO hll (show n ≤ 1000 by omega) (show n ≤ 1000 by omega) hk (show j < n by omega),
        impl_mulO (oks_cell hlo (k * n + j)) (oks_cell hlo (k * n + j)), impl_mulO (oks_mulO (o := cellO lo (k * n + j)) (p := cellO lo (k * n + j))) (hd.get j), impl_subO (oks_facO hq d n k k j) (oks_mulO (o := mulO (cellO lo (k * n + j)) (cellO lo (k * n + j))) (p := d[j]?)), succ_wrap hj (show k ≤ 1048576 by omega)]
      rfl) (by simp [S_impl_Factor_m_1])
theorem impl_fac3 (hq : ∀ o ∈ q, Oks o) (hlo : ∀ o ∈ lo, Oks o) (hd : Fits d) (hll : lo.length = n * n) (hdl : k ≤ d.length) (hn : n ≤ 24) (hk : k < n) {i : Nat} (hi : i < n) (a t t1 v v1 v2 v3 x : Int) (v4 mc : List Rt) (v7 : Bool) (v8 v9 : List Int) :
    L_impl_Factor_m_3 a k i t t1 k 0 v v1 v2 v3 v4 mc x n v7 v8 v9 (ro (facO q lo d n i k 0)).neg (d.map rq) (lo.map ro) (ro (facO q lo d n i k 0)).mag (ro (facO q lo d n i k 0)).den =
      some (a, (k : Int), (i : Int), t, t1, v, v1, v2, v3, v4, mc, x, (n : Int), v7, v8, v9, (ro (facO q lo d n i k k)).neg, d.map rq, lo.map ro, (ro (facO q lo d n i k k)).mag, (ro (facO q lo d n i k k)).den, ()) := by
  unfold L_impl_Factor_m_3
  exact whileO_upto S_impl_Factor_m_3 (fun j => (a, (k : Int), (i : Int), t, t1, (k : Int), (j : Int), v, v1, v2, v3, v4, mc, x, (n : Int), v7, v8, v9, (ro (facO q lo d n i k j)).neg, d.map rq, lo.map ro, (ro (facO q lo d n i k j)).mag, (ro (facO q lo d n i k j)).den, ())) k
    (a, (k : Int), (i : Int), t, t1, v, v1, v2, v3, v4, mc, x, (n : Int), v7, v8, v9, (ro (facO q lo d n i k k)).neg, d.map rq, lo.map ro, (ro (facO q lo d n i k k)).mag, (ro (facO q lo d n i k k)).den, ()) (fun j hj => by
      have hjd : j < d.length := by omega
      have gd : (d.map rq)[j]? = some (ro d[j]?) := by rw [← idx_nat, idx_q hjd]
      simp only [S_impl_Factor_m_3, dlt hj, cond_true, idx_q hjd, Option.bind_some, Int.toNat_natCast, gd, impl_atO hll (show n ≤ 1000 by omega) (show n ≤ 1000 by omega) hk (show j < n by omega), impl_atO hll (show n ≤ 1000 by omega) (show n ≤ 1000 by omega) hi (show j < n by omega),
        impl_mulO (oks_cell hlo (i * n + j)) (oks_cell hlo (k * n + j)), impl_mulO (oks_mulO (o := cellO lo (i * n + j)) (p := cellO lo (k * n + j))) (hd.get j), impl_subO (oks_facO hq d n i k j) (oks_mulO (o := mulO (cellO lo (i * n + j)) (cellO lo (k * n + j))) (p := d[j]?)), succ_wrap hj (show k ≤ 1048576 by omega)]
      rfl) (by simp [S_impl_Factor_m_3])
end
/-! ### A column -/
noncomputable def quoO (q lo : List (Option Rat)) (d : List Rat) (n k : Nat) (x : Rat) (i : Nat) : Option Rat := divO (facO q lo d n i k k) (some x)
theorem oks_quoO {q lo : List (Option Rat)} {d : List Rat} {n k : Nat} {x : Rat} {i : Nat} : Oks (quoO q lo d n k x i) := oks_divO
noncomputable def colO (q lo : List (Option Rat)) (d : List Rat) (n k : Nat) (x : Rat) : Nat → List (Option Rat)
  | 0 => lo
  | t + 1 => (colO q lo d n k x t).set ((k + 1 + t) * n + k) (quoO q lo d n k x (k + 1 + t))
section
variable {q lo : List (Option Rat)} {d : List Rat} {n k : Nat} {x : Rat}
theorem len_colO (t : Nat) : (colO q lo d n k x t).length = lo.length := by
  induction t with
  | zero => rfl
  | succ t ih => show (List.set _ _ _).length = _; rw [List.length_set]; exact ih
theorem oks_colO (h : ∀ o ∈ lo, Oks o) (t : Nat) : ∀ o ∈ colO q lo d n k x t, Oks o := by
  induction t with
  | zero => exact h
  | succ t ih =>
    intro o ho
    rcases List.mem_or_eq_of_mem_set ho with ho | rfl
    · exact ih o ho
    · exact oks_quoO
theorem pos_ne {a b j k n : Nat} (hj : j < n) (hk : k < n) (h : j ≠ k) : a * n + j ≠ b * n + k := by
  intro e
  have h1 := pos_div (i := a) hj
  have h2 := pos_div (i := b) hk
  rw [e] at h1
  omega
theorem pos_ne' {a b k n : Nat} (hk : k < n) (h : a ≠ b) : a * n + k ≠ b * n + k := by
  intro e
  have h1 := pos_div (i := a) hk
  have h2 := pos_div (i := b) hk
  rw [e] at h1
  omega
theorem colO_other {a j : Nat} (hj : j < n) (hk : k < n) (h : j ≠ k) (t : Nat) : (colO q lo d n k x t)[a * n + j]? = lo[a * n + j]? := by
  induction t with
  | zero => rfl
  | succ t ih => show (List.set _ _ _)[_]? = _; rw [List.getElem?_set_ne (pos_ne hk hj (Ne.symm h))]; exact ih
theorem colO_own (hll : lo.length = n * n) (hk : k < n) {s t : Nat} (hs : s < t) (ht : k + 1 + s < n) : (colO q lo d n k x t)[(k + 1 + s) * n + k]? = some (quoO q lo d n k x (k + 1 + s)) := by
  induction t with
  | zero => omega
  | succ t ih =>
    show (List.set _ _ _)[_]? = _
    by_cases e : s = t
    · subst e
      rw [List.getElem?_set_self (by rw [len_colO, hll]; exact at_lt ht hk)]
    · rw [List.getElem?_set_ne (pos_ne' hk (by omega))]
      exact ih (by omega)
theorem colO_some (hll : lo.length = n * n) (hk : k < n) (hs : ∀ o ∈ lo, o.isSome = true) {t : Nat} (ht : k + 1 + t ≤ n) :
    (colO q lo d n k x t).all Option.isSome = (List.range t).all fun s => (quoO q lo d n k x (k + 1 + s)).isSome := by
  rw [Bool.eq_iff_iff, List.all_eq_true, List.all_eq_true]
  constructor
  · intro h s hst
    have hst := List.mem_range.1 hst
    exact h _ (List.mem_of_getElem? (colO_own hll hk hst (by omega)))
  · intro h
    have : ∀ r, r ≤ t → ∀ o ∈ colO q lo d n k x r, o.isSome = true := by
      intro r
      induction r with
      | zero => intro _; exact hs
      | succ r ih =>
        intro hr o ho
        rcases List.mem_or_eq_of_mem_set ho with ho | rfl
        · exact ih (by omega) o ho
        · exact h r (List.mem_range.2 (by omega))
    exact this t (Nat.le_refl t)
theorem cell_colO {a j : Nat} (hj : j < n) (hk : k < n) (h : j ≠ k) (t : Nat) : cellO (colO q lo d n k x t) (a * n + j) = cellO lo (a * n + j) := by
  unfold cellO; rw [colO_other hj hk h]
theorem facO_col (hk : k < n) (hdl : d.length = k) (y : Rat) (t i : Nat) {j : Nat} (hj : j ≤ k) : facO q (colO q lo d n k x t) (d ++ [y]) n i k j = facO q lo d n i k j := by
  induction j with
  | zero => rfl
  | succ j ih =>
    show subO _ (mulO (mulO _ _) _) = subO _ (mulO (mulO _ _) _)
    rw [ih (by omega), cell_colO (by omega) hk (by omega), cell_colO (by omega) hk (by omega), List.getElem?_append_left (by omega)]
theorem impl_col (hq : ∀ o ∈ q, Oks o) (hql : q.length = n * n) (hlo : ∀ o ∈ lo, Oks o) (hd : Fits d) (hll : lo.length = n * n) (hdl : d.length = k) (hn : n ≤ 24) (hk : k < n) (hx : Fit x) (t t1 v2 v3 : Int) (v4 : List Rt) :
    L_impl_Factor_m_2 n k ((k + 1 : Nat) : Int) t t1 n n v2 v3 v4 (q.map ro) n n (rq x).neg (rq x).mag (rq x).den ((d ++ [x]).map rq) (lo.map ro) =
      some (cond ((List.range (n - (k + 1))).all fun s => (quoO q lo d n k x (k + 1 + s)).isSome)
        (.inr ((n : Int), t, t1, (n : Int), (n : Int), v2, v3, v4, q.map ro, (n : Int), (n : Int), (d ++ [x]).map rq, (colO q lo d n k x (n - (k + 1))).map ro, ()))
        (.inl ([], false, 0, 0, [], q.map ro, ()))) := by
  unfold L_impl_Factor_m_2
  have hd2 : Fits (d ++ [x]) := fun y hy => by
    rcases List.mem_append.1 hy with hy | hy
    · exact hd y hy
    · rw [List.mem_singleton.1 hy]; exact hx
  have hdl2 : k ≤ (d ++ [x]).length := by simp; omega
  have e0 : ∀ s : Nat, ((k + 1 + s : Nat) : Int) = ((k + 1 : Nat) : Int) + (s : Int) := fun s => by omega
  have key := stop_loop (S := S_impl_Factor_m_2) (fun s => ((n : Int), (k : Int), ((k + 1 + s : Nat) : Int), t, t1, (n : Int), (n : Int), v2, v3, v4, q.map ro, (n : Int), (n : Int), (rq x).neg, (rq x).mag, (rq x).den, (d ++ [x]).map rq, (colO q lo d n k x s).map ro, ())) (n - (k + 1)) (fun s => (quoO q lo d n k x (k + 1 + s)).isSome)
    (.inl ([], false, 0, 0, [], q.map ro, ())) (.inr ((n : Int), t, t1, (n : Int), (n : Int), v2, v3, v4, q.map ro, (n : Int), (n : Int), (d ++ [x]).map rq, (colO q lo d n k x (n - (k + 1))).map ro, ())) (fun s hs _ => by
      have hi : k + 1 + s < n := by omega
      have hlc : (colO q lo d n k x s).length = n * n := by rw [len_colO, hll]
      have h3 := impl_fac3 (q := q) (d := d ++ [x]) (k := k) hq (oks_colO (q := q) (d := d) (n := n) (k := k) (x := x) hlo s) hd2 hlc hdl2 hn hk hi n t t1 n n v2 v3 n v4 (q.map ro) (rq x).neg (rq x).mag (rq x).den
      have hf := facO_col (q := q) (lo := lo) (x := x) hk hdl x s (k + 1 + s) (Nat.le_refl k)
      have h0 : ro (facO q (colO q lo d n k x s) (d ++ [x]) n (k + 1 + s) k 0) = ro (cellO q ((k + 1 + s) * n + k)) := rfl
      rw [h0] at h3
      rw [hf] at h3
      have hdv := impl_divO (o := facO q lo d n (k + 1 + s) k k) (p := some x) (oks_facO hq d n (k + 1 + s) k k) hx.ok
      have hpos : IntKind.i64.wrap (IntKind.i64.wrap (((k + 1 + s : Nat) : Int) * (n : Int)) + (k : Int)) = (((k + 1 + s) * n + k : Nat) : Int) := at_pos (by omega) (by omega) (by omega)
      have hlt : (k + 1 + s) * n + k < (colO q lo d n k x s).length := by rw [hlc]; exact at_lt hi hk
      simp only [S_impl_Factor_m_2, decide_eq_true (show ((k + 1 + s : Nat) : Int) < (n : Int) by omega), cond_true, impl_atO hql (show n ≤ 1000 by omega) (show n ≤ 1000 by omega) hi hk, Option.bind_some, copy_ro (oks_cell hq _), h3]
      show ((M_impl_div (ro (facO q lo d n (k + 1 + s) k k)) (ro (some x))).bind _) = _
      rw [hdv]
      simp only [Option.bind_some, impl_void, hpos, idx_cell hlt, Int.toNat_natCast]
      rw [show divO (facO q lo d n (k + 1 + s) k k) (some x) = quoO q lo d n k x (k + 1 + s) from rfl]
      cases hb : (quoO q lo d n k x (k + 1 + s)).isSome with
      | false =>
        have : (quoO q lo d n k x (k + 1 + s)).isNone = true := by rw [← Option.not_isSome, hb]; rfl
        rw [this]; rfl
      | true =>
        have : (quoO q lo d n k x (k + 1 + s)).isNone = false := by rw [← Option.not_isSome, hb]; rfl
        rw [this]
        simp only [cond_false, cond_true, ← List.map_set]
        rw [succ_wrap hi (show n ≤ 1048576 by omega)]
        rfl) (fun _ => by
      simp only [S_impl_Factor_m_2, decide_eq_false (show ¬ ((k + 1 + (n - (k + 1)) : Nat) : Int) < (n : Int) by omega), cond_false])
  exact key
end
/-! ### All columns -/
noncomputable def facSt (q : List (Option Rat)) (n : Nat) : Nat → Option (List (Option Rat) × List Rat)
  | 0 => some (grid n n idO, [])
  | k + 1 => (facSt q n k).bind fun p => (facO q p.1 p.2 n k k k).bind fun x =>
    if x ≤ 0 then none else cond ((List.range (n - (k + 1))).all fun s => (quoO q p.1 p.2 n k x (k + 1 + s)).isSome) (some (colO q p.1 p.2 n k x (n - (k + 1)), p.2 ++ [x])) none
structure FacOk (n k : Nat) (lo : List (Option Rat)) (d : List Rat) : Prop where
  len : lo.length = n * n
  oks : ∀ o ∈ lo, Oks o
  all : ∀ o ∈ lo, o.isSome = true
  fits : Fits d
  dlen : d.length = k
  pos : ∀ y ∈ d, 0 < y
theorem facSt_ok {q : List (Option Rat)} (hq : ∀ o ∈ q, Oks o) {n : Nat} : ∀ {k : Nat}, k ≤ n → ∀ {lo d}, facSt q n k = some (lo, d) → FacOk n k lo d := by
  intro k
  induction k with
  | zero =>
    intro _ lo d h
    injection h with h; injection h with h1 h2
    subst h1; subst h2
    refine ⟨len_grid .., fun o ho => ?_, fun o ho => ?_, fun y hy => (by cases hy), rfl, fun y hy => (by cases hy)⟩
    · obtain ⟨i, k, _, _, rfl⟩ := grid_mem ho; exact oks_idO i k
    · obtain ⟨i, k, _, _, rfl⟩ := grid_mem ho; unfold idO; split <;> rfl
  | succ k ih =>
    intro hk lo d h
    cases h0 : facSt q n k with
    | none => unfold facSt at h; rw [h0] at h; cases h
    | some p =>
      obtain ⟨lo0, d0⟩ := p
      have ok := ih (by omega) h0
      unfold facSt at h
      rw [h0, Option.bind_some] at h
      simp only at h
      cases hx : facO q lo0 d0 n k k k with
      | none => rw [hx] at h; cases h
      | some x =>
        rw [hx, Option.bind_some] at h
        have fx : Fit x := oks_facO hq d0 n k k k x hx
        split at h
        · cases h
        · rename_i hpos
          cases ha : (List.range (n - (k + 1))).all fun s => (quoO q lo0 d0 n k x (k + 1 + s)).isSome with
          | false => rw [ha] at h; cases h
          | true =>
            rw [ha] at h
            injection h with h; injection h with h1 h2
            subst h1; subst h2
            refine ⟨by rw [len_colO, ok.len], oks_colO ok.oks _, ?_, fun y hy => ?_, by simp [ok.dlen], fun y hy => ?_⟩
            · have := colO_some (q := q) (d := d0) (x := x) ok.len (show k < n by omega) ok.all (t := n - (k + 1)) (by omega)
              rw [ha] at this
              exact List.all_eq_true.1 this
            · rcases List.mem_append.1 hy with hy | hy
              · exact ok.fits y hy
              · rw [List.mem_singleton.1 hy]; exact fx
            · rcases List.mem_append.1 hy with hy | hy
              · exact ok.pos y hy
              · rw [List.mem_singleton.1 hy]; exact Rat.not_le.1 hpos
theorem facSt_step {q : List (Option Rat)} {n k : Nat} (h : (facSt q n (k + 1)).isSome = true) : (facSt q n k).isSome = true := by
  unfold facSt at h
  cases e : facSt q n k with
  | none => rw [e] at h; cases h
  | some p => rfl
theorem facSt_all {q : List (Option Rat)} {n : Nat} : ∀ k, ((List.range k).all fun j => (facSt q n (j + 1)).isSome) = (facSt q n k).isSome
  | 0 => rfl
  | k + 1 => by
    rw [List.range_succ, List.all_append, facSt_all k]
    simp only [List.all_cons, List.all_nil, Bool.and_true]
    cases h : (facSt q n (k + 1)).isSome with
    | false => simp
    | true => rw [facSt_step h]; rfl
noncomputable def facP (q : List (Option Rat)) (n k : Nat) : List (Option Rat) × List Rat := (facSt q n k).getD ([], [])
theorem facP_some {q : List (Option Rat)} {n k : Nat} (h : (facSt q n k).isSome = true) : facSt q n k = some ((facP q n k).1, (facP q n k).2) := by
  unfold facP
  cases e : facSt q n k with
  | none => rw [e] at h; cases h
  | some p => rfl
theorem facSt_round {q : List (Option Rat)} {n k : Nat} (h : (facSt q n k).isSome = true) :
    facSt q n (k + 1) = (facO q (facP q n k).1 (facP q n k).2 n k k k).bind fun x =>
      if x ≤ 0 then none else cond ((List.range (n - (k + 1))).all fun s => (quoO q (facP q n k).1 (facP q n k).2 n k x (k + 1 + s)).isSome) (some (colO q (facP q n k).1 (facP q n k).2 n k x (n - (k + 1)), (facP q n k).2 ++ [x])) none := by
  show (facSt q n k).bind _ = _
  rw [facP_some h]; rfl
theorem num_le {q : Rat} : q.num ≤ 0 ↔ q ≤ 0 := by
  rw [Rat.le_iff]; simp
theorem sign_le {q : Rat} (h : q ≤ 0) : ∃ s : Int, M_impl_sign (rq q) = some s ∧ decide (s ≤ 0) = true := by
  refine ⟨_, impl_signq q, ?_⟩
  have h1 : q.num ≤ 0 := num_le.2 h
  by_cases h2 : q.num < 0
  · rw [decide_eq_true h2]; rfl
  · rw [decide_eq_false h2, decide_eq_false (show ¬ q.num ≠ 0 by omega)]; rfl
theorem sign_gt {q : Rat} (h : ¬ q ≤ 0) : ∃ s : Int, M_impl_sign (rq q) = some s ∧ decide (s ≤ 0) = false := by
  refine ⟨_, impl_signq q, ?_⟩
  have h1 : ¬ q.num ≤ 0 := fun h' => h (num_le.1 h')
  rw [decide_eq_false (show ¬ q.num < 0 by omega), decide_eq_true (show q.num ≠ 0 by omega)]; rfl
theorem impl_unitMx {n : Nat} (hn : n ≤ 24) : M_impl_unit n = some ⟨n, n, (grid n n idO).map ro⟩ := by
  have := impl_idMx hn
  unfold M_impl_unit
  rw [show M_impl_built__impl_unit_c1 = M_impl_built__impl_IdentityMatrix_c1 from rfl, this]; rfl
theorem impl_factor {q : List (Option Rat)} {n : Nat} (hq : ∀ o ∈ q, Oks o) (hql : q.length = n * n) (hn : n ≤ 24) :
    L_impl_Factor_m_0 n n 0 n n 0 0 [] (q.map ro) n n ((grid n n idO).map ro) [] =
      some (cond (facSt q n n).isSome (.inr ((0 : Int), (0 : Int), [], q.map ro, (n : Int), (n : Int), (facP q n n).1.map ro, (facP q n n).2.map rq, ())) (.inl ([], false, 0, 0, [], q.map ro, ()))) := by
  unfold L_impl_Factor_m_0
  rw [← facSt_all n]
  exact stop_loop (S := S_impl_Factor_m_0) (fun k => ((n : Int), (n : Int), (k : Int), (n : Int), (n : Int), (0 : Int), (0 : Int), ([] : List Rt), q.map ro, (n : Int), (n : Int), (facP q n k).1.map ro, (facP q n k).2.map rq, ())) n (fun k => (facSt q n (k + 1)).isSome)
    (.inl ([], false, 0, 0, [], q.map ro, ())) (.inr ((0 : Int), (0 : Int), [], q.map ro, (n : Int), (n : Int), (facP q n n).1.map ro, (facP q n n).2.map rq, ())) (fun k hk hj => by
      have hs : (facSt q n k).isSome = true := by
        rw [← facSt_all, List.all_eq_true]; intro j h; exact hj j (List.mem_range.1 h)
      have hr := facSt_round hs
      have ok := facSt_ok hq (Nat.le_of_lt hk) (facP_some hs)
      have hP : facP q n (k + 1) = (facSt q n (k + 1)).getD ([], []) := rfl
      generalize (facP q n k).1 = lo at *
      generalize (facP q n k).2 = d at *
      have h1 := impl_fac1 (q := q) (d := d) hq ok.oks ok.fits ok.len (by rw [ok.dlen]; omega) hn hk n n k n n 0 0 n [] (q.map ro)
      rw [show facO q lo d n k k 0 = cellO q (k * n + k) from rfl] at h1
      simp only [S_impl_Factor_m_0, dlt hk, cond_true, impl_atO hql (show n ≤ 1000 by omega) (show n ≤ 1000 by omega) hk hk, Option.bind_some, copy_ro (oks_cell hq _), h1]
      show ((M_impl_void (ro (facO q lo d n k k k))).bind _) = _
      rw [impl_void, Option.bind_some]
      cases hx : facO q lo d n k k k with
      | none =>
        rw [hx] at hr
        rw [hr]; rfl
      | some x =>
        rw [hx, Option.bind_some] at hr
        have fx : Fit x := oks_facO hq d n k k k x hx
        show ((M_impl_sign (rq x)).bind _) = _
        by_cases hp : x ≤ 0
        · obtain ⟨s, e1, e2⟩ := sign_le hp
          rw [if_pos hp] at hr
          rw [e1, Option.bind_some, e2, hr]; rfl
        · obtain ⟨s, e1, e2⟩ := sign_gt hp
          rw [if_neg hp] at hr
          have hc := impl_col (q := q) (d := d) hq hql ok.oks ok.fits ok.len ok.dlen hn hk fx n k 0 0 []
          have hg : guardO (Nat.ble ((d.map rq).length + 1) maxNew) = some () := by
            rw [List.length_map, ok.dlen]; exact room1 (by omega)
          rw [e1, Option.bind_some, e2, cond_false]
          simp only [hg, Option.bind_some, succ_wrap hk (show n ≤ 1048576 by omega)]
          rw [List.map_append] at hc
          show ((L_impl_Factor_m_2 n k ((k + 1 : Nat) : Int) n k n n 0 0 [] (q.map ro) n n (rq x).neg (rq x).mag (rq x).den (d.map rq ++ [x].map rq) (lo.map ro)).bind _) = _
          rw [hc]
          cases hb : (List.range (n - (k + 1))).all fun s => (quoO q lo d n k x (k + 1 + s)).isSome with
          | false =>
            rw [hb, cond_false] at hr
            rw [hr]; rfl
          | true =>
            rw [hb, cond_true] at hr
            rw [hP, hr]
            simp only [cond_true, Option.bind_some, Option.isSome_some, Option.getD_some, List.map_append]
            rw [succ_wrap hk (show n ≤ 1048576 by omega)]) (fun _ => by
      simp [S_impl_Factor_m_0])
end Go.Di
namespace Go.Di
def Good2 (r c : Nat) (g : Nat → Nat → Option Rat) : Prop := ∀ i k, i < r → k < c → Oks (g i k) ∧ (g i k).isSome = true
def swp (g : Nat → Nat → Option Rat) (p u : Nat) : Nat → Nat → Option Rat := fun a b => if a = p then g u b else if a = u then g p b else g a b
noncomputable def dvd (g : Nat → Nat → Option Rat) (u k : Nat) : Nat → Nat → Option Rat := fun a b => if a = u then divO (g u b) (g u k) else g a b
noncomputable def clr (g : Nat → Nat → Option Rat) (u k : Nat) : Nat → Nat → Option Rat := fun a b => if a = u then g u b else if g a k = some 0 then g a b else subO (g a b) (mulO (g a k) (g u b))
def pivR (g : Nat → Nat → Option Rat) (k : Nat) : Nat → Nat → Nat
  | 0, i => i
  | s + 1, i => if g i k = some 0 then pivR g k s (i + 1) else i
section
variable {r c : Nat} {g : Nat → Nat → Option Rat} {k u : Nat}
end
/-! ### Rounds -/
structure ES where
  g : Nat → Nat → Option Rat
  pv : List Int
  fs : List (Option Rat)
noncomputable def allG (r c : Nat) (g : Nat → Nat → Option Rat) : Bool := (grid r c g).all Option.isSome
noncomputable def stepE (r c k : Nat) (s : ES) : Option ES :=
  if s.pv.length < r then
    let p := pivR s.g k (r - s.pv.length) s.pv.length
    if p = r then some s else
      let g1 := swp s.g p s.pv.length
      let g2 := dvd g1 s.pv.length k
      let g3 := clr g2 s.pv.length k
      cond (allG r c g2 && allG r c g3) (some ⟨g3, s.pv ++ [(k : Int)], (s.fs ++ if p ≠ s.pv.length then [some (-1)] else []) ++ [g1 s.pv.length k]⟩) none
  else some s
noncomputable def elim (r c : Nat) (g : Nat → Nat → Option Rat) : Nat → Option ES
  | 0 => some ⟨g, [], []⟩
  | k + 1 => (elim r c g k).bind (stepE r c k)
structure EInv (r c k : Nat) (s : ES) : Prop where
  good : Good2 r c s.g
  used : s.pv.length ≤ r
  few : s.pv.length ≤ k
  zero : ∀ i j, s.pv.length ≤ i → i < r → j < k → j < c → s.g i j = some 0
  fsok : ∀ o ∈ s.fs, Oks o
  fsall : ∀ o ∈ s.fs, o.isSome = true
  fslen : s.fs.length ≤ 2 * k
section
variable {r c : Nat} {g : Nat → Nat → Option Rat} {k u p : Nat}
end
end Go.Di
namespace Go.Di
section
variable {r c : Nat} {g : Nat → Nat → Option Rat} {k : Nat}
end
end Go.Di
namespace Go.Di
theorem row_md {r c : Nat} {xs : List Rt} (hr : r ≤ 24) (hc : c ≤ 200) (hl : xs.length = r * c) {i : Nat} (hi : i < r) (x : Int) :
    M_impl_Matrix_row_md ⟨x, c, xs⟩ i = some ((i * c, c), xs) := by
  have h1 : i * c ≤ 24 * 200 := Nat.mul_le_mul (by omega) hc
  have h2 : (i + 1) * c ≤ 24 * 200 := Nat.mul_le_mul (by omega) hc
  have h3 : (i + 1) * c ≤ r * c := Nat.mul_le_mul_right c hi
  have e1 : IntKind.i64.wrap ((i : Int) * (c : Int)) = ((i * c : Nat) : Int) := by
    rw [show ((i : Int) * (c : Int)) = ((i * c : Nat) : Int) by simp]; exact wrap_i64 (by omega) (by omega)
  have e0 : IntKind.i64.wrap ((i : Int) + 1) = ((i + 1 : Nat) : Int) := by
    rw [wrap_i64 (by omega) (by omega)]; omega
  have e2 : IntKind.i64.wrap (((i + 1 : Nat) : Int) * (c : Int)) = (((i + 1) * c : Nat) : Int) := by
    rw [show (((i + 1 : Nat) : Int) * (c : Int)) = (((i + 1) * c : Nat) : Int) by simp]; exact wrap_i64 (by omega) (by omega)
  have h4 : (i + 1) * c = i * c + c := by rw [Nat.add_mul, Nat.one_mul]
  unfold M_impl_Matrix_row_md
  simp only [e0, e1, e2, Int.toNat_natCast]
  have hin : inside xs.length (((i * c : Nat) : Int), (((i + 1) * c : Nat) : Int)) = true := by
    unfold inside
    simp only [Bool.and_eq_true, decide_eq_true_iff]
    omega
  rw [hin, show (i + 1) * c - i * c = c by omega]; rfl
section
variable {r c : Nat} {g : Nat → Nat → Option Rat} {k u : Nat}
end
end Go.Di
namespace Go.Di
end Go.Di
namespace Go.Di
end Go.Di
namespace Go.Di
section
variable {r c : Nat} {g : Nat → Nat → Option Rat} {k : Nat}
end
end Go.Di
namespace Go.Di
def Cur.ok (c : Cur) : Prop := 0 ≤ c.i ∧ c.i ≤ (c.b.length : Int) ∧ c.b.length ≤ 1048576
theorem and255 (x : BitVec 64) : 0 ≤ ((x &&& BitVec.ofInt 64 255).toNat : Int) ∧ ((x &&& BitVec.ofInt 64 255).toNat : Int) ≤ 255 := by
  refine ⟨by omega, ?_⟩
  have h : (x &&& BitVec.ofInt 64 255).toNat ≤ 255 := by
    rw [BitVec.toNat_and]
    have : (BitVec.ofInt 64 255).toNat = 255 := by decide
    rw [this]; exact Nat.and_le_right
  omega
theorem wrap255 (x : BitVec 64) : 0 ≤ IntKind.i64.wrap ((x &&& BitVec.ofInt 64 255).toNat : Int) ∧ IntKind.i64.wrap ((x &&& BitVec.ofInt 64 255).toNat : Int) ≤ 255 := by
  have h := and255 x
  rw [wrap_i64 (by omega) (by omega)]; exact h
theorem cur_byte {c : Cur} (h : c.ok) : ∃ v c', M_spec_l01Byte c = some (v, c') ∧ 0 ≤ v ∧ v ≤ 255 ∧ c'.ok := by
  unfold M_spec_l01Byte
  cases hc : decide (c.i < (c.b.length : Int)) with
  | true =>
    have hl := of_decide_eq_true hc
    rw [cond_true, idx_int h.1 hl, Option.bind_some]
    refine ⟨_, _, rfl, (wrap255 _).1, (wrap255 _).2, ?_⟩
    have h1 := h.1
    have h2 := h.2.2
    show 0 ≤ IntKind.i64.wrap (c.i + 1) ∧ IntKind.i64.wrap (c.i + 1) ≤ _ ∧ _
    rw [wrap_i64 (by omega) (by omega)]
    exact ⟨by omega, by show c.i + 1 ≤ (c.b.length : Int); omega, h2⟩
  | false =>
    rw [cond_false]
    exact ⟨_, _, rfl, (wrap255 _).1, (wrap255 _).2, h⟩
theorem tmod_lt {a n : Int} (h0 : 0 ≤ a) (hn : 0 < n) : 0 ≤ a.tmod n ∧ a.tmod n < n := ⟨Int.tmod_nonneg _ h0, Int.tmod_lt_of_pos _ hn⟩
theorem cur_below {c : Cur} (h : c.ok) {n : Int} (hn : 0 < n) : ∃ v c', M_spec_l01Below c n = some (v, c') ∧ 0 ≤ v ∧ v < n ∧ c'.ok := by
  unfold M_spec_l01Below
  rw [decide_eq_false (show ¬ n ≤ 0 by omega), cond_false]
  have hg : guardO (n != 0) = some () := by
    have : (n != 0) = true := by simp; omega
    rw [this]; rfl
  obtain ⟨v, c1, e1, h1, h2, k1⟩ := cur_byte h
  cases decide (n ≤ 256) with
  | true =>
    rw [cond_true, e1, Option.bind_some]
    simp only [hg, Option.bind_some]
    exact ⟨_, _, rfl, (tmod_lt h1 hn).1, (tmod_lt h1 hn).2, k1⟩
  | false =>
    obtain ⟨v2, c2, e2, h3, h4, k2⟩ := cur_byte k1
    obtain ⟨v3, c3, e3, h5, h6, k3⟩ := cur_byte k2
    obtain ⟨v4, c4, e4, h7, h8, k4⟩ := cur_byte k3
    rw [cond_false, e1, Option.bind_some]
    simp only [e2, e3, e4, hg, Option.bind_some]
    have h0 : 0 ≤ IntKind.i64.wrap (IntKind.i64.wrap (IntKind.i64.wrap (IntKind.i64.wrap (v * 16777216) + IntKind.i64.wrap (v2 * 65536)) + IntKind.i64.wrap (v3 * 256)) + v4) := by
      rw [wrap_i64 (n := v * 16777216) (by omega) (by omega), wrap_i64 (n := v2 * 65536) (by omega) (by omega), wrap_i64 (n := v3 * 256) (by omega) (by omega), wrap_i64 (n := v * 16777216 + v2 * 65536) (by omega) (by omega), wrap_i64 (n := v * 16777216 + v2 * 65536 + v3 * 256) (by omega) (by omega), wrap_i64 (by omega) (by omega)]
      omega
    exact ⟨_, _, rfl, (tmod_lt h0 hn).1, (tmod_lt h0 hn).2, k4⟩
theorem cur_once {c : Cur} (h : c.ok) {n : Int} (hn : 0 < n) : ∃ v c', M_spec_l01Once c n = some (v, c') ∧ c'.ok := by
  obtain ⟨v, c1, e1, _, _, k1⟩ := cur_below h hn
  unfold M_spec_l01Once
  rw [e1, Option.bind_some]
  exact ⟨_, _, rfl, k1⟩
theorem cur_new {code : List Int} (h : code.length ≤ 1048576) : ∃ c, M_spec_l01New code = some c ∧ c.ok := by
  unfold M_spec_l01New L_spec_l01New_0
  obtain ⟨r, hr, hq⟩ := whileO_meas (S := S_spec_l01New_0) (fun x => x.1 = code ∧ 0 ≤ x.2.2.1 ∧ x.2.2.1 ≤ (code.length : Int)) (fun x => code.length - x.2.2.1.toNat) (fun r => r.1 = code)
    (by
      rintro ⟨co, hh, i, u⟩ ⟨hco, h1, h2⟩
      simp only at h1 h2 hco
      subst hco
      unfold S_spec_l01New_0
      simp only
      cases hc : decide (i < (co.length : Int)) with
      | true =>
        have hl := of_decide_eq_true hc
        rw [cond_true]
        cases decide (i < 4000) with
        | true =>
          rw [cond_true, idx_int h1 hl, Option.bind_some]
          refine .inl ⟨_, rfl, ⟨rfl, ?_, ?_⟩, ?_⟩ <;> simp only <;> rw [wrap_i64 (by omega) (by omega)] <;> omega
        | false => exact .inr ⟨_, rfl, rfl⟩
      | false => exact .inr ⟨_, rfl, rfl⟩)
    (x := (code, IntKind.i64.wrap (1973 + (code.length : Int)), 0, ())) ⟨rfl, by simp, by simp⟩
  rw [hr, Option.bind_some]
  obtain ⟨co, hh, u⟩ := r
  simp only at hq
  subst hq
  exact ⟨_, rfl, by show (0 : Int) ≤ 0; omega, by show (0 : Int) ≤ (co.length : Int); omega, h⟩
theorem cur_at {code : List Int} (h : code.length ≤ 1048576) {n : Int} (hn : n ≤ 1000000) : ∃ c, M_spec_l30New code n = some c ∧ c.ok := by
  unfold M_spec_l30New L_spec_l30New_0
  obtain ⟨c, e, k⟩ := cur_new h
  rw [e, Option.bind_some]
  obtain ⟨r, hr, hq⟩ := whileO_meas (S := S_spec_l30New_0) (fun x => x.1 = n ∧ 0 ≤ x.2.1 ∧ Cur.ok ⟨x.2.2.1, x.2.2.2.1, x.2.2.2.2.1⟩) (fun x => (n - x.2.1).toNat) (fun r => Cur.ok ⟨r.1, r.2.1, r.2.2.1⟩)
    (by
      rintro ⟨m, i, v, v1, v2, u⟩ ⟨rfl, h1, h2⟩
      simp only at h1 h2 hn
      unfold S_spec_l30New_0
      simp only
      cases hc : decide (i < m) with
      | true =>
        have hl := of_decide_eq_true hc
        obtain ⟨w, c', e1, _, _, k1⟩ := cur_byte h2
        rw [cond_true, e1, Option.bind_some]
        refine .inl ⟨_, rfl, ⟨rfl, ?_, k1⟩, ?_⟩ <;> simp only <;> rw [wrap_i64 (by omega) (by omega)] <;> omega
      | false => exact .inr ⟨_, rfl, h2⟩)
    (x := (n, 0, c.b, c.i, c.h, ())) ⟨rfl, by simp, k⟩
  rw [hr, Option.bind_some]
  exact ⟨_, rfl, hq⟩
/-! ### Bounds of a fraction's parts -/
def Bd (q : Rat) (n d : Nat) : Prop := q.num.natAbs ≤ n ∧ q.den ≤ d
theorem Bd.mono {q : Rat} {n d m e : Nat} (h : Bd q n d) (h1 : n ≤ m) (h2 : d ≤ e) : Bd q m e := ⟨Nat.le_trans h.1 h1, Nat.le_trans h.2 h2⟩
theorem bd_mk {z : Int} {d : Nat} (hd : d ≠ 0) : Bd (mkRat z d) z.natAbs d := by
  refine ⟨?_, ?_⟩
  · rw [mk_abs z hd]; exact Nat.div_le_self _ _
  · rw [(mk_parts z hd).2]; exact Nat.div_le_self _ _
theorem bd_int (n : Int) : Bd (n : Rat) n.natAbs 1 := ⟨by rw [Rat.num_intCast]; exact Nat.le_refl _, by rw [Rat.den_intCast]; exact Nat.le_refl _⟩
theorem bd_mul {a b : Rat} {n d m e : Nat} (h : Bd a n d) (k : Bd b m e) : Bd (a * b) (n * m) (d * e) := by
  rw [← mk_mul]
  refine (bd_mk (Nat.mul_ne_zero a.den_nz b.den_nz)).mono ?_ (Nat.mul_le_mul h.2 k.2)
  rw [Int.natAbs_mul]; exact Nat.mul_le_mul h.1 k.1
theorem bd_add {a b : Rat} {n d m e : Nat} (h : Bd a n d) (k : Bd b m e) : Bd (a + b) (n * e + m * d) (d * e) := by
  rw [← mk_add]
  refine (bd_mk (Nat.mul_ne_zero a.den_nz b.den_nz)).mono ?_ (Nat.mul_le_mul h.2 k.2)
  refine Nat.le_trans (Int.natAbs_add_le _ _) (Nat.add_le_add ?_ ?_)
  · rw [Int.natAbs_mul]; exact Nat.mul_le_mul h.1 k.2
  · rw [Int.natAbs_mul]; exact Nat.mul_le_mul k.1 h.2
theorem bd_neg {a : Rat} {n d : Nat} (h : Bd a n d) : Bd (-a) n d := ⟨by rw [Rat.neg_num, Int.natAbs_neg]; exact h.1, by rw [Rat.neg_den]; exact h.2⟩
theorem bd_sub {a b : Rat} {n d m e : Nat} (h : Bd a n d) (k : Bd b m e) : Bd (a - b) (n * e + m * d) (d * e) := by
  rw [Rat.sub_eq_add_neg]; exact bd_add h (bd_neg k)
theorem bd_div {a b : Rat} {n d m e : Nat} (h : Bd a n d) (k : Bd b m e) (hb : b ≠ 0) : Bd (a / b) (n * e) (d * m) := by
  rw [← mk_div a b hb]
  have hn : b.num ≠ 0 := fun h => hb (Rat.num_eq_zero.1 h)
  refine (bd_mk (Nat.mul_ne_zero a.den_nz (by omega))).mono ?_ (Nat.mul_le_mul h.2 k.1)
  rw [Int.natAbs_mul, sg_abs]; exact Nat.mul_le_mul h.1 k.2
theorem Bd.fit {q : Rat} {n d : Nat} (h : Bd q n d) (h1 : n ≤ 10 ^ 200) (h2 : d ≤ 10 ^ 200) : Fit q := by
  have e : ((10 ^ 200 : Nat) : Int) < bp 24 := by decide
  exact ⟨len_dg.2 (Int.lt_of_le_of_lt (Int.ofNat_le.2 (Nat.le_trans h.1 h1)) e), len_dg.2 (Int.lt_of_le_of_lt (Int.ofNat_le.2 (Nat.le_trans h.2 h2)) e)⟩
theorem chk_bd {q : Rat} {n d : Nat} (h : Bd q n d) (h1 : n ≤ 10 ^ 200) (h2 : d ≤ 10 ^ 200) : chk q = some q := chk_fit (h.fit h1 h2)
theorem cur_number {c : Cur} (h : c.ok) : ∃ q c', M_spec_l05Number c = some (rq q, c') ∧ Bd q 20 6 ∧ c'.ok := by
  unfold M_spec_l05Number
  obtain ⟨w, c1, e1, k1⟩ := cur_once h (n := 3) (by omega)
  rw [e1, Option.bind_some]
  cases w with
  | true =>
    obtain ⟨a, c2, e2, h1, h2, k2⟩ := cur_below k1 (n := 41) (by omega)
    obtain ⟨b, c3, e3, h3, h4, k3⟩ := cur_below k2 (n := 6) (by omega)
    simp only [cond_true, e2, e3, Option.bind_some]
    rw [wrap_i64 (n := a - 20) (by omega) (by omega), wrap_i64 (n := 1 + b) (by omega) (by omega), spec_ratOf (by omega) (by omega) (by omega) (by omega) (by omega)]
    have bd : Bd (((a - 20 : Int) : Rat) / ((1 + b : Int) : Rat)) 20 6 := by
      have hb : ((1 + b : Int) : Rat) ≠ 0 := by
        intro e0
        have h0 := congrArg Rat.num e0
        rw [Rat.num_intCast] at h0
        have : (0 : Rat).num = 0 := rfl
        omega
      exact (bd_div (bd_int _) (bd_int _) hb).mono (by omega) (by omega)
    rw [chk_bd bd (by decide) (by decide), Option.bind_some]
    exact ⟨_, _, rfl, bd, k3⟩
  | false =>
    obtain ⟨a, c2, e2, h1, h2, k2⟩ := cur_below k1 (n := 21) (by omega)
    simp only [cond_false, e2, Option.bind_some]
    rw [wrap_i64 (n := a - 10) (by omega) (by omega), spec_ratInt (by omega) (by omega), Option.bind_some]
    exact ⟨_, _, rfl, (bd_int _).mono (by omega) (by omega), k2⟩
end Go.Di
namespace Go.Di
end Go.Di
namespace Go.Di
end Go.Di
namespace Go.Di
/-! ### Marks -/
def wS (s : Sta) : Nat := 4 + s.x.mag.length + s.x.den.length + s.y.mag.length + s.y.den.length
structure Sfit (l : List Sta) : Prop where
  fit : lfit Sta.fit l
  few : ws wS l ≤ 1000000000
/-! ### Lists whose first elements are changed -/
/-! ### Copies -/
/-! ### Sums -/
/-! ### Shifted networks -/
/-! ### Moved networks -/
end Go.Di
namespace Go.Di
end Go.Di
namespace Go.Di
/-! ### Vectors drawn from bytes -/
def Small (q : List Rat) : Prop := ∀ x ∈ q, Bd x 20 6
theorem Small.fits {q : List Rat} (h : Small q) : Fits q := fun x hx => (h x hx).fit (by decide) (by decide)
theorem make_vec {code : List Int} (h : code.length ≤ 1048576) {n : Int} (hn : n ≤ 1000000) {k : Nat} (hk : k ≤ 1000) : ∃ q : List Rat, M_spec_MakeVector code n (k : Int) = some (q.map rq) ∧ q.length = k ∧ Small q := by
  unfold M_spec_MakeVector M_spec_l05Draw L_spec_l05Draw_0
  obtain ⟨c, e, kc⟩ := cur_at h hn
  rw [e, Option.bind_some]
  obtain ⟨r, hr, q, h1, h2, h3⟩ := whileO_meas (S := S_spec_l05Draw_0) (fun x => x.1 = (k : Int) ∧ Cur.ok ⟨x.2.1, x.2.2.1, x.2.2.2.1⟩ ∧ ∃ q : List Rat, x.2.2.2.2.1 = q.map rq ∧ q.length ≤ k ∧ Small q) (fun x => k - x.2.2.2.2.1.length) (fun r => ∃ q : List Rat, r.2.2.2.1 = q.map rq ∧ q.length = k ∧ Small q)
    (by
      rintro ⟨m, v, v1, v2, v3, u⟩ ⟨h0, h1, q, h2, h3, h4⟩
      simp only at h0 h1 h2 h3
      subst h0; subst h2
      unfold S_spec_l05Draw_0
      simp only [List.length_map]
      cases hc : decide ((q.length : Int) < (k : Int)) with
      | true =>
        have hl := of_decide_eq_true hc
        obtain ⟨x, c', e1, b1, k1⟩ := cur_number h1
        simp only [cond_true, e1, Option.bind_some, room1 (show q.length ≤ 2000000 by omega)]
        refine .inl ⟨_, rfl, ⟨rfl, k1, q ++ [x], by simp, by simp; omega, ?_⟩, ?_⟩
        · intro y hy
          rcases List.mem_append.1 hy with hy | hy
          · exact h4 y hy
          · rw [List.mem_singleton.1 hy]; exact b1
        · simp only [List.length_append, List.length_map, List.length_singleton]; omega
      | false =>
        have hl := of_decide_eq_false hc
        exact .inr ⟨_, rfl, q, rfl, by omega, h4⟩)
    (x := ((k : Int), c.b, c.i, c.h, [], ())) ⟨rfl, kc, [], rfl, by simp, fun x hx => (by cases hx)⟩
  rw [hr, Option.bind_some]
  obtain ⟨v, v1, v2, v3, u⟩ := r
  simp only at h1
  subst h1
  exact ⟨q, rfl, h2, h3⟩
theorem zero_vec {k : Nat} (hk : k ≤ 24) : M_impl_ZeroVector (k : Int) = some ((List.replicate k (0 : Rat)).map rq) := by
  unfold M_impl_ZeroVector L_impl_ZeroVector_0
  rw [decide_eq_false (show ¬ (k : Int) < 0 by omega), decide_eq_false (show ¬ (k : Int) > 24 by omega)]
  simp only [cond_false]
  have key := app_loop (S := S_impl_ZeroVector_0) (fun i out => ((k : Int), i, out, ())) (fun _ => rq 0) k (r := fun out => (out, ())) (fun i out hi ho => by
    simp only [S_impl_ZeroVector_0, dlt hi, cond_true, whole_zero, Option.bind_some, room1 (show out.length ≤ 2000000 by omega), succ_wrap hi (show k ≤ 1048576 by omega)]
    rfl) (fun out _ => by simp [S_impl_ZeroVector_0])
  refine (congrArg (fun x => Option.bind x _) key).trans ?_
  show some ((List.range k).map fun _ => rq 0) = _
  congr 1
  apply List.ext_getElem?
  intro j
  by_cases hj : j < k
  · simp [hj, List.getElem?_replicate]
  · simp [hj, List.getElem?_replicate]
theorem lfit_rq {q : List Rat} (h : Fits q) (hn : q.length ≤ 20000) : lfit Rt.fit (q.map rq) := (rfit_rq h hn).fit
theorem q_vec {q : List Rat} (h : Fits q) (hn : q.length ≤ 24) : vecB (q.map rq) = true := by
  unfold vecB
  rw [List.length_map, decide_eq_true hn, q_goods h]; rfl
/-! ### Networks drawn from bytes -/
end Go.Di
namespace Go.Di
def Sz (q : Rat) (k : Nat) : Prop := Bd q (10 ^ k) (10 ^ k)
theorem ten_le {k m : Nat} (h : k ≤ m) : 10 ^ k ≤ 10 ^ m := Nat.pow_le_pow_right (by omega) h
theorem Sz.mono {q : Rat} {k m : Nat} (h : Sz q k) (hm : k ≤ m) : Sz q m := Bd.mono h (ten_le hm) (ten_le hm)
theorem Sz.fit {q : Rat} {k : Nat} (h : Sz q k) (hk : k ≤ 200) : Fit q := Bd.fit h (ten_le hk) (ten_le hk)
theorem sz_mul {a b : Rat} {k m : Nat} (h : Sz a k) (h' : Sz b m) : Sz (a * b) (k + m) := by
  have := bd_mul h h'
  unfold Sz; rw [Nat.pow_add]; exact this
theorem two_tens (k m : Nat) : 10 ^ k * 10 ^ m + 10 ^ m * 10 ^ k ≤ 10 ^ (k + m + 1) := by
  rw [Nat.pow_succ, Nat.pow_add, Nat.mul_comm (10 ^ m) (10 ^ k)]; omega
theorem one_more (k m : Nat) : 10 ^ k * 10 ^ m ≤ 10 ^ (k + m + 1) := by
  rw [← Nat.pow_add]; exact ten_le (by omega)
theorem sz_add {a b : Rat} {k m : Nat} (h : Sz a k) (h' : Sz b m) : Sz (a + b) (k + m + 1) := (bd_add h h').mono (two_tens k m) (one_more k m)
theorem sz_zero : Sz 0 0 := (bd_int 0).mono (by decide) (by decide)
theorem Small.sz {q : List Rat} (h : Small q) : ∀ x ∈ q, Sz x 2 := fun x hx => (h x hx).mono (by decide) (by decide)
def Szs (q : List Rat) (k : Nat) : Prop := ∀ x ∈ q, Sz x k
theorem Szs.fits {q : List Rat} {k : Nat} (h : Szs q k) (hk : k ≤ 200) : Fits q := fun x hx => (h x hx).fit hk
theorem Szs.get {q : List Rat} {k : Nat} (h : Szs q k) (i : Nat) : Sz ((q[i]?).getD 0) k := by
  by_cases hi : i < q.length
  · rw [List.getElem?_eq_getElem hi]; exact h _ (List.getElem_mem hi)
  · rw [List.getElem?_eq_none (by omega)]; exact sz_zero.mono (by omega)
/-! ### Inner products that fit -/
def innR (a b : List Rat) : Nat → Rat
  | 0 => 0
  | i + 1 => innR a b i + (a[i]?).getD 0 * (b[i]?).getD 0
theorem inn_sz {a b : List Rat} {k m : Nat} (ha : Szs a k) (hb : Szs b m) : ∀ n, n ≤ a.length → n ≤ b.length → n * (k + m + 1) ≤ 200 → innO a b n = some (innR a b n) ∧ Sz (innR a b n) (n * (k + m + 1))
  | 0, _, _, _ => ⟨rfl, sz_zero.mono (by omega)⟩
  | n + 1, h1, h2, h3 => by
    have e : (n + 1) * (k + m + 1) = n * (k + m + 1) + (k + m) + 1 := by rw [Nat.add_mul]; omega
    obtain ⟨e1, s1⟩ := inn_sz ha hb n (by omega) (by omega) (by omega)
    have s2 := sz_mul (ha.get n) (hb.get n)
    have s3 := sz_add s1 s2
    have s4 : Sz (innR a b (n + 1)) ((n + 1) * (k + m + 1)) := by rw [e]; exact s3
    refine ⟨?_, s4⟩
    show addO (innO a b n) (mulO a[n]? b[n]?) = _
    rw [e1, List.getElem?_eq_getElem (by omega), List.getElem?_eq_getElem (by omega)]
    have g1 : (a[n]?).getD 0 = a[n] := by rw [List.getElem?_eq_getElem (by omega)]; rfl
    have g2 : (b[n]?).getD 0 = b[n] := by rw [List.getElem?_eq_getElem (by omega)]; rfl
    rw [g1, g2] at s2 s3
    have m1 : mulO (some a[n]) (some b[n]) = some (a[n] * b[n]) := chk_fit (s2.fit (by omega))
    rw [m1]
    show chk (innR a b n + a[n] * b[n]) = _
    rw [chk_fit (s3.fit (by omega))]
    show _ = some (innR a b n + (a[n]?).getD 0 * (b[n]?).getD 0)
    rw [g1, g2]
theorem szs_row {q : List Rat} {k : Nat} (h : Szs q k) (c i : Nat) : Szs (rowq q c i) k := fun x hx => h x (List.mem_of_mem_take (List.mem_of_mem_drop hx))
/-! ### Products that fit -/
theorem some_all (l : List Rat) : (l.map some).all Option.isSome = true := by
  rw [List.all_eq_true]
  intro o ho
  obtain ⟨x, _, rfl⟩ := List.mem_map.1 ho
  rfl
theorem some_ro (l : List Rat) : (l.map some).map ro = l.map rq := by rw [List.map_map]; rfl
def appR (q : List Rat) (r c : Nat) (v : List Rat) : List Rat := (List.range r).map fun i => innR (rowq q c i) v c
theorem apply_small {q v : List Rat} {r c k m : Nat} (hr : r ≤ 24) (hc : c ≤ 24) (hl : q.length = r * c) (hv : v.length = c) (hq : Szs q k) (hw : Szs v m) (hs : c * (k + m + 1) ≤ 200) (hk : k ≤ 200) (hm : m ≤ 200) :
    M_impl_ApplyMatrix ⟨r, c, q.map rq⟩ (v.map rq) = some ((appR q r c v).map rq, true) ∧ Szs (appR q r c v) (c * (k + m + 1)) := by
  have f1 := hq.fits hk
  have f2 := hw.fits hm
  have h1 := prod24 hr hc
  have key : ∀ i, i < r → innO (rowq q c i) v c = some (innR (rowq q c i) v c) ∧ Sz (innR (rowq q c i) v c) (c * (k + m + 1)) := fun i hi =>
    inn_sz (szs_row hq c i) hw c (by rw [rowq_len hl hi]; omega) (by omega) hs
  have e : appO q r c v = (appR q r c v).map some := by
    unfold appO appR
    rw [List.map_map]
    exact List.map_congr_left fun i hi => (key i (List.mem_range.1 hi)).1
  refine ⟨?_, fun x hx => ?_⟩
  · unfold M_impl_ApplyMatrix
    have hne : (((v.map rq).length : Int) != (c : Int)) = false := by rw [List.length_map, hv]; simp
    rw [impl_mxOk (m := ⟨r, c, q.map rq⟩) (lfit_rq f1 (by omega)), mx_ok hr hc hl f1, impl_isVec (lfit_rq f2 (by omega)), q_vec f2 (by omega)]
    simp only [Option.bind_some, Bool.not_true, cond_false, hne]
    rw [impl_applied hr hc hl f1 f2 hv, e, some_all, some_ro]; rfl
  · obtain ⟨i, hi, rfl⟩ := List.mem_map.1 hx
    exact (key i (List.mem_range.1 hi)).2
end Go.Di
namespace Go.Di
end Go.Di
namespace Go.Di
theorem spec_trans_m {q : List Rat} {r c : Nat} (hr : r ≤ 24) (hc : c ≤ 24) (hl : q.length = r * c) (hf : Fits q) : M_spec_l06Transpose_m ⟨r, c, q.map rq⟩ = some (⟨c, r, (trans q r c).map rq⟩, q.map rq) := by
  unfold M_spec_l06Transpose_m L_spec_l06Transpose_m_0
  simp only []
  have hlo : (q.map some).length = r * c := by rw [List.length_map, hl]
  rw [grid_loop (S := S_spec_l06Transpose_m_0) (fun i out => (i, (r : Int), (c : Int), 0, 0, [], q.map rq, (c : Int), (r : Int), out, ())) (fun i k => ro q[k * c + i]?) c r (r := fun out => (0, 0, [], q.map rq, (c : Int), (r : Int), out, ())) (fun i out hi ho => by
    unfold S_spec_l06Transpose_m_0 L_spec_l06Transpose_m_1
    simp only [dlt hi, cond_true]
    rw [app_from (S := S_spec_l06Transpose_m_1) out (fun k out => ((i : Int), k, (r : Int), (c : Int), 0, 0, [], q.map rq, (c : Int), (r : Int), out, ())) (fun k => ro q[k * c + i]?) r (r := fun out => ((i : Int), (r : Int), (c : Int), 0, 0, [], q.map rq, (c : Int), (r : Int), out, ())) (fun k xs hk hx => by
      have ha := spec_atO (lo := q.map some) (x := (r : Int)) hlo (show r ≤ 1000 by omega) (show c ≤ 1000 by omega) hk hi
      rw [← rq_some, cell_some] at ha
      simp only [S_spec_l06Transpose_m_1, dlt hk, cond_true, ha, Option.bind_some, copy_ro' (hf.get _), room_row hi hk hc hr ho hx, succ_wrap hk (show r ≤ 1048576 by omega)]) (fun out _ => by simp [S_spec_l06Transpose_m_1])]
    simp only [Option.bind_some, succ_wrap hi (show c ≤ 1048576 by omega)]) (fun out _ => by simp [S_spec_l06Transpose_m_0])]
  rw [trans_rq hl]; rfl
theorem rowq_cut (q : List Rat) (c i : Nat) : cut (q.map rq) (i * c) (i * c + c) = (rowq q c i).map rq := by
  rw [cut_map]; unfold rowq; rw [Nat.add_mul, Nat.one_mul]
theorem spec_rowmd {r c : Nat} {xs : List Rt} (hr : r ≤ 24) (hc : c ≤ 200) (hl : xs.length = r * c) {i : Nat} (hi : i < r) (x : Int) : M_spec_l06Row_md ⟨x, c, xs⟩ i = some ((i * c, c), xs) := row_md hr hc hl hi x
theorem spec_mul_mm {p q : List Rat} {r c n : Nat} (hr : r ≤ 24) (hc : c ≤ 24) (hn : n ≤ 24) (hl : p.length = r * c) (hf : Fits p) (hl' : q.length = c * n) (hf' : Fits q) :
    M_spec_l06Multiply_mm ⟨r, c, p.map rq⟩ ⟨c, n, q.map rq⟩ = some (⟨r, n, (mulM p q r c n).map ro⟩, p.map rq, q.map rq) := by
  have hp := prod24 hr hn
  have ht := len_trans q c n
  have hft := trans_fits hl' hf'
  unfold M_spec_l06Multiply_mm L_spec_l06Multiply_mm_0
  rw [spec_trans_m hc hn hl' hf', Option.bind_some]
  simp only []
  rw [grid_loop (S := S_spec_l06Multiply_mm_0) (fun i out => (i, (r : Int), (c : Int), p.map rq, (c : Int), (n : Int), 0, 0, [], (r : Int), (n : Int), (n : Int), (c : Int), (trans q c n).map rq, out, q.map rq, ())) (fun i k => ro (innO (rowq p c i) (rowq (trans q c n) c k) c)) r n (r := fun out => (p.map rq, 0, 0, [], (r : Int), (n : Int), out, q.map rq, ())) (fun i out hi ho => by
    unfold S_spec_l06Multiply_mm_0 L_spec_l06Multiply_mm_1
    simp only [dlt hi, cond_true]
    rw [app_from (S := S_spec_l06Multiply_mm_1) out (fun k out => ((i : Int), k, (r : Int), (c : Int), p.map rq, (c : Int), (n : Int), 0, 0, [], (r : Int), (n : Int), (n : Int), (c : Int), (trans q c n).map rq, out, q.map rq, ())) (fun k => ro (innO (rowq p c i) (rowq (trans q c n) c k) c)) n (r := fun out => ((i : Int), (r : Int), (c : Int), p.map rq, (c : Int), (n : Int), 0, 0, [], (r : Int), (n : Int), (n : Int), (c : Int), (trans q c n).map rq, out, q.map rq, ())) (fun k xs hk hx => by
      have hin := spec_inner (rowq_fits hf c i) (rowq_fits hft c k) (by rw [rowq_len hl hi, rowq_len ht hk]; omega) (by rw [rowq_len hl hi]; omega)
      rw [rowq_len hl hi] at hin
      simp only [S_spec_l06Multiply_mm_1, dlt hk, cond_true, spec_rowmd (xs := p.map rq) hr (show c ≤ 200 by omega) (by rw [List.length_map, hl]) hi, spec_rowmd (xs := (trans q c n).map rq) hn (show c ≤ 200 by omega) (by rw [List.length_map, ht]) hk, Option.bind_some, rowq_cut, hin, room_row hi hk hr hn ho hx, succ_wrap hk (show n ≤ 1048576 by omega)]) (fun out _ => by simp [S_spec_l06Multiply_mm_1])]
    simp only [Option.bind_some, succ_wrap hi (show r ≤ 1048576 by omega)]) (fun out _ => by simp [S_spec_l06Multiply_mm_0])]
  unfold mulM; rw [grid_map]; rfl
theorem draw_vec {c : Cur} (kc : c.ok) {k : Nat} (hk : k ≤ 1000) : ∃ (q : List Rat) (c' : Cur), M_spec_l05Draw c (k : Int) = some (q.map rq, c') ∧ q.length = k ∧ Small q ∧ c'.ok := by
  unfold M_spec_l05Draw L_spec_l05Draw_0
  obtain ⟨r, hr, hok, q, h1, h2, h3⟩ := whileO_meas (S := S_spec_l05Draw_0) (fun x => x.1 = (k : Int) ∧ Cur.ok ⟨x.2.1, x.2.2.1, x.2.2.2.1⟩ ∧ ∃ q : List Rat, x.2.2.2.2.1 = q.map rq ∧ q.length ≤ k ∧ Small q) (fun x => k - x.2.2.2.2.1.length) (fun r => Cur.ok ⟨r.1, r.2.1, r.2.2.1⟩ ∧ ∃ q : List Rat, r.2.2.2.1 = q.map rq ∧ q.length = k ∧ Small q)
    (by
      rintro ⟨m, v, v1, v2, v3, u⟩ ⟨h0, h1, q, h2, h3, h4⟩
      simp only at h0 h1 h2 h3
      subst h0; subst h2
      unfold S_spec_l05Draw_0
      simp only [List.length_map]
      cases hc : decide ((q.length : Int) < (k : Int)) with
      | true =>
        have hl := of_decide_eq_true hc
        obtain ⟨x, c', e1, b1, k1⟩ := cur_number h1
        simp only [cond_true, e1, Option.bind_some, room1 (show q.length ≤ 2000000 by omega)]
        refine .inl ⟨_, rfl, ⟨rfl, k1, q ++ [x], by simp, by simp; omega, ?_⟩, ?_⟩
        · intro y hy
          rcases List.mem_append.1 hy with hy | hy
          · exact h4 y hy
          · rw [List.mem_singleton.1 hy]; exact b1
        · simp only [List.length_append, List.length_map, List.length_singleton]; omega
      | false =>
        have hl := of_decide_eq_false hc
        exact .inr ⟨_, rfl, h1, q, rfl, by omega, h4⟩)
    (x := ((k : Int), c.b, c.i, c.h, [], ())) ⟨rfl, kc, [], rfl, by simp, fun x hx => (by cases hx)⟩
  rw [hr, Option.bind_some]
  obtain ⟨v, v1, v2, v3, u⟩ := r
  simp only at h1 hok
  subst h1
  exact ⟨q, _, rfl, h2, h3, hok⟩
theorem sure_step' {c : Cur} (kc : c.ok) {i : Nat} (hi : i < 3) {q : List Rat} (hl : q.length = 9) (hb : Bd ((q[i * 3 + i]?).getD 0) 1555200 46656) : ∃ (e : Rat) (c' : Cur), S_spec_l08Sure_n_0 ((i : Int), c.b, c.i, c.h, 0, 0, [], 3, 3, q.map rq, ()) =
      some (.inl (((i + 1 : Nat) : Int), c'.b, c'.i, c'.h, 0, 0, [], 3, 3, (q.set (i * 3 + i) ((q[i * 3 + i]?).getD 0 + e)).map rq, ())) ∧ c'.ok ∧ Bd e 4 2 ∧ 0 < e := by
  obtain ⟨v, c', e1, v0, v1, kc'⟩ := cur_below kc (n := 4) (by omega)
  have hp : i * 3 + i < q.length := by omega
  have hpos : IntKind.i64.wrap (IntKind.i64.wrap ((i : Int) * 3) + (i : Int)) = ((i * 3 + i : Nat) : Int) := at_pos (i := i) (c := 3) (k := i) (by omega) (by omega) (by omega)
  have ew : IntKind.i64.wrap (1 + v) = 1 + v := wrap_i64 (by omega) (by omega)
  have bv : Bd (((1 + v : Int) : Rat) / ((2 : Int) : Rat)) 4 2 := by
    have := bd_div (bd_int (1 + v)) (bd_int 2) (by decide +kernel)
    exact this.mono (by omega) (by decide)
  have hq : (q[i * 3 + i]?).getD 0 = q[i * 3 + i] := by rw [List.getElem?_eq_getElem hp]; rfl
  have bq : Bd q[i * 3 + i] 1555200 46656 := by rw [← hq]; exact hb
  have fe := bv.fit (by decide) (by decide)
  have hr := spec_ratOf (x := 1 + v) (y := 2) (by omega) (by omega) (by omega) (by omega) (by omega)
  rw [chk_fit fe] at hr
  have ha := spec_addO (o := some q[i * 3 + i]) (p := some (((1 + v : Int) : Rat) / ((2 : Int) : Rat))) (bq.fit (by decide) (by decide)).ok fe.ok
  have hs : addO (some q[i * 3 + i]) (some (((1 + v : Int) : Rat) / ((2 : Int) : Rat))) = some (q[i * 3 + i] + ((1 + v : Int) : Rat) / ((2 : Int) : Rat)) := chk_fit ((bd_add bq bv).fit (by decide) (by decide))
  rw [hs] at ha
  refine ⟨((1 + v : Int) : Rat) / ((2 : Int) : Rat), c', ?_, kc', bv, ?_⟩
  · have i1 : idx (q.map rq) ((i * 3 + i : Nat) : Int) = some (rq q[i * 3 + i]) := by rw [idx_q hp, List.getElem?_eq_getElem hp]; rfl
    have i2 : (q.map rq)[i * 3 + i]? = some (rq q[i * 3 + i]) := by rw [List.getElem?_map, List.getElem?_eq_getElem hp]; rfl
    have e1' : M_spec_l01Below ⟨c.b, c.i, c.h⟩ 4 = some (v, c') := e1
    simp only [S_spec_l08Sure_n_0, decide_eq_true (show (i : Int) < 3 by omega), cond_true, hpos, i1, i2, Int.toNat_natCast, Option.bind_some, e1', ew, hr]
    show ((M_spec_l04Add (ro (some q[i * 3 + i])) (ro (some _))).bind _) = _
    rw [ha]
    simp only [Option.bind_some, succ_wrap hi (show 3 ≤ 1048576 by omega), hq, List.map_set]
    rfl
  · rw [← Rat.not_le]
    intro h
    have h2 : (((1 + v : Int) : Rat) / ((2 : Int) : Rat)).num ≤ 0 := num_le.2 h
    have h3 : (((1 + v : Int) : Rat) / ((2 : Int) : Rat)) * ((2 : Int) : Rat) = ((1 + v : Int) : Rat) := by
      rw [Rat.div_def, Rat.mul_assoc, Rat.inv_mul_cancel _ (by decide +kernel), Rat.mul_one]
    have h4 : (((1 + v : Int) : Rat) / ((2 : Int) : Rat)) * ((2 : Int) : Rat) ≤ 0 := by
      have := Rat.mul_le_mul_of_nonneg_right h (show (0 : Rat) ≤ ((2 : Int) : Rat) by decide +kernel)
      rwa [Rat.zero_mul] at this
    rw [h3] at h4
    have h5 := num_le.2 h4
    rw [Rat.num_intCast] at h5
    omega
end Go.Di
namespace Go.Di
theorem Bd.fit2 {q : Rat} {n d : Nat} (h : Bd q n d) (h1 : n ≤ 10 ^ 215) (h2 : d ≤ 10 ^ 215) : Fit q := by
  have e : ((10 ^ 215 : Nat) : Int) < bp 24 := by decide
  exact ⟨len_dg.2 (Int.lt_of_le_of_lt (Int.ofNat_le.2 (Nat.le_trans h.1 h1)) e), len_dg.2 (Int.lt_of_le_of_lt (Int.ofNat_le.2 (Nat.le_trans h.2 h2)) e)⟩
def Ez (q : Rat) (a b : Nat) : Prop := Bd q (10 ^ a) (10 ^ b)
theorem Ez.fit {q : Rat} {a b : Nat} (h : Ez q a b) (ha : a ≤ 215) (hb : b ≤ 215) : Fit q := Bd.fit2 h (ten_le ha) (ten_le hb)
theorem Ez.mono {q : Rat} {a b c d : Nat} (h : Ez q a b) (ha : a ≤ c) (hb : b ≤ d) : Ez q c d := Bd.mono h (ten_le ha) (ten_le hb)
theorem ex_mul {p q : Rat} {a b c d : Nat} (h : Ez p a b) (k : Ez q c d) : Ez (p * q) (a + c) (b + d) := (bd_mul h k).mono (by rw [Nat.pow_add]; exact Nat.le_refl _) (by rw [Nat.pow_add]; exact Nat.le_refl _)
theorem ex_div {p q : Rat} {a b c d : Nat} (h : Ez p a b) (k : Ez q c d) (h0 : q ≠ 0) : Ez (p / q) (a + d) (b + c) := (bd_div h k h0).mono (by rw [Nat.pow_add]; exact Nat.le_refl _) (by rw [Nat.pow_add]; exact Nat.le_refl _)
theorem tens_add {a b m : Nat} (ha : a ≤ m) (hb : b ≤ m) : 10 ^ a + 10 ^ b ≤ 10 ^ (m + 1) := by
  have h1 := ten_le ha
  have h2 := ten_le hb
  rw [Nat.pow_succ]; omega
theorem ex_add {p q : Rat} {a b c d : Nat} (h : Ez p a b) (k : Ez q c d) : Ez (p + q) (max (a + d) (c + b) + 1) (b + d) := (bd_add h k).mono (by
  rw [← Nat.pow_add, ← Nat.pow_add]; exact tens_add (Nat.le_max_left ..) (Nat.le_max_right ..)) (by rw [Nat.pow_add]; exact Nat.le_refl _)
theorem ex_sub {p q : Rat} {a b c d : Nat} (h : Ez p a b) (k : Ez q c d) : Ez (p - q) (max (a + d) (c + b) + 1) (b + d) := (bd_sub h k).mono (by
  rw [← Nat.pow_add, ← Nat.pow_add]; exact tens_add (Nat.le_max_left ..) (Nat.le_max_right ..)) (by rw [Nat.pow_add]; exact Nat.le_refl _)
theorem ex_zero : Ez 0 0 0 := by have := (bd_int 0).mono (m := 10 ^ 0) (e := 10 ^ 0) (by decide) (by decide); show Bd 0 (10 ^ 0) (10 ^ 0); simpa using this
theorem ex_zm (x : Rat) : Ez (0 * x) 0 0 := by rw [Rat.zero_mul]; exact ex_zero
theorem ex_mz (x : Rat) : Ez (x * 0) 0 0 := by rw [Rat.mul_zero]; exact ex_zero
theorem ex_om {x : Rat} {a b : Nat} (h : Ez x a b) : Ez (1 * x) a b := by rw [Rat.one_mul]; exact h
theorem ex_mo {x : Rat} {a b : Nat} (h : Ez x a b) : Ez (x * 1) a b := by rw [Rat.mul_one]; exact h
theorem inn3_fit {a b c x y z : Rat} (h0 : Fit (a * x)) (h1 : Fit (b * y)) (h2 : Fit (c * z)) (s0 : Fit (0 + a * x)) (s1 : Fit (0 + a * x + b * y)) (s2 : Fit (0 + a * x + b * y + c * z)) :
    innO [a, b, c] [x, y, z] 3 = some (0 + a * x + b * y + c * z) := by
  show addO (addO (addO (some 0) (mulO (some a) (some x))) (mulO (some b) (some y))) (mulO (some c) (some z)) = _
  rw [show mulO (some a) (some x) = some (a * x) from chk_fit h0, show mulO (some b) (some y) = some (b * y) from chk_fit h1, show mulO (some c) (some z) = some (c * z) from chk_fit h2,
    show addO (some 0) (some (a * x)) = some (0 + a * x) from chk_fit s0, show addO (some (0 + a * x)) (some (b * y)) = some (0 + a * x + b * y) from chk_fit s1]
  exact chk_fit s2
theorem inn3_val {a b c x y z v : Rat} {p q r s t u : Nat} (h0 : Ez (a * x) p q) (h1 : Ez (b * y) r s) (h2 : Ez (c * z) t u) (hv : Fit v) (e : a * x + b * y + c * z = v)
    (k : (p ≤ 215 ∧ q ≤ 215 ∧ r ≤ 215 ∧ s ≤ 215 ∧ t ≤ 215 ∧ u ≤ 215) ∧ max (0 + q) (p + 0) + 1 ≤ 215 ∧ max (max (0 + q) (p + 0) + 1 + s) (r + (0 + q)) + 1 ≤ 215 ∧ 0 + q + s ≤ 215) : innO [a, b, c] [x, y, z] 3 = some v := by
  obtain ⟨⟨k1, k2, k3, k4, k5, k6⟩, k7, k8, k9⟩ := k
  have s0 := ex_add ex_zero h0
  have s1 := ex_add s0 h1
  have ee : 0 + a * x + b * y + c * z = v := by rw [Rat.zero_add]; exact e
  rw [inn3_fit (h0.fit k1 k2) (h1.fit k3 k4) (h2.fit k5 k6) (s0.fit k7 (by omega)) (s1.fit k8 k9) (by rw [ee]; exact hv), ee]
theorem mul_val {p q R : List Rat} {r c n : Nat} (hr : r ≤ 24) (hc : c ≤ 24) (hn : n ≤ 24) (hl : p.length = r * c) (hl' : q.length = c * n) (f1 : Fits p) (f2 : Fits q) (hR : mulM p q r c n = R.map some) :
    M_impl_Multiply ⟨r, c, p.map rq⟩ ⟨c, n, q.map rq⟩ = some (⟨r, n, R.map rq⟩, true) := by
  have h1 := prod24 hr hc
  have h2 := prod24 hc hn
  unfold M_impl_Multiply
  rw [impl_mxOk (m := ⟨r, c, p.map rq⟩) (lfit_rq f1 (by omega)), mx_ok hr hc hl f1, impl_mxOk (m := ⟨c, n, q.map rq⟩) (lfit_rq f2 (by omega)), mx_ok hc hn hl' f2]
  have hne : ((c : Int) != (c : Int)) = false := by simp
  simp only [Option.bind_some, Bool.not_true, cond_false, hne]
  rw [impl_mulM hr hc hn hl f1 hl' f2, hR]
  unfold givenO
  rw [some_all, some_ro]; rfl
theorem trans_val {q : List Rat} {r c : Nat} (hr : r ≤ 24) (hc : c ≤ 24) (hl : q.length = r * c) (f : Fits q) : M_impl_Transpose ⟨r, c, q.map rq⟩ = some ⟨c, r, (trans q r c).map rq⟩ := by
  have h1 := prod24 hr hc
  unfold M_impl_Transpose
  rw [impl_mxOk (m := ⟨r, c, q.map rq⟩) (lfit_rq f (by omega)), mx_ok hr hc hl f, impl_turned hr hc hl f]; rfl
theorem sym_val {q : List Rat} {n : Nat} (hn : n ≤ 24) (hl : q.length = n * n) (f : Fits q) (h : trans q n n = q) : M_impl_IsSymmetric ⟨n, n, q.map rq⟩ = some true := by
  have h1 := prod24 hn hn
  unfold M_impl_IsSymmetric
  rw [impl_mxOk (m := ⟨n, n, q.map rq⟩) (lfit_rq f (by omega)), mx_ok hn hn hl f]
  simp only [Option.bind_some, cond_true]
  rw [impl_turned hn hn hl f, Option.bind_some, impl_mxEq (a := ⟨n, n, q.map rq⟩) (lfit_rq f (by omega)), h, eqB_self]; rfl
theorem factor_val {q : List Rat} {n : Nat} (hn : n ≤ 24) (hl : q.length = n * n) (f : Fits q) (h : trans q n n = q) {L D : List Rat} (e : facSt (q.map some) n n = some (L.map some, D)) :
    M_impl_Factor_m ⟨n, n, q.map rq⟩ = some (⟨n, n, L.map rq⟩, D.map rq, true, q.map rq) := by
  have hO := oks_some f
  have h2 := impl_factor (q := q.map some) hO (by rw [List.length_map, hl]) hn
  rw [← rq_some] at h2
  have hp : facP (q.map some) n n = (L.map some, D) := by unfold facP; rw [e]; rfl
  rw [e, hp] at h2
  have h2 : L_impl_Factor_m_0 n n 0 n n 0 0 [] (q.map rq) n n ((grid n n idO).map ro) [] = some (.inr ((0 : Int), (0 : Int), [], q.map rq, (n : Int), (n : Int), (L.map some).map ro, D.map rq, ())) := h2
  unfold M_impl_Factor_m
  rw [sym_val hn hl f h]
  simp only [Option.bind_some, Bool.not_true, cond_false, impl_unitMx hn, h2, some_ro]
/-! ### Three rows -/
section
variable {a b c d e f : Rat}
-- the matrix is a b c / b d e / c e f
def lx1 (a b d : Rat) : Rat := d - b / a * (b / a) * a
def ly (a b c e : Rat) : Rat := e - c / a * (b / a) * a
def lx2 (a b c d e f : Rat) : Rat := f - c / a * (c / a) * a - ly a b c e / lx1 a b d * (ly a b c e / lx1 a b d) * lx1 a b d
theorem sub_mul2 {x y z w : Rat} (h1 : Fit (y * z)) (h2 : Fit (y * z * w)) (h3 : Fit (x - y * z * w)) : subO (some x) (mulO (mulO (some y) (some z)) (some w)) = some (x - y * z * w) := by
  rw [show mulO (some y) (some z) = some (y * z) from chk_fit h1, show mulO (some (y * z)) (some w) = some (y * z * w) from chk_fit h2]
  show chk (x + -(y * z * w)) = _
  rw [← Rat.sub_eq_add_neg, chk_fit h3]
theorem quo_fit {x y : Rat} (h0 : y ≠ 0) (h : Fit (x / y)) : divO (some x) (some y) = some (x / y) := by
  show (if y = 0 then none else chk (x / y)) = _
  rw [if_neg h0, chk_fit h]
theorem pos_ne0 {x : Rat} (h : 0 < x) : x ≠ 0 := fun e => by rw [e] at h; exact absurd h (Rat.lt_irrefl)
theorem pos_nle {x : Rat} (h : 0 < x) : ¬ x ≤ 0 := Rat.not_le.2 h
structure Sized (a b c d e f : Rat) : Prop where
  ha : Ez a 7 5
  hb : Ez b 7 5
  hc : Ez c 7 5
  hd : Ez d 7 5
  he : Ez e 7 5
  hf : Ez f 7 5
  pa : 0 < a
  p1 : 0 < lx1 a b d
  p2 : 0 < lx2 a b c d e f
theorem Sized.l1 (h : Sized a b c d e f) : Ez (b / a) 12 12 := ex_div h.hb h.ha (pos_ne0 h.pa)
theorem Sized.l2 (h : Sized a b c d e f) : Ez (c / a) 12 12 := ex_div h.hc h.ha (pos_ne0 h.pa)
theorem Sized.x1 (h : Sized a b c d e f) : Ez (lx1 a b d) 37 34 := (ex_sub h.hd (ex_mul (ex_mul h.l1 h.l1) h.ha)).mono (by decide) (by decide)
theorem Sized.y (h : Sized a b c d e f) : Ez (ly a b c e) 37 34 := (ex_sub h.he (ex_mul (ex_mul h.l2 h.l1) h.ha)).mono (by decide) (by decide)
theorem Sized.z (h : Sized a b c d e f) : Ez (f - c / a * (c / a) * a) 37 34 := (ex_sub h.hf (ex_mul (ex_mul h.l2 h.l2) h.ha)).mono (by decide) (by decide)
theorem Sized.l3 (h : Sized a b c d e f) : Ez (ly a b c e / lx1 a b d) 71 71 := ex_div h.y h.x1 (pos_ne0 h.p1)
theorem Sized.x2 (h : Sized a b c d e f) : Ez (lx2 a b c d e f) 214 210 := (ex_sub h.z (ex_mul (ex_mul h.l3 h.l3) h.x1)).mono (by decide) (by decide)
theorem fac3 (h : Sized a b c d e f) : facSt ([a, b, c, b, d, e, c, e, f].map some) 3 3 = some ([1, 0, 0, b / a, 1, 0, c / a, ly a b c e / lx1 a b d, 1].map some, [a, lx1 a b d, lx2 a b c d e f]) := by
  have a0 := pos_ne0 h.pa
  have x0 := pos_ne0 h.p1
  have q1 : quoO ([a, b, c, b, d, e, c, e, f].map some) ([1, 0, 0, 0, 1, 0, 0, 0, 1].map some) [] 3 0 a 1 = some (b / a) := quo_fit a0 (h.l1.fit (by decide) (by decide))
  have q2 : quoO ([a, b, c, b, d, e, c, e, f].map some) ([1, 0, 0, 0, 1, 0, 0, 0, 1].map some) [] 3 0 a 2 = some (c / a) := quo_fit a0 (h.l2.fit (by decide) (by decide))
  have s1 : facSt ([a, b, c, b, d, e, c, e, f].map some) 3 1 = some ([1, 0, 0, b / a, 1, 0, c / a, 0, 1].map some, [a]) := by
    show (if a ≤ 0 then none else cond ((quoO ([a, b, c, b, d, e, c, e, f].map some) ([1, 0, 0, 0, 1, 0, 0, 0, 1].map some) [] 3 0 a 1).isSome && ((quoO ([a, b, c, b, d, e, c, e, f].map some) ([1, 0, 0, 0, 1, 0, 0, 0, 1].map some) [] 3 0 a 2).isSome && true))
      (some ([some 1, some 0, some 0, quoO ([a, b, c, b, d, e, c, e, f].map some) ([1, 0, 0, 0, 1, 0, 0, 0, 1].map some) [] 3 0 a 1, some 1, some 0, quoO ([a, b, c, b, d, e, c, e, f].map some) ([1, 0, 0, 0, 1, 0, 0, 0, 1].map some) [] 3 0 a 2, some 0, some 1], [a])) none) = _
    rw [if_neg (pos_nle h.pa), q1, q2]; rfl
  have x1 : facO ([a, b, c, b, d, e, c, e, f].map some) ([1, 0, 0, b / a, 1, 0, c / a, 0, 1].map some) [a] 3 1 1 1 = some (lx1 a b d) :=
    sub_mul2 ((ex_mul h.l1 h.l1).fit (by decide) (by decide)) ((ex_mul (ex_mul h.l1 h.l1) h.ha).fit (by decide) (by decide)) (h.x1.fit (by decide) (by decide))
  have y1 : facO ([a, b, c, b, d, e, c, e, f].map some) ([1, 0, 0, b / a, 1, 0, c / a, 0, 1].map some) [a] 3 2 1 1 = some (ly a b c e) :=
    sub_mul2 ((ex_mul h.l2 h.l1).fit (by decide) (by decide)) ((ex_mul (ex_mul h.l2 h.l1) h.ha).fit (by decide) (by decide)) (h.y.fit (by decide) (by decide))
  have q3 : quoO ([a, b, c, b, d, e, c, e, f].map some) ([1, 0, 0, b / a, 1, 0, c / a, 0, 1].map some) [a] 3 1 (lx1 a b d) 2 = some (ly a b c e / lx1 a b d) := by
    unfold quoO; rw [y1]; exact quo_fit x0 (h.l3.fit (by decide) (by decide))
  have s2 : facSt ([a, b, c, b, d, e, c, e, f].map some) 3 2 = some ([1, 0, 0, b / a, 1, 0, c / a, ly a b c e / lx1 a b d, 1].map some, [a, lx1 a b d]) := by
    show (facSt ([a, b, c, b, d, e, c, e, f].map some) 3 1).bind _ = _
    rw [s1, Option.bind_some]
    show (facO ([a, b, c, b, d, e, c, e, f].map some) ([1, 0, 0, b / a, 1, 0, c / a, 0, 1].map some) [a] 3 1 1 1).bind _ = _
    rw [x1, Option.bind_some]
    show (if lx1 a b d ≤ 0 then none else cond ((quoO ([a, b, c, b, d, e, c, e, f].map some) ([1, 0, 0, b / a, 1, 0, c / a, 0, 1].map some) [a] 3 1 (lx1 a b d) 2).isSome && true)
      (some ([some 1, some 0, some 0, some (b / a), some 1, some 0, some (c / a), quoO ([a, b, c, b, d, e, c, e, f].map some) ([1, 0, 0, b / a, 1, 0, c / a, 0, 1].map some) [a] 3 1 (lx1 a b d) 2, some 1], [a, lx1 a b d])) none) = _
    rw [if_neg (pos_nle h.p1), q3]; rfl
  have z1 : facO ([a, b, c, b, d, e, c, e, f].map some) ([1, 0, 0, b / a, 1, 0, c / a, ly a b c e / lx1 a b d, 1].map some) [a, lx1 a b d] 3 2 2 1 = some (f - c / a * (c / a) * a) :=
    sub_mul2 ((ex_mul h.l2 h.l2).fit (by decide) (by decide)) ((ex_mul (ex_mul h.l2 h.l2) h.ha).fit (by decide) (by decide)) (h.z.fit (by decide) (by decide))
  have z2 : facO ([a, b, c, b, d, e, c, e, f].map some) ([1, 0, 0, b / a, 1, 0, c / a, ly a b c e / lx1 a b d, 1].map some) [a, lx1 a b d] 3 2 2 2 = some (lx2 a b c d e f) := by
    show subO (facO ([a, b, c, b, d, e, c, e, f].map some) ([1, 0, 0, b / a, 1, 0, c / a, ly a b c e / lx1 a b d, 1].map some) [a, lx1 a b d] 3 2 2 1) (mulO (mulO (some (ly a b c e / lx1 a b d)) (some (ly a b c e / lx1 a b d))) (some (lx1 a b d))) = _
    rw [z1]
    exact sub_mul2 ((ex_mul h.l3 h.l3).fit (by decide) (by decide)) ((ex_mul (ex_mul h.l3 h.l3) h.x1).fit (by decide) (by decide)) (h.x2.fit (by decide) (by decide))
  show (facSt ([a, b, c, b, d, e, c, e, f].map some) 3 2).bind _ = _
  rw [s2, Option.bind_some]
  show (facO ([a, b, c, b, d, e, c, e, f].map some) ([1, 0, 0, b / a, 1, 0, c / a, ly a b c e / lx1 a b d, 1].map some) [a, lx1 a b d] 3 2 2 2).bind _ = _
  rw [z2, Option.bind_some]
  show (if lx2 a b c d e f ≤ 0 then none else _) = _
  rw [if_neg (pos_nle h.p2)]; rfl
theorem ldl_one (h : Sized a b c d e f) : mulM [1, 0, 0, b / a, 1, 0, c / a, ly a b c e / lx1 a b d, 1] [a, 0, 0, 0, lx1 a b d, 0, 0, 0, lx2 a b c d e f] 3 3 3 = [a, 0, 0, b, lx1 a b d, 0, c, ly a b c e, lx2 a b c d e f].map some := by
  have a0 := pos_ne0 h.pa
  have x0 := pos_ne0 h.p1
  have zf : Fit 0 := ex_zero.fit (by decide) (by decide)
  have eb : b / a * a = b := by rw [Rat.div_def, Rat.mul_assoc, Rat.inv_mul_cancel _ a0, Rat.mul_one]
  have ec : c / a * a = c := by rw [Rat.div_def, Rat.mul_assoc, Rat.inv_mul_cancel _ a0, Rat.mul_one]
  have ey : ly a b c e / lx1 a b d * lx1 a b d = ly a b c e := by rw [Rat.div_def, Rat.mul_assoc, Rat.inv_mul_cancel _ x0, Rat.mul_one]
  have hla : Ez (b / a * a) 7 5 := by rw [eb]; exact h.hb
  have hca : Ez (c / a * a) 7 5 := by rw [ec]; exact h.hc
  have hya : Ez (ly a b c e / lx1 a b d * lx1 a b d) 37 34 := by rw [ey]; exact h.y
  have e0 : innO [1, 0, 0] [a, 0, 0] 3 = some a := inn3_val (ex_om h.ha) (ex_mz 0) (ex_mz 0) (h.ha.fit (by decide) (by decide)) (by grind) (by decide)
  have e1 : innO [1, 0, 0] [0, lx1 a b d, 0] 3 = some 0 := inn3_val (ex_mz 1) (ex_zm _) (ex_mz 0) zf (by grind) (by decide)
  have e2 : innO [1, 0, 0] [0, 0, lx2 a b c d e f] 3 = some 0 := inn3_val (ex_mz 1) (ex_mz 0) (ex_zm _) zf (by grind) (by decide)
  have e3 : innO [b / a, 1, 0] [a, 0, 0] 3 = some b := inn3_val hla (ex_mz 1) (ex_mz 0) (h.hb.fit (by decide) (by decide)) (by rw [eb]; grind) (by decide)
  have e4 : innO [b / a, 1, 0] [0, lx1 a b d, 0] 3 = some (lx1 a b d) := inn3_val (ex_mz _) (ex_om h.x1) (ex_mz 0) (h.x1.fit (by decide) (by decide)) (by grind) (by decide)
  have e5 : innO [b / a, 1, 0] [0, 0, lx2 a b c d e f] 3 = some 0 := inn3_val (ex_mz _) (ex_mz 1) (ex_zm _) zf (by grind) (by decide)
  have e6 : innO [c / a, ly a b c e / lx1 a b d, 1] [a, 0, 0] 3 = some c := inn3_val hca (ex_mz _) (ex_mz 1) (h.hc.fit (by decide) (by decide)) (by rw [ec]; grind) (by decide)
  have e7 : innO [c / a, ly a b c e / lx1 a b d, 1] [0, lx1 a b d, 0] 3 = some (ly a b c e) := inn3_val (ex_mz _) hya (ex_mz 1) (h.y.fit (by decide) (by decide)) (by rw [ey]; grind) (by decide)
  have e8 : innO [c / a, ly a b c e / lx1 a b d, 1] [0, 0, lx2 a b c d e f] 3 = some (lx2 a b c d e f) := inn3_val (ex_mz _) (ex_mz _) (ex_om h.x2) (h.x2.fit (by decide) (by decide)) (by grind) (by decide)
  show [innO [1, 0, 0] [a, 0, 0] 3, innO [1, 0, 0] [0, lx1 a b d, 0] 3, innO [1, 0, 0] [0, 0, lx2 a b c d e f] 3, innO [b / a, 1, 0] [a, 0, 0] 3, innO [b / a, 1, 0] [0, lx1 a b d, 0] 3, innO [b / a, 1, 0] [0, 0, lx2 a b c d e f] 3,
    innO [c / a, ly a b c e / lx1 a b d, 1] [a, 0, 0] 3, innO [c / a, ly a b c e / lx1 a b d, 1] [0, lx1 a b d, 0] 3, innO [c / a, ly a b c e / lx1 a b d, 1] [0, 0, lx2 a b c d e f] 3] = _
  rw [e0, e1, e2, e3, e4, e5, e6, e7, e8]; rfl
theorem ldl_two (h : Sized a b c d e f) : mulM [a, 0, 0, b, lx1 a b d, 0, c, ly a b c e, lx2 a b c d e f] (trans [1, 0, 0, b / a, 1, 0, c / a, ly a b c e / lx1 a b d, 1] 3 3) 3 3 3 = [a, b, c, b, d, e, c, e, f].map some := by
  have a0 := pos_ne0 h.pa
  have x0 := pos_ne0 h.p1
  have eb : a * (b / a) = b := by rw [Rat.mul_comm, Rat.div_def, Rat.mul_assoc, Rat.inv_mul_cancel _ a0, Rat.mul_one]
  have ec : a * (c / a) = c := by rw [Rat.mul_comm, Rat.div_def, Rat.mul_assoc, Rat.inv_mul_cancel _ a0, Rat.mul_one]
  have ey : lx1 a b d * (ly a b c e / lx1 a b d) = ly a b c e := by rw [Rat.mul_comm, Rat.div_def, Rat.mul_assoc, Rat.inv_mul_cancel _ x0, Rat.mul_one]
  have hla : Ez (a * (b / a)) 7 5 := by rw [eb]; exact h.hb
  have hca : Ez (a * (c / a)) 7 5 := by rw [ec]; exact h.hc
  have hya : Ez (lx1 a b d * (ly a b c e / lx1 a b d)) 37 34 := by rw [ey]; exact h.y
  have fa := h.ha.fit (by decide) (by decide)
  have fb := h.hb.fit (by decide) (by decide)
  have fc := h.hc.fit (by decide) (by decide)
  have fd := h.hd.fit (by decide) (by decide)
  have fe := h.he.fit (by decide) (by decide)
  have ff := h.hf.fit (by decide) (by decide)
  have v11 : b * (b / a) + lx1 a b d * 1 + 0 * 0 = d := by
    have : b / a * (b / a) * a = b * (b / a) := by rw [Rat.mul_assoc, Rat.mul_comm (b / a) a, eb, Rat.mul_comm]
    unfold lx1; rw [this]; grind
  have m21 : c / a * (b / a) * a = c * (b / a) := by rw [Rat.mul_assoc, Rat.mul_comm (b / a) a, eb, Rat.mul_comm (c / a) b, Rat.div_def, Rat.div_def]; grind
  have v21 : c * (b / a) + ly a b c e * 1 + lx2 a b c d e f * 0 = e := by
    unfold ly; rw [m21]; grind
  have v12 : b * (c / a) + lx1 a b d * (ly a b c e / lx1 a b d) + 0 * 1 = e := by
    rw [ey]
    have : b * (c / a) = c * (b / a) := by rw [Rat.div_def, Rat.div_def]; grind
    rw [this]; unfold ly; rw [m21]; grind
  have v22 : c * (c / a) + ly a b c e * (ly a b c e / lx1 a b d) + lx2 a b c d e f * 1 = f := by
    have h1 : c / a * (c / a) * a = c * (c / a) := by rw [Rat.mul_assoc, Rat.mul_comm (c / a) a, ec, Rat.mul_comm]
    have h2 : ly a b c e / lx1 a b d * (ly a b c e / lx1 a b d) * lx1 a b d = ly a b c e * (ly a b c e / lx1 a b d) := by rw [Rat.mul_assoc, Rat.mul_comm (ly a b c e / lx1 a b d) (lx1 a b d), ey, Rat.mul_comm]
    unfold lx2; rw [h1, h2]; grind
  have e0 : innO [a, 0, 0] [1, 0, 0] 3 = some a := inn3_val (ex_mo h.ha) (ex_mz 0) (ex_mz 0) fa (by grind) (by decide)
  have e1 : innO [a, 0, 0] [b / a, 1, 0] 3 = some b := inn3_val hla (ex_zm 1) (ex_mz 0) fb (by rw [eb]; grind) (by decide)
  have e2 : innO [a, 0, 0] [c / a, ly a b c e / lx1 a b d, 1] 3 = some c := inn3_val hca (ex_zm _) (ex_zm 1) fc (by rw [ec]; grind) (by decide)
  have e3 : innO [b, lx1 a b d, 0] [1, 0, 0] 3 = some b := inn3_val (ex_mo h.hb) (ex_mz _) (ex_mz 0) fb (by grind) (by decide)
  have e4 : innO [b, lx1 a b d, 0] [b / a, 1, 0] 3 = some d := inn3_val (ex_mul h.hb h.l1) (ex_mo h.x1) (ex_mz 0) fd v11 (by decide)
  have e5 : innO [b, lx1 a b d, 0] [c / a, ly a b c e / lx1 a b d, 1] 3 = some e := inn3_val (ex_mul h.hb h.l2) hya (ex_zm 1) fe v12 (by decide)
  have e6 : innO [c, ly a b c e, lx2 a b c d e f] [1, 0, 0] 3 = some c := inn3_val (ex_mo h.hc) (ex_mz _) (ex_mz _) fc (by grind) (by decide)
  have e7 : innO [c, ly a b c e, lx2 a b c d e f] [b / a, 1, 0] 3 = some e := inn3_val (ex_mul h.hc h.l1) (ex_mo h.y) (ex_mz _) fe v21 (by decide)
  have e8 : innO [c, ly a b c e, lx2 a b c d e f] [c / a, ly a b c e / lx1 a b d, 1] 3 = some f := inn3_val (ex_mul h.hc h.l2) (ex_mul h.y h.l3) (ex_mo h.x2) ff v22 (by decide)
  show [innO [a, 0, 0] [1, 0, 0] 3, innO [a, 0, 0] [b / a, 1, 0] 3, innO [a, 0, 0] [c / a, ly a b c e / lx1 a b d, 1] 3, innO [b, lx1 a b d, 0] [1, 0, 0] 3, innO [b, lx1 a b d, 0] [b / a, 1, 0] 3, innO [b, lx1 a b d, 0] [c / a, ly a b c e / lx1 a b d, 1] 3,
    innO [c, ly a b c e, lx2 a b c d e f] [1, 0, 0] 3, innO [c, ly a b c e, lx2 a b c d e f] [b / a, 1, 0] 3, innO [c, ly a b c e, lx2 a b c d e f] [c / a, ly a b c e / lx1 a b d, 1] 3] = _
  rw [e0, e1, e2, e3, e4, e5, e6, e7, e8]; rfl
theorem fac2 (h : Sized a b c d e f) (hz : 0 < f - c / a * (c / a) * a) : facSt ([a, c, c, f].map some) 2 2 = some ([1, 0, c / a, 1].map some, [a, f - c / a * (c / a) * a]) := by
  have a0 := pos_ne0 h.pa
  have q1 : quoO ([a, c, c, f].map some) ([1, 0, 0, 1].map some) [] 2 0 a 1 = some (c / a) := quo_fit a0 (h.l2.fit (by decide) (by decide))
  have s1 : facSt ([a, c, c, f].map some) 2 1 = some ([1, 0, c / a, 1].map some, [a]) := by
    show (if a ≤ 0 then none else cond ((quoO ([a, c, c, f].map some) ([1, 0, 0, 1].map some) [] 2 0 a 1).isSome && true) (some ([some 1, some 0, quoO ([a, c, c, f].map some) ([1, 0, 0, 1].map some) [] 2 0 a 1, some 1], [a])) none) = _
    rw [if_neg (pos_nle h.pa), q1]; rfl
  have z1 : facO ([a, c, c, f].map some) ([1, 0, c / a, 1].map some) [a] 2 1 1 1 = some (f - c / a * (c / a) * a) :=
    sub_mul2 ((ex_mul h.l2 h.l2).fit (by decide) (by decide)) ((ex_mul (ex_mul h.l2 h.l2) h.ha).fit (by decide) (by decide)) (h.z.fit (by decide) (by decide))
  show (facSt ([a, c, c, f].map some) 2 1).bind _ = _
  rw [s1, Option.bind_some]
  show (facO ([a, c, c, f].map some) ([1, 0, c / a, 1].map some) [a] 2 1 1 1).bind _ = _
  rw [z1, Option.bind_some]
  show (if f - c / a * (c / a) * a ≤ 0 then none else _) = _
  rw [if_neg (pos_nle hz)]; rfl
end
end Go.Di
namespace Go.Di
end Go.Di
namespace Go.Di
theorem vec_same {a b : List Rat} (h : a = b) {k : Nat} (ha : Szs a k) (hk : k ≤ 200) (hl : a.length ≤ 1000) : M_impl_EqualVectors (a.map rq) (b.map rq) = some true := by
  subst h
  rw [impl_vecEq (lfit_rq (ha.fits hk) (by omega)), eqB_self]
theorem mx_same {a b : List Rat} {x y : Int} (h : a = b) {k : Nat} (ha : Szs a k) (hk : k ≤ 200) (hl : a.length ≤ 1000) : M_impl_EqualMatrices ⟨x, y, a.map rq⟩ ⟨x, y, b.map rq⟩ = some true := by
  subst h
  rw [impl_mxEq (lfit_rq (ha.fits hk) (by omega)), eqB_self]
end Go.Di
namespace Go.Di
theorem sq_nonneg (x : Rat) : 0 ≤ x * x := by
  rcases Rat.le_total (a := 0) (b := x) with h | h
  · exact Rat.mul_nonneg h h
  · have h2 : 0 ≤ -x := by
      have := Rat.neg_le_neg h
      simpa using this
    have := Rat.mul_nonneg h2 h2
    rwa [show -x * -x = x * x by grind] at this
theorem sq_pos {x : Rat} (h : x ≠ 0) : 0 < x * x := by
  rw [← Rat.not_le]
  intro h1
  rcases Rat.mul_eq_zero.1 (Rat.le_antisymm h1 (sq_nonneg x)) with h2 | h2 <;> exact absurd h2 h
theorem add_pos' {x y : Rat} (hx : 0 < x) (hy : 0 ≤ y) : 0 < x + y := by
  have := Rat.add_le_add_left (c := x) |>.2 hy
  rw [Rat.add_zero] at this
  rw [← Rat.not_le]
  intro h
  exact absurd (Rat.le_trans this h) (Rat.not_le.2 hx)
theorem add_nonneg' {x y : Rat} (hx : 0 ≤ x) (hy : 0 ≤ y) : 0 ≤ x + y := Rat.add_nonneg hx hy
def quad (a b c d e f x y z : Rat) : Rat := a * x * x + d * y * y + f * z * z + 2 * (b * x * y + c * x * z + e * y * z)
def PD (a b c d e f : Rat) : Prop := ∀ x y z : Rat, (x ≠ 0 ∨ y ≠ 0 ∨ z ≠ 0) → 0 < quad a b c d e f x y z
section
variable {a b c d e f : Rat}
theorem PD.a0 (h : PD a b c d e f) : 0 < a := by
  have := h 1 0 0 (.inl (by decide +kernel))
  unfold quad at this
  rwa [show a * 1 * 1 + d * 0 * 0 + f * 0 * 0 + 2 * (b * 1 * 0 + c * 1 * 0 + e * 0 * 0) = a by grind] at this
theorem mul_quo {a b : Rat} (h : a ≠ 0) : b = a * (b / a) := by rw [Rat.div_def, Rat.mul_comm b, ← Rat.mul_assoc, Rat.mul_inv_cancel _ h, Rat.one_mul]
theorem PD.x1 (h : PD a b c d e f) : 0 < lx1 a b d := by
  have hb := mul_quo (b := b) (pos_ne0 h.a0)
  have := h (-(b / a)) 1 0 (.inr (.inl (by decide +kernel)))
  unfold quad at this
  unfold lx1
  generalize b / a = l at *
  subst hb
  rwa [show a * -l * -l + d * 1 * 1 + f * 0 * 0 + 2 * (a * l * -l * 1 + c * -l * 0 + e * 1 * 0) = d - l * l * a by grind] at this
theorem PD.z (h : PD a b c d e f) : 0 < f - c / a * (c / a) * a := by
  have hc := mul_quo (b := c) (pos_ne0 h.a0)
  have := h (-(c / a)) 0 1 (.inr (.inr (by decide +kernel)))
  unfold quad at this
  generalize c / a = l at *
  subst hc
  rwa [show a * -l * -l + d * 0 * 0 + f * 1 * 1 + 2 * (b * -l * 0 + a * l * -l * 1 + e * 0 * 1) = f - l * l * a by grind] at this
theorem PD.x2 (h : PD a b c d e f) : 0 < lx2 a b c d e f := by
  have hb := mul_quo (b := b) (pos_ne0 h.a0)
  have hc := mul_quo (b := c) (pos_ne0 h.a0)
  have hy := mul_quo (b := ly a b c e) (pos_ne0 h.x1)
  have := h (-(c / a) + ly a b c e / lx1 a b d * (b / a)) (-(ly a b c e / lx1 a b d)) 1 (.inr (.inr (by decide +kernel)))
  unfold quad at this
  unfold lx2
  generalize ly a b c e / lx1 a b d = m at *
  unfold ly lx1 at hy
  unfold lx1
  generalize b / a = l at *
  generalize c / a = k at *
  subst hb
  subst hc
  have he : e = (d - l * l * a) * m + k * l * a := by rw [← hy]; grind
  subst he
  rwa [show a * (-k + m * l) * (-k + m * l) + d * -m * -m + f * 1 * 1 + 2 * (a * l * (-k + m * l) * -m + a * k * (-k + m * l) * 1 + ((d - l * l * a) * m + k * l * a) * -m * 1) = f - k * k * a - m * m * (d - l * l * a) by grind] at this
end
theorem pd_of {a b c d e f g h i u v w : Rat} (hu : 0 < u) (hv : 0 < v) (hw : 0 < w) :
    PD (a * a + d * d + g * g + u) (a * b + d * e + g * h) (a * c + d * f + g * i) (b * b + e * e + h * h + v) (b * c + e * f + h * i) (c * c + f * f + i * i + w) := fun x y z hne => by
  have key : quad (a * a + d * d + g * g + u) (a * b + d * e + g * h) (a * c + d * f + g * i) (b * b + e * e + h * h + v) (b * c + e * f + h * i) (c * c + f * f + i * i + w) x y z =
      (u * (x * x) + v * (y * y) + w * (z * z)) + ((a * x + b * y + c * z) * (a * x + b * y + c * z) + (d * x + e * y + f * z) * (d * x + e * y + f * z) + (g * x + h * y + i * z) * (g * x + h * y + i * z)) := by
    unfold quad; grind
  rw [key]
  have n1 : ∀ {p q : Rat}, 0 < p → 0 ≤ p * (q * q) := fun hp => Rat.mul_nonneg (Rat.le_of_lt hp) (sq_nonneg _)
  have p1 : ∀ {p q : Rat}, 0 < p → q ≠ 0 → 0 < p * (q * q) := fun hp hq => Rat.mul_pos hp (sq_pos hq)
  refine add_pos' ?_ (add_nonneg' (add_nonneg' (sq_nonneg _) (sq_nonneg _)) (sq_nonneg _))
  rcases hne with h1 | h1 | h1
  · exact add_pos' (add_pos' (p1 hu h1) (n1 hv)) (n1 hw)
  · rw [Rat.add_comm (u * (x * x))]; exact add_pos' (add_pos' (p1 hv h1) (n1 hu)) (n1 hw)
  · rw [Rat.add_comm]; exact add_pos' (p1 hw h1) (add_nonneg' (n1 hu) (n1 hv))
/-! ### The drawn matrix -/
theorem bd_prod {x y : Rat} (hx : Bd x 20 6) (hy : Bd y 20 6) : Ez (x * y) 3 2 := (bd_mul hx hy).mono (by decide) (by decide)
theorem bd_sum3 {x y z p q r : Rat} (hx : Bd x 20 6) (hy : Bd y 20 6) (hz : Bd z 20 6) (hp : Bd p 20 6) (hq : Bd q 20 6) (hr : Bd r 20 6) : Bd (x * y + z * p + q * r) 1555200 46656 :=
  (bd_add (bd_add (bd_mul hx hy) (bd_mul hz hp)) (bd_mul hq hr)).mono (by decide) (by decide)
theorem inn3_bd {x y z p q r : Rat} (hx : Bd x 20 6) (hy : Bd y 20 6) (hz : Bd z 20 6) (hp : Bd p 20 6) (hq : Bd q 20 6) (hr : Bd r 20 6) : innO [x, z, q] [y, p, r] 3 = some (x * y + z * p + q * r) :=
  inn3_val (bd_prod hx hy) (bd_prod hz hp) (bd_prod hq hr) ((bd_sum3 hx hy hz hp hq hr).fit (by decide) (by decide)) rfl (by decide)
theorem make_sym {code : List Int} (hl : code.length ≤ 1048576) : ∃ a b c d e f : Rat, M_spec_MakeSymmetric_n code = some ⟨3, 3, ([a, b, c, b, d, e, c, e, f] : List Rat).map rq⟩ ∧ PD a b c d e f ∧ Bd a 3400000 93312 ∧ Bd b 3400000 93312 ∧ Bd c 3400000 93312 ∧ Bd d 3400000 93312 ∧ Bd e 3400000 93312 ∧ Bd f 3400000 93312 := by
  obtain ⟨c0, e0, k0⟩ := cur_new hl
  obtain ⟨q, c1, e1, l1, s1, k1⟩ := draw_vec k0 (k := 9) (by omega)
  unfold M_spec_MakeSymmetric_n M_spec_l08Sure_n
  have hd : M_spec_l06Draw c0 3 3 = some (⟨3, 3, q.map rq⟩, c1) := by
    unfold M_spec_l06Draw
    rw [show IntKind.i64.wrap (3 * 3) = ((9 : Nat) : Int) from rfl, e1]; rfl
  have fq := s1.fits
  have ht := spec_trans_m (r := 3) (c := 3) (by omega) (by omega) l1 fq
  have hft := trans_fits (r := 3) (c := 3) l1 fq
  have hm := spec_mul_mm (r := 3) (c := 3) (n := 3) (p := trans q 3 3) (q := q) (by omega) (by omega) (by omega) (len_trans q 3 3) hft l1 fq
  match q, l1 with
  | [a, b, c, d, e, f, g, h, i], _ =>
    have ba : Bd a 20 6 := s1 a (by simp)
    have bb : Bd b 20 6 := s1 b (by simp)
    have bc : Bd c 20 6 := s1 c (by simp)
    have bd : Bd d 20 6 := s1 d (by simp)
    have be : Bd e 20 6 := s1 e (by simp)
    have bf : Bd f 20 6 := s1 f (by simp)
    have bg : Bd g 20 6 := s1 g (by simp)
    have bh : Bd h 20 6 := s1 h (by simp)
    have bi : Bd i 20 6 := s1 i (by simp)
    have hv : mulM (trans [a, b, c, d, e, f, g, h, i] 3 3) [a, b, c, d, e, f, g, h, i] 3 3 3 = [a * a + d * d + g * g, a * b + d * e + g * h, a * c + d * f + g * i, b * a + e * d + h * g, b * b + e * e + h * h, b * c + e * f + h * i, c * a + f * d + i * g, c * b + f * e + i * h, c * c + f * f + i * i].map some := by
      show [innO [a, d, g] [a, d, g] 3, innO [a, d, g] [b, e, h] 3, innO [a, d, g] [c, f, i] 3, innO [b, e, h] [a, d, g] 3, innO [b, e, h] [b, e, h] 3, innO [b, e, h] [c, f, i] 3, innO [c, f, i] [a, d, g] 3, innO [c, f, i] [b, e, h] 3, innO [c, f, i] [c, f, i] 3] = _
      rw [inn3_bd ba ba bd bd bg bg, inn3_bd ba bb bd be bg bh, inn3_bd ba bc bd bf bg bi, inn3_bd bb ba be bd bh bg, inn3_bd bb bb be be bh bh, inn3_bd bb bc be bf bh bi, inn3_bd bc ba bf bd bi bg, inn3_bd bc bb bf be bi bh, inn3_bd bc bc bf bf bi bi]; rfl
    rw [hv, some_ro] at hm
    have c10 : b * a + e * d + h * g = a * b + d * e + g * h := by grind
    have c20 : c * a + f * d + i * g = a * c + d * f + g * i := by grind
    have c21 : c * b + f * e + i * h = b * c + e * f + h * i := by grind
    rw [c10, c20, c21] at hm
    have n00 := bd_sum3 ba ba bd bd bg bg
    have n01 := bd_sum3 ba bb bd be bg bh
    have n02 := bd_sum3 ba bc bd bf bg bi
    have n11 := bd_sum3 bb bb be be bh bh
    have n12 := bd_sum3 bb bc be bf bh bi
    have n22 := bd_sum3 bc bc bf bf bi bi
    generalize hA : a * a + d * d + g * g = A at *
    generalize hB : a * b + d * e + g * h = B at *
    generalize hC : a * c + d * f + g * i = C at *
    generalize hDD : b * b + e * e + h * h = DD at *
    generalize hE : b * c + e * f + h * i = E at *
    generalize hF : c * c + f * f + i * i = F at *
    -- the diagonal grows, one number after the other; what was there keeps its bound
    have step : ∀ (q : List Rat), q.length = 9 → ∀ (cu : Cur), cu.ok → ∀ (j : Nat), j < 3 → Bd ((q[j * 3 + j]?).getD 0) 1555200 46656 → ∃ (u : Rat) (c' : Cur), S_spec_l08Sure_n_0 ((j : Int), cu.b, cu.i, cu.h, 0, 0, [], 3, 3, q.map rq, ()) =
        some (.inl (((j + 1 : Nat) : Int), c'.b, c'.i, c'.h, 0, 0, [], 3, 3, (q.set (j * 3 + j) ((q[j * 3 + j]?).getD 0 + u)).map rq, ())) ∧ c'.ok ∧ Bd u 4 2 ∧ 0 < u := fun q hq cu kc j hj hb => sure_step' kc hj hq hb
    obtain ⟨u, cu, eu, ku, bu, pu⟩ := step [A, B, C, B, DD, E, C, E, F] rfl c1 k1 0 (by omega) n00
    obtain ⟨v, cv, ev, kv, bv, pv⟩ := step [A + u, B, C, B, DD, E, C, E, F] rfl cu ku 1 (by omega) n11
    obtain ⟨w, cw, ew, kw, bw, pw⟩ := step [A + u, B, C, B, DD + v, E, C, E, F] rfl cv kv 2 (by omega) n22
    have hloop : L_spec_l08Sure_n_0 0 c1.b c1.i c1.h 0 0 [] 3 3 (([A, B, C, B, DD, E, C, E, F] : List Rat).map rq) = some (cw.b, cw.i, cw.h, 0, 0, [], 3, 3, ([A + u, B, C, B, DD + v, E, C, E, F + w] : List Rat).map rq, ()) := by
      unfold L_spec_l08Sure_n_0
      have eu' : S_spec_l08Sure_n_0 (0, c1.b, c1.i, c1.h, 0, 0, [], 3, 3, ([A, B, C, B, DD, E, C, E, F] : List Rat).map rq, ()) = some (.inl (1, cu.b, cu.i, cu.h, 0, 0, [], 3, 3, ([A + u, B, C, B, DD, E, C, E, F] : List Rat).map rq, ())) := eu
      have ev' : S_spec_l08Sure_n_0 (1, cu.b, cu.i, cu.h, 0, 0, [], 3, 3, ([A + u, B, C, B, DD, E, C, E, F] : List Rat).map rq, ()) = some (.inl (2, cv.b, cv.i, cv.h, 0, 0, [], 3, 3, ([A + u, B, C, B, DD + v, E, C, E, F] : List Rat).map rq, ())) := ev
      have ew' : S_spec_l08Sure_n_0 (2, cv.b, cv.i, cv.h, 0, 0, [], 3, 3, ([A + u, B, C, B, DD + v, E, C, E, F] : List Rat).map rq, ()) = some (.inl (3, cw.b, cw.i, cw.h, 0, 0, [], 3, 3, ([A + u, B, C, B, DD + v, E, C, E, F + w] : List Rat).map rq, ())) := ew
      rw [whileO_inl eu', whileO_inl ev', whileO_inl ew']
      exact whileO_inr rfl
    have ht' : M_spec_l06Transpose_m ⟨3, 3, ([a, b, c, d, e, f, g, h, i] : List Rat).map rq⟩ = some (⟨3, 3, (trans [a, b, c, d, e, f, g, h, i] 3 3).map rq⟩, ([a, b, c, d, e, f, g, h, i] : List Rat).map rq) := ht
    have hm' : M_spec_l06Multiply_mm ⟨3, 3, (trans [a, b, c, d, e, f, g, h, i] 3 3).map rq⟩ ⟨3, 3, ([a, b, c, d, e, f, g, h, i] : List Rat).map rq⟩ = some (⟨3, 3, ([A, B, C, B, DD, E, C, E, F] : List Rat).map rq⟩, (trans [a, b, c, d, e, f, g, h, i] 3 3).map rq, ([a, b, c, d, e, f, g, h, i] : List Rat).map rq) := hm
    refine ⟨A + u, B, C, DD + v, E, F + w, ?_, ?_, (bd_add n00 bu).mono (by decide) (by decide), n01.mono (by decide) (by decide), n02.mono (by decide) (by decide), (bd_add n11 bv).mono (by decide) (by decide), n12.mono (by decide) (by decide), (bd_add n22 bw).mono (by decide) (by decide)⟩
    · simp only [e0, Option.bind_some, hd, ht', hm', hloop]
    · rw [← hA, ← hB, ← hC, ← hDD, ← hE, ← hF]
      exact pd_of pu pv pw
theorem zeros9 : M_impl_MatrixOf_ddm 3 3 [0, 0, 0, 0, 0, 0, 0, 0, 0] = some (⟨3, 3, ([0, 0, 0, 0, 0, 0, 0, 0, 0] : List Rat).map rq⟩, [0, 0, 0, 0, 0, 0, 0, 0, 0]) := by
  have h : inB 3 0 24 = true := rfl
  unfold M_impl_MatrixOf_ddm L_impl_MatrixOf_ddm_0
  rw [impl_len, h]
  simp only [Option.bind_some, Bool.not_true, cond_false]
  have h3 : ((([0, 0, 0, 0, 0, 0, 0, 0, 0] : List Int).length : Int) != IntKind.i64.wrap (3 * 3)) = false := rfl
  rw [h3, cond_false]
  rw [app_loop (S := S_impl_MatrixOf_ddm_0) (fun i out => ((([0, 0, 0, 0, 0, 0, 0, 0, 0] : List Int).length : Int), i, 0, 0, [], 3, 3, out, [0, 0, 0, 0, 0, 0, 0, 0, 0], ())) (fun _ => ro (some 0)) 9 (r := fun out => (0, 0, [], 3, 3, out, [0, 0, 0, 0, 0, 0, 0, 0, 0], ())) (fun i out hi ho => by
    have hi' : i < ([0, 0, 0, 0, 0, 0, 0, 0, 0] : List Int).length := hi
    have hg : ([0, 0, 0, 0, 0, 0, 0, 0, 0] : List Int)[i] = 0 := by
      rcases (by omega : i = 0 ∨ i = 1 ∨ i = 2 ∨ i = 3 ∨ i = 4 ∨ i = 5 ∨ i = 6 ∨ i = 7 ∨ i = 8) with e | e | e | e | e | e | e | e | e <;> subst e <;> rfl
    have hg2 : ([0, 0, 0, 0, 0, 0, 0, 0, 0] : List Int)[i]? = some 0 := by rw [List.getElem?_eq_getElem hi', hg]
    simp only [S_impl_MatrixOf_ddm_0, dlt hi', cond_true, idx_at hi', Int.toNat_natCast, hg2, Option.bind_some, whole_zero, room1 (show out.length ≤ 2000000 by omega), succ_wrap hi (show 9 ≤ 1048576 by omega)]) (fun out _ => rfl)]
  rfl
theorem part02 {a b c d e f : Rat} (hf : Fits [a, b, c, b, d, e, c, e, f]) : M_impl_Submatrix ⟨3, 3, ([a, b, c, b, d, e, c, e, f] : List Rat).map rq⟩ [0, 2] = some (⟨2, 2, ([a, c, c, f] : List Rat).map rq⟩, true) := by
  have hok := impl_mxOk (m := ⟨((3 : Nat) : Int), ((3 : Nat) : Int), ([a, b, c, b, d, e, c, e, f] : List Rat).map rq⟩) (lfit_rq hf (by simp))
  rw [mx_ok (by omega) (by omega) rfl hf] at hok
  have hok' : M_impl_MatrixOk ⟨3, 3, ([a, b, c, b, d, e, c, e, f] : List Rat).map rq⟩ = some true := hok
  have hasc : M_impl_ascendingTo [0, 2] 3 = some true := by rw [impl_asc (by decide)]; rfl
  have hne : ((3 : Int) != 3) = false := rfl
  have cell : ∀ i k : Nat, i < 2 → k < 2 → M_impl_part_c1 (i : Int) (k : Int) ⟨3, 3, ([a, b, c, b, d, e, c, e, f] : List Rat).map rq⟩ [0, 2] [0, 2] = some (ro (([a, b, c, b, d, e, c, e, f] : List Rat)[2 * i * 3 + 2 * k]?)) := fun i k hi hk => by
    have i1 : idx ([0, 2] : List Int) (i : Int) = some ((2 * i : Nat) : Int) := by rcases (by omega : i = 0 ∨ i = 1) with e | e <;> subst e <;> rfl
    have i2 : idx ([0, 2] : List Int) (k : Int) = some ((2 * k : Nat) : Int) := by rcases (by omega : k = 0 ∨ k = 1) with e | e <;> subst e <;> rfl
    have at1 := impl_at (q := [a, b, c, b, d, e, c, e, f]) (r := 3) (c := 3) (i := 2 * i) (k := 2 * k) (x := 3) rfl (by omega) (by omega) (by omega) (by omega)
    have at1' : M_impl_Matrix_at ⟨3, 3, ([a, b, c, b, d, e, c, e, f] : List Rat).map rq⟩ ((2 * i : Nat) : Int) ((2 * k : Nat) : Int) = some (ro (([a, b, c, b, d, e, c, e, f] : List Rat)[2 * i * 3 + 2 * k]?)) := at1
    unfold M_impl_part_c1
    simp only [i1, i2, Option.bind_some, at1', copy_ro (hf.get _)]
  have hpart : M_impl_part ⟨3, 3, ([a, b, c, b, d, e, c, e, f] : List Rat).map rq⟩ [0, 2] [0, 2] = some ⟨2, 2, ([a, c, c, f] : List Rat).map rq⟩ := by
    unfold M_impl_part M_impl_built__impl_part_c1 L_impl_built__impl_part_c1_0
    simp only []
    have gl := grid_loop (S := S_impl_built__impl_part_c1_0) (fun i out => ((2 : Int), (3 : Int), (3 : Int), ([a, b, c, b, d, e, c, e, f] : List Rat).map rq, [0, 2], [0, 2], (2 : Int), i, 0, 0, [], (2 : Int), (2 : Int), out, ())) (fun i k => ro (([a, b, c, b, d, e, c, e, f] : List Rat)[2 * i * 3 + 2 * k]?)) 2 2 (r := fun out => (0, 0, [], (2 : Int), (2 : Int), out, ())) (fun i out hi ho => by
      unfold S_impl_built__impl_part_c1_0 L_impl_built__impl_part_c1_1
      simp only [decide_eq_true (show (i : Int) < 2 by omega), cond_true]
      rw [app_from (S := S_impl_built__impl_part_c1_1) out (fun k out => ((2 : Int), (3 : Int), (3 : Int), ([a, b, c, b, d, e, c, e, f] : List Rat).map rq, [0, 2], [0, 2], (i : Int), (2 : Int), (i : Int), (2 : Int), k, 0, 0, [], (2 : Int), (2 : Int), out, ())) (fun k => ro (([a, b, c, b, d, e, c, e, f] : List Rat)[2 * i * 3 + 2 * k]?)) 2 (r := fun out => ((2 : Int), (3 : Int), (3 : Int), ([a, b, c, b, d, e, c, e, f] : List Rat).map rq, [0, 2], [0, 2], (2 : Int), (i : Int), 0, 0, [], (2 : Int), (2 : Int), out, ())) (fun k xs hk hx => by
        simp only [S_impl_built__impl_part_c1_1, decide_eq_true (show (k : Int) < 2 by omega), cond_true, cell i k hi hk, Option.bind_some, room_row hi hk (show 2 ≤ 24 by omega) (show 2 ≤ 24 by omega) ho hx, succ_wrap hk (show 2 ≤ 1048576 by omega)]) (fun out _ => rfl)]
      simp only [Option.bind_some, succ_wrap hi (show 2 ≤ 1048576 by omega)]) (fun out _ => rfl)
    refine (congrArg (fun x => Option.bind (Option.bind x _) _) gl).trans ?_
    rfl
  unfold M_impl_Submatrix
  simp only [hok', Option.bind_some, Bool.not_true, cond_false, hne, hasc, hpart]
theorem quad_val {q v : List Rat} {n k m : Nat} (hn : n ≤ 24) (hl : q.length = n * n) (hv : v.length = n) (hq : Szs q k) (hw : Szs v m) (hs : n * (k + m + 1) ≤ 200) (hs2 : n * (m + n * (k + m + 1) + 1) ≤ 200) (hk : k ≤ 200) (hm : m ≤ 200) :
    M_impl_QuadraticForm ⟨n, n, q.map rq⟩ (v.map rq) = some (rq (innR v (appR q n n v) n), true) ∧ Fit (innR v (appR q n n v) n) := by
  obtain ⟨h1, h2⟩ := apply_small hn hn hl hv hq hw hs hk hm
  have hal : (appR q n n v).length = n := by simp [appR]
  obtain ⟨h3, h4⟩ := inn_sz hw h2 n (by omega) (by omega) hs2
  have hin := impl_inner (hw.fits hm) (h2.fits hs) (by omega) (by omega)
  rw [hv, h3] at hin
  have hne : ((n : Int) != (n : Int)) = false := by simp
  refine ⟨?_, h4.fit hs2⟩
  unfold M_impl_QuadraticForm
  simp only [h1, Option.bind_some, Bool.not_true, cond_false, hne, hin, impl_given]
  rfl
theorem sign_pos {y : Rat} (h : Fit y) (h0 : 0 < y) : ∃ s : Int, M_impl_RatSign (rq y) = some s ∧ decide (s ≤ 0) = false ∧ decide (s > 0) = true := by
  have hn : ¬ y.num ≤ 0 := fun h' => absurd (num_le.1 h') (Rat.not_le.2 h0)
  refine ⟨_, by unfold M_impl_RatSign; rw [show rq y = ro (some y) from rfl, impl_okO h.ok, Option.bind_some]; simp only [Option.isSome_some, Bool.not_true, cond_false]; rw [show ro (some y) = rq y from rfl, impl_signq, Option.bind_some], ?_⟩
  rw [decide_eq_false (show ¬ y.num < 0 by omega), decide_eq_true (show y.num ≠ 0 by omega)]
  exact ⟨rfl, rfl⟩
theorem sign_q' {y : Rat} (h : Fit y) (h0 : y = 0 := by rfl) : ∃ s : Int, M_impl_RatSign (rq y) = some s ∧ decide (s > 0) = false := by
  refine ⟨_, by unfold M_impl_RatSign; rw [show rq y = ro (some y) from rfl, impl_okO h.ok, Option.bind_some]; simp only [Option.isSome_some, Bool.not_true, cond_false]; rw [show ro (some y) = rq y from rfl, impl_signq, Option.bind_some], ?_⟩
  subst h0; rfl
theorem law_FnFactors (code : List Int) (_ : CK.wf (.sl .byte) code) : M_laws_FnFactors code = some true := by
  unfold M_laws_FnFactors
  cases hcl : decide ((code.length : Int) > 1048576) with
  | true => rfl
  | false =>
    have hl : code.length ≤ 1048576 := by have := of_decide_eq_false hcl; omega
    obtain ⟨a, b, c, d, e, f, em, pd, ba, bb, bc, bd, be, bf⟩ := make_sym hl
    obtain ⟨w, ew, lw, sw⟩ := make_vec hl (n := 40) (by omega) (k := 3) (by omega)
    have za : ∀ {x : Rat}, Bd x 3400000 93312 → Ez x 7 5 := fun h => h.mono (by decide) (by decide)
    have hS : Sized a b c d e f := ⟨za ba, za bb, za bc, za bd, za be, za bf, pd.a0, pd.x1, pd.x2⟩
    have zM : Szs [a, b, c, b, d, e, c, e, f] 7 := fun x hx => by
      have : ∀ {y : Rat}, Bd y 3400000 93312 → Sz y 7 := fun h => h.mono (by decide) (by decide)
      simp only [List.mem_cons, List.not_mem_nil, or_false] at hx
      rcases hx with h | h | h | h | h | h | h | h | h <;> rw [h]
      · exact this ba
      · exact this bb
      · exact this bc
      · exact this bb
      · exact this bd
      · exact this be
      · exact this bc
      · exact this be
      · exact this bf
    have fM : Fits [a, b, c, b, d, e, c, e, f] := zM.fits (by omega)
    have hsym : trans [a, b, c, b, d, e, c, e, f] 3 3 = [a, b, c, b, d, e, c, e, f] := rfl
    have fac := factor_val (n := 3) (q := [a, b, c, b, d, e, c, e, f]) (by omega) rfl fM hsym (fac3 hS)
    have sym := sym_val (n := 3) (q := [a, b, c, b, d, e, c, e, f]) (by omega) rfl fM hsym
    have z0 := pd.z
    have f2 : Fits [a, c, c, f] := fun x hx => by
      simp only [List.mem_cons, List.not_mem_nil, or_false] at hx
      rcases hx with h | h | h | h <;> rw [h]
      · exact hS.ha.fit (by decide) (by decide)
      · exact hS.hc.fit (by decide) (by decide)
      · exact hS.hc.fit (by decide) (by decide)
      · exact hS.hf.fit (by decide) (by decide)
    have fac2' := factor_val (n := 2) (q := [a, c, c, f]) (by omega) rfl f2 rfl (fac2 hS z0)
    have fx0 : Fit a := hS.ha.fit (by decide) (by decide)
    have fx1 : Fit (lx1 a b d) := hS.x1.fit (by decide) (by decide)
    have fx2 : Fit (lx2 a b c d e f) := hS.x2.fit (by decide) (by decide)
    have fl1 : Fit (b / a) := hS.l1.fit (by decide) (by decide)
    have fl2 : Fit (c / a) := hS.l2.fit (by decide) (by decide)
    have fl3 : Fit (ly a b c e / lx1 a b d) := hS.l3.fit (by decide) (by decide)
    have f0 : Fit 0 := fit_zero
    have f1 : Fit 1 := fit_one
    have fL : Fits [1, 0, 0, b / a, 1, 0, c / a, ly a b c e / lx1 a b d, 1] := fun x hx => by
      simp only [List.mem_cons, List.not_mem_nil, or_false] at hx
      rcases hx with h | h | h | h | h | h | h | h | h <;> rw [h] <;> assumption
    have fD : Fits [a, 0, 0, 0, lx1 a b d, 0, 0, 0, lx2 a b c d e f] := fun x hx => by
      simp only [List.mem_cons, List.not_mem_nil, or_false] at hx
      rcases hx with h | h | h | h | h | h | h | h | h <;> rw [h] <;> assumption
    have fA : Fits [a, 0, 0, b, lx1 a b d, 0, c, ly a b c e, lx2 a b c d e f] := fun x hx => by
      have fb : Fit b := hS.hb.fit (by decide) (by decide)
      have fc : Fit c := hS.hc.fit (by decide) (by decide)
      have fy : Fit (ly a b c e) := hS.y.fit (by decide) (by decide)
      simp only [List.mem_cons, List.not_mem_nil, or_false] at hx
      rcases hx with h | h | h | h | h | h | h | h | h <;> rw [h] <;> assumption
    have p1 := mul_val (r := 3) (c := 3) (n := 3) (by omega) (by omega) (by omega) rfl rfl fL fD (ldl_one hS)
    have tr := trans_val (r := 3) (c := 3) (by omega) (by omega) rfl fL
    have p2 := mul_val (r := 3) (c := 3) (n := 3) (by omega) (by omega) (by omega) rfl (len_trans _ 3 3) fA (trans_fits (r := 3) (c := 3) rfl fL) (ldl_two hS)
    obtain ⟨qv, fq⟩ := quad_val (n := 3) (q := [a, b, c, b, d, e, c, e, f]) (by omega) rfl lw zM sw.sz (by omega) (by omega) (by omega) (by omega)
    have sub := part02 fM
    obtain ⟨s0, es0, n0, _⟩ := sign_pos fx0 hS.pa
    obtain ⟨s1, es1, n1, _⟩ := sign_pos fx1 hS.p1
    obtain ⟨s2, es2, n2, _⟩ := sign_pos fx2 hS.p2
    have pos1 : M_impl_IsPositive_m ⟨3, 3, ([a, b, c, b, d, e, c, e, f] : List Rat).map rq⟩ = some (true, ([a, b, c, b, d, e, c, e, f] : List Rat).map rq) := by
      have fac' : M_impl_Factor_m ⟨3, 3, ([a, b, c, b, d, e, c, e, f] : List Rat).map rq⟩ = _ := fac
      unfold M_impl_IsPositive_m; rw [fac']; rfl
    have pos2 : M_impl_IsPositive_m ⟨2, 2, ([a, c, c, f] : List Rat).map rq⟩ = some (true, ([a, c, c, f] : List Rat).map rq) := by
      have fac' : M_impl_Factor_m ⟨2, 2, ([a, c, c, f] : List Rat).map rq⟩ = _ := fac2'
      unfold M_impl_IsPositive_m; rw [fac']; rfl
    have lp : L_laws_FnFactors_0 code (([a, lx1 a b d, lx2 a b c d e f] : List Rat).map rq) 3 0 3 3 3 3 (([1, 0, 0, b / a, 1, 0, c / a, ly a b c e / lx1 a b d, 1] : List Rat).map rq) 3 3 (([a, b, c, b, d, e, c, e, f] : List Rat).map rq) (([0, 0, 0, 0, 0, 0, 0, 0, 0] : List Rat).map rq) =
        some (.inr (code, 3, 3, 3, 3, ([1, 0, 0, b / a, 1, 0, c / a, ly a b c e / lx1 a b d, 1] : List Rat).map rq, 3, 3, ([a, b, c, b, d, e, c, e, f] : List Rat).map rq, ([a, 0, 0, 0, lx1 a b d, 0, 0, 0, lx2 a b c d e f] : List Rat).map rq, ())) := by
      unfold L_laws_FnFactors_0
      have t0 : S_laws_FnFactors_0 (code, ([a, lx1 a b d, lx2 a b c d e f] : List Rat).map rq, 3, 0, 3, 3, 3, 3, ([1, 0, 0, b / a, 1, 0, c / a, ly a b c e / lx1 a b d, 1] : List Rat).map rq, 3, 3, ([a, b, c, b, d, e, c, e, f] : List Rat).map rq, ([0, 0, 0, 0, 0, 0, 0, 0, 0] : List Rat).map rq, ()) =
          some (.inl (code, ([a, lx1 a b d, lx2 a b c d e f] : List Rat).map rq, 3, 1, 3, 3, 3, 3, ([1, 0, 0, b / a, 1, 0, c / a, ly a b c e / lx1 a b d, 1] : List Rat).map rq, 3, 3, ([a, b, c, b, d, e, c, e, f] : List Rat).map rq, ([a, 0, 0, 0, 0, 0, 0, 0, 0] : List Rat).map rq, ())) := by
        have i0 : idx (([a, lx1 a b d, lx2 a b c d e f] : List Rat).map rq) 0 = some (rq (a)) := rfl
        have j0 : idx (([0, 0, 0, 0, 0, 0, 0, 0, 0] : List Rat).map rq) (IntKind.i64.wrap (4 * 0)) = some (rq 0) := rfl
        simp only [S_laws_FnFactors_0, show decide ((0 : Int) < 3) = true from rfl, cond_true, i0, Option.bind_some, j0, es0, n0, cond_false]
        rfl
      have t1 : S_laws_FnFactors_0 (code, ([a, lx1 a b d, lx2 a b c d e f] : List Rat).map rq, 3, 1, 3, 3, 3, 3, ([1, 0, 0, b / a, 1, 0, c / a, ly a b c e / lx1 a b d, 1] : List Rat).map rq, 3, 3, ([a, b, c, b, d, e, c, e, f] : List Rat).map rq, ([a, 0, 0, 0, 0, 0, 0, 0, 0] : List Rat).map rq, ()) =
          some (.inl (code, ([a, lx1 a b d, lx2 a b c d e f] : List Rat).map rq, 3, 2, 3, 3, 3, 3, ([1, 0, 0, b / a, 1, 0, c / a, ly a b c e / lx1 a b d, 1] : List Rat).map rq, 3, 3, ([a, b, c, b, d, e, c, e, f] : List Rat).map rq, ([a, 0, 0, 0, lx1 a b d, 0, 0, 0, 0] : List Rat).map rq, ())) := by
        have i0 : idx (([a, lx1 a b d, lx2 a b c d e f] : List Rat).map rq) 1 = some (rq (lx1 a b d)) := rfl
        have j0 : idx (([a, 0, 0, 0, 0, 0, 0, 0, 0] : List Rat).map rq) (IntKind.i64.wrap (4 * 1)) = some (rq 0) := rfl
        simp only [S_laws_FnFactors_0, show decide ((1 : Int) < 3) = true from rfl, cond_true, i0, Option.bind_some, j0, es1, n1, cond_false]
        rfl
      have t2 : S_laws_FnFactors_0 (code, ([a, lx1 a b d, lx2 a b c d e f] : List Rat).map rq, 3, 2, 3, 3, 3, 3, ([1, 0, 0, b / a, 1, 0, c / a, ly a b c e / lx1 a b d, 1] : List Rat).map rq, 3, 3, ([a, b, c, b, d, e, c, e, f] : List Rat).map rq, ([a, 0, 0, 0, lx1 a b d, 0, 0, 0, 0] : List Rat).map rq, ()) =
          some (.inl (code, ([a, lx1 a b d, lx2 a b c d e f] : List Rat).map rq, 3, 3, 3, 3, 3, 3, ([1, 0, 0, b / a, 1, 0, c / a, ly a b c e / lx1 a b d, 1] : List Rat).map rq, 3, 3, ([a, b, c, b, d, e, c, e, f] : List Rat).map rq, ([a, 0, 0, 0, lx1 a b d, 0, 0, 0, lx2 a b c d e f] : List Rat).map rq, ())) := by
        have i0 : idx (([a, lx1 a b d, lx2 a b c d e f] : List Rat).map rq) 2 = some (rq (lx2 a b c d e f)) := rfl
        have j0 : idx (([a, 0, 0, 0, lx1 a b d, 0, 0, 0, 0] : List Rat).map rq) (IntKind.i64.wrap (4 * 2)) = some (rq 0) := rfl
        simp only [S_laws_FnFactors_0, show decide ((2 : Int) < 3) = true from rfl, cond_true, i0, Option.bind_some, j0, es2, n2, cond_false]
        rfl
      rw [whileO_inl t0, whileO_inl t1, whileO_inl t2]
      exact whileO_inr rfl
    have fac' : M_impl_Factor_m ⟨3, 3, ([a, b, c, b, d, e, c, e, f] : List Rat).map rq⟩ = some (⟨3, 3, ([1, 0, 0, b / a, 1, 0, c / a, ly a b c e / lx1 a b d, 1] : List Rat).map rq⟩, ([a, lx1 a b d, lx2 a b c d e f] : List Rat).map rq, true, ([a, b, c, b, d, e, c, e, f] : List Rat).map rq) := fac
    have sym' : M_impl_IsSymmetric ⟨3, 3, ([a, b, c, b, d, e, c, e, f] : List Rat).map rq⟩ = some true := sym
    have p1' : M_impl_Multiply ⟨3, 3, ([1, 0, 0, b / a, 1, 0, c / a, ly a b c e / lx1 a b d, 1] : List Rat).map rq⟩ ⟨3, 3, ([a, 0, 0, 0, lx1 a b d, 0, 0, 0, lx2 a b c d e f] : List Rat).map rq⟩ = some (⟨3, 3, ([a, 0, 0, b, lx1 a b d, 0, c, ly a b c e, lx2 a b c d e f] : List Rat).map rq⟩, true) := p1
    have tr' : M_impl_Transpose ⟨3, 3, ([1, 0, 0, b / a, 1, 0, c / a, ly a b c e / lx1 a b d, 1] : List Rat).map rq⟩ = some ⟨3, 3, (trans [1, 0, 0, b / a, 1, 0, c / a, ly a b c e / lx1 a b d, 1] 3 3).map rq⟩ := tr
    have p2' : M_impl_Multiply ⟨3, 3, ([a, 0, 0, b, lx1 a b d, 0, c, ly a b c e, lx2 a b c d e f] : List Rat).map rq⟩ ⟨3, 3, (trans [1, 0, 0, b / a, 1, 0, c / a, ly a b c e / lx1 a b d, 1] 3 3).map rq⟩ = some (⟨3, 3, ([a, b, c, b, d, e, c, e, f] : List Rat).map rq⟩, true) := p2
    have qv' : M_impl_QuadraticForm ⟨3, 3, ([a, b, c, b, d, e, c, e, f] : List Rat).map rq⟩ (w.map rq) = some (rq (innR w (appR [a, b, c, b, d, e, c, e, f] 3 3 w) 3), true) := qv
    have ew' : M_spec_MakeVector code 40 3 = some (w.map rq) := ew
    have eqm := mx_same (x := 3) (y := 3) (a := [a, b, c, b, d, e, c, e, f]) rfl zM (by omega) (by simp)
    have hlen3 : ((((([a, lx1 a b d, lx2 a b c d e f] : List Rat).map rq).length : Nat) : Int) != 3) = false := rfl
    have hlen9 : ((((([0, 0, 0, 0, 0, 0, 0, 0, 0] : List Rat).map rq).length : Nat) : Int) != 9) = false := rfl
    have hl3 : ((([a, lx1 a b d, lx2 a b c d e f] : List Rat).map rq).length : Int) = 3 := rfl
    have h33 : ((3 : Int) != 3) = false := rfl
    -- the quadratic form
    have hquad : (innR w (appR [a, b, c, b, d, e, c, e, f] 3 3 w) 3 ≠ 0 ∧ 0 < innR w (appR [a, b, c, b, d, e, c, e, f] 3 3 w) 3) ∨ (w = [0, 0, 0] ∧ innR w (appR [a, b, c, b, d, e, c, e, f] 3 3 w) 3 = 0) := by
      match w, lw with
      | [x, y, z], _ =>
        have ev : innR [x, y, z] (appR [a, b, c, b, d, e, c, e, f] 3 3 [x, y, z]) 3 = quad a b c d e f x y z := by
          show 0 + x * (0 + a * x + b * y + c * z) + y * (0 + b * x + d * y + e * z) + z * (0 + c * x + e * y + f * z) = _
          unfold quad; grind
        rw [ev]
        by_cases hz : x = 0 ∧ y = 0 ∧ z = 0
        · right
          obtain ⟨rfl, rfl, rfl⟩ := hz
          exact ⟨rfl, by unfold quad; grind⟩
        · left
          have := pd x y z (by
            by_cases h1 : x = 0
            · by_cases h2 : y = 0
              · exact .inr (.inr fun h3 => hz ⟨h1, h2, h3⟩)
              · exact .inr (.inl h2)
            · exact .inl h1)
          exact ⟨pos_ne0 this, this⟩
    rcases hquad with ⟨_, hq0⟩ | ⟨hw0, hq0⟩
    · obtain ⟨s, es, _, sp⟩ := sign_pos fq hq0
      simp only [cond_false, em, Option.bind_some, fac', Bool.not_true, hlen3, hl3, h33, pos1, sym', zeros9, hlen9, lp, p1', tr', p2', ew', qv', sub, cond_true, eqm, es, sp, pos2]
    · obtain ⟨s, es, es0⟩ := sign_q' (y := 0) fit_zero
      rw [hq0] at qv'
      have zv : M_impl_ZeroVector 3 = some (([0, 0, 0] : List Rat).map rq) := zero_vec (k := 3) (by omega)
      have eqv : M_impl_EqualVectors (w.map rq) (([0, 0, 0] : List Rat).map rq) = some true := vec_same hw0 sw.sz (by omega) (by omega)
      simp only [cond_false, em, Option.bind_some, fac', Bool.not_true, hlen3, hl3, h33, pos1, sym', zeros9, hlen9, lp, p1', tr', p2', ew', qv', sub, cond_true, eqm, es, es0, zv, eqv, pos2]
end Go.Di
