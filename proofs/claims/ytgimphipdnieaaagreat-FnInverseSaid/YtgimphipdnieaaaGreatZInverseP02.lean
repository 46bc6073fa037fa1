/-
  Own work: part 9 of the texts that the proof of the given statement leans on.
-/
import Derived.Test.YtgimphipdnieaaaGreatZInverseP01
namespace Go.Di
end Go.Di
namespace Go.Di
end Go.Di
namespace Go.Di
theorem inB_iff {n lo hi : Int} : inB n lo hi = true ↔ lo ≤ n ∧ n ≤ hi := by
  unfold inB; simp only [Bool.and_eq_true, decide_eq_true_iff]
structure MxQ (m : Mx) (r c : Nat) (q : List Rat) : Prop where
  r24 : r ≤ 24
  c24 : c ≤ 24
  len : q.length = r * c
  fits : Fits q
  eq : m = ⟨r, c, q.map rq⟩
theorem prod24 {r c : Nat} (hr : r ≤ 24) (hc : c ≤ 24) : r * c ≤ 576 := by
  calc r * c ≤ 24 * 24 := Nat.mul_le_mul hr hc
    _ = 576 := rfl
theorem mx_ok {r c : Nat} {q : List Rat} (hr : r ≤ 24) (hc : c ≤ 24) (hl : q.length = r * c) (hf : Fits q) : mxB ⟨r, c, q.map rq⟩ = true := by
  have hp := prod24 hr hc
  have e1 : ((r : Int) * (c : Int)) = ((r * c : Nat) : Int) := by simp
  unfold mxB
  simp only [Bool.and_eq_true, inB_iff, q_goods hf, List.length_map]
  rw [e1, wrap_i64 (by omega) (by omega), beq_iff_eq, hl]
  exact ⟨⟨by omega, by omega⟩, ⟨by omega, by omega⟩, rfl, trivial⟩
theorem at_pos {i c k : Nat} (hi : i < 1000) (hc : c ≤ 1000) (hk : k < 1000) : IntKind.i64.wrap (IntKind.i64.wrap ((i : Int) * (c : Int)) + (k : Int)) = ((i * c + k : Nat) : Int) := by
  have hp : i * c ≤ 1000 * 1000 := Nat.mul_le_mul (by omega) hc
  have e1 : ((i : Int) * (c : Int)) = ((i * c : Nat) : Int) := by simp
  rw [e1, wrap_i64 (n := ((i * c : Nat) : Int)) (by omega) (by omega), wrap_i64 (by omega) (by omega)]
  simp
theorem at_lt {i r c k : Nat} (hi : i < r) (hk : k < c) : i * c + k < r * c := by
  have : (i + 1) * c ≤ r * c := Nat.mul_le_mul_right _ (by omega)
  rw [Nat.add_mul, Nat.one_mul] at this
  omega
theorem impl_at {r c : Nat} {q : List Rat} {i k : Nat} {x : Int} (hl : q.length = r * c) (hr : r ≤ 24) (hc : c ≤ 24) (hi : i < r) (hk : k < c) : M_impl_Matrix_at ⟨x, c, q.map rq⟩ i k = some (ro q[i * c + k]?) := by
  unfold M_impl_Matrix_at
  simp only []
  rw [at_pos (by omega) (by omega) (by omega), idx_q (by rw [hl]; exact at_lt hi hk)]; rfl
def rowq (q : List Rat) (c i : Nat) : List Rat := cut q (i * c) ((i + 1) * c)
theorem rowq_len {q : List Rat} {r c i : Nat} (hl : q.length = r * c) (hi : i < r) : (rowq q c i).length = c := by
  have : (i + 1) * c ≤ r * c := Nat.mul_le_mul_right _ (by omega)
  unfold rowq cut
  rw [List.length_drop, List.length_take, hl, Nat.min_eq_left this, Nat.add_mul, Nat.one_mul]; omega
theorem rowq_fits {q : List Rat} (hf : Fits q) (c i : Nat) : Fits (rowq q c i) := fun x hx => hf x (List.mem_of_mem_take (List.mem_of_mem_drop hx))
theorem rowq_get {q : List Rat} {c i k : Nat} (hk : k < c) : (rowq q c i)[k]? = q[i * c + k]? := by
  unfold rowq cut
  rw [List.getElem?_drop, List.getElem?_take_of_lt (by rw [Nat.add_mul, Nat.one_mul]; omega)]
theorem cut_map (q : List Rat) (lo hi : Nat) : cut (q.map rq) lo hi = (cut q lo hi).map rq := by
  unfold cut; rw [List.map_drop, List.map_take]
theorem impl_row {r c : Nat} {q : List Rat} {i : Nat} {x : Int} (hl : q.length = r * c) (hr : r ≤ 24) (hc : c ≤ 24) (hi : i < r) : M_impl_Matrix_row ⟨x, c, q.map rq⟩ i = some ((rowq q c i).map rq) := by
  unfold M_impl_Matrix_row
  have hp := prod24 hr hc
  have h1 : (i + 1) * c ≤ r * c := Nat.mul_le_mul_right _ (by omega)
  have h2 : i * c ≤ (i + 1) * c := Nat.mul_le_mul_right _ (by omega)
  have e1 : ((i : Int) * (c : Int)) = ((i * c : Nat) : Int) := by simp
  have e2 : (((i + 1 : Nat) : Int) * (c : Int)) = (((i + 1) * c : Nat) : Int) := by simp
  simp only []
  rw [wrap_nat (n := 1000) (by omega) (by omega), e1, e2, wrap_i64 (by omega) (by omega), wrap_i64 (by omega) (by omega)]
  have hin : inside (q.map rq).length (((i * c : Nat) : Int), (((i + 1) * c : Nat) : Int)) = true := by
    unfold inside
    rw [List.length_map, hl]
    simp only [Bool.and_eq_true, decide_eq_true_iff]
    omega
  rw [hin, guardO_true, Option.bind_some, Int.toNat_natCast, Int.toNat_natCast, cut_map]; rfl
/-! ### Matrices of integers -/
/-! ### Elements, rows, diagonals -/
theorem copy_ro {o : Option Rat} (h : Oks o) : M_impl_copyRat (ro o) = some (ro o) := impl_copyRat (ro_fit h)
/-! ### Products with vectors -/
noncomputable def appO (q : List Rat) (r c : Nat) (v : List Rat) : List (Option Rat) := (List.range r).map fun i => innO (rowq q c i) v c
theorem len_appO (q : List Rat) (r c : Nat) (v : List Rat) : (appO q r c v).length = r := by simp [appO]
theorem impl_applied {q v : List Rat} {r c : Nat} (hr : r ≤ 24) (hc : c ≤ 24) (hl : q.length = r * c) (hf : Fits q) (hv : Fits v) (hvl : v.length = c) :
    M_impl_applied ⟨r, c, q.map rq⟩ (v.map rq) = some (cond ((appO q r c v).all Option.isSome) ((appO q r c v).map ro, true) ([], false)) := by
  unfold M_impl_applied L_impl_applied_0
  rw [app_loop (S := S_impl_applied_0) (fun i out => (v.map rq, (r : Int), i, (r : Int), (c : Int), q.map rq, out, ())) (fun i => ro (innO (rowq q c i) v c)) r (r := fun out => (out, ())) (fun i out hi ho => by
    have hin := impl_inner (rowq_fits hf c i) hv (by rw [rowq_len hl hi]; omega) (by rw [rowq_len hl hi]; omega)
    rw [rowq_len hl hi] at hin
    simp only [S_impl_applied_0, dlt hi, cond_true, impl_row hl hr hc hi, Option.bind_some, hin, room1 (show out.length ≤ 2000000 by omega), succ_wrap hi (show r ≤ 1048576 by omega)]) (fun out _ => by simp [S_impl_applied_0])]
  rw [show (List.range r).map (fun i => ro (innO (rowq q c i) v c)) = (appO q r c v).map ro by unfold appO; rw [List.map_map]; rfl]
  simp only [Option.bind_some]
  rw [impl_complete (by rw [len_appO]; omega), Option.bind_some]
  cases (appO q r c v).all Option.isSome <;> rfl
theorem all_some {l : List (Option Rat)} (h : l.all Option.isSome = true) (hk : ∀ o ∈ l, Oks o) : ∃ q : List Rat, Fits q ∧ l.map ro = q.map rq ∧ q.length = l.length := by
  induction l with
  | nil => exact ⟨[], fun x hx => (by cases hx), rfl, rfl⟩
  | cons o l ih =>
    rw [List.all_cons, Bool.and_eq_true] at h
    obtain ⟨q, hq, e, e2⟩ := ih h.2 fun x hx => hk x (List.mem_cons_of_mem _ hx)
    cases o with
    | none => cases h.1
    | some x =>
      refine ⟨x :: q, fun y hy => ?_, by rw [List.map_cons, List.map_cons, e]; rfl, by simp [e2]⟩
      rcases List.mem_cons.1 hy with rfl | hy
      · exact hk (some y) (List.mem_cons_self ..) y rfl
      · exact hq y hy
end Go.Di
namespace Go.Di
/-! ### Grids -/
def grid {α : Type} (r c : Nat) (g : Nat → Nat → α) : List α := (List.range r).flatMap fun i => (List.range c).map (g i)
theorem grid_succ {α : Type} (r c : Nat) (g : Nat → Nat → α) : grid (r + 1) c g = grid r c g ++ (List.range c).map (g r) := by
  unfold grid; rw [List.range_succ, List.flatMap_append]; simp
theorem len_grid {α : Type} (r c : Nat) (g : Nat → Nat → α) : (grid r c g).length = r * c := by
  induction r with
  | zero => simp [grid]
  | succ r ih => rw [grid_succ, List.length_append, ih, List.length_map, List.length_range, Nat.add_mul, Nat.one_mul]
theorem grid_at {α : Type} {r c : Nat} (g : Nat → Nat → α) {j : Nat} (h : j < r * c) : (grid r c g)[j]? = some (g (j / c) (j % c)) := by
  induction r with
  | zero => omega
  | succ r ih =>
    rw [grid_succ]
    by_cases hj : j < r * c
    · rw [List.getElem?_append_left (by rw [len_grid]; exact hj)]; exact ih hj
    · rw [List.getElem?_append_right (by rw [len_grid]; omega), len_grid]
      rw [Nat.add_mul, Nat.one_mul] at h
      have hk : j - r * c < c := by omega
      rw [List.getElem?_map, List.getElem?_range hk]
      have e : j = c * r + (j - r * c) := by rw [Nat.mul_comm c r]; omega
      have h1 : j / c = r := by
        rw [e, Nat.mul_add_div (by omega), Nat.div_eq_of_lt hk]; omega
      have h2 : j % c = j - r * c := by
        conv => lhs; rw [e]
        rw [Nat.mul_add_mod, Nat.mod_eq_of_lt hk]
      rw [h1, h2]; rfl
theorem pos_div {i c k : Nat} (hk : k < c) : (i * c + k) / c = i ∧ (i * c + k) % c = k := by
  constructor
  · rw [Nat.mul_comm, Nat.mul_add_div (by omega), Nat.div_eq_of_lt hk]; omega
  · rw [Nat.mul_comm, Nat.mul_add_mod, Nat.mod_eq_of_lt hk]
theorem grid_get {α : Type} {r c : Nat} (g : Nat → Nat → α) {i k : Nat} (hi : i < r) (hk : k < c) : (grid r c g)[i * c + k]? = some (g i k) := by
  rw [grid_at g (at_lt hi hk), (pos_div hk).1, (pos_div hk).2]
theorem grid_map {α β : Type} (f : α → β) (r c : Nat) (g : Nat → Nat → α) : (grid r c g).map f = grid r c fun i k => f (g i k) := by
  unfold grid
  rw [List.map_flatMap]
  congr 1
  funext i
  rw [List.map_map]; rfl
theorem grid_mem {α : Type} {r c : Nat} {g : Nat → Nat → α} {x : α} (h : x ∈ grid r c g) : ∃ i k, i < r ∧ k < c ∧ x = g i k := by
  obtain ⟨i, hi, hx⟩ := List.mem_flatMap.1 h
  obtain ⟨k, hk, rfl⟩ := List.mem_map.1 hx
  exact ⟨i, k, List.mem_range.1 hi, List.mem_range.1 hk, rfl⟩
theorem div_parts {r c j : Nat} (h : j < r * c) : j / c < r ∧ j % c < c ∧ j / c * c + j % c = j := by
  have hc : 0 < c := by
    rcases Nat.eq_zero_or_pos c with h0 | h0
    · subst h0; simp at h
    · exact h0
  refine ⟨Nat.div_lt_of_lt_mul (by rw [Nat.mul_comm]; exact h), Nat.mod_lt _ hc, ?_⟩
  rw [Nat.mul_comm]; exact Nat.div_add_mod j c
theorem grid_congr {α : Type} {r c : Nat} {g h : Nat → Nat → α} (e : ∀ i k, i < r → k < c → g i k = h i k) : grid r c g = grid r c h := by
  apply List.ext_getElem?
  intro j
  by_cases hj : j < r * c
  · obtain ⟨h1, h2, _⟩ := div_parts hj
    rw [grid_at g hj, grid_at h hj, e _ _ h1 h2]
  · rw [List.getElem?_eq_none (by rw [len_grid]; omega), List.getElem?_eq_none (by rw [len_grid]; omega)]
theorem grid_set {α : Type} {r c i k : Nat} (g : Nat → Nat → α) (x : α) (hi : i < r) (hk : k < c) : (grid r c g).set (i * c + k) x = grid r c fun a b => if a = i ∧ b = k then x else g a b := by
  apply List.ext_getElem?
  intro j
  rw [List.getElem?_set]
  by_cases hj : j < r * c
  · obtain ⟨h1, h2, h3⟩ := div_parts hj
    rw [grid_at (fun a b => if a = i ∧ b = k then x else g a b) hj]
    split
    · rename_i e
      rw [if_pos (by rw [len_grid]; omega)]
      subst e
      rw [(pos_div hk).1, (pos_div hk).2, if_pos ⟨rfl, rfl⟩]
    · rename_i e
      rw [grid_at g hj, if_neg (by rintro ⟨e1, e2⟩; rw [e1, e2] at h3; exact e h3)]
  · rw [List.getElem?_eq_none (l := grid r c _) (by rw [len_grid]; omega), if_neg (by have := at_lt hi hk; omega), List.getElem?_eq_none (by rw [len_grid]; omega)]
/-! ### Loops -/
theorem app_from {β σ ρ : Type} {S : σ → Option (σ ⊕ ρ)} (x0 : List β) (st : Int → List β → σ) (g : Nat → β) (n : Nat) {r : List β → ρ}
    (hS : ∀ (i : Nat) out, i < n → out.length = x0.length + i → S (st (i : Int) out) = some (.inl (st ((i + 1 : Nat) : Int) (out ++ [g i])))) (hE : ∀ out, out.length = x0.length + n → S (st (n : Int) out) = some (.inr (r out))) :
    whileO S (st 0 x0) = some (r (x0 ++ (List.range n).map g)) := by
  have key := whileO_upto S (fun i => st (i : Int) (x0 ++ (List.range i).map g)) n (r (x0 ++ (List.range n).map g)) (fun i hi => by
    rw [hS i _ hi (by simp), List.range_succ, List.map_append, List.append_assoc]; rfl) (hE _ (by simp))
  simpa using key
theorem grid_loop {β σ ρ : Type} {S : σ → Option (σ ⊕ ρ)} (st : Int → List β → σ) (g : Nat → Nat → β) (n c : Nat) {r : List β → ρ}
    (hS : ∀ (i : Nat) out, i < n → out.length = i * c → S (st (i : Int) out) = some (.inl (st ((i + 1 : Nat) : Int) (out ++ (List.range c).map (g i))))) (hE : ∀ out, out.length = n * c → S (st (n : Int) out) = some (.inr (r out))) :
    whileO S (st 0 []) = some (r (grid n c g)) := by
  have key := whileO_upto S (fun i => st (i : Int) (grid i c g)) n (r (grid n c g)) (fun i hi => by
    rw [hS i _ hi (len_grid ..), grid_succ]) (hE _ (len_grid ..))
  simpa [grid] using key
theorem room_row {i n c k r m : Nat} (hi : i < n) (hk : k < c) (hn : n ≤ 24) (hc : c ≤ 24) (hr : r = i * c) (hm : m = r + k) : guardO (Nat.ble (m + 1) maxNew) = some () := by
  have := at_lt hi hk
  have := prod24 hn hc
  exact room1 (by omega)
/-! ### Identities -/
noncomputable def idO (i k : Nat) : Option Rat := if i = k then some 1 else some 0
theorem fit_one : Fit 1 := by
  have := fit_int (n := 1) (by omega) (by omega)
  simpa using this
theorem oks_idO (i k : Nat) : Oks (idO i k) := by
  unfold idO; split
  · exact fit_one.ok
  · exact fit_zero.ok
theorem whole_one : M_impl_whole 1 = some (ro (some 1)) := by
  have := impl_whole (n := 1) (by omega) (by omega)
  simpa using this
theorem impl_idc (i k : Nat) : M_impl_IdentityMatrix_c1 (i : Int) (k : Int) = some (ro (idO i k)) := by
  unfold M_impl_IdentityMatrix_c1 idO
  have : ((i : Int) == (k : Int)) = decide (i = k) := by rw [Bool.eq_iff_iff]; simp; omega
  rw [this, whole_one, whole_zero]
  by_cases h : i = k
  · rw [decide_eq_true h, if_pos h]; rfl
  · rw [decide_eq_false h, if_neg h]; rfl
theorem impl_idMx {n : Nat} (hn : n ≤ 24) : M_impl_built__impl_IdentityMatrix_c1 n n = some ⟨n, n, (grid n n idO).map ro⟩ := by
  unfold M_impl_built__impl_IdentityMatrix_c1 L_impl_built__impl_IdentityMatrix_c1_0
  rw [grid_loop (S := S_impl_built__impl_IdentityMatrix_c1_0) (fun i out => ((n : Int), (n : Int), i, 0, 0, [], (n : Int), (n : Int), out, ())) (fun i k => ro (idO i k)) n n (r := fun out => (0, 0, [], (n : Int), (n : Int), out, ())) (fun i out hi ho => by
    unfold S_impl_built__impl_IdentityMatrix_c1_0 L_impl_built__impl_IdentityMatrix_c1_1
    simp only [dlt hi, cond_true]
    rw [app_from (S := S_impl_built__impl_IdentityMatrix_c1_1) out (fun k out => ((n : Int), (i : Int), (n : Int), (i : Int), (n : Int), k, 0, 0, [], (n : Int), (n : Int), out, ())) (fun k => ro (idO i k)) n (r := fun out => ((n : Int), (n : Int), (i : Int), 0, 0, [], (n : Int), (n : Int), out, ())) (fun k xs hk hx => by
      simp only [S_impl_built__impl_IdentityMatrix_c1_1, dlt hk, cond_true, impl_idc, Option.bind_some, room_row hi hk hn hn ho hx, succ_wrap hk (show n ≤ 1048576 by omega)]) (fun out _ => by simp [S_impl_built__impl_IdentityMatrix_c1_1])]
    simp only [Option.bind_some, succ_wrap hi (show n ≤ 1048576 by omega)]) (fun out _ => by simp [S_impl_built__impl_IdentityMatrix_c1_0])]
  rw [grid_map]; rfl
/-! ### Transposed matrices -/
def trans (q : List Rat) (r c : Nat) : List Rat := grid c r fun i k => (q[k * c + i]?).getD 0
theorem len_trans (q : List Rat) (r c : Nat) : (trans q r c).length = c * r := len_grid ..
theorem trans_fits {q : List Rat} {r c : Nat} (hl : q.length = r * c) (hf : Fits q) : Fits (trans q r c) := fun x hx => by
  obtain ⟨i, k, hi, hk, rfl⟩ := grid_mem hx
  have : k * c + i < q.length := by rw [hl]; exact at_lt hk hi
  rw [List.getElem?_eq_getElem this]
  exact hf _ (List.getElem_mem this)
theorem trans_rq {q : List Rat} {r c : Nat} (hl : q.length = r * c) : (trans q r c).map rq = grid c r fun i k => ro q[k * c + i]? := by
  unfold trans
  rw [grid_map]
  refine grid_congr fun i k hi hk => ?_
  have : k * c + i < q.length := by rw [hl]; exact at_lt hk hi
  rw [List.getElem?_eq_getElem this]; rfl
theorem impl_turned {q : List Rat} {r c : Nat} (hr : r ≤ 24) (hc : c ≤ 24) (hl : q.length = r * c) (hf : Fits q) : M_impl_turned ⟨r, c, q.map rq⟩ = some ⟨c, r, (trans q r c).map rq⟩ := by
  unfold M_impl_turned M_impl_built__impl_turned_c1 L_impl_built__impl_turned_c1_0
  simp only []
  rw [grid_loop (S := S_impl_built__impl_turned_c1_0) (fun i out => ((r : Int), (r : Int), (c : Int), q.map rq, (c : Int), i, 0, 0, [], (c : Int), (r : Int), out, ())) (fun i k => ro q[k * c + i]?) c r (r := fun out => (0, 0, [], (c : Int), (r : Int), out, ())) (fun i out hi ho => by
    unfold S_impl_built__impl_turned_c1_0 L_impl_built__impl_turned_c1_1
    simp only [dlt hi, cond_true]
    rw [app_from (S := S_impl_built__impl_turned_c1_1) out (fun k out => ((r : Int), (r : Int), (c : Int), q.map rq, (i : Int), (c : Int), (i : Int), (r : Int), k, 0, 0, [], (c : Int), (r : Int), out, ())) (fun k => ro q[k * c + i]?) r (r := fun out => ((r : Int), (r : Int), (c : Int), q.map rq, (c : Int), (i : Int), 0, 0, [], (c : Int), (r : Int), out, ())) (fun k xs hk hx => by
      simp only [S_impl_built__impl_turned_c1_1, M_impl_turned_c1, dlt hk, cond_true, impl_at hl hr hc hk hi, Option.bind_some, copy_ro (hf.get _), room_row hi hk hc hr ho hx, succ_wrap hk (show r ≤ 1048576 by omega)]) (fun out _ => by simp [S_impl_built__impl_turned_c1_1])]
    simp only [Option.bind_some, succ_wrap hi (show c ≤ 1048576 by omega)]) (fun out _ => by simp [S_impl_built__impl_turned_c1_0])]
  rw [trans_rq hl]; rfl
/-! ### Sums, products -/
theorem impl_givenMx (x y : Int) {l : List (Option Rat)} (h : l.length ≤ 1048576) : M_impl_givenMatrix_c ⟨x, y, l.map ro⟩ = some (cond (l.all Option.isSome) (⟨x, y, l.map ro⟩, true) (⟨0, 0, []⟩, false)) := by
  unfold M_impl_givenMatrix_c
  simp only [impl_complete h, Option.bind_some]
  cases l.all Option.isSome <;> rfl
noncomputable def givenO (x y : Int) (l : List (Option Rat)) : Mx × Bool := cond (l.all Option.isSome) (⟨x, y, l.map ro⟩, true) (⟨0, 0, []⟩, false)
noncomputable def mulM (p q : List Rat) (r c n : Nat) : List (Option Rat) := grid r n fun i k => innO (rowq p c i) (rowq (trans q c n) c k) c
theorem impl_mulM {p q : List Rat} {r c n : Nat} (hr : r ≤ 24) (hc : c ≤ 24) (hn : n ≤ 24) (hl : p.length = r * c) (hf : Fits p) (hl' : q.length = c * n) (hf' : Fits q) :
    M_impl_multiply ⟨r, c, p.map rq⟩ ⟨c, n, q.map rq⟩ = some (givenO r n (mulM p q r c n)) := by
  have hp := prod24 hr hn
  have ht := len_trans q c n
  have hft := trans_fits hl' hf'
  unfold M_impl_multiply M_impl_built__impl_multiply_c1 L_impl_built__impl_multiply_c1_0
  rw [impl_turned hc hn hl' hf', Option.bind_some]
  simp only []
  rw [grid_loop (S := S_impl_built__impl_multiply_c1_0) (fun i out => ((n : Int), (r : Int), (c : Int), p.map rq, (n : Int), (c : Int), (trans q c n).map rq, (r : Int), i, 0, 0, [], (r : Int), (n : Int), out, ())) (fun i k => ro (innO (rowq p c i) (rowq (trans q c n) c k) c)) r n (r := fun out => (0, 0, [], (r : Int), (n : Int), out, ())) (fun i out hi ho => by
    unfold S_impl_built__impl_multiply_c1_0 L_impl_built__impl_multiply_c1_1
    simp only [dlt hi, cond_true]
    rw [app_from (S := S_impl_built__impl_multiply_c1_1) out (fun k out => ((n : Int), (r : Int), (c : Int), p.map rq, (n : Int), (c : Int), (trans q c n).map rq, (i : Int), (r : Int), (i : Int), (n : Int), k, 0, 0, [], (r : Int), (n : Int), out, ())) (fun k => ro (innO (rowq p c i) (rowq (trans q c n) c k) c)) n (r := fun out => ((n : Int), (r : Int), (c : Int), p.map rq, (n : Int), (c : Int), (trans q c n).map rq, (r : Int), (i : Int), 0, 0, [], (r : Int), (n : Int), out, ())) (fun k xs hk hx => by
      have hin := impl_inner (rowq_fits hf c i) (rowq_fits hft c k) (by rw [rowq_len hl hi, rowq_len ht hk]; omega) (by rw [rowq_len hl hi]; omega)
      rw [rowq_len hl hi] at hin
      simp only [S_impl_built__impl_multiply_c1_1, M_impl_multiply_c1, dlt hk, cond_true, impl_row hl hr hc hi, impl_row ht hn hc hk, Option.bind_some, hin, room_row hi hk hr hn ho hx, succ_wrap hk (show n ≤ 1048576 by omega)]) (fun out _ => by simp [S_impl_built__impl_multiply_c1_1])]
    simp only [Option.bind_some, succ_wrap hi (show r ≤ 1048576 by omega)]) (fun out _ => by simp [S_impl_built__impl_multiply_c1_0])]
  rw [show grid r n (fun i k => ro (innO (rowq p c i) (rowq (trans q c n) c k) c)) = (mulM p q r c n).map ro by unfold mulM; rw [grid_map]]
  simp only [Option.bind_some]
  rw [impl_givenMx _ _ (by unfold mulM; rw [len_grid]; omega)]; rfl
/-! ### Parts -/
end Go.Di
namespace Go.Di
end Go.Di
namespace Go.Di
/-! ### Half tangents -/
/-! ### Lists of observations -/
end Go.Di
namespace Go.Di
end Go.Di
namespace Go.Di
theorem stop_loop {σ ρ : Type} {S : σ → Option (σ ⊕ ρ)} (st : Nat → σ) (n : Nat) (ok : Nat → Bool) (bad fin : ρ)
    (h : ∀ i, i < n → (∀ j, j < i → ok j = true) → S (st i) = some (cond (ok i) (.inl (st (i + 1))) (.inr bad)))
    (he : (∀ j, j < n → ok j = true) → S (st n) = some (.inr fin)) : whileO S (st 0) = some (cond ((List.range n).all ok) fin bad) := by
  have key : ∀ s i, i + s = n → (∀ j, j < i → ok j = true) → whileO S (st i) = some (cond ((List.range n).all ok) fin bad) := by
    intro s
    induction s with
    | zero =>
      intro i hi hj
      have : i = n := by omega
      subst this
      have ha : (List.range i).all ok = true := by rw [List.all_eq_true]; intro x hx; exact hj x (List.mem_range.1 hx)
      rw [ha, cond_true]; exact whileO_inr (he hj)
    | succ s ih =>
      intro i hi hj
      have hn : i < n := by omega
      have hs := h i hn hj
      cases hb : ok i with
      | true =>
        rw [hb, cond_true] at hs
        rw [whileO_inl hs]
        exact ih (i + 1) (by omega) fun j hji => by
          by_cases e : j = i
          · rw [e]; exact hb
          · exact hj j (by omega)
      | false =>
        rw [hb, cond_false] at hs
        have ha : (List.range n).all ok = false := by
          rw [← Bool.not_eq_true, List.all_eq_true]
          intro hall
          have := hall i (List.mem_range.2 hn)
          rw [hb] at this; cases this
        rw [ha, cond_false]; exact whileO_inr hs
  exact key n 0 (by omega) fun j hj => by omega
noncomputable def cellO (lo : List (Option Rat)) (p : Nat) : Option Rat := (lo[p]?).getD none
theorem oks_cell {lo : List (Option Rat)} (h : ∀ o ∈ lo, Oks o) (p : Nat) : Oks (cellO lo p) := by
  unfold cellO
  cases e : lo[p]? with
  | none => exact oks_none
  | some o => exact h o (List.mem_of_getElem? e)
theorem idx_cell {lo : List (Option Rat)} {p : Nat} (h : p < lo.length) : idx (lo.map ro) (p : Int) = some (ro (cellO lo p)) := by
  rw [idx_o h]; unfold cellO; rw [List.getElem?_eq_getElem h]; rfl
theorem get_cellO {lo : List (Option Rat)} {p : Nat} (h : p < lo.length) : (lo.map ro)[p]? = some (ro (cellO lo p)) := by
  rw [← idx_nat, idx_cell h]
theorem rq_some (q : List Rat) : q.map rq = (q.map some).map ro := by rw [List.map_map]; rfl
theorem impl_atO {lo : List (Option Rat)} {n c i k : Nat} {x : Int} (hl : lo.length = n * c) (hn : n ≤ 1000) (hc : c ≤ 1000) (hi : i < n) (hk : k < c) :
    M_impl_Matrix_at_mdd ⟨x, c, lo.map ro⟩ i k = some (ro (cellO lo (i * c + k)), lo.map ro) := by
  have hp : i * c + k < lo.length := by rw [hl]; exact at_lt hi hk
  unfold M_impl_Matrix_at_mdd
  simp only [at_pos (show i < 1000 by omega) hc (show k < 1000 by omega), idx_cell hp, Option.bind_some, Int.toNat_natCast, get_cellO hp]
theorem spec_atO {lo : List (Option Rat)} {n c i k : Nat} {x : Int} (hl : lo.length = n * c) (hn : n ≤ 1000) (hc : c ≤ 1000) (hi : i < n) (hk : k < c) :
    M_spec_l06At_mdd ⟨x, c, lo.map ro⟩ i k = some (ro (cellO lo (i * c + k)), lo.map ro) := impl_atO hl hn hc hi hk
section
variable {q lo : List (Option Rat)} {d : List Rat} {n k : Nat}
end
/-! ### A column -/
section
variable {q lo : List (Option Rat)} {d : List Rat} {n k : Nat} {x : Rat}
end
/-! ### All columns -/
structure FacOk (n k : Nat) (lo : List (Option Rat)) (d : List Rat) : Prop where
  len : lo.length = n * n
  oks : ∀ o ∈ lo, Oks o
  all : ∀ o ∈ lo, o.isSome = true
  fits : Fits d
  dlen : d.length = k
  pos : ∀ y ∈ d, 0 < y
theorem impl_unitMx {n : Nat} (hn : n ≤ 24) : M_impl_unit n = some ⟨n, n, (grid n n idO).map ro⟩ := by
  have := impl_idMx hn
  unfold M_impl_unit
  rw [show M_impl_built__impl_unit_c1 = M_impl_built__impl_IdentityMatrix_c1 from rfl, this]; rfl
end Go.Di
namespace Go.Di
theorem cell_grid {r c : Nat} {g : Nat → Nat → Option Rat} {i k : Nat} (hi : i < r) (hk : k < c) : cellO (grid r c g) (i * c + k) = g i k := by
  unfold cellO; rw [grid_get g hi hk]; rfl
theorem at_grid {r c : Nat} {g : Nat → Nat → Option Rat} {i k : Nat} {x : Int} (hr : r ≤ 1000) (hc : c ≤ 1000) (hi : i < r) (hk : k < c) :
    M_spec_l06At_mdd ⟨x, c, (grid r c g).map ro⟩ i k = some (ro (g i k), (grid r c g).map ro) := by
  rw [spec_atO (len_grid r c g) hr hc hi hk, cell_grid hi hk]
theorem at_grid' {r c : Nat} {g : Nat → Nat → Option Rat} {i k : Nat} {x : Int} (hr : r ≤ 1000) (hc : c ≤ 1000) (hi : i < r) (hk : k < c) :
    M_impl_Matrix_at_mdd ⟨x, c, (grid r c g).map ro⟩ i k = some (ro (g i k), (grid r c g).map ro) := at_grid hr hc hi hk
theorem idx_grid {r c : Nat} {g : Nat → Nat → Option Rat} {i k : Nat} (hi : i < r) (hk : k < c) : idx ((grid r c g).map ro) ((i * c + k : Nat) : Int) = some (ro (g i k)) := by
  rw [idx_cell (by rw [len_grid]; exact at_lt hi hk), cell_grid hi hk]
theorem get_grid {r c : Nat} {g : Nat → Nat → Option Rat} {i k : Nat} (hi : i < r) (hk : k < c) : ((grid r c g).map ro)[i * c + k]? = some (ro (g i k)) := by
  rw [← idx_nat, idx_grid hi hk]
theorem set_grid {r c : Nat} {g h : Nat → Nat → Option Rat} {i k : Nat} {o : Option Rat} (hi : i < r) (hk : k < c) (e : ∀ a b, a < r → b < c → h a b = if a = i ∧ b = k then o else g a b) :
    ((grid r c g).map ro).set (i * c + k) (ro o) = (grid r c h).map ro := by
  rw [← List.map_set, grid_set g o hi hk]
  rw [grid_congr e]
theorem nil_ro (o : Option Rat) : M_spec_l05Nil (ro o) = some (decide (o = some 0 ∨ o = none)) := by
  cases o with
  | none => simp [M_spec_l05Nil, ro]
  | some q => rw [show ro (some q) = rq q from rfl, nil_rq]; simp
def Good2 (r c : Nat) (g : Nat → Nat → Option Rat) : Prop := ∀ i k, i < r → k < c → Oks (g i k) ∧ (g i k).isSome = true
def swp (g : Nat → Nat → Option Rat) (p u : Nat) : Nat → Nat → Option Rat := fun a b => if a = p then g u b else if a = u then g p b else g a b
noncomputable def dvd (g : Nat → Nat → Option Rat) (u k : Nat) : Nat → Nat → Option Rat := fun a b => if a = u then divO (g u b) (g u k) else g a b
noncomputable def clr (g : Nat → Nat → Option Rat) (u k : Nat) : Nat → Nat → Option Rat := fun a b => if a = u then g u b else if g a k = some 0 then g a b else subO (g a b) (mulO (g a k) (g u b))
def pivR (g : Nat → Nat → Option Rat) (k : Nat) : Nat → Nat → Nat
  | 0, i => i
  | s + 1, i => if g i k = some 0 then pivR g k s (i + 1) else i
theorem pivR_le (g : Nat → Nat → Option Rat) (k : Nat) : ∀ s i, i ≤ pivR g k s i ∧ pivR g k s i ≤ i + s
  | 0, i => ⟨Nat.le_refl _, Nat.le_refl _⟩
  | s + 1, i => by
    unfold pivR
    split
    · have := pivR_le g k s (i + 1); omega
    · omega
theorem pivR_zero (g : Nat → Nat → Option Rat) (k : Nat) : ∀ s i a, i ≤ a → a < pivR g k s i → g a k = some 0
  | 0, i, a, h1, h2 => by unfold pivR at h2; omega
  | s + 1, i, a, h1, h2 => by
    unfold pivR at h2
    split at h2
    · by_cases e : a = i
      · rw [e]; assumption
      · exact pivR_zero g k s (i + 1) a (by omega) h2
    · omega
theorem pivR_ne (g : Nat → Nat → Option Rat) (k : Nat) : ∀ s i, pivR g k s i < i + s → g (pivR g k s i) k ≠ some 0
  | 0, i, h => by unfold pivR at h; omega
  | s + 1, i, h => by
    unfold pivR at h ⊢
    split
    · rename_i h0; rw [if_pos h0] at h; exact pivR_ne g k s (i + 1) (by omega)
    · assumption
section
variable {r c : Nat} {g : Nat → Nat → Option Rat} {k u : Nat}
end
/-! ### Rounds -/
structure ES where
  g : Nat → Nat → Option Rat
  pv : List Int
  fs : List (Option Rat)
noncomputable def allG (r c : Nat) (g : Nat → Nat → Option Rat) : Bool := (grid r c g).all Option.isSome
theorem allG_iff {r c : Nat} {g : Nat → Nat → Option Rat} : allG r c g = true ↔ ∀ i k, i < r → k < c → (g i k).isSome = true := by
  unfold allG
  rw [List.all_eq_true]
  constructor
  · intro h i k hi hk; exact h _ (List.mem_of_getElem? (grid_get g hi hk))
  · intro h o ho
    obtain ⟨i, k, hi, hk, rfl⟩ := grid_mem ho
    exact h i k hi hk
noncomputable def stepE (r c k : Nat) (s : ES) : Option ES :=
  if s.pv.length < r then
    let p := pivR s.g k (r - s.pv.length) s.pv.length
    if p = r then some s else
      let g1 := swp s.g p s.pv.length
      let g2 := dvd g1 s.pv.length k
      let g3 := clr g2 s.pv.length k
      cond (allG r c g2 && allG r c g3) (some ⟨g3, s.pv ++ [(k : Int)], (s.fs ++ if p ≠ s.pv.length then [some (-1)] else []) ++ [g1 s.pv.length k]⟩) none
  else some s
noncomputable def elim (r c : Nat) (g : Nat → Nat → Option Rat) : Nat → Option ES
  | 0 => some ⟨g, [], []⟩
  | k + 1 => (elim r c g k).bind (stepE r c k)
structure EInv (r c k : Nat) (s : ES) : Prop where
  good : Good2 r c s.g
  used : s.pv.length ≤ r
  few : s.pv.length ≤ k
  zero : ∀ i j, s.pv.length ≤ i → i < r → j < k → j < c → s.g i j = some 0
  fsok : ∀ o ∈ s.fs, Oks o
  fsall : ∀ o ∈ s.fs, o.isSome = true
  fslen : s.fs.length ≤ 2 * k
theorem divO_zero {y : Rat} (hy : y ≠ 0) : divO (some 0) (some y) = some 0 := by
  show (if y = 0 then none else chk (0 / y)) = _
  rw [if_neg hy, Rat.div_def, Rat.zero_mul, chk_fit fit_zero]
theorem divO_self {y : Rat} (hy : y ≠ 0) : divO (some y) (some y) = some 1 := by
  show (if y = 0 then none else chk (y / y)) = _
  rw [if_neg hy, Rat.div_def, Rat.mul_inv_cancel _ hy, chk_fit fit_one]
theorem mulO_one {o : Option Rat} (h : Oks o) : mulO o (some 1) = o := by
  cases o with
  | none => rfl
  | some q =>
    show chk (q * 1) = some q
    rw [Rat.mul_one, chk_fit (h q rfl)]
theorem subO_self {x : Rat} : subO (some x) (some x) = some 0 := by
  show chk (x + -x) = some 0
  rw [← Rat.sub_eq_add_neg, Rat.sub_self, chk_fit fit_zero]
theorem subO_zero {o : Option Rat} (h : Oks o) : subO o (some 0) = o := by
  cases o with
  | none => rfl
  | some q =>
    show chk (q + -0) = some q
    rw [show (-0 : Rat) = 0 from rfl, Rat.add_zero, chk_fit (h q rfl)]
section
variable {r c : Nat} {g : Nat → Nat → Option Rat} {k u p : Nat}
theorem swp_good (hg : Good2 r c g) (hp : p < r) (hu : u < r) : Good2 r c (swp g p u) := fun i k hi hk => by
  unfold swp
  split
  · exact hg u k hu hk
  · split
    · exact hg p k hp hk
    · exact hg i k hi hk
theorem swp_zero (hu : u < r) (hp : p < r) (hup : u ≤ p) (hz : ∀ i j, u ≤ i → i < r → j < k → j < c → g i j = some 0) : ∀ i j, u ≤ i → i < r → j < k → j < c → swp g p u i j = some 0 := fun i j h1 h2 h3 h4 => by
  unfold swp
  split
  · exact hz u j (Nat.le_refl u) hu h3 h4
  · split
    · exact hz p j hup hp h3 h4
    · exact hz i j h1 h2 h3 h4
theorem oks_dvd (hg : Good2 r c g) {a b : Nat} (ha : a < r) (hb : b < c) : Oks (dvd g u k a b) := by
  unfold dvd
  split
  · exact oks_divO
  · exact (hg a b ha hb).1
theorem oks_clr (h : ∀ i k, i < r → k < c → Oks (g i k)) {a b : Nat} (ha : a < r) (hb : b < c) : Oks (clr g u k a b) := by
  unfold clr
  split
  · rename_i e; subst e; exact h _ b ha hb
  · split
    · exact h a b ha hb
    · exact oks_subO
theorem step_inv {s s' : ES} (h : EInv r c k s) (hk : k < c) (e : stepE r c k s = some s') : EInv r c (k + 1) s' := by
  unfold stepE at e
  split at e
  · rename_i hur
    obtain ⟨pl, ph⟩ := pivR_le s.g k (r - s.pv.length) s.pv.length
    generalize hpe : pivR s.g k (r - s.pv.length) s.pv.length = p at *
    simp only at e
    split at e
    · rename_i hpr
      injection e with e; subst e
      refine ⟨h.good, h.used, by have := h.few; omega, fun i j h1 h2 h3 h4 => ?_, h.fsok, h.fsall, by have := h.fslen; omega⟩
      by_cases hj : j = k
      · subst hj; exact pivR_zero s.g j _ _ i h1 (by rw [hpe]; omega)
      · exact h.zero i j h1 h2 (by omega) h4
    · rename_i hpr
      have hp : p < r := by omega
      have hne : s.g p k ≠ some 0 := by rw [← hpe]; exact pivR_ne s.g k _ _ (by rw [hpe]; omega)
      have g1 := swp_good (u := s.pv.length) h.good hp hur
      have z1 := swp_zero (c := c) hur hp pl h.zero
      have e1 : swp s.g p s.pv.length s.pv.length k = s.g p k := by
        unfold swp
        split
        · rename_i e; rw [e]
        · rw [if_pos rfl]
      generalize swp s.g p s.pv.length = gg at *
      generalize hu : s.pv.length = u at *
      cases hall : (allG r c (dvd gg u k) && allG r c (clr (dvd gg u k) u k)) with
      | false => rw [hall] at e; cases e
      | true =>
        rw [hall] at e
        injection e with e; subst e
        rw [Bool.and_eq_true] at hall
        have a2 := allG_iff.1 hall.1
        have a3 := allG_iff.1 hall.2
        have o2 : ∀ i j, i < r → j < c → Oks (dvd gg u k i j) := fun i j hi hj => oks_dvd g1 hi hj
        obtain ⟨y, hy⟩ := Option.isSome_iff_exists.1 (g1 u k hur hk).2
        have hy0 : y ≠ 0 := fun e0 => hne (by rw [← e1, hy, e0])
        have hzu : ∀ j, j < k → dvd gg u k u j = some 0 := fun j hj => by
          unfold dvd; rw [if_pos rfl, z1 u j (Nat.le_refl u) hur hj (by omega), hy, divO_zero hy0]
        have hone : dvd gg u k u k = some 1 := by unfold dvd; rw [if_pos rfl, hy, divO_self hy0]
        refine ⟨fun i j hi hj => ⟨oks_clr o2 hi hj, a3 i j hi hj⟩, ?_, ?_, fun i j h1 h2 h3 h4 => ?_, fun o ho => ?_, fun o ho => ?_, ?_⟩
        · simp [hu]; omega
        · have := h.few; simp [hu] at this ⊢; omega
        · simp only [List.length_append, List.length_singleton, hu] at h1
          show clr (dvd gg u k) u k i j = some 0
          have hd : dvd gg u k i j = gg i j := by unfold dvd; rw [if_neg (by omega)]
          have hdk : dvd gg u k i k = gg i k := by unfold dvd; rw [if_neg (by omega)]
          unfold clr
          rw [if_neg (by omega), hd, hdk]
          obtain ⟨x, hx⟩ := Option.isSome_iff_exists.1 (g1 i k h2 hk).2
          by_cases hj : j = k
          · subst hj
            split
            · assumption
            · rw [hone, hx, mulO_one ((g1 i j h2 hk).1 |> fun h => by rw [hx] at h; exact h), subO_self]
          · rw [z1 i j (by omega) h2 (by omega) h4, hzu j (by omega)]
            split
            · rfl
            · rw [hx, mulO_zero_r]; exact subO_zero fit_zero.ok
        · rcases List.mem_append.1 ho with ho | ho
          · rcases List.mem_append.1 ho with ho | ho
            · exact h.fsok o ho
            · split at ho
              · rw [List.mem_singleton.1 ho]
                have := fit_int (n := -1) (by omega) (by omega)
                exact (show Fit (-1 : Rat) by simpa using this).ok
              · cases ho
          · rw [List.mem_singleton.1 ho]; exact (g1 u k hur hk).1
        · rcases List.mem_append.1 ho with ho | ho
          · rcases List.mem_append.1 ho with ho | ho
            · exact h.fsall o ho
            · split at ho
              · rw [List.mem_singleton.1 ho]; rfl
              · cases ho
          · rw [List.mem_singleton.1 ho]; exact (g1 u k hur hk).2
        · have := h.fslen
          have : (if p ≠ u then [some (-1 : Rat)] else []).length ≤ 1 := by split <;> simp
          simp only [List.length_append, List.length_singleton]; omega
  · rename_i hur
    injection e with e; subst e
    refine ⟨h.good, h.used, by have := h.few; omega, fun i j h1 h2 h3 h4 => by omega, h.fsok, h.fsall, by have := h.fslen; omega⟩
theorem elim_inv (hg : Good2 r c g) : ∀ {k : Nat} {s : ES}, k ≤ c → elim r c g k = some s → EInv r c k s := by
  intro k
  induction k with
  | zero =>
    intro s _ e
    injection e with e; subst e
    exact ⟨hg, Nat.zero_le _, Nat.le_refl _, fun i j _ _ h _ => by omega, fun o ho => (by cases ho), fun o ho => (by cases ho), Nat.le_refl _⟩
  | succ k ih =>
    intro s hk e
    unfold elim at e
    cases h0 : elim r c g k with
    | none => rw [h0] at e; cases e
    | some s0 =>
      rw [h0] at e
      exact step_inv (ih (by omega) h0) (by omega) e
end
end Go.Di
namespace Go.Di
section
variable {r c : Nat} {g : Nat → Nat → Option Rat} {k : Nat}
theorem elim_stay {k0 : Nat} {s : ES} (h : elim r c g k0 = some s) (hu : ¬ s.pv.length < r) : ∀ j, elim r c g (k0 + j) = some s
  | 0 => h
  | j + 1 => by
    show (elim r c g (k0 + j)).bind _ = _
    rw [elim_stay h hu j]
    show stepE r c (k0 + j) s = some s
    unfold stepE; rw [if_neg hu]
theorem elim_none {k0 : Nat} (h : elim r c g k0 = none) : ∀ j, elim r c g (k0 + j) = none
  | 0 => h
  | j + 1 => by
    show (elim r c g (k0 + j)).bind _ = _
    rw [elim_none h j]; rfl
end
end Go.Di
namespace Go.Di
def rv (o : Option Rat) : Rat := o.getD 0
def dot : Nat → (Nat → Rat) → (Nat → Rat) → Rat
  | 0, _, _ => 0
  | n + 1, f, x => dot n f x + f n * x n
theorem dot_congr {f h x y : Nat → Rat} : ∀ {n : Nat}, (∀ j, j < n → f j = h j) → (∀ j, j < n → x j = y j) → dot n f x = dot n h y
  | 0, _, _ => rfl
  | n + 1, e, e2 => by
    show dot n f x + f n * x n = dot n h y + h n * y n
    rw [dot_congr (fun j hj => e j (by omega)) (fun j hj => e2 j (by omega)), e n (by omega), e2 n (by omega)]
theorem dot_scale (a : Rat) (f x : Nat → Rat) : ∀ n, dot n (fun j => a * f j) x = a * dot n f x
  | 0 => by show (0 : Rat) = a * 0; rw [Rat.mul_zero]
  | n + 1 => by
    show dot n _ x + a * f n * x n = a * (dot n f x + f n * x n)
    rw [dot_scale a f x n, Rat.mul_add, Rat.mul_assoc]
theorem dot_add (f h x : Nat → Rat) : ∀ n, dot n (fun j => f j + h j) x = dot n f x + dot n h x
  | 0 => by show (0 : Rat) = 0 + 0; rw [Rat.add_zero]
  | n + 1 => by
    show dot n _ x + (f n + h n) * x n = (dot n f x + f n * x n) + (dot n h x + h n * x n)
    rw [dot_add f h x n]; grind
theorem dot_zero {f x : Nat → Rat} : ∀ {n : Nat}, (∀ j, j < n → f j * x j = 0) → dot n f x = 0
  | 0, _ => rfl
  | n + 1, h => by
    show dot n f x + f n * x n = 0
    rw [dot_zero (fun j hj => h j (by omega)), h n (by omega), Rat.add_zero]
theorem dot_one {f x : Nat → Rat} {i : Nat} : ∀ {n : Nat}, i < n → (∀ j, j < n → j ≠ i → f j * x j = 0) → dot n f x = f i * x i
  | 0, h, _ => by omega
  | n + 1, h, e => by
    show dot n f x + f n * x n = _
    by_cases hi : i = n
    · subst hi
      rw [dot_zero (fun j hj => e j (by omega) (by omega)), Rat.zero_add]
    · rw [dot_one (i := i) (by omega) (fun j hj hne => e j (by omega) hne), e n (by omega) (by omega), Rat.add_zero]
theorem dot_two {f x : Nat → Rat} {i k : Nat} (hik : i < k) : ∀ {n : Nat}, k < n → (∀ j, j < n → j ≠ i → j ≠ k → f j * x j = 0) → dot n f x = f i * x i + f k * x k
  | 0, h, _ => by omega
  | n + 1, h, e => by
    show dot n f x + f n * x n = _
    by_cases hk : k = n
    · subst hk
      rw [dot_one (i := i) hik (fun j hj hne => e j (by omega) hne (by omega))]
    · rw [dot_two hik (n := n) (by omega) (fun j hj h1 h2 => e j (by omega) h1 h2), e n (by omega) (by omega) (by omega), Rat.add_zero]
def Ann (r c : Nat) (g : Nat → Nat → Option Rat) (x : Nat → Rat) : Prop := ∀ i, i < r → dot c (fun j => rv (g i j)) x = 0
theorem rv_div {o p : Option Rat} (h : (divO o p).isSome = true) : rv o = rv p * rv (divO o p) ∧ rv p ≠ 0 := by
  cases o with
  | none => cases h
  | some a =>
    cases p with
    | none => cases h
    | some b =>
      have e : divO (some a) (some b) = if b = 0 then none else chk (a / b) := rfl
      rw [e] at h ⊢
      by_cases hb : b = 0
      · rw [if_pos hb] at h; cases h
      · rw [if_neg hb] at h ⊢
        have : chk (a / b) = some (a / b) := by
          unfold chk at h ⊢
          split
          · rfl
          · rename_i hf; rw [if_neg hf] at h; cases h
        rw [this]
        refine ⟨?_, hb⟩
        show a = b * (a / b)
        rw [Rat.div_def, ← Rat.mul_assoc, Rat.mul_comm b a, Rat.mul_assoc, Rat.mul_inv_cancel _ hb, Rat.mul_one]
theorem rv_sub {a f y : Option Rat} (h : (subO a (mulO f y)).isSome = true) : rv (subO a (mulO f y)) = rv a - rv f * rv y := by
  have chk_some : ∀ {q : Rat}, (chk q).isSome = true → chk q = some q := fun {q} h => by
    unfold chk at h ⊢
    split
    · rfl
    · rename_i hf; rw [if_neg hf] at h; cases h
  cases a with
  | none => cases h
  | some a =>
    cases f with
    | none => cases h
    | some f =>
      cases y with
      | none => cases h
      | some y =>
        have e1 : mulO (some f) (some y) = chk (f * y) := rfl
        cases hm : chk (f * y) with
        | none => rw [e1, hm] at h; cases h
        | some z =>
          have hz : z = f * y := by
            have := chk_some (q := f * y) (by rw [hm]; rfl)
            rw [hm] at this; injection this
          have e2 : subO (some a) (some z) = chk (a + -z) := rfl
          rw [e1, hm, e2] at h ⊢
          rw [chk_some h]
          show a + -z = a - f * y
          rw [hz, Rat.sub_eq_add_neg]
section
variable {r c k : Nat}
theorem ann_swp {g : Nat → Nat → Option Rat} {p u : Nat} (hp : p < r) (hu : u < r) {x : Nat → Rat} (h : Ann r c (swp g p u) x) : Ann r c g x := fun i hi => by
  by_cases h1 : i = p
  · have := h u hu
    by_cases h2 : u = p
    · subst h2; subst h1; simpa [swp] using this
    · simp only [swp, if_neg h2, if_true] at this; rw [h1]; exact this
  · by_cases h2 : i = u
    · have := h p hp
      simp only [swp, if_true] at this
      rw [h2]; exact this
    · have := h i hi
      simp only [swp, if_neg h1, if_neg h2] at this
      exact this
theorem ann_dvd {g : Nat → Nat → Option Rat} {u : Nat} (hall : ∀ i j, i < r → j < c → (dvd g u k i j).isSome = true) {x : Nat → Rat} (h : Ann r c (dvd g u k) x) : Ann r c g x := fun i hi => by
  have h1 := h i hi
  by_cases hu : i = u
  · subst hu
    have e : ∀ j, j < c → rv (g i j) = rv (g i k) * rv (dvd g i k i j) := fun j hj => by
      have := hall i j hi hj
      unfold dvd at this ⊢
      rw [if_pos rfl] at this ⊢
      exact (rv_div this).1
    rw [dot_congr e (fun _ _ => rfl), dot_scale, h1, Rat.mul_zero]
  · have e : ∀ j, j < c → rv (g i j) = rv (dvd g u k i j) := fun j _ => by
      unfold dvd; rw [if_neg hu]
    rw [dot_congr e (fun _ _ => rfl)]; exact h1
theorem ann_clr {g : Nat → Nat → Option Rat} {u : Nat} (hu : u < r) (hall : ∀ i j, i < r → j < c → (clr g u k i j).isSome = true) {x : Nat → Rat} (h : Ann r c (clr g u k) x) : Ann r c g x := fun i hi => by
  have hrow : dot c (fun j => rv (g u j)) x = 0 := by
    have := h u hu
    simp only [clr, if_true] at this
    exact this
  have h1 := h i hi
  by_cases hiu : i = u
  · rw [hiu]; exact hrow
  · by_cases h0 : g i k = some 0
    · have e : ∀ j, j < c → rv (g i j) = rv (clr g u k i j) := fun j _ => by
        unfold clr; rw [if_neg hiu, if_pos h0]
      rw [dot_congr e (fun _ _ => rfl)]; exact h1
    · have e : ∀ j, j < c → rv (g i j) = rv (clr g u k i j) + rv (g i k) * rv (g u j) := fun j hj => by
        have := hall i j hi hj
        unfold clr at this ⊢
        rw [if_neg hiu, if_neg h0] at this ⊢
        rw [rv_sub this]; grind
      rw [dot_congr e (fun _ _ => rfl), dot_add (fun j => rv (clr g u k i j)) (fun j => rv (g i k) * rv (g u j)), dot_scale, h1, hrow, Rat.mul_zero, Rat.add_zero]
theorem step_cases {s s' : ES} (h : EInv r c k s) (hk : k < c) (e : stepE r c k s = some s') :
    (s' = s ∧ ∀ i, s.pv.length ≤ i → i < r → s.g i k = some 0) ∨
    ∃ p, s.pv.length ≤ p ∧ p < r ∧ s.pv.length < r ∧ s.g p k ≠ some 0 ∧ (∀ i, s.pv.length ≤ i → i < p → s.g i k = some 0) ∧ (∀ i j, i < r → j < c → (dvd (swp s.g p s.pv.length) s.pv.length k i j).isSome = true) ∧
      (∀ i j, i < r → j < c → (clr (dvd (swp s.g p s.pv.length) s.pv.length k) s.pv.length k i j).isSome = true) ∧
      s' = ⟨clr (dvd (swp s.g p s.pv.length) s.pv.length k) s.pv.length k, s.pv ++ [(k : Int)], (s.fs ++ if p ≠ s.pv.length then [some (-1)] else []) ++ [swp s.g p s.pv.length s.pv.length k]⟩ := by
  unfold stepE at e
  split at e
  · rename_i hur
    obtain ⟨pl, ph⟩ := pivR_le s.g k (r - s.pv.length) s.pv.length
    have hz := pivR_zero s.g k (r - s.pv.length) s.pv.length
    have hne := pivR_ne s.g k (r - s.pv.length) s.pv.length
    generalize pivR s.g k (r - s.pv.length) s.pv.length = p at *
    simp only at e
    split at e
    · rename_i hpr
      injection e with e
      exact .inl ⟨e.symm, fun i h1 h2 => hz i h1 (by omega)⟩
    · rename_i hpr
      cases hall : (allG r c (dvd (swp s.g p s.pv.length) s.pv.length k) && allG r c (clr (dvd (swp s.g p s.pv.length) s.pv.length k) s.pv.length k)) with
      | false => rw [hall] at e; cases e
      | true =>
        rw [hall] at e
        injection e with e
        rw [Bool.and_eq_true] at hall
        exact .inr ⟨p, pl, by omega, hur, hne (by omega), hz, allG_iff.1 hall.1, allG_iff.1 hall.2, e.symm⟩
  · injection e with e
    exact .inl ⟨e.symm, fun i h1 h2 => by omega⟩
theorem ann_step {s s' : ES} (h : EInv r c k s) (hk : k < c) (e : stepE r c k s = some s') {x : Nat → Rat} (ha : Ann r c s'.g x) : Ann r c s.g x := by
  rcases step_cases h hk e with ⟨rfl, _⟩ | ⟨p, h1, h2, h3, h4, h5, h6, h7, rfl⟩
  · exact ha
  · exact ann_swp h2 h3 (ann_dvd h6 (ann_clr h3 h7 ha))
theorem ann_elim {g : Nat → Nat → Option Rat} (hg : Good2 r c g) {x : Nat → Rat} : ∀ {k : Nat} {s : ES}, k ≤ c → elim r c g k = some s → Ann r c s.g x → Ann r c g x
  | 0, s, _, e, h => by injection e with e; subst e; exact h
  | k + 1, s, hk, e, h => by
    unfold elim at e
    cases h0 : elim r c g k with
    | none => rw [h0] at e; cases e
    | some s0 =>
      rw [h0] at e
      exact ann_elim hg (by omega) h0 (ann_step (elim_inv hg (by omega) h0) (by omega) e h)
/-! ### The reduced form -/
def piv (s : ES) (t : Nat) : Nat := ((s.pv[t]?).getD 0).toNat
structure RInv (r c k : Nat) (s : ES) : Prop where
  val : ∀ t, t < s.pv.length → s.pv[t]? = some ((piv s t : Nat) : Int)
  lt : ∀ t, t < s.pv.length → piv s t < k
  asc : ∀ t t', t < t' → t' < s.pv.length → piv s t < piv s t'
  unit : ∀ t i, t < s.pv.length → i < r → s.g i (piv s t) = if i = t then some 1 else some 0
  lead : ∀ t j, t < s.pv.length → j < piv s t → s.g t j = some 0
theorem rinv_step {s s' : ES} (h : EInv r c k s) (hR : RInv r c k s) (hk : k < c) (e : stepE r c k s = some s') : RInv r c (k + 1) s' := by
  rcases step_cases h hk e with ⟨rfl, _⟩ | ⟨p, h1, h2, h3, h4, h5, h6, h7, rfl⟩
  · exact ⟨hR.val, fun t ht => by have := hR.lt t ht; omega, hR.asc, hR.unit, hR.lead⟩
  · have hg1 : ∀ t, t < s.pv.length → ∀ j, swp s.g p s.pv.length t j = s.g t j := fun t ht j => by
      unfold swp; rw [if_neg (by omega), if_neg (by omega)]
    have g1 := swp_good (u := s.pv.length) h.good h2 h3
    have z1 := swp_zero (c := c) h3 h2 h1 h.zero
    have hpk : swp s.g p s.pv.length s.pv.length k ≠ some 0 := by
      unfold swp
      split
      · rename_i e; rw [e]; exact h4
      · rw [if_pos rfl]; exact h4
    -- columns of earlier pivots behind the exchange
    have u1 : ∀ t i, t < s.pv.length → i < r → swp s.g p s.pv.length i (piv s t) = if i = t then some 1 else some 0 := fun t i ht hi => by
      unfold swp
      split
      · rename_i e; rw [hR.unit t _ ht h3, if_neg (by omega), if_neg (by omega)]
      · split
        · rw [hR.unit t _ ht h2, if_neg (by omega), if_neg (by omega)]
        · exact hR.unit t i ht hi
    have hu := h3
    generalize swp s.g p s.pv.length = gg at *
    obtain ⟨y, hy⟩ := Option.isSome_iff_exists.1 (g1 s.pv.length k hu hk).2
    have hy0 : y ≠ 0 := fun e0 => hpk (by rw [hy, e0])
    have hzu : ∀ j, j < k → dvd gg s.pv.length k s.pv.length j = some 0 := fun j hj => by
      unfold dvd; rw [if_pos rfl, z1 _ j (Nat.le_refl _) hu hj (by omega), hy, divO_zero hy0]
    have hone : dvd gg s.pv.length k s.pv.length k = some 1 := by unfold dvd; rw [if_pos rfl, hy, divO_self hy0]
    have dother : ∀ i j, i ≠ s.pv.length → dvd gg s.pv.length k i j = gg i j := fun i j hi => by unfold dvd; rw [if_neg hi]
    -- numbers left of column k stay, in rows other than the new one
    have cleft : ∀ i j, i < r → i ≠ s.pv.length → j < k → clr (dvd gg s.pv.length k) s.pv.length k i j = gg i j := fun i j hi hne hj => by
      unfold clr
      rw [if_neg hne, dother i k hne, dother i j hne, hzu j hj]
      split
      · rfl
      · obtain ⟨x, hx⟩ := Option.isSome_iff_exists.1 (g1 i k hi hk).2
        rw [hx, mulO_zero_r, subO_zero (g1 i j hi (by omega)).1]
    have ccol : ∀ i, i < r → clr (dvd gg s.pv.length k) s.pv.length k i k = if i = s.pv.length then some 1 else some 0 := fun i hi => by
      unfold clr
      by_cases hne : i = s.pv.length
      · rw [if_pos hne, if_pos hne, hone]
      · rw [if_neg hne, if_neg hne, dother i k hne, hone]
        obtain ⟨x, hx⟩ := Option.isSome_iff_exists.1 (g1 i k hi hk).2
        split
        · assumption
        · rw [hx, mulO_one ((g1 i k hi hk).1 |> fun h => by rw [hx] at h; exact h), subO_self]
    have crow : ∀ j, clr (dvd gg s.pv.length k) s.pv.length k s.pv.length j = dvd gg s.pv.length k s.pv.length j := fun j => by unfold clr; rw [if_pos rfl]
    have hpold : ∀ t, t < s.pv.length → piv ⟨clr (dvd gg s.pv.length k) s.pv.length k, s.pv ++ [(k : Int)], (s.fs ++ if p ≠ s.pv.length then [some (-1)] else []) ++ [gg s.pv.length k]⟩ t = piv s t := fun t ht => by
      unfold piv; simp only; rw [List.getElem?_append_left ht]
    have hpnew : piv ⟨clr (dvd gg s.pv.length k) s.pv.length k, s.pv ++ [(k : Int)], (s.fs ++ if p ≠ s.pv.length then [some (-1)] else []) ++ [gg s.pv.length k]⟩ s.pv.length = k := by
      unfold piv; simp only; rw [List.getElem?_append_right (Nat.le_refl _), Nat.sub_self]; simp
    have hlen : (s.pv ++ [(k : Int)]).length = s.pv.length + 1 := by simp
    refine ⟨fun t ht => ?_, fun t ht => ?_, fun t t' htt ht' => ?_, fun t i ht hi => ?_, fun t j ht hj => ?_⟩
    · simp only [hlen] at ht
      by_cases h8 : t < s.pv.length
      · rw [hpold t h8]; simp only; rw [List.getElem?_append_left h8]; exact hR.val t h8
      · have : t = s.pv.length := by omega
        subst this
        rw [hpnew]; simp only; rw [List.getElem?_append_right (Nat.le_refl _), Nat.sub_self]; rfl
    · simp only [hlen] at ht
      by_cases h8 : t < s.pv.length
      · rw [hpold t h8]; have := hR.lt t h8; omega
      · have : t = s.pv.length := by omega
        subst this
        rw [hpnew]; omega
    · simp only [hlen] at ht'
      rw [hpold t (by omega)]
      by_cases h8 : t' < s.pv.length
      · rw [hpold t' h8]; exact hR.asc t t' htt h8
      · have : t' = s.pv.length := by omega
        subst this
        rw [hpnew]; exact hR.lt t (by omega)
    · simp only [hlen] at ht
      by_cases h8 : t < s.pv.length
      · rw [hpold t h8]
        have hlt := hR.lt t h8
        show clr (dvd gg s.pv.length k) s.pv.length k i (piv s t) = _
        by_cases hne : i = s.pv.length
        · rw [hne, crow, hzu _ hlt, if_neg (by omega)]
        · rw [cleft i _ hi hne hlt]; exact u1 t i h8 hi
      · have : t = s.pv.length := by omega
        subst this
        rw [hpnew]; exact ccol i hi
    · simp only [hlen] at ht
      by_cases h8 : t < s.pv.length
      · rw [hpold t h8] at hj
        have hlt := hR.lt t h8
        show clr (dvd gg s.pv.length k) s.pv.length k t j = _
        rw [cleft t j (by omega) (by omega) (by omega), hg1 t h8]
        exact hR.lead t j h8 hj
      · have : t = s.pv.length := by omega
        subst this
        rw [hpnew] at hj
        show clr (dvd gg s.pv.length k) s.pv.length k s.pv.length j = _
        rw [crow, hzu j hj]
theorem elim_rinv {g : Nat → Nat → Option Rat} (hg : Good2 r c g) : ∀ {k : Nat} {s : ES}, k ≤ c → elim r c g k = some s → RInv r c k s := by
  intro k
  induction k with
  | zero =>
    intro s _ e
    injection e with e; subst e
    exact ⟨fun t h => by simp at h, fun t h => by simp at h, fun t t' _ h => by simp at h, fun t i h _ => by simp at h, fun t j h _ => by simp at h⟩
  | succ k ih =>
    intro s hk e
    unfold elim at e
    cases h0 : elim r c g k with
    | none => rw [h0] at e; cases e
    | some s0 =>
      rw [h0] at e
      exact rinv_step (elim_inv hg (by omega) h0) (ih (by omega) h0) (by omega) e
end
end Go.Di
namespace Go.Di
theorem zero_ro (o : Option Rat) : M_impl_isZero (ro o) = some (decide (o = some 0 ∨ o = none)) := nil_ro o
theorem row_md {r c : Nat} {xs : List Rt} (hr : r ≤ 24) (hc : c ≤ 200) (hl : xs.length = r * c) {i : Nat} (hi : i < r) (x : Int) :
    M_impl_Matrix_row_md ⟨x, c, xs⟩ i = some ((i * c, c), xs) := by
  have h1 : i * c ≤ 24 * 200 := Nat.mul_le_mul (by omega) hc
  have h2 : (i + 1) * c ≤ 24 * 200 := Nat.mul_le_mul (by omega) hc
  have h3 : (i + 1) * c ≤ r * c := Nat.mul_le_mul_right c hi
  have e1 : IntKind.i64.wrap ((i : Int) * (c : Int)) = ((i * c : Nat) : Int) := by
    rw [show ((i : Int) * (c : Int)) = ((i * c : Nat) : Int) by simp]; exact wrap_i64 (by omega) (by omega)
  have e0 : IntKind.i64.wrap ((i : Int) + 1) = ((i + 1 : Nat) : Int) := by
    rw [wrap_i64 (by omega) (by omega)]; omega
  have e2 : IntKind.i64.wrap (((i + 1 : Nat) : Int) * (c : Int)) = (((i + 1) * c : Nat) : Int) := by
    rw [show (((i + 1 : Nat) : Int) * (c : Int)) = (((i + 1) * c : Nat) : Int) by simp]; exact wrap_i64 (by omega) (by omega)
  have h4 : (i + 1) * c = i * c + c := by rw [Nat.add_mul, Nat.one_mul]
  unfold M_impl_Matrix_row_md
  simp only [e0, e1, e2, Int.toNat_natCast]
  have hin : inside xs.length (((i * c : Nat) : Int), (((i + 1) * c : Nat) : Int)) = true := by
    unfold inside
    simp only [Bool.and_eq_true, decide_eq_true_iff]
    omega
  rw [hin, show (i + 1) * c - i * c = c by omega]; rfl
theorem idx_cut {α : Type} {xs : List α} {lo len k : Nat} (hk : k < len) (h : lo + len ≤ xs.length) : idx (cut xs lo (lo + len)) (k : Int) = xs[lo + k]? := by
  rw [idx_nat]; unfold cut
  rw [List.getElem?_drop, List.getElem?_take_of_lt (by omega)]
theorem idx_rowG {r c : Nat} {g : Nat → Nat → Option Rat} {i k : Nat} (hi : i < r) (hk : k < c) : idx (cut ((grid r c g).map ro) (i * c) (i * c + c)) (k : Int) = some (ro (g i k)) := by
  rw [idx_cut hk (by rw [List.length_map, len_grid, ← Nat.succ_mul]; exact Nat.mul_le_mul_right c hi), get_grid hi hk]
theorem row_cut {r c : Nat} {g : Nat → Nat → Option Rat} {i : Nat} (hi : i < r) : cut ((grid r c g).map ro) (i * c) (i * c + c) = ((List.range c).map (g i)).map ro := by
  apply List.ext_getElem?
  intro k
  by_cases hk : k < c
  · have h1 := idx_rowG (g := g) hi hk
    rw [idx_nat] at h1
    rw [h1]
    simp [hk]
  · rw [List.getElem?_eq_none, List.getElem?_eq_none]
    · simp; omega
    · unfold cut; simp; omega
theorem row_all {r c : Nat} {g : Nat → Nat → Option Rat} {i : Nat} (hi : i < r) (hc : c ≤ 200) : M_impl_complete (cut ((grid r c g).map ro) (i * c) (i * c + c)) = some (((List.range c).map (g i)).all Option.isSome) := by
  rw [row_cut hi, impl_complete (by simp; omega)]
section
variable {r c : Nat} {g : Nat → Nat → Option Rat} {k u : Nat}
theorem iel_find (hr : r ≤ 24) (hc : c ≤ 200) (hg : Good2 r c g) (hk : k < c) (hu : u ≤ r) (n v v1 v5 v6 : Int) (v2 v4 fs : List Rt) (v3 pv : List Int) :
    L_impl_reduce_1 n k u v v1 v2 v3 v4 v5 v6 r c ((grid r c g).map ro) pv fs = some (n, (k : Int), ((pivR g k (r - u) u : Nat) : Int), v, v1, v2, v3, v4, v5, v6, (r : Int), (c : Int), (grid r c g).map ro, pv, fs, ()) := by
  unfold L_impl_reduce_1
  have key : ∀ s i, i + s = r → whileO S_impl_reduce_1 (n, (k : Int), (i : Int), v, v1, v2, v3, v4, v5, v6, (r : Int), (c : Int), (grid r c g).map ro, pv, fs, ()) = some (n, (k : Int), ((pivR g k s i : Nat) : Int), v, v1, v2, v3, v4, v5, v6, (r : Int), (c : Int), (grid r c g).map ro, pv, fs, ()) := by
    intro s
    induction s with
    | zero =>
      intro i hi
      apply whileO_inr
      simp [S_impl_reduce_1, pivR, show i = r by omega]
    | succ s ih =>
      intro i hi
      have hir : i < r := by omega
      by_cases h0 : g i k = some 0
      · rw [whileO_inl (y := (n, (k : Int), ((i + 1 : Nat) : Int), v, v1, v2, v3, v4, v5, v6, (r : Int), (c : Int), (grid r c g).map ro, pv, fs, ()))]
        · rw [ih (i + 1) (by omega), pivR, if_pos h0]
        · simp only [S_impl_reduce_1, dlt hir, cond_true, at_grid' (show r ≤ 1000 by omega) (show c ≤ 1000 by omega) hir hk, Option.bind_some, zero_ro, h0, succ_wrap hir (show r ≤ 1048576 by omega)]
          simp
      · apply whileO_inr
        have hsm := (hg i k hir hk).2
        have hn : ¬ (g i k = some 0 ∨ g i k = none) := by
          rintro (h | h)
          · exact h0 h
          · rw [h] at hsm; cases hsm
        simp only [S_impl_reduce_1, dlt hir, cond_true, at_grid' (show r ≤ 1000 by omega) (show c ≤ 1000 by omega) hir hk, Option.bind_some, zero_ro, decide_eq_false hn, cond_false, pivR, if_neg h0]
  exact key (r - u) u (by omega)
theorem iel_swap (hc : c ≤ 200) {p : Nat} (hp : p < r) (hu : u < r) (n k0 v v1 v5 v6 : Int) (v2 v4 fs : List Rt) (v3 pv : List Int) :
    L_impl_reduce_2 n k0 (p * c) c (u * c) c c 0 v v1 v2 v3 v4 v5 v6 r c ((grid r c g).map ro) fs pv =
      some (n, k0, v, v1, v2, v3, v4, v5, v6, (r : Int), (c : Int), (grid r c (swp g p u)).map ro, fs, pv, ()) := by
  unfold L_impl_reduce_2
  have key := whileO_upto S_impl_reduce_2 (fun j => (n, k0, p * c, c, u * c, c, (c : Int), (j : Int), v, v1, v2, v3, v4, v5, v6, (r : Int), (c : Int), (grid r c (fun a b => if b < j then swp g p u a b else g a b)).map ro, fs, pv, ())) c
    (n, k0, v, v1, v2, v3, v4, v5, v6, (r : Int), (c : Int), (grid r c (fun a b => if b < c then swp g p u a b else g a b)).map ro, fs, pv, ()) (fun j hj => by
      have s1 := set_grid (r := r) (c := c) (g := fun a b => if b < j then swp g p u a b else g a b) (h := fun a b => if a = p ∧ b = j then g u j else if b < j then swp g p u a b else g a b) (o := g u j) hp hj (fun a b _ _ => rfl)
      have s2 := set_grid (r := r) (c := c) (g := fun a b => if a = p ∧ b = j then g u j else if b < j then swp g p u a b else g a b) (h := fun a b => if b < j + 1 then swp g p u a b else g a b) (o := g p j) hu hj (fun a b _ _ => by
        unfold swp
        by_cases hb : b = j
        · subst hb
          by_cases h1 : a = u
          · subst h1
            by_cases h2 : a = p
            · subst h2; simp
            · simp [h2]
          · by_cases h2 : a = p
            · subst h2; simp [h1]
            · simp [h1, h2]
        · have : (b < j + 1) = (b < j) := by rw [eq_iff_iff]; omega
          simp [hb, this])
      simp only [S_impl_reduce_2, dlt hj, cond_true, idx_rowG hp hj, idx_rowG hu hj, Int.toNat_natCast, get_grid hp hj, get_grid hu hj, Option.bind_some, Nat.lt_irrefl, if_false, s1, s2, succ_wrap hj (show c ≤ 1048576 by omega)]) (by simp [S_impl_reduce_2])
  refine Eq.trans ?_ (key.trans ?_)
  · rw [grid_congr (r := r) (c := c) (g := fun a b => if b < 0 then swp g p u a b else g a b) (h := g) (fun a b _ _ => by simp)]; rfl
  · rw [grid_congr (r := r) (c := c) (g := fun a b => if b < c then swp g p u a b else g a b) (h := swp g p u) (fun a b _ hb => by simp [hb])]
theorem iel_div (hc : c ≤ 200) (hg : Good2 r c g) (hk : k < c) (hu : u < r) (n k0 v v1 v5 v6 : Int) (v2 v4 fs : List Rt) (v3 pv : List Int) :
    L_impl_reduce_3 n k0 (u * c) c c 0 v v1 v2 v3 v4 v5 v6 r c (ro (g u k)).neg (ro (g u k)).mag (ro (g u k)).den ((grid r c g).map ro) fs pv =
      some (n, k0, u * c, c, v, v1, v2, v3, v4, v5, v6, (r : Int), (c : Int), (grid r c (dvd g u k)).map ro, fs, pv, ()) := by
  unfold L_impl_reduce_3
  have key := whileO_upto S_impl_reduce_3 (fun j => (n, k0, u * c, c, (c : Int), (j : Int), v, v1, v2, v3, v4, v5, v6, (r : Int), (c : Int), (ro (g u k)).neg, (ro (g u k)).mag, (ro (g u k)).den, (grid r c (fun a b => if b < j then dvd g u k a b else g a b)).map ro, fs, pv, ())) c
    (n, k0, u * c, c, v, v1, v2, v3, v4, v5, v6, (r : Int), (c : Int), (grid r c (fun a b => if b < c then dvd g u k a b else g a b)).map ro, fs, pv, ()) (fun j hj => by
      have s1 := set_grid (r := r) (c := c) (g := fun a b => if b < j then dvd g u k a b else g a b) (h := fun a b => if b < j + 1 then dvd g u k a b else g a b) (o := divO (g u j) (g u k)) hu hj (fun a b _ _ => by
        unfold dvd
        by_cases hb : b = j
        · subst hb
          by_cases h1 : a = u
          · subst h1; simp
          · simp [h1]
        · have : (b < j + 1) = (b < j) := by rw [eq_iff_iff]; omega
          simp [hb, this])
      have hd := impl_divO (hg u j hu hj).1 (hg u k hu hk).1
      simp only [S_impl_reduce_3, dlt hj, cond_true, idx_rowG hu hj, Int.toNat_natCast, get_grid hu hj, Option.bind_some, Nat.lt_irrefl, if_false]
      show ((M_impl_div (ro (g u j)) (ro (g u k))).bind _) = _
      simp only [hd, Option.bind_some, s1, succ_wrap hj (show c ≤ 1048576 by omega)]) (by simp [S_impl_reduce_3])
  refine Eq.trans ?_ (key.trans ?_)
  · rw [grid_congr (r := r) (c := c) (g := fun a b => if b < 0 then dvd g u k a b else g a b) (h := g) (fun a b _ _ => by simp)]; rfl
  · rw [grid_congr (r := r) (c := c) (g := fun a b => if b < c then dvd g u k a b else g a b) (h := dvd g u k) (fun a b _ hb => by simp [hb])]
theorem iel_clear1 (hc : c ≤ 200) (hg : ∀ i k, i < r → k < c → Oks (g i k)) {i : Nat} (hi : i < r) (hu : u < r) (hiu : i ≠ u) {f : Option Rat} (hf : Oks f) (n k0 t t1 v v1 v5 v6 : Int) (v2 v4 fs : List Rt) (v3 pv : List Int) :
    L_impl_reduce_5 n k0 (u * c) c (i * c) c t t1 c 0 v v1 v2 v3 v4 v5 v6 r c (ro f).neg (ro f).mag (ro f).den ((grid r c g).map ro) fs pv =
      some (n, k0, u * c, c, i * c, c, t, t1, v, v1, v2, v3, v4, v5, v6, (r : Int), (c : Int), (grid r c (fun a b => if a = i then subO (g i b) (mulO f (g u b)) else g a b)).map ro, fs, pv, ()) := by
  unfold L_impl_reduce_5
  have key := whileO_upto S_impl_reduce_5 (fun j => (n, k0, u * c, c, i * c, c, t, t1, (c : Int), (j : Int), v, v1, v2, v3, v4, v5, v6, (r : Int), (c : Int), (ro f).neg, (ro f).mag, (ro f).den, (grid r c (fun a b => if a = i ∧ b < j then subO (g i b) (mulO f (g u b)) else g a b)).map ro, fs, pv, ())) c
    (n, k0, u * c, c, i * c, c, t, t1, v, v1, v2, v3, v4, v5, v6, (r : Int), (c : Int), (grid r c (fun a b => if a = i ∧ b < c then subO (g i b) (mulO f (g u b)) else g a b)).map ro, fs, pv, ()) (fun j hj => by
      have s1 := set_grid (r := r) (c := c) (g := fun a b => if a = i ∧ b < j then subO (g i b) (mulO f (g u b)) else g a b) (h := fun a b => if a = i ∧ b < j + 1 then subO (g i b) (mulO f (g u b)) else g a b) (o := subO (g i j) (mulO f (g u j))) hi hj (fun a b _ _ => by
        by_cases hb : b = j
        · subst hb
          by_cases h1 : a = i
          · subst h1; simp
          · simp [h1]
        · have : (b < j + 1) = (b < j) := by rw [eq_iff_iff]; omega
          simp [hb, this])
      have hui : u ≠ i := fun e => hiu e.symm
      simp only [S_impl_reduce_5, dlt hj, cond_true, idx_rowG hu hj, idx_rowG hi hj, Int.toNat_natCast, get_grid hu hj, get_grid hi hj, Option.bind_some, Nat.lt_irrefl, and_false, if_false, hui, false_and]
      show ((M_impl_mul (ro f) (ro (g u j))).bind _) = _
      simp only [impl_mulO hf (hg u j hu hj), Option.bind_some, impl_subO (hg i j hi hj) (oks_mulO (o := f) (p := g u j)), s1, succ_wrap hj (show c ≤ 1048576 by omega)]) (by simp [S_impl_reduce_5])
  refine Eq.trans ?_ (key.trans ?_)
  · rw [grid_congr (r := r) (c := c) (g := fun a b => if a = i ∧ b < 0 then subO (g i b) (mulO f (g u b)) else g a b) (h := g) (fun a b _ _ => by simp)]; rfl
  · rw [grid_congr (r := r) (c := c) (g := fun a b => if a = i ∧ b < c then subO (g i b) (mulO f (g u b)) else g a b) (h := fun a b => if a = i then subO (g i b) (mulO f (g u b)) else g a b) (fun a b _ hb => by simp [hb])]
noncomputable def rowB (c : Nat) (g : Nat → Nat → Option Rat) (i : Nat) : Bool := ((List.range c).map (g i)).all Option.isSome
theorem rowB_iff {i : Nat} : rowB c g i = true ↔ ∀ j, j < c → (g i j).isSome = true := by
  unfold rowB
  rw [List.all_eq_true]
  constructor
  · intro h j hj; exact h _ (List.mem_map.2 ⟨j, List.mem_range.2 hj, rfl⟩)
  · intro h o ho; obtain ⟨j, hj, rfl⟩ := List.mem_map.1 ho; exact h j (List.mem_range.1 hj)
theorem rows_allG : (List.range r).all (rowB c g) = allG r c g := by
  rw [Bool.eq_iff_iff, List.all_eq_true, allG_iff]
  constructor
  · intro h i j hi hj; exact rowB_iff.1 (h i (List.mem_range.2 hi)) j hj
  · intro h i hi; exact rowB_iff.2 fun j hj => h i j (List.mem_range.1 hi) hj
theorem iel_clear (hr : r ≤ 24) (hc : c ≤ 200) (hg : ∀ i k, i < r → k < c → Oks (g i k)) (hall : ∀ i k, i < r → k < c → (g i k).isSome = true) (hu : u < r) (hk : k < c) (v v1 v5 v6 : Int) (v2 v4 fs : List Rt) (v3 pv : List Int) :
    L_impl_reduce_4 u k (u * c) c r 0 v v1 v2 v3 v4 v5 v6 r c ((grid r c g).map ro) fs pv =
      some (cond (allG r c (clr g u k)) (.inr ((u : Int), (k : Int), v, v1, v2, v3, v4, v5, v6, (r : Int), (c : Int), (grid r c (clr g u k)).map ro, fs, pv, ())) (.inl (false, 0, 0, [], [], [], ()))) := by
  unfold L_impl_reduce_4
  rw [← rows_allG]
  have hgi : ∀ i, clr g u k i = (fun b => clr g u k i b) := fun _ => rfl
  have key := stop_loop (S := S_impl_reduce_4) (fun i => ((u : Int), (k : Int), u * c, c, (r : Int), (i : Int), v, v1, v2, v3, v4, v5, v6, (r : Int), (c : Int), (grid r c (fun a b => if a < i then clr g u k a b else g a b)).map ro, fs, pv, ())) r (rowB c (clr g u k))
    (.inl (false, 0, 0, [], [], [], ())) (.inr ((u : Int), (k : Int), v, v1, v2, v3, v4, v5, v6, (r : Int), (c : Int), (grid r c (clr g u k)).map ro, fs, pv, ())) (fun i hi _ => by
      have same : (∀ b, clr g u k i b = g i b) → grid r c (fun a b => if a < i + 1 then clr g u k a b else g a b) = grid r c (fun a b => if a < i then clr g u k a b else g a b) := fun h => grid_congr fun a b _ _ => by
        by_cases h1 : a < i
        · rw [if_pos h1, if_pos (by omega)]
        · rw [if_neg h1]
          by_cases h2 : a = i
          · subst h2; rw [if_pos (by omega), h]
          · rw [if_neg (by omega)]
      have whole : (∀ b, clr g u k i b = g i b) → rowB c (clr g u k) i = true := fun h => rowB_iff.2 fun j hj => by rw [h]; exact hall i j hi hj
      have hrow := row_md (xs := (grid r c (fun a b => if a < i then clr g u k a b else g a b)).map ro) hr hc (by rw [List.length_map, len_grid]) hi r
      simp only [S_impl_reduce_4, dlt hi, cond_true, hrow, Option.bind_some]
      by_cases hiu : i = u
      · subst hiu
        have e : ∀ b, clr g i k i b = g i b := fun b => by unfold clr; rw [if_pos rfl]
        rw [same e, whole e]
        simp only [beq_self_eq_true, cond_true, succ_wrap hi (show r ≤ 1048576 by omega)]
      · have hb : ((i : Int) == (u : Int)) = false := by
          rw [beq_eq_false_iff_ne]; omega
        have hui : (if u < i then clr g u k u k else g u k) = g u k := by
          split
          · unfold clr; rw [if_pos rfl]
          · rfl
        have gk : idx (cut ((grid r c (fun a b => if a < i then clr g u k a b else g a b)).map ro) (i * c) (i * c + c)) (k : Int) = some (ro (g i k)) := by
          rw [idx_rowG hi hk, if_neg (Nat.lt_irrefl i)]
        have gg : ((grid r c (fun a b => if a < i then clr g u k a b else g a b)).map ro)[i * c + k]? = some (ro (g i k)) := by
          rw [get_grid hi hk, if_neg (Nat.lt_irrefl i)]
        simp only [hb, cond_false, gk, Int.toNat_natCast, gg, Option.bind_some, zero_ro]
        have hnn : g i k ≠ none := fun e => by have := hall i k hi hk; rw [e] at this; cases this
        by_cases h0 : g i k = some 0
        · have e : ∀ b, clr g u k i b = g i b := fun b => by unfold clr; rw [if_neg hiu, if_pos h0]
          rw [decide_eq_true (.inl h0), cond_true, same e, whole e]
          simp only [cond_true, succ_wrap hi (show r ≤ 1048576 by omega)]
        · rw [decide_eq_false (by rintro (h | h); exact h0 h; exact hnn h), cond_false]
          have h1 := iel_clear1 (u := u) (g := fun a b => if a < i then clr g u k a b else g a b) hc (fun a b h1 h2 => by
            show Oks (if a < i then clr g u k a b else g a b)
            split
            · exact oks_clr hg h1 h2
            · exact hg a b h1 h2) hi hu hiu (hg i k hi hk) u k r i v v1 v5 v6 v2 v4 fs v3 pv
          have hgrid : grid r c (fun a b => if a = i then subO (if i < i then clr g u k i b else g i b) (mulO (g i k) (if u < i then clr g u k u b else g u b)) else if a < i then clr g u k a b else g a b) = grid r c (fun a b => if a < i + 1 then clr g u k a b else g a b) := grid_congr fun a b _ _ => by
            by_cases h2 : a = i
            · subst h2
              have hsu : (if u < a then clr g u k u b else g u b) = g u b := by
                split
                · unfold clr; rw [if_pos rfl]
                · rfl
              rw [if_pos rfl, if_pos (show a < a + 1 by omega), if_neg (Nat.lt_irrefl a), hsu]
              unfold clr; rw [if_neg hiu, if_neg h0]
            · rw [if_neg h2]
              have : (a < i + 1) = (a < i) := by rw [eq_iff_iff]; omega
              simp only [this]
          rw [hgrid] at h1
          rw [h1]
          simp only [Option.bind_some]
          rw [row_all hi hc]
          have hrb : (((List.range c).map fun b => if i < i + 1 then clr g u k i b else g i b).all Option.isSome) = rowB c (clr g u k) i := by
            unfold rowB; congr 2; funext b; rw [if_pos (by omega)]
          rw [hrb, Option.bind_some]
          cases rowB c (clr g u k) i with
          | false => rfl
          | true => simp only [Bool.not_true, cond_false, cond_true, succ_wrap hi (show r ≤ 1048576 by omega)]) (fun _ => by
      have e : grid r c (fun a b => if a < r then clr g u k a b else g a b) = grid r c (clr g u k) := grid_congr fun a b h _ => if_pos h
      simp [S_impl_reduce_4, e])
  refine Eq.trans ?_ key
  rw [grid_congr (r := r) (c := c) (g := fun a b => if a < 0 then clr g u k a b else g a b) (h := g) (fun a b _ _ => if_neg (by omega))]; rfl
end
end Go.Di
namespace Go.Di
end Go.Di
namespace Go.Di
end Go.Di
namespace Go.Di
section
variable {r c : Nat} {g : Nat → Nat → Option Rat} {k : Nat}
noncomputable def ist (r c k : Nat) (s : ES) : Int × Int × Int × Int × (List Rt) × (List Int) × (List Rt) × Int × Int × Int × Int × (List Rt) × (List Int) × (List Rt) × Unit :=
  ((s.pv.length : Int), (k : Int), 0, 0, [], [], [], (r : Int), (c : Int), (r : Int), (c : Int), (grid r c s.g).map ro, s.pv, s.fs.map ro, ())
theorem impl_step {s : ES} (hr : r ≤ 24) (hc : c ≤ 200) (h : EInv r c k s) (hk : k < c) (hur : s.pv.length < r) :
    (∃ s', stepE r c k s = some s' ∧ S_impl_reduce_0 (ist r c k s) = some (.inl (ist r c (k + 1) s'))) ∨
    (stepE r c k s = none ∧ S_impl_reduce_0 (ist r c k s) = some (.inr (.inl (false, 0, 0, [], [], [], ())))) := by
  unfold stepE
  rw [if_pos hur]
  obtain ⟨pl, ph⟩ := pivR_le s.g k (r - s.pv.length) s.pv.length
  have hfind := iel_find (u := s.pv.length) hr hc h.good hk (Nat.le_of_lt hur) s.pv.length 0 0 r c [] [] (s.fs.map ro) [] s.pv
  have hne : pivR s.g k (r - s.pv.length) s.pv.length < s.pv.length + (r - s.pv.length) → s.g (pivR s.g k (r - s.pv.length) s.pv.length) k ≠ some 0 := pivR_ne s.g k _ _
  generalize pivR s.g k (r - s.pv.length) s.pv.length = p at *
  simp only
  have hdec : decide ((s.pv.length : Int) < (r : Int)) = true := decide_eq_true (by omega)
  have fl1 : guardO (Nat.ble ((s.fs.map ro).length + 1) maxNew) = some () := room1 (by rw [List.length_map]; have := h.fslen; omega)
  have fl2 : guardO (Nat.ble ((s.fs.map ro ++ [ro (some (-1))]).length + 1) maxNew) = some () := room1 (by rw [List.length_append, List.length_map]; have := h.fslen; simp; omega)
  have pl1 : guardO (Nat.ble (s.pv.length + 1) maxNew) = some () := room1 (by omega)
  by_cases hpr : p = r
  · subst hpr
    left
    rw [if_pos rfl]
    refine ⟨s, rfl, ?_⟩
    unfold ist
    simp only [S_impl_reduce_0, dlt hk, cond_true, hdec, hfind, Option.bind_some, beq_self_eq_true, succ_wrap hk (show c ≤ 1048576 by omega)]
  · rw [if_neg hpr]
    have hp : p < r := by omega
    have hne := hne (by omega)
    have g1 := swp_good (u := s.pv.length) h.good hp hur
    have z1 := swp_zero (c := c) hur hp pl h.zero
    have e1 : swp s.g p s.pv.length s.pv.length k = s.g p k := by
      unfold swp
      split
      · rename_i e; rw [e]
      · rw [if_pos rfl]
    have hself : p = s.pv.length → swp s.g p s.pv.length = s.g := fun e => by
      subst e; funext a b; unfold swp; split
      · rename_i h; rw [h]
      · rfl
    have hsw := iel_swap (g := s.g) (r := r) (c := c) hc hp hur s.pv.length k 0 0 r c [] [] (s.fs.map ro ++ [ro (some (-1))]) [] s.pv
    have hrow1 := row_md (xs := (grid r c s.g).map ro) hr hc (by rw [List.length_map, len_grid]) hp r
    have hrow2 := row_md (xs := (grid r c s.g).map ro) hr hc (by rw [List.length_map, len_grid]) hur r
    generalize swp s.g p s.pv.length = gg at *
    obtain ⟨y, hy⟩ := Option.isSome_iff_exists.1 (g1 s.pv.length k hur hk).2
    have hy0 : y ≠ 0 := fun e0 => hne (by rw [← e1, hy, e0])
    have hbeq : ((p : Int) == (r : Int)) = false := by rw [beq_eq_false_iff_ne]; omega
    have hrow3 := row_md (xs := (grid r c gg).map ro) hr hc (by rw [List.length_map, len_grid]) hur r
    have hat1 := idx_rowG (r := r) (c := c) (g := gg) hur hk
    have hat2 := get_grid (r := r) (c := c) (g := gg) hur hk
    have hdivl := fun fs => iel_div (r := r) (c := c) (g := gg) hc g1 hk hur s.pv.length k 0 0 r c [] [] fs [] s.pv
    have o2 : ∀ i j, i < r → j < c → Oks (dvd gg s.pv.length k i j) := fun i j hi hj => oks_dvd g1 hi hj
    have hrowc := row_all (r := r) (c := c) (g := dvd gg s.pv.length k) hur hc
    have htop : (((List.range c).map (dvd gg s.pv.length k s.pv.length)).all Option.isSome) = allG r c (dvd gg s.pv.length k) := by
      rw [Bool.eq_iff_iff, allG_iff]
      have hb := rowB_iff (c := c) (g := dvd gg s.pv.length k) (i := s.pv.length)
      refine hb.trans ⟨fun ha i j hi hj => ?_, fun ha j hj => ha _ j hur hj⟩
      by_cases hiu : i = s.pv.length
      · rw [hiu]; exact ha j hj
      · unfold dvd; rw [if_neg hiu]; exact (g1 i j hi hj).2
    rw [htop] at hrowc
    have hS : S_impl_reduce_0 (ist r c k s) = cond (!allG r c (dvd gg s.pv.length k)) (some (.inr (.inl (false, 0, 0, [], [], [], ()))))
        ((L_impl_reduce_4 s.pv.length k (s.pv.length * c) c r 0 0 0 [] [] [] r c r c ((grid r c (dvd gg s.pv.length k)).map ro) (((s.fs ++ if p ≠ s.pv.length then [some (-1)] else []) ++ [gg s.pv.length k]).map ro) s.pv).bind fun r1 =>
        match r1 with
        | .inl (t, v27, v28, v29, v30, v31, _) => some (.inr (.inl (t, v27, v28, v29, v30, v31, ())))
        | .inr (used3, c3, v32, v33, v34, v35, v36, v37, v38, v39, v40, xs9, xs10, xs11, _) =>
          (guardO (Nat.ble (xs11.length + 1) maxNew)).bind fun _ =>
          some (.inl (IntKind.i64.wrap (used3 + 1), IntKind.i64.wrap (c3 + 1), v32, v33, v34, v35, v36, v37, v38, v39, v40, xs9, xs11 ++ ([c3] : List Int), xs10, ()))) := by
      by_cases hpu : p = s.pv.length
      · have hbne : ((p : Int) != (s.pv.length : Int)) = false := by rw [hpu]; simp
        rw [if_neg (fun h => h hpu), List.append_nil, List.map_append, List.map_singleton]
        have hg := hself hpu
        unfold ist
        simp only [S_impl_reduce_0, dlt hk, cond_true, hdec, hfind, Option.bind_some, hbeq, cond_false, hbne]
        rw [← hg]
        simp only [hrow3, hat1, hat2, Int.toNat_natCast, Option.bind_some, fl1, hdivl, hrowc]
        rfl
      · have hbne : ((p : Int) != (s.pv.length : Int)) = true := by
          rw [bne_iff_ne]; omega
        have hm1 : M_impl_whole (-1) = some (ro (some (-1))) := by
          have := impl_whole (n := -1) (by omega) (by omega)
          rw [this]; simp
        rw [if_pos hpu, List.map_append, List.map_append, List.map_singleton, List.map_singleton]
        unfold ist
        simp only [S_impl_reduce_0, dlt hk, cond_true, hdec, hfind, Option.bind_some, hbeq, cond_false, hbne, hm1, fl1, hrow1, hrow2, hsw, hrow3, hat1, hat2, Int.toNat_natCast, fl2, hdivl, hrowc]
        rfl
    cases h2 : allG r c (dvd gg s.pv.length k) with
    | false =>
      right
      rw [h2] at hS
      exact ⟨by rw [Bool.false_and]; rfl, hS⟩
    | true =>
      have a2 := allG_iff.1 h2
      rw [h2] at hS
      have hcl := iel_clear (g := dvd gg s.pv.length k) hr hc o2 a2 hur hk 0 0 r c [] [] (((s.fs ++ if p ≠ s.pv.length then [some (-1)] else []) ++ [gg s.pv.length k]).map ro) [] s.pv
      rw [hcl] at hS
      rw [Bool.true_and]
      cases h3 : allG r c (clr (dvd gg s.pv.length k) s.pv.length k) with
      | false =>
        right
        rw [h3] at hS
        exact ⟨rfl, hS⟩
      | true =>
        left
        rw [h3] at hS
        refine ⟨_, rfl, hS.trans ?_⟩
        unfold ist
        simp only [Bool.not_true, cond_false, cond_true, Option.bind_some, pl1, succ_wrap hur (show r ≤ 1048576 by omega), succ_wrap hk (show c ≤ 1048576 by omega), List.length_append, List.length_singleton]
theorem impl_elim (hr : r ≤ 24) (hc : c ≤ 200) (hg : Good2 r c g) : ∀ n k s, k + n = c → elim r c g k = some s →
    (∃ f, elim r c g c = some f ∧ whileO S_impl_reduce_0 (ist r c k s) = some (.inr (0, 0, [], [], [], (r : Int), (c : Int), (grid r c f.g).map ro, f.pv, f.fs.map ro, ()))) ∨
    (elim r c g c = none ∧ whileO S_impl_reduce_0 (ist r c k s) = some (.inl (false, 0, 0, [], [], [], ()))) := by
  intro n
  induction n with
  | zero =>
    intro k s hk e
    have : k = c := by omega
    subst this
    left
    refine ⟨s, e, whileO_inr ?_⟩
    unfold ist
    simp [S_impl_reduce_0]
  | succ n ih =>
    intro k s hk e
    have hkc : k < c := by omega
    have hi := elim_inv hg (Nat.le_of_lt hkc) e
    by_cases hu : s.pv.length < r
    · rcases impl_step hr hc hi hkc hu with ⟨s', e1, e2⟩ | ⟨e1, e2⟩
      · rw [whileO_inl e2]
        exact ih (k + 1) s' (by omega) (by unfold elim; rw [e]; exact e1)
      · right
        refine ⟨?_, whileO_inr e2⟩
        have : elim r c g (k + 1) = none := by unfold elim; rw [e]; exact e1
        have := elim_none this n
        rw [show k + 1 + n = c by omega] at this
        exact this
    · left
      have := elim_stay e hu (n + 1)
      rw [hk] at this
      refine ⟨s, this, whileO_inr ?_⟩
      unfold ist
      simp only [S_impl_reduce_0, dlt hkc, cond_true, decide_eq_false (show ¬ (s.pv.length : Int) < (r : Int) by omega), cond_false]
theorem impl_reduce (hr : r ≤ 24) (hc : c ≤ 200) (hg : Good2 r c g) :
    (∃ f, elim r c g c = some f ∧ M_impl_reduce ⟨r, c, (grid r c g).map ro⟩ = some (⟨r, c, (grid r c f.g).map ro, f.pv, f.fs.map ro⟩, true)) ∨
    (elim r c g c = none ∧ M_impl_reduce ⟨r, c, (grid r c g).map ro⟩ = some (⟨0, 0, [], [], []⟩, false)) := by
  have hcp : M_impl_copyVector ((grid r c g).map ro) = some ((grid r c g).map ro) := impl_copyVec (by
    have : r * c ≤ 24 * 200 := Nat.mul_le_mul hr hc
    refine ⟨by rw [List.length_map, len_grid]; omega, fun x hx => ?_⟩
    obtain ⟨o, ho, rfl⟩ := List.mem_map.1 hx
    obtain ⟨i, j, hi, hj, rfl⟩ := grid_mem ho
    exact ro_fit (hg i j hi hj).1)
  rcases impl_elim hr hc hg c 0 ⟨g, [], []⟩ (by omega) rfl with ⟨f, e1, e2⟩ | ⟨e1, e2⟩
  · left
    refine ⟨f, e1, ?_⟩
    unfold M_impl_reduce L_impl_reduce_0
    rw [hcp, Option.bind_some]
    exact congrArg (fun x => Option.bind x _) e2
  · right
    refine ⟨e1, ?_⟩
    unfold M_impl_reduce L_impl_reduce_0
    rw [hcp, Option.bind_some]
    exact congrArg (fun x => Option.bind x _) e2
end
noncomputable def gof (q : List Rat) (c : Nat) : Nat → Nat → Option Rat := fun i k => q[i * c + k]?
theorem gof_grid {q : List Rat} {r c : Nat} (hl : q.length = r * c) : (grid r c (gof q c)).map ro = q.map rq := by
  rw [rq_some]
  congr 1
  apply List.ext_getElem?
  intro j
  by_cases hj : j < r * c
  · obtain ⟨h1, h2, h3⟩ := div_parts hj
    rw [grid_at _ hj]
    unfold gof
    rw [h3, List.getElem?_map]
    have : j < q.length := by omega
    simp [this]
  · rw [List.getElem?_eq_none (by rw [len_grid]; omega), List.getElem?_eq_none (by rw [List.length_map]; omega)]
theorem gof_good {q : List Rat} {r c : Nat} (hl : q.length = r * c) (hf : Fits q) : Good2 r c (gof q c) := fun i k hi hk => by
  have h : i * c + k < q.length := by rw [hl]; exact at_lt hi hk
  unfold gof
  exact ⟨hf.get _, by simp [h]⟩
end Go.Di
namespace Go.Di
def Cur.ok (c : Cur) : Prop := 0 ≤ c.i ∧ c.i ≤ (c.b.length : Int) ∧ c.b.length ≤ 1048576
theorem and255 (x : BitVec 64) : 0 ≤ ((x &&& BitVec.ofInt 64 255).toNat : Int) ∧ ((x &&& BitVec.ofInt 64 255).toNat : Int) ≤ 255 := by
  refine ⟨by omega, ?_⟩
  have h : (x &&& BitVec.ofInt 64 255).toNat ≤ 255 := by
    rw [BitVec.toNat_and]
    have : (BitVec.ofInt 64 255).toNat = 255 := by decide
    rw [this]; exact Nat.and_le_right
  omega
theorem wrap255 (x : BitVec 64) : 0 ≤ IntKind.i64.wrap ((x &&& BitVec.ofInt 64 255).toNat : Int) ∧ IntKind.i64.wrap ((x &&& BitVec.ofInt 64 255).toNat : Int) ≤ 255 := by
  have h := and255 x
  rw [wrap_i64 (by omega) (by omega)]; exact h
theorem cur_byte {c : Cur} (h : c.ok) : ∃ v c', M_spec_l01Byte c = some (v, c') ∧ 0 ≤ v ∧ v ≤ 255 ∧ c'.ok := by
  unfold M_spec_l01Byte
  cases hc : decide (c.i < (c.b.length : Int)) with
  | true =>
    have hl := of_decide_eq_true hc
    rw [cond_true, idx_int h.1 hl, Option.bind_some]
    refine ⟨_, _, rfl, (wrap255 _).1, (wrap255 _).2, ?_⟩
    have h1 := h.1
    have h2 := h.2.2
    show 0 ≤ IntKind.i64.wrap (c.i + 1) ∧ IntKind.i64.wrap (c.i + 1) ≤ _ ∧ _
    rw [wrap_i64 (by omega) (by omega)]
    exact ⟨by omega, by show c.i + 1 ≤ (c.b.length : Int); omega, h2⟩
  | false =>
    rw [cond_false]
    exact ⟨_, _, rfl, (wrap255 _).1, (wrap255 _).2, h⟩
theorem tmod_lt {a n : Int} (h0 : 0 ≤ a) (hn : 0 < n) : 0 ≤ a.tmod n ∧ a.tmod n < n := ⟨Int.tmod_nonneg _ h0, Int.tmod_lt_of_pos _ hn⟩
theorem cur_below {c : Cur} (h : c.ok) {n : Int} (hn : 0 < n) : ∃ v c', M_spec_l01Below c n = some (v, c') ∧ 0 ≤ v ∧ v < n ∧ c'.ok := by
  unfold M_spec_l01Below
  rw [decide_eq_false (show ¬ n ≤ 0 by omega), cond_false]
  have hg : guardO (n != 0) = some () := by
    have : (n != 0) = true := by simp; omega
    rw [this]; rfl
  obtain ⟨v, c1, e1, h1, h2, k1⟩ := cur_byte h
  cases decide (n ≤ 256) with
  | true =>
    rw [cond_true, e1, Option.bind_some]
    simp only [hg, Option.bind_some]
    exact ⟨_, _, rfl, (tmod_lt h1 hn).1, (tmod_lt h1 hn).2, k1⟩
  | false =>
    obtain ⟨v2, c2, e2, h3, h4, k2⟩ := cur_byte k1
    obtain ⟨v3, c3, e3, h5, h6, k3⟩ := cur_byte k2
    obtain ⟨v4, c4, e4, h7, h8, k4⟩ := cur_byte k3
    rw [cond_false, e1, Option.bind_some]
    simp only [e2, e3, e4, hg, Option.bind_some]
    have h0 : 0 ≤ IntKind.i64.wrap (IntKind.i64.wrap (IntKind.i64.wrap (IntKind.i64.wrap (v * 16777216) + IntKind.i64.wrap (v2 * 65536)) + IntKind.i64.wrap (v3 * 256)) + v4) := by
      rw [wrap_i64 (n := v * 16777216) (by omega) (by omega), wrap_i64 (n := v2 * 65536) (by omega) (by omega), wrap_i64 (n := v3 * 256) (by omega) (by omega), wrap_i64 (n := v * 16777216 + v2 * 65536) (by omega) (by omega), wrap_i64 (n := v * 16777216 + v2 * 65536 + v3 * 256) (by omega) (by omega), wrap_i64 (by omega) (by omega)]
      omega
    exact ⟨_, _, rfl, (tmod_lt h0 hn).1, (tmod_lt h0 hn).2, k4⟩
theorem cur_once {c : Cur} (h : c.ok) {n : Int} (hn : 0 < n) : ∃ v c', M_spec_l01Once c n = some (v, c') ∧ c'.ok := by
  obtain ⟨v, c1, e1, _, _, k1⟩ := cur_below h hn
  unfold M_spec_l01Once
  rw [e1, Option.bind_some]
  exact ⟨_, _, rfl, k1⟩
theorem cur_new {code : List Int} (h : code.length ≤ 1048576) : ∃ c, M_spec_l01New code = some c ∧ c.ok := by
  unfold M_spec_l01New L_spec_l01New_0
  obtain ⟨r, hr, hq⟩ := whileO_meas (S := S_spec_l01New_0) (fun x => x.1 = code ∧ 0 ≤ x.2.2.1 ∧ x.2.2.1 ≤ (code.length : Int)) (fun x => code.length - x.2.2.1.toNat) (fun r => r.1 = code)
    (by
      rintro ⟨co, hh, i, u⟩ ⟨hco, h1, h2⟩
      simp only at h1 h2 hco
      subst hco
      unfold S_spec_l01New_0
      simp only
      cases hc : decide (i < (co.length : Int)) with
      | true =>
        have hl := of_decide_eq_true hc
        rw [cond_true]
        cases decide (i < 4000) with
        | true =>
          rw [cond_true, idx_int h1 hl, Option.bind_some]
          refine .inl ⟨_, rfl, ⟨rfl, ?_, ?_⟩, ?_⟩ <;> simp only <;> rw [wrap_i64 (by omega) (by omega)] <;> omega
        | false => exact .inr ⟨_, rfl, rfl⟩
      | false => exact .inr ⟨_, rfl, rfl⟩)
    (x := (code, IntKind.i64.wrap (1973 + (code.length : Int)), 0, ())) ⟨rfl, by simp, by simp⟩
  rw [hr, Option.bind_some]
  obtain ⟨co, hh, u⟩ := r
  simp only at hq
  subst hq
  exact ⟨_, rfl, by show (0 : Int) ≤ 0; omega, by show (0 : Int) ≤ (co.length : Int); omega, h⟩
theorem cur_at {code : List Int} (h : code.length ≤ 1048576) {n : Int} (hn : n ≤ 1000000) : ∃ c, M_spec_l30New code n = some c ∧ c.ok := by
  unfold M_spec_l30New L_spec_l30New_0
  obtain ⟨c, e, k⟩ := cur_new h
  rw [e, Option.bind_some]
  obtain ⟨r, hr, hq⟩ := whileO_meas (S := S_spec_l30New_0) (fun x => x.1 = n ∧ 0 ≤ x.2.1 ∧ Cur.ok ⟨x.2.2.1, x.2.2.2.1, x.2.2.2.2.1⟩) (fun x => (n - x.2.1).toNat) (fun r => Cur.ok ⟨r.1, r.2.1, r.2.2.1⟩)
    (by
      rintro ⟨m, i, v, v1, v2, u⟩ ⟨rfl, h1, h2⟩
      simp only at h1 h2 hn
      unfold S_spec_l30New_0
      simp only
      cases hc : decide (i < m) with
      | true =>
        have hl := of_decide_eq_true hc
        obtain ⟨w, c', e1, _, _, k1⟩ := cur_byte h2
        rw [cond_true, e1, Option.bind_some]
        refine .inl ⟨_, rfl, ⟨rfl, ?_, k1⟩, ?_⟩ <;> simp only <;> rw [wrap_i64 (by omega) (by omega)] <;> omega
      | false => exact .inr ⟨_, rfl, h2⟩)
    (x := (n, 0, c.b, c.i, c.h, ())) ⟨rfl, by simp, k⟩
  rw [hr, Option.bind_some]
  exact ⟨_, rfl, hq⟩
/-! ### Bounds of a fraction's parts -/
def Bd (q : Rat) (n d : Nat) : Prop := q.num.natAbs ≤ n ∧ q.den ≤ d
theorem Bd.mono {q : Rat} {n d m e : Nat} (h : Bd q n d) (h1 : n ≤ m) (h2 : d ≤ e) : Bd q m e := ⟨Nat.le_trans h.1 h1, Nat.le_trans h.2 h2⟩
theorem bd_mk {z : Int} {d : Nat} (hd : d ≠ 0) : Bd (mkRat z d) z.natAbs d := by
  refine ⟨?_, ?_⟩
  · rw [mk_abs z hd]; exact Nat.div_le_self _ _
  · rw [(mk_parts z hd).2]; exact Nat.div_le_self _ _
theorem bd_int (n : Int) : Bd (n : Rat) n.natAbs 1 := ⟨by rw [Rat.num_intCast]; exact Nat.le_refl _, by rw [Rat.den_intCast]; exact Nat.le_refl _⟩
theorem bd_mul {a b : Rat} {n d m e : Nat} (h : Bd a n d) (k : Bd b m e) : Bd (a * b) (n * m) (d * e) := by
  rw [← mk_mul]
  refine (bd_mk (Nat.mul_ne_zero a.den_nz b.den_nz)).mono ?_ (Nat.mul_le_mul h.2 k.2)
  rw [Int.natAbs_mul]; exact Nat.mul_le_mul h.1 k.1
theorem bd_add {a b : Rat} {n d m e : Nat} (h : Bd a n d) (k : Bd b m e) : Bd (a + b) (n * e + m * d) (d * e) := by
  rw [← mk_add]
  refine (bd_mk (Nat.mul_ne_zero a.den_nz b.den_nz)).mono ?_ (Nat.mul_le_mul h.2 k.2)
  refine Nat.le_trans (Int.natAbs_add_le _ _) (Nat.add_le_add ?_ ?_)
  · rw [Int.natAbs_mul]; exact Nat.mul_le_mul h.1 k.2
  · rw [Int.natAbs_mul]; exact Nat.mul_le_mul k.1 h.2
theorem bd_neg {a : Rat} {n d : Nat} (h : Bd a n d) : Bd (-a) n d := ⟨by rw [Rat.neg_num, Int.natAbs_neg]; exact h.1, by rw [Rat.neg_den]; exact h.2⟩
theorem bd_sub {a b : Rat} {n d m e : Nat} (h : Bd a n d) (k : Bd b m e) : Bd (a - b) (n * e + m * d) (d * e) := by
  rw [Rat.sub_eq_add_neg]; exact bd_add h (bd_neg k)
theorem bd_div {a b : Rat} {n d m e : Nat} (h : Bd a n d) (k : Bd b m e) (hb : b ≠ 0) : Bd (a / b) (n * e) (d * m) := by
  rw [← mk_div a b hb]
  have hn : b.num ≠ 0 := fun h => hb (Rat.num_eq_zero.1 h)
  refine (bd_mk (Nat.mul_ne_zero a.den_nz (by omega))).mono ?_ (Nat.mul_le_mul h.2 k.1)
  rw [Int.natAbs_mul, sg_abs]; exact Nat.mul_le_mul h.1 k.2
theorem Bd.fit {q : Rat} {n d : Nat} (h : Bd q n d) (h1 : n ≤ 10 ^ 200) (h2 : d ≤ 10 ^ 200) : Fit q := by
  have e : ((10 ^ 200 : Nat) : Int) < bp 24 := by decide
  exact ⟨len_dg.2 (Int.lt_of_le_of_lt (Int.ofNat_le.2 (Nat.le_trans h.1 h1)) e), len_dg.2 (Int.lt_of_le_of_lt (Int.ofNat_le.2 (Nat.le_trans h.2 h2)) e)⟩
theorem chk_bd {q : Rat} {n d : Nat} (h : Bd q n d) (h1 : n ≤ 10 ^ 200) (h2 : d ≤ 10 ^ 200) : chk q = some q := chk_fit (h.fit h1 h2)
theorem cur_number {c : Cur} (h : c.ok) : ∃ q c', M_spec_l05Number c = some (rq q, c') ∧ Bd q 20 6 ∧ c'.ok := by
  unfold M_spec_l05Number
  obtain ⟨w, c1, e1, k1⟩ := cur_once h (n := 3) (by omega)
  rw [e1, Option.bind_some]
  cases w with
  | true =>
    obtain ⟨a, c2, e2, h1, h2, k2⟩ := cur_below k1 (n := 41) (by omega)
    obtain ⟨b, c3, e3, h3, h4, k3⟩ := cur_below k2 (n := 6) (by omega)
    simp only [cond_true, e2, e3, Option.bind_some]
    rw [wrap_i64 (n := a - 20) (by omega) (by omega), wrap_i64 (n := 1 + b) (by omega) (by omega), spec_ratOf (by omega) (by omega) (by omega) (by omega) (by omega)]
    have bd : Bd (((a - 20 : Int) : Rat) / ((1 + b : Int) : Rat)) 20 6 := by
      have hb : ((1 + b : Int) : Rat) ≠ 0 := by
        intro e0
        have h0 := congrArg Rat.num e0
        rw [Rat.num_intCast] at h0
        have : (0 : Rat).num = 0 := rfl
        omega
      exact (bd_div (bd_int _) (bd_int _) hb).mono (by omega) (by omega)
    rw [chk_bd bd (by decide) (by decide), Option.bind_some]
    exact ⟨_, _, rfl, bd, k3⟩
  | false =>
    obtain ⟨a, c2, e2, h1, h2, k2⟩ := cur_below k1 (n := 21) (by omega)
    simp only [cond_false, e2, Option.bind_some]
    rw [wrap_i64 (n := a - 10) (by omega) (by omega), spec_ratInt (by omega) (by omega), Option.bind_some]
    exact ⟨_, _, rfl, (bd_int _).mono (by omega) (by omega), k2⟩
end Go.Di
namespace Go.Di
end Go.Di
namespace Go.Di
end Go.Di
namespace Go.Di
/-! ### Marks -/
def wS (s : Sta) : Nat := 4 + s.x.mag.length + s.x.den.length + s.y.mag.length + s.y.den.length
structure Sfit (l : List Sta) : Prop where
  fit : lfit Sta.fit l
  few : ws wS l ≤ 1000000000
/-! ### Lists whose first elements are changed -/
/-! ### Copies -/
/-! ### Sums -/
/-! ### Shifted networks -/
/-! ### Moved networks -/
end Go.Di
namespace Go.Di
end Go.Di
namespace Go.Di
/-! ### Vectors drawn from bytes -/
def Small (q : List Rat) : Prop := ∀ x ∈ q, Bd x 20 6
theorem Small.fits {q : List Rat} (h : Small q) : Fits q := fun x hx => (h x hx).fit (by decide) (by decide)
theorem make_vec {code : List Int} (h : code.length ≤ 1048576) {n : Int} (hn : n ≤ 1000000) {k : Nat} (hk : k ≤ 1000) : ∃ q : List Rat, M_spec_MakeVector code n (k : Int) = some (q.map rq) ∧ q.length = k ∧ Small q := by
  unfold M_spec_MakeVector M_spec_l05Draw L_spec_l05Draw_0
  obtain ⟨c, e, kc⟩ := cur_at h hn
  rw [e, Option.bind_some]
  obtain ⟨r, hr, q, h1, h2, h3⟩ := whileO_meas (S := S_spec_l05Draw_0) (fun x => x.1 = (k : Int) ∧ Cur.ok ⟨x.2.1, x.2.2.1, x.2.2.2.1⟩ ∧ ∃ q : List Rat, x.2.2.2.2.1 = q.map rq ∧ q.length ≤ k ∧ Small q) (fun x => k - x.2.2.2.2.1.length) (fun r => ∃ q : List Rat, r.2.2.2.1 = q.map rq ∧ q.length = k ∧ Small q)
    (by
      rintro ⟨m, v, v1, v2, v3, u⟩ ⟨h0, h1, q, h2, h3, h4⟩
      simp only at h0 h1 h2 h3
      subst h0; subst h2
      unfold S_spec_l05Draw_0
      simp only [List.length_map]
      cases hc : decide ((q.length : Int) < (k : Int)) with
      | true =>
        have hl := of_decide_eq_true hc
        obtain ⟨x, c', e1, b1, k1⟩ := cur_number h1
        simp only [cond_true, e1, Option.bind_some, room1 (show q.length ≤ 2000000 by omega)]
        refine .inl ⟨_, rfl, ⟨rfl, k1, q ++ [x], by simp, by simp; omega, ?_⟩, ?_⟩
        · intro y hy
          rcases List.mem_append.1 hy with hy | hy
          · exact h4 y hy
          · rw [List.mem_singleton.1 hy]; exact b1
        · simp only [List.length_append, List.length_map, List.length_singleton]; omega
      | false =>
        have hl := of_decide_eq_false hc
        exact .inr ⟨_, rfl, q, rfl, by omega, h4⟩)
    (x := ((k : Int), c.b, c.i, c.h, [], ())) ⟨rfl, kc, [], rfl, by simp, fun x hx => (by cases hx)⟩
  rw [hr, Option.bind_some]
  obtain ⟨v, v1, v2, v3, u⟩ := r
  simp only at h1
  subst h1
  exact ⟨q, rfl, h2, h3⟩
theorem lfit_rq {q : List Rat} (h : Fits q) (hn : q.length ≤ 20000) : lfit Rt.fit (q.map rq) := (rfit_rq h hn).fit
theorem q_vec {q : List Rat} (h : Fits q) (hn : q.length ≤ 24) : vecB (q.map rq) = true := by
  unfold vecB
  rw [List.length_map, decide_eq_true hn, q_goods h]; rfl
/-! ### Networks drawn from bytes -/
end Go.Di
namespace Go.Di
def Sz (q : Rat) (k : Nat) : Prop := Bd q (10 ^ k) (10 ^ k)
theorem ten_le {k m : Nat} (h : k ≤ m) : 10 ^ k ≤ 10 ^ m := Nat.pow_le_pow_right (by omega) h
theorem Sz.mono {q : Rat} {k m : Nat} (h : Sz q k) (hm : k ≤ m) : Sz q m := Bd.mono h (ten_le hm) (ten_le hm)
theorem Sz.fit {q : Rat} {k : Nat} (h : Sz q k) (hk : k ≤ 200) : Fit q := Bd.fit h (ten_le hk) (ten_le hk)
theorem sz_mul {a b : Rat} {k m : Nat} (h : Sz a k) (h' : Sz b m) : Sz (a * b) (k + m) := by
  have := bd_mul h h'
  unfold Sz; rw [Nat.pow_add]; exact this
theorem two_tens (k m : Nat) : 10 ^ k * 10 ^ m + 10 ^ m * 10 ^ k ≤ 10 ^ (k + m + 1) := by
  rw [Nat.pow_succ, Nat.pow_add, Nat.mul_comm (10 ^ m) (10 ^ k)]; omega
theorem one_more (k m : Nat) : 10 ^ k * 10 ^ m ≤ 10 ^ (k + m + 1) := by
  rw [← Nat.pow_add]; exact ten_le (by omega)
theorem sz_add {a b : Rat} {k m : Nat} (h : Sz a k) (h' : Sz b m) : Sz (a + b) (k + m + 1) := (bd_add h h').mono (two_tens k m) (one_more k m)
theorem sz_sub {a b : Rat} {k m : Nat} (h : Sz a k) (h' : Sz b m) : Sz (a - b) (k + m + 1) := (bd_sub h h').mono (two_tens k m) (one_more k m)
theorem sz_neg {a : Rat} {k : Nat} (h : Sz a k) : Sz (-a) k := bd_neg h
theorem sz_div {a b : Rat} {k m : Nat} (h : Sz a k) (h' : Sz b m) (hb : b ≠ 0) : Sz (a / b) (k + m) := by
  have := bd_div h h' hb
  unfold Sz; rw [Nat.pow_add]; exact this
theorem sz_zero : Sz 0 0 := (bd_int 0).mono (by decide) (by decide)
theorem sz_one : Sz 1 0 := (bd_int 1).mono (by decide) (by decide)
theorem Small.sz {q : List Rat} (h : Small q) : ∀ x ∈ q, Sz x 2 := fun x hx => (h x hx).mono (by decide) (by decide)
def Szs (q : List Rat) (k : Nat) : Prop := ∀ x ∈ q, Sz x k
theorem Szs.fits {q : List Rat} {k : Nat} (h : Szs q k) (hk : k ≤ 200) : Fits q := fun x hx => (h x hx).fit hk
theorem Szs.get {q : List Rat} {k : Nat} (h : Szs q k) (i : Nat) : Sz ((q[i]?).getD 0) k := by
  by_cases hi : i < q.length
  · rw [List.getElem?_eq_getElem hi]; exact h _ (List.getElem_mem hi)
  · rw [List.getElem?_eq_none (by omega)]; exact sz_zero.mono (by omega)
/-! ### Inner products that fit -/
def innR (a b : List Rat) : Nat → Rat
  | 0 => 0
  | i + 1 => innR a b i + (a[i]?).getD 0 * (b[i]?).getD 0
theorem inn_sz {a b : List Rat} {k m : Nat} (ha : Szs a k) (hb : Szs b m) : ∀ n, n ≤ a.length → n ≤ b.length → n * (k + m + 1) ≤ 200 → innO a b n = some (innR a b n) ∧ Sz (innR a b n) (n * (k + m + 1))
  | 0, _, _, _ => ⟨rfl, sz_zero.mono (by omega)⟩
  | n + 1, h1, h2, h3 => by
    have e : (n + 1) * (k + m + 1) = n * (k + m + 1) + (k + m) + 1 := by rw [Nat.add_mul]; omega
    obtain ⟨e1, s1⟩ := inn_sz ha hb n (by omega) (by omega) (by omega)
    have s2 := sz_mul (ha.get n) (hb.get n)
    have s3 := sz_add s1 s2
    have s4 : Sz (innR a b (n + 1)) ((n + 1) * (k + m + 1)) := by rw [e]; exact s3
    refine ⟨?_, s4⟩
    show addO (innO a b n) (mulO a[n]? b[n]?) = _
    rw [e1, List.getElem?_eq_getElem (by omega), List.getElem?_eq_getElem (by omega)]
    have g1 : (a[n]?).getD 0 = a[n] := by rw [List.getElem?_eq_getElem (by omega)]; rfl
    have g2 : (b[n]?).getD 0 = b[n] := by rw [List.getElem?_eq_getElem (by omega)]; rfl
    rw [g1, g2] at s2 s3
    have m1 : mulO (some a[n]) (some b[n]) = some (a[n] * b[n]) := chk_fit (s2.fit (by omega))
    rw [m1]
    show chk (innR a b n + a[n] * b[n]) = _
    rw [chk_fit (s3.fit (by omega))]
    show _ = some (innR a b n + (a[n]?).getD 0 * (b[n]?).getD 0)
    rw [g1, g2]
theorem szs_row {q : List Rat} {k : Nat} (h : Szs q k) (c i : Nat) : Szs (rowq q c i) k := fun x hx => h x (List.mem_of_mem_take (List.mem_of_mem_drop hx))
theorem szs_trans {q : List Rat} {k : Nat} (h : Szs q k) (r c : Nat) : Szs (trans q r c) k := fun x hx => by
  obtain ⟨i, j, _, _, rfl⟩ := grid_mem hx
  exact h.get _
/-! ### Products that fit -/
def mulR (p q : List Rat) (r c n : Nat) : List Rat := grid r n fun i k => innR (rowq p c i) (rowq (trans q c n) c k) c
theorem mulM_sz {p q : List Rat} {r c n k m : Nat} (hl : p.length = r * c) (hp : Szs p k) (hq : Szs q m) (hs : c * (k + m + 1) ≤ 200) :
    mulM p q r c n = (mulR p q r c n).map some ∧ Szs (mulR p q r c n) (c * (k + m + 1)) := by
  have ht := len_trans q c n
  have key : ∀ i j, i < r → j < n → innO (rowq p c i) (rowq (trans q c n) c j) c = some (innR (rowq p c i) (rowq (trans q c n) c j) c) ∧ Sz (innR (rowq p c i) (rowq (trans q c n) c j) c) (c * (k + m + 1)) := fun i j hi hj =>
    inn_sz (szs_row hp c i) (szs_row (szs_trans hq c n) c j) c (by rw [rowq_len hl hi]; omega) (by rw [rowq_len ht hj]; omega) hs
  refine ⟨?_, fun x hx => ?_⟩
  · unfold mulM mulR
    rw [grid_map]
    exact grid_congr fun i j hi hj => (key i j hi hj).1
  · obtain ⟨i, j, hi, hj, rfl⟩ := grid_mem hx
    exact (key i j hi hj).2
theorem some_all (l : List Rat) : (l.map some).all Option.isSome = true := by
  rw [List.all_eq_true]
  intro o ho
  obtain ⟨x, _, rfl⟩ := List.mem_map.1 ho
  rfl
theorem some_ro (l : List Rat) : (l.map some).map ro = l.map rq := by rw [List.map_map]; rfl
theorem mul_small {p q : List Rat} {r c n k m : Nat} (hr : r ≤ 24) (hc : c ≤ 24) (hn : n ≤ 24) (hl : p.length = r * c) (hl' : q.length = c * n) (hp : Szs p k) (hq : Szs q m) (hs : c * (k + m + 1) ≤ 200) (hk : k ≤ 200) (hm : m ≤ 200) :
    M_impl_Multiply ⟨r, c, p.map rq⟩ ⟨c, n, q.map rq⟩ = some (⟨r, n, (mulR p q r c n).map rq⟩, true) := by
  have f1 := hp.fits hk
  have f2 := hq.fits hm
  have h1 := prod24 hr hc
  have h2 := prod24 hc hn
  unfold M_impl_Multiply
  rw [impl_mxOk (m := ⟨r, c, p.map rq⟩) (lfit_rq f1 (by omega)), mx_ok hr hc hl f1, impl_mxOk (m := ⟨c, n, q.map rq⟩) (lfit_rq f2 (by omega)), mx_ok hc hn hl' f2]
  have hne : ((c : Int) != (c : Int)) = false := by simp
  simp only [Option.bind_some, Bool.not_true, cond_false, hne]
  rw [impl_mulM hr hc hn hl f1 hl' f2, (mulM_sz hl hp hq hs).1]
  unfold givenO
  rw [some_all, some_ro]; rfl
def appR (q : List Rat) (r c : Nat) (v : List Rat) : List Rat := (List.range r).map fun i => innR (rowq q c i) v c
theorem apply_small {q v : List Rat} {r c k m : Nat} (hr : r ≤ 24) (hc : c ≤ 24) (hl : q.length = r * c) (hv : v.length = c) (hq : Szs q k) (hw : Szs v m) (hs : c * (k + m + 1) ≤ 200) (hk : k ≤ 200) (hm : m ≤ 200) :
    M_impl_ApplyMatrix ⟨r, c, q.map rq⟩ (v.map rq) = some ((appR q r c v).map rq, true) ∧ Szs (appR q r c v) (c * (k + m + 1)) := by
  have f1 := hq.fits hk
  have f2 := hw.fits hm
  have h1 := prod24 hr hc
  have key : ∀ i, i < r → innO (rowq q c i) v c = some (innR (rowq q c i) v c) ∧ Sz (innR (rowq q c i) v c) (c * (k + m + 1)) := fun i hi =>
    inn_sz (szs_row hq c i) hw c (by rw [rowq_len hl hi]; omega) (by omega) hs
  have e : appO q r c v = (appR q r c v).map some := by
    unfold appO appR
    rw [List.map_map]
    exact List.map_congr_left fun i hi => (key i (List.mem_range.1 hi)).1
  refine ⟨?_, fun x hx => ?_⟩
  · unfold M_impl_ApplyMatrix
    have hne : (((v.map rq).length : Int) != (c : Int)) = false := by rw [List.length_map, hv]; simp
    rw [impl_mxOk (m := ⟨r, c, q.map rq⟩) (lfit_rq f1 (by omega)), mx_ok hr hc hl f1, impl_isVec (lfit_rq f2 (by omega)), q_vec f2 (by omega)]
    simp only [Option.bind_some, Bool.not_true, cond_false, hne]
    rw [impl_applied hr hc hl f1 f2 hv, e, some_all, some_ro]; rfl
  · obtain ⟨i, hi, rfl⟩ := List.mem_map.1 hx
    exact (key i (List.mem_range.1 hi)).2
theorem make_mx {code : List Int} (h : code.length ≤ 1048576) {n : Int} (hn : n ≤ 1000000) {r c : Nat} (hr : r ≤ 24) (hc : c ≤ 24) : ∃ q : List Rat, M_spec_MakeMatrix code n r c = some ⟨r, c, q.map rq⟩ ∧ q.length = r * c ∧ Small q := by
  have h1 := prod24 hr hc
  obtain ⟨q, e, hl, hs⟩ := make_vec h hn (k := r * c) (by omega)
  refine ⟨q, ?_, hl, hs⟩
  unfold M_spec_MakeVector at e
  unfold M_spec_MakeMatrix M_spec_l06Draw
  obtain ⟨cu, ec, _⟩ := cur_at h hn
  rw [ec, Option.bind_some] at e ⊢
  have hw : IntKind.i64.wrap ((r : Int) * (c : Int)) = ((r * c : Nat) : Int) := by rw [wrap_i64 (by omega) (by omega)]; omega
  rw [hw]
  cases hd : M_spec_l05Draw cu ((r * c : Nat) : Int) with
  | none => rw [hd] at e; cases e
  | some x =>
    rw [hd] at e
    simp only [Option.bind_some, Option.some.injEq] at e ⊢
    rw [e]
end Go.Di
namespace Go.Di
end Go.Di
namespace Go.Di
/-! ### Determinants -/
noncomputable def prodO (l : List (Option Rat)) : Nat → Option Rat
  | 0 => some 1
  | i + 1 => mulO (prodO l i) (l[i]?.getD none)
theorem oks_prodO (l : List (Option Rat)) (i : Nat) : Oks (prodO l i) := by
  cases i with
  | zero => exact fit_one.ok
  | succ i => exact oks_mulO
theorem impl_prod {l : List (Option Rat)} (h : ∀ o ∈ l, Oks o) (hn : l.length ≤ 1048576) :
    L_impl_Determinant_0 (l.map ro) ((l.map ro).length : Int) 0 false [] [] (ro (some 1)).neg (ro (some 1)).mag (ro (some 1)).den =
      some (false, [], [], (ro (prodO l l.length)).neg, (ro (prodO l l.length)).mag, (ro (prodO l l.length)).den, ()) := by
  unfold L_impl_Determinant_0
  rw [List.length_map]
  exact whileO_upto S_impl_Determinant_0 (fun i => (l.map ro, (l.length : Int), (i : Int), false, [], [], (ro (prodO l i)).neg, (ro (prodO l i)).mag, (ro (prodO l i)).den, ())) l.length
    (false, [], [], (ro (prodO l l.length)).neg, (ro (prodO l l.length)).mag, (ro (prodO l l.length)).den, ()) (fun i hi => by
      have hc : cellO l i = l[i]?.getD none := rfl
      simp only [S_impl_Determinant_0, dlt hi, cond_true, idx_cell hi, Option.bind_some]
      show ((M_impl_mul (ro (prodO l i)) (ro (cellO l i))).bind _) = _
      rw [impl_mulO (oks_prodO l i) (oks_cell h i)]
      simp only [Option.bind_some, succ_wrap hi hn]
      rfl) (by simp [S_impl_Determinant_0])
end Go.Di
namespace Go.Di
/-! ### Numbers that stay small enough -/
def SzG (r c : Nat) (g : Nat → Nat → Option Rat) (K : Nat) : Prop := ∀ i j, i < r → j < c → ∃ x, g i j = some x ∧ Sz x K
theorem SzG.mono {r c : Nat} {g : Nat → Nat → Option Rat} {K M : Nat} (h : SzG r c g K) (hm : K ≤ M) : SzG r c g M := fun i j hi hj => by
  obtain ⟨x, e, s⟩ := h i j hi hj; exact ⟨x, e, s.mono hm⟩
theorem sz_divO {x y : Rat} {K M : Nat} (hx : Sz x K) (hy : Sz y M) (h0 : y ≠ 0) (hk : K + M ≤ 200) : divO (some x) (some y) = some (x / y) ∧ Sz (x / y) (K + M) := by
  have s := sz_div hx hy h0
  refine ⟨?_, s⟩
  show (if y = 0 then none else chk (x / y)) = _
  rw [if_neg h0, chk_fit (s.fit hk)]
theorem sz_mulO {x y : Rat} {K M : Nat} (hx : Sz x K) (hy : Sz y M) (hk : K + M ≤ 200) : mulO (some x) (some y) = some (x * y) ∧ Sz (x * y) (K + M) := by
  have s := sz_mul hx hy
  exact ⟨chk_fit (s.fit hk), s⟩
theorem sz_subO {x y : Rat} {K M : Nat} (hx : Sz x K) (hy : Sz y M) (hk : K + M + 1 ≤ 200) : subO (some x) (some y) = some (x - y) ∧ Sz (x - y) (K + M + 1) := by
  have s := sz_sub hx hy
  refine ⟨?_, s⟩
  show chk (x + -y) = _
  rw [← Rat.sub_eq_add_neg, chk_fit (s.fit hk)]
section
variable {r c k K : Nat}
theorem szg_swp {g : Nat → Nat → Option Rat} {p u : Nat} (h : SzG r c g K) (hp : p < r) (hu : u < r) : SzG r c (swp g p u) K := fun i j hi hj => by
  unfold swp
  split
  · exact h u j hu hj
  · split
    · exact h p j hp hj
    · exact h i j hi hj
theorem szg_dvd {g : Nat → Nat → Option Rat} {u : Nat} (h : SzG r c g K) (hu : u < r) (hk : k < c) (h0 : g u k ≠ some 0) (hK : K + K ≤ 200) : SzG r c (dvd g u k) (K + K) := fun i j hi hj => by
  unfold dvd
  split
  · obtain ⟨x, e1, s1⟩ := h u j hu hj
    obtain ⟨y, e2, s2⟩ := h u k hu hk
    have hy : y ≠ 0 := fun e => h0 (by rw [e2, e])
    obtain ⟨e3, s3⟩ := sz_divO s1 s2 hy hK
    exact ⟨x / y, by rw [e1, e2, e3], s3⟩
  · obtain ⟨x, e1, s1⟩ := h i j hi hj
    exact ⟨x, e1, s1.mono (by omega)⟩
theorem szg_clr {g : Nat → Nat → Option Rat} {u : Nat} (h : SzG r c (dvd g u k) (K + K)) (hg : ∀ i j, i < r → j < c → i ≠ u → ∃ x, dvd g u k i j = some x ∧ Sz x K) (hu : u < r) (hk : k < c) (hK : 4 * K + 1 ≤ 200) : SzG r c (clr (dvd g u k) u k) (4 * K + 1) := fun i j hi hj => by
  unfold clr
  by_cases hiu : i = u
  · rw [if_pos hiu]
    obtain ⟨x, e1, s1⟩ := h u j hu hj
    exact ⟨x, e1, s1.mono (by omega)⟩
  · rw [if_neg hiu]
    obtain ⟨x, e1, s1⟩ := hg i j hi hj hiu
    split
    · exact ⟨x, e1, s1.mono (by omega)⟩
    · obtain ⟨f, e2, s2⟩ := hg i k hi hk hiu
      obtain ⟨y, e3, s3⟩ := h u j hu hj
      obtain ⟨e4, s4⟩ := sz_mulO s2 s3 (by omega)
      obtain ⟨e5, s5⟩ := sz_subO s1 s4 (by omega)
      exact ⟨x - f * y, by rw [e1, e2, e3, e4, e5], s5.mono (by omega)⟩
theorem SzG.all {g : Nat → Nat → Option Rat} (h : SzG r c g K) : allG r c g = true := allG_iff.2 fun i j hi hj => by
  obtain ⟨x, e, _⟩ := h i j hi hj; rw [e]; rfl
theorem prodO_app (l : List (Option Rat)) (o : Option Rat) : prodO (l ++ [o]) (l.length + 1) = mulO (prodO l l.length) o := by
  have : ∀ n, n ≤ l.length → prodO (l ++ [o]) n = prodO l n := by
    intro n
    induction n with
    | zero => intro _; rfl
    | succ n ih =>
      intro h
      show mulO _ _ = mulO _ _
      rw [ih (by omega), List.getElem?_append_left (by omega)]
  show mulO (prodO (l ++ [o]) l.length) _ = _
  rw [this _ (Nat.le_refl _), List.getElem?_append_right (Nat.le_refl _), Nat.sub_self]; rfl
def PrOk (fs : List (Option Rat)) (P : Nat) : Prop := ∃ y, prodO fs fs.length = some y ∧ y ≠ 0 ∧ Sz y P
theorem PrOk.app {fs : List (Option Rat)} {P M : Nat} (h : PrOk fs P) {x : Rat} (hx : Sz x M) (h0 : x ≠ 0) (hk : P + M ≤ 200) : PrOk (fs ++ [some x]) (P + M) := by
  obtain ⟨y, e, y0, s⟩ := h
  obtain ⟨e2, s2⟩ := sz_mulO s hx hk
  refine ⟨y * x, ?_, fun e0 => ?_, s2⟩
  · rw [List.length_append, List.length_singleton, prodO_app, e, e2]
  · rcases Rat.mul_eq_zero.1 e0 with h | h
    · exact y0 h
    · exact h0 h
theorem sz_m1 : Sz (-1) 0 := sz_neg sz_one
theorem step_sz {s : ES} (hi : EInv r c k s) (h : SzG r c s.g K) (hk : k < c) (hK : 4 * K + 1 ≤ 200) {P : Nat} (hP : PrOk s.fs P) (hPK : P + K ≤ 200) :
    ∃ s', stepE r c k s = some s' ∧ ((s'.pv = s.pv ∧ SzG r c s'.g K ∧ PrOk s'.fs P) ∨ (s.pv.length < r ∧ s'.pv = s.pv ++ [(k : Int)] ∧ SzG r c s'.g (4 * K + 1) ∧ PrOk s'.fs (P + K))) := by
  unfold stepE
  by_cases hur : s.pv.length < r
  · rw [if_pos hur]
    obtain ⟨pl, ph⟩ := pivR_le s.g k (r - s.pv.length) s.pv.length
    have hne := pivR_ne s.g k (r - s.pv.length) s.pv.length
    generalize pivR s.g k (r - s.pv.length) s.pv.length = p at *
    simp only
    by_cases hpr : p = r
    · rw [if_pos hpr]; exact ⟨s, rfl, .inl ⟨rfl, h, hP⟩⟩
    · rw [if_neg hpr]
      have hp : p < r := by omega
      have hne := hne (by omega)
      have e1 : swp s.g p s.pv.length s.pv.length k = s.g p k := by
        unfold swp
        split
        · rename_i e; rw [e]
        · rw [if_pos rfl]
      have s1 := szg_swp h hp hur
      have s2 := szg_dvd s1 hur hk (by rw [e1]; exact hne) (by omega)
      have s3 := szg_clr s2 (fun i j hi hj hne => by
        have : dvd (swp s.g p s.pv.length) s.pv.length k i j = swp s.g p s.pv.length i j := by unfold dvd; rw [if_neg hne]
        rw [this]; exact s1 i j hi hj) hur hk hK
      rw [s2.all, s3.all]
      refine ⟨_, rfl, .inr ⟨hur, rfl, s3, ?_⟩⟩
      obtain ⟨x, ex, sx⟩ := s1 s.pv.length k hur hk
      have hx0 : x ≠ 0 := fun e => hne (by rw [← e1, ex, e])
      show PrOk ((s.fs ++ if p ≠ s.pv.length then [some (-1)] else []) ++ [swp s.g p s.pv.length s.pv.length k]) (P + K)
      rw [ex]
      have hq : PrOk (s.fs ++ if p ≠ s.pv.length then [some (-1)] else []) P := by
        split
        · have := hP.app sz_m1 (by decide) (by omega)
          simpa using this
        · rw [List.append_nil]; exact hP
      exact hq.app sx hx0 hPK
  · rw [if_neg hur]; exact ⟨s, rfl, .inl ⟨rfl, h, hP⟩⟩
def bb : Nat → Nat
  | 0 => 2
  | t + 1 => 4 * bb t + 1
def pp : Nat → Nat
  | 0 => 0
  | t + 1 => pp t + bb t
theorem elim_sz (hr : r ≤ 3) {g : Nat → Nat → Option Rat} (hg : Good2 r c g) (h : SzG r c g 2) : ∀ k, k ≤ c → ∃ s, elim r c g k = some s ∧ s.pv.length ≤ r ∧ SzG r c s.g (bb s.pv.length) ∧ PrOk s.fs (pp s.pv.length)
  | 0, _ => ⟨_, rfl, Nat.zero_le _, h, ⟨1, rfl, by decide, sz_one⟩⟩
  | k + 1, hk => by
    obtain ⟨s, e, l, s1, p1⟩ := elim_sz hr hg h k (by omega)
    have inv := elim_inv hg (by omega) e
    have hb : s.pv.length < r → 4 * bb s.pv.length + 1 ≤ 200 ∧ pp s.pv.length + bb s.pv.length ≤ 200 := fun hl => by
      have : s.pv.length = 0 ∨ s.pv.length = 1 ∨ s.pv.length = 2 := by omega
      rcases this with e | e | e <;> rw [e] <;> decide
    by_cases hl : s.pv.length < r
    · obtain ⟨s', e2, h2⟩ := step_sz inv s1 (show k < c by omega) (hb hl).1 p1 (hb hl).2
      refine ⟨s', by unfold elim; rw [e]; exact e2, ?_⟩
      rcases h2 with ⟨h3, h4, h5⟩ | ⟨h3, h4, h5, h6⟩
      · rw [h3]; exact ⟨l, h4, h5⟩
      · rw [h4, List.length_append, List.length_singleton]; exact ⟨by omega, h5, h6⟩
    · exact ⟨s, by unfold elim; rw [e]; show stepE r c k s = _; unfold stepE; rw [if_neg hl], l, s1, p1⟩
theorem szg_gof {q : List Rat} (hl : q.length = r * c) (hq : Szs q K) : SzG r c (gof q c) K := fun i j hi hj => by
  have h : i * c + j < q.length := by rw [hl]; exact at_lt hi hj
  exact ⟨q[i * c + j], by unfold gof; rw [List.getElem?_eq_getElem h], hq _ (List.getElem_mem h)⟩
/-! ### A matrix in reduced form is reduced to itself -/
structure Red (r c : Nat) (g : Nat → Nat → Option Rat) (L : Nat) (P : Nat → Nat) : Prop where
  le : L ≤ r
  lt : ∀ t, t < L → P t < c
  asc : ∀ t t', t < t' → t' < L → P t < P t'
  unit : ∀ t i, t < L → i < r → g i (P t) = if i = t then some 1 else some 0
  lead : ∀ t j, t < L → j < P t → g t j = some 0
  rest : ∀ i j, L ≤ i → i < r → j < c → g i j = some 0
end
end Go.Di
namespace Go.Di
theorem at_gridE {r c : Nat} {g : Nat → Nat → Option Rat} {i k : Nat} {x : Int} (hr : r ≤ 1000) (hc : c ≤ 1000) (hi : i < r) (hk : k < c) :
    M_impl_Matrix_at ⟨x, c, (grid r c g).map ro⟩ i k = some (ro (g i k)) := by
  unfold M_impl_Matrix_at
  simp only [at_pos (show i < 1000 by omega) hc (show k < 1000 by omega), idx_grid hi hk, Option.bind_some]
noncomputable def bes (c : Nat) (g h : Nat → Nat → Option Rat) : Nat → Nat → Option Rat := fun i k => if k < c then g i k else h i (k - c)
section
variable {r c c' : Nat} {g h : Nat → Nat → Option Rat}
theorem impl_bes (hr : r ≤ 24) (hc : c ≤ 24) (hc' : c' ≤ 24) (x y : Int) : M_impl_beside ⟨r, c, (grid r c g).map ro⟩ ⟨x, c', (grid r c' h).map ro⟩ = some ⟨r, ((c + c' : Nat) : Int), (grid r (c + c') (bes c g h)).map ro⟩ := by
  have ew : IntKind.i64.wrap ((c : Int) + (c' : Int)) = ((c + c' : Nat) : Int) := by rw [wrap_i64 (by omega) (by omega)]; omega
  unfold M_impl_beside M_impl_built__impl_beside_c1 L_impl_built__impl_beside_c1_0
  simp only [ew]
  rw [grid_loop (S := S_impl_built__impl_beside_c1_0) (fun i out => (((c + c' : Nat) : Int), (r : Int), (c : Int), (grid r c g).map ro, x, (c' : Int), (grid r c' h).map ro, (r : Int), i, 0, 0, [], (r : Int), ((c + c' : Nat) : Int), out, ())) (fun i k => ro (bes c g h i k)) r (c + c') (r := fun out => (0, 0, [], (r : Int), ((c + c' : Nat) : Int), out, ())) (fun i out hi ho => by
    unfold S_impl_built__impl_beside_c1_0 L_impl_built__impl_beside_c1_1
    simp only [dlt hi, cond_true]
    rw [app_from (S := S_impl_built__impl_beside_c1_1) out (fun k out => (((c + c' : Nat) : Int), (r : Int), (c : Int), (grid r c g).map ro, x, (c' : Int), (grid r c' h).map ro, (i : Int), (r : Int), (i : Int), ((c + c' : Nat) : Int), k, 0, 0, [], (r : Int), ((c + c' : Nat) : Int), out, ())) (fun k => ro (bes c g h i k)) (c + c') (r := fun out => (((c + c' : Nat) : Int), (r : Int), (c : Int), (grid r c g).map ro, x, (c' : Int), (grid r c' h).map ro, (r : Int), (i : Int), 0, 0, [], (r : Int), ((c + c' : Nat) : Int), out, ())) (fun k xs hk hx => by
      have hroom : guardO (Nat.ble (xs.length + 1) maxNew) = some () := room1 (by
        have : i * (c + c') ≤ 24 * 48 := Nat.mul_le_mul (by omega) (by omega)
        omega)
      have hc1 : M_impl_beside_c1 (i : Int) (k : Int) ⟨r, c, (grid r c g).map ro⟩ ⟨x, c', (grid r c' h).map ro⟩ = some (ro (bes c g h i k)) := by
        unfold M_impl_beside_c1 bes
        by_cases hkc : k < c
        · simp only [decide_eq_true (show (k : Int) < (c : Int) by omega), cond_true, at_gridE (show r ≤ 1000 by omega) (show c ≤ 1000 by omega) hi hkc, Option.bind_some, if_pos hkc]
        · have e1 : IntKind.i64.wrap ((k : Int) - (c : Int)) = ((k - c : Nat) : Int) := by rw [wrap_i64 (by omega) (by omega)]; omega
          simp only [decide_eq_false (show ¬ (k : Int) < (c : Int) by omega), cond_false, e1, at_gridE (show r ≤ 1000 by omega) (show c' ≤ 1000 by omega) hi (show k - c < c' by omega), Option.bind_some, if_neg hkc]
      simp only [S_impl_built__impl_beside_c1_1, dlt hk, cond_true, hc1, Option.bind_some, hroom, succ_wrap hk (show c + c' ≤ 1048576 by omega)]) (fun out _ => by simp [S_impl_built__impl_beside_c1_1])]
    simp only [Option.bind_some, succ_wrap hi (show r ≤ 1048576 by omega)]) (fun out _ => by simp [S_impl_built__impl_beside_c1_0])]
  rw [grid_map]; rfl
theorem bes_good (hg : Good2 r c g) (hh : Good2 r c' h) : Good2 r (c + c') (bes c g h) := fun i k hi hk => by
  unfold bes
  split
  · rename_i e; exact hg i k hi e
  · exact hh i (k - c) hi (by omega)
theorem bes_sz {K : Nat} (hg : SzG r c g K) (hh : SzG r c' h K) : SzG r (c + c') (bes c g h) K := fun i k hi hk => by
  unfold bes
  split
  · rename_i e; exact hg i k hi e
  · exact hh i (k - c) hi (by omega)
/-! ### Columns in front do not hang on those behind -/
theorem dvd_agree {a b : Nat → Nat → Option Rat} {u k n : Nat} (h : ∀ i j, i < r → j < n → a i j = b i j) (hu : u < r) (hk : k < n) : ∀ i j, i < r → j < n → dvd a u k i j = dvd b u k i j := fun i j hi hj => by
  unfold dvd; rw [h u j hu hj, h u k hu hk, h i j hi hj]
theorem clr_agree {a b : Nat → Nat → Option Rat} {u k n : Nat} (h : ∀ i j, i < r → j < n → a i j = b i j) (hu : u < r) (hk : k < n) : ∀ i j, i < r → j < n → clr a u k i j = clr b u k i j := fun i j hi hj => by
  unfold clr; rw [h u j hu hj, h i k hi hk, h i j hi hj]
theorem swp_agree {a b : Nat → Nat → Option Rat} {p u n : Nat} (h : ∀ i j, i < r → j < n → a i j = b i j) (hp : p < r) (hu : u < r) : ∀ i j, i < r → j < n → swp a p u i j = swp b p u i j := fun i j hi hj => by
  unfold swp; rw [h u j hu hj, h p j hp hj, h i j hi hj]
theorem step_agree {n k d : Nat} {s s' t t' : ES} (h1 : EInv r c k s) (h2 : EInv r d k t) (hk : k < n) (hc : n ≤ c) (hd : n ≤ d) (hpv : s.pv = t.pv) (h : ∀ i j, i < r → j < n → s.g i j = t.g i j)
    (e1 : stepE r c k s = some s') (e2 : stepE r d k t = some t') : s'.pv = t'.pv ∧ ∀ i j, i < r → j < n → s'.g i j = t'.g i j := by
  rcases step_cases h1 (by omega) e1 with ⟨rfl, z1⟩ | ⟨p, a1, a2, a3, a4, a5, _, _, rfl⟩
  · rcases step_cases h2 (by omega) e2 with ⟨rfl, _⟩ | ⟨p', b1, b2, b3, b4, b5, _, _, rfl⟩
    · exact ⟨hpv, h⟩
    · exact absurd (by rw [← h p' k b2 hk]; exact z1 p' (by rw [hpv]; exact b1) b2) b4
  · rcases step_cases h2 (by omega) e2 with ⟨rfl, z2⟩ | ⟨p', b1, b2, b3, b4, b5, _, _, rfl⟩
    · exact absurd (by rw [h p k a2 hk]; exact z2 p (by rw [← hpv]; exact a1) a2) a4
    · have hpp : p = p' := by
        rcases Nat.lt_trichotomy p p' with hl | hl | hl
        · exact absurd (by rw [h p k a2 hk]; exact b5 p (by rw [← hpv]; exact a1) hl) a4
        · exact hl
        · exact absurd (by rw [← h p' k b2 hk]; exact a5 p' (by rw [hpv]; exact b1) hl) b4
      subst hpp
      rw [hpv] at a3
      refine ⟨by simp only [hpv], fun i j hi hj => ?_⟩
      simp only [hpv]
      exact clr_agree (dvd_agree (swp_agree h a2 a3) a3 hk) a3 hk i j hi hj
theorem elim_agree {n d : Nat} {a b : Nat → Nat → Option Rat} (ha : Good2 r c a) (hb : Good2 r d b) (hc : n ≤ c) (hd : n ≤ d) (h : ∀ i j, i < r → j < n → a i j = b i j) :
    ∀ k, k ≤ n → ∀ s t, elim r c a k = some s → elim r d b k = some t → s.pv = t.pv ∧ ∀ i j, i < r → j < n → s.g i j = t.g i j := by
  intro k
  induction k with
  | zero =>
    intro _ s t e1 e2
    injection e1 with e1; injection e2 with e2
    subst e1; subst e2
    exact ⟨rfl, h⟩
  | succ k ih =>
    intro hk s t e1 e2
    unfold elim at e1 e2
    cases h1 : elim r c a k with
    | none => rw [h1] at e1; cases e1
    | some s0 =>
      cases h2 : elim r d b k with
      | none => rw [h2] at e2; cases e2
      | some t0 =>
        rw [h1] at e1; rw [h2] at e2
        obtain ⟨p1, p2⟩ := ih (by omega) s0 t0 h1 h2
        exact step_agree (elim_inv ha (by omega) h1) (elim_inv hb (by omega) h2) hk hc hd p1 p2 e1 e2
theorem elim_ext (hg : Good2 r c g) {k : Nat} {s : ES} (e : elim r c g k = some s) : ∀ n s', k + n ≤ c → elim r c g (k + n) = some s' → ∃ l, s'.pv = s.pv ++ l ∧ ∀ x ∈ l, (k : Int) ≤ x
  | 0, s', _, e' => by rw [Nat.add_zero] at e'; rw [e] at e'; injection e' with e'; exact ⟨[], by rw [← e']; simp, fun x hx => by cases hx⟩
  | n + 1, s', hn, e' => by
    have e' : elim r c g ((k + n) + 1) = some s' := e'
    unfold elim at e'
    cases h0 : elim r c g (k + n) with
    | none => rw [h0] at e'; cases e'
    | some s0 =>
      rw [h0] at e'
      obtain ⟨l, h1, h2⟩ := elim_ext hg e n s0 (by omega) h0
      rcases step_cases (elim_inv hg (by omega) h0) (by omega) e' with ⟨rfl, _⟩ | ⟨p, _, _, _, _, _, _, _, rfl⟩
      · exact ⟨l, h1, h2⟩
      · refine ⟨l ++ [((k + n : Nat) : Int)], by simp only [h1, List.append_assoc], fun x hx => ?_⟩
        rcases List.mem_append.1 hx with hx | hx
        · exact h2 x hx
        · rw [List.mem_singleton.1 hx]; omega
end
theorem lead_ok {l : List Int} {n : Nat} (h : n ≤ 1000) (hl : l.length ≤ 1000) : M_impl_leading l n = some ((List.range n).all fun i => l[i]? == some (i : Int)) := by
  unfold M_impl_leading L_impl_leading_0
  have key := stop_loop (S := S_impl_leading_0) (fun i => (l, (n : Int), (i : Int), ())) n (fun i => l[i]? == some (i : Int)) (.inl (false, ())) (.inr ()) (fun i hi _ => by
    by_cases hil : i < l.length
    · have e0 : decide ((i : Int) ≥ (l.length : Int)) = false := decide_eq_false (by omega)
      have e1 : l[i]? = some l[i] := List.getElem?_eq_getElem hil
      simp only [S_impl_leading_0, dlt hi, cond_true, e0, cond_false, idx_at hil, Option.bind_some, e1, succ_wrap hi (show n ≤ 1048576 by omega)]
      by_cases h2 : l[i] = (i : Int)
      · have : (l[i] != (i : Int)) = false := by rw [h2]; simp
        rw [this, h2]; simp
      · have h3 : (l[i] != (i : Int)) = true := by simpa using h2
        have h4 : ((some l[i] : Option Int) == some (i : Int)) = false := by simpa using h2
        rw [h3, h4]; rfl
    · have e0 : decide ((i : Int) ≥ (l.length : Int)) = true := decide_eq_true (by omega)
      have e1 : l[i]? = none := List.getElem?_eq_none (by omega)
      simp only [S_impl_leading_0, dlt hi, cond_true, e0, e1]
      rfl) (fun _ => by simp [S_impl_leading_0])
  refine (congrArg (fun x => Option.bind x _) key).trans ?_
  cases (List.range n).all fun i => l[i]? == some (i : Int) <;> rfl
theorem impl_right {n : Nat} (hn : n ≤ 24) {g : Nat → Nat → Option Rat} (x : Int) (pv : List Int) (fs mc : List Rt) (y : Int) :
    M_impl_built__impl_inverted_c1 n n ⟨x, ((n + n : Nat) : Int), (grid n (n + n) g).map ro, pv, fs⟩ ⟨n, y, mc⟩ = some ⟨n, n, (grid n n fun i k => g i (n + k)).map ro⟩ := by
  unfold M_impl_built__impl_inverted_c1 L_impl_built__impl_inverted_c1_0
  simp only []
  rw [grid_loop (S := S_impl_built__impl_inverted_c1_0) (fun i out => ((n : Int), x, ((n + n : Nat) : Int), (grid n (n + n) g).map ro, pv, fs, (n : Int), y, mc, (n : Int), i, 0, 0, [], (n : Int), (n : Int), out, ())) (fun i k => ro (g i (n + k))) n n (r := fun out => (0, 0, [], (n : Int), (n : Int), out, ())) (fun i out hi ho => by
    unfold S_impl_built__impl_inverted_c1_0 L_impl_built__impl_inverted_c1_1
    simp only [dlt hi, cond_true]
    rw [app_from (S := S_impl_built__impl_inverted_c1_1) out (fun k out => ((n : Int), x, ((n + n : Nat) : Int), (grid n (n + n) g).map ro, pv, fs, (n : Int), y, mc, (i : Int), (n : Int), (i : Int), (n : Int), k, 0, 0, [], (n : Int), (n : Int), out, ())) (fun k => ro (g i (n + k))) n (r := fun out => ((n : Int), x, ((n + n : Nat) : Int), (grid n (n + n) g).map ro, pv, fs, (n : Int), y, mc, (n : Int), (i : Int), 0, 0, [], (n : Int), (n : Int), out, ())) (fun k xs hk hx => by
      have e1 : IntKind.i64.wrap ((n : Int) + (k : Int)) = ((n + k : Nat) : Int) := by rw [wrap_i64 (by omega) (by omega)]; omega
      have hc1 : M_impl_inverted_c1 (i : Int) (k : Int) ⟨x, ((n + n : Nat) : Int), (grid n (n + n) g).map ro, pv, fs⟩ ⟨n, y, mc⟩ = some (ro (g i (n + k))) := by
        unfold M_impl_inverted_c1
        simp only [e1, at_gridE (show n ≤ 1000 by omega) (show n + n ≤ 1000 by omega) hi (show n + k < n + n by omega), Option.bind_some]
      simp only [S_impl_built__impl_inverted_c1_1, dlt hk, cond_true, hc1, Option.bind_some, room_row hi hk hn hn ho hx, succ_wrap hk (show n ≤ 1048576 by omega)]) (fun out _ => by simp [S_impl_built__impl_inverted_c1_1])]
    simp only [Option.bind_some, succ_wrap hi (show n ≤ 1048576 by omega)]) (fun out _ => by simp [S_impl_built__impl_inverted_c1_0])]
  rw [grid_map]; rfl
theorem impl_inverse {n : Nat} (hn : n ≤ 12) {g : Nat → Nat → Option Rat} (hg : Good2 n n g) {f : ES} (e : elim n (n + n) (bes n g idO) (n + n) = some f) :
    M_impl_Inverse ⟨n, n, (grid n n g).map ro⟩ = some (cond ((List.range n).all fun i => f.pv[i]? == some (i : Int)) (⟨n, n, (grid n n fun i k => f.g i (n + k)).map ro⟩, true) (⟨0, 0, []⟩, false)) := by
  have hid : Good2 n n idO := fun i k _ _ => ⟨oks_idO i k, by unfold idO; split <;> rfl⟩
  have hb := bes_good hg hid
  have inv := elim_inv hb (Nat.le_refl _) e
  unfold M_impl_Inverse
  have hok : M_impl_MatrixOk ⟨n, n, (grid n n g).map ro⟩ = some true := by
    have h1 := prod24 (show n ≤ 24 by omega) (show n ≤ 24 by omega)
    obtain ⟨q, hq, e, hl⟩ := all_some (l := grid n n g) (allG_iff.2 fun i j hi hj => (hg i j hi hj).2) (fun o ho => by obtain ⟨i, j, hi, hj, rfl⟩ := grid_mem ho; exact (hg i j hi hj).1)
    rw [e, impl_mxOk (m := ⟨n, n, q.map rq⟩) (lfit_rq hq (by rw [hl, len_grid]; omega)), mx_ok (by omega) (by omega) (by rw [hl, len_grid]) hq]
  have hne : ((n : Int) != (n : Int)) = false := by simp
  have h12 : decide ((n : Int) > 12) = false := decide_eq_false (by omega)
  have hred : M_impl_reduce ⟨n, ((n + n : Nat) : Int), (grid n (n + n) (bes n g idO)).map ro⟩ = some (⟨n, ((n + n : Nat) : Int), (grid n (n + n) f.g).map ro, f.pv, f.fs.map ro⟩, true) := by
    rcases impl_reduce (show n ≤ 24 by omega) (show n + n ≤ 200 by omega) hb with ⟨f', e3, e4⟩ | ⟨e3, _⟩
    · rw [e] at e3; injection e3 with e3; subst e3; exact e4
    · rw [e] at e3; cases e3
  have hlead := lead_ok (l := f.pv) (n := n) (by omega) (by have := inv.used; omega)
  have hinv : M_impl_inverted ⟨n, n, (grid n n g).map ro⟩ = some (cond ((List.range n).all fun i => f.pv[i]? == some (i : Int)) (⟨n, n, (grid n n fun i k => f.g i (n + k)).map ro⟩, true, true) (⟨0, 0, []⟩, true, false)) := by
    unfold M_impl_inverted
    simp only [impl_unitMx (show n ≤ 24 by omega), Option.bind_some, impl_bes (show n ≤ 24 by omega) (show n ≤ 24 by omega) (show n ≤ 24 by omega) (n : Int) 0, hred, Bool.not_true, cond_false, hlead]
    cases (List.range n).all fun i => f.pv[i]? == some (i : Int) with
    | false => rfl
    | true => simp only [Bool.not_true, cond_false, cond_true, impl_right (show n ≤ 24 by omega), Option.bind_some]
  simp only [hok, Option.bind_some, Bool.not_true, cond_false, hne, h12, hinv]
  cases (List.range n).all fun i => f.pv[i]? == some (i : Int) <;> rfl
theorem impl_solve {n : Nat} (hn : n ≤ 12) {g : Nat → Nat → Option Rat} (hg : Good2 n n g) {w : List Rat} (hw : Fits w) (hwl : w.length = n) {f0 f : ES} (e0 : elim n n g n = some f0) (e : elim n (n + 1) (bes n g (gof w 1)) (n + 1) = some f) :
    M_impl_SolveSystem ⟨n, n, (grid n n g).map ro⟩ (w.map rq) = some (cond (f0.pv.length == n) (((List.range n).map fun i => f.g i n).map ro, true) ([], false)) := by
  have hgw : Good2 n 1 (gof w 1) := gof_good (by omega) hw
  have hb := bes_good hg hgw
  have hvw : w.map rq = (grid n 1 (gof w 1)).map ro := (gof_grid (by omega)).symm
  unfold M_impl_SolveSystem
  have h1 := prod24 (show n ≤ 24 by omega) (show n ≤ 24 by omega)
  have hok : M_impl_MatrixOk ⟨n, n, (grid n n g).map ro⟩ = some true := by
    obtain ⟨q, hq, e, hl⟩ := all_some (l := grid n n g) (allG_iff.2 fun i j hi hj => (hg i j hi hj).2) (fun o ho => by obtain ⟨i, j, hi, hj, rfl⟩ := grid_mem ho; exact (hg i j hi hj).1)
    rw [e, impl_mxOk (m := ⟨n, n, q.map rq⟩) (lfit_rq hq (by rw [hl, len_grid]; omega)), mx_ok (by omega) (by omega) (by rw [hl, len_grid]) hq]
  have hvok : M_impl_IsVector (w.map rq) = some true := by rw [impl_isVec (lfit_rq hw (by omega)), q_vec hw (by omega)]
  have hne : ((n : Int) != (n : Int)) = false := by simp
  have h12 : decide ((n : Int) > 12) = false := decide_eq_false (by omega)
  have hlen : (((w.map rq).length : Int) != (n : Int)) = false := by rw [List.length_map, hwl]; simp
  have hrank : M_impl_RankOf ⟨n, n, (grid n n g).map ro⟩ = some (f0.pv.length : Int) := by
    unfold M_impl_RankOf M_impl_Reduce
    rcases impl_reduce (show n ≤ 24 by omega) (show n ≤ 200 by omega) hg with ⟨f', e3, e4⟩ | ⟨e3, _⟩
    · rw [e0] at e3; injection e3 with e3; subst e3
      rw [hok, Option.bind_some, Bool.not_true, cond_false, e4]; rfl
    · rw [e0] at e3; cases e3
  have hred : M_impl_reduce ⟨n, ((n + 1 : Nat) : Int), (grid n (n + 1) (bes n g (gof w 1))).map ro⟩ = some (⟨n, ((n + 1 : Nat) : Int), (grid n (n + 1) f.g).map ro, f.pv, f.fs.map ro⟩, true) := by
    rcases impl_reduce (show n ≤ 24 by omega) (show n + 1 ≤ 200 by omega) hb with ⟨f', e3, e4⟩ | ⟨e3, _⟩
    · rw [e] at e3; injection e3 with e3; subst e3; exact e4
    · rw [e] at e3; cases e3
  have hbes := impl_bes (r := n) (c := n) (c' := 1) (g := g) (h := gof w 1) (show n ≤ 24 by omega) (show n ≤ 24 by omega) (by omega) (n : Int) 0
  rw [← hvw] at hbes
  have hbes' : M_impl_beside ⟨n, n, (grid n n g).map ro⟩ ⟨(n : Int), 1, w.map rq⟩ = some ⟨n, ((n + 1 : Nat) : Int), (grid n (n + 1) (bes n g (gof w 1))).map ro⟩ := hbes
  have hloop : L_impl_SolveSystem_0 n 0 n n ((grid n n g).map ro) n ((n + 1 : Nat) : Int) ((grid n (n + 1) f.g).map ro) f.pv (f.fs.map ro) [] = some (((List.range n).map fun i => f.g i n).map ro, ()) := by
    unfold L_impl_SolveSystem_0
    rw [app_loop (S := S_impl_SolveSystem_0) (fun i out => ((n : Int), i, (n : Int), (n : Int), (grid n n g).map ro, (n : Int), ((n + 1 : Nat) : Int), (grid n (n + 1) f.g).map ro, f.pv, f.fs.map ro, out, ())) (fun i => ro (f.g i n)) n (r := fun out => (out, ())) (fun i out hi ho => by
      simp only [S_impl_SolveSystem_0, dlt hi, cond_true, at_gridE (show n ≤ 1000 by omega) (show n + 1 ≤ 1000 by omega) hi (show n < n + 1 by omega), Option.bind_some, room1 (show out.length ≤ 2000000 by omega), succ_wrap hi (show n ≤ 1048576 by omega)]) (fun out _ => by simp [S_impl_SolveSystem_0])]
    rw [List.map_map]; rfl
  simp only [hok, hvok, Option.bind_some, Bool.not_true, cond_false, hne, h12, hlen, hrank]
  by_cases hL : f0.pv.length = n
  · have hb1 : (((f0.pv.length : Nat) : Int) != (n : Int)) = false := by rw [hL]; simp
    have hb2 : (f0.pv.length == n) = true := by rw [hL]; simp
    simp only [hb1, hb2, cond_false, cond_true, hbes', Option.bind_some, hred, Bool.not_true, hloop]
  · have hb1 : (((f0.pv.length : Nat) : Int) != (n : Int)) = true := by rw [bne_iff_ne]; omega
    have hb2 : (f0.pv.length == n) = false := by simpa using hL
    simp only [hb1, hb2, cond_false, cond_true]
end Go.Di
namespace Go.Di
end Go.Di
namespace Go.Di
theorem vec_same {a b : List Rat} (h : a = b) {k : Nat} (ha : Szs a k) (hk : k ≤ 200) (hl : a.length ≤ 1000) : M_impl_EqualVectors (a.map rq) (b.map rq) = some true := by
  subst h
  rw [impl_vecEq (lfit_rq (ha.fits hk) (by omega)), eqB_self]
theorem mx_same {a b : List Rat} {x y : Int} (h : a = b) {k : Nat} (ha : Szs a k) (hk : k ≤ 200) (hl : a.length ≤ 1000) : M_impl_EqualMatrices ⟨x, y, a.map rq⟩ ⟨x, y, b.map rq⟩ = some true := by
  subst h
  rw [impl_mxEq (lfit_rq (ha.fits hk) (by omega)), eqB_self]
end Go.Di
namespace Go.Di
theorem dot_split (f x : Nat → Rat) (n : Nat) : ∀ m, dot (n + m) f x = dot n f x + dot m (fun k => f (n + k)) (fun k => x (n + k))
  | 0 => by show dot n f x = dot n f x + 0; rw [Rat.add_zero]
  | m + 1 => by
    show dot (n + m) f x + f (n + m) * x (n + m) = dot n f x + (dot m _ _ + f (n + m) * x (n + m))
    rw [dot_split f x n m]; grind
section
variable {n m : Nat}
noncomputable def rcol (n : Nat) (g : Nat → Nat → Option Rat) (j : Nat) : Nat → Rat := fun k => if k < n then rv (g k (n + j)) else if k = n + j then -1 else 0
theorem ann_right {g : Nat → Nat → Option Rat} (hu : ∀ i k, i < n → k < n → g i k = if i = k then some 1 else some 0) {j : Nat} (hj : j < m) : Ann n (n + m) g (rcol n g j) := fun i hi => by
  have h1 : rcol n g j i = rv (g i (n + j)) := by unfold rcol; rw [if_pos hi]
  have h2 : rcol n g j (n + j) = -1 := by unfold rcol; rw [if_neg (by omega), if_pos rfl]
  rw [dot_two (i := i) (k := n + j) (by omega) (by omega) (fun k hk h3 h4 => ?_)]
  · rw [h1, h2, hu i i hi hi, if_pos rfl]
    show 1 * rv (g i (n + j)) + rv (g i (n + j)) * -1 = 0
    grind
  · by_cases hkn : k < n
    · rw [hu i k hi hkn, if_neg (fun e => h3 e.symm)]; exact Rat.zero_mul _
    · have : rcol n g j k = 0 := by unfold rcol; rw [if_neg hkn, if_neg h4]
      rw [this]; exact Rat.mul_zero _
theorem right_sol {g h : Nat → Nat → Option Rat} (hb : Good2 n (n + m) (bes n g h)) {f : ES} (e : elim n (n + m) (bes n g h) (n + m) = some f) (hu : ∀ i k, i < n → k < n → f.g i k = if i = k then some 1 else some 0) {i j : Nat} (hi : i < n) (hj : j < m) :
    dot n (fun k => rv (g i k)) (fun k => rv (f.g k (n + j))) = rv (h i j) := by
  have ha := ann_elim hb (Nat.le_refl _) e (ann_right hu hj) i hi
  rw [dot_split] at ha
  have h1 : dot n (fun k => rv (bes n g h i k)) (rcol n f.g j) = dot n (fun k => rv (g i k)) (fun k => rv (f.g k (n + j))) := dot_congr (fun k hk => by unfold bes; rw [if_pos hk]) (fun k hk => by unfold rcol; rw [if_pos hk])
  have h2 : dot m (fun k => rv (bes n g h i (n + k))) (fun k => rcol n f.g j (n + k)) = rv (h i j) * -1 := by
    rw [dot_one hj (fun k hk hne => ?_)]
    · have e1 : bes n g h i (n + j) = h i j := by unfold bes; rw [if_neg (by omega), show n + j - n = j by omega]
      have e2 : rcol n f.g j (n + j) = -1 := by unfold rcol; rw [if_neg (by omega), if_pos rfl]
      rw [e1, e2]
    · have : rcol n f.g j (n + k) = 0 := by unfold rcol; rw [if_neg (by omega), if_neg (by omega)]
      rw [this]; exact Rat.mul_zero _
  rw [h1, h2] at ha
  grind
end
theorem full_piv {n : Nat} {f : ES} (hR : RInv n n n f) (hL : f.pv.length = n) : ∀ t, t < n → piv f t = t := by
  have up : ∀ t, t < n → t ≤ piv f t := by
    intro t
    induction t with
    | zero => intro _; omega
    | succ t ih => intro h; have := hR.asc t (t + 1) (by omega) (by omega); have := ih (by omega); omega
  have down : ∀ s t, t + s + 1 = n → piv f t ≤ t := by
    intro s
    induction s with
    | zero => intro t h; have := hR.lt t (by omega); omega
    | succ s ih => intro t h; have := hR.asc t (t + 1) (by omega) (by omega); have := ih (t + 1) (by omega); omega
  intro t ht
  have h1 := up t ht
  have h2 := down (n - t - 1) t (by omega)
  omega
theorem aug_cases {n m : Nat} (hm : 0 < m) {g h : Nat → Nat → Option Rat} (hg : Good2 n n g) (hh : Good2 n m h) {f F : ES} (e : elim n n g n = some f) (eF : elim n (n + m) (bes n g h) (n + m) = some F) :
    (f.pv.length = n ∧ (∀ t, t < n → F.pv[t]? = some (t : Int)) ∧ ∀ i k, i < n → k < n → F.g i k = if i = k then some 1 else some 0) ∨
    (f.pv.length < n ∧ F.pv[f.pv.length]? ≠ some ((f.pv.length : Nat) : Int)) := by
  have hb := bes_good hg hh
  have hmid : ∃ s, elim n (n + m) (bes n g h) n = some s := by
    cases hs : elim n (n + m) (bes n g h) n with
    | some s => exact ⟨s, rfl⟩
    | none => have := elim_none hs m; rw [eF] at this; cases this
  obtain ⟨s, es⟩ := hmid
  obtain ⟨a1, a2⟩ := elim_agree (n := n) hg hb (Nat.le_refl n) (Nat.le_add_right n m) (fun i j hi hj => by unfold bes; rw [if_pos hj]) n (Nat.le_refl n) f s e es
  have hR := elim_rinv hg (Nat.le_refl n) e
  have inv := elim_inv hg (Nat.le_refl n) e
  by_cases hL : f.pv.length = n
  · left
    have hp := full_piv hR hL
    have hstay := elim_stay es (by rw [← a1, hL]; omega) m
    rw [eF] at hstay
    injection hstay with hstay
    refine ⟨hL, fun t ht => ?_, fun i k hi hk => ?_⟩
    · rw [hstay, ← a1, hR.val t (by omega), hp t ht]
    · rw [hstay, ← a2 i k hi hk]
      have := hR.unit k i (by omega) hi
      rw [hp k hk] at this
      exact this
  · right
    have hl := inv.used
    refine ⟨by omega, fun e2 => ?_⟩
    obtain ⟨l, h1, h2⟩ := elim_ext hb es m F (Nat.le_refl _) eF
    rw [h1, ← a1, List.getElem?_append_right (Nat.le_refl _)] at e2
    have := h2 _ (List.mem_of_getElem? e2)
    omega
theorem impl_det {n : Nat} (hn : n ≤ 24) {g : Nat → Nat → Option Rat} (hg : Good2 n n g) {f : ES} (e : elim n n g n = some f) :
    M_impl_Determinant ⟨n, n, (grid n n g).map ro⟩ = cond (decide (f.pv.length < n)) (some (ro (some 0), true)) (some (ro (prodO f.fs f.fs.length), (prodO f.fs f.fs.length).isSome)) := by
  have inv := elim_inv hg (Nat.le_refl n) e
  have h1 := prod24 hn hn
  have hok : M_impl_MatrixOk ⟨n, n, (grid n n g).map ro⟩ = some true := by
    obtain ⟨q, hq, e, hl⟩ := all_some (l := grid n n g) (allG_iff.2 fun i j hi hj => (hg i j hi hj).2) (fun o ho => by obtain ⟨i, j, hi, hj, rfl⟩ := grid_mem ho; exact (hg i j hi hj).1)
    rw [e, impl_mxOk (m := ⟨n, n, q.map rq⟩) (lfit_rq hq (by rw [hl, len_grid]; omega)), mx_ok hn hn (by rw [hl, len_grid]) hq]
  have hred : M_impl_reduce ⟨n, n, (grid n n g).map ro⟩ = some (⟨n, n, (grid n n f.g).map ro, f.pv, f.fs.map ro⟩, true) := by
    rcases impl_reduce hn (show n ≤ 200 by omega) hg with ⟨f', e3, e4⟩ | ⟨e3, _⟩
    · rw [e] at e3; injection e3 with e3; subst e3; exact e4
    · rw [e] at e3; cases e3
  have hne : ((n : Int) != (n : Int)) = false := by simp
  have hdec : decide ((f.pv.length : Int) < (n : Int)) = decide (f.pv.length < n) := by rw [Bool.eq_iff_iff]; simp
  have hl := inv.fslen
  unfold M_impl_Determinant
  simp only [hok, Option.bind_some, Bool.not_true, cond_false, hne, hred, hdec]
  cases decide (f.pv.length < n) with
  | true => rw [whole_zero]; rfl
  | false =>
    rw [whole_one]
    simp only [cond_false, Option.bind_some, impl_prod inv.fsok (show f.fs.length ≤ 1048576 by omega)]
    show ((M_impl_given_c (ro (prodO f.fs f.fs.length))).bind _) = _
    rw [impl_given]; rfl
theorem sign_q {y : Rat} (h : Fit y) : ∃ s : Int, M_impl_RatSign (rq y) = some s ∧ (s != 0) = decide (y ≠ 0) := by
  refine ⟨_, by unfold M_impl_RatSign; rw [show rq y = ro (some y) from rfl, impl_okO h.ok, Option.bind_some]; simp only [Option.isSome_some, Bool.not_true, cond_false]; rw [show ro (some y) = rq y from rfl, impl_signq, Option.bind_some], ?_⟩
  by_cases h0 : y = 0
  · subst h0; rfl
  · have h1 : y.num ≠ 0 := fun e => h0 (Rat.num_eq_zero.1 e)
    rw [decide_eq_true h0]
    by_cases h2 : y.num < 0
    · rw [decide_eq_true h2]; rfl
    · rw [decide_eq_false h2, decide_eq_true h1]; rfl
/-! ### Three rows -/
section
variable {a b c d e f g h i : Rat}
def det3 (a b c d e f g h i : Rat) : Rat := a * (e * i - f * h) - b * (d * i - f * g) + c * (d * h - e * g)
theorem cram0 {x y z u v w : Rat} (h1 : a * x + b * y + c * z = u) (h2 : d * x + e * y + f * z = v) (h3 : g * x + h * y + i * z = w) :
    det3 a b c d e f g h i * x = (e * i - f * h) * u + (c * h - b * i) * v + (b * f - c * e) * w := by
  rw [← h1, ← h2, ← h3]; unfold det3; grind
theorem cram1 {x y z u v w : Rat} (h1 : a * x + b * y + c * z = u) (h2 : d * x + e * y + f * z = v) (h3 : g * x + h * y + i * z = w) :
    det3 a b c d e f g h i * y = (f * g - d * i) * u + (a * i - c * g) * v + (c * d - a * f) * w := by
  rw [← h1, ← h2, ← h3]; unfold det3; grind
theorem cram2 {x y z u v w : Rat} (h1 : a * x + b * y + c * z = u) (h2 : d * x + e * y + f * z = v) (h3 : g * x + h * y + i * z = w) :
    det3 a b c d e f g h i * z = (d * h - e * g) * u + (b * g - a * h) * v + (a * e - b * d) * w := by
  rw [← h1, ← h2, ← h3]; unfold det3; grind
theorem det_ne {x y z p q r : Rat} (h1 : a * x + b * y + c * z = 1) (h2 : d * x + e * y + f * z = 0) (h3 : g * x + h * y + i * z = 0)
    (k1 : a * p + b * q + c * r = 0) (k2 : d * p + e * q + f * r = 1) (k3 : g * p + h * q + i * r = 0) {s t w : Rat} (l1 : a * s + b * t + c * w = 0) (l2 : d * s + e * t + f * w = 0) (l3 : g * s + h * t + i * w = 1) : det3 a b c d e f g h i ≠ 0 := by
  intro h0
  have A := cram2 l1 l2 l3
  have B := cram1 l1 l2 l3
  have C := cram0 l1 l2 l3
  rw [h0, Rat.zero_mul] at A B C
  have e1 : a * e - b * d = 0 := by rw [Rat.mul_zero, Rat.mul_zero, Rat.mul_one, Rat.zero_add, Rat.zero_add] at A; exact A.symm
  have e2 : c * d - a * f = 0 := by rw [Rat.mul_zero, Rat.mul_zero, Rat.mul_one, Rat.zero_add, Rat.zero_add] at B; exact B.symm
  have e3 : b * f - c * e = 0 := by rw [Rat.mul_zero, Rat.mul_zero, Rat.mul_one, Rat.zero_add, Rat.zero_add] at C; exact C.symm
  have key : (a * x + b * y + c * z) * (d * p + e * q + f * r) - (a * p + b * q + c * r) * (d * x + e * y + f * z) = (a * e - b * d) * (x * q - y * p) - (c * d - a * f) * (x * r - z * p) + (b * f - c * e) * (y * r - z * q) := by grind
  rw [h1, h2, k1, k2, e1, e2, e3] at key
  revert key
  rw [Rat.zero_mul, Rat.zero_mul, Rat.zero_mul, Rat.zero_mul]
  intro key
  exact absurd key (by decide +kernel)
theorem cancel_det {D x y : Rat} (hD : D ≠ 0) (h : D * x = D * y) : x = y := by
  have : D⁻¹ * (D * x) = D⁻¹ * (D * y) := by rw [h]
  rw [← Rat.mul_assoc, ← Rat.mul_assoc, Rat.inv_mul_cancel D hD, Rat.one_mul, Rat.one_mul] at this
  exact this
theorem quot_of {D x y : Rat} (hD : D ≠ 0) (h : D * x = y) : x = y / D := cancel_det hD (by
  rw [h, Rat.div_def, Rat.mul_comm y, ← Rat.mul_assoc, Rat.mul_inv_cancel D hD, Rat.one_mul])
theorem bd_minor {a b c d : Rat} (ha : Bd a 20 6) (hb : Bd b 20 6) (hc : Bd c 20 6) (hd : Bd d 20 6) : Bd (a * b - c * d) 28800 1296 := (bd_sub (bd_mul ha hb) (bd_mul hc hd)).mono (by decide) (by decide)
theorem bd_det (ha : Bd a 20 6) (hb : Bd b 20 6) (hc : Bd c 20 6) (hd : Bd d 20 6) (he : Bd e 20 6) (hf : Bd f 20 6) (hg : Bd g 20 6) (hh : Bd h 20 6) (hi : Bd i 20 6) : Bd (det3 a b c d e f g h i) (10 ^ 16) (10 ^ 12) :=
  (bd_add (bd_sub (bd_mul ha (bd_minor he hi hf hh)) (bd_mul hb (bd_minor hd hi hf hg))) (bd_mul hc (bd_minor hd hh he hg))).mono (by decide) (by decide)
theorem bd_quot {p q r u v w D : Rat} (hp : Bd p 28800 1296) (hq : Bd q 28800 1296) (hr : Bd r 28800 1296) (hu : Bd u 20 6) (hv : Bd v 20 6) (hw : Bd w 20 6) (hD : Bd D (10 ^ 16) (10 ^ 12)) (h0 : D ≠ 0) {x : Rat} (h : D * x = p * u + q * v + r * w) : Sz x 30 := by
  rw [quot_of h0 h]
  exact (bd_div (bd_add (bd_add (bd_mul hp hu) (bd_mul hq hv)) (bd_mul hr hw)) hD h0).mono (by decide) (by decide)
end
theorem bb3 {t : Nat} (h : t ≤ 3) : bb t ≤ 149 := by
  rcases (by omega : t = 0 ∨ t = 1 ∨ t = 2 ∨ t = 3) with e | e | e | e <;> rw [e] <;> decide
theorem pp3 {t : Nat} (h : t ≤ 3) : pp t ≤ 48 := by
  rcases (by omega : t = 0 ∨ t = 1 ∨ t = 2 ∨ t = 3) with e | e | e | e <;> rw [e] <;> decide
theorem szg_id {n : Nat} : SzG n n idO 2 := fun i k _ _ => by
  unfold idO
  split
  · exact ⟨1, rfl, sz_one.mono (by omega)⟩
  · exact ⟨0, rfl, sz_zero.mono (by omega)⟩
theorem grid_q {r c K : Nat} {g : Nat → Nat → Option Rat} (h : SzG r c g K) : (grid r c g).map ro = (grid r c fun i k => rv (g i k)).map rq := by
  rw [grid_map, grid_map]
  exact grid_congr fun i k hi hk => by obtain ⟨x, e, _⟩ := h i k hi hk; rw [e]; rfl
theorem id2 : M_impl_IdentityMatrix 2 = some ⟨2, 2, ([1, 0, 0, 1] : List Rat).map rq⟩ := by
  have h : inB ((2 : Nat) : Int) 0 24 = true := rfl
  unfold M_impl_IdentityMatrix
  have := impl_idMx (n := 2) (by omega)
  rw [show (2 : Int) = ((2 : Nat) : Int) from rfl, impl_len, h, Option.bind_some]
  simp only [Bool.not_true, cond_false]
  rw [this]
  rfl
theorem id3 : M_impl_IdentityMatrix 3 = some ⟨3, 3, ([1, 0, 0, 0, 1, 0, 0, 0, 1] : List Rat).map rq⟩ := by
  have h : inB ((3 : Nat) : Int) 0 24 = true := rfl
  unfold M_impl_IdentityMatrix
  have := impl_idMx (n := 3) (by omega)
  rw [show (3 : Int) = ((3 : Nat) : Int) from rfl, impl_len, h, Option.bind_some]
  simp only [Bool.not_true, cond_false]
  rw [this]
  rfl
theorem of2 : M_impl_MatrixOf 2 2 [1, 0, 0, 1] = some ⟨2, 2, ([1, 0, 0, 1] : List Rat).map rq⟩ := by
  have h : inB 2 0 24 = true := rfl
  unfold M_impl_MatrixOf L_impl_MatrixOf_0
  rw [impl_len, h]
  simp only [Option.bind_some, Bool.not_true, cond_false]
  have h3 : ((([1, 0, 0, 1] : List Int).length : Int) != IntKind.i64.wrap (2 * 2)) = false := rfl
  rw [h3, cond_false]
  rw [app_loop (S := S_impl_MatrixOf_0) (fun i out => (([1, 0, 0, 1] : List Int), ((([1, 0, 0, 1] : List Int).length : Nat) : Int), i, 0, 0, [], 2, 2, out, ())) (fun i => ro (some (((([1, 0, 0, 1] : List Int)[i]?).getD 0 : Int) : Rat))) 4 (r := fun out => (0, 0, [], 2, 2, out, ())) (fun i out hi ho => by
    have hi' : i < ([1, 0, 0, 1] : List Int).length := hi
    have hg : ([1, 0, 0, 1] : List Int)[i]? = some ([1, 0, 0, 1] : List Int)[i] := List.getElem?_eq_getElem hi'
    have hb : -9223372036854775808 ≤ ([1, 0, 0, 1] : List Int)[i] ∧ ([1, 0, 0, 1] : List Int)[i] ≤ 9223372036854775807 := by
      rcases (by omega : i = 0 ∨ i = 1 ∨ i = 2 ∨ i = 3) with e | e | e | e <;> subst e <;> simp
    simp only [S_impl_MatrixOf_0, dlt hi', cond_true, idx_at hi', Option.bind_some, impl_whole hb.1 hb.2, room1 (show out.length ≤ 2000000 by omega), succ_wrap hi (show 4 ≤ 1048576 by omega), hg, Option.getD_some]) (fun out _ => rfl)]
  rfl
theorem eq3 {a b c x y z u : Rat} (h : 0 + a * x + b * y + c * z = u) : a * x + b * y + c * z = u := by rw [Rat.zero_add] at h; exact h
theorem bd_id (i j : Nat) : Bd (rv (idO i j)) 20 6 := by
  unfold idO
  split
  · have := (bd_int 1).mono (m := 20) (e := 6) (by decide) (by decide); show Bd 1 20 6; simpa using this
  · have := (bd_int 0).mono (m := 20) (e := 6) (by decide) (by decide); show Bd 0 20 6; simpa using this
theorem innR_dot' (a b : List Rat) : ∀ n, innR a b n = dot n (fun j => (a[j]?).getD 0) (fun j => (b[j]?).getD 0)
  | 0 => rfl
  | n + 1 => by show innR a b n + _ = dot n _ _ + _; rw [innR_dot' a b n]
theorem law_FnInverse (code : List Int) (_ : CK.wf (.sl .byte) code) : M_laws_FnInverse code = some true := by
  unfold M_laws_FnInverse
  cases hcl : decide ((code.length : Int) > 1048576) with
  | true => rfl
  | false =>
    have hl : code.length ≤ 1048576 := by have := of_decide_eq_false hcl; omega
    obtain ⟨q, e1, lq, sq⟩ := make_mx hl (n := 1) (by omega) (r := 3) (c := 3) (by omega) (by omega)
    obtain ⟨w, e2, lw, sw⟩ := make_vec hl (n := 40) (by omega) (k := 3) (by omega)
    have zq : Szs q 2 := sq.sz
    have zw : Szs w 2 := sw.sz
    have fq : Fits q := zq.fits (by omega)
    have fw : Fits w := zw.fits (by omega)
    have hg := gof_good (q := q) (r := 3) (c := 3) lq fq
    have hgw := gof_good (q := w) (r := 3) (c := 1) lw fw
    have hid : Good2 3 3 idO := fun i k _ _ => ⟨oks_idO i k, by unfold idO; split <;> rfl⟩
    have sg := szg_gof (r := 3) (c := 3) lq zq
    obtain ⟨f, ef, hL, _, hP⟩ := elim_sz (r := 3) (c := 3) (by omega) hg sg 3 (Nat.le_refl 3)
    obtain ⟨F, eF, hLF, hSF, _⟩ := elim_sz (r := 3) (c := 6) (by omega) (bes_good hg hid) (bes_sz sg szg_id) 6 (Nat.le_refl 6)
    obtain ⟨H, eH, hLH, hSH, _⟩ := elim_sz (r := 3) (c := 4) (by omega) (bes_good hg hgw) (bes_sz sg (szg_gof (r := 3) (c := 1) lw zw)) 4 (Nat.le_refl 4)
    have ge := gof_grid (q := q) (r := 3) (c := 3) lq
    have inv := impl_inverse (n := 3) (by omega) hg eF
    have slv := impl_solve (n := 3) (by omega) hg fw lw ef eH
    have det := impl_det (n := 3) (by omega) hg ef
    have rnk : M_impl_RankOf ⟨((3 : Nat) : Int), ((3 : Nat) : Int), q.map rq⟩ = some (f.pv.length : Int) := by
      unfold M_impl_RankOf M_impl_Reduce
      rw [impl_mxOk (m := ⟨((3 : Nat) : Int), ((3 : Nat) : Int), q.map rq⟩) (lfit_rq fq (by omega)), mx_ok (by omega) (by omega) lq fq, ← ge]
      rcases impl_reduce (r := 3) (c := 3) (by omega) (by omega) hg with ⟨f', e3, e4⟩ | ⟨e3, _⟩
      · rw [ef] at e3; injection e3 with e3; subst e3
        rw [Option.bind_some, Bool.not_true, cond_false, e4]; rfl
      · rw [ef] at e3; cases e3
    rw [ge] at inv slv det
    obtain ⟨y, ey, y0, sy⟩ := hP
    have c1 := aug_cases (n := 3) (m := 3) (by omega) hg hid ef eF
    have c2 := aug_cases (n := 3) (m := 1) (by omega) hg hgw ef eH
    have e1' : M_spec_MakeMatrix code 1 3 3 = some ⟨3, 3, q.map rq⟩ := e1
    have e2' : M_spec_MakeVector code 40 3 = some (w.map rq) := e2
    have rnk' : M_impl_RankOf ⟨3, 3, q.map rq⟩ = some (f.pv.length : Int) := rnk
    rcases c1 with ⟨hl3, hpvF, huF⟩ | ⟨hlt, hneF⟩
    · -- full rank
      rcases c2 with ⟨_, _, huH⟩ | ⟨hlt, _⟩
      · have hall : ((List.range 3).all fun i => F.pv[i]? == some (i : Int)) = true := by
          rw [List.all_eq_true]
          intro i hi
          have := hpvF i (List.mem_range.1 hi)
          rw [this]; exact beq_self_eq_true _
        have hbq : (f.pv.length == 3) = true := by rw [hl3]; rfl
        have hdl : decide (f.pv.length < 3) = false := by rw [hl3]; rfl
        rw [hall, cond_true] at inv
        rw [hbq, cond_true] at slv
        rw [hdl, cond_false, ey] at det
        -- the numbers
        have hQ : SzG 3 3 (fun i k => F.g i (3 + k)) 149 := fun i k hi hk => (hSF.mono (bb3 hLF)) i (3 + k) hi (by omega)
        have hX : ∀ i, i < 3 → ∃ x, H.g i 3 = some x ∧ Sz x 149 := fun i hi => (hSH.mono (bb3 hLH)) i 3 hi (by omega)
        rw [grid_q hQ] at inv
        have hXl : ((List.range 3).map fun i => H.g i 3).map ro = ((List.range 3).map fun i => rv (H.g i 3)).map rq := by
          rw [List.map_map, List.map_map]
          apply List.map_congr_left
          intro i hi
          obtain ⟨x, e, _⟩ := hX i (List.mem_range.1 hi)
          show ro (H.g i 3) = rq (rv (H.g i 3))
          rw [e]; rfl
        rw [hXl] at slv
        have sF := fun i j (hi : i < 3) (hj : j < 3) => right_sol (n := 3) (m := 3) (bes_good hg hid) eF huF hi hj
        have sH := fun i (hi : i < 3) => right_sol (n := 3) (m := 1) (j := 0) (bes_good hg hgw) eH huH hi (by omega)
        match q, lq with
        | [a, b, c, d, e, g, h, k, l], _ =>
        match w, lw with
        | [u, v, z], _ =>
          have ba : Bd a 20 6 := sq a (by simp)
          have bb : Bd b 20 6 := sq b (by simp)
          have bc : Bd c 20 6 := sq c (by simp)
          have bd : Bd d 20 6 := sq d (by simp)
          have be : Bd e 20 6 := sq e (by simp)
          have bg : Bd g 20 6 := sq g (by simp)
          have bh : Bd h 20 6 := sq h (by simp)
          have bk : Bd k 20 6 := sq k (by simp)
          have bl : Bd l 20 6 := sq l (by simp)
          have bu : Bd u 20 6 := sw u (by simp)
          have bv : Bd v 20 6 := sw v (by simp)
          have bz : Bd z 20 6 := sw z (by simp)
          have E0 : ∀ j, j < 3 → a * rv (F.g 0 (3 + j)) + b * rv (F.g 1 (3 + j)) + c * rv (F.g 2 (3 + j)) = rv (idO 0 j) := fun j hj => eq3 (sF 0 j (by omega) hj)
          have E1 : ∀ j, j < 3 → d * rv (F.g 0 (3 + j)) + e * rv (F.g 1 (3 + j)) + g * rv (F.g 2 (3 + j)) = rv (idO 1 j) := fun j hj => eq3 (sF 1 j (by omega) hj)
          have E2 : ∀ j, j < 3 → h * rv (F.g 0 (3 + j)) + k * rv (F.g 1 (3 + j)) + l * rv (F.g 2 (3 + j)) = rv (idO 2 j) := fun j hj => eq3 (sF 2 j (by omega) hj)
          have G0 : a * rv (H.g 0 3) + b * rv (H.g 1 3) + c * rv (H.g 2 3) = u := eq3 (sH 0 (by omega))
          have G1 : d * rv (H.g 0 3) + e * rv (H.g 1 3) + g * rv (H.g 2 3) = v := eq3 (sH 1 (by omega))
          have G2 : h * rv (H.g 0 3) + k * rv (H.g 1 3) + l * rv (H.g 2 3) = z := eq3 (sH 2 (by omega))
          have hD : det3 a b c d e g h k l ≠ 0 := det_ne (E0 0 (by omega)) (E1 0 (by omega)) (E2 0 (by omega)) (E0 1 (by omega)) (E1 1 (by omega)) (E2 1 (by omega)) (E0 2 (by omega)) (E1 2 (by omega)) (E2 2 (by omega))
          have bD := bd_det ba bb bc bd be bg bh bk bl
          have m00 := bd_minor be bl bg bk
          have m01 := bd_minor bc bk bb bl
          have m02 := bd_minor bb bg bc be
          have m10 := bd_minor bg bh bd bl
          have m11 := bd_minor ba bl bc bh
          have m12 := bd_minor bc bd ba bg
          have m20 := bd_minor bd bk be bh
          have m21 := bd_minor bb bh ba bk
          have m22 := bd_minor ba be bb bd
          have sQ : ∀ i j, i < 3 → j < 3 → Sz (rv (F.g i (3 + j))) 30 := fun i j hi hj => by
            rcases (by omega : i = 0 ∨ i = 1 ∨ i = 2) with e | e | e
            · subst e; exact bd_quot m00 m01 m02 (bd_id 0 j) (bd_id 1 j) (bd_id 2 j) bD hD (cram0 (E0 j hj) (E1 j hj) (E2 j hj))
            · subst e; exact bd_quot m10 m11 m12 (bd_id 0 j) (bd_id 1 j) (bd_id 2 j) bD hD (cram1 (E0 j hj) (E1 j hj) (E2 j hj))
            · subst e; exact bd_quot m20 m21 m22 (bd_id 0 j) (bd_id 1 j) (bd_id 2 j) bD hD (cram2 (E0 j hj) (E1 j hj) (E2 j hj))
          have sX : ∀ i, i < 3 → Sz (rv (H.g i 3)) 30 := fun i hi => by
            rcases (by omega : i = 0 ∨ i = 1 ∨ i = 2) with e | e | e
            · subst e; exact bd_quot m00 m01 m02 bu bv bz bD hD (cram0 G0 G1 G2)
            · subst e; exact bd_quot m10 m11 m12 bu bv bz bD hD (cram1 G0 G1 G2)
            · subst e; exact bd_quot m20 m21 m22 bu bv bz bD hD (cram2 G0 G1 G2)
          have hQl : (grid 3 3 fun i k => rv (F.g i (3 + k))).length = 9 := len_grid ..
          have hQs : Szs (grid 3 3 fun i k => rv (F.g i (3 + k))) 30 := fun x hx => by
            obtain ⟨i, j, hi, hj, rfl⟩ := grid_mem hx; exact sQ i j hi hj
          have hXl : ((List.range 3).map fun i => rv (H.g i 3)).length = 3 := by simp
          have hXs : Szs ((List.range 3).map fun i => rv (H.g i 3)) 30 := fun x hx => by
            obtain ⟨i, hi, rfl⟩ := List.mem_map.1 hx; exact sX i (List.mem_range.1 hi)
          -- the products
          have p1 := mul_small (r := 3) (c := 3) (n := 3) (p := [a, b, c, d, e, g, h, k, l]) (by omega) (by omega) (by omega) rfl hQl zq hQs (by omega) (by omega) (by omega)
          have p2 := (apply_small (r := 3) (c := 3) (q := [a, b, c, d, e, g, h, k, l]) (by omega) (by omega) rfl hXl zq hXs (by omega) (by omega) (by omega)).1
          have p3 := (apply_small (r := 3) (c := 3) (v := [u, v, z]) (by omega) (by omega) hQl rfl hQs zw (by omega) (by omega) (by omega)).1
          have q1 : mulR [a, b, c, d, e, g, h, k, l] (grid 3 3 fun i k => rv (F.g i (3 + k))) 3 3 3 = [1, 0, 0, 0, 1, 0, 0, 0, 1] := by
            show grid 3 3 _ = grid 3 3 fun i j => rv (idO i j)
            refine grid_congr fun i j hi hj => ?_
            show innR _ _ 3 = _
            rw [innR_dot']
            refine (dot_congr (fun s hs => ?_) fun s hs => ?_).trans (sF i j hi hj)
            · rw [rowq_get hs]; rfl
            · rw [rowq_get hs]
              unfold trans
              rw [grid_get _ hj hs, grid_get _ hs hj]; rfl
          have q2 : appR [a, b, c, d, e, g, h, k, l] 3 3 ((List.range 3).map fun i => rv (H.g i 3)) = [u, v, z] := by
            have : ∀ i, i < 3 → innR (rowq [a, b, c, d, e, g, h, k, l] 3 i) ((List.range 3).map fun i => rv (H.g i 3)) 3 = rv (gof [u, v, z] 1 i 0) := fun i hi => by
              rw [innR_dot']
              refine (dot_congr (fun s hs => ?_) fun s hs => ?_).trans (sH i hi)
              · rw [rowq_get hs]; rfl
              · simp [hs]
            show [innR _ _ 3, innR _ _ 3, innR _ _ 3] = _
            rw [this 0 (by omega), this 1 (by omega), this 2 (by omega)]; rfl
          have q3 : appR (grid 3 3 fun i k => rv (F.g i (3 + k))) 3 3 [u, v, z] = (List.range 3).map fun i => rv (H.g i 3) := by
            have row : ∀ i, i < 3 → innR (rowq (grid 3 3 fun i k => rv (F.g i (3 + k))) 3 i) [u, v, z] 3 = rv (F.g i 3) * u + rv (F.g i 4) * v + rv (F.g i 5) * z := fun i hi => by
              rw [innR_dot']
              refine (dot_congr (h := fun j => rv (F.g i (3 + j))) (y := fun j => (([u, v, z] : List Rat)[j]?).getD 0) (fun s hs => ?_) fun _ _ => rfl).trans ?_
              · rw [rowq_get hs, grid_get _ hi hs]; rfl
              · show 0 + rv (F.g i 3) * u + rv (F.g i 4) * v + rv (F.g i 5) * z = _
                rw [Rat.zero_add]
            have fin : ∀ i, i < 3 → rv (F.g i 3) * u + rv (F.g i 4) * v + rv (F.g i 5) * z = rv (H.g i 3) := fun i hi => by
              apply cancel_det hD
              have dist : ∀ D x y t : Rat, D * (x * u + y * v + t * z) = (D * x) * u + (D * y) * v + (D * t) * z := fun D x y t => by grind
              rw [dist]
              rcases (by omega : i = 0 ∨ i = 1 ∨ i = 2) with e | e | e
              · subst e
                have c0 : det3 a b c d e g h k l * rv (F.g 0 3) = (e * l - g * k) * 1 + (c * k - b * l) * 0 + (b * g - c * e) * 0 := cram0 (E0 0 (by omega)) (E1 0 (by omega)) (E2 0 (by omega))
                have c1 : det3 a b c d e g h k l * rv (F.g 0 4) = (e * l - g * k) * 0 + (c * k - b * l) * 1 + (b * g - c * e) * 0 := cram0 (E0 1 (by omega)) (E1 1 (by omega)) (E2 1 (by omega))
                have c2 : det3 a b c d e g h k l * rv (F.g 0 5) = (e * l - g * k) * 0 + (c * k - b * l) * 0 + (b * g - c * e) * 1 := cram0 (E0 2 (by omega)) (E1 2 (by omega)) (E2 2 (by omega))
                rw [c0, c1, c2, cram0 G0 G1 G2]; grind
              · subst e
                have c0 : det3 a b c d e g h k l * rv (F.g 1 3) = (g * h - d * l) * 1 + (a * l - c * h) * 0 + (c * d - a * g) * 0 := cram1 (E0 0 (by omega)) (E1 0 (by omega)) (E2 0 (by omega))
                have c1 : det3 a b c d e g h k l * rv (F.g 1 4) = (g * h - d * l) * 0 + (a * l - c * h) * 1 + (c * d - a * g) * 0 := cram1 (E0 1 (by omega)) (E1 1 (by omega)) (E2 1 (by omega))
                have c2 : det3 a b c d e g h k l * rv (F.g 1 5) = (g * h - d * l) * 0 + (a * l - c * h) * 0 + (c * d - a * g) * 1 := cram1 (E0 2 (by omega)) (E1 2 (by omega)) (E2 2 (by omega))
                rw [c0, c1, c2, cram1 G0 G1 G2]; grind
              · subst e
                have c0 : det3 a b c d e g h k l * rv (F.g 2 3) = (d * k - e * h) * 1 + (b * h - a * k) * 0 + (a * e - b * d) * 0 := cram2 (E0 0 (by omega)) (E1 0 (by omega)) (E2 0 (by omega))
                have c1 : det3 a b c d e g h k l * rv (F.g 2 4) = (d * k - e * h) * 0 + (b * h - a * k) * 1 + (a * e - b * d) * 0 := cram2 (E0 1 (by omega)) (E1 1 (by omega)) (E2 1 (by omega))
                have c2 : det3 a b c d e g h k l * rv (F.g 2 5) = (d * k - e * h) * 0 + (b * h - a * k) * 0 + (a * e - b * d) * 1 := cram2 (E0 2 (by omega)) (E1 2 (by omega)) (E2 2 (by omega))
                rw [c0, c1, c2, cram2 G0 G1 G2]; grind
            unfold appR
            apply List.map_congr_left
            intro i hi
            rw [row i (List.mem_range.1 hi), fin i (List.mem_range.1 hi)]
          rw [q1] at p1
          rw [q2] at p2
          rw [q3] at p3
          obtain ⟨s, es, es0⟩ := sign_q (y := y) (sy.fit (by have := pp3 hL; omega))
          have es0 : (s != 0) = true := by rw [es0, decide_eq_true y0]
          have r3 : ((f.pv.length : Int) == 3) = true := by rw [hl3]; rfl
          have v1 := mx_same (x := 3) (y := 3) (a := [1, 0, 0, 0, 1, 0, 0, 0, 1]) rfl (k := 0) (fun x hx => by
            simp only [List.mem_cons, List.not_mem_nil, or_false] at hx
            rcases hx with h | h | h | h | h | h | h | h | h <;> rw [h] <;> first | exact sz_one | exact sz_zero) (by omega) (by decide)
          have v2 := vec_same (a := [u, v, z]) rfl zw (by omega) (by simp)
          have v3 := vec_same (a := (List.range 3).map fun i => rv (H.g i 3)) rfl hXs (by omega) (by rw [hXl]; decide)
          have inv' : M_impl_Inverse ⟨3, 3, ([a, b, c, d, e, g, h, k, l] : List Rat).map rq⟩ = some (⟨3, 3, (grid 3 3 fun i k => rv (F.g i (3 + k))).map rq⟩, true) := inv
          have slv' : M_impl_SolveSystem ⟨3, 3, ([a, b, c, d, e, g, h, k, l] : List Rat).map rq⟩ (([u, v, z] : List Rat).map rq) = some (((List.range 3).map fun i => rv (H.g i 3)).map rq, true) := slv
          have det' : M_impl_Determinant ⟨3, 3, ([a, b, c, d, e, g, h, k, l] : List Rat).map rq⟩ = some (rq y, true) := det
          have p1' : M_impl_Multiply ⟨3, 3, ([a, b, c, d, e, g, h, k, l] : List Rat).map rq⟩ ⟨3, 3, (grid 3 3 fun i k => rv (F.g i (3 + k))).map rq⟩ = some (⟨3, 3, ([1, 0, 0, 0, 1, 0, 0, 0, 1] : List Rat).map rq⟩, true) := p1
          have p2' : M_impl_ApplyMatrix ⟨3, 3, ([a, b, c, d, e, g, h, k, l] : List Rat).map rq⟩ (((List.range 3).map fun i => rv (H.g i 3)).map rq) = some (([u, v, z] : List Rat).map rq, true) := p2
          have p3' : M_impl_ApplyMatrix ⟨3, 3, (grid 3 3 fun i k => rv (F.g i (3 + k))).map rq⟩ (([u, v, z] : List Rat).map rq) = some (((List.range 3).map fun i => rv (H.g i 3)).map rq, true) := p3
          simp only [cond_false, e1', e2', inv', det', slv', Option.bind_some, Bool.not_true, es, es0, rnk', r3, p1', p2', p3', cond_true, id3, v1, v2, v3, beq_self_eq_true]
      · omega
    · have hall : ((List.range 3).all fun i => F.pv[i]? == some (i : Int)) = false := by
        rw [← Bool.not_eq_true, List.all_eq_true]
        intro h
        exact hneF (eq_of_beq (h f.pv.length (List.mem_range.2 hlt)))
      have hbq : (f.pv.length == 3) = false := by
        have : f.pv.length ≠ 3 := by omega
        simpa using this
      rw [hall, cond_false] at inv
      rw [hbq, cond_false] at slv
      rw [decide_eq_true hlt, cond_true] at det
      have r3 : ((f.pv.length : Int) == 3) = false := by rw [beq_eq_false_iff_ne]; omega
      obtain ⟨s, es, es0⟩ := sign_q (y := 0) fit_zero
      have es0 : (s != 0) = false := by rw [es0]; rfl
      have v1 := mx_same (x := 2) (y := 2) (a := [1, 0, 0, 1]) rfl (k := 0) (fun x hx => by
        simp only [List.mem_cons, List.not_mem_nil, or_false] at hx
        rcases hx with h | h | h | h <;> rw [h] <;> first | exact sz_one | exact sz_zero) (by omega) (by decide)
      have inv' : M_impl_Inverse ⟨3, 3, q.map rq⟩ = some (⟨0, 0, []⟩, false) := inv
      have slv' : M_impl_SolveSystem ⟨3, 3, q.map rq⟩ (w.map rq) = some ([], false) := slv
      have det' : M_impl_Determinant ⟨3, 3, q.map rq⟩ = some (rq 0, true) := det
      simp only [cond_false, e1', e2', inv', det', slv', Option.bind_some, Bool.not_true, Bool.not_false, es, es0, rnk', r3, cond_true, id2, of2, v1, beq_self_eq_true]
end Go.Di
