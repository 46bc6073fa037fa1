/-
  Own work: part 9 of the texts that the proof of the given statement leans on.
-/
import Derived.Test.YtgimphipdnieaaaZNullP01
namespace Go.Di
end Go.Di
namespace Go.Di
end Go.Di
namespace Go.Di
theorem inB_iff {n lo hi : Int} : inB n lo hi = true ↔ lo ≤ n ∧ n ≤ hi := by
  unfold inB; simp only [Bool.and_eq_true, decide_eq_true_iff]
structure MxQ (m : Mx) (r c : Nat) (q : List Rat) : Prop where
  r24 : r ≤ 24
  c24 : c ≤ 24
  len : q.length = r * c
  fits : Fits q
  eq : m = ⟨r, c, q.map rq⟩
theorem prod24 {r c : Nat} (hr : r ≤ 24) (hc : c ≤ 24) : r * c ≤ 576 := by
  calc r * c ≤ 24 * 24 := Nat.mul_le_mul hr hc
    _ = 576 := rfl
theorem mx_ok {r c : Nat} {q : List Rat} (hr : r ≤ 24) (hc : c ≤ 24) (hl : q.length = r * c) (hf : Fits q) : mxB ⟨r, c, q.map rq⟩ = true := by
  have hp := prod24 hr hc
  have e1 : ((r : Int) * (c : Int)) = ((r * c : Nat) : Int) := by simp
  unfold mxB
  simp only [Bool.and_eq_true, inB_iff, q_goods hf, List.length_map]
  rw [e1, wrap_i64 (by omega) (by omega), beq_iff_eq, hl]
  exact ⟨⟨by omega, by omega⟩, ⟨by omega, by omega⟩, rfl, trivial⟩
theorem at_pos {i c k : Nat} (hi : i < 1000) (hc : c ≤ 1000) (hk : k < 1000) : IntKind.i64.wrap (IntKind.i64.wrap ((i : Int) * (c : Int)) + (k : Int)) = ((i * c + k : Nat) : Int) := by
  have hp : i * c ≤ 1000 * 1000 := Nat.mul_le_mul (by omega) hc
  have e1 : ((i : Int) * (c : Int)) = ((i * c : Nat) : Int) := by simp
  rw [e1, wrap_i64 (n := ((i * c : Nat) : Int)) (by omega) (by omega), wrap_i64 (by omega) (by omega)]
  simp
theorem at_lt {i r c k : Nat} (hi : i < r) (hk : k < c) : i * c + k < r * c := by
  have : (i + 1) * c ≤ r * c := Nat.mul_le_mul_right _ (by omega)
  rw [Nat.add_mul, Nat.one_mul] at this
  omega
def rowq (q : List Rat) (c i : Nat) : List Rat := cut q (i * c) ((i + 1) * c)
theorem rowq_len {q : List Rat} {r c i : Nat} (hl : q.length = r * c) (hi : i < r) : (rowq q c i).length = c := by
  have : (i + 1) * c ≤ r * c := Nat.mul_le_mul_right _ (by omega)
  unfold rowq cut
  rw [List.length_drop, List.length_take, hl, Nat.min_eq_left this, Nat.add_mul, Nat.one_mul]; omega
theorem rowq_fits {q : List Rat} (hf : Fits q) (c i : Nat) : Fits (rowq q c i) := fun x hx => hf x (List.mem_of_mem_take (List.mem_of_mem_drop hx))
theorem rowq_get {q : List Rat} {c i k : Nat} (hk : k < c) : (rowq q c i)[k]? = q[i * c + k]? := by
  unfold rowq cut
  rw [List.getElem?_drop, List.getElem?_take_of_lt (by rw [Nat.add_mul, Nat.one_mul]; omega)]
theorem cut_map (q : List Rat) (lo hi : Nat) : cut (q.map rq) lo hi = (cut q lo hi).map rq := by
  unfold cut; rw [List.map_drop, List.map_take]
theorem impl_row {r c : Nat} {q : List Rat} {i : Nat} {x : Int} (hl : q.length = r * c) (hr : r ≤ 24) (hc : c ≤ 24) (hi : i < r) : M_impl_Matrix_row ⟨x, c, q.map rq⟩ i = some ((rowq q c i).map rq) := by
  unfold M_impl_Matrix_row
  have hp := prod24 hr hc
  have h1 : (i + 1) * c ≤ r * c := Nat.mul_le_mul_right _ (by omega)
  have h2 : i * c ≤ (i + 1) * c := Nat.mul_le_mul_right _ (by omega)
  have e1 : ((i : Int) * (c : Int)) = ((i * c : Nat) : Int) := by simp
  have e2 : (((i + 1 : Nat) : Int) * (c : Int)) = (((i + 1) * c : Nat) : Int) := by simp
  simp only []
  rw [wrap_nat (n := 1000) (by omega) (by omega), e1, e2, wrap_i64 (by omega) (by omega), wrap_i64 (by omega) (by omega)]
  have hin : inside (q.map rq).length (((i * c : Nat) : Int), (((i + 1) * c : Nat) : Int)) = true := by
    unfold inside
    rw [List.length_map, hl]
    simp only [Bool.and_eq_true, decide_eq_true_iff]
    omega
  rw [hin, guardO_true, Option.bind_some, Int.toNat_natCast, Int.toNat_natCast, cut_map]; rfl
/-! ### Matrices of integers -/
/-! ### Elements, rows, diagonals -/
/-! ### Products with vectors -/
noncomputable def appO (q : List Rat) (r c : Nat) (v : List Rat) : List (Option Rat) := (List.range r).map fun i => innO (rowq q c i) v c
theorem len_appO (q : List Rat) (r c : Nat) (v : List Rat) : (appO q r c v).length = r := by simp [appO]
theorem impl_applied {q v : List Rat} {r c : Nat} (hr : r ≤ 24) (hc : c ≤ 24) (hl : q.length = r * c) (hf : Fits q) (hv : Fits v) (hvl : v.length = c) :
    M_impl_applied ⟨r, c, q.map rq⟩ (v.map rq) = some (cond ((appO q r c v).all Option.isSome) ((appO q r c v).map ro, true) ([], false)) := by
  unfold M_impl_applied L_impl_applied_0
  rw [app_loop (S := S_impl_applied_0) (fun i out => (v.map rq, (r : Int), i, (r : Int), (c : Int), q.map rq, out, ())) (fun i => ro (innO (rowq q c i) v c)) r (r := fun out => (out, ())) (fun i out hi ho => by
    have hin := impl_inner (rowq_fits hf c i) hv (by rw [rowq_len hl hi]; omega) (by rw [rowq_len hl hi]; omega)
    rw [rowq_len hl hi] at hin
    simp only [S_impl_applied_0, dlt hi, cond_true, impl_row hl hr hc hi, Option.bind_some, hin, room1 (show out.length ≤ 2000000 by omega), succ_wrap hi (show r ≤ 1048576 by omega)]) (fun out _ => by simp [S_impl_applied_0])]
  rw [show (List.range r).map (fun i => ro (innO (rowq q c i) v c)) = (appO q r c v).map ro by unfold appO; rw [List.map_map]; rfl]
  simp only [Option.bind_some]
  rw [impl_complete (by rw [len_appO]; omega), Option.bind_some]
  cases (appO q r c v).all Option.isSome <;> rfl
theorem all_some {l : List (Option Rat)} (h : l.all Option.isSome = true) (hk : ∀ o ∈ l, Oks o) : ∃ q : List Rat, Fits q ∧ l.map ro = q.map rq ∧ q.length = l.length := by
  induction l with
  | nil => exact ⟨[], fun x hx => (by cases hx), rfl, rfl⟩
  | cons o l ih =>
    rw [List.all_cons, Bool.and_eq_true] at h
    obtain ⟨q, hq, e, e2⟩ := ih h.2 fun x hx => hk x (List.mem_cons_of_mem _ hx)
    cases o with
    | none => cases h.1
    | some x =>
      refine ⟨x :: q, fun y hy => ?_, by rw [List.map_cons, List.map_cons, e]; rfl, by simp [e2]⟩
      rcases List.mem_cons.1 hy with rfl | hy
      · exact hk (some y) (List.mem_cons_self ..) y rfl
      · exact hq y hy
end Go.Di
namespace Go.Di
/-! ### Grids -/
def grid {α : Type} (r c : Nat) (g : Nat → Nat → α) : List α := (List.range r).flatMap fun i => (List.range c).map (g i)
theorem grid_succ {α : Type} (r c : Nat) (g : Nat → Nat → α) : grid (r + 1) c g = grid r c g ++ (List.range c).map (g r) := by
  unfold grid; rw [List.range_succ, List.flatMap_append]; simp
theorem len_grid {α : Type} (r c : Nat) (g : Nat → Nat → α) : (grid r c g).length = r * c := by
  induction r with
  | zero => simp [grid]
  | succ r ih => rw [grid_succ, List.length_append, ih, List.length_map, List.length_range, Nat.add_mul, Nat.one_mul]
theorem grid_at {α : Type} {r c : Nat} (g : Nat → Nat → α) {j : Nat} (h : j < r * c) : (grid r c g)[j]? = some (g (j / c) (j % c)) := by
  induction r with
  | zero => omega
  | succ r ih =>
    rw [grid_succ]
    by_cases hj : j < r * c
    · rw [List.getElem?_append_left (by rw [len_grid]; exact hj)]; exact ih hj
    · rw [List.getElem?_append_right (by rw [len_grid]; omega), len_grid]
      rw [Nat.add_mul, Nat.one_mul] at h
      have hk : j - r * c < c := by omega
      rw [List.getElem?_map, List.getElem?_range hk]
      have e : j = c * r + (j - r * c) := by rw [Nat.mul_comm c r]; omega
      have h1 : j / c = r := by
        rw [e, Nat.mul_add_div (by omega), Nat.div_eq_of_lt hk]; omega
      have h2 : j % c = j - r * c := by
        conv => lhs; rw [e]
        rw [Nat.mul_add_mod, Nat.mod_eq_of_lt hk]
      rw [h1, h2]; rfl
theorem pos_div {i c k : Nat} (hk : k < c) : (i * c + k) / c = i ∧ (i * c + k) % c = k := by
  constructor
  · rw [Nat.mul_comm, Nat.mul_add_div (by omega), Nat.div_eq_of_lt hk]; omega
  · rw [Nat.mul_comm, Nat.mul_add_mod, Nat.mod_eq_of_lt hk]
theorem grid_get {α : Type} {r c : Nat} (g : Nat → Nat → α) {i k : Nat} (hi : i < r) (hk : k < c) : (grid r c g)[i * c + k]? = some (g i k) := by
  rw [grid_at g (at_lt hi hk), (pos_div hk).1, (pos_div hk).2]
theorem grid_mem {α : Type} {r c : Nat} {g : Nat → Nat → α} {x : α} (h : x ∈ grid r c g) : ∃ i k, i < r ∧ k < c ∧ x = g i k := by
  obtain ⟨i, hi, hx⟩ := List.mem_flatMap.1 h
  obtain ⟨k, hk, rfl⟩ := List.mem_map.1 hx
  exact ⟨i, k, List.mem_range.1 hi, List.mem_range.1 hk, rfl⟩
theorem div_parts {r c j : Nat} (h : j < r * c) : j / c < r ∧ j % c < c ∧ j / c * c + j % c = j := by
  have hc : 0 < c := by
    rcases Nat.eq_zero_or_pos c with h0 | h0
    · subst h0; simp at h
    · exact h0
  refine ⟨Nat.div_lt_of_lt_mul (by rw [Nat.mul_comm]; exact h), Nat.mod_lt _ hc, ?_⟩
  rw [Nat.mul_comm]; exact Nat.div_add_mod j c
theorem grid_congr {α : Type} {r c : Nat} {g h : Nat → Nat → α} (e : ∀ i k, i < r → k < c → g i k = h i k) : grid r c g = grid r c h := by
  apply List.ext_getElem?
  intro j
  by_cases hj : j < r * c
  · obtain ⟨h1, h2, _⟩ := div_parts hj
    rw [grid_at g hj, grid_at h hj, e _ _ h1 h2]
  · rw [List.getElem?_eq_none (by rw [len_grid]; omega), List.getElem?_eq_none (by rw [len_grid]; omega)]
theorem grid_set {α : Type} {r c i k : Nat} (g : Nat → Nat → α) (x : α) (hi : i < r) (hk : k < c) : (grid r c g).set (i * c + k) x = grid r c fun a b => if a = i ∧ b = k then x else g a b := by
  apply List.ext_getElem?
  intro j
  rw [List.getElem?_set]
  by_cases hj : j < r * c
  · obtain ⟨h1, h2, h3⟩ := div_parts hj
    rw [grid_at (fun a b => if a = i ∧ b = k then x else g a b) hj]
    split
    · rename_i e
      rw [if_pos (by rw [len_grid]; omega)]
      subst e
      rw [(pos_div hk).1, (pos_div hk).2, if_pos ⟨rfl, rfl⟩]
    · rename_i e
      rw [grid_at g hj, if_neg (by rintro ⟨e1, e2⟩; rw [e1, e2] at h3; exact e h3)]
  · rw [List.getElem?_eq_none (l := grid r c _) (by rw [len_grid]; omega), if_neg (by have := at_lt hi hk; omega), List.getElem?_eq_none (by rw [len_grid]; omega)]
/-! ### Loops -/
/-! ### Identities -/
theorem fit_one : Fit 1 := by
  have := fit_int (n := 1) (by omega) (by omega)
  simpa using this
theorem whole_one : M_impl_whole 1 = some (ro (some 1)) := by
  have := impl_whole (n := 1) (by omega) (by omega)
  simpa using this
/-! ### Transposed matrices -/
def trans (q : List Rat) (r c : Nat) : List Rat := grid c r fun i k => (q[k * c + i]?).getD 0
/-! ### Sums, products -/
/-! ### Parts -/
end Go.Di
namespace Go.Di
end Go.Di
namespace Go.Di
/-! ### Half tangents -/
/-! ### Lists of observations -/
end Go.Di
namespace Go.Di
end Go.Di
namespace Go.Di
theorem stop_loop {σ ρ : Type} {S : σ → Option (σ ⊕ ρ)} (st : Nat → σ) (n : Nat) (ok : Nat → Bool) (bad fin : ρ)
    (h : ∀ i, i < n → (∀ j, j < i → ok j = true) → S (st i) = some (cond (ok i) (.inl (st (i + 1))) (.inr bad)))
    (he : (∀ j, j < n → ok j = true) → S (st n) = some (.inr fin)) : whileO S (st 0) = some (cond ((List.range n).all ok) fin bad) := by
  have key : ∀ s i, i + s = n → (∀ j, j < i → ok j = true) → whileO S (st i) = some (cond ((List.range n).all ok) fin bad) := by
    intro s
    induction s with
    | zero =>
      intro i hi hj
      have : i = n := by omega
      subst this
      have ha : (List.range i).all ok = true := by rw [List.all_eq_true]; intro x hx; exact hj x (List.mem_range.1 hx)
      rw [ha, cond_true]; exact whileO_inr (he hj)
    | succ s ih =>
      intro i hi hj
      have hn : i < n := by omega
      have hs := h i hn hj
      cases hb : ok i with
      | true =>
        rw [hb, cond_true] at hs
        rw [whileO_inl hs]
        exact ih (i + 1) (by omega) fun j hji => by
          by_cases e : j = i
          · rw [e]; exact hb
          · exact hj j (by omega)
      | false =>
        rw [hb, cond_false] at hs
        have ha : (List.range n).all ok = false := by
          rw [← Bool.not_eq_true, List.all_eq_true]
          intro hall
          have := hall i (List.mem_range.2 hn)
          rw [hb] at this; cases this
        rw [ha, cond_false]; exact whileO_inr hs
  exact key n 0 (by omega) fun j hj => by omega
noncomputable def cellO (lo : List (Option Rat)) (p : Nat) : Option Rat := (lo[p]?).getD none
theorem idx_cell {lo : List (Option Rat)} {p : Nat} (h : p < lo.length) : idx (lo.map ro) (p : Int) = some (ro (cellO lo p)) := by
  rw [idx_o h]; unfold cellO; rw [List.getElem?_eq_getElem h]; rfl
theorem get_cellO {lo : List (Option Rat)} {p : Nat} (h : p < lo.length) : (lo.map ro)[p]? = some (ro (cellO lo p)) := by
  rw [← idx_nat, idx_cell h]
theorem rq_some (q : List Rat) : q.map rq = (q.map some).map ro := by rw [List.map_map]; rfl
theorem impl_atO {lo : List (Option Rat)} {n c i k : Nat} {x : Int} (hl : lo.length = n * c) (hn : n ≤ 1000) (hc : c ≤ 1000) (hi : i < n) (hk : k < c) :
    M_impl_Matrix_at_mdd ⟨x, c, lo.map ro⟩ i k = some (ro (cellO lo (i * c + k)), lo.map ro) := by
  have hp : i * c + k < lo.length := by rw [hl]; exact at_lt hi hk
  unfold M_impl_Matrix_at_mdd
  simp only [at_pos (show i < 1000 by omega) hc (show k < 1000 by omega), idx_cell hp, Option.bind_some, Int.toNat_natCast, get_cellO hp]
theorem spec_atO {lo : List (Option Rat)} {n c i k : Nat} {x : Int} (hl : lo.length = n * c) (hn : n ≤ 1000) (hc : c ≤ 1000) (hi : i < n) (hk : k < c) :
    M_spec_l06At_mdd ⟨x, c, lo.map ro⟩ i k = some (ro (cellO lo (i * c + k)), lo.map ro) := impl_atO hl hn hc hi hk
section
variable {q lo : List (Option Rat)} {d : List Rat} {n k : Nat}
end
/-! ### A column -/
section
variable {q lo : List (Option Rat)} {d : List Rat} {n k : Nat} {x : Rat}
end
/-! ### All columns -/
structure FacOk (n k : Nat) (lo : List (Option Rat)) (d : List Rat) : Prop where
  len : lo.length = n * n
  oks : ∀ o ∈ lo, Oks o
  all : ∀ o ∈ lo, o.isSome = true
  fits : Fits d
  dlen : d.length = k
  pos : ∀ y ∈ d, 0 < y
end Go.Di
namespace Go.Di
theorem cell_grid {r c : Nat} {g : Nat → Nat → Option Rat} {i k : Nat} (hi : i < r) (hk : k < c) : cellO (grid r c g) (i * c + k) = g i k := by
  unfold cellO; rw [grid_get g hi hk]; rfl
theorem at_grid {r c : Nat} {g : Nat → Nat → Option Rat} {i k : Nat} {x : Int} (hr : r ≤ 1000) (hc : c ≤ 1000) (hi : i < r) (hk : k < c) :
    M_spec_l06At_mdd ⟨x, c, (grid r c g).map ro⟩ i k = some (ro (g i k), (grid r c g).map ro) := by
  rw [spec_atO (len_grid r c g) hr hc hi hk, cell_grid hi hk]
theorem at_grid' {r c : Nat} {g : Nat → Nat → Option Rat} {i k : Nat} {x : Int} (hr : r ≤ 1000) (hc : c ≤ 1000) (hi : i < r) (hk : k < c) :
    M_impl_Matrix_at_mdd ⟨x, c, (grid r c g).map ro⟩ i k = some (ro (g i k), (grid r c g).map ro) := at_grid hr hc hi hk
theorem idx_grid {r c : Nat} {g : Nat → Nat → Option Rat} {i k : Nat} (hi : i < r) (hk : k < c) : idx ((grid r c g).map ro) ((i * c + k : Nat) : Int) = some (ro (g i k)) := by
  rw [idx_cell (by rw [len_grid]; exact at_lt hi hk), cell_grid hi hk]
theorem get_grid {r c : Nat} {g : Nat → Nat → Option Rat} {i k : Nat} (hi : i < r) (hk : k < c) : ((grid r c g).map ro)[i * c + k]? = some (ro (g i k)) := by
  rw [← idx_nat, idx_grid hi hk]
theorem set_grid {r c : Nat} {g h : Nat → Nat → Option Rat} {i k : Nat} {o : Option Rat} (hi : i < r) (hk : k < c) (e : ∀ a b, a < r → b < c → h a b = if a = i ∧ b = k then o else g a b) :
    ((grid r c g).map ro).set (i * c + k) (ro o) = (grid r c h).map ro := by
  rw [← List.map_set, grid_set g o hi hk]
  rw [grid_congr e]
theorem nil_ro (o : Option Rat) : M_spec_l05Nil (ro o) = some (decide (o = some 0 ∨ o = none)) := by
  cases o with
  | none => simp [M_spec_l05Nil, ro]
  | some q => rw [show ro (some q) = rq q from rfl, nil_rq]; simp
def Good2 (r c : Nat) (g : Nat → Nat → Option Rat) : Prop := ∀ i k, i < r → k < c → Oks (g i k) ∧ (g i k).isSome = true
def swp (g : Nat → Nat → Option Rat) (p u : Nat) : Nat → Nat → Option Rat := fun a b => if a = p then g u b else if a = u then g p b else g a b
noncomputable def dvd (g : Nat → Nat → Option Rat) (u k : Nat) : Nat → Nat → Option Rat := fun a b => if a = u then divO (g u b) (g u k) else g a b
noncomputable def clr (g : Nat → Nat → Option Rat) (u k : Nat) : Nat → Nat → Option Rat := fun a b => if a = u then g u b else if g a k = some 0 then g a b else subO (g a b) (mulO (g a k) (g u b))
def pivR (g : Nat → Nat → Option Rat) (k : Nat) : Nat → Nat → Nat
  | 0, i => i
  | s + 1, i => if g i k = some 0 then pivR g k s (i + 1) else i
theorem pivR_le (g : Nat → Nat → Option Rat) (k : Nat) : ∀ s i, i ≤ pivR g k s i ∧ pivR g k s i ≤ i + s
  | 0, i => ⟨Nat.le_refl _, Nat.le_refl _⟩
  | s + 1, i => by
    unfold pivR
    split
    · have := pivR_le g k s (i + 1); omega
    · omega
theorem pivR_zero (g : Nat → Nat → Option Rat) (k : Nat) : ∀ s i a, i ≤ a → a < pivR g k s i → g a k = some 0
  | 0, i, a, h1, h2 => by unfold pivR at h2; omega
  | s + 1, i, a, h1, h2 => by
    unfold pivR at h2
    split at h2
    · by_cases e : a = i
      · rw [e]; assumption
      · exact pivR_zero g k s (i + 1) a (by omega) h2
    · omega
theorem pivR_ne (g : Nat → Nat → Option Rat) (k : Nat) : ∀ s i, pivR g k s i < i + s → g (pivR g k s i) k ≠ some 0
  | 0, i, h => by unfold pivR at h; omega
  | s + 1, i, h => by
    unfold pivR at h ⊢
    split
    · rename_i h0; rw [if_pos h0] at h; exact pivR_ne g k s (i + 1) (by omega)
    · assumption
section
variable {r c : Nat} {g : Nat → Nat → Option Rat} {k u : Nat}
end
/-! ### Rounds -/
structure ES where
  g : Nat → Nat → Option Rat
  pv : List Int
  fs : List (Option Rat)
noncomputable def allG (r c : Nat) (g : Nat → Nat → Option Rat) : Bool := (grid r c g).all Option.isSome
theorem allG_iff {r c : Nat} {g : Nat → Nat → Option Rat} : allG r c g = true ↔ ∀ i k, i < r → k < c → (g i k).isSome = true := by
  unfold allG
  rw [List.all_eq_true]
  constructor
  · intro h i k hi hk; exact h _ (List.mem_of_getElem? (grid_get g hi hk))
  · intro h o ho
    obtain ⟨i, k, hi, hk, rfl⟩ := grid_mem ho
    exact h i k hi hk
noncomputable def stepE (r c k : Nat) (s : ES) : Option ES :=
  if s.pv.length < r then
    let p := pivR s.g k (r - s.pv.length) s.pv.length
    if p = r then some s else
      let g1 := swp s.g p s.pv.length
      let g2 := dvd g1 s.pv.length k
      let g3 := clr g2 s.pv.length k
      cond (allG r c g2 && allG r c g3) (some ⟨g3, s.pv ++ [(k : Int)], (s.fs ++ if p ≠ s.pv.length then [some (-1)] else []) ++ [g1 s.pv.length k]⟩) none
  else some s
noncomputable def elim (r c : Nat) (g : Nat → Nat → Option Rat) : Nat → Option ES
  | 0 => some ⟨g, [], []⟩
  | k + 1 => (elim r c g k).bind (stepE r c k)
structure EInv (r c k : Nat) (s : ES) : Prop where
  good : Good2 r c s.g
  used : s.pv.length ≤ r
  few : s.pv.length ≤ k
  zero : ∀ i j, s.pv.length ≤ i → i < r → j < k → j < c → s.g i j = some 0
  fsok : ∀ o ∈ s.fs, Oks o
  fsall : ∀ o ∈ s.fs, o.isSome = true
  fslen : s.fs.length ≤ 2 * k
theorem divO_zero {y : Rat} (hy : y ≠ 0) : divO (some 0) (some y) = some 0 := by
  show (if y = 0 then none else chk (0 / y)) = _
  rw [if_neg hy, Rat.div_def, Rat.zero_mul, chk_fit fit_zero]
theorem divO_self {y : Rat} (hy : y ≠ 0) : divO (some y) (some y) = some 1 := by
  show (if y = 0 then none else chk (y / y)) = _
  rw [if_neg hy, Rat.div_def, Rat.mul_inv_cancel _ hy, chk_fit fit_one]
theorem mulO_one {o : Option Rat} (h : Oks o) : mulO o (some 1) = o := by
  cases o with
  | none => rfl
  | some q =>
    show chk (q * 1) = some q
    rw [Rat.mul_one, chk_fit (h q rfl)]
theorem subO_self {x : Rat} : subO (some x) (some x) = some 0 := by
  show chk (x + -x) = some 0
  rw [← Rat.sub_eq_add_neg, Rat.sub_self, chk_fit fit_zero]
theorem subO_zero {o : Option Rat} (h : Oks o) : subO o (some 0) = o := by
  cases o with
  | none => rfl
  | some q =>
    show chk (q + -0) = some q
    rw [show (-0 : Rat) = 0 from rfl, Rat.add_zero, chk_fit (h q rfl)]
section
variable {r c : Nat} {g : Nat → Nat → Option Rat} {k u p : Nat}
theorem swp_good (hg : Good2 r c g) (hp : p < r) (hu : u < r) : Good2 r c (swp g p u) := fun i k hi hk => by
  unfold swp
  split
  · exact hg u k hu hk
  · split
    · exact hg p k hp hk
    · exact hg i k hi hk
theorem swp_zero (hu : u < r) (hp : p < r) (hup : u ≤ p) (hz : ∀ i j, u ≤ i → i < r → j < k → j < c → g i j = some 0) : ∀ i j, u ≤ i → i < r → j < k → j < c → swp g p u i j = some 0 := fun i j h1 h2 h3 h4 => by
  unfold swp
  split
  · exact hz u j (Nat.le_refl u) hu h3 h4
  · split
    · exact hz p j hup hp h3 h4
    · exact hz i j h1 h2 h3 h4
theorem oks_dvd (hg : Good2 r c g) {a b : Nat} (ha : a < r) (hb : b < c) : Oks (dvd g u k a b) := by
  unfold dvd
  split
  · exact oks_divO
  · exact (hg a b ha hb).1
theorem oks_clr (h : ∀ i k, i < r → k < c → Oks (g i k)) {a b : Nat} (ha : a < r) (hb : b < c) : Oks (clr g u k a b) := by
  unfold clr
  split
  · rename_i e; subst e; exact h _ b ha hb
  · split
    · exact h a b ha hb
    · exact oks_subO
theorem step_inv {s s' : ES} (h : EInv r c k s) (hk : k < c) (e : stepE r c k s = some s') : EInv r c (k + 1) s' := by
  unfold stepE at e
  split at e
  · rename_i hur
    obtain ⟨pl, ph⟩ := pivR_le s.g k (r - s.pv.length) s.pv.length
    generalize hpe : pivR s.g k (r - s.pv.length) s.pv.length = p at *
    simp only at e
    split at e
    · rename_i hpr
      injection e with e; subst e
      refine ⟨h.good, h.used, by have := h.few; omega, fun i j h1 h2 h3 h4 => ?_, h.fsok, h.fsall, by have := h.fslen; omega⟩
      by_cases hj : j = k
      · subst hj; exact pivR_zero s.g j _ _ i h1 (by rw [hpe]; omega)
      · exact h.zero i j h1 h2 (by omega) h4
    · rename_i hpr
      have hp : p < r := by omega
      have hne : s.g p k ≠ some 0 := by rw [← hpe]; exact pivR_ne s.g k _ _ (by rw [hpe]; omega)
      have g1 := swp_good (u := s.pv.length) h.good hp hur
      have z1 := swp_zero (c := c) hur hp pl h.zero
      have e1 : swp s.g p s.pv.length s.pv.length k = s.g p k := by
        unfold swp
        split
        · rename_i e; rw [e]
        · rw [if_pos rfl]
      generalize swp s.g p s.pv.length = gg at *
      generalize hu : s.pv.length = u at *
      cases hall : (allG r c (dvd gg u k) && allG r c (clr (dvd gg u k) u k)) with
      | false => rw [hall] at e; cases e
      | true =>
        rw [hall] at e
        injection e with e; subst e
        rw [Bool.and_eq_true] at hall
        have a2 := allG_iff.1 hall.1
        have a3 := allG_iff.1 hall.2
        have o2 : ∀ i j, i < r → j < c → Oks (dvd gg u k i j) := fun i j hi hj => oks_dvd g1 hi hj
        obtain ⟨y, hy⟩ := Option.isSome_iff_exists.1 (g1 u k hur hk).2
        have hy0 : y ≠ 0 := fun e0 => hne (by rw [← e1, hy, e0])
        have hzu : ∀ j, j < k → dvd gg u k u j = some 0 := fun j hj => by
          unfold dvd; rw [if_pos rfl, z1 u j (Nat.le_refl u) hur hj (by omega), hy, divO_zero hy0]
        have hone : dvd gg u k u k = some 1 := by unfold dvd; rw [if_pos rfl, hy, divO_self hy0]
        refine ⟨fun i j hi hj => ⟨oks_clr o2 hi hj, a3 i j hi hj⟩, ?_, ?_, fun i j h1 h2 h3 h4 => ?_, fun o ho => ?_, fun o ho => ?_, ?_⟩
        · simp [hu]; omega
        · have := h.few; simp [hu] at this ⊢; omega
        · simp only [List.length_append, List.length_singleton, hu] at h1
          show clr (dvd gg u k) u k i j = some 0
          have hd : dvd gg u k i j = gg i j := by unfold dvd; rw [if_neg (by omega)]
          have hdk : dvd gg u k i k = gg i k := by unfold dvd; rw [if_neg (by omega)]
          unfold clr
          rw [if_neg (by omega), hd, hdk]
          obtain ⟨x, hx⟩ := Option.isSome_iff_exists.1 (g1 i k h2 hk).2
          by_cases hj : j = k
          · subst hj
            split
            · assumption
            · rw [hone, hx, mulO_one ((g1 i j h2 hk).1 |> fun h => by rw [hx] at h; exact h), subO_self]
          · rw [z1 i j (by omega) h2 (by omega) h4, hzu j (by omega)]
            split
            · rfl
            · rw [hx, mulO_zero_r]; exact subO_zero fit_zero.ok
        · rcases List.mem_append.1 ho with ho | ho
          · rcases List.mem_append.1 ho with ho | ho
            · exact h.fsok o ho
            · split at ho
              · rw [List.mem_singleton.1 ho]
                have := fit_int (n := -1) (by omega) (by omega)
                exact (show Fit (-1 : Rat) by simpa using this).ok
              · cases ho
          · rw [List.mem_singleton.1 ho]; exact (g1 u k hur hk).1
        · rcases List.mem_append.1 ho with ho | ho
          · rcases List.mem_append.1 ho with ho | ho
            · exact h.fsall o ho
            · split at ho
              · rw [List.mem_singleton.1 ho]; rfl
              · cases ho
          · rw [List.mem_singleton.1 ho]; exact (g1 u k hur hk).2
        · have := h.fslen
          have : (if p ≠ u then [some (-1 : Rat)] else []).length ≤ 1 := by split <;> simp
          simp only [List.length_append, List.length_singleton]; omega
  · rename_i hur
    injection e with e; subst e
    refine ⟨h.good, h.used, by have := h.few; omega, fun i j h1 h2 h3 h4 => by omega, h.fsok, h.fsall, by have := h.fslen; omega⟩
theorem elim_inv (hg : Good2 r c g) : ∀ {k : Nat} {s : ES}, k ≤ c → elim r c g k = some s → EInv r c k s := by
  intro k
  induction k with
  | zero =>
    intro s _ e
    injection e with e; subst e
    exact ⟨hg, Nat.zero_le _, Nat.le_refl _, fun i j _ _ h _ => by omega, fun o ho => (by cases ho), fun o ho => (by cases ho), Nat.le_refl _⟩
  | succ k ih =>
    intro s hk e
    unfold elim at e
    cases h0 : elim r c g k with
    | none => rw [h0] at e; cases e
    | some s0 =>
      rw [h0] at e
      exact step_inv (ih (by omega) h0) (by omega) e
end
end Go.Di
namespace Go.Di
section
variable {r c : Nat} {g : Nat → Nat → Option Rat} {k : Nat}
theorem elim_stay {k0 : Nat} {s : ES} (h : elim r c g k0 = some s) (hu : ¬ s.pv.length < r) : ∀ j, elim r c g (k0 + j) = some s
  | 0 => h
  | j + 1 => by
    show (elim r c g (k0 + j)).bind _ = _
    rw [elim_stay h hu j]
    show stepE r c (k0 + j) s = some s
    unfold stepE; rw [if_neg hu]
theorem elim_none {k0 : Nat} (h : elim r c g k0 = none) : ∀ j, elim r c g (k0 + j) = none
  | 0 => h
  | j + 1 => by
    show (elim r c g (k0 + j)).bind _ = _
    rw [elim_none h j]; rfl
end
end Go.Di
namespace Go.Di
def rv (o : Option Rat) : Rat := o.getD 0
def dot : Nat → (Nat → Rat) → (Nat → Rat) → Rat
  | 0, _, _ => 0
  | n + 1, f, x => dot n f x + f n * x n
theorem dot_congr {f h x y : Nat → Rat} : ∀ {n : Nat}, (∀ j, j < n → f j = h j) → (∀ j, j < n → x j = y j) → dot n f x = dot n h y
  | 0, _, _ => rfl
  | n + 1, e, e2 => by
    show dot n f x + f n * x n = dot n h y + h n * y n
    rw [dot_congr (fun j hj => e j (by omega)) (fun j hj => e2 j (by omega)), e n (by omega), e2 n (by omega)]
theorem dot_scale (a : Rat) (f x : Nat → Rat) : ∀ n, dot n (fun j => a * f j) x = a * dot n f x
  | 0 => by show (0 : Rat) = a * 0; rw [Rat.mul_zero]
  | n + 1 => by
    show dot n _ x + a * f n * x n = a * (dot n f x + f n * x n)
    rw [dot_scale a f x n, Rat.mul_add, Rat.mul_assoc]
theorem dot_add (f h x : Nat → Rat) : ∀ n, dot n (fun j => f j + h j) x = dot n f x + dot n h x
  | 0 => by show (0 : Rat) = 0 + 0; rw [Rat.add_zero]
  | n + 1 => by
    show dot n _ x + (f n + h n) * x n = (dot n f x + f n * x n) + (dot n h x + h n * x n)
    rw [dot_add f h x n]; grind
theorem dot_zero {f x : Nat → Rat} : ∀ {n : Nat}, (∀ j, j < n → f j * x j = 0) → dot n f x = 0
  | 0, _ => rfl
  | n + 1, h => by
    show dot n f x + f n * x n = 0
    rw [dot_zero (fun j hj => h j (by omega)), h n (by omega), Rat.add_zero]
theorem dot_one {f x : Nat → Rat} {i : Nat} : ∀ {n : Nat}, i < n → (∀ j, j < n → j ≠ i → f j * x j = 0) → dot n f x = f i * x i
  | 0, h, _ => by omega
  | n + 1, h, e => by
    show dot n f x + f n * x n = _
    by_cases hi : i = n
    · subst hi
      rw [dot_zero (fun j hj => e j (by omega) (by omega)), Rat.zero_add]
    · rw [dot_one (i := i) (by omega) (fun j hj hne => e j (by omega) hne), e n (by omega) (by omega), Rat.add_zero]
theorem dot_two {f x : Nat → Rat} {i k : Nat} (hik : i < k) : ∀ {n : Nat}, k < n → (∀ j, j < n → j ≠ i → j ≠ k → f j * x j = 0) → dot n f x = f i * x i + f k * x k
  | 0, h, _ => by omega
  | n + 1, h, e => by
    show dot n f x + f n * x n = _
    by_cases hk : k = n
    · subst hk
      rw [dot_one (i := i) hik (fun j hj hne => e j (by omega) hne (by omega))]
    · rw [dot_two hik (n := n) (by omega) (fun j hj h1 h2 => e j (by omega) h1 h2), e n (by omega) (by omega) (by omega), Rat.add_zero]
def Ann (r c : Nat) (g : Nat → Nat → Option Rat) (x : Nat → Rat) : Prop := ∀ i, i < r → dot c (fun j => rv (g i j)) x = 0
theorem rv_div {o p : Option Rat} (h : (divO o p).isSome = true) : rv o = rv p * rv (divO o p) ∧ rv p ≠ 0 := by
  cases o with
  | none => cases h
  | some a =>
    cases p with
    | none => cases h
    | some b =>
      have e : divO (some a) (some b) = if b = 0 then none else chk (a / b) := rfl
      rw [e] at h ⊢
      by_cases hb : b = 0
      · rw [if_pos hb] at h; cases h
      · rw [if_neg hb] at h ⊢
        have : chk (a / b) = some (a / b) := by
          unfold chk at h ⊢
          split
          · rfl
          · rename_i hf; rw [if_neg hf] at h; cases h
        rw [this]
        refine ⟨?_, hb⟩
        show a = b * (a / b)
        rw [Rat.div_def, ← Rat.mul_assoc, Rat.mul_comm b a, Rat.mul_assoc, Rat.mul_inv_cancel _ hb, Rat.mul_one]
theorem rv_sub {a f y : Option Rat} (h : (subO a (mulO f y)).isSome = true) : rv (subO a (mulO f y)) = rv a - rv f * rv y := by
  have chk_some : ∀ {q : Rat}, (chk q).isSome = true → chk q = some q := fun {q} h => by
    unfold chk at h ⊢
    split
    · rfl
    · rename_i hf; rw [if_neg hf] at h; cases h
  cases a with
  | none => cases h
  | some a =>
    cases f with
    | none => cases h
    | some f =>
      cases y with
      | none => cases h
      | some y =>
        have e1 : mulO (some f) (some y) = chk (f * y) := rfl
        cases hm : chk (f * y) with
        | none => rw [e1, hm] at h; cases h
        | some z =>
          have hz : z = f * y := by
            have := chk_some (q := f * y) (by rw [hm]; rfl)
            rw [hm] at this; injection this
          have e2 : subO (some a) (some z) = chk (a + -z) := rfl
          rw [e1, hm, e2] at h ⊢
          rw [chk_some h]
          show a + -z = a - f * y
          rw [hz, Rat.sub_eq_add_neg]
section
variable {r c k : Nat}
theorem ann_swp {g : Nat → Nat → Option Rat} {p u : Nat} (hp : p < r) (hu : u < r) {x : Nat → Rat} (h : Ann r c (swp g p u) x) : Ann r c g x := fun i hi => by
  by_cases h1 : i = p
  · have := h u hu
    by_cases h2 : u = p
    · subst h2; subst h1; simpa [swp] using this
    · simp only [swp, if_neg h2, if_true] at this; rw [h1]; exact this
  · by_cases h2 : i = u
    · have := h p hp
      simp only [swp, if_true] at this
      rw [h2]; exact this
    · have := h i hi
      simp only [swp, if_neg h1, if_neg h2] at this
      exact this
theorem ann_dvd {g : Nat → Nat → Option Rat} {u : Nat} (hall : ∀ i j, i < r → j < c → (dvd g u k i j).isSome = true) {x : Nat → Rat} (h : Ann r c (dvd g u k) x) : Ann r c g x := fun i hi => by
  have h1 := h i hi
  by_cases hu : i = u
  · subst hu
    have e : ∀ j, j < c → rv (g i j) = rv (g i k) * rv (dvd g i k i j) := fun j hj => by
      have := hall i j hi hj
      unfold dvd at this ⊢
      rw [if_pos rfl] at this ⊢
      exact (rv_div this).1
    rw [dot_congr e (fun _ _ => rfl), dot_scale, h1, Rat.mul_zero]
  · have e : ∀ j, j < c → rv (g i j) = rv (dvd g u k i j) := fun j _ => by
      unfold dvd; rw [if_neg hu]
    rw [dot_congr e (fun _ _ => rfl)]; exact h1
theorem ann_clr {g : Nat → Nat → Option Rat} {u : Nat} (hu : u < r) (hall : ∀ i j, i < r → j < c → (clr g u k i j).isSome = true) {x : Nat → Rat} (h : Ann r c (clr g u k) x) : Ann r c g x := fun i hi => by
  have hrow : dot c (fun j => rv (g u j)) x = 0 := by
    have := h u hu
    simp only [clr, if_true] at this
    exact this
  have h1 := h i hi
  by_cases hiu : i = u
  · rw [hiu]; exact hrow
  · by_cases h0 : g i k = some 0
    · have e : ∀ j, j < c → rv (g i j) = rv (clr g u k i j) := fun j _ => by
        unfold clr; rw [if_neg hiu, if_pos h0]
      rw [dot_congr e (fun _ _ => rfl)]; exact h1
    · have e : ∀ j, j < c → rv (g i j) = rv (clr g u k i j) + rv (g i k) * rv (g u j) := fun j hj => by
        have := hall i j hi hj
        unfold clr at this ⊢
        rw [if_neg hiu, if_neg h0] at this ⊢
        rw [rv_sub this]; grind
      rw [dot_congr e (fun _ _ => rfl), dot_add (fun j => rv (clr g u k i j)) (fun j => rv (g i k) * rv (g u j)), dot_scale, h1, hrow, Rat.mul_zero, Rat.add_zero]
theorem step_cases {s s' : ES} (h : EInv r c k s) (hk : k < c) (e : stepE r c k s = some s') :
    (s' = s ∧ ∀ i, s.pv.length ≤ i → i < r → s.g i k = some 0) ∨
    ∃ p, s.pv.length ≤ p ∧ p < r ∧ s.pv.length < r ∧ s.g p k ≠ some 0 ∧ (∀ i, s.pv.length ≤ i → i < p → s.g i k = some 0) ∧ (∀ i j, i < r → j < c → (dvd (swp s.g p s.pv.length) s.pv.length k i j).isSome = true) ∧
      (∀ i j, i < r → j < c → (clr (dvd (swp s.g p s.pv.length) s.pv.length k) s.pv.length k i j).isSome = true) ∧
      s' = ⟨clr (dvd (swp s.g p s.pv.length) s.pv.length k) s.pv.length k, s.pv ++ [(k : Int)], (s.fs ++ if p ≠ s.pv.length then [some (-1)] else []) ++ [swp s.g p s.pv.length s.pv.length k]⟩ := by
  unfold stepE at e
  split at e
  · rename_i hur
    obtain ⟨pl, ph⟩ := pivR_le s.g k (r - s.pv.length) s.pv.length
    have hz := pivR_zero s.g k (r - s.pv.length) s.pv.length
    have hne := pivR_ne s.g k (r - s.pv.length) s.pv.length
    generalize pivR s.g k (r - s.pv.length) s.pv.length = p at *
    simp only at e
    split at e
    · rename_i hpr
      injection e with e
      exact .inl ⟨e.symm, fun i h1 h2 => hz i h1 (by omega)⟩
    · rename_i hpr
      cases hall : (allG r c (dvd (swp s.g p s.pv.length) s.pv.length k) && allG r c (clr (dvd (swp s.g p s.pv.length) s.pv.length k) s.pv.length k)) with
      | false => rw [hall] at e; cases e
      | true =>
        rw [hall] at e
        injection e with e
        rw [Bool.and_eq_true] at hall
        exact .inr ⟨p, pl, by omega, hur, hne (by omega), hz, allG_iff.1 hall.1, allG_iff.1 hall.2, e.symm⟩
  · injection e with e
    exact .inl ⟨e.symm, fun i h1 h2 => by omega⟩
theorem ann_step {s s' : ES} (h : EInv r c k s) (hk : k < c) (e : stepE r c k s = some s') {x : Nat → Rat} (ha : Ann r c s'.g x) : Ann r c s.g x := by
  rcases step_cases h hk e with ⟨rfl, _⟩ | ⟨p, h1, h2, h3, h4, h5, h6, h7, rfl⟩
  · exact ha
  · exact ann_swp h2 h3 (ann_dvd h6 (ann_clr h3 h7 ha))
theorem ann_elim {g : Nat → Nat → Option Rat} (hg : Good2 r c g) {x : Nat → Rat} : ∀ {k : Nat} {s : ES}, k ≤ c → elim r c g k = some s → Ann r c s.g x → Ann r c g x
  | 0, s, _, e, h => by injection e with e; subst e; exact h
  | k + 1, s, hk, e, h => by
    unfold elim at e
    cases h0 : elim r c g k with
    | none => rw [h0] at e; cases e
    | some s0 =>
      rw [h0] at e
      exact ann_elim hg (by omega) h0 (ann_step (elim_inv hg (by omega) h0) (by omega) e h)
/-! ### The reduced form -/
def piv (s : ES) (t : Nat) : Nat := ((s.pv[t]?).getD 0).toNat
structure RInv (r c k : Nat) (s : ES) : Prop where
  val : ∀ t, t < s.pv.length → s.pv[t]? = some ((piv s t : Nat) : Int)
  lt : ∀ t, t < s.pv.length → piv s t < k
  asc : ∀ t t', t < t' → t' < s.pv.length → piv s t < piv s t'
  unit : ∀ t i, t < s.pv.length → i < r → s.g i (piv s t) = if i = t then some 1 else some 0
  lead : ∀ t j, t < s.pv.length → j < piv s t → s.g t j = some 0
theorem rinv_step {s s' : ES} (h : EInv r c k s) (hR : RInv r c k s) (hk : k < c) (e : stepE r c k s = some s') : RInv r c (k + 1) s' := by
  rcases step_cases h hk e with ⟨rfl, _⟩ | ⟨p, h1, h2, h3, h4, h5, h6, h7, rfl⟩
  · exact ⟨hR.val, fun t ht => by have := hR.lt t ht; omega, hR.asc, hR.unit, hR.lead⟩
  · have hg1 : ∀ t, t < s.pv.length → ∀ j, swp s.g p s.pv.length t j = s.g t j := fun t ht j => by
      unfold swp; rw [if_neg (by omega), if_neg (by omega)]
    have g1 := swp_good (u := s.pv.length) h.good h2 h3
    have z1 := swp_zero (c := c) h3 h2 h1 h.zero
    have hpk : swp s.g p s.pv.length s.pv.length k ≠ some 0 := by
      unfold swp
      split
      · rename_i e; rw [e]; exact h4
      · rw [if_pos rfl]; exact h4
    -- columns of earlier pivots behind the exchange
    have u1 : ∀ t i, t < s.pv.length → i < r → swp s.g p s.pv.length i (piv s t) = if i = t then some 1 else some 0 := fun t i ht hi => by
      unfold swp
      split
      · rename_i e; rw [hR.unit t _ ht h3, if_neg (by omega), if_neg (by omega)]
      · split
        · rw [hR.unit t _ ht h2, if_neg (by omega), if_neg (by omega)]
        · exact hR.unit t i ht hi
    have hu := h3
    generalize swp s.g p s.pv.length = gg at *
    obtain ⟨y, hy⟩ := Option.isSome_iff_exists.1 (g1 s.pv.length k hu hk).2
    have hy0 : y ≠ 0 := fun e0 => hpk (by rw [hy, e0])
    have hzu : ∀ j, j < k → dvd gg s.pv.length k s.pv.length j = some 0 := fun j hj => by
      unfold dvd; rw [if_pos rfl, z1 _ j (Nat.le_refl _) hu hj (by omega), hy, divO_zero hy0]
    have hone : dvd gg s.pv.length k s.pv.length k = some 1 := by unfold dvd; rw [if_pos rfl, hy, divO_self hy0]
    have dother : ∀ i j, i ≠ s.pv.length → dvd gg s.pv.length k i j = gg i j := fun i j hi => by unfold dvd; rw [if_neg hi]
    -- numbers left of column k stay, in rows other than the new one
    have cleft : ∀ i j, i < r → i ≠ s.pv.length → j < k → clr (dvd gg s.pv.length k) s.pv.length k i j = gg i j := fun i j hi hne hj => by
      unfold clr
      rw [if_neg hne, dother i k hne, dother i j hne, hzu j hj]
      split
      · rfl
      · obtain ⟨x, hx⟩ := Option.isSome_iff_exists.1 (g1 i k hi hk).2
        rw [hx, mulO_zero_r, subO_zero (g1 i j hi (by omega)).1]
    have ccol : ∀ i, i < r → clr (dvd gg s.pv.length k) s.pv.length k i k = if i = s.pv.length then some 1 else some 0 := fun i hi => by
      unfold clr
      by_cases hne : i = s.pv.length
      · rw [if_pos hne, if_pos hne, hone]
      · rw [if_neg hne, if_neg hne, dother i k hne, hone]
        obtain ⟨x, hx⟩ := Option.isSome_iff_exists.1 (g1 i k hi hk).2
        split
        · assumption
        · rw [hx, mulO_one ((g1 i k hi hk).1 |> fun h => by rw [hx] at h; exact h), subO_self]
    have crow : ∀ j, clr (dvd gg s.pv.length k) s.pv.length k s.pv.length j = dvd gg s.pv.length k s.pv.length j := fun j => by unfold clr; rw [if_pos rfl]
    have hpold : ∀ t, t < s.pv.length → piv ⟨clr (dvd gg s.pv.length k) s.pv.length k, s.pv ++ [(k : Int)], (s.fs ++ if p ≠ s.pv.length then [some (-1)] else []) ++ [gg s.pv.length k]⟩ t = piv s t := fun t ht => by
      unfold piv; simp only; rw [List.getElem?_append_left ht]
    have hpnew : piv ⟨clr (dvd gg s.pv.length k) s.pv.length k, s.pv ++ [(k : Int)], (s.fs ++ if p ≠ s.pv.length then [some (-1)] else []) ++ [gg s.pv.length k]⟩ s.pv.length = k := by
      unfold piv; simp only; rw [List.getElem?_append_right (Nat.le_refl _), Nat.sub_self]; simp
    have hlen : (s.pv ++ [(k : Int)]).length = s.pv.length + 1 := by simp
    refine ⟨fun t ht => ?_, fun t ht => ?_, fun t t' htt ht' => ?_, fun t i ht hi => ?_, fun t j ht hj => ?_⟩
    · simp only [hlen] at ht
      by_cases h8 : t < s.pv.length
      · rw [hpold t h8]; simp only; rw [List.getElem?_append_left h8]; exact hR.val t h8
      · have : t = s.pv.length := by omega
        subst this
        rw [hpnew]; simp only; rw [List.getElem?_append_right (Nat.le_refl _), Nat.sub_self]; rfl
    · simp only [hlen] at ht
      by_cases h8 : t < s.pv.length
      · rw [hpold t h8]; have := hR.lt t h8; omega
      · have : t = s.pv.length := by omega
        subst this
        rw [hpnew]; omega
    · simp only [hlen] at ht'
      rw [hpold t (by omega)]
      by_cases h8 : t' < s.pv.length
      · rw [hpold t' h8]; exact hR.asc t t' htt h8
      · have : t' = s.pv.length := by omega
        subst this
        rw [hpnew]; exact hR.lt t (by omega)
    · simp only [hlen] at ht
      by_cases h8 : t < s.pv.length
      · rw [hpold t h8]
        have hlt := hR.lt t h8
        show clr (dvd gg s.pv.length k) s.pv.length k i (piv s t) = _
        by_cases hne : i = s.pv.length
        · rw [hne, crow, hzu _ hlt, if_neg (by omega)]
        · rw [cleft i _ hi hne hlt]; exact u1 t i h8 hi
      · have : t = s.pv.length := by omega
        subst this
        rw [hpnew]; exact ccol i hi
    · simp only [hlen] at ht
      by_cases h8 : t < s.pv.length
      · rw [hpold t h8] at hj
        have hlt := hR.lt t h8
        show clr (dvd gg s.pv.length k) s.pv.length k t j = _
        rw [cleft t j (by omega) (by omega) (by omega), hg1 t h8]
        exact hR.lead t j h8 hj
      · have : t = s.pv.length := by omega
        subst this
        rw [hpnew] at hj
        show clr (dvd gg s.pv.length k) s.pv.length k s.pv.length j = _
        rw [crow, hzu j hj]
theorem elim_rinv {g : Nat → Nat → Option Rat} (hg : Good2 r c g) : ∀ {k : Nat} {s : ES}, k ≤ c → elim r c g k = some s → RInv r c k s := by
  intro k
  induction k with
  | zero =>
    intro s _ e
    injection e with e; subst e
    exact ⟨fun t h => by simp at h, fun t h => by simp at h, fun t t' _ h => by simp at h, fun t i h _ => by simp at h, fun t j h _ => by simp at h⟩
  | succ k ih =>
    intro s hk e
    unfold elim at e
    cases h0 : elim r c g k with
    | none => rw [h0] at e; cases e
    | some s0 =>
      rw [h0] at e
      exact rinv_step (elim_inv hg (by omega) h0) (ih (by omega) h0) (by omega) e
end
end Go.Di
namespace Go.Di
theorem zero_ro (o : Option Rat) : M_impl_isZero (ro o) = some (decide (o = some 0 ∨ o = none)) := nil_ro o
theorem row_md {r c : Nat} {xs : List Rt} (hr : r ≤ 24) (hc : c ≤ 200) (hl : xs.length = r * c) {i : Nat} (hi : i < r) (x : Int) :
    M_impl_Matrix_row_md ⟨x, c, xs⟩ i = some ((i * c, c), xs) := by
  have h1 : i * c ≤ 24 * 200 := Nat.mul_le_mul (by omega) hc
  have h2 : (i + 1) * c ≤ 24 * 200 := Nat.mul_le_mul (by omega) hc
  have h3 : (i + 1) * c ≤ r * c := Nat.mul_le_mul_right c hi
  have e1 : IntKind.i64.wrap ((i : Int) * (c : Int)) = ((i * c : Nat) : Int) := by
    rw [show ((i : Int) * (c : Int)) = ((i * c : Nat) : Int) by simp]; exact wrap_i64 (by omega) (by omega)
  have e0 : IntKind.i64.wrap ((i : Int) + 1) = ((i + 1 : Nat) : Int) := by
    rw [wrap_i64 (by omega) (by omega)]; omega
  have e2 : IntKind.i64.wrap (((i + 1 : Nat) : Int) * (c : Int)) = (((i + 1) * c : Nat) : Int) := by
    rw [show (((i + 1 : Nat) : Int) * (c : Int)) = (((i + 1) * c : Nat) : Int) by simp]; exact wrap_i64 (by omega) (by omega)
  have h4 : (i + 1) * c = i * c + c := by rw [Nat.add_mul, Nat.one_mul]
  unfold M_impl_Matrix_row_md
  simp only [e0, e1, e2, Int.toNat_natCast]
  have hin : inside xs.length (((i * c : Nat) : Int), (((i + 1) * c : Nat) : Int)) = true := by
    unfold inside
    simp only [Bool.and_eq_true, decide_eq_true_iff]
    omega
  rw [hin, show (i + 1) * c - i * c = c by omega]; rfl
theorem idx_cut {α : Type} {xs : List α} {lo len k : Nat} (hk : k < len) (h : lo + len ≤ xs.length) : idx (cut xs lo (lo + len)) (k : Int) = xs[lo + k]? := by
  rw [idx_nat]; unfold cut
  rw [List.getElem?_drop, List.getElem?_take_of_lt (by omega)]
theorem idx_rowG {r c : Nat} {g : Nat → Nat → Option Rat} {i k : Nat} (hi : i < r) (hk : k < c) : idx (cut ((grid r c g).map ro) (i * c) (i * c + c)) (k : Int) = some (ro (g i k)) := by
  rw [idx_cut hk (by rw [List.length_map, len_grid, ← Nat.succ_mul]; exact Nat.mul_le_mul_right c hi), get_grid hi hk]
theorem row_cut {r c : Nat} {g : Nat → Nat → Option Rat} {i : Nat} (hi : i < r) : cut ((grid r c g).map ro) (i * c) (i * c + c) = ((List.range c).map (g i)).map ro := by
  apply List.ext_getElem?
  intro k
  by_cases hk : k < c
  · have h1 := idx_rowG (g := g) hi hk
    rw [idx_nat] at h1
    rw [h1]
    simp [hk]
  · rw [List.getElem?_eq_none, List.getElem?_eq_none]
    · simp; omega
    · unfold cut; simp; omega
theorem row_all {r c : Nat} {g : Nat → Nat → Option Rat} {i : Nat} (hi : i < r) (hc : c ≤ 200) : M_impl_complete (cut ((grid r c g).map ro) (i * c) (i * c + c)) = some (((List.range c).map (g i)).all Option.isSome) := by
  rw [row_cut hi, impl_complete (by simp; omega)]
section
variable {r c : Nat} {g : Nat → Nat → Option Rat} {k u : Nat}
theorem iel_find (hr : r ≤ 24) (hc : c ≤ 200) (hg : Good2 r c g) (hk : k < c) (hu : u ≤ r) (n v v1 v5 v6 : Int) (v2 v4 fs : List Rt) (v3 pv : List Int) :
    L_impl_reduce_1 n k u v v1 v2 v3 v4 v5 v6 r c ((grid r c g).map ro) pv fs = some (n, (k : Int), ((pivR g k (r - u) u : Nat) : Int), v, v1, v2, v3, v4, v5, v6, (r : Int), (c : Int), (grid r c g).map ro, pv, fs, ()) := by
  unfold L_impl_reduce_1
  have key : ∀ s i, i + s = r → whileO S_impl_reduce_1 (n, (k : Int), (i : Int), v, v1, v2, v3, v4, v5, v6, (r : Int), (c : Int), (grid r c g).map ro, pv, fs, ()) = some (n, (k : Int), ((pivR g k s i : Nat) : Int), v, v1, v2, v3, v4, v5, v6, (r : Int), (c : Int), (grid r c g).map ro, pv, fs, ()) := by
    intro s
    induction s with
    | zero =>
      intro i hi
      apply whileO_inr
      simp [S_impl_reduce_1, pivR, show i = r by omega]
    | succ s ih =>
      intro i hi
      have hir : i < r := by omega
      by_cases h0 : g i k = some 0
      · rw [whileO_inl (y := (n, (k : Int), ((i + 1 : Nat) : Int), v, v1, v2, v3, v4, v5, v6, (r : Int), (c : Int), (grid r c g).map ro, pv, fs, ()))]
        · rw [ih (i + 1) (by omega), pivR, if_pos h0]
        · simp only [S_impl_reduce_1, dlt hir, cond_true, at_grid' (show r ≤ 1000 by omega) (show c ≤ 1000 by omega) hir hk, Option.bind_some, zero_ro, h0, succ_wrap hir (show r ≤ 1048576 by omega)]
          simp
      · apply whileO_inr
        have hsm := (hg i k hir hk).2
        have hn : ¬ (g i k = some 0 ∨ g i k = none) := by
          rintro (h | h)
          · exact h0 h
          · rw [h] at hsm; cases hsm
        simp only [S_impl_reduce_1, dlt hir, cond_true, at_grid' (show r ≤ 1000 by omega) (show c ≤ 1000 by omega) hir hk, Option.bind_some, zero_ro, decide_eq_false hn, cond_false, pivR, if_neg h0]
  exact key (r - u) u (by omega)
theorem iel_swap (hc : c ≤ 200) {p : Nat} (hp : p < r) (hu : u < r) (n k0 v v1 v5 v6 : Int) (v2 v4 fs : List Rt) (v3 pv : List Int) :
    L_impl_reduce_2 n k0 (p * c) c (u * c) c c 0 v v1 v2 v3 v4 v5 v6 r c ((grid r c g).map ro) fs pv =
      some (n, k0, v, v1, v2, v3, v4, v5, v6, (r : Int), (c : Int), (grid r c (swp g p u)).map ro, fs, pv, ()) := by
  unfold L_impl_reduce_2
  have key := whileO_upto S_impl_reduce_2 (fun j => (n, k0, p * c, c, u * c, c, (c : Int), (j : Int), v, v1, v2, v3, v4, v5, v6, (r : Int), (c : Int), (grid r c (fun a b => if b < j then swp g p u a b else g a b)).map ro, fs, pv, ())) c
    (n, k0, v, v1, v2, v3, v4, v5, v6, (r : Int), (c : Int), (grid r c (fun a b => if b < c then swp g p u a b else g a b)).map ro, fs, pv, ()) (fun j hj => by
      have s1 := set_grid (r := r) (c := c) (g := fun a b => if b < j then swp g p u a b else g a b) (h := fun a b => if a = p ∧ b = j then g u j else if b < j then swp g p u a b else g a b) (o := g u j) hp hj (fun a b _ _ => rfl)
      have s2 := set_grid (r := r) (c := c) (g := fun a b => if a = p ∧ b = j then g u j else if b < j then swp g p u a b else g a b) (h := fun a b => if b < j + 1 then swp g p u a b else g a b) (o := g p j) hu hj (fun a b _ _ => by
        unfold swp
        by_cases hb : b = j
        · subst hb
          by_cases h1 : a = u
          · subst h1
            by_cases h2 : a = p
            · subst h2; simp
            · simp [h2]
          · by_cases h2 : a = p
            · subst h2; simp [h1]
            · simp [h1, h2]
        · have : (b < j + 1) = (b < j) := by rw [eq_iff_iff]; omega
          simp [hb, this])
      simp only [S_impl_reduce_2, dlt hj, cond_true, idx_rowG hp hj, idx_rowG hu hj, Int.toNat_natCast, get_grid hp hj, get_grid hu hj, Option.bind_some, Nat.lt_irrefl, if_false, s1, s2, succ_wrap hj (show c ≤ 1048576 by omega)]) (by simp [S_impl_reduce_2])
  refine Eq.trans ?_ (key.trans ?_)
  · rw [grid_congr (r := r) (c := c) (g := fun a b => if b < 0 then swp g p u a b else g a b) (h := g) (fun a b _ _ => by simp)]; rfl
  · rw [grid_congr (r := r) (c := c) (g := fun a b => if b < c then swp g p u a b else g a b) (h := swp g p u) (fun a b _ hb => by simp [hb])]
theorem iel_div (hc : c ≤ 200) (hg : Good2 r c g) (hk : k < c) (hu : u < r) (n k0 v v1 v5 v6 : Int) (v2 v4 fs : List Rt) (v3 pv : List Int) :
    L_impl_reduce_3 n k0 (u * c) c c 0 v v1 v2 v3 v4 v5 v6 r c (ro (g u k)).neg (ro (g u k)).mag (ro (g u k)).den ((grid r c g).map ro) fs pv =
      some (n, k0, u * c, c, v, v1, v2, v3, v4, v5, v6, (r : Int), (c : Int), (grid r c (dvd g u k)).map ro, fs, pv, ()) := by
  unfold L_impl_reduce_3
  have key := whileO_upto S_impl_reduce_3 (fun j => (n, k0, u * c, c, (c : Int), (j : Int), v, v1, v2, v3, v4, v5, v6, (r : Int), (c : Int), (ro (g u k)).neg, (ro (g u k)).mag, (ro (g u k)).den, (grid r c (fun a b => if b < j then dvd g u k a b else g a b)).map ro, fs, pv, ())) c
    (n, k0, u * c, c, v, v1, v2, v3, v4, v5, v6, (r : Int), (c : Int), (grid r c (fun a b => if b < c then dvd g u k a b else g a b)).map ro, fs, pv, ()) (fun j hj => by
      have s1 := set_grid (r := r) (c := c) (g := fun a b => if b < j then dvd g u k a b else g a b) (h := fun a b => if b < j + 1 then dvd g u k a b else g a b) (o := divO (g u j) (g u k)) hu hj (fun a b _ _ => by
        unfold dvd
        by_cases hb : b = j
        · subst hb
          by_cases h1 : a = u
          · subst h1; simp
          · simp [h1]
        · have : (b < j + 1) = (b < j) := by rw [eq_iff_iff]; omega
          simp [hb, this])
      have hd := impl_divO (hg u j hu hj).1 (hg u k hu hk).1
      simp only [S_impl_reduce_3, dlt hj, cond_true, idx_rowG hu hj, Int.toNat_natCast, get_grid hu hj, Option.bind_some, Nat.lt_irrefl, if_false]
      show ((M_impl_div (ro (g u j)) (ro (g u k))).bind _) = _
      simp only [hd, Option.bind_some, s1, succ_wrap hj (show c ≤ 1048576 by omega)]) (by simp [S_impl_reduce_3])
  refine Eq.trans ?_ (key.trans ?_)
  · rw [grid_congr (r := r) (c := c) (g := fun a b => if b < 0 then dvd g u k a b else g a b) (h := g) (fun a b _ _ => by simp)]; rfl
  · rw [grid_congr (r := r) (c := c) (g := fun a b => if b < c then dvd g u k a b else g a b) (h := dvd g u k) (fun a b _ hb => by simp [hb])]
theorem iel_clear1 (hc : c ≤ 200) (hg : ∀ i k, i < r → k < c → Oks (g i k)) {i : Nat} (hi : i < r) (hu : u < r) (hiu : i ≠ u) {f : Option Rat} (hf : Oks f) (n k0 t t1 v v1 v5 v6 : Int) (v2 v4 fs : List Rt) (v3 pv : List Int) :
    L_impl_reduce_5 n k0 (u * c) c (i * c) c t t1 c 0 v v1 v2 v3 v4 v5 v6 r c (ro f).neg (ro f).mag (ro f).den ((grid r c g).map ro) fs pv =
      some (n, k0, u * c, c, i * c, c, t, t1, v, v1, v2, v3, v4, v5, v6, (r : Int), (c : Int), (grid r c (fun a b => if a = i then subO (g i b) (mulO f (g u b)) else g a b)).map ro, fs, pv, ()) := by
  unfold L_impl_reduce_5
  have key := whileO_upto S_impl_reduce_5 (fun j => (n, k0, u * c, c, i * c, c, t, t1, (c : Int), (j : Int), v, v1, v2, v3, v4, v5, v6, (r : Int), (c : Int), (ro f).neg, (ro f).mag, (ro f).den, (grid r c (fun a b => if a = i ∧ b < j then subO (g i b) (mulO f (g u b)) else g a b)).map ro, fs, pv, ())) c
    (n, k0, u * c, c, i * c, c, t, t1, v, v1, v2, v3, v4, v5, v6, (r : Int), (c : Int), (grid r c (fun a b => if a = i ∧ b < c then subO (g i b) (mulO f (g u b)) else g a b)).map ro, fs, pv, ()) (fun j hj => by
      have s1 := set_grid (r := r) (c := c) (g := fun a b => if a = i ∧ b < j then subO (g i b) (mulO f (g u b)) else g a b) (h := fun a b => if a = i ∧ b < j + 1 then subO (g i b) (mulO f (g u b)) else g a b) (o := subO (g i j) (mulO f (g u j))) hi hj (fun a b _ _ => by
        by_cases hb : b = j
        · subst hb
          by_cases h1 : a = i
          · subst h1; simp
          · simp [h1]
        · have : (b < j + 1) = (b < j) := by rw [eq_iff_iff]; omega
          simp [hb, this])
      have hui : u ≠ i := fun e => hiu e.symm
      simp only [S_impl_reduce_5, dlt hj, cond_true, idx_rowG hu hj, idx_rowG hi hj, Int.toNat_natCast, get_grid hu hj, get_grid hi hj, Option.bind_some, Nat.lt_irrefl, and_false, if_false, hui, false_and]
      show ((M_impl_mul (ro f) (ro (g u j))).bind _) = _
      simp only [impl_mulO hf (hg u j hu hj), Option.bind_some, impl_subO (hg i j hi hj) (oks_mulO (o := f) (p := g u j)), s1, succ_wrap hj (show c ≤ 1048576 by omega)]) (by simp [S_impl_reduce_5])
  refine Eq.trans ?_ (key.trans ?_)
  · rw [grid_congr (r := r) (c := c) (g := fun a b => if a = i ∧ b < 0 then subO (g i b) (mulO f (g u b)) else g a b) (h := g) (fun a b _ _ => by simp)]; rfl
  · rw [grid_congr (r := r) (c := c) (g := fun a b => if a = i ∧ b < c then subO (g i b) (mulO f (g u b)) else g a b) (h := fun a b => if a = i then subO (g i b) (mulO f (g u b)) else g a b) (fun a b _ hb => by simp [hb])]
noncomputable def rowB (c : Nat) (g : Nat → Nat → Option Rat) (i : Nat) : Bool := ((List.range c).map (g i)).all Option.isSome
theorem rowB_iff {i : Nat} : rowB c g i = true ↔ ∀ j, j < c → (g i j).isSome = true := by
  unfold rowB
  rw [List.all_eq_true]
  constructor
  · intro h j hj; exact h _ (List.mem_map.2 ⟨j, List.mem_range.2 hj, rfl⟩)
  · intro h o ho; obtain ⟨j, hj, rfl⟩ := List.mem_map.1 ho; exact h j (List.mem_range.1 hj)
theorem rows_allG : (List.range r).all (rowB c g) = allG r c g := by
  rw [Bool.eq_iff_iff, List.all_eq_true, allG_iff]
  constructor
  · intro h i j hi hj; exact rowB_iff.1 (h i (List.mem_range.2 hi)) j hj
  · intro h i hi; exact rowB_iff.2 fun j hj => h i j (List.mem_range.1 hi) hj
theorem iel_clear (hr : r ≤ 24) (hc : c ≤ 200) (hg : ∀ i k, i < r → k < c → Oks (g i k)) (hall : ∀ i k, i < r → k < c → (g i k).isSome = true) (hu : u < r) (hk : k < c) (v v1 v5 v6 : Int) (v2 v4 fs : List Rt) (v3 pv : List Int) :
    L_impl_reduce_4 u k (u * c) c r 0 v v1 v2 v3 v4 v5 v6 r c ((grid r c g).map ro) fs pv =
      some (cond (allG r c (clr g u k)) (.inr ((u : Int), (k : Int), v, v1, v2, v3, v4, v5, v6, (r : Int), (c : Int), (grid r c (clr g u k)).map ro, fs, pv, ())) (.inl (false, 0, 0, [], [], [], ()))) := by
  unfold L_impl_reduce_4
  rw [← rows_allG]
  have hgi : ∀ i, clr g u k i = (fun b => clr g u k i b) := fun _ => rfl
  have key := stop_loop (S := S_impl_reduce_4) (fun i => ((u : Int), (k : Int), u * c, c, (r : Int), (i : Int), v, v1, v2, v3, v4, v5, v6, (r : Int), (c : Int), (grid r c (fun a b => if a < i then clr g u k a b else g a b)).map ro, fs, pv, ())) r (rowB c (clr g u k))
    (.inl (false, 0, 0, [], [], [], ())) (.inr ((u : Int), (k : Int), v, v1, v2, v3, v4, v5, v6, (r : Int), (c : Int), (grid r c (clr g u k)).map ro, fs, pv, ())) (fun i hi _ => by
      have same : (∀ b, clr g u k i b = g i b) → grid r c (fun a b => if a < i + 1 then clr g u k a b else g a b) = grid r c (fun a b => if a < i then clr g u k a b else g a b) := fun h => grid_congr fun a b _ _ => by
        by_cases h1 : a < i
        · rw [if_pos h1, if_pos (by omega)]
        · rw [if_neg h1]
          by_cases h2 : a = i
          · subst h2; rw [if_pos (by omega), h]
          · rw [if_neg (by omega)]
      have whole : (∀ b, clr g u k i b = g i b) → rowB c (clr g u k) i = true := fun h => rowB_iff.2 fun j hj => by rw [h]; exact hall i j hi hj
      have hrow := row_md (xs := (grid r c (fun a b => if a < i then clr g u k a b else g a b)).map ro) hr hc (by rw [List.length_map, len_grid]) hi r
      simp only [S_impl_reduce_4, dlt hi, cond_true, hrow, Option.bind_some]
      by_cases hiu : i = u
      · subst hiu
        have e : ∀ b, clr g i k i b = g i b := fun b => by unfold clr; rw [if_pos rfl]
        rw [same e, whole e]
        simp only [beq_self_eq_true, cond_true, succ_wrap hi (show r ≤ 1048576 by omega)]
      · have hb : ((i : Int) == (u : Int)) = false := by
          rw [beq_eq_false_iff_ne]; omega
        have hui : (if u < i then clr g u k u k else g u k) = g u k := by
          split
          · unfold clr; rw [if_pos rfl]
          · rfl
        have gk : idx (cut ((grid r c (fun a b => if a < i then clr g u k a b else g a b)).map ro) (i * c) (i * c + c)) (k : Int) = some (ro (g i k)) := by
          rw [idx_rowG hi hk, if_neg (Nat.lt_irrefl i)]
        have gg : ((grid r c (fun a b => if a < i then clr g u k a b else g a b)).map ro)[i * c + k]? = some (ro (g i k)) := by
          rw [get_grid hi hk, if_neg (Nat.lt_irrefl i)]
        simp only [hb, cond_false, gk, Int.toNat_natCast, gg, Option.bind_some, zero_ro]
        have hnn : g i k ≠ none := fun e => by have := hall i k hi hk; rw [e] at this; cases this
        by_cases h0 : g i k = some 0
        · have e : ∀ b, clr g u k i b = g i b := fun b => by unfold clr; rw [if_neg hiu, if_pos h0]
          rw [decide_eq_true (.inl h0), cond_true, same e, whole e]
          simp only [cond_true, succ_wrap hi (show r ≤ 1048576 by omega)]
        · rw [decide_eq_false (by rintro (h | h); exact h0 h; exact hnn h), cond_false]
          have h1 := iel_clear1 (u := u) (g := fun a b => if a < i then clr g u k a b else g a b) hc (fun a b h1 h2 => by
            show Oks (if a < i then clr g u k a b else g a b)
            split
            · exact oks_clr hg h1 h2
            · exact hg a b h1 h2) hi hu hiu (hg i k hi hk) u k r i v v1 v5 v6 v2 v4 fs v3 pv
          have hgrid : grid r c (fun a b => if a = i then subO (if i < i then clr g u k i b else g i b) (mulO (g i k) (if u < i then clr g u k u b else g u b)) else if a < i then clr g u k a b else g a b) = grid r c (fun a b => if a < i + 1 then clr g u k a b else g a b) := grid_congr fun a b _ _ => by
            by_cases h2 : a = i
            · subst h2
              have hsu : (if u < a then clr g u k u b else g u b) = g u b := by
                split
                · unfold clr; rw [if_pos rfl]
                · rfl
              rw [if_pos rfl, if_pos (show a < a + 1 by omega), if_neg (Nat.lt_irrefl a), hsu]
              unfold clr; rw [if_neg hiu, if_neg h0]
            · rw [if_neg h2]
              have : (a < i + 1) = (a < i) := by rw [eq_iff_iff]; omega
              simp only [this]
          rw [hgrid] at h1
          rw [h1]
          simp only [Option.bind_some]
          rw [row_all hi hc]
          have hrb : (((List.range c).map fun b => if i < i + 1 then clr g u k i b else g i b).all Option.isSome) = rowB c (clr g u k) i := by
            unfold rowB; congr 2; funext b; rw [if_pos (by omega)]
          rw [hrb, Option.bind_some]
          cases rowB c (clr g u k) i with
          | false => rfl
          | true => simp only [Bool.not_true, cond_false, cond_true, succ_wrap hi (show r ≤ 1048576 by omega)]) (fun _ => by
      have e : grid r c (fun a b => if a < r then clr g u k a b else g a b) = grid r c (clr g u k) := grid_congr fun a b h _ => if_pos h
      simp [S_impl_reduce_4, e])
  refine Eq.trans ?_ key
  rw [grid_congr (r := r) (c := c) (g := fun a b => if a < 0 then clr g u k a b else g a b) (h := g) (fun a b _ _ => if_neg (by omega))]; rfl
end
end Go.Di
namespace Go.Di
end Go.Di
namespace Go.Di
end Go.Di
namespace Go.Di
section
variable {r c : Nat} {g : Nat → Nat → Option Rat} {k : Nat}
noncomputable def ist (r c k : Nat) (s : ES) : Int × Int × Int × Int × (List Rt) × (List Int) × (List Rt) × Int × Int × Int × Int × (List Rt) × (List Int) × (List Rt) × Unit :=
  ((s.pv.length : Int), (k : Int), 0, 0, [], [], [], (r : Int), (c : Int), (r : Int), (c : Int), (grid r c s.g).map ro, s.pv, s.fs.map ro, ())
theorem impl_step {s : ES} (hr : r ≤ 24) (hc : c ≤ 200) (h : EInv r c k s) (hk : k < c) (hur : s.pv.length < r) :
    (∃ s', stepE r c k s = some s' ∧ S_impl_reduce_0 (ist r c k s) = some (.inl (ist r c (k + 1) s'))) ∨
    (stepE r c k s = none ∧ S_impl_reduce_0 (ist r c k s) = some (.inr (.inl (false, 0, 0, [], [], [], ())))) := by
  unfold stepE
  rw [if_pos hur]
  obtain ⟨pl, ph⟩ := pivR_le s.g k (r - s.pv.length) s.pv.length
  have hfind := iel_find (u := s.pv.length) hr hc h.good hk (Nat.le_of_lt hur) s.pv.length 0 0 r c [] [] (s.fs.map ro) [] s.pv
  have hne : pivR s.g k (r - s.pv.length) s.pv.length < s.pv.length + (r - s.pv.length) → s.g (pivR s.g k (r - s.pv.length) s.pv.length) k ≠ some 0 := pivR_ne s.g k _ _
  generalize pivR s.g k (r - s.pv.length) s.pv.length = p at *
  simp only
  have hdec : decide ((s.pv.length : Int) < (r : Int)) = true := decide_eq_true (by omega)
  have fl1 : guardO (Nat.ble ((s.fs.map ro).length + 1) maxNew) = some () := room1 (by rw [List.length_map]; have := h.fslen; omega)
  have fl2 : guardO (Nat.ble ((s.fs.map ro ++ [ro (some (-1))]).length + 1) maxNew) = some () := room1 (by rw [List.length_append, List.length_map]; have := h.fslen; simp; omega)
  have pl1 : guardO (Nat.ble (s.pv.length + 1) maxNew) = some () := room1 (by omega)
  by_cases hpr : p = r
  · subst hpr
    left
    rw [if_pos rfl]
    refine ⟨s, rfl, ?_⟩
    unfold ist
    simp only [S_impl_reduce_0, dlt hk, cond_true, hdec, hfind, Option.bind_some, beq_self_eq_true, succ_wrap hk (show c ≤ 1048576 by omega)]
  · rw [if_neg hpr]
    have hp : p < r := by omega
    have hne := hne (by omega)
    have g1 := swp_good (u := s.pv.length) h.good hp hur
    have z1 := swp_zero (c := c) hur hp pl h.zero
    have e1 : swp s.g p s.pv.length s.pv.length k = s.g p k := by
      unfold swp
      split
      · rename_i e; rw [e]
      · rw [if_pos rfl]
    have hself : p = s.pv.length → swp s.g p s.pv.length = s.g := fun e => by
      subst e; funext a b; unfold swp; split
      · rename_i h; rw [h]
      · rfl
    have hsw := iel_swap (g := s.g) (r := r) (c := c) hc hp hur s.pv.length k 0 0 r c [] [] (s.fs.map ro ++ [ro (some (-1))]) [] s.pv
    have hrow1 := row_md (xs := (grid r c s.g).map ro) hr hc (by rw [List.length_map, len_grid]) hp r
    have hrow2 := row_md (xs := (grid r c s.g).map ro) hr hc (by rw [List.length_map, len_grid]) hur r
    generalize swp s.g p s.pv.length = gg at *
    obtain ⟨y, hy⟩ := Option.isSome_iff_exists.1 (g1 s.pv.length k hur hk).2
    have hy0 : y ≠ 0 := fun e0 => hne (by rw [← e1, hy, e0])
    have hbeq : ((p : Int) == (r : Int)) = false := by rw [beq_eq_false_iff_ne]; omega
    have hrow3 := row_md (xs := (grid r c gg).map ro) hr hc (by rw [List.length_map, len_grid]) hur r
    have hat1 := idx_rowG (r := r) (c := c) (g := gg) hur hk
    have hat2 := get_grid (r := r) (c := c) (g := gg) hur hk
    have hdivl := fun fs => iel_div (r := r) (c := c) (g := gg) hc g1 hk hur s.pv.length k 0 0 r c [] [] fs [] s.pv
    have o2 : ∀ i j, i < r → j < c → Oks (dvd gg s.pv.length k i j) := fun i j hi hj => oks_dvd g1 hi hj
    have hrowc := row_all (r := r) (c := c) (g := dvd gg s.pv.length k) hur hc
    have htop : (((List.range c).map (dvd gg s.pv.length k s.pv.length)).all Option.isSome) = allG r c (dvd gg s.pv.length k) := by
      rw [Bool.eq_iff_iff, allG_iff]
      have hb := rowB_iff (c := c) (g := dvd gg s.pv.length k) (i := s.pv.length)
      refine hb.trans ⟨fun ha i j hi hj => ?_, fun ha j hj => ha _ j hur hj⟩
      by_cases hiu : i = s.pv.length
      · rw [hiu]; exact ha j hj
      · unfold dvd; rw [if_neg hiu]; exact (g1 i j hi hj).2
    rw [htop] at hrowc
    have hS : S_impl_reduce_0 (ist r c k s) = cond (!allG r c (dvd gg s.pv.length k)) (some (.inr (.inl (false, 0, 0, [], [], [], ()))))
        ((L_impl_reduce_4 s.pv.length k (s.pv.length * c) c r 0 0 0 [] [] [] r c r c ((grid r c (dvd gg s.pv.length k)).map ro) (((s.fs ++ if p ≠ s.pv.length then [some (-1)] else []) ++ [gg s.pv.length k]).map ro) s.pv).bind fun r1 =>
        match r1 with
        | .inl (t, v27, v28, v29, v30, v31, _) => some (.inr (.inl (t, v27, v28, v29, v30, v31, ())))
        | .inr (used3, c3, v32, v33, v34, v35, v36, v37, v38, v39, v40, xs9, xs10, xs11, _) =>
          (guardO (Nat.ble (xs11.length + 1) maxNew)).bind fun _ =>
          some (.inl (IntKind.i64.wrap (used3 + 1), IntKind.i64.wrap (c3 + 1), v32, v33, v34, v35, v36, v37, v38, v39, v40, xs9, xs11 ++ ([c3] : List Int), xs10, ()))) := by
      by_cases hpu : p = s.pv.length
      · have hbne : ((p : Int) != (s.pv.length : Int)) = false := by rw [hpu]; simp
        rw [if_neg (fun h => h hpu), List.append_nil, List.map_append, List.map_singleton]
        have hg := hself hpu
        unfold ist
        simp only [S_impl_reduce_0, dlt hk, cond_true, hdec, hfind, Option.bind_some, hbeq, cond_false, hbne]
        rw [← hg]
        simp only [hrow3, hat1, hat2, Int.toNat_natCast, Option.bind_some, fl1, hdivl, hrowc]
        rfl
      · have hbne : ((p : Int) != (s.pv.length : Int)) = true := by
          rw [bne_iff_ne]; omega
        have hm1 : M_impl_whole (-1) = some (ro (some (-1))) := by
          have := impl_whole (n := -1) (by omega) (by omega)
          rw [this]; simp
        rw [if_pos hpu, List.map_append, List.map_append, List.map_singleton, List.map_singleton]
        unfold ist
        simp only [S_impl_reduce_0, dlt hk, cond_true, hdec, hfind, Option.bind_some, hbeq, cond_false, hbne, hm1, fl1, hrow1, hrow2, hsw, hrow3, hat1, hat2, Int.toNat_natCast, fl2, hdivl, hrowc]
        rfl
    cases h2 : allG r c (dvd gg s.pv.length k) with
    | false =>
      right
      rw [h2] at hS
      exact ⟨by rw [Bool.false_and]; rfl, hS⟩
    | true =>
      have a2 := allG_iff.1 h2
      rw [h2] at hS
      have hcl := iel_clear (g := dvd gg s.pv.length k) hr hc o2 a2 hur hk 0 0 r c [] [] (((s.fs ++ if p ≠ s.pv.length then [some (-1)] else []) ++ [gg s.pv.length k]).map ro) [] s.pv
      rw [hcl] at hS
      rw [Bool.true_and]
      cases h3 : allG r c (clr (dvd gg s.pv.length k) s.pv.length k) with
      | false =>
        right
        rw [h3] at hS
        exact ⟨rfl, hS⟩
      | true =>
        left
        rw [h3] at hS
        refine ⟨_, rfl, hS.trans ?_⟩
        unfold ist
        simp only [Bool.not_true, cond_false, cond_true, Option.bind_some, pl1, succ_wrap hur (show r ≤ 1048576 by omega), succ_wrap hk (show c ≤ 1048576 by omega), List.length_append, List.length_singleton]
theorem impl_elim (hr : r ≤ 24) (hc : c ≤ 200) (hg : Good2 r c g) : ∀ n k s, k + n = c → elim r c g k = some s →
    (∃ f, elim r c g c = some f ∧ whileO S_impl_reduce_0 (ist r c k s) = some (.inr (0, 0, [], [], [], (r : Int), (c : Int), (grid r c f.g).map ro, f.pv, f.fs.map ro, ()))) ∨
    (elim r c g c = none ∧ whileO S_impl_reduce_0 (ist r c k s) = some (.inl (false, 0, 0, [], [], [], ()))) := by
  intro n
  induction n with
  | zero =>
    intro k s hk e
    have : k = c := by omega
    subst this
    left
    refine ⟨s, e, whileO_inr ?_⟩
    unfold ist
    simp [S_impl_reduce_0]
  | succ n ih =>
    intro k s hk e
    have hkc : k < c := by omega
    have hi := elim_inv hg (Nat.le_of_lt hkc) e
    by_cases hu : s.pv.length < r
    · rcases impl_step hr hc hi hkc hu with ⟨s', e1, e2⟩ | ⟨e1, e2⟩
      · rw [whileO_inl e2]
        exact ih (k + 1) s' (by omega) (by unfold elim; rw [e]; exact e1)
      · right
        refine ⟨?_, whileO_inr e2⟩
        have : elim r c g (k + 1) = none := by unfold elim; rw [e]; exact e1
        have := elim_none this n
        rw [show k + 1 + n = c by omega] at this
        exact this
    · left
      have := elim_stay e hu (n + 1)
      rw [hk] at this
      refine ⟨s, this, whileO_inr ?_⟩
      unfold ist
      simp only [S_impl_reduce_0, dlt hkc, cond_true, decide_eq_false (show ¬ (s.pv.length : Int) < (r : Int) by omega), cond_false]
theorem impl_reduce (hr : r ≤ 24) (hc : c ≤ 200) (hg : Good2 r c g) :
    (∃ f, elim r c g c = some f ∧ M_impl_reduce ⟨r, c, (grid r c g).map ro⟩ = some (⟨r, c, (grid r c f.g).map ro, f.pv, f.fs.map ro⟩, true)) ∨
    (elim r c g c = none ∧ M_impl_reduce ⟨r, c, (grid r c g).map ro⟩ = some (⟨0, 0, [], [], []⟩, false)) := by
  have hcp : M_impl_copyVector ((grid r c g).map ro) = some ((grid r c g).map ro) := impl_copyVec (by
    have : r * c ≤ 24 * 200 := Nat.mul_le_mul hr hc
    refine ⟨by rw [List.length_map, len_grid]; omega, fun x hx => ?_⟩
    obtain ⟨o, ho, rfl⟩ := List.mem_map.1 hx
    obtain ⟨i, j, hi, hj, rfl⟩ := grid_mem ho
    exact ro_fit (hg i j hi hj).1)
  rcases impl_elim hr hc hg c 0 ⟨g, [], []⟩ (by omega) rfl with ⟨f, e1, e2⟩ | ⟨e1, e2⟩
  · left
    refine ⟨f, e1, ?_⟩
    unfold M_impl_reduce L_impl_reduce_0
    rw [hcp, Option.bind_some]
    exact congrArg (fun x => Option.bind x _) e2
  · right
    refine ⟨e1, ?_⟩
    unfold M_impl_reduce L_impl_reduce_0
    rw [hcp, Option.bind_some]
    exact congrArg (fun x => Option.bind x _) e2
end
noncomputable def gof (q : List Rat) (c : Nat) : Nat → Nat → Option Rat := fun i k => q[i * c + k]?
theorem gof_grid {q : List Rat} {r c : Nat} (hl : q.length = r * c) : (grid r c (gof q c)).map ro = q.map rq := by
  rw [rq_some]
  congr 1
  apply List.ext_getElem?
  intro j
  by_cases hj : j < r * c
  · obtain ⟨h1, h2, h3⟩ := div_parts hj
    rw [grid_at _ hj]
    unfold gof
    rw [h3, List.getElem?_map]
    have : j < q.length := by omega
    simp [this]
  · rw [List.getElem?_eq_none (by rw [len_grid]; omega), List.getElem?_eq_none (by rw [List.length_map]; omega)]
theorem gof_good {q : List Rat} {r c : Nat} (hl : q.length = r * c) (hf : Fits q) : Good2 r c (gof q c) := fun i k hi hk => by
  have h : i * c + k < q.length := by rw [hl]; exact at_lt hi hk
  unfold gof
  exact ⟨hf.get _, by simp [h]⟩
end Go.Di
namespace Go.Di
def Cur.ok (c : Cur) : Prop := 0 ≤ c.i ∧ c.i ≤ (c.b.length : Int) ∧ c.b.length ≤ 1048576
theorem and255 (x : BitVec 64) : 0 ≤ ((x &&& BitVec.ofInt 64 255).toNat : Int) ∧ ((x &&& BitVec.ofInt 64 255).toNat : Int) ≤ 255 := by
  refine ⟨by omega, ?_⟩
  have h : (x &&& BitVec.ofInt 64 255).toNat ≤ 255 := by
    rw [BitVec.toNat_and]
    have : (BitVec.ofInt 64 255).toNat = 255 := by decide
    rw [this]; exact Nat.and_le_right
  omega
theorem wrap255 (x : BitVec 64) : 0 ≤ IntKind.i64.wrap ((x &&& BitVec.ofInt 64 255).toNat : Int) ∧ IntKind.i64.wrap ((x &&& BitVec.ofInt 64 255).toNat : Int) ≤ 255 := by
  have h := and255 x
  rw [wrap_i64 (by omega) (by omega)]; exact h
theorem cur_byte {c : Cur} (h : c.ok) : ∃ v c', M_spec_l01Byte c = some (v, c') ∧ 0 ≤ v ∧ v ≤ 255 ∧ c'.ok := by
  unfold M_spec_l01Byte
  cases hc : decide (c.i < (c.b.length : Int)) with
  | true =>
    have hl := of_decide_eq_true hc
    rw [cond_true, idx_int h.1 hl, Option.bind_some]
    refine ⟨_, _, rfl, (wrap255 _).1, (wrap255 _).2, ?_⟩
    have h1 := h.1
    have h2 := h.2.2
    show 0 ≤ IntKind.i64.wrap (c.i + 1) ∧ IntKind.i64.wrap (c.i + 1) ≤ _ ∧ _
    rw [wrap_i64 (by omega) (by omega)]
    exact ⟨by omega, by show c.i + 1 ≤ (c.b.length : Int); omega, h2⟩
  | false =>
    rw [cond_false]
    exact ⟨_, _, rfl, (wrap255 _).1, (wrap255 _).2, h⟩
theorem tmod_lt {a n : Int} (h0 : 0 ≤ a) (hn : 0 < n) : 0 ≤ a.tmod n ∧ a.tmod n < n := ⟨Int.tmod_nonneg _ h0, Int.tmod_lt_of_pos _ hn⟩
theorem cur_below {c : Cur} (h : c.ok) {n : Int} (hn : 0 < n) : ∃ v c', M_spec_l01Below c n = some (v, c') ∧ 0 ≤ v ∧ v < n ∧ c'.ok := by
  unfold M_spec_l01Below
  rw [decide_eq_false (show ¬ n ≤ 0 by omega), cond_false]
  have hg : guardO (n != 0) = some () := by
    have : (n != 0) = true := by simp; omega
    rw [this]; rfl
  obtain ⟨v, c1, e1, h1, h2, k1⟩ := cur_byte h
  cases decide (n ≤ 256) with
  | true =>
    rw [cond_true, e1, Option.bind_some]
    simp only [hg, Option.bind_some]
    exact ⟨_, _, rfl, (tmod_lt h1 hn).1, (tmod_lt h1 hn).2, k1⟩
  | false =>
    obtain ⟨v2, c2, e2, h3, h4, k2⟩ := cur_byte k1
    obtain ⟨v3, c3, e3, h5, h6, k3⟩ := cur_byte k2
    obtain ⟨v4, c4, e4, h7, h8, k4⟩ := cur_byte k3
    rw [cond_false, e1, Option.bind_some]
    simp only [e2, e3, e4, hg, Option.bind_some]
    have h0 : 0 ≤ IntKind.i64.wrap (IntKind.i64.wrap (IntKind.i64.wrap (IntKind.i64.wrap (v * 16777216) + IntKind.i64.wrap (v2 * 65536)) + IntKind.i64.wrap (v3 * 256)) + v4) := by
      rw [wrap_i64 (n := v * 16777216) (by omega) (by omega), wrap_i64 (n := v2 * 65536) (by omega) (by omega), wrap_i64 (n := v3 * 256) (by omega) (by omega), wrap_i64 (n := v * 16777216 + v2 * 65536) (by omega) (by omega), wrap_i64 (n := v * 16777216 + v2 * 65536 + v3 * 256) (by omega) (by omega), wrap_i64 (by omega) (by omega)]
      omega
    exact ⟨_, _, rfl, (tmod_lt h0 hn).1, (tmod_lt h0 hn).2, k4⟩
theorem cur_once {c : Cur} (h : c.ok) {n : Int} (hn : 0 < n) : ∃ v c', M_spec_l01Once c n = some (v, c') ∧ c'.ok := by
  obtain ⟨v, c1, e1, _, _, k1⟩ := cur_below h hn
  unfold M_spec_l01Once
  rw [e1, Option.bind_some]
  exact ⟨_, _, rfl, k1⟩
theorem cur_new {code : List Int} (h : code.length ≤ 1048576) : ∃ c, M_spec_l01New code = some c ∧ c.ok := by
  unfold M_spec_l01New L_spec_l01New_0
  obtain ⟨r, hr, hq⟩ := whileO_meas (S := S_spec_l01New_0) (fun x => x.1 = code ∧ 0 ≤ x.2.2.1 ∧ x.2.2.1 ≤ (code.length : Int)) (fun x => code.length - x.2.2.1.toNat) (fun r => r.1 = code)
    (by
      rintro ⟨co, hh, i, u⟩ ⟨hco, h1, h2⟩
      simp only at h1 h2 hco
      subst hco
      unfold S_spec_l01New_0
      simp only
      cases hc : decide (i < (co.length : Int)) with
      | true =>
        have hl := of_decide_eq_true hc
        rw [cond_true]
        cases decide (i < 4000) with
        | true =>
          rw [cond_true, idx_int h1 hl, Option.bind_some]
          refine .inl ⟨_, rfl, ⟨rfl, ?_, ?_⟩, ?_⟩ <;> simp only <;> rw [wrap_i64 (by omega) (by omega)] <;> omega
        | false => exact .inr ⟨_, rfl, rfl⟩
      | false => exact .inr ⟨_, rfl, rfl⟩)
    (x := (code, IntKind.i64.wrap (1973 + (code.length : Int)), 0, ())) ⟨rfl, by simp, by simp⟩
  rw [hr, Option.bind_some]
  obtain ⟨co, hh, u⟩ := r
  simp only at hq
  subst hq
  exact ⟨_, rfl, by show (0 : Int) ≤ 0; omega, by show (0 : Int) ≤ (co.length : Int); omega, h⟩
theorem cur_at {code : List Int} (h : code.length ≤ 1048576) {n : Int} (hn : n ≤ 1000000) : ∃ c, M_spec_l30New code n = some c ∧ c.ok := by
  unfold M_spec_l30New L_spec_l30New_0
  obtain ⟨c, e, k⟩ := cur_new h
  rw [e, Option.bind_some]
  obtain ⟨r, hr, hq⟩ := whileO_meas (S := S_spec_l30New_0) (fun x => x.1 = n ∧ 0 ≤ x.2.1 ∧ Cur.ok ⟨x.2.2.1, x.2.2.2.1, x.2.2.2.2.1⟩) (fun x => (n - x.2.1).toNat) (fun r => Cur.ok ⟨r.1, r.2.1, r.2.2.1⟩)
    (by
      rintro ⟨m, i, v, v1, v2, u⟩ ⟨rfl, h1, h2⟩
      simp only at h1 h2 hn
      unfold S_spec_l30New_0
      simp only
      cases hc : decide (i < m) with
      | true =>
        have hl := of_decide_eq_true hc
        obtain ⟨w, c', e1, _, _, k1⟩ := cur_byte h2
        rw [cond_true, e1, Option.bind_some]
        refine .inl ⟨_, rfl, ⟨rfl, ?_, k1⟩, ?_⟩ <;> simp only <;> rw [wrap_i64 (by omega) (by omega)] <;> omega
      | false => exact .inr ⟨_, rfl, h2⟩)
    (x := (n, 0, c.b, c.i, c.h, ())) ⟨rfl, by simp, k⟩
  rw [hr, Option.bind_some]
  exact ⟨_, rfl, hq⟩
/-! ### Bounds of a fraction's parts -/
def Bd (q : Rat) (n d : Nat) : Prop := q.num.natAbs ≤ n ∧ q.den ≤ d
theorem Bd.mono {q : Rat} {n d m e : Nat} (h : Bd q n d) (h1 : n ≤ m) (h2 : d ≤ e) : Bd q m e := ⟨Nat.le_trans h.1 h1, Nat.le_trans h.2 h2⟩
theorem bd_mk {z : Int} {d : Nat} (hd : d ≠ 0) : Bd (mkRat z d) z.natAbs d := by
  refine ⟨?_, ?_⟩
  · rw [mk_abs z hd]; exact Nat.div_le_self _ _
  · rw [(mk_parts z hd).2]; exact Nat.div_le_self _ _
theorem bd_int (n : Int) : Bd (n : Rat) n.natAbs 1 := ⟨by rw [Rat.num_intCast]; exact Nat.le_refl _, by rw [Rat.den_intCast]; exact Nat.le_refl _⟩
theorem bd_mul {a b : Rat} {n d m e : Nat} (h : Bd a n d) (k : Bd b m e) : Bd (a * b) (n * m) (d * e) := by
  rw [← mk_mul]
  refine (bd_mk (Nat.mul_ne_zero a.den_nz b.den_nz)).mono ?_ (Nat.mul_le_mul h.2 k.2)
  rw [Int.natAbs_mul]; exact Nat.mul_le_mul h.1 k.1
theorem bd_add {a b : Rat} {n d m e : Nat} (h : Bd a n d) (k : Bd b m e) : Bd (a + b) (n * e + m * d) (d * e) := by
  rw [← mk_add]
  refine (bd_mk (Nat.mul_ne_zero a.den_nz b.den_nz)).mono ?_ (Nat.mul_le_mul h.2 k.2)
  refine Nat.le_trans (Int.natAbs_add_le _ _) (Nat.add_le_add ?_ ?_)
  · rw [Int.natAbs_mul]; exact Nat.mul_le_mul h.1 k.2
  · rw [Int.natAbs_mul]; exact Nat.mul_le_mul k.1 h.2
theorem bd_neg {a : Rat} {n d : Nat} (h : Bd a n d) : Bd (-a) n d := ⟨by rw [Rat.neg_num, Int.natAbs_neg]; exact h.1, by rw [Rat.neg_den]; exact h.2⟩
theorem bd_sub {a b : Rat} {n d m e : Nat} (h : Bd a n d) (k : Bd b m e) : Bd (a - b) (n * e + m * d) (d * e) := by
  rw [Rat.sub_eq_add_neg]; exact bd_add h (bd_neg k)
theorem bd_div {a b : Rat} {n d m e : Nat} (h : Bd a n d) (k : Bd b m e) (hb : b ≠ 0) : Bd (a / b) (n * e) (d * m) := by
  rw [← mk_div a b hb]
  have hn : b.num ≠ 0 := fun h => hb (Rat.num_eq_zero.1 h)
  refine (bd_mk (Nat.mul_ne_zero a.den_nz (by omega))).mono ?_ (Nat.mul_le_mul h.2 k.1)
  rw [Int.natAbs_mul, sg_abs]; exact Nat.mul_le_mul h.1 k.2
theorem Bd.fit {q : Rat} {n d : Nat} (h : Bd q n d) (h1 : n ≤ 10 ^ 200) (h2 : d ≤ 10 ^ 200) : Fit q := by
  have e : ((10 ^ 200 : Nat) : Int) < bp 24 := by decide
  exact ⟨len_dg.2 (Int.lt_of_le_of_lt (Int.ofNat_le.2 (Nat.le_trans h.1 h1)) e), len_dg.2 (Int.lt_of_le_of_lt (Int.ofNat_le.2 (Nat.le_trans h.2 h2)) e)⟩
theorem chk_bd {q : Rat} {n d : Nat} (h : Bd q n d) (h1 : n ≤ 10 ^ 200) (h2 : d ≤ 10 ^ 200) : chk q = some q := chk_fit (h.fit h1 h2)
theorem cur_number {c : Cur} (h : c.ok) : ∃ q c', M_spec_l05Number c = some (rq q, c') ∧ Bd q 20 6 ∧ c'.ok := by
  unfold M_spec_l05Number
  obtain ⟨w, c1, e1, k1⟩ := cur_once h (n := 3) (by omega)
  rw [e1, Option.bind_some]
  cases w with
  | true =>
    obtain ⟨a, c2, e2, h1, h2, k2⟩ := cur_below k1 (n := 41) (by omega)
    obtain ⟨b, c3, e3, h3, h4, k3⟩ := cur_below k2 (n := 6) (by omega)
    simp only [cond_true, e2, e3, Option.bind_some]
    rw [wrap_i64 (n := a - 20) (by omega) (by omega), wrap_i64 (n := 1 + b) (by omega) (by omega), spec_ratOf (by omega) (by omega) (by omega) (by omega) (by omega)]
    have bd : Bd (((a - 20 : Int) : Rat) / ((1 + b : Int) : Rat)) 20 6 := by
      have hb : ((1 + b : Int) : Rat) ≠ 0 := by
        intro e0
        have h0 := congrArg Rat.num e0
        rw [Rat.num_intCast] at h0
        have : (0 : Rat).num = 0 := rfl
        omega
      exact (bd_div (bd_int _) (bd_int _) hb).mono (by omega) (by omega)
    rw [chk_bd bd (by decide) (by decide), Option.bind_some]
    exact ⟨_, _, rfl, bd, k3⟩
  | false =>
    obtain ⟨a, c2, e2, h1, h2, k2⟩ := cur_below k1 (n := 21) (by omega)
    simp only [cond_false, e2, Option.bind_some]
    rw [wrap_i64 (n := a - 10) (by omega) (by omega), spec_ratInt (by omega) (by omega), Option.bind_some]
    exact ⟨_, _, rfl, (bd_int _).mono (by omega) (by omega), k2⟩
end Go.Di
namespace Go.Di
end Go.Di
namespace Go.Di
end Go.Di
namespace Go.Di
/-! ### Marks -/
def wS (s : Sta) : Nat := 4 + s.x.mag.length + s.x.den.length + s.y.mag.length + s.y.den.length
structure Sfit (l : List Sta) : Prop where
  fit : lfit Sta.fit l
  few : ws wS l ≤ 1000000000
/-! ### Lists whose first elements are changed -/
/-! ### Copies -/
/-! ### Sums -/
/-! ### Shifted networks -/
/-! ### Moved networks -/
end Go.Di
namespace Go.Di
end Go.Di
namespace Go.Di
/-! ### Vectors drawn from bytes -/
def Small (q : List Rat) : Prop := ∀ x ∈ q, Bd x 20 6
theorem Small.fits {q : List Rat} (h : Small q) : Fits q := fun x hx => (h x hx).fit (by decide) (by decide)
theorem make_vec {code : List Int} (h : code.length ≤ 1048576) {n : Int} (hn : n ≤ 1000000) {k : Nat} (hk : k ≤ 1000) : ∃ q : List Rat, M_spec_MakeVector code n (k : Int) = some (q.map rq) ∧ q.length = k ∧ Small q := by
  unfold M_spec_MakeVector M_spec_l05Draw L_spec_l05Draw_0
  obtain ⟨c, e, kc⟩ := cur_at h hn
  rw [e, Option.bind_some]
  obtain ⟨r, hr, q, h1, h2, h3⟩ := whileO_meas (S := S_spec_l05Draw_0) (fun x => x.1 = (k : Int) ∧ Cur.ok ⟨x.2.1, x.2.2.1, x.2.2.2.1⟩ ∧ ∃ q : List Rat, x.2.2.2.2.1 = q.map rq ∧ q.length ≤ k ∧ Small q) (fun x => k - x.2.2.2.2.1.length) (fun r => ∃ q : List Rat, r.2.2.2.1 = q.map rq ∧ q.length = k ∧ Small q)
    (by
      rintro ⟨m, v, v1, v2, v3, u⟩ ⟨h0, h1, q, h2, h3, h4⟩
      simp only at h0 h1 h2 h3
      subst h0; subst h2
      unfold S_spec_l05Draw_0
      simp only [List.length_map]
      cases hc : decide ((q.length : Int) < (k : Int)) with
      | true =>
        have hl := of_decide_eq_true hc
        obtain ⟨x, c', e1, b1, k1⟩ := cur_number h1
        simp only [cond_true, e1, Option.bind_some, room1 (show q.length ≤ 2000000 by omega)]
        refine .inl ⟨_, rfl, ⟨rfl, k1, q ++ [x], by simp, by simp; omega, ?_⟩, ?_⟩
        · intro y hy
          rcases List.mem_append.1 hy with hy | hy
          · exact h4 y hy
          · rw [List.mem_singleton.1 hy]; exact b1
        · simp only [List.length_append, List.length_map, List.length_singleton]; omega
      | false =>
        have hl := of_decide_eq_false hc
        exact .inr ⟨_, rfl, q, rfl, by omega, h4⟩)
    (x := ((k : Int), c.b, c.i, c.h, [], ())) ⟨rfl, kc, [], rfl, by simp, fun x hx => (by cases hx)⟩
  rw [hr, Option.bind_some]
  obtain ⟨v, v1, v2, v3, u⟩ := r
  simp only at h1
  subst h1
  exact ⟨q, rfl, h2, h3⟩
theorem zero_vec {k : Nat} (hk : k ≤ 24) : M_impl_ZeroVector (k : Int) = some ((List.replicate k (0 : Rat)).map rq) := by
  unfold M_impl_ZeroVector L_impl_ZeroVector_0
  rw [decide_eq_false (show ¬ (k : Int) < 0 by omega), decide_eq_false (show ¬ (k : Int) > 24 by omega)]
  simp only [cond_false]
  have key := app_loop (S := S_impl_ZeroVector_0) (fun i out => ((k : Int), i, out, ())) (fun _ => rq 0) k (r := fun out => (out, ())) (fun i out hi ho => by
    simp only [S_impl_ZeroVector_0, dlt hi, cond_true, whole_zero, Option.bind_some, room1 (show out.length ≤ 2000000 by omega), succ_wrap hi (show k ≤ 1048576 by omega)]
    rfl) (fun out _ => by simp [S_impl_ZeroVector_0])
  refine (congrArg (fun x => Option.bind x _) key).trans ?_
  show some ((List.range k).map fun _ => rq 0) = _
  congr 1
  apply List.ext_getElem?
  intro j
  by_cases hj : j < k
  · simp [hj, List.getElem?_replicate]
  · simp [hj, List.getElem?_replicate]
theorem lfit_rq {q : List Rat} (h : Fits q) (hn : q.length ≤ 20000) : lfit Rt.fit (q.map rq) := (rfit_rq h hn).fit
theorem q_vec {q : List Rat} (h : Fits q) (hn : q.length ≤ 24) : vecB (q.map rq) = true := by
  unfold vecB
  rw [List.length_map, decide_eq_true hn, q_goods h]; rfl
/-! ### Networks drawn from bytes -/
end Go.Di
namespace Go.Di
def Sz (q : Rat) (k : Nat) : Prop := Bd q (10 ^ k) (10 ^ k)
theorem ten_le {k m : Nat} (h : k ≤ m) : 10 ^ k ≤ 10 ^ m := Nat.pow_le_pow_right (by omega) h
theorem Sz.mono {q : Rat} {k m : Nat} (h : Sz q k) (hm : k ≤ m) : Sz q m := Bd.mono h (ten_le hm) (ten_le hm)
theorem Sz.fit {q : Rat} {k : Nat} (h : Sz q k) (hk : k ≤ 200) : Fit q := Bd.fit h (ten_le hk) (ten_le hk)
theorem sz_mul {a b : Rat} {k m : Nat} (h : Sz a k) (h' : Sz b m) : Sz (a * b) (k + m) := by
  have := bd_mul h h'
  unfold Sz; rw [Nat.pow_add]; exact this
theorem two_tens (k m : Nat) : 10 ^ k * 10 ^ m + 10 ^ m * 10 ^ k ≤ 10 ^ (k + m + 1) := by
  rw [Nat.pow_succ, Nat.pow_add, Nat.mul_comm (10 ^ m) (10 ^ k)]; omega
theorem one_more (k m : Nat) : 10 ^ k * 10 ^ m ≤ 10 ^ (k + m + 1) := by
  rw [← Nat.pow_add]; exact ten_le (by omega)
theorem sz_add {a b : Rat} {k m : Nat} (h : Sz a k) (h' : Sz b m) : Sz (a + b) (k + m + 1) := (bd_add h h').mono (two_tens k m) (one_more k m)
theorem sz_sub {a b : Rat} {k m : Nat} (h : Sz a k) (h' : Sz b m) : Sz (a - b) (k + m + 1) := (bd_sub h h').mono (two_tens k m) (one_more k m)
theorem sz_neg {a : Rat} {k : Nat} (h : Sz a k) : Sz (-a) k := bd_neg h
theorem sz_div {a b : Rat} {k m : Nat} (h : Sz a k) (h' : Sz b m) (hb : b ≠ 0) : Sz (a / b) (k + m) := by
  have := bd_div h h' hb
  unfold Sz; rw [Nat.pow_add]; exact this
theorem sz_zero : Sz 0 0 := (bd_int 0).mono (by decide) (by decide)
theorem sz_one : Sz 1 0 := (bd_int 1).mono (by decide) (by decide)
theorem Small.sz {q : List Rat} (h : Small q) : ∀ x ∈ q, Sz x 2 := fun x hx => (h x hx).mono (by decide) (by decide)
def Szs (q : List Rat) (k : Nat) : Prop := ∀ x ∈ q, Sz x k
theorem Szs.fits {q : List Rat} {k : Nat} (h : Szs q k) (hk : k ≤ 200) : Fits q := fun x hx => (h x hx).fit hk
theorem Szs.get {q : List Rat} {k : Nat} (h : Szs q k) (i : Nat) : Sz ((q[i]?).getD 0) k := by
  by_cases hi : i < q.length
  · rw [List.getElem?_eq_getElem hi]; exact h _ (List.getElem_mem hi)
  · rw [List.getElem?_eq_none (by omega)]; exact sz_zero.mono (by omega)
/-! ### Inner products that fit -/
def innR (a b : List Rat) : Nat → Rat
  | 0 => 0
  | i + 1 => innR a b i + (a[i]?).getD 0 * (b[i]?).getD 0
theorem inn_sz {a b : List Rat} {k m : Nat} (ha : Szs a k) (hb : Szs b m) : ∀ n, n ≤ a.length → n ≤ b.length → n * (k + m + 1) ≤ 200 → innO a b n = some (innR a b n) ∧ Sz (innR a b n) (n * (k + m + 1))
  | 0, _, _, _ => ⟨rfl, sz_zero.mono (by omega)⟩
  | n + 1, h1, h2, h3 => by
    have e : (n + 1) * (k + m + 1) = n * (k + m + 1) + (k + m) + 1 := by rw [Nat.add_mul]; omega
    obtain ⟨e1, s1⟩ := inn_sz ha hb n (by omega) (by omega) (by omega)
    have s2 := sz_mul (ha.get n) (hb.get n)
    have s3 := sz_add s1 s2
    have s4 : Sz (innR a b (n + 1)) ((n + 1) * (k + m + 1)) := by rw [e]; exact s3
    refine ⟨?_, s4⟩
    show addO (innO a b n) (mulO a[n]? b[n]?) = _
    rw [e1, List.getElem?_eq_getElem (by omega), List.getElem?_eq_getElem (by omega)]
    have g1 : (a[n]?).getD 0 = a[n] := by rw [List.getElem?_eq_getElem (by omega)]; rfl
    have g2 : (b[n]?).getD 0 = b[n] := by rw [List.getElem?_eq_getElem (by omega)]; rfl
    rw [g1, g2] at s2 s3
    have m1 : mulO (some a[n]) (some b[n]) = some (a[n] * b[n]) := chk_fit (s2.fit (by omega))
    rw [m1]
    show chk (innR a b n + a[n] * b[n]) = _
    rw [chk_fit (s3.fit (by omega))]
    show _ = some (innR a b n + (a[n]?).getD 0 * (b[n]?).getD 0)
    rw [g1, g2]
theorem szs_row {q : List Rat} {k : Nat} (h : Szs q k) (c i : Nat) : Szs (rowq q c i) k := fun x hx => h x (List.mem_of_mem_take (List.mem_of_mem_drop hx))
/-! ### Products that fit -/
theorem some_all (l : List Rat) : (l.map some).all Option.isSome = true := by
  rw [List.all_eq_true]
  intro o ho
  obtain ⟨x, _, rfl⟩ := List.mem_map.1 ho
  rfl
theorem some_ro (l : List Rat) : (l.map some).map ro = l.map rq := by rw [List.map_map]; rfl
def appR (q : List Rat) (r c : Nat) (v : List Rat) : List Rat := (List.range r).map fun i => innR (rowq q c i) v c
theorem apply_small {q v : List Rat} {r c k m : Nat} (hr : r ≤ 24) (hc : c ≤ 24) (hl : q.length = r * c) (hv : v.length = c) (hq : Szs q k) (hw : Szs v m) (hs : c * (k + m + 1) ≤ 200) (hk : k ≤ 200) (hm : m ≤ 200) :
    M_impl_ApplyMatrix ⟨r, c, q.map rq⟩ (v.map rq) = some ((appR q r c v).map rq, true) ∧ Szs (appR q r c v) (c * (k + m + 1)) := by
  have f1 := hq.fits hk
  have f2 := hw.fits hm
  have h1 := prod24 hr hc
  have key : ∀ i, i < r → innO (rowq q c i) v c = some (innR (rowq q c i) v c) ∧ Sz (innR (rowq q c i) v c) (c * (k + m + 1)) := fun i hi =>
    inn_sz (szs_row hq c i) hw c (by rw [rowq_len hl hi]; omega) (by omega) hs
  have e : appO q r c v = (appR q r c v).map some := by
    unfold appO appR
    rw [List.map_map]
    exact List.map_congr_left fun i hi => (key i (List.mem_range.1 hi)).1
  refine ⟨?_, fun x hx => ?_⟩
  · unfold M_impl_ApplyMatrix
    have hne : (((v.map rq).length : Int) != (c : Int)) = false := by rw [List.length_map, hv]; simp
    rw [impl_mxOk (m := ⟨r, c, q.map rq⟩) (lfit_rq f1 (by omega)), mx_ok hr hc hl f1, impl_isVec (lfit_rq f2 (by omega)), q_vec f2 (by omega)]
    simp only [Option.bind_some, Bool.not_true, cond_false, hne]
    rw [impl_applied hr hc hl f1 f2 hv, e, some_all, some_ro]; rfl
  · obtain ⟨i, hi, rfl⟩ := List.mem_map.1 hx
    exact (key i (List.mem_range.1 hi)).2
theorem make_mx {code : List Int} (h : code.length ≤ 1048576) {n : Int} (hn : n ≤ 1000000) {r c : Nat} (hr : r ≤ 24) (hc : c ≤ 24) : ∃ q : List Rat, M_spec_MakeMatrix code n r c = some ⟨r, c, q.map rq⟩ ∧ q.length = r * c ∧ Small q := by
  have h1 := prod24 hr hc
  obtain ⟨q, e, hl, hs⟩ := make_vec h hn (k := r * c) (by omega)
  refine ⟨q, ?_, hl, hs⟩
  unfold M_spec_MakeVector at e
  unfold M_spec_MakeMatrix M_spec_l06Draw
  obtain ⟨cu, ec, _⟩ := cur_at h hn
  rw [ec, Option.bind_some] at e ⊢
  have hw : IntKind.i64.wrap ((r : Int) * (c : Int)) = ((r * c : Nat) : Int) := by rw [wrap_i64 (by omega) (by omega)]; omega
  rw [hw]
  cases hd : M_spec_l05Draw cu ((r * c : Nat) : Int) with
  | none => rw [hd] at e; cases e
  | some x =>
    rw [hd] at e
    simp only [Option.bind_some, Option.some.injEq] at e ⊢
    rw [e]
end Go.Di
namespace Go.Di
end Go.Di
namespace Go.Di
/-! ### Determinants -/
noncomputable def prodO (l : List (Option Rat)) : Nat → Option Rat
  | 0 => some 1
  | i + 1 => mulO (prodO l i) (l[i]?.getD none)
end Go.Di
namespace Go.Di
/-! ### Numbers that stay small enough -/
def SzG (r c : Nat) (g : Nat → Nat → Option Rat) (K : Nat) : Prop := ∀ i j, i < r → j < c → ∃ x, g i j = some x ∧ Sz x K
theorem SzG.mono {r c : Nat} {g : Nat → Nat → Option Rat} {K M : Nat} (h : SzG r c g K) (hm : K ≤ M) : SzG r c g M := fun i j hi hj => by
  obtain ⟨x, e, s⟩ := h i j hi hj; exact ⟨x, e, s.mono hm⟩
theorem sz_divO {x y : Rat} {K M : Nat} (hx : Sz x K) (hy : Sz y M) (h0 : y ≠ 0) (hk : K + M ≤ 200) : divO (some x) (some y) = some (x / y) ∧ Sz (x / y) (K + M) := by
  have s := sz_div hx hy h0
  refine ⟨?_, s⟩
  show (if y = 0 then none else chk (x / y)) = _
  rw [if_neg h0, chk_fit (s.fit hk)]
theorem sz_mulO {x y : Rat} {K M : Nat} (hx : Sz x K) (hy : Sz y M) (hk : K + M ≤ 200) : mulO (some x) (some y) = some (x * y) ∧ Sz (x * y) (K + M) := by
  have s := sz_mul hx hy
  exact ⟨chk_fit (s.fit hk), s⟩
theorem sz_subO {x y : Rat} {K M : Nat} (hx : Sz x K) (hy : Sz y M) (hk : K + M + 1 ≤ 200) : subO (some x) (some y) = some (x - y) ∧ Sz (x - y) (K + M + 1) := by
  have s := sz_sub hx hy
  refine ⟨?_, s⟩
  show chk (x + -y) = _
  rw [← Rat.sub_eq_add_neg, chk_fit (s.fit hk)]
section
variable {r c k K : Nat}
theorem szg_swp {g : Nat → Nat → Option Rat} {p u : Nat} (h : SzG r c g K) (hp : p < r) (hu : u < r) : SzG r c (swp g p u) K := fun i j hi hj => by
  unfold swp
  split
  · exact h u j hu hj
  · split
    · exact h p j hp hj
    · exact h i j hi hj
theorem szg_dvd {g : Nat → Nat → Option Rat} {u : Nat} (h : SzG r c g K) (hu : u < r) (hk : k < c) (h0 : g u k ≠ some 0) (hK : K + K ≤ 200) : SzG r c (dvd g u k) (K + K) := fun i j hi hj => by
  unfold dvd
  split
  · obtain ⟨x, e1, s1⟩ := h u j hu hj
    obtain ⟨y, e2, s2⟩ := h u k hu hk
    have hy : y ≠ 0 := fun e => h0 (by rw [e2, e])
    obtain ⟨e3, s3⟩ := sz_divO s1 s2 hy hK
    exact ⟨x / y, by rw [e1, e2, e3], s3⟩
  · obtain ⟨x, e1, s1⟩ := h i j hi hj
    exact ⟨x, e1, s1.mono (by omega)⟩
theorem szg_clr {g : Nat → Nat → Option Rat} {u : Nat} (h : SzG r c (dvd g u k) (K + K)) (hg : ∀ i j, i < r → j < c → i ≠ u → ∃ x, dvd g u k i j = some x ∧ Sz x K) (hu : u < r) (hk : k < c) (hK : 4 * K + 1 ≤ 200) : SzG r c (clr (dvd g u k) u k) (4 * K + 1) := fun i j hi hj => by
  unfold clr
  by_cases hiu : i = u
  · rw [if_pos hiu]
    obtain ⟨x, e1, s1⟩ := h u j hu hj
    exact ⟨x, e1, s1.mono (by omega)⟩
  · rw [if_neg hiu]
    obtain ⟨x, e1, s1⟩ := hg i j hi hj hiu
    split
    · exact ⟨x, e1, s1.mono (by omega)⟩
    · obtain ⟨f, e2, s2⟩ := hg i k hi hk hiu
      obtain ⟨y, e3, s3⟩ := h u j hu hj
      obtain ⟨e4, s4⟩ := sz_mulO s2 s3 (by omega)
      obtain ⟨e5, s5⟩ := sz_subO s1 s4 (by omega)
      exact ⟨x - f * y, by rw [e1, e2, e3, e4, e5], s5.mono (by omega)⟩
theorem SzG.all {g : Nat → Nat → Option Rat} (h : SzG r c g K) : allG r c g = true := allG_iff.2 fun i j hi hj => by
  obtain ⟨x, e, _⟩ := h i j hi hj; rw [e]; rfl
theorem prodO_app (l : List (Option Rat)) (o : Option Rat) : prodO (l ++ [o]) (l.length + 1) = mulO (prodO l l.length) o := by
  have : ∀ n, n ≤ l.length → prodO (l ++ [o]) n = prodO l n := by
    intro n
    induction n with
    | zero => intro _; rfl
    | succ n ih =>
      intro h
      show mulO _ _ = mulO _ _
      rw [ih (by omega), List.getElem?_append_left (by omega)]
  show mulO (prodO (l ++ [o]) l.length) _ = _
  rw [this _ (Nat.le_refl _), List.getElem?_append_right (Nat.le_refl _), Nat.sub_self]; rfl
def PrOk (fs : List (Option Rat)) (P : Nat) : Prop := ∃ y, prodO fs fs.length = some y ∧ y ≠ 0 ∧ Sz y P
theorem PrOk.app {fs : List (Option Rat)} {P M : Nat} (h : PrOk fs P) {x : Rat} (hx : Sz x M) (h0 : x ≠ 0) (hk : P + M ≤ 200) : PrOk (fs ++ [some x]) (P + M) := by
  obtain ⟨y, e, y0, s⟩ := h
  obtain ⟨e2, s2⟩ := sz_mulO s hx hk
  refine ⟨y * x, ?_, fun e0 => ?_, s2⟩
  · rw [List.length_append, List.length_singleton, prodO_app, e, e2]
  · rcases Rat.mul_eq_zero.1 e0 with h | h
    · exact y0 h
    · exact h0 h
theorem sz_m1 : Sz (-1) 0 := sz_neg sz_one
theorem step_sz {s : ES} (hi : EInv r c k s) (h : SzG r c s.g K) (hk : k < c) (hK : 4 * K + 1 ≤ 200) {P : Nat} (hP : PrOk s.fs P) (hPK : P + K ≤ 200) :
    ∃ s', stepE r c k s = some s' ∧ ((s'.pv = s.pv ∧ SzG r c s'.g K ∧ PrOk s'.fs P) ∨ (s.pv.length < r ∧ s'.pv = s.pv ++ [(k : Int)] ∧ SzG r c s'.g (4 * K + 1) ∧ PrOk s'.fs (P + K))) := by
  unfold stepE
  by_cases hur : s.pv.length < r
  · rw [if_pos hur]
    obtain ⟨pl, ph⟩ := pivR_le s.g k (r - s.pv.length) s.pv.length
    have hne := pivR_ne s.g k (r - s.pv.length) s.pv.length
    generalize pivR s.g k (r - s.pv.length) s.pv.length = p at *
    simp only
    by_cases hpr : p = r
    · rw [if_pos hpr]; exact ⟨s, rfl, .inl ⟨rfl, h, hP⟩⟩
    · rw [if_neg hpr]
      have hp : p < r := by omega
      have hne := hne (by omega)
      have e1 : swp s.g p s.pv.length s.pv.length k = s.g p k := by
        unfold swp
        split
        · rename_i e; rw [e]
        · rw [if_pos rfl]
      have s1 := szg_swp h hp hur
      have s2 := szg_dvd s1 hur hk (by rw [e1]; exact hne) (by omega)
      have s3 := szg_clr s2 (fun i j hi hj hne => by
        have : dvd (swp s.g p s.pv.length) s.pv.length k i j = swp s.g p s.pv.length i j := by unfold dvd; rw [if_neg hne]
        rw [this]; exact s1 i j hi hj) hur hk hK
      rw [s2.all, s3.all]
      refine ⟨_, rfl, .inr ⟨hur, rfl, s3, ?_⟩⟩
      obtain ⟨x, ex, sx⟩ := s1 s.pv.length k hur hk
      have hx0 : x ≠ 0 := fun e => hne (by rw [← e1, ex, e])
      show PrOk ((s.fs ++ if p ≠ s.pv.length then [some (-1)] else []) ++ [swp s.g p s.pv.length s.pv.length k]) (P + K)
      rw [ex]
      have hq : PrOk (s.fs ++ if p ≠ s.pv.length then [some (-1)] else []) P := by
        split
        · have := hP.app sz_m1 (by decide) (by omega)
          simpa using this
        · rw [List.append_nil]; exact hP
      exact hq.app sx hx0 hPK
  · rw [if_neg hur]; exact ⟨s, rfl, .inl ⟨rfl, h, hP⟩⟩
def bb : Nat → Nat
  | 0 => 2
  | t + 1 => 4 * bb t + 1
def pp : Nat → Nat
  | 0 => 0
  | t + 1 => pp t + bb t
theorem elim_sz (hr : r ≤ 3) {g : Nat → Nat → Option Rat} (hg : Good2 r c g) (h : SzG r c g 2) : ∀ k, k ≤ c → ∃ s, elim r c g k = some s ∧ s.pv.length ≤ r ∧ SzG r c s.g (bb s.pv.length) ∧ PrOk s.fs (pp s.pv.length)
  | 0, _ => ⟨_, rfl, Nat.zero_le _, h, ⟨1, rfl, by decide, sz_one⟩⟩
  | k + 1, hk => by
    obtain ⟨s, e, l, s1, p1⟩ := elim_sz hr hg h k (by omega)
    have inv := elim_inv hg (by omega) e
    have hb : s.pv.length < r → 4 * bb s.pv.length + 1 ≤ 200 ∧ pp s.pv.length + bb s.pv.length ≤ 200 := fun hl => by
      have : s.pv.length = 0 ∨ s.pv.length = 1 ∨ s.pv.length = 2 := by omega
      rcases this with e | e | e <;> rw [e] <;> decide
    by_cases hl : s.pv.length < r
    · obtain ⟨s', e2, h2⟩ := step_sz inv s1 (show k < c by omega) (hb hl).1 p1 (hb hl).2
      refine ⟨s', by unfold elim; rw [e]; exact e2, ?_⟩
      rcases h2 with ⟨h3, h4, h5⟩ | ⟨h3, h4, h5, h6⟩
      · rw [h3]; exact ⟨l, h4, h5⟩
      · rw [h4, List.length_append, List.length_singleton]; exact ⟨by omega, h5, h6⟩
    · exact ⟨s, by unfold elim; rw [e]; show stepE r c k s = _; unfold stepE; rw [if_neg hl], l, s1, p1⟩
theorem szg_gof {q : List Rat} (hl : q.length = r * c) (hq : Szs q K) : SzG r c (gof q c) K := fun i j hi hj => by
  have h : i * c + j < q.length := by rw [hl]; exact at_lt hi hj
  exact ⟨q[i * c + j], by unfold gof; rw [List.getElem?_eq_getElem h], hq _ (List.getElem_mem h)⟩
/-! ### A matrix in reduced form is reduced to itself -/
structure Red (r c : Nat) (g : Nat → Nat → Option Rat) (L : Nat) (P : Nat → Nat) : Prop where
  le : L ≤ r
  lt : ∀ t, t < L → P t < c
  asc : ∀ t t', t < t' → t' < L → P t < P t'
  unit : ∀ t i, t < L → i < r → g i (P t) = if i = t then some 1 else some 0
  lead : ∀ t j, t < L → j < P t → g t j = some 0
  rest : ∀ i j, L ≤ i → i < r → j < c → g i j = some 0
theorem red_of {s : ES} (h : EInv r c c s) (hR : RInv r c c s) : Red r c s.g s.pv.length (piv s) :=
  ⟨h.used, hR.lt, hR.asc, hR.unit, hR.lead, fun i j h1 h2 h3 => h.zero i j h1 h2 h3 h3⟩
theorem divO_one {o : Option Rat} (h : Oks o) : divO o (some 1) = o := by
  cases o with
  | none => rfl
  | some q =>
    show (if (1 : Rat) = 0 then none else chk (q / 1)) = some q
    rw [if_neg (by decide), Rat.div_def, (by decide +kernel : ((1 : Rat)⁻¹) = 1), Rat.mul_one, chk_fit (h q rfl)]
theorem red_step {g : Nat → Nat → Option Rat} {L : Nat} {P : Nat → Nat} (hg : Good2 r c g) (h : Red r c g L P) {s : ES} (hs : s.pv.length ≤ L) (hk : k < c) (hsame : ∀ i j, i < r → j < c → s.g i j = g i j)
    (hbelow : ∀ t, t < s.pv.length → P t < k) (habove : ∀ t, s.pv.length ≤ t → t < L → k ≤ P t) (hpv : ∀ t, t < s.pv.length → s.pv[t]? = some ((P t : Nat) : Int)) :
    ∃ s', stepE r c k s = some s' ∧ s'.pv.length ≤ L ∧ (∀ i j, i < r → j < c → s'.g i j = g i j) ∧ (∀ t, t < s'.pv.length → P t < k + 1) ∧ (∀ t, s'.pv.length ≤ t → t < L → k + 1 ≤ P t) ∧ (∀ t, t < s'.pv.length → s'.pv[t]? = some ((P t : Nat) : Int)) := by
  have hL := h.le
  by_cases hp : s.pv.length < L ∧ P s.pv.length = k
  · -- the pivot is in its place
    obtain ⟨hl, hpk⟩ := hp
    have hur : s.pv.length < r := by omega
    have h1 : s.g s.pv.length k = some 1 := by rw [hsame _ _ hur hk, ← hpk, h.unit _ _ hl hur, if_pos rfl]
    have hne : s.g s.pv.length k ≠ some 0 := by rw [h1]; intro e; injection e with e; exact absurd e (by decide)
    have hpiv : pivR s.g k (r - s.pv.length) s.pv.length = s.pv.length := by
      cases hn : r - s.pv.length with
      | zero => omega
      | succ n => unfold pivR; rw [if_neg hne]
    have hsw : swp s.g s.pv.length s.pv.length = s.g := by
      funext a b; unfold swp; split
      · rename_i e; rw [e]
      · rfl
    have hd : ∀ i j, i < r → j < c → dvd s.g s.pv.length k i j = g i j := fun i j hi hj => by
      unfold dvd
      split
      · rename_i e; rw [h1, divO_one, ← e, hsame i j hi hj]
        rw [hsame _ j hur hj]; exact (hg _ j hur hj).1
      · exact hsame i j hi hj
    have hcl : ∀ i j, i < r → j < c → clr (dvd s.g s.pv.length k) s.pv.length k i j = g i j := fun i j hi hj => by
      unfold clr
      by_cases e : i = s.pv.length
      · rw [if_pos e, hd _ j hur hj, e]
      · rw [if_neg e]
        have : dvd s.g s.pv.length k i k = some 0 := by rw [hd i k hi hk, ← hpk, h.unit _ _ hl hi, if_neg e]
        rw [if_pos this, hd i j hi hj]
    have ha2 : allG r c (dvd s.g s.pv.length k) = true := allG_iff.2 fun i j hi hj => by rw [hd i j hi hj]; exact (hg i j hi hj).2
    have ha3 : allG r c (clr (dvd s.g s.pv.length k) s.pv.length k) = true := allG_iff.2 fun i j hi hj => by rw [hcl i j hi hj]; exact (hg i j hi hj).2
    unfold stepE
    rw [if_pos hur]
    simp only [hpiv]
    rw [if_neg (by omega), hsw, ha2, ha3]
    have hlen : (s.pv ++ [(k : Int)]).length = s.pv.length + 1 := by simp
    refine ⟨_, rfl, by simp only [hlen]; omega, hcl, fun t ht => ?_, fun t h2 h3 => ?_, fun t ht => ?_⟩
    · simp only [hlen] at ht
      by_cases e : t < s.pv.length
      · have := hbelow t e; omega
      · have : t = s.pv.length := by omega
        rw [this]; omega
    · simp only [hlen] at h2
      have := h.asc s.pv.length t (by omega) h3; omega
    · simp only [hlen] at ht
      by_cases e : t < s.pv.length
      · simp only; rw [List.getElem?_append_left e]; exact hpv t e
      · have : t = s.pv.length := by omega
        subst this
        simp only; rw [List.getElem?_append_right (Nat.le_refl _), Nat.sub_self, hpk]; rfl
  · -- no pivot in this column
    have hz : ∀ i, s.pv.length ≤ i → i < r → s.g i k = some 0 := fun i h1 h2 => by
      rw [hsame i k h2 hk]
      by_cases hi : i < L
      · by_cases e : i = s.pv.length
        · subst e
          have := habove _ (Nat.le_refl _) hi
          exact h.lead _ k hi (by rcases Nat.lt_or_eq_of_le this with h | h; exact h; exact absurd ⟨hi, h.symm⟩ hp)
        · have h3 := habove s.pv.length (Nat.le_refl _) (by omega)
          have h4 := h.asc s.pv.length i (by omega) hi
          exact h.lead i k hi (by omega)
      · exact h.rest i k (by omega) h2 hk
    have hst : stepE r c k s = some s := by
      unfold stepE
      split
      · have hpr : pivR s.g k (r - s.pv.length) s.pv.length = r := by
          obtain ⟨pl, ph⟩ := pivR_le s.g k (r - s.pv.length) s.pv.length
          by_cases e : pivR s.g k (r - s.pv.length) s.pv.length < r
          · exact absurd (hz _ pl e) (pivR_ne s.g k _ _ (by omega))
          · omega
        simp only [hpr, if_true]
      · rfl
    refine ⟨s, hst, hs, hsame, fun t ht => by have := hbelow t ht; omega, fun t h1 h2 => ?_, hpv⟩
    have := habove t h1 h2
    by_cases e : t = s.pv.length
    · subst e
      rcases Nat.lt_or_eq_of_le this with h | h
      · exact h
      · exact absurd ⟨h2, h.symm⟩ hp
    · have h3 := habove s.pv.length (Nat.le_refl _) (by omega)
      have h4 := h.asc s.pv.length t (by omega) h2
      omega
theorem red_elim {g : Nat → Nat → Option Rat} {L : Nat} {P : Nat → Nat} (hg : Good2 r c g) (h : Red r c g L P) : ∀ k, k ≤ c → ∃ s, elim r c g k = some s ∧ s.pv.length ≤ L ∧ (∀ i j, i < r → j < c → s.g i j = g i j) ∧ (∀ t, t < s.pv.length → P t < k) ∧ (∀ t, s.pv.length ≤ t → t < L → k ≤ P t) ∧ (∀ t, t < s.pv.length → s.pv[t]? = some ((P t : Nat) : Int))
  | 0, _ => ⟨_, rfl, Nat.zero_le _, fun _ _ _ _ => rfl, fun t ht => by simp at ht, fun _ _ _ => Nat.zero_le _, fun t ht => by simp at ht⟩
  | k + 1, hk => by
    obtain ⟨s, e, h1, h2, h3, h4, h5⟩ := red_elim hg h k (by omega)
    obtain ⟨s', e', h6⟩ := red_step hg h h1 (show k < c by omega) h2 h3 h4 h5
    exact ⟨s', by unfold elim; rw [e]; exact e', h6⟩
theorem red_rank {g : Nat → Nat → Option Rat} {L : Nat} {P : Nat → Nat} (hg : Good2 r c g) (h : Red r c g L P) : ∃ s, elim r c g c = some s ∧ s.pv.length = L := by
  obtain ⟨s, e, h1, _, _, h4, _⟩ := red_elim hg h c (Nat.le_refl c)
  refine ⟨s, e, ?_⟩
  by_cases hl : s.pv.length < L
  · have := h4 _ (Nat.le_refl _) hl
    have := h.lt _ hl
    omega
  · omega
end
end Go.Di
namespace Go.Di
end Go.Di
namespace Go.Di
theorem vec_same {a b : List Rat} (h : a = b) {k : Nat} (ha : Szs a k) (hk : k ≤ 200) (hl : a.length ≤ 1000) : M_impl_EqualVectors (a.map rq) (b.map rq) = some true := by
  subst h
  rw [impl_vecEq (lfit_rq (ha.fits hk) (by omega)), eqB_self]
end Go.Di
namespace Go.Di
theorem at_gridD {r c : Nat} {g : Nat → Nat → Option Rat} {i k : Nat} {x : Int} (hr : r ≤ 1000) (hc : c ≤ 1000) (hi : i < r) (hk : k < c) :
    M_impl_Matrix_at ⟨x, c, (grid r c g).map ro⟩ i k = some (ro (g i k)) := by
  unfold M_impl_Matrix_at
  simp only [at_pos (show i < 1000 by omega) hc (show k < 1000 by omega), idx_grid hi hk, Option.bind_some]
theorem has_int {l : List Int} (h : l.length ≤ 1048576) (n : Int) : M_impl_hasInt l n = some (l.any (· == n)) := by
  unfold M_impl_hasInt L_impl_hasInt_0
  have key : ∀ s i, i + s = l.length → whileO S_impl_hasInt_0 (n, l, (l.length : Int), (i : Int), ()) = some (cond ((l.drop i).any (· == n)) (.inl (true, ())) (.inr ())) := by
    intro s
    induction s with
    | zero =>
      intro i hi
      rw [whileO_inr (r := .inr ())]
      · rw [List.drop_eq_nil_of_le (by omega)]; rfl
      · simp [S_impl_hasInt_0, show i = l.length by omega]
    | succ s ih =>
      intro i hi
      have hil : i < l.length := by omega
      rw [List.drop_eq_getElem_cons hil, List.any_cons]
      cases hb : (l[i] == n) with
      | true =>
        rw [whileO_inr (r := .inl (true, ()))]
        · rfl
        · simp only [S_impl_hasInt_0, dlt hil, cond_true, idx_at hil, Option.bind_some, hb]
      | false =>
        rw [whileO_inl (y := (n, l, (l.length : Int), ((i + 1 : Nat) : Int), ())), ih (i + 1) (by omega)]
        · rfl
        · simp only [S_impl_hasInt_0, dlt hil, cond_true, idx_at hil, Option.bind_some, hb, cond_false, succ_wrap hil h]
  have := key l.length 0 (by omega)
  rw [List.drop_zero] at this
  refine (congrArg (fun x => Option.bind x _) this).trans ?_
  cases l.any (· == n) <;> rfl
/-! ### The vector of a column without pivot -/
noncomputable def nvec (f : ES) (c : Nat) : Nat → Nat → Option Rat
  | 0, j => if j = c then some 1 else some 0
  | i + 1, j => if j = piv f i then negO (f.g i c) else nvec f c i j
theorem nvec_piv {f : ES} {c L : Nat} (hasc : ∀ t t', t < t' → t' < L → piv f t < piv f t') {t : Nat} : ∀ i, i ≤ L → t < i → nvec f c i (piv f t) = negO (f.g t c)
  | 0, _, h => by omega
  | i + 1, hi, h => by
    unfold nvec
    by_cases e : t = i
    · rw [e, if_pos rfl]
    · have := hasc t i (by omega) (by omega)
      rw [if_neg (by omega)]
      exact nvec_piv hasc i (by omega) (by omega)
theorem nvec_other {f : ES} {c j : Nat} : ∀ i, (∀ t, t < i → piv f t ≠ j) → nvec f c i j = if j = c then some 1 else some 0
  | 0, _ => rfl
  | i + 1, h => by
    unfold nvec
    rw [if_neg (fun e => h i (by omega) e.symm)]
    exact nvec_other i fun t ht => h t (by omega)
section
variable {r c : Nat}
theorem null_ann {f : ES} (h : Red r c f.g f.pv.length (piv f)) {c0 : Nat} (hc : c0 < c) (hn : ∀ t, t < f.pv.length → piv f t ≠ c0) : Ann r c f.g (fun j => rv (nvec f c0 f.pv.length j)) := fun i hi => by
  have hx0 : nvec f c0 f.pv.length c0 = some 1 := by rw [nvec_other _ hn, if_pos rfl]
  by_cases hL : i < f.pv.length
  · have hxp : nvec f c0 f.pv.length (piv f i) = negO (f.g i c0) := nvec_piv h.asc _ (Nat.le_refl _) hL
    have hg : f.g i (piv f i) = some 1 := by rw [h.unit i i hL hi, if_pos rfl]
    have hoth : ∀ j, j < c → j ≠ piv f i → j ≠ c0 → rv (f.g i j) * rv (nvec f c0 f.pv.length j) = 0 := fun j hj h1 h2 => by
      by_cases hex : ∃ t, t < f.pv.length ∧ piv f t = j
      · obtain ⟨t, ht, e⟩ := hex
        have hti : i ≠ t := fun e2 => h1 (by rw [← e, e2])
        rw [← e, h.unit t i ht hi, if_neg hti]
        exact Rat.zero_mul _
      · rw [nvec_other _ (fun t ht e => hex ⟨t, ht, e⟩), if_neg h2]
        exact Rat.mul_zero _
    have hsum : rv (f.g i (piv f i)) * rv (nvec f c0 f.pv.length (piv f i)) + rv (f.g i c0) * rv (nvec f c0 f.pv.length c0) = 0 := by
      rw [hx0, hxp, hg]
      cases f.g i c0 with
      | none => show (1 : Rat) * 0 + 0 * 1 = 0; grind
      | some y => show 1 * -y + y * 1 = 0; grind
    rcases Nat.lt_or_gt_of_ne (hn i hL) with hlt | hlt
    · rw [dot_two hlt hc (fun j hj h1 h2 => hoth j hj h1 h2)]; exact hsum
    · rw [dot_two hlt (h.lt i hL) (fun j hj h1 h2 => hoth j hj h2 h1), Rat.add_comm]; exact hsum
  · exact dot_zero fun j hj => by rw [h.rest i j (by omega) hi hj]; exact Rat.zero_mul _
theorem range_set {α : Type} {n p : Nat} {h : Nat → α} {o : α} (hp : p < n) : ((List.range n).map h).set p o = (List.range n).map fun j => if j = p then o else h j := by
  apply List.ext_getElem?
  intro j
  by_cases hj : j < n
  · by_cases e : j = p
    · subst e; rw [List.getElem?_set_self (by simpa using hj)]; simp [hj]
    · rw [List.getElem?_set_ne (by omega)]; simp [hj, e]
  · rw [List.getElem?_eq_none (by simp; omega), List.getElem?_eq_none (by simp; omega)]
noncomputable def nvl (f : ES) (c0 c i : Nat) : List Rt := ((List.range c).map (nvec f c0 i)).map ro
theorem null_inner {f : ES} (hr : r ≤ 24) (hc : c ≤ 24) (hg : Good2 r c f.g) (h : Red r c f.g f.pv.length (piv f)) (hval : ∀ t, t < f.pv.length → f.pv[t]? = some ((piv f t : Nat) : Int)) {c0 : Nat} (hc0 : c0 < c) (t t1 v v1 x : Int) (v2 : List Rt) (out : List (List Rt)) :
    L_impl_NullVectors_1 f.pv c0 t t1 f.pv (f.pv.length : Int) 0 v v1 v2 x c ((grid r c f.g).map ro) (nvl f c0 c 0) out = some (f.pv, t, t1, v, v1, v2, x, (c : Int), (grid r c f.g).map ro, nvl f c0 c f.pv.length, out, ()) := by
  unfold L_impl_NullVectors_1
  have hL := h.le
  exact whileO_upto S_impl_NullVectors_1 (fun i => (f.pv, (c0 : Int), t, t1, f.pv, (f.pv.length : Int), (i : Int), v, v1, v2, x, (c : Int), (grid r c f.g).map ro, nvl f c0 c i, out, ())) f.pv.length
    (f.pv, t, t1, v, v1, v2, x, (c : Int), (grid r c f.g).map ro, nvl f c0 c f.pv.length, out, ()) (fun i hi => by
      have hpi := h.lt i hi
      have e1 : idx f.pv (i : Int) = some ((piv f i : Nat) : Int) := by rw [idx_nat]; exact hval i hi
      have hlen : piv f i < (nvl f c0 c i).length := by unfold nvl; simpa using hpi
      have e2 : idx (nvl f c0 c i) ((piv f i : Nat) : Int) = some (nvl f c0 c i)[piv f i] := idx_at hlen
      have e3 : (nvl f c0 c i)[piv f i]? = some (nvl f c0 c i)[piv f i] := List.getElem?_eq_getElem hlen
      have e4 : (nvl f c0 c i).set (piv f i) (ro (negO (f.g i c0))) = nvl f c0 c (i + 1) := by
        unfold nvl
        rw [← List.map_set, range_set hpi]; rfl
      simp only [S_impl_NullVectors_1, dlt hi, cond_true, e1, Option.bind_some, at_gridD (show r ≤ 1000 by omega) (show c ≤ 1000 by omega) (show i < r by omega) hc0, impl_negO (hg i c0 (by omega) hc0).1, e2, Int.toNat_natCast, e3, e4, succ_wrap hi (show f.pv.length ≤ 1048576 by omega)]) (by simp [S_impl_NullVectors_1])
theorem any_piv {f : ES} (hval : ∀ t, t < f.pv.length → f.pv[t]? = some ((piv f t : Nat) : Int)) (c0 : Nat) : f.pv.any (· == (c0 : Int)) = true ↔ ∃ t, t < f.pv.length ∧ piv f t = c0 := by
  rw [List.any_eq_true]
  constructor
  · rintro ⟨x, hx, e⟩
    obtain ⟨t, ht, e2⟩ := List.getElem_of_mem hx
    have := hval t ht
    rw [List.getElem?_eq_getElem ht] at this
    injection this with this
    have e := eq_of_beq e
    exact ⟨t, ht, by omega⟩
  · rintro ⟨t, ht, e⟩
    have := hval t ht
    exact ⟨_, List.mem_of_getElem? this, by rw [e]; exact beq_self_eq_true _⟩
noncomputable def freeL (f : ES) (n : Nat) : List Nat := (List.range n).filter fun c0 => !(f.pv.any (· == (c0 : Int)))
theorem freeL_succ (f : ES) (n : Nat) : freeL f (n + 1) = freeL f n ++ cond (f.pv.any (· == (n : Int))) [] [n] := by
  unfold freeL
  rw [List.range_succ, List.filter_append]
  cases hb : f.pv.any (· == (n : Int)) <;> simp [hb]
theorem null_vectors {f : ES} (hr : r ≤ 24) (hc : c ≤ 24) (hg : Good2 r c f.g) (h : Red r c f.g f.pv.length (piv f)) (hval : ∀ t, t < f.pv.length → f.pv[t]? = some ((piv f t : Nat) : Int)) (x y : Int) (v2 : List Rt) :
    L_impl_NullVectors_0 f.pv c 0 x c v2 y c ((grid r c f.g).map ro) [] = some ((freeL f c).map (fun c0 => nvl f c0 c f.pv.length), ()) := by
  unfold L_impl_NullVectors_0
  have hL := h.le
  have hlenF : ∀ n, (freeL f n).length ≤ n := fun n => by
    unfold freeL; exact Nat.le_trans (List.length_filter_le _ _) (by simp)
  exact whileO_upto S_impl_NullVectors_0 (fun i => (f.pv, (c : Int), (i : Int), x, (c : Int), v2, y, (c : Int), (grid r c f.g).map ro, (freeL f i).map (fun c0 => nvl f c0 c f.pv.length), ())) c
    ((freeL f c).map (fun c0 => nvl f c0 c f.pv.length), ()) (fun i hi => by
      have hl := hlenF i
      have h1 : M_impl_hasInt f.pv (i : Int) = some (f.pv.any (· == (i : Int))) := has_int (by omega) _
      have hz := zero_vec (k := c) hc
      have hsucc := freeL_succ f i
      cases hb : f.pv.any (· == (i : Int)) with
      | true =>
        rw [hb] at h1 hsucc
        rw [hsucc, cond_true, List.append_nil]
        simp only [S_impl_NullVectors_0, dlt hi, cond_true, h1, Option.bind_some, succ_wrap hi (show c ≤ 1048576 by omega)]
      | false =>
        rw [hb] at h1 hsucc
        rw [hsucc, cond_false, List.map_append, List.map_singleton]
        have hlz : i < ((List.replicate c (0 : Rat)).map rq).length := by simpa using hi
        have e2 : idx ((List.replicate c (0 : Rat)).map rq) (i : Int) = some ((List.replicate c (0 : Rat)).map rq)[i] := idx_at hlz
        have e3 : ((List.replicate c (0 : Rat)).map rq)[i]? = some ((List.replicate c (0 : Rat)).map rq)[i] := List.getElem?_eq_getElem hlz
        have e4 : ((List.replicate c (0 : Rat)).map rq).set i (ro (some 1)) = nvl f i c 0 := by
          have : (List.replicate c (0 : Rat)).map rq = ((List.range c).map fun _ => some (0 : Rat)).map ro := by
            apply List.ext_getElem?; intro j; by_cases hj : j < c <;> simp [hj] <;> rfl
          rw [this, ← List.map_set, range_set hi]; rfl
        have hin := null_inner (f := f) hr hc hg h hval hi c i x c y v2 ((freeL f i).map (fun c0 => nvl f c0 c f.pv.length))
        simp only [S_impl_NullVectors_0, dlt hi, cond_true, cond_false, h1, Option.bind_some, hz, whole_one, e2, e3, Int.toNat_natCast, e4, hin, room1 (show ((freeL f i).map (fun c0 => nvl f c0 c f.pv.length)).length ≤ 2000000 by rw [List.length_map]; omega), succ_wrap hi (show c ≤ 1048576 by omega)]) (by simp [S_impl_NullVectors_0])
end
theorem innR_dot (a b : List Rat) : ∀ n, innR a b n = dot n (fun j => (a[j]?).getD 0) (fun j => (b[j]?).getD 0)
  | 0 => rfl
  | n + 1 => by show innR a b n + _ = dot n _ _ + _; rw [innR_dot a b n]
theorem four_left {f : ES} (hval : ∀ t, t < f.pv.length → f.pv[t]? = some ((piv f t : Nat) : Int)) (h : Red 2 4 f.g f.pv.length (piv f)) : (freeL f 4).length + f.pv.length = 4 := by
  have hL := h.le
  have key : ∀ l : List Int, f.pv = l → (freeL f 4).length = ((List.range 4).filter fun (c0 : Nat) => !(l.any (· == (c0 : Int)))).length := fun l e => by unfold freeL; rw [e]
  rcases (by omega : f.pv.length = 0 ∨ f.pv.length = 1 ∨ f.pv.length = 2) with e | e | e
  · rw [key [] (List.eq_nil_of_length_eq_zero e), e]; rfl
  · have h0 := hval 0 (by omega)
    have l0 := h.lt 0 (by omega)
    have : f.pv = [((piv f 0 : Nat) : Int)] := by
      match hp : f.pv, e with
      | [a], _ => rw [hp] at h0; simp at h0; rw [h0]
    rw [key _ this, e]
    rcases (by omega : piv f 0 = 0 ∨ piv f 0 = 1 ∨ piv f 0 = 2 ∨ piv f 0 = 3) with e | e | e | e <;> rw [e] <;> rfl
  · have h0 := hval 0 (by omega)
    have h1 := hval 1 (by omega)
    have l1 := h.lt 1 (by omega)
    have a := h.asc 0 1 (by omega) (by omega)
    have : f.pv = [((piv f 0 : Nat) : Int), ((piv f 1 : Nat) : Int)] := by
      match hp : f.pv, e with
      | [a, b], _ => rw [hp] at h0 h1; simp at h0 h1; rw [h0, h1]
    rw [key _ this, e]
    rcases (by omega : (piv f 0 = 0 ∧ piv f 1 = 1) ∨ (piv f 0 = 0 ∧ piv f 1 = 2) ∨ (piv f 0 = 0 ∧ piv f 1 = 3) ∨ (piv f 0 = 1 ∧ piv f 1 = 2) ∨ (piv f 0 = 1 ∧ piv f 1 = 3) ∨ (piv f 0 = 2 ∧ piv f 1 = 3)) with ⟨e, e2⟩ | ⟨e, e2⟩ | ⟨e, e2⟩ | ⟨e, e2⟩ | ⟨e, e2⟩ | ⟨e, e2⟩ <;> rw [e, e2] <;> rfl
theorem mx_grid {r c : Nat} {g : Nat → Nat → Option Rat} (hr : r ≤ 24) (hc : c ≤ 24) (hg : Good2 r c g) : M_impl_MatrixOk ⟨r, c, (grid r c g).map ro⟩ = some true := by
  have h1 := prod24 hr hc
  obtain ⟨q, hq, e, hl⟩ := all_some (l := grid r c g) (allG_iff.2 fun i j hi hj => (hg i j hi hj).2) (fun o ho => by obtain ⟨i, j, hi, hj, rfl⟩ := grid_mem ho; exact (hg i j hi hj).1)
  rw [e, impl_mxOk (m := ⟨r, c, q.map rq⟩) (lfit_rq hq (by rw [hl, len_grid]; omega)), mx_ok hr hc (by rw [hl, len_grid]) hq]
theorem reduce_grid {r c : Nat} {g : Nat → Nat → Option Rat} (hr : r ≤ 24) (hc : c ≤ 24) (hg : Good2 r c g) {f : ES} (e : elim r c g c = some f) : M_impl_Reduce ⟨r, c, (grid r c g).map ro⟩ = some (⟨r, c, (grid r c f.g).map ro⟩, f.pv, true) := by
  unfold M_impl_Reduce
  rw [mx_grid hr hc hg, Option.bind_some, Bool.not_true, cond_false]
  rcases impl_reduce hr (show c ≤ 200 by omega) hg with ⟨f', e3, e4⟩ | ⟨e3, _⟩
  · rw [e] at e3; injection e3 with e3; subst e3
    rw [e4]; rfl
  · rw [e] at e3; cases e3
theorem rank_grid {r c : Nat} {g : Nat → Nat → Option Rat} (hr : r ≤ 24) (hc : c ≤ 24) (hg : Good2 r c g) {f : ES} (e : elim r c g c = some f) : M_impl_RankOf ⟨r, c, (grid r c g).map ro⟩ = some (f.pv.length : Int) := by
  unfold M_impl_RankOf
  rw [reduce_grid hr hc hg e]; rfl
theorem bb_le {t : Nat} (h : t ≤ 2) : bb t ≤ 37 := by
  rcases (by omega : t = 0 ∨ t = 1 ∨ t = 2) with e | e | e <;> rw [e] <;> decide
theorem law_FnNull (code : List Int) (_ : CK.wf (.sl .byte) code) : M_laws_FnNull code = some true := by
  unfold M_laws_FnNull
  cases hcl : decide ((code.length : Int) > 1048576) with
  | true => rfl
  | false =>
    have hl : code.length ≤ 1048576 := by have := of_decide_eq_false hcl; omega
    obtain ⟨q, e1, lq, sq⟩ := make_mx hl (n := 1) (by omega) (r := 2) (c := 4) (by omega) (by omega)
    have zq : Szs q 2 := sq.sz
    have fq : Fits q := zq.fits (by omega)
    have hg := gof_good (q := q) (r := 2) (c := 4) lq fq
    obtain ⟨f, ef, hL, hS, _⟩ := elim_sz (r := 2) (c := 4) (by omega) hg (szg_gof lq zq) 4 (Nat.le_refl 4)
    have inv := elim_inv hg (Nat.le_refl 4) ef
    have hR := elim_rinv hg (Nat.le_refl 4) ef
    have red := red_of inv hR
    have hS37 : SzG 2 4 f.g 37 := hS.mono (bb_le hL)
    have ge := gof_grid (q := q) (r := 2) (c := 4) lq
    have r1 := reduce_grid (r := 2) (c := 4) (by omega) (by omega) hg ef
    have r2 := rank_grid (r := 2) (c := 4) (by omega) (by omega) hg ef
    obtain ⟨f2, ef2, el2⟩ := red_rank inv.good red
    have r3 := rank_grid (r := 2) (c := 4) (by omega) (by omega) inv.good ef2
    rw [ge] at r1 r2
    have nv := null_vectors (r := 2) (c := 4) (f := f) (by omega) (by omega) inv.good red hR.val 2 2 (q.map rq)
    have cnt := four_left hR.val red
    have hNV : M_impl_NullVectors ⟨2, 4, q.map rq⟩ = some ((freeL f 4).map (fun c0 => nvl f c0 4 f.pv.length), true) := by
      unfold M_impl_NullVectors
      have r1' : M_impl_Reduce ⟨2, 4, q.map rq⟩ = some (⟨2, 4, (grid 2 4 f.g).map ro⟩, f.pv, true) := r1
      rw [r1']
      simp only [Option.bind_some, Bool.not_true, cond_false]
      exact congrArg (fun x => Option.bind x _) nv
    -- each vector is mapped to 0
    have hz : ∀ c0, c0 ∈ freeL f 4 → ∃ w : List Rat, nvl f c0 4 f.pv.length = w.map rq ∧ M_impl_ApplyMatrix ⟨2, 4, q.map rq⟩ (w.map rq) = some (([0, 0] : List Rat).map rq, true) := fun c0 hc0 => by
      unfold freeL at hc0
      obtain ⟨h1, h2⟩ := List.mem_filter.1 hc0
      have hc4 : c0 < 4 := List.mem_range.1 h1
      have hn : ∀ t, t < f.pv.length → piv f t ≠ c0 := fun t ht e => by
        have := (any_piv hR.val c0).2 ⟨t, ht, e⟩
        rw [this] at h2; cases h2
      have hsz : ∀ i, i ≤ f.pv.length → ∀ j, ∃ x, nvec f c0 i j = some x ∧ Sz x 37 := by
        intro i
        induction i with
        | zero =>
          intro _ j
          unfold nvec
          split
          · exact ⟨1, rfl, sz_one.mono (by omega)⟩
          · exact ⟨0, rfl, sz_zero.mono (by omega)⟩
        | succ i ih =>
          intro hi j
          unfold nvec
          split
          · obtain ⟨x, e, s⟩ := hS37 i c0 (by omega) hc4
            exact ⟨-x, by rw [e]; rfl, sz_neg s⟩
          · exact ih (by omega) j
      let w : List Rat := (List.range 4).map fun j => rv (nvec f c0 f.pv.length j)
      have hw : nvl f c0 4 f.pv.length = w.map rq := by
        unfold nvl
        simp only [w, List.map_map]
        apply List.map_congr_left
        intro j _
        obtain ⟨x, e, _⟩ := hsz f.pv.length (Nat.le_refl _) j
        show ro (nvec f c0 f.pv.length j) = rq (rv (nvec f c0 f.pv.length j))
        rw [e]; rfl
      have hws : Szs w 37 := fun x hx => by
        obtain ⟨j, _, rfl⟩ := List.mem_map.1 hx
        obtain ⟨x, e, s⟩ := hsz f.pv.length (Nat.le_refl _) j
        show Sz (rv (nvec f c0 f.pv.length j)) 37
        rw [e]; exact s
      have hwl : w.length = 4 := by simp [w]
      have app := (apply_small (r := 2) (c := 4) (by omega) (by omega) lq hwl zq hws (by omega) (by omega) (by omega)).1
      have ann := ann_elim hg (Nat.le_refl 4) ef (null_ann red hc4 hn)
      have hrow : ∀ i, i < 2 → innR (rowq q 4 i) w 4 = 0 := fun i hi => by
        rw [innR_dot]
        refine (dot_congr (fun j hj => ?_) fun j hj => ?_).trans (ann i hi)
        · rw [rowq_get hj]; rfl
        · simp [w, hj]
      have hz2 : appR q 2 4 w = [0, 0] := by
        show [innR (rowq q 4 0) w 4, innR (rowq q 4 1) w 4] = _
        rw [hrow 0 (by omega), hrow 1 (by omega)]
      rw [hz2] at app
      exact ⟨w, hw, app⟩
    -- the loop over the vectors
    have hlen : ((freeL f 4).map (fun c0 => nvl f c0 4 f.pv.length)).length ≤ 4 := by rw [List.length_map]; omega
    generalize hvs : (freeL f 4).map (fun c0 => nvl f c0 4 f.pv.length) = vs at *
    have hvz : ∀ v, v ∈ vs → ∃ w : List Rat, v = w.map rq ∧ M_impl_ApplyMatrix ⟨2, 4, q.map rq⟩ (w.map rq) = some (([0, 0] : List Rat).map rq, true) := fun v hv => by
      rw [← hvs] at hv
      obtain ⟨c0, h0, rfl⟩ := List.mem_map.1 hv
      exact hz c0 h0
    have hloop : L_laws_FnNull_0 (vs.length : Int) 0 2 4 (q.map rq) vs = some (.inr ()) := by
      unfold L_laws_FnNull_0
      exact whileO_upto S_laws_FnNull_0 (fun i => ((vs.length : Int), (i : Int), 2, 4, q.map rq, vs, ())) vs.length (.inr ()) (fun i hi => by
        obtain ⟨w, ew, ea⟩ := hvz vs[i] (List.getElem_mem hi)
        have g1 : vs[i]? = some vs[i] := List.getElem?_eq_getElem hi
        have hzv : M_impl_ZeroVector 2 = some (([0, 0] : List Rat).map rq) := zero_vec (k := 2) (by omega)
        have heq : M_impl_EqualVectors (([0, 0] : List Rat).map rq) (([0, 0] : List Rat).map rq) = some true := vec_same rfl (k := 0) (fun x hx => by
          rcases List.mem_cons.1 hx with rfl | hx
          · exact sz_zero
          · rw [List.mem_singleton.1 hx]; exact sz_zero) (by omega) (by decide)
        simp only [S_laws_FnNull_0, dlt hi, cond_true, idx_at hi, Option.bind_some, Int.toNat_natCast, g1]
        rw [ew, ea]
        simp only [Option.bind_some, Bool.not_true, cond_false, hzv, heq, succ_wrap hi (show vs.length ≤ 1048576 by omega)]) (by simp [S_laws_FnNull_0])
    have hvl : vs.length + f.pv.length = 4 := by rw [← hvs, List.length_map]; exact cnt
    have hsum : (IntKind.i64.wrap ((vs.length : Int) + (f.pv.length : Int)) != 4) = false := by
      rw [show ((vs.length : Int) + (f.pv.length : Int)) = 4 by omega]; rfl
    have e1' : M_spec_MakeMatrix code 1 2 4 = some ⟨2, 4, q.map rq⟩ := e1
    have r1' : M_impl_Reduce ⟨2, 4, q.map rq⟩ = some (⟨2, 4, (grid 2 4 f.g).map ro⟩, f.pv, true) := r1
    have r2' : M_impl_RankOf ⟨2, 4, q.map rq⟩ = some (f.pv.length : Int) := r2
    have r3' : M_impl_RankOf ⟨2, 4, (grid 2 4 f.g).map ro⟩ = some (f.pv.length : Int) := by rw [← el2]; exact r3
    simp only [cond_false, e1', hNV, r1', Option.bind_some, Bool.not_true, hsum, r2', r3', bneSelf, hloop]
end Go.Di
