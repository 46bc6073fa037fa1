/-
  Own work: part 9 of the texts that the proof of the given statement leans on.
-/
import Derived.Test.YtgimphipdnieaaaGreatZIsPositiveP01
namespace Go.Di
end Go.Di
namespace Go.Di
theorem inB_iff {n lo hi : Int} : inB n lo hi = true ↔ lo ≤ n ∧ n ≤ hi := by
  unfold inB; simp only [Bool.and_eq_true, decide_eq_true_iff]
structure MxQ (m : Mx) (r c : Nat) (q : List Rat) : Prop where
  r24 : r ≤ 24
  c24 : c ≤ 24
  len : q.length = r * c
  fits : Fits q
  eq : m = ⟨r, c, q.map rq⟩
theorem prod24 {r c : Nat} (hr : r ≤ 24) (hc : c ≤ 24) : r * c ≤ 576 := by
  calc r * c ≤ 24 * 24 := Nat.mul_le_mul hr hc
    _ = 576 := rfl
theorem mx_cases {m : Mx} (h : mxB m = true) : ∃ r c q, MxQ m r c q := by
  unfold mxB at h
  simp only [Bool.and_eq_true, inB_iff] at h
  obtain ⟨⟨h1, h2⟩, ⟨h3, h4⟩, h5, h6⟩ := h
  obtain ⟨q, hq, he⟩ := goods_q h6
  obtain ⟨rows, cols, cells⟩ := m
  simp only at *
  obtain ⟨r, rfl⟩ := Int.eq_ofNat_of_zero_le h1
  obtain ⟨c, rfl⟩ := Int.eq_ofNat_of_zero_le h3
  have hp := prod24 (show r ≤ 24 by omega) (show c ≤ 24 by omega)
  have e1 : ((r : Int) * (c : Int)) = ((r * c : Nat) : Int) := by simp
  rw [e1, wrap_i64 (by omega) (by omega), beq_iff_eq] at h5
  subst he
  exact ⟨r, c, q, by omega, by omega, by rw [List.length_map] at h5; omega, hq, rfl⟩
theorem at_pos {i c k : Nat} (hi : i < 1000) (hc : c ≤ 1000) (hk : k < 1000) : IntKind.i64.wrap (IntKind.i64.wrap ((i : Int) * (c : Int)) + (k : Int)) = ((i * c + k : Nat) : Int) := by
  have hp : i * c ≤ 1000 * 1000 := Nat.mul_le_mul (by omega) hc
  have e1 : ((i : Int) * (c : Int)) = ((i * c : Nat) : Int) := by simp
  rw [e1, wrap_i64 (n := ((i * c : Nat) : Int)) (by omega) (by omega), wrap_i64 (by omega) (by omega)]
  simp
theorem at_lt {i r c k : Nat} (hi : i < r) (hk : k < c) : i * c + k < r * c := by
  have : (i + 1) * c ≤ r * c := Nat.mul_le_mul_right _ (by omega)
  rw [Nat.add_mul, Nat.one_mul] at this
  omega
theorem impl_at {r c : Nat} {q : List Rat} {i k : Nat} {x : Int} (hl : q.length = r * c) (hr : r ≤ 24) (hc : c ≤ 24) (hi : i < r) (hk : k < c) : M_impl_Matrix_at ⟨x, c, q.map rq⟩ i k = some (ro q[i * c + k]?) := by
  unfold M_impl_Matrix_at
  simp only []
  rw [at_pos (by omega) (by omega) (by omega), idx_q (by rw [hl]; exact at_lt hi hk)]; rfl
theorem spec_at {r c : Nat} {q : List Rat} {i k : Nat} {x : Int} (hl : q.length = r * c) (hr : r ≤ 24) (hc : c ≤ 24) (hi : i < r) (hk : k < c) : M_spec_l06At ⟨x, c, q.map rq⟩ i k = some (ro q[i * c + k]?) :=
  impl_at hl hr hc hi hk
/-! ### Matrices of integers -/
/-! ### Elements, rows, diagonals -/
theorem copy_ro {o : Option Rat} (h : Oks o) : M_impl_copyRat (ro o) = some (ro o) := impl_copyRat (ro_fit h)
theorem copy_ro' {o : Option Rat} (h : Oks o) : M_spec_l04Copy (ro o) = some (ro o) := spec_copyRat (ro_fit h)
/-! ### Products with vectors -/
end Go.Di
namespace Go.Di
/-! ### Grids -/
def grid {α : Type} (r c : Nat) (g : Nat → Nat → α) : List α := (List.range r).flatMap fun i => (List.range c).map (g i)
theorem grid_succ {α : Type} (r c : Nat) (g : Nat → Nat → α) : grid (r + 1) c g = grid r c g ++ (List.range c).map (g r) := by
  unfold grid; rw [List.range_succ, List.flatMap_append]; simp
theorem len_grid {α : Type} (r c : Nat) (g : Nat → Nat → α) : (grid r c g).length = r * c := by
  induction r with
  | zero => simp [grid]
  | succ r ih => rw [grid_succ, List.length_append, ih, List.length_map, List.length_range, Nat.add_mul, Nat.one_mul]
theorem grid_at {α : Type} {r c : Nat} (g : Nat → Nat → α) {j : Nat} (h : j < r * c) : (grid r c g)[j]? = some (g (j / c) (j % c)) := by
  induction r with
  | zero => omega
  | succ r ih =>
    rw [grid_succ]
    by_cases hj : j < r * c
    · rw [List.getElem?_append_left (by rw [len_grid]; exact hj)]; exact ih hj
    · rw [List.getElem?_append_right (by rw [len_grid]; omega), len_grid]
      rw [Nat.add_mul, Nat.one_mul] at h
      have hk : j - r * c < c := by omega
      rw [List.getElem?_map, List.getElem?_range hk]
      have e : j = c * r + (j - r * c) := by rw [Nat.mul_comm c r]; omega
      have h1 : j / c = r := by
        rw [e, Nat.mul_add_div (by omega), Nat.div_eq_of_lt hk]; omega
      have h2 : j % c = j - r * c := by
        conv => lhs; rw [e]
        rw [Nat.mul_add_mod, Nat.mod_eq_of_lt hk]
      rw [h1, h2]; rfl
theorem pos_div {i c k : Nat} (hk : k < c) : (i * c + k) / c = i ∧ (i * c + k) % c = k := by
  constructor
  · rw [Nat.mul_comm, Nat.mul_add_div (by omega), Nat.div_eq_of_lt hk]; omega
  · rw [Nat.mul_comm, Nat.mul_add_mod, Nat.mod_eq_of_lt hk]
theorem grid_map {α β : Type} (f : α → β) (r c : Nat) (g : Nat → Nat → α) : (grid r c g).map f = grid r c fun i k => f (g i k) := by
  unfold grid
  rw [List.map_flatMap]
  congr 1
  funext i
  rw [List.map_map]; rfl
theorem grid_mem {α : Type} {r c : Nat} {g : Nat → Nat → α} {x : α} (h : x ∈ grid r c g) : ∃ i k, i < r ∧ k < c ∧ x = g i k := by
  obtain ⟨i, hi, hx⟩ := List.mem_flatMap.1 h
  obtain ⟨k, hk, rfl⟩ := List.mem_map.1 hx
  exact ⟨i, k, List.mem_range.1 hi, List.mem_range.1 hk, rfl⟩
theorem div_parts {r c j : Nat} (h : j < r * c) : j / c < r ∧ j % c < c ∧ j / c * c + j % c = j := by
  have hc : 0 < c := by
    rcases Nat.eq_zero_or_pos c with h0 | h0
    · subst h0; simp at h
    · exact h0
  refine ⟨Nat.div_lt_of_lt_mul (by rw [Nat.mul_comm]; exact h), Nat.mod_lt _ hc, ?_⟩
  rw [Nat.mul_comm]; exact Nat.div_add_mod j c
theorem grid_congr {α : Type} {r c : Nat} {g h : Nat → Nat → α} (e : ∀ i k, i < r → k < c → g i k = h i k) : grid r c g = grid r c h := by
  apply List.ext_getElem?
  intro j
  by_cases hj : j < r * c
  · obtain ⟨h1, h2, _⟩ := div_parts hj
    rw [grid_at g hj, grid_at h hj, e _ _ h1 h2]
  · rw [List.getElem?_eq_none (by rw [len_grid]; omega), List.getElem?_eq_none (by rw [len_grid]; omega)]
theorem grid_lin {α : Type} (r c : Nat) (f : Nat → α) : grid r c (fun i k => f (i * c + k)) = (List.range (r * c)).map f := by
  apply List.ext_getElem?
  intro j
  by_cases hj : j < r * c
  · rw [grid_at _ hj, (div_parts hj).2.2, List.getElem?_map, List.getElem?_range hj]; rfl
  · rw [List.getElem?_eq_none (by rw [len_grid]; omega), List.getElem?_eq_none (by simp; omega)]
theorem grid_set {α : Type} {r c i k : Nat} (g : Nat → Nat → α) (x : α) (hi : i < r) (hk : k < c) : (grid r c g).set (i * c + k) x = grid r c fun a b => if a = i ∧ b = k then x else g a b := by
  apply List.ext_getElem?
  intro j
  rw [List.getElem?_set]
  by_cases hj : j < r * c
  · obtain ⟨h1, h2, h3⟩ := div_parts hj
    rw [grid_at (fun a b => if a = i ∧ b = k then x else g a b) hj]
    split
    · rename_i e
      rw [if_pos (by rw [len_grid]; omega)]
      subst e
      rw [(pos_div hk).1, (pos_div hk).2, if_pos ⟨rfl, rfl⟩]
    · rename_i e
      rw [grid_at g hj, if_neg (by rintro ⟨e1, e2⟩; rw [e1, e2] at h3; exact e h3)]
  · rw [List.getElem?_eq_none (l := grid r c _) (by rw [len_grid]; omega), if_neg (by have := at_lt hi hk; omega), List.getElem?_eq_none (by rw [len_grid]; omega)]
/-! ### Loops -/
theorem app_from {β σ ρ : Type} {S : σ → Option (σ ⊕ ρ)} (x0 : List β) (st : Int → List β → σ) (g : Nat → β) (n : Nat) {r : List β → ρ}
    (hS : ∀ (i : Nat) out, i < n → out.length = x0.length + i → S (st (i : Int) out) = some (.inl (st ((i + 1 : Nat) : Int) (out ++ [g i])))) (hE : ∀ out, out.length = x0.length + n → S (st (n : Int) out) = some (.inr (r out))) :
    whileO S (st 0 x0) = some (r (x0 ++ (List.range n).map g)) := by
  have key := whileO_upto S (fun i => st (i : Int) (x0 ++ (List.range i).map g)) n (r (x0 ++ (List.range n).map g)) (fun i hi => by
    rw [hS i _ hi (by simp), List.range_succ, List.map_append, List.append_assoc]; rfl) (hE _ (by simp))
  simpa using key
theorem grid_loop {β σ ρ : Type} {S : σ → Option (σ ⊕ ρ)} (st : Int → List β → σ) (g : Nat → Nat → β) (n c : Nat) {r : List β → ρ}
    (hS : ∀ (i : Nat) out, i < n → out.length = i * c → S (st (i : Int) out) = some (.inl (st ((i + 1 : Nat) : Int) (out ++ (List.range c).map (g i))))) (hE : ∀ out, out.length = n * c → S (st (n : Int) out) = some (.inr (r out))) :
    whileO S (st 0 []) = some (r (grid n c g)) := by
  have key := whileO_upto S (fun i => st (i : Int) (grid i c g)) n (r (grid n c g)) (fun i hi => by
    rw [hS i _ hi (len_grid ..), grid_succ]) (hE _ (len_grid ..))
  simpa [grid] using key
theorem room_row {i n c k r m : Nat} (hi : i < n) (hk : k < c) (hn : n ≤ 24) (hc : c ≤ 24) (hr : r = i * c) (hm : m = r + k) : guardO (Nat.ble (m + 1) maxNew) = some () := by
  have := at_lt hi hk
  have := prod24 hn hc
  exact room1 (by omega)
/-! ### Identities -/
noncomputable def idO (i k : Nat) : Option Rat := if i = k then some 1 else some 0
theorem fit_one : Fit 1 := by
  have := fit_int (n := 1) (by omega) (by omega)
  simpa using this
theorem oks_idO (i k : Nat) : Oks (idO i k) := by
  unfold idO; split
  · exact fit_one.ok
  · exact fit_zero.ok
theorem whole_one : M_impl_whole 1 = some (ro (some 1)) := by
  have := impl_whole (n := 1) (by omega) (by omega)
  simpa using this
theorem spec_one : M_spec_RatFromInt 1 = some (ro (some 1)) := by
  have := spec_ratInt (n := 1) (by omega) (by omega)
  simpa using this
theorem impl_idc (i k : Nat) : M_impl_IdentityMatrix_c1 (i : Int) (k : Int) = some (ro (idO i k)) := by
  unfold M_impl_IdentityMatrix_c1 idO
  have : ((i : Int) == (k : Int)) = decide (i = k) := by rw [Bool.eq_iff_iff]; simp; omega
  rw [this, whole_one, whole_zero]
  by_cases h : i = k
  · rw [decide_eq_true h, if_pos h]; rfl
  · rw [decide_eq_false h, if_neg h]; rfl
theorem impl_idMx {n : Nat} (hn : n ≤ 24) : M_impl_built__impl_IdentityMatrix_c1 n n = some ⟨n, n, (grid n n idO).map ro⟩ := by
  unfold M_impl_built__impl_IdentityMatrix_c1 L_impl_built__impl_IdentityMatrix_c1_0
  rw [grid_loop (S := S_impl_built__impl_IdentityMatrix_c1_0) (fun i out => ((n : Int), (n : Int), i, 0, 0, [], (n : Int), (n : Int), out, ())) (fun i k => ro (idO i k)) n n (r := fun out => (0, 0, [], (n : Int), (n : Int), out, ())) (fun i out hi ho => by
    unfold S_impl_built__impl_IdentityMatrix_c1_0 L_impl_built__impl_IdentityMatrix_c1_1
    simp only [dlt hi, cond_true]
    rw [app_from (S := S_impl_built__impl_IdentityMatrix_c1_1) out (fun k out => ((n : Int), (i : Int), (n : Int), (i : Int), (n : Int), k, 0, 0, [], (n : Int), (n : Int), out, ())) (fun k => ro (idO i k)) n (r := fun out => ((n : Int), (n : Int), (i : Int), 0, 0, [], (n : Int), (n : Int), out, ())) (fun k xs hk hx => by
      simp only [S_impl_built__impl_IdentityMatrix_c1_1, dlt hk, cond_true, impl_idc, Option.bind_some, room_row hi hk hn hn ho hx, succ_wrap hk (show n ≤ 1048576 by omega)]) (fun out _ => by simp [S_impl_built__impl_IdentityMatrix_c1_1])]
    simp only [Option.bind_some, succ_wrap hi (show n ≤ 1048576 by omega)]) (fun out _ => by simp [S_impl_built__impl_IdentityMatrix_c1_0])]
  rw [grid_map]; rfl
theorem spec_zeros {n : Nat} (hn : n ≤ 20000) : M_spec_l05Zeros (n : Int) = some ((List.range n).map fun _ => ro (some 0)) := by
  unfold M_spec_l05Zeros L_spec_l05Zeros_0
  rw [app_loop (S := S_spec_l05Zeros_0) (fun _ out => ((n : Int), out, ())) (fun _ => ro (some 0)) n (r := fun out => (out, ())) (fun i out hi ho => by
    have hlt : decide ((out.length : Int) < (n : Int)) = true := dlt (by omega)
    simp only [S_spec_l05Zeros_0, hlt, cond_true, spec_zero, Option.bind_some, room1 (show out.length ≤ 2000000 by omega)]) (fun out ho => by
    have : decide ((out.length : Int) < (n : Int)) = false := decide_eq_false (by omega)
    simp only [S_spec_l05Zeros_0, this, cond_false])]
  rfl
/-! ### Transposed matrices -/
def trans (q : List Rat) (r c : Nat) : List Rat := grid c r fun i k => (q[k * c + i]?).getD 0
theorem trans_rq {q : List Rat} {r c : Nat} (hl : q.length = r * c) : (trans q r c).map rq = grid c r fun i k => ro q[k * c + i]? := by
  unfold trans
  rw [grid_map]
  refine grid_congr fun i k hi hk => ?_
  have : k * c + i < q.length := by rw [hl]; exact at_lt hk hi
  rw [List.getElem?_eq_getElem this]; rfl
theorem impl_turned {q : List Rat} {r c : Nat} (hr : r ≤ 24) (hc : c ≤ 24) (hl : q.length = r * c) (hf : Fits q) : M_impl_turned ⟨r, c, q.map rq⟩ = some ⟨c, r, (trans q r c).map rq⟩ := by
  unfold M_impl_turned M_impl_built__impl_turned_c1 L_impl_built__impl_turned_c1_0
  simp only []
  rw [grid_loop (S := S_impl_built__impl_turned_c1_0) (fun i out => ((r : Int), (r : Int), (c : Int), q.map rq, (c : Int), i, 0, 0, [], (c : Int), (r : Int), out, ())) (fun i k => ro q[k * c + i]?) c r (r := fun out => (0, 0, [], (c : Int), (r : Int), out, ())) (fun i out hi ho => by
    unfold S_impl_built__impl_turned_c1_0 L_impl_built__impl_turned_c1_1
    simp only [dlt hi, cond_true]
    rw [app_from (S := S_impl_built__impl_turned_c1_1) out (fun k out => ((r : Int), (r : Int), (c : Int), q.map rq, (i : Int), (c : Int), (i : Int), (r : Int), k, 0, 0, [], (c : Int), (r : Int), out, ())) (fun k => ro q[k * c + i]?) r (r := fun out => ((r : Int), (r : Int), (c : Int), q.map rq, (c : Int), (i : Int), 0, 0, [], (c : Int), (r : Int), out, ())) (fun k xs hk hx => by
      simp only [S_impl_built__impl_turned_c1_1, M_impl_turned_c1, dlt hk, cond_true, impl_at hl hr hc hk hi, Option.bind_some, copy_ro (hf.get _), room_row hi hk hc hr ho hx, succ_wrap hk (show r ≤ 1048576 by omega)]) (fun out _ => by simp [S_impl_built__impl_turned_c1_1])]
    simp only [Option.bind_some, succ_wrap hi (show c ≤ 1048576 by omega)]) (fun out _ => by simp [S_impl_built__impl_turned_c1_0])]
  rw [trans_rq hl]; rfl
theorem spec_turned {q : List Rat} {r c : Nat} (hr : r ≤ 24) (hc : c ≤ 24) (hl : q.length = r * c) (hf : Fits q) : M_spec_l06Transpose ⟨r, c, q.map rq⟩ = some ⟨c, r, (trans q r c).map rq⟩ := by
  unfold M_spec_l06Transpose L_spec_l06Transpose_0
  simp only []
  rw [grid_loop (S := S_spec_l06Transpose_0) (fun i out => (i, (r : Int), (c : Int), q.map rq, 0, 0, [], (c : Int), (r : Int), out, ())) (fun i k => ro q[k * c + i]?) c r (r := fun out => (0, 0, [], (c : Int), (r : Int), out, ())) (fun i out hi ho => by
    unfold S_spec_l06Transpose_0 L_spec_l06Transpose_1
    simp only [dlt hi, cond_true]
    rw [app_from (S := S_spec_l06Transpose_1) out (fun k out => ((i : Int), k, (r : Int), (c : Int), q.map rq, 0, 0, [], (c : Int), (r : Int), out, ())) (fun k => ro q[k * c + i]?) r (r := fun out => ((i : Int), (r : Int), (c : Int), q.map rq, 0, 0, [], (c : Int), (r : Int), out, ())) (fun k xs hk hx => by
      simp only [S_spec_l06Transpose_1, dlt hk, cond_true, spec_at hl hr hc hk hi, Option.bind_some, copy_ro' (hf.get _), room_row hi hk hc hr ho hx, succ_wrap hk (show r ≤ 1048576 by omega)]) (fun out _ => by simp [S_spec_l06Transpose_1])]
    simp only [Option.bind_some, succ_wrap hi (show c ≤ 1048576 by omega)]) (fun out _ => by simp [S_spec_l06Transpose_0])]
  rw [trans_rq hl]; rfl
theorem symmetric_both {m : Mx} (hm : lfit Rt.fit m.cells) : ∃ b, M_spec_IsSymmetric m = some b ∧ M_impl_IsSymmetric m = some b := by
  cases hb : mxB m with
  | false => exact ⟨false, by unfold M_spec_IsSymmetric; rw [spec_mxOk hm, hb]; rfl, by unfold M_impl_IsSymmetric; rw [impl_mxOk hm, hb]; rfl⟩
  | true =>
    obtain ⟨r, c, q, hq⟩ := mx_cases hb
    obtain ⟨hr, hc, hl, hf, hmq⟩ := hq
    have hi : M_impl_IsSymmetric m = some (eqB m ⟨c, r, (trans q r c).map rq⟩) := by
      unfold M_impl_IsSymmetric
      rw [impl_mxOk hm, hb]
      simp only [Option.bind_some, cond_true]
      rw [show M_impl_turned m = some ⟨c, r, (trans q r c).map rq⟩ by rw [hmq, impl_turned hr hc hl hf], Option.bind_some, impl_mxEq hm]; rfl
    have hs : M_spec_IsSymmetric m = some (cond (m.rows == m.cols) (eqB m ⟨c, r, (trans q r c).map rq⟩) false) := by
      unfold M_spec_IsSymmetric
      rw [spec_mxOk hm, hb]
      simp only [Option.bind_some, cond_true]
      rw [show M_spec_l06Transpose m = some ⟨c, r, (trans q r c).map rq⟩ by rw [hmq, spec_turned hr hc hl hf], Option.bind_some, spec_mxEq hm]
      cases (m.rows == m.cols) <;> rfl
    refine ⟨_, hs, hi.trans ?_⟩
    cases hrc : (m.rows == m.cols) with
    | true => rfl
    | false =>
      congr 1
      rw [cond_false, eqB_false]
      intro e
      rw [hmq] at e hrc
      injection e with e1 _ _
      rw [e1] at hrc
      simp at hrc
/-! ### Sums, products -/
/-! ### Parts -/
end Go.Di
namespace Go.Di
end Go.Di
namespace Go.Di
theorem spec_negO {o : Option Rat} (ho : Oks o) : M_spec_l04Neg (ro o) = some (ro (negO o)) := by
  unfold M_spec_l04Neg
  cases o with
  | none =>
    have h0 : M_spec_l03Make (!(ro none).neg) (ro none).mag = some (bg 0) := by
      rw [ro_none_dg]
      show M_spec_l03Make true (dg 0) = _
      rw [spec_make true (by rw [dg_zero]; simp), sg_zero]
    rw [h0, Option.bind_some, room (by simp [ro]), Option.bind_some, bg_zero]; rfl
  | some q =>
    have fq := ho q rfl
    show ((M_spec_l03Make (!decide (q.num < 0)) (dg q.num.natAbs)).bind fun r1 => (guardO (Nat.ble (dg q.den).length maxNew)).bind fun _ => some (⟨r1.neg, r1.mag, dg q.den⟩ : Rt)) = _
    rw [spec_make _ (by have := fq.1; omega), Option.bind_some, room (by have := fq.2; omega), Option.bind_some]
    have e : sg (!decide (q.num < 0)) q.num.natAbs = -q.num := by
      by_cases h : q.num < 0
      · rw [decide_eq_true h]; simp only [sg, Bool.not_true, cond_false]; omega
      · rw [decide_eq_false h]; simp only [sg, Bool.not_false, cond_true]; omega
    rw [e]; rfl
theorem spec_subO {o p : Option Rat} (ho : Oks o) (hp : Oks p) : M_spec_l05Sub (ro o) (ro p) = some (ro (subO o p)) := by
  unfold M_spec_l05Sub
  rw [spec_negO hp, Option.bind_some, spec_addO ho (oks_negO hp)]; rfl
/-! ### Half tangents -/
/-! ### Lists of observations -/
end Go.Di
namespace Go.Di
theorem stop_loop {σ ρ : Type} {S : σ → Option (σ ⊕ ρ)} (st : Nat → σ) (n : Nat) (ok : Nat → Bool) (bad fin : ρ)
    (h : ∀ i, i < n → (∀ j, j < i → ok j = true) → S (st i) = some (cond (ok i) (.inl (st (i + 1))) (.inr bad)))
    (he : (∀ j, j < n → ok j = true) → S (st n) = some (.inr fin)) : whileO S (st 0) = some (cond ((List.range n).all ok) fin bad) := by
  have key : ∀ s i, i + s = n → (∀ j, j < i → ok j = true) → whileO S (st i) = some (cond ((List.range n).all ok) fin bad) := by
    intro s
    induction s with
    | zero =>
      intro i hi hj
      have : i = n := by omega
      subst this
      have ha : (List.range i).all ok = true := by rw [List.all_eq_true]; intro x hx; exact hj x (List.mem_range.1 hx)
      rw [ha, cond_true]; exact whileO_inr (he hj)
    | succ s ih =>
      intro i hi hj
      have hn : i < n := by omega
      have hs := h i hn hj
      cases hb : ok i with
      | true =>
        rw [hb, cond_true] at hs
        rw [whileO_inl hs]
        exact ih (i + 1) (by omega) fun j hji => by
          by_cases e : j = i
          · rw [e]; exact hb
          · exact hj j (by omega)
      | false =>
        rw [hb, cond_false] at hs
        have ha : (List.range n).all ok = false := by
          rw [← Bool.not_eq_true, List.all_eq_true]
          intro hall
          have := hall i (List.mem_range.2 hn)
          rw [hb] at this; cases this
        rw [ha, cond_false]; exact whileO_inr hs
  exact key n 0 (by omega) fun j hj => by omega
noncomputable def cellO (lo : List (Option Rat)) (p : Nat) : Option Rat := (lo[p]?).getD none
theorem oks_cell {lo : List (Option Rat)} (h : ∀ o ∈ lo, Oks o) (p : Nat) : Oks (cellO lo p) := by
  unfold cellO
  cases e : lo[p]? with
  | none => exact oks_none
  | some o => exact h o (List.mem_of_getElem? e)
theorem idx_cell {lo : List (Option Rat)} {p : Nat} (h : p < lo.length) : idx (lo.map ro) (p : Int) = some (ro (cellO lo p)) := by
  rw [idx_o h]; unfold cellO; rw [List.getElem?_eq_getElem h]; rfl
theorem get_cellO {lo : List (Option Rat)} {p : Nat} (h : p < lo.length) : (lo.map ro)[p]? = some (ro (cellO lo p)) := by
  rw [← idx_nat, idx_cell h]
theorem rq_some (q : List Rat) : q.map rq = (q.map some).map ro := by rw [List.map_map]; rfl
theorem oks_some {q : List Rat} (h : Fits q) : ∀ o ∈ q.map some, Oks o := fun o ho => by
  obtain ⟨x, hx, rfl⟩ := List.mem_map.1 ho
  exact (h x hx).ok
theorem impl_atO {lo : List (Option Rat)} {n c i k : Nat} {x : Int} (hl : lo.length = n * c) (hn : n ≤ 1000) (hc : c ≤ 1000) (hi : i < n) (hk : k < c) :
    M_impl_Matrix_at_mdd ⟨x, c, lo.map ro⟩ i k = some (ro (cellO lo (i * c + k)), lo.map ro) := by
  have hp : i * c + k < lo.length := by rw [hl]; exact at_lt hi hk
  unfold M_impl_Matrix_at_mdd
  simp only [at_pos (show i < 1000 by omega) hc (show k < 1000 by omega), idx_cell hp, Option.bind_some, Int.toNat_natCast, get_cellO hp]
theorem spec_atO {lo : List (Option Rat)} {n c i k : Nat} {x : Int} (hl : lo.length = n * c) (hn : n ≤ 1000) (hc : c ≤ 1000) (hi : i < n) (hk : k < c) :
    M_spec_l06At_mdd ⟨x, c, lo.map ro⟩ i k = some (ro (cellO lo (i * c + k)), lo.map ro) := impl_atO hl hn hc hi hk
noncomputable def facO (q lo : List (Option Rat)) (d : List Rat) (n i k : Nat) : Nat → Option Rat
  | 0 => cellO q (i * n + k)
  | j + 1 => subO (facO q lo d n i k j) (mulO (mulO (cellO lo (i * n + j)) (cellO lo (k * n + j))) d[j]?)
theorem oks_facO {q lo : List (Option Rat)} (hq : ∀ o ∈ q, Oks o) (d : List Rat) (n i k j : Nat) : Oks (facO q lo d n i k j) := by
  cases j with
  | zero => exact oks_cell hq _
  | succ j => exact oks_subO
section
variable {q lo : List (Option Rat)} {d : List Rat} {n k : Nat}
theorem impl_fac1 (hq : ∀ o ∈ q, Oks o) (hlo : ∀ o ∈ lo, Oks o) (hd : Fits d) (hll : lo.length = n * n) (hdl : k ≤ d.length) (hn : n ≤ 24) (hk : k < n) (a t t1 v v1 v2 v3 x : Int) (v4 mc : List Rt) :
    L_impl_Factor_m_1 a k t t1 k 0 v v1 v2 v3 v4 mc x n (ro (facO q lo d n k k 0)).neg (lo.map ro) (ro (facO q lo d n k k 0)).mag (ro (facO q lo d n k k 0)).den (d.map rq) =
      some (a, (k : Int), t, t1, v, v1, v2, v3, v4, mc, x, (n : Int), (ro (facO q lo d n k k k)).neg, lo.map ro, (ro (facO q lo d n k k k)).mag, (ro (facO q lo d n k k k)).den, d.map rq, ()) := by
  unfold L_impl_Factor_m_1
  exact whileO_upto S_impl_Factor_m_1 (fun j => (a, (k : Int), t, t1, (k : Int), (j : Int), v, v1, v2, v3, v4, mc, x, (n : Int), (ro (facO q lo d n k k j)).neg, lo.map ro, (ro (facO q lo d n k k j)).mag, (ro (facO q lo d n k k j)).den, d.map rq, ())) k
    (a, (k : Int), t, t1, v, v1, v2, v3, v4, mc, x, (n : Int), (ro (facO q lo d n k k k)).neg, lo.map ro, (ro (facO q lo d n k k k)).mag, (ro (facO q lo d n k k k)).den, d.map rq, ()) (fun j hj => by
      have hjd : j < d.length := by omega
      have gd : (d.map rq)[j]? = some (ro d[j]?) := by rw [← idx_nat, idx_q hjd]
      simp only [S_impl_Factor_m_1, dlt hj, cond_true, idx_q hjd, Option.bind_some, Int.toNat_natCast, gd, impl_atO hll (show n ≤ 1000 by omega) (show n ≤ 1000 by omega) hk (show j < n by omega),
        impl_mulO (oks_cell hlo (k * n + j)) (oks_cell hlo (k * n + j)), impl_mulO (oks_mulO (o := cellO lo (k * n + j)) (p := cellO lo (k * n + j))) (hd.get j), impl_subO (oks_facO hq d n k k j) (oks_mulO (o := mulO (cellO lo (k * n + j)) (cellO lo (k * n + j))) (p := d[j]?)), succ_wrap hj (show k ≤ 1048576 by omega)]
      rfl) (by simp [S_impl_Factor_m_1])
theorem spec_fac1 (hq : ∀ o ∈ q, Oks o) (hlo : ∀ o ∈ lo, Oks o) (hd : Fits d) (hll : lo.length = n * n) (hdl : k ≤ d.length) (hn : n ≤ 24) (hk : k < n) (a v v1 v2 v3 x : Int) (v4 mc : List Rt) :
    L_spec_l08Factor_m_1 a k 0 v v1 v2 v3 v4 mc x n (ro (facO q lo d n k k 0)).neg (ro (facO q lo d n k k 0)).mag (ro (facO q lo d n k k 0)).den (lo.map ro) (d.map rq) =
      some (a, (k : Int), v, v1, v2, v3, v4, mc, x, (n : Int), (ro (facO q lo d n k k k)).neg, (ro (facO q lo d n k k k)).mag, (ro (facO q lo d n k k k)).den, lo.map ro, d.map rq, ()) := by
  unfold L_spec_l08Factor_m_1
  exact whileO_upto S_spec_l08Factor_m_1 (fun j => (a, (k : Int), (j : Int), v, v1, v2, v3, v4, mc, x, (n : Int), (ro (facO q lo d n k k j)).neg, (ro (facO q lo d n k k j)).mag, (ro (facO q lo d n k k j)).den, lo.map ro, d.map rq, ())) k
    (a, (k : Int), v, v1, v2, v3, v4, mc, x, (n : Int), (ro (facO q lo d n k k k)).neg, (ro (facO q lo d n k k k)).mag, (ro (facO q lo d n k k k)).den, lo.map ro, d.map rq, ()) (fun j hj => by
      have hjd : j < d.length := by omega
      have gd : (d.map rq)[j]? = some (ro d[j]?) := by rw [← idx_nat, idx_q hjd]
      simp only [S_spec_l08Factor_m_1, dlt hj, cond_true, idx_q hjd, Option.bind_some, Int.toNat_natCast, gd, spec_atO hll (show n ≤ 1000 by omega) (show n ≤ 1000 by omega) hk (show j < n by omega),
        spec_mulO (oks_cell hlo (k * n + j)) (oks_cell hlo (k * n + j)), spec_mulO (oks_mulO (o := cellO lo (k * n + j)) (p := cellO lo (k * n + j))) (hd.get j), spec_subO (oks_facO hq d n k k j) (oks_mulO (o := mulO (cellO lo (k * n + j)) (cellO lo (k * n + j))) (p := d[j]?)), succ_wrap hj (show k ≤ 1048576 by omega)]
      rfl) (by simp [S_spec_l08Factor_m_1])
theorem impl_fac3 (hq : ∀ o ∈ q, Oks o) (hlo : ∀ o ∈ lo, Oks o) (hd : Fits d) (hll : lo.length = n * n) (hdl : k ≤ d.length) (hn : n ≤ 24) (hk : k < n) {i : Nat} (hi : i < n) (a t t1 v v1 v2 v3 x : Int) (v4 mc : List Rt) (v7 : Bool) (v8 v9 : List Int) :
    L_impl_Factor_m_3 a k i t t1 k 0 v v1 v2 v3 v4 mc x n v7 v8 v9 (ro (facO q lo d n i k 0)).neg (d.map rq) (lo.map ro) (ro (facO q lo d n i k 0)).mag (ro (facO q lo d n i k 0)).den =
      some (a, (k : Int), (i : Int), t, t1, v, v1, v2, v3, v4, mc, x, (n : Int), v7, v8, v9, (ro (facO q lo d n i k k)).neg, d.map rq, lo.map ro, (ro (facO q lo d n i k k)).mag, (ro (facO q lo d n i k k)).den, ()) := by
  unfold L_impl_Factor_m_3
  exact whileO_upto S_impl_Factor_m_3 (fun j => (a, (k : Int), (i : Int), t, t1, (k : Int), (j : Int), v, v1, v2, v3, v4, mc, x, (n : Int), v7, v8, v9, (ro (facO q lo d n i k j)).neg, d.map rq, lo.map ro, (ro (facO q lo d n i k j)).mag, (ro (facO q lo d n i k j)).den, ())) k
    (a, (k : Int), (i : Int), t, t1, v, v1, v2, v3, v4, mc, x, (n : Int), v7, v8, v9, (ro (facO q lo d n i k k)).neg, d.map rq, lo.map ro, (ro (facO q lo d n i k k)).mag, (ro (facO q lo d n i k k)).den, ()) (fun j hj => by
      have hjd : j < d.length := by omega
      have gd : (d.map rq)[j]? = some (ro d[j]?) := by rw [← idx_nat, idx_q hjd]
      simp only [S_impl_Factor_m_3, dlt hj, cond_true, idx_q hjd, Option.bind_some, Int.toNat_natCast, gd, impl_atO hll (show n ≤ 1000 by omega) (show n ≤ 1000 by omega) hk (show j < n by omega), impl_atO hll (show n ≤ 1000 by omega) (show n ≤ 1000 by omega) hi (show j < n by omega),
        impl_mulO (oks_cell hlo (i * n + j)) (oks_cell hlo (k * n + j)), impl_mulO (oks_mulO (o := cellO lo (i * n + j)) (p := cellO lo (k * n + j))) (hd.get j), impl_subO (oks_facO hq d n i k j) (oks_mulO (o := mulO (cellO lo (i * n + j)) (cellO lo (k * n + j))) (p := d[j]?)), succ_wrap hj (show k ≤ 1048576 by omega)]
      rfl) (by simp [S_impl_Factor_m_3])
theorem spec_fac3 (hq : ∀ o ∈ q, Oks o) (hlo : ∀ o ∈ lo, Oks o) (hd : Fits d) (hll : lo.length = n * n) (hdl : k ≤ d.length) (hn : n ≤ 24) (hk : k < n) {i : Nat} (hi : i < n) (a v v1 v2 v3 x : Int) (v4 mc : List Rt) (v7 : Bool) (v8 v9 : List Int) :
    L_spec_l08Factor_m_3 a k i 0 v v1 v2 v3 v4 mc x n v7 v8 v9 (ro (facO q lo d n i k 0)).neg (ro (facO q lo d n i k 0)).mag (ro (facO q lo d n i k 0)).den (d.map rq) (lo.map ro) =
      some (a, (k : Int), (i : Int), v, v1, v2, v3, v4, mc, x, (n : Int), v7, v8, v9, (ro (facO q lo d n i k k)).neg, (ro (facO q lo d n i k k)).mag, (ro (facO q lo d n i k k)).den, d.map rq, lo.map ro, ()) := by
  unfold L_spec_l08Factor_m_3
  exact whileO_upto S_spec_l08Factor_m_3 (fun j => (a, (k : Int), (i : Int), (j : Int), v, v1, v2, v3, v4, mc, x, (n : Int), v7, v8, v9, (ro (facO q lo d n i k j)).neg, (ro (facO q lo d n i k j)).mag, (ro (facO q lo d n i k j)).den, d.map rq, lo.map ro, ())) k
    (a, (k : Int), (i : Int), v, v1, v2, v3, v4, mc, x, (n : Int), v7, v8, v9, (ro (facO q lo d n i k k)).neg, (ro (facO q lo d n i k k)).mag, (ro (facO q lo d n i k k)).den, d.map rq, lo.map ro, ()) (fun j hj => by
      have hjd : j < d.length := by omega
      have gd : (d.map rq)[j]? = some (ro d[j]?) := by rw [← idx_nat, idx_q hjd]
      simp only [S_spec_l08Factor_m_3, dlt hj, cond_true, idx_q hjd, Option.bind_some, Int.toNat_natCast, gd, spec_atO hll (show n ≤ 1000 by omega) (show n ≤ 1000 by omega) hk (show j < n by omega), spec_atO hll (show n ≤ 1000 by omega) (show n ≤ 1000 by omega) hi (show j < n by omega),
        spec_mulO (oks_cell hlo (i * n + j)) (oks_cell hlo (k * n + j)), spec_mulO (oks_mulO (o := cellO lo (i * n + j)) (p := cellO lo (k * n + j))) (hd.get j), spec_subO (oks_facO hq d n i k j) (oks_mulO (o := mulO (cellO lo (i * n + j)) (cellO lo (k * n + j))) (p := d[j]?)), succ_wrap hj (show k ≤ 1048576 by omega)]
      rfl) (by simp [S_spec_l08Factor_m_3])
end
/-! ### A column -/
noncomputable def quoO (q lo : List (Option Rat)) (d : List Rat) (n k : Nat) (x : Rat) (i : Nat) : Option Rat := divO (facO q lo d n i k k) (some x)
theorem oks_quoO {q lo : List (Option Rat)} {d : List Rat} {n k : Nat} {x : Rat} {i : Nat} : Oks (quoO q lo d n k x i) := oks_divO
noncomputable def colO (q lo : List (Option Rat)) (d : List Rat) (n k : Nat) (x : Rat) : Nat → List (Option Rat)
  | 0 => lo
  | t + 1 => (colO q lo d n k x t).set ((k + 1 + t) * n + k) (quoO q lo d n k x (k + 1 + t))
section
variable {q lo : List (Option Rat)} {d : List Rat} {n k : Nat} {x : Rat}
theorem len_colO (t : Nat) : (colO q lo d n k x t).length = lo.length := by
  induction t with
  | zero => rfl
  | succ t ih => show (List.set _ _ _).length = _; rw [List.length_set]; exact ih
theorem oks_colO (h : ∀ o ∈ lo, Oks o) (t : Nat) : ∀ o ∈ colO q lo d n k x t, Oks o := by
  induction t with
  | zero => exact h
  | succ t ih =>
    intro o ho
    rcases List.mem_or_eq_of_mem_set ho with ho | rfl
    · exact ih o ho
    · exact oks_quoO
theorem pos_ne {a b j k n : Nat} (hj : j < n) (hk : k < n) (h : j ≠ k) : a * n + j ≠ b * n + k := by
  intro e
  have h1 := pos_div (i := a) hj
  have h2 := pos_div (i := b) hk
  rw [e] at h1
  omega
theorem pos_ne' {a b k n : Nat} (hk : k < n) (h : a ≠ b) : a * n + k ≠ b * n + k := by
  intro e
  have h1 := pos_div (i := a) hk
  have h2 := pos_div (i := b) hk
  rw [e] at h1
  omega
theorem colO_other {a j : Nat} (hj : j < n) (hk : k < n) (h : j ≠ k) (t : Nat) : (colO q lo d n k x t)[a * n + j]? = lo[a * n + j]? := by
  induction t with
  | zero => rfl
  | succ t ih => show (List.set _ _ _)[_]? = _; rw [List.getElem?_set_ne (pos_ne hk hj (Ne.symm h))]; exact ih
theorem colO_own (hll : lo.length = n * n) (hk : k < n) {s t : Nat} (hs : s < t) (ht : k + 1 + s < n) : (colO q lo d n k x t)[(k + 1 + s) * n + k]? = some (quoO q lo d n k x (k + 1 + s)) := by
  induction t with
  | zero => omega
  | succ t ih =>
    show (List.set _ _ _)[_]? = _
    by_cases e : s = t
    · subst e
      rw [List.getElem?_set_self (by rw [len_colO, hll]; exact at_lt ht hk)]
    · rw [List.getElem?_set_ne (pos_ne' hk (by omega))]
      exact ih (by omega)
theorem colO_some (hll : lo.length = n * n) (hk : k < n) (hs : ∀ o ∈ lo, o.isSome = true) {t : Nat} (ht : k + 1 + t ≤ n) :
    (colO q lo d n k x t).all Option.isSome = (List.range t).all fun s => (quoO q lo d n k x (k + 1 + s)).isSome := by
  rw [Bool.eq_iff_iff, List.all_eq_true, List.all_eq_true]
  constructor
  · intro h s hst
    have hst := List.mem_range.1 hst
    exact h _ (List.mem_of_getElem? (colO_own hll hk hst (by omega)))
  · intro h
    have : ∀ r, r ≤ t → ∀ o ∈ colO q lo d n k x r, o.isSome = true := by
      intro r
      induction r with
      | zero => intro _; exact hs
      | succ r ih =>
        intro hr o ho
        rcases List.mem_or_eq_of_mem_set ho with ho | rfl
        · exact ih (by omega) o ho
        · exact h r (List.mem_range.2 (by omega))
    exact this t (Nat.le_refl t)
theorem cell_colO {a j : Nat} (hj : j < n) (hk : k < n) (h : j ≠ k) (t : Nat) : cellO (colO q lo d n k x t) (a * n + j) = cellO lo (a * n + j) := by
  unfold cellO; rw [colO_other hj hk h]
theorem facO_col (hk : k < n) (hdl : d.length = k) (y : Rat) (t i : Nat) {j : Nat} (hj : j ≤ k) : facO q (colO q lo d n k x t) (d ++ [y]) n i k j = facO q lo d n i k j := by
  induction j with
  | zero => rfl
  | succ j ih =>
    show subO _ (mulO (mulO _ _) _) = subO _ (mulO (mulO _ _) _)
    rw [ih (by omega), cell_colO (by omega) hk (by omega), cell_colO (by omega) hk (by omega), List.getElem?_append_left (by omega)]
theorem impl_col (hq : ∀ o ∈ q, Oks o) (hql : q.length = n * n) (hlo : ∀ o ∈ lo, Oks o) (hd : Fits d) (hll : lo.length = n * n) (hdl : d.length = k) (hn : n ≤ 24) (hk : k < n) (hx : Fit x) (t t1 v2 v3 : Int) (v4 : List Rt) :
    L_impl_Factor_m_2 n k ((k + 1 : Nat) : Int) t t1 n n v2 v3 v4 (q.map ro) n n (rq x).neg (rq x).mag (rq x).den ((d ++ [x]).map rq) (lo.map ro) =
      some (cond ((List.range (n - (k + 1))).all fun s => (quoO q lo d n k x (k + 1 + s)).isSome)
        (.inr ((n : Int), t, t1, (n : Int), (n : Int), v2, v3, v4, q.map ro, (n : Int), (n : Int), (d ++ [x]).map rq, (colO q lo d n k x (n - (k + 1))).map ro, ()))
        (.inl ([], false, 0, 0, [], q.map ro, ()))) := by
  unfold L_impl_Factor_m_2
  have hd2 : Fits (d ++ [x]) := fun y hy => by
    rcases List.mem_append.1 hy with hy | hy
    · exact hd y hy
    · rw [List.mem_singleton.1 hy]; exact hx
  have hdl2 : k ≤ (d ++ [x]).length := by simp; omega
  have e0 : ∀ s : Nat, ((k + 1 + s : Nat) : Int) = ((k + 1 : Nat) : Int) + (s : Int) := fun s => by omega
  have key := stop_loop (S := S_impl_Factor_m_2) (fun s => ((n : Int), (k : Int), ((k + 1 + s : Nat) : Int), t, t1, (n : Int), (n : Int), v2, v3, v4, q.map ro, (n : Int), (n : Int), (rq x).neg, (rq x).mag, (rq x).den, (d ++ [x]).map rq, (colO q lo d n k x s).map ro, ())) (n - (k + 1)) (fun s => (quoO q lo d n k x (k + 1 + s)).isSome)
    (.inl ([], false, 0, 0, [], q.map ro, ())) (.inr ((n : Int), t, t1, (n : Int), (n : Int), v2, v3, v4, q.map ro, (n : Int), (n : Int), (d ++ [x]).map rq, (colO q lo d n k x (n - (k + 1))).map ro, ())) (fun s hs _ => by
      have hi : k + 1 + s < n := by omega
      have hlc : (colO q lo d n k x s).length = n * n := by rw [len_colO, hll]
      have h3 := impl_fac3 (q := q) (d := d ++ [x]) (k := k) hq (oks_colO (q := q) (d := d) (n := n) (k := k) (x := x) hlo s) hd2 hlc hdl2 hn hk hi n t t1 n n v2 v3 n v4 (q.map ro) (rq x).neg (rq x).mag (rq x).den
      have hf := facO_col (q := q) (lo := lo) (x := x) hk hdl x s (k + 1 + s) (Nat.le_refl k)
      have h0 : ro (facO q (colO q lo d n k x s) (d ++ [x]) n (k + 1 + s) k 0) = ro (cellO q ((k + 1 + s) * n + k)) := rfl
      rw [h0] at h3
      rw [hf] at h3
      have hdv := impl_divO (o := facO q lo d n (k + 1 + s) k k) (p := some x) (oks_facO hq d n (k + 1 + s) k k) hx.ok
      have hpos : IntKind.i64.wrap (IntKind.i64.wrap (((k + 1 + s : Nat) : Int) * (n : Int)) + (k : Int)) = (((k + 1 + s) * n + k : Nat) : Int) := at_pos (by omega) (by omega) (by omega)
      have hlt : (k + 1 + s) * n + k < (colO q lo d n k x s).length := by rw [hlc]; exact at_lt hi hk
      simp only [S_impl_Factor_m_2, decide_eq_true (show ((k + 1 + s : Nat) : Int) < (n : Int) by omega), cond_true, impl_atO hql (show n ≤ 1000 by omega) (show n ≤ 1000 by omega) hi hk, Option.bind_some, copy_ro (oks_cell hq _), h3]
      show ((M_impl_div (ro (facO q lo d n (k + 1 + s) k k)) (ro (some x))).bind _) = _
      rw [hdv]
      simp only [Option.bind_some, impl_void, hpos, idx_cell hlt, Int.toNat_natCast]
      rw [show divO (facO q lo d n (k + 1 + s) k k) (some x) = quoO q lo d n k x (k + 1 + s) from rfl]
      cases hb : (quoO q lo d n k x (k + 1 + s)).isSome with
      | false =>
        have : (quoO q lo d n k x (k + 1 + s)).isNone = true := by rw [← Option.not_isSome, hb]; rfl
        rw [this]; rfl
      | true =>
        have : (quoO q lo d n k x (k + 1 + s)).isNone = false := by rw [← Option.not_isSome, hb]; rfl
        rw [this]
        simp only [cond_false, cond_true, ← List.map_set]
        rw [succ_wrap hi (show n ≤ 1048576 by omega)]
        rfl) (fun _ => by
      simp only [S_impl_Factor_m_2, decide_eq_false (show ¬ ((k + 1 + (n - (k + 1)) : Nat) : Int) < (n : Int) by omega), cond_false])
  exact key
theorem spec_col (hq : ∀ o ∈ q, Oks o) (hql : q.length = n * n) (hlo : ∀ o ∈ lo, Oks o) (hd : Fits d) (hll : lo.length = n * n) (hdl : d.length = k) (hn : n ≤ 24) (hk : k < n) (hx : Fit x) (v2 v3 : Int) (v4 : List Rt) :
    L_spec_l08Factor_m_2 n k ((k + 1 : Nat) : Int) n n v2 v3 v4 (q.map ro) n n (rq x).neg (rq x).mag (rq x).den ((d ++ [x]).map rq) (lo.map ro) =
      some ((n : Int), (k : Int), (n : Int), (n : Int), v2, v3, v4, q.map ro, (n : Int), (n : Int), (d ++ [x]).map rq, (colO q lo d n k x (n - (k + 1))).map ro, ()) := by
  unfold L_spec_l08Factor_m_2
  have hd2 : Fits (d ++ [x]) := fun y hy => by
    rcases List.mem_append.1 hy with hy | hy
    · exact hd y hy
    · rw [List.mem_singleton.1 hy]; exact hx
  have hdl2 : k ≤ (d ++ [x]).length := by simp; omega
  exact whileO_upto S_spec_l08Factor_m_2 (fun s => ((n : Int), (k : Int), ((k + 1 + s : Nat) : Int), (n : Int), (n : Int), v2, v3, v4, q.map ro, (n : Int), (n : Int), (rq x).neg, (rq x).mag, (rq x).den, (d ++ [x]).map rq, (colO q lo d n k x s).map ro, ())) (n - (k + 1))
    ((n : Int), (k : Int), (n : Int), (n : Int), v2, v3, v4, q.map ro, (n : Int), (n : Int), (d ++ [x]).map rq, (colO q lo d n k x (n - (k + 1))).map ro, ()) (fun s hs => by
      have hi : k + 1 + s < n := by omega
      have hlc : (colO q lo d n k x s).length = n * n := by rw [len_colO, hll]
      have h3 := spec_fac3 (q := q) (d := d ++ [x]) (k := k) hq (oks_colO (q := q) (d := d) (n := n) (k := k) (x := x) hlo s) hd2 hlc hdl2 hn hk hi n n n v2 v3 n v4 (q.map ro) (rq x).neg (rq x).mag (rq x).den
      have hf := facO_col (q := q) (lo := lo) (x := x) hk hdl x s (k + 1 + s) (Nat.le_refl k)
      have h0 : ro (facO q (colO q lo d n k x s) (d ++ [x]) n (k + 1 + s) k 0) = ro (cellO q ((k + 1 + s) * n + k)) := rfl
      rw [h0] at h3
      rw [hf] at h3
      have hdv := spec_divO (o := facO q lo d n (k + 1 + s) k k) (p := some x) (oks_facO hq d n (k + 1 + s) k k) hx.ok
      have hpos : IntKind.i64.wrap (IntKind.i64.wrap (((k + 1 + s : Nat) : Int) * (n : Int)) + (k : Int)) = (((k + 1 + s) * n + k : Nat) : Int) := at_pos (by omega) (by omega) (by omega)
      have hlt : (k + 1 + s) * n + k < (colO q lo d n k x s).length := by rw [hlc]; exact at_lt hi hk
      simp only [S_spec_l08Factor_m_2, decide_eq_true (show ((k + 1 + s : Nat) : Int) < (n : Int) by omega), cond_true, spec_atO hql (show n ≤ 1000 by omega) (show n ≤ 1000 by omega) hi hk, Option.bind_some, h3]
      show ((M_spec_l05Div (ro (facO q lo d n (k + 1 + s) k k)) (ro (some x))).bind _) = _
      rw [hdv]
      simp only [Option.bind_some, hpos, idx_cell hlt, Int.toNat_natCast, ← List.map_set]
      rw [succ_wrap hi (show n ≤ 1048576 by omega)]
      rfl) (by
      simp only [S_spec_l08Factor_m_2, decide_eq_false (show ¬ ((k + 1 + (n - (k + 1)) : Nat) : Int) < (n : Int) by omega), cond_false])
end
/-! ### All columns -/
noncomputable def facSt (q : List (Option Rat)) (n : Nat) : Nat → Option (List (Option Rat) × List Rat)
  | 0 => some (grid n n idO, [])
  | k + 1 => (facSt q n k).bind fun p => (facO q p.1 p.2 n k k k).bind fun x =>
    if x ≤ 0 then none else cond ((List.range (n - (k + 1))).all fun s => (quoO q p.1 p.2 n k x (k + 1 + s)).isSome) (some (colO q p.1 p.2 n k x (n - (k + 1)), p.2 ++ [x])) none
structure FacOk (n k : Nat) (lo : List (Option Rat)) (d : List Rat) : Prop where
  len : lo.length = n * n
  oks : ∀ o ∈ lo, Oks o
  all : ∀ o ∈ lo, o.isSome = true
  fits : Fits d
  dlen : d.length = k
  pos : ∀ y ∈ d, 0 < y
theorem facSt_ok {q : List (Option Rat)} (hq : ∀ o ∈ q, Oks o) {n : Nat} : ∀ {k : Nat}, k ≤ n → ∀ {lo d}, facSt q n k = some (lo, d) → FacOk n k lo d := by
  intro k
  induction k with
  | zero =>
    intro _ lo d h
    injection h with h; injection h with h1 h2
    subst h1; subst h2
    refine ⟨len_grid .., fun o ho => ?_, fun o ho => ?_, fun y hy => (by cases hy), rfl, fun y hy => (by cases hy)⟩
    · obtain ⟨i, k, _, _, rfl⟩ := grid_mem ho; exact oks_idO i k
    · obtain ⟨i, k, _, _, rfl⟩ := grid_mem ho; unfold idO; split <;> rfl
  | succ k ih =>
    intro hk lo d h
    cases h0 : facSt q n k with
    | none => unfold facSt at h; rw [h0] at h; cases h
    | some p =>
      obtain ⟨lo0, d0⟩ := p
      have ok := ih (by omega) h0
      unfold facSt at h
      rw [h0, Option.bind_some] at h
      simp only at h
      cases hx : facO q lo0 d0 n k k k with
      | none => rw [hx] at h; cases h
      | some x =>
        rw [hx, Option.bind_some] at h
        have fx : Fit x := oks_facO hq d0 n k k k x hx
        split at h
        · cases h
        · rename_i hpos
          cases ha : (List.range (n - (k + 1))).all fun s => (quoO q lo0 d0 n k x (k + 1 + s)).isSome with
          | false => rw [ha] at h; cases h
          | true =>
            rw [ha] at h
            injection h with h; injection h with h1 h2
            subst h1; subst h2
            refine ⟨by rw [len_colO, ok.len], oks_colO ok.oks _, ?_, fun y hy => ?_, by simp [ok.dlen], fun y hy => ?_⟩
            · have := colO_some (q := q) (d := d0) (x := x) ok.len (show k < n by omega) ok.all (t := n - (k + 1)) (by omega)
              rw [ha] at this
              exact List.all_eq_true.1 this
            · rcases List.mem_append.1 hy with hy | hy
              · exact ok.fits y hy
              · rw [List.mem_singleton.1 hy]; exact fx
            · rcases List.mem_append.1 hy with hy | hy
              · exact ok.pos y hy
              · rw [List.mem_singleton.1 hy]; exact Rat.not_le.1 hpos
theorem facSt_step {q : List (Option Rat)} {n k : Nat} (h : (facSt q n (k + 1)).isSome = true) : (facSt q n k).isSome = true := by
  unfold facSt at h
  cases e : facSt q n k with
  | none => rw [e] at h; cases h
  | some p => rfl
theorem facSt_all {q : List (Option Rat)} {n : Nat} : ∀ k, ((List.range k).all fun j => (facSt q n (j + 1)).isSome) = (facSt q n k).isSome
  | 0 => rfl
  | k + 1 => by
    rw [List.range_succ, List.all_append, facSt_all k]
    simp only [List.all_cons, List.all_nil, Bool.and_true]
    cases h : (facSt q n (k + 1)).isSome with
    | false => simp
    | true => rw [facSt_step h]; rfl
noncomputable def facP (q : List (Option Rat)) (n k : Nat) : List (Option Rat) × List Rat := (facSt q n k).getD ([], [])
theorem facP_some {q : List (Option Rat)} {n k : Nat} (h : (facSt q n k).isSome = true) : facSt q n k = some ((facP q n k).1, (facP q n k).2) := by
  unfold facP
  cases e : facSt q n k with
  | none => rw [e] at h; cases h
  | some p => rfl
theorem facSt_round {q : List (Option Rat)} {n k : Nat} (h : (facSt q n k).isSome = true) :
    facSt q n (k + 1) = (facO q (facP q n k).1 (facP q n k).2 n k k k).bind fun x =>
      if x ≤ 0 then none else cond ((List.range (n - (k + 1))).all fun s => (quoO q (facP q n k).1 (facP q n k).2 n k x (k + 1 + s)).isSome) (some (colO q (facP q n k).1 (facP q n k).2 n k x (n - (k + 1)), (facP q n k).2 ++ [x])) none := by
  show (facSt q n k).bind _ = _
  rw [facP_some h]; rfl
theorem num_le {q : Rat} : q.num ≤ 0 ↔ q ≤ 0 := by
  rw [Rat.le_iff]; simp
theorem sign_le {q : Rat} (h : q ≤ 0) : ∃ s : Int, M_impl_sign (rq q) = some s ∧ decide (s ≤ 0) = true := by
  refine ⟨_, impl_signq q, ?_⟩
  have h1 : q.num ≤ 0 := num_le.2 h
  by_cases h2 : q.num < 0
  · rw [decide_eq_true h2]; rfl
  · rw [decide_eq_false h2, decide_eq_false (show ¬ q.num ≠ 0 by omega)]; rfl
theorem sign_gt {q : Rat} (h : ¬ q ≤ 0) : ∃ s : Int, M_impl_sign (rq q) = some s ∧ decide (s ≤ 0) = false := by
  refine ⟨_, impl_signq q, ?_⟩
  have h1 : ¬ q.num ≤ 0 := fun h' => h (num_le.1 h')
  rw [decide_eq_false (show ¬ q.num < 0 by omega), decide_eq_true (show q.num ≠ 0 by omega)]; rfl
theorem impl_unitMx {n : Nat} (hn : n ≤ 24) : M_impl_unit n = some ⟨n, n, (grid n n idO).map ro⟩ := by
  have := impl_idMx hn
  unfold M_impl_unit
  rw [show M_impl_built__impl_unit_c1 = M_impl_built__impl_IdentityMatrix_c1 from rfl, this]; rfl
theorem spec_zeros' {n : Nat} (hn : n ≤ 20000) : M_spec_l05Zeros (n : Int) = some ((List.range n).map fun _ => ro (some 0)) := spec_zeros hn
theorem spec_idMx' {n : Nat} (hn : n ≤ 24) : M_spec_l06Identity_n n = some ⟨n, n, (grid n n idO).map ro⟩ := by
  have hp := prod24 hn hn
  unfold M_spec_l06Identity_n L_spec_l06Identity_n_0 
  have e1 : ((n : Int) * (n : Int)) = ((n * n : Nat) : Int) := by simp
  have hz : M_spec_l06Zero (n : Int) n = some ⟨n, n, (List.range (n * n)).map fun _ => ro (some 0)⟩ := by
    unfold M_spec_l06Zero
    rw [e1, wrap_i64 (by omega) (by omega), spec_zeros' (by omega), Option.bind_some]
  rw [hz, Option.bind_some]
  let zs : Nat → List Rt := fun i => grid n n fun a b => if a = b ∧ a < i then ro (some 1) else ro (some 0)
  have key := whileO_upto S_spec_l06Identity_n_0 (fun i => ((n : Int), (i : Int), 0, 0, ([] : List Rt), (n : Int), (n : Int), zs i, ())) n (0, 0, [], (n : Int), (n : Int), zs n, ()) (fun i hi => by
    have hj : i * n + i < (zs i).length := by simp only [zs]; rw [len_grid]; exact at_lt hi hi
    have hg : (zs i)[i * n + i]? = some (zs i)[i * n + i] := List.getElem?_eq_getElem hj
    simp only [S_spec_l06Identity_n_0, dlt hi, cond_true, spec_one, Option.bind_some, at_pos (show i < 1000 by omega) (show n ≤ 1000 by omega) (show i < 1000 by omega), idx_at hj, Int.toNat_natCast, succ_wrap hi (show n ≤ 1048576 by omega)]
    congr 10
    simp only [zs]
    rw [grid_set _ _ hi hi]
    refine grid_congr fun a b ha hb => ?_
    by_cases h : a = i ∧ b = i
    · rw [if_pos h, if_pos ⟨h.1.trans h.2.symm, by omega⟩]
    · rw [if_neg h]
      by_cases h2 : a = b ∧ a < i
      · rw [if_pos h2, if_pos ⟨h2.1, by omega⟩]
      · rw [if_neg h2, if_neg (by rintro ⟨e1, e2⟩; exact h2 ⟨e1, by omega⟩)]) (by simp [S_spec_l06Identity_n_0])
  have h0 : zs 0 = (List.range (n * n)).map fun _ => ro (some 0) := by
    simp only [zs]
    rw [← grid_lin n n fun _ => ro (some 0)]
    exact grid_congr fun a b _ _ => by simp
  have hn' : zs n = (grid n n idO).map ro := by
    simp only [zs]
    rw [grid_map]
    refine grid_congr fun a b ha hb => ?_
    unfold idO
    by_cases h : a = b
    · rw [if_pos ⟨h, ha⟩, if_pos h]
    · rw [if_neg (fun e => h e.1), if_neg h]
  rw [h0] at key
  refine (congrArg (fun x => Option.bind x _) key).trans ?_
  show some (⟨(n : Int), (n : Int), zs n⟩ : Mx) = _
  rw [hn']
theorem impl_factor {q : List (Option Rat)} {n : Nat} (hq : ∀ o ∈ q, Oks o) (hql : q.length = n * n) (hn : n ≤ 24) :
    L_impl_Factor_m_0 n n 0 n n 0 0 [] (q.map ro) n n ((grid n n idO).map ro) [] =
      some (cond (facSt q n n).isSome (.inr ((0 : Int), (0 : Int), [], q.map ro, (n : Int), (n : Int), (facP q n n).1.map ro, (facP q n n).2.map rq, ())) (.inl ([], false, 0, 0, [], q.map ro, ()))) := by
  unfold L_impl_Factor_m_0
  rw [← facSt_all n]
  exact stop_loop (S := S_impl_Factor_m_0) (fun k => ((n : Int), (n : Int), (k : Int), (n : Int), (n : Int), (0 : Int), (0 : Int), ([] : List Rt), q.map ro, (n : Int), (n : Int), (facP q n k).1.map ro, (facP q n k).2.map rq, ())) n (fun k => (facSt q n (k + 1)).isSome)
    (.inl ([], false, 0, 0, [], q.map ro, ())) (.inr ((0 : Int), (0 : Int), [], q.map ro, (n : Int), (n : Int), (facP q n n).1.map ro, (facP q n n).2.map rq, ())) (fun k hk hj => by
      have hs : (facSt q n k).isSome = true := by
        rw [← facSt_all, List.all_eq_true]; intro j h; exact hj j (List.mem_range.1 h)
      have hr := facSt_round hs
      have ok := facSt_ok hq (Nat.le_of_lt hk) (facP_some hs)
      have hP : facP q n (k + 1) = (facSt q n (k + 1)).getD ([], []) := rfl
      generalize (facP q n k).1 = lo at *
      generalize (facP q n k).2 = d at *
      have h1 := impl_fac1 (q := q) (d := d) hq ok.oks ok.fits ok.len (by rw [ok.dlen]; omega) hn hk n n k n n 0 0 n [] (q.map ro)
      rw [show facO q lo d n k k 0 = cellO q (k * n + k) from rfl] at h1
      simp only [S_impl_Factor_m_0, dlt hk, cond_true, impl_atO hql (show n ≤ 1000 by omega) (show n ≤ 1000 by omega) hk hk, Option.bind_some, copy_ro (oks_cell hq _), h1]
      show ((M_impl_void (ro (facO q lo d n k k k))).bind _) = _
      rw [impl_void, Option.bind_some]
      cases hx : facO q lo d n k k k with
      | none =>
        rw [hx] at hr
        rw [hr]; rfl
      | some x =>
        rw [hx, Option.bind_some] at hr
        have fx : Fit x := oks_facO hq d n k k k x hx
        show ((M_impl_sign (rq x)).bind _) = _
        by_cases hp : x ≤ 0
        · obtain ⟨s, e1, e2⟩ := sign_le hp
          rw [if_pos hp] at hr
          rw [e1, Option.bind_some, e2, hr]; rfl
        · obtain ⟨s, e1, e2⟩ := sign_gt hp
          rw [if_neg hp] at hr
          have hc := impl_col (q := q) (d := d) hq hql ok.oks ok.fits ok.len ok.dlen hn hk fx n k 0 0 []
          have hg : guardO (Nat.ble ((d.map rq).length + 1) maxNew) = some () := by
            rw [List.length_map, ok.dlen]; exact room1 (by omega)
          rw [e1, Option.bind_some, e2, cond_false]
          simp only [hg, Option.bind_some, succ_wrap hk (show n ≤ 1048576 by omega)]
          rw [List.map_append] at hc
          show ((L_impl_Factor_m_2 n k ((k + 1 : Nat) : Int) n k n n 0 0 [] (q.map ro) n n (rq x).neg (rq x).mag (rq x).den (d.map rq ++ [x].map rq) (lo.map ro)).bind _) = _
          rw [hc]
          cases hb : (List.range (n - (k + 1))).all fun s => (quoO q lo d n k x (k + 1 + s)).isSome with
          | false =>
            rw [hb, cond_false] at hr
            rw [hr]; rfl
          | true =>
            rw [hb, cond_true] at hr
            rw [hP, hr]
            simp only [cond_true, Option.bind_some, Option.isSome_some, Option.getD_some, List.map_append]
            rw [succ_wrap hk (show n ≤ 1048576 by omega)]) (fun _ => by
      simp [S_impl_Factor_m_0])
theorem spec_factor {q : List (Option Rat)} {n : Nat} (hq : ∀ o ∈ q, Oks o) (hql : q.length = n * n) (hn : n ≤ 24) :
    L_spec_l08Factor_m_0 n 0 n n 0 0 [] (q.map ro) n n ((grid n n idO).map ro) [] =
      some (cond (facSt q n n).isSome (.inr ((0 : Int), (0 : Int), [], q.map ro, (n : Int), (n : Int), (facP q n n).1.map ro, (facP q n n).2.map rq, ())) (.inl ([], false, 0, 0, [], q.map ro, ()))) := by
  unfold L_spec_l08Factor_m_0
  rw [← facSt_all n]
  exact stop_loop (S := S_spec_l08Factor_m_0) (fun k => ((n : Int), (k : Int), (n : Int), (n : Int), (0 : Int), (0 : Int), ([] : List Rt), q.map ro, (n : Int), (n : Int), (facP q n k).1.map ro, (facP q n k).2.map rq, ())) n (fun k => (facSt q n (k + 1)).isSome)
    (.inl ([], false, 0, 0, [], q.map ro, ())) (.inr ((0 : Int), (0 : Int), [], q.map ro, (n : Int), (n : Int), (facP q n n).1.map ro, (facP q n n).2.map rq, ())) (fun k hk hj => by
      have hs : (facSt q n k).isSome = true := by
        rw [← facSt_all, List.all_eq_true]; intro j h; exact hj j (List.mem_range.1 h)
      have hr := facSt_round hs
      have ok := facSt_ok hq (Nat.le_of_lt hk) (facP_some hs)
      have hP : facP q n (k + 1) = (facSt q n (k + 1)).getD ([], []) := rfl
      generalize (facP q n k).1 = lo at *
      generalize (facP q n k).2 = d at *
      have h1 := spec_fac1 (q := q) (d := d) hq ok.oks ok.fits ok.len (by rw [ok.dlen]; omega) hn hk n n n 0 0 n [] (q.map ro)
      rw [show facO q lo d n k k 0 = cellO q (k * n + k) from rfl] at h1
      simp only [S_spec_l08Factor_m_0, dlt hk, cond_true, spec_atO hql (show n ≤ 1000 by omega) (show n ≤ 1000 by omega) hk hk, Option.bind_some, h1]
      show ((M_spec_l05Bad (ro (facO q lo d n k k k))).bind _) = _
      rw [spec_badO, Option.bind_some]
      cases hx : facO q lo d n k k k with
      | none =>
        rw [hx] at hr
        rw [hr]; rfl
      | some x =>
        rw [hx, Option.bind_some] at hr
        have fx : Fit x := oks_facO hq d n k k k x hx
        show (cond (rq x).neg _ ((M_spec_l05Nil (rq x)).bind _)) = _
        rw [nil_rq, Option.bind_some]
        show (cond (decide (x.num < 0)) _ _) = _
        by_cases hp : x ≤ 0
        · rw [if_pos hp] at hr
          rw [hr]
          by_cases h0 : x = 0
          · subst h0; rfl
          · have h1 : x.num ≤ 0 := num_le.2 hp
            have h2 : x.num ≠ 0 := fun e => h0 (Rat.num_eq_zero.1 e)
            rw [decide_eq_true (show x.num < 0 by omega)]; rfl
        · have h1 : ¬ x.num ≤ 0 := fun h' => hp (num_le.1 h')
          have h0 : x ≠ 0 := fun e => hp (by rw [e]; exact Rat.le_refl)
          rw [if_neg hp] at hr
          have hc := spec_col (q := q) (d := d) hq hql ok.oks ok.fits ok.len ok.dlen hn hk fx 0 0 []
          have hg : guardO (Nat.ble ((d.map rq).length + 1) maxNew) = some () := by
            rw [List.length_map, ok.dlen]; exact room1 (by omega)
          have hcp : M_spec_l04Copy (rq x) = some (rq x) := copy_ro' (o := some x) fx.ok
          rw [decide_eq_false (show ¬ x.num < 0 by omega), decide_eq_false h0, cond_false, cond_false]
          show ((M_spec_l04Copy (rq x)).bind _) = _
          rw [hcp]
          simp only [hg, Option.bind_some, succ_wrap hk (show n ≤ 1048576 by omega)]
          rw [List.map_append] at hc
          show ((L_spec_l08Factor_m_2 n k ((k + 1 : Nat) : Int) n n 0 0 [] (q.map ro) n n (rq x).neg (rq x).mag (rq x).den (d.map rq ++ [x].map rq) (lo.map ro)).bind _) = _
          rw [hc, Option.bind_some]
          have hfine := spec_fine (l := colO q lo d n k x (n - (k + 1))) (by rw [len_colO, ok.len]; have := prod24 hn hn; omega)
          rw [colO_some (q := q) (d := d) (x := x) ok.len hk ok.all (by omega)] at hfine
          simp only [hfine, Option.bind_some]
          cases hb : (List.range (n - (k + 1))).all fun s => (quoO q lo d n k x (k + 1 + s)).isSome with
          | false =>
            rw [hb, cond_false] at hr
            rw [hr]; rfl
          | true =>
            rw [hb, cond_true] at hr
            rw [hP, hr]
            simp only [cond_true, cond_false, Bool.not_true, Option.isSome_some, Option.getD_some, List.map_append]
            rw [succ_wrap hk (show n ≤ 1048576 by omega)]) (fun _ => by
      simp [S_spec_l08Factor_m_0])
end Go.Di
namespace Go.Di
theorem sz_go {x : Option Int} {left : Int} {n : Nat} {k : Int → Option Bool} (h : SzR x left n) (hk : ∀ r : Int, 0 ≤ r → r + n = left → k r = some true) :
    (x.bind fun r => cond (decide (r < 0)) (some true) (k r)) = some true := by
  rcases h with rfl | ⟨r, h0, h1, rfl⟩
  · rfl
  · have : decide (r < 0) = false := by simpa using h0
    simp only [Option.bind_some, this, cond_false, hk r h0 h1]
end Go.Di
namespace Go.Di
theorem sym_cases {m : Mx} (hm : lfit Rt.fit m.cells) : (M_spec_IsSymmetric m = some false ∧ M_impl_IsSymmetric m = some false) ∨
    ∃ n q, MxQ m n n q ∧ M_spec_IsSymmetric m = some true ∧ M_impl_IsSymmetric m = some true := by
  obtain ⟨b, hs, hi⟩ := symmetric_both hm
  cases b with
  | false => exact .inl ⟨hs, hi⟩
  | true =>
    right
    cases hb : mxB m with
    | false =>
      unfold M_spec_IsSymmetric at hs
      rw [spec_mxOk hm, hb] at hs; cases hs
    | true =>
      obtain ⟨r, c, q, hq⟩ := mx_cases hb
      have hrc : r = c := by
        cases e : (m.rows == m.cols) with
        | false =>
          unfold M_spec_IsSymmetric at hs
          rw [spec_mxOk hm, hb] at hs
          simp only [Option.bind_some, cond_true, e, cond_false] at hs
          cases hs
        | true =>
          rw [hq.eq, beq_iff_eq] at e
          simp only at e; omega
      subst hrc
      exact ⟨r, q, hq, hs, hi⟩
theorem factor_m {m : Mx} (hm : lfit Rt.fit m.cells) : ∃ L D b, M_spec_Factor_m m = some (L, D, b, m.cells) ∧ M_impl_Factor_m m = some (L, D, b, m.cells) := by
  rcases sym_cases hm with ⟨hs, hi⟩ | ⟨n, q, hq, hs, hi⟩
  · refine ⟨⟨0, 0, []⟩, [], false, ?_, ?_⟩
    · unfold M_spec_Factor_m; rw [hs]; rfl
    · unfold M_impl_Factor_m; rw [hi]; rfl
  · obtain ⟨hn, _, hl, hf, hmq⟩ := hq
    subst hmq
    have hO := oks_some hf
    have h1 := spec_factor (q := q.map some) hO (by rw [List.length_map, hl]) hn
    have h2 := impl_factor (q := q.map some) hO (by rw [List.length_map, hl]) hn
    rw [← rq_some] at h1 h2
    cases hb : (facSt (q.map some) n n).isSome with
    | true =>
      rw [hb, cond_true] at h1 h2
      refine ⟨⟨n, n, (facP (q.map some) n n).1.map ro⟩, (facP (q.map some) n n).2.map rq, true, ?_, ?_⟩
      · unfold M_spec_Factor_m M_spec_l08Factor_m
        rw [hs]
        simp only [Option.bind_some, Bool.not_true, cond_false, spec_idMx' hn, h1]
      · unfold M_impl_Factor_m
        rw [hi]
        simp only [Option.bind_some, Bool.not_true, cond_false, impl_unitMx hn, h2]
    | false =>
      rw [hb, cond_false] at h1 h2
      refine ⟨⟨0, 0, []⟩, [], false, ?_, ?_⟩
      · unfold M_spec_Factor_m M_spec_l08Factor_m
        rw [hs]
        simp only [Option.bind_some, Bool.not_true, cond_false, spec_idMx' hn, h1]
      · unfold M_impl_Factor_m
        rw [hi]
        simp only [Option.bind_some, Bool.not_true, cond_false, impl_unitMx hn, h2]
theorem to_rats_n {l : List Rt} (h : lfit Rt.fit l) : M_laws_toRatS_n l = some l := by
  unfold M_laws_toRatS_n L_laws_toRatS_n_0
  rw [guard_len h.1, guardO_true, Option.bind_some, Int.toNat_natCast, copy_loop (fun i out hi ho => ?_) (fun out => by simp [S_laws_toRatS_n_0])]
  · rfl
  · have hlt : decide ((i : Int) < (l.length : Int)) = true := by simpa using hi
    simp only [S_laws_toRatS_n_0, hlt, cond_true, idx_at hi, idx_at (show i < out.length by omega), Option.bind_some, succ_wrap hi h.1, Int.toNat_natCast, to_rat (h.2 _ (List.getElem_mem hi))]
theorem to_mx_n {m : Mx} (h : lfit Rt.fit m.cells) : M_laws_toMatrix_n m = some m := by
  unfold M_laws_toMatrix_n
  rw [to_rats_n h]; rfl
theorem law_IsPositive (m : Mx) (h : CK.wf (.sl .rat) m.cells) : M_laws_FnExactIsPositive m = some true := by
  unfold M_laws_FnExactIsPositive
  refine sz_go (sz_mx h (by omega) (by omega)) fun r r0 r1 => ?_
  have fm := rfit_lsz (l := m.cells) (by omega)
  obtain ⟨L, D, b, hs, hi⟩ := factor_m fm.fit
  have h1 : M_spec_IsPositive_m m = some (b, m.cells) := by unfold M_spec_IsPositive_m; rw [hs]; rfl
  have h2 : M_impl_IsPositive_m m = some (b, m.cells) := by unfold M_impl_IsPositive_m; rw [hi]; rfl
  simp only [to_mx_n fm.fit, h1, h2, Option.bind_some, beq_self_eq_true, Bool.not_true, cond_false, eq_mx fm.fit, eqB_self]
end Go.Di
