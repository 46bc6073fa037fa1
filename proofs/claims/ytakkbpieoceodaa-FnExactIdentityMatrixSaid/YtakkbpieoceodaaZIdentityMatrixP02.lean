/-
  Own work: part 8 of the texts that the proof of the given statement leans on.
-/
import Derived.Test.YtakkbpieoceodaaZIdentityMatrixP01
namespace Go.Di
end Go.Di
namespace Go.Di
end Go.Di
namespace Go.Di
theorem inB_iff {n lo hi : Int} : inB n lo hi = true ↔ lo ≤ n ∧ n ≤ hi := by
  unfold inB; simp only [Bool.and_eq_true, decide_eq_true_iff]
structure MxQ (m : Mx) (r c : Nat) (q : List Rat) : Prop where
  r24 : r ≤ 24
  c24 : c ≤ 24
  len : q.length = r * c
  fits : Fits q
  eq : m = ⟨r, c, q.map rq⟩
theorem prod24 {r c : Nat} (hr : r ≤ 24) (hc : c ≤ 24) : r * c ≤ 576 := by
  calc r * c ≤ 24 * 24 := Nat.mul_le_mul hr hc
    _ = 576 := rfl
theorem at_pos {i c k : Nat} (hi : i < 1000) (hc : c ≤ 1000) (hk : k < 1000) : IntKind.i64.wrap (IntKind.i64.wrap ((i : Int) * (c : Int)) + (k : Int)) = ((i * c + k : Nat) : Int) := by
  have hp : i * c ≤ 1000 * 1000 := Nat.mul_le_mul (by omega) hc
  have e1 : ((i : Int) * (c : Int)) = ((i * c : Nat) : Int) := by simp
  rw [e1, wrap_i64 (n := ((i * c : Nat) : Int)) (by omega) (by omega), wrap_i64 (by omega) (by omega)]
  simp
theorem at_lt {i r c k : Nat} (hi : i < r) (hk : k < c) : i * c + k < r * c := by
  have : (i + 1) * c ≤ r * c := Nat.mul_le_mul_right _ (by omega)
  rw [Nat.add_mul, Nat.one_mul] at this
  omega
/-! ### Matrices of integers -/
/-! ### Elements, rows, diagonals -/
/-! ### Products with vectors -/
end Go.Di
namespace Go.Di
/-! ### Grids -/
def grid {α : Type} (r c : Nat) (g : Nat → Nat → α) : List α := (List.range r).flatMap fun i => (List.range c).map (g i)
theorem grid_succ {α : Type} (r c : Nat) (g : Nat → Nat → α) : grid (r + 1) c g = grid r c g ++ (List.range c).map (g r) := by
  unfold grid; rw [List.range_succ, List.flatMap_append]; simp
theorem len_grid {α : Type} (r c : Nat) (g : Nat → Nat → α) : (grid r c g).length = r * c := by
  induction r with
  | zero => simp [grid]
  | succ r ih => rw [grid_succ, List.length_append, ih, List.length_map, List.length_range, Nat.add_mul, Nat.one_mul]
theorem grid_at {α : Type} {r c : Nat} (g : Nat → Nat → α) {j : Nat} (h : j < r * c) : (grid r c g)[j]? = some (g (j / c) (j % c)) := by
  induction r with
  | zero => omega
  | succ r ih =>
    rw [grid_succ]
    by_cases hj : j < r * c
    · rw [List.getElem?_append_left (by rw [len_grid]; exact hj)]; exact ih hj
    · rw [List.getElem?_append_right (by rw [len_grid]; omega), len_grid]
      rw [Nat.add_mul, Nat.one_mul] at h
      have hk : j - r * c < c := by omega
      rw [List.getElem?_map, List.getElem?_range hk]
      have e : j = c * r + (j - r * c) := by rw [Nat.mul_comm c r]; omega
      have h1 : j / c = r := by
        rw [e, Nat.mul_add_div (by omega), Nat.div_eq_of_lt hk]; omega
      have h2 : j % c = j - r * c := by
        conv => lhs; rw [e]
        rw [Nat.mul_add_mod, Nat.mod_eq_of_lt hk]
      rw [h1, h2]; rfl
theorem pos_div {i c k : Nat} (hk : k < c) : (i * c + k) / c = i ∧ (i * c + k) % c = k := by
  constructor
  · rw [Nat.mul_comm, Nat.mul_add_div (by omega), Nat.div_eq_of_lt hk]; omega
  · rw [Nat.mul_comm, Nat.mul_add_mod, Nat.mod_eq_of_lt hk]
theorem grid_map {α β : Type} (f : α → β) (r c : Nat) (g : Nat → Nat → α) : (grid r c g).map f = grid r c fun i k => f (g i k) := by
  unfold grid
  rw [List.map_flatMap]
  congr 1
  funext i
  rw [List.map_map]; rfl
theorem grid_mem {α : Type} {r c : Nat} {g : Nat → Nat → α} {x : α} (h : x ∈ grid r c g) : ∃ i k, i < r ∧ k < c ∧ x = g i k := by
  obtain ⟨i, hi, hx⟩ := List.mem_flatMap.1 h
  obtain ⟨k, hk, rfl⟩ := List.mem_map.1 hx
  exact ⟨i, k, List.mem_range.1 hi, List.mem_range.1 hk, rfl⟩
theorem div_parts {r c j : Nat} (h : j < r * c) : j / c < r ∧ j % c < c ∧ j / c * c + j % c = j := by
  have hc : 0 < c := by
    rcases Nat.eq_zero_or_pos c with h0 | h0
    · subst h0; simp at h
    · exact h0
  refine ⟨Nat.div_lt_of_lt_mul (by rw [Nat.mul_comm]; exact h), Nat.mod_lt _ hc, ?_⟩
  rw [Nat.mul_comm]; exact Nat.div_add_mod j c
theorem grid_congr {α : Type} {r c : Nat} {g h : Nat → Nat → α} (e : ∀ i k, i < r → k < c → g i k = h i k) : grid r c g = grid r c h := by
  apply List.ext_getElem?
  intro j
  by_cases hj : j < r * c
  · obtain ⟨h1, h2, _⟩ := div_parts hj
    rw [grid_at g hj, grid_at h hj, e _ _ h1 h2]
  · rw [List.getElem?_eq_none (by rw [len_grid]; omega), List.getElem?_eq_none (by rw [len_grid]; omega)]
theorem grid_lin {α : Type} (r c : Nat) (f : Nat → α) : grid r c (fun i k => f (i * c + k)) = (List.range (r * c)).map f := by
  apply List.ext_getElem?
  intro j
  by_cases hj : j < r * c
  · rw [grid_at _ hj, (div_parts hj).2.2, List.getElem?_map, List.getElem?_range hj]; rfl
  · rw [List.getElem?_eq_none (by rw [len_grid]; omega), List.getElem?_eq_none (by simp; omega)]
theorem grid_set {α : Type} {r c i k : Nat} (g : Nat → Nat → α) (x : α) (hi : i < r) (hk : k < c) : (grid r c g).set (i * c + k) x = grid r c fun a b => if a = i ∧ b = k then x else g a b := by
  apply List.ext_getElem?
  intro j
  rw [List.getElem?_set]
  by_cases hj : j < r * c
  · obtain ⟨h1, h2, h3⟩ := div_parts hj
    rw [grid_at (fun a b => if a = i ∧ b = k then x else g a b) hj]
    split
    · rename_i e
      rw [if_pos (by rw [len_grid]; omega)]
      subst e
      rw [(pos_div hk).1, (pos_div hk).2, if_pos ⟨rfl, rfl⟩]
    · rename_i e
      rw [grid_at g hj, if_neg (by rintro ⟨e1, e2⟩; rw [e1, e2] at h3; exact e h3)]
  · rw [List.getElem?_eq_none (l := grid r c _) (by rw [len_grid]; omega), if_neg (by have := at_lt hi hk; omega), List.getElem?_eq_none (by rw [len_grid]; omega)]
/-! ### Loops -/
theorem app_from {β σ ρ : Type} {S : σ → Option (σ ⊕ ρ)} (x0 : List β) (st : Int → List β → σ) (g : Nat → β) (n : Nat) {r : List β → ρ}
    (hS : ∀ (i : Nat) out, i < n → out.length = x0.length + i → S (st (i : Int) out) = some (.inl (st ((i + 1 : Nat) : Int) (out ++ [g i])))) (hE : ∀ out, out.length = x0.length + n → S (st (n : Int) out) = some (.inr (r out))) :
    whileO S (st 0 x0) = some (r (x0 ++ (List.range n).map g)) := by
  have key := whileO_upto S (fun i => st (i : Int) (x0 ++ (List.range i).map g)) n (r (x0 ++ (List.range n).map g)) (fun i hi => by
    rw [hS i _ hi (by simp), List.range_succ, List.map_append, List.append_assoc]; rfl) (hE _ (by simp))
  simpa using key
theorem grid_loop {β σ ρ : Type} {S : σ → Option (σ ⊕ ρ)} (st : Int → List β → σ) (g : Nat → Nat → β) (n c : Nat) {r : List β → ρ}
    (hS : ∀ (i : Nat) out, i < n → out.length = i * c → S (st (i : Int) out) = some (.inl (st ((i + 1 : Nat) : Int) (out ++ (List.range c).map (g i))))) (hE : ∀ out, out.length = n * c → S (st (n : Int) out) = some (.inr (r out))) :
    whileO S (st 0 []) = some (r (grid n c g)) := by
  have key := whileO_upto S (fun i => st (i : Int) (grid i c g)) n (r (grid n c g)) (fun i hi => by
    rw [hS i _ hi (len_grid ..), grid_succ]) (hE _ (len_grid ..))
  simpa [grid] using key
theorem room_row {i n c k r m : Nat} (hi : i < n) (hk : k < c) (hn : n ≤ 24) (hc : c ≤ 24) (hr : r = i * c) (hm : m = r + k) : guardO (Nat.ble (m + 1) maxNew) = some () := by
  have := at_lt hi hk
  have := prod24 hn hc
  exact room1 (by omega)
/-! ### Identities -/
noncomputable def idO (i k : Nat) : Option Rat := if i = k then some 1 else some 0
theorem fit_one : Fit 1 := by
  have := fit_int (n := 1) (by omega) (by omega)
  simpa using this
theorem oks_idO (i k : Nat) : Oks (idO i k) := by
  unfold idO; split
  · exact fit_one.ok
  · exact fit_zero.ok
theorem whole_one : M_impl_whole 1 = some (ro (some 1)) := by
  have := impl_whole (n := 1) (by omega) (by omega)
  simpa using this
theorem spec_one : M_spec_RatFromInt 1 = some (ro (some 1)) := by
  have := spec_ratInt (n := 1) (by omega) (by omega)
  simpa using this
theorem impl_idc (i k : Nat) : M_impl_IdentityMatrix_c1 (i : Int) (k : Int) = some (ro (idO i k)) := by
  unfold M_impl_IdentityMatrix_c1 idO
  have : ((i : Int) == (k : Int)) = decide (i = k) := by rw [Bool.eq_iff_iff]; simp; omega
  rw [this, whole_one, whole_zero]
  by_cases h : i = k
  · rw [decide_eq_true h, if_pos h]; rfl
  · rw [decide_eq_false h, if_neg h]; rfl
theorem impl_idMx {n : Nat} (hn : n ≤ 24) : M_impl_built__impl_IdentityMatrix_c1 n n = some ⟨n, n, (grid n n idO).map ro⟩ := by
  unfold M_impl_built__impl_IdentityMatrix_c1 L_impl_built__impl_IdentityMatrix_c1_0
  rw [grid_loop (S := S_impl_built__impl_IdentityMatrix_c1_0) (fun i out => ((n : Int), (n : Int), i, 0, 0, [], (n : Int), (n : Int), out, ())) (fun i k => ro (idO i k)) n n (r := fun out => (0, 0, [], (n : Int), (n : Int), out, ())) (fun i out hi ho => by
    unfold S_impl_built__impl_IdentityMatrix_c1_0 L_impl_built__impl_IdentityMatrix_c1_1
    simp only [dlt hi, cond_true]
    rw [app_from (S := S_impl_built__impl_IdentityMatrix_c1_1) out (fun k out => ((n : Int), (i : Int), (n : Int), (i : Int), (n : Int), k, 0, 0, [], (n : Int), (n : Int), out, ())) (fun k => ro (idO i k)) n (r := fun out => ((n : Int), (n : Int), (i : Int), 0, 0, [], (n : Int), (n : Int), out, ())) (fun k xs hk hx => by
      simp only [S_impl_built__impl_IdentityMatrix_c1_1, dlt hk, cond_true, impl_idc, Option.bind_some, room_row hi hk hn hn ho hx, succ_wrap hk (show n ≤ 1048576 by omega)]) (fun out _ => by simp [S_impl_built__impl_IdentityMatrix_c1_1])]
    simp only [Option.bind_some, succ_wrap hi (show n ≤ 1048576 by omega)]) (fun out _ => by simp [S_impl_built__impl_IdentityMatrix_c1_0])]
  rw [grid_map]; rfl
theorem spec_zeros {n : Nat} (hn : n ≤ 20000) : M_spec_l05Zeros (n : Int) = some ((List.range n).map fun _ => ro (some 0)) := by
  unfold M_spec_l05Zeros L_spec_l05Zeros_0
  rw [app_loop (S := S_spec_l05Zeros_0) (fun _ out => ((n : Int), out, ())) (fun _ => ro (some 0)) n (r := fun out => (out, ())) (fun i out hi ho => by
    have hlt : decide ((out.length : Int) < (n : Int)) = true := dlt (by omega)
    simp only [S_spec_l05Zeros_0, hlt, cond_true, spec_zero, Option.bind_some, room1 (show out.length ≤ 2000000 by omega)]) (fun out ho => by
    have : decide ((out.length : Int) < (n : Int)) = false := decide_eq_false (by omega)
    simp only [S_spec_l05Zeros_0, this, cond_false])]
  rfl
theorem spec_idMx {n : Nat} (hn : n ≤ 24) : M_spec_l06Identity n = some ⟨n, n, (grid n n idO).map ro⟩ := by
  have hp := prod24 hn hn
  unfold M_spec_l06Identity L_spec_l06Identity_0 M_spec_l06Zero
  have e1 : ((n : Int) * (n : Int)) = ((n * n : Nat) : Int) := by simp
  rw [e1, wrap_i64 (by omega) (by omega), spec_zeros (by omega), Option.bind_some, Option.bind_some]
  let zs : Nat → List Rt := fun i => grid n n fun a b => if a = b ∧ a < i then ro (some 1) else ro (some 0)
  have key := whileO_upto S_spec_l06Identity_0 (fun i => ((n : Int), (i : Int), 0, 0, ([] : List Rt), (n : Int), (n : Int), zs i, ())) n (0, 0, [], (n : Int), (n : Int), zs n, ()) (fun i hi => by
    have hj : i * n + i < (zs i).length := by simp only [zs]; rw [len_grid]; exact at_lt hi hi
    have hg : (zs i)[i * n + i]? = some (zs i)[i * n + i] := List.getElem?_eq_getElem hj
    simp only [S_spec_l06Identity_0, dlt hi, cond_true, spec_one, Option.bind_some, at_pos (show i < 1000 by omega) (show n ≤ 1000 by omega) (show i < 1000 by omega), idx_at hj, Int.toNat_natCast, hg, succ_wrap hi (show n ≤ 1048576 by omega)]
    congr 10
    simp only [zs]
    rw [grid_set _ _ hi hi]
    refine grid_congr fun a b ha hb => ?_
    by_cases h : a = i ∧ b = i
    · rw [if_pos h, if_pos ⟨h.1.trans h.2.symm, by omega⟩]
    · rw [if_neg h]
      by_cases h2 : a = b ∧ a < i
      · rw [if_pos h2, if_pos ⟨h2.1, by omega⟩]
      · rw [if_neg h2, if_neg (by rintro ⟨e1, e2⟩; exact h2 ⟨e1, by omega⟩)]) (by simp [S_spec_l06Identity_0])
  have h0 : zs 0 = (List.range (n * n)).map fun _ => ro (some 0) := by
    simp only [zs]
    rw [← grid_lin n n fun _ => ro (some 0)]
    exact grid_congr fun a b _ _ => by simp
  have hn' : zs n = (grid n n idO).map ro := by
    simp only [zs]
    rw [grid_map]
    refine grid_congr fun a b ha hb => ?_
    unfold idO
    by_cases h : a = b
    · rw [if_pos ⟨h, ha⟩, if_pos h]
    · rw [if_neg (fun e => h e.1), if_neg h]
  rw [h0] at key
  refine (congrArg (fun x => Option.bind x _) key).trans ?_
  show some (⟨(n : Int), (n : Int), zs n⟩ : Mx) = _
  rw [hn']
theorem rfit_grid {r c : Nat} {g : Nat → Nat → Option Rat} (hr : r ≤ 24) (hc : c ≤ 24) (h : ∀ i k, i < r → k < c → Oks (g i k)) : Rfit ((grid r c g).map ro) :=
  rfit_ro (fun o ho => by obtain ⟨i, k, hi, hk, rfl⟩ := grid_mem ho; exact h i k hi hk) (by rw [len_grid]; have := prod24 hr hc; omega)
theorem identity_both (n : Int) : ∃ m, M_spec_IdentityMatrix n = some m ∧ M_impl_IdentityMatrix n = some m ∧ Rfit m.cells := by
  cases h : inB n 0 24 with
  | false => exact ⟨⟨0, 0, []⟩, by unfold M_spec_IdentityMatrix; rw [spec_in, h]; rfl, by unfold M_impl_IdentityMatrix; rw [impl_len, h]; rfl, rfit_nil⟩
  | true =>
    have hb := inB_iff.1 h
    obtain ⟨n, rfl⟩ := Int.eq_ofNat_of_zero_le hb.1
    have hn : n ≤ 24 := by omega
    refine ⟨⟨n, n, (grid n n idO).map ro⟩, ?_, ?_, rfit_grid hn hn fun i k _ _ => oks_idO i k⟩
    · unfold M_spec_IdentityMatrix; rw [spec_in, h, Option.bind_some]; simp only [Bool.not_true, cond_false]; rw [spec_idMx hn]; rfl
    · unfold M_impl_IdentityMatrix; rw [impl_len, h, Option.bind_some]; simp only [Bool.not_true, cond_false]; rw [impl_idMx hn]; rfl
/-! ### Transposed matrices -/
def trans (q : List Rat) (r c : Nat) : List Rat := grid c r fun i k => (q[k * c + i]?).getD 0
/-! ### Sums, products -/
/-! ### Parts -/
end Go.Di
namespace Go.Di
end Go.Di
namespace Go.Di
end Go.Di
namespace Go.Di
end Go.Di
namespace Go.Di
end Go.Di
namespace Go.Di
end Go.Di
namespace Go.Di
end Go.Di
namespace Go.Di
theorem law_IdentityMatrix (n : Int) : M_laws_FnExactIdentityMatrix n = some true := by
  unfold M_laws_FnExactIdentityMatrix
  obtain ⟨m, hs, hi, f⟩ := identity_both n
  have f1 := f.few
  simp (disch := omega) only [hs, hi, Option.bind_some, eq_mx f.fit, eqB_self, Bool.not_true, cond_false, mark_mx f.fit f.few, held_mx f.fit f.few, dneg, bneSelf]
end Go.Di
