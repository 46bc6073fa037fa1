/-
  Own work: part 6 of the texts that the proof of the given statement leans on.
-/
import Derived.Test.YtmkoafebmfoeaaaZE01
/-
  Own work. Plain laws: the root of a natural number, in the program and in the reference.
-/
namespace Go.Di

/-- Newton's steps from x down. -/
def newt (a x : Nat) : Nat := if (x + a / x) / 2 < x then newt a ((x + a / x) / 2) else x
termination_by x
def rootN (a : Nat) : Nat := if a = 0 then 0 else newt a (1000000000 ^ (((dg a).length + 1) / 2))

theorem newt_pos {a : Nat} (ha : 0 < a) : ∀ x, 0 < x → 0 < (x + a / x) / 2 := fun x hx => by
  rcases Nat.lt_or_ge x 2 with h | h
  · have : x = 1 := by omega
    subst this
    rw [Nat.div_one]; omega
  · exact Nat.div_pos (Nat.le_trans h (Nat.le_add_right _ _)) (by omega)

theorem two_dg : ([2] : List Int) = dg 2 := (dg_one (n := 2) (by omega) (by omega)).symm
theorem start_dg (h : Nat) : List.replicate h (0 : Int) ++ [1] = dg (1000000000 ^ h) := by
  refine eq_dg ⟨(Dig.zeros h).snoc (by omega), by simp [Top0]⟩ ?_
  rw [nv_snoc, nv_zeros, List.length_replicate]
  unfold bp
  simp

theorem len_half {n k : Nat} (h : (dg n).length ≤ k) : (dg (n / 2)).length ≤ k := Nat.le_trans (len_dg_mono (Nat.div_le_self n 2)) h
theorem newt_len {a x k : Nat} (ha : (dg a).length ≤ k) (hx : (dg x).length ≤ k) : (dg (x + a / x)).length ≤ k + 1 := len_dg_add hx (Nat.le_trans (len_dg_mono (Nat.div_le_self a x)) ha)

theorem spec_root_loop {a : Nat} (ha : 0 < a) (hl : (dg a).length ≤ 10000000) : ∀ x : Nat, 0 < x → (dg x).length ≤ 10000000 → whileO S_spec_l09Root_1 (dg a, dg x, ()) = some (dg (newt a x), ()) := by
  intro x
  induction x using Nat.strongRecOn with
  | _ x ih =>
    intro hx hxl
    have hq := Nat.le_trans (len_dg_mono (Nat.div_le_self a x)) hl
    have hs := newt_len hl hxl
    have hy := len_half hs
    have hcmp := spec_cmp (dg_can ((x + a / x) / 2)) (dg_can x) (by omega)
    rw [nv_dg, nv_dg] at hcmp
    have h2 : (dg 2).length ≤ 100000000 := by rw [← two_dg]; simp
    have step : S_spec_l09Root_1 (dg a, dg x, ()) = cond (decide (((x : Nat) : Int) ≤ (((x + a / x) / 2 : Nat) : Int))) (some (.inr (dg x, ()))) (some (.inl (dg a, dg ((x + a / x) / 2), ()))) := by
      simp only [S_spec_l09Root_1, two_dg, spec_div (show (dg a).length ≤ 100000000 by omega) (show (dg x).length ≤ 100000000 by omega) hx, Option.bind_some, spec_add (show (dg x).length ≤ 1073740000 by omega) (show (dg (a / x)).length ≤ 1073740000 by omega),
        spec_trim' (show (dg (x + a / x)).length ≤ 1073741824 by omega), spec_div (show (dg (x + a / x)).length ≤ 100000000 by omega) h2 (show 0 < 2 by omega), spec_trim' (show (dg ((x + a / x) / 2)).length ≤ 1073741824 by omega), spec_trim' (show (dg x).length ≤ 1073741824 by omega), hcmp, cmpI_ge, room (show (dg x).length ≤ 1073741824 by omega)]
    rw [newt]
    by_cases hlt : (x + a / x) / 2 < x
    · rw [if_pos hlt, whileO_inl (by rw [step, decide_eq_false (by omega)]; rfl)]
      exact ih _ hlt (newt_pos ha x hx) (Nat.le_trans (len_dg_mono (Nat.le_of_lt hlt)) hxl)
    · rw [if_neg hlt]
      exact whileO_inr (by rw [step, decide_eq_true (by omega)]; rfl)
theorem impl_root_loop {a : Nat} (ha : 0 < a) (hl : (dg a).length ≤ 10000000) : ∀ x : Nat, 0 < x → (dg x).length ≤ 10000000 → whileO S_impl_root_0 (dg a, dg x, ()) = some (dg (newt a x), ()) := by
  intro x
  induction x using Nat.strongRecOn with
  | _ x ih =>
    intro hx hxl
    have hq := Nat.le_trans (len_dg_mono (Nat.div_le_self a x)) hl
    have hs := newt_len hl hxl
    have hy := len_half hs
    have hcmp := impl_cmp (dg_can ((x + a / x) / 2)) (dg_can x) (by omega)
    rw [nv_dg, nv_dg] at hcmp
    have h2 : (dg 2).length ≤ 100000000 := by rw [← two_dg]; simp
    have step : S_impl_root_0 (dg a, dg x, ()) = cond (decide (((x : Nat) : Int) ≤ (((x + a / x) / 2 : Nat) : Int))) (some (.inr (dg x, ()))) (some (.inl (dg a, dg ((x + a / x) / 2), ()))) := by
      simp only [S_impl_root_0, two_dg, impl_div (show (dg a).length ≤ 100000000 by omega) (show (dg x).length ≤ 100000000 by omega) hx, Option.bind_some, impl_add (show (dg x).length ≤ 1073740000 by omega) (show (dg (a / x)).length ≤ 1073740000 by omega),
        impl_div (show (dg (x + a / x)).length ≤ 100000000 by omega) h2 (show 0 < 2 by omega), hcmp, cmpI_ge]
    rw [newt]
    by_cases hlt : (x + a / x) / 2 < x
    · rw [if_pos hlt, whileO_inl (by rw [step, decide_eq_false (by omega)]; rfl)]
      exact ih _ hlt (newt_pos ha x hx) (Nat.le_trans (len_dg_mono (Nat.le_of_lt hlt)) hxl)
    · rw [if_neg hlt]
      exact whileO_inr (by rw [step, decide_eq_true (by omega)]; rfl)

theorem pow_len (h : Nat) : (dg (1000000000 ^ h)).length = h + 1 := by rw [← start_dg]; simp
theorem half_wrap {n : Nat} (h : n ≤ 10000000) : IntKind.i64.wrap ((IntKind.i64.wrap ((n : Int) + 1)).tdiv 2) = (((n + 1) / 2 : Nat) : Int) := by
  rw [wrap_i64 (n := (n : Int) + 1) (by omega) (by omega), Int.tdiv_eq_ediv_of_nonneg (by omega), wrap_i64 (by omega) (by omega)]
  omega
theorem rootN_zero : rootN 0 = 0 := by unfold rootN; rw [if_pos rfl]

theorem spec_root {a : Nat} (hl : (dg a).length ≤ 1000000) : M_spec_l09Root (dg a) = some (dg (rootN a)) := by
  unfold M_spec_l09Root
  rw [dg_len0]
  by_cases h0 : a = 0
  · subst h0; rw [decide_eq_true rfl, cond_true, rootN_zero, dg_zero]
  · rw [decide_eq_false h0, cond_false]
    unfold L_spec_l09Root_0
    have hw := half_wrap (n := (dg a).length) (by omega)
    have key := whileO_upto S_spec_l09Root_0 (fun i => (dg a, List.replicate i 0, ())) (((dg a).length + 1) / 2) (dg a, List.replicate (((dg a).length + 1) / 2) 0, ()) (fun i hi => by
      have h1 : decide (((List.replicate i (0 : Int)).length : Int) < (((((dg a).length + 1) / 2 : Nat)) : Int)) = true := by rw [List.length_replicate]; exact decide_eq_true (by omega)
      simp only [S_spec_l09Root_0, hw, h1, cond_true, room (show (List.replicate i (0 : Int)).length + 1 ≤ 1073741824 by simp; omega), Option.bind_some]
      rw [← List.replicate_succ']) (by
      have h1 : decide (((List.replicate (((dg a).length + 1) / 2) (0 : Int)).length : Int) < (((((dg a).length + 1) / 2 : Nat)) : Int)) = false := by rw [List.length_replicate]; exact decide_eq_false (by omega)
      simp only [S_spec_l09Root_0, hw, h1, cond_false])
    rw [List.replicate_zero] at key
    rw [key, Option.bind_some]
    simp only []
    rw [room (by simp; omega), Option.bind_some, start_dg]
    unfold L_spec_l09Root_1
    rw [spec_root_loop (by omega) (by omega) _ (Nat.pow_pos (by omega)) (by rw [pow_len]; omega), Option.bind_some]
    unfold rootN
    rw [if_neg h0]
theorem impl_root {a : Nat} (hl : (dg a).length ≤ 1000000) : M_impl_root (dg a) = some (dg (rootN a)) := by
  unfold M_impl_root
  rw [dg_len0]
  by_cases h0 : a = 0
  · subst h0; rw [decide_eq_true rfl, cond_true, rootN_zero, dg_zero]
  · rw [decide_eq_false h0, cond_false, half_wrap (n := (dg a).length) (by omega)]
    have e1 : IntKind.i64.wrap (((((dg a).length + 1) / 2 : Nat) : Int) + 1) = ((((dg a).length + 1) / 2 + 1 : Nat) : Int) := by rw [wrap_i64 (by omega) (by omega)]; omega
    rw [e1, mk_guard (by omega), Option.bind_some, Int.toNat_natCast, List.length_replicate]
    have e2 : IntKind.i64.wrap (((((dg a).length + 1) / 2 + 1 : Nat) : Int) - 1) = ((((dg a).length + 1) / 2 : Nat) : Int) := by rw [wrap_i64 (by omega) (by omega)]; omega
    rw [e2, idx_at (by simp), Option.bind_some, Int.toNat_natCast]
    have e3 : (List.replicate (((dg a).length + 1) / 2 + 1) (0 : Int)).set (((dg a).length + 1) / 2) 1 = dg (1000000000 ^ (((dg a).length + 1) / 2)) := by
      rw [← start_dg, List.replicate_succ', List.set_append_right _ _ (by simp)]; simp
    rw [e3]
    unfold L_impl_root_0
    rw [impl_root_loop (by omega) (by omega) _ (Nat.pow_pos (by omega)) (by rw [pow_len]; omega), Option.bind_some]
    unfold rootN
    rw [if_neg h0]
theorem spec_rootOf {a : List Int} (h : a.length ≤ 1048576) : M_spec_RootOfNat a = some (cond (pB (NatOk a)) (dg (rootN (nv a).toNat)) []) := by
  unfold M_spec_RootOfNat
  rw [spec_natOk h, Option.bind_some]
  by_cases hk : NatOk a
  · rw [pB_iff.2 hk]
    have e := hk.1.dg
    have hl := hk.2
    generalize (nv a).toNat = m at *
    subst e
    simp only [Bool.not_true, cond_false, cond_true]
    rw [spec_root (by omega)]; rfl
  · rw [pB_not.2 hk]; rfl
theorem impl_rootOf {a : List Int} (h : a.length ≤ 1048576) : M_impl_RootOfNat a = some (cond (pB (NatOk a)) (dg (rootN (nv a).toNat)) []) := by
  unfold M_impl_RootOfNat
  rw [impl_natOk h, Option.bind_some]
  by_cases hk : NatOk a
  · rw [pB_iff.2 hk]
    have e := hk.1.dg
    have hl := hk.2
    generalize (nv a).toNat = m at *
    subst e
    simp only [Bool.not_true, cond_false, cond_true]
    rw [impl_root (by omega)]; rfl
  · rw [pB_not.2 hk]; rfl
theorem newt_le (a : Nat) : ∀ x, newt a x ≤ x := by
  intro x
  induction x using Nat.strongRecOn with
  | _ x ih =>
    rw [newt]
    split
    · rename_i h; exact Nat.le_trans (ih _ h) (Nat.le_of_lt h)
    · exact Nat.le_refl _
theorem root_len {a : Nat} : (dg (rootN a)).length ≤ (dg a).length + 1 := by
  unfold rootN
  split
  · rename_i h; subst h; simp [dg_zero]
  · have := len_dg_mono (newt_le a (1000000000 ^ (((dg a).length + 1) / 2)))
    rw [pow_len] at this
    have hne : 0 < (dg a).length := by
      rename_i h
      exact List.length_pos_iff.2 (fun e => h (dg_nil.1 e))
    omega
end Go.Di
