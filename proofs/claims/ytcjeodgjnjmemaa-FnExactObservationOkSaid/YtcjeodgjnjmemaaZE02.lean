/-
  Own work: part 6 of the texts that the proof of the given statement leans on.
-/
import Derived.Test.YtcjeodgjnjmemaaZE01
/-
  Own work. Plain laws: the root of a natural number, in the program and in the reference.
-/
namespace Go.Di

/-- Newton's steps from x down. -/
def newt (a x : Nat) : Nat := if (x + a / x) / 2 < x then newt a ((x + a / x) / 2) else x
termination_by x
def rootN (a : Nat) : Nat := if a = 0 then 0 else newt a (1000000000 ^ (((dg a).length + 1) / 2))

theorem newt_pos {a : Nat} (ha : 0 < a) : ∀ x, 0 < x → 0 < (x + a / x) / 2 := fun x hx => by
  rcases Nat.lt_or_ge x 2 with h | h
  · have : x = 1 := by omega
    subst this
    rw [Nat.div_one]; omega
  · exact Nat.div_pos (Nat.le_trans h (Nat.le_add_right _ _)) (by omega)

theorem two_dg : ([2] : List Int) = dg 2 := (dg_one (n := 2) (by omega) (by omega)).symm
theorem start_dg (h : Nat) : List.replicate h (0 : Int) ++ [1] = dg (1000000000 ^ h) := by
  refine eq_dg ⟨(Dig.zeros h).snoc (by omega), by simp [Top0]⟩ ?_
  rw [nv_snoc, nv_zeros, List.length_replicate]
  unfold bp
  simp

theorem len_half {n k : Nat} (h : (dg n).length ≤ k) : (dg (n / 2)).length ≤ k := Nat.le_trans (len_dg_mono (Nat.div_le_self n 2)) h
theorem newt_len {a x k : Nat} (ha : (dg a).length ≤ k) (hx : (dg x).length ≤ k) : (dg (x + a / x)).length ≤ k + 1 := len_dg_add hx (Nat.le_trans (len_dg_mono (Nat.div_le_self a x)) ha)

theorem spec_root_loop {a : Nat} (ha : 0 < a) (hl : (dg a).length ≤ 10000000) : ∀ x : Nat, 0 < x → (dg x).length ≤ 10000000 → whileO S_spec_l09Root_1 (dg a, dg x, ()) = some (dg (newt a x), ()) := by
  intro x
  induction x using Nat.strongRecOn with
  | _ x ih =>
    intro hx hxl
    have hq := Nat.le_trans (len_dg_mono (Nat.div_le_self a x)) hl
    have hs := newt_len hl hxl
    have hy := len_half hs
    have hcmp := spec_cmp (dg_can ((x + a / x) / 2)) (dg_can x) (by omega)
    rw [nv_dg, nv_dg] at hcmp
    have h2 : (dg 2).length ≤ 100000000 := by rw [← two_dg]; simp
    have step : S_spec_l09Root_1 (dg a, dg x, ()) = cond (decide (((x : Nat) : Int) ≤ (((x + a / x) / 2 : Nat) : Int))) (some (.inr (dg x, ()))) (some (.inl (dg a, dg ((x + a / x) / 2), ()))) := by
      simp only [S_spec_l09Root_1, two_dg, spec_div (show (dg a).length ≤ 100000000 by omega) (show (dg x).length ≤ 100000000 by omega) hx, Option.bind_some, spec_add (show (dg x).length ≤ 1073740000 by omega) (show (dg (a / x)).length ≤ 1073740000 by omega),
        spec_trim' (show (dg (x + a / x)).length ≤ 1073741824 by omega), spec_div (show (dg (x + a / x)).length ≤ 100000000 by omega) h2 (show 0 < 2 by omega), spec_trim' (show (dg ((x + a / x) / 2)).length ≤ 1073741824 by omega), spec_trim' (show (dg x).length ≤ 1073741824 by omega), hcmp, cmpI_ge, room (show (dg x).length ≤ 1073741824 by omega)]
    rw [newt]
    by_cases hlt : (x + a / x) / 2 < x
    · rw [if_pos hlt, whileO_inl (by rw [step, decide_eq_false (by omega)]; rfl)]
      exact ih _ hlt (newt_pos ha x hx) (Nat.le_trans (len_dg_mono (Nat.le_of_lt hlt)) hxl)
    · rw [if_neg hlt]
      exact whileO_inr (by rw [step, decide_eq_true (by omega)]; rfl)
theorem impl_root_loop {a : Nat} (ha : 0 < a) (hl : (dg a).length ≤ 10000000) : ∀ x : Nat, 0 < x → (dg x).length ≤ 10000000 → whileO S_impl_root_0 (dg a, dg x, ()) = some (dg (newt a x), ()) := by
  intro x
  induction x using Nat.strongRecOn with
  | _ x ih =>
    intro hx hxl
    have hq := Nat.le_trans (len_dg_mono (Nat.div_le_self a x)) hl
    have hs := newt_len hl hxl
    have hy := len_half hs
    have hcmp := impl_cmp (dg_can ((x + a / x) / 2)) (dg_can x) (by omega)
    rw [nv_dg, nv_dg] at hcmp
    have h2 : (dg 2).length ≤ 100000000 := by rw [← two_dg]; simp
    have step : S_impl_root_0 (dg a, dg x, ()) = cond (decide (((x : Nat) : Int) ≤ (((x + a / x) / 2 : Nat) : Int))) (some (.inr (dg x, ()))) (some (.inl (dg a, dg ((x + a / x) / 2), ()))) := by
      simp only [S_impl_root_0, two_dg, impl_div (show (dg a).length ≤ 100000000 by omega) (show (dg x).length ≤ 100000000 by omega) hx, Option.bind_some, impl_add (show (dg x).length ≤ 1073740000 by omega) (show (dg (a / x)).length ≤ 1073740000 by omega),
        impl_div (show (dg (x + a / x)).length ≤ 100000000 by omega) h2 (show 0 < 2 by omega), hcmp, cmpI_ge]
    rw [newt]
    by_cases hlt : (x + a / x) / 2 < x
    · rw [if_pos hlt, whileO_inl (by rw [step, decide_eq_false (by omega)]; rfl)]
      exact ih _ hlt (newt_pos ha x hx) (Nat.le_trans (len_dg_mono (Nat.le_of_lt hlt)) hxl)
    · rw [if_neg hlt]
      exact whileO_inr (by rw [step, decide_eq_true (by omega)]; rfl)

theorem pow_len (h : Nat) : (dg (1000000000 ^ h)).length = h + 1 := by rw [← start_dg]; simp
theorem half_wrap {n : Nat} (h : n ≤ 10000000) : IntKind.i64.wrap ((IntKind.i64.wrap ((n : Int) + 1)).tdiv 2) = (((n + 1) / 2 : Nat) : Int) := by
  rw [wrap_i64 (n := (n : Int) + 1) (by omega) (by omega), Int.tdiv_eq_ediv_of_nonneg (by omega), wrap_i64 (by omega) (by omega)]
  omega
theorem rootN_zero : rootN 0 = 0 := by unfold rootN; rw [if_pos rfl]

theorem spec_root {a : Nat} (hl : (dg a).length ≤ 1000000) : M_spec_l09Root (dg a) = some (dg (rootN a)) := by
  unfold M_spec_l09Root
  rw [dg_len0]
  by_cases h0 : a = 0
  · subst h0; rw [decide_eq_true rfl, cond_true, rootN_zero, dg_zero]
  · rw [decide_eq_false h0, cond_false]
    unfold L_spec_l09Root_0
    have hw := half_wrap (n := (dg a).length) (by omega)
    have key := whileO_upto S_spec_l09Root_0 (fun i => (dg a, List.replicate i 0, ())) (((dg a).length + 1) / 2) (dg a, List.replicate (((dg a).length + 1) / 2) 0, ()) (fun i hi => by
      have h1 : decide (((List.replicate i (0 : Int)).length : Int) < (((((dg a).length + 1) / 2 : Nat)) : Int)) = true := by rw [List.length_replicate]; exact decide_eq_true (by omega)
      simp only [S_spec_l09Root_0, hw, h1, cond_true, room (show (List.replicate i (0 : Int)).length + 1 ≤ 1073741824 by simp; omega), Option.bind_some]
      rw [← List.replicate_succ']) (by
      have h1 : decide (((List.replicate (((dg a).length + 1) / 2) (0 : Int)).length : Int) < (((((dg a).length + 1) / 2 : Nat)) : Int)) = false := by rw [List.length_replicate]; exact decide_eq_false (by omega)
      simp only [S_spec_l09Root_0, hw, h1, cond_false])
    rw [List.replicate_zero] at key
    rw [key, Option.bind_some]
    simp only []
    rw [room (by simp; omega), Option.bind_some, start_dg]
    unfold L_spec_l09Root_1
    rw [spec_root_loop (by omega) (by omega) _ (Nat.pow_pos (by omega)) (by rw [pow_len]; omega), Option.bind_some]
    unfold rootN
    rw [if_neg h0]
theorem impl_root {a : Nat} (hl : (dg a).length ≤ 1000000) : M_impl_root (dg a) = some (dg (rootN a)) := by
  unfold M_impl_root
  rw [dg_len0]
  by_cases h0 : a = 0
  · subst h0; rw [decide_eq_true rfl, cond_true, rootN_zero, dg_zero]
  · rw [decide_eq_false h0, cond_false, half_wrap (n := (dg a).length) (by omega)]
    have e1 : IntKind.i64.wrap (((((dg a).length + 1) / 2 : Nat) : Int) + 1) = ((((dg a).length + 1) / 2 + 1 : Nat) : Int) := by rw [wrap_i64 (by omega) (by omega)]; omega
    rw [e1, mk_guard (by omega), Option.bind_some, Int.toNat_natCast, List.length_replicate]
    have e2 : IntKind.i64.wrap (((((dg a).length + 1) / 2 + 1 : Nat) : Int) - 1) = ((((dg a).length + 1) / 2 : Nat) : Int) := by rw [wrap_i64 (by omega) (by omega)]; omega
    rw [e2, idx_at (by simp), Option.bind_some, Int.toNat_natCast]
    have e3 : (List.replicate (((dg a).length + 1) / 2 + 1) (0 : Int)).set (((dg a).length + 1) / 2) 1 = dg (1000000000 ^ (((dg a).length + 1) / 2)) := by
      rw [← start_dg, List.replicate_succ', List.set_append_right _ _ (by simp)]; simp
    rw [e3]
    unfold L_impl_root_0
    rw [impl_root_loop (by omega) (by omega) _ (Nat.pow_pos (by omega)) (by rw [pow_len]; omega), Option.bind_some]
    unfold rootN
    rw [if_neg h0]
theorem spec_rootOf {a : List Int} (h : a.length ≤ 1048576) : M_spec_RootOfNat a = some (cond (pB (NatOk a)) (dg (rootN (nv a).toNat)) []) := by
  unfold M_spec_RootOfNat
  rw [spec_natOk h, Option.bind_some]
  by_cases hk : NatOk a
  · rw [pB_iff.2 hk]
    have e := hk.1.dg
    have hl := hk.2
    generalize (nv a).toNat = m at *
    subst e
    simp only [Bool.not_true, cond_false, cond_true]
    rw [spec_root (by omega)]; rfl
  · rw [pB_not.2 hk]; rfl
theorem impl_rootOf {a : List Int} (h : a.length ≤ 1048576) : M_impl_RootOfNat a = some (cond (pB (NatOk a)) (dg (rootN (nv a).toNat)) []) := by
  unfold M_impl_RootOfNat
  rw [impl_natOk h, Option.bind_some]
  by_cases hk : NatOk a
  · rw [pB_iff.2 hk]
    have e := hk.1.dg
    have hl := hk.2
    generalize (nv a).toNat = m at *
    subst e
    simp only [Bool.not_true, cond_false, cond_true]
    rw [impl_root (by omega)]; rfl
  · rw [pB_not.2 hk]; rfl
theorem newt_le (a : Nat) : ∀ x, newt a x ≤ x := by
  intro x
  induction x using Nat.strongRecOn with
  | _ x ih =>
    rw [newt]
    split
    · rename_i h; exact Nat.le_trans (ih _ h) (Nat.le_of_lt h)
    · exact Nat.le_refl _
theorem root_len {a : Nat} : (dg (rootN a)).length ≤ (dg a).length + 1 := by
  unfold rootN
  split
  · rename_i h; subst h; simp [dg_zero]
  · have := len_dg_mono (newt_le a (1000000000 ^ (((dg a).length + 1) / 2)))
    rw [pow_len] at this
    have hne : 0 < (dg a).length := by
      rename_i h
      exact List.length_pos_iff.2 (fun e => h (dg_nil.1 e))
    omega
end Go.Di
/-
  Own work. Plain laws: quotients in the reference; signs; roundings; roots of fractions.
-/
namespace Go.Di

theorem spec_badO (o : Option Rat) : M_spec_l05Bad (ro o) = some o.isNone := by unfold M_spec_l05Bad; rw [den_void]

theorem spec_divO {o p : Option Rat} (ho : Oks o) (hp : Oks p) : M_spec_l05Div (ro o) (ro p) = some (ro (divO o p)) := by
  unfold M_spec_l05Div
  have hom := ro_mag ho
  have hpm := ro_mag hp
  have hod := ro_den ho
  have hpd := ro_den hp
  cases o with
  | none =>
    obtain ⟨m, d, e1, e2⟩ : ∃ m d : Nat, (ro p).mag = dg m ∧ (ro p).den = dg d := by
      cases p with
      | none => exact ⟨0, 0, dg_zero.symm, dg_zero.symm⟩
      | some r => exact ⟨_, _, rfl, rfl⟩
    rw [e1] at hpm; rw [e2] at hpd
    rw [ro_none_dg, e1, e2]
    rw [spec_mul (by rw [dg_zero]; simp) (by omega), Option.bind_some, spec_mul (by rw [dg_zero]; simp) (by omega), Option.bind_some, Nat.zero_mul, Nat.zero_mul, spec_low0 (by rw [dg_zero]; simp), Option.bind_some]; rfl
  | some q =>
    have fq := ho q rfl
    cases p with
    | none =>
      rw [ro_none_dg]
      show ((M_spec_l02Mul (dg q.num.natAbs) (dg 0)).bind fun r1 => (M_spec_l02Mul (dg q.den) (dg 0)).bind _) = _
      rw [spec_mul (by have := fq.1; omega) (by rw [dg_zero]; simp), Option.bind_some, spec_mul (by have := fq.2; omega) (by rw [dg_zero]; simp), Option.bind_some, Nat.mul_zero, Nat.mul_zero, spec_low0 (by rw [dg_zero]; simp), Option.bind_some]; rfl
    | some r =>
      have fr := hp r rfl
      have h3 := small24 fq.2 fr.1
      have h4 := small24 fq.1 fr.2
      show ((M_spec_l02Mul (dg q.num.natAbs) (dg r.den)).bind fun r1 => (M_spec_l02Mul (dg q.den) (dg r.num.natAbs)).bind fun r2 => (M_spec_l04Low (!(decide (q.num < 0) == decide (r.num < 0))) r1 r2).bind _) = _
      rw [spec_mul (by have := fq.1; omega) (by have := fr.2; omega), Option.bind_some, spec_mul (by have := fq.2; omega) (by have := fr.1; omega), Option.bind_some]
      by_cases h0 : r = 0
      · have : r.num.natAbs = 0 := by rw [h0]; rfl
        rw [this, Nat.mul_zero, spec_low0 (by omega), Option.bind_some]
        simp [divO, h0]
      · have hn : r.num.natAbs ≠ 0 := fun h => h0 (Rat.num_eq_zero.1 (by omega))
        rw [spec_low (Nat.mul_ne_zero q.den_nz hn) (by omega) (by omega), Option.bind_some]
        have hs := sg_mul q.num (sg (decide (r.num < 0)) r.den)
        rw [sg_abs, sg_neg r.den_nz] at hs
        rw [hs, mk_div q r h0]
        simp [divO, h0]

/-! ### Signs -/
theorem impl_signq (q : Rat) : M_impl_sign (rq q) = some (cond (decide (q.num < 0)) (-1) (cond (decide (q.num ≠ 0)) 1 0)) := by
  unfold M_impl_sign rq
  simp only [dg_lenpos]
  cases decide (q.num < 0) with
  | true => rfl
  | false =>
    simp only [cond_false]
    have : decide (q.num.natAbs ≠ 0) = decide (q.num ≠ 0) := by rw [Bool.eq_iff_iff]; simp
    rw [this]
    cases decide (q.num ≠ 0) <;> rfl

/-! ### Rounded down -/
theorem floor_neg {n : Int} {d : Nat} (hd : 0 < d) (hn : n < 0) : sg true (n.natAbs / d + (if n.natAbs % d = 0 then 0 else 1)) = n / (d : Int) := by
  have h1 : ((n.natAbs : Nat) : Int) = -n := by omega
  have hdm := Nat.div_add_mod n.natAbs d
  have hlt := Nat.mod_lt n.natAbs hd
  generalize n.natAbs / d = q at *
  generalize n.natAbs % d = r at *
  have hz : (d : Int) * q + r = -n := by rw [← h1]; exact_mod_cast hdm
  simp only [sg, cond_true]
  by_cases hr : r = 0
  · rw [if_pos hr]
    subst hr
    have : n = (d : Int) * (-(q : Int)) := by grind
    rw [this, Int.mul_ediv_cancel_left _ (by omega)]; omega
  · rw [if_neg hr]
    have e : n = ((d : Int) - r) + (d : Int) * (-(q : Int) - 1) := by grind
    rw [e, Int.add_mul_ediv_left _ _ (by omega), Int.ediv_eq_zero_of_lt (by omega) (by omega)]; omega
theorem floor_pos {n : Int} {d : Nat} (hn : ¬ n < 0) : sg false (n.natAbs / d) = n / (d : Int) := by
  have h1 : n = ((n.natAbs : Nat) : Int) := by omega
  simp only [sg, cond_false]
  rw [Int.natCast_ediv, ← h1]

theorem impl_floor {q : Rat} (hm : (dg q.num.natAbs).length ≤ 24) (hd : (dg q.den).length ≤ 24) : ∃ r, M_impl_bigFloor ⟨decide (q.num < 0), dg q.num.natAbs⟩ (dg q.den) = some (bg (q.num / (q.den : Int)), r) := by
  unfold M_impl_bigFloor
  have hpos : 0 < q.den := Nat.pos_of_ne_zero q.den_nz
  have hq := Nat.le_trans (len_dg_mono (Nat.div_le_self q.num.natAbs q.den)) hm
  simp only []
  rw [impl_div (by omega) (by omega) hpos, Option.bind_some]
  by_cases h : q.num < 0
  · rw [decide_eq_true h]
    simp only [Bool.not_true, cond_false, dg_lenpos]
    have hf := floor_neg hpos h
    by_cases hr : q.num.natAbs % q.den = 0
    · rw [decide_eq_false (by omega), cond_false, impl_signed, Option.bind_some]
      rw [if_pos hr, Nat.add_zero] at hf
      rw [hf]; exact ⟨_, rfl⟩
    · rw [decide_eq_true (by omega), cond_true, ← dg_one1, impl_add (by omega) (by rw [dg_one1]; simp), Option.bind_some, impl_sub (by omega) (Nat.le_of_lt (Nat.mod_lt _ hpos)), Option.bind_some, impl_signed, Option.bind_some]
      rw [if_neg hr] at hf
      rw [hf]; exact ⟨_, rfl⟩
  · rw [decide_eq_false h]
    simp only [Bool.not_false, cond_true]
    rw [impl_signed, Option.bind_some, floor_pos h]; exact ⟨_, rfl⟩
theorem spec_trimc {m : Nat} (h : (dg m).length ≤ 1073741824) : M_spec_l02Trim_c (dg m) = some (dg m) := by rw [spec_trim h, dg_tz]
theorem spec_floor {q : Rat} (hm : (dg q.num.natAbs).length ≤ 24) (hd : (dg q.den).length ≤ 24) : M_spec_l09Floor (rq q) = some (bg (q.num / (q.den : Int))) := by
  unfold M_spec_l09Floor rq
  have hpos : 0 < q.den := Nat.pos_of_ne_zero q.den_nz
  have hq := Nat.le_trans (len_dg_mono (Nat.div_le_self q.num.natAbs q.den)) hm
  have hr := Nat.le_trans (len_dg_mono (Nat.mod_le q.num.natAbs q.den)) hm
  simp only []
  rw [spec_div (by omega) (by omega) hpos, Option.bind_some]
  simp only []
  rw [spec_trimc (by omega), Option.bind_some]
  by_cases h : q.num < 0
  · rw [decide_eq_true h]
    simp only [cond_true]
    have hf := floor_neg hpos h
    rw [spec_trimc (by omega), Option.bind_some, dg_lenpos]
    by_cases hr0 : q.num.natAbs % q.den = 0
    · rw [decide_eq_false (by omega), cond_false, spec_make _ (by omega), Option.bind_some]
      rw [if_pos hr0, Nat.add_zero] at hf
      rw [hf]
    · have h1 : (dg (q.num.natAbs / q.den + 1)).length ≤ 25 := len_dg_add hq (by rw [dg_one1]; simp)
      rw [decide_eq_true (by omega), cond_true, ← dg_one1, spec_add (by omega) (by rw [dg_one1]; simp), Option.bind_some, spec_trimc (by omega), Option.bind_some, spec_make _ (by omega), Option.bind_some]
      rw [if_neg hr0] at hf
      rw [hf]
  · rw [decide_eq_false h]
    simp only [cond_false]
    rw [spec_make _ (by omega), Option.bind_some, floor_pos h]

theorem half_fit : Fit (((1 : Int) : Rat) / ((2 : Int) : Rat)) := by
  have h := mk_div ((1 : Int) : Rat) ((2 : Int) : Rat) (by decide)
  rw [Rat.num_intCast, Rat.num_intCast, Rat.den_intCast, Rat.den_intCast] at h
  rw [← h]
  have e : sg (decide ((2 : Int) < 0)) 1 = 1 := rfl
  rw [e, fit_mk _ (d := 1 * (2 : Int).natAbs) (by decide)]
  have e1 : ((1 : Int) * 1).natAbs = 1 := rfl
  have e2 : (1 : Nat) * (2 : Int).natAbs = 2 := rfl
  rw [e1, e2, Nat.gcd_one_left, Nat.div_one, Nat.div_one, dg_one1, ← two_dg]; simp

noncomputable def rtO (q : Rat) (n : Int) : Option Rat := (addO (mulO (some q) (some (n : Rat))) (some (((1 : Int) : Rat) / ((2 : Int) : Rat)))).bind fun x => chk (mkRat (x.num / (x.den : Int)) n.toNat)
theorem ediv_len {n : Int} {d : Nat} (hd : 0 < d) (h : (dg n.natAbs).length ≤ 24) : (dg (n / (d : Int)).natAbs).length ≤ 25 := by
  have hle : (n / (d : Int)).natAbs ≤ n.natAbs + 1 := by
    have h1 := Int.mul_ediv_add_emod n (d : Int)
    have h2 := Int.emod_nonneg n (show (d : Int) ≠ 0 by omega)
    have h3 := Int.emod_lt_of_pos n (show (0 : Int) < d by omega)
    rcases Int.lt_or_le n 0 with hn | hn
    · have h4 : n / (d : Int) < 0 := Int.ediv_neg_of_neg_of_pos hn (by omega)
      have h5 : n * (d : Int) ≤ n * 1 := Int.mul_le_mul_of_nonpos_left (by omega) (show (1 : Int) ≤ d by omega)
      have h6 : n ≤ n / (d : Int) := Int.le_ediv_of_mul_le (by omega) (by omega)
      omega
    · have h4 := Int.ediv_nonneg hn (show (0 : Int) ≤ d by omega)
      have h5 := Int.ediv_le_self (d : Int) hn
      omega
  exact Nat.le_trans (len_dg_mono hle) (len_dg_add h (by rw [dg_one1]; simp))

theorem impl_round {q : Rat} (hq : Fit q) {n : Int} (h1 : 1 ≤ n) (h2 : n ≤ 1000000) : M_impl_RoundTo (rq q) n = some (ro (rtO q n)) := by
  unfold M_impl_RoundTo
  have hr : rq q = ro (some q) := rfl
  have fn := fit_int (n := n) (by omega) (by omega)
  rw [hr, impl_okO hq.ok, Option.bind_some, decide_eq_false (show ¬ n < 1 by omega), decide_eq_false (show ¬ n > 1000000 by omega)]
  simp only [Option.isSome_some, Bool.not_true, cond_false]
  rw [impl_whole (by omega) (by omega), Option.bind_some, impl_mulO hq.ok fn.ok, Option.bind_some, impl_ratOf (by omega) (by omega) (by omega) (by omega) (by omega), chk_fit half_fit, Option.bind_some, impl_addO oks_mulO half_fit.ok, Option.bind_some, impl_void, Option.bind_some]
  unfold rtO
  have ok := oks_addO (o := mulO (some q) (some (n : Rat))) (p := some (((1 : Int) : Rat) / ((2 : Int) : Rat)))
  generalize addO (mulO (some q) (some (n : Rat))) (some (((1 : Int) : Rat) / ((2 : Int) : Rat))) = o at *
  cases o with
  | none => rfl
  | some x =>
    have fx := ok x rfl
    simp only [Option.isNone_some, cond_false, Option.bind_some]
    obtain ⟨r, hr⟩ := impl_floor fx.1 fx.2
    show ((M_impl_bigFloor ⟨decide (x.num < 0), dg x.num.natAbs⟩ (dg x.den)).bind _) = _
    have hl := ediv_len (n := x.num) (Nat.pos_of_ne_zero x.den_nz) fx.1
    have hs := len_small (show n.toNat ≤ 9223372036854775807 by omega)
    rw [hr, Option.bind_some]
    simp only []
    rw [impl_natOf (by omega), Option.bind_some, impl_lowest (by omega) (by omega) (by omega), Option.bind_some]
theorem spec_round {q : Rat} (hq : Fit q) {n : Int} (h1 : 1 ≤ n) (h2 : n ≤ 1000000) : M_spec_RoundTo (rq q) n = some (ro (rtO q n)) := by
  unfold M_spec_RoundTo M_spec_l01In
  have hr : rq q = ro (some q) := rfl
  have fn := fit_int (n := n) (by omega) (by omega)
  rw [hr, spec_okO hq.ok, Option.bind_some, decide_eq_true (show n ≥ 1 by omega), decide_eq_true (show n ≤ 1000000 by omega)]
  simp only [Option.isSome_some, Bool.not_true, cond_false, cond_true, Option.bind_some]
  rw [spec_ratInt (by omega) (by omega), Option.bind_some, spec_mulO hq.ok fn.ok, Option.bind_some, spec_ratOf (by omega) (by omega) (by omega) (by omega) (by omega), chk_fit half_fit, Option.bind_some, spec_addO oks_mulO half_fit.ok, Option.bind_some, spec_badO, Option.bind_some]
  unfold rtO
  have ok := oks_addO (o := mulO (some q) (some (n : Rat))) (p := some (((1 : Int) : Rat) / ((2 : Int) : Rat)))
  generalize addO (mulO (some q) (some (n : Rat))) (some (((1 : Int) : Rat) / ((2 : Int) : Rat))) = o at *
  cases o with
  | none => rfl
  | some x =>
    have fx := ok x rfl
    simp only [Option.isNone_some, cond_false, Option.bind_some]
    have hl := ediv_len (n := x.num) (Nat.pos_of_ne_zero x.den_nz) fx.1
    have hs := len_small (show n.toNat ≤ 9223372036854775807 by omega)
    rw [show ro (some x) = rq x from rfl, spec_floor fx.1 fx.2, Option.bind_some, spec_natOf (by omega), Option.bind_some]
    show ((M_spec_l04Low (decide (x.num / (x.den : Int) < 0)) (dg (x.num / (x.den : Int)).natAbs) (dg n.toNat)).bind _) = _
    rw [spec_low (by omega) (by omega) (by omega), Option.bind_some, sg_self]
theorem round_both {r : Rt} (hr : r.fit) (n : Int) : ∃ o, Oks o ∧ M_spec_RoundTo r n = some (ro o) ∧ M_impl_RoundTo r n = some (ro o) := by
  by_cases hg : Good r
  · obtain ⟨q, hf, rfl⟩ := hg
    by_cases h1 : 1 ≤ n
    · by_cases h2 : n ≤ 1000000
      · exact ⟨_, oks_bind fun _ => oks_chk _, spec_round hf h1 h2, impl_round hf h1 h2⟩
      · refine ⟨none, oks_none, ?_, ?_⟩
        · unfold M_spec_RoundTo M_spec_l01In
          rw [spec_ratOk hr, good_rq hf, decide_eq_true (show n ≥ 1 by omega), decide_eq_false h2]; rfl
        · unfold M_impl_RoundTo
          rw [impl_ratOk hr, good_rq hf, decide_eq_false (show ¬ n < 1 by omega), decide_eq_true (show n > 1000000 by omega)]; rfl
    · refine ⟨none, oks_none, ?_, ?_⟩
      · unfold M_spec_RoundTo M_spec_l01In
        rw [spec_ratOk hr, good_rq hf, decide_eq_false (show ¬ n ≥ 1 by omega)]; rfl
      · unfold M_impl_RoundTo
        rw [impl_ratOk hr, good_rq hf, decide_eq_true (show n < 1 by omega)]; rfl
  · refine ⟨none, oks_none, ?_, ?_⟩
    · unfold M_spec_RoundTo
      rw [spec_ratOk hr, pB_not.2 hg]; rfl
    · unfold M_impl_RoundTo
      rw [impl_ratOk hr, pB_not.2 hg]; rfl

/-! ### Roots of fractions -/
theorem fit_up {q : Rat} (hq : Fit q) {k : Nat} (hk : 0 < k) (h : Fit (q * ((k : Int) : Rat) * ((k : Int) : Rat))) : Fit (q * ((k : Int) : Rat)) := by
  -- the numerator grows, the denominator falls
  have mulk : ∀ a : Rat, a * ((k : Int) : Rat) = mkRat (a.num * k) a.den := fun a => by
    rw [← mk_mul, Rat.num_intCast, Rat.den_intCast, Nat.mul_one]
  have hden : (q * ((k : Int) : Rat)).den ≤ q.den := by
    rw [mulk, (mk_parts _ q.den_nz).2]
    exact Nat.div_le_self _ _
  refine ⟨?_, Nat.le_trans (len_dg_mono hden) hq.2⟩
  have hnum : ∀ a : Rat, a.num.natAbs ≤ (a * ((k : Int) : Rat)).num.natAbs := fun a => by
    rw [mulk, mk_abs _ a.den_nz, Int.natAbs_mul, Int.natAbs_natCast]
    have hg : Nat.gcd (a.num.natAbs * k) a.den = Nat.gcd k a.den := Nat.Coprime.gcd_mul_left_cancel k a.reduced
    rw [hg]
    have hpos : 0 < Nat.gcd k a.den := Nat.gcd_pos_of_pos_left _ hk
    rw [Nat.le_div_iff_mul_le hpos]
    exact Nat.mul_le_mul_left _ (Nat.gcd_le_left _ hk)
  exact Nat.le_trans (len_dg_mono (hnum _)) h.1
theorem mulO_twice {q : Rat} (hq : Fit q) {k : Nat} (hk : 0 < k) : mulO (mulO (some q) (some ((k : Int) : Rat))) (some ((k : Int) : Rat)) = mulO (some q) (some (((k * k : Nat) : Int) : Rat)) := by
  have e : q * (((k * k : Nat) : Int) : Rat) = q * ((k : Int) : Rat) * ((k : Int) : Rat) := by
    rw [Int.natCast_mul, Rat.intCast_mul, Rat.mul_assoc]
  have h2 : mulO (some q) (some (((k * k : Nat) : Int) : Rat)) = chk (q * ((k : Int) : Rat) * ((k : Int) : Rat)) := by
    show chk _ = _
    rw [e]
  rw [h2]
  show (chk (q * ((k : Int) : Rat))).bind (fun x => chk (x * ((k : Int) : Rat))) = _
  by_cases h : Fit (q * ((k : Int) : Rat))
  · rw [chk_fit h, Option.bind_some]
  · rw [chk_not h, chk_not (fun k2 => h (fit_up hq hk k2))]; rfl

noncomputable def rbO (q : Rat) : Option Rat := (mulO (some q) (some ((1000000000000 : Int) : Rat))).bind fun x => chk (mkRat ((rootN (x.num.natAbs / x.den) : Nat) : Int) 1000000)
theorem spec_rb {q : Rat} (hq : Fit q) (h0 : ¬ q.num < 0) : M_spec_RootBelow (rq q) = some (ro (rbO q)) := by
  unfold M_spec_RootBelow
  have hr : rq q = ro (some q) := rfl
  have hn : (rq q).neg = false := decide_eq_false h0
  rw [hn, hr, spec_okO hq.ok, Option.bind_some]
  simp only [Option.isSome_some, Bool.not_true, cond_false]
  rw [spec_ratInt (by omega) (by omega), Option.bind_some, spec_mulO hq.ok (fit_int (by omega) (by omega)).ok, Option.bind_some, spec_badO, Option.bind_some]
  unfold rbO
  have ok := oks_mulO (o := some q) (p := some ((1000000000000 : Int) : Rat))
  generalize mulO (some q) (some ((1000000000000 : Int) : Rat)) = o at *
  cases o with
  | none => rfl
  | some x =>
    have fx := ok x rfl
    simp only [Option.isNone_some, cond_false, Option.bind_some]
    show ((M_spec_l02Div (dg x.num.natAbs) (dg x.den)).bind _) = _
    have hl := Nat.le_trans (len_dg_mono (Nat.div_le_self x.num.natAbs x.den)) fx.1
    have hrl := root_len (a := x.num.natAbs / x.den)
    have hs : (dg 1000000).length ≤ 3 := len_small (by omega)
    rw [spec_div (by have := fx.1; omega) (by have := fx.2; omega) (Nat.pos_of_ne_zero x.den_nz), Option.bind_some]
    simp only []
    rw [spec_trimc (by omega), Option.bind_some, spec_root (by omega), Option.bind_some, spec_natOf (by omega), Option.bind_some, show (1000000 : Int).toNat = 1000000 from rfl, spec_low (by omega) (by omega) (by omega), Option.bind_some]
    rfl
theorem impl_rb {q : Rat} (hq : Fit q) (h0 : ¬ q.num < 0) : M_impl_RootBelow (rq q) = some (ro (rbO q)) := by
  unfold M_impl_RootBelow
  have hr : rq q = ro (some q) := rfl
  have hsg : ∃ s : Int, M_impl_sign (rq q) = some s ∧ decide (s < 0) = false := by
    rw [impl_signq, decide_eq_false h0, cond_false]
    cases decide (q.num ≠ 0) <;> exact ⟨_, rfl, rfl⟩
  obtain ⟨s, hs1, hs2⟩ := hsg
  have fm := fit_int (n := 1000000) (by omega) (by omega)
  have two := mulO_twice hq (k := 1000000) (by omega)
  rw [hs1, hr, impl_okO hq.ok, Option.bind_some, Option.bind_some, hs2]
  simp only [Option.isSome_some, Bool.not_true, cond_false]
  rw [impl_whole (by omega) (by omega), Option.bind_some, impl_mulO hq.ok fm.ok, Option.bind_some, Option.bind_some, impl_mulO oks_mulO fm.ok, Option.bind_some, impl_void, Option.bind_some]
  rw [show ((1000000 : Int) : Rat) = (((1000000 : Nat) : Int) : Rat) from rfl, two, show ((((1000000 * 1000000 : Nat)) : Int) : Rat) = ((1000000000000 : Int) : Rat) from rfl]
  unfold rbO
  have ok := oks_mulO (o := some q) (p := some ((1000000000000 : Int) : Rat))
  generalize mulO (some q) (some ((1000000000000 : Int) : Rat)) = o at *
  cases o with
  | none => rfl
  | some x =>
    have fx := ok x rfl
    simp only [Option.isNone_some, cond_false, Option.bind_some]
    show ((M_impl_natDiv (dg x.num.natAbs) (dg x.den)).bind _) = _
    have hl := Nat.le_trans (len_dg_mono (Nat.div_le_self x.num.natAbs x.den)) fx.1
    have hrl := root_len (a := x.num.natAbs / x.den)
    have hs : (dg 1000000).length ≤ 3 := len_small (by omega)
    rw [impl_div (by have := fx.1; omega) (by have := fx.2; omega) (Nat.pos_of_ne_zero x.den_nz), Option.bind_some]
    simp only []
    rw [impl_root (by omega), Option.bind_some, impl_signed, Option.bind_some, impl_natOf (by omega), Option.bind_some, show (1000000 : Int).toNat = 1000000 from rfl, impl_lowest (by omega) (by rw [sg_abs]; omega) (by omega), Option.bind_some]
    rfl
theorem rb_both {r : Rt} (hr : r.fit) : ∃ o, Oks o ∧ M_spec_RootBelow r = some (ro o) ∧ M_impl_RootBelow r = some (ro o) := by
  by_cases hg : Good r
  · obtain ⟨q, hf, rfl⟩ := hg
    by_cases h0 : q.num < 0
    · refine ⟨none, oks_none, ?_, ?_⟩
      · unfold M_spec_RootBelow
        rw [spec_ratOk hr, good_rq hf, show (rq q).neg = true from decide_eq_true h0]; rfl
      · unfold M_impl_RootBelow
        rw [impl_ratOk hr, good_rq hf, impl_signq, decide_eq_true h0]; rfl
    · exact ⟨_, oks_bind fun _ => oks_chk _, spec_rb hf h0, impl_rb hf h0⟩
  · refine ⟨none, oks_none, ?_, ?_⟩
    · unfold M_spec_RootBelow
      rw [spec_ratOk hr, pB_not.2 hg]; rfl
    · unfold M_impl_RootBelow
      rw [impl_ratOk hr, pB_not.2 hg]; rfl

/-! ### Readings -/
theorem cr_both {a b c : Rt} (ha : a.fit) (hb : b.fit) (hc : c.fit) : ∃ o, Oks o ∧ M_spec_CorrectReading a b c = some (ro o) ∧ M_impl_CorrectReading a b c = some (ro o) := by
  by_cases ga : Good a
  · by_cases gb : Good b
    · by_cases gc : Good c
      · obtain ⟨p, fp, rfl⟩ := ga
        obtain ⟨q, fq, rfl⟩ := gb
        obtain ⟨r, fr, rfl⟩ := gc
        have f1 := fit_int (n := 1) (by omega) (by omega)
        have f6 := fit_int (n := 1000000) (by omega) (by omega)
        refine ⟨addO (mulO (some p) (addO (some ((1 : Int) : Rat)) (divO (some r) (some ((1000000 : Int) : Rat))))) (some q), oks_addO, ?_, ?_⟩
        · unfold M_spec_CorrectReading
          rw [spec_ratOk ha, spec_ratOk hb, spec_ratOk hc, good_rq fp, good_rq fq, good_rq fr]
          simp only [Option.bind_some, Bool.not_true, cond_false]
          rw [spec_ratInt (by omega) (by omega), Option.bind_some, spec_ratInt (by omega) (by omega), Option.bind_some]
          show ((M_spec_l05Div (ro (some r)) _).bind fun r5 => (M_spec_l04Add _ r5).bind fun r6 => (M_spec_l04Mul (ro (some p)) r6).bind fun r7 => (M_spec_l04Add r7 (ro (some q))).bind _) = _
          rw [spec_divO fr.ok f6.ok, Option.bind_some, spec_addO f1.ok oks_divO, Option.bind_some, spec_mulO fp.ok oks_addO, Option.bind_some, spec_addO oks_mulO fq.ok, Option.bind_some]
        · unfold M_impl_CorrectReading M_impl_both
          rw [impl_ratOk ha, impl_ratOk hb, impl_ratOk hc, good_rq fp, good_rq fq, good_rq fr]
          simp only [Option.bind_some, Bool.not_true, cond_false, cond_true]
          rw [impl_whole (by omega) (by omega), Option.bind_some, impl_whole (by omega) (by omega), Option.bind_some]
          show ((M_impl_div (ro (some r)) _).bind fun r5 => (M_impl_add _ r5).bind fun r6 => (M_impl_mul (ro (some p)) r6).bind fun r7 => (M_impl_add r7 (ro (some q))).bind _) = _
          rw [impl_divO fr.ok f6.ok, Option.bind_some, impl_addO f1.ok oks_divO, Option.bind_some, impl_mulO fp.ok oks_addO, Option.bind_some, impl_addO oks_mulO fq.ok, Option.bind_some]
      · refine ⟨none, oks_none, ?_, ?_⟩
        · unfold M_spec_CorrectReading
          rw [spec_ratOk ha, spec_ratOk hb, spec_ratOk hc, pB_iff.2 ga, pB_iff.2 gb, pB_not.2 gc]; rfl
        · unfold M_impl_CorrectReading M_impl_both
          rw [impl_ratOk ha, impl_ratOk hb, impl_ratOk hc, pB_iff.2 ga, pB_iff.2 gb, pB_not.2 gc]; rfl
    · refine ⟨none, oks_none, ?_, ?_⟩
      · unfold M_spec_CorrectReading
        rw [spec_ratOk ha, spec_ratOk hb, pB_iff.2 ga, pB_not.2 gb]; rfl
      · unfold M_impl_CorrectReading M_impl_both
        rw [impl_ratOk ha, impl_ratOk hb, pB_iff.2 ga, pB_not.2 gb]; rfl
  · refine ⟨none, oks_none, ?_, ?_⟩
    · unfold M_spec_CorrectReading
      rw [spec_ratOk ha, pB_not.2 ga]; rfl
    · unfold M_impl_CorrectReading M_impl_both
      rw [impl_ratOk ha, pB_not.2 ga]; rfl
end Go.Di
/-
  Own work. Plain laws: the unknowns of a network.
-/
namespace Go.Di

def staU (plane : Bool) (e : Sta) : Nat := cond e.fixed 0 (cond plane 2 1)
/-- The unknowns of the first i stations. -/
def cntU (plane : Bool) (l : List Sta) : Nat → Nat
  | 0 => 0
  | i + 1 => cntU plane l i + (match l[i]? with
    | some e => staU plane e
    | none => 0)
theorem cntU_succ {plane : Bool} {l : List Sta} {i : Nat} (h : i < l.length) : cntU plane l (i + 1) = cntU plane l i + staU plane l[i] := by
  show cntU plane l i + _ = _
  rw [List.getElem?_eq_getElem h]
theorem cntU_le (plane : Bool) (l : List Sta) : ∀ i, cntU plane l i ≤ 2 * i
  | 0 => Nat.le_refl _
  | i + 1 => by
    have := cntU_le plane l i
    show cntU plane l i + _ ≤ _
    cases l[i]? with
    | none => simp only; omega
    | some e =>
      have h2 : staU plane e ≤ 2 := by unfold staU; cases e.fixed <;> cases plane <;> simp
      simp only; omega
theorem cntU_take (plane : Bool) (l : List Sta) (n : Nat) : ∀ i, i ≤ n → cntU plane (l.take n) i = cntU plane l i
  | 0, _ => rfl
  | i + 1, h => by
    show cntU plane (l.take n) i + _ = cntU plane l i + _
    rw [cntU_take plane l n i (by omega), List.getElem?_take_of_lt (by omega)]

theorem wrap_small {n : Int} (h : 0 ≤ n) (h2 : n ≤ 4611686018427387904) : IntKind.i64.wrap n = n := wrap_i64 (by omega) (by omega)
theorem impl_axes (p : Bool) : M_impl_axes p = some (cond p 2 1) := by unfold M_impl_axes; cases p <;> rfl
theorem spec_axes (n : Net) : M_spec_l10Axes n = some (cond n.plane 2 1) := by unfold M_spec_l10Axes; cases n.plane <;> rfl

theorem cnt_step {plane : Bool} {l : List Sta} {i : Nat} (h : i < l.length) (hl : l.length ≤ 1048576) : (cond (!l[i].fixed) (some (IntKind.i64.wrap ((cntU plane l i : Int) + cond plane 2 1))) (some (cntU plane l i : Int)) : Option Int) = some ((cntU plane l (i + 1) : Nat) : Int) := by
  have := cntU_le plane l i
  rw [cntU_succ h]
  unfold staU
  cases l[i].fixed with
  | true => simp
  | false =>
    cases plane <;> simp only [Bool.not_false, cond_true, cond_false] <;> rw [wrap_small (by omega) (by omega)] <;> congr 1

theorem spec_count10 {n : Net} (h : n.stations.length ≤ 1048576) : M_spec_l10Count n = some ((cntU n.plane n.stations n.stations.length : Nat) : Int) := by
  unfold M_spec_l10Count L_spec_l10Count_0
  have key := whileO_upto S_spec_l10Count_0 (fun i => (((cntU n.plane n.stations i : Nat) : Int), n.stations, (n.stations.length : Int), (i : Int), n.plane, n.stations, ())) n.stations.length (((cntU n.plane n.stations n.stations.length : Nat) : Int), ()) (fun i hi => by
    have hs := cnt_step (plane := n.plane) hi h
    simp only [S_spec_l10Count_0, dlt hi, cond_true, idx_at hi, Option.bind_some, spec_axes, succ_wrap hi h]
    cases hf : n.stations[i].fixed with
    | true => rw [hf] at hs; simp only [Bool.not_true, cond_false, Option.some.injEq] at hs ⊢; rw [hs]
    | false => rw [hf] at hs; simp only [Bool.not_false, cond_true, Option.some.injEq] at hs ⊢; rw [hs]) (by simp [S_spec_l10Count_0])
  exact congrArg (fun x => x.bind fun (k, _) => some k) key
theorem impl_count10 {n : Net} (h : n.stations.length ≤ 1048576) : M_impl_unknowns n = some ((cntU n.plane n.stations n.stations.length : Nat) : Int) := by
  unfold M_impl_unknowns L_impl_unknowns_0
  have key := whileO_upto S_impl_unknowns_0 (fun i => (((cntU n.plane n.stations i : Nat) : Int), n.stations, (n.stations.length : Int), (i : Int), n.plane, n.stations, ())) n.stations.length (((cntU n.plane n.stations n.stations.length : Nat) : Int), ()) (fun i hi => by
    have hs := cnt_step (plane := n.plane) hi h
    simp only [S_impl_unknowns_0, dlt hi, cond_true, idx_at hi, Option.bind_some, impl_axes, succ_wrap hi h]
    cases hf : n.stations[i].fixed with
    | true => rw [hf] at hs; simp only [Bool.not_true, cond_false, Option.some.injEq] at hs ⊢; rw [hs]
    | false => rw [hf] at hs; simp only [Bool.not_false, cond_true, Option.some.injEq] at hs ⊢; rw [hs]) (by simp [S_impl_unknowns_0])
  exact congrArg (fun x => x.bind fun (k, _) => some k) key

/-- The first unknown of station i. -/
def firstU (plane : Bool) (l : List Sta) (i : Nat) : Int := match l[i]? with
  | some e => cond e.fixed (-1) (cntU plane l i : Int)
  | none => -1
theorem firstU_at {plane : Bool} {l : List Sta} {i : Nat} (h : i < l.length) : firstU plane l i = cond l[i].fixed (-1) (cntU plane l i : Int) := by
  unfold firstU; rw [List.getElem?_eq_getElem h]
theorem firstU_le {plane : Bool} {l : List Sta} {i : Nat} (h : i < l.length) : firstU plane l i ≤ 2 * i := by
  rw [firstU_at h]
  have := cntU_le plane l i
  cases l[i].fixed <;> simp only [cond_true, cond_false] <;> omega
theorem firstU_ge {plane : Bool} {l : List Sta} {i : Nat} (h : i < l.length) : -1 ≤ firstU plane l i := by
  rw [firstU_at h]
  cases l[i].fixed <;> simp only [cond_true, cond_false] <;> omega

theorem impl_first {n : Net} {i : Nat} (h : n.stations.length ≤ 1048576) (hi : i < n.stations.length) : M_impl_unknownOf n (i : Int) = some (firstU n.plane n.stations i) := by
  unfold M_impl_unknownOf
  rw [idx_at hi, Option.bind_some, firstU_at hi]
  cases n.stations[i].fixed with
  | true => rfl
  | false =>
    have hc : cut n.stations 0 i = n.stations.take i := by simp [cut]
    rw [cond_false, cond_false, inside_cut _ _ (by omega), Option.bind_some, Int.toNat_natCast, hc, impl_count10 (by simp; omega), Option.bind_some]
    simp only []
    rw [List.length_take, Nat.min_eq_left (by omega), cntU_take _ _ _ _ (Nat.le_refl _)]
theorem spec_first10 {n : Net} {i : Nat} (h : n.stations.length ≤ 1048576) (hi : i < n.stations.length) : M_spec_l10First n (i : Int) = some (firstU n.plane n.stations i) := by
  unfold M_spec_l10First L_spec_l10First_0
  have key := whileO_upto S_spec_l10First_0 (fun j => ((i : Int), ((cntU n.plane n.stations j : Nat) : Int), n.stations, (n.stations.length : Int), (j : Int), n.plane, n.stations, ())) i (.inl (firstU n.plane n.stations i, ())) (fun j hj => by
    have hjl : j < n.stations.length := by omega
    have hs := cnt_step (plane := n.plane) hjl h
    have hne : ((j : Int) == (i : Int)) = false := by rw [beq_eq_false_iff_ne]; omega
    simp only [S_spec_l10First_0, dlt hjl, cond_true, idx_at hjl, Option.bind_some, spec_axes, succ_wrap hjl h, hne, cond_false]
    cases hf : n.stations[j].fixed with
    | true => rw [hf] at hs; simp only [Bool.not_true, cond_false, Option.some.injEq] at hs ⊢; rw [hs]
    | false => rw [hf] at hs; simp only [Bool.not_false, cond_true, Option.some.injEq] at hs ⊢; rw [hs]) (by
    have he : ((i : Int) == (i : Int)) = true := by simp
    simp only [S_spec_l10First_0, dlt hi, cond_true, idx_at hi, Option.bind_some, he, firstU_at hi]
    cases n.stations[i].fixed <;> rfl)
  have := congrArg (fun x : Option ((Int × Unit) ⊕ Unit) => x.bind fun r => match r with
    | .inl (t, _) => some t
    | .inr _ => some (-1)) key
  exact this

theorem spec_countU {n : Net} (h : lfit Sta.fitN n.stations) : M_spec_CountUnknowns n = some (cond (netB n) ((cntU n.plane n.stations n.stations.length : Nat) : Int) 0) := by
  unfold M_spec_CountUnknowns
  rw [spec_netOk h, Option.bind_some]
  cases netB n with
  | false => rfl
  | true => simp only [Bool.not_true, cond_false, cond_true]; rw [spec_count10 h.1]; rfl
theorem impl_countU {n : Net} (h : lfit Sta.fitN n.stations) : M_impl_CountUnknowns n = some (cond (netB n) ((cntU n.plane n.stations n.stations.length : Nat) : Int) 0) := by
  unfold M_impl_CountUnknowns
  rw [impl_netOk (fitN_fit h), Option.bind_some]
  cases netB n with
  | false => rfl
  | true => simp only [Bool.not_true, cond_false, cond_true]; rw [impl_count10 h.1]; rfl

noncomputable def unkOf (n : Net) (s : Int) : Int := cond (netB n && (decide (0 ≤ s) && decide (s < n.stations.length))) (firstU n.plane n.stations s.toNat) (-1)
theorem spec_unkOf {n : Net} (h : lfit Sta.fitN n.stations) (s : Int) : M_spec_UnknownOf n s = some (unkOf n s) := by
  unfold M_spec_UnknownOf unkOf
  rw [spec_netOk h, Option.bind_some, spec_in]
  cases netB n with
  | false => rfl
  | true =>
    have hl := h.1
    have e : inB s 0 (IntKind.i64.wrap ((n.stations.length : Int) - 1)) = (decide (0 ≤ s) && decide (s < n.stations.length)) := by
      rw [wrap_i64 (by omega) (by omega)]
      unfold inB
      rw [Bool.eq_iff_iff]; simp; omega
    simp only [Bool.not_true, cond_false, Option.bind_some, e, Bool.true_and]
    cases hb : (decide (0 ≤ s) && decide (s < n.stations.length)) with
    | false => rfl
    | true =>
      simp only [Bool.and_eq_true, decide_eq_true_eq] at hb
      obtain ⟨m, rfl⟩ : ∃ m : Nat, s = (m : Int) := ⟨s.toNat, by omega⟩
      simp only [Bool.not_true, cond_false, cond_true]
      rw [spec_first10 hl (by omega), Option.bind_some, Int.toNat_natCast]
theorem impl_unkOf {n : Net} (h : lfit Sta.fitN n.stations) (s : Int) : M_impl_UnknownOf n s = some (unkOf n s) := by
  unfold M_impl_UnknownOf unkOf
  rw [impl_netOk (fitN_fit h), Option.bind_some]
  cases netB n with
  | false => rfl
  | true =>
    have hl := h.1
    simp only [Bool.not_true, cond_false, Bool.true_and]
    by_cases h1 : 0 ≤ s
    · rw [decide_eq_false (show ¬ s < 0 by omega), decide_eq_true h1, cond_false]
      by_cases h2 : s < n.stations.length
      · rw [decide_eq_false (show ¬ s ≥ n.stations.length by omega), decide_eq_true h2]
        obtain ⟨m, rfl⟩ : ∃ m : Nat, s = (m : Int) := ⟨s.toNat, by omega⟩
        simp only [cond_false, cond_true, Bool.true_and]
        rw [impl_first hl (by omega), Option.bind_some, Int.toNat_natCast]
      · rw [decide_eq_true (show s ≥ n.stations.length by omega), decide_eq_false h2]; rfl
    · rw [decide_eq_true (show s < 0 by omega), decide_eq_false h1]; rfl

/-- The name of unknown k, if it is one of station i. -/
def unkName (n : Net) (k : Int) (i : Nat) : Option ByteArray := match n.stations[i]? with
  | some e => cond (decide (firstU n.plane n.stations i ≥ 0)) (cond (firstU n.plane n.stations i == k) (some (e.name ++ (⟨#[46, 120]⟩ : ByteArray))) (cond n.plane (cond (firstU n.plane n.stations i + 1 == k) (some (e.name ++ (⟨#[46, 121]⟩ : ByteArray))) none) none)) none
  | none => none
def nameU (n : Net) (k : Int) : ByteArray := ((List.range n.stations.length).findSome? (unkName n k)).getD ⟨#[]⟩
theorem room_str {s : ByteArray} (h : s.size ≤ 1048576) (a b : UInt8) : guardO (Nat.ble (s.size + ((⟨#[a, b]⟩ : ByteArray).size)) 4611686018427387904) = some () := by
  have h2 : ((⟨#[a, b]⟩ : ByteArray).size) = 2 := rfl
  have : Nat.ble (s.size + ((⟨#[a, b]⟩ : ByteArray).size)) 4611686018427387904 = true := by rw [Nat.ble_eq, h2]; omega
  rw [this]; rfl
theorem name_end {l : List Nat} {f : Nat → Option ByteArray} : (match (l.findSome? fun i => (f i).map (Sum.inl (β := Unit) ∘ fun b => (b, ()))).getD (.inr ()) with
    | .inl (t, _) => some t
    | .inr _ => some (⟨#[]⟩ : ByteArray)) = some ((l.findSome? f).getD ⟨#[]⟩) := by
  induction l with
  | nil => rfl
  | cons i l ih =>
    simp only [List.findSome?_cons]
    cases f i with
    | none => exact ih
    | some b => rfl
theorem spec_nameLoop {n : Net} (h : lfit Sta.fitN n.stations) (k : Int) : ((L_spec_NameOfUnknown_0 k n.stations (n.stations.length : Int) 0 n.plane n.stations).bind fun r1 =>
    match r1 with
    | .inl (t, _) => some t
    | .inr _ => some (⟨#[]⟩ : ByteArray)) = some (nameU n k) := by
  unfold L_spec_NameOfUnknown_0
  have key := find_loop (S := S_spec_NameOfUnknown_0) (fun i => (k, n.stations, (n.stations.length : Int), (i : Int), n.plane, n.stations, ())) n.stations.length (fun i => (unkName n k i).map (Sum.inl (β := Unit) ∘ fun b => (b, ()))) (.inr ()) (fun i hi => by
    have hf := spec_first10 (n := ⟨n.plane, n.stations⟩) h.1 hi
    have hle := firstU_le (plane := n.plane) hi
    have hge := firstU_ge (plane := n.plane) hi
    have hl := h.1
    have hn := (h.2 _ (List.getElem_mem hi)).2
    have hw : IntKind.i64.wrap (firstU n.plane n.stations i + 1) = firstU n.plane n.stations i + 1 := wrap_i64 (by omega) (by omega)
    simp only [S_spec_NameOfUnknown_0, dlt hi, cond_true, idx_at hi, Option.bind_some, hf, succ_wrap hi h.1, hw, room_str hn, unkName, List.getElem?_eq_getElem hi]
    cases hg : decide (firstU n.plane n.stations i ≥ 0) <;> cases hk : firstU n.plane n.stations i == k <;> cases hp : n.plane <;> rw [hp] at hg hk <;> simp only [cond_true, cond_false] <;> first
      | rfl
      | (cases hk1 : (firstU true n.stations i + 1 == k) <;> simp only [cond_true, cond_false] <;> rfl)) (by simp [S_spec_NameOfUnknown_0])
  rw [show ((0 : Int)) = ((0 : Nat) : Int) from rfl, key, Option.bind_some]
  exact name_end
theorem impl_nameLoop {n : Net} (h : lfit Sta.fitN n.stations) (k : Int) : ((L_impl_NameOfUnknown_0 k n.stations (n.stations.length : Int) 0 n.plane n.stations).bind fun r1 =>
    match r1 with
    | .inl (t, _) => some t
    | .inr _ => some (⟨#[]⟩ : ByteArray)) = some (nameU n k) := by
  unfold L_impl_NameOfUnknown_0
  have key := find_loop (S := S_impl_NameOfUnknown_0) (fun i => (k, n.stations, (n.stations.length : Int), (i : Int), n.plane, n.stations, ())) n.stations.length (fun i => (unkName n k i).map (Sum.inl (β := Unit) ∘ fun b => (b, ()))) (.inr ()) (fun i hi => by
    have hf := impl_first (n := ⟨n.plane, n.stations⟩) h.1 hi
    have hle := firstU_le (plane := n.plane) hi
    have hge := firstU_ge (plane := n.plane) hi
    have hl := h.1
    have hn := (h.2 _ (List.getElem_mem hi)).2
    have hw : IntKind.i64.wrap (firstU n.plane n.stations i + 1) = firstU n.plane n.stations i + 1 := wrap_i64 (by omega) (by omega)
    simp only [S_impl_NameOfUnknown_0, dlt hi, cond_true, idx_at hi, Option.bind_some, hf, succ_wrap hi h.1, hw, room_str hn, unkName, List.getElem?_eq_getElem hi]
    cases hg : decide (firstU n.plane n.stations i ≥ 0) <;> cases hk : firstU n.plane n.stations i == k <;> cases hp : n.plane <;> rw [hp] at hg hk <;> simp only [cond_true, cond_false] <;> first
      | rfl
      | (cases hk1 : (firstU true n.stations i + 1 == k) <;> simp only [cond_true, cond_false] <;> rfl)) (by simp [S_impl_NameOfUnknown_0])
  rw [show ((0 : Int)) = ((0 : Nat) : Int) from rfl, key, Option.bind_some]
  exact name_end
theorem nameU_neg {n : Net} {k : Int} (hk : k < 0) : nameU n k = ⟨#[]⟩ := by
  unfold nameU
  have : (List.range n.stations.length).findSome? (unkName n k) = none := by
    rw [List.findSome?_eq_none_iff]
    intro i hi
    have hi := List.mem_range.1 hi
    unfold unkName
    rw [List.getElem?_eq_getElem hi]
    cases hg : decide (firstU n.plane n.stations i ≥ 0) with
    | false => simp only [cond_false]
    | true =>
      have hg' := of_decide_eq_true hg
      have e1 : (firstU n.plane n.stations i == k) = false := by rw [beq_eq_false_iff_ne]; omega
      have e2 : (firstU n.plane n.stations i + 1 == k) = false := by rw [beq_eq_false_iff_ne]; omega
      simp only [e1, e2, cond_true, cond_false]
      cases n.plane <;> rfl
  rw [this]; rfl
theorem spec_nameU {n : Net} (h : lfit Sta.fitN n.stations) (k : Int) : M_spec_NameOfUnknown n k = some (cond (netB n) (nameU n k) ⟨#[]⟩) := by
  unfold M_spec_NameOfUnknown
  rw [spec_netOk h, Option.bind_some]
  cases netB n with
  | false => rfl
  | true => simp only [Bool.not_true, cond_false, cond_true]; exact spec_nameLoop h k
theorem impl_nameU {n : Net} (h : lfit Sta.fitN n.stations) (k : Int) : M_impl_NameOfUnknown n k = some (cond (netB n) (nameU n k) ⟨#[]⟩) := by
  unfold M_impl_NameOfUnknown
  rw [impl_netOk (fitN_fit h), Option.bind_some]
  cases netB n with
  | false => rfl
  | true =>
    simp only [Bool.not_true, cond_false, cond_true]
    by_cases hk : k < 0
    · rw [decide_eq_true hk, cond_true, nameU_neg hk]
    · rw [decide_eq_false hk, cond_false]; exact impl_nameLoop h k
end Go.Di
/-
  Own work. Plain laws: observations that are valid.
-/
namespace Go.Di

/-- The sign of a valid fraction, in the reference. -/
theorem spec_signq {q : Rat} (h : Fit q) : M_spec_RatSign (rq q) = some (cond (decide (q.num < 0)) (-1) (cond (decide (q.num ≠ 0)) 1 0)) := by
  unfold M_spec_RatSign
  have hf : (rq q).fit := ro_fit h.ok
  rw [spec_ratOk hf, good_rq h, Option.bind_some]
  show cond (!true) _ (cond (((dg q.num.natAbs).length : Int) == 0) _ (cond (decide (q.num < 0)) _ _)) = _
  rw [dg_len0]
  by_cases h0 : q.num = 0
  · rw [decide_eq_true (show q.num.natAbs = 0 by omega), decide_eq_false (show ¬ q.num < 0 by omega), decide_eq_false (show ¬ q.num ≠ 0 by omega)]; rfl
  · rw [decide_eq_false (show ¬ q.num.natAbs = 0 by omega), decide_eq_true h0]
    cases decide (q.num < 0) <;> rfl
/-- A valid fraction over 0. -/
noncomputable def posB (r : Rt) : Bool := pB (∃ q : Rat, Fit q ∧ r = rq q ∧ 0 < q.num)
theorem posB_rq {q : Rat} (h : Fit q) : posB (rq q) = decide (0 < q.num) := by
  unfold posB
  rw [← pB_dec]
  refine pB_congr ⟨?_, fun h0 => ⟨q, h, rfl, h0⟩⟩
  rintro ⟨p, _, h1, h2⟩
  rw [rq_inj h1]; exact h2
theorem posB_good {r : Rt} (h : ¬ Good r) : posB r = false := by
  unfold posB
  rw [pB_not]
  rintro ⟨q, h1, h2, _⟩
  exact h ⟨q, h1, h2⟩
theorem spec_pos {r : Rt} (hf : r.fit) : ∃ s : Int, M_spec_RatSign r = some s ∧ decide (s > 0) = posB r := by
  by_cases hg : Good r
  · obtain ⟨q, h1, rfl⟩ := hg
    rw [spec_signq h1, posB_rq h1]
    refine ⟨_, rfl, ?_⟩
    by_cases h2 : q.num < 0
    · rw [decide_eq_true h2, decide_eq_false (show ¬ 0 < q.num by omega)]; rfl
    · rw [decide_eq_false h2]
      by_cases h3 : q.num = 0
      · rw [decide_eq_false (show ¬ q.num ≠ 0 by omega), decide_eq_false (show ¬ 0 < q.num by omega)]; rfl
      · rw [decide_eq_true h3, decide_eq_true (show 0 < q.num by omega)]; rfl
  · unfold M_spec_RatSign
    rw [spec_ratOk hf, pB_not.2 hg, posB_good hg]; exact ⟨0, rfl, rfl⟩
theorem impl_posq {q : Rat} (h1 : Fit q) : ∃ s : Int, M_impl_sign (rq q) = some s ∧ decide (s > 0) = posB (rq q) ∧ decide (s ≤ 0) = !posB (rq q) := by
  rw [impl_signq, posB_rq h1]
  refine ⟨_, rfl, ?_⟩
  by_cases h2 : q.num < 0
  · rw [decide_eq_true h2, decide_eq_false (show ¬ 0 < q.num by omega)]; exact ⟨rfl, rfl⟩
  · rw [decide_eq_false h2]
    by_cases h3 : q.num = 0
    · rw [decide_eq_false (show ¬ q.num ≠ 0 by omega), decide_eq_false (show ¬ 0 < q.num by omega)]; exact ⟨rfl, rfl⟩
    · rw [decide_eq_true h3, decide_eq_true (show 0 < q.num by omega)]; exact ⟨rfl, rfl⟩

/-- The end of both checks: the value, the sign of a distance, the variance. -/
noncomputable def endB (o : Obs) : Bool := pB (Good o.value) && ((!(o.kind == 7) || posB o.value) && posB o.variance)
theorem spec_end {o : Obs} (h : o.fit) : ((M_spec_RatOk o.value).bind fun r5 =>
      cond r5
        (cond (o.kind != 7)
          ((M_spec_RatSign o.variance).bind fun r6 =>
          some (decide (r6 > 0)))
          ((M_spec_RatSign o.value).bind fun r6 =>
          cond (decide (r6 > 0))
            ((M_spec_RatSign o.variance).bind fun r7 =>
            some (decide (r7 > 0)))
            (some false)))
        (some false)) = some (endB o) := by
  obtain ⟨s, h1, h2⟩ := spec_pos h.1
  obtain ⟨t, h3, h4⟩ := spec_pos h.2
  unfold endB
  rw [spec_ratOk h.1, h1, h3]
  simp only [Option.bind_some, h2, h4]
  rw [show (o.kind != 7) = !(o.kind == 7) from rfl]
  cases pB (Good o.value) <;> cases (o.kind == 7) <;> cases posB o.value <;> cases posB o.variance <;> rfl
theorem impl_end {o : Obs} (h : o.fit) : ((M_impl_RatOk o.value).bind fun r1 =>
      cond (!r1)
        (some false)
        (cond (o.kind == 7)
          ((M_impl_sign o.value).bind fun r2 =>
          cond (decide (r2 ≤ 0))
            (some false)
            ((M_impl_RatOk o.variance).bind fun r3 =>
            cond r3
              ((M_impl_sign o.variance).bind fun r4 =>
              some (decide (r4 > 0)))
              (some false)))
          ((M_impl_RatOk o.variance).bind fun r2 =>
          cond r2
            ((M_impl_sign o.variance).bind fun r3 =>
            some (decide (r3 > 0)))
            (some false)))) = some (endB o) := by
  have hv : ((M_impl_RatOk o.variance).bind fun r3 => cond r3 ((M_impl_sign o.variance).bind fun r4 => some (decide (r4 > 0))) (some false)) = some (posB o.variance) := by
    rw [impl_ratOk h.2, Option.bind_some]
    by_cases hg : Good o.variance
    · rw [pB_iff.2 hg, cond_true]
      obtain ⟨q, h1, h2⟩ := hg
      rw [h2]
      obtain ⟨s, k1, k2, _⟩ := impl_posq h1
      rw [k1, Option.bind_some, k2]
    · rw [pB_not.2 hg, posB_good hg]; rfl
  unfold endB
  rw [hv, impl_ratOk h.1, Option.bind_some]
  by_cases hg : Good o.value
  · rw [pB_iff.2 hg]
    simp only [Bool.not_true, cond_false, Bool.true_and]
    obtain ⟨q, h1, h2⟩ := hg
    rw [h2]
    obtain ⟨s, k1, _, k3⟩ := impl_posq h1
    rw [k1, Option.bind_some, k3]
    cases (o.kind == 7) <;> cases posB (rq q) <;> cases posB o.variance <;> rfl
  · rw [pB_not.2 hg]; rfl

def betB (k : Int) : Bool := k == 2 || (decide (k ≥ 5) && decide (k ≤ 8))
theorem spec_bet (k : Int) : M_spec_IsBetween k = some (betB k) := by
  unfold M_spec_IsBetween M_spec_l01In betB
  cases (k == 2) <;> cases decide (k ≥ 5) <;> rfl
theorem impl_bet (k : Int) : M_impl_IsBetween k = some (betB k) := by
  unfold M_impl_IsBetween betB
  cases (k == 2) <;> cases decide (k ≥ 5) <;> rfl
def fitsB (k : Int) (plane : Bool) : Bool := cond plane (inB k 3 8) (inB k 1 2)
theorem spec_fits (k : Int) (plane : Bool) : M_spec_l11Fits k plane = some (fitsB k plane) := by
  unfold M_spec_l11Fits fitsB
  rw [spec_in, spec_in]
  cases plane <;> rfl
noncomputable def obsB (n : Net) (o : Obs) : Bool :=
  fitsB o.kind n.plane && ((decide (0 ≤ o.frm) && decide (o.frm < n.stations.length)) && (cond (betB o.kind) ((decide (0 ≤ o.to) && decide (o.to < n.stations.length)) && !(o.to == o.frm)) (o.to == 0) && endB o))
theorem inB_len {x : Int} {n : Nat} (h : n ≤ 1048576) : inB x 0 (IntKind.i64.wrap ((n : Int) - 1)) = (decide (0 ≤ x) && decide (x < n)) := by
  rw [wrap_i64 (by omega) (by omega)]
  unfold inB
  rw [Bool.eq_iff_iff]; simp; omega
theorem spec_obsOk {n : Net} {o : Obs} (hn : n.stations.length ≤ 1048576) (h : o.fit) : M_spec_l11Ok n o = some (obsB n o) := by
  have he := spec_end h
  unfold M_spec_l11Ok obsB
  simp only [spec_fits, spec_in, spec_bet, Option.bind_some, inB_len hn, he]
  rw [show (o.to != 0) = !(o.to == 0) from rfl]
  cases fitsB o.kind n.plane <;> cases (decide (0 ≤ o.frm) && decide (o.frm < n.stations.length)) <;> cases betB o.kind <;> cases (decide (0 ≤ o.to) && decide (o.to < n.stations.length)) <;> cases (o.to == o.frm) <;> cases (o.to == 0) <;> cases endB o <;> rfl
theorem impl_obsFits {n : Net} {o : Obs} (h : o.fit) : M_impl_observationFits n o = some (obsB n o) := by
  have he := impl_end h
  unfold M_impl_observationFits obsB
  simp only [impl_bet, Option.bind_some, he]
  rw [show (o.to != 0) = !(o.to == 0) from rfl]
  have hk : fitsB o.kind n.plane = (decide (o.kind ≥ 1) && (decide (o.kind ≤ 8) && !(n.plane == decide (o.kind ≤ 2)))) := by
    unfold fitsB inB
    cases n.plane with
    | true => rw [Bool.eq_iff_iff]; simp; omega
    | false => rw [Bool.eq_iff_iff]; simp; omega
  rw [hk, lt_not o.kind 1, gt_not o.kind 8, ge_le o.kind 1, lt_not o.frm 0, lt_not o.to 0]
  have g1 : decide (o.frm ≥ (n.stations.length : Int)) = !decide (o.frm < (n.stations.length : Int)) := by rw [Bool.eq_iff_iff]; simp
  have g2 : decide (o.to ≥ (n.stations.length : Int)) = !decide (o.to < (n.stations.length : Int)) := by rw [Bool.eq_iff_iff]; simp
  rw [g1, g2]
  cases decide (1 ≤ o.kind) <;> cases decide (o.kind ≤ 8) <;> cases (n.plane == decide (o.kind ≤ 2)) <;> cases decide (0 ≤ o.frm) <;> cases decide (o.frm < (n.stations.length : Int)) <;> cases betB o.kind <;> cases decide (0 ≤ o.to) <;> cases decide (o.to < (n.stations.length : Int)) <;> cases (o.to == o.frm) <;> cases (o.to == 0) <;> cases endB o <;> rfl
theorem spec_obsOk' {n : Net} {o : Obs} (hn : lfit Sta.fitN n.stations) (h : o.fit) : M_spec_ObservationOk n o = some (netB n && obsB n o) := by
  unfold M_spec_ObservationOk
  exact bind_and (spec_netOk hn) (by rw [spec_obsOk hn.1 h]; rfl)
theorem impl_obsOk' {n : Net} {o : Obs} (hn : lfit Sta.fitN n.stations) (h : o.fit) : M_impl_ObservationOk n o = some (netB n && obsB n o) := by
  unfold M_impl_ObservationOk
  exact bind_and (impl_netOk (fitN_fit hn)) (by rw [impl_obsFits h]; rfl)
end Go.Di
