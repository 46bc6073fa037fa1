/-
  Own work: part 7 of the texts that the proof of the given statement leans on.
-/
import Derived.Test.YtmkoafebmfoeaaaZMatrixOkP05
/-
  Own work. Plain laws: the greatest common divisor in the program.
-/
namespace Go.Di

theorem impl_gcd {m n : Nat} (hm : (dg m).length ≤ 100000000) (hn : (dg n).length ≤ 100000000) (h0 : 0 < m) : M_impl_natGcd (dg m) (dg n) = some (dg (Nat.gcd m n)) := by
  unfold M_impl_natGcd L_impl_natGcd_0
  obtain ⟨r, h1, p, q, rfl, hg, hp0, hpl, hq⟩ := whileO_meas (S := S_impl_natGcd_0) (fun x => ∃ p q : Nat, x = (dg p, dg q, ()) ∧ Nat.gcd p q = Nat.gcd m n ∧ (p = 0 → 2 ≤ (dg q).length) ∧ (dg p).length ≤ 100000000 ∧ (dg q).length ≤ 100000000) (fun x => (nv x.2.1).toNat)
    (fun r => ∃ p q : Nat, r = (dg p, dg q, ()) ∧ Nat.gcd p q = Nat.gcd m n ∧ 0 < p ∧ (dg p).length ≤ 100000000 ∧ (q = 0 ∨ (dg p).length ≤ 1 ∧ (dg q).length = 1))
    (fun x hx => by
      obtain ⟨p, q, rfl, hg, hp, hpl, hql⟩ := hx
      have hstep : 0 < q → (∃ y, ((M_impl_natDiv (dg p) (dg q)).bind fun (r0, r1) => (some (Sum.inl (dg q, r1, ())) : Option ((List Int × List Int × Unit) ⊕ (List Int × List Int × Unit)))) = some (.inl y) ∧ (∃ p' q' : Nat, y = (dg p', dg q', ()) ∧ Nat.gcd p' q' = Nat.gcd m n ∧ (p' = 0 → 2 ≤ (dg q').length) ∧ (dg p').length ≤ 100000000 ∧ (dg q').length ≤ 100000000) ∧ (nv y.2.1).toNat < (nv (dg q)).toNat) := by
        intro hq0
        rw [impl_div hpl hql hq0]
        refine ⟨_, rfl, ⟨q, p % q, rfl, ?_, fun e => by omega, hql, ?_⟩, ?_⟩
        · rw [← hg, Nat.gcd_comm p q, Nat.gcd_rec q p, Nat.gcd_comm]
        · exact Nat.le_trans (len_dg_mono (Nat.mod_le p q)) hpl
        · simp only [nv_dg, Int.toNat_natCast]; exact Nat.mod_lt _ hq0
      by_cases hb : 1 < (dg q).length
      · left
        have hq0 : 0 < q := by
          rcases Nat.eq_zero_or_pos q with h | h
          · subst h; rw [dg_zero] at hb; simp at hb
          · exact h
        have e1 : decide (((dg q).length : Int) > 1) = true := by simp only [decide_eq_true_eq]; omega
        simp only [S_impl_natGcd_0, e1, cond_true]
        exact hstep hq0
      · have e1 : decide (((dg q).length : Int) > 1) = false := by simp only [decide_eq_false_iff_not]; omega
        have hpos : 0 < p := by
          rcases Nat.eq_zero_or_pos p with h | h
          · have := hp h; omega
          · exact h
        by_cases ha : 1 < (dg p).length
        · have e2 : decide (((dg p).length : Int) > 1) = true := by simp only [decide_eq_true_eq]; omega
          by_cases hq0 : q = 0
          · right
            subst hq0
            refine ⟨(dg p, dg 0, ()), ?_, p, 0, rfl, hg, hpos, hpl, .inl rfl⟩
            simp only [S_impl_natGcd_0, e1, e2, cond_true, cond_false]
            simp [dg_zero]
          · left
            have hqn : dg q ≠ [] := fun e => hq0 (dg_nil.1 e)
            have e3 : decide (((dg q).length : Int) > 0) = true := by have := List.length_pos_iff.2 hqn; simp only [decide_eq_true_eq]; omega
            simp only [S_impl_natGcd_0, e1, e2, e3, cond_true, cond_false]
            exact hstep (by omega)
        · right
          have e2 : decide (((dg p).length : Int) > 1) = false := by simp only [decide_eq_false_iff_not]; omega
          refine ⟨(dg p, dg q, ()), ?_, p, q, rfl, hg, hpos, hpl, ?_⟩
          · simp only [S_impl_natGcd_0, e1, e2, cond_false]
          · by_cases hq0 : q = 0
            · exact .inl hq0
            · right
              have hqn : dg q ≠ [] := fun e => hq0 (dg_nil.1 e)
              have := List.length_pos_iff.2 hqn
              exact ⟨by omega, by omega⟩)
    (x := (dg m, dg n, ())) ⟨m, n, rfl, rfl, fun e => by omega, hm, hn⟩
  rw [h1, Option.bind_some]
  simp only []
  rcases hq with rfl | ⟨hp1, hq1⟩
  · have : (((dg 0).length : Int) == 0) = true := by rw [dg_zero]; rfl
    rw [this, cond_true, impl_copy (by omega), Option.bind_some, ← hg, Nat.gcd_zero_right]
  · have hpn : dg p ≠ [] := fun e => by have := dg_nil.1 e; omega
    have hpl1 : (dg p).length = 1 := by have := List.length_pos_iff.2 hpn; omega
    obtain ⟨p0, pB, pe⟩ := one_dg hpl1
    obtain ⟨q0, qB, qe⟩ := one_dg hq1
    have : (((dg q).length : Int) == 0) = false := by rw [hq1]; rfl
    rw [this, cond_false, pe, qe, show ((0 : Int) = ((0 : Nat) : Int)) from rfl, idx_get (x := (p : Int)) (by rfl), Option.bind_some, idx_get (x := (q : Int)) (by rfl), Option.bind_some]
    unfold L_impl_natGcd_1
    rw [euclid_loop (S := S_impl_natGcd_1) (fun x y h => by
      have h1 : ((y : Int) != 0) = true := by simp; omega
      simp only [S_impl_natGcd_1, h1, cond_true, guardO_true, Option.bind_some, tmod_nat]) (fun x => by simp [S_impl_natGcd_1]) q p, Option.bind_some]
    have hgp : Nat.gcd p q ≤ p := Nat.gcd_le_left q p0
    have hgpos : 0 < Nat.gcd p q := Nat.gcd_pos_of_pos_left q p0
    simp only []
    rw [← hg, dg_one hgpos (by omega)]
end Go.Di
/-
  Own work. Plain laws: numbers with a sign, fractions: the program's and the reference's operations are those of the rational numbers, as long as the limbs suffice.
-/
namespace Go.Di

/-- A number with a sign, out of limbs. -/
noncomputable def bg (z : Int) : Bg := ⟨decide (z < 0), dg z.natAbs⟩
def sg (neg : Bool) (m : Nat) : Int := cond neg (-(m : Int)) m
theorem sg_abs (neg : Bool) (m : Nat) : (sg neg m).natAbs = m := by cases neg <;> simp [sg]
theorem sg_neg {neg : Bool} {m : Nat} (h : m ≠ 0) : decide (sg neg m < 0) = neg := by
  cases neg with
  | false => rw [decide_eq_false_iff_not]; simp only [sg, cond_false]; omega
  | true => rw [decide_eq_true_eq]; simp only [sg, cond_true]; omega
theorem bg_sg {neg : Bool} {m : Nat} (h : m ≠ 0) : bg (sg neg m) = ⟨neg, dg m⟩ := by unfold bg; rw [sg_abs, sg_neg h]
theorem bg_zero : bg 0 = ⟨false, []⟩ := by unfold bg; rw [show (0 : Int).natAbs = 0 from rfl, dg_zero]; rfl
theorem sg_zero (neg : Bool) : sg neg 0 = 0 := by cases neg <;> rfl
theorem sg_self (z : Int) : sg (decide (z < 0)) z.natAbs = z := by
  by_cases h : z < 0
  · rw [decide_eq_true h]; simp only [sg, cond_true]; omega
  · rw [decide_eq_false h]; simp only [sg, cond_false]; omega

theorem dg_len0 {m : Nat} : (((dg m).length : Int) == 0) = decide (m = 0) := by
  by_cases h : m = 0
  · subst h; simp [dg_zero]
  · have hn : dg m ≠ [] := fun e => h (dg_nil.1 e)
    have := List.length_pos_iff.2 hn
    rw [decide_eq_false h, beq_eq_false_iff_ne]; omega
theorem dg_lenpos {m : Nat} : decide (((dg m).length : Int) > 0) = decide (m ≠ 0) := by
  by_cases h : m = 0
  · subst h; simp [dg_zero]
  · have hn : dg m ≠ [] := fun e => h (dg_nil.1 e)
    have := List.length_pos_iff.2 hn
    rw [decide_eq_true h, decide_eq_true_eq]; omega

theorem impl_signed (neg : Bool) (m : Nat) : M_impl_signed_dc neg (dg m) = some (bg (sg neg m)) := by
  unfold M_impl_signed_dc
  rw [dg_len0]
  by_cases h : m = 0
  · subst h; rw [decide_eq_true rfl, cond_true, sg_zero, bg_zero]
  · rw [decide_eq_false h, cond_false, bg_sg h]
theorem impl_signed' (neg : Bool) (m : Nat) : M_impl_signed neg (dg m) = some (bg (sg neg m)) := impl_signed neg m

theorem dg_tz (m : Nat) : tz (dg m) = dg m := by rw [tz_dg (dg_dig m), nv_dg, Int.toNat_natCast]
theorem spec_trim' {m : Nat} (h : (dg m).length ≤ 1073741824) : M_spec_l02Trim (dg m) = some (dg m) := by
  have key : L_spec_l02Trim_0 (dg m) ((dg m).length : Int) = some (dg m, ((dg m).length : Int), ()) := by
    unfold L_spec_l02Trim_0
    refine whileO_inr ?_
    by_cases hm : m = 0
    · subst hm; simp [S_spec_l02Trim_0, dg_zero]
    · have hne : dg m ≠ [] := fun e => hm (dg_nil.1 e)
      have hp := List.length_pos_iff.2 hne
      have h0 : (dg m).getLast hne ≠ 0 := by
        intro e
        have := (dg_can m).2
        rw [Top0, List.getLast?_eq_some_getLast hne, e] at this
        exact this rfl
      have h1 : decide (((dg m).length : Int) > 0) = true := by rw [decide_eq_true_eq]; omega
      have h2 : ((dg m).getLast hne == 0) = false := by rw [beq_eq_false_iff_ne]; exact h0
      simp only [S_spec_l02Trim_0, h1, cond_true, last_idx hne h, Option.bind_some, h2, cond_false]
  unfold M_spec_l02Trim
  rw [key, Option.bind_some]
  simp only []
  rw [inside_cut _ _ (Nat.le_refl _), Option.bind_some, Int.toNat_natCast, show cut (dg m) 0 (dg m).length = dg m by simp [cut]]
theorem spec_cap {m : Nat} (h : (dg m).length ≤ 60) : M_spec_l02Cap (dg m) = some (dg m) := by
  unfold M_spec_l02Cap
  rw [spec_trim' (by omega), Option.bind_some]
  have : decide (((dg m).length : Int) > 60) = false := by rw [decide_eq_false_iff_not]; omega
  rw [this, cond_false]
theorem spec_make (neg : Bool) {m : Nat} (h : (dg m).length ≤ 60) : M_spec_l03Make neg (dg m) = some (bg (sg neg m)) := by
  unfold M_spec_l03Make
  rw [spec_cap h, Option.bind_some, room (by omega)]
  simp only [Option.bind_some, dg_lenpos]
  by_cases hm : m = 0
  · subst hm; rw [sg_zero, bg_zero, dg_zero]; cases neg <;> rfl
  · rw [bg_sg hm, decide_eq_true hm]; cases neg <;> rfl

theorem len_dg_add {m n k : Nat} (hm : (dg m).length ≤ k) (hn : (dg n).length ≤ k) : (dg (m + n)).length ≤ k + 1 := by
  rw [len_dg] at *
  rw [bp_succ]
  have : ((m + n : Nat) : Int) = (m : Int) + n := by omega
  omega

theorem impl_bigAdd {x y : Int} (hx : (dg x.natAbs).length ≤ 1073740000) (hy : (dg y.natAbs).length ≤ 1073740000) : M_impl_bigAdd (bg x) (bg y) = some (bg (x + y)) := by
  unfold M_impl_bigAdd bg
  simp only []
  by_cases h : decide (x < 0) = decide (y < 0)
  · have : (decide (x < 0) == decide (y < 0)) = true := by simpa using h
    rw [this, cond_true, impl_add hx hy, Option.bind_some, impl_signed, Option.bind_some]
    have e : sg (decide (x < 0)) (x.natAbs + y.natAbs) = x + y := by
      by_cases hx0 : x < 0
      · rw [decide_eq_true hx0]; rw [decide_eq_true hx0] at h; have := of_decide_eq_true h.symm; simp only [sg, cond_true]; omega
      · rw [decide_eq_false hx0]; rw [decide_eq_false hx0] at h; have := of_decide_eq_false h.symm; simp only [sg, cond_false]; omega
    rw [e]; rfl
  · have : (decide (x < 0) == decide (y < 0)) = false := by simpa using h
    have hcmp := impl_cmp (dg_can x.natAbs) (dg_can y.natAbs) (by omega)
    rw [nv_dg, nv_dg] at hcmp
    rw [this, cond_false, hcmp, Option.bind_some, cmpI_ge]
    by_cases hge : y.natAbs ≤ x.natAbs
    · rw [decide_eq_true (show ((y.natAbs : Nat) : Int) ≤ x.natAbs by omega), cond_true, impl_sub hx hge, Option.bind_some, impl_signed, Option.bind_some]
      have e : sg (decide (x < 0)) (x.natAbs - y.natAbs) = x + y := by
        by_cases hx0 : x < 0
        · rw [decide_eq_true hx0]; simp only [sg, cond_true]; simp [hx0] at h; omega
        · rw [decide_eq_false hx0]; simp only [sg, cond_false]; simp [hx0] at h; omega
      rw [e]; rfl
    · rw [decide_eq_false (show ¬ ((y.natAbs : Nat) : Int) ≤ x.natAbs by omega), cond_false, impl_sub hy (by omega), Option.bind_some, impl_signed, Option.bind_some]
      have e : sg (decide (y < 0)) (y.natAbs - x.natAbs) = x + y := by
        by_cases hx0 : x < 0
        · simp [hx0] at h; rw [decide_eq_false (by omega)]; simp only [sg, cond_false]; omega
        · simp [hx0] at h; rw [decide_eq_true (by omega)]; simp only [sg, cond_true]; omega
      rw [e]; rfl
theorem spec_bigAdd {x y : Int} (hx : (dg x.natAbs).length ≤ 59) (hy : (dg y.natAbs).length ≤ 59) : M_spec_l03Add (bg x) (bg y) = some (bg (x + y)) := by
  unfold M_spec_l03Add bg
  simp only []
  by_cases h : decide (x < 0) = decide (y < 0)
  · have : (decide (x < 0) == decide (y < 0)) = true := by simpa using h
    rw [this, cond_true, spec_add (by omega) (by omega), Option.bind_some, spec_make _ (len_dg_add hx hy), Option.bind_some]
    have e : sg (decide (x < 0)) (x.natAbs + y.natAbs) = x + y := by
      by_cases hx0 : x < 0
      · rw [decide_eq_true hx0]; rw [decide_eq_true hx0] at h; have := of_decide_eq_true h.symm; simp only [sg, cond_true]; omega
      · rw [decide_eq_false hx0]; rw [decide_eq_false hx0] at h; have := of_decide_eq_false h.symm; simp only [sg, cond_false]; omega
    rw [e]; rfl
  · have : (decide (x < 0) == decide (y < 0)) = false := by simpa using h
    have hcmp := spec_cmp (dg_can x.natAbs) (dg_can y.natAbs) (by omega)
    rw [nv_dg, nv_dg] at hcmp
    rw [this, cond_false, hcmp, Option.bind_some, cmpI_ge]
    by_cases hge : y.natAbs ≤ x.natAbs
    · rw [decide_eq_true (show ((y.natAbs : Nat) : Int) ≤ x.natAbs by omega), cond_true, spec_sub (by omega) hge, Option.bind_some, spec_make _ (Nat.le_trans (len_dg_mono (Nat.sub_le ..)) (by omega)), Option.bind_some]
      have e : sg (decide (x < 0)) (x.natAbs - y.natAbs) = x + y := by
        by_cases hx0 : x < 0
        · rw [decide_eq_true hx0]; simp only [sg, cond_true]; simp [hx0] at h; omega
        · rw [decide_eq_false hx0]; simp only [sg, cond_false]; simp [hx0] at h; omega
      rw [e]; rfl
    · rw [decide_eq_false (show ¬ ((y.natAbs : Nat) : Int) ≤ x.natAbs by omega), cond_false, spec_sub (by omega) (by omega), Option.bind_some, spec_make _ (Nat.le_trans (len_dg_mono (Nat.sub_le ..)) (by omega)), Option.bind_some]
      have e : sg (decide (y < 0)) (y.natAbs - x.natAbs) = x + y := by
        by_cases hx0 : x < 0
        · simp [hx0] at h; rw [decide_eq_false (by omega)]; simp only [sg, cond_false]; omega
        · simp [hx0] at h; rw [decide_eq_true (by omega)]; simp only [sg, cond_true]; omega
      rw [e]; rfl
theorem sg_mul (x y : Int) : sg (!(decide (x < 0) == decide (y < 0))) (x.natAbs * y.natAbs) = x * y := by
  rw [← Int.natAbs_mul]
  by_cases hx : x < 0
  · by_cases hy : y < 0
    · have := Int.mul_pos_of_neg_of_neg hx hy
      rw [decide_eq_true hx, decide_eq_true hy]; simp only [sg]; simp; omega
    · rw [decide_eq_true hx, decide_eq_false hy]
      have := Int.mul_nonpos_of_nonpos_of_nonneg (show x ≤ 0 by omega) (show 0 ≤ y by omega)
      simp only [sg]; simp; omega
  · by_cases hy : y < 0
    · rw [decide_eq_false hx, decide_eq_true hy]
      have := Int.mul_nonpos_of_nonneg_of_nonpos (show 0 ≤ x by omega) (show y ≤ 0 by omega)
      simp only [sg]; simp; omega
    · rw [decide_eq_false hx, decide_eq_false hy]
      have := Int.mul_nonneg (show 0 ≤ x by omega) (show 0 ≤ y by omega)
      simp only [sg]; simp; omega
theorem impl_bigMul {x y : Int} (hx : (dg x.natAbs).length ≤ 500000000) (hy : (dg y.natAbs).length ≤ 500000000) : M_impl_bigMul (bg x) (bg y) = some (bg (x * y)) := by
  unfold M_impl_bigMul bg
  simp only []
  rw [impl_mul hx hy, Option.bind_some, impl_signed, Option.bind_some, sg_mul]; rfl
theorem impl_bigNeg {x : Int} (hx : (dg x.natAbs).length ≤ 500000000) : M_impl_bigNeg (bg x) = some (bg (-x)) := by
  unfold M_impl_bigNeg bg
  simp only []
  rw [impl_copy (by omega), Option.bind_some, impl_signed, Option.bind_some]
  have e : sg (!decide (x < 0)) x.natAbs = -x := by
    by_cases h : x < 0
    · rw [decide_eq_true h]; simp only [sg, Bool.not_true, cond_false]; omega
    · rw [decide_eq_false h]; simp only [sg, Bool.not_false, cond_true]; omega
  rw [e]; rfl

/-! ### Fractions -/
noncomputable def rq (q : Rat) : Rt := ⟨decide (q.num < 0), dg q.num.natAbs, dg q.den⟩
def Fit (q : Rat) : Prop := (dg q.num.natAbs).length ≤ 24 ∧ (dg q.den).length ≤ 24
noncomputable instance (q : Rat) : Decidable (Fit q) := by unfold Fit; infer_instance
/-- A fraction, or the sign that a number was too large. -/
noncomputable def ro : Option Rat → Rt
  | none => ⟨false, [], []⟩
  | some q => rq q
noncomputable def chk (q : Rat) : Option Rat := if Fit q then some q else none
def Oks (o : Option Rat) : Prop := ∀ q, o = some q → Fit q
theorem oks_chk (q : Rat) : Oks (chk q) := fun r h => by
  unfold chk at h
  split at h
  · rename_i hf; cases h; exact hf
  · cases h
theorem oks_none : Oks none := fun q h => by cases h
theorem Fit.ok {q : Rat} (h : Fit q) : Oks (some q) := fun r hr => by cases hr; exact h
theorem chk_fit {q : Rat} (h : Fit q) : chk q = some q := by unfold chk; rw [if_pos h]
theorem chk_not {q : Rat} (h : ¬ Fit q) : chk q = none := by unfold chk; rw [if_neg h]
theorem oks_bind {o : Option Rat} {f : Rat → Option Rat} (h : ∀ q, Oks (f q)) : Oks (o.bind f) := by
  cases o with
  | none => exact oks_none
  | some q => exact h q

theorem mk_parts (z : Int) {d : Nat} (hd : d ≠ 0) : (mkRat z d).num = z / (Nat.gcd z.natAbs d : Nat) ∧ (mkRat z d).den = d / Nat.gcd z.natAbs d := by
  rw [Rat.mkRat_def, dif_neg hd, Rat.normalize_eq]
  exact ⟨rfl, rfl⟩
theorem mk_abs (z : Int) {d : Nat} (hd : d ≠ 0) : (mkRat z d).num.natAbs = z.natAbs / Nat.gcd z.natAbs d := by
  rw [(mk_parts z hd).1]
  have h1 : (Nat.gcd z.natAbs d : Nat) ∣ z.natAbs := Nat.gcd_dvd_left ..
  rw [Int.natAbs_ediv_of_dvd (Int.ofNat_dvd_left.2 h1)]; rfl
theorem mk_sign (z : Int) {d : Nat} (hd : d ≠ 0) : decide ((mkRat z d).num < 0) = decide (z < 0) := by
  rw [(mk_parts z hd).1]
  have hg : 0 < Nat.gcd z.natAbs d := Nat.gcd_pos_of_pos_right _ (by omega)
  have h1 : ((Nat.gcd z.natAbs d : Nat) : Int) ∣ z := Int.ofNat_dvd_left.2 (Nat.gcd_dvd_left ..)
  obtain ⟨c, hc⟩ := h1
  generalize Nat.gcd z.natAbs d = g at *
  rw [hc, Int.mul_ediv_cancel_left _ (by omega)]
  congr 1
  apply propext
  constructor
  · intro h; exact Int.mul_neg_of_pos_of_neg (by omega) h
  · intro h
    rcases Int.lt_or_le c 0 with h2 | h2
    · exact h2
    · have := Int.mul_nonneg (show (0 : Int) ≤ g by omega) h2; omega
theorem rq_mk (z : Int) {d : Nat} (hd : d ≠ 0) : rq (mkRat z d) = ⟨decide (z < 0), dg (z.natAbs / Nat.gcd z.natAbs d), dg (d / Nat.gcd z.natAbs d)⟩ := by
  unfold rq
  rw [mk_sign z hd, mk_abs z hd, (mk_parts z hd).2]
theorem fit_mk (z : Int) {d : Nat} (hd : d ≠ 0) : Fit (mkRat z d) ↔ (dg (z.natAbs / Nat.gcd z.natAbs d)).length ≤ 24 ∧ (dg (d / Nat.gcd z.natAbs d)).length ≤ 24 := by
  unfold Fit
  rw [mk_abs z hd, (mk_parts z hd).2]
theorem dg_one1 : dg 1 = [1] := dg_one (by omega) (by omega)
theorem rq_zero : rq 0 = ⟨false, [], [1]⟩ := by
  unfold rq
  have h1 : (0 : Rat).num = 0 := rfl
  have h2 : (0 : Rat).den = 1 := rfl
  rw [h1, h2, show (0 : Int).natAbs = 0 from rfl, dg_zero, dg_one1]; rfl
theorem fit_zero : Fit 0 := by
  unfold Fit
  have h1 : (0 : Rat).num = 0 := rfl
  have h2 : (0 : Rat).den = 1 := rfl
  rw [h1, h2, show (0 : Int).natAbs = 0 from rfl, dg_zero, dg_one1]; simp

theorem one_isOne {m : Nat} : (cond (((dg m).length : Int) == 1) ((idx (dg m) 0).bind fun e => some (e == 1)) (some false)) = some (decide (m = 1)) := by
  by_cases h1 : (dg m).length = 1
  · have hb : (((dg m).length : Int) == 1) = true := by rw [h1]; rfl
    obtain ⟨_, _, e⟩ := one_dg h1
    rw [hb, cond_true, e, show ((0 : Int) = ((0 : Nat) : Int)) from rfl, idx_get (x := (m : Int)) (by rfl), Option.bind_some]
    congr 1
    rw [Bool.eq_iff_iff]; simp; omega
  · have hb : (((dg m).length : Int) == 1) = false := by rw [beq_eq_false_iff_ne]; omega
    rw [hb, cond_false]
    have : m ≠ 1 := by rintro rfl; rw [dg_one1] at h1; exact h1 rfl
    rw [decide_eq_false this]
theorem impl_isOne (m : Nat) : M_impl_isOne (dg m) = some (decide (m = 1)) := one_isOne
theorem spec_isOne (m : Nat) : M_spec_l04One (dg m) = some (decide (m = 1)) := one_isOne

theorem le24 {xs : List Int} : decide ((xs.length : Int) > 24) = !decide (xs.length ≤ 24) := by
  rw [Bool.eq_iff_iff]; simp; omega
theorem ifFit {p q : Prop} [Decidable p] [Decidable q] {α : Type} {a b : α} : cond (!decide p) a (cond (!decide q) a b) = if p ∧ q then b else a := by
  by_cases hp : p <;> by_cases hq : q <;> simp [hp, hq]

theorem ro_chk_mk (z : Int) {d : Nat} (hd : d ≠ 0) : ro (chk (mkRat z d)) = if (dg (z.natAbs / Nat.gcd z.natAbs d)).length ≤ 24 ∧ (dg (d / Nat.gcd z.natAbs d)).length ≤ 24 then ⟨decide (z < 0), dg (z.natAbs / Nat.gcd z.natAbs d), dg (d / Nat.gcd z.natAbs d)⟩ else ⟨false, [], []⟩ := by
  by_cases h : Fit (mkRat z d)
  · rw [chk_fit h, if_pos ((fit_mk z hd).1 h)]; exact rq_mk z hd
  · rw [chk_not h, if_neg (fun k => h ((fit_mk z hd).2 k))]; rfl

theorem impl_lowest {z : Int} {d : Nat} (hd : d ≠ 0) (hz : (dg z.natAbs).length ≤ 100000000) (hl : (dg d).length ≤ 100000000) : M_impl_lowest_cc (bg z) (dg d) = some (ro (chk (mkRat z d))) := by
  unfold M_impl_lowest_cc bg
  simp only []
  rw [dg_len0]
  by_cases h0 : z.natAbs = 0
  · have : z = 0 := by omega
    subst this
    rw [decide_eq_true h0, cond_true, Rat.zero_mkRat, chk_fit fit_zero]
    exact congrArg some rq_zero.symm
  · rw [decide_eq_false h0, cond_false, impl_gcd hl hz (by omega), Option.bind_some, impl_isOne, Option.bind_some, ro_chk_mk z hd]
    have hg0 : 0 < Nat.gcd d z.natAbs := Nat.gcd_pos_of_pos_left _ (by omega)
    rw [Nat.gcd_comm z.natAbs d]
    by_cases h1 : Nat.gcd d z.natAbs = 1
    · rw [decide_eq_true h1, Bool.not_true, cond_false, h1, Nat.div_one, Nat.div_one, le24, le24, ifFit]
      split <;> rfl
    · have hgl : (dg (Nat.gcd d z.natAbs)).length ≤ 100000000 := Nat.le_trans (len_dg_mono (Nat.gcd_le_left _ (by omega))) hl
      have hzne : z.natAbs / Nat.gcd d z.natAbs ≠ 0 := by
        have := Nat.div_pos (Nat.gcd_le_right (n := z.natAbs) d (by omega)) hg0
        omega
      rw [decide_eq_false h1, Bool.not_false, cond_true, impl_div hz hgl hg0, Option.bind_some]
      simp only []
      rw [impl_div hl hgl hg0, Option.bind_some]
      simp only []
      rw [impl_signed, Option.bind_some, bg_sg hzne, le24, le24, ifFit]
      split <;> rfl
theorem impl_lowest' {z : Int} {d : Nat} (hd : d ≠ 0) (hz : (dg z.natAbs).length ≤ 100000000) (hl : (dg d).length ≤ 100000000) : M_impl_lowest (bg z) (dg d) = some (ro (chk (mkRat z d))) := impl_lowest hd hz hl

theorem spec_low {neg : Bool} {m d : Nat} (hd : d ≠ 0) (hz : (dg m).length ≤ 100000000) (hl : (dg d).length ≤ 100000000) : M_spec_l04Low neg (dg m) (dg d) = some (ro (chk (mkRat (sg neg m) d))) := by
  unfold M_spec_l04Low
  rw [spec_trim' (by omega), Option.bind_some, spec_trim' (by omega), Option.bind_some, dg_len0, decide_eq_false hd, cond_false, spec_isOne, Option.bind_some, ro_chk_mk _ hd, sg_abs]
  have fin : ∀ (p e : Nat), (m = 0 ↔ p = 0) → ((cond (decide (((dg p).length : Int) > 24)) (some (⟨false, ([] : List Int), ([] : List Int)⟩ : Rt)) (cond (decide (((dg e).length : Int) > 24)) (some (⟨false, ([] : List Int), ([] : List Int)⟩ : Rt)) ((M_spec_l03Make neg (dg p)).bind fun r3 => (guardO (Nat.ble (dg e).length maxNew)).bind fun _ => some (⟨r3.neg, r3.mag, dg e⟩ : Rt))))
      = some (if (dg p).length ≤ 24 ∧ (dg e).length ≤ 24 then ⟨decide (sg neg m < 0), dg p, dg e⟩ else ⟨false, [], []⟩)) := by
    intro p e hpm
    rw [le24, le24, ifFit]
    by_cases hf : (dg p).length ≤ 24 ∧ (dg e).length ≤ 24
    · rw [if_pos hf, if_pos hf, spec_make neg (by omega), Option.bind_some, room (by omega), Option.bind_some]
      by_cases hp : p = 0
      · subst hp; have := hpm.2 rfl; subst this; rw [sg_zero, bg_zero, dg_zero]; rfl
      · have hm : m ≠ 0 := fun e => hp (hpm.1 e)
        rw [bg_sg hp, sg_neg hm]
    · rw [if_neg hf, if_neg hf]
  by_cases h1 : d = 1
  · rw [decide_eq_true h1, Bool.not_true, cond_false]
    subst h1
    rw [Nat.gcd_one_right, Nat.div_one, Nat.div_one]
    exact fin m 1 Iff.rfl
  · have hg0 : 0 < Nat.gcd m d := Nat.gcd_pos_of_pos_right _ (by omega)
    rw [decide_eq_false h1, Bool.not_false, cond_true, spec_gcd hz hl, Option.bind_some, spec_isOne, Option.bind_some]
    by_cases h2 : Nat.gcd m d = 1
    · rw [decide_eq_true h2, Bool.not_true, cond_false, h2, Nat.div_one, Nat.div_one]
      exact fin m d Iff.rfl
    · have hgl : (dg (Nat.gcd m d)).length ≤ 100000000 := Nat.le_trans (len_dg_mono (Nat.gcd_le_right _ (by omega))) hl
      rw [decide_eq_false h2, Bool.not_false, cond_true, spec_div hz hgl hg0, Option.bind_some]
      simp only []
      rw [spec_div hl hgl hg0, Option.bind_some]
      simp only []
      refine fin _ _ ⟨fun e => by rw [e, Nat.zero_div], fun e => ?_⟩
      rcases Nat.eq_zero_or_pos m with h | h
      · exact h
      · have := Nat.div_pos (Nat.gcd_le_left (m := m) d h) hg0; omega
theorem spec_low0 {neg : Bool} {m : Nat} (hz : (dg m).length ≤ 100000000) : M_spec_l04Low neg (dg m) (dg 0) = some (ro none) := by
  unfold M_spec_l04Low
  rw [spec_trim' (by omega), Option.bind_some, spec_trim' (by rw [dg_zero]; simp), Option.bind_some, dg_len0, decide_eq_true rfl, cond_true]; rfl
end Go.Di
/-
  Own work. Plain laws: the operations of fractions.
-/
namespace Go.Di

noncomputable def addO (o p : Option Rat) : Option Rat := o.bind fun q => p.bind fun r => chk (q + r)
noncomputable def mulO (o p : Option Rat) : Option Rat := o.bind fun q => p.bind fun r => chk (q * r)
noncomputable def divO (o p : Option Rat) : Option Rat := o.bind fun q => p.bind fun r => if r = 0 then none else chk (q / r)
noncomputable def negO (o : Option Rat) : Option Rat := o.map fun q => -q
noncomputable def subO (o p : Option Rat) : Option Rat := addO o (negO p)
theorem oks_addO {o p : Option Rat} : Oks (addO o p) := oks_bind fun _ => oks_bind fun _ => oks_chk _
theorem oks_mulO {o p : Option Rat} : Oks (mulO o p) := oks_bind fun _ => oks_bind fun _ => oks_chk _
theorem oks_subO {o p : Option Rat} : Oks (subO o p) := oks_addO
theorem oks_divO {o p : Option Rat} : Oks (divO o p) := oks_bind fun _ => oks_bind fun r => by
  split
  · exact oks_none
  · exact oks_chk _
theorem fit_neg {q : Rat} (h : Fit q) : Fit (-q) := by
  unfold Fit at *
  rw [show (-q).num = -q.num from rfl, show (-q).den = q.den from rfl, Int.natAbs_neg]; exact h
theorem oks_negO {o : Option Rat} (h : Oks o) : Oks (negO o) := fun q hq => by
  cases o with
  | none => cases hq
  | some r => cases hq; exact fit_neg (h r rfl)

theorem ro_none_dg : ro none = ⟨false, dg 0, dg 0⟩ := by rw [dg_zero]; rfl
theorem ro_den {o : Option Rat} (h : Oks o) : (ro o).den.length ≤ 24 := by
  cases o with
  | none => simp [ro]
  | some q => exact (h q rfl).2
theorem ro_mag {o : Option Rat} (h : Oks o) : (ro o).mag.length ≤ 24 := by
  cases o with
  | none => simp [ro]
  | some q => exact (h q rfl).1
theorem ro_fit {o : Option Rat} (h : Oks o) : (ro o).fit := ⟨by have := ro_mag h; omega, by have := ro_den h; omega⟩

theorem den_void (o : Option Rat) : (((ro o).den.length : Int) == 0) = o.isNone := by
  cases o with
  | none => rfl
  | some q =>
    show (((dg q.den).length : Int) == 0) = false
    rw [dg_len0, decide_eq_false q.den_nz]
theorem impl_void (o : Option Rat) : M_impl_void (ro o) = some o.isNone := by unfold M_impl_void; rw [den_void]
theorem spec_bad (o : Option Rat) : (some ((((ro o).den.length : Int) == 0)) : Option Bool) = some o.isNone := by rw [den_void]

theorem mk_add_same (a b : Rat) (h : a.den = b.den) : mkRat (a.num + b.num) a.den = a + b := by
  rw [Rat.add_def', Rat.mkRat_eq_iff a.den_nz (Nat.mul_ne_zero a.den_nz b.den_nz), ← h]
  simp only [Int.natCast_mul]
  grind
theorem mk_add (a b : Rat) : mkRat (a.num * b.den + b.num * a.den) (a.den * b.den) = a + b := (Rat.add_def' a b).symm
theorem mk_mul (a b : Rat) : mkRat (a.num * b.num) (a.den * b.den) = a * b := (Rat.mul_def' a b).symm
theorem mk_div (a b : Rat) (hb : b ≠ 0) : mkRat (a.num * sg (decide (b.num < 0)) b.den) (a.den * b.num.natAbs) = a / b := by
  have hn : b.num ≠ 0 := fun h => hb (Rat.num_eq_zero.1 h)
  have hd : a.den * b.num.natAbs ≠ 0 := Nat.mul_ne_zero a.den_nz (by omega)
  have key : mkRat (a.num * sg (decide (b.num < 0)) b.den) (a.den * b.num.natAbs) * b = a := by
    have e1 : b = mkRat b.num b.den := (Rat.mkRat_self b).symm
    have e2 : a = mkRat a.num a.den := (Rat.mkRat_self a).symm
    rw [e1, Rat.mkRat_mul_mkRat, e2, Rat.mkRat_eq_iff (Nat.mul_ne_zero (by rw [Rat.mkRat_self, Rat.mkRat_self]; exact hd) b.den_nz) a.den_nz]
    simp only [Rat.mkRat_self]
    have hs : sg (decide (b.num < 0)) b.den * b.num = (b.den : Int) * (b.num.natAbs : Int) := by
      by_cases h : b.num < 0
      · rw [decide_eq_true h]; simp only [sg, cond_true]
        have : ((b.num.natAbs : Nat) : Int) = -b.num := by omega
        rw [this]; grind
      · rw [decide_eq_false h]; simp only [sg, cond_false]
        have : ((b.num.natAbs : Nat) : Int) = b.num := by omega
        rw [this]
    simp only [Int.natCast_mul]
    grind
  generalize mkRat (a.num * sg (decide (b.num < 0)) b.den) (a.den * b.num.natAbs) = x at *
  rw [← key, Rat.mul_div_cancel hb]

theorem small24 {a b : Nat} (ha : (dg a).length ≤ 24) (hb : (dg b).length ≤ 24) : (dg (a * b)).length ≤ 48 := by have := len_dg_mul a b; omega
theorem bg_nat {n : Nat} : bg (n : Int) = ⟨false, dg n⟩ := by
  unfold bg
  rw [decide_eq_false (by omega), Int.natAbs_natCast]
theorem small_mul {x : Int} {b : Nat} (ha : (dg x.natAbs).length ≤ 24) (hb : (dg b).length ≤ 24) : (dg (x * (b : Int)).natAbs).length ≤ 48 := by
  rw [Int.natAbs_mul, Int.natAbs_natCast]; exact small24 ha hb
theorem small_add {x y : Int} {k : Nat} (ha : (dg x.natAbs).length ≤ k) (hb : (dg y.natAbs).length ≤ k) : (dg (x + y).natAbs).length ≤ k + 1 :=
  Nat.le_trans (len_dg_mono (show (x + y).natAbs ≤ x.natAbs + y.natAbs by omega)) (len_dg_add ha hb)

theorem impl_addO {o p : Option Rat} (ho : Oks o) (hp : Oks p) : M_impl_add (ro o) (ro p) = some (ro (addO o p)) := by
  unfold M_impl_add
  rw [impl_void, impl_void]
  cases o with
  | none => rfl
  | some q =>
    cases p with
    | none => rfl
    | some r =>
      have fq := ho q rfl
      have fr := hp r rfl
      simp only [Option.isNone_some, Option.bind_some, cond_false]
      rw [impl_list (by have := ro_den ho; omega), Option.bind_some]
      show cond _ ((M_impl_bigAdd (bg q.num) (bg r.num)).bind _) ((M_impl_bigMul (bg q.num) ⟨false, dg r.den⟩).bind fun r4 => (M_impl_bigMul (bg r.num) ⟨false, dg q.den⟩).bind _) = _
      by_cases h : q.den = r.den
      · have : eqB (ro (some q)).den (ro (some r)).den = true := eqB_iff.2 (congrArg dg h)
        rw [this, cond_true, impl_bigAdd (by have := fq.1; omega) (by have := fr.1; omega), Option.bind_some, impl_copy (by have := ro_den ho; omega), Option.bind_some]
        show (M_impl_lowest_cc (bg (q.num + r.num)) (dg q.den)).bind _ = _
        rw [impl_lowest q.den_nz (by have := small_add fq.1 fr.1; omega) (by have := fq.2; omega), Option.bind_some, mk_add_same q r h]; rfl
      · have : eqB (ro (some q)).den (ro (some r)).den = false := eqB_false.2 fun e => h (dg_inj e)
        rw [this, cond_false, ← bg_nat, ← bg_nat, impl_bigMul (by have := fq.1; omega) (by have := fr.2; rw [Int.natAbs_natCast]; omega), Option.bind_some, impl_bigMul (by have := fr.1; omega) (by have := fq.2; rw [Int.natAbs_natCast]; omega), Option.bind_some]
        have h1 := small_mul fq.1 fr.2
        have h2 := small_mul fr.1 fq.2
        rw [impl_bigAdd (by omega) (by omega), Option.bind_some]
        show ((M_impl_natMul (dg q.den) (dg r.den)).bind _) = _
        have h3 := small24 fq.2 fr.2
        have h4 := small_add h1 h2
        rw [impl_mul (by have := fq.2; omega) (by have := fr.2; omega), Option.bind_some, impl_lowest (Nat.mul_ne_zero q.den_nz r.den_nz) (by omega) (by omega), Option.bind_some, mk_add]; rfl

theorem impl_mulO {o p : Option Rat} (ho : Oks o) (hp : Oks p) : M_impl_mul (ro o) (ro p) = some (ro (mulO o p)) := by
  unfold M_impl_mul
  rw [impl_void, impl_void]
  cases o with
  | none => rfl
  | some q =>
    cases p with
    | none => rfl
    | some r =>
      have fq := ho q rfl
      have fr := hp r rfl
      simp only [Option.isNone_some, Option.bind_some, cond_false]
      show ((M_impl_bigMul (bg q.num) (bg r.num)).bind fun r3 => (M_impl_natMul (dg q.den) (dg r.den)).bind _) = _
      have h3 := small24 fq.2 fr.2
      have h4 := small24 fq.1 fr.1
      rw [impl_bigMul (by have := fq.1; omega) (by have := fr.1; omega), Option.bind_some, impl_mul (by have := fq.2; omega) (by have := fr.2; omega), Option.bind_some, impl_lowest (Nat.mul_ne_zero q.den_nz r.den_nz) (by rw [Int.natAbs_mul]; omega) (by omega), Option.bind_some, mk_mul]; rfl

theorem impl_divO {o p : Option Rat} (ho : Oks o) (hp : Oks p) : M_impl_div (ro o) (ro p) = some (ro (divO o p)) := by
  unfold M_impl_div
  rw [impl_void, impl_void]
  cases o with
  | none => rfl
  | some q =>
    cases p with
    | none => rfl
    | some r =>
      have fq := ho q rfl
      have fr := hp r rfl
      simp only [Option.isNone_some, Option.bind_some, cond_false]
      have hl : (((ro (some r)).mag.length : Int) == 0) = decide (r.num.natAbs = 0) := dg_len0
      rw [hl]
      by_cases h0 : r = 0
      · have : r.num.natAbs = 0 := by rw [h0]; rfl
        rw [decide_eq_true this, cond_true]
        simp [divO, h0, ro]
      · have hn : r.num.natAbs ≠ 0 := fun h => h0 (Rat.num_eq_zero.1 (by omega))
        rw [decide_eq_false hn, cond_false]
        unfold M_impl_mul
        rw [impl_void]
        simp only [Option.isNone_some, Option.bind_some, cond_false]
        have hv : M_impl_void (⟨(ro (some r)).neg, (ro (some r)).den, (ro (some r)).mag⟩ : Rt) = some false := by
          unfold M_impl_void
          rw [show ((((⟨(ro (some r)).neg, (ro (some r)).den, (ro (some r)).mag⟩ : Rt).den.length : Nat) : Int) == 0) = decide (r.num.natAbs = 0) from dg_len0, decide_eq_false hn]
        rw [hv, Option.bind_some, cond_false]
        have hb : (⟨(ro (some r)).neg, (ro (some r)).den⟩ : Bg) = bg (sg (decide (r.num < 0)) r.den) := (bg_sg r.den_nz).symm
        show (((M_impl_bigMul (bg q.num) ⟨(ro (some r)).neg, (ro (some r)).den⟩).bind fun r3 => (M_impl_natMul (dg q.den) (dg r.num.natAbs)).bind fun r4 => _).bind _) = _
        rw [hb]
        have h3 := small24 fq.2 fr.1
        have h4 := small24 fq.1 fr.2
        rw [impl_bigMul (by have := fq.1; omega) (by have := fr.2; rw [sg_abs]; omega), Option.bind_some, impl_mul (by have := fq.2; omega) (by have := fr.1; omega), Option.bind_some, impl_lowest (Nat.mul_ne_zero q.den_nz hn) (by rw [Int.natAbs_mul, sg_abs]; omega) (by omega), Option.bind_some, Option.bind_some, mk_div q r h0]
        simp [divO, h0]

theorem impl_negO {o : Option Rat} (ho : Oks o) : M_impl_neg (ro o) = some (ro (negO o)) := by
  unfold M_impl_neg
  rw [impl_void]
  cases o with
  | none => rfl
  | some q =>
    have fq := ho q rfl
    simp only [Option.isNone_some, Option.bind_some, cond_false]
    show ((M_impl_bigNeg (bg q.num)).bind fun r2 => (M_impl_copyInts (dg q.den)).bind _) = _
    rw [impl_bigNeg (by have := fq.1; omega), Option.bind_some, impl_copy (by have := fq.2; omega), Option.bind_some]
    show some (⟨decide (-q.num < 0), dg (-q.num).natAbs, dg q.den⟩ : Rt) = some ⟨decide ((-q).num < 0), dg (-q).num.natAbs, dg (-q).den⟩
    rfl
theorem impl_subO {o p : Option Rat} (ho : Oks o) (hp : Oks p) : M_impl_sub (ro o) (ro p) = some (ro (subO o p)) := by
  unfold M_impl_sub
  rw [impl_negO hp, Option.bind_some, impl_addO ho (oks_negO hp)]; rfl

/-! ### The reference's -/
theorem spec_mulO {o p : Option Rat} (ho : Oks o) (hp : Oks p) : M_spec_l04Mul (ro o) (ro p) = some (ro (mulO o p)) := by
  unfold M_spec_l04Mul
  have hom := ro_mag ho
  have hpm := ro_mag hp
  have hod := ro_den ho
  have hpd := ro_den hp
  cases o with
  | none =>
    obtain ⟨m, d, e1, e2⟩ : ∃ m d : Nat, (ro p).mag = dg m ∧ (ro p).den = dg d := by
      cases p with
      | none => exact ⟨0, 0, dg_zero.symm, dg_zero.symm⟩
      | some r => exact ⟨_, _, rfl, rfl⟩
    rw [e1] at hpm; rw [e2] at hpd
    rw [ro_none_dg, e1, e2]
    rw [spec_mul (by rw [dg_zero]; simp) (by omega), Option.bind_some, spec_mul (by rw [dg_zero]; simp) (by omega), Option.bind_some, Nat.zero_mul, Nat.zero_mul, spec_low0 (by rw [dg_zero]; simp), Option.bind_some]; rfl
  | some q =>
    cases p with
    | none =>
      have fq := ho q rfl
      rw [ro_none_dg]
      show ((M_spec_l02Mul (dg q.num.natAbs) (dg 0)).bind fun r1 => (M_spec_l02Mul (dg q.den) (dg 0)).bind _) = _
      rw [spec_mul (by have := fq.1; omega) (by rw [dg_zero]; simp), Option.bind_some, spec_mul (by have := fq.2; omega) (by rw [dg_zero]; simp), Option.bind_some, Nat.mul_zero, Nat.mul_zero, spec_low0 (by rw [dg_zero]; simp), Option.bind_some]; rfl
    | some r =>
      have fq := ho q rfl
      have fr := hp r rfl
      have h3 := small24 fq.2 fr.2
      have h4 := small24 fq.1 fr.1
      show ((M_spec_l02Mul (dg q.num.natAbs) (dg r.num.natAbs)).bind fun r1 => (M_spec_l02Mul (dg q.den) (dg r.den)).bind fun r2 => (M_spec_l04Low (!(decide (q.num < 0) == decide (r.num < 0))) r1 r2).bind _) = _
      rw [spec_mul (by have := fq.1; omega) (by have := fr.1; omega), Option.bind_some, spec_mul (by have := fq.2; omega) (by have := fr.2; omega), Option.bind_some, spec_low (Nat.mul_ne_zero q.den_nz r.den_nz) (by omega) (by omega), Option.bind_some, sg_mul, mk_mul]; rfl

theorem sg_times (x : Int) (d : Nat) : sg (decide (x < 0)) (x.natAbs * d) = x * d := by
  by_cases h : x < 0
  · rw [decide_eq_true h]; simp only [sg, cond_true]
    have : ((x.natAbs * d : Nat) : Int) = (-x) * d := by
      rw [Int.natCast_mul]; congr 1; omega
    rw [this]; grind
  · rw [decide_eq_false h]; simp only [sg, cond_false]
    rw [Int.natCast_mul]; congr 1; omega

theorem spec_addO {o p : Option Rat} (ho : Oks o) (hp : Oks p) : M_spec_l04Add (ro o) (ro p) = some (ro (addO o p)) := by
  have hom := ro_mag ho
  have hpm := ro_mag hp
  have hod := ro_den ho
  have hpd := ro_den hp
  -- the long way, for any two values
  have long : ∀ (x y : Int) (d e : Nat), (dg x.natAbs).length ≤ 24 → (dg y.natAbs).length ≤ 24 → (dg d).length ≤ 24 → (dg e).length ≤ 24 →
      ((M_spec_l02Mul (dg x.natAbs) (dg e)).bind fun r2 =>
      (M_spec_l03Make (decide (x < 0)) r2).bind fun r3 =>
      (M_spec_l02Mul (dg y.natAbs) (dg d)).bind fun r4 =>
      (M_spec_l03Make (decide (y < 0)) r4).bind fun r5 =>
      (M_spec_l03Add r3 r5).bind fun r6 =>
      (M_spec_l02Mul (dg d) (dg e)).bind fun r7 =>
      (M_spec_l04Low r6.neg r6.mag r7).bind fun r8 =>
      some r8) = some (if d * e = 0 then ro none else ro (chk (mkRat (x * e + y * d) (d * e)))) := by
    intro x y d e hx hy hd he
    have h1 := small24 hx he
    have h2 := small24 hy hd
    have h3 := small24 hd he
    rw [spec_mul (by omega) (by omega), Option.bind_some, spec_make _ (by omega), Option.bind_some, spec_mul (by omega) (by omega), Option.bind_some, spec_make _ (by omega), Option.bind_some, sg_times, sg_times]
    have h4 := small_mul hx he
    have h5 := small_mul hy hd
    have h6 := small_add h4 h5
    rw [spec_bigAdd (by omega) (by omega), Option.bind_some, spec_mul (by omega) (by omega), Option.bind_some]
    show ((M_spec_l04Low (decide (x * e + y * d < 0)) (dg (x * e + y * d).natAbs) (dg (d * e))).bind fun r8 => some r8) = _
    by_cases h0 : d * e = 0
    · rw [h0, if_pos rfl, spec_low0 (by omega)]; rfl
    · rw [if_neg h0, spec_low h0 (by omega) (by omega), Option.bind_some, sg_self]
  cases o with
  | none =>
    obtain ⟨y, d, e1, e2, e3⟩ : ∃ (y : Int) (d : Nat), (ro p).neg = decide (y < 0) ∧ (ro p).mag = dg y.natAbs ∧ (ro p).den = dg d := by
      cases p with
      | none => exact ⟨0, 0, rfl, dg_zero.symm, dg_zero.symm⟩
      | some r => exact ⟨_, _, rfl, rfl, rfl⟩
    rw [e2] at hpm; rw [e3] at hpd
    have hl := long 0 y 0 d (by rw [show (0 : Int).natAbs = 0 from rfl, dg_zero]; simp) hpm (by rw [dg_zero]; simp) hpd
    rw [Nat.zero_mul, if_pos rfl] at hl
    unfold M_spec_l04Add
    rw [ro_none_dg, spec_isOne, Option.bind_some, decide_eq_false (by omega), cond_false, e1, e2, e3]
    exact hl
  | some q =>
    have fq := ho q rfl
    cases p with
    | none =>
      have hl := long q.num 0 q.den 0 fq.1 (by rw [show (0 : Int).natAbs = 0 from rfl, dg_zero]; simp) fq.2 (by rw [dg_zero]; simp)
      rw [Nat.mul_zero, if_pos rfl] at hl
      unfold M_spec_l04Add
      rw [show (ro (some q)).den = dg q.den from rfl, spec_isOne, Option.bind_some, ro_none_dg, spec_isOne]
      cases decide (q.den = 1) with
      | false => exact hl
      | true => simp only [cond_true, Option.bind_some, decide_eq_false (show ¬ (0 : Nat) = 1 by omega), cond_false]; exact hl
    | some r =>
      have fr := hp r rfl
      have hl := long q.num r.num q.den r.den fq.1 fr.1 fq.2 fr.2
      rw [if_neg (Nat.mul_ne_zero q.den_nz r.den_nz), mk_add] at hl
      unfold M_spec_l04Add
      rw [show (ro (some q)).den = dg q.den from rfl, spec_isOne, Option.bind_some, show (ro (some r)).den = dg r.den from rfl, spec_isOne]
      by_cases hq1 : q.den = 1
      · rw [decide_eq_true hq1, cond_true, Option.bind_some]
        by_cases hr1 : r.den = 1
        · rw [decide_eq_true hr1, cond_true]
          show ((M_spec_l03Add (bg q.num) (bg r.num)).bind _) = _
          have h6 := small_add fq.1 fr.1
          rw [spec_bigAdd (by have := fq.1; omega) (by have := fr.1; omega), Option.bind_some, ← dg_one1]
          show ((M_spec_l04Low (decide (q.num + r.num < 0)) (dg (q.num + r.num).natAbs) (dg 1)).bind fun r8 => some r8) = _
          have := mk_add_same q r (by rw [hq1, hr1])
          rw [spec_low (by omega) (by omega) (by rw [dg_one1]; simp), Option.bind_some, sg_self]
          rw [hq1] at this
          rw [this]; rfl
        · rw [decide_eq_false hr1, cond_false]; exact hl
      · rw [decide_eq_false hq1, cond_false]; exact hl
end Go.Di
/-
  Own work. Plain laws: fractions that are valid; whole numbers as fractions.
-/
namespace Go.Di

/-- A valid fraction. -/
def Good (r : Rt) : Prop := ∃ q : Rat, Fit q ∧ r = rq q
theorem Fit.good {q : Rat} (h : Fit q) : Good (rq q) := ⟨q, h, rfl⟩
theorem Good.ro {r : Rt} (h : Good r) : ∃ q : Rat, Fit q ∧ r = ro (some q) := h

theorem rq_inj {p q : Rat} (h : rq p = rq q) : p = q := by
  unfold rq at h
  injection h with h1 h2 h3
  have h4 := dg_inj h2
  have h5 := dg_inj h3
  have h6 : p.num = q.num := by
    have := sg_self p.num
    rw [h1, h4, sg_self] at this; exact this.symm
  exact Rat.ext h6 h5

/-- What the validity of a fraction asks for, one after the other. -/
def GoodP (r : Rt) : Prop := NatOk r.mag ∧ (r.mag ≠ [] ∨ r.neg = false) ∧ NatOk r.den ∧ r.den ≠ [] ∧ r.mag.length ≤ 24 ∧ r.den.length ≤ 24 ∧ Nat.gcd (nv r.den).toNat (nv r.mag).toNat = 1
theorem good_iff {r : Rt} : Good r ↔ GoodP r := by
  constructor
  · rintro ⟨q, hf, rfl⟩
    have h24 := hf.1
    have h24' := hf.2
    refine ⟨⟨dg_can _, by show (dg q.num.natAbs).length ≤ 60; omega⟩, ?_, ⟨dg_can _, by show (dg q.den).length ≤ 60; omega⟩, fun h => q.den_nz (dg_nil.1 h), h24, h24', ?_⟩
    · by_cases h : q.num < 0
      · left; intro e; have := dg_nil.1 e; omega
      · right; exact decide_eq_false h
    · show Nat.gcd (nv (dg q.den)).toNat (nv (dg q.num.natAbs)).toNat = 1
      rw [nv_dg, nv_dg, Int.toNat_natCast, Int.toNat_natCast, Nat.gcd_comm]; exact q.reduced
  · rintro ⟨⟨h1, _⟩, h2, ⟨h3, _⟩, h4, h5, h6, h7⟩
    obtain ⟨neg, mag, den⟩ := r
    simp only at h1 h2 h3 h4 h5 h6 h7
    have e1 := h1.dg
    have e2 := h3.dg
    generalize (nv mag).toNat = m at *
    generalize (nv den).toNat = d at *
    subst e1; subst e2
    have hd : d ≠ 0 := fun h => h4 (by rw [h, dg_zero])
    let q : Rat := Rat.mk' (sg neg m) d hd (by rw [sg_abs]; show Nat.gcd m d = 1; rw [Nat.gcd_comm]; exact h7)
    refine ⟨q, ⟨by show (dg (sg neg m).natAbs).length ≤ 24; rw [sg_abs]; exact h5, h6⟩, ?_⟩
    show _ = (⟨decide (sg neg m < 0), dg (sg neg m).natAbs, dg d⟩ : Rt)
    rw [sg_abs]
    by_cases hm : m = 0
    · subst hm
      rcases h2 with h2 | h2
      · exact absurd dg_zero h2
      · rw [h2]; rfl
    · rw [sg_neg hm]

theorem lenB {a : List Int} : ((a.length : Int) == 0) = pB (a = []) := by
  rw [Bool.eq_iff_iff, pB_iff]; simp
theorem lenP {a : List Int} : decide ((a.length : Int) > 0) = pB (a ≠ []) := by
  rw [Bool.eq_iff_iff, pB_iff]; simp [List.length_pos_iff]
theorem pB_and {p q : Prop} : pB (p ∧ q) = (pB p && pB q) := by rw [Bool.eq_iff_iff, Bool.and_eq_true, pB_iff, pB_iff, pB_iff]
theorem pB_or {p q : Prop} : pB (p ∨ q) = (pB p || pB q) := by rw [Bool.eq_iff_iff, Bool.or_eq_true, pB_iff, pB_iff, pB_iff]
theorem pB_ne {p : Prop} : pB (¬ p) = !pB p := by
  cases h : pB p with
  | true => have := pB_iff.1 h; show pB (¬ p) = false; rw [pB_not]; exact fun k => k this
  | false => have := pB_not.1 h; exact pB_iff.2 this
theorem pB_dec {p : Prop} [Decidable p] : pB p = decide p := by rw [Bool.eq_iff_iff, pB_iff, decide_eq_true_iff]
theorem pB_eqB {α : Type} {a b : α} : pB (a = b) = eqB a b := rfl

theorem gcdOne {d m : Nat} {x : Option (List Int)} (h : x = some (dg (Nat.gcd d m))) {k : List Int → Option Bool} (hk : ∀ g : Nat, k (dg g) = some (decide (g = 1))) :
    (x.bind fun r3 => (k r3).bind fun r4 => some r4) = some (decide (Nat.gcd d m = 1)) := by
  rw [h, Option.bind_some, hk]; rfl

theorem impl_ratOk {r : Rt} (h : r.fit) : M_impl_RatOk r = some (pB (Good r)) := by
  rw [pB_congr good_iff]
  unfold M_impl_RatOk M_impl_BigIntOk
  rw [impl_natOk h.1, impl_natOk h.2, lenP, lenB, le24, le24]
  simp only [Option.bind_some]
  unfold GoodP
  by_cases h1 : NatOk r.mag
  · rw [pB_iff.2 h1, cond_true]
    by_cases h2 : r.mag ≠ [] ∨ r.neg = false
    · have hb : cond (pB (r.mag ≠ [])) (some true) (some (!r.neg)) = some true := by
        rcases h2 with h2 | h2
        · rw [pB_iff.2 h2]; rfl
        · rw [h2]; cases pB (r.mag ≠ []) <;> rfl
      rw [hb]
      simp only [Option.bind_some, Bool.not_true, cond_false]
      by_cases h3 : NatOk r.den
      · rw [pB_iff.2 h3]
        simp only [Bool.not_true, cond_false]
        by_cases h4 : r.den = []
        · rw [pB_iff.2 h4, cond_true]; symm; rw [pB_not.2 (fun k => k.2.2.2.1 h4)]
        · rw [pB_not.2 h4, cond_false]
          by_cases h5 : r.mag.length ≤ 24
          · rw [decide_eq_true h5]
            simp only [Bool.not_true, cond_false]
            by_cases h6 : r.den.length ≤ 24
            · rw [decide_eq_true h6]
              simp only [Bool.not_true, cond_false]
              have e1 := h1.1.dg
              have e2 := h3.1.dg
              have hd0 : 0 < (nv r.den).toNat := by
                rcases Nat.eq_zero_or_pos (nv r.den).toNat with h | h
                · rw [h, dg_zero] at e2; exact absurd e2 h4
                · exact h
              have hg := impl_gcd (m := (nv r.den).toNat) (n := (nv r.mag).toNat) (by rw [← e2]; omega) (by rw [← e1]; omega) hd0
              rw [← e2, ← e1] at hg
              rw [gcdOne hg impl_isOne, ← pB_dec]
              congr 1
              exact pB_congr ⟨fun h => ⟨h1, h2, h3, h4, h5, h6, h⟩, fun h => h.2.2.2.2.2.2⟩
            · rw [decide_eq_false h6]; symm; rw [pB_not.2 (fun k => h6 k.2.2.2.2.2.1)]; rfl
          · rw [decide_eq_false h5]; symm; rw [pB_not.2 (fun k => h5 k.2.2.2.2.1)]; rfl
      · rw [pB_not.2 h3]; symm; rw [pB_not.2 (fun k => h3 k.2.2.1)]; rfl
    · have hb : cond (pB (r.mag ≠ [])) (some true) (some (!r.neg)) = some false := by
        have h3 : ¬ r.mag ≠ [] := fun h => h2 (.inl h)
        have h4 : r.neg = true := by
          cases hn : r.neg with
          | true => rfl
          | false => exact absurd (.inr hn) h2
        rw [pB_not.2 h3, h4]; rfl
      rw [hb]; symm; rw [pB_not.2 (fun k => h2 k.2.1)]; rfl
  · rw [pB_not.2 h1]; symm; rw [pB_not.2 (fun k => h1 k.1)]; rfl

theorem spec_ratOk {r : Rt} (h : r.fit) : M_spec_RatOk r = some (pB (Good r)) := by
  rw [pB_congr good_iff]
  unfold M_spec_RatOk M_spec_BigIntOk
  rw [spec_natOk h.1, spec_natOk h.2, lenP, lenB, le24, le24]
  simp only [Option.bind_some]
  unfold GoodP
  by_cases h1 : NatOk r.mag
  · rw [pB_iff.2 h1, cond_true]
    by_cases h2 : r.mag ≠ [] ∨ r.neg = false
    · have hb : cond (!r.neg) (some true) (some (pB (r.mag ≠ []))) = some true := by
        rcases h2 with h2 | h2
        · rw [pB_iff.2 h2]; cases r.neg <;> rfl
        · rw [h2]; rfl
      rw [hb]
      simp only [Option.bind_some, Bool.not_true, cond_false]
      by_cases h3 : NatOk r.den
      · rw [pB_iff.2 h3]
        simp only [Bool.not_true, cond_false]
        by_cases h4 : r.den = []
        · rw [pB_iff.2 h4, cond_true]; symm; rw [pB_not.2 (fun k => k.2.2.2.1 h4)]
        · rw [pB_not.2 h4, cond_false]
          by_cases h6 : r.den.length ≤ 24
          · rw [decide_eq_true h6]
            simp only [Bool.not_true, cond_false]
            by_cases h5 : r.mag.length ≤ 24
            · rw [decide_eq_true h5]
              simp only [Bool.not_true, cond_false]
              have e1 := h1.1.dg
              have e2 := h3.1.dg
              have hg := spec_gcd (m := (nv r.mag).toNat) (n := (nv r.den).toNat) (by rw [← e1]; omega) (by rw [← e2]; omega)
              rw [← e2, ← e1] at hg
              rw [gcdOne hg spec_isOne, ← pB_dec]
              congr 1
              exact pB_congr ⟨fun h => ⟨h1, h2, h3, h4, h5, h6, by rw [Nat.gcd_comm]; exact h⟩, fun h => by rw [Nat.gcd_comm]; exact h.2.2.2.2.2.2⟩
            · rw [decide_eq_false h5]; symm; rw [pB_not.2 (fun k => h5 k.2.2.2.2.1)]; rfl
          · rw [decide_eq_false h6]; symm; rw [pB_not.2 (fun k => h6 k.2.2.2.2.2.1)]; rfl
      · rw [pB_not.2 h3]; symm; rw [pB_not.2 (fun k => h3 k.2.2.1)]; rfl
    · have hb : cond (!r.neg) (some true) (some (pB (r.mag ≠ []))) = some false := by
        have h3 : ¬ r.mag ≠ [] := fun h => h2 (.inl h)
        have h4 : r.neg = true := by
          cases hn : r.neg with
          | true => rfl
          | false => exact absurd (.inr hn) h2
        rw [pB_not.2 h3, h4]; rfl
      rw [hb]; symm; rw [pB_not.2 (fun k => h2 k.2.1)]; rfl
  · rw [pB_not.2 h1]; symm; rw [pB_not.2 (fun k => h1 k.1)]; rfl

theorem good_rq {q : Rat} (h : Fit q) : pB (Good (rq q)) = true := pB_iff.2 ⟨q, h, rfl⟩
theorem good_ro {o : Option Rat} (h : Oks o) : pB (Good (ro o)) = o.isSome := by
  cases o with
  | none =>
    rw [Option.isSome_none, pB_not]
    rintro ⟨q, _, hq⟩
    have := congrArg Rt.den hq
    exact q.den_nz (dg_nil.1 (show dg q.den = [] from this.symm))
  | some q => rw [Option.isSome_some]; exact good_rq (h q rfl)
theorem impl_okO {o : Option Rat} (h : Oks o) : M_impl_RatOk (ro o) = some o.isSome := by rw [impl_ratOk (ro_fit h), good_ro h]
theorem spec_okO {o : Option Rat} (h : Oks o) : M_spec_RatOk (ro o) = some o.isSome := by rw [spec_ratOk (ro_fit h), good_ro h]

/-! ### Whole numbers -/
theorem impl_bigOf {n : Int} (h1 : -9223372036854775808 ≤ n) (h2 : n ≤ 9223372036854775807) : M_impl_BigIntOf n = some (bg n) := by
  unfold M_impl_BigIntOf
  by_cases h : n ≥ 0
  · rw [decide_eq_true h, cond_true, impl_natOf h2, Option.bind_some, impl_signed, Option.bind_some]
    congr 2
    simp only [sg, cond_false]; omega
  · rw [decide_eq_false h, cond_false, wrap_i64 (n := n + 1) (by omega) (by omega), wrap_i64 (n := 0 - (n + 1)) (by omega) (by omega), impl_natOf (by omega), Option.bind_some, ← dg_one1]
    have hs := len_small (show (0 - (n + 1)).toNat ≤ 9223372036854775807 by omega)
    rw [impl_add (by omega) (by rw [dg_one1]; simp), Option.bind_some, impl_signed, Option.bind_some]
    congr 2
    simp only [sg, cond_true]; omega
theorem min_dg : ([854775808, 223372036, 9] : List Int) = dg 9223372036854775808 := by
  refine eq_dg ⟨fun d hd => ?_, by simp [Top0]⟩ (by simp [nv])
  simp at hd
  omega
theorem spec_bigOf {n : Int} (h1 : -9223372036854775808 ≤ n) (h2 : n ≤ 9223372036854775807) : M_spec_BigIntOf n = some (bg n) := by
  unfold M_spec_BigIntOf
  by_cases h : n = -9223372036854775808
  · have hb : (n == -9223372036854775808) = true := by rw [beq_iff_eq]; exact h
    obtain ⟨K, hK, hKv⟩ : ∃ K : Nat, ([854775808, 223372036, 9] : List Int) = dg K ∧ K = n.natAbs := ⟨_, min_dg, by omega⟩
    have hl : (dg K).length ≤ 60 := by rw [← hK]; simp
    rw [hb, cond_true, hK, spec_make _ hl, Option.bind_some]
    congr 2
    simp only [sg, cond_true]; omega
  · have hb : (n == -9223372036854775808) = false := by rw [beq_eq_false_iff_ne]; exact h
    rw [hb, cond_false]
    by_cases h0 : n < 0
    · rw [decide_eq_true h0, cond_true, wrap_i64 (n := 0 - n) (by omega) (by omega), spec_natOf (by omega), Option.bind_some]
      have hs := len_small (show (0 - n).toNat ≤ 9223372036854775807 by omega)
      rw [spec_make _ (by omega), Option.bind_some]
      congr 2
      simp only [sg, cond_true]; omega
    · rw [decide_eq_false h0, cond_false, spec_natOf h2, Option.bind_some]
      have hs := len_small (show n.toNat ≤ 9223372036854775807 by omega)
      rw [spec_make _ (by omega), Option.bind_some]
      congr 2
      simp only [sg, cond_false]; omega

theorem len_i64 {n : Int} (h1 : -9223372036854775808 ≤ n) (h2 : n ≤ 9223372036854775807) : (dg n.natAbs).length ≤ 3 := len_dg.2 (by simp [bp]; omega)
theorem fit_int {n : Int} (h1 : -9223372036854775808 ≤ n) (h2 : n ≤ 9223372036854775807) : Fit (n : Rat) := by
  unfold Fit
  rw [Rat.num_intCast, Rat.den_intCast, dg_one1]
  exact ⟨by have := len_i64 h1 h2; omega, by simp⟩
theorem rq_int (n : Int) : rq (n : Rat) = ⟨(bg n).neg, (bg n).mag, [1]⟩ := by
  unfold rq bg
  rw [Rat.num_intCast, Rat.den_intCast, dg_one1]

theorem bg_natOk {z : Int} (h : (dg z.natAbs).length ≤ 60) : NatOk (bg z).mag := ⟨dg_can _, h⟩
theorem impl_bgOk {z : Int} (h : (dg z.natAbs).length ≤ 60) : M_impl_BigIntOk (bg z) = some true := by
  unfold M_impl_BigIntOk
  rw [impl_natOk (by show (dg z.natAbs).length ≤ 1048576; omega), pB_iff.2 (bg_natOk h), Option.bind_some, cond_true]
  show cond (decide (((dg z.natAbs).length : Int) > 0)) (some true) (some (!decide (z < 0))) = some true
  rw [dg_lenpos]
  by_cases h0 : z.natAbs ≠ 0
  · rw [decide_eq_true h0]; rfl
  · rw [decide_eq_false h0, decide_eq_false (by omega)]; rfl
theorem spec_bgOk {z : Int} (h : (dg z.natAbs).length ≤ 60) : M_spec_BigIntOk (bg z) = some true := by
  unfold M_spec_BigIntOk
  rw [spec_natOk (by show (dg z.natAbs).length ≤ 1048576; omega), pB_iff.2 (bg_natOk h), Option.bind_some, cond_true]
  show cond (!decide (z < 0)) (some true) (some (decide (((dg z.natAbs).length : Int) > 0))) = some true
  rw [dg_lenpos]
  by_cases h0 : z < 0
  · rw [decide_eq_true (show z.natAbs ≠ 0 by omega)]; cases !decide (z < 0) <;> rfl
  · rw [decide_eq_false h0]; rfl

theorem impl_copyRat {r : Rt} (h : r.mag.length ≤ 1048576 ∧ r.den.length ≤ 1048576) : M_impl_copyRat r = some r := by
  unfold M_impl_copyRat
  rw [impl_copy (by omega), Option.bind_some, impl_copy (by omega), Option.bind_some]
theorem spec_copyRat {r : Rt} (h : r.mag.length ≤ 1048576 ∧ r.den.length ≤ 1048576) : M_spec_l04Copy r = some r := by
  unfold M_spec_l04Copy
  rw [room (by omega), Option.bind_some, room (by omega), Option.bind_some]

/-- A quotient of integers. -/
theorem sg_quot (x y : Int) (hy : y ≠ 0) : mkRat (sg (!(decide (x < 0) == decide (y < 0))) x.natAbs) y.natAbs = (x : Rat) / (y : Rat) := by
  have hyr : (y : Rat) ≠ 0 := by intro h; exact hy (Rat.intCast_inj.1 h)
  have hd := mk_div (x : Rat) (y : Rat) hyr
  rw [Rat.num_intCast, Rat.num_intCast, Rat.den_intCast, Rat.den_intCast, Nat.one_mul] at hd
  rw [← hd]
  congr 1
  by_cases h1 : x < 0 <;> by_cases h2 : y < 0
  · rw [decide_eq_true h1, decide_eq_true h2]; simp only [sg, beq_self_eq_true, Bool.not_true, cond_true, cond_false]; omega
  · rw [decide_eq_true h1, decide_eq_false h2]; simp [sg]; omega
  · rw [decide_eq_false h1, decide_eq_true h2]; simp [sg]; omega
  · rw [decide_eq_false h1, decide_eq_false h2]; simp only [sg, beq_self_eq_true, Bool.not_true, cond_false]; omega
theorem impl_make {x y : Int} (hx : (dg x.natAbs).length ≤ 60) (hy : (dg y.natAbs).length ≤ 60) (h0 : y ≠ 0) : M_impl_RatMake (bg x) (bg y) = some (ro (chk ((x : Rat) / (y : Rat)))) := by
  unfold M_impl_RatMake
  rw [impl_bgOk hx, Option.bind_some, impl_bgOk hy, Option.bind_some]
  simp only [Bool.not_true, cond_false]
  show cond (((dg y.natAbs).length : Int) == 0) _ ((M_impl_signed (!(decide (x < 0) == decide (y < 0))) (dg x.natAbs)).bind fun r2 => (M_impl_lowest r2 (dg y.natAbs)).bind _) = _
  rw [dg_len0, decide_eq_false (show ¬ y.natAbs = 0 by omega), cond_false, impl_signed', Option.bind_some, impl_lowest' (by omega) (by rw [sg_abs]; omega) (by omega), Option.bind_some, sg_quot x y h0, impl_copyRat (ro_fit (oks_chk _)), Option.bind_some]
theorem spec_ratMake {x y : Int} (hx : (dg x.natAbs).length ≤ 60) (hy : (dg y.natAbs).length ≤ 60) (h0 : y ≠ 0) : M_spec_RatMake (bg x) (bg y) = some (ro (chk ((x : Rat) / (y : Rat)))) := by
  unfold M_spec_RatMake
  rw [spec_bgOk hx, Option.bind_some, spec_bgOk hy, Option.bind_some]
  simp only [Bool.not_true, cond_false]
  show ((M_spec_l04Low (!(decide (x < 0) == decide (y < 0))) (dg x.natAbs) (dg y.natAbs)).bind _) = _
  rw [spec_low (by omega) (by omega) (by omega), Option.bind_some, sg_quot x y h0]
theorem impl_ratOf {x y : Int} (h1 : -9223372036854775808 ≤ x) (h2 : x ≤ 9223372036854775807) (h3 : -9223372036854775808 ≤ y) (h4 : y ≤ 9223372036854775807) (h0 : y ≠ 0) : M_impl_RatOf x y = some (ro (chk ((x : Rat) / (y : Rat)))) := by
  unfold M_impl_RatOf
  have := len_i64 h1 h2
  have := len_i64 h3 h4
  rw [impl_bigOf h1 h2, Option.bind_some, impl_bigOf h3 h4, Option.bind_some, impl_make (by omega) (by omega) h0, Option.bind_some]
theorem spec_ratOf {x y : Int} (h1 : -9223372036854775808 ≤ x) (h2 : x ≤ 9223372036854775807) (h3 : -9223372036854775808 ≤ y) (h4 : y ≤ 9223372036854775807) (h0 : y ≠ 0) : M_spec_RatOf x y = some (ro (chk ((x : Rat) / (y : Rat)))) := by
  unfold M_spec_RatOf
  have := len_i64 h1 h2
  have := len_i64 h3 h4
  rw [spec_bigOf h1 h2, Option.bind_some, spec_bigOf h3 h4, Option.bind_some, spec_ratMake (by omega) (by omega) h0, Option.bind_some]
theorem impl_ratInt {n : Int} (h1 : -9223372036854775808 ≤ n) (h2 : n ≤ 9223372036854775807) : M_impl_RatFromInt n = some (ro (some (n : Rat))) := by
  unfold M_impl_RatFromInt
  rw [impl_ratOf h1 h2 (by omega) (by omega) (by omega), Option.bind_some]
  have : (n : Rat) / ((1 : Int) : Rat) = (n : Rat) := by
    rw [Rat.intCast_one, Rat.div_def, Rat.inv_eq_of_mul_eq_one (a := 1) (b := 1) (Rat.mul_one 1), Rat.mul_one]
  rw [this, chk_fit (fit_int h1 h2)]
theorem impl_whole {n : Int} (h1 : -9223372036854775808 ≤ n) (h2 : n ≤ 9223372036854775807) : M_impl_whole n = some (ro (some (n : Rat))) := by
  unfold M_impl_whole
  rw [impl_ratInt h1 h2]; rfl
theorem spec_ratInt {n : Int} (h1 : -9223372036854775808 ≤ n) (h2 : n ≤ 9223372036854775807) : M_spec_RatFromInt n = some (ro (some (n : Rat))) := by
  unfold M_spec_RatFromInt
  rw [spec_bigOf h1 h2, Option.bind_some]
  exact congrArg some (rq_int n).symm
end Go.Di
/-
  Own work. Plain laws: names, stations, matrices, networks that are valid; unknowns.
-/
namespace Go.Di

/-! ### Names -/
def cb (s : ByteArray) (i : Nat) : Int := ((s.data[i]?).map fun b => (b.toNat : Int)).getD 0
theorem strAt_at {s : ByteArray} {i : Nat} (h : i < s.size) : strAt s (i : Int) = some (cb s i) := by
  have h' : i < s.data.size := h
  unfold strAt cb
  rw [if_pos (by omega), Int.toNat_natCast, Array.getElem?_eq_getElem h']; rfl
def letB (b : Int) : Bool := decide (97 ≤ b) && decide (b ≤ 122)
def digitB (b : Int) : Bool := decide (48 ≤ b) && decide (b ≤ 57)
def nmP (s : ByteArray) (i : Nat) : Bool := letB (cb s i) || (decide (i ≠ 0) && digitB (cb s i))
def nmQ (s : ByteArray) (i : Nat) : Bool := letB (cb s i) || digitB (cb s i)
def nameB (s : ByteArray) : Bool := decide (1 ≤ s.size) && (decide (s.size ≤ 8) && (List.range s.size).all (nmP s))

theorem lt_not (b c : Int) : decide (b < c) = !decide (c ≤ b) := by rw [Bool.eq_iff_iff]; simp
theorem gt_not (b c : Int) : decide (b > c) = !decide (b ≤ c) := by rw [Bool.eq_iff_iff]; simp
theorem ge_le (b c : Int) : decide (b ≥ c) = decide (c ≤ b) := rfl
theorem ne_not {p : Prop} [Decidable p] : decide (¬ p) = !decide p := by by_cases h : p <;> simp [h]
theorem wrap_nat {i n : Nat} (h : i < n) (hn : n ≤ 4611686018427387904) : IntKind.i64.wrap ((i : Int) + 1) = ((i + 1 : Nat) : Int) := by
  rw [wrap_i64 (by omega) (by omega)]; simp

theorem spec_isName {s : ByteArray} (h : s.size ≤ 1048576) : M_spec_IsName s = some (nameB s) := by
  unfold M_spec_IsName L_spec_IsName_0
  have key := all_loopE (S := S_spec_IsName_0) (fun i => (s, (i : Int), ())) s.size (nmP s) (s, ()) (fun i hi => by
    have hw := wrap_nat hi (by omega)
    simp only [S_spec_IsName_0, dlt hi, cond_true, strAt_at hi, Option.bind_some, hw, nmP, letB, digitB]
    have h0 : ((i : Int) == 0) = decide (i = 0) := by rw [Bool.eq_iff_iff]; simp
    rw [h0, lt_not, gt_not, ge_le, show decide (i ≠ 0) = !decide (i = 0) from ne_not]
    generalize cb s i = b
    cases decide (97 ≤ b) <;> cases decide (b ≤ 122) <;> cases decide (i = 0) <;> cases decide (48 ≤ b) <;> cases decide (b ≤ 57) <;> rfl) (by simp [S_spec_IsName_0])
  rw [show ((0 : Int)) = ((0 : Nat) : Int) from rfl, key]
  unfold nameB M_spec_l01In
  have e1 : decide ((s.size : Int) ≥ 1) = decide (1 ≤ s.size) := by rw [Bool.eq_iff_iff]; simp; omega
  have e2 : decide ((s.size : Int) ≤ 8) = decide (s.size ≤ 8) := by rw [Bool.eq_iff_iff]; simp; omega
  cases hall : (List.range s.size).all (nmP s) with
  | true => simp only [cond_true, Option.bind_some, e1, e2]; cases decide (1 ≤ s.size) <;> cases decide (s.size ≤ 8) <;> rfl
  | false => simp only [cond_false, Option.bind_some]; cases decide (1 ≤ s.size) <;> cases decide (s.size ≤ 8) <;> rfl

theorem impl_isName {s : ByteArray} : M_impl_IsName s = some (nameB s) := by
  unfold M_impl_IsName nameB
  by_cases h1 : 1 ≤ s.size
  · rw [decide_eq_false (show ¬ (s.size : Int) < 1 by omega), cond_false, decide_eq_true h1]
    by_cases h2 : s.size ≤ 8
    · rw [decide_eq_false (show ¬ (s.size : Int) > 8 by omega), cond_false, decide_eq_true h2, show ((0 : Int)) = ((0 : Nat) : Int) from rfl, strAt_at (show 0 < s.size by omega)]
      simp only [Option.bind_some]
      unfold L_impl_IsName_0
      have key := all_loopE (S := S_impl_IsName_0) (fun i => (s, (i : Int), ())) s.size (nmQ s) () (fun i hi => by
        have hw := wrap_nat hi (by omega)
        simp only [S_impl_IsName_0, dlt hi, cond_true, strAt_at hi, Option.bind_some, hw, nmQ, letB, digitB]
        rw [lt_not, lt_not, gt_not, gt_not]
        generalize cb s i = b
        cases decide (97 ≤ b) <;> cases decide (b ≤ 122) <;> cases decide (48 ≤ b) <;> cases decide (b ≤ 57) <;> rfl) (by simp [S_impl_IsName_0])
      rw [key]
      have hall : (letB (cb s 0) && (List.range s.size).all (nmQ s)) = (List.range s.size).all (nmP s) := by
        rw [Bool.eq_iff_iff, Bool.and_eq_true, List.all_eq_true, List.all_eq_true]
        constructor
        · rintro ⟨k1, k2⟩ i hi
          have := k2 i hi
          unfold nmQ at this
          unfold nmP
          by_cases h0 : i = 0
          · subst h0; rw [k1]; rfl
          · rw [decide_eq_true h0, Bool.true_and]; exact this
        · intro k
          refine ⟨?_, fun i hi => ?_⟩
          · have := k 0 (List.mem_range.2 (by omega))
            unfold nmP at this
            simpa using this
          · have := k i hi
            unfold nmP at this
            unfold nmQ
            rw [Bool.or_eq_true] at *
            rcases this with h | h
            · exact .inl h
            · rw [Bool.and_eq_true] at h; exact .inr h.2
      rw [← hall]
      unfold letB
      by_cases a1 : cb s 0 < 97
      · rw [decide_eq_true a1, decide_eq_false (show ¬ 97 ≤ cb s 0 by omega)]; rfl
      · rw [decide_eq_false a1, decide_eq_true (show 97 ≤ cb s 0 by omega), cond_false]
        by_cases a2 : cb s 0 > 122
        · rw [decide_eq_true a2, decide_eq_false (show ¬ cb s 0 ≤ 122 by omega)]; rfl
        · rw [decide_eq_false a2, decide_eq_true (show cb s 0 ≤ 122 by omega), cond_false]
          cases (List.range s.size).all (nmQ s) <;> rfl
    · rw [decide_eq_true (show (s.size : Int) > 8 by omega), decide_eq_false h2]; rfl
  · rw [decide_eq_true (show (s.size : Int) < 1 by omega), decide_eq_false h1]; rfl
theorem nameB_size {s : ByteArray} (h : nameB s = true) : s.size ≤ 8 := by
  unfold nameB at h
  simp only [Bool.and_eq_true, decide_eq_true_eq] at h
  exact h.2.1

/-! ### Stations, matrices -/
noncomputable def staB (s : Sta) (plane : Bool) : Bool := nameB s.name && (pB (Good s.x) && (pB (Good s.y) && (plane || ((s.y.mag.length : Int) == 0))))
theorem bind_and' {x : Option Bool} {a b : Bool} {k : Option Bool} (hx : x = some a) (h : k = some b) : (x.bind fun r => cond r k (some false)) = some (a && b) := bind_and hx h
theorem spec_staOk {s : Sta} (plane : Bool) (h : s.fit) (hn : s.name.size ≤ 1048576) : M_spec_StationOk s plane = some (staB s plane) := by
  unfold M_spec_StationOk staB
  refine bind_and (spec_isName hn) (bind_and (spec_ratOk h.1) (bind_and (spec_ratOk h.2) ?_))
  cases plane <;> rfl
theorem impl_staOk {s : Sta} (plane : Bool) (h : s.fit) : M_impl_StationOk s plane = some (staB s plane) := by
  unfold M_impl_StationOk staB
  refine bind_and impl_isName (bind_and (impl_ratOk h.1) (bind_and (impl_ratOk h.2) ?_))
  cases plane <;> rfl

noncomputable def goodB (r : Rt) : Bool := pB (Good r)
theorem spec_goods {l : List Rt} (h : lfit Rt.fit l) : whileO S_spec_MatrixOk_0 (l, (l.length : Int), 0, ()) = some (cond (l.all goodB) (.inr ()) (.inl (false, ()))) := by
  have key := all_loopE (S := S_spec_MatrixOk_0) (fun i => (l, (l.length : Int), (i : Int), ())) l.length (atB goodB l) () (fun i hi => by
    simp only [S_spec_MatrixOk_0, dlt hi, cond_true, idx_at hi, Option.bind_some, spec_ratOk (h.2 _ (List.getElem_mem hi)), succ_wrap hi h.1, atB_at goodB hi, goodB]
    cases pB (Good l[i]) <;> rfl) (by simp [S_spec_MatrixOk_0])
  rw [all_range] at key; exact key
theorem impl_goods {l : List Rt} (h : lfit Rt.fit l) : whileO S_impl_MatrixOk_0 (l, (l.length : Int), 0, ()) = some (cond (l.all goodB) (.inr ()) (.inl (false, ()))) := by
  have key := all_loopE (S := S_impl_MatrixOk_0) (fun i => (l, (l.length : Int), (i : Int), ())) l.length (atB goodB l) () (fun i hi => by
    simp only [S_impl_MatrixOk_0, dlt hi, cond_true, idx_at hi, Option.bind_some, impl_ratOk (h.2 _ (List.getElem_mem hi)), succ_wrap hi h.1, atB_at goodB hi, goodB]
    cases pB (Good l[i]) <;> rfl) (by simp [S_impl_MatrixOk_0])
  rw [all_range] at key; exact key
def inB (n lo hi : Int) : Bool := decide (n ≥ lo) && decide (n ≤ hi)
theorem spec_in (n lo hi : Int) : M_spec_l01In n lo hi = some (inB n lo hi) := by
  unfold M_spec_l01In inB; cases decide (n ≥ lo) <;> rfl
theorem impl_len (n : Int) : M_impl_isLength n = some (inB n 0 24) := by
  unfold M_impl_isLength inB; cases decide (n ≥ 0) <;> rfl
noncomputable def mxB (m : Mx) : Bool := inB m.rows 0 24 && (inB m.cols 0 24 && (((m.cells.length : Int) == IntKind.i64.wrap (m.rows * m.cols)) && m.cells.all goodB))
theorem chainN {x : Option Bool} {a b : Bool} {k : Option Bool} (hx : x = some a) (hk : k = some b) : (x.bind fun r => cond (!r) (some false) k) = some (a && b) := chain hx hk
theorem spec_mxOk {m : Mx} (h : lfit Rt.fit m.cells) : M_spec_MatrixOk m = some (mxB m) := by
  unfold M_spec_MatrixOk mxB L_spec_MatrixOk_0
  refine chain (spec_in ..) (chain (spec_in ..) ?_)
  rw [show ((m.cells.length : Int) != IntKind.i64.wrap (m.rows * m.cols)) = !((m.cells.length : Int) == IntKind.i64.wrap (m.rows * m.cols)) from rfl]
  refine chain0 ?_
  rw [spec_goods h]
  cases m.cells.all goodB <;> rfl
theorem impl_mxOk {m : Mx} (h : lfit Rt.fit m.cells) : M_impl_MatrixOk m = some (mxB m) := by
  unfold M_impl_MatrixOk mxB L_impl_MatrixOk_0
  refine chain (impl_len _) (chain (impl_len _) ?_)
  rw [show ((m.cells.length : Int) != IntKind.i64.wrap (m.rows * m.cols)) = !((m.cells.length : Int) == IntKind.i64.wrap (m.rows * m.cols)) from rfl]
  refine chain0 ?_
  rw [impl_goods h]
  cases m.cells.all goodB <;> rfl

/-! ### Networks -/
def Sta.fitN (s : Sta) : Prop := s.fit ∧ s.name.size ≤ 1048576
theorem Sta.fitN_of {s : Sta} (h : s.sz ≤ 1048576) : s.fitN := ⟨Sta.fit_of h, by unfold Sta.sz at h; omega⟩
theorem fitN_fit {l : List Sta} (h : lfit Sta.fitN l) : lfit Sta.fit l := ⟨h.1, fun x hx => (h.2 x hx).1⟩
noncomputable def netP (n : Net) (i : Nat) : Bool := match n.stations[i]? with
  | some s => staB s n.plane && (findSta n.stations s.name == (i : Int))
  | none => true
noncomputable def netB (n : Net) : Bool := decide (n.stations.length ≤ 8) && (List.range n.stations.length).all (netP n)
theorem le8 {n : Nat} : decide ((n : Int) > 8) = !decide (n ≤ 8) := by rw [Bool.eq_iff_iff]; simp; omega
theorem spec_netOk {n : Net} (h : lfit Sta.fitN n.stations) : M_spec_NetworkOk n = some (netB n) := by
  unfold M_spec_NetworkOk netB L_spec_NetworkOk_0
  rw [le8]
  refine chain0 ?_
  have key := all_loopE (S := S_spec_NetworkOk_0) (fun i => (n.stations, (n.stations.length : Int), (i : Int), n.plane, n.stations, ())) n.stations.length (netP n) () (fun i hi => by
    have hf := h.2 _ (List.getElem_mem hi)
    have he : netP n i = (staB n.stations[i] n.plane && (findSta n.stations n.stations[i].name == (i : Int))) := by unfold netP; rw [List.getElem?_eq_getElem hi]
    simp only [S_spec_NetworkOk_0, dlt hi, cond_true, idx_at hi, Option.bind_some, spec_staOk n.plane hf.1 hf.2, findStation_eq, impl_find (n := ⟨n.plane, n.stations⟩) (name := n.stations[i].name) h.1, succ_wrap hi h.1, he]
    cases staB n.stations[i] n.plane <;> simp only [Bool.not_true, Bool.not_false, cond_true, cond_false, Bool.true_and, Bool.false_and]
    rw [show (findSta n.stations n.stations[i].name != (i : Int)) = !(findSta n.stations n.stations[i].name == (i : Int)) from rfl]
    cases (findSta n.stations n.stations[i].name == (i : Int)) <;> rfl) (by simp [S_spec_NetworkOk_0])
  rw [show ((0 : Int)) = ((0 : Nat) : Int) from rfl, key]
  cases (List.range n.stations.length).all (netP n) <;> rfl
theorem impl_netOk {n : Net} (h : lfit Sta.fit n.stations) : M_impl_NetworkOk n = some (netB n) := by
  unfold M_impl_NetworkOk netB L_impl_NetworkOk_0
  rw [le8]
  refine chain0 ?_
  have key := all_loopE (S := S_impl_NetworkOk_0) (fun i => (n.stations, (n.stations.length : Int), (i : Int), n.plane, n.stations, ())) n.stations.length (netP n) () (fun i hi => by
    have hf := h.2 _ (List.getElem_mem hi)
    have he : netP n i = (staB n.stations[i] n.plane && (findSta n.stations n.stations[i].name == (i : Int))) := by unfold netP; rw [List.getElem?_eq_getElem hi]
    simp only [S_impl_NetworkOk_0, dlt hi, cond_true, idx_at hi, Option.bind_some, impl_staOk n.plane hf, impl_find (n := ⟨n.plane, n.stations⟩) (name := n.stations[i].name) h.1, succ_wrap hi h.1, he]
    cases staB n.stations[i] n.plane <;> simp only [Bool.not_true, Bool.not_false, cond_true, cond_false, Bool.true_and, Bool.false_and]
    rw [show (findSta n.stations n.stations[i].name != (i : Int)) = !(findSta n.stations n.stations[i].name == (i : Int)) from rfl]
    cases (findSta n.stations n.stations[i].name == (i : Int)) <;> rfl) (by simp [S_impl_NetworkOk_0])
  rw [show ((0 : Int)) = ((0 : Nat) : Int) from rfl, key]
  cases (List.range n.stations.length).all (netP n) <;> rfl
theorem netB_len {n : Net} (h : netB n = true) : n.stations.length ≤ 8 := by
  unfold netB at h
  rw [Bool.and_eq_true, decide_eq_true_eq] at h; exact h.1
theorem netB_sta {n : Net} (h : netB n = true) {i : Nat} (hi : i < n.stations.length) : staB n.stations[i] n.plane = true := by
  unfold netB at h
  rw [Bool.and_eq_true, List.all_eq_true] at h
  have := h.2 i (List.mem_range.2 hi)
  unfold netP at this
  rw [List.getElem?_eq_getElem hi, Bool.and_eq_true] at this
  exact this.1
end Go.Di
/-
  Own work. Plain laws: the statements' marks on lists of integers.
-/
namespace Go.Di

def upto (k : Int) (n : Nat) : List Int := (List.range n).map fun (i : Nat) => k + (i : Int)
@[simp] theorem len_upto (k : Int) (n : Nat) : (upto k n).length = n := by simp [upto]
theorem upto_at {k : Int} {n i : Nat} (h : i < n) : (upto k n)[i]'(by simpa using h) = k + i := by simp [upto]
theorem upto_succ (k : Int) (n : Nat) : upto k (n + 1) = upto k n ++ [k + n] := by simp [upto, List.range_succ]

theorem mark_ints {a : List Int} {k : Int} (ha : a.length ≤ 1048576) (h0 : 0 ≤ k) (h1 : k ≤ 1000000000000) : M_laws_markIntS_md a k = some (k + a.length, upto k a.length) := by
  unfold M_laws_markIntS_md L_laws_markIntS_md_0
  have key := whileO_upto S_laws_markIntS_md_0 (fun i => (k + (i : Int), (i : Int), upto k i ++ a.drop i, ())) a.length (k + (a.length : Int), upto k a.length, ()) (fun i hi => by
    have hl : (upto k i ++ a.drop i).length = a.length := by simp; omega
    have hlt : decide ((i : Int) < ((upto k i ++ a.drop i).length : Int)) = true := by rw [hl]; exact dlt hi
    have hi' : i < (upto k i ++ a.drop i).length := by rw [hl]; exact hi
    have e1 : IntKind.i64.wrap (k + (i : Int) + 1) = k + ((i + 1 : Nat) : Int) := by rw [wrap_i64 (by omega) (by omega)]; omega
    simp only [S_laws_markIntS_md_0, hlt, cond_true, idx_at hi', Option.bind_some, e1, succ_wrap hi ha, Int.toNat_natCast]
    congr 4
    rw [upto_succ, List.set_append_right _ _ (by simp), len_upto, Nat.sub_self, List.drop_eq_getElem_cons hi, List.set_cons_zero, List.append_assoc]
    rfl) (by simp [S_laws_markIntS_md_0])
  simp only [Int.natCast_zero, Int.add_zero] at key
  rw [show upto k 0 ++ a.drop 0 = a by simp [upto]] at key
  rw [key]; rfl

theorem held_ints {k : Int} {n : Nat} (hn : n ≤ 1048576) (h0 : 0 ≤ k) (h1 : k ≤ 1000000000000) : M_laws_heldIntS (upto k n) k = some (k + n) := by
  unfold M_laws_heldIntS L_laws_heldIntS_0
  have key := whileO_upto S_laws_heldIntS_0 (fun i => (upto k n, k + (i : Int), (i : Int), ())) n (.inr (k + (n : Int), ())) (fun i hi => by
    have hi' : i < (upto k n).length := by simpa using hi
    have hlt : decide ((i : Int) < ((upto k n).length : Int)) = true := dlt hi'
    have e1 : IntKind.i64.wrap (k + (i : Int) + 1) = k + ((i + 1 : Nat) : Int) := by rw [wrap_i64 (by omega) (by omega)]; omega
    have e2 : ((upto k n)[i] != k + (i : Int)) = false := by rw [upto_at hi]; simp
    simp only [S_laws_heldIntS_0, hlt, cond_true, idx_at hi', Option.bind_some, e1, succ_wrap hi hn, e2, cond_false]) (by simp [S_laws_heldIntS_0])
  simp only [Int.natCast_zero, Int.add_zero] at key
  rw [key]; rfl
end Go.Di
/-
  Own work, written by program (gen.py) out of the functions of the given program: what they compute, as plain Lean.
-/
namespace Go.Di
noncomputable def S_spec_l09Root_1 : (List Int) × (List Int) × Unit → Option (((List Int) × (List Int) × Unit) ⊕ ((List Int) × Unit)) := fun (a, x, _) =>
  (M_spec_l02Div a x).bind fun (r0, r1) =>
  (M_spec_l02Add x r0).bind fun r =>
  (M_spec_l02Trim r).bind fun r2 =>
  (M_spec_l02Div r2 ([2] : List Int)).bind fun (r0_1, r1_1) =>
  (M_spec_l02Trim r0_1).bind fun r3 =>
  (M_spec_l02Trim x).bind fun r4 =>
  (M_spec_l02Cmp r3 r4).bind fun r5 =>
  cond (decide (r5 ≥ 0))
    ((M_spec_l02Trim x).bind fun r6 =>
    (guardO (Nat.ble r6.length maxNew)).bind fun _ =>
    some (.inr (r6, ())))
    ((M_spec_l02Trim r0_1).bind fun r6 =>
    some (.inl (a, r6, ())))
noncomputable def L_spec_l09Root_1 (a : List Int) (x : List Int) : Option ((List Int) × Unit) := whileO S_spec_l09Root_1 (a, x, ())
noncomputable def S_spec_l09Root_0 : (List Int) × (List Int) × Unit → Option (((List Int) × (List Int) × Unit) ⊕ ((List Int) × (List Int) × Unit)) := fun (a, x, _) =>
  cond (decide ((x.length : Int) < (IntKind.i64.wrap ((IntKind.i64.wrap ((a.length : Int) + 1)).tdiv 2))))
    ((guardO (Nat.ble (x.length + 1) maxNew)).bind fun _ =>
    some (.inl (a, x ++ ([0] : List Int), ())))
    (some (.inr (a, x, ())))
noncomputable def L_spec_l09Root_0 (a : List Int) (x : List Int) : Option ((List Int) × (List Int) × Unit) := whileO S_spec_l09Root_0 (a, x, ())
noncomputable def M_spec_l09Root (a : List Int) : Option (List Int) :=
  cond ((a.length : Int) == 0)
    (some ([] : List Int))
    ((L_spec_l09Root_0 a ([] : List Int)).bind fun (a1, x, _) =>
    (guardO (Nat.ble (x.length + 1) maxNew)).bind fun _ =>
    (L_spec_l09Root_1 a1 (x ++ ([1] : List Int))).bind fun (t, _) =>
    some t)

noncomputable def M_spec_RootOfNat (a : List Int) : Option (List Int) :=
  (M_spec_NatOk a).bind fun r =>
  cond (!r)
    (some ([] : List Int))
    ((M_spec_l09Root a).bind fun r1 =>
    some r1)

noncomputable def S_impl_root_0 : (List Int) × (List Int) × Unit → Option (((List Int) × (List Int) × Unit) ⊕ ((List Int) × Unit)) := fun (a, x, _) =>
  (M_impl_natDiv a x).bind fun (r0, r1) =>
  (M_impl_natAdd x r0).bind fun r =>
  (M_impl_natDiv r ([2] : List Int)).bind fun (r0_1, r1_1) =>
  (M_impl_natCmp r0_1 x).bind fun r2 =>
  cond (decide (r2 ≥ 0))
    (some (.inr (x, ())))
    (some (.inl (a, r0_1, ())))
noncomputable def L_impl_root_0 (a : List Int) (x : List Int) : Option ((List Int) × Unit) := whileO S_impl_root_0 (a, x, ())
noncomputable def M_impl_root (a : List Int) : Option (List Int) :=
  cond ((a.length : Int) == 0)
    (some ([] : List Int))
    ((guardO (((decide (0 ≤ (IntKind.i64.wrap ((IntKind.i64.wrap ((IntKind.i64.wrap ((a.length : Int) + 1)).tdiv 2)) + 1)))) && (decide ((IntKind.i64.wrap ((IntKind.i64.wrap ((IntKind.i64.wrap ((a.length : Int) + 1)).tdiv 2)) + 1)) ≤ (IntKind.i64.wrap ((IntKind.i64.wrap ((IntKind.i64.wrap ((a.length : Int) + 1)).tdiv 2)) + 1))))) && (decide ((IntKind.i64.wrap ((IntKind.i64.wrap ((IntKind.i64.wrap ((a.length : Int) + 1)).tdiv 2)) + 1)) ≤ (maxNew : Int))))).bind fun _ =>
    (idx (List.replicate ((IntKind.i64.wrap ((IntKind.i64.wrap ((IntKind.i64.wrap ((a.length : Int) + 1)).tdiv 2)) + 1)).toNat) 0 : List Int) (IntKind.i64.wrap (((List.replicate ((IntKind.i64.wrap ((IntKind.i64.wrap ((IntKind.i64.wrap ((a.length : Int) + 1)).tdiv 2)) + 1)).toNat) 0 : List Int).length : Int) - 1))).bind fun _ =>
    (L_impl_root_0 a ((List.replicate ((IntKind.i64.wrap ((IntKind.i64.wrap ((IntKind.i64.wrap ((a.length : Int) + 1)).tdiv 2)) + 1)).toNat) 0 : List Int).set ((IntKind.i64.wrap (((List.replicate ((IntKind.i64.wrap ((IntKind.i64.wrap ((IntKind.i64.wrap ((a.length : Int) + 1)).tdiv 2)) + 1)).toNat) 0 : List Int).length : Int) - 1)).toNat) 1)).bind fun (t, _) =>
    some t)

noncomputable def M_impl_RootOfNat (a : List Int) : Option (List Int) :=
  (M_impl_NatOk a).bind fun r =>
  cond (!r)
    (some ([] : List Int))
    ((M_impl_root a).bind fun r1 =>
    some r1)

noncomputable def M_spec_RootBelow (r : Rt) : Option Rt :=
  (M_spec_RatOk r).bind fun r1 =>
  cond (!r1)
    (some (⟨false, ([] : List Int), ([] : List Int)⟩ : Rt))
    (cond r.neg
      (some (⟨false, ([] : List Int), ([] : List Int)⟩ : Rt))
      ((M_spec_RatFromInt 1000000000000).bind fun r2 =>
      (M_spec_l04Mul r r2).bind fun r3 =>
      (M_spec_l05Bad r3).bind fun r4 =>
      cond r4
        (some (⟨false, ([] : List Int), ([] : List Int)⟩ : Rt))
        ((M_spec_l02Div r3.mag r3.den).bind fun (r0, r1_1) =>
        (M_spec_l02Trim_c r0).bind fun r5 =>
        (M_spec_l09Root r5).bind fun r6 =>
        (M_spec_NatOf 1000000).bind fun r7 =>
        (M_spec_l04Low false r6 r7).bind fun r8 =>
        some r8)))

noncomputable def M_impl_RootBelow (r : Rt) : Option Rt :=
  (M_impl_RatOk r).bind fun r1 =>
  cond (!r1)
    (some (⟨false, ([] : List Int), ([] : List Int)⟩ : Rt))
    ((M_impl_sign r).bind fun r2 =>
    cond (decide (r2 < 0))
      (some (⟨false, ([] : List Int), ([] : List Int)⟩ : Rt))
      ((M_impl_whole 1000000).bind fun r3 =>
      (M_impl_mul r r3).bind fun r4 =>
      (M_impl_whole 1000000).bind fun r5 =>
      (M_impl_mul r4 r5).bind fun r6 =>
      (M_impl_void r6).bind fun r7 =>
      cond r7
        (some (⟨false, ([] : List Int), ([] : List Int)⟩ : Rt))
        ((M_impl_natDiv r6.mag r6.den).bind fun (r0, r1_1) =>
        (M_impl_root r0).bind fun r8 =>
        (M_impl_signed_dc false r8).bind fun r9 =>
        (M_impl_NatOf 1000000).bind fun r10 =>
        (M_impl_lowest_cc r9 r10).bind fun r11 =>
        some r11)))

noncomputable def M_spec_l09Floor (r : Rt) : Option Bg :=
  (M_spec_l02Div r.mag r.den).bind fun (r0, r1) =>
  (M_spec_l02Trim_c r0).bind fun r2 =>
  cond r.neg
    ((M_spec_l02Trim_c r1).bind fun r3 =>
    cond (decide ((r3.length : Int) > 0))
      ((M_spec_l02Add r2 ([1] : List Int)).bind fun r4 =>
      (M_spec_l02Trim_c r4).bind fun r5 =>
      (M_spec_l03Make r.neg r5).bind fun r6 =>
      some r6)
      ((M_spec_l03Make r.neg r2).bind fun r4 =>
      some r4))
    ((M_spec_l03Make r.neg r2).bind fun r3 =>
    some r3)

noncomputable def M_spec_RoundTo (r : Rt) (n : Int) : Option Rt :=
  (M_spec_RatOk r).bind fun r1 =>
  cond (!r1)
    (some (⟨false, ([] : List Int), ([] : List Int)⟩ : Rt))
    ((M_spec_l01In n 1 1000000).bind fun r2 =>
    cond (!r2)
      (some (⟨false, ([] : List Int), ([] : List Int)⟩ : Rt))
      ((M_spec_RatFromInt n).bind fun r3 =>
      (M_spec_l04Mul r r3).bind fun r4 =>
      (M_spec_RatOf 1 2).bind fun r5 =>
      (M_spec_l04Add r4 r5).bind fun r6 =>
      (M_spec_l05Bad r6).bind fun r7 =>
      cond r7
        (some (⟨false, ([] : List Int), ([] : List Int)⟩ : Rt))
        ((M_spec_l09Floor r6).bind fun r8 =>
        (M_spec_NatOf n).bind fun r9 =>
        (M_spec_l04Low r8.neg r8.mag r9).bind fun r10 =>
        some r10)))

noncomputable def M_impl_RoundTo (r : Rt) (n : Int) : Option Rt :=
  (M_impl_RatOk r).bind fun r1 =>
  cond (!r1)
    (some (⟨false, ([] : List Int), ([] : List Int)⟩ : Rt))
    (cond (decide (n < 1))
      (some (⟨false, ([] : List Int), ([] : List Int)⟩ : Rt))
      (cond (decide (n > 1000000))
        (some (⟨false, ([] : List Int), ([] : List Int)⟩ : Rt))
        ((M_impl_whole n).bind fun r2 =>
        (M_impl_mul r r2).bind fun r3 =>
        (M_impl_RatOf 1 2).bind fun r4 =>
        (M_impl_add r3 r4).bind fun r5 =>
        (M_impl_void r5).bind fun r6 =>
        cond r6
          (some (⟨false, ([] : List Int), ([] : List Int)⟩ : Rt))
          ((M_impl_bigFloor (⟨r5.neg, r5.mag⟩ : Bg) r5.den).bind fun (r0, r1_1) =>
          (M_impl_NatOf n).bind fun r7 =>
          (M_impl_lowest_cc r0 r7).bind fun r8 =>
          some r8))))

noncomputable def M_impl_UnitOf (a : Rt) : Option (Rt × Rt) :=
  (M_impl_RatOk a).bind fun r =>
  cond (!r)
    (some ((⟨false, ([] : List Int), ([] : List Int)⟩ : Rt), (⟨false, ([] : List Int), ([] : List Int)⟩ : Rt)))
    ((M_impl_mul a a).bind fun r1 =>
    (M_impl_whole 1).bind fun r2 =>
    (M_impl_add r2 r1).bind fun r3 =>
    (M_impl_whole 1).bind fun r4 =>
    (M_impl_sub r4 r1).bind fun r5 =>
    (M_impl_div r5 r3).bind fun r6 =>
    (M_impl_whole 2).bind fun r7 =>
    (M_impl_mul r7 a).bind fun r8 =>
    (M_impl_div r8 r3).bind fun r9 =>
    (M_impl_void r6).bind fun r10 =>
    cond r10
      (some ((⟨false, ([] : List Int), ([] : List Int)⟩ : Rt), (⟨false, ([] : List Int), ([] : List Int)⟩ : Rt)))
      ((M_impl_void r9).bind fun r11 =>
      cond r11
        (some ((⟨false, ([] : List Int), ([] : List Int)⟩ : Rt), (⟨false, ([] : List Int), ([] : List Int)⟩ : Rt)))
        (some (r6, r9))))

noncomputable def M_impl_LengthAlong (a : Rt) (x : Rt) (y : Rt) : Option Rt :=
  (M_impl_UnitOf a).bind fun (r0, r1) =>
  (M_impl_both x y).bind fun r =>
  cond (!r)
    (some (⟨false, ([] : List Int), ([] : List Int)⟩ : Rt))
    ((M_impl_mul r0 x).bind fun r2 =>
    (M_impl_mul r1 y).bind fun r3 =>
    (M_impl_add r2 r3).bind fun r4 =>
    some r4)

noncomputable def M_impl_OffsetFrom (a : Rt) (x : Rt) (y : Rt) : Option Rt :=
  (M_impl_UnitOf a).bind fun (r0, r1) =>
  (M_impl_both x y).bind fun r =>
  cond (!r)
    (some (⟨false, ([] : List Int), ([] : List Int)⟩ : Rt))
    ((M_impl_mul r0 y).bind fun r2 =>
    (M_impl_mul r1 x).bind fun r3 =>
    (M_impl_sub r2 r3).bind fun r4 =>
    some r4)

end Go.Di
/-
  Own work. Plain laws: the root of a natural number, in the program and in the reference.
-/
namespace Go.Di

/-- Newton's steps from x down. -/
def newt (a x : Nat) : Nat := if (x + a / x) / 2 < x then newt a ((x + a / x) / 2) else x
termination_by x
def rootN (a : Nat) : Nat := if a = 0 then 0 else newt a (1000000000 ^ (((dg a).length + 1) / 2))

theorem newt_pos {a : Nat} (ha : 0 < a) : ∀ x, 0 < x → 0 < (x + a / x) / 2 := fun x hx => by
  rcases Nat.lt_or_ge x 2 with h | h
  · have : x = 1 := by omega
    subst this
    rw [Nat.div_one]; omega
  · exact Nat.div_pos (Nat.le_trans h (Nat.le_add_right _ _)) (by omega)

theorem two_dg : ([2] : List Int) = dg 2 := (dg_one (n := 2) (by omega) (by omega)).symm
theorem start_dg (h : Nat) : List.replicate h (0 : Int) ++ [1] = dg (1000000000 ^ h) := by
  refine eq_dg ⟨(Dig.zeros h).snoc (by omega), by simp [Top0]⟩ ?_
  rw [nv_snoc, nv_zeros, List.length_replicate]
  unfold bp
  simp

theorem len_half {n k : Nat} (h : (dg n).length ≤ k) : (dg (n / 2)).length ≤ k := Nat.le_trans (len_dg_mono (Nat.div_le_self n 2)) h
theorem newt_len {a x k : Nat} (ha : (dg a).length ≤ k) (hx : (dg x).length ≤ k) : (dg (x + a / x)).length ≤ k + 1 := len_dg_add hx (Nat.le_trans (len_dg_mono (Nat.div_le_self a x)) ha)

theorem spec_root_loop {a : Nat} (ha : 0 < a) (hl : (dg a).length ≤ 10000000) : ∀ x : Nat, 0 < x → (dg x).length ≤ 10000000 → whileO S_spec_l09Root_1 (dg a, dg x, ()) = some (dg (newt a x), ()) := by
  intro x
  induction x using Nat.strongRecOn with
  | _ x ih =>
    intro hx hxl
    have hq := Nat.le_trans (len_dg_mono (Nat.div_le_self a x)) hl
    have hs := newt_len hl hxl
    have hy := len_half hs
    have hcmp := spec_cmp (dg_can ((x + a / x) / 2)) (dg_can x) (by omega)
    rw [nv_dg, nv_dg] at hcmp
    have h2 : (dg 2).length ≤ 100000000 := by rw [← two_dg]; simp
    have step : S_spec_l09Root_1 (dg a, dg x, ()) = cond (decide (((x : Nat) : Int) ≤ (((x + a / x) / 2 : Nat) : Int))) (some (.inr (dg x, ()))) (some (.inl (dg a, dg ((x + a / x) / 2), ()))) := by
      simp only [S_spec_l09Root_1, two_dg, spec_div (show (dg a).length ≤ 100000000 by omega) (show (dg x).length ≤ 100000000 by omega) hx, Option.bind_some, spec_add (show (dg x).length ≤ 1073740000 by omega) (show (dg (a / x)).length ≤ 1073740000 by omega),
        spec_trim' (show (dg (x + a / x)).length ≤ 1073741824 by omega), spec_div (show (dg (x + a / x)).length ≤ 100000000 by omega) h2 (show 0 < 2 by omega), spec_trim' (show (dg ((x + a / x) / 2)).length ≤ 1073741824 by omega), spec_trim' (show (dg x).length ≤ 1073741824 by omega), hcmp, cmpI_ge, room (show (dg x).length ≤ 1073741824 by omega)]
    rw [newt]
    by_cases hlt : (x + a / x) / 2 < x
    · rw [if_pos hlt, whileO_inl (by rw [step, decide_eq_false (by omega)]; rfl)]
      exact ih _ hlt (newt_pos ha x hx) (Nat.le_trans (len_dg_mono (Nat.le_of_lt hlt)) hxl)
    · rw [if_neg hlt]
      exact whileO_inr (by rw [step, decide_eq_true (by omega)]; rfl)
theorem impl_root_loop {a : Nat} (ha : 0 < a) (hl : (dg a).length ≤ 10000000) : ∀ x : Nat, 0 < x → (dg x).length ≤ 10000000 → whileO S_impl_root_0 (dg a, dg x, ()) = some (dg (newt a x), ()) := by
  intro x
  induction x using Nat.strongRecOn with
  | _ x ih =>
    intro hx hxl
    have hq := Nat.le_trans (len_dg_mono (Nat.div_le_self a x)) hl
    have hs := newt_len hl hxl
    have hy := len_half hs
    have hcmp := impl_cmp (dg_can ((x + a / x) / 2)) (dg_can x) (by omega)
    rw [nv_dg, nv_dg] at hcmp
    have h2 : (dg 2).length ≤ 100000000 := by rw [← two_dg]; simp
    have step : S_impl_root_0 (dg a, dg x, ()) = cond (decide (((x : Nat) : Int) ≤ (((x + a / x) / 2 : Nat) : Int))) (some (.inr (dg x, ()))) (some (.inl (dg a, dg ((x + a / x) / 2), ()))) := by
      simp only [S_impl_root_0, two_dg, impl_div (show (dg a).length ≤ 100000000 by omega) (show (dg x).length ≤ 100000000 by omega) hx, Option.bind_some, impl_add (show (dg x).length ≤ 1073740000 by omega) (show (dg (a / x)).length ≤ 1073740000 by omega),
        impl_div (show (dg (x + a / x)).length ≤ 100000000 by omega) h2 (show 0 < 2 by omega), hcmp, cmpI_ge]
    rw [newt]
    by_cases hlt : (x + a / x) / 2 < x
    · rw [if_pos hlt, whileO_inl (by rw [step, decide_eq_false (by omega)]; rfl)]
      exact ih _ hlt (newt_pos ha x hx) (Nat.le_trans (len_dg_mono (Nat.le_of_lt hlt)) hxl)
    · rw [if_neg hlt]
      exact whileO_inr (by rw [step, decide_eq_true (by omega)]; rfl)

theorem pow_len (h : Nat) : (dg (1000000000 ^ h)).length = h + 1 := by rw [← start_dg]; simp
theorem half_wrap {n : Nat} (h : n ≤ 10000000) : IntKind.i64.wrap ((IntKind.i64.wrap ((n : Int) + 1)).tdiv 2) = (((n + 1) / 2 : Nat) : Int) := by
  rw [wrap_i64 (n := (n : Int) + 1) (by omega) (by omega), Int.tdiv_eq_ediv_of_nonneg (by omega), wrap_i64 (by omega) (by omega)]
  omega
theorem rootN_zero : rootN 0 = 0 := by unfold rootN; rw [if_pos rfl]

theorem spec_root {a : Nat} (hl : (dg a).length ≤ 1000000) : M_spec_l09Root (dg a) = some (dg (rootN a)) := by
  unfold M_spec_l09Root
  rw [dg_len0]
  by_cases h0 : a = 0
  · subst h0; rw [decide_eq_true rfl, cond_true, rootN_zero, dg_zero]
  · rw [decide_eq_false h0, cond_false]
    unfold L_spec_l09Root_0
    have hw := half_wrap (n := (dg a).length) (by omega)
    have key := whileO_upto S_spec_l09Root_0 (fun i => (dg a, List.replicate i 0, ())) (((dg a).length + 1) / 2) (dg a, List.replicate (((dg a).length + 1) / 2) 0, ()) (fun i hi => by
      have h1 : decide (((List.replicate i (0 : Int)).length : Int) < (((((dg a).length + 1) / 2 : Nat)) : Int)) = true := by rw [List.length_replicate]; exact decide_eq_true (by omega)
      simp only [S_spec_l09Root_0, hw, h1, cond_true, room (show (List.replicate i (0 : Int)).length + 1 ≤ 1073741824 by simp; omega), Option.bind_some]
      rw [← List.replicate_succ']) (by
      have h1 : decide (((List.replicate (((dg a).length + 1) / 2) (0 : Int)).length : Int) < (((((dg a).length + 1) / 2 : Nat)) : Int)) = false := by rw [List.length_replicate]; exact decide_eq_false (by omega)
      simp only [S_spec_l09Root_0, hw, h1, cond_false])
    rw [List.replicate_zero] at key
    rw [key, Option.bind_some]
    simp only []
    rw [room (by simp; omega), Option.bind_some, start_dg]
    unfold L_spec_l09Root_1
    rw [spec_root_loop (by omega) (by omega) _ (Nat.pow_pos (by omega)) (by rw [pow_len]; omega), Option.bind_some]
    unfold rootN
    rw [if_neg h0]
theorem impl_root {a : Nat} (hl : (dg a).length ≤ 1000000) : M_impl_root (dg a) = some (dg (rootN a)) := by
  unfold M_impl_root
  rw [dg_len0]
  by_cases h0 : a = 0
  · subst h0; rw [decide_eq_true rfl, cond_true, rootN_zero, dg_zero]
  · rw [decide_eq_false h0, cond_false, half_wrap (n := (dg a).length) (by omega)]
    have e1 : IntKind.i64.wrap (((((dg a).length + 1) / 2 : Nat) : Int) + 1) = ((((dg a).length + 1) / 2 + 1 : Nat) : Int) := by rw [wrap_i64 (by omega) (by omega)]; omega
    rw [e1, mk_guard (by omega), Option.bind_some, Int.toNat_natCast, List.length_replicate]
    have e2 : IntKind.i64.wrap (((((dg a).length + 1) / 2 + 1 : Nat) : Int) - 1) = ((((dg a).length + 1) / 2 : Nat) : Int) := by rw [wrap_i64 (by omega) (by omega)]; omega
    rw [e2, idx_at (by simp), Option.bind_some, Int.toNat_natCast]
    have e3 : (List.replicate (((dg a).length + 1) / 2 + 1) (0 : Int)).set (((dg a).length + 1) / 2) 1 = dg (1000000000 ^ (((dg a).length + 1) / 2)) := by
      rw [← start_dg, List.replicate_succ', List.set_append_right _ _ (by simp)]; simp
    rw [e3]
    unfold L_impl_root_0
    rw [impl_root_loop (by omega) (by omega) _ (Nat.pow_pos (by omega)) (by rw [pow_len]; omega), Option.bind_some]
    unfold rootN
    rw [if_neg h0]
theorem spec_rootOf {a : List Int} (h : a.length ≤ 1048576) : M_spec_RootOfNat a = some (cond (pB (NatOk a)) (dg (rootN (nv a).toNat)) []) := by
  unfold M_spec_RootOfNat
  rw [spec_natOk h, Option.bind_some]
  by_cases hk : NatOk a
  · rw [pB_iff.2 hk]
    have e := hk.1.dg
    have hl := hk.2
    generalize (nv a).toNat = m at *
    subst e
    simp only [Bool.not_true, cond_false, cond_true]
    rw [spec_root (by omega)]; rfl
  · rw [pB_not.2 hk]; rfl
theorem impl_rootOf {a : List Int} (h : a.length ≤ 1048576) : M_impl_RootOfNat a = some (cond (pB (NatOk a)) (dg (rootN (nv a).toNat)) []) := by
  unfold M_impl_RootOfNat
  rw [impl_natOk h, Option.bind_some]
  by_cases hk : NatOk a
  · rw [pB_iff.2 hk]
    have e := hk.1.dg
    have hl := hk.2
    generalize (nv a).toNat = m at *
    subst e
    simp only [Bool.not_true, cond_false, cond_true]
    rw [impl_root (by omega)]; rfl
  · rw [pB_not.2 hk]; rfl
theorem newt_le (a : Nat) : ∀ x, newt a x ≤ x := by
  intro x
  induction x using Nat.strongRecOn with
  | _ x ih =>
    rw [newt]
    split
    · rename_i h; exact Nat.le_trans (ih _ h) (Nat.le_of_lt h)
    · exact Nat.le_refl _
theorem root_len {a : Nat} : (dg (rootN a)).length ≤ (dg a).length + 1 := by
  unfold rootN
  split
  · rename_i h; subst h; simp [dg_zero]
  · have := len_dg_mono (newt_le a (1000000000 ^ (((dg a).length + 1) / 2)))
    rw [pow_len] at this
    have hne : 0 < (dg a).length := by
      rename_i h
      exact List.length_pos_iff.2 (fun e => h (dg_nil.1 e))
    omega
end Go.Di
/-
  Own work, written by program (gen.py) out of the functions of the given program: what they compute, as plain Lean.
-/
namespace Go.Di
noncomputable def M_laws_FnExactStationOk (aS : Sta) (aPlane : Bool) : Option Bool :=
  (M_laws_szStation aS 1048576).bind fun r =>
  cond (decide (r < 0))
    (some true)
    ((M_laws_toStation aS).bind fun r1 =>
    (M_spec_StationOk r1 aPlane).bind fun r2 =>
    (M_laws_toStation aS).bind fun r3 =>
    (M_impl_StationOk r3 aPlane).bind fun r4 =>
    cond (!(r4 == r2))
      (some false)
      ((M_laws_toStation aS).bind fun r5 =>
      (M_laws_eqStation r3 r5).bind fun r6 =>
      cond (!r6)
        (some false)
        (some true)))

end Go.Di
/-
  Own work, written by program (gen.py) out of the functions of the given program: what they compute, as plain Lean.
-/
namespace Go.Di
noncomputable def M_laws_FnExactNetworkOk (aN : Net) : Option Bool :=
  (M_laws_szNetwork aN 1048576).bind fun r =>
  cond (decide (r < 0))
    (some true)
    ((M_laws_toNetwork aN).bind fun r1 =>
    (M_spec_NetworkOk r1).bind fun r2 =>
    (M_laws_toNetwork aN).bind fun r3 =>
    (M_impl_NetworkOk r3).bind fun r4 =>
    cond (!(r4 == r2))
      (some false)
      ((M_laws_toNetwork aN).bind fun r5 =>
      (M_laws_eqNetwork r3 r5).bind fun r6 =>
      cond (!r6)
        (some false)
        (some true)))

end Go.Di
/-
  Own work, written by program (gen.py) out of the functions of the given program: what they compute, as plain Lean.
-/
namespace Go.Di
noncomputable def M_laws_FnExactRootOfNat (aA : List Int) : Option Bool :=
  cond (decide ((aA.length : Int) > 1048576))
    (some true)
    ((M_laws_toIntS aA).bind fun r =>
    (M_spec_RootOfNat r).bind fun r1 =>
    (M_laws_toIntS aA).bind fun r2 =>
    (M_impl_RootOfNat r2).bind fun r3 =>
    (M_laws_eqIntS r3 r1).bind fun r4 =>
    cond (!r4)
      (some false)
      ((M_laws_toIntS aA).bind fun r5 =>
      (M_laws_eqIntS r2 r5).bind fun r6 =>
      cond (!r6)
        (some false)
        ((M_laws_markIntS_md r2 1).bind fun (r0, x0) =>
        cond (decide (r0 < 0))
          (some false)
          ((M_laws_eqIntS r3 r1).bind fun r7 =>
          cond (!r7)
            (some false)
            ((M_laws_markIntS_md r3 1).bind fun (r0_1, x0_1) =>
            (M_laws_heldIntS x0_1 1).bind fun r8 =>
            cond (decide (r8 < 0))
              (some false)
              (cond (r8 != r0_1)
                (some false)
                ((M_laws_toIntS aA).bind fun r9 =>
                (M_impl_RootOfNat r9).bind fun r10 =>
                (M_laws_eqIntS r10 r1).bind fun r11 =>
                cond (!r11)
                  (some false)
                  ((M_laws_heldIntS x0_1 1).bind fun r12 =>
                  cond (decide (r12 < 0))
                    (some false)
                    (cond (r12 != r0_1)
                      (some false)
                      (some true))))))))))

end Go.Di
/-
  Own work. Given statements on stations, matrices, networks that are valid, and on roots, as plain laws.
-/
namespace Go.Di

/-- A measure of a statement's argument: too great, or what fits goes on. -/
theorem sz_then {x : Option Int} {left : Int} {n : Nat} {k : Int → Option Bool} (h : SzR x left n) (hk : ∀ r : Int, 0 ≤ r → r + n = left → k r = some true) :
    (x.bind fun r => cond (decide (r < 0)) (some true) (k r)) = some true := by
  rcases h with rfl | ⟨r, h0, h1, rfl⟩
  · rfl
  · have : decide (r < 0) = false := by simpa using h0
    simp only [Option.bind_some, this, cond_false, hk r h0 h1]

theorem law_MatrixOk (m : Mx) (h : CK.wf (.sl .rat) m.cells) : M_laws_FnExactMatrixOk m = some true := by
  unfold M_laws_FnExactMatrixOk
  refine sz_then (sz_mx h (by omega) (by omega)) fun r h0 h1 => ?_
  have f : lfit Rt.fit m.cells := lfit_of (f := Rt.sz) (fun x => Rt.fit_of) (by omega)
  simp [to_mx f, spec_mxOk f, impl_mxOk f, eq_mx f]
theorem law_StationOk (s : Sta) (plane : Bool) (hn : CK.wf .str s.name) (h1 : CK.wf (.sl .int) s.x.mag) (h2 : CK.wf (.sl .int) s.x.den) (h3 : CK.wf (.sl .int) s.y.mag) (h4 : CK.wf (.sl .int) s.y.den) : M_laws_FnExactStationOk s plane = some true := by
  unfold M_laws_FnExactStationOk
  refine sz_then (sz_sta (s := s) ⟨hn, ⟨h1, h2⟩, h3, h4⟩ (by omega) (by omega)) fun r h0 h1 => ?_
  have f : s.fitN := Sta.fitN_of (by omega)
  simp [to_sta f.1, spec_staOk plane f.1 f.2, impl_staOk plane f.1, eq_sta f.1]
theorem law_NetworkOk (n : Net) (h : CK.wf (.sl .sta) n.stations) : M_laws_FnExactNetworkOk n = some true := by
  unfold M_laws_FnExactNetworkOk
  refine sz_then (sz_net h (by omega) (by omega)) fun r h0 h1 => ?_
  have f : lfit Sta.fitN n.stations := lfit_of (f := Sta.sz) (fun x => Sta.fitN_of) (by omega)
  have f' := fitN_fit f
  simp [to_net f', spec_netOk f, impl_netOk f', eq_net f']

theorem law_RootOfNat (a : List Int) (_ : CK.wf (.sl .int) a) : M_laws_FnExactRootOfNat a = some true := by
  unfold M_laws_FnExactRootOfNat
  cases hc : decide ((a.length : Int) > 1048576) with
  | true => rfl
  | false =>
    have hl : a.length ≤ 1048576 := by have := of_decide_eq_false hc; omega
    simp only [cond_false]
    have hs := spec_rootOf hl
    have hi := impl_rootOf hl
    have hrl : (cond (pB (NatOk a)) (dg (rootN (nv a).toNat)) []).length ≤ 1048576 := by
      by_cases hk : NatOk a
      · rw [pB_iff.2 hk, cond_true]
        have := root_len (a := (nv a).toNat)
        rw [← hk.1.dg] at this
        have := hk.2
        omega
      · rw [pB_not.2 hk]; simp
    generalize cond (pB (NatOk a)) (dg (rootN (nv a).toNat)) [] = w at *
    have m1 := mark_ints (a := a) (k := 1) hl (by omega) (by omega)
    have m2 := mark_ints (a := w) (k := 1) hrl (by omega) (by omega)
    have e1 := held_ints (k := 1) (n := w.length) hrl (by omega) (by omega)
    have n1 : decide ((1 : Int) + (a.length : Int) < 0) = false := decide_eq_false (by omega)
    have n2 : decide ((1 : Int) + (w.length : Int) < 0) = false := decide_eq_false (by omega)
    have n3 : ((1 : Int) + (w.length : Int) != 1 + (w.length : Int)) = false := by simp
    simp only [to_ints hl, hs, hi, Option.bind_some, eq_ints hrl, eq_ints hl, eqB_self, Bool.not_true, cond_false, m1, m2, e1, n1, n2, n3]
end Go.Di
