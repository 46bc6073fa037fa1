/-
  Own work: part 7 of the texts that the proof of the given statement leans on.
-/
import Derived.Test.YtkjfphfbpocijaaZE01
/-
  Own work. Plain laws: fractions that are valid; whole numbers as fractions.
-/
namespace Go.Di

/-- A valid fraction. -/
def Good (r : Rt) : Prop := ∃ q : Rat, Fit q ∧ r = rq q
theorem Fit.good {q : Rat} (h : Fit q) : Good (rq q) := ⟨q, h, rfl⟩
theorem Good.ro {r : Rt} (h : Good r) : ∃ q : Rat, Fit q ∧ r = ro (some q) := h

theorem rq_inj {p q : Rat} (h : rq p = rq q) : p = q := by
  unfold rq at h
  injection h with h1 h2 h3
  have h4 := dg_inj h2
  have h5 := dg_inj h3
  have h6 : p.num = q.num := by
    have := sg_self p.num
    rw [h1, h4, sg_self] at this; exact this.symm
  exact Rat.ext h6 h5

/-- What the validity of a fraction asks for, one after the other. -/
def GoodP (r : Rt) : Prop := NatOk r.mag ∧ (r.mag ≠ [] ∨ r.neg = false) ∧ NatOk r.den ∧ r.den ≠ [] ∧ r.mag.length ≤ 24 ∧ r.den.length ≤ 24 ∧ Nat.gcd (nv r.den).toNat (nv r.mag).toNat = 1
theorem good_iff {r : Rt} : Good r ↔ GoodP r := by
  constructor
  · rintro ⟨q, hf, rfl⟩
    have h24 := hf.1
    have h24' := hf.2
    refine ⟨⟨dg_can _, by show (dg q.num.natAbs).length ≤ 60; omega⟩, ?_, ⟨dg_can _, by show (dg q.den).length ≤ 60; omega⟩, fun h => q.den_nz (dg_nil.1 h), h24, h24', ?_⟩
    · by_cases h : q.num < 0
      · left; intro e; have := dg_nil.1 e; omega
      · right; exact decide_eq_false h
    · show Nat.gcd (nv (dg q.den)).toNat (nv (dg q.num.natAbs)).toNat = 1
      rw [nv_dg, nv_dg, Int.toNat_natCast, Int.toNat_natCast, Nat.gcd_comm]; exact q.reduced
  · rintro ⟨⟨h1, _⟩, h2, ⟨h3, _⟩, h4, h5, h6, h7⟩
    obtain ⟨neg, mag, den⟩ := r
    simp only at h1 h2 h3 h4 h5 h6 h7
    have e1 := h1.dg
    have e2 := h3.dg
    generalize (nv mag).toNat = m at *
    generalize (nv den).toNat = d at *
    subst e1; subst e2
    have hd : d ≠ 0 := fun h => h4 (by rw [h, dg_zero])
    let q : Rat := Rat.mk' (sg neg m) d hd (by rw [sg_abs]; show Nat.gcd m d = 1; rw [Nat.gcd_comm]; exact h7)
    refine ⟨q, ⟨by show (dg (sg neg m).natAbs).length ≤ 24; rw [sg_abs]; exact h5, h6⟩, ?_⟩
    show _ = (⟨decide (sg neg m < 0), dg (sg neg m).natAbs, dg d⟩ : Rt)
    rw [sg_abs]
    by_cases hm : m = 0
    · subst hm
      rcases h2 with h2 | h2
      · exact absurd dg_zero h2
      · rw [h2]; rfl
    · rw [sg_neg hm]

theorem lenB {a : List Int} : ((a.length : Int) == 0) = pB (a = []) := by
  rw [Bool.eq_iff_iff, pB_iff]; simp
theorem lenP {a : List Int} : decide ((a.length : Int) > 0) = pB (a ≠ []) := by
  rw [Bool.eq_iff_iff, pB_iff]; simp [List.length_pos_iff]
theorem pB_and {p q : Prop} : pB (p ∧ q) = (pB p && pB q) := by rw [Bool.eq_iff_iff, Bool.and_eq_true, pB_iff, pB_iff, pB_iff]
theorem pB_or {p q : Prop} : pB (p ∨ q) = (pB p || pB q) := by rw [Bool.eq_iff_iff, Bool.or_eq_true, pB_iff, pB_iff, pB_iff]
theorem pB_ne {p : Prop} : pB (¬ p) = !pB p := by
  cases h : pB p with
  | true => have := pB_iff.1 h; show pB (¬ p) = false; rw [pB_not]; exact fun k => k this
  | false => have := pB_not.1 h; exact pB_iff.2 this
theorem pB_dec {p : Prop} [Decidable p] : pB p = decide p := by rw [Bool.eq_iff_iff, pB_iff, decide_eq_true_iff]
theorem pB_eqB {α : Type} {a b : α} : pB (a = b) = eqB a b := rfl

theorem gcdOne {d m : Nat} {x : Option (List Int)} (h : x = some (dg (Nat.gcd d m))) {k : List Int → Option Bool} (hk : ∀ g : Nat, k (dg g) = some (decide (g = 1))) :
    (x.bind fun r3 => (k r3).bind fun r4 => some r4) = some (decide (Nat.gcd d m = 1)) := by
  rw [h, Option.bind_some, hk]; rfl

theorem impl_ratOk {r : Rt} (h : r.fit) : M_impl_RatOk r = some (pB (Good r)) := by
  rw [pB_congr good_iff]
  unfold M_impl_RatOk M_impl_BigIntOk
  rw [impl_natOk h.1, impl_natOk h.2, lenP, lenB, le24, le24]
  simp only [Option.bind_some]
  unfold GoodP
  by_cases h1 : NatOk r.mag
  · rw [pB_iff.2 h1, cond_true]
    by_cases h2 : r.mag ≠ [] ∨ r.neg = false
    · have hb : cond (pB (r.mag ≠ [])) (some true) (some (!r.neg)) = some true := by
        rcases h2 with h2 | h2
        · rw [pB_iff.2 h2]; rfl
        · rw [h2]; cases pB (r.mag ≠ []) <;> rfl
      rw [hb]
      simp only [Option.bind_some, Bool.not_true, cond_false]
      by_cases h3 : NatOk r.den
      · rw [pB_iff.2 h3]
        simp only [Bool.not_true, cond_false]
        by_cases h4 : r.den = []
        · rw [pB_iff.2 h4, cond_true]; symm; rw [pB_not.2 (fun k => k.2.2.2.1 h4)]
        · rw [pB_not.2 h4, cond_false]
          by_cases h5 : r.mag.length ≤ 24
          · rw [decide_eq_true h5]
            simp only [Bool.not_true, cond_false]
            by_cases h6 : r.den.length ≤ 24
            · rw [decide_eq_true h6]
              simp only [Bool.not_true, cond_false]
              have e1 := h1.1.dg
              have e2 := h3.1.dg
              have hd0 : 0 < (nv r.den).toNat := by
                rcases Nat.eq_zero_or_pos (nv r.den).toNat with h | h
                · rw [h, dg_zero] at e2; exact absurd e2 h4
                · exact h
              have hg := impl_gcd (m := (nv r.den).toNat) (n := (nv r.mag).toNat) (by rw [← e2]; omega) (by rw [← e1]; omega) hd0
              rw [← e2, ← e1] at hg
              rw [gcdOne hg impl_isOne, ← pB_dec]
              congr 1
              exact pB_congr ⟨fun h => ⟨h1, h2, h3, h4, h5, h6, h⟩, fun h => h.2.2.2.2.2.2⟩
            · rw [decide_eq_false h6]; symm; rw [pB_not.2 (fun k => h6 k.2.2.2.2.2.1)]; rfl
          · rw [decide_eq_false h5]; symm; rw [pB_not.2 (fun k => h5 k.2.2.2.2.1)]; rfl
      · rw [pB_not.2 h3]; symm; rw [pB_not.2 (fun k => h3 k.2.2.1)]; rfl
    · have hb : cond (pB (r.mag ≠ [])) (some true) (some (!r.neg)) = some false := by
        have h3 : ¬ r.mag ≠ [] := fun h => h2 (.inl h)
        have h4 : r.neg = true := by
          cases hn : r.neg with
          | true => rfl
          | false => exact absurd (.inr hn) h2
        rw [pB_not.2 h3, h4]; rfl
      rw [hb]; symm; rw [pB_not.2 (fun k => h2 k.2.1)]; rfl
  · rw [pB_not.2 h1]; symm; rw [pB_not.2 (fun k => h1 k.1)]; rfl

theorem spec_ratOk {r : Rt} (h : r.fit) : M_spec_RatOk r = some (pB (Good r)) := by
  rw [pB_congr good_iff]
  unfold M_spec_RatOk M_spec_BigIntOk
  rw [spec_natOk h.1, spec_natOk h.2, lenP, lenB, le24, le24]
  simp only [Option.bind_some]
  unfold GoodP
  by_cases h1 : NatOk r.mag
  · rw [pB_iff.2 h1, cond_true]
    by_cases h2 : r.mag ≠ [] ∨ r.neg = false
    · have hb : cond (!r.neg) (some true) (some (pB (r.mag ≠ []))) = some true := by
        rcases h2 with h2 | h2
        · rw [pB_iff.2 h2]; cases r.neg <;> rfl
        · rw [h2]; rfl
      rw [hb]
      simp only [Option.bind_some, Bool.not_true, cond_false]
      by_cases h3 : NatOk r.den
      · rw [pB_iff.2 h3]
        simp only [Bool.not_true, cond_false]
        by_cases h4 : r.den = []
        · rw [pB_iff.2 h4, cond_true]; symm; rw [pB_not.2 (fun k => k.2.2.2.1 h4)]
        · rw [pB_not.2 h4, cond_false]
          by_cases h6 : r.den.length ≤ 24
          · rw [decide_eq_true h6]
            simp only [Bool.not_true, cond_false]
            by_cases h5 : r.mag.length ≤ 24
            · rw [decide_eq_true h5]
              simp only [Bool.not_true, cond_false]
              have e1 := h1.1.dg
              have e2 := h3.1.dg
              have hg := spec_gcd (m := (nv r.mag).toNat) (n := (nv r.den).toNat) (by rw [← e1]; omega) (by rw [← e2]; omega)
              rw [← e2, ← e1] at hg
              rw [gcdOne hg spec_isOne, ← pB_dec]
              congr 1
              exact pB_congr ⟨fun h => ⟨h1, h2, h3, h4, h5, h6, by rw [Nat.gcd_comm]; exact h⟩, fun h => by rw [Nat.gcd_comm]; exact h.2.2.2.2.2.2⟩
            · rw [decide_eq_false h5]; symm; rw [pB_not.2 (fun k => h5 k.2.2.2.2.1)]; rfl
          · rw [decide_eq_false h6]; symm; rw [pB_not.2 (fun k => h6 k.2.2.2.2.2.1)]; rfl
      · rw [pB_not.2 h3]; symm; rw [pB_not.2 (fun k => h3 k.2.2.1)]; rfl
    · have hb : cond (!r.neg) (some true) (some (pB (r.mag ≠ []))) = some false := by
        have h3 : ¬ r.mag ≠ [] := fun h => h2 (.inl h)
        have h4 : r.neg = true := by
          cases hn : r.neg with
          | true => rfl
          | false => exact absurd (.inr hn) h2
        rw [pB_not.2 h3, h4]; rfl
      rw [hb]; symm; rw [pB_not.2 (fun k => h2 k.2.1)]; rfl
  · rw [pB_not.2 h1]; symm; rw [pB_not.2 (fun k => h1 k.1)]; rfl

theorem good_rq {q : Rat} (h : Fit q) : pB (Good (rq q)) = true := pB_iff.2 ⟨q, h, rfl⟩
theorem good_ro {o : Option Rat} (h : Oks o) : pB (Good (ro o)) = o.isSome := by
  cases o with
  | none =>
    rw [Option.isSome_none, pB_not]
    rintro ⟨q, _, hq⟩
    have := congrArg Rt.den hq
    exact q.den_nz (dg_nil.1 (show dg q.den = [] from this.symm))
  | some q => rw [Option.isSome_some]; exact good_rq (h q rfl)
theorem impl_okO {o : Option Rat} (h : Oks o) : M_impl_RatOk (ro o) = some o.isSome := by rw [impl_ratOk (ro_fit h), good_ro h]
theorem spec_okO {o : Option Rat} (h : Oks o) : M_spec_RatOk (ro o) = some o.isSome := by rw [spec_ratOk (ro_fit h), good_ro h]

/-! ### Whole numbers -/
theorem impl_bigOf {n : Int} (h1 : -9223372036854775808 ≤ n) (h2 : n ≤ 9223372036854775807) : M_impl_BigIntOf n = some (bg n) := by
  unfold M_impl_BigIntOf
  by_cases h : n ≥ 0
  · rw [decide_eq_true h, cond_true, impl_natOf h2, Option.bind_some, impl_signed, Option.bind_some]
    congr 2
    simp only [sg, cond_false]; omega
  · rw [decide_eq_false h, cond_false, wrap_i64 (n := n + 1) (by omega) (by omega), wrap_i64 (n := 0 - (n + 1)) (by omega) (by omega), impl_natOf (by omega), Option.bind_some, ← dg_one1]
    have hs := len_small (show (0 - (n + 1)).toNat ≤ 9223372036854775807 by omega)
    rw [impl_add (by omega) (by rw [dg_one1]; simp), Option.bind_some, impl_signed, Option.bind_some]
    congr 2
    simp only [sg, cond_true]; omega
theorem min_dg : ([854775808, 223372036, 9] : List Int) = dg 9223372036854775808 := by
  refine eq_dg ⟨fun d hd => ?_, by simp [Top0]⟩ (by simp [nv])
  simp at hd
  omega
theorem spec_bigOf {n : Int} (h1 : -9223372036854775808 ≤ n) (h2 : n ≤ 9223372036854775807) : M_spec_BigIntOf n = some (bg n) := by
  unfold M_spec_BigIntOf
  by_cases h : n = -9223372036854775808
  · have hb : (n == -9223372036854775808) = true := by rw [beq_iff_eq]; exact h
    obtain ⟨K, hK, hKv⟩ : ∃ K : Nat, ([854775808, 223372036, 9] : List Int) = dg K ∧ K = n.natAbs := ⟨_, min_dg, by omega⟩
    have hl : (dg K).length ≤ 60 := by rw [← hK]; simp
    rw [hb, cond_true, hK, spec_make _ hl, Option.bind_some]
    congr 2
    simp only [sg, cond_true]; omega
  · have hb : (n == -9223372036854775808) = false := by rw [beq_eq_false_iff_ne]; exact h
    rw [hb, cond_false]
    by_cases h0 : n < 0
    · rw [decide_eq_true h0, cond_true, wrap_i64 (n := 0 - n) (by omega) (by omega), spec_natOf (by omega), Option.bind_some]
      have hs := len_small (show (0 - n).toNat ≤ 9223372036854775807 by omega)
      rw [spec_make _ (by omega), Option.bind_some]
      congr 2
      simp only [sg, cond_true]; omega
    · rw [decide_eq_false h0, cond_false, spec_natOf h2, Option.bind_some]
      have hs := len_small (show n.toNat ≤ 9223372036854775807 by omega)
      rw [spec_make _ (by omega), Option.bind_some]
      congr 2
      simp only [sg, cond_false]; omega

theorem len_i64 {n : Int} (h1 : -9223372036854775808 ≤ n) (h2 : n ≤ 9223372036854775807) : (dg n.natAbs).length ≤ 3 := len_dg.2 (by simp [bp]; omega)
theorem fit_int {n : Int} (h1 : -9223372036854775808 ≤ n) (h2 : n ≤ 9223372036854775807) : Fit (n : Rat) := by
  unfold Fit
  rw [Rat.num_intCast, Rat.den_intCast, dg_one1]
  exact ⟨by have := len_i64 h1 h2; omega, by simp⟩
theorem rq_int (n : Int) : rq (n : Rat) = ⟨(bg n).neg, (bg n).mag, [1]⟩ := by
  unfold rq bg
  rw [Rat.num_intCast, Rat.den_intCast, dg_one1]

theorem bg_natOk {z : Int} (h : (dg z.natAbs).length ≤ 60) : NatOk (bg z).mag := ⟨dg_can _, h⟩
theorem impl_bgOk {z : Int} (h : (dg z.natAbs).length ≤ 60) : M_impl_BigIntOk (bg z) = some true := by
  unfold M_impl_BigIntOk
  rw [impl_natOk (by show (dg z.natAbs).length ≤ 1048576; omega), pB_iff.2 (bg_natOk h), Option.bind_some, cond_true]
  show cond (decide (((dg z.natAbs).length : Int) > 0)) (some true) (some (!decide (z < 0))) = some true
  rw [dg_lenpos]
  by_cases h0 : z.natAbs ≠ 0
  · rw [decide_eq_true h0]; rfl
  · rw [decide_eq_false h0, decide_eq_false (by omega)]; rfl
theorem spec_bgOk {z : Int} (h : (dg z.natAbs).length ≤ 60) : M_spec_BigIntOk (bg z) = some true := by
  unfold M_spec_BigIntOk
  rw [spec_natOk (by show (dg z.natAbs).length ≤ 1048576; omega), pB_iff.2 (bg_natOk h), Option.bind_some, cond_true]
  show cond (!decide (z < 0)) (some true) (some (decide (((dg z.natAbs).length : Int) > 0))) = some true
  rw [dg_lenpos]
  by_cases h0 : z < 0
  · rw [decide_eq_true (show z.natAbs ≠ 0 by omega)]; cases !decide (z < 0) <;> rfl
  · rw [decide_eq_false h0]; rfl

theorem impl_copyRat {r : Rt} (h : r.mag.length ≤ 1048576 ∧ r.den.length ≤ 1048576) : M_impl_copyRat r = some r := by
  unfold M_impl_copyRat
  rw [impl_copy (by omega), Option.bind_some, impl_copy (by omega), Option.bind_some]
theorem spec_copyRat {r : Rt} (h : r.mag.length ≤ 1048576 ∧ r.den.length ≤ 1048576) : M_spec_l04Copy r = some r := by
  unfold M_spec_l04Copy
  rw [room (by omega), Option.bind_some, room (by omega), Option.bind_some]

/-- A quotient of integers. -/
theorem sg_quot (x y : Int) (hy : y ≠ 0) : mkRat (sg (!(decide (x < 0) == decide (y < 0))) x.natAbs) y.natAbs = (x : Rat) / (y : Rat) := by
  have hyr : (y : Rat) ≠ 0 := by intro h; exact hy (Rat.intCast_inj.1 h)
  have hd := mk_div (x : Rat) (y : Rat) hyr
  rw [Rat.num_intCast, Rat.num_intCast, Rat.den_intCast, Rat.den_intCast, Nat.one_mul] at hd
  rw [← hd]
  congr 1
  by_cases h1 : x < 0 <;> by_cases h2 : y < 0
  · rw [decide_eq_true h1, decide_eq_true h2]; simp only [sg, beq_self_eq_true, Bool.not_true, cond_true, cond_false]; omega
  · rw [decide_eq_true h1, decide_eq_false h2]; simp [sg]; omega
  · rw [decide_eq_false h1, decide_eq_true h2]; simp [sg]; omega
  · rw [decide_eq_false h1, decide_eq_false h2]; simp only [sg, beq_self_eq_true, Bool.not_true, cond_false]; omega
theorem impl_make {x y : Int} (hx : (dg x.natAbs).length ≤ 60) (hy : (dg y.natAbs).length ≤ 60) (h0 : y ≠ 0) : M_impl_RatMake (bg x) (bg y) = some (ro (chk ((x : Rat) / (y : Rat)))) := by
  unfold M_impl_RatMake
  rw [impl_bgOk hx, Option.bind_some, impl_bgOk hy, Option.bind_some]
  simp only [Bool.not_true, cond_false]
  show cond (((dg y.natAbs).length : Int) == 0) _ ((M_impl_signed (!(decide (x < 0) == decide (y < 0))) (dg x.natAbs)).bind fun r2 => (M_impl_lowest r2 (dg y.natAbs)).bind _) = _
  rw [dg_len0, decide_eq_false (show ¬ y.natAbs = 0 by omega), cond_false, impl_signed', Option.bind_some, impl_lowest' (by omega) (by rw [sg_abs]; omega) (by omega), Option.bind_some, sg_quot x y h0, impl_copyRat (ro_fit (oks_chk _)), Option.bind_some]
theorem spec_ratMake {x y : Int} (hx : (dg x.natAbs).length ≤ 60) (hy : (dg y.natAbs).length ≤ 60) (h0 : y ≠ 0) : M_spec_RatMake (bg x) (bg y) = some (ro (chk ((x : Rat) / (y : Rat)))) := by
  unfold M_spec_RatMake
  rw [spec_bgOk hx, Option.bind_some, spec_bgOk hy, Option.bind_some]
  simp only [Bool.not_true, cond_false]
  show ((M_spec_l04Low (!(decide (x < 0) == decide (y < 0))) (dg x.natAbs) (dg y.natAbs)).bind _) = _
  rw [spec_low (by omega) (by omega) (by omega), Option.bind_some, sg_quot x y h0]
theorem impl_ratOf {x y : Int} (h1 : -9223372036854775808 ≤ x) (h2 : x ≤ 9223372036854775807) (h3 : -9223372036854775808 ≤ y) (h4 : y ≤ 9223372036854775807) (h0 : y ≠ 0) : M_impl_RatOf x y = some (ro (chk ((x : Rat) / (y : Rat)))) := by
  unfold M_impl_RatOf
  have := len_i64 h1 h2
  have := len_i64 h3 h4
  rw [impl_bigOf h1 h2, Option.bind_some, impl_bigOf h3 h4, Option.bind_some, impl_make (by omega) (by omega) h0, Option.bind_some]
theorem spec_ratOf {x y : Int} (h1 : -9223372036854775808 ≤ x) (h2 : x ≤ 9223372036854775807) (h3 : -9223372036854775808 ≤ y) (h4 : y ≤ 9223372036854775807) (h0 : y ≠ 0) : M_spec_RatOf x y = some (ro (chk ((x : Rat) / (y : Rat)))) := by
  unfold M_spec_RatOf
  have := len_i64 h1 h2
  have := len_i64 h3 h4
  rw [spec_bigOf h1 h2, Option.bind_some, spec_bigOf h3 h4, Option.bind_some, spec_ratMake (by omega) (by omega) h0, Option.bind_some]
theorem impl_ratInt {n : Int} (h1 : -9223372036854775808 ≤ n) (h2 : n ≤ 9223372036854775807) : M_impl_RatFromInt n = some (ro (some (n : Rat))) := by
  unfold M_impl_RatFromInt
  rw [impl_ratOf h1 h2 (by omega) (by omega) (by omega), Option.bind_some]
  have : (n : Rat) / ((1 : Int) : Rat) = (n : Rat) := by
    rw [Rat.intCast_one, Rat.div_def, Rat.inv_eq_of_mul_eq_one (a := 1) (b := 1) (Rat.mul_one 1), Rat.mul_one]
  rw [this, chk_fit (fit_int h1 h2)]
theorem impl_whole {n : Int} (h1 : -9223372036854775808 ≤ n) (h2 : n ≤ 9223372036854775807) : M_impl_whole n = some (ro (some (n : Rat))) := by
  unfold M_impl_whole
  rw [impl_ratInt h1 h2]; rfl
theorem spec_ratInt {n : Int} (h1 : -9223372036854775808 ≤ n) (h2 : n ≤ 9223372036854775807) : M_spec_RatFromInt n = some (ro (some (n : Rat))) := by
  unfold M_spec_RatFromInt
  rw [spec_bigOf h1 h2, Option.bind_some]
  exact congrArg some (rq_int n).symm
end Go.Di
/-
  Own work. Plain laws: names, stations, matrices, networks that are valid; unknowns.
-/
namespace Go.Di

/-! ### Names -/
def cb (s : ByteArray) (i : Nat) : Int := ((s.data[i]?).map fun b => (b.toNat : Int)).getD 0
theorem strAt_at {s : ByteArray} {i : Nat} (h : i < s.size) : strAt s (i : Int) = some (cb s i) := by
  have h' : i < s.data.size := h
  unfold strAt cb
  rw [if_pos (by omega), Int.toNat_natCast, Array.getElem?_eq_getElem h']; rfl
def letB (b : Int) : Bool := decide (97 ≤ b) && decide (b ≤ 122)
def digitB (b : Int) : Bool := decide (48 ≤ b) && decide (b ≤ 57)
def nmP (s : ByteArray) (i : Nat) : Bool := letB (cb s i) || (decide (i ≠ 0) && digitB (cb s i))
def nmQ (s : ByteArray) (i : Nat) : Bool := letB (cb s i) || digitB (cb s i)
def nameB (s : ByteArray) : Bool := decide (1 ≤ s.size) && (decide (s.size ≤ 8) && (List.range s.size).all (nmP s))

theorem lt_not (b c : Int) : decide (b < c) = !decide (c ≤ b) := by rw [Bool.eq_iff_iff]; simp
theorem gt_not (b c : Int) : decide (b > c) = !decide (b ≤ c) := by rw [Bool.eq_iff_iff]; simp
theorem ge_le (b c : Int) : decide (b ≥ c) = decide (c ≤ b) := rfl
theorem ne_not {p : Prop} [Decidable p] : decide (¬ p) = !decide p := by by_cases h : p <;> simp [h]
theorem wrap_nat {i n : Nat} (h : i < n) (hn : n ≤ 4611686018427387904) : IntKind.i64.wrap ((i : Int) + 1) = ((i + 1 : Nat) : Int) := by
  rw [wrap_i64 (by omega) (by omega)]; simp

theorem spec_isName {s : ByteArray} (h : s.size ≤ 1048576) : M_spec_IsName s = some (nameB s) := by
  unfold M_spec_IsName L_spec_IsName_0
  have key := all_loopE (S := S_spec_IsName_0) (fun i => (s, (i : Int), ())) s.size (nmP s) (s, ()) (fun i hi => by
    have hw := wrap_nat hi (by omega)
    simp only [S_spec_IsName_0, dlt hi, cond_true, strAt_at hi, Option.bind_some, hw, nmP, letB, digitB]
    have h0 : ((i : Int) == 0) = decide (i = 0) := by rw [Bool.eq_iff_iff]; simp
    rw [h0, lt_not, gt_not, ge_le, show decide (i ≠ 0) = !decide (i = 0) from ne_not]
    generalize cb s i = b
    cases decide (97 ≤ b) <;> cases decide (b ≤ 122) <;> cases decide (i = 0) <;> cases decide (48 ≤ b) <;> cases decide (b ≤ 57) <;> rfl) (by simp [S_spec_IsName_0])
  rw [show ((0 : Int)) = ((0 : Nat) : Int) from rfl, key]
  unfold nameB M_spec_l01In
  have e1 : decide ((s.size : Int) ≥ 1) = decide (1 ≤ s.size) := by rw [Bool.eq_iff_iff]; simp; omega
  have e2 : decide ((s.size : Int) ≤ 8) = decide (s.size ≤ 8) := by rw [Bool.eq_iff_iff]; simp; omega
  cases hall : (List.range s.size).all (nmP s) with
  | true => simp only [cond_true, Option.bind_some, e1, e2]; cases decide (1 ≤ s.size) <;> cases decide (s.size ≤ 8) <;> rfl
  | false => simp only [cond_false, Option.bind_some]; cases decide (1 ≤ s.size) <;> cases decide (s.size ≤ 8) <;> rfl

theorem impl_isName {s : ByteArray} : M_impl_IsName s = some (nameB s) := by
  unfold M_impl_IsName nameB
  by_cases h1 : 1 ≤ s.size
  · rw [decide_eq_false (show ¬ (s.size : Int) < 1 by omega), cond_false, decide_eq_true h1]
    by_cases h2 : s.size ≤ 8
    · rw [decide_eq_false (show ¬ (s.size : Int) > 8 by omega), cond_false, decide_eq_true h2, show ((0 : Int)) = ((0 : Nat) : Int) from rfl, strAt_at (show 0 < s.size by omega)]
      simp only [Option.bind_some]
      unfold L_impl_IsName_0
      have key := all_loopE (S := S_impl_IsName_0) (fun i => (s, (i : Int), ())) s.size (nmQ s) () (fun i hi => by
        have hw := wrap_nat hi (by omega)
        simp only [S_impl_IsName_0, dlt hi, cond_true, strAt_at hi, Option.bind_some, hw, nmQ, letB, digitB]
        rw [lt_not, lt_not, gt_not, gt_not]
        generalize cb s i = b
        cases decide (97 ≤ b) <;> cases decide (b ≤ 122) <;> cases decide (48 ≤ b) <;> cases decide (b ≤ 57) <;> rfl) (by simp [S_impl_IsName_0])
      rw [key]
      have hall : (letB (cb s 0) && (List.range s.size).all (nmQ s)) = (List.range s.size).all (nmP s) := by
        rw [Bool.eq_iff_iff, Bool.and_eq_true, List.all_eq_true, List.all_eq_true]
        constructor
        · rintro ⟨k1, k2⟩ i hi
          have := k2 i hi
          unfold nmQ at this
          unfold nmP
          by_cases h0 : i = 0
          · subst h0; rw [k1]; rfl
          · rw [decide_eq_true h0, Bool.true_and]; exact this
        · intro k
          refine ⟨?_, fun i hi => ?_⟩
          · have := k 0 (List.mem_range.2 (by omega))
            unfold nmP at this
            simpa using this
          · have := k i hi
            unfold nmP at this
            unfold nmQ
            rw [Bool.or_eq_true] at *
            rcases this with h | h
            · exact .inl h
            · rw [Bool.and_eq_true] at h; exact .inr h.2
      rw [← hall]
      unfold letB
      by_cases a1 : cb s 0 < 97
      · rw [decide_eq_true a1, decide_eq_false (show ¬ 97 ≤ cb s 0 by omega)]; rfl
      · rw [decide_eq_false a1, decide_eq_true (show 97 ≤ cb s 0 by omega), cond_false]
        by_cases a2 : cb s 0 > 122
        · rw [decide_eq_true a2, decide_eq_false (show ¬ cb s 0 ≤ 122 by omega)]; rfl
        · rw [decide_eq_false a2, decide_eq_true (show cb s 0 ≤ 122 by omega), cond_false]
          cases (List.range s.size).all (nmQ s) <;> rfl
    · rw [decide_eq_true (show (s.size : Int) > 8 by omega), decide_eq_false h2]; rfl
  · rw [decide_eq_true (show (s.size : Int) < 1 by omega), decide_eq_false h1]; rfl
theorem nameB_size {s : ByteArray} (h : nameB s = true) : s.size ≤ 8 := by
  unfold nameB at h
  simp only [Bool.and_eq_true, decide_eq_true_eq] at h
  exact h.2.1

/-! ### Stations, matrices -/
noncomputable def staB (s : Sta) (plane : Bool) : Bool := nameB s.name && (pB (Good s.x) && (pB (Good s.y) && (plane || ((s.y.mag.length : Int) == 0))))
theorem bind_and' {x : Option Bool} {a b : Bool} {k : Option Bool} (hx : x = some a) (h : k = some b) : (x.bind fun r => cond r k (some false)) = some (a && b) := bind_and hx h
theorem spec_staOk {s : Sta} (plane : Bool) (h : s.fit) (hn : s.name.size ≤ 1048576) : M_spec_StationOk s plane = some (staB s plane) := by
  unfold M_spec_StationOk staB
  refine bind_and (spec_isName hn) (bind_and (spec_ratOk h.1) (bind_and (spec_ratOk h.2) ?_))
  cases plane <;> rfl
theorem impl_staOk {s : Sta} (plane : Bool) (h : s.fit) : M_impl_StationOk s plane = some (staB s plane) := by
  unfold M_impl_StationOk staB
  refine bind_and impl_isName (bind_and (impl_ratOk h.1) (bind_and (impl_ratOk h.2) ?_))
  cases plane <;> rfl

noncomputable def goodB (r : Rt) : Bool := pB (Good r)
theorem spec_goods {l : List Rt} (h : lfit Rt.fit l) : whileO S_spec_MatrixOk_0 (l, (l.length : Int), 0, ()) = some (cond (l.all goodB) (.inr ()) (.inl (false, ()))) := by
  have key := all_loopE (S := S_spec_MatrixOk_0) (fun i => (l, (l.length : Int), (i : Int), ())) l.length (atB goodB l) () (fun i hi => by
    simp only [S_spec_MatrixOk_0, dlt hi, cond_true, idx_at hi, Option.bind_some, spec_ratOk (h.2 _ (List.getElem_mem hi)), succ_wrap hi h.1, atB_at goodB hi, goodB]
    cases pB (Good l[i]) <;> rfl) (by simp [S_spec_MatrixOk_0])
  rw [all_range] at key; exact key
theorem impl_goods {l : List Rt} (h : lfit Rt.fit l) : whileO S_impl_MatrixOk_0 (l, (l.length : Int), 0, ()) = some (cond (l.all goodB) (.inr ()) (.inl (false, ()))) := by
  have key := all_loopE (S := S_impl_MatrixOk_0) (fun i => (l, (l.length : Int), (i : Int), ())) l.length (atB goodB l) () (fun i hi => by
    simp only [S_impl_MatrixOk_0, dlt hi, cond_true, idx_at hi, Option.bind_some, impl_ratOk (h.2 _ (List.getElem_mem hi)), succ_wrap hi h.1, atB_at goodB hi, goodB]
    cases pB (Good l[i]) <;> rfl) (by simp [S_impl_MatrixOk_0])
  rw [all_range] at key; exact key
def inB (n lo hi : Int) : Bool := decide (n ≥ lo) && decide (n ≤ hi)
theorem spec_in (n lo hi : Int) : M_spec_l01In n lo hi = some (inB n lo hi) := by
  unfold M_spec_l01In inB; cases decide (n ≥ lo) <;> rfl
theorem impl_len (n : Int) : M_impl_isLength n = some (inB n 0 24) := by
  unfold M_impl_isLength inB; cases decide (n ≥ 0) <;> rfl
noncomputable def mxB (m : Mx) : Bool := inB m.rows 0 24 && (inB m.cols 0 24 && (((m.cells.length : Int) == IntKind.i64.wrap (m.rows * m.cols)) && m.cells.all goodB))
theorem chainN {x : Option Bool} {a b : Bool} {k : Option Bool} (hx : x = some a) (hk : k = some b) : (x.bind fun r => cond (!r) (some false) k) = some (a && b) := chain hx hk
theorem spec_mxOk {m : Mx} (h : lfit Rt.fit m.cells) : M_spec_MatrixOk m = some (mxB m) := by
  unfold M_spec_MatrixOk mxB L_spec_MatrixOk_0
  refine chain (spec_in ..) (chain (spec_in ..) ?_)
  rw [show ((m.cells.length : Int) != IntKind.i64.wrap (m.rows * m.cols)) = !((m.cells.length : Int) == IntKind.i64.wrap (m.rows * m.cols)) from rfl]
  refine chain0 ?_
  rw [spec_goods h]
  cases m.cells.all goodB <;> rfl
theorem impl_mxOk {m : Mx} (h : lfit Rt.fit m.cells) : M_impl_MatrixOk m = some (mxB m) := by
  unfold M_impl_MatrixOk mxB L_impl_MatrixOk_0
  refine chain (impl_len _) (chain (impl_len _) ?_)
  rw [show ((m.cells.length : Int) != IntKind.i64.wrap (m.rows * m.cols)) = !((m.cells.length : Int) == IntKind.i64.wrap (m.rows * m.cols)) from rfl]
  refine chain0 ?_
  rw [impl_goods h]
  cases m.cells.all goodB <;> rfl

/-! ### Networks -/
def Sta.fitN (s : Sta) : Prop := s.fit ∧ s.name.size ≤ 1048576
theorem Sta.fitN_of {s : Sta} (h : s.sz ≤ 1048576) : s.fitN := ⟨Sta.fit_of h, by unfold Sta.sz at h; omega⟩
theorem fitN_fit {l : List Sta} (h : lfit Sta.fitN l) : lfit Sta.fit l := ⟨h.1, fun x hx => (h.2 x hx).1⟩
noncomputable def netP (n : Net) (i : Nat) : Bool := match n.stations[i]? with
  | some s => staB s n.plane && (findSta n.stations s.name == (i : Int))
  | none => true
noncomputable def netB (n : Net) : Bool := decide (n.stations.length ≤ 8) && (List.range n.stations.length).all (netP n)
theorem le8 {n : Nat} : decide ((n : Int) > 8) = !decide (n ≤ 8) := by rw [Bool.eq_iff_iff]; simp; omega
theorem spec_netOk {n : Net} (h : lfit Sta.fitN n.stations) : M_spec_NetworkOk n = some (netB n) := by
  unfold M_spec_NetworkOk netB L_spec_NetworkOk_0
  rw [le8]
  refine chain0 ?_
  have key := all_loopE (S := S_spec_NetworkOk_0) (fun i => (n.stations, (n.stations.length : Int), (i : Int), n.plane, n.stations, ())) n.stations.length (netP n) () (fun i hi => by
    have hf := h.2 _ (List.getElem_mem hi)
    have he : netP n i = (staB n.stations[i] n.plane && (findSta n.stations n.stations[i].name == (i : Int))) := by unfold netP; rw [List.getElem?_eq_getElem hi]
    simp only [S_spec_NetworkOk_0, dlt hi, cond_true, idx_at hi, Option.bind_some, spec_staOk n.plane hf.1 hf.2, findStation_eq, impl_find (n := ⟨n.plane, n.stations⟩) (name := n.stations[i].name) h.1, succ_wrap hi h.1, he]
    cases staB n.stations[i] n.plane <;> simp only [Bool.not_true, Bool.not_false, cond_true, cond_false, Bool.true_and, Bool.false_and]
    rw [show (findSta n.stations n.stations[i].name != (i : Int)) = !(findSta n.stations n.stations[i].name == (i : Int)) from rfl]
    cases (findSta n.stations n.stations[i].name == (i : Int)) <;> rfl) (by simp [S_spec_NetworkOk_0])
  rw [show ((0 : Int)) = ((0 : Nat) : Int) from rfl, key]
  cases (List.range n.stations.length).all (netP n) <;> rfl
theorem impl_netOk {n : Net} (h : lfit Sta.fit n.stations) : M_impl_NetworkOk n = some (netB n) := by
  unfold M_impl_NetworkOk netB L_impl_NetworkOk_0
  rw [le8]
  refine chain0 ?_
  have key := all_loopE (S := S_impl_NetworkOk_0) (fun i => (n.stations, (n.stations.length : Int), (i : Int), n.plane, n.stations, ())) n.stations.length (netP n) () (fun i hi => by
    have hf := h.2 _ (List.getElem_mem hi)
    have he : netP n i = (staB n.stations[i] n.plane && (findSta n.stations n.stations[i].name == (i : Int))) := by unfold netP; rw [List.getElem?_eq_getElem hi]
    simp only [S_impl_NetworkOk_0, dlt hi, cond_true, idx_at hi, Option.bind_some, impl_staOk n.plane hf, impl_find (n := ⟨n.plane, n.stations⟩) (name := n.stations[i].name) h.1, succ_wrap hi h.1, he]
    cases staB n.stations[i] n.plane <;> simp only [Bool.not_true, Bool.not_false, cond_true, cond_false, Bool.true_and, Bool.false_and]
    rw [show (findSta n.stations n.stations[i].name != (i : Int)) = !(findSta n.stations n.stations[i].name == (i : Int)) from rfl]
    cases (findSta n.stations n.stations[i].name == (i : Int)) <;> rfl) (by simp [S_impl_NetworkOk_0])
  rw [show ((0 : Int)) = ((0 : Nat) : Int) from rfl, key]
  cases (List.range n.stations.length).all (netP n) <;> rfl
theorem netB_len {n : Net} (h : netB n = true) : n.stations.length ≤ 8 := by
  unfold netB at h
  rw [Bool.and_eq_true, decide_eq_true_eq] at h; exact h.1
theorem netB_sta {n : Net} (h : netB n = true) {i : Nat} (hi : i < n.stations.length) : staB n.stations[i] n.plane = true := by
  unfold netB at h
  rw [Bool.and_eq_true, List.all_eq_true] at h
  have := h.2 i (List.mem_range.2 hi)
  unfold netP at this
  rw [List.getElem?_eq_getElem hi, Bool.and_eq_true] at this
  exact this.1
end Go.Di
/-
  Own work. Plain laws: the statements' marks on lists of integers.
-/
namespace Go.Di

def upto (k : Int) (n : Nat) : List Int := (List.range n).map fun (i : Nat) => k + (i : Int)
@[simp] theorem len_upto (k : Int) (n : Nat) : (upto k n).length = n := by simp [upto]
theorem upto_at {k : Int} {n i : Nat} (h : i < n) : (upto k n)[i]'(by simpa using h) = k + i := by simp [upto]
theorem upto_succ (k : Int) (n : Nat) : upto k (n + 1) = upto k n ++ [k + n] := by simp [upto, List.range_succ]

theorem mark_ints {a : List Int} {k : Int} (ha : a.length ≤ 1048576) (h0 : 0 ≤ k) (h1 : k ≤ 1000000000000) : M_laws_markIntS_md a k = some (k + a.length, upto k a.length) := by
  unfold M_laws_markIntS_md L_laws_markIntS_md_0
  have key := whileO_upto S_laws_markIntS_md_0 (fun i => (k + (i : Int), (i : Int), upto k i ++ a.drop i, ())) a.length (k + (a.length : Int), upto k a.length, ()) (fun i hi => by
    have hl : (upto k i ++ a.drop i).length = a.length := by simp; omega
    have hlt : decide ((i : Int) < ((upto k i ++ a.drop i).length : Int)) = true := by rw [hl]; exact dlt hi
    have hi' : i < (upto k i ++ a.drop i).length := by rw [hl]; exact hi
    have e1 : IntKind.i64.wrap (k + (i : Int) + 1) = k + ((i + 1 : Nat) : Int) := by rw [wrap_i64 (by omega) (by omega)]; omega
    simp only [S_laws_markIntS_md_0, hlt, cond_true, idx_at hi', Option.bind_some, e1, succ_wrap hi ha, Int.toNat_natCast]
    congr 4
    rw [upto_succ, List.set_append_right _ _ (by simp), len_upto, Nat.sub_self, List.drop_eq_getElem_cons hi, List.set_cons_zero, List.append_assoc]
    rfl) (by simp [S_laws_markIntS_md_0])
  simp only [Int.natCast_zero, Int.add_zero] at key
  rw [show upto k 0 ++ a.drop 0 = a by simp [upto]] at key
  rw [key]; rfl

theorem held_ints {k : Int} {n : Nat} (hn : n ≤ 1048576) (h0 : 0 ≤ k) (h1 : k ≤ 1000000000000) : M_laws_heldIntS (upto k n) k = some (k + n) := by
  unfold M_laws_heldIntS L_laws_heldIntS_0
  have key := whileO_upto S_laws_heldIntS_0 (fun i => (upto k n, k + (i : Int), (i : Int), ())) n (.inr (k + (n : Int), ())) (fun i hi => by
    have hi' : i < (upto k n).length := by simpa using hi
    have hlt : decide ((i : Int) < ((upto k n).length : Int)) = true := dlt hi'
    have e1 : IntKind.i64.wrap (k + (i : Int) + 1) = k + ((i + 1 : Nat) : Int) := by rw [wrap_i64 (by omega) (by omega)]; omega
    have e2 : ((upto k n)[i] != k + (i : Int)) = false := by rw [upto_at hi]; simp
    simp only [S_laws_heldIntS_0, hlt, cond_true, idx_at hi', Option.bind_some, e1, succ_wrap hi hn, e2, cond_false]) (by simp [S_laws_heldIntS_0])
  simp only [Int.natCast_zero, Int.add_zero] at key
  rw [key]; rfl

theorem dneg {x : Int} (h : 0 ≤ x) : decide (x < 0) = false := decide_eq_false (by omega)
theorem bneSelf (x : Int) : (x != x) = false := by simp
theorem mark_rat {r : Rt} (h : r.fit) {k : Int} (h0 : 0 ≤ k) (h1 : k ≤ 999990000000) : M_laws_markRat_md r k = some (k + r.mag.length + r.den.length, upto k r.mag.length, upto (k + r.mag.length) r.den.length) := by
  have := h.1
  unfold M_laws_markRat_md M_laws_markBigInt_md
  rw [mark_ints h.1 h0 (by omega), Option.bind_some]
  simp only [Option.bind_some]
  rw [mark_ints h.2 (by omega) (by omega), Option.bind_some]
theorem held_rat {b : Bool} {m d : Nat} {k : Int} (hm : m ≤ 1048576) (hd : d ≤ 1048576) (h0 : 0 ≤ k) (h1 : k ≤ 999990000000) : M_laws_heldRat ⟨b, upto k m, upto (k + m) d⟩ k = some (k + m + d) := by
  unfold M_laws_heldRat M_laws_heldBigInt
  simp only []
  rw [held_ints hm h0 (by omega), Option.bind_some, dneg (by omega), cond_false, Option.bind_some, dneg (by omega), cond_false, held_ints hd (by omega) (by omega), Option.bind_some, dneg (by omega), cond_false]
end Go.Di
/-
  Own work. Plain laws: the root of a natural number, in the program and in the reference.
-/
namespace Go.Di

/-- Newton's steps from x down. -/
def newt (a x : Nat) : Nat := if (x + a / x) / 2 < x then newt a ((x + a / x) / 2) else x
termination_by x
def rootN (a : Nat) : Nat := if a = 0 then 0 else newt a (1000000000 ^ (((dg a).length + 1) / 2))

theorem newt_pos {a : Nat} (ha : 0 < a) : ∀ x, 0 < x → 0 < (x + a / x) / 2 := fun x hx => by
  rcases Nat.lt_or_ge x 2 with h | h
  · have : x = 1 := by omega
    subst this
    rw [Nat.div_one]; omega
  · exact Nat.div_pos (Nat.le_trans h (Nat.le_add_right _ _)) (by omega)

theorem two_dg : ([2] : List Int) = dg 2 := (dg_one (n := 2) (by omega) (by omega)).symm
theorem start_dg (h : Nat) : List.replicate h (0 : Int) ++ [1] = dg (1000000000 ^ h) := by
  refine eq_dg ⟨(Dig.zeros h).snoc (by omega), by simp [Top0]⟩ ?_
  rw [nv_snoc, nv_zeros, List.length_replicate]
  unfold bp
  simp

theorem len_half {n k : Nat} (h : (dg n).length ≤ k) : (dg (n / 2)).length ≤ k := Nat.le_trans (len_dg_mono (Nat.div_le_self n 2)) h
theorem newt_len {a x k : Nat} (ha : (dg a).length ≤ k) (hx : (dg x).length ≤ k) : (dg (x + a / x)).length ≤ k + 1 := len_dg_add hx (Nat.le_trans (len_dg_mono (Nat.div_le_self a x)) ha)

theorem spec_root_loop {a : Nat} (ha : 0 < a) (hl : (dg a).length ≤ 10000000) : ∀ x : Nat, 0 < x → (dg x).length ≤ 10000000 → whileO S_spec_l09Root_1 (dg a, dg x, ()) = some (dg (newt a x), ()) := by
  intro x
  induction x using Nat.strongRecOn with
  | _ x ih =>
    intro hx hxl
    have hq := Nat.le_trans (len_dg_mono (Nat.div_le_self a x)) hl
    have hs := newt_len hl hxl
    have hy := len_half hs
    have hcmp := spec_cmp (dg_can ((x + a / x) / 2)) (dg_can x) (by omega)
    rw [nv_dg, nv_dg] at hcmp
    have h2 : (dg 2).length ≤ 100000000 := by rw [← two_dg]; simp
    have step : S_spec_l09Root_1 (dg a, dg x, ()) = cond (decide (((x : Nat) : Int) ≤ (((x + a / x) / 2 : Nat) : Int))) (some (.inr (dg x, ()))) (some (.inl (dg a, dg ((x + a / x) / 2), ()))) := by
      simp only [S_spec_l09Root_1, two_dg, spec_div (show (dg a).length ≤ 100000000 by omega) (show (dg x).length ≤ 100000000 by omega) hx, Option.bind_some, spec_add (show (dg x).length ≤ 1073740000 by omega) (show (dg (a / x)).length ≤ 1073740000 by omega),
        spec_trim' (show (dg (x + a / x)).length ≤ 1073741824 by omega), spec_div (show (dg (x + a / x)).length ≤ 100000000 by omega) h2 (show 0 < 2 by omega), spec_trim' (show (dg ((x + a / x) / 2)).length ≤ 1073741824 by omega), spec_trim' (show (dg x).length ≤ 1073741824 by omega), hcmp, cmpI_ge, room (show (dg x).length ≤ 1073741824 by omega)]
    rw [newt]
    by_cases hlt : (x + a / x) / 2 < x
    · rw [if_pos hlt, whileO_inl (by rw [step, decide_eq_false (by omega)]; rfl)]
      exact ih _ hlt (newt_pos ha x hx) (Nat.le_trans (len_dg_mono (Nat.le_of_lt hlt)) hxl)
    · rw [if_neg hlt]
      exact whileO_inr (by rw [step, decide_eq_true (by omega)]; rfl)
theorem impl_root_loop {a : Nat} (ha : 0 < a) (hl : (dg a).length ≤ 10000000) : ∀ x : Nat, 0 < x → (dg x).length ≤ 10000000 → whileO S_impl_root_0 (dg a, dg x, ()) = some (dg (newt a x), ()) := by
  intro x
  induction x using Nat.strongRecOn with
  | _ x ih =>
    intro hx hxl
    have hq := Nat.le_trans (len_dg_mono (Nat.div_le_self a x)) hl
    have hs := newt_len hl hxl
    have hy := len_half hs
    have hcmp := impl_cmp (dg_can ((x + a / x) / 2)) (dg_can x) (by omega)
    rw [nv_dg, nv_dg] at hcmp
    have h2 : (dg 2).length ≤ 100000000 := by rw [← two_dg]; simp
    have step : S_impl_root_0 (dg a, dg x, ()) = cond (decide (((x : Nat) : Int) ≤ (((x + a / x) / 2 : Nat) : Int))) (some (.inr (dg x, ()))) (some (.inl (dg a, dg ((x + a / x) / 2), ()))) := by
      simp only [S_impl_root_0, two_dg, impl_div (show (dg a).length ≤ 100000000 by omega) (show (dg x).length ≤ 100000000 by omega) hx, Option.bind_some, impl_add (show (dg x).length ≤ 1073740000 by omega) (show (dg (a / x)).length ≤ 1073740000 by omega),
        impl_div (show (dg (x + a / x)).length ≤ 100000000 by omega) h2 (show 0 < 2 by omega), hcmp, cmpI_ge]
    rw [newt]
    by_cases hlt : (x + a / x) / 2 < x
    · rw [if_pos hlt, whileO_inl (by rw [step, decide_eq_false (by omega)]; rfl)]
      exact ih _ hlt (newt_pos ha x hx) (Nat.le_trans (len_dg_mono (Nat.le_of_lt hlt)) hxl)
    · rw [if_neg hlt]
      exact whileO_inr (by rw [step, decide_eq_true (by omega)]; rfl)

theorem pow_len (h : Nat) : (dg (1000000000 ^ h)).length = h + 1 := by rw [← start_dg]; simp
theorem half_wrap {n : Nat} (h : n ≤ 10000000) : IntKind.i64.wrap ((IntKind.i64.wrap ((n : Int) + 1)).tdiv 2) = (((n + 1) / 2 : Nat) : Int) := by
  rw [wrap_i64 (n := (n : Int) + 1) (by omega) (by omega), Int.tdiv_eq_ediv_of_nonneg (by omega), wrap_i64 (by omega) (by omega)]
  omega
theorem rootN_zero : rootN 0 = 0 := by unfold rootN; rw [if_pos rfl]

theorem spec_root {a : Nat} (hl : (dg a).length ≤ 1000000) : M_spec_l09Root (dg a) = some (dg (rootN a)) := by
  unfold M_spec_l09Root
  rw [dg_len0]
  by_cases h0 : a = 0
  · subst h0; rw [decide_eq_true rfl, cond_true, rootN_zero, dg_zero]
  · rw [decide_eq_false h0, cond_false]
    unfold L_spec_l09Root_0
    have hw := half_wrap (n := (dg a).length) (by omega)
    have key := whileO_upto S_spec_l09Root_0 (fun i => (dg a, List.replicate i 0, ())) (((dg a).length + 1) / 2) (dg a, List.replicate (((dg a).length + 1) / 2) 0, ()) (fun i hi => by
      have h1 : decide (((List.replicate i (0 : Int)).length : Int) < (((((dg a).length + 1) / 2 : Nat)) : Int)) = true := by rw [List.length_replicate]; exact decide_eq_true (by omega)
      simp only [S_spec_l09Root_0, hw, h1, cond_true, room (show (List.replicate i (0 : Int)).length + 1 ≤ 1073741824 by simp; omega), Option.bind_some]
      rw [← List.replicate_succ']) (by
      have h1 : decide (((List.replicate (((dg a).length + 1) / 2) (0 : Int)).length : Int) < (((((dg a).length + 1) / 2 : Nat)) : Int)) = false := by rw [List.length_replicate]; exact decide_eq_false (by omega)
      simp only [S_spec_l09Root_0, hw, h1, cond_false])
    rw [List.replicate_zero] at key
    rw [key, Option.bind_some]
    simp only []
    rw [room (by simp; omega), Option.bind_some, start_dg]
    unfold L_spec_l09Root_1
    rw [spec_root_loop (by omega) (by omega) _ (Nat.pow_pos (by omega)) (by rw [pow_len]; omega), Option.bind_some]
    unfold rootN
    rw [if_neg h0]
theorem impl_root {a : Nat} (hl : (dg a).length ≤ 1000000) : M_impl_root (dg a) = some (dg (rootN a)) := by
  unfold M_impl_root
  rw [dg_len0]
  by_cases h0 : a = 0
  · subst h0; rw [decide_eq_true rfl, cond_true, rootN_zero, dg_zero]
  · rw [decide_eq_false h0, cond_false, half_wrap (n := (dg a).length) (by omega)]
    have e1 : IntKind.i64.wrap (((((dg a).length + 1) / 2 : Nat) : Int) + 1) = ((((dg a).length + 1) / 2 + 1 : Nat) : Int) := by rw [wrap_i64 (by omega) (by omega)]; omega
    rw [e1, mk_guard (by omega), Option.bind_some, Int.toNat_natCast, List.length_replicate]
    have e2 : IntKind.i64.wrap (((((dg a).length + 1) / 2 + 1 : Nat) : Int) - 1) = ((((dg a).length + 1) / 2 : Nat) : Int) := by rw [wrap_i64 (by omega) (by omega)]; omega
    rw [e2, idx_at (by simp), Option.bind_some, Int.toNat_natCast]
    have e3 : (List.replicate (((dg a).length + 1) / 2 + 1) (0 : Int)).set (((dg a).length + 1) / 2) 1 = dg (1000000000 ^ (((dg a).length + 1) / 2)) := by
      rw [← start_dg, List.replicate_succ', List.set_append_right _ _ (by simp)]; simp
    rw [e3]
    unfold L_impl_root_0
    rw [impl_root_loop (by omega) (by omega) _ (Nat.pow_pos (by omega)) (by rw [pow_len]; omega), Option.bind_some]
    unfold rootN
    rw [if_neg h0]
theorem spec_rootOf {a : List Int} (h : a.length ≤ 1048576) : M_spec_RootOfNat a = some (cond (pB (NatOk a)) (dg (rootN (nv a).toNat)) []) := by
  unfold M_spec_RootOfNat
  rw [spec_natOk h, Option.bind_some]
  by_cases hk : NatOk a
  · rw [pB_iff.2 hk]
    have e := hk.1.dg
    have hl := hk.2
    generalize (nv a).toNat = m at *
    subst e
    simp only [Bool.not_true, cond_false, cond_true]
    rw [spec_root (by omega)]; rfl
  · rw [pB_not.2 hk]; rfl
theorem impl_rootOf {a : List Int} (h : a.length ≤ 1048576) : M_impl_RootOfNat a = some (cond (pB (NatOk a)) (dg (rootN (nv a).toNat)) []) := by
  unfold M_impl_RootOfNat
  rw [impl_natOk h, Option.bind_some]
  by_cases hk : NatOk a
  · rw [pB_iff.2 hk]
    have e := hk.1.dg
    have hl := hk.2
    generalize (nv a).toNat = m at *
    subst e
    simp only [Bool.not_true, cond_false, cond_true]
    rw [impl_root (by omega)]; rfl
  · rw [pB_not.2 hk]; rfl
theorem newt_le (a : Nat) : ∀ x, newt a x ≤ x := by
  intro x
  induction x using Nat.strongRecOn with
  | _ x ih =>
    rw [newt]
    split
    · rename_i h; exact Nat.le_trans (ih _ h) (Nat.le_of_lt h)
    · exact Nat.le_refl _
theorem root_len {a : Nat} : (dg (rootN a)).length ≤ (dg a).length + 1 := by
  unfold rootN
  split
  · rename_i h; subst h; simp [dg_zero]
  · have := len_dg_mono (newt_le a (1000000000 ^ (((dg a).length + 1) / 2)))
    rw [pow_len] at this
    have hne : 0 < (dg a).length := by
      rename_i h
      exact List.length_pos_iff.2 (fun e => h (dg_nil.1 e))
    omega
end Go.Di
/-
  Own work. Plain laws: quotients in the reference; signs; roundings; roots of fractions.
-/
namespace Go.Di

theorem spec_badO (o : Option Rat) : M_spec_l05Bad (ro o) = some o.isNone := by unfold M_spec_l05Bad; rw [den_void]

theorem spec_divO {o p : Option Rat} (ho : Oks o) (hp : Oks p) : M_spec_l05Div (ro o) (ro p) = some (ro (divO o p)) := by
  unfold M_spec_l05Div
  have hom := ro_mag ho
  have hpm := ro_mag hp
  have hod := ro_den ho
  have hpd := ro_den hp
  cases o with
  | none =>
    obtain ⟨m, d, e1, e2⟩ : ∃ m d : Nat, (ro p).mag = dg m ∧ (ro p).den = dg d := by
      cases p with
      | none => exact ⟨0, 0, dg_zero.symm, dg_zero.symm⟩
      | some r => exact ⟨_, _, rfl, rfl⟩
    rw [e1] at hpm; rw [e2] at hpd
    rw [ro_none_dg, e1, e2]
    rw [spec_mul (by rw [dg_zero]; simp) (by omega), Option.bind_some, spec_mul (by rw [dg_zero]; simp) (by omega), Option.bind_some, Nat.zero_mul, Nat.zero_mul, spec_low0 (by rw [dg_zero]; simp), Option.bind_some]; rfl
  | some q =>
    have fq := ho q rfl
    cases p with
    | none =>
      rw [ro_none_dg]
      show ((M_spec_l02Mul (dg q.num.natAbs) (dg 0)).bind fun r1 => (M_spec_l02Mul (dg q.den) (dg 0)).bind _) = _
      rw [spec_mul (by have := fq.1; omega) (by rw [dg_zero]; simp), Option.bind_some, spec_mul (by have := fq.2; omega) (by rw [dg_zero]; simp), Option.bind_some, Nat.mul_zero, Nat.mul_zero, spec_low0 (by rw [dg_zero]; simp), Option.bind_some]; rfl
    | some r =>
      have fr := hp r rfl
      have h3 := small24 fq.2 fr.1
      have h4 := small24 fq.1 fr.2
      show ((M_spec_l02Mul (dg q.num.natAbs) (dg r.den)).bind fun r1 => (M_spec_l02Mul (dg q.den) (dg r.num.natAbs)).bind fun r2 => (M_spec_l04Low (!(decide (q.num < 0) == decide (r.num < 0))) r1 r2).bind _) = _
      rw [spec_mul (by have := fq.1; omega) (by have := fr.2; omega), Option.bind_some, spec_mul (by have := fq.2; omega) (by have := fr.1; omega), Option.bind_some]
      by_cases h0 : r = 0
      · have : r.num.natAbs = 0 := by rw [h0]; rfl
        rw [this, Nat.mul_zero, spec_low0 (by omega), Option.bind_some]
        simp [divO, h0]
      · have hn : r.num.natAbs ≠ 0 := fun h => h0 (Rat.num_eq_zero.1 (by omega))
        rw [spec_low (Nat.mul_ne_zero q.den_nz hn) (by omega) (by omega), Option.bind_some]
        have hs := sg_mul q.num (sg (decide (r.num < 0)) r.den)
        rw [sg_abs, sg_neg r.den_nz] at hs
        rw [hs, mk_div q r h0]
        simp [divO, h0]

/-! ### Signs -/
theorem impl_signq (q : Rat) : M_impl_sign (rq q) = some (cond (decide (q.num < 0)) (-1) (cond (decide (q.num ≠ 0)) 1 0)) := by
  unfold M_impl_sign rq
  simp only [dg_lenpos]
  cases decide (q.num < 0) with
  | true => rfl
  | false =>
    simp only [cond_false]
    have : decide (q.num.natAbs ≠ 0) = decide (q.num ≠ 0) := by rw [Bool.eq_iff_iff]; simp
    rw [this]
    cases decide (q.num ≠ 0) <;> rfl

/-! ### Rounded down -/
theorem floor_neg {n : Int} {d : Nat} (hd : 0 < d) (hn : n < 0) : sg true (n.natAbs / d + (if n.natAbs % d = 0 then 0 else 1)) = n / (d : Int) := by
  have h1 : ((n.natAbs : Nat) : Int) = -n := by omega
  have hdm := Nat.div_add_mod n.natAbs d
  have hlt := Nat.mod_lt n.natAbs hd
  generalize n.natAbs / d = q at *
  generalize n.natAbs % d = r at *
  have hz : (d : Int) * q + r = -n := by rw [← h1]; exact_mod_cast hdm
  simp only [sg, cond_true]
  by_cases hr : r = 0
  · rw [if_pos hr]
    subst hr
    have : n = (d : Int) * (-(q : Int)) := by grind
    rw [this, Int.mul_ediv_cancel_left _ (by omega)]; omega
  · rw [if_neg hr]
    have e : n = ((d : Int) - r) + (d : Int) * (-(q : Int) - 1) := by grind
    rw [e, Int.add_mul_ediv_left _ _ (by omega), Int.ediv_eq_zero_of_lt (by omega) (by omega)]; omega
theorem floor_pos {n : Int} {d : Nat} (hn : ¬ n < 0) : sg false (n.natAbs / d) = n / (d : Int) := by
  have h1 : n = ((n.natAbs : Nat) : Int) := by omega
  simp only [sg, cond_false]
  rw [Int.natCast_ediv, ← h1]

theorem impl_floor {q : Rat} (hm : (dg q.num.natAbs).length ≤ 24) (hd : (dg q.den).length ≤ 24) : ∃ r, M_impl_bigFloor ⟨decide (q.num < 0), dg q.num.natAbs⟩ (dg q.den) = some (bg (q.num / (q.den : Int)), r) := by
  unfold M_impl_bigFloor
  have hpos : 0 < q.den := Nat.pos_of_ne_zero q.den_nz
  have hq := Nat.le_trans (len_dg_mono (Nat.div_le_self q.num.natAbs q.den)) hm
  simp only []
  rw [impl_div (by omega) (by omega) hpos, Option.bind_some]
  by_cases h : q.num < 0
  · rw [decide_eq_true h]
    simp only [Bool.not_true, cond_false, dg_lenpos]
    have hf := floor_neg hpos h
    by_cases hr : q.num.natAbs % q.den = 0
    · rw [decide_eq_false (by omega), cond_false, impl_signed, Option.bind_some]
      rw [if_pos hr, Nat.add_zero] at hf
      rw [hf]; exact ⟨_, rfl⟩
    · rw [decide_eq_true (by omega), cond_true, ← dg_one1, impl_add (by omega) (by rw [dg_one1]; simp), Option.bind_some, impl_sub (by omega) (Nat.le_of_lt (Nat.mod_lt _ hpos)), Option.bind_some, impl_signed, Option.bind_some]
      rw [if_neg hr] at hf
      rw [hf]; exact ⟨_, rfl⟩
  · rw [decide_eq_false h]
    simp only [Bool.not_false, cond_true]
    rw [impl_signed, Option.bind_some, floor_pos h]; exact ⟨_, rfl⟩
theorem spec_trimc {m : Nat} (h : (dg m).length ≤ 1073741824) : M_spec_l02Trim_c (dg m) = some (dg m) := by rw [spec_trim h, dg_tz]
theorem spec_floor {q : Rat} (hm : (dg q.num.natAbs).length ≤ 24) (hd : (dg q.den).length ≤ 24) : M_spec_l09Floor (rq q) = some (bg (q.num / (q.den : Int))) := by
  unfold M_spec_l09Floor rq
  have hpos : 0 < q.den := Nat.pos_of_ne_zero q.den_nz
  have hq := Nat.le_trans (len_dg_mono (Nat.div_le_self q.num.natAbs q.den)) hm
  have hr := Nat.le_trans (len_dg_mono (Nat.mod_le q.num.natAbs q.den)) hm
  simp only []
  rw [spec_div (by omega) (by omega) hpos, Option.bind_some]
  simp only []
  rw [spec_trimc (by omega), Option.bind_some]
  by_cases h : q.num < 0
  · rw [decide_eq_true h]
    simp only [cond_true]
    have hf := floor_neg hpos h
    rw [spec_trimc (by omega), Option.bind_some, dg_lenpos]
    by_cases hr0 : q.num.natAbs % q.den = 0
    · rw [decide_eq_false (by omega), cond_false, spec_make _ (by omega), Option.bind_some]
      rw [if_pos hr0, Nat.add_zero] at hf
      rw [hf]
    · have h1 : (dg (q.num.natAbs / q.den + 1)).length ≤ 25 := len_dg_add hq (by rw [dg_one1]; simp)
      rw [decide_eq_true (by omega), cond_true, ← dg_one1, spec_add (by omega) (by rw [dg_one1]; simp), Option.bind_some, spec_trimc (by omega), Option.bind_some, spec_make _ (by omega), Option.bind_some]
      rw [if_neg hr0] at hf
      rw [hf]
  · rw [decide_eq_false h]
    simp only [cond_false]
    rw [spec_make _ (by omega), Option.bind_some, floor_pos h]

theorem half_fit : Fit (((1 : Int) : Rat) / ((2 : Int) : Rat)) := by
  have h := mk_div ((1 : Int) : Rat) ((2 : Int) : Rat) (by decide)
  rw [Rat.num_intCast, Rat.num_intCast, Rat.den_intCast, Rat.den_intCast] at h
  rw [← h]
  have e : sg (decide ((2 : Int) < 0)) 1 = 1 := rfl
  rw [e, fit_mk _ (d := 1 * (2 : Int).natAbs) (by decide)]
  have e1 : ((1 : Int) * 1).natAbs = 1 := rfl
  have e2 : (1 : Nat) * (2 : Int).natAbs = 2 := rfl
  rw [e1, e2, Nat.gcd_one_left, Nat.div_one, Nat.div_one, dg_one1, ← two_dg]; simp

noncomputable def rtO (q : Rat) (n : Int) : Option Rat := (addO (mulO (some q) (some (n : Rat))) (some (((1 : Int) : Rat) / ((2 : Int) : Rat)))).bind fun x => chk (mkRat (x.num / (x.den : Int)) n.toNat)
theorem ediv_len {n : Int} {d : Nat} (hd : 0 < d) (h : (dg n.natAbs).length ≤ 24) : (dg (n / (d : Int)).natAbs).length ≤ 25 := by
  have hle : (n / (d : Int)).natAbs ≤ n.natAbs + 1 := by
    have h1 := Int.mul_ediv_add_emod n (d : Int)
    have h2 := Int.emod_nonneg n (show (d : Int) ≠ 0 by omega)
    have h3 := Int.emod_lt_of_pos n (show (0 : Int) < d by omega)
    rcases Int.lt_or_le n 0 with hn | hn
    · have h4 : n / (d : Int) < 0 := Int.ediv_neg_of_neg_of_pos hn (by omega)
      have h5 : n * (d : Int) ≤ n * 1 := Int.mul_le_mul_of_nonpos_left (by omega) (show (1 : Int) ≤ d by omega)
      have h6 : n ≤ n / (d : Int) := Int.le_ediv_of_mul_le (by omega) (by omega)
      omega
    · have h4 := Int.ediv_nonneg hn (show (0 : Int) ≤ d by omega)
      have h5 := Int.ediv_le_self (d : Int) hn
      omega
  exact Nat.le_trans (len_dg_mono hle) (len_dg_add h (by rw [dg_one1]; simp))

theorem impl_round {q : Rat} (hq : Fit q) {n : Int} (h1 : 1 ≤ n) (h2 : n ≤ 1000000) : M_impl_RoundTo (rq q) n = some (ro (rtO q n)) := by
  unfold M_impl_RoundTo
  have hr : rq q = ro (some q) := rfl
  have fn := fit_int (n := n) (by omega) (by omega)
  rw [hr, impl_okO hq.ok, Option.bind_some, decide_eq_false (show ¬ n < 1 by omega), decide_eq_false (show ¬ n > 1000000 by omega)]
  simp only [Option.isSome_some, Bool.not_true, cond_false]
  rw [impl_whole (by omega) (by omega), Option.bind_some, impl_mulO hq.ok fn.ok, Option.bind_some, impl_ratOf (by omega) (by omega) (by omega) (by omega) (by omega), chk_fit half_fit, Option.bind_some, impl_addO oks_mulO half_fit.ok, Option.bind_some, impl_void, Option.bind_some]
  unfold rtO
  have ok := oks_addO (o := mulO (some q) (some (n : Rat))) (p := some (((1 : Int) : Rat) / ((2 : Int) : Rat)))
  generalize addO (mulO (some q) (some (n : Rat))) (some (((1 : Int) : Rat) / ((2 : Int) : Rat))) = o at *
  cases o with
  | none => rfl
  | some x =>
    have fx := ok x rfl
    simp only [Option.isNone_some, cond_false, Option.bind_some]
    obtain ⟨r, hr⟩ := impl_floor fx.1 fx.2
    show ((M_impl_bigFloor ⟨decide (x.num < 0), dg x.num.natAbs⟩ (dg x.den)).bind _) = _
    have hl := ediv_len (n := x.num) (Nat.pos_of_ne_zero x.den_nz) fx.1
    have hs := len_small (show n.toNat ≤ 9223372036854775807 by omega)
    rw [hr, Option.bind_some]
    simp only []
    rw [impl_natOf (by omega), Option.bind_some, impl_lowest (by omega) (by omega) (by omega), Option.bind_some]
theorem spec_round {q : Rat} (hq : Fit q) {n : Int} (h1 : 1 ≤ n) (h2 : n ≤ 1000000) : M_spec_RoundTo (rq q) n = some (ro (rtO q n)) := by
  unfold M_spec_RoundTo M_spec_l01In
  have hr : rq q = ro (some q) := rfl
  have fn := fit_int (n := n) (by omega) (by omega)
  rw [hr, spec_okO hq.ok, Option.bind_some, decide_eq_true (show n ≥ 1 by omega), decide_eq_true (show n ≤ 1000000 by omega)]
  simp only [Option.isSome_some, Bool.not_true, cond_false, cond_true, Option.bind_some]
  rw [spec_ratInt (by omega) (by omega), Option.bind_some, spec_mulO hq.ok fn.ok, Option.bind_some, spec_ratOf (by omega) (by omega) (by omega) (by omega) (by omega), chk_fit half_fit, Option.bind_some, spec_addO oks_mulO half_fit.ok, Option.bind_some, spec_badO, Option.bind_some]
  unfold rtO
  have ok := oks_addO (o := mulO (some q) (some (n : Rat))) (p := some (((1 : Int) : Rat) / ((2 : Int) : Rat)))
  generalize addO (mulO (some q) (some (n : Rat))) (some (((1 : Int) : Rat) / ((2 : Int) : Rat))) = o at *
  cases o with
  | none => rfl
  | some x =>
    have fx := ok x rfl
    simp only [Option.isNone_some, cond_false, Option.bind_some]
    have hl := ediv_len (n := x.num) (Nat.pos_of_ne_zero x.den_nz) fx.1
    have hs := len_small (show n.toNat ≤ 9223372036854775807 by omega)
    rw [show ro (some x) = rq x from rfl, spec_floor fx.1 fx.2, Option.bind_some, spec_natOf (by omega), Option.bind_some]
    show ((M_spec_l04Low (decide (x.num / (x.den : Int) < 0)) (dg (x.num / (x.den : Int)).natAbs) (dg n.toNat)).bind _) = _
    rw [spec_low (by omega) (by omega) (by omega), Option.bind_some, sg_self]
theorem round_both {r : Rt} (hr : r.fit) (n : Int) : ∃ o, Oks o ∧ M_spec_RoundTo r n = some (ro o) ∧ M_impl_RoundTo r n = some (ro o) := by
  by_cases hg : Good r
  · obtain ⟨q, hf, rfl⟩ := hg
    by_cases h1 : 1 ≤ n
    · by_cases h2 : n ≤ 1000000
      · exact ⟨_, oks_bind fun _ => oks_chk _, spec_round hf h1 h2, impl_round hf h1 h2⟩
      · refine ⟨none, oks_none, ?_, ?_⟩
        · unfold M_spec_RoundTo M_spec_l01In
          rw [spec_ratOk hr, good_rq hf, decide_eq_true (show n ≥ 1 by omega), decide_eq_false h2]; rfl
        · unfold M_impl_RoundTo
          rw [impl_ratOk hr, good_rq hf, decide_eq_false (show ¬ n < 1 by omega), decide_eq_true (show n > 1000000 by omega)]; rfl
    · refine ⟨none, oks_none, ?_, ?_⟩
      · unfold M_spec_RoundTo M_spec_l01In
        rw [spec_ratOk hr, good_rq hf, decide_eq_false (show ¬ n ≥ 1 by omega)]; rfl
      · unfold M_impl_RoundTo
        rw [impl_ratOk hr, good_rq hf, decide_eq_true (show n < 1 by omega)]; rfl
  · refine ⟨none, oks_none, ?_, ?_⟩
    · unfold M_spec_RoundTo
      rw [spec_ratOk hr, pB_not.2 hg]; rfl
    · unfold M_impl_RoundTo
      rw [impl_ratOk hr, pB_not.2 hg]; rfl

/-! ### Roots of fractions -/
theorem fit_up {q : Rat} (hq : Fit q) {k : Nat} (hk : 0 < k) (h : Fit (q * ((k : Int) : Rat) * ((k : Int) : Rat))) : Fit (q * ((k : Int) : Rat)) := by
  -- the numerator grows, the denominator falls
  have mulk : ∀ a : Rat, a * ((k : Int) : Rat) = mkRat (a.num * k) a.den := fun a => by
    rw [← mk_mul, Rat.num_intCast, Rat.den_intCast, Nat.mul_one]
  have hden : (q * ((k : Int) : Rat)).den ≤ q.den := by
    rw [mulk, (mk_parts _ q.den_nz).2]
    exact Nat.div_le_self _ _
  refine ⟨?_, Nat.le_trans (len_dg_mono hden) hq.2⟩
  have hnum : ∀ a : Rat, a.num.natAbs ≤ (a * ((k : Int) : Rat)).num.natAbs := fun a => by
    rw [mulk, mk_abs _ a.den_nz, Int.natAbs_mul, Int.natAbs_natCast]
    have hg : Nat.gcd (a.num.natAbs * k) a.den = Nat.gcd k a.den := Nat.Coprime.gcd_mul_left_cancel k a.reduced
    rw [hg]
    have hpos : 0 < Nat.gcd k a.den := Nat.gcd_pos_of_pos_left _ hk
    rw [Nat.le_div_iff_mul_le hpos]
    exact Nat.mul_le_mul_left _ (Nat.gcd_le_left _ hk)
  exact Nat.le_trans (len_dg_mono (hnum _)) h.1
theorem mulO_twice {q : Rat} (hq : Fit q) {k : Nat} (hk : 0 < k) : mulO (mulO (some q) (some ((k : Int) : Rat))) (some ((k : Int) : Rat)) = mulO (some q) (some (((k * k : Nat) : Int) : Rat)) := by
  have e : q * (((k * k : Nat) : Int) : Rat) = q * ((k : Int) : Rat) * ((k : Int) : Rat) := by
    rw [Int.natCast_mul, Rat.intCast_mul, Rat.mul_assoc]
  have h2 : mulO (some q) (some (((k * k : Nat) : Int) : Rat)) = chk (q * ((k : Int) : Rat) * ((k : Int) : Rat)) := by
    show chk _ = _
    rw [e]
  rw [h2]
  show (chk (q * ((k : Int) : Rat))).bind (fun x => chk (x * ((k : Int) : Rat))) = _
  by_cases h : Fit (q * ((k : Int) : Rat))
  · rw [chk_fit h, Option.bind_some]
  · rw [chk_not h, chk_not (fun k2 => h (fit_up hq hk k2))]; rfl

noncomputable def rbO (q : Rat) : Option Rat := (mulO (some q) (some ((1000000000000 : Int) : Rat))).bind fun x => chk (mkRat ((rootN (x.num.natAbs / x.den) : Nat) : Int) 1000000)
theorem spec_rb {q : Rat} (hq : Fit q) (h0 : ¬ q.num < 0) : M_spec_RootBelow (rq q) = some (ro (rbO q)) := by
  unfold M_spec_RootBelow
  have hr : rq q = ro (some q) := rfl
  have hn : (rq q).neg = false := decide_eq_false h0
  rw [hn, hr, spec_okO hq.ok, Option.bind_some]
  simp only [Option.isSome_some, Bool.not_true, cond_false]
  rw [spec_ratInt (by omega) (by omega), Option.bind_some, spec_mulO hq.ok (fit_int (by omega) (by omega)).ok, Option.bind_some, spec_badO, Option.bind_some]
  unfold rbO
  have ok := oks_mulO (o := some q) (p := some ((1000000000000 : Int) : Rat))
  generalize mulO (some q) (some ((1000000000000 : Int) : Rat)) = o at *
  cases o with
  | none => rfl
  | some x =>
    have fx := ok x rfl
    simp only [Option.isNone_some, cond_false, Option.bind_some]
    show ((M_spec_l02Div (dg x.num.natAbs) (dg x.den)).bind _) = _
    have hl := Nat.le_trans (len_dg_mono (Nat.div_le_self x.num.natAbs x.den)) fx.1
    have hrl := root_len (a := x.num.natAbs / x.den)
    have hs : (dg 1000000).length ≤ 3 := len_small (by omega)
    rw [spec_div (by have := fx.1; omega) (by have := fx.2; omega) (Nat.pos_of_ne_zero x.den_nz), Option.bind_some]
    simp only []
    rw [spec_trimc (by omega), Option.bind_some, spec_root (by omega), Option.bind_some, spec_natOf (by omega), Option.bind_some, show (1000000 : Int).toNat = 1000000 from rfl, spec_low (by omega) (by omega) (by omega), Option.bind_some]
    rfl
theorem impl_rb {q : Rat} (hq : Fit q) (h0 : ¬ q.num < 0) : M_impl_RootBelow (rq q) = some (ro (rbO q)) := by
  unfold M_impl_RootBelow
  have hr : rq q = ro (some q) := rfl
  have hsg : ∃ s : Int, M_impl_sign (rq q) = some s ∧ decide (s < 0) = false := by
    rw [impl_signq, decide_eq_false h0, cond_false]
    cases decide (q.num ≠ 0) <;> exact ⟨_, rfl, rfl⟩
  obtain ⟨s, hs1, hs2⟩ := hsg
  have fm := fit_int (n := 1000000) (by omega) (by omega)
  have two := mulO_twice hq (k := 1000000) (by omega)
  rw [hs1, hr, impl_okO hq.ok, Option.bind_some, Option.bind_some, hs2]
  simp only [Option.isSome_some, Bool.not_true, cond_false]
  rw [impl_whole (by omega) (by omega), Option.bind_some, impl_mulO hq.ok fm.ok, Option.bind_some, Option.bind_some, impl_mulO oks_mulO fm.ok, Option.bind_some, impl_void, Option.bind_some]
  rw [show ((1000000 : Int) : Rat) = (((1000000 : Nat) : Int) : Rat) from rfl, two, show ((((1000000 * 1000000 : Nat)) : Int) : Rat) = ((1000000000000 : Int) : Rat) from rfl]
  unfold rbO
  have ok := oks_mulO (o := some q) (p := some ((1000000000000 : Int) : Rat))
  generalize mulO (some q) (some ((1000000000000 : Int) : Rat)) = o at *
  cases o with
  | none => rfl
  | some x =>
    have fx := ok x rfl
    simp only [Option.isNone_some, cond_false, Option.bind_some]
    show ((M_impl_natDiv (dg x.num.natAbs) (dg x.den)).bind _) = _
    have hl := Nat.le_trans (len_dg_mono (Nat.div_le_self x.num.natAbs x.den)) fx.1
    have hrl := root_len (a := x.num.natAbs / x.den)
    have hs : (dg 1000000).length ≤ 3 := len_small (by omega)
    rw [impl_div (by have := fx.1; omega) (by have := fx.2; omega) (Nat.pos_of_ne_zero x.den_nz), Option.bind_some]
    simp only []
    rw [impl_root (by omega), Option.bind_some, impl_signed, Option.bind_some, impl_natOf (by omega), Option.bind_some, show (1000000 : Int).toNat = 1000000 from rfl, impl_lowest (by omega) (by rw [sg_abs]; omega) (by omega), Option.bind_some]
    rfl
theorem rb_both {r : Rt} (hr : r.fit) : ∃ o, Oks o ∧ M_spec_RootBelow r = some (ro o) ∧ M_impl_RootBelow r = some (ro o) := by
  by_cases hg : Good r
  · obtain ⟨q, hf, rfl⟩ := hg
    by_cases h0 : q.num < 0
    · refine ⟨none, oks_none, ?_, ?_⟩
      · unfold M_spec_RootBelow
        rw [spec_ratOk hr, good_rq hf, show (rq q).neg = true from decide_eq_true h0]; rfl
      · unfold M_impl_RootBelow
        rw [impl_ratOk hr, good_rq hf, impl_signq, decide_eq_true h0]; rfl
    · exact ⟨_, oks_bind fun _ => oks_chk _, spec_rb hf h0, impl_rb hf h0⟩
  · refine ⟨none, oks_none, ?_, ?_⟩
    · unfold M_spec_RootBelow
      rw [spec_ratOk hr, pB_not.2 hg]; rfl
    · unfold M_impl_RootBelow
      rw [impl_ratOk hr, pB_not.2 hg]; rfl

/-! ### Readings -/
theorem cr_both {a b c : Rt} (ha : a.fit) (hb : b.fit) (hc : c.fit) : ∃ o, Oks o ∧ M_spec_CorrectReading a b c = some (ro o) ∧ M_impl_CorrectReading a b c = some (ro o) := by
  by_cases ga : Good a
  · by_cases gb : Good b
    · by_cases gc : Good c
      · obtain ⟨p, fp, rfl⟩ := ga
        obtain ⟨q, fq, rfl⟩ := gb
        obtain ⟨r, fr, rfl⟩ := gc
        have f1 := fit_int (n := 1) (by omega) (by omega)
        have f6 := fit_int (n := 1000000) (by omega) (by omega)
        refine ⟨addO (mulO (some p) (addO (some ((1 : Int) : Rat)) (divO (some r) (some ((1000000 : Int) : Rat))))) (some q), oks_addO, ?_, ?_⟩
        · unfold M_spec_CorrectReading
          rw [spec_ratOk ha, spec_ratOk hb, spec_ratOk hc, good_rq fp, good_rq fq, good_rq fr]
          simp only [Option.bind_some, Bool.not_true, cond_false]
          rw [spec_ratInt (by omega) (by omega), Option.bind_some, spec_ratInt (by omega) (by omega), Option.bind_some]
          show ((M_spec_l05Div (ro (some r)) _).bind fun r5 => (M_spec_l04Add _ r5).bind fun r6 => (M_spec_l04Mul (ro (some p)) r6).bind fun r7 => (M_spec_l04Add r7 (ro (some q))).bind _) = _
          rw [spec_divO fr.ok f6.ok, Option.bind_some, spec_addO f1.ok oks_divO, Option.bind_some, spec_mulO fp.ok oks_addO, Option.bind_some, spec_addO oks_mulO fq.ok, Option.bind_some]
        · unfold M_impl_CorrectReading M_impl_both
          rw [impl_ratOk ha, impl_ratOk hb, impl_ratOk hc, good_rq fp, good_rq fq, good_rq fr]
          simp only [Option.bind_some, Bool.not_true, cond_false, cond_true]
          rw [impl_whole (by omega) (by omega), Option.bind_some, impl_whole (by omega) (by omega), Option.bind_some]
          show ((M_impl_div (ro (some r)) _).bind fun r5 => (M_impl_add _ r5).bind fun r6 => (M_impl_mul (ro (some p)) r6).bind fun r7 => (M_impl_add r7 (ro (some q))).bind _) = _
          rw [impl_divO fr.ok f6.ok, Option.bind_some, impl_addO f1.ok oks_divO, Option.bind_some, impl_mulO fp.ok oks_addO, Option.bind_some, impl_addO oks_mulO fq.ok, Option.bind_some]
      · refine ⟨none, oks_none, ?_, ?_⟩
        · unfold M_spec_CorrectReading
          rw [spec_ratOk ha, spec_ratOk hb, spec_ratOk hc, pB_iff.2 ga, pB_iff.2 gb, pB_not.2 gc]; rfl
        · unfold M_impl_CorrectReading M_impl_both
          rw [impl_ratOk ha, impl_ratOk hb, impl_ratOk hc, pB_iff.2 ga, pB_iff.2 gb, pB_not.2 gc]; rfl
    · refine ⟨none, oks_none, ?_, ?_⟩
      · unfold M_spec_CorrectReading
        rw [spec_ratOk ha, spec_ratOk hb, pB_iff.2 ga, pB_not.2 gb]; rfl
      · unfold M_impl_CorrectReading M_impl_both
        rw [impl_ratOk ha, impl_ratOk hb, pB_iff.2 ga, pB_not.2 gb]; rfl
  · refine ⟨none, oks_none, ?_, ?_⟩
    · unfold M_spec_CorrectReading
      rw [spec_ratOk ha, pB_not.2 ga]; rfl
    · unfold M_impl_CorrectReading M_impl_both
      rw [impl_ratOk ha, pB_not.2 ga]; rfl
end Go.Di
/-
  Own work. Plain laws: marks on lists, loops that append, lists of fractions.
-/
namespace Go.Di

/-! ### Marks on lists -/
def ws {α : Type} (w : α → Nat) (l : List α) : Nat := (l.map w).sum
theorem ws_step {α : Type} (w : α → Nat) (l : List α) {i : Nat} (h : i < l.length) : ws w (l.take (i + 1)) = ws w (l.take i) + w l[i] := by
  unfold ws
  rw [List.take_succ_eq_append_getElem h, List.map_append, List.sum_append]; simp
theorem ws_le {α : Type} (w : α → Nat) (l : List α) (i : Nat) : ws w (l.take i) ≤ ws w l := by
  have : ws w l = ws w (l.take i) + ws w (l.drop i) := by
    unfold ws
    rw [← List.sum_append, ← List.map_append, List.take_append_drop]
  omega
theorem ws_all {α : Type} (w : α → Nat) (l : List α) : ws w (l.take l.length) = ws w l := by rw [List.take_length]

/-- The list whose elements below i are marked. -/
def marksTo {α : Type} (mk : Int → α → α) (w : α → Nat) (k : Int) (a : List α) (i : Nat) : List α := a.mapIdx fun j x => if j < i then mk (k + (ws w (a.take j) : Nat)) x else x
def marks {α : Type} (mk : Int → α → α) (w : α → Nat) (k : Int) (a : List α) : List α := marksTo mk w k a a.length
theorem len_marksTo {α : Type} (mk : Int → α → α) (w : α → Nat) (k : Int) (a : List α) (i : Nat) : (marksTo mk w k a i).length = a.length := by simp [marksTo]
theorem len_marks {α : Type} (mk : Int → α → α) (w : α → Nat) (k : Int) (a : List α) : (marks mk w k a).length = a.length := len_marksTo ..
theorem marksTo_zero {α : Type} (mk : Int → α → α) (w : α → Nat) (k : Int) (a : List α) : marksTo mk w k a 0 = a := by
  apply List.ext_getElem?
  intro j
  simp only [marksTo, List.getElem?_mapIdx, Nat.not_lt_zero, if_false]
  cases a[j]? <;> rfl
theorem marksTo_at {α : Type} (mk : Int → α → α) (w : α → Nat) (k : Int) (a : List α) {i : Nat} (h : i < a.length) : (marksTo mk w k a i)[i]? = some a[i] := by
  simp [marksTo, h]
theorem marksTo_step {α : Type} (mk : Int → α → α) (w : α → Nat) (k : Int) (a : List α) {i : Nat} (h : i < a.length) :
    (marksTo mk w k a i).set i (mk (k + (ws w (a.take i) : Nat)) a[i]) = marksTo mk w k a (i + 1) := by
  apply List.ext_getElem?
  intro j
  rw [List.getElem?_set]
  simp only [marksTo, List.getElem?_mapIdx, List.length_mapIdx]
  by_cases hj : i = j
  · subst hj; simp [h]
  · rw [if_neg hj]
    by_cases hlt : j < i
    · simp [hlt, show j < i + 1 by omega]
    · simp [hlt, show ¬ j < i + 1 by omega]
theorem marks_at {α : Type} (mk : Int → α → α) (w : α → Nat) (k : Int) (a : List α) {i : Nat} (h : i < a.length) : (marks mk w k a)[i]? = some (mk (k + (ws w (a.take i) : Nat)) a[i]) := by
  simp [marks, marksTo, h]

theorem mark_loop {α : Type} {mk : Int → α → α} {w : α → Nat} {S : Int × Int × List α × Unit → Option ((Int × Int × List α × Unit) ⊕ (Int × List α × Unit))} {a : List α} {k : Int} {B : Int} (h0 : 0 ≤ k) (hB : k + (ws w a : Nat) ≤ B)
    (hS : ∀ (i : Nat) (K : Int) (c : List α) (h : i < a.length), 0 ≤ K → K ≤ B → c.length = a.length → c[i]? = some a[i] → S (K, (i : Int), c, ()) = some (.inl (K + (w a[i] : Nat), ((i + 1 : Nat) : Int), c.set i (mk K a[i]), ())))
    (hE : ∀ K c, c.length = a.length → S (K, (a.length : Int), c, ()) = some (.inr (K, c, ()))) : whileO S (k, 0, a, ()) = some (k + (ws w a : Nat), marks mk w k a, ()) := by
  have key := whileO_upto S (fun i => (k + (ws w (a.take i) : Nat), (i : Int), marksTo mk w k a i, ())) a.length (k + (ws w a : Nat), marks mk w k a, ()) (fun i hi => by
    have hle := ws_le w a i
    rw [hS i _ _ hi (by omega) (by omega) (len_marksTo ..) (marksTo_at _ _ _ _ hi), marksTo_step _ _ _ _ hi, ws_step w a hi]
    congr 3
    omega) (by
    rw [hE _ _ (len_marksTo ..), ws_all]; rfl)
  rw [marksTo_zero] at key
  have h0 : ws w (a.take 0) = 0 := by simp [ws]
  rw [h0] at key
  simpa using key

theorem held_loop {α : Type} {mk : Int → α → α} {w : α → Nat} {S : List α × Int × Int × Unit → Option ((List α × Int × Int × Unit) ⊕ ((Int × Unit) ⊕ (Int × Unit)))} {a : List α} {k : Int} {B : Int} (h0 : 0 ≤ k) (hB : k + (ws w a : Nat) ≤ B)
    (hS : ∀ (i : Nat) (K : Int) (c : List α) (h : i < a.length), 0 ≤ K → K ≤ B → c.length = a.length → c[i]? = some (mk K a[i]) → S (c, K, (i : Int), ()) = some (.inl (c, K + (w a[i] : Nat), ((i + 1 : Nat) : Int), ())))
    (hE : ∀ K c, c.length = a.length → S (c, K, (a.length : Int), ()) = some (.inr (.inr (K, ())))) : whileO S (marks mk w k a, k, 0, ()) = some (.inr (k + (ws w a : Nat), ())) := by
  have key := whileO_upto S (fun i => (marks mk w k a, k + (ws w (a.take i) : Nat), (i : Int), ())) a.length (.inr (k + (ws w a : Nat), ())) (fun i hi => by
    have hle := ws_le w a i
    rw [hS i _ _ hi (by omega) (by omega) (len_marks ..) (marks_at _ _ _ _ hi), ws_step w a hi]
    congr 4
    omega) (by
    rw [hE _ _ (len_marks ..), ws_all])
  have h0 : ws w (a.take 0) = 0 := by simp [ws]
  rw [h0] at key
  simpa using key

theorem get_int {α : Type} {c : List α} {i : Nat} {x : α} (h : c[i]? = some x) : idx c (i : Int) = some x := by rw [idx_nat]; exact h
theorem lt_of_get {α : Type} {c : List α} {i : Nat} {x : α} (h : c[i]? = some x) : i < c.length := (List.getElem?_eq_some_iff.1 h).1
theorem get_set {α : Type} {c : List α} {i : Nat} (h : i < c.length) (x : α) : (c.set i x)[i]? = some x := List.getElem?_set_self h
theorem idx_set {α : Type} {c : List α} {i : Nat} (h : i < c.length) (x : α) : idx (c.set i x) (i : Int) = some x := get_int (get_set h x)

/-! ### Fractions -/
def wR (r : Rt) : Nat := 1 + r.mag.length + r.den.length
def mkR (k : Int) (r : Rt) : Rt := ⟨(k.tmod 3) == 0, upto (k + 1) r.mag.length, upto (k + 1 + r.mag.length) r.den.length⟩
theorem ws_rats (l : List Rt) : ws wR l = lsz Rt.sz l := by
  unfold ws lsz
  induction l with
  | nil => rfl
  | cons r l ih => simp only [List.map_cons, List.sum_cons, List.length_cons, ih]; unfold wR Rt.sz; omega
theorem fit_at {l : List Rt} (h : lfit Rt.fit l) {i : Nat} (hi : i < l.length) : l[i].fit := h.2 _ (List.getElem_mem hi)

theorem mark_rats {a : List Rt} (ha : lfit Rt.fit a) (hw : ws wR a ≤ 1000000000) {k : Int} (h0 : 0 ≤ k) (h1 : k ≤ 1000000000) : M_laws_markRatS_md a k = some (k + (ws wR a : Nat), marks mkR wR k a) := by
  unfold M_laws_markRatS_md L_laws_markRatS_md_0
  rw [mark_loop (mk := mkR) (w := wR) (B := 2000000000) h0 (by omega) (fun i K c hi q0 q1 hl hc => ?_) (fun K c hl => by simp [S_laws_markRatS_md_0, hl])]
  · rfl
  · have hlt := lt_of_get hc
    have hf := fit_at ha hi
    have f1 := hf.1
    have f2 := hf.2
    have e1 : IntKind.i64.wrap (K + 1) = K + 1 := wrap_i64 (by omega) (by omega)
    simp only [S_laws_markRatS_md_0, dlt hlt, cond_true, get_int hc, Option.bind_some, Int.toNat_natCast, hc, idx_set hlt, get_set hlt, List.set_set, e1,
      mark_ints f1 (show 0 ≤ K + 1 by omega) (by omega), mark_ints f2 (show 0 ≤ K + 1 + (a[i].mag.length : Int) by omega) (by omega), succ_wrap hi ha.1]
    congr 3
    unfold wR; omega
theorem held_rats {a : List Rt} (ha : lfit Rt.fit a) (hw : ws wR a ≤ 1000000000) {k : Int} (h0 : 0 ≤ k) (h1 : k ≤ 1000000000) : M_laws_heldRatS (marks mkR wR k a) k = some (k + (ws wR a : Nat)) := by
  unfold M_laws_heldRatS L_laws_heldRatS_0
  rw [held_loop (mk := mkR) (w := wR) (B := 2000000000) h0 (by omega) (fun i K c hi q0 q1 hl hc => ?_) (fun K c hl => by simp [S_laws_heldRatS_0, hl])]
  · rfl
  · have hlt := lt_of_get hc
    have hf := fit_at ha hi
    have f1 := hf.1
    have f2 := hf.2
    have e1 : IntKind.i64.wrap (K + 1) = K + 1 := wrap_i64 (by omega) (by omega)
    simp only [S_laws_heldRatS_0, dlt hlt, cond_true, get_int hc, Option.bind_some, e1, mkR, beq_self_eq_true, Bool.not_true, cond_false,
      held_ints f1 (show 0 ≤ K + 1 by omega) (by omega), held_ints f2 (show 0 ≤ K + 1 + (a[i].mag.length : Int) by omega) (by omega), succ_wrap hi ha.1,
      dneg (show 0 ≤ K + 1 + (a[i].mag.length : Int) by omega), dneg (show 0 ≤ K + 1 + (a[i].mag.length : Int) + (a[i].den.length : Int) by omega)]
    congr 4
    unfold wR; omega
theorem mark_mx {m : Mx} (ha : lfit Rt.fit m.cells) (hw : ws wR m.cells ≤ 1000000000) {k : Int} (h0 : 0 ≤ k) (h1 : k ≤ 1000000000) : M_laws_markMatrix_md m k = some (k + (ws wR m.cells : Nat), marks mkR wR k m.cells) := by
  unfold M_laws_markMatrix_md
  rw [mark_rats ha hw h0 h1]; rfl
theorem held_mx {a : List Rt} {x y : Int} (ha : lfit Rt.fit a) (hw : ws wR a ≤ 1000000000) {k : Int} (h0 : 0 ≤ k) (h1 : k ≤ 1000000000) : M_laws_heldMatrix ⟨x, y, marks mkR wR k a⟩ k = some (k + (ws wR a : Nat)) := by
  unfold M_laws_heldMatrix
  simp only [held_rats ha hw h0 h1, Option.bind_some]
  rw [dneg (by omega)]; rfl

/-! ### Loops that append -/
theorem app_loop {β σ ρ : Type} {S : σ → Option (σ ⊕ ρ)} (st : Int → List β → σ) (g : Nat → β) (n : Nat) {r : List β → ρ}
    (hS : ∀ (i : Nat) out, i < n → out.length = i → S (st (i : Int) out) = some (.inl (st ((i + 1 : Nat) : Int) (out ++ [g i])))) (hE : ∀ out, out.length = n → S (st (n : Int) out) = some (.inr (r out))) :
    whileO S (st 0 []) = some (r ((List.range n).map g)) := by
  have key := whileO_upto S (fun i => st (i : Int) ((List.range i).map g)) n (r ((List.range n).map g)) (fun i hi => by
    rw [hS i _ hi (by simp), List.range_succ, List.map_append]; rfl) (hE _ (by simp))
  simpa using key
theorem range_get {α : Type} (l : List α) (d : α) : (List.range l.length).map (fun i => (l[i]?).getD d) = l := by
  apply List.ext_getElem?
  intro j
  rw [List.getElem?_map]
  by_cases h : j < l.length
  · rw [List.getElem?_range h]; simp [h]
  · rw [List.getElem?_eq_none (by simpa using h), List.getElem?_eq_none (by omega)]; rfl
theorem room1 {n : Nat} (h : n ≤ 2000000) : guardO (Nat.ble (n + 1) maxNew) = some () := by
  have : Nat.ble (n + 1) maxNew = true := Nat.ble_eq_true_of_le (by unfold maxNew; omega)
  rw [this]; rfl

theorem impl_copyVec {l : List Rt} (h : lfit Rt.fit l) : M_impl_copyVector l = some l := by
  unfold M_impl_copyVector L_impl_copyVector_0
  have h1 := h.1
  rw [app_loop (S := S_impl_copyVector_0) (fun i out => (l, (l.length : Int), i, out, ())) (fun i => (l[i]?).getD ⟨false, [], []⟩) l.length (r := fun out => (out, ())) (fun i out hi ho => by
    have hg : l[i]? = some l[i] := List.getElem?_eq_getElem hi
    simp only [S_impl_copyVector_0, dlt hi, cond_true, idx_at hi, Option.bind_some, impl_copyRat (fit_at h hi), room1 (show out.length ≤ 2000000 by omega), succ_wrap hi h.1, hg, Option.getD_some]) (fun out _ => by simp [S_impl_copyVector_0]), range_get]
  rfl
theorem spec_copyVec {l : List Rt} (h : lfit Rt.fit l) : M_spec_l05Copy l = some l := by
  unfold M_spec_l05Copy L_spec_l05Copy_0
  have h1 := h.1
  rw [app_loop (S := S_spec_l05Copy_0) (fun i out => (l, (l.length : Int), i, out, ())) (fun i => (l[i]?).getD ⟨false, [], []⟩) l.length (r := fun out => (out, ())) (fun i out hi ho => by
    have hg : l[i]? = some l[i] := List.getElem?_eq_getElem hi
    simp only [S_spec_l05Copy_0, dlt hi, cond_true, idx_at hi, Option.bind_some, spec_copyRat (fit_at h hi), room1 (show out.length ≤ 2000000 by omega), succ_wrap hi h.1, hg, Option.getD_some]) (fun out _ => by simp [S_spec_l05Copy_0]), range_get]
  rfl

/-! ### Valid vectors -/
def Fits (q : List Rat) : Prop := ∀ x ∈ q, Fit x
theorem goods_q : ∀ {l : List Rt}, l.all goodB = true → ∃ q : List Rat, Fits q ∧ l = q.map rq
  | [], _ => ⟨[], fun x h => (by cases h), rfl⟩
  | r :: l, h => by
    rw [List.all_cons, Bool.and_eq_true] at h
    obtain ⟨q, hq, rfl⟩ := goods_q h.2
    obtain ⟨x, hx, rfl⟩ := pB_iff.1 h.1
    exact ⟨x :: q, fun y hy => by
      rcases List.mem_cons.1 hy with rfl | hy
      · exact hx
      · exact hq y hy, rfl⟩
theorem q_goods {q : List Rat} (h : Fits q) : (q.map rq).all goodB = true := by
  rw [List.all_eq_true]
  intro r hr
  obtain ⟨x, hx, rfl⟩ := List.mem_map.1 hr
  exact good_rq (h x hx)
theorem Fits.get {q : List Rat} (h : Fits q) (i : Nat) : Oks q[i]? := fun x hx => h x (List.mem_of_getElem? hx)
theorem rq_sz {q : Rat} (h : Fit q) : (rq q).sz ≤ 48 := by
  have := h.1
  have := h.2
  show (dg q.num.natAbs).length + (dg q.den).length ≤ 48
  omega
theorem ro_sz {o : Option Rat} (h : Oks o) : (ro o).sz ≤ 48 := by
  cases o with
  | none => show 0 + 0 ≤ 48; omega
  | some q => exact rq_sz (h q rfl)

/-- A result: it fits, and its marks are few. -/
structure Rfit (l : List Rt) : Prop where
  fit : lfit Rt.fit l
  few : ws wR l ≤ 1000000000
theorem rfit_lsz {l : List Rt} (h : lsz Rt.sz l ≤ 1048576) : Rfit l := ⟨lfit_of (f := Rt.sz) (fun _ => Rt.fit_of) h, by rw [ws_rats]; omega⟩
theorem lsz_small {l : List Rt} (h : ∀ x ∈ l, x.sz ≤ 48) (n : Nat) (hn : l.length ≤ n) : lsz Rt.sz l ≤ 49 * n := by
  have : (l.map Rt.sz).sum ≤ 48 * l.length := by
    clear hn
    induction l with
    | nil => simp
    | cons r l ih =>
      have h1 := ih fun x hx => h x (List.mem_cons_of_mem _ hx)
      have h2 := h r (List.mem_cons_self ..)
      simp only [List.map_cons, List.sum_cons, List.length_cons]; omega
  unfold lsz; omega
theorem rfit_ro {l : List (Option Rat)} (h : ∀ o ∈ l, Oks o) (hn : l.length ≤ 20000) : Rfit (l.map ro) := by
  refine rfit_lsz (Nat.le_trans (lsz_small (n := 20000) (fun x hx => ?_) (by simpa using hn)) (by omega))
  obtain ⟨o, ho, rfl⟩ := List.mem_map.1 hx
  exact ro_sz (h o ho)
theorem rfit_rq {l : List Rat} (h : Fits l) (hn : l.length ≤ 20000) : Rfit (l.map rq) := by
  have : l.map rq = (l.map some).map ro := by rw [List.map_map]; rfl
  rw [this]
  refine rfit_ro (fun o ho => ?_) (by simpa using hn)
  obtain ⟨x, hx, rfl⟩ := List.mem_map.1 ho
  exact (h x hx).ok
theorem rfit_nil : Rfit [] := ⟨⟨by simp, fun x h => (by cases h)⟩, by simp [ws]⟩

theorem idx_q {q : List Rat} {i : Nat} (h : i < q.length) : idx (q.map rq) (i : Int) = some (ro q[i]?) := by
  rw [idx_nat, List.getElem?_map, List.getElem?_eq_getElem h]; rfl
theorem idx_o {l : List (Option Rat)} {i : Nat} (h : i < l.length) : idx (l.map ro) (i : Int) = some (ro l[i]) := by
  rw [idx_nat, List.getElem?_map, List.getElem?_eq_getElem h]; rfl

/-! ### Inner products -/
noncomputable def innO (a b : List Rat) : Nat → Option Rat
  | 0 => some 0
  | i + 1 => addO (innO a b i) (mulO a[i]? b[i]?)
theorem oks_innO (a b : List Rat) (i : Nat) : Oks (innO a b i) := by
  cases i with
  | zero => exact fit_zero.ok
  | succ i => exact oks_addO
theorem whole_zero : M_impl_whole 0 = some (ro (some 0)) := by
  have := impl_whole (n := 0) (by omega) (by omega)
  simpa using this
theorem impl_inner {a b : List Rat} (ha : Fits a) (hb : Fits b) (hl : a.length ≤ b.length) (hn : a.length ≤ 1048576) : M_impl_inner (a.map rq) (b.map rq) = some (ro (innO a b a.length)) := by
  unfold M_impl_inner L_impl_inner_0
  rw [whole_zero, Option.bind_some, List.length_map]
  have key := whileO_upto S_impl_inner_0 (fun i => (a.map rq, b.map rq, (a.length : Int), (i : Int), false, ([] : List Int), ([] : List Int), (ro (innO a b i)).neg, (ro (innO a b i)).mag, (ro (innO a b i)).den, ())) a.length
    (false, [], [], (ro (innO a b a.length)).neg, (ro (innO a b a.length)).mag, (ro (innO a b a.length)).den, ()) (fun i hi => by
      simp only [S_impl_inner_0, dlt hi, cond_true, idx_q hi, idx_q (show i < b.length by omega), Option.bind_some, impl_mulO (ha.get i) (hb.get i), impl_addO (oks_innO a b i) oks_mulO, succ_wrap hi hn]
      rfl) (by simp [S_impl_inner_0])
  rw [show ro (some 0) = ro (innO a b 0) from rfl]
  refine (congrArg (fun x => Option.bind x _) key).trans ?_
  rfl

theorem nil_rq (q : Rat) : M_spec_l05Nil (rq q) = some (decide (q = 0)) := by
  show some (((dg q.num.natAbs).length : Int) == 0) = _
  rw [dg_len0]
  congr 1
  rw [Bool.eq_iff_iff, decide_eq_true_iff, decide_eq_true_iff, Int.natAbs_eq_zero, Rat.num_eq_zero]
theorem bad_rq (q : Rat) : M_spec_l05Bad (rq q) = some false := by rw [show rq q = ro (some q) from rfl, spec_badO]; rfl
theorem addO_zero {o : Option Rat} (h : Oks o) : addO o (some 0) = o := by
  cases o with
  | none => rfl
  | some q =>
    show chk (q + 0) = some q
    rw [Rat.add_zero, chk_fit (h q rfl)]
theorem mulO_zero_l (y : Rat) : mulO (some 0) (some y) = some 0 := by
  show chk (0 * y) = some 0
  rw [Rat.zero_mul, chk_fit fit_zero]
theorem mulO_zero_r (y : Rat) : mulO (some y) (some 0) = some 0 := by
  show chk (y * 0) = some 0
  rw [Rat.mul_zero, chk_fit fit_zero]
theorem spec_zero : M_spec_l05Zero = some (ro (some 0)) := by
  unfold M_spec_l05Zero
  have := spec_ratInt (n := 0) (by omega) (by omega)
  rw [this]; rfl
theorem spec_inner {a b : List Rat} (ha : Fits a) (hb : Fits b) (hl : a.length ≤ b.length) (hn : a.length ≤ 1048576) : M_spec_l05Inner (a.map rq) (b.map rq) = some (ro (innO a b a.length)) := by
  unfold M_spec_l05Inner L_spec_l05Inner_0
  rw [spec_zero, Option.bind_some, List.length_map]
  have key := whileO_upto S_spec_l05Inner_0 (fun i => (b.map rq, a.map rq, (a.length : Int), (i : Int), false, ([] : List Int), ([] : List Int), (ro (innO a b i)).neg, (ro (innO a b i)).mag, (ro (innO a b i)).den, ())) a.length
    (false, [], [], (ro (innO a b a.length)).neg, (ro (innO a b a.length)).mag, (ro (innO a b a.length)).den, ()) (fun i hi => by
      have hib : i < b.length := by omega
      have ga : a[i]? = some a[i] := List.getElem?_eq_getElem hi
      have gb : b[i]? = some b[i] := List.getElem?_eq_getElem hib
      have fa : Oks (some a[i]) := (ha _ (List.getElem_mem hi)).ok
      have fb : Oks (some b[i]) := (hb _ (List.getElem_mem hib)).ok
      have ra : ro (some a[i]) = rq a[i] := rfl
      have rb : ro (some b[i]) = rq b[i] := rfl
      have st : innO a b (i + 1) = addO (innO a b i) (mulO (some a[i]) (some b[i])) := by rw [← ga, ← gb]; rfl
      have hm := spec_mulO fa fb
      rw [ra, rb] at hm
      have hd := spec_addO (oks_innO a b i) (oks_mulO (o := some a[i]) (p := some b[i]))
      by_cases h0 : a[i] = 0
      · have e : innO a b (i + 1) = innO a b i := by rw [st, h0, mulO_zero_l, addO_zero (oks_innO a b i)]
        simp only [S_spec_l05Inner_0, dlt hi, cond_true, idx_q hi, ga, ra, Option.bind_some, nil_rq, decide_eq_true h0, bad_rq, Bool.not_false, succ_wrap hi hn, e]
      · by_cases h1 : b[i] = 0
        · have e : innO a b (i + 1) = innO a b i := by rw [st, h1, mulO_zero_r, addO_zero (oks_innO a b i)]
          simp only [S_spec_l05Inner_0, dlt hi, cond_true, cond_false, idx_q hi, idx_q hib, ga, gb, ra, rb, Option.bind_some, nil_rq, decide_eq_false h0, decide_eq_true h1, bad_rq, Bool.not_false, succ_wrap hi hn, e]
        · simp only [S_spec_l05Inner_0, dlt hi, cond_true, cond_false, idx_q hi, idx_q hib, ga, gb, ra, rb, Option.bind_some, nil_rq, decide_eq_false h0, decide_eq_false h1, hm, hd, succ_wrap hi hn, st]) (by simp [S_spec_l05Inner_0])
  rw [show ro (some 0) = ro (innO a b 0) from rfl]
  refine (congrArg (fun x => Option.bind x _) key).trans ?_
  rfl

/-! ### Vectors without gaps -/
theorem impl_complete {l : List (Option Rat)} (h : l.length ≤ 1048576) : M_impl_complete (l.map ro) = some (l.all Option.isSome) := by
  unfold M_impl_complete L_impl_complete_0
  have key := all_loopE (S := S_impl_complete_0) (fun i => (l.map ro, ((l.map ro).length : Int), (i : Int), ())) l.length (atB Option.isSome l) () (fun i hi => by
    have hi' : i < (l.map ro).length := by simpa using hi
    simp only [S_impl_complete_0, dlt hi', cond_true, idx_o hi, Option.bind_some, impl_void, succ_wrap hi h, atB_at Option.isSome hi]
    cases l[i] <;> rfl) (by simp [S_impl_complete_0])
  rw [all_range] at key
  rw [show ((0 : Nat) : Int) = 0 from rfl] at key
  rw [key]
  cases l.all Option.isSome <;> rfl
theorem spec_fine {l : List (Option Rat)} (h : l.length ≤ 1048576) : M_spec_l05Fine (l.map ro) = some (l.all Option.isSome) := by
  unfold M_spec_l05Fine L_spec_l05Fine_0
  have key := all_loopE (S := S_spec_l05Fine_0) (fun i => (l.map ro, ((l.map ro).length : Int), (i : Int), ())) l.length (atB Option.isSome l) () (fun i hi => by
    have hi' : i < (l.map ro).length := by simpa using hi
    simp only [S_spec_l05Fine_0, dlt hi', cond_true, idx_o hi, Option.bind_some, spec_badO, succ_wrap hi h, atB_at Option.isSome hi]
    cases l[i] <;> rfl) (by simp [S_spec_l05Fine_0])
  rw [all_range] at key
  rw [show ((0 : Nat) : Int) = 0 from rfl] at key
  rw [key]
  cases l.all Option.isSome <;> rfl
theorem impl_given (o : Option Rat) : M_impl_given_c (ro o) = some (ro o, o.isSome) := by
  unfold M_impl_given_c
  rw [impl_void, Option.bind_some]
  cases o <;> rfl

noncomputable def vecB (v : List Rt) : Bool := decide (v.length ≤ 24) && v.all goodB
theorem gt24 {n : Nat} : decide ((n : Int) > 24) = !decide (n ≤ 24) := by rw [Bool.eq_iff_iff]; simp; omega
theorem impl_isVec {v : List Rt} (h : lfit Rt.fit v) : M_impl_IsVector v = some (vecB v) := by
  unfold M_impl_IsVector L_impl_IsVector_0 vecB
  rw [gt24]
  have key := all_loopE (S := S_impl_IsVector_0) (fun i => (v, (v.length : Int), (i : Int), ())) v.length (atB goodB v) () (fun i hi => by
    simp only [S_impl_IsVector_0, dlt hi, cond_true, idx_at hi, Option.bind_some, impl_ratOk (h.2 _ (List.getElem_mem hi)), succ_wrap hi h.1, atB_at goodB hi, goodB]
    cases pB (Good v[i]) <;> rfl) (by simp [S_impl_IsVector_0])
  rw [all_range] at key
  rw [show ((0 : Nat) : Int) = 0 from rfl] at key
  rw [key]
  cases decide (v.length ≤ 24) <;> cases v.all goodB <;> rfl
theorem spec_isVec {v : List Rt} (h : lfit Rt.fit v) : M_spec_IsVector v = some (vecB v) := by
  unfold M_spec_IsVector L_spec_IsVector_0 vecB
  rw [gt24]
  have key := all_loopE (S := S_spec_IsVector_0) (fun i => (v, (v.length : Int), (i : Int), ())) v.length (atB goodB v) () (fun i hi => by
    simp only [S_spec_IsVector_0, dlt hi, cond_true, idx_at hi, Option.bind_some, spec_ratOk (h.2 _ (List.getElem_mem hi)), succ_wrap hi h.1, atB_at goodB hi, goodB]
    cases pB (Good v[i]) <;> rfl) (by simp [S_spec_IsVector_0])
  rw [all_range] at key
  rw [show ((0 : Nat) : Int) = 0 from rfl] at key
  rw [key]
  cases decide (v.length ≤ 24) <;> cases v.all goodB <;> rfl
end Go.Di
