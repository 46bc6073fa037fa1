/-
  Own work: part 6 of the texts that the proof of the given statement leans on.
-/
import Derived.Test.YtjdajoianejebaaZE01
/-
  Own work. Plain laws: fractions that are valid; whole numbers as fractions.
-/
namespace Go.Di

/-- A valid fraction. -/
def Good (r : Rt) : Prop := ∃ q : Rat, Fit q ∧ r = rq q
theorem Fit.good {q : Rat} (h : Fit q) : Good (rq q) := ⟨q, h, rfl⟩
theorem Good.ro {r : Rt} (h : Good r) : ∃ q : Rat, Fit q ∧ r = ro (some q) := h

theorem rq_inj {p q : Rat} (h : rq p = rq q) : p = q := by
  unfold rq at h
  injection h with h1 h2 h3
  have h4 := dg_inj h2
  have h5 := dg_inj h3
  have h6 : p.num = q.num := by
    have := sg_self p.num
    rw [h1, h4, sg_self] at this; exact this.symm
  exact Rat.ext h6 h5

/-- What the validity of a fraction asks for, one after the other. -/
def GoodP (r : Rt) : Prop := NatOk r.mag ∧ (r.mag ≠ [] ∨ r.neg = false) ∧ NatOk r.den ∧ r.den ≠ [] ∧ r.mag.length ≤ 24 ∧ r.den.length ≤ 24 ∧ Nat.gcd (nv r.den).toNat (nv r.mag).toNat = 1
theorem good_iff {r : Rt} : Good r ↔ GoodP r := by
  constructor
  · rintro ⟨q, hf, rfl⟩
    have h24 := hf.1
    have h24' := hf.2
    refine ⟨⟨dg_can _, by show (dg q.num.natAbs).length ≤ 60; omega⟩, ?_, ⟨dg_can _, by show (dg q.den).length ≤ 60; omega⟩, fun h => q.den_nz (dg_nil.1 h), h24, h24', ?_⟩
    · by_cases h : q.num < 0
      · left; intro e; have := dg_nil.1 e; omega
      · right; exact decide_eq_false h
    · show Nat.gcd (nv (dg q.den)).toNat (nv (dg q.num.natAbs)).toNat = 1
      rw [nv_dg, nv_dg, Int.toNat_natCast, Int.toNat_natCast, Nat.gcd_comm]; exact q.reduced
  · rintro ⟨⟨h1, _⟩, h2, ⟨h3, _⟩, h4, h5, h6, h7⟩
    obtain ⟨neg, mag, den⟩ := r
    simp only at h1 h2 h3 h4 h5 h6 h7
    have e1 := h1.dg
    have e2 := h3.dg
    generalize (nv mag).toNat = m at *
    generalize (nv den).toNat = d at *
    subst e1; subst e2
    have hd : d ≠ 0 := fun h => h4 (by rw [h, dg_zero])
    let q : Rat := Rat.mk' (sg neg m) d hd (by rw [sg_abs]; show Nat.gcd m d = 1; rw [Nat.gcd_comm]; exact h7)
    refine ⟨q, ⟨by show (dg (sg neg m).natAbs).length ≤ 24; rw [sg_abs]; exact h5, h6⟩, ?_⟩
    show _ = (⟨decide (sg neg m < 0), dg (sg neg m).natAbs, dg d⟩ : Rt)
    rw [sg_abs]
    by_cases hm : m = 0
    · subst hm
      rcases h2 with h2 | h2
      · exact absurd dg_zero h2
      · rw [h2]; rfl
    · rw [sg_neg hm]

theorem lenB {a : List Int} : ((a.length : Int) == 0) = pB (a = []) := by
  rw [Bool.eq_iff_iff, pB_iff]; simp
theorem lenP {a : List Int} : decide ((a.length : Int) > 0) = pB (a ≠ []) := by
  rw [Bool.eq_iff_iff, pB_iff]; simp [List.length_pos_iff]
theorem pB_and {p q : Prop} : pB (p ∧ q) = (pB p && pB q) := by rw [Bool.eq_iff_iff, Bool.and_eq_true, pB_iff, pB_iff, pB_iff]
theorem pB_or {p q : Prop} : pB (p ∨ q) = (pB p || pB q) := by rw [Bool.eq_iff_iff, Bool.or_eq_true, pB_iff, pB_iff, pB_iff]
theorem pB_ne {p : Prop} : pB (¬ p) = !pB p := by
  cases h : pB p with
  | true => have := pB_iff.1 h; show pB (¬ p) = false; rw [pB_not]; exact fun k => k this
  | false => have := pB_not.1 h; exact pB_iff.2 this
theorem pB_dec {p : Prop} [Decidable p] : pB p = decide p := by rw [Bool.eq_iff_iff, pB_iff, decide_eq_true_iff]
theorem pB_eqB {α : Type} {a b : α} : pB (a = b) = eqB a b := rfl

theorem gcdOne {d m : Nat} {x : Option (List Int)} (h : x = some (dg (Nat.gcd d m))) {k : List Int → Option Bool} (hk : ∀ g : Nat, k (dg g) = some (decide (g = 1))) :
    (x.bind fun r3 => (k r3).bind fun r4 => some r4) = some (decide (Nat.gcd d m = 1)) := by
  rw [h, Option.bind_some, hk]; rfl

theorem impl_ratOk {r : Rt} (h : r.fit) : M_impl_RatOk r = some (pB (Good r)) := by
  rw [pB_congr good_iff]
  unfold M_impl_RatOk M_impl_BigIntOk
  rw [impl_natOk h.1, impl_natOk h.2, lenP, lenB, le24, le24]
  simp only [Option.bind_some]
  unfold GoodP
  by_cases h1 : NatOk r.mag
  · rw [pB_iff.2 h1, cond_true]
    by_cases h2 : r.mag ≠ [] ∨ r.neg = false
    · have hb : cond (pB (r.mag ≠ [])) (some true) (some (!r.neg)) = some true := by
        rcases h2 with h2 | h2
        · rw [pB_iff.2 h2]; rfl
        · rw [h2]; cases pB (r.mag ≠ []) <;> rfl
      rw [hb]
      simp only [Option.bind_some, Bool.not_true, cond_false]
      by_cases h3 : NatOk r.den
      · rw [pB_iff.2 h3]
        simp only [Bool.not_true, cond_false]
        by_cases h4 : r.den = []
        · rw [pB_iff.2 h4, cond_true]; symm; rw [pB_not.2 (fun k => k.2.2.2.1 h4)]
        · rw [pB_not.2 h4, cond_false]
          by_cases h5 : r.mag.length ≤ 24
          · rw [decide_eq_true h5]
            simp only [Bool.not_true, cond_false]
            by_cases h6 : r.den.length ≤ 24
            · rw [decide_eq_true h6]
              simp only [Bool.not_true, cond_false]
              have e1 := h1.1.dg
              have e2 := h3.1.dg
              have hd0 : 0 < (nv r.den).toNat := by
                rcases Nat.eq_zero_or_pos (nv r.den).toNat with h | h
                · rw [h, dg_zero] at e2; exact absurd e2 h4
                · exact h
              have hg := impl_gcd (m := (nv r.den).toNat) (n := (nv r.mag).toNat) (by rw [← e2]; omega) (by rw [← e1]; omega) hd0
              rw [← e2, ← e1] at hg
              rw [gcdOne hg impl_isOne, ← pB_dec]
              congr 1
              exact pB_congr ⟨fun h => ⟨h1, h2, h3, h4, h5, h6, h⟩, fun h => h.2.2.2.2.2.2⟩
            · rw [decide_eq_false h6]; symm; rw [pB_not.2 (fun k => h6 k.2.2.2.2.2.1)]; rfl
          · rw [decide_eq_false h5]; symm; rw [pB_not.2 (fun k => h5 k.2.2.2.2.1)]; rfl
      · rw [pB_not.2 h3]; symm; rw [pB_not.2 (fun k => h3 k.2.2.1)]; rfl
    · have hb : cond (pB (r.mag ≠ [])) (some true) (some (!r.neg)) = some false := by
        have h3 : ¬ r.mag ≠ [] := fun h => h2 (.inl h)
        have h4 : r.neg = true := by
          cases hn : r.neg with
          | true => rfl
          | false => exact absurd (.inr hn) h2
        rw [pB_not.2 h3, h4]; rfl
      rw [hb]; symm; rw [pB_not.2 (fun k => h2 k.2.1)]; rfl
  · rw [pB_not.2 h1]; symm; rw [pB_not.2 (fun k => h1 k.1)]; rfl

theorem spec_ratOk {r : Rt} (h : r.fit) : M_spec_RatOk r = some (pB (Good r)) := by
  rw [pB_congr good_iff]
  unfold M_spec_RatOk M_spec_BigIntOk
  rw [spec_natOk h.1, spec_natOk h.2, lenP, lenB, le24, le24]
  simp only [Option.bind_some]
  unfold GoodP
  by_cases h1 : NatOk r.mag
  · rw [pB_iff.2 h1, cond_true]
    by_cases h2 : r.mag ≠ [] ∨ r.neg = false
    · have hb : cond (!r.neg) (some true) (some (pB (r.mag ≠ []))) = some true := by
        rcases h2 with h2 | h2
        · rw [pB_iff.2 h2]; cases r.neg <;> rfl
        · rw [h2]; rfl
      rw [hb]
      simp only [Option.bind_some, Bool.not_true, cond_false]
      by_cases h3 : NatOk r.den
      · rw [pB_iff.2 h3]
        simp only [Bool.not_true, cond_false]
        by_cases h4 : r.den = []
        · rw [pB_iff.2 h4, cond_true]; symm; rw [pB_not.2 (fun k => k.2.2.2.1 h4)]
        · rw [pB_not.2 h4, cond_false]
          by_cases h6 : r.den.length ≤ 24
          · rw [decide_eq_true h6]
            simp only [Bool.not_true, cond_false]
            by_cases h5 : r.mag.length ≤ 24
            · rw [decide_eq_true h5]
              simp only [Bool.not_true, cond_false]
              have e1 := h1.1.dg
              have e2 := h3.1.dg
              have hg := spec_gcd (m := (nv r.mag).toNat) (n := (nv r.den).toNat) (by rw [← e1]; omega) (by rw [← e2]; omega)
              rw [← e2, ← e1] at hg
              rw [gcdOne hg spec_isOne, ← pB_dec]
              congr 1
              exact pB_congr ⟨fun h => ⟨h1, h2, h3, h4, h5, h6, by rw [Nat.gcd_comm]; exact h⟩, fun h => by rw [Nat.gcd_comm]; exact h.2.2.2.2.2.2⟩
            · rw [decide_eq_false h5]; symm; rw [pB_not.2 (fun k => h5 k.2.2.2.2.1)]; rfl
          · rw [decide_eq_false h6]; symm; rw [pB_not.2 (fun k => h6 k.2.2.2.2.2.1)]; rfl
      · rw [pB_not.2 h3]; symm; rw [pB_not.2 (fun k => h3 k.2.2.1)]; rfl
    · have hb : cond (!r.neg) (some true) (some (pB (r.mag ≠ []))) = some false := by
        have h3 : ¬ r.mag ≠ [] := fun h => h2 (.inl h)
        have h4 : r.neg = true := by
          cases hn : r.neg with
          | true => rfl
          | false => exact absurd (.inr hn) h2
        rw [pB_not.2 h3, h4]; rfl
      rw [hb]; symm; rw [pB_not.2 (fun k => h2 k.2.1)]; rfl
  · rw [pB_not.2 h1]; symm; rw [pB_not.2 (fun k => h1 k.1)]; rfl

theorem good_rq {q : Rat} (h : Fit q) : pB (Good (rq q)) = true := pB_iff.2 ⟨q, h, rfl⟩
theorem good_ro {o : Option Rat} (h : Oks o) : pB (Good (ro o)) = o.isSome := by
  cases o with
  | none =>
    rw [Option.isSome_none, pB_not]
    rintro ⟨q, _, hq⟩
    have := congrArg Rt.den hq
    exact q.den_nz (dg_nil.1 (show dg q.den = [] from this.symm))
  | some q => rw [Option.isSome_some]; exact good_rq (h q rfl)
theorem impl_okO {o : Option Rat} (h : Oks o) : M_impl_RatOk (ro o) = some o.isSome := by rw [impl_ratOk (ro_fit h), good_ro h]
theorem spec_okO {o : Option Rat} (h : Oks o) : M_spec_RatOk (ro o) = some o.isSome := by rw [spec_ratOk (ro_fit h), good_ro h]

/-! ### Whole numbers -/
theorem impl_bigOf {n : Int} (h1 : -9223372036854775808 ≤ n) (h2 : n ≤ 9223372036854775807) : M_impl_BigIntOf n = some (bg n) := by
  unfold M_impl_BigIntOf
  by_cases h : n ≥ 0
  · rw [decide_eq_true h, cond_true, impl_natOf h2, Option.bind_some, impl_signed, Option.bind_some]
    congr 2
    simp only [sg, cond_false]; omega
  · rw [decide_eq_false h, cond_false, wrap_i64 (n := n + 1) (by omega) (by omega), wrap_i64 (n := 0 - (n + 1)) (by omega) (by omega), impl_natOf (by omega), Option.bind_some, ← dg_one1]
    have hs := len_small (show (0 - (n + 1)).toNat ≤ 9223372036854775807 by omega)
    rw [impl_add (by omega) (by rw [dg_one1]; simp), Option.bind_some, impl_signed, Option.bind_some]
    congr 2
    simp only [sg, cond_true]; omega
theorem min_dg : ([854775808, 223372036, 9] : List Int) = dg 9223372036854775808 := by
  refine eq_dg ⟨fun d hd => ?_, by simp [Top0]⟩ (by simp [nv])
  simp at hd
  omega
theorem spec_bigOf {n : Int} (h1 : -9223372036854775808 ≤ n) (h2 : n ≤ 9223372036854775807) : M_spec_BigIntOf n = some (bg n) := by
  unfold M_spec_BigIntOf
  by_cases h : n = -9223372036854775808
  · have hb : (n == -9223372036854775808) = true := by rw [beq_iff_eq]; exact h
    obtain ⟨K, hK, hKv⟩ : ∃ K : Nat, ([854775808, 223372036, 9] : List Int) = dg K ∧ K = n.natAbs := ⟨_, min_dg, by omega⟩
    have hl : (dg K).length ≤ 60 := by rw [← hK]; simp
    rw [hb, cond_true, hK, spec_make _ hl, Option.bind_some]
    congr 2
    simp only [sg, cond_true]; omega
  · have hb : (n == -9223372036854775808) = false := by rw [beq_eq_false_iff_ne]; exact h
    rw [hb, cond_false]
    by_cases h0 : n < 0
    · rw [decide_eq_true h0, cond_true, wrap_i64 (n := 0 - n) (by omega) (by omega), spec_natOf (by omega), Option.bind_some]
      have hs := len_small (show (0 - n).toNat ≤ 9223372036854775807 by omega)
      rw [spec_make _ (by omega), Option.bind_some]
      congr 2
      simp only [sg, cond_true]; omega
    · rw [decide_eq_false h0, cond_false, spec_natOf h2, Option.bind_some]
      have hs := len_small (show n.toNat ≤ 9223372036854775807 by omega)
      rw [spec_make _ (by omega), Option.bind_some]
      congr 2
      simp only [sg, cond_false]; omega

theorem len_i64 {n : Int} (h1 : -9223372036854775808 ≤ n) (h2 : n ≤ 9223372036854775807) : (dg n.natAbs).length ≤ 3 := len_dg.2 (by simp [bp]; omega)
theorem fit_int {n : Int} (h1 : -9223372036854775808 ≤ n) (h2 : n ≤ 9223372036854775807) : Fit (n : Rat) := by
  unfold Fit
  rw [Rat.num_intCast, Rat.den_intCast, dg_one1]
  exact ⟨by have := len_i64 h1 h2; omega, by simp⟩
theorem rq_int (n : Int) : rq (n : Rat) = ⟨(bg n).neg, (bg n).mag, [1]⟩ := by
  unfold rq bg
  rw [Rat.num_intCast, Rat.den_intCast, dg_one1]

theorem bg_natOk {z : Int} (h : (dg z.natAbs).length ≤ 60) : NatOk (bg z).mag := ⟨dg_can _, h⟩
theorem impl_bgOk {z : Int} (h : (dg z.natAbs).length ≤ 60) : M_impl_BigIntOk (bg z) = some true := by
  unfold M_impl_BigIntOk
  rw [impl_natOk (by show (dg z.natAbs).length ≤ 1048576; omega), pB_iff.2 (bg_natOk h), Option.bind_some, cond_true]
  show cond (decide (((dg z.natAbs).length : Int) > 0)) (some true) (some (!decide (z < 0))) = some true
  rw [dg_lenpos]
  by_cases h0 : z.natAbs ≠ 0
  · rw [decide_eq_true h0]; rfl
  · rw [decide_eq_false h0, decide_eq_false (by omega)]; rfl
theorem spec_bgOk {z : Int} (h : (dg z.natAbs).length ≤ 60) : M_spec_BigIntOk (bg z) = some true := by
  unfold M_spec_BigIntOk
  rw [spec_natOk (by show (dg z.natAbs).length ≤ 1048576; omega), pB_iff.2 (bg_natOk h), Option.bind_some, cond_true]
  show cond (!decide (z < 0)) (some true) (some (decide (((dg z.natAbs).length : Int) > 0))) = some true
  rw [dg_lenpos]
  by_cases h0 : z < 0
  · rw [decide_eq_true (show z.natAbs ≠ 0 by omega)]; cases !decide (z < 0) <;> rfl
  · rw [decide_eq_false h0]; rfl

theorem impl_copyRat {r : Rt} (h : r.mag.length ≤ 1048576 ∧ r.den.length ≤ 1048576) : M_impl_copyRat r = some r := by
  unfold M_impl_copyRat
  rw [impl_copy (by omega), Option.bind_some, impl_copy (by omega), Option.bind_some]
theorem spec_copyRat {r : Rt} (h : r.mag.length ≤ 1048576 ∧ r.den.length ≤ 1048576) : M_spec_l04Copy r = some r := by
  unfold M_spec_l04Copy
  rw [room (by omega), Option.bind_some, room (by omega), Option.bind_some]

/-- A quotient of integers. -/
theorem sg_quot (x y : Int) (hy : y ≠ 0) : mkRat (sg (!(decide (x < 0) == decide (y < 0))) x.natAbs) y.natAbs = (x : Rat) / (y : Rat) := by
  have hyr : (y : Rat) ≠ 0 := by intro h; exact hy (Rat.intCast_inj.1 h)
  have hd := mk_div (x : Rat) (y : Rat) hyr
  rw [Rat.num_intCast, Rat.num_intCast, Rat.den_intCast, Rat.den_intCast, Nat.one_mul] at hd
  rw [← hd]
  congr 1
  by_cases h1 : x < 0 <;> by_cases h2 : y < 0
  · rw [decide_eq_true h1, decide_eq_true h2]; simp only [sg, beq_self_eq_true, Bool.not_true, cond_true, cond_false]; omega
  · rw [decide_eq_true h1, decide_eq_false h2]; simp [sg]; omega
  · rw [decide_eq_false h1, decide_eq_true h2]; simp [sg]; omega
  · rw [decide_eq_false h1, decide_eq_false h2]; simp only [sg, beq_self_eq_true, Bool.not_true, cond_false]; omega
theorem impl_make {x y : Int} (hx : (dg x.natAbs).length ≤ 60) (hy : (dg y.natAbs).length ≤ 60) (h0 : y ≠ 0) : M_impl_RatMake (bg x) (bg y) = some (ro (chk ((x : Rat) / (y : Rat)))) := by
  unfold M_impl_RatMake
  rw [impl_bgOk hx, Option.bind_some, impl_bgOk hy, Option.bind_some]
  simp only [Bool.not_true, cond_false]
  show cond (((dg y.natAbs).length : Int) == 0) _ ((M_impl_signed (!(decide (x < 0) == decide (y < 0))) (dg x.natAbs)).bind fun r2 => (M_impl_lowest r2 (dg y.natAbs)).bind _) = _
  rw [dg_len0, decide_eq_false (show ¬ y.natAbs = 0 by omega), cond_false, impl_signed', Option.bind_some, impl_lowest' (by omega) (by rw [sg_abs]; omega) (by omega), Option.bind_some, sg_quot x y h0, impl_copyRat (ro_fit (oks_chk _)), Option.bind_some]
theorem spec_ratMake {x y : Int} (hx : (dg x.natAbs).length ≤ 60) (hy : (dg y.natAbs).length ≤ 60) (h0 : y ≠ 0) : M_spec_RatMake (bg x) (bg y) = some (ro (chk ((x : Rat) / (y : Rat)))) := by
  unfold M_spec_RatMake
  rw [spec_bgOk hx, Option.bind_some, spec_bgOk hy, Option.bind_some]
  simp only [Bool.not_true, cond_false]
  show ((M_spec_l04Low (!(decide (x < 0) == decide (y < 0))) (dg x.natAbs) (dg y.natAbs)).bind _) = _
  rw [spec_low (by omega) (by omega) (by omega), Option.bind_some, sg_quot x y h0]
theorem impl_ratOf {x y : Int} (h1 : -9223372036854775808 ≤ x) (h2 : x ≤ 9223372036854775807) (h3 : -9223372036854775808 ≤ y) (h4 : y ≤ 9223372036854775807) (h0 : y ≠ 0) : M_impl_RatOf x y = some (ro (chk ((x : Rat) / (y : Rat)))) := by
  unfold M_impl_RatOf
  have := len_i64 h1 h2
  have := len_i64 h3 h4
  rw [impl_bigOf h1 h2, Option.bind_some, impl_bigOf h3 h4, Option.bind_some, impl_make (by omega) (by omega) h0, Option.bind_some]
theorem spec_ratOf {x y : Int} (h1 : -9223372036854775808 ≤ x) (h2 : x ≤ 9223372036854775807) (h3 : -9223372036854775808 ≤ y) (h4 : y ≤ 9223372036854775807) (h0 : y ≠ 0) : M_spec_RatOf x y = some (ro (chk ((x : Rat) / (y : Rat)))) := by
  unfold M_spec_RatOf
  have := len_i64 h1 h2
  have := len_i64 h3 h4
  rw [spec_bigOf h1 h2, Option.bind_some, spec_bigOf h3 h4, Option.bind_some, spec_ratMake (by omega) (by omega) h0, Option.bind_some]
theorem impl_ratInt {n : Int} (h1 : -9223372036854775808 ≤ n) (h2 : n ≤ 9223372036854775807) : M_impl_RatFromInt n = some (ro (some (n : Rat))) := by
  unfold M_impl_RatFromInt
  rw [impl_ratOf h1 h2 (by omega) (by omega) (by omega), Option.bind_some]
  have : (n : Rat) / ((1 : Int) : Rat) = (n : Rat) := by
    rw [Rat.intCast_one, Rat.div_def, Rat.inv_eq_of_mul_eq_one (a := 1) (b := 1) (Rat.mul_one 1), Rat.mul_one]
  rw [this, chk_fit (fit_int h1 h2)]
theorem impl_whole {n : Int} (h1 : -9223372036854775808 ≤ n) (h2 : n ≤ 9223372036854775807) : M_impl_whole n = some (ro (some (n : Rat))) := by
  unfold M_impl_whole
  rw [impl_ratInt h1 h2]; rfl
theorem spec_ratInt {n : Int} (h1 : -9223372036854775808 ≤ n) (h2 : n ≤ 9223372036854775807) : M_spec_RatFromInt n = some (ro (some (n : Rat))) := by
  unfold M_spec_RatFromInt
  rw [spec_bigOf h1 h2, Option.bind_some]
  exact congrArg some (rq_int n).symm
end Go.Di
/-
  Own work. Plain laws: names, stations, matrices, networks that are valid; unknowns.
-/
namespace Go.Di

/-! ### Names -/
def cb (s : ByteArray) (i : Nat) : Int := ((s.data[i]?).map fun b => (b.toNat : Int)).getD 0
theorem strAt_at {s : ByteArray} {i : Nat} (h : i < s.size) : strAt s (i : Int) = some (cb s i) := by
  have h' : i < s.data.size := h
  unfold strAt cb
  rw [if_pos (by omega), Int.toNat_natCast, Array.getElem?_eq_getElem h']; rfl
def letB (b : Int) : Bool := decide (97 ≤ b) && decide (b ≤ 122)
def digitB (b : Int) : Bool := decide (48 ≤ b) && decide (b ≤ 57)
def nmP (s : ByteArray) (i : Nat) : Bool := letB (cb s i) || (decide (i ≠ 0) && digitB (cb s i))
def nmQ (s : ByteArray) (i : Nat) : Bool := letB (cb s i) || digitB (cb s i)
def nameB (s : ByteArray) : Bool := decide (1 ≤ s.size) && (decide (s.size ≤ 8) && (List.range s.size).all (nmP s))

theorem lt_not (b c : Int) : decide (b < c) = !decide (c ≤ b) := by rw [Bool.eq_iff_iff]; simp
theorem gt_not (b c : Int) : decide (b > c) = !decide (b ≤ c) := by rw [Bool.eq_iff_iff]; simp
theorem ge_le (b c : Int) : decide (b ≥ c) = decide (c ≤ b) := rfl
theorem ne_not {p : Prop} [Decidable p] : decide (¬ p) = !decide p := by by_cases h : p <;> simp [h]
theorem wrap_nat {i n : Nat} (h : i < n) (hn : n ≤ 4611686018427387904) : IntKind.i64.wrap ((i : Int) + 1) = ((i + 1 : Nat) : Int) := by
  rw [wrap_i64 (by omega) (by omega)]; simp

theorem spec_isName {s : ByteArray} (h : s.size ≤ 1048576) : M_spec_IsName s = some (nameB s) := by
  unfold M_spec_IsName L_spec_IsName_0
  have key := all_loopE (S := S_spec_IsName_0) (fun i => (s, (i : Int), ())) s.size (nmP s) (s, ()) (fun i hi => by
    have hw := wrap_nat hi (by omega)
    simp only [S_spec_IsName_0, dlt hi, cond_true, strAt_at hi, Option.bind_some, hw, nmP, letB, digitB]
    have h0 : ((i : Int) == 0) = decide (i = 0) := by rw [Bool.eq_iff_iff]; simp
    rw [h0, lt_not, gt_not, ge_le, show decide (i ≠ 0) = !decide (i = 0) from ne_not]
    generalize cb s i = b
    cases decide (97 ≤ b) <;> cases decide (b ≤ 122) <;> cases decide (i = 0) <;> cases decide (48 ≤ b) <;> cases decide (b ≤ 57) <;> rfl) (by simp [S_spec_IsName_0])
  rw [show ((0 : Int)) = ((0 : Nat) : Int) from rfl, key]
  unfold nameB M_spec_l01In
  have e1 : decide ((s.size : Int) ≥ 1) = decide (1 ≤ s.size) := by rw [Bool.eq_iff_iff]; simp; omega
  have e2 : decide ((s.size : Int) ≤ 8) = decide (s.size ≤ 8) := by rw [Bool.eq_iff_iff]; simp; omega
  cases hall : (List.range s.size).all (nmP s) with
  | true => simp only [cond_true, Option.bind_some, e1, e2]; cases decide (1 ≤ s.size) <;> cases decide (s.size ≤ 8) <;> rfl
  | false => simp only [cond_false, Option.bind_some]; cases decide (1 ≤ s.size) <;> cases decide (s.size ≤ 8) <;> rfl

theorem impl_isName {s : ByteArray} : M_impl_IsName s = some (nameB s) := by
  unfold M_impl_IsName nameB
  by_cases h1 : 1 ≤ s.size
  · rw [decide_eq_false (show ¬ (s.size : Int) < 1 by omega), cond_false, decide_eq_true h1]
    by_cases h2 : s.size ≤ 8
    · rw [decide_eq_false (show ¬ (s.size : Int) > 8 by omega), cond_false, decide_eq_true h2, show ((0 : Int)) = ((0 : Nat) : Int) from rfl, strAt_at (show 0 < s.size by omega)]
      simp only [Option.bind_some]
      unfold L_impl_IsName_0
      have key := all_loopE (S := S_impl_IsName_0) (fun i => (s, (i : Int), ())) s.size (nmQ s) () (fun i hi => by
        have hw := wrap_nat hi (by omega)
        simp only [S_impl_IsName_0, dlt hi, cond_true, strAt_at hi, Option.bind_some, hw, nmQ, letB, digitB]
        rw [lt_not, lt_not, gt_not, gt_not]
        generalize cb s i = b
        cases decide (97 ≤ b) <;> cases decide (b ≤ 122) <;> cases decide (48 ≤ b) <;> cases decide (b ≤ 57) <;> rfl) (by simp [S_impl_IsName_0])
      rw [key]
      have hall : (letB (cb s 0) && (List.range s.size).all (nmQ s)) = (List.range s.size).all (nmP s) := by
        rw [Bool.eq_iff_iff, Bool.and_eq_true, List.all_eq_true, List.all_eq_true]
        constructor
        · rintro ⟨k1, k2⟩ i hi
          have := k2 i hi
          unfold nmQ at this
          unfold nmP
          by_cases h0 : i = 0
          · subst h0; rw [k1]; rfl
          · rw [decide_eq_true h0, Bool.true_and]; exact this
        · intro k
          refine ⟨?_, fun i hi => ?_⟩
          · have := k 0 (List.mem_range.2 (by omega))
            unfold nmP at this
            simpa using this
          · have := k i hi
            unfold nmP at this
            unfold nmQ
            rw [Bool.or_eq_true] at *
            rcases this with h | h
            · exact .inl h
            · rw [Bool.and_eq_true] at h; exact .inr h.2
      rw [← hall]
      unfold letB
      by_cases a1 : cb s 0 < 97
      · rw [decide_eq_true a1, decide_eq_false (show ¬ 97 ≤ cb s 0 by omega)]; rfl
      · rw [decide_eq_false a1, decide_eq_true (show 97 ≤ cb s 0 by omega), cond_false]
        by_cases a2 : cb s 0 > 122
        · rw [decide_eq_true a2, decide_eq_false (show ¬ cb s 0 ≤ 122 by omega)]; rfl
        · rw [decide_eq_false a2, decide_eq_true (show cb s 0 ≤ 122 by omega), cond_false]
          cases (List.range s.size).all (nmQ s) <;> rfl
    · rw [decide_eq_true (show (s.size : Int) > 8 by omega), decide_eq_false h2]; rfl
  · rw [decide_eq_true (show (s.size : Int) < 1 by omega), decide_eq_false h1]; rfl
theorem nameB_size {s : ByteArray} (h : nameB s = true) : s.size ≤ 8 := by
  unfold nameB at h
  simp only [Bool.and_eq_true, decide_eq_true_eq] at h
  exact h.2.1

/-! ### Stations, matrices -/
noncomputable def staB (s : Sta) (plane : Bool) : Bool := nameB s.name && (pB (Good s.x) && (pB (Good s.y) && (plane || ((s.y.mag.length : Int) == 0))))
theorem bind_and' {x : Option Bool} {a b : Bool} {k : Option Bool} (hx : x = some a) (h : k = some b) : (x.bind fun r => cond r k (some false)) = some (a && b) := bind_and hx h
theorem spec_staOk {s : Sta} (plane : Bool) (h : s.fit) (hn : s.name.size ≤ 1048576) : M_spec_StationOk s plane = some (staB s plane) := by
  unfold M_spec_StationOk staB
  refine bind_and (spec_isName hn) (bind_and (spec_ratOk h.1) (bind_and (spec_ratOk h.2) ?_))
  cases plane <;> rfl
theorem impl_staOk {s : Sta} (plane : Bool) (h : s.fit) : M_impl_StationOk s plane = some (staB s plane) := by
  unfold M_impl_StationOk staB
  refine bind_and impl_isName (bind_and (impl_ratOk h.1) (bind_and (impl_ratOk h.2) ?_))
  cases plane <;> rfl

noncomputable def goodB (r : Rt) : Bool := pB (Good r)
theorem spec_goods {l : List Rt} (h : lfit Rt.fit l) : whileO S_spec_MatrixOk_0 (l, (l.length : Int), 0, ()) = some (cond (l.all goodB) (.inr ()) (.inl (false, ()))) := by
  have key := all_loopE (S := S_spec_MatrixOk_0) (fun i => (l, (l.length : Int), (i : Int), ())) l.length (atB goodB l) () (fun i hi => by
    simp only [S_spec_MatrixOk_0, dlt hi, cond_true, idx_at hi, Option.bind_some, spec_ratOk (h.2 _ (List.getElem_mem hi)), succ_wrap hi h.1, atB_at goodB hi, goodB]
    cases pB (Good l[i]) <;> rfl) (by simp [S_spec_MatrixOk_0])
  rw [all_range] at key; exact key
theorem impl_goods {l : List Rt} (h : lfit Rt.fit l) : whileO S_impl_MatrixOk_0 (l, (l.length : Int), 0, ()) = some (cond (l.all goodB) (.inr ()) (.inl (false, ()))) := by
  have key := all_loopE (S := S_impl_MatrixOk_0) (fun i => (l, (l.length : Int), (i : Int), ())) l.length (atB goodB l) () (fun i hi => by
    simp only [S_impl_MatrixOk_0, dlt hi, cond_true, idx_at hi, Option.bind_some, impl_ratOk (h.2 _ (List.getElem_mem hi)), succ_wrap hi h.1, atB_at goodB hi, goodB]
    cases pB (Good l[i]) <;> rfl) (by simp [S_impl_MatrixOk_0])
  rw [all_range] at key; exact key
def inB (n lo hi : Int) : Bool := decide (n ≥ lo) && decide (n ≤ hi)
theorem spec_in (n lo hi : Int) : M_spec_l01In n lo hi = some (inB n lo hi) := by
  unfold M_spec_l01In inB; cases decide (n ≥ lo) <;> rfl
theorem impl_len (n : Int) : M_impl_isLength n = some (inB n 0 24) := by
  unfold M_impl_isLength inB; cases decide (n ≥ 0) <;> rfl
noncomputable def mxB (m : Mx) : Bool := inB m.rows 0 24 && (inB m.cols 0 24 && (((m.cells.length : Int) == IntKind.i64.wrap (m.rows * m.cols)) && m.cells.all goodB))
theorem chainN {x : Option Bool} {a b : Bool} {k : Option Bool} (hx : x = some a) (hk : k = some b) : (x.bind fun r => cond (!r) (some false) k) = some (a && b) := chain hx hk
theorem spec_mxOk {m : Mx} (h : lfit Rt.fit m.cells) : M_spec_MatrixOk m = some (mxB m) := by
  unfold M_spec_MatrixOk mxB L_spec_MatrixOk_0
  refine chain (spec_in ..) (chain (spec_in ..) ?_)
  rw [show ((m.cells.length : Int) != IntKind.i64.wrap (m.rows * m.cols)) = !((m.cells.length : Int) == IntKind.i64.wrap (m.rows * m.cols)) from rfl]
  refine chain0 ?_
  rw [spec_goods h]
  cases m.cells.all goodB <;> rfl
theorem impl_mxOk {m : Mx} (h : lfit Rt.fit m.cells) : M_impl_MatrixOk m = some (mxB m) := by
  unfold M_impl_MatrixOk mxB L_impl_MatrixOk_0
  refine chain (impl_len _) (chain (impl_len _) ?_)
  rw [show ((m.cells.length : Int) != IntKind.i64.wrap (m.rows * m.cols)) = !((m.cells.length : Int) == IntKind.i64.wrap (m.rows * m.cols)) from rfl]
  refine chain0 ?_
  rw [impl_goods h]
  cases m.cells.all goodB <;> rfl

/-! ### Networks -/
def Sta.fitN (s : Sta) : Prop := s.fit ∧ s.name.size ≤ 1048576
theorem Sta.fitN_of {s : Sta} (h : s.sz ≤ 1048576) : s.fitN := ⟨Sta.fit_of h, by unfold Sta.sz at h; omega⟩
theorem fitN_fit {l : List Sta} (h : lfit Sta.fitN l) : lfit Sta.fit l := ⟨h.1, fun x hx => (h.2 x hx).1⟩
noncomputable def netP (n : Net) (i : Nat) : Bool := match n.stations[i]? with
  | some s => staB s n.plane && (findSta n.stations s.name == (i : Int))
  | none => true
noncomputable def netB (n : Net) : Bool := decide (n.stations.length ≤ 8) && (List.range n.stations.length).all (netP n)
theorem le8 {n : Nat} : decide ((n : Int) > 8) = !decide (n ≤ 8) := by rw [Bool.eq_iff_iff]; simp; omega
theorem spec_netOk {n : Net} (h : lfit Sta.fitN n.stations) : M_spec_NetworkOk n = some (netB n) := by
  unfold M_spec_NetworkOk netB L_spec_NetworkOk_0
  rw [le8]
  refine chain0 ?_
  have key := all_loopE (S := S_spec_NetworkOk_0) (fun i => (n.stations, (n.stations.length : Int), (i : Int), n.plane, n.stations, ())) n.stations.length (netP n) () (fun i hi => by
    have hf := h.2 _ (List.getElem_mem hi)
    have he : netP n i = (staB n.stations[i] n.plane && (findSta n.stations n.stations[i].name == (i : Int))) := by unfold netP; rw [List.getElem?_eq_getElem hi]
    simp only [S_spec_NetworkOk_0, dlt hi, cond_true, idx_at hi, Option.bind_some, spec_staOk n.plane hf.1 hf.2, findStation_eq, impl_find (n := ⟨n.plane, n.stations⟩) (name := n.stations[i].name) h.1, succ_wrap hi h.1, he]
    cases staB n.stations[i] n.plane <;> simp only [Bool.not_true, Bool.not_false, cond_true, cond_false, Bool.true_and, Bool.false_and]
    rw [show (findSta n.stations n.stations[i].name != (i : Int)) = !(findSta n.stations n.stations[i].name == (i : Int)) from rfl]
    cases (findSta n.stations n.stations[i].name == (i : Int)) <;> rfl) (by simp [S_spec_NetworkOk_0])
  rw [show ((0 : Int)) = ((0 : Nat) : Int) from rfl, key]
  cases (List.range n.stations.length).all (netP n) <;> rfl
theorem impl_netOk {n : Net} (h : lfit Sta.fit n.stations) : M_impl_NetworkOk n = some (netB n) := by
  unfold M_impl_NetworkOk netB L_impl_NetworkOk_0
  rw [le8]
  refine chain0 ?_
  have key := all_loopE (S := S_impl_NetworkOk_0) (fun i => (n.stations, (n.stations.length : Int), (i : Int), n.plane, n.stations, ())) n.stations.length (netP n) () (fun i hi => by
    have hf := h.2 _ (List.getElem_mem hi)
    have he : netP n i = (staB n.stations[i] n.plane && (findSta n.stations n.stations[i].name == (i : Int))) := by unfold netP; rw [List.getElem?_eq_getElem hi]
    simp only [S_impl_NetworkOk_0, dlt hi, cond_true, idx_at hi, Option.bind_some, impl_staOk n.plane hf, impl_find (n := ⟨n.plane, n.stations⟩) (name := n.stations[i].name) h.1, succ_wrap hi h.1, he]
    cases staB n.stations[i] n.plane <;> simp only [Bool.not_true, Bool.not_false, cond_true, cond_false, Bool.true_and, Bool.false_and]
    rw [show (findSta n.stations n.stations[i].name != (i : Int)) = !(findSta n.stations n.stations[i].name == (i : Int)) from rfl]
    cases (findSta n.stations n.stations[i].name == (i : Int)) <;> rfl) (by simp [S_impl_NetworkOk_0])
  rw [show ((0 : Int)) = ((0 : Nat) : Int) from rfl, key]
  cases (List.range n.stations.length).all (netP n) <;> rfl
theorem netB_len {n : Net} (h : netB n = true) : n.stations.length ≤ 8 := by
  unfold netB at h
  rw [Bool.and_eq_true, decide_eq_true_eq] at h; exact h.1
theorem netB_sta {n : Net} (h : netB n = true) {i : Nat} (hi : i < n.stations.length) : staB n.stations[i] n.plane = true := by
  unfold netB at h
  rw [Bool.and_eq_true, List.all_eq_true] at h
  have := h.2 i (List.mem_range.2 hi)
  unfold netP at this
  rw [List.getElem?_eq_getElem hi, Bool.and_eq_true] at this
  exact this.1
end Go.Di
/-
  Own work. Plain laws: the statements' marks on lists of integers.
-/
namespace Go.Di

def upto (k : Int) (n : Nat) : List Int := (List.range n).map fun (i : Nat) => k + (i : Int)
@[simp] theorem len_upto (k : Int) (n : Nat) : (upto k n).length = n := by simp [upto]
theorem upto_at {k : Int} {n i : Nat} (h : i < n) : (upto k n)[i]'(by simpa using h) = k + i := by simp [upto]
theorem upto_succ (k : Int) (n : Nat) : upto k (n + 1) = upto k n ++ [k + n] := by simp [upto, List.range_succ]

theorem mark_ints {a : List Int} {k : Int} (ha : a.length ≤ 1048576) (h0 : 0 ≤ k) (h1 : k ≤ 1000000000000) : M_laws_markIntS_md a k = some (k + a.length, upto k a.length) := by
  unfold M_laws_markIntS_md L_laws_markIntS_md_0
  have key := whileO_upto S_laws_markIntS_md_0 (fun i => (k + (i : Int), (i : Int), upto k i ++ a.drop i, ())) a.length (k + (a.length : Int), upto k a.length, ()) (fun i hi => by
    have hl : (upto k i ++ a.drop i).length = a.length := by simp; omega
    have hlt : decide ((i : Int) < ((upto k i ++ a.drop i).length : Int)) = true := by rw [hl]; exact dlt hi
    have hi' : i < (upto k i ++ a.drop i).length := by rw [hl]; exact hi
    have e1 : IntKind.i64.wrap (k + (i : Int) + 1) = k + ((i + 1 : Nat) : Int) := by rw [wrap_i64 (by omega) (by omega)]; omega
    simp only [S_laws_markIntS_md_0, hlt, cond_true, idx_at hi', Option.bind_some, e1, succ_wrap hi ha, Int.toNat_natCast]
    congr 4
    rw [upto_succ, List.set_append_right _ _ (by simp), len_upto, Nat.sub_self, List.drop_eq_getElem_cons hi, List.set_cons_zero, List.append_assoc]
    rfl) (by simp [S_laws_markIntS_md_0])
  simp only [Int.natCast_zero, Int.add_zero] at key
  rw [show upto k 0 ++ a.drop 0 = a by simp [upto]] at key
  rw [key]; rfl

theorem held_ints {k : Int} {n : Nat} (hn : n ≤ 1048576) (h0 : 0 ≤ k) (h1 : k ≤ 1000000000000) : M_laws_heldIntS (upto k n) k = some (k + n) := by
  unfold M_laws_heldIntS L_laws_heldIntS_0
  have key := whileO_upto S_laws_heldIntS_0 (fun i => (upto k n, k + (i : Int), (i : Int), ())) n (.inr (k + (n : Int), ())) (fun i hi => by
    have hi' : i < (upto k n).length := by simpa using hi
    have hlt : decide ((i : Int) < ((upto k n).length : Int)) = true := dlt hi'
    have e1 : IntKind.i64.wrap (k + (i : Int) + 1) = k + ((i + 1 : Nat) : Int) := by rw [wrap_i64 (by omega) (by omega)]; omega
    have e2 : ((upto k n)[i] != k + (i : Int)) = false := by rw [upto_at hi]; simp
    simp only [S_laws_heldIntS_0, hlt, cond_true, idx_at hi', Option.bind_some, e1, succ_wrap hi hn, e2, cond_false]) (by simp [S_laws_heldIntS_0])
  simp only [Int.natCast_zero, Int.add_zero] at key
  rw [key]; rfl

theorem dneg {x : Int} (h : 0 ≤ x) : decide (x < 0) = false := decide_eq_false (by omega)
theorem bneSelf (x : Int) : (x != x) = false := by simp
theorem mark_rat {r : Rt} (h : r.fit) {k : Int} (h0 : 0 ≤ k) (h1 : k ≤ 999990000000) : M_laws_markRat_md r k = some (k + r.mag.length + r.den.length, upto k r.mag.length, upto (k + r.mag.length) r.den.length) := by
  have := h.1
  unfold M_laws_markRat_md M_laws_markBigInt_md
  rw [mark_ints h.1 h0 (by omega), Option.bind_some]
  simp only [Option.bind_some]
  rw [mark_ints h.2 (by omega) (by omega), Option.bind_some]
theorem held_rat {b : Bool} {m d : Nat} {k : Int} (hm : m ≤ 1048576) (hd : d ≤ 1048576) (h0 : 0 ≤ k) (h1 : k ≤ 999990000000) : M_laws_heldRat ⟨b, upto k m, upto (k + m) d⟩ k = some (k + m + d) := by
  unfold M_laws_heldRat M_laws_heldBigInt
  simp only []
  rw [held_ints hm h0 (by omega), Option.bind_some, dneg (by omega), cond_false, Option.bind_some, dneg (by omega), cond_false, held_ints hd (by omega) (by omega), Option.bind_some, dneg (by omega), cond_false]
end Go.Di
/-
  Own work. Plain laws: the root of a natural number, in the program and in the reference.
-/
namespace Go.Di

/-- Newton's steps from x down. -/
def newt (a x : Nat) : Nat := if (x + a / x) / 2 < x then newt a ((x + a / x) / 2) else x
termination_by x
def rootN (a : Nat) : Nat := if a = 0 then 0 else newt a (1000000000 ^ (((dg a).length + 1) / 2))

theorem newt_pos {a : Nat} (ha : 0 < a) : ∀ x, 0 < x → 0 < (x + a / x) / 2 := fun x hx => by
  rcases Nat.lt_or_ge x 2 with h | h
  · have : x = 1 := by omega
    subst this
    rw [Nat.div_one]; omega
  · exact Nat.div_pos (Nat.le_trans h (Nat.le_add_right _ _)) (by omega)

theorem two_dg : ([2] : List Int) = dg 2 := (dg_one (n := 2) (by omega) (by omega)).symm
theorem start_dg (h : Nat) : List.replicate h (0 : Int) ++ [1] = dg (1000000000 ^ h) := by
  refine eq_dg ⟨(Dig.zeros h).snoc (by omega), by simp [Top0]⟩ ?_
  rw [nv_snoc, nv_zeros, List.length_replicate]
  unfold bp
  simp

theorem len_half {n k : Nat} (h : (dg n).length ≤ k) : (dg (n / 2)).length ≤ k := Nat.le_trans (len_dg_mono (Nat.div_le_self n 2)) h
theorem newt_len {a x k : Nat} (ha : (dg a).length ≤ k) (hx : (dg x).length ≤ k) : (dg (x + a / x)).length ≤ k + 1 := len_dg_add hx (Nat.le_trans (len_dg_mono (Nat.div_le_self a x)) ha)

theorem spec_root_loop {a : Nat} (ha : 0 < a) (hl : (dg a).length ≤ 10000000) : ∀ x : Nat, 0 < x → (dg x).length ≤ 10000000 → whileO S_spec_l09Root_1 (dg a, dg x, ()) = some (dg (newt a x), ()) := by
  intro x
  induction x using Nat.strongRecOn with
  | _ x ih =>
    intro hx hxl
    have hq := Nat.le_trans (len_dg_mono (Nat.div_le_self a x)) hl
    have hs := newt_len hl hxl
    have hy := len_half hs
    have hcmp := spec_cmp (dg_can ((x + a / x) / 2)) (dg_can x) (by omega)
    rw [nv_dg, nv_dg] at hcmp
    have h2 : (dg 2).length ≤ 100000000 := by rw [← two_dg]; simp
    have step : S_spec_l09Root_1 (dg a, dg x, ()) = cond (decide (((x : Nat) : Int) ≤ (((x + a / x) / 2 : Nat) : Int))) (some (.inr (dg x, ()))) (some (.inl (dg a, dg ((x + a / x) / 2), ()))) := by
      simp only [S_spec_l09Root_1, two_dg, spec_div (show (dg a).length ≤ 100000000 by omega) (show (dg x).length ≤ 100000000 by omega) hx, Option.bind_some, spec_add (show (dg x).length ≤ 1073740000 by omega) (show (dg (a / x)).length ≤ 1073740000 by omega),
        spec_trim' (show (dg (x + a / x)).length ≤ 1073741824 by omega), spec_div (show (dg (x + a / x)).length ≤ 100000000 by omega) h2 (show 0 < 2 by omega), spec_trim' (show (dg ((x + a / x) / 2)).length ≤ 1073741824 by omega), spec_trim' (show (dg x).length ≤ 1073741824 by omega), hcmp, cmpI_ge, room (show (dg x).length ≤ 1073741824 by omega)]
    rw [newt]
    by_cases hlt : (x + a / x) / 2 < x
    · rw [if_pos hlt, whileO_inl (by rw [step, decide_eq_false (by omega)]; rfl)]
      exact ih _ hlt (newt_pos ha x hx) (Nat.le_trans (len_dg_mono (Nat.le_of_lt hlt)) hxl)
    · rw [if_neg hlt]
      exact whileO_inr (by rw [step, decide_eq_true (by omega)]; rfl)
theorem impl_root_loop {a : Nat} (ha : 0 < a) (hl : (dg a).length ≤ 10000000) : ∀ x : Nat, 0 < x → (dg x).length ≤ 10000000 → whileO S_impl_root_0 (dg a, dg x, ()) = some (dg (newt a x), ()) := by
  intro x
  induction x using Nat.strongRecOn with
  | _ x ih =>
    intro hx hxl
    have hq := Nat.le_trans (len_dg_mono (Nat.div_le_self a x)) hl
    have hs := newt_len hl hxl
    have hy := len_half hs
    have hcmp := impl_cmp (dg_can ((x + a / x) / 2)) (dg_can x) (by omega)
    rw [nv_dg, nv_dg] at hcmp
    have h2 : (dg 2).length ≤ 100000000 := by rw [← two_dg]; simp
    have step : S_impl_root_0 (dg a, dg x, ()) = cond (decide (((x : Nat) : Int) ≤ (((x + a / x) / 2 : Nat) : Int))) (some (.inr (dg x, ()))) (some (.inl (dg a, dg ((x + a / x) / 2), ()))) := by
      simp only [S_impl_root_0, two_dg, impl_div (show (dg a).length ≤ 100000000 by omega) (show (dg x).length ≤ 100000000 by omega) hx, Option.bind_some, impl_add (show (dg x).length ≤ 1073740000 by omega) (show (dg (a / x)).length ≤ 1073740000 by omega),
        impl_div (show (dg (x + a / x)).length ≤ 100000000 by omega) h2 (show 0 < 2 by omega), hcmp, cmpI_ge]
    rw [newt]
    by_cases hlt : (x + a / x) / 2 < x
    · rw [if_pos hlt, whileO_inl (by rw [step, decide_eq_false (by omega)]; rfl)]
      exact ih _ hlt (newt_pos ha x hx) (Nat.le_trans (len_dg_mono (Nat.le_of_lt hlt)) hxl)
    · rw [if_neg hlt]
      exact whileO_inr (by rw [step, decide_eq_true (by omega)]; rfl)

theorem pow_len (h : Nat) : (dg (1000000000 ^ h)).length = h + 1 := by rw [← start_dg]; simp
theorem half_wrap {n : Nat} (h : n ≤ 10000000) : IntKind.i64.wrap ((IntKind.i64.wrap ((n : Int) + 1)).tdiv 2) = (((n + 1) / 2 : Nat) : Int) := by
  rw [wrap_i64 (n := (n : Int) + 1) (by omega) (by omega), Int.tdiv_eq_ediv_of_nonneg (by omega), wrap_i64 (by omega) (by omega)]
  omega
theorem rootN_zero : rootN 0 = 0 := by unfold rootN; rw [if_pos rfl]

theorem spec_root {a : Nat} (hl : (dg a).length ≤ 1000000) : M_spec_l09Root (dg a) = some (dg (rootN a)) := by
  unfold M_spec_l09Root
  rw [dg_len0]
  by_cases h0 : a = 0
  · subst h0; rw [decide_eq_true rfl, cond_true, rootN_zero, dg_zero]
  · rw [decide_eq_false h0, cond_false]
    unfold L_spec_l09Root_0
    have hw := half_wrap (n := (dg a).length) (by omega)
    have key := whileO_upto S_spec_l09Root_0 (fun i => (dg a, List.replicate i 0, ())) (((dg a).length + 1) / 2) (dg a, List.replicate (((dg a).length + 1) / 2) 0, ()) (fun i hi => by
      have h1 : decide (((List.replicate i (0 : Int)).length : Int) < (((((dg a).length + 1) / 2 : Nat)) : Int)) = true := by rw [List.length_replicate]; exact decide_eq_true (by omega)
      simp only [S_spec_l09Root_0, hw, h1, cond_true, room (show (List.replicate i (0 : Int)).length + 1 ≤ 1073741824 by simp; omega), Option.bind_some]
      rw [← List.replicate_succ']) (by
      have h1 : decide (((List.replicate (((dg a).length + 1) / 2) (0 : Int)).length : Int) < (((((dg a).length + 1) / 2 : Nat)) : Int)) = false := by rw [List.length_replicate]; exact decide_eq_false (by omega)
      simp only [S_spec_l09Root_0, hw, h1, cond_false])
    rw [List.replicate_zero] at key
    rw [key, Option.bind_some]
    simp only []
    rw [room (by simp; omega), Option.bind_some, start_dg]
    unfold L_spec_l09Root_1
    rw [spec_root_loop (by omega) (by omega) _ (Nat.pow_pos (by omega)) (by rw [pow_len]; omega), Option.bind_some]
    unfold rootN
    rw [if_neg h0]
theorem impl_root {a : Nat} (hl : (dg a).length ≤ 1000000) : M_impl_root (dg a) = some (dg (rootN a)) := by
  unfold M_impl_root
  rw [dg_len0]
  by_cases h0 : a = 0
  · subst h0; rw [decide_eq_true rfl, cond_true, rootN_zero, dg_zero]
  · rw [decide_eq_false h0, cond_false, half_wrap (n := (dg a).length) (by omega)]
    have e1 : IntKind.i64.wrap (((((dg a).length + 1) / 2 : Nat) : Int) + 1) = ((((dg a).length + 1) / 2 + 1 : Nat) : Int) := by rw [wrap_i64 (by omega) (by omega)]; omega
    rw [e1, mk_guard (by omega), Option.bind_some, Int.toNat_natCast, List.length_replicate]
    have e2 : IntKind.i64.wrap (((((dg a).length + 1) / 2 + 1 : Nat) : Int) - 1) = ((((dg a).length + 1) / 2 : Nat) : Int) := by rw [wrap_i64 (by omega) (by omega)]; omega
    rw [e2, idx_at (by simp), Option.bind_some, Int.toNat_natCast]
    have e3 : (List.replicate (((dg a).length + 1) / 2 + 1) (0 : Int)).set (((dg a).length + 1) / 2) 1 = dg (1000000000 ^ (((dg a).length + 1) / 2)) := by
      rw [← start_dg, List.replicate_succ', List.set_append_right _ _ (by simp)]; simp
    rw [e3]
    unfold L_impl_root_0
    rw [impl_root_loop (by omega) (by omega) _ (Nat.pow_pos (by omega)) (by rw [pow_len]; omega), Option.bind_some]
    unfold rootN
    rw [if_neg h0]
theorem spec_rootOf {a : List Int} (h : a.length ≤ 1048576) : M_spec_RootOfNat a = some (cond (pB (NatOk a)) (dg (rootN (nv a).toNat)) []) := by
  unfold M_spec_RootOfNat
  rw [spec_natOk h, Option.bind_some]
  by_cases hk : NatOk a
  · rw [pB_iff.2 hk]
    have e := hk.1.dg
    have hl := hk.2
    generalize (nv a).toNat = m at *
    subst e
    simp only [Bool.not_true, cond_false, cond_true]
    rw [spec_root (by omega)]; rfl
  · rw [pB_not.2 hk]; rfl
theorem impl_rootOf {a : List Int} (h : a.length ≤ 1048576) : M_impl_RootOfNat a = some (cond (pB (NatOk a)) (dg (rootN (nv a).toNat)) []) := by
  unfold M_impl_RootOfNat
  rw [impl_natOk h, Option.bind_some]
  by_cases hk : NatOk a
  · rw [pB_iff.2 hk]
    have e := hk.1.dg
    have hl := hk.2
    generalize (nv a).toNat = m at *
    subst e
    simp only [Bool.not_true, cond_false, cond_true]
    rw [impl_root (by omega)]; rfl
  · rw [pB_not.2 hk]; rfl
theorem newt_le (a : Nat) : ∀ x, newt a x ≤ x := by
  intro x
  induction x using Nat.strongRecOn with
  | _ x ih =>
    rw [newt]
    split
    · rename_i h; exact Nat.le_trans (ih _ h) (Nat.le_of_lt h)
    · exact Nat.le_refl _
theorem root_len {a : Nat} : (dg (rootN a)).length ≤ (dg a).length + 1 := by
  unfold rootN
  split
  · rename_i h; subst h; simp [dg_zero]
  · have := len_dg_mono (newt_le a (1000000000 ^ (((dg a).length + 1) / 2)))
    rw [pow_len] at this
    have hne : 0 < (dg a).length := by
      rename_i h
      exact List.length_pos_iff.2 (fun e => h (dg_nil.1 e))
    omega
end Go.Di
/-
  Own work. Plain laws: quotients in the reference; signs; roundings; roots of fractions.
-/
namespace Go.Di

theorem spec_badO (o : Option Rat) : M_spec_l05Bad (ro o) = some o.isNone := by unfold M_spec_l05Bad; rw [den_void]

theorem spec_divO {o p : Option Rat} (ho : Oks o) (hp : Oks p) : M_spec_l05Div (ro o) (ro p) = some (ro (divO o p)) := by
  unfold M_spec_l05Div
  have hom := ro_mag ho
  have hpm := ro_mag hp
  have hod := ro_den ho
  have hpd := ro_den hp
  cases o with
  | none =>
    obtain ⟨m, d, e1, e2⟩ : ∃ m d : Nat, (ro p).mag = dg m ∧ (ro p).den = dg d := by
      cases p with
      | none => exact ⟨0, 0, dg_zero.symm, dg_zero.symm⟩
      | some r => exact ⟨_, _, rfl, rfl⟩
    rw [e1] at hpm; rw [e2] at hpd
    rw [ro_none_dg, e1, e2]
    rw [spec_mul (by rw [dg_zero]; simp) (by omega), Option.bind_some, spec_mul (by rw [dg_zero]; simp) (by omega), Option.bind_some, Nat.zero_mul, Nat.zero_mul, spec_low0 (by rw [dg_zero]; simp), Option.bind_some]; rfl
  | some q =>
    have fq := ho q rfl
    cases p with
    | none =>
      rw [ro_none_dg]
      show ((M_spec_l02Mul (dg q.num.natAbs) (dg 0)).bind fun r1 => (M_spec_l02Mul (dg q.den) (dg 0)).bind _) = _
      rw [spec_mul (by have := fq.1; omega) (by rw [dg_zero]; simp), Option.bind_some, spec_mul (by have := fq.2; omega) (by rw [dg_zero]; simp), Option.bind_some, Nat.mul_zero, Nat.mul_zero, spec_low0 (by rw [dg_zero]; simp), Option.bind_some]; rfl
    | some r =>
      have fr := hp r rfl
      have h3 := small24 fq.2 fr.1
      have h4 := small24 fq.1 fr.2
      show ((M_spec_l02Mul (dg q.num.natAbs) (dg r.den)).bind fun r1 => (M_spec_l02Mul (dg q.den) (dg r.num.natAbs)).bind fun r2 => (M_spec_l04Low (!(decide (q.num < 0) == decide (r.num < 0))) r1 r2).bind _) = _
      rw [spec_mul (by have := fq.1; omega) (by have := fr.2; omega), Option.bind_some, spec_mul (by have := fq.2; omega) (by have := fr.1; omega), Option.bind_some]
      by_cases h0 : r = 0
      · have : r.num.natAbs = 0 := by rw [h0]; rfl
        rw [this, Nat.mul_zero, spec_low0 (by omega), Option.bind_some]
        simp [divO, h0]
      · have hn : r.num.natAbs ≠ 0 := fun h => h0 (Rat.num_eq_zero.1 (by omega))
        rw [spec_low (Nat.mul_ne_zero q.den_nz hn) (by omega) (by omega), Option.bind_some]
        have hs := sg_mul q.num (sg (decide (r.num < 0)) r.den)
        rw [sg_abs, sg_neg r.den_nz] at hs
        rw [hs, mk_div q r h0]
        simp [divO, h0]

/-! ### Signs -/
theorem impl_signq (q : Rat) : M_impl_sign (rq q) = some (cond (decide (q.num < 0)) (-1) (cond (decide (q.num ≠ 0)) 1 0)) := by
  unfold M_impl_sign rq
  simp only [dg_lenpos]
  cases decide (q.num < 0) with
  | true => rfl
  | false =>
    simp only [cond_false]
    have : decide (q.num.natAbs ≠ 0) = decide (q.num ≠ 0) := by rw [Bool.eq_iff_iff]; simp
    rw [this]
    cases decide (q.num ≠ 0) <;> rfl

/-! ### Rounded down -/
theorem floor_neg {n : Int} {d : Nat} (hd : 0 < d) (hn : n < 0) : sg true (n.natAbs / d + (if n.natAbs % d = 0 then 0 else 1)) = n / (d : Int) := by
  have h1 : ((n.natAbs : Nat) : Int) = -n := by omega
  have hdm := Nat.div_add_mod n.natAbs d
  have hlt := Nat.mod_lt n.natAbs hd
  generalize n.natAbs / d = q at *
  generalize n.natAbs % d = r at *
  have hz : (d : Int) * q + r = -n := by rw [← h1]; exact_mod_cast hdm
  simp only [sg, cond_true]
  by_cases hr : r = 0
  · rw [if_pos hr]
    subst hr
    have : n = (d : Int) * (-(q : Int)) := by grind
    rw [this, Int.mul_ediv_cancel_left _ (by omega)]; omega
  · rw [if_neg hr]
    have e : n = ((d : Int) - r) + (d : Int) * (-(q : Int) - 1) := by grind
    rw [e, Int.add_mul_ediv_left _ _ (by omega), Int.ediv_eq_zero_of_lt (by omega) (by omega)]; omega
theorem floor_pos {n : Int} {d : Nat} (hn : ¬ n < 0) : sg false (n.natAbs / d) = n / (d : Int) := by
  have h1 : n = ((n.natAbs : Nat) : Int) := by omega
  simp only [sg, cond_false]
  rw [Int.natCast_ediv, ← h1]

theorem impl_floor {q : Rat} (hm : (dg q.num.natAbs).length ≤ 24) (hd : (dg q.den).length ≤ 24) : ∃ r, M_impl_bigFloor ⟨decide (q.num < 0), dg q.num.natAbs⟩ (dg q.den) = some (bg (q.num / (q.den : Int)), r) := by
  unfold M_impl_bigFloor
  have hpos : 0 < q.den := Nat.pos_of_ne_zero q.den_nz
  have hq := Nat.le_trans (len_dg_mono (Nat.div_le_self q.num.natAbs q.den)) hm
  simp only []
  rw [impl_div (by omega) (by omega) hpos, Option.bind_some]
  by_cases h : q.num < 0
  · rw [decide_eq_true h]
    simp only [Bool.not_true, cond_false, dg_lenpos]
    have hf := floor_neg hpos h
    by_cases hr : q.num.natAbs % q.den = 0
    · rw [decide_eq_false (by omega), cond_false, impl_signed, Option.bind_some]
      rw [if_pos hr, Nat.add_zero] at hf
      rw [hf]; exact ⟨_, rfl⟩
    · rw [decide_eq_true (by omega), cond_true, ← dg_one1, impl_add (by omega) (by rw [dg_one1]; simp), Option.bind_some, impl_sub (by omega) (Nat.le_of_lt (Nat.mod_lt _ hpos)), Option.bind_some, impl_signed, Option.bind_some]
      rw [if_neg hr] at hf
      rw [hf]; exact ⟨_, rfl⟩
  · rw [decide_eq_false h]
    simp only [Bool.not_false, cond_true]
    rw [impl_signed, Option.bind_some, floor_pos h]; exact ⟨_, rfl⟩
theorem spec_trimc {m : Nat} (h : (dg m).length ≤ 1073741824) : M_spec_l02Trim_c (dg m) = some (dg m) := by rw [spec_trim h, dg_tz]
theorem spec_floor {q : Rat} (hm : (dg q.num.natAbs).length ≤ 24) (hd : (dg q.den).length ≤ 24) : M_spec_l09Floor (rq q) = some (bg (q.num / (q.den : Int))) := by
  unfold M_spec_l09Floor rq
  have hpos : 0 < q.den := Nat.pos_of_ne_zero q.den_nz
  have hq := Nat.le_trans (len_dg_mono (Nat.div_le_self q.num.natAbs q.den)) hm
  have hr := Nat.le_trans (len_dg_mono (Nat.mod_le q.num.natAbs q.den)) hm
  simp only []
  rw [spec_div (by omega) (by omega) hpos, Option.bind_some]
  simp only []
  rw [spec_trimc (by omega), Option.bind_some]
  by_cases h : q.num < 0
  · rw [decide_eq_true h]
    simp only [cond_true]
    have hf := floor_neg hpos h
    rw [spec_trimc (by omega), Option.bind_some, dg_lenpos]
    by_cases hr0 : q.num.natAbs % q.den = 0
    · rw [decide_eq_false (by omega), cond_false, spec_make _ (by omega), Option.bind_some]
      rw [if_pos hr0, Nat.add_zero] at hf
      rw [hf]
    · have h1 : (dg (q.num.natAbs / q.den + 1)).length ≤ 25 := len_dg_add hq (by rw [dg_one1]; simp)
      rw [decide_eq_true (by omega), cond_true, ← dg_one1, spec_add (by omega) (by rw [dg_one1]; simp), Option.bind_some, spec_trimc (by omega), Option.bind_some, spec_make _ (by omega), Option.bind_some]
      rw [if_neg hr0] at hf
      rw [hf]
  · rw [decide_eq_false h]
    simp only [cond_false]
    rw [spec_make _ (by omega), Option.bind_some, floor_pos h]

theorem half_fit : Fit (((1 : Int) : Rat) / ((2 : Int) : Rat)) := by
  have h := mk_div ((1 : Int) : Rat) ((2 : Int) : Rat) (by decide)
  rw [Rat.num_intCast, Rat.num_intCast, Rat.den_intCast, Rat.den_intCast] at h
  rw [← h]
  have e : sg (decide ((2 : Int) < 0)) 1 = 1 := rfl
  rw [e, fit_mk _ (d := 1 * (2 : Int).natAbs) (by decide)]
  have e1 : ((1 : Int) * 1).natAbs = 1 := rfl
  have e2 : (1 : Nat) * (2 : Int).natAbs = 2 := rfl
  rw [e1, e2, Nat.gcd_one_left, Nat.div_one, Nat.div_one, dg_one1, ← two_dg]; simp

noncomputable def rtO (q : Rat) (n : Int) : Option Rat := (addO (mulO (some q) (some (n : Rat))) (some (((1 : Int) : Rat) / ((2 : Int) : Rat)))).bind fun x => chk (mkRat (x.num / (x.den : Int)) n.toNat)
theorem ediv_len {n : Int} {d : Nat} (hd : 0 < d) (h : (dg n.natAbs).length ≤ 24) : (dg (n / (d : Int)).natAbs).length ≤ 25 := by
  have hle : (n / (d : Int)).natAbs ≤ n.natAbs + 1 := by
    have h1 := Int.mul_ediv_add_emod n (d : Int)
    have h2 := Int.emod_nonneg n (show (d : Int) ≠ 0 by omega)
    have h3 := Int.emod_lt_of_pos n (show (0 : Int) < d by omega)
    rcases Int.lt_or_le n 0 with hn | hn
    · have h4 : n / (d : Int) < 0 := Int.ediv_neg_of_neg_of_pos hn (by omega)
      have h5 : n * (d : Int) ≤ n * 1 := Int.mul_le_mul_of_nonpos_left (by omega) (show (1 : Int) ≤ d by omega)
      have h6 : n ≤ n / (d : Int) := Int.le_ediv_of_mul_le (by omega) (by omega)
      omega
    · have h4 := Int.ediv_nonneg hn (show (0 : Int) ≤ d by omega)
      have h5 := Int.ediv_le_self (d : Int) hn
      omega
  exact Nat.le_trans (len_dg_mono hle) (len_dg_add h (by rw [dg_one1]; simp))

theorem impl_round {q : Rat} (hq : Fit q) {n : Int} (h1 : 1 ≤ n) (h2 : n ≤ 1000000) : M_impl_RoundTo (rq q) n = some (ro (rtO q n)) := by
  unfold M_impl_RoundTo
  have hr : rq q = ro (some q) := rfl
  have fn := fit_int (n := n) (by omega) (by omega)
  rw [hr, impl_okO hq.ok, Option.bind_some, decide_eq_false (show ¬ n < 1 by omega), decide_eq_false (show ¬ n > 1000000 by omega)]
  simp only [Option.isSome_some, Bool.not_true, cond_false]
  rw [impl_whole (by omega) (by omega), Option.bind_some, impl_mulO hq.ok fn.ok, Option.bind_some, impl_ratOf (by omega) (by omega) (by omega) (by omega) (by omega), chk_fit half_fit, Option.bind_some, impl_addO oks_mulO half_fit.ok, Option.bind_some, impl_void, Option.bind_some]
  unfold rtO
  have ok := oks_addO (o := mulO (some q) (some (n : Rat))) (p := some (((1 : Int) : Rat) / ((2 : Int) : Rat)))
  generalize addO (mulO (some q) (some (n : Rat))) (some (((1 : Int) : Rat) / ((2 : Int) : Rat))) = o at *
  cases o with
  | none => rfl
  | some x =>
    have fx := ok x rfl
    simp only [Option.isNone_some, cond_false, Option.bind_some]
    obtain ⟨r, hr⟩ := impl_floor fx.1 fx.2
    show ((M_impl_bigFloor ⟨decide (x.num < 0), dg x.num.natAbs⟩ (dg x.den)).bind _) = _
    have hl := ediv_len (n := x.num) (Nat.pos_of_ne_zero x.den_nz) fx.1
    have hs := len_small (show n.toNat ≤ 9223372036854775807 by omega)
    rw [hr, Option.bind_some]
    simp only []
    rw [impl_natOf (by omega), Option.bind_some, impl_lowest (by omega) (by omega) (by omega), Option.bind_some]
theorem spec_round {q : Rat} (hq : Fit q) {n : Int} (h1 : 1 ≤ n) (h2 : n ≤ 1000000) : M_spec_RoundTo (rq q) n = some (ro (rtO q n)) := by
  unfold M_spec_RoundTo M_spec_l01In
  have hr : rq q = ro (some q) := rfl
  have fn := fit_int (n := n) (by omega) (by omega)
  rw [hr, spec_okO hq.ok, Option.bind_some, decide_eq_true (show n ≥ 1 by omega), decide_eq_true (show n ≤ 1000000 by omega)]
  simp only [Option.isSome_some, Bool.not_true, cond_false, cond_true, Option.bind_some]
  rw [spec_ratInt (by omega) (by omega), Option.bind_some, spec_mulO hq.ok fn.ok, Option.bind_some, spec_ratOf (by omega) (by omega) (by omega) (by omega) (by omega), chk_fit half_fit, Option.bind_some, spec_addO oks_mulO half_fit.ok, Option.bind_some, spec_badO, Option.bind_some]
  unfold rtO
  have ok := oks_addO (o := mulO (some q) (some (n : Rat))) (p := some (((1 : Int) : Rat) / ((2 : Int) : Rat)))
  generalize addO (mulO (some q) (some (n : Rat))) (some (((1 : Int) : Rat) / ((2 : Int) : Rat))) = o at *
  cases o with
  | none => rfl
  | some x =>
    have fx := ok x rfl
    simp only [Option.isNone_some, cond_false, Option.bind_some]
    have hl := ediv_len (n := x.num) (Nat.pos_of_ne_zero x.den_nz) fx.1
    have hs := len_small (show n.toNat ≤ 9223372036854775807 by omega)
    rw [show ro (some x) = rq x from rfl, spec_floor fx.1 fx.2, Option.bind_some, spec_natOf (by omega), Option.bind_some]
    show ((M_spec_l04Low (decide (x.num / (x.den : Int) < 0)) (dg (x.num / (x.den : Int)).natAbs) (dg n.toNat)).bind _) = _
    rw [spec_low (by omega) (by omega) (by omega), Option.bind_some, sg_self]
theorem round_both {r : Rt} (hr : r.fit) (n : Int) : ∃ o, Oks o ∧ M_spec_RoundTo r n = some (ro o) ∧ M_impl_RoundTo r n = some (ro o) := by
  by_cases hg : Good r
  · obtain ⟨q, hf, rfl⟩ := hg
    by_cases h1 : 1 ≤ n
    · by_cases h2 : n ≤ 1000000
      · exact ⟨_, oks_bind fun _ => oks_chk _, spec_round hf h1 h2, impl_round hf h1 h2⟩
      · refine ⟨none, oks_none, ?_, ?_⟩
        · unfold M_spec_RoundTo M_spec_l01In
          rw [spec_ratOk hr, good_rq hf, decide_eq_true (show n ≥ 1 by omega), decide_eq_false h2]; rfl
        · unfold M_impl_RoundTo
          rw [impl_ratOk hr, good_rq hf, decide_eq_false (show ¬ n < 1 by omega), decide_eq_true (show n > 1000000 by omega)]; rfl
    · refine ⟨none, oks_none, ?_, ?_⟩
      · unfold M_spec_RoundTo M_spec_l01In
        rw [spec_ratOk hr, good_rq hf, decide_eq_false (show ¬ n ≥ 1 by omega)]; rfl
      · unfold M_impl_RoundTo
        rw [impl_ratOk hr, good_rq hf, decide_eq_true (show n < 1 by omega)]; rfl
  · refine ⟨none, oks_none, ?_, ?_⟩
    · unfold M_spec_RoundTo
      rw [spec_ratOk hr, pB_not.2 hg]; rfl
    · unfold M_impl_RoundTo
      rw [impl_ratOk hr, pB_not.2 hg]; rfl

/-! ### Roots of fractions -/
theorem fit_up {q : Rat} (hq : Fit q) {k : Nat} (hk : 0 < k) (h : Fit (q * ((k : Int) : Rat) * ((k : Int) : Rat))) : Fit (q * ((k : Int) : Rat)) := by
  -- the numerator grows, the denominator falls
  have mulk : ∀ a : Rat, a * ((k : Int) : Rat) = mkRat (a.num * k) a.den := fun a => by
    rw [← mk_mul, Rat.num_intCast, Rat.den_intCast, Nat.mul_one]
  have hden : (q * ((k : Int) : Rat)).den ≤ q.den := by
    rw [mulk, (mk_parts _ q.den_nz).2]
    exact Nat.div_le_self _ _
  refine ⟨?_, Nat.le_trans (len_dg_mono hden) hq.2⟩
  have hnum : ∀ a : Rat, a.num.natAbs ≤ (a * ((k : Int) : Rat)).num.natAbs := fun a => by
    rw [mulk, mk_abs _ a.den_nz, Int.natAbs_mul, Int.natAbs_natCast]
    have hg : Nat.gcd (a.num.natAbs * k) a.den = Nat.gcd k a.den := Nat.Coprime.gcd_mul_left_cancel k a.reduced
    rw [hg]
    have hpos : 0 < Nat.gcd k a.den := Nat.gcd_pos_of_pos_left _ hk
    rw [Nat.le_div_iff_mul_le hpos]
    exact Nat.mul_le_mul_left _ (Nat.gcd_le_left _ hk)
  exact Nat.le_trans (len_dg_mono (hnum _)) h.1
theorem mulO_twice {q : Rat} (hq : Fit q) {k : Nat} (hk : 0 < k) : mulO (mulO (some q) (some ((k : Int) : Rat))) (some ((k : Int) : Rat)) = mulO (some q) (some (((k * k : Nat) : Int) : Rat)) := by
  have e : q * (((k * k : Nat) : Int) : Rat) = q * ((k : Int) : Rat) * ((k : Int) : Rat) := by
    rw [Int.natCast_mul, Rat.intCast_mul, Rat.mul_assoc]
  have h2 : mulO (some q) (some (((k * k : Nat) : Int) : Rat)) = chk (q * ((k : Int) : Rat) * ((k : Int) : Rat)) := by
    show chk _ = _
    rw [e]
  rw [h2]
  show (chk (q * ((k : Int) : Rat))).bind (fun x => chk (x * ((k : Int) : Rat))) = _
  by_cases h : Fit (q * ((k : Int) : Rat))
  · rw [chk_fit h, Option.bind_some]
  · rw [chk_not h, chk_not (fun k2 => h (fit_up hq hk k2))]; rfl

noncomputable def rbO (q : Rat) : Option Rat := (mulO (some q) (some ((1000000000000 : Int) : Rat))).bind fun x => chk (mkRat ((rootN (x.num.natAbs / x.den) : Nat) : Int) 1000000)
theorem spec_rb {q : Rat} (hq : Fit q) (h0 : ¬ q.num < 0) : M_spec_RootBelow (rq q) = some (ro (rbO q)) := by
  unfold M_spec_RootBelow
  have hr : rq q = ro (some q) := rfl
  have hn : (rq q).neg = false := decide_eq_false h0
  rw [hn, hr, spec_okO hq.ok, Option.bind_some]
  simp only [Option.isSome_some, Bool.not_true, cond_false]
  rw [spec_ratInt (by omega) (by omega), Option.bind_some, spec_mulO hq.ok (fit_int (by omega) (by omega)).ok, Option.bind_some, spec_badO, Option.bind_some]
  unfold rbO
  have ok := oks_mulO (o := some q) (p := some ((1000000000000 : Int) : Rat))
  generalize mulO (some q) (some ((1000000000000 : Int) : Rat)) = o at *
  cases o with
  | none => rfl
  | some x =>
    have fx := ok x rfl
    simp only [Option.isNone_some, cond_false, Option.bind_some]
    show ((M_spec_l02Div (dg x.num.natAbs) (dg x.den)).bind _) = _
    have hl := Nat.le_trans (len_dg_mono (Nat.div_le_self x.num.natAbs x.den)) fx.1
    have hrl := root_len (a := x.num.natAbs / x.den)
    have hs : (dg 1000000).length ≤ 3 := len_small (by omega)
    rw [spec_div (by have := fx.1; omega) (by have := fx.2; omega) (Nat.pos_of_ne_zero x.den_nz), Option.bind_some]
    simp only []
    rw [spec_trimc (by omega), Option.bind_some, spec_root (by omega), Option.bind_some, spec_natOf (by omega), Option.bind_some, show (1000000 : Int).toNat = 1000000 from rfl, spec_low (by omega) (by omega) (by omega), Option.bind_some]
    rfl
theorem impl_rb {q : Rat} (hq : Fit q) (h0 : ¬ q.num < 0) : M_impl_RootBelow (rq q) = some (ro (rbO q)) := by
  unfold M_impl_RootBelow
  have hr : rq q = ro (some q) := rfl
  have hsg : ∃ s : Int, M_impl_sign (rq q) = some s ∧ decide (s < 0) = false := by
    rw [impl_signq, decide_eq_false h0, cond_false]
    cases decide (q.num ≠ 0) <;> exact ⟨_, rfl, rfl⟩
  obtain ⟨s, hs1, hs2⟩ := hsg
  have fm := fit_int (n := 1000000) (by omega) (by omega)
  have two := mulO_twice hq (k := 1000000) (by omega)
  rw [hs1, hr, impl_okO hq.ok, Option.bind_some, Option.bind_some, hs2]
  simp only [Option.isSome_some, Bool.not_true, cond_false]
  rw [impl_whole (by omega) (by omega), Option.bind_some, impl_mulO hq.ok fm.ok, Option.bind_some, Option.bind_some, impl_mulO oks_mulO fm.ok, Option.bind_some, impl_void, Option.bind_some]
  rw [show ((1000000 : Int) : Rat) = (((1000000 : Nat) : Int) : Rat) from rfl, two, show ((((1000000 * 1000000 : Nat)) : Int) : Rat) = ((1000000000000 : Int) : Rat) from rfl]
  unfold rbO
  have ok := oks_mulO (o := some q) (p := some ((1000000000000 : Int) : Rat))
  generalize mulO (some q) (some ((1000000000000 : Int) : Rat)) = o at *
  cases o with
  | none => rfl
  | some x =>
    have fx := ok x rfl
    simp only [Option.isNone_some, cond_false, Option.bind_some]
    show ((M_impl_natDiv (dg x.num.natAbs) (dg x.den)).bind _) = _
    have hl := Nat.le_trans (len_dg_mono (Nat.div_le_self x.num.natAbs x.den)) fx.1
    have hrl := root_len (a := x.num.natAbs / x.den)
    have hs : (dg 1000000).length ≤ 3 := len_small (by omega)
    rw [impl_div (by have := fx.1; omega) (by have := fx.2; omega) (Nat.pos_of_ne_zero x.den_nz), Option.bind_some]
    simp only []
    rw [impl_root (by omega), Option.bind_some, impl_signed, Option.bind_some, impl_natOf (by omega), Option.bind_some, show (1000000 : Int).toNat = 1000000 from rfl, impl_lowest (by omega) (by rw [sg_abs]; omega) (by omega), Option.bind_some]
    rfl
theorem rb_both {r : Rt} (hr : r.fit) : ∃ o, Oks o ∧ M_spec_RootBelow r = some (ro o) ∧ M_impl_RootBelow r = some (ro o) := by
  by_cases hg : Good r
  · obtain ⟨q, hf, rfl⟩ := hg
    by_cases h0 : q.num < 0
    · refine ⟨none, oks_none, ?_, ?_⟩
      · unfold M_spec_RootBelow
        rw [spec_ratOk hr, good_rq hf, show (rq q).neg = true from decide_eq_true h0]; rfl
      · unfold M_impl_RootBelow
        rw [impl_ratOk hr, good_rq hf, impl_signq, decide_eq_true h0]; rfl
    · exact ⟨_, oks_bind fun _ => oks_chk _, spec_rb hf h0, impl_rb hf h0⟩
  · refine ⟨none, oks_none, ?_, ?_⟩
    · unfold M_spec_RootBelow
      rw [spec_ratOk hr, pB_not.2 hg]; rfl
    · unfold M_impl_RootBelow
      rw [impl_ratOk hr, pB_not.2 hg]; rfl

/-! ### Readings -/
theorem cr_both {a b c : Rt} (ha : a.fit) (hb : b.fit) (hc : c.fit) : ∃ o, Oks o ∧ M_spec_CorrectReading a b c = some (ro o) ∧ M_impl_CorrectReading a b c = some (ro o) := by
  by_cases ga : Good a
  · by_cases gb : Good b
    · by_cases gc : Good c
      · obtain ⟨p, fp, rfl⟩ := ga
        obtain ⟨q, fq, rfl⟩ := gb
        obtain ⟨r, fr, rfl⟩ := gc
        have f1 := fit_int (n := 1) (by omega) (by omega)
        have f6 := fit_int (n := 1000000) (by omega) (by omega)
        refine ⟨addO (mulO (some p) (addO (some ((1 : Int) : Rat)) (divO (some r) (some ((1000000 : Int) : Rat))))) (some q), oks_addO, ?_, ?_⟩
        · unfold M_spec_CorrectReading
          rw [spec_ratOk ha, spec_ratOk hb, spec_ratOk hc, good_rq fp, good_rq fq, good_rq fr]
          simp only [Option.bind_some, Bool.not_true, cond_false]
          rw [spec_ratInt (by omega) (by omega), Option.bind_some, spec_ratInt (by omega) (by omega), Option.bind_some]
          show ((M_spec_l05Div (ro (some r)) _).bind fun r5 => (M_spec_l04Add _ r5).bind fun r6 => (M_spec_l04Mul (ro (some p)) r6).bind fun r7 => (M_spec_l04Add r7 (ro (some q))).bind _) = _
          rw [spec_divO fr.ok f6.ok, Option.bind_some, spec_addO f1.ok oks_divO, Option.bind_some, spec_mulO fp.ok oks_addO, Option.bind_some, spec_addO oks_mulO fq.ok, Option.bind_some]
        · unfold M_impl_CorrectReading M_impl_both
          rw [impl_ratOk ha, impl_ratOk hb, impl_ratOk hc, good_rq fp, good_rq fq, good_rq fr]
          simp only [Option.bind_some, Bool.not_true, cond_false, cond_true]
          rw [impl_whole (by omega) (by omega), Option.bind_some, impl_whole (by omega) (by omega), Option.bind_some]
          show ((M_impl_div (ro (some r)) _).bind fun r5 => (M_impl_add _ r5).bind fun r6 => (M_impl_mul (ro (some p)) r6).bind fun r7 => (M_impl_add r7 (ro (some q))).bind _) = _
          rw [impl_divO fr.ok f6.ok, Option.bind_some, impl_addO f1.ok oks_divO, Option.bind_some, impl_mulO fp.ok oks_addO, Option.bind_some, impl_addO oks_mulO fq.ok, Option.bind_some]
      · refine ⟨none, oks_none, ?_, ?_⟩
        · unfold M_spec_CorrectReading
          rw [spec_ratOk ha, spec_ratOk hb, spec_ratOk hc, pB_iff.2 ga, pB_iff.2 gb, pB_not.2 gc]; rfl
        · unfold M_impl_CorrectReading M_impl_both
          rw [impl_ratOk ha, impl_ratOk hb, impl_ratOk hc, pB_iff.2 ga, pB_iff.2 gb, pB_not.2 gc]; rfl
    · refine ⟨none, oks_none, ?_, ?_⟩
      · unfold M_spec_CorrectReading
        rw [spec_ratOk ha, spec_ratOk hb, pB_iff.2 ga, pB_not.2 gb]; rfl
      · unfold M_impl_CorrectReading M_impl_both
        rw [impl_ratOk ha, impl_ratOk hb, pB_iff.2 ga, pB_not.2 gb]; rfl
  · refine ⟨none, oks_none, ?_, ?_⟩
    · unfold M_spec_CorrectReading
      rw [spec_ratOk ha, pB_not.2 ga]; rfl
    · unfold M_impl_CorrectReading M_impl_both
      rw [impl_ratOk ha, pB_not.2 ga]; rfl
end Go.Di
/-
  Own work. Plain laws: the unknowns of a network.
-/
namespace Go.Di

def staU (plane : Bool) (e : Sta) : Nat := cond e.fixed 0 (cond plane 2 1)
/-- The unknowns of the first i stations. -/
def cntU (plane : Bool) (l : List Sta) : Nat → Nat
  | 0 => 0
  | i + 1 => cntU plane l i + (match l[i]? with
    | some e => staU plane e
    | none => 0)
theorem cntU_succ {plane : Bool} {l : List Sta} {i : Nat} (h : i < l.length) : cntU plane l (i + 1) = cntU plane l i + staU plane l[i] := by
  show cntU plane l i + _ = _
  rw [List.getElem?_eq_getElem h]
theorem cntU_le (plane : Bool) (l : List Sta) : ∀ i, cntU plane l i ≤ 2 * i
  | 0 => Nat.le_refl _
  | i + 1 => by
    have := cntU_le plane l i
    show cntU plane l i + _ ≤ _
    cases l[i]? with
    | none => simp only; omega
    | some e =>
      have h2 : staU plane e ≤ 2 := by unfold staU; cases e.fixed <;> cases plane <;> simp
      simp only; omega
theorem cntU_take (plane : Bool) (l : List Sta) (n : Nat) : ∀ i, i ≤ n → cntU plane (l.take n) i = cntU plane l i
  | 0, _ => rfl
  | i + 1, h => by
    show cntU plane (l.take n) i + _ = cntU plane l i + _
    rw [cntU_take plane l n i (by omega), List.getElem?_take_of_lt (by omega)]

theorem wrap_small {n : Int} (h : 0 ≤ n) (h2 : n ≤ 4611686018427387904) : IntKind.i64.wrap n = n := wrap_i64 (by omega) (by omega)
theorem impl_axes (p : Bool) : M_impl_axes p = some (cond p 2 1) := by unfold M_impl_axes; cases p <;> rfl
theorem spec_axes (n : Net) : M_spec_l10Axes n = some (cond n.plane 2 1) := by unfold M_spec_l10Axes; cases n.plane <;> rfl

theorem cnt_step {plane : Bool} {l : List Sta} {i : Nat} (h : i < l.length) (hl : l.length ≤ 1048576) : (cond (!l[i].fixed) (some (IntKind.i64.wrap ((cntU plane l i : Int) + cond plane 2 1))) (some (cntU plane l i : Int)) : Option Int) = some ((cntU plane l (i + 1) : Nat) : Int) := by
  have := cntU_le plane l i
  rw [cntU_succ h]
  unfold staU
  cases l[i].fixed with
  | true => simp
  | false =>
    cases plane <;> simp only [Bool.not_false, cond_true, cond_false] <;> rw [wrap_small (by omega) (by omega)] <;> congr 1

theorem spec_count10 {n : Net} (h : n.stations.length ≤ 1048576) : M_spec_l10Count n = some ((cntU n.plane n.stations n.stations.length : Nat) : Int) := by
  unfold M_spec_l10Count L_spec_l10Count_0
  have key := whileO_upto S_spec_l10Count_0 (fun i => (((cntU n.plane n.stations i : Nat) : Int), n.stations, (n.stations.length : Int), (i : Int), n.plane, n.stations, ())) n.stations.length (((cntU n.plane n.stations n.stations.length : Nat) : Int), ()) (fun i hi => by
    have hs := cnt_step (plane := n.plane) hi h
    simp only [S_spec_l10Count_0, dlt hi, cond_true, idx_at hi, Option.bind_some, spec_axes, succ_wrap hi h]
    cases hf : n.stations[i].fixed with
    | true => rw [hf] at hs; simp only [Bool.not_true, cond_false, Option.some.injEq] at hs ⊢; rw [hs]
    | false => rw [hf] at hs; simp only [Bool.not_false, cond_true, Option.some.injEq] at hs ⊢; rw [hs]) (by simp [S_spec_l10Count_0])
  exact congrArg (fun x => x.bind fun (k, _) => some k) key
theorem impl_count10 {n : Net} (h : n.stations.length ≤ 1048576) : M_impl_unknowns n = some ((cntU n.plane n.stations n.stations.length : Nat) : Int) := by
  unfold M_impl_unknowns L_impl_unknowns_0
  have key := whileO_upto S_impl_unknowns_0 (fun i => (((cntU n.plane n.stations i : Nat) : Int), n.stations, (n.stations.length : Int), (i : Int), n.plane, n.stations, ())) n.stations.length (((cntU n.plane n.stations n.stations.length : Nat) : Int), ()) (fun i hi => by
    have hs := cnt_step (plane := n.plane) hi h
    simp only [S_impl_unknowns_0, dlt hi, cond_true, idx_at hi, Option.bind_some, impl_axes, succ_wrap hi h]
    cases hf : n.stations[i].fixed with
    | true => rw [hf] at hs; simp only [Bool.not_true, cond_false, Option.some.injEq] at hs ⊢; rw [hs]
    | false => rw [hf] at hs; simp only [Bool.not_false, cond_true, Option.some.injEq] at hs ⊢; rw [hs]) (by simp [S_impl_unknowns_0])
  exact congrArg (fun x => x.bind fun (k, _) => some k) key

/-- The first unknown of station i. -/
def firstU (plane : Bool) (l : List Sta) (i : Nat) : Int := match l[i]? with
  | some e => cond e.fixed (-1) (cntU plane l i : Int)
  | none => -1
theorem firstU_at {plane : Bool} {l : List Sta} {i : Nat} (h : i < l.length) : firstU plane l i = cond l[i].fixed (-1) (cntU plane l i : Int) := by
  unfold firstU; rw [List.getElem?_eq_getElem h]
theorem firstU_le {plane : Bool} {l : List Sta} {i : Nat} (h : i < l.length) : firstU plane l i ≤ 2 * i := by
  rw [firstU_at h]
  have := cntU_le plane l i
  cases l[i].fixed <;> simp only [cond_true, cond_false] <;> omega
theorem firstU_ge {plane : Bool} {l : List Sta} {i : Nat} (h : i < l.length) : -1 ≤ firstU plane l i := by
  rw [firstU_at h]
  cases l[i].fixed <;> simp only [cond_true, cond_false] <;> omega

theorem impl_first {n : Net} {i : Nat} (h : n.stations.length ≤ 1048576) (hi : i < n.stations.length) : M_impl_unknownOf n (i : Int) = some (firstU n.plane n.stations i) := by
  unfold M_impl_unknownOf
  rw [idx_at hi, Option.bind_some, firstU_at hi]
  cases n.stations[i].fixed with
  | true => rfl
  | false =>
    have hc : cut n.stations 0 i = n.stations.take i := by simp [cut]
    rw [cond_false, cond_false, inside_cut _ _ (by omega), Option.bind_some, Int.toNat_natCast, hc, impl_count10 (by simp; omega), Option.bind_some]
    simp only []
    rw [List.length_take, Nat.min_eq_left (by omega), cntU_take _ _ _ _ (Nat.le_refl _)]
theorem spec_first10 {n : Net} {i : Nat} (h : n.stations.length ≤ 1048576) (hi : i < n.stations.length) : M_spec_l10First n (i : Int) = some (firstU n.plane n.stations i) := by
  unfold M_spec_l10First L_spec_l10First_0
  have key := whileO_upto S_spec_l10First_0 (fun j => ((i : Int), ((cntU n.plane n.stations j : Nat) : Int), n.stations, (n.stations.length : Int), (j : Int), n.plane, n.stations, ())) i (.inl (firstU n.plane n.stations i, ())) (fun j hj => by
    have hjl : j < n.stations.length := by omega
    have hs := cnt_step (plane := n.plane) hjl h
    have hne : ((j : Int) == (i : Int)) = false := by rw [beq_eq_false_iff_ne]; omega
    simp only [S_spec_l10First_0, dlt hjl, cond_true, idx_at hjl, Option.bind_some, spec_axes, succ_wrap hjl h, hne, cond_false]
    cases hf : n.stations[j].fixed with
    | true => rw [hf] at hs; simp only [Bool.not_true, cond_false, Option.some.injEq] at hs ⊢; rw [hs]
    | false => rw [hf] at hs; simp only [Bool.not_false, cond_true, Option.some.injEq] at hs ⊢; rw [hs]) (by
    have he : ((i : Int) == (i : Int)) = true := by simp
    simp only [S_spec_l10First_0, dlt hi, cond_true, idx_at hi, Option.bind_some, he, firstU_at hi]
    cases n.stations[i].fixed <;> rfl)
  have := congrArg (fun x : Option ((Int × Unit) ⊕ Unit) => x.bind fun r => match r with
    | .inl (t, _) => some t
    | .inr _ => some (-1)) key
  exact this

theorem spec_countU {n : Net} (h : lfit Sta.fitN n.stations) : M_spec_CountUnknowns n = some (cond (netB n) ((cntU n.plane n.stations n.stations.length : Nat) : Int) 0) := by
  unfold M_spec_CountUnknowns
  rw [spec_netOk h, Option.bind_some]
  cases netB n with
  | false => rfl
  | true => simp only [Bool.not_true, cond_false, cond_true]; rw [spec_count10 h.1]; rfl
theorem impl_countU {n : Net} (h : lfit Sta.fitN n.stations) : M_impl_CountUnknowns n = some (cond (netB n) ((cntU n.plane n.stations n.stations.length : Nat) : Int) 0) := by
  unfold M_impl_CountUnknowns
  rw [impl_netOk (fitN_fit h), Option.bind_some]
  cases netB n with
  | false => rfl
  | true => simp only [Bool.not_true, cond_false, cond_true]; rw [impl_count10 h.1]; rfl

noncomputable def unkOf (n : Net) (s : Int) : Int := cond (netB n && (decide (0 ≤ s) && decide (s < n.stations.length))) (firstU n.plane n.stations s.toNat) (-1)
theorem spec_unkOf {n : Net} (h : lfit Sta.fitN n.stations) (s : Int) : M_spec_UnknownOf n s = some (unkOf n s) := by
  unfold M_spec_UnknownOf unkOf
  rw [spec_netOk h, Option.bind_some, spec_in]
  cases netB n with
  | false => rfl
  | true =>
    have hl := h.1
    have e : inB s 0 (IntKind.i64.wrap ((n.stations.length : Int) - 1)) = (decide (0 ≤ s) && decide (s < n.stations.length)) := by
      rw [wrap_i64 (by omega) (by omega)]
      unfold inB
      rw [Bool.eq_iff_iff]; simp; omega
    simp only [Bool.not_true, cond_false, Option.bind_some, e, Bool.true_and]
    cases hb : (decide (0 ≤ s) && decide (s < n.stations.length)) with
    | false => rfl
    | true =>
      simp only [Bool.and_eq_true, decide_eq_true_eq] at hb
      obtain ⟨m, rfl⟩ : ∃ m : Nat, s = (m : Int) := ⟨s.toNat, by omega⟩
      simp only [Bool.not_true, cond_false, cond_true]
      rw [spec_first10 hl (by omega), Option.bind_some, Int.toNat_natCast]
theorem impl_unkOf {n : Net} (h : lfit Sta.fitN n.stations) (s : Int) : M_impl_UnknownOf n s = some (unkOf n s) := by
  unfold M_impl_UnknownOf unkOf
  rw [impl_netOk (fitN_fit h), Option.bind_some]
  cases netB n with
  | false => rfl
  | true =>
    have hl := h.1
    simp only [Bool.not_true, cond_false, Bool.true_and]
    by_cases h1 : 0 ≤ s
    · rw [decide_eq_false (show ¬ s < 0 by omega), decide_eq_true h1, cond_false]
      by_cases h2 : s < n.stations.length
      · rw [decide_eq_false (show ¬ s ≥ n.stations.length by omega), decide_eq_true h2]
        obtain ⟨m, rfl⟩ : ∃ m : Nat, s = (m : Int) := ⟨s.toNat, by omega⟩
        simp only [cond_false, cond_true, Bool.true_and]
        rw [impl_first hl (by omega), Option.bind_some, Int.toNat_natCast]
      · rw [decide_eq_true (show s ≥ n.stations.length by omega), decide_eq_false h2]; rfl
    · rw [decide_eq_true (show s < 0 by omega), decide_eq_false h1]; rfl

/-- The name of unknown k, if it is one of station i. -/
def unkName (n : Net) (k : Int) (i : Nat) : Option ByteArray := match n.stations[i]? with
  | some e => cond (decide (firstU n.plane n.stations i ≥ 0)) (cond (firstU n.plane n.stations i == k) (some (e.name ++ (⟨#[46, 120]⟩ : ByteArray))) (cond n.plane (cond (firstU n.plane n.stations i + 1 == k) (some (e.name ++ (⟨#[46, 121]⟩ : ByteArray))) none) none)) none
  | none => none
def nameU (n : Net) (k : Int) : ByteArray := ((List.range n.stations.length).findSome? (unkName n k)).getD ⟨#[]⟩
theorem room_str {s : ByteArray} (h : s.size ≤ 1048576) (a b : UInt8) : guardO (Nat.ble (s.size + ((⟨#[a, b]⟩ : ByteArray).size)) 4611686018427387904) = some () := by
  have h2 : ((⟨#[a, b]⟩ : ByteArray).size) = 2 := rfl
  have : Nat.ble (s.size + ((⟨#[a, b]⟩ : ByteArray).size)) 4611686018427387904 = true := by rw [Nat.ble_eq, h2]; omega
  rw [this]; rfl
theorem name_end {l : List Nat} {f : Nat → Option ByteArray} : (match (l.findSome? fun i => (f i).map (Sum.inl (β := Unit) ∘ fun b => (b, ()))).getD (.inr ()) with
    | .inl (t, _) => some t
    | .inr _ => some (⟨#[]⟩ : ByteArray)) = some ((l.findSome? f).getD ⟨#[]⟩) := by
  induction l with
  | nil => rfl
  | cons i l ih =>
    simp only [List.findSome?_cons]
    cases f i with
    | none => exact ih
    | some b => rfl
theorem spec_nameLoop {n : Net} (h : lfit Sta.fitN n.stations) (k : Int) : ((L_spec_NameOfUnknown_0 k n.stations (n.stations.length : Int) 0 n.plane n.stations).bind fun r1 =>
    match r1 with
    | .inl (t, _) => some t
    | .inr _ => some (⟨#[]⟩ : ByteArray)) = some (nameU n k) := by
  unfold L_spec_NameOfUnknown_0
  have key := find_loop (S := S_spec_NameOfUnknown_0) (fun i => (k, n.stations, (n.stations.length : Int), (i : Int), n.plane, n.stations, ())) n.stations.length (fun i => (unkName n k i).map (Sum.inl (β := Unit) ∘ fun b => (b, ()))) (.inr ()) (fun i hi => by
    have hf := spec_first10 (n := ⟨n.plane, n.stations⟩) h.1 hi
    have hle := firstU_le (plane := n.plane) hi
    have hge := firstU_ge (plane := n.plane) hi
    have hl := h.1
    have hn := (h.2 _ (List.getElem_mem hi)).2
    have hw : IntKind.i64.wrap (firstU n.plane n.stations i + 1) = firstU n.plane n.stations i + 1 := wrap_i64 (by omega) (by omega)
    simp only [S_spec_NameOfUnknown_0, dlt hi, cond_true, idx_at hi, Option.bind_some, hf, succ_wrap hi h.1, hw, room_str hn, unkName, List.getElem?_eq_getElem hi]
    cases hg : decide (firstU n.plane n.stations i ≥ 0) <;> cases hk : firstU n.plane n.stations i == k <;> cases hp : n.plane <;> rw [hp] at hg hk <;> simp only [cond_true, cond_false] <;> first
      | rfl
      | (cases hk1 : (firstU true n.stations i + 1 == k) <;> simp only [cond_true, cond_false] <;> rfl)) (by simp [S_spec_NameOfUnknown_0])
  rw [show ((0 : Int)) = ((0 : Nat) : Int) from rfl, key, Option.bind_some]
  exact name_end
theorem impl_nameLoop {n : Net} (h : lfit Sta.fitN n.stations) (k : Int) : ((L_impl_NameOfUnknown_0 k n.stations (n.stations.length : Int) 0 n.plane n.stations).bind fun r1 =>
    match r1 with
    | .inl (t, _) => some t
    | .inr _ => some (⟨#[]⟩ : ByteArray)) = some (nameU n k) := by
  unfold L_impl_NameOfUnknown_0
  have key := find_loop (S := S_impl_NameOfUnknown_0) (fun i => (k, n.stations, (n.stations.length : Int), (i : Int), n.plane, n.stations, ())) n.stations.length (fun i => (unkName n k i).map (Sum.inl (β := Unit) ∘ fun b => (b, ()))) (.inr ()) (fun i hi => by
    have hf := impl_first (n := ⟨n.plane, n.stations⟩) h.1 hi
    have hle := firstU_le (plane := n.plane) hi
    have hge := firstU_ge (plane := n.plane) hi
    have hl := h.1
    have hn := (h.2 _ (List.getElem_mem hi)).2
    have hw : IntKind.i64.wrap (firstU n.plane n.stations i + 1) = firstU n.plane n.stations i + 1 := wrap_i64 (by omega) (by omega)
    simp only [S_impl_NameOfUnknown_0, dlt hi, cond_true, idx_at hi, Option.bind_some, hf, succ_wrap hi h.1, hw, room_str hn, unkName, List.getElem?_eq_getElem hi]
    cases hg : decide (firstU n.plane n.stations i ≥ 0) <;> cases hk : firstU n.plane n.stations i == k <;> cases hp : n.plane <;> rw [hp] at hg hk <;> simp only [cond_true, cond_false] <;> first
      | rfl
      | (cases hk1 : (firstU true n.stations i + 1 == k) <;> simp only [cond_true, cond_false] <;> rfl)) (by simp [S_impl_NameOfUnknown_0])
  rw [show ((0 : Int)) = ((0 : Nat) : Int) from rfl, key, Option.bind_some]
  exact name_end
theorem nameU_neg {n : Net} {k : Int} (hk : k < 0) : nameU n k = ⟨#[]⟩ := by
  unfold nameU
  have : (List.range n.stations.length).findSome? (unkName n k) = none := by
    rw [List.findSome?_eq_none_iff]
    intro i hi
    have hi := List.mem_range.1 hi
    unfold unkName
    rw [List.getElem?_eq_getElem hi]
    cases hg : decide (firstU n.plane n.stations i ≥ 0) with
    | false => simp only [cond_false]
    | true =>
      have hg' := of_decide_eq_true hg
      have e1 : (firstU n.plane n.stations i == k) = false := by rw [beq_eq_false_iff_ne]; omega
      have e2 : (firstU n.plane n.stations i + 1 == k) = false := by rw [beq_eq_false_iff_ne]; omega
      simp only [e1, e2, cond_true, cond_false]
      cases n.plane <;> rfl
  rw [this]; rfl
theorem spec_nameU {n : Net} (h : lfit Sta.fitN n.stations) (k : Int) : M_spec_NameOfUnknown n k = some (cond (netB n) (nameU n k) ⟨#[]⟩) := by
  unfold M_spec_NameOfUnknown
  rw [spec_netOk h, Option.bind_some]
  cases netB n with
  | false => rfl
  | true => simp only [Bool.not_true, cond_false, cond_true]; exact spec_nameLoop h k
theorem impl_nameU {n : Net} (h : lfit Sta.fitN n.stations) (k : Int) : M_impl_NameOfUnknown n k = some (cond (netB n) (nameU n k) ⟨#[]⟩) := by
  unfold M_impl_NameOfUnknown
  rw [impl_netOk (fitN_fit h), Option.bind_some]
  cases netB n with
  | false => rfl
  | true =>
    simp only [Bool.not_true, cond_false, cond_true]
    by_cases hk : k < 0
    · rw [decide_eq_true hk, cond_true, nameU_neg hk]
    · rw [decide_eq_false hk, cond_false]; exact impl_nameLoop h k
end Go.Di
/-
  Own work. Plain laws: observations that are valid.
-/
namespace Go.Di

/-- The sign of a valid fraction, in the reference. -/
theorem spec_signq {q : Rat} (h : Fit q) : M_spec_RatSign (rq q) = some (cond (decide (q.num < 0)) (-1) (cond (decide (q.num ≠ 0)) 1 0)) := by
  unfold M_spec_RatSign
  have hf : (rq q).fit := ro_fit h.ok
  rw [spec_ratOk hf, good_rq h, Option.bind_some]
  show cond (!true) _ (cond (((dg q.num.natAbs).length : Int) == 0) _ (cond (decide (q.num < 0)) _ _)) = _
  rw [dg_len0]
  by_cases h0 : q.num = 0
  · rw [decide_eq_true (show q.num.natAbs = 0 by omega), decide_eq_false (show ¬ q.num < 0 by omega), decide_eq_false (show ¬ q.num ≠ 0 by omega)]; rfl
  · rw [decide_eq_false (show ¬ q.num.natAbs = 0 by omega), decide_eq_true h0]
    cases decide (q.num < 0) <;> rfl
/-- A valid fraction over 0. -/
noncomputable def posB (r : Rt) : Bool := pB (∃ q : Rat, Fit q ∧ r = rq q ∧ 0 < q.num)
theorem posB_rq {q : Rat} (h : Fit q) : posB (rq q) = decide (0 < q.num) := by
  unfold posB
  rw [← pB_dec]
  refine pB_congr ⟨?_, fun h0 => ⟨q, h, rfl, h0⟩⟩
  rintro ⟨p, _, h1, h2⟩
  rw [rq_inj h1]; exact h2
theorem posB_good {r : Rt} (h : ¬ Good r) : posB r = false := by
  unfold posB
  rw [pB_not]
  rintro ⟨q, h1, h2, _⟩
  exact h ⟨q, h1, h2⟩
theorem spec_pos {r : Rt} (hf : r.fit) : ∃ s : Int, M_spec_RatSign r = some s ∧ decide (s > 0) = posB r := by
  by_cases hg : Good r
  · obtain ⟨q, h1, rfl⟩ := hg
    rw [spec_signq h1, posB_rq h1]
    refine ⟨_, rfl, ?_⟩
    by_cases h2 : q.num < 0
    · rw [decide_eq_true h2, decide_eq_false (show ¬ 0 < q.num by omega)]; rfl
    · rw [decide_eq_false h2]
      by_cases h3 : q.num = 0
      · rw [decide_eq_false (show ¬ q.num ≠ 0 by omega), decide_eq_false (show ¬ 0 < q.num by omega)]; rfl
      · rw [decide_eq_true h3, decide_eq_true (show 0 < q.num by omega)]; rfl
  · unfold M_spec_RatSign
    rw [spec_ratOk hf, pB_not.2 hg, posB_good hg]; exact ⟨0, rfl, rfl⟩
theorem impl_posq {q : Rat} (h1 : Fit q) : ∃ s : Int, M_impl_sign (rq q) = some s ∧ decide (s > 0) = posB (rq q) ∧ decide (s ≤ 0) = !posB (rq q) := by
  rw [impl_signq, posB_rq h1]
  refine ⟨_, rfl, ?_⟩
  by_cases h2 : q.num < 0
  · rw [decide_eq_true h2, decide_eq_false (show ¬ 0 < q.num by omega)]; exact ⟨rfl, rfl⟩
  · rw [decide_eq_false h2]
    by_cases h3 : q.num = 0
    · rw [decide_eq_false (show ¬ q.num ≠ 0 by omega), decide_eq_false (show ¬ 0 < q.num by omega)]; exact ⟨rfl, rfl⟩
    · rw [decide_eq_true h3, decide_eq_true (show 0 < q.num by omega)]; exact ⟨rfl, rfl⟩

/-- The end of both checks: the value, the sign of a distance, the variance. -/
noncomputable def endB (o : Obs) : Bool := pB (Good o.value) && ((!(o.kind == 7) || posB o.value) && posB o.variance)
theorem spec_end {o : Obs} (h : o.fit) : ((M_spec_RatOk o.value).bind fun r5 =>
      cond r5
        (cond (o.kind != 7)
          ((M_spec_RatSign o.variance).bind fun r6 =>
          some (decide (r6 > 0)))
          ((M_spec_RatSign o.value).bind fun r6 =>
          cond (decide (r6 > 0))
            ((M_spec_RatSign o.variance).bind fun r7 =>
            some (decide (r7 > 0)))
            (some false)))
        (some false)) = some (endB o) := by
  obtain ⟨s, h1, h2⟩ := spec_pos h.1
  obtain ⟨t, h3, h4⟩ := spec_pos h.2
  unfold endB
  rw [spec_ratOk h.1, h1, h3]
  simp only [Option.bind_some, h2, h4]
  rw [show (o.kind != 7) = !(o.kind == 7) from rfl]
  cases pB (Good o.value) <;> cases (o.kind == 7) <;> cases posB o.value <;> cases posB o.variance <;> rfl
theorem impl_end {o : Obs} (h : o.fit) : ((M_impl_RatOk o.value).bind fun r1 =>
      cond (!r1)
        (some false)
        (cond (o.kind == 7)
          ((M_impl_sign o.value).bind fun r2 =>
          cond (decide (r2 ≤ 0))
            (some false)
            ((M_impl_RatOk o.variance).bind fun r3 =>
            cond r3
              ((M_impl_sign o.variance).bind fun r4 =>
              some (decide (r4 > 0)))
              (some false)))
          ((M_impl_RatOk o.variance).bind fun r2 =>
          cond r2
            ((M_impl_sign o.variance).bind fun r3 =>
            some (decide (r3 > 0)))
            (some false)))) = some (endB o) := by
  have hv : ((M_impl_RatOk o.variance).bind fun r3 => cond r3 ((M_impl_sign o.variance).bind fun r4 => some (decide (r4 > 0))) (some false)) = some (posB o.variance) := by
    rw [impl_ratOk h.2, Option.bind_some]
    by_cases hg : Good o.variance
    · rw [pB_iff.2 hg, cond_true]
      obtain ⟨q, h1, h2⟩ := hg
      rw [h2]
      obtain ⟨s, k1, k2, _⟩ := impl_posq h1
      rw [k1, Option.bind_some, k2]
    · rw [pB_not.2 hg, posB_good hg]; rfl
  unfold endB
  rw [hv, impl_ratOk h.1, Option.bind_some]
  by_cases hg : Good o.value
  · rw [pB_iff.2 hg]
    simp only [Bool.not_true, cond_false, Bool.true_and]
    obtain ⟨q, h1, h2⟩ := hg
    rw [h2]
    obtain ⟨s, k1, _, k3⟩ := impl_posq h1
    rw [k1, Option.bind_some, k3]
    cases (o.kind == 7) <;> cases posB (rq q) <;> cases posB o.variance <;> rfl
  · rw [pB_not.2 hg]; rfl

def betB (k : Int) : Bool := k == 2 || (decide (k ≥ 5) && decide (k ≤ 8))
theorem spec_bet (k : Int) : M_spec_IsBetween k = some (betB k) := by
  unfold M_spec_IsBetween M_spec_l01In betB
  cases (k == 2) <;> cases decide (k ≥ 5) <;> rfl
theorem impl_bet (k : Int) : M_impl_IsBetween k = some (betB k) := by
  unfold M_impl_IsBetween betB
  cases (k == 2) <;> cases decide (k ≥ 5) <;> rfl
def fitsB (k : Int) (plane : Bool) : Bool := cond plane (inB k 3 8) (inB k 1 2)
theorem spec_fits (k : Int) (plane : Bool) : M_spec_l11Fits k plane = some (fitsB k plane) := by
  unfold M_spec_l11Fits fitsB
  rw [spec_in, spec_in]
  cases plane <;> rfl
noncomputable def obsB (n : Net) (o : Obs) : Bool :=
  fitsB o.kind n.plane && ((decide (0 ≤ o.frm) && decide (o.frm < n.stations.length)) && (cond (betB o.kind) ((decide (0 ≤ o.to) && decide (o.to < n.stations.length)) && !(o.to == o.frm)) (o.to == 0) && endB o))
theorem inB_len {x : Int} {n : Nat} (h : n ≤ 1048576) : inB x 0 (IntKind.i64.wrap ((n : Int) - 1)) = (decide (0 ≤ x) && decide (x < n)) := by
  rw [wrap_i64 (by omega) (by omega)]
  unfold inB
  rw [Bool.eq_iff_iff]; simp; omega
theorem spec_obsOk {n : Net} {o : Obs} (hn : n.stations.length ≤ 1048576) (h : o.fit) : M_spec_l11Ok n o = some (obsB n o) := by
  have he := spec_end h
  unfold M_spec_l11Ok obsB
  simp only [spec_fits, spec_in, spec_bet, Option.bind_some, inB_len hn, he]
  rw [show (o.to != 0) = !(o.to == 0) from rfl]
  cases fitsB o.kind n.plane <;> cases (decide (0 ≤ o.frm) && decide (o.frm < n.stations.length)) <;> cases betB o.kind <;> cases (decide (0 ≤ o.to) && decide (o.to < n.stations.length)) <;> cases (o.to == o.frm) <;> cases (o.to == 0) <;> cases endB o <;> rfl
theorem impl_obsFits {n : Net} {o : Obs} (h : o.fit) : M_impl_observationFits n o = some (obsB n o) := by
  have he := impl_end h
  unfold M_impl_observationFits obsB
  simp only [impl_bet, Option.bind_some, he]
  rw [show (o.to != 0) = !(o.to == 0) from rfl]
  have hk : fitsB o.kind n.plane = (decide (o.kind ≥ 1) && (decide (o.kind ≤ 8) && !(n.plane == decide (o.kind ≤ 2)))) := by
    unfold fitsB inB
    cases n.plane with
    | true => rw [Bool.eq_iff_iff]; simp; omega
    | false => rw [Bool.eq_iff_iff]; simp; omega
  rw [hk, lt_not o.kind 1, gt_not o.kind 8, ge_le o.kind 1, lt_not o.frm 0, lt_not o.to 0]
  have g1 : decide (o.frm ≥ (n.stations.length : Int)) = !decide (o.frm < (n.stations.length : Int)) := by rw [Bool.eq_iff_iff]; simp
  have g2 : decide (o.to ≥ (n.stations.length : Int)) = !decide (o.to < (n.stations.length : Int)) := by rw [Bool.eq_iff_iff]; simp
  rw [g1, g2]
  cases decide (1 ≤ o.kind) <;> cases decide (o.kind ≤ 8) <;> cases (n.plane == decide (o.kind ≤ 2)) <;> cases decide (0 ≤ o.frm) <;> cases decide (o.frm < (n.stations.length : Int)) <;> cases betB o.kind <;> cases decide (0 ≤ o.to) <;> cases decide (o.to < (n.stations.length : Int)) <;> cases (o.to == o.frm) <;> cases (o.to == 0) <;> cases endB o <;> rfl
theorem spec_obsOk' {n : Net} {o : Obs} (hn : lfit Sta.fitN n.stations) (h : o.fit) : M_spec_ObservationOk n o = some (netB n && obsB n o) := by
  unfold M_spec_ObservationOk
  exact bind_and (spec_netOk hn) (by rw [spec_obsOk hn.1 h]; rfl)
theorem impl_obsOk' {n : Net} {o : Obs} (hn : lfit Sta.fitN n.stations) (h : o.fit) : M_impl_ObservationOk n o = some (netB n && obsB n o) := by
  unfold M_impl_ObservationOk
  exact bind_and (impl_netOk (fitN_fit hn)) (by rw [impl_obsFits h]; rfl)
end Go.Di
/-
  Own work. Plain laws: directions, lengths along and across them, half tangents; observations that are valid, all of a list.
-/
namespace Go.Di

theorem spec_negO {o : Option Rat} (ho : Oks o) : M_spec_l04Neg (ro o) = some (ro (negO o)) := by
  unfold M_spec_l04Neg
  cases o with
  | none =>
    have h0 : M_spec_l03Make (!(ro none).neg) (ro none).mag = some (bg 0) := by
      rw [ro_none_dg]
      show M_spec_l03Make true (dg 0) = _
      rw [spec_make true (by rw [dg_zero]; simp), sg_zero]
    rw [h0, Option.bind_some, room (by simp [ro]), Option.bind_some, bg_zero]; rfl
  | some q =>
    have fq := ho q rfl
    show ((M_spec_l03Make (!decide (q.num < 0)) (dg q.num.natAbs)).bind fun r1 => (guardO (Nat.ble (dg q.den).length maxNew)).bind fun _ => some (⟨r1.neg, r1.mag, dg q.den⟩ : Rt)) = _
    rw [spec_make _ (by have := fq.1; omega), Option.bind_some, room (by have := fq.2; omega), Option.bind_some]
    have e : sg (!decide (q.num < 0)) q.num.natAbs = -q.num := by
      by_cases h : q.num < 0
      · rw [decide_eq_true h]; simp only [sg, Bool.not_true, cond_false]; omega
      · rw [decide_eq_false h]; simp only [sg, Bool.not_false, cond_true]; omega
    rw [e]; rfl
theorem spec_subO {o p : Option Rat} (ho : Oks o) (hp : Oks p) : M_spec_l05Sub (ro o) (ro p) = some (ro (subO o p)) := by
  unfold M_spec_l05Sub
  rw [spec_negO hp, Option.bind_some, spec_addO ho (oks_negO hp)]; rfl

theorem fit1 : Oks (some ((1 : Int) : Rat)) := (fit_int (by omega) (by omega)).ok
theorem fit2 : Oks (some ((2 : Int) : Rat)) := (fit_int (by omega) (by omega)).ok

/-- Both components, or nothing. -/
noncomputable def unC (q : Rat) : Option Rat := divO (subO (some ((1 : Int) : Rat)) (mulO (some q) (some q))) (addO (some ((1 : Int) : Rat)) (mulO (some q) (some q)))
noncomputable def unS (q : Rat) : Option Rat := divO (mulO (some ((2 : Int) : Rat)) (some q)) (addO (some ((1 : Int) : Rat)) (mulO (some q) (some q)))
theorem unit_both {r : Rt} (hr : r.fit) : ∃ c s, Oks c ∧ Oks s ∧ M_spec_UnitOf r = some (ro c, ro s) ∧ M_impl_UnitOf r = some (ro c, ro s) := by
  by_cases hg : Good r
  · obtain ⟨q, hf, rfl⟩ := hg
    have e : rq q = ro (some q) := rfl
    have hs : M_spec_UnitOf (rq q) = some (cond (unC q).isNone (ro none, ro none) (cond (unS q).isNone (ro none, ro none) (ro (unC q), ro (unS q)))) := by
      unfold M_spec_UnitOf M_spec_l09Unit
      rw [spec_ratOk hr, good_rq hf, e]
      simp only [Option.bind_some, Bool.not_true, cond_false]
      rw [spec_ratInt (by omega) (by omega), Option.bind_some, spec_mulO hf.ok hf.ok, Option.bind_some, spec_subO fit1 oks_mulO, Option.bind_some, spec_addO fit1 oks_mulO, Option.bind_some, spec_divO oks_subO oks_addO, Option.bind_some, spec_ratInt (by omega) (by omega), Option.bind_some, spec_mulO fit2 hf.ok, Option.bind_some, Option.bind_some, spec_divO oks_mulO oks_addO, Option.bind_some, spec_badO, Option.bind_some]
      show ((cond (unC q).isNone (some (ro none, ro none)) ((M_spec_l05Bad (ro (unS q))).bind fun r10 => cond r10 (some (ro none, ro none)) (some (ro (unC q), ro (unS q))))).bind fun (r0, r1) => some (r0, r1)) = _
      rw [spec_badO, Option.bind_some]
      cases (unC q).isNone <;> cases (unS q).isNone <;> rfl
    have hi : M_impl_UnitOf (rq q) = some (cond (unC q).isNone (ro none, ro none) (cond (unS q).isNone (ro none, ro none) (ro (unC q), ro (unS q)))) := by
      unfold M_impl_UnitOf
      rw [impl_ratOk hr, good_rq hf, e]
      simp only [Option.bind_some, Bool.not_true, cond_false]
      rw [impl_mulO hf.ok hf.ok, Option.bind_some, impl_whole (by omega) (by omega), Option.bind_some, impl_addO fit1 oks_mulO, Option.bind_some, Option.bind_some, impl_subO fit1 oks_mulO, Option.bind_some, impl_divO oks_subO oks_addO, Option.bind_some, impl_whole (by omega) (by omega), Option.bind_some, impl_mulO fit2 hf.ok, Option.bind_some, impl_divO oks_mulO oks_addO, Option.bind_some, impl_void, Option.bind_some]
      show (cond (unC q).isNone (some (ro none, ro none)) ((M_impl_void (ro (unS q))).bind fun r10 => cond r10 (some (ro none, ro none)) (some (ro (unC q), ro (unS q))))) = _
      rw [impl_void, Option.bind_some]
      cases (unC q).isNone <;> cases (unS q).isNone <;> rfl
    rw [hs, hi]
    cases (unC q).isNone with
    | true => exact ⟨none, none, oks_none, oks_none, rfl, rfl⟩
    | false =>
      cases (unS q).isNone with
      | true => exact ⟨none, none, oks_none, oks_none, rfl, rfl⟩
      | false => exact ⟨unC q, unS q, oks_divO, oks_divO, rfl, rfl⟩
  · refine ⟨none, none, oks_none, oks_none, ?_, ?_⟩
    · unfold M_spec_UnitOf; rw [spec_ratOk hr, pB_not.2 hg]; rfl
    · unfold M_impl_UnitOf; rw [impl_ratOk hr, pB_not.2 hg]; rfl

theorem along_both {r x y : Rt} (hr : r.fit) (hx : x.fit) (hy : y.fit) : ∃ o, Oks o ∧ M_spec_LengthAlong r x y = some (ro o) ∧ M_impl_LengthAlong r x y = some (ro o) := by
  obtain ⟨c, s, oc, os, h1, h2⟩ := unit_both hr
  unfold M_spec_LengthAlong M_impl_LengthAlong M_impl_both
  rw [h1, h2]
  simp only [Option.bind_some]
  rw [spec_ratOk hx, spec_ratOk hy, impl_ratOk hx, impl_ratOk hy]
  by_cases gx : Good x
  · by_cases gy : Good y
    · rw [pB_iff.2 gx, pB_iff.2 gy]
      obtain ⟨p, fp, rfl⟩ := gx
      obtain ⟨q, fq, rfl⟩ := gy
      refine ⟨addO (mulO c (some p)) (mulO s (some q)), oks_addO, ?_, ?_⟩
      · simp only [Option.bind_some, Bool.not_true, cond_false]
        show ((M_spec_l04Mul (ro c) (ro (some p))).bind fun r3 => (M_spec_l04Mul (ro s) (ro (some q))).bind fun r4 => (M_spec_l04Add r3 r4).bind _) = _
        rw [spec_mulO oc fp.ok, Option.bind_some, spec_mulO os fq.ok, Option.bind_some, spec_addO oks_mulO oks_mulO, Option.bind_some]
      · simp only [Option.bind_some, cond_true, Bool.not_true, cond_false]
        show ((M_impl_mul (ro c) (ro (some p))).bind fun r3 => (M_impl_mul (ro s) (ro (some q))).bind fun r4 => (M_impl_add r3 r4).bind _) = _
        rw [impl_mulO oc fp.ok, Option.bind_some, impl_mulO os fq.ok, Option.bind_some, impl_addO oks_mulO oks_mulO, Option.bind_some]
    · rw [pB_iff.2 gx, pB_not.2 gy]; exact ⟨none, oks_none, rfl, rfl⟩
  · rw [pB_not.2 gx]; exact ⟨none, oks_none, rfl, rfl⟩
theorem offset_both {r x y : Rt} (hr : r.fit) (hx : x.fit) (hy : y.fit) : ∃ o, Oks o ∧ M_spec_OffsetFrom r x y = some (ro o) ∧ M_impl_OffsetFrom r x y = some (ro o) := by
  obtain ⟨c, s, oc, os, h1, h2⟩ := unit_both hr
  unfold M_spec_OffsetFrom M_impl_OffsetFrom M_impl_both
  rw [h1, h2]
  simp only [Option.bind_some]
  rw [spec_ratOk hx, spec_ratOk hy, impl_ratOk hx, impl_ratOk hy]
  by_cases gx : Good x
  · by_cases gy : Good y
    · rw [pB_iff.2 gx, pB_iff.2 gy]
      obtain ⟨p, fp, rfl⟩ := gx
      obtain ⟨q, fq, rfl⟩ := gy
      refine ⟨subO (mulO c (some q)) (mulO s (some p)), oks_subO, ?_, ?_⟩
      · simp only [Option.bind_some, Bool.not_true, cond_false]
        show ((M_spec_l04Mul (ro c) (ro (some q))).bind fun r3 => (M_spec_l04Mul (ro s) (ro (some p))).bind fun r4 => (M_spec_l05Sub r3 r4).bind _) = _
        rw [spec_mulO oc fq.ok, Option.bind_some, spec_mulO os fp.ok, Option.bind_some, spec_subO oks_mulO oks_mulO, Option.bind_some]
      · simp only [Option.bind_some, cond_true, Bool.not_true, cond_false]
        show ((M_impl_mul (ro c) (ro (some q))).bind fun r3 => (M_impl_mul (ro s) (ro (some p))).bind fun r4 => (M_impl_sub r3 r4).bind _) = _
        rw [impl_mulO oc fq.ok, Option.bind_some, impl_mulO os fp.ok, Option.bind_some, impl_subO oks_mulO oks_mulO, Option.bind_some]
    · rw [pB_iff.2 gx, pB_not.2 gy]; exact ⟨none, oks_none, rfl, rfl⟩
  · rw [pB_not.2 gx]; exact ⟨none, oks_none, rfl, rfl⟩

/-! ### Half tangents -/
theorem rb_none : M_spec_RootBelow (ro none) = some (ro none) := by
  unfold M_spec_RootBelow; rw [spec_okO oks_none]; rfl
theorem round_none (n : Int) : M_spec_RoundTo (ro none) n = some (ro none) := by
  unfold M_spec_RoundTo; rw [spec_okO oks_none]; rfl
theorem mag_zero (q : Rat) : (((rq q).mag.length : Int) == 0) = decide (q.num = 0) := by
  show (((dg q.num.natAbs).length : Int) == 0) = _
  rw [dg_len0, Bool.eq_iff_iff]; simp
theorem sign_neg (q : Rat) : ∃ s : Int, M_impl_sign (rq q) = some s ∧ decide (s < 0) = decide (q.num < 0) := by
  rw [impl_signq]
  refine ⟨_, rfl, ?_⟩
  cases decide (q.num < 0) with
  | true => rfl
  | false => cases decide (q.num ≠ 0) <;> rfl
theorem half_both {x y : Rt} (hx : x.fit) (hy : y.fit) : ∃ o, Oks o ∧ M_spec_HalfTangent x y = some (ro o) ∧ M_impl_HalfTangent x y = some (ro o) := by
  unfold M_spec_HalfTangent M_impl_HalfTangent M_impl_both M_impl_isZero M_spec_l05Nil
  rw [spec_ratOk hx, spec_ratOk hy, impl_ratOk hx, impl_ratOk hy]
  by_cases gx : Good x
  · by_cases gy : Good y
    · rw [pB_iff.2 gx, pB_iff.2 gy]
      obtain ⟨p, fp, rfl⟩ := gx
      obtain ⟨q, fq, rfl⟩ := gy
      simp only [Option.bind_some, Bool.not_true, cond_false, cond_true]
      have ep : rq p = ro (some p) := rfl
      have eq : rq q = ro (some q) := rfl
      have om := oks_addO (o := mulO (some p) (some p)) (p := mulO (some q) (some q))
      obtain ⟨d, od, d1, d2⟩ := rb_both (ro_fit om)
      obtain ⟨sg1, s1, s2⟩ := sign_neg p
      have s3 : M_spec_l04Mul (rq p) (rq p) = some (ro (mulO (some p) (some p))) := spec_mulO fp.ok fp.ok
      have s4 : M_spec_l04Mul (rq q) (rq q) = some (ro (mulO (some q) (some q))) := spec_mulO fq.ok fq.ok
      have s5 : M_spec_l05Sub (ro d) (rq p) = some (ro (subO d (some p))) := spec_subO od fp.ok
      have s6 : M_spec_l05Div (ro (subO d (some p))) (rq q) = some (ro (divO (subO d (some p)) (some q))) := spec_divO oks_subO fq.ok
      have s7 : M_spec_l04Add (ro d) (rq p) = some (ro (addO d (some p))) := spec_addO od fp.ok
      have s8 : M_spec_l05Div (rq q) (ro (addO d (some p))) = some (ro (divO (some q) (addO d (some p)))) := spec_divO fq.ok oks_addO
      have i3 : M_impl_mul (rq p) (rq p) = some (ro (mulO (some p) (some p))) := impl_mulO fp.ok fp.ok
      have i4 : M_impl_mul (rq q) (rq q) = some (ro (mulO (some q) (some q))) := impl_mulO fq.ok fq.ok
      have i5 : M_impl_sub (ro d) (rq p) = some (ro (subO d (some p))) := impl_subO od fp.ok
      have i6 : M_impl_div (ro (subO d (some p))) (rq q) = some (ro (divO (subO d (some p)) (some q))) := impl_divO oks_subO fq.ok
      have i7 : M_impl_add (ro d) (rq p) = some (ro (addO d (some p))) := impl_addO od fp.ok
      have i8 : M_impl_div (rq q) (ro (addO d (some p))) = some (ro (divO (some q) (addO d (some p)))) := impl_divO fq.ok oks_addO
      obtain ⟨u, ou, u1, u2⟩ := round_both (ro_fit (oks_divO (o := subO d (some p)) (p := some q))) 1000000
      obtain ⟨v, ov, v1, v2⟩ := round_both (ro_fit (oks_divO (o := some q) (p := addO d (some p)))) 1000000
      have hneg : (rq p).neg = decide (p.num < 0) := rfl
      simp only [s3, s4, spec_addO oks_mulO oks_mulO, d1, spec_badO, s5, s6, s7, s8, u1, v1, i3, i4, impl_addO oks_mulO oks_mulO, d2, impl_void, i5, i6, i7, i8, u2, v2, s1, s2, Option.bind_some, mag_zero, hneg]
      -- what is left: bare conditions
      have dn : addO (mulO (some p) (some p)) (mulO (some q) (some q)) = none → ro d = ro none := by
        intro h
        rw [h, rb_none] at d1
        simpa using d1.symm
      have un : (divO (subO d (some p)) (some q)).isNone = true → ro u = ro none := by
        intro h
        rw [Option.isNone_iff_eq_none] at h
        rw [h, round_none] at u1
        simpa using u1.symm
      have vn : (divO (some q) (addO d (some p))).isNone = true → ro v = ro none := by
        intro h
        rw [Option.isNone_iff_eq_none] at h
        rw [h, round_none] at v1
        simpa using v1.symm
      have dnone : ro d = ro none → d = none := by
        intro h
        cases d with
        | none => rfl
        | some dd =>
          have := congrArg Rt.den h
          exact absurd (dg_nil.1 (show dg dd.den = [] from this)) dd.den_nz
      by_cases hd : d = none
      · subst hd
        refine ⟨none, oks_none, rfl, ?_⟩
        have hu : ro u = ro none := un (by simp [divO, subO, addO])
        have hv : ro v = ro none := vn (by simp [divO, addO])
        have e1 : (divO (subO none (some p)) (some q)).isNone = true := by simp [divO, subO, addO]
        have e2 : (divO (some q) (addO none (some p))).isNone = true := by simp [divO, addO]
        rw [e1, e2, hu, hv]
        cases decide (p.num = 0) <;> cases decide (q.num = 0) <;> cases (addO (mulO (some p) (some p)) (mulO (some q) (some q))).isNone <;> cases decide (p.num < 0) <;> rfl
      · have hdn : d.isNone = false := by
          cases d with
          | none => exact absurd rfl hd
          | some _ => rfl
        have hsum : (addO (mulO (some p) (some p)) (mulO (some q) (some q))).isNone = false := by
          cases hs : addO (mulO (some p) (some p)) (mulO (some q) (some q)) with
          | none => exact absurd (dnone (dn hs)) hd
          | some _ => rfl
        rw [hdn, hsum]
        by_cases hz : decide (p.num = 0) = true ∧ decide (q.num = 0) = true
        · rw [hz.1, hz.2]; exact ⟨none, oks_none, rfl, rfl⟩
        · refine ⟨cond (decide (p.num < 0)) u v, by cases decide (p.num < 0) <;> assumption, ?_, ?_⟩
          · revert hz
            cases decide (p.num = 0) <;> cases decide (q.num = 0) <;> intro hz <;> first | exact absurd ⟨rfl, rfl⟩ hz | (cases decide (p.num < 0) <;> rfl)
          · have h1 : (cond (divO (subO d (some p)) (some q)).isNone (some (ro none)) (some (ro u)) : Option Rt) = some (ro u) := by
              cases hh : (divO (subO d (some p)) (some q)).isNone with
              | true => rw [un hh]; rfl
              | false => rfl
            have h2 : (cond (divO (some q) (addO d (some p))).isNone (some (ro none)) (some (ro v)) : Option Rt) = some (ro v) := by
              cases hh : (divO (some q) (addO d (some p))).isNone with
              | true => rw [vn hh]; rfl
              | false => rfl
            have h1' : (cond (divO (subO d (some p)) (some q)).isNone (some (⟨false, [], []⟩ : Rt)) (some (ro u))) = some (ro u) := h1
            have h2' : (cond (divO (some q) (addO d (some p))).isNone (some (⟨false, [], []⟩ : Rt)) (some (ro v))) = some (ro v) := h2
            rw [h1', h2']
            revert hz
            cases decide (p.num = 0) <;> cases decide (q.num = 0) <;> intro hz <;> first | exact absurd ⟨rfl, rfl⟩ hz | (cases decide (p.num < 0) <;> rfl)
    · rw [pB_iff.2 gx, pB_not.2 gy]; exact ⟨none, oks_none, rfl, rfl⟩
  · rw [pB_not.2 gx]; exact ⟨none, oks_none, rfl, rfl⟩

/-! ### Lists of observations -/
noncomputable def obssB (n : Net) (l : List Obs) : Bool := netB n && (decide (l.length ≤ 20) && l.all (obsB n))
theorem le20 {n : Nat} : decide ((n : Int) > 20) = !decide (n ≤ 20) := by rw [Bool.eq_iff_iff]; simp; omega
theorem spec_obssOk {n : Net} {l : List Obs} (hn : lfit Sta.fitN n.stations) (hl : lfit Obs.fit l) : M_spec_ObservationsOk n l = some (obssB n l) := by
  unfold M_spec_ObservationsOk obssB L_spec_ObservationsOk_0
  refine chain (spec_netOk hn) ?_
  rw [le20]
  refine chain0 ?_
  have key := all_loopE (S := S_spec_ObservationsOk_0) (fun i => (l, (l.length : Int), (i : Int), n.plane, n.stations, ())) l.length (atB (obsB n) l) () (fun i hi => by
    simp only [S_spec_ObservationsOk_0, dlt hi, cond_true, idx_at hi, Option.bind_some, spec_obsOk (n := ⟨n.plane, n.stations⟩) hn.1 (hl.2 _ (List.getElem_mem hi)), succ_wrap hi hl.1, atB_at (obsB n) hi]
    cases obsB n l[i] <;> rfl) (by simp [S_spec_ObservationsOk_0])
  rw [all_range] at key
  rw [show ((0 : Int)) = ((0 : Nat) : Int) from rfl, key]
  cases l.all (obsB n) <;> rfl
theorem impl_obssOk {n : Net} {l : List Obs} (hn : lfit Sta.fitN n.stations) (hl : lfit Obs.fit l) : M_impl_ObservationsOk n l = some (obssB n l) := by
  unfold M_impl_ObservationsOk obssB L_impl_ObservationsOk_0
  refine chain (impl_netOk (fitN_fit hn)) ?_
  rw [le20]
  refine chain0 ?_
  have key := all_loopE (S := S_impl_ObservationsOk_0) (fun i => (l, (l.length : Int), (i : Int), n.plane, n.stations, ())) l.length (atB (obsB n) l) () (fun i hi => by
    simp only [S_impl_ObservationsOk_0, dlt hi, cond_true, idx_at hi, Option.bind_some, impl_obsFits (n := ⟨n.plane, n.stations⟩) (hl.2 _ (List.getElem_mem hi)), succ_wrap hi hl.1, atB_at (obsB n) hi]
    cases obsB n l[i] <;> rfl) (by simp [S_impl_ObservationsOk_0])
  rw [all_range] at key
  rw [show ((0 : Int)) = ((0 : Nat) : Int) from rfl, key]
  cases l.all (obsB n) <;> rfl
theorem spec_bookOk {b : Bk} (hs : lfit Sta.fitN b.stations) (ho : lfit Obs.fit b.obs) : M_spec_BookOk b = some (obssB ⟨b.plane, b.stations⟩ b.obs) := by
  unfold M_spec_BookOk
  rw [spec_obssOk (n := ⟨b.plane, b.stations⟩) hs ho]; rfl
theorem impl_bookOk {b : Bk} (hs : lfit Sta.fitN b.stations) (ho : lfit Obs.fit b.obs) : M_impl_BookOk b = some (obssB ⟨b.plane, b.stations⟩ b.obs) := by
  unfold M_impl_BookOk
  rw [impl_obssOk (n := ⟨b.plane, b.stations⟩) hs ho]; rfl
end Go.Di
