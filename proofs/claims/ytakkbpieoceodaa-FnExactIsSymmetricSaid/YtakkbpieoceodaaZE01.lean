/-
  Own work: part 6 of the texts that the proof of the given statement leans on.
-/
import Derived.Test.YtakkbpieoceodaaZE00
namespace Go.Di
theorem impl_gcd {m n : Nat} (hm : (dg m).length ≤ 100000000) (hn : (dg n).length ≤ 100000000) (h0 : 0 < m) : M_impl_natGcd (dg m) (dg n) = some (dg (Nat.gcd m n)) := by
  unfold M_impl_natGcd L_impl_natGcd_0
  obtain ⟨r, h1, p, q, rfl, hg, hp0, hpl, hq⟩ := whileO_meas (S := S_impl_natGcd_0) (fun x => ∃ p q : Nat, x = (dg p, dg q, ()) ∧ Nat.gcd p q = Nat.gcd m n ∧ (p = 0 → 2 ≤ (dg q).length) ∧ (dg p).length ≤ 100000000 ∧ (dg q).length ≤ 100000000) (fun x => (nv x.2.1).toNat)
    (fun r => ∃ p q : Nat, r = (dg p, dg q, ()) ∧ Nat.gcd p q = Nat.gcd m n ∧ 0 < p ∧ (dg p).length ≤ 100000000 ∧ (q = 0 ∨ (dg p).length ≤ 1 ∧ (dg q).length = 1))
    (fun x hx => by
      obtain ⟨p, q, rfl, hg, hp, hpl, hql⟩ := hx
      have hstep : 0 < q → (∃ y, ((M_impl_natDiv (dg p) (dg q)).bind fun (r0, r1) => (some (Sum.inl (dg q, r1, ())) : Option ((List Int × List Int × Unit) ⊕ (List Int × List Int × Unit)))) = some (.inl y) ∧ (∃ p' q' : Nat, y = (dg p', dg q', ()) ∧ Nat.gcd p' q' = Nat.gcd m n ∧ (p' = 0 → 2 ≤ (dg q').length) ∧ (dg p').length ≤ 100000000 ∧ (dg q').length ≤ 100000000) ∧ (nv y.2.1).toNat < (nv (dg q)).toNat) := by
        intro hq0
        rw [impl_div hpl hql hq0]
        refine ⟨_, rfl, ⟨q, p % q, rfl, ?_, fun e => by omega, hql, ?_⟩, ?_⟩
        · rw [← hg, Nat.gcd_comm p q, Nat.gcd_rec q p, Nat.gcd_comm]
        · exact Nat.le_trans (len_dg_mono (Nat.mod_le p q)) hpl
        · simp only [nv_dg, Int.toNat_natCast]; exact Nat.mod_lt _ hq0
      by_cases hb : 1 < (dg q).length
      · left
        have hq0 : 0 < q := by
          rcases Nat.eq_zero_or_pos q with h | h
          · subst h; rw [dg_zero] at hb; simp at hb
          · exact h
        have e1 : decide (((dg q).length : Int) > 1) = true := by simp only [decide_eq_true_eq]; omega
        simp only [S_impl_natGcd_0, e1, cond_true]
        exact hstep hq0
      · have e1 : decide (((dg q).length : Int) > 1) = false := by simp only [decide_eq_false_iff_not]; omega
        have hpos : 0 < p := by
          rcases Nat.eq_zero_or_pos p with h | h
          · have := hp h; omega
          · exact h
        by_cases ha : 1 < (dg p).length
        · have e2 : decide (((dg p).length : Int) > 1) = true := by simp only [decide_eq_true_eq]; omega
          by_cases hq0 : q = 0
          · right
            subst hq0
            refine ⟨(dg p, dg 0, ()), ?_, p, 0, rfl, hg, hpos, hpl, .inl rfl⟩
            simp only [S_impl_natGcd_0, e1, e2, cond_true, cond_false]
            simp [dg_zero]
          · left
            have hqn : dg q ≠ [] := fun e => hq0 (dg_nil.1 e)
            have e3 : decide (((dg q).length : Int) > 0) = true := by have := List.length_pos_iff.2 hqn; simp only [decide_eq_true_eq]; omega
            simp only [S_impl_natGcd_0, e1, e2, e3, cond_true, cond_false]
            exact hstep (by omega)
        · right
          have e2 : decide (((dg p).length : Int) > 1) = false := by simp only [decide_eq_false_iff_not]; omega
          refine ⟨(dg p, dg q, ()), ?_, p, q, rfl, hg, hpos, hpl, ?_⟩
          · simp only [S_impl_natGcd_0, e1, e2, cond_false]
          · by_cases hq0 : q = 0
            · exact .inl hq0
            · right
              have hqn : dg q ≠ [] := fun e => hq0 (dg_nil.1 e)
              have := List.length_pos_iff.2 hqn
              exact ⟨by omega, by omega⟩)
    (x := (dg m, dg n, ())) ⟨m, n, rfl, rfl, fun e => by omega, hm, hn⟩
  rw [h1, Option.bind_some]
  simp only []
  rcases hq with rfl | ⟨hp1, hq1⟩
  · have : (((dg 0).length : Int) == 0) = true := by rw [dg_zero]; rfl
    rw [this, cond_true, impl_copy (by omega), Option.bind_some, ← hg, Nat.gcd_zero_right]
  · have hpn : dg p ≠ [] := fun e => by have := dg_nil.1 e; omega
    have hpl1 : (dg p).length = 1 := by have := List.length_pos_iff.2 hpn; omega
    obtain ⟨p0, pB, pe⟩ := one_dg hpl1
    obtain ⟨q0, qB, qe⟩ := one_dg hq1
    have : (((dg q).length : Int) == 0) = false := by rw [hq1]; rfl
    rw [this, cond_false, pe, qe, show ((0 : Int) = ((0 : Nat) : Int)) from rfl, idx_get (x := (p : Int)) (by rfl), Option.bind_some, idx_get (x := (q : Int)) (by rfl), Option.bind_some]
    unfold L_impl_natGcd_1
    rw [euclid_loop (S := S_impl_natGcd_1) (fun x y h => by
      have h1 : ((y : Int) != 0) = true := by simp; omega
      simp only [S_impl_natGcd_1, h1, cond_true, guardO_true, Option.bind_some, tmod_nat]) (fun x => by simp [S_impl_natGcd_1]) q p, Option.bind_some]
    have hgp : Nat.gcd p q ≤ p := Nat.gcd_le_left q p0
    have hgpos : 0 < Nat.gcd p q := Nat.gcd_pos_of_pos_left q p0
    simp only []
    rw [← hg, dg_one hgpos (by omega)]
end Go.Di
namespace Go.Di
def sg (neg : Bool) (m : Nat) : Int := cond neg (-(m : Int)) m
theorem sg_abs (neg : Bool) (m : Nat) : (sg neg m).natAbs = m := by cases neg <;> simp [sg]
theorem sg_neg {neg : Bool} {m : Nat} (h : m ≠ 0) : decide (sg neg m < 0) = neg := by
  cases neg with
  | false => rw [decide_eq_false_iff_not]; simp only [sg, cond_false]; omega
  | true => rw [decide_eq_true_eq]; simp only [sg, cond_true]; omega
/-! ### Fractions -/
noncomputable def rq (q : Rat) : Rt := ⟨decide (q.num < 0), dg q.num.natAbs, dg q.den⟩
def Fit (q : Rat) : Prop := (dg q.num.natAbs).length ≤ 24 ∧ (dg q.den).length ≤ 24
noncomputable instance (q : Rat) : Decidable (Fit q) := by unfold Fit; infer_instance
noncomputable def ro : Option Rat → Rt
  | none => ⟨false, [], []⟩
  | some q => rq q
def Oks (o : Option Rat) : Prop := ∀ q, o = some q → Fit q
theorem Fit.ok {q : Rat} (h : Fit q) : Oks (some q) := fun r hr => by cases hr; exact h
theorem dg_one1 : dg 1 = [1] := dg_one (by omega) (by omega)
theorem one_isOne {m : Nat} : (cond (((dg m).length : Int) == 1) ((idx (dg m) 0).bind fun e => some (e == 1)) (some false)) = some (decide (m = 1)) := by
  by_cases h1 : (dg m).length = 1
  · have hb : (((dg m).length : Int) == 1) = true := by rw [h1]; rfl
    obtain ⟨_, _, e⟩ := one_dg h1
    rw [hb, cond_true, e, show ((0 : Int) = ((0 : Nat) : Int)) from rfl, idx_get (x := (m : Int)) (by rfl), Option.bind_some]
    congr 1
    rw [Bool.eq_iff_iff]; simp; omega
  · have hb : (((dg m).length : Int) == 1) = false := by rw [beq_eq_false_iff_ne]; omega
    rw [hb, cond_false]
    have : m ≠ 1 := by rintro rfl; rw [dg_one1] at h1; exact h1 rfl
    rw [decide_eq_false this]
theorem impl_isOne (m : Nat) : M_impl_isOne (dg m) = some (decide (m = 1)) := one_isOne
theorem spec_isOne (m : Nat) : M_spec_l04One (dg m) = some (decide (m = 1)) := one_isOne
theorem le24 {xs : List Int} : decide ((xs.length : Int) > 24) = !decide (xs.length ≤ 24) := by
  rw [Bool.eq_iff_iff]; simp; omega
end Go.Di
namespace Go.Di
theorem ro_den {o : Option Rat} (h : Oks o) : (ro o).den.length ≤ 24 := by
  cases o with
  | none => simp [ro]
  | some q => exact (h q rfl).2
theorem ro_mag {o : Option Rat} (h : Oks o) : (ro o).mag.length ≤ 24 := by
  cases o with
  | none => simp [ro]
  | some q => exact (h q rfl).1
theorem ro_fit {o : Option Rat} (h : Oks o) : (ro o).fit := ⟨by have := ro_mag h; omega, by have := ro_den h; omega⟩
/-! ### The reference's -/
end Go.Di
namespace Go.Di
def Good (r : Rt) : Prop := ∃ q : Rat, Fit q ∧ r = rq q
theorem Good.ro {r : Rt} (h : Good r) : ∃ q : Rat, Fit q ∧ r = ro (some q) := h
def GoodP (r : Rt) : Prop := NatOk r.mag ∧ (r.mag ≠ [] ∨ r.neg = false) ∧ NatOk r.den ∧ r.den ≠ [] ∧ r.mag.length ≤ 24 ∧ r.den.length ≤ 24 ∧ Nat.gcd (nv r.den).toNat (nv r.mag).toNat = 1
theorem good_iff {r : Rt} : Good r ↔ GoodP r := by
  constructor
  · rintro ⟨q, hf, rfl⟩
    have h24 := hf.1
    have h24' := hf.2
    refine ⟨⟨dg_can _, by show (dg q.num.natAbs).length ≤ 60; omega⟩, ?_, ⟨dg_can _, by show (dg q.den).length ≤ 60; omega⟩, fun h => q.den_nz (dg_nil.1 h), h24, h24', ?_⟩
    · by_cases h : q.num < 0
      · left; intro e; have := dg_nil.1 e; omega
      · right; exact decide_eq_false h
    · show Nat.gcd (nv (dg q.den)).toNat (nv (dg q.num.natAbs)).toNat = 1
      rw [nv_dg, nv_dg, Int.toNat_natCast, Int.toNat_natCast, Nat.gcd_comm]; exact q.reduced
  · rintro ⟨⟨h1, _⟩, h2, ⟨h3, _⟩, h4, h5, h6, h7⟩
    obtain ⟨neg, mag, den⟩ := r
    simp only at h1 h2 h3 h4 h5 h6 h7
    have e1 := h1.dg
    have e2 := h3.dg
    generalize (nv mag).toNat = m at *
    generalize (nv den).toNat = d at *
    subst e1; subst e2
    have hd : d ≠ 0 := fun h => h4 (by rw [h, dg_zero])
    let q : Rat := Rat.mk' (sg neg m) d hd (by rw [sg_abs]; show Nat.gcd m d = 1; rw [Nat.gcd_comm]; exact h7)
    refine ⟨q, ⟨by show (dg (sg neg m).natAbs).length ≤ 24; rw [sg_abs]; exact h5, h6⟩, ?_⟩
    show _ = (⟨decide (sg neg m < 0), dg (sg neg m).natAbs, dg d⟩ : Rt)
    rw [sg_abs]
    by_cases hm : m = 0
    · subst hm
      rcases h2 with h2 | h2
      · exact absurd dg_zero h2
      · rw [h2]; rfl
    · rw [sg_neg hm]
theorem lenB {a : List Int} : ((a.length : Int) == 0) = pB (a = []) := by
  rw [Bool.eq_iff_iff, pB_iff]; simp
theorem lenP {a : List Int} : decide ((a.length : Int) > 0) = pB (a ≠ []) := by
  rw [Bool.eq_iff_iff, pB_iff]; simp [List.length_pos_iff]
theorem pB_dec {p : Prop} [Decidable p] : pB p = decide p := by rw [Bool.eq_iff_iff, pB_iff, decide_eq_true_iff]
theorem gcdOne {d m : Nat} {x : Option (List Int)} (h : x = some (dg (Nat.gcd d m))) {k : List Int → Option Bool} (hk : ∀ g : Nat, k (dg g) = some (decide (g = 1))) :
    (x.bind fun r3 => (k r3).bind fun r4 => some r4) = some (decide (Nat.gcd d m = 1)) := by
  rw [h, Option.bind_some, hk]; rfl
theorem impl_ratOk {r : Rt} (h : r.fit) : M_impl_RatOk r = some (pB (Good r)) := by
  rw [pB_congr good_iff]
  unfold M_impl_RatOk M_impl_BigIntOk
  rw [impl_natOk h.1, impl_natOk h.2, lenP, lenB, le24, le24]
  simp only [Option.bind_some]
  unfold GoodP
  by_cases h1 : NatOk r.mag
  · rw [pB_iff.2 h1, cond_true]
    by_cases h2 : r.mag ≠ [] ∨ r.neg = false
    · have hb : cond (pB (r.mag ≠ [])) (some true) (some (!r.neg)) = some true := by
        rcases h2 with h2 | h2
        · rw [pB_iff.2 h2]; rfl
        · rw [h2]; cases pB (r.mag ≠ []) <;> rfl
      rw [hb]
      simp only [Option.bind_some, Bool.not_true, cond_false]
      by_cases h3 : NatOk r.den
      · rw [pB_iff.2 h3]
        simp only [Bool.not_true, cond_false]
        by_cases h4 : r.den = []
        · rw [pB_iff.2 h4, cond_true]; symm; rw [pB_not.2 (fun k => k.2.2.2.1 h4)]
        · rw [pB_not.2 h4, cond_false]
          by_cases h5 : r.mag.length ≤ 24
          · rw [decide_eq_true h5]
            simp only [Bool.not_true, cond_false]
            by_cases h6 : r.den.length ≤ 24
            · rw [decide_eq_true h6]
              simp only [Bool.not_true, cond_false]
              have e1 := h1.1.dg
              have e2 := h3.1.dg
              have hd0 : 0 < (nv r.den).toNat := by
                rcases Nat.eq_zero_or_pos (nv r.den).toNat with h | h
                · rw [h, dg_zero] at e2; exact absurd e2 h4
                · exact h
              have hg := impl_gcd (m := (nv r.den).toNat) (n := (nv r.mag).toNat) (by rw [← e2]; omega) (by rw [← e1]; omega) hd0
              rw [← e2, ← e1] at hg
              rw [gcdOne hg impl_isOne, ← pB_dec]
              congr 1
              exact pB_congr ⟨fun h => ⟨h1, h2, h3, h4, h5, h6, h⟩, fun h => h.2.2.2.2.2.2⟩
            · rw [decide_eq_false h6]; symm; rw [pB_not.2 (fun k => h6 k.2.2.2.2.2.1)]; rfl
          · rw [decide_eq_false h5]; symm; rw [pB_not.2 (fun k => h5 k.2.2.2.2.1)]; rfl
      · rw [pB_not.2 h3]; symm; rw [pB_not.2 (fun k => h3 k.2.2.1)]; rfl
    · have hb : cond (pB (r.mag ≠ [])) (some true) (some (!r.neg)) = some false := by
        have h3 : ¬ r.mag ≠ [] := fun h => h2 (.inl h)
        have h4 : r.neg = true := by
          cases hn : r.neg with
          | true => rfl
          | false => exact absurd (.inr hn) h2
        rw [pB_not.2 h3, h4]; rfl
      rw [hb]; symm; rw [pB_not.2 (fun k => h2 k.2.1)]; rfl
  · rw [pB_not.2 h1]; symm; rw [pB_not.2 (fun k => h1 k.1)]; rfl
theorem spec_ratOk {r : Rt} (h : r.fit) : M_spec_RatOk r = some (pB (Good r)) := by
  rw [pB_congr good_iff]
  unfold M_spec_RatOk M_spec_BigIntOk
  rw [spec_natOk h.1, spec_natOk h.2, lenP, lenB, le24, le24]
  simp only [Option.bind_some]
  unfold GoodP
  by_cases h1 : NatOk r.mag
  · rw [pB_iff.2 h1, cond_true]
    by_cases h2 : r.mag ≠ [] ∨ r.neg = false
    · have hb : cond (!r.neg) (some true) (some (pB (r.mag ≠ []))) = some true := by
        rcases h2 with h2 | h2
        · rw [pB_iff.2 h2]; cases r.neg <;> rfl
        · rw [h2]; rfl
      rw [hb]
      simp only [Option.bind_some, Bool.not_true, cond_false]
      by_cases h3 : NatOk r.den
      · rw [pB_iff.2 h3]
        simp only [Bool.not_true, cond_false]
        by_cases h4 : r.den = []
        · rw [pB_iff.2 h4, cond_true]; symm; rw [pB_not.2 (fun k => k.2.2.2.1 h4)]
        · rw [pB_not.2 h4, cond_false]
          by_cases h6 : r.den.length ≤ 24
          · rw [decide_eq_true h6]
            simp only [Bool.not_true, cond_false]
            by_cases h5 : r.mag.length ≤ 24
            · rw [decide_eq_true h5]
              simp only [Bool.not_true, cond_false]
              have e1 := h1.1.dg
              have e2 := h3.1.dg
              have hg := spec_gcd (m := (nv r.mag).toNat) (n := (nv r.den).toNat) (by rw [← e1]; omega) (by rw [← e2]; omega)
              rw [← e2, ← e1] at hg
              rw [gcdOne hg spec_isOne, ← pB_dec]
              congr 1
              exact pB_congr ⟨fun h => ⟨h1, h2, h3, h4, h5, h6, by rw [Nat.gcd_comm]; exact h⟩, fun h => by rw [Nat.gcd_comm]; exact h.2.2.2.2.2.2⟩
            · rw [decide_eq_false h5]; symm; rw [pB_not.2 (fun k => h5 k.2.2.2.2.1)]; rfl
          · rw [decide_eq_false h6]; symm; rw [pB_not.2 (fun k => h6 k.2.2.2.2.2.1)]; rfl
      · rw [pB_not.2 h3]; symm; rw [pB_not.2 (fun k => h3 k.2.2.1)]; rfl
    · have hb : cond (!r.neg) (some true) (some (pB (r.mag ≠ []))) = some false := by
        have h3 : ¬ r.mag ≠ [] := fun h => h2 (.inl h)
        have h4 : r.neg = true := by
          cases hn : r.neg with
          | true => rfl
          | false => exact absurd (.inr hn) h2
        rw [pB_not.2 h3, h4]; rfl
      rw [hb]; symm; rw [pB_not.2 (fun k => h2 k.2.1)]; rfl
  · rw [pB_not.2 h1]; symm; rw [pB_not.2 (fun k => h1 k.1)]; rfl
/-! ### Whole numbers -/
theorem impl_copyRat {r : Rt} (h : r.mag.length ≤ 1048576 ∧ r.den.length ≤ 1048576) : M_impl_copyRat r = some r := by
  unfold M_impl_copyRat
  rw [impl_copy (by omega), Option.bind_some, impl_copy (by omega), Option.bind_some]
theorem spec_copyRat {r : Rt} (h : r.mag.length ≤ 1048576 ∧ r.den.length ≤ 1048576) : M_spec_l04Copy r = some r := by
  unfold M_spec_l04Copy
  rw [room (by omega), Option.bind_some, room (by omega), Option.bind_some]
end Go.Di
namespace Go.Di
/-! ### Names -/
/-! ### Stations, matrices -/
noncomputable def goodB (r : Rt) : Bool := pB (Good r)
theorem spec_goods {l : List Rt} (h : lfit Rt.fit l) : whileO S_spec_MatrixOk_0 (l, (l.length : Int), 0, ()) = some (cond (l.all goodB) (.inr ()) (.inl (false, ()))) := by
  have key := all_loopE (S := S_spec_MatrixOk_0) (fun i => (l, (l.length : Int), (i : Int), ())) l.length (atB goodB l) () (fun i hi => by
    simp only [S_spec_MatrixOk_0, dlt hi, cond_true, idx_at hi, Option.bind_some, spec_ratOk (h.2 _ (List.getElem_mem hi)), succ_wrap hi h.1, atB_at goodB hi, goodB]
    cases pB (Good l[i]) <;> rfl) (by simp [S_spec_MatrixOk_0])
  rw [all_range] at key; exact key
theorem impl_goods {l : List Rt} (h : lfit Rt.fit l) : whileO S_impl_MatrixOk_0 (l, (l.length : Int), 0, ()) = some (cond (l.all goodB) (.inr ()) (.inl (false, ()))) := by
  have key := all_loopE (S := S_impl_MatrixOk_0) (fun i => (l, (l.length : Int), (i : Int), ())) l.length (atB goodB l) () (fun i hi => by
    simp only [S_impl_MatrixOk_0, dlt hi, cond_true, idx_at hi, Option.bind_some, impl_ratOk (h.2 _ (List.getElem_mem hi)), succ_wrap hi h.1, atB_at goodB hi, goodB]
    cases pB (Good l[i]) <;> rfl) (by simp [S_impl_MatrixOk_0])
  rw [all_range] at key; exact key
def inB (n lo hi : Int) : Bool := decide (n ≥ lo) && decide (n ≤ hi)
theorem spec_in (n lo hi : Int) : M_spec_l01In n lo hi = some (inB n lo hi) := by
  unfold M_spec_l01In inB; cases decide (n ≥ lo) <;> rfl
theorem impl_len (n : Int) : M_impl_isLength n = some (inB n 0 24) := by
  unfold M_impl_isLength inB; cases decide (n ≥ 0) <;> rfl
noncomputable def mxB (m : Mx) : Bool := inB m.rows 0 24 && (inB m.cols 0 24 && (((m.cells.length : Int) == IntKind.i64.wrap (m.rows * m.cols)) && m.cells.all goodB))
theorem spec_mxOk {m : Mx} (h : lfit Rt.fit m.cells) : M_spec_MatrixOk m = some (mxB m) := by
  unfold M_spec_MatrixOk mxB L_spec_MatrixOk_0
  refine chain (spec_in ..) (chain (spec_in ..) ?_)
  rw [show ((m.cells.length : Int) != IntKind.i64.wrap (m.rows * m.cols)) = !((m.cells.length : Int) == IntKind.i64.wrap (m.rows * m.cols)) from rfl]
  refine chain0 ?_
  rw [spec_goods h]
  cases m.cells.all goodB <;> rfl
theorem impl_mxOk {m : Mx} (h : lfit Rt.fit m.cells) : M_impl_MatrixOk m = some (mxB m) := by
  unfold M_impl_MatrixOk mxB L_impl_MatrixOk_0
  refine chain (impl_len _) (chain (impl_len _) ?_)
  rw [show ((m.cells.length : Int) != IntKind.i64.wrap (m.rows * m.cols)) = !((m.cells.length : Int) == IntKind.i64.wrap (m.rows * m.cols)) from rfl]
  refine chain0 ?_
  rw [impl_goods h]
  cases m.cells.all goodB <;> rfl
/-! ### Networks -/
end Go.Di
namespace Go.Di
def upto (k : Int) (n : Nat) : List Int := (List.range n).map fun (i : Nat) => k + (i : Int)
@[simp] theorem len_upto (k : Int) (n : Nat) : (upto k n).length = n := by simp [upto]
end Go.Di
namespace Go.Di
end Go.Di
namespace Go.Di
/-! ### Signs -/
/-! ### Rounded down -/
/-! ### Roots of fractions -/
/-! ### Readings -/
end Go.Di
namespace Go.Di
/-! ### Marks on lists -/
def ws {α : Type} (w : α → Nat) (l : List α) : Nat := (l.map w).sum
def marksTo {α : Type} (mk : Int → α → α) (w : α → Nat) (k : Int) (a : List α) (i : Nat) : List α := a.mapIdx fun j x => if j < i then mk (k + (ws w (a.take j) : Nat)) x else x
def marks {α : Type} (mk : Int → α → α) (w : α → Nat) (k : Int) (a : List α) : List α := marksTo mk w k a a.length
/-! ### Fractions -/
def wR (r : Rt) : Nat := 1 + r.mag.length + r.den.length
theorem ws_rats (l : List Rt) : ws wR l = lsz Rt.sz l := by
  unfold ws lsz
  induction l with
  | nil => rfl
  | cons r l ih => simp only [List.map_cons, List.sum_cons, List.length_cons, ih]; unfold wR Rt.sz; omega
/-! ### Loops that append -/
theorem room1 {n : Nat} (h : n ≤ 2000000) : guardO (Nat.ble (n + 1) maxNew) = some () := by
  have : Nat.ble (n + 1) maxNew = true := Nat.ble_eq_true_of_le (by unfold maxNew; omega)
  rw [this]; rfl
/-! ### Valid vectors -/
def Fits (q : List Rat) : Prop := ∀ x ∈ q, Fit x
theorem goods_q : ∀ {l : List Rt}, l.all goodB = true → ∃ q : List Rat, Fits q ∧ l = q.map rq
  | [], _ => ⟨[], fun x h => (by cases h), rfl⟩
  | r :: l, h => by
    rw [List.all_cons, Bool.and_eq_true] at h
    obtain ⟨q, hq, rfl⟩ := goods_q h.2
    obtain ⟨x, hx, rfl⟩ := pB_iff.1 h.1
    exact ⟨x :: q, fun y hy => by
      rcases List.mem_cons.1 hy with rfl | hy
      · exact hx
      · exact hq y hy, rfl⟩
theorem Fits.get {q : List Rat} (h : Fits q) (i : Nat) : Oks q[i]? := fun x hx => h x (List.mem_of_getElem? hx)
structure Rfit (l : List Rt) : Prop where
  fit : lfit Rt.fit l
  few : ws wR l ≤ 1000000000
theorem rfit_lsz {l : List Rt} (h : lsz Rt.sz l ≤ 1048576) : Rfit l := ⟨lfit_of (f := Rt.sz) (fun _ => Rt.fit_of) h, by rw [ws_rats]; omega⟩
theorem idx_q {q : List Rat} {i : Nat} (h : i < q.length) : idx (q.map rq) (i : Int) = some (ro q[i]?) := by
  rw [idx_nat, List.getElem?_map, List.getElem?_eq_getElem h]; rfl
/-! ### Inner products -/
/-! ### Vectors without gaps -/
end Go.Di
