/-
  Own work: part 9 of the texts that the proof of the given statement leans on.
-/
import Derived.Test.YtdgoinbkngnmlaaZRoundedP01
namespace Go.Di
end Go.Di
namespace Go.Di
end Go.Di
namespace Go.Di
/-! ### Half tangents -/
/-! ### Lists of observations -/
end Go.Di
namespace Go.Di
def Cur.ok (c : Cur) : Prop := 0 ≤ c.i ∧ c.i ≤ (c.b.length : Int) ∧ c.b.length ≤ 1048576
theorem and255 (x : BitVec 64) : 0 ≤ ((x &&& BitVec.ofInt 64 255).toNat : Int) ∧ ((x &&& BitVec.ofInt 64 255).toNat : Int) ≤ 255 := by
  refine ⟨by omega, ?_⟩
  have h : (x &&& BitVec.ofInt 64 255).toNat ≤ 255 := by
    rw [BitVec.toNat_and]
    have : (BitVec.ofInt 64 255).toNat = 255 := by decide
    rw [this]; exact Nat.and_le_right
  omega
theorem wrap255 (x : BitVec 64) : 0 ≤ IntKind.i64.wrap ((x &&& BitVec.ofInt 64 255).toNat : Int) ∧ IntKind.i64.wrap ((x &&& BitVec.ofInt 64 255).toNat : Int) ≤ 255 := by
  have h := and255 x
  rw [wrap_i64 (by omega) (by omega)]; exact h
theorem cur_byte {c : Cur} (h : c.ok) : ∃ v c', M_spec_l01Byte c = some (v, c') ∧ 0 ≤ v ∧ v ≤ 255 ∧ c'.ok := by
  unfold M_spec_l01Byte
  cases hc : decide (c.i < (c.b.length : Int)) with
  | true =>
    have hl := of_decide_eq_true hc
    rw [cond_true, idx_int h.1 hl, Option.bind_some]
    refine ⟨_, _, rfl, (wrap255 _).1, (wrap255 _).2, ?_⟩
    have h1 := h.1
    have h2 := h.2.2
    show 0 ≤ IntKind.i64.wrap (c.i + 1) ∧ IntKind.i64.wrap (c.i + 1) ≤ _ ∧ _
    rw [wrap_i64 (by omega) (by omega)]
    exact ⟨by omega, by show c.i + 1 ≤ (c.b.length : Int); omega, h2⟩
  | false =>
    rw [cond_false]
    exact ⟨_, _, rfl, (wrap255 _).1, (wrap255 _).2, h⟩
theorem tmod_lt {a n : Int} (h0 : 0 ≤ a) (hn : 0 < n) : 0 ≤ a.tmod n ∧ a.tmod n < n := ⟨Int.tmod_nonneg _ h0, Int.tmod_lt_of_pos _ hn⟩
theorem cur_below {c : Cur} (h : c.ok) {n : Int} (hn : 0 < n) : ∃ v c', M_spec_l01Below c n = some (v, c') ∧ 0 ≤ v ∧ v < n ∧ c'.ok := by
  unfold M_spec_l01Below
  rw [decide_eq_false (show ¬ n ≤ 0 by omega), cond_false]
  have hg : guardO (n != 0) = some () := by
    have : (n != 0) = true := by simp; omega
    rw [this]; rfl
  obtain ⟨v, c1, e1, h1, h2, k1⟩ := cur_byte h
  cases decide (n ≤ 256) with
  | true =>
    rw [cond_true, e1, Option.bind_some]
    simp only [hg, Option.bind_some]
    exact ⟨_, _, rfl, (tmod_lt h1 hn).1, (tmod_lt h1 hn).2, k1⟩
  | false =>
    obtain ⟨v2, c2, e2, h3, h4, k2⟩ := cur_byte k1
    obtain ⟨v3, c3, e3, h5, h6, k3⟩ := cur_byte k2
    obtain ⟨v4, c4, e4, h7, h8, k4⟩ := cur_byte k3
    rw [cond_false, e1, Option.bind_some]
    simp only [e2, e3, e4, hg, Option.bind_some]
    have h0 : 0 ≤ IntKind.i64.wrap (IntKind.i64.wrap (IntKind.i64.wrap (IntKind.i64.wrap (v * 16777216) + IntKind.i64.wrap (v2 * 65536)) + IntKind.i64.wrap (v3 * 256)) + v4) := by
      rw [wrap_i64 (n := v * 16777216) (by omega) (by omega), wrap_i64 (n := v2 * 65536) (by omega) (by omega), wrap_i64 (n := v3 * 256) (by omega) (by omega), wrap_i64 (n := v * 16777216 + v2 * 65536) (by omega) (by omega), wrap_i64 (n := v * 16777216 + v2 * 65536 + v3 * 256) (by omega) (by omega), wrap_i64 (by omega) (by omega)]
      omega
    exact ⟨_, _, rfl, (tmod_lt h0 hn).1, (tmod_lt h0 hn).2, k4⟩
theorem cur_once {c : Cur} (h : c.ok) {n : Int} (hn : 0 < n) : ∃ v c', M_spec_l01Once c n = some (v, c') ∧ c'.ok := by
  obtain ⟨v, c1, e1, _, _, k1⟩ := cur_below h hn
  unfold M_spec_l01Once
  rw [e1, Option.bind_some]
  exact ⟨_, _, rfl, k1⟩
theorem cur_new {code : List Int} (h : code.length ≤ 1048576) : ∃ c, M_spec_l01New code = some c ∧ c.ok := by
  unfold M_spec_l01New L_spec_l01New_0
  obtain ⟨r, hr, hq⟩ := whileO_meas (S := S_spec_l01New_0) (fun x => x.1 = code ∧ 0 ≤ x.2.2.1 ∧ x.2.2.1 ≤ (code.length : Int)) (fun x => code.length - x.2.2.1.toNat) (fun r => r.1 = code)
    (by
      rintro ⟨co, hh, i, u⟩ ⟨hco, h1, h2⟩
      simp only at h1 h2 hco
      subst hco
      unfold S_spec_l01New_0
      simp only
      cases hc : decide (i < (co.length : Int)) with
      | true =>
        have hl := of_decide_eq_true hc
        rw [cond_true]
        cases decide (i < 4000) with
        | true =>
          rw [cond_true, idx_int h1 hl, Option.bind_some]
          refine .inl ⟨_, rfl, ⟨rfl, ?_, ?_⟩, ?_⟩ <;> simp only <;> rw [wrap_i64 (by omega) (by omega)] <;> omega
        | false => exact .inr ⟨_, rfl, rfl⟩
      | false => exact .inr ⟨_, rfl, rfl⟩)
    (x := (code, IntKind.i64.wrap (1973 + (code.length : Int)), 0, ())) ⟨rfl, by simp, by simp⟩
  rw [hr, Option.bind_some]
  obtain ⟨co, hh, u⟩ := r
  simp only at hq
  subst hq
  exact ⟨_, rfl, by show (0 : Int) ≤ 0; omega, by show (0 : Int) ≤ (co.length : Int); omega, h⟩
theorem cur_at {code : List Int} (h : code.length ≤ 1048576) {n : Int} (hn : n ≤ 1000000) : ∃ c, M_spec_l30New code n = some c ∧ c.ok := by
  unfold M_spec_l30New L_spec_l30New_0
  obtain ⟨c, e, k⟩ := cur_new h
  rw [e, Option.bind_some]
  obtain ⟨r, hr, hq⟩ := whileO_meas (S := S_spec_l30New_0) (fun x => x.1 = n ∧ 0 ≤ x.2.1 ∧ Cur.ok ⟨x.2.2.1, x.2.2.2.1, x.2.2.2.2.1⟩) (fun x => (n - x.2.1).toNat) (fun r => Cur.ok ⟨r.1, r.2.1, r.2.2.1⟩)
    (by
      rintro ⟨m, i, v, v1, v2, u⟩ ⟨rfl, h1, h2⟩
      simp only at h1 h2 hn
      unfold S_spec_l30New_0
      simp only
      cases hc : decide (i < m) with
      | true =>
        have hl := of_decide_eq_true hc
        obtain ⟨w, c', e1, _, _, k1⟩ := cur_byte h2
        rw [cond_true, e1, Option.bind_some]
        refine .inl ⟨_, rfl, ⟨rfl, ?_, k1⟩, ?_⟩ <;> simp only <;> rw [wrap_i64 (by omega) (by omega)] <;> omega
      | false => exact .inr ⟨_, rfl, h2⟩)
    (x := (n, 0, c.b, c.i, c.h, ())) ⟨rfl, by simp, k⟩
  rw [hr, Option.bind_some]
  exact ⟨_, rfl, hq⟩
/-! ### Bounds of a fraction's parts -/
def Bd (q : Rat) (n d : Nat) : Prop := q.num.natAbs ≤ n ∧ q.den ≤ d
theorem Bd.mono {q : Rat} {n d m e : Nat} (h : Bd q n d) (h1 : n ≤ m) (h2 : d ≤ e) : Bd q m e := ⟨Nat.le_trans h.1 h1, Nat.le_trans h.2 h2⟩
theorem bd_mk {z : Int} {d : Nat} (hd : d ≠ 0) : Bd (mkRat z d) z.natAbs d := by
  refine ⟨?_, ?_⟩
  · rw [mk_abs z hd]; exact Nat.div_le_self _ _
  · rw [(mk_parts z hd).2]; exact Nat.div_le_self _ _
theorem bd_int (n : Int) : Bd (n : Rat) n.natAbs 1 := ⟨by rw [Rat.num_intCast]; exact Nat.le_refl _, by rw [Rat.den_intCast]; exact Nat.le_refl _⟩
theorem bd_mul {a b : Rat} {n d m e : Nat} (h : Bd a n d) (k : Bd b m e) : Bd (a * b) (n * m) (d * e) := by
  rw [← mk_mul]
  refine (bd_mk (Nat.mul_ne_zero a.den_nz b.den_nz)).mono ?_ (Nat.mul_le_mul h.2 k.2)
  rw [Int.natAbs_mul]; exact Nat.mul_le_mul h.1 k.1
theorem bd_add {a b : Rat} {n d m e : Nat} (h : Bd a n d) (k : Bd b m e) : Bd (a + b) (n * e + m * d) (d * e) := by
  rw [← mk_add]
  refine (bd_mk (Nat.mul_ne_zero a.den_nz b.den_nz)).mono ?_ (Nat.mul_le_mul h.2 k.2)
  refine Nat.le_trans (Int.natAbs_add_le _ _) (Nat.add_le_add ?_ ?_)
  · rw [Int.natAbs_mul]; exact Nat.mul_le_mul h.1 k.2
  · rw [Int.natAbs_mul]; exact Nat.mul_le_mul k.1 h.2
theorem bd_neg {a : Rat} {n d : Nat} (h : Bd a n d) : Bd (-a) n d := ⟨by rw [Rat.neg_num, Int.natAbs_neg]; exact h.1, by rw [Rat.neg_den]; exact h.2⟩
theorem bd_sub {a b : Rat} {n d m e : Nat} (h : Bd a n d) (k : Bd b m e) : Bd (a - b) (n * e + m * d) (d * e) := by
  rw [Rat.sub_eq_add_neg]; exact bd_add h (bd_neg k)
theorem bd_div {a b : Rat} {n d m e : Nat} (h : Bd a n d) (k : Bd b m e) (hb : b ≠ 0) : Bd (a / b) (n * e) (d * m) := by
  rw [← mk_div a b hb]
  have hn : b.num ≠ 0 := fun h => hb (Rat.num_eq_zero.1 h)
  refine (bd_mk (Nat.mul_ne_zero a.den_nz (by omega))).mono ?_ (Nat.mul_le_mul h.2 k.1)
  rw [Int.natAbs_mul, sg_abs]; exact Nat.mul_le_mul h.1 k.2
theorem Bd.fit {q : Rat} {n d : Nat} (h : Bd q n d) (h1 : n ≤ 10 ^ 200) (h2 : d ≤ 10 ^ 200) : Fit q := by
  have e : ((10 ^ 200 : Nat) : Int) < bp 24 := by decide
  exact ⟨len_dg.2 (Int.lt_of_le_of_lt (Int.ofNat_le.2 (Nat.le_trans h.1 h1)) e), len_dg.2 (Int.lt_of_le_of_lt (Int.ofNat_le.2 (Nat.le_trans h.2 h2)) e)⟩
theorem chk_bd {q : Rat} {n d : Nat} (h : Bd q n d) (h1 : n ≤ 10 ^ 200) (h2 : d ≤ 10 ^ 200) : chk q = some q := chk_fit (h.fit h1 h2)
theorem cur_number {c : Cur} (h : c.ok) : ∃ q c', M_spec_l05Number c = some (rq q, c') ∧ Bd q 20 6 ∧ c'.ok := by
  unfold M_spec_l05Number
  obtain ⟨w, c1, e1, k1⟩ := cur_once h (n := 3) (by omega)
  rw [e1, Option.bind_some]
  cases w with
  | true =>
    obtain ⟨a, c2, e2, h1, h2, k2⟩ := cur_below k1 (n := 41) (by omega)
    obtain ⟨b, c3, e3, h3, h4, k3⟩ := cur_below k2 (n := 6) (by omega)
    simp only [cond_true, e2, e3, Option.bind_some]
    rw [wrap_i64 (n := a - 20) (by omega) (by omega), wrap_i64 (n := 1 + b) (by omega) (by omega), spec_ratOf (by omega) (by omega) (by omega) (by omega) (by omega)]
    have bd : Bd (((a - 20 : Int) : Rat) / ((1 + b : Int) : Rat)) 20 6 := by
      have hb : ((1 + b : Int) : Rat) ≠ 0 := by
        intro e0
        have h0 := congrArg Rat.num e0
        rw [Rat.num_intCast] at h0
        have : (0 : Rat).num = 0 := rfl
        omega
      exact (bd_div (bd_int _) (bd_int _) hb).mono (by omega) (by omega)
    rw [chk_bd bd (by decide) (by decide), Option.bind_some]
    exact ⟨_, _, rfl, bd, k3⟩
  | false =>
    obtain ⟨a, c2, e2, h1, h2, k2⟩ := cur_below k1 (n := 21) (by omega)
    simp only [cond_false, e2, Option.bind_some]
    rw [wrap_i64 (n := a - 10) (by omega) (by omega), spec_ratInt (by omega) (by omega), Option.bind_some]
    exact ⟨_, _, rfl, (bd_int _).mono (by omega) (by omega), k2⟩
theorem make_rat {code : List Int} (h : code.length ≤ 1048576) {n : Int} (hn : n ≤ 1000000) : ∃ q, M_spec_MakeRat code n = some (rq q) ∧ Bd q 20 6 := by
  unfold M_spec_MakeRat
  obtain ⟨c, e, k⟩ := cur_at h hn
  obtain ⟨q, c1, e1, b, _⟩ := cur_number k
  rw [e, Option.bind_some, e1, Option.bind_some]
  exact ⟨q, rfl, b⟩
theorem make_num {code : List Int} (h : code.length ≤ 1048576) {n : Int} (hn : n ≤ 1000000) : ∃ v, M_spec_MakeNum code n = some v ∧ 0 ≤ v ∧ v ≤ 65535 := by
  unfold M_spec_MakeNum
  obtain ⟨c, e, k⟩ := cur_at h hn
  obtain ⟨a, c1, e1, h1, h2, k1⟩ := cur_byte k
  obtain ⟨b, c2, e2, h3, h4, k2⟩ := cur_byte k1
  rw [e, Option.bind_some, e1, Option.bind_some]
  simp only [e2, Option.bind_some]
  rw [wrap_i64 (n := a * 256) (by omega) (by omega), wrap_i64 (by omega) (by omega)]
  exact ⟨_, rfl, by omega, by omega⟩
end Go.Di
namespace Go.Di
theorem bothq_ok {p q : Rat} (hp : Fit p) (hq : Fit q) : M_impl_both (rq p) (rq q) = some true := by
  unfold M_impl_both
  rw [show rq p = ro (some p) from rfl, show rq q = ro (some q) from rfl, impl_okO hp.ok, Option.bind_some, impl_okO hq.ok]; rfl
theorem rat_mul {p q : Rat} (hp : Fit p) (hq : Fit q) (h : Fit (p * q)) : M_impl_RatMul (rq p) (rq q) = some (rq (p * q)) := by
  unfold M_impl_RatMul
  rw [bothq_ok hp hq, Option.bind_some]
  show ((M_impl_mul (ro (some p)) (ro (some q))).bind _) = _
  rw [impl_mulO hp.ok hq.ok, Option.bind_some]
  show some (ro (chk (p * q))) = _
  rw [chk_fit h]; rfl
theorem rat_sub {p q : Rat} (hp : Fit p) (hq : Fit q) (h : Fit (p - q)) : M_impl_RatSub (rq p) (rq q) = some (rq (p - q)) := by
  unfold M_impl_RatSub
  rw [bothq_ok hp hq, Option.bind_some]
  show ((M_impl_sub (ro (some p)) (ro (some q))).bind _) = _
  rw [impl_subO hp.ok hq.ok, Option.bind_some]
  show some (ro (chk (p + -q))) = _
  rw [← Rat.sub_eq_add_neg, chk_fit h]; rfl
theorem rat_neg {p : Rat} (hp : Fit p) : M_impl_RatNeg (rq p) = some (rq (-p)) := by
  unfold M_impl_RatNeg
  rw [show rq p = ro (some p) from rfl, impl_okO hp.ok, Option.bind_some]
  show ((M_impl_neg (ro (some p))).bind _) = _
  rw [impl_negO hp.ok, Option.bind_some]; rfl
theorem rat_eq {p q : Rat} (hp : Fit p) : M_impl_RatEqual (rq p) (rq q) = some (decide (p = q)) := by
  have hf : (rq p).fit := ro_fit hp.ok
  rw [impl_ratEq hf]
  congr 1
  show pB (rq p = rq q) = _
  rw [Bool.eq_iff_iff, pB_iff, decide_eq_true_iff]
  exact ⟨rq_inj, fun h => by rw [h]⟩
theorem cmpI_le0 {a b : Int} : (cmpI a b ≤ 0) ↔ a ≤ b := by
  unfold cmpI
  split
  · constructor <;> intro <;> omega
  · split <;> constructor <;> intro <;> omega
theorem cmpI_gt0 {a b : Int} : (cmpI a b > 0) ↔ b < a := by
  unfold cmpI
  split
  · constructor <;> intro <;> omega
  · split <;> constructor <;> intro <;> omega
theorem cmp_small {x y : Int} (hx : (dg x.natAbs).length ≤ 1000000) (hy : (dg y.natAbs).length ≤ 1000000) : ∃ r, M_impl_bigCmp (bg x) (bg y) = some r ∧ decide (r ≤ 0) = decide (x ≤ y) ∧ decide (r > 0) = decide (y < x) := by
  have e1 : nv (dg x.natAbs) = (x.natAbs : Int) := nv_dg _
  have e2 : nv (dg y.natAbs) = (y.natAbs : Int) := nv_dg _
  have c1 : M_impl_natCmp (dg x.natAbs) (dg y.natAbs) = some (cmpI x.natAbs y.natAbs) := by rw [impl_cmp (dg_can _) (dg_can _) (by omega), e1, e2]
  have c2 : M_impl_natCmp (dg y.natAbs) (dg x.natAbs) = some (cmpI y.natAbs x.natAbs) := by rw [impl_cmp (dg_can _) (dg_can _) (by omega), e1, e2]
  unfold M_impl_bigCmp bg
  simp only
  rw [c1, c2]
  by_cases h1 : x < 0 <;> by_cases h2 : y < 0
  · rw [decide_eq_true h1, decide_eq_true h2]
    refine ⟨cmpI y.natAbs x.natAbs, rfl, ?_, ?_⟩ <;> rw [Bool.eq_iff_iff] <;> simp only [decide_eq_true_iff, cmpI_le0, cmpI_gt0] <;> omega
  · rw [decide_eq_true h1, decide_eq_false h2]
    refine ⟨_, rfl, ?_, ?_⟩ <;> rw [Bool.eq_iff_iff] <;> simp only [decide_eq_true_iff] <;> omega
  · rw [decide_eq_false h1, decide_eq_true h2]
    refine ⟨_, rfl, ?_, ?_⟩ <;> rw [Bool.eq_iff_iff] <;> simp only [decide_eq_true_iff] <;> omega
  · rw [decide_eq_false h1, decide_eq_false h2]
    refine ⟨cmpI x.natAbs y.natAbs, rfl, ?_, ?_⟩ <;> rw [Bool.eq_iff_iff] <;> simp only [decide_eq_true_iff, cmpI_le0, cmpI_gt0] <;> omega
theorem rat_cmp {p q : Rat} (hp : Fit p) (hq : Fit q) : ∃ r, M_impl_RatCmp (rq p) (rq q) = some r ∧ decide (r ≤ 0) = decide (p ≤ q) ∧ decide (r > 0) = decide (q < p) := by
  unfold M_impl_RatCmp M_impl_cmp
  rw [bothq_ok hp hq, Option.bind_some]
  have hp1 := hp.1
  have hp2 := hp.2
  have hq1 := hq.1
  have hq2 := hq.2
  have b1 : M_impl_bigMul ⟨(rq p).neg, (rq p).mag⟩ ⟨false, (rq q).den⟩ = some (bg (p.num * q.den)) := by
    show M_impl_bigMul (bg p.num) ⟨false, dg q.den⟩ = _
    rw [← bg_nat, impl_bigMul (by omega) (by show (dg q.den).length ≤ _; omega)]
  have b2 : M_impl_bigMul ⟨(rq q).neg, (rq q).mag⟩ ⟨false, (rq p).den⟩ = some (bg (q.num * p.den)) := by
    show M_impl_bigMul (bg q.num) ⟨false, dg p.den⟩ = _
    rw [← bg_nat, impl_bigMul (by omega) (by show (dg p.den).length ≤ _; omega)]
  rw [b1, b2]
  simp only [Bool.not_true, cond_false, Option.bind_some]
  have s1 := small_mul (x := p.num) (b := q.den) hp1 hq2
  have s2 := small_mul (x := q.num) (b := p.den) hq1 hp2
  obtain ⟨r, e, h1, h2⟩ := cmp_small (x := p.num * q.den) (y := q.num * p.den) (by omega) (by omega)
  rw [e]
  refine ⟨r, rfl, ?_, ?_⟩
  · rw [h1, Bool.eq_iff_iff, decide_eq_true_iff, decide_eq_true_iff, Rat.le_iff]
  · rw [h2, Bool.eq_iff_iff, decide_eq_true_iff, decide_eq_true_iff, Rat.lt_iff]
theorem fit_bd {q : Rat} {n d : Nat} (h : Bd q n d) (h1 : decide (n ≤ 10 ^ 200) = true) (h2 : decide (d ≤ 10 ^ 200) = true) : Fit q := h.fit (of_decide_eq_true h1) (of_decide_eq_true h2)
end Go.Di
namespace Go.Di
end Go.Di
namespace Go.Di
theorem half_bd : Bd (((1 : Int) : Rat) / ((2 : Int) : Rat)) 1 2 := by
  have hb : ((2 : Int) : Rat) ≠ 0 := by decide
  exact (bd_div (bd_int 1) (bd_int 2) hb).mono (by omega) (by omega)
theorem rtO_small {q : Rat} {a d : Nat} (h : Bd q a d) {n : Int} (h1 : 1 ≤ n) (h2 : n ≤ 50) (ha : a ≤ 1000000) (hd : d ≤ 1000) :
    rtO q n = some (((q * (n : Rat) + ((1 : Int) : Rat) / ((2 : Int) : Rat)).floor : Rat) / (n : Rat)) ∧ Bd (((q * (n : Rat) + ((1 : Int) : Rat) / ((2 : Int) : Rat)).floor : Rat) / (n : Rat)) (a * 50 * 2 + d * 2) 50 := by
  have hn : Bd (n : Rat) 50 1 := (bd_int n).mono (by omega) (by omega)
  have b1 := bd_mul h hn
  have b2 := bd_add b1 half_bd
  unfold rtO addO mulO
  simp only [Option.bind_some]
  rw [chk_fit (b1.fit (Nat.le_trans (show a * 50 ≤ 50000000 by omega) (by decide)) (Nat.le_trans (show d * 1 ≤ 1000 by omega) (by decide)))]
  simp only [Option.bind_some]
  rw [chk_fit (b2.fit (Nat.le_trans (show a * 50 * 2 + 1 * (d * 1) ≤ 200000000 by omega) (by decide)) (Nat.le_trans (show d * 1 * 2 ≤ 2000 by omega) (by decide)))]
  simp only [Option.bind_some]
  generalize q * (n : Rat) + ((1 : Int) : Rat) / ((2 : Int) : Rat) = x at *
  have hnn : n.toNat ≠ 0 := by omega
  have hx : (x.num / (x.den : Int)).natAbs ≤ a * 50 * 2 + d * 2 := by
    have e1 := Int.mul_ediv_add_emod x.num (x.den : Int)
    have hp := Nat.pos_of_ne_zero x.den_nz
    have e2 := Int.emod_nonneg x.num (show (x.den : Int) ≠ 0 by omega)
    have e3 := Int.emod_lt_of_pos x.num (show (0 : Int) < x.den by omega)
    have bx := b2.1
    rcases Int.lt_or_le x.num 0 with hn | hn
    · have h5 : x.num * (x.den : Int) ≤ x.num * 1 := Int.mul_le_mul_of_nonpos_left (by omega) (show (1 : Int) ≤ x.den by omega)
      have h6 : x.num ≤ x.num / (x.den : Int) := Int.le_ediv_of_mul_le (by omega) (by omega)
      have h4 : x.num / (x.den : Int) < 0 := Int.ediv_neg_of_neg_of_pos hn (by omega)
      omega
    · have h4 := Int.ediv_nonneg hn (show (0 : Int) ≤ x.den by omega)
      have h5 := Int.ediv_le_self (x.den : Int) hn
      omega
  have b3 : Bd (mkRat (x.num / (x.den : Int)) n.toNat) (a * 50 * 2 + d * 2) 50 := (bd_mk hnn).mono hx (by omega)
  have e : mkRat (x.num / (x.den : Int)) n.toNat = (x.floor : Rat) / (n : Rat) := by
    rw [Rat.mkRat_eq_div, Rat.floor_def]
    have : ((n.toNat : Nat) : Rat) = (n : Rat) := by
      have h0 : ((n.toNat : Nat) : Int) = n := by omega
      rw [← h0]; rfl
    rw [this]
  rw [chk_fit (b3.fit (Nat.le_trans (show a * 50 * 2 + d * 2 ≤ 200000000 by omega) (by decide)) (by decide)), e]
  exact ⟨rfl, e ▸ b3⟩
theorem law_FnRounded (code : List Int) (_ : CK.wf (.sl .byte) code) : M_laws_FnRounded code = some true := by
  unfold M_laws_FnRounded
  cases hc : decide ((code.length : Int) > 1048576) with
  | true => rfl
  | false =>
    have hl : code.length ≤ 1048576 := by have := of_decide_eq_false hc; omega
    obtain ⟨q, e1, bq⟩ := make_rat hl (n := 1) (by omega)
    obtain ⟨v, e2, v0, v1⟩ := make_num hl (n := 9) (by omega)
    have hm := tmod_lt v0 (n := 50) (by omega)
    simp only [cond_false, e1, e2, Option.bind_some]
    rw [wrap_i64 (n := 1 + v.tmod 50) (by omega) (by omega)]
    generalize hn : 1 + v.tmod 50 = n
    have n1 : 1 ≤ n := by omega
    have n2 : n ≤ 50 := by omega
    rw [wrap_i64 (n := 2 * n) (by omega) (by omega)]
    have fq : Fit q := bq.fit (by decide) (by decide)
    obtain ⟨r1, by1⟩ := rtO_small bq n1 n2 (by omega) (by omega)
    have n0 : (n : Rat) ≠ 0 := by
      intro e0
      have h0 := congrArg Rat.num e0
      rw [Rat.num_intCast] at h0
      have : (0 : Rat).num = 0 := rfl
      omega
    have h21 : (((1 : Int) : Rat) / ((2 : Int) : Rat)) = 1 / 2 := by rfl
    have hf1 := Rat.floor_le (q * (n : Rat) + ((1 : Int) : Rat) / ((2 : Int) : Rat))
    have hf2 := Rat.lt_floor_add_one (q * (n : Rat) + ((1 : Int) : Rat) / ((2 : Int) : Rat))
    generalize (q * (n : Rat) + ((1 : Int) : Rat) / ((2 : Int) : Rat)).floor = k at *
    have hy : ((k : Rat) / (n : Rat)) * (n : Rat) = k := by rw [Rat.div_mul_cancel n0]
    generalize (k : Rat) / (n : Rat) = y at *
    have fy : Fit y := fit_bd by1 (by decide) (by decide)
    obtain ⟨r2, _⟩ := rtO_small by1 n1 n2 (by omega) (by omega)
    have hk : (y * (n : Rat) + ((1 : Int) : Rat) / ((2 : Int) : Rat)).floor = k := by
      rw [hy]
      have a1 : k ≤ ((k : Rat) + ((1 : Int) : Rat) / ((2 : Int) : Rat)).floor := Rat.le_floor_iff.2 (by rw [h21]; grind)
      have a2 : ((k : Rat) + ((1 : Int) : Rat) / ((2 : Int) : Rat)).floor < k + 1 := Rat.floor_lt_iff.2 (by rw [h21, Rat.intCast_add]; grind)
      omega
    rw [hk] at r2
    have hy2 : (k : Rat) / (n : Rat) = y := by rw [← hy, Rat.mul_div_cancel n0]
    rw [hy2] at r2
    rw [impl_round fq n1 (by omega), r1]
    have b3 := bd_sub by1 bq
    have f3 : Fit (y - q) := fit_bd b3 (by decide) (by decide)
    have b4 : Bd ((2 * n : Int) : Rat) 100 1 := (bd_int _).mono (by omega) (by omega)
    have f4 : Fit ((2 * n : Int) : Rat) := fit_bd b4 (by decide) (by decide)
    have b5 := bd_mul b3 b4
    have f5 : Fit ((y - q) * ((2 * n : Int) : Rat)) := fit_bd b5 (by decide) (by decide)
    have f6 : Fit ((1 : Int) : Rat) := fit_int (by omega) (by omega)
    have rn := impl_round fy n1 (show n ≤ 1000000 by omega)
    rw [r2] at rn
    obtain ⟨c1, d1, d2, _⟩ := rat_cmp f5 f6
    obtain ⟨c2, d3, _, d4⟩ := rat_cmp f5 (fit_neg f6)
    have h2n : ((2 * n : Int) : Rat) = 2 * (n : Rat) := by rw [Rat.intCast_mul]; rfl
    have key1 : (y - q) * ((2 * n : Int) : Rat) ≤ ((1 : Int) : Rat) := by
      rw [h2n]; rw [h21] at hf1 hf2; rw [Rat.intCast_add] at hf2
      have : ((1 : Int) : Rat) = 1 := rfl
      grind
    have key2 : -((1 : Int) : Rat) < (y - q) * ((2 * n : Int) : Rat) := by
      rw [h2n]; rw [h21] at hf1 hf2; rw [Rat.intCast_add] at hf2
      have : ((1 : Int) : Rat) = 1 := rfl
      grind
    have e6 : M_impl_RatFromInt (2 * n) = some (rq ((2 * n : Int) : Rat)) := impl_ratInt (by omega) (by omega)
    have e7 : M_impl_RatFromInt 1 = some (rq ((1 : Int) : Rat)) := impl_ratInt (by omega) (by omega)
    have ok : M_impl_RatOk (rq y) = some true := impl_okO fy.ok
    show ((some (rq y)).bind _) = _
    simp only [Option.bind_some, rat_sub fy fq f3, e6, e7, rat_mul f3 f4 f5, ok, cond_true, d1, d2, decide_eq_true key1, rat_neg f6, d3, d4, decide_eq_true key2, rn]
    show ((M_impl_RatEqual (rq y) (rq y)).bind _) = _
    rw [rat_eq fy]; simp
end Go.Di
