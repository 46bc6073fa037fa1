/-
  Own work: part 9 of the texts that the proof of the given statement leans on.
-/
import Derived.Test.YtdgoinbkngnmlaaZDirectionsP01
namespace Go.Di
end Go.Di
namespace Go.Di
end Go.Di
namespace Go.Di
theorem fit1 : Oks (some ((1 : Int) : Rat)) := (fit_int (by omega) (by omega)).ok
theorem fit2 : Oks (some ((2 : Int) : Rat)) := (fit_int (by omega) (by omega)).ok
noncomputable def unC (q : Rat) : Option Rat := divO (subO (some ((1 : Int) : Rat)) (mulO (some q) (some q))) (addO (some ((1 : Int) : Rat)) (mulO (some q) (some q)))
noncomputable def unS (q : Rat) : Option Rat := divO (mulO (some ((2 : Int) : Rat)) (some q)) (addO (some ((1 : Int) : Rat)) (mulO (some q) (some q)))
/-! ### Half tangents -/
/-! ### Lists of observations -/
end Go.Di
namespace Go.Di
def Cur.ok (c : Cur) : Prop := 0 ≤ c.i ∧ c.i ≤ (c.b.length : Int) ∧ c.b.length ≤ 1048576
theorem and255 (x : BitVec 64) : 0 ≤ ((x &&& BitVec.ofInt 64 255).toNat : Int) ∧ ((x &&& BitVec.ofInt 64 255).toNat : Int) ≤ 255 := by
  refine ⟨by omega, ?_⟩
  have h : (x &&& BitVec.ofInt 64 255).toNat ≤ 255 := by
    rw [BitVec.toNat_and]
    have : (BitVec.ofInt 64 255).toNat = 255 := by decide
    rw [this]; exact Nat.and_le_right
  omega
theorem wrap255 (x : BitVec 64) : 0 ≤ IntKind.i64.wrap ((x &&& BitVec.ofInt 64 255).toNat : Int) ∧ IntKind.i64.wrap ((x &&& BitVec.ofInt 64 255).toNat : Int) ≤ 255 := by
  have h := and255 x
  rw [wrap_i64 (by omega) (by omega)]; exact h
theorem cur_byte {c : Cur} (h : c.ok) : ∃ v c', M_spec_l01Byte c = some (v, c') ∧ 0 ≤ v ∧ v ≤ 255 ∧ c'.ok := by
  unfold M_spec_l01Byte
  cases hc : decide (c.i < (c.b.length : Int)) with
  | true =>
    have hl := of_decide_eq_true hc
    rw [cond_true, idx_int h.1 hl, Option.bind_some]
    refine ⟨_, _, rfl, (wrap255 _).1, (wrap255 _).2, ?_⟩
    have h1 := h.1
    have h2 := h.2.2
    show 0 ≤ IntKind.i64.wrap (c.i + 1) ∧ IntKind.i64.wrap (c.i + 1) ≤ _ ∧ _
    rw [wrap_i64 (by omega) (by omega)]
    exact ⟨by omega, by show c.i + 1 ≤ (c.b.length : Int); omega, h2⟩
  | false =>
    rw [cond_false]
    exact ⟨_, _, rfl, (wrap255 _).1, (wrap255 _).2, h⟩
theorem tmod_lt {a n : Int} (h0 : 0 ≤ a) (hn : 0 < n) : 0 ≤ a.tmod n ∧ a.tmod n < n := ⟨Int.tmod_nonneg _ h0, Int.tmod_lt_of_pos _ hn⟩
theorem cur_below {c : Cur} (h : c.ok) {n : Int} (hn : 0 < n) : ∃ v c', M_spec_l01Below c n = some (v, c') ∧ 0 ≤ v ∧ v < n ∧ c'.ok := by
  unfold M_spec_l01Below
  rw [decide_eq_false (show ¬ n ≤ 0 by omega), cond_false]
  have hg : guardO (n != 0) = some () := by
    have : (n != 0) = true := by simp; omega
    rw [this]; rfl
  obtain ⟨v, c1, e1, h1, h2, k1⟩ := cur_byte h
  cases decide (n ≤ 256) with
  | true =>
    rw [cond_true, e1, Option.bind_some]
    simp only [hg, Option.bind_some]
    exact ⟨_, _, rfl, (tmod_lt h1 hn).1, (tmod_lt h1 hn).2, k1⟩
  | false =>
    obtain ⟨v2, c2, e2, h3, h4, k2⟩ := cur_byte k1
    obtain ⟨v3, c3, e3, h5, h6, k3⟩ := cur_byte k2
    obtain ⟨v4, c4, e4, h7, h8, k4⟩ := cur_byte k3
    rw [cond_false, e1, Option.bind_some]
    simp only [e2, e3, e4, hg, Option.bind_some]
    have h0 : 0 ≤ IntKind.i64.wrap (IntKind.i64.wrap (IntKind.i64.wrap (IntKind.i64.wrap (v * 16777216) + IntKind.i64.wrap (v2 * 65536)) + IntKind.i64.wrap (v3 * 256)) + v4) := by
      rw [wrap_i64 (n := v * 16777216) (by omega) (by omega), wrap_i64 (n := v2 * 65536) (by omega) (by omega), wrap_i64 (n := v3 * 256) (by omega) (by omega), wrap_i64 (n := v * 16777216 + v2 * 65536) (by omega) (by omega), wrap_i64 (n := v * 16777216 + v2 * 65536 + v3 * 256) (by omega) (by omega), wrap_i64 (by omega) (by omega)]
      omega
    exact ⟨_, _, rfl, (tmod_lt h0 hn).1, (tmod_lt h0 hn).2, k4⟩
theorem cur_once {c : Cur} (h : c.ok) {n : Int} (hn : 0 < n) : ∃ v c', M_spec_l01Once c n = some (v, c') ∧ c'.ok := by
  obtain ⟨v, c1, e1, _, _, k1⟩ := cur_below h hn
  unfold M_spec_l01Once
  rw [e1, Option.bind_some]
  exact ⟨_, _, rfl, k1⟩
theorem cur_new {code : List Int} (h : code.length ≤ 1048576) : ∃ c, M_spec_l01New code = some c ∧ c.ok := by
  unfold M_spec_l01New L_spec_l01New_0
  obtain ⟨r, hr, hq⟩ := whileO_meas (S := S_spec_l01New_0) (fun x => x.1 = code ∧ 0 ≤ x.2.2.1 ∧ x.2.2.1 ≤ (code.length : Int)) (fun x => code.length - x.2.2.1.toNat) (fun r => r.1 = code)
    (by
      rintro ⟨co, hh, i, u⟩ ⟨hco, h1, h2⟩
      simp only at h1 h2 hco
      subst hco
      unfold S_spec_l01New_0
      simp only
      cases hc : decide (i < (co.length : Int)) with
      | true =>
        have hl := of_decide_eq_true hc
        rw [cond_true]
        cases decide (i < 4000) with
        | true =>
          rw [cond_true, idx_int h1 hl, Option.bind_some]
          refine .inl ⟨_, rfl, ⟨rfl, ?_, ?_⟩, ?_⟩ <;> simp only <;> rw [wrap_i64 (by omega) (by omega)] <;> omega
        | false => exact .inr ⟨_, rfl, rfl⟩
      | false => exact .inr ⟨_, rfl, rfl⟩)
    (x := (code, IntKind.i64.wrap (1973 + (code.length : Int)), 0, ())) ⟨rfl, by simp, by simp⟩
  rw [hr, Option.bind_some]
  obtain ⟨co, hh, u⟩ := r
  simp only at hq
  subst hq
  exact ⟨_, rfl, by show (0 : Int) ≤ 0; omega, by show (0 : Int) ≤ (co.length : Int); omega, h⟩
theorem cur_at {code : List Int} (h : code.length ≤ 1048576) {n : Int} (hn : n ≤ 1000000) : ∃ c, M_spec_l30New code n = some c ∧ c.ok := by
  unfold M_spec_l30New L_spec_l30New_0
  obtain ⟨c, e, k⟩ := cur_new h
  rw [e, Option.bind_some]
  obtain ⟨r, hr, hq⟩ := whileO_meas (S := S_spec_l30New_0) (fun x => x.1 = n ∧ 0 ≤ x.2.1 ∧ Cur.ok ⟨x.2.2.1, x.2.2.2.1, x.2.2.2.2.1⟩) (fun x => (n - x.2.1).toNat) (fun r => Cur.ok ⟨r.1, r.2.1, r.2.2.1⟩)
    (by
      rintro ⟨m, i, v, v1, v2, u⟩ ⟨rfl, h1, h2⟩
      simp only at h1 h2 hn
      unfold S_spec_l30New_0
      simp only
      cases hc : decide (i < m) with
      | true =>
        have hl := of_decide_eq_true hc
        obtain ⟨w, c', e1, _, _, k1⟩ := cur_byte h2
        rw [cond_true, e1, Option.bind_some]
        refine .inl ⟨_, rfl, ⟨rfl, ?_, k1⟩, ?_⟩ <;> simp only <;> rw [wrap_i64 (by omega) (by omega)] <;> omega
      | false => exact .inr ⟨_, rfl, h2⟩)
    (x := (n, 0, c.b, c.i, c.h, ())) ⟨rfl, by simp, k⟩
  rw [hr, Option.bind_some]
  exact ⟨_, rfl, hq⟩
/-! ### Bounds of a fraction's parts -/
def Bd (q : Rat) (n d : Nat) : Prop := q.num.natAbs ≤ n ∧ q.den ≤ d
theorem Bd.mono {q : Rat} {n d m e : Nat} (h : Bd q n d) (h1 : n ≤ m) (h2 : d ≤ e) : Bd q m e := ⟨Nat.le_trans h.1 h1, Nat.le_trans h.2 h2⟩
theorem bd_mk {z : Int} {d : Nat} (hd : d ≠ 0) : Bd (mkRat z d) z.natAbs d := by
  refine ⟨?_, ?_⟩
  · rw [mk_abs z hd]; exact Nat.div_le_self _ _
  · rw [(mk_parts z hd).2]; exact Nat.div_le_self _ _
theorem bd_int (n : Int) : Bd (n : Rat) n.natAbs 1 := ⟨by rw [Rat.num_intCast]; exact Nat.le_refl _, by rw [Rat.den_intCast]; exact Nat.le_refl _⟩
theorem bd_mul {a b : Rat} {n d m e : Nat} (h : Bd a n d) (k : Bd b m e) : Bd (a * b) (n * m) (d * e) := by
  rw [← mk_mul]
  refine (bd_mk (Nat.mul_ne_zero a.den_nz b.den_nz)).mono ?_ (Nat.mul_le_mul h.2 k.2)
  rw [Int.natAbs_mul]; exact Nat.mul_le_mul h.1 k.1
theorem bd_add {a b : Rat} {n d m e : Nat} (h : Bd a n d) (k : Bd b m e) : Bd (a + b) (n * e + m * d) (d * e) := by
  rw [← mk_add]
  refine (bd_mk (Nat.mul_ne_zero a.den_nz b.den_nz)).mono ?_ (Nat.mul_le_mul h.2 k.2)
  refine Nat.le_trans (Int.natAbs_add_le _ _) (Nat.add_le_add ?_ ?_)
  · rw [Int.natAbs_mul]; exact Nat.mul_le_mul h.1 k.2
  · rw [Int.natAbs_mul]; exact Nat.mul_le_mul k.1 h.2
theorem bd_neg {a : Rat} {n d : Nat} (h : Bd a n d) : Bd (-a) n d := ⟨by rw [Rat.neg_num, Int.natAbs_neg]; exact h.1, by rw [Rat.neg_den]; exact h.2⟩
theorem bd_sub {a b : Rat} {n d m e : Nat} (h : Bd a n d) (k : Bd b m e) : Bd (a - b) (n * e + m * d) (d * e) := by
  rw [Rat.sub_eq_add_neg]; exact bd_add h (bd_neg k)
theorem bd_div {a b : Rat} {n d m e : Nat} (h : Bd a n d) (k : Bd b m e) (hb : b ≠ 0) : Bd (a / b) (n * e) (d * m) := by
  rw [← mk_div a b hb]
  have hn : b.num ≠ 0 := fun h => hb (Rat.num_eq_zero.1 h)
  refine (bd_mk (Nat.mul_ne_zero a.den_nz (by omega))).mono ?_ (Nat.mul_le_mul h.2 k.1)
  rw [Int.natAbs_mul, sg_abs]; exact Nat.mul_le_mul h.1 k.2
theorem Bd.fit {q : Rat} {n d : Nat} (h : Bd q n d) (h1 : n ≤ 10 ^ 200) (h2 : d ≤ 10 ^ 200) : Fit q := by
  have e : ((10 ^ 200 : Nat) : Int) < bp 24 := by decide
  exact ⟨len_dg.2 (Int.lt_of_le_of_lt (Int.ofNat_le.2 (Nat.le_trans h.1 h1)) e), len_dg.2 (Int.lt_of_le_of_lt (Int.ofNat_le.2 (Nat.le_trans h.2 h2)) e)⟩
theorem chk_bd {q : Rat} {n d : Nat} (h : Bd q n d) (h1 : n ≤ 10 ^ 200) (h2 : d ≤ 10 ^ 200) : chk q = some q := chk_fit (h.fit h1 h2)
theorem cur_number {c : Cur} (h : c.ok) : ∃ q c', M_spec_l05Number c = some (rq q, c') ∧ Bd q 20 6 ∧ c'.ok := by
  unfold M_spec_l05Number
  obtain ⟨w, c1, e1, k1⟩ := cur_once h (n := 3) (by omega)
  rw [e1, Option.bind_some]
  cases w with
  | true =>
    obtain ⟨a, c2, e2, h1, h2, k2⟩ := cur_below k1 (n := 41) (by omega)
    obtain ⟨b, c3, e3, h3, h4, k3⟩ := cur_below k2 (n := 6) (by omega)
    simp only [cond_true, e2, e3, Option.bind_some]
    rw [wrap_i64 (n := a - 20) (by omega) (by omega), wrap_i64 (n := 1 + b) (by omega) (by omega), spec_ratOf (by omega) (by omega) (by omega) (by omega) (by omega)]
    have bd : Bd (((a - 20 : Int) : Rat) / ((1 + b : Int) : Rat)) 20 6 := by
      have hb : ((1 + b : Int) : Rat) ≠ 0 := by
        intro e0
        have h0 := congrArg Rat.num e0
        rw [Rat.num_intCast] at h0
        have : (0 : Rat).num = 0 := rfl
        omega
      exact (bd_div (bd_int _) (bd_int _) hb).mono (by omega) (by omega)
    rw [chk_bd bd (by decide) (by decide), Option.bind_some]
    exact ⟨_, _, rfl, bd, k3⟩
  | false =>
    obtain ⟨a, c2, e2, h1, h2, k2⟩ := cur_below k1 (n := 21) (by omega)
    simp only [cond_false, e2, Option.bind_some]
    rw [wrap_i64 (n := a - 10) (by omega) (by omega), spec_ratInt (by omega) (by omega), Option.bind_some]
    exact ⟨_, _, rfl, (bd_int _).mono (by omega) (by omega), k2⟩
theorem make_rat {code : List Int} (h : code.length ≤ 1048576) {n : Int} (hn : n ≤ 1000000) : ∃ q, M_spec_MakeRat code n = some (rq q) ∧ Bd q 20 6 := by
  unfold M_spec_MakeRat
  obtain ⟨c, e, k⟩ := cur_at h hn
  obtain ⟨q, c1, e1, b, _⟩ := cur_number k
  rw [e, Option.bind_some, e1, Option.bind_some]
  exact ⟨q, rfl, b⟩
end Go.Di
namespace Go.Di
theorem bothq_ok {p q : Rat} (hp : Fit p) (hq : Fit q) : M_impl_both (rq p) (rq q) = some true := by
  unfold M_impl_both
  rw [show rq p = ro (some p) from rfl, show rq q = ro (some q) from rfl, impl_okO hp.ok, Option.bind_some, impl_okO hq.ok]; rfl
theorem rat_mul {p q : Rat} (hp : Fit p) (hq : Fit q) (h : Fit (p * q)) : M_impl_RatMul (rq p) (rq q) = some (rq (p * q)) := by
  unfold M_impl_RatMul
  rw [bothq_ok hp hq, Option.bind_some]
  show ((M_impl_mul (ro (some p)) (ro (some q))).bind _) = _
  rw [impl_mulO hp.ok hq.ok, Option.bind_some]
  show some (ro (chk (p * q))) = _
  rw [chk_fit h]; rfl
theorem rat_add {p q : Rat} (hp : Fit p) (hq : Fit q) (h : Fit (p + q)) : M_impl_RatAdd (rq p) (rq q) = some (rq (p + q)) := by
  unfold M_impl_RatAdd
  rw [bothq_ok hp hq, Option.bind_some]
  show ((M_impl_add (ro (some p)) (ro (some q))).bind _) = _
  rw [impl_addO hp.ok hq.ok, Option.bind_some]
  show some (ro (chk (p + q))) = _
  rw [chk_fit h]; rfl
theorem rat_eq {p q : Rat} (hp : Fit p) : M_impl_RatEqual (rq p) (rq q) = some (decide (p = q)) := by
  have hf : (rq p).fit := ro_fit hp.ok
  rw [impl_ratEq hf]
  congr 1
  show pB (rq p = rq q) = _
  rw [Bool.eq_iff_iff, pB_iff, decide_eq_true_iff]
  exact ⟨rq_inj, fun h => by rw [h]⟩
theorem fit_bd {q : Rat} {n d : Nat} (h : Bd q n d) (h1 : decide (n ≤ 10 ^ 200) = true) (h2 : decide (d ≤ 10 ^ 200) = true) : Fit q := h.fit (of_decide_eq_true h1) (of_decide_eq_true h2)
end Go.Di
namespace Go.Di
theorem sq_nonneg (q : Rat) : 0 ≤ q * q := by
  rcases Rat.le_total (a := 0) (b := q) with h | h
  · exact Rat.mul_nonneg h h
  · have : 0 ≤ (-q) * (-q) := Rat.mul_nonneg (by grind) (by grind)
    grind
theorem one_sq (q : Rat) : ((1 : Int) : Rat) + q * q ≠ 0 := by
  have := sq_nonneg q
  have h1 : ((1 : Int) : Rat) = 1 := rfl
  intro h
  grind
theorem unit_small {q : Rat} (h : Bd q 20 6) :
    M_impl_UnitOf (rq q) = some (rq ((((1 : Int) : Rat) - q * q) / (((1 : Int) : Rat) + q * q)), rq ((((2 : Int) : Rat) * q) / (((1 : Int) : Rat) + q * q))) ∧
      Bd ((((1 : Int) : Rat) - q * q) / (((1 : Int) : Rat) + q * q)) 20000 20000 ∧ Bd ((((2 : Int) : Rat) * q) / (((1 : Int) : Rat) + q * q)) 20000 20000 := by
  have hr : (rq q).fit := ro_fit (h.fit (by decide) (by decide)).ok
  have hf : Fit q := h.fit (by decide) (by decide)
  have e : rq q = ro (some q) := rfl
  have b1 : Bd ((1 : Int) : Rat) 1 1 := bd_int 1
  have b2 : Bd ((2 : Int) : Rat) 2 1 := bd_int 2
  have bq := bd_mul h h
  have ba := bd_add b1 bq
  have bs := bd_sub b1 bq
  have bm := bd_mul b2 h
  have bc := bd_div bs ba (one_sq q)
  have bd := bd_div bm ba (one_sq q)
  have m1 : mulO (some q) (some q) = some (q * q) := chk_fit (fit_bd bq (by decide) (by decide))
  have m2 : subO (some ((1 : Int) : Rat)) (some (q * q)) = some (((1 : Int) : Rat) - q * q) := by
    show chk (((1 : Int) : Rat) + -(q * q)) = _
    rw [← Rat.sub_eq_add_neg, chk_fit (fit_bd bs (by decide) (by decide))]
  have m3 : addO (some ((1 : Int) : Rat)) (some (q * q)) = some (((1 : Int) : Rat) + q * q) := chk_fit (fit_bd ba (by decide) (by decide))
  have m4 : mulO (some ((2 : Int) : Rat)) (some q) = some (((2 : Int) : Rat) * q) := chk_fit (fit_bd bm (by decide) (by decide))
  have m5 : unC q = some ((((1 : Int) : Rat) - q * q) / (((1 : Int) : Rat) + q * q)) := by
    unfold unC divO
    rw [m1, m2, m3, Option.bind_some, Option.bind_some, if_neg (one_sq q), chk_fit (fit_bd bc (by decide) (by decide))]
  have m6 : unS q = some ((((2 : Int) : Rat) * q) / (((1 : Int) : Rat) + q * q)) := by
    unfold unS divO
    rw [m1, m3, m4, Option.bind_some, Option.bind_some, if_neg (one_sq q), chk_fit (fit_bd bd (by decide) (by decide))]
  refine ⟨?_, bc.mono (by decide) (by decide), bd.mono (by decide) (by decide)⟩
  have hi : M_impl_UnitOf (rq q) = some (cond (unC q).isNone (ro none, ro none) (cond (unS q).isNone (ro none, ro none) (ro (unC q), ro (unS q)))) := by
    unfold M_impl_UnitOf
    rw [impl_ratOk hr, good_rq hf, e]
    simp only [Option.bind_some, Bool.not_true, cond_false]
    rw [impl_mulO hf.ok hf.ok, Option.bind_some, impl_whole (by omega) (by omega), Option.bind_some, impl_addO fit1 oks_mulO, Option.bind_some, Option.bind_some, impl_subO fit1 oks_mulO, Option.bind_some, impl_divO oks_subO oks_addO, Option.bind_some, impl_whole (by omega) (by omega), Option.bind_some, impl_mulO fit2 hf.ok, Option.bind_some, impl_divO oks_mulO oks_addO, Option.bind_some, impl_void, Option.bind_some]
    show (cond (unC q).isNone (some (ro none, ro none)) ((M_impl_void (ro (unS q))).bind fun r10 => cond r10 (some (ro none, ro none)) (some (ro (unC q), ro (unS q))))) = _
    rw [impl_void, Option.bind_some]
    cases (unC q).isNone <;> cases (unS q).isNone <;> rfl
  rw [hi, m5, m6]; rfl
set_option maxHeartbeats 1000000 in
theorem law_FnDirections (code : List Int) (_ : CK.wf (.sl .byte) code) : M_laws_FnDirections code = some true := by
  unfold M_laws_FnDirections
  cases hc : decide ((code.length : Int) > 1048576) with
  | true => rfl
  | false =>
    have hl : code.length ≤ 1048576 := by have := of_decide_eq_false hc; omega
    obtain ⟨t, e1, bt⟩ := make_rat hl (n := 1) (by omega)
    obtain ⟨x, e2, bx⟩ := make_rat hl (n := 5) (by omega)
    obtain ⟨y, e3, bY⟩ := make_rat hl (n := 9) (by omega)
    obtain ⟨u, bc, bs⟩ := unit_small bt
    have hne := one_sq t
    generalize hcc : (((1 : Int) : Rat) - t * t) / (((1 : Int) : Rat) + t * t) = c at *
    generalize hss : (((2 : Int) : Rat) * t) / (((1 : Int) : Rat) + t * t) = s at *
    have fx : Fit x := fit_bd bx (by decide) (by decide)
    have fy : Fit y := fit_bd bY (by decide) (by decide)
    have fc : Fit c := fit_bd bc (by decide) (by decide)
    have fs : Fit s := fit_bd bs (by decide) (by decide)
    have b1 := (bd_mul bc bx).mono (m := 10 ^ 6) (e := 10 ^ 6) (by decide) (by decide)
    have b2 := (bd_mul bs bY).mono (m := 10 ^ 6) (e := 10 ^ 6) (by decide) (by decide)
    have b3 := (bd_add b1 b2).mono (m := 10 ^ 13) (e := 10 ^ 13) (by decide) (by decide)
    have b4 := (bd_mul bc bY).mono (m := 10 ^ 6) (e := 10 ^ 6) (by decide) (by decide)
    have b5 := (bd_mul bs bx).mono (m := 10 ^ 6) (e := 10 ^ 6) (by decide) (by decide)
    have b6 := (bd_sub b4 b5).mono (m := 10 ^ 13) (e := 10 ^ 13) (by decide) (by decide)
    have al : M_impl_LengthAlong (rq t) (rq x) (rq y) = some (rq (c * x + s * y)) := by
      unfold M_impl_LengthAlong
      rw [u, Option.bind_some]
      simp only [bothq_ok fx fy, Option.bind_some, Bool.not_true, cond_false]
      have okc : M_impl_RatOk (rq c) = some true := impl_okO fc.ok
      have f1 : mulO (some c) (some x) = some (c * x) := chk_fit (fit_bd b1 (by decide) (by decide))
      have f2 : mulO (some s) (some y) = some (s * y) := chk_fit (fit_bd b2 (by decide) (by decide))
      have f3 : addO (some (c * x)) (some (s * y)) = some (c * x + s * y) := chk_fit (fit_bd b3 (by decide) (by decide))
      have g1 : M_impl_mul (rq c) (rq x) = some (ro (some (c * x))) := f1 ▸ impl_mulO fc.ok fx.ok
      have g2 : M_impl_mul (rq s) (rq y) = some (ro (some (s * y))) := f2 ▸ impl_mulO fs.ok fy.ok
      have g3 := impl_addO (o := some (c * x)) (p := some (s * y)) (f1 ▸ oks_mulO) (f2 ▸ oks_mulO)
      rw [f3] at g3
      simp only [okc, g1, g2, g3, Option.bind_some, Bool.not_true, cond_false, cond_true]
      rfl
    have off : M_impl_OffsetFrom (rq t) (rq x) (rq y) = some (rq (c * y - s * x)) := by
      unfold M_impl_OffsetFrom
      rw [u, Option.bind_some]
      simp only [bothq_ok fx fy, Option.bind_some, Bool.not_true, cond_false]
      have okc : M_impl_RatOk (rq c) = some true := impl_okO fc.ok
      have f1 : mulO (some c) (some y) = some (c * y) := chk_fit (fit_bd b4 (by decide) (by decide))
      have f2 : mulO (some s) (some x) = some (s * x) := chk_fit (fit_bd b5 (by decide) (by decide))
      have f3 : subO (some (c * y)) (some (s * x)) = some (c * y - s * x) := by
        show chk (c * y + -(s * x)) = _
        rw [← Rat.sub_eq_add_neg, chk_fit (fit_bd b6 (by decide) (by decide))]
      have g1 : M_impl_mul (rq c) (rq y) = some (ro (some (c * y))) := f1 ▸ impl_mulO fc.ok fy.ok
      have g2 : M_impl_mul (rq s) (rq x) = some (ro (some (s * x))) := f2 ▸ impl_mulO fs.ok fx.ok
      have g3 := impl_subO (o := some (c * y)) (p := some (s * x)) (f1 ▸ oks_mulO) (f2 ▸ oks_mulO)
      rw [f3] at g3
      simp only [okc, g1, g2, g3, Option.bind_some, Bool.not_true, cond_false, cond_true]
      rfl
    have fl : Fit (c * x + s * y) := fit_bd b3 (by decide) (by decide)
    have fo : Fit (c * y - s * x) := fit_bd b6 (by decide) (by decide)
    have bcc := (bd_mul bc bc).mono (m := 10 ^ 26) (e := 10 ^ 26) (by decide) (by decide)
    have bss := (bd_mul bs bs).mono (m := 10 ^ 26) (e := 10 ^ 26) (by decide) (by decide)
    have bl := (bd_mul b3 b3).mono (m := 10 ^ 26) (e := 10 ^ 26) (by decide) (by decide)
    have bo := (bd_mul b6 b6).mono (m := 10 ^ 26) (e := 10 ^ 26) (by decide) (by decide)
    have bxx := (bd_mul bx bx).mono (m := 10 ^ 26) (e := 10 ^ 26) (by decide) (by decide)
    have byy := (bd_mul bY bY).mono (m := 10 ^ 26) (e := 10 ^ 26) (by decide) (by decide)
    have h1 : ((1 : Int) : Rat) = 1 := rfl
    have h2 : ((2 : Int) : Rat) = 2 := rfl
    have k1 : c * c + s * s = ((1 : Int) : Rat) := by
      rw [← hcc, ← hss, h2]; rw [h1] at hne ⊢; grind
    have k2 : (c * x + s * y) * (c * x + s * y) + (c * y - s * x) * (c * y - s * x) = x * x + y * y := by
      rw [h1] at k1; grind
    have b7 := (bd_add bcc bss).mono (m := 10 ^ 60) (e := 10 ^ 60) (by decide) (by decide)
    have f7 := fit_bd b7 (by decide) (by decide)
    have bxy := (bd_add bxx byy).mono (m := 10 ^ 60) (e := 10 ^ 60) (by decide) (by decide)
    have f10 : Fit ((c * x + s * y) * (c * x + s * y) + (c * y - s * x) * (c * y - s * x)) := by rw [k2]; exact fit_bd bxy (by decide) (by decide)
    have e7 : M_impl_RatFromInt 1 = some (rq ((1 : Int) : Rat)) := impl_ratInt (by omega) (by omega)
    have fcc := fit_bd bcc (by decide) (by decide)
    have fss := fit_bd bss (by decide) (by decide)
    have fll := fit_bd bl (by decide) (by decide)
    have foo := fit_bd bo (by decide) (by decide)
    have fxx := fit_bd bxx (by decide) (by decide)
    have fyy := fit_bd byy (by decide) (by decide)
    have ok : M_impl_RatOk (rq ((c * x + s * y) * (c * x + s * y) + (c * y - s * x) * (c * y - s * x))) = some true := impl_okO f10.ok
    simp only [cond_false, e1, e2, e3, Option.bind_some, u, al, off, rat_mul fc fc fcc, rat_mul fs fs fss, rat_add fcc fss f7, rat_mul fl fl fll, rat_mul fo fo foo, rat_add fll foo f10, e7, rat_eq f7, decide_eq_true k1, cond_true,
      rat_mul fx fx fxx, rat_mul fy fy fyy, rat_add fxx fyy (fit_bd bxy (by decide) (by decide)), rat_eq f10, decide_eq_true k2, ok]
end Go.Di
