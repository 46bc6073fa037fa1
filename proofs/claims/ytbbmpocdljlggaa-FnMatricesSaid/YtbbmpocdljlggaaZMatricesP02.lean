/-
  Own work: part 9 of the texts that the proof of the given statement leans on.
-/
import Derived.Test.YtbbmpocdljlggaaZMatricesP01
namespace Go.Di
end Go.Di
namespace Go.Di
end Go.Di
namespace Go.Di
/-! ### Half tangents -/
/-! ### Lists of observations -/
end Go.Di
namespace Go.Di
def Cur.ok (c : Cur) : Prop := 0 ≤ c.i ∧ c.i ≤ (c.b.length : Int) ∧ c.b.length ≤ 1048576
theorem and255 (x : BitVec 64) : 0 ≤ ((x &&& BitVec.ofInt 64 255).toNat : Int) ∧ ((x &&& BitVec.ofInt 64 255).toNat : Int) ≤ 255 := by
  refine ⟨by omega, ?_⟩
  have h : (x &&& BitVec.ofInt 64 255).toNat ≤ 255 := by
    rw [BitVec.toNat_and]
    have : (BitVec.ofInt 64 255).toNat = 255 := by decide
    rw [this]; exact Nat.and_le_right
  omega
theorem wrap255 (x : BitVec 64) : 0 ≤ IntKind.i64.wrap ((x &&& BitVec.ofInt 64 255).toNat : Int) ∧ IntKind.i64.wrap ((x &&& BitVec.ofInt 64 255).toNat : Int) ≤ 255 := by
  have h := and255 x
  rw [wrap_i64 (by omega) (by omega)]; exact h
theorem cur_byte {c : Cur} (h : c.ok) : ∃ v c', M_spec_l01Byte c = some (v, c') ∧ 0 ≤ v ∧ v ≤ 255 ∧ c'.ok := by
  unfold M_spec_l01Byte
  cases hc : decide (c.i < (c.b.length : Int)) with
  | true =>
    have hl := of_decide_eq_true hc
    rw [cond_true, idx_int h.1 hl, Option.bind_some]
    refine ⟨_, _, rfl, (wrap255 _).1, (wrap255 _).2, ?_⟩
    have h1 := h.1
    have h2 := h.2.2
    show 0 ≤ IntKind.i64.wrap (c.i + 1) ∧ IntKind.i64.wrap (c.i + 1) ≤ _ ∧ _
    rw [wrap_i64 (by omega) (by omega)]
    exact ⟨by omega, by show c.i + 1 ≤ (c.b.length : Int); omega, h2⟩
  | false =>
    rw [cond_false]
    exact ⟨_, _, rfl, (wrap255 _).1, (wrap255 _).2, h⟩
theorem tmod_lt {a n : Int} (h0 : 0 ≤ a) (hn : 0 < n) : 0 ≤ a.tmod n ∧ a.tmod n < n := ⟨Int.tmod_nonneg _ h0, Int.tmod_lt_of_pos _ hn⟩
theorem cur_below {c : Cur} (h : c.ok) {n : Int} (hn : 0 < n) : ∃ v c', M_spec_l01Below c n = some (v, c') ∧ 0 ≤ v ∧ v < n ∧ c'.ok := by
  unfold M_spec_l01Below
  rw [decide_eq_false (show ¬ n ≤ 0 by omega), cond_false]
  have hg : guardO (n != 0) = some () := by
    have : (n != 0) = true := by simp; omega
    rw [this]; rfl
  obtain ⟨v, c1, e1, h1, h2, k1⟩ := cur_byte h
  cases decide (n ≤ 256) with
  | true =>
    rw [cond_true, e1, Option.bind_some]
    simp only [hg, Option.bind_some]
    exact ⟨_, _, rfl, (tmod_lt h1 hn).1, (tmod_lt h1 hn).2, k1⟩
  | false =>
    obtain ⟨v2, c2, e2, h3, h4, k2⟩ := cur_byte k1
    obtain ⟨v3, c3, e3, h5, h6, k3⟩ := cur_byte k2
    obtain ⟨v4, c4, e4, h7, h8, k4⟩ := cur_byte k3
    rw [cond_false, e1, Option.bind_some]
    simp only [e2, e3, e4, hg, Option.bind_some]
    have h0 : 0 ≤ IntKind.i64.wrap (IntKind.i64.wrap (IntKind.i64.wrap (IntKind.i64.wrap (v * 16777216) + IntKind.i64.wrap (v2 * 65536)) + IntKind.i64.wrap (v3 * 256)) + v4) := by
      rw [wrap_i64 (n := v * 16777216) (by omega) (by omega), wrap_i64 (n := v2 * 65536) (by omega) (by omega), wrap_i64 (n := v3 * 256) (by omega) (by omega), wrap_i64 (n := v * 16777216 + v2 * 65536) (by omega) (by omega), wrap_i64 (n := v * 16777216 + v2 * 65536 + v3 * 256) (by omega) (by omega), wrap_i64 (by omega) (by omega)]
      omega
    exact ⟨_, _, rfl, (tmod_lt h0 hn).1, (tmod_lt h0 hn).2, k4⟩
theorem cur_once {c : Cur} (h : c.ok) {n : Int} (hn : 0 < n) : ∃ v c', M_spec_l01Once c n = some (v, c') ∧ c'.ok := by
  obtain ⟨v, c1, e1, _, _, k1⟩ := cur_below h hn
  unfold M_spec_l01Once
  rw [e1, Option.bind_some]
  exact ⟨_, _, rfl, k1⟩
theorem cur_new {code : List Int} (h : code.length ≤ 1048576) : ∃ c, M_spec_l01New code = some c ∧ c.ok := by
  unfold M_spec_l01New L_spec_l01New_0
  obtain ⟨r, hr, hq⟩ := whileO_meas (S := S_spec_l01New_0) (fun x => x.1 = code ∧ 0 ≤ x.2.2.1 ∧ x.2.2.1 ≤ (code.length : Int)) (fun x => code.length - x.2.2.1.toNat) (fun r => r.1 = code)
    (by
      rintro ⟨co, hh, i, u⟩ ⟨hco, h1, h2⟩
      simp only at h1 h2 hco
      subst hco
      unfold S_spec_l01New_0
      simp only
      cases hc : decide (i < (co.length : Int)) with
      | true =>
        have hl := of_decide_eq_true hc
        rw [cond_true]
        cases decide (i < 4000) with
        | true =>
          rw [cond_true, idx_int h1 hl, Option.bind_some]
          refine .inl ⟨_, rfl, ⟨rfl, ?_, ?_⟩, ?_⟩ <;> simp only <;> rw [wrap_i64 (by omega) (by omega)] <;> omega
        | false => exact .inr ⟨_, rfl, rfl⟩
      | false => exact .inr ⟨_, rfl, rfl⟩)
    (x := (code, IntKind.i64.wrap (1973 + (code.length : Int)), 0, ())) ⟨rfl, by simp, by simp⟩
  rw [hr, Option.bind_some]
  obtain ⟨co, hh, u⟩ := r
  simp only at hq
  subst hq
  exact ⟨_, rfl, by show (0 : Int) ≤ 0; omega, by show (0 : Int) ≤ (co.length : Int); omega, h⟩
theorem cur_at {code : List Int} (h : code.length ≤ 1048576) {n : Int} (hn : n ≤ 1000000) : ∃ c, M_spec_l30New code n = some c ∧ c.ok := by
  unfold M_spec_l30New L_spec_l30New_0
  obtain ⟨c, e, k⟩ := cur_new h
  rw [e, Option.bind_some]
  obtain ⟨r, hr, hq⟩ := whileO_meas (S := S_spec_l30New_0) (fun x => x.1 = n ∧ 0 ≤ x.2.1 ∧ Cur.ok ⟨x.2.2.1, x.2.2.2.1, x.2.2.2.2.1⟩) (fun x => (n - x.2.1).toNat) (fun r => Cur.ok ⟨r.1, r.2.1, r.2.2.1⟩)
    (by
      rintro ⟨m, i, v, v1, v2, u⟩ ⟨rfl, h1, h2⟩
      simp only at h1 h2 hn
      unfold S_spec_l30New_0
      simp only
      cases hc : decide (i < m) with
      | true =>
        have hl := of_decide_eq_true hc
        obtain ⟨w, c', e1, _, _, k1⟩ := cur_byte h2
        rw [cond_true, e1, Option.bind_some]
        refine .inl ⟨_, rfl, ⟨rfl, ?_, k1⟩, ?_⟩ <;> simp only <;> rw [wrap_i64 (by omega) (by omega)] <;> omega
      | false => exact .inr ⟨_, rfl, h2⟩)
    (x := (n, 0, c.b, c.i, c.h, ())) ⟨rfl, by simp, k⟩
  rw [hr, Option.bind_some]
  exact ⟨_, rfl, hq⟩
/-! ### Bounds of a fraction's parts -/
def Bd (q : Rat) (n d : Nat) : Prop := q.num.natAbs ≤ n ∧ q.den ≤ d
theorem Bd.mono {q : Rat} {n d m e : Nat} (h : Bd q n d) (h1 : n ≤ m) (h2 : d ≤ e) : Bd q m e := ⟨Nat.le_trans h.1 h1, Nat.le_trans h.2 h2⟩
theorem bd_mk {z : Int} {d : Nat} (hd : d ≠ 0) : Bd (mkRat z d) z.natAbs d := by
  refine ⟨?_, ?_⟩
  · rw [mk_abs z hd]; exact Nat.div_le_self _ _
  · rw [(mk_parts z hd).2]; exact Nat.div_le_self _ _
theorem bd_int (n : Int) : Bd (n : Rat) n.natAbs 1 := ⟨by rw [Rat.num_intCast]; exact Nat.le_refl _, by rw [Rat.den_intCast]; exact Nat.le_refl _⟩
theorem bd_mul {a b : Rat} {n d m e : Nat} (h : Bd a n d) (k : Bd b m e) : Bd (a * b) (n * m) (d * e) := by
  rw [← mk_mul]
  refine (bd_mk (Nat.mul_ne_zero a.den_nz b.den_nz)).mono ?_ (Nat.mul_le_mul h.2 k.2)
  rw [Int.natAbs_mul]; exact Nat.mul_le_mul h.1 k.1
theorem bd_add {a b : Rat} {n d m e : Nat} (h : Bd a n d) (k : Bd b m e) : Bd (a + b) (n * e + m * d) (d * e) := by
  rw [← mk_add]
  refine (bd_mk (Nat.mul_ne_zero a.den_nz b.den_nz)).mono ?_ (Nat.mul_le_mul h.2 k.2)
  refine Nat.le_trans (Int.natAbs_add_le _ _) (Nat.add_le_add ?_ ?_)
  · rw [Int.natAbs_mul]; exact Nat.mul_le_mul h.1 k.2
  · rw [Int.natAbs_mul]; exact Nat.mul_le_mul k.1 h.2
theorem bd_div {a b : Rat} {n d m e : Nat} (h : Bd a n d) (k : Bd b m e) (hb : b ≠ 0) : Bd (a / b) (n * e) (d * m) := by
  rw [← mk_div a b hb]
  have hn : b.num ≠ 0 := fun h => hb (Rat.num_eq_zero.1 h)
  refine (bd_mk (Nat.mul_ne_zero a.den_nz (by omega))).mono ?_ (Nat.mul_le_mul h.2 k.1)
  rw [Int.natAbs_mul, sg_abs]; exact Nat.mul_le_mul h.1 k.2
theorem Bd.fit {q : Rat} {n d : Nat} (h : Bd q n d) (h1 : n ≤ 10 ^ 200) (h2 : d ≤ 10 ^ 200) : Fit q := by
  have e : ((10 ^ 200 : Nat) : Int) < bp 24 := by decide
  exact ⟨len_dg.2 (Int.lt_of_le_of_lt (Int.ofNat_le.2 (Nat.le_trans h.1 h1)) e), len_dg.2 (Int.lt_of_le_of_lt (Int.ofNat_le.2 (Nat.le_trans h.2 h2)) e)⟩
theorem chk_bd {q : Rat} {n d : Nat} (h : Bd q n d) (h1 : n ≤ 10 ^ 200) (h2 : d ≤ 10 ^ 200) : chk q = some q := chk_fit (h.fit h1 h2)
theorem cur_number {c : Cur} (h : c.ok) : ∃ q c', M_spec_l05Number c = some (rq q, c') ∧ Bd q 20 6 ∧ c'.ok := by
  unfold M_spec_l05Number
  obtain ⟨w, c1, e1, k1⟩ := cur_once h (n := 3) (by omega)
  rw [e1, Option.bind_some]
  cases w with
  | true =>
    obtain ⟨a, c2, e2, h1, h2, k2⟩ := cur_below k1 (n := 41) (by omega)
    obtain ⟨b, c3, e3, h3, h4, k3⟩ := cur_below k2 (n := 6) (by omega)
    simp only [cond_true, e2, e3, Option.bind_some]
    rw [wrap_i64 (n := a - 20) (by omega) (by omega), wrap_i64 (n := 1 + b) (by omega) (by omega), spec_ratOf (by omega) (by omega) (by omega) (by omega) (by omega)]
    have bd : Bd (((a - 20 : Int) : Rat) / ((1 + b : Int) : Rat)) 20 6 := by
      have hb : ((1 + b : Int) : Rat) ≠ 0 := by
        intro e0
        have h0 := congrArg Rat.num e0
        rw [Rat.num_intCast] at h0
        have : (0 : Rat).num = 0 := rfl
        omega
      exact (bd_div (bd_int _) (bd_int _) hb).mono (by omega) (by omega)
    rw [chk_bd bd (by decide) (by decide), Option.bind_some]
    exact ⟨_, _, rfl, bd, k3⟩
  | false =>
    obtain ⟨a, c2, e2, h1, h2, k2⟩ := cur_below k1 (n := 21) (by omega)
    simp only [cond_false, e2, Option.bind_some]
    rw [wrap_i64 (n := a - 10) (by omega) (by omega), spec_ratInt (by omega) (by omega), Option.bind_some]
    exact ⟨_, _, rfl, (bd_int _).mono (by omega) (by omega), k2⟩
end Go.Di
namespace Go.Di
theorem rat_eq {p q : Rat} (hp : Fit p) : M_impl_RatEqual (rq p) (rq q) = some (decide (p = q)) := by
  have hf : (rq p).fit := ro_fit hp.ok
  rw [impl_ratEq hf]
  congr 1
  show pB (rq p = rq q) = _
  rw [Bool.eq_iff_iff, pB_iff, decide_eq_true_iff]
  exact ⟨rq_inj, fun h => by rw [h]⟩
end Go.Di
namespace Go.Di
end Go.Di
namespace Go.Di
/-! ### Marks -/
def wS (s : Sta) : Nat := 4 + s.x.mag.length + s.x.den.length + s.y.mag.length + s.y.den.length
structure Sfit (l : List Sta) : Prop where
  fit : lfit Sta.fit l
  few : ws wS l ≤ 1000000000
/-! ### Lists whose first elements are changed -/
/-! ### Copies -/
/-! ### Sums -/
/-! ### Shifted networks -/
/-! ### Moved networks -/
end Go.Di
namespace Go.Di
end Go.Di
namespace Go.Di
end Go.Di
namespace Go.Di
theorem inB_iff {n lo hi : Int} : inB n lo hi = true ↔ lo ≤ n ∧ n ≤ hi := by
  unfold inB; simp only [Bool.and_eq_true, decide_eq_true_iff]
structure MxQ (m : Mx) (r c : Nat) (q : List Rat) : Prop where
  r24 : r ≤ 24
  c24 : c ≤ 24
  len : q.length = r * c
  fits : Fits q
  eq : m = ⟨r, c, q.map rq⟩
theorem prod24 {r c : Nat} (hr : r ≤ 24) (hc : c ≤ 24) : r * c ≤ 576 := by
  calc r * c ≤ 24 * 24 := Nat.mul_le_mul hr hc
    _ = 576 := rfl
theorem mx_ok {r c : Nat} {q : List Rat} (hr : r ≤ 24) (hc : c ≤ 24) (hl : q.length = r * c) (hf : Fits q) : mxB ⟨r, c, q.map rq⟩ = true := by
  have hp := prod24 hr hc
  have e1 : ((r : Int) * (c : Int)) = ((r * c : Nat) : Int) := by simp
  unfold mxB
  simp only [Bool.and_eq_true, inB_iff, q_goods hf, List.length_map]
  rw [e1, wrap_i64 (by omega) (by omega), beq_iff_eq, hl]
  exact ⟨⟨by omega, by omega⟩, ⟨by omega, by omega⟩, rfl, trivial⟩
theorem at_pos {i c k : Nat} (hi : i < 1000) (hc : c ≤ 1000) (hk : k < 1000) : IntKind.i64.wrap (IntKind.i64.wrap ((i : Int) * (c : Int)) + (k : Int)) = ((i * c + k : Nat) : Int) := by
  have hp : i * c ≤ 1000 * 1000 := Nat.mul_le_mul (by omega) hc
  have e1 : ((i : Int) * (c : Int)) = ((i * c : Nat) : Int) := by simp
  rw [e1, wrap_i64 (n := ((i * c : Nat) : Int)) (by omega) (by omega), wrap_i64 (by omega) (by omega)]
  simp
theorem at_lt {i r c k : Nat} (hi : i < r) (hk : k < c) : i * c + k < r * c := by
  have : (i + 1) * c ≤ r * c := Nat.mul_le_mul_right _ (by omega)
  rw [Nat.add_mul, Nat.one_mul] at this
  omega
theorem impl_at {r c : Nat} {q : List Rat} {i k : Nat} {x : Int} (hl : q.length = r * c) (hr : r ≤ 24) (hc : c ≤ 24) (hi : i < r) (hk : k < c) : M_impl_Matrix_at ⟨x, c, q.map rq⟩ i k = some (ro q[i * c + k]?) := by
  unfold M_impl_Matrix_at
  simp only []
  rw [at_pos (by omega) (by omega) (by omega), idx_q (by rw [hl]; exact at_lt hi hk)]; rfl
def rowq (q : List Rat) (c i : Nat) : List Rat := cut q (i * c) ((i + 1) * c)
theorem rowq_len {q : List Rat} {r c i : Nat} (hl : q.length = r * c) (hi : i < r) : (rowq q c i).length = c := by
  have : (i + 1) * c ≤ r * c := Nat.mul_le_mul_right _ (by omega)
  unfold rowq cut
  rw [List.length_drop, List.length_take, hl, Nat.min_eq_left this, Nat.add_mul, Nat.one_mul]; omega
theorem rowq_fits {q : List Rat} (hf : Fits q) (c i : Nat) : Fits (rowq q c i) := fun x hx => hf x (List.mem_of_mem_take (List.mem_of_mem_drop hx))
theorem cut_map (q : List Rat) (lo hi : Nat) : cut (q.map rq) lo hi = (cut q lo hi).map rq := by
  unfold cut; rw [List.map_drop, List.map_take]
theorem impl_row {r c : Nat} {q : List Rat} {i : Nat} {x : Int} (hl : q.length = r * c) (hr : r ≤ 24) (hc : c ≤ 24) (hi : i < r) : M_impl_Matrix_row ⟨x, c, q.map rq⟩ i = some ((rowq q c i).map rq) := by
  unfold M_impl_Matrix_row
  have hp := prod24 hr hc
  have h1 : (i + 1) * c ≤ r * c := Nat.mul_le_mul_right _ (by omega)
  have h2 : i * c ≤ (i + 1) * c := Nat.mul_le_mul_right _ (by omega)
  have e1 : ((i : Int) * (c : Int)) = ((i * c : Nat) : Int) := by simp
  have e2 : (((i + 1 : Nat) : Int) * (c : Int)) = (((i + 1) * c : Nat) : Int) := by simp
  simp only []
  rw [wrap_nat (n := 1000) (by omega) (by omega), e1, e2, wrap_i64 (by omega) (by omega), wrap_i64 (by omega) (by omega)]
  have hin : inside (q.map rq).length (((i * c : Nat) : Int), (((i + 1) * c : Nat) : Int)) = true := by
    unfold inside
    rw [List.length_map, hl]
    simp only [Bool.and_eq_true, decide_eq_true_iff]
    omega
  rw [hin, guardO_true, Option.bind_some, Int.toNat_natCast, Int.toNat_natCast, cut_map]; rfl
/-! ### Matrices of integers -/
/-! ### Elements, rows, diagonals -/
theorem copy_ro {o : Option Rat} (h : Oks o) : M_impl_copyRat (ro o) = some (ro o) := impl_copyRat (ro_fit h)
/-! ### Products with vectors -/
noncomputable def appO (q : List Rat) (r c : Nat) (v : List Rat) : List (Option Rat) := (List.range r).map fun i => innO (rowq q c i) v c
theorem len_appO (q : List Rat) (r c : Nat) (v : List Rat) : (appO q r c v).length = r := by simp [appO]
theorem impl_applied {q v : List Rat} {r c : Nat} (hr : r ≤ 24) (hc : c ≤ 24) (hl : q.length = r * c) (hf : Fits q) (hv : Fits v) (hvl : v.length = c) :
    M_impl_applied ⟨r, c, q.map rq⟩ (v.map rq) = some (cond ((appO q r c v).all Option.isSome) ((appO q r c v).map ro, true) ([], false)) := by
  unfold M_impl_applied L_impl_applied_0
  rw [app_loop (S := S_impl_applied_0) (fun i out => (v.map rq, (r : Int), i, (r : Int), (c : Int), q.map rq, out, ())) (fun i => ro (innO (rowq q c i) v c)) r (r := fun out => (out, ())) (fun i out hi ho => by
    have hin := impl_inner (rowq_fits hf c i) hv (by rw [rowq_len hl hi]; omega) (by rw [rowq_len hl hi]; omega)
    rw [rowq_len hl hi] at hin
    simp only [S_impl_applied_0, dlt hi, cond_true, impl_row hl hr hc hi, Option.bind_some, hin, room1 (show out.length ≤ 2000000 by omega), succ_wrap hi (show r ≤ 1048576 by omega)]) (fun out _ => by simp [S_impl_applied_0])]
  rw [show (List.range r).map (fun i => ro (innO (rowq q c i) v c)) = (appO q r c v).map ro by unfold appO; rw [List.map_map]; rfl]
  simp only [Option.bind_some]
  rw [impl_complete (by rw [len_appO]; omega), Option.bind_some]
  cases (appO q r c v).all Option.isSome <;> rfl
end Go.Di
namespace Go.Di
/-! ### Vectors drawn from bytes -/
def Small (q : List Rat) : Prop := ∀ x ∈ q, Bd x 20 6
theorem Small.fits {q : List Rat} (h : Small q) : Fits q := fun x hx => (h x hx).fit (by decide) (by decide)
theorem make_vec {code : List Int} (h : code.length ≤ 1048576) {n : Int} (hn : n ≤ 1000000) {k : Nat} (hk : k ≤ 1000) : ∃ q : List Rat, M_spec_MakeVector code n (k : Int) = some (q.map rq) ∧ q.length = k ∧ Small q := by
  unfold M_spec_MakeVector M_spec_l05Draw L_spec_l05Draw_0
  obtain ⟨c, e, kc⟩ := cur_at h hn
  rw [e, Option.bind_some]
  obtain ⟨r, hr, q, h1, h2, h3⟩ := whileO_meas (S := S_spec_l05Draw_0) (fun x => x.1 = (k : Int) ∧ Cur.ok ⟨x.2.1, x.2.2.1, x.2.2.2.1⟩ ∧ ∃ q : List Rat, x.2.2.2.2.1 = q.map rq ∧ q.length ≤ k ∧ Small q) (fun x => k - x.2.2.2.2.1.length) (fun r => ∃ q : List Rat, r.2.2.2.1 = q.map rq ∧ q.length = k ∧ Small q)
    (by
      rintro ⟨m, v, v1, v2, v3, u⟩ ⟨h0, h1, q, h2, h3, h4⟩
      simp only at h0 h1 h2 h3
      subst h0; subst h2
      unfold S_spec_l05Draw_0
      simp only [List.length_map]
      cases hc : decide ((q.length : Int) < (k : Int)) with
      | true =>
        have hl := of_decide_eq_true hc
        obtain ⟨x, c', e1, b1, k1⟩ := cur_number h1
        simp only [cond_true, e1, Option.bind_some, room1 (show q.length ≤ 2000000 by omega)]
        refine .inl ⟨_, rfl, ⟨rfl, k1, q ++ [x], by simp, by simp; omega, ?_⟩, ?_⟩
        · intro y hy
          rcases List.mem_append.1 hy with hy | hy
          · exact h4 y hy
          · rw [List.mem_singleton.1 hy]; exact b1
        · simp only [List.length_append, List.length_map, List.length_singleton]; omega
      | false =>
        have hl := of_decide_eq_false hc
        exact .inr ⟨_, rfl, q, rfl, by omega, h4⟩)
    (x := ((k : Int), c.b, c.i, c.h, [], ())) ⟨rfl, kc, [], rfl, by simp, fun x hx => (by cases hx)⟩
  rw [hr, Option.bind_some]
  obtain ⟨v, v1, v2, v3, u⟩ := r
  simp only at h1
  subst h1
  exact ⟨q, rfl, h2, h3⟩
theorem lfit_rq {q : List Rat} (h : Fits q) (hn : q.length ≤ 20000) : lfit Rt.fit (q.map rq) := (rfit_rq h hn).fit
theorem q_vec {q : List Rat} (h : Fits q) (hn : q.length ≤ 24) : vecB (q.map rq) = true := by
  unfold vecB
  rw [List.length_map, decide_eq_true hn, q_goods h]; rfl
/-! ### Networks drawn from bytes -/
end Go.Di
namespace Go.Di
/-! ### Grids -/
def grid {α : Type} (r c : Nat) (g : Nat → Nat → α) : List α := (List.range r).flatMap fun i => (List.range c).map (g i)
theorem grid_succ {α : Type} (r c : Nat) (g : Nat → Nat → α) : grid (r + 1) c g = grid r c g ++ (List.range c).map (g r) := by
  unfold grid; rw [List.range_succ, List.flatMap_append]; simp
theorem len_grid {α : Type} (r c : Nat) (g : Nat → Nat → α) : (grid r c g).length = r * c := by
  induction r with
  | zero => simp [grid]
  | succ r ih => rw [grid_succ, List.length_append, ih, List.length_map, List.length_range, Nat.add_mul, Nat.one_mul]
theorem grid_at {α : Type} {r c : Nat} (g : Nat → Nat → α) {j : Nat} (h : j < r * c) : (grid r c g)[j]? = some (g (j / c) (j % c)) := by
  induction r with
  | zero => omega
  | succ r ih =>
    rw [grid_succ]
    by_cases hj : j < r * c
    · rw [List.getElem?_append_left (by rw [len_grid]; exact hj)]; exact ih hj
    · rw [List.getElem?_append_right (by rw [len_grid]; omega), len_grid]
      rw [Nat.add_mul, Nat.one_mul] at h
      have hk : j - r * c < c := by omega
      rw [List.getElem?_map, List.getElem?_range hk]
      have e : j = c * r + (j - r * c) := by rw [Nat.mul_comm c r]; omega
      have h1 : j / c = r := by
        rw [e, Nat.mul_add_div (by omega), Nat.div_eq_of_lt hk]; omega
      have h2 : j % c = j - r * c := by
        conv => lhs; rw [e]
        rw [Nat.mul_add_mod, Nat.mod_eq_of_lt hk]
      rw [h1, h2]; rfl
theorem grid_map {α β : Type} (f : α → β) (r c : Nat) (g : Nat → Nat → α) : (grid r c g).map f = grid r c fun i k => f (g i k) := by
  unfold grid
  rw [List.map_flatMap]
  congr 1
  funext i
  rw [List.map_map]; rfl
theorem grid_mem {α : Type} {r c : Nat} {g : Nat → Nat → α} {x : α} (h : x ∈ grid r c g) : ∃ i k, i < r ∧ k < c ∧ x = g i k := by
  obtain ⟨i, hi, hx⟩ := List.mem_flatMap.1 h
  obtain ⟨k, hk, rfl⟩ := List.mem_map.1 hx
  exact ⟨i, k, List.mem_range.1 hi, List.mem_range.1 hk, rfl⟩
theorem div_parts {r c j : Nat} (h : j < r * c) : j / c < r ∧ j % c < c ∧ j / c * c + j % c = j := by
  have hc : 0 < c := by
    rcases Nat.eq_zero_or_pos c with h0 | h0
    · subst h0; simp at h
    · exact h0
  refine ⟨Nat.div_lt_of_lt_mul (by rw [Nat.mul_comm]; exact h), Nat.mod_lt _ hc, ?_⟩
  rw [Nat.mul_comm]; exact Nat.div_add_mod j c
theorem grid_congr {α : Type} {r c : Nat} {g h : Nat → Nat → α} (e : ∀ i k, i < r → k < c → g i k = h i k) : grid r c g = grid r c h := by
  apply List.ext_getElem?
  intro j
  by_cases hj : j < r * c
  · obtain ⟨h1, h2, _⟩ := div_parts hj
    rw [grid_at g hj, grid_at h hj, e _ _ h1 h2]
  · rw [List.getElem?_eq_none (by rw [len_grid]; omega), List.getElem?_eq_none (by rw [len_grid]; omega)]
/-! ### Loops -/
theorem app_from {β σ ρ : Type} {S : σ → Option (σ ⊕ ρ)} (x0 : List β) (st : Int → List β → σ) (g : Nat → β) (n : Nat) {r : List β → ρ}
    (hS : ∀ (i : Nat) out, i < n → out.length = x0.length + i → S (st (i : Int) out) = some (.inl (st ((i + 1 : Nat) : Int) (out ++ [g i])))) (hE : ∀ out, out.length = x0.length + n → S (st (n : Int) out) = some (.inr (r out))) :
    whileO S (st 0 x0) = some (r (x0 ++ (List.range n).map g)) := by
  have key := whileO_upto S (fun i => st (i : Int) (x0 ++ (List.range i).map g)) n (r (x0 ++ (List.range n).map g)) (fun i hi => by
    rw [hS i _ hi (by simp), List.range_succ, List.map_append, List.append_assoc]; rfl) (hE _ (by simp))
  simpa using key
theorem grid_loop {β σ ρ : Type} {S : σ → Option (σ ⊕ ρ)} (st : Int → List β → σ) (g : Nat → Nat → β) (n c : Nat) {r : List β → ρ}
    (hS : ∀ (i : Nat) out, i < n → out.length = i * c → S (st (i : Int) out) = some (.inl (st ((i + 1 : Nat) : Int) (out ++ (List.range c).map (g i))))) (hE : ∀ out, out.length = n * c → S (st (n : Int) out) = some (.inr (r out))) :
    whileO S (st 0 []) = some (r (grid n c g)) := by
  have key := whileO_upto S (fun i => st (i : Int) (grid i c g)) n (r (grid n c g)) (fun i hi => by
    rw [hS i _ hi (len_grid ..), grid_succ]) (hE _ (len_grid ..))
  simpa [grid] using key
theorem room_row {i n c k r m : Nat} (hi : i < n) (hk : k < c) (hn : n ≤ 24) (hc : c ≤ 24) (hr : r = i * c) (hm : m = r + k) : guardO (Nat.ble (m + 1) maxNew) = some () := by
  have := at_lt hi hk
  have := prod24 hn hc
  exact room1 (by omega)
/-! ### Identities -/
/-! ### Transposed matrices -/
def trans (q : List Rat) (r c : Nat) : List Rat := grid c r fun i k => (q[k * c + i]?).getD 0
theorem len_trans (q : List Rat) (r c : Nat) : (trans q r c).length = c * r := len_grid ..
theorem trans_fits {q : List Rat} {r c : Nat} (hl : q.length = r * c) (hf : Fits q) : Fits (trans q r c) := fun x hx => by
  obtain ⟨i, k, hi, hk, rfl⟩ := grid_mem hx
  have : k * c + i < q.length := by rw [hl]; exact at_lt hk hi
  rw [List.getElem?_eq_getElem this]
  exact hf _ (List.getElem_mem this)
theorem trans_rq {q : List Rat} {r c : Nat} (hl : q.length = r * c) : (trans q r c).map rq = grid c r fun i k => ro q[k * c + i]? := by
  unfold trans
  rw [grid_map]
  refine grid_congr fun i k hi hk => ?_
  have : k * c + i < q.length := by rw [hl]; exact at_lt hk hi
  rw [List.getElem?_eq_getElem this]; rfl
theorem impl_turned {q : List Rat} {r c : Nat} (hr : r ≤ 24) (hc : c ≤ 24) (hl : q.length = r * c) (hf : Fits q) : M_impl_turned ⟨r, c, q.map rq⟩ = some ⟨c, r, (trans q r c).map rq⟩ := by
  unfold M_impl_turned M_impl_built__impl_turned_c1 L_impl_built__impl_turned_c1_0
  simp only []
  rw [grid_loop (S := S_impl_built__impl_turned_c1_0) (fun i out => ((r : Int), (r : Int), (c : Int), q.map rq, (c : Int), i, 0, 0, [], (c : Int), (r : Int), out, ())) (fun i k => ro q[k * c + i]?) c r (r := fun out => (0, 0, [], (c : Int), (r : Int), out, ())) (fun i out hi ho => by
    unfold S_impl_built__impl_turned_c1_0 L_impl_built__impl_turned_c1_1
    simp only [dlt hi, cond_true]
    rw [app_from (S := S_impl_built__impl_turned_c1_1) out (fun k out => ((r : Int), (r : Int), (c : Int), q.map rq, (i : Int), (c : Int), (i : Int), (r : Int), k, 0, 0, [], (c : Int), (r : Int), out, ())) (fun k => ro q[k * c + i]?) r (r := fun out => ((r : Int), (r : Int), (c : Int), q.map rq, (c : Int), (i : Int), 0, 0, [], (c : Int), (r : Int), out, ())) (fun k xs hk hx => by
      simp only [S_impl_built__impl_turned_c1_1, M_impl_turned_c1, dlt hk, cond_true, impl_at hl hr hc hk hi, Option.bind_some, copy_ro (hf.get _), room_row hi hk hc hr ho hx, succ_wrap hk (show r ≤ 1048576 by omega)]) (fun out _ => by simp [S_impl_built__impl_turned_c1_1])]
    simp only [Option.bind_some, succ_wrap hi (show c ≤ 1048576 by omega)]) (fun out _ => by simp [S_impl_built__impl_turned_c1_0])]
  rw [trans_rq hl]; rfl
/-! ### Sums, products -/
theorem impl_givenMx (x y : Int) {l : List (Option Rat)} (h : l.length ≤ 1048576) : M_impl_givenMatrix_c ⟨x, y, l.map ro⟩ = some (cond (l.all Option.isSome) (⟨x, y, l.map ro⟩, true) (⟨0, 0, []⟩, false)) := by
  unfold M_impl_givenMatrix_c
  simp only [impl_complete h, Option.bind_some]
  cases l.all Option.isSome <;> rfl
noncomputable def givenO (x y : Int) (l : List (Option Rat)) : Mx × Bool := cond (l.all Option.isSome) (⟨x, y, l.map ro⟩, true) (⟨0, 0, []⟩, false)
noncomputable def mulM (p q : List Rat) (r c n : Nat) : List (Option Rat) := grid r n fun i k => innO (rowq p c i) (rowq (trans q c n) c k) c
theorem impl_mulM {p q : List Rat} {r c n : Nat} (hr : r ≤ 24) (hc : c ≤ 24) (hn : n ≤ 24) (hl : p.length = r * c) (hf : Fits p) (hl' : q.length = c * n) (hf' : Fits q) :
    M_impl_multiply ⟨r, c, p.map rq⟩ ⟨c, n, q.map rq⟩ = some (givenO r n (mulM p q r c n)) := by
  have hp := prod24 hr hn
  have ht := len_trans q c n
  have hft := trans_fits hl' hf'
  unfold M_impl_multiply M_impl_built__impl_multiply_c1 L_impl_built__impl_multiply_c1_0
  rw [impl_turned hc hn hl' hf', Option.bind_some]
  simp only []
  rw [grid_loop (S := S_impl_built__impl_multiply_c1_0) (fun i out => ((n : Int), (r : Int), (c : Int), p.map rq, (n : Int), (c : Int), (trans q c n).map rq, (r : Int), i, 0, 0, [], (r : Int), (n : Int), out, ())) (fun i k => ro (innO (rowq p c i) (rowq (trans q c n) c k) c)) r n (r := fun out => (0, 0, [], (r : Int), (n : Int), out, ())) (fun i out hi ho => by
    unfold S_impl_built__impl_multiply_c1_0 L_impl_built__impl_multiply_c1_1
    simp only [dlt hi, cond_true]
    rw [app_from (S := S_impl_built__impl_multiply_c1_1) out (fun k out => ((n : Int), (r : Int), (c : Int), p.map rq, (n : Int), (c : Int), (trans q c n).map rq, (i : Int), (r : Int), (i : Int), (n : Int), k, 0, 0, [], (r : Int), (n : Int), out, ())) (fun k => ro (innO (rowq p c i) (rowq (trans q c n) c k) c)) n (r := fun out => ((n : Int), (r : Int), (c : Int), p.map rq, (n : Int), (c : Int), (trans q c n).map rq, (r : Int), (i : Int), 0, 0, [], (r : Int), (n : Int), out, ())) (fun k xs hk hx => by
      have hin := impl_inner (rowq_fits hf c i) (rowq_fits hft c k) (by rw [rowq_len hl hi, rowq_len ht hk]; omega) (by rw [rowq_len hl hi]; omega)
      rw [rowq_len hl hi] at hin
      simp only [S_impl_built__impl_multiply_c1_1, M_impl_multiply_c1, dlt hk, cond_true, impl_row hl hr hc hi, impl_row ht hn hc hk, Option.bind_some, hin, room_row hi hk hr hn ho hx, succ_wrap hk (show n ≤ 1048576 by omega)]) (fun out _ => by simp [S_impl_built__impl_multiply_c1_1])]
    simp only [Option.bind_some, succ_wrap hi (show r ≤ 1048576 by omega)]) (fun out _ => by simp [S_impl_built__impl_multiply_c1_0])]
  rw [show grid r n (fun i k => ro (innO (rowq p c i) (rowq (trans q c n) c k) c)) = (mulM p q r c n).map ro by unfold mulM; rw [grid_map]]
  simp only [Option.bind_some]
  rw [impl_givenMx _ _ (by unfold mulM; rw [len_grid]; omega)]; rfl
/-! ### Parts -/
end Go.Di
namespace Go.Di
def Sz (q : Rat) (k : Nat) : Prop := Bd q (10 ^ k) (10 ^ k)
theorem ten_le {k m : Nat} (h : k ≤ m) : 10 ^ k ≤ 10 ^ m := Nat.pow_le_pow_right (by omega) h
theorem Sz.mono {q : Rat} {k m : Nat} (h : Sz q k) (hm : k ≤ m) : Sz q m := Bd.mono h (ten_le hm) (ten_le hm)
theorem Sz.fit {q : Rat} {k : Nat} (h : Sz q k) (hk : k ≤ 200) : Fit q := Bd.fit h (ten_le hk) (ten_le hk)
theorem sz_mul {a b : Rat} {k m : Nat} (h : Sz a k) (h' : Sz b m) : Sz (a * b) (k + m) := by
  have := bd_mul h h'
  unfold Sz; rw [Nat.pow_add]; exact this
theorem two_tens (k m : Nat) : 10 ^ k * 10 ^ m + 10 ^ m * 10 ^ k ≤ 10 ^ (k + m + 1) := by
  rw [Nat.pow_succ, Nat.pow_add, Nat.mul_comm (10 ^ m) (10 ^ k)]; omega
theorem one_more (k m : Nat) : 10 ^ k * 10 ^ m ≤ 10 ^ (k + m + 1) := by
  rw [← Nat.pow_add]; exact ten_le (by omega)
theorem sz_add {a b : Rat} {k m : Nat} (h : Sz a k) (h' : Sz b m) : Sz (a + b) (k + m + 1) := (bd_add h h').mono (two_tens k m) (one_more k m)
theorem sz_zero : Sz 0 0 := (bd_int 0).mono (by decide) (by decide)
theorem Small.sz {q : List Rat} (h : Small q) : ∀ x ∈ q, Sz x 2 := fun x hx => (h x hx).mono (by decide) (by decide)
def Szs (q : List Rat) (k : Nat) : Prop := ∀ x ∈ q, Sz x k
theorem Szs.fits {q : List Rat} {k : Nat} (h : Szs q k) (hk : k ≤ 200) : Fits q := fun x hx => (h x hx).fit hk
theorem Szs.get {q : List Rat} {k : Nat} (h : Szs q k) (i : Nat) : Sz ((q[i]?).getD 0) k := by
  by_cases hi : i < q.length
  · rw [List.getElem?_eq_getElem hi]; exact h _ (List.getElem_mem hi)
  · rw [List.getElem?_eq_none (by omega)]; exact sz_zero.mono (by omega)
/-! ### Inner products that fit -/
def innR (a b : List Rat) : Nat → Rat
  | 0 => 0
  | i + 1 => innR a b i + (a[i]?).getD 0 * (b[i]?).getD 0
theorem inn_sz {a b : List Rat} {k m : Nat} (ha : Szs a k) (hb : Szs b m) : ∀ n, n ≤ a.length → n ≤ b.length → n * (k + m + 1) ≤ 200 → innO a b n = some (innR a b n) ∧ Sz (innR a b n) (n * (k + m + 1))
  | 0, _, _, _ => ⟨rfl, sz_zero.mono (by omega)⟩
  | n + 1, h1, h2, h3 => by
    have e : (n + 1) * (k + m + 1) = n * (k + m + 1) + (k + m) + 1 := by rw [Nat.add_mul]; omega
    obtain ⟨e1, s1⟩ := inn_sz ha hb n (by omega) (by omega) (by omega)
    have s2 := sz_mul (ha.get n) (hb.get n)
    have s3 := sz_add s1 s2
    have s4 : Sz (innR a b (n + 1)) ((n + 1) * (k + m + 1)) := by rw [e]; exact s3
    refine ⟨?_, s4⟩
    show addO (innO a b n) (mulO a[n]? b[n]?) = _
    rw [e1, List.getElem?_eq_getElem (by omega), List.getElem?_eq_getElem (by omega)]
    have g1 : (a[n]?).getD 0 = a[n] := by rw [List.getElem?_eq_getElem (by omega)]; rfl
    have g2 : (b[n]?).getD 0 = b[n] := by rw [List.getElem?_eq_getElem (by omega)]; rfl
    rw [g1, g2] at s2 s3
    have m1 : mulO (some a[n]) (some b[n]) = some (a[n] * b[n]) := chk_fit (s2.fit (by omega))
    rw [m1]
    show chk (innR a b n + a[n] * b[n]) = _
    rw [chk_fit (s3.fit (by omega))]
    show _ = some (innR a b n + (a[n]?).getD 0 * (b[n]?).getD 0)
    rw [g1, g2]
theorem szs_row {q : List Rat} {k : Nat} (h : Szs q k) (c i : Nat) : Szs (rowq q c i) k := fun x hx => h x (List.mem_of_mem_take (List.mem_of_mem_drop hx))
theorem szs_trans {q : List Rat} {k : Nat} (h : Szs q k) (r c : Nat) : Szs (trans q r c) k := fun x hx => by
  obtain ⟨i, j, _, _, rfl⟩ := grid_mem hx
  exact h.get _
/-! ### Products that fit -/
def mulR (p q : List Rat) (r c n : Nat) : List Rat := grid r n fun i k => innR (rowq p c i) (rowq (trans q c n) c k) c
theorem mulM_sz {p q : List Rat} {r c n k m : Nat} (hl : p.length = r * c) (hp : Szs p k) (hq : Szs q m) (hs : c * (k + m + 1) ≤ 200) :
    mulM p q r c n = (mulR p q r c n).map some ∧ Szs (mulR p q r c n) (c * (k + m + 1)) := by
  have ht := len_trans q c n
  have key : ∀ i j, i < r → j < n → innO (rowq p c i) (rowq (trans q c n) c j) c = some (innR (rowq p c i) (rowq (trans q c n) c j) c) ∧ Sz (innR (rowq p c i) (rowq (trans q c n) c j) c) (c * (k + m + 1)) := fun i j hi hj =>
    inn_sz (szs_row hp c i) (szs_row (szs_trans hq c n) c j) c (by rw [rowq_len hl hi]; omega) (by rw [rowq_len ht hj]; omega) hs
  refine ⟨?_, fun x hx => ?_⟩
  · unfold mulM mulR
    rw [grid_map]
    exact grid_congr fun i j hi hj => (key i j hi hj).1
  · obtain ⟨i, j, hi, hj, rfl⟩ := grid_mem hx
    exact (key i j hi hj).2
theorem some_all (l : List Rat) : (l.map some).all Option.isSome = true := by
  rw [List.all_eq_true]
  intro o ho
  obtain ⟨x, _, rfl⟩ := List.mem_map.1 ho
  rfl
theorem some_ro (l : List Rat) : (l.map some).map ro = l.map rq := by rw [List.map_map]; rfl
theorem len_mulR (p q : List Rat) (r c n : Nat) : (mulR p q r c n).length = r * n := len_grid ..
theorem mul_small {p q : List Rat} {r c n k m : Nat} (hr : r ≤ 24) (hc : c ≤ 24) (hn : n ≤ 24) (hl : p.length = r * c) (hl' : q.length = c * n) (hp : Szs p k) (hq : Szs q m) (hs : c * (k + m + 1) ≤ 200) (hk : k ≤ 200) (hm : m ≤ 200) :
    M_impl_Multiply ⟨r, c, p.map rq⟩ ⟨c, n, q.map rq⟩ = some (⟨r, n, (mulR p q r c n).map rq⟩, true) := by
  have f1 := hp.fits hk
  have f2 := hq.fits hm
  have h1 := prod24 hr hc
  have h2 := prod24 hc hn
  unfold M_impl_Multiply
  rw [impl_mxOk (m := ⟨r, c, p.map rq⟩) (lfit_rq f1 (by omega)), mx_ok hr hc hl f1, impl_mxOk (m := ⟨c, n, q.map rq⟩) (lfit_rq f2 (by omega)), mx_ok hc hn hl' f2]
  have hne : ((c : Int) != (c : Int)) = false := by simp
  simp only [Option.bind_some, Bool.not_true, cond_false, hne]
  rw [impl_mulM hr hc hn hl f1 hl' f2, (mulM_sz hl hp hq hs).1]
  unfold givenO
  rw [some_all, some_ro]; rfl
theorem trans_small {q : List Rat} {r c k : Nat} (hr : r ≤ 24) (hc : c ≤ 24) (hl : q.length = r * c) (hq : Szs q k) (hk : k ≤ 200) : M_impl_Transpose ⟨r, c, q.map rq⟩ = some ⟨c, r, (trans q r c).map rq⟩ := by
  have f := hq.fits hk
  have h1 := prod24 hr hc
  unfold M_impl_Transpose
  rw [impl_mxOk (m := ⟨r, c, q.map rq⟩) (lfit_rq f (by omega)), mx_ok hr hc hl f, impl_turned hr hc hl f]; rfl
def appR (q : List Rat) (r c : Nat) (v : List Rat) : List Rat := (List.range r).map fun i => innR (rowq q c i) v c
theorem apply_small {q v : List Rat} {r c k m : Nat} (hr : r ≤ 24) (hc : c ≤ 24) (hl : q.length = r * c) (hv : v.length = c) (hq : Szs q k) (hw : Szs v m) (hs : c * (k + m + 1) ≤ 200) (hk : k ≤ 200) (hm : m ≤ 200) :
    M_impl_ApplyMatrix ⟨r, c, q.map rq⟩ (v.map rq) = some ((appR q r c v).map rq, true) ∧ Szs (appR q r c v) (c * (k + m + 1)) := by
  have f1 := hq.fits hk
  have f2 := hw.fits hm
  have h1 := prod24 hr hc
  have key : ∀ i, i < r → innO (rowq q c i) v c = some (innR (rowq q c i) v c) ∧ Sz (innR (rowq q c i) v c) (c * (k + m + 1)) := fun i hi =>
    inn_sz (szs_row hq c i) hw c (by rw [rowq_len hl hi]; omega) (by omega) hs
  have e : appO q r c v = (appR q r c v).map some := by
    unfold appO appR
    rw [List.map_map]
    exact List.map_congr_left fun i hi => (key i (List.mem_range.1 hi)).1
  refine ⟨?_, fun x hx => ?_⟩
  · unfold M_impl_ApplyMatrix
    have hne : (((v.map rq).length : Int) != (c : Int)) = false := by rw [List.length_map, hv]; simp
    rw [impl_mxOk (m := ⟨r, c, q.map rq⟩) (lfit_rq f1 (by omega)), mx_ok hr hc hl f1, impl_isVec (lfit_rq f2 (by omega)), q_vec f2 (by omega)]
    simp only [Option.bind_some, Bool.not_true, cond_false, hne]
    rw [impl_applied hr hc hl f1 f2 hv, e, some_all, some_ro]; rfl
  · obtain ⟨i, hi, rfl⟩ := List.mem_map.1 hx
    exact (key i (List.mem_range.1 hi)).2
theorem make_mx {code : List Int} (h : code.length ≤ 1048576) {n : Int} (hn : n ≤ 1000000) {r c : Nat} (hr : r ≤ 24) (hc : c ≤ 24) : ∃ q : List Rat, M_spec_MakeMatrix code n r c = some ⟨r, c, q.map rq⟩ ∧ q.length = r * c ∧ Small q := by
  have h1 := prod24 hr hc
  obtain ⟨q, e, hl, hs⟩ := make_vec h hn (k := r * c) (by omega)
  refine ⟨q, ?_, hl, hs⟩
  unfold M_spec_MakeVector at e
  unfold M_spec_MakeMatrix M_spec_l06Draw
  obtain ⟨cu, ec, _⟩ := cur_at h hn
  rw [ec, Option.bind_some] at e ⊢
  have hw : IntKind.i64.wrap ((r : Int) * (c : Int)) = ((r * c : Nat) : Int) := by rw [wrap_i64 (by omega) (by omega)]; omega
  rw [hw]
  cases hd : M_spec_l05Draw cu ((r * c : Nat) : Int) with
  | none => rw [hd] at e; cases e
  | some x =>
    rw [hd] at e
    simp only [Option.bind_some, Option.some.injEq] at e ⊢
    rw [e]
end Go.Di
namespace Go.Di
theorem row_small {q : List Rat} {r c k i : Nat} (hr : r ≤ 24) (hc : c ≤ 24) (hl : q.length = r * c) (hq : Szs q k) (hk : k ≤ 200) (hi : i < r) : M_impl_RowOf ⟨r, c, q.map rq⟩ (i : Int) = some ((rowq q c i).map rq) := by
  have f := hq.fits hk
  have h1 := prod24 hr hc
  unfold M_impl_RowOf
  rw [impl_mxOk (m := ⟨r, c, q.map rq⟩) (lfit_rq f (by omega)), mx_ok hr hc hl f, decide_eq_false (show ¬ (i : Int) < 0 by omega), decide_eq_false (show ¬ (i : Int) ≥ (⟨r, c, q.map rq⟩ : Mx).rows by show ¬ (i : Int) ≥ (r : Int); omega), impl_row hl hr hc hi]
  simp only [Option.bind_some, Bool.not_true, cond_false, impl_copyVec (lfit_rq (rowq_fits f c i) (by rw [rowq_len hl hi]; omega))]
theorem cell_small {q : List Rat} {r c k i j : Nat} (hr : r ≤ 24) (hc : c ≤ 24) (hl : q.length = r * c) (hq : Szs q k) (hk : k ≤ 200) (hi : i < r) (hj : j < c) : M_impl_CellAt ⟨r, c, q.map rq⟩ (i : Int) (j : Int) = some (ro q[i * c + j]?) := by
  have f := hq.fits hk
  have h1 := prod24 hr hc
  unfold M_impl_CellAt
  rw [impl_mxOk (m := ⟨r, c, q.map rq⟩) (lfit_rq f (by omega)), mx_ok hr hc hl f, decide_eq_false (show ¬ (i : Int) < 0 by omega), decide_eq_false (show ¬ (i : Int) ≥ (⟨r, c, q.map rq⟩ : Mx).rows by show ¬ (i : Int) ≥ (r : Int); omega),
    decide_eq_false (show ¬ (j : Int) < 0 by omega), decide_eq_false (show ¬ (j : Int) ≥ (⟨r, c, q.map rq⟩ : Mx).cols by show ¬ (j : Int) ≥ (c : Int); omega), impl_at hl hr hc hi hj]
  simp only [Option.bind_some, Bool.not_true, cond_false, copy_ro (f.get _)]
theorem vec_same {a b : List Rat} (h : a = b) {k : Nat} (ha : Szs a k) (hk : k ≤ 200) (hl : a.length ≤ 1000) : M_impl_EqualVectors (a.map rq) (b.map rq) = some true := by
  subst h
  rw [impl_vecEq (lfit_rq (ha.fits hk) (by omega)), eqB_self]
theorem mx_same {a b : List Rat} {x y : Int} (h : a = b) {k : Nat} (ha : Szs a k) (hk : k ≤ 200) (hl : a.length ≤ 1000) : M_impl_EqualMatrices ⟨x, y, a.map rq⟩ ⟨x, y, b.map rq⟩ = some true := by
  subst h
  rw [impl_mxEq (lfit_rq (ha.fits hk) (by omega)), eqB_self]
theorem assoc_apply {p q v : List Rat} (hp : p.length = 6) (hq : q.length = 6) (hv : v.length = 2) : appR (mulR p q 2 3 2) 2 2 v = appR p 2 3 (appR q 3 2 v) := by
  match p, hp with
  | [p0, p1, p2, p3, p4, p5], _ =>
  match q, hq with
  | [q0, q1, q2, q3, q4, q5], _ =>
  match v, hv with
  | [v0, v1], _ =>
    show [0 + (0 + p0 * q0 + p1 * q2 + p2 * q4) * v0 + (0 + p0 * q1 + p1 * q3 + p2 * q5) * v1, 0 + (0 + p3 * q0 + p4 * q2 + p5 * q4) * v0 + (0 + p3 * q1 + p4 * q3 + p5 * q5) * v1] =
      [0 + p0 * (0 + q0 * v0 + q1 * v1) + p1 * (0 + q2 * v0 + q3 * v1) + p2 * (0 + q4 * v0 + q5 * v1), 0 + p3 * (0 + q0 * v0 + q1 * v1) + p4 * (0 + q2 * v0 + q3 * v1) + p5 * (0 + q4 * v0 + q5 * v1)]
    congr 1
    · grind
    · congr 1; grind
theorem trans_mul {p q : List Rat} (hp : p.length = 6) (hq : q.length = 6) : trans (mulR p q 2 3 2) 2 2 = mulR (trans q 3 2) (trans p 2 3) 2 3 2 := by
  match p, hp with
  | [p0, p1, p2, p3, p4, p5], _ =>
  match q, hq with
  | [q0, q1, q2, q3, q4, q5], _ =>
    show [0 + p0 * q0 + p1 * q2 + p2 * q4, 0 + p3 * q0 + p4 * q2 + p5 * q4, 0 + p0 * q1 + p1 * q3 + p2 * q5, 0 + p3 * q1 + p4 * q3 + p5 * q5] =
      [0 + q0 * p0 + q2 * p1 + q4 * p2, 0 + q0 * p3 + q2 * p4 + q4 * p5, 0 + q1 * p0 + q3 * p1 + q5 * p2, 0 + q1 * p3 + q3 * p4 + q5 * p5]
    congr 1
    · grind
    congr 1
    · grind
    congr 1
    · grind
    congr 1
    grind
theorem law_FnMatrices (code : List Int) (_ : CK.wf (.sl .byte) code) : M_laws_FnMatrices code = some true := by
  unfold M_laws_FnMatrices
  cases hc : decide ((code.length : Int) > 1048576) with
  | true => rfl
  | false =>
    have hl : code.length ≤ 1048576 := by have := of_decide_eq_false hc; omega
    obtain ⟨p, e1, lp, sp⟩ := make_mx hl (n := 1) (by omega) (r := 2) (c := 3) (by omega) (by omega)
    obtain ⟨q, e2, lq, sq⟩ := make_mx hl (n := 20) (by omega) (r := 3) (c := 2) (by omega) (by omega)
    obtain ⟨v, e3, lv, sv⟩ := make_vec hl (n := 40) (by omega) (k := 2) (by omega)
    have zp : Szs p 2 := sp.sz
    have zq : Szs q 2 := sq.sz
    have zv : Szs v 2 := sv.sz
    have m1 := mul_small (r := 2) (c := 3) (n := 2) (by omega) (by omega) (by omega) lp lq zp zq (by omega) (by omega) (by omega)
    have s1 := (mulM_sz (r := 2) (c := 3) (n := 2) lp zp zq (by omega)).2
    have l1 := len_mulR p q 2 3 2
    have t1 := trans_small (r := 3) (c := 2) (by omega) (by omega) lq zq (by omega)
    have t2 := trans_small (r := 2) (c := 3) (by omega) (by omega) lp zp (by omega)
    have m2 := mul_small (r := 2) (c := 3) (n := 2) (by omega) (by omega) (by omega) (len_trans q 3 2) (len_trans p 2 3) (szs_trans zq 3 2) (szs_trans zp 2 3) (by omega) (by omega) (by omega)
    obtain ⟨a1, z1⟩ := apply_small (r := 2) (c := 2) (by omega) (by omega) l1 lv s1 zv (by omega) (by omega) (by omega)
    obtain ⟨a2, z2⟩ := apply_small (r := 3) (c := 2) (by omega) (by omega) lq lv zq zv (by omega) (by omega) (by omega)
    obtain ⟨a3, z3⟩ := apply_small (r := 2) (c := 3) (v := appR q 3 2 v) (by omega) (by omega) lp (by simp [appR]) zp z2 (by omega) (by omega) (by omega)
    have t3 := trans_small (r := 2) (c := 2) (by omega) (by omega) l1 s1 (by omega)
    have q1 := vec_same (assoc_apply lp lq lv) z1 (by omega) (by simp [appR])
    have q2 := mx_same (x := 2) (y := 2) (trans_mul lp lq) (szs_trans s1 2 2) (by omega) (by rw [len_trans]; omega)
    have ok := mx_ok (r := 2) (c := 2) (by omega) (by omega) l1 (s1.fits (by omega))
    have okk : M_impl_MatrixOk ⟨2, 2, (mulR p q 2 3 2).map rq⟩ = some true := by
      have h := impl_mxOk (m := ⟨2, 2, (mulR p q 2 3 2).map rq⟩) (lfit_rq (s1.fits (by omega)) (by omega))
      rw [h]; exact congrArg some ok
    have r1 := row_small (r := 2) (c := 3) (i := 1) (by omega) (by omega) lp zp (by omega) (by omega)
    have c1 := cell_small (r := 2) (c := 3) (i := 1) (j := 2) (by omega) (by omega) lp zp (by omega) (by omega) (by omega)
    have hcut : cut (p.map rq) 3 (3 + ((((p.map rq).length : Int).toNat) - 3)) = (rowq p 3 1).map rq := by
      rw [List.length_map, lp, cut_map]; rfl
    have r2 := vec_same (a := rowq p 3 1) rfl (szs_row zp 3 1) (by omega) (by rw [rowq_len lp (by omega)]; omega)
    have hin : guardO (inside (p.map rq).length (3, ((p.map rq).length : Int))) = some () := by
      rw [List.length_map, lp]; rfl
    have g5 : p[5]? = some p[5] := List.getElem?_eq_getElem (by omega)
    have i5 : idx (p.map rq) 5 = some (rq p[5]) := by
      have := idx_q (q := p) (i := 5) (by omega)
      rw [g5] at this; exact this
    have j5 : (p.map rq)[5]? = some (rq p[5]) := by rw [List.getElem?_map, g5]; rfl
    have c2 : M_impl_CellAt ⟨2, 3, p.map rq⟩ 1 2 = some (rq p[5]) := by
      have h : M_impl_CellAt ⟨2, 3, p.map rq⟩ 1 2 = some (ro p[1 * 3 + 2]?) := c1
      rw [h, show 1 * 3 + 2 = 5 from rfl, g5]; rfl
    have q5 : M_impl_RatEqual (rq p[5]) (rq p[5]) = some true := by
      rw [rat_eq ((zp _ (List.getElem_mem (by omega))).fit (by omega))]; simp
    have e1' : M_spec_MakeMatrix code 1 2 3 = some ⟨2, 3, p.map rq⟩ := e1
    have e2' : M_spec_MakeMatrix code 20 3 2 = some ⟨3, 2, q.map rq⟩ := e2
    have e3' : M_spec_MakeVector code 40 2 = some (v.map rq) := e3
    have m1' : M_impl_Multiply ⟨2, 3, p.map rq⟩ ⟨3, 2, q.map rq⟩ = some (⟨2, 2, (mulR p q 2 3 2).map rq⟩, true) := m1
    have t1' : M_impl_Transpose ⟨3, 2, q.map rq⟩ = some ⟨2, 3, (trans q 3 2).map rq⟩ := t1
    have t2' : M_impl_Transpose ⟨2, 3, p.map rq⟩ = some ⟨3, 2, (trans p 2 3).map rq⟩ := t2
    have m2' : M_impl_Multiply ⟨2, 3, (trans q 3 2).map rq⟩ ⟨3, 2, (trans p 2 3).map rq⟩ = some (⟨2, 2, (mulR (trans q 3 2) (trans p 2 3) 2 3 2).map rq⟩, true) := m2
    have a1' : M_impl_ApplyMatrix ⟨2, 2, (mulR p q 2 3 2).map rq⟩ (v.map rq) = some ((appR (mulR p q 2 3 2) 2 2 v).map rq, true) := a1
    have a2' : M_impl_ApplyMatrix ⟨3, 2, q.map rq⟩ (v.map rq) = some ((appR q 3 2 v).map rq, true) := a2
    have a3' : M_impl_ApplyMatrix ⟨2, 3, p.map rq⟩ ((appR q 3 2 v).map rq) = some ((appR p 2 3 (appR q 3 2 v)).map rq, true) := a3
    have t3' : M_impl_Transpose ⟨2, 2, (mulR p q 2 3 2).map rq⟩ = some ⟨2, 2, (trans (mulR p q 2 3 2) 2 2).map rq⟩ := t3
    have r1' : M_impl_RowOf ⟨2, 3, p.map rq⟩ 1 = some ((rowq p 3 1).map rq) := r1
    simp only [cond_false, e1', e2', e3', Option.bind_some, m1', t1', t2', m2', a1', a2', a3', Bool.not_true, cond_true, q1, t3', q2, okk, hin, r1', hcut, r2, i5, j5, c2, q5]
end Go.Di
