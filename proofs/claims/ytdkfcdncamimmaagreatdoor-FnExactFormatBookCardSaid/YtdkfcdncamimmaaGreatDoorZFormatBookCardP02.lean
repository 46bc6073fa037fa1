/-
  Own work: part 9 of the texts that the proof of the given statement leans on.
-/
import Derived.Test.YtdkfcdncamimmaaGreatDoorZFormatBookCardP01
namespace Go.Di
end Go.Di
namespace Go.Di
/-! ### Marks -/
theorem size_one (n : Int) : (bytesOf [n]).size = 1 := rfl
def wS (s : Sta) : Nat := 4 + s.x.mag.length + s.x.den.length + s.y.mag.length + s.y.den.length
structure Sfit (l : List Sta) : Prop where
  fit : lfit Sta.fit l
  few : ws wS l ≤ 1000000000
/-! ### Lists whose first elements are changed -/
/-! ### Copies -/
/-! ### Sums -/
/-! ### Shifted networks -/
/-! ### Moved networks -/
end Go.Di
namespace Go.Di
def bl (l : List UInt8) : ByteArray := ⟨l.toArray⟩
theorem bl_size (l : List UInt8) : (bl l).size = l.length := by simp [bl, ByteArray.size]
theorem bl_app (a b : List UInt8) : bl a ++ bl b = bl (a ++ b) := by
  apply ByteArray.ext
  simp [bl]
theorem bl_bytes (xs : List Int) : bytesOf xs = bl (xs.map fun n => UInt8.ofNat n.toNat) := rfl
theorem sz_app (a b : ByteArray) : (a ++ b).size = a.size + b.size := ByteArray.size_append
theorem grd {n : Nat} (h : n ≤ 4611686018427387904) {α : Type} (f : Unit → Option α) : ((guardO (Nat.ble n 4611686018427387904)).bind f) = f () := by
  rw [show Nat.ble n 4611686018427387904 = true by simpa using h]; rfl
noncomputable def dcB (u : Nat) : ByteArray := bl (Lib.decDigits u)
theorem dcB_size (u : Nat) : (dcB u).size = Lib.nDigits u := by rw [dcB, bl_size, Lib.decDigits_length]
theorem nDigits_le : ∀ (k u : Nat), u < 10 ^ (k + 1) → Lib.nDigits u ≤ k + 1
  | 0, u, h => Nat.le_of_eq (Lib.nDigits_small (by simpa using h))
  | k + 1, u, h => by
    by_cases h1 : u < 10
    · rw [Lib.nDigits_small h1]; omega
    · rw [Lib.nDigits_big h1]
      have := nDigits_le k (u / 10) (by rw [Nat.div_lt_iff_lt_mul (by omega)]; rw [Nat.pow_succ] at h; exact h)
      omega
theorem dcB_le {u : Nat} (h : u < 1000000000) : (dcB u).size ≤ 9 := by rw [dcB_size]; exact nDigits_le 8 u (by omega)
theorem dig_byte {d : Nat} (h : d < 10) : bytesOf [IntKind.u8.wrap (IntKind.i64.wrap (48 + (d : Int)))] = bl [UInt8.ofNat (48 + d)] := by
  rw [wrap_i64 (by omega) (by omega)]
  have : IntKind.u8.wrap (48 + (d : Int)) = 48 + (d : Int) := by
    simp only [IntKind.wrap, IntKind.bits, IntKind.signed]
    simp
    omega
  rw [this, bl_bytes]
  simp only [List.map_cons, List.map_nil]
  congr 1
theorem dcB_small {u : Nat} (h : u < 10) : dcB u = bl [UInt8.ofNat (48 + u)] := by rw [dcB, Lib.decDigits, dif_pos h]
theorem dcB_big {u : Nat} (h : ¬ u < 10) : dcB u = dcB (u / 10) ++ bl [UInt8.ofNat (48 + u % 10)] := by rw [dcB, Lib.decDigits, dif_neg h, dcB, bl_app]
theorem spec_fmtInt {u : Nat} (h : u < 1000000000000000000) : M_spec_FormatInt (u : Int) = some (dcB u) := by
  have key : ∀ (k u : Nat) (s : ByteArray), u < 10 ^ (k + 1) → k + 1 + s.size ≤ 1000 → u < 1000000000000000000 →
      ((L_spec_FormatInt_0 (u : Int) s).bind fun (n1, s, _) =>
        (guardO (Nat.ble (((bytesOf ([IntKind.u8.wrap (IntKind.i64.wrap (48 + n1))] : List Int)).size) + s.size) 4611686018427387904)).bind fun _ =>
        some ((bytesOf ([IntKind.u8.wrap (IntKind.i64.wrap (48 + n1))] : List Int)) ++ s)) = some (dcB u ++ s) := by
    intro k
    induction k with
    | zero =>
      intro u s hu hs hb
      have hu : u < 10 := by simpa using hu
      unfold L_spec_FormatInt_0
      rw [whileO_inr (r := ((u : Int), s, ())) (by simp only [S_spec_FormatInt_0]; rw [show decide ((u : Int) > 9) = false by simp; omega]; rfl)]
      simp only [Option.bind_some]
      rw [grd (by rw [size_one]; omega), dig_byte hu, dcB_small hu]
    | succ k ih =>
      intro u s hu hs hb
      by_cases h1 : u < 10
      · exact ih u s (Nat.lt_of_lt_of_le h1 (by rw [Nat.pow_succ]; have := Nat.pow_pos (n := k) (show 0 < 10 by decide); omega)) (by omega) hb
      · have hd : ((u : Int).tmod 10) = ((u % 10 : Nat) : Int) := by rw [Int.tmod_eq_emod_of_nonneg (by omega)]; rfl
        have hq : ((u : Int).tdiv 10) = ((u / 10 : Nat) : Int) := by rw [Int.tdiv_eq_ediv_of_nonneg (by omega)]; rfl
        have hstep : S_spec_FormatInt_0 ((u : Int), s, ()) = some (.inl (((u / 10 : Nat) : Int), bl [UInt8.ofNat (48 + u % 10)] ++ s, ())) := by
          simp only [S_spec_FormatInt_0]
          rw [show decide ((u : Int) > 9) = true by simp; omega, cond_true, grd (by rw [size_one]; omega), hd, hq, dig_byte (Nat.mod_lt _ (by omega)), wrap_i64 (by omega) (by omega)]
        unfold L_spec_FormatInt_0
        rw [whileO_inl hstep]
        refine (ih (u / 10) (bl [UInt8.ofNat (48 + u % 10)] ++ s) (by rw [Nat.div_lt_iff_lt_mul (by omega)]; rw [Nat.pow_succ] at hu; exact hu) (by rw [sz_app, bl_size]; simp; omega) (by omega)).trans ?_
        rw [dcB_big h1, ByteArray.append_assoc]
  unfold M_spec_FormatInt
  rw [show decide ((u : Int) < 0) = false by simp, cond_false]
  refine (key 17 u (⟨#[]⟩ : ByteArray) (by omega) (by decide) h).trans ?_
  congr 1
  exact ByteArray.append_empty
theorem impl_itoa {u : Nat} (h : u < 1000000000000000000) : M_strconv_Itoa (u : Int) = some (dcB u) := by
  unfold M_strconv_Itoa
  rw [show (decide (-9223372036854775808 ≤ (u : Int)) && decide ((u : Int) ≤ 9223372036854775807)) = true by simp; omega]
  simp only [guardO_true, Option.bind_some]
  congr 1
def pad9 (s : ByteArray) : ByteArray := bl (List.replicate (9 - s.size) 48) ++ s
theorem pad9_size {s : ByteArray} (h : s.size ≤ 9) : (pad9 s).size = 9 := by rw [pad9, sz_app, bl_size, List.length_replicate]; omega
theorem repeatL_one (b : UInt8) : ∀ c, Lib.repeatL [b] c = List.replicate c b
  | 0 => rfl
  | c + 1 => by rw [Lib.repeatL, repeatL_one b c]; rfl
theorem impl_pad {s : ByteArray} (h : s.size ≤ 9) : M_impl_PadZeros s 9 = some (pad9 s) := by
  unfold M_impl_PadZeros
  by_cases h9 : s.size = 9
  · rw [show decide ((s.size : Int) ≥ 9) = true by simp; omega, cond_true, pad9, h9]
    congr 1
  · rw [show decide ((s.size : Int) ≥ 9) = false by simp; omega, cond_false, show decide ((9 : Int) > 2000) = false by decide, cond_false, wrap_i64 (by omega) (by omega)]
    have hc : ((9 : Int) - s.size) = ((9 - s.size : Nat) : Int) := by omega
    rw [hc]
    unfold M_strings_Repeat
    rw [Int.toNat_natCast, show (decide (0 ≤ (((9 - s.size : Nat) : Int))) && decide ((((9 - s.size : Nat) : Int)) ≤ 9223372036854775807) && Nat.ble ((⟨#[48]⟩ : ByteArray).size * (9 - s.size)) 140737488355328) = true by
      have : (⟨#[48]⟩ : ByteArray).size = 1 := rfl
      rw [this]; simp; omega]
    simp only [guardO_true, Option.bind_some]
    have hr : (⟨(Lib.repeatL (⟨#[48]⟩ : ByteArray).data.toList (9 - s.size)).toArray⟩ : ByteArray) = bl (List.replicate (9 - s.size) 48) := by
      show bl (Lib.repeatL [48] (9 - s.size)) = _
      rw [repeatL_one]
    rw [hr, grd (by rw [bl_size, List.length_replicate]; omega), pad9]
theorem spec_pad {s : ByteArray} (h : s.size ≤ 9) : M_spec_PadZeros s 9 = some (pad9 s) := by
  unfold M_spec_PadZeros L_spec_PadZeros_0
  rw [show decide ((9 : Int) > 2000) = false by decide, cond_false]
  have key : ∀ (k : Nat) (s : ByteArray), s.size + k = 9 → whileO S_spec_PadZeros_0 (s, 9, ()) = some (bl (List.replicate k 48) ++ s, ()) := by
    intro k
    induction k with
    | zero =>
      intro s hs
      rw [whileO_inr (r := (s, ())) (by simp only [S_spec_PadZeros_0]; rw [show decide ((s.size : Int) < 9) = false by simp; omega]; rfl)]
      congr 2
    | succ k ih =>
      intro s hs
      have hstep : S_spec_PadZeros_0 (s, 9, ()) = some (.inl (bl [48] ++ s, 9, ())) := by
        simp only [S_spec_PadZeros_0]
        rw [show decide ((s.size : Int) < 9) = true by simp; omega, cond_true, grd (by have : (⟨#[48]⟩ : ByteArray).size = 1 := rfl; rw [this]; omega)]
        rfl
      rw [whileO_inl hstep, ih (bl [48] ++ s) (by rw [sz_app, bl_size]; simp; omega), ← ByteArray.append_assoc, bl_app, List.replicate_succ']
  rw [key (9 - s.size) s (by omega)]
  rfl
noncomputable def lims (a : List Int) : Nat → ByteArray → ByteArray
  | 0, s => s
  | k + 1, s => lims a k (s ++ pad9 (dcB (a.getD k 0).toNat))
theorem lims_size {a : List Int} (h : Dig a) : ∀ (k : Nat) (s : ByteArray), k ≤ a.length → (lims a k s).size = s.size + 9 * k
  | 0, s, _ => rfl
  | k + 1, s, hk => by
    have h1 := h a[k] (List.getElem_mem _)
    have e : a.getD k 0 = a[k] := by rw [List.getD_eq_getElem?_getD, List.getElem?_eq_getElem (by omega)]; rfl
    rw [lims, lims_size h k _ (by omega), sz_app, pad9_size (dcB_le (by rw [e]; omega))]; omega
noncomputable def natB (a : List Int) : ByteArray := match a.getLast? with
  | none => bl [48]
  | some d => lims a (a.length - 1) (dcB d.toNat)
theorem natB_size {a : List Int} (h : Dig a) : (natB a).size ≤ 9 * a.length + 1 := by
  unfold natB
  cases hl : a.getLast? with
  | none => simp [bl_size]
  | some d =>
    simp only
    have hd := h d (List.mem_of_getLast? hl)
    have := dcB_le (u := d.toNat) (by omega)
    rw [lims_size h _ _ (by omega)]
    have : a ≠ [] := by rintro rfl; cases hl
    have := List.length_pos_iff.2 this
    omega
theorem loop_lims {S : List Int × ByteArray × Int × Unit → Option ((List Int × ByteArray × Int × Unit) ⊕ (ByteArray × Unit))} {a : List Int} (hd : Dig a)
    (h1 : ∀ (k : Nat) (s : ByteArray), k < a.length → s.size ≤ 1000000000 → S (a, s, (k : Int), ()) = some (.inl (a, s ++ pad9 (dcB (a.getD k 0).toNat), (k : Int) - 1, ())))
    (h0 : ∀ s, S (a, s, -1, ()) = some (.inr (s, ()))) : ∀ (k : Nat) (s : ByteArray), k ≤ a.length → s.size + 9 * k ≤ 1000000000 → whileO S (a, s, (k : Int) - 1, ()) = some (lims a k s, ())
  | 0, s, _, _ => whileO_inr (h0 s)
  | k + 1, s, hk, hs => by
    have e : (((k + 1 : Nat) : Int) - 1) = (k : Int) := by omega
    rw [e, whileO_inl (h1 k s (by omega) (by omega)), loop_lims hd h1 h0 k _ (by omega) ?_, lims]
    have hk1 := hd a[k] (List.getElem_mem _)
    have e1 : a.getD k 0 = a[k] := by rw [List.getD_eq_getElem?_getD, List.getElem?_eq_getElem (by omega)]; rfl
    rw [sz_app, pad9_size (dcB_le (by rw [e1]; omega))]; omega
theorem limb_at {a : List Int} (hd : Dig a) {k : Nat} (hk : k < a.length) : ∃ u : Nat, u < 1000000000 ∧ idx a (k : Int) = some (u : Int) ∧ a.getD k 0 = (u : Int) := by
  have h := hd a[k] (List.getElem_mem _)
  refine ⟨a[k].toNat, by omega, ?_, ?_⟩
  · rw [idx_at hk]; congr 1; omega
  · rw [List.getD_eq_getElem?_getD, List.getElem?_eq_getElem hk]; show a[k] = _; omega
theorem impl_loopF {a : List Int} (hd : Dig a) (hl : a.length ≤ 1000) (k : Nat) (s : ByteArray) (hk : k ≤ a.length) (hs : s.size ≤ 1000000) : L_impl_formatNat_0 a s ((k : Int) - 1) = some (lims a k s, ()) := by
  unfold L_impl_formatNat_0
  refine loop_lims hd (fun k s hk hs => ?_) (fun s => rfl) k s hk (by omega)
  obtain ⟨u, hu, e1, e2⟩ := limb_at hd hk
  simp only [S_impl_formatNat_0]
  rw [show decide ((k : Int) ≥ 0) = true by simp, cond_true, e1, e2, Option.bind_some, impl_itoa (by omega), Option.bind_some, impl_pad (dcB_le hu), Option.bind_some, grd (by rw [pad9_size (dcB_le hu)]; omega), wrap_i64 (by omega) (by omega), Int.toNat_natCast]
theorem spec_loopF {a : List Int} (hd : Dig a) (hl : a.length ≤ 1000) (k : Nat) (s : ByteArray) (hk : k ≤ a.length) (hs : s.size ≤ 1000000) : L_spec_FormatNat_0 a s ((k : Int) - 1) = some (lims a k s, ()) := by
  unfold L_spec_FormatNat_0
  refine loop_lims hd (fun k s hk hs => ?_) (fun s => rfl) k s hk (by omega)
  obtain ⟨u, hu, e1, e2⟩ := limb_at hd hk
  simp only [S_spec_FormatNat_0]
  rw [show decide ((k : Int) ≥ 0) = true by simp, cond_true, e1, e2, Option.bind_some, spec_fmtInt (by omega), Option.bind_some, spec_pad (dcB_le hu), Option.bind_some, grd (by rw [pad9_size (dcB_le hu)]; omega), wrap_i64 (by omega) (by omega), Int.toNat_natCast]
theorem natB_cons {a : List Int} (hn : a ≠ []) : natB a = lims a (a.length - 1) (dcB (a.getLast hn).toNat) := by
  unfold natB
  rw [List.getLast?_eq_some_getLast hn]
theorem impl_natF {a : List Int} (h : NatOk a) : M_impl_formatNat a = some (natB a) := by
  have hl := h.2
  unfold M_impl_formatNat
  by_cases hn : a = []
  · subst hn; rfl
  · have hp : 0 < a.length := List.length_pos_iff.2 hn
    have hd := h.1.1 _ (List.getLast_mem hn)
    rw [show ((a.length : Int) == 0) = false by simp [hn], cond_false, last_idx hn (by omega), Option.bind_some]
    obtain ⟨u, hu⟩ : ∃ u : Nat, a.getLast hn = (u : Int) := ⟨(a.getLast hn).toNat, by omega⟩
    rw [natB_cons hn, hu, impl_itoa (by omega), Option.bind_some, wrap_i64 (by omega) (by omega), show ((a.length : Int) - 2) = ((a.length - 1 : Nat) : Int) - 1 by omega,
      impl_loopF h.1.1 (by omega) _ _ (by omega) (by have := dcB_le (u := u) (by omega); omega)]
    rfl
theorem spec_natF {a : List Int} (h : NatOk a) : M_spec_FormatNat a = some (natB a) := by
  have hl := h.2
  unfold M_spec_FormatNat
  rw [spec_natOk (by omega), (pB_iff).2 h, Option.bind_some, Bool.not_true, cond_false]
  by_cases hn : a = []
  · subst hn; rfl
  · have hp : 0 < a.length := List.length_pos_iff.2 hn
    have hd := h.1.1 _ (List.getLast_mem hn)
    rw [show ((a.length : Int) == 0) = false by simp [hn], cond_false, last_idx hn (by omega), Option.bind_some]
    obtain ⟨u, hu⟩ : ∃ u : Nat, a.getLast hn = (u : Int) := ⟨(a.getLast hn).toNat, by omega⟩
    rw [natB_cons hn, hu, spec_fmtInt (by omega), Option.bind_some, wrap_i64 (by omega) (by omega), show ((a.length : Int) - 2) = ((a.length - 1 : Nat) : Int) - 1 by omega,
      spec_loopF h.1.1 (by omega) _ _ (by omega) (by have := dcB_le (u := u) (by omega); omega)]
    rfl
end Go.Di
namespace Go.Di
theorem spec_signq {q : Rat} (h : Fit q) : M_spec_RatSign (rq q) = some (cond (decide (q.num < 0)) (-1) (cond (decide (q.num ≠ 0)) 1 0)) := by
  unfold M_spec_RatSign
  have hf : (rq q).fit := ro_fit h.ok
  rw [spec_ratOk hf, good_rq h, Option.bind_some]
  show cond (!true) _ (cond (((dg q.num.natAbs).length : Int) == 0) _ (cond (decide (q.num < 0)) _ _)) = _
  rw [dg_len0]
  by_cases h0 : q.num = 0
  · rw [decide_eq_true (show q.num.natAbs = 0 by omega), decide_eq_false (show ¬ q.num < 0 by omega), decide_eq_false (show ¬ q.num ≠ 0 by omega)]; rfl
  · rw [decide_eq_false (show ¬ q.num.natAbs = 0 by omega), decide_eq_true h0]
    cases decide (q.num < 0) <;> rfl
noncomputable def posB (r : Rt) : Bool := pB (∃ q : Rat, Fit q ∧ r = rq q ∧ 0 < q.num)
theorem posB_rq {q : Rat} (h : Fit q) : posB (rq q) = decide (0 < q.num) := by
  unfold posB
  rw [← pB_dec]
  refine pB_congr ⟨?_, fun h0 => ⟨q, h, rfl, h0⟩⟩
  rintro ⟨p, _, h1, h2⟩
  rw [rq_inj h1]; exact h2
theorem posB_good {r : Rt} (h : ¬ Good r) : posB r = false := by
  unfold posB
  rw [pB_not]
  rintro ⟨q, h1, h2, _⟩
  exact h ⟨q, h1, h2⟩
theorem spec_pos {r : Rt} (hf : r.fit) : ∃ s : Int, M_spec_RatSign r = some s ∧ decide (s > 0) = posB r := by
  by_cases hg : Good r
  · obtain ⟨q, h1, rfl⟩ := hg
    rw [spec_signq h1, posB_rq h1]
    refine ⟨_, rfl, ?_⟩
    by_cases h2 : q.num < 0
    · rw [decide_eq_true h2, decide_eq_false (show ¬ 0 < q.num by omega)]; rfl
    · rw [decide_eq_false h2]
      by_cases h3 : q.num = 0
      · rw [decide_eq_false (show ¬ q.num ≠ 0 by omega), decide_eq_false (show ¬ 0 < q.num by omega)]; rfl
      · rw [decide_eq_true h3, decide_eq_true (show 0 < q.num by omega)]; rfl
  · unfold M_spec_RatSign
    rw [spec_ratOk hf, pB_not.2 hg, posB_good hg]; exact ⟨0, rfl, rfl⟩
theorem impl_posq {q : Rat} (h1 : Fit q) : ∃ s : Int, M_impl_sign (rq q) = some s ∧ decide (s > 0) = posB (rq q) ∧ decide (s ≤ 0) = !posB (rq q) := by
  rw [impl_signq, posB_rq h1]
  refine ⟨_, rfl, ?_⟩
  by_cases h2 : q.num < 0
  · rw [decide_eq_true h2, decide_eq_false (show ¬ 0 < q.num by omega)]; exact ⟨rfl, rfl⟩
  · rw [decide_eq_false h2]
    by_cases h3 : q.num = 0
    · rw [decide_eq_false (show ¬ q.num ≠ 0 by omega), decide_eq_false (show ¬ 0 < q.num by omega)]; exact ⟨rfl, rfl⟩
    · rw [decide_eq_true h3, decide_eq_true (show 0 < q.num by omega)]; exact ⟨rfl, rfl⟩
noncomputable def endB (o : Obs) : Bool := pB (Good o.value) && ((!(o.kind == 7) || posB o.value) && posB o.variance)
theorem spec_end {o : Obs} (h : o.fit) : ((M_spec_RatOk o.value).bind fun r5 =>
      cond r5
        (cond (o.kind != 7)
          ((M_spec_RatSign o.variance).bind fun r6 =>
          some (decide (r6 > 0)))
          ((M_spec_RatSign o.value).bind fun r6 =>
          cond (decide (r6 > 0))
            ((M_spec_RatSign o.variance).bind fun r7 =>
            some (decide (r7 > 0)))
            (some false)))
        (some false)) = some (endB o) := by
  obtain ⟨s, h1, h2⟩ := spec_pos h.1
  obtain ⟨t, h3, h4⟩ := spec_pos h.2
  unfold endB
  rw [spec_ratOk h.1, h1, h3]
  simp only [Option.bind_some, h2, h4]
  rw [show (o.kind != 7) = !(o.kind == 7) from rfl]
  cases pB (Good o.value) <;> cases (o.kind == 7) <;> cases posB o.value <;> cases posB o.variance <;> rfl
theorem impl_end {o : Obs} (h : o.fit) : ((M_impl_RatOk o.value).bind fun r1 =>
      cond (!r1)
        (some false)
        (cond (o.kind == 7)
          ((M_impl_sign o.value).bind fun r2 =>
          cond (decide (r2 ≤ 0))
            (some false)
            ((M_impl_RatOk o.variance).bind fun r3 =>
            cond r3
              ((M_impl_sign o.variance).bind fun r4 =>
              some (decide (r4 > 0)))
              (some false)))
          ((M_impl_RatOk o.variance).bind fun r2 =>
          cond r2
            ((M_impl_sign o.variance).bind fun r3 =>
            some (decide (r3 > 0)))
            (some false)))) = some (endB o) := by
  have hv : ((M_impl_RatOk o.variance).bind fun r3 => cond r3 ((M_impl_sign o.variance).bind fun r4 => some (decide (r4 > 0))) (some false)) = some (posB o.variance) := by
    rw [impl_ratOk h.2, Option.bind_some]
    by_cases hg : Good o.variance
    · rw [pB_iff.2 hg, cond_true]
      obtain ⟨q, h1, h2⟩ := hg
      rw [h2]
      obtain ⟨s, k1, k2, _⟩ := impl_posq h1
      rw [k1, Option.bind_some, k2]
    · rw [pB_not.2 hg, posB_good hg]; rfl
  unfold endB
  rw [hv, impl_ratOk h.1, Option.bind_some]
  by_cases hg : Good o.value
  · rw [pB_iff.2 hg]
    simp only [Bool.not_true, cond_false, Bool.true_and]
    obtain ⟨q, h1, h2⟩ := hg
    rw [h2]
    obtain ⟨s, k1, _, k3⟩ := impl_posq h1
    rw [k1, Option.bind_some, k3]
    cases (o.kind == 7) <;> cases posB (rq q) <;> cases posB o.variance <;> rfl
  · rw [pB_not.2 hg]; rfl
def betB (k : Int) : Bool := k == 2 || (decide (k ≥ 5) && decide (k ≤ 8))
theorem spec_bet (k : Int) : M_spec_IsBetween k = some (betB k) := by
  unfold M_spec_IsBetween M_spec_l01In betB
  cases (k == 2) <;> cases decide (k ≥ 5) <;> rfl
theorem impl_bet (k : Int) : M_impl_IsBetween k = some (betB k) := by
  unfold M_impl_IsBetween betB
  cases (k == 2) <;> cases decide (k ≥ 5) <;> rfl
def fitsB (k : Int) (plane : Bool) : Bool := cond plane (inB k 3 8) (inB k 1 2)
theorem spec_fits (k : Int) (plane : Bool) : M_spec_l11Fits k plane = some (fitsB k plane) := by
  unfold M_spec_l11Fits fitsB
  rw [spec_in, spec_in]
  cases plane <;> rfl
noncomputable def obsB (n : Net) (o : Obs) : Bool :=
  fitsB o.kind n.plane && ((decide (0 ≤ o.frm) && decide (o.frm < n.stations.length)) && (cond (betB o.kind) ((decide (0 ≤ o.to) && decide (o.to < n.stations.length)) && !(o.to == o.frm)) (o.to == 0) && endB o))
theorem inB_len {x : Int} {n : Nat} (h : n ≤ 1048576) : inB x 0 (IntKind.i64.wrap ((n : Int) - 1)) = (decide (0 ≤ x) && decide (x < n)) := by
  rw [wrap_i64 (by omega) (by omega)]
  unfold inB
  rw [Bool.eq_iff_iff]; simp; omega
theorem spec_obsOk {n : Net} {o : Obs} (hn : n.stations.length ≤ 1048576) (h : o.fit) : M_spec_l11Ok n o = some (obsB n o) := by
  have he := spec_end h
  unfold M_spec_l11Ok obsB
  simp only [spec_fits, spec_in, spec_bet, Option.bind_some, inB_len hn, he]
  rw [show (o.to != 0) = !(o.to == 0) from rfl]
  cases fitsB o.kind n.plane <;> cases (decide (0 ≤ o.frm) && decide (o.frm < n.stations.length)) <;> cases betB o.kind <;> cases (decide (0 ≤ o.to) && decide (o.to < n.stations.length)) <;> cases (o.to == o.frm) <;> cases (o.to == 0) <;> cases endB o <;> rfl
theorem impl_obsFits {n : Net} {o : Obs} (h : o.fit) : M_impl_observationFits n o = some (obsB n o) := by
  have he := impl_end h
  unfold M_impl_observationFits obsB
  simp only [impl_bet, Option.bind_some, he]
  rw [show (o.to != 0) = !(o.to == 0) from rfl]
  have hk : fitsB o.kind n.plane = (decide (o.kind ≥ 1) && (decide (o.kind ≤ 8) && !(n.plane == decide (o.kind ≤ 2)))) := by
    unfold fitsB inB
    cases n.plane with
    | true => rw [Bool.eq_iff_iff]; simp; omega
    | false => rw [Bool.eq_iff_iff]; simp; omega
  rw [hk, lt_not o.kind 1, gt_not o.kind 8, ge_le o.kind 1, lt_not o.frm 0, lt_not o.to 0]
  have g1 : decide (o.frm ≥ (n.stations.length : Int)) = !decide (o.frm < (n.stations.length : Int)) := by rw [Bool.eq_iff_iff]; simp
  have g2 : decide (o.to ≥ (n.stations.length : Int)) = !decide (o.to < (n.stations.length : Int)) := by rw [Bool.eq_iff_iff]; simp
  rw [g1, g2]
  cases decide (1 ≤ o.kind) <;> cases decide (o.kind ≤ 8) <;> cases (n.plane == decide (o.kind ≤ 2)) <;> cases decide (0 ≤ o.frm) <;> cases decide (o.frm < (n.stations.length : Int)) <;> cases betB o.kind <;> cases decide (0 ≤ o.to) <;> cases decide (o.to < (n.stations.length : Int)) <;> cases (o.to == o.frm) <;> cases (o.to == 0) <;> cases endB o <;> rfl
theorem spec_obsOk' {n : Net} {o : Obs} (hn : lfit Sta.fitN n.stations) (h : o.fit) : M_spec_ObservationOk n o = some (netB n && obsB n o) := by
  unfold M_spec_ObservationOk
  exact bind_and (spec_netOk hn) (by rw [spec_obsOk hn.1 h]; rfl)
theorem impl_obsOk' {n : Net} {o : Obs} (hn : lfit Sta.fitN n.stations) (h : o.fit) : M_impl_ObservationOk n o = some (netB n && obsB n o) := by
  unfold M_impl_ObservationOk
  exact bind_and (impl_netOk (fitN_fit hn)) (by rw [impl_obsFits h]; rfl)
end Go.Di
namespace Go.Di
def oneB (a : List Int) : Bool := match a with
  | [x] => x == 1
  | _ => false
theorem impl_one (a : List Int) : M_impl_isOne a = some (oneB a) := by
  unfold M_impl_isOne
  match a with
  | [] => rfl
  | [x] => rfl
  | x :: y :: r => rw [show (((x :: y :: r).length : Int) == 1) = false by simp; omega]; rfl
theorem spec_one (a : List Int) : M_spec_l04One a = some (oneB a) := impl_one a
noncomputable def numB (neg : Bool) (mag : List Int) : ByteArray := cond neg ((⟨#[45]⟩ : ByteArray) ++ natB mag) (natB mag)
theorem numB_size {neg : Bool} {mag : List Int} (h : NatOk mag) : (numB neg mag).size ≤ 600 := by
  have h1 := natB_size h.1.1
  have h2 := h.2
  have h3 : (⟨#[45]⟩ : ByteArray).size = 1 := rfl
  cases neg with
  | true => show ((⟨#[45]⟩ : ByteArray) ++ natB mag).size ≤ 600; rw [sz_app]; omega
  | false => show (natB mag).size ≤ 600; omega
theorem impl_bigF {neg : Bool} {mag : List Int} (h : NatOk mag) : M_impl_formatBig ⟨neg, mag⟩ = some (numB neg mag) := by
  have h1 := natB_size h.1.1
  have h2 := h.2
  unfold M_impl_formatBig
  cases neg with
  | false => show ((M_impl_formatNat mag).bind fun r => some r) = _; rw [impl_natF h]; rfl
  | true =>
    show ((M_impl_formatNat mag).bind fun r => (guardO (Nat.ble (((⟨#[45]⟩ : ByteArray).size) + r.size) 4611686018427387904)).bind fun _ => some ((⟨#[45]⟩ : ByteArray) ++ r)) = _
    rw [impl_natF h, Option.bind_some, grd (by have : (⟨#[45]⟩ : ByteArray).size = 1 := rfl; rw [this]; omega)]
    rfl
theorem spec_bigF {neg : Bool} {mag : List Int} (h : NatOk mag) (hn : mag ≠ [] ∨ neg = false) : M_spec_FormatBigInt ⟨neg, mag⟩ = some (numB neg mag) := by
  have h1 := natB_size h.1.1
  have h2 := h.2
  have hok : M_spec_BigIntOk ⟨neg, mag⟩ = some true := by
    unfold M_spec_BigIntOk
    rw [spec_natOk (show mag.length ≤ 1048576 by omega), pB_iff.2 h, Option.bind_some, cond_true]
    rcases hn with hn | rfl
    · show cond (!neg) (some true) (some (decide ((mag.length : Int) > 0))) = _
      rw [show decide ((mag.length : Int) > 0) = true by simpa using List.length_pos_iff.2 hn]
      cases neg <;> rfl
    · rfl
  unfold M_spec_FormatBigInt
  rw [hok, Option.bind_some, Bool.not_true, cond_false]
  cases neg with
  | false => show ((M_spec_FormatNat mag).bind fun r => some r) = _; rw [spec_natF h]; rfl
  | true =>
    show ((M_spec_FormatNat mag).bind fun r => (guardO (Nat.ble (((⟨#[45]⟩ : ByteArray).size) + r.size) 4611686018427387904)).bind fun _ => some ((⟨#[45]⟩ : ByteArray) ++ r)) = _
    rw [spec_natF h, Option.bind_some, grd (by have : (⟨#[45]⟩ : ByteArray).size = 1 := rfl; rw [this]; omega)]
    rfl
noncomputable def ratB (r : Rt) : ByteArray := cond (oneB r.den) (numB r.neg r.mag) ((numB r.neg r.mag ++ (⟨#[47]⟩ : ByteArray)) ++ natB r.den)
theorem ratB_size {r : Rt} (h : Good r) : (ratB r).size ≤ 2000 := by
  obtain ⟨h1, h2, h3, _⟩ := good_iff.1 h
  have k1 := numB_size (neg := r.neg) h1
  have k2 := natB_size h3.1.1
  have k3 := h3.2
  have h3 : (⟨#[47]⟩ : ByteArray).size = 1 := rfl
  unfold ratB
  cases oneB r.den with
  | true => show (numB r.neg r.mag).size ≤ _; omega
  | false => show ((numB r.neg r.mag ++ (⟨#[47]⟩ : ByteArray)) ++ natB r.den).size ≤ _; rw [sz_app, sz_app]; omega
theorem impl_ratF {r : Rt} (h : Good r) : M_impl_formatRat r = some (ratB r) := by
  obtain ⟨h1, h2, h3, _⟩ := good_iff.1 h
  have k1 := numB_size (neg := r.neg) h1
  have k2 := natB_size h3.1.1
  have k3 := h3.2
  have h4 : (⟨#[47]⟩ : ByteArray).size = 1 := rfl
  unfold M_impl_formatRat ratB
  rw [impl_one, Option.bind_some, impl_bigF h1, Option.bind_some, Option.bind_some, impl_natF h3]
  cases oneB r.den with
  | true => rfl
  | false =>
    simp only [cond_false, Option.bind_some]
    rw [grd (by omega), grd (by rw [sz_app]; omega)]
theorem spec_ratF {r : Rt} (hf : r.fit) (h : Good r) : M_spec_FormatRat r = some (ratB r) := by
  have hr := spec_ratOk hf
  rw [pB_iff.2 h] at hr
  obtain ⟨h1, h2, h3, _⟩ := good_iff.1 h
  have k1 := numB_size (neg := r.neg) h1
  have k2 := natB_size h3.1.1
  have k3 := h3.2
  have h4 : (⟨#[47]⟩ : ByteArray).size = 1 := rfl
  unfold M_spec_FormatRat ratB
  rw [hr, Option.bind_some, Bool.not_true, cond_false, spec_one, Option.bind_some, spec_bigF h1 h2, Option.bind_some, Option.bind_some, spec_natF h3]
  cases oneB r.den with
  | true => rfl
  | false =>
    simp only [cond_false, Option.bind_some]
    rw [grd (by omega), grd (by rw [sz_app]; omega)]
theorem kind_both (kind : Int) : ∃ v, M_spec_KindName kind = some v ∧ M_impl_KindName kind = some v ∧ v.size ≤ 8 := by
  by_cases h : 1 ≤ kind ∧ kind ≤ 8
  · have : kind = 1 ∨ kind = 2 ∨ kind = 3 ∨ kind = 4 ∨ kind = 5 ∨ kind = 6 ∨ kind = 7 ∨ kind = 8 := by omega
    rcases this with rfl | rfl | rfl | rfl | rfl | rfl | rfl | rfl <;> exact ⟨_, rfl, rfl, by decide⟩
  · unfold M_spec_KindName M_impl_KindName M_spec_l01In
    by_cases h1 : kind < 1
    · have e1 : decide (kind ≥ 1) = false := by simpa using h1
      have e2 : decide (kind < 1) = true := by simpa using h1
      rw [e1, e2]; exact ⟨_, rfl, rfl, by decide⟩
    · have e1 : decide (kind ≥ 1) = true := by simp; omega
      have e2 : decide (kind < 1) = false := by simp; omega
      have e3 : decide (kind ≤ 8) = false := by simp; omega
      have e4 : decide (kind > 8) = true := by simp; omega
      rw [e1, e2, e3, e4]; exact ⟨_, rfl, rfl, by decide⟩
theorem obs_facts {n : Net} {o : Obs} (h : obsB n o = true) : (0 ≤ o.frm ∧ o.frm < n.stations.length) ∧ (betB o.kind = true → 0 ≤ o.to ∧ o.to < n.stations.length) ∧ Good o.value ∧ Good o.variance := by
  unfold obsB at h
  simp only [Bool.and_eq_true, decide_eq_true_eq] at h
  obtain ⟨_, h1, h2, h3⟩ := h
  refine ⟨h1, fun hb => ?_, ?_, ?_⟩
  · rw [hb] at h2
    simp only [cond_true, Bool.and_eq_true, decide_eq_true_eq] at h2
    exact h2.1
  · unfold endB at h3
    simp only [Bool.and_eq_true] at h3
    exact pB_iff.1 h3.1
  · unfold endB at h3
    simp only [Bool.and_eq_true] at h3
    by_cases hg : Good o.variance
    · exact hg
    · rw [posB_good hg] at h3; exact absurd h3.2.2 (by simp)
abbrev spc : ByteArray := ⟨#[32]⟩
theorem join4 (a b c d : ByteArray) : (⟨(Lib.join ([a, b, c, d].map (·.data.toList)) spc.data.toList).toArray⟩ : ByteArray) = ((((((a ++ spc) ++ b) ++ spc) ++ c) ++ spc) ++ d) := by
  apply ByteArray.ext
  simp [Lib.join_cons, Lib.joinTail]
theorem join5 (a b c d e : ByteArray) : (⟨(Lib.join ([a, b, c, d, e].map (·.data.toList)) spc.data.toList).toArray⟩ : ByteArray) = ((((((((a ++ spc) ++ b) ++ spc) ++ c) ++ spc) ++ d) ++ spc) ++ e) := by
  apply ByteArray.ext
  simp [Lib.join_cons, Lib.joinTail]
theorem impl_join {l : List ByteArray} {v : ByteArray} (hl : l.length ≤ 5) (hv : (⟨(Lib.join (l.map (·.data.toList)) spc.data.toList).toArray⟩ : ByteArray) = v) (hs : v.size ≤ 4000000) : M_impl_Join l (⟨#[32]⟩ : ByteArray) = some v := by
  unfold M_impl_Join M_strings_Join
  have h2 : (Lib.join (l.map (·.data.toList)) spc.data.toList).length = v.size := by
    rw [← hv]; simp [ByteArray.size]
  rw [show (Nat.ble l.length 140737488355328 && Nat.ble (Lib.join (l.map (·.data.toList)) (⟨#[32]⟩ : ByteArray).data.toList).length 140737488355328) = true by
    rw [show (Lib.join (l.map (·.data.toList)) (⟨#[32]⟩ : ByteArray).data.toList).length = v.size from h2]; simp; omega]
  simp only [guardO_true, Option.bind_some]
  rw [show (⟨(Lib.join (l.map (·.data.toList)) (⟨#[32]⟩ : ByteArray).data.toList).toArray⟩ : ByteArray) = v from hv]
theorem line_both {n : Net} {o : Obs} (f : lfit Sta.fitN n.stations) (fo : o.fit) (h : obsB n o = true) : ∃ v, M_spec_l12Line n o = some v ∧
    ((M_impl_observationWords n o).bind fun r1 =>
    (M_impl_formatRat o.value).bind fun r2 =>
    (M_impl_formatRat o.variance).bind fun r3 =>
    (guardO (Nat.ble (r1.length + 2) maxNew)).bind fun _ =>
    (M_impl_Join (r1 ++ ([r2, r3] : List ByteArray)) (⟨#[32]⟩ : ByteArray)).bind fun r4 =>
    some r4) = some v ∧ v.size ≤ 3000000 := by
  obtain ⟨⟨a1, a2⟩, hb, g1, g2⟩ := obs_facts h
  obtain ⟨kw, e1, e2, ek⟩ := kind_both o.kind
  have ei : idx n.stations o.frm = some (n.stations[o.frm.toNat]'(by omega)) := idx_int a1 a2
  generalize hs1 : n.stations[o.frm.toNat]'(by omega) = s1 at ei
  have f1 : s1.name.size ≤ 1048576 := (f.2 s1 (by rw [← hs1]; exact List.getElem_mem _)).2
  have r1 := ratB_size g1
  have r2 := ratB_size g2
  have hsp : (⟨#[32]⟩ : ByteArray).size = 1 := rfl
  have hsp' : spc.size = 1 := rfl
  have m2 : Nat.ble (2 + 2) maxNew = true := by decide
  have m3 : Nat.ble (3 + 2) maxNew = true := by decide
  unfold M_spec_l12Line M_impl_observationWords
  rw [ei, e1, e2, spec_bet, impl_bet, impl_ratF g1, impl_ratF g2, spec_ratF fo.1 g1, spec_ratF fo.2 g2]
  simp only [Option.bind_some]
  cases hbt : betB o.kind with
  | false =>
    refine ⟨((((((kw ++ spc) ++ s1.name) ++ spc) ++ ratB o.value) ++ spc) ++ ratB o.variance), ?_, ?_, ?_⟩
    · simp only [cond_false]
      iterate 6 rw [grd (by first | omega | (simp only [sz_app]; omega))]
    · simp only [cond_false, Option.bind_some]
      rw [show Nat.ble (([kw, s1.name] : List ByteArray).length + 2) maxNew = true from m2]
      simp only [guardO_true, Option.bind_some]
      rw [impl_join (l := [kw, s1.name] ++ [ratB o.value, ratB o.variance]) (by simp) (join4 _ _ _ _) (by simp only [sz_app]; omega)]
      rfl
    · simp only [sz_app]; omega
  | true =>
    obtain ⟨b1, b2⟩ := hb hbt
    have ej : idx n.stations o.to = some (n.stations[o.to.toNat]'(by omega)) := idx_int b1 b2
    generalize hs2 : n.stations[o.to.toNat]'(by omega) = s2 at ej
    have f2 : s2.name.size ≤ 1048576 := (f.2 s2 (by rw [← hs2]; exact List.getElem_mem _)).2
    rw [ej]
    simp only [Option.bind_some]
    refine ⟨((((((((kw ++ spc) ++ s1.name) ++ spc) ++ s2.name) ++ spc) ++ ratB o.value) ++ spc) ++ ratB o.variance), ?_, ?_, ?_⟩
    · simp only [cond_true]
      iterate 8 rw [grd (by first | omega | (simp only [sz_app]; omega))]
    · simp only [cond_true, Option.bind_some]
      rw [show Nat.ble (([kw, s1.name, s2.name] : List ByteArray).length + 2) maxNew = true from m3]
      simp only [guardO_true, Option.bind_some]
      rw [impl_join (l := [kw, s1.name, s2.name] ++ [ratB o.value, ratB o.variance]) (by simp) (join5 _ _ _ _ _) (by simp only [sz_app]; omega)]
      rfl
    · simp only [sz_app]; omega
theorem obs_both {n : Net} {o : Obs} (f : lfit Sta.fitN n.stations) (fo : o.fit) : ∃ v, M_spec_FormatObservation n o = some v ∧ M_impl_FormatObservation n o = some v ∧ v.size ≤ 3000000 ∧ ((netB n && obsB n o) = true → M_spec_l12Line n o = some v) := by
  unfold M_spec_FormatObservation M_impl_FormatObservation
  rw [spec_obsOk' f fo, impl_obsOk' f fo, Option.bind_some, Option.bind_some]
  cases h : netB n && obsB n o with
  | false => exact ⟨_, rfl, rfl, by decide, fun h => by cases h⟩
  | true =>
    obtain ⟨v, h1, h2, h3⟩ := line_both f fo (by simp at h; exact h.2)
    refine ⟨v, ?_, ?_, h3, fun _ => h1⟩
    · simp only [Bool.not_true, cond_false]; rw [h1]; rfl
    · simp only [Bool.not_true, cond_false]; exact h2
end Go.Di
namespace Go.Di
/-! ### Half tangents -/
/-! ### Lists of observations -/
noncomputable def obssB (n : Net) (l : List Obs) : Bool := netB n && (decide (l.length ≤ 20) && l.all (obsB n))
theorem le20 {n : Nat} : decide ((n : Int) > 20) = !decide (n ≤ 20) := by rw [Bool.eq_iff_iff]; simp; omega
theorem spec_obssOk {n : Net} {l : List Obs} (hn : lfit Sta.fitN n.stations) (hl : lfit Obs.fit l) : M_spec_ObservationsOk n l = some (obssB n l) := by
  unfold M_spec_ObservationsOk obssB L_spec_ObservationsOk_0
  refine chain (spec_netOk hn) ?_
  rw [le20]
  refine chain0 ?_
  have key := all_loopE (S := S_spec_ObservationsOk_0) (fun i => (l, (l.length : Int), (i : Int), n.plane, n.stations, ())) l.length (atB (obsB n) l) () (fun i hi => by
    simp only [S_spec_ObservationsOk_0, dlt hi, cond_true, idx_at hi, Option.bind_some, spec_obsOk (n := ⟨n.plane, n.stations⟩) hn.1 (hl.2 _ (List.getElem_mem hi)), succ_wrap hi hl.1, atB_at (obsB n) hi]
    cases obsB n l[i] <;> rfl) (by simp [S_spec_ObservationsOk_0])
  rw [all_range] at key
  rw [show ((0 : Int)) = ((0 : Nat) : Int) from rfl, key]
  cases l.all (obsB n) <;> rfl
theorem impl_obssOk {n : Net} {l : List Obs} (hn : lfit Sta.fitN n.stations) (hl : lfit Obs.fit l) : M_impl_ObservationsOk n l = some (obssB n l) := by
  unfold M_impl_ObservationsOk obssB L_impl_ObservationsOk_0
  refine chain (impl_netOk (fitN_fit hn)) ?_
  rw [le20]
  refine chain0 ?_
  have key := all_loopE (S := S_impl_ObservationsOk_0) (fun i => (l, (l.length : Int), (i : Int), n.plane, n.stations, ())) l.length (atB (obsB n) l) () (fun i hi => by
    simp only [S_impl_ObservationsOk_0, dlt hi, cond_true, idx_at hi, Option.bind_some, impl_obsFits (n := ⟨n.plane, n.stations⟩) (hl.2 _ (List.getElem_mem hi)), succ_wrap hi hl.1, atB_at (obsB n) hi]
    cases obsB n l[i] <;> rfl) (by simp [S_impl_ObservationsOk_0])
  rw [all_range] at key
  rw [show ((0 : Int)) = ((0 : Nat) : Int) from rfl, key]
  cases l.all (obsB n) <;> rfl
theorem spec_bookOk {b : Bk} (hs : lfit Sta.fitN b.stations) (ho : lfit Obs.fit b.obs) : M_spec_BookOk b = some (obssB ⟨b.plane, b.stations⟩ b.obs) := by
  unfold M_spec_BookOk
  rw [spec_obssOk (n := ⟨b.plane, b.stations⟩) hs ho]; rfl
theorem impl_bookOk {b : Bk} (hs : lfit Sta.fitN b.stations) (ho : lfit Obs.fit b.obs) : M_impl_BookOk b = some (obssB ⟨b.plane, b.stations⟩ b.obs) := by
  unfold M_impl_BookOk
  rw [impl_obssOk (n := ⟨b.plane, b.stations⟩) hs ho]; rfl
end Go.Di
namespace Go.Di
def catL {α : Type} (g : α → ByteArray) (l : List α) (o : ByteArray) : ByteArray := l.foldl (fun o x => o ++ g x) o
theorem catL_size {α : Type} {g : α → ByteArray} {K : Nat} : ∀ (l : List α) (o : ByteArray), (∀ x ∈ l, (g x).size ≤ K) → (catL g l o).size ≤ o.size + K * l.length
  | [], o, _ => Nat.le_refl _
  | x :: r, o, h => by
    have := catL_size r (o ++ g x) fun y hy => h y (List.mem_cons_of_mem _ hy)
    have h1 := h x (List.mem_cons_self ..)
    show (catL g r (o ++ g x)).size ≤ _
    rw [sz_app] at this
    rw [List.length_cons, Nat.mul_add]; omega
theorem catL_take {α : Type} {g : α → ByteArray} {l : List α} {o : ByteArray} {i : Nat} (h : i < l.length) : catL g (l.take (i + 1)) o = catL g (l.take i) o ++ g l[i] := by
  unfold catL
  rw [List.take_succ_eq_append_getElem h, List.foldl_append]; rfl
theorem cat_loop {α ρ : Type} {S : ByteArray × List α × Int × Int × Bool × List Sta × List Obs × Unit → Option ((ByteArray × List α × Int × Int × Bool × List Sta × List Obs × Unit) ⊕ ρ)} {t : List α} {g : α → ByteArray} {K : Nat} {v : Bool} {v1 : List Sta} {v2 : List Obs} {o : ByteArray}
    (hg : ∀ x ∈ t, (g x).size ≤ K) (hl : t.length ≤ 100) (hK : K ≤ 10000000) (ho : o.size ≤ 1000000000)
    (hS : ∀ (i : Nat) (out : ByteArray) (h : i < t.length), out.size ≤ 2000000000 → S (out, t, (t.length : Int), (i : Int), v, v1, v2, ()) = some (.inl (out ++ g t[i], t, (t.length : Int), ((i + 1 : Nat) : Int), v, v1, v2, ()))) {r : ρ}
    (hE : S (catL g t o, t, (t.length : Int), (t.length : Int), v, v1, v2, ()) = some (.inr r)) : whileO S (o, t, (t.length : Int), 0, v, v1, v2, ()) = some r := by
  have := whileO_upto S (fun i => (catL g (t.take i) o, t, (t.length : Int), (i : Int), v, v1, v2, ())) t.length r (fun i hi => ?_) (by simp only [List.take_length]; exact hE)
  · simpa [catL] using this
  · have hs := catL_size (g := g) (K := K) (t.take i) o fun x hx => hg x (List.mem_of_mem_take hx)
    have hm : K * (t.take i).length ≤ 10000000 * 100 := Nat.mul_le_mul hK (by rw [List.length_take]; omega)
    rw [hS i _ hi (by omega), catL_take hi]
abbrev nlc : ByteArray := ⟨#[10]⟩
noncomputable def staL (plane : Bool) (e : Sta) : ByteArray := cond e.fixed (⟨#[102, 105, 120, 101, 100, 32]⟩ : ByteArray) (⟨#[102, 114, 101, 101, 32]⟩ : ByteArray) ++ (e.name ++ (spc ++ (ratB e.x ++ cond plane (spc ++ (ratB e.y ++ nlc)) nlc)))
theorem staL_size {plane : Bool} {e : Sta} (h1 : e.name.size ≤ 1048576) (h2 : Good e.x) (h3 : Good e.y) : (staL plane e).size ≤ 2000000 := by
  have k1 := ratB_size h2
  have k2 := ratB_size h3
  have s1 : spc.size = 1 := rfl
  have s2 : nlc.size = 1 := rfl
  have s3 : (⟨#[102, 105, 120, 101, 100, 32]⟩ : ByteArray).size = 6 := rfl
  have s4 : (⟨#[102, 114, 101, 101, 32]⟩ : ByteArray).size = 5 := rfl
  unfold staL
  cases e.fixed <;> cases plane <;> simp only [cond_true, cond_false, sz_app] <;> omega
section
variable {t : List Sta} {plane : Bool} {v1 : List Sta} {v2 : List Obs} {i : Nat} {out : ByteArray}
theorem impl_staStep (hi : i < t.length) (hl : t.length ≤ 100) (ho : out.size ≤ 2000000000) (h1 : t[i].name.size ≤ 1048576) (h2 : Good t[i].x) (h3 : Good t[i].y) :
    S_impl_FormatBook_0 (out, t, (t.length : Int), (i : Int), plane, v1, v2, ()) = some (.inl (out ++ staL plane t[i], t, (t.length : Int), ((i + 1 : Nat) : Int), plane, v1, v2, ())) := by
  have k1 := ratB_size h2
  have k2 := ratB_size h3
  have s1 : (⟨#[32]⟩ : ByteArray).size = 1 := rfl
  have s2 : (⟨#[10]⟩ : ByteArray).size = 1 := rfl
  have s3 : (⟨#[102, 105, 120, 101, 100, 32]⟩ : ByteArray).size = 6 := rfl
  have s4 : (⟨#[102, 114, 101, 101, 32]⟩ : ByteArray).size = 5 := rfl
  have s5 : (⟨#[102, 105, 120, 101, 100]⟩ : ByteArray).size = 5 := rfl
  have s6 : (⟨#[102, 114, 101, 101]⟩ : ByteArray).size = 4 := rfl
  simp only [S_impl_FormatBook_0, dlt hi, cond_true, idx_at hi, Option.bind_some, impl_ratF h2, impl_ratF h3, succ_wrap hi (show t.length ≤ 1048576 by omega)]
  unfold staL
  cases t[i].fixed <;> simp only [cond_true, cond_false] <;> (repeat rw [grd (by first | omega | (simp only [sz_app]; omega))]) <;> cases plane <;> simp only [cond_true, cond_false] <;>
    (repeat rw [grd (by first | omega | (simp only [sz_app]; omega))]) <;> simp only [ByteArray.append_assoc]
theorem spec_staStep (hi : i < t.length) (hl : t.length ≤ 100) (ho : out.size ≤ 2000000000) (h1 : t[i].name.size ≤ 1048576) (f1 : t[i].fit) (h2 : Good t[i].x) (h3 : Good t[i].y) :
    S_spec_FormatBook_0 (out, t, (t.length : Int), (i : Int), plane, v1, v2, ()) = some (.inl (out ++ staL plane t[i], t, (t.length : Int), ((i + 1 : Nat) : Int), plane, v1, v2, ())) := by
  have k1 := ratB_size h2
  have k2 := ratB_size h3
  have s1 : (⟨#[32]⟩ : ByteArray).size = 1 := rfl
  have s2 : (⟨#[10]⟩ : ByteArray).size = 1 := rfl
  have s3 : (⟨#[102, 105, 120, 101, 100, 32]⟩ : ByteArray).size = 6 := rfl
  have s4 : (⟨#[102, 114, 101, 101, 32]⟩ : ByteArray).size = 5 := rfl
  simp only [S_spec_FormatBook_0, dlt hi, cond_true, idx_at hi, Option.bind_some, spec_ratF f1.1 h2, spec_ratF f1.2 h3, succ_wrap hi (show t.length ≤ 1048576 by omega)]
  unfold staL
  cases t[i].fixed <;> simp only [cond_true, cond_false] <;> (repeat rw [grd (by first | omega | (simp only [sz_app]; omega))]) <;> cases plane <;> simp only [cond_true, cond_false] <;>
    (repeat rw [grd (by first | omega | (simp only [sz_app]; omega))]) <;> simp only [ByteArray.append_assoc]
end
noncomputable def obsL (n : Net) (o : Obs) : ByteArray := (M_spec_l12Line n o).getD (⟨#[]⟩ : ByteArray) ++ nlc
theorem netB_good {n : Net} (h : netB n = true) : n.stations.length ≤ 8 ∧ ∀ e ∈ n.stations, nameB e.name = true ∧ Good e.x ∧ Good e.y := by
  unfold netB at h
  simp only [Bool.and_eq_true, decide_eq_true_eq, List.all_eq_true, List.mem_range] at h
  refine ⟨h.1, fun e he => ?_⟩
  obtain ⟨i, hi, rfl⟩ := List.getElem_of_mem he
  have := h.2 i hi
  unfold netP staB at this
  rw [List.getElem?_eq_getElem hi] at this
  simp only [Bool.and_eq_true] at this
  exact ⟨this.1.1, pB_iff.1 this.1.2.1, pB_iff.1 this.1.2.2.1⟩
noncomputable def bookT (b : Bk) : ByteArray := catL (obsL ⟨b.plane, b.stations⟩) b.obs (catL (staL b.plane) b.stations (cond b.plane (⟨#[112, 108, 97, 110, 101, 10]⟩ : ByteArray) (⟨#[104, 101, 105, 103, 104, 116, 115, 10]⟩ : ByteArray)))
noncomputable def bookF (b : Bk) : ByteArray := cond (obssB ⟨b.plane, b.stations⟩ b.obs) (bookT b) (⟨#[]⟩ : ByteArray)
theorem book_both {b : Bk} (hs : lfit Sta.fitN b.stations) (ho : lfit Obs.fit b.obs) : M_spec_FormatBook b = some (bookF b) ∧ M_impl_FormatBook b = some (bookF b) := by
  unfold M_spec_FormatBook M_impl_FormatBook bookF
  rw [spec_bookOk hs ho, impl_bookOk hs ho, Option.bind_some, Option.bind_some]
  cases h : obssB ⟨b.plane, b.stations⟩ b.obs with
  | false => exact ⟨rfl, rfl⟩
  | true =>
    unfold obssB at h
    simp only [Bool.and_eq_true, decide_eq_true_eq, List.all_eq_true] at h
    obtain ⟨hn, hlen, hobs⟩ := h
    obtain ⟨n8, hgood⟩ := netB_good hn
    have n8 : b.stations.length ≤ 8 := n8
    have hgood : ∀ e ∈ b.stations, nameB e.name = true ∧ Good e.x ∧ Good e.y := hgood
    have sL : ∀ e ∈ b.stations, (staL b.plane e).size ≤ 2000000 := fun e he => staL_size (hs.2 e he).2 (hgood e he).2.1 (hgood e he).2.2
    have oL : ∀ o ∈ b.obs, ∃ v, M_spec_l12Line ⟨b.plane, b.stations⟩ o = some v ∧ M_impl_FormatObservation ⟨b.plane, b.stations⟩ o = some v ∧ obsL ⟨b.plane, b.stations⟩ o = v ++ nlc ∧ v.size ≤ 3000000 := fun o hm => by
      obtain ⟨v, _, h2, h3, h4⟩ := obs_both (n := ⟨b.plane, b.stations⟩) hs (ho.2 o hm)
      have h4 := h4 (by rw [hn, hobs o hm]; rfl)
      exact ⟨v, h4, h2, by unfold obsL; rw [h4]; rfl, h3⟩
    have s2 : nlc.size = 1 := rfl
    have oS : ∀ o ∈ b.obs, (obsL ⟨b.plane, b.stations⟩ o).size ≤ 3000001 := fun o hm => by
      obtain ⟨v, _, _, h3, h4⟩ := oL o hm
      rw [h3, sz_app]; omega
    have hd : ∀ o : ByteArray, o.size ≤ 100 → (catL (staL b.plane) b.stations o).size ≤ 1000000000 := fun o h => by
      have := catL_size b.stations o sL
      have : 2000000 * b.stations.length ≤ 2000000 * 8 := Nat.mul_le_mul_left _ n8
      omega
    have i0 : ∀ o : ByteArray, o.size ≤ 100 → L_impl_FormatBook_0 o b.stations (b.stations.length : Int) 0 b.plane b.stations b.obs = some (catL (staL b.plane) b.stations o, b.plane, b.stations, b.obs, ()) := fun o h => by
      unfold L_impl_FormatBook_0
      exact cat_loop sL (by omega) (by omega) (by omega) (fun i out hi hz => impl_staStep hi (by omega) hz (hs.2 _ (List.getElem_mem hi)).2 (hgood _ (List.getElem_mem hi)).2.1 (hgood _ (List.getElem_mem hi)).2.2) (by simp [S_impl_FormatBook_0])
    have s0 : ∀ o : ByteArray, o.size ≤ 100 → L_spec_FormatBook_0 o b.stations (b.stations.length : Int) 0 b.plane b.stations b.obs = some (catL (staL b.plane) b.stations o, b.plane, b.stations, b.obs, ()) := fun o h => by
      unfold L_spec_FormatBook_0
      exact cat_loop sL (by omega) (by omega) (by omega) (fun i out hi hz => spec_staStep hi (by omega) hz (hs.2 _ (List.getElem_mem hi)).2 (hs.2 _ (List.getElem_mem hi)).1 (hgood _ (List.getElem_mem hi)).2.1 (hgood _ (List.getElem_mem hi)).2.2) (by simp [S_spec_FormatBook_0])
    have i1 : ∀ o : ByteArray, o.size ≤ 1000000000 → L_impl_FormatBook_1 o b.obs (b.obs.length : Int) 0 b.plane b.stations b.obs = some (catL (obsL ⟨b.plane, b.stations⟩) b.obs o, ()) := fun o h => by
      unfold L_impl_FormatBook_1
      refine cat_loop oS (by omega) (by omega) h (fun i out hi hz => ?_) (by simp [S_impl_FormatBook_1])
      obtain ⟨v, _, h2, h3, h4⟩ := oL _ (List.getElem_mem hi)
      have s2 : (⟨#[10]⟩ : ByteArray).size = 1 := rfl
      simp only [S_impl_FormatBook_1, dlt hi, cond_true, idx_at hi, Option.bind_some, h2, h3, succ_wrap hi (show b.obs.length ≤ 1048576 by omega)]
      rw [grd (by omega), grd (by simp only [sz_app]; omega)]
    have s1 : ∀ o : ByteArray, o.size ≤ 1000000000 → L_spec_FormatBook_1 o b.obs (b.obs.length : Int) 0 b.plane b.stations b.obs = some (catL (obsL ⟨b.plane, b.stations⟩) b.obs o, ()) := fun o h => by
      unfold L_spec_FormatBook_1
      refine cat_loop oS (by omega) (by omega) h (fun i out hi hz => ?_) (by simp [S_spec_FormatBook_1])
      obtain ⟨v, h1, _, h3, h4⟩ := oL _ (List.getElem_mem hi)
      have s2 : (⟨#[10]⟩ : ByteArray).size = 1 := rfl
      simp only [S_spec_FormatBook_1, dlt hi, cond_true, idx_at hi, Option.bind_some, h1, h3, succ_wrap hi (show b.obs.length ≤ 1048576 by omega)]
      rw [grd (by omega), grd (by simp only [sz_app]; omega), ByteArray.append_assoc]
    have c1 : (⟨#[112, 108, 97, 110, 101, 10]⟩ : ByteArray).size ≤ 100 := by decide
    have c2 : (⟨#[104, 101, 105, 103, 104, 116, 115, 10]⟩ : ByteArray).size ≤ 100 := by decide
    simp only [Bool.not_true, cond_false, cond_true]
    rw [i0 _ c1, i0 _ c2, s0 _ c1, s0 _ c2]
    simp only [Option.bind_some]
    rw [i1 _ (hd _ c1), i1 _ (hd _ c2), s1 _ (hd _ c1), s1 _ (hd _ c2)]
    unfold bookT
    cases b.plane <;> exact ⟨rfl, rfl⟩
end Go.Di
namespace Go.Di
end Go.Di
namespace Go.Di
end Go.Di
namespace Go.Di
end Go.Di
namespace Go.Di
end Go.Di
namespace Go.Di
theorem sz_then {x : Option Int} {left : Int} {n : Nat} {k : Int → Option Bool} (h : SzR x left n) (hk : ∀ r : Int, 0 ≤ r → r + n = left → k r = some true) :
    (x.bind fun r => cond (decide (r < 0)) (some true) (k r)) = some true := by
  rcases h with rfl | ⟨r, h0, h1, rfl⟩
  · rfl
  · have : decide (r < 0) = false := by simpa using h0
    simp only [Option.bind_some, this, cond_false, hk r h0 h1]
end Go.Di
namespace Go.Di
end Go.Di
namespace Go.Di
end Go.Di
namespace Go.Di
end Go.Di
namespace Go.Di
end Go.Di
namespace Go.Di
end Go.Di
namespace Go.Di
end Go.Di
namespace Go.Di
end Go.Di
namespace Go.Di
end Go.Di
namespace Go.Di
end Go.Di
namespace Go.Di
end Go.Di
namespace Go.Di
end Go.Di
namespace Go.Di
end Go.Di
namespace Go.Di
end Go.Di
namespace Go.Di
end Go.Di
namespace Go.Di
end Go.Di
namespace Go.Di
theorem law_FormatBook (b : Bk) (h : CK.wf (.sl .sta) b.stations) (h1 : CK.wf (.sl .obs) b.obs) : M_laws_FnExactFormatBook b = some true := by
  unfold M_laws_FnExactFormatBook
  refine sz_then (sz_book h h1 (by omega) (by omega)) fun r r0 r1 => ?_
  have f : lfit Sta.fitN b.stations := lfit_of (f := Sta.sz) (fun x => Sta.fitN_of) (by omega)
  have f' := fitN_fit f
  have fo : lfit Obs.fit b.obs := lfit_of (f := Obs.sz) (fun x => Obs.fit_of) (by omega)
  obtain ⟨e1, e2⟩ := book_both f fo
  simp [to_book f' fo, e1, e2, eq_book f' fo]
end Go.Di
