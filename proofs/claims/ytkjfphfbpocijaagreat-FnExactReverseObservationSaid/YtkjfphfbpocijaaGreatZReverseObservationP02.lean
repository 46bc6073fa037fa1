/-
  Own work: part 9 of the texts that the proof of the given statement leans on.
-/
import Derived.Test.YtkjfphfbpocijaaGreatZReverseObservationP01
namespace Go.Di
end Go.Di
namespace Go.Di
/-! ### Marks -/
theorem size_one (n : Int) : (bytesOf [n]).size = 1 := rfl
theorem mark_loopT : ∀ (n : Nat) (k : Int) (out : ByteArray), k ≤ n → 0 ≤ k → out.size + n ≤ 4000000000 → ∃ b, whileO S_laws_markText_0 (k, out, ()) = some (b, ()) ∧ b.size ≤ out.size + n
  | n, k, out, h1, h0, hs => by
    by_cases hk : 0 < k
    · have hn : 0 < n := by omega
      have hq : k.tdiv 10 ≤ ((n / 10 : Nat) : Int) ∧ 0 ≤ k.tdiv 10 := by
        rw [Int.tdiv_eq_ediv_of_nonneg h0]; omega
      have hw : IntKind.i64.wrap (k.tdiv 10) = k.tdiv 10 := wrap_i64 (by omega) (by omega)
      have hg : guardO (Nat.ble ((bytesOf ([IntKind.u8.wrap (IntKind.i64.wrap (48 + (k.tmod 10)))] : List Int)).size + out.size) 4611686018427387904) = some () := by
        have : Nat.ble ((bytesOf ([IntKind.u8.wrap (IntKind.i64.wrap (48 + (k.tmod 10)))] : List Int)).size + out.size) 4611686018427387904 = true := Nat.ble_eq_true_of_le (by rw [size_one]; omega)
        rw [this]; rfl
      have hlt : n / 10 < n := by omega
      have hsz : ((bytesOf ([IntKind.u8.wrap (IntKind.i64.wrap (48 + (k.tmod 10)))] : List Int)) ++ out).size = 1 + out.size := by rw [ByteArray.size_append, size_one]
      obtain ⟨b, e, hb⟩ := mark_loopT (n / 10) (k.tdiv 10) ((bytesOf ([IntKind.u8.wrap (IntKind.i64.wrap (48 + (k.tmod 10)))] : List Int)) ++ out) hq.1 hq.2 (by rw [hsz]; omega)
      refine ⟨b, ?_, by rw [hsz] at hb; omega⟩
      rw [← e]
      refine whileO_inl ?_
      have hd : decide (k > 0) = true := decide_eq_true hk
      simp only [S_laws_markText_0, hd, cond_true, hg, Option.bind_some, hw]
    · have hd : decide (k > 0) = false := decide_eq_false hk
      exact ⟨out, whileO_inr (by simp only [S_laws_markText_0, hd, cond_false]), by omega⟩
theorem mark_text {k : Int} (h0 : 0 ≤ k) (h1 : k ≤ 3000000000) : ∃ b, M_laws_markText k = some b := by
  unfold M_laws_markText L_laws_markText_0
  cases decide (k ≤ 0) with
  | true => exact ⟨_, rfl⟩
  | false =>
    obtain ⟨b, e, hb⟩ := mark_loopT k.toNat k ⟨#[]⟩ (by omega) h0 (by show 0 + k.toNat ≤ 4000000000; omega)
    have hb : b.size ≤ 0 + k.toNat := hb
    simp only [cond_false, e, Option.bind_some]
    have : Nat.ble ((⟨#[109]⟩ : ByteArray).size + b.size) 4611686018427387904 = true := Nat.ble_eq_true_of_le (by show 1 + b.size ≤ _; omega)
    rw [this]; exact ⟨_, rfl⟩
def wS (s : Sta) : Nat := 4 + s.x.mag.length + s.x.den.length + s.y.mag.length + s.y.den.length
noncomputable def mkS (k : Int) (s : Sta) : Sta :=
  ⟨(M_laws_markText k).getD ⟨#[]⟩, ⟨((k + 1).tmod 3) == 0, upto (k + 2) s.x.mag.length, upto (k + 2 + s.x.mag.length) s.x.den.length⟩,
    ⟨((k + 2 + s.x.mag.length + s.x.den.length).tmod 3) == 0, upto (k + 2 + s.x.mag.length + s.x.den.length + 1) s.y.mag.length, upto (k + 2 + s.x.mag.length + s.x.den.length + 1 + s.y.mag.length) s.y.den.length⟩,
    ((k + 2 + s.x.mag.length + s.x.den.length + 1 + s.y.mag.length + s.y.den.length).tmod 3) == 0⟩
theorem mark_stas {a : List Sta} (ha : lfit Sta.fit a) (hw : ws wS a ≤ 1000000000) {k : Int} (h0 : 0 ≤ k) (h1 : k ≤ 1000000000) : M_laws_markStationS_md a k = some (k + (ws wS a : Nat), marks mkS wS k a) := by
  unfold M_laws_markStationS_md L_laws_markStationS_md_0
  rw [mark_loop (mk := mkS) (w := wS) (B := 2000000000) h0 (by omega) (fun i K c hi q0 q1 hl hc => ?_) (fun K c hl => by simp [S_laws_markStationS_md_0, hl])]
  · rfl
  · have hlt := lt_of_get hc
    have hf := ha.2 _ (List.getElem_mem hi)
    have f1 := hf.1.1
    have f2 := hf.1.2
    have f3 := hf.2.1
    have f4 := hf.2.2
    obtain ⟨b, hb⟩ := mark_text (k := K) q0 (by omega)
    generalize hx : a[i] = x at *
    have e1 : IntKind.i64.wrap (K + 1) = K + 1 := wrap_i64 (by omega) (by omega)
    have e2 : IntKind.i64.wrap (K + 1 + 1) = K + 2 := by rw [wrap_i64 (by omega) (by omega)]; omega
    have e5 : IntKind.i64.wrap (K + 2 + (x.x.mag.length : Int) + (x.x.den.length : Int) + 1) = K + 2 + (x.x.mag.length : Int) + (x.x.den.length : Int) + 1 := wrap_i64 (by omega) (by omega)
    have e6 : IntKind.i64.wrap (K + 2 + (x.x.mag.length : Int) + (x.x.den.length : Int) + 1 + (x.y.mag.length : Int) + (x.y.den.length : Int) + 1) = K + 2 + (x.x.mag.length : Int) + (x.x.den.length : Int) + 1 + (x.y.mag.length : Int) + (x.y.den.length : Int) + 1 := wrap_i64 (by omega) (by omega)
    simp only [S_laws_markStationS_md_0, dlt hlt, cond_true, hb, get_int hc, Option.bind_some, Int.toNat_natCast, hc, idx_set hlt, get_set hlt, List.set_set, e1, e2,
      mark_ints f1 (show 0 ≤ K + 2 by omega) (by omega), mark_ints f2 (show 0 ≤ K + 2 + (x.x.mag.length : Int) by omega) (by omega), e5,
      mark_ints f3 (show 0 ≤ K + 2 + (x.x.mag.length : Int) + (x.x.den.length : Int) + 1 by omega) (by omega),
      mark_ints f4 (show 0 ≤ K + 2 + (x.x.mag.length : Int) + (x.x.den.length : Int) + 1 + (x.y.mag.length : Int) by omega) (by omega), e6, succ_wrap hi ha.1, mkS, Option.getD_some]
    congr 3
    unfold wS; omega
theorem mark_net {n : Net} (ha : lfit Sta.fit n.stations) (hw : ws wS n.stations ≤ 1000000000) {k : Int} (h0 : 0 ≤ k) (h1 : k ≤ 1000000000) : M_laws_markNetwork_md n k = some (k + (ws wS n.stations : Nat), marks mkS wS k n.stations) := by
  unfold M_laws_markNetwork_md
  rw [mark_stas ha hw h0 h1]; rfl
structure Sfit (l : List Sta) : Prop where
  fit : lfit Sta.fit l
  few : ws wS l ≤ 1000000000
theorem wS_le (l : List Sta) : ws wS l ≤ 4 * l.length + (l.map Sta.sz).sum := by
  unfold ws
  induction l with
  | nil => exact Nat.le_refl _
  | cons r l ih => simp only [List.map_cons, List.sum_cons, List.length_cons]; unfold wS Sta.sz Rt.sz at *; omega
theorem sfit_lsz {l : List Sta} (h : lsz Sta.sz l ≤ 1048576) : Sfit l := ⟨lfit_of (f := Sta.sz) (fun _ => Sta.fit_of) h, by have := wS_le l; unfold lsz at h; omega⟩
/-! ### Lists whose first elements are changed -/
/-! ### Copies -/
/-! ### Sums -/
/-! ### Shifted networks -/
/-! ### Moved networks -/
end Go.Di
namespace Go.Di
theorem spec_signq {q : Rat} (h : Fit q) : M_spec_RatSign (rq q) = some (cond (decide (q.num < 0)) (-1) (cond (decide (q.num ≠ 0)) 1 0)) := by
  unfold M_spec_RatSign
  have hf : (rq q).fit := ro_fit h.ok
  rw [spec_ratOk hf, good_rq h, Option.bind_some]
  show cond (!true) _ (cond (((dg q.num.natAbs).length : Int) == 0) _ (cond (decide (q.num < 0)) _ _)) = _
  rw [dg_len0]
  by_cases h0 : q.num = 0
  · rw [decide_eq_true (show q.num.natAbs = 0 by omega), decide_eq_false (show ¬ q.num < 0 by omega), decide_eq_false (show ¬ q.num ≠ 0 by omega)]; rfl
  · rw [decide_eq_false (show ¬ q.num.natAbs = 0 by omega), decide_eq_true h0]
    cases decide (q.num < 0) <;> rfl
noncomputable def posB (r : Rt) : Bool := pB (∃ q : Rat, Fit q ∧ r = rq q ∧ 0 < q.num)
theorem posB_rq {q : Rat} (h : Fit q) : posB (rq q) = decide (0 < q.num) := by
  unfold posB
  rw [← pB_dec]
  refine pB_congr ⟨?_, fun h0 => ⟨q, h, rfl, h0⟩⟩
  rintro ⟨p, _, h1, h2⟩
  rw [rq_inj h1]; exact h2
theorem posB_good {r : Rt} (h : ¬ Good r) : posB r = false := by
  unfold posB
  rw [pB_not]
  rintro ⟨q, h1, h2, _⟩
  exact h ⟨q, h1, h2⟩
theorem spec_pos {r : Rt} (hf : r.fit) : ∃ s : Int, M_spec_RatSign r = some s ∧ decide (s > 0) = posB r := by
  by_cases hg : Good r
  · obtain ⟨q, h1, rfl⟩ := hg
    rw [spec_signq h1, posB_rq h1]
    refine ⟨_, rfl, ?_⟩
    by_cases h2 : q.num < 0
    · rw [decide_eq_true h2, decide_eq_false (show ¬ 0 < q.num by omega)]; rfl
    · rw [decide_eq_false h2]
      by_cases h3 : q.num = 0
      · rw [decide_eq_false (show ¬ q.num ≠ 0 by omega), decide_eq_false (show ¬ 0 < q.num by omega)]; rfl
      · rw [decide_eq_true h3, decide_eq_true (show 0 < q.num by omega)]; rfl
  · unfold M_spec_RatSign
    rw [spec_ratOk hf, pB_not.2 hg, posB_good hg]; exact ⟨0, rfl, rfl⟩
theorem impl_posq {q : Rat} (h1 : Fit q) : ∃ s : Int, M_impl_sign (rq q) = some s ∧ decide (s > 0) = posB (rq q) ∧ decide (s ≤ 0) = !posB (rq q) := by
  rw [impl_signq, posB_rq h1]
  refine ⟨_, rfl, ?_⟩
  by_cases h2 : q.num < 0
  · rw [decide_eq_true h2, decide_eq_false (show ¬ 0 < q.num by omega)]; exact ⟨rfl, rfl⟩
  · rw [decide_eq_false h2]
    by_cases h3 : q.num = 0
    · rw [decide_eq_false (show ¬ q.num ≠ 0 by omega), decide_eq_false (show ¬ 0 < q.num by omega)]; exact ⟨rfl, rfl⟩
    · rw [decide_eq_true h3, decide_eq_true (show 0 < q.num by omega)]; exact ⟨rfl, rfl⟩
noncomputable def endB (o : Obs) : Bool := pB (Good o.value) && ((!(o.kind == 7) || posB o.value) && posB o.variance)
theorem spec_end {o : Obs} (h : o.fit) : ((M_spec_RatOk o.value).bind fun r5 =>
      cond r5
        (cond (o.kind != 7)
          ((M_spec_RatSign o.variance).bind fun r6 =>
          some (decide (r6 > 0)))
          ((M_spec_RatSign o.value).bind fun r6 =>
          cond (decide (r6 > 0))
            ((M_spec_RatSign o.variance).bind fun r7 =>
            some (decide (r7 > 0)))
            (some false)))
        (some false)) = some (endB o) := by
  obtain ⟨s, h1, h2⟩ := spec_pos h.1
  obtain ⟨t, h3, h4⟩ := spec_pos h.2
  unfold endB
  rw [spec_ratOk h.1, h1, h3]
  simp only [Option.bind_some, h2, h4]
  rw [show (o.kind != 7) = !(o.kind == 7) from rfl]
  cases pB (Good o.value) <;> cases (o.kind == 7) <;> cases posB o.value <;> cases posB o.variance <;> rfl
theorem impl_end {o : Obs} (h : o.fit) : ((M_impl_RatOk o.value).bind fun r1 =>
      cond (!r1)
        (some false)
        (cond (o.kind == 7)
          ((M_impl_sign o.value).bind fun r2 =>
          cond (decide (r2 ≤ 0))
            (some false)
            ((M_impl_RatOk o.variance).bind fun r3 =>
            cond r3
              ((M_impl_sign o.variance).bind fun r4 =>
              some (decide (r4 > 0)))
              (some false)))
          ((M_impl_RatOk o.variance).bind fun r2 =>
          cond r2
            ((M_impl_sign o.variance).bind fun r3 =>
            some (decide (r3 > 0)))
            (some false)))) = some (endB o) := by
  have hv : ((M_impl_RatOk o.variance).bind fun r3 => cond r3 ((M_impl_sign o.variance).bind fun r4 => some (decide (r4 > 0))) (some false)) = some (posB o.variance) := by
    rw [impl_ratOk h.2, Option.bind_some]
    by_cases hg : Good o.variance
    · rw [pB_iff.2 hg, cond_true]
      obtain ⟨q, h1, h2⟩ := hg
      rw [h2]
      obtain ⟨s, k1, k2, _⟩ := impl_posq h1
      rw [k1, Option.bind_some, k2]
    · rw [pB_not.2 hg, posB_good hg]; rfl
  unfold endB
  rw [hv, impl_ratOk h.1, Option.bind_some]
  by_cases hg : Good o.value
  · rw [pB_iff.2 hg]
    simp only [Bool.not_true, cond_false, Bool.true_and]
    obtain ⟨q, h1, h2⟩ := hg
    rw [h2]
    obtain ⟨s, k1, _, k3⟩ := impl_posq h1
    rw [k1, Option.bind_some, k3]
    cases (o.kind == 7) <;> cases posB (rq q) <;> cases posB o.variance <;> rfl
  · rw [pB_not.2 hg]; rfl
def betB (k : Int) : Bool := k == 2 || (decide (k ≥ 5) && decide (k ≤ 8))
theorem spec_bet (k : Int) : M_spec_IsBetween k = some (betB k) := by
  unfold M_spec_IsBetween M_spec_l01In betB
  cases (k == 2) <;> cases decide (k ≥ 5) <;> rfl
theorem impl_bet (k : Int) : M_impl_IsBetween k = some (betB k) := by
  unfold M_impl_IsBetween betB
  cases (k == 2) <;> cases decide (k ≥ 5) <;> rfl
def fitsB (k : Int) (plane : Bool) : Bool := cond plane (inB k 3 8) (inB k 1 2)
theorem spec_fits (k : Int) (plane : Bool) : M_spec_l11Fits k plane = some (fitsB k plane) := by
  unfold M_spec_l11Fits fitsB
  rw [spec_in, spec_in]
  cases plane <;> rfl
noncomputable def obsB (n : Net) (o : Obs) : Bool :=
  fitsB o.kind n.plane && ((decide (0 ≤ o.frm) && decide (o.frm < n.stations.length)) && (cond (betB o.kind) ((decide (0 ≤ o.to) && decide (o.to < n.stations.length)) && !(o.to == o.frm)) (o.to == 0) && endB o))
theorem inB_len {x : Int} {n : Nat} (h : n ≤ 1048576) : inB x 0 (IntKind.i64.wrap ((n : Int) - 1)) = (decide (0 ≤ x) && decide (x < n)) := by
  rw [wrap_i64 (by omega) (by omega)]
  unfold inB
  rw [Bool.eq_iff_iff]; simp; omega
theorem spec_obsOk {n : Net} {o : Obs} (hn : n.stations.length ≤ 1048576) (h : o.fit) : M_spec_l11Ok n o = some (obsB n o) := by
  have he := spec_end h
  unfold M_spec_l11Ok obsB
  simp only [spec_fits, spec_in, spec_bet, Option.bind_some, inB_len hn, he]
  rw [show (o.to != 0) = !(o.to == 0) from rfl]
  cases fitsB o.kind n.plane <;> cases (decide (0 ≤ o.frm) && decide (o.frm < n.stations.length)) <;> cases betB o.kind <;> cases (decide (0 ≤ o.to) && decide (o.to < n.stations.length)) <;> cases (o.to == o.frm) <;> cases (o.to == 0) <;> cases endB o <;> rfl
theorem impl_obsFits {n : Net} {o : Obs} (h : o.fit) : M_impl_observationFits n o = some (obsB n o) := by
  have he := impl_end h
  unfold M_impl_observationFits obsB
  simp only [impl_bet, Option.bind_some, he]
  rw [show (o.to != 0) = !(o.to == 0) from rfl]
  have hk : fitsB o.kind n.plane = (decide (o.kind ≥ 1) && (decide (o.kind ≤ 8) && !(n.plane == decide (o.kind ≤ 2)))) := by
    unfold fitsB inB
    cases n.plane with
    | true => rw [Bool.eq_iff_iff]; simp; omega
    | false => rw [Bool.eq_iff_iff]; simp; omega
  rw [hk, lt_not o.kind 1, gt_not o.kind 8, ge_le o.kind 1, lt_not o.frm 0, lt_not o.to 0]
  have g1 : decide (o.frm ≥ (n.stations.length : Int)) = !decide (o.frm < (n.stations.length : Int)) := by rw [Bool.eq_iff_iff]; simp
  have g2 : decide (o.to ≥ (n.stations.length : Int)) = !decide (o.to < (n.stations.length : Int)) := by rw [Bool.eq_iff_iff]; simp
  rw [g1, g2]
  cases decide (1 ≤ o.kind) <;> cases decide (o.kind ≤ 8) <;> cases (n.plane == decide (o.kind ≤ 2)) <;> cases decide (0 ≤ o.frm) <;> cases decide (o.frm < (n.stations.length : Int)) <;> cases betB o.kind <;> cases decide (0 ≤ o.to) <;> cases decide (o.to < (n.stations.length : Int)) <;> cases (o.to == o.frm) <;> cases (o.to == 0) <;> cases endB o <;> rfl
theorem spec_obsOk' {n : Net} {o : Obs} (hn : lfit Sta.fitN n.stations) (h : o.fit) : M_spec_ObservationOk n o = some (netB n && obsB n o) := by
  unfold M_spec_ObservationOk
  exact bind_and (spec_netOk hn) (by rw [spec_obsOk hn.1 h]; rfl)
theorem impl_obsOk' {n : Net} {o : Obs} (hn : lfit Sta.fitN n.stations) (h : o.fit) : M_impl_ObservationOk n o = some (netB n && obsB n o) := by
  unfold M_impl_ObservationOk
  exact bind_and (impl_netOk (fitN_fit hn)) (by rw [impl_obsFits h]; rfl)
end Go.Di
namespace Go.Di
theorem impl_copyObs {o : Obs} (h : o.fit) : M_impl_copyObservation o = some o := by
  unfold M_impl_copyObservation
  rw [impl_copyRat h.1, Option.bind_some, impl_copyRat h.2]; rfl
theorem spec_copyObs {o : Obs} (h : o.fit) : M_spec_l11Copy o = some o := by
  unfold M_spec_l11Copy
  rw [spec_copyRat h.1, Option.bind_some, spec_copyRat h.2]; rfl
end Go.Di
namespace Go.Di
end Go.Di
namespace Go.Di
theorem spec_negO {o : Option Rat} (ho : Oks o) : M_spec_l04Neg (ro o) = some (ro (negO o)) := by
  unfold M_spec_l04Neg
  cases o with
  | none =>
    have h0 : M_spec_l03Make (!(ro none).neg) (ro none).mag = some (bg 0) := by
      rw [ro_none_dg]
      show M_spec_l03Make true (dg 0) = _
      rw [spec_make true (by rw [dg_zero]; simp), sg_zero]
    rw [h0, Option.bind_some, room (by simp [ro]), Option.bind_some, bg_zero]; rfl
  | some q =>
    have fq := ho q rfl
    show ((M_spec_l03Make (!decide (q.num < 0)) (dg q.num.natAbs)).bind fun r1 => (guardO (Nat.ble (dg q.den).length maxNew)).bind fun _ => some (⟨r1.neg, r1.mag, dg q.den⟩ : Rt)) = _
    rw [spec_make _ (by have := fq.1; omega), Option.bind_some, room (by have := fq.2; omega), Option.bind_some]
    have e : sg (!decide (q.num < 0)) q.num.natAbs = -q.num := by
      by_cases h : q.num < 0
      · rw [decide_eq_true h]; simp only [sg, Bool.not_true, cond_false]; omega
      · rw [decide_eq_false h]; simp only [sg, Bool.not_false, cond_true]; omega
    rw [e]; rfl
/-! ### Half tangents -/
/-! ### Lists of observations -/
end Go.Di
namespace Go.Di
def obs0 : Obs := ⟨0, 0, 0, ⟨false, [], []⟩, ⟨false, [], []⟩⟩
noncomputable def revO (k : Int) (q : Rat) : Option Rat := if k = 8 then divO (some ((-1 : Int) : Rat)) (some q) else if k = 7 then some q else negO (some q)
noncomputable def revR (o : Obs) (r : Option Rat) : Obs × Bool := cond r.isNone (obs0, false) (⟨o.kind, o.to, o.frm, ro r, o.variance⟩, true)
theorem oks_revO {k : Int} {q : Rat} (h : Fit q) : Oks (revO k q) := by
  unfold revO
  split
  · exact oks_divO
  · split
    · exact h.ok
    · exact oks_negO h.ok
theorem rev_both {n : Net} (hn : lfit Sta.fitN n.stations) {o : Obs} (h : o.fit) : ∃ r b, M_spec_ReverseObservation n o = some (r, b) ∧ M_impl_ReverseObservation n o = some (r, b) ∧ r.fit := by
  have z : obs0.fit := ⟨⟨by show 0 ≤ _; omega, by show 0 ≤ _; omega⟩, by show 0 ≤ _; omega, by show 0 ≤ _; omega⟩
  cases hb : (netB n && obsB n o) with
  | false => exact ⟨obs0, false, by unfold M_spec_ReverseObservation; rw [spec_obsOk' hn h, hb]; rfl, by unfold M_impl_ReverseObservation; rw [impl_obsOk' hn h, hb]; rfl, z⟩
  | true =>
  cases hk : betB o.kind with
  | false => exact ⟨obs0, false, by unfold M_spec_ReverseObservation; rw [spec_obsOk' hn h, hb, Option.bind_some, spec_bet, hk]; rfl, by unfold M_impl_ReverseObservation; rw [impl_obsOk' hn h, hb, Option.bind_some, impl_bet, hk]; rfl, z⟩
  | true =>
  have hgood : Good o.value := by
    rw [Bool.and_eq_true] at hb
    have hb2 := hb.2
    unfold obsB at hb2
    simp only [Bool.and_eq_true] at hb2
    have he := hb2.2.2.2
    unfold endB at he
    simp only [Bool.and_eq_true, pB_iff] at he
    exact he.1
  obtain ⟨k, f, t, v, w⟩ := o
  simp only at hk hgood
  obtain ⟨q, hq, rfl⟩ := hgood
  have hks : k = 2 ∨ k = 5 ∨ k = 6 ∨ k = 7 ∨ k = 8 := by
    unfold betB at hk
    simp only [Bool.or_eq_true, Bool.and_eq_true, decide_eq_true_iff, beq_iff_eq] at hk
    omega
  have hv : M_spec_l04Neg (rq q) = some (ro (negO (some q))) := spec_negO hq.ok
  have hv' : M_impl_neg (rq q) = some (ro (negO (some q))) := impl_negO hq.ok
  have hone := spec_ratInt (n := -1) (by omega) (by omega)
  have hone' := impl_whole (n := -1) (by omega) (by omega)
  have fone : Oks (some ((-1 : Int) : Rat)) := (fit_int (n := -1) (by omega) (by omega)).ok
  have hd : M_spec_l05Div (ro (some ((-1 : Int) : Rat))) (rq q) = some (ro (divO (some ((-1 : Int) : Rat)) (some q))) := spec_divO fone hq.ok
  have hd' : M_impl_div (ro (some ((-1 : Int) : Rat))) (rq q) = some (ro (divO (some ((-1 : Int) : Rat)) (some q))) := impl_divO fone hq.ok
  have hs : M_spec_ReverseObservation n ⟨k, f, t, rq q, w⟩ = some (revR ⟨k, f, t, rq q, w⟩ (revO k q)) := by
    unfold M_spec_ReverseObservation
    rw [spec_obsOk' hn h, hb, Option.bind_some]
    simp only [Bool.not_true, cond_false]
    rw [spec_bet, hk, Option.bind_some]
    simp only [Bool.not_true, cond_false]
    rw [spec_copyObs h, Option.bind_some]
    unfold revR revO
    rcases hks with rfl | rfl | rfl | rfl | rfl
    · simp only [show ((2 : Int) == 2) = true from rfl, cond_true, hv, Option.bind_some, spec_badO]
      rw [if_neg (by omega), if_neg (by omega)]
      rfl
    · simp only [show ((5 : Int) == 2) = false from rfl, show ((5 : Int) == 5) = true from rfl, cond_true, cond_false, hv, Option.bind_some, spec_badO]
      rw [if_neg (by omega), if_neg (by omega)]
      rfl
    · simp only [show ((6 : Int) == 2) = false from rfl, show ((6 : Int) == 5) = false from rfl, show ((6 : Int) == 6) = true from rfl, cond_true, cond_false, hv, Option.bind_some, spec_badO]
      rw [if_neg (by omega), if_neg (by omega)]
      rfl
    · simp only [show ((7 : Int) == 2) = false from rfl, show ((7 : Int) == 5) = false from rfl, show ((7 : Int) == 6) = false from rfl, show ((7 : Int) == 8) = false from rfl, cond_false]
      rw [if_neg (by omega), if_pos trivial, show rq q = ro (some q) from rfl, spec_badO]
      rfl
    · simp only [show ((8 : Int) == 2) = false from rfl, show ((8 : Int) == 5) = false from rfl, show ((8 : Int) == 6) = false from rfl, show ((8 : Int) == 8) = true from rfl, cond_true, cond_false, hone, Option.bind_some, hd, spec_badO]
      rw [if_pos trivial]
      cases divO (some ((-1 : Int) : Rat)) (some q) <;> rfl
  have hi : M_impl_ReverseObservation n ⟨k, f, t, rq q, w⟩ = some (revR ⟨k, f, t, rq q, w⟩ (revO k q)) := by
    unfold M_impl_ReverseObservation
    rw [impl_obsOk' hn h, hb, Option.bind_some]
    simp only [Bool.not_true, cond_false]
    rw [impl_bet, hk, Option.bind_some]
    simp only [Bool.not_true, cond_false]
    rw [impl_copyObs h, Option.bind_some]
    unfold revR revO
    rcases hks with rfl | rfl | rfl | rfl | rfl
    · simp only [show ((2 : Int) == 8) = false from rfl, show ((2 : Int) == 7) = false from rfl, cond_false, hv', Option.bind_some, impl_void]
      rw [if_neg (by omega), if_neg (by omega)]
      rfl
    · simp only [show ((5 : Int) == 8) = false from rfl, show ((5 : Int) == 7) = false from rfl, cond_false, hv', Option.bind_some, impl_void]
      rw [if_neg (by omega), if_neg (by omega)]
      rfl
    · simp only [show ((6 : Int) == 8) = false from rfl, show ((6 : Int) == 7) = false from rfl, cond_false, hv', Option.bind_some, impl_void]
      rw [if_neg (by omega), if_neg (by omega)]
      rfl
    · simp only [show ((7 : Int) == 8) = false from rfl, show ((7 : Int) == 7) = true from rfl, cond_true, cond_false]
      rw [if_neg (by omega), if_pos trivial, show rq q = ro (some q) from rfl, impl_void]
      rfl
    · simp only [show ((8 : Int) == 8) = true from rfl, cond_true, hone', Option.bind_some, hd', impl_void]
      rw [if_pos trivial]
      cases divO (some ((-1 : Int) : Rat)) (some q) <;> rfl
  refine ⟨(revR ⟨k, f, t, rq q, w⟩ (revO k q)).1, (revR ⟨k, f, t, rq q, w⟩ (revO k q)).2, hs, hi, ?_⟩
  unfold revR
  cases (revO k q).isNone with
  | true => exact z
  | false => exact ⟨ro_fit (oks_revO hq), h.2⟩
theorem mark_obs {o : Obs} (h : o.fit) {k : Int} (h0 : 0 ≤ k) (h1 : k ≤ 900000000000) : M_laws_markObservation_md o k = some (k + o.value.mag.length + o.value.den.length + o.variance.mag.length + o.variance.den.length, upto k o.value.mag.length, upto (k + o.value.mag.length) o.value.den.length,
    upto (k + o.value.mag.length + o.value.den.length) o.variance.mag.length, upto (k + o.value.mag.length + o.value.den.length + o.variance.mag.length) o.variance.den.length) := by
  have a := h.1.1
  have b := h.1.2
  unfold M_laws_markObservation_md
  rw [mark_rat h.1 h0 (by omega), Option.bind_some]
  simp only []
  rw [mark_rat h.2 (by omega) (by omega), Option.bind_some]
theorem held_obs {x y z : Int} {p p' : Bool} {a b c d : Nat} (ha : a ≤ 1048576) (hb : b ≤ 1048576) (hc : c ≤ 1048576) (hd : d ≤ 1048576) {k : Int} (h0 : 0 ≤ k) (h1 : k ≤ 900000000000) :
    M_laws_heldObservation ⟨x, y, z, ⟨p, upto k a, upto (k + a) b⟩, ⟨p', upto (k + a + b) c, upto (k + a + b + c) d⟩⟩ k = some (k + a + b + c + d) := by
  unfold M_laws_heldObservation
  simp only []
  rw [held_rat ha hb h0 (by omega), Option.bind_some, dneg (by omega), cond_false, held_rat hc hd (by omega) (by omega), Option.bind_some, dneg (by omega), cond_false]
end Go.Di
namespace Go.Di
theorem sz_go {x : Option Int} {left : Int} {n : Nat} {k : Int → Option Bool} (h : SzR x left n) (hk : ∀ r : Int, 0 ≤ r → r + n = left → k r = some true) :
    (x.bind fun r => cond (decide (r < 0)) (some true) (k r)) = some true := by
  rcases h with rfl | ⟨r, h0, h1, rfl⟩
  · rfl
  · have : decide (r < 0) = false := by simpa using h0
    simp only [Option.bind_some, this, cond_false, hk r h0 h1]
end Go.Di
namespace Go.Di
theorem law_ReverseObservation (n : Net) (o : Obs) (h : CK.wf (.sl .sta) n.stations) (h1 : CK.wf (.sl .int) o.value.mag) (h2 : CK.wf (.sl .int) o.value.den) (h3 : CK.wf (.sl .int) o.variance.mag) (h4 : CK.wf (.sl .int) o.variance.den) : M_laws_FnExactReverseObservation n o = some true := by
  unfold M_laws_FnExactReverseObservation
  refine sz_go (sz_net h (by omega) (by omega)) fun r r0 r1 => ?_
  have hso : SzR (M_laws_szObservation o r) r o.sz := by
    unfold M_laws_szObservation
    exact SzR.bind (sz_rat ⟨h1, h2⟩ r0 (by omega)) fun r' q0 q1 => SzR.last (sz_rat ⟨h3, h4⟩ q0 (by omega))
  refine sz_go hso fun r' q0 q1 => ?_
  have fn : lfit Sta.fitN n.stations := lfit_of (f := Sta.sz) (fun x => Sta.fitN_of) (by omega)
  have f := sfit_lsz (l := n.stations) (by omega)
  have f1 := f.few
  have fo : o.fit := Obs.fit_of (by omega)
  have o1 := fo.1.1
  have o2 := fo.1.2
  have o3 := fo.2.1
  have o4 := fo.2.2
  obtain ⟨t, b, hs, hi, g⟩ := rev_both fn fo
  have g1 := g.1.1
  have g2 := g.1.2
  have g3 := g.2.1
  have g4 := g.2.2
  simp (disch := omega) only [to_net f.fit, to_obs fo, hs, hi, Option.bind_some, eq_net f.fit, eq_obs fo, eq_obs g, eqB_self, beq_self_eq_true, Bool.not_true, cond_false, mark_net f.fit f.few, mark_obs fo, mark_obs g, held_obs g1 g2 g3 g4, dneg, bneSelf]
end Go.Di
