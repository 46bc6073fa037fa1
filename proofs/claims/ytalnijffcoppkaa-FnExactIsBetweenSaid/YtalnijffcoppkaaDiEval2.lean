/-
  Own work. One operation, the other kinds.
-/
import Derived.Test.YtalnijffcoppkaaDiEval
open Go.RowKit (Below)
namespace Go.Di

section
variable {P : Program} {C : Bs} {w w' : World} {s s' : St} {X : Nat → Prop} {β β' : Nat → Option Value} {a : Act} {o : Oper} {tm : Array Value}
  {t : TypeId} {x y : Operand} {i : TI} {K : Act → World → Prop} {Q : Exit → Act → World → Prop} {lay : List (TypeId × TI)} {cons : List (FuncId × Con)} {av : AV}

theorem sound_move (ho : o.op = .move x ∨ o.op = .assign x) (g : Gam C s X β a.tmps w) (hx : AVOk (cx C s β w) (opnd s x) (a.eval x)) (hy : (evalOp lay cons o s).Yields (av, s')) (hK : Goes C X o a av s' K) : o.wp P a w K Q := by
  rcases ho with ho | ho
  all_goals
    simp only [evalOp, ho] at hy
    cases hy
    exact pure_sound (v := a.eval x) (by simp [execOp, ho]) g hx hK

theorem sound_pick {c : Operand} (ho : o.op = .pick c x y) (g : Gam C s X β a.tmps w) (hc : AVOk (cx C s β w) (opnd s c) (a.eval c)) (hx : AVOk (cx C s β w) (opnd s x) (a.eval x)) (hz : AVOk (cx C s β w) (opnd s y) (a.eval y))
    (hy : (evalOp lay cons o s).Yields (av, s')) (hK : Goes C X o a av s' K) : o.wp P a w K Q := by
  simp only [evalOp, ho] at hy
  split at hy
  · rename_i b p q h1 h2 h3
    cases hy
    rw [h1] at hc; rw [h2] at hx; rw [h3] at hz
    have e1 := av_bool hc; have e2 := av_bool hx; have e3 := av_bool hz
    refine pure_sound (v := .bool (bif b then p else q)) ?_ g av_mk_bool hK
    cases b <;> simp [execOp, ho, e1, e2, e3, asBool]
  · rename_i b h1 _
    rw [h1] at hc
    have e1 := av_bool hc
    cases b with
    | true => cases hy; exact pure_sound (v := a.eval x) (by simp [execOp, ho, e1, asBool]) g hx hK
    | false => cases hy; exact pure_sound (v := a.eval y) (by simp [execOp, ho, e1, asBool]) g hz hK
  · exact hy.elim

theorem isBoolT_ok (hL : LayOk P lay) (h : isBoolT t lay = true) : P.underlying t = some .bool := by
  unfold isBoolT at h
  split at h
  · rename_i hi
    obtain ⟨inf, d, z, _, hu, _, _, _, _, _, _, _, _, hb, _⟩ := hL t _ hi
    rw [hu, hb rfl]
  · cases h

theorem sound_binOp (hL : LayOk P lay) {op : BinOp} {U : TypeId} (ho : o.op = .binOp op t x y U) (g : Gam C s X β a.tmps w) (hx : AVOk (cx C s β w) (opnd s x) (a.eval x)) (hz : AVOk (cx C s β w) (opnd s y) (a.eval y))
    (hy : (evalOp lay cons o s).Yields (av, s')) (hK : Goes C X o a av s' K) : o.wp P a w K Q := by
  simp only [evalOp, ho] at hy
  unfold Go.Di.binOp at hy
  split at hy
  · rename_i k m k' n h1 h2
    rw [h1] at hx; rw [h2] at hz
    split at hy
    · rename_i hk
      have hk := kindEqb_eq hk
      subst hk
      refine int_sound ho g (av_int hx) (av_int hz) (r := (av, s')) ?_ hK
      cases hi : intOp s k m n op with
      | fail => rw [hi] at hy; exact hy.elim
      | ret r => rw [hi] at hy; cases hy; rfl
      | ask q f => rw [hi] at hy; obtain ⟨u, hu, hf⟩ := hy; simp [Susp.bindK, hu, hf]
    · exact hy.elim
  · rename_i m n h1 h2
    rw [h1] at hx; rw [h2] at hz
    split at hy
    · rename_i hsc
      have hsc := isBoolT_ok hL hsc
      split at hy
      · cases hy; exact bool_eql hsc ho g (av_bool hx) (av_bool hz) hK
      · cases hy; exact bool_neq hsc ho g (av_bool hx) (av_bool hz) hK
      · exact hy.elim
    · exact hy.elim
  · rename_i m n h1 h2
    rw [h1] at hx; rw [h2] at hz
    split at hy
    · cases hy; exact str_eql ho g (av_str hx) (av_str hz) hK
    · cases hy; exact str_neq ho g (av_str hx) (av_str hz) hK
    · obtain ⟨u, hu, hf⟩ := hy
      cases hf
      exact str_add ho g (av_str hx) (av_str hz) (by have := guard_ok hu; simpa using Nat.le_of_ble_eq_true this) hK
    · exact hy.elim
  · exact hy.elim

theorem sound_alloc (hL : LayOk P lay) (ho : o.op = .alloc t) (g : Gam C s X β a.tmps w) (hy : (evalOp lay cons o s).Yields (av, s')) (hK : Goes C X o a av s' K) : o.wp P a w K Q := by
  simp only [evalOp, ho] at hy
  split at hy
  · rename_i i hi
    cases hy; exact alloc_sound (hL t i hi) ho g _ hK
  · exact hy.elim

theorem sound_box (hL : LayOk P lay) (ho : o.op = .box t x) (g : Gam C s X β a.tmps w) (hx : AVOk (cx C s β w) (opnd s x) (a.eval x)) (hy : (evalOp lay cons o s).Yields (av, s')) (hK : Goes C X o a av s' K) : o.wp P a w K Q := by
  simp only [evalOp, ho] at hy
  split at hy
  · rename_i i l hi hl
    split at hy
    · cases hy; exact box_sound (hL t i hi) ho g _ hx hl hK
    · exact hy.elim
  · exact hy.elim

theorem sound_build (hL : LayOk P lay) {ps : Array (Nat × Operand)} (ho : o.op = .build t ps) (g : Gam C s X β a.tmps w) (hx : ∀ (j : Nat) (z : Operand), (j, z) ∈ ps.toList → AVOk (cx C s β w) (opnd s z) (a.eval z))
    (hy : (evalOp lay cons o s).Yields (av, s')) (hK : Goes C X o a av s' K) : o.wp P a w K Q := by
  simp only [evalOp, ho] at hy
  split at hy
  · rename_i i hi
    split at hy
    · rename_i l hst hl
      cases hy; exact build_sound (hL t i hi) ho g hst hx hl hK
    · exact hy.elim
  · exact hy.elim

theorem sound_unOp (hL : LayOk P lay) {op : UnOp} (ho : o.op = .unOp op t x) (g : Gam C s X β a.tmps w) (hx : AVOk (cx C s β w) (opnd s x) (a.eval x)) (hy : (evalOp lay cons o s).Yields (av, s')) (hK : Goes C X o a av s' K) : o.wp P a w K Q := by
  simp only [evalOp, ho] at hy
  split at hy
  · rename_i b h1
    rw [h1] at hx; cases hy; exact not_sound ho g (av_bool hx) hK
  · rename_i k n h1
    rw [h1] at hx; cases hy; exact neg_sound ho g (av_int hx) hK
  · exact hy.elim

theorem sound_make (hL : LayOk P lay) (ho : o.op = .makeSlice t x y) (g : Gam C s X β a.tmps w) (hx : AVOk (cx C s β w) (opnd s x) (a.eval x)) (hz : AVOk (cx C s β w) (opnd s y) (a.eval y))
    (hy : (evalOp lay cons o s).Yields (av, s')) (hK : Goes C X o a av s' K) : o.wp P a w K Q := by
  simp only [evalOp, ho] at hy
  split at hy
  · rename_i _ _ _ e _ _ _ n m hi h1 h2
    rw [h1] at hx; rw [h2] at hz
    split at hy
    · rename_i z hze
      obtain ⟨u, hu, hf⟩ := hy
      cases hf
      have hg := guard_ok hu
      simp only [Bool.and_eq_true, decide_eq_true_eq] at hg
      exact make_sound (hL t _ hi) ho g _ rfl hze (av_int hx) (av_int hz) hg.1.1 hg.1.2 hg.2 hK
    · exact hy.elim
  · exact hy.elim

theorem sound_slice (hL : LayOk P lay) {lo hi : Option Operand} (ho : o.op = .slice t x lo hi none) (g : Gam C s X β a.tmps w) (hx : AVOk (cx C s β w) (opnd s x) (a.eval x))
    (hlo : ∀ z, lo = some z → AVOk (cx C s β w) (opnd s z) (a.eval z)) (hhi : ∀ z, hi = some z → AVOk (cx C s β w) (opnd s z) (a.eval z))
    (hy : (evalOp lay cons o s).Yields (av, s')) (hK : Goes C X o a av s' K) : o.wp P a w K Q := by
  simp only [evalOp, ho] at hy
  split at hy
  · rename_i i b hi hb
    have hT := hL t i hi
    rw [addrOf_eq hb] at hx
    unfold sliceOp at hy
    split at hy
    · split at hy
      · rename_i q hs hbd
        obtain ⟨u, hu, hf⟩ := hy
        cases hf
        exact slice_str hT (isStr_eq hs) ho g hx hlo hhi hbd (guard_ok hu) hK
      · exact hy.elim
    · split at hy
      · rename_i q hs hbd
        obtain ⟨u, hu, hf⟩ := hy
        cases hf
        exact slice_d hT (isEl_eq hs) ho g hx hlo hhi hbd (guard_ok hu) hK
      · exact hy.elim
    · split at hy
      · rename_i fr u xs hl
        split at hy
        · rename_i q hs hbd
          obtain ⟨u, hu, hf⟩ := hy
          cases hf
          exact slice_own hT (isEl_eq hs) ho g hl hx hlo hhi hbd (guard_ok hu) hK
        · exact hy.elim
      · exact hy.elim
    · exact hy.elim
  · exact hy.elim

theorem sound_fieldAddr (hL : LayOk P lay) {f : Nat} (ho : o.op = .fieldAddr t x f) (g : Gam C s X β a.tmps w) (hx : AVOk (cx C s β w) (opnd s x) (a.eval x)) (hy : (evalOp lay cons o s).Yields (av, s')) (hK : Goes C X o a av s' K) : o.wp P a w K Q := by
  simp only [evalOp, ho] at hy
  split at hy
  · rename_i i b hi hb
    have hT := hL t i hi
    rw [addrOf_eq hb] at hx
    split at hy
    · rename_i off k ag n q hst hf
      split at hy
      · rename_i e hl
        cases hy; exact fieldAddr_lp hT ho g hst hf hl hx hK
      · exact hy.elim
    · rename_i off k ag cs q hst hf
      cases hy; exact fieldAddr_sp hT ho g hst hf hx hK
    · rename_i off k ag n j q hst hf
      split at hy
      · rename_i fr u xs hl
        cases hy; exact fieldAddr_oe hT ho g hst hf hl hx hK
      · exact hy.elim
    · exact hy.elim
  · exact hy.elim

theorem sound_field (hL : LayOk P lay) {f : Nat} (ho : o.op = .field t x f) (g : Gam C s X β a.tmps w) (hx : AVOk (cx C s β w) (opnd s x) (a.eval x)) (hy : (evalOp lay cons o s).Yields (av, s')) (hK : Goes C X o a av s' K) : o.wp P a w K Q := by
  simp only [evalOp, ho] at hy
  split at hy
  · rename_i i l hi h1
    rw [h1] at hx
    split at hy
    · rename_i off k ag hst hf
      split at hy
      · rename_i c hw hone
        cases hy
        exact field_sound (hL t i hi) ho g hst hx hf hw (fun h => by subst h; simpa using hone) hK
      · exact hy.elim
    · exact hy.elim
  · exact hy.elim

theorem sound_indexAddr (hL : LayOk P lay) (ho : o.op = .indexAddr t x y) (g : Gam C s X β a.tmps w) (hx : AVOk (cx C s β w) (opnd s x) (a.eval x)) (hz : AVOk (cx C s β w) (opnd s y) (a.eval y))
    (hy : (evalOp lay cons o s).Yields (av, s')) (hK : Goes C X o a av s' K) : o.wp P a w K Q := by
  simp only [evalOp, ho] at hy
  split at hy
  · rename_i _ _ _ e _ _ b j hi hb h2
    rw [addrOf_eq hb] at hx
    rw [h2] at hz
    have hT := hL t _ hi
    unfold indexOp at hy
    split at hy
    · split at hy
      · rename_i he
        have := eqb_eq he; subst this
        obtain ⟨u, hu, hf⟩ := hy
        cases hf
        exact indexAddr_d hT rfl ho g hx (av_int hz) hu hK
      · exact hy.elim
    · split at hy
      · rename_i fr u xs hl
        split at hy
        · rename_i he
          have := eqb_eq he; subst this
          obtain ⟨u, hu, hf⟩ := hy
          cases hf
          exact indexAddr_own hT rfl ho g hl hx (av_int hz) hu hK
        · exact hy.elim
      · exact hy.elim
    · split at hy
      · rename_i fr u xs hl
        split at hy
        · rename_i he
          have := eqb_eq he; subst this
          obtain ⟨u, hu, hf⟩ := hy
          cases hf
          exact indexAddr_win hT rfl ho g hl hx (av_int hz) hu hK
        · exact hy.elim
      · exact hy.elim
    · exact hy.elim
  · exact hy.elim

theorem sound_index (hL : LayOk P lay) (ho : o.op = .index t x y) (g : Gam C s X β a.tmps w) (hx : AVOk (cx C s β w) (opnd s x) (a.eval x)) (hz : AVOk (cx C s β w) (opnd s y) (a.eval y))
    (hy : (evalOp lay cons o s).Yields (av, s')) (hK : Goes C X o a av s' K) : o.wp P a w K Q := by
  simp only [evalOp, ho] at hy
  split at hy
  · rename_i hi hb h2
    rw [addrOf_eq hb] at hx
    rw [h2] at hz
    obtain ⟨u, hu, hf⟩ := hy
    cases hf
    exact index_str (hL t _ hi) rfl ho g hx (av_int hz) hu hK
  · exact hy.elim

theorem sound_extract {f : Nat} (ho : o.op = .extract x f) (g : Gam C s X β a.tmps w) (hx : AVOk (cx C s β w) (opnd s x) (a.eval x)) (hy : (evalOp lay cons o s).Yields (av, s')) (hK : Goes C X o a av s' K) : o.wp P a w K Q := by
  simp only [evalOp, ho] at hy
  split at hy
  · rename_i ps h1
    rw [h1] at hx
    obtain ⟨vs, hv, hok⟩ := hx
    split at hy
    · rename_i b l hp
      cases hy
      have get : ∀ (ps : List (Bool × List A1)) (vs : List Value), PsOk (cx C s β w) ps vs → ∀ (f : Nat) b l, ps[f]? = some (b, l) → ∃ u, vs[f]? = some u ∧ VOk (cx C s β w) b l u := by
        intro ps
        induction ps with
        | nil => intro vs _ f b l h; simp at h
        | cons p r ih =>
          intro vs h f b l hf
          cases vs with
          | nil => exact h.elim
          | cons v vs =>
            cases f with
            | zero => simp at hf; subst hf; exact ⟨v, rfl, h.1⟩
            | succ f => simp at hf; simpa using ih vs h.2 f b l hf
      obtain ⟨u, hu, hvo⟩ := get ps vs.toList hok f b l hp
      refine pure_sound (v := u) (av := .v b l) ?_ g hvo hK
      have hu' : vs[f]? = some u := by simpa using hu
      simp [execOp, ho, Instr.extract, hv, hu']
    · exact hy.elim
  · exact hy.elim

theorem isIntT_ok (hL : LayOk P lay) (h : isIntT t lay = true) : ∃ k, P.underlying t = some (.int k) := by
  unfold isIntT at h
  split at h
  · rename_i hi
    obtain ⟨inf, d, z, _, hu, _, _, _, _, _, _, hk, _⟩ := hL t _ hi
    exact ⟨_, by rw [hu, hk _ rfl]⟩
  · cases h

theorem sound_convert (hL : LayOk P lay) {T : TypeId} (ho : o.op = .convert T t x) (g : Gam C s X β a.tmps w) (hx : AVOk (cx C s β w) (opnd s x) (a.eval x)) (hy : (evalOp lay cons o s).Yields (av, s')) (hK : Goes C X o a av s' K) : o.wp P a w K Q := by
  simp only [evalOp, ho] at hy
  split at hy
  · rename_i hi h1 hint
    rw [h1] at hx
    cases hy
    have hT := isIntT_ok hL hint
    obtain ⟨inf, d, z, _, hu, _, _, _, _, _, _, hk, _⟩ := hL t _ hi
    have hk := hk _ rfl
    subst hk
    obtain ⟨k2, hd⟩ := hT
    have hv := av_int hx
    refine pure_sound (v := .int _ _) ?_ g av_mk_int hK
    simp [execOp, ho, convert, run_underlying hd, run_underlying hu, hv, Conv.intToInt]
  · exact hy.elim
end
end Go.Di
