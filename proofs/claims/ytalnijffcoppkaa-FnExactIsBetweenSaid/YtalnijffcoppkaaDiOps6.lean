/-
  Own work. Slice expressions, lengths, arithmetic, tests.
-/
import Derived.Test.YtalnijffcoppkaaDiOps5
open Go.RowKit (Below)
namespace Go.Di

theorem guard_ok {b : Bool} {u : Unit} (h : guardO b = some u) : b = true := by cases b <;> first | rfl | (cases h)

theorem inside_ok {n : Nat} {b : Int × Int} (h : inside n b = true) : 0 ≤ b.1 ∧ b.1 ≤ b.2 ∧ b.2 ≤ (n : Int) := by
  simp only [inside, Bool.and_eq_true, decide_eq_true_eq] at h; exact ⟨h.1.1, h.1.2, h.2⟩

/-- A part of a datum in memory that stays as it is. -/
theorem rd_cut {x : Cx} {ad : Option Addr} {len cap : Nat} {t : ST} {xs : List t.El} (h : x.rd (.slice ad len cap) (.sl t xs)) {lo hi : Nat} (h1 : lo ≤ hi) (h2 : hi ≤ len) (hcap : len ≤ cap) :
    x.rd (.slice (if cap = lo then ad else ad.map (·.add (lo * t.size))) (hi - lo) (cap - lo)) (.sl t (cut xs lo hi)) := by
  obtain ⟨fp, hr, hf⟩ := h
  by_cases he : hi = lo
  · subst he
    have : cut xs hi hi = [] := by simp [cut]
    rw [this, Nat.sub_self]
    exact ⟨[], .emp _ t _, by intro b hb; cases hb⟩
  · cases hr with
    | emp => omega
    | sl b off len cap t xs vals fp hl hc k1 k2 =>
      rw [if_neg (by omega)]
      simp only [Option.map_some, add_off]
      have hcl : (cut xs lo hi).length = hi - lo := by simp [cut]; omega
      have hget : ∀ (k : Nat) (c : Cell), (flat t (cut xs lo hi))[k]? = some c → (flat t xs)[lo * t.size + k]? = some c := by
        intro k c hk
        have hkl := (List.getElem?_eq_some_iff.1 hk).1
        rw [length_flat, hcl] at hkl
        have hp := size_pos t
        have hd : k = k / t.size * t.size + k % t.size := by rw [Nat.mul_comm]; exact (Nat.div_add_mod k t.size).symm
        have hq : k / t.size < hi - lo := Nat.div_lt_of_lt_mul (by rw [Nat.mul_comm]; exact hkl)
        have hx : (cut xs lo hi)[k / t.size]? = some (xs[lo + k / t.size]'(by omega)) := by
          simp only [cut, List.getElem?_drop, List.getElem?_take_of_lt (show lo + k / t.size < hi from by omega)]
          exact List.getElem?_eq_getElem (by omega)
        have e1 := flat_get t (cut xs lo hi) (k / t.size) _ (k % t.size) hx (Nat.mod_lt _ hp)
        have e2 := flat_get t xs (lo + k / t.size) _ (k % t.size) (List.getElem?_eq_getElem (by omega)) (Nat.mod_lt _ hp)
        rw [← hd] at e1
        rw [Nat.add_mul, Nat.add_assoc, ← hd] at e2
        rw [e2, ← e1]; exact hk
      refine ⟨_, .sl b (off + lo * t.size) (hi - lo) (cap - lo) t _ (fun k => vals (lo * t.size + k)) (fun k => fp (lo * t.size + k)) hcl.symm (by omega) (fun k c hk => ?_) (fun k c hk => k2 _ c (hget k c hk)), ?_⟩
      · rw [Nat.add_assoc]; exact k1 _ c (hget k c hk)
      · intro b' hb'
        rcases List.mem_cons.1 hb' with rfl | hb'
        · exact hf _ (List.mem_cons_self ..)
        · obtain ⟨k, hk, hb'⟩ := List.mem_flatMap.1 hb'
          have := hget k _ (List.getElem?_eq_getElem (List.mem_range.1 hk))
          exact hf b' (List.mem_cons_of_mem _ (List.mem_flatMap.2 ⟨_, List.mem_range.2 (List.getElem?_eq_some_iff.1 this).1, hb'⟩))

section
variable {P : Program} {C : Bs} {w w' : World} {s s' : St} {X : Nat → Prop} {β β' : Nat → Option Value} {a : Act} {o : Oper} {tm : Array Value}
  {t : TypeId} {x y : Operand} {i : TI} {K : Act → World → Prop} {Q : Exit → Act → World → Prop}

theorem boundOf_ok {xc : Cx} {d l : Int} {z : Option Operand} (hz : ∀ u, z = some u → AVOk xc (opnd s u) (a.eval u)) (h : boundOf d (z.map (opnd s)) = some l) :
    (z = none ∧ l = d) ∨ ∃ u, z = some u ∧ a.eval u = .int .i64 l := by
  cases z with
  | none => simp [boundOf] at h; exact .inl ⟨rfl, h.symm⟩
  | some u =>
    right
    refine ⟨u, rfl, ?_⟩
    simp only [Option.map_some] at h
    unfold boundOf at h
    split at h
    · rename_i hh; cases hh
    · rename_i l' hh
      cases h; cases hh' : opnd s u <;> simp [hh'] at hh
      have := hz u rfl
      rw [hh', hh.1, hh.2] at this
      exact av_int this
    · cases h

theorem run_bounds {xc : Cx} {isS : Bool} {n cap : Nat} {lo hi : Option Operand} (hlo : ∀ z, lo = some z → AVOk xc (opnd s z) (a.eval z)) (hhi : ∀ z, hi = some z → AVOk xc (opnd s z) (a.eval z))
    {b : Int × Int} (hb : bounds n (lo.map (opnd s)) (hi.map (opnd s)) = some b) (hin : inside n b = true) (hc : n ≤ cap) :
    (Instr.sliceBounds isS n cap (lo.map a.eval) (hi.map a.eval) none).run P w = .ok (b.1.toNat, b.2.toNat, cap) w := by
  obtain ⟨h0, h1, h2⟩ := inside_ok hin
  unfold bounds at hb
  split at hb
  · rename_i l h hl hh
    cases hb
    simp only at h0 h1 h2
    have e : (h.toNat : Int) = h := by omega
    rcases boundOf_ok hlo hl with ⟨rfl, rfl⟩ | ⟨u, rfl, hu⟩ <;> rcases boundOf_ok hhi hh with ⟨rfl, rfl⟩ | ⟨u', rfl, hu'⟩
    · simp [Instr.sliceBounds]
    · have q1 : 0 ≤ h ∧ h ≤ (cap : Int) := by omega
      simp [Instr.sliceBounds, Instr.sliceBound, hu', asIntOf, q1]
    · have q1 : 0 ≤ l ∧ l ≤ (n : Int) := by omega
      simp [Instr.sliceBounds, Instr.sliceBound, hu, asIntOf, q1]
    · have q1 : 0 ≤ h ∧ h ≤ (cap : Int) := by omega
      have q2 : 0 ≤ l ∧ l ≤ (h.toNat : Int) := by omega
      simp only [Instr.sliceBounds, Instr.sliceBound, hu, hu', asIntOf, Option.map_some, Sem.run_bind, Sem.run_pure, Result.andThen, q1, q2, if_true, and_self, Option.isSome]
  · cases hb

theorem slice_str (hL : TIOk P t i) (hs : i.scal = some .str) {lo hi : Option Operand} (ho : o.op = .slice t x lo hi none) (g : Gam C s X β a.tmps w) {ss : ByteArray}
    (hx : AVOk (cx C s β w) (.v false [.d (.str ss)]) (a.eval x)) (hlo : ∀ z, lo = some z → AVOk (cx C s β w) (opnd s z) (a.eval z)) (hhi : ∀ z, hi = some z → AVOk (cx C s β w) (opnd s z) (a.eval z))
    {b : Int × Int} (hb : bounds ss.size (lo.map (opnd s)) (hi.map (opnd s)) = some b) (hin : inside ss.size b = true)
    (hK : Goes C X o a (.one (.d (.str (ss.extract b.1.toNat b.2.toNat)))) s K) : o.wp P a w K Q := by
  obtain ⟨inf, d, z, hi', hu, _, _, _, _, _, _, _, hstr, _⟩ := hL
  cases hstr hs
  have hv := av_str hx
  have hr := run_bounds (P := P) (w := w) (isS := false) hlo hhi hb hin (Nat.le_refl _)
  refine pure_sound (v := .string (ss.extract b.1.toNat b.2.toNat)) ?_ g av_mk_str hK
  simp [execOp, ho, Instr.sliceAt, run_underlying hu, Instr.slice, hv, hr]

theorem run_slice (hL : TIOk P t i) {e : ST} (he : i.elem = some e) {lo hi : Option Operand} (ho : o.op = .slice t x lo hi none) {xc : Cx} {ad : Option Addr} {len cap : Nat}
    (hv : a.eval x = .slice ad len cap) (hlo : ∀ z, lo = some z → AVOk xc (opnd s z) (a.eval z)) (hhi : ∀ z, hi = some z → AVOk xc (opnd s z) (a.eval z))
    {b : Int × Int} (hb : bounds len (lo.map (opnd s)) (hi.map (opnd s)) = some b) (hin : inside len b = true) (hc : len ≤ cap) :
    (execOp a.eval o).run P w = .ok (.value (.slice (if cap = b.1.toNat then ad else ad.map (·.add (b.1.toNat * e.size))) (b.2.toNat - b.1.toNat) (cap - b.1.toNat))) w := by
  obtain ⟨inf, d, z, hi', hu, _, _, _, _, _, hel, _⟩ := hL
  obtain ⟨E, rfl, einf, ez, q1, q2, _⟩ := hel e he
  have hr := run_bounds (P := P) (w := w) (isS := true) hlo hhi hb hin hc
  simp [execOp, ho, Instr.sliceAt, run_underlying hu, Instr.slice, hv, hr, sizeOf, typeInfo, q1, q2]

theorem rd_len {xc : Cx} {v : Value} {t : ST} {xs : List t.El} (h : xc.rd v (.sl t xs)) : ∃ ad cap, v = .slice ad xs.length cap ∧ xs.length ≤ cap := by
  obtain ⟨fp, hr, _⟩ := h
  cases hr with
  | emp a t cap => exact ⟨a, cap, rfl, Nat.zero_le _⟩
  | sl b off len cap t xs vals fp hl hc k1 k2 => subst hl; exact ⟨_, cap, rfl, hc⟩

theorem arr_len {xc : Cx} {v : Value} {fr : Bool} {t : ST} {xs : List t.El} (h : EntOk xc (.arr fr t xs) v) : ∃ ad cap, v = .slice ad xs.length cap ∧ xs.length ≤ cap := by
  cases fr with
  | true => exact rd_len h
  | false =>
    rcases h with ⟨h0, ad, h1⟩ | ⟨g, cap, cur, T, h1, h2, h3, _⟩
    · subst h0; exact ⟨ad, 0, h1, Nat.le_refl _⟩
    · exact ⟨_, cap, h1, h3⟩

theorem slice_d (hL : TIOk P t i) {e : ST} (he : i.elem = some e) {lo hi : Option Operand} (ho : o.op = .slice t x lo hi none) (g : Gam C s X β a.tmps w) {xs : List e.El}
    (hx : AVOk (cx C s β w) (.v false [.d (.sl e xs)]) (a.eval x)) (hlo : ∀ z, lo = some z → AVOk (cx C s β w) (opnd s z) (a.eval z)) (hhi : ∀ z, hi = some z → AVOk (cx C s β w) (opnd s z) (a.eval z))
    {b : Int × Int} (hb : bounds xs.length (lo.map (opnd s)) (hi.map (opnd s)) = some b) (hin : inside xs.length b = true)
    (hK : Goes C X o a (.one (.d (.sl e (cut xs b.1.toNat b.2.toNat)))) s K) : o.wp P a w K Q := by
  obtain ⟨a1, h1, h2, _⟩ := hx; cases h1
  obtain ⟨ad, cap, hv, hc⟩ := rd_len h2
  obtain ⟨q0, q1, q2⟩ := inside_ok hin
  have h2' : (cx C s β w).rd (a.eval x) (.sl e xs) := h2
  rw [hv] at h2'
  exact pure_sound (av := .one (.d (.sl e (cut xs b.1.toNat b.2.toNat)))) (run_slice hL he ho hv hlo hhi hb hin hc) g (av_one (a := .d _) (rd_cut h2' (by omega) (by omega) hc) rfl) hK

theorem slice_own (hL : TIOk P t i) {e : ST} (he : i.elem = some e) {lo hi : Option Operand} (ho : o.op = .slice t x lo hi none) (g : Gam C s X β a.tmps w) {n : Nat} {fr : Bool} {xs : List e.El}
    (hl : look n s.ents = some (.arr fr e xs)) (hx : AVOk (cx C s β w) (.v false [.own n]) (a.eval x)) (hlo : ∀ z, lo = some z → AVOk (cx C s β w) (opnd s z) (a.eval z)) (hhi : ∀ z, hi = some z → AVOk (cx C s β w) (opnd s z) (a.eval z))
    {b : Int × Int} (hb : bounds xs.length (lo.map (opnd s)) (hi.map (opnd s)) = some b) (hin : inside xs.length b = true)
    (hK : Goes C X o a (.one (.win n b.1.toNat (b.2.toNat - b.1.toNat))) s K) : o.wp P a w K Q := by
  obtain ⟨a1, h1, h2, _⟩ := hx; cases h1
  have hβ := h2 (by simp [cx, hl])
  obtain ⟨ad, cap, hv, hc⟩ := arr_len (g.ents n _ _ hl hβ)
  obtain ⟨q0, q1, q2⟩ := inside_ok hin
  refine pure_sound (av := .one (.win n b.1.toNat (b.2.toNat - b.1.toNat))) (run_slice hL he ho hv hlo hhi hb hin hc) g (av_one (a := .win n _ _) (fun fr' t' xs' hl' => ?_) rfl) hK
  have : look n s.ents = some (.arr fr' t' xs') := hl'
  rw [hl] at this; cases this
  exact ⟨by omega, ad, xs.length, cap, by rw [← hv]; exact hβ, by omega, rfl⟩

/-! ### Lengths -/
theorem run_len (hL : TIOk P t i) {e : ST} (he : i.elem = some e) (ho : o.op = .call { callee := .builtin .len, args := #[x], argTypes := #[t] }) {ad : Option Addr} {len cap : Nat} (hv : a.eval x = .slice ad len cap) :
    (execOp a.eval o).run P w = .ok (.value (.int .i64 len)) w := by
  obtain ⟨inf, d, z, hi', hu, _, _, _, _, _, hel, _⟩ := hL
  obtain ⟨E, rfl, _⟩ := hel e he
  simp [execOp, ho, resolve, invoke, builtin, Builtin.len_, run_underlying hu, hv, goInt]
theorem run_len_str (hL : TIOk P t i) (hs : i.scal = some .str) (ho : o.op = .call { callee := .builtin .len, args := #[x], argTypes := #[t] }) {ss : ByteArray} (hv : a.eval x = .string ss) :
    (execOp a.eval o).run P w = .ok (.value (.int .i64 ss.size)) w := by
  obtain ⟨inf, d, z, hi', hu, _, _, _, _, _, _, _, hstr, _⟩ := hL
  cases hstr hs
  simp [execOp, ho, resolve, invoke, builtin, Builtin.len_, run_underlying hu, hv, goInt]

theorem isEl_eq {t : ST} {e : Option ST} (h : isEl t e = true) : e = some t := by
  cases e with
  | none => cases h
  | some u => rw [eqb_eq h]
theorem isStr_eq {c : Option CK} (h : isStr c = true) : c = some .str := by
  unfold isStr at h; split at h <;> first | rfl | (cases h)

theorem index_str (hL : TIOk P t i) (hs : i.scal = some .str) (ho : o.op = .index t x y) (g : Gam C s X β a.tmps w) {ss : ByteArray} {j b : Int}
    (hx : AVOk (cx C s β w) (.v false [.d (.str ss)]) (a.eval x)) (hy : a.eval y = .int .i64 j) (hb : strAt ss j = some b) (hK : Goes C X o a (.one (.d (.int .u8 b))) s K) : o.wp P a w K Q := by
  obtain ⟨inf, d, z, hi', hu, _, _, _, _, _, _, _, hstr, _⟩ := hL
  cases hstr hs
  have hv := av_str hx
  refine pure_sound (v := .int .u8 b) ?_ g av_mk_int hK
  unfold strAt at hb
  split at hb
  · rename_i h0
    cases hg : ss.data[j.toNat]? with
    | none => simp [hg] at hb
    | some c =>
      simp [hg] at hb
      have hg' : ss[j.toNat]? = some c := by
        have hlt := (Array.getElem?_eq_some_iff.1 hg).1
        have e := (Array.getElem?_eq_some_iff.1 hg).2
        rw [getElem?_pos ss j.toNat hlt]
        exact congrArg some e
      simp [execOp, ho, Instr.index, hv, hy, asIntOf, run_underlying hu, h0, hg', hb]
  · cases hb

/-! ### Arithmetic -/
theorem int_sound {op : BinOp} {T U : TypeId} (ho : o.op = .binOp op T x y U) (g : Gam C s X β a.tmps w) {k : IntKind} {m n : Int} (hx : a.eval x = .int k m) (hy : a.eval y = .int k n)
    {r : AV × St} (hr : (intOp s k m n op).bindK (fun r => some r) = some r) (hK : Goes C X o a r.1 r.2 K) : o.wp P a w K Q := by
  cases op <;> simp only [intOp, ok, Susp.bindK, Option.some.injEq, reduceCtorEq] at hr
  case add => subst hr; exact pure_sound (by simp [execOp, ho, hx, hy, eqGuard, Go.binOp, Op.intArith]) g av_mk_int hK
  case sub => subst hr; exact pure_sound (by simp [execOp, ho, hx, hy, eqGuard, Go.binOp, Op.intArith]) g av_mk_int hK
  case mul => subst hr; exact pure_sound (by simp [execOp, ho, hx, hy, eqGuard, Go.binOp, Op.intArith]) g av_mk_int hK
  case quo =>
    cases hg : guardO (n != 0) with
    | none => simp [hg] at hr
    | some u =>
      simp [hg] at hr; subst hr
      have hn : n ≠ 0 := by simpa using guard_ok hg
      exact pure_sound (by simp [execOp, ho, hx, hy, eqGuard, Go.binOp, Op.intDiv, hn]) g av_mk_int hK
  case rem =>
    cases hg : guardO (n != 0) with
    | none => simp [hg] at hr
    | some u =>
      simp [hg] at hr; subst hr
      have hn : n ≠ 0 := by simpa using guard_ok hg
      exact pure_sound (by simp [execOp, ho, hx, hy, eqGuard, Go.binOp, Op.intDiv, hn]) g av_mk_int hK
  case eql => subst hr; exact pure_sound (by simp [execOp, ho, hx, hy, eqGuard, Go.binOp, Op.intCmp]) g av_mk_bool hK
  case neq => subst hr; exact pure_sound (by simp [execOp, ho, hx, hy, eqGuard, Go.binOp, Op.intCmp]) g av_mk_bool hK
  case lss => subst hr; exact pure_sound (by simp [execOp, ho, hx, hy, eqGuard, Go.binOp, Op.intCmp]) g av_mk_bool hK
  case leq => subst hr; exact pure_sound (by simp [execOp, ho, hx, hy, eqGuard, Go.binOp, Op.intCmp]) g av_mk_bool hK
  case gtr => subst hr; exact pure_sound (by simp [execOp, ho, hx, hy, eqGuard, Go.binOp, Op.intCmp]) g av_mk_bool hK
  case geq => subst hr; exact pure_sound (by simp [execOp, ho, hx, hy, eqGuard, Go.binOp, Op.intCmp]) g av_mk_bool hK
end
end Go.Di
