/-
  Own work. Slice literals, lengths, appends, calls; every operation.
-/
import Derived.Test.YtalnijffcoppkaaDiEval2
open Go.RowKit (Below)
namespace Go.Di

/-- A row of parts of one size, from part k on. -/
theorem fill_row (size : Nat) (place : Nat → Option (Nat × Nat)) (hp : ∀ i, place i = some (i * size, size)) : ∀ (vs : List Value) (k : Nat) (cells : Array Value), (∀ v ∈ vs, v.cells.size = size) → (k + vs.length) * size ≤ cells.size →
    ∃ cells', Instr.fill place cells ((vs.zipIdx k).map fun p => (p.2, p.1)) = some cells' ∧ cells'.toList = cells.toList.take (k * size) ++ vs.flatMap (fun v => v.cells.toList) ++ cells.toList.drop ((k + vs.length) * size)
  | [], k, cells, _, _ => ⟨cells, rfl, by simp⟩
  | v :: vs, k, cells, h1, h2 => by
    simp only [List.length_cons] at h2
    have hv := h1 v (List.mem_cons_self ..)
    have e0 : (k + (vs.length + 1)) * size = k * size + size + vs.length * size := by rw [Nat.add_mul, Nat.add_mul]; omega
    have e1 : (k + 1 + vs.length) * size = k * size + size + vs.length * size := by rw [Nat.add_mul, Nat.add_mul]; omega
    obtain ⟨c1, q1, q2⟩ := fill_ok place cells k (k * size) size v ((vs.zipIdx (k + 1)).map fun p => (p.2, p.1)) (hp k) hv (by omega)
    have hl1 : c1.size = cells.size := by
      have := congrArg List.length q2
      simp only [Array.length_toList, List.length_append, List.length_take, List.length_drop] at this
      omega
    obtain ⟨c2, q3, q4⟩ := fill_row size place hp vs (k + 1) c1 (fun u hu => h1 u (List.mem_cons_of_mem _ hu)) (by omega)
    refine ⟨c2, by simp only [List.zipIdx_cons, List.map_cons]; rw [q1]; exact q3, ?_⟩
    rw [q4, q2]
    have hlt : (cells.toList.take (k * size)).length = k * size := by rw [List.length_take, Array.length_toList]; omega
    have a1 : (cells.toList.take (k * size) ++ v.cells.toList ++ cells.toList.drop (k * size + size)).take ((k + 1) * size) = cells.toList.take (k * size) ++ v.cells.toList := by
      apply List.take_left'
      rw [List.length_append, hlt, Array.length_toList, hv, Nat.add_mul, Nat.one_mul]
    have a2 : (cells.toList.take (k * size) ++ v.cells.toList ++ cells.toList.drop (k * size + size)).drop ((k + 1 + vs.length) * size) = cells.toList.drop ((k + (vs.length + 1)) * size) := by
      have hl2 : (cells.toList.take (k * size) ++ v.cells.toList).length = k * size + size := by rw [List.length_append, hlt, Array.length_toList, hv]
      rw [e0, e1, ← hl2, List.drop_length_add_append, List.drop_drop]
    rw [a1, a2]
    simp [List.append_assoc]

section
variable {P : Program} {C : Bs} {w w' : World} {s s' : St} {X : Nat → Prop} {β β' : Nat → Option Value} {a : Act} {o : Oper} {tm : Array Value}
  {t : TypeId} {x y : Operand} {i : TI} {K : Act → World → Prop} {Q : Exit → Act → World → Prop} {lay : List (TypeId × TI)} {cons : List (FuncId × Con)} {av : AV}

theorem elemsOf_spec {ps : List (Nat × Operand)} (hop : ∀ (j : Nat) (z : Operand), (j, z) ∈ ps → AVOk (cx C s β w) (opnd s z) (a.eval z)) (g : Gam C s X β a.tmps w) {e : ST} : ∀ (k : Nat) {es : List e.El} {cs : List A1}, elemsOf s e k ps = some (es, cs) →
    ps.map (fun p => (p.1, a.eval p.2)) = ((ps.map fun p => a.eval p.2).zipIdx k).map (fun p => (p.2, p.1)) ∧ (∀ v ∈ ps.map (fun p => a.eval p.2), v.cells.size = e.size ∧ ∀ u ∈ v.cells.toList, u.oneCell' = true) ∧ es.length = ps.length ∧
      ∀ (l : List A1), (∀ b ∈ cs, b ∈ l) → ∀ (j : Nat) (c : Cell), (flat e es)[j]? = some c → ∃ u, ((ps.map fun p => a.eval p.2).flatMap fun v => v.cells.toList)[j]? = some u ∧ (cx C ⟨s.env, freezeL l s.ents⟩ β w).rd u c := by
  induction ps with
  | nil => intro k es cs h; simp only [elemsOf] at h; cases h; exact ⟨rfl, (fun v hv => by cases hv), rfl, fun l _ j c hj => by simp [flat] at hj⟩
  | cons q ps ih =>
    intro k es cs h
    obtain ⟨j0, z⟩ := q
    simp only [elemsOf] at h
    split at h
    · rename_i hj0
      have hj0 : k = j0 := by simpa using hj0
      subst hj0
      split at h
      · rename_i c hc
        split at h
        · rename_i el hel
          split at h
          · rename_i p hp
            cases h
            obtain ⟨h1, h2, h3, h4⟩ := ih (fun j z hm => hop j z (List.mem_cons_of_mem _ hm)) (k + 1) (es := p.1) (cs := p.2) hp
            obtain ⟨xt, q1, rfl⟩ := elemOf_eq hel
            obtain ⟨hcv, _⟩ := av_cells' (hop k z (List.mem_cons_self ..)) hc
            have hl := length_asTys q1
            rw [length_kinds] at hl
            have hcl := hcv.length
            simp only [Array.length_toList] at hcl
            refine ⟨by simp only [List.map_cons, List.zipIdx_cons, h1], fun v hv => ?_, by simp [h3], fun l hcs j cc hj => ?_⟩
            · simp only [List.map_cons, List.mem_cons] at hv
              rcases hv with rfl | hv
              · exact ⟨by omega, hcv.one⟩
              · exact h2 v hv
            · have hfl : flat e (e.mk xt :: p.1) = e.cells (e.mk xt) ++ flat e p.1 := by simp [flat]
              rw [hfl] at hj
              simp only [List.map_cons, List.flatMap_cons]
              by_cases hlt : j < e.size
              · rw [List.getElem?_append_left (by rw [length_cells]; exact hlt), cells_mk] at hj
                obtain ⟨u, hu, hr⟩ := as_stored g (l := l) (fun b hb => hcs b (List.mem_append_left _ hb)) hcv q1 j cc hj
                exact ⟨u, by rw [List.getElem?_append_left (by simp; omega)]; exact hu, hr⟩
              · rw [List.getElem?_append_right (by rw [length_cells]; omega), length_cells] at hj
                obtain ⟨u, hu, hr⟩ := h4 l (fun b hb => hcs b (List.mem_append_right _ hb)) _ cc hj
                exact ⟨u, by rw [List.getElem?_append_right (by simp; omega)]; simpa [← hcl, hl] using hu, hr⟩
          · cases h
        · cases h
      · cases h
    · cases h

theorem sound_buildSlice (hL : LayOk P lay) {len : Nat} {ps : Array (Nat × Operand)} (hlen24 : len ≤ 1000) (ho : o.op = .buildSlice t len ps) (g : Gam C s X β a.tmps w) (hx : ∀ (j : Nat) (z : Operand), (j, z) ∈ ps.toList → AVOk (cx C s β w) (opnd s z) (a.eval z))
    (hps : len = 0 → ps.toList = []) (hy : (evalOp lay cons o s).Yields (av, s')) (hK : Goes C X o a av s' K) : o.wp P a w K Q := by
  simp only [evalOp, ho] at hy
  split at hy
  · rename_i _ _ _ e _ _ hi
    obtain ⟨inf, d, z, _, hu, _, _, _, _, _, hel, _⟩ := hL t _ hi
    obtain ⟨E, rfl, einf, ez, q1, q2, q3, q4, q5⟩ := hel e rfl
    split at hy
    · cases hy
      have hpe := hps rfl
      have hpe' : ps = #[] := by simpa using hpe
      refine wp_run (v := .slice (some ⟨w.heap.size, 0, none⟩) 0 0) (w' := w.alloc (.cells #[] E)) ?_ (hK _ _ β (g.grown (below_alloc w _)) (av_one (a := .mt) ⟨_, rfl⟩ rfl))
      simp [execOp, ho, Instr.buildSlice, run_underlying hu, sizeOf, typeInfo, q1, hpe', Instr.fill, newRow]
      exact congrArg (fun c => w.alloc (.cells c E)) (Array.eq_empty_of_size_eq_zero (by simp))
    · rename_i hlen0
      split at hy
      · rename_i es cs hes
        split at hy
        · rename_i hlb
          cases hy
          have hlb : es.length = len := by simpa using hlb
          obtain ⟨h1, h2, h3, h4⟩ := elemsOf_spec hx g 0 hes
          have h4 := h4 cs (fun b hb => hb)
          have hsz := size_pos e
          have hlp : 0 < len := by
            rcases Nat.eq_zero_or_pos len with h | h
            · exact (hlen0 h).elim
            · exact h
          have hpl : ps.size = len := by rw [← hlb, h3]; simp
          have hm : len * e.size ≤ 1000 * 9 := Nat.mul_le_mul hlen24 (by cases e <;> decide)
          have hmne : ¬ len * e.size = 0 := by
            have := Nat.mul_pos hlp hsz; omega
          have hz0 : ((Array.range (len * e.size)).map (ez.cells[· % ez.cells.size]!)).size = len * e.size := by simp
          obtain ⟨cells, e1, e2⟩ := fill_row e.size (fun i => some (i * e.size, e.size)) (fun _ => rfl) (ps.toList.map fun p => a.eval p.2) 0 ((Array.range (len * e.size)).map (ez.cells[· % ez.cells.size]!))
            (fun v hv => (h2 v hv).1) (by simp [hpl])
          rw [← h1] at e1
          have hcl : cells.toList = (ps.toList.map fun p => a.eval p.2).flatMap fun v => v.cells.toList := by
            rw [e2]
            simp only [Nat.zero_mul, List.take_zero, List.nil_append, Nat.zero_add]
            rw [List.drop_of_length_le (by simp [hpl]), List.append_nil]
          have hcs : cells.size = len * e.size := by
            have h5 : ∀ vs : List Value, (∀ v ∈ vs, v.cells.size = e.size) → (vs.flatMap fun v => v.cells.toList).length = vs.length * e.size := by
              intro vs
              induction vs with
              | nil => intro _; simp
              | cons v vs ih => intro h; simp only [List.flatMap_cons, List.length_append, Array.length_toList, h v (List.mem_cons_self ..), ih fun u hu => h u (List.mem_cons_of_mem _ hu), List.length_cons, Nat.add_mul]; omega
            have := congrArg List.length hcl
            rw [Array.length_toList, h5 _ fun v hv => (h2 v hv).1, List.length_map, ← h3, hlb] at this
            exact this
          have gp := (g.freezeL cs).pushNew (below_alloc w (.cells cells E)) (n := nm (o.dst.getD 0)) (e := .arr false e es) (v := .slice (some ⟨w.heap.size, 0, none⟩) len len) (fun b hb => by
              cases len with
              | zero => omega
              | succ k => simp [topOf] at hb; subst hb; simp) fun hle => .inr ⟨w.heap.size, len, cells, E, by rw [hlb], hlp, by omega, by unfold maxLen; omega, heap_alloc w _, hcs, fun j c hj => by
              obtain ⟨u, hu, hr⟩ := h4 j c hj
              exact ⟨u, by rw [← Array.getElem?_toList, hcl]; exact hu, hle.rd ((le_free _).rd hr)⟩⟩
          refine wp_run (v := .slice (some ⟨w.heap.size, 0, none⟩) len len) (w' := w.alloc (.cells cells E)) ?_ (hK _ _ _ gp (av_one (a := .own _) (fun _ => upd_same ..) rfl))
          have hnot : ¬ (16777216 < len * e.size) := by omega
          have e1' : Instr.fill (fun i => some (i * e.size, e.size)) ((Array.range (len * e.size)).map (ez.cells[· % ez.cells.size]!)) (List.map (fun p => (p.1, a.eval p.2)) ps.toList) = some cells := e1
          simp [execOp, ho, Instr.buildSlice, run_underlying hu, sizeOf, typeInfo, zeroValue, q1, q2, q4, hnot, hmne, newRow]
          have e1'' : Instr.fill (fun i => some (i * e.size, e.size)) ((Array.range (len * e.size)).map fun x => ez.cells[x % ez.cells.size]!) (List.map (fun p => (p.1, a.eval p.2)) ps.toList) = some cells := e1'
          simp [e1'']
        · exact hy.elim
      · exact hy.elim
  · exact hy.elim

theorem sound_len (hL : LayOk P lay) (ho : o.op = .call { callee := .builtin .len, args := #[x], argTypes := #[t] }) (g : Gam C s X β a.tmps w) (hx : AVOk (cx C s β w) (opnd s x) (a.eval x))
    (hy : (evalOp lay cons o s).Yields (av, s')) (hK : Goes C X o a av s' K) : o.wp P a w K Q := by
  simp only [evalOp, ho] at hy
  split at hy
  · rename_i i b hi hb
    have hT := hL t i hi
    rw [addrOf_eq hb] at hx
    unfold lenOp at hy
    split at hy
    · split at hy
      · rename_i hs
        cases hy
        exact pure_sound (run_len_str hT (isStr_eq hs) ho (av_str hx)) g av_mk_int hK
      · exact hy.elim
    · split at hy
      · exact hy.elim
      · rename_i e he
        obtain ⟨a1, h1, h2, _⟩ := hx; cases h1
        split at hy
        · cases hy
          obtain ⟨ad, cap, hv, _⟩ := rd_len h2
          exact pure_sound (run_len hT he ho hv) g av_mk_int hK
        · cases hy
          obtain ⟨ad, hv⟩ := h2
          exact pure_sound (run_len hT he ho hv) g av_mk_int hK
        · split at hy
          · rename_i fr u xs hl
            cases hy
            obtain ⟨ad, cap, hv, _⟩ := arr_len (g.ents _ _ _ hl (h2 (by simp [cx, hl])))
            exact pure_sound (run_len hT he ho hv) g av_mk_int hK
          · exact hy.elim
        · split at hy
          · rename_i fr u xs hl
            cases hy
            obtain ⟨_, ad, m, cap, _, _, hv⟩ := h2 fr u xs hl
            exact pure_sound (run_len hT he ho hv) g av_mk_int hK
          · exact hy.elim
        · exact hy.elim
  · exact hy.elim

theorem sound_append (hL : LayOk P lay) {u : TypeId} (ho : o.op = .call { callee := .builtin .append, args := #[x, y], argTypes := #[t, u] }) (g : Gam C s X β a.tmps w) (hx : AVOk (cx C s β w) (opnd s x) (a.eval x)) (hz : AVOk (cx C s β w) (opnd s y) (a.eval y))
    (hy : (evalOp lay cons o s).Yields (av, s')) (hK : Goes C X o a av s' K) : o.wp P a w K Q := by
  simp only [evalOp, ho] at hy
  split at hy
  · rename_i hbeq hi hb1 hb2
    have htu : t = u := by simpa using hbeq
    subst htu
    have hT := hL t _ hi
    rw [addrOf_eq hb1] at hx
    rw [addrOf_eq hb2] at hz
    unfold appendOp at hy
    split at hy
    · rename_i ys hys
      split at hy
      · obtain ⟨q, hq, hf⟩ := hy
        cases hf
        obtain ⟨a1, h1, h2, _⟩ := hx; cases h1; obtain ⟨ad, h2⟩ := h2
        exact append_mt hT rfl ho g _ h2 hz hys (Nat.le_of_ble_eq_true (guard_ok hq)) hK
      · split at hy
        · rename_i v xs0 hl
          split at hy
          · rename_i xs hxs
            obtain ⟨rfl, rfl⟩ := cast_eq hxs
            obtain ⟨q, hq, hf⟩ := hy
            cases hf
            exact append_own hT rfl ho g _ hl hx hz hys (Nat.le_of_ble_eq_true (guard_ok hq)) hK
          · exact hy.elim
        · exact hy.elim
      · exact hy.elim
    · exact hy.elim
  · exact hy.elim

theorem opsL_get {l : List Operand} (hx : ∀ z ∈ l, AVOk (cx C s β w) (opnd s z) (a.eval z)) : ∀ (j : Nat) av v, (opsL s l)[j]? = some av → (l.map a.eval)[j]? = some v → AVOk (cx C s β w) av v := by
  induction l with
  | nil => intro j av v h; simp [opsL] at h
  | cons z r ih =>
    intro j av v h1 h2
    cases j with
    | zero => simp [opsL] at h1 h2; subst h1; subst h2; exact hx z (List.mem_cons_self ..)
    | succ j => simp [opsL] at h1 h2; exact ih (fun z hz => hx z (List.mem_cons_of_mem _ hz)) j av v h1 (by simpa using h2)
theorem length_opsL : ∀ l, (opsL s l).length = l.length
  | [] => rfl
  | _ :: r => by simp [opsL, length_opsL r]

theorem sound_call (hC : ConsOk P cons) {f : FuncId} {args : Array Operand} {ts : Array TypeId} (ho : o.op = .call { callee := .value (.func f), args := args, argTypes := ts }) (g : Gam C s X β a.tmps w)
    (hx : ∀ z ∈ args.toList, AVOk (cx C s β w) (opnd s z) (a.eval z)) (hy : (evalOp lay cons o s).Yields (av, s')) (hK : Goes C X o a av s' K) : o.wp P a w K Q := by
  simp only [evalOp, ho] at hy
  split at hy
  · rename_i c hc
    obtain ⟨hM, hcall⟩ := hC f c hc
    unfold callOp at hy
    split at hy
    · rename_i l hl
      split at hy
      · rename_i xin hxin
        obtain ⟨y, hrun, hf⟩ := hy
        cases hf
        obtain ⟨p1, p2, p3⟩ := resParts_spec c.sig.res (nm (o.dst.getD 0)) y
        have hlen : (opsL s args.toList).length = (args.toList.map a.eval).length := by rw [length_opsL, List.length_map]
        unfold Oper.wp
        rw [run_call hcall ho]
        simp only [Oper.upon_enter]
        have hargs : (args.map a.eval) = (args.toList.map a.eval).toArray := Array.ext' (by rw [Array.toList_map])
        rw [hargs]
        cases hsh : sharesL c.sig.res with
        | true =>
          have gf := g.freezeL l
          have hok := args_ok gf (old := fun k => k < w.heap.size ∧ ¬ Top (fun m => look m (freezeL l s.ents)) β k ∧ (C.b0 ≤ k ∨ C.old k)) (fun b h1 h2 h3 => ⟨h1, h2, h3⟩) hlen
            (fun j av v h1 h2 => by
              have h3 := opsL_get hx j av v h1 h2
              cases av with
              | v gg ll => exact VOk.conv (fun b _ v hb => freezeL_a1 l s hb) h3
              | tup ps => obtain ⟨vs, e1, e2⟩ := h3; exact ⟨vs, e1, e2.conv fun p _ b _ v hb => freezeL_a1 l s hb⟩) hl
            (fun b hb n fr t xs u h1 h2 h3 h4 => by have := frz_mem l s.ents hb h1 h2; rw [h4] at this; cases this)
            (x := xin) (by
              have key : ∀ (ks : List CK) (m : List A1) (x : Tys ks), asTys s.ents ks m = some x → asTys (freezeL l s.ents) ks m = some x := by
                intro ks
                induction ks with
                | nil => intro m x h; cases m <;> first | exact h | cases h
                | cons k ks ih =>
                  intro m x h
                  cases m with
                  | nil => cases h
                  | cons b m =>
                    obtain ⟨q1, q2⟩ := asTys_cons h
                    exact asTys_mk (as_frz (frz_look l s.ents) q1) (ih m x.2 q2)
              exact key _ _ _ hxin)
          refine (hM w _ _ xin y hrun hok).mono ?_
          rintro e w' ⟨v, rfl, hb, hres⟩
          obtain ⟨β2, G2, hv⟩ := hres (nm (o.dst.getD 0))
          obtain ⟨β', G', hv'⟩ := results_in gf hb (es := (resParts (nm (o.dst.getD 0)) c.sig.res y).2) true (fun _ b hb => hb) (fun p hp a ha => by
              rcases p1 p hp a ha with ⟨c', e, hc'⟩ | h
              · exact .inl ⟨c', e, fun h => by cases h⟩
              · exact .inr h) (fun p hp => by obtain ⟨_, _, t, xs, e, _⟩ := p2 p hp; exact ⟨t, xs, e, fun h => by cases h⟩) p3 G2 hv
          simp only [hsh] at hK
          exact hK v w' β' G' hv'
        | false =>
          have hok := args_ok g (old := fun k => True) (fun b h1 h2 h3 => trivial) hlen (opsL_get hx) hl (fun b hb n fr t xs u h1 h2 h3 h4 k _ => trivial) hxin
          refine (hM w _ _ xin y hrun hok).mono ?_
          rintro e w' ⟨v, rfl, hb, hres⟩
          obtain ⟨β2, G2, hv⟩ := hres (nm (o.dst.getD 0))
          obtain ⟨β', G', hv'⟩ := results_in g hb (es := (resParts (nm (o.dst.getD 0)) c.sig.res y).2) false (fun h => by cases h) (fun p hp a ha => by
              rcases p1 p hp a ha with ⟨c', e, hc'⟩ | h
              · exact .inl ⟨c', e, fun _ => hc' hsh⟩
              · exact .inr h) (fun p hp => by obtain ⟨_, _, t, xs, e, hd⟩ := p2 p hp; exact ⟨t, xs, e, fun _ => hd hsh⟩) p3 G2 hv
          simp only [hsh] at hK
          exact hK v w' β' G' hv'
      · exact hy.elim
    · exact hy.elim
  · exact hy.elim
end
end Go.Di
