/-
  Own work. Structs by value, addresses of fields and elements, slices, arithmetic.
-/
import Derived.Test.YtalnijffcoppkaaDiOps4
open Go.RowKit (Below)
namespace Go.Di

theorem foldl_set : ∀ (l : List Value) (off k : Nat) (cs : Array Value), off + k + l.length ≤ cs.size →
    ((l.zipIdx k).foldl (fun (cs : Array Value) (p : Value × Nat) => cs.setIfInBounds (off + p.2) p.1) cs).toList = cs.toList.take (off + k) ++ l ++ cs.toList.drop (off + k + l.length)
  | [], off, k, cs, h => by simp
  | v :: l, off, k, cs, h => by
    simp only [List.length_cons] at h
    simp only [List.zipIdx_cons, List.foldl_cons]
    rw [foldl_set l off (k + 1) _ (by simp; omega)]
    simp only [Array.toList_setIfInBounds]
    have h1 : off + k < cs.toList.length := by simp; omega
    have e1 : (cs.toList.set (off + k) v).take (off + (k + 1)) = cs.toList.take (off + k) ++ [v] := by
      rw [← Nat.add_assoc, List.take_succ_eq_append_getElem (by simpa using h1), List.take_set_of_le (Nat.le_refl _)]
      simp
    have e2 : (cs.toList.set (off + k) v).drop (off + (k + 1) + l.length) = cs.toList.drop (off + k + (l.length + 1)) := by
      rw [List.drop_set_of_lt (by omega)]; congr 1; omega
    rw [e1, e2]; simp

theorem fill_ok (place : Nat → Option (Nat × Nat)) (cells : Array Value) (i off k : Nat) (v : Value) (rest : List (Nat × Value)) (hp : place i = some (off, k)) (hk : v.cells.size = k) (hf : off + k ≤ cells.size) :
    ∃ cells', Instr.fill place cells ((i, v) :: rest) = Instr.fill place cells' rest ∧ cells'.toList = cells.toList.take off ++ v.cells.toList ++ cells.toList.drop (off + k) := by
  refine ⟨v.cells.toList.zipIdx.foldl (fun (cs : Array Value) (p : Value × Nat) => cs.setIfInBounds (off + p.2) p.1) cells, ?_, ?_⟩
  · simp only [Instr.fill, hp]
    rw [if_neg (by simp [hk]; omega)]
    congr 1
    rw [← Array.foldl_toList]
    simp
  · have := foldl_set v.cells.toList off 0 cells (by simp; omega)
    simp only [Nat.add_zero, Array.length_toList, hk] at this
    exact this

theorem FieldsOk.get {P : Program} : ∀ {fs : List Field} {l : List (Nat × Nat × Bool)}, FieldsOk P fs l → ∀ {f off k : Nat} {g : Bool}, l[f]? = some (off, k, g) → ∃ fd, fs[f]? = some fd ∧ FieldOk P fd off k g
  | fd :: fs, (o, k, g) :: l, ⟨h, _⟩, 0, _, _, _, h1 => by simp at h1; obtain ⟨rfl, rfl, rfl⟩ := h1; exact ⟨fd, rfl, h⟩
  | fd :: fs, (o, k, g) :: l, ⟨_, h⟩, f + 1, off, k', g', h1 => by simp at h1; simpa using h.get h1
  | [], [], _, f, _, _, _, h1 => by simp at h1
  | [], _ :: _, h, _, _, _, _, _ => h.elim
  | _ :: _, [], h, _, _, _, _, _ => h.elim
theorem FieldsOk.places {P : Program} : ∀ {fs : List Field} {l : List (Nat × Nat × Bool)}, FieldsOk P fs l →
    fs.mapM (fun f => (P.info? f.type).map fun i => (f.offset, i.size)) = some (l.map fun p => (p.1, p.2.1))
  | [], [], _ => rfl
  | fd :: fs, (o, k, g) :: l, ⟨⟨h1, h2, inf, d, h3, h4, _, _⟩, h⟩ => by
    simp [List.mapM_cons, h3, h.places, h1, h4]
  | [], _ :: _, h => h.elim
  | _ :: _, [], h => h.elim

section
variable {P : Program} {C : Bs} {w w' : World} {s s' : St} {X : Nat → Prop} {β β' : Nat → Option Value} {a : Act} {o : Oper} {tm : Array Value}
  {t : TypeId} {x y : Operand} {i : TI} {K : Act → World → Prop} {Q : Exit → Act → World → Prop}

theorem pure_sound {v : Value} {av : AV} (hr : (execOp a.eval o).run P w = .ok (.value v) w) (g : Gam C s X β a.tmps w) (hav : AVOk (cx C s β w) av v) (hK : Goes C X o a av s K) : o.wp P a w K Q :=
  wp_run hr (hK v w β g hav)

theorem parts_fill {xc : Cx} {ps : List (Nat × Operand)} (fs : List (Nat × Nat × Bool)) (hop : ∀ (j : Nat) (z : Operand), (j, z) ∈ ps → AVOk xc (opnd s z) (a.eval z)) : ∀ (l l' : List A1) (cells : Array Value), L1Ok xc l cells.toList → partsOf fs s ps l = some l' →
      ∃ cells', Instr.fill (fun j => (fs.map fun p => (p.1, p.2.1))[j]?) cells (ps.map fun p => (p.1, a.eval p.2)) = some cells' ∧ L1Ok xc l' cells'.toList := by
  induction ps with
  | nil => intro l l' cells h hp; simp only [partsOf] at hp; cases hp; exact ⟨cells, rfl, h⟩
  | cons q ps ih =>
    intro l l' cells h hp
    obtain ⟨j, z⟩ := q
    simp only [partsOf] at hp
    split at hp
    · rename_i off k g hf
      split at hp
      · rename_i c hc
        split at hp
        · rename_i hb
          split at hp
          · rename_i l1 hl1
            obtain ⟨hcv, _⟩ := av_cells' (hop j z (List.mem_cons_self ..)) hc
            have hk : c.length = k := by simpa using hb
            have hcl := hcv.length
            simp only [Array.length_toList] at hcl
            obtain ⟨hfit, hnew⟩ := h.patch hcv hl1
            simp only [Array.length_toList] at hfit hnew
            obtain ⟨cells', e1, e2⟩ := fill_ok (fun j => (fs.map fun p => (p.1, p.2.1))[j]?) cells j off k (a.eval z) (ps.map fun p => (p.1, a.eval p.2)) (by simp [hf]) (by omega) (by omega)
            obtain ⟨c2, e3, e4⟩ := ih (fun j' z' hm => hop j' z' (List.mem_cons_of_mem _ hm)) l1 l' cells' (by rw [e2, show k = (a.eval z).cells.size from by omega]; exact hnew) hp
            exact ⟨c2, by rw [List.map_cons, e1]; exact e3, e4⟩
          · cases hp
        · cases hp
      · cases hp
    · cases hp

theorem build_sound (hL : TIOk P t i) {ps : Array (Nat × Operand)} (ho : o.op = .build t ps) (g : Gam C s X β a.tmps w) (hst : i.strct = true) {l : List A1}
    (hop : ∀ (j : Nat) (z : Operand), (j, z) ∈ ps.toList → AVOk (cx C s β w) (opnd s z) (a.eval z)) (hp : partsOf i.fields s ps.toList i.zero = some l) (hK : Goes C X o a (.v true l) s K) : o.wp P a w K Q := by
  obtain ⟨inf, d, z, hi, hu, hs, hag, hz, hzo, hfs, _⟩ := hL
  obtain ⟨fs, rfl, hza, hf⟩ := hfs hst
  obtain ⟨cells, h1, h2⟩ := parts_fill i.fields hop i.zero l z.cells (zOk_ok hzo) hp
  refine pure_sound (v := .agg cells) (av := .v true l) ?_ g ⟨cells, rfl, h2⟩ hK
  have hb : P.built t ((ps.map fun (i, x) => (i, a.eval x)).toList) = some cells := by
    unfold Program.built
    rw [hi, hu]
    simp only [hz, hf.places]
    rw [← h1]; simp
  have := run_build (P := P) w t (ps.map fun (i, x) => (i, a.eval x)) cells hb
  have this : (Instr.build t (Array.map (fun x => (x.fst, a.eval x.snd)) ps)).run P w = .ok (.agg cells) w := by simpa using this
  simp [execOp, ho, this]

theorem field_sound (hL : TIOk P t i) {f : Nat} (ho : o.op = .field t x f) (g : Gam C s X β a.tmps w) (hst : i.strct = true) {l c : List A1} {off k : Nat} {ag : Bool}
    (hx : AVOk (cx C s β w) (.v true l) (a.eval x)) (hf : i.fields[f]? = some (off, k, ag)) (hw : window off k l = some c) (hone : ag = false → k = 1) (hK : Goes C X o a (.v ag c) s K) : o.wp P a w K Q := by
  obtain ⟨inf, d, z, hi, hu, hs, hag, hz, hzo, hfs, _⟩ := hL
  obtain ⟨fs, rfl, _, hfo⟩ := hfs hst
  obtain ⟨fd, hfd, h1, h2, finf, fd', h3, h4, h5, h6⟩ := hfo.get hf
  obtain ⟨vs, hv, hok⟩ := hx
  obtain ⟨rfl, hcl⟩ := window_spec hw
  have hok2 := (hok.drop off).take k
  have hlen := hok2.length
  rw [hcl] at hlen
  have hpart : ∃ u, (part fd.type vs off).run P w = .ok u w ∧ VOk (cx C s β w) ag ((l.drop off).take k) u := by
    cases hg : ag with
    | true =>
      have ha : (isAgg fd.type).run P w = .ok true w := by
        simp only [isAgg, Sem.run_bind, run_underlying h5, Result.andThen]
        rw [hg] at h6; cases fd' <;> first | rfl | (simp [aggD] at h6)
      refine ⟨.agg (vs.extract off (off + k)), by simp [part, ha, sizeOf, typeInfo, h3, h4], _, rfl, ?_⟩
      have e : (vs.extract off (off + k)).toList = (vs.toList.drop off).take k := by
        simp [List.extract_eq_take_drop]
      rw [e]; exact hok2
    | false =>
      have ha : (isAgg fd.type).run P w = .ok false w := by
        simp only [isAgg, Sem.run_bind, run_underlying h5, Result.andThen]
        rw [hg] at h6; cases fd' <;> first | rfl | (simp [aggD] at h6)
      have hk1 := hone hg
      subst hk1
      have hlo : off < vs.toList.length := by simp at hlen ⊢; omega
      have e : (vs.toList.drop off).take 1 = [vs.toList[off]] := by
        rw [List.drop_eq_getElem_cons hlo]; simp
      rw [e] at hok2
      match hm : (l.drop off).take 1, hcl with
      | [b], _ =>
        rw [hm] at hok2
        refine ⟨vs.toList[off], ?_, b, rfl, hok2.1, .inr hok2.2.1⟩
        have : vs[off]? = some vs.toList[off] := by simp at hlo ⊢
        simp [part, ha, this]
      | [], h => simp at h
      | _ :: _ :: _, h => simp at h
  obtain ⟨u, hr, hvo⟩ := hpart
  refine pure_sound (v := u) (av := .v ag ((l.drop off).take k)) ?_ g hvo hK
  have hfd' : fs[f]? = some fd := by simpa using hfd
  simp [execOp, ho, Instr.field, run_underlying hu, hfd', asAgg, hv, h1, hr]

theorem run_fieldAddr (hL : TIOk P t i) {f : Nat} (ho : o.op = .fieldAddr t x f) (hst : i.strct = true) {off k : Nat} {ag : Bool} (hf : i.fields[f]? = some (off, k, ag)) {b q : Nat}
    (hx : a.eval x = .pointer (some ⟨b, q, none⟩)) : (execOp a.eval o).run P w = .ok (.value (.pointer (some ⟨b, q + off, none⟩))) w := by
  obtain ⟨inf, d, z, hi, hu, hs, hag, hz, hzo, hfs, _⟩ := hL
  obtain ⟨fs, rfl, _, hfo⟩ := hfs hst
  obtain ⟨fd, hfd, h1, h2, finf, fd', h3, h4, h5, h6⟩ := hfo.get hf
  have hfd' : fs[f]? = some fd := by simpa using hfd
  have hne : ¬ finf.size = 0 := by omega
  simp [execOp, ho, Instr.fieldAt, run_underlying hu, hfd', Instr.sureAddr, hx, fieldPlace, sizeOf, typeInfo, h3, hne, h1, add_off]

theorem fieldAddr_lp (hL : TIOk P t i) {f : Nat} (ho : o.op = .fieldAddr t x f) (g : Gam C s X β a.tmps w) (hst : i.strct = true) {off k : Nat} {ag : Bool} (hf : i.fields[f]? = some (off, k, ag)) {n q : Nat} {e : Ent}
    (hl : look n s.ents = some e) (hx : AVOk (cx C s β w) (.v false [.lp n q]) (a.eval x)) (hK : Goes C X o a (.one (.lp n (q + off))) s K) : o.wp P a w K Q := by
  obtain ⟨a1, h1, h2, _⟩ := hx; cases h1
  obtain ⟨b, hb, hv⟩ := h2 (by simp [cx, hl])
  exact pure_sound (av := .one (.lp n (q + off))) (run_fieldAddr hL ho hst hf hv) g (av_one (a := .lp n (q + off)) (fun _ => ⟨b, hb, rfl⟩) rfl) hK
theorem fieldAddr_sp (hL : TIOk P t i) {f : Nat} (ho : o.op = .fieldAddr t x f) (g : Gam C s X β a.tmps w) (hst : i.strct = true) {off k : Nat} {ag : Bool} (hf : i.fields[f]? = some (off, k, ag)) {cs : List Cell} {q : Nat}
    (hx : AVOk (cx C s β w) (.v false [.sp cs q]) (a.eval x)) (hK : Goes C X o a (.one (.sp cs (q + off))) s K) : o.wp P a w K Q := by
  obtain ⟨a1, h1, h2, _⟩ := hx; cases h1
  obtain ⟨b, q', hv, hc⟩ := h2
  exact pure_sound (av := .one (.sp cs (q + off))) (run_fieldAddr hL ho hst hf hv) g (av_one (a := .sp cs (q + off)) ⟨b, q', by rw [Nat.add_assoc], hc⟩ rfl) hK
theorem fieldAddr_oe (hL : TIOk P t i) {f : Nat} (ho : o.op = .fieldAddr t x f) (g : Gam C s X β a.tmps w) (hst : i.strct = true) {off k : Nat} {ag : Bool} (hf : i.fields[f]? = some (off, k, ag)) {n j q : Nat} {fr : Bool} {u : ST} {xs : List u.El}
    (hl : look n s.ents = some (.arr fr u xs)) (hx : AVOk (cx C s β w) (.v false [.oe n j q]) (a.eval x)) (hK : Goes C X o a (.one (.oe n j (q + off))) s K) : o.wp P a w K Q := by
  obtain ⟨a1, h1, h2, _⟩ := hx; cases h1
  obtain ⟨hj, gb, q', m, cap, hb, hv⟩ := h2 fr u xs hl
  refine pure_sound (av := .one (.oe n j (q + off))) (run_fieldAddr hL ho hst hf hv) g (av_one (a := .oe n j (q + off)) (fun fr' u' xs' hl' => ?_) rfl) hK
  have : look n s.ents = some (.arr fr' u' xs') := hl'
  rw [hl] at this; cases this
  exact ⟨hj, gb, q', m, cap, hb, by rw [Nat.add_assoc]⟩

theorem idx_some {α : Type} {xs : List α} {i : Int} {e : α} (h : idx xs i = some e) : 0 ≤ i ∧ i < xs.length ∧ xs[i.toNat]? = some e := by
  unfold idx at h
  split at h
  · rename_i h0
    have := (List.getElem?_eq_some_iff.1 h).1
    exact ⟨h0, by omega, h⟩
  · cases h

theorem run_indexAddr (hL : TIOk P t i) {e : ST} (he : i.elem = some e) (ho : o.op = .indexAddr t x y) {b q len cap : Nat} {j : Int}
    (hx : a.eval x = .slice (some ⟨b, q, none⟩) len cap) (hy : a.eval y = .int .i64 j) (h0 : 0 ≤ j) (h1 : j < len) :
    (execOp a.eval o).run P w = .ok (.value (.pointer (some ⟨b, q + j.toNat * e.size, none⟩))) w := by
  obtain ⟨inf, d, z, hi, hu, hs, hag, hz, hzo, _, hel, _⟩ := hL
  obtain ⟨E, rfl, einf, ez, q1, q2, _⟩ := hel e he
  simp [execOp, ho, Instr.indexAt, hx, hy, asIntOf, run_underlying hu, h0, h1, sizeOf, typeInfo, q1, q2, add_off]

theorem indexAddr_d (hL : TIOk P t i) {e : ST} (he : i.elem = some e) (ho : o.op = .indexAddr t x y) (g : Gam C s X β a.tmps w) {xs : List e.El} {j : Int} {el : e.El}
    (hx : AVOk (cx C s β w) (.v false [.d (.sl e xs)]) (a.eval x)) (hy : a.eval y = .int .i64 j) (hel : idx xs j = some el) (hK : Goes C X o a (.one (.sp (e.cells el) 0)) s K) : o.wp P a w K Q := by
  obtain ⟨a1, h1, h2, _⟩ := hx; cases h1
  obtain ⟨h0, hlt, hget⟩ := idx_some hel
  obtain ⟨fp, hr, hf⟩ := h2
  generalize hv : a.eval x = v at hr
  cases hr with
  | emp ad u cap => simp at hlt; omega
  | sl b off len cap u ys vals fp hl hc k1 k2 =>
    refine pure_sound (av := .one (.sp (e.cells el) 0)) (run_indexAddr hL he ho hv hy h0 (by omega)) g (av_one (a := .sp (e.cells el) 0) ⟨b, off + j.toNat * e.size, rfl, .inr ?_, fun k c hk => ?_⟩ rfl) hK
    · intro b' hb'
      simp only [List.mem_singleton] at hb'; subst hb'
      exact hf b' (List.mem_cons_self ..)
    · have hkl : k < e.size := by have := (List.getElem?_eq_some_iff.1 hk).1; rwa [length_cells] at this
      have hfl := flat_get e xs j.toNat el k hget hkl
      rw [hk] at hfl
      refine ⟨vals (j.toNat * e.size + k), by rw [Nat.add_assoc]; exact k1 _ c hfl, _, k2 _ c hfl, fun b' hb' => hf b' (List.mem_cons_of_mem _ (List.mem_flatMap.2 ⟨_, List.mem_range.2 (List.getElem?_eq_some_iff.1 hfl).1, hb'⟩))⟩

/-- An own array that has an element lies in a block. -/
theorem own_block {x : Cx} {fr : Bool} {t : ST} {xs : List t.El} {v : Value} (h : EntOk x (.arr fr t xs) v) (hne : 0 < xs.length) :
    ∃ g q cap, v = .slice (some ⟨g, q, none⟩) xs.length cap ∧ xs.length ≤ cap := by
  cases fr with
  | true =>
    obtain ⟨fp, hr, _⟩ := h
    cases hr with
    | emp => simp at hne
    | sl b off len cap u ys vals fp hl hc k1 k2 => subst hl; exact ⟨b, off, cap, rfl, hc⟩
  | false =>
    rcases h with ⟨h0, _⟩ | ⟨g, cap, cur, T, h1, h2, h3, _⟩
    · subst h0; simp at hne
    · exact ⟨g, 0, cap, h1, h3⟩

theorem indexAddr_own (hL : TIOk P t i) {e : ST} (he : i.elem = some e) (ho : o.op = .indexAddr t x y) (g : Gam C s X β a.tmps w) {n : Nat} {fr : Bool} {xs : List e.El} {j : Int} {el : e.El}
    (hl : look n s.ents = some (.arr fr e xs)) (hx : AVOk (cx C s β w) (.v false [.own n]) (a.eval x)) (hy : a.eval y = .int .i64 j) (hel : idx xs j = some el) (hK : Goes C X o a (.one (.oe n j.toNat 0)) s K) : o.wp P a w K Q := by
  obtain ⟨a1, h1, h2, _⟩ := hx; cases h1
  obtain ⟨h0, hlt, hget⟩ := idx_some hel
  have hb := h2 (by simp [cx, hl])
  obtain ⟨gb, q, cap, hv, hc⟩ := own_block (g.ents n _ _ hl hb) (by omega)
  refine pure_sound (av := .one (.oe n j.toNat 0)) (run_indexAddr hL he ho hv hy h0 hlt) g (av_one (a := .oe n j.toNat 0) (fun fr' u' xs' hl' => ?_) rfl) hK
  have : look n s.ents = some (.arr fr' u' xs') := hl'
  rw [hl] at this; cases this
  exact ⟨by omega, gb, q, xs.length, cap, by rw [← hv]; exact hb, by simp⟩

theorem indexAddr_win (hL : TIOk P t i) {e : ST} (he : i.elem = some e) (ho : o.op = .indexAddr t x y) (g : Gam C s X β a.tmps w) {n lo len : Nat} {fr : Bool} {xs : List e.El} {j : Int} {el : e.El}
    (hl : look n s.ents = some (.arr fr e xs)) (hx : AVOk (cx C s β w) (.v false [.win n lo len]) (a.eval x)) (hy : a.eval y = .int .i64 j) (hel : idx (cut xs lo (lo + len)) j = some el) (hK : Goes C X o a (.one (.oe n (lo + j.toNat) 0)) s K) : o.wp P a w K Q := by
  obtain ⟨a1, h1, h2, _⟩ := hx; cases h1
  obtain ⟨h0, hlt, hget⟩ := idx_some hel
  obtain ⟨hfit, ad, m, cap, hb, hlo, hv⟩ := h2 fr e xs hl
  have hcl : (cut xs lo (lo + len)).length = len := by simp [cut]; omega
  rw [hcl] at hlt
  obtain ⟨gb, q, cap', hv', hc⟩ := own_block (g.ents n _ _ hl hb) (by omega)
  cases hv'
  have hne : ¬ cap = lo := by omega
  rw [if_neg hne] at hv
  simp only [Option.map_some, add_off] at hv
  refine pure_sound (av := .one (.oe n (lo + j.toNat) 0)) (run_indexAddr hL he ho hv hy h0 hlt) g (av_one (a := .oe n (lo + j.toNat) 0) (fun fr' u' xs' hl' => ?_) rfl) hK
  have : look n s.ents = some (.arr fr' u' xs') := hl'
  rw [hl] at this; cases this
  exact ⟨by omega, gb, q, xs.length, cap, hb, by simp [Nat.add_mul, Nat.add_assoc]⟩
end
end Go.Di
