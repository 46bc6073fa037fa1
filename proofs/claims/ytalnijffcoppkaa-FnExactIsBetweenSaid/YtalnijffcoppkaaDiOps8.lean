/-
  Own work. Appends and slice literals: the description behind them.
-/
import Derived.Test.YtalnijffcoppkaaDiOps7
open Go.RowKit (Below)
namespace Go.Di

theorem refs_and {p q : Nat → Prop} {a : A1} (h1 : a.refs p) (h2 : a.refs q) : a.refs fun k => p k ∧ q k := by
  cases a <;> first | trivial | exact ⟨h1, h2⟩
theorem refsL_and {p q : Nat → Prop} {l : List A1} (h1 : L1refs p l) (h2 : L1refs q l) : L1refs (fun k => p k ∧ q k) l := fun a ha => refs_and (h1 a ha) (h2 a ha)
theorem refs_av_and {p q : Nat → Prop} {a : AV} (h1 : a.refs p) (h2 : a.refs q) : a.refs fun k => p k ∧ q k := by
  cases a with
  | v g l => exact refsL_and h1 h2
  | tup ps => exact fun x hx => refsL_and (h1 x hx) (h2 x hx)
theorem refs_ent_and {p q : Nat → Prop} {e : Ent} (h1 : e.refs p) (h2 : e.refs q) : e.refs fun k => p k ∧ q k := by
  cases e with
  | box l => exact refsL_and h1 h2
  | arr _ _ _ => trivial

theorem flat_cut {t : ST} {xs : List t.El} {lo hi : Nat} (h1 : lo ≤ hi) (h2 : hi ≤ xs.length) {k : Nat} {c : Cell} (hk : (flat t (cut xs lo hi))[k]? = some c) : (flat t xs)[lo * t.size + k]? = some c := by
  have hcl : (cut xs lo hi).length = hi - lo := by simp [cut]; omega
  have hkl := (List.getElem?_eq_some_iff.1 hk).1
  rw [length_flat, hcl] at hkl
  have hp := size_pos t
  have hd : k = k / t.size * t.size + k % t.size := by rw [Nat.mul_comm]; exact (Nat.div_add_mod k t.size).symm
  have hq : k / t.size < hi - lo := Nat.div_lt_of_lt_mul (by rw [Nat.mul_comm]; exact hkl)
  have hx : (cut xs lo hi)[k / t.size]? = some (xs[lo + k / t.size]'(by omega)) := by
    simp only [cut, List.getElem?_drop, List.getElem?_take_of_lt (show lo + k / t.size < hi from by omega)]
    exact List.getElem?_eq_getElem (by omega)
  have e1 := flat_get t (cut xs lo hi) (k / t.size) _ (k % t.size) hx (Nat.mod_lt _ hp)
  have e2 := flat_get t xs (lo + k / t.size) _ (k % t.size) (List.getElem?_eq_getElem (by omega)) (Nat.mod_lt _ hp)
  rw [← hd] at e1
  rw [Nat.add_mul, Nat.add_assoc, ← hd] at e2
  rw [e2, ← e1]; exact hk

theorem News.mk {x : Cx} {t : ST} {ys : List t.El} {b q cap : Nat} (h : ∀ (j : Nat) (c : Cell), (flat t ys)[j]? = some c → ∃ u, x.w.cell? ⟨b, q + j, none⟩ = some u ∧ x.rd u c) :
    ∃ news, News x.w (.slice (some ⟨b, q, none⟩) ys.length cap) ys.length t.size news ∧ ∀ (j : Nat) (c : Cell), (flat t ys)[j]? = some c → ∃ u, news[j]? = some u ∧ x.rd u c := by
  have hex : ∀ j, j < (flat t ys).length → ∃ v, x.w.cell? ⟨b, q + j, none⟩ = some v ∧ ∀ c, (flat t ys)[j]? = some c → x.rd v c := by
    intro j hj
    obtain ⟨u, h1, h2⟩ := h j _ (List.getElem?_eq_getElem hj)
    exact ⟨u, h1, fun c hc => by rw [List.getElem?_eq_getElem hj] at hc; cases hc; exact h2⟩
  obtain ⟨vs, hl, hv⟩ := exists_list hex
  refine ⟨vs, ⟨by rw [hl, length_flat], fun u hu => ?_, .inr ⟨b, q, cap, rfl, fun j u hj => (hv j u hj).1⟩⟩, fun j c hc => ?_⟩
  · obtain ⟨j, hj, rfl⟩ := List.getElem_of_mem hu
    have hjl : j < (flat t ys).length := by omega
    obtain ⟨fp, hr, _⟩ := (hv j _ (List.getElem?_eq_getElem hj)).2 _ (List.getElem?_eq_getElem hjl)
    exact hr.oneCell1
  · have hj := (List.getElem?_eq_some_iff.1 hc).1
    have hj' : j < vs.length := by omega
    exact ⟨vs[j], List.getElem?_eq_getElem hj', (hv j _ (List.getElem?_eq_getElem hj')).2 c hc⟩

theorem News.none {x : Cx} {t : ST} {ad : Option Addr} {cap : Nat} :
    ∃ news, News x.w (.slice ad 0 cap) ([] : List t.El).length t.size news ∧ ∀ (j : Nat) (c : Cell), (flat t ([] : List t.El))[j]? = some c → ∃ u, news[j]? = some u ∧ x.rd u c :=
  ⟨[], ⟨by simp, (fun u hu => by cases hu), .inl ⟨rfl, ad, cap, rfl⟩⟩, fun j c hc => by simp [flat] at hc⟩

theorem elems_arr {x : Cx} {fr : Bool} {t : ST} {xs : List t.El} {v : Value} (h : EntOk x (.arr fr t xs) v) :
    ∃ news, News x.w v xs.length t.size news ∧ ∀ (j : Nat) (c : Cell), (flat t xs)[j]? = some c → ∃ u, news[j]? = some u ∧ x.rd u c := by
  by_cases hne : 0 < xs.length
  · obtain ⟨g, q, cap, rfl, hc⟩ := own_block h hne
    exact News.mk (elem_cells h rfl)
  · have : xs = [] := List.eq_nil_of_length_eq_zero (by omega)
    subst this
    obtain ⟨ad, cap, rfl, _⟩ := arr_len h
    exact News.none

theorem elems_cut {x : Cx} {fr : Bool} {t : ST} {xs : List t.El} {ad : Option Addr} {m cap : Nat} (h : EntOk x (.arr fr t xs) (.slice ad m cap)) {lo len : Nat} (hfit : lo + len ≤ xs.length) :
    ∃ news, News x.w (.slice (if cap = lo then ad else ad.map (·.add (lo * t.size))) len (cap - lo)) (cut xs lo (lo + len)).length t.size news ∧
      ∀ (j : Nat) (c : Cell), (flat t (cut xs lo (lo + len)))[j]? = some c → ∃ u, news[j]? = some u ∧ x.rd u c := by
  have hcl : (cut xs lo (lo + len)).length = len := by simp [cut]; omega
  by_cases hne : 0 < len
  · obtain ⟨g, q, cap', hv, hc⟩ := own_block h (by omega)
    cases hv
    rw [if_neg (by omega)]
    simp only [Option.map_some, add_off]
    have := News.mk (x := x) (t := t) (ys := cut xs lo (lo + len)) (b := g) (q := q + lo * t.size) (cap := cap - lo) fun j c hj => by
      obtain ⟨u, h1, h2⟩ := elem_cells h rfl _ c (flat_cut (by omega) (by omega) hj)
      exact ⟨u, by rw [Nat.add_assoc]; exact h1, h2⟩
    rw [hcl] at this ⊢; exact this
  · have h0 : len = 0 := by omega
    subst h0
    have : cut xs lo (lo + 0) = [] := List.eq_nil_of_length_eq_zero hcl
    rw [this]; exact News.none

theorem cast_eq {u t : ST} {xs : List u.El} {ys : List t.El} (h : ST.cast u t xs = some ys) : ∃ e : u = t, e ▸ xs = ys := by
  cases u <;> cases t <;> first | (simp only [ST.cast, Option.some.injEq] at h; exact ⟨rfl, h⟩) | (simp [ST.cast] at h)

theorem get_cell : ∀ {c : CK} {x : Cell} {y : c.ty}, c.get x = some y → x = c.cell y
  | .int k, .int k' n, y, h => by
    have h' : (match kindEqb k k' with | true => some n | false => none) = some y := h
    cases hk : kindEqb k k' with
    | true => rw [hk] at h'; cases h'; rw [kindEqb_eq hk]; rfl
    | false => rw [hk] at h'; cases h'
  | .bool, .bool b, y, h => by have h' : some b = some y := h; cases h'; rfl
  | .str, .str s, y, h => by have h' : some s = some y := h; cases h'; rfl
  | .sl t, .sl u xs, y, h => by
    have h' : ST.cast u t xs = some y := h
    obtain ⟨rfl, rfl⟩ := cast_eq h'; rfl
  | .int _, .bool _, _, h | .int _, .str _, _, h | .int _, .sl _ _, _, h => by cases h
  | .bool, .int _ _, _, h | .bool, .str _, _, h | .bool, .sl _ _, _, h => by cases h
  | .str, .int _ _, _, h | .str, .bool _, _, h | .str, .sl _ _, _, h => by cases h
  | .sl _, .int _ _, _, h | .sl _, .bool _, _, h | .sl _, .str _, _, h => by cases h

/-- An own array, as the list that it is asked for. -/
theorem as_own {es : List (Nat × Ent)} {n : Nat} {e : ST} {ys : List e.El} (h : A1.as es (.sl e) (.own n) = some ys) : ∃ fr, look n es = some (.arr fr e ys) := by
  have h' : (match look n es with | some (.arr _ u xs) => ST.cast u e xs | _ => none) = some ys := h
  cases hl : look n es with
  | none => rw [hl] at h'; cases h'
  | some f =>
    cases f with
    | box l => rw [hl] at h'; cases h'
    | arr fr u xs => rw [hl] at h'; obtain ⟨rfl, rfl⟩ := cast_eq h'; exact ⟨fr, rfl⟩
theorem as_win {es : List (Nat × Ent)} {n lo len : Nat} {e : ST} {ys : List e.El} (h : A1.as es (.sl e) (.win n lo len) = some ys) : ∃ fr xs, look n es = some (.arr fr e xs) ∧ ys = cut xs lo (lo + len) := by
  have h' : (match look n es with | some (.arr _ u xs) => ST.cast u e (cut xs lo (lo + len)) | _ => none) = some ys := h
  cases hl : look n es with
  | none => rw [hl] at h'; cases h'
  | some f =>
    cases f with
    | box l => rw [hl] at h'; cases h'
    | arr fr u xs => rw [hl] at h'; obtain ⟨rfl, rfl⟩ := cast_eq h'; exact ⟨fr, xs, rfl, rfl⟩

section
variable {P : Program} {C : Bs} {w w' : World} {s s' : St} {X : Nat → Prop} {β β' : Nat → Option Value} {a : Act} {o : Oper} {tm : Array Value}
  {t : TypeId} {x y : Operand} {i : TI} {K : Act → World → Prop} {Q : Exit → Act → World → Prop}

/-- The elements that a value stands for. -/
theorem elems_as (g : Gam C s X β tm w) {b : A1} {e : ST} {ys : List e.El} {v : Value} (hb : A1Ok (cx C s β w) b v) (h : asList s.ents e b = some ys) :
    ∃ news, News w v ys.length e.size news ∧ ∀ (j : Nat) (c : Cell), (flat e ys)[j]? = some c → ∃ u, news[j]? = some u ∧ (cx C s β w).rd u c := by
  unfold asList at h
  cases b with
  | bot => simp [A1.as] at h
  | lp _ _ => simp [A1.as] at h
  | sp _ _ => simp [A1.as] at h
  | oe _ _ _ => simp [A1.as] at h
  | d c =>
    have hc := get_cell (c := .sl e) (y := ys) h
    subst hc
    exact elems_arr (fr := true) hb
  | mt =>
    obtain ⟨ad, rfl⟩ := hb
    have h' : some ([] : List e.El) = some ys := h
    cases h'
    exact News.none (x := cx C s β w) (t := e)
  | own n =>
    obtain ⟨fr, hl⟩ := as_own h
    exact elems_arr (g.ents n _ _ hl (hb (by simp [cx, hl])))
  | win n lo len =>
    obtain ⟨fr, xs, hl, rfl⟩ := as_win h
    obtain ⟨hfit, ad, m, cap, hβ, hlo, rfl⟩ := hb fr e xs hl
    exact elems_cut (g.ents n _ _ hl hβ) hfit

/-- An own array goes, another entry comes in its place or in new memory. -/
theorem Gam.swap (g : Gam C s X β tm w) {n m : Nat} {e e' : Ent} {v v' : Value} (hl : look n s.ents = some e) (hm : e.mut = true) (hv : β n = some v)
    (hw : ∀ b, b < w.heap.size → b ∉ topOf v → w'.heap[b]? = w.heap[b]?) (hsz : w.heap.size ≤ w'.heap.size) (hbel : Below C.b0 w w') (htop : ∀ b ∈ topOf v', b ∈ topOf v ∨ (w.heap.size ≤ b ∧ b < w'.heap.size))
    (he : Le (cx C s β w) (cx C ((s.free n).push m e') (upd β m v') w') (fun k => k ≠ n ∧ k ≠ m) → EntOk (cx C ((s.free n).push m e') (upd β m v') w') e' v') :
    Gam C ((s.free n).push m e') X (upd β m v') tm w' := by
  have hlook : ∀ k, look k ((s.free n).push m e').ents = if k = m then some e' else if k = n then none else ((look k s.ents).map (Ent.kill n)).map (Ent.kill m) := by
    intro k
    simp only [St.push, St.pushL, Go.Di.putL, look_put, St.freeL, look_free]
    split
    · rfl
    · split <;> rfl
  have old : ∀ k f, k ≠ m → look k ((s.free n).push m e').ents = some f → k ≠ n ∧ ∃ f0, look k s.ents = some f0 ∧ f = (f0.kill n).kill m := by
    intro k f hk h
    rw [hlook, if_neg hk] at h
    split at h
    · cases h
    · rename_i hkn
      cases h0 : look k s.ents with
      | none => simp [h0] at h
      | some f0 => simp [h0] at h; exact ⟨hkn, f0, rfl, h.symm⟩
  have mutk : ∀ f0 : Ent, ((f0.kill n).kill m).mut = f0.mut := fun f0 => by rw [ent_kill_mut, ent_kill_mut]
  have htopB : ∀ b, Top (fun k => look k ((s.free n).push m e').ents) (upd β m v') b → (b ∈ topOf v') ∨ Top (fun k => look k s.ents) β b := by
    rintro b ⟨k, f, u, h1, h2, h3, h4⟩
    by_cases hk : k = m
    · subst hk; rw [upd_same] at h3; cases h3; exact .inl h4
    · obtain ⟨hkn, f0, q1, rfl⟩ := old k f hk h1
      rw [upd_other β v' hk] at h3
      exact .inr ⟨k, f0, u, q1, by rwa [mutk] at h2, h3, h4⟩
  have hTv : ∀ b ∈ topOf v, Top (fun k => look k s.ents) β b := fun b hb => ⟨n, e, v, hl, hm, hv, hb⟩
  have hle : Le (cx C s β w) (cx C ((s.free n).push m e') (upd β m v') w') (fun k => k ≠ n ∧ k ≠ m) := by
    refine ⟨fun _ h => h, fun b hlt hnt => hw b hlt fun hb => hnt (hTv b hb), hsz, fun b hlt ht => ?_, fun k hk => ?_⟩
    · rcases htopB b ht with h | h
      · rcases htop b h with h | h
        · exact hTv b h
        · simp only [cx] at hlt; omega
      · exact h
    · simp only [cx, hlook, if_neg hk.1, if_neg hk.2, upd_other β v' hk.2]
      cases h0 : look k s.ents with
      | none => left; simp
      | some f =>
        right; refine ⟨trivial, ?_⟩
        cases f with
        | box l => right; left; exact ⟨l, killL m (killL n l), by simp, by simp [Ent.kill]⟩
        | arr fr t xs => left; simp [Ent.kill]
  refine ⟨by simp [St.push, St.pushL, St.freeL, St.free, length_killE, g.len], fun t av hx h => ?_, fun k f u h1 h2 => ?_, ?_, fun b h => ?_, Nat.le_trans g.b0 hsz, g.below.trans hbel⟩
  · simp only [St.push, St.pushL, St.freeL, St.free, get_killE] at h
    cases h0 : s.env[t]? with
    | none => simp [h0] at h
    | some a0 =>
      simp [h0] at h; subst h
      exact hle.av (refs_av_and (refs_av_kill m (kill_av_refs n a0)) (kill_av_refs m _)) (((g.env t a0 hx h0).kill n).kill m)
  · by_cases hk : k = m
    · subst hk; rw [hlook, if_pos rfl] at h1; cases h1; rw [upd_same] at h2; cases h2; exact he hle
    · obtain ⟨hkn, f0, q1, rfl⟩ := old k f hk h1
      rw [upd_other β v' hk] at h2
      refine EntOk.le hle (refs_ent_and (refs_ent_kill m (ent_kill_refs n f0)) (ent_kill_refs m _)) (fun b hb hfm => hw b (g.fresh b ⟨k, f0, u, q1, by rwa [mutk] at hfm, h2, hb⟩).2 fun hb' => ?_) (((g.ents k f0 u q1 h2).kill n).kill m)
      exact hkn (g.uniq k n f0 e u v b q1 hl (by rwa [mutk] at hfm) hm h2 hv hb hb')
  · intro k1 k2 f1 f2 u1 u2 b h1 h2 h3 h4 h5 h6 h7 h8
    have one : ∀ k f u, k ≠ m → look k ((s.free n).push m e').ents = some f → f.mut = true → upd β m v' k = some u → b ∈ topOf u → b ∈ topOf v' → False := by
      intro k f u hk q1 q2 q3 q4 q5
      obtain ⟨hkn, f0, q6, rfl⟩ := old k f hk q1
      rw [upd_other β v' hk] at q3
      rcases htop b q5 with h | h
      · exact hkn (g.uniq k n f0 e u v b q6 hl (by rwa [mutk] at q2) hm q3 hv q4 h)
      · have := (g.fresh b ⟨k, f0, u, q6, by rwa [mutk] at q2, q3, q4⟩).2
        omega
    by_cases hk1 : k1 = m <;> by_cases hk2 : k2 = m
    · rw [hk1, hk2]
    · subst hk1; rw [upd_same] at h5; cases h5; exact (one k2 f2 u2 hk2 h2 h4 h6 h8 h7).elim
    · subst hk2; rw [upd_same] at h6; cases h6; exact (one k1 f1 u1 hk1 h1 h3 h5 h7 h8).elim
    · obtain ⟨_, e1, q1, rfl⟩ := old k1 f1 hk1 h1
      obtain ⟨_, e2, q2, rfl⟩ := old k2 f2 hk2 h2
      rw [upd_other β v' hk1] at h5; rw [upd_other β v' hk2] at h6
      exact g.uniq k1 k2 e1 e2 u1 u2 b q1 q2 (by rwa [mutk] at h3) (by rwa [mutk] at h4) h5 h6 h7 h8
  · rcases htopB b h with h | h
    · rcases htop b h with h | h
      · exact ⟨(g.fresh b (hTv b h)).1, Nat.lt_of_lt_of_le (g.fresh b (hTv b h)).2 hsz⟩
      · exact ⟨Nat.le_trans g.b0 h.1, h.2⟩
    · exact ⟨(g.fresh b h).1, Nat.lt_of_lt_of_le (g.fresh b h).2 hsz⟩
end
end Go.Di
