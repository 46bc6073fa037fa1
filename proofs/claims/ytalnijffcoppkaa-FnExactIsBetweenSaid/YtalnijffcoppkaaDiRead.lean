/-
  Own work. The arguments of a given statement, read as typed data.
-/
import Derived.Test.YtalnijffcoppkaaDiCheck
import Derived.ChangeShapes
open Go.RowKit (Below)
namespace Go.Di

/-! ### What a reading says of the data: the integers fit, nothing is too long -/
def intsWf (xs : List Int) : Prop := xs.length ≤ maxLen ∧ ∀ n ∈ xs, (Lit.int .i64 n).wf = true
def Rt.wf (r : Rt) : Prop := intsWf r.mag ∧ intsWf r.den
def ST.wf : (t : ST) → t.El → Prop
  | .int, n => (Lit.int .i64 n).wf = true
  | .byte, n => (Lit.int .u8 n).wf = true
  | .str, s => s.size ≤ maxLen
  | .rat, r => r.wf
  | .sta, s => s.name.size ≤ maxLen ∧ s.x.wf ∧ s.y.wf
  | .obs, o => ((Lit.int .i64 o.kind).wf = true ∧ (Lit.int .i64 o.frm).wf = true ∧ (Lit.int .i64 o.to).wf = true) ∧ o.value.wf ∧ o.variance.wf
  | .rats, l => (show List Rt from l).length ≤ maxLen ∧ ∀ r ∈ (show List Rt from l), Rt.wf r
def CK.wf : (c : CK) → c.ty → Prop
  | .int k, n => (Lit.int k n).wf = true
  | .bool, _ => True
  | .str, s => s.size ≤ maxLen
  | .sl t, xs => (show List t.El from xs).length ≤ maxLen ∧ ∀ x ∈ (show List t.El from xs), t.wf x
def Tys.wf : (cs : List CK) → Tys cs → Prop
  | [], _ => True
  | c :: cs, x => c.wf x.1 ∧ Tys.wf cs x.2

theorem ST.wf_mk (t : ST) (x : Tys t.kinds) (h : Tys.wf t.kinds x) : t.wf (t.mk x) := by
  cases t with
  | int => exact h.1
  | byte => exact h.1
  | str => exact h.1
  | rat => exact ⟨h.2.1, h.2.2.1⟩
  | sta => exact ⟨h.1, ⟨h.2.2.1, h.2.2.2.1⟩, h.2.2.2.2.2.1, h.2.2.2.2.2.2.1⟩
  | obs => exact ⟨⟨h.1, h.2.1, h.2.2.1⟩, ⟨h.2.2.2.2.1, h.2.2.2.2.2.1⟩, h.2.2.2.2.2.2.2.1, h.2.2.2.2.2.2.2.2.1⟩
  | rats => exact h.1
theorem ST.cells_mk (t : ST) (x : Tys t.kinds) : t.cells (t.mk x) = Tys.cells t.kinds x := by cases t <;> rfl

theorem Tys.wf_app : ∀ {cs ds : List CK} {x : Tys cs} {y : Tys ds}, Tys.wf cs x → Tys.wf ds y → Tys.wf (cs ++ ds) (Tys.app cs ds x y)
  | [], _, _, _, _, h => h
  | _ :: cs, ds, x, y, h, k => ⟨h.1, Tys.wf_app (cs := cs) h.2 k⟩
theorem Tys.cells_app : ∀ (cs ds : List CK) (x : Tys cs) (y : Tys ds), Tys.cells (cs ++ ds) (Tys.app cs ds x y) = Tys.cells cs x ++ Tys.cells ds y
  | [], _, _, _ => rfl
  | c :: cs, ds, x, y => congrArg (c.cell x.1 :: ·) (Tys.cells_app cs ds x.2 y)
theorem dataL_append : ∀ (a b : List Cell), dataL (a ++ b) = dataL a ++ dataL b
  | [], _ => rfl
  | c :: a, b => congrArg (A1.d c :: ·) (dataL_append a b)
theorem dataL_at : ∀ (l : List Cell) (j : Nat), (dataL l)[j]? = (l[j]?).map A1.d
  | [], j => by simp [dataL]
  | c :: l, 0 => by simp [dataL]
  | c :: l, j + 1 => by simpa [dataL] using dataL_at l j

/-! ### Kinds of a type -/
def ckEqb : CK → CK → Bool
  | .int k, .int k' => kindEqb k k'
  | .bool, .bool => true
  | .str, .str => true
  | .sl t, .sl u => ST.eqb t u
  | _, _ => false
def ksEqb : List CK → List CK → Bool
  | [], [] => true
  | c :: cs, d :: ds => match ckEqb c d with
    | true => ksEqb cs ds
    | false => false
  | _, _ => false
theorem ckEqb_eq {c d : CK} (h : ckEqb c d = true) : c = d := by
  cases c <;> cases d <;> first | rfl | (cases h; done) | skip
  · rw [kindEqb_eq h]
  · rename_i t u
    cases t <;> cases u <;> first | rfl | (cases h; done)
theorem ksEqb_eq : ∀ {cs ds : List CK}, ksEqb cs ds = true → cs = ds
  | [], [], _ => rfl
  | c :: cs, d :: ds, h => by
    unfold ksEqb at h
    split at h
    · rename_i h1; rw [ckEqb_eq h1, ksEqb_eq h]
    · cases h
  | [], _ :: _, h => by cases h
  | _ :: _, [], h => by cases h

def stIn (ks : List CK) : List ST → Option ST
  | [] => none
  | t :: r => match ksEqb t.kinds ks with
    | true => some t
    | false => stIn ks r
def stOf (ks : List CK) : Option ST := stIn ks [.int, .byte, .str, .rat, .sta, .obs, .rats]
theorem stIn_ok {ks : List CK} {t : ST} : ∀ {l : List ST}, stIn ks l = some t → t.kinds = ks
  | [], h => by cases h
  | u :: r, h => by
    unfold stIn at h
    split at h
    · rename_i h1; cases h; exact ksEqb_eq h1
    · exact stIn_ok h
theorem stOf_ok {ks : List CK} {t : ST} (h : stOf ks = some t) : t.kinds = ks := stIn_ok h

def fieldsK (P : Program) (f : TypeId → Option (List CK)) : Nat → Nat → List Field → Option (List CK)
  | off, total, [] => match Nat.beq off total with
    | true => some []
    | false => none
  | off, total, d :: fs => match Nat.beq d.offset off, f d.type with
    | true, some ks => match Nat.beq ks.length (P.cellsOf d.type), fieldsK P f (off + ks.length) total fs with
      | true, some r => some (ks ++ r)
      | _, _ => none
    | _, _ => none
def tyK (P : Program) : Nat → TypeId → Option (List CK)
  | 0, _ => none
  | n + 1, t => match P.underlying t with
    | some .bool => some [.bool]
    | some (.int k) => some [.int k]
    | some .string => some [.str]
    | some (.slice e) => match tyK P n e with
      | some ks => match stOf ks with
        | some st => match Nat.beq (P.cellsOf e) st.size with
          | true => some [.sl st]
          | false => none
        | none => none
      | none => none
    | some (.struct fs) => fieldsK P (tyK P n) 0 (P.cellsOf t) fs.toList
    | _ => none

section
variable {H : Type} {enc : TypeId × Value → H} {P : Program} {w : World} {base : Nat} {spare : Nat → Bool} {held : Bool}

def allOld (w : World) : Cx := argCx w fun _ => True
theorem fine_all {fp : List Nat} (h : ∀ b ∈ fp, b < w.heap.size) : (allOld w).fine fp :=
  fun b hb => ⟨h b hb, (by rintro ⟨n, e, v, h1, _⟩; cases h1), trivial⟩

theorem flat_split {t : ST} {xs : List t.El} {k : Nat} {c : Cell} (h : (flat t xs)[k]? = some c) : ∃ i j x, k = i * t.size + j ∧ j < t.size ∧ i < xs.length ∧ xs[i]? = some x ∧ (t.cells x)[j]? = some c := by
  have hp := size_pos t
  have hlt : k < xs.length * t.size := by rw [← length_flat]; exact (List.getElem?_eq_some_iff.1 h).1
  have hi : k / t.size < xs.length := Nat.div_lt_of_lt_mul (by rw [Nat.mul_comm]; exact hlt)
  have hk : k = k / t.size * t.size + k % t.size := by rw [Nat.mul_comm]; exact (Nat.div_add_mod k t.size).symm
  have hj := Nat.mod_lt k hp
  refine ⟨k / t.size, k % t.size, xs[k / t.size], hk, hj, hi, by simp [hi], ?_⟩
  rw [← flat_get t xs (k / t.size) _ (k % t.size) (by simp [hi]) hj, ← hk]
  exact h

theorem cells_get {a : Addr} {n : Nat} {cs : List Value} (h : w.cells? base a n = some cs) : cs.length = n ∧ ∀ j, j < n → w.cell? (a.add j) = cs[j]? := by
  unfold World.cells? at h
  split at h
  · have hl := mapM_some_length h
    refine ⟨by simpa using hl, fun j hj => ?_⟩
    have := mapM_some_get h j j (by simp [hj])
    simpa using this
  · cases h

theorem addr_add {a : Addr} (h : a.spot = none) (n : Nat) : a.add n = ⟨a.block, a.off + n, none⟩ := by
  unfold Addr.add
  split
  · subst_vars; cases a; simp_all
  · rfl

theorem cell_spot {a : Addr} {v : Value} (h : w.cell? a = some v) : a.spot = none ∧ a.block < w.heap.size := by
  unfold World.cell? at h
  split at h
  · rename_i c T fr hc
    split at h
    · cases h
    · rename_i hs
      refine ⟨by cases hx : a.spot <;> simp_all, (Array.getElem?_eq_some_iff.1 hc).1⟩
  · cases h

theorem fieldsK_ok {n m : Nat} {cs : List Value} {total : Nat} (hlen : cs.length = total) (ih : ∀ (t : TypeId) (cs : List Value) (x : DataW H × List MemPlace) (ks : List CK), DataW.trod enc P w base spare held m t cs = some x → tyK P n t = some ks → ∃ y : Tys ks, L1Ok (allOld w) (dataL (Tys.cells ks y)) cs ∧ Tys.wf ks y) :
    ∀ (fs : List Field) (off : Nat) (ks : List CK), fieldsK P (tyK P n) off total fs = some ks → (∀ (i : Nat) (f : Field), fs[i]? = some f → ∃ x, DataW.trod enc P w base spare held m f.type ((cs.drop f.offset).take (P.cellsOf f.type)) = some x) →
      ∃ y : Tys ks, L1Ok (allOld w) (dataL (Tys.cells ks y)) (cs.drop off) ∧ Tys.wf ks y
  | [], off, ks, h, _ => by
    unfold fieldsK at h
    split at h
    · rename_i hb
      cases h
      have : off = total := Nat.eq_of_beq_eq_true hb
      refine ⟨(), ?_, trivial⟩
      rw [List.drop_of_length_le (by omega)]; trivial
    · cases h
  | d :: fs, off, ks, h, hx => by
    unfold fieldsK at h
    split at h
    · rename_i ks1 hb hk
      split at h
      · rename_i r hl hr
        cases h
        have ho : d.offset = off := Nat.eq_of_beq_eq_true hb
        have hn : ks1.length = P.cellsOf d.type := Nat.eq_of_beq_eq_true hl
        obtain ⟨x, hx0⟩ := hx 0 d rfl
        obtain ⟨y, q1, q2⟩ := ih d.type _ x ks1 hx0 hk
        obtain ⟨z, q3, q4⟩ := fieldsK_ok hlen ih fs (off + ks1.length) r hr (fun i f hf => hx (i + 1) f (by simpa using hf))
        refine ⟨Tys.app ks1 r y z, ?_, Tys.wf_app q2 q4⟩
        rw [Tys.cells_app, dataL_append]
        have e : cs.drop off = (cs.drop d.offset).take (P.cellsOf d.type) ++ cs.drop (off + ks1.length) := by
          rw [ho, hn, ← List.drop_drop, List.take_append_drop]
        rw [e]
        exact q1.append q3
      · cases h
    · cases h

/-- A reading of this type is a typed datum. -/
theorem tyK_ok : ∀ (n : Nat) (t : TypeId) (m : Nat) (cs : List Value) (x : DataW H × List MemPlace) (ks : List CK), DataW.trod enc P w base spare held m t cs = some x → tyK P n t = some ks →
    ∃ y : Tys ks, L1Ok (allOld w) (dataL (Tys.cells ks y)) cs ∧ Tys.wf ks y
  | 0, t, m, cs, x, ks, h, hk => by cases hk
  | n + 1, t, m, cs, x, ks, h, hk => by
    unfold tyK at hk
    split at hk
    · rename_i ht
      cases hk
      obtain ⟨b, rfl, _⟩ := DataW.trod_bool ht h
      exact ⟨(b, ()), ⟨⟨[], .bool b, fine_all (by intro b hb; cases hb)⟩, rfl, trivial⟩, trivial, trivial⟩
    · rename_i k ht
      cases hk
      obtain ⟨m, rfl, _, hw⟩ := DataW.trod_int ht h
      exact ⟨(m, ()), ⟨⟨[], .int k m, fine_all (by intro b hb; cases hb)⟩, rfl, trivial⟩, hw, trivial⟩
    · rename_i ht
      cases hk
      obtain ⟨s, rfl, _, hw⟩ := DataW.trod_string ht h
      exact ⟨(s, ()), ⟨⟨[], .str s, fine_all (by intro b hb; cases hb)⟩, rfl, trivial⟩, hw, trivial⟩
    · rename_i e ht
      split at hk
      · rename_i ks1 hk1
        split at hk
        · rename_i st hst
          split at hk
          · rename_i hsz
            cases hk
            have hks := stOf_ok hst
            subst hks
            have hsz := Nat.eq_of_beq_eq_true hsz
            rcases DataW.trod_slice ht h with ⟨rfl, _⟩ | ⟨a, len, cap, elems, rest, m', hm, rfl, _, hb, hl, hc, hlen, hel, _, _⟩
            · exact ⟨(([] : List st.El), ()), ⟨⟨[], .emp none st 0, fine_all (by intro b hb; cases hb)⟩, rfl, trivial⟩, ⟨Nat.zero_le _, by intro x hx; cases hx⟩, trivial⟩
            · cases hm
              have each : ∀ i, ∃ y : st.El, i < len → ∃ ci, w.cells? base (a.add (i * P.cellsOf e)) (P.cellsOf e) = some ci ∧ L1Ok (allOld w) (dataL (st.cells y)) ci ∧ st.wf y := by
                intro i
                by_cases hi : i < len
                · have h1 := hel i hi
                  have h2 : elems[i]? = some (elems[i]'(by omega)) := by simp
                  rw [h2, Option.bind_eq_some_iff] at h1
                  obtain ⟨ci, h3, h4⟩ := h1
                  obtain ⟨y, q1, q2⟩ := tyK_ok n e _ ci _ _ h4 hk1
                  exact ⟨st.mk y, fun _ => ⟨ci, h3, by rw [ST.cells_mk]; exact q1, ST.wf_mk st y q2⟩⟩
                · have : Nonempty st.El := by cases st <;> first | exact ⟨(0 : Int)⟩ | exact ⟨ByteArray.empty⟩ | exact ⟨(⟨false, [], []⟩ : Rt)⟩ | exact ⟨(⟨ByteArray.empty, ⟨false, [], []⟩, ⟨false, [], []⟩, false⟩ : Sta)⟩ | exact ⟨(⟨0, 0, 0, ⟨false, [], []⟩, ⟨false, [], []⟩⟩ : Obs)⟩ | exact ⟨([] : List Rt)⟩
                  exact ⟨Classical.choice this, fun h => absurd h hi⟩
              let f : Nat → st.El := fun i => Classical.choose (each i)
              have hf : ∀ i, i < len → ∃ ci, w.cells? base (a.add (i * P.cellsOf e)) (P.cellsOf e) = some ci ∧ L1Ok (allOld w) (dataL (st.cells (f i))) ci ∧ st.wf (f i) := fun i => Classical.choose_spec (each i)
              let xs : List st.El := (List.range len).map f
              have hxl : xs.length = len := by simp [xs]
              have hxi : ∀ i x, xs[i]? = some x → i < len ∧ x = f i := by
                intro i x hx
                have hi : i < len := by rw [← hxl]; exact (List.getElem?_eq_some_iff.1 hx).1
                simp [xs, hi] at hx
                exact ⟨hi, hx.symm⟩
              have hwf : CK.wf (.sl st) xs := ⟨by show xs.length ≤ maxLen; omega, fun x hx => by
                obtain ⟨i, hi⟩ := List.getElem?_of_mem hx
                obtain ⟨h1, rfl⟩ := hxi i x hi
                obtain ⟨_, _, _, h2⟩ := hf i h1; exact h2⟩
              refine ⟨(xs, ()), ⟨?_, rfl, trivial⟩, hwf, trivial⟩
              by_cases hz : len = 0
              · subst hz
                have : xs = [] := rfl
                rw [this]
                exact ⟨[], .emp (some a) st cap, fine_all (by intro b hb; cases hb)⟩
              · have hpos := size_pos st
                have hcell : ∀ i j, i < len → j < st.size → ∃ v c, w.cell? ((a.add (i * st.size)).add j) = some v ∧ (st.cells (f i))[j]? = some c ∧ (allOld w).rd v c := by
                  intro i j hi hj
                  obtain ⟨ci, h1, h2, _⟩ := hf i hi
                  obtain ⟨h3, h4⟩ := cells_get h1
                  rw [hsz] at h3 h4
                  have hcj : j < (st.cells (f i)).length := by rw [length_cells]; exact hj
                  have h5 : (dataL (st.cells (f i)))[j]? = some (.d ((st.cells (f i))[j])) := by rw [dataL_at]; simp [hcj]
                  obtain ⟨v, h6, h7, _⟩ := h2.get h5
                  exact ⟨v, _, by rw [← hsz] at h4 ⊢; rw [h4 j (by omega)]; exact h6, by simp [hcj], h7⟩
                obtain ⟨v0, _, h0, _⟩ := hcell 0 0 (by omega) hpos
                have hsp : a.spot = none ∧ a.block < w.heap.size := by
                  have : (a.add (0 * st.size)).add 0 = a := by simp [Addr.add]
                  rw [this] at h0; exact cell_spot h0
                have hcell' : ∀ k c, (flat st xs)[k]? = some c → ∃ v, w.cell? ⟨a.block, a.off + k, none⟩ = some v ∧ (allOld w).rd v c := by
                  intro k c hk
                  obtain ⟨i, j, x, rfl, hj, hi, hx, hc⟩ := flat_split hk
                  obtain ⟨hi', rfl⟩ := hxi i x hx
                  obtain ⟨v, c', q1, q2, q3⟩ := hcell i j hi' hj
                  rw [hc] at q2; cases q2
                  rw [addr_add hsp.1, addr_add rfl, Nat.add_assoc] at q1
                  exact ⟨v, q1, q3⟩
                have hch : ∀ k : Nat, ∃ p : Value × List Nat, ∀ c : Cell, (flat st xs)[k]? = some c → w.cell? ⟨a.block, a.off + k, none⟩ = some p.1 ∧ Rd w p.1 c p.2 ∧ (allOld w).fine p.2 := by
                  intro k
                  cases hk : (flat st xs)[k]? with
                  | none => exact ⟨(undef, []), fun c hc => by cases hc⟩
                  | some c =>
                    obtain ⟨v, h1, fp, h2, h3⟩ := hcell' k c hk
                    exact ⟨(v, fp), fun c' hc' => by cases hc'; exact ⟨h1, h2, h3⟩⟩
                let g : Nat → Value × List Nat := fun k => Classical.choose (hch k)
                have hg : ∀ k c, (flat st xs)[k]? = some c → w.cell? ⟨a.block, a.off + k, none⟩ = some (g k).1 ∧ Rd w (g k).1 c (g k).2 ∧ (allOld w).fine (g k).2 := fun k => Classical.choose_spec (hch k)
                have ha : a = ⟨a.block, a.off, none⟩ := by cases a; simp_all
                refine ⟨a.block :: (List.range (flat st xs).length).flatMap (fun k => (g k).2), ?_, fine_all ?_⟩
                · rw [ha]
                  exact .sl a.block a.off len cap st xs (fun k => (g k).1) (fun k => (g k).2) hxl.symm hl (fun k c hk => (hg k c hk).1) (fun k c hk => (hg k c hk).2.1)
                · intro b hb
                  rcases List.mem_cons.1 hb with rfl | hb
                  · exact hsp.2
                  · obtain ⟨k, hk, hb⟩ := List.mem_flatMap.1 hb
                    have hk' := List.mem_range.1 hk
                    exact ((hg k _ (List.getElem?_eq_getElem hk')).2.2 b hb).1
          · cases hk
        · cases hk
      · cases hk
    · rename_i fs ht
      obtain ⟨xs, m', rfl, _, hl, hxl, hx⟩ := DataW.trod_struct ht h
      have := fieldsK_ok (n := n) (cs := cs) (total := P.cellsOf t) hl (fun t cs x ks => tyK_ok n t m' cs x ks) fs.toList 0 ks hk (fun i f hf => by
        have hf' : fs[i]? = some f := by simpa using hf
        have hi : i < xs.length := by rw [hxl]; exact (Array.getElem?_eq_some_iff.1 hf').1
        exact ⟨xs[i], by rw [hx i f hf']; simp⟩)
      simpa using this
    · cases hk
end
end Go.Di
