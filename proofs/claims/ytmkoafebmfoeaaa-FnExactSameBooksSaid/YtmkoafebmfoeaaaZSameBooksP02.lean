/-
  Own work: part 3 of the texts that the proof of the given statement leans on.
-/
import Derived.ChangeShapes
import Derived.ChangeSame
import Derived.WideShapes
import Derived.WideKeyArgs
import Derived.OpenShut
import Derived.RowKit
import Derived.Test.YtmkoafebmfoeaaaZSameBooksP01
/-
  Own work. The arguments of a given statement, read as typed data.
-/
open Go.RowKit (Below)
namespace Go.Di

/-! ### What a reading says of the data: the integers fit, nothing is too long -/
def intsWf (xs : List Int) : Prop := xs.length ≤ maxLen ∧ ∀ n ∈ xs, (Lit.int .i64 n).wf = true
def Rt.wf (r : Rt) : Prop := intsWf r.mag ∧ intsWf r.den
def ST.wf : (t : ST) → t.El → Prop
  | .int, n => (Lit.int .i64 n).wf = true
  | .byte, n => (Lit.int .u8 n).wf = true
  | .str, s => s.size ≤ maxLen
  | .rat, r => r.wf
  | .sta, s => s.name.size ≤ maxLen ∧ s.x.wf ∧ s.y.wf
  | .obs, o => ((Lit.int .i64 o.kind).wf = true ∧ (Lit.int .i64 o.frm).wf = true ∧ (Lit.int .i64 o.to).wf = true) ∧ o.value.wf ∧ o.variance.wf
  | .rats, l => (show List Rt from l).length ≤ maxLen ∧ ∀ r ∈ (show List Rt from l), Rt.wf r
def CK.wf : (c : CK) → c.ty → Prop
  | .int k, n => (Lit.int k n).wf = true
  | .bool, _ => True
  | .str, s => s.size ≤ maxLen
  | .sl t, xs => (show List t.El from xs).length ≤ maxLen ∧ ∀ x ∈ (show List t.El from xs), t.wf x
def Tys.wf : (cs : List CK) → Tys cs → Prop
  | [], _ => True
  | c :: cs, x => c.wf x.1 ∧ Tys.wf cs x.2

theorem ST.wf_mk (t : ST) (x : Tys t.kinds) (h : Tys.wf t.kinds x) : t.wf (t.mk x) := by
  cases t with
  | int => exact h.1
  | byte => exact h.1
  | str => exact h.1
  | rat => exact ⟨h.2.1, h.2.2.1⟩
  | sta => exact ⟨h.1, ⟨h.2.2.1, h.2.2.2.1⟩, h.2.2.2.2.2.1, h.2.2.2.2.2.2.1⟩
  | obs => exact ⟨⟨h.1, h.2.1, h.2.2.1⟩, ⟨h.2.2.2.2.1, h.2.2.2.2.2.1⟩, h.2.2.2.2.2.2.2.1, h.2.2.2.2.2.2.2.2.1⟩
  | rats => exact h.1
theorem ST.cells_mk (t : ST) (x : Tys t.kinds) : t.cells (t.mk x) = Tys.cells t.kinds x := by cases t <;> rfl

theorem Tys.wf_app : ∀ {cs ds : List CK} {x : Tys cs} {y : Tys ds}, Tys.wf cs x → Tys.wf ds y → Tys.wf (cs ++ ds) (Tys.app cs ds x y)
  | [], _, _, _, _, h => h
  | _ :: cs, ds, x, y, h, k => ⟨h.1, Tys.wf_app (cs := cs) h.2 k⟩
theorem Tys.cells_app : ∀ (cs ds : List CK) (x : Tys cs) (y : Tys ds), Tys.cells (cs ++ ds) (Tys.app cs ds x y) = Tys.cells cs x ++ Tys.cells ds y
  | [], _, _, _ => rfl
  | c :: cs, ds, x, y => congrArg (c.cell x.1 :: ·) (Tys.cells_app cs ds x.2 y)
theorem dataL_append : ∀ (a b : List Cell), dataL (a ++ b) = dataL a ++ dataL b
  | [], _ => rfl
  | c :: a, b => congrArg (A1.d c :: ·) (dataL_append a b)
theorem dataL_at : ∀ (l : List Cell) (j : Nat), (dataL l)[j]? = (l[j]?).map A1.d
  | [], j => by simp [dataL]
  | c :: l, 0 => by simp [dataL]
  | c :: l, j + 1 => by simpa [dataL] using dataL_at l j

/-! ### Kinds of a type -/
def ckEqb : CK → CK → Bool
  | .int k, .int k' => kindEqb k k'
  | .bool, .bool => true
  | .str, .str => true
  | .sl t, .sl u => ST.eqb t u
  | _, _ => false
def ksEqb : List CK → List CK → Bool
  | [], [] => true
  | c :: cs, d :: ds => match ckEqb c d with
    | true => ksEqb cs ds
    | false => false
  | _, _ => false
theorem ckEqb_eq {c d : CK} (h : ckEqb c d = true) : c = d := by
  cases c <;> cases d <;> first | rfl | (cases h; done) | skip
  · rw [kindEqb_eq h]
  · rename_i t u
    cases t <;> cases u <;> first | rfl | (cases h; done)
theorem ksEqb_eq : ∀ {cs ds : List CK}, ksEqb cs ds = true → cs = ds
  | [], [], _ => rfl
  | c :: cs, d :: ds, h => by
    unfold ksEqb at h
    split at h
    · rename_i h1; rw [ckEqb_eq h1, ksEqb_eq h]
    · cases h
  | [], _ :: _, h => by cases h
  | _ :: _, [], h => by cases h

def stIn (ks : List CK) : List ST → Option ST
  | [] => none
  | t :: r => match ksEqb t.kinds ks with
    | true => some t
    | false => stIn ks r
def stOf (ks : List CK) : Option ST := stIn ks [.int, .byte, .str, .rat, .sta, .obs, .rats]
theorem stIn_ok {ks : List CK} {t : ST} : ∀ {l : List ST}, stIn ks l = some t → t.kinds = ks
  | [], h => by cases h
  | u :: r, h => by
    unfold stIn at h
    split at h
    · rename_i h1; cases h; exact ksEqb_eq h1
    · exact stIn_ok h
theorem stOf_ok {ks : List CK} {t : ST} (h : stOf ks = some t) : t.kinds = ks := stIn_ok h

def fieldsK (P : Program) (f : TypeId → Option (List CK)) : Nat → Nat → List Field → Option (List CK)
  | off, total, [] => match Nat.beq off total with
    | true => some []
    | false => none
  | off, total, d :: fs => match Nat.beq d.offset off, f d.type with
    | true, some ks => match Nat.beq ks.length (P.cellsOf d.type), fieldsK P f (off + ks.length) total fs with
      | true, some r => some (ks ++ r)
      | _, _ => none
    | _, _ => none
def tyK (P : Program) : Nat → TypeId → Option (List CK)
  | 0, _ => none
  | n + 1, t => match P.underlying t with
    | some .bool => some [.bool]
    | some (.int k) => some [.int k]
    | some .string => some [.str]
    | some (.slice e) => match tyK P n e with
      | some ks => match stOf ks with
        | some st => match Nat.beq (P.cellsOf e) st.size with
          | true => some [.sl st]
          | false => none
        | none => none
      | none => none
    | some (.struct fs) => fieldsK P (tyK P n) 0 (P.cellsOf t) fs.toList
    | _ => none

section
variable {H : Type} {enc : TypeId × Value → H} {P : Program} {w : World} {base : Nat} {spare : Nat → Bool} {held : Bool}

def allOld (w : World) : Cx := argCx w fun _ => True
theorem fine_all {fp : List Nat} (h : ∀ b ∈ fp, b < w.heap.size) : (allOld w).fine fp :=
  fun b hb => ⟨h b hb, (by rintro ⟨n, e, v, h1, _⟩; cases h1), trivial⟩

theorem flat_split {t : ST} {xs : List t.El} {k : Nat} {c : Cell} (h : (flat t xs)[k]? = some c) : ∃ i j x, k = i * t.size + j ∧ j < t.size ∧ i < xs.length ∧ xs[i]? = some x ∧ (t.cells x)[j]? = some c := by
  have hp := size_pos t
  have hlt : k < xs.length * t.size := by rw [← length_flat]; exact (List.getElem?_eq_some_iff.1 h).1
  have hi : k / t.size < xs.length := Nat.div_lt_of_lt_mul (by rw [Nat.mul_comm]; exact hlt)
  have hk : k = k / t.size * t.size + k % t.size := by rw [Nat.mul_comm]; exact (Nat.div_add_mod k t.size).symm
  have hj := Nat.mod_lt k hp
  refine ⟨k / t.size, k % t.size, xs[k / t.size], hk, hj, hi, by simp [hi], ?_⟩
  rw [← flat_get t xs (k / t.size) _ (k % t.size) (by simp [hi]) hj, ← hk]
  exact h

theorem cells_get {a : Addr} {n : Nat} {cs : List Value} (h : w.cells? base a n = some cs) : cs.length = n ∧ ∀ j, j < n → w.cell? (a.add j) = cs[j]? := by
  unfold World.cells? at h
  split at h
  · have hl := mapM_some_length h
    refine ⟨by simpa using hl, fun j hj => ?_⟩
    have := mapM_some_get h j j (by simp [hj])
    simpa using this
  · cases h

theorem addr_add {a : Addr} (h : a.spot = none) (n : Nat) : a.add n = ⟨a.block, a.off + n, none⟩ := by
  unfold Addr.add
  split
  · subst_vars; cases a; simp_all
  · rfl

theorem cell_spot {a : Addr} {v : Value} (h : w.cell? a = some v) : a.spot = none ∧ a.block < w.heap.size := by
  unfold World.cell? at h
  split at h
  · rename_i c T fr hc
    split at h
    · cases h
    · rename_i hs
      refine ⟨by cases hx : a.spot <;> simp_all, (Array.getElem?_eq_some_iff.1 hc).1⟩
  · cases h

theorem fieldsK_ok {n m : Nat} {cs : List Value} {total : Nat} (hlen : cs.length = total) (ih : ∀ (t : TypeId) (cs : List Value) (x : DataW H × List MemPlace) (ks : List CK), DataW.trod enc P w base spare held m t cs = some x → tyK P n t = some ks → ∃ y : Tys ks, L1Ok (allOld w) (dataL (Tys.cells ks y)) cs ∧ Tys.wf ks y) :
    ∀ (fs : List Field) (off : Nat) (ks : List CK), fieldsK P (tyK P n) off total fs = some ks → (∀ (i : Nat) (f : Field), fs[i]? = some f → ∃ x, DataW.trod enc P w base spare held m f.type ((cs.drop f.offset).take (P.cellsOf f.type)) = some x) →
      ∃ y : Tys ks, L1Ok (allOld w) (dataL (Tys.cells ks y)) (cs.drop off) ∧ Tys.wf ks y
  | [], off, ks, h, _ => by
    unfold fieldsK at h
    split at h
    · rename_i hb
      cases h
      have : off = total := Nat.eq_of_beq_eq_true hb
      refine ⟨(), ?_, trivial⟩
      rw [List.drop_of_length_le (by omega)]; trivial
    · cases h
  | d :: fs, off, ks, h, hx => by
    unfold fieldsK at h
    split at h
    · rename_i ks1 hb hk
      split at h
      · rename_i r hl hr
        cases h
        have ho : d.offset = off := Nat.eq_of_beq_eq_true hb
        have hn : ks1.length = P.cellsOf d.type := Nat.eq_of_beq_eq_true hl
        obtain ⟨x, hx0⟩ := hx 0 d rfl
        obtain ⟨y, q1, q2⟩ := ih d.type _ x ks1 hx0 hk
        obtain ⟨z, q3, q4⟩ := fieldsK_ok hlen ih fs (off + ks1.length) r hr (fun i f hf => hx (i + 1) f (by simpa using hf))
        refine ⟨Tys.app ks1 r y z, ?_, Tys.wf_app q2 q4⟩
        rw [Tys.cells_app, dataL_append]
        have e : cs.drop off = (cs.drop d.offset).take (P.cellsOf d.type) ++ cs.drop (off + ks1.length) := by
          rw [ho, hn, ← List.drop_drop, List.take_append_drop]
        rw [e]
        exact q1.append q3
      · cases h
    · cases h

/-- A reading of this type is a typed datum. -/
theorem tyK_ok : ∀ (n : Nat) (t : TypeId) (m : Nat) (cs : List Value) (x : DataW H × List MemPlace) (ks : List CK), DataW.trod enc P w base spare held m t cs = some x → tyK P n t = some ks →
    ∃ y : Tys ks, L1Ok (allOld w) (dataL (Tys.cells ks y)) cs ∧ Tys.wf ks y
  | 0, t, m, cs, x, ks, h, hk => by cases hk
  | n + 1, t, m, cs, x, ks, h, hk => by
    unfold tyK at hk
    split at hk
    · rename_i ht
      cases hk
      obtain ⟨b, rfl, _⟩ := DataW.trod_bool ht h
      exact ⟨(b, ()), ⟨⟨[], .bool b, fine_all (by intro b hb; cases hb)⟩, rfl, trivial⟩, trivial, trivial⟩
    · rename_i k ht
      cases hk
      obtain ⟨m, rfl, _, hw⟩ := DataW.trod_int ht h
      exact ⟨(m, ()), ⟨⟨[], .int k m, fine_all (by intro b hb; cases hb)⟩, rfl, trivial⟩, hw, trivial⟩
    · rename_i ht
      cases hk
      obtain ⟨s, rfl, _, hw⟩ := DataW.trod_string ht h
      exact ⟨(s, ()), ⟨⟨[], .str s, fine_all (by intro b hb; cases hb)⟩, rfl, trivial⟩, hw, trivial⟩
    · rename_i e ht
      split at hk
      · rename_i ks1 hk1
        split at hk
        · rename_i st hst
          split at hk
          · rename_i hsz
            cases hk
            have hks := stOf_ok hst
            subst hks
            have hsz := Nat.eq_of_beq_eq_true hsz
            rcases DataW.trod_slice ht h with ⟨rfl, _⟩ | ⟨a, len, cap, elems, rest, m', hm, rfl, _, hb, hl, hc, hlen, hel, _, _⟩
            · exact ⟨(([] : List st.El), ()), ⟨⟨[], .emp none st 0, fine_all (by intro b hb; cases hb)⟩, rfl, trivial⟩, ⟨Nat.zero_le _, by intro x hx; cases hx⟩, trivial⟩
            · cases hm
              have each : ∀ i, ∃ y : st.El, i < len → ∃ ci, w.cells? base (a.add (i * P.cellsOf e)) (P.cellsOf e) = some ci ∧ L1Ok (allOld w) (dataL (st.cells y)) ci ∧ st.wf y := by
                intro i
                by_cases hi : i < len
                · have h1 := hel i hi
                  have h2 : elems[i]? = some (elems[i]'(by omega)) := by simp
                  rw [h2, Option.bind_eq_some_iff] at h1
                  obtain ⟨ci, h3, h4⟩ := h1
                  obtain ⟨y, q1, q2⟩ := tyK_ok n e _ ci _ _ h4 hk1
                  exact ⟨st.mk y, fun _ => ⟨ci, h3, by rw [ST.cells_mk]; exact q1, ST.wf_mk st y q2⟩⟩
                · have : Nonempty st.El := by cases st <;> first | exact ⟨(0 : Int)⟩ | exact ⟨ByteArray.empty⟩ | exact ⟨(⟨false, [], []⟩ : Rt)⟩ | exact ⟨(⟨ByteArray.empty, ⟨false, [], []⟩, ⟨false, [], []⟩, false⟩ : Sta)⟩ | exact ⟨(⟨0, 0, 0, ⟨false, [], []⟩, ⟨false, [], []⟩⟩ : Obs)⟩ | exact ⟨([] : List Rt)⟩
                  exact ⟨Classical.choice this, fun h => absurd h hi⟩
              let f : Nat → st.El := fun i => Classical.choose (each i)
              have hf : ∀ i, i < len → ∃ ci, w.cells? base (a.add (i * P.cellsOf e)) (P.cellsOf e) = some ci ∧ L1Ok (allOld w) (dataL (st.cells (f i))) ci ∧ st.wf (f i) := fun i => Classical.choose_spec (each i)
              let xs : List st.El := (List.range len).map f
              have hxl : xs.length = len := by simp [xs]
              have hxi : ∀ i x, xs[i]? = some x → i < len ∧ x = f i := by
                intro i x hx
                have hi : i < len := by rw [← hxl]; exact (List.getElem?_eq_some_iff.1 hx).1
                simp [xs, hi] at hx
                exact ⟨hi, hx.symm⟩
              have hwf : CK.wf (.sl st) xs := ⟨by show xs.length ≤ maxLen; omega, fun x hx => by
                obtain ⟨i, hi⟩ := List.getElem?_of_mem hx
                obtain ⟨h1, rfl⟩ := hxi i x hi
                obtain ⟨_, _, _, h2⟩ := hf i h1; exact h2⟩
              refine ⟨(xs, ()), ⟨?_, rfl, trivial⟩, hwf, trivial⟩
              by_cases hz : len = 0
              · subst hz
                have : xs = [] := rfl
                rw [this]
                exact ⟨[], .emp (some a) st cap, fine_all (by intro b hb; cases hb)⟩
              · have hpos := size_pos st
                have hcell : ∀ i j, i < len → j < st.size → ∃ v c, w.cell? ((a.add (i * st.size)).add j) = some v ∧ (st.cells (f i))[j]? = some c ∧ (allOld w).rd v c := by
                  intro i j hi hj
                  obtain ⟨ci, h1, h2, _⟩ := hf i hi
                  obtain ⟨h3, h4⟩ := cells_get h1
                  rw [hsz] at h3 h4
                  have hcj : j < (st.cells (f i)).length := by rw [length_cells]; exact hj
                  have h5 : (dataL (st.cells (f i)))[j]? = some (.d ((st.cells (f i))[j])) := by rw [dataL_at]; simp [hcj]
                  obtain ⟨v, h6, h7, _⟩ := h2.get h5
                  exact ⟨v, _, by rw [← hsz] at h4 ⊢; rw [h4 j (by omega)]; exact h6, by simp [hcj], h7⟩
                obtain ⟨v0, _, h0, _⟩ := hcell 0 0 (by omega) hpos
                have hsp : a.spot = none ∧ a.block < w.heap.size := by
                  have : (a.add (0 * st.size)).add 0 = a := by simp [Addr.add]
                  rw [this] at h0; exact cell_spot h0
                have hcell' : ∀ k c, (flat st xs)[k]? = some c → ∃ v, w.cell? ⟨a.block, a.off + k, none⟩ = some v ∧ (allOld w).rd v c := by
                  intro k c hk
                  obtain ⟨i, j, x, rfl, hj, hi, hx, hc⟩ := flat_split hk
                  obtain ⟨hi', rfl⟩ := hxi i x hx
                  obtain ⟨v, c', q1, q2, q3⟩ := hcell i j hi' hj
                  rw [hc] at q2; cases q2
                  rw [addr_add hsp.1, addr_add rfl, Nat.add_assoc] at q1
                  exact ⟨v, q1, q3⟩
                have hch : ∀ k : Nat, ∃ p : Value × List Nat, ∀ c : Cell, (flat st xs)[k]? = some c → w.cell? ⟨a.block, a.off + k, none⟩ = some p.1 ∧ Rd w p.1 c p.2 ∧ (allOld w).fine p.2 := by
                  intro k
                  cases hk : (flat st xs)[k]? with
                  | none => exact ⟨(undef, []), fun c hc => by cases hc⟩
                  | some c =>
                    obtain ⟨v, h1, fp, h2, h3⟩ := hcell' k c hk
                    exact ⟨(v, fp), fun c' hc' => by cases hc'; exact ⟨h1, h2, h3⟩⟩
                let g : Nat → Value × List Nat := fun k => Classical.choose (hch k)
                have hg : ∀ k c, (flat st xs)[k]? = some c → w.cell? ⟨a.block, a.off + k, none⟩ = some (g k).1 ∧ Rd w (g k).1 c (g k).2 ∧ (allOld w).fine (g k).2 := fun k => Classical.choose_spec (hch k)
                have ha : a = ⟨a.block, a.off, none⟩ := by cases a; simp_all
                refine ⟨a.block :: (List.range (flat st xs).length).flatMap (fun k => (g k).2), ?_, fine_all ?_⟩
                · rw [ha]
                  exact .sl a.block a.off len cap st xs (fun k => (g k).1) (fun k => (g k).2) hxl.symm hl (fun k c hk => (hg k c hk).1) (fun k c hk => (hg k c hk).2.1)
                · intro b hb
                  rcases List.mem_cons.1 hb with rfl | hb
                  · exact hsp.2
                  · obtain ⟨k, hk, hb⟩ := List.mem_flatMap.1 hb
                    have hk' := List.mem_range.1 hk
                    exact ((hg k _ (List.getElem?_eq_getElem hk')).2.2 b hb).1
          · cases hk
        · cases hk
      · cases hk
    · rename_i fs ht
      obtain ⟨xs, m', rfl, _, hl, hxl, hx⟩ := DataW.trod_struct ht h
      have := fieldsK_ok (n := n) (cs := cs) (total := P.cellsOf t) hl (fun t cs x ks => tyK_ok n t m' cs x ks) fs.toList 0 ks hk (fun i f hf => by
        have hf' : fs[i]? = some f := by simpa using hf
        have hi : i < xs.length := by rw [hxl]; exact (Array.getElem?_eq_some_iff.1 hf').1
        exact ⟨xs[i], by rw [hx i f hf']; simp⟩)
      simpa using this
    · cases hk
end
end Go.Di
/-
  Own work. From a law's contract to the given statement's walk.
-/
open Go.RowKit (Below)
namespace Go.Di
open Go.WideShapes Go.ChangeShapes Go.RowKit

def parKs (P : Program) : List TypeId → Option (List (Bool × List CK))
  | [] => some []
  | t :: ts => match P.underlying t, tyK P 12 t with
    | some d, some ks => match parKs P ts with
      | some r => some ((aggD d, ks) :: r)
      | none => none
    | _, _ => none

section
variable {H : Type} {enc : TypeId × Value → H} {P : Program} {w : World} {base : Nat} {spare : Nat → Bool} {held : Bool}

theorem val_ok {n b0 : Nat} {t : TypeId} {v : Value} {d : TypeDesc} {ks : List CK} {x : DataW H} {ps : List MemPlace} (ht : P.underlying t = some d) (hk : tyK P n t = some ks) (ho : Value.okWide P w .any b0 t v)
    (hd : DataW.Trod enc P w base spare held t v x ps) : ∃ y : Tys ks, VOk (allOld w) (aggD d) (dataL (Tys.cells ks y)) v ∧ Tys.wf ks y := by
  obtain ⟨m, hm⟩ := hd
  obtain ⟨y, h1, h2⟩ := tyK_ok n t m _ _ ks hm hk
  refine ⟨y, ?_, h2⟩
  have one : v.oneCell' = true → VOk (allOld w) false (dataL (Tys.cells ks y)) v := by
    intro h
    have hc : v.cells = #[v] := by cases v <;> first | rfl | (simp [Value.oneCell'] at h)
    rw [hc] at h1
    obtain ⟨a, e1, e2, e3⟩ := L1Ok_single h1
    exact ⟨a, e1, e2, .inr h⟩
  cases n with
  | zero => cases hk
  | succ n =>
    unfold tyK at hk
    rw [ht] at hk
    cases d with
    | bool => obtain ⟨b, rfl⟩ := okWide_bool ht ho; exact one rfl
    | int k => obtain ⟨b, rfl⟩ := okWide_int ht ho; exact one rfl
    | string => obtain ⟨b, rfl⟩ := okWide_string ht ho; exact one rfl
    | slice e => obtain ⟨a, l, c, rfl⟩ := okWide_slice ht ho; exact one rfl
    | struct fs =>
      unfold Value.okWide at ho
      rw [ht] at ho
      obtain ⟨cs, rfl, _, _⟩ := ho
      exact ⟨cs, rfl, h1⟩
    | _ => cases hk

theorem args_read {b0 : Nat} : ∀ {ts : List TypeId} {vs : List Value} {ds : List (DataW H)} {ps : List MemPlace} {ar : List (Bool × List CK)}, parKs P ts = some ar → DataW.TrodAll enc P w base spare held ts vs ds ps →
    (∀ (j : Nat) t v, ts[j]? = some t → vs[j]? = some v → Value.okWide P w .any b0 t v) → ∃ y : Tys (insOf ar), PsOk (allOld w) (argParts ar y) vs ∧ Tys.wf (insOf ar) y ∧ ds.length = ts.length
  | [], [], [], ps, ar, h, _, _ => by cases h; exact ⟨(), trivial, trivial, rfl⟩
  | t :: ts, v :: vs, d :: ds, ps, ar, h, ⟨p, q, h1, h2, _⟩, ho => by
    unfold parKs at h
    split at h
    · rename_i de ks hde hks
      split at h
      · rename_i r hr
        cases h
        obtain ⟨y, q1, q2⟩ := val_ok hde hks (ho 0 t v rfl rfl) h1
        obtain ⟨z, q3, q4, q5⟩ := args_read hr h2 fun j t v e1 e2 => ho (j + 1) t v (by simpa using e1) (by simpa using e2)
        refine ⟨Tys.app ks (insOf r) y z, ?_, Tys.wf_app q2 q4, by simp [q5]⟩
        show VOk (allOld w) (aggD de) (dataL (Tys.cells ks (Tys.fst ks (insOf r) (Tys.app ks (insOf r) y z)))) v ∧ PsOk (allOld w) (argParts r (Tys.snd ks (insOf r) (Tys.app ks (insOf r) y z))) vs
        rw [fst_app, snd_app]
        exact ⟨q1, q3⟩
      · cases h
    · cases h
  | [], _ :: _, _, _, _, _, h, _ => h.elim
  | [], [], _ :: _, _, _, _, h, _ => h.elim
  | _ :: _, [], _, _, _, _, h, _ => h.elim
  | _ :: _, _ :: _, [], _, _, _, h, _ => h.elim

theorem trodAll_keep {sp' : Nat → Bool} (hl : laidOutB P = true) {W W' : World} : ∀ {ts : List TypeId} {vs : List Value} {ds : List (DataW H)} {ps : List MemPlace}, (ts.all fun t => P.readableRec t && Nat.blt t P.types.size) = true →
    DataW.TrodAll enc P W base (fun _ => true) true ts vs ds ps → (∀ p ∈ ps, W.sameAt W' p) → (∀ p ∈ ps, sp' p.block = true) → DataW.TrodAll enc P W' base sp' true ts vs ds ps
  | [], [], [], ps, _, h, _, _ => h
  | t :: ts, v :: vs, d :: ds, ps, hr, ⟨p, q, h1, h2, e⟩, hs, hp => by
    subst e
    simp only [List.all_cons, Bool.and_eq_true] at hr
    exact ⟨p, q, WideElems.Trod_stays hl hr.1.1 (Nat.le_of_ble_eq_true hr.1.2) h1 (fun x hx => hs x (List.mem_append_left _ hx)) (fun x hx => hp x (List.mem_append_left _ hx)),
      trodAll_keep hl hr.2 h2 (fun x hx => hs x (List.mem_append_right _ hx)) (fun x hx => hp x (List.mem_append_right _ hx)), rfl⟩
  | [], _ :: _, _, _, _, h, _, _ => h.elim
  | [], [], _ :: _, _, _, h, _, _ => h.elim
  | _ :: _, [], _, _, _, h, _, _ => h.elim
  | _ :: _, _ :: _, [], _, _, h, _, _ => h.elim

/-- A law that its contract makes true. -/
theorem law_calls {f : FuncId} {fn : Func} {s : ChangeSpec} {apart fresh handsOn again : Bool} {W : World} {b0 : Nat} {args : Array Value} {ds gs : List (DataW H)} {before : List MemPlace} {ar : List (Bool × List CK)}
    {run : Tys (insOf ar) → Option Bool} {t : TypeId}
    (hM : Meets P f ⟨⟨ar, false, [(false, [.data .bool])]⟩, Bool, run, fun b => (b, ())⟩) (hs : parKs P fn.params.toList = some ar) (hrun : ∀ x : Tys (insOf ar), Tys.wf (insOf ar) x → run x = some true)
    (hl : laidOutB P = true) (hread : (fn.params.toList.all fun t => P.readableRec t && Nat.blt t P.types.size) = true) (hrt : fn.resultTypes = #[t]) (ht : P.underlying t = some .bool)
    (hv : s.vars = []) (hspec : ∀ ds : List (DataW H), ds.length = fn.params.toList.length → s.fn H (ds ++ []) = { results := [.lit (.bool true)], args := ds })
    (hval : ∀ (j : Nat) t v, fn.params[j]? = some t → args[j]? = some v → Value.okWide P W .any b0 t v)
    (hW : DataW.Whole enc P fn.params.toList s.vars apart W args.toList ds gs before) :
    Calls P f args W fun e W' => ∃ v, e = .returned v ∧ s.post enc P fn apart fresh handsOn again W args v W' := by
  have hW0 := hW
  obtain ⟨p, q, hA, hV, rfl, hfz, hnd⟩ := hW
  rw [hv] at hV
  obtain ⟨rfl, rfl⟩ := trodVars_none hV
  obtain ⟨y, h1, h2, h3⟩ := args_read (b0 := b0) hs hA fun j t v e1 e2 => hval j t v (by simpa using e1) (by simpa using e2)
  have hy := hrun y h2
  have hc := hM W (fun _ => True) args.toList y _ hy h1
  rw [Array.toArray_toList] at hc
  refine hc.mono fun e W' ⟨v, he, hb, hG⟩ => ⟨v, he, ?_⟩
  have hsp := hspec ds h3
  have hvv : v = .bool true := by
    obtain ⟨β, _, hv'⟩ := hG 0
    obtain ⟨a, e1, e2, _⟩ := (show VOk _ false [.d (.bool true)] v from hv')
    cases e1
    obtain ⟨fp, hr, _⟩ := (e2 : Cx.rd _ v (.bool true))
    cases hr; rfl
  subst hvv
  have hlt : ∀ x ∈ p ++ [], x.block < W.heap.size := fun x hx => hW0.lt x hx
  have hold : ∀ x ∈ p ++ [], (fun b => decide (b < W.heap.size)) x.block = true := fun x hx => by simpa using hlt x hx
  have hres : ∀ (b : Nat) (sp : Nat → Bool) (hd : Bool), DataW.TrodAll enc P W' b sp hd fn.resultTypes.toList ((Value.bool true).resultList fn.resultTypes.size) (s.fn H (ds ++ [])).results [] := by
    intro b sp hd
    rw [hrt, hsp]
    exact trodAll_cons_mk (shut_bool ht true) rfl
  have hargs : ∀ sp : Nat → Bool, (∀ x ∈ p ++ [], sp x.block = true) → DataW.TrodAll enc P W' 0 sp true fn.params.toList args.toList (s.fn H (ds ++ [])).args p := by
    intro sp hsp'
    rw [hsp]
    exact trodAll_keep hl hread hA (fun x hx => hb.same (hlt x (by simpa using hx))) (fun x hx => hsp' x (by simpa using hx))
  have hvars : ∀ sp : Nat → Bool, DataW.TrodVars enc P W' sp s.vars (s.fn H (ds ++ [])).vars [] := by
    intro sp
    rw [hv, hsp]; rfl
  refine ⟨ds, [], p ++ [], [], p, [], hW0, hres _ _ _, hargs _ hold, hvars _, World.keptBut_mono (fun x hx => ⟨hx, ?_⟩) (hb.frame (· ∈ p ++ [])), fun _ => ?_⟩
  · exact .inr (.inl (by simpa using hx))
  · refine ⟨ok_one hrt rfl (okWide_bool_mk ht _), _, _, ([] ++ p) ++ [], ⟨[] ++ p, [], trodAll_append (hargs _ (fun _ _ => rfl)) (hres _ _ _), hvars _, rfl, ?_, ?_⟩, ?_⟩
    · intro b off hp
      have hin : MemPlace.cell b off ∈ p ++ [] := by simpa using hp
      rw [hb.frozen (hlt _ hin)]
      exact hfz b off hin
    · intro ha
      have := hnd ha
      simpa using this
    · intro x hx _
      simpa using hx
end
end Go.Di
/-
  Own work. The program's records as plain Lean data.
-/
namespace Go.Di
structure Bg where
  neg : Bool
  mag : List Int
structure Mx where
  rows : Int
  cols : Int
  cells : List Rt
structure Net where
  plane : Bool
  stations : List Sta
structure Bk where
  plane : Bool
  stations : List Sta
  obs : List Obs
structure Rdn where
  rows : Int
  cols : Int
  cells : List Rt
  pivots : List Int
  factors : List Rt
end Go.Di
/-
  Own work. Small words that the texts written by program lean on.
-/
namespace Go.Di

def findSlot (i : Nat) : List (Nat × Bool × List C1T) → Option (Bool × List C1T)
  | [] => none
  | (j, x) :: r => match Nat.beq i j with
    | true => some x
    | false => findSlot i r
def mkSlots (l : List (Nat × Bool × List C1T)) : Nat → Nat → List (Option (Bool × List C1T))
  | 0, _ => []
  | n + 1, i => findSlot i l :: mkSlots l n (i + 1)

theorem consOk_nil {P : Program} : ConsOk P [] := fun f c h => by cases h
theorem consOk_cons {P : Program} {f : FuncId} {c : Con} {r : List (FuncId × Con)} (h : Meets P f c) (hc : Callable P f) (hr : ConsOk P r) : ConsOk P ((f, c) :: r) := by
  intro g d hg
  unfold findCon at hg
  split at hg
  · rename_i hb
    cases hg
    rw [Nat.eq_of_beq_eq_true hb]; exact ⟨h, hc⟩
  · exact hr g d hg

def callB (fn : Func) : Bool := !(fn.name == "runtime.NumGoroutine") && !fn.body.isNone
theorem callable_of {P : Program} {f : FuncId} {fn : Func} (h : P.funcs[f]? = some fn) (hb : callB fn = true) : Callable P f := by
  unfold callB at hb
  simp only [Bool.and_eq_true, Bool.not_eq_true'] at hb
  exact ⟨fn, h, hb.1, hb.2⟩

def LoopsOk (P : Program) (E : Env) : List Code → Prop
  | [] => True
  | b :: r => (∃ m, findLM (keyOf b) E.loops = some m ∧ LoopOk P m b) ∧ LoopsOk P E r
theorem loops_mem {P : Program} {E : Env} {c : Code} {l : List Code} (h : loopsIn c = l) (hl : LoopsOk P E l) : ∀ b ∈ loopsIn c, ∀ m, findLM (keyOf b) E.loops = some m → LoopOk P m b := by
  rw [h]
  clear h
  induction l with
  | nil => intro b hb; cases hb
  | cons a r ih =>
    intro b hb m hm
    rcases List.mem_cons.1 hb with rfl | hb
    · obtain ⟨⟨m', h1, h2⟩, _⟩ := hl
      rw [hm] at h1; cases h1; exact h2
    · exact ih hl.2 b hb m hm

theorem loop_ok2 {P : Program} {E : Env} (hm : P.follows .mixedOrders = true) (hL : LayOk P E.lay) (hC : ConsOk P E.cons) {D : LoopD} {body : Code} {f : Tys D.head.ks → Option (OutT D.outs)} (hD : drawsOk E.plans body = true)
    (hl : ∀ b ∈ loopsIn body, ∀ m, findLM (keyOf b) E.loops = some m → LoopOk P m b) {S : Tys D.head.ks → Option (Tys D.head.ks ⊕ OutT D.outs)} (hS : ∀ x, stepL E D body x = S x)
    (hf : ∀ x y, f x = some y → whileO S x = some y) : LoopOk P (mkLM D f) body :=
  loop_ok hm hL hC hD hl fun x y h => by rw [show stepL E D body = S from funext hS]; exact hf x y h
end Go.Di
/-
  Own work, written by program (gen.py) out of the functions of the given program: what they compute, as plain Lean.
-/
namespace Go.Di
noncomputable def M_laws_szIntS (a : List Int) (left : Int) : Option Int :=
  cond (decide ((IntKind.i64.wrap (left - (a.length : Int))) < 0))
    (some (-1))
    (some (IntKind.i64.wrap (left - (a.length : Int))))

noncomputable def M_laws_szBigInt (a : Bg) (left : Int) : Option Int :=
  (M_laws_szIntS a.mag left).bind fun r =>
  cond (decide (r < 0))
    (some (-1))
    (some r)

noncomputable def M_laws_szRat (a : Rt) (left : Int) : Option Int :=
  (M_laws_szBigInt (⟨a.neg, a.mag⟩ : Bg) left).bind fun r =>
  cond (decide (r < 0))
    (some (-1))
    ((M_laws_szIntS a.den r).bind fun r1 =>
    cond (decide (r1 < 0))
      (some (-1))
      (some r1))

noncomputable def M_laws_szObservation (a : Obs) (left : Int) : Option Int :=
  (M_laws_szRat a.value left).bind fun r =>
  cond (decide (r < 0))
    (some (-1))
    ((M_laws_szRat a.variance r).bind fun r1 =>
    cond (decide (r1 < 0))
      (some (-1))
      (some r1))

noncomputable def S_laws_szObservationS_0 : (List Obs) × Int × Int × Unit → Option (((List Obs) × Int × Int × Unit) ⊕ ((Int × Unit) ⊕ (Int × Unit))) := fun (a, left, i, _) =>
  cond (decide (i < (a.length : Int)))
    ((idx a i).bind fun e =>
    (M_laws_szObservation e left).bind fun r =>
    cond (decide (r < 0))
      (some (.inr (.inl ((-1), ()))))
      (some (.inl (a, r, IntKind.i64.wrap (i + 1), ()))))
    (some (.inr (.inr (left, ()))))
noncomputable def L_laws_szObservationS_0 (a : List Obs) (left : Int) (i : Int) : Option ((Int × Unit) ⊕ (Int × Unit)) := whileO S_laws_szObservationS_0 (a, left, i, ())
noncomputable def M_laws_szObservationS (a : List Obs) (left : Int) : Option Int :=
  cond (decide ((IntKind.i64.wrap (left - (a.length : Int))) < 0))
    (some (-1))
    ((L_laws_szObservationS_0 a (IntKind.i64.wrap (left - (a.length : Int))) 0).bind fun r =>
    match r with
    | .inl (t, _) =>
      some t
    | .inr (left1, _) =>
      some left1)

noncomputable def S_laws_toIntS_0 : (List Int) × Int × (List Int) × Unit → Option (((List Int) × Int × (List Int) × Unit) ⊕ ((List Int) × Unit)) := fun (a, i, out, _) =>
  cond (decide (i < (a.length : Int)))
    ((idx a i).bind fun e =>
    (idx out i).bind fun _ =>
    some (.inl (a, IntKind.i64.wrap (i + 1), out.set i.toNat e, ())))
    (some (.inr (out, ())))
noncomputable def L_laws_toIntS_0 (a : List Int) (i : Int) (out : List Int) : Option ((List Int) × Unit) := whileO S_laws_toIntS_0 (a, i, out, ())
noncomputable def M_laws_toIntS (a : List Int) : Option (List Int) :=
  (guardO (((decide (0 ≤ (a.length : Int))) && (decide ((a.length : Int) ≤ (a.length : Int)))) && (decide ((a.length : Int) ≤ (maxNew : Int))))).bind fun _ =>
  (L_laws_toIntS_0 a 0 (List.replicate ((a.length : Int).toNat) 0)).bind fun (out, _) =>
  some out

noncomputable def M_laws_toBigInt (a : Bg) : Option Bg :=
  (M_laws_toIntS a.mag).bind fun r =>
  some (⟨a.neg, r⟩ : Bg)

noncomputable def M_laws_toRat (a : Rt) : Option Rt :=
  (M_laws_toBigInt (⟨a.neg, a.mag⟩ : Bg)).bind fun r =>
  (M_laws_toIntS a.den).bind fun r1 =>
  some (⟨r.neg, r.mag, r1⟩ : Rt)

noncomputable def M_laws_toObservation (a : Obs) : Option Obs :=
  (M_laws_toRat a.value).bind fun r =>
  (M_laws_toRat a.variance).bind fun r1 =>
  some (⟨a.kind, a.frm, a.to, r, r1⟩ : Obs)

noncomputable def S_laws_toObservationS_0 : (List Obs) × Int × (List Obs) × Unit → Option (((List Obs) × Int × (List Obs) × Unit) ⊕ ((List Obs) × Unit)) := fun (a, i, out, _) =>
  cond (decide (i < (a.length : Int)))
    ((idx a i).bind fun e =>
    (M_laws_toObservation e).bind fun r =>
    (idx out i).bind fun _ =>
    some (.inl (a, IntKind.i64.wrap (i + 1), out.set i.toNat r, ())))
    (some (.inr (out, ())))
noncomputable def L_laws_toObservationS_0 (a : List Obs) (i : Int) (out : List Obs) : Option ((List Obs) × Unit) := whileO S_laws_toObservationS_0 (a, i, out, ())
noncomputable def M_laws_toObservationS (a : List Obs) : Option (List Obs) :=
  (guardO (((decide (0 ≤ (a.length : Int))) && (decide ((a.length : Int) ≤ (a.length : Int)))) && (decide ((a.length : Int) ≤ (maxNew : Int))))).bind fun _ =>
  (L_laws_toObservationS_0 a 0 (List.replicate ((a.length : Int).toNat) (⟨0, 0, 0, (⟨false, ([] : List Int), ([] : List Int)⟩ : Rt), (⟨false, ([] : List Int), ([] : List Int)⟩ : Rt)⟩ : Obs))).bind fun (out, _) =>
  some out

noncomputable def S_laws_eqIntS_0 : (List Int) × (List Int) × Int × Unit → Option (((List Int) × (List Int) × Int × Unit) ⊕ ((Bool × Unit) ⊕ (Unit))) := fun (a, b, i, _) =>
  cond (decide (i < (a.length : Int)))
    ((idx a i).bind fun e =>
    (idx b i).bind fun e1 =>
    cond (e != e1)
      (some (.inr (.inl (false, ()))))
      (some (.inl (a, b, IntKind.i64.wrap (i + 1), ()))))
    (some (.inr (.inr (()))))
noncomputable def L_laws_eqIntS_0 (a : List Int) (b : List Int) (i : Int) : Option ((Bool × Unit) ⊕ (Unit)) := whileO S_laws_eqIntS_0 (a, b, i, ())
noncomputable def M_laws_eqIntS (a : List Int) (b : List Int) : Option Bool :=
  cond ((a.length : Int) != (b.length : Int))
    (some false)
    ((L_laws_eqIntS_0 a b 0).bind fun r =>
    match r with
    | .inl (t, _) =>
      some t
    | .inr _ =>
      some true)

noncomputable def M_laws_eqBigInt (a : Bg) (b : Bg) : Option Bool :=
  cond (!(a.neg == b.neg))
    (some false)
    ((M_laws_eqIntS a.mag b.mag).bind fun r =>
    cond (!r)
      (some false)
      (some true))

noncomputable def M_laws_eqRat (a : Rt) (b : Rt) : Option Bool :=
  (M_laws_eqBigInt (⟨a.neg, a.mag⟩ : Bg) (⟨b.neg, b.mag⟩ : Bg)).bind fun r =>
  cond (!r)
    (some false)
    ((M_laws_eqIntS a.den b.den).bind fun r1 =>
    cond (!r1)
      (some false)
      (some true))

noncomputable def M_laws_eqObservation (a : Obs) (b : Obs) : Option Bool :=
  cond (a.kind != b.kind)
    (some false)
    (cond (a.frm != b.frm)
      (some false)
      (cond (a.to != b.to)
        (some false)
        ((M_laws_eqRat a.value b.value).bind fun r =>
        cond (!r)
          (some false)
          ((M_laws_eqRat a.variance b.variance).bind fun r1 =>
          cond (!r1)
            (some false)
            (some true)))))

noncomputable def S_laws_eqObservationS_0 : (List Obs) × (List Obs) × Int × Unit → Option (((List Obs) × (List Obs) × Int × Unit) ⊕ ((Bool × Unit) ⊕ (Unit))) := fun (a, b, i, _) =>
  cond (decide (i < (a.length : Int)))
    ((idx a i).bind fun e =>
    (idx b i).bind fun e1 =>
    (M_laws_eqObservation e e1).bind fun r =>
    cond (!r)
      (some (.inr (.inl (false, ()))))
      (some (.inl (a, b, IntKind.i64.wrap (i + 1), ()))))
    (some (.inr (.inr (()))))
noncomputable def L_laws_eqObservationS_0 (a : List Obs) (b : List Obs) (i : Int) : Option ((Bool × Unit) ⊕ (Unit)) := whileO S_laws_eqObservationS_0 (a, b, i, ())
noncomputable def M_laws_eqObservationS (a : List Obs) (b : List Obs) : Option Bool :=
  cond ((a.length : Int) != (b.length : Int))
    (some false)
    ((L_laws_eqObservationS_0 a b 0).bind fun r =>
    match r with
    | .inl (t, _) =>
      some t
    | .inr _ =>
      some true)

noncomputable def M_laws_szStation (a : Sta) (left : Int) : Option Int :=
  cond (decide ((IntKind.i64.wrap (left - (a.name.size : Int))) < 0))
    (some (-1))
    ((M_laws_szRat a.x (IntKind.i64.wrap (left - (a.name.size : Int)))).bind fun r =>
    cond (decide (r < 0))
      (some (-1))
      ((M_laws_szRat a.y r).bind fun r1 =>
      cond (decide (r1 < 0))
        (some (-1))
        (some r1)))

noncomputable def S_laws_szStationS_0 : (List Sta) × Int × Int × Unit → Option (((List Sta) × Int × Int × Unit) ⊕ ((Int × Unit) ⊕ (Int × Unit))) := fun (a, left, i, _) =>
  cond (decide (i < (a.length : Int)))
    ((idx a i).bind fun e =>
    (M_laws_szStation e left).bind fun r =>
    cond (decide (r < 0))
      (some (.inr (.inl ((-1), ()))))
      (some (.inl (a, r, IntKind.i64.wrap (i + 1), ()))))
    (some (.inr (.inr (left, ()))))
noncomputable def L_laws_szStationS_0 (a : List Sta) (left : Int) (i : Int) : Option ((Int × Unit) ⊕ (Int × Unit)) := whileO S_laws_szStationS_0 (a, left, i, ())
noncomputable def M_laws_szStationS (a : List Sta) (left : Int) : Option Int :=
  cond (decide ((IntKind.i64.wrap (left - (a.length : Int))) < 0))
    (some (-1))
    ((L_laws_szStationS_0 a (IntKind.i64.wrap (left - (a.length : Int))) 0).bind fun r =>
    match r with
    | .inl (t, _) =>
      some t
    | .inr (left1, _) =>
      some left1)

noncomputable def M_laws_szNetwork (a : Net) (left : Int) : Option Int :=
  (M_laws_szStationS a.stations left).bind fun r =>
  cond (decide (r < 0))
    (some (-1))
    (some r)

noncomputable def M_laws_toStation (a : Sta) : Option Sta :=
  (M_laws_toRat a.x).bind fun r =>
  (M_laws_toRat a.y).bind fun r1 =>
  some (⟨a.name, r, r1, a.fixed⟩ : Sta)

noncomputable def S_laws_toStationS_0 : (List Sta) × Int × (List Sta) × Unit → Option (((List Sta) × Int × (List Sta) × Unit) ⊕ ((List Sta) × Unit)) := fun (a, i, out, _) =>
  cond (decide (i < (a.length : Int)))
    ((idx a i).bind fun e =>
    (M_laws_toStation e).bind fun r =>
    (idx out i).bind fun _ =>
    some (.inl (a, IntKind.i64.wrap (i + 1), out.set i.toNat r, ())))
    (some (.inr (out, ())))
noncomputable def L_laws_toStationS_0 (a : List Sta) (i : Int) (out : List Sta) : Option ((List Sta) × Unit) := whileO S_laws_toStationS_0 (a, i, out, ())
noncomputable def M_laws_toStationS (a : List Sta) : Option (List Sta) :=
  (guardO (((decide (0 ≤ (a.length : Int))) && (decide ((a.length : Int) ≤ (a.length : Int)))) && (decide ((a.length : Int) ≤ (maxNew : Int))))).bind fun _ =>
  (L_laws_toStationS_0 a 0 (List.replicate ((a.length : Int).toNat) (⟨(⟨#[]⟩ : ByteArray), (⟨false, ([] : List Int), ([] : List Int)⟩ : Rt), (⟨false, ([] : List Int), ([] : List Int)⟩ : Rt), false⟩ : Sta))).bind fun (out, _) =>
  some out

noncomputable def M_laws_toNetwork (a : Net) : Option Net :=
  (M_laws_toStationS a.stations).bind fun r =>
  some (⟨a.plane, r⟩ : Net)

noncomputable def M_laws_eqStation (a : Sta) (b : Sta) : Option Bool :=
  cond (!(strEq a.name b.name))
    (some false)
    ((M_laws_eqRat a.x b.x).bind fun r =>
    cond (!r)
      (some false)
      ((M_laws_eqRat a.y b.y).bind fun r1 =>
      cond (!r1)
        (some false)
        (cond (!(a.fixed == b.fixed))
          (some false)
          (some true))))

noncomputable def S_laws_eqStationS_0 : (List Sta) × (List Sta) × Int × Unit → Option (((List Sta) × (List Sta) × Int × Unit) ⊕ ((Bool × Unit) ⊕ (Unit))) := fun (a, b, i, _) =>
  cond (decide (i < (a.length : Int)))
    ((idx a i).bind fun e =>
    (idx b i).bind fun e1 =>
    (M_laws_eqStation e e1).bind fun r =>
    cond (!r)
      (some (.inr (.inl (false, ()))))
      (some (.inl (a, b, IntKind.i64.wrap (i + 1), ()))))
    (some (.inr (.inr (()))))
noncomputable def L_laws_eqStationS_0 (a : List Sta) (b : List Sta) (i : Int) : Option ((Bool × Unit) ⊕ (Unit)) := whileO S_laws_eqStationS_0 (a, b, i, ())
noncomputable def M_laws_eqStationS (a : List Sta) (b : List Sta) : Option Bool :=
  cond ((a.length : Int) != (b.length : Int))
    (some false)
    ((L_laws_eqStationS_0 a b 0).bind fun r =>
    match r with
    | .inl (t, _) =>
      some t
    | .inr _ =>
      some true)

noncomputable def M_laws_eqNetwork (a : Net) (b : Net) : Option Bool :=
  cond (!(a.plane == b.plane))
    (some false)
    ((M_laws_eqStationS a.stations b.stations).bind fun r =>
    cond (!r)
      (some false)
      (some true))

noncomputable def S_laws_szRatS_0 : (List Rt) × Int × Int × Unit → Option (((List Rt) × Int × Int × Unit) ⊕ ((Int × Unit) ⊕ (Int × Unit))) := fun (a, left, i, _) =>
  cond (decide (i < (a.length : Int)))
    ((idx a i).bind fun e =>
    (M_laws_szRat e left).bind fun r =>
    cond (decide (r < 0))
      (some (.inr (.inl ((-1), ()))))
      (some (.inl (a, r, IntKind.i64.wrap (i + 1), ()))))
    (some (.inr (.inr (left, ()))))
noncomputable def L_laws_szRatS_0 (a : List Rt) (left : Int) (i : Int) : Option ((Int × Unit) ⊕ (Int × Unit)) := whileO S_laws_szRatS_0 (a, left, i, ())
noncomputable def M_laws_szRatS (a : List Rt) (left : Int) : Option Int :=
  cond (decide ((IntKind.i64.wrap (left - (a.length : Int))) < 0))
    (some (-1))
    ((L_laws_szRatS_0 a (IntKind.i64.wrap (left - (a.length : Int))) 0).bind fun r =>
    match r with
    | .inl (t, _) =>
      some t
    | .inr (left1, _) =>
      some left1)

noncomputable def M_laws_szMatrix (a : Mx) (left : Int) : Option Int :=
  (M_laws_szRatS a.cells left).bind fun r =>
  cond (decide (r < 0))
    (some (-1))
    (some r)

noncomputable def S_laws_toRatS_0 : (List Rt) × Int × (List Rt) × Unit → Option (((List Rt) × Int × (List Rt) × Unit) ⊕ ((List Rt) × Unit)) := fun (a, i, out, _) =>
  cond (decide (i < (a.length : Int)))
    ((idx a i).bind fun e =>
    (M_laws_toRat e).bind fun r =>
    (idx out i).bind fun _ =>
    some (.inl (a, IntKind.i64.wrap (i + 1), out.set i.toNat r, ())))
    (some (.inr (out, ())))
noncomputable def L_laws_toRatS_0 (a : List Rt) (i : Int) (out : List Rt) : Option ((List Rt) × Unit) := whileO S_laws_toRatS_0 (a, i, out, ())
noncomputable def M_laws_toRatS (a : List Rt) : Option (List Rt) :=
  (guardO (((decide (0 ≤ (a.length : Int))) && (decide ((a.length : Int) ≤ (a.length : Int)))) && (decide ((a.length : Int) ≤ (maxNew : Int))))).bind fun _ =>
  (L_laws_toRatS_0 a 0 (List.replicate ((a.length : Int).toNat) (⟨false, ([] : List Int), ([] : List Int)⟩ : Rt))).bind fun (out, _) =>
  some out

noncomputable def M_laws_toMatrix (a : Mx) : Option Mx :=
  (M_laws_toRatS a.cells).bind fun r =>
  some (⟨a.rows, a.cols, r⟩ : Mx)

noncomputable def S_laws_eqRatS_0 : (List Rt) × (List Rt) × Int × Unit → Option (((List Rt) × (List Rt) × Int × Unit) ⊕ ((Bool × Unit) ⊕ (Unit))) := fun (a, b, i, _) =>
  cond (decide (i < (a.length : Int)))
    ((idx a i).bind fun e =>
    (idx b i).bind fun e1 =>
    (M_laws_eqRat e e1).bind fun r =>
    cond (!r)
      (some (.inr (.inl (false, ()))))
      (some (.inl (a, b, IntKind.i64.wrap (i + 1), ()))))
    (some (.inr (.inr (()))))
noncomputable def L_laws_eqRatS_0 (a : List Rt) (b : List Rt) (i : Int) : Option ((Bool × Unit) ⊕ (Unit)) := whileO S_laws_eqRatS_0 (a, b, i, ())
noncomputable def M_laws_eqRatS (a : List Rt) (b : List Rt) : Option Bool :=
  cond ((a.length : Int) != (b.length : Int))
    (some false)
    ((L_laws_eqRatS_0 a b 0).bind fun r =>
    match r with
    | .inl (t, _) =>
      some t
    | .inr _ =>
      some true)

noncomputable def M_laws_eqMatrix (a : Mx) (b : Mx) : Option Bool :=
  cond (a.rows != b.rows)
    (some false)
    (cond (a.cols != b.cols)
      (some false)
      ((M_laws_eqRatS a.cells b.cells).bind fun r =>
      cond (!r)
        (some false)
        (some true)))

noncomputable def M_laws_szBook (a : Bk) (left : Int) : Option Int :=
  (M_laws_szNetwork (⟨a.plane, a.stations⟩ : Net) left).bind fun r =>
  cond (decide (r < 0))
    (some (-1))
    ((M_laws_szObservationS a.obs r).bind fun r1 =>
    cond (decide (r1 < 0))
      (some (-1))
      (some r1))

noncomputable def M_laws_toBook (a : Bk) : Option Bk :=
  (M_laws_toNetwork (⟨a.plane, a.stations⟩ : Net)).bind fun r =>
  (M_laws_toObservationS a.obs).bind fun r1 =>
  some (⟨r.plane, r.stations, r1⟩ : Bk)

noncomputable def M_laws_eqBook (a : Bk) (b : Bk) : Option Bool :=
  (M_laws_eqNetwork (⟨a.plane, a.stations⟩ : Net) (⟨b.plane, b.stations⟩ : Net)).bind fun r =>
  cond (!r)
    (some false)
    ((M_laws_eqObservationS a.obs b.obs).bind fun r1 =>
    cond (!r1)
      (some false)
      (some true))

noncomputable def S_laws_heldIntS_0 : (List Int) × Int × Int × Unit → Option (((List Int) × Int × Int × Unit) ⊕ ((Int × Unit) ⊕ (Int × Unit))) := fun (a, k, i, _) =>
  cond (decide (i < (a.length : Int)))
    ((idx a i).bind fun e =>
    cond (e != k)
      (some (.inr (.inl ((-1), ()))))
      (some (.inl (a, IntKind.i64.wrap (k + 1), IntKind.i64.wrap (i + 1), ()))))
    (some (.inr (.inr (k, ()))))
noncomputable def L_laws_heldIntS_0 (a : List Int) (k : Int) (i : Int) : Option ((Int × Unit) ⊕ (Int × Unit)) := whileO S_laws_heldIntS_0 (a, k, i, ())
noncomputable def M_laws_heldIntS (a : List Int) (k : Int) : Option Int :=
  (L_laws_heldIntS_0 a k 0).bind fun r =>
  match r with
  | .inl (t, _) =>
    some t
  | .inr (k1, _) =>
    some k1

noncomputable def S_laws_heldObservationS_0 : (List Obs) × Int × Int × Unit → Option (((List Obs) × Int × Int × Unit) ⊕ ((Int × Unit) ⊕ (Int × Unit))) := fun (a, k, i, _) =>
  cond (decide (i < (a.length : Int)))
    ((idx a i).bind fun e =>
    cond (e.kind != k)
      (some (.inr (.inl ((-1), ()))))
      ((idx a i).bind fun e1 =>
      cond (e1.frm != (IntKind.i64.wrap (k + 1)))
        (some (.inr (.inl ((-1), ()))))
        ((idx a i).bind fun e2 =>
        cond (e2.to != (IntKind.i64.wrap ((IntKind.i64.wrap (k + 1)) + 1)))
          (some (.inr (.inl ((-1), ()))))
          ((idx a i).bind fun e3 =>
          cond (!(e3.value.neg == (((IntKind.i64.wrap ((IntKind.i64.wrap ((IntKind.i64.wrap (k + 1)) + 1)) + 1)).tmod 3) == 0)))
            (some (.inr (.inl ((-1), ()))))
            ((idx a i).bind fun e4 =>
            (M_laws_heldIntS e4.value.mag (IntKind.i64.wrap ((IntKind.i64.wrap ((IntKind.i64.wrap ((IntKind.i64.wrap (k + 1)) + 1)) + 1)) + 1))).bind fun r =>
            cond (decide (r < 0))
              (some (.inr (.inl ((-1), ()))))
              ((idx a i).bind fun e5 =>
              (M_laws_heldIntS e5.value.den r).bind fun r1 =>
              cond (decide (r1 < 0))
                (some (.inr (.inl ((-1), ()))))
                ((idx a i).bind fun e6 =>
                cond (!(e6.variance.neg == ((r1.tmod 3) == 0)))
                  (some (.inr (.inl ((-1), ()))))
                  ((idx a i).bind fun e7 =>
                  (M_laws_heldIntS e7.variance.mag (IntKind.i64.wrap (r1 + 1))).bind fun r2 =>
                  cond (decide (r2 < 0))
                    (some (.inr (.inl ((-1), ()))))
                    ((idx a i).bind fun e8 =>
                    (M_laws_heldIntS e8.variance.den r2).bind fun r3 =>
                    cond (decide (r3 < 0))
                      (some (.inr (.inl ((-1), ()))))
                      (some (.inl (a, r3, IntKind.i64.wrap (i + 1), ()))))))))))))
    (some (.inr (.inr (k, ()))))
noncomputable def L_laws_heldObservationS_0 (a : List Obs) (k : Int) (i : Int) : Option ((Int × Unit) ⊕ (Int × Unit)) := whileO S_laws_heldObservationS_0 (a, k, i, ())
noncomputable def M_laws_heldObservationS (a : List Obs) (k : Int) : Option Int :=
  (L_laws_heldObservationS_0 a k 0).bind fun r =>
  match r with
  | .inl (t, _) =>
    some t
  | .inr (k1, _) =>
    some k1

noncomputable def S_laws_heldRatS_0 : (List Rt) × Int × Int × Unit → Option (((List Rt) × Int × Int × Unit) ⊕ ((Int × Unit) ⊕ (Int × Unit))) := fun (a, k, i, _) =>
  cond (decide (i < (a.length : Int)))
    ((idx a i).bind fun e =>
    cond (!(e.neg == ((k.tmod 3) == 0)))
      (some (.inr (.inl ((-1), ()))))
      ((idx a i).bind fun e1 =>
      (M_laws_heldIntS e1.mag (IntKind.i64.wrap (k + 1))).bind fun r =>
      cond (decide (r < 0))
        (some (.inr (.inl ((-1), ()))))
        ((idx a i).bind fun e2 =>
        (M_laws_heldIntS e2.den r).bind fun r1 =>
        cond (decide (r1 < 0))
          (some (.inr (.inl ((-1), ()))))
          (some (.inl (a, r1, IntKind.i64.wrap (i + 1), ()))))))
    (some (.inr (.inr (k, ()))))
noncomputable def L_laws_heldRatS_0 (a : List Rt) (k : Int) (i : Int) : Option ((Int × Unit) ⊕ (Int × Unit)) := whileO S_laws_heldRatS_0 (a, k, i, ())
noncomputable def M_laws_heldRatS (a : List Rt) (k : Int) : Option Int :=
  (L_laws_heldRatS_0 a k 0).bind fun r =>
  match r with
  | .inl (t, _) =>
    some t
  | .inr (k1, _) =>
    some k1

noncomputable def M_laws_heldMatrix (a : Mx) (k : Int) : Option Int :=
  (M_laws_heldRatS a.cells k).bind fun r =>
  cond (decide (r < 0))
    (some (-1))
    (some r)

noncomputable def M_laws_heldBigInt (a : Bg) (k : Int) : Option Int :=
  (M_laws_heldIntS a.mag k).bind fun r =>
  cond (decide (r < 0))
    (some (-1))
    (some r)

noncomputable def M_laws_heldRat (a : Rt) (k : Int) : Option Int :=
  (M_laws_heldBigInt (⟨a.neg, a.mag⟩ : Bg) k).bind fun r =>
  cond (decide (r < 0))
    (some (-1))
    ((M_laws_heldIntS a.den r).bind fun r1 =>
    cond (decide (r1 < 0))
      (some (-1))
      (some r1))

end Go.Di
/-
  Own work, written by program (gen.py) out of the functions of the given program: what they compute, as plain Lean.
-/
namespace Go.Di
noncomputable def M_spec_l01In (n : Int) (lo : Int) (hi : Int) : Option Bool :=
  cond (decide (n ≥ lo))
    (some (decide (n ≤ hi)))
    (some false)

noncomputable def S_impl_hasInt_0 : Int × (List Int) × Int × Int × Unit → Option ((Int × (List Int) × Int × Int × Unit) ⊕ ((Bool × Unit) ⊕ (Unit))) := fun (n, t, t1, t2, _) =>
  cond (decide (t2 < t1))
    ((idx t t2).bind fun e =>
    cond (e == n)
      (some (.inr (.inl (true, ()))))
      (some (.inl (n, t, t1, IntKind.i64.wrap (t2 + 1), ()))))
    (some (.inr (.inr (()))))
noncomputable def L_impl_hasInt_0 (n : Int) (t : List Int) (t1 : Int) (t2 : Int) : Option ((Bool × Unit) ⊕ (Unit)) := whileO S_impl_hasInt_0 (n, t, t1, t2, ())
noncomputable def M_impl_hasInt (l : List Int) (n : Int) : Option Bool :=
  (L_impl_hasInt_0 n l (l.length : Int) 0).bind fun r =>
  match r with
  | .inl (t, _) =>
    some t
  | .inr _ =>
    some false

noncomputable def M_impl_copyInts (l : List Int) : Option (List Int) :=
  (guardO (Nat.ble l.length maxNew)).bind fun _ =>
  some l

noncomputable def S_spec_IsName_0 : ByteArray × Int × Unit → Option ((ByteArray × Int × Unit) ⊕ ((Bool × Unit) ⊕ (ByteArray × Unit))) := fun (s, i, _) =>
  cond (decide (i < (s.size : Int)))
    ((strAt s i).bind fun b =>
    cond (decide (b ≥ 97))
      ((strAt s i).bind fun b1 =>
      cond (!(decide (b1 ≤ 122)))
        (cond (i == 0)
          (some (.inr (.inl (false, ()))))
          ((strAt s i).bind fun b2 =>
          cond (decide (b2 < 48))
            (some (.inr (.inl (false, ()))))
            ((strAt s i).bind fun b3 =>
            cond (decide (b3 > 57))
              (some (.inr (.inl (false, ()))))
              (some (.inl (s, IntKind.i64.wrap (i + 1), ()))))))
        (some (.inl (s, IntKind.i64.wrap (i + 1), ()))))
      (cond (i == 0)
        (some (.inr (.inl (false, ()))))
        ((strAt s i).bind fun b1 =>
        cond (decide (b1 < 48))
          (some (.inr (.inl (false, ()))))
          ((strAt s i).bind fun b2 =>
          cond (decide (b2 > 57))
            (some (.inr (.inl (false, ()))))
            (some (.inl (s, IntKind.i64.wrap (i + 1), ())))))))
    (some (.inr (.inr (s, ()))))
noncomputable def L_spec_IsName_0 (s : ByteArray) (i : Int) : Option ((Bool × Unit) ⊕ (ByteArray × Unit)) := whileO S_spec_IsName_0 (s, i, ())
noncomputable def M_spec_IsName (s : ByteArray) : Option Bool :=
  (L_spec_IsName_0 s 0).bind fun r =>
  match r with
  | .inl (t, _) =>
    some t
  | .inr (s1, _) =>
    (M_spec_l01In (s1.size : Int) 1 8).bind fun r1 =>
    some r1

noncomputable def S_impl_IsName_0 : ByteArray × Int × Unit → Option ((ByteArray × Int × Unit) ⊕ ((Bool × Unit) ⊕ (Unit))) := fun (s, i, _) =>
  cond (decide (i < (s.size : Int)))
    ((strAt s i).bind fun b =>
    cond (decide (b < 97))
      ((strAt s i).bind fun b1 =>
      cond (decide (b1 < 48))
        (some (.inr (.inl (false, ()))))
        ((strAt s i).bind fun b2 =>
        cond (decide (b2 > 57))
          (some (.inr (.inl (false, ()))))
          (some (.inl (s, IntKind.i64.wrap (i + 1), ())))))
      ((strAt s i).bind fun b1 =>
      cond (decide (b1 > 122))
        ((strAt s i).bind fun b2 =>
        cond (decide (b2 < 48))
          (some (.inr (.inl (false, ()))))
          ((strAt s i).bind fun b3 =>
          cond (decide (b3 > 57))
            (some (.inr (.inl (false, ()))))
            (some (.inl (s, IntKind.i64.wrap (i + 1), ())))))
        (some (.inl (s, IntKind.i64.wrap (i + 1), ())))))
    (some (.inr (.inr (()))))
noncomputable def L_impl_IsName_0 (s : ByteArray) (i : Int) : Option ((Bool × Unit) ⊕ (Unit)) := whileO S_impl_IsName_0 (s, i, ())
noncomputable def M_impl_IsName (s : ByteArray) : Option Bool :=
  cond (decide ((s.size : Int) < 1))
    (some false)
    (cond (decide ((s.size : Int) > 8))
      (some false)
      ((strAt s 0).bind fun b =>
      cond (decide (b < 97))
        (some false)
        ((strAt s 0).bind fun b1 =>
        cond (decide (b1 > 122))
          (some false)
          ((L_impl_IsName_0 s 0).bind fun r =>
          match r with
          | .inl (t, _) =>
            some t
          | .inr _ =>
            some true))))

noncomputable def S_impl_ascendingTo_0 : (List Int) × Int × (List Int) × Int × Int × Unit → Option (((List Int) × Int × (List Int) × Int × Int × Unit) ⊕ ((Bool × Unit) ⊕ (Unit))) := fun (l, n, t, t1, t2, _) =>
  cond (decide (t2 < t1))
    ((idx t t2).bind fun e =>
    cond (decide (e < 0))
      (some (.inr (.inl (false, ()))))
      (cond (decide (e ≥ n))
        (some (.inr (.inl (false, ()))))
        (cond (decide (t2 > 0))
          ((idx l (IntKind.i64.wrap (t2 - 1))).bind fun e1 =>
          cond (decide (e1 ≥ e))
            (some (.inr (.inl (false, ()))))
            (some (.inl (l, n, t, t1, IntKind.i64.wrap (t2 + 1), ()))))
          (some (.inl (l, n, t, t1, IntKind.i64.wrap (t2 + 1), ()))))))
    (some (.inr (.inr (()))))
noncomputable def L_impl_ascendingTo_0 (l : List Int) (n : Int) (t : List Int) (t1 : Int) (t2 : Int) : Option ((Bool × Unit) ⊕ (Unit)) := whileO S_impl_ascendingTo_0 (l, n, t, t1, t2, ())
noncomputable def M_impl_ascendingTo (l : List Int) (n : Int) : Option Bool :=
  (L_impl_ascendingTo_0 l n l (l.length : Int) 0).bind fun r =>
  match r with
  | .inl (t, _) =>
    some t
  | .inr _ =>
    some true

end Go.Di
/-
  Own work, written by program (gen.py) out of the functions of the given program: what they compute, as plain Lean.
-/
namespace Go.Di
noncomputable def S_spec_NatOk_0 : (List Int) × (List Int) × Int × Int × Unit → Option (((List Int) × (List Int) × Int × Int × Unit) ⊕ ((Bool × Unit) ⊕ ((List Int) × Unit))) := fun (a, t, t1, t2, _) =>
  cond (decide (t2 < t1))
    ((idx t t2).bind fun e =>
    (M_spec_l01In e 0 999999999).bind fun r =>
    cond (!r)
      (some (.inr (.inl (false, ()))))
      (some (.inl (a, t, t1, IntKind.i64.wrap (t2 + 1), ()))))
    (some (.inr (.inr (a, ()))))
noncomputable def L_spec_NatOk_0 (a : List Int) (t : List Int) (t1 : Int) (t2 : Int) : Option ((Bool × Unit) ⊕ ((List Int) × Unit)) := whileO S_spec_NatOk_0 (a, t, t1, t2, ())
noncomputable def M_spec_NatOk (a : List Int) : Option Bool :=
  (L_spec_NatOk_0 a a (a.length : Int) 0).bind fun r =>
  match r with
  | .inl (t, _) =>
    some t
  | .inr (a1, _) =>
    cond (decide ((a1.length : Int) ≤ 60))
      (cond ((a1.length : Int) == 0)
        (some true)
        ((idx a1 (IntKind.i64.wrap ((a1.length : Int) - 1))).bind fun e =>
        some (e != 0)))
      (some false)

noncomputable def S_spec_l02Trim_0 : (List Int) × Int × Unit → Option (((List Int) × Int × Unit) ⊕ ((List Int) × Int × Unit)) := fun (a, n, _) =>
  cond (decide (n > 0))
    ((idx a (IntKind.i64.wrap (n - 1))).bind fun e =>
    cond (e == 0)
      (some (.inl (a, IntKind.i64.wrap (n - 1), ())))
      (some (.inr (a, n, ()))))
    (some (.inr (a, n, ())))
noncomputable def L_spec_l02Trim_0 (a : List Int) (n : Int) : Option ((List Int) × Int × Unit) := whileO S_spec_l02Trim_0 (a, n, ())
noncomputable def M_spec_l02Trim (a : List Int) : Option (List Int) :=
  (L_spec_l02Trim_0 a (a.length : Int)).bind fun (a1, n, _) =>
  (guardO (inside a1.length (0, n))).bind fun _ =>
  some (cut a1 0 n.toNat)

noncomputable def S_spec_l02Small_0 : (List Int) × Int × Int × Int × (List Int) × Unit → Option (((List Int) × Int × Int × Int × (List Int) × Unit) ⊕ (Int × (List Int) × Unit)) := fun (a, d, rest, i, out, _) =>
  cond (decide (i ≥ 0))
    ((idx a i).bind fun e =>
    (guardO (d != 0)).bind fun _ =>
    (idx out i).bind fun _ =>
    (guardO (d != 0)).bind fun _ =>
    some (.inl (a, d, (IntKind.i64.wrap ((IntKind.i64.wrap (rest * 1000000000)) + e)).tmod d, IntKind.i64.wrap (i - 1), out.set i.toNat (IntKind.i64.wrap ((IntKind.i64.wrap ((IntKind.i64.wrap (rest * 1000000000)) + e)).tdiv d)), ())))
    (some (.inr (rest, out, ())))
noncomputable def L_spec_l02Small_0 (a : List Int) (d : Int) (rest : Int) (i : Int) (out : List Int) : Option (Int × (List Int) × Unit) := whileO S_spec_l02Small_0 (a, d, rest, i, out, ())
noncomputable def M_spec_l02Small (a : List Int) (d : Int) : Option (List Int × Int) :=
  (guardO (((decide (0 ≤ (a.length : Int))) && (decide ((a.length : Int) ≤ (a.length : Int)))) && (decide ((a.length : Int) ≤ (maxNew : Int))))).bind fun _ =>
  (L_spec_l02Small_0 a d 0 (IntKind.i64.wrap ((a.length : Int) - 1)) (List.replicate ((a.length : Int).toNat) 0)).bind fun (rest, out, _) =>
  (M_spec_l02Trim out).bind fun r =>
  some (r, rest)

noncomputable def S_spec_NatOf_0 : Int × (List Int) × Unit → Option ((Int × (List Int) × Unit) ⊕ ((List Int) × Unit)) := fun (n, out, _) =>
  cond (decide (n > 0))
    ((guardO (Nat.ble (out.length + 1) maxNew)).bind fun _ =>
    some (.inl (IntKind.i64.wrap (n.tdiv 1000000000), out ++ ([n.tmod 1000000000] : List Int), ())))
    (some (.inr (out, ())))
noncomputable def L_spec_NatOf_0 (n : Int) (out : List Int) : Option ((List Int) × Unit) := whileO S_spec_NatOf_0 (n, out, ())
noncomputable def M_spec_NatOf (n : Int) : Option (List Int) :=
  (L_spec_NatOf_0 n ([] : List Int)).bind fun (out, _) =>
  some out

noncomputable def S_spec_l02Cmp_0 : (List Int) × (List Int) × Int × Unit → Option (((List Int) × (List Int) × Int × Unit) ⊕ ((Int × Unit) ⊕ (Unit))) := fun (a, b, i, _) =>
  cond (decide (i ≥ 0))
    ((idx a i).bind fun e =>
    (idx b i).bind fun e1 =>
    cond (decide (e < e1))
      (some (.inr (.inl ((-1), ()))))
      ((idx a i).bind fun e2 =>
      (idx b i).bind fun e3 =>
      cond (decide (e2 > e3))
        (some (.inr (.inl (1, ()))))
        (some (.inl (a, b, IntKind.i64.wrap (i - 1), ())))))
    (some (.inr (.inr (()))))
noncomputable def L_spec_l02Cmp_0 (a : List Int) (b : List Int) (i : Int) : Option ((Int × Unit) ⊕ (Unit)) := whileO S_spec_l02Cmp_0 (a, b, i, ())
noncomputable def M_spec_l02Cmp (a : List Int) (b : List Int) : Option Int :=
  cond ((a.length : Int) != (b.length : Int))
    (cond (decide ((a.length : Int) < (b.length : Int)))
      (some (-1))
      (some 1))
    ((L_spec_l02Cmp_0 a b (IntKind.i64.wrap ((a.length : Int) - 1))).bind fun r =>
    match r with
    | .inl (t, _) =>
      some t
    | .inr _ =>
      some 0)

noncomputable def S_spec_l02Mul_1 : (List Int) × Int × Int × Int × (List Int) × Int × Int × (List Int) × Int × Int × (List Int) × Unit → Option (((List Int) × Int × Int × Int × (List Int) × Int × Int × (List Int) × Int × Int × (List Int) × Unit) ⊕ ((List Int) × Int × Int × (List Int) × Int × Int × (List Int) × Unit)) := fun (b, i, x, carry, t, t1, t2, t3, t4, t5, out, _) =>
  cond (decide (t5 < t4))
    ((idx t3 t5).bind fun e =>
    (idx out (IntKind.i64.wrap (i + t5))).bind fun _ =>
    (out[(IntKind.i64.wrap (i + t5)).toNat]?).bind fun e1 =>
    (idx out (IntKind.i64.wrap (i + t5))).bind fun _ =>
    some (.inl (b, i, x, IntKind.i64.wrap ((IntKind.i64.wrap ((IntKind.i64.wrap (e1 + (IntKind.i64.wrap (x * e)))) + carry)).tdiv 1000000000), t, t1, t2, t3, t4, IntKind.i64.wrap (t5 + 1), out.set ((IntKind.i64.wrap (i + t5)).toNat) ((IntKind.i64.wrap ((IntKind.i64.wrap (e1 + (IntKind.i64.wrap (x * e)))) + carry)).tmod 1000000000), ())))
    (some (.inr (b, i, carry, t, t1, t2, out, ())))
noncomputable def L_spec_l02Mul_1 (b : List Int) (i : Int) (x : Int) (carry : Int) (t : List Int) (t1 : Int) (t2 : Int) (t3 : List Int) (t4 : Int) (t5 : Int) (out : List Int) : Option ((List Int) × Int × Int × (List Int) × Int × Int × (List Int) × Unit) := whileO S_spec_l02Mul_1 (b, i, x, carry, t, t1, t2, t3, t4, t5, out, ())
noncomputable def S_spec_l02Mul_0 : (List Int) × (List Int) × Int × Int × (List Int) × Unit → Option (((List Int) × (List Int) × Int × Int × (List Int) × Unit) ⊕ ((List Int) × Unit)) := fun (b, t, t1, t2, out, _) =>
  cond (decide (t2 < t1))
    ((idx t t2).bind fun e =>
    (L_spec_l02Mul_1 b t2 e 0 t t1 t2 b (b.length : Int) 0 out).bind fun (b1, i, carry, t3, t4, t5, out1, _) =>
    (idx out1 (IntKind.i64.wrap (i + (b1.length : Int)))).bind fun _ =>
    some (.inl (b1, t3, t4, IntKind.i64.wrap (t5 + 1), out1.set ((IntKind.i64.wrap (i + (b1.length : Int))).toNat) carry, ())))
    (some (.inr (out, ())))
noncomputable def L_spec_l02Mul_0 (b : List Int) (t : List Int) (t1 : Int) (t2 : Int) (out : List Int) : Option ((List Int) × Unit) := whileO S_spec_l02Mul_0 (b, t, t1, t2, out, ())
noncomputable def M_spec_l02Mul (a : List Int) (b : List Int) : Option (List Int) :=
  cond ((a.length : Int) == 0)
    (some ([] : List Int))
    (cond ((b.length : Int) == 0)
      (some ([] : List Int))
      ((guardO (((decide (0 ≤ (IntKind.i64.wrap ((a.length : Int) + (b.length : Int))))) && (decide ((IntKind.i64.wrap ((a.length : Int) + (b.length : Int))) ≤ (IntKind.i64.wrap ((a.length : Int) + (b.length : Int)))))) && (decide ((IntKind.i64.wrap ((a.length : Int) + (b.length : Int))) ≤ (maxNew : Int))))).bind fun _ =>
      (L_spec_l02Mul_0 b a (a.length : Int) 0 (List.replicate ((IntKind.i64.wrap ((a.length : Int) + (b.length : Int))).toNat) 0)).bind fun (out, _) =>
      (M_spec_l02Trim out).bind fun r =>
      some r))

noncomputable def S_spec_l02Digit_0 : (List Int) × (List Int) × Int × Int × Unit → Option (((List Int) × (List Int) × Int × Int × Unit) ⊕ (Int × Unit)) := fun (r, b, lo, hi, _) =>
  cond (decide (lo < hi))
    ((M_spec_NatOf (IntKind.i64.wrap ((IntKind.i64.wrap ((IntKind.i64.wrap (lo + hi)) + 1)).tdiv 2))).bind fun r1 =>
    (M_spec_l02Mul b r1).bind fun r2 =>
    (M_spec_l02Cmp r2 r).bind fun r3 =>
    cond (decide (r3 ≤ 0))
      (some (.inl (r, b, IntKind.i64.wrap ((IntKind.i64.wrap ((IntKind.i64.wrap (lo + hi)) + 1)).tdiv 2), hi, ())))
      (some (.inl (r, b, lo, IntKind.i64.wrap ((IntKind.i64.wrap ((IntKind.i64.wrap ((IntKind.i64.wrap (lo + hi)) + 1)).tdiv 2)) - 1), ()))))
    (some (.inr (lo, ())))
noncomputable def L_spec_l02Digit_0 (r : List Int) (b : List Int) (lo : Int) (hi : Int) : Option (Int × Unit) := whileO S_spec_l02Digit_0 (r, b, lo, hi, ())
noncomputable def M_spec_l02Digit (r : List Int) (b : List Int) : Option Int :=
  (L_spec_l02Digit_0 r b 0 999999999).bind fun (lo, _) =>
  some lo

noncomputable def S_spec_l02Sub_0 : (List Int) × (List Int) × Int × Int × Int × (List Int) × Unit → Option (((List Int) × (List Int) × Int × Int × Int × (List Int) × Unit) ⊕ ((List Int) × Unit)) := fun (a, b, less, t, t1, out, _) =>
  cond (decide (t1 < t))
    ((idx a t1).bind fun e =>
    cond (decide (t1 < (b.length : Int)))
      ((idx b t1).bind fun e1 =>
      cond (decide ((IntKind.i64.wrap ((IntKind.i64.wrap (e - less)) - e1)) < 0))
        ((guardO (Nat.ble (out.length + 1) maxNew)).bind fun _ =>
        some (.inl (a, b, 1, t, IntKind.i64.wrap (t1 + 1), out ++ ([IntKind.i64.wrap ((IntKind.i64.wrap ((IntKind.i64.wrap (e - less)) - e1)) + 1000000000)] : List Int), ())))
        ((guardO (Nat.ble (out.length + 1) maxNew)).bind fun _ =>
        some (.inl (a, b, 0, t, IntKind.i64.wrap (t1 + 1), out ++ ([IntKind.i64.wrap ((IntKind.i64.wrap (e - less)) - e1)] : List Int), ()))))
      (cond (decide ((IntKind.i64.wrap (e - less)) < 0))
        ((guardO (Nat.ble (out.length + 1) maxNew)).bind fun _ =>
        some (.inl (a, b, 1, t, IntKind.i64.wrap (t1 + 1), out ++ ([IntKind.i64.wrap ((IntKind.i64.wrap (e - less)) + 1000000000)] : List Int), ())))
        ((guardO (Nat.ble (out.length + 1) maxNew)).bind fun _ =>
        some (.inl (a, b, 0, t, IntKind.i64.wrap (t1 + 1), out ++ ([IntKind.i64.wrap (e - less)] : List Int), ())))))
    (some (.inr (out, ())))
noncomputable def L_spec_l02Sub_0 (a : List Int) (b : List Int) (less : Int) (t : Int) (t1 : Int) (out : List Int) : Option ((List Int) × Unit) := whileO S_spec_l02Sub_0 (a, b, less, t, t1, out, ())
noncomputable def M_spec_l02Sub (a : List Int) (b : List Int) : Option (List Int) :=
  (L_spec_l02Sub_0 a b 0 (a.length : Int) 0 ([] : List Int)).bind fun (out, _) =>
  (M_spec_l02Trim out).bind fun r =>
  some r

noncomputable def S_spec_l02Div_0 : (List Int) × (List Int) × (List Int) × Int × (List Int) × Unit → Option (((List Int) × (List Int) × (List Int) × Int × (List Int) × Unit) ⊕ ((List Int) × (List Int) × Unit)) := fun (a, b, rest, i, out, _) =>
  cond (decide (i ≥ 0))
    ((idx a i).bind fun e =>
    (guardO (Nat.ble (1 + rest.length) maxNew)).bind fun _ =>
    (M_spec_l02Trim (([e] : List Int) ++ rest)).bind fun r =>
    (M_spec_l02Cmp r b).bind fun r1 =>
    cond (decide (r1 < 0))
      (some (.inl (a, b, r, IntKind.i64.wrap (i - 1), out, ())))
      ((M_spec_l02Digit r b).bind fun r2 =>
      (idx out i).bind fun _ =>
      (M_spec_NatOf r2).bind fun r3 =>
      (M_spec_l02Mul b r3).bind fun r4 =>
      (M_spec_l02Sub r r4).bind fun r5 =>
      some (.inl (a, b, r5, IntKind.i64.wrap (i - 1), out.set i.toNat r2, ()))))
    (some (.inr (rest, out, ())))
noncomputable def L_spec_l02Div_0 (a : List Int) (b : List Int) (rest : List Int) (i : Int) (out : List Int) : Option ((List Int) × (List Int) × Unit) := whileO S_spec_l02Div_0 (a, b, rest, i, out, ())
noncomputable def M_spec_l02Div (a : List Int) (b : List Int) : Option (List Int × List Int) :=
  cond ((b.length : Int) == 1)
    ((idx b 0).bind fun e =>
    (M_spec_l02Small a e).bind fun (r0, r1) =>
    (M_spec_NatOf r1).bind fun r =>
    some (r0, r))
    ((guardO (((decide (0 ≤ (a.length : Int))) && (decide ((a.length : Int) ≤ (a.length : Int)))) && (decide ((a.length : Int) ≤ (maxNew : Int))))).bind fun _ =>
    (L_spec_l02Div_0 a b ([] : List Int) (IntKind.i64.wrap ((a.length : Int) - 1)) (List.replicate ((a.length : Int).toNat) 0)).bind fun (rest, out, _) =>
    (M_spec_l02Trim out).bind fun r =>
    some (r, rest))

noncomputable def S_spec_l02Add_0 : (List Int) × (List Int) × Int × Int × (List Int) × Unit → Option (((List Int) × (List Int) × Int × Int × (List Int) × Unit) ⊕ ((List Int) × Unit)) := fun (a, b, carry, i, out, _) =>
  cond (decide (i < (a.length : Int)))
    (cond (decide (i < (a.length : Int)))
      ((idx a i).bind fun e =>
      cond (decide (i < (b.length : Int)))
        ((idx b i).bind fun e1 =>
        (guardO (Nat.ble (out.length + 1) maxNew)).bind fun _ =>
        some (.inl (a, b, IntKind.i64.wrap ((IntKind.i64.wrap ((IntKind.i64.wrap (carry + e)) + e1)).tdiv 1000000000), IntKind.i64.wrap (i + 1), out ++ ([(IntKind.i64.wrap ((IntKind.i64.wrap (carry + e)) + e1)).tmod 1000000000] : List Int), ())))
        ((guardO (Nat.ble (out.length + 1) maxNew)).bind fun _ =>
        some (.inl (a, b, IntKind.i64.wrap ((IntKind.i64.wrap (carry + e)).tdiv 1000000000), IntKind.i64.wrap (i + 1), out ++ ([(IntKind.i64.wrap (carry + e)).tmod 1000000000] : List Int), ()))))
      (cond (decide (i < (b.length : Int)))
        ((idx b i).bind fun e =>
        (guardO (Nat.ble (out.length + 1) maxNew)).bind fun _ =>
        some (.inl (a, b, IntKind.i64.wrap ((IntKind.i64.wrap (carry + e)).tdiv 1000000000), IntKind.i64.wrap (i + 1), out ++ ([(IntKind.i64.wrap (carry + e)).tmod 1000000000] : List Int), ())))
        ((guardO (Nat.ble (out.length + 1) maxNew)).bind fun _ =>
        some (.inl (a, b, IntKind.i64.wrap (carry.tdiv 1000000000), IntKind.i64.wrap (i + 1), out ++ ([carry.tmod 1000000000] : List Int), ())))))
    (cond (decide (i < (b.length : Int)))
      (cond (decide (i < (a.length : Int)))
        ((idx a i).bind fun e =>
        cond (decide (i < (b.length : Int)))
          ((idx b i).bind fun e1 =>
          (guardO (Nat.ble (out.length + 1) maxNew)).bind fun _ =>
          some (.inl (a, b, IntKind.i64.wrap ((IntKind.i64.wrap ((IntKind.i64.wrap (carry + e)) + e1)).tdiv 1000000000), IntKind.i64.wrap (i + 1), out ++ ([(IntKind.i64.wrap ((IntKind.i64.wrap (carry + e)) + e1)).tmod 1000000000] : List Int), ())))
          ((guardO (Nat.ble (out.length + 1) maxNew)).bind fun _ =>
          some (.inl (a, b, IntKind.i64.wrap ((IntKind.i64.wrap (carry + e)).tdiv 1000000000), IntKind.i64.wrap (i + 1), out ++ ([(IntKind.i64.wrap (carry + e)).tmod 1000000000] : List Int), ()))))
        (cond (decide (i < (b.length : Int)))
          ((idx b i).bind fun e =>
          (guardO (Nat.ble (out.length + 1) maxNew)).bind fun _ =>
          some (.inl (a, b, IntKind.i64.wrap ((IntKind.i64.wrap (carry + e)).tdiv 1000000000), IntKind.i64.wrap (i + 1), out ++ ([(IntKind.i64.wrap (carry + e)).tmod 1000000000] : List Int), ())))
          ((guardO (Nat.ble (out.length + 1) maxNew)).bind fun _ =>
          some (.inl (a, b, IntKind.i64.wrap (carry.tdiv 1000000000), IntKind.i64.wrap (i + 1), out ++ ([carry.tmod 1000000000] : List Int), ())))))
      (cond (decide (carry > 0))
        (cond (decide (i < (a.length : Int)))
          ((idx a i).bind fun e =>
          cond (decide (i < (b.length : Int)))
            ((idx b i).bind fun e1 =>
            (guardO (Nat.ble (out.length + 1) maxNew)).bind fun _ =>
            some (.inl (a, b, IntKind.i64.wrap ((IntKind.i64.wrap ((IntKind.i64.wrap (carry + e)) + e1)).tdiv 1000000000), IntKind.i64.wrap (i + 1), out ++ ([(IntKind.i64.wrap ((IntKind.i64.wrap (carry + e)) + e1)).tmod 1000000000] : List Int), ())))
            ((guardO (Nat.ble (out.length + 1) maxNew)).bind fun _ =>
            some (.inl (a, b, IntKind.i64.wrap ((IntKind.i64.wrap (carry + e)).tdiv 1000000000), IntKind.i64.wrap (i + 1), out ++ ([(IntKind.i64.wrap (carry + e)).tmod 1000000000] : List Int), ()))))
          (cond (decide (i < (b.length : Int)))
            ((idx b i).bind fun e =>
            (guardO (Nat.ble (out.length + 1) maxNew)).bind fun _ =>
            some (.inl (a, b, IntKind.i64.wrap ((IntKind.i64.wrap (carry + e)).tdiv 1000000000), IntKind.i64.wrap (i + 1), out ++ ([(IntKind.i64.wrap (carry + e)).tmod 1000000000] : List Int), ())))
            ((guardO (Nat.ble (out.length + 1) maxNew)).bind fun _ =>
            some (.inl (a, b, IntKind.i64.wrap (carry.tdiv 1000000000), IntKind.i64.wrap (i + 1), out ++ ([carry.tmod 1000000000] : List Int), ())))))
        (some (.inr (out, ())))))
noncomputable def L_spec_l02Add_0 (a : List Int) (b : List Int) (carry : Int) (i : Int) (out : List Int) : Option ((List Int) × Unit) := whileO S_spec_l02Add_0 (a, b, carry, i, out, ())
noncomputable def M_spec_l02Add (a : List Int) (b : List Int) : Option (List Int) :=
  (L_spec_l02Add_0 a b 0 0 ([] : List Int)).bind fun (out, _) =>
  some out

noncomputable def S_impl_NatOk_0 : (List Int) × Int × Int × Unit → Option (((List Int) × Int × Int × Unit) ⊕ ((Bool × Unit) ⊕ (Unit))) := fun (t, t1, t2, _) =>
  cond (decide (t2 < t1))
    ((idx t t2).bind fun e =>
    cond (decide (e < 0))
      (some (.inr (.inl (false, ()))))
      (cond (decide (e ≥ 1000000000))
        (some (.inr (.inl (false, ()))))
        (some (.inl (t, t1, IntKind.i64.wrap (t2 + 1), ())))))
    (some (.inr (.inr (()))))
noncomputable def L_impl_NatOk_0 (t : List Int) (t1 : Int) (t2 : Int) : Option ((Bool × Unit) ⊕ (Unit)) := whileO S_impl_NatOk_0 (t, t1, t2, ())
noncomputable def M_impl_NatOk (a : List Int) : Option Bool :=
  cond (decide ((a.length : Int) > 60))
    (some false)
    (cond (decide ((a.length : Int) > 0))
      ((idx a (IntKind.i64.wrap ((a.length : Int) - 1))).bind fun e =>
      cond (e == 0)
        (some false)
        ((L_impl_NatOk_0 a (a.length : Int) 0).bind fun r =>
        match r with
        | .inl (t, _) =>
          some t
        | .inr _ =>
          some true))
      ((L_impl_NatOk_0 a (a.length : Int) 0).bind fun r =>
      match r with
      | .inl (t, _) =>
        some t
      | .inr _ =>
        some true))

noncomputable def S_impl_natCmp_0 : (List Int) × (List Int) × Int × Unit → Option (((List Int) × (List Int) × Int × Unit) ⊕ ((Int × Unit) ⊕ (Unit))) := fun (a, b, i, _) =>
  cond (decide (i ≥ 0))
    ((idx a i).bind fun e =>
    (idx b i).bind fun e1 =>
    cond (decide (e < e1))
      (some (.inr (.inl ((-1), ()))))
      ((idx a i).bind fun e2 =>
      (idx b i).bind fun e3 =>
      cond (decide (e2 > e3))
        (some (.inr (.inl (1, ()))))
        (some (.inl (a, b, IntKind.i64.wrap (i - 1), ())))))
    (some (.inr (.inr (()))))
noncomputable def L_impl_natCmp_0 (a : List Int) (b : List Int) (i : Int) : Option ((Int × Unit) ⊕ (Unit)) := whileO S_impl_natCmp_0 (a, b, i, ())
noncomputable def M_impl_natCmp (a : List Int) (b : List Int) : Option Int :=
  cond ((a.length : Int) != (b.length : Int))
    (cond (decide ((a.length : Int) < (b.length : Int)))
      (some (-1))
      (some 1))
    ((L_impl_natCmp_0 a b (IntKind.i64.wrap ((a.length : Int) - 1))).bind fun r =>
    match r with
    | .inl (t, _) =>
      some t
    | .inr _ =>
      some 0)

noncomputable def S_impl_trim_0 : (List Int) × Int × Unit → Option (((List Int) × Int × Unit) ⊕ ((List Int) × Int × Unit)) := fun (a, n, _) =>
  cond (decide (n > 0))
    ((idx a (IntKind.i64.wrap (n - 1))).bind fun e =>
    cond (e == 0)
      (some (.inl (a, IntKind.i64.wrap (n - 1), ())))
      (some (.inr (a, n, ()))))
    (some (.inr (a, n, ())))
noncomputable def L_impl_trim_0 (a : List Int) (n : Int) : Option ((List Int) × Int × Unit) := whileO S_impl_trim_0 (a, n, ())
noncomputable def M_impl_trim (a : List Int) : Option (List Int) :=
  (L_impl_trim_0 a (a.length : Int)).bind fun (a1, n, _) =>
  (guardO (inside a1.length (0, n))).bind fun _ =>
  some (cut a1 0 n.toNat)

noncomputable def S_impl_NatOf_0 : Int × (List Int) × Unit → Option ((Int × (List Int) × Unit) ⊕ ((List Int) × Unit)) := fun (n, out, _) =>
  cond (decide (n > 0))
    ((guardO (Nat.ble (out.length + 1) maxNew)).bind fun _ =>
    some (.inl (IntKind.i64.wrap (n.tdiv 1000000000), out ++ ([n.tmod 1000000000] : List Int), ())))
    (some (.inr (out, ())))
noncomputable def L_impl_NatOf_0 (n : Int) (out : List Int) : Option ((List Int) × Unit) := whileO S_impl_NatOf_0 (n, out, ())
noncomputable def M_impl_NatOf (n : Int) : Option (List Int) :=
  (L_impl_NatOf_0 n ([] : List Int)).bind fun (out, _) =>
  some out

noncomputable def S_impl_divSmall_0 : (List Int) × Int × Int × Int × (List Int) × Unit → Option (((List Int) × Int × Int × Int × (List Int) × Unit) ⊕ (Int × (List Int) × Unit)) := fun (a, d, rest, i, out, _) =>
  cond (decide (i ≥ 0))
    ((idx a i).bind fun e =>
    (guardO (d != 0)).bind fun _ =>
    (idx out i).bind fun _ =>
    (guardO (d != 0)).bind fun _ =>
    some (.inl (a, d, (IntKind.i64.wrap ((IntKind.i64.wrap (rest * 1000000000)) + e)).tmod d, IntKind.i64.wrap (i - 1), out.set i.toNat (IntKind.i64.wrap ((IntKind.i64.wrap ((IntKind.i64.wrap (rest * 1000000000)) + e)).tdiv d)), ())))
    (some (.inr (rest, out, ())))
noncomputable def L_impl_divSmall_0 (a : List Int) (d : Int) (rest : Int) (i : Int) (out : List Int) : Option (Int × (List Int) × Unit) := whileO S_impl_divSmall_0 (a, d, rest, i, out, ())
noncomputable def M_impl_divSmall (a : List Int) (d : Int) : Option (List Int × List Int) :=
  (guardO (((decide (0 ≤ (a.length : Int))) && (decide ((a.length : Int) ≤ (a.length : Int)))) && (decide ((a.length : Int) ≤ (maxNew : Int))))).bind fun _ =>
  (L_impl_divSmall_0 a d 0 (IntKind.i64.wrap ((a.length : Int) - 1)) (List.replicate ((a.length : Int).toNat) 0)).bind fun (rest, out, _) =>
  (M_impl_trim out).bind fun r =>
  (M_impl_NatOf rest).bind fun r1 =>
  some (r, r1)

noncomputable def S_impl_natMul_1 : (List Int) × Int × Int × Int × (List Int) × Int × Int × (List Int) × Int × Int × (List Int) × Unit → Option (((List Int) × Int × Int × Int × (List Int) × Int × Int × (List Int) × Int × Int × (List Int) × Unit) ⊕ ((List Int) × Int × Int × (List Int) × Int × Int × (List Int) × Unit)) := fun (b, i, x, carry, t, t1, t2, t3, t4, t5, out, _) =>
  cond (decide (t5 < t4))
    ((idx t3 t5).bind fun e =>
    (idx out (IntKind.i64.wrap (i + t5))).bind fun _ =>
    (out[(IntKind.i64.wrap (i + t5)).toNat]?).bind fun e1 =>
    (idx out (IntKind.i64.wrap (i + t5))).bind fun _ =>
    some (.inl (b, i, x, IntKind.i64.wrap ((IntKind.i64.wrap ((IntKind.i64.wrap (e1 + (IntKind.i64.wrap (x * e)))) + carry)).tdiv 1000000000), t, t1, t2, t3, t4, IntKind.i64.wrap (t5 + 1), out.set ((IntKind.i64.wrap (i + t5)).toNat) ((IntKind.i64.wrap ((IntKind.i64.wrap (e1 + (IntKind.i64.wrap (x * e)))) + carry)).tmod 1000000000), ())))
    (some (.inr (b, i, carry, t, t1, t2, out, ())))
noncomputable def L_impl_natMul_1 (b : List Int) (i : Int) (x : Int) (carry : Int) (t : List Int) (t1 : Int) (t2 : Int) (t3 : List Int) (t4 : Int) (t5 : Int) (out : List Int) : Option ((List Int) × Int × Int × (List Int) × Int × Int × (List Int) × Unit) := whileO S_impl_natMul_1 (b, i, x, carry, t, t1, t2, t3, t4, t5, out, ())
noncomputable def S_impl_natMul_0 : (List Int) × (List Int) × Int × Int × (List Int) × Unit → Option (((List Int) × (List Int) × Int × Int × (List Int) × Unit) ⊕ ((List Int) × Unit)) := fun (b, t, t1, t2, out, _) =>
  cond (decide (t2 < t1))
    ((idx t t2).bind fun e =>
    (L_impl_natMul_1 b t2 e 0 t t1 t2 b (b.length : Int) 0 out).bind fun (b1, i, carry, t3, t4, t5, out1, _) =>
    (idx out1 (IntKind.i64.wrap (i + (b1.length : Int)))).bind fun _ =>
    (out1[(IntKind.i64.wrap (i + (b1.length : Int))).toNat]?).bind fun e1 =>
    (idx out1 (IntKind.i64.wrap (i + (b1.length : Int)))).bind fun _ =>
    some (.inl (b1, t3, t4, IntKind.i64.wrap (t5 + 1), out1.set ((IntKind.i64.wrap (i + (b1.length : Int))).toNat) (IntKind.i64.wrap (e1 + carry)), ())))
    (some (.inr (out, ())))
noncomputable def L_impl_natMul_0 (b : List Int) (t : List Int) (t1 : Int) (t2 : Int) (out : List Int) : Option ((List Int) × Unit) := whileO S_impl_natMul_0 (b, t, t1, t2, out, ())
noncomputable def M_impl_natMul (a : List Int) (b : List Int) : Option (List Int) :=
  (guardO (((decide (0 ≤ (IntKind.i64.wrap ((a.length : Int) + (b.length : Int))))) && (decide ((IntKind.i64.wrap ((a.length : Int) + (b.length : Int))) ≤ (IntKind.i64.wrap ((a.length : Int) + (b.length : Int)))))) && (decide ((IntKind.i64.wrap ((a.length : Int) + (b.length : Int))) ≤ (maxNew : Int))))).bind fun _ =>
  (L_impl_natMul_0 b a (a.length : Int) 0 (List.replicate ((IntKind.i64.wrap ((a.length : Int) + (b.length : Int))).toNat) 0)).bind fun (out, _) =>
  (M_impl_trim out).bind fun r =>
  some r

noncomputable def M_spec_l02Cap (a : List Int) : Option (List Int) :=
  (M_spec_l02Trim a).bind fun r =>
  cond (decide ((r.length : Int) > 60))
    (some ([] : List Int))
    (some r)

noncomputable def S_spec_NatToInt_0 : (List Int) × Int × Int × Unit → Option (((List Int) × Int × Int × Unit) ⊕ (Int × Unit)) := fun (a, n, i, _) =>
  cond (decide (i ≥ 0))
    ((idx a i).bind fun e =>
    some (.inl (a, IntKind.i64.wrap ((IntKind.i64.wrap (n * 1000000000)) + e), IntKind.i64.wrap (i - 1), ())))
    (some (.inr (n, ())))
noncomputable def L_spec_NatToInt_0 (a : List Int) (n : Int) (i : Int) : Option (Int × Unit) := whileO S_spec_NatToInt_0 (a, n, i, ())
noncomputable def M_spec_NatToInt (a : List Int) : Option (Int × Bool) :=
  (M_spec_NatOk a).bind fun r =>
  cond (!r)
    (some (0, false))
    ((M_spec_l02Cmp a ([854775807, 223372036, 9] : List Int)).bind fun r1 =>
    cond (decide (r1 > 0))
      (some (0, false))
      ((L_spec_NatToInt_0 a 0 (IntKind.i64.wrap ((a.length : Int) - 1))).bind fun (n, _) =>
      some (n, true)))

noncomputable def S_spec_l02Plain_0 : Int × Int × Unit → Option ((Int × Int × Unit) ⊕ (Int × Unit)) := fun (x, y, _) =>
  cond (decide (y > 0))
    ((guardO (y != 0)).bind fun _ =>
    some (.inl (y, x.tmod y, ())))
    (some (.inr (x, ())))
noncomputable def L_spec_l02Plain_0 (x : Int) (y : Int) : Option (Int × Unit) := whileO S_spec_l02Plain_0 (x, y, ())
noncomputable def M_spec_l02Plain (x : Int) (y : Int) : Option (List Int) :=
  (L_spec_l02Plain_0 x y).bind fun (x1, _) =>
  (M_spec_NatOf x1).bind fun r =>
  some r

noncomputable def S_spec_l02Gcd_0 : (List Int) × (List Int) × Unit → Option (((List Int) × (List Int) × Unit) ⊕ (((List Int) × Unit) ⊕ ((List Int) × Unit))) := fun (x, y, _) =>
  cond (decide ((y.length : Int) > 0))
    (cond (decide ((x.length : Int) < 3))
      (cond (decide ((y.length : Int) < 3))
        ((M_spec_NatToInt x).bind fun (r0, r1) =>
        (M_spec_NatToInt y).bind fun (r0_1, r1_1) =>
        (M_spec_l02Plain r0 r0_1).bind fun r =>
        some (.inr (.inl (r, ()))))
        ((M_spec_l02Div x y).bind fun (r0, r1) =>
        some (.inl (y, r1, ()))))
      ((M_spec_l02Div x y).bind fun (r0, r1) =>
      some (.inl (y, r1, ()))))
    (some (.inr (.inr (x, ()))))
noncomputable def L_spec_l02Gcd_0 (x : List Int) (y : List Int) : Option (((List Int) × Unit) ⊕ ((List Int) × Unit)) := whileO S_spec_l02Gcd_0 (x, y, ())
noncomputable def M_spec_l02Gcd (a : List Int) (b : List Int) : Option (List Int) :=
  (guardO (Nat.ble a.length maxNew)).bind fun _ =>
  (guardO (Nat.ble b.length maxNew)).bind fun _ =>
  (L_spec_l02Gcd_0 a b).bind fun r =>
  match r with
  | .inl (t, _) =>
    some t
  | .inr (x, _) =>
    some x

noncomputable def S_impl_natAdd_0 : (List Int) × (List Int) × Int × Int × Int × (List Int) × Unit → Option (((List Int) × (List Int) × Int × Int × Int × (List Int) × Unit) ⊕ (Int × (List Int) × Unit)) := fun (a, b, carry, t, t1, out, _) =>
  cond (decide (t1 < t))
    ((idx a t1).bind fun e =>
    cond (decide (t1 < (b.length : Int)))
      ((idx b t1).bind fun e1 =>
      cond (decide ((IntKind.i64.wrap ((IntKind.i64.wrap (e + carry)) + e1)) ≥ 1000000000))
        ((guardO (Nat.ble (out.length + 1) maxNew)).bind fun _ =>
        some (.inl (a, b, 1, t, IntKind.i64.wrap (t1 + 1), out ++ ([IntKind.i64.wrap ((IntKind.i64.wrap ((IntKind.i64.wrap (e + carry)) + e1)) - 1000000000)] : List Int), ())))
        ((guardO (Nat.ble (out.length + 1) maxNew)).bind fun _ =>
        some (.inl (a, b, 0, t, IntKind.i64.wrap (t1 + 1), out ++ ([IntKind.i64.wrap ((IntKind.i64.wrap (e + carry)) + e1)] : List Int), ()))))
      (cond (decide ((IntKind.i64.wrap (e + carry)) ≥ 1000000000))
        ((guardO (Nat.ble (out.length + 1) maxNew)).bind fun _ =>
        some (.inl (a, b, 1, t, IntKind.i64.wrap (t1 + 1), out ++ ([IntKind.i64.wrap ((IntKind.i64.wrap (e + carry)) - 1000000000)] : List Int), ())))
        ((guardO (Nat.ble (out.length + 1) maxNew)).bind fun _ =>
        some (.inl (a, b, 0, t, IntKind.i64.wrap (t1 + 1), out ++ ([IntKind.i64.wrap (e + carry)] : List Int), ())))))
    (some (.inr (carry, out, ())))
noncomputable def L_impl_natAdd_0 (a : List Int) (b : List Int) (carry : Int) (t : Int) (t1 : Int) (out : List Int) : Option (Int × (List Int) × Unit) := whileO S_impl_natAdd_0 (a, b, carry, t, t1, out, ())
noncomputable def M_impl_natAdd (a : List Int) (b : List Int) : Option (List Int) :=
  cond (decide ((a.length : Int) < (b.length : Int)))
    ((guardO ((decide (0 ≤ (IntKind.i64.wrap ((b.length : Int) + 1)))) && (decide ((IntKind.i64.wrap ((b.length : Int) + 1)) ≤ (maxNew : Int))))).bind fun _ =>
    (L_impl_natAdd_0 b a 0 (b.length : Int) 0 (List.replicate 0 0)).bind fun (carry, out, _) =>
    cond (decide (carry > 0))
      ((guardO (Nat.ble (out.length + 1) maxNew)).bind fun _ =>
      some (out ++ ([1] : List Int)))
      (some out))
    ((guardO ((decide (0 ≤ (IntKind.i64.wrap ((a.length : Int) + 1)))) && (decide ((IntKind.i64.wrap ((a.length : Int) + 1)) ≤ (maxNew : Int))))).bind fun _ =>
    (L_impl_natAdd_0 a b 0 (a.length : Int) 0 (List.replicate 0 0)).bind fun (carry, out, _) =>
    cond (decide (carry > 0))
      ((guardO (Nat.ble (out.length + 1) maxNew)).bind fun _ =>
      some (out ++ ([1] : List Int)))
      (some out))

noncomputable def S_impl_natSub_0 : (List Int) × Int × Int × Int × (List Int) × Unit → Option (((List Int) × Int × Int × Int × (List Int) × Unit) ⊕ ((List Int) × Unit)) := fun (b, borrow, t, t1, out, _) =>
  cond (decide (t1 < t))
    ((idx out t1).bind fun _ =>
    (out[t1.toNat]?).bind fun e =>
    cond (decide (t1 < (b.length : Int)))
      ((idx b t1).bind fun e1 =>
      cond (decide ((IntKind.i64.wrap ((IntKind.i64.wrap (e - borrow)) - e1)) < 0))
        ((idx out t1).bind fun _ =>
        some (.inl (b, 1, t, IntKind.i64.wrap (t1 + 1), out.set t1.toNat (IntKind.i64.wrap ((IntKind.i64.wrap ((IntKind.i64.wrap (e - borrow)) - e1)) + 1000000000)), ())))
        ((idx out t1).bind fun _ =>
        some (.inl (b, 0, t, IntKind.i64.wrap (t1 + 1), out.set t1.toNat (IntKind.i64.wrap ((IntKind.i64.wrap (e - borrow)) - e1)), ()))))
      (cond (decide ((IntKind.i64.wrap (e - borrow)) < 0))
        ((idx out t1).bind fun _ =>
        some (.inl (b, 1, t, IntKind.i64.wrap (t1 + 1), out.set t1.toNat (IntKind.i64.wrap ((IntKind.i64.wrap (e - borrow)) + 1000000000)), ())))
        ((idx out t1).bind fun _ =>
        some (.inl (b, 0, t, IntKind.i64.wrap (t1 + 1), out.set t1.toNat (IntKind.i64.wrap (e - borrow)), ())))))
    (some (.inr (out, ())))
noncomputable def L_impl_natSub_0 (b : List Int) (borrow : Int) (t : Int) (t1 : Int) (out : List Int) : Option ((List Int) × Unit) := whileO S_impl_natSub_0 (b, borrow, t, t1, out, ())
noncomputable def M_impl_natSub (a : List Int) (b : List Int) : Option (List Int) :=
  (M_impl_copyInts a).bind fun r =>
  (L_impl_natSub_0 b 0 (r.length : Int) 0 r).bind fun (out, _) =>
  (M_impl_trim out).bind fun r1 =>
  some r1

end Go.Di
/-
  Own work, written by program (gen.py) out of the functions of the given program: what they compute, as plain Lean.
-/
namespace Go.Di
noncomputable def M_spec_l03Make (neg : Bool) (a : List Int) : Option Bg :=
  (M_spec_l02Cap a).bind fun r =>
  cond neg
    ((guardO (Nat.ble r.length maxNew)).bind fun _ =>
    some (⟨decide ((r.length : Int) > 0), r⟩ : Bg))
    ((guardO (Nat.ble r.length maxNew)).bind fun _ =>
    some (⟨false, r⟩ : Bg))

noncomputable def M_spec_BigIntOf (n : Int) : Option Bg :=
  cond (n == (-9223372036854775808))
    ((M_spec_l03Make true ([854775808, 223372036, 9] : List Int)).bind fun r =>
    some r)
    (cond (decide (n < 0))
      ((M_spec_NatOf (IntKind.i64.wrap (0 - n))).bind fun r =>
      (M_spec_l03Make true r).bind fun r1 =>
      some r1)
      ((M_spec_NatOf n).bind fun r =>
      (M_spec_l03Make false r).bind fun r1 =>
      some r1))

noncomputable def M_spec_BigIntOk (x : Bg) : Option Bool :=
  (M_spec_NatOk x.mag).bind fun r =>
  cond r
    (cond (!x.neg)
      (some true)
      (some (decide ((x.mag.length : Int) > 0))))
    (some false)

noncomputable def M_impl_BigIntOk (x : Bg) : Option Bool :=
  (M_impl_NatOk x.mag).bind fun r =>
  cond r
    (cond (decide ((x.mag.length : Int) > 0))
      (some true)
      (some (!x.neg)))
    (some false)

noncomputable def M_impl_signed (neg : Bool) (mag : List Int) : Option Bg :=
  cond ((mag.length : Int) == 0)
    (some (⟨false, ([] : List Int)⟩ : Bg))
    (some (⟨neg, mag⟩ : Bg))

noncomputable def M_impl_BigIntOf (n : Int) : Option Bg :=
  cond (decide (n ≥ 0))
    ((M_impl_NatOf n).bind fun r =>
    (M_impl_signed false r).bind fun r1 =>
    some r1)
    ((M_impl_NatOf (IntKind.i64.wrap (0 - (IntKind.i64.wrap (n + 1))))).bind fun r =>
    (M_impl_natAdd r ([1] : List Int)).bind fun r1 =>
    (M_impl_signed true r1).bind fun r2 =>
    some r2)

noncomputable def M_impl_bigMul (x : Bg) (y : Bg) : Option Bg :=
  (M_impl_natMul x.mag y.mag).bind fun r =>
  (M_impl_signed (!(x.neg == y.neg)) r).bind fun r1 =>
  some r1

noncomputable def M_impl_bigAdd (x : Bg) (y : Bg) : Option Bg :=
  cond (x.neg == y.neg)
    ((M_impl_natAdd x.mag y.mag).bind fun r =>
    (M_impl_signed x.neg r).bind fun r1 =>
    some r1)
    ((M_impl_natCmp x.mag y.mag).bind fun r =>
    cond (decide (r ≥ 0))
      ((M_impl_natSub x.mag y.mag).bind fun r1 =>
      (M_impl_signed x.neg r1).bind fun r2 =>
      some r2)
      ((M_impl_natSub y.mag x.mag).bind fun r1 =>
      (M_impl_signed y.neg r1).bind fun r2 =>
      some r2))

noncomputable def M_impl_bigNeg (x : Bg) : Option Bg :=
  (M_impl_copyInts x.mag).bind fun r =>
  (M_impl_signed (!x.neg) r).bind fun r1 =>
  some r1

noncomputable def M_impl_bigCmp (x : Bg) (y : Bg) : Option Int :=
  cond (!(x.neg == y.neg))
    (cond x.neg
      (some (-1))
      (cond (!(x.neg == y.neg))
        (some 1)
        (cond x.neg
          ((M_impl_natCmp y.mag x.mag).bind fun r =>
          some r)
          ((M_impl_natCmp x.mag y.mag).bind fun r =>
          some r))))
    (cond (!(x.neg == y.neg))
      (some 1)
      (cond x.neg
        ((M_impl_natCmp y.mag x.mag).bind fun r =>
        some r)
        ((M_impl_natCmp x.mag y.mag).bind fun r =>
        some r)))

noncomputable def M_spec_l03Add (x : Bg) (y : Bg) : Option Bg :=
  cond (x.neg == y.neg)
    ((M_spec_l02Add x.mag y.mag).bind fun r =>
    (M_spec_l03Make x.neg r).bind fun r1 =>
    some r1)
    ((M_spec_l02Cmp x.mag y.mag).bind fun r =>
    cond (decide (r ≥ 0))
      ((M_spec_l02Sub x.mag y.mag).bind fun r1 =>
      (M_spec_l03Make x.neg r1).bind fun r2 =>
      some r2)
      ((M_spec_l02Sub y.mag x.mag).bind fun r1 =>
      (M_spec_l03Make y.neg r1).bind fun r2 =>
      some r2))

end Go.Di
/-
  Own work, written by program (gen.py) out of the functions of the given program: what they compute, as plain Lean.
-/
namespace Go.Di
noncomputable def S_spec_l04List_0 : (List Int) × (List Int) × Int × Int × Unit → Option (((List Int) × (List Int) × Int × Int × Unit) ⊕ ((Bool × Unit) ⊕ (Unit))) := fun (a, b, t, t1, _) =>
  cond (decide (t1 < t))
    ((idx a t1).bind fun e =>
    (idx b t1).bind fun e1 =>
    cond (e != e1)
      (some (.inr (.inl (false, ()))))
      (some (.inl (a, b, t, IntKind.i64.wrap (t1 + 1), ()))))
    (some (.inr (.inr (()))))
noncomputable def L_spec_l04List_0 (a : List Int) (b : List Int) (t : Int) (t1 : Int) : Option ((Bool × Unit) ⊕ (Unit)) := whileO S_spec_l04List_0 (a, b, t, t1, ())
noncomputable def M_spec_l04List (a : List Int) (b : List Int) : Option Bool :=
  cond ((a.length : Int) != (b.length : Int))
    (some false)
    ((L_spec_l04List_0 a b (a.length : Int) 0).bind fun r =>
    match r with
    | .inl (t, _) =>
      some t
    | .inr _ =>
      some true)

noncomputable def M_spec_RatEqual (r : Rt) (s : Rt) : Option Bool :=
  cond (r.neg == s.neg)
    ((M_spec_l04List r.mag s.mag).bind fun r1 =>
    cond r1
      ((M_spec_l04List r.den s.den).bind fun r2 =>
      some r2)
      (some false))
    (some false)

noncomputable def S_impl_sameInts_0 : (List Int) × (List Int) × Int × Int × Unit → Option (((List Int) × (List Int) × Int × Int × Unit) ⊕ ((Bool × Unit) ⊕ (Unit))) := fun (a, b, t, t1, _) =>
  cond (decide (t1 < t))
    ((idx a t1).bind fun e =>
    (idx b t1).bind fun e1 =>
    cond (e != e1)
      (some (.inr (.inl (false, ()))))
      (some (.inl (a, b, t, IntKind.i64.wrap (t1 + 1), ()))))
    (some (.inr (.inr (()))))
noncomputable def L_impl_sameInts_0 (a : List Int) (b : List Int) (t : Int) (t1 : Int) : Option ((Bool × Unit) ⊕ (Unit)) := whileO S_impl_sameInts_0 (a, b, t, t1, ())
noncomputable def M_impl_sameInts (a : List Int) (b : List Int) : Option Bool :=
  cond ((a.length : Int) != (b.length : Int))
    (some false)
    ((L_impl_sameInts_0 a b (a.length : Int) 0).bind fun r =>
    match r with
    | .inl (t, _) =>
      some t
    | .inr _ =>
      some true)

noncomputable def M_impl_RatEqual (r : Rt) (s : Rt) : Option Bool :=
  cond (r.neg == s.neg)
    ((M_impl_sameInts r.mag s.mag).bind fun r1 =>
    cond r1
      ((M_impl_sameInts r.den s.den).bind fun r2 =>
      some r2)
      (some false))
    (some false)

noncomputable def M_spec_l04Copy (r : Rt) : Option Rt :=
  (guardO (Nat.ble r.mag.length maxNew)).bind fun _ =>
  (guardO (Nat.ble r.den.length maxNew)).bind fun _ =>
  some r

noncomputable def M_impl_copyRat (r : Rt) : Option Rt :=
  (M_impl_copyInts r.mag).bind fun r1 =>
  (M_impl_copyInts r.den).bind fun r2 =>
  some (⟨r.neg, r1, r2⟩ : Rt)

noncomputable def M_spec_RatFromInt (n : Int) : Option Rt :=
  (M_spec_BigIntOf n).bind fun r =>
  some (⟨r.neg, r.mag, ([1] : List Int)⟩ : Rt)

noncomputable def M_spec_l04One (a : List Int) : Option Bool :=
  cond ((a.length : Int) == 1)
    ((idx a 0).bind fun e =>
    some (e == 1))
    (some false)

noncomputable def M_spec_RatOk (r : Rt) : Option Bool :=
  (M_spec_BigIntOk (⟨r.neg, r.mag⟩ : Bg)).bind fun r1 =>
  cond (!r1)
    (some false)
    ((M_spec_NatOk r.den).bind fun r2 =>
    cond (!r2)
      (some false)
      (cond ((r.den.length : Int) == 0)
        (some false)
        (cond (decide ((r.den.length : Int) > 24))
          (some false)
          (cond (decide ((r.mag.length : Int) > 24))
            (some false)
            ((M_spec_l02Gcd r.mag r.den).bind fun r3 =>
            (M_spec_l04One r3).bind fun r4 =>
            some r4)))))

noncomputable def M_impl_isZero (r : Rt) : Option Bool :=
  some ((r.mag.length : Int) == 0)

noncomputable def S_impl_copyVector_0 : (List Rt) × Int × Int × (List Rt) × Unit → Option (((List Rt) × Int × Int × (List Rt) × Unit) ⊕ ((List Rt) × Unit)) := fun (t, t1, t2, out, _) =>
  cond (decide (t2 < t1))
    ((idx t t2).bind fun e =>
    (M_impl_copyRat e).bind fun r =>
    (guardO (Nat.ble (out.length + 1) maxNew)).bind fun _ =>
    some (.inl (t, t1, IntKind.i64.wrap (t2 + 1), out ++ ([r] : List Rt), ())))
    (some (.inr (out, ())))
noncomputable def L_impl_copyVector_0 (t : List Rt) (t1 : Int) (t2 : Int) (out : List Rt) : Option ((List Rt) × Unit) := whileO S_impl_copyVector_0 (t, t1, t2, out, ())
noncomputable def M_impl_copyVector (v : List Rt) : Option (List Rt) :=
  (L_impl_copyVector_0 v (v.length : Int) 0 ([] : List Rt)).bind fun (out, _) =>
  some out

noncomputable def M_impl_isOne (a : List Int) : Option Bool :=
  cond ((a.length : Int) == 1)
    ((idx a 0).bind fun e =>
    some (e == 1))
    (some false)

noncomputable def M_spec_RatSign (r : Rt) : Option Int :=
  (M_spec_RatOk r).bind fun r1 =>
  cond (!r1)
    (some 0)
    (cond ((r.mag.length : Int) == 0)
      (some 0)
      (cond r.neg
        (some (-1))
        (some 1)))

noncomputable def M_impl_void (r : Rt) : Option Bool :=
  some ((r.den.length : Int) == 0)

noncomputable def M_impl_neg (r : Rt) : Option Rt :=
  (M_impl_void r).bind fun r1 =>
  cond r1
    (some (⟨false, ([] : List Int), ([] : List Int)⟩ : Rt))
    ((M_impl_bigNeg (⟨r.neg, r.mag⟩ : Bg)).bind fun r2 =>
    (M_impl_copyInts r.den).bind fun r3 =>
    some (⟨r2.neg, r2.mag, r3⟩ : Rt))

noncomputable def M_impl_cmp (r : Rt) (s : Rt) : Option Int :=
  (M_impl_bigMul (⟨r.neg, r.mag⟩ : Bg) (⟨false, s.den⟩ : Bg)).bind fun r1 =>
  (M_impl_bigMul (⟨s.neg, s.mag⟩ : Bg) (⟨false, r.den⟩ : Bg)).bind fun r2 =>
  (M_impl_bigCmp r1 r2).bind fun r3 =>
  some r3

noncomputable def M_spec_l04Low (neg : Bool) (a : List Int) (b : List Int) : Option Rt :=
  (M_spec_l02Trim a).bind fun r =>
  (M_spec_l02Trim b).bind fun r1 =>
  cond ((r1.length : Int) == 0)
    (some (⟨false, ([] : List Int), ([] : List Int)⟩ : Rt))
    ((M_spec_l04One r1).bind fun r2 =>
    cond (!r2)
      ((M_spec_l02Gcd r r1).bind fun r3 =>
      (M_spec_l04One r3).bind fun r4 =>
      cond (!r4)
        ((M_spec_l02Div r r3).bind fun (r0, r1) =>
        (M_spec_l02Div r1 r3).bind fun (r0_1, r1_1) =>
        cond (decide ((r0.length : Int) > 24))
          (some (⟨false, ([] : List Int), ([] : List Int)⟩ : Rt))
          (cond (decide ((r0_1.length : Int) > 24))
            (some (⟨false, ([] : List Int), ([] : List Int)⟩ : Rt))
            ((M_spec_l03Make neg r0).bind fun r5 =>
            (guardO (Nat.ble r0_1.length maxNew)).bind fun _ =>
            some (⟨r5.neg, r5.mag, r0_1⟩ : Rt))))
        (cond (decide ((r.length : Int) > 24))
          (some (⟨false, ([] : List Int), ([] : List Int)⟩ : Rt))
          (cond (decide ((r1.length : Int) > 24))
            (some (⟨false, ([] : List Int), ([] : List Int)⟩ : Rt))
            ((M_spec_l03Make neg r).bind fun r5 =>
            (guardO (Nat.ble r1.length maxNew)).bind fun _ =>
            some (⟨r5.neg, r5.mag, r1⟩ : Rt)))))
      (cond (decide ((r.length : Int) > 24))
        (some (⟨false, ([] : List Int), ([] : List Int)⟩ : Rt))
        (cond (decide ((r1.length : Int) > 24))
          (some (⟨false, ([] : List Int), ([] : List Int)⟩ : Rt))
          ((M_spec_l03Make neg r).bind fun r3 =>
          (guardO (Nat.ble r1.length maxNew)).bind fun _ =>
          some (⟨r3.neg, r3.mag, r1⟩ : Rt)))))

noncomputable def M_spec_l04Mul (r : Rt) (s : Rt) : Option Rt :=
  (M_spec_l02Mul r.mag s.mag).bind fun r1 =>
  (M_spec_l02Mul r.den s.den).bind fun r2 =>
  (M_spec_l04Low (!(r.neg == s.neg)) r1 r2).bind fun r3 =>
  some r3

noncomputable def M_impl_sign (r : Rt) : Option Int :=
  cond r.neg
    (some (-1))
    (cond (decide ((r.mag.length : Int) > 0))
      (some 1)
      (some 0))

noncomputable def M_spec_RatMake (num : Bg) (den : Bg) : Option Rt :=
  (M_spec_BigIntOk num).bind fun r =>
  cond (!r)
    (some (⟨false, ([] : List Int), ([] : List Int)⟩ : Rt))
    ((M_spec_BigIntOk den).bind fun r1 =>
    cond (!r1)
      (some (⟨false, ([] : List Int), ([] : List Int)⟩ : Rt))
      ((M_spec_l04Low (!(num.neg == den.neg)) num.mag den.mag).bind fun r2 =>
      some r2))

noncomputable def M_spec_RatOf (n : Int) (d : Int) : Option Rt :=
  (M_spec_BigIntOf n).bind fun r =>
  (M_spec_BigIntOf d).bind fun r1 =>
  (M_spec_RatMake r r1).bind fun r2 =>
  some r2

end Go.Di
/-
  Own work, written by program (gen.py) out of the functions of the given program: what they compute, as plain Lean.
-/
namespace Go.Di
noncomputable def S_spec_EqualVectors_0 : (List Rt) × (List Rt) × Int × Int × Unit → Option (((List Rt) × (List Rt) × Int × Int × Unit) ⊕ ((Bool × Unit) ⊕ (Unit))) := fun (b, t, t1, t2, _) =>
  cond (decide (t2 < t1))
    ((idx t t2).bind fun e =>
    (idx b t2).bind fun e1 =>
    (M_spec_RatEqual e e1).bind fun r =>
    cond (!r)
      (some (.inr (.inl (false, ()))))
      (some (.inl (b, t, t1, IntKind.i64.wrap (t2 + 1), ()))))
    (some (.inr (.inr (()))))
noncomputable def L_spec_EqualVectors_0 (b : List Rt) (t : List Rt) (t1 : Int) (t2 : Int) : Option ((Bool × Unit) ⊕ (Unit)) := whileO S_spec_EqualVectors_0 (b, t, t1, t2, ())
noncomputable def M_spec_EqualVectors (a : List Rt) (b : List Rt) : Option Bool :=
  cond ((a.length : Int) != (b.length : Int))
    (some false)
    ((L_spec_EqualVectors_0 b a (a.length : Int) 0).bind fun r =>
    match r with
    | .inl (t, _) =>
      some t
    | .inr _ =>
      some true)

noncomputable def S_impl_EqualVectors_0 : (List Rt) × (List Rt) × Int × Int × Unit → Option (((List Rt) × (List Rt) × Int × Int × Unit) ⊕ ((Bool × Unit) ⊕ (Unit))) := fun (a, b, t, t1, _) =>
  cond (decide (t1 < t))
    ((idx a t1).bind fun e =>
    (idx b t1).bind fun e1 =>
    (M_impl_RatEqual e e1).bind fun r =>
    cond (!r)
      (some (.inr (.inl (false, ()))))
      (some (.inl (a, b, t, IntKind.i64.wrap (t1 + 1), ()))))
    (some (.inr (.inr (()))))
noncomputable def L_impl_EqualVectors_0 (a : List Rt) (b : List Rt) (t : Int) (t1 : Int) : Option ((Bool × Unit) ⊕ (Unit)) := whileO S_impl_EqualVectors_0 (a, b, t, t1, ())
noncomputable def M_impl_EqualVectors (a : List Rt) (b : List Rt) : Option Bool :=
  cond ((a.length : Int) != (b.length : Int))
    (some false)
    ((L_impl_EqualVectors_0 a b (a.length : Int) 0).bind fun r =>
    match r with
    | .inl (t, _) =>
      some t
    | .inr _ =>
      some true)

noncomputable def M_spec_l05Zero : Option Rt :=
  (M_spec_RatFromInt 0).bind fun r =>
  some r

noncomputable def S_spec_l05Zeros_0 : Int × (List Rt) × Unit → Option ((Int × (List Rt) × Unit) ⊕ ((List Rt) × Unit)) := fun (n, out, _) =>
  cond (decide ((out.length : Int) < n))
    ((M_spec_l05Zero).bind fun r =>
    (guardO (Nat.ble (out.length + 1) maxNew)).bind fun _ =>
    some (.inl (n, out ++ ([r] : List Rt), ())))
    (some (.inr (out, ())))
noncomputable def L_spec_l05Zeros_0 (n : Int) (out : List Rt) : Option ((List Rt) × Unit) := whileO S_spec_l05Zeros_0 (n, out, ())
noncomputable def M_spec_l05Zeros (n : Int) : Option (List Rt) :=
  (L_spec_l05Zeros_0 n ([] : List Rt)).bind fun (out, _) =>
  some out

noncomputable def M_spec_l05Nil (r : Rt) : Option Bool :=
  some ((r.mag.length : Int) == 0)

noncomputable def S_spec_l05Copy_0 : (List Rt) × Int × Int × (List Rt) × Unit → Option (((List Rt) × Int × Int × (List Rt) × Unit) ⊕ ((List Rt) × Unit)) := fun (t, t1, t2, out, _) =>
  cond (decide (t2 < t1))
    ((idx t t2).bind fun e =>
    (M_spec_l04Copy e).bind fun r =>
    (guardO (Nat.ble (out.length + 1) maxNew)).bind fun _ =>
    some (.inl (t, t1, IntKind.i64.wrap (t2 + 1), out ++ ([r] : List Rt), ())))
    (some (.inr (out, ())))
noncomputable def L_spec_l05Copy_0 (t : List Rt) (t1 : Int) (t2 : Int) (out : List Rt) : Option ((List Rt) × Unit) := whileO S_spec_l05Copy_0 (t, t1, t2, out, ())
noncomputable def M_spec_l05Copy (v : List Rt) : Option (List Rt) :=
  (L_spec_l05Copy_0 v (v.length : Int) 0 ([] : List Rt)).bind fun (out, _) =>
  some out

noncomputable def M_spec_l05Bad (r : Rt) : Option Bool :=
  some ((r.den.length : Int) == 0)

noncomputable def M_spec_l05Div (a : Rt) (b : Rt) : Option Rt :=
  (M_spec_l02Mul a.mag b.den).bind fun r =>
  (M_spec_l02Mul a.den b.mag).bind fun r1 =>
  (M_spec_l04Low (!(a.neg == b.neg)) r r1).bind fun r2 =>
  some r2

noncomputable def S_impl_complete_0 : (List Rt) × Int × Int × Unit → Option (((List Rt) × Int × Int × Unit) ⊕ ((Bool × Unit) ⊕ (Unit))) := fun (t, t1, t2, _) =>
  cond (decide (t2 < t1))
    ((idx t t2).bind fun e =>
    (M_impl_void e).bind fun r =>
    cond r
      (some (.inr (.inl (false, ()))))
      (some (.inl (t, t1, IntKind.i64.wrap (t2 + 1), ()))))
    (some (.inr (.inr (()))))
noncomputable def L_impl_complete_0 (t : List Rt) (t1 : Int) (t2 : Int) : Option ((Bool × Unit) ⊕ (Unit)) := whileO S_impl_complete_0 (t, t1, t2, ())
noncomputable def M_impl_complete (v : List Rt) : Option Bool :=
  (L_impl_complete_0 v (v.length : Int) 0).bind fun r =>
  match r with
  | .inl (t, _) =>
    some t
  | .inr _ =>
    some true

end Go.Di
/-
  Own work, written by program (gen.py) out of the functions of the given program: what they compute, as plain Lean.
-/
namespace Go.Di
noncomputable def S_spec_FindStation_0 : ByteArray × (List Sta) × Int × Int × Unit → Option ((ByteArray × (List Sta) × Int × Int × Unit) ⊕ ((Int × Unit) ⊕ (Unit))) := fun (name, t, t1, t2, _) =>
  cond (decide (t2 < t1))
    ((idx t t2).bind fun e =>
    cond (strEq e.name name)
      (some (.inr (.inl (t2, ()))))
      (some (.inl (name, t, t1, IntKind.i64.wrap (t2 + 1), ()))))
    (some (.inr (.inr (()))))
noncomputable def L_spec_FindStation_0 (name : ByteArray) (t : List Sta) (t1 : Int) (t2 : Int) : Option ((Int × Unit) ⊕ (Unit)) := whileO S_spec_FindStation_0 (name, t, t1, t2, ())
noncomputable def M_spec_FindStation (n : Net) (name : ByteArray) : Option Int :=
  (L_spec_FindStation_0 name n.stations (n.stations.length : Int) 0).bind fun r =>
  match r with
  | .inl (t, _) =>
    some t
  | .inr _ =>
    some (-1)

noncomputable def S_impl_FindStation_0 : ByteArray × (List Sta) × Int × Int × Unit → Option ((ByteArray × (List Sta) × Int × Int × Unit) ⊕ ((Int × Unit) ⊕ (Unit))) := fun (name, t, t1, t2, _) =>
  cond (decide (t2 < t1))
    ((idx t t2).bind fun e =>
    cond (strEq e.name name)
      (some (.inr (.inl (t2, ()))))
      (some (.inl (name, t, t1, IntKind.i64.wrap (t2 + 1), ()))))
    (some (.inr (.inr (()))))
noncomputable def L_impl_FindStation_0 (name : ByteArray) (t : List Sta) (t1 : Int) (t2 : Int) : Option ((Int × Unit) ⊕ (Unit)) := whileO S_impl_FindStation_0 (name, t, t1, t2, ())
noncomputable def M_impl_FindStation (n : Net) (name : ByteArray) : Option Int :=
  (L_impl_FindStation_0 name n.stations (n.stations.length : Int) 0).bind fun r =>
  match r with
  | .inl (t, _) =>
    some t
  | .inr _ =>
    some (-1)

noncomputable def S_spec_SameNetworks_0 : (List Sta) × Int × Int × Bool × (List Sta) × Unit → Option (((List Sta) × Int × Int × Bool × (List Sta) × Unit) ⊕ ((Bool × Unit) ⊕ (Unit))) := fun (t, t1, t2, v, v1, _) =>
  cond (decide (t2 < t1))
    ((idx t t2).bind fun e =>
    (idx v1 t2).bind fun e1 =>
    cond (!(strEq e.name e1.name))
      (some (.inr (.inl (false, ()))))
      (cond (!(e.fixed == e1.fixed))
        (some (.inr (.inl (false, ()))))
        ((M_spec_RatEqual e.x e1.x).bind fun r =>
        cond (!r)
          (some (.inr (.inl (false, ()))))
          ((M_spec_RatEqual e.y e1.y).bind fun r1 =>
          cond (!r1)
            (some (.inr (.inl (false, ()))))
            (some (.inl (t, t1, IntKind.i64.wrap (t2 + 1), v, v1, ())))))))
    (some (.inr (.inr (()))))
noncomputable def L_spec_SameNetworks_0 (t : List Sta) (t1 : Int) (t2 : Int) (v : Bool) (v1 : List Sta) : Option ((Bool × Unit) ⊕ (Unit)) := whileO S_spec_SameNetworks_0 (t, t1, t2, v, v1, ())
noncomputable def M_spec_SameNetworks (a : Net) (b : Net) : Option Bool :=
  cond (!(a.plane == b.plane))
    (some false)
    (cond ((a.stations.length : Int) != (b.stations.length : Int))
      (some false)
      ((L_spec_SameNetworks_0 a.stations (a.stations.length : Int) 0 b.plane b.stations).bind fun r =>
      match r with
      | .inl (t, _) =>
        some t
      | .inr _ =>
        some true))

noncomputable def S_impl_SameNetworks_0 : (List Sta) × Int × Int × Bool × (List Sta) × Unit → Option (((List Sta) × Int × Int × Bool × (List Sta) × Unit) ⊕ ((Bool × Unit) ⊕ (Unit))) := fun (t, t1, t2, v, v1, _) =>
  cond (decide (t2 < t1))
    ((idx t t2).bind fun e =>
    (idx v1 t2).bind fun e1 =>
    cond (!(strEq e.name e1.name))
      (some (.inr (.inl (false, ()))))
      (cond (!(e.fixed == e1.fixed))
        (some (.inr (.inl (false, ()))))
        ((M_impl_RatEqual e.x e1.x).bind fun r =>
        cond (!r)
          (some (.inr (.inl (false, ()))))
          ((M_impl_RatEqual e.y e1.y).bind fun r1 =>
          cond (!r1)
            (some (.inr (.inl (false, ()))))
            (some (.inl (t, t1, IntKind.i64.wrap (t2 + 1), v, v1, ())))))))
    (some (.inr (.inr (()))))
noncomputable def L_impl_SameNetworks_0 (t : List Sta) (t1 : Int) (t2 : Int) (v : Bool) (v1 : List Sta) : Option ((Bool × Unit) ⊕ (Unit)) := whileO S_impl_SameNetworks_0 (t, t1, t2, v, v1, ())
noncomputable def M_impl_SameNetworks (a : Net) (b : Net) : Option Bool :=
  cond (!(a.plane == b.plane))
    (some false)
    (cond ((a.stations.length : Int) != (b.stations.length : Int))
      (some false)
      ((L_impl_SameNetworks_0 a.stations (a.stations.length : Int) 0 b.plane b.stations).bind fun r =>
      match r with
      | .inl (t, _) =>
        some t
      | .inr _ =>
        some true))

noncomputable def M_spec_StationOk (s : Sta) (plane : Bool) : Option Bool :=
  (M_spec_IsName s.name).bind fun r =>
  cond r
    ((M_spec_RatOk s.x).bind fun r1 =>
    cond r1
      ((M_spec_RatOk s.y).bind fun r2 =>
      cond r2
        (cond plane
          (some true)
          ((M_spec_l05Nil s.y).bind fun r3 =>
          some r3))
        (some false))
      (some false))
    (some false)

noncomputable def S_spec_NetworkOk_0 : (List Sta) × Int × Int × Bool × (List Sta) × Unit → Option (((List Sta) × Int × Int × Bool × (List Sta) × Unit) ⊕ ((Bool × Unit) ⊕ (Unit))) := fun (t, t1, t2, v, v1, _) =>
  cond (decide (t2 < t1))
    ((idx t t2).bind fun e =>
    (M_spec_StationOk e v).bind fun r =>
    cond (!r)
      (some (.inr (.inl (false, ()))))
      ((M_spec_FindStation (⟨v, v1⟩ : Net) e.name).bind fun r1 =>
      cond (r1 != t2)
        (some (.inr (.inl (false, ()))))
        (some (.inl (t, t1, IntKind.i64.wrap (t2 + 1), v, v1, ())))))
    (some (.inr (.inr (()))))
noncomputable def L_spec_NetworkOk_0 (t : List Sta) (t1 : Int) (t2 : Int) (v : Bool) (v1 : List Sta) : Option ((Bool × Unit) ⊕ (Unit)) := whileO S_spec_NetworkOk_0 (t, t1, t2, v, v1, ())
noncomputable def M_spec_NetworkOk (n : Net) : Option Bool :=
  cond (decide ((n.stations.length : Int) > 8))
    (some false)
    ((L_spec_NetworkOk_0 n.stations (n.stations.length : Int) 0 n.plane n.stations).bind fun r =>
    match r with
    | .inl (t, _) =>
      some t
    | .inr _ =>
      some true)

noncomputable def M_spec_l10Axes (n : Net) : Option Int :=
  cond n.plane
    (some 2)
    (some 1)

noncomputable def S_spec_l10Count_0 : Int × (List Sta) × Int × Int × Bool × (List Sta) × Unit → Option ((Int × (List Sta) × Int × Int × Bool × (List Sta) × Unit) ⊕ (Int × Unit)) := fun (k, t, t1, t2, v, v1, _) =>
  cond (decide (t2 < t1))
    ((idx t t2).bind fun e =>
    cond (!e.fixed)
      ((M_spec_l10Axes (⟨v, v1⟩ : Net)).bind fun r =>
      some (.inl (IntKind.i64.wrap (k + r), t, t1, IntKind.i64.wrap (t2 + 1), v, v1, ())))
      (some (.inl (k, t, t1, IntKind.i64.wrap (t2 + 1), v, v1, ()))))
    (some (.inr (k, ())))
noncomputable def L_spec_l10Count_0 (k : Int) (t : List Sta) (t1 : Int) (t2 : Int) (v : Bool) (v1 : List Sta) : Option (Int × Unit) := whileO S_spec_l10Count_0 (k, t, t1, t2, v, v1, ())
noncomputable def M_spec_l10Count (n : Net) : Option Int :=
  (L_spec_l10Count_0 0 n.stations (n.stations.length : Int) 0 n.plane n.stations).bind fun (k, _) =>
  some k

noncomputable def M_spec_CountUnknowns (n : Net) : Option Int :=
  (M_spec_NetworkOk n).bind fun r =>
  cond (!r)
    (some 0)
    ((M_spec_l10Count n).bind fun r1 =>
    some r1)

noncomputable def S_spec_l10First_0 : Int × Int × (List Sta) × Int × Int × Bool × (List Sta) × Unit → Option ((Int × Int × (List Sta) × Int × Int × Bool × (List Sta) × Unit) ⊕ ((Int × Unit) ⊕ (Unit))) := fun (station, k, t, t1, t2, v, v1, _) =>
  cond (decide (t2 < t1))
    ((idx t t2).bind fun e =>
    cond (t2 == station)
      (cond e.fixed
        (some (.inr (.inl ((-1), ()))))
        (cond (t2 == station)
          (some (.inr (.inl (k, ()))))
          (cond (!e.fixed)
            ((M_spec_l10Axes (⟨v, v1⟩ : Net)).bind fun r =>
            some (.inl (station, IntKind.i64.wrap (k + r), t, t1, IntKind.i64.wrap (t2 + 1), v, v1, ())))
            (some (.inl (station, k, t, t1, IntKind.i64.wrap (t2 + 1), v, v1, ()))))))
      (cond (t2 == station)
        (some (.inr (.inl (k, ()))))
        (cond (!e.fixed)
          ((M_spec_l10Axes (⟨v, v1⟩ : Net)).bind fun r =>
          some (.inl (station, IntKind.i64.wrap (k + r), t, t1, IntKind.i64.wrap (t2 + 1), v, v1, ())))
          (some (.inl (station, k, t, t1, IntKind.i64.wrap (t2 + 1), v, v1, ()))))))
    (some (.inr (.inr (()))))
noncomputable def L_spec_l10First_0 (station : Int) (k : Int) (t : List Sta) (t1 : Int) (t2 : Int) (v : Bool) (v1 : List Sta) : Option ((Int × Unit) ⊕ (Unit)) := whileO S_spec_l10First_0 (station, k, t, t1, t2, v, v1, ())
noncomputable def M_spec_l10First (n : Net) (station : Int) : Option Int :=
  (L_spec_l10First_0 station 0 n.stations (n.stations.length : Int) 0 n.plane n.stations).bind fun r =>
  match r with
  | .inl (t, _) =>
    some t
  | .inr _ =>
    some (-1)

noncomputable def M_spec_UnknownOf (n : Net) (station : Int) : Option Int :=
  (M_spec_NetworkOk n).bind fun r =>
  cond (!r)
    (some (-1))
    ((M_spec_l01In station 0 (IntKind.i64.wrap ((n.stations.length : Int) - 1))).bind fun r1 =>
    cond (!r1)
      (some (-1))
      ((M_spec_l10First n station).bind fun r2 =>
      some r2))

noncomputable def S_spec_NameOfUnknown_0 : Int × (List Sta) × Int × Int × Bool × (List Sta) × Unit → Option ((Int × (List Sta) × Int × Int × Bool × (List Sta) × Unit) ⊕ ((ByteArray × Unit) ⊕ (Unit))) := fun (k, t, t1, t2, v, v1, _) =>
  cond (decide (t2 < t1))
    ((idx t t2).bind fun e =>
    (M_spec_l10First (⟨v, v1⟩ : Net) t2).bind fun r =>
    cond (decide (r ≥ 0))
      (cond (r == k)
        ((guardO (Nat.ble (e.name.size + ((⟨#[46, 120]⟩ : ByteArray).size)) 4611686018427387904)).bind fun _ =>
        some (.inr (.inl (e.name ++ (⟨#[46, 120]⟩ : ByteArray), ()))))
        (cond (decide (r ≥ 0))
          (cond v
            (cond ((IntKind.i64.wrap (r + 1)) == k)
              ((guardO (Nat.ble (e.name.size + ((⟨#[46, 121]⟩ : ByteArray).size)) 4611686018427387904)).bind fun _ =>
              some (.inr (.inl (e.name ++ (⟨#[46, 121]⟩ : ByteArray), ()))))
              (some (.inl (k, t, t1, IntKind.i64.wrap (t2 + 1), v, v1, ()))))
            (some (.inl (k, t, t1, IntKind.i64.wrap (t2 + 1), v, v1, ()))))
          (some (.inl (k, t, t1, IntKind.i64.wrap (t2 + 1), v, v1, ())))))
      (cond (decide (r ≥ 0))
        (cond v
          (cond ((IntKind.i64.wrap (r + 1)) == k)
            ((guardO (Nat.ble (e.name.size + ((⟨#[46, 121]⟩ : ByteArray).size)) 4611686018427387904)).bind fun _ =>
            some (.inr (.inl (e.name ++ (⟨#[46, 121]⟩ : ByteArray), ()))))
            (some (.inl (k, t, t1, IntKind.i64.wrap (t2 + 1), v, v1, ()))))
          (some (.inl (k, t, t1, IntKind.i64.wrap (t2 + 1), v, v1, ()))))
        (some (.inl (k, t, t1, IntKind.i64.wrap (t2 + 1), v, v1, ())))))
    (some (.inr (.inr (()))))
noncomputable def L_spec_NameOfUnknown_0 (k : Int) (t : List Sta) (t1 : Int) (t2 : Int) (v : Bool) (v1 : List Sta) : Option ((ByteArray × Unit) ⊕ (Unit)) := whileO S_spec_NameOfUnknown_0 (k, t, t1, t2, v, v1, ())
noncomputable def M_spec_NameOfUnknown (n : Net) (k : Int) : Option ByteArray :=
  (M_spec_NetworkOk n).bind fun r =>
  cond (!r)
    (some (⟨#[]⟩ : ByteArray))
    ((L_spec_NameOfUnknown_0 k n.stations (n.stations.length : Int) 0 n.plane n.stations).bind fun r1 =>
    match r1 with
    | .inl (t, _) =>
      some t
    | .inr _ =>
      some (⟨#[]⟩ : ByteArray))

noncomputable def M_impl_axes (plane : Bool) : Option Int :=
  cond plane
    (some 2)
    (some 1)

noncomputable def S_impl_unknowns_0 : Int × (List Sta) × Int × Int × Bool × (List Sta) × Unit → Option ((Int × (List Sta) × Int × Int × Bool × (List Sta) × Unit) ⊕ (Int × Unit)) := fun (k, t, t1, t2, v, v1, _) =>
  cond (decide (t2 < t1))
    ((idx t t2).bind fun e =>
    cond (!e.fixed)
      ((M_impl_axes v).bind fun r =>
      some (.inl (IntKind.i64.wrap (k + r), t, t1, IntKind.i64.wrap (t2 + 1), v, v1, ())))
      (some (.inl (k, t, t1, IntKind.i64.wrap (t2 + 1), v, v1, ()))))
    (some (.inr (k, ())))
noncomputable def L_impl_unknowns_0 (k : Int) (t : List Sta) (t1 : Int) (t2 : Int) (v : Bool) (v1 : List Sta) : Option (Int × Unit) := whileO S_impl_unknowns_0 (k, t, t1, t2, v, v1, ())
noncomputable def M_impl_unknowns (n : Net) : Option Int :=
  (L_impl_unknowns_0 0 n.stations (n.stations.length : Int) 0 n.plane n.stations).bind fun (k, _) =>
  some k

noncomputable def M_impl_unknownOf (n : Net) (station : Int) : Option Int :=
  (idx n.stations station).bind fun e =>
  cond e.fixed
    (some (-1))
    ((guardO (inside n.stations.length (0, station))).bind fun _ =>
    (M_impl_unknowns (⟨n.plane, cut n.stations 0 station.toNat⟩ : Net)).bind fun r =>
    some r)

end Go.Di
/-
  Own work, written by program (gen.py) out of the functions of the given program: what they compute, as plain Lean.
-/
namespace Go.Di
noncomputable def S_spec_l07Has_0 : Int × (List Int) × Int × Int × Unit → Option ((Int × (List Int) × Int × Int × Unit) ⊕ ((Bool × Unit) ⊕ (Unit))) := fun (n, t, t1, t2, _) =>
  cond (decide (t2 < t1))
    ((idx t t2).bind fun e =>
    cond (e == n)
      (some (.inr (.inl (true, ()))))
      (some (.inl (n, t, t1, IntKind.i64.wrap (t2 + 1), ()))))
    (some (.inr (.inr (()))))
noncomputable def L_spec_l07Has_0 (n : Int) (t : List Int) (t1 : Int) (t2 : Int) : Option ((Bool × Unit) ⊕ (Unit)) := whileO S_spec_l07Has_0 (n, t, t1, t2, ())
noncomputable def M_spec_l07Has (l : List Int) (n : Int) : Option Bool :=
  (L_spec_l07Has_0 n l (l.length : Int) 0).bind fun r =>
  match r with
  | .inl (t, _) =>
    some t
  | .inr _ =>
    some false

end Go.Di
/-
  Own work, written by program (gen.py) out of the functions of the given program: what they compute, as plain Lean.
-/
namespace Go.Di
noncomputable def M_spec_IsBetween (kind : Int) : Option Bool :=
  cond (kind == 2)
    (some true)
    ((M_spec_l01In kind 5 8).bind fun r =>
    some r)

noncomputable def M_impl_IsBetween (kind : Int) : Option Bool :=
  cond (kind == 2)
    (some true)
    (cond (decide (kind ≥ 5))
      (some (decide (kind ≤ 8)))
      (some false))

noncomputable def M_spec_KindName (kind : Int) : Option ByteArray :=
  (M_spec_l01In kind 1 8).bind fun r =>
  cond (!r)
    (some (⟨#[]⟩ : ByteArray))
    ((idx ([(⟨#[104, 101, 105, 103, 104, 116]⟩ : ByteArray), (⟨#[114, 105, 115, 101]⟩ : ByteArray), (⟨#[101, 97, 115, 116]⟩ : ByteArray), (⟨#[110, 111, 114, 116, 104]⟩ : ByteArray), (⟨#[100, 101, 97, 115, 116]⟩ : ByteArray), (⟨#[100, 110, 111, 114, 116, 104]⟩ : ByteArray), (⟨#[100, 105, 115, 116, 97, 110, 99, 101]⟩ : ByteArray), (⟨#[98, 101, 97, 114, 105, 110, 103]⟩ : ByteArray)] : List ByteArray) (IntKind.i64.wrap (kind - 1))).bind fun _ =>
    (([(⟨#[104, 101, 105, 103, 104, 116]⟩ : ByteArray), (⟨#[114, 105, 115, 101]⟩ : ByteArray), (⟨#[101, 97, 115, 116]⟩ : ByteArray), (⟨#[110, 111, 114, 116, 104]⟩ : ByteArray), (⟨#[100, 101, 97, 115, 116]⟩ : ByteArray), (⟨#[100, 110, 111, 114, 116, 104]⟩ : ByteArray), (⟨#[100, 105, 115, 116, 97, 110, 99, 101]⟩ : ByteArray), (⟨#[98, 101, 97, 114, 105, 110, 103]⟩ : ByteArray)] : List ByteArray)[(IntKind.i64.wrap (kind - 1)).toNat]?).bind fun e =>
    some e)

noncomputable def M_impl_KindName (kind : Int) : Option ByteArray :=
  cond (decide (kind < 1))
    (some (⟨#[]⟩ : ByteArray))
    (cond (decide (kind > 8))
      (some (⟨#[]⟩ : ByteArray))
      ((idx ([(⟨#[]⟩ : ByteArray), (⟨#[104, 101, 105, 103, 104, 116]⟩ : ByteArray), (⟨#[114, 105, 115, 101]⟩ : ByteArray), (⟨#[101, 97, 115, 116]⟩ : ByteArray), (⟨#[110, 111, 114, 116, 104]⟩ : ByteArray), (⟨#[100, 101, 97, 115, 116]⟩ : ByteArray), (⟨#[100, 110, 111, 114, 116, 104]⟩ : ByteArray), (⟨#[100, 105, 115, 116, 97, 110, 99, 101]⟩ : ByteArray), (⟨#[98, 101, 97, 114, 105, 110, 103]⟩ : ByteArray)] : List ByteArray) kind).bind fun _ =>
      (([(⟨#[]⟩ : ByteArray), (⟨#[104, 101, 105, 103, 104, 116]⟩ : ByteArray), (⟨#[114, 105, 115, 101]⟩ : ByteArray), (⟨#[101, 97, 115, 116]⟩ : ByteArray), (⟨#[110, 111, 114, 116, 104]⟩ : ByteArray), (⟨#[100, 101, 97, 115, 116]⟩ : ByteArray), (⟨#[100, 110, 111, 114, 116, 104]⟩ : ByteArray), (⟨#[100, 105, 115, 116, 97, 110, 99, 101]⟩ : ByteArray), (⟨#[98, 101, 97, 114, 105, 110, 103]⟩ : ByteArray)] : List ByteArray)[kind.toNat]?).bind fun e =>
      some e))

noncomputable def M_spec_l11Same (a : Obs) (b : Obs) : Option Bool :=
  cond (a.kind == b.kind)
    (cond (a.frm == b.frm)
      (cond (a.to == b.to)
        ((M_spec_RatEqual a.value b.value).bind fun r =>
        cond r
          ((M_spec_RatEqual a.variance b.variance).bind fun r1 =>
          some r1)
          (some false))
        (some false))
      (some false))
    (some false)

noncomputable def S_spec_SameObservations_0 : (List Obs) × (List Obs) × Int × Int × Unit → Option (((List Obs) × (List Obs) × Int × Int × Unit) ⊕ ((Bool × Unit) ⊕ (Unit))) := fun (b, t, t1, t2, _) =>
  cond (decide (t2 < t1))
    ((idx t t2).bind fun e =>
    (idx b t2).bind fun e1 =>
    (M_spec_l11Same e e1).bind fun r =>
    cond (!r)
      (some (.inr (.inl (false, ()))))
      (some (.inl (b, t, t1, IntKind.i64.wrap (t2 + 1), ()))))
    (some (.inr (.inr (()))))
noncomputable def L_spec_SameObservations_0 (b : List Obs) (t : List Obs) (t1 : Int) (t2 : Int) : Option ((Bool × Unit) ⊕ (Unit)) := whileO S_spec_SameObservations_0 (b, t, t1, t2, ())
noncomputable def M_spec_SameObservations (a : List Obs) (b : List Obs) : Option Bool :=
  cond ((a.length : Int) != (b.length : Int))
    (some false)
    ((L_spec_SameObservations_0 b a (a.length : Int) 0).bind fun r =>
    match r with
    | .inl (t, _) =>
      some t
    | .inr _ =>
      some true)

noncomputable def M_impl_sameObservation (a : Obs) (b : Obs) : Option Bool :=
  cond (a.kind == b.kind)
    (cond (a.frm == b.frm)
      (cond (a.to == b.to)
        ((M_impl_RatEqual a.value b.value).bind fun r =>
        cond r
          ((M_impl_RatEqual a.variance b.variance).bind fun r1 =>
          some r1)
          (some false))
        (some false))
      (some false))
    (some false)

noncomputable def S_impl_SameObservations_0 : (List Obs) × (List Obs) × Int × Int × Unit → Option (((List Obs) × (List Obs) × Int × Int × Unit) ⊕ ((Bool × Unit) ⊕ (Unit))) := fun (a, b, t, t1, _) =>
  cond (decide (t1 < t))
    ((idx a t1).bind fun e =>
    (idx b t1).bind fun e1 =>
    (M_impl_sameObservation e e1).bind fun r =>
    cond (!r)
      (some (.inr (.inl (false, ()))))
      (some (.inl (a, b, t, IntKind.i64.wrap (t1 + 1), ()))))
    (some (.inr (.inr (()))))
noncomputable def L_impl_SameObservations_0 (a : List Obs) (b : List Obs) (t : Int) (t1 : Int) : Option ((Bool × Unit) ⊕ (Unit)) := whileO S_impl_SameObservations_0 (a, b, t, t1, ())
noncomputable def M_impl_SameObservations (a : List Obs) (b : List Obs) : Option Bool :=
  cond ((a.length : Int) != (b.length : Int))
    (some false)
    ((L_impl_SameObservations_0 a b (a.length : Int) 0).bind fun r =>
    match r with
    | .inl (t, _) =>
      some t
    | .inr _ =>
      some true)

noncomputable def M_spec_l11Copy (o : Obs) : Option Obs :=
  (M_spec_l04Copy o.value).bind fun r =>
  (M_spec_l04Copy o.variance).bind fun r1 =>
  some (⟨o.kind, o.frm, o.to, r, r1⟩ : Obs)

noncomputable def S_spec_WithoutObservations_0 : (List Int) × (List Obs) × Int × Int × (List Obs) × Unit → Option (((List Int) × (List Obs) × Int × Int × (List Obs) × Unit) ⊕ ((List Obs) × Unit)) := fun (skip, t, t1, t2, out, _) =>
  cond (decide (t2 < t1))
    ((idx t t2).bind fun e =>
    (M_spec_l07Has skip t2).bind fun r =>
    cond (!r)
      ((M_spec_l11Copy e).bind fun r1 =>
      (guardO (Nat.ble (out.length + 1) maxNew)).bind fun _ =>
      some (.inl (skip, t, t1, IntKind.i64.wrap (t2 + 1), out ++ ([r1] : List Obs), ())))
      (some (.inl (skip, t, t1, IntKind.i64.wrap (t2 + 1), out, ()))))
    (some (.inr (out, ())))
noncomputable def L_spec_WithoutObservations_0 (skip : List Int) (t : List Obs) (t1 : Int) (t2 : Int) (out : List Obs) : Option ((List Obs) × Unit) := whileO S_spec_WithoutObservations_0 (skip, t, t1, t2, out, ())
noncomputable def M_spec_WithoutObservations (list : List Obs) (skip : List Int) : Option (List Obs) :=
  (L_spec_WithoutObservations_0 skip list (list.length : Int) 0 ([] : List Obs)).bind fun (out, _) =>
  some out

noncomputable def M_impl_copyObservation (o : Obs) : Option Obs :=
  (M_impl_copyRat o.value).bind fun r =>
  (M_impl_copyRat o.variance).bind fun r1 =>
  some (⟨o.kind, o.frm, o.to, r, r1⟩ : Obs)

noncomputable def S_impl_WithoutObservations_0 : (List Int) × (List Obs) × Int × Int × (List Obs) × Unit → Option (((List Int) × (List Obs) × Int × Int × (List Obs) × Unit) ⊕ ((List Obs) × Unit)) := fun (skip, t, t1, t2, out, _) =>
  cond (decide (t2 < t1))
    ((idx t t2).bind fun e =>
    (M_impl_hasInt skip t2).bind fun r =>
    cond (!r)
      ((M_impl_copyObservation e).bind fun r1 =>
      (guardO (Nat.ble (out.length + 1) maxNew)).bind fun _ =>
      some (.inl (skip, t, t1, IntKind.i64.wrap (t2 + 1), out ++ ([r1] : List Obs), ())))
      (some (.inl (skip, t, t1, IntKind.i64.wrap (t2 + 1), out, ()))))
    (some (.inr (out, ())))
noncomputable def L_impl_WithoutObservations_0 (skip : List Int) (t : List Obs) (t1 : Int) (t2 : Int) (out : List Obs) : Option ((List Obs) × Unit) := whileO S_impl_WithoutObservations_0 (skip, t, t1, t2, out, ())
noncomputable def M_impl_WithoutObservations (list : List Obs) (skip : List Int) : Option (List Obs) :=
  (L_impl_WithoutObservations_0 skip list (list.length : Int) 0 ([] : List Obs)).bind fun (out, _) =>
  some out

noncomputable def M_spec_l11Fits (kind : Int) (plane : Bool) : Option Bool :=
  cond plane
    ((M_spec_l01In kind 3 8).bind fun r =>
    some r)
    ((M_spec_l01In kind 1 2).bind fun r =>
    some r)

noncomputable def M_spec_l11Ok (n : Net) (o : Obs) : Option Bool :=
  (M_spec_l11Fits o.kind n.plane).bind fun r =>
  cond (!r)
    (some false)
    ((M_spec_l01In o.frm 0 (IntKind.i64.wrap ((n.stations.length : Int) - 1))).bind fun r1 =>
    cond (!r1)
      (some false)
      ((M_spec_IsBetween o.kind).bind fun r2 =>
      cond r2
        ((M_spec_l01In o.to 0 (IntKind.i64.wrap ((n.stations.length : Int) - 1))).bind fun r3 =>
        cond (!r3)
          (some false)
          (cond (o.to == o.frm)
            (some false)
            ((M_spec_IsBetween o.kind).bind fun r4 =>
            cond (!r4)
              (cond (o.to != 0)
                (some false)
                ((M_spec_RatOk o.value).bind fun r5 =>
                cond r5
                  (cond (o.kind != 7)
                    ((M_spec_RatSign o.variance).bind fun r6 =>
                    some (decide (r6 > 0)))
                    ((M_spec_RatSign o.value).bind fun r6 =>
                    cond (decide (r6 > 0))
                      ((M_spec_RatSign o.variance).bind fun r7 =>
                      some (decide (r7 > 0)))
                      (some false)))
                  (some false)))
              ((M_spec_RatOk o.value).bind fun r5 =>
              cond r5
                (cond (o.kind != 7)
                  ((M_spec_RatSign o.variance).bind fun r6 =>
                  some (decide (r6 > 0)))
                  ((M_spec_RatSign o.value).bind fun r6 =>
                  cond (decide (r6 > 0))
                    ((M_spec_RatSign o.variance).bind fun r7 =>
                    some (decide (r7 > 0)))
                    (some false)))
                (some false)))))
        ((M_spec_IsBetween o.kind).bind fun r3 =>
        cond (!r3)
          (cond (o.to != 0)
            (some false)
            ((M_spec_RatOk o.value).bind fun r4 =>
            cond r4
              (cond (o.kind != 7)
                ((M_spec_RatSign o.variance).bind fun r5 =>
                some (decide (r5 > 0)))
                ((M_spec_RatSign o.value).bind fun r5 =>
                cond (decide (r5 > 0))
                  ((M_spec_RatSign o.variance).bind fun r6 =>
                  some (decide (r6 > 0)))
                  (some false)))
              (some false)))
          ((M_spec_RatOk o.value).bind fun r4 =>
          cond r4
            (cond (o.kind != 7)
              ((M_spec_RatSign o.variance).bind fun r5 =>
              some (decide (r5 > 0)))
              ((M_spec_RatSign o.value).bind fun r5 =>
              cond (decide (r5 > 0))
                ((M_spec_RatSign o.variance).bind fun r6 =>
                some (decide (r6 > 0)))
                (some false)))
            (some false)))))

noncomputable def M_spec_ObservationOk (n : Net) (o : Obs) : Option Bool :=
  (M_spec_NetworkOk n).bind fun r =>
  cond r
    ((M_spec_l11Ok n o).bind fun r1 =>
    some r1)
    (some false)

end Go.Di
/-
  Own work, written by program (gen.py) out of the functions of the given program: what they compute, as plain Lean.
-/
namespace Go.Di
noncomputable def M_spec_SameBooks (a : Bk) (b : Bk) : Option Bool :=
  (M_spec_SameNetworks (⟨a.plane, a.stations⟩ : Net) (⟨b.plane, b.stations⟩ : Net)).bind fun r =>
  cond r
    ((M_spec_SameObservations a.obs b.obs).bind fun r1 =>
    some r1)
    (some false)

noncomputable def M_impl_SameBooks (a : Bk) (b : Bk) : Option Bool :=
  (M_impl_SameNetworks (⟨a.plane, a.stations⟩ : Net) (⟨b.plane, b.stations⟩ : Net)).bind fun r =>
  cond r
    ((M_impl_SameObservations a.obs b.obs).bind fun r1 =>
    some r1)
    (some false)

end Go.Di
/-
  Own work, written by program (gen.py) out of the functions of the given program: what they compute, as plain Lean.
-/
namespace Go.Di
noncomputable def M_laws_FnExactSameBooks (aA : Bk) (aB : Bk) : Option Bool :=
  (M_laws_szBook aA 1048576).bind fun r =>
  cond (decide (r < 0))
    (some true)
    ((M_laws_szBook aB r).bind fun r1 =>
    cond (decide (r1 < 0))
      (some true)
      ((M_laws_toBook aA).bind fun r2 =>
      (M_laws_toBook aB).bind fun r3 =>
      (M_spec_SameBooks r2 r3).bind fun r4 =>
      (M_laws_toBook aA).bind fun r5 =>
      (M_laws_toBook aB).bind fun r6 =>
      (M_impl_SameBooks r5 r6).bind fun r7 =>
      cond (!(r7 == r4))
        (some false)
        ((M_laws_toBook aA).bind fun r8 =>
        (M_laws_eqBook r5 r8).bind fun r9 =>
        cond (!r9)
          (some false)
          ((M_laws_toBook aB).bind fun r10 =>
          (M_laws_eqBook r6 r10).bind fun r11 =>
          cond (!r11)
            (some false)
            (some true)))))

end Go.Di
