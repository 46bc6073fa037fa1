/-
  Own work. Checks that a kernel can run: what is told of the types is so.
-/
import Derived.Test.YtalnijffcoppkaaDiLoop2
namespace Go.Di

def elOk (P : Program) (E : TypeId) (e : ST) : Bool :=
  match P.info? E with
  | some inf => match inf.zero with
    | some z => Nat.beq inf.size e.size && (Nat.ble inf.bytes 256 && zOk (zeroOf e) z.cells.toList)
    | none => false
  | none => false
def fieldOk (P : Program) (fd : Field) (off k : Nat) (g : Bool) : Bool :=
  match P.info? fd.type, P.underlying fd.type with
  | some inf, some d => Nat.beq fd.offset off && (Nat.blt 0 k && (Nat.beq inf.size k && (aggD d == g)))
  | _, _ => false
def fieldsOk (P : Program) : List Field → List (Nat × Nat × Bool) → Bool
  | [], [] => true
  | fd :: fs, (off, k, g) :: l => fieldOk P fd off k g && fieldsOk P fs l
  | _, _ => false
def isAgg : Value → Bool
  | .agg _ => true
  | _ => false
def scalOk (d : TypeDesc) : Option CK → Bool
  | some (.int k) => match d with | .int k' => kindEqb k k' | _ => false
  | some .str => match d with | .string => true | _ => false
  | some .bool => match d with | .bool => true | _ => false
  | some (.sl _) => true
  | none => true
def elemOk (P : Program) (d : TypeDesc) : Option ST → Bool
  | some e => match d with | .slice E => elOk P E e | _ => false
  | none => true
def strctOk (P : Program) (d : TypeDesc) (z : Value) (i : TI) : Bool :=
  match i.strct with
  | true => match d with | .struct fs => isAgg z && fieldsOk P fs.toList i.fields | _ => false
  | false => true
def tiOk (P : Program) (t : TypeId) (i : TI) : Bool :=
  match P.info? t, P.underlying t with
  | some inf, some d => match inf.zero with
    | some z => Nat.beq inf.size i.zero.length && ((aggD d == i.agg) && (zOk i.zero z.cells.toList && (strctOk P d z i && (elemOk P d i.elem && (scalOk d i.scal && (i.agg || Nat.beq i.zero.length 1))))))
    | none => false
  | _, _ => false
def layOk (P : Program) : List (TypeId × TI) → Bool
  | [] => true
  | (t, i) :: r => tiOk P t i && layOk P r

theorem elOk_ok {P : Program} {E : TypeId} {e : ST} (h : elOk P E e = true) : ElOk P E e := by
  unfold elOk at h
  split at h
  · rename_i inf hi
    split at h
    · rename_i z hz
      simp only [Bool.and_eq_true] at h
      exact ⟨inf, z, hi, Nat.eq_of_beq_eq_true h.1, Nat.le_of_ble_eq_true h.2.1, hz, h.2.2⟩
    · cases h
  · cases h
theorem fieldsOk_ok {P : Program} : ∀ {fs : List Field} {l : List (Nat × Nat × Bool)}, fieldsOk P fs l = true → FieldsOk P fs l
  | [], [], _ => trivial
  | fd :: fs, (off, k, g) :: l, h => by
    simp only [fieldsOk, Bool.and_eq_true] at h
    refine ⟨?_, fieldsOk_ok h.2⟩
    have h1 := h.1
    unfold fieldOk at h1
    split at h1
    · rename_i inf d hi hd
      simp only [Bool.and_eq_true, beq_iff_eq] at h1
      exact ⟨Nat.eq_of_beq_eq_true h1.1, Nat.le_of_ble_eq_true h1.2.1, inf, d, hi, Nat.eq_of_beq_eq_true h1.2.2.1, hd, h1.2.2.2⟩
    · cases h1
  | [], _ :: _, h => by cases h
  | _ :: _, [], h => by cases h

theorem tiOk_ok {P : Program} {t : TypeId} {i : TI} (h : tiOk P t i = true) : TIOk P t i := by
  unfold tiOk at h
  split at h
  · rename_i inf d hi hd
    split at h
    · rename_i z hz
      simp only [Bool.and_eq_true, beq_iff_eq, Bool.or_eq_true] at h
      obtain ⟨h1, h2, h3, h4, h5, h6, h7⟩ := h
      refine ⟨inf, d, z, hi, hd, Nat.eq_of_beq_eq_true h1, h2, hz, h3, fun hs => ?_, fun e he => ?_, fun k hk => ?_, fun hk => ?_, fun hk => ?_, fun ha => ?_⟩
      · unfold strctOk at h4
        rw [hs] at h4
        simp only at h4
        split at h4
        · rename_i fs
          simp only [Bool.and_eq_true] at h4
          refine ⟨fs, rfl, ?_, fieldsOk_ok h4.2⟩
          have := h4.1
          cases z <;> first | (cases this; done) | rfl
        · cases h4
      · rw [he] at h5
        simp only [elemOk] at h5
        split at h5
        · exact ⟨_, rfl, elOk_ok h5⟩
        · cases h5
      · rw [hk] at h6
        simp only [scalOk] at h6
        split at h6
        · rw [kindEqb_eq h6]
        · cases h6
      · rw [hk] at h6
        simp only [scalOk] at h6
        split at h6
        · rfl
        · cases h6
      · rw [hk] at h6
        simp only [scalOk] at h6
        split at h6
        · rfl
        · cases h6
      · rw [ha] at h7; exact Nat.eq_of_beq_eq_true (by simpa using h7)
    · cases h
  · cases h
theorem layOk_ok {P : Program} : ∀ {lay : List (TypeId × TI)}, layOk P lay = true → LayOk P lay
  | [], _, t, i, h => by cases h
  | (u, j) :: r, hl, t, i, h => by
    simp only [layOk, Bool.and_eq_true] at hl
    unfold findTI at h
    split at h
    · rename_i hb
      cases h
      rw [Nat.eq_of_beq_eq_true hb]; exact tiOk_ok hl.1
    · exact layOk_ok hl.2 t i h
end Go.Di
