/-
  Own work. What each operation does in the model, where the abstract state describes the machine's.
-/
import Derived.Test.YtalnijffcoppkaaDiGam2
import Derived.Laws.OwnMore
import Derived.Laws.Entries
import Derived.Laws.Tables
import Derived.Laws.Small
open Go.RowKit (Below)
namespace Go.Di

def aggD : TypeDesc → Bool
  | .struct _ | .array _ _ => true
  | _ => false

def zOk1 : A1 → Value → Bool
  | .d (.int k n), .int k' m => kindEqb k k' && n == m
  | .d (.bool b), .bool c => b == c
  | .d (.str s), .string u => s.data.toList == [] && u.data.toList == []
  | .mt, .slice _ 0 0 => true
  | .bot, v => v.oneCell'
  | _, _ => false
def zOk : List A1 → List Value → Bool
  | [], [] => true
  | a :: l, v :: vs => zOk1 a v && zOk l vs
  | _, _ => false

def zeroOf : ST → List A1
  | t => t.kinds.map fun
  | .int k => .d (.int k 0)
  | .bool => .d (.bool false)
  | .str => .d (.str ByteArray.empty)
  | .sl _ => .mt

def ElOk (P : Program) (E : TypeId) (e : ST) : Prop :=
  ∃ (inf : TypeInfo) (z : Value), P.info? E = some inf ∧ inf.size = e.size ∧ inf.bytes ≤ 256 ∧ inf.zero = some z ∧ zOk (zeroOf e) z.cells.toList = true

def FieldOk (P : Program) (fd : Field) (off k : Nat) (g : Bool) : Prop :=
  fd.offset = off ∧ 0 < k ∧ ∃ (inf : TypeInfo) (d : TypeDesc), P.info? fd.type = some inf ∧ inf.size = k ∧ P.underlying fd.type = some d ∧ aggD d = g

def FieldsOk (P : Program) : List Field → List (Nat × Nat × Bool) → Prop
  | [], [] => True
  | fd :: fs, (off, k, g) :: l => FieldOk P fd off k g ∧ FieldsOk P fs l
  | _, _ => False

def TIOk (P : Program) (t : TypeId) (i : TI) : Prop :=
  ∃ (inf : TypeInfo) (d : TypeDesc) (z : Value), P.info? t = some inf ∧ P.underlying t = some d ∧ inf.size = i.zero.length ∧ aggD d = i.agg ∧
    inf.zero = some z ∧ zOk i.zero z.cells.toList = true ∧
    (i.strct = true → ∃ fs, d = .struct fs ∧ z = .agg z.cells ∧ FieldsOk P fs.toList i.fields) ∧
    (∀ e, i.elem = some e → ∃ E, d = .slice E ∧ ElOk P E e) ∧
    (∀ k, i.scal = some (.int k) → d = .int k) ∧ (i.scal = some .str → d = .string) ∧ (i.scal = some .bool → d = .bool) ∧ (i.agg = false → i.zero.length = 1)

def LayOk (P : Program) (lay : List (TypeId × TI)) : Prop := ∀ t i, findTI t lay = some i → TIOk P t i

theorem kindEqb_eq {k k' : IntKind} (h : kindEqb k k' = true) : k = k' := by cases k <;> cases k' <;> first | rfl | (simp [kindEqb] at h)

theorem rd_int {x : Cx} {v : Value} {k : IntKind} {n : Int} (h : x.rd v (.int k n)) : v = .int k n := by obtain ⟨fp, h, _⟩ := h; cases h; rfl
theorem rd_bool {x : Cx} {v : Value} {b : Bool} (h : x.rd v (.bool b)) : v = .bool b := by obtain ⟨fp, h, _⟩ := h; cases h; rfl
theorem rd_str {x : Cx} {v : Value} {s : ByteArray} (h : x.rd v (.str s)) : v = .string s := by obtain ⟨fp, h, _⟩ := h; cases h; rfl
theorem mk_int {x : Cx} {k : IntKind} {n : Int} : x.rd (.int k n) (.int k n) := ⟨[], .int k n, by intro b hb; cases hb⟩
theorem mk_bool {x : Cx} {b : Bool} : x.rd (.bool b) (.bool b) := ⟨[], .bool b, by intro b hb; cases hb⟩
theorem mk_str {x : Cx} {s : ByteArray} : x.rd (.string s) (.str s) := ⟨[], .str s, by intro b hb; cases hb⟩

theorem zOk1_ok {x : Cx} {a : A1} {v : Value} (h : zOk1 a v = true) : A1Ok x a v ∧ v.oneCell' = true := by
  unfold zOk1 at h
  split at h
  · simp at h; obtain ⟨h1, rfl⟩ := h; rw [kindEqb_eq h1]; exact ⟨mk_int, rfl⟩
  · simp at h; subst h; exact ⟨mk_bool, rfl⟩
  · rename_i s u
    simp only [Bool.and_eq_true, beq_iff_eq] at h
    have e1 : s = u := by
      cases s with | mk a => cases u with | mk b =>
      congr 1; exact Array.ext' (by rw [h.1, h.2])
    rw [e1]; exact ⟨mk_str, rfl⟩
  · exact ⟨⟨_, rfl⟩, rfl⟩
  · exact ⟨trivial, h⟩
  · cases h
theorem zOk_ok {x : Cx} : ∀ {l : List A1} {vs : List Value}, zOk l vs = true → L1Ok x l vs
  | [], [], _ => trivial
  | a :: l, v :: vs, h => by
    simp only [zOk, Bool.and_eq_true] at h
    exact ⟨(zOk1_ok (x := x) h.1).1, (zOk1_ok (x := x) h.1).2, zOk_ok h.2⟩
  | [], _ :: _, h => by cases h
  | _ :: _, [], h => by cases h

theorem L1Ok.length {x : Cx} : ∀ {l : List A1} {vs : List Value}, L1Ok x l vs → l.length = vs.length
  | [], [], _ => rfl
  | _ :: l, _ :: vs, ⟨_, _, h⟩ => by simp [h.length]
  | [], _ :: _, h => h.elim
  | _ :: _, [], h => h.elim

theorem av_bool {x : Cx} {b : Bool} {v : Value} (h : AVOk x (.v false [.d (.bool b)]) v) : v = .bool b := by
  obtain ⟨a, h1, h2, _⟩ := h; cases h1; exact rd_bool h2
theorem av_int {x : Cx} {k : IntKind} {n : Int} {v : Value} (h : AVOk x (.v false [.d (.int k n)]) v) : v = .int k n := by
  obtain ⟨a, h1, h2, _⟩ := h; cases h1; exact rd_int h2
theorem av_str {x : Cx} {s : ByteArray} {v : Value} (h : AVOk x (.v false [.d (.str s)]) v) : v = .string s := by
  obtain ⟨a, h1, h2, _⟩ := h; cases h1; exact rd_str h2
theorem av_one {x : Cx} {a : A1} {v : Value} (h : A1Ok x a v) (h1 : v.oneCell' = true) : AVOk x (.one a) v := ⟨a, rfl, h, .inr h1⟩
theorem av_mk_bool {x : Cx} {b : Bool} : AVOk x (.one (.d (.bool b))) (.bool b) := av_one mk_bool rfl
theorem av_mk_int {x : Cx} {k : IntKind} {n : Int} : AVOk x (.one (.d (.int k n))) (.int k n) := av_one mk_int rfl
theorem av_mk_str {x : Cx} {s : ByteArray} : AVOk x (.one (.d (.str s))) (.string s) := av_one mk_str rfl
theorem av_un {x : Cx} : AVOk x (.tup []) undef := ⟨#[], rfl, trivial⟩
theorem av_un_eq {x : Cx} {v : Value} (h : AVOk x (.tup []) v) : v = undef := by
  obtain ⟨vs, h1, h2⟩ := h
  subst h1
  cases hv : vs.toList with
  | nil => rw [Array.toList_eq_nil_iff] at hv; rw [hv]; rfl
  | cons a l => rw [hv] at h2; exact h2.elim
theorem av_bot {x : Cx} {v : Value} : AVOk x .bot v := ⟨.bot, rfl, trivial, .inl rfl⟩

/-- The cells of a value. -/
theorem av_cells {x : Cx} {g : Bool} {l : List A1} {v : Value} (h : VOk x g l v) (hb : g = false → l ≠ [.bot]) : L1Ok x l v.cells.toList := by
  cases g with
  | true => obtain ⟨vs, rfl, h⟩ := h; exact h
  | false =>
    obtain ⟨a, rfl, h1, h2⟩ := h
    have h3 : v.oneCell' = true := h2.resolve_left fun e => hb rfl (by rw [e])
    have : v.cells = #[v] := by cases v <;> first | rfl | (simp [Value.oneCell'] at h3)
    rw [this]; exact ⟨h1, h3, trivial⟩

section
variable {P : Program} {C : Bs} {w w' : World} {s s' : St} {X : Nat → Prop} {β : Nat → Option Value} {a : Act} {o : Oper}

theorem opnd_ok (g : Gam C s X β a.tmps w) {x : Operand} (hx : ∀ t, x = .tmp t → ¬ X t) : AVOk (cx C s β w) (opnd s x) (a.eval x) := by
  cases x with
  | tmp t =>
    simp only [opnd, St.get, Act.eval]
    cases h : s.env[t]? with
    | none => rw [List.getD_eq_getElem?_getD, h]; exact av_bot
    | some av => rw [List.getD_eq_getElem?_getD, h]; exact g.env t av (hx t rfl) h
  | const v =>
    simp only [Act.eval]
    unfold opnd
    split <;> rename_i hv <;> try (first | exact av_bot)
    all_goals (cases hv)
    · exact av_mk_int
    · exact av_mk_bool
    · exact av_mk_str
    · exact av_one ⟨_, rfl⟩ rfl
  | global g => exact av_bot
  | func f => exact av_bot

theorem wp_run {K : Act → World → Prop} {Q : Exit → Act → World → Prop} {v : Value} (h : (execOp a.eval o).run P w = .ok (.value v) w') (hk : K (a.put o.dst v) w') : o.wp P a w K Q := by
  unfold Oper.wp; rw [h]; exact hk
theorem wp_run_skip {K : Act → World → Prop} {Q : Exit → Act → World → Prop} (h : (execOp a.eval o).run P w = .ok .skip w') (hk : K (a.put o.dst undef) w') : o.wp P a w K Q := by
  unfold Oper.wp; rw [h]; exact hk

/-- The machine goes on from here as the abstract state says. -/
def Goes (C : Bs) (X : Nat → Prop) (o : Oper) (a : Act) (av : AV) (s' : St) (K : Act → World → Prop) : Prop :=
  ∀ v w' β', Gam C s' X β' a.tmps w' → AVOk (cx C s' β' w') av v → K (a.put o.dst v) w'

theorem add_off (b off n : Nat) : (⟨b, off, none⟩ : Addr).add n = ⟨b, off + n, none⟩ := by
  unfold Addr.add; split <;> simp_all

theorem run_loadVar_agg {t : TypeId} {d : TypeDesc} {inf : TypeInfo} (hu : P.underlying t = some d) (hi : P.info? t = some inf) (b off : Nat) (cs : List Value)
    (hd : aggD d = true) (hs : inf.size = cs.length) (h : ∀ j v, cs[j]? = some v → w.cell? ⟨b, off + j, none⟩ = some v) :
    (loadVar t ⟨b, off, none⟩).run P w = .ok (.agg cs.toArray) w := by
  have hl := run_loadCells_list (P := P) w ⟨b, off, none⟩ cs (fun j v hv => by rw [add_off]; exact h j v hv)
  have ha : (isAgg t).run P w = .ok true w := by
    simp only [isAgg, Sem.run_bind, run_underlying hu, Result.andThen]
    cases d <;> first | rfl | (simp [aggD] at hd)
  simp [loadVar, ha, sizeOf, typeInfo, hi, hs, hl]

theorem run_loadVar_one {t : TypeId} {d : TypeDesc} (hu : P.underlying t = some d) (b off : Nat) (v : Value)
    (hd : aggD d = false) (h : w.cell? ⟨b, off, none⟩ = some v) : (loadVar t ⟨b, off, none⟩).run P w = .ok v w := by
  have ha : (isAgg t).run P w = .ok false w := by
    simp only [isAgg, Sem.run_bind, run_underlying hu, Result.andThen]
    cases d <;> first | rfl | (simp [aggD] at hd)
  simp [loadVar, ha, h]

end
end Go.Di
