/-
  Own work. Tests of bools and strings, conversions, appends, slice literals.
-/
import Derived.Test.YtalnijffcoppkaaDiOps6
open Go.RowKit (Below)
namespace Go.Di

section
variable {P : Program} {C : Bs} {w w' : World} {s s' : St} {X : Nat → Prop} {β β' : Nat → Option Value} {a : Act} {o : Oper} {tm : Array Value}
  {t : TypeId} {x y : Operand} {i : TI} {K : Act → World → Prop} {Q : Exit → Act → World → Prop}

theorem run_equal_bool {T : TypeId} (hd : P.underlying T = some .bool) (m n : Bool) : (Op.equal T (.bool m) (.bool n)).run P w = .ok (m == n) w := by
  have h : ∀ d, (Op.equalIn (d + 1) T (.bool m) (.bool n)).run P w = .ok (m == n) w := fun d => by simp [Op.equalIn, run_underlying hd]
  exact h 9999

theorem bool_eql {T U : TypeId} (hd : P.underlying T = some .bool) (ho : o.op = .binOp .eql T x y U) (g : Gam C s X β a.tmps w) {m n : Bool} (hx : a.eval x = .bool m) (hy : a.eval y = .bool n)
    (hK : Goes C X o a (.one (.d (.bool (m == n)))) s K) : o.wp P a w K Q := by
  refine pure_sound (v := .bool (m == n)) ?_ g av_mk_bool hK
  have e : Go.binOp .eql T (.bool m) (.bool n) = (do pure (.bool (← Op.equal T (.bool m) (.bool n)))) := rfl
  simp only [execOp, ho, hx, hy, eqGuard, e]
  simp [run_equal_bool hd]
theorem bool_neq {T U : TypeId} (hd : P.underlying T = some .bool) (ho : o.op = .binOp .neq T x y U) (g : Gam C s X β a.tmps w) {m n : Bool} (hx : a.eval x = .bool m) (hy : a.eval y = .bool n)
    (hK : Goes C X o a (.one (.d (.bool (!(m == n))))) s K) : o.wp P a w K Q := by
  refine pure_sound (v := .bool (!(m == n))) ?_ g av_mk_bool hK
  have e : Go.binOp .neq T (.bool m) (.bool n) = (do pure (.bool (!(← Op.equal T (.bool m) (.bool n))))) := rfl
  simp only [execOp, ho, hx, hy, eqGuard, e]
  simp [run_equal_bool hd]

theorem str_eql {T U : TypeId} (ho : o.op = .binOp .eql T x y U) (g : Gam C s X β a.tmps w) {m n : ByteArray} (hx : a.eval x = .string m) (hy : a.eval y = .string n)
    (hK : Goes C X o a (.one (.d (.bool (strEq m n)))) s K) : o.wp P a w K Q :=
  pure_sound (by simp [execOp, ho, hx, hy, eqGuard, Go.binOp, Op.stringOp, strEq]) g av_mk_bool hK
theorem str_neq {T U : TypeId} (ho : o.op = .binOp .neq T x y U) (g : Gam C s X β a.tmps w) {m n : ByteArray} (hx : a.eval x = .string m) (hy : a.eval y = .string n)
    (hK : Goes C X o a (.one (.d (.bool (!strEq m n)))) s K) : o.wp P a w K Q :=
  pure_sound (v := .bool (!strEq m n)) (by simp [execOp, ho, hx, hy, eqGuard, Go.binOp, Op.stringOp, strEq]) g av_mk_bool hK
theorem str_add {T U : TypeId} (ho : o.op = .binOp .add T x y U) (g : Gam C s X β a.tmps w) {m n : ByteArray} (hx : a.eval x = .string m) (hy : a.eval y = .string n)
    (hle : m.size + n.size ≤ 4611686018427387904) (hK : Goes C X o a (.one (.d (.str (m ++ n)))) s K) : o.wp P a w K Q := by
  have hlt : (m.size : Int) + (n.size : Int) ≤ 9223372036854775807 := by omega
  exact pure_sound (v := .string (m ++ n)) (by simp [execOp, ho, hx, hy, eqGuard, Go.binOp, Op.stringOp, hlt]) g av_mk_str hK

theorem not_sound {T : TypeId} (ho : o.op = .unOp .not T x) (g : Gam C s X β a.tmps w) {b : Bool} (hx : a.eval x = .bool b) (hK : Goes C X o a (.one (.d (.bool (!b)))) s K) : o.wp P a w K Q :=
  pure_sound (by simp [execOp, ho, hx, Op.unary]) g av_mk_bool hK
theorem neg_sound {T : TypeId} (ho : o.op = .unOp .neg T x) (g : Gam C s X β a.tmps w) {k : IntKind} {n : Int} (hx : a.eval x = .int k n) (hK : Goes C X o a (.one (.d (.int k (k.wrap (0 - n))))) s K) : o.wp P a w K Q :=
  pure_sound (v := .int k (k.wrap (0 - n))) (by simp [execOp, ho, hx, Op.unary, Op.intArith]) g av_mk_int hK

/-! ### Append -/
/-- The elements to be appended: where they lie. -/
def News (w : World) (v : Value) (m k : Nat) (news : List Value) : Prop :=
  news.length = m * k ∧ (∀ u ∈ news, u.oneCell' = true) ∧ ((m = 0 ∧ ∃ ad c, v = .slice ad 0 c) ∨ ∃ b q c, v = .slice (some ⟨b, q, none⟩) m c ∧ ∀ (j : Nat) u, news[j]? = some u → w.cell? ⟨b, q + j, none⟩ = some u)

theorem News.first {w : World} {v : Value} {m k : Nat} {news : List Value} (h : News w v m k news) {w' : World} (hw : ∀ b, b < w.heap.size → w'.heap[b]? = w.heap[b]?) :
    (Builtin.firstCells k m v).run P w' = .ok news.toArray w' ∧ (Builtin.lenOf v).run P w' = .ok m w' := by
  obtain ⟨h1, _, ⟨rfl, ad, c, rfl⟩ | ⟨b, q, c, rfl, h2⟩⟩ := h
  · have : news = [] := List.eq_nil_of_length_eq_zero (by simpa using h1)
    subst this
    refine ⟨?_, by simp [Builtin.lenOf]⟩
    cases ad <;> simp [Builtin.firstCells, loadCells, loadCellsFrom]
  · refine ⟨run_firstCells_some w' k m _ m c news h1 fun j u hj => ?_, by simp [Builtin.lenOf]⟩
    rw [add_off]
    have h3 := h2 j u hj
    have hlt := World.block_lt_of_cell? w _ h3
    rw [World.cell?_of_block (w := w) (hw b hlt)]; exact h3

theorem run_append_fits {E : TypeId} {inf : TypeInfo} {z : Value} {T : TypeId} (hu : P.underlying t = some (.slice E)) (hi : P.info? E = some inf) {g sLen sCap : Nat} {cur : Array Value} {ty : TypeId}
    (hg : w.heap[g]? = some (.cells cur T (0, 0))) {v : Value} {m : Nat} {news : List Value} (hn : News w v m inf.size news) (hroom : sLen + m ≤ sCap) (hfit : sLen * inf.size + news.length ≤ cur.size) :
    (Builtin.append_ #[t, t] ty #[.slice (some ⟨g, 0, none⟩) sLen sCap, v]).run P w =
      .ok (.slice (some ⟨g, 0, none⟩) (sLen + m) sCap) (w.setRow g (cur.toList.take (sLen * inf.size) ++ news ++ cur.toList.drop (sLen * inf.size + news.length)).toArray) := by
  obtain ⟨hf, hl⟩ := hn.first (P := P) (w' := w) fun _ _ => rfl
  have hst := run_storeCells_at P g (sLen * inf.size) T news 0 cur w hg (by simpa using hfit) hn.2.1
  simp only [Nat.add_zero] at hst
  simp [Builtin.append_, run_underlying hu, sizeOf, typeInfo, hi, hl, hroom, hf, add_off, hst]

theorem run_append_grows {E : TypeId} {inf : TypeInfo} {z : Value} {ty : TypeId} (hu : P.underlying t = some (.slice E)) (hi : P.info? E = some inf) (hz : inf.zero = some z) {ad : Option Addr} {sLen sCap : Nat} {olds : List Value}
    (ho : (Builtin.firstCells inf.size sLen (.slice ad sLen sCap)).run P w.drew = .ok olds.toArray w.drew) {v : Value} {m : Nat} {news : List Value} (hn : News w v m inf.size news)
    (hg : sCap < sLen + m) (h63 : ((sLen + m : Nat) : Int) ≤ 9223372036854775807) (hfit : (sLen + m) * inf.bytes ≤ 140737488355328) :
    ∃ cap, sLen + m ≤ cap ∧ (sLen + m ≤ maxLen → cap ≤ maxLen) ∧ (Builtin.append_ #[t, t] ty #[.slice ad sLen sCap, v]).run P w =
      .ok (.slice (some ⟨w.heap.size, 0, none⟩) (sLen + m) cap) (w.drew.alloc (.cells (olds.toArray ++ news.toArray ++ Builtin.zeroCells z.cells (cap - (sLen + m))) E)) := by
  refine ⟨grownCap w (sLen + m) sCap E, grownCap_ge w _ _ _, grownCap_le_maxLen w _ _ _, ?_⟩
  have hn1 : ¬ (sLen + m ≤ sCap) := by omega
  have h63' : ¬ (9223372036854775807 < ((sLen : Int) + (m : Int))) := by omega
  have h48 := growslice_fits hg hfit
  have h48' : ¬ (281474976710656 < Builtin.nextslicecap (sLen + m) sCap * inf.bytes) := by omega
  obtain ⟨hf, _⟩ := hn.first (P := P) (w' := w.drew) fun _ _ => rfl
  obtain ⟨_, hl⟩ := hn.first (P := P) (w' := w) fun _ _ => rfl
  simp [Builtin.append_, run_underlying hu, sizeOf, typeInfo, zeroValue, hi, hz, hl, hn1, h63', h48', Question.forced, hf, ho, newRow, grownCap]
  congr 2
  apply Array.ext'
  simp [List.append_assoc]
end
end Go.Di
