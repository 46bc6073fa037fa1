/-
  Own work. Whole texts.
-/
import Derived.Test.YtalnijffcoppkaaDiDraw6
open Go.RowKit (Below)
namespace Go.Di

section
variable {P : Program} {C : Bs} {w w' : World} {s s' : St} {X : Nat → Prop} {β' : Nat → Option Value} {a : Act} {o : Oper} {tm : Array Value} {β : Type} {bt : Nat → Option Value}
  {K : Act → World → Prop} {Q : Exit → Act → World → Prop} {E : Env} {k : St → Option β} {r : β}

/-! ### Texts -/
def toExit : Ex → Exit
  | .normal => .normal
  | .exit i => .exit i
  | .ret => .ret

def KontC (C : Bs) (k : Ex → St → Option β) (r : β) (Q : Exit → Act → World → Prop) : Prop := ∀ e s bt a w, Gam C s NoX bt a.tmps w → a.defers = [] → k e s = some r → Q (toExit e) a w

/-- A loop's model is right. -/
def LoopOk (P : Program) (m : LM) (body : Code) : Prop := ∀ (C : Bs) (s : St) (bt : Nat → Option Value) (a : Act) (w : World) (y : m.ρ), Gam C s NoX bt a.tmps w → a.defers = [] → m.run s = some y →
  ∀ Q : Exit → Act → World → Prop, (∀ bt a w, Gam C (m.out y).2 NoX bt a.tmps w → a.defers = [] → Q (toExit (m.out y).1) a w) → (Code.loop body).wp P Q a w

def loopsIn : Code → List Code
  | .seq a b => loopsIn a ++ loopsIn b
  | .cond _ a b => loopsIn a ++ loopsIn b
  | .block _ a => loopsIn a
  | .loop a => [a]
  | _ => []

theorem and_l {a b : Bool} (h : (a && b) = true) : a = true := by cases a <;> simp_all
theorem and_r {a b : Bool} (h : (a && b) = true) : b = true := by cases a <;> simp_all

/-- Every region that draws its order has a plan that is right, or none. -/
def drawsOk (plans : List (Nat × List (Nat × List Nat))) : Code → Bool
  | .region id ops true => match findPlan id plans with
    | some p => fullPlan ops p
    | none => true
  | .seq a b => drawsOk plans a && drawsOk plans b
  | .cond _ a b => drawsOk plans a && drawsOk plans b
  | .block _ a => drawsOk plans a
  | .loop a => drawsOk plans a
  | _ => true

theorem evalC_sound (hm : P.follows .mixedOrders = true) (hL : LayOk P E.lay) (hC : ConsOk P E.cons) : ∀ (c : Code) {s : St} {bt : Nat → Option Value} {a : Act} {w : World} {k : Ex → St → Option β} {Q : Exit → Act → World → Prop},
    drawsOk E.plans c = true → (∀ body ∈ loopsIn c, ∀ m, findLM (keyOf body) E.loops = some m → LoopOk P m body) → Gam C s NoX bt a.tmps w → a.defers = [] → evalC E c s k = some r → KontC C k r Q → c.wp P Q a w
  | .skip, s, bt, a, w, k, Q, hD, _, g, hd, h, hK => wp_skip (hK .normal s bt a w g hd h)
  | .region id ops false, s, bt, a, w, k, Q, hD, _, g, hd, h, hK =>
    wp_region_list (runOps_sound hL hC ops.toList g hd h fun s' bt' a' w' g' hd' h' => hK .normal s' bt' a' w' g' hd' h')
  | .region id ops true, s, bt, a, w, k, Q, hD, _, g, hd, h, hK => by
    have h' : (match findPlan id E.plans with
      | some p => runD E ops.toList p [] s fun s => k .normal s
      | none => none) = some r := h
    have hD' : (match findPlan id E.plans with
      | some p => fullPlan ops p
      | none => true) = true := hD
    cases hp : findPlan id E.plans with
    | none => rw [hp] at h'; cases h'
    | some p =>
      rw [hp] at h' hD'
      exact draw_sound hL hC hm hD' g hd h' (fun s' bt' a' w' g' hd' h' => hK .normal s' bt' a' w' g' hd' h') id
  | .seq x y, s, bt, a, w, k, Q, hD, hl, g, hd, h, hK => by
    refine wp_seq (evalC_sound hm hL hC x (and_l hD) (fun b hb => hl b (List.mem_append_left _ hb)) g hd h fun e s' bt' a' w' g' hd' h' => ?_)
    cases e with
    | normal => exact evalC_sound hm hL hC y (and_r hD) (fun b hb => hl b (List.mem_append_right _ hb)) g' hd' h' hK
    | exit i => exact hK (.exit i) s' bt' a' w' g' hd' h'
    | ret => exact hK .ret s' bt' a' w' g' hd' h'
  | .cond (.tmp t) x y, s, bt, a, w, k, Q, hD, hl, g, hd, h, hK => by
    obtain ⟨c, s1, hget, g1, hk⟩ := withBool_sound g h
    have hv : a.eval (.tmp t) = .bool c := by
      have hlt := (Array.getElem?_eq_some_iff.1 hget).1
      have := (Array.getElem?_eq_some_iff.1 hget).2
      simp [Act.eval, Array.getD, hlt, this]
    refine wp_cond hv ?_
    cases c with
    | true => exact evalC_sound hm hL hC x (and_l hD) (fun b hb => hl b (List.mem_append_left _ hb)) g1 hd hk hK
    | false => exact evalC_sound hm hL hC y (and_r hD) (fun b hb => hl b (List.mem_append_right _ hb)) g1 hd hk hK
  | .cond (.const v) x y, s, bt, a, w, k, Q, hD, hl, g, hd, h, hK => by cases h
  | .cond (.global v) x y, s, bt, a, w, k, Q, hD, hl, g, hd, h, hK => by cases h
  | .cond (.func v) x y, s, bt, a, w, k, Q, hD, hl, g, hd, h, hK => by cases h
  | .block id x, s, bt, a, w, k, Q, hD, hl, g, hd, h, hK => by
    refine wp_block (evalC_sound hm hL hC x hD hl g hd h fun e s' bt' a' w' g' hd' h' => ?_)
    cases e with
    | normal => exact hK .normal s' bt' a' w' g' hd' h'
    | exit i =>
      cases hb : Nat.beq i id with
      | true =>
        simp only [hb] at h'
        have : i = id := by simpa using hb
        simp only [toExit, Exit.inBlock, this, if_true]
        exact hK .normal s' bt' a' w' g' hd' h'
      | false =>
        simp only [hb] at h'
        have : i ≠ id := by intro e; subst e; simp at hb
        simp only [toExit, Exit.inBlock, this, if_false]
        exact hK (.exit i) s' bt' a' w' g' hd' h'
    | ret => exact hK .ret s' bt' a' w' g' hd' h'
  | .loop x, s, bt, a, w, k, Q, hD, hl, g, hd, h, hK => by
    have h' : (match findLM (keyOf x) E.loops with
      | some m => (m.run s).bind fun r => k (m.out r).1 (m.out r).2
      | none => none) = some r := h
    cases hm : findLM (keyOf x) E.loops with
    | none => rw [hm] at h'; cases h'
    | some m =>
      rw [hm] at h'
      cases hr : m.run s with
      | none => simp [hr] at h'
      | some y =>
        simp [hr] at h'
        exact hl x (by simp [loopsIn]) m hm C s bt a w y g hd hr Q fun bt' a' w' g' hd' => hK _ _ bt' a' w' g' hd' h'
  | .exit i, s, bt, a, w, k, Q, hD, _, g, hd, h, hK => wp_exit (hK (.exit i) s bt a w g hd h)
  | .ret, s, bt, a, w, k, Q, hD, _, g, hd, h, hK => wp_ret (hK .ret s bt a w g hd h)
  | .rangeFunc .., s, bt, a, w, k, Q, hD, _, g, hd, h, hK => by cases h
  | .scope .., s, bt, a, w, k, Q, hD, _, g, hd, h, hK => by cases h
  | .label .., s, bt, a, w, k, Q, hD, _, g, hd, h, hK => by cases h
  | .goto .., s, bt, a, w, k, Q, hD, _, g, hd, h, hK => by cases h
  | .refuse .., s, bt, a, w, k, Q, hD, _, g, hd, h, hK => by cases h
end
end Go.Di
