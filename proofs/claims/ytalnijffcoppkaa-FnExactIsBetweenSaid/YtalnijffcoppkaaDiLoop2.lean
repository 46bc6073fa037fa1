/-
  Own work. A loop's model is right, if its rounds are those that the evaluator tells.
-/
import Derived.Test.YtalnijffcoppkaaDiLoop
import Derived.Deep.LoopGhost
open Go.RowKit (Below)
namespace Go.Di

def exEq : Ex → Ex → Bool
  | .normal, .normal => true
  | .ret, .ret => true
  | .exit i, .exit j => Nat.beq i j
  | _, _ => false
theorem exEq_eq {e f : Ex} (h : exEq e f = true) : e = f := by
  cases e <;> cases f <;> first | rfl | (cases h; done) | (rw [Nat.eq_of_beq_eq_true h])

def OutT : List (Ex × Tm × List (Nat × Nat × ST)) → Type
  | [] => Empty
  | (_, T, _) :: r => Tys T.ks ⊕ OutT r
def fitOut : (l : List (Ex × Tm × List (Nat × Nat × ST))) → Ex → St → Option (OutT l)
  | [], _, _ => none
  | (e', T, ad) :: r, e, s => match exEq e' e with
    | true => match T.fit ad s with
      | some x => some (.inl x : Tys T.ks ⊕ OutT r)
      | none => none
    | false => match fitOut r e s with
      | some y => some (.inr y : Tys T.ks ⊕ OutT r)
      | none => none
def outSt : (l : List (Ex × Tm × List (Nat × Nat × ST))) → OutT l → Ex × St
  | (e, T, _) :: r, y => match (y : Tys T.ks ⊕ OutT r) with
    | .inl x => (e, T.enc x)
    | .inr z => outSt r z

/-- What the states at a loop's head and at its ends look like. -/
structure LoopD where
  head : Tm
  hads : List (Nat × Nat × ST)
  outs : List (Ex × Tm × List (Nat × Nat × ST))

/-- One round. -/
def stepL (E : Env) (D : LoopD) (body : Code) (x : Tys D.head.ks) : Option (Tys D.head.ks ⊕ OutT D.outs) :=
  evalC E body (D.head.enc x) fun e s => match e with
    | .normal => match D.head.fit D.hads s with
      | some y => some (.inl y)
      | none => none
    | .exit i => match fitOut D.outs (.exit i) s with
      | some y => some (.inr y)
      | none => none
    | .ret => match fitOut D.outs .ret s with
      | some y => some (.inr y)
      | none => none

def mkLM (D : LoopD) (f : Tys D.head.ks → Option (OutT D.outs)) : LM where
  ρ := OutT D.outs
  run s := match D.head.fit D.hads s with
    | some x => f x
    | none => none
  out y := outSt D.outs y

section
variable {P : Program} {C : Bs} {w w' : World} {s s' : St} {bt : Nat → Option Value} {tm : Array Value} {E : Env}

theorem fitOut_ok : ∀ {l : List (Ex × Tm × List (Nat × Nat × ST))} {e : Ex} {y : OutT l}, fitOut l e s = some y → Gam C s NoX bt tm w → (outSt l y).1 = e ∧ ∃ bt', Gam C (outSt l y).2 NoX bt' tm w
  | (e', T, ad) :: r, e, y, h, g => by
    have h' : (match exEq e' e with
      | true => match T.fit ad s with
        | some x => some (.inl x : Tys T.ks ⊕ OutT r)
        | none => none
      | false => match fitOut r e s with
        | some y => some (.inr y : Tys T.ks ⊕ OutT r)
        | none => none) = some y := h
    split at h'
    · rename_i he
      split at h'
      · rename_i x hx
        cases h'
        exact ⟨exEq_eq he, Tm.fit_ok hx g⟩
      · cases h'
    · split at h'
      · rename_i z hz
        cases h'
        exact fitOut_ok (l := r) hz g
      · cases h'
  | [], _, _, h, _ => by cases h

/-- **A loop's model is right.** -/
theorem loop_ok (hm : P.follows .mixedOrders = true) (hL : LayOk P E.lay) (hC : ConsOk P E.cons) {D : LoopD} {body : Code} {f : Tys D.head.ks → Option (OutT D.outs)} (hD : drawsOk E.plans body = true)
    (hl : ∀ b ∈ loopsIn body, ∀ m, findLM (keyOf b) E.loops = some m → LoopOk P m b) (hf : ∀ x y, f x = some y → whileO (stepL E D body) x = some y) : LoopOk P (mkLM D f) body := by
  intro C s bt a w y g hd hrun Q hQ
  have hrun' : (match D.head.fit D.hads s with
    | some x => f x
    | none => none) = some y := hrun
  cases hx : D.head.fit D.hads s with
  | none => rw [hx] at hrun'; cases hrun'
  | some x =>
    rw [hx] at hrun'
    obtain ⟨n, hn⟩ := whileO_iff.1 (hf x y hrun')
    obtain ⟨bt0, g0⟩ := Tm.fit_ok hx g
    refine wp_loop_ghost (fun n a w => ∃ x bt, Gam C (D.head.enc x) NoX bt a.tmps w ∧ a.defers = [] ∧ iterO (stepL E D body) n x = some y) n ⟨x, bt0, g0, hd, hn⟩ ?_
    rintro n a w ⟨x, bt, g, hd, hn⟩
    cases n with
    | zero => cases hn
    | succ n =>
      unfold iterO at hn
      cases hz : stepL E D body x with
      | none => rw [hz] at hn; cases hn
      | some z =>
        rw [hz] at hn
        refine evalC_sound hm hL hC body hD hl g hd hz fun e s' bt' a' w' g' hd' hk => ?_
        cases e with
        | normal =>
          simp only at hk
          split at hk
          · rename_i x' hx'
            cases hk
            obtain ⟨bt2, g2⟩ := Tm.fit_ok hx' g'
            exact ⟨n, Nat.lt_succ_self n, x', bt2, g2, hd', hn⟩
          · cases hk
        | exit i =>
          simp only at hk
          split at hk
          · rename_i r hr
            cases hk
            have hy : r = y := Option.some.inj hn
            subst hy
            obtain ⟨he, bt2, g2⟩ := fitOut_ok hr g'
            have := hQ bt2 a' w' g2 hd'
            have he' : (mkLM D f).out r = outSt D.outs r := rfl
            rw [he', he] at this
            exact this
          · cases hk
        | ret =>
          simp only at hk
          split at hk
          · rename_i r hr
            cases hk
            have hy : r = y := Option.some.inj hn
            subst hy
            obtain ⟨he, bt2, g2⟩ := fitOut_ok hr g'
            have := hQ bt2 a' w' g2 hd'
            have he' : (mkLM D f).out r = outSt D.outs r := rfl
            rw [he', he] at this
            exact this
          · cases hk
end
end Go.Di
