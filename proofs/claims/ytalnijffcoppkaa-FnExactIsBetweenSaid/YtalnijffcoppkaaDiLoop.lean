/-
  Own work. Loops: a state at the head is read by a template; the rounds are a plain Lean loop.
-/
import Derived.Test.YtalnijffcoppkaaDiTempl2
open Go.RowKit (Below)
namespace Go.Di

/-- A nil slice in the slot t becomes an own array of no elements. -/
def adopt1 (t n : Nat) (u : ST) (s : St) : St :=
  match s.get t with
  | .v false [.mt] => (s.push n (.arr false u [])).set t (.one (.own n))
  | _ => s
def adopts : List (Nat × Nat × ST) → St → St
  | [], s => s
  | (t, n, u) :: r, s => adopts r (adopt1 t n u s)

def iterO {σ ρ : Type} (f : σ → Option (σ ⊕ ρ)) : Nat → σ → Option ρ
  | 0, _ => none
  | n + 1, x => match f x with
    | some (.inl y) => iterO f n y
    | some (.inr r) => some r
    | none => none

open Classical in
/-- Rounds until there is a result. -/
noncomputable def whileO {σ ρ : Type} (f : σ → Option (σ ⊕ ρ)) (x : σ) : Option ρ :=
  if h : ∃ r n, iterO f n x = some r then some (Classical.choose h) else none

theorem iterO_det {σ ρ : Type} {f : σ → Option (σ ⊕ ρ)} : ∀ {n m : Nat} {x : σ} {r r' : ρ}, iterO f n x = some r → iterO f m x = some r' → r = r'
  | n + 1, m + 1, x, r, r', h1, h2 => by
    unfold iterO at h1 h2
    cases hf : f x with
    | none => rw [hf] at h1; cases h1
    | some y =>
      cases y with
      | inl y => rw [hf] at h1 h2; exact iterO_det h1 h2
      | inr y => rw [hf] at h1 h2; cases h1; cases h2; rfl
  | 0, _, _, _, _, h1, _ => by cases h1
  | _ + 1, 0, _, _, _, _, h2 => by cases h2

theorem whileO_iff {σ ρ : Type} {f : σ → Option (σ ⊕ ρ)} {x : σ} {r : ρ} : whileO f x = some r ↔ ∃ n, iterO f n x = some r := by
  unfold whileO
  constructor
  · intro h
    split at h
    · rename_i hh
      cases h
      exact Classical.choose_spec hh
    · cases h
  · rintro ⟨n, h⟩
    have hh : ∃ r n, iterO f n x = some r := ⟨r, n, h⟩
    rw [dif_pos hh]
    obtain ⟨m, hm⟩ := Classical.choose_spec hh
    rw [iterO_det hm h]

/-- A loop's rounds, one by one. -/
theorem whileO_inl {σ ρ : Type} {f : σ → Option (σ ⊕ ρ)} {x y : σ} (h : f x = some (.inl y)) : whileO f x = whileO f y := by
  have key : ∀ r, whileO f x = some r ↔ whileO f y = some r := fun r => by
    rw [whileO_iff, whileO_iff]
    constructor
    · rintro ⟨n, hn⟩
      cases n with
      | zero => cases hn
      | succ n => unfold iterO at hn; rw [h] at hn; exact ⟨n, hn⟩
    · rintro ⟨n, hn⟩
      exact ⟨n + 1, by unfold iterO; rw [h]; exact hn⟩
  cases hy : whileO f y with
  | some r => exact (key r).2 hy
  | none =>
    cases hx : whileO f x with
    | none => rfl
    | some r => rw [(key r).1 hx] at hy; cases hy
theorem whileO_inr {σ ρ : Type} {f : σ → Option (σ ⊕ ρ)} {x : σ} {r : ρ} (h : f x = some (.inr r)) : whileO f x = some r :=
  whileO_iff.2 ⟨1, by simp [iterO, h]⟩

section
variable {P : Program} {C : Bs} {w w' : World} {s s' : St} {bt : Nat → Option Value} {tm : Array Value}

theorem Gam.adopt1 (g : Gam C s NoX bt tm w) (t n : Nat) (u : ST) : ∃ bt', Gam C (Go.Di.adopt1 t n u s) NoX bt' tm w := by
  unfold Go.Di.adopt1
  split
  · rename_i hs
    have hv : AVOk (cx C s bt w) (.v false [.mt]) (tm.getD t undef) := g.env t _ (fun h => h) (get_some hs (by intro e; cases e))
    obtain ⟨a, h1, ⟨ad, h2⟩, _⟩ : ∃ a, [A1.mt] = [a] ∧ (∃ ad, tm.getD t undef = .slice ad 0 0) ∧ True := by
      obtain ⟨a, h1, h2, _⟩ := hv
      cases h1
      exact ⟨_, rfl, h2, trivial⟩
    have g1 : Gam C (s.push n (.arr false u [])) NoX (upd bt n (.slice ad 0 0)) tm w :=
      g.pushNew (Below.refl _ _) (fun b hb => by cases ad <;> simp [topOf] at hb) fun _ => .inl ⟨rfl, ad, rfl⟩
    refine ⟨upd bt n (.slice ad 0 0), ?_⟩
    have g2 := g1.setTrue (t := t) (a := .one (.own n)) (v := .slice ad 0 0) ⟨.own n, rfl, fun _ => upd_same bt n _, .inr rfl⟩
    rwa [set_same h2] at g2
  · exact ⟨bt, g⟩

theorem Gam.adopts : ∀ {l : List (Nat × Nat × ST)} {s : St} {bt : Nat → Option Value}, Gam C s NoX bt tm w → ∃ bt', Gam C (Go.Di.adopts l s) NoX bt' tm w
  | [], s, bt, g => ⟨bt, g⟩
  | (t, n, u) :: r, s, bt, g => by
    obtain ⟨bt1, g1⟩ := g.adopt1 t n u
    exact g1.adopts

/-- A state read by a template. -/
def Tm.fit (T : Tm) (ad : List (Nat × Nat × ST)) (s : St) : Option (Tys T.ks) := T.read (Go.Di.adopts ad s)

theorem Tm.fit_ok {T : Tm} {ad : List (Nat × Nat × ST)} {x : Tys T.ks} (h : T.fit ad s = some x) (g : Gam C s NoX bt tm w) : ∃ bt', Gam C (T.enc x) NoX bt' tm w := by
  obtain ⟨bt1, g1⟩ := g.adopts (l := ad)
  obtain ⟨src, hw⟩ := Tm.read_ok h
  exact ⟨_, g1.wk hw⟩
end
end Go.Di
