/-
  Own work. A function meets its contract, if the evaluator at its text gives the contract's result.
-/
import Derived.Test.YtalnijffcoppkaaDiText
open Go.RowKit (Below)
namespace Go.Di

theorem nodupN_ok : ∀ {l : List Nat}, nodupN l = true → l.Nodup
  | [], _ => List.nodup_nil
  | m :: r, h => by
    unfold nodupN at h
    split at h
    · cases h
    · rename_i hm
      exact List.nodup_cons.2 ⟨(fun hh => by rw [memN_iff.2 hh] at hm; cases hm), nodupN_ok h⟩
theorem apartN_ok : ∀ {l k : List Nat}, apartN l k = true → ∀ n ∈ l, n ∉ k
  | [], _, _, _, hn => by cases hn
  | m :: r, k, h, n, hn => by
    unfold apartN at h
    split at h
    · cases h
    · rename_i hm
      rcases List.mem_cons.1 hn with rfl | hn
      · intro hh; rw [memN_iff.2 hh] at hm; cases hm
      · exact apartN_ok h n hn

/-- The values of a result, named one by one from n on. -/
def nameVals (n : Nat) (vs : List Value) : Nat → Option Value := fun m => if n ≤ m then vs[m - n]? else none
theorem nameVals_at (n j : Nat) (vs : List Value) : nameVals n vs (n + j) = vs[j]? := by
  unfold nameVals; rw [if_pos (by omega), Nat.add_sub_cancel_left]

section
variable {P : Program} {C : Bs} {w w' : World} {s s' : St} {X : Nat → Prop} {bt : Nat → Option Value} {tm : Array Value}

/-- What each entry of a result is. -/
theorem resCells_from {es : List (Nat × Ent)} : ∀ (ks : List RK) (l : List A1) (n : Nat) (x : Tys (ckL ks)), asRes es ks l = some x →
    l.length = ks.length ∧ (resCells n ks x).1.length = ks.length ∧
    (∀ p ∈ (resCells n ks x).2, ∃ (j : Nat) (a : A1) (t : ST) (xs : List t.El), p = (n + j, .arr false t xs) ∧ l[j]? = some a ∧ ks[j]? = some (.fresh t) ∧ freshOf es t a = some xs) ∧
    (∀ (j : Nat) (b : A1), (resCells n ks x).1[j]? = some b → ∃ a, l[j]? = some a ∧ ((∃ c y, ks[j]? = some (.data c) ∧ a.as es c = some y ∧ b = .d (c.cell y)) ∨ (b = .own (n + j) ∧ ∃ t xs, ks[j]? = some (.fresh t) ∧ freshOf es t a = some xs)))
  | [], [], n, x, _ => ⟨rfl, rfl, (fun p hp => by cases hp), (fun j b hb => by simp [resCells] at hb)⟩
  | .data c :: ks, a :: l, n, x, h => by
    have h' : (match a.as es c with
      | some x => match asRes es ks l with
        | some y => some ((x, y) : Tys (ckL (.data c :: ks)))
        | none => none
      | none => none) = some x := h
    cases h1 : a.as es c with
    | none => rw [h1] at h'; cases h'
    | some y =>
      rw [h1] at h'
      cases h2 : asRes es ks l with
      | none => rw [h2] at h'; cases h'
      | some z =>
        rw [h2] at h'; cases h'
        obtain ⟨k0, k1, k2, k3⟩ := resCells_from ks l (n + 1) z h2
        refine ⟨by simp [k0], by simp [resCells, k1], fun p hp => ?_, fun j b hb => ?_⟩
        · obtain ⟨j, a', t, xs, e1, e2, e3, e4⟩ := k2 p hp
          exact ⟨j + 1, a', t, xs, by rw [e1]; congr 1; omega, by simpa using e2, by simpa using e3, e4⟩
        · cases j with
          | zero => simp only [resCells, List.getElem?_cons_zero, Option.some.injEq] at hb; subst hb; exact ⟨a, rfl, .inl ⟨c, y, rfl, h1, rfl⟩⟩
          | succ j =>
            simp only [resCells, List.getElem?_cons_succ] at hb
            obtain ⟨a', e1, e2⟩ := k3 j b hb
            refine ⟨a', by simpa using e1, ?_⟩
            rcases e2 with ⟨c', y', e3, e4, e5⟩ | ⟨e3, t, xs, e4, e5⟩
            · exact .inl ⟨c', y', by simpa using e3, e4, e5⟩
            · exact .inr ⟨by rw [e3]; congr 1; omega, t, xs, by simpa using e4, e5⟩
  | .fresh t :: ks, a :: l, n, x, h => by
    have h' : (match freshOf es t a with
      | some x => match asRes es ks l with
        | some y => some ((x, y) : Tys (ckL (.fresh t :: ks)))
        | none => none
      | none => none) = some x := h
    cases h1 : freshOf es t a with
    | none => rw [h1] at h'; cases h'
    | some y =>
      rw [h1] at h'
      cases h2 : asRes es ks l with
      | none => rw [h2] at h'; cases h'
      | some z =>
        rw [h2] at h'; cases h'
        obtain ⟨k0, k1, k2, k3⟩ := resCells_from ks l (n + 1) z h2
        refine ⟨by simp [k0], by simp [resCells, k1], fun p hp => ?_, fun j b hb => ?_⟩
        · simp only [resCells, List.mem_cons] at hp
          rcases hp with rfl | hp
          · exact ⟨0, a, t, y, rfl, rfl, rfl, h1⟩
          · obtain ⟨j, a', t, xs, e1, e2, e3, e4⟩ := k2 p hp
            exact ⟨j + 1, a', t, xs, by rw [e1]; congr 1; omega, by simpa using e2, by simpa using e3, e4⟩
        · cases j with
          | zero => simp only [resCells, List.getElem?_cons_zero, Option.some.injEq] at hb; subst hb; exact ⟨a, rfl, .inr ⟨rfl, t, y, rfl, h1⟩⟩
          | succ j =>
            simp only [resCells, List.getElem?_cons_succ] at hb
            obtain ⟨a', e1, e2⟩ := k3 j b hb
            refine ⟨a', by simpa using e1, ?_⟩
            rcases e2 with ⟨c', y', e3, e4, e5⟩ | ⟨e3, t, xs, e4, e5⟩
            · exact .inl ⟨c', y', by simpa using e3, e4, e5⟩
            · exact .inr ⟨by rw [e3]; congr 1; omega, t, xs, by simpa using e4, e5⟩
  | [], _ :: _, _, _, h => by cases h
  | .data _ :: _, [], _, _, h => by cases h
  | .fresh _ :: _, [], _, _, h => by cases h

theorem names_data {c : CK} {a : A1} : ∀ {ks : List RK} {l : List A1} {j : Nat}, ks[j]? = some (.data c) → l[j]? = some a → ∀ n ∈ a.nameOf, n ∈ dataNames ks l
  | .data _ :: ks, b :: l, 0, h1, h2, n, hn => by simp at h2; subst h2; exact List.mem_append_left _ hn
  | .fresh _ :: ks, b :: l, 0, h1, h2, n, hn => by simp at h1
  | .data _ :: ks, b :: l, j + 1, h1, h2, n, hn => List.mem_append_right _ (names_data (ks := ks) (l := l) (j := j) (by simpa using h1) (by simpa using h2) n hn)
  | .fresh _ :: ks, b :: l, j + 1, h1, h2, n, hn => by
    have := names_data (ks := ks) (l := l) (j := j) (by simpa using h1) (by simpa using h2) n hn
    exact this
  | [], _, j, h1, _, _, _ => by simp at h1
  | _ :: _, [], j, _, h2, _, _ => by simp at h2
theorem names_fresh {t : ST} {a : A1} : ∀ {ks : List RK} {l : List A1} {j : Nat}, ks[j]? = some (.fresh t) → l[j]? = some a → ∀ n ∈ a.nameOf, n ∈ freshNames ks l
  | .fresh _ :: ks, b :: l, 0, h1, h2, n, hn => by simp at h2; subst h2; exact List.mem_append_left _ hn
  | .data _ :: ks, b :: l, 0, h1, h2, n, hn => by simp at h1
  | .fresh _ :: ks, b :: l, j + 1, h1, h2, n, hn => List.mem_append_right _ (names_fresh (ks := ks) (l := l) (j := j) (by simpa using h1) (by simpa using h2) n hn)
  | .data _ :: ks, b :: l, j + 1, h1, h2, n, hn => by
    have := names_fresh (ks := ks) (l := l) (j := j) (by simpa using h1) (by simpa using h2) n hn
    exact this
  | [], _, j, h1, _, _, _ => by simp at h1
  | _ :: _, [], j, _, h2, _, _ => by simp at h2
theorem names_twice {t t' : ST} {a a' : A1} {n : Nat} : ∀ {ks : List RK} {l : List A1} {i j : Nat}, (freshNames ks l).Nodup → ks[i]? = some (.fresh t) → l[i]? = some a → n ∈ a.nameOf → ks[j]? = some (.fresh t') → l[j]? = some a' → n ∈ a'.nameOf → i = j
  | .fresh _ :: ks, b :: l, 0, 0, _, _, _, _, _, _, _ => rfl
  | .fresh _ :: ks, b :: l, 0, j + 1, hn, h1, h2, h3, h4, h5, h6 => by
    simp at h2; subst h2
    exact ((List.nodup_append.1 hn).2.2 n h3 n (names_fresh (ks := ks) (l := l) (j := j) (by simpa using h4) (by simpa using h5) n h6) rfl).elim
  | .fresh _ :: ks, b :: l, i + 1, 0, hn, h1, h2, h3, h4, h5, h6 => by
    simp at h5; subst h5
    exact ((List.nodup_append.1 hn).2.2 n h6 n (names_fresh (ks := ks) (l := l) (j := i) (by simpa using h1) (by simpa using h2) n h3) rfl).elim
  | .fresh _ :: ks, b :: l, i + 1, j + 1, hn, h1, h2, h3, h4, h5, h6 => by
    rw [names_twice (ks := ks) (l := l) (i := i) (j := j) (List.nodup_append.1 hn).2.1 (by simpa using h1) (by simpa using h2) h3 (by simpa using h4) (by simpa using h5) h6]
  | .data _ :: ks, b :: l, i + 1, j + 1, hn, h1, h2, h3, h4, h5, h6 => by
    rw [names_twice (ks := ks) (l := l) (i := i) (j := j) hn (by simpa using h1) (by simpa using h2) h3 (by simpa using h4) (by simpa using h5) h6]
  | .data _ :: ks, b :: l, 0, j, hn, h1, _, _, _, _, _ => by simp at h1
  | .data _ :: ks, b :: l, i + 1, 0, hn, _, _, _, h4, _, _ => by simp at h4
  | [], _, i, j, _, h1, _, _, _, _, _ => by simp at h1
  | _ :: _, [], i, j, _, _, h2, _, _, _, _ => by simp at h2
end
end Go.Di
