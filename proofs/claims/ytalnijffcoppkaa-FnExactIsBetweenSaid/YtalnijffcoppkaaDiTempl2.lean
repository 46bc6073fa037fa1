/-
  Own work. What is read by a template holds.
-/
import Derived.Test.YtalnijffcoppkaaDiTempl
open Go.RowKit (Below)
namespace Go.Di

section
variable {s s' : St} {src : List (Nat × Nat)} {muts : List Nat}

theorem mem_muts : ∀ {l : List (Nat × ET)} {x : Tys (ksE l)} {n : Nat} {e : Ent}, look n (encE l x) = some e → e.mut = true → srcOf src n ∈ mutsOf src l
  | (k, .box l) :: r, x, n, e, h, hm => by
    simp only [encE, look_cons] at h
    split at h
    · rename_i hk; subst hk; exact List.mem_cons_self ..
    · exact List.mem_cons_of_mem _ (mem_muts (l := r) h hm)
  | (k, .arr fr t) :: r, x, n, e, h, hm => by
    simp only [encE, look_cons] at h
    split at h
    · rename_i hk; subst hk; cases h
      cases fr with
      | true => cases hm
      | false => exact List.mem_cons_self ..
    · have := mem_muts (l := r) h hm
      cases fr with
      | true => exact this
      | false => exact List.mem_cons_of_mem _ this

theorem muts_inj : ∀ {l : List (Nat × ET)} {x : Tys (ksE l)} {n m : Nat} {e f : Ent}, (mutsOf src l).Nodup → look n (encE l x) = some e → look m (encE l x) = some f → e.mut = true → f.mut = true → srcOf src n = srcOf src m → n = m
  | (k, .box l) :: r, x, n, m, e, f, hn, h1, h2, h3, h4, h5 => by
    simp only [encE, look_cons] at h1 h2
    have hn' := List.nodup_cons.1 hn
    split at h1 <;> split at h2
    · rename_i a b; rw [a, b]
    · rename_i a b; subst a; exact absurd (h5 ▸ mem_muts (l := r) h2 h4) hn'.1
    · rename_i a b; subst b; exact absurd (h5 ▸ mem_muts (l := r) h1 h3) hn'.1
    · exact muts_inj (l := r) hn'.2 h1 h2 h3 h4 h5
  | (k, .arr true t) :: r, x, n, m, e, f, hn, h1, h2, h3, h4, h5 => by
    simp only [encE, look_cons] at h1 h2
    split at h1
    · cases h1; cases h3
    · split at h2
      · cases h2; cases h4
      · exact muts_inj (l := r) hn h1 h2 h3 h4 h5
  | (k, .arr false t) :: r, x, n, m, e, f, hn, h1, h2, h3, h4, h5 => by
    simp only [encE, look_cons] at h1 h2
    have hn' := List.nodup_cons.1 hn
    split at h1 <;> split at h2
    · rename_i a b; rw [a, b]
    · rename_i a b; subst a; exact absurd (h5 ▸ mem_muts (l := r) h2 h4) hn'.1
    · rename_i a b; subst b; exact absurd (h5 ▸ mem_muts (l := r) h1 h3) hn'.1
    · exact muts_inj (l := r) hn'.2 h1 h2 h3 h4 h5

theorem readS_ok (hm : ∀ n e, look n s'.ents = some e → e.mut = true → srcOf src n ∈ muts) : ∀ {l : List (Option (Bool × List C1T))} {env : List AV} {x : Tys (ksS l)}, readS s.ents src muts l env = some x →
    (encS l x).length = env.length ∧ ∀ (t : Nat) b, (encS l x)[t]? = some b → ∃ a, env[t]? = some a ∧ WAV s s' (srcOf src) a b
  | [], [], x, _ => ⟨rfl, fun t b h => by simp [encS] at h⟩
  | none :: r, a :: e, x, h => by
    obtain ⟨h1, h2⟩ := readS_ok hm (l := r) h
    refine ⟨by simp [encS, h1], fun t b hb => ?_⟩
    cases t with
    | zero => simp [encS] at hb; subst hb; exact ⟨a, rfl, .inl rfl⟩
    | succ t => simp only [encS, List.getElem?_cons_succ] at hb ⊢; exact h2 t b hb
  | some (g, l) :: r, .v g' m :: e, x, h => by
    have main : ∀ x, (match readL s.ents src muts l m with
      | some x => match readS s.ents src muts r e with
        | some y => some (Tys.app (ksL l) (ksS r) x y)
        | none => none
      | none => none) = some x → g = g' → (encS (some (g, l) :: r) x).length = (AV.v g' m :: e).length ∧ ∀ (t : Nat) b, (encS (some (g, l) :: r) x)[t]? = some b → ∃ a, (AV.v g' m :: e)[t]? = some a ∧ WAV s s' (srcOf src) a b := by
      intro x h' hg
      subst hg
      cases h1 : readL s.ents src muts l m with
      | none => rw [h1] at h'; cases h'
      | some y =>
        rw [h1] at h'
        cases h2 : readS s.ents src muts r e with
        | none => rw [h2] at h'; cases h'
        | some z =>
          rw [h2] at h'; cases h'
          obtain ⟨k1, k2⟩ := readS_ok hm (l := r) h2
          refine ⟨by simp only [encS, app_snd, List.length_cons, k1], fun t b hb => ?_⟩
          cases t with
          | zero =>
            simp only [encS, app_fst, List.getElem?_cons_zero, Option.some.injEq] at hb
            subst hb
            exact ⟨_, rfl, .inr ⟨g, m, _, rfl, rfl, readL_ok hm h1⟩⟩
          | succ t =>
            simp only [encS, app_snd, List.getElem?_cons_succ] at hb ⊢
            exact k2 t b hb
    cases g <;> cases g'
    · exact main x h rfl
    · cases h
    · cases h
    · exact main x h rfl
  | some (_, _) :: _, .tup _ :: _, _, h => by cases h
  | [], _ :: _, _, h => by cases h
  | none :: _, [], _, h => by cases h
  | some (_, _) :: _, [], _, h => by cases h

theorem readE_ok (hm : ∀ n e, look n s'.ents = some e → e.mut = true → srcOf src n ∈ muts) : ∀ {l : List (Nat × ET)} {x : Tys (ksE l)}, readE s.ents src muts l = some x →
    ∀ n e', look n (encE l x) = some e' → ∃ e, look (srcOf src n) s.ents = some e ∧
    ((∃ l l', e = .box l ∧ e' = .box l' ∧ WL s s' (srcOf src) l l') ∨ ∃ fr t xs, e = .arr fr t xs ∧ e' = .arr fr t xs)
  | [], x, _, n, e', hl => by cases hl
  | (k, .box l) :: r, x, h, n, e', hl => by
    have h' : (match Nat.beq (srcOf src k) k, look k s.ents with
      | true, some (.box m) => match readL s.ents src muts l m with
        | some x => match readE s.ents src muts r with
          | some y => some (Tys.app (ksL l) (ksE r) x y : Tys (ksE ((k, .box l) :: r)))
          | none => none
        | none => none
      | _, _ => none) = some x := h
    split at h'
    · rename_i m hb hk
      split at h'
      · rename_i y hy
        split at h'
        · rename_i z hz
          cases h'
          simp only [encE, app_fst, app_snd, look_cons] at hl
          split at hl
          · rename_i hn; subst hn; cases hl
            exact ⟨.box m, by rw [Nat.eq_of_beq_eq_true hb, hk], .inl ⟨m, _, rfl, rfl, readL_ok hm hy⟩⟩
          · exact readE_ok hm hz n e' hl
        · cases h'
      · cases h'
    · cases h'
  | (k, .arr true t) :: r, x, h, n, e', hl => by
    have h' : (match look (srcOf src k) s.ents with
      | some (.arr true u xs) => match ST.cast u t xs with
          | some x => match readE s.ents src muts r with
            | some y => some ((x, y) : Tys (ksE ((k, .arr true t) :: r)))
            | none => none
          | none => none
      | _ => none) = some x := by
        rw [← h]
        show _ = (match look (srcOf src k) s.ents with
          | some (.arr fr' u xs) => match true, fr' with
            | true, true | false, false => match ST.cast u t xs with
              | some x => match readE s.ents src muts r with
                | some y => some ((x, y) : Tys (ksE ((k, .arr true t) :: r)))
                | none => none
              | none => none
            | _, _ => none
          | _ => none)
        cases look (srcOf src k) s.ents with
        | none => rfl
        | some e => cases e with
          | box l => rfl
          | arr fr' u xs => cases fr' <;> rfl
    split at h'
    · rename_i u xs hk
      split at h'
      · rename_i y hc
        split at h'
        · rename_i z hz
          cases h'
          obtain ⟨rfl, rfl⟩ := cast_eq hc
          have hl2 : (if n = k then some (Ent.arr true u xs) else look n (encE r z)) = some e' := by rw [← look_cons]; exact hl
          split at hl2
          · rename_i hn; subst hn; cases hl2
            exact ⟨_, hk, .inr ⟨true, u, xs, rfl, rfl⟩⟩
          · exact readE_ok hm hz n e' hl2
        · cases h'
      · cases h'
    · cases h'
  | (k, .arr false t) :: r, x, h, n, e', hl => by
    have h' : (match look (srcOf src k) s.ents with
      | some (.arr false u xs) => match ST.cast u t xs with
          | some x => match readE s.ents src muts r with
            | some y => some ((x, y) : Tys (ksE ((k, .arr false t) :: r)))
            | none => none
          | none => none
      | _ => none) = some x := by
        rw [← h]
        show _ = (match look (srcOf src k) s.ents with
          | some (.arr fr' u xs) => match false, fr' with
            | true, true | false, false => match ST.cast u t xs with
              | some x => match readE s.ents src muts r with
                | some y => some ((x, y) : Tys (ksE ((k, .arr false t) :: r)))
                | none => none
              | none => none
            | _, _ => none
          | _ => none)
        cases look (srcOf src k) s.ents with
        | none => rfl
        | some e => cases e with
          | box l => rfl
          | arr fr' u xs => cases fr' <;> rfl
    split at h'
    · rename_i u xs hk
      split at h'
      · rename_i y hc
        split at h'
        · rename_i z hz
          cases h'
          obtain ⟨rfl, rfl⟩ := cast_eq hc
          have hl2 : (if n = k then some (Ent.arr false u xs) else look n (encE r z)) = some e' := by rw [← look_cons]; exact hl
          split at hl2
          · rename_i hn; subst hn; cases hl2
            exact ⟨_, hk, .inr ⟨false, u, xs, rfl, rfl⟩⟩
          · exact readE_ok hm hz n e' hl2
        · cases h'
      · cases h'
    · cases h'

/-- What a template reads off a state holds of the machine state. -/
theorem Tm.read_ok {T : Tm} {x : Tys T.ks} (h : T.read s = some x) : ∃ src, Wk s (T.enc x) src := by
  unfold Tm.read at h
  simp only at h
  split at h
  · rename_i hn
    split at h
    · rename_i y hy
      split at h
      · rename_i z hz
        cases h
        have he : (T.enc (Tys.app (ksS T.slots) (ksE T.ents) y z)).ents = encE T.ents z := by simp only [Tm.enc, app_snd]
        have hv : (T.enc (Tys.app (ksS T.slots) (ksE T.ents) y z)).env = encS T.slots y := by simp only [Tm.enc, app_fst]
        have hm : ∀ n e, look n (T.enc (Tys.app (ksS T.slots) (ksE T.ents) y z)).ents = some e → e.mut = true → srcOf (pairsS T.slots s.env ++ pairsE s.ents T.ents) n ∈ mutsOf (pairsS T.slots s.env ++ pairsE s.ents T.ents) T.ents := by
          intro n e hl hmu; rw [he] at hl; exact mem_muts hl hmu
        obtain ⟨k1, k2⟩ := readS_ok hm hy
        refine ⟨srcOf (pairsS T.slots s.env ++ pairsE s.ents T.ents), (by rw [hv]; exact k1), fun t b hb => ?_, fun n e' hl => ?_, fun n m e f h1 h2 h3 h4 h5 => ?_⟩
        · rw [hv] at hb; exact k2 t b hb
        · rw [he] at hl; exact readE_ok hm hz n e' hl
        · rw [he] at h1 h2; exact muts_inj (nodupN_ok hn) h1 h2 h3 h4 h5
      · cases h
    · cases h
  · cases h
end
end Go.Di
