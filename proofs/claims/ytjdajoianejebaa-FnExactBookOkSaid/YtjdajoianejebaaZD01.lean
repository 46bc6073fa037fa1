/-
  Own work: part 2 of the texts that the proof of the given statement leans on.
-/
import Derived.Tactics
import Derived.Test.YtjdajoianejebaaZD00
/-
  Own work. What is read by a template: cells.
-/
open Go.RowKit (Below)
namespace Go.Di

theorem app_fst : ∀ (cs ds : List CK) (x : Tys cs) (y : Tys ds), Tys.fst cs ds (Tys.app cs ds x y) = x
  | [], _, _, _ => rfl
  | _ :: cs, ds, x, y => congrArg (Prod.mk x.1) (app_fst cs ds x.2 y)
theorem app_snd : ∀ (cs ds : List CK) (x : Tys cs) (y : Tys ds), Tys.snd cs ds (Tys.app cs ds x y) = y
  | [], _, _, _ => rfl
  | _ :: cs, ds, x, y => app_snd cs ds x.2 y

theorem memN_iff {n : Nat} : ∀ {l : List Nat}, memN n l = true ↔ n ∈ l
  | [] => by simp [memN]
  | m :: r => by
    unfold memN
    split
    · rename_i h; simp at h; subst h; simp
    · rename_i h
      have : n ≠ m := by intro e; subst e; simp at h
      rw [memN_iff]; simp [this]
theorem nodupN_ok : ∀ {l : List Nat}, nodupN l = true → l.Nodup
  | [], _ => List.nodup_nil
  | m :: r, h => by
    unfold nodupN at h
    split at h
    · cases h
    · rename_i hm
      exact List.nodup_cons.2 ⟨(fun hh => by rw [memN_iff.2 hh] at hm; cases hm), nodupN_ok h⟩

section
variable {s s' : St} {src : List (Nat × Nat)} {muts : List Nat} {fz : Bool}

/-- What is read as data stays as it is. -/
def FzOk (fz : Bool) (s : St) (l : List A1) : Prop := fz = true → ∀ a ∈ l, ∀ m t xs, a.isArr m → look m s.ents ≠ some (.arr false t xs)
theorem FzOk.left {l m : List A1} (h : FzOk fz s (l ++ m)) : FzOk fz s l := fun e a ha => h e a (List.mem_append_left _ ha)
theorem FzOk.right {l m : List A1} (h : FzOk fz s (l ++ m)) : FzOk fz s m := fun e a ha => h e a (List.mem_append_right _ ha)
theorem FzOk.tail {a : A1} {m : List A1} (h : FzOk fz s (a :: m)) : FzOk fz s m := fun e b hb => h e b (List.mem_cons_of_mem _ hb)

theorem readL_ok (hm : ∀ n e, look n s'.ents = some e → e.mut = true → srcOf src n ∈ muts) : ∀ {l : List C1T} {m : List A1} {x : Tys (ksL l)}, FzOk fz s (dataA l m) → readL s.ents src muts l m = some x → WL fz s s' (srcOf src) m (encL l x)
  | [], [], x, _, _ => trivial
  | .bot :: r, a :: l, x, hz, h => ⟨.bot a, readL_ok hm (l := r) hz h⟩
  | .d c :: r, a :: l, x, hz, h => by
    have h' : (match okA muts a, a.as s.ents c with
      | true, some x => match readL s.ents src muts r l with
        | some y => some ((x, y) : Tys (ksL (.d c :: r)))
        | none => none
      | _, _ => none) = some x := h
    split at h'
    · rename_i z ho hzz
      split at h'
      · rename_i y hy
        cases h'
        refine ⟨.data a c z hzz (fun m hma n e hl hmu heq => ?_) (fun e m t xs ha => hz e a (List.mem_cons_self ..) m t xs ha), readL_ok hm (l := r) (FzOk.tail (a := a) hz) hy⟩
        have := hm n e hl hmu
        rw [heq] at this
        have hmem := memN_iff.2 this
        cases a with
        | own k => simp only [A1.isArr] at hma; subst hma; simp only [okA, hmem] at ho; cases ho
        | win k _ _ => simp only [A1.isArr] at hma; subst hma; simp only [okA, hmem] at ho; cases ho
        | _ => exact hma.elim
      · cases h'
    · cases h'
  | .own n :: r, .own m :: l, x, hz, h => by
    have h' : (match Nat.beq (srcOf src n) m, look m s.ents with
      | true, some _ => readL s.ents src muts r l
      | _, _ => none) = some x := h
    cases hb : Nat.beq (srcOf src n) m with
    | false => rw [hb] at h'; cases h'
    | true =>
      rw [hb] at h'
      cases hl : look m s.ents with
      | none => rw [hl] at h'; cases h'
      | some e =>
        rw [hl] at h'
        have hb := Nat.eq_of_beq_eq_true hb
        subst hb
        exact ⟨.own n (by rw [hl]; rfl), readL_ok hm (l := r) hz h'⟩
  | .lp n off :: r, .lp m o :: l, x, hz, h => by
    have h' : (match Nat.beq (srcOf src n) m, Nat.beq off o, look m s.ents with
      | true, true, some _ => readL s.ents src muts r l
      | _, _, _ => none) = some x := h
    cases h1 : Nat.beq (srcOf src n) m with
    | false => rw [h1] at h'; cases h'
    | true =>
    cases h2 : Nat.beq off o with
    | false => rw [h1, h2] at h'; cases h'
    | true =>
    cases hl : look m s.ents with
    | none => rw [h1, h2, hl] at h'; cases h'
    | some e =>
    rw [h1, h2, hl] at h'
    have h1 := Nat.eq_of_beq_eq_true h1
    have h2 := Nat.eq_of_beq_eq_true h2
    subst h1; subst h2
    exact ⟨.lp n off (by rw [hl]; rfl), readL_ok hm (l := r) hz h'⟩
  | .win n :: r, .win m lo k :: l, x, hz, h => by
    have h' : (match Nat.beq (srcOf src n) m, look m s.ents with
      | true, some _ => match readL s.ents src muts r l with
        | some y => some ((lo, k, y) : Tys (ksL (.win n :: r)))
        | none => none
      | _, _ => none) = some x := h
    cases hb : Nat.beq (srcOf src n) m with
    | false => rw [hb] at h'; cases h'
    | true =>
      rw [hb] at h'
      cases hl : look m s.ents with
      | none => rw [hl] at h'; cases h'
      | some e =>
        rw [hl] at h'
        simp only at h'
        split at h'
        · rename_i y hy
          cases h'
          have hb := Nat.eq_of_beq_eq_true hb
          subst hb
          exact ⟨.win n lo k (by rw [hl]; rfl), readL_ok hm (l := r) hz hy⟩
        · cases h'
  | [], _ :: _, _, _, h => by cases h
  | .bot :: _, [], _, _, h => by cases h
  | .d _ :: _, [], _, _, h => by cases h
  | .own _ :: _, [], _, _, h => by cases h
  | .lp _ _ :: _, [], _, _, h => by cases h
  | .win _ :: _, [], _, _, h => by cases h
  | .own _ :: _, .bot :: _, _, _, h | .own _ :: _, .d _ :: _, _, _, h | .own _ :: _, .mt :: _, _, _, h | .own _ :: _, .lp _ _ :: _, _, _, h | .own _ :: _, .win _ _ _ :: _, _, _, h | .own _ :: _, .sp _ _ :: _, _, _, h | .own _ :: _, .oe _ _ _ :: _, _, _, h => by cases h
  | .lp _ _ :: _, .bot :: _, _, _, h | .lp _ _ :: _, .d _ :: _, _, _, h | .lp _ _ :: _, .mt :: _, _, _, h | .lp _ _ :: _, .own _ :: _, _, _, h | .lp _ _ :: _, .win _ _ _ :: _, _, _, h | .lp _ _ :: _, .sp _ _ :: _, _, _, h | .lp _ _ :: _, .oe _ _ _ :: _, _, _, h => by cases h
  | .win _ :: _, .bot :: _, _, _, h | .win _ :: _, .d _ :: _, _, _, h | .win _ :: _, .mt :: _, _, _, h | .win _ :: _, .own _ :: _, _, _, h | .win _ :: _, .lp _ _ :: _, _, _, h | .win _ :: _, .sp _ _ :: _, _, _, h | .win _ :: _, .oe _ _ _ :: _, _, _, h => by cases h
end
end Go.Di
/-
  Own work. What is read by a template holds.
-/
open Go.RowKit (Below)
namespace Go.Di

section
variable {s s' : St} {src : List (Nat × Nat)} {muts : List Nat} {fz : Bool}

theorem mem_muts : ∀ {l : List (Nat × ET)} {x : Tys (ksE l)} {n : Nat} {e : Ent}, look n (encE l x) = some e → e.mut = true → srcOf src n ∈ mutsOf src l
  | (k, .box l) :: r, x, n, e, h, hm => by
    simp only [encE, look_cons] at h
    split at h
    · rename_i hk; subst hk; exact List.mem_cons_self ..
    · exact List.mem_cons_of_mem _ (mem_muts (l := r) h hm)
  | (k, .arr fr t) :: r, x, n, e, h, hm => by
    simp only [encE, look_cons] at h
    split at h
    · rename_i hk; subst hk; cases h
      cases fr with
      | true => cases hm
      | false => exact List.mem_cons_self ..
    · have := mem_muts (l := r) h hm
      cases fr with
      | true => exact this
      | false => exact List.mem_cons_of_mem _ this

theorem muts_inj : ∀ {l : List (Nat × ET)} {x : Tys (ksE l)} {n m : Nat} {e f : Ent}, (mutsOf src l).Nodup → look n (encE l x) = some e → look m (encE l x) = some f → e.mut = true → f.mut = true → srcOf src n = srcOf src m → n = m
  | (k, .box l) :: r, x, n, m, e, f, hn, h1, h2, h3, h4, h5 => by
    simp only [encE, look_cons] at h1 h2
    have hn' := List.nodup_cons.1 hn
    split at h1 <;> split at h2
    · rename_i a b; rw [a, b]
    · rename_i a b; subst a; exact absurd (h5 ▸ mem_muts (l := r) h2 h4) hn'.1
    · rename_i a b; subst b; exact absurd (h5 ▸ mem_muts (l := r) h1 h3) hn'.1
    · exact muts_inj (l := r) hn'.2 h1 h2 h3 h4 h5
  | (k, .arr true t) :: r, x, n, m, e, f, hn, h1, h2, h3, h4, h5 => by
    simp only [encE, look_cons] at h1 h2
    split at h1
    · cases h1; cases h3
    · split at h2
      · cases h2; cases h4
      · exact muts_inj (l := r) hn h1 h2 h3 h4 h5
  | (k, .arr false t) :: r, x, n, m, e, f, hn, h1, h2, h3, h4, h5 => by
    simp only [encE, look_cons] at h1 h2
    have hn' := List.nodup_cons.1 hn
    split at h1 <;> split at h2
    · rename_i a b; rw [a, b]
    · rename_i a b; subst a; exact absurd (h5 ▸ mem_muts (l := r) h2 h4) hn'.1
    · rename_i a b; subst b; exact absurd (h5 ▸ mem_muts (l := r) h1 h3) hn'.1
    · exact muts_inj (l := r) hn'.2 h1 h2 h3 h4 h5

def dataS : List (Option (Bool × List C1T)) → List AV → List A1
  | some (_, l) :: r, .v _ m :: e => dataA l m ++ dataS r e
  | _ :: r, _ :: e => dataS r e
  | _, _ => []
theorem readS_ok (hm : ∀ n e, look n s'.ents = some e → e.mut = true → srcOf src n ∈ muts) : ∀ {l : List (Option (Bool × List C1T))} {env : List AV} {x : Tys (ksS l)}, FzOk fz s (dataS l env) → readS s.ents src muts l env = some x →
    (encS l x).length = env.length ∧ ∀ (t : Nat) b, (encS l x)[t]? = some b → ∃ a, env[t]? = some a ∧ WAV fz s s' (srcOf src) a b
  | [], [], x, _, _ => ⟨rfl, fun t b h => by simp [encS] at h⟩
  | none :: r, a :: e, x, hz, h => by
    obtain ⟨h1, h2⟩ := readS_ok hm (l := r) hz h
    refine ⟨by simp [encS, h1], fun t b hb => ?_⟩
    cases t with
    | zero => simp [encS] at hb; subst hb; exact ⟨a, rfl, .inl rfl⟩
    | succ t => simp only [encS, List.getElem?_cons_succ] at hb ⊢; exact h2 t b hb
  | some (g, l) :: r, .v g' m :: e, x, hz, h => by
    have hz1 : FzOk fz s (dataA l m) := FzOk.left (m := dataS r e) hz
    have hz2 : FzOk fz s (dataS r e) := FzOk.right (l := dataA l m) hz
    have main : ∀ x, (match readL s.ents src muts l m with
      | some x => match readS s.ents src muts r e with
        | some y => some (Tys.app (ksL l) (ksS r) x y)
        | none => none
      | none => none) = some x → g = g' → (encS (some (g, l) :: r) x).length = (AV.v g' m :: e).length ∧ ∀ (t : Nat) b, (encS (some (g, l) :: r) x)[t]? = some b → ∃ a, (AV.v g' m :: e)[t]? = some a ∧ WAV fz s s' (srcOf src) a b := by
      intro x h' hg
      subst hg
      cases h1 : readL s.ents src muts l m with
      | none => rw [h1] at h'; cases h'
      | some y =>
        rw [h1] at h'
        cases h2 : readS s.ents src muts r e with
        | none => rw [h2] at h'; cases h'
        | some z =>
          rw [h2] at h'; cases h'
          obtain ⟨k1, k2⟩ := readS_ok hm (l := r) hz2 h2
          refine ⟨by simp only [encS, app_snd, List.length_cons, k1], fun t b hb => ?_⟩
          cases t with
          | zero =>
            simp only [encS, app_fst, List.getElem?_cons_zero, Option.some.injEq] at hb
            subst hb
            exact ⟨_, rfl, .inr ⟨g, m, _, rfl, rfl, readL_ok hm hz1 h1⟩⟩
          | succ t =>
            simp only [encS, app_snd, List.getElem?_cons_succ] at hb ⊢
            exact k2 t b hb
    cases g <;> cases g'
    · exact main x h rfl
    · cases h
    · cases h
    · exact main x h rfl
  | some (_, _) :: _, .tup _ :: _, _, _, h => by cases h
  | [], _ :: _, _, _, h => by cases h
  | none :: _, [], _, _, h => by cases h
  | some (_, _) :: _, [], _, _, h => by cases h

theorem readE_ok (hm : ∀ n e, look n s'.ents = some e → e.mut = true → srcOf src n ∈ muts) : ∀ {l : List (Nat × ET)} {x : Tys (ksE l)}, FzOk fz s (dataE s.ents src l) → readE s.ents src muts l = some x →
    ∀ n e', look n (encE l x) = some e' → ∃ e, look (srcOf src n) s.ents = some e ∧
    ((∃ l l', e = .box l ∧ e' = .box l' ∧ WL fz s s' (srcOf src) l l') ∨ ∃ fr t xs, e = .arr fr t xs ∧ e' = .arr fr t xs)
  | [], x, _, _, n, e', hl => by cases hl
  | (k, .box l) :: r, x, hz, h, n, e', hl => by
    have h' : (match look (srcOf src k) s.ents with
      | some (.box m) => match readL s.ents src muts l m with
        | some x => match readE s.ents src muts r with
          | some y => some (Tys.app (ksL l) (ksE r) x y : Tys (ksE ((k, .box l) :: r)))
          | none => none
        | none => none
      | _ => none) = some x := h
    split at h'
    · rename_i m hk
      have hz' : FzOk fz s (dataA l m ++ dataE s.ents src r) := by
        have : dataE s.ents src ((k, .box l) :: r) = dataA l m ++ dataE s.ents src r := by simp only [dataE, hk]
        rw [this] at hz; exact hz
      split at h'
      · rename_i y hy
        split at h'
        · rename_i z hzz
          cases h'
          simp only [encE, app_fst, app_snd, look_cons] at hl
          split at hl
          · rename_i hn; subst hn; cases hl
            exact ⟨.box m, hk, .inl ⟨m, _, rfl, rfl, readL_ok hm hz'.left hy⟩⟩
          · exact readE_ok hm hz'.right hzz n e' hl
        · cases h'
      · cases h'
    · cases h'
  | (k, .arr true t) :: r, x, hzz, h, n, e', hl => by
    have h' : (match look (srcOf src k) s.ents with
      | some (.arr true u xs) => match ST.cast u t xs with
          | some x => match readE s.ents src muts r with
            | some y => some ((x, y) : Tys (ksE ((k, .arr true t) :: r)))
            | none => none
          | none => none
      | _ => none) = some x := by
        rw [← h]
        show _ = (match look (srcOf src k) s.ents with
          | some (.arr fr' u xs) => match true, fr' with
            | true, true | false, false => match ST.cast u t xs with
              | some x => match readE s.ents src muts r with
                | some y => some ((x, y) : Tys (ksE ((k, .arr true t) :: r)))
                | none => none
              | none => none
            | _, _ => none
          | _ => none)
        cases look (srcOf src k) s.ents with
        | none => rfl
        | some e => cases e with
          | box l => rfl
          | arr fr' u xs => cases fr' <;> rfl
    split at h'
    · rename_i u xs hk
      split at h'
      · rename_i y hc
        split at h'
        · rename_i z hz
          cases h'
          obtain ⟨rfl, rfl⟩ := cast_eq hc
          have hl2 : (if n = k then some (Ent.arr true u xs) else look n (encE r z)) = some e' := by rw [← look_cons]; exact hl
          split at hl2
          · rename_i hn; subst hn; cases hl2
            exact ⟨_, hk, .inr ⟨true, u, xs, rfl, rfl⟩⟩
          · exact readE_ok hm (l := r) hzz hz n e' hl2
        · cases h'
      · cases h'
    · cases h'
  | (k, .arr false t) :: r, x, hzz, h, n, e', hl => by
    have h' : (match look (srcOf src k) s.ents with
      | some (.arr false u xs) => match ST.cast u t xs with
          | some x => match readE s.ents src muts r with
            | some y => some ((x, y) : Tys (ksE ((k, .arr false t) :: r)))
            | none => none
          | none => none
      | _ => none) = some x := by
        rw [← h]
        show _ = (match look (srcOf src k) s.ents with
          | some (.arr fr' u xs) => match false, fr' with
            | true, true | false, false => match ST.cast u t xs with
              | some x => match readE s.ents src muts r with
                | some y => some ((x, y) : Tys (ksE ((k, .arr false t) :: r)))
                | none => none
              | none => none
            | _, _ => none
          | _ => none)
        cases look (srcOf src k) s.ents with
        | none => rfl
        | some e => cases e with
          | box l => rfl
          | arr fr' u xs => cases fr' <;> rfl
    split at h'
    · rename_i u xs hk
      split at h'
      · rename_i y hc
        split at h'
        · rename_i z hz
          cases h'
          obtain ⟨rfl, rfl⟩ := cast_eq hc
          have hl2 : (if n = k then some (Ent.arr false u xs) else look n (encE r z)) = some e' := by rw [← look_cons]; exact hl
          split at hl2
          · rename_i hn; subst hn; cases hl2
            exact ⟨_, hk, .inr ⟨false, u, xs, rfl, rfl⟩⟩
          · exact readE_ok hm (l := r) hzz hz n e' hl2
        · cases h'
      · cases h'
    · cases h'

/-- What a template reads off a state holds of the machine state. -/
theorem Tm.read_ok {T : Tm} {x : Tys T.ks} (h : T.read s = some x) (hz : FzOk fz s (dataS T.slots s.env ++ dataE s.ents (T.src s) T.ents)) : Wk fz s (T.enc x) (srcOf (T.src s)) := by
  unfold Tm.read at h
  simp only at h
  split at h
  · rename_i hn
    split at h
    · rename_i y hy
      split at h
      · rename_i z hzz
        cases h
        have he : (T.enc (Tys.app (ksS T.slots) (ksE T.ents) y z)).ents = encE T.ents z := by simp only [Tm.enc, app_snd]
        have hv : (T.enc (Tys.app (ksS T.slots) (ksE T.ents) y z)).env = encS T.slots y := by simp only [Tm.enc, app_fst]
        have hm : ∀ n e, look n (T.enc (Tys.app (ksS T.slots) (ksE T.ents) y z)).ents = some e → e.mut = true → srcOf (T.src s) n ∈ mutsOf (T.src s) T.ents := by
          intro n e hl hmu; rw [he] at hl; exact mem_muts hl hmu
        obtain ⟨k1, k2⟩ := readS_ok hm hz.left hy
        refine ⟨(by rw [hv]; exact k1), fun t b hb => ?_, fun n e' hl => ?_, fun n m e f h1 h2 h3 h4 h5 => ?_⟩
        · rw [hv] at hb; exact k2 t b hb
        · rw [he] at hl; exact readE_ok hm hz.right hzz n e' hl
        · rw [he] at h1 h2; exact muts_inj (nodupN_ok hn) h1 h2 h3 h4 h5
      · cases h
    · cases h
  · cases h

theorem fz_false {l : List A1} : FzOk false s l := fun h => by cases h

theorem pinsOk_ok {src : List (Nat × Nat)} : ∀ {l : List (Nat × ET)}, pinsOk src l = true → ∀ n e, (n, e) ∈ l → n % 64 = 63 → srcOf src n = n
  | (m, f) :: r, h, n, e, hm, hn => by
    unfold pinsOk at h
    rcases List.mem_cons.1 hm with h0 | hm
    · cases h0
      have : Nat.beq (m % 64) 63 = true := by rw [hn]; rfl
      rw [this] at h
      simp only at h
      split at h
      · rename_i hb; exact Nat.eq_of_beq_eq_true hb
      · cases h
    · split at h
      · split at h
        · exact pinsOk_ok h n e hm hn
        · cases h
      · exact pinsOk_ok h n e hm hn
theorem encE_mem {n : Nat} {e : Ent} : ∀ {l : List (Nat × ET)} {x : Tys (ksE l)}, look n (encE l x) = some e → ∃ t, (n, t) ∈ l
  | (k, .box l) :: r, x, h => by
    simp only [encE, look_cons] at h
    split at h
    · rename_i hk; subst hk; exact ⟨_, List.mem_cons_self ..⟩
    · obtain ⟨t, ht⟩ := encE_mem (l := r) h; exact ⟨t, List.mem_cons_of_mem _ ht⟩
  | (k, .arr fr t) :: r, x, h => by
    simp only [encE, look_cons] at h
    split at h
    · rename_i hk; subst hk; exact ⟨_, List.mem_cons_self ..⟩
    · obtain ⟨t, ht⟩ := encE_mem (l := r) h; exact ⟨t, List.mem_cons_of_mem _ ht⟩

/-- A state read by a template that leaves the pinned names alone. -/
theorem Tm.readP_ok {C : Bs} {bt : Nat → Option Value} {tm : Array Value} {w : World} {T : Tm} {x : Tys T.ks} (h : T.readP s = some x) (g : Gam C s NoX bt tm w) : Gam C (T.enc x) NoX (fun n => bt (srcOf (T.src s) n)) tm w := by
  unfold Tm.readP at h
  split at h
  · rename_i hp
    refine g.wk (Tm.read_ok (fz := false) h fz_false) ?_
    intro k e hl hk
    have hm := encE_mem (l := T.ents) hl
    exact hm.elim fun t ht => pinsOk_ok hp k t ht hk
  · cases h
end
end Go.Di
/-
  Own work. Calls by contract: how a call finds the state, and how it leaves it.
-/
open Go.RowKit (Below)
namespace Go.Di

def AV.has (a : A1) : AV → Prop
  | .v _ l => a ∈ l
  | .tup ps => ∃ p ∈ ps, a ∈ p.2

theorem L1Ok.conv {x y : Cx} : ∀ {l : List A1} {vs : List Value}, (∀ a ∈ l, ∀ v, A1Ok x a v → A1Ok y a v) → L1Ok x l vs → L1Ok y l vs
  | [], [], _, _ => trivial
  | a :: _l, v :: _vs, h, ⟨h1, h2, h3⟩ => ⟨h a (List.mem_cons_self ..) v h1, h2, h3.conv fun b hb => h b (List.mem_cons_of_mem _ hb)⟩
  | [], _ :: _, _, h => h.elim
  | _ :: _, [], _, h => h.elim
theorem VOk.conv {x y : Cx} {g : Bool} {l : List A1} {v : Value} (h : ∀ a ∈ l, ∀ v, A1Ok x a v → A1Ok y a v) (hv : VOk x g l v) : VOk y g l v := by
  cases g with
  | true => obtain ⟨vs, h1, h2⟩ := hv; exact ⟨vs, h1, h2.conv h⟩
  | false => obtain ⟨a, rfl, h2, h3⟩ := hv; exact ⟨a, rfl, h a (List.mem_cons_self ..) v h2, h3⟩
theorem PsOk.conv {x y : Cx} : ∀ {ps : List (Bool × List A1)} {vs : List Value}, (∀ p ∈ ps, ∀ a ∈ p.2, ∀ v, A1Ok x a v → A1Ok y a v) → PsOk x ps vs → PsOk y ps vs
  | [], [], _, _ => trivial
  | p :: _l, _v :: _vs, h, ⟨h1, h2⟩ => ⟨VOk.conv (h p (List.mem_cons_self ..)) h1, h2.conv fun q hq => h q (List.mem_cons_of_mem _ hq)⟩
  | [], _ :: _, _, h => h.elim
  | _ :: _, [], _, h => h.elim
theorem AVOk.conv {x y : Cx} {a : AV} {v : Value} (h : ∀ b, a.has b → ∀ v, A1Ok x b v → A1Ok y b v) (hv : AVOk x a v) : AVOk y a v := by
  cases a with
  | v g l => exact VOk.conv h hv
  | tup ps => obtain ⟨vs, h1, h2⟩ := hv; exact ⟨vs, h1, h2.conv fun p hp b hb => h b ⟨p, hp, hb⟩⟩

theorem mkRes_has {t : Bool} {ps : List (Bool × List A1)} {b : A1} (h : (mkRes t ps).has b) : ∃ p ∈ ps, b ∈ p.2 := by
  unfold mkRes at h
  split at h
  · exact ⟨_, List.mem_cons_self .., h⟩
  · exact h

def bare : Cell → Prop
  | .sl _ _ => False
  | _ => True
theorem bare_ne {c : Cell} (h : bare c) : ∀ t xs, c ≠ .sl t xs := by
  intro t xs he; subst he; exact h


def packV (tup : Bool) (vs : Array Value) : Value := match tup with
  | true => .tuple vs
  | false => vs.getD 0 undef

/-- What a contract promises of a call. -/
def Meets (P : Program) (f : FuncId) (c : Con) : Prop :=
  ∀ (C : Bs) (w : World) (β : Nat → Option Value) (args : Array Value) (x : Tys c.sig.tin.ks) (y : c.ρ), c.run x = some y → Gam C (c.sig.tin.enc x) NoX β args w →
    Calls P f args w fun e w' => ∃ vs β', e = .returned (packV c.sig.tup vs) ∧ Kp C.keep w w' ∧ Gam C (c.sig.tout.enc (c.out y)) NoX β' vs w'

/-! ### How a call finds the state -/
section
variable {P : Program} {C : Bs} {w w' : World} {s s' : St} {X : Nat → Prop} {β β' : Nat → Option Value} {a : Act} {o : Oper} {tm : Array Value} {src : Nat → Nat} {fz : Bool}
  {t : TypeId} {x y : Operand} {i : TI} {K : Act → World → Prop} {Q : Exit → Act → World → Prop}

def Callable (P : Program) (f : FuncId) : Prop := ∃ fn, P.funcs[f]? = some fn ∧ (fn.name == "runtime.NumGoroutine") = false ∧ fn.body.isNone = false

theorem run_call {f : FuncId} (hf : Callable P f) {args : Array Operand} {ts : Array TypeId} (ho : o.op = .call { callee := .value (.func f), args := args, argTypes := ts }) :
    (execOp a.eval o).run P w = .ok (.enter f (args.map a.eval)) w := by
  obtain ⟨fn, h1, h2, h3⟩ := hf
  simp only [beq_eq_false_iff_ne, ne_eq] at h2
  have h4 : fn.body ≠ none := by intro e; rw [e] at h3; cases h3
  simp [execOp, ho, resolve, Act.eval, Deferred.ofValue, invoke, callFunc, h1, h2, h4]


def callQ (fz : Bool) (C : Bs) (s : St) (β : Nat → Option Value) (w : World) : Nat → Prop := match fz with
  | false => fun _ => True
  | true => fun b => b < w.heap.size ∧ ¬ Top (fun n => look n s.ents) β b ∧ (¬ C.keep b ∨ C.old b)
def callC (fz : Bool) (C : Bs) (s s' : St) (src : Nat → Nat) (β : Nat → Option Value) (w : World) : Bs where
  keep b := b < w.heap.size ∧ ¬ Top (fun n => look n s'.ents) (fun n => β (src n)) b
  w0 := w
  old := callQ fz C s β w
  pin n := if n % 64 = 63 then β (src n) else none

theorem callQ_ok : QOk fz C s β w (callQ fz C s β w) := by
  cases fz with
  | false => exact ⟨fun _ _ _ _ => trivial, fun _ _ _ => trivial⟩
  | true => exact ⟨fun b h1 h2 h3 => ⟨h1, h2, h3⟩, fun h => by cases h⟩

theorem call_gam (g : Gam C s NoX β tm w) (h : Wk fz s s' src) : Gam (callC fz C s s' src β w) s' NoX (fun n => β (src n)) tm w := by
  have hq : QOk fz C s β w (callQ fz C s β w) := callQ_ok
  have hle : Le (wkCx s' src β w (callQ fz C s β w)) (cx (callC fz C s s' src β w) s' (fun n => β (src n)) w) (fun _ => True) :=
    ⟨fun _ h => .inr h, fun _ _ _ => rfl, Nat.le_refl _, fun _ _ _ h => h, fun n _ => .inr ⟨rfl, .inl rfl⟩⟩
  refine ⟨h.len.trans g.len, fun t b hx hb => ?_, fun n e' v hl hv => ?_, h.uniq g, fun b hb => ⟨fun hk => hk.2 hb, (g.fresh b (h.top hb)).2⟩, fun b hb => hb.1, Kp.refl _ _, fun n v hp _ => ?_, fun n hn => ?_, fun n e he => ?_⟩
  · obtain ⟨a, h1, h2⟩ := h.env t b hb
    exact hle.av (refs_true b) (h.av g hq h2 (g.env t a hx h1))
  · exact EntOk.le hle (by cases e' <;> first | exact L1refs_true _ | trivial) (fun _ _ _ => rfl) (h.entOk g hq hl hv)
  · simp only [callC] at hp
    split at hp
    · exact hp
    · cases hp
  · simp only [callC] at hn
    split at hn
    · assumption
    · cases hn
  · obtain ⟨e0, h1, _⟩ := h.ents n e he
    exact g.bs (src n) e0 h1

/-! ### Names that go -/
theorem freeN_spec : ∀ (K : List Nat) (s : St), (∀ m, m ∈ K → look m (St.freeN K s).ents = none) ∧
    (∀ m f, look m (St.freeN K s).ents = some f → m ∉ K ∧ ∃ f0, look m s.ents = some f0 ∧ f.mut = f0.mut ∧ (f = f0 ∨ ∃ l l', f0 = .box l ∧ f = .box l') ∧ f.refs (fun n => n ∉ K) ∧ (∀ q, f0.refs q → f.refs q) ∧ ∀ (x : Cx) v, EntOk x f0 v → EntOk x f v) ∧
    (∀ m f0, look m s.ents = some f0 → m ∉ K → ∃ f, look m (St.freeN K s).ents = some f ∧ (f = f0 ∨ ∃ l l', f0 = .box l ∧ f = .box l')) ∧
    ((St.freeN K s).env.length = s.env.length) ∧
    ∀ (t : Nat) a, (St.freeN K s).env[t]? = some a → ∃ a0, s.env[t]? = some a0 ∧ a.refs (fun n => n ∉ K) ∧ (∀ q, a0.refs q → a.refs q) ∧ ∀ (x : Cx) v, AVOk x a0 v → AVOk x a v
  | [], s => by
    have one : ∀ b : A1, b.refs (fun k => k ∉ ([] : List Nat)) := by
      intro b; cases b <;> first | trivial | simp [A1.refs]
    refine ⟨(fun m h => by cases h), (fun m f h => ⟨by simp, f, h, rfl, .inl rfl, ?_, fun _ h => h, fun _ _ h => h⟩), (fun m f0 h _ => ⟨f0, h, .inl rfl⟩), rfl, (fun t a h => ⟨a, h, ?_, fun _ h => h, fun _ _ h => h⟩)⟩
    · cases f with
      | box l => exact fun b _ => one b
      | arr _ _ _ => trivial
    · cases a with
      | v g l => exact fun b _ => one b
      | tup ps => exact fun p _ b _ => one b
  | n :: K, s => by
    obtain ⟨h1, h2, h3, h4, h5⟩ := freeN_spec K (s.free n)
    have le : (s.free n).env.length = s.env.length := by simp [St.free, length_killE]
    refine ⟨fun m hm => ?_, fun m f hf => ?_, fun m f0 hf hm => ?_, h4.trans le, fun t a ha => ?_⟩
    · by_cases hk : m ∈ K
      · exact h1 m hk
      · have : m = n := (List.mem_cons.1 hm).resolve_right hk
        subst this
        cases hl : look m (St.freeN K (s.free m)).ents with
        | none => exact hl
        | some f =>
          obtain ⟨_, f0, q, _⟩ := h2 m f hl
          simp [look_free] at q
    · obtain ⟨k1, f1, k2, k3, k4, k5, k5b, k6⟩ := h2 m f hf
      simp only [look_free] at k2
      split at k2
      · cases k2
      · rename_i hmn
        cases h0 : look m s.ents with
        | none => simp [h0] at k2
        | some f0 =>
          simp [h0] at k2; subst k2
          refine ⟨by simp [hmn, k1], f0, rfl, by rw [k3, ent_kill_mut], ?_, ?_, fun q hq => k5b q (refs_ent_kill n hq), fun x v hv => k6 x v (hv.kill n)⟩
          · cases f0 with
            | box l =>
              right
              rcases k4 with rfl | ⟨l1, l2, q, rfl⟩
              · exact ⟨l, _, rfl, rfl⟩
              · exact ⟨l, l2, rfl, rfl⟩
            | arr fr t xs =>
              rcases k4 with rfl | ⟨l1, l2, q, rfl⟩
              · exact .inl rfl
              · cases q
          · have r1 : f.refs (· ≠ n) := k5b _ (ent_kill_refs n f0)
            have := refs_ent_and r1 k5
            cases f with
            | arr _ _ _ => trivial
            | box l =>
              intro b hb
              have := this b hb
              cases b <;> first | trivial | (intro hm; rcases List.mem_cons.1 hm with e | e; exact this.1 e; exact this.2 e)
    · simp only [List.mem_cons, not_or] at hm
      have q : look m (s.free n).ents = some (f0.kill n) := by simp [look_free, hm.1, hf]
      obtain ⟨f, k1, k2⟩ := h3 m _ q hm.2
      refine ⟨f, k1, ?_⟩
      cases f0 with
      | box l =>
        right
        rcases k2 with rfl | ⟨l1, l2, q, rfl⟩
        · exact ⟨l, _, rfl, rfl⟩
        · exact ⟨l, l2, rfl, rfl⟩
      | arr fr t xs =>
        rcases k2 with rfl | ⟨l1, l2, q, rfl⟩
        · exact .inl rfl
        · cases q
    · obtain ⟨a1, k1, k2, k2b, k3⟩ := h5 t a ha
      simp only [St.free, get_killE] at k1
      cases h0 : s.env[t]? with
      | none => simp [h0] at k1
      | some a0 =>
        simp [h0] at k1; subst k1
        refine ⟨a0, rfl, ?_, fun q hq => k2b q (refs_av_kill n hq), fun x v hv => k3 x v (hv.kill n)⟩
        have r1 : a.refs (· ≠ n) := k2b _ (kill_av_refs n a0)
        have := refs_av_and r1 k2
        have one : ∀ b : A1, b.refs (fun k => k ≠ n ∧ k ∉ K) → b.refs (fun k => k ∉ n :: K) := by
          intro b hb
          cases b <;> first | trivial | (intro hm; rcases List.mem_cons.1 hm with e | e; exact hb.1 e; exact hb.2 e)
        cases a with
        | v g l => exact fun b hb => one b (this b hb)
        | tup ps => exact fun p hp b hb => one b (this p hp b hb)
end
end Go.Di
/-
  Own work. How a call leaves the state.
-/
open Go.RowKit (Below)
namespace Go.Di

def SameK (e e' : Ent) : Prop := (∃ l l', e = .box l ∧ e' = .box l') ∨ ∃ (t : ST) (xs xs' : List t.El), e = .arr false t xs ∧ e' = .arr false t xs' ∧ xs'.length = xs.length

section
variable {P : Program} {C : Bs} {w w' : World} {s s' : St} {X : Nat → Prop} {β β' : Nat → Option Value} {tm : Array Value}

theorem SameK.mut {e e' : Ent} (h : SameK e e') : e.mut = true ∧ e'.mut = true := by
  rcases h with ⟨l, l', rfl, rfl⟩ | ⟨t, xs, xs', rfl, rfl, _⟩ <;> exact ⟨rfl, rfl⟩

/-- Names go, entries come: in new memory, or in the place of those that were handed over. -/
theorem Gam.call (g : Gam C s X β tm w) {K : List Nat} {l : List (Nat × Ent)} (hn : (names l).Nodup)
    (hin : ∀ n e', (n, e') ∈ l → n ∈ K ∨ ∃ e, look n s.ents = some e ∧ SameK e e')
    (hβ : ∀ m, m ∉ names l ∨ m ∉ K → β' m = β m)
    (hw : ∀ b, b < w.heap.size → ¬ Top (fun n => look n s.ents) β b → w'.heap[b]? = w.heap[b]?)
    (hwk : ∀ m e v, look m s.ents = some e → e.mut = true → β m = some v → m ∉ K → m ∉ names l → ∀ b ∈ topOf v, w'.heap[b]? = w.heap[b]?)
    (hsz : w.heap.size ≤ w'.heap.size) (hbel : Kp C.keep w w')
    (htopn : ∀ n e v b, (n, e) ∈ l → β' n = some v → e.mut = true → b ∈ topOf v → b < w'.heap.size ∧ (w.heap.size ≤ b ∨ (Top (fun n => look n s.ents) β b ∧ ∀ m e0 u, look m s.ents = some e0 → e0.mut = true → β m = some u → b ∈ topOf u → m ∈ K ∨ m ∈ names l)))
    (huniq : ∀ n m e f v u b, (n, e) ∈ l → (m, f) ∈ l → e.mut = true → f.mut = true → β' n = some v → β' m = some u → b ∈ topOf v → b ∈ topOf u → n = m)
    (hpin : ∀ n ∈ names l, n ∈ K → n % 64 ≠ 63) (hbs : ∀ n ∈ names l, (β' n).isSome)
    (hents : Le (cx C s β w) (cx C ⟨(St.freeN K s).env, Go.Di.putL l (St.freeN K s).ents⟩ β' w') (fun n => n ∉ K) → ∀ n e v, (n, e) ∈ l → β' n = some v → EntOk (cx C ⟨(St.freeN K s).env, Go.Di.putL l (St.freeN K s).ents⟩ β' w') e v) :
    Gam C ⟨(St.freeN K s).env, Go.Di.putL l (St.freeN K s).ents⟩ X β' tm w' := by
  obtain ⟨f1, f2, f3, f4, f5⟩ := freeN_spec K s
  -- what is there behind the call
  have cases_ : ∀ n e, look n (Go.Di.putL l (St.freeN K s).ents) = some e → (n, e) ∈ l ∨ (n ∉ names l ∧ n ∉ K ∧ ∃ e0, look n s.ents = some e0 ∧ e.mut = e0.mut ∧ e.refs (fun k => k ∉ K) ∧ ∀ (x : Cx) v, EntOk x e0 v → EntOk x e v) := by
    intro n e h
    rcases look_putL_inv l _ n e hn h with h | ⟨h1, h2⟩
    · exact .inl h
    · obtain ⟨q1, e0, q2, q3, _, q5, _, q6⟩ := f2 n e h2
      exact .inr ⟨h1, q1, e0, q2, q3, q5, q6⟩
  have mem_names : ∀ n e, (n, e) ∈ l → n ∈ names l := fun n e h => List.mem_map.2 ⟨_, h, rfl⟩
  have htop : ∀ b, Top (fun n => look n (Go.Di.putL l (St.freeN K s).ents)) β' b → b < w'.heap.size ∧ (w.heap.size ≤ b ∨ Top (fun n => look n s.ents) β b) := by
    rintro b ⟨n, e, v, h1, h2, h3, h4⟩
    rcases cases_ n e h1 with h | ⟨k1, k2, e0, k3, k4, _⟩
    · obtain ⟨q1, q2⟩ := htopn n e v b h h3 h2 h4
      exact ⟨q1, q2.imp id (·.1)⟩
    · rw [hβ n (.inl k1)] at h3
      have hT : Top (fun n => look n s.ents) β b := ⟨n, e0, v, k3, by rw [← k4]; exact h2, h3, h4⟩
      exact ⟨Nat.lt_of_lt_of_le (g.fresh b hT).2 hsz, .inr hT⟩
  have hle : Le (cx C s β w) (cx C ⟨(St.freeN K s).env, Go.Di.putL l (St.freeN K s).ents⟩ β' w') (fun n => n ∉ K) := by
    refine ⟨fun _ h => h, fun b hlt hnt => hw b hlt hnt, hsz, fun b hlt _ ht => ?_, fun n hk => ?_⟩
    · rcases (htop b ht).2 with h | h
      · simp only [cx] at hlt; omega
      · exact h
    · show look n (Go.Di.putL l (St.freeN K s).ents) = none ∨ (β' n = β n ∧ (look n (Go.Di.putL l (St.freeN K s).ents) = look n s.ents ∨
        (∃ l1 l', look n s.ents = some (.box l1) ∧ look n (Go.Di.putL l (St.freeN K s).ents) = some (.box l')) ∨
        (∃ fr fr' t xs xs', look n s.ents = some (.arr fr t xs) ∧ look n (Go.Di.putL l (St.freeN K s).ents) = some (.arr fr' t xs') ∧ xs'.length = xs.length)))
      by_cases hm : n ∈ names l
      · right
        refine ⟨hβ n (.inr hk), ?_⟩
        obtain ⟨p, hp, rfl⟩ := List.mem_map.1 hm
        obtain ⟨n, e'⟩ := p
        have hl' := look_putL_mem l (St.freeN K s).ents n e' hn hp
        obtain ⟨e, k1, k2⟩ := (hin n e' hp).resolve_left hk
        rcases k2 with ⟨l1, l2, rfl, rfl⟩ | ⟨t, xs, xs', rfl, rfl, hx⟩
        · exact .inr (.inl ⟨l1, l2, k1, hl'⟩)
        · exact .inr (.inr ⟨false, false, t, xs, xs', k1, hl', hx⟩)
      · rw [look_putL_other n l _ hm]
        cases h0 : look n s.ents with
        | none =>
          left
          cases hq : look n (St.freeN K s).ents with
          | none => rfl
          | some f => obtain ⟨_, e0, q, _⟩ := f2 n f hq; rw [h0] at q; cases q
        | some e0 =>
          right
          refine ⟨hβ n (.inl hm), ?_⟩
          obtain ⟨f, k1, k2⟩ := f3 n e0 h0 hk
          rw [k1]
          rcases k2 with rfl | ⟨l1, l2, rfl, rfl⟩
          · exact .inl rfl
          · exact .inr (.inl ⟨l1, l2, rfl, rfl⟩)
  refine ⟨f4.trans g.len, fun t av hx h => ?_, fun n e v h1 h2 => ?_, ?_, fun b h => ?_, fun b hk => Nat.lt_of_lt_of_le (g.kb b hk) hsz, g.below.trans hbel, fun n v hp hl => ?_, g.np, fun n e h => ?_⟩
  · obtain ⟨a0, q1, q2, _, q3⟩ := f5 t av h
    exact hle.av q2 (q3 _ _ (g.env t a0 hx q1))
  · rcases cases_ n e h1 with h | ⟨k1, k2, e0, k3, k4, k5, k6⟩
    · exact hents hle n e v h h2
    · rw [hβ n (.inl k1)] at h2
      exact EntOk.le hle k5 (fun b hb hm => hwk n e0 v k3 (by rw [← k4]; exact hm) h2 k2 k1 b hb) (k6 _ v (g.ents n e0 v k3 h2))
  · intro n m e f u v b h1 h2 h3 h4 h5 h6 h7 h8
    rcases cases_ n e h1 with h | ⟨k1, k2, e0, k3, k4, _⟩ <;> rcases cases_ m f h2 with h' | ⟨q1, q2, e1, q3, q4, _⟩
    · exact huniq n m e f u v b h h' h3 h4 h5 h6 h7 h8
    · rw [hβ m (.inl q1)] at h6
      rcases (htopn n e u b h h5 h3 h7).2 with hh | ⟨_, hh⟩
      · have := (g.fresh b ⟨m, e1, v, q3, by rw [← q4]; exact h4, h6, h8⟩).2; omega
      · rcases hh m e1 v q3 (by rw [← q4]; exact h4) h6 h8 with hh | hh
        · exact absurd hh q2
        · exact absurd hh q1
    · rw [hβ n (.inl k1)] at h5
      rcases (htopn m f v b h' h6 h4 h8).2 with hh | ⟨_, hh⟩
      · have := (g.fresh b ⟨n, e0, u, k3, by rw [← k4]; exact h3, h5, h7⟩).2; omega
      · rcases hh n e0 u k3 (by rw [← k4]; exact h3) h5 h7 with hh | hh
        · exact absurd hh k2
        · exact absurd hh k1
    · rw [hβ n (.inl k1)] at h5; rw [hβ m (.inl q1)] at h6
      exact g.uniq n m e0 e1 u v b k3 q3 (by rw [← k4]; exact h3) (by rw [← q4]; exact h4) h5 h6 h7 h8
  · obtain ⟨q1, q2⟩ := htop b h
    refine ⟨fun hk => ?_, q1⟩
    rcases q2 with q2 | q2
    · have := g.kb b hk; omega
    · exact (g.fresh b q2).1 hk
  · by_cases hm : n ∈ names l
    · by_cases hk : n ∈ K
      · exact absurd (g.np n (by rw [hp]; rfl)) (hpin n hm hk)
      · rw [hβ n (.inr hk)]
        obtain ⟨p, hp', rfl⟩ := List.mem_map.1 hm
        obtain ⟨e, k1, _⟩ := (hin p.1 p.2 hp').resolve_left hk
        exact g.pin p.1 v hp (by rw [k1]; rfl)
    · rw [hβ n (.inl hm)]
      have hl' : (look n (Go.Di.putL l (St.freeN K s).ents)).isSome := hl
      rw [look_putL_other n l _ hm] at hl'
      cases hq : look n (St.freeN K s).ents with
      | none => rw [hq] at hl'; cases hl'
      | some f =>
        obtain ⟨_, e0, q, _⟩ := f2 n f hq
        exact g.pin n v hp (by rw [q]; rfl)
  · rcases cases_ n e h with h | ⟨k1, k2, e0, k3, _⟩
    · exact hbs n (mem_names n e h)
    · rw [hβ n (.inl k1)]; exact g.bs n e0 k3
end
end Go.Di
/-
  Own work. How a call leaves the state, by its contract.
-/
open Go.RowKit (Below)
namespace Go.Di

theorem names_encE : ∀ (l : List (Nat × ET)) (x : Tys (ksE l)), names (encE l x) = namesT l
  | [], _ => rfl
  | (n, .box l) :: r, x => by
    show n :: names (encE r (Tys.snd (ksL l) (ksE r) x)) = n :: namesT r
    rw [names_encE r]
  | (n, .arr fr t) :: r, x => by
    show n :: names (encE r x.2) = n :: namesT r
    rw [names_encE r]
theorem names_renE (f : Nat → Nat) : ∀ l : List (Nat × Ent), names (renE f l) = (names l).map f
  | [] => rfl
  | (n, e) :: r => by
    show f n :: names (renE f r) = f n :: (names r).map f
    rw [names_renE f r]
theorem mem_renE {f : Nat → Nat} {n : Nat} {e : Ent} : ∀ {l : List (Nat × Ent)}, (n, e) ∈ renE f l → ∃ q e0, (q, e0) ∈ l ∧ n = f q ∧ e = e0.ren f
  | (m, g) :: r, h => by
    rcases List.mem_cons.1 h with h | h
    · cases h; exact ⟨m, g, List.mem_cons_self .., rfl, rfl⟩
    · obtain ⟨q, e0, h1, h2, h3⟩ := mem_renE (l := r) h
      exact ⟨q, e0, List.mem_cons_of_mem _ h1, h2, h3⟩
theorem renE_mem {f : Nat → Nat} {q : Nat} {e : Ent} : ∀ {l : List (Nat × Ent)}, (q, e) ∈ l → (f q, e.ren f) ∈ renE f l
  | (m, g) :: r, h => by
    rcases List.mem_cons.1 h with h | h
    · cases h; exact List.mem_cons_self ..
    · exact List.mem_cons_of_mem _ (renE_mem (l := r) h)
theorem look_mem {n : Nat} {e : Ent} : ∀ {l : List (Nat × Ent)}, look n l = some e → (n, e) ∈ l
  | (m, f) :: r, h => by
    rw [look_cons] at h
    split at h
    · rename_i hk; subst hk; cases h; exact List.mem_cons_self ..
    · exact List.mem_cons_of_mem _ (look_mem h)
theorem mem_look {n : Nat} {e : Ent} {l : List (Nat × Ent)} (hn : (names l).Nodup) (h : (n, e) ∈ l) : look n l = some e := by
  induction l with
  | nil => cases h
  | cons p r ih =>
    obtain ⟨m, f⟩ := p
    rw [look_cons]
    simp only [names, List.map_cons, List.nodup_cons] at hn
    rcases List.mem_cons.1 h with h1 | h1
    · cases h1; simp
    · have : n ≠ m := by
        intro hnm
        subst hnm
        exact hn.1 (List.mem_map.2 ⟨(n, e), h1, rfl⟩)
      rw [if_neg this]; exact ih hn.2 h1
theorem namesT_mem {n : Nat} : ∀ {l : List (Nat × ET)}, n ∈ namesT l → ∃ t, (n, t) ∈ l
  | (m, e) :: r, h => by
    rcases List.mem_cons.1 h with rfl | h
    · exact ⟨e, List.mem_cons_self ..⟩
    · obtain ⟨t, ht⟩ := namesT_mem (l := r) h; exact ⟨t, List.mem_cons_of_mem _ ht⟩
theorem mem_namesT {n : Nat} {t : ET} : ∀ {l : List (Nat × ET)}, (n, t) ∈ l → n ∈ namesT l
  | (m, e) :: r, h => by
    rcases List.mem_cons.1 h with h | h
    · cases h; exact List.mem_cons_self ..
    · exact List.mem_cons_of_mem _ (mem_namesT h)
theorem mem_freshOf {f : Nat → Nat} {m : Nat} : ∀ {l : List (Nat × ET)}, m ∈ freshOf f l → ∃ q t, (q, t) ∈ l ∧ q % 64 ≠ 63 ∧ m = f q
  | (q, t) :: r, h => by
    unfold freshOf at h
    split at h
    · obtain ⟨q', t', h1, h2⟩ := mem_freshOf (l := r) h; exact ⟨q', t', List.mem_cons_of_mem _ h1, h2⟩
    · rename_i hb
      rcases List.mem_cons.1 h with rfl | h
      · exact ⟨q, t, List.mem_cons_self .., (by intro e; rw [e] at hb; simp at hb), rfl⟩
      · obtain ⟨q', t', h1, h2⟩ := mem_freshOf (l := r) h; exact ⟨q', t', List.mem_cons_of_mem _ h1, h2⟩
theorem freshOf_mem {f : Nat → Nat} {q : Nat} {t : ET} (hq : q % 64 ≠ 63) : ∀ {l : List (Nat × ET)}, (q, t) ∈ l → f q ∈ freshOf f l
  | (m, e) :: r, h => by
    unfold freshOf
    rcases List.mem_cons.1 h with h | h
    · cases h
      have : Nat.beq (q % 64) 63 = false := by rw [Bool.eq_false_iff]; intro hb; exact hq (Nat.eq_of_beq_eq_true hb)
      rw [this]; exact List.mem_cons_self ..
    · have := freshOf_mem hq h (f := f)
      split
      · exact this
      · exact List.mem_cons_of_mem _ this
theorem goneOf_mem {src : List (Nat × Nat)} {outs : List Nat} {p : Nat} {t : ET} : ∀ {l : List (Nat × ET)}, (p, t) ∈ l → (p % 64 = 63 ∧ p ∈ outs) ∨ srcOf src p ∈ goneOf src outs l
  | (m, e) :: r, h => by
    unfold goneOf
    rcases List.mem_cons.1 h with h | h
    · cases h
      cases h1 : Nat.beq (p % 64) 63 with
      | false => exact .inr (List.mem_cons_self ..)
      | true =>
        cases h2 : memN p outs with
        | false => exact .inr (List.mem_cons_self ..)
        | true => exact .inl ⟨Nat.eq_of_beq_eq_true h1, memN_iff.1 h2⟩
    · rcases goneOf_mem (l := r) h with h | h
      · exact .inl h
      · right
        split
        · exact h
        · exact List.mem_cons_of_mem _ h
theorem mem_goneOf {src : List (Nat × Nat)} {outs : List Nat} {m : Nat} : ∀ {l : List (Nat × ET)}, m ∈ goneOf src outs l → ∃ p t, (p, t) ∈ l ∧ m = srcOf src p ∧ ¬ (p % 64 = 63 ∧ p ∈ outs)
  | (p, e) :: r, h => by
    unfold goneOf at h
    split at h
    · obtain ⟨p', t', h1, h2⟩ := mem_goneOf (l := r) h; exact ⟨p', t', List.mem_cons_of_mem _ h1, h2⟩
    · rename_i hne
      rcases List.mem_cons.1 h with rfl | h
      · exact ⟨p, e, List.mem_cons_self .., rfl, fun ⟨h1, h2⟩ => hne (by rw [h1]; rfl) (memN_iff.2 h2)⟩
      · obtain ⟨p', t', h1, h2⟩ := mem_goneOf (l := r) h; exact ⟨p', t', List.mem_cons_of_mem _ h1, h2⟩
theorem allMut_ok {n : Nat} {t : ET} : ∀ {l : List (Nat × ET)}, allMut l = true → (n, t) ∈ l → t.mut = true
  | (m, e) :: r, h, hm => by
    unfold allMut at h
    split at h
    · rename_i he
      rcases List.mem_cons.1 hm with hm | hm
      · cases hm; exact he
      · exact allMut_ok h hm
    · cases h
theorem findE_mem {n : Nat} {e : ET} : ∀ {l : List (Nat × ET)}, findE n l = some e → (n, e) ∈ l
  | (m, f) :: r, h => by
    unfold findE at h
    split at h
    · rename_i hb; cases h; rw [Nat.eq_of_beq_eq_true hb]; exact List.mem_cons_self ..
    · exact List.mem_cons_of_mem _ (findE_mem h)
theorem pinIn_ok {ins : List (Nat × ET)} {q : Nat} {e : ET} : ∀ {l : List (Nat × ET)}, pinIn ins l = true → (q, e) ∈ l →
    (q % 64 = 63 ∧ ((∃ l1 l2, findE q ins = some (.box l1) ∧ e = .box l2) ∨ ∃ t, findE q ins = some (.arr false t) ∧ e = .arr false t)) ∨ (q % 64 ≠ 63 ∧ q < 63 ∧ ∀ t, e ≠ .arr true t)
  | (m, f) :: r, h, hm => by
    unfold pinIn at h
    cases hb : Nat.beq (m % 64) 63 with
    | true =>
      rw [hb] at h
      simp only at h
      split at h
      · rename_i l1 l2 h1
        rcases List.mem_cons.1 hm with hm | hm
        · cases hm; exact .inl ⟨Nat.eq_of_beq_eq_true hb, .inl ⟨_, _, h1, rfl⟩⟩
        · exact pinIn_ok h hm
      · rename_i t u h1
        split at h
        · rename_i he
          rcases List.mem_cons.1 hm with hm | hm
          · cases hm; exact .inl ⟨Nat.eq_of_beq_eq_true hb, .inr ⟨t, h1, by rw [eqb_eq he]⟩⟩
          · exact pinIn_ok h hm
        · cases h
      · cases h
    | false =>
      rw [hb] at h
      simp only at h
      cases hlt : Nat.blt m 63 with
      | false =>
        rw [hlt] at h
        cases f with
        | box l => cases h
        | arr fr t => cases fr <;> cases h
      | true =>
        rw [hlt] at h
        have hf : ∀ t, f ≠ .arr true t := by
          rintro t rfl; cases h
        have h' : pinIn ins r = true := by
          cases f with
          | box l => exact h
          | arr fr t => cases fr with
            | true => exact absurd rfl (hf t)
            | false => exact h
        rcases List.mem_cons.1 hm with hm | hm
        · cases hm
          refine .inr ⟨fun e => ?_, Nat.le_of_ble_eq_true hlt, hf⟩
          rw [e] at hb; simp at hb
        · exact pinIn_ok h' hm
end Go.Di
/-
  Own work. The state behind a call is described as the evaluator says.
-/
open Go.RowKit (Below)
namespace Go.Di

/-- What the cells of a template are. -/
theorem encL_spec : ∀ {l : List C1T} {x : Tys (ksL l)} {a : A1}, a ∈ encL l x → a = .bot ∨ (∃ c y, C1T.d c ∈ l ∧ a = .d (c.cell y)) ∨ (∃ n, C1T.own n ∈ l ∧ a = .own n) ∨ (∃ n o, C1T.lp n o ∈ l ∧ a = .lp n o) ∨ ∃ n lo k, C1T.win n ∈ l ∧ a = .win n lo k
  | .d c :: r, x, a, h => by
    rcases List.mem_cons.1 h with rfl | h
    · exact .inr (.inl ⟨c, x.1, List.mem_cons_self .., rfl⟩)
    · rcases encL_spec (l := r) h with h | ⟨c, y, h1, h2⟩ | ⟨n, h1, h2⟩ | ⟨n, o, h1, h2⟩ | ⟨n, lo, k, h1, h2⟩
      · exact .inl h
      · exact .inr (.inl ⟨c, y, List.mem_cons_of_mem _ h1, h2⟩)
      · exact .inr (.inr (.inl ⟨n, List.mem_cons_of_mem _ h1, h2⟩))
      · exact .inr (.inr (.inr (.inl ⟨n, o, List.mem_cons_of_mem _ h1, h2⟩)))
      · exact .inr (.inr (.inr (.inr ⟨n, lo, k, List.mem_cons_of_mem _ h1, h2⟩)))
  | .bot :: r, x, a, h => by
    rcases List.mem_cons.1 h with rfl | h
    · exact .inl rfl
    · rcases encL_spec (l := r) h with h | ⟨c, y, h1, h2⟩ | ⟨n, h1, h2⟩ | ⟨n, o, h1, h2⟩ | ⟨n, lo, k, h1, h2⟩
      · exact .inl h
      · exact .inr (.inl ⟨c, y, List.mem_cons_of_mem _ h1, h2⟩)
      · exact .inr (.inr (.inl ⟨n, List.mem_cons_of_mem _ h1, h2⟩))
      · exact .inr (.inr (.inr (.inl ⟨n, o, List.mem_cons_of_mem _ h1, h2⟩)))
      · exact .inr (.inr (.inr (.inr ⟨n, lo, k, List.mem_cons_of_mem _ h1, h2⟩)))
  | .own m :: r, x, a, h => by
    rcases List.mem_cons.1 h with rfl | h
    · exact .inr (.inr (.inl ⟨m, List.mem_cons_self .., rfl⟩))
    · rcases encL_spec (l := r) h with h | ⟨c, y, h1, h2⟩ | ⟨n, h1, h2⟩ | ⟨n, o, h1, h2⟩ | ⟨n, lo, k, h1, h2⟩
      · exact .inl h
      · exact .inr (.inl ⟨c, y, List.mem_cons_of_mem _ h1, h2⟩)
      · exact .inr (.inr (.inl ⟨n, List.mem_cons_of_mem _ h1, h2⟩))
      · exact .inr (.inr (.inr (.inl ⟨n, o, List.mem_cons_of_mem _ h1, h2⟩)))
      · exact .inr (.inr (.inr (.inr ⟨n, lo, k, List.mem_cons_of_mem _ h1, h2⟩)))
  | .lp m q :: r, x, a, h => by
    rcases List.mem_cons.1 h with rfl | h
    · exact .inr (.inr (.inr (.inl ⟨m, q, List.mem_cons_self .., rfl⟩)))
    · rcases encL_spec (l := r) h with h | ⟨c, y, h1, h2⟩ | ⟨n, h1, h2⟩ | ⟨n, o, h1, h2⟩ | ⟨n, lo, k, h1, h2⟩
      · exact .inl h
      · exact .inr (.inl ⟨c, y, List.mem_cons_of_mem _ h1, h2⟩)
      · exact .inr (.inr (.inl ⟨n, List.mem_cons_of_mem _ h1, h2⟩))
      · exact .inr (.inr (.inr (.inl ⟨n, o, List.mem_cons_of_mem _ h1, h2⟩)))
      · exact .inr (.inr (.inr (.inr ⟨n, lo, k, List.mem_cons_of_mem _ h1, h2⟩)))
  | .win m :: r, x, a, h => by
    rcases List.mem_cons.1 h with rfl | h
    · exact .inr (.inr (.inr (.inr ⟨m, x.1, x.2.1, List.mem_cons_self .., rfl⟩)))
    · rcases encL_spec (l := r) h with h | ⟨c, y, h1, h2⟩ | ⟨n, h1, h2⟩ | ⟨n, o, h1, h2⟩ | ⟨n, lo, k, h1, h2⟩
      · exact .inl h
      · exact .inr (.inl ⟨c, y, List.mem_cons_of_mem _ h1, h2⟩)
      · exact .inr (.inr (.inl ⟨n, List.mem_cons_of_mem _ h1, h2⟩))
      · exact .inr (.inr (.inr (.inl ⟨n, o, List.mem_cons_of_mem _ h1, h2⟩)))
      · exact .inr (.inr (.inr (.inr ⟨n, lo, k, List.mem_cons_of_mem _ h1, h2⟩)))

/-- Cells that go over to another description under other names. -/
def CellGo (x y : Cx) (f : Nat → Nat) (a : A1) : Prop := ∀ v, A1Ok x a v → A1Ok y (a.ren f) v

theorem L1Ok.go {x y : Cx} {f : Nat → Nat} : ∀ {l : List A1} {vs : List Value}, (∀ a ∈ l, CellGo x y f a) → L1Ok x l vs → L1Ok y (renL f l) vs
  | [], [], _, _ => trivial
  | a :: _l, v :: _vs, h, ⟨h1, h2, h3⟩ => ⟨h a (List.mem_cons_self ..) v h1, h2, L1Ok.go (fun b hb => h b (List.mem_cons_of_mem _ hb)) h3⟩
  | [], _ :: _, _, h => h.elim
  | _ :: _, [], _, h => h.elim
theorem VOk.go {x y : Cx} {f : Nat → Nat} {g : Bool} {l : List A1} {v : Value} (h : ∀ a ∈ l, CellGo x y f a) (hv : VOk x g l v) : VOk y g (renL f l) v := by
  cases g with
  | true => obtain ⟨vs, h1, h2⟩ := hv; exact ⟨vs, h1, h2.go h⟩
  | false =>
    obtain ⟨a, rfl, h2, h3⟩ := hv
    refine ⟨a.ren f, rfl, h a (List.mem_cons_self ..) v h2, ?_⟩
    rcases h3 with rfl | h3
    · exact .inl rfl
    · exact .inr h3

/-- The values of a call's results. -/
theorem res_go {x y : Cx} {f : Nat → Nat} : ∀ (res : List (Bool × List C1T)) (z : Tys (ksS (res.map some))) (vs : List Value),
    (∀ p ∈ res, ∀ zz : Tys (ksL p.2), ∀ a ∈ encL p.2 zz, CellGo x y f a) → (encS (res.map some) z).length = vs.length →
    (∀ (j : Nat) av v, (encS (res.map some) z)[j]? = some av → vs[j]? = some v → AVOk x av v) → PsOk y (renV f (encS (res.map some) z)) vs
  | [], z, [], _, _, _ => trivial
  | (b, l) :: r, z, v :: vs, h, hl, hv => by
    have e : encS (List.map some ((b, l) :: r)) z = .v b (encL l (Tys.fst (ksL l) (ksS (r.map some)) z)) :: encS (r.map some) (Tys.snd (ksL l) (ksS (r.map some)) z) := rfl
    rw [e] at hl hv
    have h0 := hv 0 _ v rfl rfl
    refine ⟨VOk.go (fun a ha => h (b, l) (List.mem_cons_self ..) _ a ha) h0, ?_⟩
    exact res_go r (Tys.snd (ksL l) (ksS (r.map some)) z) vs (fun p hp => h p (List.mem_cons_of_mem _ hp)) (by simpa using hl)
      (fun j av v h1 h2 => hv (j + 1) av v (by simpa using h1) (by simpa using h2))
  | [], z, _ :: _, _, hl, _ => by
    have e : encS (List.map some ([] : List (Bool × List C1T))) z = [] := rfl
    rw [e] at hl; simp at hl
  | (b, l) :: r, z, [], _, hl, _ => by
    have e : encS (List.map some ((b, l) :: r)) z = .v b (encL l (Tys.fst (ksL l) (ksS (r.map some)) z)) :: encS (r.map some) (Tys.snd (ksL l) (ksS (r.map some)) z) := rfl
    rw [e] at hl; simp at hl
theorem length_encS_map : ∀ (res : List (Bool × List C1T)) (z : Tys (ksS (res.map some))), (encS (res.map some) z).length = res.length
  | [], _ => rfl
  | (b, l) :: r, z => by
    have e : encS (List.map some ((b, l) :: r)) z = .v b (encL l (Tys.fst (ksL l) (ksS (r.map some)) z)) :: encS (r.map some) (Tys.snd (ksL l) (ksS (r.map some)) z) := rfl
    rw [e, List.length_cons, length_encS_map r]; rfl

theorem length_renV {f : Nat → Nat} : ∀ (res : List (Bool × List C1T)) (z : Tys (ksS (res.map some))), (renV f (encS (res.map some) z)).length = res.length
  | [], _ => rfl
  | (b, l) :: r, z => by
    show (renV f (encS (r.map some) _)).length + 1 = r.length + 1
    rw [length_renV r]

theorem pack_ok {y : Cx} {tup : Bool} {ps : List (Bool × List A1)} {vs : Array Value} (h : PsOk y ps vs.toList) (ht : tup = false → ps.length = 1) : AVOk y (mkRes tup ps) (packV tup vs) := by
  cases tup with
  | true =>
    have : mkRes true ps = .tup ps := by unfold mkRes; rfl
    rw [this]; exact ⟨vs, rfl, h⟩
  | false =>
    have hl := ht rfl
    match ps, hl with
    | [(b, l)], _ =>
      cases hv : vs.toList with
      | nil => rw [hv] at h; exact h.elim
      | cons v r =>
        rw [hv] at h
        have hd : vs.getD 0 undef = v := by
          have : vs[0]? = some v := by rw [← Array.getElem?_toList, hv]; rfl
          simp [Array.getD_eq_getD_getElem?, this]
        show VOk y b l (vs.getD 0 undef)
        rw [hd]; exact h.1

theorem refsL_ok {ok : List Nat} : ∀ {l : List C1T}, refsL ok l = true → (∀ n, C1T.own n ∈ l → n ∈ ok) ∧ (∀ n o, C1T.lp n o ∈ l → n ∈ ok) ∧ ∀ n, C1T.win n ∈ l → n ∈ ok
  | [], _ => ⟨(fun n h => by cases h), (fun n o h => by cases h), (fun n h => by cases h)⟩
  | c :: r, h => by
    have rest : refsL ok r = true := by
      cases c <;> first | exact h | (simp only [refsL] at h; split at h <;> first | exact h | cases h)
    have here : ∀ n, (c = .own n ∨ (∃ o, c = .lp n o) ∨ c = .win n) → n ∈ ok := by
      intro n hn
      rcases hn with rfl | ⟨o, rfl⟩ | rfl
      all_goals
        simp only [refsL] at h
        split at h
        · rename_i hb; exact memN_iff.1 hb
        · cases h
    obtain ⟨r1, r2, r3⟩ := refsL_ok rest
    refine ⟨fun n hm => ?_, fun n o hm => ?_, fun n hm => ?_⟩
    · rcases List.mem_cons.1 hm with e | hm
      · exact here n (.inl e.symm)
      · exact r1 n hm
    · rcases List.mem_cons.1 hm with e | hm
      · exact here n (.inr (.inl ⟨o, e.symm⟩))
      · exact r2 n o hm
    · rcases List.mem_cons.1 hm with e | hm
      · exact here n (.inr (.inr e.symm))
      · exact r3 n hm
theorem refsP_ok {ok : List Nat} : ∀ {l : List (Bool × List C1T)}, refsP ok l = true → ∀ p ∈ l, refsL ok p.2 = true
  | (b, m) :: r, h, p, hp => by
    unfold refsP at h
    split at h
    · rename_i hb
      rcases List.mem_cons.1 hp with rfl | hp
      · exact hb
      · exact refsP_ok h p hp
    · cases h
theorem refsE_ok {ok : List Nat} : ∀ {l : List (Nat × ET)}, refsE ok l = true → ∀ n m, (n, ET.box m) ∈ l → refsL ok m = true
  | (k, e) :: r, h, n, m, hp => by
    have rest : refsE ok r = true := by
      cases e <;> first | exact h | (simp only [refsE] at h; split at h <;> first | exact h | cases h)
    rcases List.mem_cons.1 hp with hp | hp
    · cases hp
      simp only [refsE] at h
      split at h
      · assumption
      · cases h
    · exact refsE_ok rest n m hp
theorem sharesP_ok : ∀ {l : List (Bool × List C1T)}, sharesP l = false → ∀ p ∈ l, ∀ c ∈ p.2, c.shares = false
  | (b, m) :: r, h, p, hp, c, hc => by
    simp only [sharesP, Bool.or_eq_false_iff] at h
    rcases List.mem_cons.1 hp with rfl | hp
    · have := h.1
      rw [List.any_eq_false] at this
      simpa using this c hc
    · exact sharesP_ok h.2 p hp c hc
theorem sharesE_ok : ∀ {l : List (Nat × ET)}, sharesE l = false → ∀ n e, (n, e) ∈ l → (∀ m, e = .box m → ∀ c ∈ m, c.shares = false) ∧ ∀ fr t, e = .arr fr t → fr = false ∧ t.deep = false
  | (k, .box m) :: r, h, n, e, hp => by
    simp only [sharesE, Bool.or_eq_false_iff] at h
    rcases List.mem_cons.1 hp with hp | hp
    · cases hp
      refine ⟨fun m' e c hc => ?_, fun fr t e => by cases e⟩
      cases e
      have := h.1
      rw [List.any_eq_false] at this
      simpa using this c hc
    · exact sharesE_ok h.2 n e hp
  | (k, .arr fr t) :: r, h, n, e, hp => by
    simp only [sharesE, Bool.or_eq_false_iff] at h
    rcases List.mem_cons.1 hp with hp | hp
    · cases hp
      exact ⟨(fun m e => by cases e), (fun fr' t' e => by cases e; exact ⟨h.1, h.2.1⟩)⟩
    · exact sharesE_ok h.2.2 n e hp
/-- What the entries of a template are. -/
theorem encE_spec {n : Nat} {e : Ent} : ∀ {l : List (Nat × ET)} {x : Tys (ksE l)}, (n, e) ∈ encE l x → (∃ m z, (n, ET.box m) ∈ l ∧ e = .box (encL m z)) ∨ ∃ fr t xs, (n, ET.arr fr t) ∈ l ∧ e = .arr fr t xs
  | (k, .box m) :: r, x, h => by
    rcases List.mem_cons.1 h with h | h
    · cases h; exact .inl ⟨m, _, List.mem_cons_self .., rfl⟩
    · rcases encE_spec (l := r) h with ⟨m', z, h1, h2⟩ | ⟨fr, t, xs, h1, h2⟩
      · exact .inl ⟨m', z, List.mem_cons_of_mem _ h1, h2⟩
      · exact .inr ⟨fr, t, xs, List.mem_cons_of_mem _ h1, h2⟩
  | (k, .arr fr t) :: r, x, h => by
    rcases List.mem_cons.1 h with h | h
    · cases h; exact .inr ⟨fr, t, x.1, List.mem_cons_self .., rfl⟩
    · rcases encE_spec (l := r) h with ⟨m', z, h1, h2⟩ | ⟨fr, t, xs, h1, h2⟩
      · exact .inl ⟨m', z, List.mem_cons_of_mem _ h1, h2⟩
      · exact .inr ⟨fr, t, xs, List.mem_cons_of_mem _ h1, h2⟩
end Go.Di
/-
  Own work. The state behind a call: the theorem.
-/
open Go.RowKit (Below)
namespace Go.Di

section
variable {P : Program} {C : Bs} {w w' : World} {s s' : St} {X : Nat → Prop} {β β2 : Nat → Option Value} {tm : Array Value}

theorem and3 {a b : Bool} (h : (a && b) = true) : a = true ∧ b = true := by cases a <;> cases b <;> simp_all

theorem call_out {avs : List AV} {args vs : Array Value} {sg : Sig} {d : Nat} {xin : Tys sg.tin.ks} {y : Tys sg.tout.ks}
    (g : Gam C s X β tm w) (ga : Gam C ⟨avs, s.ents⟩ NoX β args w) (h : Wk sg.shares ⟨avs, s.ents⟩ (sg.tin.enc xin) (srcOf (sg.tin.src ⟨avs, s.ents⟩)))
    (hfine : sg.fine = true) (hnames : nodupN ((namesT sg.outs).map (portName (sg.tin.src ⟨avs, s.ents⟩) d)) = true) (htup : sg.tup = false → sg.res.length = 1)
    (hk : Kp (callC sg.shares C ⟨avs, s.ents⟩ (sg.tin.enc xin) (srcOf (sg.tin.src ⟨avs, s.ents⟩)) β w).keep w w')
    (G : Gam (callC sg.shares C ⟨avs, s.ents⟩ (sg.tin.enc xin) (srcOf (sg.tin.src ⟨avs, s.ents⟩)) β w) (sg.tout.enc y) NoX β2 vs w') :
    ∃ β3, Gam C (afterCall s d sg (sg.tin.src ⟨avs, s.ents⟩) y).2 X β3 tm w' ∧
      AVOk (cx C (afterCall s d sg (sg.tin.src ⟨avs, s.ents⟩) y).2 β3 w') (afterCall s d sg (sg.tin.src ⟨avs, s.ents⟩) y).1 (packV sg.tup vs) := by
  generalize hL : sg.tin.src ⟨avs, s.ents⟩ = L at *
  obtain ⟨nd, hf2⟩ := and3 hfine
  obtain ⟨hpinIn, hf3⟩ := and3 hf2
  obtain ⟨hmut, hf4⟩ := and3 hf3
  obtain ⟨hrefP, hrefE⟩ := and3 hf4
  have hnames := nodupN_ok hnames
  -- names
  let f := portName L d
  let O := (sg.tout.enc y).ents
  have hO : O = encE sg.outs (Tys.snd (ksS (sg.res.map some)) (ksE sg.outs) y) := rfl
  have hnO : names O = namesT sg.outs := names_encE _ _
  have hndO : (names O).Nodup := by rw [hnO]; exact nodupN_ok nd
  let l := renE f O
  have hnl : names l = (namesT sg.outs).map f := by show names (renE f O) = _; rw [names_renE, hnO]
  have hndl : (names l).Nodup := by rw [hnl]; exact hnames
  let K := goneOf L (namesT sg.outs) sg.ins ++ freshOf f sg.outs
  have finj : ∀ q q', q ∈ namesT sg.outs → q' ∈ namesT sg.outs → f q = f q' → q = q' := by
    have key : ∀ (l : List Nat), (l.map f).Nodup → ∀ q q', q ∈ l → q' ∈ l → f q = f q' → q = q' := by
      intro l
      induction l with
      | nil => intro _ q _ hq; cases hq
      | cons a r ih =>
        intro hn q q' hq hq' he
        simp only [List.map_cons, List.nodup_cons] at hn
        rcases List.mem_cons.1 hq with e1 | e1 <;> rcases List.mem_cons.1 hq' with e2 | e2
        · rw [e1, e2]
        · subst e1; exact absurd (List.mem_map.2 ⟨q', e2, he.symm⟩) hn.1
        · subst e2; exact absurd (List.mem_map.2 ⟨q, e1, he⟩) hn.1
        · exact ih hn.2 q q' e1 e2 he
    exact key _ hnames
  have fFresh : ∀ q, q % 64 ≠ 63 → f q = nm d + q := by
    intro q hq
    have hb : Nat.beq (q % 64) 63 = false := by rw [Bool.eq_false_iff]; intro hb; exact hq (Nat.eq_of_beq_eq_true hb)
    show portName L d q = _
    unfold portName; rw [hb]
  have fPin : ∀ q, q % 64 = 63 → f q = srcOf L q := by
    intro q hq
    show portName L d q = _
    unfold portName; rw [hq]
  have insMut : ∀ p t e, (p, t) ∈ sg.ins → look p (sg.tin.enc xin).ents = some e → e.mut = true := by
    intro p t e hp he
    have he' := look_mem (l := (sg.tin.enc xin).ents) he
    rcases encE_spec (l := sg.ins) he' with ⟨m, z, _, rfl⟩ | ⟨fr, t', xs, h1, rfl⟩
    · rfl
    · have := allMut_ok hmut h1
      cases fr <;> simp_all [ET.mut, Ent.mut]
  have inLook : ∀ p t, (p, t) ∈ sg.ins → ∃ e, look p (sg.tin.enc xin).ents = some e := by
    intro p t hp
    have : p ∈ names (sg.tin.enc xin).ents := by
      have hh : names (sg.tin.enc xin).ents = namesT sg.ins := names_encE _ _
      rw [hh]; exact mem_namesT hp
    have key : ∀ (l : List (Nat × Ent)), p ∈ names l → ∃ e, look p l = some e := by
      intro l
      induction l with
      | nil => intro h; cases h
      | cons q r ih =>
        intro h
        rw [show q = (q.1, q.2) from rfl, look_cons]
        by_cases hq : p = q.1
        · exact ⟨q.2, by rw [if_pos hq]⟩
        · rw [if_neg hq]
          simp only [names, List.map_cons, List.mem_cons] at h
          exact ih (h.resolve_left hq)
    exact key _ this
  -- a block of a port's entry belongs to a name that goes or comes back
  have portBlock : ∀ b, Top (fun n => look n (sg.tin.enc xin).ents) (fun n => β (srcOf L n)) b → ∀ m e u, look m s.ents = some e → e.mut = true → β m = some u → b ∈ topOf u → m ∈ K ∨ m ∈ names l := by
    rintro b ⟨p, e', v', h1, h2, h3, h4⟩ m e u k1 k2 k3 k4
    obtain ⟨e0, q1, q2⟩ := h.mut h1 h2
    have hm : m = srcOf L p := ga.uniq m (srcOf L p) e e0 u v' b k1 q1 k2 q2 k3 h3 k4 h4
    obtain ⟨t, ht⟩ := encE_mem (l := sg.ins) h1
    rcases goneOf_mem (src := L) (outs := namesT sg.outs) ht with ⟨hp1, hp2⟩ | hg
    · right
      rw [hnl, hm, ← fPin p hp1]
      exact List.mem_map.2 ⟨p, hp2, rfl⟩
    · left; rw [hm]; exact List.mem_append_left _ hg
  have topSub : ∀ b, Top (fun n => look n (sg.tin.enc xin).ents) (fun n => β (srcOf L n)) b → Top (fun n => look n s.ents) β b := fun b hb => h.top hb
  -- in-out entries
  have inout : ∀ q t, (q, t) ∈ sg.outs → q % 64 = 63 → ∃ ti ein e, (q, ti) ∈ sg.ins ∧ look q (sg.tin.enc xin).ents = some ein ∧ look (srcOf L q) s.ents = some e ∧ ein.mut = true ∧
      ((∃ l1 l2 l3, t = .box l1 ∧ ein = .box l2 ∧ e = .box l3) ∨ ∃ u xs, t = .arr false u ∧ ein = .arr false u xs ∧ e = .arr false u xs) := by
    intro q t hq h63
    rcases pinIn_ok hpinIn hq with ⟨_, hc⟩ | ⟨hne, _⟩
    · have hfi : ∃ ti, findE q sg.ins = some ti ∧ ((∃ l1 l2, ti = .box l1 ∧ t = .box l2) ∨ ∃ u, ti = .arr false u ∧ t = .arr false u) := by
        rcases hc with ⟨l1, l2, h1, h2⟩ | ⟨u, h1, h2⟩
        · exact ⟨_, h1, .inl ⟨l1, l2, rfl, h2⟩⟩
        · exact ⟨_, h1, .inr ⟨u, rfl, h2⟩⟩
      obtain ⟨ti, h1, h2⟩ := hfi
      -- the entry that this name finds first
      have key : ∀ (ins : List (Nat × ET)) (z : Tys (ksE ins)), findE q ins = some ti → ∃ ein, look q (encE ins z) = some ein ∧ ((∃ l1 l2, ti = .box l1 ∧ ein = .box l2) ∨ ∃ fr u xs, ti = .arr fr u ∧ ein = .arr fr u xs) := by
        intro ins
        induction ins with
        | nil => intro z h; cases h
        | cons p r ih =>
          intro z hfe
          obtain ⟨k, e⟩ := p
          unfold findE at hfe
          cases hb : Nat.beq q k with
          | true =>
            rw [hb] at hfe; cases hfe
            have := Nat.eq_of_beq_eq_true hb; subst this
            cases ti with
            | box m => exact ⟨_, by show look q ((q, _) :: _) = _; rw [look_cons, if_pos rfl], .inl ⟨m, _, rfl, rfl⟩⟩
            | arr fr u => exact ⟨.arr fr u z.1, by show look q ((q, _) :: _) = _; rw [look_cons, if_pos rfl], .inr ⟨fr, u, z.1, rfl, rfl⟩⟩
          | false =>
            rw [hb] at hfe
            have hne : q ≠ k := by rintro rfl; simp at hb
            cases e with
            | box m =>
              obtain ⟨ein, k1, k2⟩ := ih (Tys.snd (ksL m) (ksE r) z) hfe
              exact ⟨ein, by show look q ((k, _) :: _) = _; rw [look_cons, if_neg hne]; exact k1, k2⟩
            | arr fr u =>
              obtain ⟨ein, k1, k2⟩ := ih z.2 hfe
              exact ⟨ein, by show look q ((k, _) :: _) = _; rw [look_cons, if_neg hne]; exact k1, k2⟩
      obtain ⟨ein, k1, k2⟩ := key sg.ins _ h1
      have k1' : look q (sg.tin.enc xin).ents = some ein := k1
      obtain ⟨e, k3, k4⟩ := h.ents q ein k1'
      refine ⟨ti, ein, e, findE_mem h1, k1', k3, insMut q ti ein (findE_mem h1) k1', ?_⟩
      rcases h2 with ⟨l1, l2, rfl, rfl⟩ | ⟨u, rfl, rfl⟩
      · rcases k2 with ⟨l3, l4, _, rfl⟩ | ⟨fr, u, xs, h0, _⟩
        · rcases k4 with ⟨l5, l6, rfl, _, _⟩ | ⟨fr, u, xs, _, h0⟩
          · exact .inl ⟨_, _, _, rfl, rfl, rfl⟩
          · cases h0
        · cases h0
      · rcases k2 with ⟨l3, l4, h0, _⟩ | ⟨fr, u', xs, h0, rfl⟩
        · cases h0
        · cases h0
          rcases k4 with ⟨l5, l6, _, h0, _⟩ | ⟨fr, u', xs', rfl, h0⟩
          · cases h0
          · cases h0; exact .inr ⟨u, xs, rfl, rfl, rfl⟩
    · exact absurd h63 hne
  have pinVal : ∀ q t, (q, t) ∈ sg.outs → q % 64 = 63 → β2 q = β (f q) := by
    intro q t hq h63
    obtain ⟨ti, ein, e, _, k2, k3, _⟩ := inout q t hq h63
    rw [fPin q h63]
    have hs := ga.bs (srcOf L q) e k3
    cases hb : β (srcOf L q) with
    | none => rw [hb] at hs; cases hs
    | some u =>
      refine G.pin q u ?_ ?_
      · show (if q % 64 = 63 then β (srcOf L q) else none) = some u
        rw [if_pos h63, hb]
      · obtain ⟨p, hp⟩ : ∃ e', (q, e') ∈ O := by
          have : q ∈ names O := by rw [hnO]; exact mem_namesT hq
          obtain ⟨p, hp, hq'⟩ := List.mem_map.1 this
          exact ⟨p.2, by rw [← hq']; exact hp⟩
        rw [show look q (sg.tout.enc y).ents = some p from mem_look hndO hp]; rfl
  let β3 : Nat → Option Value := fun m => if m ∈ freshOf f sg.outs then β2 (m - nm d) else β m
  have β3at : ∀ q t, (q, t) ∈ sg.outs → β3 (f q) = β2 q := by
    intro q t hq
    by_cases h63 : q % 64 = 63
    · have hnf : f q ∉ freshOf f sg.outs := by
        intro hm
        obtain ⟨q', t', h1, h2, h3⟩ := mem_freshOf hm
        have := finj q q' (mem_namesT hq) (mem_namesT h1) h3
        subst this; exact h2 h63
      show (if f q ∈ freshOf f sg.outs then _ else _) = _
      rw [if_neg hnf, pinVal q t hq h63]
    · have hm : f q ∈ freshOf f sg.outs := freshOf_mem h63 hq
      show (if f q ∈ freshOf f sg.outs then _ else _) = _
      rw [if_pos hm, fFresh q h63, Nat.add_sub_cancel_left]
  have freshIn : ∀ m, m ∈ freshOf f sg.outs → m ∈ names l ∧ m ∈ K := by
    intro m hm
    obtain ⟨q, t, h1, h2, rfl⟩ := mem_freshOf hm
    exact ⟨by rw [hnl]; exact List.mem_map.2 ⟨q, mem_namesT h1, rfl⟩, List.mem_append_right _ hm⟩
  have hβ : ∀ m, m ∉ names l ∨ m ∉ K → β3 m = β m := by
    intro m hm
    refine if_neg fun hmm => ?_
    obtain ⟨h1, h2⟩ := freshIn m hmm
    rcases hm with hm | hm
    · exact hm h1
    · exact hm h2
  have pinNotK : ∀ q t, (q, t) ∈ sg.outs → q % 64 = 63 → f q ∉ K := by
    intro q t hq h63 hK
    rcases List.mem_append.1 hK with hK | hK
    · obtain ⟨p, tp, h1, h2, h3⟩ := mem_goneOf hK
      rw [fPin q h63] at h2
      obtain ⟨ti, ein, e, q1, q2, q3, q4, _⟩ := inout q t hq h63
      obtain ⟨ep, hep⟩ := inLook p tp h1
      have := h.inj q p ein ep q2 hep q4 (insMut p tp ep h1 hep) h2
      subst this
      exact h3 ⟨h63, mem_namesT hq⟩
    · obtain ⟨q', t', h1, h2, h3⟩ := mem_freshOf hK
      have := finj q q' (mem_namesT hq) (mem_namesT h1) h3
      subst this; exact h2 h63
  have keepOf : ∀ b, b < w.heap.size → ¬ Top (fun n => look n (sg.tin.enc xin).ents) (fun n => β (srcOf L n)) b → w'.heap[b]? = w.heap[b]? := fun b h1 h2 => hk.block b ⟨h1, h2⟩
  have outT : ∀ n e, (n, e) ∈ l → ∃ q e0 t, (q, e0) ∈ O ∧ (q, t) ∈ sg.outs ∧ n = f q ∧ e = e0.ren f := by
    intro n e hm
    obtain ⟨q, e0, h1, h2, h3⟩ := mem_renE hm
    have hq : q ∈ namesT sg.outs := by rw [← hnO]; exact List.mem_map.2 ⟨_, h1, rfl⟩
    obtain ⟨t, ht⟩ := namesT_mem hq
    exact ⟨q, e0, t, h1, ht, h2, h3⟩
  have renMut : ∀ e0 : Ent, (e0.ren f).mut = e0.mut := fun e0 => by cases e0 <;> rfl
  have lookO : ∀ q e0, (q, e0) ∈ O → look q (sg.tout.enc y).ents = some e0 := fun q e0 hq => mem_look hndO hq
  -- what data says goes over
  let S : St := ⟨(St.freeN K s).env, putL l (St.freeN K s).ents⟩
  let x1 := cx (callC sg.shares C ⟨avs, s.ents⟩ (sg.tin.enc xin) (srcOf L) β w) (sg.tout.enc y) β2 w'
  let x2 := cx C S β3 w'
  have notK : ∀ b, C.keep b → b < w.heap.size ∧ ¬ Top (fun n => look n (sg.tin.enc xin).ents) (fun n => β (srcOf L n)) b := fun b hb => ⟨g.kb b hb, fun ht => (g.fresh b (topSub b ht)).1 hb⟩
  have topS : ∀ b, Top (fun n => look n S.ents) β3 b → Top x1.lk x1.β b ∨ (b < w.heap.size ∧ ¬ Top (fun n => look n (sg.tin.enc xin).ents) (fun n => β (srcOf L n)) b ∧ Top (fun n => look n s.ents) β b) := by
    rintro b ⟨n, e, v, h1, h2, h3, h4⟩
    rcases look_putL_inv l _ n e hndl h1 with hm | ⟨hm1, hm2⟩
    · obtain ⟨q, e0, t, k1, k2, rfl, rfl⟩ := outT n e hm
      left
      exact ⟨q, e0, v, lookO q e0 k1, by rwa [renMut] at h2, by show β2 q = some v; rw [← β3at q t k2]; exact h3, h4⟩
    · right
      obtain ⟨f1, f2, _⟩ := freeN_spec K s
      obtain ⟨q1, e0, q2, q3, _⟩ := f2 n e hm2
      rw [hβ n (.inl hm1)] at h3
      have hT : Top (fun n => look n s.ents) β b := ⟨n, e0, v, q2, by rw [← q3]; exact h2, h3, h4⟩
      refine ⟨(g.fresh b hT).2, fun hp => ?_, hT⟩
      rcases portBlock b hp n e0 v q2 (by rw [← q3]; exact h2) h3 h4 with hh | hh
      · exact q1 hh
      · exact hm1 hh
  have avConv : ∀ b, (¬ (callC sg.shares C ⟨avs, s.ents⟩ (sg.tin.enc xin) (srcOf L) β w).keep b ∨ callQ true C ⟨avs, s.ents⟩ β w b) → ¬ C.keep b ∨ C.old b := by
    intro b hb
    rcases hb with hb | hb
    · exact .inl fun hk' => hb (notK b hk')
    · exact hb.2.2
  have rdConv : ∀ u c, (sg.shares = false → bare c) → x1.rd u c → x2.rd u c := by
    intro u c hc hr
    cases hs : sg.shares with
    | false => exact rd_bare hr (bare_ne (hc hs))
    | true =>
      obtain ⟨fp, h1, h2⟩ := hr
      refine ⟨fp, h1, fun b hb => ?_⟩
      obtain ⟨q1, q2, q3⟩ := h2 b hb
      have q3' : ¬ (callC sg.shares C ⟨avs, s.ents⟩ (sg.tin.enc xin) (srcOf L) β w).keep b ∨ callQ true C ⟨avs, s.ents⟩ β w b := by
        rcases q3 with q3 | q3
        · exact .inl q3
        · right
          have : callQ sg.shares C ⟨avs, s.ents⟩ β w b := q3
          rw [hs] at this; exact this
      refine ⟨q1, fun ht => ?_, avConv b q3'⟩
      rcases topS b ht with hh | ⟨k1, k2, k3⟩
      · exact q2 hh
      · rcases q3' with q3' | q3'
        · exact q3' ⟨k1, k2⟩
        · exact q3'.2.1 k3
  have cellConv : ∀ (m : List C1T), refsL (namesT sg.outs) m = true → (sg.shares = false → ∀ c ∈ m, c.shares = false) → ∀ zz : Tys (ksL m), ∀ a ∈ encL m zz, CellGo x1 x2 f a := by
    intro m hm hsh zz a ha v hv
    obtain ⟨r1, r2, r3⟩ := refsL_ok hm
    have back : ∀ n, n ∈ namesT sg.outs → β3 (f n) = β2 n ∧ ∃ e0, (n, e0) ∈ O := by
      intro n hn
      obtain ⟨t, ht⟩ := namesT_mem hn
      refine ⟨β3at n t ht, ?_⟩
      have : n ∈ names O := by rw [hnO]; exact hn
      obtain ⟨p, hp, rfl⟩ := List.mem_map.1 this
      exact ⟨p.2, hp⟩
    rcases encL_spec ha with rfl | ⟨c, yy, hc, rfl⟩ | ⟨n, hn, rfl⟩ | ⟨n, o, hn, rfl⟩ | ⟨n, lo, k, hn, rfl⟩
    · trivial
    · refine rdConv v (c.cell yy) (fun hs => ?_) hv
      have := hsh hs _ hc
      cases c <;> first | trivial | (simp [C1T.shares] at this)
    · obtain ⟨b1, e0, b2⟩ := back n (r1 n hn)
      intro _
      show β3 (f n) = some v
      rw [b1]
      exact hv (by show (look n (sg.tout.enc y).ents).isSome = true; rw [lookO n e0 b2]; rfl)
    · obtain ⟨b1, e0, b2⟩ := back n (r2 n o hn)
      intro _
      obtain ⟨b, k1, k2⟩ := hv (by show (look n (sg.tout.enc y).ents).isSome = true; rw [lookO n e0 b2]; rfl)
      exact ⟨b, by show β3 (f n) = _; rw [b1]; exact k1, k2⟩
    · obtain ⟨b1, e0, b2⟩ := back n (r3 n hn)
      intro fr t xs hl'
      have hl2 : look (f n) (putL l (St.freeN K s).ents) = some (e0.ren f) := look_putL_mem l _ (f n) (e0.ren f) hndl (renE_mem b2)
      have hl3 : some (e0.ren f) = some (.arr fr t xs) := by rw [← hl2]; exact hl'
      have he0 : e0 = .arr fr t xs := by
        cases e0 with
        | box m => cases hl3
        | arr fr' t' xs' => simpa [Ent.ren] using hl3
      obtain ⟨k1, ad, mm, cap, k2, k3⟩ := hv fr t xs (by show look n (sg.tout.enc y).ents = _; rw [lookO n e0 b2, he0])
      exact ⟨k1, ad, mm, cap, by show β3 (f n) = _; rw [b1]; exact k2, k3⟩
  have entConv : ∀ n e v, (n, e) ∈ l → β3 n = some v → EntOk x2 e v := by
    intro n e v hm hv
    obtain ⟨q, e0, t, k1, k2, rfl, rfl⟩ := outT n e hm
    rw [β3at q t k2] at hv
    have he := G.ents q e0 v (lookO q e0 k1) hv
    rcases encE_spec (l := sg.outs) k1 with ⟨m, z, h1, rfl⟩ | ⟨fr, tt, xs, h1, rfl⟩
    · obtain ⟨b, us, T, q1, q2, q3⟩ := he
      refine ⟨b, us, T, q1, q2, L1Ok.go (fun a ha => cellConv m (refsE_ok hrefE q m h1) (fun hs => (sharesE_ok (by
        have : (sharesP sg.res || sharesE sg.outs) = false := hs
        rw [Bool.or_eq_false_iff] at this; exact this.2) q _ h1).1 m rfl) z a ha) q3⟩
    · have hdeep : sg.shares = false → fr = false ∧ tt.deep = false := fun hs => (sharesE_ok (by
        have : (sharesP sg.res || sharesE sg.outs) = false := hs
        rw [Bool.or_eq_false_iff] at this; exact this.2) q _ h1).2 fr tt rfl
      have hfr : fr = false := by
        rcases pinIn_ok hpinIn h1 with ⟨_, ⟨l1, l2, _, h0⟩ | ⟨u, _, h0⟩⟩ | ⟨_, _, h0⟩
        · cases h0
        · cases h0; rfl
        · cases fr with
          | false => rfl
          | true => exact absurd rfl (h0 tt)
      subst hfr
      rcases he with h0 | ⟨gb, cap, cur, T, k1, k2, k3, k4, k5, k6, k7⟩
      · exact .inl h0
      · refine .inr ⟨gb, cap, cur, T, k1, k2, k3, k4, k5, k6, fun i c hc => ?_⟩
        obtain ⟨u, hu, hr⟩ := k7 i c hc
        refine ⟨u, hu, rdConv u c (fun hs => ?_) hr⟩
        have := flat_bare (hdeep hs).2 hc
        cases c <;> first | trivial | exact (this _ _ rfl).elim
  have hGam : Gam C S X β3 tm w' := by
    refine Gam.call g (K := K) (l := l) hndl (fun n e' hm => ?_) hβ (fun b h1 h2 => keepOf b h1 fun hp => h2 (topSub b hp)) (fun m e v k1 k2 k3 k4 k5 b hb => keepOf b (g.fresh b ⟨m, e, v, k1, k2, k3, hb⟩).2 fun hp => ?_) hk.size
      (hk.mono notK) (fun n e v b hm hv hmu hb => ?_) (fun n m e e' v u b hm hm' hmu hmu' hv hu hb hb' => ?_) (fun n hn hK => ?_) (fun n hn => ?_) (fun _ n e v hm hv => entConv n e v hm hv)
    · obtain ⟨q, e0, t, k1, k2, rfl, rfl⟩ := outT n e' hm
      by_cases h63 : q % 64 = 63
      · right
        obtain ⟨ti, ein, e, _, p2, p3, _, p5⟩ := inout q t k2 h63
        rw [fPin q h63]
        refine ⟨e, p3, ?_⟩
        have hst : ∀ t2, (q, t2) ∈ sg.outs → t2 = t := by
          have key : ∀ (l : List (Nat × ET)), (namesT l).Nodup → (q, t) ∈ l → ∀ t2, (q, t2) ∈ l → t2 = t := by
            intro l
            induction l with
            | nil => intro _ h; cases h
            | cons p r ih =>
              intro hn h1 t2 h2
              obtain ⟨pn, pe⟩ := p
              have hn' := List.nodup_cons.1 hn
              rcases List.mem_cons.1 h1 with j1 | j1 <;> rcases List.mem_cons.1 h2 with j2 | j2
              · cases j1; cases j2; rfl
              · cases j1; exact absurd (mem_namesT j2) hn'.1
              · cases j2; exact absurd (mem_namesT j1) hn'.1
              · exact ih hn'.2 j1 t2 j2
          exact key sg.outs (nodupN_ok nd) k2
        rcases encE_spec (l := sg.outs) k1 with ⟨m, z, h1, rfl⟩ | ⟨fr, tt, xs, h1, rfl⟩
        · have := hst _ h1; subst this
          rcases p5 with ⟨l1, l2, l3, _, _, rfl⟩ | ⟨u, xs, h0, _⟩
          · exact .inl ⟨l3, _, rfl, rfl⟩
          · cases h0
        · have := hst _ h1; subst this
          rcases p5 with ⟨l1, l2, l3, h0, _⟩ | ⟨u, ys, h0, _, rfl⟩
          · cases h0
          · cases h0
            refine .inr ⟨tt, ys, xs, rfl, rfl, ?_⟩
            -- both are read off one value
            have hs := ga.bs (srcOf L q) _ p3
            cases hb : β (srcOf L q) with
            | none => rw [hb] at hs; cases hs
            | some v =>
              have e1 := ga.ents (srcOf L q) _ v p3 hb
              have e2 := G.ents q _ v (lookO q _ k1) (by rw [pinVal q _ k2 h63, fPin q h63, hb])
              obtain ⟨ad, cap, q1, _⟩ := arr_len e1
              obtain ⟨ad', cap', q2, _⟩ := arr_len e2
              rw [q1] at q2
              simp only [Value.slice.injEq] at q2
              omega
      · left; exact List.mem_append_right _ (freshOf_mem h63 k2)
    · rcases portBlock b hp m e v k1 k2 k3 hb with hh | hh
      · exact k4 hh
      · exact k5 hh
    · obtain ⟨q, e0, t, k1, k2, rfl, rfl⟩ := outT n e hm
      rw [β3at q t k2] at hv
      have hT : Top x1.lk x1.β b := ⟨q, e0, v, lookO q e0 k1, by rwa [renMut] at hmu, hv, hb⟩
      obtain ⟨q1, q2⟩ := G.fresh b hT
      refine ⟨q2, ?_⟩
      by_cases hlt : b < w.heap.size
      · right
        have hp : Top (fun n => look n (sg.tin.enc xin).ents) (fun n => β (srcOf L n)) b := Classical.byContradiction fun hp => q1 ⟨hlt, hp⟩
        exact ⟨topSub b hp, fun m e1 u k1 k2 k3 k4 => portBlock b hp m e1 u k1 k2 k3 k4⟩
      · exact .inl (by omega)
    · obtain ⟨q, e0, t, k1, k2, rfl, rfl⟩ := outT n e hm
      obtain ⟨q', e0', t', k1', k2', rfl, rfl⟩ := outT m e' hm'
      rw [β3at q t k2] at hv; rw [β3at q' t' k2'] at hu
      rw [G.uniq q q' e0 e0' v u b (lookO q e0 k1) (lookO q' e0' k1') (by rwa [renMut] at hmu) (by rwa [renMut] at hmu') hv hu hb hb']
    · rw [hnl] at hn
      obtain ⟨q, hq, rfl⟩ := List.mem_map.1 hn
      obtain ⟨t, ht⟩ := namesT_mem hq
      by_cases h63 : q % 64 = 63
      · exact absurd hK (pinNotK q t ht h63)
      · rw [fFresh q h63]
        rcases pinIn_ok hpinIn ht with ⟨h0, _⟩ | ⟨_, hlt, _⟩
        · exact absurd h0 h63
        · unfold nm; omega
    · rw [hnl] at hn
      obtain ⟨q, hq, rfl⟩ := List.mem_map.1 hn
      obtain ⟨t, ht⟩ := namesT_mem hq
      rw [β3at q t ht]
      have : q ∈ names O := by rw [hnO]; exact hq
      obtain ⟨p, hp, rfl⟩ := List.mem_map.1 this
      exact G.bs p.1 p.2 (lookO p.1 p.2 hp)
  refine ⟨β3, hGam, ?_⟩
  refine pack_ok (ps := renV f (sg.tout.enc y).env) ?_ fun ht => ?_
  · have hlen : (encS (sg.res.map some) (Tys.fst (ksS (sg.res.map some)) (ksE sg.outs) y)).length = vs.toList.length := by
      have := G.len
      rw [Array.length_toList]; exact this
    refine res_go (x := x1) (y := x2) sg.res _ vs.toList (fun p hp zz a ha => cellConv p.2 (refsP_ok hrefP p hp) (fun hs => sharesP_ok (by
        have : (sharesP sg.res || sharesE sg.outs) = false := hs
        rw [Bool.or_eq_false_iff] at this; exact this.1) p hp) zz a ha) hlen (fun j av v h1 h2 => ?_)
    have hv := G.env j av (fun h => h) h1
    have : vs.getD j undef = v := by
      have h2' : vs[j]? = some v := by rw [← Array.getElem?_toList]; exact h2
      simp [Array.getD_eq_getD_getElem?, h2']
    rw [this] at hv; exact hv
  · exact (length_renV sg.res _).trans (htup ht)
end
end Go.Di
/-
  Own work. A part of an element of an own array is stored.
-/
open Go.RowKit (Below)
namespace Go.Di

section
variable {P : Program} {C : Bs} {w w' : World} {s s' : St} {X : Nat → Prop} {β β' : Nat → Option Value} {a : Act} {o : Oper} {tm : Array Value}
  {t : TypeId} {x y : Operand} {i : TI} {K : Act → World → Prop} {Q : Exit → Act → World → Prop}

theorem store_pe (hL : TIOk P t i) (ho : o.op = .store t x y) (g : Gam C s X β a.tmps w) {n j off : Nat} {u : ST} {xs : List u.El} {e e' : u.El} (hl : look n s.ents = some (.arr false u xs))
    (hx : AVOk (cx C s β w) (.v false [.oe n j off]) (a.eval x)) (hlen : (a.eval y).cells.size = i.zero.length) (hfit' : off + (a.eval y).cells.size ≤ u.size) (he : xs[j]? = some e)
    (hold : ∀ (k : Nat) (c : Cell), (u.cells e')[k]? = some c → (k < off ∨ off + (a.eval y).cells.size ≤ k) → (u.cells e)[k]? = some c)
    (hel : ∀ (k : Nat) (c : Cell), k < (a.eval y).cells.size → (u.cells e')[off + k]? = some c → ∃ v, (a.eval y).cells[k]? = some v ∧ (cx C s β w).rd v c) (h1 : ∀ v ∈ (a.eval y).cells.toList, v.oneCell' = true)
    (hK : Goes C X o a .bot ⟨s.env, put n (.arr false u (xs.set j e')) s.ents⟩ K) : o.wp P a w K Q := by
  obtain ⟨a1, q1, q2, _⟩ := hx; cases q1
  obtain ⟨hj, gb, q, m, cap, hβ, hv⟩ := q2 false u xs hl
  have hent := g.ents n _ _ hl hβ
  rcases hent with ⟨h0, _⟩ | ⟨g', cap', cur, T, k1, k2, k3, k4, k5, k6, k7⟩
  · subst h0; simp at hj
  cases k1
  have hpos := size_pos u
  have hle : (j + 1) * u.size ≤ cap * u.size := Nat.mul_le_mul_right _ (by omega)
  rw [Nat.add_mul, Nat.one_mul] at hle
  have hfit : j * u.size + off + (a.eval y).cells.size ≤ cur.size := by rw [k6]; omega
  have hv : a.eval x = .pointer (some ⟨gb, j * u.size + off, none⟩) := by rw [hv]; simp
  refine wp_run_skip (run_store hL ho hv k5 hlen hfit h1) (hK undef _ β ?_ av_bot)
  have htop : gb ∈ topOf (.slice (some ⟨gb, 0, none⟩) xs.length cap) := by cases cap with | zero => omega | succ k => simp [topOf]
  have hbt : ¬ C.keep gb := (g.fresh gb ⟨n, _, _, hl, rfl, hβ, htop⟩).1
  refine g.write hl (.inr ⟨u, xs, xs.set j e', rfl, rfl, by simp⟩) hβ (fun k hk => setRow_other w gb k _ fun e' => hk (by rw [e']; exact htop)) (by simp [World.setRow]) (below_setRow hbt _) fun hle => ?_
  refine .inr ⟨gb, cap, _, T, by simp, k2, by simpa using k3, k4, setRow_heap w gb cur _ T (0, 0) k5, ?_, fun idx c hc => ?_⟩
  · simp only [List.size_toArray, List.length_append, List.length_take, List.length_drop, Array.length_toList]; omega
  · rw [flat_set u e' xs j hj, get_three] at hc
    have hfl := length_flat u xs
    have hjl : (j + 1) * u.size ≤ xs.length * u.size := Nat.mul_le_mul_right _ (by omega)
    rw [Nat.add_mul, Nat.one_mul] at hjl
    have hlt : ((flat u xs).take (j * u.size)).length = j * u.size := by rw [List.length_take]; omega
    rw [hlt, length_cells] at hc
    simp only [List.getElem?_toArray]
    rw [get_three]
    have hlt' : (cur.toList.take (j * u.size + off)).length = j * u.size + off := by rw [List.length_take, Array.length_toList]; omega
    rw [hlt', Array.length_toList]
    -- a cell that stays
    have stay : ∀ c, (flat u xs)[idx]? = some c → (idx < j * u.size + off ∨ j * u.size + off + (a.eval y).cells.size ≤ idx) → ∃ v, (if idx < j * u.size + off then (cur.toList.take (j * u.size + off))[idx]? else if idx < j * u.size + off + (a.eval y).cells.size then (a.eval y).cells.toList[idx - (j * u.size + off)]? else (cur.toList.drop (j * u.size + off + (a.eval y).cells.size))[idx - (j * u.size + off) - (a.eval y).cells.size]?) = some v ∧ (cx C ⟨s.env, put n (.arr false u (xs.set j e')) s.ents⟩ β (w.setRow gb (cur.toList.take (j * u.size + off) ++ (a.eval y).cells.toList ++ cur.toList.drop (j * u.size + off + (a.eval y).cells.size)).toArray)).rd v c := by
      intro c hc hout
      obtain ⟨v, hv, hr⟩ := k7 idx c hc
      refine ⟨v, ?_, hle.rd hr⟩
      split
      · rename_i h; rw [List.getElem?_take_of_lt h]; simpa using hv
      · rename_i h
        rw [if_neg (by omega), List.getElem?_drop, show j * u.size + off + (a.eval y).cells.size + (idx - (j * u.size + off) - (a.eval y).cells.size) = idx from by omega]
        simpa using hv
    by_cases h : idx < j * u.size
    · rw [if_pos h, List.getElem?_take_of_lt h] at hc
      exact stay c hc (by omega)
    · rw [if_neg h] at hc
      by_cases h' : idx < j * u.size + u.size
      · rw [if_pos h'] at hc
        have hin : ∀ c, (u.cells e)[idx - j * u.size]? = some c → (flat u xs)[idx]? = some c := fun c hh => by
          have := flat_get u xs j e (idx - j * u.size) he (by omega)
          rw [show j * u.size + (idx - j * u.size) = idx from by omega] at this
          rw [this]; exact hh
        by_cases hk : idx - j * u.size < off ∨ off + (a.eval y).cells.size ≤ idx - j * u.size
        · exact stay c (hin c (hold _ c hc hk)) (by omega)
        · obtain ⟨v, hv, hr⟩ := hel (idx - j * u.size - off) c (by omega) (by rw [show off + (idx - j * u.size - off) = idx - j * u.size from by omega]; exact hc)
          refine ⟨v, ?_, hle.rd hr⟩
          rw [if_neg (by omega), if_pos (by omega), show idx - (j * u.size + off) = idx - j * u.size - off from by omega]
          simpa using hv
      · rw [if_neg h', List.getElem?_drop] at hc
        rw [show j * u.size + u.size + (idx - j * u.size - u.size) = idx from by omega] at hc
        exact stay c hc (by omega)
end
end Go.Di
/-
  Own work. One operation: what the evaluator says of it holds in the machine.
-/
open Go.RowKit (Below)
namespace Go.Di

def Susp.Yields {α : Type} : Susp α → α → Prop
  | .fail, _ => False
  | .ret a, b => a = b
  | .ask x f, b => ∃ r, x = some r ∧ f r = b

theorem bindK_some {α β : Type} {s : Susp α} {k : α → Option β} {r : β} (h : s.bindK k = some r) : ∃ a, s.Yields a ∧ k a = some r := by
  cases s with
  | fail => cases h
  | ret a => exact ⟨a, rfl, h⟩
  | ask x f =>
    cases x with
    | none => simp [Susp.bindK] at h
    | some y => simp [Susp.bindK] at h; exact ⟨f y, ⟨y, rfl, rfl⟩, h⟩

def ConsOk (P : Program) (cons : List (FuncId × Con)) : Prop := ∀ f c, findCon f cons = some c → Meets P f c ∧ Callable P f

section
variable {P : Program} {C : Bs} {w w' : World} {s s' : St} {X : Nat → Prop} {β β' : Nat → Option Value} {a : Act} {o : Oper} {tm : Array Value}
  {t : TypeId} {x y : Operand} {i : TI} {K : Act → World → Prop} {Q : Exit → Act → World → Prop} {lay : List (TypeId × TI)} {cons : List (FuncId × Con)} {av : AV}

theorem addrOf_eq {v : AV} {b : A1} (h : addrOf v = some b) : v = .v false [b] := by
  unfold addrOf at h; split at h
  · cases h; rfl
  · cases h

theorem sound_load (hL : LayOk P lay) (ho : o.op = .load t x) (g : Gam C s X β a.tmps w) (hx : AVOk (cx C s β w) (opnd s x) (a.eval x)) (hy : (evalOp lay cons o s).Yields (av, s')) (hK : Goes C X o a av s' K) : o.wp P a w K Q := by
  simp only [evalOp, ho] at hy
  split at hy
  · rename_i i b hi hb
    have hT := hL t i hi
    rw [addrOf_eq hb] at hx
    unfold loadOp at hy
    split at hy
    · split at hy
      · rename_i l hl
        split at hy
        · rename_i c hw
          cases hy; exact load_lp hT ho g hl hx hw hK
        · exact hy.elim
      · exact hy.elim
    · split at hy
      · rename_i c hw
        cases hy; exact load_sp hT ho g hx hw hK
      · exact hy.elim
    · split at hy
      · rename_i fr u xs hl
        split at hy
        · rename_i hle
          obtain ⟨e, he, hr⟩ := hy
          cases hr
          exact load_oe hT ho g hl hx (Nat.le_of_ble_eq_true hle) he hK
        · exact hy.elim
      · exact hy.elim
    · exact hy.elim
  · exact hy.elim

theorem cells_one {av : AV} {l : List A1} {v : Value} {xc : Cx} (h : AVOk xc av v) (hc : av.cells = some l) : ∀ u ∈ v.cells.toList, u.oneCell' = true := (av_cells' h hc).1.one

theorem look_frz {n : Nat} : ∀ (l : List A1) (es : List (Nat × Ent)) {e : Ent}, look n (freezeL l es) = some e → look n es = some e ∨ ∃ fr t xs, look n es = some (.arr fr t xs) ∧ e = .arr true t xs
  | [], es, e, h => .inl h
  | a :: r, es, e, h => by
    have one : ∀ e, look n (a.freeze es) = some e → look n es = some e ∨ ∃ fr t xs, look n es = some (.arr fr t xs) ∧ e = .arr true t xs := by
      intro e h
      have f1 : ∀ m, look n (freeze1 m es) = some e → look n es = some e ∨ ∃ fr t xs, look n es = some (.arr fr t xs) ∧ e = .arr true t xs := by
        intro m h
        rw [look_freeze1] at h
        split at h
        · cases hl : look n es with
          | none => simp [hl] at h
          | some f =>
            simp [hl] at h; subst h
            cases f with
            | box l => exact .inl (by simp [frz])
            | arr fr t xs => exact .inr ⟨fr, t, xs, rfl, rfl⟩
        · exact .inl h
      cases a <;> simp only [A1.freeze] at h <;> first | exact .inl h | exact f1 _ h
    rcases look_frz r (a.freeze es) h with h1 | ⟨fr, t, xs, h1, rfl⟩
    · exact one e h1
    · rcases one _ h1 with h2 | ⟨fr2, t2, xs2, h2, h3⟩
      · exact .inr ⟨fr, t, xs, h2, rfl⟩
      · cases h3; exact .inr ⟨fr2, t, xs, h2, rfl⟩

theorem frz_keeps {n : Nat} {t : ST} {xs : List t.El} : ∀ (l : List A1) (es : List (Nat × Ent)), look n es = some (.arr true t xs) → look n (freezeL l es) = some (.arr true t xs)
  | [], es, h => h
  | a :: r, es, h => by
    refine frz_keeps r (a.freeze es) ?_
    have f1 : ∀ m, look n (freeze1 m es) = some (.arr true t xs) := fun m => by rw [look_freeze1, h]; split <;> rfl
    cases a <;> simp only [A1.freeze] <;> first | exact h | exact f1 _

/-- Behind a freezing, the arrays that were named stay as they are. -/
theorem frz_mem {n : Nat} {fr : Bool} {t : ST} {xs : List t.El} : ∀ (l : List A1) (es : List (Nat × Ent)) {b : A1}, b ∈ l → b.isArr n → look n (freezeL l es) = some (.arr fr t xs) → fr = true
  | a :: r, es, b, hb, hn, h => by
    rcases List.mem_cons.1 hb with rfl | hb
    · have h1 : ∃ fr' t' xs', look n (b.freeze es) = some (.arr fr' t' xs') := by
        rcases look_frz r (b.freeze es) h with h1 | ⟨fr2, t2, xs2, h1, _⟩
        · exact ⟨_, _, _, h1⟩
        · exact ⟨_, _, _, h1⟩
      obtain ⟨fr', t', xs', h1⟩ := h1
      have h2 : fr' = true := by
        have f1 : ∀ m, m = n → look n (freeze1 m es) = some (.arr fr' t' xs') → fr' = true := by
          intro m hm h
          rw [look_freeze1, if_pos hm.symm] at h
          cases hl : look n es with
          | none => simp [hl] at h
          | some f => cases f <;> simp [hl, frz] at h; first | exact h.1.symm | exact h.1 | simp_all
        cases b <;> simp only [A1.isArr] at hn <;> first | exact hn.elim | exact f1 _ hn h1
      subst h2
      have h : look n (freezeL r (b.freeze es)) = some (.arr fr t xs) := h
      rw [frz_keeps r _ h1] at h
      cases h; rfl
    · exact frz_mem r (a.freeze es) hb hn h

theorem as_frz {b : A1} {es es' : List (Nat × Ent)} (he : ∀ n fr t xs, look n es = some (.arr fr t xs) → ∃ fr', look n es' = some (.arr fr' t xs)) {c : CK} {y : c.ty} (h : b.as es c = some y) : b.as es' c = some y := by
  cases b with
  | bot => cases c <;> cases h
  | lp _ _ => cases c <;> cases h
  | sp _ _ => cases c <;> cases h
  | oe _ _ _ => cases c <;> cases h
  | d d => cases c <;> exact h
  | mt => cases c <;> exact h
  | own n =>
    cases c with
    | sl t =>
      obtain ⟨fr, hl⟩ := as_own (ys := y) h
      obtain ⟨fr', hl'⟩ := he n fr t y hl
      show (match look n es' with | some (.arr _ u xs) => ST.cast u t xs | _ => none) = some y
      rw [hl']
      cases t <;> rfl
    | int k => cases h
    | bool => cases h
    | str => cases h
    | nat => cases h
  | win n lo len =>
    cases c with
    | sl t =>
      obtain ⟨fr, xs, hl, rfl⟩ := as_win (ys := y) h
      obtain ⟨fr', hl'⟩ := he n fr t xs hl
      show (match look n es' with | some (.arr _ u xs) => ST.cast u t (cut xs lo (lo + len)) | _ => none) = some (cut xs lo (lo + len))
      rw [hl']
      cases t <;> rfl
    | int k => cases h
    | bool => cases h
    | str => cases h
    | nat => cases h

theorem frz_look (l : List A1) (es : List (Nat × Ent)) : ∀ n fr t xs, look n es = some (.arr fr t xs) → ∃ fr', look n (freezeL l es) = some (.arr fr' t xs) := by
  induction l generalizing es with
  | nil => exact fun n fr t xs h => ⟨fr, h⟩
  | cons a r ih =>
    intro n fr t xs h
    have one : ∃ fr', look n (a.freeze es) = some (.arr fr' t xs) := by
      have f1 : ∀ m, ∃ fr', look n (freeze1 m es) = some (.arr fr' t xs) := fun m => by
        rw [look_freeze1, h]; split
        · exact ⟨true, rfl⟩
        · exact ⟨fr, rfl⟩
      cases a <;> simp only [A1.freeze] <;> first | exact ⟨fr, h⟩ | exact f1 _
    obtain ⟨fr', h1⟩ := one
    exact ih _ n fr' t xs h1

theorem le_freeze1 (n : Nat) : Le (cx C s β w) (cx C ⟨s.env, Go.Di.freeze1 n s.ents⟩ β w) fun _ => True := by
  refine ⟨fun _ h => h, fun _ _ _ => rfl, Nat.le_refl _, fun b _ _ h => ?_, fun m _ => ?_⟩
  · obtain ⟨m, e, v, h1, h2, h3, h4⟩ := h
    simp only [cx, look_freeze1] at h1
    split at h1
    · cases hl : look m s.ents with
      | none => simp [hl] at h1
      | some f => simp [hl] at h1; subst h1; exact ⟨m, f, v, hl, by cases f <;> simp_all [frz, Ent.mut], h3, h4⟩
    · exact ⟨m, e, v, h1, h2, h3, h4⟩
  · simp only [cx, look_freeze1]
    split
    · cases hl : look m s.ents with
      | none => left; simp
      | some f =>
        right; refine ⟨trivial, ?_⟩
        cases f with
        | box l => left; simp [frz]
        | arr fr t xs => right; right; exact ⟨fr, true, t, xs, xs, by simp, by simp [frz], rfl⟩
    · exact .inr ⟨trivial, .inl rfl⟩
theorem freezeL_a1 {b : A1} {v : Value} : ∀ (l : List A1) (s : St), A1Ok (cx C s β w) b v → A1Ok (cx C ⟨s.env, freezeL l s.ents⟩ β w) b v
  | [], s, h => h
  | a :: r, s, h => by
    have h1 : A1Ok (cx C ⟨s.env, a.freeze s.ents⟩ β w) b v := by
      cases a <;> simp only [A1.freeze] <;> first | exact h | exact (le_freeze1 _).a1 (by cases b <;> trivial) h
    exact freezeL_a1 r ⟨s.env, a.freeze s.ents⟩ h1

theorem cells_mk (t : ST) (x : Tys t.kinds) : t.cells (t.mk x) = Tys.cells t.kinds x := by cases t <;> rfl

/-- One-cell values that are stored away: behind the freezing they read as data that stay as they are. -/
theorem as_stored (g : Gam C s X β tm w) {l : List A1} : ∀ {ks : List CK} {m : List A1} {x : Tys ks} {vs : List Value}, (∀ b ∈ m, b ∈ l) → L1Ok (cx C s β w) m vs → asTys s.ents ks m = some x →
    ∀ (k : Nat) (c : Cell), (Tys.cells ks x)[k]? = some c → ∃ v, vs[k]? = some v ∧ (cx C ⟨s.env, freezeL l s.ents⟩ β w).rd v c
  | [], [], _, _, _, _, _, k, c, h => by simp [Tys.cells] at h
  | ck :: ks, b :: m, x, v :: vs, hm, ⟨h1, h2, h3⟩, h, k, c, hk => by
    obtain ⟨q1, q2⟩ := asTys_cons h
    cases k with
    | zero =>
      simp only [Tys.cells, List.getElem?_cons_zero, Option.some.injEq] at hk; subst hk
      refine ⟨v, rfl, ?_⟩
      have gf := g.freezeL l
      have h1' := freezeL_a1 l s h1
      have q1' : b.as (freezeL l s.ents) ck = some x.1 := as_frz (frz_look l s.ents) q1
      have harg := as_arg gf h1' q1' (old := fun k => k < w.heap.size ∧ ¬ Top (cx C ⟨s.env, freezeL l s.ents⟩ β w).lk β k ∧ (cx C ⟨s.env, freezeL l s.ents⟩ β w).av k) (fun b hb ht hav => ⟨hb, ht, hav⟩)
        (fun n fr t xs u hb hl hu hf => by
          have := frz_mem l s.ents (hm b (List.mem_cons_self ..)) hb hl
          rw [hf] at this; cases this)
      obtain ⟨fp, r1, r2⟩ := harg
      exact ⟨fp, r1, fun b hb => ⟨(r2 b hb).1, (r2 b hb).2.2.2.1, (r2 b hb).2.2.2.2⟩⟩
    | succ k =>
      simp only [Tys.cells, List.getElem?_cons_succ] at hk
      simpa using as_stored g (fun b hb => hm b (List.mem_cons_of_mem _ hb)) h3 q2 k c hk
  | [], _ :: _, _, _, _, _, h, _, _, _ => by cases h
  | _ :: _, [], _, _, _, _, h, _, _, _ => by cases h
  | _ :: _, _ :: _, _, [], _, h, _, _, _, _ => h.elim

theorem elemOf_eq {es : List (Nat × Ent)} {t : ST} {l : List A1} {e : t.El} (h : elemOf es t l = some e) : ∃ x, asTys es t.kinds l = some x ∧ e = t.mk x := by
  unfold elemOf at h
  split at h
  · rename_i x hx; cases h; exact ⟨x, hx, rfl⟩
  · cases h

theorem length_asTys {es : List (Nat × Ent)} : ∀ {ks : List CK} {l : List A1} {x : Tys ks}, asTys es ks l = some x → l.length = ks.length
  | [], [], _, _ => rfl
  | c :: ks, b :: l, x, h => by simp [length_asTys (asTys_cons h).2]
  | [], _ :: _, _, h => by cases h
  | _ :: _, [], _, h => by cases h
theorem length_kinds (t : ST) : t.kinds.length = t.size := by cases t <;> rfl

theorem asTys_get {es : List (Nat × Ent)} : ∀ {ks : List CK} {l : List A1} {x : Tys ks}, asTys es ks l = some x → ∀ (k : Nat) (c : Cell), (Tys.cells ks x)[k]? = some c → ∃ b ck z, l[k]? = some b ∧ b.as es ck = some z ∧ c = ck.cell z
  | [], [], _, _, k, c, h => by simp [Tys.cells] at h
  | ck :: ks, b :: l, x, h, k, c, hk => by
    obtain ⟨q1, q2⟩ := asTys_cons h
    cases k with
    | zero => simp only [Tys.cells, List.getElem?_cons_zero, Option.some.injEq] at hk; exact ⟨b, ck, x.1, rfl, q1, hk.symm⟩
    | succ k => simp only [Tys.cells, List.getElem?_cons_succ] at hk; simpa using asTys_get q2 k c hk
  | [], _ :: _, _, h, _, _, _ => by cases h
  | _ :: _, [], _, h, _, _, _ => by cases h

theorem stored1 (g : Gam C s X β tm w) {l : List A1} {b : A1} {v : Value} (hb : b ∈ l) (h1 : A1Ok (cx C s β w) b v) {ck : CK} {z : ck.ty} (q1 : b.as s.ents ck = some z) :
    (cx C ⟨s.env, freezeL l s.ents⟩ β w).rd v (ck.cell z) := by
  have gf := g.freezeL l
  have h1' := freezeL_a1 l s h1
  have q1' : b.as (freezeL l s.ents) ck = some z := as_frz (frz_look l s.ents) q1
  have harg := as_arg gf h1' q1' (old := fun k => k < w.heap.size ∧ ¬ Top (cx C ⟨s.env, freezeL l s.ents⟩ β w).lk β k ∧ (cx C ⟨s.env, freezeL l s.ents⟩ β w).av k) (fun b hb ht hav => ⟨hb, ht, hav⟩)
    (fun n fr t xs u hbn hl hu hf => by
      have := frz_mem l s.ents hb hbn hl
      rw [hf] at this; cases this)
  obtain ⟨fp, r1, r2⟩ := harg
  exact ⟨fp, r1, fun b hb => ⟨(r2 b hb).1, (r2 b hb).2.2.2.1, (r2 b hb).2.2.2.2⟩⟩

theorem get_dataL : ∀ (l : List Cell) (k : Nat), (dataL l)[k]? = (l[k]?).map A1.d
  | [], k => by simp [dataL]
  | c :: r, 0 => by simp [dataL]
  | c :: r, k + 1 => by simp [dataL, get_dataL r k]

theorem part_sound (hT : TIOk P t i) (ho : o.op = .store t x y) (g : Gam C s X β a.tmps w) {n j off : Nat} {c : List A1}
    (hx : AVOk (cx C s β w) (.v false [.oe n j off]) (a.eval x)) (hcv : L1Ok (cx C s β w) c (a.eval y).cells.toList) (hlen : (a.eval y).cells.size = i.zero.length)
    (hy : (partStore s n j off c).Yields (av, s')) (hK : Goes C X o a av s' K) : o.wp P a w K Q := by
  have hcl := hcv.length
  simp only [Array.length_toList] at hcl
  unfold partStore at hy
  split at hy
  · rename_i u xs hl
    obtain ⟨e', he, hr⟩ := hy
    cases hr
    cases hj : xs[j]? with
    | none => rw [hj] at he; cases he
    | some e =>
      rw [hj, Option.bind_some] at he
      split at he
      · rename_i l hp
        obtain ⟨xt, q1, rfl⟩ := elemOf_eq he
        obtain ⟨p1, p2⟩ := patch_spec _ _ _ _ hp
        rw [length_dataL, length_cells] at p1
        have gf := g.freezeL c
        have hx' : AVOk (cx C ⟨s.env, freezeL c s.ents⟩ β w) (.v false [.oe n j off]) (a.eval x) := by
          obtain ⟨a1, e1, e2, e3⟩ := hx; cases e1; exact ⟨_, rfl, freezeL_a1 c s e2, e3⟩
        have hlt : ((dataL (u.cells e)).take off).length = off := by rw [List.length_take, length_dataL, length_cells]; omega
        refine store_pe hT ho gf hl hx' hlen (by omega) hj (fun k cc hk hout => ?_) (fun k cc hlt' hk => ?_) hcv.one hK
        · rw [cells_mk] at hk
          obtain ⟨b, ck, z, h1, h2, rfl⟩ := asTys_get q1 k cc hk
          have hb : (dataL (u.cells e))[k]? = some b := by
            rw [p2, get_three, hlt] at h1
            rcases hout with h | h
            · rw [if_pos h, List.getElem?_take_of_lt h] at h1; exact h1
            · rw [if_neg (by omega), if_neg (by omega), List.getElem?_drop, show off + c.length + (k - off - c.length) = k from by omega] at h1; exact h1
          rw [get_dataL] at hb
          cases hc : (u.cells e)[k]? with
          | none => rw [hc] at hb; cases hb
          | some c0 =>
            rw [hc] at hb
            simp only [Option.map_some, Option.some.injEq] at hb
            subst hb
            have h2 : ck.get c0 = some z := by cases ck <;> exact h2
            rw [get_cell h2]
        · rw [cells_mk] at hk
          obtain ⟨b, ck, z, h1, h2, rfl⟩ := asTys_get q1 _ cc hk
          rw [p2, get_three, hlt, if_neg (by omega), if_pos (by omega), show off + k - off = k from by omega] at h1
          obtain ⟨v, hv, hok, _⟩ := hcv.get h1
          exact ⟨v, by simpa using hv, stored1 g (List.mem_of_getElem? h1) hok h2⟩
      · cases he
  · exact hy.elim

theorem sound_store (hL : LayOk P lay) (ho : o.op = .store t x y) (hd : o.dst = none) (g : Gam C s X β a.tmps w) (hx : AVOk (cx C s β w) (opnd s x) (a.eval x)) (hy' : AVOk (cx C s β w) (opnd s y) (a.eval y))
    (hy : (evalOp lay cons o s).Yields (av, s')) (hK : Goes C X o a av s' K) : o.wp P a w K Q := by
  simp only [evalOp, ho] at hy
  split at hy
  · rename_i i b c hi hb hc
    have hT := hL t i hi
    rw [addrOf_eq hb] at hx
    split at hy
    · rename_i hlen
      have hlen : c.length = i.zero.length := by simpa using hlen
      obtain ⟨hcv, _⟩ := av_cells' hy' hc
      have hcl := hcv.length
      simp only [Array.length_toList] at hcl
      unfold storeOp at hy
      split at hy
      · split at hy
        · rename_i l hl
          split at hy
          · rename_i l' hp
            cases hy; exact store_lp hT ho hd g hl hx hy' hc hlen hp hK
          · exact hy.elim
        · exact hy.elim
      · rename_i n j
        split at hy
        · rename_i u xs hl
          split at hy
          · rename_i hsz
            have hsz : c.length = u.size := by simpa using hsz
            split at hy
            · rename_i e he
              cases hy
              obtain ⟨xt, q1, rfl⟩ := elemOf_eq he
              have gf := g.freezeL c
              have hx' : AVOk (cx C ⟨s.env, freezeL c s.ents⟩ β w) (.v false [.oe n j 0]) (a.eval x) := by
                obtain ⟨a1, e1, e2, e3⟩ := hx; cases e1; exact ⟨_, rfl, freezeL_a1 c s e2, e3⟩
              exact store_oe hT ho gf hl hx' (by omega) (by omega) (fun k cc hk => by
                  rw [cells_mk] at hk
                  obtain ⟨v, h1, h2⟩ := as_stored g (l := c) (fun b hb => hb) hcv q1 k cc hk
                  exact ⟨v, by simpa using h1, h2⟩) hcv.one hK
            · exact hy.elim
          · exact part_sound hT ho g hx hcv (by omega) hy hK
        · exact hy.elim
      · exact part_sound hT ho g hx hcv (by omega) hy hK
      · exact hy.elim
    · exact hy.elim
  · exact hy.elim
end
end Go.Di
/-
  Own work. One operation, the other kinds.
-/
open Go.RowKit (Below)
namespace Go.Di

section
variable {P : Program} {C : Bs} {w w' : World} {s s' : St} {X : Nat → Prop} {β β' : Nat → Option Value} {a : Act} {o : Oper} {tm : Array Value}
  {t : TypeId} {x y : Operand} {i : TI} {K : Act → World → Prop} {Q : Exit → Act → World → Prop} {lay : List (TypeId × TI)} {cons : List (FuncId × Con)} {av : AV}

theorem sound_move (ho : o.op = .move x ∨ o.op = .assign x) (g : Gam C s X β a.tmps w) (hx : AVOk (cx C s β w) (opnd s x) (a.eval x)) (hy : (evalOp lay cons o s).Yields (av, s')) (hK : Goes C X o a av s' K) : o.wp P a w K Q := by
  rcases ho with ho | ho
  all_goals
    simp only [evalOp, ho] at hy
    cases hy
    exact pure_sound (v := a.eval x) (by simp [execOp, ho]) g hx hK

theorem sound_pick {c : Operand} (ho : o.op = .pick c x y) (g : Gam C s X β a.tmps w) (hc : AVOk (cx C s β w) (opnd s c) (a.eval c)) (hx : AVOk (cx C s β w) (opnd s x) (a.eval x)) (hz : AVOk (cx C s β w) (opnd s y) (a.eval y))
    (hy : (evalOp lay cons o s).Yields (av, s')) (hK : Goes C X o a av s' K) : o.wp P a w K Q := by
  simp only [evalOp, ho] at hy
  split at hy
  · rename_i b p q h1 h2 h3
    cases hy
    rw [h1] at hc; rw [h2] at hx; rw [h3] at hz
    have e1 := av_bool hc; have e2 := av_bool hx; have e3 := av_bool hz
    refine pure_sound (v := .bool (bif b then p else q)) ?_ g av_mk_bool hK
    cases b <;> simp [execOp, ho, e1, e2, e3, asBool]
  · rename_i b h1 _
    rw [h1] at hc
    have e1 := av_bool hc
    cases b with
    | true => cases hy; exact pure_sound (v := a.eval x) (by simp [execOp, ho, e1, asBool]) g hx hK
    | false => cases hy; exact pure_sound (v := a.eval y) (by simp [execOp, ho, e1, asBool]) g hz hK
  · exact hy.elim

theorem isBoolT_ok (hL : LayOk P lay) (h : isBoolT t lay = true) : P.underlying t = some .bool := by
  unfold isBoolT at h
  split at h
  · rename_i hi
    obtain ⟨inf, d, z, _, hu, _, _, _, _, _, _, _, _, hb, _⟩ := hL t _ hi
    rw [hu, hb rfl]
  · cases h

theorem sound_binOp (hL : LayOk P lay) {op : BinOp} {U : TypeId} (ho : o.op = .binOp op t x y U) (g : Gam C s X β a.tmps w) (hx : AVOk (cx C s β w) (opnd s x) (a.eval x)) (hz : AVOk (cx C s β w) (opnd s y) (a.eval y))
    (hy : (evalOp lay cons o s).Yields (av, s')) (hK : Goes C X o a av s' K) : o.wp P a w K Q := by
  simp only [evalOp, ho] at hy
  unfold Go.Di.binOp at hy
  split at hy
  · rename_i k m k' n h1 h2
    rw [h1] at hx; rw [h2] at hz
    split at hy
    · rename_i hk
      have hk := kindEqb_eq hk
      subst hk
      refine int_sound ho g (av_int hx) (av_int hz) (r := (av, s')) ?_ hK
      cases hi : intOp s k m n op with
      | fail => rw [hi] at hy; exact hy.elim
      | ret r => rw [hi] at hy; cases hy; rfl
      | ask q f => rw [hi] at hy; obtain ⟨u, hu, hf⟩ := hy; simp [Susp.bindK, hu, hf]
    · exact hy.elim
  · rename_i m n h1 h2
    rw [h1] at hx; rw [h2] at hz
    split at hy
    · rename_i hsc
      have hsc := isBoolT_ok hL hsc
      split at hy
      · cases hy; exact bool_eql hsc ho g (av_bool hx) (av_bool hz) hK
      · cases hy; exact bool_neq hsc ho g (av_bool hx) (av_bool hz) hK
      · exact hy.elim
    · exact hy.elim
  · rename_i m n h1 h2
    rw [h1] at hx; rw [h2] at hz
    split at hy
    · cases hy; exact str_eql ho g (av_str hx) (av_str hz) hK
    · cases hy; exact str_neq ho g (av_str hx) (av_str hz) hK
    · obtain ⟨u, hu, hf⟩ := hy
      cases hf
      exact str_add ho g (av_str hx) (av_str hz) (by have := guard_ok hu; simpa using Nat.le_of_ble_eq_true this) hK
    · exact hy.elim
  · exact hy.elim

theorem sound_alloc (hL : LayOk P lay) (ho : o.op = .alloc t) (g : Gam C s X β a.tmps w) (hy : (evalOp lay cons o s).Yields (av, s')) (hK : Goes C X o a av s' K) : o.wp P a w K Q := by
  simp only [evalOp, ho] at hy
  split at hy
  · rename_i i hi
    cases hy; exact alloc_sound (hL t i hi) ho g _ hK
  · exact hy.elim

theorem sound_box (hL : LayOk P lay) (ho : o.op = .box t x) (g : Gam C s X β a.tmps w) (hx : AVOk (cx C s β w) (opnd s x) (a.eval x)) (hy : (evalOp lay cons o s).Yields (av, s')) (hK : Goes C X o a av s' K) : o.wp P a w K Q := by
  simp only [evalOp, ho] at hy
  split at hy
  · rename_i i l hi hl
    split at hy
    · cases hy; exact box_sound (hL t i hi) ho g _ hx hl hK
    · exact hy.elim
  · exact hy.elim

theorem sound_build (hL : LayOk P lay) {ps : Array (Nat × Operand)} (ho : o.op = .build t ps) (g : Gam C s X β a.tmps w) (hx : ∀ (j : Nat) (z : Operand), (j, z) ∈ ps.toList → AVOk (cx C s β w) (opnd s z) (a.eval z))
    (hy : (evalOp lay cons o s).Yields (av, s')) (hK : Goes C X o a av s' K) : o.wp P a w K Q := by
  simp only [evalOp, ho] at hy
  split at hy
  · rename_i i hi
    split at hy
    · rename_i l hst hl
      cases hy; exact build_sound (hL t i hi) ho g hst hx hl hK
    · exact hy.elim
  · exact hy.elim

theorem sound_unOp (_hL : LayOk P lay) {op : UnOp} (ho : o.op = .unOp op t x) (g : Gam C s X β a.tmps w) (hx : AVOk (cx C s β w) (opnd s x) (a.eval x)) (hy : (evalOp lay cons o s).Yields (av, s')) (hK : Goes C X o a av s' K) : o.wp P a w K Q := by
  simp only [evalOp, ho] at hy
  split at hy
  · rename_i b h1
    rw [h1] at hx; cases hy; exact not_sound ho g (av_bool hx) hK
  · rename_i k n h1
    rw [h1] at hx; cases hy; exact neg_sound ho g (av_int hx) hK
  · exact hy.elim

theorem sound_make (hL : LayOk P lay) (ho : o.op = .makeSlice t x y) (g : Gam C s X β a.tmps w) (hx : AVOk (cx C s β w) (opnd s x) (a.eval x)) (hz : AVOk (cx C s β w) (opnd s y) (a.eval y))
    (hy : (evalOp lay cons o s).Yields (av, s')) (hK : Goes C X o a av s' K) : o.wp P a w K Q := by
  simp only [evalOp, ho] at hy
  split at hy
  · rename_i _ _ _ e _ _ _ n m hi h1 h2
    rw [h1] at hx; rw [h2] at hz
    split at hy
    · rename_i z hze
      obtain ⟨u, hu, hf⟩ := hy
      cases hf
      have hg := guard_ok hu
      simp only [Bool.and_eq_true, decide_eq_true_eq] at hg
      exact make_sound (hL t _ hi) ho g _ rfl hze (av_int hx) (av_int hz) hg.1.1 hg.1.2 hg.2 hK
    · exact hy.elim
  · exact hy.elim

theorem sound_slice (hL : LayOk P lay) {lo hi : Option Operand} (ho : o.op = .slice t x lo hi none) (g : Gam C s X β a.tmps w) (hx : AVOk (cx C s β w) (opnd s x) (a.eval x))
    (hlo : ∀ z, lo = some z → AVOk (cx C s β w) (opnd s z) (a.eval z)) (hhi : ∀ z, hi = some z → AVOk (cx C s β w) (opnd s z) (a.eval z))
    (hy : (evalOp lay cons o s).Yields (av, s')) (hK : Goes C X o a av s' K) : o.wp P a w K Q := by
  simp only [evalOp, ho] at hy
  split at hy
  · rename_i i b hi hb
    have hT := hL t i hi
    rw [addrOf_eq hb] at hx
    unfold sliceOp at hy
    split at hy
    · split at hy
      · rename_i q hs hbd
        obtain ⟨u, hu, hf⟩ := hy
        cases hf
        exact slice_str hT (isStr_eq hs) ho g hx hlo hhi hbd (guard_ok hu) hK
      · exact hy.elim
    · split at hy
      · rename_i q hs hbd
        obtain ⟨u, hu, hf⟩ := hy
        cases hf
        exact slice_d hT (isEl_eq hs) ho g hx hlo hhi hbd (guard_ok hu) hK
      · exact hy.elim
    · split at hy
      · rename_i fr u xs hl
        split at hy
        · rename_i q hs hbd
          obtain ⟨u, hu, hf⟩ := hy
          cases hf
          exact slice_own hT (isEl_eq hs) ho g hl hx hlo hhi hbd (guard_ok hu) hK
        · exact hy.elim
      · exact hy.elim
    · exact hy.elim
  · exact hy.elim

theorem sound_fieldAddr (hL : LayOk P lay) {f : Nat} (ho : o.op = .fieldAddr t x f) (g : Gam C s X β a.tmps w) (hx : AVOk (cx C s β w) (opnd s x) (a.eval x)) (hy : (evalOp lay cons o s).Yields (av, s')) (hK : Goes C X o a av s' K) : o.wp P a w K Q := by
  simp only [evalOp, ho] at hy
  split at hy
  · rename_i i b hi hb
    have hT := hL t i hi
    rw [addrOf_eq hb] at hx
    split at hy
    · rename_i off k ag n q hst hf
      split at hy
      · rename_i e hl
        cases hy; exact fieldAddr_lp hT ho g hst hf hl hx hK
      · exact hy.elim
    · rename_i off k ag cs q hst hf
      cases hy; exact fieldAddr_sp hT ho g hst hf hx hK
    · rename_i off k ag n j q hst hf
      split at hy
      · rename_i fr u xs hl
        cases hy; exact fieldAddr_oe hT ho g hst hf hl hx hK
      · exact hy.elim
    · exact hy.elim
  · exact hy.elim

theorem sound_field (hL : LayOk P lay) {f : Nat} (ho : o.op = .field t x f) (g : Gam C s X β a.tmps w) (hx : AVOk (cx C s β w) (opnd s x) (a.eval x)) (hy : (evalOp lay cons o s).Yields (av, s')) (hK : Goes C X o a av s' K) : o.wp P a w K Q := by
  simp only [evalOp, ho] at hy
  split at hy
  · rename_i i l hi h1
    rw [h1] at hx
    split at hy
    · rename_i off k ag hst hf
      split at hy
      · rename_i c hw hone
        cases hy
        exact field_sound (hL t i hi) ho g hst hx hf hw (fun h => by subst h; simpa using hone) hK
      · exact hy.elim
    · exact hy.elim
  · exact hy.elim

theorem sound_indexAddr (hL : LayOk P lay) (ho : o.op = .indexAddr t x y) (g : Gam C s X β a.tmps w) (hx : AVOk (cx C s β w) (opnd s x) (a.eval x)) (hz : AVOk (cx C s β w) (opnd s y) (a.eval y))
    (hy : (evalOp lay cons o s).Yields (av, s')) (hK : Goes C X o a av s' K) : o.wp P a w K Q := by
  simp only [evalOp, ho] at hy
  split at hy
  · rename_i _ _ _ e _ _ b j hi hb h2
    rw [addrOf_eq hb] at hx
    rw [h2] at hz
    have hT := hL t _ hi
    unfold indexOp at hy
    split at hy
    · split at hy
      · rename_i he
        have := eqb_eq he; subst this
        obtain ⟨u, hu, hf⟩ := hy
        cases hf
        exact indexAddr_d hT rfl ho g hx (av_int hz) hu hK
      · exact hy.elim
    · split at hy
      · rename_i fr u xs hl
        split at hy
        · rename_i he
          have := eqb_eq he; subst this
          obtain ⟨u, hu, hf⟩ := hy
          cases hf
          exact indexAddr_own hT rfl ho g hl hx (av_int hz) hu hK
        · exact hy.elim
      · exact hy.elim
    · split at hy
      · rename_i fr u xs hl
        split at hy
        · rename_i he
          have := eqb_eq he; subst this
          obtain ⟨u, hu, hf⟩ := hy
          cases hf
          exact indexAddr_win hT rfl ho g hl hx (av_int hz) hu hK
        · exact hy.elim
      · exact hy.elim
    · exact hy.elim
  · exact hy.elim

theorem sound_index (hL : LayOk P lay) (ho : o.op = .index t x y) (g : Gam C s X β a.tmps w) (hx : AVOk (cx C s β w) (opnd s x) (a.eval x)) (hz : AVOk (cx C s β w) (opnd s y) (a.eval y))
    (hy : (evalOp lay cons o s).Yields (av, s')) (hK : Goes C X o a av s' K) : o.wp P a w K Q := by
  simp only [evalOp, ho] at hy
  split at hy
  · rename_i hi hb h2
    rw [addrOf_eq hb] at hx
    rw [h2] at hz
    obtain ⟨u, hu, hf⟩ := hy
    cases hf
    exact index_str (hL t _ hi) rfl ho g hx (av_int hz) hu hK
  · exact hy.elim

theorem sound_extract {f : Nat} (ho : o.op = .extract x f) (g : Gam C s X β a.tmps w) (hx : AVOk (cx C s β w) (opnd s x) (a.eval x)) (hy : (evalOp lay cons o s).Yields (av, s')) (hK : Goes C X o a av s' K) : o.wp P a w K Q := by
  simp only [evalOp, ho] at hy
  split at hy
  · rename_i ps h1
    rw [h1] at hx
    obtain ⟨vs, hv, hok⟩ := hx
    split at hy
    · rename_i b l hp
      cases hy
      have get : ∀ (ps : List (Bool × List A1)) (vs : List Value), PsOk (cx C s β w) ps vs → ∀ (f : Nat) b l, ps[f]? = some (b, l) → ∃ u, vs[f]? = some u ∧ VOk (cx C s β w) b l u := by
        intro ps
        induction ps with
        | nil => intro vs _ f b l h; simp at h
        | cons p r ih =>
          intro vs h f b l hf
          cases vs with
          | nil => exact h.elim
          | cons v vs =>
            cases f with
            | zero => simp at hf; subst hf; exact ⟨v, rfl, h.1⟩
            | succ f => simp at hf; simpa using ih vs h.2 f b l hf
      obtain ⟨u, hu, hvo⟩ := get ps vs.toList hok f b l hp
      refine pure_sound (v := u) (av := .v b l) ?_ g hvo hK
      have hu' : vs[f]? = some u := by simpa using hu
      simp [execOp, ho, Instr.extract, hv, hu']
    · exact hy.elim
  · exact hy.elim

theorem isIntT_ok (hL : LayOk P lay) (h : isIntT t lay = true) : ∃ k, P.underlying t = some (.int k) := by
  unfold isIntT at h
  split at h
  · rename_i hi
    obtain ⟨inf, d, z, _, hu, _, _, _, _, _, _, hk, _⟩ := hL t _ hi
    exact ⟨_, by rw [hu, hk _ rfl]⟩
  · cases h

theorem sound_convert (hL : LayOk P lay) {T : TypeId} (ho : o.op = .convert T t x) (g : Gam C s X β a.tmps w) (hx : AVOk (cx C s β w) (opnd s x) (a.eval x)) (hy : (evalOp lay cons o s).Yields (av, s')) (hK : Goes C X o a av s' K) : o.wp P a w K Q := by
  simp only [evalOp, ho] at hy
  split at hy
  · rename_i hi h1 hint
    rw [h1] at hx
    cases hy
    have hT := isIntT_ok hL hint
    obtain ⟨inf, d, z, _, hu, _, _, _, _, _, _, hk, _⟩ := hL t _ hi
    have hk := hk _ rfl
    subst hk
    obtain ⟨k2, hd⟩ := hT
    have hv := av_int hx
    refine pure_sound (v := .int _ _) ?_ g av_mk_int hK
    simp [execOp, ho, convert, run_underlying hd, run_underlying hu, hv, Conv.intToInt]
  · exact hy.elim
end
end Go.Di
/-
  Own work. Slice literals, lengths, appends, calls; every operation.
-/
open Go.RowKit (Below)
namespace Go.Di

/-- A row of parts of one size, from part k on. -/
theorem fill_row (size : Nat) (place : Nat → Option (Nat × Nat)) (hp : ∀ i, place i = some (i * size, size)) : ∀ (vs : List Value) (k : Nat) (cells : Array Value), (∀ v ∈ vs, v.cells.size = size) → (k + vs.length) * size ≤ cells.size →
    ∃ cells', Instr.fill place cells ((vs.zipIdx k).map fun p => (p.2, p.1)) = some cells' ∧ cells'.toList = cells.toList.take (k * size) ++ vs.flatMap (fun v => v.cells.toList) ++ cells.toList.drop ((k + vs.length) * size)
  | [], k, cells, _, _ => ⟨cells, rfl, by simp⟩
  | v :: vs, k, cells, h1, h2 => by
    simp only [List.length_cons] at h2
    have hv := h1 v (List.mem_cons_self ..)
    have e0 : (k + (vs.length + 1)) * size = k * size + size + vs.length * size := by rw [Nat.add_mul, Nat.add_mul]; omega
    have e1 : (k + 1 + vs.length) * size = k * size + size + vs.length * size := by rw [Nat.add_mul, Nat.add_mul]; omega
    obtain ⟨c1, q1, q2⟩ := fill_ok place cells k (k * size) size v ((vs.zipIdx (k + 1)).map fun p => (p.2, p.1)) (hp k) hv (by omega)
    have hl1 : c1.size = cells.size := by
      have := congrArg List.length q2
      simp only [Array.length_toList, List.length_append, List.length_take, List.length_drop] at this
      omega
    obtain ⟨c2, q3, q4⟩ := fill_row size place hp vs (k + 1) c1 (fun u hu => h1 u (List.mem_cons_of_mem _ hu)) (by omega)
    refine ⟨c2, by simp only [List.zipIdx_cons, List.map_cons]; rw [q1]; exact q3, ?_⟩
    rw [q4, q2]
    have hlt : (cells.toList.take (k * size)).length = k * size := by rw [List.length_take, Array.length_toList]; omega
    have a1 : (cells.toList.take (k * size) ++ v.cells.toList ++ cells.toList.drop (k * size + size)).take ((k + 1) * size) = cells.toList.take (k * size) ++ v.cells.toList := by
      apply List.take_left'
      rw [List.length_append, hlt, Array.length_toList, hv, Nat.add_mul, Nat.one_mul]
    have a2 : (cells.toList.take (k * size) ++ v.cells.toList ++ cells.toList.drop (k * size + size)).drop ((k + 1 + vs.length) * size) = cells.toList.drop ((k + (vs.length + 1)) * size) := by
      have hl2 : (cells.toList.take (k * size) ++ v.cells.toList).length = k * size + size := by rw [List.length_append, hlt, Array.length_toList, hv]
      rw [e0, e1, ← hl2, List.drop_length_add_append, List.drop_drop]
    rw [a1, a2]
    simp [List.append_assoc]

section
variable {P : Program} {C : Bs} {w w' : World} {s s' : St} {X : Nat → Prop} {β β' : Nat → Option Value} {a : Act} {o : Oper} {tm : Array Value}
  {t : TypeId} {x y : Operand} {i : TI} {K : Act → World → Prop} {Q : Exit → Act → World → Prop} {lay : List (TypeId × TI)} {cons : List (FuncId × Con)} {av : AV}

theorem elemsOf_spec {ps : List (Nat × Operand)} (hop : ∀ (j : Nat) (z : Operand), (j, z) ∈ ps → AVOk (cx C s β w) (opnd s z) (a.eval z)) (g : Gam C s X β a.tmps w) {e : ST} : ∀ (k : Nat) {es : List e.El} {cs : List A1}, elemsOf s e k ps = some (es, cs) →
    ps.map (fun p => (p.1, a.eval p.2)) = ((ps.map fun p => a.eval p.2).zipIdx k).map (fun p => (p.2, p.1)) ∧ (∀ v ∈ ps.map (fun p => a.eval p.2), v.cells.size = e.size ∧ ∀ u ∈ v.cells.toList, u.oneCell' = true) ∧ es.length = ps.length ∧
      ∀ (l : List A1), (∀ b ∈ cs, b ∈ l) → ∀ (j : Nat) (c : Cell), (flat e es)[j]? = some c → ∃ u, ((ps.map fun p => a.eval p.2).flatMap fun v => v.cells.toList)[j]? = some u ∧ (cx C ⟨s.env, freezeL l s.ents⟩ β w).rd u c := by
  induction ps with
  | nil => intro k es cs h; simp only [elemsOf] at h; cases h; exact ⟨rfl, (fun v hv => by cases hv), rfl, fun l _ j c hj => by simp [flat] at hj⟩
  | cons q ps ih =>
    intro k es cs h
    obtain ⟨j0, z⟩ := q
    simp only [elemsOf] at h
    split at h
    · rename_i hj0
      have hj0 : k = j0 := by simpa using hj0
      subst hj0
      split at h
      · rename_i c hc
        split at h
        · rename_i el hel
          split at h
          · rename_i p hp
            cases h
            obtain ⟨h1, h2, h3, h4⟩ := ih (fun j z hm => hop j z (List.mem_cons_of_mem _ hm)) (k + 1) (es := p.1) (cs := p.2) hp
            obtain ⟨xt, q1, rfl⟩ := elemOf_eq hel
            obtain ⟨hcv, _⟩ := av_cells' (hop k z (List.mem_cons_self ..)) hc
            have hl := length_asTys q1
            rw [length_kinds] at hl
            have hcl := hcv.length
            simp only [Array.length_toList] at hcl
            refine ⟨by simp only [List.map_cons, List.zipIdx_cons, h1], fun v hv => ?_, by simp [h3], fun l hcs j cc hj => ?_⟩
            · simp only [List.map_cons, List.mem_cons] at hv
              rcases hv with rfl | hv
              · exact ⟨by omega, hcv.one⟩
              · exact h2 v hv
            · have hfl : flat e (e.mk xt :: p.1) = e.cells (e.mk xt) ++ flat e p.1 := by simp [flat]
              rw [hfl] at hj
              simp only [List.map_cons, List.flatMap_cons]
              by_cases hlt : j < e.size
              · rw [List.getElem?_append_left (by rw [length_cells]; exact hlt), cells_mk] at hj
                obtain ⟨u, hu, hr⟩ := as_stored g (l := l) (fun b hb => hcs b (List.mem_append_left _ hb)) hcv q1 j cc hj
                exact ⟨u, by rw [List.getElem?_append_left (by simp; omega)]; exact hu, hr⟩
              · rw [List.getElem?_append_right (by rw [length_cells]; omega), length_cells] at hj
                obtain ⟨u, hu, hr⟩ := h4 l (fun b hb => hcs b (List.mem_append_right _ hb)) _ cc hj
                exact ⟨u, by rw [List.getElem?_append_right (by simp; omega)]; simpa [← hcl, hl] using hu, hr⟩
          · cases h
        · cases h
      · cases h
    · cases h

theorem sound_buildSlice (hL : LayOk P lay) {len : Nat} {ps : Array (Nat × Operand)} (hlen24 : len ≤ 1000) (ho : o.op = .buildSlice t len ps) (g : Gam C s X β a.tmps w) (hx : ∀ (j : Nat) (z : Operand), (j, z) ∈ ps.toList → AVOk (cx C s β w) (opnd s z) (a.eval z))
    (hps : len = 0 → ps.toList = []) (hy : (evalOp lay cons o s).Yields (av, s')) (hK : Goes C X o a av s' K) : o.wp P a w K Q := by
  simp only [evalOp, ho] at hy
  split at hy
  · rename_i _ _ _ e _ _ hi
    obtain ⟨inf, d, z, _, hu, _, _, _, _, _, hel, _⟩ := hL t _ hi
    obtain ⟨E, rfl, einf, ez, q1, q2, q3, q4, q5⟩ := hel e rfl
    split at hy
    · cases hy
      have hpe := hps rfl
      have hpe' : ps = #[] := by simpa using hpe
      refine wp_run (v := .slice (some ⟨w.heap.size, 0, none⟩) 0 0) (w' := w.alloc (.cells #[] E)) ?_ (hK _ _ β (g.grown (below_alloc w _)) (av_one (a := .mt) ⟨_, rfl⟩ rfl))
      simp [execOp, ho, Instr.buildSlice, run_underlying hu, sizeOf, typeInfo, q1, hpe', Instr.fill, newRow]
      exact congrArg (fun c => w.alloc (.cells c E)) (Array.eq_empty_of_size_eq_zero (by simp))
    · rename_i hlen0
      split at hy
      · rename_i es cs hes
        split at hy
        · rename_i hlb
          cases hy
          have hlb : es.length = len := by simpa using hlb
          obtain ⟨h1, h2, h3, h4⟩ := elemsOf_spec hx g 0 hes
          have h4 := h4 cs (fun b hb => hb)
          have hsz := size_pos e
          have hlp : 0 < len := by
            rcases Nat.eq_zero_or_pos len with h | h
            · exact (hlen0 h).elim
            · exact h
          have hpl : ps.size = len := by rw [← hlb, h3]; simp
          have hm : len * e.size ≤ 1000 * 9 := Nat.mul_le_mul hlen24 (by cases e <;> decide)
          have hmne : ¬ len * e.size = 0 := by
            have := Nat.mul_pos hlp hsz; omega
          have hz0 : ((Array.range (len * e.size)).map (ez.cells[· % ez.cells.size]!)).size = len * e.size := by simp
          obtain ⟨cells, e1, e2⟩ := fill_row e.size (fun i => some (i * e.size, e.size)) (fun _ => rfl) (ps.toList.map fun p => a.eval p.2) 0 ((Array.range (len * e.size)).map (ez.cells[· % ez.cells.size]!))
            (fun v hv => (h2 v hv).1) (by simp [hpl])
          rw [← h1] at e1
          have hcl : cells.toList = (ps.toList.map fun p => a.eval p.2).flatMap fun v => v.cells.toList := by
            rw [e2]
            simp only [Nat.zero_mul, List.take_zero, List.nil_append, Nat.zero_add]
            rw [List.drop_of_length_le (by simp [hpl]), List.append_nil]
          have hcs : cells.size = len * e.size := by
            have h5 : ∀ vs : List Value, (∀ v ∈ vs, v.cells.size = e.size) → (vs.flatMap fun v => v.cells.toList).length = vs.length * e.size := by
              intro vs
              induction vs with
              | nil => intro _; simp
              | cons v vs ih => intro h; simp only [List.flatMap_cons, List.length_append, Array.length_toList, h v (List.mem_cons_self ..), ih fun u hu => h u (List.mem_cons_of_mem _ hu), List.length_cons, Nat.add_mul]; omega
            have := congrArg List.length hcl
            rw [Array.length_toList, h5 _ fun v hv => (h2 v hv).1, List.length_map, ← h3, hlb] at this
            exact this
          have gp := (g.freezeL cs).pushNew (below_alloc w (.cells cells E)) (hnm := nm_pin _) (n := nm (o.dst.getD 0)) (e := .arr false e es) (v := .slice (some ⟨w.heap.size, 0, none⟩) len len) (fun b hb => by
              cases len with
              | zero => omega
              | succ k => simp [topOf] at hb; subst hb; simp) fun hle => .inr ⟨w.heap.size, len, cells, E, by rw [hlb], hlp, by omega, by unfold maxLen; omega, heap_alloc w _, hcs, fun j c hj => by
              obtain ⟨u, hu, hr⟩ := h4 j c hj
              exact ⟨u, by rw [← Array.getElem?_toList, hcl]; exact hu, hle.rd ((le_free _).rd hr)⟩⟩
          refine wp_run (v := .slice (some ⟨w.heap.size, 0, none⟩) len len) (w' := w.alloc (.cells cells E)) ?_ (hK _ _ _ gp (av_one (a := .own _) (fun _ => upd_same ..) rfl))
          have hnot : ¬ (16777216 < len * e.size) := by omega
          have e1' : Instr.fill (fun i => some (i * e.size, e.size)) ((Array.range (len * e.size)).map (ez.cells[· % ez.cells.size]!)) (List.map (fun p => (p.1, a.eval p.2)) ps.toList) = some cells := e1
          simp [execOp, ho, Instr.buildSlice, run_underlying hu, sizeOf, typeInfo, zeroValue, q1, q2, q4, hnot, hmne, newRow]
          have e1'' : Instr.fill (fun i => some (i * e.size, e.size)) ((Array.range (len * e.size)).map fun x => ez.cells[x % ez.cells.size]!) (List.map (fun p => (p.1, a.eval p.2)) ps.toList) = some cells := e1'
          simp [e1'']
        · exact hy.elim
      · exact hy.elim
  · exact hy.elim

theorem sound_len (hL : LayOk P lay) (ho : o.op = .call { callee := .builtin .len, args := #[x], argTypes := #[t] }) (g : Gam C s X β a.tmps w) (hx : AVOk (cx C s β w) (opnd s x) (a.eval x))
    (hy : (evalOp lay cons o s).Yields (av, s')) (hK : Goes C X o a av s' K) : o.wp P a w K Q := by
  simp only [evalOp, ho] at hy
  split at hy
  · rename_i i b hi hb
    have hT := hL t i hi
    rw [addrOf_eq hb] at hx
    unfold lenOp at hy
    split at hy
    · split at hy
      · rename_i hs
        cases hy
        exact pure_sound (run_len_str hT (isStr_eq hs) ho (av_str hx)) g av_mk_int hK
      · exact hy.elim
    · split at hy
      · exact hy.elim
      · rename_i e he
        obtain ⟨a1, h1, h2, _⟩ := hx; cases h1
        split at hy
        · cases hy
          obtain ⟨ad, cap, hv, _⟩ := rd_len h2
          exact pure_sound (run_len hT he ho hv) g av_mk_int hK
        · cases hy
          obtain ⟨ad, hv⟩ := h2
          exact pure_sound (run_len hT he ho hv) g av_mk_int hK
        · split at hy
          · rename_i fr u xs hl
            cases hy
            obtain ⟨ad, cap, hv, _⟩ := arr_len (g.ents _ _ _ hl (h2 (by simp [cx, hl])))
            exact pure_sound (run_len hT he ho hv) g av_mk_int hK
          · exact hy.elim
        · split at hy
          · rename_i fr u xs hl
            cases hy
            obtain ⟨_, ad, m, cap, _, _, hv⟩ := h2 fr u xs hl
            exact pure_sound (run_len hT he ho hv) g av_mk_int hK
          · exact hy.elim
        · exact hy.elim
  · exact hy.elim

theorem sound_append (hL : LayOk P lay) {u : TypeId} (ho : o.op = .call { callee := .builtin .append, args := #[x, y], argTypes := #[t, u] }) (g : Gam C s X β a.tmps w) (hx : AVOk (cx C s β w) (opnd s x) (a.eval x)) (hz : AVOk (cx C s β w) (opnd s y) (a.eval y))
    (hy : (evalOp lay cons o s).Yields (av, s')) (hK : Goes C X o a av s' K) : o.wp P a w K Q := by
  simp only [evalOp, ho] at hy
  split at hy
  · rename_i hbeq hi hb1 hb2
    have htu : t = u := by simpa using hbeq
    subst htu
    have hT := hL t _ hi
    rw [addrOf_eq hb1] at hx
    rw [addrOf_eq hb2] at hz
    unfold appendOp at hy
    split at hy
    · rename_i ys hys
      split at hy
      · obtain ⟨q, hq, hf⟩ := hy
        cases hf
        obtain ⟨a1, h1, h2, _⟩ := hx; cases h1; obtain ⟨ad, h2⟩ := h2
        exact append_mt hT rfl ho g _ h2 hz hys (Nat.le_of_ble_eq_true (guard_ok hq)) hK
      · split at hy
        · rename_i v xs0 hl
          split at hy
          · rename_i xs hxs
            obtain ⟨rfl, rfl⟩ := cast_eq hxs
            obtain ⟨q, hq, hf⟩ := hy
            cases hf
            exact append_own hT rfl ho g _ hl hx hz hys (Nat.le_of_ble_eq_true (guard_ok hq)) hK
          · exact hy.elim
        · exact hy.elim
      · exact hy.elim
    · exact hy.elim
  · exact hy.elim

theorem opsL_get {l : List Operand} (hx : ∀ z ∈ l, AVOk (cx C s β w) (opnd s z) (a.eval z)) : ∀ (j : Nat) av v, (opsL s l)[j]? = some av → (l.map a.eval)[j]? = some v → AVOk (cx C s β w) av v := by
  induction l with
  | nil => intro j av v h; simp [opsL] at h
  | cons z r ih =>
    intro j av v h1 h2
    cases j with
    | zero => simp [opsL] at h1 h2; subst h1; subst h2; exact hx z (List.mem_cons_self ..)
    | succ j => simp [opsL] at h1 h2; exact ih (fun z hz => hx z (List.mem_cons_of_mem _ hz)) j av v h1 (by simpa using h2)
theorem length_opsL : ∀ l, (opsL s l).length = l.length
  | [] => rfl
  | _ :: r => by simp [opsL, length_opsL r]

theorem dataS_some : ∀ (l : List (Bool × List C1T)) (e : List AV), dataS (l.map some) e = dataP l e
  | [], [] => rfl
  | [], _ :: _ => rfl
  | _ :: _, [] => rfl
  | (b, l) :: r, .v _ m :: e => by
    show dataA l m ++ dataS (r.map some) e = dataA l m ++ dataP r e
    rw [dataS_some r e]
  | (b, l) :: r, .tup _ :: e => by
    show dataS (r.map some) e = dataP r e
    exact dataS_some r e

/-- A freezing leaves the boxes. -/
theorem box_frz {n : Nat} {m : List A1} (l : List A1) (es : List (Nat × Ent)) : look n (freezeL l es) = some (.box m) ↔ look n es = some (.box m) := by
  induction l generalizing es with
  | nil => exact Iff.rfl
  | cons a r ih =>
    have one : look n (a.freeze es) = some (.box m) ↔ look n es = some (.box m) := by
      have f1 : ∀ k, look n (freeze1 k es) = some (.box m) ↔ look n es = some (.box m) := fun k => by
        rw [look_freeze1]
        split
        · cases hl : look n es with
          | none => simp
          | some f => cases f <;> simp [frz]
        · exact Iff.rfl
      cases a <;> simp only [A1.freeze] <;> first | exact Iff.rfl | exact f1 _
    exact (ih _).trans one
theorem pairsE_frz (c : List A1) (es : List (Nat × Ent)) (p : List (Nat × Nat)) : ∀ l : List (Nat × ET), pairsE (freezeL c es) p l = pairsE es p l
  | [] => rfl
  | (n, .arr _ _) :: r => pairsE_frz c es p r
  | (n, .box l) :: r => by
    have ih := pairsE_frz c es p r
    have hb := @box_frz (srcOf p n)
    simp only [pairsE]
    cases h : look (srcOf p n) es with
    | none =>
      cases h' : look (srcOf p n) (freezeL c es) with
      | none => exact ih
      | some f => cases f with
        | box m => rw [(hb c es).1 h'] at h; cases h
        | arr _ _ _ => exact ih
    | some f =>
      cases f with
      | box m => rw [(hb c es).2 h]; simp only []; rw [ih]
      | arr _ _ _ =>
        cases h' : look (srcOf p n) (freezeL c es) with
        | none => exact ih
        | some f => cases f with
          | box m => rw [(hb c es).1 h'] at h; cases h
          | arr _ _ _ => exact ih
theorem dataE_frz (c : List A1) (es : List (Nat × Ent)) (p : List (Nat × Nat)) : ∀ l : List (Nat × ET), dataE (freezeL c es) p l = dataE es p l
  | [] => rfl
  | (n, .arr _ _) :: r => dataE_frz c es p r
  | (n, .box l) :: r => by
    have ih := dataE_frz c es p r
    have hb := @box_frz (srcOf p n)
    simp only [dataE]
    cases h : look (srcOf p n) es with
    | none =>
      cases h' : look (srcOf p n) (freezeL c es) with
      | none => exact ih
      | some f => cases f with
        | box m => rw [(hb c es).1 h'] at h; cases h
        | arr _ _ _ => exact ih
    | some f =>
      cases f with
      | box m => rw [(hb c es).2 h]; simp only []; rw [ih]
      | arr _ _ _ =>
        cases h' : look (srcOf p n) (freezeL c es) with
        | none => exact ih
        | some f => cases f with
          | box m => rw [(hb c es).1 h'] at h; cases h
          | arr _ _ _ => exact ih

/-- The state that a call's arguments make. -/
theorem Gam.ofArgs (g : Gam C s X β tm w) {avs : List AV} {args : List Value} (hlen : avs.length = args.length) (h : ∀ (j : Nat) av v, avs[j]? = some av → args[j]? = some v → AVOk (cx C s β w) av v) :
    Gam C ⟨avs, s.ents⟩ NoX β args.toArray w := by
  refine ⟨by simpa using hlen, fun t av _ hb => ?_, g.ents, g.uniq, g.fresh, g.kb, g.below, g.pin, g.np, g.bs⟩
  have hlt : t < args.length := by rw [← hlen]; exact (List.getElem?_eq_some_iff.1 hb).1
  have := h t av args[t] hb (List.getElem?_eq_getElem hlt)
  have he : args.toArray.getD t undef = args[t] := by simp [Array.getD, hlt]
  rw [he]; exact this

theorem sound_call (hC : ConsOk P cons) {f : FuncId} {args : Array Operand} {ts : Array TypeId} (ho : o.op = .call { callee := .value (.func f), args := args, argTypes := ts }) (g : Gam C s X β a.tmps w)
    (hx : ∀ z ∈ args.toList, AVOk (cx C s β w) (opnd s z) (a.eval z)) (hy : (evalOp lay cons o s).Yields (av, s')) (hK : Goes C X o a av s' K) : o.wp P a w K Q := by
  simp only [evalOp, ho] at hy
  split at hy
  · rename_i c hc
    obtain ⟨hM, hcall⟩ := hC f c hc
    unfold callOp at hy
    split at hy
    · rename_i xin hxin hb
      obtain ⟨hb1, hnames⟩ := Bool.and_eq_true_iff.1 hb
      obtain ⟨htup, hfine⟩ := Bool.and_eq_true_iff.1 hb1
      obtain ⟨y, hrun, hf⟩ := hy
      cases hf
      have hlen : (opsL s args.toList).length = (args.toList.map a.eval).length := by rw [length_opsL, List.length_map]
      unfold Oper.wp
      rw [run_call hcall ho]
      simp only [Oper.upon_enter]
      have hargs : (args.map a.eval) = (args.toList.map a.eval).toArray := Array.ext' (by rw [Array.toList_map])
      rw [hargs]
      have key : ∃ l : List A1, beforeCall s c.sig (opsL s args.toList) = freezeL l s.ents ∧
          FzOk c.sig.shares ⟨opsL s args.toList, beforeCall s c.sig (opsL s args.toList)⟩ (dataS c.sig.tin.slots (opsL s args.toList) ++ dataE (beforeCall s c.sig (opsL s args.toList)) (c.sig.tin.src ⟨opsL s args.toList, beforeCall s c.sig (opsL s args.toList)⟩) c.sig.tin.ents) := by
        unfold beforeCall
        cases hsh : c.sig.shares with
        | false => exact ⟨[], rfl, fz_false⟩
        | true =>
          refine ⟨_, rfl, fun _ b hbm m t xs hi hl => ?_⟩
          have hsrc : ∀ l, c.sig.tin.src ⟨opsL s args.toList, freezeL l s.ents⟩ = c.sig.tin.src ⟨opsL s args.toList, s.ents⟩ := fun l => by
            simp only [Tm.src]; rw [pairsE_frz]
          have hmem : b ∈ dataP c.sig.args (opsL s args.toList) ++ dataE s.ents (c.sig.tin.src ⟨opsL s args.toList, s.ents⟩) c.sig.ins := by
            simp only [] at hbm
            rw [hsrc, dataE_frz, show c.sig.tin.slots = c.sig.args.map some from rfl, dataS_some] at hbm
            exact hbm
          have := frz_mem _ s.ents hmem hi hl
          cases this
      obtain ⟨l, hbef, hfz⟩ := key
      generalize hes : beforeCall s c.sig (opsL s args.toList) = es at *
      subst hbef
      have g1 := g.freezeL l
      have ga : Gam C ⟨opsL s args.toList, freezeL l s.ents⟩ NoX β (args.toList.map a.eval).toArray w := g1.ofArgs hlen fun j av v h1 h2 => by
        have h3 := opsL_get hx j av v h1 h2
        cases av with
        | v gg ll => exact VOk.conv (fun b _ v hb => freezeL_a1 l s hb) h3
        | tup ps => obtain ⟨vs, e1, e2⟩ := h3; exact ⟨vs, e1, e2.conv fun p _ b _ v hb => freezeL_a1 l s hb⟩
      have hwk := Tm.read_ok hxin hfz
      refine (hM _ w _ _ xin y hrun (call_gam ga hwk)).mono ?_
      rintro e w' ⟨vs, β2, rfl, hkp, G2⟩
      obtain ⟨β3, G3, hav⟩ := call_out (s := ⟨s.env, freezeL l s.ents⟩) (d := o.dst.getD 0) g1 ga hwk hfine hnames (fun h => by
        unfold Sig.tupOk at htup
        rw [h, Bool.false_or] at htup
        exact Nat.eq_of_beq_eq_true htup) hkp G2
      exact hK _ w' β3 G3 hav
    · exact hy.elim
  · exact hy.elim
end
end Go.Di
/-
  Own work. Lists of operations, and whole texts.
-/
open Go.RowKit (Below)
namespace Go.Di

section
variable {P : Program} {C : Bs} {w w' : World} {s s' : St} {X : Nat → Prop} {β β' : Nat → Option Value} {a : Act} {o : Oper} {tm : Array Value}
  {K : Act → World → Prop} {Q : Exit → Act → World → Prop} {lay : List (TypeId × TI)} {cons : List (FuncId × Con)} {av : AV}

theorem evalOp_sound (hL : LayOk P lay) (hC : ConsOk P cons) (hwf : opWf o = true) (g : Gam C s X β a.tmps w) (hx : ∀ t, Operand.tmp t ∈ o.op.operands → ¬ X t) (hy : (evalOp lay cons o s).Yields (av, s')) (hK : Goes C X o a av s' K) : o.wp P a w K Q := by
  have op : ∀ x, x ∈ o.op.operands → AVOk (cx C s β w) (opnd s x) (a.eval x) := fun x hm => opnd_ok g fun t ht => hx t (by rw [← ht]; exact hm)
  cases ho : o.op with
  | move x => exact sound_move (.inl ho) g (op x (by rw [ho]; simp [Op.operands])) hy hK
  | assign x => exact sound_move (.inr ho) g (op x (by rw [ho]; simp [Op.operands])) hy hK
  | pick c x y => exact sound_pick ho g (op c (by rw [ho]; simp [Op.operands])) (op x (by rw [ho]; simp [Op.operands])) (op y (by rw [ho]; simp [Op.operands])) hy hK
  | alloc t => exact sound_alloc hL ho g hy hK
  | box t x => exact sound_box hL ho g (op x (by rw [ho]; simp [Op.operands])) hy hK
  | build t ps => exact sound_build hL ho g (fun j z hz => op z (by rw [ho]; simp [Op.operands]; exact ⟨j, by simpa using hz⟩)) hy hK
  | buildSlice t len ps =>
    have h1 : len ≤ 1000 ∧ (len = 0 → ps.toList = []) := by
      simp only [opWf, ho] at hwf
      cases len with
      | zero => exact ⟨by omega, fun _ => by simpa using hwf⟩
      | succ n => exact ⟨by simpa using hwf, fun h => by cases h⟩
    exact sound_buildSlice hL h1.1 ho g (fun j z hz => op z (by rw [ho]; simp [Op.operands]; exact ⟨j, by simpa using hz⟩)) h1.2 hy hK
  | load t x => exact sound_load hL ho g (op x (by rw [ho]; simp [Op.operands])) hy hK
  | store t x y => exact sound_store hL ho (by simp only [opWf, ho] at hwf; simpa using hwf) g (op x (by rw [ho]; simp [Op.operands])) (op y (by rw [ho]; simp [Op.operands])) hy hK
  | binOp b t x y u => exact sound_binOp hL ho g (op x (by rw [ho]; simp [Op.operands])) (op y (by rw [ho]; simp [Op.operands])) hy hK
  | unOp u t x => exact sound_unOp hL ho g (op x (by rw [ho]; simp [Op.operands])) hy hK
  | convert u t x => exact sound_convert hL ho g (op x (by rw [ho]; simp [Op.operands])) hy hK
  | makeSlice t x y => exact sound_make hL ho g (op x (by rw [ho]; simp [Op.operands])) (op y (by rw [ho]; simp [Op.operands])) hy hK
  | slice t x lo hi mx =>
    cases mx with
    | some m => simp only [evalOp, ho] at hy; exact hy.elim
    | none =>
      exact sound_slice hL ho g (op x (by rw [ho]; simp [Op.operands])) (fun z hz => op z (by rw [ho, hz]; simp [Op.operands])) (fun z hz => op z (by rw [ho, hz]; simp [Op.operands])) hy hK
  | fieldAddr t x f => exact sound_fieldAddr hL ho g (op x (by rw [ho]; simp [Op.operands])) hy hK
  | field t x f => exact sound_field hL ho g (op x (by rw [ho]; simp [Op.operands])) hy hK
  | indexAddr t x y => exact sound_indexAddr hL ho g (op x (by rw [ho]; simp [Op.operands])) (op y (by rw [ho]; simp [Op.operands])) hy hK
  | index t x y => exact sound_index hL ho g (op x (by rw [ho]; simp [Op.operands])) (op y (by rw [ho]; simp [Op.operands])) hy hK
  | extract x f => exact sound_extract ho g (op x (by rw [ho]; simp [Op.operands])) hy hK
  | call c =>
    obtain ⟨callee, args, ts⟩ := c
    cases callee with
    | invoke r m => simp only [evalOp, ho] at hy; exact hy.elim
    | value f =>
      cases f with
      | func f => exact sound_call hC ho g (fun z hz => op z (by rw [ho]; simp [Op.operands, Call.operands]; exact .inr (by simpa using hz))) hy hK
      | tmp t => simp only [evalOp, ho] at hy; exact hy.elim
      | const v => simp only [evalOp, ho] at hy; exact hy.elim
      | global v => simp only [evalOp, ho] at hy; exact hy.elim
    | builtin b =>
      obtain ⟨l⟩ := args
      obtain ⟨m⟩ := ts
      cases b <;> try (simp only [evalOp, ho] at hy; exact hy.elim)
      case len =>
        match l, m with
        | [x], [t] => exact sound_len hL ho g (op x (by rw [ho]; simp [Op.operands, Call.operands])) hy hK
        | [], _ => simp only [evalOp, ho] at hy; exact hy.elim
        | [_], [] => simp only [evalOp, ho] at hy; exact hy.elim
        | [_], _ :: _ :: _ => simp only [evalOp, ho] at hy; exact hy.elim
        | _ :: _ :: _, _ => simp only [evalOp, ho] at hy; exact hy.elim
      case append =>
        match l, m with
        | [x, y], [t, u] => exact sound_append hL ho g (op x (by rw [ho]; simp [Op.operands, Call.operands])) (op y (by rw [ho]; simp [Op.operands, Call.operands])) hy hK
        | [], _ => simp only [evalOp, ho] at hy; exact hy.elim
        | [_], _ => simp only [evalOp, ho] at hy; exact hy.elim
        | [_, _], [] => simp only [evalOp, ho] at hy; exact hy.elim
        | [_, _], [_] => simp only [evalOp, ho] at hy; exact hy.elim
        | [_, _], _ :: _ :: _ :: _ => simp only [evalOp, ho] at hy; exact hy.elim
        | _ :: _ :: _ :: _, _ => simp only [evalOp, ho] at hy; exact hy.elim
  | _ => simp only [evalOp, ho] at hy; exact hy.elim
end


theorem set_same {tm : Array Value} {t : Nat} {v : Value} (h : tm.getD t undef = v) : tm.setIfInBounds t v = tm := by
  apply Array.ext (by simp)
  intro j h1 h2
  rw [Array.getElem_setIfInBounds h2]
  split
  · rename_i e; subst e
    simp [Array.getD, h2] at h; exact h.symm
  · rfl

section
variable {P : Program} {C : Bs} {w w' : World} {s s' : St} {X : Nat → Prop} {β' : Nat → Option Value} {a : Act} {o : Oper} {tm : Array Value} {β : Type} {bt : Nat → Option Value}
  {K : Act → World → Prop} {Q : Exit → Act → World → Prop} {E : Env} {k : St → Option β} {r : β}

/-- What follows holds wherever the evaluator's continuation gives r. -/
def Kont (C : Bs) (k : St → Option β) (r : β) (K : Act → World → Prop) : Prop := ∀ s bt a w, Gam C s NoX bt a.tmps w → a.defers = [] → k s = some r → K a w

theorem step_sound (hL : LayOk P E.lay) (hC : ConsOk P E.cons) (g : Gam C s NoX bt a.tmps w) (hd : a.defers = []) (h : stepO E o s k = some r) (hK : Kont C k r K) : o.wp P a w K Q := by
  unfold stepO at h
  split at h
  · rename_i hwf
    obtain ⟨⟨av, s'⟩, hy, hk⟩ := bindK_some h
    refine evalOp_sound hL hC hwf g (fun t _ hx => hx) hy fun v w' bt' g' hav => ?_
    cases hdst : o.dst with
    | none => rw [hdst] at hk; exact hK _ bt' _ w' g' hd hk
    | some t => rw [hdst] at hk; exact hK _ bt' { a with tmps := a.tmps.setIfInBounds t v } w' (g'.setTrue hav) hd hk
  · cases h

theorem withBool_sound (g : Gam C s NoX bt a.tmps w) {t : Nat} {kb : Bool → St → Option β} (h : withBool s t kb = some r) :
    ∃ c s1, a.tmps[t]? = some (.bool c) ∧ Gam C s1 NoX bt a.tmps w ∧ kb c s1 = some r := by
  unfold withBool at h
  split at h
  · rename_i c hc
    have hv : AVOk (cx C s bt w) (.v false [.d (.bool c)]) (a.tmps.getD t undef) := by
      have := opnd_ok g (x := .tmp t) (fun _ _ hx => hx)
      simp only [opnd, Act.eval] at this
      rw [hc] at this; exact this
    have hb := av_bool hv
    have hlt : t < a.tmps.size := by
      rcases Nat.lt_or_ge t a.tmps.size with h' | h'
      · exact h'
      · simp [Array.getD, Nat.not_lt.2 h', undef] at hb
    have hget : a.tmps[t]? = some (.bool c) := by
      rw [Array.getElem?_eq_getElem hlt]; simp [Array.getD, hlt] at hb; rw [hb]
    have gset : ∀ b, c = b → Gam C (s.set t (.one (.d (.bool b)))) NoX bt a.tmps w := by
      intro b hcb
      have := g.setTrue (t := t) (a := .one (.d (.bool b))) (v := .bool b) av_mk_bool
      rwa [set_same (by rw [hb, hcb])] at this
    cases c with
    | true => exact ⟨true, _, hget, gset true rfl, h⟩
    | false => exact ⟨false, _, hget, gset false rfl, h⟩
  · cases h

theorem runOp_sound (hL : LayOk P E.lay) (hC : ConsOk P E.cons) {ops : Array Oper} (g : Gam C s NoX bt a.tmps w) (hd : a.defers = []) (h : runOp E ops.toList o s k = some r) (hK : Kont C k r K) :
    if Region.wanted o (yielded ops a.tmps) then o.wp P a w K Q else K (a.put o.dst undef) w := by
  unfold runOp at h
  split at h
  · rename_i hg
    rw [if_pos (by simp [Region.wanted, hg])]
    exact step_sound hL hC g hd h hK
  · rename_i j p hg
    split at h
    · rename_i o2 t _ _ _ _ _ hj
      have hj' := hj
      rw [Array.getElem?_toList] at hj'
      have skip : ∀ s1, Gam C s1 NoX bt a.tmps w → skipO o s1 k = some r → K (a.put o.dst undef) w := by
        intro s1 g1 hk
        unfold skipO at hk
        cases hdst : o.dst with
        | none => rw [hdst] at hk; exact hK _ bt _ w g1 hd hk
        | some u => rw [hdst] at hk; exact hK _ bt { a with tmps := a.tmps.setIfInBounds u undef } w (g1.setTrue av_un) hd hk
      split at h
      · rename_i hun
        have hv := opnd_ok g (x := .tmp t) (fun _ _ hx => hx)
        simp only [opnd, Act.eval] at hv
        rw [hun] at hv
        have hv := av_un_eq hv
        have hy : yielded ops a.tmps j = none := by
          unfold yielded
          rw [hj']
          simp only [Option.bind_some]
          cases hg' : a.tmps[t]? with
          | none => rfl
          | some v =>
            have : v = undef := by
              have hlt := (Array.getElem?_eq_some_iff.1 hg').1
              have := (Array.getElem?_eq_some_iff.1 hg').2
              simp [Array.getD, hlt] at hv
              rw [← this, hv]
            subst this; rfl
        have hw : Region.wanted o (yielded ops a.tmps) = false := by
          simp only [Region.wanted, hg, hy]; rfl
        rw [hw]
        exact skip s g h
      · obtain ⟨c, s1, hget, g1, hk⟩ := withBool_sound g h
        have hy : yielded ops a.tmps j = some c := by
          simp [yielded, hj', hget]
        have hw : Region.wanted o (yielded ops a.tmps) = (c == p) := by
          simp only [Region.wanted, hg, hy]
          cases c <;> cases p <;> rfl
        rw [hw]
        cases c <;> cases p
        · exact step_sound hL hC g1 hd hk hK
        · exact skip s1 g1 hk
        · exact skip s1 g1 hk
        · exact step_sound hL hC g1 hd hk hK
    · cases h

theorem runOps_sound (hL : LayOk P E.lay) (hC : ConsOk P E.cons) {ops : Array Oper} : ∀ (l : List Oper) {s : St} {bt : Nat → Option Value} {a : Act} {w : World}, Gam C s NoX bt a.tmps w → a.defers = [] → runOps E ops.toList l s k = some r →
    Kont C k r (fun a w => Q .normal a w) → wpList P ops Q l a w
  | [], s, bt, a, w, g, hd, h, hK => hK s bt a w g hd h
  | o :: l, s, bt, a, w, g, hd, h, hK => by
    refine wpList_step fun K hK' => ?_
    exact runOp_sound hL hC g hd h fun s' bt' a' w' g' hd' h' => hK' a' w' (runOps_sound hL hC l g' hd' h' hK)
end
end Go.Di
/-
  Own work. Operations that leave the abstract state as it is: what their value hangs on.
-/
open Go.RowKit (Below)
namespace Go.Di

/-- The same entry, up to whether it may be written. -/
def LkSame (n : Nat) (s s' : St) : Prop := (look n s'.ents).map frz = (look n s.ents).map frz

theorem LkSame.arr {n : Nat} {s s' : St} (h : LkSame n s s') {fr : Bool} {t : ST} {xs : List t.El} (hl : look n s.ents = some (.arr fr t xs)) : ∃ fr', look n s'.ents = some (.arr fr' t xs) := by
  unfold LkSame at h
  rw [hl] at h
  cases h' : look n s'.ents with
  | none => rw [h'] at h; cases h
  | some e =>
    rw [h'] at h
    cases e with
    | box l => simp [frz] at h
    | arr fr' u ys =>
      simp only [frz, Option.map_some, Option.some.injEq] at h
      cases h; exact ⟨_, rfl⟩
theorem LkSame.box {n : Nat} {s s' : St} (h : LkSame n s s') {l : List A1} (hl : look n s.ents = some (.box l)) : look n s'.ents = some (.box l) := by
  unfold LkSame at h
  rw [hl] at h
  cases h' : look n s'.ents with
  | none => rw [h'] at h; cases h
  | some e =>
    rw [h'] at h
    cases e with
    | box l' => simp only [frz, Option.map_some, Option.some.injEq] at h; rw [h]
    | arr fr' u ys => simp [frz] at h
theorem LkSame.some {n : Nat} {s s' : St} (h : LkSame n s s') {e : Ent} (hl : look n s.ents = some e) : ∃ e', look n s'.ents = some e' := by
  unfold LkSame at h
  rw [hl] at h
  cases h' : look n s'.ents with
  | none => rw [h'] at h; cases h
  | some e => exact ⟨e, rfl⟩

section
variable {s s' s1 : St} {av : AV} {lay : List (TypeId × TI)} {cons : List (FuncId × Con)} {o : Oper}

theorem len_local {i : TI} {a : A1} (h : ∀ n ∈ a.nms, LkSame n s s') (hy : (lenOp s i a).Yields (av, s1)) : s1 = s ∧ (lenOp s' i a).Yields (av, s') := by
  unfold lenOp at hy ⊢
  cases a with
  | d c =>
    cases c with
    | str a =>
      simp only at hy ⊢
      split at hy
      · cases hy; exact ⟨rfl, rfl⟩
      · exact hy.elim
    | sl t xs =>
      simp only at hy ⊢
      split at hy
      · exact hy.elim
      · cases hy; exact ⟨rfl, rfl⟩
    | int k n => simp only at hy; split at hy <;> exact hy.elim
    | bool b => simp only at hy; split at hy <;> exact hy.elim
  | mt =>
    simp only at hy ⊢
    split at hy
    · exact hy.elim
    · cases hy; exact ⟨rfl, rfl⟩
  | own n =>
    have hn := h n (by simp [A1.nms])
    simp only at hy ⊢
    split at hy
    · exact hy.elim
    · split at hy
      · rename_i hl
        obtain ⟨fr', hl'⟩ := hn.arr hl
        rw [hl']
        cases hy; exact ⟨rfl, rfl⟩
      · exact hy.elim
  | win n lo k =>
    have hn := h n (by simp [A1.nms])
    simp only at hy ⊢
    split at hy
    · exact hy.elim
    · split at hy
      · rename_i hl
        obtain ⟨fr', hl'⟩ := hn.arr hl
        rw [hl']
        cases hy; exact ⟨rfl, rfl⟩
      · exact hy.elim
  | bot => simp only at hy; split at hy <;> exact hy.elim
  | lp n k => simp only at hy; split at hy <;> exact hy.elim
  | sp c k => simp only at hy; split at hy <;> exact hy.elim
  | oe n j k => simp only at hy; split at hy <;> exact hy.elim

theorem index_local {e : ST} {a : A1} {i : Int} (h : ∀ n ∈ a.nms, LkSame n s s') (hy : (indexOp s e a i).Yields (av, s1)) : s1 = s ∧ (indexOp s' e a i).Yields (av, s') := by
  unfold indexOp at hy ⊢
  cases a with
  | d c =>
    cases c with
    | sl t xs =>
      simp only at hy ⊢
      split at hy
      · obtain ⟨r, h1, h2⟩ := hy; cases h2; exact ⟨rfl, r, h1, rfl⟩
      · exact hy.elim
    | str a => exact hy.elim
    | int k n => exact hy.elim
    | bool b => exact hy.elim
  | own n =>
    have hn := h n (by simp [A1.nms])
    simp only at hy ⊢
    split at hy
    · rename_i hl
      obtain ⟨fr', hl'⟩ := hn.arr hl
      rw [hl']
      simp only
      split at hy
      · obtain ⟨r, h1, h2⟩ := hy; cases h2; exact ⟨rfl, r, h1, rfl⟩
      · exact hy.elim
    · exact hy.elim
  | win n lo k =>
    have hn := h n (by simp [A1.nms])
    simp only at hy ⊢
    split at hy
    · rename_i hl
      obtain ⟨fr', hl'⟩ := hn.arr hl
      rw [hl']
      simp only
      split at hy
      · obtain ⟨r, h1, h2⟩ := hy; cases h2; exact ⟨rfl, r, h1, rfl⟩
      · exact hy.elim
    · exact hy.elim
  | bot => exact hy.elim
  | mt => exact hy.elim
  | lp n k => exact hy.elim
  | sp c k => exact hy.elim
  | oe n j k => exact hy.elim

theorem load_local {g : Bool} {k : Nat} {a : A1} (h : ∀ n ∈ a.nms, LkSame n s s') (hy : (loadOp s g k a).Yields (av, s1)) : s1 = s ∧ (loadOp s' g k a).Yields (av, s') := by
  unfold loadOp at hy ⊢
  cases a with
  | lp n off =>
    have hn := h n (by simp [A1.nms])
    simp only at hy ⊢
    split at hy
    · rename_i hl
      rw [hn.box hl]
      simp only
      split at hy
      · cases hy; exact ⟨rfl, rfl⟩
      · exact hy.elim
    · exact hy.elim
  | sp c off =>
    simp only at hy ⊢
    split at hy
    · cases hy; exact ⟨rfl, rfl⟩
    · exact hy.elim
  | oe n j off =>
    have hn := h n (by simp [A1.nms])
    simp only at hy ⊢
    split at hy
    · rename_i hl
      obtain ⟨fr', hl'⟩ := hn.arr hl
      rw [hl']
      simp only
      split at hy
      · obtain ⟨r, h1, h2⟩ := hy; cases h2; exact ⟨rfl, r, h1, rfl⟩
      · exact hy.elim
    · exact hy.elim
  | d c => exact hy.elim
  | own n => exact hy.elim
  | win n lo k => exact hy.elim
  | bot => exact hy.elim
  | mt => exact hy.elim

theorem slice_local {i : TI} {a : A1} {lo hi : Option AV} (h : ∀ n ∈ a.nms, LkSame n s s') (hy : (sliceOp s i a lo hi).Yields (av, s1)) : s1 = s ∧ (sliceOp s' i a lo hi).Yields (av, s') := by
  unfold sliceOp at hy ⊢
  cases a with
  | d c =>
    cases c with
    | sl t xs =>
      simp only at hy ⊢
      split at hy
      · obtain ⟨r, h1, h2⟩ := hy; cases h2; exact ⟨rfl, r, h1, rfl⟩
      · exact hy.elim
    | str a =>
      simp only at hy ⊢
      split at hy
      · obtain ⟨r, h1, h2⟩ := hy; cases h2; exact ⟨rfl, r, h1, rfl⟩
      · exact hy.elim
    | int k n => exact hy.elim
    | bool b => exact hy.elim
  | own n =>
    have hn := h n (by simp [A1.nms])
    simp only at hy ⊢
    split at hy
    · rename_i hl
      obtain ⟨fr', hl'⟩ := hn.arr hl
      rw [hl']
      simp only
      split at hy
      · obtain ⟨r, h1, h2⟩ := hy; cases h2; exact ⟨rfl, r, h1, rfl⟩
      · exact hy.elim
    · exact hy.elim
  | lp n off => exact hy.elim
  | sp c off => exact hy.elim
  | oe n j off => exact hy.elim
  | win n lo k => exact hy.elim
  | bot => exact hy.elim
  | mt => exact hy.elim

theorem parts_local {fs : List (Nat × Nat × Bool)} : ∀ {ps : List (Nat × Operand)} {l : List A1}, (∀ p ∈ ps, opnd s' p.2 = opnd s p.2) → partsOf fs s' ps l = partsOf fs s ps l
  | [], l, _ => rfl
  | (i, x) :: r, l, h => by
    have hx := h _ (List.mem_cons_self ..)
    simp only at hx
    unfold partsOf
    rw [hx]
    split
    · split
      · split
        · split
          · exact parts_local fun p hp => h p (List.mem_cons_of_mem _ hp)
          · rfl
        · rfl
      · rfl
    · rfl

theorem addr_nms {a : AV} {b : A1} (h : addrOf a = some b) : b.nms ⊆ a.nms := by
  unfold addrOf at h
  split at h
  · cases h; simp [AV.nms, nmsL]
  · cases h

theorem int_local {k : IntKind} {a b : Int} {op : BinOp} (hy : (intOp s k a b op).Yields (av, s1)) : s1 = s ∧ (intOp s' k a b op).Yields (av, s') := by
  cases op <;> simp only [intOp] at hy ⊢ <;> first | (exact hy.elim) | (cases hy; exact ⟨rfl, rfl⟩) | (obtain ⟨r, h1, h2⟩ := hy; cases h2; exact ⟨rfl, r, h1, rfl⟩)

theorem bin_local {g : Bool} {op : BinOp} {x y : AV} (hy : (binOp s g op x y).Yields (av, s1)) : s1 = s ∧ (binOp s' g op x y).Yields (av, s') := by
  unfold binOp at hy ⊢
  split at hy
  · split at hy
    · exact int_local hy
    · exact hy.elim
  · split at hy
    · split at hy
      · cases hy; exact ⟨rfl, rfl⟩
      · cases hy; exact ⟨rfl, rfl⟩
      · exact hy.elim
    · exact hy.elim
  · split at hy
    · cases hy; exact ⟨rfl, rfl⟩
    · cases hy; exact ⟨rfl, rfl⟩
    · obtain ⟨r, h1, h2⟩ := hy; cases h2; exact ⟨rfl, r, h1, rfl⟩
    · exact hy.elim
  · exact hy.elim

/-- What a pure operation gives hangs on its operands, and on the entries that they name. -/
theorem pure_local (hp : pureOp o = true) (hop : ∀ x ∈ o.op.operands, opnd s' x = opnd s x) (hlk : ∀ x ∈ o.op.operands, ∀ n ∈ (opnd s x).nms, LkSame n s s')
    (hy : (evalOp lay cons o s).Yields (av, s1)) : s1 = s ∧ (evalOp lay cons o s').Yields (av, s') := by
  unfold pureOp at hp
  unfold evalOp at hy ⊢
  cases ho : o.op with
  | move x =>
    simp only [ho, Op.operands] at hop hy ⊢
    rw [hop x (by simp)]; cases hy; exact ⟨rfl, rfl⟩
  | assign x =>
    simp only [ho, Op.operands] at hop hy ⊢
    rw [hop x (by simp)]; cases hy; exact ⟨rfl, rfl⟩
  | pick c x y =>
    simp only [ho, Op.operands] at hop hy ⊢
    rw [hop c (by simp), hop x (by simp), hop y (by simp)]
    split at hy
    · cases hy; exact ⟨rfl, rfl⟩
    · split at hy <;> (cases hy; exact ⟨rfl, rfl⟩)
    · exact hy.elim
  | build t ps =>
    simp only [ho, Op.operands] at hop hy ⊢
    split at hy
    · rename_i i hi
      rw [parts_local (s := s) (s' := s') fun p hp => hop p.2 (by simp; exact ⟨p.1, by simpa using hp⟩)]
      split at hy
      · cases hy; exact ⟨rfl, rfl⟩
      · exact hy.elim
    · exact hy.elim
  | load t x =>
    simp only [ho, Op.operands] at hop hlk hy ⊢
    rw [hop x (by simp)]
    split at hy
    · rename_i hi ha
      exact load_local (fun n hn => hlk x (by simp) n (addr_nms ha hn)) hy
    · exact hy.elim
  | binOp b t x y u =>
    simp only [ho, Op.operands] at hop hy ⊢
    rw [hop x (by simp), hop y (by simp)]
    exact bin_local hy
  | unOp u t x =>
    simp only [ho, Op.operands] at hop hy ⊢
    rw [hop x (by simp)]
    split at hy
    · cases hy; exact ⟨rfl, rfl⟩
    · cases hy; exact ⟨rfl, rfl⟩
    · exact hy.elim
  | convert u t x =>
    simp only [ho, Op.operands] at hop hy ⊢
    rw [hop x (by simp)]
    split at hy
    · cases hy; exact ⟨rfl, rfl⟩
    · exact hy.elim
  | slice t x lo hi mx =>
    cases mx with
    | some m => simp [ho] at hp
    | none =>
      simp only [ho, Op.operands] at hop hlk hy ⊢
      have hlo : lo.map (opnd s') = lo.map (opnd s) := by
        cases lo with
        | none => rfl
        | some z => simp only [Option.map_some]; rw [hop z (by simp)]
      have hhi : hi.map (opnd s') = hi.map (opnd s) := by
        cases hi with
        | none => rfl
        | some z => simp only [Option.map_some]; rw [hop z (by simp)]
      rw [hop x (by simp), hlo, hhi]
      split at hy
      · rename_i ha
        exact slice_local (fun n hn => hlk x (by simp) n (addr_nms ha hn)) hy
      · exact hy.elim
  | fieldAddr t x f =>
    simp only [ho, Op.operands] at hop hlk hy ⊢
    rw [hop x (by simp)]
    split at hy
    · rename_i hi ha
      split at hy
      · rename_i hst hf
        split at hy
        · rename_i hl
          obtain ⟨e', he'⟩ := (hlk x (by simp) _ (addr_nms ha (by simp [A1.nms]))).some hl
          rw [he']; cases hy; exact ⟨rfl, rfl⟩
        · exact hy.elim
      · cases hy; exact ⟨rfl, rfl⟩
      · rename_i hst hf
        split at hy
        · rename_i hl
          obtain ⟨fr', he'⟩ := (hlk x (by simp) _ (addr_nms ha (by simp [A1.nms]))).arr hl
          rw [he']; cases hy; exact ⟨rfl, rfl⟩
        · exact hy.elim
      · exact hy.elim
    · exact hy.elim
  | field t x f =>
    simp only [ho, Op.operands] at hop hy ⊢
    rw [hop x (by simp)]
    split at hy
    · split at hy
      · split at hy
        · cases hy; exact ⟨rfl, rfl⟩
        · exact hy.elim
      · exact hy.elim
    · exact hy.elim
  | indexAddr t x y =>
    simp only [ho, Op.operands] at hop hlk hy ⊢
    rw [hop x (by simp), hop y (by simp)]
    split at hy
    · rename_i ha hj
      exact index_local (fun n hn => hlk x (by simp) n (addr_nms ha hn)) hy
    · exact hy.elim
  | index t x y =>
    simp only [ho, Op.operands] at hop hy ⊢
    rw [hop x (by simp), hop y (by simp)]
    split at hy
    · obtain ⟨r, h1, h2⟩ := hy; cases h2; exact ⟨rfl, r, h1, rfl⟩
    · exact hy.elim
  | extract x f =>
    simp only [ho, Op.operands] at hop hy ⊢
    rw [hop x (by simp)]
    split at hy
    · split at hy
      · cases hy; exact ⟨rfl, rfl⟩
      · exact hy.elim
    · exact hy.elim
  | buildSlice t len ps =>
    cases len with
    | succ n => simp [ho] at hp
    | zero =>
      simp only [ho] at hy ⊢
      split at hy
      · cases hy; exact ⟨rfl, rfl⟩
      · exact hy.elim
  | call c =>
    obtain ⟨callee, args, ts⟩ := c
    cases callee with
    | invoke r m => simp [ho] at hp
    | value f => simp [ho] at hp
    | builtin b =>
      cases b <;> try (simp [ho] at hp; done)
      case len =>
        simp only [ho, Op.operands, Call.operands] at hop hlk hy ⊢
        split at hy
        · rename_i x t hx ht
          have hm : x ∈ args.toList := by rw [hx]; simp
          rw [hop x (by simpa using hm)]
          split at hy
          · rename_i hi ha
            exact len_local (fun n hn => hlk x (by simpa using hm) n (addr_nms ha hn)) hy
          · exact hy.elim
        · exact hy.elim
  | _ => simp [ho] at hp
end
end Go.Di
/-
  Own work. Operations that change the abstract state: what they leave alone.
-/
open Go.RowKit (Below)
namespace Go.Di

/-- What is not in T stays as it is. -/
structure Keep (T : Nat → Prop) (s s' : St) : Prop where
  lk : ∀ n, ¬ T n → (∀ l, look n s.ents = some (.box l) → ∀ m ∈ nmsL l, ¬ T m) → LkSame n s s'
  env : ∀ (t : Nat) a, s.env[t]? = some a → (∀ m ∈ a.nms, ¬ T m) → s'.env[t]? = some a
  len : s'.env.length = s.env.length

theorem frz_frz (e : Ent) : frz (frz e) = frz e := by cases e <;> rfl

theorem Keep.refl (T : Nat → Prop) (s : St) : Keep T s s := ⟨fun _ _ _ => rfl, fun _ _ h _ => h, rfl⟩

theorem Keep.trans {T : Nat → Prop} {s s1 s2 : St} (h : Keep T s s1) (k : Keep T s1 s2) : Keep T s s2 where
  lk n hn hb := by
    have h1 := h.lk n hn hb
    have h2 := k.lk n hn fun l hl => by
      cases h' : look n s.ents with
      | none => unfold LkSame at h1; rw [h', hl] at h1; cases h1
      | some e =>
        cases e with
        | box l' => rw [h1.box h'] at hl; cases hl; exact hb l h'
        | arr fr t xs => obtain ⟨fr', h2⟩ := h1.arr h'; rw [h2] at hl; cases hl
    unfold LkSame at *
    rw [h2, h1]
  env t a ha hm := k.env t a (h.env t a ha hm) hm
  len := k.len.trans h.len

theorem killL_id {m : Nat} : ∀ {l : List A1}, m ∉ nmsL l → killL m l = l
  | [], _ => rfl
  | a :: r, h => by
    simp only [nmsL, List.mem_append, not_or] at h
    unfold killL
    rw [killL_id h.2]
    congr 1
    cases a <;> simp only [A1.kill] <;> simp only [A1.nms, List.mem_singleton] at h <;> (split <;> first | rfl | (rename_i hb; simp at hb; exact absurd hb h.1))
theorem killP_id {m : Nat} : ∀ {l : List (Bool × List A1)}, m ∉ nmsP l → killP m l = l
  | [], _ => rfl
  | (b, a) :: r, h => by
    simp only [nmsP, List.mem_append, not_or] at h
    unfold killP
    rw [killP_id h.2, killL_id h.1]
theorem kill_id {m : Nat} {a : AV} (h : m ∉ a.nms) : a.kill m = a := by
  cases a with
  | v b l => simp only [AV.kill]; rw [killL_id h]
  | tup ps => simp only [AV.kill]; rw [killP_id h]

theorem Keep.free {T : Nat → Prop} {s : St} {m : Nat} (hm : T m) : Keep T s (s.free m) where
  lk n hn hb := by
    have hne : n ≠ m := fun e => hn (e ▸ hm)
    unfold LkSame
    rw [look_free, if_neg hne]
    cases h : look n s.ents with
    | none => rfl
    | some e =>
      cases e with
      | box l => simp only [Option.map_some, Ent.kill]; rw [killL_id fun h' => hb l h m h' hm]
      | arr fr t xs => rfl
  env t a ha hms := by
    have hk : a.kill m = a := kill_id fun h' => hms m h' hm
    simp only [St.free]
    rw [get_killE, ha, Option.map_some, hk]
  len := length_killE m s.env

theorem Keep.freeL {T : Nat → Prop} : ∀ {l : List (Nat × Ent)} {s : St}, (∀ m ∈ names l, T m) → Keep T s (St.freeL l s)
  | [], s, _ => Keep.refl T s
  | (n, e) :: r, s, h => (Keep.free (h n (by simp [names]))).trans (Keep.freeL fun m hm => h m (by simp only [names, List.map_cons, List.mem_cons] at hm ⊢; exact .inr hm))

theorem Keep.freeN {T : Nat → Prop} : ∀ {l : List Nat} {s : St}, (∀ m ∈ l, T m) → Keep T s (St.freeN l s)
  | [], s, _ => Keep.refl T s
  | n :: _r, _s, h => (Keep.free (h n (List.mem_cons_self ..))).trans (Keep.freeN fun m hm => h m (List.mem_cons_of_mem _ hm))

theorem Keep.put {T : Nat → Prop} {s : St} {n : Nat} {e : Ent} (hn : T n) : Keep T s ⟨s.env, put n e s.ents⟩ where
  lk m hm _ := by
    have hne : m ≠ n := fun e => hm (e ▸ hn)
    unfold LkSame
    rw [look_put, if_neg hne]
  env t a ha _ := ha
  len := rfl

theorem Keep.putL {T : Nat → Prop} {s : St} {l : List (Nat × Ent)} (h : ∀ m ∈ names l, T m) : Keep T s ⟨s.env, putL l s.ents⟩ where
  lk m hm _ := by
    unfold LkSame
    rw [look_putL_other m l s.ents fun h' => hm (h m h')]
  env t a ha _ := ha
  len := rfl

theorem Keep.pushL {T : Nat → Prop} {s : St} {l : List (Nat × Ent)} (h : ∀ m ∈ names l, T m) : Keep T s (St.pushL l s) :=
  (Keep.freeL h).trans (Keep.putL (s := St.freeL l s) h)

theorem Keep.push {T : Nat → Prop} {s : St} {n : Nat} {e : Ent} (h : T n) : Keep T s (St.push n e s) :=
  Keep.pushL fun m hm => by simp [names] at hm; exact hm ▸ h

theorem Keep.freeze1 {T : Nat → Prop} {s : St} (n : Nat) : Keep T s ⟨s.env, Go.Di.freeze1 n s.ents⟩ where
  lk m _ _ := by
    unfold LkSame
    rw [look_freeze1]
    split
    · cases look m s.ents with
      | none => rfl
      | some e => simp only [Option.map_some, frz_frz]
    · rfl
  env t a ha _ := ha
  len := rfl

theorem Keep.freezeL {T : Nat → Prop} : ∀ {l : List A1} {s : St}, Keep T s ⟨s.env, Go.Di.freezeL l s.ents⟩
  | [], s => Keep.refl T s
  | a :: r, s => by
    have h1 : Keep T s ⟨s.env, a.freeze s.ents⟩ := by
      cases a <;> first | exact Keep.refl T s | exact Keep.freeze1 _
    exact h1.trans (Keep.freezeL (s := ⟨s.env, a.freeze s.ents⟩))

section
variable {s s' s1 : St} {av : AV} {lay : List (TypeId × TI)} {cons : List (FuncId × Con)} {o : Oper}

theorem nm_div (d : Nat) : Nat.beq (nm d / 64) d = true := by
  have : nm d / 64 = d := by unfold nm; omega
  rw [this]; simp

theorem part_keeps {T : Nat → Prop} {n j off : Nat} {c : List A1} (hy : (partStore s n j off c).Yields (av, s')) (hT : T n) : Keep T s s' := by
  unfold partStore at hy
  split at hy
  · obtain ⟨e, _, h2⟩ := hy
    cases h2
    exact Keep.freezeL.trans (Keep.put (s := ⟨s.env, freezeL c s.ents⟩) hT)
  · exact hy.elim

/-- What an operation does not touch it leaves alone. -/
theorem eff_keeps (hy : (evalOp lay cons o s).Yields (av, s')) : Keep (fun n => touch cons s o n = true) s s' := by
  have hy0 := hy
  unfold evalOp at hy
  cases ho : o.op with
  | alloc t =>
    simp only [ho] at hy
    split at hy
    · cases hy; exact Keep.push (by simp only [touch, ho]; exact nm_div _)
    · exact hy.elim
  | box t x =>
    simp only [ho] at hy
    split at hy
    · split at hy
      · cases hy; exact Keep.push (by simp only [touch, ho]; exact nm_div _)
      · exact hy.elim
    · exact hy.elim
  | makeSlice t x y =>
    simp only [ho] at hy
    split at hy
    · split at hy
      · obtain ⟨r, h1, h2⟩ := hy; cases h2; exact Keep.push (by simp only [touch, ho]; exact nm_div _)
      · exact hy.elim
    · exact hy.elim
  | buildSlice t len ps =>
    simp only [ho] at hy
    split at hy
    · split at hy
      · cases hy; exact Keep.refl _ _
      · split at hy
        · rename_i es cs hes
          split at hy
          · cases hy
            exact Keep.freezeL.trans (Keep.push (s := ⟨s.env, freezeL cs s.ents⟩) (by simp only [touch, ho]; exact nm_div _))
          · exact hy.elim
        · exact hy.elim
    · exact hy.elim
  | store t x y =>
    simp only [ho] at hy
    split at hy
    · rename_i i a c hi ha hc
      split at hy
      · unfold storeOp at hy
        split at hy
        · rename_i n off
          split at hy
          · split at hy
            · cases hy; exact Keep.put (by simp [touch, ho, ha])
            · exact hy.elim
          · exact hy.elim
        · rename_i n j
          split at hy
          · split at hy
            · split at hy
              · cases hy
                exact Keep.freezeL.trans (Keep.put (s := ⟨s.env, freezeL c s.ents⟩) (by simp [touch, ho, ha]))
              · exact hy.elim
            · exact part_keeps hy (by simp [touch, ho, ha])
          · exact hy.elim
        · exact part_keeps hy (by simp [touch, ho, ha])
        · exact hy.elim
      · exact hy.elim
    · exact hy.elim
  | call c =>
    obtain ⟨callee, args, ts⟩ := c
    cases callee with
    | invoke r m => simp only [ho] at hy; exact hy.elim
    | value f =>
      cases f with
      | func f =>
        simp only [ho] at hy
        split at hy
        · rename_i c hc
          unfold callOp at hy
          split at hy
          · rename_i x hx hb
            obtain ⟨hb1, _⟩ := Bool.and_eq_true_iff.1 hb
            obtain ⟨_, hfine⟩ := Bool.and_eq_true_iff.1 hb1
            obtain ⟨y, h1, h2⟩ := hy
            cases h2
            obtain ⟨nd, hf2⟩ := and3 hfine
            obtain ⟨hpinIn, _⟩ := and3 hf2
            generalize hsrc : c.sig.tin.src ⟨opsL s args.toList, beforeCall s c.sig (opsL s args.toList)⟩ = src
            have hdst : ∀ q, q < 63 → touch cons s o (nm (o.dst.getD 0) + q) = true := fun q hq => by
              simp only [touch, ho, hc]
              have : (nm (o.dst.getD 0) + q) / 64 = o.dst.getD 0 := by unfold nm; omega
              rw [this]; simp
            have hin : ∀ q, q ∈ namesT c.sig.ins → touch cons s o (srcOf src q) = true := fun q hq => by
              simp only [touch, ho, hc, hsrc]
              rw [memN_iff.2 (List.mem_map.2 ⟨q, hq, rfl⟩)]; simp
            have hname : ∀ q t, (q, t) ∈ c.sig.outs → touch cons s o (portName src (o.dst.getD 0) q) = true := fun q t hq => by
              rcases pinIn_ok hpinIn hq with ⟨h63, hh⟩ | ⟨h63, hlt, _⟩
              · have hq' : q ∈ namesT c.sig.ins := by
                  rcases hh with ⟨l1, l2, hh, _⟩ | ⟨t', hh, _⟩ <;> exact mem_namesT (findE_mem hh)
                have : portName src (o.dst.getD 0) q = srcOf src q := by
                  unfold portName; rw [h63]
                rw [this]; exact hin q hq'
              · have : portName src (o.dst.getD 0) q = nm (o.dst.getD 0) + q := by
                  unfold portName
                  have hb : Nat.beq (q % 64) 63 = false := by rw [Bool.eq_false_iff]; intro hb; exact h63 (Nat.eq_of_beq_eq_true hb)
                  rw [hb]
                rw [this]; exact hdst q hlt
            have h1 : Keep (fun n => touch cons s o n = true) s ⟨s.env, beforeCall s c.sig (opsL s args.toList)⟩ := by
              unfold beforeCall
              split
              · exact Keep.freezeL
              · exact Keep.refl _ _
            refine h1.trans ?_
            refine (Keep.freeN fun m hm => ?_).trans (Keep.putL fun m hm => ?_)
            · rcases List.mem_append.1 hm with hm | hm
              · obtain ⟨p, t, hp, rfl, _⟩ := mem_goneOf hm
                exact hin p (mem_namesT hp)
              · obtain ⟨q, t, hq, _, rfl⟩ := mem_freshOf hm
                exact hname q t hq
            · rw [names_renE] at hm
              obtain ⟨q, hq, rfl⟩ := List.mem_map.1 hm
              rw [show (c.sig.tout.enc (c.out y)).ents = encE c.sig.outs (Tys.snd (ksS (c.sig.res.map some)) (ksE c.sig.outs) (c.out y)) from rfl, names_encE] at hq
              obtain ⟨t, ht⟩ := namesT_mem hq
              exact hname q t ht
          · exact hy.elim
        · exact hy.elim
      | tmp t => simp only [ho] at hy; exact hy.elim
      | const v => simp only [ho] at hy; exact hy.elim
      | global v => simp only [ho] at hy; exact hy.elim
    | builtin b =>
      obtain ⟨l⟩ := args
      cases b <;> try (simp only [ho] at hy; exact hy.elim)
      case len =>
        simp only [ho] at hy
        split at hy
        · split at hy
          · have : s' = s := by
              have := len_local (s' := s) (fun _ _ => rfl) hy
              exact this.1
            subst this; exact Keep.refl _ _
          · exact hy.elim
        · exact hy.elim
      case append =>
        have hbody : ∀ x y (t : TypeId), l = [x, y] → ∀ a b e, addrOf (opnd s x) = some a → (appendOp s (o.dst.getD 0) e a b).Yields (av, s') → Keep (fun n => touch cons s o n = true) s s' := by
          intro x y t hl a b e ha hy
          have hd : touch cons s o (nm (o.dst.getD 0)) = true := by
            simp only [touch, ho, hl]
            split
            · simp [nm_div]
            · exact nm_div _
          unfold appendOp at hy
          split at hy
          · split at hy
            · obtain ⟨r, h1, h2⟩ := hy; cases h2
              exact Keep.push hd
            · rename_i n
              split at hy
              · split at hy
                · obtain ⟨r, h1, h2⟩ := hy; cases h2
                  have hn : touch cons s o n = true := by
                    simp only [touch, ho, hl, ha]; simp
                  exact (Keep.free hn).trans (Keep.push (s := s.free n) hd)
                · exact hy.elim
              · exact hy.elim
            · exact hy.elim
          · exact hy.elim
        obtain ⟨m⟩ := ts
        match l, m with
        | [x, y], [t, u] =>
          simp only [ho] at hy
          split at hy
          · rename_i ha hb
            exact hbody x y t rfl _ _ _ ha hy
          · exact hy.elim
        | [], _ => simp only [ho] at hy; exact hy.elim
        | [_], _ => simp only [ho] at hy; exact hy.elim
        | [_, _], [] => simp only [ho] at hy; exact hy.elim
        | [_, _], [_] => simp only [ho] at hy; exact hy.elim
        | [_, _], _ :: _ :: _ :: _ => simp only [ho] at hy; exact hy.elim
        | _ :: _ :: _ :: _, _ => simp only [ho] at hy; exact hy.elim
  | move x => simp only [ho] at hy; cases hy; exact Keep.refl _ _
  | assign x => simp only [ho] at hy; cases hy; exact Keep.refl _ _
  | _ =>
    cases hp : pureOp o with
    | true =>
      have := (pure_local (s' := s) (lay := lay) (cons := cons) (o := o) hp (fun _ _ => rfl) (fun _ _ _ _ => rfl) hy0).1
      subst this; exact Keep.refl _ _
    | false =>
      first
        | (simp [pureOp, ho] at hp; done)
        | (simp only [ho] at hy; exact hy.elim)
        | (simp only [ho] at hy; split at hy <;> first | exact hy.elim | (simp_all [pureOp]; done))
end
end Go.Di
/-
  Own work. Regions that draw their order: the run in one order, and what is checked of that order.
-/
open Go.RowKit (Below)
namespace Go.Di


/-! ### The order -/
def bindsOn (o : Oper) (j : Nat) : Bool := o.after.any fun e => Region.binds .any e && Nat.beq e.on j

/-- Does the slot d stand apart from this operation? -/
def apartOf (ops : Array Oper) (d : Nat) (o : Oper) : Bool := !memN d (o.looksAt ops) && (match o.dst with | some u => !Nat.beq u d | none => true)

def earlyOk (ops : Array Oper) (i : Nat) (o : Oper) : Bool :=
  match o.dst with
  | none => true
  | some d => !memN d (o.looksAt ops) && (List.range ops.size).all fun j => Nat.beq j i || match ops[j]? with
    | some oj => (match oj.dst with | some u => !Nat.beq u d | none => true) && (!memN d (oj.looksAt ops) || bindsOn oj i)
    | none => true

def ancOk (ops : Array Oper) (o : Oper) : List Nat → List Nat → Bool
  | [], _ => true
  | a :: A, known => (bindsOn o a || known.any fun m => match ops[m]? with
      | some om => bindsOn om a
      | none => false) && ancOk ops o A (a :: known)

def predsIn (o : Oper) (pre : List Nat) : Bool := o.after.all fun e => !Region.binds .any e || memN e.on pre

/-- A new variable, asked for by nobody ahead of it: the machine may lay it at any time. -/
def flo (o : Oper) : Bool :=
  match o.op, o.guard, o.dst with
  | .alloc _, none, some _ => true
  | _, _, _ => false

def planOk (ops : Array Oper) : List Nat → List (Nat × List Nat) → Bool
  | _, [] => true
  | pre, (i, A) :: rest => match ops[i]? with
    | none => false
    | some o => predsIn o pre && (!memN i pre) && (match early o with
        | true => earlyOk ops i o
        | false => (rest.all fun p => match ops[p.1]? with
            | some o' => flo o' || o'.after.any fun e => Region.binds .any e && (Nat.beq e.on i || rest.any fun q => Nat.beq e.on q.1 && (match ops[q.1]? with | some oq => !flo oq | none => false))
            | none => false) && (!flo o || earlyOk ops i o) && ancOk ops o A [] && pre.all fun q => memN q A || match ops[q]? with
              | some oq => !early oq || (match o.dst with | some d => apartOf ops d oq | none => true)
              | none => true) && planOk ops (i :: pre) rest

def fullPlan (ops : Array Oper) (plan : List (Nat × List Nat)) : Bool :=
  planOk ops [] plan && (Nat.ble plan.length ops.size && (List.range ops.size).all fun j => plan.any fun p => Nat.beq j p.1)

/-! ### One operation on abstract states -/
def wantedA (ops : List Oper) (o : Oper) (s : St) : Option Bool :=
  match o.guard with
  | none => some true
  | some (j, p) => match ops[j]? with
    | some { dst := some t, .. } => match s.get t with
      | .v false [.d (.bool c)] => some (c == p)
      | .tup [] => some false
      | _ => none
    | _ => none
def setD (d : Option Nat) (a : AV) (s : St) : St :=
  match d with
  | some t => s.set t a
  | none => s

def Stp (E : Env) (ops : List Oper) (o : Oper) (s s' : St) : Prop :=
  (wantedA ops o s = some true ∧ opWf o = true ∧ ∃ av s1, (evalOp E.lay E.cons o s).Yields (av, s1) ∧ s' = setD o.dst av s1) ∨
  (wantedA ops o s = some false ∧ s' = setD o.dst (.tup []) s)

theorem set_get {s : St} {t : Nat} {a : AV} (h : s.env[t]? = some a) : s.set t a = s := by
  cases s with
  | mk env ents =>
    simp only [St.set, St.mk.injEq, and_true]
    apply List.ext_getElem?
    intro j
    rw [List.getElem?_set]
    split
    · rename_i e; subst e
      split
      · exact h.symm
      · rename_i hn
        simp only at h
        rw [List.getElem?_eq_none (by omega)] at h; cases h
    · rfl

theorem get_some {s : St} {t : Nat} {a : AV} (h : s.get t = a) (hb : a ≠ AV.bot) : s.env[t]? = some a := by
  unfold St.get at h
  rw [List.getD_eq_getElem?_getD] at h
  cases h' : s.env[t]? with
  | none => rw [h'] at h; exact absurd h.symm hb
  | some b => rw [h'] at h; simpa using h

theorem runOp_stp {β : Type} {E : Env} {ops : List Oper} {o : Oper} {s : St} {k : St → Option β} {r : β} (h : runOp E ops o s k = some r) : ∃ s', Stp E ops o s s' ∧ k s' = some r := by
  have step : ∀ {s : St}, stepO E o s k = some r → wantedA ops o s = some true → ∃ s', Stp E ops o s s' ∧ k s' = some r := by
    intro s h hw
    unfold stepO at h
    split at h
    · rename_i hwf
      obtain ⟨⟨av, s1⟩, hy, hk⟩ := bindK_some h
      refine ⟨setD o.dst av s1, .inl ⟨hw, hwf, av, s1, hy, rfl⟩, ?_⟩
      cases hd : o.dst with
      | none => rw [hd] at hk; exact hk
      | some t => rw [hd] at hk; exact hk
    · cases h
  unfold runOp at h
  split at h
  · rename_i hg
    exact step h (by simp [wantedA, hg])
  · rename_i j p hg
    split at h
    · rename_i o2 t _ _ _ _ _ hj
      have skip : wantedA ops o s = some false → skipO o s k = some r → ∃ s', Stp E ops o s s' ∧ k s' = some r := by
        intro hw hk
        unfold skipO at hk
        refine ⟨setD o.dst (.tup []) s, .inr ⟨hw, rfl⟩, ?_⟩
        cases hd : o.dst with
        | none => rw [hd] at hk; exact hk
        | some t => rw [hd] at hk; exact hk
      split at h
      · rename_i hun
        exact skip (by simp only [wantedA, hg, hj, hun]) h
      · unfold withBool at h
        split at h
        · rename_i c hc
          have hs : ∀ b, c = b → s.set t (.one (.d (.bool b))) = s := fun b hb => set_get (by rw [← hb]; exact get_some hc (by intro e; cases e))
          have hw : wantedA ops o s = some (c == p) := by
            simp only [wantedA, hg, hj, hc]
          cases c <;> simp only [cond_true, cond_false] at h <;> rw [hs _ rfl] at h <;> cases p
          · exact step h hw
          · exact skip hw h
          · exact skip hw h
          · exact step h hw
        · cases h
    · cases h

/-! ### What an early operation's value hangs on -/
structure Stable (E : Env) (ops : List Oper) (o : Oper) (s : St) (N : List Nat) : Prop where
  wf : opWf o = true
  known : ∃ c, wantedA ops o s = some c
  yes : wantedA ops o s = some true → ∃ av, (evalOp E.lay E.cons o s).Yields (av, s) ∧ setD o.dst av s = s ∧ ∀ d, o.dst = some d → d < s.env.length → s.env[d]? = some av
  no : wantedA ops o s = some false → setD o.dst (.tup []) s = s
  opn : ∀ x ∈ o.op.operands, ∀ n ∈ (opnd s x).nms, n ∈ N
  box : ∀ x ∈ o.op.operands, ∀ n ∈ (opnd s x).nms, ∀ l, look n s.ents = some (.box l) → ∀ m ∈ nmsL l, m ∈ N
  res : ∀ d, o.dst = some d → ∀ n ∈ (s.get d).nms, n ∈ N

theorem mem_boxNms {s : St} {n m : Nat} {l : List A1} (hl : look n s.ents = some (.box l)) (hm : m ∈ nmsL l) : ∀ {r : List Nat}, n ∈ r → m ∈ boxNms s r
  | k :: r, h => by
    rcases List.mem_cons.1 h with rfl | h
    · simp only [boxNms, hl]; exact List.mem_append_left _ hm
    · have := mem_boxNms hl hm h
      unfold boxNms
      split
      · exact List.mem_append_right _ this
      · exact this
theorem mem_opNms {s : St} {x : Operand} {n : Nat} : ∀ {l : List Operand}, x ∈ l → (n ∈ (opnd s x).nms ∨ n ∈ boxNms s (opnd s x).nms) → n ∈ opNms s l
  | y :: r, h, hn => by
    unfold opNms
    rcases List.mem_cons.1 h with rfl | h
    · rcases hn with hn | hn
      · exact List.mem_append_left _ hn
      · exact List.mem_append_right _ (List.mem_append_left _ hn)
    · exact List.mem_append_right _ (List.mem_append_right _ (mem_opNms h hn))

theorem sepN_ok {f : Nat → Bool} : ∀ {l : List Nat}, sepN f l = true → ∀ n ∈ l, f n = false
  | m :: r, h, n, hn => by
    unfold sepN at h
    split at h
    · cases h
    · rename_i hm
      rcases List.mem_cons.1 hn with rfl | hn
      · exact hm
      · exact sepN_ok h n hn
theorem sepOpens_ok {f : Nat → Bool} : ∀ {l : List (Nat × List Nat)}, sepOpens f l = true → ∀ p ∈ l, ∀ n ∈ p.2, f n = false
  | (i, l) :: r, h, p, hp => by
    unfold sepOpens at h
    split at h
    · rename_i hm
      rcases List.mem_cons.1 hp with rfl | hp
      · exact sepN_ok hm
      · exact sepOpens_ok h p hp
    · cases h
theorem mem_dropA {A : List Nat} {i : Nat} {N : List Nat} (hi : i ∉ A) : ∀ {l : List (Nat × List Nat)}, (i, N) ∈ l → (i, N) ∈ dropA A l
  | (j, M) :: r, h => by
    unfold dropA
    rcases List.mem_cons.1 h with e | h
    · cases e
      split
      · rename_i hm; exact absurd (memN_iff.1 hm) hi
      · exact List.mem_cons_self ..
    · split
      · exact mem_dropA hi h
      · exact List.mem_cons_of_mem _ (mem_dropA hi h)
end Go.Di
/-
  Own work. Regions that draw their order: whatever order is drawn, the planned run tells what comes out.
-/
open Go.RowKit (Below)
namespace Go.Di

section
variable {P : Program} {C : Bs} {w w' : World} {s s' s1 : St} {X : Nat → Prop} {bt : Nat → Option Value} {a : Act} {o : Oper} {tm : Array Value} {β : Type}
  {K : Act → World → Prop} {Q : Exit → Act → World → Prop} {E : Env} {k : St → Option β} {r : β} {ops : Array Oper} {N : List Nat} {T : Nat → Prop}

theorem mem_looks {t : Nat} (h : Operand.tmp t ∈ o.op.operands) : t ∈ o.looksAt ops := by
  unfold Oper.looksAt
  exact List.mem_append_left _ (List.mem_filterMap.2 ⟨.tmp t, by simpa using h, rfl⟩)
theorem mem_looks_guard {j t : Nat} {p : Bool} {oj : Oper} (hg : o.guard = some (j, p)) (hj : ops[j]? = some oj) (hd : oj.dst = some t) : t ∈ o.looksAt ops := by
  unfold Oper.looksAt
  refine List.mem_append_right _ ?_
  simp [hg, hj, hd]

theorem opnd_congr (h : ∀ t ∈ o.looksAt ops, s'.get t = s.get t) {x : Operand} (hx : x ∈ o.op.operands) : opnd s' x = opnd s x := by
  cases x with
  | tmp t => exact h t (mem_looks hx)
  | const v =>
    unfold opnd
    split
    · rename_i h; cases h
    all_goals first | rfl | (rename_i h; cases h; rfl)
  | _ => simp only [opnd]

theorem wantedA_congr (h : ∀ t ∈ o.looksAt ops, s'.get t = s.get t) : wantedA ops.toList o s' = wantedA ops.toList o s := by
  unfold wantedA
  cases hg : o.guard with
  | none => rfl
  | some q =>
    obtain ⟨j, p⟩ := q
    simp only
    cases hj : ops.toList[j]? with
    | none => rfl
    | some oj =>
      obtain ⟨dst, op, type, pos, after, guard⟩ := oj
      cases dst with
      | none => rfl
      | some t =>
        simp only
        rw [h t (mem_looks_guard hg (by rw [← hj, Array.getElem?_toList]) rfl)]

theorem wantedA_sound (g : Gam C s X bt a.tmps w) (hX : ∀ t ∈ o.looksAt ops, ¬ X t) {c : Bool} (hw : wantedA ops.toList o s = some c) : Region.wanted o (yielded ops a.tmps) = c := by
  unfold wantedA at hw
  cases hg : o.guard with
  | none => rw [hg] at hw; cases hw; simp [Region.wanted, hg]
  | some q =>
    obtain ⟨j, p⟩ := q
    rw [hg] at hw
    simp only at hw
    split at hw
    · rename_i o2 t _ _ _ _ _ hj
      split at hw
      · rename_i b hb
        cases hw
        have hj' := hj
        rw [Array.getElem?_toList] at hj'
        have hx := hX t (mem_looks_guard hg hj' rfl)
        have hv : AVOk (cx C s bt w) (.v false [.d (.bool b)]) (a.tmps.getD t undef) := g.env t _ hx (get_some hb (by intro e; cases e))
        have hb := av_bool hv
        have hlt : t < a.tmps.size := by
          rcases Nat.lt_or_ge t a.tmps.size with h' | h'
          · exact h'
          · simp [Array.getD, Nat.not_lt.2 h', undef] at hb
        have hget : a.tmps[t]? = some (.bool b) := by
          rw [Array.getElem?_eq_getElem hlt]; simp [Array.getD, hlt] at hb; rw [hb]
        have hy : yielded ops a.tmps j = some b := by simp [yielded, hj', hget]
        simp only [Region.wanted, hg, hy]
        cases b <;> cases p <;> rfl
      · rename_i hun
        cases hw
        have hj' := hj
        rw [Array.getElem?_toList] at hj'
        have hx := hX t (mem_looks_guard hg hj' rfl)
        have hv := opnd_ok g (x := .tmp t) (fun u hu hxu => hx (by cases hu; exact hxu))
        simp only [opnd, Act.eval] at hv
        rw [hun] at hv
        have hv := av_un_eq hv
        have hy : yielded ops a.tmps j = none := by
          unfold yielded
          rw [hj']
          simp only [Option.bind_some]
          cases hg' : a.tmps[t]? with
          | none => rfl
          | some v =>
            have : v = undef := by
              have hlt := (Array.getElem?_eq_some_iff.1 hg').1
              have := (Array.getElem?_eq_some_iff.1 hg').2
              simp [Array.getD, hlt] at hv
              rw [← this, hv]
            subst this; rfl
        simp only [Region.wanted, hg, hy]; rfl
      · cases hw
    · cases hw

theorem Gam.park (g : Gam C s X bt tm w) (d : Nat) (a : AV) : Gam C (s.set d a) (fun t => X t ∨ t = d) bt tm w where
  len := by simp [St.set, g.len]
  env t av hx h := by
    have hne : d ≠ t := fun e => hx (.inr e.symm)
    simp only [St.set, List.getElem?_set, hne, if_false] at h
    exact g.env t av (fun h => hx (.inl h)) h
  ents := g.ents
  uniq := g.uniq
  fresh := g.fresh
  kb := g.kb
  below := g.below
  bs := g.bs
  pin := g.pin
  np := g.np

theorem get_set_ne {d t : Nat} {a : AV} (h : d ≠ t) : (s.set d a).get t = s.get t := by
  simp [St.get, St.set, List.getD_eq_getElem?_getD, h]

theorem setD_ents {d : Option Nat} {a : AV} : (setD d a s).ents = s.ents := by cases d <;> rfl
theorem setD_setD {d : Option Nat} {a : AV} : setD d a (setD d a s) = setD d a s := by
  cases d with
  | none => rfl
  | some t => simp [setD, St.set]
theorem setD_len {d : Option Nat} {a : AV} : (setD d a s).env.length = s.env.length := by cases d <;> simp [setD, St.set]

/-- The slot of an early operation's value stands apart from what it looks at. -/
theorem Stp.stable (hp : pureOp o = true) (hd : ∀ d, o.dst = some d → d ∉ o.looksAt ops) (h : Stp E ops.toList o s s') (hwf : opWf o = true) :
    (∃ av, s' = setD o.dst av s) ∧ Stable E ops.toList o s' (openNms s' o) := by
  have main : ∀ av c, s' = setD o.dst av s → wantedA ops.toList o s = some c → (c = true → (evalOp E.lay E.cons o s).Yields (av, s)) → (c = false → av = .tup []) → Stable E ops.toList o s' (openNms s' o) := by
    intro av c hs hw hy hn
    have hget : ∀ t ∈ o.looksAt ops, s'.get t = s.get t := by
      intro t ht
      rw [hs]
      cases hdst : o.dst with
      | none => rfl
      | some d => exact get_set_ne fun e => hd d hdst (e ▸ ht)
    have hw' : wantedA ops.toList o s' = some c := by rw [wantedA_congr hget, hw]
    have hself : setD o.dst av s' = s' := by rw [hs, setD_setD]
    refine ⟨hwf, ⟨c, hw'⟩, fun h => ?_, fun h => ?_, fun x hx n hn => ?_, fun x hx n hn l hl m hm => ?_, fun d hdst n hn => ?_⟩
    · rw [hw'] at h; cases h
      refine ⟨av, (pure_local hp (fun x hx => opnd_congr hget hx) (fun x hx n hn => ?_) (hy rfl)).2, hself, fun d hdst hlt => ?_⟩
      · unfold LkSame; rw [hs, setD_ents]
      · rw [hs] at hlt ⊢
        rw [setD_len] at hlt
        simp [hdst, setD, St.set, hlt]
    · rw [hw'] at h; cases h
      rw [hn rfl] at hself; exact hself
    · exact List.mem_append_left _ (mem_opNms (by simpa using hx) (.inl hn))
    · exact List.mem_append_left _ (mem_opNms (by simpa using hx) (.inr (mem_boxNms hl hm hn)))
    · unfold openNms; rw [hdst]; exact List.mem_append_right _ hn
  rcases h with ⟨h1, h2, av, s1, h3, h4⟩ | ⟨h1, h2⟩
  · have hs1 := (pure_local (s' := s) hp (fun _ _ => rfl) (fun _ _ _ _ => rfl) h3).1
    subst hs1
    exact ⟨⟨av, h4⟩, main av true h4 h1 (fun _ => h3) (fun h => by cases h)⟩
  · exact ⟨⟨_, h2⟩, main (.tup []) false h2 h1 (fun h => by cases h) (fun _ => rfl)⟩

theorem Stable.agree (hp : pureOp o = true) (h : Stable E ops.toList o s N) (hget : ∀ t ∈ o.looksAt ops, s'.get t = s.get t) (hlk : ∀ x ∈ o.op.operands, ∀ n ∈ (opnd s x).nms, LkSame n s s')
    (hdst : ∀ d, o.dst = some d → s'.env[d]? = s.env[d]?) (hlen : s'.env.length = s.env.length) : Stable E ops.toList o s' N := by
  have hw := wantedA_congr hget
  have hg : ∀ d, o.dst = some d → s'.get d = s.get d := fun d hd => by
    unfold St.get; rw [List.getD_eq_getElem?_getD, List.getD_eq_getElem?_getD, hdst d hd]
  have self : ∀ av, setD o.dst av s = s → setD o.dst av s' = s' := by
    intro av h
    cases hd : o.dst with
    | none => rfl
    | some d =>
      rw [hd] at h
      rcases Nat.lt_or_ge d s.env.length with hl | hl
      · have h1 : s.env[d]? = some av := by
          have h2 : (s.set d av).env[d]? = s.env[d]? := by rw [show s.set d av = s from h]
          rw [← h2]; simp [St.set, hl]
        exact set_get (by rw [hdst d hd, h1])
      · have hl' : s'.env.length ≤ d := by rw [hlen]; exact hl
        have : s'.env.set d av = s'.env := List.set_eq_of_length_le hl'
        simp only [setD, St.set, this]
  refine ⟨h.wf, by rw [hw]; exact h.known, fun hy => ?_, fun hn => self _ (h.no (by rw [← hw]; exact hn)), fun x hx n hn => ?_, fun x hx n hn l hl m hm => ?_, fun d hd n hn => ?_⟩
  · obtain ⟨av, h1, h2, h3⟩ := h.yes (by rw [← hw]; exact hy)
    refine ⟨av, (pure_local hp (fun x hx => opnd_congr hget hx) hlk h1).2, self av h2, fun d hd hl => ?_⟩
    rw [hdst d hd]; exact h3 d hd (by rw [hlen] at hl; exact hl)
  · rw [opnd_congr hget hx] at hn; exact h.opn x hx n hn
  · rw [opnd_congr hget hx] at hn
    have hs := hlk x hx n hn
    cases h' : look n s.ents with
    | none => unfold LkSame at hs; rw [h', hl] at hs; cases hs
    | some e =>
      cases e with
      | box l' => rw [hs.box h'] at hl; cases hl; exact h.box x hx n hn l h' m hm
      | arr fr t xs => obtain ⟨fr', h2⟩ := hs.arr h'; rw [h2] at hl; cases hl
  · rw [hg d hd] at hn; exact h.res d hd n hn

theorem Stable.set (hp : pureOp o = true) (h : Stable E ops.toList o s N) {d : Nat} {av : AV} (hl : d ∉ o.looksAt ops) (hd : o.dst ≠ some d) : Stable E ops.toList o (s.set d av) N :=
  h.agree hp (fun t ht => get_set_ne fun e => hl (e ▸ ht)) (fun _ _ _ _ => rfl) (fun u hu => by
    have : d ≠ u := fun e => hd (e ▸ hu)
    simp [St.set, this]) (by simp [St.set])

theorem Stable.keep (hp : pureOp o = true) (h : Stable E ops.toList o s N) (hk : Keep T s s') (hT : ∀ n ∈ N, ¬ T n) : Stable E ops.toList o s' N := by
  have slot : ∀ t, (∀ m ∈ (s.get t).nms, ¬ T m) → s'.env[t]? = s.env[t]? := by
    intro t ht
    cases h' : s.env[t]? with
    | none =>
      rw [List.getElem?_eq_none_iff] at h' ⊢
      rw [hk.len]; exact h'
    | some av =>
      refine hk.env t av h' fun m hm => ht m ?_
      unfold St.get; rw [List.getD_eq_getElem?_getD, h']; exact hm
  have get : ∀ t, (∀ m ∈ (s.get t).nms, ¬ T m) → s'.get t = s.get t := fun t ht => by
    unfold St.get; rw [List.getD_eq_getElem?_getD, List.getD_eq_getElem?_getD, slot t ht]
  refine h.agree hp (fun t ht => ?_) (fun x hx n hn => hk.lk n (hT n (h.opn x hx n hn)) fun l hl m hm => hT m (h.box x hx n hn l hl m hm)) (fun d hd => slot d fun m hm => hT m (h.res d hd m hm)) hk.len
  unfold Oper.looksAt at ht
  rcases List.mem_append.1 ht with ht | ht
  · obtain ⟨x, hx, hxt⟩ := List.mem_filterMap.1 ht
    cases x <;> simp at hxt
    subst hxt
    exact get _ fun m hm => hT m (h.opn (.tmp _) (by simpa using hx) m hm)
  · cases hg : o.guard with
    | none => rw [hg] at ht; cases ht
    | some q =>
      obtain ⟨j, p⟩ := q
      rw [hg] at ht
      simp only [Option.mem_toList] at ht
      obtain ⟨c, hc⟩ := h.known
      unfold wantedA at hc
      rw [hg] at hc
      simp only at hc
      split at hc
      · rename_i o2 t' _ _ _ _ _ hj
        rw [Array.getElem?_toList] at hj
        have : t' = t := by
          rw [hj] at ht; simpa using ht
        subst this
        split at hc
        · rename_i b hb
          refine get _ fun m hm => ?_
          rw [hb] at hm
          simp [AV.nms, nmsL, A1.nms] at hm
        · rename_i hun
          refine get _ fun m hm => ?_
          rw [hun] at hm
          simp [AV.nms, nmsP] at hm
        · cases hc
      · cases hc
end
end Go.Di
/-
  Own work. New variables that a region may lay at any time.
-/
open Go.RowKit (Below)
namespace Go.Di

/-- Blocks that were laid ahead of the run. -/
def Bs.more (C : Bs) (fl : Nat → Option Nat) (w : World) : Bs := ⟨fun b => C.keep b ∨ ∃ i, fl i = some b, w, fun b => C.old b ∧ ¬ ∃ i, fl i = some b, C.pin⟩

section
variable {P : Program} {C : Bs} {w w' w0 : World} {s s' : St} {X : Nat → Prop} {β β' : Nat → Option Value} {tm : Array Value} {fl : Nat → Option Nat}

def updN (f : Nat → Option Nat) (n : Nat) (v : Option Nat) : Nat → Option Nat := fun m => if m = n then v else f m
theorem updN_same (f : Nat → Option Nat) (n : Nat) (v : Option Nat) : updN f n v n = v := by simp [updN]
theorem updN_other (f : Nat → Option Nat) {n m : Nat} (v : Option Nat) (h : m ≠ n) : updN f n v m = f m := by simp [updN, h]

/-- What holds of the grown world. -/
theorem Gam.rebase0 (g : Gam (C.more fl w0) s X β tm w) : Gam (C.more fl w) s X β tm w :=
  ⟨g.len, g.env, g.ents, g.uniq, g.fresh, g.kb, Kp.refl _ _, g.pin, g.np, g.bs⟩

theorem Gam.none_more (g : Gam C s X β tm w) : Gam (C.more (fun _ => none) w) s X β tm w := by
  have hk : ∀ b, (C.more (fun _ => none) w).keep b ↔ C.keep b := fun b => ⟨fun h => h.elim id (fun ⟨_, h⟩ => by cases h), fun h => .inl h⟩
  have hc : cx (C.more (fun _ => none) w) s β w = cx C s β w := by
    simp only [cx, Cx.mk.injEq, true_and]
    funext b
    simp [Bs.more]
  exact ⟨g.len, fun t av hx h => by rw [hc]; exact g.env t av hx h, fun n e v h1 h2 => by rw [hc]; exact g.ents n e v h1 h2, g.uniq, fun b hb => ⟨fun h => (g.fresh b hb).1 ((hk b).1 h), (g.fresh b hb).2⟩, fun b hb => g.kb b ((hk b).1 hb), Kp.refl _ _, g.pin, g.np, g.bs⟩

theorem Gam.more_none (g : Gam (C.more fl w0) s X β tm w) (h : ∀ i, fl i = none) (hk : Kp C.keep C.w0 w) : Gam C s X β tm w := by
  have hno : ∀ b, ¬ ∃ i, fl i = some b := fun b ⟨i, hi⟩ => by rw [h i] at hi; cases hi
  have hc : cx (C.more fl w0) s β w = cx C s β w := by
    simp only [cx, Cx.mk.injEq, true_and]
    funext b
    simp [Bs.more, h]
  exact ⟨g.len, fun t av hx h => by rw [← hc]; exact g.env t av hx h, fun n e v h1 h2 => by rw [← hc]; exact g.ents n e v h1 h2, g.uniq, fun b hb => ⟨fun h => (g.fresh b hb).1 (.inl h), (g.fresh b hb).2⟩, fun b hb => g.kb b (.inl hb), hk, g.pin, g.np, g.bs⟩

/-- A variable is laid ahead of the run. -/
theorem Gam.fly (g : Gam (C.more fl w0) s X β tm w) {i : Nat} (hi : fl i = none) (o : Obj) (d : Nat) (v : Value) :
    Gam (C.more (updN fl i (some w.heap.size)) (w.alloc o)) s (fun t => X t ∨ t = d) β (tm.setIfInBounds d v) (w.alloc o) := by
  have hb : Below w.heap.size w (w.alloc o) := below_alloc w o
  have hsz : (w.alloc o).heap.size = w.heap.size + 1 := by simp
  have hin : ∀ b, (∃ j, updN fl i (some w.heap.size) j = some b) ↔ (∃ j, fl j = some b) ∨ b = w.heap.size := by
    intro b
    constructor
    · rintro ⟨j, hj⟩
      by_cases e : j = i
      · subst e; rw [updN_same] at hj; cases hj; exact .inr rfl
      · rw [updN_other _ _ e] at hj; exact .inl ⟨j, hj⟩
    · rintro (⟨j, hj⟩ | rfl)
      · have e : j ≠ i := by intro e; subst e; rw [hi] at hj; cases hj
        exact ⟨j, by rw [updN_other _ _ e]; exact hj⟩
      · exact ⟨i, updN_same ..⟩
  -- what was read before is read now
  have hrd : ∀ v c, (cx (C.more fl w0) s β w).rd v c → (cx (C.more (updN fl i (some w.heap.size)) (w.alloc o)) s β (w.alloc o)).rd v c := by
    rintro v c ⟨fp, h1, h2⟩
    refine ⟨fp, h1.ext fun b hb' => hb.block b (h2 b hb').1, fun b hb' => ⟨?_, (h2 b hb').2.1, ?_⟩⟩
    · have := (h2 b hb').1; show b < (w.alloc o).heap.size; simp only [cx] at this; omega
    · have hlt : b < w.heap.size := (h2 b hb').1
      rcases (h2 b hb').2.2 with h | h
      · refine .inl fun hk => ?_
        rcases hk with hk | hk
        · exact h (.inl hk)
        · rcases (hin b).1 hk with hk | hk
          · exact h (.inr hk)
          · omega
      · refine .inr ⟨h.1, fun hk => ?_⟩
        rcases (hin b).1 hk with hk | hk
        · exact h.2 hk
        · omega
  have hfine : ∀ b, (cx (C.more fl w0) s β w).fine [b] → (cx (C.more (updN fl i (some w.heap.size)) (w.alloc o)) s β (w.alloc o)).fine [b] := by
    intro b hf b' hb'
    simp only [List.mem_singleton] at hb'; subst hb'
    have h2 := hf b' (List.mem_cons_self ..)
    have hlt : b' < w.heap.size := h2.1
    refine ⟨?_, h2.2.1, ?_⟩
    · show b' < (w.alloc o).heap.size; omega
    · rcases h2.2.2 with h | h
      · refine .inl fun hk => ?_
        rcases hk with hk | hk
        · exact h (.inl hk)
        · rcases (hin b').1 hk with hk | hk
          · exact h (.inr hk)
          · omega
      · refine .inr ⟨h.1, fun hk => ?_⟩
        rcases (hin b').1 hk with hk | hk
        · exact h.2 hk
        · omega
  have ha1 : ∀ b v, A1Ok (cx (C.more fl w0) s β w) b v → A1Ok (cx (C.more (updN fl i (some w.heap.size)) (w.alloc o)) s β (w.alloc o)) b v := by
    intro b v h
    cases b with
    | d c => exact hrd v c h
    | sp cs off =>
      obtain ⟨b, q, h1, h2⟩ := h
      refine ⟨b, q, h1, h2.1.imp id (hfine b), fun j c hc => ?_⟩
      obtain ⟨u, hu, hd⟩ := h2.2 j c hc
      refine ⟨u, ?_, hrd u c hd⟩
      rcases h2.1 with h0 | h0
      · subst h0; cases hc
      · have := h0 b (List.mem_cons_self ..)
        show (w.alloc o).cell? _ = _
        rw [World.cell?_of_block (w := w) (hb.block b this.1)]; exact hu
    | _ => exact h
  have hl1 : ∀ l vs, L1Ok (cx (C.more fl w0) s β w) l vs → L1Ok (cx (C.more (updN fl i (some w.heap.size)) (w.alloc o)) s β (w.alloc o)) l vs := fun l vs h => h.conv fun a _ v ha => ha1 a v ha
  refine ⟨by simp [g.len], fun t av hx h => ?_, fun n e u h1 h2 => ?_, g.uniq, fun b h => ?_, fun b h => ?_, Kp.refl _ _, g.pin, g.np, g.bs⟩
  · have hne : d ≠ t := fun e => hx (.inr e.symm)
    have hv : (tm.setIfInBounds d v).getD t undef = tm.getD t undef := by
      rw [Array.getD_eq_getD_getElem?, Array.getD_eq_getD_getElem?, Array.getElem?_setIfInBounds_ne hne]
    rw [hv]
    have := g.env t av (fun h => hx (.inl h)) h
    cases av with
    | v gg l => exact VOk.conv (fun a _ v ha => ha1 a v ha) this
    | tup ps => obtain ⟨vs, e1, e2⟩ := this; exact ⟨vs, e1, e2.conv fun p _ a _ v ha => ha1 a v ha⟩
  · have := g.ents n e u h1 h2
    have hT : e.mut = true → ∀ b ∈ topOf u, b < w.heap.size := fun hm b hbt => (g.fresh b ⟨n, e, u, h1, hm, h2, hbt⟩).2
    cases e with
    | box l =>
      obtain ⟨b, vs, T, k1, k2, k3⟩ := this
      refine ⟨b, vs, T, k1, ?_, hl1 _ _ k3⟩
      show (w.alloc o).heap[b]? = _
      rw [hb.block b (hT rfl b (by subst k1; simp [topOf]))]; exact k2
    | arr fr t xs =>
      cases fr with
      | true => exact hrd _ _ this
      | false =>
        rcases this with h0 | ⟨gb, cap, cur, T, k1, k2, k3, k4, k5, k6, k7⟩
        · exact .inl h0
        · refine .inr ⟨gb, cap, cur, T, k1, k2, k3, k4, ?_, k6, fun j c hc => ?_⟩
          · show (w.alloc o).heap[gb]? = _
            rw [hb.block gb (hT rfl gb (by subst k1; cases cap with | zero => omega | succ q => simp [topOf]))]; exact k5
          · obtain ⟨u', q1, q2⟩ := k7 j c hc
            exact ⟨u', q1, hrd u' c q2⟩
  · obtain ⟨q1, q2⟩ := g.fresh b h
    refine ⟨fun hk => ?_, by omega⟩
    rcases hk with hk | hk
    · exact q1 (.inl hk)
    · rcases (hin b).1 hk with hk | hk
      · exact q1 (.inr hk)
      · omega
  · rcases h with hk | hk
    · have := g.kb b (.inl hk); omega
    · rcases (hin b).1 hk with hk | hk
      · have := g.kb b (.inr hk); omega
      · omega

/-- The run comes to a variable that was laid ahead of it. -/
theorem Gam.land (g : Gam (C.more fl w0) s X β tm w) {i b n : Nat} (hi : fl i = some b) (hinj : ∀ j, fl j = some b → j = i) (hkb : ¬ C.keep b) (hn : n % 64 ≠ 63) {l : List A1} {vs : Array Value} {T : TypeId}
    (hl : ∀ x : Cx, L1Ok x l vs.toList) (hh : w.heap[b]? = some (.cells vs T (0, 0))) :
    Gam (C.more (updN fl i none) w) (s.push n (.box l)) X (upd β n (.pointer (some ⟨b, 0, none⟩))) tm w := by
  have g1 := g.free n
  obtain ⟨hno1, hno2⟩ := noRef_free n s
  have hblt : b < w.heap.size := by
    rcases Nat.lt_or_ge b w.heap.size with h | h
    · exact h
    · rw [Array.getElem?_eq_none h] at hh; cases hh
  have hkb' : (C.more fl w0).keep b := .inr ⟨i, hi⟩
  have hin : ∀ x, (∃ j, updN fl i none j = some x) ↔ (∃ j, fl j = some x) ∧ x ≠ b := by
    intro x
    constructor
    · rintro ⟨j, hj⟩
      by_cases e : j = i
      · subst e; rw [updN_same] at hj; cases hj
      · rw [updN_other _ _ e] at hj
        exact ⟨⟨j, hj⟩, fun hx => e (hinj j (hx ▸ hj))⟩
    · rintro ⟨⟨j, hj⟩, hx⟩
      have e : j ≠ i := by intro e; subst e; rw [hi] at hj; cases hj; exact hx rfl
      exact ⟨j, by rw [updN_other _ _ e]; exact hj⟩
  have hlk : ∀ m, look m (s.push n (.box l)).ents = if m = n then some (.box l) else look m (s.free n).ents := fun m => by
    show look m (put n (.box l) (s.free n).ents) = _
    rw [look_put]
  have htop : ∀ x, Top (fun m => look m (s.push n (.box l)).ents) (upd β n (.pointer (some ⟨b, 0, none⟩))) x → x = b ∨ Top (fun m => look m (s.free n).ents) β x := by
    rintro x ⟨m, e, v, h1, h2, h3, h4⟩
    simp only [hlk] at h1
    split at h1
    · rename_i hm; subst hm
      cases h1
      rw [upd_same] at h3; cases h3
      simp [topOf] at h4; exact .inl h4
    · rename_i hm
      rw [upd_other _ _ hm] at h3
      exact .inr ⟨m, e, v, h1, h2, h3, h4⟩
  have hle : Le (cx (C.more fl w0) (s.free n) β w) (cx (C.more (updN fl i none) w) (s.push n (.box l)) (upd β n (.pointer (some ⟨b, 0, none⟩))) w) (fun m => m ≠ n) := by
    refine ⟨fun x h => ?_, fun _ _ _ => rfl, Nat.le_refl _, fun x hlt hav ht => ?_, fun m hm => .inr ⟨upd_other _ _ hm, .inl ?_⟩⟩
    · rcases h with h | h
      · refine .inl fun hk => h ?_
        rcases hk with hk | hk
        · exact .inl hk
        · exact .inr ((hin x).1 hk).1
      · exact .inr ⟨h.1, fun hk => h.2 ((hin x).1 hk).1⟩
    · rcases htop x ht with rfl | h
      · exfalso
        rcases hav with h | h
        · exact h hkb'
        · exact h.2 ⟨i, hi⟩
      · exact h
    · show look m (s.push n (.box l)).ents = look m (s.free n).ents
      rw [hlk, if_neg hm]
  refine ⟨g1.len, fun t av hx h => ?_, fun m e v h1 h2 => ?_, ?_, fun x h => ?_, fun x h => ?_, Kp.refl _ _, fun m v hp h => ?_, g.np, fun m e h => ?_⟩
  · exact hle.av (hno1.1 t av h) (g1.env t av hx h)
  · rw [hlk] at h1
    split at h1
    · rename_i hm; subst hm
      cases h1
      rw [upd_same] at h2; cases h2
      exact ⟨b, vs, T, rfl, hh, hl _⟩
    · rename_i hm
      rw [upd_other _ _ hm] at h2
      exact EntOk.le hle (hno1.2 m e h1) (fun _ _ _ => rfl) (g1.ents m e v h1 h2)
  · intro m1 m2 e1 e2 u1 u2 x h1 h2 h3 h4 h5 h6 h7 h8
    rw [hlk] at h1 h2
    have old : ∀ m e u, look m (s.free n).ents = some e → e.mut = true → β m = some u → x ∈ topOf u → x ≠ b := fun m e u k1 k2 k3 k4 hx =>
      (g1.fresh x ⟨m, e, u, k1, k2, k3, k4⟩).1 (hx ▸ hkb')
    split at h1 <;> split at h2
    · rename_i a1 a2; rw [a1, a2]
    · rename_i a1 a2; subst a1; cases h1
      rw [upd_same] at h5; cases h5
      rw [upd_other _ _ a2] at h6
      simp [topOf] at h7
      exact absurd h7 (old m2 e2 u2 h2 h4 h6 h8)
    · rename_i a1 a2; subst a2; cases h2
      rw [upd_same] at h6; cases h6
      rw [upd_other _ _ a1] at h5
      simp [topOf] at h8
      exact absurd h8 (old m1 e1 u1 h1 h3 h5 h7)
    · rename_i a1 a2
      rw [upd_other _ _ a1] at h5; rw [upd_other _ _ a2] at h6
      exact g1.uniq m1 m2 e1 e2 u1 u2 x h1 h2 h3 h4 h5 h6 h7 h8
  · rcases htop x h with rfl | h
    · refine ⟨fun hk => ?_, hblt⟩
      rcases hk with hk | hk
      · exact hkb hk
      · exact ((hin x).1 hk).2 rfl
    · obtain ⟨q1, q2⟩ := g1.fresh x h
      refine ⟨fun hk => q1 ?_, q2⟩
      rcases hk with hk | hk
      · exact .inl hk
      · exact .inr ((hin x).1 hk).1
  · rcases h with h | h
    · exact g.kb x (.inl h)
    · exact g.kb x (.inr ((hin x).1 h).1)
  · by_cases hm : m = n
    · subst hm; exact absurd (g.np m (by rw [show (C.more fl w0).pin m = some v from hp]; rfl)) hn
    · rw [upd_other _ _ hm]
      rw [hlk, if_neg hm] at h
      exact g1.pin m v hp h
  · by_cases hm : m = n
    · subst hm; rw [upd_same]; rfl
    · rw [upd_other _ _ hm]
      rw [hlk, if_neg hm] at h
      exact g1.bs m e h
end
end Go.Di
