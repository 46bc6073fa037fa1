/-
  Own work. Operations that change the abstract state: what they leave alone.
-/
import Derived.Test.YtalnijffcoppkaaDiDraw
open Go.RowKit (Below)
namespace Go.Di

/-- What is not in T stays as it is. -/
structure Keep (T : Nat → Prop) (s s' : St) : Prop where
  lk : ∀ n, ¬ T n → (∀ l, look n s.ents = some (.box l) → ∀ m ∈ nmsL l, ¬ T m) → LkSame n s s'
  env : ∀ (t : Nat) a, s.env[t]? = some a → (∀ m ∈ a.nms, ¬ T m) → s'.env[t]? = some a
  len : s'.env.length = s.env.length

theorem frz_frz (e : Ent) : frz (frz e) = frz e := by cases e <;> rfl

theorem Keep.refl (T : Nat → Prop) (s : St) : Keep T s s := ⟨fun _ _ _ => rfl, fun _ _ h _ => h, rfl⟩

theorem Keep.trans {T : Nat → Prop} {s s1 s2 : St} (h : Keep T s s1) (k : Keep T s1 s2) : Keep T s s2 where
  lk n hn hb := by
    have h1 := h.lk n hn hb
    have h2 := k.lk n hn fun l hl => by
      cases h' : look n s.ents with
      | none => unfold LkSame at h1; rw [h', hl] at h1; cases h1
      | some e =>
        cases e with
        | box l' => rw [h1.box h'] at hl; cases hl; exact hb l h'
        | arr fr t xs => obtain ⟨fr', h2⟩ := h1.arr h'; rw [h2] at hl; cases hl
    unfold LkSame at *
    rw [h2, h1]
  env t a ha hm := k.env t a (h.env t a ha hm) hm
  len := k.len.trans h.len

theorem killL_id {m : Nat} : ∀ {l : List A1}, m ∉ nmsL l → killL m l = l
  | [], _ => rfl
  | a :: r, h => by
    simp only [nmsL, List.mem_append, not_or] at h
    unfold killL
    rw [killL_id h.2]
    congr 1
    cases a <;> simp only [A1.kill] <;> simp only [A1.nms, List.mem_singleton] at h <;> (split <;> first | rfl | (rename_i hb; simp at hb; exact absurd hb h.1))
theorem killP_id {m : Nat} : ∀ {l : List (Bool × List A1)}, m ∉ nmsP l → killP m l = l
  | [], _ => rfl
  | (b, a) :: r, h => by
    simp only [nmsP, List.mem_append, not_or] at h
    unfold killP
    rw [killP_id h.2, killL_id h.1]
theorem kill_id {m : Nat} {a : AV} (h : m ∉ a.nms) : a.kill m = a := by
  cases a with
  | v b l => simp only [AV.kill]; rw [killL_id h]
  | tup ps => simp only [AV.kill]; rw [killP_id h]

theorem Keep.free {T : Nat → Prop} {s : St} {m : Nat} (hm : T m) : Keep T s (s.free m) where
  lk n hn hb := by
    have hne : n ≠ m := fun e => hn (e ▸ hm)
    unfold LkSame
    rw [look_free, if_neg hne]
    cases h : look n s.ents with
    | none => rfl
    | some e =>
      cases e with
      | box l => simp only [Option.map_some, Ent.kill]; rw [killL_id fun h' => hb l h m h' hm]
      | arr fr t xs => rfl
  env t a ha hms := by
    have hk : a.kill m = a := kill_id fun h' => hms m h' hm
    simp only [St.free]
    rw [get_killE, ha, Option.map_some, hk]
  len := length_killE m s.env

theorem Keep.freeL {T : Nat → Prop} : ∀ {l : List (Nat × Ent)} {s : St}, (∀ m ∈ names l, T m) → Keep T s (St.freeL l s)
  | [], s, _ => Keep.refl T s
  | (n, e) :: r, s, h => (Keep.free (h n (by simp [names]))).trans (Keep.freeL fun m hm => h m (by simp only [names, List.map_cons, List.mem_cons] at hm ⊢; exact .inr hm))

theorem Keep.put {T : Nat → Prop} {s : St} {n : Nat} {e : Ent} (hn : T n) : Keep T s ⟨s.env, put n e s.ents⟩ where
  lk m hm _ := by
    have hne : m ≠ n := fun e => hm (e ▸ hn)
    unfold LkSame
    rw [look_put, if_neg hne]
  env t a ha _ := ha
  len := rfl

theorem Keep.putL {T : Nat → Prop} {s : St} {l : List (Nat × Ent)} (h : ∀ m ∈ names l, T m) : Keep T s ⟨s.env, putL l s.ents⟩ where
  lk m hm _ := by
    unfold LkSame
    rw [look_putL_other m l s.ents fun h' => hm (h m h')]
  env t a ha _ := ha
  len := rfl

theorem Keep.pushL {T : Nat → Prop} {s : St} {l : List (Nat × Ent)} (h : ∀ m ∈ names l, T m) : Keep T s (St.pushL l s) :=
  (Keep.freeL h).trans (Keep.putL (s := St.freeL l s) h)

theorem Keep.push {T : Nat → Prop} {s : St} {n : Nat} {e : Ent} (h : T n) : Keep T s (St.push n e s) :=
  Keep.pushL fun m hm => by simp [names] at hm; exact hm ▸ h

theorem Keep.freeze1 {T : Nat → Prop} {s : St} (n : Nat) : Keep T s ⟨s.env, Go.Di.freeze1 n s.ents⟩ where
  lk m _ _ := by
    unfold LkSame
    rw [look_freeze1]
    split
    · cases look m s.ents with
      | none => rfl
      | some e => simp only [Option.map_some, frz_frz]
    · rfl
  env t a ha _ := ha
  len := rfl

theorem Keep.freezeL {T : Nat → Prop} : ∀ {l : List A1} {s : St}, Keep T s ⟨s.env, Go.Di.freezeL l s.ents⟩
  | [], s => Keep.refl T s
  | a :: r, s => by
    have h1 : Keep T s ⟨s.env, a.freeze s.ents⟩ := by
      cases a <;> first | exact Keep.refl T s | exact Keep.freeze1 _
    exact h1.trans (Keep.freezeL (s := ⟨s.env, a.freeze s.ents⟩))

section
variable {s s' s1 : St} {av : AV} {lay : List (TypeId × TI)} {cons : List (FuncId × Con)} {o : Oper}

theorem nm_div (d : Nat) : Nat.beq (nm d / 32) d = true := by
  have : nm d / 32 = d := by unfold nm; omega
  rw [this]; simp

/-- What an operation does not touch it leaves alone. -/
theorem eff_keeps (hy : (evalOp lay cons o s).Yields (av, s')) : Keep (fun n => touch cons s o n = true) s s' := by
  have hy0 := hy
  unfold evalOp at hy
  cases ho : o.op with
  | alloc t =>
    simp only [ho] at hy
    split at hy
    · cases hy; exact Keep.push (by simp only [touch, ho]; exact nm_div _)
    · exact hy.elim
  | box t x =>
    simp only [ho] at hy
    split at hy
    · split at hy
      · cases hy; exact Keep.push (by simp only [touch, ho]; exact nm_div _)
      · exact hy.elim
    · exact hy.elim
  | makeSlice t x y =>
    simp only [ho] at hy
    split at hy
    · split at hy
      · obtain ⟨r, h1, h2⟩ := hy; cases h2; exact Keep.push (by simp only [touch, ho]; exact nm_div _)
      · exact hy.elim
    · exact hy.elim
  | buildSlice t len ps =>
    simp only [ho] at hy
    split at hy
    · split at hy
      · cases hy; exact Keep.refl _ _
      · split at hy
        · rename_i es cs hes
          split at hy
          · cases hy
            exact Keep.freezeL.trans (Keep.push (s := ⟨s.env, freezeL cs s.ents⟩) (by simp only [touch, ho]; exact nm_div _))
          · exact hy.elim
        · exact hy.elim
    · exact hy.elim
  | store t x y =>
    simp only [ho] at hy
    split at hy
    · rename_i i a c hi ha hc
      split at hy
      · unfold storeOp at hy
        split at hy
        · rename_i n off
          split at hy
          · split at hy
            · cases hy; exact Keep.put (by simp [touch, ho, ha])
            · exact hy.elim
          · exact hy.elim
        · rename_i n j
          split at hy
          · split at hy
            · cases hy
              exact Keep.freezeL.trans (Keep.put (s := ⟨s.env, freezeL c s.ents⟩) (by simp [touch, ho, ha]))
            · exact hy.elim
          · exact hy.elim
        · exact hy.elim
      · exact hy.elim
    · exact hy.elim
  | call c =>
    obtain ⟨callee, args, ts⟩ := c
    cases callee with
    | invoke r m => simp only [ho] at hy; exact hy.elim
    | value f =>
      cases f with
      | func f =>
        simp only [ho] at hy
        split at hy
        · rename_i c hc
          unfold callOp at hy
          split at hy
          · rename_i l hl
            split at hy
            · rename_i x hx
              obtain ⟨y, h1, h2⟩ := hy
              cases h2
              have hpush : ∀ es, Keep (fun n => touch cons s o n = true) ⟨s.env, es⟩ (St.pushL (resParts (nm (o.dst.getD 0)) c.sig.res y).2 ⟨s.env, es⟩) := fun es => by
                refine Keep.pushL fun m hm => ?_
                simp only [names, List.mem_map] at hm
                obtain ⟨p, hp, rfl⟩ := hm
                obtain ⟨b1, b2, _⟩ := (resParts_spec c.sig.res (nm (o.dst.getD 0)) y).2.1 p hp
                simp only [touch, ho, hc]
                split
                · rename_i hb
                  have hb := Nat.le_of_ble_eq_true hb
                  have : p.1 / 32 = o.dst.getD 0 := by unfold nm at b1 b2; omega
                  rw [this]; simp
                · rfl
              split
              · exact Keep.freezeL.trans (hpush _)
              · exact hpush s.ents
            · exact hy.elim
          · exact hy.elim
        · exact hy.elim
      | tmp t => simp only [ho] at hy; exact hy.elim
      | const v => simp only [ho] at hy; exact hy.elim
      | global v => simp only [ho] at hy; exact hy.elim
    | builtin b =>
      obtain ⟨l⟩ := args
      cases b <;> try (simp only [ho] at hy; exact hy.elim)
      case len =>
        simp only [ho] at hy
        split at hy
        · split at hy
          · have : s' = s := by
              have := len_local (s' := s) (fun _ _ => rfl) hy
              exact this.1
            subst this; exact Keep.refl _ _
          · exact hy.elim
        · exact hy.elim
      case append =>
        have hbody : ∀ x y (t : TypeId), l = [x, y] → ∀ a b e, addrOf (opnd s x) = some a → (appendOp s (o.dst.getD 0) e a b).Yields (av, s') → Keep (fun n => touch cons s o n = true) s s' := by
          intro x y t hl a b e ha hy
          have hd : touch cons s o (nm (o.dst.getD 0)) = true := by
            simp only [touch, ho, hl]
            split
            · simp [nm_div]
            · exact nm_div _
          unfold appendOp at hy
          split at hy
          · split at hy
            · obtain ⟨r, h1, h2⟩ := hy; cases h2
              exact Keep.push hd
            · rename_i n
              split at hy
              · split at hy
                · obtain ⟨r, h1, h2⟩ := hy; cases h2
                  have hn : touch cons s o n = true := by
                    simp only [touch, ho, hl, ha]; simp
                  exact (Keep.free hn).trans (Keep.push (s := s.free n) hd)
                · exact hy.elim
              · exact hy.elim
            · exact hy.elim
          · exact hy.elim
        obtain ⟨m⟩ := ts
        match l, m with
        | [x, y], [t, u] =>
          simp only [ho] at hy
          split at hy
          · rename_i ha hb
            exact hbody x y t rfl _ _ _ ha hy
          · exact hy.elim
        | [], _ => simp only [ho] at hy; exact hy.elim
        | [_], _ => simp only [ho] at hy; exact hy.elim
        | [_, _], [] => simp only [ho] at hy; exact hy.elim
        | [_, _], [_] => simp only [ho] at hy; exact hy.elim
        | [_, _], _ :: _ :: _ :: _ => simp only [ho] at hy; exact hy.elim
        | _ :: _ :: _ :: _, _ => simp only [ho] at hy; exact hy.elim
  | move x => simp only [ho] at hy; cases hy; exact Keep.refl _ _
  | assign x => simp only [ho] at hy; cases hy; exact Keep.refl _ _
  | _ =>
    cases hp : pureOp o with
    | true =>
      have := (pure_local (s' := s) (lay := lay) (cons := cons) (o := o) hp (fun _ _ => rfl) (fun _ _ _ _ => rfl) hy0).1
      subst this; exact Keep.refl _ _
    | false =>
      first
        | (simp [pureOp, ho] at hp; done)
        | (simp only [ho] at hy; exact hy.elim)
        | (simp only [ho] at hy; split at hy <;> first | exact hy.elim | (simp_all [pureOp]; done))
end
end Go.Di
