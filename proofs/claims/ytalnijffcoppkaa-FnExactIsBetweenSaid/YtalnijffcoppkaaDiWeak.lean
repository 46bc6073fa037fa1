/-
  Own work. A state is described anew: values read as data, own arrays under other names, the rest forgotten.
-/
import Derived.Test.YtalnijffcoppkaaDiFunc3
open Go.RowKit (Below)
namespace Go.Di

/-- The cell a, described anew as b. -/
inductive W1 (s s' : St) (src : Nat → Nat) : A1 → A1 → Prop
  | bot (a : A1) : W1 s s' src a .bot
  | data (a : A1) (c : CK) (y : c.ty) (h : a.as s.ents c = some y) (hm : ∀ m, a.isArr m → ∀ n e, look n s'.ents = some e → e.mut = true → src n ≠ m) : W1 s s' src a (.d (c.cell y))
  | own (n : Nat) (h : (look (src n) s.ents).isSome) : W1 s s' src (.own (src n)) (.own n)
  | lp (n off : Nat) (h : (look n s.ents).isSome) (hs : src n = n) : W1 s s' src (.lp n off) (.lp n off)

def WL (s s' : St) (src : Nat → Nat) : List A1 → List A1 → Prop
  | [], [] => True
  | a :: l, b :: m => W1 s s' src a b ∧ WL s s' src l m
  | _, _ => False

def WAV (s s' : St) (src : Nat → Nat) (a b : AV) : Prop :=
  b = .bot ∨ ∃ g l m, a = .v g l ∧ b = .v g m ∧ WL s s' src l m

structure Wk (s s' : St) (src : Nat → Nat) : Prop where
  len : s'.env.length = s.env.length
  env : ∀ (t : Nat) b, s'.env[t]? = some b → ∃ a, s.env[t]? = some a ∧ WAV s s' src a b
  ents : ∀ n e', look n s'.ents = some e' → ∃ e, look (src n) s.ents = some e ∧
    ((∃ l l', e = .box l ∧ e' = .box l' ∧ WL s s' src l l') ∨ ∃ fr t xs, e = .arr fr t xs ∧ e' = .arr fr t xs)
  inj : ∀ n m e f, look n s'.ents = some e → look m s'.ents = some f → e.mut = true → f.mut = true → src n = src m → n = m

section
variable {P : Program} {C : Bs} {w w' : World} {s s' : St} {X : Nat → Prop} {bt : Nat → Option Value} {tm : Array Value} {src : Nat → Nat}

theorem Wk.mut (h : Wk s s' src) {n : Nat} {e' : Ent} (hl : look n s'.ents = some e') (hm : e'.mut = true) : ∃ e, look (src n) s.ents = some e ∧ e.mut = true := by
  obtain ⟨e, h1, h2⟩ := h.ents n e' hl
  refine ⟨e, h1, ?_⟩
  rcases h2 with ⟨l, l', rfl, rfl, _⟩ | ⟨fr, t, xs, rfl, rfl⟩
  · rfl
  · exact hm

theorem Wk.top (h : Wk s s' src) {b : Nat} (ht : Top (fun n => look n s'.ents) (fun n => bt (src n)) b) : Top (fun n => look n s.ents) bt b := by
  obtain ⟨n, e', v, h1, h2, h3, h4⟩ := ht
  obtain ⟨e, k1, k2⟩ := h.mut h1 h2
  exact ⟨src n, e, v, k1, k2, h3, h4⟩

theorem Wk.rd (h : Wk s s' src) {v : Value} {c : Cell} (hr : (cx C s bt w).rd v c) : (cx C s' (fun n => bt (src n)) w).rd v c := by
  obtain ⟨fp, h1, h2⟩ := hr
  exact ⟨fp, h1, fun b hb => ⟨(h2 b hb).1, fun ht => (h2 b hb).2.1 (h.top ht), (h2 b hb).2.2⟩⟩

theorem Wk.cell (h : Wk s s' src) (g : Gam C s X bt tm w) {a b : A1} (hw : W1 s s' src a b) {v : Value} (ha : A1Ok (cx C s bt w) a v) : A1Ok (cx C s' (fun n => bt (src n)) w) b v := by
  cases hw with
  | bot => trivial
  | data _ c y hy hm =>
    have hd := as_arg g ha hy (old := fun b => b < w.heap.size ∧ ¬ Top (fun n => look n s'.ents) (fun n => bt (src n)) b ∧ (C.b0 ≤ b ∨ C.old b))
      (fun b h1 h2 h3 => ⟨h1, fun ht => h2 (h.top ht), h3⟩)
      (fun n fr t xs u hn hl hu hfr k hk => by
        subst hfr
        have hf := g.fresh k ⟨n, _, u, hl, rfl, hu, hk⟩
        refine ⟨hf.2, ?_, .inl hf.1⟩
        rintro ⟨m, e', u', k1, k2, k3, k4⟩
        obtain ⟨e, k5, k6⟩ := h.mut k1 k2
        exact hm n hn m e' k1 k2 (g.uniq (src m) n e (.arr false t xs) u' u k k5 hl k6 rfl k3 hu k4 hk))
    obtain ⟨fp, h1, h2⟩ := hd
    exact ⟨fp, h1, fun b hb => ⟨(h2 b hb).1, (h2 b hb).2.2.2.1, (h2 b hb).2.2.2.2⟩⟩
  | own n hn => exact fun _ => ha hn
  | lp n off hn hs =>
    intro _
    obtain ⟨b, h1, h2⟩ := ha hn
    refine ⟨b, ?_, h2⟩
    show bt (src n) = _
    rw [hs]; exact h1

theorem Wk.cells (h : Wk s s' src) (g : Gam C s X bt tm w) : ∀ {l m : List A1} {vs : List Value}, WL s s' src l m → L1Ok (cx C s bt w) l vs → L1Ok (cx C s' (fun n => bt (src n)) w) m vs
  | [], [], [], _, _ => trivial
  | a :: l, b :: m, v :: vs, ⟨h1, h2⟩, ⟨k1, k2, k3⟩ => ⟨h.cell g h1 k1, k2, h.cells g h2 k3⟩
  | [], _ :: _, _, h, _ => h.elim
  | _ :: _, [], _, h, _ => h.elim
  | [], [], _ :: _, _, h => h.elim
  | _ :: _, _ :: _, [], _, h => h.elim

theorem Wk.av (h : Wk s s' src) (g : Gam C s X bt tm w) {a b : AV} (hw : WAV s s' src a b) {v : Value} (ha : AVOk (cx C s bt w) a v) : AVOk (cx C s' (fun n => bt (src n)) w) b v := by
  rcases hw with rfl | ⟨gg, l, m, rfl, rfl, hl⟩
  · exact av_bot
  · cases gg with
    | true => obtain ⟨vs, h1, h2⟩ := ha; exact ⟨vs, h1, h.cells g hl h2⟩
    | false =>
      obtain ⟨a, h1, h2, h3⟩ := ha
      subst h1
      match m, hl with
      | [b], ⟨hb, _⟩ =>
        refine ⟨b, rfl, h.cell g hb h2, ?_⟩
        rcases h3 with rfl | h3
        · cases hb with
          | bot => exact .inl rfl
          | data _ c y hy hm => cases c <;> cases hy
        · exact .inr h3
      | _ :: _ :: _, ⟨_, hb⟩ => exact hb.elim

/-- A state described anew holds of the same machine state. -/
theorem Gam.wk (g : Gam C s NoX bt tm w) (h : Wk s s' src) : Gam C s' NoX (fun n => bt (src n)) tm w where
  len := h.len.trans g.len
  env t b hx hb := by
    obtain ⟨a, h1, h2⟩ := h.env t b hb
    exact h.av g h2 (g.env t a hx h1)
  ents n e' v hl hv := by
    obtain ⟨e, h1, h2⟩ := h.ents n e' hl
    have he := g.ents (src n) e v h1 hv
    rcases h2 with ⟨l, l', rfl, rfl, hw⟩ | ⟨fr, t, xs, rfl, rfl⟩
    · obtain ⟨b, vs, T, k1, k2, k3⟩ := he
      exact ⟨b, vs, T, k1, k2, h.cells g hw k3⟩
    · cases fr with
      | true => exact h.rd he
      | false =>
        rcases he with he | ⟨gb, cap, cur, T, k1, k2, k3, k4, k5, k6, k7⟩
        · exact .inl he
        · exact .inr ⟨gb, cap, cur, T, k1, k2, k3, k4, k5, k6, fun i c hi => by
            obtain ⟨u, q1, q2⟩ := k7 i c hi; exact ⟨u, q1, h.rd q2⟩⟩
  uniq n m e f u v b h1 h2 h3 h4 h5 h6 h7 h8 := by
    obtain ⟨e', k1, k2⟩ := h.mut h1 h3
    obtain ⟨f', k3, k4⟩ := h.mut h2 h4
    exact h.inj n m e f h1 h2 h3 h4 (g.uniq _ _ e' f' u v b k1 k3 k2 k4 h5 h6 h7 h8)
  fresh b ht := g.fresh b (h.top ht)
  b0 := g.b0
  below := g.below
end
end Go.Di
