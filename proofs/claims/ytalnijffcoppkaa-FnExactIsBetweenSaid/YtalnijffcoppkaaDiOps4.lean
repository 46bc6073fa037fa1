/-
  Own work. New variables and arrays; addresses.
-/
import Derived.Test.YtalnijffcoppkaaDiOps3
import Derived.Laws.MakeOwn
open Go.RowKit (Below)
namespace Go.Di

def upd (β : Nat → Option Value) (n : Nat) (v : Value) : Nat → Option Value := fun m => if m = n then some v else β m
theorem upd_same (β : Nat → Option Value) (n : Nat) (v : Value) : upd β n v n = some v := by simp [upd]
theorem upd_other (β : Nat → Option Value) {n m : Nat} (v : Value) (h : m ≠ n) : upd β n v m = β m := by simp [upd, h]

theorem eqb_eq {t u : ST} (h : ST.eqb t u = true) : t = u := by cases t <;> cases u <;> first | rfl | (simp [ST.eqb] at h)

theorem cell_alloc (w : World) (o : Obj) (b i : Nat) (h : b < w.heap.size) : (w.alloc o).heap[b]? = w.heap[b]? := Below.heap_alloc w o b h
theorem below_alloc (w : World) (o : Obj) : Below w.heap.size w (w.alloc o) := (Below.refl _ _).alloc (Nat.le_refl _) o
theorem heap_alloc (w : World) (o : Obj) : (w.alloc o).heap[w.heap.size]? = some o := heap_alloc_new w o

section
variable {P : Program} {C : Bs} {w w' : World} {s s' : St} {X : Nat → Prop} {β β' : Nat → Option Value} {a : Act} {o : Oper} {tm : Array Value}
  {t : TypeId} {x y : Operand} {i : TI} {K : Act → World → Prop} {Q : Exit → Act → World → Prop}

theorem Gam.pushNew (g : Gam C s X β tm w) (hb : Below w.heap.size w w') {n : Nat} {e : Ent} {v : Value} (htop : ∀ b ∈ topOf v, w.heap.size ≤ b ∧ b < w'.heap.size)
    (he : Le (cx C (s.free n) β w) (cx C (s.push n e) (upd β n v) w') (fun m => m ∉ [n]) → EntOk (cx C (s.push n e) (upd β n v) w') e v) :
    Gam C (s.push n e) X (upd β n v) tm w' := by
  have g1 := g.free n
  have hno := noRef_free n s
  refine g1.putL hb [(n, e)] (by simp [names]) (fun m hm => ?_) (fun m hm => upd_other β v (by simpa [names] using hm)) (fun hle m e' hm u hu => ?_) (fun m e' u b hm hu hbu _ => ?_) (fun m k u1 u2 b hm hk hu1 hu2 _ _ => ?_)
  · simp only [names, List.map_cons, List.map_nil, List.mem_singleton] at hm; subst hm; exact hno
  · simp only [List.mem_singleton] at hm; cases hm; rw [upd_same] at hu; cases hu; exact he hle
  · simp only [List.mem_singleton] at hm; cases hm; rw [upd_same] at hu; cases hu; exact htop b hbu
  · simp [names] at hm hk; rw [hm, hk]

theorem Gam.pushBox (g : Gam C s X β tm w) {n : Nat} {l : List A1} {vs : Array Value} {T : TypeId} (h : L1Ok (cx C s β w) l vs.toList) :
    Gam C (s.push n (.box (killL n l))) X (upd β n (.pointer (some ⟨w.heap.size, 0, none⟩))) tm (w.alloc (.cells vs T)) := by
  refine g.pushNew (below_alloc w _) (fun b hb => by simp [topOf] at hb; subst hb; simp) fun hle => ?_
  refine ⟨w.heap.size, vs, T, rfl, heap_alloc w _, ?_⟩
  have h1 : L1Ok (cx C (s.free n) β w) (killL n l) vs.toList := (le_free n).l1 (killL_refs n l) (h.kill n)
  exact hle.l1 (by
    have := killL_refs n l
    intro c hc
    have h2 := this c hc
    cases c <;> first | trivial | (intro hm; simp at hm; exact h2 hm)) h1

theorem lk_push (s : St) (n : Nat) (e : Ent) : look n (s.push n e).ents = some e := by
  simp only [St.push, St.pushL, putL, look_put, if_true]

theorem alloc_sound (hL : TIOk P t i) (ho : o.op = .alloc t) (g : Gam C s X β a.tmps w) (d : Nat)
    (hK : Goes C X o a (.one (.lp (nm d) 0)) (s.push (nm d) (.box i.zero)) K) : o.wp P a w K Q := by
  obtain ⟨inf, d', z, hi, hu, hs, hag, hz, hzo, _⟩ := hL
  have hk : killL (nm d) i.zero = i.zero := by
    have : ∀ (l : List A1) (vs : List Value), zOk l vs = true → killL (nm d) l = l := by
      intro l
      induction l with
      | nil => intro _ _; rfl
      | cons b r ih =>
        intro vs h
        cases vs with
        | nil => cases h
        | cons v vs =>
          simp only [zOk, Bool.and_eq_true] at h
          simp only [killL, ih vs h.2]
          cases b <;> first | rfl | (simp [zOk1] at h)
    exact this _ _ hzo
  have gp := g.pushBox (n := nm d) (l := i.zero) (vs := z.cells) (T := t) (zOk_ok hzo)
  rw [hk] at gp
  refine wp_run (v := .pointer (some ⟨w.heap.size, 0, none⟩)) (w' := w.alloc (.cells z.cells t)) ?_ (hK _ _ _ gp ?_)
  · simp [execOp, ho, Instr.alloc, zeroValue, typeInfo, hi, hz, newVar, newRow]
  · refine av_one (fun _ => ⟨w.heap.size, upd_same .., rfl⟩) rfl

theorem box_sound (hL : TIOk P t i) (ho : o.op = .box t x) (g : Gam C s X β a.tmps w) (d : Nat) {av : AV} {l : List A1} (hx : AVOk (cx C s β w) av (a.eval x)) (hc : av.cells = some l)
    (hK : Goes C X o a (.one (.lp (nm d) 0)) (s.push (nm d) (.box (killL (nm d) l))) K) : o.wp P a w K Q := by
  obtain ⟨hcv, _⟩ := av_cells' hx hc
  have gp := g.pushBox (n := nm d) (l := l) (vs := (a.eval x).cells) (T := t) hcv
  refine wp_run (v := .pointer (some ⟨w.heap.size, 0, none⟩)) (w' := w.alloc (.cells (a.eval x).cells t)) ?_ (hK _ _ _ gp ?_)
  · simp [execOp, ho, Instr.box, newVar, newRow]
  · refine av_one (fun _ => ⟨w.heap.size, upd_same .., rfl⟩) rfl

theorem zero_cells (t : ST) : ∃ z, zeroElem t = some z ∧ ∀ vs, zOk (zeroOf t) vs = true → ∀ (x : Cx) (j : Nat) (c : Cell), (t.cells z)[j]? = some c → ∃ v, vs[j]? = some v ∧ x.rd v c := by
  have key : ∀ (l : List A1) (cs : List Cell), l.length = cs.length → (∀ (j : Nat) a c, l[j]? = some a → cs[j]? = some c → a = .d c ∨ (a = .mt ∧ ∃ u, c = .sl u [])) →
      ∀ vs, zOk l vs = true → ∀ (x : Cx) (j : Nat) (c : Cell), cs[j]? = some c → ∃ v, vs[j]? = some v ∧ x.rd v c := by
    intro l cs hlen hcor vs hz x j c hc
    have hj : j < l.length := by rw [hlen]; exact (List.getElem?_eq_some_iff.1 hc).1
    have hok : L1Ok x l vs := zOk_ok hz
    obtain ⟨v, hv, ha, _⟩ := hok.get (List.getElem?_eq_getElem hj)
    refine ⟨v, hv, ?_⟩
    rcases hcor j _ c (List.getElem?_eq_getElem hj) hc with h | ⟨h, u, rfl⟩
    · rw [h] at ha; exact ha
    · rw [h] at ha; obtain ⟨ad, rfl⟩ := ha; exact ⟨[], .emp ad u 0, by intro b hb; cases hb⟩
  cases t <;> refine ⟨_, rfl, key _ _ rfl ?_⟩
  all_goals
    intro j a c h1 h2
    (rcases j with _ | _ | _ | _ | _ | _ | _ | _ | _ | j) <;> simp [zeroOf, ST.kinds, ST.cells, ST.mk] at h1 h2 <;> (try (cases h1; cases h2)) <;> first | exact .inl rfl | exact .inr ⟨rfl, _, rfl⟩

theorem madeCells_get (z : Array Value) (n j : Nat) (h : j < n) : (madeCells z n)[j]? = some (z[j % z.size]!) := by
  simp [madeCells, h]

theorem flat_replicate (t : ST) (z : t.El) (n j : Nat) (h : j < n * t.size) : (flat t (List.replicate n z))[j]? = (t.cells z)[j % t.size]? := by
  have hp := size_pos t
  have hd : j = j / t.size * t.size + j % t.size := by rw [Nat.mul_comm]; exact (Nat.div_add_mod j t.size).symm
  have hq : j / t.size < n := Nat.div_lt_of_lt_mul (by rw [Nat.mul_comm]; exact h)
  have := flat_get t (List.replicate n z) (j / t.size) z (j % t.size) (by simp [hq]) (Nat.mod_lt _ hp)
  rw [← this]; congr 1

theorem make_sound (hL : TIOk P t i) (ho : o.op = .makeSlice t x y) (g : Gam C s X β a.tmps w) (d : Nat) {e : ST} (he : i.elem = some e) {z : e.El} (hz : zeroElem e = some z) {k1 k2 : IntKind} {n m : Int}
    (hx : a.eval x = .int k1 n) (hy : a.eval y = .int k2 m) (h0 : 0 ≤ n) (h1 : n ≤ m) (h2 : m ≤ (maxNew : Int))
    (hK : Goes C X o a (.one (.own (nm d))) (s.push (nm d) (.arr false e (List.replicate n.toNat z))) K) : o.wp P a w K Q := by
  obtain ⟨inf, d', z', hi, hu, hs, hag, hz', hzo, _, hel, _⟩ := hL
  obtain ⟨E, rfl, einf, ez, q1, q2, q3, q4, q5⟩ := hel e he
  have hmax : m ≤ 68719476736 := h2
  have hbytes : (einf.bytes : Int) * m ≤ 281474976710656 := by
    have : (einf.bytes : Int) * m ≤ 256 * 68719476736 := Int.mul_le_mul (by omega) hmax (by omega) (by omega)
    omega
  have hr := run_make (P := P) w t E einf ez hu q1 q4 k1 k2 n m h0 h1 hbytes (by omega)
  rw [q2] at hr
  have hsz : ez.cells.size = e.size := by
    have h3 : L1Ok (cx C s β w) (zeroOf e) ez.cells.toList := zOk_ok q5
    have := h3.length
    simp only [Array.length_toList] at this
    rw [← this]; cases e <;> rfl
  obtain ⟨z1, hz1, hzc⟩ := zero_cells e
  rw [hz] at hz1; cases hz1
  have gp : Gam C (s.push (nm d) (.arr false e (List.replicate n.toNat z))) X (upd β (nm d) (.slice (some ⟨w.heap.size, 0, none⟩) n.toNat m.toNat)) a.tmps
      (w.alloc (.cells (madeCells ez.cells (m.toNat * e.size)) E)) := by
    refine g.pushNew (below_alloc w _) (fun b hb => ?_) fun hle => ?_
    · cases hm : m.toNat with
      | zero => rw [hm] at hb; simp [topOf] at hb
      | succ k => rw [hm] at hb; simp [topOf] at hb; subst hb; simp
    · by_cases hm : m.toNat = 0
      · have hn : n.toNat = 0 := by omega
        exact .inl ⟨by simp [hn], _, by rw [hn, hm]⟩
      · refine .inr ⟨w.heap.size, m.toNat, _, E, by simp, by omega, by simp; omega, by unfold maxLen; omega, heap_alloc w _, by simp [madeCells], fun j c hc => ?_⟩
        have hj := (List.getElem?_eq_some_iff.1 hc).1
        rw [length_flat, List.length_replicate] at hj
        rw [flat_replicate e z _ j hj] at hc
        obtain ⟨v, hv, hr⟩ := hzc _ q5 (cx C (s.push (nm d) (.arr false e (List.replicate n.toNat z))) (upd β (nm d) (.slice (some ⟨w.heap.size, 0, none⟩) n.toNat m.toNat)) (w.alloc (.cells (madeCells ez.cells (m.toNat * e.size)) E))) _ c hc
        have hle2 : n.toNat * e.size ≤ m.toNat * e.size := Nat.mul_le_mul_right _ (by omega)
        refine ⟨v, ?_, hr⟩
        rw [madeCells_get _ _ _ (by omega), hsz]
        simp only [Array.getElem?_toList] at hv
        simp [getElem!_def, hv]
  refine wp_run (v := .slice (some ⟨w.heap.size, 0, none⟩) n.toNat m.toNat) (w' := w.alloc (.cells (madeCells ez.cells (m.toNat * e.size)) E)) ?_ (hK _ _ _ gp ?_)
  · simp [execOp, ho, hx, hy, hr]
  · exact av_one (fun _ => upd_same ..) rfl
end
end Go.Di
