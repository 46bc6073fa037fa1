/-
  Own work. Appends and slice literals, in the machine.
-/
import Derived.Test.YtalnijffcoppkaaDiOps8
open Go.RowKit (Below)
namespace Go.Di

theorem flat_append (t : ST) (xs ys : List t.El) : flat t (xs ++ ys) = flat t xs ++ flat t ys := by simp [flat]

theorem both_ok {x : Cx} {t : ST} {xs ys : List t.El} {olds news rest : List Value} {cur : Array Value} (hc : cur.toList = olds ++ news ++ rest) (hl : olds.length = xs.length * t.size) (hn : news.length = ys.length * t.size)
    (h1 : ∀ (j : Nat) (c : Cell), (flat t xs)[j]? = some c → ∃ u, olds[j]? = some u ∧ x.rd u c) (h2 : ∀ (j : Nat) (c : Cell), (flat t ys)[j]? = some c → ∃ u, news[j]? = some u ∧ x.rd u c) :
    ∀ (i : Nat) (c : Cell), (flat t (xs ++ ys))[i]? = some c → ∃ u, cur[i]? = some u ∧ x.rd u c := by
  intro i c hi
  have hlt := (List.getElem?_eq_some_iff.1 hi).1
  rw [flat_append, List.length_append, length_flat, length_flat] at hlt
  rw [flat_append] at hi
  rw [← Array.getElem?_toList, hc, get_three]
  by_cases h : i < olds.length
  · rw [List.getElem?_append_left (by rw [length_flat]; omega)] at hi
    rw [if_pos h]; exact h1 i c hi
  · rw [List.getElem?_append_right (by rw [length_flat]; omega), length_flat] at hi
    rw [if_neg h, if_pos (by omega), hl]; exact h2 _ c hi

section
variable {P : Program} {C : Bs} {w w' : World} {s s' : St} {X : Nat → Prop} {β β' : Nat → Option Value} {a : Act} {o : Oper} {tm : Array Value}
  {t : TypeId} {x y : Operand} {i : TI} {K : Act → World → Prop} {Q : Exit → Act → World → Prop}

theorem zero_size {E : TypeId} {e : ST} {ez : Value} (q5 : zOk (zeroOf e) ez.cells.toList = true) : ez.cells.size = e.size := by
  have h3 : L1Ok ⟨default, fun _ => none, fun _ => none, fun _ => True⟩ (zeroOf e) ez.cells.toList := zOk_ok q5
  have := h3.length
  simp only [Array.length_toList] at this
  rw [← this]; cases e <;> rfl

theorem run_call_append {ty : TypeId} {v1 v2 : Value} {r : Value} (ho : o.op = .call { callee := .builtin .append, args := #[x, y], argTypes := #[t, t] }) (hx : a.eval x = v1) (hy : a.eval y = v2)
    (h : (Builtin.append_ #[t, t] o.type #[v1, v2]).run P w = .ok r w') : (execOp a.eval o).run P w = .ok (.value r) w' := by
  simp [execOp, ho, resolve, invoke, builtin, hx, hy, h]

theorem append_mt (hL : TIOk P t i) {e : ST} (he : i.elem = some e) (ho : o.op = .call { callee := .builtin .append, args := #[x, y], argTypes := #[t, t] }) (g : Gam C s X β a.tmps w) (d : Nat) {b : A1} {ys : List e.El}
    {ad : Option Addr} (hx : a.eval x = .slice ad 0 0) (hy : AVOk (cx C s β w) (.v false [b]) (a.eval y)) (hb : asList s.ents e b = some ys) (hmax : ys.length ≤ maxNew)
    (hK : Goes C X o a (.one (.own (nm d))) (s.push (nm d) (.arr false e ys)) K) : o.wp P a w K Q := by
  obtain ⟨inf, d', z', hi, hu, _, _, _, _, _, hel, _⟩ := hL
  obtain ⟨E, rfl, einf, ez, q1, q2, q3, q4, q5⟩ := hel e he
  obtain ⟨a1, h1, h2, _⟩ := hy; cases h1
  obtain ⟨news, hn, hnr⟩ := elems_as g h2 hb
  rw [← q2] at hn
  have hmx : ys.length ≤ 68719476736 := hmax
  by_cases h0 : ys.length = 0
  · have hys : ys = [] := List.eq_nil_of_length_eq_zero h0
    subst hys
    have hr : (Builtin.append_ #[t, t] o.type #[.slice ad 0 0, a.eval y]).run P w = .ok (.slice ad 0 0) w := by
      obtain ⟨hf, hl⟩ := hn.first (P := P) (w' := w) fun _ _ => rfl
      have hnn : news = [] := List.eq_nil_of_length_eq_zero (by simpa using hn.1)
      subst hnn
      simp only [List.length_nil] at hf hl
      cases ad <;> simp [Builtin.append_, run_underlying hu, sizeOf, typeInfo, q1, hl, hf, storeCells]
    have gp := g.pushNew (Below.refl _ _) (n := nm d) (e := .arr false e []) (v := .slice ad 0 0) (fun b hb => by cases ad <;> simp [topOf] at hb) fun _ => .inl ⟨rfl, ad, rfl⟩
    exact wp_run (run_call_append (ty := o.type) ho hx rfl hr) (hK _ _ _ gp (av_one (a := .own _) (fun _ => upd_same ..) rfl))
  · have hfo : (Builtin.firstCells einf.size 0 (.slice ad 0 0)).run P w.drew = .ok ([] : List Value).toArray w.drew := by
      cases ad <;> simp [Builtin.firstCells, loadCells, loadCellsFrom]
    obtain ⟨cap, hcap, hcm, hr⟩ := run_append_grows (P := P) (ty := o.type) (w := w) hu q1 q4 (ad := ad) (sLen := 0) (sCap := 0) (olds := []) hfo hn (by omega) (by omega) (by rw [Nat.zero_add]; calc ys.length * einf.bytes ≤ 68719476736 * 256 := Nat.mul_le_mul hmx q3
      _ ≤ _ := by decide)
    simp only [Nat.zero_add] at hr hcap hcm
    have hbel : Below w.heap.size w (w.drew.alloc (.cells (([] : List Value).toArray ++ news.toArray ++ Builtin.zeroCells ez.cells (cap - ys.length)) E)) := ((Below.refl _ _).drew).alloc (Nat.le_refl _) _
    have gp := g.pushNew hbel (n := nm d) (e := .arr false e ys) (v := .slice (some ⟨w.heap.size, 0, none⟩) ys.length cap) (fun b hb => by
        cases cap with
        | zero => omega
        | succ k => simp [topOf] at hb; subst hb; simp) fun hle => .inr ⟨w.heap.size, cap, _, E, rfl, by omega, hcap, hcm (by unfold maxLen; omega), heap_alloc w.drew _, by
          simp only [Array.size_append, List.size_toArray, List.length_nil, size_zeroCells, zero_size (E := E) q5, hn.1, q2, Nat.zero_add, ← Nat.add_mul]; congr 1; omega, fun j c hc => by
          obtain ⟨u, hu', hr'⟩ := hnr j c hc
          refine ⟨u, ?_, hle.rd ((le_free (nm d)).rd hr')⟩
          have hj := (List.getElem?_eq_some_iff.1 hu').1
          have hj2 := (List.getElem?_eq_some_iff.1 hu').2
          simp only [Array.empty_append]
          rw [Array.getElem?_append_left (by simpa using hj)]; simpa using hu'⟩
    exact wp_run (run_call_append (ty := o.type) ho hx rfl hr) (hK _ _ _ gp (av_one (a := .own _) (fun _ => upd_same ..) rfl))

theorem append_own (hL : TIOk P t i) {e : ST} (he : i.elem = some e) (ho : o.op = .call { callee := .builtin .append, args := #[x, y], argTypes := #[t, t] }) (g : Gam C s X β a.tmps w) (d : Nat) {n : Nat} {b : A1} {xs ys : List e.El}
    (hl : look n s.ents = some (.arr false e xs)) (hx : AVOk (cx C s β w) (.v false [.own n]) (a.eval x)) (hy : AVOk (cx C s β w) (.v false [b]) (a.eval y)) (hb : asList s.ents e b = some ys) (hmax : xs.length + ys.length ≤ maxNew)
    (hK : Goes C X o a (.one (.own (nm d))) ((s.free n).push (nm d) (.arr false e (xs ++ ys))) K) : o.wp P a w K Q := by
  obtain ⟨a1, h1, hxn, _⟩ := hx; cases h1
  have hβ := hxn (by simp [cx, hl])
  have hent := g.ents n _ _ hl hβ
  rcases hent with ⟨h0, ad, hv⟩ | ⟨gb, cap, cur, T, hv, hc0, hlc, hcm, hg, hcs, hold⟩
  · subst h0
    have hK' : Goes C X o a (.one (.own (nm d))) ((s.free n).push (nm d) (.arr false e ys)) K := by simpa using hK
    -- as at an empty slice, behind the name's being freed
    obtain ⟨inf, d', z', hi, hu, _, _, _, _, _, hel, _⟩ := hL
    obtain ⟨E, rfl, einf, ez, q1, q2, q3, q4, q5⟩ := hel e he
    obtain ⟨a1, h1, h2, _⟩ := hy; cases h1
    obtain ⟨news, hn, hnr⟩ := elems_as g h2 hb
    rw [← q2] at hn
    have hmx : ys.length ≤ 68719476736 := by simpa [maxNew] using hmax
    by_cases h0 : ys.length = 0
    · have hys : ys = [] := List.eq_nil_of_length_eq_zero h0
      subst hys
      have hr : (Builtin.append_ #[t, t] o.type #[.slice ad 0 0, a.eval y]).run P w = .ok (.slice ad 0 0) w := by
        obtain ⟨hf, hl⟩ := hn.first (P := P) (w' := w) fun _ _ => rfl
        have hnn : news = [] := List.eq_nil_of_length_eq_zero (by simpa using hn.1)
        subst hnn
        simp only [List.length_nil] at hf hl
        cases ad <;> simp [Builtin.append_, run_underlying hu, sizeOf, typeInfo, q1, hl, hf, storeCells]
      have gp := (g.free n).pushNew (Below.refl _ _) (n := nm d) (e := .arr false e []) (v := .slice ad 0 0) (fun b hb => by cases ad <;> simp [topOf] at hb) fun _ => .inl ⟨rfl, ad, rfl⟩
      exact wp_run (run_call_append (ty := o.type) ho hv rfl hr) (hK' _ _ _ gp (av_one (a := .own _) (fun _ => upd_same ..) rfl))
    · have hfo : (Builtin.firstCells einf.size 0 (.slice ad 0 0)).run P w.drew = .ok ([] : List Value).toArray w.drew := by
        cases ad <;> simp [Builtin.firstCells, loadCells, loadCellsFrom]
      obtain ⟨cap, hcap, hcm, hr⟩ := run_append_grows (P := P) (ty := o.type) (w := w) hu q1 q4 (ad := ad) (sLen := 0) (sCap := 0) (olds := []) hfo hn (by omega) (by omega) (by rw [Nat.zero_add]; calc ys.length * einf.bytes ≤ 68719476736 * 256 := Nat.mul_le_mul hmx q3
        _ ≤ _ := by decide)
      simp only [Nat.zero_add] at hr hcap hcm
      have hbel : Below w.heap.size w (w.drew.alloc (.cells (([] : List Value).toArray ++ news.toArray ++ Builtin.zeroCells ez.cells (cap - ys.length)) E)) := ((Below.refl _ _).drew).alloc (Nat.le_refl _) _
      have gp := (g.free n).pushNew hbel (n := nm d) (e := .arr false e ys) (v := .slice (some ⟨w.heap.size, 0, none⟩) ys.length cap) (fun b hb => by
          cases cap with
          | zero => omega
          | succ k => simp [topOf] at hb; subst hb; simp) fun hle => .inr ⟨w.heap.size, cap, _, E, rfl, by omega, hcap, hcm (by unfold maxLen; omega), heap_alloc w.drew _, by
            simp only [Array.size_append, List.size_toArray, List.length_nil, size_zeroCells, zero_size (E := E) q5, hn.1, q2, Nat.zero_add, ← Nat.add_mul]; congr 1; omega, fun j c hc => by
            obtain ⟨u, hu', hr'⟩ := hnr j c hc
            refine ⟨u, ?_, hle.rd ((le_free (nm d)).rd ((le_free n).rd hr'))⟩
            have hj := (List.getElem?_eq_some_iff.1 hu').1
            simp only [Array.empty_append]
            rw [Array.getElem?_append_left (by simpa using hj)]; simpa using hu'⟩
      exact wp_run (run_call_append (ty := o.type) ho hv rfl hr) (hK' _ _ _ gp (av_one (a := .own _) (fun _ => upd_same ..) rfl))
  · obtain ⟨newo, hno, hnor⟩ := elems_arr (g.ents n _ _ hl hβ)
    obtain ⟨inf, d', z', hi, hu, _, _, _, _, _, hel, _⟩ := hL
    obtain ⟨E, rfl, einf, ez, q1, q2, q3, q4, q5⟩ := hel e he
    obtain ⟨a1, h1, h2, _⟩ := hy; cases h1
    obtain ⟨news, hn, hnr⟩ := elems_as g h2 hb
    rw [← q2] at hn hno
    have hmx : xs.length + ys.length ≤ 68719476736 := hmax
    have hcl : cur.toList.length = cap * e.size := by simpa using hcs
    have hcl2 : (cur.toList.take (xs.length * einf.size)).length = xs.length * e.size := by
      have := Nat.mul_le_mul_right e.size hlc
      rw [List.length_take, hcl, q2]; omega
    have htopv : ∀ c, 0 < c → topOf (.slice (some ⟨gb, 0, none⟩) xs.length c) = [gb] := fun c hc => by cases c with | zero => omega | succ k => rfl
    have hb0 : C.b0 ≤ gb := (g.fresh gb ⟨n, _, _, hl, rfl, hβ, by rw [hv, htopv cap hc0]; simp⟩).1
    by_cases hroom : xs.length + ys.length ≤ cap
    · have hfit : xs.length * einf.size + news.length ≤ cur.size := by rw [hn.1, hcs, q2, ← Nat.add_mul]; exact Nat.mul_le_mul_right _ hroom
      have hr := run_append_fits (P := P) (z := ez) (ty := o.type) hu q1 hg hn hroom hfit
      have gp := g.swap (n := n) (m := nm d) (e' := .arr false e (xs ++ ys)) (v' := .slice (some ⟨gb, 0, none⟩) (xs.length + ys.length) cap) hl rfl hβ (w' := w.setRow gb (cur.toList.take (xs.length * einf.size) ++ news ++ cur.toList.drop (xs.length * einf.size + news.length)).toArray)
        (fun k hk hnk => setRow_other w gb k _ fun e' => hnk (by rw [hv, htopv cap hc0, e']; simp)) (by simp [World.setRow]) (below_setRow hb0 _)
        (fun k hk => .inl (by rw [hv, htopv cap hc0]; cases cap with | zero => omega | succ q => simpa [topOf] using hk)) fun hle => .inr ⟨gb, cap, _, T, by simp, hc0, by simpa using hroom, hcm, setRow_heap w gb cur _ T (0, 0) hg, by
          simp only [List.size_toArray, List.length_append, List.length_take, List.length_drop, Array.length_toList]; omega,
          both_ok (x := cx C ((s.free n).push (nm d) (.arr false e (xs ++ ys))) (upd β (nm d) (.slice (some ⟨gb, 0, none⟩) (xs.length + ys.length) cap)) (w.setRow gb (cur.toList.take (xs.length * einf.size) ++ news ++ cur.toList.drop (xs.length * einf.size + news.length)).toArray))
            (olds := cur.toList.take (xs.length * einf.size)) (news := news) (rest := cur.toList.drop (xs.length * einf.size + news.length)) rfl (hcl2) (by rw [hn.1, q2])
            (fun j c hj => by
              obtain ⟨u, hu', hr'⟩ := hold j c hj
              have hjl := (List.getElem?_eq_some_iff.1 hj).1
              rw [length_flat] at hjl
              exact ⟨u, by rw [List.getElem?_take_of_lt (by rw [q2]; exact hjl)]; simpa using hu', hle.rd hr'⟩)
            (fun j c hj => by obtain ⟨u, hu', hr'⟩ := hnr j c hj; exact ⟨u, hu', hle.rd hr'⟩)⟩
      exact wp_run (run_call_append (ty := o.type) ho hv rfl hr) (hK _ _ _ gp (av_one (a := .own _) (fun _ => upd_same ..) rfl))
    · have hfo : (Builtin.firstCells einf.size xs.length (.slice (some ⟨gb, 0, none⟩) xs.length cap)).run P w.drew = .ok newo.toArray w.drew := by
        rw [← hv]; exact (hno.first (P := P) (w' := w.drew) fun _ _ => rfl).1
      obtain ⟨cap', hcap, hcm', hr⟩ := run_append_grows (P := P) (ty := o.type) (w := w) hu q1 q4 hfo hn (by omega) (by omega) (by calc (xs.length + ys.length) * einf.bytes ≤ 68719476736 * 256 := Nat.mul_le_mul hmx q3
        _ ≤ _ := by decide)
      have gp := g.swap (n := n) (m := nm d) (e' := .arr false e (xs ++ ys)) (v' := .slice (some ⟨w.heap.size, 0, none⟩) (xs.length + ys.length) cap') hl rfl hβ (w' := w.drew.alloc (.cells (newo.toArray ++ news.toArray ++ Builtin.zeroCells ez.cells (cap' - (xs.length + ys.length))) E))
        (fun k hk _ => Below.heap_alloc w.drew _ k hk) (by simp) (((Below.refl _ _).drew).alloc g.b0 _)
        (fun k hk => .inr (by cases cap' with | zero => omega | succ q => simp [topOf] at hk; subst hk; simp)) fun hle => .inr ⟨w.heap.size, cap', _, E, by simp, by omega, by simpa using hcap, hcm' (by unfold maxLen; omega), heap_alloc w.drew _, by
          simp only [Array.size_append, List.size_toArray, size_zeroCells, zero_size (E := E) q5, hn.1, hno.1, q2, ← Nat.add_mul]; congr 1; omega,
          both_ok (x := cx C ((s.free n).push (nm d) (.arr false e (xs ++ ys))) (upd β (nm d) (.slice (some ⟨w.heap.size, 0, none⟩) (xs.length + ys.length) cap')) (w.drew.alloc (.cells (newo.toArray ++ news.toArray ++ Builtin.zeroCells ez.cells (cap' - (xs.length + ys.length))) E)))
            (olds := newo) (news := news) (rest := (Builtin.zeroCells ez.cells (cap' - (xs.length + ys.length))).toList) (by simp) (by rw [hno.1, q2]) (by rw [hn.1, q2])
            (fun j c hj => by obtain ⟨u, hu', hr'⟩ := hnor j c hj; exact ⟨u, hu', hle.rd hr'⟩)
            (fun j c hj => by obtain ⟨u, hu', hr'⟩ := hnr j c hj; exact ⟨u, hu', hle.rd hr'⟩)⟩
      exact wp_run (run_call_append (ty := o.type) ho hv rfl hr) (hK _ _ _ gp (av_one (a := .own _) (fun _ => upd_same ..) rfl))
end
end Go.Di
