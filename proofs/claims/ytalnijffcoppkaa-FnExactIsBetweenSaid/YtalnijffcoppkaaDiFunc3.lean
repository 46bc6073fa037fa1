/-
  Own work. A function meets the contract that the evaluator computes from its text.
-/
import Derived.Test.YtalnijffcoppkaaDiFunc2
open Go.RowKit (Below)
namespace Go.Di

section
variable {P : Program} {C : Bs} {w w' : World} {s s' : St} {X : Nat → Prop} {bt : Nat → Option Value} {a : Act} {lay : List (TypeId × TI)}

def resSem (tmps : Array Value) : ResultVar → Sem Value
  | .tmp t => pure (tmps.getD t undef)
  | .cell a t => do loadVar t (← asAddr (tmps.getD a undef))

theorem resVal_ok (hL : LayOk P lay) (g : Gam C s NoX bt a.tmps w) {r : ResultVar} {p : Bool × List A1} (h : resVal lay s r = some p) : ∃ v, (resSem a.tmps r).run P w = .ok v w ∧ VOk (cx C s bt w) p.1 p.2 v := by
  have op : ∀ t, AVOk (cx C s bt w) (s.get t) (a.tmps.getD t undef) := fun t => opnd_ok g (x := .tmp t) (fun _ _ hx => hx)
  cases r with
  | tmp t =>
    simp only [resVal] at h
    split at h
    · rename_i b l hg
      cases h
      have := op t
      rw [hg] at this
      exact ⟨_, rfl, this⟩
    · cases h
  | cell t T =>
    simp only [resVal] at h
    split at h
    · rename_i i n off hi hg
      split at h
      · rename_i l hl
        split at h
        · rename_i c hw
          cases h
          have hv := op t
          rw [hg] at hv
          obtain ⟨a1, e1, e2, _⟩ := hv; cases e1
          obtain ⟨b, vs, T', hb, hv, hh, hok⟩ := lp_val g hl e2
          obtain ⟨v, hr, hv'⟩ := load_ok (x := cx C s bt w) (hL T i hi) (b := b) (q := 0) (fun j a1 ha => by
            obtain ⟨u, hu, k⟩ := hok.get ha
            refine ⟨u, ?_, k⟩
            simp only [Nat.zero_add]
            show w.cell? _ = _
            rw [cell_of_row _ b j vs T' (0, 0) hh]; simpa using hu) hw
          refine ⟨v, ?_, hv'⟩
          simp only [Nat.zero_add] at hr
          have hr : (loadVar T ⟨b, off, none⟩).run P w = .ok v w := hr
          simp [resSem, hv, asAddr, hr]
        · cases h
      · cases h
    · cases h

theorem resVals_ok (hL : LayOk P lay) (g : Gam C s NoX bt a.tmps w) : ∀ {rl : List ResultVar} {ps : List (Bool × List A1)}, resVals lay s rl = some ps → ∃ vs, (rl.mapM (resSem a.tmps)).run P w = .ok vs w ∧ PsOk (cx C s bt w) ps vs ∧ vs.length = rl.length
  | [], ps, h => by cases h; exact ⟨[], by simp, trivial, rfl⟩
  | r :: rl, ps, h => by
    unfold resVals at h
    cases h1 : resVal lay s r with
    | none => rw [h1] at h; cases h
    | some p =>
      rw [h1] at h
      cases h2 : resVals lay s rl with
      | none => rw [h2] at h; cases h
      | some l =>
        rw [h2] at h; cases h
        obtain ⟨v, q1, q2⟩ := resVal_ok hL g h1
        obtain ⟨vs, q3, q4, q5⟩ := resVals_ok hL g h2
        exact ⟨v :: vs, by simp [List.mapM_cons, q1, q3], ⟨q2, q4⟩, by simp [q5]⟩

theorem results_ok (hL : LayOk P lay) (g : Gam C s NoX bt a.tmps w) {fn : Func} {ps : List (Bool × List A1)} (h : resVals lay s fn.results.toList = some ps) {tup : Bool} (ht : tup = !(Nat.beq fn.results.toList.length 1)) :
    ∃ v vs, (results fn a.tmps).run P w = .ok v w ∧ PsOk (cx C s bt w) ps vs ∧ ∀ (y : Cx) (qs : List (Bool × List A1)), PsOk y qs vs → AVOk y (mkRes tup qs) v := by
  obtain ⟨vs, h1, h2, h3⟩ := resVals_ok hL g h
  have hm : (fn.results.mapM (resSem a.tmps)).run P w = .ok vs.toArray w := by
    rw [Array.mapM_eq_mapM_toList]; simp [h1]
  have hr : results fn a.tmps = (do let vs ← fn.results.mapM (resSem a.tmps); pure (if h : vs.size = 1 then vs[0] else .tuple vs)) := rfl
  by_cases hl : vs.length = 1
  · obtain ⟨v, rfl⟩ : ∃ v, vs = [v] := List.length_eq_one_iff.1 hl
    refine ⟨v, [v], by rw [hr]; simp [hm], h2, fun y qs hq => ?_⟩
    have : tup = false := by rw [ht, ← h3]; rfl
    subst this
    match qs, hq with
    | [(b, l)], ⟨hq, _⟩ => exact hq
    | [], hq => exact hq.elim
    | _ :: _ :: _, ⟨_, hq⟩ => exact hq.elim
  · refine ⟨.tuple vs.toArray, vs, by rw [hr]; simp [hm, hl], h2, fun y qs hq => ?_⟩
    have hne : fn.results.toList.length ≠ 1 := by omega
    have : tup = true := by
      rw [ht]
      cases hb : Nat.beq fn.results.toList.length 1 with
      | true => exact absurd (Nat.eq_of_beq_eq_true hb) hne
      | false => rfl
    subst this
    have : mkRes true qs = .tup qs := by
      unfold mkRes; rfl
    rw [this]; exact ⟨vs.toArray, rfl, hq⟩

theorem PsOk.length {x : Cx} : ∀ {ps : List (Bool × List A1)} {vs : List Value}, PsOk x ps vs → ps.length = vs.length
  | [], [], _ => rfl
  | _ :: _, _ :: _, ⟨_, h⟩ => by simp [h.length]
  | [], _ :: _, h => h.elim
  | _ :: _, [], h => h.elim

theorem PsOk.get {x : Cx} : ∀ {ps : List (Bool × List A1)} {vs : List Value}, PsOk x ps vs → ∀ {j : Nat} {p : Bool × List A1}, ps[j]? = some p → ∃ v, vs[j]? = some v ∧ VOk x p.1 p.2 v
  | [], [], _, j, p, h => by simp at h
  | q :: ps, v :: vs, ⟨h1, h2⟩, 0, p, h => by simp at h; subst h; exact ⟨v, rfl, h1⟩
  | q :: ps, v :: vs, ⟨h1, h2⟩, j + 1, p, h => by simp at h; simpa using h2.get h
  | [], _ :: _, h, _, _, _ => h.elim
  | _ :: _, [], h, _, _, _ => h.elim

theorem init_gam {old : Nat → Prop} {ps : List (Bool × List A1)} {args : List Value} (h : PsOk (argCx w old) ps args) (n : Nat) :
    Gam ⟨w.heap.size, w, old⟩ (initSt ps n) NoX (fun _ => none) (args.toArray ++ Array.replicate (n - args.toArray.size) undef) w := by
  have hlen := h.length
  have hle : Le (argCx w old) (cx ⟨w.heap.size, w, old⟩ (initSt ps n) (fun _ => none) w) (fun _ => True) :=
    ⟨fun _ h => .inr h, fun _ _ _ => rfl, Nat.le_refl _, fun b _ ht => (by obtain ⟨m, e, v, h1, _⟩ := ht; cases h1), fun _ _ => .inl rfl⟩
  refine ⟨(by simp [initSt, hlen]), fun t av _ ht => ?_, fun m e v h1 _ => (by cases h1), fun m k e f u v b h1 => (by cases h1), fun b hb => (by obtain ⟨m, e, v, h1, _⟩ := hb; cases h1), Nat.le_refl _, Below.refl _ _⟩
  simp only [initSt] at ht
  by_cases hj : t < ps.length
  · rw [List.getElem?_append_left (by simpa using hj)] at ht
    rw [List.getElem?_map] at ht
    cases hp : ps[t]? with
    | none => simp [hp] at ht
    | some p =>
      simp [hp] at ht; subst ht
      obtain ⟨v, hv, hok⟩ := h.get hp
      have hta : t < args.length := by omega
      have : (args.toArray ++ Array.replicate (n - args.toArray.size) undef).getD t undef = v := by
        rw [Array.getD_eq_getD_getElem?, Array.getElem?_append_left (by simpa using hta)]
        simp [hv]
      rw [this]
      exact hle.v (L1refs_true _) hok
  · rw [List.getElem?_append_right (by simpa using hj)] at ht
    have : av = .bot := by
      have := List.mem_of_getElem? ht
      exact List.eq_of_mem_replicate this
    subst this; exact av_bot

/-- **A function meets the contract that the evaluator computes.** -/
theorem meets_of {E : Env} {f : FuncId} {fn : Func} {code : Code} (hm : P.follows .mixedOrders = true) (hL : LayOk P E.lay) (hC : ConsOk P E.cons) (hf : P.funcs[f]? = some fn) (hb : fn.body = some code) (sg : Sig) (ht : sg.tup = !(Nat.beq fn.results.toList.length 1))
    (hD : drawsOk E.plans code = true) (hl : ∀ body ∈ loopsIn code, ∀ m, findLM (keyOf body) E.loops = some m → LoopOk P m body) : Meets P f ⟨sg, runF E fn sg⟩ := by
  intro w old args x y hrun hargs
  have hrun' : evalC E code (initSt (argParts sg.args x) fn.ntmps) (leaf E.lay fn.results.toList sg) = some y := by
    have : runF E fn sg x = some y := hrun
    unfold runF at this; rw [hb] at this; exact this
  refine calls_of_wp hf hb (evalC_sound hm hL hC code hD hl (init_gam hargs fn.ntmps) rfl hrun' fun e s bt a w' g hd hk => ?_)
  have fin : leaf E.lay fn.results.toList sg .ret s = some y → bodyPost P fn (fun e w' => ∃ v, e = .returned v ∧ Below w.heap.size w w' ∧ ∀ n0, ∃ β, Gam ⟨w.heap.size, w, old⟩ ⟨[], putL (resParts n0 sg.res y).2 []⟩ (fun _ => True) β #[] w' ∧
        AVOk (cx ⟨w.heap.size, w, old⟩ ⟨[], putL (resParts n0 sg.res y).2 []⟩ β w') (mkRes sg.tup (resParts n0 sg.res y).1) v) .ret a w' := by
    intro hk
    unfold leaf at hk
    simp only at hk
    split at hk
    · rename_i ps hps
      split at hk
      · rename_i hchk
        simp only [Bool.and_eq_true] at hchk
        obtain ⟨v, vs, h1, h2, h3⟩ := results_ok hL g hps ht
        refine ⟨hd, v, h1, v, rfl, g.below, fun n0 => ?_⟩
        obtain ⟨G, hG⟩ := result_out g hk h2 (nodupN_ok hchk.1) (apartN_ok hchk.2) n0
        exact ⟨_, G, h3 _ _ hG⟩
      · cases hk
    · cases hk
  cases e with
  | normal => exact fin hk
  | ret => exact fin hk
  | exit i => cases hk
end
end Go.Di
