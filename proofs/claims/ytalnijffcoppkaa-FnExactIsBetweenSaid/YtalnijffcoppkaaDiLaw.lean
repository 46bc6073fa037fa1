/-
  Own work. From a law's contract to the given statement's walk.
-/
import Derived.Test.YtalnijffcoppkaaDiRead
import Derived.ChangeSame
import Derived.WideShapes
import Derived.WideKeyArgs
import Derived.OpenShut
import Derived.RowKit
open Go.RowKit (Below)
namespace Go.Di
open Go.WideShapes Go.ChangeShapes Go.RowKit

def parKs (P : Program) : List TypeId → Option (List (Bool × List CK))
  | [] => some []
  | t :: ts => match P.underlying t, tyK P 12 t with
    | some d, some ks => match parKs P ts with
      | some r => some ((aggD d, ks) :: r)
      | none => none
    | _, _ => none

section
variable {H : Type} {enc : TypeId × Value → H} {P : Program} {w : World} {base : Nat} {spare : Nat → Bool} {held : Bool}

theorem val_ok {n b0 : Nat} {t : TypeId} {v : Value} {d : TypeDesc} {ks : List CK} {x : DataW H} {ps : List MemPlace} (ht : P.underlying t = some d) (hk : tyK P n t = some ks) (ho : Value.okWide P w .any b0 t v)
    (hd : DataW.Trod enc P w base spare held t v x ps) : ∃ y : Tys ks, VOk (allOld w) (aggD d) (dataL (Tys.cells ks y)) v ∧ Tys.wf ks y := by
  obtain ⟨m, hm⟩ := hd
  obtain ⟨y, h1, h2⟩ := tyK_ok n t m _ _ ks hm hk
  refine ⟨y, ?_, h2⟩
  have one : v.oneCell' = true → VOk (allOld w) false (dataL (Tys.cells ks y)) v := by
    intro h
    have hc : v.cells = #[v] := by cases v <;> first | rfl | (simp [Value.oneCell'] at h)
    rw [hc] at h1
    obtain ⟨a, e1, e2, e3⟩ := L1Ok_single h1
    exact ⟨a, e1, e2, .inr h⟩
  cases n with
  | zero => cases hk
  | succ n =>
    unfold tyK at hk
    rw [ht] at hk
    cases d with
    | bool => obtain ⟨b, rfl⟩ := okWide_bool ht ho; exact one rfl
    | int k => obtain ⟨b, rfl⟩ := okWide_int ht ho; exact one rfl
    | string => obtain ⟨b, rfl⟩ := okWide_string ht ho; exact one rfl
    | slice e => obtain ⟨a, l, c, rfl⟩ := okWide_slice ht ho; exact one rfl
    | struct fs =>
      unfold Value.okWide at ho
      rw [ht] at ho
      obtain ⟨cs, rfl, _, _⟩ := ho
      exact ⟨cs, rfl, h1⟩
    | _ => cases hk

theorem args_read {b0 : Nat} : ∀ {ts : List TypeId} {vs : List Value} {ds : List (DataW H)} {ps : List MemPlace} {ar : List (Bool × List CK)}, parKs P ts = some ar → DataW.TrodAll enc P w base spare held ts vs ds ps →
    (∀ (j : Nat) t v, ts[j]? = some t → vs[j]? = some v → Value.okWide P w .any b0 t v) → ∃ y : Tys (insOf ar), PsOk (allOld w) (argParts ar y) vs ∧ Tys.wf (insOf ar) y ∧ ds.length = ts.length
  | [], [], [], ps, ar, h, _, _ => by cases h; exact ⟨(), trivial, trivial, rfl⟩
  | t :: ts, v :: vs, d :: ds, ps, ar, h, ⟨p, q, h1, h2, _⟩, ho => by
    unfold parKs at h
    split at h
    · rename_i de ks hde hks
      split at h
      · rename_i r hr
        cases h
        obtain ⟨y, q1, q2⟩ := val_ok hde hks (ho 0 t v rfl rfl) h1
        obtain ⟨z, q3, q4, q5⟩ := args_read hr h2 fun j t v e1 e2 => ho (j + 1) t v (by simpa using e1) (by simpa using e2)
        refine ⟨Tys.app ks (insOf r) y z, ?_, Tys.wf_app q2 q4, by simp [q5]⟩
        show VOk (allOld w) (aggD de) (dataL (Tys.cells ks (Tys.fst ks (insOf r) (Tys.app ks (insOf r) y z)))) v ∧ PsOk (allOld w) (argParts r (Tys.snd ks (insOf r) (Tys.app ks (insOf r) y z))) vs
        rw [fst_app, snd_app]
        exact ⟨q1, q3⟩
      · cases h
    · cases h
  | [], _ :: _, _, _, _, _, h, _ => h.elim
  | [], [], _ :: _, _, _, _, h, _ => h.elim
  | _ :: _, [], _, _, _, _, h, _ => h.elim
  | _ :: _, _ :: _, [], _, _, _, h, _ => h.elim

theorem trodAll_keep {sp' : Nat → Bool} (hl : laidOutB P = true) {W W' : World} : ∀ {ts : List TypeId} {vs : List Value} {ds : List (DataW H)} {ps : List MemPlace}, (ts.all fun t => P.readableRec t && Nat.blt t P.types.size) = true →
    DataW.TrodAll enc P W base (fun _ => true) true ts vs ds ps → (∀ p ∈ ps, W.sameAt W' p) → (∀ p ∈ ps, sp' p.block = true) → DataW.TrodAll enc P W' base sp' true ts vs ds ps
  | [], [], [], ps, _, h, _, _ => h
  | t :: ts, v :: vs, d :: ds, ps, hr, ⟨p, q, h1, h2, e⟩, hs, hp => by
    subst e
    simp only [List.all_cons, Bool.and_eq_true] at hr
    exact ⟨p, q, WideElems.Trod_stays hl hr.1.1 (Nat.le_of_ble_eq_true hr.1.2) h1 (fun x hx => hs x (List.mem_append_left _ hx)) (fun x hx => hp x (List.mem_append_left _ hx)),
      trodAll_keep hl hr.2 h2 (fun x hx => hs x (List.mem_append_right _ hx)) (fun x hx => hp x (List.mem_append_right _ hx)), rfl⟩
  | [], _ :: _, _, _, _, h, _, _ => h.elim
  | [], [], _ :: _, _, _, h, _, _ => h.elim
  | _ :: _, [], _, _, _, h, _, _ => h.elim
  | _ :: _, _ :: _, [], _, _, h, _, _ => h.elim

/-- A law that its contract makes true. -/
theorem law_calls {f : FuncId} {fn : Func} {s : ChangeSpec} {apart fresh handsOn again : Bool} {W : World} {b0 : Nat} {args : Array Value} {ds gs : List (DataW H)} {before : List MemPlace} {ar : List (Bool × List CK)}
    {run : Tys (insOf ar) → Option (Tys [.bool])} {t : TypeId}
    (hM : Meets P f ⟨⟨ar, false, [(false, [.data .bool])]⟩, run⟩) (hs : parKs P fn.params.toList = some ar) (hrun : ∀ x : Tys (insOf ar), Tys.wf (insOf ar) x → run x = some (true, ()))
    (hl : laidOutB P = true) (hread : (fn.params.toList.all fun t => P.readableRec t && Nat.blt t P.types.size) = true) (hrt : fn.resultTypes = #[t]) (ht : P.underlying t = some .bool)
    (hv : s.vars = []) (hspec : ∀ ds : List (DataW H), ds.length = fn.params.toList.length → s.fn H (ds ++ []) = { results := [.lit (.bool true)], args := ds })
    (hval : ∀ (j : Nat) t v, fn.params[j]? = some t → args[j]? = some v → Value.okWide P W .any b0 t v)
    (hW : DataW.Whole enc P fn.params.toList s.vars apart W args.toList ds gs before) :
    Calls P f args W fun e W' => ∃ v, e = .returned v ∧ s.post enc P fn apart fresh handsOn again W args v W' := by
  have hW0 := hW
  obtain ⟨p, q, hA, hV, rfl, hfz, hnd⟩ := hW
  rw [hv] at hV
  obtain ⟨rfl, rfl⟩ := trodVars_none hV
  obtain ⟨y, h1, h2, h3⟩ := args_read (b0 := b0) hs hA fun j t v e1 e2 => hval j t v (by simpa using e1) (by simpa using e2)
  have hy := hrun y h2
  have hc := hM W (fun _ => True) args.toList y _ hy h1
  rw [Array.toArray_toList] at hc
  refine hc.mono fun e W' ⟨v, he, hb, hG⟩ => ⟨v, he, ?_⟩
  have hsp := hspec ds h3
  have hvv : v = .bool true := by
    obtain ⟨β, _, hv'⟩ := hG 0
    obtain ⟨a, e1, e2, _⟩ := (show VOk _ false [.d (.bool true)] v from hv')
    cases e1
    obtain ⟨fp, hr, _⟩ := (e2 : Cx.rd _ v (.bool true))
    cases hr; rfl
  subst hvv
  have hlt : ∀ x ∈ p ++ [], x.block < W.heap.size := fun x hx => hW0.lt x hx
  have hold : ∀ x ∈ p ++ [], (fun b => decide (b < W.heap.size)) x.block = true := fun x hx => by simpa using hlt x hx
  have hres : ∀ (b : Nat) (sp : Nat → Bool) (hd : Bool), DataW.TrodAll enc P W' b sp hd fn.resultTypes.toList ((Value.bool true).resultList fn.resultTypes.size) (s.fn H (ds ++ [])).results [] := by
    intro b sp hd
    rw [hrt, hsp]
    exact trodAll_cons_mk (shut_bool ht true) rfl
  have hargs : ∀ sp : Nat → Bool, (∀ x ∈ p ++ [], sp x.block = true) → DataW.TrodAll enc P W' 0 sp true fn.params.toList args.toList (s.fn H (ds ++ [])).args p := by
    intro sp hsp'
    rw [hsp]
    exact trodAll_keep hl hread hA (fun x hx => hb.same (hlt x (by simpa using hx))) (fun x hx => hsp' x (by simpa using hx))
  have hvars : ∀ sp : Nat → Bool, DataW.TrodVars enc P W' sp s.vars (s.fn H (ds ++ [])).vars [] := by
    intro sp
    rw [hv, hsp]; rfl
  refine ⟨ds, [], p ++ [], [], p, [], hW0, hres _ _ _, hargs _ hold, hvars _, World.keptBut_mono (fun x hx => ⟨hx, ?_⟩) (hb.frame (· ∈ p ++ [])), fun _ => ?_⟩
  · exact .inr (.inl (by simpa using hx))
  · refine ⟨ok_one hrt rfl (okWide_bool_mk ht _), _, _, ([] ++ p) ++ [], ⟨[] ++ p, [], trodAll_append (hargs _ (fun _ _ => rfl)) (hres _ _ _), hvars _, rfl, ?_, ?_⟩, ?_⟩
    · intro b off hp
      have hin : MemPlace.cell b off ∈ p ++ [] := by simpa using hp
      rw [hb.frozen (hlt _ hin)]
      exact hfz b off hin
    · intro ha
      have := hnd ha
      simpa using this
    · intro x hx _
      simpa using hx
end
end Go.Di
