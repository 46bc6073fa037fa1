/-
  Own work: part 8 of the texts that the proof of the given statement leans on.
-/
import Derived.Test.YtmkoafebmfoeaaaProg
import Derived.Test.YtmkoafebmfoeaaaZRootOfNatP00
/-
  Own work, written by program (gen.py): the functions that the statement reaches meet their contracts.
-/
open Go Go.Di Go.Proofs
namespace Go.Proofs.Ytmkoafebmfoeaaa.WRootOfNat
noncomputable def lay : List (TypeId × TI) := [
  (3, ⟨false, [.d (.int .i64 0)], [], none, some (.int .i64), false⟩),
  (23, ⟨false, [.mt], [], some .int, none, false⟩)]
theorem lay_ok : LayOk Try.prog lay := layOk_ok (by kernel_rfl)
theorem mix : Try.prog.follows .mixedOrders = true := by kernel_rfl

noncomputable def sg_laws_toIntS : Sig := ⟨[(false, [.d (.sl .int)])], [], false, [(false, [.own 0])], [(0, .arr false .int)]⟩
noncomputable def c_laws_toIntS : Con := ⟨sg_laws_toIntS, List Int, fun x => M_laws_toIntS x.1, fun r => (r, ())⟩
noncomputable def code_laws_toIntS : Code := Try.f18.body.getD .skip
noncomputable def body_laws_toIntS_0 : Code := (loopsIn code_laws_toIntS).getD 0 .skip
noncomputable def D_laws_toIntS_0 : LoopD := ⟨⟨mkSlots [(0, false, [.d (.sl .int)]), (3, false, [.own 1472]), (4, false, [.d (.int .i64)])] 22 0, [(1472, .arr false .int)]⟩, [], [(.exit 0, ⟨mkSlots [(3, false, [.own 1472])] 22 0, [(1472, .arr false .int)]⟩, [])]⟩
noncomputable def S_laws_toIntS_0_w (x : Tys D_laws_toIntS_0.head.ks) : Option (OutT D_laws_toIntS_0.outs) := @whileO ((List Int) × Int × (List Int) × Unit) ((List Int) × Unit) S_laws_toIntS_0 x
noncomputable def E_laws_toIntS : Env := ⟨lay, [], [(3, mkLM D_laws_toIntS_0 S_laws_toIntS_0_w)], []⟩
theorem cons_laws_toIntS : ConsOk Try.prog E_laws_toIntS.cons := consOk_nil
theorem S_laws_toIntS_0_ok (x : Tys D_laws_toIntS_0.head.ks) : stepL E_laws_toIntS D_laws_toIntS_0 body_laws_toIntS_0 x = S_laws_toIntS_0 x := by kernel_rfl
theorem loops_laws_toIntS_0 : loopsIn body_laws_toIntS_0 = [] := by kernel_rfl
theorem l_laws_toIntS_0 : LoopOk Try.prog (mkLM D_laws_toIntS_0 S_laws_toIntS_0_w) body_laws_toIntS_0 := loop_ok2 mix lay_ok cons_laws_toIntS (by kernel_rfl) (loops_mem loops_laws_toIntS_0 (trivial)) S_laws_toIntS_0_ok fun _ _ h => h
theorem loops_laws_toIntS : loopsIn code_laws_toIntS = [body_laws_toIntS_0] := by kernel_rfl
theorem m_laws_toIntS : Meets Try.prog 18 c_laws_toIntS := meets_of (E := E_laws_toIntS) (code := code_laws_toIntS) mix lay_ok cons_laws_toIntS Try.func18 (by kernel_rfl) sg_laws_toIntS (by kernel_rfl) (fun y => y.1) c_laws_toIntS.out (fun _ => rfl) c_laws_toIntS.run (fun x => by kernel_rfl) (by kernel_rfl) (loops_mem loops_laws_toIntS (⟨⟨_, by kernel_rfl, l_laws_toIntS_0⟩, trivial⟩))

noncomputable def sg_spec_l01In : Sig := ⟨[(false, [.d (.int .i64)]), (false, [.d (.int .i64)]), (false, [.d (.int .i64)])], [], false, [(false, [.d (.bool)])], []⟩
noncomputable def c_spec_l01In : Con := ⟨sg_spec_l01In, Bool, fun x => M_spec_l01In x.1 x.2.1 x.2.2.1, fun r => (r, ())⟩
noncomputable def code_spec_l01In : Code := Try.f83.body.getD .skip
noncomputable def E_spec_l01In : Env := ⟨lay, [], [], []⟩
theorem cons_spec_l01In : ConsOk Try.prog E_spec_l01In.cons := consOk_nil
theorem loops_spec_l01In : loopsIn code_spec_l01In = [] := by kernel_rfl
theorem m_spec_l01In : Meets Try.prog 83 c_spec_l01In := meets_of (E := E_spec_l01In) (code := code_spec_l01In) mix lay_ok cons_spec_l01In Try.func83 (by kernel_rfl) sg_spec_l01In (by kernel_rfl) (fun y => y.1) c_spec_l01In.out (fun _ => rfl) c_spec_l01In.run (fun x => by kernel_rfl) (by kernel_rfl) (loops_mem loops_spec_l01In (trivial))

noncomputable def sg_spec_NatOk : Sig := ⟨[(false, [.d (.sl .int)])], [], false, [(false, [.d (.bool)])], []⟩
noncomputable def c_spec_NatOk : Con := ⟨sg_spec_NatOk, Bool, fun x => M_spec_NatOk x.1, fun r => (r, ())⟩
noncomputable def code_spec_NatOk : Code := Try.f79.body.getD .skip
noncomputable def body_spec_NatOk_0 : Code := (loopsIn code_spec_NatOk).getD 0 .skip
noncomputable def D_spec_NatOk_0 : LoopD := ⟨⟨mkSlots [(0, false, [.d (.sl .int)]), (5, false, [.d (.sl .int)]), (6, false, [.d (.int .i64)]), (7, false, [.d (.int .i64)])] 32 0, []⟩, [], [(.ret, ⟨mkSlots [(2, false, [.d (.bool)])] 32 0, []⟩, []), (.exit 0, ⟨mkSlots [(0, false, [.d (.sl .int)])] 32 0, []⟩, [])]⟩
noncomputable def S_spec_NatOk_0_w (x : Tys D_spec_NatOk_0.head.ks) : Option (OutT D_spec_NatOk_0.outs) := @whileO ((List Int) × (List Int) × Int × Int × Unit) ((Bool × Unit) ⊕ ((List Int) × Unit)) S_spec_NatOk_0 x
noncomputable def E_spec_NatOk : Env := ⟨lay, [(83, c_spec_l01In)], [(2, mkLM D_spec_NatOk_0 S_spec_NatOk_0_w)], []⟩
theorem cons_spec_NatOk : ConsOk Try.prog E_spec_NatOk.cons := consOk_cons m_spec_l01In (callable_of Try.func83 (by kernel_rfl)) (consOk_nil)
theorem S_spec_NatOk_0_ok (x : Tys D_spec_NatOk_0.head.ks) : stepL E_spec_NatOk D_spec_NatOk_0 body_spec_NatOk_0 x = S_spec_NatOk_0 x := by kernel_rfl
theorem loops_spec_NatOk_0 : loopsIn body_spec_NatOk_0 = [] := by kernel_rfl
theorem l_spec_NatOk_0 : LoopOk Try.prog (mkLM D_spec_NatOk_0 S_spec_NatOk_0_w) body_spec_NatOk_0 := loop_ok2 mix lay_ok cons_spec_NatOk (by kernel_rfl) (loops_mem loops_spec_NatOk_0 (trivial)) S_spec_NatOk_0_ok fun _ _ h => h
theorem loops_spec_NatOk : loopsIn code_spec_NatOk = [body_spec_NatOk_0] := by kernel_rfl
theorem m_spec_NatOk : Meets Try.prog 79 c_spec_NatOk := meets_of (E := E_spec_NatOk) (code := code_spec_NatOk) mix lay_ok cons_spec_NatOk Try.func79 (by kernel_rfl) sg_spec_NatOk (by kernel_rfl) (fun y => y.1) c_spec_NatOk.out (fun _ => rfl) c_spec_NatOk.run (fun x => by kernel_rfl) (by kernel_rfl) (loops_mem loops_spec_NatOk (⟨⟨_, by kernel_rfl, l_spec_NatOk_0⟩, trivial⟩))

noncomputable def sg_spec_l02Trim_c : Sig := ⟨[(false, [.own 0])], [(0, .arr false .int)], false, [(false, [.own 0])], [(0, .arr false .int)]⟩
noncomputable def c_spec_l02Trim_c : Con := ⟨sg_spec_l02Trim_c, List Int, fun x => M_spec_l02Trim_c x.1, fun r => (r, ())⟩
noncomputable def code_spec_l02Trim_c : Code := Try.f125.body.getD .skip
noncomputable def body_spec_l02Trim_c_0 : Code := (loopsIn code_spec_l02Trim_c).getD 0 .skip
noncomputable def D_spec_l02Trim_c_0 : LoopD := ⟨⟨mkSlots [(0, false, [.own 1408]), (3, false, [.d (.int .i64)])] 21 0, [(1408, .arr false .int)]⟩, [], [(.exit 0, ⟨mkSlots [(0, false, [.own 1408]), (3, false, [.d (.int .i64)])] 21 0, [(1408, .arr false .int)]⟩, [])]⟩
noncomputable def S_spec_l02Trim_c_0_w (x : Tys D_spec_l02Trim_c_0.head.ks) : Option (OutT D_spec_l02Trim_c_0.outs) := @whileO (Int × (List Int) × Unit) (Int × (List Int) × Unit) S_spec_l02Trim_c_0 x
noncomputable def E_spec_l02Trim_c : Env := ⟨lay, [], [(2, mkLM D_spec_l02Trim_c_0 S_spec_l02Trim_c_0_w)], []⟩
theorem cons_spec_l02Trim_c : ConsOk Try.prog E_spec_l02Trim_c.cons := consOk_nil
theorem S_spec_l02Trim_c_0_ok (x : Tys D_spec_l02Trim_c_0.head.ks) : stepL E_spec_l02Trim_c D_spec_l02Trim_c_0 body_spec_l02Trim_c_0 x = S_spec_l02Trim_c_0 x := by kernel_rfl
theorem loops_spec_l02Trim_c_0 : loopsIn body_spec_l02Trim_c_0 = [] := by kernel_rfl
theorem l_spec_l02Trim_c_0 : LoopOk Try.prog (mkLM D_spec_l02Trim_c_0 S_spec_l02Trim_c_0_w) body_spec_l02Trim_c_0 := loop_ok2 mix lay_ok cons_spec_l02Trim_c (by kernel_rfl) (loops_mem loops_spec_l02Trim_c_0 (trivial)) S_spec_l02Trim_c_0_ok fun _ _ h => h
theorem loops_spec_l02Trim_c : loopsIn code_spec_l02Trim_c = [body_spec_l02Trim_c_0] := by kernel_rfl
theorem m_spec_l02Trim_c : Meets Try.prog 125 c_spec_l02Trim_c := meets_of (E := E_spec_l02Trim_c) (code := code_spec_l02Trim_c) mix lay_ok cons_spec_l02Trim_c Try.func125 (by kernel_rfl) sg_spec_l02Trim_c (by kernel_rfl) (fun y => y.1) c_spec_l02Trim_c.out (fun _ => rfl) c_spec_l02Trim_c.run (fun x => by kernel_rfl) (by kernel_rfl) (loops_mem loops_spec_l02Trim_c (⟨⟨_, by kernel_rfl, l_spec_l02Trim_c_0⟩, trivial⟩))

noncomputable def sg_spec_l02Small : Sig := ⟨[(false, [.d (.sl .int)]), (false, [.d (.int .i64)])], [], true, [(false, [.own 0]), (false, [.d (.int .i64)])], [(0, .arr false .int)]⟩
noncomputable def c_spec_l02Small : Con := ⟨sg_spec_l02Small, List Int × Int, fun x => M_spec_l02Small x.1 x.2.1, fun r => (r.2, r.1, ())⟩
noncomputable def code_spec_l02Small : Code := Try.f149.body.getD .skip
noncomputable def body_spec_l02Small_0 : Code := (loopsIn code_spec_l02Small).getD 0 .skip
noncomputable def D_spec_l02Small_0 : LoopD := ⟨⟨mkSlots [(0, false, [.d (.sl .int)]), (1, false, [.d (.int .i64)]), (6, false, [.own 2560]), (7, false, [.d (.int .i64)]), (8, false, [.d (.int .i64)])] 39 0, [(2560, .arr false .int)]⟩, [], [(.exit 0, ⟨mkSlots [(6, false, [.own 2560]), (7, false, [.d (.int .i64)])] 39 0, [(2560, .arr false .int)]⟩, [])]⟩
noncomputable def S_spec_l02Small_0_w (x : Tys D_spec_l02Small_0.head.ks) : Option (OutT D_spec_l02Small_0.outs) := @whileO ((List Int) × Int × Int × Int × (List Int) × Unit) (Int × (List Int) × Unit) S_spec_l02Small_0 x
noncomputable def E_spec_l02Small : Env := ⟨lay, [(125, c_spec_l02Trim_c)], [(4, mkLM D_spec_l02Small_0 S_spec_l02Small_0_w)], []⟩
theorem cons_spec_l02Small : ConsOk Try.prog E_spec_l02Small.cons := consOk_cons m_spec_l02Trim_c (callable_of Try.func125 (by kernel_rfl)) (consOk_nil)
theorem S_spec_l02Small_0_ok (x : Tys D_spec_l02Small_0.head.ks) : stepL E_spec_l02Small D_spec_l02Small_0 body_spec_l02Small_0 x = S_spec_l02Small_0 x := by kernel_rfl
theorem loops_spec_l02Small_0 : loopsIn body_spec_l02Small_0 = [] := by kernel_rfl
theorem l_spec_l02Small_0 : LoopOk Try.prog (mkLM D_spec_l02Small_0 S_spec_l02Small_0_w) body_spec_l02Small_0 := loop_ok2 mix lay_ok cons_spec_l02Small (by kernel_rfl) (loops_mem loops_spec_l02Small_0 (trivial)) S_spec_l02Small_0_ok fun _ _ h => h
theorem loops_spec_l02Small : loopsIn code_spec_l02Small = [body_spec_l02Small_0] := by kernel_rfl
theorem m_spec_l02Small : Meets Try.prog 149 c_spec_l02Small := meets_of (E := E_spec_l02Small) (code := code_spec_l02Small) mix lay_ok cons_spec_l02Small Try.func149 (by kernel_rfl) sg_spec_l02Small (by kernel_rfl) (fun y => (y.2.1, y.1)) c_spec_l02Small.out (fun _ => rfl) c_spec_l02Small.run (fun x => by kernel_rfl) (by kernel_rfl) (loops_mem loops_spec_l02Small (⟨⟨_, by kernel_rfl, l_spec_l02Small_0⟩, trivial⟩))

noncomputable def sg_spec_NatOf : Sig := ⟨[(false, [.d (.int .i64)])], [], false, [(false, [.own 0])], [(0, .arr false .int)]⟩
noncomputable def c_spec_NatOf : Con := ⟨sg_spec_NatOf, List Int, fun x => M_spec_NatOf x.1, fun r => (r, ())⟩
noncomputable def code_spec_NatOf : Code := Try.f150.body.getD .skip
noncomputable def body_spec_NatOf_0 : Code := (loopsIn code_spec_NatOf).getD 0 .skip
noncomputable def D_spec_NatOf_0 : LoopD := ⟨⟨mkSlots [(0, false, [.d (.int .i64)]), (3, false, [.own 1024])] 15 0, [(1024, .arr false .int)]⟩, [(.slot 3 0, 1024, .int)], [(.exit 0, ⟨mkSlots [(3, false, [.own 1024])] 15 0, [(1024, .arr false .int)]⟩, [(.slot 3 0, 1024, .int)])]⟩
noncomputable def S_spec_NatOf_0_w (x : Tys D_spec_NatOf_0.head.ks) : Option (OutT D_spec_NatOf_0.outs) := @whileO (Int × (List Int) × Unit) ((List Int) × Unit) S_spec_NatOf_0 x
noncomputable def E_spec_NatOf : Env := ⟨lay, [], [(2, mkLM D_spec_NatOf_0 S_spec_NatOf_0_w)], []⟩
theorem cons_spec_NatOf : ConsOk Try.prog E_spec_NatOf.cons := consOk_nil
theorem S_spec_NatOf_0_ok (x : Tys D_spec_NatOf_0.head.ks) : stepL E_spec_NatOf D_spec_NatOf_0 body_spec_NatOf_0 x = S_spec_NatOf_0 x := by kernel_rfl
theorem loops_spec_NatOf_0 : loopsIn body_spec_NatOf_0 = [] := by kernel_rfl
theorem l_spec_NatOf_0 : LoopOk Try.prog (mkLM D_spec_NatOf_0 S_spec_NatOf_0_w) body_spec_NatOf_0 := loop_ok2 mix lay_ok cons_spec_NatOf (by kernel_rfl) (loops_mem loops_spec_NatOf_0 (trivial)) S_spec_NatOf_0_ok fun _ _ h => h
theorem loops_spec_NatOf : loopsIn code_spec_NatOf = [body_spec_NatOf_0] := by kernel_rfl
theorem m_spec_NatOf : Meets Try.prog 150 c_spec_NatOf := meets_of (E := E_spec_NatOf) (code := code_spec_NatOf) mix lay_ok cons_spec_NatOf Try.func150 (by kernel_rfl) sg_spec_NatOf (by kernel_rfl) (fun y => y.1) c_spec_NatOf.out (fun _ => rfl) c_spec_NatOf.run (fun x => by kernel_rfl) (by kernel_rfl) (loops_mem loops_spec_NatOf (⟨⟨_, by kernel_rfl, l_spec_NatOf_0⟩, trivial⟩))

noncomputable def sg_spec_l02Cmp : Sig := ⟨[(false, [.d (.sl .int)]), (false, [.d (.sl .int)])], [], false, [(false, [.d (.int .i64)])], []⟩
noncomputable def c_spec_l02Cmp : Con := ⟨sg_spec_l02Cmp, Int, fun x => M_spec_l02Cmp x.1 x.2.1, fun r => (r, ())⟩
noncomputable def code_spec_l02Cmp : Code := Try.f127.body.getD .skip
noncomputable def body_spec_l02Cmp_0 : Code := (loopsIn code_spec_l02Cmp).getD 0 .skip
noncomputable def D_spec_l02Cmp_0 : LoopD := ⟨⟨mkSlots [(0, false, [.d (.sl .int)]), (1, false, [.d (.sl .int)]), (5, false, [.d (.int .i64)])] 41 0, []⟩, [], [(.ret, ⟨mkSlots [(4, false, [.d (.int .i64)])] 41 0, []⟩, []), (.exit 0, ⟨mkSlots [] 41 0, []⟩, [])]⟩
noncomputable def S_spec_l02Cmp_0_w (x : Tys D_spec_l02Cmp_0.head.ks) : Option (OutT D_spec_l02Cmp_0.outs) := @whileO ((List Int) × (List Int) × Int × Unit) ((Int × Unit) ⊕ (Unit)) S_spec_l02Cmp_0 x
noncomputable def E_spec_l02Cmp : Env := ⟨lay, [], [(6, mkLM D_spec_l02Cmp_0 S_spec_l02Cmp_0_w)], [(8, [(0, []), (1, []), (2, []), (3, []), (4, []), (5, []), (6, []), (7, []), (8, [])]), (10, [(0, []), (1, []), (2, []), (3, []), (4, []), (5, []), (6, []), (7, []), (8, [])])]⟩
theorem cons_spec_l02Cmp : ConsOk Try.prog E_spec_l02Cmp.cons := consOk_nil
theorem S_spec_l02Cmp_0_ok (x : Tys D_spec_l02Cmp_0.head.ks) : stepL E_spec_l02Cmp D_spec_l02Cmp_0 body_spec_l02Cmp_0 x = S_spec_l02Cmp_0 x := by kernel_rfl
theorem loops_spec_l02Cmp_0 : loopsIn body_spec_l02Cmp_0 = [] := by kernel_rfl
theorem l_spec_l02Cmp_0 : LoopOk Try.prog (mkLM D_spec_l02Cmp_0 S_spec_l02Cmp_0_w) body_spec_l02Cmp_0 := loop_ok2 mix lay_ok cons_spec_l02Cmp (by kernel_rfl) (loops_mem loops_spec_l02Cmp_0 (trivial)) S_spec_l02Cmp_0_ok fun _ _ h => h
theorem loops_spec_l02Cmp : loopsIn code_spec_l02Cmp = [body_spec_l02Cmp_0] := by kernel_rfl
theorem m_spec_l02Cmp : Meets Try.prog 127 c_spec_l02Cmp := meets_of (E := E_spec_l02Cmp) (code := code_spec_l02Cmp) mix lay_ok cons_spec_l02Cmp Try.func127 (by kernel_rfl) sg_spec_l02Cmp (by kernel_rfl) (fun y => y.1) c_spec_l02Cmp.out (fun _ => rfl) c_spec_l02Cmp.run (fun x => by kernel_rfl) (by kernel_rfl) (loops_mem loops_spec_l02Cmp (⟨⟨_, by kernel_rfl, l_spec_l02Cmp_0⟩, trivial⟩))

noncomputable def sg_spec_l02Mul : Sig := ⟨[(false, [.d (.sl .int)]), (false, [.d (.sl .int)])], [], false, [(false, [.own 0])], [(0, .arr false .int)]⟩
noncomputable def c_spec_l02Mul : Con := ⟨sg_spec_l02Mul, List Int, fun x => M_spec_l02Mul x.1 x.2.1, fun r => (r, ())⟩
noncomputable def code_spec_l02Mul : Code := Try.f153.body.getD .skip
noncomputable def body_spec_l02Mul_0 : Code := (loopsIn code_spec_l02Mul).getD 0 .skip
noncomputable def body_spec_l02Mul_1 : Code := (loopsIn body_spec_l02Mul_0).getD 0 .skip
noncomputable def D_spec_l02Mul_0 : LoopD := ⟨⟨mkSlots [(1, false, [.d (.sl .int)]), (5, false, [.own 4672]), (26, false, [.d (.sl .int)]), (27, false, [.d (.int .i64)]), (28, false, [.d (.int .i64)])] 72 0, [(4672, .arr false .int)]⟩, [], [(.exit 0, ⟨mkSlots [(5, false, [.own 4672])] 72 0, [(4672, .arr false .int)]⟩, [])]⟩
noncomputable def D_spec_l02Mul_1 : LoopD := ⟨⟨mkSlots [(1, false, [.d (.sl .int)]), (5, false, [.own 4672]), (6, false, [.d (.int .i64)]), (7, false, [.d (.int .i64)]), (8, false, [.d (.int .i64)]), (26, false, [.d (.sl .int)]), (27, false, [.d (.int .i64)]), (28, false, [.d (.int .i64)]), (33, false, [.d (.sl .int)]), (34, false, [.d (.int .i64)]), (35, false, [.d (.int .i64)])] 72 0, [(4672, .arr false .int)]⟩, [], [(.exit 2, ⟨mkSlots [(1, false, [.d (.sl .int)]), (5, false, [.own 4672]), (6, false, [.d (.int .i64)]), (8, false, [.d (.int .i64)]), (26, false, [.d (.sl .int)]), (27, false, [.d (.int .i64)]), (28, false, [.d (.int .i64)])] 72 0, [(4672, .arr false .int)]⟩, [])]⟩
noncomputable def S_spec_l02Mul_0_w (x : Tys D_spec_l02Mul_0.head.ks) : Option (OutT D_spec_l02Mul_0.outs) := @whileO ((List Int) × (List Int) × Int × Int × (List Int) × Unit) ((List Int) × Unit) S_spec_l02Mul_0 x
noncomputable def S_spec_l02Mul_1_w (x : Tys D_spec_l02Mul_1.head.ks) : Option (OutT D_spec_l02Mul_1.outs) := @whileO ((List Int) × Int × Int × Int × (List Int) × Int × Int × (List Int) × Int × Int × (List Int) × Unit) ((List Int) × Int × Int × (List Int) × Int × Int × (List Int) × Unit) S_spec_l02Mul_1 x
noncomputable def E_spec_l02Mul : Env := ⟨lay, [(125, c_spec_l02Trim_c)], [(5, mkLM D_spec_l02Mul_0 S_spec_l02Mul_0_w), (9, mkLM D_spec_l02Mul_1 S_spec_l02Mul_1_w)], []⟩
theorem cons_spec_l02Mul : ConsOk Try.prog E_spec_l02Mul.cons := consOk_cons m_spec_l02Trim_c (callable_of Try.func125 (by kernel_rfl)) (consOk_nil)
theorem S_spec_l02Mul_1_ok (x : Tys D_spec_l02Mul_1.head.ks) : stepL E_spec_l02Mul D_spec_l02Mul_1 body_spec_l02Mul_1 x = S_spec_l02Mul_1 x := by kernel_rfl
theorem loops_spec_l02Mul_1 : loopsIn body_spec_l02Mul_1 = [] := by kernel_rfl
theorem l_spec_l02Mul_1 : LoopOk Try.prog (mkLM D_spec_l02Mul_1 S_spec_l02Mul_1_w) body_spec_l02Mul_1 := loop_ok2 mix lay_ok cons_spec_l02Mul (by kernel_rfl) (loops_mem loops_spec_l02Mul_1 (trivial)) S_spec_l02Mul_1_ok fun _ _ h => h
theorem S_spec_l02Mul_0_ok (x : Tys D_spec_l02Mul_0.head.ks) : stepL E_spec_l02Mul D_spec_l02Mul_0 body_spec_l02Mul_0 x = S_spec_l02Mul_0 x := by kernel_rfl
theorem loops_spec_l02Mul_0 : loopsIn body_spec_l02Mul_0 = [body_spec_l02Mul_1] := by kernel_rfl
theorem l_spec_l02Mul_0 : LoopOk Try.prog (mkLM D_spec_l02Mul_0 S_spec_l02Mul_0_w) body_spec_l02Mul_0 := loop_ok2 mix lay_ok cons_spec_l02Mul (by kernel_rfl) (loops_mem loops_spec_l02Mul_0 (⟨⟨_, by kernel_rfl, l_spec_l02Mul_1⟩, trivial⟩)) S_spec_l02Mul_0_ok fun _ _ h => h
theorem loops_spec_l02Mul : loopsIn code_spec_l02Mul = [body_spec_l02Mul_0] := by kernel_rfl
theorem m_spec_l02Mul : Meets Try.prog 153 c_spec_l02Mul := meets_of (E := E_spec_l02Mul) (code := code_spec_l02Mul) mix lay_ok cons_spec_l02Mul Try.func153 (by kernel_rfl) sg_spec_l02Mul (by kernel_rfl) (fun y => y.1) c_spec_l02Mul.out (fun _ => rfl) c_spec_l02Mul.run (fun x => by kernel_rfl) (by kernel_rfl) (loops_mem loops_spec_l02Mul (⟨⟨_, by kernel_rfl, l_spec_l02Mul_0⟩, trivial⟩))

noncomputable def sg_spec_l02Digit : Sig := ⟨[(false, [.d (.sl .int)]), (false, [.d (.sl .int)])], [], false, [(false, [.d (.int .i64)])], []⟩
noncomputable def c_spec_l02Digit : Con := ⟨sg_spec_l02Digit, Int, fun x => M_spec_l02Digit x.1 x.2.1, fun r => (r, ())⟩
noncomputable def code_spec_l02Digit : Code := Try.f151.body.getD .skip
noncomputable def body_spec_l02Digit_0 : Code := (loopsIn code_spec_l02Digit).getD 0 .skip
noncomputable def D_spec_l02Digit_0 : LoopD := ⟨⟨mkSlots [(0, false, [.d (.sl .int)]), (1, false, [.d (.sl .int)]), (5, false, [.d (.int .i64)]), (6, false, [.d (.int .i64)])] 27 0, []⟩, [], [(.exit 0, ⟨mkSlots [(5, false, [.d (.int .i64)])] 27 0, []⟩, [])]⟩
noncomputable def S_spec_l02Digit_0_w (x : Tys D_spec_l02Digit_0.head.ks) : Option (OutT D_spec_l02Digit_0.outs) := @whileO ((List Int) × (List Int) × Int × Int × Unit) (Int × Unit) S_spec_l02Digit_0 x
noncomputable def E_spec_l02Digit : Env := ⟨lay, [(150, c_spec_NatOf), (153, c_spec_l02Mul), (127, c_spec_l02Cmp)], [(3, mkLM D_spec_l02Digit_0 S_spec_l02Digit_0_w)], []⟩
theorem cons_spec_l02Digit : ConsOk Try.prog E_spec_l02Digit.cons := consOk_cons m_spec_NatOf (callable_of Try.func150 (by kernel_rfl)) (consOk_cons m_spec_l02Mul (callable_of Try.func153 (by kernel_rfl)) (consOk_cons m_spec_l02Cmp (callable_of Try.func127 (by kernel_rfl)) (consOk_nil)))
theorem S_spec_l02Digit_0_ok (x : Tys D_spec_l02Digit_0.head.ks) : stepL E_spec_l02Digit D_spec_l02Digit_0 body_spec_l02Digit_0 x = S_spec_l02Digit_0 x := by kernel_rfl
theorem loops_spec_l02Digit_0 : loopsIn body_spec_l02Digit_0 = [] := by kernel_rfl
theorem l_spec_l02Digit_0 : LoopOk Try.prog (mkLM D_spec_l02Digit_0 S_spec_l02Digit_0_w) body_spec_l02Digit_0 := loop_ok2 mix lay_ok cons_spec_l02Digit (by kernel_rfl) (loops_mem loops_spec_l02Digit_0 (trivial)) S_spec_l02Digit_0_ok fun _ _ h => h
theorem loops_spec_l02Digit : loopsIn code_spec_l02Digit = [body_spec_l02Digit_0] := by kernel_rfl
theorem m_spec_l02Digit : Meets Try.prog 151 c_spec_l02Digit := meets_of (E := E_spec_l02Digit) (code := code_spec_l02Digit) mix lay_ok cons_spec_l02Digit Try.func151 (by kernel_rfl) sg_spec_l02Digit (by kernel_rfl) (fun y => y.1) c_spec_l02Digit.out (fun _ => rfl) c_spec_l02Digit.run (fun x => by kernel_rfl) (by kernel_rfl) (loops_mem loops_spec_l02Digit (⟨⟨_, by kernel_rfl, l_spec_l02Digit_0⟩, trivial⟩))

noncomputable def sg_spec_l02Sub : Sig := ⟨[(false, [.d (.sl .int)]), (false, [.d (.sl .int)])], [], false, [(false, [.own 0])], [(0, .arr false .int)]⟩
noncomputable def c_spec_l02Sub : Con := ⟨sg_spec_l02Sub, List Int, fun x => M_spec_l02Sub x.1 x.2.1, fun r => (r, ())⟩
noncomputable def code_spec_l02Sub : Code := Try.f152.body.getD .skip
noncomputable def body_spec_l02Sub_0 : Code := (loopsIn code_spec_l02Sub).getD 0 .skip
noncomputable def D_spec_l02Sub_0 : LoopD := ⟨⟨mkSlots [(0, false, [.d (.sl .int)]), (1, false, [.d (.sl .int)]), (5, false, [.own 2752]), (6, false, [.d (.int .i64)]), (11, false, [.d (.int .i64)]), (12, false, [.d (.int .i64)])] 42 0, [(2752, .arr false .int)]⟩, [(.slot 5 0, 2752, .int)], [(.exit 0, ⟨mkSlots [(5, false, [.own 2752])] 42 0, [(2752, .arr false .int)]⟩, [(.slot 5 0, 2752, .int)])]⟩
noncomputable def S_spec_l02Sub_0_w (x : Tys D_spec_l02Sub_0.head.ks) : Option (OutT D_spec_l02Sub_0.outs) := @whileO ((List Int) × (List Int) × Int × Int × Int × (List Int) × Unit) ((List Int) × Unit) S_spec_l02Sub_0 x
noncomputable def E_spec_l02Sub : Env := ⟨lay, [(125, c_spec_l02Trim_c)], [(4, mkLM D_spec_l02Sub_0 S_spec_l02Sub_0_w)], []⟩
theorem cons_spec_l02Sub : ConsOk Try.prog E_spec_l02Sub.cons := consOk_cons m_spec_l02Trim_c (callable_of Try.func125 (by kernel_rfl)) (consOk_nil)
theorem S_spec_l02Sub_0_ok (x : Tys D_spec_l02Sub_0.head.ks) : stepL E_spec_l02Sub D_spec_l02Sub_0 body_spec_l02Sub_0 x = S_spec_l02Sub_0 x := by kernel_rfl
theorem loops_spec_l02Sub_0 : loopsIn body_spec_l02Sub_0 = [] := by kernel_rfl
theorem l_spec_l02Sub_0 : LoopOk Try.prog (mkLM D_spec_l02Sub_0 S_spec_l02Sub_0_w) body_spec_l02Sub_0 := loop_ok2 mix lay_ok cons_spec_l02Sub (by kernel_rfl) (loops_mem loops_spec_l02Sub_0 (trivial)) S_spec_l02Sub_0_ok fun _ _ h => h
theorem loops_spec_l02Sub : loopsIn code_spec_l02Sub = [body_spec_l02Sub_0] := by kernel_rfl
theorem m_spec_l02Sub : Meets Try.prog 152 c_spec_l02Sub := meets_of (E := E_spec_l02Sub) (code := code_spec_l02Sub) mix lay_ok cons_spec_l02Sub Try.func152 (by kernel_rfl) sg_spec_l02Sub (by kernel_rfl) (fun y => y.1) c_spec_l02Sub.out (fun _ => rfl) c_spec_l02Sub.run (fun x => by kernel_rfl) (by kernel_rfl) (loops_mem loops_spec_l02Sub (⟨⟨_, by kernel_rfl, l_spec_l02Sub_0⟩, trivial⟩))

noncomputable def sg_spec_l02Div : Sig := ⟨[(false, [.d (.sl .int)]), (false, [.d (.sl .int)])], [], true, [(false, [.own 0]), (false, [.own 1])], [(0, .arr false .int), (1, .arr false .int)]⟩
noncomputable def c_spec_l02Div : Con := ⟨sg_spec_l02Div, List Int × List Int, fun x => M_spec_l02Div x.1 x.2.1, fun r => (r.1, r.2, ())⟩
noncomputable def code_spec_l02Div : Code := Try.f124.body.getD .skip
noncomputable def body_spec_l02Div_0 : Code := (loopsIn code_spec_l02Div).getD 0 .skip
noncomputable def D_spec_l02Div_0 : LoopD := ⟨⟨mkSlots [(0, false, [.d (.sl .int)]), (1, false, [.d (.sl .int)]), (8, false, [.own 4224]), (9, false, [.own 4288]), (10, false, [.d (.int .i64)])] 65 0, [(4224, .arr false .int), (4288, .arr false .int)]⟩, [(.slot 9 0, 4288, .int)], [(.exit 0, ⟨mkSlots [(8, false, [.own 4224]), (9, false, [.own 4288])] 65 0, [(4224, .arr false .int), (4288, .arr false .int)]⟩, [(.slot 9 0, 4288, .int)])]⟩
noncomputable def S_spec_l02Div_0_w (x : Tys D_spec_l02Div_0.head.ks) : Option (OutT D_spec_l02Div_0.outs) := @whileO ((List Int) × (List Int) × Int × (List Int) × (List Int) × Unit) ((List Int) × (List Int) × Unit) S_spec_l02Div_0 x
noncomputable def E_spec_l02Div : Env := ⟨lay, [(149, c_spec_l02Small), (150, c_spec_NatOf), (125, c_spec_l02Trim_c), (127, c_spec_l02Cmp), (151, c_spec_l02Digit), (153, c_spec_l02Mul), (152, c_spec_l02Sub)], [(7, mkLM D_spec_l02Div_0 S_spec_l02Div_0_w)], []⟩
theorem cons_spec_l02Div : ConsOk Try.prog E_spec_l02Div.cons := consOk_cons m_spec_l02Small (callable_of Try.func149 (by kernel_rfl)) (consOk_cons m_spec_NatOf (callable_of Try.func150 (by kernel_rfl)) (consOk_cons m_spec_l02Trim_c (callable_of Try.func125 (by kernel_rfl)) (consOk_cons m_spec_l02Cmp (callable_of Try.func127 (by kernel_rfl)) (consOk_cons m_spec_l02Digit (callable_of Try.func151 (by kernel_rfl)) (consOk_cons m_spec_l02Mul (callable_of Try.func153 (by kernel_rfl)) (consOk_cons m_spec_l02Sub (callable_of Try.func152 (by kernel_rfl)) (consOk_nil)))))))
theorem S_spec_l02Div_0_ok (x : Tys D_spec_l02Div_0.head.ks) : stepL E_spec_l02Div D_spec_l02Div_0 body_spec_l02Div_0 x = S_spec_l02Div_0 x := by kernel_rfl
theorem loops_spec_l02Div_0 : loopsIn body_spec_l02Div_0 = [] := by kernel_rfl
theorem l_spec_l02Div_0 : LoopOk Try.prog (mkLM D_spec_l02Div_0 S_spec_l02Div_0_w) body_spec_l02Div_0 := loop_ok2 mix lay_ok cons_spec_l02Div (by kernel_rfl) (loops_mem loops_spec_l02Div_0 (trivial)) S_spec_l02Div_0_ok fun _ _ h => h
theorem loops_spec_l02Div : loopsIn code_spec_l02Div = [body_spec_l02Div_0] := by kernel_rfl
theorem m_spec_l02Div : Meets Try.prog 124 c_spec_l02Div := meets_of (E := E_spec_l02Div) (code := code_spec_l02Div) mix lay_ok cons_spec_l02Div Try.func124 (by kernel_rfl) sg_spec_l02Div (by kernel_rfl) (fun y => (y.1, y.2.1)) c_spec_l02Div.out (fun _ => rfl) c_spec_l02Div.run (fun x => by kernel_rfl) (by kernel_rfl) (loops_mem loops_spec_l02Div (⟨⟨_, by kernel_rfl, l_spec_l02Div_0⟩, trivial⟩))

noncomputable def sg_spec_l02Add : Sig := ⟨[(false, [.d (.sl .int)]), (false, [.d (.sl .int)])], [], false, [(false, [.own 0])], [(0, .arr false .int)]⟩
noncomputable def c_spec_l02Add : Con := ⟨sg_spec_l02Add, List Int, fun x => M_spec_l02Add x.1 x.2.1, fun r => (r, ())⟩
noncomputable def code_spec_l02Add : Code := Try.f126.body.getD .skip
noncomputable def body_spec_l02Add_0 : Code := (loopsIn code_spec_l02Add).getD 0 .skip
noncomputable def D_spec_l02Add_0 : LoopD := ⟨⟨mkSlots [(0, false, [.d (.sl .int)]), (1, false, [.d (.sl .int)]), (5, false, [.own 3584]), (6, false, [.d (.int .i64)]), (7, false, [.d (.int .i64)])] 55 0, [(3584, .arr false .int)]⟩, [(.slot 5 0, 3584, .int)], [(.exit 0, ⟨mkSlots [(5, false, [.own 3584])] 55 0, [(3584, .arr false .int)]⟩, [(.slot 5 0, 3584, .int)])]⟩
noncomputable def S_spec_l02Add_0_w (x : Tys D_spec_l02Add_0.head.ks) : Option (OutT D_spec_l02Add_0.outs) := @whileO ((List Int) × (List Int) × Int × Int × (List Int) × Unit) ((List Int) × Unit) S_spec_l02Add_0 x
noncomputable def E_spec_l02Add : Env := ⟨lay, [], [(4, mkLM D_spec_l02Add_0 S_spec_l02Add_0_w)], []⟩
theorem cons_spec_l02Add : ConsOk Try.prog E_spec_l02Add.cons := consOk_nil
theorem S_spec_l02Add_0_ok (x : Tys D_spec_l02Add_0.head.ks) : stepL E_spec_l02Add D_spec_l02Add_0 body_spec_l02Add_0 x = S_spec_l02Add_0 x := by kernel_rfl
theorem loops_spec_l02Add_0 : loopsIn body_spec_l02Add_0 = [] := by kernel_rfl
theorem l_spec_l02Add_0 : LoopOk Try.prog (mkLM D_spec_l02Add_0 S_spec_l02Add_0_w) body_spec_l02Add_0 := loop_ok2 mix lay_ok cons_spec_l02Add (by kernel_rfl) (loops_mem loops_spec_l02Add_0 (trivial)) S_spec_l02Add_0_ok fun _ _ h => h
theorem loops_spec_l02Add : loopsIn code_spec_l02Add = [body_spec_l02Add_0] := by kernel_rfl
theorem m_spec_l02Add : Meets Try.prog 126 c_spec_l02Add := meets_of (E := E_spec_l02Add) (code := code_spec_l02Add) mix lay_ok cons_spec_l02Add Try.func126 (by kernel_rfl) sg_spec_l02Add (by kernel_rfl) (fun y => y.1) c_spec_l02Add.out (fun _ => rfl) c_spec_l02Add.run (fun x => by kernel_rfl) (by kernel_rfl) (loops_mem loops_spec_l02Add (⟨⟨_, by kernel_rfl, l_spec_l02Add_0⟩, trivial⟩))

noncomputable def sg_spec_l02Trim : Sig := ⟨[(false, [.d (.sl .int)])], [], false, [(false, [.d (.sl .int)])], []⟩
noncomputable def c_spec_l02Trim : Con := ⟨sg_spec_l02Trim, List Int, fun x => M_spec_l02Trim x.1, fun r => (r, ())⟩
noncomputable def code_spec_l02Trim : Code := Try.f125.body.getD .skip
noncomputable def body_spec_l02Trim_0 : Code := (loopsIn code_spec_l02Trim).getD 0 .skip
noncomputable def D_spec_l02Trim_0 : LoopD := ⟨⟨mkSlots [(0, false, [.d (.sl .int)]), (3, false, [.d (.int .i64)])] 21 0, []⟩, [], [(.exit 0, ⟨mkSlots [(0, false, [.d (.sl .int)]), (3, false, [.d (.int .i64)])] 21 0, []⟩, [])]⟩
noncomputable def S_spec_l02Trim_0_w (x : Tys D_spec_l02Trim_0.head.ks) : Option (OutT D_spec_l02Trim_0.outs) := @whileO ((List Int) × Int × Unit) ((List Int) × Int × Unit) S_spec_l02Trim_0 x
noncomputable def E_spec_l02Trim : Env := ⟨lay, [], [(2, mkLM D_spec_l02Trim_0 S_spec_l02Trim_0_w)], []⟩
theorem cons_spec_l02Trim : ConsOk Try.prog E_spec_l02Trim.cons := consOk_nil
theorem S_spec_l02Trim_0_ok (x : Tys D_spec_l02Trim_0.head.ks) : stepL E_spec_l02Trim D_spec_l02Trim_0 body_spec_l02Trim_0 x = S_spec_l02Trim_0 x := by kernel_rfl
theorem loops_spec_l02Trim_0 : loopsIn body_spec_l02Trim_0 = [] := by kernel_rfl
theorem l_spec_l02Trim_0 : LoopOk Try.prog (mkLM D_spec_l02Trim_0 S_spec_l02Trim_0_w) body_spec_l02Trim_0 := loop_ok2 mix lay_ok cons_spec_l02Trim (by kernel_rfl) (loops_mem loops_spec_l02Trim_0 (trivial)) S_spec_l02Trim_0_ok fun _ _ h => h
theorem loops_spec_l02Trim : loopsIn code_spec_l02Trim = [body_spec_l02Trim_0] := by kernel_rfl
theorem m_spec_l02Trim : Meets Try.prog 125 c_spec_l02Trim := meets_of (E := E_spec_l02Trim) (code := code_spec_l02Trim) mix lay_ok cons_spec_l02Trim Try.func125 (by kernel_rfl) sg_spec_l02Trim (by kernel_rfl) (fun y => y.1) c_spec_l02Trim.out (fun _ => rfl) c_spec_l02Trim.run (fun x => by kernel_rfl) (by kernel_rfl) (loops_mem loops_spec_l02Trim (⟨⟨_, by kernel_rfl, l_spec_l02Trim_0⟩, trivial⟩))

noncomputable def sg_spec_l09Root : Sig := ⟨[(false, [.d (.sl .int)])], [], false, [(false, [.own 0])], [(0, .arr false .int)]⟩
noncomputable def c_spec_l09Root : Con := ⟨sg_spec_l09Root, List Int, fun x => M_spec_l09Root x.1, fun r => (r, ())⟩
noncomputable def code_spec_l09Root : Code := Try.f80.body.getD .skip
noncomputable def body_spec_l09Root_0 : Code := (loopsIn code_spec_l09Root).getD 0 .skip
noncomputable def body_spec_l09Root_1 : Code := (loopsIn code_spec_l09Root).getD 1 .skip
noncomputable def D_spec_l09Root_0 : LoopD := ⟨⟨mkSlots [(0, false, [.d (.sl .int)]), (3, false, [.own 3456])] 53 0, [(3456, .arr false .int)]⟩, [(.slot 3 0, 3456, .int)], [(.exit 0, ⟨mkSlots [(0, false, [.d (.sl .int)]), (3, false, [.own 3456])] 53 0, [(3456, .arr false .int)]⟩, [(.slot 3 0, 3456, .int)])]⟩
noncomputable def D_spec_l09Root_1 : LoopD := ⟨⟨mkSlots [(0, false, [.d (.sl .int)]), (3, false, [.d (.sl .int)])] 53 0, []⟩, [], [(.ret, ⟨mkSlots [(2, false, [.own 3520])] 53 0, [(3520, .arr false .int)]⟩, [])]⟩
noncomputable def S_spec_l09Root_0_w (x : Tys D_spec_l09Root_0.head.ks) : Option (OutT D_spec_l09Root_0.outs) := @whileO ((List Int) × (List Int) × Unit) ((List Int) × (List Int) × Unit) S_spec_l09Root_0 x
noncomputable def S_spec_l09Root_1_w (x : Tys D_spec_l09Root_1.head.ks) : Option (OutT D_spec_l09Root_1.outs) := @whileO ((List Int) × (List Int) × Unit) ((List Int) × Unit) S_spec_l09Root_1 x
noncomputable def E_spec_l09Root : Env := ⟨lay, [(124, c_spec_l02Div), (126, c_spec_l02Add), (125, c_spec_l02Trim), (127, c_spec_l02Cmp)], [(4, mkLM D_spec_l09Root_0 S_spec_l09Root_0_w), (7, mkLM D_spec_l09Root_1 S_spec_l09Root_1_w)], []⟩
theorem cons_spec_l09Root : ConsOk Try.prog E_spec_l09Root.cons := consOk_cons m_spec_l02Div (callable_of Try.func124 (by kernel_rfl)) (consOk_cons m_spec_l02Add (callable_of Try.func126 (by kernel_rfl)) (consOk_cons m_spec_l02Trim (callable_of Try.func125 (by kernel_rfl)) (consOk_cons m_spec_l02Cmp (callable_of Try.func127 (by kernel_rfl)) (consOk_nil))))
theorem S_spec_l09Root_1_ok (x : Tys D_spec_l09Root_1.head.ks) : stepL E_spec_l09Root D_spec_l09Root_1 body_spec_l09Root_1 x = S_spec_l09Root_1 x := by kernel_rfl
theorem loops_spec_l09Root_1 : loopsIn body_spec_l09Root_1 = [] := by kernel_rfl
theorem l_spec_l09Root_1 : LoopOk Try.prog (mkLM D_spec_l09Root_1 S_spec_l09Root_1_w) body_spec_l09Root_1 := loop_ok2 mix lay_ok cons_spec_l09Root (by kernel_rfl) (loops_mem loops_spec_l09Root_1 (trivial)) S_spec_l09Root_1_ok fun _ _ h => h
theorem S_spec_l09Root_0_ok (x : Tys D_spec_l09Root_0.head.ks) : stepL E_spec_l09Root D_spec_l09Root_0 body_spec_l09Root_0 x = S_spec_l09Root_0 x := by kernel_rfl
theorem loops_spec_l09Root_0 : loopsIn body_spec_l09Root_0 = [] := by kernel_rfl
theorem l_spec_l09Root_0 : LoopOk Try.prog (mkLM D_spec_l09Root_0 S_spec_l09Root_0_w) body_spec_l09Root_0 := loop_ok2 mix lay_ok cons_spec_l09Root (by kernel_rfl) (loops_mem loops_spec_l09Root_0 (trivial)) S_spec_l09Root_0_ok fun _ _ h => h
theorem loops_spec_l09Root : loopsIn code_spec_l09Root = [body_spec_l09Root_0, body_spec_l09Root_1] := by kernel_rfl
theorem m_spec_l09Root : Meets Try.prog 80 c_spec_l09Root := meets_of (E := E_spec_l09Root) (code := code_spec_l09Root) mix lay_ok cons_spec_l09Root Try.func80 (by kernel_rfl) sg_spec_l09Root (by kernel_rfl) (fun y => y.1) c_spec_l09Root.out (fun _ => rfl) c_spec_l09Root.run (fun x => by kernel_rfl) (by kernel_rfl) (loops_mem loops_spec_l09Root (⟨⟨_, by kernel_rfl, l_spec_l09Root_0⟩, ⟨⟨_, by kernel_rfl, l_spec_l09Root_1⟩, trivial⟩⟩))

noncomputable def sg_spec_RootOfNat : Sig := ⟨[(false, [.d (.sl .int)])], [], false, [(false, [.own 0])], [(0, .arr false .int)]⟩
noncomputable def c_spec_RootOfNat : Con := ⟨sg_spec_RootOfNat, List Int, fun x => M_spec_RootOfNat x.1, fun r => (r, ())⟩
noncomputable def code_spec_RootOfNat : Code := Try.f30.body.getD .skip
noncomputable def E_spec_RootOfNat : Env := ⟨lay, [(79, c_spec_NatOk), (80, c_spec_l09Root)], [], []⟩
theorem cons_spec_RootOfNat : ConsOk Try.prog E_spec_RootOfNat.cons := consOk_cons m_spec_NatOk (callable_of Try.func79 (by kernel_rfl)) (consOk_cons m_spec_l09Root (callable_of Try.func80 (by kernel_rfl)) (consOk_nil))
theorem loops_spec_RootOfNat : loopsIn code_spec_RootOfNat = [] := by kernel_rfl
theorem m_spec_RootOfNat : Meets Try.prog 30 c_spec_RootOfNat := meets_of (E := E_spec_RootOfNat) (code := code_spec_RootOfNat) mix lay_ok cons_spec_RootOfNat Try.func30 (by kernel_rfl) sg_spec_RootOfNat (by kernel_rfl) (fun y => y.1) c_spec_RootOfNat.out (fun _ => rfl) c_spec_RootOfNat.run (fun x => by kernel_rfl) (by kernel_rfl) (loops_mem loops_spec_RootOfNat (trivial))

noncomputable def sg_impl_NatOk : Sig := ⟨[(false, [.d (.sl .int)])], [], false, [(false, [.d (.bool)])], []⟩
noncomputable def c_impl_NatOk : Con := ⟨sg_impl_NatOk, Bool, fun x => M_impl_NatOk x.1, fun r => (r, ())⟩
noncomputable def code_impl_NatOk : Code := Try.f81.body.getD .skip
noncomputable def body_impl_NatOk_0 : Code := (loopsIn code_impl_NatOk).getD 0 .skip
noncomputable def D_impl_NatOk_0 : LoopD := ⟨⟨mkSlots [(22, false, [.d (.sl .int)]), (23, false, [.d (.int .i64)]), (24, false, [.d (.int .i64)])] 35 0, []⟩, [], [(.ret, ⟨mkSlots [(2, false, [.d (.bool)])] 35 0, []⟩, []), (.exit 0, ⟨mkSlots [] 35 0, []⟩, [])]⟩
noncomputable def S_impl_NatOk_0_w (x : Tys D_impl_NatOk_0.head.ks) : Option (OutT D_impl_NatOk_0.outs) := @whileO ((List Int) × Int × Int × Unit) ((Bool × Unit) ⊕ (Unit)) S_impl_NatOk_0 x
noncomputable def E_impl_NatOk : Env := ⟨lay, [], [(4, mkLM D_impl_NatOk_0 S_impl_NatOk_0_w)], []⟩
theorem cons_impl_NatOk : ConsOk Try.prog E_impl_NatOk.cons := consOk_nil
theorem S_impl_NatOk_0_ok (x : Tys D_impl_NatOk_0.head.ks) : stepL E_impl_NatOk D_impl_NatOk_0 body_impl_NatOk_0 x = S_impl_NatOk_0 x := by kernel_rfl
theorem loops_impl_NatOk_0 : loopsIn body_impl_NatOk_0 = [] := by kernel_rfl
theorem l_impl_NatOk_0 : LoopOk Try.prog (mkLM D_impl_NatOk_0 S_impl_NatOk_0_w) body_impl_NatOk_0 := loop_ok2 mix lay_ok cons_impl_NatOk (by kernel_rfl) (loops_mem loops_impl_NatOk_0 (trivial)) S_impl_NatOk_0_ok fun _ _ h => h
theorem loops_impl_NatOk : loopsIn code_impl_NatOk = [body_impl_NatOk_0] := by kernel_rfl
theorem m_impl_NatOk : Meets Try.prog 81 c_impl_NatOk := meets_of (E := E_impl_NatOk) (code := code_impl_NatOk) mix lay_ok cons_impl_NatOk Try.func81 (by kernel_rfl) sg_impl_NatOk (by kernel_rfl) (fun y => y.1) c_impl_NatOk.out (fun _ => rfl) c_impl_NatOk.run (fun x => by kernel_rfl) (by kernel_rfl) (loops_mem loops_impl_NatOk (⟨⟨_, by kernel_rfl, l_impl_NatOk_0⟩, trivial⟩))

noncomputable def sg_impl_natCmp : Sig := ⟨[(false, [.d (.sl .int)]), (false, [.d (.sl .int)])], [], false, [(false, [.d (.int .i64)])], []⟩
noncomputable def c_impl_natCmp : Con := ⟨sg_impl_natCmp, Int, fun x => M_impl_natCmp x.1 x.2.1, fun r => (r, ())⟩
noncomputable def code_impl_natCmp : Code := Try.f130.body.getD .skip
noncomputable def body_impl_natCmp_0 : Code := (loopsIn code_impl_natCmp).getD 0 .skip
noncomputable def D_impl_natCmp_0 : LoopD := ⟨⟨mkSlots [(0, false, [.d (.sl .int)]), (1, false, [.d (.sl .int)]), (5, false, [.d (.int .i64)])] 43 0, []⟩, [], [(.ret, ⟨mkSlots [(4, false, [.d (.int .i64)])] 43 0, []⟩, []), (.exit 0, ⟨mkSlots [] 43 0, []⟩, [])]⟩
noncomputable def S_impl_natCmp_0_w (x : Tys D_impl_natCmp_0.head.ks) : Option (OutT D_impl_natCmp_0.outs) := @whileO ((List Int) × (List Int) × Int × Unit) ((Int × Unit) ⊕ (Unit)) S_impl_natCmp_0 x
noncomputable def E_impl_natCmp : Env := ⟨lay, [], [(6, mkLM D_impl_natCmp_0 S_impl_natCmp_0_w)], [(8, [(0, []), (1, []), (2, []), (3, []), (4, []), (5, []), (6, []), (7, []), (8, []), (9, [8, 3, 7, 2, 6, 0, 1, 4, 5])]), (10, [(0, []), (1, []), (2, []), (3, []), (4, []), (5, []), (6, []), (7, []), (8, []), (9, [8, 3, 7, 2, 6, 0, 1, 4, 5])])]⟩
theorem cons_impl_natCmp : ConsOk Try.prog E_impl_natCmp.cons := consOk_nil
theorem S_impl_natCmp_0_ok (x : Tys D_impl_natCmp_0.head.ks) : stepL E_impl_natCmp D_impl_natCmp_0 body_impl_natCmp_0 x = S_impl_natCmp_0 x := by kernel_rfl
theorem loops_impl_natCmp_0 : loopsIn body_impl_natCmp_0 = [] := by kernel_rfl
theorem l_impl_natCmp_0 : LoopOk Try.prog (mkLM D_impl_natCmp_0 S_impl_natCmp_0_w) body_impl_natCmp_0 := loop_ok2 mix lay_ok cons_impl_natCmp (by kernel_rfl) (loops_mem loops_impl_natCmp_0 (trivial)) S_impl_natCmp_0_ok fun _ _ h => h
theorem loops_impl_natCmp : loopsIn code_impl_natCmp = [body_impl_natCmp_0] := by kernel_rfl
theorem m_impl_natCmp : Meets Try.prog 130 c_impl_natCmp := meets_of (E := E_impl_natCmp) (code := code_impl_natCmp) mix lay_ok cons_impl_natCmp Try.func130 (by kernel_rfl) sg_impl_natCmp (by kernel_rfl) (fun y => y.1) c_impl_natCmp.out (fun _ => rfl) c_impl_natCmp.run (fun x => by kernel_rfl) (by kernel_rfl) (loops_mem loops_impl_natCmp (⟨⟨_, by kernel_rfl, l_impl_natCmp_0⟩, trivial⟩))

noncomputable def sg_impl_copyInts : Sig := ⟨[(false, [.d (.sl .int)])], [], false, [(false, [.own 0])], [(0, .arr false .int)]⟩
noncomputable def c_impl_copyInts : Con := ⟨sg_impl_copyInts, List Int, fun x => M_impl_copyInts x.1, fun r => (r, ())⟩
noncomputable def code_impl_copyInts : Code := Try.f143.body.getD .skip
noncomputable def E_impl_copyInts : Env := ⟨lay, [], [], []⟩
theorem cons_impl_copyInts : ConsOk Try.prog E_impl_copyInts.cons := consOk_nil
theorem loops_impl_copyInts : loopsIn code_impl_copyInts = [] := by kernel_rfl
theorem m_impl_copyInts : Meets Try.prog 143 c_impl_copyInts := meets_of (E := E_impl_copyInts) (code := code_impl_copyInts) mix lay_ok cons_impl_copyInts Try.func143 (by kernel_rfl) sg_impl_copyInts (by kernel_rfl) (fun y => y.1) c_impl_copyInts.out (fun _ => rfl) c_impl_copyInts.run (fun x => by kernel_rfl) (by kernel_rfl) (loops_mem loops_impl_copyInts (trivial))

noncomputable def sg_impl_trim_c : Sig := ⟨[(false, [.own 0])], [(0, .arr false .int)], false, [(false, [.own 0])], [(0, .arr false .int)]⟩
noncomputable def c_impl_trim_c : Con := ⟨sg_impl_trim_c, List Int, fun x => M_impl_trim_c x.1, fun r => (r, ())⟩
noncomputable def code_impl_trim_c : Code := Try.f156.body.getD .skip
noncomputable def body_impl_trim_c_0 : Code := (loopsIn code_impl_trim_c).getD 0 .skip
noncomputable def D_impl_trim_c_0 : LoopD := ⟨⟨mkSlots [(0, false, [.own 1408]), (3, false, [.d (.int .i64)])] 21 0, [(1408, .arr false .int)]⟩, [], [(.exit 0, ⟨mkSlots [(0, false, [.own 1408]), (3, false, [.d (.int .i64)])] 21 0, [(1408, .arr false .int)]⟩, [])]⟩
noncomputable def S_impl_trim_c_0_w (x : Tys D_impl_trim_c_0.head.ks) : Option (OutT D_impl_trim_c_0.outs) := @whileO (Int × (List Int) × Unit) (Int × (List Int) × Unit) S_impl_trim_c_0 x
noncomputable def E_impl_trim_c : Env := ⟨lay, [], [(2, mkLM D_impl_trim_c_0 S_impl_trim_c_0_w)], []⟩
theorem cons_impl_trim_c : ConsOk Try.prog E_impl_trim_c.cons := consOk_nil
theorem S_impl_trim_c_0_ok (x : Tys D_impl_trim_c_0.head.ks) : stepL E_impl_trim_c D_impl_trim_c_0 body_impl_trim_c_0 x = S_impl_trim_c_0 x := by kernel_rfl
theorem loops_impl_trim_c_0 : loopsIn body_impl_trim_c_0 = [] := by kernel_rfl
theorem l_impl_trim_c_0 : LoopOk Try.prog (mkLM D_impl_trim_c_0 S_impl_trim_c_0_w) body_impl_trim_c_0 := loop_ok2 mix lay_ok cons_impl_trim_c (by kernel_rfl) (loops_mem loops_impl_trim_c_0 (trivial)) S_impl_trim_c_0_ok fun _ _ h => h
theorem loops_impl_trim_c : loopsIn code_impl_trim_c = [body_impl_trim_c_0] := by kernel_rfl
theorem m_impl_trim_c : Meets Try.prog 156 c_impl_trim_c := meets_of (E := E_impl_trim_c) (code := code_impl_trim_c) mix lay_ok cons_impl_trim_c Try.func156 (by kernel_rfl) sg_impl_trim_c (by kernel_rfl) (fun y => y.1) c_impl_trim_c.out (fun _ => rfl) c_impl_trim_c.run (fun x => by kernel_rfl) (by kernel_rfl) (loops_mem loops_impl_trim_c (⟨⟨_, by kernel_rfl, l_impl_trim_c_0⟩, trivial⟩))

noncomputable def sg_impl_NatOf : Sig := ⟨[(false, [.d (.int .i64)])], [], false, [(false, [.own 0])], [(0, .arr false .int)]⟩
noncomputable def c_impl_NatOf : Con := ⟨sg_impl_NatOf, List Int, fun x => M_impl_NatOf x.1, fun r => (r, ())⟩
noncomputable def code_impl_NatOf : Code := Try.f162.body.getD .skip
noncomputable def body_impl_NatOf_0 : Code := (loopsIn code_impl_NatOf).getD 0 .skip
noncomputable def D_impl_NatOf_0 : LoopD := ⟨⟨mkSlots [(0, false, [.d (.int .i64)]), (3, false, [.own 960])] 14 0, [(960, .arr false .int)]⟩, [(.slot 3 0, 960, .int)], [(.exit 0, ⟨mkSlots [(3, false, [.own 960])] 14 0, [(960, .arr false .int)]⟩, [(.slot 3 0, 960, .int)])]⟩
noncomputable def S_impl_NatOf_0_w (x : Tys D_impl_NatOf_0.head.ks) : Option (OutT D_impl_NatOf_0.outs) := @whileO (Int × (List Int) × Unit) ((List Int) × Unit) S_impl_NatOf_0 x
noncomputable def E_impl_NatOf : Env := ⟨lay, [], [(2, mkLM D_impl_NatOf_0 S_impl_NatOf_0_w)], []⟩
theorem cons_impl_NatOf : ConsOk Try.prog E_impl_NatOf.cons := consOk_nil
theorem S_impl_NatOf_0_ok (x : Tys D_impl_NatOf_0.head.ks) : stepL E_impl_NatOf D_impl_NatOf_0 body_impl_NatOf_0 x = S_impl_NatOf_0 x := by kernel_rfl
theorem loops_impl_NatOf_0 : loopsIn body_impl_NatOf_0 = [] := by kernel_rfl
theorem l_impl_NatOf_0 : LoopOk Try.prog (mkLM D_impl_NatOf_0 S_impl_NatOf_0_w) body_impl_NatOf_0 := loop_ok2 mix lay_ok cons_impl_NatOf (by kernel_rfl) (loops_mem loops_impl_NatOf_0 (trivial)) S_impl_NatOf_0_ok fun _ _ h => h
theorem loops_impl_NatOf : loopsIn code_impl_NatOf = [body_impl_NatOf_0] := by kernel_rfl
theorem m_impl_NatOf : Meets Try.prog 162 c_impl_NatOf := meets_of (E := E_impl_NatOf) (code := code_impl_NatOf) mix lay_ok cons_impl_NatOf Try.func162 (by kernel_rfl) sg_impl_NatOf (by kernel_rfl) (fun y => y.1) c_impl_NatOf.out (fun _ => rfl) c_impl_NatOf.run (fun x => by kernel_rfl) (by kernel_rfl) (loops_mem loops_impl_NatOf (⟨⟨_, by kernel_rfl, l_impl_NatOf_0⟩, trivial⟩))

noncomputable def sg_impl_divSmall : Sig := ⟨[(false, [.d (.sl .int)]), (false, [.d (.int .i64)])], [], true, [(false, [.own 0]), (false, [.own 1])], [(0, .arr false .int), (1, .arr false .int)]⟩
noncomputable def c_impl_divSmall : Con := ⟨sg_impl_divSmall, List Int × List Int, fun x => M_impl_divSmall x.1 x.2.1, fun r => (r.1, r.2, ())⟩
noncomputable def code_impl_divSmall : Code := Try.f154.body.getD .skip
noncomputable def body_impl_divSmall_0 : Code := (loopsIn code_impl_divSmall).getD 0 .skip
noncomputable def D_impl_divSmall_0 : LoopD := ⟨⟨mkSlots [(0, false, [.d (.sl .int)]), (1, false, [.d (.int .i64)]), (6, false, [.own 2624]), (7, false, [.d (.int .i64)]), (8, false, [.d (.int .i64)])] 40 0, [(2624, .arr false .int)]⟩, [], [(.exit 0, ⟨mkSlots [(6, false, [.own 2624]), (7, false, [.d (.int .i64)])] 40 0, [(2624, .arr false .int)]⟩, [])]⟩
noncomputable def S_impl_divSmall_0_w (x : Tys D_impl_divSmall_0.head.ks) : Option (OutT D_impl_divSmall_0.outs) := @whileO ((List Int) × Int × Int × Int × (List Int) × Unit) (Int × (List Int) × Unit) S_impl_divSmall_0 x
noncomputable def E_impl_divSmall : Env := ⟨lay, [(156, c_impl_trim_c), (162, c_impl_NatOf)], [(4, mkLM D_impl_divSmall_0 S_impl_divSmall_0_w)], []⟩
theorem cons_impl_divSmall : ConsOk Try.prog E_impl_divSmall.cons := consOk_cons m_impl_trim_c (callable_of Try.func156 (by kernel_rfl)) (consOk_cons m_impl_NatOf (callable_of Try.func162 (by kernel_rfl)) (consOk_nil))
theorem S_impl_divSmall_0_ok (x : Tys D_impl_divSmall_0.head.ks) : stepL E_impl_divSmall D_impl_divSmall_0 body_impl_divSmall_0 x = S_impl_divSmall_0 x := by kernel_rfl
theorem loops_impl_divSmall_0 : loopsIn body_impl_divSmall_0 = [] := by kernel_rfl
theorem l_impl_divSmall_0 : LoopOk Try.prog (mkLM D_impl_divSmall_0 S_impl_divSmall_0_w) body_impl_divSmall_0 := loop_ok2 mix lay_ok cons_impl_divSmall (by kernel_rfl) (loops_mem loops_impl_divSmall_0 (trivial)) S_impl_divSmall_0_ok fun _ _ h => h
theorem loops_impl_divSmall : loopsIn code_impl_divSmall = [body_impl_divSmall_0] := by kernel_rfl
theorem m_impl_divSmall : Meets Try.prog 154 c_impl_divSmall := meets_of (E := E_impl_divSmall) (code := code_impl_divSmall) mix lay_ok cons_impl_divSmall Try.func154 (by kernel_rfl) sg_impl_divSmall (by kernel_rfl) (fun y => (y.1, y.2.1)) c_impl_divSmall.out (fun _ => rfl) c_impl_divSmall.run (fun x => by kernel_rfl) (by kernel_rfl) (loops_mem loops_impl_divSmall (⟨⟨_, by kernel_rfl, l_impl_divSmall_0⟩, trivial⟩))

noncomputable def sg_impl_natMul : Sig := ⟨[(false, [.d (.sl .int)]), (false, [.d (.sl .int)])], [], false, [(false, [.own 0])], [(0, .arr false .int)]⟩
noncomputable def c_impl_natMul : Con := ⟨sg_impl_natMul, List Int, fun x => M_impl_natMul x.1 x.2.1, fun r => (r, ())⟩
noncomputable def code_impl_natMul : Code := Try.f155.body.getD .skip
noncomputable def body_impl_natMul_0 : Code := (loopsIn code_impl_natMul).getD 0 .skip
noncomputable def body_impl_natMul_1 : Code := (loopsIn body_impl_natMul_0).getD 0 .skip
noncomputable def D_impl_natMul_0 : LoopD := ⟨⟨mkSlots [(1, false, [.d (.sl .int)]), (5, false, [.own 4352]), (18, false, [.d (.sl .int)]), (19, false, [.d (.int .i64)]), (20, false, [.d (.int .i64)])] 67 0, [(4352, .arr false .int)]⟩, [], [(.exit 0, ⟨mkSlots [(5, false, [.own 4352])] 67 0, [(4352, .arr false .int)]⟩, [])]⟩
noncomputable def D_impl_natMul_1 : LoopD := ⟨⟨mkSlots [(1, false, [.d (.sl .int)]), (5, false, [.own 4352]), (6, false, [.d (.int .i64)]), (7, false, [.d (.int .i64)]), (8, false, [.d (.int .i64)]), (18, false, [.d (.sl .int)]), (19, false, [.d (.int .i64)]), (20, false, [.d (.int .i64)]), (25, false, [.d (.sl .int)]), (26, false, [.d (.int .i64)]), (27, false, [.d (.int .i64)])] 67 0, [(4352, .arr false .int)]⟩, [], [(.exit 2, ⟨mkSlots [(1, false, [.d (.sl .int)]), (5, false, [.own 4352]), (6, false, [.d (.int .i64)]), (8, false, [.d (.int .i64)]), (18, false, [.d (.sl .int)]), (19, false, [.d (.int .i64)]), (20, false, [.d (.int .i64)])] 67 0, [(4352, .arr false .int)]⟩, [])]⟩
noncomputable def S_impl_natMul_0_w (x : Tys D_impl_natMul_0.head.ks) : Option (OutT D_impl_natMul_0.outs) := @whileO ((List Int) × (List Int) × Int × Int × (List Int) × Unit) ((List Int) × Unit) S_impl_natMul_0 x
noncomputable def S_impl_natMul_1_w (x : Tys D_impl_natMul_1.head.ks) : Option (OutT D_impl_natMul_1.outs) := @whileO ((List Int) × Int × Int × Int × (List Int) × Int × Int × (List Int) × Int × Int × (List Int) × Unit) ((List Int) × Int × Int × (List Int) × Int × Int × (List Int) × Unit) S_impl_natMul_1 x
noncomputable def E_impl_natMul : Env := ⟨lay, [(156, c_impl_trim_c)], [(3, mkLM D_impl_natMul_0 S_impl_natMul_0_w), (7, mkLM D_impl_natMul_1 S_impl_natMul_1_w)], []⟩
theorem cons_impl_natMul : ConsOk Try.prog E_impl_natMul.cons := consOk_cons m_impl_trim_c (callable_of Try.func156 (by kernel_rfl)) (consOk_nil)
theorem S_impl_natMul_1_ok (x : Tys D_impl_natMul_1.head.ks) : stepL E_impl_natMul D_impl_natMul_1 body_impl_natMul_1 x = S_impl_natMul_1 x := by kernel_rfl
theorem loops_impl_natMul_1 : loopsIn body_impl_natMul_1 = [] := by kernel_rfl
theorem l_impl_natMul_1 : LoopOk Try.prog (mkLM D_impl_natMul_1 S_impl_natMul_1_w) body_impl_natMul_1 := loop_ok2 mix lay_ok cons_impl_natMul (by kernel_rfl) (loops_mem loops_impl_natMul_1 (trivial)) S_impl_natMul_1_ok fun _ _ h => h
theorem S_impl_natMul_0_ok (x : Tys D_impl_natMul_0.head.ks) : stepL E_impl_natMul D_impl_natMul_0 body_impl_natMul_0 x = S_impl_natMul_0 x := by kernel_rfl
theorem loops_impl_natMul_0 : loopsIn body_impl_natMul_0 = [body_impl_natMul_1] := by kernel_rfl
theorem l_impl_natMul_0 : LoopOk Try.prog (mkLM D_impl_natMul_0 S_impl_natMul_0_w) body_impl_natMul_0 := loop_ok2 mix lay_ok cons_impl_natMul (by kernel_rfl) (loops_mem loops_impl_natMul_0 (⟨⟨_, by kernel_rfl, l_impl_natMul_1⟩, trivial⟩)) S_impl_natMul_0_ok fun _ _ h => h
theorem loops_impl_natMul : loopsIn code_impl_natMul = [body_impl_natMul_0] := by kernel_rfl
theorem m_impl_natMul : Meets Try.prog 155 c_impl_natMul := meets_of (E := E_impl_natMul) (code := code_impl_natMul) mix lay_ok cons_impl_natMul Try.func155 (by kernel_rfl) sg_impl_natMul (by kernel_rfl) (fun y => y.1) c_impl_natMul.out (fun _ => rfl) c_impl_natMul.run (fun x => by kernel_rfl) (by kernel_rfl) (loops_mem loops_impl_natMul (⟨⟨_, by kernel_rfl, l_impl_natMul_0⟩, trivial⟩))

noncomputable def sg_impl_natDiv : Sig := ⟨[(false, [.d (.sl .int)]), (false, [.d (.sl .int)])], [], true, [(false, [.own 0]), (false, [.own 1])], [(0, .arr false .int), (1, .arr false .int)]⟩
noncomputable def c_impl_natDiv : Con := ⟨sg_impl_natDiv, List Int × List Int, fun x => M_impl_natDiv x.1 x.2.1, fun r => (r.1, r.2, ())⟩
noncomputable def code_impl_natDiv : Code := Try.f128.body.getD .skip
noncomputable def body_impl_natDiv_0 : Code := (loopsIn code_impl_natDiv).getD 0 .skip
noncomputable def body_impl_natDiv_1 : Code := (loopsIn code_impl_natDiv).getD 1 .skip
noncomputable def body_impl_natDiv_2 : Code := (loopsIn body_impl_natDiv_1).getD 0 .skip
noncomputable def body_impl_natDiv_3 : Code := (loopsIn body_impl_natDiv_1).getD 1 .skip
noncomputable def body_impl_natDiv_4 : Code := (loopsIn body_impl_natDiv_1).getD 2 .skip
noncomputable def D_impl_natDiv_0 : LoopD := ⟨⟨mkSlots [(0, false, [.d (.sl .int)]), (6, false, [.d (.int .i64)]), (7, false, [.own 15360]), (8, false, [.own 15424]), (9, false, [.d (.int .i64)])] 239 0, [(15360, .arr false .int), (15424, .arr false .int)]⟩, [], [(.exit 0, ⟨mkSlots [(6, false, [.d (.int .i64)]), (7, false, [.own 15360]), (8, false, [.own 15424]), (9, false, [.d (.int .i64)])] 239 0, [(15360, .arr false .int), (15424, .arr false .int)]⟩, [])]⟩
noncomputable def D_impl_natDiv_1 : LoopD := ⟨⟨mkSlots [(6, false, [.d (.int .i64)]), (7, false, [.own 15360]), (8, false, [.own 15424]), (9, false, [.d (.int .i64)]), (10, false, [.own 15488]), (11, false, [.d (.int .i64)]), (12, false, [.d (.int .i64)])] 239 0, [(15360, .arr false .int), (15424, .arr false .int), (15488, .arr false .int)]⟩, [], [(.exit 2, ⟨mkSlots [(6, false, [.d (.int .i64)]), (7, false, [.own 15360]), (10, false, [.own 15488])] 239 0, [(15360, .arr false .int), (15488, .arr false .int)]⟩, [])]⟩
noncomputable def D_impl_natDiv_2 : LoopD := ⟨⟨mkSlots [(6, false, [.d (.int .i64)]), (7, false, [.own 15360]), (8, false, [.own 15424]), (9, false, [.d (.int .i64)]), (10, false, [.own 15488]), (11, false, [.d (.int .i64)]), (12, false, [.d (.int .i64)]), (14, false, [.d (.int .i64)]), (15, false, [.d (.int .i64)])] 239 0, [(15360, .arr false .int), (15424, .arr false .int), (15488, .arr false .int)]⟩, [], [(.exit 4, ⟨mkSlots [(6, false, [.d (.int .i64)]), (7, false, [.own 15360]), (8, false, [.own 15424]), (9, false, [.d (.int .i64)]), (10, false, [.own 15488]), (11, false, [.d (.int .i64)]), (12, false, [.d (.int .i64)]), (14, false, [.d (.int .i64)])] 239 0, [(15360, .arr false .int), (15424, .arr false .int), (15488, .arr false .int)]⟩, [])]⟩
noncomputable def D_impl_natDiv_3 : LoopD := ⟨⟨mkSlots [(6, false, [.d (.int .i64)]), (7, false, [.own 15360]), (8, false, [.own 15424]), (9, false, [.d (.int .i64)]), (10, false, [.own 15488]), (11, false, [.d (.int .i64)]), (12, false, [.d (.int .i64)]), (14, false, [.d (.int .i64)]), (16, false, [.d (.int .i64)]), (135, false, [.d (.int .i64)]), (136, false, [.d (.int .i64)])] 239 0, [(15360, .arr false .int), (15424, .arr false .int), (15488, .arr false .int)]⟩, [], [(.exit 6, ⟨mkSlots [(6, false, [.d (.int .i64)]), (7, false, [.own 15360]), (8, false, [.own 15424]), (9, false, [.d (.int .i64)]), (10, false, [.own 15488]), (11, false, [.d (.int .i64)]), (12, false, [.d (.int .i64)]), (14, false, [.d (.int .i64)]), (16, false, [.d (.int .i64)])] 239 0, [(15360, .arr false .int), (15424, .arr false .int), (15488, .arr false .int)]⟩, [])]⟩
noncomputable def D_impl_natDiv_4 : LoopD := ⟨⟨mkSlots [(6, false, [.d (.int .i64)]), (7, false, [.own 15360]), (8, false, [.own 15424]), (9, false, [.d (.int .i64)]), (10, false, [.own 15488]), (11, false, [.d (.int .i64)]), (12, false, [.d (.int .i64)]), (14, false, [.d (.int .i64)]), (19, false, [.d (.int .i64)]), (188, false, [.d (.int .i64)]), (189, false, [.d (.int .i64)])] 239 0, [(15360, .arr false .int), (15424, .arr false .int), (15488, .arr false .int)]⟩, [], [(.exit 8, ⟨mkSlots [(6, false, [.d (.int .i64)]), (7, false, [.own 15360]), (8, false, [.own 15424]), (9, false, [.d (.int .i64)]), (10, false, [.own 15488]), (11, false, [.d (.int .i64)]), (12, false, [.d (.int .i64)]), (14, false, [.d (.int .i64)]), (19, false, [.d (.int .i64)])] 239 0, [(15360, .arr false .int), (15424, .arr false .int), (15488, .arr false .int)]⟩, [])]⟩
noncomputable def S_impl_natDiv_0_w (x : Tys D_impl_natDiv_0.head.ks) : Option (OutT D_impl_natDiv_0.outs) := @whileO ((List Int) × Int × Int × (List Int) × (List Int) × Unit) (Int × Int × (List Int) × (List Int) × Unit) S_impl_natDiv_0 x
noncomputable def S_impl_natDiv_1_w (x : Tys D_impl_natDiv_1.head.ks) : Option (OutT D_impl_natDiv_1.outs) := @whileO (Int × Int × Int × Int × (List Int) × (List Int) × (List Int) × Unit) (Int × (List Int) × (List Int) × Unit) S_impl_natDiv_1 x
noncomputable def S_impl_natDiv_2_w (x : Tys D_impl_natDiv_2.head.ks) : Option (OutT D_impl_natDiv_2.outs) := @whileO (Int × Int × Int × Int × Int × Int × (List Int) × (List Int) × (List Int) × Unit) (Int × Int × Int × Int × Int × (List Int) × (List Int) × (List Int) × Unit) S_impl_natDiv_2 x
noncomputable def S_impl_natDiv_3_w (x : Tys D_impl_natDiv_3.head.ks) : Option (OutT D_impl_natDiv_3.outs) := @whileO (Int × Int × Int × Int × Int × Int × Int × Int × (List Int) × (List Int) × (List Int) × Unit) (Int × Int × Int × Int × Int × Int × (List Int) × (List Int) × (List Int) × Unit) S_impl_natDiv_3 x
noncomputable def S_impl_natDiv_4_w (x : Tys D_impl_natDiv_4.head.ks) : Option (OutT D_impl_natDiv_4.outs) := @whileO (Int × Int × Int × Int × Int × Int × Int × Int × (List Int) × (List Int) × (List Int) × Unit) (Int × Int × Int × Int × Int × Int × (List Int) × (List Int) × (List Int) × Unit) S_impl_natDiv_4 x
noncomputable def E_impl_natDiv : Env := ⟨lay, [(130, c_impl_natCmp), (143, c_impl_copyInts), (154, c_impl_divSmall), (155, c_impl_natMul), (156, c_impl_trim_c)], [(9, mkLM D_impl_natDiv_0 S_impl_natDiv_0_w), (14, mkLM D_impl_natDiv_1 S_impl_natDiv_1_w), (18, mkLM D_impl_natDiv_2 S_impl_natDiv_2_w), (24, mkLM D_impl_natDiv_3 S_impl_natDiv_3_w), (38, mkLM D_impl_natDiv_4 S_impl_natDiv_4_w)], [(16, [(0, []), (1, []), (2, []), (3, []), (4, []), (5, []), (6, []), (7, []), (8, []), (9, []), (10, []), (11, []), (12, []), (13, []), (14, []), (15, [14, 0, 1, 2, 3, 4, 5, 6, 7, 8, 9, 10, 11, 12, 13])]), (17, [(0, []), (1, []), (2, []), (3, []), (4, []), (5, []), (6, [2, 0, 1]), (7, [5, 6, 0, 1, 2, 3, 4])]), (18, [(0, []), (1, []), (2, []), (3, []), (4, []), (5, []), (6, []), (7, []), (8, []), (9, []), (10, []), (11, []), (12, []), (13, []), (14, []), (15, []), (16, []), (17, []), (18, []), (19, []), (20, []), (21, [])]), (26, [(0, []), (1, []), (2, []), (3, []), (4, []), (5, []), (6, []), (7, []), (8, []), (9, []), (10, []), (11, []), (12, []), (13, []), (14, []), (15, [14, 0, 1, 2, 3, 4, 5, 6, 7, 8, 9, 10, 11, 12, 13])]), (40, [(0, []), (1, []), (2, []), (3, []), (4, []), (5, []), (6, []), (7, []), (8, []), (9, []), (10, []), (11, []), (12, []), (13, [12, 0, 1, 2, 3, 4, 5, 6, 7, 8, 9, 10, 11])])]⟩
theorem cons_impl_natDiv : ConsOk Try.prog E_impl_natDiv.cons := consOk_cons m_impl_natCmp (callable_of Try.func130 (by kernel_rfl)) (consOk_cons m_impl_copyInts (callable_of Try.func143 (by kernel_rfl)) (consOk_cons m_impl_divSmall (callable_of Try.func154 (by kernel_rfl)) (consOk_cons m_impl_natMul (callable_of Try.func155 (by kernel_rfl)) (consOk_cons m_impl_trim_c (callable_of Try.func156 (by kernel_rfl)) (consOk_nil)))))
theorem S_impl_natDiv_4_ok (x : Tys D_impl_natDiv_4.head.ks) : stepL E_impl_natDiv D_impl_natDiv_4 body_impl_natDiv_4 x = S_impl_natDiv_4 x := by kernel_rfl
theorem loops_impl_natDiv_4 : loopsIn body_impl_natDiv_4 = [] := by kernel_rfl
theorem l_impl_natDiv_4 : LoopOk Try.prog (mkLM D_impl_natDiv_4 S_impl_natDiv_4_w) body_impl_natDiv_4 := loop_ok2 mix lay_ok cons_impl_natDiv (by kernel_rfl) (loops_mem loops_impl_natDiv_4 (trivial)) S_impl_natDiv_4_ok fun _ _ h => h
theorem S_impl_natDiv_3_ok (x : Tys D_impl_natDiv_3.head.ks) : stepL E_impl_natDiv D_impl_natDiv_3 body_impl_natDiv_3 x = S_impl_natDiv_3 x := by kernel_rfl
theorem loops_impl_natDiv_3 : loopsIn body_impl_natDiv_3 = [] := by kernel_rfl
theorem l_impl_natDiv_3 : LoopOk Try.prog (mkLM D_impl_natDiv_3 S_impl_natDiv_3_w) body_impl_natDiv_3 := loop_ok2 mix lay_ok cons_impl_natDiv (by kernel_rfl) (loops_mem loops_impl_natDiv_3 (trivial)) S_impl_natDiv_3_ok fun _ _ h => h
theorem S_impl_natDiv_2_ok (x : Tys D_impl_natDiv_2.head.ks) : stepL E_impl_natDiv D_impl_natDiv_2 body_impl_natDiv_2 x = S_impl_natDiv_2 x := by kernel_rfl
theorem loops_impl_natDiv_2 : loopsIn body_impl_natDiv_2 = [] := by kernel_rfl
theorem l_impl_natDiv_2 : LoopOk Try.prog (mkLM D_impl_natDiv_2 S_impl_natDiv_2_w) body_impl_natDiv_2 := loop_ok2 mix lay_ok cons_impl_natDiv (by kernel_rfl) (loops_mem loops_impl_natDiv_2 (trivial)) S_impl_natDiv_2_ok fun _ _ h => h
theorem S_impl_natDiv_1_ok (x : Tys D_impl_natDiv_1.head.ks) : stepL E_impl_natDiv D_impl_natDiv_1 body_impl_natDiv_1 x = S_impl_natDiv_1 x := by kernel_rfl
theorem loops_impl_natDiv_1 : loopsIn body_impl_natDiv_1 = [body_impl_natDiv_2, body_impl_natDiv_3, body_impl_natDiv_4] := by kernel_rfl
theorem l_impl_natDiv_1 : LoopOk Try.prog (mkLM D_impl_natDiv_1 S_impl_natDiv_1_w) body_impl_natDiv_1 := loop_ok2 mix lay_ok cons_impl_natDiv (by kernel_rfl) (loops_mem loops_impl_natDiv_1 (⟨⟨_, by kernel_rfl, l_impl_natDiv_2⟩, ⟨⟨_, by kernel_rfl, l_impl_natDiv_3⟩, ⟨⟨_, by kernel_rfl, l_impl_natDiv_4⟩, trivial⟩⟩⟩)) S_impl_natDiv_1_ok fun _ _ h => h
theorem S_impl_natDiv_0_ok (x : Tys D_impl_natDiv_0.head.ks) : stepL E_impl_natDiv D_impl_natDiv_0 body_impl_natDiv_0 x = S_impl_natDiv_0 x := by kernel_rfl
theorem loops_impl_natDiv_0 : loopsIn body_impl_natDiv_0 = [] := by kernel_rfl
theorem l_impl_natDiv_0 : LoopOk Try.prog (mkLM D_impl_natDiv_0 S_impl_natDiv_0_w) body_impl_natDiv_0 := loop_ok2 mix lay_ok cons_impl_natDiv (by kernel_rfl) (loops_mem loops_impl_natDiv_0 (trivial)) S_impl_natDiv_0_ok fun _ _ h => h
theorem loops_impl_natDiv : loopsIn code_impl_natDiv = [body_impl_natDiv_0, body_impl_natDiv_1] := by kernel_rfl
theorem m_impl_natDiv : Meets Try.prog 128 c_impl_natDiv := meets_of (E := E_impl_natDiv) (code := code_impl_natDiv) mix lay_ok cons_impl_natDiv Try.func128 (by kernel_rfl) sg_impl_natDiv (by kernel_rfl) (fun y => (y.1, y.2.1)) c_impl_natDiv.out (fun _ => rfl) c_impl_natDiv.run (fun x => by kernel_rfl) (by kernel_rfl) (loops_mem loops_impl_natDiv (⟨⟨_, by kernel_rfl, l_impl_natDiv_0⟩, ⟨⟨_, by kernel_rfl, l_impl_natDiv_1⟩, trivial⟩⟩))

noncomputable def sg_impl_natAdd : Sig := ⟨[(false, [.d (.sl .int)]), (false, [.d (.sl .int)])], [], false, [(false, [.own 0])], [(0, .arr false .int)]⟩
noncomputable def c_impl_natAdd : Con := ⟨sg_impl_natAdd, List Int, fun x => M_impl_natAdd x.1 x.2.1, fun r => (r, ())⟩
noncomputable def code_impl_natAdd : Code := Try.f129.body.getD .skip
noncomputable def body_impl_natAdd_0 : Code := (loopsIn code_impl_natAdd).getD 0 .skip
noncomputable def D_impl_natAdd_0 : LoopD := ⟨⟨mkSlots [(0, false, [.d (.sl .int)]), (1, false, [.d (.sl .int)]), (5, false, [.own 3648]), (6, false, [.d (.int .i64)]), (21, false, [.d (.int .i64)]), (22, false, [.d (.int .i64)])] 56 0, [(3648, .arr false .int)]⟩, [], [(.exit 0, ⟨mkSlots [(5, false, [.own 3648]), (6, false, [.d (.int .i64)])] 56 0, [(3648, .arr false .int)]⟩, [])]⟩
noncomputable def S_impl_natAdd_0_w (x : Tys D_impl_natAdd_0.head.ks) : Option (OutT D_impl_natAdd_0.outs) := @whileO ((List Int) × (List Int) × Int × Int × Int × (List Int) × Unit) (Int × (List Int) × Unit) S_impl_natAdd_0 x
noncomputable def E_impl_natAdd : Env := ⟨lay, [], [(6, mkLM D_impl_natAdd_0 S_impl_natAdd_0_w)], []⟩
theorem cons_impl_natAdd : ConsOk Try.prog E_impl_natAdd.cons := consOk_nil
theorem S_impl_natAdd_0_ok (x : Tys D_impl_natAdd_0.head.ks) : stepL E_impl_natAdd D_impl_natAdd_0 body_impl_natAdd_0 x = S_impl_natAdd_0 x := by kernel_rfl
theorem loops_impl_natAdd_0 : loopsIn body_impl_natAdd_0 = [] := by kernel_rfl
theorem l_impl_natAdd_0 : LoopOk Try.prog (mkLM D_impl_natAdd_0 S_impl_natAdd_0_w) body_impl_natAdd_0 := loop_ok2 mix lay_ok cons_impl_natAdd (by kernel_rfl) (loops_mem loops_impl_natAdd_0 (trivial)) S_impl_natAdd_0_ok fun _ _ h => h
theorem loops_impl_natAdd : loopsIn code_impl_natAdd = [body_impl_natAdd_0] := by kernel_rfl
theorem m_impl_natAdd : Meets Try.prog 129 c_impl_natAdd := meets_of (E := E_impl_natAdd) (code := code_impl_natAdd) mix lay_ok cons_impl_natAdd Try.func129 (by kernel_rfl) sg_impl_natAdd (by kernel_rfl) (fun y => y.1) c_impl_natAdd.out (fun _ => rfl) c_impl_natAdd.run (fun x => by kernel_rfl) (by kernel_rfl) (loops_mem loops_impl_natAdd (⟨⟨_, by kernel_rfl, l_impl_natAdd_0⟩, trivial⟩))

noncomputable def sg_impl_root : Sig := ⟨[(false, [.d (.sl .int)])], [], false, [(false, [.own 0])], [(0, .arr false .int)]⟩
noncomputable def c_impl_root : Con := ⟨sg_impl_root, List Int, fun x => M_impl_root x.1, fun r => (r, ())⟩
noncomputable def code_impl_root : Code := Try.f82.body.getD .skip
noncomputable def body_impl_root_0 : Code := (loopsIn code_impl_root).getD 0 .skip
noncomputable def D_impl_root_0 : LoopD := ⟨⟨mkSlots [(0, false, [.d (.sl .int)]), (3, false, [.own 2752])] 42 0, [(2752, .arr false .int)]⟩, [], [(.ret, ⟨mkSlots [(2, false, [.own 2816])] 42 0, [(2816, .arr false .int)]⟩, [])]⟩
noncomputable def S_impl_root_0_w (x : Tys D_impl_root_0.head.ks) : Option (OutT D_impl_root_0.outs) := @whileO ((List Int) × (List Int) × Unit) ((List Int) × Unit) S_impl_root_0 x
noncomputable def E_impl_root : Env := ⟨lay, [(128, c_impl_natDiv), (129, c_impl_natAdd), (130, c_impl_natCmp)], [(5, mkLM D_impl_root_0 S_impl_root_0_w)], []⟩
theorem cons_impl_root : ConsOk Try.prog E_impl_root.cons := consOk_cons m_impl_natDiv (callable_of Try.func128 (by kernel_rfl)) (consOk_cons m_impl_natAdd (callable_of Try.func129 (by kernel_rfl)) (consOk_cons m_impl_natCmp (callable_of Try.func130 (by kernel_rfl)) (consOk_nil)))
theorem S_impl_root_0_ok (x : Tys D_impl_root_0.head.ks) : stepL E_impl_root D_impl_root_0 body_impl_root_0 x = S_impl_root_0 x := by kernel_rfl
theorem loops_impl_root_0 : loopsIn body_impl_root_0 = [] := by kernel_rfl
theorem l_impl_root_0 : LoopOk Try.prog (mkLM D_impl_root_0 S_impl_root_0_w) body_impl_root_0 := loop_ok2 mix lay_ok cons_impl_root (by kernel_rfl) (loops_mem loops_impl_root_0 (trivial)) S_impl_root_0_ok fun _ _ h => h
theorem loops_impl_root : loopsIn code_impl_root = [body_impl_root_0] := by kernel_rfl
theorem m_impl_root : Meets Try.prog 82 c_impl_root := meets_of (E := E_impl_root) (code := code_impl_root) mix lay_ok cons_impl_root Try.func82 (by kernel_rfl) sg_impl_root (by kernel_rfl) (fun y => y.1) c_impl_root.out (fun _ => rfl) c_impl_root.run (fun x => by kernel_rfl) (by kernel_rfl) (loops_mem loops_impl_root (⟨⟨_, by kernel_rfl, l_impl_root_0⟩, trivial⟩))

noncomputable def sg_impl_RootOfNat : Sig := ⟨[(false, [.d (.sl .int)])], [], false, [(false, [.own 0])], [(0, .arr false .int)]⟩
noncomputable def c_impl_RootOfNat : Con := ⟨sg_impl_RootOfNat, List Int, fun x => M_impl_RootOfNat x.1, fun r => (r, ())⟩
noncomputable def code_impl_RootOfNat : Code := Try.f31.body.getD .skip
noncomputable def E_impl_RootOfNat : Env := ⟨lay, [(81, c_impl_NatOk), (82, c_impl_root)], [], []⟩
theorem cons_impl_RootOfNat : ConsOk Try.prog E_impl_RootOfNat.cons := consOk_cons m_impl_NatOk (callable_of Try.func81 (by kernel_rfl)) (consOk_cons m_impl_root (callable_of Try.func82 (by kernel_rfl)) (consOk_nil))
theorem loops_impl_RootOfNat : loopsIn code_impl_RootOfNat = [] := by kernel_rfl
theorem m_impl_RootOfNat : Meets Try.prog 31 c_impl_RootOfNat := meets_of (E := E_impl_RootOfNat) (code := code_impl_RootOfNat) mix lay_ok cons_impl_RootOfNat Try.func31 (by kernel_rfl) sg_impl_RootOfNat (by kernel_rfl) (fun y => y.1) c_impl_RootOfNat.out (fun _ => rfl) c_impl_RootOfNat.run (fun x => by kernel_rfl) (by kernel_rfl) (loops_mem loops_impl_RootOfNat (trivial))

noncomputable def sg_laws_eqIntS : Sig := ⟨[(false, [.d (.sl .int)]), (false, [.d (.sl .int)])], [], false, [(false, [.d (.bool)])], []⟩
noncomputable def c_laws_eqIntS : Con := ⟨sg_laws_eqIntS, Bool, fun x => M_laws_eqIntS x.1 x.2.1, fun r => (r, ())⟩
noncomputable def code_laws_eqIntS : Code := Try.f21.body.getD .skip
noncomputable def body_laws_eqIntS_0 : Code := (loopsIn code_laws_eqIntS).getD 0 .skip
noncomputable def D_laws_eqIntS_0 : LoopD := ⟨⟨mkSlots [(0, false, [.d (.sl .int)]), (1, false, [.d (.sl .int)]), (5, false, [.d (.int .i64)])] 26 0, []⟩, [], [(.ret, ⟨mkSlots [(4, false, [.d (.bool)])] 26 0, []⟩, []), (.exit 0, ⟨mkSlots [] 26 0, []⟩, [])]⟩
noncomputable def S_laws_eqIntS_0_w (x : Tys D_laws_eqIntS_0.head.ks) : Option (OutT D_laws_eqIntS_0.outs) := @whileO ((List Int) × (List Int) × Int × Unit) ((Bool × Unit) ⊕ (Unit)) S_laws_eqIntS_0 x
noncomputable def E_laws_eqIntS : Env := ⟨lay, [], [(4, mkLM D_laws_eqIntS_0 S_laws_eqIntS_0_w)], [(6, [(0, []), (1, []), (2, []), (3, []), (4, []), (5, []), (6, []), (7, []), (8, [])])]⟩
theorem cons_laws_eqIntS : ConsOk Try.prog E_laws_eqIntS.cons := consOk_nil
theorem S_laws_eqIntS_0_ok (x : Tys D_laws_eqIntS_0.head.ks) : stepL E_laws_eqIntS D_laws_eqIntS_0 body_laws_eqIntS_0 x = S_laws_eqIntS_0 x := by kernel_rfl
theorem loops_laws_eqIntS_0 : loopsIn body_laws_eqIntS_0 = [] := by kernel_rfl
theorem l_laws_eqIntS_0 : LoopOk Try.prog (mkLM D_laws_eqIntS_0 S_laws_eqIntS_0_w) body_laws_eqIntS_0 := loop_ok2 mix lay_ok cons_laws_eqIntS (by kernel_rfl) (loops_mem loops_laws_eqIntS_0 (trivial)) S_laws_eqIntS_0_ok fun _ _ h => h
theorem loops_laws_eqIntS : loopsIn code_laws_eqIntS = [body_laws_eqIntS_0] := by kernel_rfl
theorem m_laws_eqIntS : Meets Try.prog 21 c_laws_eqIntS := meets_of (E := E_laws_eqIntS) (code := code_laws_eqIntS) mix lay_ok cons_laws_eqIntS Try.func21 (by kernel_rfl) sg_laws_eqIntS (by kernel_rfl) (fun y => y.1) c_laws_eqIntS.out (fun _ => rfl) c_laws_eqIntS.run (fun x => by kernel_rfl) (by kernel_rfl) (loops_mem loops_laws_eqIntS (⟨⟨_, by kernel_rfl, l_laws_eqIntS_0⟩, trivial⟩))

noncomputable def sg_laws_markIntS_md : Sig := ⟨[(false, [.own 63]), (false, [.d (.int .i64)])], [(63, .arr false .int)], false, [(false, [.d (.int .i64)])], [(63, .arr false .int)]⟩
noncomputable def c_laws_markIntS_md : Con := ⟨sg_laws_markIntS_md, Int × List Int, fun x => M_laws_markIntS_md x.2.1 x.1, fun r => (r.1, r.2, ())⟩
noncomputable def code_laws_markIntS_md : Code := Try.f23.body.getD .skip
noncomputable def body_laws_markIntS_md_0 : Code := (loopsIn code_laws_markIntS_md).getD 0 .skip
noncomputable def D_laws_markIntS_md_0 : LoopD := ⟨⟨mkSlots [(0, false, [.own 63]), (1, false, [.d (.int .i64)]), (5, false, [.d (.int .i64)])] 19 0, [(63, .arr false .int)]⟩, [], [(.exit 0, ⟨mkSlots [(1, false, [.d (.int .i64)])] 19 0, [(63, .arr false .int)]⟩, [])]⟩
noncomputable def S_laws_markIntS_md_0_w (x : Tys D_laws_markIntS_md_0.head.ks) : Option (OutT D_laws_markIntS_md_0.outs) := @whileO (Int × Int × (List Int) × Unit) (Int × (List Int) × Unit) S_laws_markIntS_md_0 x
noncomputable def E_laws_markIntS_md : Env := ⟨lay, [], [(2, mkLM D_laws_markIntS_md_0 S_laws_markIntS_md_0_w)], []⟩
theorem cons_laws_markIntS_md : ConsOk Try.prog E_laws_markIntS_md.cons := consOk_nil
theorem S_laws_markIntS_md_0_ok (x : Tys D_laws_markIntS_md_0.head.ks) : stepL E_laws_markIntS_md D_laws_markIntS_md_0 body_laws_markIntS_md_0 x = S_laws_markIntS_md_0 x := by kernel_rfl
theorem loops_laws_markIntS_md_0 : loopsIn body_laws_markIntS_md_0 = [] := by kernel_rfl
theorem l_laws_markIntS_md_0 : LoopOk Try.prog (mkLM D_laws_markIntS_md_0 S_laws_markIntS_md_0_w) body_laws_markIntS_md_0 := loop_ok2 mix lay_ok cons_laws_markIntS_md (by kernel_rfl) (loops_mem loops_laws_markIntS_md_0 (trivial)) S_laws_markIntS_md_0_ok fun _ _ h => h
theorem loops_laws_markIntS_md : loopsIn code_laws_markIntS_md = [body_laws_markIntS_md_0] := by kernel_rfl
theorem m_laws_markIntS_md : Meets Try.prog 23 c_laws_markIntS_md := meets_of (E := E_laws_markIntS_md) (code := code_laws_markIntS_md) mix lay_ok cons_laws_markIntS_md Try.func23 (by kernel_rfl) sg_laws_markIntS_md (by kernel_rfl) (fun y => (y.1, y.2.1)) c_laws_markIntS_md.out (fun _ => rfl) c_laws_markIntS_md.run (fun x => by kernel_rfl) (by kernel_rfl) (loops_mem loops_laws_markIntS_md (⟨⟨_, by kernel_rfl, l_laws_markIntS_md_0⟩, trivial⟩))

noncomputable def sg_laws_heldIntS : Sig := ⟨[(false, [.d (.sl .int)]), (false, [.d (.int .i64)])], [], false, [(false, [.d (.int .i64)])], []⟩
noncomputable def c_laws_heldIntS : Con := ⟨sg_laws_heldIntS, Int, fun x => M_laws_heldIntS x.1 x.2.1, fun r => (r, ())⟩
noncomputable def code_laws_heldIntS : Code := Try.f32.body.getD .skip
noncomputable def body_laws_heldIntS_0 : Code := (loopsIn code_laws_heldIntS).getD 0 .skip
noncomputable def D_laws_heldIntS_0 : LoopD := ⟨⟨mkSlots [(0, false, [.d (.sl .int)]), (1, false, [.d (.int .i64)]), (5, false, [.d (.int .i64)])] 21 0, []⟩, [], [(.ret, ⟨mkSlots [(4, false, [.d (.int .i64)])] 21 0, []⟩, []), (.exit 0, ⟨mkSlots [(1, false, [.d (.int .i64)])] 21 0, []⟩, [])]⟩
noncomputable def S_laws_heldIntS_0_w (x : Tys D_laws_heldIntS_0.head.ks) : Option (OutT D_laws_heldIntS_0.outs) := @whileO ((List Int) × Int × Int × Unit) ((Int × Unit) ⊕ (Int × Unit)) S_laws_heldIntS_0 x
noncomputable def E_laws_heldIntS : Env := ⟨lay, [], [(2, mkLM D_laws_heldIntS_0 S_laws_heldIntS_0_w)], []⟩
theorem cons_laws_heldIntS : ConsOk Try.prog E_laws_heldIntS.cons := consOk_nil
theorem S_laws_heldIntS_0_ok (x : Tys D_laws_heldIntS_0.head.ks) : stepL E_laws_heldIntS D_laws_heldIntS_0 body_laws_heldIntS_0 x = S_laws_heldIntS_0 x := by kernel_rfl
theorem loops_laws_heldIntS_0 : loopsIn body_laws_heldIntS_0 = [] := by kernel_rfl
theorem l_laws_heldIntS_0 : LoopOk Try.prog (mkLM D_laws_heldIntS_0 S_laws_heldIntS_0_w) body_laws_heldIntS_0 := loop_ok2 mix lay_ok cons_laws_heldIntS (by kernel_rfl) (loops_mem loops_laws_heldIntS_0 (trivial)) S_laws_heldIntS_0_ok fun _ _ h => h
theorem loops_laws_heldIntS : loopsIn code_laws_heldIntS = [body_laws_heldIntS_0] := by kernel_rfl
theorem m_laws_heldIntS : Meets Try.prog 32 c_laws_heldIntS := meets_of (E := E_laws_heldIntS) (code := code_laws_heldIntS) mix lay_ok cons_laws_heldIntS Try.func32 (by kernel_rfl) sg_laws_heldIntS (by kernel_rfl) (fun y => y.1) c_laws_heldIntS.out (fun _ => rfl) c_laws_heldIntS.run (fun x => by kernel_rfl) (by kernel_rfl) (loops_mem loops_laws_heldIntS (⟨⟨_, by kernel_rfl, l_laws_heldIntS_0⟩, trivial⟩))

noncomputable def sg_laws_FnExactRootOfNat : Sig := ⟨[(false, [.d (.sl .int)])], [], false, [(false, [.d (.bool)])], []⟩
noncomputable def c_laws_FnExactRootOfNat : Con := ⟨sg_laws_FnExactRootOfNat, Bool, fun x => M_laws_FnExactRootOfNat x.1, fun r => (r, ())⟩
noncomputable def code_laws_FnExactRootOfNat : Code := Try.f5.body.getD .skip
noncomputable def E_laws_FnExactRootOfNat : Env := ⟨lay, [(18, c_laws_toIntS), (30, c_spec_RootOfNat), (31, c_impl_RootOfNat), (21, c_laws_eqIntS), (23, c_laws_markIntS_md), (32, c_laws_heldIntS)], [], []⟩
theorem cons_laws_FnExactRootOfNat : ConsOk Try.prog E_laws_FnExactRootOfNat.cons := consOk_cons m_laws_toIntS (callable_of Try.func18 (by kernel_rfl)) (consOk_cons m_spec_RootOfNat (callable_of Try.func30 (by kernel_rfl)) (consOk_cons m_impl_RootOfNat (callable_of Try.func31 (by kernel_rfl)) (consOk_cons m_laws_eqIntS (callable_of Try.func21 (by kernel_rfl)) (consOk_cons m_laws_markIntS_md (callable_of Try.func23 (by kernel_rfl)) (consOk_cons m_laws_heldIntS (callable_of Try.func32 (by kernel_rfl)) (consOk_nil))))))
theorem loops_laws_FnExactRootOfNat : loopsIn code_laws_FnExactRootOfNat = [] := by kernel_rfl
theorem m_laws_FnExactRootOfNat : Meets Try.prog 5 c_laws_FnExactRootOfNat := meets_of (E := E_laws_FnExactRootOfNat) (code := code_laws_FnExactRootOfNat) mix lay_ok cons_laws_FnExactRootOfNat Try.func5 (by kernel_rfl) sg_laws_FnExactRootOfNat (by kernel_rfl) (fun y => y.1) c_laws_FnExactRootOfNat.out (fun _ => rfl) c_laws_FnExactRootOfNat.run (fun x => by kernel_rfl) (by kernel_rfl) (loops_mem loops_laws_FnExactRootOfNat (trivial))
end Go.Proofs.Ytmkoafebmfoeaaa.WRootOfNat
