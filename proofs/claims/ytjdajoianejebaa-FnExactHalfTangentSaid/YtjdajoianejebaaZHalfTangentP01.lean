/-
  Own work: part 8 of the texts that the proof of the given statement leans on.
-/
import Derived.Test.YtjdajoianejebaaProg
import Derived.Test.YtjdajoianejebaaZHalfTangentP00
/-
  Own work, written by program (gen.py): the functions that the statement reaches meet their contracts.
-/
open Go Go.Di Go.Proofs
namespace Go.Proofs.Ytjdajoianejebaa.WHalfTangent
noncomputable def lay : List (TypeId × TI) := [
  (3, ⟨false, [.d (.int .i64 0)], [], none, some (.int .i64), false⟩),
  (4, ⟨false, [.d (.bool false)], [], none, some .bool, false⟩),
  (22, ⟨false, [.mt], [], some .int, none, false⟩),
  (24, ⟨true, [.d (.bool false), .mt], [(0, 1, false), (1, 1, false)], none, none, true⟩),
  (26, ⟨true, [.d (.bool false), .mt, .mt], [(0, 2, true), (2, 1, false)], none, none, true⟩),
  (28, ⟨true, [.d (.bool false), .mt], [(0, 1, false), (1, 1, false)], none, none, true⟩),
  (30, ⟨true, [.d (.bool false), .mt, .mt], [(0, 2, true), (2, 1, false)], none, none, true⟩)]
theorem lay_ok : LayOk Try.prog lay := layOk_ok (by kernel_rfl)
theorem mix : Try.prog.follows .mixedOrders = true := by kernel_rfl

noncomputable def sg_laws_szIntS : Sig := ⟨[(false, [.d (.sl .int)]), (false, [.d (.int .i64)])], [], false, [(false, [.d (.int .i64)])], []⟩
noncomputable def c_laws_szIntS : Con := ⟨sg_laws_szIntS, Int, fun x => M_laws_szIntS x.1 x.2.1, fun r => (r, ())⟩
noncomputable def code_laws_szIntS : Code := Try.f77.body.getD .skip
noncomputable def E_laws_szIntS : Env := ⟨lay, [], [], []⟩
theorem cons_laws_szIntS : ConsOk Try.prog E_laws_szIntS.cons := consOk_nil
theorem loops_laws_szIntS : loopsIn code_laws_szIntS = [] := by kernel_rfl
theorem m_laws_szIntS : Meets Try.prog 77 c_laws_szIntS := meets_of (E := E_laws_szIntS) (code := code_laws_szIntS) mix lay_ok cons_laws_szIntS Try.func77 (by kernel_rfl) sg_laws_szIntS (by kernel_rfl) (fun y => y.1) c_laws_szIntS.out (fun _ => rfl) c_laws_szIntS.run (fun x => by kernel_rfl) (by kernel_rfl) (loops_mem loops_laws_szIntS (trivial))

noncomputable def sg_laws_szBigInt : Sig := ⟨[(true, [.d (.bool), .d (.sl .int)]), (false, [.d (.int .i64)])], [], false, [(false, [.d (.int .i64)])], []⟩
noncomputable def c_laws_szBigInt : Con := ⟨sg_laws_szBigInt, Int, fun x => M_laws_szBigInt (⟨x.1, x.2.1⟩ : Bg) x.2.2.1, fun r => (r, ())⟩
noncomputable def code_laws_szBigInt : Code := Try.f76.body.getD .skip
noncomputable def E_laws_szBigInt : Env := ⟨lay, [(77, c_laws_szIntS)], [], []⟩
theorem cons_laws_szBigInt : ConsOk Try.prog E_laws_szBigInt.cons := consOk_cons m_laws_szIntS (callable_of Try.func77 (by kernel_rfl)) (consOk_nil)
theorem loops_laws_szBigInt : loopsIn code_laws_szBigInt = [] := by kernel_rfl
theorem m_laws_szBigInt : Meets Try.prog 76 c_laws_szBigInt := meets_of (E := E_laws_szBigInt) (code := code_laws_szBigInt) mix lay_ok cons_laws_szBigInt Try.func76 (by kernel_rfl) sg_laws_szBigInt (by kernel_rfl) (fun y => y.1) c_laws_szBigInt.out (fun _ => rfl) c_laws_szBigInt.run (fun x => by kernel_rfl) (by kernel_rfl) (loops_mem loops_laws_szBigInt (trivial))

noncomputable def sg_laws_szRat : Sig := ⟨[(true, [.d (.bool), .d (.sl .int), .d (.sl .int)]), (false, [.d (.int .i64)])], [], false, [(false, [.d (.int .i64)])], []⟩
noncomputable def c_laws_szRat : Con := ⟨sg_laws_szRat, Int, fun x => M_laws_szRat (⟨x.1, x.2.1, x.2.2.1⟩ : Rt) x.2.2.2.1, fun r => (r, ())⟩
noncomputable def code_laws_szRat : Code := Try.f15.body.getD .skip
noncomputable def E_laws_szRat : Env := ⟨lay, [(76, c_laws_szBigInt), (77, c_laws_szIntS)], [], []⟩
theorem cons_laws_szRat : ConsOk Try.prog E_laws_szRat.cons := consOk_cons m_laws_szBigInt (callable_of Try.func76 (by kernel_rfl)) (consOk_cons m_laws_szIntS (callable_of Try.func77 (by kernel_rfl)) (consOk_nil))
theorem loops_laws_szRat : loopsIn code_laws_szRat = [] := by kernel_rfl
theorem m_laws_szRat : Meets Try.prog 15 c_laws_szRat := meets_of (E := E_laws_szRat) (code := code_laws_szRat) mix lay_ok cons_laws_szRat Try.func15 (by kernel_rfl) sg_laws_szRat (by kernel_rfl) (fun y => y.1) c_laws_szRat.out (fun _ => rfl) c_laws_szRat.run (fun x => by kernel_rfl) (by kernel_rfl) (loops_mem loops_laws_szRat (trivial))

noncomputable def sg_laws_toIntS : Sig := ⟨[(false, [.d (.sl .int)])], [], false, [(false, [.own 0])], [(0, .arr false .int)]⟩
noncomputable def c_laws_toIntS : Con := ⟨sg_laws_toIntS, List Int, fun x => M_laws_toIntS x.1, fun r => (r, ())⟩
noncomputable def code_laws_toIntS : Code := Try.f81.body.getD .skip
noncomputable def body_laws_toIntS_0 : Code := (loopsIn code_laws_toIntS).getD 0 .skip
noncomputable def D_laws_toIntS_0 : LoopD := ⟨⟨mkSlots [(0, false, [.d (.sl .int)]), (3, false, [.own 1472]), (4, false, [.d (.int .i64)])] 22 0, [(1472, .arr false .int)]⟩, [], [(.exit 0, ⟨mkSlots [(3, false, [.own 1472])] 22 0, [(1472, .arr false .int)]⟩, [])]⟩
noncomputable def S_laws_toIntS_0_w (x : Tys D_laws_toIntS_0.head.ks) : Option (OutT D_laws_toIntS_0.outs) := @whileO ((List Int) × Int × (List Int) × Unit) ((List Int) × Unit) S_laws_toIntS_0 x
noncomputable def E_laws_toIntS : Env := ⟨lay, [], [(3, mkLM D_laws_toIntS_0 S_laws_toIntS_0_w)], []⟩
theorem cons_laws_toIntS : ConsOk Try.prog E_laws_toIntS.cons := consOk_nil
theorem S_laws_toIntS_0_ok (x : Tys D_laws_toIntS_0.head.ks) : stepL E_laws_toIntS D_laws_toIntS_0 body_laws_toIntS_0 x = S_laws_toIntS_0 x := by kernel_rfl
theorem loops_laws_toIntS_0 : loopsIn body_laws_toIntS_0 = [] := by kernel_rfl
theorem l_laws_toIntS_0 : LoopOk Try.prog (mkLM D_laws_toIntS_0 S_laws_toIntS_0_w) body_laws_toIntS_0 := loop_ok2 mix lay_ok cons_laws_toIntS (by kernel_rfl) (loops_mem loops_laws_toIntS_0 (trivial)) S_laws_toIntS_0_ok fun _ _ h => h
theorem loops_laws_toIntS : loopsIn code_laws_toIntS = [body_laws_toIntS_0] := by kernel_rfl
theorem m_laws_toIntS : Meets Try.prog 81 c_laws_toIntS := meets_of (E := E_laws_toIntS) (code := code_laws_toIntS) mix lay_ok cons_laws_toIntS Try.func81 (by kernel_rfl) sg_laws_toIntS (by kernel_rfl) (fun y => y.1) c_laws_toIntS.out (fun _ => rfl) c_laws_toIntS.run (fun x => by kernel_rfl) (by kernel_rfl) (loops_mem loops_laws_toIntS (⟨⟨_, by kernel_rfl, l_laws_toIntS_0⟩, trivial⟩))

noncomputable def sg_laws_toBigInt : Sig := ⟨[(true, [.d (.bool), .d (.sl .int)])], [], false, [(true, [.d (.bool), .own 0])], [(0, .arr false .int)]⟩
noncomputable def c_laws_toBigInt : Con := ⟨sg_laws_toBigInt, Bg, fun x => M_laws_toBigInt (⟨x.1, x.2.1⟩ : Bg), fun r => (r.neg, r.mag, ())⟩
noncomputable def code_laws_toBigInt : Code := Try.f80.body.getD .skip
noncomputable def E_laws_toBigInt : Env := ⟨lay, [(81, c_laws_toIntS)], [], []⟩
theorem cons_laws_toBigInt : ConsOk Try.prog E_laws_toBigInt.cons := consOk_cons m_laws_toIntS (callable_of Try.func81 (by kernel_rfl)) (consOk_nil)
theorem loops_laws_toBigInt : loopsIn code_laws_toBigInt = [] := by kernel_rfl
theorem m_laws_toBigInt : Meets Try.prog 80 c_laws_toBigInt := meets_of (E := E_laws_toBigInt) (code := code_laws_toBigInt) mix lay_ok cons_laws_toBigInt Try.func80 (by kernel_rfl) sg_laws_toBigInt (by kernel_rfl) (fun y => (⟨y.1, y.2.1⟩ : Bg)) c_laws_toBigInt.out (fun _ => rfl) c_laws_toBigInt.run (fun x => by kernel_rfl) (by kernel_rfl) (loops_mem loops_laws_toBigInt (trivial))

noncomputable def sg_laws_toRat : Sig := ⟨[(true, [.d (.bool), .d (.sl .int), .d (.sl .int)])], [], false, [(true, [.d (.bool), .own 0, .own 1])], [(0, .arr false .int), (1, .arr false .int)]⟩
noncomputable def c_laws_toRat : Con := ⟨sg_laws_toRat, Rt, fun x => M_laws_toRat (⟨x.1, x.2.1, x.2.2.1⟩ : Rt), fun r => (r.neg, r.mag, r.den, ())⟩
noncomputable def code_laws_toRat : Code := Try.f17.body.getD .skip
noncomputable def E_laws_toRat : Env := ⟨lay, [(80, c_laws_toBigInt), (81, c_laws_toIntS)], [], []⟩
theorem cons_laws_toRat : ConsOk Try.prog E_laws_toRat.cons := consOk_cons m_laws_toBigInt (callable_of Try.func80 (by kernel_rfl)) (consOk_cons m_laws_toIntS (callable_of Try.func81 (by kernel_rfl)) (consOk_nil))
theorem loops_laws_toRat : loopsIn code_laws_toRat = [] := by kernel_rfl
theorem m_laws_toRat : Meets Try.prog 17 c_laws_toRat := meets_of (E := E_laws_toRat) (code := code_laws_toRat) mix lay_ok cons_laws_toRat Try.func17 (by kernel_rfl) sg_laws_toRat (by kernel_rfl) (fun y => (⟨y.1, y.2.1, y.2.2.1⟩ : Rt)) c_laws_toRat.out (fun _ => rfl) c_laws_toRat.run (fun x => by kernel_rfl) (by kernel_rfl) (loops_mem loops_laws_toRat (trivial))

noncomputable def sg_spec_l01In : Sig := ⟨[(false, [.d (.int .i64)]), (false, [.d (.int .i64)]), (false, [.d (.int .i64)])], [], false, [(false, [.d (.bool)])], []⟩
noncomputable def c_spec_l01In : Con := ⟨sg_spec_l01In, Bool, fun x => M_spec_l01In x.1 x.2.1 x.2.2.1, fun r => (r, ())⟩
noncomputable def code_spec_l01In : Code := Try.f174.body.getD .skip
noncomputable def E_spec_l01In : Env := ⟨lay, [], [], []⟩
theorem cons_spec_l01In : ConsOk Try.prog E_spec_l01In.cons := consOk_nil
theorem loops_spec_l01In : loopsIn code_spec_l01In = [] := by kernel_rfl
theorem m_spec_l01In : Meets Try.prog 174 c_spec_l01In := meets_of (E := E_spec_l01In) (code := code_spec_l01In) mix lay_ok cons_spec_l01In Try.func174 (by kernel_rfl) sg_spec_l01In (by kernel_rfl) (fun y => y.1) c_spec_l01In.out (fun _ => rfl) c_spec_l01In.run (fun x => by kernel_rfl) (by kernel_rfl) (loops_mem loops_spec_l01In (trivial))

noncomputable def sg_spec_NatOk : Sig := ⟨[(false, [.d (.sl .int)])], [], false, [(false, [.d (.bool)])], []⟩
noncomputable def c_spec_NatOk : Con := ⟨sg_spec_NatOk, Bool, fun x => M_spec_NatOk x.1, fun r => (r, ())⟩
noncomputable def code_spec_NatOk : Code := Try.f150.body.getD .skip
noncomputable def body_spec_NatOk_0 : Code := (loopsIn code_spec_NatOk).getD 0 .skip
noncomputable def D_spec_NatOk_0 : LoopD := ⟨⟨mkSlots [(0, false, [.d (.sl .int)]), (5, false, [.d (.sl .int)]), (6, false, [.d (.int .i64)]), (7, false, [.d (.int .i64)])] 32 0, []⟩, [], [(.ret, ⟨mkSlots [(2, false, [.d (.bool)])] 32 0, []⟩, []), (.exit 0, ⟨mkSlots [(0, false, [.d (.sl .int)])] 32 0, []⟩, [])]⟩
noncomputable def S_spec_NatOk_0_w (x : Tys D_spec_NatOk_0.head.ks) : Option (OutT D_spec_NatOk_0.outs) := @whileO ((List Int) × (List Int) × Int × Int × Unit) ((Bool × Unit) ⊕ ((List Int) × Unit)) S_spec_NatOk_0 x
noncomputable def E_spec_NatOk : Env := ⟨lay, [(174, c_spec_l01In)], [(2, mkLM D_spec_NatOk_0 S_spec_NatOk_0_w)], []⟩
theorem cons_spec_NatOk : ConsOk Try.prog E_spec_NatOk.cons := consOk_cons m_spec_l01In (callable_of Try.func174 (by kernel_rfl)) (consOk_nil)
theorem S_spec_NatOk_0_ok (x : Tys D_spec_NatOk_0.head.ks) : stepL E_spec_NatOk D_spec_NatOk_0 body_spec_NatOk_0 x = S_spec_NatOk_0 x := by kernel_rfl
theorem loops_spec_NatOk_0 : loopsIn body_spec_NatOk_0 = [] := by kernel_rfl
theorem l_spec_NatOk_0 : LoopOk Try.prog (mkLM D_spec_NatOk_0 S_spec_NatOk_0_w) body_spec_NatOk_0 := loop_ok2 mix lay_ok cons_spec_NatOk (by kernel_rfl) (loops_mem loops_spec_NatOk_0 (trivial)) S_spec_NatOk_0_ok fun _ _ h => h
theorem loops_spec_NatOk : loopsIn code_spec_NatOk = [body_spec_NatOk_0] := by kernel_rfl
theorem m_spec_NatOk : Meets Try.prog 150 c_spec_NatOk := meets_of (E := E_spec_NatOk) (code := code_spec_NatOk) mix lay_ok cons_spec_NatOk Try.func150 (by kernel_rfl) sg_spec_NatOk (by kernel_rfl) (fun y => y.1) c_spec_NatOk.out (fun _ => rfl) c_spec_NatOk.run (fun x => by kernel_rfl) (by kernel_rfl) (loops_mem loops_spec_NatOk (⟨⟨_, by kernel_rfl, l_spec_NatOk_0⟩, trivial⟩))

noncomputable def sg_spec_BigIntOk : Sig := ⟨[(true, [.d (.bool), .d (.sl .int)])], [], false, [(false, [.d (.bool)])], []⟩
noncomputable def c_spec_BigIntOk : Con := ⟨sg_spec_BigIntOk, Bool, fun x => M_spec_BigIntOk (⟨x.1, x.2.1⟩ : Bg), fun r => (r, ())⟩
noncomputable def code_spec_BigIntOk : Code := Try.f149.body.getD .skip
noncomputable def E_spec_BigIntOk : Env := ⟨lay, [(150, c_spec_NatOk)], [], []⟩
theorem cons_spec_BigIntOk : ConsOk Try.prog E_spec_BigIntOk.cons := consOk_cons m_spec_NatOk (callable_of Try.func150 (by kernel_rfl)) (consOk_nil)
theorem loops_spec_BigIntOk : loopsIn code_spec_BigIntOk = [] := by kernel_rfl
theorem m_spec_BigIntOk : Meets Try.prog 149 c_spec_BigIntOk := meets_of (E := E_spec_BigIntOk) (code := code_spec_BigIntOk) mix lay_ok cons_spec_BigIntOk Try.func149 (by kernel_rfl) sg_spec_BigIntOk (by kernel_rfl) (fun y => y.1) c_spec_BigIntOk.out (fun _ => rfl) c_spec_BigIntOk.run (fun x => by kernel_rfl) (by kernel_rfl) (loops_mem loops_spec_BigIntOk (trivial))

noncomputable def sg_spec_l02Cmp : Sig := ⟨[(false, [.d (.sl .int)]), (false, [.d (.sl .int)])], [], false, [(false, [.d (.int .i64)])], []⟩
noncomputable def c_spec_l02Cmp : Con := ⟨sg_spec_l02Cmp, Int, fun x => M_spec_l02Cmp x.1 x.2.1, fun r => (r, ())⟩
noncomputable def code_spec_l02Cmp : Code := Try.f223.body.getD .skip
noncomputable def body_spec_l02Cmp_0 : Code := (loopsIn code_spec_l02Cmp).getD 0 .skip
noncomputable def D_spec_l02Cmp_0 : LoopD := ⟨⟨mkSlots [(0, false, [.d (.sl .int)]), (1, false, [.d (.sl .int)]), (5, false, [.d (.int .i64)])] 41 0, []⟩, [], [(.ret, ⟨mkSlots [(4, false, [.d (.int .i64)])] 41 0, []⟩, []), (.exit 0, ⟨mkSlots [] 41 0, []⟩, [])]⟩
noncomputable def S_spec_l02Cmp_0_w (x : Tys D_spec_l02Cmp_0.head.ks) : Option (OutT D_spec_l02Cmp_0.outs) := @whileO ((List Int) × (List Int) × Int × Unit) ((Int × Unit) ⊕ (Unit)) S_spec_l02Cmp_0 x
noncomputable def E_spec_l02Cmp : Env := ⟨lay, [], [(6, mkLM D_spec_l02Cmp_0 S_spec_l02Cmp_0_w)], [(8, [(0, []), (1, []), (2, []), (3, []), (4, []), (5, []), (6, []), (7, []), (8, [])]), (10, [(0, []), (1, []), (2, []), (3, []), (4, []), (5, []), (6, []), (7, []), (8, [])])]⟩
theorem cons_spec_l02Cmp : ConsOk Try.prog E_spec_l02Cmp.cons := consOk_nil
theorem S_spec_l02Cmp_0_ok (x : Tys D_spec_l02Cmp_0.head.ks) : stepL E_spec_l02Cmp D_spec_l02Cmp_0 body_spec_l02Cmp_0 x = S_spec_l02Cmp_0 x := by kernel_rfl
theorem loops_spec_l02Cmp_0 : loopsIn body_spec_l02Cmp_0 = [] := by kernel_rfl
theorem l_spec_l02Cmp_0 : LoopOk Try.prog (mkLM D_spec_l02Cmp_0 S_spec_l02Cmp_0_w) body_spec_l02Cmp_0 := loop_ok2 mix lay_ok cons_spec_l02Cmp (by kernel_rfl) (loops_mem loops_spec_l02Cmp_0 (trivial)) S_spec_l02Cmp_0_ok fun _ _ h => h
theorem loops_spec_l02Cmp : loopsIn code_spec_l02Cmp = [body_spec_l02Cmp_0] := by kernel_rfl
theorem m_spec_l02Cmp : Meets Try.prog 223 c_spec_l02Cmp := meets_of (E := E_spec_l02Cmp) (code := code_spec_l02Cmp) mix lay_ok cons_spec_l02Cmp Try.func223 (by kernel_rfl) sg_spec_l02Cmp (by kernel_rfl) (fun y => y.1) c_spec_l02Cmp.out (fun _ => rfl) c_spec_l02Cmp.run (fun x => by kernel_rfl) (by kernel_rfl) (loops_mem loops_spec_l02Cmp (⟨⟨_, by kernel_rfl, l_spec_l02Cmp_0⟩, trivial⟩))

noncomputable def sg_spec_NatToInt : Sig := ⟨[(false, [.d (.sl .int)])], [], true, [(false, [.d (.int .i64)]), (false, [.d (.bool)])], []⟩
noncomputable def c_spec_NatToInt : Con := ⟨sg_spec_NatToInt, Int × Bool, fun x => M_spec_NatToInt x.1, fun r => (r.1, r.2, ())⟩
noncomputable def code_spec_NatToInt : Code := Try.f215.body.getD .skip
noncomputable def body_spec_NatToInt_0 : Code := (loopsIn code_spec_NatToInt).getD 0 .skip
noncomputable def D_spec_NatToInt_0 : LoopD := ⟨⟨mkSlots [(0, false, [.d (.sl .int)]), (4, false, [.d (.int .i64)]), (5, false, [.d (.int .i64)])] 30 0, []⟩, [], [(.exit 0, ⟨mkSlots [(4, false, [.d (.int .i64)])] 30 0, []⟩, [])]⟩
noncomputable def S_spec_NatToInt_0_w (x : Tys D_spec_NatToInt_0.head.ks) : Option (OutT D_spec_NatToInt_0.outs) := @whileO ((List Int) × Int × Int × Unit) (Int × Unit) S_spec_NatToInt_0 x
noncomputable def E_spec_NatToInt : Env := ⟨lay, [(150, c_spec_NatOk), (223, c_spec_l02Cmp)], [(5, mkLM D_spec_NatToInt_0 S_spec_NatToInt_0_w)], []⟩
theorem cons_spec_NatToInt : ConsOk Try.prog E_spec_NatToInt.cons := consOk_cons m_spec_NatOk (callable_of Try.func150 (by kernel_rfl)) (consOk_cons m_spec_l02Cmp (callable_of Try.func223 (by kernel_rfl)) (consOk_nil))
theorem S_spec_NatToInt_0_ok (x : Tys D_spec_NatToInt_0.head.ks) : stepL E_spec_NatToInt D_spec_NatToInt_0 body_spec_NatToInt_0 x = S_spec_NatToInt_0 x := by kernel_rfl
theorem loops_spec_NatToInt_0 : loopsIn body_spec_NatToInt_0 = [] := by kernel_rfl
theorem l_spec_NatToInt_0 : LoopOk Try.prog (mkLM D_spec_NatToInt_0 S_spec_NatToInt_0_w) body_spec_NatToInt_0 := loop_ok2 mix lay_ok cons_spec_NatToInt (by kernel_rfl) (loops_mem loops_spec_NatToInt_0 (trivial)) S_spec_NatToInt_0_ok fun _ _ h => h
theorem loops_spec_NatToInt : loopsIn code_spec_NatToInt = [body_spec_NatToInt_0] := by kernel_rfl
theorem m_spec_NatToInt : Meets Try.prog 215 c_spec_NatToInt := meets_of (E := E_spec_NatToInt) (code := code_spec_NatToInt) mix lay_ok cons_spec_NatToInt Try.func215 (by kernel_rfl) sg_spec_NatToInt (by kernel_rfl) (fun y => (y.1, y.2.1)) c_spec_NatToInt.out (fun _ => rfl) c_spec_NatToInt.run (fun x => by kernel_rfl) (by kernel_rfl) (loops_mem loops_spec_NatToInt (⟨⟨_, by kernel_rfl, l_spec_NatToInt_0⟩, trivial⟩))

noncomputable def sg_spec_NatOf : Sig := ⟨[(false, [.d (.int .i64)])], [], false, [(false, [.own 0])], [(0, .arr false .int)]⟩
noncomputable def c_spec_NatOf : Con := ⟨sg_spec_NatOf, List Int, fun x => M_spec_NatOf x.1, fun r => (r, ())⟩
noncomputable def code_spec_NatOf : Code := Try.f201.body.getD .skip
noncomputable def body_spec_NatOf_0 : Code := (loopsIn code_spec_NatOf).getD 0 .skip
noncomputable def D_spec_NatOf_0 : LoopD := ⟨⟨mkSlots [(0, false, [.d (.int .i64)]), (3, false, [.own 1024])] 15 0, [(1024, .arr false .int)]⟩, [(.slot 3 0, 1024, .int)], [(.exit 0, ⟨mkSlots [(3, false, [.own 1024])] 15 0, [(1024, .arr false .int)]⟩, [(.slot 3 0, 1024, .int)])]⟩
noncomputable def S_spec_NatOf_0_w (x : Tys D_spec_NatOf_0.head.ks) : Option (OutT D_spec_NatOf_0.outs) := @whileO (Int × (List Int) × Unit) ((List Int) × Unit) S_spec_NatOf_0 x
noncomputable def E_spec_NatOf : Env := ⟨lay, [], [(2, mkLM D_spec_NatOf_0 S_spec_NatOf_0_w)], []⟩
theorem cons_spec_NatOf : ConsOk Try.prog E_spec_NatOf.cons := consOk_nil
theorem S_spec_NatOf_0_ok (x : Tys D_spec_NatOf_0.head.ks) : stepL E_spec_NatOf D_spec_NatOf_0 body_spec_NatOf_0 x = S_spec_NatOf_0 x := by kernel_rfl
theorem loops_spec_NatOf_0 : loopsIn body_spec_NatOf_0 = [] := by kernel_rfl
theorem l_spec_NatOf_0 : LoopOk Try.prog (mkLM D_spec_NatOf_0 S_spec_NatOf_0_w) body_spec_NatOf_0 := loop_ok2 mix lay_ok cons_spec_NatOf (by kernel_rfl) (loops_mem loops_spec_NatOf_0 (trivial)) S_spec_NatOf_0_ok fun _ _ h => h
theorem loops_spec_NatOf : loopsIn code_spec_NatOf = [body_spec_NatOf_0] := by kernel_rfl
theorem m_spec_NatOf : Meets Try.prog 201 c_spec_NatOf := meets_of (E := E_spec_NatOf) (code := code_spec_NatOf) mix lay_ok cons_spec_NatOf Try.func201 (by kernel_rfl) sg_spec_NatOf (by kernel_rfl) (fun y => y.1) c_spec_NatOf.out (fun _ => rfl) c_spec_NatOf.run (fun x => by kernel_rfl) (by kernel_rfl) (loops_mem loops_spec_NatOf (⟨⟨_, by kernel_rfl, l_spec_NatOf_0⟩, trivial⟩))

noncomputable def sg_spec_l02Plain : Sig := ⟨[(false, [.d (.int .i64)]), (false, [.d (.int .i64)])], [], false, [(false, [.own 0])], [(0, .arr false .int)]⟩
noncomputable def c_spec_l02Plain : Con := ⟨sg_spec_l02Plain, List Int, fun x => M_spec_l02Plain x.1 x.2.1, fun r => (r, ())⟩
noncomputable def code_spec_l02Plain : Code := Try.f216.body.getD .skip
noncomputable def body_spec_l02Plain_0 : Code := (loopsIn code_spec_l02Plain).getD 0 .skip
noncomputable def D_spec_l02Plain_0 : LoopD := ⟨⟨mkSlots [(0, false, [.d (.int .i64)]), (1, false, [.d (.int .i64)])] 15 0, []⟩, [], [(.exit 0, ⟨mkSlots [(0, false, [.d (.int .i64)])] 15 0, []⟩, [])]⟩
noncomputable def S_spec_l02Plain_0_w (x : Tys D_spec_l02Plain_0.head.ks) : Option (OutT D_spec_l02Plain_0.outs) := @whileO (Int × Int × Unit) (Int × Unit) S_spec_l02Plain_0 x
noncomputable def E_spec_l02Plain : Env := ⟨lay, [(201, c_spec_NatOf)], [(1, mkLM D_spec_l02Plain_0 S_spec_l02Plain_0_w)], []⟩
theorem cons_spec_l02Plain : ConsOk Try.prog E_spec_l02Plain.cons := consOk_cons m_spec_NatOf (callable_of Try.func201 (by kernel_rfl)) (consOk_nil)
theorem S_spec_l02Plain_0_ok (x : Tys D_spec_l02Plain_0.head.ks) : stepL E_spec_l02Plain D_spec_l02Plain_0 body_spec_l02Plain_0 x = S_spec_l02Plain_0 x := by kernel_rfl
theorem loops_spec_l02Plain_0 : loopsIn body_spec_l02Plain_0 = [] := by kernel_rfl
theorem l_spec_l02Plain_0 : LoopOk Try.prog (mkLM D_spec_l02Plain_0 S_spec_l02Plain_0_w) body_spec_l02Plain_0 := loop_ok2 mix lay_ok cons_spec_l02Plain (by kernel_rfl) (loops_mem loops_spec_l02Plain_0 (trivial)) S_spec_l02Plain_0_ok fun _ _ h => h
theorem loops_spec_l02Plain : loopsIn code_spec_l02Plain = [body_spec_l02Plain_0] := by kernel_rfl
theorem m_spec_l02Plain : Meets Try.prog 216 c_spec_l02Plain := meets_of (E := E_spec_l02Plain) (code := code_spec_l02Plain) mix lay_ok cons_spec_l02Plain Try.func216 (by kernel_rfl) sg_spec_l02Plain (by kernel_rfl) (fun y => y.1) c_spec_l02Plain.out (fun _ => rfl) c_spec_l02Plain.run (fun x => by kernel_rfl) (by kernel_rfl) (loops_mem loops_spec_l02Plain (⟨⟨_, by kernel_rfl, l_spec_l02Plain_0⟩, trivial⟩))

noncomputable def sg_spec_l02Trim_c : Sig := ⟨[(false, [.own 0])], [(0, .arr false .int)], false, [(false, [.own 0])], [(0, .arr false .int)]⟩
noncomputable def c_spec_l02Trim_c : Con := ⟨sg_spec_l02Trim_c, List Int, fun x => M_spec_l02Trim_c x.1, fun r => (r, ())⟩
noncomputable def code_spec_l02Trim_c : Code := Try.f200.body.getD .skip
noncomputable def body_spec_l02Trim_c_0 : Code := (loopsIn code_spec_l02Trim_c).getD 0 .skip
noncomputable def D_spec_l02Trim_c_0 : LoopD := ⟨⟨mkSlots [(0, false, [.own 1408]), (3, false, [.d (.int .i64)])] 21 0, [(1408, .arr false .int)]⟩, [], [(.exit 0, ⟨mkSlots [(0, false, [.own 1408]), (3, false, [.d (.int .i64)])] 21 0, [(1408, .arr false .int)]⟩, [])]⟩
noncomputable def S_spec_l02Trim_c_0_w (x : Tys D_spec_l02Trim_c_0.head.ks) : Option (OutT D_spec_l02Trim_c_0.outs) := @whileO (Int × (List Int) × Unit) (Int × (List Int) × Unit) S_spec_l02Trim_c_0 x
noncomputable def E_spec_l02Trim_c : Env := ⟨lay, [], [(2, mkLM D_spec_l02Trim_c_0 S_spec_l02Trim_c_0_w)], []⟩
theorem cons_spec_l02Trim_c : ConsOk Try.prog E_spec_l02Trim_c.cons := consOk_nil
theorem S_spec_l02Trim_c_0_ok (x : Tys D_spec_l02Trim_c_0.head.ks) : stepL E_spec_l02Trim_c D_spec_l02Trim_c_0 body_spec_l02Trim_c_0 x = S_spec_l02Trim_c_0 x := by kernel_rfl
theorem loops_spec_l02Trim_c_0 : loopsIn body_spec_l02Trim_c_0 = [] := by kernel_rfl
theorem l_spec_l02Trim_c_0 : LoopOk Try.prog (mkLM D_spec_l02Trim_c_0 S_spec_l02Trim_c_0_w) body_spec_l02Trim_c_0 := loop_ok2 mix lay_ok cons_spec_l02Trim_c (by kernel_rfl) (loops_mem loops_spec_l02Trim_c_0 (trivial)) S_spec_l02Trim_c_0_ok fun _ _ h => h
theorem loops_spec_l02Trim_c : loopsIn code_spec_l02Trim_c = [body_spec_l02Trim_c_0] := by kernel_rfl
theorem m_spec_l02Trim_c : Meets Try.prog 200 c_spec_l02Trim_c := meets_of (E := E_spec_l02Trim_c) (code := code_spec_l02Trim_c) mix lay_ok cons_spec_l02Trim_c Try.func200 (by kernel_rfl) sg_spec_l02Trim_c (by kernel_rfl) (fun y => y.1) c_spec_l02Trim_c.out (fun _ => rfl) c_spec_l02Trim_c.run (fun x => by kernel_rfl) (by kernel_rfl) (loops_mem loops_spec_l02Trim_c (⟨⟨_, by kernel_rfl, l_spec_l02Trim_c_0⟩, trivial⟩))

noncomputable def sg_spec_l02Small : Sig := ⟨[(false, [.d (.sl .int)]), (false, [.d (.int .i64)])], [], true, [(false, [.own 0]), (false, [.d (.int .i64)])], [(0, .arr false .int)]⟩
noncomputable def c_spec_l02Small : Con := ⟨sg_spec_l02Small, List Int × Int, fun x => M_spec_l02Small x.1 x.2.1, fun r => (r.2, r.1, ())⟩
noncomputable def code_spec_l02Small : Code := Try.f228.body.getD .skip
noncomputable def body_spec_l02Small_0 : Code := (loopsIn code_spec_l02Small).getD 0 .skip
noncomputable def D_spec_l02Small_0 : LoopD := ⟨⟨mkSlots [(0, false, [.d (.sl .int)]), (1, false, [.d (.int .i64)]), (6, false, [.own 2560]), (7, false, [.d (.int .i64)]), (8, false, [.d (.int .i64)])] 39 0, [(2560, .arr false .int)]⟩, [], [(.exit 0, ⟨mkSlots [(6, false, [.own 2560]), (7, false, [.d (.int .i64)])] 39 0, [(2560, .arr false .int)]⟩, [])]⟩
noncomputable def S_spec_l02Small_0_w (x : Tys D_spec_l02Small_0.head.ks) : Option (OutT D_spec_l02Small_0.outs) := @whileO ((List Int) × Int × Int × Int × (List Int) × Unit) (Int × (List Int) × Unit) S_spec_l02Small_0 x
noncomputable def E_spec_l02Small : Env := ⟨lay, [(200, c_spec_l02Trim_c)], [(4, mkLM D_spec_l02Small_0 S_spec_l02Small_0_w)], []⟩
theorem cons_spec_l02Small : ConsOk Try.prog E_spec_l02Small.cons := consOk_cons m_spec_l02Trim_c (callable_of Try.func200 (by kernel_rfl)) (consOk_nil)
theorem S_spec_l02Small_0_ok (x : Tys D_spec_l02Small_0.head.ks) : stepL E_spec_l02Small D_spec_l02Small_0 body_spec_l02Small_0 x = S_spec_l02Small_0 x := by kernel_rfl
theorem loops_spec_l02Small_0 : loopsIn body_spec_l02Small_0 = [] := by kernel_rfl
theorem l_spec_l02Small_0 : LoopOk Try.prog (mkLM D_spec_l02Small_0 S_spec_l02Small_0_w) body_spec_l02Small_0 := loop_ok2 mix lay_ok cons_spec_l02Small (by kernel_rfl) (loops_mem loops_spec_l02Small_0 (trivial)) S_spec_l02Small_0_ok fun _ _ h => h
theorem loops_spec_l02Small : loopsIn code_spec_l02Small = [body_spec_l02Small_0] := by kernel_rfl
theorem m_spec_l02Small : Meets Try.prog 228 c_spec_l02Small := meets_of (E := E_spec_l02Small) (code := code_spec_l02Small) mix lay_ok cons_spec_l02Small Try.func228 (by kernel_rfl) sg_spec_l02Small (by kernel_rfl) (fun y => (y.2.1, y.1)) c_spec_l02Small.out (fun _ => rfl) c_spec_l02Small.run (fun x => by kernel_rfl) (by kernel_rfl) (loops_mem loops_spec_l02Small (⟨⟨_, by kernel_rfl, l_spec_l02Small_0⟩, trivial⟩))

noncomputable def sg_spec_l02Mul : Sig := ⟨[(false, [.d (.sl .int)]), (false, [.d (.sl .int)])], [], false, [(false, [.own 0])], [(0, .arr false .int)]⟩
noncomputable def c_spec_l02Mul : Con := ⟨sg_spec_l02Mul, List Int, fun x => M_spec_l02Mul x.1 x.2.1, fun r => (r, ())⟩
noncomputable def code_spec_l02Mul : Code := Try.f168.body.getD .skip
noncomputable def body_spec_l02Mul_0 : Code := (loopsIn code_spec_l02Mul).getD 0 .skip
noncomputable def body_spec_l02Mul_1 : Code := (loopsIn body_spec_l02Mul_0).getD 0 .skip
noncomputable def D_spec_l02Mul_0 : LoopD := ⟨⟨mkSlots [(1, false, [.d (.sl .int)]), (5, false, [.own 4672]), (26, false, [.d (.sl .int)]), (27, false, [.d (.int .i64)]), (28, false, [.d (.int .i64)])] 72 0, [(4672, .arr false .int)]⟩, [], [(.exit 0, ⟨mkSlots [(5, false, [.own 4672])] 72 0, [(4672, .arr false .int)]⟩, [])]⟩
noncomputable def D_spec_l02Mul_1 : LoopD := ⟨⟨mkSlots [(1, false, [.d (.sl .int)]), (5, false, [.own 4672]), (6, false, [.d (.int .i64)]), (7, false, [.d (.int .i64)]), (8, false, [.d (.int .i64)]), (26, false, [.d (.sl .int)]), (27, false, [.d (.int .i64)]), (28, false, [.d (.int .i64)]), (33, false, [.d (.sl .int)]), (34, false, [.d (.int .i64)]), (35, false, [.d (.int .i64)])] 72 0, [(4672, .arr false .int)]⟩, [], [(.exit 2, ⟨mkSlots [(1, false, [.d (.sl .int)]), (5, false, [.own 4672]), (6, false, [.d (.int .i64)]), (8, false, [.d (.int .i64)]), (26, false, [.d (.sl .int)]), (27, false, [.d (.int .i64)]), (28, false, [.d (.int .i64)])] 72 0, [(4672, .arr false .int)]⟩, [])]⟩
noncomputable def S_spec_l02Mul_0_w (x : Tys D_spec_l02Mul_0.head.ks) : Option (OutT D_spec_l02Mul_0.outs) := @whileO ((List Int) × (List Int) × Int × Int × (List Int) × Unit) ((List Int) × Unit) S_spec_l02Mul_0 x
noncomputable def S_spec_l02Mul_1_w (x : Tys D_spec_l02Mul_1.head.ks) : Option (OutT D_spec_l02Mul_1.outs) := @whileO ((List Int) × Int × Int × Int × (List Int) × Int × Int × (List Int) × Int × Int × (List Int) × Unit) ((List Int) × Int × Int × (List Int) × Int × Int × (List Int) × Unit) S_spec_l02Mul_1 x
noncomputable def E_spec_l02Mul : Env := ⟨lay, [(200, c_spec_l02Trim_c)], [(5, mkLM D_spec_l02Mul_0 S_spec_l02Mul_0_w), (9, mkLM D_spec_l02Mul_1 S_spec_l02Mul_1_w)], []⟩
theorem cons_spec_l02Mul : ConsOk Try.prog E_spec_l02Mul.cons := consOk_cons m_spec_l02Trim_c (callable_of Try.func200 (by kernel_rfl)) (consOk_nil)
theorem S_spec_l02Mul_1_ok (x : Tys D_spec_l02Mul_1.head.ks) : stepL E_spec_l02Mul D_spec_l02Mul_1 body_spec_l02Mul_1 x = S_spec_l02Mul_1 x := by kernel_rfl
theorem loops_spec_l02Mul_1 : loopsIn body_spec_l02Mul_1 = [] := by kernel_rfl
theorem l_spec_l02Mul_1 : LoopOk Try.prog (mkLM D_spec_l02Mul_1 S_spec_l02Mul_1_w) body_spec_l02Mul_1 := loop_ok2 mix lay_ok cons_spec_l02Mul (by kernel_rfl) (loops_mem loops_spec_l02Mul_1 (trivial)) S_spec_l02Mul_1_ok fun _ _ h => h
theorem S_spec_l02Mul_0_ok (x : Tys D_spec_l02Mul_0.head.ks) : stepL E_spec_l02Mul D_spec_l02Mul_0 body_spec_l02Mul_0 x = S_spec_l02Mul_0 x := by kernel_rfl
theorem loops_spec_l02Mul_0 : loopsIn body_spec_l02Mul_0 = [body_spec_l02Mul_1] := by kernel_rfl
theorem l_spec_l02Mul_0 : LoopOk Try.prog (mkLM D_spec_l02Mul_0 S_spec_l02Mul_0_w) body_spec_l02Mul_0 := loop_ok2 mix lay_ok cons_spec_l02Mul (by kernel_rfl) (loops_mem loops_spec_l02Mul_0 (⟨⟨_, by kernel_rfl, l_spec_l02Mul_1⟩, trivial⟩)) S_spec_l02Mul_0_ok fun _ _ h => h
theorem loops_spec_l02Mul : loopsIn code_spec_l02Mul = [body_spec_l02Mul_0] := by kernel_rfl
theorem m_spec_l02Mul : Meets Try.prog 168 c_spec_l02Mul := meets_of (E := E_spec_l02Mul) (code := code_spec_l02Mul) mix lay_ok cons_spec_l02Mul Try.func168 (by kernel_rfl) sg_spec_l02Mul (by kernel_rfl) (fun y => y.1) c_spec_l02Mul.out (fun _ => rfl) c_spec_l02Mul.run (fun x => by kernel_rfl) (by kernel_rfl) (loops_mem loops_spec_l02Mul (⟨⟨_, by kernel_rfl, l_spec_l02Mul_0⟩, trivial⟩))

noncomputable def sg_spec_l02Digit : Sig := ⟨[(false, [.d (.sl .int)]), (false, [.d (.sl .int)])], [], false, [(false, [.d (.int .i64)])], []⟩
noncomputable def c_spec_l02Digit : Con := ⟨sg_spec_l02Digit, Int, fun x => M_spec_l02Digit x.1 x.2.1, fun r => (r, ())⟩
noncomputable def code_spec_l02Digit : Code := Try.f229.body.getD .skip
noncomputable def body_spec_l02Digit_0 : Code := (loopsIn code_spec_l02Digit).getD 0 .skip
noncomputable def D_spec_l02Digit_0 : LoopD := ⟨⟨mkSlots [(0, false, [.d (.sl .int)]), (1, false, [.d (.sl .int)]), (5, false, [.d (.int .i64)]), (6, false, [.d (.int .i64)])] 27 0, []⟩, [], [(.exit 0, ⟨mkSlots [(5, false, [.d (.int .i64)])] 27 0, []⟩, [])]⟩
noncomputable def S_spec_l02Digit_0_w (x : Tys D_spec_l02Digit_0.head.ks) : Option (OutT D_spec_l02Digit_0.outs) := @whileO ((List Int) × (List Int) × Int × Int × Unit) (Int × Unit) S_spec_l02Digit_0 x
noncomputable def E_spec_l02Digit : Env := ⟨lay, [(201, c_spec_NatOf), (168, c_spec_l02Mul), (223, c_spec_l02Cmp)], [(3, mkLM D_spec_l02Digit_0 S_spec_l02Digit_0_w)], []⟩
theorem cons_spec_l02Digit : ConsOk Try.prog E_spec_l02Digit.cons := consOk_cons m_spec_NatOf (callable_of Try.func201 (by kernel_rfl)) (consOk_cons m_spec_l02Mul (callable_of Try.func168 (by kernel_rfl)) (consOk_cons m_spec_l02Cmp (callable_of Try.func223 (by kernel_rfl)) (consOk_nil)))
theorem S_spec_l02Digit_0_ok (x : Tys D_spec_l02Digit_0.head.ks) : stepL E_spec_l02Digit D_spec_l02Digit_0 body_spec_l02Digit_0 x = S_spec_l02Digit_0 x := by kernel_rfl
theorem loops_spec_l02Digit_0 : loopsIn body_spec_l02Digit_0 = [] := by kernel_rfl
theorem l_spec_l02Digit_0 : LoopOk Try.prog (mkLM D_spec_l02Digit_0 S_spec_l02Digit_0_w) body_spec_l02Digit_0 := loop_ok2 mix lay_ok cons_spec_l02Digit (by kernel_rfl) (loops_mem loops_spec_l02Digit_0 (trivial)) S_spec_l02Digit_0_ok fun _ _ h => h
theorem loops_spec_l02Digit : loopsIn code_spec_l02Digit = [body_spec_l02Digit_0] := by kernel_rfl
theorem m_spec_l02Digit : Meets Try.prog 229 c_spec_l02Digit := meets_of (E := E_spec_l02Digit) (code := code_spec_l02Digit) mix lay_ok cons_spec_l02Digit Try.func229 (by kernel_rfl) sg_spec_l02Digit (by kernel_rfl) (fun y => y.1) c_spec_l02Digit.out (fun _ => rfl) c_spec_l02Digit.run (fun x => by kernel_rfl) (by kernel_rfl) (loops_mem loops_spec_l02Digit (⟨⟨_, by kernel_rfl, l_spec_l02Digit_0⟩, trivial⟩))

noncomputable def sg_spec_l02Sub : Sig := ⟨[(false, [.d (.sl .int)]), (false, [.d (.sl .int)])], [], false, [(false, [.own 0])], [(0, .arr false .int)]⟩
noncomputable def c_spec_l02Sub : Con := ⟨sg_spec_l02Sub, List Int, fun x => M_spec_l02Sub x.1 x.2.1, fun r => (r, ())⟩
noncomputable def code_spec_l02Sub : Code := Try.f224.body.getD .skip
noncomputable def body_spec_l02Sub_0 : Code := (loopsIn code_spec_l02Sub).getD 0 .skip
noncomputable def D_spec_l02Sub_0 : LoopD := ⟨⟨mkSlots [(0, false, [.d (.sl .int)]), (1, false, [.d (.sl .int)]), (5, false, [.own 2752]), (6, false, [.d (.int .i64)]), (11, false, [.d (.int .i64)]), (12, false, [.d (.int .i64)])] 42 0, [(2752, .arr false .int)]⟩, [(.slot 5 0, 2752, .int)], [(.exit 0, ⟨mkSlots [(5, false, [.own 2752])] 42 0, [(2752, .arr false .int)]⟩, [(.slot 5 0, 2752, .int)])]⟩
noncomputable def S_spec_l02Sub_0_w (x : Tys D_spec_l02Sub_0.head.ks) : Option (OutT D_spec_l02Sub_0.outs) := @whileO ((List Int) × (List Int) × Int × Int × Int × (List Int) × Unit) ((List Int) × Unit) S_spec_l02Sub_0 x
noncomputable def E_spec_l02Sub : Env := ⟨lay, [(200, c_spec_l02Trim_c)], [(4, mkLM D_spec_l02Sub_0 S_spec_l02Sub_0_w)], []⟩
theorem cons_spec_l02Sub : ConsOk Try.prog E_spec_l02Sub.cons := consOk_cons m_spec_l02Trim_c (callable_of Try.func200 (by kernel_rfl)) (consOk_nil)
theorem S_spec_l02Sub_0_ok (x : Tys D_spec_l02Sub_0.head.ks) : stepL E_spec_l02Sub D_spec_l02Sub_0 body_spec_l02Sub_0 x = S_spec_l02Sub_0 x := by kernel_rfl
theorem loops_spec_l02Sub_0 : loopsIn body_spec_l02Sub_0 = [] := by kernel_rfl
theorem l_spec_l02Sub_0 : LoopOk Try.prog (mkLM D_spec_l02Sub_0 S_spec_l02Sub_0_w) body_spec_l02Sub_0 := loop_ok2 mix lay_ok cons_spec_l02Sub (by kernel_rfl) (loops_mem loops_spec_l02Sub_0 (trivial)) S_spec_l02Sub_0_ok fun _ _ h => h
theorem loops_spec_l02Sub : loopsIn code_spec_l02Sub = [body_spec_l02Sub_0] := by kernel_rfl
theorem m_spec_l02Sub : Meets Try.prog 224 c_spec_l02Sub := meets_of (E := E_spec_l02Sub) (code := code_spec_l02Sub) mix lay_ok cons_spec_l02Sub Try.func224 (by kernel_rfl) sg_spec_l02Sub (by kernel_rfl) (fun y => y.1) c_spec_l02Sub.out (fun _ => rfl) c_spec_l02Sub.run (fun x => by kernel_rfl) (by kernel_rfl) (loops_mem loops_spec_l02Sub (⟨⟨_, by kernel_rfl, l_spec_l02Sub_0⟩, trivial⟩))

noncomputable def sg_spec_l02Div : Sig := ⟨[(false, [.d (.sl .int)]), (false, [.d (.sl .int)])], [], true, [(false, [.own 0]), (false, [.own 1])], [(0, .arr false .int), (1, .arr false .int)]⟩
noncomputable def c_spec_l02Div : Con := ⟨sg_spec_l02Div, List Int × List Int, fun x => M_spec_l02Div x.1 x.2.1, fun r => (r.1, r.2, ())⟩
noncomputable def code_spec_l02Div : Code := Try.f198.body.getD .skip
noncomputable def body_spec_l02Div_0 : Code := (loopsIn code_spec_l02Div).getD 0 .skip
noncomputable def D_spec_l02Div_0 : LoopD := ⟨⟨mkSlots [(0, false, [.d (.sl .int)]), (1, false, [.d (.sl .int)]), (8, false, [.own 4224]), (9, false, [.own 4288]), (10, false, [.d (.int .i64)])] 65 0, [(4224, .arr false .int), (4288, .arr false .int)]⟩, [(.slot 9 0, 4288, .int)], [(.exit 0, ⟨mkSlots [(8, false, [.own 4224]), (9, false, [.own 4288])] 65 0, [(4224, .arr false .int), (4288, .arr false .int)]⟩, [(.slot 9 0, 4288, .int)])]⟩
noncomputable def S_spec_l02Div_0_w (x : Tys D_spec_l02Div_0.head.ks) : Option (OutT D_spec_l02Div_0.outs) := @whileO ((List Int) × (List Int) × Int × (List Int) × (List Int) × Unit) ((List Int) × (List Int) × Unit) S_spec_l02Div_0 x
noncomputable def E_spec_l02Div : Env := ⟨lay, [(228, c_spec_l02Small), (201, c_spec_NatOf), (200, c_spec_l02Trim_c), (223, c_spec_l02Cmp), (229, c_spec_l02Digit), (168, c_spec_l02Mul), (224, c_spec_l02Sub)], [(7, mkLM D_spec_l02Div_0 S_spec_l02Div_0_w)], []⟩
theorem cons_spec_l02Div : ConsOk Try.prog E_spec_l02Div.cons := consOk_cons m_spec_l02Small (callable_of Try.func228 (by kernel_rfl)) (consOk_cons m_spec_NatOf (callable_of Try.func201 (by kernel_rfl)) (consOk_cons m_spec_l02Trim_c (callable_of Try.func200 (by kernel_rfl)) (consOk_cons m_spec_l02Cmp (callable_of Try.func223 (by kernel_rfl)) (consOk_cons m_spec_l02Digit (callable_of Try.func229 (by kernel_rfl)) (consOk_cons m_spec_l02Mul (callable_of Try.func168 (by kernel_rfl)) (consOk_cons m_spec_l02Sub (callable_of Try.func224 (by kernel_rfl)) (consOk_nil)))))))
theorem S_spec_l02Div_0_ok (x : Tys D_spec_l02Div_0.head.ks) : stepL E_spec_l02Div D_spec_l02Div_0 body_spec_l02Div_0 x = S_spec_l02Div_0 x := by kernel_rfl
theorem loops_spec_l02Div_0 : loopsIn body_spec_l02Div_0 = [] := by kernel_rfl
theorem l_spec_l02Div_0 : LoopOk Try.prog (mkLM D_spec_l02Div_0 S_spec_l02Div_0_w) body_spec_l02Div_0 := loop_ok2 mix lay_ok cons_spec_l02Div (by kernel_rfl) (loops_mem loops_spec_l02Div_0 (trivial)) S_spec_l02Div_0_ok fun _ _ h => h
theorem loops_spec_l02Div : loopsIn code_spec_l02Div = [body_spec_l02Div_0] := by kernel_rfl
theorem m_spec_l02Div : Meets Try.prog 198 c_spec_l02Div := meets_of (E := E_spec_l02Div) (code := code_spec_l02Div) mix lay_ok cons_spec_l02Div Try.func198 (by kernel_rfl) sg_spec_l02Div (by kernel_rfl) (fun y => (y.1, y.2.1)) c_spec_l02Div.out (fun _ => rfl) c_spec_l02Div.run (fun x => by kernel_rfl) (by kernel_rfl) (loops_mem loops_spec_l02Div (⟨⟨_, by kernel_rfl, l_spec_l02Div_0⟩, trivial⟩))

noncomputable def sg_spec_l02Gcd : Sig := ⟨[(false, [.d (.sl .int)]), (false, [.d (.sl .int)])], [], false, [(false, [.own 0])], [(0, .arr false .int)]⟩
noncomputable def c_spec_l02Gcd : Con := ⟨sg_spec_l02Gcd, List Int, fun x => M_spec_l02Gcd x.1 x.2.1, fun r => (r, ())⟩
noncomputable def code_spec_l02Gcd : Code := Try.f152.body.getD .skip
noncomputable def body_spec_l02Gcd_0 : Code := (loopsIn code_spec_l02Gcd).getD 0 .skip
noncomputable def D_spec_l02Gcd_0 : LoopD := ⟨⟨mkSlots [(5, false, [.own 3392]), (6, false, [.own 3456])] 52 0, [(3392, .arr false .int), (3456, .arr false .int)]⟩, [], [(.ret, ⟨mkSlots [(4, false, [.own 3520])] 52 0, [(3520, .arr false .int)]⟩, []), (.exit 0, ⟨mkSlots [(5, false, [.own 3392])] 52 0, [(3392, .arr false .int)]⟩, [])]⟩
noncomputable def S_spec_l02Gcd_0_w (x : Tys D_spec_l02Gcd_0.head.ks) : Option (OutT D_spec_l02Gcd_0.outs) := @whileO ((List Int) × (List Int) × Unit) (((List Int) × Unit) ⊕ ((List Int) × Unit)) S_spec_l02Gcd_0 x
noncomputable def E_spec_l02Gcd : Env := ⟨lay, [(215, c_spec_NatToInt), (216, c_spec_l02Plain), (198, c_spec_l02Div)], [(3, mkLM D_spec_l02Gcd_0 S_spec_l02Gcd_0_w)], []⟩
theorem cons_spec_l02Gcd : ConsOk Try.prog E_spec_l02Gcd.cons := consOk_cons m_spec_NatToInt (callable_of Try.func215 (by kernel_rfl)) (consOk_cons m_spec_l02Plain (callable_of Try.func216 (by kernel_rfl)) (consOk_cons m_spec_l02Div (callable_of Try.func198 (by kernel_rfl)) (consOk_nil)))
theorem S_spec_l02Gcd_0_ok (x : Tys D_spec_l02Gcd_0.head.ks) : stepL E_spec_l02Gcd D_spec_l02Gcd_0 body_spec_l02Gcd_0 x = S_spec_l02Gcd_0 x := by kernel_rfl
theorem loops_spec_l02Gcd_0 : loopsIn body_spec_l02Gcd_0 = [] := by kernel_rfl
theorem l_spec_l02Gcd_0 : LoopOk Try.prog (mkLM D_spec_l02Gcd_0 S_spec_l02Gcd_0_w) body_spec_l02Gcd_0 := loop_ok2 mix lay_ok cons_spec_l02Gcd (by kernel_rfl) (loops_mem loops_spec_l02Gcd_0 (trivial)) S_spec_l02Gcd_0_ok fun _ _ h => h
theorem loops_spec_l02Gcd : loopsIn code_spec_l02Gcd = [body_spec_l02Gcd_0] := by kernel_rfl
theorem m_spec_l02Gcd : Meets Try.prog 152 c_spec_l02Gcd := meets_of (E := E_spec_l02Gcd) (code := code_spec_l02Gcd) mix lay_ok cons_spec_l02Gcd Try.func152 (by kernel_rfl) sg_spec_l02Gcd (by kernel_rfl) (fun y => y.1) c_spec_l02Gcd.out (fun _ => rfl) c_spec_l02Gcd.run (fun x => by kernel_rfl) (by kernel_rfl) (loops_mem loops_spec_l02Gcd (⟨⟨_, by kernel_rfl, l_spec_l02Gcd_0⟩, trivial⟩))

noncomputable def sg_spec_l04One : Sig := ⟨[(false, [.d (.sl .int)])], [], false, [(false, [.d (.bool)])], []⟩
noncomputable def c_spec_l04One : Con := ⟨sg_spec_l04One, Bool, fun x => M_spec_l04One x.1, fun r => (r, ())⟩
noncomputable def code_spec_l04One : Code := Try.f151.body.getD .skip
noncomputable def E_spec_l04One : Env := ⟨lay, [], [], []⟩
theorem cons_spec_l04One : ConsOk Try.prog E_spec_l04One.cons := consOk_nil
theorem loops_spec_l04One : loopsIn code_spec_l04One = [] := by kernel_rfl
theorem m_spec_l04One : Meets Try.prog 151 c_spec_l04One := meets_of (E := E_spec_l04One) (code := code_spec_l04One) mix lay_ok cons_spec_l04One Try.func151 (by kernel_rfl) sg_spec_l04One (by kernel_rfl) (fun y => y.1) c_spec_l04One.out (fun _ => rfl) c_spec_l04One.run (fun x => by kernel_rfl) (by kernel_rfl) (loops_mem loops_spec_l04One (trivial))

noncomputable def sg_spec_RatOk : Sig := ⟨[(true, [.d (.bool), .d (.sl .int), .d (.sl .int)])], [], false, [(false, [.d (.bool)])], []⟩
noncomputable def c_spec_RatOk : Con := ⟨sg_spec_RatOk, Bool, fun x => M_spec_RatOk (⟨x.1, x.2.1, x.2.2.1⟩ : Rt), fun r => (r, ())⟩
noncomputable def code_spec_RatOk : Code := Try.f78.body.getD .skip
noncomputable def E_spec_RatOk : Env := ⟨lay, [(149, c_spec_BigIntOk), (150, c_spec_NatOk), (152, c_spec_l02Gcd), (151, c_spec_l04One)], [], []⟩
theorem cons_spec_RatOk : ConsOk Try.prog E_spec_RatOk.cons := consOk_cons m_spec_BigIntOk (callable_of Try.func149 (by kernel_rfl)) (consOk_cons m_spec_NatOk (callable_of Try.func150 (by kernel_rfl)) (consOk_cons m_spec_l02Gcd (callable_of Try.func152 (by kernel_rfl)) (consOk_cons m_spec_l04One (callable_of Try.func151 (by kernel_rfl)) (consOk_nil))))
theorem loops_spec_RatOk : loopsIn code_spec_RatOk = [] := by kernel_rfl
theorem m_spec_RatOk : Meets Try.prog 78 c_spec_RatOk := meets_of (E := E_spec_RatOk) (code := code_spec_RatOk) mix lay_ok cons_spec_RatOk Try.func78 (by kernel_rfl) sg_spec_RatOk (by kernel_rfl) (fun y => y.1) c_spec_RatOk.out (fun _ => rfl) c_spec_RatOk.run (fun x => by kernel_rfl) (by kernel_rfl) (loops_mem loops_spec_RatOk (trivial))

noncomputable def sg_spec_l02Trim : Sig := ⟨[(false, [.d (.sl .int)])], [], false, [(false, [.d (.sl .int)])], []⟩
noncomputable def c_spec_l02Trim : Con := ⟨sg_spec_l02Trim, List Int, fun x => M_spec_l02Trim x.1, fun r => (r, ())⟩
noncomputable def code_spec_l02Trim : Code := Try.f200.body.getD .skip
noncomputable def body_spec_l02Trim_0 : Code := (loopsIn code_spec_l02Trim).getD 0 .skip
noncomputable def D_spec_l02Trim_0 : LoopD := ⟨⟨mkSlots [(0, false, [.d (.sl .int)]), (3, false, [.d (.int .i64)])] 21 0, []⟩, [], [(.exit 0, ⟨mkSlots [(0, false, [.d (.sl .int)]), (3, false, [.d (.int .i64)])] 21 0, []⟩, [])]⟩
noncomputable def S_spec_l02Trim_0_w (x : Tys D_spec_l02Trim_0.head.ks) : Option (OutT D_spec_l02Trim_0.outs) := @whileO ((List Int) × Int × Unit) ((List Int) × Int × Unit) S_spec_l02Trim_0 x
noncomputable def E_spec_l02Trim : Env := ⟨lay, [], [(2, mkLM D_spec_l02Trim_0 S_spec_l02Trim_0_w)], []⟩
theorem cons_spec_l02Trim : ConsOk Try.prog E_spec_l02Trim.cons := consOk_nil
theorem S_spec_l02Trim_0_ok (x : Tys D_spec_l02Trim_0.head.ks) : stepL E_spec_l02Trim D_spec_l02Trim_0 body_spec_l02Trim_0 x = S_spec_l02Trim_0 x := by kernel_rfl
theorem loops_spec_l02Trim_0 : loopsIn body_spec_l02Trim_0 = [] := by kernel_rfl
theorem l_spec_l02Trim_0 : LoopOk Try.prog (mkLM D_spec_l02Trim_0 S_spec_l02Trim_0_w) body_spec_l02Trim_0 := loop_ok2 mix lay_ok cons_spec_l02Trim (by kernel_rfl) (loops_mem loops_spec_l02Trim_0 (trivial)) S_spec_l02Trim_0_ok fun _ _ h => h
theorem loops_spec_l02Trim : loopsIn code_spec_l02Trim = [body_spec_l02Trim_0] := by kernel_rfl
theorem m_spec_l02Trim : Meets Try.prog 200 c_spec_l02Trim := meets_of (E := E_spec_l02Trim) (code := code_spec_l02Trim) mix lay_ok cons_spec_l02Trim Try.func200 (by kernel_rfl) sg_spec_l02Trim (by kernel_rfl) (fun y => y.1) c_spec_l02Trim.out (fun _ => rfl) c_spec_l02Trim.run (fun x => by kernel_rfl) (by kernel_rfl) (loops_mem loops_spec_l02Trim (⟨⟨_, by kernel_rfl, l_spec_l02Trim_0⟩, trivial⟩))

noncomputable def sg_spec_l02Cap : Sig := ⟨[(false, [.d (.sl .int)])], [], false, [(false, [.d (.sl .int)])], []⟩
noncomputable def c_spec_l02Cap : Con := ⟨sg_spec_l02Cap, List Int, fun x => M_spec_l02Cap x.1, fun r => (r, ())⟩
noncomputable def code_spec_l02Cap : Code := Try.f225.body.getD .skip
noncomputable def E_spec_l02Cap : Env := ⟨lay, [(200, c_spec_l02Trim)], [], []⟩
theorem cons_spec_l02Cap : ConsOk Try.prog E_spec_l02Cap.cons := consOk_cons m_spec_l02Trim (callable_of Try.func200 (by kernel_rfl)) (consOk_nil)
theorem loops_spec_l02Cap : loopsIn code_spec_l02Cap = [] := by kernel_rfl
theorem m_spec_l02Cap : Meets Try.prog 225 c_spec_l02Cap := meets_of (E := E_spec_l02Cap) (code := code_spec_l02Cap) mix lay_ok cons_spec_l02Cap Try.func225 (by kernel_rfl) sg_spec_l02Cap (by kernel_rfl) (fun y => y.1) c_spec_l02Cap.out (fun _ => rfl) c_spec_l02Cap.run (fun x => by kernel_rfl) (by kernel_rfl) (loops_mem loops_spec_l02Cap (trivial))

noncomputable def sg_spec_l03Make : Sig := ⟨[(false, [.d (.bool)]), (false, [.d (.sl .int)])], [], false, [(true, [.d (.bool), .own 0])], [(0, .arr false .int)]⟩
noncomputable def c_spec_l03Make : Con := ⟨sg_spec_l03Make, Bg, fun x => M_spec_l03Make x.1 x.2.1, fun r => (r.neg, r.mag, ())⟩
noncomputable def code_spec_l03Make : Code := Try.f167.body.getD .skip
noncomputable def E_spec_l03Make : Env := ⟨lay, [(225, c_spec_l02Cap)], [], []⟩
theorem cons_spec_l03Make : ConsOk Try.prog E_spec_l03Make.cons := consOk_cons m_spec_l02Cap (callable_of Try.func225 (by kernel_rfl)) (consOk_nil)
theorem loops_spec_l03Make : loopsIn code_spec_l03Make = [] := by kernel_rfl
theorem m_spec_l03Make : Meets Try.prog 167 c_spec_l03Make := meets_of (E := E_spec_l03Make) (code := code_spec_l03Make) mix lay_ok cons_spec_l03Make Try.func167 (by kernel_rfl) sg_spec_l03Make (by kernel_rfl) (fun y => (⟨y.1, y.2.1⟩ : Bg)) c_spec_l03Make.out (fun _ => rfl) c_spec_l03Make.run (fun x => by kernel_rfl) (by kernel_rfl) (loops_mem loops_spec_l03Make (trivial))

noncomputable def sg_spec_l04Low : Sig := ⟨[(false, [.d (.bool)]), (false, [.d (.sl .int)]), (false, [.d (.sl .int)])], [], false, [(true, [.d (.bool), .own 0, .own 1])], [(0, .arr false .int), (1, .arr false .int)]⟩
noncomputable def c_spec_l04Low : Con := ⟨sg_spec_l04Low, Rt, fun x => M_spec_l04Low x.1 x.2.1 x.2.2.1, fun r => (r.neg, r.mag, r.den, ())⟩
noncomputable def code_spec_l04Low : Code := Try.f166.body.getD .skip
noncomputable def E_spec_l04Low : Env := ⟨lay, [(200, c_spec_l02Trim), (151, c_spec_l04One), (152, c_spec_l02Gcd), (198, c_spec_l02Div), (167, c_spec_l03Make)], [], []⟩
theorem cons_spec_l04Low : ConsOk Try.prog E_spec_l04Low.cons := consOk_cons m_spec_l02Trim (callable_of Try.func200 (by kernel_rfl)) (consOk_cons m_spec_l04One (callable_of Try.func151 (by kernel_rfl)) (consOk_cons m_spec_l02Gcd (callable_of Try.func152 (by kernel_rfl)) (consOk_cons m_spec_l02Div (callable_of Try.func198 (by kernel_rfl)) (consOk_cons m_spec_l03Make (callable_of Try.func167 (by kernel_rfl)) (consOk_nil)))))
theorem loops_spec_l04Low : loopsIn code_spec_l04Low = [] := by kernel_rfl
theorem m_spec_l04Low : Meets Try.prog 166 c_spec_l04Low := meets_of (E := E_spec_l04Low) (code := code_spec_l04Low) mix lay_ok cons_spec_l04Low Try.func166 (by kernel_rfl) sg_spec_l04Low (by kernel_rfl) (fun y => (⟨y.1, y.2.1, y.2.2.1⟩ : Rt)) c_spec_l04Low.out (fun _ => rfl) c_spec_l04Low.run (fun x => by kernel_rfl) (by kernel_rfl) (loops_mem loops_spec_l04Low (trivial))

noncomputable def sg_spec_l04Mul : Sig := ⟨[(true, [.d (.bool), .d (.sl .int), .d (.sl .int)]), (true, [.d (.bool), .d (.sl .int), .d (.sl .int)])], [], false, [(true, [.d (.bool), .own 0, .own 1])], [(0, .arr false .int), (1, .arr false .int)]⟩
noncomputable def c_spec_l04Mul : Con := ⟨sg_spec_l04Mul, Rt, fun x => M_spec_l04Mul (⟨x.1, x.2.1, x.2.2.1⟩ : Rt) (⟨x.2.2.2.1, x.2.2.2.2.1, x.2.2.2.2.2.1⟩ : Rt), fun r => (r.neg, r.mag, r.den, ())⟩
noncomputable def code_spec_l04Mul : Code := Try.f96.body.getD .skip
noncomputable def E_spec_l04Mul : Env := ⟨lay, [(168, c_spec_l02Mul), (166, c_spec_l04Low)], [], [(1, [(0, []), (1, []), (2, []), (3, []), (4, []), (5, []), (6, []), (7, []), (8, []), (9, []), (10, []), (11, []), (12, []), (14, []), (15, []), (16, []), (17, []), (13, [9, 12, 8, 11, 7, 10]), (18, [15, 17, 13, 14, 16, 9, 12, 8, 11, 7, 10]), (19, [6, 13, 18, 2, 5, 9, 12, 15, 17, 1, 4, 8, 11, 14, 16, 0, 3, 7, 10]), (20, [19, 0, 1, 2, 3, 4, 5, 6, 7, 8, 9, 10, 11, 12, 13, 14, 15, 16, 17, 18])])]⟩
theorem cons_spec_l04Mul : ConsOk Try.prog E_spec_l04Mul.cons := consOk_cons m_spec_l02Mul (callable_of Try.func168 (by kernel_rfl)) (consOk_cons m_spec_l04Low (callable_of Try.func166 (by kernel_rfl)) (consOk_nil))
theorem loops_spec_l04Mul : loopsIn code_spec_l04Mul = [] := by kernel_rfl
theorem m_spec_l04Mul : Meets Try.prog 96 c_spec_l04Mul := meets_of (E := E_spec_l04Mul) (code := code_spec_l04Mul) mix lay_ok cons_spec_l04Mul Try.func96 (by kernel_rfl) sg_spec_l04Mul (by kernel_rfl) (fun y => (⟨y.1, y.2.1, y.2.2.1⟩ : Rt)) c_spec_l04Mul.out (fun _ => rfl) c_spec_l04Mul.run (fun x => by kernel_rfl) (by kernel_rfl) (loops_mem loops_spec_l04Mul (trivial))

noncomputable def sg_spec_l02Add : Sig := ⟨[(false, [.d (.sl .int)]), (false, [.d (.sl .int)])], [], false, [(false, [.own 0])], [(0, .arr false .int)]⟩
noncomputable def c_spec_l02Add : Con := ⟨sg_spec_l02Add, List Int, fun x => M_spec_l02Add x.1 x.2.1, fun r => (r, ())⟩
noncomputable def code_spec_l02Add : Code := Try.f222.body.getD .skip
noncomputable def body_spec_l02Add_0 : Code := (loopsIn code_spec_l02Add).getD 0 .skip
noncomputable def D_spec_l02Add_0 : LoopD := ⟨⟨mkSlots [(0, false, [.d (.sl .int)]), (1, false, [.d (.sl .int)]), (5, false, [.own 3584]), (6, false, [.d (.int .i64)]), (7, false, [.d (.int .i64)])] 55 0, [(3584, .arr false .int)]⟩, [(.slot 5 0, 3584, .int)], [(.exit 0, ⟨mkSlots [(5, false, [.own 3584])] 55 0, [(3584, .arr false .int)]⟩, [(.slot 5 0, 3584, .int)])]⟩
noncomputable def S_spec_l02Add_0_w (x : Tys D_spec_l02Add_0.head.ks) : Option (OutT D_spec_l02Add_0.outs) := @whileO ((List Int) × (List Int) × Int × Int × (List Int) × Unit) ((List Int) × Unit) S_spec_l02Add_0 x
noncomputable def E_spec_l02Add : Env := ⟨lay, [], [(4, mkLM D_spec_l02Add_0 S_spec_l02Add_0_w)], []⟩
theorem cons_spec_l02Add : ConsOk Try.prog E_spec_l02Add.cons := consOk_nil
theorem S_spec_l02Add_0_ok (x : Tys D_spec_l02Add_0.head.ks) : stepL E_spec_l02Add D_spec_l02Add_0 body_spec_l02Add_0 x = S_spec_l02Add_0 x := by kernel_rfl
theorem loops_spec_l02Add_0 : loopsIn body_spec_l02Add_0 = [] := by kernel_rfl
theorem l_spec_l02Add_0 : LoopOk Try.prog (mkLM D_spec_l02Add_0 S_spec_l02Add_0_w) body_spec_l02Add_0 := loop_ok2 mix lay_ok cons_spec_l02Add (by kernel_rfl) (loops_mem loops_spec_l02Add_0 (trivial)) S_spec_l02Add_0_ok fun _ _ h => h
theorem loops_spec_l02Add : loopsIn code_spec_l02Add = [body_spec_l02Add_0] := by kernel_rfl
theorem m_spec_l02Add : Meets Try.prog 222 c_spec_l02Add := meets_of (E := E_spec_l02Add) (code := code_spec_l02Add) mix lay_ok cons_spec_l02Add Try.func222 (by kernel_rfl) sg_spec_l02Add (by kernel_rfl) (fun y => y.1) c_spec_l02Add.out (fun _ => rfl) c_spec_l02Add.run (fun x => by kernel_rfl) (by kernel_rfl) (loops_mem loops_spec_l02Add (⟨⟨_, by kernel_rfl, l_spec_l02Add_0⟩, trivial⟩))

noncomputable def sg_spec_l03Add : Sig := ⟨[(true, [.d (.bool), .d (.sl .int)]), (true, [.d (.bool), .d (.sl .int)])], [], false, [(true, [.d (.bool), .own 0])], [(0, .arr false .int)]⟩
noncomputable def c_spec_l03Add : Con := ⟨sg_spec_l03Add, Bg, fun x => M_spec_l03Add (⟨x.1, x.2.1⟩ : Bg) (⟨x.2.2.1, x.2.2.2.1⟩ : Bg), fun r => (r.neg, r.mag, ())⟩
noncomputable def code_spec_l03Add : Code := Try.f165.body.getD .skip
noncomputable def E_spec_l03Add : Env := ⟨lay, [(222, c_spec_l02Add), (167, c_spec_l03Make), (223, c_spec_l02Cmp), (224, c_spec_l02Sub)], [], [(2, [(0, []), (1, []), (2, []), (3, []), (4, []), (5, []), (6, [3, 5, 2, 4]), (7, [1, 6, 0, 3, 5, 2, 4]), (8, [7, 0, 1, 2, 3, 4, 5, 6])]), (4, [(0, []), (1, []), (2, []), (3, []), (4, []), (5, []), (6, [3, 5, 2, 4]), (7, [1, 6, 0, 3, 5, 2, 4]), (8, [7, 0, 1, 2, 3, 4, 5, 6])]), (5, [(0, []), (1, []), (2, []), (3, []), (4, []), (5, []), (6, [3, 5, 2, 4]), (7, [1, 6, 0, 3, 5, 2, 4]), (8, [7, 0, 1, 2, 3, 4, 5, 6])])]⟩
theorem cons_spec_l03Add : ConsOk Try.prog E_spec_l03Add.cons := consOk_cons m_spec_l02Add (callable_of Try.func222 (by kernel_rfl)) (consOk_cons m_spec_l03Make (callable_of Try.func167 (by kernel_rfl)) (consOk_cons m_spec_l02Cmp (callable_of Try.func223 (by kernel_rfl)) (consOk_cons m_spec_l02Sub (callable_of Try.func224 (by kernel_rfl)) (consOk_nil))))
theorem loops_spec_l03Add : loopsIn code_spec_l03Add = [] := by kernel_rfl
theorem m_spec_l03Add : Meets Try.prog 165 c_spec_l03Add := meets_of (E := E_spec_l03Add) (code := code_spec_l03Add) mix lay_ok cons_spec_l03Add Try.func165 (by kernel_rfl) sg_spec_l03Add (by kernel_rfl) (fun y => (⟨y.1, y.2.1⟩ : Bg)) c_spec_l03Add.out (fun _ => rfl) c_spec_l03Add.run (fun x => by kernel_rfl) (by kernel_rfl) (loops_mem loops_spec_l03Add (trivial))

noncomputable def sg_spec_l04Add : Sig := ⟨[(true, [.d (.bool), .d (.sl .int), .d (.sl .int)]), (true, [.d (.bool), .d (.sl .int), .d (.sl .int)])], [], false, [(true, [.d (.bool), .own 0, .own 1])], [(0, .arr false .int), (1, .arr false .int)]⟩
noncomputable def c_spec_l04Add : Con := ⟨sg_spec_l04Add, Rt, fun x => M_spec_l04Add (⟨x.1, x.2.1, x.2.2.1⟩ : Rt) (⟨x.2.2.2.1, x.2.2.2.2.1, x.2.2.2.2.2.1⟩ : Rt), fun r => (r.neg, r.mag, r.den, ())⟩
noncomputable def code_spec_l04Add : Code := Try.f95.body.getD .skip
noncomputable def E_spec_l04Add : Env := ⟨lay, [(151, c_spec_l04One), (165, c_spec_l03Add), (166, c_spec_l04Low), (168, c_spec_l02Mul), (167, c_spec_l03Make)], [], [(4, [(0, []), (1, []), (2, []), (3, []), (4, []), (5, []), (6, []), (7, []), (8, [5, 7, 4, 6, 3]), (9, [2, 8, 1, 5, 7, 0, 4, 6, 3]), (10, []), (11, [10, 9, 0, 1, 2, 3, 4, 5, 6, 7, 8])]), (5, [(0, []), (1, []), (2, []), (3, []), (4, []), (5, []), (6, []), (7, []), (8, [5, 7, 4, 6, 3]), (9, [2, 8, 1, 5, 7, 0, 4, 6, 3]), (10, []), (11, [10, 9, 0, 1, 2, 3, 4, 5, 6, 7, 8])]), (7, [(0, []), (1, []), (2, []), (3, []), (4, []), (5, []), (6, []), (7, []), (8, [5, 7, 4, 6]), (9, [1, 3, 8, 0, 2, 5, 7, 4, 6]), (10, [9, 0, 1, 2, 3, 4, 5, 6, 7, 8])])]⟩
theorem cons_spec_l04Add : ConsOk Try.prog E_spec_l04Add.cons := consOk_cons m_spec_l04One (callable_of Try.func151 (by kernel_rfl)) (consOk_cons m_spec_l03Add (callable_of Try.func165 (by kernel_rfl)) (consOk_cons m_spec_l04Low (callable_of Try.func166 (by kernel_rfl)) (consOk_cons m_spec_l02Mul (callable_of Try.func168 (by kernel_rfl)) (consOk_cons m_spec_l03Make (callable_of Try.func167 (by kernel_rfl)) (consOk_nil)))))
theorem loops_spec_l04Add : loopsIn code_spec_l04Add = [] := by kernel_rfl
theorem m_spec_l04Add : Meets Try.prog 95 c_spec_l04Add := meets_of (E := E_spec_l04Add) (code := code_spec_l04Add) mix lay_ok cons_spec_l04Add Try.func95 (by kernel_rfl) sg_spec_l04Add (by kernel_rfl) (fun y => (⟨y.1, y.2.1, y.2.2.1⟩ : Rt)) c_spec_l04Add.out (fun _ => rfl) c_spec_l04Add.run (fun x => by kernel_rfl) (by kernel_rfl) (loops_mem loops_spec_l04Add (trivial))

noncomputable def sg_spec_BigIntOf : Sig := ⟨[(false, [.d (.int .i64)])], [], false, [(true, [.d (.bool), .own 0])], [(0, .arr false .int)]⟩
noncomputable def c_spec_BigIntOf : Con := ⟨sg_spec_BigIntOf, Bg, fun x => M_spec_BigIntOf x.1, fun r => (r.neg, r.mag, ())⟩
noncomputable def code_spec_BigIntOf : Code := Try.f217.body.getD .skip
noncomputable def E_spec_BigIntOf : Env := ⟨lay, [(167, c_spec_l03Make), (201, c_spec_NatOf)], [], []⟩
theorem cons_spec_BigIntOf : ConsOk Try.prog E_spec_BigIntOf.cons := consOk_cons m_spec_l03Make (callable_of Try.func167 (by kernel_rfl)) (consOk_cons m_spec_NatOf (callable_of Try.func201 (by kernel_rfl)) (consOk_nil))
theorem loops_spec_BigIntOf : loopsIn code_spec_BigIntOf = [] := by kernel_rfl
theorem m_spec_BigIntOf : Meets Try.prog 217 c_spec_BigIntOf := meets_of (E := E_spec_BigIntOf) (code := code_spec_BigIntOf) mix lay_ok cons_spec_BigIntOf Try.func217 (by kernel_rfl) sg_spec_BigIntOf (by kernel_rfl) (fun y => (⟨y.1, y.2.1⟩ : Bg)) c_spec_BigIntOf.out (fun _ => rfl) c_spec_BigIntOf.run (fun x => by kernel_rfl) (by kernel_rfl) (loops_mem loops_spec_BigIntOf (trivial))

noncomputable def sg_spec_RatFromInt : Sig := ⟨[(false, [.d (.int .i64)])], [], false, [(true, [.d (.bool), .own 0, .own 1])], [(0, .arr false .int), (1, .arr false .int)]⟩
noncomputable def c_spec_RatFromInt : Con := ⟨sg_spec_RatFromInt, Rt, fun x => M_spec_RatFromInt x.1, fun r => (r.neg, r.mag, r.den, ())⟩
noncomputable def code_spec_RatFromInt : Code := Try.f153.body.getD .skip
noncomputable def E_spec_RatFromInt : Env := ⟨lay, [(217, c_spec_BigIntOf)], [], []⟩
theorem cons_spec_RatFromInt : ConsOk Try.prog E_spec_RatFromInt.cons := consOk_cons m_spec_BigIntOf (callable_of Try.func217 (by kernel_rfl)) (consOk_nil)
theorem loops_spec_RatFromInt : loopsIn code_spec_RatFromInt = [] := by kernel_rfl
theorem m_spec_RatFromInt : Meets Try.prog 153 c_spec_RatFromInt := meets_of (E := E_spec_RatFromInt) (code := code_spec_RatFromInt) mix lay_ok cons_spec_RatFromInt Try.func153 (by kernel_rfl) sg_spec_RatFromInt (by kernel_rfl) (fun y => (⟨y.1, y.2.1, y.2.2.1⟩ : Rt)) c_spec_RatFromInt.out (fun _ => rfl) c_spec_RatFromInt.run (fun x => by kernel_rfl) (by kernel_rfl) (loops_mem loops_spec_RatFromInt (trivial))

noncomputable def sg_spec_l05Bad : Sig := ⟨[(true, [.d (.bool), .d (.sl .int), .d (.sl .int)])], [], false, [(false, [.d (.bool)])], []⟩
noncomputable def c_spec_l05Bad : Con := ⟨sg_spec_l05Bad, Bool, fun x => M_spec_l05Bad (⟨x.1, x.2.1, x.2.2.1⟩ : Rt), fun r => (r, ())⟩
noncomputable def code_spec_l05Bad : Code := Try.f135.body.getD .skip
noncomputable def E_spec_l05Bad : Env := ⟨lay, [], [], []⟩
theorem cons_spec_l05Bad : ConsOk Try.prog E_spec_l05Bad.cons := consOk_nil
theorem loops_spec_l05Bad : loopsIn code_spec_l05Bad = [] := by kernel_rfl
theorem m_spec_l05Bad : Meets Try.prog 135 c_spec_l05Bad := meets_of (E := E_spec_l05Bad) (code := code_spec_l05Bad) mix lay_ok cons_spec_l05Bad Try.func135 (by kernel_rfl) sg_spec_l05Bad (by kernel_rfl) (fun y => y.1) c_spec_l05Bad.out (fun _ => rfl) c_spec_l05Bad.run (fun x => by kernel_rfl) (by kernel_rfl) (loops_mem loops_spec_l05Bad (trivial))

noncomputable def sg_spec_l09Root : Sig := ⟨[(false, [.d (.sl .int)])], [], false, [(false, [.own 0])], [(0, .arr false .int)]⟩
noncomputable def c_spec_l09Root : Con := ⟨sg_spec_l09Root, List Int, fun x => M_spec_l09Root x.1, fun r => (r, ())⟩
noncomputable def code_spec_l09Root : Code := Try.f199.body.getD .skip
noncomputable def body_spec_l09Root_0 : Code := (loopsIn code_spec_l09Root).getD 0 .skip
noncomputable def body_spec_l09Root_1 : Code := (loopsIn code_spec_l09Root).getD 1 .skip
noncomputable def D_spec_l09Root_0 : LoopD := ⟨⟨mkSlots [(0, false, [.d (.sl .int)]), (3, false, [.own 3456])] 53 0, [(3456, .arr false .int)]⟩, [(.slot 3 0, 3456, .int)], [(.exit 0, ⟨mkSlots [(0, false, [.d (.sl .int)]), (3, false, [.own 3456])] 53 0, [(3456, .arr false .int)]⟩, [(.slot 3 0, 3456, .int)])]⟩
noncomputable def D_spec_l09Root_1 : LoopD := ⟨⟨mkSlots [(0, false, [.d (.sl .int)]), (3, false, [.d (.sl .int)])] 53 0, []⟩, [], [(.ret, ⟨mkSlots [(2, false, [.own 3520])] 53 0, [(3520, .arr false .int)]⟩, [])]⟩
noncomputable def S_spec_l09Root_0_w (x : Tys D_spec_l09Root_0.head.ks) : Option (OutT D_spec_l09Root_0.outs) := @whileO ((List Int) × (List Int) × Unit) ((List Int) × (List Int) × Unit) S_spec_l09Root_0 x
noncomputable def S_spec_l09Root_1_w (x : Tys D_spec_l09Root_1.head.ks) : Option (OutT D_spec_l09Root_1.outs) := @whileO ((List Int) × (List Int) × Unit) ((List Int) × Unit) S_spec_l09Root_1 x
noncomputable def E_spec_l09Root : Env := ⟨lay, [(198, c_spec_l02Div), (222, c_spec_l02Add), (200, c_spec_l02Trim), (223, c_spec_l02Cmp)], [(4, mkLM D_spec_l09Root_0 S_spec_l09Root_0_w), (7, mkLM D_spec_l09Root_1 S_spec_l09Root_1_w)], []⟩
theorem cons_spec_l09Root : ConsOk Try.prog E_spec_l09Root.cons := consOk_cons m_spec_l02Div (callable_of Try.func198 (by kernel_rfl)) (consOk_cons m_spec_l02Add (callable_of Try.func222 (by kernel_rfl)) (consOk_cons m_spec_l02Trim (callable_of Try.func200 (by kernel_rfl)) (consOk_cons m_spec_l02Cmp (callable_of Try.func223 (by kernel_rfl)) (consOk_nil))))
theorem S_spec_l09Root_1_ok (x : Tys D_spec_l09Root_1.head.ks) : stepL E_spec_l09Root D_spec_l09Root_1 body_spec_l09Root_1 x = S_spec_l09Root_1 x := by kernel_rfl
theorem loops_spec_l09Root_1 : loopsIn body_spec_l09Root_1 = [] := by kernel_rfl
theorem l_spec_l09Root_1 : LoopOk Try.prog (mkLM D_spec_l09Root_1 S_spec_l09Root_1_w) body_spec_l09Root_1 := loop_ok2 mix lay_ok cons_spec_l09Root (by kernel_rfl) (loops_mem loops_spec_l09Root_1 (trivial)) S_spec_l09Root_1_ok fun _ _ h => h
theorem S_spec_l09Root_0_ok (x : Tys D_spec_l09Root_0.head.ks) : stepL E_spec_l09Root D_spec_l09Root_0 body_spec_l09Root_0 x = S_spec_l09Root_0 x := by kernel_rfl
theorem loops_spec_l09Root_0 : loopsIn body_spec_l09Root_0 = [] := by kernel_rfl
theorem l_spec_l09Root_0 : LoopOk Try.prog (mkLM D_spec_l09Root_0 S_spec_l09Root_0_w) body_spec_l09Root_0 := loop_ok2 mix lay_ok cons_spec_l09Root (by kernel_rfl) (loops_mem loops_spec_l09Root_0 (trivial)) S_spec_l09Root_0_ok fun _ _ h => h
theorem loops_spec_l09Root : loopsIn code_spec_l09Root = [body_spec_l09Root_0, body_spec_l09Root_1] := by kernel_rfl
theorem m_spec_l09Root : Meets Try.prog 199 c_spec_l09Root := meets_of (E := E_spec_l09Root) (code := code_spec_l09Root) mix lay_ok cons_spec_l09Root Try.func199 (by kernel_rfl) sg_spec_l09Root (by kernel_rfl) (fun y => y.1) c_spec_l09Root.out (fun _ => rfl) c_spec_l09Root.run (fun x => by kernel_rfl) (by kernel_rfl) (loops_mem loops_spec_l09Root (⟨⟨_, by kernel_rfl, l_spec_l09Root_0⟩, ⟨⟨_, by kernel_rfl, l_spec_l09Root_1⟩, trivial⟩⟩))

noncomputable def sg_spec_RootBelow : Sig := ⟨[(true, [.d (.bool), .d (.sl .int), .d (.sl .int)])], [], false, [(true, [.d (.bool), .own 0, .own 1])], [(0, .arr false .int), (1, .arr false .int)]⟩
noncomputable def c_spec_RootBelow : Con := ⟨sg_spec_RootBelow, Rt, fun x => M_spec_RootBelow (⟨x.1, x.2.1, x.2.2.1⟩ : Rt), fun r => (r.neg, r.mag, r.den, ())⟩
noncomputable def code_spec_RootBelow : Code := Try.f137.body.getD .skip
noncomputable def E_spec_RootBelow : Env := ⟨lay, [(78, c_spec_RatOk), (153, c_spec_RatFromInt), (96, c_spec_l04Mul), (135, c_spec_l05Bad), (198, c_spec_l02Div), (200, c_spec_l02Trim_c), (199, c_spec_l09Root), (201, c_spec_NatOf), (166, c_spec_l04Low)], [], [(3, [(0, []), (1, []), (2, [0, 1]), (3, []), (4, [3, 2, 0, 1])])]⟩
theorem cons_spec_RootBelow : ConsOk Try.prog E_spec_RootBelow.cons := consOk_cons m_spec_RatOk (callable_of Try.func78 (by kernel_rfl)) (consOk_cons m_spec_RatFromInt (callable_of Try.func153 (by kernel_rfl)) (consOk_cons m_spec_l04Mul (callable_of Try.func96 (by kernel_rfl)) (consOk_cons m_spec_l05Bad (callable_of Try.func135 (by kernel_rfl)) (consOk_cons m_spec_l02Div (callable_of Try.func198 (by kernel_rfl)) (consOk_cons m_spec_l02Trim_c (callable_of Try.func200 (by kernel_rfl)) (consOk_cons m_spec_l09Root (callable_of Try.func199 (by kernel_rfl)) (consOk_cons m_spec_NatOf (callable_of Try.func201 (by kernel_rfl)) (consOk_cons m_spec_l04Low (callable_of Try.func166 (by kernel_rfl)) (consOk_nil)))))))))
theorem loops_spec_RootBelow : loopsIn code_spec_RootBelow = [] := by kernel_rfl
theorem m_spec_RootBelow : Meets Try.prog 137 c_spec_RootBelow := meets_of (E := E_spec_RootBelow) (code := code_spec_RootBelow) mix lay_ok cons_spec_RootBelow Try.func137 (by kernel_rfl) sg_spec_RootBelow (by kernel_rfl) (fun y => (⟨y.1, y.2.1, y.2.2.1⟩ : Rt)) c_spec_RootBelow.out (fun _ => rfl) c_spec_RootBelow.run (fun x => by kernel_rfl) (by kernel_rfl) (loops_mem loops_spec_RootBelow (trivial))

noncomputable def sg_spec_l05Nil : Sig := ⟨[(true, [.d (.bool), .d (.sl .int), .d (.sl .int)])], [], false, [(false, [.d (.bool)])], []⟩
noncomputable def c_spec_l05Nil : Con := ⟨sg_spec_l05Nil, Bool, fun x => M_spec_l05Nil (⟨x.1, x.2.1, x.2.2.1⟩ : Rt), fun r => (r, ())⟩
noncomputable def code_spec_l05Nil : Code := Try.f138.body.getD .skip
noncomputable def E_spec_l05Nil : Env := ⟨lay, [], [], []⟩
theorem cons_spec_l05Nil : ConsOk Try.prog E_spec_l05Nil.cons := consOk_nil
theorem loops_spec_l05Nil : loopsIn code_spec_l05Nil = [] := by kernel_rfl
theorem m_spec_l05Nil : Meets Try.prog 138 c_spec_l05Nil := meets_of (E := E_spec_l05Nil) (code := code_spec_l05Nil) mix lay_ok cons_spec_l05Nil Try.func138 (by kernel_rfl) sg_spec_l05Nil (by kernel_rfl) (fun y => y.1) c_spec_l05Nil.out (fun _ => rfl) c_spec_l05Nil.run (fun x => by kernel_rfl) (by kernel_rfl) (loops_mem loops_spec_l05Nil (trivial))

noncomputable def sg_spec_l04Neg : Sig := ⟨[(true, [.d (.bool), .d (.sl .int), .d (.sl .int)])], [], false, [(true, [.d (.bool), .own 0, .own 1])], [(0, .arr false .int), (1, .arr false .int)]⟩
noncomputable def c_spec_l04Neg : Con := ⟨sg_spec_l04Neg, Rt, fun x => M_spec_l04Neg (⟨x.1, x.2.1, x.2.2.1⟩ : Rt), fun r => (r.neg, r.mag, r.den, ())⟩
noncomputable def code_spec_l04Neg : Code := Try.f169.body.getD .skip
noncomputable def E_spec_l04Neg : Env := ⟨lay, [(167, c_spec_l03Make)], [], [(1, [(0, []), (1, []), (2, []), (3, []), (4, []), (5, []), (6, []), (8, []), (9, []), (10, []), (7, [3, 6, 2, 5, 1, 4, 0]), (11, [8, 10, 7, 9, 3, 6, 2, 5, 1, 4, 0]), (12, []), (13, [12, 11, 0, 1, 2, 3, 4, 5, 6, 7, 8, 9, 10])])]⟩
theorem cons_spec_l04Neg : ConsOk Try.prog E_spec_l04Neg.cons := consOk_cons m_spec_l03Make (callable_of Try.func167 (by kernel_rfl)) (consOk_nil)
theorem loops_spec_l04Neg : loopsIn code_spec_l04Neg = [] := by kernel_rfl
theorem m_spec_l04Neg : Meets Try.prog 169 c_spec_l04Neg := meets_of (E := E_spec_l04Neg) (code := code_spec_l04Neg) mix lay_ok cons_spec_l04Neg Try.func169 (by kernel_rfl) sg_spec_l04Neg (by kernel_rfl) (fun y => (⟨y.1, y.2.1, y.2.2.1⟩ : Rt)) c_spec_l04Neg.out (fun _ => rfl) c_spec_l04Neg.run (fun x => by kernel_rfl) (by kernel_rfl) (loops_mem loops_spec_l04Neg (trivial))

noncomputable def sg_spec_l05Sub : Sig := ⟨[(true, [.d (.bool), .d (.sl .int), .d (.sl .int)]), (true, [.d (.bool), .d (.sl .int), .d (.sl .int)])], [], false, [(true, [.d (.bool), .own 0, .own 1])], [(0, .arr false .int), (1, .arr false .int)]⟩
noncomputable def c_spec_l05Sub : Con := ⟨sg_spec_l05Sub, Rt, fun x => M_spec_l05Sub (⟨x.1, x.2.1, x.2.2.1⟩ : Rt) (⟨x.2.2.2.1, x.2.2.2.2.1, x.2.2.2.2.2.1⟩ : Rt), fun r => (r.neg, r.mag, r.den, ())⟩
noncomputable def code_spec_l05Sub : Code := Try.f98.body.getD .skip
noncomputable def E_spec_l05Sub : Env := ⟨lay, [(169, c_spec_l04Neg), (95, c_spec_l04Add)], [], [(1, [(0, []), (1, []), (2, [1]), (3, [0, 2, 1]), (4, [3, 0, 1, 2])])]⟩
theorem cons_spec_l05Sub : ConsOk Try.prog E_spec_l05Sub.cons := consOk_cons m_spec_l04Neg (callable_of Try.func169 (by kernel_rfl)) (consOk_cons m_spec_l04Add (callable_of Try.func95 (by kernel_rfl)) (consOk_nil))
theorem loops_spec_l05Sub : loopsIn code_spec_l05Sub = [] := by kernel_rfl
theorem m_spec_l05Sub : Meets Try.prog 98 c_spec_l05Sub := meets_of (E := E_spec_l05Sub) (code := code_spec_l05Sub) mix lay_ok cons_spec_l05Sub Try.func98 (by kernel_rfl) sg_spec_l05Sub (by kernel_rfl) (fun y => (⟨y.1, y.2.1, y.2.2.1⟩ : Rt)) c_spec_l05Sub.out (fun _ => rfl) c_spec_l05Sub.run (fun x => by kernel_rfl) (by kernel_rfl) (loops_mem loops_spec_l05Sub (trivial))

noncomputable def sg_spec_l05Div : Sig := ⟨[(true, [.d (.bool), .d (.sl .int), .d (.sl .int)]), (true, [.d (.bool), .d (.sl .int), .d (.sl .int)])], [], false, [(true, [.d (.bool), .own 0, .own 1])], [(0, .arr false .int), (1, .arr false .int)]⟩
noncomputable def c_spec_l05Div : Con := ⟨sg_spec_l05Div, Rt, fun x => M_spec_l05Div (⟨x.1, x.2.1, x.2.2.1⟩ : Rt) (⟨x.2.2.2.1, x.2.2.2.2.1, x.2.2.2.2.2.1⟩ : Rt), fun r => (r.neg, r.mag, r.den, ())⟩
noncomputable def code_spec_l05Div : Code := Try.f140.body.getD .skip
noncomputable def E_spec_l05Div : Env := ⟨lay, [(168, c_spec_l02Mul), (166, c_spec_l04Low)], [], [(1, [(0, []), (1, []), (2, []), (3, []), (4, []), (5, []), (6, []), (7, []), (8, []), (9, []), (10, []), (11, []), (13, []), (14, []), (15, []), (16, []), (17, []), (12, [9, 11, 8, 10, 7]), (18, [14, 17, 12, 13, 16, 9, 11, 15, 8, 10, 7]), (19, [6, 12, 18, 2, 5, 9, 11, 14, 17, 1, 4, 8, 10, 13, 16, 0, 3, 7, 15]), (20, [19, 0, 1, 2, 3, 4, 5, 6, 7, 8, 9, 10, 11, 12, 13, 14, 15, 16, 17, 18])])]⟩
theorem cons_spec_l05Div : ConsOk Try.prog E_spec_l05Div.cons := consOk_cons m_spec_l02Mul (callable_of Try.func168 (by kernel_rfl)) (consOk_cons m_spec_l04Low (callable_of Try.func166 (by kernel_rfl)) (consOk_nil))
theorem loops_spec_l05Div : loopsIn code_spec_l05Div = [] := by kernel_rfl
theorem m_spec_l05Div : Meets Try.prog 140 c_spec_l05Div := meets_of (E := E_spec_l05Div) (code := code_spec_l05Div) mix lay_ok cons_spec_l05Div Try.func140 (by kernel_rfl) sg_spec_l05Div (by kernel_rfl) (fun y => (⟨y.1, y.2.1, y.2.2.1⟩ : Rt)) c_spec_l05Div.out (fun _ => rfl) c_spec_l05Div.run (fun x => by kernel_rfl) (by kernel_rfl) (loops_mem loops_spec_l05Div (trivial))

noncomputable def sg_spec_RatMake : Sig := ⟨[(true, [.d (.bool), .d (.sl .int)]), (true, [.d (.bool), .d (.sl .int)])], [], false, [(true, [.d (.bool), .own 0, .own 1])], [(0, .arr false .int), (1, .arr false .int)]⟩
noncomputable def c_spec_RatMake : Con := ⟨sg_spec_RatMake, Rt, fun x => M_spec_RatMake (⟨x.1, x.2.1⟩ : Bg) (⟨x.2.2.1, x.2.2.2.1⟩ : Bg), fun r => (r.neg, r.mag, r.den, ())⟩
noncomputable def code_spec_RatMake : Code := Try.f230.body.getD .skip
noncomputable def E_spec_RatMake : Env := ⟨lay, [(149, c_spec_BigIntOk), (166, c_spec_l04Low)], [], []⟩
theorem cons_spec_RatMake : ConsOk Try.prog E_spec_RatMake.cons := consOk_cons m_spec_BigIntOk (callable_of Try.func149 (by kernel_rfl)) (consOk_cons m_spec_l04Low (callable_of Try.func166 (by kernel_rfl)) (consOk_nil))
theorem loops_spec_RatMake : loopsIn code_spec_RatMake = [] := by kernel_rfl
theorem m_spec_RatMake : Meets Try.prog 230 c_spec_RatMake := meets_of (E := E_spec_RatMake) (code := code_spec_RatMake) mix lay_ok cons_spec_RatMake Try.func230 (by kernel_rfl) sg_spec_RatMake (by kernel_rfl) (fun y => (⟨y.1, y.2.1, y.2.2.1⟩ : Rt)) c_spec_RatMake.out (fun _ => rfl) c_spec_RatMake.run (fun x => by kernel_rfl) (by kernel_rfl) (loops_mem loops_spec_RatMake (trivial))

noncomputable def sg_spec_RatOf : Sig := ⟨[(false, [.d (.int .i64)]), (false, [.d (.int .i64)])], [], false, [(true, [.d (.bool), .own 0, .own 1])], [(0, .arr false .int), (1, .arr false .int)]⟩
noncomputable def c_spec_RatOf : Con := ⟨sg_spec_RatOf, Rt, fun x => M_spec_RatOf x.1 x.2.1, fun r => (r.neg, r.mag, r.den, ())⟩
noncomputable def code_spec_RatOf : Code := Try.f202.body.getD .skip
noncomputable def E_spec_RatOf : Env := ⟨lay, [(217, c_spec_BigIntOf), (230, c_spec_RatMake)], [], []⟩
theorem cons_spec_RatOf : ConsOk Try.prog E_spec_RatOf.cons := consOk_cons m_spec_BigIntOf (callable_of Try.func217 (by kernel_rfl)) (consOk_cons m_spec_RatMake (callable_of Try.func230 (by kernel_rfl)) (consOk_nil))
theorem loops_spec_RatOf : loopsIn code_spec_RatOf = [] := by kernel_rfl
theorem m_spec_RatOf : Meets Try.prog 202 c_spec_RatOf := meets_of (E := E_spec_RatOf) (code := code_spec_RatOf) mix lay_ok cons_spec_RatOf Try.func202 (by kernel_rfl) sg_spec_RatOf (by kernel_rfl) (fun y => (⟨y.1, y.2.1, y.2.2.1⟩ : Rt)) c_spec_RatOf.out (fun _ => rfl) c_spec_RatOf.run (fun x => by kernel_rfl) (by kernel_rfl) (loops_mem loops_spec_RatOf (trivial))

noncomputable def sg_spec_l09Floor : Sig := ⟨[(true, [.d (.bool), .d (.sl .int), .d (.sl .int)])], [], false, [(true, [.d (.bool), .own 0])], [(0, .arr false .int)]⟩
noncomputable def c_spec_l09Floor : Con := ⟨sg_spec_l09Floor, Bg, fun x => M_spec_l09Floor (⟨x.1, x.2.1, x.2.2.1⟩ : Rt), fun r => (r.neg, r.mag, ())⟩
noncomputable def code_spec_l09Floor : Code := Try.f203.body.getD .skip
noncomputable def E_spec_l09Floor : Env := ⟨lay, [(198, c_spec_l02Div), (200, c_spec_l02Trim_c), (222, c_spec_l02Add), (167, c_spec_l03Make)], [], []⟩
theorem cons_spec_l09Floor : ConsOk Try.prog E_spec_l09Floor.cons := consOk_cons m_spec_l02Div (callable_of Try.func198 (by kernel_rfl)) (consOk_cons m_spec_l02Trim_c (callable_of Try.func200 (by kernel_rfl)) (consOk_cons m_spec_l02Add (callable_of Try.func222 (by kernel_rfl)) (consOk_cons m_spec_l03Make (callable_of Try.func167 (by kernel_rfl)) (consOk_nil))))
theorem loops_spec_l09Floor : loopsIn code_spec_l09Floor = [] := by kernel_rfl
theorem m_spec_l09Floor : Meets Try.prog 203 c_spec_l09Floor := meets_of (E := E_spec_l09Floor) (code := code_spec_l09Floor) mix lay_ok cons_spec_l09Floor Try.func203 (by kernel_rfl) sg_spec_l09Floor (by kernel_rfl) (fun y => (⟨y.1, y.2.1⟩ : Bg)) c_spec_l09Floor.out (fun _ => rfl) c_spec_l09Floor.run (fun x => by kernel_rfl) (by kernel_rfl) (loops_mem loops_spec_l09Floor (trivial))

noncomputable def sg_spec_RoundTo : Sig := ⟨[(true, [.d (.bool), .d (.sl .int), .d (.sl .int)]), (false, [.d (.int .i64)])], [], false, [(true, [.d (.bool), .own 0, .own 1])], [(0, .arr false .int), (1, .arr false .int)]⟩
noncomputable def c_spec_RoundTo : Con := ⟨sg_spec_RoundTo, Rt, fun x => M_spec_RoundTo (⟨x.1, x.2.1, x.2.2.1⟩ : Rt) x.2.2.2.1, fun r => (r.neg, r.mag, r.den, ())⟩
noncomputable def code_spec_RoundTo : Code := Try.f139.body.getD .skip
noncomputable def E_spec_RoundTo : Env := ⟨lay, [(78, c_spec_RatOk), (174, c_spec_l01In), (153, c_spec_RatFromInt), (96, c_spec_l04Mul), (202, c_spec_RatOf), (95, c_spec_l04Add), (135, c_spec_l05Bad), (203, c_spec_l09Floor), (201, c_spec_NatOf), (166, c_spec_l04Low)], [], [(3, [(0, []), (1, []), (2, [1]), (3, [0, 2, 1]), (4, [3, 0, 2, 1]), (5, [3, 4, 0, 2, 1]), (6, []), (7, [6, 5, 0, 1, 2, 3, 4])]), (7, [(0, []), (1, []), (2, []), (3, []), (4, []), (5, [4]), (6, [1, 3, 5, 0, 2, 4]), (7, [6, 0, 1, 2, 3, 4, 5])])]⟩
theorem cons_spec_RoundTo : ConsOk Try.prog E_spec_RoundTo.cons := consOk_cons m_spec_RatOk (callable_of Try.func78 (by kernel_rfl)) (consOk_cons m_spec_l01In (callable_of Try.func174 (by kernel_rfl)) (consOk_cons m_spec_RatFromInt (callable_of Try.func153 (by kernel_rfl)) (consOk_cons m_spec_l04Mul (callable_of Try.func96 (by kernel_rfl)) (consOk_cons m_spec_RatOf (callable_of Try.func202 (by kernel_rfl)) (consOk_cons m_spec_l04Add (callable_of Try.func95 (by kernel_rfl)) (consOk_cons m_spec_l05Bad (callable_of Try.func135 (by kernel_rfl)) (consOk_cons m_spec_l09Floor (callable_of Try.func203 (by kernel_rfl)) (consOk_cons m_spec_NatOf (callable_of Try.func201 (by kernel_rfl)) (consOk_cons m_spec_l04Low (callable_of Try.func166 (by kernel_rfl)) (consOk_nil))))))))))
theorem loops_spec_RoundTo : loopsIn code_spec_RoundTo = [] := by kernel_rfl
theorem m_spec_RoundTo : Meets Try.prog 139 c_spec_RoundTo := meets_of (E := E_spec_RoundTo) (code := code_spec_RoundTo) mix lay_ok cons_spec_RoundTo Try.func139 (by kernel_rfl) sg_spec_RoundTo (by kernel_rfl) (fun y => (⟨y.1, y.2.1, y.2.2.1⟩ : Rt)) c_spec_RoundTo.out (fun _ => rfl) c_spec_RoundTo.run (fun x => by kernel_rfl) (by kernel_rfl) (loops_mem loops_spec_RoundTo (trivial))

noncomputable def sg_spec_HalfTangent : Sig := ⟨[(true, [.d (.bool), .d (.sl .int), .d (.sl .int)]), (true, [.d (.bool), .d (.sl .int), .d (.sl .int)])], [], false, [(true, [.d (.bool), .own 0, .own 1])], [(0, .arr false .int), (1, .arr false .int)]⟩
noncomputable def c_spec_HalfTangent : Con := ⟨sg_spec_HalfTangent, Rt, fun x => M_spec_HalfTangent (⟨x.1, x.2.1, x.2.2.1⟩ : Rt) (⟨x.2.2.2.1, x.2.2.2.2.1, x.2.2.2.2.2.1⟩ : Rt), fun r => (r.neg, r.mag, r.den, ())⟩
noncomputable def code_spec_HalfTangent : Code := Try.f66.body.getD .skip
noncomputable def E_spec_HalfTangent : Env := ⟨lay, [(78, c_spec_RatOk), (96, c_spec_l04Mul), (95, c_spec_l04Add), (137, c_spec_RootBelow), (135, c_spec_l05Bad), (138, c_spec_l05Nil), (98, c_spec_l05Sub), (140, c_spec_l05Div), (139, c_spec_RoundTo)], [], [(3, [(0, []), (1, []), (3, []), (4, []), (2, [0, 1]), (5, [3, 4, 2, 0, 1]), (6, [2, 5, 0, 1, 3, 4]), (7, [6, 2, 5, 0, 1, 3, 4]), (8, []), (9, [8, 7, 0, 1, 2, 3, 4, 5, 6])]), (7, [(0, []), (1, []), (3, []), (2, [0, 1]), (4, [2, 3, 0, 1]), (5, [4, 2, 3, 0, 1]), (6, [5, 0, 1, 2, 3, 4])]), (8, [(0, []), (1, []), (2, []), (3, [1, 2]), (4, [0, 3, 1, 2]), (5, [4, 0, 3, 1, 2]), (6, [5, 0, 1, 2, 3, 4])])]⟩
theorem cons_spec_HalfTangent : ConsOk Try.prog E_spec_HalfTangent.cons := consOk_cons m_spec_RatOk (callable_of Try.func78 (by kernel_rfl)) (consOk_cons m_spec_l04Mul (callable_of Try.func96 (by kernel_rfl)) (consOk_cons m_spec_l04Add (callable_of Try.func95 (by kernel_rfl)) (consOk_cons m_spec_RootBelow (callable_of Try.func137 (by kernel_rfl)) (consOk_cons m_spec_l05Bad (callable_of Try.func135 (by kernel_rfl)) (consOk_cons m_spec_l05Nil (callable_of Try.func138 (by kernel_rfl)) (consOk_cons m_spec_l05Sub (callable_of Try.func98 (by kernel_rfl)) (consOk_cons m_spec_l05Div (callable_of Try.func140 (by kernel_rfl)) (consOk_cons m_spec_RoundTo (callable_of Try.func139 (by kernel_rfl)) (consOk_nil)))))))))
theorem loops_spec_HalfTangent : loopsIn code_spec_HalfTangent = [] := by kernel_rfl
theorem m_spec_HalfTangent : Meets Try.prog 66 c_spec_HalfTangent := meets_of (E := E_spec_HalfTangent) (code := code_spec_HalfTangent) mix lay_ok cons_spec_HalfTangent Try.func66 (by kernel_rfl) sg_spec_HalfTangent (by kernel_rfl) (fun y => (⟨y.1, y.2.1, y.2.2.1⟩ : Rt)) c_spec_HalfTangent.out (fun _ => rfl) c_spec_HalfTangent.run (fun x => by kernel_rfl) (by kernel_rfl) (loops_mem loops_spec_HalfTangent (trivial))

noncomputable def sg_impl_NatOk : Sig := ⟨[(false, [.d (.sl .int)])], [], false, [(false, [.d (.bool)])], []⟩
noncomputable def c_impl_NatOk : Con := ⟨sg_impl_NatOk, Bool, fun x => M_impl_NatOk x.1, fun r => (r, ())⟩
noncomputable def code_impl_NatOk : Code := Try.f155.body.getD .skip
noncomputable def body_impl_NatOk_0 : Code := (loopsIn code_impl_NatOk).getD 0 .skip
noncomputable def D_impl_NatOk_0 : LoopD := ⟨⟨mkSlots [(22, false, [.d (.sl .int)]), (23, false, [.d (.int .i64)]), (24, false, [.d (.int .i64)])] 35 0, []⟩, [], [(.ret, ⟨mkSlots [(2, false, [.d (.bool)])] 35 0, []⟩, []), (.exit 0, ⟨mkSlots [] 35 0, []⟩, [])]⟩
noncomputable def S_impl_NatOk_0_w (x : Tys D_impl_NatOk_0.head.ks) : Option (OutT D_impl_NatOk_0.outs) := @whileO ((List Int) × Int × Int × Unit) ((Bool × Unit) ⊕ (Unit)) S_impl_NatOk_0 x
noncomputable def E_impl_NatOk : Env := ⟨lay, [], [(4, mkLM D_impl_NatOk_0 S_impl_NatOk_0_w)], []⟩
theorem cons_impl_NatOk : ConsOk Try.prog E_impl_NatOk.cons := consOk_nil
theorem S_impl_NatOk_0_ok (x : Tys D_impl_NatOk_0.head.ks) : stepL E_impl_NatOk D_impl_NatOk_0 body_impl_NatOk_0 x = S_impl_NatOk_0 x := by kernel_rfl
theorem loops_impl_NatOk_0 : loopsIn body_impl_NatOk_0 = [] := by kernel_rfl
theorem l_impl_NatOk_0 : LoopOk Try.prog (mkLM D_impl_NatOk_0 S_impl_NatOk_0_w) body_impl_NatOk_0 := loop_ok2 mix lay_ok cons_impl_NatOk (by kernel_rfl) (loops_mem loops_impl_NatOk_0 (trivial)) S_impl_NatOk_0_ok fun _ _ h => h
theorem loops_impl_NatOk : loopsIn code_impl_NatOk = [body_impl_NatOk_0] := by kernel_rfl
theorem m_impl_NatOk : Meets Try.prog 155 c_impl_NatOk := meets_of (E := E_impl_NatOk) (code := code_impl_NatOk) mix lay_ok cons_impl_NatOk Try.func155 (by kernel_rfl) sg_impl_NatOk (by kernel_rfl) (fun y => y.1) c_impl_NatOk.out (fun _ => rfl) c_impl_NatOk.run (fun x => by kernel_rfl) (by kernel_rfl) (loops_mem loops_impl_NatOk (⟨⟨_, by kernel_rfl, l_impl_NatOk_0⟩, trivial⟩))

noncomputable def sg_impl_BigIntOk : Sig := ⟨[(true, [.d (.bool), .d (.sl .int)])], [], false, [(false, [.d (.bool)])], []⟩
noncomputable def c_impl_BigIntOk : Con := ⟨sg_impl_BigIntOk, Bool, fun x => M_impl_BigIntOk (⟨x.1, x.2.1⟩ : Bg), fun r => (r, ())⟩
noncomputable def code_impl_BigIntOk : Code := Try.f154.body.getD .skip
noncomputable def E_impl_BigIntOk : Env := ⟨lay, [(155, c_impl_NatOk)], [], []⟩
theorem cons_impl_BigIntOk : ConsOk Try.prog E_impl_BigIntOk.cons := consOk_cons m_impl_NatOk (callable_of Try.func155 (by kernel_rfl)) (consOk_nil)
theorem loops_impl_BigIntOk : loopsIn code_impl_BigIntOk = [] := by kernel_rfl
theorem m_impl_BigIntOk : Meets Try.prog 154 c_impl_BigIntOk := meets_of (E := E_impl_BigIntOk) (code := code_impl_BigIntOk) mix lay_ok cons_impl_BigIntOk Try.func154 (by kernel_rfl) sg_impl_BigIntOk (by kernel_rfl) (fun y => y.1) c_impl_BigIntOk.out (fun _ => rfl) c_impl_BigIntOk.run (fun x => by kernel_rfl) (by kernel_rfl) (loops_mem loops_impl_BigIntOk (trivial))

noncomputable def sg_impl_natCmp : Sig := ⟨[(false, [.d (.sl .int)]), (false, [.d (.sl .int)])], [], false, [(false, [.d (.int .i64)])], []⟩
noncomputable def c_impl_natCmp : Con := ⟨sg_impl_natCmp, Int, fun x => M_impl_natCmp x.1 x.2.1, fun r => (r, ())⟩
noncomputable def code_impl_natCmp : Code := Try.f220.body.getD .skip
noncomputable def body_impl_natCmp_0 : Code := (loopsIn code_impl_natCmp).getD 0 .skip
noncomputable def D_impl_natCmp_0 : LoopD := ⟨⟨mkSlots [(0, false, [.d (.sl .int)]), (1, false, [.d (.sl .int)]), (5, false, [.d (.int .i64)])] 43 0, []⟩, [], [(.ret, ⟨mkSlots [(4, false, [.d (.int .i64)])] 43 0, []⟩, []), (.exit 0, ⟨mkSlots [] 43 0, []⟩, [])]⟩
noncomputable def S_impl_natCmp_0_w (x : Tys D_impl_natCmp_0.head.ks) : Option (OutT D_impl_natCmp_0.outs) := @whileO ((List Int) × (List Int) × Int × Unit) ((Int × Unit) ⊕ (Unit)) S_impl_natCmp_0 x
noncomputable def E_impl_natCmp : Env := ⟨lay, [], [(6, mkLM D_impl_natCmp_0 S_impl_natCmp_0_w)], [(8, [(0, []), (1, []), (2, []), (3, []), (4, []), (5, []), (6, []), (7, []), (8, []), (9, [8, 3, 7, 2, 6, 0, 1, 4, 5])]), (10, [(0, []), (1, []), (2, []), (3, []), (4, []), (5, []), (6, []), (7, []), (8, []), (9, [8, 3, 7, 2, 6, 0, 1, 4, 5])])]⟩
theorem cons_impl_natCmp : ConsOk Try.prog E_impl_natCmp.cons := consOk_nil
theorem S_impl_natCmp_0_ok (x : Tys D_impl_natCmp_0.head.ks) : stepL E_impl_natCmp D_impl_natCmp_0 body_impl_natCmp_0 x = S_impl_natCmp_0 x := by kernel_rfl
theorem loops_impl_natCmp_0 : loopsIn body_impl_natCmp_0 = [] := by kernel_rfl
theorem l_impl_natCmp_0 : LoopOk Try.prog (mkLM D_impl_natCmp_0 S_impl_natCmp_0_w) body_impl_natCmp_0 := loop_ok2 mix lay_ok cons_impl_natCmp (by kernel_rfl) (loops_mem loops_impl_natCmp_0 (trivial)) S_impl_natCmp_0_ok fun _ _ h => h
theorem loops_impl_natCmp : loopsIn code_impl_natCmp = [body_impl_natCmp_0] := by kernel_rfl
theorem m_impl_natCmp : Meets Try.prog 220 c_impl_natCmp := meets_of (E := E_impl_natCmp) (code := code_impl_natCmp) mix lay_ok cons_impl_natCmp Try.func220 (by kernel_rfl) sg_impl_natCmp (by kernel_rfl) (fun y => y.1) c_impl_natCmp.out (fun _ => rfl) c_impl_natCmp.run (fun x => by kernel_rfl) (by kernel_rfl) (loops_mem loops_impl_natCmp (⟨⟨_, by kernel_rfl, l_impl_natCmp_0⟩, trivial⟩))

noncomputable def sg_impl_copyInts : Sig := ⟨[(false, [.d (.sl .int)])], [], false, [(false, [.own 0])], [(0, .arr false .int)]⟩
noncomputable def c_impl_copyInts : Con := ⟨sg_impl_copyInts, List Int, fun x => M_impl_copyInts x.1, fun r => (r, ())⟩
noncomputable def code_impl_copyInts : Code := Try.f163.body.getD .skip
noncomputable def E_impl_copyInts : Env := ⟨lay, [], [], []⟩
theorem cons_impl_copyInts : ConsOk Try.prog E_impl_copyInts.cons := consOk_nil
theorem loops_impl_copyInts : loopsIn code_impl_copyInts = [] := by kernel_rfl
theorem m_impl_copyInts : Meets Try.prog 163 c_impl_copyInts := meets_of (E := E_impl_copyInts) (code := code_impl_copyInts) mix lay_ok cons_impl_copyInts Try.func163 (by kernel_rfl) sg_impl_copyInts (by kernel_rfl) (fun y => y.1) c_impl_copyInts.out (fun _ => rfl) c_impl_copyInts.run (fun x => by kernel_rfl) (by kernel_rfl) (loops_mem loops_impl_copyInts (trivial))

noncomputable def sg_impl_trim_c : Sig := ⟨[(false, [.own 0])], [(0, .arr false .int)], false, [(false, [.own 0])], [(0, .arr false .int)]⟩
noncomputable def c_impl_trim_c : Con := ⟨sg_impl_trim_c, List Int, fun x => M_impl_trim_c x.1, fun r => (r, ())⟩
noncomputable def code_impl_trim_c : Code := Try.f218.body.getD .skip
noncomputable def body_impl_trim_c_0 : Code := (loopsIn code_impl_trim_c).getD 0 .skip
noncomputable def D_impl_trim_c_0 : LoopD := ⟨⟨mkSlots [(0, false, [.own 1408]), (3, false, [.d (.int .i64)])] 21 0, [(1408, .arr false .int)]⟩, [], [(.exit 0, ⟨mkSlots [(0, false, [.own 1408]), (3, false, [.d (.int .i64)])] 21 0, [(1408, .arr false .int)]⟩, [])]⟩
noncomputable def S_impl_trim_c_0_w (x : Tys D_impl_trim_c_0.head.ks) : Option (OutT D_impl_trim_c_0.outs) := @whileO (Int × (List Int) × Unit) (Int × (List Int) × Unit) S_impl_trim_c_0 x
noncomputable def E_impl_trim_c : Env := ⟨lay, [], [(2, mkLM D_impl_trim_c_0 S_impl_trim_c_0_w)], []⟩
theorem cons_impl_trim_c : ConsOk Try.prog E_impl_trim_c.cons := consOk_nil
theorem S_impl_trim_c_0_ok (x : Tys D_impl_trim_c_0.head.ks) : stepL E_impl_trim_c D_impl_trim_c_0 body_impl_trim_c_0 x = S_impl_trim_c_0 x := by kernel_rfl
theorem loops_impl_trim_c_0 : loopsIn body_impl_trim_c_0 = [] := by kernel_rfl
theorem l_impl_trim_c_0 : LoopOk Try.prog (mkLM D_impl_trim_c_0 S_impl_trim_c_0_w) body_impl_trim_c_0 := loop_ok2 mix lay_ok cons_impl_trim_c (by kernel_rfl) (loops_mem loops_impl_trim_c_0 (trivial)) S_impl_trim_c_0_ok fun _ _ h => h
theorem loops_impl_trim_c : loopsIn code_impl_trim_c = [body_impl_trim_c_0] := by kernel_rfl
theorem m_impl_trim_c : Meets Try.prog 218 c_impl_trim_c := meets_of (E := E_impl_trim_c) (code := code_impl_trim_c) mix lay_ok cons_impl_trim_c Try.func218 (by kernel_rfl) sg_impl_trim_c (by kernel_rfl) (fun y => y.1) c_impl_trim_c.out (fun _ => rfl) c_impl_trim_c.run (fun x => by kernel_rfl) (by kernel_rfl) (loops_mem loops_impl_trim_c (⟨⟨_, by kernel_rfl, l_impl_trim_c_0⟩, trivial⟩))

noncomputable def sg_impl_NatOf : Sig := ⟨[(false, [.d (.int .i64)])], [], false, [(false, [.own 0])], [(0, .arr false .int)]⟩
noncomputable def c_impl_NatOf : Con := ⟨sg_impl_NatOf, List Int, fun x => M_impl_NatOf x.1, fun r => (r, ())⟩
noncomputable def code_impl_NatOf : Code := Try.f207.body.getD .skip
noncomputable def body_impl_NatOf_0 : Code := (loopsIn code_impl_NatOf).getD 0 .skip
noncomputable def D_impl_NatOf_0 : LoopD := ⟨⟨mkSlots [(0, false, [.d (.int .i64)]), (3, false, [.own 960])] 14 0, [(960, .arr false .int)]⟩, [(.slot 3 0, 960, .int)], [(.exit 0, ⟨mkSlots [(3, false, [.own 960])] 14 0, [(960, .arr false .int)]⟩, [(.slot 3 0, 960, .int)])]⟩
noncomputable def S_impl_NatOf_0_w (x : Tys D_impl_NatOf_0.head.ks) : Option (OutT D_impl_NatOf_0.outs) := @whileO (Int × (List Int) × Unit) ((List Int) × Unit) S_impl_NatOf_0 x
noncomputable def E_impl_NatOf : Env := ⟨lay, [], [(2, mkLM D_impl_NatOf_0 S_impl_NatOf_0_w)], []⟩
theorem cons_impl_NatOf : ConsOk Try.prog E_impl_NatOf.cons := consOk_nil
theorem S_impl_NatOf_0_ok (x : Tys D_impl_NatOf_0.head.ks) : stepL E_impl_NatOf D_impl_NatOf_0 body_impl_NatOf_0 x = S_impl_NatOf_0 x := by kernel_rfl
theorem loops_impl_NatOf_0 : loopsIn body_impl_NatOf_0 = [] := by kernel_rfl
theorem l_impl_NatOf_0 : LoopOk Try.prog (mkLM D_impl_NatOf_0 S_impl_NatOf_0_w) body_impl_NatOf_0 := loop_ok2 mix lay_ok cons_impl_NatOf (by kernel_rfl) (loops_mem loops_impl_NatOf_0 (trivial)) S_impl_NatOf_0_ok fun _ _ h => h
theorem loops_impl_NatOf : loopsIn code_impl_NatOf = [body_impl_NatOf_0] := by kernel_rfl
theorem m_impl_NatOf : Meets Try.prog 207 c_impl_NatOf := meets_of (E := E_impl_NatOf) (code := code_impl_NatOf) mix lay_ok cons_impl_NatOf Try.func207 (by kernel_rfl) sg_impl_NatOf (by kernel_rfl) (fun y => y.1) c_impl_NatOf.out (fun _ => rfl) c_impl_NatOf.run (fun x => by kernel_rfl) (by kernel_rfl) (loops_mem loops_impl_NatOf (⟨⟨_, by kernel_rfl, l_impl_NatOf_0⟩, trivial⟩))

noncomputable def sg_impl_divSmall : Sig := ⟨[(false, [.d (.sl .int)]), (false, [.d (.int .i64)])], [], true, [(false, [.own 0]), (false, [.own 1])], [(0, .arr false .int), (1, .arr false .int)]⟩
noncomputable def c_impl_divSmall : Con := ⟨sg_impl_divSmall, List Int × List Int, fun x => M_impl_divSmall x.1 x.2.1, fun r => (r.1, r.2, ())⟩
noncomputable def code_impl_divSmall : Code := Try.f231.body.getD .skip
noncomputable def body_impl_divSmall_0 : Code := (loopsIn code_impl_divSmall).getD 0 .skip
noncomputable def D_impl_divSmall_0 : LoopD := ⟨⟨mkSlots [(0, false, [.d (.sl .int)]), (1, false, [.d (.int .i64)]), (6, false, [.own 2624]), (7, false, [.d (.int .i64)]), (8, false, [.d (.int .i64)])] 40 0, [(2624, .arr false .int)]⟩, [], [(.exit 0, ⟨mkSlots [(6, false, [.own 2624]), (7, false, [.d (.int .i64)])] 40 0, [(2624, .arr false .int)]⟩, [])]⟩
noncomputable def S_impl_divSmall_0_w (x : Tys D_impl_divSmall_0.head.ks) : Option (OutT D_impl_divSmall_0.outs) := @whileO ((List Int) × Int × Int × Int × (List Int) × Unit) (Int × (List Int) × Unit) S_impl_divSmall_0 x
noncomputable def E_impl_divSmall : Env := ⟨lay, [(218, c_impl_trim_c), (207, c_impl_NatOf)], [(4, mkLM D_impl_divSmall_0 S_impl_divSmall_0_w)], []⟩
theorem cons_impl_divSmall : ConsOk Try.prog E_impl_divSmall.cons := consOk_cons m_impl_trim_c (callable_of Try.func218 (by kernel_rfl)) (consOk_cons m_impl_NatOf (callable_of Try.func207 (by kernel_rfl)) (consOk_nil))
theorem S_impl_divSmall_0_ok (x : Tys D_impl_divSmall_0.head.ks) : stepL E_impl_divSmall D_impl_divSmall_0 body_impl_divSmall_0 x = S_impl_divSmall_0 x := by kernel_rfl
theorem loops_impl_divSmall_0 : loopsIn body_impl_divSmall_0 = [] := by kernel_rfl
theorem l_impl_divSmall_0 : LoopOk Try.prog (mkLM D_impl_divSmall_0 S_impl_divSmall_0_w) body_impl_divSmall_0 := loop_ok2 mix lay_ok cons_impl_divSmall (by kernel_rfl) (loops_mem loops_impl_divSmall_0 (trivial)) S_impl_divSmall_0_ok fun _ _ h => h
theorem loops_impl_divSmall : loopsIn code_impl_divSmall = [body_impl_divSmall_0] := by kernel_rfl
theorem m_impl_divSmall : Meets Try.prog 231 c_impl_divSmall := meets_of (E := E_impl_divSmall) (code := code_impl_divSmall) mix lay_ok cons_impl_divSmall Try.func231 (by kernel_rfl) sg_impl_divSmall (by kernel_rfl) (fun y => (y.1, y.2.1)) c_impl_divSmall.out (fun _ => rfl) c_impl_divSmall.run (fun x => by kernel_rfl) (by kernel_rfl) (loops_mem loops_impl_divSmall (⟨⟨_, by kernel_rfl, l_impl_divSmall_0⟩, trivial⟩))

noncomputable def sg_impl_natMul : Sig := ⟨[(false, [.d (.sl .int)]), (false, [.d (.sl .int)])], [], false, [(false, [.own 0])], [(0, .arr false .int)]⟩
noncomputable def c_impl_natMul : Con := ⟨sg_impl_natMul, List Int, fun x => M_impl_natMul x.1 x.2.1, fun r => (r, ())⟩
noncomputable def code_impl_natMul : Code := Try.f160.body.getD .skip
noncomputable def body_impl_natMul_0 : Code := (loopsIn code_impl_natMul).getD 0 .skip
noncomputable def body_impl_natMul_1 : Code := (loopsIn body_impl_natMul_0).getD 0 .skip
noncomputable def D_impl_natMul_0 : LoopD := ⟨⟨mkSlots [(1, false, [.d (.sl .int)]), (5, false, [.own 4352]), (18, false, [.d (.sl .int)]), (19, false, [.d (.int .i64)]), (20, false, [.d (.int .i64)])] 67 0, [(4352, .arr false .int)]⟩, [], [(.exit 0, ⟨mkSlots [(5, false, [.own 4352])] 67 0, [(4352, .arr false .int)]⟩, [])]⟩
noncomputable def D_impl_natMul_1 : LoopD := ⟨⟨mkSlots [(1, false, [.d (.sl .int)]), (5, false, [.own 4352]), (6, false, [.d (.int .i64)]), (7, false, [.d (.int .i64)]), (8, false, [.d (.int .i64)]), (18, false, [.d (.sl .int)]), (19, false, [.d (.int .i64)]), (20, false, [.d (.int .i64)]), (25, false, [.d (.sl .int)]), (26, false, [.d (.int .i64)]), (27, false, [.d (.int .i64)])] 67 0, [(4352, .arr false .int)]⟩, [], [(.exit 2, ⟨mkSlots [(1, false, [.d (.sl .int)]), (5, false, [.own 4352]), (6, false, [.d (.int .i64)]), (8, false, [.d (.int .i64)]), (18, false, [.d (.sl .int)]), (19, false, [.d (.int .i64)]), (20, false, [.d (.int .i64)])] 67 0, [(4352, .arr false .int)]⟩, [])]⟩
noncomputable def S_impl_natMul_0_w (x : Tys D_impl_natMul_0.head.ks) : Option (OutT D_impl_natMul_0.outs) := @whileO ((List Int) × (List Int) × Int × Int × (List Int) × Unit) ((List Int) × Unit) S_impl_natMul_0 x
noncomputable def S_impl_natMul_1_w (x : Tys D_impl_natMul_1.head.ks) : Option (OutT D_impl_natMul_1.outs) := @whileO ((List Int) × Int × Int × Int × (List Int) × Int × Int × (List Int) × Int × Int × (List Int) × Unit) ((List Int) × Int × Int × (List Int) × Int × Int × (List Int) × Unit) S_impl_natMul_1 x
noncomputable def E_impl_natMul : Env := ⟨lay, [(218, c_impl_trim_c)], [(3, mkLM D_impl_natMul_0 S_impl_natMul_0_w), (7, mkLM D_impl_natMul_1 S_impl_natMul_1_w)], []⟩
theorem cons_impl_natMul : ConsOk Try.prog E_impl_natMul.cons := consOk_cons m_impl_trim_c (callable_of Try.func218 (by kernel_rfl)) (consOk_nil)
theorem S_impl_natMul_1_ok (x : Tys D_impl_natMul_1.head.ks) : stepL E_impl_natMul D_impl_natMul_1 body_impl_natMul_1 x = S_impl_natMul_1 x := by kernel_rfl
theorem loops_impl_natMul_1 : loopsIn body_impl_natMul_1 = [] := by kernel_rfl
theorem l_impl_natMul_1 : LoopOk Try.prog (mkLM D_impl_natMul_1 S_impl_natMul_1_w) body_impl_natMul_1 := loop_ok2 mix lay_ok cons_impl_natMul (by kernel_rfl) (loops_mem loops_impl_natMul_1 (trivial)) S_impl_natMul_1_ok fun _ _ h => h
theorem S_impl_natMul_0_ok (x : Tys D_impl_natMul_0.head.ks) : stepL E_impl_natMul D_impl_natMul_0 body_impl_natMul_0 x = S_impl_natMul_0 x := by kernel_rfl
theorem loops_impl_natMul_0 : loopsIn body_impl_natMul_0 = [body_impl_natMul_1] := by kernel_rfl
theorem l_impl_natMul_0 : LoopOk Try.prog (mkLM D_impl_natMul_0 S_impl_natMul_0_w) body_impl_natMul_0 := loop_ok2 mix lay_ok cons_impl_natMul (by kernel_rfl) (loops_mem loops_impl_natMul_0 (⟨⟨_, by kernel_rfl, l_impl_natMul_1⟩, trivial⟩)) S_impl_natMul_0_ok fun _ _ h => h
theorem loops_impl_natMul : loopsIn code_impl_natMul = [body_impl_natMul_0] := by kernel_rfl
theorem m_impl_natMul : Meets Try.prog 160 c_impl_natMul := meets_of (E := E_impl_natMul) (code := code_impl_natMul) mix lay_ok cons_impl_natMul Try.func160 (by kernel_rfl) sg_impl_natMul (by kernel_rfl) (fun y => y.1) c_impl_natMul.out (fun _ => rfl) c_impl_natMul.run (fun x => by kernel_rfl) (by kernel_rfl) (loops_mem loops_impl_natMul (⟨⟨_, by kernel_rfl, l_impl_natMul_0⟩, trivial⟩))

noncomputable def sg_impl_natDiv : Sig := ⟨[(false, [.d (.sl .int)]), (false, [.d (.sl .int)])], [], true, [(false, [.own 0]), (false, [.own 1])], [(0, .arr false .int), (1, .arr false .int)]⟩
noncomputable def c_impl_natDiv : Con := ⟨sg_impl_natDiv, List Int × List Int, fun x => M_impl_natDiv x.1 x.2.1, fun r => (r.1, r.2, ())⟩
noncomputable def code_impl_natDiv : Code := Try.f204.body.getD .skip
noncomputable def body_impl_natDiv_0 : Code := (loopsIn code_impl_natDiv).getD 0 .skip
noncomputable def body_impl_natDiv_1 : Code := (loopsIn code_impl_natDiv).getD 1 .skip
noncomputable def body_impl_natDiv_2 : Code := (loopsIn body_impl_natDiv_1).getD 0 .skip
noncomputable def body_impl_natDiv_3 : Code := (loopsIn body_impl_natDiv_1).getD 1 .skip
noncomputable def body_impl_natDiv_4 : Code := (loopsIn body_impl_natDiv_1).getD 2 .skip
noncomputable def D_impl_natDiv_0 : LoopD := ⟨⟨mkSlots [(0, false, [.d (.sl .int)]), (6, false, [.d (.int .i64)]), (7, false, [.own 15360]), (8, false, [.own 15424]), (9, false, [.d (.int .i64)])] 239 0, [(15360, .arr false .int), (15424, .arr false .int)]⟩, [], [(.exit 0, ⟨mkSlots [(6, false, [.d (.int .i64)]), (7, false, [.own 15360]), (8, false, [.own 15424]), (9, false, [.d (.int .i64)])] 239 0, [(15360, .arr false .int), (15424, .arr false .int)]⟩, [])]⟩
noncomputable def D_impl_natDiv_1 : LoopD := ⟨⟨mkSlots [(6, false, [.d (.int .i64)]), (7, false, [.own 15360]), (8, false, [.own 15424]), (9, false, [.d (.int .i64)]), (10, false, [.own 15488]), (11, false, [.d (.int .i64)]), (12, false, [.d (.int .i64)])] 239 0, [(15360, .arr false .int), (15424, .arr false .int), (15488, .arr false .int)]⟩, [], [(.exit 2, ⟨mkSlots [(6, false, [.d (.int .i64)]), (7, false, [.own 15360]), (10, false, [.own 15488])] 239 0, [(15360, .arr false .int), (15488, .arr false .int)]⟩, [])]⟩
noncomputable def D_impl_natDiv_2 : LoopD := ⟨⟨mkSlots [(6, false, [.d (.int .i64)]), (7, false, [.own 15360]), (8, false, [.own 15424]), (9, false, [.d (.int .i64)]), (10, false, [.own 15488]), (11, false, [.d (.int .i64)]), (12, false, [.d (.int .i64)]), (14, false, [.d (.int .i64)]), (15, false, [.d (.int .i64)])] 239 0, [(15360, .arr false .int), (15424, .arr false .int), (15488, .arr false .int)]⟩, [], [(.exit 4, ⟨mkSlots [(6, false, [.d (.int .i64)]), (7, false, [.own 15360]), (8, false, [.own 15424]), (9, false, [.d (.int .i64)]), (10, false, [.own 15488]), (11, false, [.d (.int .i64)]), (12, false, [.d (.int .i64)]), (14, false, [.d (.int .i64)])] 239 0, [(15360, .arr false .int), (15424, .arr false .int), (15488, .arr false .int)]⟩, [])]⟩
noncomputable def D_impl_natDiv_3 : LoopD := ⟨⟨mkSlots [(6, false, [.d (.int .i64)]), (7, false, [.own 15360]), (8, false, [.own 15424]), (9, false, [.d (.int .i64)]), (10, false, [.own 15488]), (11, false, [.d (.int .i64)]), (12, false, [.d (.int .i64)]), (14, false, [.d (.int .i64)]), (16, false, [.d (.int .i64)]), (135, false, [.d (.int .i64)]), (136, false, [.d (.int .i64)])] 239 0, [(15360, .arr false .int), (15424, .arr false .int), (15488, .arr false .int)]⟩, [], [(.exit 6, ⟨mkSlots [(6, false, [.d (.int .i64)]), (7, false, [.own 15360]), (8, false, [.own 15424]), (9, false, [.d (.int .i64)]), (10, false, [.own 15488]), (11, false, [.d (.int .i64)]), (12, false, [.d (.int .i64)]), (14, false, [.d (.int .i64)]), (16, false, [.d (.int .i64)])] 239 0, [(15360, .arr false .int), (15424, .arr false .int), (15488, .arr false .int)]⟩, [])]⟩
noncomputable def D_impl_natDiv_4 : LoopD := ⟨⟨mkSlots [(6, false, [.d (.int .i64)]), (7, false, [.own 15360]), (8, false, [.own 15424]), (9, false, [.d (.int .i64)]), (10, false, [.own 15488]), (11, false, [.d (.int .i64)]), (12, false, [.d (.int .i64)]), (14, false, [.d (.int .i64)]), (19, false, [.d (.int .i64)]), (188, false, [.d (.int .i64)]), (189, false, [.d (.int .i64)])] 239 0, [(15360, .arr false .int), (15424, .arr false .int), (15488, .arr false .int)]⟩, [], [(.exit 8, ⟨mkSlots [(6, false, [.d (.int .i64)]), (7, false, [.own 15360]), (8, false, [.own 15424]), (9, false, [.d (.int .i64)]), (10, false, [.own 15488]), (11, false, [.d (.int .i64)]), (12, false, [.d (.int .i64)]), (14, false, [.d (.int .i64)]), (19, false, [.d (.int .i64)])] 239 0, [(15360, .arr false .int), (15424, .arr false .int), (15488, .arr false .int)]⟩, [])]⟩
noncomputable def S_impl_natDiv_0_w (x : Tys D_impl_natDiv_0.head.ks) : Option (OutT D_impl_natDiv_0.outs) := @whileO ((List Int) × Int × Int × (List Int) × (List Int) × Unit) (Int × Int × (List Int) × (List Int) × Unit) S_impl_natDiv_0 x
noncomputable def S_impl_natDiv_1_w (x : Tys D_impl_natDiv_1.head.ks) : Option (OutT D_impl_natDiv_1.outs) := @whileO (Int × Int × Int × Int × (List Int) × (List Int) × (List Int) × Unit) (Int × (List Int) × (List Int) × Unit) S_impl_natDiv_1 x
noncomputable def S_impl_natDiv_2_w (x : Tys D_impl_natDiv_2.head.ks) : Option (OutT D_impl_natDiv_2.outs) := @whileO (Int × Int × Int × Int × Int × Int × (List Int) × (List Int) × (List Int) × Unit) (Int × Int × Int × Int × Int × (List Int) × (List Int) × (List Int) × Unit) S_impl_natDiv_2 x
noncomputable def S_impl_natDiv_3_w (x : Tys D_impl_natDiv_3.head.ks) : Option (OutT D_impl_natDiv_3.outs) := @whileO (Int × Int × Int × Int × Int × Int × Int × Int × (List Int) × (List Int) × (List Int) × Unit) (Int × Int × Int × Int × Int × Int × (List Int) × (List Int) × (List Int) × Unit) S_impl_natDiv_3 x
noncomputable def S_impl_natDiv_4_w (x : Tys D_impl_natDiv_4.head.ks) : Option (OutT D_impl_natDiv_4.outs) := @whileO (Int × Int × Int × Int × Int × Int × Int × Int × (List Int) × (List Int) × (List Int) × Unit) (Int × Int × Int × Int × Int × Int × (List Int) × (List Int) × (List Int) × Unit) S_impl_natDiv_4 x
noncomputable def E_impl_natDiv : Env := ⟨lay, [(220, c_impl_natCmp), (163, c_impl_copyInts), (231, c_impl_divSmall), (160, c_impl_natMul), (218, c_impl_trim_c)], [(9, mkLM D_impl_natDiv_0 S_impl_natDiv_0_w), (14, mkLM D_impl_natDiv_1 S_impl_natDiv_1_w), (18, mkLM D_impl_natDiv_2 S_impl_natDiv_2_w), (24, mkLM D_impl_natDiv_3 S_impl_natDiv_3_w), (38, mkLM D_impl_natDiv_4 S_impl_natDiv_4_w)], [(16, [(0, []), (1, []), (2, []), (3, []), (4, []), (5, []), (6, []), (7, []), (8, []), (9, []), (10, []), (11, []), (12, []), (13, []), (14, []), (15, [14, 0, 1, 2, 3, 4, 5, 6, 7, 8, 9, 10, 11, 12, 13])]), (17, [(0, []), (1, []), (2, []), (3, []), (4, []), (5, []), (6, [2, 0, 1]), (7, [5, 6, 0, 1, 2, 3, 4])]), (18, [(0, []), (1, []), (2, []), (3, []), (4, []), (5, []), (6, []), (7, []), (8, []), (9, []), (10, []), (11, []), (12, []), (13, []), (14, []), (15, []), (16, []), (17, []), (18, []), (19, []), (20, []), (21, [])]), (26, [(0, []), (1, []), (2, []), (3, []), (4, []), (5, []), (6, []), (7, []), (8, []), (9, []), (10, []), (11, []), (12, []), (13, []), (14, []), (15, [14, 0, 1, 2, 3, 4, 5, 6, 7, 8, 9, 10, 11, 12, 13])]), (40, [(0, []), (1, []), (2, []), (3, []), (4, []), (5, []), (6, []), (7, []), (8, []), (9, []), (10, []), (11, []), (12, []), (13, [12, 0, 1, 2, 3, 4, 5, 6, 7, 8, 9, 10, 11])])]⟩
theorem cons_impl_natDiv : ConsOk Try.prog E_impl_natDiv.cons := consOk_cons m_impl_natCmp (callable_of Try.func220 (by kernel_rfl)) (consOk_cons m_impl_copyInts (callable_of Try.func163 (by kernel_rfl)) (consOk_cons m_impl_divSmall (callable_of Try.func231 (by kernel_rfl)) (consOk_cons m_impl_natMul (callable_of Try.func160 (by kernel_rfl)) (consOk_cons m_impl_trim_c (callable_of Try.func218 (by kernel_rfl)) (consOk_nil)))))
theorem S_impl_natDiv_4_ok (x : Tys D_impl_natDiv_4.head.ks) : stepL E_impl_natDiv D_impl_natDiv_4 body_impl_natDiv_4 x = S_impl_natDiv_4 x := by kernel_rfl
theorem loops_impl_natDiv_4 : loopsIn body_impl_natDiv_4 = [] := by kernel_rfl
theorem l_impl_natDiv_4 : LoopOk Try.prog (mkLM D_impl_natDiv_4 S_impl_natDiv_4_w) body_impl_natDiv_4 := loop_ok2 mix lay_ok cons_impl_natDiv (by kernel_rfl) (loops_mem loops_impl_natDiv_4 (trivial)) S_impl_natDiv_4_ok fun _ _ h => h
theorem S_impl_natDiv_3_ok (x : Tys D_impl_natDiv_3.head.ks) : stepL E_impl_natDiv D_impl_natDiv_3 body_impl_natDiv_3 x = S_impl_natDiv_3 x := by kernel_rfl
theorem loops_impl_natDiv_3 : loopsIn body_impl_natDiv_3 = [] := by kernel_rfl
theorem l_impl_natDiv_3 : LoopOk Try.prog (mkLM D_impl_natDiv_3 S_impl_natDiv_3_w) body_impl_natDiv_3 := loop_ok2 mix lay_ok cons_impl_natDiv (by kernel_rfl) (loops_mem loops_impl_natDiv_3 (trivial)) S_impl_natDiv_3_ok fun _ _ h => h
theorem S_impl_natDiv_2_ok (x : Tys D_impl_natDiv_2.head.ks) : stepL E_impl_natDiv D_impl_natDiv_2 body_impl_natDiv_2 x = S_impl_natDiv_2 x := by kernel_rfl
theorem loops_impl_natDiv_2 : loopsIn body_impl_natDiv_2 = [] := by kernel_rfl
theorem l_impl_natDiv_2 : LoopOk Try.prog (mkLM D_impl_natDiv_2 S_impl_natDiv_2_w) body_impl_natDiv_2 := loop_ok2 mix lay_ok cons_impl_natDiv (by kernel_rfl) (loops_mem loops_impl_natDiv_2 (trivial)) S_impl_natDiv_2_ok fun _ _ h => h
theorem S_impl_natDiv_1_ok (x : Tys D_impl_natDiv_1.head.ks) : stepL E_impl_natDiv D_impl_natDiv_1 body_impl_natDiv_1 x = S_impl_natDiv_1 x := by kernel_rfl
theorem loops_impl_natDiv_1 : loopsIn body_impl_natDiv_1 = [body_impl_natDiv_2, body_impl_natDiv_3, body_impl_natDiv_4] := by kernel_rfl
theorem l_impl_natDiv_1 : LoopOk Try.prog (mkLM D_impl_natDiv_1 S_impl_natDiv_1_w) body_impl_natDiv_1 := loop_ok2 mix lay_ok cons_impl_natDiv (by kernel_rfl) (loops_mem loops_impl_natDiv_1 (⟨⟨_, by kernel_rfl, l_impl_natDiv_2⟩, ⟨⟨_, by kernel_rfl, l_impl_natDiv_3⟩, ⟨⟨_, by kernel_rfl, l_impl_natDiv_4⟩, trivial⟩⟩⟩)) S_impl_natDiv_1_ok fun _ _ h => h
theorem S_impl_natDiv_0_ok (x : Tys D_impl_natDiv_0.head.ks) : stepL E_impl_natDiv D_impl_natDiv_0 body_impl_natDiv_0 x = S_impl_natDiv_0 x := by kernel_rfl
theorem loops_impl_natDiv_0 : loopsIn body_impl_natDiv_0 = [] := by kernel_rfl
theorem l_impl_natDiv_0 : LoopOk Try.prog (mkLM D_impl_natDiv_0 S_impl_natDiv_0_w) body_impl_natDiv_0 := loop_ok2 mix lay_ok cons_impl_natDiv (by kernel_rfl) (loops_mem loops_impl_natDiv_0 (trivial)) S_impl_natDiv_0_ok fun _ _ h => h
theorem loops_impl_natDiv : loopsIn code_impl_natDiv = [body_impl_natDiv_0, body_impl_natDiv_1] := by kernel_rfl
theorem m_impl_natDiv : Meets Try.prog 204 c_impl_natDiv := meets_of (E := E_impl_natDiv) (code := code_impl_natDiv) mix lay_ok cons_impl_natDiv Try.func204 (by kernel_rfl) sg_impl_natDiv (by kernel_rfl) (fun y => (y.1, y.2.1)) c_impl_natDiv.out (fun _ => rfl) c_impl_natDiv.run (fun x => by kernel_rfl) (by kernel_rfl) (loops_mem loops_impl_natDiv (⟨⟨_, by kernel_rfl, l_impl_natDiv_0⟩, ⟨⟨_, by kernel_rfl, l_impl_natDiv_1⟩, trivial⟩⟩))

noncomputable def sg_impl_natGcd : Sig := ⟨[(false, [.d (.sl .int)]), (false, [.d (.sl .int)])], [], false, [(false, [.own 0])], [(0, .arr false .int)]⟩
noncomputable def c_impl_natGcd : Con := ⟨sg_impl_natGcd, List Int, fun x => M_impl_natGcd x.1 x.2.1, fun r => (r, ())⟩
noncomputable def code_impl_natGcd : Code := Try.f157.body.getD .skip
noncomputable def body_impl_natGcd_0 : Code := (loopsIn code_impl_natGcd).getD 0 .skip
noncomputable def body_impl_natGcd_1 : Code := (loopsIn code_impl_natGcd).getD 1 .skip
noncomputable def D_impl_natGcd_0 : LoopD := ⟨⟨mkSlots [(0, false, [.d (.sl .int)]), (1, false, [.d (.sl .int)])] 49 0, []⟩, [], [(.exit 0, ⟨mkSlots [(0, false, [.d (.sl .int)]), (1, false, [.d (.sl .int)])] 49 0, []⟩, [])]⟩
noncomputable def D_impl_natGcd_1 : LoopD := ⟨⟨mkSlots [(7, false, [.d (.int .i64)]), (8, false, [.d (.int .i64)])] 49 0, []⟩, [], [(.exit 2, ⟨mkSlots [(7, false, [.d (.int .i64)])] 49 0, []⟩, [])]⟩
noncomputable def S_impl_natGcd_0_w (x : Tys D_impl_natGcd_0.head.ks) : Option (OutT D_impl_natGcd_0.outs) := @whileO ((List Int) × (List Int) × Unit) ((List Int) × (List Int) × Unit) S_impl_natGcd_0 x
noncomputable def S_impl_natGcd_1_w (x : Tys D_impl_natGcd_1.head.ks) : Option (OutT D_impl_natGcd_1.outs) := @whileO (Int × Int × Unit) (Int × Unit) S_impl_natGcd_1 x
noncomputable def E_impl_natGcd : Env := ⟨lay, [(204, c_impl_natDiv), (163, c_impl_copyInts)], [(1, mkLM D_impl_natGcd_0 S_impl_natGcd_0_w), (7, mkLM D_impl_natGcd_1 S_impl_natGcd_1_w)], [(6, [(0, []), (1, []), (2, []), (3, []), (4, []), (5, []), (6, [2, 0, 1]), (7, [5, 6, 0, 1, 2, 3, 4])]), (8, [(0, []), (1, []), (2, []), (3, []), (4, [0, 1]), (5, [3, 4, 0, 1, 2])])]⟩
theorem cons_impl_natGcd : ConsOk Try.prog E_impl_natGcd.cons := consOk_cons m_impl_natDiv (callable_of Try.func204 (by kernel_rfl)) (consOk_cons m_impl_copyInts (callable_of Try.func163 (by kernel_rfl)) (consOk_nil))
theorem S_impl_natGcd_1_ok (x : Tys D_impl_natGcd_1.head.ks) : stepL E_impl_natGcd D_impl_natGcd_1 body_impl_natGcd_1 x = S_impl_natGcd_1 x := by kernel_rfl
theorem loops_impl_natGcd_1 : loopsIn body_impl_natGcd_1 = [] := by kernel_rfl
theorem l_impl_natGcd_1 : LoopOk Try.prog (mkLM D_impl_natGcd_1 S_impl_natGcd_1_w) body_impl_natGcd_1 := loop_ok2 mix lay_ok cons_impl_natGcd (by kernel_rfl) (loops_mem loops_impl_natGcd_1 (trivial)) S_impl_natGcd_1_ok fun _ _ h => h
theorem S_impl_natGcd_0_ok (x : Tys D_impl_natGcd_0.head.ks) : stepL E_impl_natGcd D_impl_natGcd_0 body_impl_natGcd_0 x = S_impl_natGcd_0 x := by kernel_rfl
theorem loops_impl_natGcd_0 : loopsIn body_impl_natGcd_0 = [] := by kernel_rfl
theorem l_impl_natGcd_0 : LoopOk Try.prog (mkLM D_impl_natGcd_0 S_impl_natGcd_0_w) body_impl_natGcd_0 := loop_ok2 mix lay_ok cons_impl_natGcd (by kernel_rfl) (loops_mem loops_impl_natGcd_0 (trivial)) S_impl_natGcd_0_ok fun _ _ h => h
theorem loops_impl_natGcd : loopsIn code_impl_natGcd = [body_impl_natGcd_0, body_impl_natGcd_1] := by kernel_rfl
theorem m_impl_natGcd : Meets Try.prog 157 c_impl_natGcd := meets_of (E := E_impl_natGcd) (code := code_impl_natGcd) mix lay_ok cons_impl_natGcd Try.func157 (by kernel_rfl) sg_impl_natGcd (by kernel_rfl) (fun y => y.1) c_impl_natGcd.out (fun _ => rfl) c_impl_natGcd.run (fun x => by kernel_rfl) (by kernel_rfl) (loops_mem loops_impl_natGcd (⟨⟨_, by kernel_rfl, l_impl_natGcd_0⟩, ⟨⟨_, by kernel_rfl, l_impl_natGcd_1⟩, trivial⟩⟩))

noncomputable def sg_impl_isOne : Sig := ⟨[(false, [.d (.sl .int)])], [], false, [(false, [.d (.bool)])], []⟩
noncomputable def c_impl_isOne : Con := ⟨sg_impl_isOne, Bool, fun x => M_impl_isOne x.1, fun r => (r, ())⟩
noncomputable def code_impl_isOne : Code := Try.f156.body.getD .skip
noncomputable def E_impl_isOne : Env := ⟨lay, [], [], []⟩
theorem cons_impl_isOne : ConsOk Try.prog E_impl_isOne.cons := consOk_nil
theorem loops_impl_isOne : loopsIn code_impl_isOne = [] := by kernel_rfl
theorem m_impl_isOne : Meets Try.prog 156 c_impl_isOne := meets_of (E := E_impl_isOne) (code := code_impl_isOne) mix lay_ok cons_impl_isOne Try.func156 (by kernel_rfl) sg_impl_isOne (by kernel_rfl) (fun y => y.1) c_impl_isOne.out (fun _ => rfl) c_impl_isOne.run (fun x => by kernel_rfl) (by kernel_rfl) (loops_mem loops_impl_isOne (trivial))

noncomputable def sg_impl_RatOk : Sig := ⟨[(true, [.d (.bool), .d (.sl .int), .d (.sl .int)])], [], false, [(false, [.d (.bool)])], []⟩
noncomputable def c_impl_RatOk : Con := ⟨sg_impl_RatOk, Bool, fun x => M_impl_RatOk (⟨x.1, x.2.1, x.2.2.1⟩ : Rt), fun r => (r, ())⟩
noncomputable def code_impl_RatOk : Code := Try.f82.body.getD .skip
noncomputable def E_impl_RatOk : Env := ⟨lay, [(154, c_impl_BigIntOk), (155, c_impl_NatOk), (157, c_impl_natGcd), (156, c_impl_isOne)], [], []⟩
theorem cons_impl_RatOk : ConsOk Try.prog E_impl_RatOk.cons := consOk_cons m_impl_BigIntOk (callable_of Try.func154 (by kernel_rfl)) (consOk_cons m_impl_NatOk (callable_of Try.func155 (by kernel_rfl)) (consOk_cons m_impl_natGcd (callable_of Try.func157 (by kernel_rfl)) (consOk_cons m_impl_isOne (callable_of Try.func156 (by kernel_rfl)) (consOk_nil))))
theorem loops_impl_RatOk : loopsIn code_impl_RatOk = [] := by kernel_rfl
theorem m_impl_RatOk : Meets Try.prog 82 c_impl_RatOk := meets_of (E := E_impl_RatOk) (code := code_impl_RatOk) mix lay_ok cons_impl_RatOk Try.func82 (by kernel_rfl) sg_impl_RatOk (by kernel_rfl) (fun y => y.1) c_impl_RatOk.out (fun _ => rfl) c_impl_RatOk.run (fun x => by kernel_rfl) (by kernel_rfl) (loops_mem loops_impl_RatOk (trivial))

noncomputable def sg_impl_both : Sig := ⟨[(true, [.d (.bool), .d (.sl .int), .d (.sl .int)]), (true, [.d (.bool), .d (.sl .int), .d (.sl .int)])], [], false, [(false, [.d (.bool)])], []⟩
noncomputable def c_impl_both : Con := ⟨sg_impl_both, Bool, fun x => M_impl_both (⟨x.1, x.2.1, x.2.2.1⟩ : Rt) (⟨x.2.2.2.1, x.2.2.2.2.1, x.2.2.2.2.2.1⟩ : Rt), fun r => (r, ())⟩
noncomputable def code_impl_both : Code := Try.f97.body.getD .skip
noncomputable def E_impl_both : Env := ⟨lay, [(82, c_impl_RatOk)], [], []⟩
theorem cons_impl_both : ConsOk Try.prog E_impl_both.cons := consOk_cons m_impl_RatOk (callable_of Try.func82 (by kernel_rfl)) (consOk_nil)
theorem loops_impl_both : loopsIn code_impl_both = [] := by kernel_rfl
theorem m_impl_both : Meets Try.prog 97 c_impl_both := meets_of (E := E_impl_both) (code := code_impl_both) mix lay_ok cons_impl_both Try.func97 (by kernel_rfl) sg_impl_both (by kernel_rfl) (fun y => y.1) c_impl_both.out (fun _ => rfl) c_impl_both.run (fun x => by kernel_rfl) (by kernel_rfl) (loops_mem loops_impl_both (trivial))

noncomputable def sg_impl_isZero : Sig := ⟨[(true, [.d (.bool), .d (.sl .int), .d (.sl .int)])], [], false, [(false, [.d (.bool)])], []⟩
noncomputable def c_impl_isZero : Con := ⟨sg_impl_isZero, Bool, fun x => M_impl_isZero (⟨x.1, x.2.1, x.2.2.1⟩ : Rt), fun r => (r, ())⟩
noncomputable def code_impl_isZero : Code := Try.f127.body.getD .skip
noncomputable def E_impl_isZero : Env := ⟨lay, [], [], []⟩
theorem cons_impl_isZero : ConsOk Try.prog E_impl_isZero.cons := consOk_nil
theorem loops_impl_isZero : loopsIn code_impl_isZero = [] := by kernel_rfl
theorem m_impl_isZero : Meets Try.prog 127 c_impl_isZero := meets_of (E := E_impl_isZero) (code := code_impl_isZero) mix lay_ok cons_impl_isZero Try.func127 (by kernel_rfl) sg_impl_isZero (by kernel_rfl) (fun y => y.1) c_impl_isZero.out (fun _ => rfl) c_impl_isZero.run (fun x => by kernel_rfl) (by kernel_rfl) (loops_mem loops_impl_isZero (trivial))

noncomputable def sg_impl_void : Sig := ⟨[(true, [.d (.bool), .d (.sl .int), .d (.sl .int)])], [], false, [(false, [.d (.bool)])], []⟩
noncomputable def c_impl_void : Con := ⟨sg_impl_void, Bool, fun x => M_impl_void (⟨x.1, x.2.1, x.2.2.1⟩ : Rt), fun r => (r, ())⟩
noncomputable def code_impl_void : Code := Try.f88.body.getD .skip
noncomputable def E_impl_void : Env := ⟨lay, [], [], []⟩
theorem cons_impl_void : ConsOk Try.prog E_impl_void.cons := consOk_nil
theorem loops_impl_void : loopsIn code_impl_void = [] := by kernel_rfl
theorem m_impl_void : Meets Try.prog 88 c_impl_void := meets_of (E := E_impl_void) (code := code_impl_void) mix lay_ok cons_impl_void Try.func88 (by kernel_rfl) sg_impl_void (by kernel_rfl) (fun y => y.1) c_impl_void.out (fun _ => rfl) c_impl_void.run (fun x => by kernel_rfl) (by kernel_rfl) (loops_mem loops_impl_void (trivial))

noncomputable def sg_impl_signed_dc : Sig := ⟨[(false, [.d (.bool)]), (false, [.own 64])], [(64, .arr false .int)], false, [(true, [.d (.bool), .own 0])], [(0, .arr false .int)]⟩
noncomputable def c_impl_signed_dc : Con := ⟨sg_impl_signed_dc, Bg, fun x => M_impl_signed_dc x.1 x.2.1, fun r => (r.neg, r.mag, ())⟩
noncomputable def code_impl_signed_dc : Code := Try.f205.body.getD .skip
noncomputable def E_impl_signed_dc : Env := ⟨lay, [], [], []⟩
theorem cons_impl_signed_dc : ConsOk Try.prog E_impl_signed_dc.cons := consOk_nil
theorem loops_impl_signed_dc : loopsIn code_impl_signed_dc = [] := by kernel_rfl
theorem m_impl_signed_dc : Meets Try.prog 205 c_impl_signed_dc := meets_of (E := E_impl_signed_dc) (code := code_impl_signed_dc) mix lay_ok cons_impl_signed_dc Try.func205 (by kernel_rfl) sg_impl_signed_dc (by kernel_rfl) (fun y => (⟨y.1, y.2.1⟩ : Bg)) c_impl_signed_dc.out (fun _ => rfl) c_impl_signed_dc.run (fun x => by kernel_rfl) (by kernel_rfl) (loops_mem loops_impl_signed_dc (trivial))

noncomputable def sg_impl_bigMul : Sig := ⟨[(true, [.d (.bool), .d (.sl .int)]), (true, [.d (.bool), .d (.sl .int)])], [], false, [(true, [.d (.bool), .own 0])], [(0, .arr false .int)]⟩
noncomputable def c_impl_bigMul : Con := ⟨sg_impl_bigMul, Bg, fun x => M_impl_bigMul (⟨x.1, x.2.1⟩ : Bg) (⟨x.2.2.1, x.2.2.2.1⟩ : Bg), fun r => (r.neg, r.mag, ())⟩
noncomputable def code_impl_bigMul : Code := Try.f159.body.getD .skip
noncomputable def E_impl_bigMul : Env := ⟨lay, [(160, c_impl_natMul), (205, c_impl_signed_dc)], [], [(1, [(0, []), (1, []), (2, []), (3, []), (4, []), (5, []), (6, []), (7, []), (8, []), (9, [6, 8, 5, 7]), (10, [4, 9, 1, 3, 6, 8, 0, 2, 5, 7]), (11, [10, 0, 1, 2, 3, 4, 5, 6, 7, 8, 9])])]⟩
theorem cons_impl_bigMul : ConsOk Try.prog E_impl_bigMul.cons := consOk_cons m_impl_natMul (callable_of Try.func160 (by kernel_rfl)) (consOk_cons m_impl_signed_dc (callable_of Try.func205 (by kernel_rfl)) (consOk_nil))
theorem loops_impl_bigMul : loopsIn code_impl_bigMul = [] := by kernel_rfl
theorem m_impl_bigMul : Meets Try.prog 159 c_impl_bigMul := meets_of (E := E_impl_bigMul) (code := code_impl_bigMul) mix lay_ok cons_impl_bigMul Try.func159 (by kernel_rfl) sg_impl_bigMul (by kernel_rfl) (fun y => (⟨y.1, y.2.1⟩ : Bg)) c_impl_bigMul.out (fun _ => rfl) c_impl_bigMul.run (fun x => by kernel_rfl) (by kernel_rfl) (loops_mem loops_impl_bigMul (trivial))

noncomputable def sg_impl_lowest_cc : Sig := ⟨[(true, [.d (.bool), .own 1]), (false, [.own 64])], [(1, .arr false .int), (64, .arr false .int)], false, [(true, [.d (.bool), .own 0, .own 1])], [(0, .arr false .int), (1, .arr false .int)]⟩
noncomputable def c_impl_lowest_cc : Con := ⟨sg_impl_lowest_cc, Rt, fun x => M_impl_lowest_cc (⟨x.1, x.2.1⟩ : Bg) x.2.2.1, fun r => (r.neg, r.mag, r.den, ())⟩
noncomputable def code_impl_lowest_cc : Code := Try.f158.body.getD .skip
noncomputable def E_impl_lowest_cc : Env := ⟨lay, [(157, c_impl_natGcd), (156, c_impl_isOne), (204, c_impl_natDiv), (205, c_impl_signed_dc)], [], []⟩
theorem cons_impl_lowest_cc : ConsOk Try.prog E_impl_lowest_cc.cons := consOk_cons m_impl_natGcd (callable_of Try.func157 (by kernel_rfl)) (consOk_cons m_impl_isOne (callable_of Try.func156 (by kernel_rfl)) (consOk_cons m_impl_natDiv (callable_of Try.func204 (by kernel_rfl)) (consOk_cons m_impl_signed_dc (callable_of Try.func205 (by kernel_rfl)) (consOk_nil))))
theorem loops_impl_lowest_cc : loopsIn code_impl_lowest_cc = [] := by kernel_rfl
theorem m_impl_lowest_cc : Meets Try.prog 158 c_impl_lowest_cc := meets_of (E := E_impl_lowest_cc) (code := code_impl_lowest_cc) mix lay_ok cons_impl_lowest_cc Try.func158 (by kernel_rfl) sg_impl_lowest_cc (by kernel_rfl) (fun y => (⟨y.1, y.2.1, y.2.2.1⟩ : Rt)) c_impl_lowest_cc.out (fun _ => rfl) c_impl_lowest_cc.run (fun x => by kernel_rfl) (by kernel_rfl) (loops_mem loops_impl_lowest_cc (trivial))

noncomputable def sg_impl_mul : Sig := ⟨[(true, [.d (.bool), .d (.sl .int), .d (.sl .int)]), (true, [.d (.bool), .d (.sl .int), .d (.sl .int)])], [], false, [(true, [.d (.bool), .own 0, .own 1])], [(0, .arr false .int), (1, .arr false .int)]⟩
noncomputable def c_impl_mul : Con := ⟨sg_impl_mul, Rt, fun x => M_impl_mul (⟨x.1, x.2.1, x.2.2.1⟩ : Rt) (⟨x.2.2.2.1, x.2.2.2.2.1, x.2.2.2.2.2.1⟩ : Rt), fun r => (r.neg, r.mag, r.den, ())⟩
noncomputable def code_impl_mul : Code := Try.f83.body.getD .skip
noncomputable def E_impl_mul : Env := ⟨lay, [(88, c_impl_void), (159, c_impl_bigMul), (160, c_impl_natMul), (158, c_impl_lowest_cc)], [], [(3, [(0, []), (1, []), (2, []), (3, []), (5, []), (6, []), (7, []), (8, []), (4, [1, 3, 0, 2]), (9, [6, 8, 4, 5, 7, 1, 3, 0, 2]), (10, [4, 9, 1, 3, 6, 8, 0, 2, 5, 7]), (11, [10, 0, 1, 2, 3, 4, 5, 6, 7, 8, 9])])]⟩
theorem cons_impl_mul : ConsOk Try.prog E_impl_mul.cons := consOk_cons m_impl_void (callable_of Try.func88 (by kernel_rfl)) (consOk_cons m_impl_bigMul (callable_of Try.func159 (by kernel_rfl)) (consOk_cons m_impl_natMul (callable_of Try.func160 (by kernel_rfl)) (consOk_cons m_impl_lowest_cc (callable_of Try.func158 (by kernel_rfl)) (consOk_nil))))
theorem loops_impl_mul : loopsIn code_impl_mul = [] := by kernel_rfl
theorem m_impl_mul : Meets Try.prog 83 c_impl_mul := meets_of (E := E_impl_mul) (code := code_impl_mul) mix lay_ok cons_impl_mul Try.func83 (by kernel_rfl) sg_impl_mul (by kernel_rfl) (fun y => (⟨y.1, y.2.1, y.2.2.1⟩ : Rt)) c_impl_mul.out (fun _ => rfl) c_impl_mul.run (fun x => by kernel_rfl) (by kernel_rfl) (loops_mem loops_impl_mul (trivial))

noncomputable def sg_impl_sameInts : Sig := ⟨[(false, [.d (.sl .int)]), (false, [.d (.sl .int)])], [], false, [(false, [.d (.bool)])], []⟩
noncomputable def c_impl_sameInts : Con := ⟨sg_impl_sameInts, Bool, fun x => M_impl_sameInts x.1 x.2.1, fun r => (r, ())⟩
noncomputable def code_impl_sameInts : Code := Try.f161.body.getD .skip
noncomputable def body_impl_sameInts_0 : Code := (loopsIn code_impl_sameInts).getD 0 .skip
noncomputable def D_impl_sameInts_0 : LoopD := ⟨⟨mkSlots [(0, false, [.d (.sl .int)]), (1, false, [.d (.sl .int)]), (12, false, [.d (.int .i64)]), (13, false, [.d (.int .i64)])] 26 0, []⟩, [], [(.ret, ⟨mkSlots [(4, false, [.d (.bool)])] 26 0, []⟩, []), (.exit 0, ⟨mkSlots [] 26 0, []⟩, [])]⟩
noncomputable def S_impl_sameInts_0_w (x : Tys D_impl_sameInts_0.head.ks) : Option (OutT D_impl_sameInts_0.outs) := @whileO ((List Int) × (List Int) × Int × Int × Unit) ((Bool × Unit) ⊕ (Unit)) S_impl_sameInts_0 x
noncomputable def E_impl_sameInts : Env := ⟨lay, [], [(4, mkLM D_impl_sameInts_0 S_impl_sameInts_0_w)], [(6, [(0, []), (1, []), (2, []), (3, []), (4, []), (5, []), (6, []), (7, []), (8, [])])]⟩
theorem cons_impl_sameInts : ConsOk Try.prog E_impl_sameInts.cons := consOk_nil
theorem S_impl_sameInts_0_ok (x : Tys D_impl_sameInts_0.head.ks) : stepL E_impl_sameInts D_impl_sameInts_0 body_impl_sameInts_0 x = S_impl_sameInts_0 x := by kernel_rfl
theorem loops_impl_sameInts_0 : loopsIn body_impl_sameInts_0 = [] := by kernel_rfl
theorem l_impl_sameInts_0 : LoopOk Try.prog (mkLM D_impl_sameInts_0 S_impl_sameInts_0_w) body_impl_sameInts_0 := loop_ok2 mix lay_ok cons_impl_sameInts (by kernel_rfl) (loops_mem loops_impl_sameInts_0 (trivial)) S_impl_sameInts_0_ok fun _ _ h => h
theorem loops_impl_sameInts : loopsIn code_impl_sameInts = [body_impl_sameInts_0] := by kernel_rfl
theorem m_impl_sameInts : Meets Try.prog 161 c_impl_sameInts := meets_of (E := E_impl_sameInts) (code := code_impl_sameInts) mix lay_ok cons_impl_sameInts Try.func161 (by kernel_rfl) sg_impl_sameInts (by kernel_rfl) (fun y => y.1) c_impl_sameInts.out (fun _ => rfl) c_impl_sameInts.run (fun x => by kernel_rfl) (by kernel_rfl) (loops_mem loops_impl_sameInts (⟨⟨_, by kernel_rfl, l_impl_sameInts_0⟩, trivial⟩))

noncomputable def sg_impl_natAdd : Sig := ⟨[(false, [.d (.sl .int)]), (false, [.d (.sl .int)])], [], false, [(false, [.own 0])], [(0, .arr false .int)]⟩
noncomputable def c_impl_natAdd : Con := ⟨sg_impl_natAdd, List Int, fun x => M_impl_natAdd x.1 x.2.1, fun r => (r, ())⟩
noncomputable def code_impl_natAdd : Code := Try.f219.body.getD .skip
noncomputable def body_impl_natAdd_0 : Code := (loopsIn code_impl_natAdd).getD 0 .skip
noncomputable def D_impl_natAdd_0 : LoopD := ⟨⟨mkSlots [(0, false, [.d (.sl .int)]), (1, false, [.d (.sl .int)]), (5, false, [.own 3648]), (6, false, [.d (.int .i64)]), (21, false, [.d (.int .i64)]), (22, false, [.d (.int .i64)])] 56 0, [(3648, .arr false .int)]⟩, [], [(.exit 0, ⟨mkSlots [(5, false, [.own 3648]), (6, false, [.d (.int .i64)])] 56 0, [(3648, .arr false .int)]⟩, [])]⟩
noncomputable def S_impl_natAdd_0_w (x : Tys D_impl_natAdd_0.head.ks) : Option (OutT D_impl_natAdd_0.outs) := @whileO ((List Int) × (List Int) × Int × Int × Int × (List Int) × Unit) (Int × (List Int) × Unit) S_impl_natAdd_0 x
noncomputable def E_impl_natAdd : Env := ⟨lay, [], [(6, mkLM D_impl_natAdd_0 S_impl_natAdd_0_w)], []⟩
theorem cons_impl_natAdd : ConsOk Try.prog E_impl_natAdd.cons := consOk_nil
theorem S_impl_natAdd_0_ok (x : Tys D_impl_natAdd_0.head.ks) : stepL E_impl_natAdd D_impl_natAdd_0 body_impl_natAdd_0 x = S_impl_natAdd_0 x := by kernel_rfl
theorem loops_impl_natAdd_0 : loopsIn body_impl_natAdd_0 = [] := by kernel_rfl
theorem l_impl_natAdd_0 : LoopOk Try.prog (mkLM D_impl_natAdd_0 S_impl_natAdd_0_w) body_impl_natAdd_0 := loop_ok2 mix lay_ok cons_impl_natAdd (by kernel_rfl) (loops_mem loops_impl_natAdd_0 (trivial)) S_impl_natAdd_0_ok fun _ _ h => h
theorem loops_impl_natAdd : loopsIn code_impl_natAdd = [body_impl_natAdd_0] := by kernel_rfl
theorem m_impl_natAdd : Meets Try.prog 219 c_impl_natAdd := meets_of (E := E_impl_natAdd) (code := code_impl_natAdd) mix lay_ok cons_impl_natAdd Try.func219 (by kernel_rfl) sg_impl_natAdd (by kernel_rfl) (fun y => y.1) c_impl_natAdd.out (fun _ => rfl) c_impl_natAdd.run (fun x => by kernel_rfl) (by kernel_rfl) (loops_mem loops_impl_natAdd (⟨⟨_, by kernel_rfl, l_impl_natAdd_0⟩, trivial⟩))

noncomputable def sg_impl_natSub : Sig := ⟨[(false, [.d (.sl .int)]), (false, [.d (.sl .int)])], [], false, [(false, [.own 0])], [(0, .arr false .int)]⟩
noncomputable def c_impl_natSub : Con := ⟨sg_impl_natSub, List Int, fun x => M_impl_natSub x.1 x.2.1, fun r => (r, ())⟩
noncomputable def code_impl_natSub : Code := Try.f221.body.getD .skip
noncomputable def body_impl_natSub_0 : Code := (loopsIn code_impl_natSub).getD 0 .skip
noncomputable def D_impl_natSub_0 : LoopD := ⟨⟨mkSlots [(1, false, [.d (.sl .int)]), (5, false, [.own 2816]), (6, false, [.d (.int .i64)]), (12, false, [.d (.int .i64)]), (13, false, [.d (.int .i64)])] 43 0, [(2816, .arr false .int)]⟩, [], [(.exit 0, ⟨mkSlots [(5, false, [.own 2816])] 43 0, [(2816, .arr false .int)]⟩, [])]⟩
noncomputable def S_impl_natSub_0_w (x : Tys D_impl_natSub_0.head.ks) : Option (OutT D_impl_natSub_0.outs) := @whileO ((List Int) × Int × Int × Int × (List Int) × Unit) ((List Int) × Unit) S_impl_natSub_0 x
noncomputable def E_impl_natSub : Env := ⟨lay, [(163, c_impl_copyInts), (218, c_impl_trim_c)], [(4, mkLM D_impl_natSub_0 S_impl_natSub_0_w)], []⟩
theorem cons_impl_natSub : ConsOk Try.prog E_impl_natSub.cons := consOk_cons m_impl_copyInts (callable_of Try.func163 (by kernel_rfl)) (consOk_cons m_impl_trim_c (callable_of Try.func218 (by kernel_rfl)) (consOk_nil))
theorem S_impl_natSub_0_ok (x : Tys D_impl_natSub_0.head.ks) : stepL E_impl_natSub D_impl_natSub_0 body_impl_natSub_0 x = S_impl_natSub_0 x := by kernel_rfl
theorem loops_impl_natSub_0 : loopsIn body_impl_natSub_0 = [] := by kernel_rfl
theorem l_impl_natSub_0 : LoopOk Try.prog (mkLM D_impl_natSub_0 S_impl_natSub_0_w) body_impl_natSub_0 := loop_ok2 mix lay_ok cons_impl_natSub (by kernel_rfl) (loops_mem loops_impl_natSub_0 (trivial)) S_impl_natSub_0_ok fun _ _ h => h
theorem loops_impl_natSub : loopsIn code_impl_natSub = [body_impl_natSub_0] := by kernel_rfl
theorem m_impl_natSub : Meets Try.prog 221 c_impl_natSub := meets_of (E := E_impl_natSub) (code := code_impl_natSub) mix lay_ok cons_impl_natSub Try.func221 (by kernel_rfl) sg_impl_natSub (by kernel_rfl) (fun y => y.1) c_impl_natSub.out (fun _ => rfl) c_impl_natSub.run (fun x => by kernel_rfl) (by kernel_rfl) (loops_mem loops_impl_natSub (⟨⟨_, by kernel_rfl, l_impl_natSub_0⟩, trivial⟩))

noncomputable def sg_impl_bigAdd : Sig := ⟨[(true, [.d (.bool), .d (.sl .int)]), (true, [.d (.bool), .d (.sl .int)])], [], false, [(true, [.d (.bool), .own 0])], [(0, .arr false .int)]⟩
noncomputable def c_impl_bigAdd : Con := ⟨sg_impl_bigAdd, Bg, fun x => M_impl_bigAdd (⟨x.1, x.2.1⟩ : Bg) (⟨x.2.2.1, x.2.2.2.1⟩ : Bg), fun r => (r.neg, r.mag, ())⟩
noncomputable def code_impl_bigAdd : Code := Try.f162.body.getD .skip
noncomputable def E_impl_bigAdd : Env := ⟨lay, [(219, c_impl_natAdd), (205, c_impl_signed_dc), (220, c_impl_natCmp), (221, c_impl_natSub)], [], [(2, [(0, []), (1, []), (2, []), (3, []), (4, []), (5, []), (6, [3, 5, 2, 4]), (7, [1, 6, 0, 3, 5, 2, 4]), (8, [7, 0, 1, 2, 3, 4, 5, 6])]), (4, [(0, []), (1, []), (2, []), (3, []), (4, []), (5, []), (6, [3, 5, 2, 4]), (7, [1, 6, 0, 3, 5, 2, 4]), (8, [7, 0, 1, 2, 3, 4, 5, 6])]), (5, [(0, []), (1, []), (2, []), (3, []), (4, []), (5, []), (6, [3, 5, 2, 4]), (7, [1, 6, 0, 3, 5, 2, 4]), (8, [7, 0, 1, 2, 3, 4, 5, 6])])]⟩
theorem cons_impl_bigAdd : ConsOk Try.prog E_impl_bigAdd.cons := consOk_cons m_impl_natAdd (callable_of Try.func219 (by kernel_rfl)) (consOk_cons m_impl_signed_dc (callable_of Try.func205 (by kernel_rfl)) (consOk_cons m_impl_natCmp (callable_of Try.func220 (by kernel_rfl)) (consOk_cons m_impl_natSub (callable_of Try.func221 (by kernel_rfl)) (consOk_nil))))
theorem loops_impl_bigAdd : loopsIn code_impl_bigAdd = [] := by kernel_rfl
theorem m_impl_bigAdd : Meets Try.prog 162 c_impl_bigAdd := meets_of (E := E_impl_bigAdd) (code := code_impl_bigAdd) mix lay_ok cons_impl_bigAdd Try.func162 (by kernel_rfl) sg_impl_bigAdd (by kernel_rfl) (fun y => (⟨y.1, y.2.1⟩ : Bg)) c_impl_bigAdd.out (fun _ => rfl) c_impl_bigAdd.run (fun x => by kernel_rfl) (by kernel_rfl) (loops_mem loops_impl_bigAdd (trivial))

noncomputable def sg_impl_add : Sig := ⟨[(true, [.d (.bool), .d (.sl .int), .d (.sl .int)]), (true, [.d (.bool), .d (.sl .int), .d (.sl .int)])], [], false, [(true, [.d (.bool), .own 0, .own 1])], [(0, .arr false .int), (1, .arr false .int)]⟩
noncomputable def c_impl_add : Con := ⟨sg_impl_add, Rt, fun x => M_impl_add (⟨x.1, x.2.1, x.2.2.1⟩ : Rt) (⟨x.2.2.2.1, x.2.2.2.2.1, x.2.2.2.2.2.1⟩ : Rt), fun r => (r.neg, r.mag, r.den, ())⟩
noncomputable def code_impl_add : Code := Try.f84.body.getD .skip
noncomputable def E_impl_add : Env := ⟨lay, [(88, c_impl_void), (161, c_impl_sameInts), (162, c_impl_bigAdd), (163, c_impl_copyInts), (158, c_impl_lowest_cc), (159, c_impl_bigMul), (160, c_impl_natMul)], [], [(4, [(0, []), (1, []), (2, []), (3, []), (5, []), (6, []), (4, [1, 3, 0, 2]), (7, [6, 4, 5, 1, 3, 0, 2]), (8, [4, 7, 1, 3, 6, 0, 2, 5]), (9, [8, 0, 1, 2, 3, 4, 5, 6, 7])]), (7, [(0, []), (1, []), (3, []), (4, []), (5, []), (6, []), (2, [0, 1]), (7, [4, 6, 2, 3, 5, 0, 1]), (8, [2, 7, 0, 1, 4, 6, 3, 5]), (9, [8, 0, 1, 2, 3, 4, 5, 6, 7])])]⟩
theorem cons_impl_add : ConsOk Try.prog E_impl_add.cons := consOk_cons m_impl_void (callable_of Try.func88 (by kernel_rfl)) (consOk_cons m_impl_sameInts (callable_of Try.func161 (by kernel_rfl)) (consOk_cons m_impl_bigAdd (callable_of Try.func162 (by kernel_rfl)) (consOk_cons m_impl_copyInts (callable_of Try.func163 (by kernel_rfl)) (consOk_cons m_impl_lowest_cc (callable_of Try.func158 (by kernel_rfl)) (consOk_cons m_impl_bigMul (callable_of Try.func159 (by kernel_rfl)) (consOk_cons m_impl_natMul (callable_of Try.func160 (by kernel_rfl)) (consOk_nil)))))))
theorem loops_impl_add : loopsIn code_impl_add = [] := by kernel_rfl
theorem m_impl_add : Meets Try.prog 84 c_impl_add := meets_of (E := E_impl_add) (code := code_impl_add) mix lay_ok cons_impl_add Try.func84 (by kernel_rfl) sg_impl_add (by kernel_rfl) (fun y => (⟨y.1, y.2.1, y.2.2.1⟩ : Rt)) c_impl_add.out (fun _ => rfl) c_impl_add.run (fun x => by kernel_rfl) (by kernel_rfl) (loops_mem loops_impl_add (trivial))

noncomputable def sg_impl_sign : Sig := ⟨[(true, [.d (.bool), .d (.sl .int), .d (.sl .int)])], [], false, [(false, [.d (.int .i64)])], []⟩
noncomputable def c_impl_sign : Con := ⟨sg_impl_sign, Int, fun x => M_impl_sign (⟨x.1, x.2.1, x.2.2.1⟩ : Rt), fun r => (r, ())⟩
noncomputable def code_impl_sign : Code := Try.f142.body.getD .skip
noncomputable def E_impl_sign : Env := ⟨lay, [], [], []⟩
theorem cons_impl_sign : ConsOk Try.prog E_impl_sign.cons := consOk_nil
theorem loops_impl_sign : loopsIn code_impl_sign = [] := by kernel_rfl
theorem m_impl_sign : Meets Try.prog 142 c_impl_sign := meets_of (E := E_impl_sign) (code := code_impl_sign) mix lay_ok cons_impl_sign Try.func142 (by kernel_rfl) sg_impl_sign (by kernel_rfl) (fun y => y.1) c_impl_sign.out (fun _ => rfl) c_impl_sign.run (fun x => by kernel_rfl) (by kernel_rfl) (loops_mem loops_impl_sign (trivial))

noncomputable def sg_impl_BigIntOf : Sig := ⟨[(false, [.d (.int .i64)])], [], false, [(true, [.d (.bool), .own 0])], [(0, .arr false .int)]⟩
noncomputable def c_impl_BigIntOf : Con := ⟨sg_impl_BigIntOf, Bg, fun x => M_impl_BigIntOf x.1, fun r => (r.neg, r.mag, ())⟩
noncomputable def code_impl_BigIntOf : Code := Try.f233.body.getD .skip
noncomputable def E_impl_BigIntOf : Env := ⟨lay, [(207, c_impl_NatOf), (205, c_impl_signed_dc), (219, c_impl_natAdd)], [], []⟩
theorem cons_impl_BigIntOf : ConsOk Try.prog E_impl_BigIntOf.cons := consOk_cons m_impl_NatOf (callable_of Try.func207 (by kernel_rfl)) (consOk_cons m_impl_signed_dc (callable_of Try.func205 (by kernel_rfl)) (consOk_cons m_impl_natAdd (callable_of Try.func219 (by kernel_rfl)) (consOk_nil)))
theorem loops_impl_BigIntOf : loopsIn code_impl_BigIntOf = [] := by kernel_rfl
theorem m_impl_BigIntOf : Meets Try.prog 233 c_impl_BigIntOf := meets_of (E := E_impl_BigIntOf) (code := code_impl_BigIntOf) mix lay_ok cons_impl_BigIntOf Try.func233 (by kernel_rfl) sg_impl_BigIntOf (by kernel_rfl) (fun y => (⟨y.1, y.2.1⟩ : Bg)) c_impl_BigIntOf.out (fun _ => rfl) c_impl_BigIntOf.run (fun x => by kernel_rfl) (by kernel_rfl) (loops_mem loops_impl_BigIntOf (trivial))

noncomputable def sg_impl_signed : Sig := ⟨[(false, [.d (.bool)]), (false, [.d (.sl .int)])], [], false, [(true, [.d (.bool), .d (.sl .int)])], []⟩
noncomputable def c_impl_signed : Con := ⟨sg_impl_signed, Bg, fun x => M_impl_signed x.1 x.2.1, fun r => (r.neg, r.mag, ())⟩
noncomputable def code_impl_signed : Code := Try.f205.body.getD .skip
noncomputable def E_impl_signed : Env := ⟨lay, [], [], []⟩
theorem cons_impl_signed : ConsOk Try.prog E_impl_signed.cons := consOk_nil
theorem loops_impl_signed : loopsIn code_impl_signed = [] := by kernel_rfl
theorem m_impl_signed : Meets Try.prog 205 c_impl_signed := meets_of (E := E_impl_signed) (code := code_impl_signed) mix lay_ok cons_impl_signed Try.func205 (by kernel_rfl) sg_impl_signed (by kernel_rfl) (fun y => (⟨y.1, y.2.1⟩ : Bg)) c_impl_signed.out (fun _ => rfl) c_impl_signed.run (fun x => by kernel_rfl) (by kernel_rfl) (loops_mem loops_impl_signed (trivial))

noncomputable def sg_impl_lowest : Sig := ⟨[(true, [.d (.bool), .d (.sl .int)]), (false, [.d (.sl .int)])], [], false, [(true, [.d (.bool), .d (.sl .int), .d (.sl .int)])], []⟩
noncomputable def c_impl_lowest : Con := ⟨sg_impl_lowest, Rt, fun x => M_impl_lowest (⟨x.1, x.2.1⟩ : Bg) x.2.2.1, fun r => (r.neg, r.mag, r.den, ())⟩
noncomputable def code_impl_lowest : Code := Try.f158.body.getD .skip
noncomputable def E_impl_lowest : Env := ⟨lay, [(157, c_impl_natGcd), (156, c_impl_isOne), (204, c_impl_natDiv), (205, c_impl_signed_dc)], [], []⟩
theorem cons_impl_lowest : ConsOk Try.prog E_impl_lowest.cons := consOk_cons m_impl_natGcd (callable_of Try.func157 (by kernel_rfl)) (consOk_cons m_impl_isOne (callable_of Try.func156 (by kernel_rfl)) (consOk_cons m_impl_natDiv (callable_of Try.func204 (by kernel_rfl)) (consOk_cons m_impl_signed_dc (callable_of Try.func205 (by kernel_rfl)) (consOk_nil))))
theorem loops_impl_lowest : loopsIn code_impl_lowest = [] := by kernel_rfl
theorem m_impl_lowest : Meets Try.prog 158 c_impl_lowest := meets_of (E := E_impl_lowest) (code := code_impl_lowest) mix lay_ok cons_impl_lowest Try.func158 (by kernel_rfl) sg_impl_lowest (by kernel_rfl) (fun y => (⟨y.1, y.2.1, y.2.2.1⟩ : Rt)) c_impl_lowest.out (fun _ => rfl) c_impl_lowest.run (fun x => by kernel_rfl) (by kernel_rfl) (loops_mem loops_impl_lowest (trivial))

noncomputable def sg_impl_copyRat : Sig := ⟨[(true, [.d (.bool), .d (.sl .int), .d (.sl .int)])], [], false, [(true, [.d (.bool), .own 0, .own 1])], [(0, .arr false .int), (1, .arr false .int)]⟩
noncomputable def c_impl_copyRat : Con := ⟨sg_impl_copyRat, Rt, fun x => M_impl_copyRat (⟨x.1, x.2.1, x.2.2.1⟩ : Rt), fun r => (r.neg, r.mag, r.den, ())⟩
noncomputable def code_impl_copyRat : Code := Try.f193.body.getD .skip
noncomputable def E_impl_copyRat : Env := ⟨lay, [(163, c_impl_copyInts)], [], [(1, [(0, []), (1, []), (2, []), (3, []), (4, []), (5, []), (8, []), (9, []), (6, [5, 4, 3]), (7, []), (10, [9, 6, 8, 5, 4, 3]), (11, []), (12, [11, 10, 0, 1, 2, 3, 4, 5, 6, 7, 8, 9])])]⟩
theorem cons_impl_copyRat : ConsOk Try.prog E_impl_copyRat.cons := consOk_cons m_impl_copyInts (callable_of Try.func163 (by kernel_rfl)) (consOk_nil)
theorem loops_impl_copyRat : loopsIn code_impl_copyRat = [] := by kernel_rfl
theorem m_impl_copyRat : Meets Try.prog 193 c_impl_copyRat := meets_of (E := E_impl_copyRat) (code := code_impl_copyRat) mix lay_ok cons_impl_copyRat Try.func193 (by kernel_rfl) sg_impl_copyRat (by kernel_rfl) (fun y => (⟨y.1, y.2.1, y.2.2.1⟩ : Rt)) c_impl_copyRat.out (fun _ => rfl) c_impl_copyRat.run (fun x => by kernel_rfl) (by kernel_rfl) (loops_mem loops_impl_copyRat (trivial))

noncomputable def sg_impl_RatMake : Sig := ⟨[(true, [.d (.bool), .d (.sl .int)]), (true, [.d (.bool), .d (.sl .int)])], [], false, [(true, [.d (.bool), .own 0, .own 1])], [(0, .arr false .int), (1, .arr false .int)]⟩
noncomputable def c_impl_RatMake : Con := ⟨sg_impl_RatMake, Rt, fun x => M_impl_RatMake (⟨x.1, x.2.1⟩ : Bg) (⟨x.2.2.1, x.2.2.2.1⟩ : Bg), fun r => (r.neg, r.mag, r.den, ())⟩
noncomputable def code_impl_RatMake : Code := Try.f232.body.getD .skip
noncomputable def E_impl_RatMake : Env := ⟨lay, [(154, c_impl_BigIntOk), (205, c_impl_signed), (158, c_impl_lowest), (193, c_impl_copyRat)], [], [(3, [(0, []), (1, []), (2, []), (3, []), (4, []), (5, []), (6, []), (8, []), (9, []), (7, [4, 6, 1, 3, 5, 0, 2]), (10, [7, 9, 4, 6, 8, 1, 3, 5, 0, 2]), (11, [10, 7, 9, 4, 6, 8, 1, 3, 5, 0, 2]), (12, [11, 0, 1, 2, 3, 4, 5, 6, 7, 8, 9, 10])])]⟩
theorem cons_impl_RatMake : ConsOk Try.prog E_impl_RatMake.cons := consOk_cons m_impl_BigIntOk (callable_of Try.func154 (by kernel_rfl)) (consOk_cons m_impl_signed (callable_of Try.func205 (by kernel_rfl)) (consOk_cons m_impl_lowest (callable_of Try.func158 (by kernel_rfl)) (consOk_cons m_impl_copyRat (callable_of Try.func193 (by kernel_rfl)) (consOk_nil))))
theorem loops_impl_RatMake : loopsIn code_impl_RatMake = [] := by kernel_rfl
theorem m_impl_RatMake : Meets Try.prog 232 c_impl_RatMake := meets_of (E := E_impl_RatMake) (code := code_impl_RatMake) mix lay_ok cons_impl_RatMake Try.func232 (by kernel_rfl) sg_impl_RatMake (by kernel_rfl) (fun y => (⟨y.1, y.2.1, y.2.2.1⟩ : Rt)) c_impl_RatMake.out (fun _ => rfl) c_impl_RatMake.run (fun x => by kernel_rfl) (by kernel_rfl) (loops_mem loops_impl_RatMake (trivial))

noncomputable def sg_impl_RatOf : Sig := ⟨[(false, [.d (.int .i64)]), (false, [.d (.int .i64)])], [], false, [(true, [.d (.bool), .own 0, .own 1])], [(0, .arr false .int), (1, .arr false .int)]⟩
noncomputable def c_impl_RatOf : Con := ⟨sg_impl_RatOf, Rt, fun x => M_impl_RatOf x.1 x.2.1, fun r => (r.neg, r.mag, r.den, ())⟩
noncomputable def code_impl_RatOf : Code := Try.f208.body.getD .skip
noncomputable def E_impl_RatOf : Env := ⟨lay, [(233, c_impl_BigIntOf), (232, c_impl_RatMake)], [], []⟩
theorem cons_impl_RatOf : ConsOk Try.prog E_impl_RatOf.cons := consOk_cons m_impl_BigIntOf (callable_of Try.func233 (by kernel_rfl)) (consOk_cons m_impl_RatMake (callable_of Try.func232 (by kernel_rfl)) (consOk_nil))
theorem loops_impl_RatOf : loopsIn code_impl_RatOf = [] := by kernel_rfl
theorem m_impl_RatOf : Meets Try.prog 208 c_impl_RatOf := meets_of (E := E_impl_RatOf) (code := code_impl_RatOf) mix lay_ok cons_impl_RatOf Try.func208 (by kernel_rfl) sg_impl_RatOf (by kernel_rfl) (fun y => (⟨y.1, y.2.1, y.2.2.1⟩ : Rt)) c_impl_RatOf.out (fun _ => rfl) c_impl_RatOf.run (fun x => by kernel_rfl) (by kernel_rfl) (loops_mem loops_impl_RatOf (trivial))

noncomputable def sg_impl_RatFromInt : Sig := ⟨[(false, [.d (.int .i64)])], [], false, [(true, [.d (.bool), .own 0, .own 1])], [(0, .arr false .int), (1, .arr false .int)]⟩
noncomputable def c_impl_RatFromInt : Con := ⟨sg_impl_RatFromInt, Rt, fun x => M_impl_RatFromInt x.1, fun r => (r.neg, r.mag, r.den, ())⟩
noncomputable def code_impl_RatFromInt : Code := Try.f164.body.getD .skip
noncomputable def E_impl_RatFromInt : Env := ⟨lay, [(208, c_impl_RatOf)], [], []⟩
theorem cons_impl_RatFromInt : ConsOk Try.prog E_impl_RatFromInt.cons := consOk_cons m_impl_RatOf (callable_of Try.func208 (by kernel_rfl)) (consOk_nil)
theorem loops_impl_RatFromInt : loopsIn code_impl_RatFromInt = [] := by kernel_rfl
theorem m_impl_RatFromInt : Meets Try.prog 164 c_impl_RatFromInt := meets_of (E := E_impl_RatFromInt) (code := code_impl_RatFromInt) mix lay_ok cons_impl_RatFromInt Try.func164 (by kernel_rfl) sg_impl_RatFromInt (by kernel_rfl) (fun y => (⟨y.1, y.2.1, y.2.2.1⟩ : Rt)) c_impl_RatFromInt.out (fun _ => rfl) c_impl_RatFromInt.run (fun x => by kernel_rfl) (by kernel_rfl) (loops_mem loops_impl_RatFromInt (trivial))

noncomputable def sg_impl_whole : Sig := ⟨[(false, [.d (.int .i64)])], [], false, [(true, [.d (.bool), .own 0, .own 1])], [(0, .arr false .int), (1, .arr false .int)]⟩
noncomputable def c_impl_whole : Con := ⟨sg_impl_whole, Rt, fun x => M_impl_whole x.1, fun r => (r.neg, r.mag, r.den, ())⟩
noncomputable def code_impl_whole : Code := Try.f85.body.getD .skip
noncomputable def E_impl_whole : Env := ⟨lay, [(164, c_impl_RatFromInt)], [], []⟩
theorem cons_impl_whole : ConsOk Try.prog E_impl_whole.cons := consOk_cons m_impl_RatFromInt (callable_of Try.func164 (by kernel_rfl)) (consOk_nil)
theorem loops_impl_whole : loopsIn code_impl_whole = [] := by kernel_rfl
theorem m_impl_whole : Meets Try.prog 85 c_impl_whole := meets_of (E := E_impl_whole) (code := code_impl_whole) mix lay_ok cons_impl_whole Try.func85 (by kernel_rfl) sg_impl_whole (by kernel_rfl) (fun y => (⟨y.1, y.2.1, y.2.2.1⟩ : Rt)) c_impl_whole.out (fun _ => rfl) c_impl_whole.run (fun x => by kernel_rfl) (by kernel_rfl) (loops_mem loops_impl_whole (trivial))

noncomputable def sg_impl_root : Sig := ⟨[(false, [.d (.sl .int)])], [], false, [(false, [.own 0])], [(0, .arr false .int)]⟩
noncomputable def c_impl_root : Con := ⟨sg_impl_root, List Int, fun x => M_impl_root x.1, fun r => (r, ())⟩
noncomputable def code_impl_root : Code := Try.f206.body.getD .skip
noncomputable def body_impl_root_0 : Code := (loopsIn code_impl_root).getD 0 .skip
noncomputable def D_impl_root_0 : LoopD := ⟨⟨mkSlots [(0, false, [.d (.sl .int)]), (3, false, [.own 2752])] 42 0, [(2752, .arr false .int)]⟩, [], [(.ret, ⟨mkSlots [(2, false, [.own 2816])] 42 0, [(2816, .arr false .int)]⟩, [])]⟩
noncomputable def S_impl_root_0_w (x : Tys D_impl_root_0.head.ks) : Option (OutT D_impl_root_0.outs) := @whileO ((List Int) × (List Int) × Unit) ((List Int) × Unit) S_impl_root_0 x
noncomputable def E_impl_root : Env := ⟨lay, [(204, c_impl_natDiv), (219, c_impl_natAdd), (220, c_impl_natCmp)], [(5, mkLM D_impl_root_0 S_impl_root_0_w)], []⟩
theorem cons_impl_root : ConsOk Try.prog E_impl_root.cons := consOk_cons m_impl_natDiv (callable_of Try.func204 (by kernel_rfl)) (consOk_cons m_impl_natAdd (callable_of Try.func219 (by kernel_rfl)) (consOk_cons m_impl_natCmp (callable_of Try.func220 (by kernel_rfl)) (consOk_nil)))
theorem S_impl_root_0_ok (x : Tys D_impl_root_0.head.ks) : stepL E_impl_root D_impl_root_0 body_impl_root_0 x = S_impl_root_0 x := by kernel_rfl
theorem loops_impl_root_0 : loopsIn body_impl_root_0 = [] := by kernel_rfl
theorem l_impl_root_0 : LoopOk Try.prog (mkLM D_impl_root_0 S_impl_root_0_w) body_impl_root_0 := loop_ok2 mix lay_ok cons_impl_root (by kernel_rfl) (loops_mem loops_impl_root_0 (trivial)) S_impl_root_0_ok fun _ _ h => h
theorem loops_impl_root : loopsIn code_impl_root = [body_impl_root_0] := by kernel_rfl
theorem m_impl_root : Meets Try.prog 206 c_impl_root := meets_of (E := E_impl_root) (code := code_impl_root) mix lay_ok cons_impl_root Try.func206 (by kernel_rfl) sg_impl_root (by kernel_rfl) (fun y => y.1) c_impl_root.out (fun _ => rfl) c_impl_root.run (fun x => by kernel_rfl) (by kernel_rfl) (loops_mem loops_impl_root (⟨⟨_, by kernel_rfl, l_impl_root_0⟩, trivial⟩))

noncomputable def sg_impl_RootBelow : Sig := ⟨[(true, [.d (.bool), .d (.sl .int), .d (.sl .int)])], [], false, [(true, [.d (.bool), .own 0, .own 1])], [(0, .arr false .int), (1, .arr false .int)]⟩
noncomputable def c_impl_RootBelow : Con := ⟨sg_impl_RootBelow, Rt, fun x => M_impl_RootBelow (⟨x.1, x.2.1, x.2.2.1⟩ : Rt), fun r => (r.neg, r.mag, r.den, ())⟩
noncomputable def code_impl_RootBelow : Code := Try.f141.body.getD .skip
noncomputable def E_impl_RootBelow : Env := ⟨lay, [(82, c_impl_RatOk), (142, c_impl_sign), (85, c_impl_whole), (83, c_impl_mul), (88, c_impl_void), (204, c_impl_natDiv), (206, c_impl_root), (205, c_impl_signed_dc), (207, c_impl_NatOf), (158, c_impl_lowest_cc)], [], [(3, [(0, []), (1, []), (2, [0, 1]), (3, [2, 0, 1]), (4, [2, 3, 0, 1]), (5, []), (6, [5, 4, 0, 1, 2, 3])])]⟩
theorem cons_impl_RootBelow : ConsOk Try.prog E_impl_RootBelow.cons := consOk_cons m_impl_RatOk (callable_of Try.func82 (by kernel_rfl)) (consOk_cons m_impl_sign (callable_of Try.func142 (by kernel_rfl)) (consOk_cons m_impl_whole (callable_of Try.func85 (by kernel_rfl)) (consOk_cons m_impl_mul (callable_of Try.func83 (by kernel_rfl)) (consOk_cons m_impl_void (callable_of Try.func88 (by kernel_rfl)) (consOk_cons m_impl_natDiv (callable_of Try.func204 (by kernel_rfl)) (consOk_cons m_impl_root (callable_of Try.func206 (by kernel_rfl)) (consOk_cons m_impl_signed_dc (callable_of Try.func205 (by kernel_rfl)) (consOk_cons m_impl_NatOf (callable_of Try.func207 (by kernel_rfl)) (consOk_cons m_impl_lowest_cc (callable_of Try.func158 (by kernel_rfl)) (consOk_nil))))))))))
theorem loops_impl_RootBelow : loopsIn code_impl_RootBelow = [] := by kernel_rfl
theorem m_impl_RootBelow : Meets Try.prog 141 c_impl_RootBelow := meets_of (E := E_impl_RootBelow) (code := code_impl_RootBelow) mix lay_ok cons_impl_RootBelow Try.func141 (by kernel_rfl) sg_impl_RootBelow (by kernel_rfl) (fun y => (⟨y.1, y.2.1, y.2.2.1⟩ : Rt)) c_impl_RootBelow.out (fun _ => rfl) c_impl_RootBelow.run (fun x => by kernel_rfl) (by kernel_rfl) (loops_mem loops_impl_RootBelow (trivial))

noncomputable def sg_impl_div : Sig := ⟨[(true, [.d (.bool), .d (.sl .int), .d (.sl .int)]), (true, [.d (.bool), .d (.sl .int), .d (.sl .int)])], [], false, [(true, [.d (.bool), .own 0, .own 1])], [(0, .arr false .int), (1, .arr false .int)]⟩
noncomputable def c_impl_div : Con := ⟨sg_impl_div, Rt, fun x => M_impl_div (⟨x.1, x.2.1, x.2.2.1⟩ : Rt) (⟨x.2.2.2.1, x.2.2.2.2.1, x.2.2.2.2.2.1⟩ : Rt), fun r => (r.neg, r.mag, r.den, ())⟩
noncomputable def code_impl_div : Code := Try.f86.body.getD .skip
noncomputable def E_impl_div : Env := ⟨lay, [(88, c_impl_void), (83, c_impl_mul)], [], []⟩
theorem cons_impl_div : ConsOk Try.prog E_impl_div.cons := consOk_cons m_impl_void (callable_of Try.func88 (by kernel_rfl)) (consOk_cons m_impl_mul (callable_of Try.func83 (by kernel_rfl)) (consOk_nil))
theorem loops_impl_div : loopsIn code_impl_div = [] := by kernel_rfl
theorem m_impl_div : Meets Try.prog 86 c_impl_div := meets_of (E := E_impl_div) (code := code_impl_div) mix lay_ok cons_impl_div Try.func86 (by kernel_rfl) sg_impl_div (by kernel_rfl) (fun y => (⟨y.1, y.2.1, y.2.2.1⟩ : Rt)) c_impl_div.out (fun _ => rfl) c_impl_div.run (fun x => by kernel_rfl) (by kernel_rfl) (loops_mem loops_impl_div (trivial))

noncomputable def sg_impl_bigNeg : Sig := ⟨[(true, [.d (.bool), .d (.sl .int)])], [], false, [(true, [.d (.bool), .own 0])], [(0, .arr false .int)]⟩
noncomputable def c_impl_bigNeg : Con := ⟨sg_impl_bigNeg, Bg, fun x => M_impl_bigNeg (⟨x.1, x.2.1⟩ : Bg), fun r => (r.neg, r.mag, ())⟩
noncomputable def code_impl_bigNeg : Code := Try.f181.body.getD .skip
noncomputable def E_impl_bigNeg : Env := ⟨lay, [(163, c_impl_copyInts), (205, c_impl_signed_dc)], [], [(1, [(0, []), (1, []), (2, []), (3, []), (4, []), (5, [4, 3]), (6, [2, 5, 1, 4, 0, 3]), (7, [6, 0, 1, 2, 3, 4, 5])])]⟩
theorem cons_impl_bigNeg : ConsOk Try.prog E_impl_bigNeg.cons := consOk_cons m_impl_copyInts (callable_of Try.func163 (by kernel_rfl)) (consOk_cons m_impl_signed_dc (callable_of Try.func205 (by kernel_rfl)) (consOk_nil))
theorem loops_impl_bigNeg : loopsIn code_impl_bigNeg = [] := by kernel_rfl
theorem m_impl_bigNeg : Meets Try.prog 181 c_impl_bigNeg := meets_of (E := E_impl_bigNeg) (code := code_impl_bigNeg) mix lay_ok cons_impl_bigNeg Try.func181 (by kernel_rfl) sg_impl_bigNeg (by kernel_rfl) (fun y => (⟨y.1, y.2.1⟩ : Bg)) c_impl_bigNeg.out (fun _ => rfl) c_impl_bigNeg.run (fun x => by kernel_rfl) (by kernel_rfl) (loops_mem loops_impl_bigNeg (trivial))

noncomputable def sg_impl_neg : Sig := ⟨[(true, [.d (.bool), .d (.sl .int), .d (.sl .int)])], [], false, [(true, [.d (.bool), .own 0, .own 1])], [(0, .arr false .int), (1, .arr false .int)]⟩
noncomputable def c_impl_neg : Con := ⟨sg_impl_neg, Rt, fun x => M_impl_neg (⟨x.1, x.2.1, x.2.2.1⟩ : Rt), fun r => (r.neg, r.mag, r.den, ())⟩
noncomputable def code_impl_neg : Code := Try.f111.body.getD .skip
noncomputable def E_impl_neg : Env := ⟨lay, [(88, c_impl_void), (181, c_impl_bigNeg), (163, c_impl_copyInts)], [], [(3, [(0, []), (1, []), (3, []), (4, []), (2, [1, 0]), (5, [4, 2, 3, 1, 0]), (6, []), (7, [6, 5, 0, 1, 2, 3, 4])])]⟩
theorem cons_impl_neg : ConsOk Try.prog E_impl_neg.cons := consOk_cons m_impl_void (callable_of Try.func88 (by kernel_rfl)) (consOk_cons m_impl_bigNeg (callable_of Try.func181 (by kernel_rfl)) (consOk_cons m_impl_copyInts (callable_of Try.func163 (by kernel_rfl)) (consOk_nil)))
theorem loops_impl_neg : loopsIn code_impl_neg = [] := by kernel_rfl
theorem m_impl_neg : Meets Try.prog 111 c_impl_neg := meets_of (E := E_impl_neg) (code := code_impl_neg) mix lay_ok cons_impl_neg Try.func111 (by kernel_rfl) sg_impl_neg (by kernel_rfl) (fun y => (⟨y.1, y.2.1, y.2.2.1⟩ : Rt)) c_impl_neg.out (fun _ => rfl) c_impl_neg.run (fun x => by kernel_rfl) (by kernel_rfl) (loops_mem loops_impl_neg (trivial))

noncomputable def sg_impl_sub : Sig := ⟨[(true, [.d (.bool), .d (.sl .int), .d (.sl .int)]), (true, [.d (.bool), .d (.sl .int), .d (.sl .int)])], [], false, [(true, [.d (.bool), .own 0, .own 1])], [(0, .arr false .int), (1, .arr false .int)]⟩
noncomputable def c_impl_sub : Con := ⟨sg_impl_sub, Rt, fun x => M_impl_sub (⟨x.1, x.2.1, x.2.2.1⟩ : Rt) (⟨x.2.2.2.1, x.2.2.2.2.1, x.2.2.2.2.2.1⟩ : Rt), fun r => (r.neg, r.mag, r.den, ())⟩
noncomputable def code_impl_sub : Code := Try.f87.body.getD .skip
noncomputable def E_impl_sub : Env := ⟨lay, [(111, c_impl_neg), (84, c_impl_add)], [], [(1, [(0, []), (1, []), (2, [1]), (3, [0, 2, 1]), (4, [3, 0, 1, 2])])]⟩
theorem cons_impl_sub : ConsOk Try.prog E_impl_sub.cons := consOk_cons m_impl_neg (callable_of Try.func111 (by kernel_rfl)) (consOk_cons m_impl_add (callable_of Try.func84 (by kernel_rfl)) (consOk_nil))
theorem loops_impl_sub : loopsIn code_impl_sub = [] := by kernel_rfl
theorem m_impl_sub : Meets Try.prog 87 c_impl_sub := meets_of (E := E_impl_sub) (code := code_impl_sub) mix lay_ok cons_impl_sub Try.func87 (by kernel_rfl) sg_impl_sub (by kernel_rfl) (fun y => (⟨y.1, y.2.1, y.2.2.1⟩ : Rt)) c_impl_sub.out (fun _ => rfl) c_impl_sub.run (fun x => by kernel_rfl) (by kernel_rfl) (loops_mem loops_impl_sub (trivial))

noncomputable def sg_impl_bigFloor : Sig := ⟨[(true, [.d (.bool), .d (.sl .int)]), (false, [.d (.sl .int)])], [], true, [(true, [.d (.bool), .own 0]), (false, [.own 1])], [(0, .arr false .int), (1, .arr false .int)]⟩
noncomputable def c_impl_bigFloor : Con := ⟨sg_impl_bigFloor, Bg × List Int, fun x => M_impl_bigFloor (⟨x.1, x.2.1⟩ : Bg) x.2.2.1, fun r => (r.1.neg, r.1.mag, r.2, ())⟩
noncomputable def code_impl_bigFloor : Code := Try.f209.body.getD .skip
noncomputable def E_impl_bigFloor : Env := ⟨lay, [(204, c_impl_natDiv), (205, c_impl_signed_dc), (219, c_impl_natAdd), (221, c_impl_natSub)], [], []⟩
theorem cons_impl_bigFloor : ConsOk Try.prog E_impl_bigFloor.cons := consOk_cons m_impl_natDiv (callable_of Try.func204 (by kernel_rfl)) (consOk_cons m_impl_signed_dc (callable_of Try.func205 (by kernel_rfl)) (consOk_cons m_impl_natAdd (callable_of Try.func219 (by kernel_rfl)) (consOk_cons m_impl_natSub (callable_of Try.func221 (by kernel_rfl)) (consOk_nil))))
theorem loops_impl_bigFloor : loopsIn code_impl_bigFloor = [] := by kernel_rfl
theorem m_impl_bigFloor : Meets Try.prog 209 c_impl_bigFloor := meets_of (E := E_impl_bigFloor) (code := code_impl_bigFloor) mix lay_ok cons_impl_bigFloor Try.func209 (by kernel_rfl) sg_impl_bigFloor (by kernel_rfl) (fun y => ((⟨y.1, y.2.1⟩ : Bg), y.2.2.1)) c_impl_bigFloor.out (fun _ => rfl) c_impl_bigFloor.run (fun x => by kernel_rfl) (by kernel_rfl) (loops_mem loops_impl_bigFloor (trivial))

noncomputable def sg_impl_RoundTo : Sig := ⟨[(true, [.d (.bool), .d (.sl .int), .d (.sl .int)]), (false, [.d (.int .i64)])], [], false, [(true, [.d (.bool), .own 0, .own 1])], [(0, .arr false .int), (1, .arr false .int)]⟩
noncomputable def c_impl_RoundTo : Con := ⟨sg_impl_RoundTo, Rt, fun x => M_impl_RoundTo (⟨x.1, x.2.1, x.2.2.1⟩ : Rt) x.2.2.2.1, fun r => (r.neg, r.mag, r.den, ())⟩
noncomputable def code_impl_RoundTo : Code := Try.f143.body.getD .skip
noncomputable def E_impl_RoundTo : Env := ⟨lay, [(82, c_impl_RatOk), (85, c_impl_whole), (83, c_impl_mul), (208, c_impl_RatOf), (84, c_impl_add), (88, c_impl_void), (209, c_impl_bigFloor), (207, c_impl_NatOf), (158, c_impl_lowest_cc)], [], [(3, [(0, []), (1, []), (2, [1]), (3, [0, 2, 1]), (4, [3, 0, 2, 1]), (5, [3, 4, 0, 2, 1]), (6, []), (7, [6, 5, 0, 1, 2, 3, 4])]), (7, [(0, []), (1, []), (2, [1]), (3, [0, 2, 1]), (4, [3, 0, 1, 2])])]⟩
theorem cons_impl_RoundTo : ConsOk Try.prog E_impl_RoundTo.cons := consOk_cons m_impl_RatOk (callable_of Try.func82 (by kernel_rfl)) (consOk_cons m_impl_whole (callable_of Try.func85 (by kernel_rfl)) (consOk_cons m_impl_mul (callable_of Try.func83 (by kernel_rfl)) (consOk_cons m_impl_RatOf (callable_of Try.func208 (by kernel_rfl)) (consOk_cons m_impl_add (callable_of Try.func84 (by kernel_rfl)) (consOk_cons m_impl_void (callable_of Try.func88 (by kernel_rfl)) (consOk_cons m_impl_bigFloor (callable_of Try.func209 (by kernel_rfl)) (consOk_cons m_impl_NatOf (callable_of Try.func207 (by kernel_rfl)) (consOk_cons m_impl_lowest_cc (callable_of Try.func158 (by kernel_rfl)) (consOk_nil)))))))))
theorem loops_impl_RoundTo : loopsIn code_impl_RoundTo = [] := by kernel_rfl
theorem m_impl_RoundTo : Meets Try.prog 143 c_impl_RoundTo := meets_of (E := E_impl_RoundTo) (code := code_impl_RoundTo) mix lay_ok cons_impl_RoundTo Try.func143 (by kernel_rfl) sg_impl_RoundTo (by kernel_rfl) (fun y => (⟨y.1, y.2.1, y.2.2.1⟩ : Rt)) c_impl_RoundTo.out (fun _ => rfl) c_impl_RoundTo.run (fun x => by kernel_rfl) (by kernel_rfl) (loops_mem loops_impl_RoundTo (trivial))

noncomputable def sg_impl_HalfTangent : Sig := ⟨[(true, [.d (.bool), .d (.sl .int), .d (.sl .int)]), (true, [.d (.bool), .d (.sl .int), .d (.sl .int)])], [], false, [(true, [.d (.bool), .own 0, .own 1])], [(0, .arr false .int), (1, .arr false .int)]⟩
noncomputable def c_impl_HalfTangent : Con := ⟨sg_impl_HalfTangent, Rt, fun x => M_impl_HalfTangent (⟨x.1, x.2.1, x.2.2.1⟩ : Rt) (⟨x.2.2.2.1, x.2.2.2.2.1, x.2.2.2.2.2.1⟩ : Rt), fun r => (r.neg, r.mag, r.den, ())⟩
noncomputable def code_impl_HalfTangent : Code := Try.f67.body.getD .skip
noncomputable def E_impl_HalfTangent : Env := ⟨lay, [(97, c_impl_both), (127, c_impl_isZero), (83, c_impl_mul), (84, c_impl_add), (88, c_impl_void), (141, c_impl_RootBelow), (86, c_impl_div), (142, c_impl_sign), (87, c_impl_sub), (143, c_impl_RoundTo)], [], [(3, [(0, []), (1, []), (3, []), (4, []), (2, [0, 1]), (5, [3, 4, 2, 0, 1]), (6, [2, 5, 0, 1, 3, 4]), (7, []), (8, [7, 6, 0, 1, 2, 3, 4, 5])]), (7, [(0, []), (1, []), (2, []), (3, [1, 2]), (4, [0, 3, 1, 2]), (5, []), (6, [5, 4, 0, 1, 2, 3])]), (9, [(0, []), (1, []), (3, []), (2, [0, 1]), (4, [2, 3, 0, 1]), (5, [4, 0, 1, 2, 3])])]⟩
theorem cons_impl_HalfTangent : ConsOk Try.prog E_impl_HalfTangent.cons := consOk_cons m_impl_both (callable_of Try.func97 (by kernel_rfl)) (consOk_cons m_impl_isZero (callable_of Try.func127 (by kernel_rfl)) (consOk_cons m_impl_mul (callable_of Try.func83 (by kernel_rfl)) (consOk_cons m_impl_add (callable_of Try.func84 (by kernel_rfl)) (consOk_cons m_impl_void (callable_of Try.func88 (by kernel_rfl)) (consOk_cons m_impl_RootBelow (callable_of Try.func141 (by kernel_rfl)) (consOk_cons m_impl_div (callable_of Try.func86 (by kernel_rfl)) (consOk_cons m_impl_sign (callable_of Try.func142 (by kernel_rfl)) (consOk_cons m_impl_sub (callable_of Try.func87 (by kernel_rfl)) (consOk_cons m_impl_RoundTo (callable_of Try.func143 (by kernel_rfl)) (consOk_nil))))))))))
theorem loops_impl_HalfTangent : loopsIn code_impl_HalfTangent = [] := by kernel_rfl
theorem m_impl_HalfTangent : Meets Try.prog 67 c_impl_HalfTangent := meets_of (E := E_impl_HalfTangent) (code := code_impl_HalfTangent) mix lay_ok cons_impl_HalfTangent Try.func67 (by kernel_rfl) sg_impl_HalfTangent (by kernel_rfl) (fun y => (⟨y.1, y.2.1, y.2.2.1⟩ : Rt)) c_impl_HalfTangent.out (fun _ => rfl) c_impl_HalfTangent.run (fun x => by kernel_rfl) (by kernel_rfl) (loops_mem loops_impl_HalfTangent (trivial))

noncomputable def sg_laws_eqIntS : Sig := ⟨[(false, [.d (.sl .int)]), (false, [.d (.sl .int)])], [], false, [(false, [.d (.bool)])], []⟩
noncomputable def c_laws_eqIntS : Con := ⟨sg_laws_eqIntS, Bool, fun x => M_laws_eqIntS x.1 x.2.1, fun r => (r, ())⟩
noncomputable def code_laws_eqIntS : Code := Try.f90.body.getD .skip
noncomputable def body_laws_eqIntS_0 : Code := (loopsIn code_laws_eqIntS).getD 0 .skip
noncomputable def D_laws_eqIntS_0 : LoopD := ⟨⟨mkSlots [(0, false, [.d (.sl .int)]), (1, false, [.d (.sl .int)]), (5, false, [.d (.int .i64)])] 26 0, []⟩, [], [(.ret, ⟨mkSlots [(4, false, [.d (.bool)])] 26 0, []⟩, []), (.exit 0, ⟨mkSlots [] 26 0, []⟩, [])]⟩
noncomputable def S_laws_eqIntS_0_w (x : Tys D_laws_eqIntS_0.head.ks) : Option (OutT D_laws_eqIntS_0.outs) := @whileO ((List Int) × (List Int) × Int × Unit) ((Bool × Unit) ⊕ (Unit)) S_laws_eqIntS_0 x
noncomputable def E_laws_eqIntS : Env := ⟨lay, [], [(4, mkLM D_laws_eqIntS_0 S_laws_eqIntS_0_w)], [(6, [(0, []), (1, []), (2, []), (3, []), (4, []), (5, []), (6, []), (7, []), (8, [])])]⟩
theorem cons_laws_eqIntS : ConsOk Try.prog E_laws_eqIntS.cons := consOk_nil
theorem S_laws_eqIntS_0_ok (x : Tys D_laws_eqIntS_0.head.ks) : stepL E_laws_eqIntS D_laws_eqIntS_0 body_laws_eqIntS_0 x = S_laws_eqIntS_0 x := by kernel_rfl
theorem loops_laws_eqIntS_0 : loopsIn body_laws_eqIntS_0 = [] := by kernel_rfl
theorem l_laws_eqIntS_0 : LoopOk Try.prog (mkLM D_laws_eqIntS_0 S_laws_eqIntS_0_w) body_laws_eqIntS_0 := loop_ok2 mix lay_ok cons_laws_eqIntS (by kernel_rfl) (loops_mem loops_laws_eqIntS_0 (trivial)) S_laws_eqIntS_0_ok fun _ _ h => h
theorem loops_laws_eqIntS : loopsIn code_laws_eqIntS = [body_laws_eqIntS_0] := by kernel_rfl
theorem m_laws_eqIntS : Meets Try.prog 90 c_laws_eqIntS := meets_of (E := E_laws_eqIntS) (code := code_laws_eqIntS) mix lay_ok cons_laws_eqIntS Try.func90 (by kernel_rfl) sg_laws_eqIntS (by kernel_rfl) (fun y => y.1) c_laws_eqIntS.out (fun _ => rfl) c_laws_eqIntS.run (fun x => by kernel_rfl) (by kernel_rfl) (loops_mem loops_laws_eqIntS (⟨⟨_, by kernel_rfl, l_laws_eqIntS_0⟩, trivial⟩))

noncomputable def sg_laws_eqBigInt : Sig := ⟨[(true, [.d (.bool), .d (.sl .int)]), (true, [.d (.bool), .d (.sl .int)])], [], false, [(false, [.d (.bool)])], []⟩
noncomputable def c_laws_eqBigInt : Con := ⟨sg_laws_eqBigInt, Bool, fun x => M_laws_eqBigInt (⟨x.1, x.2.1⟩ : Bg) (⟨x.2.2.1, x.2.2.2.1⟩ : Bg), fun r => (r, ())⟩
noncomputable def code_laws_eqBigInt : Code := Try.f89.body.getD .skip
noncomputable def E_laws_eqBigInt : Env := ⟨lay, [(90, c_laws_eqIntS)], [], []⟩
theorem cons_laws_eqBigInt : ConsOk Try.prog E_laws_eqBigInt.cons := consOk_cons m_laws_eqIntS (callable_of Try.func90 (by kernel_rfl)) (consOk_nil)
theorem loops_laws_eqBigInt : loopsIn code_laws_eqBigInt = [] := by kernel_rfl
theorem m_laws_eqBigInt : Meets Try.prog 89 c_laws_eqBigInt := meets_of (E := E_laws_eqBigInt) (code := code_laws_eqBigInt) mix lay_ok cons_laws_eqBigInt Try.func89 (by kernel_rfl) sg_laws_eqBigInt (by kernel_rfl) (fun y => y.1) c_laws_eqBigInt.out (fun _ => rfl) c_laws_eqBigInt.run (fun x => by kernel_rfl) (by kernel_rfl) (loops_mem loops_laws_eqBigInt (trivial))

noncomputable def sg_laws_eqRat : Sig := ⟨[(true, [.d (.bool), .d (.sl .int), .d (.sl .int)]), (true, [.d (.bool), .d (.sl .int), .d (.sl .int)])], [], false, [(false, [.d (.bool)])], []⟩
noncomputable def c_laws_eqRat : Con := ⟨sg_laws_eqRat, Bool, fun x => M_laws_eqRat (⟨x.1, x.2.1, x.2.2.1⟩ : Rt) (⟨x.2.2.2.1, x.2.2.2.2.1, x.2.2.2.2.2.1⟩ : Rt), fun r => (r, ())⟩
noncomputable def code_laws_eqRat : Code := Try.f19.body.getD .skip
noncomputable def E_laws_eqRat : Env := ⟨lay, [(89, c_laws_eqBigInt), (90, c_laws_eqIntS)], [], []⟩
theorem cons_laws_eqRat : ConsOk Try.prog E_laws_eqRat.cons := consOk_cons m_laws_eqBigInt (callable_of Try.func89 (by kernel_rfl)) (consOk_cons m_laws_eqIntS (callable_of Try.func90 (by kernel_rfl)) (consOk_nil))
theorem loops_laws_eqRat : loopsIn code_laws_eqRat = [] := by kernel_rfl
theorem m_laws_eqRat : Meets Try.prog 19 c_laws_eqRat := meets_of (E := E_laws_eqRat) (code := code_laws_eqRat) mix lay_ok cons_laws_eqRat Try.func19 (by kernel_rfl) sg_laws_eqRat (by kernel_rfl) (fun y => y.1) c_laws_eqRat.out (fun _ => rfl) c_laws_eqRat.run (fun x => by kernel_rfl) (by kernel_rfl) (loops_mem loops_laws_eqRat (trivial))

noncomputable def sg_laws_markIntS_md : Sig := ⟨[(false, [.own 63]), (false, [.d (.int .i64)])], [(63, .arr false .int)], false, [(false, [.d (.int .i64)])], [(63, .arr false .int)]⟩
noncomputable def c_laws_markIntS_md : Con := ⟨sg_laws_markIntS_md, Int × List Int, fun x => M_laws_markIntS_md x.2.1 x.1, fun r => (r.1, r.2, ())⟩
noncomputable def code_laws_markIntS_md : Code := Try.f92.body.getD .skip
noncomputable def body_laws_markIntS_md_0 : Code := (loopsIn code_laws_markIntS_md).getD 0 .skip
noncomputable def D_laws_markIntS_md_0 : LoopD := ⟨⟨mkSlots [(0, false, [.own 63]), (1, false, [.d (.int .i64)]), (5, false, [.d (.int .i64)])] 19 0, [(63, .arr false .int)]⟩, [], [(.exit 0, ⟨mkSlots [(1, false, [.d (.int .i64)])] 19 0, [(63, .arr false .int)]⟩, [])]⟩
noncomputable def S_laws_markIntS_md_0_w (x : Tys D_laws_markIntS_md_0.head.ks) : Option (OutT D_laws_markIntS_md_0.outs) := @whileO (Int × Int × (List Int) × Unit) (Int × (List Int) × Unit) S_laws_markIntS_md_0 x
noncomputable def E_laws_markIntS_md : Env := ⟨lay, [], [(2, mkLM D_laws_markIntS_md_0 S_laws_markIntS_md_0_w)], []⟩
theorem cons_laws_markIntS_md : ConsOk Try.prog E_laws_markIntS_md.cons := consOk_nil
theorem S_laws_markIntS_md_0_ok (x : Tys D_laws_markIntS_md_0.head.ks) : stepL E_laws_markIntS_md D_laws_markIntS_md_0 body_laws_markIntS_md_0 x = S_laws_markIntS_md_0 x := by kernel_rfl
theorem loops_laws_markIntS_md_0 : loopsIn body_laws_markIntS_md_0 = [] := by kernel_rfl
theorem l_laws_markIntS_md_0 : LoopOk Try.prog (mkLM D_laws_markIntS_md_0 S_laws_markIntS_md_0_w) body_laws_markIntS_md_0 := loop_ok2 mix lay_ok cons_laws_markIntS_md (by kernel_rfl) (loops_mem loops_laws_markIntS_md_0 (trivial)) S_laws_markIntS_md_0_ok fun _ _ h => h
theorem loops_laws_markIntS_md : loopsIn code_laws_markIntS_md = [body_laws_markIntS_md_0] := by kernel_rfl
theorem m_laws_markIntS_md : Meets Try.prog 92 c_laws_markIntS_md := meets_of (E := E_laws_markIntS_md) (code := code_laws_markIntS_md) mix lay_ok cons_laws_markIntS_md Try.func92 (by kernel_rfl) sg_laws_markIntS_md (by kernel_rfl) (fun y => (y.1, y.2.1)) c_laws_markIntS_md.out (fun _ => rfl) c_laws_markIntS_md.run (fun x => by kernel_rfl) (by kernel_rfl) (loops_mem loops_laws_markIntS_md (⟨⟨_, by kernel_rfl, l_laws_markIntS_md_0⟩, trivial⟩))

noncomputable def sg_laws_markBigInt_md : Sig := ⟨[(true, [.d (.bool), .own 127]), (false, [.d (.int .i64)])], [(127, .arr false .int)], false, [(false, [.d (.int .i64)])], [(127, .arr false .int)]⟩
noncomputable def c_laws_markBigInt_md : Con := ⟨sg_laws_markBigInt_md, Int × List Int, fun x => M_laws_markBigInt_md (⟨x.1, x.2.2.1⟩ : Bg) x.2.1, fun r => (r.1, r.2, ())⟩
noncomputable def code_laws_markBigInt_md : Code := Try.f91.body.getD .skip
noncomputable def E_laws_markBigInt_md : Env := ⟨lay, [(92, c_laws_markIntS_md)], [], []⟩
theorem cons_laws_markBigInt_md : ConsOk Try.prog E_laws_markBigInt_md.cons := consOk_cons m_laws_markIntS_md (callable_of Try.func92 (by kernel_rfl)) (consOk_nil)
theorem loops_laws_markBigInt_md : loopsIn code_laws_markBigInt_md = [] := by kernel_rfl
theorem m_laws_markBigInt_md : Meets Try.prog 91 c_laws_markBigInt_md := meets_of (E := E_laws_markBigInt_md) (code := code_laws_markBigInt_md) mix lay_ok cons_laws_markBigInt_md Try.func91 (by kernel_rfl) sg_laws_markBigInt_md (by kernel_rfl) (fun y => (y.1, y.2.1)) c_laws_markBigInt_md.out (fun _ => rfl) c_laws_markBigInt_md.run (fun x => by kernel_rfl) (by kernel_rfl) (loops_mem loops_laws_markBigInt_md (trivial))

noncomputable def sg_laws_markRat_md : Sig := ⟨[(true, [.d (.bool), .own 127, .own 191]), (false, [.d (.int .i64)])], [(127, .arr false .int), (191, .arr false .int)], false, [(false, [.d (.int .i64)])], [(127, .arr false .int), (191, .arr false .int)]⟩
noncomputable def c_laws_markRat_md : Con := ⟨sg_laws_markRat_md, Int × List Int × List Int, fun x => M_laws_markRat_md (⟨x.1, x.2.2.1, x.2.2.2.1⟩ : Rt) x.2.1, fun r => (r.1, r.2.1, r.2.2, ())⟩
noncomputable def code_laws_markRat_md : Code := Try.f20.body.getD .skip
noncomputable def E_laws_markRat_md : Env := ⟨lay, [(91, c_laws_markBigInt_md), (92, c_laws_markIntS_md)], [], []⟩
theorem cons_laws_markRat_md : ConsOk Try.prog E_laws_markRat_md.cons := consOk_cons m_laws_markBigInt_md (callable_of Try.func91 (by kernel_rfl)) (consOk_cons m_laws_markIntS_md (callable_of Try.func92 (by kernel_rfl)) (consOk_nil))
theorem loops_laws_markRat_md : loopsIn code_laws_markRat_md = [] := by kernel_rfl
theorem m_laws_markRat_md : Meets Try.prog 20 c_laws_markRat_md := meets_of (E := E_laws_markRat_md) (code := code_laws_markRat_md) mix lay_ok cons_laws_markRat_md Try.func20 (by kernel_rfl) sg_laws_markRat_md (by kernel_rfl) (fun y => (y.1, y.2.1, y.2.2.1)) c_laws_markRat_md.out (fun _ => rfl) c_laws_markRat_md.run (fun x => by kernel_rfl) (by kernel_rfl) (loops_mem loops_laws_markRat_md (trivial))

noncomputable def sg_laws_heldIntS : Sig := ⟨[(false, [.d (.sl .int)]), (false, [.d (.int .i64)])], [], false, [(false, [.d (.int .i64)])], []⟩
noncomputable def c_laws_heldIntS : Con := ⟨sg_laws_heldIntS, Int, fun x => M_laws_heldIntS x.1 x.2.1, fun r => (r, ())⟩
noncomputable def code_laws_heldIntS : Code := Try.f94.body.getD .skip
noncomputable def body_laws_heldIntS_0 : Code := (loopsIn code_laws_heldIntS).getD 0 .skip
noncomputable def D_laws_heldIntS_0 : LoopD := ⟨⟨mkSlots [(0, false, [.d (.sl .int)]), (1, false, [.d (.int .i64)]), (5, false, [.d (.int .i64)])] 21 0, []⟩, [], [(.ret, ⟨mkSlots [(4, false, [.d (.int .i64)])] 21 0, []⟩, []), (.exit 0, ⟨mkSlots [(1, false, [.d (.int .i64)])] 21 0, []⟩, [])]⟩
noncomputable def S_laws_heldIntS_0_w (x : Tys D_laws_heldIntS_0.head.ks) : Option (OutT D_laws_heldIntS_0.outs) := @whileO ((List Int) × Int × Int × Unit) ((Int × Unit) ⊕ (Int × Unit)) S_laws_heldIntS_0 x
noncomputable def E_laws_heldIntS : Env := ⟨lay, [], [(2, mkLM D_laws_heldIntS_0 S_laws_heldIntS_0_w)], []⟩
theorem cons_laws_heldIntS : ConsOk Try.prog E_laws_heldIntS.cons := consOk_nil
theorem S_laws_heldIntS_0_ok (x : Tys D_laws_heldIntS_0.head.ks) : stepL E_laws_heldIntS D_laws_heldIntS_0 body_laws_heldIntS_0 x = S_laws_heldIntS_0 x := by kernel_rfl
theorem loops_laws_heldIntS_0 : loopsIn body_laws_heldIntS_0 = [] := by kernel_rfl
theorem l_laws_heldIntS_0 : LoopOk Try.prog (mkLM D_laws_heldIntS_0 S_laws_heldIntS_0_w) body_laws_heldIntS_0 := loop_ok2 mix lay_ok cons_laws_heldIntS (by kernel_rfl) (loops_mem loops_laws_heldIntS_0 (trivial)) S_laws_heldIntS_0_ok fun _ _ h => h
theorem loops_laws_heldIntS : loopsIn code_laws_heldIntS = [body_laws_heldIntS_0] := by kernel_rfl
theorem m_laws_heldIntS : Meets Try.prog 94 c_laws_heldIntS := meets_of (E := E_laws_heldIntS) (code := code_laws_heldIntS) mix lay_ok cons_laws_heldIntS Try.func94 (by kernel_rfl) sg_laws_heldIntS (by kernel_rfl) (fun y => y.1) c_laws_heldIntS.out (fun _ => rfl) c_laws_heldIntS.run (fun x => by kernel_rfl) (by kernel_rfl) (loops_mem loops_laws_heldIntS (⟨⟨_, by kernel_rfl, l_laws_heldIntS_0⟩, trivial⟩))

noncomputable def sg_laws_heldBigInt : Sig := ⟨[(true, [.d (.bool), .d (.sl .int)]), (false, [.d (.int .i64)])], [], false, [(false, [.d (.int .i64)])], []⟩
noncomputable def c_laws_heldBigInt : Con := ⟨sg_laws_heldBigInt, Int, fun x => M_laws_heldBigInt (⟨x.1, x.2.1⟩ : Bg) x.2.2.1, fun r => (r, ())⟩
noncomputable def code_laws_heldBigInt : Code := Try.f93.body.getD .skip
noncomputable def E_laws_heldBigInt : Env := ⟨lay, [(94, c_laws_heldIntS)], [], []⟩
theorem cons_laws_heldBigInt : ConsOk Try.prog E_laws_heldBigInt.cons := consOk_cons m_laws_heldIntS (callable_of Try.func94 (by kernel_rfl)) (consOk_nil)
theorem loops_laws_heldBigInt : loopsIn code_laws_heldBigInt = [] := by kernel_rfl
theorem m_laws_heldBigInt : Meets Try.prog 93 c_laws_heldBigInt := meets_of (E := E_laws_heldBigInt) (code := code_laws_heldBigInt) mix lay_ok cons_laws_heldBigInt Try.func93 (by kernel_rfl) sg_laws_heldBigInt (by kernel_rfl) (fun y => y.1) c_laws_heldBigInt.out (fun _ => rfl) c_laws_heldBigInt.run (fun x => by kernel_rfl) (by kernel_rfl) (loops_mem loops_laws_heldBigInt (trivial))

noncomputable def sg_laws_heldRat : Sig := ⟨[(true, [.d (.bool), .d (.sl .int), .d (.sl .int)]), (false, [.d (.int .i64)])], [], false, [(false, [.d (.int .i64)])], []⟩
noncomputable def c_laws_heldRat : Con := ⟨sg_laws_heldRat, Int, fun x => M_laws_heldRat (⟨x.1, x.2.1, x.2.2.1⟩ : Rt) x.2.2.2.1, fun r => (r, ())⟩
noncomputable def code_laws_heldRat : Code := Try.f21.body.getD .skip
noncomputable def E_laws_heldRat : Env := ⟨lay, [(93, c_laws_heldBigInt), (94, c_laws_heldIntS)], [], []⟩
theorem cons_laws_heldRat : ConsOk Try.prog E_laws_heldRat.cons := consOk_cons m_laws_heldBigInt (callable_of Try.func93 (by kernel_rfl)) (consOk_cons m_laws_heldIntS (callable_of Try.func94 (by kernel_rfl)) (consOk_nil))
theorem loops_laws_heldRat : loopsIn code_laws_heldRat = [] := by kernel_rfl
theorem m_laws_heldRat : Meets Try.prog 21 c_laws_heldRat := meets_of (E := E_laws_heldRat) (code := code_laws_heldRat) mix lay_ok cons_laws_heldRat Try.func21 (by kernel_rfl) sg_laws_heldRat (by kernel_rfl) (fun y => y.1) c_laws_heldRat.out (fun _ => rfl) c_laws_heldRat.run (fun x => by kernel_rfl) (by kernel_rfl) (loops_mem loops_laws_heldRat (trivial))

noncomputable def sg_laws_FnExactHalfTangent : Sig := ⟨[(true, [.d (.bool), .d (.sl .int), .d (.sl .int)]), (true, [.d (.bool), .d (.sl .int), .d (.sl .int)])], [], false, [(false, [.d (.bool)])], []⟩
noncomputable def c_laws_FnExactHalfTangent : Con := ⟨sg_laws_FnExactHalfTangent, Bool, fun x => M_laws_FnExactHalfTangent (⟨x.1, x.2.1, x.2.2.1⟩ : Rt) (⟨x.2.2.2.1, x.2.2.2.2.1, x.2.2.2.2.2.1⟩ : Rt), fun r => (r, ())⟩
noncomputable def code_laws_FnExactHalfTangent : Code := Try.f12.body.getD .skip
noncomputable def E_laws_FnExactHalfTangent : Env := ⟨lay, [(15, c_laws_szRat), (17, c_laws_toRat), (66, c_spec_HalfTangent), (67, c_impl_HalfTangent), (19, c_laws_eqRat), (20, c_laws_markRat_md), (21, c_laws_heldRat)], [], [(8, [(0, []), (2, []), (1, [0]), (3, [2, 1, 0]), (4, [1, 3, 0, 2]), (5, []), (6, [5, 4, 0, 1, 2, 3])]), (14, [(0, []), (1, []), (2, [1]), (3, [0, 2, 1]), (4, [])]), (16, [(0, []), (1, []), (2, [1]), (3, [0, 2, 1]), (4, [])]), (31, [(0, []), (2, []), (1, [0]), (3, [2, 1, 0]), (4, [1, 3, 0, 2]), (5, []), (6, [5, 4, 0, 1, 2, 3])])]⟩
theorem cons_laws_FnExactHalfTangent : ConsOk Try.prog E_laws_FnExactHalfTangent.cons := consOk_cons m_laws_szRat (callable_of Try.func15 (by kernel_rfl)) (consOk_cons m_laws_toRat (callable_of Try.func17 (by kernel_rfl)) (consOk_cons m_spec_HalfTangent (callable_of Try.func66 (by kernel_rfl)) (consOk_cons m_impl_HalfTangent (callable_of Try.func67 (by kernel_rfl)) (consOk_cons m_laws_eqRat (callable_of Try.func19 (by kernel_rfl)) (consOk_cons m_laws_markRat_md (callable_of Try.func20 (by kernel_rfl)) (consOk_cons m_laws_heldRat (callable_of Try.func21 (by kernel_rfl)) (consOk_nil)))))))
theorem loops_laws_FnExactHalfTangent : loopsIn code_laws_FnExactHalfTangent = [] := by kernel_rfl
theorem m_laws_FnExactHalfTangent : Meets Try.prog 12 c_laws_FnExactHalfTangent := meets_of (E := E_laws_FnExactHalfTangent) (code := code_laws_FnExactHalfTangent) mix lay_ok cons_laws_FnExactHalfTangent Try.func12 (by kernel_rfl) sg_laws_FnExactHalfTangent (by kernel_rfl) (fun y => y.1) c_laws_FnExactHalfTangent.out (fun _ => rfl) c_laws_FnExactHalfTangent.run (fun x => by kernel_rfl) (by kernel_rfl) (loops_mem loops_laws_FnExactHalfTangent (trivial))
end Go.Proofs.Ytjdajoianejebaa.WHalfTangent
