/-
  Own work: part 8 of the texts that the proof of the given statement leans on.
-/
import Derived.Test.YtdkfcdncamimmaaGreatDoorProg
import Derived.Test.YtdkfcdncamimmaaGreatDoorZParseBookCardP00
open Go Go.Di Go.Proofs
namespace Go.Proofs.YtdkfcdncamimmaaGreatDoor.WParseBook
def FX:Nat → Option (Array Value → Prop):=Fo.FX
noncomputable def lay:List (TypeId × TI):=[
  (3,⟨false,[.d (.int .i64 0)],[],none,some (.int .i64),false,false⟩),
  (4,⟨false,[.d (.bool false)],[],none,some .bool,false,false⟩),
  (5,⟨false,[.d (.int .u8 0)],[],none,some (.int .u8),false,false⟩),
  (9,⟨false,[.d (.str ByteArray.empty)],[],none,some .str,false,false⟩),
  (26,⟨false,[.mt],[],some .int,none,false,false⟩),
  (28,⟨true,[.d (.bool false),.mt],[(0,1,false),(1,1,false)],none,none,true,false⟩),
  (30,⟨true,[.d (.bool false),.mt,.mt],[(0,2,true),(2,1,false)],none,none,true,false⟩),
  (32,⟨true,[.d (.int .i64 0),.d (.int .i64 0),.d (.int .i64 0),.d (.bool false),.mt,.mt,.d (.bool false),.mt,.mt],[(0,1,false),(1,1,false),(2,1,false),(3,3,true),(6,3,true)],none,none,true,false⟩),
  (35,⟨false,[.mt],[],some .sta,none,false,false⟩),
  (37,⟨true,[.d (.bool false),.mt],[(0,1,false),(1,1,false)],none,none,true,false⟩),
  (44,⟨false,[.mt],[],some .byte,none,false,false⟩),
  (45,⟨false,[.mt],[],some .obs,none,false,false⟩),
  (49,⟨true,[.d (.bool false),.mt,.mt],[(0,2,true),(2,1,false)],none,none,true,false⟩),
  (77,⟨false,[.mt],[],some .str,none,false,false⟩),
  (96,⟨true,[.d (.str ByteArray.empty),.d (.bool false),.mt,.mt,.d (.bool false),.mt,.mt,.d (.bool false)],[(0,1,false),(1,3,true),(4,3,true),(7,1,false)],none,none,true,false⟩)]
noncomputable def layD:List (TypeId × TI):=[
  (3,⟨false,[.d (.int .i64 0)],[],none,some (.int .i64),false,false⟩),
  (4,⟨false,[.d (.bool false)],[],none,some .bool,false,false⟩),
  (5,⟨false,[.d (.int .u8 0)],[],none,some (.int .u8),false,false⟩),
  (9,⟨false,[.d (.str ByteArray.empty)],[],none,some .str,false,false⟩),
  (26,⟨false,[.mt],[],some .int,none,false,false⟩),
  (28,⟨true,[.d (.bool false),.mt],[(0,1,false),(1,1,false)],none,none,true,false⟩),
  (30,⟨true,[.d (.bool false),.mt,.mt],[(0,2,true),(2,1,false)],none,none,true,false⟩),
  (32,⟨true,[.d (.int .i64 0),.d (.int .i64 0),.d (.int .i64 0),.d (.bool false),.mt,.mt,.d (.bool false),.mt,.mt],[(0,1,false),(1,1,false),(2,1,false),(3,3,true),(6,3,true)],none,none,true,false⟩),
  (35,⟨false,[.mt],[],some .sta,none,false,true⟩),
  (37,⟨true,[.d (.bool false),.mt],[(0,1,false),(1,1,false)],none,none,true,false⟩),
  (44,⟨false,[.mt],[],some .byte,none,false,false⟩),
  (45,⟨false,[.mt],[],some .obs,none,false,true⟩),
  (49,⟨true,[.d (.bool false),.mt,.mt],[(0,2,true),(2,1,false)],none,none,true,false⟩),
  (77,⟨false,[.mt],[],some .str,none,false,false⟩),
  (96,⟨true,[.d (.str ByteArray.empty),.d (.bool false),.mt,.mt,.d (.bool false),.mt,.mt,.d (.bool false)],[(0,1,false),(1,3,true),(4,3,true),(7,1,false)],none,none,true,false⟩)]
theorem lay_ok:LayOk Tryz.prog lay:=layOk_ok (by kernel_rfl)
theorem layD_ok:LayOk Tryz.prog layD:=layOk_ok (by kernel_rfl)
theorem mix:Tryz.prog.follows .mixedOrders = true:=by kernel_rfl
noncomputable def sg_q1:Sig:=⟨[(false,[.d (.str)]),(false,[.d (.str)])],[],false,[(false,[.own 0])],[(0,.arr false .str)]⟩
noncomputable def c_q1:Con:=⟨sg_q1,List ByteArray,fun x => M_spec_SplitAny x.1 x.2.1,fun r => (r,())⟩
noncomputable def code_q1:Code:=Tryz.f37.body.getD .skip
noncomputable def body_q1_0:Code:=(loopsIn code_q1).getD 0 .skip
noncomputable def body_q1_1:Code:=(loopsIn body_q1_0).getD 0 .skip
noncomputable def D_q1_0:LoopD:=⟨⟨mkSlots [(0,false,[.d (.str)]),(1,false,[.d (.str)]),(5,false,[.own 2880]),(6,false,[.d (.int .i64)]),(7,false,[.d (.int .i64)])] 44 0,[(2880,.arr false .str)]⟩,[(.slot 5 0,2880,.str)],[(.exit 0,⟨mkSlots [(0,false,[.d (.str)]),(5,false,[.own 2880]),(6,false,[.d (.int .i64)])] 44 0,[(2880,.arr false .str)]⟩,[(.slot 5 0,2880,.str)])]⟩
noncomputable def D_q1_1:LoopD:=⟨⟨mkSlots [(0,false,[.d (.str)]),(1,false,[.d (.str)]),(5,false,[.own 2880]),(6,false,[.d (.int .i64)]),(7,false,[.d (.int .i64)]),(8,false,[.d (.int .i64)])] 44 0,[(2880,.arr false .str)]⟩,[(.slot 5 0,2880,.str)],[(.exit 2,⟨mkSlots [(0,false,[.d (.str)]),(1,false,[.d (.str)]),(5,false,[.own 2880]),(6,false,[.d (.int .i64)]),(7,false,[.d (.int .i64)])] 44 0,[(2880,.arr false .str)]⟩,[(.slot 5 0,2880,.str)])]⟩
noncomputable def S_q1_0_w (x:Tys D_q1_0.head.ks):Option (OutT D_q1_0.outs):=@whileO (ByteArray × ByteArray × Int × Int × (List ByteArray) × Unit) (ByteArray × Int × (List ByteArray) × Unit) S_spec_SplitAny_0 x
noncomputable def S_q1_1_w (x:Tys D_q1_1.head.ks):Option (OutT D_q1_1.outs):=@whileO (ByteArray × ByteArray × Int × Int × Int × (List ByteArray) × Unit) (ByteArray × ByteArray × Int × Int × (List ByteArray) × Unit) S_spec_SplitAny_1 x
noncomputable def E_q1:Env:=⟨layD,[],[(4,mkLM D_q1_0 S_q1_0_w),(7,mkLM D_q1_1 S_q1_1_w)],[(9,[(0,[]),(1,[]),(2,[]),(3,[]),(4,[]),(5,[]),(6,[])])]⟩
theorem cons_q1:ConsOk Tryz.prog FX E_q1.cons:=consOk_nil
theorem S_q1_1_ok (x:Tys D_q1_1.head.ks):stepL E_q1 D_q1_1 body_q1_1 x = S_spec_SplitAny_1 x:=by kernel_rfl
theorem loops_q1_1:loopsIn body_q1_1 = []:=by kernel_rfl
theorem l_q1_1:LoopOk Tryz.prog FX (mkLM D_q1_1 S_q1_1_w) body_q1_1:=loop_ok2 mix layD_ok cons_q1 (by kernel_rfl) (loops_mem loops_q1_1 (trivial)) S_q1_1_ok fun _ _ h => h
theorem S_q1_0_ok (x:Tys D_q1_0.head.ks):stepL E_q1 D_q1_0 body_q1_0 x = S_spec_SplitAny_0 x:=by kernel_rfl
theorem loops_q1_0:loopsIn body_q1_0 = [body_q1_1]:=by kernel_rfl
theorem l_q1_0:LoopOk Tryz.prog FX (mkLM D_q1_0 S_q1_0_w) body_q1_0:=loop_ok2 mix layD_ok cons_q1 (by kernel_rfl) (loops_mem loops_q1_0 (⟨⟨_,by kernel_rfl,l_q1_1⟩,trivial⟩)) S_q1_0_ok fun _ _ h => h
theorem loops_q1:loopsIn code_q1 = [body_q1_0]:=by kernel_rfl
theorem m_q1:Meets Tryz.prog FX 37 c_q1:=meets_of (E:=E_q1) (code:=code_q1) mix layD_ok cons_q1 Tryz.func37 (by kernel_rfl) sg_q1 (by kernel_rfl) (fun y => y.1) c_q1.out (fun _ => rfl) c_q1.run (fun x => by kernel_rfl) (by kernel_rfl) (loops_mem loops_q1 (⟨⟨_,by kernel_rfl,l_q1_0⟩,trivial⟩))
noncomputable def sg_q2:Sig:=⟨[(false,[.d (.str)])],[],false,[(false,[.own 0])],[(0,.arr false .str)]⟩
noncomputable def c_q2:Con:=⟨sg_q2,List ByteArray,fun x => M_spec_SplitLines x.1,fun r => (r,())⟩
noncomputable def code_q2:Code:=Tryz.f69.body.getD .skip
noncomputable def E_q2:Env:=⟨layD,[(37,c_q1)],[],[]⟩
theorem cons_q2:ConsOk Tryz.prog FX E_q2.cons:=consOk_cons m_q1 (callable_of Tryz.func37 (by kernel_rfl)) (consOk_nil)
theorem loops_q2:loopsIn code_q2 = []:=by kernel_rfl
theorem m_q2:Meets Tryz.prog FX 69 c_q2:=meets_of (E:=E_q2) (code:=code_q2) mix layD_ok cons_q2 Tryz.func69 (by kernel_rfl) sg_q2 (by kernel_rfl) (fun y => y.1) c_q2.out (fun _ => rfl) c_q2.run (fun x => by kernel_rfl) (by kernel_rfl) (loops_mem loops_q2 (trivial))
noncomputable def sg_q3:Sig:=⟨[(false,[.d (.sl .int)])],[],false,[(false,[.d (.sl .int)])],[]⟩
noncomputable def c_q3:Con:=⟨sg_q3,List Int,fun x => M_spec_l02Trim x.1,fun r => (r,())⟩
noncomputable def code_q3:Code:=Tryz.f130.body.getD .skip
noncomputable def body_q3_0:Code:=(loopsIn code_q3).getD 0 .skip
noncomputable def D_q3_0:LoopD:=⟨⟨mkSlots [(0,false,[.d (.sl .int)]),(3,false,[.d (.int .i64)])] 21 0,[]⟩,[],[(.exit 0,⟨mkSlots [(0,false,[.d (.sl .int)]),(3,false,[.d (.int .i64)])] 21 0,[]⟩,[])]⟩
noncomputable def S_q3_0_w (x:Tys D_q3_0.head.ks):Option (OutT D_q3_0.outs):=@whileO ((List Int) × Int × Unit) ((List Int) × Int × Unit) S_spec_l02Trim_0 x
noncomputable def E_q3:Env:=⟨layD,[],[(2,mkLM D_q3_0 S_q3_0_w)],[]⟩
theorem cons_q3:ConsOk Tryz.prog FX E_q3.cons:=consOk_nil
theorem S_q3_0_ok (x:Tys D_q3_0.head.ks):stepL E_q3 D_q3_0 body_q3_0 x = S_spec_l02Trim_0 x:=by kernel_rfl
theorem loops_q3_0:loopsIn body_q3_0 = []:=by kernel_rfl
theorem l_q3_0:LoopOk Tryz.prog FX (mkLM D_q3_0 S_q3_0_w) body_q3_0:=loop_ok2 mix layD_ok cons_q3 (by kernel_rfl) (loops_mem loops_q3_0 (trivial)) S_q3_0_ok fun _ _ h => h
theorem loops_q3:loopsIn code_q3 = [body_q3_0]:=by kernel_rfl
theorem m_q3:Meets Tryz.prog FX 130 c_q3:=meets_of (E:=E_q3) (code:=code_q3) mix layD_ok cons_q3 Tryz.func130 (by kernel_rfl) sg_q3 (by kernel_rfl) (fun y => y.1) c_q3.out (fun _ => rfl) c_q3.run (fun x => by kernel_rfl) (by kernel_rfl) (loops_mem loops_q3 (⟨⟨_,by kernel_rfl,l_q3_0⟩,trivial⟩))
noncomputable def sg_q4:Sig:=⟨[(false,[.d (.sl .int)])],[],false,[(false,[.d (.sl .int)])],[]⟩
noncomputable def c_q4:Con:=⟨sg_q4,List Int,fun x => M_spec_l02Cap x.1,fun r => (r,())⟩
noncomputable def code_q4:Code:=Tryz.f211.body.getD .skip
noncomputable def E_q4:Env:=⟨layD,[(130,c_q3)],[],[]⟩
theorem cons_q4:ConsOk Tryz.prog FX E_q4.cons:=consOk_cons m_q3 (callable_of Tryz.func130 (by kernel_rfl)) (consOk_nil)
theorem loops_q4:loopsIn code_q4 = []:=by kernel_rfl
theorem m_q4:Meets Tryz.prog FX 211 c_q4:=meets_of (E:=E_q4) (code:=code_q4) mix layD_ok cons_q4 Tryz.func211 (by kernel_rfl) sg_q4 (by kernel_rfl) (fun y => y.1) c_q4.out (fun _ => rfl) c_q4.run (fun x => by kernel_rfl) (by kernel_rfl) (loops_mem loops_q4 (trivial))
noncomputable def sg_q5:Sig:=⟨[(false,[.d (.bool)]),(false,[.d (.sl .int)])],[],false,[(true,[.d (.bool),.own 0])],[(0,.arr false .int)]⟩
noncomputable def c_q5:Con:=⟨sg_q5,Bg,fun x => M_spec_l03Make x.1 x.2.1,fun r => (r.neg,r.mag,())⟩
noncomputable def code_q5:Code:=Tryz.f179.body.getD .skip
noncomputable def E_q5:Env:=⟨layD,[(211,c_q4)],[],[]⟩
theorem cons_q5:ConsOk Tryz.prog FX E_q5.cons:=consOk_cons m_q4 (callable_of Tryz.func211 (by kernel_rfl)) (consOk_nil)
theorem loops_q5:loopsIn code_q5 = []:=by kernel_rfl
theorem m_q5:Meets Tryz.prog FX 179 c_q5:=meets_of (E:=E_q5) (code:=code_q5) mix layD_ok cons_q5 Tryz.func179 (by kernel_rfl) sg_q5 (by kernel_rfl) (fun y => (⟨y.1,y.2.1⟩:Bg)) c_q5.out (fun _ => rfl) c_q5.run (fun x => by kernel_rfl) (by kernel_rfl) (loops_mem loops_q5 (trivial))
noncomputable def sg_q6:Sig:=⟨[(false,[.d (.int .i64)])],[],false,[(false,[.own 0])],[(0,.arr false .int)]⟩
noncomputable def c_q6:Con:=⟨sg_q6,List Int,fun x => M_spec_NatOf x.1,fun r => (r,())⟩
noncomputable def code_q6:Code:=Tryz.f207.body.getD .skip
noncomputable def body_q6_0:Code:=(loopsIn code_q6).getD 0 .skip
noncomputable def D_q6_0:LoopD:=⟨⟨mkSlots [(0,false,[.d (.int .i64)]),(3,false,[.own 1024])] 15 0,[(1024,.arr false .int)]⟩,[(.slot 3 0,1024,.int)],[(.exit 0,⟨mkSlots [(3,false,[.own 1024])] 15 0,[(1024,.arr false .int)]⟩,[(.slot 3 0,1024,.int)])]⟩
noncomputable def S_q6_0_w (x:Tys D_q6_0.head.ks):Option (OutT D_q6_0.outs):=@whileO (Int × (List Int) × Unit) ((List Int) × Unit) S_spec_NatOf_0 x
noncomputable def E_q6:Env:=⟨layD,[],[(2,mkLM D_q6_0 S_q6_0_w)],[]⟩
theorem cons_q6:ConsOk Tryz.prog FX E_q6.cons:=consOk_nil
theorem S_q6_0_ok (x:Tys D_q6_0.head.ks):stepL E_q6 D_q6_0 body_q6_0 x = S_spec_NatOf_0 x:=by kernel_rfl
theorem loops_q6_0:loopsIn body_q6_0 = []:=by kernel_rfl
theorem l_q6_0:LoopOk Tryz.prog FX (mkLM D_q6_0 S_q6_0_w) body_q6_0:=loop_ok2 mix layD_ok cons_q6 (by kernel_rfl) (loops_mem loops_q6_0 (trivial)) S_q6_0_ok fun _ _ h => h
theorem loops_q6:loopsIn code_q6 = [body_q6_0]:=by kernel_rfl
theorem m_q6:Meets Tryz.prog FX 207 c_q6:=meets_of (E:=E_q6) (code:=code_q6) mix layD_ok cons_q6 Tryz.func207 (by kernel_rfl) sg_q6 (by kernel_rfl) (fun y => y.1) c_q6.out (fun _ => rfl) c_q6.run (fun x => by kernel_rfl) (by kernel_rfl) (loops_mem loops_q6 (⟨⟨_,by kernel_rfl,l_q6_0⟩,trivial⟩))
noncomputable def sg_q7:Sig:=⟨[(false,[.d (.int .i64)])],[],false,[(true,[.d (.bool),.own 0])],[(0,.arr false .int)]⟩
noncomputable def c_q7:Con:=⟨sg_q7,Bg,fun x => M_spec_BigIntOf x.1,fun r => (r.neg,r.mag,())⟩
noncomputable def code_q7:Code:=Tryz.f175.body.getD .skip
noncomputable def E_q7:Env:=⟨layD,[(179,c_q5),(207,c_q6)],[],[]⟩
theorem cons_q7:ConsOk Tryz.prog FX E_q7.cons:=consOk_cons m_q5 (callable_of Tryz.func179 (by kernel_rfl)) (consOk_cons m_q6 (callable_of Tryz.func207 (by kernel_rfl)) (consOk_nil))
theorem loops_q7:loopsIn code_q7 = []:=by kernel_rfl
theorem m_q7:Meets Tryz.prog FX 175 c_q7:=meets_of (E:=E_q7) (code:=code_q7) mix layD_ok cons_q7 Tryz.func175 (by kernel_rfl) sg_q7 (by kernel_rfl) (fun y => (⟨y.1,y.2.1⟩:Bg)) c_q7.out (fun _ => rfl) c_q7.run (fun x => by kernel_rfl) (by kernel_rfl) (loops_mem loops_q7 (trivial))
noncomputable def sg_q8:Sig:=⟨[(false,[.d (.int .i64)])],[],false,[(true,[.d (.bool),.own 0,.own 1])],[(0,.arr false .int),(1,.arr false .int)]⟩
noncomputable def c_q8:Con:=⟨sg_q8,Rt,fun x => M_spec_RatFromInt x.1,fun r => (r.neg,r.mag,r.den,())⟩
noncomputable def code_q8:Code:=Tryz.f145.body.getD .skip
noncomputable def E_q8:Env:=⟨layD,[(175,c_q7)],[],[]⟩
theorem cons_q8:ConsOk Tryz.prog FX E_q8.cons:=consOk_cons m_q7 (callable_of Tryz.func175 (by kernel_rfl)) (consOk_nil)
theorem loops_q8:loopsIn code_q8 = []:=by kernel_rfl
theorem m_q8:Meets Tryz.prog FX 145 c_q8:=meets_of (E:=E_q8) (code:=code_q8) mix layD_ok cons_q8 Tryz.func145 (by kernel_rfl) sg_q8 (by kernel_rfl) (fun y => (⟨y.1,y.2.1,y.2.2.1⟩:Rt)) c_q8.out (fun _ => rfl) c_q8.run (fun x => by kernel_rfl) (by kernel_rfl) (loops_mem loops_q8 (trivial))
noncomputable def sg_q9:Sig:=⟨[],[],false,[(true,[.d (.bool),.own 0,.own 1])],[(0,.arr false .int),(1,.arr false .int)]⟩
noncomputable def c_q9:Con:=⟨sg_q9,Rt,fun _ => M_spec_l05Zero,fun r => (r.neg,r.mag,r.den,())⟩
noncomputable def code_q9:Code:=Tryz.f118.body.getD .skip
noncomputable def E_q9:Env:=⟨layD,[(145,c_q8)],[],[]⟩
theorem cons_q9:ConsOk Tryz.prog FX E_q9.cons:=consOk_cons m_q8 (callable_of Tryz.func145 (by kernel_rfl)) (consOk_nil)
theorem loops_q9:loopsIn code_q9 = []:=by kernel_rfl
theorem m_q9:Meets Tryz.prog FX 118 c_q9:=meets_of (E:=E_q9) (code:=code_q9) mix layD_ok cons_q9 Tryz.func118 (by kernel_rfl) sg_q9 (by kernel_rfl) (fun y => (⟨y.1,y.2.1,y.2.2.1⟩:Rt)) c_q9.out (fun _ => rfl) c_q9.run (fun x => by kernel_rfl) (by kernel_rfl) (loops_mem loops_q9 (trivial))
noncomputable def sg_q10:Sig:=⟨[(false,[.d (.str)])],[],false,[(false,[.d (.bool)])],[]⟩
noncomputable def c_q10:Con:=⟨sg_q10,Bool,fun x => M_spec_IsDigits x.1,fun r => (r,())⟩
noncomputable def code_q10:Code:=Tryz.f129.body.getD .skip
noncomputable def body_q10_0:Code:=(loopsIn code_q10).getD 0 .skip
noncomputable def D_q10_0:LoopD:=⟨⟨mkSlots [(0,false,[.d (.str)]),(3,false,[.d (.int .i64)])] 23 0,[]⟩,[],[(.ret,⟨mkSlots [(2,false,[.d (.bool)])] 23 0,[]⟩,[]),(.exit 0,⟨mkSlots [(0,false,[.d (.str)])] 23 0,[]⟩,[])]⟩
noncomputable def S_q10_0_w (x:Tys D_q10_0.head.ks):Option (OutT D_q10_0.outs):=@whileO (ByteArray × Int × Unit) ((Bool × Unit) ⊕ (ByteArray × Unit)) S_spec_IsDigits_0 x
noncomputable def E_q10:Env:=⟨layD,[],[(2,mkLM D_q10_0 S_q10_0_w)],[]⟩
theorem cons_q10:ConsOk Tryz.prog FX E_q10.cons:=consOk_nil
theorem S_q10_0_ok (x:Tys D_q10_0.head.ks):stepL E_q10 D_q10_0 body_q10_0 x = S_spec_IsDigits_0 x:=by kernel_rfl
theorem loops_q10_0:loopsIn body_q10_0 = []:=by kernel_rfl
theorem l_q10_0:LoopOk Tryz.prog FX (mkLM D_q10_0 S_q10_0_w) body_q10_0:=loop_ok2 mix layD_ok cons_q10 (by kernel_rfl) (loops_mem loops_q10_0 (trivial)) S_q10_0_ok fun _ _ h => h
theorem loops_q10:loopsIn code_q10 = [body_q10_0]:=by kernel_rfl
theorem m_q10:Meets Tryz.prog FX 129 c_q10:=meets_of (E:=E_q10) (code:=code_q10) mix layD_ok cons_q10 Tryz.func129 (by kernel_rfl) sg_q10 (by kernel_rfl) (fun y => y.1) c_q10.out (fun _ => rfl) c_q10.run (fun x => by kernel_rfl) (by kernel_rfl) (loops_mem loops_q10 (⟨⟨_,by kernel_rfl,l_q10_0⟩,trivial⟩))
noncomputable def sg_q11:Sig:=⟨[(false,[.own 0])],[(0,.arr false .int)],false,[(false,[.own 0])],[(0,.arr false .int)]⟩
noncomputable def c_q11:Con:=⟨sg_q11,List Int,fun x => M_spec_l02Trim_c x.1,fun r => (r,())⟩
noncomputable def code_q11:Code:=Tryz.f130.body.getD .skip
noncomputable def body_q11_0:Code:=(loopsIn code_q11).getD 0 .skip
noncomputable def D_q11_0:LoopD:=⟨⟨mkSlots [(0,false,[.own 1408]),(3,false,[.d (.int .i64)])] 21 0,[(1408,.arr false .int)]⟩,[],[(.exit 0,⟨mkSlots [(0,false,[.own 1408]),(3,false,[.d (.int .i64)])] 21 0,[(1408,.arr false .int)]⟩,[])]⟩
noncomputable def S_q11_0_w (x:Tys D_q11_0.head.ks):Option (OutT D_q11_0.outs):=@whileO (Int × (List Int) × Unit) (Int × (List Int) × Unit) S_spec_l02Trim_c_0 x
noncomputable def E_q11:Env:=⟨layD,[],[(2,mkLM D_q11_0 S_q11_0_w)],[]⟩
theorem cons_q11:ConsOk Tryz.prog FX E_q11.cons:=consOk_nil
theorem S_q11_0_ok (x:Tys D_q11_0.head.ks):stepL E_q11 D_q11_0 body_q11_0 x = S_spec_l02Trim_c_0 x:=by kernel_rfl
theorem loops_q11_0:loopsIn body_q11_0 = []:=by kernel_rfl
theorem l_q11_0:LoopOk Tryz.prog FX (mkLM D_q11_0 S_q11_0_w) body_q11_0:=loop_ok2 mix layD_ok cons_q11 (by kernel_rfl) (loops_mem loops_q11_0 (trivial)) S_q11_0_ok fun _ _ h => h
theorem loops_q11:loopsIn code_q11 = [body_q11_0]:=by kernel_rfl
theorem m_q11:Meets Tryz.prog FX 130 c_q11:=meets_of (E:=E_q11) (code:=code_q11) mix layD_ok cons_q11 Tryz.func130 (by kernel_rfl) sg_q11 (by kernel_rfl) (fun y => y.1) c_q11.out (fun _ => rfl) c_q11.run (fun x => by kernel_rfl) (by kernel_rfl) (loops_mem loops_q11 (⟨⟨_,by kernel_rfl,l_q11_0⟩,trivial⟩))
noncomputable def sg_q12:Sig:=⟨[(false,[.d (.str)])],[],true,[(false,[.own 0]),(false,[.d (.bool)])],[(0,.arr false .int)]⟩
noncomputable def c_q12:Con:=⟨sg_q12,List Int × Bool,fun x => M_spec_ParseNat x.1,fun r => (r.2,r.1,())⟩
noncomputable def code_q12:Code:=Tryz.f85.body.getD .skip
noncomputable def body_q12_0:Code:=(loopsIn code_q12).getD 0 .skip
noncomputable def body_q12_1:Code:=(loopsIn body_q12_0).getD 0 .skip
noncomputable def D_q12_0:LoopD:=⟨⟨mkSlots [(0,false,[.d (.str)]),(4,false,[.own 3776]),(5,false,[.d (.int .i64)])] 58 0,[(3776,.arr false .int)]⟩,[(.slot 4 0,3776,.int)],[(.exit 0,⟨mkSlots [(4,false,[.own 3776])] 58 0,[(3776,.arr false .int)]⟩,[(.slot 4 0,3776,.int)])]⟩
noncomputable def D_q12_1:LoopD:=⟨⟨mkSlots [(0,false,[.d (.str)]),(4,false,[.own 3776]),(5,false,[.d (.int .i64)]),(7,false,[.d (.int .i64)]),(8,false,[.d (.int .i64)])] 58 0,[(3776,.arr false .int)]⟩,[(.slot 4 0,3776,.int)],[(.exit 2,⟨mkSlots [(0,false,[.d (.str)]),(4,false,[.own 3776]),(5,false,[.d (.int .i64)]),(7,false,[.d (.int .i64)])] 58 0,[(3776,.arr false .int)]⟩,[(.slot 4 0,3776,.int)])]⟩
noncomputable def S_q12_0_w (x:Tys D_q12_0.head.ks):Option (OutT D_q12_0.outs):=@whileO (ByteArray × Int × (List Int) × Unit) ((List Int) × Unit) S_spec_ParseNat_0 x
noncomputable def S_q12_1_w (x:Tys D_q12_1.head.ks):Option (OutT D_q12_1.outs):=@whileO (ByteArray × Int × Int × Int × (List Int) × Unit) (ByteArray × Int × Int × (List Int) × Unit) S_spec_ParseNat_1 x
noncomputable def E_q12:Env:=⟨layD,[(129,c_q10),(130,c_q11)],[(5,mkLM D_q12_0 S_q12_0_w),(12,mkLM D_q12_1 S_q12_1_w)],[]⟩
theorem cons_q12:ConsOk Tryz.prog FX E_q12.cons:=consOk_cons m_q10 (callable_of Tryz.func129 (by kernel_rfl)) (consOk_cons m_q11 (callable_of Tryz.func130 (by kernel_rfl)) (consOk_nil))
theorem S_q12_1_ok (x:Tys D_q12_1.head.ks):stepL E_q12 D_q12_1 body_q12_1 x = S_spec_ParseNat_1 x:=by kernel_rfl
theorem loops_q12_1:loopsIn body_q12_1 = []:=by kernel_rfl
theorem l_q12_1:LoopOk Tryz.prog FX (mkLM D_q12_1 S_q12_1_w) body_q12_1:=loop_ok2 mix layD_ok cons_q12 (by kernel_rfl) (loops_mem loops_q12_1 (trivial)) S_q12_1_ok fun _ _ h => h
theorem S_q12_0_ok (x:Tys D_q12_0.head.ks):stepL E_q12 D_q12_0 body_q12_0 x = S_spec_ParseNat_0 x:=by kernel_rfl
theorem loops_q12_0:loopsIn body_q12_0 = [body_q12_1]:=by kernel_rfl
theorem l_q12_0:LoopOk Tryz.prog FX (mkLM D_q12_0 S_q12_0_w) body_q12_0:=loop_ok2 mix layD_ok cons_q12 (by kernel_rfl) (loops_mem loops_q12_0 (⟨⟨_,by kernel_rfl,l_q12_1⟩,trivial⟩)) S_q12_0_ok fun _ _ h => h
theorem loops_q12:loopsIn code_q12 = [body_q12_0]:=by kernel_rfl
theorem m_q12:Meets Tryz.prog FX 85 c_q12:=meets_of (E:=E_q12) (code:=code_q12) mix layD_ok cons_q12 Tryz.func85 (by kernel_rfl) sg_q12 (by kernel_rfl) (fun y => (y.2.1,y.1)) c_q12.out (fun _ => rfl) c_q12.run (fun x => by kernel_rfl) (by kernel_rfl) (loops_mem loops_q12 (⟨⟨_,by kernel_rfl,l_q12_0⟩,trivial⟩))
noncomputable def sg_q13:Sig:=⟨[(false,[.d (.str)])],[],true,[(true,[.d (.bool),.own 0]),(false,[.d (.bool)])],[(0,.arr false .int)]⟩
noncomputable def c_q13:Con:=⟨sg_q13,Bg × Bool,fun x => M_spec_ParseBigInt x.1,fun r => (r.1.neg,r.2,r.1.mag,())⟩
noncomputable def code_q13:Code:=Tryz.f84.body.getD .skip
noncomputable def E_q13:Env:=⟨layD,[(85,c_q12)],[],[]⟩
theorem cons_q13:ConsOk Tryz.prog FX E_q13.cons:=consOk_cons m_q12 (callable_of Tryz.func85 (by kernel_rfl)) (consOk_nil)
theorem loops_q13:loopsIn code_q13 = []:=by kernel_rfl
theorem m_q13:Meets Tryz.prog FX 84 c_q13:=meets_of (E:=E_q13) (code:=code_q13) mix layD_ok cons_q13 Tryz.func84 (by kernel_rfl) sg_q13 (by kernel_rfl) (fun y => ((⟨y.1,y.2.2.1⟩:Bg),y.2.1)) c_q13.out (fun _ => rfl) c_q13.run (fun x => by kernel_rfl) (by kernel_rfl) (loops_mem loops_q13 (trivial))
noncomputable def sg_q14:Sig:=⟨[(false,[.d (.int .i64)]),(false,[.d (.int .i64)]),(false,[.d (.int .i64)])],[],false,[(false,[.d (.bool)])],[]⟩
noncomputable def c_q14:Con:=⟨sg_q14,Bool,fun x => M_spec_l01In x.1 x.2.1 x.2.2.1,fun r => (r,())⟩
noncomputable def code_q14:Code:=Tryz.f83.body.getD .skip
noncomputable def E_q14:Env:=⟨layD,[],[],[]⟩
theorem cons_q14:ConsOk Tryz.prog FX E_q14.cons:=consOk_nil
theorem loops_q14:loopsIn code_q14 = []:=by kernel_rfl
theorem m_q14:Meets Tryz.prog FX 83 c_q14:=meets_of (E:=E_q14) (code:=code_q14) mix layD_ok cons_q14 Tryz.func83 (by kernel_rfl) sg_q14 (by kernel_rfl) (fun y => y.1) c_q14.out (fun _ => rfl) c_q14.run (fun x => by kernel_rfl) (by kernel_rfl) (loops_mem loops_q14 (trivial))
noncomputable def sg_q15:Sig:=⟨[(false,[.d (.sl .int)])],[],false,[(false,[.d (.bool)])],[]⟩
noncomputable def c_q15:Con:=⟨sg_q15,Bool,fun x => M_spec_NatOk x.1,fun r => (r,())⟩
noncomputable def code_q15:Code:=Tryz.f163.body.getD .skip
noncomputable def body_q15_0:Code:=(loopsIn code_q15).getD 0 .skip
noncomputable def D_q15_0:LoopD:=⟨⟨mkSlots [(0,false,[.d (.sl .int)]),(5,false,[.d (.sl .int)]),(6,false,[.d (.int .i64)]),(7,false,[.d (.int .i64)])] 32 0,[]⟩,[],[(.ret,⟨mkSlots [(2,false,[.d (.bool)])] 32 0,[]⟩,[]),(.exit 0,⟨mkSlots [(0,false,[.d (.sl .int)])] 32 0,[]⟩,[])]⟩
noncomputable def S_q15_0_w (x:Tys D_q15_0.head.ks):Option (OutT D_q15_0.outs):=@whileO ((List Int) × (List Int) × Int × Int × Unit) ((Bool × Unit) ⊕ ((List Int) × Unit)) S_spec_NatOk_0 x
noncomputable def E_q15:Env:=⟨layD,[(83,c_q14)],[(2,mkLM D_q15_0 S_q15_0_w)],[]⟩
theorem cons_q15:ConsOk Tryz.prog FX E_q15.cons:=consOk_cons m_q14 (callable_of Tryz.func83 (by kernel_rfl)) (consOk_nil)
theorem S_q15_0_ok (x:Tys D_q15_0.head.ks):stepL E_q15 D_q15_0 body_q15_0 x = S_spec_NatOk_0 x:=by kernel_rfl
theorem loops_q15_0:loopsIn body_q15_0 = []:=by kernel_rfl
theorem l_q15_0:LoopOk Tryz.prog FX (mkLM D_q15_0 S_q15_0_w) body_q15_0:=loop_ok2 mix layD_ok cons_q15 (by kernel_rfl) (loops_mem loops_q15_0 (trivial)) S_q15_0_ok fun _ _ h => h
theorem loops_q15:loopsIn code_q15 = [body_q15_0]:=by kernel_rfl
theorem m_q15:Meets Tryz.prog FX 163 c_q15:=meets_of (E:=E_q15) (code:=code_q15) mix layD_ok cons_q15 Tryz.func163 (by kernel_rfl) sg_q15 (by kernel_rfl) (fun y => y.1) c_q15.out (fun _ => rfl) c_q15.run (fun x => by kernel_rfl) (by kernel_rfl) (loops_mem loops_q15 (⟨⟨_,by kernel_rfl,l_q15_0⟩,trivial⟩))
noncomputable def sg_q16:Sig:=⟨[(true,[.d (.bool),.d (.sl .int)])],[],false,[(false,[.d (.bool)])],[]⟩
noncomputable def c_q16:Con:=⟨sg_q16,Bool,fun x => M_spec_BigIntOk (⟨x.1,x.2.1⟩:Bg),fun r => (r,())⟩
noncomputable def code_q16:Code:=Tryz.f162.body.getD .skip
noncomputable def E_q16:Env:=⟨layD,[(163,c_q15)],[],[]⟩
theorem cons_q16:ConsOk Tryz.prog FX E_q16.cons:=consOk_cons m_q15 (callable_of Tryz.func163 (by kernel_rfl)) (consOk_nil)
theorem loops_q16:loopsIn code_q16 = []:=by kernel_rfl
theorem m_q16:Meets Tryz.prog FX 162 c_q16:=meets_of (E:=E_q16) (code:=code_q16) mix layD_ok cons_q16 Tryz.func162 (by kernel_rfl) sg_q16 (by kernel_rfl) (fun y => y.1) c_q16.out (fun _ => rfl) c_q16.run (fun x => by kernel_rfl) (by kernel_rfl) (loops_mem loops_q16 (trivial))
noncomputable def sg_q17:Sig:=⟨[(false,[.d (.sl .int)]),(false,[.d (.sl .int)])],[],false,[(false,[.d (.int .i64)])],[]⟩
noncomputable def c_q17:Con:=⟨sg_q17,Int,fun x => M_spec_l02Cmp x.1 x.2.1,fun r => (r,())⟩
noncomputable def code_q17:Code:=Tryz.f209.body.getD .skip
noncomputable def body_q17_0:Code:=(loopsIn code_q17).getD 0 .skip
noncomputable def D_q17_0:LoopD:=⟨⟨mkSlots [(0,false,[.d (.sl .int)]),(1,false,[.d (.sl .int)]),(5,false,[.d (.int .i64)])] 41 0,[]⟩,[],[(.ret,⟨mkSlots [(4,false,[.d (.int .i64)])] 41 0,[]⟩,[]),(.exit 0,⟨mkSlots [] 41 0,[]⟩,[])]⟩
noncomputable def S_q17_0_w (x:Tys D_q17_0.head.ks):Option (OutT D_q17_0.outs):=@whileO ((List Int) × (List Int) × Int × Unit) ((Int × Unit) ⊕ (Unit)) S_spec_l02Cmp_0 x
noncomputable def E_q17:Env:=⟨layD,[],[(6,mkLM D_q17_0 S_q17_0_w)],[(8,[(0,[]),(1,[]),(2,[]),(3,[]),(4,[]),(5,[]),(6,[]),(7,[]),(8,[])]),(10,[(0,[]),(1,[]),(2,[]),(3,[]),(4,[]),(5,[]),(6,[]),(7,[]),(8,[])])]⟩
theorem cons_q17:ConsOk Tryz.prog FX E_q17.cons:=consOk_nil
theorem S_q17_0_ok (x:Tys D_q17_0.head.ks):stepL E_q17 D_q17_0 body_q17_0 x = S_spec_l02Cmp_0 x:=by kernel_rfl
theorem loops_q17_0:loopsIn body_q17_0 = []:=by kernel_rfl
theorem l_q17_0:LoopOk Tryz.prog FX (mkLM D_q17_0 S_q17_0_w) body_q17_0:=loop_ok2 mix layD_ok cons_q17 (by kernel_rfl) (loops_mem loops_q17_0 (trivial)) S_q17_0_ok fun _ _ h => h
theorem loops_q17:loopsIn code_q17 = [body_q17_0]:=by kernel_rfl
theorem m_q17:Meets Tryz.prog FX 209 c_q17:=meets_of (E:=E_q17) (code:=code_q17) mix layD_ok cons_q17 Tryz.func209 (by kernel_rfl) sg_q17 (by kernel_rfl) (fun y => y.1) c_q17.out (fun _ => rfl) c_q17.run (fun x => by kernel_rfl) (by kernel_rfl) (loops_mem loops_q17 (⟨⟨_,by kernel_rfl,l_q17_0⟩,trivial⟩))
noncomputable def sg_q18:Sig:=⟨[(false,[.d (.sl .int)])],[],true,[(false,[.d (.int .i64)]),(false,[.d (.bool)])],[]⟩
noncomputable def c_q18:Con:=⟨sg_q18,Int × Bool,fun x => M_spec_NatToInt x.1,fun r => (r.1,r.2,())⟩
noncomputable def code_q18:Code:=Tryz.f192.body.getD .skip
noncomputable def body_q18_0:Code:=(loopsIn code_q18).getD 0 .skip
noncomputable def D_q18_0:LoopD:=⟨⟨mkSlots [(0,false,[.d (.sl .int)]),(4,false,[.d (.int .i64)]),(5,false,[.d (.int .i64)])] 30 0,[]⟩,[],[(.exit 0,⟨mkSlots [(4,false,[.d (.int .i64)])] 30 0,[]⟩,[])]⟩
noncomputable def S_q18_0_w (x:Tys D_q18_0.head.ks):Option (OutT D_q18_0.outs):=@whileO ((List Int) × Int × Int × Unit) (Int × Unit) S_spec_NatToInt_0 x
noncomputable def E_q18:Env:=⟨layD,[(163,c_q15),(209,c_q17)],[(5,mkLM D_q18_0 S_q18_0_w)],[]⟩
theorem cons_q18:ConsOk Tryz.prog FX E_q18.cons:=consOk_cons m_q15 (callable_of Tryz.func163 (by kernel_rfl)) (consOk_cons m_q17 (callable_of Tryz.func209 (by kernel_rfl)) (consOk_nil))
theorem S_q18_0_ok (x:Tys D_q18_0.head.ks):stepL E_q18 D_q18_0 body_q18_0 x = S_spec_NatToInt_0 x:=by kernel_rfl
theorem loops_q18_0:loopsIn body_q18_0 = []:=by kernel_rfl
theorem l_q18_0:LoopOk Tryz.prog FX (mkLM D_q18_0 S_q18_0_w) body_q18_0:=loop_ok2 mix layD_ok cons_q18 (by kernel_rfl) (loops_mem loops_q18_0 (trivial)) S_q18_0_ok fun _ _ h => h
theorem loops_q18:loopsIn code_q18 = [body_q18_0]:=by kernel_rfl
theorem m_q18:Meets Tryz.prog FX 192 c_q18:=meets_of (E:=E_q18) (code:=code_q18) mix layD_ok cons_q18 Tryz.func192 (by kernel_rfl) sg_q18 (by kernel_rfl) (fun y => (y.1,y.2.1)) c_q18.out (fun _ => rfl) c_q18.run (fun x => by kernel_rfl) (by kernel_rfl) (loops_mem loops_q18 (⟨⟨_,by kernel_rfl,l_q18_0⟩,trivial⟩))
noncomputable def sg_q19:Sig:=⟨[(false,[.d (.int .i64)]),(false,[.d (.int .i64)])],[],false,[(false,[.own 0])],[(0,.arr false .int)]⟩
noncomputable def c_q19:Con:=⟨sg_q19,List Int,fun x => M_spec_l02Plain x.1 x.2.1,fun r => (r,())⟩
noncomputable def code_q19:Code:=Tryz.f193.body.getD .skip
noncomputable def body_q19_0:Code:=(loopsIn code_q19).getD 0 .skip
noncomputable def D_q19_0:LoopD:=⟨⟨mkSlots [(0,false,[.d (.int .i64)]),(1,false,[.d (.int .i64)])] 15 0,[]⟩,[],[(.exit 0,⟨mkSlots [(0,false,[.d (.int .i64)])] 15 0,[]⟩,[])]⟩
noncomputable def S_q19_0_w (x:Tys D_q19_0.head.ks):Option (OutT D_q19_0.outs):=@whileO (Int × Int × Unit) (Int × Unit) S_spec_l02Plain_0 x
noncomputable def E_q19:Env:=⟨layD,[(207,c_q6)],[(1,mkLM D_q19_0 S_q19_0_w)],[]⟩
theorem cons_q19:ConsOk Tryz.prog FX E_q19.cons:=consOk_cons m_q6 (callable_of Tryz.func207 (by kernel_rfl)) (consOk_nil)
theorem S_q19_0_ok (x:Tys D_q19_0.head.ks):stepL E_q19 D_q19_0 body_q19_0 x = S_spec_l02Plain_0 x:=by kernel_rfl
theorem loops_q19_0:loopsIn body_q19_0 = []:=by kernel_rfl
theorem l_q19_0:LoopOk Tryz.prog FX (mkLM D_q19_0 S_q19_0_w) body_q19_0:=loop_ok2 mix layD_ok cons_q19 (by kernel_rfl) (loops_mem loops_q19_0 (trivial)) S_q19_0_ok fun _ _ h => h
theorem loops_q19:loopsIn code_q19 = [body_q19_0]:=by kernel_rfl
theorem m_q19:Meets Tryz.prog FX 193 c_q19:=meets_of (E:=E_q19) (code:=code_q19) mix layD_ok cons_q19 Tryz.func193 (by kernel_rfl) sg_q19 (by kernel_rfl) (fun y => y.1) c_q19.out (fun _ => rfl) c_q19.run (fun x => by kernel_rfl) (by kernel_rfl) (loops_mem loops_q19 (⟨⟨_,by kernel_rfl,l_q19_0⟩,trivial⟩))
noncomputable def sg_q20:Sig:=⟨[(false,[.d (.sl .int)]),(false,[.d (.int .i64)])],[],true,[(false,[.own 0]),(false,[.d (.int .i64)])],[(0,.arr false .int)]⟩
noncomputable def c_q20:Con:=⟨sg_q20,List Int × Int,fun x => M_spec_l02Small x.1 x.2.1,fun r => (r.2,r.1,())⟩
noncomputable def code_q20:Code:=Tryz.f223.body.getD .skip
noncomputable def body_q20_0:Code:=(loopsIn code_q20).getD 0 .skip
noncomputable def D_q20_0:LoopD:=⟨⟨mkSlots [(0,false,[.d (.sl .int)]),(1,false,[.d (.int .i64)]),(6,false,[.own 2560]),(7,false,[.d (.int .i64)]),(8,false,[.d (.int .i64)])] 39 0,[(2560,.arr false .int)]⟩,[],[(.exit 0,⟨mkSlots [(6,false,[.own 2560]),(7,false,[.d (.int .i64)])] 39 0,[(2560,.arr false .int)]⟩,[])]⟩
noncomputable def S_q20_0_w (x:Tys D_q20_0.head.ks):Option (OutT D_q20_0.outs):=@whileO ((List Int) × Int × Int × Int × (List Int) × Unit) (Int × (List Int) × Unit) S_spec_l02Small_0 x
noncomputable def E_q20:Env:=⟨layD,[(130,c_q11)],[(4,mkLM D_q20_0 S_q20_0_w)],[]⟩
theorem cons_q20:ConsOk Tryz.prog FX E_q20.cons:=consOk_cons m_q11 (callable_of Tryz.func130 (by kernel_rfl)) (consOk_nil)
theorem S_q20_0_ok (x:Tys D_q20_0.head.ks):stepL E_q20 D_q20_0 body_q20_0 x = S_spec_l02Small_0 x:=by kernel_rfl
theorem loops_q20_0:loopsIn body_q20_0 = []:=by kernel_rfl
theorem l_q20_0:LoopOk Tryz.prog FX (mkLM D_q20_0 S_q20_0_w) body_q20_0:=loop_ok2 mix layD_ok cons_q20 (by kernel_rfl) (loops_mem loops_q20_0 (trivial)) S_q20_0_ok fun _ _ h => h
theorem loops_q20:loopsIn code_q20 = [body_q20_0]:=by kernel_rfl
theorem m_q20:Meets Tryz.prog FX 223 c_q20:=meets_of (E:=E_q20) (code:=code_q20) mix layD_ok cons_q20 Tryz.func223 (by kernel_rfl) sg_q20 (by kernel_rfl) (fun y => (y.2.1,y.1)) c_q20.out (fun _ => rfl) c_q20.run (fun x => by kernel_rfl) (by kernel_rfl) (loops_mem loops_q20 (⟨⟨_,by kernel_rfl,l_q20_0⟩,trivial⟩))
noncomputable def sg_q21:Sig:=⟨[(false,[.d (.sl .int)]),(false,[.d (.sl .int)])],[],false,[(false,[.own 0])],[(0,.arr false .int)]⟩
noncomputable def c_q21:Con:=⟨sg_q21,List Int,fun x => M_spec_l02Mul x.1 x.2.1,fun r => (r,())⟩
noncomputable def code_q21:Code:=Tryz.f180.body.getD .skip
noncomputable def body_q21_0:Code:=(loopsIn code_q21).getD 0 .skip
noncomputable def body_q21_1:Code:=(loopsIn body_q21_0).getD 0 .skip
noncomputable def D_q21_0:LoopD:=⟨⟨mkSlots [(1,false,[.d (.sl .int)]),(5,false,[.own 4672]),(26,false,[.d (.sl .int)]),(27,false,[.d (.int .i64)]),(28,false,[.d (.int .i64)])] 72 0,[(4672,.arr false .int)]⟩,[],[(.exit 0,⟨mkSlots [(5,false,[.own 4672])] 72 0,[(4672,.arr false .int)]⟩,[])]⟩
noncomputable def D_q21_1:LoopD:=⟨⟨mkSlots [(1,false,[.d (.sl .int)]),(5,false,[.own 4672]),(6,false,[.d (.int .i64)]),(7,false,[.d (.int .i64)]),(8,false,[.d (.int .i64)]),(26,false,[.d (.sl .int)]),(27,false,[.d (.int .i64)]),(28,false,[.d (.int .i64)]),(33,false,[.d (.sl .int)]),(34,false,[.d (.int .i64)]),(35,false,[.d (.int .i64)])] 72 0,[(4672,.arr false .int)]⟩,[],[(.exit 2,⟨mkSlots [(1,false,[.d (.sl .int)]),(5,false,[.own 4672]),(6,false,[.d (.int .i64)]),(8,false,[.d (.int .i64)]),(26,false,[.d (.sl .int)]),(27,false,[.d (.int .i64)]),(28,false,[.d (.int .i64)])] 72 0,[(4672,.arr false .int)]⟩,[])]⟩
noncomputable def S_q21_0_w (x:Tys D_q21_0.head.ks):Option (OutT D_q21_0.outs):=@whileO ((List Int) × (List Int) × Int × Int × (List Int) × Unit) ((List Int) × Unit) S_spec_l02Mul_0 x
noncomputable def S_q21_1_w (x:Tys D_q21_1.head.ks):Option (OutT D_q21_1.outs):=@whileO ((List Int) × Int × Int × Int × (List Int) × Int × Int × (List Int) × Int × Int × (List Int) × Unit) ((List Int) × Int × Int × (List Int) × Int × Int × (List Int) × Unit) S_spec_l02Mul_1 x
noncomputable def E_q21:Env:=⟨layD,[(130,c_q11)],[(5,mkLM D_q21_0 S_q21_0_w),(9,mkLM D_q21_1 S_q21_1_w)],[]⟩
theorem cons_q21:ConsOk Tryz.prog FX E_q21.cons:=consOk_cons m_q11 (callable_of Tryz.func130 (by kernel_rfl)) (consOk_nil)
theorem S_q21_1_ok (x:Tys D_q21_1.head.ks):stepL E_q21 D_q21_1 body_q21_1 x = S_spec_l02Mul_1 x:=by kernel_rfl
theorem loops_q21_1:loopsIn body_q21_1 = []:=by kernel_rfl
theorem l_q21_1:LoopOk Tryz.prog FX (mkLM D_q21_1 S_q21_1_w) body_q21_1:=loop_ok2 mix layD_ok cons_q21 (by kernel_rfl) (loops_mem loops_q21_1 (trivial)) S_q21_1_ok fun _ _ h => h
theorem S_q21_0_ok (x:Tys D_q21_0.head.ks):stepL E_q21 D_q21_0 body_q21_0 x = S_spec_l02Mul_0 x:=by kernel_rfl
theorem loops_q21_0:loopsIn body_q21_0 = [body_q21_1]:=by kernel_rfl
theorem l_q21_0:LoopOk Tryz.prog FX (mkLM D_q21_0 S_q21_0_w) body_q21_0:=loop_ok2 mix layD_ok cons_q21 (by kernel_rfl) (loops_mem loops_q21_0 (⟨⟨_,by kernel_rfl,l_q21_1⟩,trivial⟩)) S_q21_0_ok fun _ _ h => h
theorem loops_q21:loopsIn code_q21 = [body_q21_0]:=by kernel_rfl
theorem m_q21:Meets Tryz.prog FX 180 c_q21:=meets_of (E:=E_q21) (code:=code_q21) mix layD_ok cons_q21 Tryz.func180 (by kernel_rfl) sg_q21 (by kernel_rfl) (fun y => y.1) c_q21.out (fun _ => rfl) c_q21.run (fun x => by kernel_rfl) (by kernel_rfl) (loops_mem loops_q21 (⟨⟨_,by kernel_rfl,l_q21_0⟩,trivial⟩))
noncomputable def sg_q22:Sig:=⟨[(false,[.d (.sl .int)]),(false,[.d (.sl .int)])],[],false,[(false,[.d (.int .i64)])],[]⟩
noncomputable def c_q22:Con:=⟨sg_q22,Int,fun x => M_spec_l02Digit x.1 x.2.1,fun r => (r,())⟩
noncomputable def code_q22:Code:=Tryz.f224.body.getD .skip
noncomputable def body_q22_0:Code:=(loopsIn code_q22).getD 0 .skip
noncomputable def D_q22_0:LoopD:=⟨⟨mkSlots [(0,false,[.d (.sl .int)]),(1,false,[.d (.sl .int)]),(5,false,[.d (.int .i64)]),(6,false,[.d (.int .i64)])] 27 0,[]⟩,[],[(.exit 0,⟨mkSlots [(5,false,[.d (.int .i64)])] 27 0,[]⟩,[])]⟩
noncomputable def S_q22_0_w (x:Tys D_q22_0.head.ks):Option (OutT D_q22_0.outs):=@whileO ((List Int) × (List Int) × Int × Int × Unit) (Int × Unit) S_spec_l02Digit_0 x
noncomputable def E_q22:Env:=⟨layD,[(207,c_q6),(180,c_q21),(209,c_q17)],[(3,mkLM D_q22_0 S_q22_0_w)],[]⟩
theorem cons_q22:ConsOk Tryz.prog FX E_q22.cons:=consOk_cons m_q6 (callable_of Tryz.func207 (by kernel_rfl)) (consOk_cons m_q21 (callable_of Tryz.func180 (by kernel_rfl)) (consOk_cons m_q17 (callable_of Tryz.func209 (by kernel_rfl)) (consOk_nil)))
theorem S_q22_0_ok (x:Tys D_q22_0.head.ks):stepL E_q22 D_q22_0 body_q22_0 x = S_spec_l02Digit_0 x:=by kernel_rfl
theorem loops_q22_0:loopsIn body_q22_0 = []:=by kernel_rfl
theorem l_q22_0:LoopOk Tryz.prog FX (mkLM D_q22_0 S_q22_0_w) body_q22_0:=loop_ok2 mix layD_ok cons_q22 (by kernel_rfl) (loops_mem loops_q22_0 (trivial)) S_q22_0_ok fun _ _ h => h
theorem loops_q22:loopsIn code_q22 = [body_q22_0]:=by kernel_rfl
theorem m_q22:Meets Tryz.prog FX 224 c_q22:=meets_of (E:=E_q22) (code:=code_q22) mix layD_ok cons_q22 Tryz.func224 (by kernel_rfl) sg_q22 (by kernel_rfl) (fun y => y.1) c_q22.out (fun _ => rfl) c_q22.run (fun x => by kernel_rfl) (by kernel_rfl) (loops_mem loops_q22 (⟨⟨_,by kernel_rfl,l_q22_0⟩,trivial⟩))
noncomputable def sg_q23:Sig:=⟨[(false,[.d (.sl .int)]),(false,[.d (.sl .int)])],[],false,[(false,[.own 0])],[(0,.arr false .int)]⟩
noncomputable def c_q23:Con:=⟨sg_q23,List Int,fun x => M_spec_l02Sub x.1 x.2.1,fun r => (r,())⟩
noncomputable def code_q23:Code:=Tryz.f210.body.getD .skip
noncomputable def body_q23_0:Code:=(loopsIn code_q23).getD 0 .skip
noncomputable def D_q23_0:LoopD:=⟨⟨mkSlots [(0,false,[.d (.sl .int)]),(1,false,[.d (.sl .int)]),(5,false,[.own 2752]),(6,false,[.d (.int .i64)]),(11,false,[.d (.int .i64)]),(12,false,[.d (.int .i64)])] 42 0,[(2752,.arr false .int)]⟩,[(.slot 5 0,2752,.int)],[(.exit 0,⟨mkSlots [(5,false,[.own 2752])] 42 0,[(2752,.arr false .int)]⟩,[(.slot 5 0,2752,.int)])]⟩
noncomputable def S_q23_0_w (x:Tys D_q23_0.head.ks):Option (OutT D_q23_0.outs):=@whileO ((List Int) × (List Int) × Int × Int × Int × (List Int) × Unit) ((List Int) × Unit) S_spec_l02Sub_0 x
noncomputable def E_q23:Env:=⟨layD,[(130,c_q11)],[(4,mkLM D_q23_0 S_q23_0_w)],[]⟩
theorem cons_q23:ConsOk Tryz.prog FX E_q23.cons:=consOk_cons m_q11 (callable_of Tryz.func130 (by kernel_rfl)) (consOk_nil)
theorem S_q23_0_ok (x:Tys D_q23_0.head.ks):stepL E_q23 D_q23_0 body_q23_0 x = S_spec_l02Sub_0 x:=by kernel_rfl
theorem loops_q23_0:loopsIn body_q23_0 = []:=by kernel_rfl
theorem l_q23_0:LoopOk Tryz.prog FX (mkLM D_q23_0 S_q23_0_w) body_q23_0:=loop_ok2 mix layD_ok cons_q23 (by kernel_rfl) (loops_mem loops_q23_0 (trivial)) S_q23_0_ok fun _ _ h => h
theorem loops_q23:loopsIn code_q23 = [body_q23_0]:=by kernel_rfl
theorem m_q23:Meets Tryz.prog FX 210 c_q23:=meets_of (E:=E_q23) (code:=code_q23) mix layD_ok cons_q23 Tryz.func210 (by kernel_rfl) sg_q23 (by kernel_rfl) (fun y => y.1) c_q23.out (fun _ => rfl) c_q23.run (fun x => by kernel_rfl) (by kernel_rfl) (loops_mem loops_q23 (⟨⟨_,by kernel_rfl,l_q23_0⟩,trivial⟩))
noncomputable def sg_q24:Sig:=⟨[(false,[.d (.sl .int)]),(false,[.d (.sl .int)])],[],true,[(false,[.own 0]),(false,[.own 1])],[(0,.arr false .int),(1,.arr false .int)]⟩
noncomputable def c_q24:Con:=⟨sg_q24,List Int × List Int,fun x => M_spec_l02Div x.1 x.2.1,fun r => (r.1,r.2,())⟩
noncomputable def code_q24:Code:=Tryz.f194.body.getD .skip
noncomputable def body_q24_0:Code:=(loopsIn code_q24).getD 0 .skip
noncomputable def D_q24_0:LoopD:=⟨⟨mkSlots [(0,false,[.d (.sl .int)]),(1,false,[.d (.sl .int)]),(8,false,[.own 4224]),(9,false,[.own 4288]),(10,false,[.d (.int .i64)])] 65 0,[(4224,.arr false .int),(4288,.arr false .int)]⟩,[(.slot 9 0,4288,.int)],[(.exit 0,⟨mkSlots [(8,false,[.own 4224]),(9,false,[.own 4288])] 65 0,[(4224,.arr false .int),(4288,.arr false .int)]⟩,[(.slot 9 0,4288,.int)])]⟩
noncomputable def S_q24_0_w (x:Tys D_q24_0.head.ks):Option (OutT D_q24_0.outs):=@whileO ((List Int) × (List Int) × Int × (List Int) × (List Int) × Unit) ((List Int) × (List Int) × Unit) S_spec_l02Div_0 x
noncomputable def E_q24:Env:=⟨layD,[(223,c_q20),(207,c_q6),(130,c_q11),(209,c_q17),(224,c_q22),(180,c_q21),(210,c_q23)],[(7,mkLM D_q24_0 S_q24_0_w)],[]⟩
theorem cons_q24:ConsOk Tryz.prog FX E_q24.cons:=consOk_cons m_q20 (callable_of Tryz.func223 (by kernel_rfl)) (consOk_cons m_q6 (callable_of Tryz.func207 (by kernel_rfl)) (consOk_cons m_q11 (callable_of Tryz.func130 (by kernel_rfl)) (consOk_cons m_q17 (callable_of Tryz.func209 (by kernel_rfl)) (consOk_cons m_q22 (callable_of Tryz.func224 (by kernel_rfl)) (consOk_cons m_q21 (callable_of Tryz.func180 (by kernel_rfl)) (consOk_cons m_q23 (callable_of Tryz.func210 (by kernel_rfl)) (consOk_nil)))))))
theorem S_q24_0_ok (x:Tys D_q24_0.head.ks):stepL E_q24 D_q24_0 body_q24_0 x = S_spec_l02Div_0 x:=by kernel_rfl
theorem loops_q24_0:loopsIn body_q24_0 = []:=by kernel_rfl
theorem l_q24_0:LoopOk Tryz.prog FX (mkLM D_q24_0 S_q24_0_w) body_q24_0:=loop_ok2 mix layD_ok cons_q24 (by kernel_rfl) (loops_mem loops_q24_0 (trivial)) S_q24_0_ok fun _ _ h => h
theorem loops_q24:loopsIn code_q24 = [body_q24_0]:=by kernel_rfl
theorem m_q24:Meets Tryz.prog FX 194 c_q24:=meets_of (E:=E_q24) (code:=code_q24) mix layD_ok cons_q24 Tryz.func194 (by kernel_rfl) sg_q24 (by kernel_rfl) (fun y => (y.1,y.2.1)) c_q24.out (fun _ => rfl) c_q24.run (fun x => by kernel_rfl) (by kernel_rfl) (loops_mem loops_q24 (⟨⟨_,by kernel_rfl,l_q24_0⟩,trivial⟩))
noncomputable def sg_q25:Sig:=⟨[(false,[.d (.sl .int)]),(false,[.d (.sl .int)])],[],false,[(false,[.own 0])],[(0,.arr false .int)]⟩
noncomputable def c_q25:Con:=⟨sg_q25,List Int,fun x => M_spec_l02Gcd x.1 x.2.1,fun r => (r,())⟩
noncomputable def code_q25:Code:=Tryz.f164.body.getD .skip
noncomputable def body_q25_0:Code:=(loopsIn code_q25).getD 0 .skip
noncomputable def D_q25_0:LoopD:=⟨⟨mkSlots [(5,false,[.own 3392]),(6,false,[.own 3456])] 52 0,[(3392,.arr false .int),(3456,.arr false .int)]⟩,[],[(.ret,⟨mkSlots [(4,false,[.own 3520])] 52 0,[(3520,.arr false .int)]⟩,[]),(.exit 0,⟨mkSlots [(5,false,[.own 3392])] 52 0,[(3392,.arr false .int)]⟩,[])]⟩
noncomputable def S_q25_0_w (x:Tys D_q25_0.head.ks):Option (OutT D_q25_0.outs):=@whileO ((List Int) × (List Int) × Unit) (((List Int) × Unit) ⊕ ((List Int) × Unit)) S_spec_l02Gcd_0 x
noncomputable def E_q25:Env:=⟨layD,[(192,c_q18),(193,c_q19),(194,c_q24)],[(3,mkLM D_q25_0 S_q25_0_w)],[]⟩
theorem cons_q25:ConsOk Tryz.prog FX E_q25.cons:=consOk_cons m_q18 (callable_of Tryz.func192 (by kernel_rfl)) (consOk_cons m_q19 (callable_of Tryz.func193 (by kernel_rfl)) (consOk_cons m_q24 (callable_of Tryz.func194 (by kernel_rfl)) (consOk_nil)))
theorem S_q25_0_ok (x:Tys D_q25_0.head.ks):stepL E_q25 D_q25_0 body_q25_0 x = S_spec_l02Gcd_0 x:=by kernel_rfl
theorem loops_q25_0:loopsIn body_q25_0 = []:=by kernel_rfl
theorem l_q25_0:LoopOk Tryz.prog FX (mkLM D_q25_0 S_q25_0_w) body_q25_0:=loop_ok2 mix layD_ok cons_q25 (by kernel_rfl) (loops_mem loops_q25_0 (trivial)) S_q25_0_ok fun _ _ h => h
theorem loops_q25:loopsIn code_q25 = [body_q25_0]:=by kernel_rfl
theorem m_q25:Meets Tryz.prog FX 164 c_q25:=meets_of (E:=E_q25) (code:=code_q25) mix layD_ok cons_q25 Tryz.func164 (by kernel_rfl) sg_q25 (by kernel_rfl) (fun y => y.1) c_q25.out (fun _ => rfl) c_q25.run (fun x => by kernel_rfl) (by kernel_rfl) (loops_mem loops_q25 (⟨⟨_,by kernel_rfl,l_q25_0⟩,trivial⟩))
noncomputable def sg_q26:Sig:=⟨[(false,[.d (.sl .int)])],[],false,[(false,[.d (.bool)])],[]⟩
noncomputable def c_q26:Con:=⟨sg_q26,Bool,fun x => M_spec_l04One x.1,fun r => (r,())⟩
noncomputable def code_q26:Code:=Tryz.f126.body.getD .skip
noncomputable def E_q26:Env:=⟨layD,[],[],[]⟩
theorem cons_q26:ConsOk Tryz.prog FX E_q26.cons:=consOk_nil
theorem loops_q26:loopsIn code_q26 = []:=by kernel_rfl
theorem m_q26:Meets Tryz.prog FX 126 c_q26:=meets_of (E:=E_q26) (code:=code_q26) mix layD_ok cons_q26 Tryz.func126 (by kernel_rfl) sg_q26 (by kernel_rfl) (fun y => y.1) c_q26.out (fun _ => rfl) c_q26.run (fun x => by kernel_rfl) (by kernel_rfl) (loops_mem loops_q26 (trivial))
noncomputable def sg_q27:Sig:=⟨[(true,[.d (.bool),.d (.sl .int),.d (.sl .int)])],[],false,[(false,[.d (.bool)])],[]⟩
noncomputable def c_q27:Con:=⟨sg_q27,Bool,fun x => M_spec_RatOk (⟨x.1,x.2.1,x.2.2.1⟩:Rt),fun r => (r,())⟩
noncomputable def code_q27:Code:=Tryz.f125.body.getD .skip
noncomputable def E_q27:Env:=⟨layD,[(162,c_q16),(163,c_q15),(164,c_q25),(126,c_q26)],[],[]⟩
theorem cons_q27:ConsOk Tryz.prog FX E_q27.cons:=consOk_cons m_q16 (callable_of Tryz.func162 (by kernel_rfl)) (consOk_cons m_q15 (callable_of Tryz.func163 (by kernel_rfl)) (consOk_cons m_q25 (callable_of Tryz.func164 (by kernel_rfl)) (consOk_cons m_q26 (callable_of Tryz.func126 (by kernel_rfl)) (consOk_nil))))
theorem loops_q27:loopsIn code_q27 = []:=by kernel_rfl
theorem m_q27:Meets Tryz.prog FX 125 c_q27:=meets_of (E:=E_q27) (code:=code_q27) mix layD_ok cons_q27 Tryz.func125 (by kernel_rfl) sg_q27 (by kernel_rfl) (fun y => y.1) c_q27.out (fun _ => rfl) c_q27.run (fun x => by kernel_rfl) (by kernel_rfl) (loops_mem loops_q27 (trivial))
noncomputable def sg_q28:Sig:=⟨[(false,[.d (.int .i64)])],[],false,[(false,[.d (.str)])],[]⟩
noncomputable def c_q28:Con:=⟨sg_q28,ByteArray,fun x => M_spec_FormatInt x.1,fun r => (r,())⟩
noncomputable def code_q28:Code:=Tryz.f165.body.getD .skip
noncomputable def body_q28_0:Code:=(loopsIn code_q28).getD 0 .skip
noncomputable def D_q28_0:LoopD:=⟨⟨mkSlots [(0,false,[.d (.int .i64)]),(3,false,[.d (.str)])] 44 0,[]⟩,[],[(.exit 0,⟨mkSlots [(0,false,[.d (.int .i64)]),(3,false,[.d (.str)])] 44 0,[]⟩,[])]⟩
noncomputable def S_q28_0_w (x:Tys D_q28_0.head.ks):Option (OutT D_q28_0.outs):=@whileO (Int × ByteArray × Unit) (Int × ByteArray × Unit) S_spec_FormatInt_0 x
noncomputable def E_q28:Env:=⟨layD,[],[(6,mkLM D_q28_0 S_q28_0_w)],[]⟩
theorem cons_q28:ConsOk Tryz.prog FX E_q28.cons:=consOk_nil
theorem S_q28_0_ok (x:Tys D_q28_0.head.ks):stepL E_q28 D_q28_0 body_q28_0 x = S_spec_FormatInt_0 x:=by kernel_rfl
theorem loops_q28_0:loopsIn body_q28_0 = []:=by kernel_rfl
theorem l_q28_0:LoopOk Tryz.prog FX (mkLM D_q28_0 S_q28_0_w) body_q28_0:=loop_ok2 mix layD_ok cons_q28 (by kernel_rfl) (loops_mem loops_q28_0 (trivial)) S_q28_0_ok fun _ _ h => h
theorem loops_q28:loopsIn code_q28 = [body_q28_0]:=by kernel_rfl
theorem m_q28:Meets Tryz.prog FX 165 c_q28:=meets_of (E:=E_q28) (code:=code_q28) mix layD_ok cons_q28 Tryz.func165 (by kernel_rfl) sg_q28 (by kernel_rfl) (fun y => y.1) c_q28.out (fun _ => rfl) c_q28.run (fun x => by kernel_rfl) (by kernel_rfl) (loops_mem loops_q28 (⟨⟨_,by kernel_rfl,l_q28_0⟩,trivial⟩))
noncomputable def sg_q29:Sig:=⟨[(false,[.d (.str)]),(false,[.d (.int .i64)])],[],false,[(false,[.d (.str)])],[]⟩
noncomputable def c_q29:Con:=⟨sg_q29,ByteArray,fun x => M_spec_PadZeros x.1 x.2.1,fun r => (r,())⟩
noncomputable def code_q29:Code:=Tryz.f166.body.getD .skip
noncomputable def body_q29_0:Code:=(loopsIn code_q29).getD 0 .skip
noncomputable def D_q29_0:LoopD:=⟨⟨mkSlots [(0,false,[.d (.str)]),(1,false,[.d (.int .i64)])] 15 0,[]⟩,[],[(.exit 0,⟨mkSlots [(0,false,[.d (.str)])] 15 0,[]⟩,[])]⟩
noncomputable def S_q29_0_w (x:Tys D_q29_0.head.ks):Option (OutT D_q29_0.outs):=@whileO (ByteArray × Int × Unit) (ByteArray × Unit) S_spec_PadZeros_0 x
noncomputable def E_q29:Env:=⟨layD,[],[(3,mkLM D_q29_0 S_q29_0_w)],[]⟩
theorem cons_q29:ConsOk Tryz.prog FX E_q29.cons:=consOk_nil
theorem S_q29_0_ok (x:Tys D_q29_0.head.ks):stepL E_q29 D_q29_0 body_q29_0 x = S_spec_PadZeros_0 x:=by kernel_rfl
theorem loops_q29_0:loopsIn body_q29_0 = []:=by kernel_rfl
theorem l_q29_0:LoopOk Tryz.prog FX (mkLM D_q29_0 S_q29_0_w) body_q29_0:=loop_ok2 mix layD_ok cons_q29 (by kernel_rfl) (loops_mem loops_q29_0 (trivial)) S_q29_0_ok fun _ _ h => h
theorem loops_q29:loopsIn code_q29 = [body_q29_0]:=by kernel_rfl
theorem m_q29:Meets Tryz.prog FX 166 c_q29:=meets_of (E:=E_q29) (code:=code_q29) mix layD_ok cons_q29 Tryz.func166 (by kernel_rfl) sg_q29 (by kernel_rfl) (fun y => y.1) c_q29.out (fun _ => rfl) c_q29.run (fun x => by kernel_rfl) (by kernel_rfl) (loops_mem loops_q29 (⟨⟨_,by kernel_rfl,l_q29_0⟩,trivial⟩))
noncomputable def sg_q30:Sig:=⟨[(false,[.d (.sl .int)])],[],false,[(false,[.d (.str)])],[]⟩
noncomputable def c_q30:Con:=⟨sg_q30,ByteArray,fun x => M_spec_FormatNat x.1,fun r => (r,())⟩
noncomputable def code_q30:Code:=Tryz.f128.body.getD .skip
noncomputable def body_q30_0:Code:=(loopsIn code_q30).getD 0 .skip
noncomputable def D_q30_0:LoopD:=⟨⟨mkSlots [(0,false,[.d (.sl .int)]),(3,false,[.d (.str)]),(4,false,[.d (.int .i64)])] 34 0,[]⟩,[],[(.exit 0,⟨mkSlots [(3,false,[.d (.str)])] 34 0,[]⟩,[])]⟩
noncomputable def S_q30_0_w (x:Tys D_q30_0.head.ks):Option (OutT D_q30_0.outs):=@whileO ((List Int) × ByteArray × Int × Unit) (ByteArray × Unit) S_spec_FormatNat_0 x
noncomputable def E_q30:Env:=⟨layD,[(163,c_q15),(165,c_q28),(166,c_q29)],[(7,mkLM D_q30_0 S_q30_0_w)],[]⟩
theorem cons_q30:ConsOk Tryz.prog FX E_q30.cons:=consOk_cons m_q15 (callable_of Tryz.func163 (by kernel_rfl)) (consOk_cons m_q28 (callable_of Tryz.func165 (by kernel_rfl)) (consOk_cons m_q29 (callable_of Tryz.func166 (by kernel_rfl)) (consOk_nil)))
theorem S_q30_0_ok (x:Tys D_q30_0.head.ks):stepL E_q30 D_q30_0 body_q30_0 x = S_spec_FormatNat_0 x:=by kernel_rfl
theorem loops_q30_0:loopsIn body_q30_0 = []:=by kernel_rfl
theorem l_q30_0:LoopOk Tryz.prog FX (mkLM D_q30_0 S_q30_0_w) body_q30_0:=loop_ok2 mix layD_ok cons_q30 (by kernel_rfl) (loops_mem loops_q30_0 (trivial)) S_q30_0_ok fun _ _ h => h
theorem loops_q30:loopsIn code_q30 = [body_q30_0]:=by kernel_rfl
theorem m_q30:Meets Tryz.prog FX 128 c_q30:=meets_of (E:=E_q30) (code:=code_q30) mix layD_ok cons_q30 Tryz.func128 (by kernel_rfl) sg_q30 (by kernel_rfl) (fun y => y.1) c_q30.out (fun _ => rfl) c_q30.run (fun x => by kernel_rfl) (by kernel_rfl) (loops_mem loops_q30 (⟨⟨_,by kernel_rfl,l_q30_0⟩,trivial⟩))
noncomputable def sg_q31:Sig:=⟨[(true,[.d (.bool),.d (.sl .int)])],[],false,[(false,[.d (.str)])],[]⟩
noncomputable def c_q31:Con:=⟨sg_q31,ByteArray,fun x => M_spec_FormatBigInt (⟨x.1,x.2.1⟩:Bg),fun r => (r,())⟩
noncomputable def code_q31:Code:=Tryz.f127.body.getD .skip
noncomputable def E_q31:Env:=⟨layD,[(162,c_q16),(128,c_q30)],[],[]⟩
theorem cons_q31:ConsOk Tryz.prog FX E_q31.cons:=consOk_cons m_q16 (callable_of Tryz.func162 (by kernel_rfl)) (consOk_cons m_q30 (callable_of Tryz.func128 (by kernel_rfl)) (consOk_nil))
theorem loops_q31:loopsIn code_q31 = []:=by kernel_rfl
theorem m_q31:Meets Tryz.prog FX 127 c_q31:=meets_of (E:=E_q31) (code:=code_q31) mix layD_ok cons_q31 Tryz.func127 (by kernel_rfl) sg_q31 (by kernel_rfl) (fun y => y.1) c_q31.out (fun _ => rfl) c_q31.run (fun x => by kernel_rfl) (by kernel_rfl) (loops_mem loops_q31 (trivial))
noncomputable def sg_q32:Sig:=⟨[(true,[.d (.bool),.d (.sl .int),.d (.sl .int)])],[],false,[(false,[.d (.str)])],[]⟩
noncomputable def c_q32:Con:=⟨sg_q32,ByteArray,fun x => M_spec_FormatRat (⟨x.1,x.2.1,x.2.2.1⟩:Rt),fun r => (r,())⟩
noncomputable def code_q32:Code:=Tryz.f79.body.getD .skip
noncomputable def E_q32:Env:=⟨layD,[(125,c_q27),(126,c_q26),(127,c_q31),(128,c_q30)],[],[(5,[(0,[]),(1,[]),(4,[]),(5,[]),(2,[1,0]),(3,[]),(6,[5,2,4,1,0]),(7,[]),(8,[7,6,0,1,2,3,4,5])])]⟩
theorem cons_q32:ConsOk Tryz.prog FX E_q32.cons:=consOk_cons m_q27 (callable_of Tryz.func125 (by kernel_rfl)) (consOk_cons m_q26 (callable_of Tryz.func126 (by kernel_rfl)) (consOk_cons m_q31 (callable_of Tryz.func127 (by kernel_rfl)) (consOk_cons m_q30 (callable_of Tryz.func128 (by kernel_rfl)) (consOk_nil))))
theorem loops_q32:loopsIn code_q32 = []:=by kernel_rfl
theorem m_q32:Meets Tryz.prog FX 79 c_q32:=meets_of (E:=E_q32) (code:=code_q32) mix layD_ok cons_q32 Tryz.func79 (by kernel_rfl) sg_q32 (by kernel_rfl) (fun y => y.1) c_q32.out (fun _ => rfl) c_q32.run (fun x => by kernel_rfl) (by kernel_rfl) (loops_mem loops_q32 (trivial))
noncomputable def sg_q33:Sig:=⟨[(false,[.d (.str)])],[],true,[(true,[.d (.bool),.own 0,.own 1]),(false,[.d (.bool)])],[(0,.arr false .int),(1,.arr false .int)]⟩
noncomputable def c_q33:Con:=⟨sg_q33,Rt × Bool,fun x => M_spec_ParseRat x.1,fun r => (r.1.neg,r.2,r.1.mag,r.1.den,())⟩
noncomputable def code_q33:Code:=Tryz.f41.body.getD .skip
noncomputable def E_q33:Env:=⟨layD,[(37,c_q1),(84,c_q13),(85,c_q12),(79,c_q32)],[],[]⟩
theorem cons_q33:ConsOk Tryz.prog FX E_q33.cons:=consOk_cons m_q1 (callable_of Tryz.func37 (by kernel_rfl)) (consOk_cons m_q13 (callable_of Tryz.func84 (by kernel_rfl)) (consOk_cons m_q12 (callable_of Tryz.func85 (by kernel_rfl)) (consOk_cons m_q32 (callable_of Tryz.func79 (by kernel_rfl)) (consOk_nil))))
theorem loops_q33:loopsIn code_q33 = []:=by kernel_rfl
theorem m_q33:Meets Tryz.prog FX 41 c_q33:=meets_of (E:=E_q33) (code:=code_q33) mix layD_ok cons_q33 Tryz.func41 (by kernel_rfl) sg_q33 (by kernel_rfl) (fun y => ((⟨y.1,y.2.2.1,y.2.2.2.1⟩:Rt),y.2.1)) c_q33.out (fun _ => rfl) c_q33.run (fun x => by kernel_rfl) (by kernel_rfl) (loops_mem loops_q33 (trivial))
noncomputable def sg_q34:Sig:=⟨[(false,[.d (.str)]),(false,[.d (.bool)])],[],true,[(true,[.d (.str),.d (.bool),.own 0,.own 1,.d (.bool),.own 2,.own 3,.d (.bool)]),(false,[.d (.bool)])],[(0,.arr false .int),(1,.arr false .int),(2,.arr false .int),(3,.arr false .int)]⟩
noncomputable def c_q34:Con:=⟨sg_q34,Sta × Bool,fun x => M_spec_l12Station x.1 x.2.1,fun r => (r.1.name,r.1.x.neg,r.1.y.neg,r.1.fixed,r.2,r.1.x.mag,r.1.x.den,r.1.y.mag,r.1.y.den,())⟩
noncomputable def code_q34:Code:=Tryz.f70.body.getD .skip
noncomputable def E_q34:Env:=⟨layD,[(37,c_q1),(118,c_q9),(41,c_q33)],[],[(4,[(0,[]),(1,[]),(2,[]),(3,[]),(4,[]),(5,[]),(6,[]),(7,[]),(8,[]),(9,[]),(10,[9,8,7,0,1,2,3,4,5,6])])]⟩
theorem cons_q34:ConsOk Tryz.prog FX E_q34.cons:=consOk_cons m_q1 (callable_of Tryz.func37 (by kernel_rfl)) (consOk_cons m_q9 (callable_of Tryz.func118 (by kernel_rfl)) (consOk_cons m_q33 (callable_of Tryz.func41 (by kernel_rfl)) (consOk_nil)))
theorem loops_q34:loopsIn code_q34 = []:=by kernel_rfl
theorem m_q34:Meets Tryz.prog FX 70 c_q34:=meets_of (E:=E_q34) (code:=code_q34) mix layD_ok cons_q34 Tryz.func70 (by kernel_rfl) sg_q34 (by kernel_rfl) (fun y => ((⟨y.1,(⟨y.2.1,y.2.2.2.2.2.1,y.2.2.2.2.2.2.1⟩:Rt),(⟨y.2.2.1,y.2.2.2.2.2.2.2.1,y.2.2.2.2.2.2.2.2.1⟩:Rt),y.2.2.2.1⟩:Sta),y.2.2.2.2.1)) c_q34.out (fun _ => rfl) c_q34.run (fun x => by kernel_rfl) (by kernel_rfl) (loops_mem loops_q34 (trivial))
noncomputable def sg_q35:Sig:=⟨[(false,[.d (.int .i64)])],[],false,[(false,[.d (.str)])],[]⟩
noncomputable def c_q35:Con:=⟨sg_q35,ByteArray,fun x => M_spec_KindName x.1,fun r => (r,())⟩
noncomputable def code_q35:Code:=Tryz.f82.body.getD .skip
noncomputable def E_q35:Env:=⟨layD,[(83,c_q14)],[],[]⟩
theorem cons_q35:ConsOk Tryz.prog FX E_q35.cons:=consOk_cons m_q14 (callable_of Tryz.func83 (by kernel_rfl)) (consOk_nil)
theorem loops_q35:loopsIn code_q35 = []:=by kernel_rfl
theorem m_q35:Meets Tryz.prog FX 82 c_q35:=meets_of (E:=E_q35) (code:=code_q35) mix layD_ok cons_q35 Tryz.func82 (by kernel_rfl) sg_q35 (by kernel_rfl) (fun y => y.1) c_q35.out (fun _ => rfl) c_q35.run (fun x => by kernel_rfl) (by kernel_rfl) (loops_mem loops_q35 (trivial))
noncomputable def sg_q36:Sig:=⟨[(false,[.d (.str)])],[],false,[(false,[.d (.int .i64)])],[]⟩
noncomputable def c_q36:Con:=⟨sg_q36,Int,fun x => M_spec_l12Kind x.1,fun r => (r,())⟩
noncomputable def code_q36:Code:=Tryz.f38.body.getD .skip
noncomputable def body_q36_0:Code:=(loopsIn code_q36).getD 0 .skip
noncomputable def D_q36_0:LoopD:=⟨⟨mkSlots [(0,false,[.d (.str)]),(3,false,[.d (.int .i64)])] 13 0,[]⟩,[],[(.ret,⟨mkSlots [(2,false,[.d (.int .i64)])] 13 0,[]⟩,[]),(.exit 0,⟨mkSlots [] 13 0,[]⟩,[])]⟩
noncomputable def S_q36_0_w (x:Tys D_q36_0.head.ks):Option (OutT D_q36_0.outs):=@whileO (ByteArray × Int × Unit) ((Int × Unit) ⊕ (Unit)) S_spec_l12Kind_0 x
noncomputable def E_q36:Env:=⟨layD,[(82,c_q35)],[(2,mkLM D_q36_0 S_q36_0_w)],[]⟩
theorem cons_q36:ConsOk Tryz.prog FX E_q36.cons:=consOk_cons m_q35 (callable_of Tryz.func82 (by kernel_rfl)) (consOk_nil)
theorem S_q36_0_ok (x:Tys D_q36_0.head.ks):stepL E_q36 D_q36_0 body_q36_0 x = S_spec_l12Kind_0 x:=by kernel_rfl
theorem loops_q36_0:loopsIn body_q36_0 = []:=by kernel_rfl
theorem l_q36_0:LoopOk Tryz.prog FX (mkLM D_q36_0 S_q36_0_w) body_q36_0:=loop_ok2 mix layD_ok cons_q36 (by kernel_rfl) (loops_mem loops_q36_0 (trivial)) S_q36_0_ok fun _ _ h => h
theorem loops_q36:loopsIn code_q36 = [body_q36_0]:=by kernel_rfl
theorem m_q36:Meets Tryz.prog FX 38 c_q36:=meets_of (E:=E_q36) (code:=code_q36) mix layD_ok cons_q36 Tryz.func38 (by kernel_rfl) sg_q36 (by kernel_rfl) (fun y => y.1) c_q36.out (fun _ => rfl) c_q36.run (fun x => by kernel_rfl) (by kernel_rfl) (loops_mem loops_q36 (⟨⟨_,by kernel_rfl,l_q36_0⟩,trivial⟩))
noncomputable def sg_q37:Sig:=⟨[(false,[.d (.int .i64)])],[],false,[(false,[.d (.bool)])],[]⟩
noncomputable def c_q37:Con:=⟨sg_q37,Bool,fun x => M_spec_IsBetween x.1,fun r => (r,())⟩
noncomputable def code_q37:Code:=Tryz.f39.body.getD .skip
noncomputable def E_q37:Env:=⟨layD,[(83,c_q14)],[],[]⟩
theorem cons_q37:ConsOk Tryz.prog FX E_q37.cons:=consOk_cons m_q14 (callable_of Tryz.func83 (by kernel_rfl)) (consOk_nil)
theorem loops_q37:loopsIn code_q37 = []:=by kernel_rfl
theorem m_q37:Meets Tryz.prog FX 39 c_q37:=meets_of (E:=E_q37) (code:=code_q37) mix layD_ok cons_q37 Tryz.func39 (by kernel_rfl) sg_q37 (by kernel_rfl) (fun y => y.1) c_q37.out (fun _ => rfl) c_q37.run (fun x => by kernel_rfl) (by kernel_rfl) (loops_mem loops_q37 (trivial))
noncomputable def sg_q38:Sig:=⟨[(true,[.d (.bool),.d (.sl .sta)]),(false,[.d (.str)])],[],false,[(false,[.d (.int .i64)])],[]⟩
noncomputable def c_q38:Con:=⟨sg_q38,Int,fun x => M_spec_FindStation (⟨x.1,x.2.1⟩:Net) x.2.2.1,fun r => (r,())⟩
noncomputable def code_q38:Code:=Tryz.f40.body.getD .skip
noncomputable def body_q38_0:Code:=(loopsIn code_q38).getD 0 .skip
noncomputable def D_q38_0:LoopD:=⟨⟨mkSlots [(1,false,[.d (.str)]),(8,false,[.d (.sl .sta)]),(9,false,[.d (.int .i64)]),(10,false,[.d (.int .i64)])] 21 0,[]⟩,[],[(.ret,⟨mkSlots [(4,false,[.d (.int .i64)])] 21 0,[]⟩,[]),(.exit 0,⟨mkSlots [] 21 0,[]⟩,[])]⟩
noncomputable def S_q38_0_w (x:Tys D_q38_0.head.ks):Option (OutT D_q38_0.outs):=@whileO (ByteArray × (List Sta) × Int × Int × Unit) ((Int × Unit) ⊕ (Unit)) S_spec_FindStation_0 x
noncomputable def E_q38:Env:=⟨layD,[],[(2,mkLM D_q38_0 S_q38_0_w)],[]⟩
theorem cons_q38:ConsOk Tryz.prog FX E_q38.cons:=consOk_nil
theorem S_q38_0_ok (x:Tys D_q38_0.head.ks):stepL E_q38 D_q38_0 body_q38_0 x = S_spec_FindStation_0 x:=by kernel_rfl
theorem loops_q38_0:loopsIn body_q38_0 = []:=by kernel_rfl
theorem l_q38_0:LoopOk Tryz.prog FX (mkLM D_q38_0 S_q38_0_w) body_q38_0:=loop_ok2 mix layD_ok cons_q38 (by kernel_rfl) (loops_mem loops_q38_0 (trivial)) S_q38_0_ok fun _ _ h => h
theorem loops_q38:loopsIn code_q38 = [body_q38_0]:=by kernel_rfl
theorem m_q38:Meets Tryz.prog FX 40 c_q38:=meets_of (E:=E_q38) (code:=code_q38) mix layD_ok cons_q38 Tryz.func40 (by kernel_rfl) sg_q38 (by kernel_rfl) (fun y => y.1) c_q38.out (fun _ => rfl) c_q38.run (fun x => by kernel_rfl) (by kernel_rfl) (loops_mem loops_q38 (⟨⟨_,by kernel_rfl,l_q38_0⟩,trivial⟩))
noncomputable def sg_q39:Sig:=⟨[(false,[.d (.str)])],[],false,[(false,[.d (.bool)])],[]⟩
noncomputable def c_q39:Con:=⟨sg_q39,Bool,fun x => M_spec_IsName x.1,fun r => (r,())⟩
noncomputable def code_q39:Code:=Tryz.f167.body.getD .skip
noncomputable def body_q39_0:Code:=(loopsIn code_q39).getD 0 .skip
noncomputable def D_q39_0:LoopD:=⟨⟨mkSlots [(0,false,[.d (.str)]),(3,false,[.d (.int .i64)])] 42 0,[]⟩,[],[(.ret,⟨mkSlots [(2,false,[.d (.bool)])] 42 0,[]⟩,[]),(.exit 0,⟨mkSlots [(0,false,[.d (.str)])] 42 0,[]⟩,[])]⟩
noncomputable def S_q39_0_w (x:Tys D_q39_0.head.ks):Option (OutT D_q39_0.outs):=@whileO (ByteArray × Int × Unit) ((Bool × Unit) ⊕ (ByteArray × Unit)) S_spec_IsName_0 x
noncomputable def E_q39:Env:=⟨layD,[(83,c_q14)],[(2,mkLM D_q39_0 S_q39_0_w)],[]⟩
theorem cons_q39:ConsOk Tryz.prog FX E_q39.cons:=consOk_cons m_q14 (callable_of Tryz.func83 (by kernel_rfl)) (consOk_nil)
theorem S_q39_0_ok (x:Tys D_q39_0.head.ks):stepL E_q39 D_q39_0 body_q39_0 x = S_spec_IsName_0 x:=by kernel_rfl
theorem loops_q39_0:loopsIn body_q39_0 = []:=by kernel_rfl
theorem l_q39_0:LoopOk Tryz.prog FX (mkLM D_q39_0 S_q39_0_w) body_q39_0:=loop_ok2 mix layD_ok cons_q39 (by kernel_rfl) (loops_mem loops_q39_0 (trivial)) S_q39_0_ok fun _ _ h => h
theorem loops_q39:loopsIn code_q39 = [body_q39_0]:=by kernel_rfl
theorem m_q39:Meets Tryz.prog FX 167 c_q39:=meets_of (E:=E_q39) (code:=code_q39) mix layD_ok cons_q39 Tryz.func167 (by kernel_rfl) sg_q39 (by kernel_rfl) (fun y => y.1) c_q39.out (fun _ => rfl) c_q39.run (fun x => by kernel_rfl) (by kernel_rfl) (loops_mem loops_q39 (⟨⟨_,by kernel_rfl,l_q39_0⟩,trivial⟩))
noncomputable def sg_q40:Sig:=⟨[(true,[.d (.bool),.d (.sl .int),.d (.sl .int)])],[],false,[(false,[.d (.bool)])],[]⟩
noncomputable def c_q40:Con:=⟨sg_q40,Bool,fun x => M_spec_l05Nil (⟨x.1,x.2.1,x.2.2.1⟩:Rt),fun r => (r,())⟩
noncomputable def code_q40:Code:=Tryz.f168.body.getD .skip
noncomputable def E_q40:Env:=⟨layD,[],[],[]⟩
theorem cons_q40:ConsOk Tryz.prog FX E_q40.cons:=consOk_nil
theorem loops_q40:loopsIn code_q40 = []:=by kernel_rfl
theorem m_q40:Meets Tryz.prog FX 168 c_q40:=meets_of (E:=E_q40) (code:=code_q40) mix layD_ok cons_q40 Tryz.func168 (by kernel_rfl) sg_q40 (by kernel_rfl) (fun y => y.1) c_q40.out (fun _ => rfl) c_q40.run (fun x => by kernel_rfl) (by kernel_rfl) (loops_mem loops_q40 (trivial))
noncomputable def sg_q41:Sig:=⟨[(true,[.d (.str),.d (.bool),.d (.sl .int),.d (.sl .int),.d (.bool),.d (.sl .int),.d (.sl .int),.d (.bool)]),(false,[.d (.bool)])],[],false,[(false,[.d (.bool)])],[]⟩
noncomputable def c_q41:Con:=⟨sg_q41,Bool,fun x => M_spec_StationOk (⟨x.1,(⟨x.2.1,x.2.2.1,x.2.2.2.1⟩:Rt),(⟨x.2.2.2.2.1,x.2.2.2.2.2.1,x.2.2.2.2.2.2.1⟩:Rt),x.2.2.2.2.2.2.2.1⟩:Sta) x.2.2.2.2.2.2.2.2.1,fun r => (r,())⟩
noncomputable def code_q41:Code:=Tryz.f131.body.getD .skip
noncomputable def E_q41:Env:=⟨layD,[(167,c_q39),(125,c_q27),(168,c_q40)],[],[]⟩
theorem cons_q41:ConsOk Tryz.prog FX E_q41.cons:=consOk_cons m_q39 (callable_of Tryz.func167 (by kernel_rfl)) (consOk_cons m_q27 (callable_of Tryz.func125 (by kernel_rfl)) (consOk_cons m_q40 (callable_of Tryz.func168 (by kernel_rfl)) (consOk_nil)))
theorem loops_q41:loopsIn code_q41 = []:=by kernel_rfl
theorem m_q41:Meets Tryz.prog FX 131 c_q41:=meets_of (E:=E_q41) (code:=code_q41) mix layD_ok cons_q41 Tryz.func131 (by kernel_rfl) sg_q41 (by kernel_rfl) (fun y => y.1) c_q41.out (fun _ => rfl) c_q41.run (fun x => by kernel_rfl) (by kernel_rfl) (loops_mem loops_q41 (trivial))
noncomputable def sg_q42:Sig:=⟨[(true,[.d (.bool),.d (.sl .sta)])],[],false,[(false,[.d (.bool)])],[]⟩
noncomputable def c_q42:Con:=⟨sg_q42,Bool,fun x => M_spec_NetworkOk (⟨x.1,x.2.1⟩:Net),fun r => (r,())⟩
noncomputable def code_q42:Code:=Tryz.f86.body.getD .skip
noncomputable def body_q42_0:Code:=(loopsIn code_q42).getD 0 .skip
noncomputable def D_q42_0:LoopD:=⟨⟨mkSlots [(1,false,[.lp 64 0]),(10,false,[.d (.sl .sta)]),(11,false,[.d (.int .i64)]),(12,false,[.d (.int .i64)])] 31 0,[(64,.box [.d (.bool),.d (.sl .sta)])]⟩,[],[(.ret,⟨mkSlots [(2,false,[.d (.bool)])] 31 0,[]⟩,[]),(.exit 0,⟨mkSlots [] 31 0,[]⟩,[])]⟩
noncomputable def S_q42_0_w (x:Tys D_q42_0.head.ks):Option (OutT D_q42_0.outs):=@whileO ((List Sta) × Int × Int × Bool × (List Sta) × Unit) ((Bool × Unit) ⊕ (Unit)) S_spec_NetworkOk_0 x
noncomputable def E_q42:Env:=⟨layD,[(131,c_q41),(40,c_q38)],[(4,mkLM D_q42_0 S_q42_0_w)],[]⟩
theorem cons_q42:ConsOk Tryz.prog FX E_q42.cons:=consOk_cons m_q41 (callable_of Tryz.func131 (by kernel_rfl)) (consOk_cons m_q38 (callable_of Tryz.func40 (by kernel_rfl)) (consOk_nil))
theorem S_q42_0_ok (x:Tys D_q42_0.head.ks):stepL E_q42 D_q42_0 body_q42_0 x = S_spec_NetworkOk_0 x:=by kernel_rfl
theorem loops_q42_0:loopsIn body_q42_0 = []:=by kernel_rfl
theorem l_q42_0:LoopOk Tryz.prog FX (mkLM D_q42_0 S_q42_0_w) body_q42_0:=loop_ok2 mix layD_ok cons_q42 (by kernel_rfl) (loops_mem loops_q42_0 (trivial)) S_q42_0_ok fun _ _ h => h
theorem loops_q42:loopsIn code_q42 = [body_q42_0]:=by kernel_rfl
theorem m_q42:Meets Tryz.prog FX 86 c_q42:=meets_of (E:=E_q42) (code:=code_q42) mix layD_ok cons_q42 Tryz.func86 (by kernel_rfl) sg_q42 (by kernel_rfl) (fun y => y.1) c_q42.out (fun _ => rfl) c_q42.run (fun x => by kernel_rfl) (by kernel_rfl) (loops_mem loops_q42 (⟨⟨_,by kernel_rfl,l_q42_0⟩,trivial⟩))
noncomputable def sg_q43:Sig:=⟨[(false,[.d (.int .i64)]),(false,[.d (.bool)])],[],false,[(false,[.d (.bool)])],[]⟩
noncomputable def c_q43:Con:=⟨sg_q43,Bool,fun x => M_spec_l11Fits x.1 x.2.1,fun r => (r,())⟩
noncomputable def code_q43:Code:=Tryz.f132.body.getD .skip
noncomputable def E_q43:Env:=⟨layD,[(83,c_q14)],[],[]⟩
theorem cons_q43:ConsOk Tryz.prog FX E_q43.cons:=consOk_cons m_q14 (callable_of Tryz.func83 (by kernel_rfl)) (consOk_nil)
theorem loops_q43:loopsIn code_q43 = []:=by kernel_rfl
theorem m_q43:Meets Tryz.prog FX 132 c_q43:=meets_of (E:=E_q43) (code:=code_q43) mix layD_ok cons_q43 Tryz.func132 (by kernel_rfl) sg_q43 (by kernel_rfl) (fun y => y.1) c_q43.out (fun _ => rfl) c_q43.run (fun x => by kernel_rfl) (by kernel_rfl) (loops_mem loops_q43 (trivial))
noncomputable def sg_q44:Sig:=⟨[(true,[.d (.bool),.d (.sl .int),.d (.sl .int)])],[],false,[(false,[.d (.int .i64)])],[]⟩
noncomputable def c_q44:Con:=⟨sg_q44,Int,fun x => M_spec_RatSign (⟨x.1,x.2.1,x.2.2.1⟩:Rt),fun r => (r,())⟩
noncomputable def code_q44:Code:=Tryz.f133.body.getD .skip
noncomputable def E_q44:Env:=⟨layD,[(125,c_q27)],[],[]⟩
theorem cons_q44:ConsOk Tryz.prog FX E_q44.cons:=consOk_cons m_q27 (callable_of Tryz.func125 (by kernel_rfl)) (consOk_nil)
theorem loops_q44:loopsIn code_q44 = []:=by kernel_rfl
theorem m_q44:Meets Tryz.prog FX 133 c_q44:=meets_of (E:=E_q44) (code:=code_q44) mix layD_ok cons_q44 Tryz.func133 (by kernel_rfl) sg_q44 (by kernel_rfl) (fun y => y.1) c_q44.out (fun _ => rfl) c_q44.run (fun x => by kernel_rfl) (by kernel_rfl) (loops_mem loops_q44 (trivial))
noncomputable def sg_q45:Sig:=⟨[(true,[.d (.bool),.d (.sl .sta)]),(true,[.d (.int .i64),.d (.int .i64),.d (.int .i64),.d (.bool),.d (.sl .int),.d (.sl .int),.d (.bool),.d (.sl .int),.d (.sl .int)])],[],false,[(false,[.d (.bool)])],[]⟩
noncomputable def c_q45:Con:=⟨sg_q45,Bool,fun x => M_spec_l11Ok (⟨x.1,x.2.1⟩:Net) (⟨x.2.2.1,x.2.2.2.1,x.2.2.2.2.1,(⟨x.2.2.2.2.2.1,x.2.2.2.2.2.2.1,x.2.2.2.2.2.2.2.1⟩:Rt),(⟨x.2.2.2.2.2.2.2.2.1,x.2.2.2.2.2.2.2.2.2.1,x.2.2.2.2.2.2.2.2.2.2.1⟩:Rt)⟩:Obs),fun r => (r,())⟩
noncomputable def code_q45:Code:=Tryz.f87.body.getD .skip
noncomputable def E_q45:Env:=⟨layD,[(132,c_q43),(83,c_q14),(39,c_q37),(125,c_q27),(133,c_q44)],[],[]⟩
theorem cons_q45:ConsOk Tryz.prog FX E_q45.cons:=consOk_cons m_q43 (callable_of Tryz.func132 (by kernel_rfl)) (consOk_cons m_q14 (callable_of Tryz.func83 (by kernel_rfl)) (consOk_cons m_q37 (callable_of Tryz.func39 (by kernel_rfl)) (consOk_cons m_q27 (callable_of Tryz.func125 (by kernel_rfl)) (consOk_cons m_q44 (callable_of Tryz.func133 (by kernel_rfl)) (consOk_nil)))))
theorem loops_q45:loopsIn code_q45 = []:=by kernel_rfl
theorem m_q45:Meets Tryz.prog FX 87 c_q45:=meets_of (E:=E_q45) (code:=code_q45) mix layD_ok cons_q45 Tryz.func87 (by kernel_rfl) sg_q45 (by kernel_rfl) (fun y => y.1) c_q45.out (fun _ => rfl) c_q45.run (fun x => by kernel_rfl) (by kernel_rfl) (loops_mem loops_q45 (trivial))
noncomputable def sg_q46:Sig:=⟨[(true,[.d (.bool),.d (.sl .sta)]),(true,[.d (.int .i64),.d (.int .i64),.d (.int .i64),.d (.bool),.d (.sl .int),.d (.sl .int),.d (.bool),.d (.sl .int),.d (.sl .int)])],[],false,[(false,[.d (.bool)])],[]⟩
noncomputable def c_q46:Con:=⟨sg_q46,Bool,fun x => M_spec_ObservationOk (⟨x.1,x.2.1⟩:Net) (⟨x.2.2.1,x.2.2.2.1,x.2.2.2.2.1,(⟨x.2.2.2.2.2.1,x.2.2.2.2.2.2.1,x.2.2.2.2.2.2.2.1⟩:Rt),(⟨x.2.2.2.2.2.2.2.2.1,x.2.2.2.2.2.2.2.2.2.1,x.2.2.2.2.2.2.2.2.2.2.1⟩:Rt)⟩:Obs),fun r => (r,())⟩
noncomputable def code_q46:Code:=Tryz.f42.body.getD .skip
noncomputable def E_q46:Env:=⟨layD,[(86,c_q42),(87,c_q45)],[],[]⟩
theorem cons_q46:ConsOk Tryz.prog FX E_q46.cons:=consOk_cons m_q42 (callable_of Tryz.func86 (by kernel_rfl)) (consOk_cons m_q45 (callable_of Tryz.func87 (by kernel_rfl)) (consOk_nil))
theorem loops_q46:loopsIn code_q46 = []:=by kernel_rfl
theorem m_q46:Meets Tryz.prog FX 42 c_q46:=meets_of (E:=E_q46) (code:=code_q46) mix layD_ok cons_q46 Tryz.func42 (by kernel_rfl) sg_q46 (by kernel_rfl) (fun y => y.1) c_q46.out (fun _ => rfl) c_q46.run (fun x => by kernel_rfl) (by kernel_rfl) (loops_mem loops_q46 (trivial))
noncomputable def sg_q47:Sig:=⟨[(true,[.d (.bool),.d (.sl .sta)]),(true,[.d (.int .i64),.d (.int .i64),.d (.int .i64),.d (.bool),.d (.sl .int),.d (.sl .int),.d (.bool),.d (.sl .int),.d (.sl .int)])],[],false,[(false,[.d (.str)])],[]⟩
noncomputable def c_q47:Con:=⟨sg_q47,ByteArray,fun x => M_spec_l12Line (⟨x.1,x.2.1⟩:Net) (⟨x.2.2.1,x.2.2.2.1,x.2.2.2.2.1,(⟨x.2.2.2.2.2.1,x.2.2.2.2.2.2.1,x.2.2.2.2.2.2.2.1⟩:Rt),(⟨x.2.2.2.2.2.2.2.2.1,x.2.2.2.2.2.2.2.2.2.1,x.2.2.2.2.2.2.2.2.2.2.1⟩:Rt)⟩:Obs),fun r => (r,())⟩
noncomputable def code_q47:Code:=Tryz.f43.body.getD .skip
noncomputable def E_q47:Env:=⟨layD,[(82,c_q35),(39,c_q37),(79,c_q32)],[],[(1,[(0,[]),(1,[]),(4,[]),(5,[]),(6,[]),(7,[]),(8,[]),(9,[]),(10,[]),(2,[1,0]),(3,[]),(11,[]),(12,[11,2,0,1,3,4,5,6,7,8,9,10])]),(4,[(0,[]),(1,[]),(2,[]),(3,[]),(7,[]),(8,[]),(4,[3,2]),(5,[]),(6,[]),(9,[8,4,7,3,2]),(10,[]),(11,[10,9,0,1,2,3,4,5,6,7,8])])]⟩
theorem cons_q47:ConsOk Tryz.prog FX E_q47.cons:=consOk_cons m_q35 (callable_of Tryz.func82 (by kernel_rfl)) (consOk_cons m_q37 (callable_of Tryz.func39 (by kernel_rfl)) (consOk_cons m_q32 (callable_of Tryz.func79 (by kernel_rfl)) (consOk_nil)))
theorem loops_q47:loopsIn code_q47 = []:=by kernel_rfl
theorem m_q47:Meets Tryz.prog FX 43 c_q47:=meets_of (E:=E_q47) (code:=code_q47) mix layD_ok cons_q47 Tryz.func43 (by kernel_rfl) sg_q47 (by kernel_rfl) (fun y => y.1) c_q47.out (fun _ => rfl) c_q47.run (fun x => by kernel_rfl) (by kernel_rfl) (loops_mem loops_q47 (trivial))
noncomputable def sg_q48:Sig:=⟨[(true,[.d (.bool),.d (.sl .sta)]),(false,[.d (.str)])],[],true,[(true,[.d (.int .i64),.d (.int .i64),.d (.int .i64),.d (.bool),.own 0,.own 1,.d (.bool),.own 2,.own 3]),(false,[.d (.bool)])],[(0,.arr false .int),(1,.arr false .int),(2,.arr false .int),(3,.arr false .int)]⟩
noncomputable def c_q48:Con:=⟨sg_q48,Obs × Bool,fun x => M_spec_ParseObservation (⟨x.1,x.2.1⟩:Net) x.2.2.1,fun r => (r.1.kind,r.1.frm,r.1.to,r.1.value.neg,r.1.variance.neg,r.2,r.1.value.mag,r.1.value.den,r.1.variance.mag,r.1.variance.den,())⟩
noncomputable def code_q48:Code:=Tryz.f9.body.getD .skip
noncomputable def E_q48:Env:=⟨layD,[(37,c_q1),(38,c_q36),(39,c_q37),(40,c_q38),(41,c_q33),(42,c_q46),(43,c_q47)],[],[(8,[(0,[]),(1,[]),(2,[]),(3,[]),(4,[0,3,2,1]),(5,[]),(6,[5,4,0,1,2,3])]),(10,[(0,[]),(1,[]),(2,[]),(3,[]),(4,[0,3,2,1]),(5,[]),(6,[5,4,0,1,2,3])])]⟩
theorem cons_q48:ConsOk Tryz.prog FX E_q48.cons:=consOk_cons m_q1 (callable_of Tryz.func37 (by kernel_rfl)) (consOk_cons m_q36 (callable_of Tryz.func38 (by kernel_rfl)) (consOk_cons m_q37 (callable_of Tryz.func39 (by kernel_rfl)) (consOk_cons m_q38 (callable_of Tryz.func40 (by kernel_rfl)) (consOk_cons m_q33 (callable_of Tryz.func41 (by kernel_rfl)) (consOk_cons m_q46 (callable_of Tryz.func42 (by kernel_rfl)) (consOk_cons m_q47 (callable_of Tryz.func43 (by kernel_rfl)) (consOk_nil)))))))
theorem loops_q48:loopsIn code_q48 = []:=by kernel_rfl
theorem m_q48:Meets Tryz.prog FX 9 c_q48:=meets_of (E:=E_q48) (code:=code_q48) mix layD_ok cons_q48 Tryz.func9 (by kernel_rfl) sg_q48 (by kernel_rfl) (fun y => ((⟨y.1,y.2.1,y.2.2.1,(⟨y.2.2.2.1,y.2.2.2.2.2.2.1,y.2.2.2.2.2.2.2.1⟩:Rt),(⟨y.2.2.2.2.1,y.2.2.2.2.2.2.2.2.1,y.2.2.2.2.2.2.2.2.2.1⟩:Rt)⟩:Obs),y.2.2.2.2.2.1)) c_q48.out (fun _ => rfl) c_q48.run (fun x => by kernel_rfl) (by kernel_rfl) (loops_mem loops_q48 (trivial))
noncomputable def sg_q49:Sig:=⟨[(true,[.d (.bool),.d (.sl .sta)]),(false,[.d (.sl .obs)])],[],false,[(false,[.d (.bool)])],[]⟩
noncomputable def c_q49:Con:=⟨sg_q49,Bool,fun x => M_spec_ObservationsOk (⟨x.1,x.2.1⟩:Net) x.2.2.1,fun r => (r,())⟩
noncomputable def code_q49:Code:=Tryz.f124.body.getD .skip
noncomputable def body_q49_0:Code:=(loopsIn code_q49).getD 0 .skip
noncomputable def D_q49_0:LoopD:=⟨⟨mkSlots [(2,false,[.lp 128 0]),(15,false,[.d (.sl .obs)]),(16,false,[.d (.int .i64)]),(17,false,[.d (.int .i64)])] 26 0,[(128,.box [.d (.bool),.d (.sl .sta)])]⟩,[],[(.ret,⟨mkSlots [(4,false,[.d (.bool)])] 26 0,[]⟩,[]),(.exit 0,⟨mkSlots [] 26 0,[]⟩,[])]⟩
noncomputable def S_q49_0_w (x:Tys D_q49_0.head.ks):Option (OutT D_q49_0.outs):=@whileO ((List Obs) × Int × Int × Bool × (List Sta) × Unit) ((Bool × Unit) ⊕ (Unit)) S_spec_ObservationsOk_0 x
noncomputable def E_q49:Env:=⟨layD,[(86,c_q42),(87,c_q45)],[(4,mkLM D_q49_0 S_q49_0_w)],[]⟩
theorem cons_q49:ConsOk Tryz.prog FX E_q49.cons:=consOk_cons m_q42 (callable_of Tryz.func86 (by kernel_rfl)) (consOk_cons m_q45 (callable_of Tryz.func87 (by kernel_rfl)) (consOk_nil))
theorem S_q49_0_ok (x:Tys D_q49_0.head.ks):stepL E_q49 D_q49_0 body_q49_0 x = S_spec_ObservationsOk_0 x:=by kernel_rfl
theorem loops_q49_0:loopsIn body_q49_0 = []:=by kernel_rfl
theorem l_q49_0:LoopOk Tryz.prog FX (mkLM D_q49_0 S_q49_0_w) body_q49_0:=loop_ok2 mix layD_ok cons_q49 (by kernel_rfl) (loops_mem loops_q49_0 (trivial)) S_q49_0_ok fun _ _ h => h
theorem loops_q49:loopsIn code_q49 = [body_q49_0]:=by kernel_rfl
theorem m_q49:Meets Tryz.prog FX 124 c_q49:=meets_of (E:=E_q49) (code:=code_q49) mix layD_ok cons_q49 Tryz.func124 (by kernel_rfl) sg_q49 (by kernel_rfl) (fun y => y.1) c_q49.out (fun _ => rfl) c_q49.run (fun x => by kernel_rfl) (by kernel_rfl) (loops_mem loops_q49 (⟨⟨_,by kernel_rfl,l_q49_0⟩,trivial⟩))
noncomputable def sg_q50:Sig:=⟨[(true,[.d (.bool),.d (.sl .sta),.d (.sl .obs)])],[],false,[(false,[.d (.bool)])],[]⟩
noncomputable def c_q50:Con:=⟨sg_q50,Bool,fun x => M_spec_BookOk (⟨x.1,x.2.1,x.2.2.1⟩:Bk),fun r => (r,())⟩
noncomputable def code_q50:Code:=Tryz.f78.body.getD .skip
noncomputable def E_q50:Env:=⟨layD,[(124,c_q49)],[],[]⟩
theorem cons_q50:ConsOk Tryz.prog FX E_q50.cons:=consOk_cons m_q49 (callable_of Tryz.func124 (by kernel_rfl)) (consOk_nil)
theorem loops_q50:loopsIn code_q50 = []:=by kernel_rfl
theorem m_q50:Meets Tryz.prog FX 78 c_q50:=meets_of (E:=E_q50) (code:=code_q50) mix layD_ok cons_q50 Tryz.func78 (by kernel_rfl) sg_q50 (by kernel_rfl) (fun y => y.1) c_q50.out (fun _ => rfl) c_q50.run (fun x => by kernel_rfl) (by kernel_rfl) (loops_mem loops_q50 (trivial))
noncomputable def sg_q51:Sig:=⟨[(true,[.d (.bool),.d (.sl .sta),.d (.sl .obs)])],[],false,[(false,[.d (.str)])],[]⟩
noncomputable def c_q51:Con:=⟨sg_q51,ByteArray,fun x => M_spec_FormatBook (⟨x.1,x.2.1,x.2.2.1⟩:Bk),fun r => (r,())⟩
noncomputable def code_q51:Code:=Tryz.f34.body.getD .skip
noncomputable def body_q51_0:Code:=(loopsIn code_q51).getD 0 .skip
noncomputable def body_q51_1:Code:=(loopsIn code_q51).getD 1 .skip
noncomputable def D_q51_0:LoopD:=⟨⟨mkSlots [(1,false,[.lp 64 0]),(3,false,[.d (.str)]),(17,false,[.d (.sl .sta)]),(18,false,[.d (.int .i64)]),(19,false,[.d (.int .i64)])] 64 0,[(64,.box [.d (.bool),.d (.sl .sta),.d (.sl .obs)])]⟩,[],[(.exit 0,⟨mkSlots [(1,false,[.lp 64 0]),(3,false,[.d (.str)])] 64 0,[(64,.box [.d (.bool),.d (.sl .sta),.d (.sl .obs)])]⟩,[])]⟩
noncomputable def D_q51_1:LoopD:=⟨⟨mkSlots [(1,false,[.lp 64 0]),(3,false,[.d (.str)]),(49,false,[.d (.sl .obs)]),(50,false,[.d (.int .i64)]),(51,false,[.d (.int .i64)])] 64 0,[(64,.box [.d (.bool),.d (.sl .sta),.d (.sl .obs)])]⟩,[],[(.exit 2,⟨mkSlots [(3,false,[.d (.str)])] 64 0,[]⟩,[])]⟩
noncomputable def S_q51_0_w (x:Tys D_q51_0.head.ks):Option (OutT D_q51_0.outs):=@whileO (ByteArray × (List Sta) × Int × Int × Bool × (List Sta) × (List Obs) × Unit) (ByteArray × Bool × (List Sta) × (List Obs) × Unit) S_spec_FormatBook_0 x
noncomputable def S_q51_1_w (x:Tys D_q51_1.head.ks):Option (OutT D_q51_1.outs):=@whileO (ByteArray × (List Obs) × Int × Int × Bool × (List Sta) × (List Obs) × Unit) (ByteArray × Unit) S_spec_FormatBook_1 x
noncomputable def E_q51:Env:=⟨layD,[(78,c_q50),(79,c_q32),(43,c_q47)],[(7,mkLM D_q51_0 S_q51_0_w),(18,mkLM D_q51_1 S_q51_1_w)],[(12,[(0,[]),(1,[]),(2,[]),(3,[]),(4,[]),(5,[]),(6,[]),(7,[]),(8,[]),(9,[8,7]),(10,[]),(11,[10,9,0,1,2,3,4,5,6,7,8])])]⟩
theorem cons_q51:ConsOk Tryz.prog FX E_q51.cons:=consOk_cons m_q50 (callable_of Tryz.func78 (by kernel_rfl)) (consOk_cons m_q32 (callable_of Tryz.func79 (by kernel_rfl)) (consOk_cons m_q47 (callable_of Tryz.func43 (by kernel_rfl)) (consOk_nil)))
theorem S_q51_1_ok (x:Tys D_q51_1.head.ks):stepL E_q51 D_q51_1 body_q51_1 x = S_spec_FormatBook_1 x:=by kernel_rfl
theorem loops_q51_1:loopsIn body_q51_1 = []:=by kernel_rfl
theorem l_q51_1:LoopOk Tryz.prog FX (mkLM D_q51_1 S_q51_1_w) body_q51_1:=loop_ok2 mix layD_ok cons_q51 (by kernel_rfl) (loops_mem loops_q51_1 (trivial)) S_q51_1_ok fun _ _ h => h
theorem S_q51_0_ok (x:Tys D_q51_0.head.ks):stepL E_q51 D_q51_0 body_q51_0 x = S_spec_FormatBook_0 x:=by kernel_rfl
theorem loops_q51_0:loopsIn body_q51_0 = []:=by kernel_rfl
theorem l_q51_0:LoopOk Tryz.prog FX (mkLM D_q51_0 S_q51_0_w) body_q51_0:=loop_ok2 mix layD_ok cons_q51 (by kernel_rfl) (loops_mem loops_q51_0 (trivial)) S_q51_0_ok fun _ _ h => h
theorem loops_q51:loopsIn code_q51 = [body_q51_0,body_q51_1]:=by kernel_rfl
theorem m_q51:Meets Tryz.prog FX 34 c_q51:=meets_of (E:=E_q51) (code:=code_q51) mix layD_ok cons_q51 Tryz.func34 (by kernel_rfl) sg_q51 (by kernel_rfl) (fun y => y.1) c_q51.out (fun _ => rfl) c_q51.run (fun x => by kernel_rfl) (by kernel_rfl) (loops_mem loops_q51 (⟨⟨_,by kernel_rfl,l_q51_0⟩,⟨⟨_,by kernel_rfl,l_q51_1⟩,trivial⟩⟩))
noncomputable def sg_q52:Sig:=⟨[(false,[.d (.str)])],[],true,[(true,[.d (.bool),.d (.sl .sta),.d (.sl .obs)]),(false,[.d (.bool)])],[]⟩
noncomputable def c_q52:Con:=⟨sg_q52,Bk × Bool,fun x => M_spec_ParseBook x.1,fun r => (r.1.plane,r.1.stations,r.1.obs,r.2,())⟩
noncomputable def code_q52:Code:=Tryz.f26.body.getD .skip
noncomputable def body_q52_0:Code:=(loopsIn code_q52).getD 0 .skip
noncomputable def D_q52_0:LoopD:=⟨⟨mkSlots [(0,false,[.d (.str)]),(2,false,[.lp 128 0]),(5,false,[.lp 320 0]),(37,false,[.d (.sl .str)]),(38,false,[.d (.int .i64)]),(39,false,[.d (.int .i64)])] 107 0,[(128,.box [.d (.bool),.d (.sl .sta),.d (.sl .obs)]),(320,.box [.d (.bool),.dp 6912,.dp 6976]),(6912,.deep .sta),(6976,.deep .obs)]⟩,[(.boxD 320 1,6912,.sta),(.boxD 320 2,6976,.obs)],[(.ret,⟨mkSlots [(2,false,[.lp 128 0]),(3,false,[.d (.bool)])] 107 0,[(128,.box [.d (.bool),.d (.sl .sta),.d (.sl .obs)])]⟩,[]),(.exit 0,⟨mkSlots [(0,false,[.d (.str)]),(2,false,[.lp 128 0]),(5,false,[.lp 320 0])] 107 0,[(128,.box [.d (.bool),.d (.sl .sta),.d (.sl .obs)]),(320,.box [.d (.bool),.dp 6912,.dp 6976]),(6912,.deep .sta),(6976,.deep .obs)]⟩,[(.boxD 320 1,6912,.sta),(.boxD 320 2,6976,.obs)])]⟩
noncomputable def S_q52_0_w (x:Tys D_q52_0.head.ks):Option (OutT D_q52_0.outs):=@whileO (ByteArray × (List ByteArray) × Int × Int × Bool × (List Sta) × (List Obs) × Bool × (List Sta) × (List Obs) × Unit) ((Bool × Bool × (List Sta) × (List Obs) × Unit) ⊕ (ByteArray × Bool × (List Sta) × (List Obs) × Bool × (List Sta) × (List Obs) × Unit)) S_spec_ParseBook_0 x
noncomputable def E_q52:Env:=⟨layD,[(69,c_q2),(70,c_q34),(9,c_q48),(34,c_q51)],[(6,mkLM D_q52_0 S_q52_0_w)],[]⟩
theorem cons_q52:ConsOk Tryz.prog FX E_q52.cons:=consOk_cons m_q2 (callable_of Tryz.func69 (by kernel_rfl)) (consOk_cons m_q34 (callable_of Tryz.func70 (by kernel_rfl)) (consOk_cons m_q48 (callable_of Tryz.func9 (by kernel_rfl)) (consOk_cons m_q51 (callable_of Tryz.func34 (by kernel_rfl)) (consOk_nil))))
theorem S_q52_0_ok (x:Tys D_q52_0.head.ks):stepL E_q52 D_q52_0 body_q52_0 x = S_spec_ParseBook_0 x:=by kernel_rfl
theorem loops_q52_0:loopsIn body_q52_0 = []:=by kernel_rfl
theorem l_q52_0:LoopOk Tryz.prog FX (mkLM D_q52_0 S_q52_0_w) body_q52_0:=loop_ok2 mix layD_ok cons_q52 (by kernel_rfl) (loops_mem loops_q52_0 (trivial)) S_q52_0_ok fun _ _ h => h
theorem loops_q52:loopsIn code_q52 = [body_q52_0]:=by kernel_rfl
theorem m_q52:Meets Tryz.prog FX 26 c_q52:=meets_of (E:=E_q52) (code:=code_q52) mix layD_ok cons_q52 Tryz.func26 (by kernel_rfl) sg_q52 (by kernel_rfl) (fun y => ((⟨y.1,y.2.1,y.2.2.1⟩:Bk),y.2.2.2.1)) c_q52.out (fun _ => rfl) c_q52.run (fun x => by kernel_rfl) (by kernel_rfl) (loops_mem loops_q52 (⟨⟨_,by kernel_rfl,l_q52_0⟩,trivial⟩))
noncomputable def c_q53:Con:=Fo.c_strings_IndexByte
theorem m_q53:Meets Tryz.prog FX 89 c_q53:=Fo.m_strings_IndexByte
noncomputable def sg_q54:Sig:=⟨[(false,[.d (.str)]),(false,[.d (.str)])],[],false,[(false,[.own 0])],[(0,.arr false .str)]⟩
noncomputable def c_q54:Con:=⟨sg_q54,List ByteArray,fun x => M_impl_SplitAny x.1 x.2.1,fun r => (r,())⟩
noncomputable def code_q54:Code:=Tryz.f45.body.getD .skip
noncomputable def body_q54_0:Code:=(loopsIn code_q54).getD 0 .skip
noncomputable def D_q54_0:LoopD:=⟨⟨mkSlots [(0,false,[.d (.str)]),(1,false,[.d (.str)]),(5,false,[.own 2304]),(6,false,[.d (.int .i64)]),(7,false,[.d (.int .i64)])] 35 0,[(2304,.arr false .str)]⟩,[(.slot 5 0,2304,.str)],[(.exit 0,⟨mkSlots [(0,false,[.d (.str)]),(5,false,[.own 2304]),(6,false,[.d (.int .i64)])] 35 0,[(2304,.arr false .str)]⟩,[(.slot 5 0,2304,.str)])]⟩
noncomputable def S_q54_0_w (x:Tys D_q54_0.head.ks):Option (OutT D_q54_0.outs):=@whileO (ByteArray × ByteArray × Int × Int × (List ByteArray) × Unit) (ByteArray × Int × (List ByteArray) × Unit) S_impl_SplitAny_0 x
noncomputable def E_q54:Env:=⟨layD,[(89,c_q53)],[(4,mkLM D_q54_0 S_q54_0_w)],[]⟩
theorem cons_q54:ConsOk Tryz.prog FX E_q54.cons:=consOk_cons m_q53 (callable_of Tryz.func89 (by kernel_rfl)) (consOk_nil)
theorem S_q54_0_ok (x:Tys D_q54_0.head.ks):stepL E_q54 D_q54_0 body_q54_0 x = S_impl_SplitAny_0 x:=by kernel_rfl
theorem loops_q54_0:loopsIn body_q54_0 = []:=by kernel_rfl
theorem l_q54_0:LoopOk Tryz.prog FX (mkLM D_q54_0 S_q54_0_w) body_q54_0:=loop_ok2 mix layD_ok cons_q54 (by kernel_rfl) (loops_mem loops_q54_0 (trivial)) S_q54_0_ok fun _ _ h => h
theorem loops_q54:loopsIn code_q54 = [body_q54_0]:=by kernel_rfl
theorem m_q54:Meets Tryz.prog FX 45 c_q54:=meets_of (E:=E_q54) (code:=code_q54) mix layD_ok cons_q54 Tryz.func45 (by kernel_rfl) sg_q54 (by kernel_rfl) (fun y => y.1) c_q54.out (fun _ => rfl) c_q54.run (fun x => by kernel_rfl) (by kernel_rfl) (loops_mem loops_q54 (⟨⟨_,by kernel_rfl,l_q54_0⟩,trivial⟩))
noncomputable def sg_q55:Sig:=⟨[(false,[.d (.str)])],[],false,[(false,[.own 0])],[(0,.arr false .str)]⟩
noncomputable def c_q55:Con:=⟨sg_q55,List ByteArray,fun x => M_impl_SplitLines x.1,fun r => (r,())⟩
noncomputable def code_q55:Code:=Tryz.f58.body.getD .skip
noncomputable def E_q55:Env:=⟨layD,[(45,c_q54)],[],[]⟩
theorem cons_q55:ConsOk Tryz.prog FX E_q55.cons:=consOk_cons m_q54 (callable_of Tryz.func45 (by kernel_rfl)) (consOk_nil)
theorem loops_q55:loopsIn code_q55 = []:=by kernel_rfl
theorem m_q55:Meets Tryz.prog FX 58 c_q55:=meets_of (E:=E_q55) (code:=code_q55) mix layD_ok cons_q55 Tryz.func58 (by kernel_rfl) sg_q55 (by kernel_rfl) (fun y => y.1) c_q55.out (fun _ => rfl) c_q55.run (fun x => by kernel_rfl) (by kernel_rfl) (loops_mem loops_q55 (trivial))
noncomputable def sg_q56:Sig:=⟨[(false,[.d (.bool)])],[],false,[(false,[.d (.int .i64)])],[]⟩
noncomputable def c_q56:Con:=⟨sg_q56,Int,fun x => M_impl_axes x.1,fun r => (r,())⟩
noncomputable def code_q56:Code:=Tryz.f108.body.getD .skip
noncomputable def E_q56:Env:=⟨layD,[],[],[]⟩
theorem cons_q56:ConsOk Tryz.prog FX E_q56.cons:=consOk_nil
theorem loops_q56:loopsIn code_q56 = []:=by kernel_rfl
theorem m_q56:Meets Tryz.prog FX 108 c_q56:=meets_of (E:=E_q56) (code:=code_q56) mix layD_ok cons_q56 Tryz.func108 (by kernel_rfl) sg_q56 (by kernel_rfl) (fun y => y.1) c_q56.out (fun _ => rfl) c_q56.run (fun x => by kernel_rfl) (by kernel_rfl) (loops_mem loops_q56 (trivial))
noncomputable def sg_q57:Sig:=⟨[(false,[.d (.int .i64)])],[],false,[(false,[.own 0])],[(0,.arr false .int)]⟩
noncomputable def c_q57:Con:=⟨sg_q57,List Int,fun x => M_impl_NatOf x.1,fun r => (r,())⟩
noncomputable def code_q57:Code:=Tryz.f229.body.getD .skip
noncomputable def body_q57_0:Code:=(loopsIn code_q57).getD 0 .skip
noncomputable def D_q57_0:LoopD:=⟨⟨mkSlots [(0,false,[.d (.int .i64)]),(3,false,[.own 960])] 14 0,[(960,.arr false .int)]⟩,[(.slot 3 0,960,.int)],[(.exit 0,⟨mkSlots [(3,false,[.own 960])] 14 0,[(960,.arr false .int)]⟩,[(.slot 3 0,960,.int)])]⟩
noncomputable def S_q57_0_w (x:Tys D_q57_0.head.ks):Option (OutT D_q57_0.outs):=@whileO (Int × (List Int) × Unit) ((List Int) × Unit) S_impl_NatOf_0 x
noncomputable def E_q57:Env:=⟨layD,[],[(2,mkLM D_q57_0 S_q57_0_w)],[]⟩
theorem cons_q57:ConsOk Tryz.prog FX E_q57.cons:=consOk_nil
theorem S_q57_0_ok (x:Tys D_q57_0.head.ks):stepL E_q57 D_q57_0 body_q57_0 x = S_impl_NatOf_0 x:=by kernel_rfl
theorem loops_q57_0:loopsIn body_q57_0 = []:=by kernel_rfl
theorem l_q57_0:LoopOk Tryz.prog FX (mkLM D_q57_0 S_q57_0_w) body_q57_0:=loop_ok2 mix layD_ok cons_q57 (by kernel_rfl) (loops_mem loops_q57_0 (trivial)) S_q57_0_ok fun _ _ h => h
theorem loops_q57:loopsIn code_q57 = [body_q57_0]:=by kernel_rfl
theorem m_q57:Meets Tryz.prog FX 229 c_q57:=meets_of (E:=E_q57) (code:=code_q57) mix layD_ok cons_q57 Tryz.func229 (by kernel_rfl) sg_q57 (by kernel_rfl) (fun y => y.1) c_q57.out (fun _ => rfl) c_q57.run (fun x => by kernel_rfl) (by kernel_rfl) (loops_mem loops_q57 (⟨⟨_,by kernel_rfl,l_q57_0⟩,trivial⟩))
noncomputable def sg_q58:Sig:=⟨[(false,[.d (.bool)]),(false,[.own 64])],[(64,.arr false .int)],false,[(true,[.d (.bool),.own 0])],[(0,.arr false .int)]⟩
noncomputable def c_q58:Con:=⟨sg_q58,Bg,fun x => M_impl_signed_dc x.1 x.2.1,fun r => (r.neg,r.mag,())⟩
noncomputable def code_q58:Code:=Tryz.f137.body.getD .skip
noncomputable def E_q58:Env:=⟨layD,[],[],[]⟩
theorem cons_q58:ConsOk Tryz.prog FX E_q58.cons:=consOk_nil
theorem loops_q58:loopsIn code_q58 = []:=by kernel_rfl
theorem m_q58:Meets Tryz.prog FX 137 c_q58:=meets_of (E:=E_q58) (code:=code_q58) mix layD_ok cons_q58 Tryz.func137 (by kernel_rfl) sg_q58 (by kernel_rfl) (fun y => (⟨y.1,y.2.1⟩:Bg)) c_q58.out (fun _ => rfl) c_q58.run (fun x => by kernel_rfl) (by kernel_rfl) (loops_mem loops_q58 (trivial))
noncomputable def sg_q59:Sig:=⟨[(false,[.d (.sl .int)]),(false,[.d (.sl .int)])],[],false,[(false,[.own 0])],[(0,.arr false .int)]⟩
noncomputable def c_q59:Con:=⟨sg_q59,List Int,fun x => M_impl_natAdd x.1 x.2.1,fun r => (r,())⟩
noncomputable def code_q59:Code:=Tryz.f231.body.getD .skip
noncomputable def body_q59_0:Code:=(loopsIn code_q59).getD 0 .skip
noncomputable def D_q59_0:LoopD:=⟨⟨mkSlots [(0,false,[.d (.sl .int)]),(1,false,[.d (.sl .int)]),(5,false,[.own 3648]),(6,false,[.d (.int .i64)]),(21,false,[.d (.int .i64)]),(22,false,[.d (.int .i64)])] 56 0,[(3648,.arr false .int)]⟩,[],[(.exit 0,⟨mkSlots [(5,false,[.own 3648]),(6,false,[.d (.int .i64)])] 56 0,[(3648,.arr false .int)]⟩,[])]⟩
noncomputable def S_q59_0_w (x:Tys D_q59_0.head.ks):Option (OutT D_q59_0.outs):=@whileO ((List Int) × (List Int) × Int × Int × Int × (List Int) × Unit) (Int × (List Int) × Unit) S_impl_natAdd_0 x
noncomputable def E_q59:Env:=⟨layD,[],[(6,mkLM D_q59_0 S_q59_0_w)],[]⟩
theorem cons_q59:ConsOk Tryz.prog FX E_q59.cons:=consOk_nil
theorem S_q59_0_ok (x:Tys D_q59_0.head.ks):stepL E_q59 D_q59_0 body_q59_0 x = S_impl_natAdd_0 x:=by kernel_rfl
theorem loops_q59_0:loopsIn body_q59_0 = []:=by kernel_rfl
theorem l_q59_0:LoopOk Tryz.prog FX (mkLM D_q59_0 S_q59_0_w) body_q59_0:=loop_ok2 mix layD_ok cons_q59 (by kernel_rfl) (loops_mem loops_q59_0 (trivial)) S_q59_0_ok fun _ _ h => h
theorem loops_q59:loopsIn code_q59 = [body_q59_0]:=by kernel_rfl
theorem m_q59:Meets Tryz.prog FX 231 c_q59:=meets_of (E:=E_q59) (code:=code_q59) mix layD_ok cons_q59 Tryz.func231 (by kernel_rfl) sg_q59 (by kernel_rfl) (fun y => y.1) c_q59.out (fun _ => rfl) c_q59.run (fun x => by kernel_rfl) (by kernel_rfl) (loops_mem loops_q59 (⟨⟨_,by kernel_rfl,l_q59_0⟩,trivial⟩))
noncomputable def sg_q60:Sig:=⟨[(false,[.d (.int .i64)])],[],false,[(true,[.d (.bool),.own 0])],[(0,.arr false .int)]⟩
noncomputable def c_q60:Con:=⟨sg_q60,Bg,fun x => M_impl_BigIntOf x.1,fun r => (r.neg,r.mag,())⟩
noncomputable def code_q60:Code:=Tryz.f216.body.getD .skip
noncomputable def E_q60:Env:=⟨layD,[(229,c_q57),(137,c_q58),(231,c_q59)],[],[]⟩
theorem cons_q60:ConsOk Tryz.prog FX E_q60.cons:=consOk_cons m_q57 (callable_of Tryz.func229 (by kernel_rfl)) (consOk_cons m_q58 (callable_of Tryz.func137 (by kernel_rfl)) (consOk_cons m_q59 (callable_of Tryz.func231 (by kernel_rfl)) (consOk_nil)))
theorem loops_q60:loopsIn code_q60 = []:=by kernel_rfl
theorem m_q60:Meets Tryz.prog FX 216 c_q60:=meets_of (E:=E_q60) (code:=code_q60) mix layD_ok cons_q60 Tryz.func216 (by kernel_rfl) sg_q60 (by kernel_rfl) (fun y => (⟨y.1,y.2.1⟩:Bg)) c_q60.out (fun _ => rfl) c_q60.run (fun x => by kernel_rfl) (by kernel_rfl) (loops_mem loops_q60 (trivial))
noncomputable def sg_q61:Sig:=⟨[(false,[.d (.sl .int)])],[],false,[(false,[.d (.bool)])],[]⟩
noncomputable def c_q61:Con:=⟨sg_q61,Bool,fun x => M_impl_NatOk x.1,fun r => (r,())⟩
noncomputable def code_q61:Code:=Tryz.f142.body.getD .skip
noncomputable def body_q61_0:Code:=(loopsIn code_q61).getD 0 .skip
noncomputable def D_q61_0:LoopD:=⟨⟨mkSlots [(22,false,[.d (.sl .int)]),(23,false,[.d (.int .i64)]),(24,false,[.d (.int .i64)])] 35 0,[]⟩,[],[(.ret,⟨mkSlots [(2,false,[.d (.bool)])] 35 0,[]⟩,[]),(.exit 0,⟨mkSlots [] 35 0,[]⟩,[])]⟩
noncomputable def S_q61_0_w (x:Tys D_q61_0.head.ks):Option (OutT D_q61_0.outs):=@whileO ((List Int) × Int × Int × Unit) ((Bool × Unit) ⊕ (Unit)) S_impl_NatOk_0 x
noncomputable def E_q61:Env:=⟨layD,[],[(4,mkLM D_q61_0 S_q61_0_w)],[]⟩
theorem cons_q61:ConsOk Tryz.prog FX E_q61.cons:=consOk_nil
theorem S_q61_0_ok (x:Tys D_q61_0.head.ks):stepL E_q61 D_q61_0 body_q61_0 x = S_impl_NatOk_0 x:=by kernel_rfl
theorem loops_q61_0:loopsIn body_q61_0 = []:=by kernel_rfl
theorem l_q61_0:LoopOk Tryz.prog FX (mkLM D_q61_0 S_q61_0_w) body_q61_0:=loop_ok2 mix layD_ok cons_q61 (by kernel_rfl) (loops_mem loops_q61_0 (trivial)) S_q61_0_ok fun _ _ h => h
theorem loops_q61:loopsIn code_q61 = [body_q61_0]:=by kernel_rfl
theorem m_q61:Meets Tryz.prog FX 142 c_q61:=meets_of (E:=E_q61) (code:=code_q61) mix layD_ok cons_q61 Tryz.func142 (by kernel_rfl) sg_q61 (by kernel_rfl) (fun y => y.1) c_q61.out (fun _ => rfl) c_q61.run (fun x => by kernel_rfl) (by kernel_rfl) (loops_mem loops_q61 (⟨⟨_,by kernel_rfl,l_q61_0⟩,trivial⟩))
noncomputable def sg_q62:Sig:=⟨[(true,[.d (.bool),.d (.sl .int)])],[],false,[(false,[.d (.bool)])],[]⟩
noncomputable def c_q62:Con:=⟨sg_q62,Bool,fun x => M_impl_BigIntOk (⟨x.1,x.2.1⟩:Bg),fun r => (r,())⟩
noncomputable def code_q62:Code:=Tryz.f141.body.getD .skip
noncomputable def E_q62:Env:=⟨layD,[(142,c_q61)],[],[]⟩
theorem cons_q62:ConsOk Tryz.prog FX E_q62.cons:=consOk_cons m_q61 (callable_of Tryz.func142 (by kernel_rfl)) (consOk_nil)
theorem loops_q62:loopsIn code_q62 = []:=by kernel_rfl
theorem m_q62:Meets Tryz.prog FX 141 c_q62:=meets_of (E:=E_q62) (code:=code_q62) mix layD_ok cons_q62 Tryz.func141 (by kernel_rfl) sg_q62 (by kernel_rfl) (fun y => y.1) c_q62.out (fun _ => rfl) c_q62.run (fun x => by kernel_rfl) (by kernel_rfl) (loops_mem loops_q62 (trivial))
noncomputable def sg_q63:Sig:=⟨[(false,[.d (.bool)]),(false,[.d (.sl .int)])],[],false,[(true,[.d (.bool),.d (.sl .int)])],[]⟩
noncomputable def c_q63:Con:=⟨sg_q63,Bg,fun x => M_impl_signed x.1 x.2.1,fun r => (r.neg,r.mag,())⟩
noncomputable def code_q63:Code:=Tryz.f137.body.getD .skip
noncomputable def E_q63:Env:=⟨layD,[],[],[]⟩
theorem cons_q63:ConsOk Tryz.prog FX E_q63.cons:=consOk_nil
theorem loops_q63:loopsIn code_q63 = []:=by kernel_rfl
theorem m_q63:Meets Tryz.prog FX 137 c_q63:=meets_of (E:=E_q63) (code:=code_q63) mix layD_ok cons_q63 Tryz.func137 (by kernel_rfl) sg_q63 (by kernel_rfl) (fun y => (⟨y.1,y.2.1⟩:Bg)) c_q63.out (fun _ => rfl) c_q63.run (fun x => by kernel_rfl) (by kernel_rfl) (loops_mem loops_q63 (trivial))
noncomputable def sg_q64:Sig:=⟨[(false,[.d (.sl .int)]),(false,[.d (.sl .int)])],[],false,[(false,[.d (.int .i64)])],[]⟩
noncomputable def c_q64:Con:=⟨sg_q64,Int,fun x => M_impl_natCmp x.1 x.2.1,fun r => (r,())⟩
noncomputable def code_q64:Code:=Tryz.f204.body.getD .skip
noncomputable def body_q64_0:Code:=(loopsIn code_q64).getD 0 .skip
noncomputable def D_q64_0:LoopD:=⟨⟨mkSlots [(0,false,[.d (.sl .int)]),(1,false,[.d (.sl .int)]),(5,false,[.d (.int .i64)])] 43 0,[]⟩,[],[(.ret,⟨mkSlots [(4,false,[.d (.int .i64)])] 43 0,[]⟩,[]),(.exit 0,⟨mkSlots [] 43 0,[]⟩,[])]⟩
noncomputable def S_q64_0_w (x:Tys D_q64_0.head.ks):Option (OutT D_q64_0.outs):=@whileO ((List Int) × (List Int) × Int × Unit) ((Int × Unit) ⊕ (Unit)) S_impl_natCmp_0 x
noncomputable def E_q64:Env:=⟨layD,[],[(6,mkLM D_q64_0 S_q64_0_w)],[(8,[(0,[]),(1,[]),(2,[]),(3,[]),(4,[]),(5,[]),(6,[]),(7,[]),(8,[]),(9,[8,3,7,2,6,0,1,4,5])]),(10,[(0,[]),(1,[]),(2,[]),(3,[]),(4,[]),(5,[]),(6,[]),(7,[]),(8,[]),(9,[8,3,7,2,6,0,1,4,5])])]⟩
theorem cons_q64:ConsOk Tryz.prog FX E_q64.cons:=consOk_nil
theorem S_q64_0_ok (x:Tys D_q64_0.head.ks):stepL E_q64 D_q64_0 body_q64_0 x = S_impl_natCmp_0 x:=by kernel_rfl
theorem loops_q64_0:loopsIn body_q64_0 = []:=by kernel_rfl
theorem l_q64_0:LoopOk Tryz.prog FX (mkLM D_q64_0 S_q64_0_w) body_q64_0:=loop_ok2 mix layD_ok cons_q64 (by kernel_rfl) (loops_mem loops_q64_0 (trivial)) S_q64_0_ok fun _ _ h => h
theorem loops_q64:loopsIn code_q64 = [body_q64_0]:=by kernel_rfl
theorem m_q64:Meets Tryz.prog FX 204 c_q64:=meets_of (E:=E_q64) (code:=code_q64) mix layD_ok cons_q64 Tryz.func204 (by kernel_rfl) sg_q64 (by kernel_rfl) (fun y => y.1) c_q64.out (fun _ => rfl) c_q64.run (fun x => by kernel_rfl) (by kernel_rfl) (loops_mem loops_q64 (⟨⟨_,by kernel_rfl,l_q64_0⟩,trivial⟩))
noncomputable def sg_q65:Sig:=⟨[(false,[.d (.sl .int)])],[],false,[(false,[.own 0])],[(0,.arr false .int)]⟩
noncomputable def c_q65:Con:=⟨sg_q65,List Int,fun x => M_impl_copyInts x.1,fun r => (r,())⟩
noncomputable def code_q65:Code:=Tryz.f161.body.getD .skip
noncomputable def E_q65:Env:=⟨layD,[],[],[]⟩
theorem cons_q65:ConsOk Tryz.prog FX E_q65.cons:=consOk_nil
theorem loops_q65:loopsIn code_q65 = []:=by kernel_rfl
theorem m_q65:Meets Tryz.prog FX 161 c_q65:=meets_of (E:=E_q65) (code:=code_q65) mix layD_ok cons_q65 Tryz.func161 (by kernel_rfl) sg_q65 (by kernel_rfl) (fun y => y.1) c_q65.out (fun _ => rfl) c_q65.run (fun x => by kernel_rfl) (by kernel_rfl) (loops_mem loops_q65 (trivial))
noncomputable def sg_q66:Sig:=⟨[(false,[.own 0])],[(0,.arr false .int)],false,[(false,[.own 0])],[(0,.arr false .int)]⟩
noncomputable def c_q66:Con:=⟨sg_q66,List Int,fun x => M_impl_trim_c x.1,fun r => (r,())⟩
noncomputable def code_q66:Code:=Tryz.f140.body.getD .skip
noncomputable def body_q66_0:Code:=(loopsIn code_q66).getD 0 .skip
noncomputable def D_q66_0:LoopD:=⟨⟨mkSlots [(0,false,[.own 1408]),(3,false,[.d (.int .i64)])] 21 0,[(1408,.arr false .int)]⟩,[],[(.exit 0,⟨mkSlots [(0,false,[.own 1408]),(3,false,[.d (.int .i64)])] 21 0,[(1408,.arr false .int)]⟩,[])]⟩
noncomputable def S_q66_0_w (x:Tys D_q66_0.head.ks):Option (OutT D_q66_0.outs):=@whileO (Int × (List Int) × Unit) (Int × (List Int) × Unit) S_impl_trim_c_0 x
noncomputable def E_q66:Env:=⟨layD,[],[(2,mkLM D_q66_0 S_q66_0_w)],[]⟩
theorem cons_q66:ConsOk Tryz.prog FX E_q66.cons:=consOk_nil
theorem S_q66_0_ok (x:Tys D_q66_0.head.ks):stepL E_q66 D_q66_0 body_q66_0 x = S_impl_trim_c_0 x:=by kernel_rfl
theorem loops_q66_0:loopsIn body_q66_0 = []:=by kernel_rfl
theorem l_q66_0:LoopOk Tryz.prog FX (mkLM D_q66_0 S_q66_0_w) body_q66_0:=loop_ok2 mix layD_ok cons_q66 (by kernel_rfl) (loops_mem loops_q66_0 (trivial)) S_q66_0_ok fun _ _ h => h
theorem loops_q66:loopsIn code_q66 = [body_q66_0]:=by kernel_rfl
theorem m_q66:Meets Tryz.prog FX 140 c_q66:=meets_of (E:=E_q66) (code:=code_q66) mix layD_ok cons_q66 Tryz.func140 (by kernel_rfl) sg_q66 (by kernel_rfl) (fun y => y.1) c_q66.out (fun _ => rfl) c_q66.run (fun x => by kernel_rfl) (by kernel_rfl) (loops_mem loops_q66 (⟨⟨_,by kernel_rfl,l_q66_0⟩,trivial⟩))
noncomputable def sg_q67:Sig:=⟨[(false,[.d (.sl .int)]),(false,[.d (.int .i64)])],[],true,[(false,[.own 0]),(false,[.own 1])],[(0,.arr false .int),(1,.arr false .int)]⟩
noncomputable def c_q67:Con:=⟨sg_q67,List Int × List Int,fun x => M_impl_divSmall x.1 x.2.1,fun r => (r.1,r.2,())⟩
noncomputable def code_q67:Code:=Tryz.f205.body.getD .skip
noncomputable def body_q67_0:Code:=(loopsIn code_q67).getD 0 .skip
noncomputable def D_q67_0:LoopD:=⟨⟨mkSlots [(0,false,[.d (.sl .int)]),(1,false,[.d (.int .i64)]),(6,false,[.own 2624]),(7,false,[.d (.int .i64)]),(8,false,[.d (.int .i64)])] 40 0,[(2624,.arr false .int)]⟩,[],[(.exit 0,⟨mkSlots [(6,false,[.own 2624]),(7,false,[.d (.int .i64)])] 40 0,[(2624,.arr false .int)]⟩,[])]⟩
noncomputable def S_q67_0_w (x:Tys D_q67_0.head.ks):Option (OutT D_q67_0.outs):=@whileO ((List Int) × Int × Int × Int × (List Int) × Unit) (Int × (List Int) × Unit) S_impl_divSmall_0 x
noncomputable def E_q67:Env:=⟨layD,[(140,c_q66),(229,c_q57)],[(4,mkLM D_q67_0 S_q67_0_w)],[]⟩
theorem cons_q67:ConsOk Tryz.prog FX E_q67.cons:=consOk_cons m_q66 (callable_of Tryz.func140 (by kernel_rfl)) (consOk_cons m_q57 (callable_of Tryz.func229 (by kernel_rfl)) (consOk_nil))
theorem S_q67_0_ok (x:Tys D_q67_0.head.ks):stepL E_q67 D_q67_0 body_q67_0 x = S_impl_divSmall_0 x:=by kernel_rfl
theorem loops_q67_0:loopsIn body_q67_0 = []:=by kernel_rfl
theorem l_q67_0:LoopOk Tryz.prog FX (mkLM D_q67_0 S_q67_0_w) body_q67_0:=loop_ok2 mix layD_ok cons_q67 (by kernel_rfl) (loops_mem loops_q67_0 (trivial)) S_q67_0_ok fun _ _ h => h
theorem loops_q67:loopsIn code_q67 = [body_q67_0]:=by kernel_rfl
theorem m_q67:Meets Tryz.prog FX 205 c_q67:=meets_of (E:=E_q67) (code:=code_q67) mix layD_ok cons_q67 Tryz.func205 (by kernel_rfl) sg_q67 (by kernel_rfl) (fun y => (y.1,y.2.1)) c_q67.out (fun _ => rfl) c_q67.run (fun x => by kernel_rfl) (by kernel_rfl) (loops_mem loops_q67 (⟨⟨_,by kernel_rfl,l_q67_0⟩,trivial⟩))
noncomputable def sg_q68:Sig:=⟨[(false,[.d (.sl .int)]),(false,[.d (.sl .int)])],[],false,[(false,[.own 0])],[(0,.arr false .int)]⟩
noncomputable def c_q68:Con:=⟨sg_q68,List Int,fun x => M_impl_natMul x.1 x.2.1,fun r => (r,())⟩
noncomputable def code_q68:Code:=Tryz.f206.body.getD .skip
noncomputable def body_q68_0:Code:=(loopsIn code_q68).getD 0 .skip
noncomputable def body_q68_1:Code:=(loopsIn body_q68_0).getD 0 .skip
noncomputable def D_q68_0:LoopD:=⟨⟨mkSlots [(1,false,[.d (.sl .int)]),(5,false,[.own 4352]),(18,false,[.d (.sl .int)]),(19,false,[.d (.int .i64)]),(20,false,[.d (.int .i64)])] 67 0,[(4352,.arr false .int)]⟩,[],[(.exit 0,⟨mkSlots [(5,false,[.own 4352])] 67 0,[(4352,.arr false .int)]⟩,[])]⟩
noncomputable def D_q68_1:LoopD:=⟨⟨mkSlots [(1,false,[.d (.sl .int)]),(5,false,[.own 4352]),(6,false,[.d (.int .i64)]),(7,false,[.d (.int .i64)]),(8,false,[.d (.int .i64)]),(18,false,[.d (.sl .int)]),(19,false,[.d (.int .i64)]),(20,false,[.d (.int .i64)]),(25,false,[.d (.sl .int)]),(26,false,[.d (.int .i64)]),(27,false,[.d (.int .i64)])] 67 0,[(4352,.arr false .int)]⟩,[],[(.exit 2,⟨mkSlots [(1,false,[.d (.sl .int)]),(5,false,[.own 4352]),(6,false,[.d (.int .i64)]),(8,false,[.d (.int .i64)]),(18,false,[.d (.sl .int)]),(19,false,[.d (.int .i64)]),(20,false,[.d (.int .i64)])] 67 0,[(4352,.arr false .int)]⟩,[])]⟩
noncomputable def S_q68_0_w (x:Tys D_q68_0.head.ks):Option (OutT D_q68_0.outs):=@whileO ((List Int) × (List Int) × Int × Int × (List Int) × Unit) ((List Int) × Unit) S_impl_natMul_0 x
noncomputable def S_q68_1_w (x:Tys D_q68_1.head.ks):Option (OutT D_q68_1.outs):=@whileO ((List Int) × Int × Int × Int × (List Int) × Int × Int × (List Int) × Int × Int × (List Int) × Unit) ((List Int) × Int × Int × (List Int) × Int × Int × (List Int) × Unit) S_impl_natMul_1 x
noncomputable def E_q68:Env:=⟨layD,[(140,c_q66)],[(3,mkLM D_q68_0 S_q68_0_w),(7,mkLM D_q68_1 S_q68_1_w)],[]⟩
theorem cons_q68:ConsOk Tryz.prog FX E_q68.cons:=consOk_cons m_q66 (callable_of Tryz.func140 (by kernel_rfl)) (consOk_nil)
theorem S_q68_1_ok (x:Tys D_q68_1.head.ks):stepL E_q68 D_q68_1 body_q68_1 x = S_impl_natMul_1 x:=by kernel_rfl
theorem loops_q68_1:loopsIn body_q68_1 = []:=by kernel_rfl
theorem l_q68_1:LoopOk Tryz.prog FX (mkLM D_q68_1 S_q68_1_w) body_q68_1:=loop_ok2 mix layD_ok cons_q68 (by kernel_rfl) (loops_mem loops_q68_1 (trivial)) S_q68_1_ok fun _ _ h => h
theorem S_q68_0_ok (x:Tys D_q68_0.head.ks):stepL E_q68 D_q68_0 body_q68_0 x = S_impl_natMul_0 x:=by kernel_rfl
theorem loops_q68_0:loopsIn body_q68_0 = [body_q68_1]:=by kernel_rfl
theorem l_q68_0:LoopOk Tryz.prog FX (mkLM D_q68_0 S_q68_0_w) body_q68_0:=loop_ok2 mix layD_ok cons_q68 (by kernel_rfl) (loops_mem loops_q68_0 (⟨⟨_,by kernel_rfl,l_q68_1⟩,trivial⟩)) S_q68_0_ok fun _ _ h => h
theorem loops_q68:loopsIn code_q68 = [body_q68_0]:=by kernel_rfl
theorem m_q68:Meets Tryz.prog FX 206 c_q68:=meets_of (E:=E_q68) (code:=code_q68) mix layD_ok cons_q68 Tryz.func206 (by kernel_rfl) sg_q68 (by kernel_rfl) (fun y => y.1) c_q68.out (fun _ => rfl) c_q68.run (fun x => by kernel_rfl) (by kernel_rfl) (loops_mem loops_q68 (⟨⟨_,by kernel_rfl,l_q68_0⟩,trivial⟩))
noncomputable def sg_q69:Sig:=⟨[(false,[.d (.sl .int)]),(false,[.d (.sl .int)])],[],true,[(false,[.own 0]),(false,[.own 1])],[(0,.arr false .int),(1,.arr false .int)]⟩
noncomputable def c_q69:Con:=⟨sg_q69,List Int × List Int,fun x => M_impl_natDiv x.1 x.2.1,fun r => (r.1,r.2,())⟩
noncomputable def code_q69:Code:=Tryz.f174.body.getD .skip
noncomputable def body_q69_0:Code:=(loopsIn code_q69).getD 0 .skip
noncomputable def body_q69_1:Code:=(loopsIn code_q69).getD 1 .skip
noncomputable def body_q69_2:Code:=(loopsIn body_q69_1).getD 0 .skip
noncomputable def body_q69_3:Code:=(loopsIn body_q69_1).getD 1 .skip
noncomputable def body_q69_4:Code:=(loopsIn body_q69_1).getD 2 .skip
noncomputable def D_q69_0:LoopD:=⟨⟨mkSlots [(0,false,[.d (.sl .int)]),(6,false,[.d (.int .i64)]),(7,false,[.own 15360]),(8,false,[.own 15424]),(9,false,[.d (.int .i64)])] 239 0,[(15360,.arr false .int),(15424,.arr false .int)]⟩,[],[(.exit 0,⟨mkSlots [(6,false,[.d (.int .i64)]),(7,false,[.own 15360]),(8,false,[.own 15424]),(9,false,[.d (.int .i64)])] 239 0,[(15360,.arr false .int),(15424,.arr false .int)]⟩,[])]⟩
noncomputable def D_q69_1:LoopD:=⟨⟨mkSlots [(6,false,[.d (.int .i64)]),(7,false,[.own 15360]),(8,false,[.own 15424]),(9,false,[.d (.int .i64)]),(10,false,[.own 15488]),(11,false,[.d (.int .i64)]),(12,false,[.d (.int .i64)])] 239 0,[(15360,.arr false .int),(15424,.arr false .int),(15488,.arr false .int)]⟩,[],[(.exit 2,⟨mkSlots [(6,false,[.d (.int .i64)]),(7,false,[.own 15360]),(10,false,[.own 15488])] 239 0,[(15360,.arr false .int),(15488,.arr false .int)]⟩,[])]⟩
noncomputable def D_q69_2:LoopD:=⟨⟨mkSlots [(6,false,[.d (.int .i64)]),(7,false,[.own 15360]),(8,false,[.own 15424]),(9,false,[.d (.int .i64)]),(10,false,[.own 15488]),(11,false,[.d (.int .i64)]),(12,false,[.d (.int .i64)]),(14,false,[.d (.int .i64)]),(15,false,[.d (.int .i64)])] 239 0,[(15360,.arr false .int),(15424,.arr false .int),(15488,.arr false .int)]⟩,[],[(.exit 4,⟨mkSlots [(6,false,[.d (.int .i64)]),(7,false,[.own 15360]),(8,false,[.own 15424]),(9,false,[.d (.int .i64)]),(10,false,[.own 15488]),(11,false,[.d (.int .i64)]),(12,false,[.d (.int .i64)]),(14,false,[.d (.int .i64)])] 239 0,[(15360,.arr false .int),(15424,.arr false .int),(15488,.arr false .int)]⟩,[])]⟩
noncomputable def D_q69_3:LoopD:=⟨⟨mkSlots [(6,false,[.d (.int .i64)]),(7,false,[.own 15360]),(8,false,[.own 15424]),(9,false,[.d (.int .i64)]),(10,false,[.own 15488]),(11,false,[.d (.int .i64)]),(12,false,[.d (.int .i64)]),(14,false,[.d (.int .i64)]),(16,false,[.d (.int .i64)]),(135,false,[.d (.int .i64)]),(136,false,[.d (.int .i64)])] 239 0,[(15360,.arr false .int),(15424,.arr false .int),(15488,.arr false .int)]⟩,[],[(.exit 6,⟨mkSlots [(6,false,[.d (.int .i64)]),(7,false,[.own 15360]),(8,false,[.own 15424]),(9,false,[.d (.int .i64)]),(10,false,[.own 15488]),(11,false,[.d (.int .i64)]),(12,false,[.d (.int .i64)]),(14,false,[.d (.int .i64)]),(16,false,[.d (.int .i64)])] 239 0,[(15360,.arr false .int),(15424,.arr false .int),(15488,.arr false .int)]⟩,[])]⟩
noncomputable def D_q69_4:LoopD:=⟨⟨mkSlots [(6,false,[.d (.int .i64)]),(7,false,[.own 15360]),(8,false,[.own 15424]),(9,false,[.d (.int .i64)]),(10,false,[.own 15488]),(11,false,[.d (.int .i64)]),(12,false,[.d (.int .i64)]),(14,false,[.d (.int .i64)]),(19,false,[.d (.int .i64)]),(188,false,[.d (.int .i64)]),(189,false,[.d (.int .i64)])] 239 0,[(15360,.arr false .int),(15424,.arr false .int),(15488,.arr false .int)]⟩,[],[(.exit 8,⟨mkSlots [(6,false,[.d (.int .i64)]),(7,false,[.own 15360]),(8,false,[.own 15424]),(9,false,[.d (.int .i64)]),(10,false,[.own 15488]),(11,false,[.d (.int .i64)]),(12,false,[.d (.int .i64)]),(14,false,[.d (.int .i64)]),(19,false,[.d (.int .i64)])] 239 0,[(15360,.arr false .int),(15424,.arr false .int),(15488,.arr false .int)]⟩,[])]⟩
noncomputable def S_q69_0_w (x:Tys D_q69_0.head.ks):Option (OutT D_q69_0.outs):=@whileO ((List Int) × Int × Int × (List Int) × (List Int) × Unit) (Int × Int × (List Int) × (List Int) × Unit) S_impl_natDiv_0 x
noncomputable def S_q69_1_w (x:Tys D_q69_1.head.ks):Option (OutT D_q69_1.outs):=@whileO (Int × Int × Int × Int × (List Int) × (List Int) × (List Int) × Unit) (Int × (List Int) × (List Int) × Unit) S_impl_natDiv_1 x
noncomputable def S_q69_2_w (x:Tys D_q69_2.head.ks):Option (OutT D_q69_2.outs):=@whileO (Int × Int × Int × Int × Int × Int × (List Int) × (List Int) × (List Int) × Unit) (Int × Int × Int × Int × Int × (List Int) × (List Int) × (List Int) × Unit) S_impl_natDiv_2 x
noncomputable def S_q69_3_w (x:Tys D_q69_3.head.ks):Option (OutT D_q69_3.outs):=@whileO (Int × Int × Int × Int × Int × Int × Int × Int × (List Int) × (List Int) × (List Int) × Unit) (Int × Int × Int × Int × Int × Int × (List Int) × (List Int) × (List Int) × Unit) S_impl_natDiv_3 x
noncomputable def S_q69_4_w (x:Tys D_q69_4.head.ks):Option (OutT D_q69_4.outs):=@whileO (Int × Int × Int × Int × Int × Int × Int × Int × (List Int) × (List Int) × (List Int) × Unit) (Int × Int × Int × Int × Int × Int × (List Int) × (List Int) × (List Int) × Unit) S_impl_natDiv_4 x
noncomputable def E_q69:Env:=⟨layD,[(204,c_q64),(161,c_q65),(205,c_q67),(206,c_q68),(140,c_q66)],[(9,mkLM D_q69_0 S_q69_0_w),(14,mkLM D_q69_1 S_q69_1_w),(18,mkLM D_q69_2 S_q69_2_w),(24,mkLM D_q69_3 S_q69_3_w),(38,mkLM D_q69_4 S_q69_4_w)],[(16,[(0,[]),(1,[]),(2,[]),(3,[]),(4,[]),(5,[]),(6,[]),(7,[]),(8,[]),(9,[]),(10,[]),(11,[]),(12,[]),(13,[]),(14,[]),(15,[14,0,1,2,3,4,5,6,7,8,9,10,11,12,13])]),(17,[(0,[]),(1,[]),(2,[]),(3,[]),(4,[]),(5,[]),(6,[2,0,1]),(7,[5,6,0,1,2,3,4])]),(18,[(0,[]),(1,[]),(2,[]),(3,[]),(4,[]),(5,[]),(6,[]),(7,[]),(8,[]),(9,[]),(10,[]),(11,[]),(12,[]),(13,[]),(14,[]),(15,[]),(16,[]),(17,[]),(18,[]),(19,[]),(20,[]),(21,[])]),(26,[(0,[]),(1,[]),(2,[]),(3,[]),(4,[]),(5,[]),(6,[]),(7,[]),(8,[]),(9,[]),(10,[]),(11,[]),(12,[]),(13,[]),(14,[]),(15,[14,0,1,2,3,4,5,6,7,8,9,10,11,12,13])]),(40,[(0,[]),(1,[]),(2,[]),(3,[]),(4,[]),(5,[]),(6,[]),(7,[]),(8,[]),(9,[]),(10,[]),(11,[]),(12,[]),(13,[12,0,1,2,3,4,5,6,7,8,9,10,11])])]⟩
theorem cons_q69:ConsOk Tryz.prog FX E_q69.cons:=consOk_cons m_q64 (callable_of Tryz.func204 (by kernel_rfl)) (consOk_cons m_q65 (callable_of Tryz.func161 (by kernel_rfl)) (consOk_cons m_q67 (callable_of Tryz.func205 (by kernel_rfl)) (consOk_cons m_q68 (callable_of Tryz.func206 (by kernel_rfl)) (consOk_cons m_q66 (callable_of Tryz.func140 (by kernel_rfl)) (consOk_nil)))))
theorem S_q69_4_ok (x:Tys D_q69_4.head.ks):stepL E_q69 D_q69_4 body_q69_4 x = S_impl_natDiv_4 x:=by kernel_rfl
theorem loops_q69_4:loopsIn body_q69_4 = []:=by kernel_rfl
theorem l_q69_4:LoopOk Tryz.prog FX (mkLM D_q69_4 S_q69_4_w) body_q69_4:=loop_ok2 mix layD_ok cons_q69 (by kernel_rfl) (loops_mem loops_q69_4 (trivial)) S_q69_4_ok fun _ _ h => h
theorem S_q69_3_ok (x:Tys D_q69_3.head.ks):stepL E_q69 D_q69_3 body_q69_3 x = S_impl_natDiv_3 x:=by kernel_rfl
theorem loops_q69_3:loopsIn body_q69_3 = []:=by kernel_rfl
theorem l_q69_3:LoopOk Tryz.prog FX (mkLM D_q69_3 S_q69_3_w) body_q69_3:=loop_ok2 mix layD_ok cons_q69 (by kernel_rfl) (loops_mem loops_q69_3 (trivial)) S_q69_3_ok fun _ _ h => h
theorem S_q69_2_ok (x:Tys D_q69_2.head.ks):stepL E_q69 D_q69_2 body_q69_2 x = S_impl_natDiv_2 x:=by kernel_rfl
theorem loops_q69_2:loopsIn body_q69_2 = []:=by kernel_rfl
theorem l_q69_2:LoopOk Tryz.prog FX (mkLM D_q69_2 S_q69_2_w) body_q69_2:=loop_ok2 mix layD_ok cons_q69 (by kernel_rfl) (loops_mem loops_q69_2 (trivial)) S_q69_2_ok fun _ _ h => h
theorem S_q69_1_ok (x:Tys D_q69_1.head.ks):stepL E_q69 D_q69_1 body_q69_1 x = S_impl_natDiv_1 x:=by kernel_rfl
theorem loops_q69_1:loopsIn body_q69_1 = [body_q69_2,body_q69_3,body_q69_4]:=by kernel_rfl
theorem l_q69_1:LoopOk Tryz.prog FX (mkLM D_q69_1 S_q69_1_w) body_q69_1:=loop_ok2 mix layD_ok cons_q69 (by kernel_rfl) (loops_mem loops_q69_1 (⟨⟨_,by kernel_rfl,l_q69_2⟩,⟨⟨_,by kernel_rfl,l_q69_3⟩,⟨⟨_,by kernel_rfl,l_q69_4⟩,trivial⟩⟩⟩)) S_q69_1_ok fun _ _ h => h
theorem S_q69_0_ok (x:Tys D_q69_0.head.ks):stepL E_q69 D_q69_0 body_q69_0 x = S_impl_natDiv_0 x:=by kernel_rfl
theorem loops_q69_0:loopsIn body_q69_0 = []:=by kernel_rfl
theorem l_q69_0:LoopOk Tryz.prog FX (mkLM D_q69_0 S_q69_0_w) body_q69_0:=loop_ok2 mix layD_ok cons_q69 (by kernel_rfl) (loops_mem loops_q69_0 (trivial)) S_q69_0_ok fun _ _ h => h
theorem loops_q69:loopsIn code_q69 = [body_q69_0,body_q69_1]:=by kernel_rfl
theorem m_q69:Meets Tryz.prog FX 174 c_q69:=meets_of (E:=E_q69) (code:=code_q69) mix layD_ok cons_q69 Tryz.func174 (by kernel_rfl) sg_q69 (by kernel_rfl) (fun y => (y.1,y.2.1)) c_q69.out (fun _ => rfl) c_q69.run (fun x => by kernel_rfl) (by kernel_rfl) (loops_mem loops_q69 (⟨⟨_,by kernel_rfl,l_q69_0⟩,⟨⟨_,by kernel_rfl,l_q69_1⟩,trivial⟩⟩))
noncomputable def sg_q70:Sig:=⟨[(false,[.d (.sl .int)]),(false,[.d (.sl .int)])],[],false,[(false,[.own 0])],[(0,.arr false .int)]⟩
noncomputable def c_q70:Con:=⟨sg_q70,List Int,fun x => M_impl_natGcd x.1 x.2.1,fun r => (r,())⟩
noncomputable def code_q70:Code:=Tryz.f143.body.getD .skip
noncomputable def body_q70_0:Code:=(loopsIn code_q70).getD 0 .skip
noncomputable def body_q70_1:Code:=(loopsIn code_q70).getD 1 .skip
noncomputable def D_q70_0:LoopD:=⟨⟨mkSlots [(0,false,[.d (.sl .int)]),(1,false,[.d (.sl .int)])] 49 0,[]⟩,[],[(.exit 0,⟨mkSlots [(0,false,[.d (.sl .int)]),(1,false,[.d (.sl .int)])] 49 0,[]⟩,[])]⟩
noncomputable def D_q70_1:LoopD:=⟨⟨mkSlots [(7,false,[.d (.int .i64)]),(8,false,[.d (.int .i64)])] 49 0,[]⟩,[],[(.exit 2,⟨mkSlots [(7,false,[.d (.int .i64)])] 49 0,[]⟩,[])]⟩
noncomputable def S_q70_0_w (x:Tys D_q70_0.head.ks):Option (OutT D_q70_0.outs):=@whileO ((List Int) × (List Int) × Unit) ((List Int) × (List Int) × Unit) S_impl_natGcd_0 x
noncomputable def S_q70_1_w (x:Tys D_q70_1.head.ks):Option (OutT D_q70_1.outs):=@whileO (Int × Int × Unit) (Int × Unit) S_impl_natGcd_1 x
noncomputable def E_q70:Env:=⟨layD,[(174,c_q69),(161,c_q65)],[(1,mkLM D_q70_0 S_q70_0_w),(7,mkLM D_q70_1 S_q70_1_w)],[(6,[(0,[]),(1,[]),(2,[]),(3,[]),(4,[]),(5,[]),(6,[2,0,1]),(7,[5,6,0,1,2,3,4])]),(8,[(0,[]),(1,[]),(2,[]),(3,[]),(4,[0,1]),(5,[3,4,0,1,2])])]⟩
theorem cons_q70:ConsOk Tryz.prog FX E_q70.cons:=consOk_cons m_q69 (callable_of Tryz.func174 (by kernel_rfl)) (consOk_cons m_q65 (callable_of Tryz.func161 (by kernel_rfl)) (consOk_nil))
theorem S_q70_1_ok (x:Tys D_q70_1.head.ks):stepL E_q70 D_q70_1 body_q70_1 x = S_impl_natGcd_1 x:=by kernel_rfl
theorem loops_q70_1:loopsIn body_q70_1 = []:=by kernel_rfl
theorem l_q70_1:LoopOk Tryz.prog FX (mkLM D_q70_1 S_q70_1_w) body_q70_1:=loop_ok2 mix layD_ok cons_q70 (by kernel_rfl) (loops_mem loops_q70_1 (trivial)) S_q70_1_ok fun _ _ h => h
theorem S_q70_0_ok (x:Tys D_q70_0.head.ks):stepL E_q70 D_q70_0 body_q70_0 x = S_impl_natGcd_0 x:=by kernel_rfl
theorem loops_q70_0:loopsIn body_q70_0 = []:=by kernel_rfl
theorem l_q70_0:LoopOk Tryz.prog FX (mkLM D_q70_0 S_q70_0_w) body_q70_0:=loop_ok2 mix layD_ok cons_q70 (by kernel_rfl) (loops_mem loops_q70_0 (trivial)) S_q70_0_ok fun _ _ h => h
theorem loops_q70:loopsIn code_q70 = [body_q70_0,body_q70_1]:=by kernel_rfl
theorem m_q70:Meets Tryz.prog FX 143 c_q70:=meets_of (E:=E_q70) (code:=code_q70) mix layD_ok cons_q70 Tryz.func143 (by kernel_rfl) sg_q70 (by kernel_rfl) (fun y => y.1) c_q70.out (fun _ => rfl) c_q70.run (fun x => by kernel_rfl) (by kernel_rfl) (loops_mem loops_q70 (⟨⟨_,by kernel_rfl,l_q70_0⟩,⟨⟨_,by kernel_rfl,l_q70_1⟩,trivial⟩⟩))
noncomputable def sg_q71:Sig:=⟨[(false,[.d (.sl .int)])],[],false,[(false,[.d (.bool)])],[]⟩
noncomputable def c_q71:Con:=⟨sg_q71,Bool,fun x => M_impl_isOne x.1,fun r => (r,())⟩
noncomputable def code_q71:Code:=Tryz.f110.body.getD .skip
noncomputable def E_q71:Env:=⟨layD,[],[],[]⟩
theorem cons_q71:ConsOk Tryz.prog FX E_q71.cons:=consOk_nil
theorem loops_q71:loopsIn code_q71 = []:=by kernel_rfl
theorem m_q71:Meets Tryz.prog FX 110 c_q71:=meets_of (E:=E_q71) (code:=code_q71) mix layD_ok cons_q71 Tryz.func110 (by kernel_rfl) sg_q71 (by kernel_rfl) (fun y => y.1) c_q71.out (fun _ => rfl) c_q71.run (fun x => by kernel_rfl) (by kernel_rfl) (loops_mem loops_q71 (trivial))
noncomputable def sg_q72:Sig:=⟨[(true,[.d (.bool),.d (.sl .int)]),(false,[.d (.sl .int)])],[],false,[(true,[.d (.bool),.d (.sl .int),.d (.sl .int)])],[]⟩
noncomputable def c_q72:Con:=⟨sg_q72,Rt,fun x => M_impl_lowest (⟨x.1,x.2.1⟩:Bg) x.2.2.1,fun r => (r.neg,r.mag,r.den,())⟩
noncomputable def code_q72:Code:=Tryz.f230.body.getD .skip
noncomputable def E_q72:Env:=⟨layD,[(143,c_q70),(110,c_q71),(174,c_q69),(137,c_q58)],[],[]⟩
theorem cons_q72:ConsOk Tryz.prog FX E_q72.cons:=consOk_cons m_q70 (callable_of Tryz.func143 (by kernel_rfl)) (consOk_cons m_q71 (callable_of Tryz.func110 (by kernel_rfl)) (consOk_cons m_q69 (callable_of Tryz.func174 (by kernel_rfl)) (consOk_cons m_q58 (callable_of Tryz.func137 (by kernel_rfl)) (consOk_nil))))
theorem loops_q72:loopsIn code_q72 = []:=by kernel_rfl
theorem m_q72:Meets Tryz.prog FX 230 c_q72:=meets_of (E:=E_q72) (code:=code_q72) mix layD_ok cons_q72 Tryz.func230 (by kernel_rfl) sg_q72 (by kernel_rfl) (fun y => (⟨y.1,y.2.1,y.2.2.1⟩:Rt)) c_q72.out (fun _ => rfl) c_q72.run (fun x => by kernel_rfl) (by kernel_rfl) (loops_mem loops_q72 (trivial))
noncomputable def sg_q73:Sig:=⟨[(true,[.d (.bool),.d (.sl .int),.d (.sl .int)])],[],false,[(true,[.d (.bool),.own 0,.own 1])],[(0,.arr false .int),(1,.arr false .int)]⟩
noncomputable def c_q73:Con:=⟨sg_q73,Rt,fun x => M_impl_copyRat (⟨x.1,x.2.1,x.2.2.1⟩:Rt),fun r => (r.neg,r.mag,r.den,())⟩
noncomputable def code_q73:Code:=Tryz.f117.body.getD .skip
noncomputable def E_q73:Env:=⟨layD,[(161,c_q65)],[],[(1,[(0,[]),(1,[]),(2,[]),(3,[]),(4,[]),(5,[]),(8,[]),(9,[]),(6,[5,4,3]),(7,[]),(10,[9,6,8,5,4,3]),(11,[]),(12,[11,10,0,1,2,3,4,5,6,7,8,9])])]⟩
theorem cons_q73:ConsOk Tryz.prog FX E_q73.cons:=consOk_cons m_q65 (callable_of Tryz.func161 (by kernel_rfl)) (consOk_nil)
theorem loops_q73:loopsIn code_q73 = []:=by kernel_rfl
theorem m_q73:Meets Tryz.prog FX 117 c_q73:=meets_of (E:=E_q73) (code:=code_q73) mix layD_ok cons_q73 Tryz.func117 (by kernel_rfl) sg_q73 (by kernel_rfl) (fun y => (⟨y.1,y.2.1,y.2.2.1⟩:Rt)) c_q73.out (fun _ => rfl) c_q73.run (fun x => by kernel_rfl) (by kernel_rfl) (loops_mem loops_q73 (trivial))
noncomputable def sg_q74:Sig:=⟨[(true,[.d (.bool),.d (.sl .int)]),(true,[.d (.bool),.d (.sl .int)])],[],false,[(true,[.d (.bool),.own 0,.own 1])],[(0,.arr false .int),(1,.arr false .int)]⟩
noncomputable def c_q74:Con:=⟨sg_q74,Rt,fun x => M_impl_RatMake (⟨x.1,x.2.1⟩:Bg) (⟨x.2.2.1,x.2.2.2.1⟩:Bg),fun r => (r.neg,r.mag,r.den,())⟩
noncomputable def code_q74:Code:=Tryz.f215.body.getD .skip
noncomputable def E_q74:Env:=⟨layD,[(141,c_q62),(137,c_q63),(230,c_q72),(117,c_q73)],[],[(3,[(0,[]),(1,[]),(2,[]),(3,[]),(4,[]),(5,[]),(6,[]),(8,[]),(9,[]),(7,[4,6,1,3,5,0,2]),(10,[7,9,4,6,8,1,3,5,0,2]),(11,[10,7,9,4,6,8,1,3,5,0,2]),(12,[11,0,1,2,3,4,5,6,7,8,9,10])])]⟩
theorem cons_q74:ConsOk Tryz.prog FX E_q74.cons:=consOk_cons m_q62 (callable_of Tryz.func141 (by kernel_rfl)) (consOk_cons m_q63 (callable_of Tryz.func137 (by kernel_rfl)) (consOk_cons m_q72 (callable_of Tryz.func230 (by kernel_rfl)) (consOk_cons m_q73 (callable_of Tryz.func117 (by kernel_rfl)) (consOk_nil))))
theorem loops_q74:loopsIn code_q74 = []:=by kernel_rfl
theorem m_q74:Meets Tryz.prog FX 215 c_q74:=meets_of (E:=E_q74) (code:=code_q74) mix layD_ok cons_q74 Tryz.func215 (by kernel_rfl) sg_q74 (by kernel_rfl) (fun y => (⟨y.1,y.2.1,y.2.2.1⟩:Rt)) c_q74.out (fun _ => rfl) c_q74.run (fun x => by kernel_rfl) (by kernel_rfl) (loops_mem loops_q74 (trivial))
noncomputable def sg_q75:Sig:=⟨[(false,[.d (.int .i64)]),(false,[.d (.int .i64)])],[],false,[(true,[.d (.bool),.own 0,.own 1])],[(0,.arr false .int),(1,.arr false .int)]⟩
noncomputable def c_q75:Con:=⟨sg_q75,Rt,fun x => M_impl_RatOf x.1 x.2.1,fun r => (r.neg,r.mag,r.den,())⟩
noncomputable def code_q75:Code:=Tryz.f187.body.getD .skip
noncomputable def E_q75:Env:=⟨layD,[(216,c_q60),(215,c_q74)],[],[]⟩
theorem cons_q75:ConsOk Tryz.prog FX E_q75.cons:=consOk_cons m_q60 (callable_of Tryz.func216 (by kernel_rfl)) (consOk_cons m_q74 (callable_of Tryz.func215 (by kernel_rfl)) (consOk_nil))
theorem loops_q75:loopsIn code_q75 = []:=by kernel_rfl
theorem m_q75:Meets Tryz.prog FX 187 c_q75:=meets_of (E:=E_q75) (code:=code_q75) mix layD_ok cons_q75 Tryz.func187 (by kernel_rfl) sg_q75 (by kernel_rfl) (fun y => (⟨y.1,y.2.1,y.2.2.1⟩:Rt)) c_q75.out (fun _ => rfl) c_q75.run (fun x => by kernel_rfl) (by kernel_rfl) (loops_mem loops_q75 (trivial))
noncomputable def sg_q76:Sig:=⟨[(false,[.d (.int .i64)])],[],false,[(true,[.d (.bool),.own 0,.own 1])],[(0,.arr false .int),(1,.arr false .int)]⟩
noncomputable def c_q76:Con:=⟨sg_q76,Rt,fun x => M_impl_RatFromInt x.1,fun r => (r.neg,r.mag,r.den,())⟩
noncomputable def code_q76:Code:=Tryz.f152.body.getD .skip
noncomputable def E_q76:Env:=⟨layD,[(187,c_q75)],[],[]⟩
theorem cons_q76:ConsOk Tryz.prog FX E_q76.cons:=consOk_cons m_q75 (callable_of Tryz.func187 (by kernel_rfl)) (consOk_nil)
theorem loops_q76:loopsIn code_q76 = []:=by kernel_rfl
theorem m_q76:Meets Tryz.prog FX 152 c_q76:=meets_of (E:=E_q76) (code:=code_q76) mix layD_ok cons_q76 Tryz.func152 (by kernel_rfl) sg_q76 (by kernel_rfl) (fun y => (⟨y.1,y.2.1,y.2.2.1⟩:Rt)) c_q76.out (fun _ => rfl) c_q76.run (fun x => by kernel_rfl) (by kernel_rfl) (loops_mem loops_q76 (trivial))
noncomputable def sg_q77:Sig:=⟨[(false,[.d (.int .i64)])],[],false,[(true,[.d (.bool),.own 0,.own 1])],[(0,.arr false .int),(1,.arr false .int)]⟩
noncomputable def c_q77:Con:=⟨sg_q77,Rt,fun x => M_impl_whole x.1,fun r => (r.neg,r.mag,r.den,())⟩
noncomputable def code_q77:Code:=Tryz.f109.body.getD .skip
noncomputable def E_q77:Env:=⟨layD,[(152,c_q76)],[],[]⟩
theorem cons_q77:ConsOk Tryz.prog FX E_q77.cons:=consOk_cons m_q76 (callable_of Tryz.func152 (by kernel_rfl)) (consOk_nil)
theorem loops_q77:loopsIn code_q77 = []:=by kernel_rfl
theorem m_q77:Meets Tryz.prog FX 109 c_q77:=meets_of (E:=E_q77) (code:=code_q77) mix layD_ok cons_q77 Tryz.func109 (by kernel_rfl) sg_q77 (by kernel_rfl) (fun y => (⟨y.1,y.2.1,y.2.2.1⟩:Rt)) c_q77.out (fun _ => rfl) c_q77.run (fun x => by kernel_rfl) (by kernel_rfl) (loops_mem loops_q77 (trivial))
noncomputable def c_q78:Con:=Fo.c_strings_Cut
theorem m_q78:Meets Tryz.prog FX 90 c_q78:=Fo.m_strings_Cut
noncomputable def sg_q79:Sig:=⟨[(false,[.d (.str)]),(false,[.d (.str)])],[],false,[(false,[.d (.bool)])],[]⟩
noncomputable def c_q79:Con:=⟨sg_q79,Bool,fun x => M_internal_stringslite_HasPrefix x.1 x.2.1,fun r => (r,())⟩
noncomputable def code_q79:Code:=Tryz.f198.body.getD .skip
noncomputable def E_q79:Env:=⟨layD,[],[],[]⟩
theorem cons_q79:ConsOk Tryz.prog FX E_q79.cons:=consOk_nil
theorem loops_q79:loopsIn code_q79 = []:=by kernel_rfl
theorem m_q79:Meets Tryz.prog FX 198 c_q79:=meets_of (E:=E_q79) (code:=code_q79) mix layD_ok cons_q79 Tryz.func198 (by kernel_rfl) sg_q79 (by kernel_rfl) (fun y => y.1) c_q79.out (fun _ => rfl) c_q79.run (fun x => by kernel_rfl) (by kernel_rfl) (loops_mem loops_q79 (trivial))
noncomputable def sg_q80:Sig:=⟨[(false,[.d (.str)]),(false,[.d (.str)])],[],true,[(false,[.d (.str)]),(false,[.d (.bool)])],[]⟩
noncomputable def c_q80:Con:=⟨sg_q80,ByteArray × Bool,fun x => M_internal_stringslite_CutPrefix x.1 x.2.1,fun r => (r.1,r.2,())⟩
noncomputable def code_q80:Code:=Tryz.f171.body.getD .skip
noncomputable def E_q80:Env:=⟨layD,[(198,c_q79)],[],[]⟩
theorem cons_q80:ConsOk Tryz.prog FX E_q80.cons:=consOk_cons m_q79 (callable_of Tryz.func198 (by kernel_rfl)) (consOk_nil)
theorem loops_q80:loopsIn code_q80 = []:=by kernel_rfl
theorem m_q80:Meets Tryz.prog FX 171 c_q80:=meets_of (E:=E_q80) (code:=code_q80) mix layD_ok cons_q80 Tryz.func171 (by kernel_rfl) sg_q80 (by kernel_rfl) (fun y => (y.1,y.2.1)) c_q80.out (fun _ => rfl) c_q80.run (fun x => by kernel_rfl) (by kernel_rfl) (loops_mem loops_q80 (trivial))
noncomputable def sg_q81:Sig:=⟨[(false,[.d (.str)]),(false,[.d (.str)])],[],true,[(false,[.d (.str)]),(false,[.d (.bool)])],[]⟩
noncomputable def c_q81:Con:=⟨sg_q81,ByteArray × Bool,fun x => M_strings_CutPrefix x.1 x.2.1,fun r => (r.1,r.2,())⟩
noncomputable def code_q81:Code:=Tryz.f136.body.getD .skip
noncomputable def E_q81:Env:=⟨layD,[(171,c_q80)],[],[]⟩
theorem cons_q81:ConsOk Tryz.prog FX E_q81.cons:=consOk_cons m_q80 (callable_of Tryz.func171 (by kernel_rfl)) (consOk_nil)
theorem loops_q81:loopsIn code_q81 = []:=by kernel_rfl
theorem m_q81:Meets Tryz.prog FX 136 c_q81:=meets_of (E:=E_q81) (code:=code_q81) mix layD_ok cons_q81 Tryz.func136 (by kernel_rfl) sg_q81 (by kernel_rfl) (fun y => (y.1,y.2.1)) c_q81.out (fun _ => rfl) c_q81.run (fun x => by kernel_rfl) (by kernel_rfl) (loops_mem loops_q81 (trivial))
noncomputable def sg_q82:Sig:=⟨[(false,[.d (.str)])],[],false,[(false,[.d (.bool)])],[]⟩
noncomputable def c_q82:Con:=⟨sg_q82,Bool,fun x => M_impl_IsDigits x.1,fun r => (r,())⟩
noncomputable def code_q82:Code:=Tryz.f138.body.getD .skip
noncomputable def body_q82_0:Code:=(loopsIn code_q82).getD 0 .skip
noncomputable def D_q82_0:LoopD:=⟨⟨mkSlots [(0,false,[.d (.str)]),(3,false,[.d (.int .i64)])] 22 0,[]⟩,[],[(.ret,⟨mkSlots [(2,false,[.d (.bool)])] 22 0,[]⟩,[]),(.exit 0,⟨mkSlots [(0,false,[.d (.str)])] 22 0,[]⟩,[])]⟩
noncomputable def S_q82_0_w (x:Tys D_q82_0.head.ks):Option (OutT D_q82_0.outs):=@whileO (ByteArray × Int × Unit) ((Bool × Unit) ⊕ (ByteArray × Unit)) S_impl_IsDigits_0 x
noncomputable def E_q82:Env:=⟨layD,[],[(2,mkLM D_q82_0 S_q82_0_w)],[]⟩
theorem cons_q82:ConsOk Tryz.prog FX E_q82.cons:=consOk_nil
theorem S_q82_0_ok (x:Tys D_q82_0.head.ks):stepL E_q82 D_q82_0 body_q82_0 x = S_impl_IsDigits_0 x:=by kernel_rfl
theorem loops_q82_0:loopsIn body_q82_0 = []:=by kernel_rfl
theorem l_q82_0:LoopOk Tryz.prog FX (mkLM D_q82_0 S_q82_0_w) body_q82_0:=loop_ok2 mix layD_ok cons_q82 (by kernel_rfl) (loops_mem loops_q82_0 (trivial)) S_q82_0_ok fun _ _ h => h
theorem loops_q82:loopsIn code_q82 = [body_q82_0]:=by kernel_rfl
theorem m_q82:Meets Tryz.prog FX 138 c_q82:=meets_of (E:=E_q82) (code:=code_q82) mix layD_ok cons_q82 Tryz.func138 (by kernel_rfl) sg_q82 (by kernel_rfl) (fun y => y.1) c_q82.out (fun _ => rfl) c_q82.run (fun x => by kernel_rfl) (by kernel_rfl) (loops_mem loops_q82 (⟨⟨_,by kernel_rfl,l_q82_0⟩,trivial⟩))
noncomputable def c_q83:Con:=Fo.c_strconv_Atoi
theorem m_q83:Meets Tryz.prog FX 139 c_q83:=Fo.m_strconv_Atoi
noncomputable def sg_q85:Sig:=⟨[(false,[.d (.str)])],[],true,[(false,[.own 0]),(false,[.d (.bool)])],[(0,.arr false .int)]⟩
noncomputable def c_q85:Con:=⟨sg_q85,List Int × Bool,fun x => M_impl_ParseNat x.1,fun r => (r.2,r.1,())⟩
noncomputable def code_q85:Code:=Tryz.f92.body.getD .skip
noncomputable def body_q85_0:Code:=(loopsIn code_q85).getD 0 .skip
noncomputable def D_q85_0:LoopD:=⟨⟨mkSlots [(0,false,[.d (.str)]),(4,false,[.own 3136]),(5,false,[.d (.int .i64)])] 48 0,[(3136,.arr false .int)]⟩,[(.slot 4 0,3136,.int)],[(.exit 0,⟨mkSlots [(4,false,[.own 3136])] 48 0,[(3136,.arr false .int)]⟩,[(.slot 4 0,3136,.int)])]⟩
noncomputable def S_q85_0_w (x:Tys D_q85_0.head.ks):Option (OutT D_q85_0.outs):=@whileO (ByteArray × Int × (List Int) × Unit) ((List Int) × Unit) S_impl_ParseNat_0 x
noncomputable def E_q85:Env:=⟨layD,[(138,c_q82),(139,c_q83),(140,c_q66)],[(5,mkLM D_q85_0 S_q85_0_w)],[]⟩
theorem cons_q85:ConsOk Tryz.prog FX E_q85.cons:=consOk_cons m_q82 (callable_of Tryz.func138 (by kernel_rfl)) (consOk_cons m_q83 (callable_of Tryz.func139 (by kernel_rfl)) (consOk_cons m_q66 (callable_of Tryz.func140 (by kernel_rfl)) (consOk_nil)))
theorem S_q85_0_ok (x:Tys D_q85_0.head.ks):stepL E_q85 D_q85_0 body_q85_0 x = S_impl_ParseNat_0 x:=by kernel_rfl
theorem loops_q85_0:loopsIn body_q85_0 = []:=by kernel_rfl
theorem l_q85_0:LoopOk Tryz.prog FX (mkLM D_q85_0 S_q85_0_w) body_q85_0:=loop_ok2 mix layD_ok cons_q85 (by kernel_rfl) (loops_mem loops_q85_0 (trivial)) S_q85_0_ok fun _ _ h => h
theorem loops_q85:loopsIn code_q85 = [body_q85_0]:=by kernel_rfl
theorem m_q85:Meets Tryz.prog FX 92 c_q85:=meets_of (E:=E_q85) (code:=code_q85) mix layD_ok cons_q85 Tryz.func92 (by kernel_rfl) sg_q85 (by kernel_rfl) (fun y => (y.2.1,y.1)) c_q85.out (fun _ => rfl) c_q85.run (fun x => by kernel_rfl) (by kernel_rfl) (loops_mem loops_q85 (⟨⟨_,by kernel_rfl,l_q85_0⟩,trivial⟩))
noncomputable def sg_q86:Sig:=⟨[(false,[.d (.str)])],[],true,[(true,[.d (.bool),.own 0]),(false,[.d (.bool)])],[(0,.arr false .int)]⟩
noncomputable def c_q86:Con:=⟨sg_q86,Bg × Bool,fun x => M_impl_ParseBigInt x.1,fun r => (r.1.neg,r.2,r.1.mag,())⟩
noncomputable def code_q86:Code:=Tryz.f91.body.getD .skip
noncomputable def E_q86:Env:=⟨layD,[(136,c_q81),(92,c_q85),(137,c_q58)],[],[]⟩
theorem cons_q86:ConsOk Tryz.prog FX E_q86.cons:=consOk_cons m_q81 (callable_of Tryz.func136 (by kernel_rfl)) (consOk_cons m_q85 (callable_of Tryz.func92 (by kernel_rfl)) (consOk_cons m_q58 (callable_of Tryz.func137 (by kernel_rfl)) (consOk_nil)))
theorem loops_q86:loopsIn code_q86 = []:=by kernel_rfl
theorem m_q86:Meets Tryz.prog FX 91 c_q86:=meets_of (E:=E_q86) (code:=code_q86) mix layD_ok cons_q86 Tryz.func91 (by kernel_rfl) sg_q86 (by kernel_rfl) (fun y => ((⟨y.1,y.2.2.1⟩:Bg),y.2.1)) c_q86.out (fun _ => rfl) c_q86.run (fun x => by kernel_rfl) (by kernel_rfl) (loops_mem loops_q86 (trivial))
noncomputable def sg_q87:Sig:=⟨[(true,[.d (.bool),.d (.sl .int),.d (.sl .int)])],[],false,[(false,[.d (.bool)])],[]⟩
noncomputable def c_q87:Con:=⟨sg_q87,Bool,fun x => M_impl_RatOk (⟨x.1,x.2.1,x.2.2.1⟩:Rt),fun r => (r,())⟩
noncomputable def code_q87:Code:=Tryz.f93.body.getD .skip
noncomputable def E_q87:Env:=⟨layD,[(141,c_q62),(142,c_q61),(143,c_q70),(110,c_q71)],[],[]⟩
theorem cons_q87:ConsOk Tryz.prog FX E_q87.cons:=consOk_cons m_q62 (callable_of Tryz.func141 (by kernel_rfl)) (consOk_cons m_q61 (callable_of Tryz.func142 (by kernel_rfl)) (consOk_cons m_q70 (callable_of Tryz.func143 (by kernel_rfl)) (consOk_cons m_q71 (callable_of Tryz.func110 (by kernel_rfl)) (consOk_nil))))
theorem loops_q87:loopsIn code_q87 = []:=by kernel_rfl
theorem m_q87:Meets Tryz.prog FX 93 c_q87:=meets_of (E:=E_q87) (code:=code_q87) mix layD_ok cons_q87 Tryz.func93 (by kernel_rfl) sg_q87 (by kernel_rfl) (fun y => y.1) c_q87.out (fun _ => rfl) c_q87.run (fun x => by kernel_rfl) (by kernel_rfl) (loops_mem loops_q87 (trivial))
noncomputable def c_q88:Con:=Fo.c_strconv_Itoa
theorem m_q88:Meets Tryz.prog FX 153 c_q88:=Fo.m_strconv_Itoa
noncomputable def c_q89:Con:=Fo.c_strings_Repeat
theorem m_q89:Meets Tryz.prog FX 189 c_q89:=Fo.m_strings_Repeat
noncomputable def sg_q90:Sig:=⟨[(false,[.d (.str)]),(false,[.d (.int .i64)])],[],false,[(false,[.d (.str)])],[]⟩
noncomputable def c_q90:Con:=⟨sg_q90,ByteArray,fun x => M_impl_PadZeros x.1 x.2.1,fun r => (r,())⟩
noncomputable def code_q90:Code:=Tryz.f154.body.getD .skip
noncomputable def E_q90:Env:=⟨layD,[(189,c_q89)],[],[]⟩
theorem cons_q90:ConsOk Tryz.prog FX E_q90.cons:=consOk_cons m_q89 (callable_of Tryz.func189 (by kernel_rfl)) (consOk_nil)
theorem loops_q90:loopsIn code_q90 = []:=by kernel_rfl
theorem m_q90:Meets Tryz.prog FX 154 c_q90:=meets_of (E:=E_q90) (code:=code_q90) mix layD_ok cons_q90 Tryz.func154 (by kernel_rfl) sg_q90 (by kernel_rfl) (fun y => y.1) c_q90.out (fun _ => rfl) c_q90.run (fun x => by kernel_rfl) (by kernel_rfl) (loops_mem loops_q90 (trivial))
noncomputable def sg_q91:Sig:=⟨[(false,[.d (.sl .int)])],[],false,[(false,[.d (.str)])],[]⟩
noncomputable def c_q91:Con:=⟨sg_q91,ByteArray,fun x => M_impl_formatNat x.1,fun r => (r,())⟩
noncomputable def code_q91:Code:=Tryz.f112.body.getD .skip
noncomputable def body_q91_0:Code:=(loopsIn code_q91).getD 0 .skip
noncomputable def D_q91_0:LoopD:=⟨⟨mkSlots [(0,false,[.d (.sl .int)]),(3,false,[.d (.str)]),(4,false,[.d (.int .i64)])] 31 0,[]⟩,[],[(.exit 0,⟨mkSlots [(3,false,[.d (.str)])] 31 0,[]⟩,[])]⟩
noncomputable def S_q91_0_w (x:Tys D_q91_0.head.ks):Option (OutT D_q91_0.outs):=@whileO ((List Int) × ByteArray × Int × Unit) (ByteArray × Unit) S_impl_formatNat_0 x
noncomputable def E_q91:Env:=⟨layD,[(153,c_q88),(154,c_q90)],[(5,mkLM D_q91_0 S_q91_0_w)],[]⟩
theorem cons_q91:ConsOk Tryz.prog FX E_q91.cons:=consOk_cons m_q88 (callable_of Tryz.func153 (by kernel_rfl)) (consOk_cons m_q90 (callable_of Tryz.func154 (by kernel_rfl)) (consOk_nil))
theorem S_q91_0_ok (x:Tys D_q91_0.head.ks):stepL E_q91 D_q91_0 body_q91_0 x = S_impl_formatNat_0 x:=by kernel_rfl
theorem loops_q91_0:loopsIn body_q91_0 = []:=by kernel_rfl
theorem l_q91_0:LoopOk Tryz.prog FX (mkLM D_q91_0 S_q91_0_w) body_q91_0:=loop_ok2 mix layD_ok cons_q91 (by kernel_rfl) (loops_mem loops_q91_0 (trivial)) S_q91_0_ok fun _ _ h => h
theorem loops_q91:loopsIn code_q91 = [body_q91_0]:=by kernel_rfl
theorem m_q91:Meets Tryz.prog FX 112 c_q91:=meets_of (E:=E_q91) (code:=code_q91) mix layD_ok cons_q91 Tryz.func112 (by kernel_rfl) sg_q91 (by kernel_rfl) (fun y => y.1) c_q91.out (fun _ => rfl) c_q91.run (fun x => by kernel_rfl) (by kernel_rfl) (loops_mem loops_q91 (⟨⟨_,by kernel_rfl,l_q91_0⟩,trivial⟩))
noncomputable def sg_q92:Sig:=⟨[(true,[.d (.bool),.d (.sl .int)])],[],false,[(false,[.d (.str)])],[]⟩
noncomputable def c_q92:Con:=⟨sg_q92,ByteArray,fun x => M_impl_formatBig (⟨x.1,x.2.1⟩:Bg),fun r => (r,())⟩
noncomputable def code_q92:Code:=Tryz.f111.body.getD .skip
noncomputable def E_q92:Env:=⟨layD,[(112,c_q91)],[],[]⟩
theorem cons_q92:ConsOk Tryz.prog FX E_q92.cons:=consOk_cons m_q91 (callable_of Tryz.func112 (by kernel_rfl)) (consOk_nil)
theorem loops_q92:loopsIn code_q92 = []:=by kernel_rfl
theorem m_q92:Meets Tryz.prog FX 111 c_q92:=meets_of (E:=E_q92) (code:=code_q92) mix layD_ok cons_q92 Tryz.func111 (by kernel_rfl) sg_q92 (by kernel_rfl) (fun y => y.1) c_q92.out (fun _ => rfl) c_q92.run (fun x => by kernel_rfl) (by kernel_rfl) (loops_mem loops_q92 (trivial))
noncomputable def sg_q93:Sig:=⟨[(true,[.d (.bool),.d (.sl .int),.d (.sl .int)])],[],false,[(false,[.d (.str)])],[]⟩
noncomputable def c_q93:Con:=⟨sg_q93,ByteArray,fun x => M_impl_formatRat (⟨x.1,x.2.1,x.2.2.1⟩:Rt),fun r => (r,())⟩
noncomputable def code_q93:Code:=Tryz.f60.body.getD .skip
noncomputable def E_q93:Env:=⟨layD,[(110,c_q71),(111,c_q92),(112,c_q91)],[],[(3,[(0,[]),(1,[]),(4,[]),(5,[]),(2,[1,0]),(3,[]),(6,[5,2,4,1,0]),(7,[]),(8,[7,6,0,1,2,3,4,5])])]⟩
theorem cons_q93:ConsOk Tryz.prog FX E_q93.cons:=consOk_cons m_q71 (callable_of Tryz.func110 (by kernel_rfl)) (consOk_cons m_q92 (callable_of Tryz.func111 (by kernel_rfl)) (consOk_cons m_q91 (callable_of Tryz.func112 (by kernel_rfl)) (consOk_nil)))
theorem loops_q93:loopsIn code_q93 = []:=by kernel_rfl
theorem m_q93:Meets Tryz.prog FX 60 c_q93:=meets_of (E:=E_q93) (code:=code_q93) mix layD_ok cons_q93 Tryz.func60 (by kernel_rfl) sg_q93 (by kernel_rfl) (fun y => y.1) c_q93.out (fun _ => rfl) c_q93.run (fun x => by kernel_rfl) (by kernel_rfl) (loops_mem loops_q93 (trivial))
noncomputable def sg_q94:Sig:=⟨[(false,[.d (.str)])],[],true,[(true,[.d (.bool),.own 0,.own 1]),(false,[.d (.bool)])],[(0,.arr false .int),(1,.arr false .int)]⟩
noncomputable def c_q94:Con:=⟨sg_q94,Rt × Bool,fun x => M_impl_ParseRat x.1,fun r => (r.1.neg,r.2,r.1.mag,r.1.den,())⟩
noncomputable def code_q94:Code:=Tryz.f49.body.getD .skip
noncomputable def E_q94:Env:=⟨layD,[(90,c_q78),(91,c_q86),(92,c_q85),(93,c_q87),(60,c_q93)],[],[]⟩
theorem cons_q94:ConsOk Tryz.prog FX E_q94.cons:=consOk_cons m_q78 (callable_of Tryz.func90 (by kernel_rfl)) (consOk_cons m_q86 (callable_of Tryz.func91 (by kernel_rfl)) (consOk_cons m_q85 (callable_of Tryz.func92 (by kernel_rfl)) (consOk_cons m_q87 (callable_of Tryz.func93 (by kernel_rfl)) (consOk_cons m_q93 (callable_of Tryz.func60 (by kernel_rfl)) (consOk_nil)))))
theorem loops_q94:loopsIn code_q94 = []:=by kernel_rfl
theorem m_q94:Meets Tryz.prog FX 49 c_q94:=meets_of (E:=E_q94) (code:=code_q94) mix layD_ok cons_q94 Tryz.func49 (by kernel_rfl) sg_q94 (by kernel_rfl) (fun y => ((⟨y.1,y.2.2.1,y.2.2.2.1⟩:Rt),y.2.1)) c_q94.out (fun _ => rfl) c_q94.run (fun x => by kernel_rfl) (by kernel_rfl) (loops_mem loops_q94 (trivial))
noncomputable def sg_q95:Sig:=⟨[(false,[.d (.str)]),(false,[.d (.bool)])],[],true,[(true,[.d (.str),.d (.bool),.own 0,.own 1,.d (.bool),.own 2,.own 3,.d (.bool)]),(false,[.d (.bool)])],[(0,.arr false .int),(1,.arr false .int),(2,.arr false .int),(3,.arr false .int)]⟩
noncomputable def c_q95:Con:=⟨sg_q95,Sta × Bool,fun x => M_impl_parseStation x.1 x.2.1,fun r => (r.1.name,r.1.x.neg,r.1.y.neg,r.1.fixed,r.2,r.1.x.mag,r.1.x.den,r.1.y.mag,r.1.y.den,())⟩
noncomputable def code_q95:Code:=Tryz.f59.body.getD .skip
noncomputable def E_q95:Env:=⟨layD,[(45,c_q54),(108,c_q56),(109,c_q77),(49,c_q94)],[],[(4,[(0,[]),(1,[]),(2,[]),(4,[]),(5,[]),(6,[]),(7,[]),(3,[]),(8,[]),(9,[]),(10,[9,8,3,0,1,2,4,5,6,7])])]⟩
theorem cons_q95:ConsOk Tryz.prog FX E_q95.cons:=consOk_cons m_q54 (callable_of Tryz.func45 (by kernel_rfl)) (consOk_cons m_q56 (callable_of Tryz.func108 (by kernel_rfl)) (consOk_cons m_q77 (callable_of Tryz.func109 (by kernel_rfl)) (consOk_cons m_q94 (callable_of Tryz.func49 (by kernel_rfl)) (consOk_nil))))
theorem loops_q95:loopsIn code_q95 = []:=by kernel_rfl
theorem m_q95:Meets Tryz.prog FX 59 c_q95:=meets_of (E:=E_q95) (code:=code_q95) mix layD_ok cons_q95 Tryz.func59 (by kernel_rfl) sg_q95 (by kernel_rfl) (fun y => ((⟨y.1,(⟨y.2.1,y.2.2.2.2.2.1,y.2.2.2.2.2.2.1⟩:Rt),(⟨y.2.2.1,y.2.2.2.2.2.2.2.1,y.2.2.2.2.2.2.2.2.1⟩:Rt),y.2.2.2.1⟩:Sta),y.2.2.2.2.1)) c_q95.out (fun _ => rfl) c_q95.run (fun x => by kernel_rfl) (by kernel_rfl) (loops_mem loops_q95 (trivial))
noncomputable def sg_q96:Sig:=⟨[(false,[.d (.int .i64)])],[],false,[(false,[.d (.bool)])],[]⟩
noncomputable def c_q96:Con:=⟨sg_q96,Bool,fun x => M_impl_IsBetween x.1,fun r => (r,())⟩
noncomputable def code_q96:Code:=Tryz.f46.body.getD .skip
noncomputable def E_q96:Env:=⟨layD,[],[],[]⟩
theorem cons_q96:ConsOk Tryz.prog FX E_q96.cons:=consOk_nil
theorem loops_q96:loopsIn code_q96 = []:=by kernel_rfl
theorem m_q96:Meets Tryz.prog FX 46 c_q96:=meets_of (E:=E_q96) (code:=code_q96) mix layD_ok cons_q96 Tryz.func46 (by kernel_rfl) sg_q96 (by kernel_rfl) (fun y => y.1) c_q96.out (fun _ => rfl) c_q96.run (fun x => by kernel_rfl) (by kernel_rfl) (loops_mem loops_q96 (trivial))
noncomputable def sg_q97:Sig:=⟨[(false,[.d (.int .i64)])],[],false,[(false,[.d (.str)])],[]⟩
noncomputable def c_q97:Con:=⟨sg_q97,ByteArray,fun x => M_impl_KindName x.1,fun r => (r,())⟩
noncomputable def code_q97:Code:=Tryz.f47.body.getD .skip
noncomputable def E_q97:Env:=⟨layD,[],[],[]⟩
theorem cons_q97:ConsOk Tryz.prog FX E_q97.cons:=consOk_nil
theorem loops_q97:loopsIn code_q97 = []:=by kernel_rfl
theorem m_q97:Meets Tryz.prog FX 47 c_q97:=meets_of (E:=E_q97) (code:=code_q97) mix layD_ok cons_q97 Tryz.func47 (by kernel_rfl) sg_q97 (by kernel_rfl) (fun y => y.1) c_q97.out (fun _ => rfl) c_q97.run (fun x => by kernel_rfl) (by kernel_rfl) (loops_mem loops_q97 (trivial))
noncomputable def sg_q98:Sig:=⟨[(true,[.d (.bool),.d (.sl .sta)]),(false,[.d (.str)])],[],false,[(false,[.d (.int .i64)])],[]⟩
noncomputable def c_q98:Con:=⟨sg_q98,Int,fun x => M_impl_FindStation (⟨x.1,x.2.1⟩:Net) x.2.2.1,fun r => (r,())⟩
noncomputable def code_q98:Code:=Tryz.f48.body.getD .skip
noncomputable def body_q98_0:Code:=(loopsIn code_q98).getD 0 .skip
noncomputable def D_q98_0:LoopD:=⟨⟨mkSlots [(1,false,[.d (.str)]),(8,false,[.d (.sl .sta)]),(9,false,[.d (.int .i64)]),(10,false,[.d (.int .i64)])] 21 0,[]⟩,[],[(.ret,⟨mkSlots [(4,false,[.d (.int .i64)])] 21 0,[]⟩,[]),(.exit 0,⟨mkSlots [] 21 0,[]⟩,[])]⟩
noncomputable def S_q98_0_w (x:Tys D_q98_0.head.ks):Option (OutT D_q98_0.outs):=@whileO (ByteArray × (List Sta) × Int × Int × Unit) ((Int × Unit) ⊕ (Unit)) S_impl_FindStation_0 x
noncomputable def E_q98:Env:=⟨layD,[],[(2,mkLM D_q98_0 S_q98_0_w)],[]⟩
theorem cons_q98:ConsOk Tryz.prog FX E_q98.cons:=consOk_nil
theorem S_q98_0_ok (x:Tys D_q98_0.head.ks):stepL E_q98 D_q98_0 body_q98_0 x = S_impl_FindStation_0 x:=by kernel_rfl
theorem loops_q98_0:loopsIn body_q98_0 = []:=by kernel_rfl
theorem l_q98_0:LoopOk Tryz.prog FX (mkLM D_q98_0 S_q98_0_w) body_q98_0:=loop_ok2 mix layD_ok cons_q98 (by kernel_rfl) (loops_mem loops_q98_0 (trivial)) S_q98_0_ok fun _ _ h => h
theorem loops_q98:loopsIn code_q98 = [body_q98_0]:=by kernel_rfl
theorem m_q98:Meets Tryz.prog FX 48 c_q98:=meets_of (E:=E_q98) (code:=code_q98) mix layD_ok cons_q98 Tryz.func48 (by kernel_rfl) sg_q98 (by kernel_rfl) (fun y => y.1) c_q98.out (fun _ => rfl) c_q98.run (fun x => by kernel_rfl) (by kernel_rfl) (loops_mem loops_q98 (⟨⟨_,by kernel_rfl,l_q98_0⟩,trivial⟩))
noncomputable def sg_q99:Sig:=⟨[(false,[.d (.str)])],[],false,[(false,[.d (.bool)])],[]⟩
noncomputable def c_q99:Con:=⟨sg_q99,Bool,fun x => M_impl_IsName x.1,fun r => (r,())⟩
noncomputable def code_q99:Code:=Tryz.f156.body.getD .skip
noncomputable def body_q99_0:Code:=(loopsIn code_q99).getD 0 .skip
noncomputable def D_q99_0:LoopD:=⟨⟨mkSlots [(0,false,[.d (.str)]),(3,false,[.d (.int .i64)])] 50 0,[]⟩,[],[(.ret,⟨mkSlots [(2,false,[.d (.bool)])] 50 0,[]⟩,[]),(.exit 0,⟨mkSlots [] 50 0,[]⟩,[])]⟩
noncomputable def S_q99_0_w (x:Tys D_q99_0.head.ks):Option (OutT D_q99_0.outs):=@whileO (ByteArray × Int × Unit) ((Bool × Unit) ⊕ (Unit)) S_impl_IsName_0 x
noncomputable def E_q99:Env:=⟨layD,[],[(4,mkLM D_q99_0 S_q99_0_w)],[]⟩
theorem cons_q99:ConsOk Tryz.prog FX E_q99.cons:=consOk_nil
theorem S_q99_0_ok (x:Tys D_q99_0.head.ks):stepL E_q99 D_q99_0 body_q99_0 x = S_impl_IsName_0 x:=by kernel_rfl
theorem loops_q99_0:loopsIn body_q99_0 = []:=by kernel_rfl
theorem l_q99_0:LoopOk Tryz.prog FX (mkLM D_q99_0 S_q99_0_w) body_q99_0:=loop_ok2 mix layD_ok cons_q99 (by kernel_rfl) (loops_mem loops_q99_0 (trivial)) S_q99_0_ok fun _ _ h => h
theorem loops_q99:loopsIn code_q99 = [body_q99_0]:=by kernel_rfl
theorem m_q99:Meets Tryz.prog FX 156 c_q99:=meets_of (E:=E_q99) (code:=code_q99) mix layD_ok cons_q99 Tryz.func156 (by kernel_rfl) sg_q99 (by kernel_rfl) (fun y => y.1) c_q99.out (fun _ => rfl) c_q99.run (fun x => by kernel_rfl) (by kernel_rfl) (loops_mem loops_q99 (⟨⟨_,by kernel_rfl,l_q99_0⟩,trivial⟩))
noncomputable def sg_q100:Sig:=⟨[(true,[.d (.bool),.d (.sl .int),.d (.sl .int)])],[],false,[(false,[.d (.bool)])],[]⟩
noncomputable def c_q100:Con:=⟨sg_q100,Bool,fun x => M_impl_isZero (⟨x.1,x.2.1,x.2.2.1⟩:Rt),fun r => (r,())⟩
noncomputable def code_q100:Code:=Tryz.f157.body.getD .skip
noncomputable def E_q100:Env:=⟨layD,[],[],[]⟩
theorem cons_q100:ConsOk Tryz.prog FX E_q100.cons:=consOk_nil
theorem loops_q100:loopsIn code_q100 = []:=by kernel_rfl
theorem m_q100:Meets Tryz.prog FX 157 c_q100:=meets_of (E:=E_q100) (code:=code_q100) mix layD_ok cons_q100 Tryz.func157 (by kernel_rfl) sg_q100 (by kernel_rfl) (fun y => y.1) c_q100.out (fun _ => rfl) c_q100.run (fun x => by kernel_rfl) (by kernel_rfl) (loops_mem loops_q100 (trivial))
noncomputable def sg_q101:Sig:=⟨[(true,[.d (.str),.d (.bool),.d (.sl .int),.d (.sl .int),.d (.bool),.d (.sl .int),.d (.sl .int),.d (.bool)]),(false,[.d (.bool)])],[],false,[(false,[.d (.bool)])],[]⟩
noncomputable def c_q101:Con:=⟨sg_q101,Bool,fun x => M_impl_StationOk (⟨x.1,(⟨x.2.1,x.2.2.1,x.2.2.2.1⟩:Rt),(⟨x.2.2.2.2.1,x.2.2.2.2.2.1,x.2.2.2.2.2.2.1⟩:Rt),x.2.2.2.2.2.2.2.1⟩:Sta) x.2.2.2.2.2.2.2.2.1,fun r => (r,())⟩
noncomputable def code_q101:Code:=Tryz.f114.body.getD .skip
noncomputable def E_q101:Env:=⟨layD,[(156,c_q99),(93,c_q87),(157,c_q100)],[],[]⟩
theorem cons_q101:ConsOk Tryz.prog FX E_q101.cons:=consOk_cons m_q99 (callable_of Tryz.func156 (by kernel_rfl)) (consOk_cons m_q87 (callable_of Tryz.func93 (by kernel_rfl)) (consOk_cons m_q100 (callable_of Tryz.func157 (by kernel_rfl)) (consOk_nil)))
theorem loops_q101:loopsIn code_q101 = []:=by kernel_rfl
theorem m_q101:Meets Tryz.prog FX 114 c_q101:=meets_of (E:=E_q101) (code:=code_q101) mix layD_ok cons_q101 Tryz.func114 (by kernel_rfl) sg_q101 (by kernel_rfl) (fun y => y.1) c_q101.out (fun _ => rfl) c_q101.run (fun x => by kernel_rfl) (by kernel_rfl) (loops_mem loops_q101 (trivial))
noncomputable def sg_q102:Sig:=⟨[(true,[.d (.bool),.d (.sl .sta)])],[],false,[(false,[.d (.bool)])],[]⟩
noncomputable def c_q102:Con:=⟨sg_q102,Bool,fun x => M_impl_NetworkOk (⟨x.1,x.2.1⟩:Net),fun r => (r,())⟩
noncomputable def code_q102:Code:=Tryz.f62.body.getD .skip
noncomputable def body_q102_0:Code:=(loopsIn code_q102).getD 0 .skip
noncomputable def D_q102_0:LoopD:=⟨⟨mkSlots [(1,false,[.lp 64 0]),(10,false,[.d (.sl .sta)]),(11,false,[.d (.int .i64)]),(12,false,[.d (.int .i64)])] 31 0,[(64,.box [.d (.bool),.d (.sl .sta)])]⟩,[],[(.ret,⟨mkSlots [(2,false,[.d (.bool)])] 31 0,[]⟩,[]),(.exit 0,⟨mkSlots [] 31 0,[]⟩,[])]⟩
noncomputable def S_q102_0_w (x:Tys D_q102_0.head.ks):Option (OutT D_q102_0.outs):=@whileO ((List Sta) × Int × Int × Bool × (List Sta) × Unit) ((Bool × Unit) ⊕ (Unit)) S_impl_NetworkOk_0 x
noncomputable def E_q102:Env:=⟨layD,[(114,c_q101),(48,c_q98)],[(4,mkLM D_q102_0 S_q102_0_w)],[]⟩
theorem cons_q102:ConsOk Tryz.prog FX E_q102.cons:=consOk_cons m_q101 (callable_of Tryz.func114 (by kernel_rfl)) (consOk_cons m_q98 (callable_of Tryz.func48 (by kernel_rfl)) (consOk_nil))
theorem S_q102_0_ok (x:Tys D_q102_0.head.ks):stepL E_q102 D_q102_0 body_q102_0 x = S_impl_NetworkOk_0 x:=by kernel_rfl
theorem loops_q102_0:loopsIn body_q102_0 = []:=by kernel_rfl
theorem l_q102_0:LoopOk Tryz.prog FX (mkLM D_q102_0 S_q102_0_w) body_q102_0:=loop_ok2 mix layD_ok cons_q102 (by kernel_rfl) (loops_mem loops_q102_0 (trivial)) S_q102_0_ok fun _ _ h => h
theorem loops_q102:loopsIn code_q102 = [body_q102_0]:=by kernel_rfl
theorem m_q102:Meets Tryz.prog FX 62 c_q102:=meets_of (E:=E_q102) (code:=code_q102) mix layD_ok cons_q102 Tryz.func62 (by kernel_rfl) sg_q102 (by kernel_rfl) (fun y => y.1) c_q102.out (fun _ => rfl) c_q102.run (fun x => by kernel_rfl) (by kernel_rfl) (loops_mem loops_q102 (⟨⟨_,by kernel_rfl,l_q102_0⟩,trivial⟩))
noncomputable def sg_q103:Sig:=⟨[(true,[.d (.bool),.d (.sl .int),.d (.sl .int)])],[],false,[(false,[.d (.int .i64)])],[]⟩
noncomputable def c_q103:Con:=⟨sg_q103,Int,fun x => M_impl_sign (⟨x.1,x.2.1,x.2.2.1⟩:Rt),fun r => (r,())⟩
noncomputable def code_q103:Code:=Tryz.f115.body.getD .skip
noncomputable def E_q103:Env:=⟨layD,[],[],[]⟩
theorem cons_q103:ConsOk Tryz.prog FX E_q103.cons:=consOk_nil
theorem loops_q103:loopsIn code_q103 = []:=by kernel_rfl
theorem m_q103:Meets Tryz.prog FX 115 c_q103:=meets_of (E:=E_q103) (code:=code_q103) mix layD_ok cons_q103 Tryz.func115 (by kernel_rfl) sg_q103 (by kernel_rfl) (fun y => y.1) c_q103.out (fun _ => rfl) c_q103.run (fun x => by kernel_rfl) (by kernel_rfl) (loops_mem loops_q103 (trivial))
noncomputable def sg_q104:Sig:=⟨[(true,[.d (.bool),.d (.sl .sta)]),(true,[.d (.int .i64),.d (.int .i64),.d (.int .i64),.d (.bool),.d (.sl .int),.d (.sl .int),.d (.bool),.d (.sl .int),.d (.sl .int)])],[],false,[(false,[.d (.bool)])],[]⟩
noncomputable def c_q104:Con:=⟨sg_q104,Bool,fun x => M_impl_observationFits (⟨x.1,x.2.1⟩:Net) (⟨x.2.2.1,x.2.2.2.1,x.2.2.2.2.1,(⟨x.2.2.2.2.2.1,x.2.2.2.2.2.2.1,x.2.2.2.2.2.2.2.1⟩:Rt),(⟨x.2.2.2.2.2.2.2.2.1,x.2.2.2.2.2.2.2.2.2.1,x.2.2.2.2.2.2.2.2.2.2.1⟩:Rt)⟩:Obs),fun r => (r,())⟩
noncomputable def code_q104:Code:=Tryz.f63.body.getD .skip
noncomputable def E_q104:Env:=⟨layD,[(46,c_q96),(93,c_q87),(115,c_q103)],[],[]⟩
theorem cons_q104:ConsOk Tryz.prog FX E_q104.cons:=consOk_cons m_q96 (callable_of Tryz.func46 (by kernel_rfl)) (consOk_cons m_q87 (callable_of Tryz.func93 (by kernel_rfl)) (consOk_cons m_q103 (callable_of Tryz.func115 (by kernel_rfl)) (consOk_nil)))
theorem loops_q104:loopsIn code_q104 = []:=by kernel_rfl
theorem m_q104:Meets Tryz.prog FX 63 c_q104:=meets_of (E:=E_q104) (code:=code_q104) mix layD_ok cons_q104 Tryz.func63 (by kernel_rfl) sg_q104 (by kernel_rfl) (fun y => y.1) c_q104.out (fun _ => rfl) c_q104.run (fun x => by kernel_rfl) (by kernel_rfl) (loops_mem loops_q104 (trivial))
noncomputable def sg_q105:Sig:=⟨[(true,[.d (.bool),.d (.sl .sta)]),(true,[.d (.int .i64),.d (.int .i64),.d (.int .i64),.d (.bool),.d (.sl .int),.d (.sl .int),.d (.bool),.d (.sl .int),.d (.sl .int)])],[],false,[(false,[.d (.bool)])],[]⟩
noncomputable def c_q105:Con:=⟨sg_q105,Bool,fun x => M_impl_ObservationOk (⟨x.1,x.2.1⟩:Net) (⟨x.2.2.1,x.2.2.2.1,x.2.2.2.2.1,(⟨x.2.2.2.2.2.1,x.2.2.2.2.2.2.1,x.2.2.2.2.2.2.2.1⟩:Rt),(⟨x.2.2.2.2.2.2.2.2.1,x.2.2.2.2.2.2.2.2.2.1,x.2.2.2.2.2.2.2.2.2.2.1⟩:Rt)⟩:Obs),fun r => (r,())⟩
noncomputable def code_q105:Code:=Tryz.f50.body.getD .skip
noncomputable def E_q105:Env:=⟨layD,[(62,c_q102),(63,c_q104)],[],[]⟩
theorem cons_q105:ConsOk Tryz.prog FX E_q105.cons:=consOk_cons m_q102 (callable_of Tryz.func62 (by kernel_rfl)) (consOk_cons m_q104 (callable_of Tryz.func63 (by kernel_rfl)) (consOk_nil))
theorem loops_q105:loopsIn code_q105 = []:=by kernel_rfl
theorem m_q105:Meets Tryz.prog FX 50 c_q105:=meets_of (E:=E_q105) (code:=code_q105) mix layD_ok cons_q105 Tryz.func50 (by kernel_rfl) sg_q105 (by kernel_rfl) (fun y => y.1) c_q105.out (fun _ => rfl) c_q105.run (fun x => by kernel_rfl) (by kernel_rfl) (loops_mem loops_q105 (trivial))
noncomputable def sg_q106:Sig:=⟨[(true,[.d (.bool),.d (.sl .sta)]),(false,[.d (.str)])],[],true,[(true,[.d (.int .i64),.d (.int .i64),.d (.int .i64),.d (.bool),.own 0,.own 1,.d (.bool),.own 2,.own 3]),(false,[.d (.bool)])],[(0,.arr false .int),(1,.arr false .int),(2,.arr false .int),(3,.arr false .int)]⟩
noncomputable def c_q106:Con:=⟨sg_q106,Obs × Bool,fun x => M_impl_ParseObservation (⟨x.1,x.2.1⟩:Net) x.2.2.1,fun r => (r.1.kind,r.1.frm,r.1.to,r.1.value.neg,r.1.variance.neg,r.2,r.1.value.mag,r.1.value.den,r.1.variance.mag,r.1.variance.den,())⟩
noncomputable def code_q106:Code:=Tryz.f11.body.getD .skip
noncomputable def body_q106_0:Code:=(loopsIn code_q106).getD 0 .skip
noncomputable def D_q106_0:LoopD:=⟨⟨mkSlots [(2,false,[.lp 128 0]),(4,false,[.lp 256 0]),(6,false,[.own 5312]),(7,false,[.d (.int .i64)])] 82 0,[(128,.box [.d (.bool),.d (.sl .sta)]),(256,.box [.d (.int .i64),.d (.int .i64),.d (.int .i64),.d (.bool),.d (.sl .int),.d (.sl .int),.d (.bool),.d (.sl .int),.d (.sl .int)]),(5312,.arr false .str)]⟩,[],[(.ret,⟨mkSlots [(4,false,[.lp 256 0]),(5,false,[.d (.bool)])] 82 0,[(256,.box [.d (.int .i64),.d (.int .i64),.d (.int .i64),.d (.bool),.own 5376,.own 5440,.d (.bool),.own 5504,.own 5568]),(5376,.arr false .int),(5440,.arr false .int),(5504,.arr false .int),(5568,.arr false .int)]⟩,[(.box 256 4,5376,.int),(.box 256 5,5440,.int),(.box 256 7,5504,.int),(.box 256 8,5568,.int)]),(.exit 0,⟨mkSlots [(4,false,[.lp 256 0])] 82 0,[(256,.box [.d (.int .i64),.d (.int .i64),.d (.int .i64),.d (.bool),.d (.sl .int),.d (.sl .int),.d (.bool),.d (.sl .int),.d (.sl .int)])]⟩,[])]⟩
noncomputable def S_q106_0_w (x:Tys D_q106_0.head.ks):Option (OutT D_q106_0.outs):=@whileO (Int × Bool × (List Sta) × Int × Int × Int × Bool × (List Int) × (List Int) × Bool × (List Int) × (List Int) × (List ByteArray) × Unit) ((Bool × Int × Int × Int × Bool × Bool × (List Int) × (List Int) × (List Int) × (List Int) × Unit) ⊕ (Int × Int × Int × Bool × (List Int) × (List Int) × Bool × (List Int) × (List Int) × Unit)) S_impl_ParseObservation_0 x
noncomputable def E_q106:Env:=⟨layD,[(45,c_q54),(46,c_q96),(47,c_q97),(48,c_q98),(49,c_q94),(50,c_q105)],[(3,mkLM D_q106_0 S_q106_0_w)],[(8,[(0,[]),(2,[]),(3,[]),(4,[]),(1,[0]),(5,[]),(6,[]),(7,[]),(8,[]),(9,[]),(10,[]),(11,[])]),(9,[(0,[]),(1,[]),(2,[]),(3,[]),(4,[]),(5,[1,4,3,2]),(6,[]),(7,[]),(8,[7,6,5,0,1,2,3,4])]),(11,[(0,[]),(1,[]),(2,[]),(3,[]),(4,[0,3,2,1]),(5,[]),(6,[5,4,0,1,2,3])])]⟩
theorem cons_q106:ConsOk Tryz.prog FX E_q106.cons:=consOk_cons m_q54 (callable_of Tryz.func45 (by kernel_rfl)) (consOk_cons m_q96 (callable_of Tryz.func46 (by kernel_rfl)) (consOk_cons m_q97 (callable_of Tryz.func47 (by kernel_rfl)) (consOk_cons m_q98 (callable_of Tryz.func48 (by kernel_rfl)) (consOk_cons m_q94 (callable_of Tryz.func49 (by kernel_rfl)) (consOk_cons m_q105 (callable_of Tryz.func50 (by kernel_rfl)) (consOk_nil))))))
theorem S_q106_0_ok (x:Tys D_q106_0.head.ks):stepL E_q106 D_q106_0 body_q106_0 x = S_impl_ParseObservation_0 x:=by kernel_rfl
theorem loops_q106_0:loopsIn body_q106_0 = []:=by kernel_rfl
theorem l_q106_0:LoopOk Tryz.prog FX (mkLM D_q106_0 S_q106_0_w) body_q106_0:=loop_ok2 mix layD_ok cons_q106 (by kernel_rfl) (loops_mem loops_q106_0 (trivial)) S_q106_0_ok fun _ _ h => h
theorem loops_q106:loopsIn code_q106 = [body_q106_0]:=by kernel_rfl
theorem m_q106:Meets Tryz.prog FX 11 c_q106:=meets_of (E:=E_q106) (code:=code_q106) mix layD_ok cons_q106 Tryz.func11 (by kernel_rfl) sg_q106 (by kernel_rfl) (fun y => ((⟨y.1,y.2.1,y.2.2.1,(⟨y.2.2.2.1,y.2.2.2.2.2.2.1,y.2.2.2.2.2.2.2.1⟩:Rt),(⟨y.2.2.2.2.1,y.2.2.2.2.2.2.2.2.1,y.2.2.2.2.2.2.2.2.2.1⟩:Rt)⟩:Obs),y.2.2.2.2.2.1)) c_q106.out (fun _ => rfl) c_q106.run (fun x => by kernel_rfl) (by kernel_rfl) (loops_mem loops_q106 (⟨⟨_,by kernel_rfl,l_q106_0⟩,trivial⟩))
noncomputable def sg_q107:Sig:=⟨[(true,[.d (.bool),.d (.sl .sta)]),(false,[.d (.sl .obs)])],[],false,[(false,[.d (.bool)])],[]⟩
noncomputable def c_q107:Con:=⟨sg_q107,Bool,fun x => M_impl_ObservationsOk (⟨x.1,x.2.1⟩:Net) x.2.2.1,fun r => (r,())⟩
noncomputable def code_q107:Code:=Tryz.f22.body.getD .skip
noncomputable def body_q107_0:Code:=(loopsIn code_q107).getD 0 .skip
noncomputable def D_q107_0:LoopD:=⟨⟨mkSlots [(2,false,[.lp 128 0]),(15,false,[.d (.sl .obs)]),(16,false,[.d (.int .i64)]),(17,false,[.d (.int .i64)])] 26 0,[(128,.box [.d (.bool),.d (.sl .sta)])]⟩,[],[(.ret,⟨mkSlots [(4,false,[.d (.bool)])] 26 0,[]⟩,[]),(.exit 0,⟨mkSlots [] 26 0,[]⟩,[])]⟩
noncomputable def S_q107_0_w (x:Tys D_q107_0.head.ks):Option (OutT D_q107_0.outs):=@whileO ((List Obs) × Int × Int × Bool × (List Sta) × Unit) ((Bool × Unit) ⊕ (Unit)) S_impl_ObservationsOk_0 x
noncomputable def E_q107:Env:=⟨layD,[(62,c_q102),(63,c_q104)],[(4,mkLM D_q107_0 S_q107_0_w)],[]⟩
theorem cons_q107:ConsOk Tryz.prog FX E_q107.cons:=consOk_cons m_q102 (callable_of Tryz.func62 (by kernel_rfl)) (consOk_cons m_q104 (callable_of Tryz.func63 (by kernel_rfl)) (consOk_nil))
theorem S_q107_0_ok (x:Tys D_q107_0.head.ks):stepL E_q107 D_q107_0 body_q107_0 x = S_impl_ObservationsOk_0 x:=by kernel_rfl
theorem loops_q107_0:loopsIn body_q107_0 = []:=by kernel_rfl
theorem l_q107_0:LoopOk Tryz.prog FX (mkLM D_q107_0 S_q107_0_w) body_q107_0:=loop_ok2 mix layD_ok cons_q107 (by kernel_rfl) (loops_mem loops_q107_0 (trivial)) S_q107_0_ok fun _ _ h => h
theorem loops_q107:loopsIn code_q107 = [body_q107_0]:=by kernel_rfl
theorem m_q107:Meets Tryz.prog FX 22 c_q107:=meets_of (E:=E_q107) (code:=code_q107) mix layD_ok cons_q107 Tryz.func22 (by kernel_rfl) sg_q107 (by kernel_rfl) (fun y => y.1) c_q107.out (fun _ => rfl) c_q107.run (fun x => by kernel_rfl) (by kernel_rfl) (loops_mem loops_q107 (⟨⟨_,by kernel_rfl,l_q107_0⟩,trivial⟩))
noncomputable def sg_q108:Sig:=⟨[(true,[.d (.bool),.d (.sl .sta),.d (.sl .obs)])],[],false,[(false,[.d (.bool)])],[]⟩
noncomputable def c_q108:Con:=⟨sg_q108,Bool,fun x => M_impl_BookOk (⟨x.1,x.2.1,x.2.2.1⟩:Bk),fun r => (r,())⟩
noncomputable def code_q108:Code:=Tryz.f21.body.getD .skip
noncomputable def E_q108:Env:=⟨layD,[(22,c_q107)],[],[]⟩
theorem cons_q108:ConsOk Tryz.prog FX E_q108.cons:=consOk_cons m_q107 (callable_of Tryz.func22 (by kernel_rfl)) (consOk_nil)
theorem loops_q108:loopsIn code_q108 = []:=by kernel_rfl
theorem m_q108:Meets Tryz.prog FX 21 c_q108:=meets_of (E:=E_q108) (code:=code_q108) mix layD_ok cons_q108 Tryz.func21 (by kernel_rfl) sg_q108 (by kernel_rfl) (fun y => y.1) c_q108.out (fun _ => rfl) c_q108.run (fun x => by kernel_rfl) (by kernel_rfl) (loops_mem loops_q108 (trivial))
noncomputable def sg_q109:Sig:=⟨[(true,[.d (.bool),.d (.sl .sta)]),(true,[.d (.int .i64),.d (.int .i64),.d (.int .i64),.d (.bool),.d (.sl .int),.d (.sl .int),.d (.bool),.d (.sl .int),.d (.sl .int)])],[],false,[(false,[.own 0])],[(0,.arr false .str)]⟩
noncomputable def c_q109:Con:=⟨sg_q109,List ByteArray,fun x => M_impl_observationWords (⟨x.1,x.2.1⟩:Net) (⟨x.2.2.1,x.2.2.2.1,x.2.2.2.2.1,(⟨x.2.2.2.2.2.1,x.2.2.2.2.2.2.1,x.2.2.2.2.2.2.2.1⟩:Rt),(⟨x.2.2.2.2.2.2.2.2.1,x.2.2.2.2.2.2.2.2.2.1,x.2.2.2.2.2.2.2.2.2.2.1⟩:Rt)⟩:Obs),fun r => (r,())⟩
noncomputable def code_q109:Code:=Tryz.f65.body.getD .skip
noncomputable def E_q109:Env:=⟨layD,[(47,c_q97),(46,c_q96)],[],[(1,[(0,[]),(1,[]),(3,[]),(4,[]),(5,[]),(6,[]),(7,[]),(8,[]),(9,[]),(2,[1,0]),(10,[2,9,1,8,0,7,4,6,3,5]),(11,[10,2,0,1,3,4,5,6,7,8,9])])]⟩
theorem cons_q109:ConsOk Tryz.prog FX E_q109.cons:=consOk_cons m_q97 (callable_of Tryz.func47 (by kernel_rfl)) (consOk_cons m_q96 (callable_of Tryz.func46 (by kernel_rfl)) (consOk_nil))
theorem loops_q109:loopsIn code_q109 = []:=by kernel_rfl
theorem m_q109:Meets Tryz.prog FX 65 c_q109:=meets_of (E:=E_q109) (code:=code_q109) mix layD_ok cons_q109 Tryz.func65 (by kernel_rfl) sg_q109 (by kernel_rfl) (fun y => y.1) c_q109.out (fun _ => rfl) c_q109.run (fun x => by kernel_rfl) (by kernel_rfl) (loops_mem loops_q109 (trivial))
noncomputable def c_q110:Con:=Fo.c_strings_Join
theorem m_q110:Meets Tryz.prog FX 116 c_q110:=Fo.m_strings_Join
noncomputable def sg_q111:Sig:=⟨[(false,[.d (.sl .str)]),(false,[.d (.str)])],[],false,[(false,[.d (.str)])],[]⟩
noncomputable def c_q111:Con:=⟨sg_q111,ByteArray,fun x => M_impl_Join x.1 x.2.1,fun r => (r,())⟩
noncomputable def code_q111:Code:=Tryz.f64.body.getD .skip
noncomputable def E_q111:Env:=⟨layD,[(116,c_q110)],[],[]⟩
theorem cons_q111:ConsOk Tryz.prog FX E_q111.cons:=consOk_cons m_q110 (callable_of Tryz.func116 (by kernel_rfl)) (consOk_nil)
theorem loops_q111:loopsIn code_q111 = []:=by kernel_rfl
theorem m_q111:Meets Tryz.prog FX 64 c_q111:=meets_of (E:=E_q111) (code:=code_q111) mix layD_ok cons_q111 Tryz.func64 (by kernel_rfl) sg_q111 (by kernel_rfl) (fun y => y.1) c_q111.out (fun _ => rfl) c_q111.run (fun x => by kernel_rfl) (by kernel_rfl) (loops_mem loops_q111 (trivial))
noncomputable def sg_q112:Sig:=⟨[(true,[.d (.bool),.d (.sl .sta)]),(true,[.d (.int .i64),.d (.int .i64),.d (.int .i64),.d (.bool),.d (.sl .int),.d (.sl .int),.d (.bool),.d (.sl .int),.d (.sl .int)])],[],false,[(false,[.d (.str)])],[]⟩
noncomputable def c_q112:Con:=⟨sg_q112,ByteArray,fun x => M_impl_FormatObservation (⟨x.1,x.2.1⟩:Net) (⟨x.2.2.1,x.2.2.2.1,x.2.2.2.2.1,(⟨x.2.2.2.2.2.1,x.2.2.2.2.2.2.1,x.2.2.2.2.2.2.2.1⟩:Rt),(⟨x.2.2.2.2.2.2.2.2.1,x.2.2.2.2.2.2.2.2.2.1,x.2.2.2.2.2.2.2.2.2.2.1⟩:Rt)⟩:Obs),fun r => (r,())⟩
noncomputable def code_q112:Code:=Tryz.f23.body.getD .skip
noncomputable def E_q112:Env:=⟨layD,[(50,c_q105),(65,c_q109),(60,c_q93),(64,c_q111)],[],[(3,[(0,[]),(1,[]),(3,[]),(4,[]),(6,[]),(7,[]),(2,[0,1]),(5,[4,2,3,0,1]),(8,[7,5,6,4,2,3,0,1]),(9,[5,8,4,2,7,3,0,1,6]),(10,[2,9,8,0,1,5,7,4,6,3]),(11,[10,2,9,8,0,1,5,7,4,6,3]),(12,[11,0,1,2,3,4,5,6,7,8,9,10])])]⟩
theorem cons_q112:ConsOk Tryz.prog FX E_q112.cons:=consOk_cons m_q105 (callable_of Tryz.func50 (by kernel_rfl)) (consOk_cons m_q109 (callable_of Tryz.func65 (by kernel_rfl)) (consOk_cons m_q93 (callable_of Tryz.func60 (by kernel_rfl)) (consOk_cons m_q111 (callable_of Tryz.func64 (by kernel_rfl)) (consOk_nil))))
theorem loops_q112:loopsIn code_q112 = []:=by kernel_rfl
theorem m_q112:Meets Tryz.prog FX 23 c_q112:=meets_of (E:=E_q112) (code:=code_q112) mix layD_ok cons_q112 Tryz.func23 (by kernel_rfl) sg_q112 (by kernel_rfl) (fun y => y.1) c_q112.out (fun _ => rfl) c_q112.run (fun x => by kernel_rfl) (by kernel_rfl) (loops_mem loops_q112 (trivial))
noncomputable def sg_q113:Sig:=⟨[(true,[.d (.bool),.d (.sl .sta),.d (.sl .obs)])],[],false,[(false,[.d (.str)])],[]⟩
noncomputable def c_q113:Con:=⟨sg_q113,ByteArray,fun x => M_impl_FormatBook (⟨x.1,x.2.1,x.2.2.1⟩:Bk),fun r => (r,())⟩
noncomputable def code_q113:Code:=Tryz.f19.body.getD .skip
noncomputable def body_q113_0:Code:=(loopsIn code_q113).getD 0 .skip
noncomputable def body_q113_1:Code:=(loopsIn code_q113).getD 1 .skip
noncomputable def D_q113_0:LoopD:=⟨⟨mkSlots [(1,false,[.lp 64 0]),(3,false,[.d (.str)]),(17,false,[.d (.sl .sta)]),(18,false,[.d (.int .i64)]),(19,false,[.d (.int .i64)])] 65 0,[(64,.box [.d (.bool),.d (.sl .sta),.d (.sl .obs)])]⟩,[],[(.exit 0,⟨mkSlots [(1,false,[.lp 64 0]),(3,false,[.d (.str)])] 65 0,[(64,.box [.d (.bool),.d (.sl .sta),.d (.sl .obs)])]⟩,[])]⟩
noncomputable def D_q113_1:LoopD:=⟨⟨mkSlots [(1,false,[.lp 64 0]),(3,false,[.d (.str)]),(50,false,[.d (.sl .obs)]),(51,false,[.d (.int .i64)]),(52,false,[.d (.int .i64)])] 65 0,[(64,.box [.d (.bool),.d (.sl .sta),.d (.sl .obs)])]⟩,[],[(.exit 2,⟨mkSlots [(3,false,[.d (.str)])] 65 0,[]⟩,[])]⟩
noncomputable def S_q113_0_w (x:Tys D_q113_0.head.ks):Option (OutT D_q113_0.outs):=@whileO (ByteArray × (List Sta) × Int × Int × Bool × (List Sta) × (List Obs) × Unit) (ByteArray × Bool × (List Sta) × (List Obs) × Unit) S_impl_FormatBook_0 x
noncomputable def S_q113_1_w (x:Tys D_q113_1.head.ks):Option (OutT D_q113_1.outs):=@whileO (ByteArray × (List Obs) × Int × Int × Bool × (List Sta) × (List Obs) × Unit) (ByteArray × Unit) S_impl_FormatBook_1 x
noncomputable def E_q113:Env:=⟨layD,[(21,c_q108),(60,c_q93),(23,c_q112)],[(7,mkLM D_q113_0 S_q113_0_w),(18,mkLM D_q113_1 S_q113_1_w)],[(12,[(0,[]),(1,[]),(2,[]),(3,[]),(4,[]),(5,[]),(6,[]),(7,[]),(8,[]),(9,[8,7]),(10,[]),(11,[]),(12,[11,9,0,1,2,3,4,5,6,7,8,10])])]⟩
theorem cons_q113:ConsOk Tryz.prog FX E_q113.cons:=consOk_cons m_q108 (callable_of Tryz.func21 (by kernel_rfl)) (consOk_cons m_q93 (callable_of Tryz.func60 (by kernel_rfl)) (consOk_cons m_q112 (callable_of Tryz.func23 (by kernel_rfl)) (consOk_nil)))
theorem S_q113_1_ok (x:Tys D_q113_1.head.ks):stepL E_q113 D_q113_1 body_q113_1 x = S_impl_FormatBook_1 x:=by kernel_rfl
theorem loops_q113_1:loopsIn body_q113_1 = []:=by kernel_rfl
theorem l_q113_1:LoopOk Tryz.prog FX (mkLM D_q113_1 S_q113_1_w) body_q113_1:=loop_ok2 mix layD_ok cons_q113 (by kernel_rfl) (loops_mem loops_q113_1 (trivial)) S_q113_1_ok fun _ _ h => h
theorem S_q113_0_ok (x:Tys D_q113_0.head.ks):stepL E_q113 D_q113_0 body_q113_0 x = S_impl_FormatBook_0 x:=by kernel_rfl
theorem loops_q113_0:loopsIn body_q113_0 = []:=by kernel_rfl
theorem l_q113_0:LoopOk Tryz.prog FX (mkLM D_q113_0 S_q113_0_w) body_q113_0:=loop_ok2 mix layD_ok cons_q113 (by kernel_rfl) (loops_mem loops_q113_0 (trivial)) S_q113_0_ok fun _ _ h => h
theorem loops_q113:loopsIn code_q113 = [body_q113_0,body_q113_1]:=by kernel_rfl
theorem m_q113:Meets Tryz.prog FX 19 c_q113:=meets_of (E:=E_q113) (code:=code_q113) mix layD_ok cons_q113 Tryz.func19 (by kernel_rfl) sg_q113 (by kernel_rfl) (fun y => y.1) c_q113.out (fun _ => rfl) c_q113.run (fun x => by kernel_rfl) (by kernel_rfl) (loops_mem loops_q113 (⟨⟨_,by kernel_rfl,l_q113_0⟩,⟨⟨_,by kernel_rfl,l_q113_1⟩,trivial⟩⟩))
noncomputable def sg_q114:Sig:=⟨[(false,[.d (.str)])],[],true,[(true,[.d (.bool),.dp 0,.dp 1]),(false,[.d (.bool)])],[(0,.deep .sta),(1,.deep .obs)]⟩
noncomputable def c_q114:Con:=⟨sg_q114,Bk × Bool,fun x => M_impl_ParseBook x.1,fun r => (r.1.plane,r.2,r.1.stations,r.1.obs,())⟩
noncomputable def code_q114:Code:=Tryz.f18.body.getD .skip
noncomputable def body_q114_0:Code:=(loopsIn code_q114).getD 0 .skip
noncomputable def D_q114_0:LoopD:=⟨⟨mkSlots [(0,false,[.d (.str)]),(2,false,[.lp 128 0]),(5,false,[.lp 320 0]),(42,false,[.d (.sl .str)]),(43,false,[.d (.int .i64)]),(44,false,[.d (.int .i64)])] 99 0,[(128,.box [.d (.bool),.dp 6528,.dp 6592]),(320,.box [.d (.bool),.dp 6400,.dp 6464]),(6400,.deep .sta),(6464,.deep .obs),(6528,.deep .sta),(6592,.deep .obs)]⟩,[(.boxD 128 1,6528,.sta),(.boxD 128 2,6592,.obs),(.boxD 320 1,6400,.sta),(.boxD 320 2,6464,.obs)],[(.ret,⟨mkSlots [(2,false,[.lp 128 0]),(3,false,[.d (.bool)])] 99 0,[(128,.box [.d (.bool),.dp 6528,.dp 6592]),(6528,.deep .sta),(6592,.deep .obs)]⟩,[(.boxD 128 1,6528,.sta),(.boxD 128 2,6592,.obs)]),(.exit 0,⟨mkSlots [(0,false,[.d (.str)]),(2,false,[.lp 128 0]),(5,false,[.lp 320 0])] 99 0,[(128,.box [.d (.bool),.dp 6528,.dp 6592]),(320,.box [.d (.bool),.dp 6400,.dp 6464]),(6400,.deep .sta),(6464,.deep .obs),(6528,.deep .sta),(6592,.deep .obs)]⟩,[(.boxD 128 1,6528,.sta),(.boxD 128 2,6592,.obs),(.boxD 320 1,6400,.sta),(.boxD 320 2,6464,.obs)])]⟩
noncomputable def S_q114_0_w (x:Tys D_q114_0.head.ks):Option (OutT D_q114_0.outs):=@whileO (ByteArray × (List ByteArray) × Int × Int × Bool × Bool × (List Sta) × (List Obs) × (List Sta) × (List Obs) × Unit) ((Bool × Bool × (List Sta) × (List Obs) × Unit) ⊕ (ByteArray × Bool × Bool × (List Sta) × (List Obs) × (List Sta) × (List Obs) × Unit)) S_impl_ParseBook_0 x
noncomputable def E_q114:Env:=⟨layD,[(58,c_q55),(59,c_q95),(11,c_q106),(21,c_q108),(19,c_q113)],[(6,mkLM D_q114_0 S_q114_0_w)],[]⟩
theorem cons_q114:ConsOk Tryz.prog FX E_q114.cons:=consOk_cons m_q55 (callable_of Tryz.func58 (by kernel_rfl)) (consOk_cons m_q95 (callable_of Tryz.func59 (by kernel_rfl)) (consOk_cons m_q106 (callable_of Tryz.func11 (by kernel_rfl)) (consOk_cons m_q108 (callable_of Tryz.func21 (by kernel_rfl)) (consOk_cons m_q113 (callable_of Tryz.func19 (by kernel_rfl)) (consOk_nil)))))
theorem S_q114_0_ok (x:Tys D_q114_0.head.ks):stepL E_q114 D_q114_0 body_q114_0 x = S_impl_ParseBook_0 x:=by kernel_rfl
theorem loops_q114_0:loopsIn body_q114_0 = []:=by kernel_rfl
theorem l_q114_0:LoopOk Tryz.prog FX (mkLM D_q114_0 S_q114_0_w) body_q114_0:=loop_ok2 mix layD_ok cons_q114 (by kernel_rfl) (loops_mem loops_q114_0 (trivial)) S_q114_0_ok fun _ _ h => h
theorem loops_q114:loopsIn code_q114 = [body_q114_0]:=by kernel_rfl
theorem m_q114:Meets Tryz.prog FX 18 c_q114:=meets_of (E:=E_q114) (code:=code_q114) mix layD_ok cons_q114 Tryz.func18 (by kernel_rfl) sg_q114 (by kernel_rfl) (fun y => ((⟨y.1,y.2.2.1,y.2.2.2.1⟩:Bk),y.2.1)) c_q114.out (fun _ => rfl) c_q114.run (fun x => by kernel_rfl) (by kernel_rfl) (loops_mem loops_q114 (⟨⟨_,by kernel_rfl,l_q114_0⟩,trivial⟩))
noncomputable def sg_q115:Sig:=⟨[(false,[.d (.sl .int)]),(false,[.d (.sl .int)])],[],false,[(false,[.d (.bool)])],[]⟩
noncomputable def c_q115:Con:=⟨sg_q115,Bool,fun x => M_laws_eqIntS x.1 x.2.1,fun r => (r,())⟩
noncomputable def code_q115:Code:=Tryz.f95.body.getD .skip
noncomputable def body_q115_0:Code:=(loopsIn code_q115).getD 0 .skip
noncomputable def D_q115_0:LoopD:=⟨⟨mkSlots [(0,false,[.d (.sl .int)]),(1,false,[.d (.sl .int)]),(5,false,[.d (.int .i64)])] 26 0,[]⟩,[],[(.ret,⟨mkSlots [(4,false,[.d (.bool)])] 26 0,[]⟩,[]),(.exit 0,⟨mkSlots [] 26 0,[]⟩,[])]⟩
noncomputable def S_q115_0_w (x:Tys D_q115_0.head.ks):Option (OutT D_q115_0.outs):=@whileO ((List Int) × (List Int) × Int × Unit) ((Bool × Unit) ⊕ (Unit)) S_laws_eqIntS_0 x
noncomputable def E_q115:Env:=⟨layD,[],[(4,mkLM D_q115_0 S_q115_0_w)],[(6,[(0,[]),(1,[]),(2,[]),(3,[]),(4,[]),(5,[]),(6,[]),(7,[]),(8,[])])]⟩
theorem cons_q115:ConsOk Tryz.prog FX E_q115.cons:=consOk_nil
theorem S_q115_0_ok (x:Tys D_q115_0.head.ks):stepL E_q115 D_q115_0 body_q115_0 x = S_laws_eqIntS_0 x:=by kernel_rfl
theorem loops_q115_0:loopsIn body_q115_0 = []:=by kernel_rfl
theorem l_q115_0:LoopOk Tryz.prog FX (mkLM D_q115_0 S_q115_0_w) body_q115_0:=loop_ok2 mix layD_ok cons_q115 (by kernel_rfl) (loops_mem loops_q115_0 (trivial)) S_q115_0_ok fun _ _ h => h
theorem loops_q115:loopsIn code_q115 = [body_q115_0]:=by kernel_rfl
theorem m_q115:Meets Tryz.prog FX 95 c_q115:=meets_of (E:=E_q115) (code:=code_q115) mix layD_ok cons_q115 Tryz.func95 (by kernel_rfl) sg_q115 (by kernel_rfl) (fun y => y.1) c_q115.out (fun _ => rfl) c_q115.run (fun x => by kernel_rfl) (by kernel_rfl) (loops_mem loops_q115 (⟨⟨_,by kernel_rfl,l_q115_0⟩,trivial⟩))
noncomputable def sg_q116:Sig:=⟨[(true,[.d (.bool),.d (.sl .int)]),(true,[.d (.bool),.d (.sl .int)])],[],false,[(false,[.d (.bool)])],[]⟩
noncomputable def c_q116:Con:=⟨sg_q116,Bool,fun x => M_laws_eqBigInt (⟨x.1,x.2.1⟩:Bg) (⟨x.2.2.1,x.2.2.2.1⟩:Bg),fun r => (r,())⟩
noncomputable def code_q116:Code:=Tryz.f94.body.getD .skip
noncomputable def E_q116:Env:=⟨layD,[(95,c_q115)],[],[]⟩
theorem cons_q116:ConsOk Tryz.prog FX E_q116.cons:=consOk_cons m_q115 (callable_of Tryz.func95 (by kernel_rfl)) (consOk_nil)
theorem loops_q116:loopsIn code_q116 = []:=by kernel_rfl
theorem m_q116:Meets Tryz.prog FX 94 c_q116:=meets_of (E:=E_q116) (code:=code_q116) mix layD_ok cons_q116 Tryz.func94 (by kernel_rfl) sg_q116 (by kernel_rfl) (fun y => y.1) c_q116.out (fun _ => rfl) c_q116.run (fun x => by kernel_rfl) (by kernel_rfl) (loops_mem loops_q116 (trivial))
noncomputable def sg_q117:Sig:=⟨[(true,[.d (.bool),.d (.sl .int),.d (.sl .int)]),(true,[.d (.bool),.d (.sl .int),.d (.sl .int)])],[],false,[(false,[.d (.bool)])],[]⟩
noncomputable def c_q117:Con:=⟨sg_q117,Bool,fun x => M_laws_eqRat (⟨x.1,x.2.1,x.2.2.1⟩:Rt) (⟨x.2.2.2.1,x.2.2.2.2.1,x.2.2.2.2.2.1⟩:Rt),fun r => (r,())⟩
noncomputable def code_q117:Code:=Tryz.f51.body.getD .skip
noncomputable def E_q117:Env:=⟨layD,[(94,c_q116),(95,c_q115)],[],[]⟩
theorem cons_q117:ConsOk Tryz.prog FX E_q117.cons:=consOk_cons m_q116 (callable_of Tryz.func94 (by kernel_rfl)) (consOk_cons m_q115 (callable_of Tryz.func95 (by kernel_rfl)) (consOk_nil))
theorem loops_q117:loopsIn code_q117 = []:=by kernel_rfl
theorem m_q117:Meets Tryz.prog FX 51 c_q117:=meets_of (E:=E_q117) (code:=code_q117) mix layD_ok cons_q117 Tryz.func51 (by kernel_rfl) sg_q117 (by kernel_rfl) (fun y => y.1) c_q117.out (fun _ => rfl) c_q117.run (fun x => by kernel_rfl) (by kernel_rfl) (loops_mem loops_q117 (trivial))
noncomputable def sg_q118:Sig:=⟨[(true,[.d (.str),.d (.bool),.d (.sl .int),.d (.sl .int),.d (.bool),.d (.sl .int),.d (.sl .int),.d (.bool)]),(true,[.d (.str),.d (.bool),.d (.sl .int),.d (.sl .int),.d (.bool),.d (.sl .int),.d (.sl .int),.d (.bool)])],[],false,[(false,[.d (.bool)])],[]⟩
noncomputable def c_q118:Con:=⟨sg_q118,Bool,fun x => M_laws_eqStation (⟨x.1,(⟨x.2.1,x.2.2.1,x.2.2.2.1⟩:Rt),(⟨x.2.2.2.2.1,x.2.2.2.2.2.1,x.2.2.2.2.2.2.1⟩:Rt),x.2.2.2.2.2.2.2.1⟩:Sta) (⟨x.2.2.2.2.2.2.2.2.1,(⟨x.2.2.2.2.2.2.2.2.2.1,x.2.2.2.2.2.2.2.2.2.2.1,x.2.2.2.2.2.2.2.2.2.2.2.1⟩:Rt),(⟨x.2.2.2.2.2.2.2.2.2.2.2.2.1,x.2.2.2.2.2.2.2.2.2.2.2.2.2.1,x.2.2.2.2.2.2.2.2.2.2.2.2.2.2.1⟩:Rt),x.2.2.2.2.2.2.2.2.2.2.2.2.2.2.2.1⟩:Sta),fun r => (r,())⟩
noncomputable def code_q118:Code:=Tryz.f96.body.getD .skip
noncomputable def E_q118:Env:=⟨layD,[(51,c_q117)],[],[]⟩
theorem cons_q118:ConsOk Tryz.prog FX E_q118.cons:=consOk_cons m_q117 (callable_of Tryz.func51 (by kernel_rfl)) (consOk_nil)
theorem loops_q118:loopsIn code_q118 = []:=by kernel_rfl
theorem m_q118:Meets Tryz.prog FX 96 c_q118:=meets_of (E:=E_q118) (code:=code_q118) mix layD_ok cons_q118 Tryz.func96 (by kernel_rfl) sg_q118 (by kernel_rfl) (fun y => y.1) c_q118.out (fun _ => rfl) c_q118.run (fun x => by kernel_rfl) (by kernel_rfl) (loops_mem loops_q118 (trivial))
noncomputable def sg_q119:Sig:=⟨[(false,[.d (.sl .sta)]),(false,[.d (.sl .sta)])],[],false,[(false,[.d (.bool)])],[]⟩
noncomputable def c_q119:Con:=⟨sg_q119,Bool,fun x => M_laws_eqStationS x.1 x.2.1,fun r => (r,())⟩
noncomputable def code_q119:Code:=Tryz.f52.body.getD .skip
noncomputable def body_q119_0:Code:=(loopsIn code_q119).getD 0 .skip
noncomputable def D_q119_0:LoopD:=⟨⟨mkSlots [(0,false,[.d (.sl .sta)]),(1,false,[.d (.sl .sta)]),(5,false,[.d (.int .i64)])] 27 0,[]⟩,[],[(.ret,⟨mkSlots [(4,false,[.d (.bool)])] 27 0,[]⟩,[]),(.exit 0,⟨mkSlots [] 27 0,[]⟩,[])]⟩
noncomputable def S_q119_0_w (x:Tys D_q119_0.head.ks):Option (OutT D_q119_0.outs):=@whileO ((List Sta) × (List Sta) × Int × Unit) ((Bool × Unit) ⊕ (Unit)) S_laws_eqStationS_0 x
noncomputable def E_q119:Env:=⟨layD,[(96,c_q118)],[(4,mkLM D_q119_0 S_q119_0_w)],[(6,[(0,[]),(1,[]),(2,[]),(3,[]),(4,[]),(5,[]),(6,[]),(7,[]),(8,[3,7,2,6,0,1,4,5]),(9,[])])]⟩
theorem cons_q119:ConsOk Tryz.prog FX E_q119.cons:=consOk_cons m_q118 (callable_of Tryz.func96 (by kernel_rfl)) (consOk_nil)
theorem S_q119_0_ok (x:Tys D_q119_0.head.ks):stepL E_q119 D_q119_0 body_q119_0 x = S_laws_eqStationS_0 x:=by kernel_rfl
theorem loops_q119_0:loopsIn body_q119_0 = []:=by kernel_rfl
theorem l_q119_0:LoopOk Tryz.prog FX (mkLM D_q119_0 S_q119_0_w) body_q119_0:=loop_ok2 mix layD_ok cons_q119 (by kernel_rfl) (loops_mem loops_q119_0 (trivial)) S_q119_0_ok fun _ _ h => h
theorem loops_q119:loopsIn code_q119 = [body_q119_0]:=by kernel_rfl
theorem m_q119:Meets Tryz.prog FX 52 c_q119:=meets_of (E:=E_q119) (code:=code_q119) mix layD_ok cons_q119 Tryz.func52 (by kernel_rfl) sg_q119 (by kernel_rfl) (fun y => y.1) c_q119.out (fun _ => rfl) c_q119.run (fun x => by kernel_rfl) (by kernel_rfl) (loops_mem loops_q119 (⟨⟨_,by kernel_rfl,l_q119_0⟩,trivial⟩))
noncomputable def sg_q120:Sig:=⟨[(true,[.d (.bool),.d (.sl .sta)]),(true,[.d (.bool),.d (.sl .sta)])],[],false,[(false,[.d (.bool)])],[]⟩
noncomputable def c_q120:Con:=⟨sg_q120,Bool,fun x => M_laws_eqNetwork (⟨x.1,x.2.1⟩:Net) (⟨x.2.2.1,x.2.2.2.1⟩:Net),fun r => (r,())⟩
noncomputable def code_q120:Code:=Tryz.f13.body.getD .skip
noncomputable def E_q120:Env:=⟨layD,[(52,c_q119)],[],[]⟩
theorem cons_q120:ConsOk Tryz.prog FX E_q120.cons:=consOk_cons m_q119 (callable_of Tryz.func52 (by kernel_rfl)) (consOk_nil)
theorem loops_q120:loopsIn code_q120 = []:=by kernel_rfl
theorem m_q120:Meets Tryz.prog FX 13 c_q120:=meets_of (E:=E_q120) (code:=code_q120) mix layD_ok cons_q120 Tryz.func13 (by kernel_rfl) sg_q120 (by kernel_rfl) (fun y => y.1) c_q120.out (fun _ => rfl) c_q120.run (fun x => by kernel_rfl) (by kernel_rfl) (loops_mem loops_q120 (trivial))
noncomputable def sg_q121:Sig:=⟨[(true,[.d (.int .i64),.d (.int .i64),.d (.int .i64),.d (.bool),.d (.sl .int),.d (.sl .int),.d (.bool),.d (.sl .int),.d (.sl .int)]),(true,[.d (.int .i64),.d (.int .i64),.d (.int .i64),.d (.bool),.d (.sl .int),.d (.sl .int),.d (.bool),.d (.sl .int),.d (.sl .int)])],[],false,[(false,[.d (.bool)])],[]⟩
noncomputable def c_q121:Con:=⟨sg_q121,Bool,fun x => M_laws_eqObservation (⟨x.1,x.2.1,x.2.2.1,(⟨x.2.2.2.1,x.2.2.2.2.1,x.2.2.2.2.2.1⟩:Rt),(⟨x.2.2.2.2.2.2.1,x.2.2.2.2.2.2.2.1,x.2.2.2.2.2.2.2.2.1⟩:Rt)⟩:Obs) (⟨x.2.2.2.2.2.2.2.2.2.1,x.2.2.2.2.2.2.2.2.2.2.1,x.2.2.2.2.2.2.2.2.2.2.2.1,(⟨x.2.2.2.2.2.2.2.2.2.2.2.2.1,x.2.2.2.2.2.2.2.2.2.2.2.2.2.1,x.2.2.2.2.2.2.2.2.2.2.2.2.2.2.1⟩:Rt),(⟨x.2.2.2.2.2.2.2.2.2.2.2.2.2.2.2.1,x.2.2.2.2.2.2.2.2.2.2.2.2.2.2.2.2.1,x.2.2.2.2.2.2.2.2.2.2.2.2.2.2.2.2.2.1⟩:Rt)⟩:Obs),fun r => (r,())⟩
noncomputable def code_q121:Code:=Tryz.f12.body.getD .skip
noncomputable def E_q121:Env:=⟨layD,[(51,c_q117)],[],[]⟩
theorem cons_q121:ConsOk Tryz.prog FX E_q121.cons:=consOk_cons m_q117 (callable_of Tryz.func51 (by kernel_rfl)) (consOk_nil)
theorem loops_q121:loopsIn code_q121 = []:=by kernel_rfl
theorem m_q121:Meets Tryz.prog FX 12 c_q121:=meets_of (E:=E_q121) (code:=code_q121) mix layD_ok cons_q121 Tryz.func12 (by kernel_rfl) sg_q121 (by kernel_rfl) (fun y => y.1) c_q121.out (fun _ => rfl) c_q121.run (fun x => by kernel_rfl) (by kernel_rfl) (loops_mem loops_q121 (trivial))
noncomputable def sg_q122:Sig:=⟨[(false,[.d (.sl .obs)]),(false,[.d (.sl .obs)])],[],false,[(false,[.d (.bool)])],[]⟩
noncomputable def c_q122:Con:=⟨sg_q122,Bool,fun x => M_laws_eqObservationS x.1 x.2.1,fun r => (r,())⟩
noncomputable def code_q122:Code:=Tryz.f71.body.getD .skip
noncomputable def body_q122_0:Code:=(loopsIn code_q122).getD 0 .skip
noncomputable def D_q122_0:LoopD:=⟨⟨mkSlots [(0,false,[.d (.sl .obs)]),(1,false,[.d (.sl .obs)]),(5,false,[.d (.int .i64)])] 27 0,[]⟩,[],[(.ret,⟨mkSlots [(4,false,[.d (.bool)])] 27 0,[]⟩,[]),(.exit 0,⟨mkSlots [] 27 0,[]⟩,[])]⟩
noncomputable def S_q122_0_w (x:Tys D_q122_0.head.ks):Option (OutT D_q122_0.outs):=@whileO ((List Obs) × (List Obs) × Int × Unit) ((Bool × Unit) ⊕ (Unit)) S_laws_eqObservationS_0 x
noncomputable def E_q122:Env:=⟨layD,[(12,c_q121)],[(4,mkLM D_q122_0 S_q122_0_w)],[(6,[(0,[]),(1,[]),(2,[]),(3,[]),(4,[]),(5,[]),(6,[]),(7,[]),(8,[3,7,2,6,0,1,4,5]),(9,[])])]⟩
theorem cons_q122:ConsOk Tryz.prog FX E_q122.cons:=consOk_cons m_q121 (callable_of Tryz.func12 (by kernel_rfl)) (consOk_nil)
theorem S_q122_0_ok (x:Tys D_q122_0.head.ks):stepL E_q122 D_q122_0 body_q122_0 x = S_laws_eqObservationS_0 x:=by kernel_rfl
theorem loops_q122_0:loopsIn body_q122_0 = []:=by kernel_rfl
theorem l_q122_0:LoopOk Tryz.prog FX (mkLM D_q122_0 S_q122_0_w) body_q122_0:=loop_ok2 mix layD_ok cons_q122 (by kernel_rfl) (loops_mem loops_q122_0 (trivial)) S_q122_0_ok fun _ _ h => h
theorem loops_q122:loopsIn code_q122 = [body_q122_0]:=by kernel_rfl
theorem m_q122:Meets Tryz.prog FX 71 c_q122:=meets_of (E:=E_q122) (code:=code_q122) mix layD_ok cons_q122 Tryz.func71 (by kernel_rfl) sg_q122 (by kernel_rfl) (fun y => y.1) c_q122.out (fun _ => rfl) c_q122.run (fun x => by kernel_rfl) (by kernel_rfl) (loops_mem loops_q122 (⟨⟨_,by kernel_rfl,l_q122_0⟩,trivial⟩))
noncomputable def sg_q123:Sig:=⟨[(true,[.d (.bool),.d (.sl .sta),.d (.sl .obs)]),(true,[.d (.bool),.d (.sl .sta),.d (.sl .obs)])],[],false,[(false,[.d (.bool)])],[]⟩
noncomputable def c_q123:Con:=⟨sg_q123,Bool,fun x => M_laws_eqBook (⟨x.1,x.2.1,x.2.2.1⟩:Bk) (⟨x.2.2.2.1,x.2.2.2.2.1,x.2.2.2.2.2.1⟩:Bk),fun r => (r,())⟩
noncomputable def code_q123:Code:=Tryz.f27.body.getD .skip
noncomputable def E_q123:Env:=⟨layD,[(13,c_q120),(71,c_q122)],[],[]⟩
theorem cons_q123:ConsOk Tryz.prog FX E_q123.cons:=consOk_cons m_q120 (callable_of Tryz.func13 (by kernel_rfl)) (consOk_cons m_q122 (callable_of Tryz.func71 (by kernel_rfl)) (consOk_nil))
theorem loops_q123:loopsIn code_q123 = []:=by kernel_rfl
theorem m_q123:Meets Tryz.prog FX 27 c_q123:=meets_of (E:=E_q123) (code:=code_q123) mix layD_ok cons_q123 Tryz.func27 (by kernel_rfl) sg_q123 (by kernel_rfl) (fun y => y.1) c_q123.out (fun _ => rfl) c_q123.run (fun x => by kernel_rfl) (by kernel_rfl) (loops_mem loops_q123 (trivial))
noncomputable def sg_q124:Sig:=⟨[(false,[.d (.int .i64)])],[],false,[(false,[.d (.str)])],[]⟩
noncomputable def c_q124:Con:=⟨sg_q124,ByteArray,fun x => M_laws_markText x.1,fun r => (r,())⟩
noncomputable def code_q124:Code:=Tryz.f97.body.getD .skip
noncomputable def body_q124_0:Code:=(loopsIn code_q124).getD 0 .skip
noncomputable def D_q124_0:LoopD:=⟨⟨mkSlots [(0,false,[.d (.int .i64)]),(3,false,[.d (.str)])] 20 0,[]⟩,[],[(.exit 0,⟨mkSlots [(3,false,[.d (.str)])] 20 0,[]⟩,[])]⟩
noncomputable def S_q124_0_w (x:Tys D_q124_0.head.ks):Option (OutT D_q124_0.outs):=@whileO (Int × ByteArray × Unit) (ByteArray × Unit) S_laws_markText_0 x
noncomputable def E_q124:Env:=⟨layD,[],[(4,mkLM D_q124_0 S_q124_0_w)],[]⟩
theorem cons_q124:ConsOk Tryz.prog FX E_q124.cons:=consOk_nil
theorem S_q124_0_ok (x:Tys D_q124_0.head.ks):stepL E_q124 D_q124_0 body_q124_0 x = S_laws_markText_0 x:=by kernel_rfl
theorem loops_q124_0:loopsIn body_q124_0 = []:=by kernel_rfl
theorem l_q124_0:LoopOk Tryz.prog FX (mkLM D_q124_0 S_q124_0_w) body_q124_0:=loop_ok2 mix layD_ok cons_q124 (by kernel_rfl) (loops_mem loops_q124_0 (trivial)) S_q124_0_ok fun _ _ h => h
theorem loops_q124:loopsIn code_q124 = [body_q124_0]:=by kernel_rfl
theorem m_q124:Meets Tryz.prog FX 97 c_q124:=meets_of (E:=E_q124) (code:=code_q124) mix layD_ok cons_q124 Tryz.func97 (by kernel_rfl) sg_q124 (by kernel_rfl) (fun y => y.1) c_q124.out (fun _ => rfl) c_q124.run (fun x => by kernel_rfl) (by kernel_rfl) (loops_mem loops_q124 (⟨⟨_,by kernel_rfl,l_q124_0⟩,trivial⟩))
noncomputable def sg_q125:Sig:=⟨[(false,[.own 63]),(false,[.d (.int .i64)])],[(63,.arr false .int)],false,[(false,[.d (.int .i64)])],[(63,.arr false .int)]⟩
noncomputable def c_q125:Con:=⟨sg_q125,Int × List Int,fun x => M_laws_markIntS_md x.2.1 x.1,fun r => (r.1,r.2,())⟩
noncomputable def code_q125:Code:=Tryz.f98.body.getD .skip
noncomputable def body_q125_0:Code:=(loopsIn code_q125).getD 0 .skip
noncomputable def D_q125_0:LoopD:=⟨⟨mkSlots [(0,false,[.own 63]),(1,false,[.d (.int .i64)]),(5,false,[.d (.int .i64)])] 19 0,[(63,.arr false .int)]⟩,[],[(.exit 0,⟨mkSlots [(1,false,[.d (.int .i64)])] 19 0,[(63,.arr false .int)]⟩,[])]⟩
noncomputable def S_q125_0_w (x:Tys D_q125_0.head.ks):Option (OutT D_q125_0.outs):=@whileO (Int × Int × (List Int) × Unit) (Int × (List Int) × Unit) S_laws_markIntS_md_0 x
noncomputable def E_q125:Env:=⟨layD,[],[(2,mkLM D_q125_0 S_q125_0_w)],[]⟩
theorem cons_q125:ConsOk Tryz.prog FX E_q125.cons:=consOk_nil
theorem S_q125_0_ok (x:Tys D_q125_0.head.ks):stepL E_q125 D_q125_0 body_q125_0 x = S_laws_markIntS_md_0 x:=by kernel_rfl
theorem loops_q125_0:loopsIn body_q125_0 = []:=by kernel_rfl
theorem l_q125_0:LoopOk Tryz.prog FX (mkLM D_q125_0 S_q125_0_w) body_q125_0:=loop_ok2 mix layD_ok cons_q125 (by kernel_rfl) (loops_mem loops_q125_0 (trivial)) S_q125_0_ok fun _ _ h => h
theorem loops_q125:loopsIn code_q125 = [body_q125_0]:=by kernel_rfl
theorem m_q125:Meets Tryz.prog FX 98 c_q125:=meets_of (E:=E_q125) (code:=code_q125) mix layD_ok cons_q125 Tryz.func98 (by kernel_rfl) sg_q125 (by kernel_rfl) (fun y => (y.1,y.2.1)) c_q125.out (fun _ => rfl) c_q125.run (fun x => by kernel_rfl) (by kernel_rfl) (loops_mem loops_q125 (⟨⟨_,by kernel_rfl,l_q125_0⟩,trivial⟩))
noncomputable def sg_q126:Sig:=⟨[(false,[.dp 63]),(false,[.d (.int .i64)])],[(63,.deep .sta)],false,[(false,[.d (.int .i64)])],[(63,.deep .sta)]⟩
noncomputable def c_q126:Con:=⟨sg_q126,Int × List Sta,fun x => M_laws_markStationS_md x.2.1 x.1,fun r => (r.1,r.2,())⟩
noncomputable def code_q126:Code:=Tryz.f53.body.getD .skip
noncomputable def body_q126_0:Code:=(loopsIn code_q126).getD 0 .skip
noncomputable def D_q126_0:LoopD:=⟨⟨mkSlots [(0,false,[.dp 63]),(1,false,[.d (.int .i64)]),(5,false,[.d (.int .i64)])] 86 0,[(63,.deep .sta)]⟩,[],[(.exit 0,⟨mkSlots [(1,false,[.d (.int .i64)])] 86 0,[(63,.deep .sta)]⟩,[])]⟩
noncomputable def S_q126_0_w (x:Tys D_q126_0.head.ks):Option (OutT D_q126_0.outs):=@whileO (Int × Int × (List Sta) × Unit) (Int × (List Sta) × Unit) S_laws_markStationS_md_0 x
noncomputable def E_q126:Env:=⟨layD,[(97,c_q124),(98,c_q125)],[(2,mkLM D_q126_0 S_q126_0_w)],[]⟩
theorem cons_q126:ConsOk Tryz.prog FX E_q126.cons:=consOk_cons m_q124 (callable_of Tryz.func97 (by kernel_rfl)) (consOk_cons m_q125 (callable_of Tryz.func98 (by kernel_rfl)) (consOk_nil))
theorem S_q126_0_ok (x:Tys D_q126_0.head.ks):stepL E_q126 D_q126_0 body_q126_0 x = S_laws_markStationS_md_0 x:=by kernel_rfl
theorem loops_q126_0:loopsIn body_q126_0 = []:=by kernel_rfl
theorem l_q126_0:LoopOk Tryz.prog FX (mkLM D_q126_0 S_q126_0_w) body_q126_0:=loop_ok2 mix layD_ok cons_q126 (by kernel_rfl) (loops_mem loops_q126_0 (trivial)) S_q126_0_ok fun _ _ h => h
theorem loops_q126:loopsIn code_q126 = [body_q126_0]:=by kernel_rfl
theorem m_q126:Meets Tryz.prog FX 53 c_q126:=meets_of (E:=E_q126) (code:=code_q126) mix layD_ok cons_q126 Tryz.func53 (by kernel_rfl) sg_q126 (by kernel_rfl) (fun y => (y.1,y.2.1)) c_q126.out (fun _ => rfl) c_q126.run (fun x => by kernel_rfl) (by kernel_rfl) (loops_mem loops_q126 (⟨⟨_,by kernel_rfl,l_q126_0⟩,trivial⟩))
noncomputable def sg_q127:Sig:=⟨[(true,[.d (.bool),.dp 127]),(false,[.d (.int .i64)])],[(127,.deep .sta)],false,[(false,[.d (.int .i64)])],[(127,.deep .sta)]⟩
noncomputable def c_q127:Con:=⟨sg_q127,Int × List Sta,fun x => M_laws_markNetwork_md (⟨x.1,x.2.2.1⟩:Net) x.2.1,fun r => (r.1,r.2,())⟩
noncomputable def code_q127:Code:=Tryz.f14.body.getD .skip
noncomputable def E_q127:Env:=⟨layD,[(53,c_q126)],[],[]⟩
theorem cons_q127:ConsOk Tryz.prog FX E_q127.cons:=consOk_cons m_q126 (callable_of Tryz.func53 (by kernel_rfl)) (consOk_nil)
theorem loops_q127:loopsIn code_q127 = []:=by kernel_rfl
theorem m_q127:Meets Tryz.prog FX 14 c_q127:=meets_of (E:=E_q127) (code:=code_q127) mix layD_ok cons_q127 Tryz.func14 (by kernel_rfl) sg_q127 (by kernel_rfl) (fun y => (y.1,y.2.1)) c_q127.out (fun _ => rfl) c_q127.run (fun x => by kernel_rfl) (by kernel_rfl) (loops_mem loops_q127 (trivial))
noncomputable def sg_q128:Sig:=⟨[(false,[.dp 63]),(false,[.d (.int .i64)])],[(63,.deep .obs)],false,[(false,[.d (.int .i64)])],[(63,.deep .obs)]⟩
noncomputable def c_q128:Con:=⟨sg_q128,Int × List Obs,fun x => M_laws_markObservationS_md x.2.1 x.1,fun r => (r.1,r.2,())⟩
noncomputable def code_q128:Code:=Tryz.f72.body.getD .skip
noncomputable def body_q128_0:Code:=(loopsIn code_q128).getD 0 .skip
noncomputable def D_q128_0:LoopD:=⟨⟨mkSlots [(0,false,[.dp 63]),(1,false,[.d (.int .i64)]),(5,false,[.d (.int .i64)])] 90 0,[(63,.deep .obs)]⟩,[],[(.exit 0,⟨mkSlots [(1,false,[.d (.int .i64)])] 90 0,[(63,.deep .obs)]⟩,[])]⟩
noncomputable def S_q128_0_w (x:Tys D_q128_0.head.ks):Option (OutT D_q128_0.outs):=@whileO (Int × Int × (List Obs) × Unit) (Int × (List Obs) × Unit) S_laws_markObservationS_md_0 x
noncomputable def E_q128:Env:=⟨layD,[(98,c_q125)],[(2,mkLM D_q128_0 S_q128_0_w)],[]⟩
theorem cons_q128:ConsOk Tryz.prog FX E_q128.cons:=consOk_cons m_q125 (callable_of Tryz.func98 (by kernel_rfl)) (consOk_nil)
theorem S_q128_0_ok (x:Tys D_q128_0.head.ks):stepL E_q128 D_q128_0 body_q128_0 x = S_laws_markObservationS_md_0 x:=by kernel_rfl
theorem loops_q128_0:loopsIn body_q128_0 = []:=by kernel_rfl
theorem l_q128_0:LoopOk Tryz.prog FX (mkLM D_q128_0 S_q128_0_w) body_q128_0:=loop_ok2 mix layD_ok cons_q128 (by kernel_rfl) (loops_mem loops_q128_0 (trivial)) S_q128_0_ok fun _ _ h => h
theorem loops_q128:loopsIn code_q128 = [body_q128_0]:=by kernel_rfl
theorem m_q128:Meets Tryz.prog FX 72 c_q128:=meets_of (E:=E_q128) (code:=code_q128) mix layD_ok cons_q128 Tryz.func72 (by kernel_rfl) sg_q128 (by kernel_rfl) (fun y => (y.1,y.2.1)) c_q128.out (fun _ => rfl) c_q128.run (fun x => by kernel_rfl) (by kernel_rfl) (loops_mem loops_q128 (⟨⟨_,by kernel_rfl,l_q128_0⟩,trivial⟩))
noncomputable def sg_q129:Sig:=⟨[(true,[.d (.bool),.dp 127,.dp 191]),(false,[.d (.int .i64)])],[(127,.deep .sta),(191,.deep .obs)],false,[(false,[.d (.int .i64)])],[(127,.deep .sta),(191,.deep .obs)]⟩
noncomputable def c_q129:Con:=⟨sg_q129,Int × List Sta × List Obs,fun x => M_laws_markBook_md (⟨x.1,x.2.2.1,x.2.2.2.1⟩:Bk) x.2.1,fun r => (r.1,r.2.1,r.2.2,())⟩
noncomputable def code_q129:Code:=Tryz.f28.body.getD .skip
noncomputable def E_q129:Env:=⟨layD,[(14,c_q127),(72,c_q128)],[],[]⟩
theorem cons_q129:ConsOk Tryz.prog FX E_q129.cons:=consOk_cons m_q127 (callable_of Tryz.func14 (by kernel_rfl)) (consOk_cons m_q128 (callable_of Tryz.func72 (by kernel_rfl)) (consOk_nil))
theorem loops_q129:loopsIn code_q129 = []:=by kernel_rfl
theorem m_q129:Meets Tryz.prog FX 28 c_q129:=meets_of (E:=E_q129) (code:=code_q129) mix layD_ok cons_q129 Tryz.func28 (by kernel_rfl) sg_q129 (by kernel_rfl) (fun y => (y.1,y.2.1,y.2.2.1)) c_q129.out (fun _ => rfl) c_q129.run (fun x => by kernel_rfl) (by kernel_rfl) (loops_mem loops_q129 (trivial))
noncomputable def sg_q130:Sig:=⟨[(false,[.d (.sl .int)]),(false,[.d (.int .i64)])],[],false,[(false,[.d (.int .i64)])],[]⟩
noncomputable def c_q130:Con:=⟨sg_q130,Int,fun x => M_laws_heldIntS x.1 x.2.1,fun r => (r,())⟩
noncomputable def code_q130:Code:=Tryz.f101.body.getD .skip
noncomputable def body_q130_0:Code:=(loopsIn code_q130).getD 0 .skip
noncomputable def D_q130_0:LoopD:=⟨⟨mkSlots [(0,false,[.d (.sl .int)]),(1,false,[.d (.int .i64)]),(5,false,[.d (.int .i64)])] 21 0,[]⟩,[],[(.ret,⟨mkSlots [(4,false,[.d (.int .i64)])] 21 0,[]⟩,[]),(.exit 0,⟨mkSlots [(1,false,[.d (.int .i64)])] 21 0,[]⟩,[])]⟩
noncomputable def S_q130_0_w (x:Tys D_q130_0.head.ks):Option (OutT D_q130_0.outs):=@whileO ((List Int) × Int × Int × Unit) ((Int × Unit) ⊕ (Int × Unit)) S_laws_heldIntS_0 x
noncomputable def E_q130:Env:=⟨layD,[],[(2,mkLM D_q130_0 S_q130_0_w)],[]⟩
theorem cons_q130:ConsOk Tryz.prog FX E_q130.cons:=consOk_nil
theorem S_q130_0_ok (x:Tys D_q130_0.head.ks):stepL E_q130 D_q130_0 body_q130_0 x = S_laws_heldIntS_0 x:=by kernel_rfl
theorem loops_q130_0:loopsIn body_q130_0 = []:=by kernel_rfl
theorem l_q130_0:LoopOk Tryz.prog FX (mkLM D_q130_0 S_q130_0_w) body_q130_0:=loop_ok2 mix layD_ok cons_q130 (by kernel_rfl) (loops_mem loops_q130_0 (trivial)) S_q130_0_ok fun _ _ h => h
theorem loops_q130:loopsIn code_q130 = [body_q130_0]:=by kernel_rfl
theorem m_q130:Meets Tryz.prog FX 101 c_q130:=meets_of (E:=E_q130) (code:=code_q130) mix layD_ok cons_q130 Tryz.func101 (by kernel_rfl) sg_q130 (by kernel_rfl) (fun y => y.1) c_q130.out (fun _ => rfl) c_q130.run (fun x => by kernel_rfl) (by kernel_rfl) (loops_mem loops_q130 (⟨⟨_,by kernel_rfl,l_q130_0⟩,trivial⟩))
noncomputable def sg_q131:Sig:=⟨[(false,[.d (.sl .sta)]),(false,[.d (.int .i64)])],[],false,[(false,[.d (.int .i64)])],[]⟩
noncomputable def c_q131:Con:=⟨sg_q131,Int,fun x => M_laws_heldStationS x.1 x.2.1,fun r => (r,())⟩
noncomputable def code_q131:Code:=Tryz.f119.body.getD .skip
noncomputable def body_q131_0:Code:=(loopsIn code_q131).getD 0 .skip
noncomputable def D_q131_0:LoopD:=⟨⟨mkSlots [(0,false,[.d (.sl .sta)]),(1,false,[.d (.int .i64)]),(5,false,[.d (.int .i64)])] 102 0,[]⟩,[],[(.ret,⟨mkSlots [(4,false,[.d (.int .i64)])] 102 0,[]⟩,[]),(.exit 0,⟨mkSlots [(1,false,[.d (.int .i64)])] 102 0,[]⟩,[])]⟩
noncomputable def S_q131_0_w (x:Tys D_q131_0.head.ks):Option (OutT D_q131_0.outs):=@whileO ((List Sta) × Int × Int × Unit) ((Int × Unit) ⊕ (Int × Unit)) S_laws_heldStationS_0 x
noncomputable def E_q131:Env:=⟨layD,[(97,c_q124),(101,c_q130)],[(2,mkLM D_q131_0 S_q131_0_w)],[(4,[(0,[]),(1,[]),(2,[]),(3,[]),(4,[]),(5,[]),(6,[5]),(7,[])])]⟩
theorem cons_q131:ConsOk Tryz.prog FX E_q131.cons:=consOk_cons m_q124 (callable_of Tryz.func97 (by kernel_rfl)) (consOk_cons m_q130 (callable_of Tryz.func101 (by kernel_rfl)) (consOk_nil))
theorem S_q131_0_ok (x:Tys D_q131_0.head.ks):stepL E_q131 D_q131_0 body_q131_0 x = S_laws_heldStationS_0 x:=by kernel_rfl
theorem loops_q131_0:loopsIn body_q131_0 = []:=by kernel_rfl
theorem l_q131_0:LoopOk Tryz.prog FX (mkLM D_q131_0 S_q131_0_w) body_q131_0:=loop_ok2 mix layD_ok cons_q131 (by kernel_rfl) (loops_mem loops_q131_0 (trivial)) S_q131_0_ok fun _ _ h => h
theorem loops_q131:loopsIn code_q131 = [body_q131_0]:=by kernel_rfl
theorem m_q131:Meets Tryz.prog FX 119 c_q131:=meets_of (E:=E_q131) (code:=code_q131) mix layD_ok cons_q131 Tryz.func119 (by kernel_rfl) sg_q131 (by kernel_rfl) (fun y => y.1) c_q131.out (fun _ => rfl) c_q131.run (fun x => by kernel_rfl) (by kernel_rfl) (loops_mem loops_q131 (⟨⟨_,by kernel_rfl,l_q131_0⟩,trivial⟩))
noncomputable def sg_q132:Sig:=⟨[(true,[.d (.bool),.d (.sl .sta)]),(false,[.d (.int .i64)])],[],false,[(false,[.d (.int .i64)])],[]⟩
noncomputable def c_q132:Con:=⟨sg_q132,Int,fun x => M_laws_heldNetwork (⟨x.1,x.2.1⟩:Net) x.2.2.1,fun r => (r,())⟩
noncomputable def code_q132:Code:=Tryz.f73.body.getD .skip
noncomputable def E_q132:Env:=⟨layD,[(119,c_q131)],[],[]⟩
theorem cons_q132:ConsOk Tryz.prog FX E_q132.cons:=consOk_cons m_q131 (callable_of Tryz.func119 (by kernel_rfl)) (consOk_nil)
theorem loops_q132:loopsIn code_q132 = []:=by kernel_rfl
theorem m_q132:Meets Tryz.prog FX 73 c_q132:=meets_of (E:=E_q132) (code:=code_q132) mix layD_ok cons_q132 Tryz.func73 (by kernel_rfl) sg_q132 (by kernel_rfl) (fun y => y.1) c_q132.out (fun _ => rfl) c_q132.run (fun x => by kernel_rfl) (by kernel_rfl) (loops_mem loops_q132 (trivial))
noncomputable def sg_q133:Sig:=⟨[(false,[.d (.sl .obs)]),(false,[.d (.int .i64)])],[],false,[(false,[.d (.int .i64)])],[]⟩
noncomputable def c_q133:Con:=⟨sg_q133,Int,fun x => M_laws_heldObservationS x.1 x.2.1,fun r => (r,())⟩
noncomputable def code_q133:Code:=Tryz.f74.body.getD .skip
noncomputable def body_q133_0:Code:=(loopsIn code_q133).getD 0 .skip
noncomputable def D_q133_0:LoopD:=⟨⟨mkSlots [(0,false,[.d (.sl .obs)]),(1,false,[.d (.int .i64)]),(5,false,[.d (.int .i64)])] 108 0,[]⟩,[],[(.ret,⟨mkSlots [(4,false,[.d (.int .i64)])] 108 0,[]⟩,[]),(.exit 0,⟨mkSlots [(1,false,[.d (.int .i64)])] 108 0,[]⟩,[])]⟩
noncomputable def S_q133_0_w (x:Tys D_q133_0.head.ks):Option (OutT D_q133_0.outs):=@whileO ((List Obs) × Int × Int × Unit) ((Int × Unit) ⊕ (Int × Unit)) S_laws_heldObservationS_0 x
noncomputable def E_q133:Env:=⟨layD,[(101,c_q130)],[(2,mkLM D_q133_0 S_q133_0_w)],[]⟩
theorem cons_q133:ConsOk Tryz.prog FX E_q133.cons:=consOk_cons m_q130 (callable_of Tryz.func101 (by kernel_rfl)) (consOk_nil)
theorem S_q133_0_ok (x:Tys D_q133_0.head.ks):stepL E_q133 D_q133_0 body_q133_0 x = S_laws_heldObservationS_0 x:=by kernel_rfl
theorem loops_q133_0:loopsIn body_q133_0 = []:=by kernel_rfl
theorem l_q133_0:LoopOk Tryz.prog FX (mkLM D_q133_0 S_q133_0_w) body_q133_0:=loop_ok2 mix layD_ok cons_q133 (by kernel_rfl) (loops_mem loops_q133_0 (trivial)) S_q133_0_ok fun _ _ h => h
theorem loops_q133:loopsIn code_q133 = [body_q133_0]:=by kernel_rfl
theorem m_q133:Meets Tryz.prog FX 74 c_q133:=meets_of (E:=E_q133) (code:=code_q133) mix layD_ok cons_q133 Tryz.func74 (by kernel_rfl) sg_q133 (by kernel_rfl) (fun y => y.1) c_q133.out (fun _ => rfl) c_q133.run (fun x => by kernel_rfl) (by kernel_rfl) (loops_mem loops_q133 (⟨⟨_,by kernel_rfl,l_q133_0⟩,trivial⟩))
noncomputable def sg_q134:Sig:=⟨[(true,[.d (.bool),.d (.sl .sta),.d (.sl .obs)]),(false,[.d (.int .i64)])],[],false,[(false,[.d (.int .i64)])],[]⟩
noncomputable def c_q134:Con:=⟨sg_q134,Int,fun x => M_laws_heldBook (⟨x.1,x.2.1,x.2.2.1⟩:Bk) x.2.2.2.1,fun r => (r,())⟩
noncomputable def code_q134:Code:=Tryz.f29.body.getD .skip
noncomputable def E_q134:Env:=⟨layD,[(73,c_q132),(74,c_q133)],[],[]⟩
theorem cons_q134:ConsOk Tryz.prog FX E_q134.cons:=consOk_cons m_q132 (callable_of Tryz.func73 (by kernel_rfl)) (consOk_cons m_q133 (callable_of Tryz.func74 (by kernel_rfl)) (consOk_nil))
theorem loops_q134:loopsIn code_q134 = []:=by kernel_rfl
theorem m_q134:Meets Tryz.prog FX 29 c_q134:=meets_of (E:=E_q134) (code:=code_q134) mix layD_ok cons_q134 Tryz.func29 (by kernel_rfl) sg_q134 (by kernel_rfl) (fun y => y.1) c_q134.out (fun _ => rfl) c_q134.run (fun x => by kernel_rfl) (by kernel_rfl) (loops_mem loops_q134 (trivial))
noncomputable def sg_q135:Sig:=⟨[(false,[.d (.str)])],[],false,[(false,[.d (.bool)])],[]⟩
noncomputable def c_q135:Con:=⟨sg_q135,Bool,fun x => M_laws_FnExactParseBook x.1,fun r => (r,())⟩
noncomputable def code_q135:Code:=Tryz.f5.body.getD .skip
noncomputable def E_q135:Env:=⟨layD,[(26,c_q52),(18,c_q114),(27,c_q123),(28,c_q129),(29,c_q134)],[],[]⟩
theorem cons_q135:ConsOk Tryz.prog FX E_q135.cons:=consOk_cons m_q52 (callable_of Tryz.func26 (by kernel_rfl)) (consOk_cons m_q114 (callable_of Tryz.func18 (by kernel_rfl)) (consOk_cons m_q123 (callable_of Tryz.func27 (by kernel_rfl)) (consOk_cons m_q129 (callable_of Tryz.func28 (by kernel_rfl)) (consOk_cons m_q134 (callable_of Tryz.func29 (by kernel_rfl)) (consOk_nil)))))
theorem loops_q135:loopsIn code_q135 = []:=by kernel_rfl
theorem m_q135:Meets Tryz.prog FX 5 c_q135:=meets_of (E:=E_q135) (code:=code_q135) mix layD_ok cons_q135 Tryz.func5 (by kernel_rfl) sg_q135 (by kernel_rfl) (fun y => y.1) c_q135.out (fun _ => rfl) c_q135.run (fun x => by kernel_rfl) (by kernel_rfl) (loops_mem loops_q135 (trivial))
end Go.Proofs.YtdkfcdncamimmaaGreatDoor.WParseBook
