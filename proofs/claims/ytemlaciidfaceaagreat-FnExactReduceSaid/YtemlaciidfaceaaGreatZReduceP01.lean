/-
  Own work: part 8 of the texts that the proof of the given statement leans on.
-/
import Derived.Test.YtemlaciidfaceaaGreatProg
import Derived.Test.YtemlaciidfaceaaGreatZReduceP00
open Go Go.Di Go.Proofs
namespace Go.Proofs.YtemlaciidfaceaaGreat.WReduce
def FX:Nat→Option (Array Value→Prop):=noFix
noncomputable def layT:List (TypeId × TI):=[
  (3,⟨false,[.d (.int .i64 0)],[],none,some (.int .i64),false,false⟩),
  (4,⟨false,[.d (.bool false)],[],none,some .bool,false,false⟩),
  (22,⟨false,[.mt],[],some .trat,none,false,false⟩),
  (24,⟨true,[.d (.int .i64 0),.d (.int .i64 0),.mt],[(0,1,false),(1,1,false),(2,1,false)],none,none,true,false⟩),
  (26,⟨false,[.mt],[],some .trat,none,false,false⟩),
  (28,⟨true,[.d (.int .i64 0),.d (.int .i64 0),.mt],[(0,1,false),(1,1,false),(2,1,false)],none,none,true,false⟩),
  (29,⟨false,[.mt],[],some .int,none,false,false⟩),
  (60,⟨true,[.d (.int .i64 0),.d (.int .i64 0),.mt,.mt,.mt],[(0,3,true),(3,1,false),(4,1,false)],none,none,true,false⟩),
  (65,⟨true,[.d (.bool false),.mt],[(0,1,false),(1,1,false)],none,none,true,false⟩),
  (67,⟨true,[.d (.bool false),.mt,.mt],[(0,2,true),(2,1,false)],none,none,true,false⟩),
  (75,⟨true,[.d (.bool false),.mt],[(0,1,false),(1,1,false)],none,none,true,false⟩),
  (77,⟨true,[.d (.bool false),.mt,.mt],[(0,2,true),(2,1,false)],none,none,true,false⟩)]
noncomputable def lay:List (TypeId × TI):=[
  (3,⟨false,[.d (.int .i64 0)],[],none,some (.int .i64),false,false⟩),
  (4,⟨false,[.d (.bool false)],[],none,some .bool,false,false⟩),
  (22,⟨false,[.mt],[],some .rat,none,false,false⟩),
  (24,⟨true,[.d (.int .i64 0),.d (.int .i64 0),.mt],[(0,1,false),(1,1,false),(2,1,false)],none,none,true,false⟩),
  (26,⟨false,[.mt],[],some .rat,none,false,false⟩),
  (28,⟨true,[.d (.int .i64 0),.d (.int .i64 0),.mt],[(0,1,false),(1,1,false),(2,1,false)],none,none,true,false⟩),
  (29,⟨false,[.mt],[],some .int,none,false,false⟩),
  (60,⟨true,[.d (.int .i64 0),.d (.int .i64 0),.mt,.mt,.mt],[(0,3,true),(3,1,false),(4,1,false)],none,none,true,false⟩),
  (65,⟨true,[.d (.bool false),.mt],[(0,1,false),(1,1,false)],none,none,true,false⟩),
  (67,⟨true,[.d (.bool false),.mt,.mt],[(0,2,true),(2,1,false)],none,none,true,false⟩),
  (75,⟨true,[.d (.bool false),.mt],[(0,1,false),(1,1,false)],none,none,true,false⟩),
  (77,⟨true,[.d (.bool false),.mt,.mt],[(0,2,true),(2,1,false)],none,none,true,false⟩)]
noncomputable def layD:List (TypeId × TI):=[
  (3,⟨false,[.d (.int .i64 0)],[],none,some (.int .i64),false,false⟩),
  (4,⟨false,[.d (.bool false)],[],none,some .bool,false,false⟩),
  (22,⟨false,[.mt],[],some .rat,none,false,true⟩),
  (24,⟨true,[.d (.int .i64 0),.d (.int .i64 0),.mt],[(0,1,false),(1,1,false),(2,1,false)],none,none,true,false⟩),
  (26,⟨false,[.mt],[],some .rat,none,false,true⟩),
  (28,⟨true,[.d (.int .i64 0),.d (.int .i64 0),.mt],[(0,1,false),(1,1,false),(2,1,false)],none,none,true,false⟩),
  (29,⟨false,[.mt],[],some .int,none,false,false⟩),
  (60,⟨true,[.d (.int .i64 0),.d (.int .i64 0),.mt,.mt,.mt],[(0,3,true),(3,1,false),(4,1,false)],none,none,true,false⟩),
  (65,⟨true,[.d (.bool false),.mt],[(0,1,false),(1,1,false)],none,none,true,false⟩),
  (67,⟨true,[.d (.bool false),.mt,.mt],[(0,2,true),(2,1,false)],none,none,true,false⟩),
  (75,⟨true,[.d (.bool false),.mt],[(0,1,false),(1,1,false)],none,none,true,false⟩),
  (77,⟨true,[.d (.bool false),.mt,.mt],[(0,2,true),(2,1,false)],none,none,true,false⟩)]
theorem lay_ok:LayOk Tryz.prog lay:=layOk_ok (by kernel_rfl)
theorem layD_ok:LayOk Tryz.prog layD:=layOk_ok (by kernel_rfl)
theorem layT_ok:LayOk Tryz.prog layT:=layOk_ok (by kernel_rfl)
theorem mix:Tryz.prog.follows .mixedOrders=true:=by kernel_rfl
noncomputable def sg_q1:Sig:=⟨[(false,[.d (.sl .int)]),(false,[.d (.int .i64)])],[],false,[(false,[.d (.int .i64)])],[]⟩
noncomputable def c_q1:Con:=⟨sg_q1,Int,fun x=>M_laws_szIntS x.1 x.2.1,fun r=>(r,())⟩
noncomputable def code_q1:Code:=Tryz.f100.body.getD .skip
noncomputable def E_q1:Env:=⟨layD,[],[],[]⟩
theorem cons_q1:ConsOk Tryz.prog FX E_q1.cons:=consOk_nil
theorem loops_q1:loopsIn code_q1=[]:=by kernel_rfl
theorem m_q1:Meets Tryz.prog FX 100 c_q1:=meets_of (E:=E_q1) (code:=code_q1) mix layD_ok cons_q1 Tryz.func100 (by kernel_rfl) sg_q1 (by kernel_rfl) (fun y=>y.1) c_q1.out (fun _=>rfl) c_q1.run (fun x=>by kernel_rfl) (by kernel_rfl) (loops_mem loops_q1 (trivial))
noncomputable def sg_q2:Sig:=⟨[(true,[.d (.bool),.d (.sl .int)]),(false,[.d (.int .i64)])],[],false,[(false,[.d (.int .i64)])],[]⟩
noncomputable def c_q2:Con:=⟨sg_q2,Int,fun x=>M_laws_szBigInt (⟨x.1,x.2.1⟩:Bg) x.2.2.1,fun r=>(r,())⟩
noncomputable def code_q2:Code:=Tryz.f99.body.getD .skip
noncomputable def E_q2:Env:=⟨layD,[(100,c_q1)],[],[]⟩
theorem cons_q2:ConsOk Tryz.prog FX E_q2.cons:=consOk_cons m_q1 (callable_of Tryz.func100 (by kernel_rfl)) rfl (consOk_nil)
theorem loops_q2:loopsIn code_q2=[]:=by kernel_rfl
theorem m_q2:Meets Tryz.prog FX 99 c_q2:=meets_of (E:=E_q2) (code:=code_q2) mix layD_ok cons_q2 Tryz.func99 (by kernel_rfl) sg_q2 (by kernel_rfl) (fun y=>y.1) c_q2.out (fun _=>rfl) c_q2.run (fun x=>by kernel_rfl) (by kernel_rfl) (loops_mem loops_q2 (trivial))
noncomputable def sg_q3:Sig:=⟨[(true,[.d (.bool),.d (.sl .int),.d (.sl .int)]),(false,[.d (.int .i64)])],[],false,[(false,[.d (.int .i64)])],[]⟩
noncomputable def c_q3:Con:=⟨sg_q3,Int,fun x=>M_laws_szRat (⟨x.1,x.2.1,x.2.2.1⟩:Rt) x.2.2.2.1,fun r=>(r,())⟩
noncomputable def code_q3:Code:=Tryz.f52.body.getD .skip
noncomputable def E_q3:Env:=⟨layD,[(99,c_q2),(100,c_q1)],[],[]⟩
theorem cons_q3:ConsOk Tryz.prog FX E_q3.cons:=consOk_cons m_q2 (callable_of Tryz.func99 (by kernel_rfl)) rfl (consOk_cons m_q1 (callable_of Tryz.func100 (by kernel_rfl)) rfl (consOk_nil))
theorem loops_q3:loopsIn code_q3=[]:=by kernel_rfl
theorem m_q3:Meets Tryz.prog FX 52 c_q3:=meets_of (E:=E_q3) (code:=code_q3) mix layD_ok cons_q3 Tryz.func52 (by kernel_rfl) sg_q3 (by kernel_rfl) (fun y=>y.1) c_q3.out (fun _=>rfl) c_q3.run (fun x=>by kernel_rfl) (by kernel_rfl) (loops_mem loops_q3 (trivial))
noncomputable def sg_q4:Sig:=⟨[(false,[.d (.sl .rat)]),(false,[.d (.int .i64)])],[],false,[(false,[.d (.int .i64)])],[]⟩
noncomputable def c_q4:Con:=⟨sg_q4,Int,fun x=>M_laws_szRatS x.1 x.2.1,fun r=>(r,())⟩
noncomputable def code_q4:Code:=Tryz.f23.body.getD .skip
noncomputable def body_q4_0:Code:=(loopsIn code_q4).getD 0 .skip
noncomputable def D_q4_0:LoopD:=⟨⟨mkSlots [(0,false,[.d (.sl .rat)]),(1,false,[.d (.int .i64)]),(5,false,[.d (.int .i64)])] 27 0,[]⟩,[],[(.ret,⟨mkSlots [(4,false,[.d (.int .i64)])] 27 0,[]⟩,[]),(.exit 0,⟨mkSlots [(1,false,[.d (.int .i64)])] 27 0,[]⟩,[])]⟩
noncomputable def S_q4_0_w (x:Tys D_q4_0.head.ks):Option (OutT D_q4_0.outs):=@whileO ((List Rt) × Int × Int × Unit) ((Int × Unit) ⊕ (Int × Unit)) S_laws_szRatS_0 x
noncomputable def E_q4:Env:=⟨layD,[(52,c_q3)],[(5,mkLM D_q4_0 S_q4_0_w)],[]⟩
theorem cons_q4:ConsOk Tryz.prog FX E_q4.cons:=consOk_cons m_q3 (callable_of Tryz.func52 (by kernel_rfl)) rfl (consOk_nil)
theorem S_q4_0_ok (x:Tys D_q4_0.head.ks):stepL E_q4 D_q4_0 body_q4_0 x=S_laws_szRatS_0 x:=by kernel_rfl
theorem loops_q4_0:loopsIn body_q4_0=[]:=by kernel_rfl
theorem l_q4_0:LoopOk Tryz.prog FX (mkLM D_q4_0 S_q4_0_w) body_q4_0:=loop_ok2 mix layD_ok cons_q4 (by kernel_rfl) (loops_mem loops_q4_0 (trivial)) S_q4_0_ok fun _ _ h=>h
theorem loops_q4:loopsIn code_q4=[body_q4_0]:=by kernel_rfl
theorem m_q4:Meets Tryz.prog FX 23 c_q4:=meets_of (E:=E_q4) (code:=code_q4) mix layD_ok cons_q4 Tryz.func23 (by kernel_rfl) sg_q4 (by kernel_rfl) (fun y=>y.1) c_q4.out (fun _=>rfl) c_q4.run (fun x=>by kernel_rfl) (by kernel_rfl) (loops_mem loops_q4 (⟨⟨_,by kernel_rfl,l_q4_0⟩,trivial⟩))
noncomputable def sg_q5:Sig:=⟨[(true,[.d (.int .i64),.d (.int .i64),.d (.sl .rat)]),(false,[.d (.int .i64)])],[],false,[(false,[.d (.int .i64)])],[]⟩
noncomputable def c_q5:Con:=⟨sg_q5,Int,fun x=>M_laws_szMatrix (⟨x.1,x.2.1,x.2.2.1⟩:Mx) x.2.2.2.1,fun r=>(r,())⟩
noncomputable def code_q5:Code:=Tryz.f8.body.getD .skip
noncomputable def E_q5:Env:=⟨layD,[(23,c_q4)],[],[]⟩
theorem cons_q5:ConsOk Tryz.prog FX E_q5.cons:=consOk_cons m_q4 (callable_of Tryz.func23 (by kernel_rfl)) rfl (consOk_nil)
theorem loops_q5:loopsIn code_q5=[]:=by kernel_rfl
theorem m_q5:Meets Tryz.prog FX 8 c_q5:=meets_of (E:=E_q5) (code:=code_q5) mix layD_ok cons_q5 Tryz.func8 (by kernel_rfl) sg_q5 (by kernel_rfl) (fun y=>y.1) c_q5.out (fun _=>rfl) c_q5.run (fun x=>by kernel_rfl) (by kernel_rfl) (loops_mem loops_q5 (trivial))
noncomputable def sg_q6:Sig:=⟨[(false,[.d (.sl .int)])],[],false,[(false,[.own 0])],[(0,.arr false .int)]⟩
noncomputable def c_q6:Con:=⟨sg_q6,List Int,fun x=>M_laws_toIntS x.1,fun r=>(r,())⟩
noncomputable def code_q6:Code:=Tryz.f103.body.getD .skip
noncomputable def body_q6_0:Code:=(loopsIn code_q6).getD 0 .skip
noncomputable def D_q6_0:LoopD:=⟨⟨mkSlots [(0,false,[.d (.sl .int)]),(3,false,[.own 1472]),(4,false,[.d (.int .i64)])] 22 0,[(1472,.arr false .int)]⟩,[],[(.exit 0,⟨mkSlots [(3,false,[.own 1472])] 22 0,[(1472,.arr false .int)]⟩,[])]⟩
noncomputable def S_q6_0_w (x:Tys D_q6_0.head.ks):Option (OutT D_q6_0.outs):=@whileO ((List Int) × Int × (List Int) × Unit) ((List Int) × Unit) S_laws_toIntS_0 x
noncomputable def E_q6:Env:=⟨layD,[],[(3,mkLM D_q6_0 S_q6_0_w)],[]⟩
theorem cons_q6:ConsOk Tryz.prog FX E_q6.cons:=consOk_nil
theorem S_q6_0_ok (x:Tys D_q6_0.head.ks):stepL E_q6 D_q6_0 body_q6_0 x=S_laws_toIntS_0 x:=by kernel_rfl
theorem loops_q6_0:loopsIn body_q6_0=[]:=by kernel_rfl
theorem l_q6_0:LoopOk Tryz.prog FX (mkLM D_q6_0 S_q6_0_w) body_q6_0:=loop_ok2 mix layD_ok cons_q6 (by kernel_rfl) (loops_mem loops_q6_0 (trivial)) S_q6_0_ok fun _ _ h=>h
theorem loops_q6:loopsIn code_q6=[body_q6_0]:=by kernel_rfl
theorem m_q6:Meets Tryz.prog FX 103 c_q6:=meets_of (E:=E_q6) (code:=code_q6) mix layD_ok cons_q6 Tryz.func103 (by kernel_rfl) sg_q6 (by kernel_rfl) (fun y=>y.1) c_q6.out (fun _=>rfl) c_q6.run (fun x=>by kernel_rfl) (by kernel_rfl) (loops_mem loops_q6 (⟨⟨_,by kernel_rfl,l_q6_0⟩,trivial⟩))
noncomputable def sg_q7:Sig:=⟨[(true,[.d (.bool),.d (.sl .int)])],[],false,[(true,[.d (.bool),.own 0])],[(0,.arr false .int)]⟩
noncomputable def c_q7:Con:=⟨sg_q7,Bg,fun x=>M_laws_toBigInt (⟨x.1,x.2.1⟩:Bg),fun r=>(r.neg,r.mag,())⟩
noncomputable def code_q7:Code:=Tryz.f102.body.getD .skip
noncomputable def E_q7:Env:=⟨layD,[(103,c_q6)],[],[]⟩
theorem cons_q7:ConsOk Tryz.prog FX E_q7.cons:=consOk_cons m_q6 (callable_of Tryz.func103 (by kernel_rfl)) rfl (consOk_nil)
theorem loops_q7:loopsIn code_q7=[]:=by kernel_rfl
theorem m_q7:Meets Tryz.prog FX 102 c_q7:=meets_of (E:=E_q7) (code:=code_q7) mix layD_ok cons_q7 Tryz.func102 (by kernel_rfl) sg_q7 (by kernel_rfl) (fun y=>(⟨y.1,y.2.1⟩:Bg)) c_q7.out (fun _=>rfl) c_q7.run (fun x=>by kernel_rfl) (by kernel_rfl) (loops_mem loops_q7 (trivial))
noncomputable def sg_q8:Sig:=⟨[(true,[.d (.bool),.d (.sl .int),.d (.sl .int)])],[],false,[(true,[.d (.bool),.own 0,.own 1])],[(0,.arr false .int),(1,.arr false .int)]⟩
noncomputable def c_q8:Con:=⟨sg_q8,Rt,fun x=>M_laws_toRat (⟨x.1,x.2.1,x.2.2.1⟩:Rt),fun r=>(r.neg,r.mag,r.den,())⟩
noncomputable def code_q8:Code:=Tryz.f55.body.getD .skip
noncomputable def E_q8:Env:=⟨layD,[(102,c_q7),(103,c_q6)],[],[]⟩
theorem cons_q8:ConsOk Tryz.prog FX E_q8.cons:=consOk_cons m_q7 (callable_of Tryz.func102 (by kernel_rfl)) rfl (consOk_cons m_q6 (callable_of Tryz.func103 (by kernel_rfl)) rfl (consOk_nil))
theorem loops_q8:loopsIn code_q8=[]:=by kernel_rfl
theorem m_q8:Meets Tryz.prog FX 55 c_q8:=meets_of (E:=E_q8) (code:=code_q8) mix layD_ok cons_q8 Tryz.func55 (by kernel_rfl) sg_q8 (by kernel_rfl) (fun y=>(⟨y.1,y.2.1,y.2.2.1⟩:Rt)) c_q8.out (fun _=>rfl) c_q8.run (fun x=>by kernel_rfl) (by kernel_rfl) (loops_mem loops_q8 (trivial))
noncomputable def sg_q9:Sig:=⟨[(false,[.d (.sl .rat)])],[],false,[(false,[.dp 0])],[(0,.deep .rat)]⟩
noncomputable def c_q9:Con:=⟨sg_q9,List Rt,fun x=>M_laws_toRatS x.1,fun r=>(r,())⟩
noncomputable def code_q9:Code:=Tryz.f25.body.getD .skip
noncomputable def body_q9_0:Code:=(loopsIn code_q9).getD 0 .skip
noncomputable def D_q9_0:LoopD:=⟨⟨mkSlots [(0,false,[.d (.sl .rat)]),(3,false,[.dp 1536]),(4,false,[.d (.int .i64)])] 23 0,[(1536,.deep .rat)]⟩,[],[(.exit 0,⟨mkSlots [(3,false,[.dp 1536])] 23 0,[(1536,.deep .rat)]⟩,[])]⟩
noncomputable def S_q9_0_w (x:Tys D_q9_0.head.ks):Option (OutT D_q9_0.outs):=@whileO ((List Rt) × Int × (List Rt) × Unit) ((List Rt) × Unit) S_laws_toRatS_0 x
noncomputable def E_q9:Env:=⟨layD,[(55,c_q8)],[(3,mkLM D_q9_0 S_q9_0_w)],[]⟩
theorem cons_q9:ConsOk Tryz.prog FX E_q9.cons:=consOk_cons m_q8 (callable_of Tryz.func55 (by kernel_rfl)) rfl (consOk_nil)
theorem S_q9_0_ok (x:Tys D_q9_0.head.ks):stepL E_q9 D_q9_0 body_q9_0 x=S_laws_toRatS_0 x:=by kernel_rfl
theorem loops_q9_0:loopsIn body_q9_0=[]:=by kernel_rfl
theorem l_q9_0:LoopOk Tryz.prog FX (mkLM D_q9_0 S_q9_0_w) body_q9_0:=loop_ok2 mix layD_ok cons_q9 (by kernel_rfl) (loops_mem loops_q9_0 (trivial)) S_q9_0_ok fun _ _ h=>h
theorem loops_q9:loopsIn code_q9=[body_q9_0]:=by kernel_rfl
theorem m_q9:Meets Tryz.prog FX 25 c_q9:=meets_of (E:=E_q9) (code:=code_q9) mix layD_ok cons_q9 Tryz.func25 (by kernel_rfl) sg_q9 (by kernel_rfl) (fun y=>y.1) c_q9.out (fun _=>rfl) c_q9.run (fun x=>by kernel_rfl) (by kernel_rfl) (loops_mem loops_q9 (⟨⟨_,by kernel_rfl,l_q9_0⟩,trivial⟩))
noncomputable def sg_q10:Sig:=⟨[(true,[.d (.int .i64),.d (.int .i64),.d (.sl .rat)])],[],false,[(true,[.d (.int .i64),.d (.int .i64),.dp 0])],[(0,.deep .rat)]⟩
noncomputable def c_q10:Con:=⟨sg_q10,Mx,fun x=>M_laws_toMatrix (⟨x.1,x.2.1,x.2.2.1⟩:Mx),fun r=>(r.rows,r.cols,r.cells,())⟩
noncomputable def code_q10:Code:=Tryz.f10.body.getD .skip
noncomputable def E_q10:Env:=⟨layD,[(25,c_q9)],[],[]⟩
theorem cons_q10:ConsOk Tryz.prog FX E_q10.cons:=consOk_cons m_q9 (callable_of Tryz.func25 (by kernel_rfl)) rfl (consOk_nil)
theorem loops_q10:loopsIn code_q10=[]:=by kernel_rfl
theorem m_q10:Meets Tryz.prog FX 10 c_q10:=meets_of (E:=E_q10) (code:=code_q10) mix layD_ok cons_q10 Tryz.func10 (by kernel_rfl) sg_q10 (by kernel_rfl) (fun y=>(⟨y.1,y.2.1,y.2.2.1⟩:Mx)) c_q10.out (fun _=>rfl) c_q10.run (fun x=>by kernel_rfl) (by kernel_rfl) (loops_mem loops_q10 (trivial))
noncomputable def sg_q11:Sig:=⟨[(false,[.d (.int .i64)]),(false,[.d (.int .i64)]),(false,[.d (.int .i64)])],[],false,[(false,[.d (.bool)])],[]⟩
noncomputable def c_q11:Con:=⟨sg_q11,Bool,fun x=>M_spec_l01In x.1 x.2.1 x.2.2.1,fun r=>(r,())⟩
noncomputable def code_q11:Code:=Tryz.f70.body.getD .skip
noncomputable def E_q11:Env:=⟨layD,[],[],[]⟩
theorem cons_q11:ConsOk Tryz.prog FX E_q11.cons:=consOk_nil
theorem loops_q11:loopsIn code_q11=[]:=by kernel_rfl
theorem m_q11:Meets Tryz.prog FX 70 c_q11:=meets_of (E:=E_q11) (code:=code_q11) mix layD_ok cons_q11 Tryz.func70 (by kernel_rfl) sg_q11 (by kernel_rfl) (fun y=>y.1) c_q11.out (fun _=>rfl) c_q11.run (fun x=>by kernel_rfl) (by kernel_rfl) (loops_mem loops_q11 (trivial))
noncomputable def sg_q12:Sig:=⟨[(false,[.d (.sl .int)])],[],false,[(false,[.d (.bool)])],[]⟩
noncomputable def c_q12:Con:=⟨sg_q12,Bool,fun x=>M_spec_NatOk x.1,fun r=>(r,())⟩
noncomputable def code_q12:Code:=Tryz.f114.body.getD .skip
noncomputable def body_q12_0:Code:=(loopsIn code_q12).getD 0 .skip
noncomputable def D_q12_0:LoopD:=⟨⟨mkSlots [(0,false,[.d (.sl .int)]),(5,false,[.d (.sl .int)]),(6,false,[.d (.int .i64)]),(7,false,[.d (.int .i64)])] 32 0,[]⟩,[],[(.ret,⟨mkSlots [(2,false,[.d (.bool)])] 32 0,[]⟩,[]),(.exit 0,⟨mkSlots [(0,false,[.d (.sl .int)])] 32 0,[]⟩,[])]⟩
noncomputable def S_q12_0_w (x:Tys D_q12_0.head.ks):Option (OutT D_q12_0.outs):=@whileO ((List Int) × (List Int) × Int × Int × Unit) ((Bool × Unit) ⊕ ((List Int) × Unit)) S_spec_NatOk_0 x
noncomputable def E_q12:Env:=⟨layD,[(70,c_q11)],[(2,mkLM D_q12_0 S_q12_0_w)],[]⟩
theorem cons_q12:ConsOk Tryz.prog FX E_q12.cons:=consOk_cons m_q11 (callable_of Tryz.func70 (by kernel_rfl)) rfl (consOk_nil)
theorem S_q12_0_ok (x:Tys D_q12_0.head.ks):stepL E_q12 D_q12_0 body_q12_0 x=S_spec_NatOk_0 x:=by kernel_rfl
theorem loops_q12_0:loopsIn body_q12_0=[]:=by kernel_rfl
theorem l_q12_0:LoopOk Tryz.prog FX (mkLM D_q12_0 S_q12_0_w) body_q12_0:=loop_ok2 mix layD_ok cons_q12 (by kernel_rfl) (loops_mem loops_q12_0 (trivial)) S_q12_0_ok fun _ _ h=>h
theorem loops_q12:loopsIn code_q12=[body_q12_0]:=by kernel_rfl
theorem m_q12:Meets Tryz.prog FX 114 c_q12:=meets_of (E:=E_q12) (code:=code_q12) mix layD_ok cons_q12 Tryz.func114 (by kernel_rfl) sg_q12 (by kernel_rfl) (fun y=>y.1) c_q12.out (fun _=>rfl) c_q12.run (fun x=>by kernel_rfl) (by kernel_rfl) (loops_mem loops_q12 (⟨⟨_,by kernel_rfl,l_q12_0⟩,trivial⟩))
noncomputable def sg_q13:Sig:=⟨[(true,[.d (.bool),.d (.sl .int)])],[],false,[(false,[.d (.bool)])],[]⟩
noncomputable def c_q13:Con:=⟨sg_q13,Bool,fun x=>M_spec_BigIntOk (⟨x.1,x.2.1⟩:Bg),fun r=>(r,())⟩
noncomputable def code_q13:Code:=Tryz.f113.body.getD .skip
noncomputable def E_q13:Env:=⟨layD,[(114,c_q12)],[],[]⟩
theorem cons_q13:ConsOk Tryz.prog FX E_q13.cons:=consOk_cons m_q12 (callable_of Tryz.func114 (by kernel_rfl)) rfl (consOk_nil)
theorem loops_q13:loopsIn code_q13=[]:=by kernel_rfl
theorem m_q13:Meets Tryz.prog FX 113 c_q13:=meets_of (E:=E_q13) (code:=code_q13) mix layD_ok cons_q13 Tryz.func113 (by kernel_rfl) sg_q13 (by kernel_rfl) (fun y=>y.1) c_q13.out (fun _=>rfl) c_q13.run (fun x=>by kernel_rfl) (by kernel_rfl) (loops_mem loops_q13 (trivial))
noncomputable def sg_q14:Sig:=⟨[(false,[.d (.sl .int)]),(false,[.d (.sl .int)])],[],false,[(false,[.d (.int .i64)])],[]⟩
noncomputable def c_q14:Con:=⟨sg_q14,Int,fun x=>M_spec_l02Cmp x.1 x.2.1,fun r=>(r,())⟩
noncomputable def code_q14:Code:=Tryz.f149.body.getD .skip
noncomputable def body_q14_0:Code:=(loopsIn code_q14).getD 0 .skip
noncomputable def D_q14_0:LoopD:=⟨⟨mkSlots [(0,false,[.d (.sl .int)]),(1,false,[.d (.sl .int)]),(5,false,[.d (.int .i64)])] 41 0,[]⟩,[],[(.ret,⟨mkSlots [(4,false,[.d (.int .i64)])] 41 0,[]⟩,[]),(.exit 0,⟨mkSlots [] 41 0,[]⟩,[])]⟩
noncomputable def S_q14_0_w (x:Tys D_q14_0.head.ks):Option (OutT D_q14_0.outs):=@whileO ((List Int) × (List Int) × Int × Unit) ((Int × Unit) ⊕ (Unit)) S_spec_l02Cmp_0 x
noncomputable def E_q14:Env:=⟨layD,[],[(6,mkLM D_q14_0 S_q14_0_w)],[(8,[(0,[]),(1,[]),(2,[]),(3,[]),(4,[]),(5,[]),(6,[]),(7,[]),(8,[])]),(10,[(0,[]),(1,[]),(2,[]),(3,[]),(4,[]),(5,[]),(6,[]),(7,[]),(8,[])])]⟩
theorem cons_q14:ConsOk Tryz.prog FX E_q14.cons:=consOk_nil
theorem S_q14_0_ok (x:Tys D_q14_0.head.ks):stepL E_q14 D_q14_0 body_q14_0 x=S_spec_l02Cmp_0 x:=by kernel_rfl
theorem loops_q14_0:loopsIn body_q14_0=[]:=by kernel_rfl
theorem l_q14_0:LoopOk Tryz.prog FX (mkLM D_q14_0 S_q14_0_w) body_q14_0:=loop_ok2 mix layD_ok cons_q14 (by kernel_rfl) (loops_mem loops_q14_0 (trivial)) S_q14_0_ok fun _ _ h=>h
theorem loops_q14:loopsIn code_q14=[body_q14_0]:=by kernel_rfl
theorem m_q14:Meets Tryz.prog FX 149 c_q14:=meets_of (E:=E_q14) (code:=code_q14) mix layD_ok cons_q14 Tryz.func149 (by kernel_rfl) sg_q14 (by kernel_rfl) (fun y=>y.1) c_q14.out (fun _=>rfl) c_q14.run (fun x=>by kernel_rfl) (by kernel_rfl) (loops_mem loops_q14 (⟨⟨_,by kernel_rfl,l_q14_0⟩,trivial⟩))
noncomputable def sg_q15:Sig:=⟨[(false,[.d (.sl .int)])],[],true,[(false,[.d (.int .i64)]),(false,[.d (.bool)])],[]⟩
noncomputable def c_q15:Con:=⟨sg_q15,Int × Bool,fun x=>M_spec_NatToInt x.1,fun r=>(r.1,r.2,())⟩
noncomputable def code_q15:Code:=Tryz.f136.body.getD .skip
noncomputable def body_q15_0:Code:=(loopsIn code_q15).getD 0 .skip
noncomputable def D_q15_0:LoopD:=⟨⟨mkSlots [(0,false,[.d (.sl .int)]),(4,false,[.d (.int .i64)]),(5,false,[.d (.int .i64)])] 30 0,[]⟩,[],[(.exit 0,⟨mkSlots [(4,false,[.d (.int .i64)])] 30 0,[]⟩,[])]⟩
noncomputable def S_q15_0_w (x:Tys D_q15_0.head.ks):Option (OutT D_q15_0.outs):=@whileO ((List Int) × Int × Int × Unit) (Int × Unit) S_spec_NatToInt_0 x
noncomputable def E_q15:Env:=⟨layD,[(114,c_q12),(149,c_q14)],[(5,mkLM D_q15_0 S_q15_0_w)],[]⟩
theorem cons_q15:ConsOk Tryz.prog FX E_q15.cons:=consOk_cons m_q12 (callable_of Tryz.func114 (by kernel_rfl)) rfl (consOk_cons m_q14 (callable_of Tryz.func149 (by kernel_rfl)) rfl (consOk_nil))
theorem S_q15_0_ok (x:Tys D_q15_0.head.ks):stepL E_q15 D_q15_0 body_q15_0 x=S_spec_NatToInt_0 x:=by kernel_rfl
theorem loops_q15_0:loopsIn body_q15_0=[]:=by kernel_rfl
theorem l_q15_0:LoopOk Tryz.prog FX (mkLM D_q15_0 S_q15_0_w) body_q15_0:=loop_ok2 mix layD_ok cons_q15 (by kernel_rfl) (loops_mem loops_q15_0 (trivial)) S_q15_0_ok fun _ _ h=>h
theorem loops_q15:loopsIn code_q15=[body_q15_0]:=by kernel_rfl
theorem m_q15:Meets Tryz.prog FX 136 c_q15:=meets_of (E:=E_q15) (code:=code_q15) mix layD_ok cons_q15 Tryz.func136 (by kernel_rfl) sg_q15 (by kernel_rfl) (fun y=>(y.1,y.2.1)) c_q15.out (fun _=>rfl) c_q15.run (fun x=>by kernel_rfl) (by kernel_rfl) (loops_mem loops_q15 (⟨⟨_,by kernel_rfl,l_q15_0⟩,trivial⟩))
noncomputable def sg_q16:Sig:=⟨[(false,[.d (.int .i64)])],[],false,[(false,[.own 0])],[(0,.arr false .int)]⟩
noncomputable def c_q16:Con:=⟨sg_q16,List Int,fun x=>M_spec_NatOf x.1,fun r=>(r,())⟩
noncomputable def code_q16:Code:=Tryz.f133.body.getD .skip
noncomputable def body_q16_0:Code:=(loopsIn code_q16).getD 0 .skip
noncomputable def D_q16_0:LoopD:=⟨⟨mkSlots [(0,false,[.d (.int .i64)]),(3,false,[.own 1024])] 15 0,[(1024,.arr false .int)]⟩,[(.slot 3 0,1024,.int)],[(.exit 0,⟨mkSlots [(3,false,[.own 1024])] 15 0,[(1024,.arr false .int)]⟩,[(.slot 3 0,1024,.int)])]⟩
noncomputable def S_q16_0_w (x:Tys D_q16_0.head.ks):Option (OutT D_q16_0.outs):=@whileO (Int × (List Int) × Unit) ((List Int) × Unit) S_spec_NatOf_0 x
noncomputable def E_q16:Env:=⟨layD,[],[(2,mkLM D_q16_0 S_q16_0_w)],[]⟩
theorem cons_q16:ConsOk Tryz.prog FX E_q16.cons:=consOk_nil
theorem S_q16_0_ok (x:Tys D_q16_0.head.ks):stepL E_q16 D_q16_0 body_q16_0 x=S_spec_NatOf_0 x:=by kernel_rfl
theorem loops_q16_0:loopsIn body_q16_0=[]:=by kernel_rfl
theorem l_q16_0:LoopOk Tryz.prog FX (mkLM D_q16_0 S_q16_0_w) body_q16_0:=loop_ok2 mix layD_ok cons_q16 (by kernel_rfl) (loops_mem loops_q16_0 (trivial)) S_q16_0_ok fun _ _ h=>h
theorem loops_q16:loopsIn code_q16=[body_q16_0]:=by kernel_rfl
theorem m_q16:Meets Tryz.prog FX 133 c_q16:=meets_of (E:=E_q16) (code:=code_q16) mix layD_ok cons_q16 Tryz.func133 (by kernel_rfl) sg_q16 (by kernel_rfl) (fun y=>y.1) c_q16.out (fun _=>rfl) c_q16.run (fun x=>by kernel_rfl) (by kernel_rfl) (loops_mem loops_q16 (⟨⟨_,by kernel_rfl,l_q16_0⟩,trivial⟩))
noncomputable def sg_q17:Sig:=⟨[(false,[.d (.int .i64)]),(false,[.d (.int .i64)])],[],false,[(false,[.own 0])],[(0,.arr false .int)]⟩
noncomputable def c_q17:Con:=⟨sg_q17,List Int,fun x=>M_spec_l02Plain x.1 x.2.1,fun r=>(r,())⟩
noncomputable def code_q17:Code:=Tryz.f137.body.getD .skip
noncomputable def body_q17_0:Code:=(loopsIn code_q17).getD 0 .skip
noncomputable def D_q17_0:LoopD:=⟨⟨mkSlots [(0,false,[.d (.int .i64)]),(1,false,[.d (.int .i64)])] 15 0,[]⟩,[],[(.exit 0,⟨mkSlots [(0,false,[.d (.int .i64)])] 15 0,[]⟩,[])]⟩
noncomputable def S_q17_0_w (x:Tys D_q17_0.head.ks):Option (OutT D_q17_0.outs):=@whileO (Int × Int × Unit) (Int × Unit) S_spec_l02Plain_0 x
noncomputable def E_q17:Env:=⟨layD,[(133,c_q16)],[(1,mkLM D_q17_0 S_q17_0_w)],[]⟩
theorem cons_q17:ConsOk Tryz.prog FX E_q17.cons:=consOk_cons m_q16 (callable_of Tryz.func133 (by kernel_rfl)) rfl (consOk_nil)
theorem S_q17_0_ok (x:Tys D_q17_0.head.ks):stepL E_q17 D_q17_0 body_q17_0 x=S_spec_l02Plain_0 x:=by kernel_rfl
theorem loops_q17_0:loopsIn body_q17_0=[]:=by kernel_rfl
theorem l_q17_0:LoopOk Tryz.prog FX (mkLM D_q17_0 S_q17_0_w) body_q17_0:=loop_ok2 mix layD_ok cons_q17 (by kernel_rfl) (loops_mem loops_q17_0 (trivial)) S_q17_0_ok fun _ _ h=>h
theorem loops_q17:loopsIn code_q17=[body_q17_0]:=by kernel_rfl
theorem m_q17:Meets Tryz.prog FX 137 c_q17:=meets_of (E:=E_q17) (code:=code_q17) mix layD_ok cons_q17 Tryz.func137 (by kernel_rfl) sg_q17 (by kernel_rfl) (fun y=>y.1) c_q17.out (fun _=>rfl) c_q17.run (fun x=>by kernel_rfl) (by kernel_rfl) (loops_mem loops_q17 (⟨⟨_,by kernel_rfl,l_q17_0⟩,trivial⟩))
noncomputable def sg_q18:Sig:=⟨[(false,[.own 0])],[(0,.arr false .int)],false,[(false,[.own 0])],[(0,.arr false .int)]⟩
noncomputable def c_q18:Con:=⟨sg_q18,List Int,fun x=>M_spec_l02Trim_c x.1,fun r=>(r,())⟩
noncomputable def code_q18:Code:=Tryz.f139.body.getD .skip
noncomputable def body_q18_0:Code:=(loopsIn code_q18).getD 0 .skip
noncomputable def D_q18_0:LoopD:=⟨⟨mkSlots [(0,false,[.own 1408]),(3,false,[.d (.int .i64)])] 21 0,[(1408,.arr false .int)]⟩,[],[(.exit 0,⟨mkSlots [(0,false,[.own 1408]),(3,false,[.d (.int .i64)])] 21 0,[(1408,.arr false .int)]⟩,[])]⟩
noncomputable def S_q18_0_w (x:Tys D_q18_0.head.ks):Option (OutT D_q18_0.outs):=@whileO (Int × (List Int) × Unit) (Int × (List Int) × Unit) S_spec_l02Trim_c_0 x
noncomputable def E_q18:Env:=⟨layD,[],[(2,mkLM D_q18_0 S_q18_0_w)],[]⟩
theorem cons_q18:ConsOk Tryz.prog FX E_q18.cons:=consOk_nil
theorem S_q18_0_ok (x:Tys D_q18_0.head.ks):stepL E_q18 D_q18_0 body_q18_0 x=S_spec_l02Trim_c_0 x:=by kernel_rfl
theorem loops_q18_0:loopsIn body_q18_0=[]:=by kernel_rfl
theorem l_q18_0:LoopOk Tryz.prog FX (mkLM D_q18_0 S_q18_0_w) body_q18_0:=loop_ok2 mix layD_ok cons_q18 (by kernel_rfl) (loops_mem loops_q18_0 (trivial)) S_q18_0_ok fun _ _ h=>h
theorem loops_q18:loopsIn code_q18=[body_q18_0]:=by kernel_rfl
theorem m_q18:Meets Tryz.prog FX 139 c_q18:=meets_of (E:=E_q18) (code:=code_q18) mix layD_ok cons_q18 Tryz.func139 (by kernel_rfl) sg_q18 (by kernel_rfl) (fun y=>y.1) c_q18.out (fun _=>rfl) c_q18.run (fun x=>by kernel_rfl) (by kernel_rfl) (loops_mem loops_q18 (⟨⟨_,by kernel_rfl,l_q18_0⟩,trivial⟩))
noncomputable def sg_q19:Sig:=⟨[(false,[.d (.sl .int)]),(false,[.d (.int .i64)])],[],true,[(false,[.own 0]),(false,[.d (.int .i64)])],[(0,.arr false .int)]⟩
noncomputable def c_q19:Con:=⟨sg_q19,List Int × Int,fun x=>M_spec_l02Small x.1 x.2.1,fun r=>(r.2,r.1,())⟩
noncomputable def code_q19:Code:=Tryz.f150.body.getD .skip
noncomputable def body_q19_0:Code:=(loopsIn code_q19).getD 0 .skip
noncomputable def D_q19_0:LoopD:=⟨⟨mkSlots [(0,false,[.d (.sl .int)]),(1,false,[.d (.int .i64)]),(6,false,[.own 2560]),(7,false,[.d (.int .i64)]),(8,false,[.d (.int .i64)])] 39 0,[(2560,.arr false .int)]⟩,[],[(.exit 0,⟨mkSlots [(6,false,[.own 2560]),(7,false,[.d (.int .i64)])] 39 0,[(2560,.arr false .int)]⟩,[])]⟩
noncomputable def S_q19_0_w (x:Tys D_q19_0.head.ks):Option (OutT D_q19_0.outs):=@whileO ((List Int) × Int × Int × Int × (List Int) × Unit) (Int × (List Int) × Unit) S_spec_l02Small_0 x
noncomputable def E_q19:Env:=⟨layD,[(139,c_q18)],[(4,mkLM D_q19_0 S_q19_0_w)],[]⟩
theorem cons_q19:ConsOk Tryz.prog FX E_q19.cons:=consOk_cons m_q18 (callable_of Tryz.func139 (by kernel_rfl)) rfl (consOk_nil)
theorem S_q19_0_ok (x:Tys D_q19_0.head.ks):stepL E_q19 D_q19_0 body_q19_0 x=S_spec_l02Small_0 x:=by kernel_rfl
theorem loops_q19_0:loopsIn body_q19_0=[]:=by kernel_rfl
theorem l_q19_0:LoopOk Tryz.prog FX (mkLM D_q19_0 S_q19_0_w) body_q19_0:=loop_ok2 mix layD_ok cons_q19 (by kernel_rfl) (loops_mem loops_q19_0 (trivial)) S_q19_0_ok fun _ _ h=>h
theorem loops_q19:loopsIn code_q19=[body_q19_0]:=by kernel_rfl
theorem m_q19:Meets Tryz.prog FX 150 c_q19:=meets_of (E:=E_q19) (code:=code_q19) mix layD_ok cons_q19 Tryz.func150 (by kernel_rfl) sg_q19 (by kernel_rfl) (fun y=>(y.2.1,y.1)) c_q19.out (fun _=>rfl) c_q19.run (fun x=>by kernel_rfl) (by kernel_rfl) (loops_mem loops_q19 (⟨⟨_,by kernel_rfl,l_q19_0⟩,trivial⟩))
noncomputable def sg_q20:Sig:=⟨[(false,[.d (.sl .int)]),(false,[.d (.sl .int)])],[],false,[(false,[.own 0])],[(0,.arr false .int)]⟩
noncomputable def c_q20:Con:=⟨sg_q20,List Int,fun x=>M_spec_l02Mul x.1 x.2.1,fun r=>(r,())⟩
noncomputable def code_q20:Code:=Tryz.f118.body.getD .skip
noncomputable def body_q20_0:Code:=(loopsIn code_q20).getD 0 .skip
noncomputable def body_q20_1:Code:=(loopsIn body_q20_0).getD 0 .skip
noncomputable def D_q20_0:LoopD:=⟨⟨mkSlots [(1,false,[.d (.sl .int)]),(5,false,[.own 4672]),(26,false,[.d (.sl .int)]),(27,false,[.d (.int .i64)]),(28,false,[.d (.int .i64)])] 72 0,[(4672,.arr false .int)]⟩,[],[(.exit 0,⟨mkSlots [(5,false,[.own 4672])] 72 0,[(4672,.arr false .int)]⟩,[])]⟩
noncomputable def D_q20_1:LoopD:=⟨⟨mkSlots [(1,false,[.d (.sl .int)]),(5,false,[.own 4672]),(6,false,[.d (.int .i64)]),(7,false,[.d (.int .i64)]),(8,false,[.d (.int .i64)]),(26,false,[.d (.sl .int)]),(27,false,[.d (.int .i64)]),(28,false,[.d (.int .i64)]),(33,false,[.d (.sl .int)]),(34,false,[.d (.int .i64)]),(35,false,[.d (.int .i64)])] 72 0,[(4672,.arr false .int)]⟩,[],[(.exit 2,⟨mkSlots [(1,false,[.d (.sl .int)]),(5,false,[.own 4672]),(6,false,[.d (.int .i64)]),(8,false,[.d (.int .i64)]),(26,false,[.d (.sl .int)]),(27,false,[.d (.int .i64)]),(28,false,[.d (.int .i64)])] 72 0,[(4672,.arr false .int)]⟩,[])]⟩
noncomputable def S_q20_0_w (x:Tys D_q20_0.head.ks):Option (OutT D_q20_0.outs):=@whileO ((List Int) × (List Int) × Int × Int × (List Int) × Unit) ((List Int) × Unit) S_spec_l02Mul_0 x
noncomputable def S_q20_1_w (x:Tys D_q20_1.head.ks):Option (OutT D_q20_1.outs):=@whileO ((List Int) × Int × Int × Int × (List Int) × Int × Int × (List Int) × Int × Int × (List Int) × Unit) ((List Int) × Int × Int × (List Int) × Int × Int × (List Int) × Unit) S_spec_l02Mul_1 x
noncomputable def E_q20:Env:=⟨layD,[(139,c_q18)],[(5,mkLM D_q20_0 S_q20_0_w),(9,mkLM D_q20_1 S_q20_1_w)],[]⟩
theorem cons_q20:ConsOk Tryz.prog FX E_q20.cons:=consOk_cons m_q18 (callable_of Tryz.func139 (by kernel_rfl)) rfl (consOk_nil)
theorem S_q20_1_ok (x:Tys D_q20_1.head.ks):stepL E_q20 D_q20_1 body_q20_1 x=S_spec_l02Mul_1 x:=by kernel_rfl
theorem loops_q20_1:loopsIn body_q20_1=[]:=by kernel_rfl
theorem l_q20_1:LoopOk Tryz.prog FX (mkLM D_q20_1 S_q20_1_w) body_q20_1:=loop_ok2 mix layD_ok cons_q20 (by kernel_rfl) (loops_mem loops_q20_1 (trivial)) S_q20_1_ok fun _ _ h=>h
theorem S_q20_0_ok (x:Tys D_q20_0.head.ks):stepL E_q20 D_q20_0 body_q20_0 x=S_spec_l02Mul_0 x:=by kernel_rfl
theorem loops_q20_0:loopsIn body_q20_0=[body_q20_1]:=by kernel_rfl
theorem l_q20_0:LoopOk Tryz.prog FX (mkLM D_q20_0 S_q20_0_w) body_q20_0:=loop_ok2 mix layD_ok cons_q20 (by kernel_rfl) (loops_mem loops_q20_0 (⟨⟨_,by kernel_rfl,l_q20_1⟩,trivial⟩)) S_q20_0_ok fun _ _ h=>h
theorem loops_q20:loopsIn code_q20=[body_q20_0]:=by kernel_rfl
theorem m_q20:Meets Tryz.prog FX 118 c_q20:=meets_of (E:=E_q20) (code:=code_q20) mix layD_ok cons_q20 Tryz.func118 (by kernel_rfl) sg_q20 (by kernel_rfl) (fun y=>y.1) c_q20.out (fun _=>rfl) c_q20.run (fun x=>by kernel_rfl) (by kernel_rfl) (loops_mem loops_q20 (⟨⟨_,by kernel_rfl,l_q20_0⟩,trivial⟩))
noncomputable def sg_q21:Sig:=⟨[(false,[.d (.sl .int)]),(false,[.d (.sl .int)])],[],false,[(false,[.d (.int .i64)])],[]⟩
noncomputable def c_q21:Con:=⟨sg_q21,Int,fun x=>M_spec_l02Digit x.1 x.2.1,fun r=>(r,())⟩
noncomputable def code_q21:Code:=Tryz.f151.body.getD .skip
noncomputable def body_q21_0:Code:=(loopsIn code_q21).getD 0 .skip
noncomputable def D_q21_0:LoopD:=⟨⟨mkSlots [(0,false,[.d (.sl .int)]),(1,false,[.d (.sl .int)]),(5,false,[.d (.int .i64)]),(6,false,[.d (.int .i64)])] 27 0,[]⟩,[],[(.exit 0,⟨mkSlots [(5,false,[.d (.int .i64)])] 27 0,[]⟩,[])]⟩
noncomputable def S_q21_0_w (x:Tys D_q21_0.head.ks):Option (OutT D_q21_0.outs):=@whileO ((List Int) × (List Int) × Int × Int × Unit) (Int × Unit) S_spec_l02Digit_0 x
noncomputable def E_q21:Env:=⟨layD,[(133,c_q16),(118,c_q20),(149,c_q14)],[(3,mkLM D_q21_0 S_q21_0_w)],[]⟩
theorem cons_q21:ConsOk Tryz.prog FX E_q21.cons:=consOk_cons m_q16 (callable_of Tryz.func133 (by kernel_rfl)) rfl (consOk_cons m_q20 (callable_of Tryz.func118 (by kernel_rfl)) rfl (consOk_cons m_q14 (callable_of Tryz.func149 (by kernel_rfl)) rfl (consOk_nil)))
theorem S_q21_0_ok (x:Tys D_q21_0.head.ks):stepL E_q21 D_q21_0 body_q21_0 x=S_spec_l02Digit_0 x:=by kernel_rfl
theorem loops_q21_0:loopsIn body_q21_0=[]:=by kernel_rfl
theorem l_q21_0:LoopOk Tryz.prog FX (mkLM D_q21_0 S_q21_0_w) body_q21_0:=loop_ok2 mix layD_ok cons_q21 (by kernel_rfl) (loops_mem loops_q21_0 (trivial)) S_q21_0_ok fun _ _ h=>h
theorem loops_q21:loopsIn code_q21=[body_q21_0]:=by kernel_rfl
theorem m_q21:Meets Tryz.prog FX 151 c_q21:=meets_of (E:=E_q21) (code:=code_q21) mix layD_ok cons_q21 Tryz.func151 (by kernel_rfl) sg_q21 (by kernel_rfl) (fun y=>y.1) c_q21.out (fun _=>rfl) c_q21.run (fun x=>by kernel_rfl) (by kernel_rfl) (loops_mem loops_q21 (⟨⟨_,by kernel_rfl,l_q21_0⟩,trivial⟩))
noncomputable def sg_q23:Sig:=⟨[(false,[.d (.sl .int)]),(false,[.d (.sl .int)])],[],false,[(false,[.own 0])],[(0,.arr false .int)]⟩
noncomputable def c_q23:Con:=⟨sg_q23,List Int,fun x=>M_spec_l02Sub x.1 x.2.1,fun r=>(r,())⟩
noncomputable def code_q23:Code:=Tryz.f152.body.getD .skip
noncomputable def body_q23_0:Code:=(loopsIn code_q23).getD 0 .skip
noncomputable def D_q23_0:LoopD:=⟨⟨mkSlots [(0,false,[.d (.sl .int)]),(1,false,[.d (.sl .int)]),(5,false,[.own 2752]),(6,false,[.d (.int .i64)]),(11,false,[.d (.int .i64)]),(12,false,[.d (.int .i64)])] 42 0,[(2752,.arr false .int)]⟩,[(.slot 5 0,2752,.int)],[(.exit 0,⟨mkSlots [(5,false,[.own 2752])] 42 0,[(2752,.arr false .int)]⟩,[(.slot 5 0,2752,.int)])]⟩
noncomputable def S_q23_0_w (x:Tys D_q23_0.head.ks):Option (OutT D_q23_0.outs):=@whileO ((List Int) × (List Int) × Int × Int × Int × (List Int) × Unit) ((List Int) × Unit) S_spec_l02Sub_0 x
noncomputable def E_q23:Env:=⟨layD,[(139,c_q18)],[(4,mkLM D_q23_0 S_q23_0_w)],[]⟩
theorem cons_q23:ConsOk Tryz.prog FX E_q23.cons:=consOk_cons m_q18 (callable_of Tryz.func139 (by kernel_rfl)) rfl (consOk_nil)
theorem S_q23_0_ok (x:Tys D_q23_0.head.ks):stepL E_q23 D_q23_0 body_q23_0 x=S_spec_l02Sub_0 x:=by kernel_rfl
theorem loops_q23_0:loopsIn body_q23_0=[]:=by kernel_rfl
theorem l_q23_0:LoopOk Tryz.prog FX (mkLM D_q23_0 S_q23_0_w) body_q23_0:=loop_ok2 mix layD_ok cons_q23 (by kernel_rfl) (loops_mem loops_q23_0 (trivial)) S_q23_0_ok fun _ _ h=>h
theorem loops_q23:loopsIn code_q23=[body_q23_0]:=by kernel_rfl
theorem m_q23:Meets Tryz.prog FX 152 c_q23:=meets_of (E:=E_q23) (code:=code_q23) mix layD_ok cons_q23 Tryz.func152 (by kernel_rfl) sg_q23 (by kernel_rfl) (fun y=>y.1) c_q23.out (fun _=>rfl) c_q23.run (fun x=>by kernel_rfl) (by kernel_rfl) (loops_mem loops_q23 (⟨⟨_,by kernel_rfl,l_q23_0⟩,trivial⟩))
noncomputable def sg_q24:Sig:=⟨[(false,[.d (.sl .int)]),(false,[.d (.sl .int)])],[],true,[(false,[.own 0]),(false,[.own 1])],[(0,.arr false .int),(1,.arr false .int)]⟩
noncomputable def c_q24:Con:=⟨sg_q24,List Int × List Int,fun x=>M_spec_l02Div x.1 x.2.1,fun r=>(r.1,r.2,())⟩
noncomputable def code_q24:Code:=Tryz.f138.body.getD .skip
noncomputable def body_q24_0:Code:=(loopsIn code_q24).getD 0 .skip
noncomputable def D_q24_0:LoopD:=⟨⟨mkSlots [(0,false,[.d (.sl .int)]),(1,false,[.d (.sl .int)]),(8,false,[.own 4224]),(9,false,[.own 4288]),(10,false,[.d (.int .i64)])] 65 0,[(4224,.arr false .int),(4288,.arr false .int)]⟩,[(.slot 9 0,4288,.int)],[(.exit 0,⟨mkSlots [(8,false,[.own 4224]),(9,false,[.own 4288])] 65 0,[(4224,.arr false .int),(4288,.arr false .int)]⟩,[(.slot 9 0,4288,.int)])]⟩
noncomputable def S_q24_0_w (x:Tys D_q24_0.head.ks):Option (OutT D_q24_0.outs):=@whileO ((List Int) × (List Int) × Int × (List Int) × (List Int) × Unit) ((List Int) × (List Int) × Unit) S_spec_l02Div_0 x
noncomputable def E_q24:Env:=⟨layD,[(150,c_q19),(133,c_q16),(139,c_q18),(149,c_q14),(151,c_q21),(118,c_q20),(152,c_q23)],[(7,mkLM D_q24_0 S_q24_0_w)],[]⟩
theorem cons_q24:ConsOk Tryz.prog FX E_q24.cons:=consOk_cons m_q19 (callable_of Tryz.func150 (by kernel_rfl)) rfl (consOk_cons m_q16 (callable_of Tryz.func133 (by kernel_rfl)) rfl (consOk_cons m_q18 (callable_of Tryz.func139 (by kernel_rfl)) rfl (consOk_cons m_q14 (callable_of Tryz.func149 (by kernel_rfl)) rfl (consOk_cons m_q21 (callable_of Tryz.func151 (by kernel_rfl)) rfl (consOk_cons m_q20 (callable_of Tryz.func118 (by kernel_rfl)) rfl (consOk_cons m_q23 (callable_of Tryz.func152 (by kernel_rfl)) rfl (consOk_nil)))))))
theorem S_q24_0_ok (x:Tys D_q24_0.head.ks):stepL E_q24 D_q24_0 body_q24_0 x=S_spec_l02Div_0 x:=by kernel_rfl
theorem loops_q24_0:loopsIn body_q24_0=[]:=by kernel_rfl
theorem l_q24_0:LoopOk Tryz.prog FX (mkLM D_q24_0 S_q24_0_w) body_q24_0:=loop_ok2 mix layD_ok cons_q24 (by kernel_rfl) (loops_mem loops_q24_0 (trivial)) S_q24_0_ok fun _ _ h=>h
theorem loops_q24:loopsIn code_q24=[body_q24_0]:=by kernel_rfl
theorem m_q24:Meets Tryz.prog FX 138 c_q24:=meets_of (E:=E_q24) (code:=code_q24) mix layD_ok cons_q24 Tryz.func138 (by kernel_rfl) sg_q24 (by kernel_rfl) (fun y=>(y.1,y.2.1)) c_q24.out (fun _=>rfl) c_q24.run (fun x=>by kernel_rfl) (by kernel_rfl) (loops_mem loops_q24 (⟨⟨_,by kernel_rfl,l_q24_0⟩,trivial⟩))
noncomputable def sg_q25:Sig:=⟨[(false,[.d (.sl .int)]),(false,[.d (.sl .int)])],[],false,[(false,[.own 0])],[(0,.arr false .int)]⟩
noncomputable def c_q25:Con:=⟨sg_q25,List Int,fun x=>M_spec_l02Gcd x.1 x.2.1,fun r=>(r,())⟩
noncomputable def code_q25:Code:=Tryz.f116.body.getD .skip
noncomputable def body_q25_0:Code:=(loopsIn code_q25).getD 0 .skip
noncomputable def D_q25_0:LoopD:=⟨⟨mkSlots [(5,false,[.own 3392]),(6,false,[.own 3456])] 52 0,[(3392,.arr false .int),(3456,.arr false .int)]⟩,[],[(.ret,⟨mkSlots [(4,false,[.own 3520])] 52 0,[(3520,.arr false .int)]⟩,[]),(.exit 0,⟨mkSlots [(5,false,[.own 3392])] 52 0,[(3392,.arr false .int)]⟩,[])]⟩
noncomputable def S_q25_0_w (x:Tys D_q25_0.head.ks):Option (OutT D_q25_0.outs):=@whileO ((List Int) × (List Int) × Unit) (((List Int) × Unit) ⊕ ((List Int) × Unit)) S_spec_l02Gcd_0 x
noncomputable def E_q25:Env:=⟨layD,[(136,c_q15),(137,c_q17),(138,c_q24)],[(3,mkLM D_q25_0 S_q25_0_w)],[]⟩
theorem cons_q25:ConsOk Tryz.prog FX E_q25.cons:=consOk_cons m_q15 (callable_of Tryz.func136 (by kernel_rfl)) rfl (consOk_cons m_q17 (callable_of Tryz.func137 (by kernel_rfl)) rfl (consOk_cons m_q24 (callable_of Tryz.func138 (by kernel_rfl)) rfl (consOk_nil)))
theorem S_q25_0_ok (x:Tys D_q25_0.head.ks):stepL E_q25 D_q25_0 body_q25_0 x=S_spec_l02Gcd_0 x:=by kernel_rfl
theorem loops_q25_0:loopsIn body_q25_0=[]:=by kernel_rfl
theorem l_q25_0:LoopOk Tryz.prog FX (mkLM D_q25_0 S_q25_0_w) body_q25_0:=loop_ok2 mix layD_ok cons_q25 (by kernel_rfl) (loops_mem loops_q25_0 (trivial)) S_q25_0_ok fun _ _ h=>h
theorem loops_q25:loopsIn code_q25=[body_q25_0]:=by kernel_rfl
theorem m_q25:Meets Tryz.prog FX 116 c_q25:=meets_of (E:=E_q25) (code:=code_q25) mix layD_ok cons_q25 Tryz.func116 (by kernel_rfl) sg_q25 (by kernel_rfl) (fun y=>y.1) c_q25.out (fun _=>rfl) c_q25.run (fun x=>by kernel_rfl) (by kernel_rfl) (loops_mem loops_q25 (⟨⟨_,by kernel_rfl,l_q25_0⟩,trivial⟩))
noncomputable def sg_q26:Sig:=⟨[(false,[.d (.sl .int)])],[],false,[(false,[.d (.bool)])],[]⟩
noncomputable def c_q26:Con:=⟨sg_q26,Bool,fun x=>M_spec_l04One x.1,fun r=>(r,())⟩
noncomputable def code_q26:Code:=Tryz.f115.body.getD .skip
noncomputable def E_q26:Env:=⟨layD,[],[],[]⟩
theorem cons_q26:ConsOk Tryz.prog FX E_q26.cons:=consOk_nil
theorem loops_q26:loopsIn code_q26=[]:=by kernel_rfl
theorem m_q26:Meets Tryz.prog FX 115 c_q26:=meets_of (E:=E_q26) (code:=code_q26) mix layD_ok cons_q26 Tryz.func115 (by kernel_rfl) sg_q26 (by kernel_rfl) (fun y=>y.1) c_q26.out (fun _=>rfl) c_q26.run (fun x=>by kernel_rfl) (by kernel_rfl) (loops_mem loops_q26 (trivial))
noncomputable def sg_q27:Sig:=⟨[(true,[.d (.bool),.d (.sl .int),.d (.sl .int)])],[],false,[(false,[.d (.bool)])],[]⟩
noncomputable def c_q27:Con:=⟨sg_q27,Bool,fun x=>M_spec_RatOk (⟨x.1,x.2.1,x.2.2.1⟩:Rt),fun r=>(r,())⟩
noncomputable def code_q27:Code:=Tryz.f71.body.getD .skip
noncomputable def E_q27:Env:=⟨layD,[(113,c_q13),(114,c_q12),(116,c_q25),(115,c_q26)],[],[]⟩
theorem cons_q27:ConsOk Tryz.prog FX E_q27.cons:=consOk_cons m_q13 (callable_of Tryz.func113 (by kernel_rfl)) rfl (consOk_cons m_q12 (callable_of Tryz.func114 (by kernel_rfl)) rfl (consOk_cons m_q25 (callable_of Tryz.func116 (by kernel_rfl)) rfl (consOk_cons m_q26 (callable_of Tryz.func115 (by kernel_rfl)) rfl (consOk_nil))))
theorem loops_q27:loopsIn code_q27=[]:=by kernel_rfl
theorem m_q27:Meets Tryz.prog FX 71 c_q27:=meets_of (E:=E_q27) (code:=code_q27) mix layD_ok cons_q27 Tryz.func71 (by kernel_rfl) sg_q27 (by kernel_rfl) (fun y=>y.1) c_q27.out (fun _=>rfl) c_q27.run (fun x=>by kernel_rfl) (by kernel_rfl) (loops_mem loops_q27 (trivial))
noncomputable def sg_q28:Sig:=⟨[(true,[.d (.int .i64),.d (.int .i64),.d (.sl .rat)])],[],false,[(false,[.d (.bool)])],[]⟩
noncomputable def c_q28:Con:=⟨sg_q28,Bool,fun x=>M_spec_MatrixOk (⟨x.1,x.2.1,x.2.2.1⟩:Mx),fun r=>(r,())⟩
noncomputable def code_q28:Code:=Tryz.f34.body.getD .skip
noncomputable def body_q28_0:Code:=(loopsIn code_q28).getD 0 .skip
noncomputable def D_q28_0:LoopD:=⟨⟨mkSlots [(27,false,[.d (.sl .rat)]),(28,false,[.d (.int .i64)]),(29,false,[.d (.int .i64)])] 37 0,[]⟩,[],[(.ret,⟨mkSlots [(2,false,[.d (.bool)])] 37 0,[]⟩,[]),(.exit 0,⟨mkSlots [] 37 0,[]⟩,[])]⟩
noncomputable def S_q28_0_w (x:Tys D_q28_0.head.ks):Option (OutT D_q28_0.outs):=@whileO ((List Rt) × Int × Int × Unit) ((Bool × Unit) ⊕ (Unit)) S_spec_MatrixOk_0 x
noncomputable def E_q28:Env:=⟨layD,[(70,c_q11),(71,c_q27)],[(4,mkLM D_q28_0 S_q28_0_w)],[]⟩
theorem cons_q28:ConsOk Tryz.prog FX E_q28.cons:=consOk_cons m_q11 (callable_of Tryz.func70 (by kernel_rfl)) rfl (consOk_cons m_q27 (callable_of Tryz.func71 (by kernel_rfl)) rfl (consOk_nil))
theorem S_q28_0_ok (x:Tys D_q28_0.head.ks):stepL E_q28 D_q28_0 body_q28_0 x=S_spec_MatrixOk_0 x:=by kernel_rfl
theorem loops_q28_0:loopsIn body_q28_0=[]:=by kernel_rfl
theorem l_q28_0:LoopOk Tryz.prog FX (mkLM D_q28_0 S_q28_0_w) body_q28_0:=loop_ok2 mix layD_ok cons_q28 (by kernel_rfl) (loops_mem loops_q28_0 (trivial)) S_q28_0_ok fun _ _ h=>h
theorem loops_q28:loopsIn code_q28=[body_q28_0]:=by kernel_rfl
theorem m_q28:Meets Tryz.prog FX 34 c_q28:=meets_of (E:=E_q28) (code:=code_q28) mix layD_ok cons_q28 Tryz.func34 (by kernel_rfl) sg_q28 (by kernel_rfl) (fun y=>y.1) c_q28.out (fun _=>rfl) c_q28.run (fun x=>by kernel_rfl) (by kernel_rfl) (loops_mem loops_q28 (⟨⟨_,by kernel_rfl,l_q28_0⟩,trivial⟩))
noncomputable def sg_q29:Sig:=⟨[(true,[.d (.bool),.d (.sl .int),.d (.sl .int)])],[],false,[(true,[.d (.bool),.own 0,.own 1])],[(0,.arr false .int),(1,.arr false .int)]⟩
noncomputable def c_q29:Con:=⟨sg_q29,Rt,fun x=>M_spec_l04Copy (⟨x.1,x.2.1,x.2.2.1⟩:Rt),fun r=>(r.neg,r.mag,r.den,())⟩
noncomputable def code_q29:Code:=Tryz.f88.body.getD .skip
noncomputable def E_q29:Env:=⟨layD,[],[],[(1,[(0,[]),(1,[]),(2,[]),(3,[]),(4,[]),(5,[]),(6,[]),(9,[]),(10,[]),(11,[]),(7,[3,6,5,4]),(8,[]),(12,[9,11,7,10,3,6,5,4]),(13,[]),(14,[13,12,0,1,2,3,4,5,6,7,8,9,10,11])])]⟩
theorem cons_q29:ConsOk Tryz.prog FX E_q29.cons:=consOk_nil
theorem loops_q29:loopsIn code_q29=[]:=by kernel_rfl
theorem m_q29:Meets Tryz.prog FX 88 c_q29:=meets_of (E:=E_q29) (code:=code_q29) mix layD_ok cons_q29 Tryz.func88 (by kernel_rfl) sg_q29 (by kernel_rfl) (fun y=>(⟨y.1,y.2.1,y.2.2.1⟩:Rt)) c_q29.out (fun _=>rfl) c_q29.run (fun x=>by kernel_rfl) (by kernel_rfl) (loops_mem loops_q29 (trivial))
noncomputable def sg_q51:Sig:=⟨[(false,[.d (.sl .rat)])],[],false,[(false,[.own 0])],[(0,.arr false .rat)]⟩
noncomputable def c_q51:Con:=⟨sg_q51,List Rt,fun x=>M_spec_l05Copy x.1,fun r=>(r,())⟩
noncomputable def code_q51:Code:=Tryz.f72.body.getD .skip
noncomputable def body_q51_0:Code:=(loopsIn code_q51).getD 0 .skip
noncomputable def D_q51_0:LoopD:=⟨⟨mkSlots [(3,false,[.own 1344]),(7,false,[.d (.sl .rat)]),(8,false,[.d (.int .i64)]),(9,false,[.d (.int .i64)])] 20 0,[(1344,.arr false .rat)]⟩,[(.slot 3 0,1344,.rat)],[(.exit 0,⟨mkSlots [(3,false,[.own 1344])] 20 0,[(1344,.arr false .rat)]⟩,[(.slot 3 0,1344,.rat)])]⟩
noncomputable def S_q51_0_w (x:Tys D_q51_0.head.ks):Option (OutT D_q51_0.outs):=@whileO ((List Rt) × Int × Int × (List Rt) × Unit) ((List Rt) × Unit) S_spec_l05Copy_0 x
noncomputable def E_q51:Env:=⟨lay,[(88,c_q29)],[(3,mkLM D_q51_0 S_q51_0_w)],[]⟩
theorem cons_q51:ConsOk Tryz.prog FX E_q51.cons:=consOk_cons m_q29 (callable_of Tryz.func88 (by kernel_rfl)) rfl (consOk_nil)
theorem S_q51_0_ok (x:Tys D_q51_0.head.ks):stepL E_q51 D_q51_0 body_q51_0 x=S_spec_l05Copy_0 x:=by kernel_rfl
theorem loops_q51_0:loopsIn body_q51_0=[]:=by kernel_rfl
theorem l_q51_0:LoopOk Tryz.prog FX (mkLM D_q51_0 S_q51_0_w) body_q51_0:=loop_ok2 mix lay_ok cons_q51 (by kernel_rfl) (loops_mem loops_q51_0 (trivial)) S_q51_0_ok fun _ _ h=>h
theorem loops_q51:loopsIn code_q51=[body_q51_0]:=by kernel_rfl
theorem m_q51:Meets Tryz.prog FX 72 c_q51:=meets_of (E:=E_q51) (code:=code_q51) mix lay_ok cons_q51 Tryz.func72 (by kernel_rfl) sg_q51 (by kernel_rfl) (fun y=>y.1) c_q51.out (fun _=>rfl) c_q51.run (fun x=>by kernel_rfl) (by kernel_rfl) (loops_mem loops_q51 (⟨⟨_,by kernel_rfl,l_q51_0⟩,trivial⟩))
noncomputable def sg_q52:Sig:=⟨[(true,[.d (.int .i64),.d (.int .i64),.d (.sl .rat)])],[],false,[(true,[.d (.int .i64),.d (.int .i64),.own 0])],[(0,.arr false .rat)]⟩
noncomputable def c_q52:Con:=⟨sg_q52,Mx,fun x=>M_spec_l06Copy (⟨x.1,x.2.1,x.2.2.1⟩:Mx),fun r=>(r.rows,r.cols,r.cells,())⟩
noncomputable def code_q52:Code:=Tryz.f35.body.getD .skip
noncomputable def E_q52:Env:=⟨lay,[(72,c_q51)],[],[(1,[(0,[]),(1,[]),(2,[]),(3,[]),(4,[]),(5,[]),(6,[5,4]),(7,[]),(8,[7,6,0,1,2,3,4,5])])]⟩
theorem cons_q52:ConsOk Tryz.prog FX E_q52.cons:=consOk_cons m_q51 (callable_of Tryz.func72 (by kernel_rfl)) rfl (consOk_nil)
theorem loops_q52:loopsIn code_q52=[]:=by kernel_rfl
theorem m_q52:Meets Tryz.prog FX 35 c_q52:=meets_of (E:=E_q52) (code:=code_q52) mix lay_ok cons_q52 Tryz.func35 (by kernel_rfl) sg_q52 (by kernel_rfl) (fun y=>(⟨y.1,y.2.1,y.2.2.1⟩:Mx)) c_q52.out (fun _=>rfl) c_q52.run (fun x=>by kernel_rfl) (by kernel_rfl) (loops_mem loops_q52 (trivial))
noncomputable def sg_q40:Sig:=⟨[(true,[.d (.int .i64),.d (.int .i64),.own 191]),(false,[.d (.int .i64)]),(false,[.d (.int .i64)])],[(191,.arr false .rat)],false,[(true,[.d (.bool),.d (.sl .int),.d (.sl .int)])],[(191,.arr false .rat)]⟩
noncomputable def c_q40:Con:=⟨sg_q40,Rt × List Rt,fun x=>M_spec_l06At_mdd (⟨x.1,x.2.1,x.2.2.2.2.1⟩:Mx) x.2.2.1 x.2.2.2.1,fun r=>(r.1.neg,r.1.mag,r.1.den,r.2,())⟩
noncomputable def code_q40:Code:=Tryz.f65.body.getD .skip
noncomputable def E_q40:Env:=⟨layD,[],[],[]⟩
theorem cons_q40:ConsOk Tryz.prog FX E_q40.cons:=consOk_nil
theorem loops_q40:loopsIn code_q40=[]:=by kernel_rfl
theorem m_q40:Meets Tryz.prog FX 65 c_q40:=meets_of (E:=E_q40) (code:=code_q40) mix layD_ok cons_q40 Tryz.func65 (by kernel_rfl) sg_q40 (by kernel_rfl) (fun y=>((⟨y.1,y.2.1,y.2.2.1⟩:Rt),y.2.2.2.1)) c_q40.out (fun _=>rfl) c_q40.run (fun x=>by kernel_rfl) (by kernel_rfl) (loops_mem loops_q40 (trivial))
noncomputable def sg_q33:Sig:=⟨[(true,[.d (.bool),.d (.sl .int),.d (.sl .int)])],[],false,[(false,[.d (.bool)])],[]⟩
noncomputable def c_q33:Con:=⟨sg_q33,Bool,fun x=>M_spec_l05Nil (⟨x.1,x.2.1,x.2.2.1⟩:Rt),fun r=>(r,())⟩
noncomputable def code_q33:Code:=Tryz.f73.body.getD .skip
noncomputable def E_q33:Env:=⟨layD,[],[],[]⟩
theorem cons_q33:ConsOk Tryz.prog FX E_q33.cons:=consOk_nil
theorem loops_q33:loopsIn code_q33=[]:=by kernel_rfl
theorem m_q33:Meets Tryz.prog FX 73 c_q33:=meets_of (E:=E_q33) (code:=code_q33) mix layD_ok cons_q33 Tryz.func73 (by kernel_rfl) sg_q33 (by kernel_rfl) (fun y=>y.1) c_q33.out (fun _=>rfl) c_q33.run (fun x=>by kernel_rfl) (by kernel_rfl) (loops_mem loops_q33 (trivial))
noncomputable def sg_q22:Sig:=⟨[(false,[.d (.sl .int)])],[],false,[(false,[.d (.sl .int)])],[]⟩
noncomputable def c_q22:Con:=⟨sg_q22,List Int,fun x=>M_spec_l02Trim x.1,fun r=>(r,())⟩
noncomputable def code_q22:Code:=Tryz.f139.body.getD .skip
noncomputable def body_q22_0:Code:=(loopsIn code_q22).getD 0 .skip
noncomputable def D_q22_0:LoopD:=⟨⟨mkSlots [(0,false,[.d (.sl .int)]),(3,false,[.d (.int .i64)])] 21 0,[]⟩,[],[(.exit 0,⟨mkSlots [(0,false,[.d (.sl .int)]),(3,false,[.d (.int .i64)])] 21 0,[]⟩,[])]⟩
noncomputable def S_q22_0_w (x:Tys D_q22_0.head.ks):Option (OutT D_q22_0.outs):=@whileO ((List Int) × Int × Unit) ((List Int) × Int × Unit) S_spec_l02Trim_0 x
noncomputable def E_q22:Env:=⟨layD,[],[(2,mkLM D_q22_0 S_q22_0_w)],[]⟩
theorem cons_q22:ConsOk Tryz.prog FX E_q22.cons:=consOk_nil
theorem S_q22_0_ok (x:Tys D_q22_0.head.ks):stepL E_q22 D_q22_0 body_q22_0 x=S_spec_l02Trim_0 x:=by kernel_rfl
theorem loops_q22_0:loopsIn body_q22_0=[]:=by kernel_rfl
theorem l_q22_0:LoopOk Tryz.prog FX (mkLM D_q22_0 S_q22_0_w) body_q22_0:=loop_ok2 mix layD_ok cons_q22 (by kernel_rfl) (loops_mem loops_q22_0 (trivial)) S_q22_0_ok fun _ _ h=>h
theorem loops_q22:loopsIn code_q22=[body_q22_0]:=by kernel_rfl
theorem m_q22:Meets Tryz.prog FX 139 c_q22:=meets_of (E:=E_q22) (code:=code_q22) mix layD_ok cons_q22 Tryz.func139 (by kernel_rfl) sg_q22 (by kernel_rfl) (fun y=>y.1) c_q22.out (fun _=>rfl) c_q22.run (fun x=>by kernel_rfl) (by kernel_rfl) (loops_mem loops_q22 (⟨⟨_,by kernel_rfl,l_q22_0⟩,trivial⟩))
noncomputable def sg_q34:Sig:=⟨[(false,[.d (.sl .int)])],[],false,[(false,[.d (.sl .int)])],[]⟩
noncomputable def c_q34:Con:=⟨sg_q34,List Int,fun x=>M_spec_l02Cap x.1,fun r=>(r,())⟩
noncomputable def code_q34:Code:=Tryz.f134.body.getD .skip
noncomputable def E_q34:Env:=⟨layD,[(139,c_q22)],[],[]⟩
theorem cons_q34:ConsOk Tryz.prog FX E_q34.cons:=consOk_cons m_q22 (callable_of Tryz.func139 (by kernel_rfl)) rfl (consOk_nil)
theorem loops_q34:loopsIn code_q34=[]:=by kernel_rfl
theorem m_q34:Meets Tryz.prog FX 134 c_q34:=meets_of (E:=E_q34) (code:=code_q34) mix layD_ok cons_q34 Tryz.func134 (by kernel_rfl) sg_q34 (by kernel_rfl) (fun y=>y.1) c_q34.out (fun _=>rfl) c_q34.run (fun x=>by kernel_rfl) (by kernel_rfl) (loops_mem loops_q34 (trivial))
noncomputable def sg_q35:Sig:=⟨[(false,[.d (.bool)]),(false,[.d (.sl .int)])],[],false,[(true,[.d (.bool),.own 0])],[(0,.arr false .int)]⟩
noncomputable def c_q35:Con:=⟨sg_q35,Bg,fun x=>M_spec_l03Make x.1 x.2.1,fun r=>(r.neg,r.mag,())⟩
noncomputable def code_q35:Code:=Tryz.f110.body.getD .skip
noncomputable def E_q35:Env:=⟨layD,[(134,c_q34)],[],[]⟩
theorem cons_q35:ConsOk Tryz.prog FX E_q35.cons:=consOk_cons m_q34 (callable_of Tryz.func134 (by kernel_rfl)) rfl (consOk_nil)
theorem loops_q35:loopsIn code_q35=[]:=by kernel_rfl
theorem m_q35:Meets Tryz.prog FX 110 c_q35:=meets_of (E:=E_q35) (code:=code_q35) mix layD_ok cons_q35 Tryz.func110 (by kernel_rfl) sg_q35 (by kernel_rfl) (fun y=>(⟨y.1,y.2.1⟩:Bg)) c_q35.out (fun _=>rfl) c_q35.run (fun x=>by kernel_rfl) (by kernel_rfl) (loops_mem loops_q35 (trivial))
noncomputable def sg_q36:Sig:=⟨[(false,[.d (.int .i64)])],[],false,[(true,[.d (.bool),.own 0])],[(0,.arr false .int)]⟩
noncomputable def c_q36:Con:=⟨sg_q36,Bg,fun x=>M_spec_BigIntOf x.1,fun r=>(r.neg,r.mag,())⟩
noncomputable def code_q36:Code:=Tryz.f109.body.getD .skip
noncomputable def E_q36:Env:=⟨layD,[(110,c_q35),(133,c_q16)],[],[]⟩
theorem cons_q36:ConsOk Tryz.prog FX E_q36.cons:=consOk_cons m_q35 (callable_of Tryz.func110 (by kernel_rfl)) rfl (consOk_cons m_q16 (callable_of Tryz.func133 (by kernel_rfl)) rfl (consOk_nil))
theorem loops_q36:loopsIn code_q36=[]:=by kernel_rfl
theorem m_q36:Meets Tryz.prog FX 109 c_q36:=meets_of (E:=E_q36) (code:=code_q36) mix layD_ok cons_q36 Tryz.func109 (by kernel_rfl) sg_q36 (by kernel_rfl) (fun y=>(⟨y.1,y.2.1⟩:Bg)) c_q36.out (fun _=>rfl) c_q36.run (fun x=>by kernel_rfl) (by kernel_rfl) (loops_mem loops_q36 (trivial))
noncomputable def sg_q37:Sig:=⟨[(false,[.d (.int .i64)])],[],false,[(true,[.d (.bool),.own 0,.own 1])],[(0,.arr false .int),(1,.arr false .int)]⟩
noncomputable def c_q37:Con:=⟨sg_q37,Rt,fun x=>M_spec_RatFromInt x.1,fun r=>(r.neg,r.mag,r.den,())⟩
noncomputable def code_q37:Code:=Tryz.f63.body.getD .skip
noncomputable def E_q37:Env:=⟨layD,[(109,c_q36)],[],[]⟩
theorem cons_q37:ConsOk Tryz.prog FX E_q37.cons:=consOk_cons m_q36 (callable_of Tryz.func109 (by kernel_rfl)) rfl (consOk_nil)
theorem loops_q37:loopsIn code_q37=[]:=by kernel_rfl
theorem m_q37:Meets Tryz.prog FX 63 c_q37:=meets_of (E:=E_q37) (code:=code_q37) mix layD_ok cons_q37 Tryz.func63 (by kernel_rfl) sg_q37 (by kernel_rfl) (fun y=>(⟨y.1,y.2.1,y.2.2.1⟩:Rt)) c_q37.out (fun _=>rfl) c_q37.run (fun x=>by kernel_rfl) (by kernel_rfl) (loops_mem loops_q37 (trivial))
noncomputable def sg_q38:Sig:=⟨[(false,[.d (.bool)]),(false,[.d (.sl .int)]),(false,[.d (.sl .int)])],[],false,[(true,[.d (.bool),.own 0,.own 1])],[(0,.arr false .int),(1,.arr false .int)]⟩
noncomputable def c_q38:Con:=⟨sg_q38,Rt,fun x=>M_spec_l04Low x.1 x.2.1 x.2.2.1,fun r=>(r.neg,r.mag,r.den,())⟩
noncomputable def code_q38:Code:=Tryz.f117.body.getD .skip
noncomputable def E_q38:Env:=⟨layD,[(139,c_q22),(115,c_q26),(116,c_q25),(138,c_q24),(110,c_q35)],[],[]⟩
theorem cons_q38:ConsOk Tryz.prog FX E_q38.cons:=consOk_cons m_q22 (callable_of Tryz.func139 (by kernel_rfl)) rfl (consOk_cons m_q26 (callable_of Tryz.func115 (by kernel_rfl)) rfl (consOk_cons m_q25 (callable_of Tryz.func116 (by kernel_rfl)) rfl (consOk_cons m_q24 (callable_of Tryz.func138 (by kernel_rfl)) rfl (consOk_cons m_q35 (callable_of Tryz.func110 (by kernel_rfl)) rfl (consOk_nil)))))
theorem loops_q38:loopsIn code_q38=[]:=by kernel_rfl
theorem m_q38:Meets Tryz.prog FX 117 c_q38:=meets_of (E:=E_q38) (code:=code_q38) mix layD_ok cons_q38 Tryz.func117 (by kernel_rfl) sg_q38 (by kernel_rfl) (fun y=>(⟨y.1,y.2.1,y.2.2.1⟩:Rt)) c_q38.out (fun _=>rfl) c_q38.run (fun x=>by kernel_rfl) (by kernel_rfl) (loops_mem loops_q38 (trivial))
noncomputable def sg_q39:Sig:=⟨[(true,[.d (.bool),.d (.sl .int),.d (.sl .int)]),(true,[.d (.bool),.d (.sl .int),.d (.sl .int)])],[],false,[(true,[.d (.bool),.own 0,.own 1])],[(0,.arr false .int),(1,.arr false .int)]⟩
noncomputable def c_q39:Con:=⟨sg_q39,Rt,fun x=>M_spec_l05Div (⟨x.1,x.2.1,x.2.2.1⟩:Rt) (⟨x.2.2.2.1,x.2.2.2.2.1,x.2.2.2.2.2.1⟩:Rt),fun r=>(r.neg,r.mag,r.den,())⟩
noncomputable def code_q39:Code:=Tryz.f74.body.getD .skip
noncomputable def E_q39:Env:=⟨layD,[(118,c_q20),(117,c_q38)],[],[(1,[(0,[]),(1,[]),(2,[]),(3,[]),(4,[]),(5,[]),(6,[]),(7,[]),(8,[]),(9,[]),(10,[]),(11,[]),(13,[]),(14,[]),(15,[]),(16,[]),(17,[]),(12,[9,11,8,10,7]),(18,[14,17,12,13,16,9,11,15,8,10,7]),(19,[6,12,18,2,5,9,11,14,17,1,4,8,10,13,16,0,3,7,15]),(20,[19,0,1,2,3,4,5,6,7,8,9,10,11,12,13,14,15,16,17,18])])]⟩
theorem cons_q39:ConsOk Tryz.prog FX E_q39.cons:=consOk_cons m_q20 (callable_of Tryz.func118 (by kernel_rfl)) rfl (consOk_cons m_q38 (callable_of Tryz.func117 (by kernel_rfl)) rfl (consOk_nil))
theorem loops_q39:loopsIn code_q39=[]:=by kernel_rfl
theorem m_q39:Meets Tryz.prog FX 74 c_q39:=meets_of (E:=E_q39) (code:=code_q39) mix layD_ok cons_q39 Tryz.func74 (by kernel_rfl) sg_q39 (by kernel_rfl) (fun y=>(⟨y.1,y.2.1,y.2.2.1⟩:Rt)) c_q39.out (fun _=>rfl) c_q39.run (fun x=>by kernel_rfl) (by kernel_rfl) (loops_mem loops_q39 (trivial))
noncomputable def sg_q41:Sig:=⟨[(true,[.d (.bool),.d (.sl .int),.d (.sl .int)]),(true,[.d (.bool),.d (.sl .int),.d (.sl .int)])],[],false,[(true,[.d (.bool),.own 0,.own 1])],[(0,.arr false .int),(1,.arr false .int)]⟩
noncomputable def c_q41:Con:=⟨sg_q41,Rt,fun x=>M_spec_l04Mul (⟨x.1,x.2.1,x.2.2.1⟩:Rt) (⟨x.2.2.2.1,x.2.2.2.2.1,x.2.2.2.2.2.1⟩:Rt),fun r=>(r.neg,r.mag,r.den,())⟩
noncomputable def code_q41:Code:=Tryz.f87.body.getD .skip
noncomputable def E_q41:Env:=⟨layD,[(118,c_q20),(117,c_q38)],[],[(1,[(0,[]),(1,[]),(2,[]),(3,[]),(4,[]),(5,[]),(6,[]),(7,[]),(8,[]),(9,[]),(10,[]),(11,[]),(12,[]),(14,[]),(15,[]),(16,[]),(17,[]),(13,[9,12,8,11,7,10]),(18,[15,17,13,14,16,9,12,8,11,7,10]),(19,[6,13,18,2,5,9,12,15,17,1,4,8,11,14,16,0,3,7,10]),(20,[19,0,1,2,3,4,5,6,7,8,9,10,11,12,13,14,15,16,17,18])])]⟩
theorem cons_q41:ConsOk Tryz.prog FX E_q41.cons:=consOk_cons m_q20 (callable_of Tryz.func118 (by kernel_rfl)) rfl (consOk_cons m_q38 (callable_of Tryz.func117 (by kernel_rfl)) rfl (consOk_nil))
theorem loops_q41:loopsIn code_q41=[]:=by kernel_rfl
theorem m_q41:Meets Tryz.prog FX 87 c_q41:=meets_of (E:=E_q41) (code:=code_q41) mix layD_ok cons_q41 Tryz.func87 (by kernel_rfl) sg_q41 (by kernel_rfl) (fun y=>(⟨y.1,y.2.1,y.2.2.1⟩:Rt)) c_q41.out (fun _=>rfl) c_q41.run (fun x=>by kernel_rfl) (by kernel_rfl) (loops_mem loops_q41 (trivial))
noncomputable def sg_q42:Sig:=⟨[(true,[.d (.bool),.d (.sl .int),.d (.sl .int)])],[],false,[(true,[.d (.bool),.own 0,.own 1])],[(0,.arr false .int),(1,.arr false .int)]⟩
noncomputable def c_q42:Con:=⟨sg_q42,Rt,fun x=>M_spec_l04Neg (⟨x.1,x.2.1,x.2.2.1⟩:Rt),fun r=>(r.neg,r.mag,r.den,())⟩
noncomputable def code_q42:Code:=Tryz.f64.body.getD .skip
noncomputable def E_q42:Env:=⟨layD,[(110,c_q35)],[],[(1,[(0,[]),(1,[]),(2,[]),(3,[]),(4,[]),(5,[]),(6,[]),(8,[]),(9,[]),(10,[]),(7,[3,6,2,5,1,4,0]),(11,[8,10,7,9,3,6,2,5,1,4,0]),(12,[]),(13,[12,11,0,1,2,3,4,5,6,7,8,9,10])])]⟩
theorem cons_q42:ConsOk Tryz.prog FX E_q42.cons:=consOk_cons m_q35 (callable_of Tryz.func110 (by kernel_rfl)) rfl (consOk_nil)
theorem loops_q42:loopsIn code_q42=[]:=by kernel_rfl
theorem m_q42:Meets Tryz.prog FX 64 c_q42:=meets_of (E:=E_q42) (code:=code_q42) mix layD_ok cons_q42 Tryz.func64 (by kernel_rfl) sg_q42 (by kernel_rfl) (fun y=>(⟨y.1,y.2.1,y.2.2.1⟩:Rt)) c_q42.out (fun _=>rfl) c_q42.run (fun x=>by kernel_rfl) (by kernel_rfl) (loops_mem loops_q42 (trivial))
noncomputable def sg_q43:Sig:=⟨[(false,[.d (.sl .int)]),(false,[.d (.sl .int)])],[],false,[(false,[.own 0])],[(0,.arr false .int)]⟩
noncomputable def c_q43:Con:=⟨sg_q43,List Int,fun x=>M_spec_l02Add x.1 x.2.1,fun r=>(r,())⟩
noncomputable def code_q43:Code:=Tryz.f154.body.getD .skip
noncomputable def body_q43_0:Code:=(loopsIn code_q43).getD 0 .skip
noncomputable def D_q43_0:LoopD:=⟨⟨mkSlots [(0,false,[.d (.sl .int)]),(1,false,[.d (.sl .int)]),(5,false,[.own 3584]),(6,false,[.d (.int .i64)]),(7,false,[.d (.int .i64)])] 55 0,[(3584,.arr false .int)]⟩,[(.slot 5 0,3584,.int)],[(.exit 0,⟨mkSlots [(5,false,[.own 3584])] 55 0,[(3584,.arr false .int)]⟩,[(.slot 5 0,3584,.int)])]⟩
noncomputable def S_q43_0_w (x:Tys D_q43_0.head.ks):Option (OutT D_q43_0.outs):=@whileO ((List Int) × (List Int) × Int × Int × (List Int) × Unit) ((List Int) × Unit) S_spec_l02Add_0 x
noncomputable def E_q43:Env:=⟨layD,[],[(4,mkLM D_q43_0 S_q43_0_w)],[]⟩
theorem cons_q43:ConsOk Tryz.prog FX E_q43.cons:=consOk_nil
theorem S_q43_0_ok (x:Tys D_q43_0.head.ks):stepL E_q43 D_q43_0 body_q43_0 x=S_spec_l02Add_0 x:=by kernel_rfl
theorem loops_q43_0:loopsIn body_q43_0=[]:=by kernel_rfl
theorem l_q43_0:LoopOk Tryz.prog FX (mkLM D_q43_0 S_q43_0_w) body_q43_0:=loop_ok2 mix layD_ok cons_q43 (by kernel_rfl) (loops_mem loops_q43_0 (trivial)) S_q43_0_ok fun _ _ h=>h
theorem loops_q43:loopsIn code_q43=[body_q43_0]:=by kernel_rfl
theorem m_q43:Meets Tryz.prog FX 154 c_q43:=meets_of (E:=E_q43) (code:=code_q43) mix layD_ok cons_q43 Tryz.func154 (by kernel_rfl) sg_q43 (by kernel_rfl) (fun y=>y.1) c_q43.out (fun _=>rfl) c_q43.run (fun x=>by kernel_rfl) (by kernel_rfl) (loops_mem loops_q43 (⟨⟨_,by kernel_rfl,l_q43_0⟩,trivial⟩))
noncomputable def sg_q44:Sig:=⟨[(true,[.d (.bool),.d (.sl .int)]),(true,[.d (.bool),.d (.sl .int)])],[],false,[(true,[.d (.bool),.own 0])],[(0,.arr false .int)]⟩
noncomputable def c_q44:Con:=⟨sg_q44,Bg,fun x=>M_spec_l03Add (⟨x.1,x.2.1⟩:Bg) (⟨x.2.2.1,x.2.2.2.1⟩:Bg),fun r=>(r.neg,r.mag,())⟩
noncomputable def code_q44:Code:=Tryz.f141.body.getD .skip
noncomputable def E_q44:Env:=⟨layD,[(154,c_q43),(110,c_q35),(149,c_q14),(152,c_q23)],[],[(2,[(0,[]),(1,[]),(2,[]),(3,[]),(4,[]),(5,[]),(6,[3,5,2,4]),(7,[1,6,0,3,5,2,4]),(8,[7,0,1,2,3,4,5,6])]),(4,[(0,[]),(1,[]),(2,[]),(3,[]),(4,[]),(5,[]),(6,[3,5,2,4]),(7,[1,6,0,3,5,2,4]),(8,[7,0,1,2,3,4,5,6])]),(5,[(0,[]),(1,[]),(2,[]),(3,[]),(4,[]),(5,[]),(6,[3,5,2,4]),(7,[1,6,0,3,5,2,4]),(8,[7,0,1,2,3,4,5,6])])]⟩
theorem cons_q44:ConsOk Tryz.prog FX E_q44.cons:=consOk_cons m_q43 (callable_of Tryz.func154 (by kernel_rfl)) rfl (consOk_cons m_q35 (callable_of Tryz.func110 (by kernel_rfl)) rfl (consOk_cons m_q14 (callable_of Tryz.func149 (by kernel_rfl)) rfl (consOk_cons m_q23 (callable_of Tryz.func152 (by kernel_rfl)) rfl (consOk_nil))))
theorem loops_q44:loopsIn code_q44=[]:=by kernel_rfl
theorem m_q44:Meets Tryz.prog FX 141 c_q44:=meets_of (E:=E_q44) (code:=code_q44) mix layD_ok cons_q44 Tryz.func141 (by kernel_rfl) sg_q44 (by kernel_rfl) (fun y=>(⟨y.1,y.2.1⟩:Bg)) c_q44.out (fun _=>rfl) c_q44.run (fun x=>by kernel_rfl) (by kernel_rfl) (loops_mem loops_q44 (trivial))
noncomputable def sg_q45:Sig:=⟨[(true,[.d (.bool),.d (.sl .int),.d (.sl .int)]),(true,[.d (.bool),.d (.sl .int),.d (.sl .int)])],[],false,[(true,[.d (.bool),.own 0,.own 1])],[(0,.arr false .int),(1,.arr false .int)]⟩
noncomputable def c_q45:Con:=⟨sg_q45,Rt,fun x=>M_spec_l04Add (⟨x.1,x.2.1,x.2.2.1⟩:Rt) (⟨x.2.2.2.1,x.2.2.2.2.1,x.2.2.2.2.2.1⟩:Rt),fun r=>(r.neg,r.mag,r.den,())⟩
noncomputable def code_q45:Code:=Tryz.f125.body.getD .skip
noncomputable def E_q45:Env:=⟨layD,[(115,c_q26),(141,c_q44),(117,c_q38),(118,c_q20),(110,c_q35)],[],[(4,[(0,[]),(1,[]),(2,[]),(3,[]),(4,[]),(5,[]),(6,[]),(7,[]),(8,[5,7,4,6,3]),(9,[2,8,1,5,7,0,4,6,3]),(10,[]),(11,[10,9,0,1,2,3,4,5,6,7,8])]),(5,[(0,[]),(1,[]),(2,[]),(3,[]),(4,[]),(5,[]),(6,[]),(7,[]),(8,[5,7,4,6,3]),(9,[2,8,1,5,7,0,4,6,3]),(10,[]),(11,[10,9,0,1,2,3,4,5,6,7,8])]),(7,[(0,[]),(1,[]),(2,[]),(3,[]),(4,[]),(5,[]),(6,[]),(7,[]),(8,[5,7,4,6]),(9,[1,3,8,0,2,5,7,4,6]),(10,[9,0,1,2,3,4,5,6,7,8])])]⟩
theorem cons_q45:ConsOk Tryz.prog FX E_q45.cons:=consOk_cons m_q26 (callable_of Tryz.func115 (by kernel_rfl)) rfl (consOk_cons m_q44 (callable_of Tryz.func141 (by kernel_rfl)) rfl (consOk_cons m_q38 (callable_of Tryz.func117 (by kernel_rfl)) rfl (consOk_cons m_q20 (callable_of Tryz.func118 (by kernel_rfl)) rfl (consOk_cons m_q35 (callable_of Tryz.func110 (by kernel_rfl)) rfl (consOk_nil)))))
theorem loops_q45:loopsIn code_q45=[]:=by kernel_rfl
theorem m_q45:Meets Tryz.prog FX 125 c_q45:=meets_of (E:=E_q45) (code:=code_q45) mix layD_ok cons_q45 Tryz.func125 (by kernel_rfl) sg_q45 (by kernel_rfl) (fun y=>(⟨y.1,y.2.1,y.2.2.1⟩:Rt)) c_q45.out (fun _=>rfl) c_q45.run (fun x=>by kernel_rfl) (by kernel_rfl) (loops_mem loops_q45 (trivial))
noncomputable def sg_q46:Sig:=⟨[(true,[.d (.bool),.d (.sl .int),.d (.sl .int)]),(true,[.d (.bool),.d (.sl .int),.d (.sl .int)])],[],false,[(true,[.d (.bool),.own 0,.own 1])],[(0,.arr false .int),(1,.arr false .int)]⟩
noncomputable def c_q46:Con:=⟨sg_q46,Rt,fun x=>M_spec_l05Sub (⟨x.1,x.2.1,x.2.2.1⟩:Rt) (⟨x.2.2.2.1,x.2.2.2.2.1,x.2.2.2.2.2.1⟩:Rt),fun r=>(r.neg,r.mag,r.den,())⟩
noncomputable def code_q46:Code:=Tryz.f86.body.getD .skip
noncomputable def E_q46:Env:=⟨layD,[(64,c_q42),(125,c_q45)],[],[(1,[(0,[]),(1,[]),(2,[1]),(3,[0,2,1]),(4,[3,0,1,2])])]⟩
theorem cons_q46:ConsOk Tryz.prog FX E_q46.cons:=consOk_cons m_q42 (callable_of Tryz.func64 (by kernel_rfl)) rfl (consOk_cons m_q45 (callable_of Tryz.func125 (by kernel_rfl)) rfl (consOk_nil))
theorem loops_q46:loopsIn code_q46=[]:=by kernel_rfl
theorem m_q46:Meets Tryz.prog FX 86 c_q46:=meets_of (E:=E_q46) (code:=code_q46) mix layD_ok cons_q46 Tryz.func86 (by kernel_rfl) sg_q46 (by kernel_rfl) (fun y=>(⟨y.1,y.2.1,y.2.2.1⟩:Rt)) c_q46.out (fun _=>rfl) c_q46.run (fun x=>by kernel_rfl) (by kernel_rfl) (loops_mem loops_q46 (trivial))
noncomputable def sg_q47:Sig:=⟨[(true,[.d (.int .i64),.d (.int .i64),.own 191]),(false,[.d (.int .i64)]),(false,[.d (.int .i64)])],[(191,.arr false .rat)],true,[],[(191,.arr false .rat)]⟩
noncomputable def c_q47:Con:=⟨sg_q47,List Rt,fun x=>M_spec_l07Clear_mdd (⟨x.1,x.2.1,x.2.2.2.2.1⟩:Mx) x.2.2.1 x.2.2.2.1,fun r=>(r,())⟩
noncomputable def code_q47:Code:=Tryz.f75.body.getD .skip
noncomputable def body_q47_0:Code:=(loopsIn code_q47).getD 0 .skip
noncomputable def body_q47_1:Code:=(loopsIn body_q47_0).getD 0 .skip
noncomputable def D_q47_0:LoopD:=⟨⟨mkSlots [(1,false,[.d (.int .i64)]),(2,false,[.d (.int .i64)]),(3,false,[.lp 192 0]),(6,false,[.d (.int .i64)])] 59 0,[(191,.arr false .rat),(192,.box [.d (.int .i64),.d (.int .i64),.own 191])]⟩,[],[(.exit 0,⟨mkSlots [] 59 0,[(191,.arr false .rat)]⟩,[])]⟩
noncomputable def D_q47_1:LoopD:=⟨⟨mkSlots [(1,false,[.d (.int .i64)]),(2,false,[.d (.int .i64)]),(3,false,[.lp 192 0]),(6,false,[.d (.int .i64)]),(7,false,[.lp 448 0]),(8,false,[.d (.int .i64)])] 59 0,[(191,.arr false .rat),(192,.box [.d (.int .i64),.d (.int .i64),.own 191]),(448,.box [.d (.bool),.d (.sl .int),.d (.sl .int)])]⟩,[],[(.exit 2,⟨mkSlots [(1,false,[.d (.int .i64)]),(2,false,[.d (.int .i64)]),(3,false,[.lp 192 0]),(6,false,[.d (.int .i64)])] 59 0,[(191,.arr false .rat),(192,.box [.d (.int .i64),.d (.int .i64),.own 191])]⟩,[])]⟩
noncomputable def S_q47_0_w (x:Tys D_q47_0.head.ks):Option (OutT D_q47_0.outs):=@whileO (Int × Int × Int × (List Rt) × Int × Int × Unit) ((List Rt) × Unit) S_spec_l07Clear_mdd_0 x
noncomputable def S_q47_1_w (x:Tys D_q47_1.head.ks):Option (OutT D_q47_1.outs):=@whileO (Int × Int × Int × Int × (List Rt) × Int × Int × Bool × (List Int) × (List Int) × Unit) (Int × Int × Int × (List Rt) × Int × Int × Unit) S_spec_l07Clear_mdd_1 x
noncomputable def E_q47:Env:=⟨lay,[(65,c_q40),(73,c_q33),(87,c_q41),(86,c_q46)],[(2,mkLM D_q47_0 S_q47_0_w),(7,mkLM D_q47_1 S_q47_1_w)],[(10,[(0,[]),(1,[]),(2,[]),(3,[]),(4,[]),(5,[]),(6,[]),(7,[]),(8,[]),(9,[]),(10,[]),(12,[]),(13,[]),(14,[]),(15,[]),(11,[8,9,10]),(16,[13,14,15,11,8,9,10]),(17,[12,16,13,14,15,11,8,9,10]),(18,[11,17,8,9,10,12,16,13,14,15]),(19,[]),(20,[19,18,0,1,2,3,4,5,6,7,8,9,10,11,12,13,14,15,16,17])])]⟩
theorem cons_q47:ConsOk Tryz.prog FX E_q47.cons:=consOk_cons m_q40 (callable_of Tryz.func65 (by kernel_rfl)) rfl (consOk_cons m_q33 (callable_of Tryz.func73 (by kernel_rfl)) rfl (consOk_cons m_q41 (callable_of Tryz.func87 (by kernel_rfl)) rfl (consOk_cons m_q46 (callable_of Tryz.func86 (by kernel_rfl)) rfl (consOk_nil))))
theorem S_q47_1_ok (x:Tys D_q47_1.head.ks):stepL E_q47 D_q47_1 body_q47_1 x=S_spec_l07Clear_mdd_1 x:=by kernel_rfl
theorem loops_q47_1:loopsIn body_q47_1=[]:=by kernel_rfl
theorem l_q47_1:LoopOk Tryz.prog FX (mkLM D_q47_1 S_q47_1_w) body_q47_1:=loop_ok2 mix lay_ok cons_q47 (by kernel_rfl) (loops_mem loops_q47_1 (trivial)) S_q47_1_ok fun _ _ h=>h
theorem S_q47_0_ok (x:Tys D_q47_0.head.ks):stepL E_q47 D_q47_0 body_q47_0 x=S_spec_l07Clear_mdd_0 x:=by kernel_rfl
theorem loops_q47_0:loopsIn body_q47_0=[body_q47_1]:=by kernel_rfl
theorem l_q47_0:LoopOk Tryz.prog FX (mkLM D_q47_0 S_q47_0_w) body_q47_0:=loop_ok2 mix lay_ok cons_q47 (by kernel_rfl) (loops_mem loops_q47_0 (⟨⟨_,by kernel_rfl,l_q47_1⟩,trivial⟩)) S_q47_0_ok fun _ _ h=>h
theorem loops_q47:loopsIn code_q47=[body_q47_0]:=by kernel_rfl
theorem m_q47:Meets Tryz.prog FX 75 c_q47:=meets_of (E:=E_q47) (code:=code_q47) mix lay_ok cons_q47 Tryz.func75 (by kernel_rfl) sg_q47 (by kernel_rfl) (fun y=>y.1) c_q47.out (fun _=>rfl) c_q47.run (fun x=>by kernel_rfl) (by kernel_rfl) (loops_mem loops_q47 (⟨⟨_,by kernel_rfl,l_q47_0⟩,trivial⟩))
noncomputable def sg_q48:Sig:=⟨[(true,[.d (.bool),.d (.sl .int),.d (.sl .int)])],[],false,[(false,[.d (.bool)])],[]⟩
noncomputable def c_q48:Con:=⟨sg_q48,Bool,fun x=>M_spec_l05Bad (⟨x.1,x.2.1,x.2.2.1⟩:Rt),fun r=>(r,())⟩
noncomputable def code_q48:Code:=Tryz.f76.body.getD .skip
noncomputable def E_q48:Env:=⟨layD,[],[],[]⟩
theorem cons_q48:ConsOk Tryz.prog FX E_q48.cons:=consOk_nil
theorem loops_q48:loopsIn code_q48=[]:=by kernel_rfl
theorem m_q48:Meets Tryz.prog FX 76 c_q48:=meets_of (E:=E_q48) (code:=code_q48) mix layD_ok cons_q48 Tryz.func76 (by kernel_rfl) sg_q48 (by kernel_rfl) (fun y=>y.1) c_q48.out (fun _=>rfl) c_q48.run (fun x=>by kernel_rfl) (by kernel_rfl) (loops_mem loops_q48 (trivial))
noncomputable def sg_q49:Sig:=⟨[(false,[.d (.sl .rat)])],[],false,[(false,[.d (.bool)])],[]⟩
noncomputable def c_q49:Con:=⟨sg_q49,Bool,fun x=>M_spec_l05Fine x.1,fun r=>(r,())⟩
noncomputable def code_q49:Code:=Tryz.f37.body.getD .skip
noncomputable def body_q49_0:Code:=(loopsIn code_q49).getD 0 .skip
noncomputable def D_q49_0:LoopD:=⟨⟨mkSlots [(5,false,[.d (.sl .rat)]),(6,false,[.d (.int .i64)]),(7,false,[.d (.int .i64)])] 14 0,[]⟩,[],[(.ret,⟨mkSlots [(2,false,[.d (.bool)])] 14 0,[]⟩,[]),(.exit 0,⟨mkSlots [] 14 0,[]⟩,[])]⟩
noncomputable def S_q49_0_w (x:Tys D_q49_0.head.ks):Option (OutT D_q49_0.outs):=@whileO ((List Rt) × Int × Int × Unit) ((Bool × Unit) ⊕ (Unit)) S_spec_l05Fine_0 x
noncomputable def E_q49:Env:=⟨layD,[(76,c_q48)],[(2,mkLM D_q49_0 S_q49_0_w)],[]⟩
theorem cons_q49:ConsOk Tryz.prog FX E_q49.cons:=consOk_cons m_q48 (callable_of Tryz.func76 (by kernel_rfl)) rfl (consOk_nil)
theorem S_q49_0_ok (x:Tys D_q49_0.head.ks):stepL E_q49 D_q49_0 body_q49_0 x=S_spec_l05Fine_0 x:=by kernel_rfl
theorem loops_q49_0:loopsIn body_q49_0=[]:=by kernel_rfl
theorem l_q49_0:LoopOk Tryz.prog FX (mkLM D_q49_0 S_q49_0_w) body_q49_0:=loop_ok2 mix layD_ok cons_q49 (by kernel_rfl) (loops_mem loops_q49_0 (trivial)) S_q49_0_ok fun _ _ h=>h
theorem loops_q49:loopsIn code_q49=[body_q49_0]:=by kernel_rfl
theorem m_q49:Meets Tryz.prog FX 37 c_q49:=meets_of (E:=E_q49) (code:=code_q49) mix layD_ok cons_q49 Tryz.func37 (by kernel_rfl) sg_q49 (by kernel_rfl) (fun y=>y.1) c_q49.out (fun _=>rfl) c_q49.run (fun x=>by kernel_rfl) (by kernel_rfl) (loops_mem loops_q49 (⟨⟨_,by kernel_rfl,l_q49_0⟩,trivial⟩))
noncomputable def sg_q50:Sig:=⟨[(true,[.d (.int .i64),.d (.int .i64),.own 191])],[(191,.arr false .rat)],true,[(false,[.own 0]),(false,[.own 1])],[(0,.arr false .int),(1,.arr false .rat),(191,.arr false .rat)]⟩
noncomputable def c_q50:Con:=⟨sg_q50,List Int × List Rt × List Rt,fun x=>M_spec_l07Reduce_m (⟨x.1,x.2.1,x.2.2.1⟩:Mx),fun r=>(r.1,r.2.1,r.2.2,())⟩
noncomputable def code_q50:Code:=Tryz.f36.body.getD .skip
noncomputable def body_q50_0:Code:=(loopsIn code_q50).getD 0 .skip
noncomputable def body_q50_1:Code:=(loopsIn body_q50_0).getD 0 .skip
noncomputable def body_q50_2:Code:=(loopsIn body_q50_0).getD 1 .skip
noncomputable def body_q50_3:Code:=(loopsIn body_q50_0).getD 2 .skip
noncomputable def D_q50_0:LoopD:=⟨⟨mkSlots [(1,false,[.lp 64 0]),(4,false,[.own 9536]),(5,false,[.own 9600]),(6,false,[.d (.int .i64)])] 146 0,[(64,.box [.d (.int .i64),.d (.int .i64),.own 191]),(191,.arr false .rat),(9536,.arr false .int),(9600,.arr false .rat)]⟩,[(.slot 4 0,9536,.int),(.slot 5 0,9600,.rat)],[(.ret,⟨mkSlots [(2,false,[.own 9408]),(3,false,[.own 9472])] 146 0,[(191,.arr false .rat),(9408,.arr false .int),(9472,.arr false .rat)]⟩,[]),(.exit 0,⟨mkSlots [(4,false,[.own 9536]),(5,false,[.own 9600])] 146 0,[(191,.arr false .rat),(9536,.arr false .int),(9600,.arr false .rat)]⟩,[(.slot 4 0,9536,.int),(.slot 5 0,9600,.rat)])]⟩
noncomputable def D_q50_1:LoopD:=⟨⟨mkSlots [(1,false,[.lp 64 0]),(4,false,[.own 9408]),(5,false,[.own 9472]),(6,false,[.d (.int .i64)]),(7,false,[.d (.int .i64)]),(8,false,[.d (.int .i64)])] 146 0,[(64,.box [.d (.int .i64),.d (.int .i64),.own 191]),(191,.arr false .rat),(9408,.arr false .int),(9472,.arr false .rat)]⟩,[(.slot 4 0,9408,.int),(.slot 5 0,9472,.rat)],[(.exit 2,⟨mkSlots [(1,false,[.lp 64 0]),(4,false,[.own 9408]),(5,false,[.own 9472]),(6,false,[.d (.int .i64)]),(7,false,[.d (.int .i64)]),(8,false,[.d (.int .i64)])] 146 0,[(64,.box [.d (.int .i64),.d (.int .i64),.own 191]),(191,.arr false .rat),(9408,.arr false .int),(9472,.arr false .rat)]⟩,[(.slot 4 0,9408,.int),(.slot 5 0,9472,.rat)])]⟩
noncomputable def D_q50_2:LoopD:=⟨⟨mkSlots [(1,false,[.lp 64 0]),(4,false,[.own 9472]),(5,false,[.own 9408]),(6,false,[.d (.int .i64)]),(7,false,[.d (.int .i64)]),(8,false,[.d (.int .i64)]),(9,false,[.d (.int .i64)])] 146 0,[(64,.box [.d (.int .i64),.d (.int .i64),.own 191]),(191,.arr false .rat),(9408,.arr false .rat),(9472,.arr false .int)]⟩,[(.slot 4 0,9472,.int)],[(.exit 4,⟨mkSlots [(1,false,[.lp 64 0]),(4,false,[.own 9472]),(5,false,[.own 9408]),(6,false,[.d (.int .i64)]),(7,false,[.d (.int .i64)])] 146 0,[(64,.box [.d (.int .i64),.d (.int .i64),.own 191]),(191,.arr false .rat),(9408,.arr false .rat),(9472,.arr false .int)]⟩,[(.slot 4 0,9472,.int)])]⟩
noncomputable def D_q50_3:LoopD:=⟨⟨mkSlots [(1,false,[.lp 64 0]),(4,false,[.own 9472]),(5,false,[.own 9408]),(6,false,[.d (.int .i64)]),(7,false,[.d (.int .i64)]),(11,false,[.lp 704 0]),(12,false,[.d (.int .i64)])] 146 0,[(64,.box [.d (.int .i64),.d (.int .i64),.own 191]),(191,.arr false .rat),(704,.box [.d (.bool),.d (.sl .int),.d (.sl .int)]),(9408,.arr false .rat),(9472,.arr false .int)]⟩,[(.slot 4 0,9472,.int)],[(.exit 6,⟨mkSlots [(1,false,[.lp 64 0]),(4,false,[.own 9472]),(5,false,[.own 9408]),(6,false,[.d (.int .i64)]),(7,false,[.d (.int .i64)])] 146 0,[(64,.box [.d (.int .i64),.d (.int .i64),.own 191]),(191,.arr false .rat),(9408,.arr false .rat),(9472,.arr false .int)]⟩,[(.slot 4 0,9472,.int)])]⟩
noncomputable def S_q50_0_w (x:Tys D_q50_0.head.ks):Option (OutT D_q50_0.outs):=@whileO (Int × Int × Int × (List Rt) × (List Int) × (List Rt) × Unit) (((List Rt) × (List Int) × (List Rt) × Unit) ⊕ ((List Rt) × (List Int) × (List Rt) × Unit)) S_spec_l07Reduce_m_0 x
noncomputable def S_q50_1_w (x:Tys D_q50_1.head.ks):Option (OutT D_q50_1.outs):=@whileO (Int × Int × Int × Int × Int × (List Rt) × (List Int) × (List Rt) × Unit) (Int × Int × Int × Int × Int × (List Rt) × (List Int) × (List Rt) × Unit) S_spec_l07Reduce_m_1 x
noncomputable def S_q50_2_w (x:Tys D_q50_2.head.ks):Option (OutT D_q50_2.outs):=@whileO (Int × Int × Int × Int × Int × Int × (List Rt) × (List Rt) × (List Int) × Unit) (Int × Int × Int × Int × (List Rt) × (List Rt) × (List Int) × Unit) S_spec_l07Reduce_m_2 x
noncomputable def S_q50_3_w (x:Tys D_q50_3.head.ks):Option (OutT D_q50_3.outs):=@whileO (Int × Int × Int × Int × Int × (List Rt) × Bool × (List Int) × (List Int) × (List Rt) × (List Int) × Unit) (Int × Int × Int × Int × (List Rt) × (List Rt) × (List Int) × Unit) S_spec_l07Reduce_m_3 x
noncomputable def E_q50:Env:=⟨lay,[(65,c_q40),(73,c_q33),(63,c_q37),(74,c_q39),(75,c_q47),(37,c_q49)],[(4,mkLM D_q50_0 S_q50_0_w),(8,mkLM D_q50_1 S_q50_1_w),(14,mkLM D_q50_2 S_q50_2_w),(22,mkLM D_q50_3 S_q50_3_w)],[(17,[(0,[]),(1,[]),(2,[]),(3,[]),(4,[]),(5,[]),(6,[]),(7,[]),(8,[]),(9,[]),(10,[]),(11,[]),(12,[]),(13,[]),(14,[]),(15,[]),(16,[]),(17,[]),(18,[]),(19,[18,17,0,1,2,3,4,5,6,7,8,9,10,11,12,13,14,15,16])]),(24,[(0,[]),(1,[]),(2,[]),(3,[]),(4,[]),(5,[]),(6,[]),(7,[]),(8,[]),(9,[]),(10,[]),(12,[]),(11,[8,9,10]),(13,[11,12,8,9,10]),(14,[]),(15,[14,13,0,1,2,3,4,5,6,7,8,9,10,11,12])])]⟩
theorem cons_q50:ConsOk Tryz.prog FX E_q50.cons:=consOk_cons m_q40 (callable_of Tryz.func65 (by kernel_rfl)) rfl (consOk_cons m_q33 (callable_of Tryz.func73 (by kernel_rfl)) rfl (consOk_cons m_q37 (callable_of Tryz.func63 (by kernel_rfl)) rfl (consOk_cons m_q39 (callable_of Tryz.func74 (by kernel_rfl)) rfl (consOk_cons m_q47 (callable_of Tryz.func75 (by kernel_rfl)) rfl (consOk_cons m_q49 (callable_of Tryz.func37 (by kernel_rfl)) rfl (consOk_nil))))))
theorem S_q50_3_ok (x:Tys D_q50_3.head.ks):stepL E_q50 D_q50_3 body_q50_3 x=S_spec_l07Reduce_m_3 x:=by kernel_rfl
theorem loops_q50_3:loopsIn body_q50_3=[]:=by kernel_rfl
theorem l_q50_3:LoopOk Tryz.prog FX (mkLM D_q50_3 S_q50_3_w) body_q50_3:=loop_ok2 mix lay_ok cons_q50 (by kernel_rfl) (loops_mem loops_q50_3 (trivial)) S_q50_3_ok fun _ _ h=>h
theorem S_q50_2_ok (x:Tys D_q50_2.head.ks):stepL E_q50 D_q50_2 body_q50_2 x=S_spec_l07Reduce_m_2 x:=by kernel_rfl
theorem loops_q50_2:loopsIn body_q50_2=[]:=by kernel_rfl
theorem l_q50_2:LoopOk Tryz.prog FX (mkLM D_q50_2 S_q50_2_w) body_q50_2:=loop_ok2 mix lay_ok cons_q50 (by kernel_rfl) (loops_mem loops_q50_2 (trivial)) S_q50_2_ok fun _ _ h=>h
theorem S_q50_1_ok (x:Tys D_q50_1.head.ks):stepL E_q50 D_q50_1 body_q50_1 x=S_spec_l07Reduce_m_1 x:=by kernel_rfl
theorem loops_q50_1:loopsIn body_q50_1=[]:=by kernel_rfl
theorem l_q50_1:LoopOk Tryz.prog FX (mkLM D_q50_1 S_q50_1_w) body_q50_1:=loop_ok2 mix lay_ok cons_q50 (by kernel_rfl) (loops_mem loops_q50_1 (trivial)) S_q50_1_ok fun _ _ h=>h
theorem S_q50_0_ok (x:Tys D_q50_0.head.ks):stepL E_q50 D_q50_0 body_q50_0 x=S_spec_l07Reduce_m_0 x:=by kernel_rfl
theorem loops_q50_0:loopsIn body_q50_0=[body_q50_1,body_q50_2,body_q50_3]:=by kernel_rfl
theorem l_q50_0:LoopOk Tryz.prog FX (mkLM D_q50_0 S_q50_0_w) body_q50_0:=loop_ok2 mix lay_ok cons_q50 (by kernel_rfl) (loops_mem loops_q50_0 (⟨⟨_,by kernel_rfl,l_q50_1⟩,⟨⟨_,by kernel_rfl,l_q50_2⟩,⟨⟨_,by kernel_rfl,l_q50_3⟩,trivial⟩⟩⟩)) S_q50_0_ok fun _ _ h=>h
theorem loops_q50:loopsIn code_q50=[body_q50_0]:=by kernel_rfl
theorem m_q50:Meets Tryz.prog FX 36 c_q50:=meets_of (E:=E_q50) (code:=code_q50) mix lay_ok cons_q50 Tryz.func36 (by kernel_rfl) sg_q50 (by kernel_rfl) (fun y=>(y.1,y.2.1,y.2.2.1)) c_q50.out (fun _=>rfl) c_q50.run (fun x=>by kernel_rfl) (by kernel_rfl) (loops_mem loops_q50 (⟨⟨_,by kernel_rfl,l_q50_0⟩,trivial⟩))
noncomputable def sg_q53:Sig:=⟨[(true,[.d (.int .i64),.d (.int .i64),.d (.sl .rat)])],[],true,[(true,[.d (.int .i64),.d (.int .i64),.own 0]),(false,[.own 1]),(false,[.d (.bool)])],[(0,.arr false .rat),(1,.arr false .int)]⟩
noncomputable def c_q53:Con:=⟨sg_q53,Mx × List Int × Bool,fun x=>M_spec_Reduce (⟨x.1,x.2.1,x.2.2.1⟩:Mx),fun r=>(r.1.rows,r.1.cols,r.2.2,r.1.cells,r.2.1,())⟩
noncomputable def code_q53:Code:=Tryz.f9.body.getD .skip
noncomputable def E_q53:Env:=⟨lay,[(34,c_q28),(35,c_q52),(36,c_q50),(37,c_q49)],[],[]⟩
theorem cons_q53:ConsOk Tryz.prog FX E_q53.cons:=consOk_cons m_q28 (callable_of Tryz.func34 (by kernel_rfl)) rfl (consOk_cons m_q52 (callable_of Tryz.func35 (by kernel_rfl)) rfl (consOk_cons m_q50 (callable_of Tryz.func36 (by kernel_rfl)) rfl (consOk_cons m_q49 (callable_of Tryz.func37 (by kernel_rfl)) rfl (consOk_nil))))
theorem loops_q53:loopsIn code_q53=[]:=by kernel_rfl
theorem m_q53:Meets Tryz.prog FX 9 c_q53:=meets_of (E:=E_q53) (code:=code_q53) mix lay_ok cons_q53 Tryz.func9 (by kernel_rfl) sg_q53 (by kernel_rfl) (fun y=>((⟨y.1,y.2.1,y.2.2.2.1⟩:Mx),y.2.2.2.2.1,y.2.2.1)) c_q53.out (fun _=>rfl) c_q53.run (fun x=>by kernel_rfl) (by kernel_rfl) (loops_mem loops_q53 (trivial))
noncomputable def sg_q54:Sig:=⟨[(false,[.d (.int .i64)])],[],false,[(false,[.d (.bool)])],[]⟩
noncomputable def c_q54:Con:=⟨sg_q54,Bool,fun x=>M_impl_isLength x.1,fun r=>(r,())⟩
noncomputable def code_q54:Code:=Tryz.f77.body.getD .skip
noncomputable def E_q54:Env:=⟨layD,[],[],[]⟩
theorem cons_q54:ConsOk Tryz.prog FX E_q54.cons:=consOk_nil
theorem loops_q54:loopsIn code_q54=[]:=by kernel_rfl
theorem m_q54:Meets Tryz.prog FX 77 c_q54:=meets_of (E:=E_q54) (code:=code_q54) mix layD_ok cons_q54 Tryz.func77 (by kernel_rfl) sg_q54 (by kernel_rfl) (fun y=>y.1) c_q54.out (fun _=>rfl) c_q54.run (fun x=>by kernel_rfl) (by kernel_rfl) (loops_mem loops_q54 (trivial))
noncomputable def sg_q55:Sig:=⟨[(false,[.d (.sl .int)])],[],false,[(false,[.d (.bool)])],[]⟩
noncomputable def c_q55:Con:=⟨sg_q55,Bool,fun x=>M_impl_NatOk x.1,fun r=>(r,())⟩
noncomputable def code_q55:Code:=Tryz.f120.body.getD .skip
noncomputable def body_q55_0:Code:=(loopsIn code_q55).getD 0 .skip
noncomputable def D_q55_0:LoopD:=⟨⟨mkSlots [(22,false,[.d (.sl .int)]),(23,false,[.d (.int .i64)]),(24,false,[.d (.int .i64)])] 35 0,[]⟩,[],[(.ret,⟨mkSlots [(2,false,[.d (.bool)])] 35 0,[]⟩,[]),(.exit 0,⟨mkSlots [] 35 0,[]⟩,[])]⟩
noncomputable def S_q55_0_w (x:Tys D_q55_0.head.ks):Option (OutT D_q55_0.outs):=@whileO ((List Int) × Int × Int × Unit) ((Bool × Unit) ⊕ (Unit)) S_impl_NatOk_0 x
noncomputable def E_q55:Env:=⟨layD,[],[(4,mkLM D_q55_0 S_q55_0_w)],[]⟩
theorem cons_q55:ConsOk Tryz.prog FX E_q55.cons:=consOk_nil
theorem S_q55_0_ok (x:Tys D_q55_0.head.ks):stepL E_q55 D_q55_0 body_q55_0 x=S_impl_NatOk_0 x:=by kernel_rfl
theorem loops_q55_0:loopsIn body_q55_0=[]:=by kernel_rfl
theorem l_q55_0:LoopOk Tryz.prog FX (mkLM D_q55_0 S_q55_0_w) body_q55_0:=loop_ok2 mix layD_ok cons_q55 (by kernel_rfl) (loops_mem loops_q55_0 (trivial)) S_q55_0_ok fun _ _ h=>h
theorem loops_q55:loopsIn code_q55=[body_q55_0]:=by kernel_rfl
theorem m_q55:Meets Tryz.prog FX 120 c_q55:=meets_of (E:=E_q55) (code:=code_q55) mix layD_ok cons_q55 Tryz.func120 (by kernel_rfl) sg_q55 (by kernel_rfl) (fun y=>y.1) c_q55.out (fun _=>rfl) c_q55.run (fun x=>by kernel_rfl) (by kernel_rfl) (loops_mem loops_q55 (⟨⟨_,by kernel_rfl,l_q55_0⟩,trivial⟩))
noncomputable def sg_q56:Sig:=⟨[(true,[.d (.bool),.d (.sl .int)])],[],false,[(false,[.d (.bool)])],[]⟩
noncomputable def c_q56:Con:=⟨sg_q56,Bool,fun x=>M_impl_BigIntOk (⟨x.1,x.2.1⟩:Bg),fun r=>(r,())⟩
noncomputable def code_q56:Code:=Tryz.f119.body.getD .skip
noncomputable def E_q56:Env:=⟨layD,[(120,c_q55)],[],[]⟩
theorem cons_q56:ConsOk Tryz.prog FX E_q56.cons:=consOk_cons m_q55 (callable_of Tryz.func120 (by kernel_rfl)) rfl (consOk_nil)
theorem loops_q56:loopsIn code_q56=[]:=by kernel_rfl
theorem m_q56:Meets Tryz.prog FX 119 c_q56:=meets_of (E:=E_q56) (code:=code_q56) mix layD_ok cons_q56 Tryz.func119 (by kernel_rfl) sg_q56 (by kernel_rfl) (fun y=>y.1) c_q56.out (fun _=>rfl) c_q56.run (fun x=>by kernel_rfl) (by kernel_rfl) (loops_mem loops_q56 (trivial))
noncomputable def sg_q57:Sig:=⟨[(false,[.d (.sl .int)]),(false,[.d (.sl .int)])],[],false,[(false,[.d (.int .i64)])],[]⟩
noncomputable def c_q57:Con:=⟨sg_q57,Int,fun x=>M_impl_natCmp x.1 x.2.1,fun r=>(r,())⟩
noncomputable def code_q57:Code:=Tryz.f144.body.getD .skip
noncomputable def body_q57_0:Code:=(loopsIn code_q57).getD 0 .skip
noncomputable def D_q57_0:LoopD:=⟨⟨mkSlots [(0,false,[.d (.sl .int)]),(1,false,[.d (.sl .int)]),(5,false,[.d (.int .i64)])] 43 0,[]⟩,[],[(.ret,⟨mkSlots [(4,false,[.d (.int .i64)])] 43 0,[]⟩,[]),(.exit 0,⟨mkSlots [] 43 0,[]⟩,[])]⟩
noncomputable def S_q57_0_w (x:Tys D_q57_0.head.ks):Option (OutT D_q57_0.outs):=@whileO ((List Int) × (List Int) × Int × Unit) ((Int × Unit) ⊕ (Unit)) S_impl_natCmp_0 x
noncomputable def E_q57:Env:=⟨layD,[],[(6,mkLM D_q57_0 S_q57_0_w)],[(8,[(0,[]),(1,[]),(2,[]),(3,[]),(4,[]),(5,[]),(6,[]),(7,[]),(8,[]),(9,[8,3,7,2,6,0,1,4,5])]),(10,[(0,[]),(1,[]),(2,[]),(3,[]),(4,[]),(5,[]),(6,[]),(7,[]),(8,[]),(9,[8,3,7,2,6,0,1,4,5])])]⟩
theorem cons_q57:ConsOk Tryz.prog FX E_q57.cons:=consOk_nil
theorem S_q57_0_ok (x:Tys D_q57_0.head.ks):stepL E_q57 D_q57_0 body_q57_0 x=S_impl_natCmp_0 x:=by kernel_rfl
theorem loops_q57_0:loopsIn body_q57_0=[]:=by kernel_rfl
theorem l_q57_0:LoopOk Tryz.prog FX (mkLM D_q57_0 S_q57_0_w) body_q57_0:=loop_ok2 mix layD_ok cons_q57 (by kernel_rfl) (loops_mem loops_q57_0 (trivial)) S_q57_0_ok fun _ _ h=>h
theorem loops_q57:loopsIn code_q57=[body_q57_0]:=by kernel_rfl
theorem m_q57:Meets Tryz.prog FX 144 c_q57:=meets_of (E:=E_q57) (code:=code_q57) mix layD_ok cons_q57 Tryz.func144 (by kernel_rfl) sg_q57 (by kernel_rfl) (fun y=>y.1) c_q57.out (fun _=>rfl) c_q57.run (fun x=>by kernel_rfl) (by kernel_rfl) (loops_mem loops_q57 (⟨⟨_,by kernel_rfl,l_q57_0⟩,trivial⟩))
noncomputable def sg_q58:Sig:=⟨[(false,[.d (.sl .int)])],[],false,[(false,[.own 0])],[(0,.arr false .int)]⟩
noncomputable def c_q58:Con:=⟨sg_q58,List Int,fun x=>M_impl_copyInts x.1,fun r=>(r,())⟩
noncomputable def code_q58:Code:=Tryz.f93.body.getD .skip
noncomputable def E_q58:Env:=⟨layD,[],[],[]⟩
theorem cons_q58:ConsOk Tryz.prog FX E_q58.cons:=consOk_nil
theorem loops_q58:loopsIn code_q58=[]:=by kernel_rfl
theorem m_q58:Meets Tryz.prog FX 93 c_q58:=meets_of (E:=E_q58) (code:=code_q58) mix layD_ok cons_q58 Tryz.func93 (by kernel_rfl) sg_q58 (by kernel_rfl) (fun y=>y.1) c_q58.out (fun _=>rfl) c_q58.run (fun x=>by kernel_rfl) (by kernel_rfl) (loops_mem loops_q58 (trivial))
noncomputable def sg_q59:Sig:=⟨[(false,[.own 0])],[(0,.arr false .int)],false,[(false,[.own 0])],[(0,.arr false .int)]⟩
noncomputable def c_q59:Con:=⟨sg_q59,List Int,fun x=>M_impl_trim_c x.1,fun r=>(r,())⟩
noncomputable def code_q59:Code:=Tryz.f132.body.getD .skip
noncomputable def body_q59_0:Code:=(loopsIn code_q59).getD 0 .skip
noncomputable def D_q59_0:LoopD:=⟨⟨mkSlots [(0,false,[.own 1408]),(3,false,[.d (.int .i64)])] 21 0,[(1408,.arr false .int)]⟩,[],[(.exit 0,⟨mkSlots [(0,false,[.own 1408]),(3,false,[.d (.int .i64)])] 21 0,[(1408,.arr false .int)]⟩,[])]⟩
noncomputable def S_q59_0_w (x:Tys D_q59_0.head.ks):Option (OutT D_q59_0.outs):=@whileO (Int × (List Int) × Unit) (Int × (List Int) × Unit) S_impl_trim_c_0 x
noncomputable def E_q59:Env:=⟨layD,[],[(2,mkLM D_q59_0 S_q59_0_w)],[]⟩
theorem cons_q59:ConsOk Tryz.prog FX E_q59.cons:=consOk_nil
theorem S_q59_0_ok (x:Tys D_q59_0.head.ks):stepL E_q59 D_q59_0 body_q59_0 x=S_impl_trim_c_0 x:=by kernel_rfl
theorem loops_q59_0:loopsIn body_q59_0=[]:=by kernel_rfl
theorem l_q59_0:LoopOk Tryz.prog FX (mkLM D_q59_0 S_q59_0_w) body_q59_0:=loop_ok2 mix layD_ok cons_q59 (by kernel_rfl) (loops_mem loops_q59_0 (trivial)) S_q59_0_ok fun _ _ h=>h
theorem loops_q59:loopsIn code_q59=[body_q59_0]:=by kernel_rfl
theorem m_q59:Meets Tryz.prog FX 132 c_q59:=meets_of (E:=E_q59) (code:=code_q59) mix layD_ok cons_q59 Tryz.func132 (by kernel_rfl) sg_q59 (by kernel_rfl) (fun y=>y.1) c_q59.out (fun _=>rfl) c_q59.run (fun x=>by kernel_rfl) (by kernel_rfl) (loops_mem loops_q59 (⟨⟨_,by kernel_rfl,l_q59_0⟩,trivial⟩))
noncomputable def sg_q60:Sig:=⟨[(false,[.d (.int .i64)])],[],false,[(false,[.own 0])],[(0,.arr false .int)]⟩
noncomputable def c_q60:Con:=⟨sg_q60,List Int,fun x=>M_impl_NatOf x.1,fun r=>(r,())⟩
noncomputable def code_q60:Code:=Tryz.f155.body.getD .skip
noncomputable def body_q60_0:Code:=(loopsIn code_q60).getD 0 .skip
noncomputable def D_q60_0:LoopD:=⟨⟨mkSlots [(0,false,[.d (.int .i64)]),(3,false,[.own 960])] 14 0,[(960,.arr false .int)]⟩,[(.slot 3 0,960,.int)],[(.exit 0,⟨mkSlots [(3,false,[.own 960])] 14 0,[(960,.arr false .int)]⟩,[(.slot 3 0,960,.int)])]⟩
noncomputable def S_q60_0_w (x:Tys D_q60_0.head.ks):Option (OutT D_q60_0.outs):=@whileO (Int × (List Int) × Unit) ((List Int) × Unit) S_impl_NatOf_0 x
noncomputable def E_q60:Env:=⟨layD,[],[(2,mkLM D_q60_0 S_q60_0_w)],[]⟩
theorem cons_q60:ConsOk Tryz.prog FX E_q60.cons:=consOk_nil
theorem S_q60_0_ok (x:Tys D_q60_0.head.ks):stepL E_q60 D_q60_0 body_q60_0 x=S_impl_NatOf_0 x:=by kernel_rfl
theorem loops_q60_0:loopsIn body_q60_0=[]:=by kernel_rfl
theorem l_q60_0:LoopOk Tryz.prog FX (mkLM D_q60_0 S_q60_0_w) body_q60_0:=loop_ok2 mix layD_ok cons_q60 (by kernel_rfl) (loops_mem loops_q60_0 (trivial)) S_q60_0_ok fun _ _ h=>h
theorem loops_q60:loopsIn code_q60=[body_q60_0]:=by kernel_rfl
theorem m_q60:Meets Tryz.prog FX 155 c_q60:=meets_of (E:=E_q60) (code:=code_q60) mix layD_ok cons_q60 Tryz.func155 (by kernel_rfl) sg_q60 (by kernel_rfl) (fun y=>y.1) c_q60.out (fun _=>rfl) c_q60.run (fun x=>by kernel_rfl) (by kernel_rfl) (loops_mem loops_q60 (⟨⟨_,by kernel_rfl,l_q60_0⟩,trivial⟩))
noncomputable def sg_q61:Sig:=⟨[(false,[.d (.sl .int)]),(false,[.d (.int .i64)])],[],true,[(false,[.own 0]),(false,[.own 1])],[(0,.arr false .int),(1,.arr false .int)]⟩
noncomputable def c_q61:Con:=⟨sg_q61,List Int × List Int,fun x=>M_impl_divSmall x.1 x.2.1,fun r=>(r.1,r.2,())⟩
noncomputable def code_q61:Code:=Tryz.f146.body.getD .skip
noncomputable def body_q61_0:Code:=(loopsIn code_q61).getD 0 .skip
noncomputable def D_q61_0:LoopD:=⟨⟨mkSlots [(0,false,[.d (.sl .int)]),(1,false,[.d (.int .i64)]),(6,false,[.own 2624]),(7,false,[.d (.int .i64)]),(8,false,[.d (.int .i64)])] 40 0,[(2624,.arr false .int)]⟩,[],[(.exit 0,⟨mkSlots [(6,false,[.own 2624]),(7,false,[.d (.int .i64)])] 40 0,[(2624,.arr false .int)]⟩,[])]⟩
noncomputable def S_q61_0_w (x:Tys D_q61_0.head.ks):Option (OutT D_q61_0.outs):=@whileO ((List Int) × Int × Int × Int × (List Int) × Unit) (Int × (List Int) × Unit) S_impl_divSmall_0 x
noncomputable def E_q61:Env:=⟨layD,[(132,c_q59),(155,c_q60)],[(4,mkLM D_q61_0 S_q61_0_w)],[]⟩
theorem cons_q61:ConsOk Tryz.prog FX E_q61.cons:=consOk_cons m_q59 (callable_of Tryz.func132 (by kernel_rfl)) rfl (consOk_cons m_q60 (callable_of Tryz.func155 (by kernel_rfl)) rfl (consOk_nil))
theorem S_q61_0_ok (x:Tys D_q61_0.head.ks):stepL E_q61 D_q61_0 body_q61_0 x=S_impl_divSmall_0 x:=by kernel_rfl
theorem loops_q61_0:loopsIn body_q61_0=[]:=by kernel_rfl
theorem l_q61_0:LoopOk Tryz.prog FX (mkLM D_q61_0 S_q61_0_w) body_q61_0:=loop_ok2 mix layD_ok cons_q61 (by kernel_rfl) (loops_mem loops_q61_0 (trivial)) S_q61_0_ok fun _ _ h=>h
theorem loops_q61:loopsIn code_q61=[body_q61_0]:=by kernel_rfl
theorem m_q61:Meets Tryz.prog FX 146 c_q61:=meets_of (E:=E_q61) (code:=code_q61) mix layD_ok cons_q61 Tryz.func146 (by kernel_rfl) sg_q61 (by kernel_rfl) (fun y=>(y.1,y.2.1)) c_q61.out (fun _=>rfl) c_q61.run (fun x=>by kernel_rfl) (by kernel_rfl) (loops_mem loops_q61 (⟨⟨_,by kernel_rfl,l_q61_0⟩,trivial⟩))
noncomputable def sg_q62:Sig:=⟨[(false,[.d (.sl .int)]),(false,[.d (.sl .int)])],[],false,[(false,[.own 0])],[(0,.arr false .int)]⟩
noncomputable def c_q62:Con:=⟨sg_q62,List Int,fun x=>M_impl_natMul x.1 x.2.1,fun r=>(r,())⟩
noncomputable def code_q62:Code:=Tryz.f97.body.getD .skip
noncomputable def body_q62_0:Code:=(loopsIn code_q62).getD 0 .skip
noncomputable def body_q62_1:Code:=(loopsIn body_q62_0).getD 0 .skip
noncomputable def D_q62_0:LoopD:=⟨⟨mkSlots [(1,false,[.d (.sl .int)]),(5,false,[.own 4352]),(18,false,[.d (.sl .int)]),(19,false,[.d (.int .i64)]),(20,false,[.d (.int .i64)])] 67 0,[(4352,.arr false .int)]⟩,[],[(.exit 0,⟨mkSlots [(5,false,[.own 4352])] 67 0,[(4352,.arr false .int)]⟩,[])]⟩
noncomputable def D_q62_1:LoopD:=⟨⟨mkSlots [(1,false,[.d (.sl .int)]),(5,false,[.own 4352]),(6,false,[.d (.int .i64)]),(7,false,[.d (.int .i64)]),(8,false,[.d (.int .i64)]),(18,false,[.d (.sl .int)]),(19,false,[.d (.int .i64)]),(20,false,[.d (.int .i64)]),(25,false,[.d (.sl .int)]),(26,false,[.d (.int .i64)]),(27,false,[.d (.int .i64)])] 67 0,[(4352,.arr false .int)]⟩,[],[(.exit 2,⟨mkSlots [(1,false,[.d (.sl .int)]),(5,false,[.own 4352]),(6,false,[.d (.int .i64)]),(8,false,[.d (.int .i64)]),(18,false,[.d (.sl .int)]),(19,false,[.d (.int .i64)]),(20,false,[.d (.int .i64)])] 67 0,[(4352,.arr false .int)]⟩,[])]⟩
noncomputable def S_q62_0_w (x:Tys D_q62_0.head.ks):Option (OutT D_q62_0.outs):=@whileO ((List Int) × (List Int) × Int × Int × (List Int) × Unit) ((List Int) × Unit) S_impl_natMul_0 x
noncomputable def S_q62_1_w (x:Tys D_q62_1.head.ks):Option (OutT D_q62_1.outs):=@whileO ((List Int) × Int × Int × Int × (List Int) × Int × Int × (List Int) × Int × Int × (List Int) × Unit) ((List Int) × Int × Int × (List Int) × Int × Int × (List Int) × Unit) S_impl_natMul_1 x
noncomputable def E_q62:Env:=⟨layD,[(132,c_q59)],[(3,mkLM D_q62_0 S_q62_0_w),(7,mkLM D_q62_1 S_q62_1_w)],[]⟩
theorem cons_q62:ConsOk Tryz.prog FX E_q62.cons:=consOk_cons m_q59 (callable_of Tryz.func132 (by kernel_rfl)) rfl (consOk_nil)
theorem S_q62_1_ok (x:Tys D_q62_1.head.ks):stepL E_q62 D_q62_1 body_q62_1 x=S_impl_natMul_1 x:=by kernel_rfl
theorem loops_q62_1:loopsIn body_q62_1=[]:=by kernel_rfl
theorem l_q62_1:LoopOk Tryz.prog FX (mkLM D_q62_1 S_q62_1_w) body_q62_1:=loop_ok2 mix layD_ok cons_q62 (by kernel_rfl) (loops_mem loops_q62_1 (trivial)) S_q62_1_ok fun _ _ h=>h
theorem S_q62_0_ok (x:Tys D_q62_0.head.ks):stepL E_q62 D_q62_0 body_q62_0 x=S_impl_natMul_0 x:=by kernel_rfl
theorem loops_q62_0:loopsIn body_q62_0=[body_q62_1]:=by kernel_rfl
theorem l_q62_0:LoopOk Tryz.prog FX (mkLM D_q62_0 S_q62_0_w) body_q62_0:=loop_ok2 mix layD_ok cons_q62 (by kernel_rfl) (loops_mem loops_q62_0 (⟨⟨_,by kernel_rfl,l_q62_1⟩,trivial⟩)) S_q62_0_ok fun _ _ h=>h
theorem loops_q62:loopsIn code_q62=[body_q62_0]:=by kernel_rfl
theorem m_q62:Meets Tryz.prog FX 97 c_q62:=meets_of (E:=E_q62) (code:=code_q62) mix layD_ok cons_q62 Tryz.func97 (by kernel_rfl) sg_q62 (by kernel_rfl) (fun y=>y.1) c_q62.out (fun _=>rfl) c_q62.run (fun x=>by kernel_rfl) (by kernel_rfl) (loops_mem loops_q62 (⟨⟨_,by kernel_rfl,l_q62_0⟩,trivial⟩))
noncomputable def sg_q63:Sig:=⟨[(false,[.d (.sl .int)]),(false,[.d (.sl .int)])],[],true,[(false,[.own 0]),(false,[.own 1])],[(0,.arr false .int),(1,.arr false .int)]⟩
noncomputable def c_q63:Con:=⟨sg_q63,List Int × List Int,fun x=>M_impl_natDiv x.1 x.2.1,fun r=>(r.1,r.2,())⟩
noncomputable def code_q63:Code:=Tryz.f130.body.getD .skip
noncomputable def body_q63_0:Code:=(loopsIn code_q63).getD 0 .skip
noncomputable def body_q63_1:Code:=(loopsIn code_q63).getD 1 .skip
noncomputable def body_q63_2:Code:=(loopsIn body_q63_1).getD 0 .skip
noncomputable def body_q63_3:Code:=(loopsIn body_q63_1).getD 1 .skip
noncomputable def body_q63_4:Code:=(loopsIn body_q63_1).getD 2 .skip
noncomputable def D_q63_0:LoopD:=⟨⟨mkSlots [(0,false,[.d (.sl .int)]),(6,false,[.d (.int .i64)]),(7,false,[.own 15360]),(8,false,[.own 15424]),(9,false,[.d (.int .i64)])] 239 0,[(15360,.arr false .int),(15424,.arr false .int)]⟩,[],[(.exit 0,⟨mkSlots [(6,false,[.d (.int .i64)]),(7,false,[.own 15360]),(8,false,[.own 15424]),(9,false,[.d (.int .i64)])] 239 0,[(15360,.arr false .int),(15424,.arr false .int)]⟩,[])]⟩
noncomputable def D_q63_1:LoopD:=⟨⟨mkSlots [(6,false,[.d (.int .i64)]),(7,false,[.own 15360]),(8,false,[.own 15424]),(9,false,[.d (.int .i64)]),(10,false,[.own 15488]),(11,false,[.d (.int .i64)]),(12,false,[.d (.int .i64)])] 239 0,[(15360,.arr false .int),(15424,.arr false .int),(15488,.arr false .int)]⟩,[],[(.exit 2,⟨mkSlots [(6,false,[.d (.int .i64)]),(7,false,[.own 15360]),(10,false,[.own 15488])] 239 0,[(15360,.arr false .int),(15488,.arr false .int)]⟩,[])]⟩
noncomputable def D_q63_2:LoopD:=⟨⟨mkSlots [(6,false,[.d (.int .i64)]),(7,false,[.own 15360]),(8,false,[.own 15424]),(9,false,[.d (.int .i64)]),(10,false,[.own 15488]),(11,false,[.d (.int .i64)]),(12,false,[.d (.int .i64)]),(14,false,[.d (.int .i64)]),(15,false,[.d (.int .i64)])] 239 0,[(15360,.arr false .int),(15424,.arr false .int),(15488,.arr false .int)]⟩,[],[(.exit 4,⟨mkSlots [(6,false,[.d (.int .i64)]),(7,false,[.own 15360]),(8,false,[.own 15424]),(9,false,[.d (.int .i64)]),(10,false,[.own 15488]),(11,false,[.d (.int .i64)]),(12,false,[.d (.int .i64)]),(14,false,[.d (.int .i64)])] 239 0,[(15360,.arr false .int),(15424,.arr false .int),(15488,.arr false .int)]⟩,[])]⟩
noncomputable def D_q63_3:LoopD:=⟨⟨mkSlots [(6,false,[.d (.int .i64)]),(7,false,[.own 15360]),(8,false,[.own 15424]),(9,false,[.d (.int .i64)]),(10,false,[.own 15488]),(11,false,[.d (.int .i64)]),(12,false,[.d (.int .i64)]),(14,false,[.d (.int .i64)]),(16,false,[.d (.int .i64)]),(135,false,[.d (.int .i64)]),(136,false,[.d (.int .i64)])] 239 0,[(15360,.arr false .int),(15424,.arr false .int),(15488,.arr false .int)]⟩,[],[(.exit 6,⟨mkSlots [(6,false,[.d (.int .i64)]),(7,false,[.own 15360]),(8,false,[.own 15424]),(9,false,[.d (.int .i64)]),(10,false,[.own 15488]),(11,false,[.d (.int .i64)]),(12,false,[.d (.int .i64)]),(14,false,[.d (.int .i64)]),(16,false,[.d (.int .i64)])] 239 0,[(15360,.arr false .int),(15424,.arr false .int),(15488,.arr false .int)]⟩,[])]⟩
noncomputable def D_q63_4:LoopD:=⟨⟨mkSlots [(6,false,[.d (.int .i64)]),(7,false,[.own 15360]),(8,false,[.own 15424]),(9,false,[.d (.int .i64)]),(10,false,[.own 15488]),(11,false,[.d (.int .i64)]),(12,false,[.d (.int .i64)]),(14,false,[.d (.int .i64)]),(19,false,[.d (.int .i64)]),(188,false,[.d (.int .i64)]),(189,false,[.d (.int .i64)])] 239 0,[(15360,.arr false .int),(15424,.arr false .int),(15488,.arr false .int)]⟩,[],[(.exit 8,⟨mkSlots [(6,false,[.d (.int .i64)]),(7,false,[.own 15360]),(8,false,[.own 15424]),(9,false,[.d (.int .i64)]),(10,false,[.own 15488]),(11,false,[.d (.int .i64)]),(12,false,[.d (.int .i64)]),(14,false,[.d (.int .i64)]),(19,false,[.d (.int .i64)])] 239 0,[(15360,.arr false .int),(15424,.arr false .int),(15488,.arr false .int)]⟩,[])]⟩
noncomputable def S_q63_0_w (x:Tys D_q63_0.head.ks):Option (OutT D_q63_0.outs):=@whileO ((List Int) × Int × Int × (List Int) × (List Int) × Unit) (Int × Int × (List Int) × (List Int) × Unit) S_impl_natDiv_0 x
noncomputable def S_q63_1_w (x:Tys D_q63_1.head.ks):Option (OutT D_q63_1.outs):=@whileO (Int × Int × Int × Int × (List Int) × (List Int) × (List Int) × Unit) (Int × (List Int) × (List Int) × Unit) S_impl_natDiv_1 x
noncomputable def S_q63_2_w (x:Tys D_q63_2.head.ks):Option (OutT D_q63_2.outs):=@whileO (Int × Int × Int × Int × Int × Int × (List Int) × (List Int) × (List Int) × Unit) (Int × Int × Int × Int × Int × (List Int) × (List Int) × (List Int) × Unit) S_impl_natDiv_2 x
noncomputable def S_q63_3_w (x:Tys D_q63_3.head.ks):Option (OutT D_q63_3.outs):=@whileO (Int × Int × Int × Int × Int × Int × Int × Int × (List Int) × (List Int) × (List Int) × Unit) (Int × Int × Int × Int × Int × Int × (List Int) × (List Int) × (List Int) × Unit) S_impl_natDiv_3 x
noncomputable def S_q63_4_w (x:Tys D_q63_4.head.ks):Option (OutT D_q63_4.outs):=@whileO (Int × Int × Int × Int × Int × Int × Int × Int × (List Int) × (List Int) × (List Int) × Unit) (Int × Int × Int × Int × Int × Int × (List Int) × (List Int) × (List Int) × Unit) S_impl_natDiv_4 x
noncomputable def E_q63:Env:=⟨layD,[(144,c_q57),(93,c_q58),(146,c_q61),(97,c_q62),(132,c_q59)],[(9,mkLM D_q63_0 S_q63_0_w),(14,mkLM D_q63_1 S_q63_1_w),(18,mkLM D_q63_2 S_q63_2_w),(24,mkLM D_q63_3 S_q63_3_w),(38,mkLM D_q63_4 S_q63_4_w)],[(16,[(0,[]),(1,[]),(2,[]),(3,[]),(4,[]),(5,[]),(6,[]),(7,[]),(8,[]),(9,[]),(10,[]),(11,[]),(12,[]),(13,[]),(14,[]),(15,[14,0,1,2,3,4,5,6,7,8,9,10,11,12,13])]),(17,[(0,[]),(1,[]),(2,[]),(3,[]),(4,[]),(5,[]),(6,[2,0,1]),(7,[5,6,0,1,2,3,4])]),(18,[(0,[]),(1,[]),(2,[]),(3,[]),(4,[]),(5,[]),(6,[]),(7,[]),(8,[]),(9,[]),(10,[]),(11,[]),(12,[]),(13,[]),(14,[]),(15,[]),(16,[]),(17,[]),(18,[]),(19,[]),(20,[]),(21,[])]),(26,[(0,[]),(1,[]),(2,[]),(3,[]),(4,[]),(5,[]),(6,[]),(7,[]),(8,[]),(9,[]),(10,[]),(11,[]),(12,[]),(13,[]),(14,[]),(15,[14,0,1,2,3,4,5,6,7,8,9,10,11,12,13])]),(40,[(0,[]),(1,[]),(2,[]),(3,[]),(4,[]),(5,[]),(6,[]),(7,[]),(8,[]),(9,[]),(10,[]),(11,[]),(12,[]),(13,[12,0,1,2,3,4,5,6,7,8,9,10,11])])]⟩
theorem cons_q63:ConsOk Tryz.prog FX E_q63.cons:=consOk_cons m_q57 (callable_of Tryz.func144 (by kernel_rfl)) rfl (consOk_cons m_q58 (callable_of Tryz.func93 (by kernel_rfl)) rfl (consOk_cons m_q61 (callable_of Tryz.func146 (by kernel_rfl)) rfl (consOk_cons m_q62 (callable_of Tryz.func97 (by kernel_rfl)) rfl (consOk_cons m_q59 (callable_of Tryz.func132 (by kernel_rfl)) rfl (consOk_nil)))))
theorem S_q63_4_ok (x:Tys D_q63_4.head.ks):stepL E_q63 D_q63_4 body_q63_4 x=S_impl_natDiv_4 x:=by kernel_rfl
theorem loops_q63_4:loopsIn body_q63_4=[]:=by kernel_rfl
theorem l_q63_4:LoopOk Tryz.prog FX (mkLM D_q63_4 S_q63_4_w) body_q63_4:=loop_ok2 mix layD_ok cons_q63 (by kernel_rfl) (loops_mem loops_q63_4 (trivial)) S_q63_4_ok fun _ _ h=>h
theorem S_q63_3_ok (x:Tys D_q63_3.head.ks):stepL E_q63 D_q63_3 body_q63_3 x=S_impl_natDiv_3 x:=by kernel_rfl
theorem loops_q63_3:loopsIn body_q63_3=[]:=by kernel_rfl
theorem l_q63_3:LoopOk Tryz.prog FX (mkLM D_q63_3 S_q63_3_w) body_q63_3:=loop_ok2 mix layD_ok cons_q63 (by kernel_rfl) (loops_mem loops_q63_3 (trivial)) S_q63_3_ok fun _ _ h=>h
theorem S_q63_2_ok (x:Tys D_q63_2.head.ks):stepL E_q63 D_q63_2 body_q63_2 x=S_impl_natDiv_2 x:=by kernel_rfl
theorem loops_q63_2:loopsIn body_q63_2=[]:=by kernel_rfl
theorem l_q63_2:LoopOk Tryz.prog FX (mkLM D_q63_2 S_q63_2_w) body_q63_2:=loop_ok2 mix layD_ok cons_q63 (by kernel_rfl) (loops_mem loops_q63_2 (trivial)) S_q63_2_ok fun _ _ h=>h
theorem S_q63_1_ok (x:Tys D_q63_1.head.ks):stepL E_q63 D_q63_1 body_q63_1 x=S_impl_natDiv_1 x:=by kernel_rfl
theorem loops_q63_1:loopsIn body_q63_1=[body_q63_2,body_q63_3,body_q63_4]:=by kernel_rfl
theorem l_q63_1:LoopOk Tryz.prog FX (mkLM D_q63_1 S_q63_1_w) body_q63_1:=loop_ok2 mix layD_ok cons_q63 (by kernel_rfl) (loops_mem loops_q63_1 (⟨⟨_,by kernel_rfl,l_q63_2⟩,⟨⟨_,by kernel_rfl,l_q63_3⟩,⟨⟨_,by kernel_rfl,l_q63_4⟩,trivial⟩⟩⟩)) S_q63_1_ok fun _ _ h=>h
theorem S_q63_0_ok (x:Tys D_q63_0.head.ks):stepL E_q63 D_q63_0 body_q63_0 x=S_impl_natDiv_0 x:=by kernel_rfl
theorem loops_q63_0:loopsIn body_q63_0=[]:=by kernel_rfl
theorem l_q63_0:LoopOk Tryz.prog FX (mkLM D_q63_0 S_q63_0_w) body_q63_0:=loop_ok2 mix layD_ok cons_q63 (by kernel_rfl) (loops_mem loops_q63_0 (trivial)) S_q63_0_ok fun _ _ h=>h
theorem loops_q63:loopsIn code_q63=[body_q63_0,body_q63_1]:=by kernel_rfl
theorem m_q63:Meets Tryz.prog FX 130 c_q63:=meets_of (E:=E_q63) (code:=code_q63) mix layD_ok cons_q63 Tryz.func130 (by kernel_rfl) sg_q63 (by kernel_rfl) (fun y=>(y.1,y.2.1)) c_q63.out (fun _=>rfl) c_q63.run (fun x=>by kernel_rfl) (by kernel_rfl) (loops_mem loops_q63 (⟨⟨_,by kernel_rfl,l_q63_0⟩,⟨⟨_,by kernel_rfl,l_q63_1⟩,trivial⟩⟩))
noncomputable def sg_q64:Sig:=⟨[(false,[.d (.sl .int)]),(false,[.d (.sl .int)])],[],false,[(false,[.own 0])],[(0,.arr false .int)]⟩
noncomputable def c_q64:Con:=⟨sg_q64,List Int,fun x=>M_impl_natGcd x.1 x.2.1,fun r=>(r,())⟩
noncomputable def code_q64:Code:=Tryz.f122.body.getD .skip
noncomputable def body_q64_0:Code:=(loopsIn code_q64).getD 0 .skip
noncomputable def body_q64_1:Code:=(loopsIn code_q64).getD 1 .skip
noncomputable def D_q64_0:LoopD:=⟨⟨mkSlots [(0,false,[.d (.sl .int)]),(1,false,[.d (.sl .int)])] 49 0,[]⟩,[],[(.exit 0,⟨mkSlots [(0,false,[.d (.sl .int)]),(1,false,[.d (.sl .int)])] 49 0,[]⟩,[])]⟩
noncomputable def D_q64_1:LoopD:=⟨⟨mkSlots [(7,false,[.d (.int .i64)]),(8,false,[.d (.int .i64)])] 49 0,[]⟩,[],[(.exit 2,⟨mkSlots [(7,false,[.d (.int .i64)])] 49 0,[]⟩,[])]⟩
noncomputable def S_q64_0_w (x:Tys D_q64_0.head.ks):Option (OutT D_q64_0.outs):=@whileO ((List Int) × (List Int) × Unit) ((List Int) × (List Int) × Unit) S_impl_natGcd_0 x
noncomputable def S_q64_1_w (x:Tys D_q64_1.head.ks):Option (OutT D_q64_1.outs):=@whileO (Int × Int × Unit) (Int × Unit) S_impl_natGcd_1 x
noncomputable def E_q64:Env:=⟨layD,[(130,c_q63),(93,c_q58)],[(1,mkLM D_q64_0 S_q64_0_w),(7,mkLM D_q64_1 S_q64_1_w)],[(6,[(0,[]),(1,[]),(2,[]),(3,[]),(4,[]),(5,[]),(6,[2,0,1]),(7,[5,6,0,1,2,3,4])]),(8,[(0,[]),(1,[]),(2,[]),(3,[]),(4,[0,1]),(5,[3,4,0,1,2])])]⟩
theorem cons_q64:ConsOk Tryz.prog FX E_q64.cons:=consOk_cons m_q63 (callable_of Tryz.func130 (by kernel_rfl)) rfl (consOk_cons m_q58 (callable_of Tryz.func93 (by kernel_rfl)) rfl (consOk_nil))
theorem S_q64_1_ok (x:Tys D_q64_1.head.ks):stepL E_q64 D_q64_1 body_q64_1 x=S_impl_natGcd_1 x:=by kernel_rfl
theorem loops_q64_1:loopsIn body_q64_1=[]:=by kernel_rfl
theorem l_q64_1:LoopOk Tryz.prog FX (mkLM D_q64_1 S_q64_1_w) body_q64_1:=loop_ok2 mix layD_ok cons_q64 (by kernel_rfl) (loops_mem loops_q64_1 (trivial)) S_q64_1_ok fun _ _ h=>h
theorem S_q64_0_ok (x:Tys D_q64_0.head.ks):stepL E_q64 D_q64_0 body_q64_0 x=S_impl_natGcd_0 x:=by kernel_rfl
theorem loops_q64_0:loopsIn body_q64_0=[]:=by kernel_rfl
theorem l_q64_0:LoopOk Tryz.prog FX (mkLM D_q64_0 S_q64_0_w) body_q64_0:=loop_ok2 mix layD_ok cons_q64 (by kernel_rfl) (loops_mem loops_q64_0 (trivial)) S_q64_0_ok fun _ _ h=>h
theorem loops_q64:loopsIn code_q64=[body_q64_0,body_q64_1]:=by kernel_rfl
theorem m_q64:Meets Tryz.prog FX 122 c_q64:=meets_of (E:=E_q64) (code:=code_q64) mix layD_ok cons_q64 Tryz.func122 (by kernel_rfl) sg_q64 (by kernel_rfl) (fun y=>y.1) c_q64.out (fun _=>rfl) c_q64.run (fun x=>by kernel_rfl) (by kernel_rfl) (loops_mem loops_q64 (⟨⟨_,by kernel_rfl,l_q64_0⟩,⟨⟨_,by kernel_rfl,l_q64_1⟩,trivial⟩⟩))
noncomputable def sg_q65:Sig:=⟨[(false,[.d (.sl .int)])],[],false,[(false,[.d (.bool)])],[]⟩
noncomputable def c_q65:Con:=⟨sg_q65,Bool,fun x=>M_impl_isOne x.1,fun r=>(r,())⟩
noncomputable def code_q65:Code:=Tryz.f121.body.getD .skip
noncomputable def E_q65:Env:=⟨layD,[],[],[]⟩
theorem cons_q65:ConsOk Tryz.prog FX E_q65.cons:=consOk_nil
theorem loops_q65:loopsIn code_q65=[]:=by kernel_rfl
theorem m_q65:Meets Tryz.prog FX 121 c_q65:=meets_of (E:=E_q65) (code:=code_q65) mix layD_ok cons_q65 Tryz.func121 (by kernel_rfl) sg_q65 (by kernel_rfl) (fun y=>y.1) c_q65.out (fun _=>rfl) c_q65.run (fun x=>by kernel_rfl) (by kernel_rfl) (loops_mem loops_q65 (trivial))
noncomputable def sg_q66:Sig:=⟨[(true,[.d (.bool),.d (.sl .int),.d (.sl .int)])],[],false,[(false,[.d (.bool)])],[]⟩
noncomputable def c_q66:Con:=⟨sg_q66,Bool,fun x=>M_impl_RatOk (⟨x.1,x.2.1,x.2.2.1⟩:Rt),fun r=>(r,())⟩
noncomputable def code_q66:Code:=Tryz.f78.body.getD .skip
noncomputable def E_q66:Env:=⟨layD,[(119,c_q56),(120,c_q55),(122,c_q64),(121,c_q65)],[],[]⟩
theorem cons_q66:ConsOk Tryz.prog FX E_q66.cons:=consOk_cons m_q56 (callable_of Tryz.func119 (by kernel_rfl)) rfl (consOk_cons m_q55 (callable_of Tryz.func120 (by kernel_rfl)) rfl (consOk_cons m_q64 (callable_of Tryz.func122 (by kernel_rfl)) rfl (consOk_cons m_q65 (callable_of Tryz.func121 (by kernel_rfl)) rfl (consOk_nil))))
theorem loops_q66:loopsIn code_q66=[]:=by kernel_rfl
theorem m_q66:Meets Tryz.prog FX 78 c_q66:=meets_of (E:=E_q66) (code:=code_q66) mix layD_ok cons_q66 Tryz.func78 (by kernel_rfl) sg_q66 (by kernel_rfl) (fun y=>y.1) c_q66.out (fun _=>rfl) c_q66.run (fun x=>by kernel_rfl) (by kernel_rfl) (loops_mem loops_q66 (trivial))
noncomputable def sg_q67:Sig:=⟨[(true,[.d (.int .i64),.d (.int .i64),.d (.sl .rat)])],[],false,[(false,[.d (.bool)])],[]⟩
noncomputable def c_q67:Con:=⟨sg_q67,Bool,fun x=>M_impl_MatrixOk (⟨x.1,x.2.1,x.2.2.1⟩:Mx),fun r=>(r,())⟩
noncomputable def code_q67:Code:=Tryz.f38.body.getD .skip
noncomputable def body_q67_0:Code:=(loopsIn code_q67).getD 0 .skip
noncomputable def D_q67_0:LoopD:=⟨⟨mkSlots [(27,false,[.d (.sl .rat)]),(28,false,[.d (.int .i64)]),(29,false,[.d (.int .i64)])] 37 0,[]⟩,[],[(.ret,⟨mkSlots [(2,false,[.d (.bool)])] 37 0,[]⟩,[]),(.exit 0,⟨mkSlots [] 37 0,[]⟩,[])]⟩
noncomputable def S_q67_0_w (x:Tys D_q67_0.head.ks):Option (OutT D_q67_0.outs):=@whileO ((List Rt) × Int × Int × Unit) ((Bool × Unit) ⊕ (Unit)) S_impl_MatrixOk_0 x
noncomputable def E_q67:Env:=⟨layD,[(77,c_q54),(78,c_q66)],[(4,mkLM D_q67_0 S_q67_0_w)],[]⟩
theorem cons_q67:ConsOk Tryz.prog FX E_q67.cons:=consOk_cons m_q54 (callable_of Tryz.func77 (by kernel_rfl)) rfl (consOk_cons m_q66 (callable_of Tryz.func78 (by kernel_rfl)) rfl (consOk_nil))
theorem S_q67_0_ok (x:Tys D_q67_0.head.ks):stepL E_q67 D_q67_0 body_q67_0 x=S_impl_MatrixOk_0 x:=by kernel_rfl
theorem loops_q67_0:loopsIn body_q67_0=[]:=by kernel_rfl
theorem l_q67_0:LoopOk Tryz.prog FX (mkLM D_q67_0 S_q67_0_w) body_q67_0:=loop_ok2 mix layD_ok cons_q67 (by kernel_rfl) (loops_mem loops_q67_0 (trivial)) S_q67_0_ok fun _ _ h=>h
theorem loops_q67:loopsIn code_q67=[body_q67_0]:=by kernel_rfl
theorem m_q67:Meets Tryz.prog FX 38 c_q67:=meets_of (E:=E_q67) (code:=code_q67) mix layD_ok cons_q67 Tryz.func38 (by kernel_rfl) sg_q67 (by kernel_rfl) (fun y=>y.1) c_q67.out (fun _=>rfl) c_q67.run (fun x=>by kernel_rfl) (by kernel_rfl) (loops_mem loops_q67 (⟨⟨_,by kernel_rfl,l_q67_0⟩,trivial⟩))
noncomputable def sg_q68:Sig:=⟨[(true,[.d (.bool),.d (.sl .int),.d (.sl .int)])],[],false,[(true,[.d (.bool),.own 0,.own 1])],[(0,.arr false .int),(1,.arr false .int)]⟩
noncomputable def c_q68:Con:=⟨sg_q68,Rt,fun x=>M_impl_copyRat (⟨x.1,x.2.1,x.2.2.1⟩:Rt),fun r=>(r.neg,r.mag,r.den,())⟩
noncomputable def code_q68:Code:=Tryz.f44.body.getD .skip
noncomputable def E_q68:Env:=⟨layD,[(93,c_q58)],[],[(1,[(0,[]),(1,[]),(2,[]),(3,[]),(4,[]),(5,[]),(8,[]),(9,[]),(6,[5,4,3]),(7,[]),(10,[9,6,8,5,4,3]),(11,[]),(12,[11,10,0,1,2,3,4,5,6,7,8,9])])]⟩
theorem cons_q68:ConsOk Tryz.prog FX E_q68.cons:=consOk_cons m_q58 (callable_of Tryz.func93 (by kernel_rfl)) rfl (consOk_nil)
theorem loops_q68:loopsIn code_q68=[]:=by kernel_rfl
theorem m_q68:Meets Tryz.prog FX 44 c_q68:=meets_of (E:=E_q68) (code:=code_q68) mix layD_ok cons_q68 Tryz.func44 (by kernel_rfl) sg_q68 (by kernel_rfl) (fun y=>(⟨y.1,y.2.1,y.2.2.1⟩:Rt)) c_q68.out (fun _=>rfl) c_q68.run (fun x=>by kernel_rfl) (by kernel_rfl) (loops_mem loops_q68 (trivial))
noncomputable def sg_q69:Sig:=⟨[(false,[.d (.sl .rat)])],[],false,[(false,[.dp 0])],[(0,.deep .rat)]⟩
noncomputable def c_q69:Con:=⟨sg_q69,List Rt,fun x=>M_impl_copyVector x.1,fun r=>(r,())⟩
noncomputable def code_q69:Code:=Tryz.f79.body.getD .skip
noncomputable def body_q69_0:Code:=(loopsIn code_q69).getD 0 .skip
noncomputable def D_q69_0:LoopD:=⟨⟨mkSlots [(3,false,[.dp 1280]),(6,false,[.d (.sl .rat)]),(7,false,[.d (.int .i64)]),(8,false,[.d (.int .i64)])] 19 0,[(1280,.deep .rat)]⟩,[(.slotD 3 0,1280,.rat)],[(.exit 0,⟨mkSlots [(3,false,[.dp 1280])] 19 0,[(1280,.deep .rat)]⟩,[(.slotD 3 0,1280,.rat)])]⟩
noncomputable def S_q69_0_w (x:Tys D_q69_0.head.ks):Option (OutT D_q69_0.outs):=@whileO ((List Rt) × Int × Int × (List Rt) × Unit) ((List Rt) × Unit) S_impl_copyVector_0 x
noncomputable def E_q69:Env:=⟨layD,[(44,c_q68)],[(3,mkLM D_q69_0 S_q69_0_w)],[]⟩
theorem cons_q69:ConsOk Tryz.prog FX E_q69.cons:=consOk_cons m_q68 (callable_of Tryz.func44 (by kernel_rfl)) rfl (consOk_nil)
theorem S_q69_0_ok (x:Tys D_q69_0.head.ks):stepL E_q69 D_q69_0 body_q69_0 x=S_impl_copyVector_0 x:=by kernel_rfl
theorem loops_q69_0:loopsIn body_q69_0=[]:=by kernel_rfl
theorem l_q69_0:LoopOk Tryz.prog FX (mkLM D_q69_0 S_q69_0_w) body_q69_0:=loop_ok2 mix layD_ok cons_q69 (by kernel_rfl) (loops_mem loops_q69_0 (trivial)) S_q69_0_ok fun _ _ h=>h
theorem loops_q69:loopsIn code_q69=[body_q69_0]:=by kernel_rfl
theorem m_q69:Meets Tryz.prog FX 79 c_q69:=meets_of (E:=E_q69) (code:=code_q69) mix layD_ok cons_q69 Tryz.func79 (by kernel_rfl) sg_q69 (by kernel_rfl) (fun y=>y.1) c_q69.out (fun _=>rfl) c_q69.run (fun x=>by kernel_rfl) (by kernel_rfl) (loops_mem loops_q69 (⟨⟨_,by kernel_rfl,l_q69_0⟩,trivial⟩))
noncomputable def sg_q71:Sig:=⟨[(true,[.d (.int .i64),.d (.int .i64),.d (.sl .trat)]),(false,[.d (.int .i64)]),(false,[.d (.int .i64)])],[],false,[(true,[.d (.bool),.d (.tok),.d (.tok)])],[]⟩
noncomputable def c_q71:Con:=⟨sg_q71,TRt,fun x=>M_impl_Matrix_at_tdd (⟨x.1,x.2.1,x.2.2.1⟩:MxT) x.2.2.2.1 x.2.2.2.2.1,fun r=>(r.neg,r.mag,r.den,())⟩
noncomputable def code_q71:Code:=Tryz.f45.body.getD .skip
noncomputable def E_q71:Env:=⟨layT,[],[],[]⟩
theorem cons_q71:ConsOk Tryz.prog FX E_q71.cons:=consOk_nil
theorem loops_q71:loopsIn code_q71=[]:=by kernel_rfl
theorem m_q71:Meets Tryz.prog FX 45 c_q71:=meets_of (E:=E_q71) (code:=code_q71) mix layT_ok cons_q71 Tryz.func45 (by kernel_rfl) sg_q71 (by kernel_rfl) (fun y=>(⟨y.1,y.2.1,y.2.2.1⟩:TRt)) c_q71.out (fun _=>rfl) c_q71.run (fun x=>by kernel_rfl) (by kernel_rfl) (loops_mem loops_q71 (trivial))
noncomputable def sg_q72:Sig:=⟨[(true,[.d (.bool),.d (.sl .int),.d (.sl .int)])],[],false,[(false,[.d (.bool)])],[]⟩
noncomputable def c_q72:Con:=⟨sg_q72,Bool,fun x=>M_impl_isZero (⟨x.1,x.2.1,x.2.2.1⟩:Rt),fun r=>(r,())⟩
noncomputable def code_q72:Code:=Tryz.f80.body.getD .skip
noncomputable def E_q72:Env:=⟨layD,[],[],[]⟩
theorem cons_q72:ConsOk Tryz.prog FX E_q72.cons:=consOk_nil
theorem loops_q72:loopsIn code_q72=[]:=by kernel_rfl
theorem m_q72:Meets Tryz.prog FX 80 c_q72:=meets_of (E:=E_q72) (code:=code_q72) mix layD_ok cons_q72 Tryz.func80 (by kernel_rfl) sg_q72 (by kernel_rfl) (fun y=>y.1) c_q72.out (fun _=>rfl) c_q72.run (fun x=>by kernel_rfl) (by kernel_rfl) (loops_mem loops_q72 (trivial))
noncomputable def sg_q73:Sig:=⟨[(false,[.d (.bool)]),(false,[.own 64])],[(64,.arr false .int)],false,[(true,[.d (.bool),.own 0])],[(0,.arr false .int)]⟩
noncomputable def c_q73:Con:=⟨sg_q73,Bg,fun x=>M_impl_signed_dc x.1 x.2.1,fun r=>(r.neg,r.mag,())⟩
noncomputable def code_q73:Code:=Tryz.f131.body.getD .skip
noncomputable def E_q73:Env:=⟨layD,[],[],[]⟩
theorem cons_q73:ConsOk Tryz.prog FX E_q73.cons:=consOk_nil
theorem loops_q73:loopsIn code_q73=[]:=by kernel_rfl
theorem m_q73:Meets Tryz.prog FX 131 c_q73:=meets_of (E:=E_q73) (code:=code_q73) mix layD_ok cons_q73 Tryz.func131 (by kernel_rfl) sg_q73 (by kernel_rfl) (fun y=>(⟨y.1,y.2.1⟩:Bg)) c_q73.out (fun _=>rfl) c_q73.run (fun x=>by kernel_rfl) (by kernel_rfl) (loops_mem loops_q73 (trivial))
noncomputable def sg_q74:Sig:=⟨[(false,[.d (.sl .int)]),(false,[.d (.sl .int)])],[],false,[(false,[.own 0])],[(0,.arr false .int)]⟩
noncomputable def c_q74:Con:=⟨sg_q74,List Int,fun x=>M_impl_natAdd x.1 x.2.1,fun r=>(r,())⟩
noncomputable def code_q74:Code:=Tryz.f143.body.getD .skip
noncomputable def body_q74_0:Code:=(loopsIn code_q74).getD 0 .skip
noncomputable def D_q74_0:LoopD:=⟨⟨mkSlots [(0,false,[.d (.sl .int)]),(1,false,[.d (.sl .int)]),(5,false,[.own 3648]),(6,false,[.d (.int .i64)]),(21,false,[.d (.int .i64)]),(22,false,[.d (.int .i64)])] 56 0,[(3648,.arr false .int)]⟩,[],[(.exit 0,⟨mkSlots [(5,false,[.own 3648]),(6,false,[.d (.int .i64)])] 56 0,[(3648,.arr false .int)]⟩,[])]⟩
noncomputable def S_q74_0_w (x:Tys D_q74_0.head.ks):Option (OutT D_q74_0.outs):=@whileO ((List Int) × (List Int) × Int × Int × Int × (List Int) × Unit) (Int × (List Int) × Unit) S_impl_natAdd_0 x
noncomputable def E_q74:Env:=⟨layD,[],[(6,mkLM D_q74_0 S_q74_0_w)],[]⟩
theorem cons_q74:ConsOk Tryz.prog FX E_q74.cons:=consOk_nil
theorem S_q74_0_ok (x:Tys D_q74_0.head.ks):stepL E_q74 D_q74_0 body_q74_0 x=S_impl_natAdd_0 x:=by kernel_rfl
theorem loops_q74_0:loopsIn body_q74_0=[]:=by kernel_rfl
theorem l_q74_0:LoopOk Tryz.prog FX (mkLM D_q74_0 S_q74_0_w) body_q74_0:=loop_ok2 mix layD_ok cons_q74 (by kernel_rfl) (loops_mem loops_q74_0 (trivial)) S_q74_0_ok fun _ _ h=>h
theorem loops_q74:loopsIn code_q74=[body_q74_0]:=by kernel_rfl
theorem m_q74:Meets Tryz.prog FX 143 c_q74:=meets_of (E:=E_q74) (code:=code_q74) mix layD_ok cons_q74 Tryz.func143 (by kernel_rfl) sg_q74 (by kernel_rfl) (fun y=>y.1) c_q74.out (fun _=>rfl) c_q74.run (fun x=>by kernel_rfl) (by kernel_rfl) (loops_mem loops_q74 (⟨⟨_,by kernel_rfl,l_q74_0⟩,trivial⟩))
noncomputable def sg_q75:Sig:=⟨[(false,[.d (.int .i64)])],[],false,[(true,[.d (.bool),.own 0])],[(0,.arr false .int)]⟩
noncomputable def c_q75:Con:=⟨sg_q75,Bg,fun x=>M_impl_BigIntOf x.1,fun r=>(r.neg,r.mag,())⟩
noncomputable def code_q75:Code:=Tryz.f148.body.getD .skip
noncomputable def E_q75:Env:=⟨layD,[(155,c_q60),(131,c_q73),(143,c_q74)],[],[]⟩
theorem cons_q75:ConsOk Tryz.prog FX E_q75.cons:=consOk_cons m_q60 (callable_of Tryz.func155 (by kernel_rfl)) rfl (consOk_cons m_q73 (callable_of Tryz.func131 (by kernel_rfl)) rfl (consOk_cons m_q74 (callable_of Tryz.func143 (by kernel_rfl)) rfl (consOk_nil)))
theorem loops_q75:loopsIn code_q75=[]:=by kernel_rfl
theorem m_q75:Meets Tryz.prog FX 148 c_q75:=meets_of (E:=E_q75) (code:=code_q75) mix layD_ok cons_q75 Tryz.func148 (by kernel_rfl) sg_q75 (by kernel_rfl) (fun y=>(⟨y.1,y.2.1⟩:Bg)) c_q75.out (fun _=>rfl) c_q75.run (fun x=>by kernel_rfl) (by kernel_rfl) (loops_mem loops_q75 (trivial))
noncomputable def sg_q76:Sig:=⟨[(false,[.d (.bool)]),(false,[.d (.sl .int)])],[],false,[(true,[.d (.bool),.d (.sl .int)])],[]⟩
noncomputable def c_q76:Con:=⟨sg_q76,Bg,fun x=>M_impl_signed x.1 x.2.1,fun r=>(r.neg,r.mag,())⟩
noncomputable def code_q76:Code:=Tryz.f131.body.getD .skip
noncomputable def E_q76:Env:=⟨layD,[],[],[]⟩
theorem cons_q76:ConsOk Tryz.prog FX E_q76.cons:=consOk_nil
theorem loops_q76:loopsIn code_q76=[]:=by kernel_rfl
theorem m_q76:Meets Tryz.prog FX 131 c_q76:=meets_of (E:=E_q76) (code:=code_q76) mix layD_ok cons_q76 Tryz.func131 (by kernel_rfl) sg_q76 (by kernel_rfl) (fun y=>(⟨y.1,y.2.1⟩:Bg)) c_q76.out (fun _=>rfl) c_q76.run (fun x=>by kernel_rfl) (by kernel_rfl) (loops_mem loops_q76 (trivial))
noncomputable def sg_q77:Sig:=⟨[(true,[.d (.bool),.d (.sl .int)]),(false,[.d (.sl .int)])],[],false,[(true,[.d (.bool),.d (.sl .int),.d (.sl .int)])],[]⟩
noncomputable def c_q77:Con:=⟨sg_q77,Rt,fun x=>M_impl_lowest (⟨x.1,x.2.1⟩:Bg) x.2.2.1,fun r=>(r.neg,r.mag,r.den,())⟩
noncomputable def code_q77:Code:=Tryz.f95.body.getD .skip
noncomputable def E_q77:Env:=⟨layD,[(122,c_q64),(121,c_q65),(130,c_q63),(131,c_q73)],[],[]⟩
theorem cons_q77:ConsOk Tryz.prog FX E_q77.cons:=consOk_cons m_q64 (callable_of Tryz.func122 (by kernel_rfl)) rfl (consOk_cons m_q65 (callable_of Tryz.func121 (by kernel_rfl)) rfl (consOk_cons m_q63 (callable_of Tryz.func130 (by kernel_rfl)) rfl (consOk_cons m_q73 (callable_of Tryz.func131 (by kernel_rfl)) rfl (consOk_nil))))
theorem loops_q77:loopsIn code_q77=[]:=by kernel_rfl
theorem m_q77:Meets Tryz.prog FX 95 c_q77:=meets_of (E:=E_q77) (code:=code_q77) mix layD_ok cons_q77 Tryz.func95 (by kernel_rfl) sg_q77 (by kernel_rfl) (fun y=>(⟨y.1,y.2.1,y.2.2.1⟩:Rt)) c_q77.out (fun _=>rfl) c_q77.run (fun x=>by kernel_rfl) (by kernel_rfl) (loops_mem loops_q77 (trivial))
noncomputable def sg_q78:Sig:=⟨[(true,[.d (.bool),.d (.sl .int)]),(true,[.d (.bool),.d (.sl .int)])],[],false,[(true,[.d (.bool),.own 0,.own 1])],[(0,.arr false .int),(1,.arr false .int)]⟩
noncomputable def c_q78:Con:=⟨sg_q78,Rt,fun x=>M_impl_RatMake (⟨x.1,x.2.1⟩:Bg) (⟨x.2.2.1,x.2.2.2.1⟩:Bg),fun r=>(r.neg,r.mag,r.den,())⟩
noncomputable def code_q78:Code:=Tryz.f147.body.getD .skip
noncomputable def E_q78:Env:=⟨layD,[(119,c_q56),(131,c_q76),(95,c_q77),(44,c_q68)],[],[(3,[(0,[]),(1,[]),(2,[]),(3,[]),(4,[]),(5,[]),(6,[]),(8,[]),(9,[]),(7,[4,6,1,3,5,0,2]),(10,[7,9,4,6,8,1,3,5,0,2]),(11,[10,7,9,4,6,8,1,3,5,0,2]),(12,[11,0,1,2,3,4,5,6,7,8,9,10])])]⟩
theorem cons_q78:ConsOk Tryz.prog FX E_q78.cons:=consOk_cons m_q56 (callable_of Tryz.func119 (by kernel_rfl)) rfl (consOk_cons m_q76 (callable_of Tryz.func131 (by kernel_rfl)) rfl (consOk_cons m_q77 (callable_of Tryz.func95 (by kernel_rfl)) rfl (consOk_cons m_q68 (callable_of Tryz.func44 (by kernel_rfl)) rfl (consOk_nil))))
theorem loops_q78:loopsIn code_q78=[]:=by kernel_rfl
theorem m_q78:Meets Tryz.prog FX 147 c_q78:=meets_of (E:=E_q78) (code:=code_q78) mix layD_ok cons_q78 Tryz.func147 (by kernel_rfl) sg_q78 (by kernel_rfl) (fun y=>(⟨y.1,y.2.1,y.2.2.1⟩:Rt)) c_q78.out (fun _=>rfl) c_q78.run (fun x=>by kernel_rfl) (by kernel_rfl) (loops_mem loops_q78 (trivial))
noncomputable def sg_q79:Sig:=⟨[(false,[.d (.int .i64)]),(false,[.d (.int .i64)])],[],false,[(true,[.d (.bool),.own 0,.own 1])],[(0,.arr false .int),(1,.arr false .int)]⟩
noncomputable def c_q79:Con:=⟨sg_q79,Rt,fun x=>M_impl_RatOf x.1 x.2.1,fun r=>(r.neg,r.mag,r.den,())⟩
noncomputable def code_q79:Code:=Tryz.f135.body.getD .skip
noncomputable def E_q79:Env:=⟨layD,[(148,c_q75),(147,c_q78)],[],[]⟩
theorem cons_q79:ConsOk Tryz.prog FX E_q79.cons:=consOk_cons m_q75 (callable_of Tryz.func148 (by kernel_rfl)) rfl (consOk_cons m_q78 (callable_of Tryz.func147 (by kernel_rfl)) rfl (consOk_nil))
theorem loops_q79:loopsIn code_q79=[]:=by kernel_rfl
theorem m_q79:Meets Tryz.prog FX 135 c_q79:=meets_of (E:=E_q79) (code:=code_q79) mix layD_ok cons_q79 Tryz.func135 (by kernel_rfl) sg_q79 (by kernel_rfl) (fun y=>(⟨y.1,y.2.1,y.2.2.1⟩:Rt)) c_q79.out (fun _=>rfl) c_q79.run (fun x=>by kernel_rfl) (by kernel_rfl) (loops_mem loops_q79 (trivial))
noncomputable def sg_q80:Sig:=⟨[(false,[.d (.int .i64)])],[],false,[(true,[.d (.bool),.own 0,.own 1])],[(0,.arr false .int),(1,.arr false .int)]⟩
noncomputable def c_q80:Con:=⟨sg_q80,Rt,fun x=>M_impl_RatFromInt x.1,fun r=>(r.neg,r.mag,r.den,())⟩
noncomputable def code_q80:Code:=Tryz.f111.body.getD .skip
noncomputable def E_q80:Env:=⟨layD,[(135,c_q79)],[],[]⟩
theorem cons_q80:ConsOk Tryz.prog FX E_q80.cons:=consOk_cons m_q79 (callable_of Tryz.func135 (by kernel_rfl)) rfl (consOk_nil)
theorem loops_q80:loopsIn code_q80=[]:=by kernel_rfl
theorem m_q80:Meets Tryz.prog FX 111 c_q80:=meets_of (E:=E_q80) (code:=code_q80) mix layD_ok cons_q80 Tryz.func111 (by kernel_rfl) sg_q80 (by kernel_rfl) (fun y=>(⟨y.1,y.2.1,y.2.2.1⟩:Rt)) c_q80.out (fun _=>rfl) c_q80.run (fun x=>by kernel_rfl) (by kernel_rfl) (loops_mem loops_q80 (trivial))
noncomputable def sg_q81:Sig:=⟨[(false,[.d (.int .i64)])],[],false,[(true,[.d (.bool),.own 0,.own 1])],[(0,.arr false .int),(1,.arr false .int)]⟩
noncomputable def c_q81:Con:=⟨sg_q81,Rt,fun x=>M_impl_whole x.1,fun r=>(r.neg,r.mag,r.den,())⟩
noncomputable def code_q81:Code:=Tryz.f68.body.getD .skip
noncomputable def E_q81:Env:=⟨layD,[(111,c_q80)],[],[]⟩
theorem cons_q81:ConsOk Tryz.prog FX E_q81.cons:=consOk_cons m_q80 (callable_of Tryz.func111 (by kernel_rfl)) rfl (consOk_nil)
theorem loops_q81:loopsIn code_q81=[]:=by kernel_rfl
theorem m_q81:Meets Tryz.prog FX 68 c_q81:=meets_of (E:=E_q81) (code:=code_q81) mix layD_ok cons_q81 Tryz.func68 (by kernel_rfl) sg_q81 (by kernel_rfl) (fun y=>(⟨y.1,y.2.1,y.2.2.1⟩:Rt)) c_q81.out (fun _=>rfl) c_q81.run (fun x=>by kernel_rfl) (by kernel_rfl) (loops_mem loops_q81 (trivial))
noncomputable def sg_q83:Sig:=⟨[(true,[.d (.int .i64),.d (.int .i64),.own 191]),(false,[.d (.int .i64)])],[(191,.arr false .trat)],false,[(false,[.win 191])],[(191,.arr false .trat)]⟩
noncomputable def c_q83:Con:=⟨sg_q83,(Nat × Nat) × List TRt,fun x=>M_impl_Matrix_row_Td (⟨x.1,x.2.1,x.2.2.2.1⟩:MxT) x.2.2.1,fun r=>(r.1.1,r.1.2,r.2,())⟩
noncomputable def code_q83:Code:=Tryz.f81.body.getD .skip
noncomputable def E_q83:Env:=⟨layT,[],[],[]⟩
theorem cons_q83:ConsOk Tryz.prog FX E_q83.cons:=consOk_nil
theorem loops_q83:loopsIn code_q83=[]:=by kernel_rfl
theorem m_q83:Meets Tryz.prog FX 81 c_q83:=meets_of (E:=E_q83) (code:=code_q83) mix layT_ok cons_q83 Tryz.func81 (by kernel_rfl) sg_q83 (by kernel_rfl) (fun y=>((y.1,y.2.1),y.2.2.1)) c_q83.out (fun _=>rfl) c_q83.run (fun x=>by kernel_rfl) (by kernel_rfl) (loops_mem loops_q83 (trivial))
noncomputable def sg_q84:Sig:=⟨[(true,[.d (.bool),.d (.sl .int),.d (.sl .int)])],[],false,[(false,[.d (.bool)])],[]⟩
noncomputable def c_q84:Con:=⟨sg_q84,Bool,fun x=>M_impl_void (⟨x.1,x.2.1,x.2.2.1⟩:Rt),fun r=>(r,())⟩
noncomputable def code_q84:Code:=Tryz.f48.body.getD .skip
noncomputable def E_q84:Env:=⟨layD,[],[],[]⟩
theorem cons_q84:ConsOk Tryz.prog FX E_q84.cons:=consOk_nil
theorem loops_q84:loopsIn code_q84=[]:=by kernel_rfl
theorem m_q84:Meets Tryz.prog FX 48 c_q84:=meets_of (E:=E_q84) (code:=code_q84) mix layD_ok cons_q84 Tryz.func48 (by kernel_rfl) sg_q84 (by kernel_rfl) (fun y=>y.1) c_q84.out (fun _=>rfl) c_q84.run (fun x=>by kernel_rfl) (by kernel_rfl) (loops_mem loops_q84 (trivial))
noncomputable def sg_q85:Sig:=⟨[(true,[.d (.bool),.d (.sl .int)]),(true,[.d (.bool),.d (.sl .int)])],[],false,[(true,[.d (.bool),.own 0])],[(0,.arr false .int)]⟩
noncomputable def c_q85:Con:=⟨sg_q85,Bg,fun x=>M_impl_bigMul (⟨x.1,x.2.1⟩:Bg) (⟨x.2.2.1,x.2.2.2.1⟩:Bg),fun r=>(r.neg,r.mag,())⟩
noncomputable def code_q85:Code:=Tryz.f96.body.getD .skip
noncomputable def E_q85:Env:=⟨layD,[(97,c_q62),(131,c_q73)],[],[(1,[(0,[]),(1,[]),(2,[]),(3,[]),(4,[]),(5,[]),(6,[]),(7,[]),(8,[]),(9,[6,8,5,7]),(10,[4,9,1,3,6,8,0,2,5,7]),(11,[10,0,1,2,3,4,5,6,7,8,9])])]⟩
theorem cons_q85:ConsOk Tryz.prog FX E_q85.cons:=consOk_cons m_q62 (callable_of Tryz.func97 (by kernel_rfl)) rfl (consOk_cons m_q73 (callable_of Tryz.func131 (by kernel_rfl)) rfl (consOk_nil))
theorem loops_q85:loopsIn code_q85=[]:=by kernel_rfl
theorem m_q85:Meets Tryz.prog FX 96 c_q85:=meets_of (E:=E_q85) (code:=code_q85) mix layD_ok cons_q85 Tryz.func96 (by kernel_rfl) sg_q85 (by kernel_rfl) (fun y=>(⟨y.1,y.2.1⟩:Bg)) c_q85.out (fun _=>rfl) c_q85.run (fun x=>by kernel_rfl) (by kernel_rfl) (loops_mem loops_q85 (trivial))
noncomputable def sg_q86:Sig:=⟨[(true,[.d (.bool),.own 1]),(false,[.own 64])],[(1,.arr false .int),(64,.arr false .int)],false,[(true,[.d (.bool),.own 0,.own 1])],[(0,.arr false .int),(1,.arr false .int)]⟩
noncomputable def c_q86:Con:=⟨sg_q86,Rt,fun x=>M_impl_lowest_cc (⟨x.1,x.2.1⟩:Bg) x.2.2.1,fun r=>(r.neg,r.mag,r.den,())⟩
noncomputable def code_q86:Code:=Tryz.f95.body.getD .skip
noncomputable def E_q86:Env:=⟨layD,[(122,c_q64),(121,c_q65),(130,c_q63),(131,c_q73)],[],[]⟩
theorem cons_q86:ConsOk Tryz.prog FX E_q86.cons:=consOk_cons m_q64 (callable_of Tryz.func122 (by kernel_rfl)) rfl (consOk_cons m_q65 (callable_of Tryz.func121 (by kernel_rfl)) rfl (consOk_cons m_q63 (callable_of Tryz.func130 (by kernel_rfl)) rfl (consOk_cons m_q73 (callable_of Tryz.func131 (by kernel_rfl)) rfl (consOk_nil))))
theorem loops_q86:loopsIn code_q86=[]:=by kernel_rfl
theorem m_q86:Meets Tryz.prog FX 95 c_q86:=meets_of (E:=E_q86) (code:=code_q86) mix layD_ok cons_q86 Tryz.func95 (by kernel_rfl) sg_q86 (by kernel_rfl) (fun y=>(⟨y.1,y.2.1,y.2.2.1⟩:Rt)) c_q86.out (fun _=>rfl) c_q86.run (fun x=>by kernel_rfl) (by kernel_rfl) (loops_mem loops_q86 (trivial))
noncomputable def sg_q87:Sig:=⟨[(true,[.d (.bool),.d (.sl .int),.d (.sl .int)]),(true,[.d (.bool),.d (.sl .int),.d (.sl .int)])],[],false,[(true,[.d (.bool),.own 0,.own 1])],[(0,.arr false .int),(1,.arr false .int)]⟩
noncomputable def c_q87:Con:=⟨sg_q87,Rt,fun x=>M_impl_mul (⟨x.1,x.2.1,x.2.2.1⟩:Rt) (⟨x.2.2.2.1,x.2.2.2.2.1,x.2.2.2.2.2.1⟩:Rt),fun r=>(r.neg,r.mag,r.den,())⟩
noncomputable def code_q87:Code:=Tryz.f47.body.getD .skip
noncomputable def E_q87:Env:=⟨layD,[(48,c_q84),(96,c_q85),(97,c_q62),(95,c_q86)],[],[(3,[(0,[]),(1,[]),(2,[]),(3,[]),(5,[]),(6,[]),(7,[]),(8,[]),(4,[1,3,0,2]),(9,[6,8,4,5,7,1,3,0,2]),(10,[4,9,1,3,6,8,0,2,5,7]),(11,[10,0,1,2,3,4,5,6,7,8,9])])]⟩
theorem cons_q87:ConsOk Tryz.prog FX E_q87.cons:=consOk_cons m_q84 (callable_of Tryz.func48 (by kernel_rfl)) rfl (consOk_cons m_q85 (callable_of Tryz.func96 (by kernel_rfl)) rfl (consOk_cons m_q62 (callable_of Tryz.func97 (by kernel_rfl)) rfl (consOk_cons m_q86 (callable_of Tryz.func95 (by kernel_rfl)) rfl (consOk_nil))))
theorem loops_q87:loopsIn code_q87=[]:=by kernel_rfl
theorem m_q87:Meets Tryz.prog FX 47 c_q87:=meets_of (E:=E_q87) (code:=code_q87) mix layD_ok cons_q87 Tryz.func47 (by kernel_rfl) sg_q87 (by kernel_rfl) (fun y=>(⟨y.1,y.2.1,y.2.2.1⟩:Rt)) c_q87.out (fun _=>rfl) c_q87.run (fun x=>by kernel_rfl) (by kernel_rfl) (loops_mem loops_q87 (trivial))
noncomputable def sg_q88:Sig:=⟨[(true,[.d (.bool),.d (.sl .int),.d (.sl .int)]),(true,[.d (.bool),.d (.sl .int),.d (.sl .int)])],[],false,[(true,[.d (.bool),.own 0,.own 1])],[(0,.arr false .int),(1,.arr false .int)]⟩
noncomputable def c_q88:Con:=⟨sg_q88,Rt,fun x=>M_impl_div (⟨x.1,x.2.1,x.2.2.1⟩:Rt) (⟨x.2.2.2.1,x.2.2.2.2.1,x.2.2.2.2.2.1⟩:Rt),fun r=>(r.neg,r.mag,r.den,())⟩
noncomputable def code_q88:Code:=Tryz.f50.body.getD .skip
noncomputable def E_q88:Env:=⟨layD,[(48,c_q84),(47,c_q87)],[],[]⟩
theorem cons_q88:ConsOk Tryz.prog FX E_q88.cons:=consOk_cons m_q84 (callable_of Tryz.func48 (by kernel_rfl)) rfl (consOk_cons m_q87 (callable_of Tryz.func47 (by kernel_rfl)) rfl (consOk_nil))
theorem loops_q88:loopsIn code_q88=[]:=by kernel_rfl
theorem m_q88:Meets Tryz.prog FX 50 c_q88:=meets_of (E:=E_q88) (code:=code_q88) mix layD_ok cons_q88 Tryz.func50 (by kernel_rfl) sg_q88 (by kernel_rfl) (fun y=>(⟨y.1,y.2.1,y.2.2.1⟩:Rt)) c_q88.out (fun _=>rfl) c_q88.run (fun x=>by kernel_rfl) (by kernel_rfl) (loops_mem loops_q88 (trivial))
noncomputable def sg_q89:Sig:=⟨[(false,[.d (.sl .rat)])],[],false,[(false,[.d (.bool)])],[]⟩
noncomputable def c_q89:Con:=⟨sg_q89,Bool,fun x=>M_impl_complete x.1,fun r=>(r,())⟩
noncomputable def code_q89:Code:=Tryz.f82.body.getD .skip
noncomputable def body_q89_0:Code:=(loopsIn code_q89).getD 0 .skip
noncomputable def D_q89_0:LoopD:=⟨⟨mkSlots [(5,false,[.d (.sl .rat)]),(6,false,[.d (.int .i64)]),(7,false,[.d (.int .i64)])] 14 0,[]⟩,[],[(.ret,⟨mkSlots [(2,false,[.d (.bool)])] 14 0,[]⟩,[]),(.exit 0,⟨mkSlots [] 14 0,[]⟩,[])]⟩
noncomputable def S_q89_0_w (x:Tys D_q89_0.head.ks):Option (OutT D_q89_0.outs):=@whileO ((List Rt) × Int × Int × Unit) ((Bool × Unit) ⊕ (Unit)) S_impl_complete_0 x
noncomputable def E_q89:Env:=⟨layD,[(48,c_q84)],[(2,mkLM D_q89_0 S_q89_0_w)],[]⟩
theorem cons_q89:ConsOk Tryz.prog FX E_q89.cons:=consOk_cons m_q84 (callable_of Tryz.func48 (by kernel_rfl)) rfl (consOk_nil)
theorem S_q89_0_ok (x:Tys D_q89_0.head.ks):stepL E_q89 D_q89_0 body_q89_0 x=S_impl_complete_0 x:=by kernel_rfl
theorem loops_q89_0:loopsIn body_q89_0=[]:=by kernel_rfl
theorem l_q89_0:LoopOk Tryz.prog FX (mkLM D_q89_0 S_q89_0_w) body_q89_0:=loop_ok2 mix layD_ok cons_q89 (by kernel_rfl) (loops_mem loops_q89_0 (trivial)) S_q89_0_ok fun _ _ h=>h
theorem loops_q89:loopsIn code_q89=[body_q89_0]:=by kernel_rfl
theorem m_q89:Meets Tryz.prog FX 82 c_q89:=meets_of (E:=E_q89) (code:=code_q89) mix layD_ok cons_q89 Tryz.func82 (by kernel_rfl) sg_q89 (by kernel_rfl) (fun y=>y.1) c_q89.out (fun _=>rfl) c_q89.run (fun x=>by kernel_rfl) (by kernel_rfl) (loops_mem loops_q89 (⟨⟨_,by kernel_rfl,l_q89_0⟩,trivial⟩))
noncomputable def sg_q90:Sig:=⟨[(true,[.d (.bool),.d (.sl .int)])],[],false,[(true,[.d (.bool),.own 0])],[(0,.arr false .int)]⟩
noncomputable def c_q90:Con:=⟨sg_q90,Bg,fun x=>M_impl_bigNeg (⟨x.1,x.2.1⟩:Bg),fun r=>(r.neg,r.mag,())⟩
noncomputable def code_q90:Code:=Tryz.f112.body.getD .skip
noncomputable def E_q90:Env:=⟨layD,[(93,c_q58),(131,c_q73)],[],[(1,[(0,[]),(1,[]),(2,[]),(3,[]),(4,[]),(5,[4,3]),(6,[2,5,1,4,0,3]),(7,[6,0,1,2,3,4,5])])]⟩
theorem cons_q90:ConsOk Tryz.prog FX E_q90.cons:=consOk_cons m_q58 (callable_of Tryz.func93 (by kernel_rfl)) rfl (consOk_cons m_q73 (callable_of Tryz.func131 (by kernel_rfl)) rfl (consOk_nil))
theorem loops_q90:loopsIn code_q90=[]:=by kernel_rfl
theorem m_q90:Meets Tryz.prog FX 112 c_q90:=meets_of (E:=E_q90) (code:=code_q90) mix layD_ok cons_q90 Tryz.func112 (by kernel_rfl) sg_q90 (by kernel_rfl) (fun y=>(⟨y.1,y.2.1⟩:Bg)) c_q90.out (fun _=>rfl) c_q90.run (fun x=>by kernel_rfl) (by kernel_rfl) (loops_mem loops_q90 (trivial))
noncomputable def sg_q91:Sig:=⟨[(true,[.d (.bool),.d (.sl .int),.d (.sl .int)])],[],false,[(true,[.d (.bool),.own 0,.own 1])],[(0,.arr false .int),(1,.arr false .int)]⟩
noncomputable def c_q91:Con:=⟨sg_q91,Rt,fun x=>M_impl_neg (⟨x.1,x.2.1,x.2.2.1⟩:Rt),fun r=>(r.neg,r.mag,r.den,())⟩
noncomputable def code_q91:Code:=Tryz.f69.body.getD .skip
noncomputable def E_q91:Env:=⟨layD,[(48,c_q84),(112,c_q90),(93,c_q58)],[],[(3,[(0,[]),(1,[]),(3,[]),(4,[]),(2,[1,0]),(5,[4,2,3,1,0]),(6,[]),(7,[6,5,0,1,2,3,4])])]⟩
theorem cons_q91:ConsOk Tryz.prog FX E_q91.cons:=consOk_cons m_q84 (callable_of Tryz.func48 (by kernel_rfl)) rfl (consOk_cons m_q90 (callable_of Tryz.func112 (by kernel_rfl)) rfl (consOk_cons m_q58 (callable_of Tryz.func93 (by kernel_rfl)) rfl (consOk_nil)))
theorem loops_q91:loopsIn code_q91=[]:=by kernel_rfl
theorem m_q91:Meets Tryz.prog FX 69 c_q91:=meets_of (E:=E_q91) (code:=code_q91) mix layD_ok cons_q91 Tryz.func69 (by kernel_rfl) sg_q91 (by kernel_rfl) (fun y=>(⟨y.1,y.2.1,y.2.2.1⟩:Rt)) c_q91.out (fun _=>rfl) c_q91.run (fun x=>by kernel_rfl) (by kernel_rfl) (loops_mem loops_q91 (trivial))
noncomputable def sg_q92:Sig:=⟨[(false,[.d (.sl .int)]),(false,[.d (.sl .int)])],[],false,[(false,[.d (.bool)])],[]⟩
noncomputable def c_q92:Con:=⟨sg_q92,Bool,fun x=>M_impl_sameInts x.1 x.2.1,fun r=>(r,())⟩
noncomputable def code_q92:Code:=Tryz.f128.body.getD .skip
noncomputable def body_q92_0:Code:=(loopsIn code_q92).getD 0 .skip
noncomputable def D_q92_0:LoopD:=⟨⟨mkSlots [(0,false,[.d (.sl .int)]),(1,false,[.d (.sl .int)]),(12,false,[.d (.int .i64)]),(13,false,[.d (.int .i64)])] 26 0,[]⟩,[],[(.ret,⟨mkSlots [(4,false,[.d (.bool)])] 26 0,[]⟩,[]),(.exit 0,⟨mkSlots [] 26 0,[]⟩,[])]⟩
noncomputable def S_q92_0_w (x:Tys D_q92_0.head.ks):Option (OutT D_q92_0.outs):=@whileO ((List Int) × (List Int) × Int × Int × Unit) ((Bool × Unit) ⊕ (Unit)) S_impl_sameInts_0 x
noncomputable def E_q92:Env:=⟨layD,[],[(4,mkLM D_q92_0 S_q92_0_w)],[(6,[(0,[]),(1,[]),(2,[]),(3,[]),(4,[]),(5,[]),(6,[]),(7,[]),(8,[])])]⟩
theorem cons_q92:ConsOk Tryz.prog FX E_q92.cons:=consOk_nil
theorem S_q92_0_ok (x:Tys D_q92_0.head.ks):stepL E_q92 D_q92_0 body_q92_0 x=S_impl_sameInts_0 x:=by kernel_rfl
theorem loops_q92_0:loopsIn body_q92_0=[]:=by kernel_rfl
theorem l_q92_0:LoopOk Tryz.prog FX (mkLM D_q92_0 S_q92_0_w) body_q92_0:=loop_ok2 mix layD_ok cons_q92 (by kernel_rfl) (loops_mem loops_q92_0 (trivial)) S_q92_0_ok fun _ _ h=>h
theorem loops_q92:loopsIn code_q92=[body_q92_0]:=by kernel_rfl
theorem m_q92:Meets Tryz.prog FX 128 c_q92:=meets_of (E:=E_q92) (code:=code_q92) mix layD_ok cons_q92 Tryz.func128 (by kernel_rfl) sg_q92 (by kernel_rfl) (fun y=>y.1) c_q92.out (fun _=>rfl) c_q92.run (fun x=>by kernel_rfl) (by kernel_rfl) (loops_mem loops_q92 (⟨⟨_,by kernel_rfl,l_q92_0⟩,trivial⟩))
noncomputable def sg_q93:Sig:=⟨[(false,[.d (.sl .int)]),(false,[.d (.sl .int)])],[],false,[(false,[.own 0])],[(0,.arr false .int)]⟩
noncomputable def c_q93:Con:=⟨sg_q93,List Int,fun x=>M_impl_natSub x.1 x.2.1,fun r=>(r,())⟩
noncomputable def code_q93:Code:=Tryz.f145.body.getD .skip
noncomputable def body_q93_0:Code:=(loopsIn code_q93).getD 0 .skip
noncomputable def D_q93_0:LoopD:=⟨⟨mkSlots [(1,false,[.d (.sl .int)]),(5,false,[.own 2816]),(6,false,[.d (.int .i64)]),(12,false,[.d (.int .i64)]),(13,false,[.d (.int .i64)])] 43 0,[(2816,.arr false .int)]⟩,[],[(.exit 0,⟨mkSlots [(5,false,[.own 2816])] 43 0,[(2816,.arr false .int)]⟩,[])]⟩
noncomputable def S_q93_0_w (x:Tys D_q93_0.head.ks):Option (OutT D_q93_0.outs):=@whileO ((List Int) × Int × Int × Int × (List Int) × Unit) ((List Int) × Unit) S_impl_natSub_0 x
noncomputable def E_q93:Env:=⟨layD,[(93,c_q58),(132,c_q59)],[(4,mkLM D_q93_0 S_q93_0_w)],[]⟩
theorem cons_q93:ConsOk Tryz.prog FX E_q93.cons:=consOk_cons m_q58 (callable_of Tryz.func93 (by kernel_rfl)) rfl (consOk_cons m_q59 (callable_of Tryz.func132 (by kernel_rfl)) rfl (consOk_nil))
theorem S_q93_0_ok (x:Tys D_q93_0.head.ks):stepL E_q93 D_q93_0 body_q93_0 x=S_impl_natSub_0 x:=by kernel_rfl
theorem loops_q93_0:loopsIn body_q93_0=[]:=by kernel_rfl
theorem l_q93_0:LoopOk Tryz.prog FX (mkLM D_q93_0 S_q93_0_w) body_q93_0:=loop_ok2 mix layD_ok cons_q93 (by kernel_rfl) (loops_mem loops_q93_0 (trivial)) S_q93_0_ok fun _ _ h=>h
theorem loops_q93:loopsIn code_q93=[body_q93_0]:=by kernel_rfl
theorem m_q93:Meets Tryz.prog FX 145 c_q93:=meets_of (E:=E_q93) (code:=code_q93) mix layD_ok cons_q93 Tryz.func145 (by kernel_rfl) sg_q93 (by kernel_rfl) (fun y=>y.1) c_q93.out (fun _=>rfl) c_q93.run (fun x=>by kernel_rfl) (by kernel_rfl) (loops_mem loops_q93 (⟨⟨_,by kernel_rfl,l_q93_0⟩,trivial⟩))
noncomputable def sg_q94:Sig:=⟨[(true,[.d (.bool),.d (.sl .int)]),(true,[.d (.bool),.d (.sl .int)])],[],false,[(true,[.d (.bool),.own 0])],[(0,.arr false .int)]⟩
noncomputable def c_q94:Con:=⟨sg_q94,Bg,fun x=>M_impl_bigAdd (⟨x.1,x.2.1⟩:Bg) (⟨x.2.2.1,x.2.2.2.1⟩:Bg),fun r=>(r.neg,r.mag,())⟩
noncomputable def code_q94:Code:=Tryz.f129.body.getD .skip
noncomputable def E_q94:Env:=⟨layD,[(143,c_q74),(131,c_q73),(144,c_q57),(145,c_q93)],[],[(2,[(0,[]),(1,[]),(2,[]),(3,[]),(4,[]),(5,[]),(6,[3,5,2,4]),(7,[1,6,0,3,5,2,4]),(8,[7,0,1,2,3,4,5,6])]),(4,[(0,[]),(1,[]),(2,[]),(3,[]),(4,[]),(5,[]),(6,[3,5,2,4]),(7,[1,6,0,3,5,2,4]),(8,[7,0,1,2,3,4,5,6])]),(5,[(0,[]),(1,[]),(2,[]),(3,[]),(4,[]),(5,[]),(6,[3,5,2,4]),(7,[1,6,0,3,5,2,4]),(8,[7,0,1,2,3,4,5,6])])]⟩
theorem cons_q94:ConsOk Tryz.prog FX E_q94.cons:=consOk_cons m_q74 (callable_of Tryz.func143 (by kernel_rfl)) rfl (consOk_cons m_q73 (callable_of Tryz.func131 (by kernel_rfl)) rfl (consOk_cons m_q57 (callable_of Tryz.func144 (by kernel_rfl)) rfl (consOk_cons m_q93 (callable_of Tryz.func145 (by kernel_rfl)) rfl (consOk_nil))))
theorem loops_q94:loopsIn code_q94=[]:=by kernel_rfl
theorem m_q94:Meets Tryz.prog FX 129 c_q94:=meets_of (E:=E_q94) (code:=code_q94) mix layD_ok cons_q94 Tryz.func129 (by kernel_rfl) sg_q94 (by kernel_rfl) (fun y=>(⟨y.1,y.2.1⟩:Bg)) c_q94.out (fun _=>rfl) c_q94.run (fun x=>by kernel_rfl) (by kernel_rfl) (loops_mem loops_q94 (trivial))
noncomputable def sg_q95:Sig:=⟨[(true,[.d (.bool),.d (.sl .int),.d (.sl .int)]),(true,[.d (.bool),.d (.sl .int),.d (.sl .int)])],[],false,[(true,[.d (.bool),.own 0,.own 1])],[(0,.arr false .int),(1,.arr false .int)]⟩
noncomputable def c_q95:Con:=⟨sg_q95,Rt,fun x=>M_impl_add (⟨x.1,x.2.1,x.2.2.1⟩:Rt) (⟨x.2.2.2.1,x.2.2.2.2.1,x.2.2.2.2.2.1⟩:Rt),fun r=>(r.neg,r.mag,r.den,())⟩
noncomputable def code_q95:Code:=Tryz.f94.body.getD .skip
noncomputable def E_q95:Env:=⟨layD,[(48,c_q84),(128,c_q92),(129,c_q94),(93,c_q58),(95,c_q86),(96,c_q85),(97,c_q62)],[],[(4,[(0,[]),(1,[]),(2,[]),(3,[]),(5,[]),(6,[]),(4,[1,3,0,2]),(7,[6,4,5,1,3,0,2]),(8,[4,7,1,3,6,0,2,5]),(9,[8,0,1,2,3,4,5,6,7])]),(7,[(0,[]),(1,[]),(3,[]),(4,[]),(5,[]),(6,[]),(2,[0,1]),(7,[4,6,2,3,5,0,1]),(8,[2,7,0,1,4,6,3,5]),(9,[8,0,1,2,3,4,5,6,7])])]⟩
theorem cons_q95:ConsOk Tryz.prog FX E_q95.cons:=consOk_cons m_q84 (callable_of Tryz.func48 (by kernel_rfl)) rfl (consOk_cons m_q92 (callable_of Tryz.func128 (by kernel_rfl)) rfl (consOk_cons m_q94 (callable_of Tryz.func129 (by kernel_rfl)) rfl (consOk_cons m_q58 (callable_of Tryz.func93 (by kernel_rfl)) rfl (consOk_cons m_q86 (callable_of Tryz.func95 (by kernel_rfl)) rfl (consOk_cons m_q85 (callable_of Tryz.func96 (by kernel_rfl)) rfl (consOk_cons m_q62 (callable_of Tryz.func97 (by kernel_rfl)) rfl (consOk_nil)))))))
theorem loops_q95:loopsIn code_q95=[]:=by kernel_rfl
theorem m_q95:Meets Tryz.prog FX 94 c_q95:=meets_of (E:=E_q95) (code:=code_q95) mix layD_ok cons_q95 Tryz.func94 (by kernel_rfl) sg_q95 (by kernel_rfl) (fun y=>(⟨y.1,y.2.1,y.2.2.1⟩:Rt)) c_q95.out (fun _=>rfl) c_q95.run (fun x=>by kernel_rfl) (by kernel_rfl) (loops_mem loops_q95 (trivial))
noncomputable def sg_q96:Sig:=⟨[(true,[.d (.bool),.d (.sl .int),.d (.sl .int)]),(true,[.d (.bool),.d (.sl .int),.d (.sl .int)])],[],false,[(true,[.d (.bool),.own 0,.own 1])],[(0,.arr false .int),(1,.arr false .int)]⟩
noncomputable def c_q96:Con:=⟨sg_q96,Rt,fun x=>M_impl_sub (⟨x.1,x.2.1,x.2.2.1⟩:Rt) (⟨x.2.2.2.1,x.2.2.2.2.1,x.2.2.2.2.2.1⟩:Rt),fun r=>(r.neg,r.mag,r.den,())⟩
noncomputable def code_q96:Code:=Tryz.f46.body.getD .skip
noncomputable def E_q96:Env:=⟨layD,[(69,c_q91),(94,c_q95)],[],[(1,[(0,[]),(1,[]),(2,[1]),(3,[0,2,1]),(4,[3,0,1,2])])]⟩
theorem cons_q96:ConsOk Tryz.prog FX E_q96.cons:=consOk_cons m_q91 (callable_of Tryz.func69 (by kernel_rfl)) rfl (consOk_cons m_q95 (callable_of Tryz.func94 (by kernel_rfl)) rfl (consOk_nil))
theorem loops_q96:loopsIn code_q96=[]:=by kernel_rfl
theorem m_q96:Meets Tryz.prog FX 46 c_q96:=meets_of (E:=E_q96) (code:=code_q96) mix layD_ok cons_q96 Tryz.func46 (by kernel_rfl) sg_q96 (by kernel_rfl) (fun y=>(⟨y.1,y.2.1,y.2.2.1⟩:Rt)) c_q96.out (fun _=>rfl) c_q96.run (fun x=>by kernel_rfl) (by kernel_rfl) (loops_mem loops_q96 (trivial))
noncomputable def sg_q97:Sig:=⟨[(true,[.d (.int .i64),.d (.int .i64),.d (.sl .rat)])],[],true,[(true,[.d (.int .i64),.d (.int .i64),.dp 0,.own 1,.bot]),(false,[.d (.bool)])],[(0,.deep .rat),(1,.arr false .int)]⟩
noncomputable def c_q97:Con:=⟨sg_q97,RdnP × Bool,fun x=>M_impl_reduce_t (⟨x.1,x.2.1,x.2.2.1⟩:Mx),fun r=>(r.1.rows,r.1.cols,r.2,r.1.cells,r.1.pivots,())⟩
noncomputable def code_q97:Code:=Tryz.f39.body.getD .skip
noncomputable def body_q97_0:Code:=(loopsIn code_q97).getD 0 .skip
noncomputable def body_q97_1:Code:=(loopsIn body_q97_0).getD 0 .skip
noncomputable def body_q97_2:Code:=(loopsIn body_q97_0).getD 1 .skip
noncomputable def body_q97_3:Code:=(loopsIn body_q97_0).getD 2 .skip
noncomputable def body_q97_4:Code:=(loopsIn body_q97_0).getD 3 .skip
noncomputable def body_q97_5:Code:=(loopsIn body_q97_4).getD 0 .skip
noncomputable def D_q97_0:LoopD:=⟨⟨mkSlots [(2,false,[.lp 128 0]),(4,false,[.lp 256 0]),(5,false,[.lp 320 0]),(6,false,[.d (.int .i64)]),(7,false,[.d (.int .i64)])] 183 0,[(128,.box [.d (.int .i64),.d (.int .i64),.own 11968,.own 12032,.own 12096]),(256,.box [.d (.int .i64),.d (.int .i64),.own 11776,.own 11840,.own 11904]),(320,.box [.d (.int .i64),.d (.int .i64),.own 11776]),(11776,.arr false .trat),(11840,.arr false .int),(11904,.arr false .trat),(11968,.arr false .trat),(12032,.arr false .int),(12096,.arr false .trat),(70368744177727,.pool)]⟩,[(.box 128 2,11968,.trat),(.box 128 3,12032,.int),(.box 128 4,12096,.trat),(.box 256 3,11840,.int),(.box 256 4,11904,.trat)],[(.ret,⟨mkSlots [(2,false,[.lp 128 0]),(3,false,[.d (.bool)])] 183 0,[(128,.box [.d (.int .i64),.d (.int .i64),.own 11968,.own 12032,.own 12096]),(11968,.arr false .trat),(12032,.arr false .int),(12096,.arr false .trat),(70368744177727,.pool)]⟩,[(.box 128 2,11968,.trat),(.box 128 3,12032,.int),(.box 128 4,12096,.trat)]),(.exit 0,⟨mkSlots [(2,false,[.lp 128 0]),(4,false,[.lp 256 0])] 183 0,[(128,.box [.d (.int .i64),.d (.int .i64),.own 11968,.own 12032,.own 12096]),(256,.box [.d (.int .i64),.d (.int .i64),.own 11776,.own 11840,.own 11904]),(11776,.arr false .trat),(11840,.arr false .int),(11904,.arr false .trat),(11968,.arr false .trat),(12032,.arr false .int),(12096,.arr false .trat),(70368744177727,.pool)]⟩,[(.box 128 2,11968,.trat),(.box 128 3,12032,.int),(.box 128 4,12096,.trat),(.box 256 3,11840,.int),(.box 256 4,11904,.trat)])]⟩
noncomputable def D_q97_1:LoopD:=⟨⟨mkSlots [(2,false,[.lp 128 0]),(4,false,[.lp 256 0]),(5,false,[.lp 320 0]),(6,false,[.d (.int .i64)]),(7,false,[.d (.int .i64)]),(8,false,[.d (.int .i64)])] 183 0,[(128,.box [.d (.int .i64),.d (.int .i64),.own 11968,.own 12032,.own 12096]),(256,.box [.d (.int .i64),.d (.int .i64),.own 11776,.own 11840,.own 11904]),(320,.box [.d (.int .i64),.d (.int .i64),.own 11776]),(11776,.arr false .trat),(11840,.arr false .int),(11904,.arr false .trat),(11968,.arr false .trat),(12032,.arr false .int),(12096,.arr false .trat),(70368744177727,.pool)]⟩,[(.box 128 2,11968,.trat),(.box 128 3,12032,.int),(.box 128 4,12096,.trat),(.box 256 3,11840,.int),(.box 256 4,11904,.trat)],[(.exit 2,⟨mkSlots [(2,false,[.lp 128 0]),(4,false,[.lp 256 0]),(5,false,[.lp 320 0]),(6,false,[.d (.int .i64)]),(7,false,[.d (.int .i64)]),(8,false,[.d (.int .i64)])] 183 0,[(128,.box [.d (.int .i64),.d (.int .i64),.own 11968,.own 12032,.own 12096]),(256,.box [.d (.int .i64),.d (.int .i64),.own 11776,.own 11840,.own 11904]),(320,.box [.d (.int .i64),.d (.int .i64),.own 11776]),(11776,.arr false .trat),(11840,.arr false .int),(11904,.arr false .trat),(11968,.arr false .trat),(12032,.arr false .int),(12096,.arr false .trat),(70368744177727,.pool)]⟩,[(.box 128 2,11968,.trat),(.box 128 3,12032,.int),(.box 128 4,12096,.trat),(.box 256 3,11840,.int),(.box 256 4,11904,.trat)])]⟩
noncomputable def D_q97_2:LoopD:=⟨⟨mkSlots [(2,false,[.lp 128 0]),(4,false,[.lp 256 0]),(5,false,[.lp 320 0]),(6,false,[.d (.int .i64)]),(7,false,[.d (.int .i64)]),(9,false,[.win 11776]),(10,false,[.win 11776]),(76,false,[.d (.int .i64)]),(77,false,[.d (.int .i64)])] 183 0,[(128,.box [.d (.int .i64),.d (.int .i64),.own 11968,.own 12032,.own 12096]),(256,.box [.d (.int .i64),.d (.int .i64),.own 11776,.own 11904,.own 11840]),(320,.box [.d (.int .i64),.d (.int .i64),.own 11776]),(11776,.arr false .trat),(11840,.arr false .trat),(11904,.arr false .int),(11968,.arr false .trat),(12032,.arr false .int),(12096,.arr false .trat),(70368744177727,.pool)]⟩,[(.box 128 2,11968,.trat),(.box 128 3,12032,.int),(.box 128 4,12096,.trat),(.box 256 3,11904,.int)],[(.exit 4,⟨mkSlots [(2,false,[.lp 128 0]),(4,false,[.lp 256 0]),(5,false,[.lp 320 0]),(6,false,[.d (.int .i64)]),(7,false,[.d (.int .i64)])] 183 0,[(128,.box [.d (.int .i64),.d (.int .i64),.own 11968,.own 12032,.own 12096]),(256,.box [.d (.int .i64),.d (.int .i64),.own 11776,.own 11904,.own 11840]),(320,.box [.d (.int .i64),.d (.int .i64),.own 11776]),(11776,.arr false .trat),(11840,.arr false .trat),(11904,.arr false .int),(11968,.arr false .trat),(12032,.arr false .int),(12096,.arr false .trat),(70368744177727,.pool)]⟩,[(.box 128 2,11968,.trat),(.box 128 3,12032,.int),(.box 128 4,12096,.trat),(.box 256 3,11904,.int)])]⟩
noncomputable def D_q97_3:LoopD:=⟨⟨mkSlots [(2,false,[.lp 128 0]),(4,false,[.lp 256 0]),(5,false,[.lp 320 0]),(6,false,[.d (.int .i64)]),(7,false,[.d (.int .i64)]),(12,false,[.win 11776]),(13,false,[.lp 832 0]),(109,false,[.d (.int .i64)]),(110,false,[.d (.int .i64)])] 183 0,[(128,.box [.d (.int .i64),.d (.int .i64),.own 11968,.own 12032,.own 12096]),(256,.box [.d (.int .i64),.d (.int .i64),.own 11776,.own 11904,.own 11840]),(320,.box [.d (.int .i64),.d (.int .i64),.own 11776]),(832,.box [.d (.bool),.d (.tok),.d (.tok)]),(11776,.arr false .trat),(11840,.arr false .trat),(11904,.arr false .int),(11968,.arr false .trat),(12032,.arr false .int),(12096,.arr false .trat),(70368744177727,.pool)]⟩,[(.box 128 2,11968,.trat),(.box 128 3,12032,.int),(.box 128 4,12096,.trat),(.box 256 3,11904,.int)],[(.exit 6,⟨mkSlots [(2,false,[.lp 128 0]),(4,false,[.lp 256 0]),(5,false,[.lp 320 0]),(6,false,[.d (.int .i64)]),(7,false,[.d (.int .i64)]),(12,false,[.win 11776])] 183 0,[(128,.box [.d (.int .i64),.d (.int .i64),.own 11968,.own 12032,.own 12096]),(256,.box [.d (.int .i64),.d (.int .i64),.own 11776,.own 11904,.own 11840]),(320,.box [.d (.int .i64),.d (.int .i64),.own 11776]),(11776,.arr false .trat),(11840,.arr false .trat),(11904,.arr false .int),(11968,.arr false .trat),(12032,.arr false .int),(12096,.arr false .trat),(70368744177727,.pool)]⟩,[(.box 128 2,11968,.trat),(.box 128 3,12032,.int),(.box 128 4,12096,.trat),(.box 256 3,11904,.int)])]⟩
noncomputable def D_q97_4:LoopD:=⟨⟨mkSlots [(2,false,[.lp 128 0]),(4,false,[.lp 256 0]),(5,false,[.lp 320 0]),(6,false,[.d (.int .i64)]),(7,false,[.d (.int .i64)]),(12,false,[.win 11776]),(128,false,[.d (.int .i64)]),(129,false,[.d (.int .i64)])] 183 0,[(128,.box [.d (.int .i64),.d (.int .i64),.own 11968,.own 12032,.own 12096]),(256,.box [.d (.int .i64),.d (.int .i64),.own 11776,.own 11904,.own 11840]),(320,.box [.d (.int .i64),.d (.int .i64),.own 11776]),(11776,.arr false .trat),(11840,.arr false .trat),(11904,.arr false .int),(11968,.arr false .trat),(12032,.arr false .int),(12096,.arr false .trat),(70368744177727,.pool)]⟩,[(.box 128 2,11968,.trat),(.box 128 3,12032,.int),(.box 128 4,12096,.trat),(.box 256 3,11904,.int)],[(.ret,⟨mkSlots [(2,false,[.lp 128 0]),(3,false,[.d (.bool)])] 183 0,[(128,.box [.d (.int .i64),.d (.int .i64),.own 11968,.own 12032,.own 12096]),(11968,.arr false .trat),(12032,.arr false .int),(12096,.arr false .trat),(70368744177727,.pool)]⟩,[(.box 128 2,11968,.trat),(.box 128 3,12032,.int),(.box 128 4,12096,.trat)]),(.exit 8,⟨mkSlots [(2,false,[.lp 128 0]),(4,false,[.lp 256 0]),(5,false,[.lp 320 0]),(6,false,[.d (.int .i64)]),(7,false,[.d (.int .i64)])] 183 0,[(128,.box [.d (.int .i64),.d (.int .i64),.own 11968,.own 12032,.own 12096]),(256,.box [.d (.int .i64),.d (.int .i64),.own 11776,.own 11904,.own 11840]),(320,.box [.d (.int .i64),.d (.int .i64),.own 11776]),(11776,.arr false .trat),(11840,.arr false .trat),(11904,.arr false .int),(11968,.arr false .trat),(12032,.arr false .int),(12096,.arr false .trat),(70368744177727,.pool)]⟩,[(.box 128 2,11968,.trat),(.box 128 3,12032,.int),(.box 128 4,12096,.trat),(.box 256 3,11904,.int)])]⟩
noncomputable def D_q97_5:LoopD:=⟨⟨mkSlots [(2,false,[.lp 128 0]),(4,false,[.lp 256 0]),(5,false,[.lp 320 0]),(6,false,[.d (.int .i64)]),(7,false,[.d (.int .i64)]),(12,false,[.win 11776]),(16,false,[.win 11776]),(17,false,[.lp 1088 0]),(128,false,[.d (.int .i64)]),(129,false,[.d (.int .i64)]),(150,false,[.d (.int .i64)]),(151,false,[.d (.int .i64)])] 183 0,[(128,.box [.d (.int .i64),.d (.int .i64),.own 11968,.own 12032,.own 12096]),(256,.box [.d (.int .i64),.d (.int .i64),.own 11776,.own 11904,.own 11840]),(320,.box [.d (.int .i64),.d (.int .i64),.own 11776]),(1088,.box [.d (.bool),.d (.tok),.d (.tok)]),(11776,.arr false .trat),(11840,.arr false .trat),(11904,.arr false .int),(11968,.arr false .trat),(12032,.arr false .int),(12096,.arr false .trat),(70368744177727,.pool)]⟩,[(.box 128 2,11968,.trat),(.box 128 3,12032,.int),(.box 128 4,12096,.trat),(.box 256 3,11904,.int)],[(.exit 10,⟨mkSlots [(2,false,[.lp 128 0]),(4,false,[.lp 256 0]),(5,false,[.lp 320 0]),(6,false,[.d (.int .i64)]),(7,false,[.d (.int .i64)]),(12,false,[.win 11776]),(16,false,[.win 11776]),(128,false,[.d (.int .i64)]),(129,false,[.d (.int .i64)])] 183 0,[(128,.box [.d (.int .i64),.d (.int .i64),.own 11968,.own 12032,.own 12096]),(256,.box [.d (.int .i64),.d (.int .i64),.own 11776,.own 11904,.own 11840]),(320,.box [.d (.int .i64),.d (.int .i64),.own 11776]),(11776,.arr false .trat),(11840,.arr false .trat),(11904,.arr false .int),(11968,.arr false .trat),(12032,.arr false .int),(12096,.arr false .trat),(70368744177727,.pool)]⟩,[(.box 128 2,11968,.trat),(.box 128 3,12032,.int),(.box 128 4,12096,.trat),(.box 256 3,11904,.int)])]⟩
noncomputable def S_q97_0_w (x:Tys D_q97_0.head.ks):Option (OutT D_q97_0.outs):=@whileO (Int × Int × Int × Int × Int × Int × Int × Int × (List TRt) × (List Int) × (List TRt) × (List TRt) × (List Int) × (List TRt) × Nat × Unit) ((Bool × Int × Int × (List TRt) × (List Int) × (List TRt) × Nat × Unit) ⊕ (Int × Int × Int × Int × (List TRt) × (List Int) × (List TRt) × (List TRt) × (List Int) × (List TRt) × Nat × Unit)) S_impl_reduce_t_0 x
noncomputable def S_q97_1_w (x:Tys D_q97_1.head.ks):Option (OutT D_q97_1.outs):=@whileO (Int × Int × Int × Int × Int × Int × Int × Int × Int × (List TRt) × (List Int) × (List TRt) × (List TRt) × (List Int) × (List TRt) × Nat × Unit) (Int × Int × Int × Int × Int × Int × Int × Int × Int × (List TRt) × (List Int) × (List TRt) × (List TRt) × (List Int) × (List TRt) × Nat × Unit) S_impl_reduce_t_1 x
noncomputable def S_q97_2_w (x:Tys D_q97_2.head.ks):Option (OutT D_q97_2.outs):=@whileO (Int × Int × Nat × Nat × Nat × Nat × Int × Int × Int × Int × Int × Int × Int × Int × (List TRt) × (List TRt) × (List Int) × (List TRt) × (List Int) × (List TRt) × Nat × Unit) (Int × Int × Int × Int × Int × Int × Int × Int × (List TRt) × (List TRt) × (List Int) × (List TRt) × (List Int) × (List TRt) × Nat × Unit) S_impl_reduce_t_2 x
noncomputable def S_q97_3_w (x:Tys D_q97_3.head.ks):Option (OutT D_q97_3.outs):=@whileO (Int × Int × Nat × Nat × Int × Int × Int × Int × Int × Int × Int × Int × Bool × Tk × Tk × (List TRt) × (List TRt) × (List Int) × (List TRt) × (List Int) × (List TRt) × Nat × Unit) (Int × Int × Nat × Nat × Int × Int × Int × Int × Int × Int × (List TRt) × (List TRt) × (List Int) × (List TRt) × (List Int) × (List TRt) × Nat × Unit) S_impl_reduce_t_3 x
noncomputable def S_q97_4_w (x:Tys D_q97_4.head.ks):Option (OutT D_q97_4.outs):=@whileO (Int × Int × Nat × Nat × Int × Int × Int × Int × Int × Int × Int × Int × (List TRt) × (List TRt) × (List Int) × (List TRt) × (List Int) × (List TRt) × Nat × Unit) ((Bool × Int × Int × (List TRt) × (List Int) × (List TRt) × Nat × Unit) ⊕ (Int × Int × Int × Int × Int × Int × Int × Int × (List TRt) × (List TRt) × (List Int) × (List TRt) × (List Int) × (List TRt) × Nat × Unit)) S_impl_reduce_t_4 x
noncomputable def S_q97_5_w (x:Tys D_q97_5.head.ks):Option (OutT D_q97_5.outs):=@whileO (Int × Int × Nat × Nat × Nat × Nat × Int × Int × Int × Int × Int × Int × Int × Int × Int × Int × Bool × Tk × Tk × (List TRt) × (List TRt) × (List Int) × (List TRt) × (List Int) × (List TRt) × Nat × Unit) (Int × Int × Nat × Nat × Nat × Nat × Int × Int × Int × Int × Int × Int × Int × Int × (List TRt) × (List TRt) × (List Int) × (List TRt) × (List Int) × (List TRt) × Nat × Unit) S_impl_reduce_t_5 x
noncomputable def E_q97:Env:=⟨layT,[(79,c_q69),(45,c_q71),(80,c_q72),(68,c_q81),(81,c_q83),(50,c_q88),(82,c_q89),(47,c_q87),(46,c_q96)],[(5,mkLM D_q97_0 S_q97_0_w),(8,mkLM D_q97_1 S_q97_1_w),(15,mkLM D_q97_2 S_q97_2_w),(23,mkLM D_q97_3 S_q97_3_w),(30,mkLM D_q97_4 S_q97_4_w),(36,mkLM D_q97_5 S_q97_5_w)],[(1,[(0,[]),(1,[]),(2,[]),(3,[]),(4,[]),(5,[]),(6,[5,4]),(7,[]),(8,[]),(9,[]),(10,[9,8,6,0,1,2,3,4,5,7])]),(12,[(0,[]),(1,[]),(2,[]),(3,[2]),(4,[1,3,2,0]),(5,[]),(6,[5,4,0,1,2,3])]),(13,[(0,[]),(1,[]),(3,[]),(4,[]),(2,[0,1]),(5,[3,4,2,0,1]),(6,[2,5,0,1,3,4]),(7,[5,6,0,1,2,3,4])]),(17,[(0,[]),(1,[]),(2,[]),(3,[]),(4,[]),(5,[]),(6,[]),(7,[]),(8,[]),(9,[]),(10,[]),(11,[]),(12,[]),(13,[12,7,0,1,4,5,6,11,10,8,9]),(14,[]),(15,[14,11,13,0,1,2,3,4,5,6,7,8,9,10,12])]),(25,[(0,[]),(1,[]),(2,[]),(3,[]),(4,[]),(5,[]),(6,[]),(7,[5,6,4,2,3]),(8,[]),(9,[8,7,0,1,2,3,4,5,6])]),(38,[(0,[]),(1,[]),(2,[]),(3,[]),(4,[]),(5,[]),(6,[]),(7,[]),(8,[]),(9,[]),(10,[]),(11,[6,10,9,7,8]),(12,[5,11,4,6,10,2,3,9,7,8]),(13,[]),(14,[13,12,0,1,2,3,4,5,6,7,8,9,10,11])])]⟩
theorem cons_q97:ConsOk Tryz.prog FX E_q97.cons:=consOk_cons m_q69 (callable_of Tryz.func79 (by kernel_rfl)) rfl (consOk_cons m_q71 (callable_of Tryz.func45 (by kernel_rfl)) rfl (consOk_cons m_q72 (callable_of Tryz.func80 (by kernel_rfl)) rfl (consOk_cons m_q81 (callable_of Tryz.func68 (by kernel_rfl)) rfl (consOk_cons m_q83 (callable_of Tryz.func81 (by kernel_rfl)) rfl (consOk_cons m_q88 (callable_of Tryz.func50 (by kernel_rfl)) rfl (consOk_cons m_q89 (callable_of Tryz.func82 (by kernel_rfl)) rfl (consOk_cons m_q87 (callable_of Tryz.func47 (by kernel_rfl)) rfl (consOk_cons m_q96 (callable_of Tryz.func46 (by kernel_rfl)) rfl (consOk_nil)))))))))
theorem S_q97_5_ok (x:Tys D_q97_5.head.ks):stepL E_q97 D_q97_5 body_q97_5 x=S_impl_reduce_t_5 x:=by kernel_rfl
theorem loops_q97_5:loopsIn body_q97_5=[]:=by kernel_rfl
theorem l_q97_5:LoopOk Tryz.prog FX (mkLM D_q97_5 S_q97_5_w) body_q97_5:=loop_ok2 mix layT_ok cons_q97 (by kernel_rfl) (loops_mem loops_q97_5 (trivial)) S_q97_5_ok fun _ _ h=>h
theorem S_q97_4_ok (x:Tys D_q97_4.head.ks):stepL E_q97 D_q97_4 body_q97_4 x=S_impl_reduce_t_4 x:=by kernel_rfl
theorem loops_q97_4:loopsIn body_q97_4=[body_q97_5]:=by kernel_rfl
theorem l_q97_4:LoopOk Tryz.prog FX (mkLM D_q97_4 S_q97_4_w) body_q97_4:=loop_ok2 mix layT_ok cons_q97 (by kernel_rfl) (loops_mem loops_q97_4 (⟨⟨_,by kernel_rfl,l_q97_5⟩,trivial⟩)) S_q97_4_ok fun _ _ h=>h
theorem S_q97_3_ok (x:Tys D_q97_3.head.ks):stepL E_q97 D_q97_3 body_q97_3 x=S_impl_reduce_t_3 x:=by kernel_rfl
theorem loops_q97_3:loopsIn body_q97_3=[]:=by kernel_rfl
theorem l_q97_3:LoopOk Tryz.prog FX (mkLM D_q97_3 S_q97_3_w) body_q97_3:=loop_ok2 mix layT_ok cons_q97 (by kernel_rfl) (loops_mem loops_q97_3 (trivial)) S_q97_3_ok fun _ _ h=>h
theorem S_q97_2_ok (x:Tys D_q97_2.head.ks):stepL E_q97 D_q97_2 body_q97_2 x=S_impl_reduce_t_2 x:=by kernel_rfl
theorem loops_q97_2:loopsIn body_q97_2=[]:=by kernel_rfl
theorem l_q97_2:LoopOk Tryz.prog FX (mkLM D_q97_2 S_q97_2_w) body_q97_2:=loop_ok2 mix layT_ok cons_q97 (by kernel_rfl) (loops_mem loops_q97_2 (trivial)) S_q97_2_ok fun _ _ h=>h
theorem S_q97_1_ok (x:Tys D_q97_1.head.ks):stepL E_q97 D_q97_1 body_q97_1 x=S_impl_reduce_t_1 x:=by kernel_rfl
theorem loops_q97_1:loopsIn body_q97_1=[]:=by kernel_rfl
theorem l_q97_1:LoopOk Tryz.prog FX (mkLM D_q97_1 S_q97_1_w) body_q97_1:=loop_ok2 mix layT_ok cons_q97 (by kernel_rfl) (loops_mem loops_q97_1 (trivial)) S_q97_1_ok fun _ _ h=>h
theorem S_q97_0_ok (x:Tys D_q97_0.head.ks):stepL E_q97 D_q97_0 body_q97_0 x=S_impl_reduce_t_0 x:=by kernel_rfl
theorem loops_q97_0:loopsIn body_q97_0=[body_q97_1,body_q97_2,body_q97_3,body_q97_4]:=by kernel_rfl
theorem l_q97_0:LoopOk Tryz.prog FX (mkLM D_q97_0 S_q97_0_w) body_q97_0:=loop_ok2 mix layT_ok cons_q97 (by kernel_rfl) (loops_mem loops_q97_0 (⟨⟨_,by kernel_rfl,l_q97_1⟩,⟨⟨_,by kernel_rfl,l_q97_2⟩,⟨⟨_,by kernel_rfl,l_q97_3⟩,⟨⟨_,by kernel_rfl,l_q97_4⟩,trivial⟩⟩⟩⟩)) S_q97_0_ok fun _ _ h=>h
theorem loops_q97:loopsIn code_q97=[body_q97_0]:=by kernel_rfl
theorem m_q97:Meets Tryz.prog FX 39 c_q97:=meets_ofT (E:=E_q97) (code:=code_q97) mix layT_ok cons_q97 Tryz.func39 (by kernel_rfl) sg_q97 (by kernel_rfl) (by kernel_rfl) (fun y=>((⟨y.1,y.2.1,y.2.2.2.1,y.2.2.2.2.1⟩:RdnP),y.2.2.1)) c_q97.out (fun _=>rfl) c_q97.run (fun x=>by kernel_rfl) (by kernel_rfl) (loops_mem loops_q97 (⟨⟨_,by kernel_rfl,l_q97_0⟩,trivial⟩))
noncomputable def sg_q98:Sig:=⟨[(true,[.d (.int .i64),.d (.int .i64),.d (.sl .rat)])],[],true,[(true,[.d (.int .i64),.d (.int .i64),.dp 0]),(false,[.own 1]),(false,[.d (.bool)])],[(0,.deep .rat),(1,.arr false .int)]⟩
noncomputable def c_q98:Con:=⟨sg_q98,Mx × List Int × Bool,fun x=>M_impl_Reduce_t (⟨x.1,x.2.1,x.2.2.1⟩:Mx),fun r=>(r.1.rows,r.1.cols,r.2.2,r.1.cells,r.2.1,())⟩
noncomputable def code_q98:Code:=Tryz.f11.body.getD .skip
noncomputable def E_q98:Env:=⟨layD,[(38,c_q67),(39,c_q97)],[],[(6,[(0,[]),(1,[]),(2,[]),(3,[]),(4,[1,0]),(5,[3,4,0,1,2]),(6,[5,0,1,2,3,4])])]⟩
theorem cons_q98:ConsOk Tryz.prog FX E_q98.cons:=consOk_cons m_q67 (callable_of Tryz.func38 (by kernel_rfl)) rfl (consOk_cons m_q97 (callable_of Tryz.func39 (by kernel_rfl)) rfl (consOk_nil))
theorem loops_q98:loopsIn code_q98=[]:=by kernel_rfl
theorem m_q98:Meets Tryz.prog FX 11 c_q98:=meets_of (E:=E_q98) (code:=code_q98) mix layD_ok cons_q98 Tryz.func11 (by kernel_rfl) sg_q98 (by kernel_rfl) (fun y=>((⟨y.1,y.2.1,y.2.2.2.1⟩:Mx),y.2.2.2.2.1,y.2.2.1)) c_q98.out (fun _=>rfl) c_q98.run (fun x=>by kernel_rfl) (by kernel_rfl) (loops_mem loops_q98 (trivial))
noncomputable def sg_q99:Sig:=⟨[(false,[.d (.sl .int)]),(false,[.d (.sl .int)])],[],false,[(false,[.d (.bool)])],[]⟩
noncomputable def c_q99:Con:=⟨sg_q99,Bool,fun x=>M_laws_eqIntS x.1 x.2.1,fun r=>(r,())⟩
noncomputable def code_q99:Code:=Tryz.f13.body.getD .skip
noncomputable def body_q99_0:Code:=(loopsIn code_q99).getD 0 .skip
noncomputable def D_q99_0:LoopD:=⟨⟨mkSlots [(0,false,[.d (.sl .int)]),(1,false,[.d (.sl .int)]),(5,false,[.d (.int .i64)])] 26 0,[]⟩,[],[(.ret,⟨mkSlots [(4,false,[.d (.bool)])] 26 0,[]⟩,[]),(.exit 0,⟨mkSlots [] 26 0,[]⟩,[])]⟩
noncomputable def S_q99_0_w (x:Tys D_q99_0.head.ks):Option (OutT D_q99_0.outs):=@whileO ((List Int) × (List Int) × Int × Unit) ((Bool × Unit) ⊕ (Unit)) S_laws_eqIntS_0 x
noncomputable def E_q99:Env:=⟨layD,[],[(4,mkLM D_q99_0 S_q99_0_w)],[(6,[(0,[]),(1,[]),(2,[]),(3,[]),(4,[]),(5,[]),(6,[]),(7,[]),(8,[])])]⟩
theorem cons_q99:ConsOk Tryz.prog FX E_q99.cons:=consOk_nil
theorem S_q99_0_ok (x:Tys D_q99_0.head.ks):stepL E_q99 D_q99_0 body_q99_0 x=S_laws_eqIntS_0 x:=by kernel_rfl
theorem loops_q99_0:loopsIn body_q99_0=[]:=by kernel_rfl
theorem l_q99_0:LoopOk Tryz.prog FX (mkLM D_q99_0 S_q99_0_w) body_q99_0:=loop_ok2 mix layD_ok cons_q99 (by kernel_rfl) (loops_mem loops_q99_0 (trivial)) S_q99_0_ok fun _ _ h=>h
theorem loops_q99:loopsIn code_q99=[body_q99_0]:=by kernel_rfl
theorem m_q99:Meets Tryz.prog FX 13 c_q99:=meets_of (E:=E_q99) (code:=code_q99) mix layD_ok cons_q99 Tryz.func13 (by kernel_rfl) sg_q99 (by kernel_rfl) (fun y=>y.1) c_q99.out (fun _=>rfl) c_q99.run (fun x=>by kernel_rfl) (by kernel_rfl) (loops_mem loops_q99 (⟨⟨_,by kernel_rfl,l_q99_0⟩,trivial⟩))
noncomputable def sg_q100:Sig:=⟨[(true,[.d (.bool),.d (.sl .int)]),(true,[.d (.bool),.d (.sl .int)])],[],false,[(false,[.d (.bool)])],[]⟩
noncomputable def c_q100:Con:=⟨sg_q100,Bool,fun x=>M_laws_eqBigInt (⟨x.1,x.2.1⟩:Bg) (⟨x.2.2.1,x.2.2.2.1⟩:Bg),fun r=>(r,())⟩
noncomputable def code_q100:Code:=Tryz.f98.body.getD .skip
noncomputable def E_q100:Env:=⟨layD,[(13,c_q99)],[],[]⟩
theorem cons_q100:ConsOk Tryz.prog FX E_q100.cons:=consOk_cons m_q99 (callable_of Tryz.func13 (by kernel_rfl)) rfl (consOk_nil)
theorem loops_q100:loopsIn code_q100=[]:=by kernel_rfl
theorem m_q100:Meets Tryz.prog FX 98 c_q100:=meets_of (E:=E_q100) (code:=code_q100) mix layD_ok cons_q100 Tryz.func98 (by kernel_rfl) sg_q100 (by kernel_rfl) (fun y=>y.1) c_q100.out (fun _=>rfl) c_q100.run (fun x=>by kernel_rfl) (by kernel_rfl) (loops_mem loops_q100 (trivial))
noncomputable def sg_q101:Sig:=⟨[(true,[.d (.bool),.d (.sl .int),.d (.sl .int)]),(true,[.d (.bool),.d (.sl .int),.d (.sl .int)])],[],false,[(false,[.d (.bool)])],[]⟩
noncomputable def c_q101:Con:=⟨sg_q101,Bool,fun x=>M_laws_eqRat (⟨x.1,x.2.1,x.2.2.1⟩:Rt) (⟨x.2.2.2.1,x.2.2.2.2.1,x.2.2.2.2.2.1⟩:Rt),fun r=>(r,())⟩
noncomputable def code_q101:Code:=Tryz.f51.body.getD .skip
noncomputable def E_q101:Env:=⟨layD,[(98,c_q100),(13,c_q99)],[],[]⟩
theorem cons_q101:ConsOk Tryz.prog FX E_q101.cons:=consOk_cons m_q100 (callable_of Tryz.func98 (by kernel_rfl)) rfl (consOk_cons m_q99 (callable_of Tryz.func13 (by kernel_rfl)) rfl (consOk_nil))
theorem loops_q101:loopsIn code_q101=[]:=by kernel_rfl
theorem m_q101:Meets Tryz.prog FX 51 c_q101:=meets_of (E:=E_q101) (code:=code_q101) mix layD_ok cons_q101 Tryz.func51 (by kernel_rfl) sg_q101 (by kernel_rfl) (fun y=>y.1) c_q101.out (fun _=>rfl) c_q101.run (fun x=>by kernel_rfl) (by kernel_rfl) (loops_mem loops_q101 (trivial))
noncomputable def sg_q102:Sig:=⟨[(false,[.d (.sl .rat)]),(false,[.d (.sl .rat)])],[],false,[(false,[.d (.bool)])],[]⟩
noncomputable def c_q102:Con:=⟨sg_q102,Bool,fun x=>M_laws_eqRatS x.1 x.2.1,fun r=>(r,())⟩
noncomputable def code_q102:Code:=Tryz.f20.body.getD .skip
noncomputable def body_q102_0:Code:=(loopsIn code_q102).getD 0 .skip
noncomputable def D_q102_0:LoopD:=⟨⟨mkSlots [(0,false,[.d (.sl .rat)]),(1,false,[.d (.sl .rat)]),(5,false,[.d (.int .i64)])] 27 0,[]⟩,[],[(.ret,⟨mkSlots [(4,false,[.d (.bool)])] 27 0,[]⟩,[]),(.exit 0,⟨mkSlots [] 27 0,[]⟩,[])]⟩
noncomputable def S_q102_0_w (x:Tys D_q102_0.head.ks):Option (OutT D_q102_0.outs):=@whileO ((List Rt) × (List Rt) × Int × Unit) ((Bool × Unit) ⊕ (Unit)) S_laws_eqRatS_0 x
noncomputable def E_q102:Env:=⟨layD,[(51,c_q101)],[(4,mkLM D_q102_0 S_q102_0_w)],[(6,[(0,[]),(1,[]),(2,[]),(3,[]),(4,[]),(5,[]),(6,[]),(7,[]),(8,[3,7,2,6,0,1,4,5]),(9,[])])]⟩
theorem cons_q102:ConsOk Tryz.prog FX E_q102.cons:=consOk_cons m_q101 (callable_of Tryz.func51 (by kernel_rfl)) rfl (consOk_nil)
theorem S_q102_0_ok (x:Tys D_q102_0.head.ks):stepL E_q102 D_q102_0 body_q102_0 x=S_laws_eqRatS_0 x:=by kernel_rfl
theorem loops_q102_0:loopsIn body_q102_0=[]:=by kernel_rfl
theorem l_q102_0:LoopOk Tryz.prog FX (mkLM D_q102_0 S_q102_0_w) body_q102_0:=loop_ok2 mix layD_ok cons_q102 (by kernel_rfl) (loops_mem loops_q102_0 (trivial)) S_q102_0_ok fun _ _ h=>h
theorem loops_q102:loopsIn code_q102=[body_q102_0]:=by kernel_rfl
theorem m_q102:Meets Tryz.prog FX 20 c_q102:=meets_of (E:=E_q102) (code:=code_q102) mix layD_ok cons_q102 Tryz.func20 (by kernel_rfl) sg_q102 (by kernel_rfl) (fun y=>y.1) c_q102.out (fun _=>rfl) c_q102.run (fun x=>by kernel_rfl) (by kernel_rfl) (loops_mem loops_q102 (⟨⟨_,by kernel_rfl,l_q102_0⟩,trivial⟩))
noncomputable def sg_q103:Sig:=⟨[(true,[.d (.int .i64),.d (.int .i64),.d (.sl .rat)]),(true,[.d (.int .i64),.d (.int .i64),.d (.sl .rat)])],[],false,[(false,[.d (.bool)])],[]⟩
noncomputable def c_q103:Con:=⟨sg_q103,Bool,fun x=>M_laws_eqMatrix (⟨x.1,x.2.1,x.2.2.1⟩:Mx) (⟨x.2.2.2.1,x.2.2.2.2.1,x.2.2.2.2.2.1⟩:Mx),fun r=>(r,())⟩
noncomputable def code_q103:Code:=Tryz.f12.body.getD .skip
noncomputable def E_q103:Env:=⟨layD,[(20,c_q102)],[],[]⟩
theorem cons_q103:ConsOk Tryz.prog FX E_q103.cons:=consOk_cons m_q102 (callable_of Tryz.func20 (by kernel_rfl)) rfl (consOk_nil)
theorem loops_q103:loopsIn code_q103=[]:=by kernel_rfl
theorem m_q103:Meets Tryz.prog FX 12 c_q103:=meets_of (E:=E_q103) (code:=code_q103) mix layD_ok cons_q103 Tryz.func12 (by kernel_rfl) sg_q103 (by kernel_rfl) (fun y=>y.1) c_q103.out (fun _=>rfl) c_q103.run (fun x=>by kernel_rfl) (by kernel_rfl) (loops_mem loops_q103 (trivial))
noncomputable def sg_q104:Sig:=⟨[(false,[.own 63]),(false,[.d (.int .i64)])],[(63,.arr false .int)],false,[(false,[.d (.int .i64)])],[(63,.arr false .int)]⟩
noncomputable def c_q104:Con:=⟨sg_q104,Int × List Int,fun x=>M_laws_markIntS_md x.2.1 x.1,fun r=>(r.1,r.2,())⟩
noncomputable def code_q104:Code:=Tryz.f15.body.getD .skip
noncomputable def body_q104_0:Code:=(loopsIn code_q104).getD 0 .skip
noncomputable def D_q104_0:LoopD:=⟨⟨mkSlots [(0,false,[.own 63]),(1,false,[.d (.int .i64)]),(5,false,[.d (.int .i64)])] 19 0,[(63,.arr false .int)]⟩,[],[(.exit 0,⟨mkSlots [(1,false,[.d (.int .i64)])] 19 0,[(63,.arr false .int)]⟩,[])]⟩
noncomputable def S_q104_0_w (x:Tys D_q104_0.head.ks):Option (OutT D_q104_0.outs):=@whileO (Int × Int × (List Int) × Unit) (Int × (List Int) × Unit) S_laws_markIntS_md_0 x
noncomputable def E_q104:Env:=⟨layD,[],[(2,mkLM D_q104_0 S_q104_0_w)],[]⟩
theorem cons_q104:ConsOk Tryz.prog FX E_q104.cons:=consOk_nil
theorem S_q104_0_ok (x:Tys D_q104_0.head.ks):stepL E_q104 D_q104_0 body_q104_0 x=S_laws_markIntS_md_0 x:=by kernel_rfl
theorem loops_q104_0:loopsIn body_q104_0=[]:=by kernel_rfl
theorem l_q104_0:LoopOk Tryz.prog FX (mkLM D_q104_0 S_q104_0_w) body_q104_0:=loop_ok2 mix layD_ok cons_q104 (by kernel_rfl) (loops_mem loops_q104_0 (trivial)) S_q104_0_ok fun _ _ h=>h
theorem loops_q104:loopsIn code_q104=[body_q104_0]:=by kernel_rfl
theorem m_q104:Meets Tryz.prog FX 15 c_q104:=meets_of (E:=E_q104) (code:=code_q104) mix layD_ok cons_q104 Tryz.func15 (by kernel_rfl) sg_q104 (by kernel_rfl) (fun y=>(y.1,y.2.1)) c_q104.out (fun _=>rfl) c_q104.run (fun x=>by kernel_rfl) (by kernel_rfl) (loops_mem loops_q104 (⟨⟨_,by kernel_rfl,l_q104_0⟩,trivial⟩))
noncomputable def sg_q105:Sig:=⟨[(false,[.dp 63]),(false,[.d (.int .i64)])],[(63,.deep .rat)],false,[(false,[.d (.int .i64)])],[(63,.deep .rat)]⟩
noncomputable def c_q105:Con:=⟨sg_q105,Int × List Rt,fun x=>M_laws_markRatS_md x.2.1 x.1,fun r=>(r.1,r.2,())⟩
noncomputable def code_q105:Code:=Tryz.f21.body.getD .skip
noncomputable def body_q105_0:Code:=(loopsIn code_q105).getD 0 .skip
noncomputable def D_q105_0:LoopD:=⟨⟨mkSlots [(0,false,[.dp 63]),(1,false,[.d (.int .i64)]),(5,false,[.d (.int .i64)])] 38 0,[(63,.deep .rat)]⟩,[],[(.exit 0,⟨mkSlots [(1,false,[.d (.int .i64)])] 38 0,[(63,.deep .rat)]⟩,[])]⟩
noncomputable def S_q105_0_w (x:Tys D_q105_0.head.ks):Option (OutT D_q105_0.outs):=@whileO (Int × Int × (List Rt) × Unit) (Int × (List Rt) × Unit) S_laws_markRatS_md_0 x
noncomputable def E_q105:Env:=⟨layD,[(15,c_q104)],[(2,mkLM D_q105_0 S_q105_0_w)],[]⟩
theorem cons_q105:ConsOk Tryz.prog FX E_q105.cons:=consOk_cons m_q104 (callable_of Tryz.func15 (by kernel_rfl)) rfl (consOk_nil)
theorem S_q105_0_ok (x:Tys D_q105_0.head.ks):stepL E_q105 D_q105_0 body_q105_0 x=S_laws_markRatS_md_0 x:=by kernel_rfl
theorem loops_q105_0:loopsIn body_q105_0=[]:=by kernel_rfl
theorem l_q105_0:LoopOk Tryz.prog FX (mkLM D_q105_0 S_q105_0_w) body_q105_0:=loop_ok2 mix layD_ok cons_q105 (by kernel_rfl) (loops_mem loops_q105_0 (trivial)) S_q105_0_ok fun _ _ h=>h
theorem loops_q105:loopsIn code_q105=[body_q105_0]:=by kernel_rfl
theorem m_q105:Meets Tryz.prog FX 21 c_q105:=meets_of (E:=E_q105) (code:=code_q105) mix layD_ok cons_q105 Tryz.func21 (by kernel_rfl) sg_q105 (by kernel_rfl) (fun y=>(y.1,y.2.1)) c_q105.out (fun _=>rfl) c_q105.run (fun x=>by kernel_rfl) (by kernel_rfl) (loops_mem loops_q105 (⟨⟨_,by kernel_rfl,l_q105_0⟩,trivial⟩))
noncomputable def sg_q106:Sig:=⟨[(true,[.d (.int .i64),.d (.int .i64),.dp 191]),(false,[.d (.int .i64)])],[(191,.deep .rat)],false,[(false,[.d (.int .i64)])],[(191,.deep .rat)]⟩
noncomputable def c_q106:Con:=⟨sg_q106,Int × List Rt,fun x=>M_laws_markMatrix_md (⟨x.1,x.2.1,x.2.2.2.1⟩:Mx) x.2.2.1,fun r=>(r.1,r.2,())⟩
noncomputable def code_q106:Code:=Tryz.f14.body.getD .skip
noncomputable def E_q106:Env:=⟨layD,[(21,c_q105)],[],[]⟩
theorem cons_q106:ConsOk Tryz.prog FX E_q106.cons:=consOk_cons m_q105 (callable_of Tryz.func21 (by kernel_rfl)) rfl (consOk_nil)
theorem loops_q106:loopsIn code_q106=[]:=by kernel_rfl
theorem m_q106:Meets Tryz.prog FX 14 c_q106:=meets_of (E:=E_q106) (code:=code_q106) mix layD_ok cons_q106 Tryz.func14 (by kernel_rfl) sg_q106 (by kernel_rfl) (fun y=>(y.1,y.2.1)) c_q106.out (fun _=>rfl) c_q106.run (fun x=>by kernel_rfl) (by kernel_rfl) (loops_mem loops_q106 (trivial))
noncomputable def sg_q107:Sig:=⟨[(false,[.d (.sl .int)]),(false,[.d (.int .i64)])],[],false,[(false,[.d (.int .i64)])],[]⟩
noncomputable def c_q107:Con:=⟨sg_q107,Int,fun x=>M_laws_heldIntS x.1 x.2.1,fun r=>(r,())⟩
noncomputable def code_q107:Code:=Tryz.f17.body.getD .skip
noncomputable def body_q107_0:Code:=(loopsIn code_q107).getD 0 .skip
noncomputable def D_q107_0:LoopD:=⟨⟨mkSlots [(0,false,[.d (.sl .int)]),(1,false,[.d (.int .i64)]),(5,false,[.d (.int .i64)])] 21 0,[]⟩,[],[(.ret,⟨mkSlots [(4,false,[.d (.int .i64)])] 21 0,[]⟩,[]),(.exit 0,⟨mkSlots [(1,false,[.d (.int .i64)])] 21 0,[]⟩,[])]⟩
noncomputable def S_q107_0_w (x:Tys D_q107_0.head.ks):Option (OutT D_q107_0.outs):=@whileO ((List Int) × Int × Int × Unit) ((Int × Unit) ⊕ (Int × Unit)) S_laws_heldIntS_0 x
noncomputable def E_q107:Env:=⟨layD,[],[(2,mkLM D_q107_0 S_q107_0_w)],[]⟩
theorem cons_q107:ConsOk Tryz.prog FX E_q107.cons:=consOk_nil
theorem S_q107_0_ok (x:Tys D_q107_0.head.ks):stepL E_q107 D_q107_0 body_q107_0 x=S_laws_heldIntS_0 x:=by kernel_rfl
theorem loops_q107_0:loopsIn body_q107_0=[]:=by kernel_rfl
theorem l_q107_0:LoopOk Tryz.prog FX (mkLM D_q107_0 S_q107_0_w) body_q107_0:=loop_ok2 mix layD_ok cons_q107 (by kernel_rfl) (loops_mem loops_q107_0 (trivial)) S_q107_0_ok fun _ _ h=>h
theorem loops_q107:loopsIn code_q107=[body_q107_0]:=by kernel_rfl
theorem m_q107:Meets Tryz.prog FX 17 c_q107:=meets_of (E:=E_q107) (code:=code_q107) mix layD_ok cons_q107 Tryz.func17 (by kernel_rfl) sg_q107 (by kernel_rfl) (fun y=>y.1) c_q107.out (fun _=>rfl) c_q107.run (fun x=>by kernel_rfl) (by kernel_rfl) (loops_mem loops_q107 (⟨⟨_,by kernel_rfl,l_q107_0⟩,trivial⟩))
noncomputable def sg_q108:Sig:=⟨[(false,[.d (.sl .rat)]),(false,[.d (.int .i64)])],[],false,[(false,[.d (.int .i64)])],[]⟩
noncomputable def c_q108:Con:=⟨sg_q108,Int,fun x=>M_laws_heldRatS x.1 x.2.1,fun r=>(r,())⟩
noncomputable def code_q108:Code:=Tryz.f22.body.getD .skip
noncomputable def body_q108_0:Code:=(loopsIn code_q108).getD 0 .skip
noncomputable def D_q108_0:LoopD:=⟨⟨mkSlots [(0,false,[.d (.sl .rat)]),(1,false,[.d (.int .i64)]),(5,false,[.d (.int .i64)])] 44 0,[]⟩,[],[(.ret,⟨mkSlots [(4,false,[.d (.int .i64)])] 44 0,[]⟩,[]),(.exit 0,⟨mkSlots [(1,false,[.d (.int .i64)])] 44 0,[]⟩,[])]⟩
noncomputable def S_q108_0_w (x:Tys D_q108_0.head.ks):Option (OutT D_q108_0.outs):=@whileO ((List Rt) × Int × Int × Unit) ((Int × Unit) ⊕ (Int × Unit)) S_laws_heldRatS_0 x
noncomputable def E_q108:Env:=⟨layD,[(17,c_q107)],[(2,mkLM D_q108_0 S_q108_0_w)],[]⟩
theorem cons_q108:ConsOk Tryz.prog FX E_q108.cons:=consOk_cons m_q107 (callable_of Tryz.func17 (by kernel_rfl)) rfl (consOk_nil)
theorem S_q108_0_ok (x:Tys D_q108_0.head.ks):stepL E_q108 D_q108_0 body_q108_0 x=S_laws_heldRatS_0 x:=by kernel_rfl
theorem loops_q108_0:loopsIn body_q108_0=[]:=by kernel_rfl
theorem l_q108_0:LoopOk Tryz.prog FX (mkLM D_q108_0 S_q108_0_w) body_q108_0:=loop_ok2 mix layD_ok cons_q108 (by kernel_rfl) (loops_mem loops_q108_0 (trivial)) S_q108_0_ok fun _ _ h=>h
theorem loops_q108:loopsIn code_q108=[body_q108_0]:=by kernel_rfl
theorem m_q108:Meets Tryz.prog FX 22 c_q108:=meets_of (E:=E_q108) (code:=code_q108) mix layD_ok cons_q108 Tryz.func22 (by kernel_rfl) sg_q108 (by kernel_rfl) (fun y=>y.1) c_q108.out (fun _=>rfl) c_q108.run (fun x=>by kernel_rfl) (by kernel_rfl) (loops_mem loops_q108 (⟨⟨_,by kernel_rfl,l_q108_0⟩,trivial⟩))
noncomputable def sg_q109:Sig:=⟨[(true,[.d (.int .i64),.d (.int .i64),.d (.sl .rat)]),(false,[.d (.int .i64)])],[],false,[(false,[.d (.int .i64)])],[]⟩
noncomputable def c_q109:Con:=⟨sg_q109,Int,fun x=>M_laws_heldMatrix (⟨x.1,x.2.1,x.2.2.1⟩:Mx) x.2.2.2.1,fun r=>(r,())⟩
noncomputable def code_q109:Code:=Tryz.f16.body.getD .skip
noncomputable def E_q109:Env:=⟨layD,[(22,c_q108)],[],[]⟩
theorem cons_q109:ConsOk Tryz.prog FX E_q109.cons:=consOk_cons m_q108 (callable_of Tryz.func22 (by kernel_rfl)) rfl (consOk_nil)
theorem loops_q109:loopsIn code_q109=[]:=by kernel_rfl
theorem m_q109:Meets Tryz.prog FX 16 c_q109:=meets_of (E:=E_q109) (code:=code_q109) mix layD_ok cons_q109 Tryz.func16 (by kernel_rfl) sg_q109 (by kernel_rfl) (fun y=>y.1) c_q109.out (fun _=>rfl) c_q109.run (fun x=>by kernel_rfl) (by kernel_rfl) (loops_mem loops_q109 (trivial))
noncomputable def sg_q110:Sig:=⟨[(true,[.d (.int .i64),.d (.int .i64),.d (.sl .rat)])],[],false,[(false,[.d (.bool)])],[]⟩
noncomputable def c_q110:Con:=⟨sg_q110,Bool,fun x=>M_laws_FnExactReduce (⟨x.1,x.2.1,x.2.2.1⟩:Mx),fun r=>(r,())⟩
noncomputable def code_q110:Code:=Tryz.f3.body.getD .skip
noncomputable def E_q110:Env:=⟨layD,[(8,c_q5),(10,c_q10),(9,c_q53),(11,c_q98),(12,c_q103),(13,c_q99),(14,c_q106),(15,c_q104),(16,c_q109),(17,c_q107)],[],[(10,[(0,[]),(1,[]),(2,[1]),(3,[0,2,1]),(4,[])])]⟩
theorem cons_q110:ConsOk Tryz.prog FX E_q110.cons:=consOk_cons m_q5 (callable_of Tryz.func8 (by kernel_rfl)) rfl (consOk_cons m_q10 (callable_of Tryz.func10 (by kernel_rfl)) rfl (consOk_cons m_q53 (callable_of Tryz.func9 (by kernel_rfl)) rfl (consOk_cons m_q98 (callable_of Tryz.func11 (by kernel_rfl)) rfl (consOk_cons m_q103 (callable_of Tryz.func12 (by kernel_rfl)) rfl (consOk_cons m_q99 (callable_of Tryz.func13 (by kernel_rfl)) rfl (consOk_cons m_q106 (callable_of Tryz.func14 (by kernel_rfl)) rfl (consOk_cons m_q104 (callable_of Tryz.func15 (by kernel_rfl)) rfl (consOk_cons m_q109 (callable_of Tryz.func16 (by kernel_rfl)) rfl (consOk_cons m_q107 (callable_of Tryz.func17 (by kernel_rfl)) rfl (consOk_nil))))))))))
theorem loops_q110:loopsIn code_q110=[]:=by kernel_rfl
theorem m_q110:Meets Tryz.prog FX 3 c_q110:=meets_of (E:=E_q110) (code:=code_q110) mix layD_ok cons_q110 Tryz.func3 (by kernel_rfl) sg_q110 (by kernel_rfl) (fun y=>y.1) c_q110.out (fun _=>rfl) c_q110.run (fun x=>by kernel_rfl) (by kernel_rfl) (loops_mem loops_q110 (trivial))
end Go.Proofs.YtemlaciidfaceaaGreat.WReduce
