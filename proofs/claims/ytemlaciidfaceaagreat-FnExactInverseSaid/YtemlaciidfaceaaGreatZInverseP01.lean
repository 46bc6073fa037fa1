/-
  Own work: part 8 of the texts that the proof of the given statement leans on.
-/
import Derived.Test.YtemlaciidfaceaaGreatProg
import Derived.Test.YtemlaciidfaceaaGreatZInverseP00
noncomputable section
open Go Go.Di Go.Proofs
namespace Go.Proofs.YtemlaciidfaceaaGreat.WInverse
def FX:Nat→Option (Array Value→Prop):=zOE
def zMm:List (TypeId × TI):=[
  (3,⟨false,[.d (.int .i64 0)],[],none,some (.int .i64),false,false⟩),
  (4,⟨false,[.d (.bool false)],[],none,some .bool,false,false⟩),
  (22,⟨false,[.mt],[],some .trat,none,false,false⟩),
  (24,⟨true,[.d (.int .i64 0),.d (.int .i64 0),.mt],[(0,1,false),(1,1,false),(2,1,false)],none,none,true,false⟩),
  (26,⟨false,[.mt],[],some .trat,none,false,false⟩),
  (28,⟨true,[.d (.int .i64 0),.d (.int .i64 0),.mt],[(0,1,false),(1,1,false),(2,1,false)],none,none,true,false⟩),
  (29,⟨false,[.mt],[],some .int,none,false,false⟩),
  (60,⟨true,[.d (.int .i64 0),.d (.int .i64 0),.mt,.mt,.mt],[(0,3,true),(3,1,false),(4,1,false)],none,none,true,false⟩),
  (65,⟨true,[.d (.bool false),.mt],[(0,1,false),(1,1,false)],none,none,true,false⟩),
  (67,⟨true,[.d (.bool false),.mt,.mt],[(0,2,true),(2,1,false)],none,none,true,false⟩),
  (75,⟨true,[.d (.bool false),.mt],[(0,1,false),(1,1,false)],none,none,true,false⟩),
  (77,⟨true,[.d (.bool false),.mt,.mt],[(0,2,true),(2,1,false)],none,none,true,false⟩)]
def lay:List (TypeId × TI):=[
  (3,⟨false,[.d (.int .i64 0)],[],none,some (.int .i64),false,false⟩),
  (4,⟨false,[.d (.bool false)],[],none,some .bool,false,false⟩),
  (22,⟨false,[.mt],[],some .rat,none,false,false⟩),
  (24,⟨true,[.d (.int .i64 0),.d (.int .i64 0),.mt],[(0,1,false),(1,1,false),(2,1,false)],none,none,true,false⟩),
  (26,⟨false,[.mt],[],some .rat,none,false,false⟩),
  (28,⟨true,[.d (.int .i64 0),.d (.int .i64 0),.mt],[(0,1,false),(1,1,false),(2,1,false)],none,none,true,false⟩),
  (29,⟨false,[.mt],[],some .int,none,false,false⟩),
  (60,⟨true,[.d (.int .i64 0),.d (.int .i64 0),.mt,.mt,.mt],[(0,3,true),(3,1,false),(4,1,false)],none,none,true,false⟩),
  (65,⟨true,[.d (.bool false),.mt],[(0,1,false),(1,1,false)],none,none,true,false⟩),
  (67,⟨true,[.d (.bool false),.mt,.mt],[(0,2,true),(2,1,false)],none,none,true,false⟩),
  (75,⟨true,[.d (.bool false),.mt],[(0,1,false),(1,1,false)],none,none,true,false⟩),
  (77,⟨true,[.d (.bool false),.mt,.mt],[(0,2,true),(2,1,false)],none,none,true,false⟩)]
def zbN:List (TypeId × TI):=[
  (3,⟨false,[.d (.int .i64 0)],[],none,some (.int .i64),false,false⟩),
  (4,⟨false,[.d (.bool false)],[],none,some .bool,false,false⟩),
  (22,⟨false,[.mt],[],some .rat,none,false,true⟩),
  (24,⟨true,[.d (.int .i64 0),.d (.int .i64 0),.mt],[(0,1,false),(1,1,false),(2,1,false)],none,none,true,false⟩),
  (26,⟨false,[.mt],[],some .rat,none,false,true⟩),
  (28,⟨true,[.d (.int .i64 0),.d (.int .i64 0),.mt],[(0,1,false),(1,1,false),(2,1,false)],none,none,true,false⟩),
  (29,⟨false,[.mt],[],some .int,none,false,false⟩),
  (60,⟨true,[.d (.int .i64 0),.d (.int .i64 0),.mt,.mt,.mt],[(0,3,true),(3,1,false),(4,1,false)],none,none,true,false⟩),
  (65,⟨true,[.d (.bool false),.mt],[(0,1,false),(1,1,false)],none,none,true,false⟩),
  (67,⟨true,[.d (.bool false),.mt,.mt],[(0,2,true),(2,1,false)],none,none,true,false⟩),
  (75,⟨true,[.d (.bool false),.mt],[(0,1,false),(1,1,false)],none,none,true,false⟩),
  (77,⟨true,[.d (.bool false),.mt,.mt],[(0,2,true),(2,1,false)],none,none,true,false⟩)]
theorem zcP:zcM Tryz.prog lay:=zmO (by kernel_rfl)
theorem zah:zcM Tryz.prog zbN:=zmO (by kernel_rfl)
theorem zeq:zcM Tryz.prog zMm:=zmO (by kernel_rfl)
theorem mix:Tryz.prog.follows .mixedOrders=true:=by kernel_rfl
def zOx:Sig:=⟨[(false,[.d (.sl .int)]),(false,[.d (.int .i64)])],[],false,[(false,[.d (.int .i64)])],[]⟩
def zPE:Con:=⟨zOx,Int,fun x=>zeN x.1 x.2.1,fun r=>(r,())⟩
def zFq:Code:=Tryz.f100.body.getD .skip
def zR6:Env:=⟨zbN,[],[],[]⟩
theorem zNz:zaj Tryz.prog FX zR6.cons:=zae
theorem zG6:zad zFq=[]:=by kernel_rfl
theorem zRV:zav Tryz.prog FX 100 zPE:=zai (E:=zR6) (code:=zFq) mix zah zNz Tryz.func100 (by kernel_rfl) zOx (by kernel_rfl) (fun y=>y.1) zPE.out (fun _=>rfl) zPE.run (fun x=>by kernel_rfl) (by kernel_rfl) (zac zG6 (trivial))
def zOw:Sig:=⟨[(true,[.d (.bool),.d (.sl .int)]),(false,[.d (.int .i64)])],[],false,[(false,[.d (.int .i64)])],[]⟩
def zQG:Con:=⟨zOw,Int,fun x=>zgi (⟨x.1,x.2.1⟩:Bg) x.2.2.1,fun r=>(r,())⟩
def zFp:Code:=Tryz.f99.body.getD .skip
def zR5:Env:=⟨zbN,[(100,zPE)],[],[]⟩
theorem zNy:zaj Tryz.prog FX zR5.cons:=zaa zRV (zab Tryz.func100 (by kernel_rfl)) rfl (zae)
theorem zG5:zad zFp=[]:=by kernel_rfl
theorem zSf:zav Tryz.prog FX 99 zQG:=zai (E:=zR5) (code:=zFp) mix zah zNy Tryz.func99 (by kernel_rfl) zOw (by kernel_rfl) (fun y=>y.1) zQG.out (fun _=>rfl) zQG.run (fun x=>by kernel_rfl) (by kernel_rfl) (zac zG5 (trivial))
def zOv:Sig:=⟨[(true,[.d (.bool),.d (.sl .int),.d (.sl .int)]),(false,[.d (.int .i64)])],[],false,[(false,[.d (.int .i64)])],[]⟩
def zQF:Con:=⟨zOv,Int,fun x=>zgy (⟨x.1,x.2.1,x.2.2.1⟩:Rt) x.2.2.2.1,fun r=>(r,())⟩
def zFo:Code:=Tryz.f52.body.getD .skip
def zR4:Env:=⟨zbN,[(99,zQG),(100,zPE)],[],[]⟩
theorem zNx:zaj Tryz.prog FX zR4.cons:=zaa zSf (zab Tryz.func99 (by kernel_rfl)) rfl (zaa zRV (zab Tryz.func100 (by kernel_rfl)) rfl (zae))
theorem zG4:zad zFo=[]:=by kernel_rfl
theorem zSe:zav Tryz.prog FX 52 zQF:=zai (E:=zR4) (code:=zFo) mix zah zNx Tryz.func52 (by kernel_rfl) zOv (by kernel_rfl) (fun y=>y.1) zQF.out (fun _=>rfl) zQF.run (fun x=>by kernel_rfl) (by kernel_rfl) (zac zG4 (trivial))
def zOu:Sig:=⟨[(false,[.d (.sl .rat)]),(false,[.d (.int .i64)])],[],false,[(false,[.d (.int .i64)])],[]⟩
def zQE:Con:=⟨zOu,Int,fun x=>zhX x.1 x.2.1,fun r=>(r,())⟩
def zvy:Code:=Tryz.f23.body.getD .skip
def zk5:Code:=(zad zvy).getD 0 .skip
def zpk:LoopD:=⟨⟨zaf [(0,false,[.d (.sl .rat)]),(1,false,[.d (.int .i64)]),(5,false,[.d (.int .i64)])] 27 0,[]⟩,[],[(.ret,⟨zaf [(4,false,[.d (.int .i64)])] 27 0,[]⟩,[]),(.exit 0,⟨zaf [(1,false,[.d (.int .i64)])] 27 0,[]⟩,[])]⟩
def zyP (x:Tys zpk.head.ks):Option (zcA zpk.outs):=@whileO ((List Rt) × Int × Int × Unit) ((Int × Unit) ⊕ (Int × Unit)) zeA x
def zRQ:Env:=⟨zbN,[(52,zQF)],[(5,zaZ zpk zyP)],[]⟩
theorem zE0:zaj Tryz.prog FX zRQ.cons:=zaa zSe (zab Tryz.func52 (by kernel_rfl)) rfl (zae)
theorem zF2 (x:Tys zpk.head.ks):stepL zRQ zpk zk5 x=zeA x:=by kernel_rfl
theorem zzk:zad zk5=[]:=by kernel_rfl
theorem zPr:zay Tryz.prog FX (zaZ zpk zyP) zk5:=zam mix zah zE0 (by kernel_rfl) (zac zzk (trivial)) zF2 fun _ _ h=>h
theorem zG3:zad zvy=[zk5]:=by kernel_rfl
theorem zSd:zav Tryz.prog FX 23 zQE:=zai (E:=zRQ) (code:=zvy) mix zah zE0 Tryz.func23 (by kernel_rfl) zOu (by kernel_rfl) (fun y=>y.1) zQE.out (fun _=>rfl) zQE.run (fun x=>by kernel_rfl) (by kernel_rfl) (zac zG3 (⟨⟨_,by kernel_rfl,zPr⟩,trivial⟩))
def zOt:Sig:=⟨[(true,[.d (.int .i64),.d (.int .i64),.d (.sl .rat)]),(false,[.d (.int .i64)])],[],false,[(false,[.d (.int .i64)])],[]⟩
def zQD:Con:=⟨zOt,Int,fun x=>zeM (⟨x.1,x.2.1,x.2.2.1⟩:Mx) x.2.2.2.1,fun r=>(r,())⟩
def zFn:Code:=Tryz.f8.body.getD .skip
def zR3:Env:=⟨zbN,[(23,zQE)],[],[]⟩
theorem zNw:zaj Tryz.prog FX zR3.cons:=zaa zSd (zab Tryz.func23 (by kernel_rfl)) rfl (zae)
theorem zG2:zad zFn=[]:=by kernel_rfl
theorem zSc:zav Tryz.prog FX 8 zQD:=zai (E:=zR3) (code:=zFn) mix zah zNw Tryz.func8 (by kernel_rfl) zOt (by kernel_rfl) (fun y=>y.1) zQD.out (fun _=>rfl) zQD.run (fun x=>by kernel_rfl) (by kernel_rfl) (zac zG2 (trivial))
def zOs:Sig:=⟨[(false,[.d (.sl .int)])],[],false,[(false,[.own 0])],[(0,.arr false .int)]⟩
def zPD:Con:=⟨zOs,List Int,fun x=>zeL x.1,fun r=>(r,())⟩
def zvx:Code:=Tryz.f103.body.getD .skip
def zk4:Code:=(zad zvx).getD 0 .skip
def zpj:LoopD:=⟨⟨zaf [(0,false,[.d (.sl .int)]),(3,false,[.own 1472]),(4,false,[.d (.int .i64)])] 22 0,[(1472,.arr false .int)]⟩,[],[(.exit 0,⟨zaf [(3,false,[.own 1472])] 22 0,[(1472,.arr false .int)]⟩,[])]⟩
def zyO (x:Tys zpj.head.ks):Option (zcA zpj.outs):=@whileO ((List Int) × Int × (List Int) × Unit) ((List Int) × Unit) zdF x
def zRP:Env:=⟨zbN,[],[(3,zaZ zpj zyO)],[]⟩
theorem zEZ:zaj Tryz.prog FX zRP.cons:=zae
theorem zF1 (x:Tys zpj.head.ks):stepL zRP zpj zk4 x=zdF x:=by kernel_rfl
theorem zzj:zad zk4=[]:=by kernel_rfl
theorem zPq:zay Tryz.prog FX (zaZ zpj zyO) zk4:=zam mix zah zEZ (by kernel_rfl) (zac zzj (trivial)) zF1 fun _ _ h=>h
theorem zG1:zad zvx=[zk4]:=by kernel_rfl
theorem zRU:zav Tryz.prog FX 103 zPD:=zai (E:=zRP) (code:=zvx) mix zah zEZ Tryz.func103 (by kernel_rfl) zOs (by kernel_rfl) (fun y=>y.1) zPD.out (fun _=>rfl) zPD.run (fun x=>by kernel_rfl) (by kernel_rfl) (zac zG1 (⟨⟨_,by kernel_rfl,zPq⟩,trivial⟩))
def zOr:Sig:=⟨[(true,[.d (.bool),.d (.sl .int)])],[],false,[(true,[.d (.bool),.own 0])],[(0,.arr false .int)]⟩
def zQC:Con:=⟨zOr,Bg,fun x=>zgh (⟨x.1,x.2.1⟩:Bg),fun r=>(r.neg,r.mag,())⟩
def zFm:Code:=Tryz.f102.body.getD .skip
def zR2:Env:=⟨zbN,[(103,zPD)],[],[]⟩
theorem zNv:zaj Tryz.prog FX zR2.cons:=zaa zRU (zab Tryz.func103 (by kernel_rfl)) rfl (zae)
theorem zG0:zad zFm=[]:=by kernel_rfl
theorem zSb:zav Tryz.prog FX 102 zQC:=zai (E:=zR2) (code:=zFm) mix zah zNv Tryz.func102 (by kernel_rfl) zOr (by kernel_rfl) (fun y=>(⟨y.1,y.2.1⟩:Bg)) zQC.out (fun _=>rfl) zQC.run (fun x=>by kernel_rfl) (by kernel_rfl) (zac zG0 (trivial))
def zOq:Sig:=⟨[(true,[.d (.bool),.d (.sl .int),.d (.sl .int)])],[],false,[(true,[.d (.bool),.own 0,.own 1])],[(0,.arr false .int),(1,.arr false .int)]⟩
def zQB:Con:=⟨zOq,Rt,fun x=>zgx (⟨x.1,x.2.1,x.2.2.1⟩:Rt),fun r=>(r.neg,r.mag,r.den,())⟩
def zFl:Code:=Tryz.f55.body.getD .skip
def zR1:Env:=⟨zbN,[(102,zQC),(103,zPD)],[],[]⟩
theorem zNu:zaj Tryz.prog FX zR1.cons:=zaa zSb (zab Tryz.func102 (by kernel_rfl)) rfl (zaa zRU (zab Tryz.func103 (by kernel_rfl)) rfl (zae))
theorem zGZ:zad zFl=[]:=by kernel_rfl
theorem zSa:zav Tryz.prog FX 55 zQB:=zai (E:=zR1) (code:=zFl) mix zah zNu Tryz.func55 (by kernel_rfl) zOq (by kernel_rfl) (fun y=>(⟨y.1,y.2.1,y.2.2.1⟩:Rt)) zQB.out (fun _=>rfl) zQB.run (fun x=>by kernel_rfl) (by kernel_rfl) (zac zGZ (trivial))
def zOp:Sig:=⟨[(false,[.d (.sl .rat)])],[],false,[(false,[.dp 0])],[(0,.deep .rat)]⟩
def zQA:Con:=⟨zOp,List Rt,fun x=>zfO x.1,fun r=>(r,())⟩
def zvw:Code:=Tryz.f25.body.getD .skip
def zk3:Code:=(zad zvw).getD 0 .skip
def zpi:LoopD:=⟨⟨zaf [(0,false,[.d (.sl .rat)]),(3,false,[.dp 1536]),(4,false,[.d (.int .i64)])] 23 0,[(1536,.deep .rat)]⟩,[],[(.exit 0,⟨zaf [(3,false,[.dp 1536])] 23 0,[(1536,.deep .rat)]⟩,[])]⟩
def zyN (x:Tys zpi.head.ks):Option (zcA zpi.outs):=@whileO ((List Rt) × Int × (List Rt) × Unit) ((List Rt) × Unit) zdE x
def zRO:Env:=⟨zbN,[(55,zQB)],[(3,zaZ zpi zyN)],[]⟩
theorem zEY:zaj Tryz.prog FX zRO.cons:=zaa zSa (zab Tryz.func55 (by kernel_rfl)) rfl (zae)
theorem zF0 (x:Tys zpi.head.ks):stepL zRO zpi zk3 x=zdE x:=by kernel_rfl
theorem zzi:zad zk3=[]:=by kernel_rfl
theorem zPp:zay Tryz.prog FX (zaZ zpi zyN) zk3:=zam mix zah zEY (by kernel_rfl) (zac zzi (trivial)) zF0 fun _ _ h=>h
theorem zGY:zad zvw=[zk3]:=by kernel_rfl
theorem zR9:zav Tryz.prog FX 25 zQA:=zai (E:=zRO) (code:=zvw) mix zah zEY Tryz.func25 (by kernel_rfl) zOp (by kernel_rfl) (fun y=>y.1) zQA.out (fun _=>rfl) zQA.run (fun x=>by kernel_rfl) (by kernel_rfl) (zac zGY (⟨⟨_,by kernel_rfl,zPp⟩,trivial⟩))
def zKQ:Sig:=⟨[(true,[.d (.int .i64),.d (.int .i64),.d (.sl .rat)])],[],false,[(true,[.d (.int .i64),.d (.int .i64),.dp 0])],[(0,.deep .rat)]⟩
def zJi:Con:=⟨zKQ,Mx,fun x=>zcn (⟨x.1,x.2.1,x.2.2.1⟩:Mx),fun r=>(r.rows,r.cols,r.cells,())⟩
def zyc:Code:=Tryz.f10.body.getD .skip
def zQu:Env:=⟨zbN,[(25,zQA)],[],[]⟩
theorem zIu:zaj Tryz.prog FX zQu.cons:=zaa zR9 (zab Tryz.func25 (by kernel_rfl)) rfl (zae)
theorem zD9:zad zyc=[]:=by kernel_rfl
theorem zRF:zav Tryz.prog FX 10 zJi:=zai (E:=zQu) (code:=zyc) mix zah zIu Tryz.func10 (by kernel_rfl) zKQ (by kernel_rfl) (fun y=>(⟨y.1,y.2.1,y.2.2.1⟩:Mx)) zJi.out (fun _=>rfl) zJi.run (fun x=>by kernel_rfl) (by kernel_rfl) (zac zD9 (trivial))
def zKP:Sig:=⟨[(false,[.d (.int .i64)]),(false,[.d (.int .i64)]),(false,[.d (.int .i64)])],[],false,[(false,[.d (.bool)])],[]⟩
def zFP:Con:=⟨zKP,Bool,fun x=>zdI x.1 x.2.1 x.2.2.1,fun r=>(r,())⟩
def zyb:Code:=Tryz.f70.body.getD .skip
def zQt:Env:=⟨zbN,[],[],[]⟩
theorem zIt:zaj Tryz.prog FX zQt.cons:=zae
theorem zD8:zad zyb=[]:=by kernel_rfl
theorem zPj:zav Tryz.prog FX 70 zFP:=zai (E:=zQt) (code:=zyb) mix zah zIt Tryz.func70 (by kernel_rfl) zKP (by kernel_rfl) (fun y=>y.1) zFP.out (fun _=>rfl) zFP.run (fun x=>by kernel_rfl) (by kernel_rfl) (zac zD8 (trivial))
def zKO:Sig:=⟨[(false,[.d (.sl .int)])],[],false,[(false,[.d (.bool)])],[]⟩
def zAc:Con:=⟨zKO,Bool,fun x=>zem x.1,fun r=>(r,())⟩
def zqE:Code:=Tryz.f114.body.getD .skip
def zjO:Code:=(zad zqE).getD 0 .skip
def zme:LoopD:=⟨⟨zaf [(0,false,[.d (.sl .int)]),(5,false,[.d (.sl .int)]),(6,false,[.d (.int .i64)]),(7,false,[.d (.int .i64)])] 32 0,[]⟩,[],[(.ret,⟨zaf [(2,false,[.d (.bool)])] 32 0,[]⟩,[]),(.exit 0,⟨zaf [(0,false,[.d (.sl .int)])] 32 0,[]⟩,[])]⟩
def ztL (x:Tys zme.head.ks):Option (zcA zme.outs):=@whileO ((List Int) × (List Int) × Int × Int × Unit) ((Bool × Unit) ⊕ ((List Int) × Unit)) zdo x
def zOc:Env:=⟨zbN,[(70,zFP)],[(2,zaZ zme ztL)],[]⟩
theorem zxt:zaj Tryz.prog FX zOc.cons:=zaa zPj (zab Tryz.func70 (by kernel_rfl)) rfl (zae)
theorem zA4 (x:Tys zme.head.ks):stepL zOc zme zjO x=zdo x:=by kernel_rfl
theorem zu8:zad zjO=[]:=by kernel_rfl
theorem zNc:zay Tryz.prog FX (zaZ zme ztL) zjO:=zam mix zah zxt (by kernel_rfl) (zac zu8 (trivial)) zA4 fun _ _ h=>h
theorem zD7:zad zqE=[zjO]:=by kernel_rfl
theorem zMg:zav Tryz.prog FX 114 zAc:=zai (E:=zOc) (code:=zqE) mix zah zxt Tryz.func114 (by kernel_rfl) zKO (by kernel_rfl) (fun y=>y.1) zAc.out (fun _=>rfl) zAc.run (fun x=>by kernel_rfl) (by kernel_rfl) (zac zD7 (⟨⟨_,by kernel_rfl,zNc⟩,trivial⟩))
def zKN:Sig:=⟨[(true,[.d (.bool),.d (.sl .int)])],[],false,[(false,[.d (.bool)])],[]⟩
def zJh:Con:=⟨zKN,Bool,fun x=>zgg (⟨x.1,x.2.1⟩:Bg),fun r=>(r,())⟩
def zya:Code:=Tryz.f113.body.getD .skip
def zQs:Env:=⟨zbN,[(114,zAc)],[],[]⟩
theorem zIs:zaj Tryz.prog FX zQs.cons:=zaa zMg (zab Tryz.func114 (by kernel_rfl)) rfl (zae)
theorem zD6:zad zya=[]:=by kernel_rfl
theorem zRE:zav Tryz.prog FX 113 zJh:=zai (E:=zQs) (code:=zya) mix zah zIs Tryz.func113 (by kernel_rfl) zKN (by kernel_rfl) (fun y=>y.1) zJh.out (fun _=>rfl) zJh.run (fun x=>by kernel_rfl) (by kernel_rfl) (zac zD6 (trivial))
def zKM:Sig:=⟨[(false,[.d (.sl .int)]),(false,[.d (.sl .int)])],[],false,[(false,[.d (.int .i64)])],[]⟩
def zvF:Con:=⟨zKM,Int,fun x=>zdj x.1 x.2.1,fun r=>(r,())⟩
def zqD:Code:=Tryz.f149.body.getD .skip
def zjN:Code:=(zad zqD).getD 0 .skip
def zmd:LoopD:=⟨⟨zaf [(0,false,[.d (.sl .int)]),(1,false,[.d (.sl .int)]),(5,false,[.d (.int .i64)])] 41 0,[]⟩,[],[(.ret,⟨zaf [(4,false,[.d (.int .i64)])] 41 0,[]⟩,[]),(.exit 0,⟨zaf [] 41 0,[]⟩,[])]⟩
def ztK (x:Tys zmd.head.ks):Option (zcA zmd.outs):=@whileO ((List Int) × (List Int) × Int × Unit) ((Int × Unit) ⊕ (Unit)) zcS x
def zOb:Env:=⟨zbN,[],[(6,zaZ zmd ztK)],[(8,[(0,[]),(1,[]),(2,[]),(3,[]),(4,[]),(5,[]),(6,[]),(7,[]),(8,[])]),(10,[(0,[]),(1,[]),(2,[]),(3,[]),(4,[]),(5,[]),(6,[]),(7,[]),(8,[])])]⟩
theorem zxs:zaj Tryz.prog FX zOb.cons:=zae
theorem zA3 (x:Tys zmd.head.ks):stepL zOb zmd zjN x=zcS x:=by kernel_rfl
theorem zu7:zad zjN=[]:=by kernel_rfl
theorem zNb:zay Tryz.prog FX (zaZ zmd ztK) zjN:=zam mix zah zxs (by kernel_rfl) (zac zu7 (trivial)) zA3 fun _ _ h=>h
theorem zD5:zad zqD=[zjN]:=by kernel_rfl
theorem zGX:zav Tryz.prog FX 149 zvF:=zai (E:=zOb) (code:=zqD) mix zah zxs Tryz.func149 (by kernel_rfl) zKM (by kernel_rfl) (fun y=>y.1) zvF.out (fun _=>rfl) zvF.run (fun x=>by kernel_rfl) (by kernel_rfl) (zac zD5 (⟨⟨_,by kernel_rfl,zNb⟩,trivial⟩))
def zKL:Sig:=⟨[(false,[.d (.sl .int)])],[],true,[(false,[.d (.int .i64)]),(false,[.d (.bool)])],[]⟩
def zJg:Con:=⟨zKL,Int × Bool,fun x=>zdJ x.1,fun r=>(r.1,r.2,())⟩
def zqC:Code:=Tryz.f136.body.getD .skip
def zjM:Code:=(zad zqC).getD 0 .skip
def zmc:LoopD:=⟨⟨zaf [(0,false,[.d (.sl .int)]),(4,false,[.d (.int .i64)]),(5,false,[.d (.int .i64)])] 30 0,[]⟩,[],[(.exit 0,⟨zaf [(4,false,[.d (.int .i64)])] 30 0,[]⟩,[])]⟩
def ztJ (x:Tys zmc.head.ks):Option (zcA zmc.outs):=@whileO ((List Int) × Int × Int × Unit) (Int × Unit) zcc x
def zOa:Env:=⟨zbN,[(114,zAc),(149,zvF)],[(5,zaZ zmc ztJ)],[]⟩
theorem zxr:zaj Tryz.prog FX zOa.cons:=zaa zMg (zab Tryz.func114 (by kernel_rfl)) rfl (zaa zGX (zab Tryz.func149 (by kernel_rfl)) rfl (zae))
theorem zA2 (x:Tys zmc.head.ks):stepL zOa zmc zjM x=zcc x:=by kernel_rfl
theorem zu6:zad zjM=[]:=by kernel_rfl
theorem zNa:zay Tryz.prog FX (zaZ zmc ztJ) zjM:=zam mix zah zxr (by kernel_rfl) (zac zu6 (trivial)) zA2 fun _ _ h=>h
theorem zD4:zad zqC=[zjM]:=by kernel_rfl
theorem zRD:zav Tryz.prog FX 136 zJg:=zai (E:=zOa) (code:=zqC) mix zah zxr Tryz.func136 (by kernel_rfl) zKL (by kernel_rfl) (fun y=>(y.1,y.2.1)) zJg.out (fun _=>rfl) zJg.run (fun x=>by kernel_rfl) (by kernel_rfl) (zac zD4 (⟨⟨_,by kernel_rfl,zNa⟩,trivial⟩))
def zKK:Sig:=⟨[(false,[.d (.int .i64)])],[],false,[(false,[.own 0])],[(0,.arr false .int)]⟩
def zvE:Con:=⟨zKK,List Int,fun x=>zcC x.1,fun r=>(r,())⟩
def zqB:Code:=Tryz.f133.body.getD .skip
def zjL:Code:=(zad zqB).getD 0 .skip
def zmb:LoopD:=⟨⟨zaf [(0,false,[.d (.int .i64)]),(3,false,[.own 1024])] 15 0,[(1024,.arr false .int)]⟩,[(.slot 3 0,1024,.int)],[(.exit 0,⟨zaf [(3,false,[.own 1024])] 15 0,[(1024,.arr false .int)]⟩,[(.slot 3 0,1024,.int)])]⟩
def ztI (x:Tys zmb.head.ks):Option (zcA zmb.outs):=@whileO (Int × (List Int) × Unit) ((List Int) × Unit) zcJ x
def zN9:Env:=⟨zbN,[],[(2,zaZ zmb ztI)],[]⟩
theorem zxq:zaj Tryz.prog FX zN9.cons:=zae
theorem zA1 (x:Tys zmb.head.ks):stepL zN9 zmb zjL x=zcJ x:=by kernel_rfl
theorem zu5:zad zjL=[]:=by kernel_rfl
theorem zM9:zay Tryz.prog FX (zaZ zmb ztI) zjL:=zam mix zah zxq (by kernel_rfl) (zac zu5 (trivial)) zA1 fun _ _ h=>h
theorem zD3:zad zqB=[zjL]:=by kernel_rfl
theorem zGW:zav Tryz.prog FX 133 zvE:=zai (E:=zN9) (code:=zqB) mix zah zxq Tryz.func133 (by kernel_rfl) zKK (by kernel_rfl) (fun y=>y.1) zvE.out (fun _=>rfl) zvE.run (fun x=>by kernel_rfl) (by kernel_rfl) (zac zD3 (⟨⟨_,by kernel_rfl,zM9⟩,trivial⟩))
def zKJ:Sig:=⟨[(false,[.d (.int .i64)]),(false,[.d (.int .i64)])],[],false,[(false,[.own 0])],[(0,.arr false .int)]⟩
def zJf:Con:=⟨zKJ,List Int,fun x=>zeG x.1 x.2.1,fun r=>(r,())⟩
def zqA:Code:=Tryz.f137.body.getD .skip
def zjK:Code:=(zad zqA).getD 0 .skip
def zma:LoopD:=⟨⟨zaf [(0,false,[.d (.int .i64)]),(1,false,[.d (.int .i64)])] 15 0,[]⟩,[],[(.exit 0,⟨zaf [(0,false,[.d (.int .i64)])] 15 0,[]⟩,[])]⟩
def ztH (x:Tys zma.head.ks):Option (zcA zma.outs):=@whileO (Int × Int × Unit) (Int × Unit) zca x
def zN8:Env:=⟨zbN,[(133,zvE)],[(1,zaZ zma ztH)],[]⟩
theorem zxp:zaj Tryz.prog FX zN8.cons:=zaa zGW (zab Tryz.func133 (by kernel_rfl)) rfl (zae)
theorem zA0 (x:Tys zma.head.ks):stepL zN8 zma zjK x=zca x:=by kernel_rfl
theorem zu4:zad zjK=[]:=by kernel_rfl
theorem zM8:zay Tryz.prog FX (zaZ zma ztH) zjK:=zam mix zah zxp (by kernel_rfl) (zac zu4 (trivial)) zA0 fun _ _ h=>h
theorem zD2:zad zqA=[zjK]:=by kernel_rfl
theorem zRC:zav Tryz.prog FX 137 zJf:=zai (E:=zN8) (code:=zqA) mix zah zxp Tryz.func137 (by kernel_rfl) zKJ (by kernel_rfl) (fun y=>y.1) zJf.out (fun _=>rfl) zJf.run (fun x=>by kernel_rfl) (by kernel_rfl) (zac zD2 (⟨⟨_,by kernel_rfl,zM8⟩,trivial⟩))
def zKI:Sig:=⟨[(false,[.own 0])],[(0,.arr false .int)],false,[(false,[.own 0])],[(0,.arr false .int)]⟩
def zvD:Con:=⟨zKI,List Int,fun x=>zbr x.1,fun r=>(r,())⟩
def zqz:Code:=Tryz.f139.body.getD .skip
def zjJ:Code:=(zad zqz).getD 0 .skip
def zl9:LoopD:=⟨⟨zaf [(0,false,[.own 1408]),(3,false,[.d (.int .i64)])] 21 0,[(1408,.arr false .int)]⟩,[],[(.exit 0,⟨zaf [(0,false,[.own 1408]),(3,false,[.d (.int .i64)])] 21 0,[(1408,.arr false .int)]⟩,[])]⟩
def ztG (x:Tys zl9.head.ks):Option (zcA zl9.outs):=@whileO (Int × (List Int) × Unit) (Int × (List Int) × Unit) zbR x
def zN7:Env:=⟨zbN,[],[(2,zaZ zl9 ztG)],[]⟩
theorem zxo:zaj Tryz.prog FX zN7.cons:=zae
theorem zAZ (x:Tys zl9.head.ks):stepL zN7 zl9 zjJ x=zbR x:=by kernel_rfl
theorem zu3:zad zjJ=[]:=by kernel_rfl
theorem zM7:zay Tryz.prog FX (zaZ zl9 ztG) zjJ:=zam mix zah zxo (by kernel_rfl) (zac zu3 (trivial)) zAZ fun _ _ h=>h
theorem zD1:zad zqz=[zjJ]:=by kernel_rfl
theorem zGV:zav Tryz.prog FX 139 zvD:=zai (E:=zN7) (code:=zqz) mix zah zxo Tryz.func139 (by kernel_rfl) zKI (by kernel_rfl) (fun y=>y.1) zvD.out (fun _=>rfl) zvD.run (fun x=>by kernel_rfl) (by kernel_rfl) (zac zD1 (⟨⟨_,by kernel_rfl,zM7⟩,trivial⟩))
def zKH:Sig:=⟨[(false,[.d (.sl .int)]),(false,[.d (.int .i64)])],[],true,[(false,[.own 0]),(false,[.d (.int .i64)])],[(0,.arr false .int)]⟩
def zJe:Con:=⟨zKH,List Int × Int,fun x=>zeF x.1 x.2.1,fun r=>(r.2,r.1,())⟩
def zqy:Code:=Tryz.f150.body.getD .skip
def zjI:Code:=(zad zqy).getD 0 .skip
def zl8:LoopD:=⟨⟨zaf [(0,false,[.d (.sl .int)]),(1,false,[.d (.int .i64)]),(6,false,[.own 2560]),(7,false,[.d (.int .i64)]),(8,false,[.d (.int .i64)])] 39 0,[(2560,.arr false .int)]⟩,[],[(.exit 0,⟨zaf [(6,false,[.own 2560]),(7,false,[.d (.int .i64)])] 39 0,[(2560,.arr false .int)]⟩,[])]⟩
def ztF (x:Tys zl8.head.ks):Option (zcA zl8.outs):=@whileO ((List Int) × Int × Int × Int × (List Int) × Unit) (Int × (List Int) × Unit) zbv x
def zN6:Env:=⟨zbN,[(139,zvD)],[(4,zaZ zl8 ztF)],[]⟩
theorem zxn:zaj Tryz.prog FX zN6.cons:=zaa zGV (zab Tryz.func139 (by kernel_rfl)) rfl (zae)
theorem zAY (x:Tys zl8.head.ks):stepL zN6 zl8 zjI x=zbv x:=by kernel_rfl
theorem zu1:zad zjI=[]:=by kernel_rfl
theorem zM6:zay Tryz.prog FX (zaZ zl8 ztF) zjI:=zam mix zah zxn (by kernel_rfl) (zac zu1 (trivial)) zAY fun _ _ h=>h
theorem zD0:zad zqy=[zjI]:=by kernel_rfl
theorem zRB:zav Tryz.prog FX 150 zJe:=zai (E:=zN6) (code:=zqy) mix zah zxn Tryz.func150 (by kernel_rfl) zKH (by kernel_rfl) (fun y=>(y.2.1,y.1)) zJe.out (fun _=>rfl) zJe.run (fun x=>by kernel_rfl) (by kernel_rfl) (zac zD0 (⟨⟨_,by kernel_rfl,zM6⟩,trivial⟩))
def zKG:Sig:=⟨[(false,[.d (.sl .int)]),(false,[.d (.sl .int)])],[],false,[(false,[.own 0])],[(0,.arr false .int)]⟩
def zsI:Con:=⟨zKG,List Int,fun x=>zat x.1 x.2.1,fun r=>(r,())⟩
def zqx:Code:=Tryz.f118.body.getD .skip
def zg4:Code:=(zad zqx).getD 0 .skip
def zjH:Code:=(zad zg4).getD 0 .skip
def zl7:LoopD:=⟨⟨zaf [(1,false,[.d (.sl .int)]),(5,false,[.own 4672]),(26,false,[.d (.sl .int)]),(27,false,[.d (.int .i64)]),(28,false,[.d (.int .i64)])] 72 0,[(4672,.arr false .int)]⟩,[],[(.exit 0,⟨zaf [(5,false,[.own 4672])] 72 0,[(4672,.arr false .int)]⟩,[])]⟩
def zl6:LoopD:=⟨⟨zaf [(1,false,[.d (.sl .int)]),(5,false,[.own 4672]),(6,false,[.d (.int .i64)]),(7,false,[.d (.int .i64)]),(8,false,[.d (.int .i64)]),(26,false,[.d (.sl .int)]),(27,false,[.d (.int .i64)]),(28,false,[.d (.int .i64)]),(33,false,[.d (.sl .int)]),(34,false,[.d (.int .i64)]),(35,false,[.d (.int .i64)])] 72 0,[(4672,.arr false .int)]⟩,[],[(.exit 2,⟨zaf [(1,false,[.d (.sl .int)]),(5,false,[.own 4672]),(6,false,[.d (.int .i64)]),(8,false,[.d (.int .i64)]),(26,false,[.d (.sl .int)]),(27,false,[.d (.int .i64)]),(28,false,[.d (.int .i64)])] 72 0,[(4672,.arr false .int)]⟩,[])]⟩
def ztE (x:Tys zl7.head.ks):Option (zcA zl7.outs):=@whileO ((List Int) × (List Int) × Int × Int × (List Int) × Unit) ((List Int) × Unit) zcR x
def ztD (x:Tys zl6.head.ks):Option (zcA zl6.outs):=@whileO ((List Int) × Int × Int × Int × (List Int) × Int × Int × (List Int) × Int × Int × (List Int) × Unit) ((List Int) × Int × Int × (List Int) × Int × Int × (List Int) × Unit) zcQ x
def zJv:Env:=⟨zbN,[(139,zvD)],[(5,zaZ zl7 ztE),(9,zaZ zl6 ztD)],[]⟩
theorem zp5:zaj Tryz.prog FX zJv.cons:=zaa zGV (zab Tryz.func139 (by kernel_rfl)) rfl (zae)
theorem zAW (x:Tys zl6.head.ks):stepL zJv zl6 zjH x=zcQ x:=by kernel_rfl
theorem zuZ:zad zjH=[]:=by kernel_rfl
theorem zM4:zay Tryz.prog FX (zaZ zl6 ztD) zjH:=zam mix zah zp5 (by kernel_rfl) (zac zuZ (trivial)) zAW fun _ _ h=>h
theorem zAX (x:Tys zl7.head.ks):stepL zJv zl7 zg4 x=zcR x:=by kernel_rfl
theorem zu0:zad zg4=[zjH]:=by kernel_rfl
theorem zM5:zay Tryz.prog FX (zaZ zl7 ztE) zg4:=zam mix zah zp5 (by kernel_rfl) (zac zu0 (⟨⟨_,by kernel_rfl,zM4⟩,trivial⟩)) zAX fun _ _ h=>h
theorem zDZ:zad zqx=[zg4]:=by kernel_rfl
theorem zCO:zav Tryz.prog FX 118 zsI:=zai (E:=zJv) (code:=zqx) mix zah zp5 Tryz.func118 (by kernel_rfl) zKG (by kernel_rfl) (fun y=>y.1) zsI.out (fun _=>rfl) zsI.run (fun x=>by kernel_rfl) (by kernel_rfl) (zac zDZ (⟨⟨_,by kernel_rfl,zM5⟩,trivial⟩))
def zKF:Sig:=⟨[(false,[.d (.sl .int)]),(false,[.d (.sl .int)])],[],false,[(false,[.d (.int .i64)])],[]⟩
def zJd:Con:=⟨zKF,Int,fun x=>zeI x.1 x.2.1,fun r=>(r,())⟩
def zqw:Code:=Tryz.f151.body.getD .skip
def zjG:Code:=(zad zqw).getD 0 .skip
def zl5:LoopD:=⟨⟨zaf [(0,false,[.d (.sl .int)]),(1,false,[.d (.sl .int)]),(5,false,[.d (.int .i64)]),(6,false,[.d (.int .i64)])] 27 0,[]⟩,[],[(.exit 0,⟨zaf [(5,false,[.d (.int .i64)])] 27 0,[]⟩,[])]⟩
def ztC (x:Tys zl5.head.ks):Option (zcA zl5.outs):=@whileO ((List Int) × (List Int) × Int × Int × Unit) (Int × Unit) zcb x
def zN5:Env:=⟨zbN,[(133,zvE),(118,zsI),(149,zvF)],[(3,zaZ zl5 ztC)],[]⟩
theorem zxm:zaj Tryz.prog FX zN5.cons:=zaa zGW (zab Tryz.func133 (by kernel_rfl)) rfl (zaa zCO (zab Tryz.func118 (by kernel_rfl)) rfl (zaa zGX (zab Tryz.func149 (by kernel_rfl)) rfl (zae)))
theorem zAV (x:Tys zl5.head.ks):stepL zN5 zl5 zjG x=zcb x:=by kernel_rfl
theorem zuY:zad zjG=[]:=by kernel_rfl
theorem zM3:zay Tryz.prog FX (zaZ zl5 ztC) zjG:=zam mix zah zxm (by kernel_rfl) (zac zuY (trivial)) zAV fun _ _ h=>h
theorem zDY:zad zqw=[zjG]:=by kernel_rfl
theorem zRA:zav Tryz.prog FX 151 zJd:=zai (E:=zN5) (code:=zqw) mix zah zxm Tryz.func151 (by kernel_rfl) zKF (by kernel_rfl) (fun y=>y.1) zJd.out (fun _=>rfl) zJd.run (fun x=>by kernel_rfl) (by kernel_rfl) (zac zDY (⟨⟨_,by kernel_rfl,zM3⟩,trivial⟩))
def zKD:Sig:=⟨[(false,[.d (.sl .int)]),(false,[.d (.sl .int)])],[],false,[(false,[.own 0])],[(0,.arr false .int)]⟩
def zFM:Con:=⟨zKD,List Int,fun x=>zdV x.1 x.2.1,fun r=>(r,())⟩
def zqu:Code:=Tryz.f152.body.getD .skip
def zjE:Code:=(zad zqu).getD 0 .skip
def zl3:LoopD:=⟨⟨zaf [(0,false,[.d (.sl .int)]),(1,false,[.d (.sl .int)]),(5,false,[.own 2752]),(6,false,[.d (.int .i64)]),(11,false,[.d (.int .i64)]),(12,false,[.d (.int .i64)])] 42 0,[(2752,.arr false .int)]⟩,[(.slot 5 0,2752,.int)],[(.exit 0,⟨zaf [(5,false,[.own 2752])] 42 0,[(2752,.arr false .int)]⟩,[(.slot 5 0,2752,.int)])]⟩
def ztA (x:Tys zl3.head.ks):Option (zcA zl3.outs):=@whileO ((List Int) × (List Int) × Int × Int × Int × (List Int) × Unit) ((List Int) × Unit) zbI x
def zN3:Env:=⟨zbN,[(139,zvD)],[(4,zaZ zl3 ztA)],[]⟩
theorem zxk:zaj Tryz.prog FX zN3.cons:=zaa zGV (zab Tryz.func139 (by kernel_rfl)) rfl (zae)
theorem zAT (x:Tys zl3.head.ks):stepL zN3 zl3 zjE x=zbI x:=by kernel_rfl
theorem zuW:zad zjE=[]:=by kernel_rfl
theorem zM1:zay Tryz.prog FX (zaZ zl3 ztA) zjE:=zam mix zah zxk (by kernel_rfl) (zac zuW (trivial)) zAT fun _ _ h=>h
theorem zDW:zad zqu=[zjE]:=by kernel_rfl
theorem zOW:zav Tryz.prog FX 152 zFM:=zai (E:=zN3) (code:=zqu) mix zah zxk Tryz.func152 (by kernel_rfl) zKD (by kernel_rfl) (fun y=>y.1) zFM.out (fun _=>rfl) zFM.run (fun x=>by kernel_rfl) (by kernel_rfl) (zac zDW (⟨⟨_,by kernel_rfl,zM1⟩,trivial⟩))
def zKC:Sig:=⟨[(false,[.d (.sl .int)]),(false,[.d (.sl .int)])],[],true,[(false,[.own 0]),(false,[.own 1])],[(0,.arr false .int),(1,.arr false .int)]⟩
def zFL:Con:=⟨zKC,List Int × List Int,fun x=>zdi x.1 x.2.1,fun r=>(r.1,r.2,())⟩
def zqs:Code:=Tryz.f138.body.getD .skip
def zjD:Code:=(zad zqs).getD 0 .skip
def zl2:LoopD:=⟨⟨zaf [(0,false,[.d (.sl .int)]),(1,false,[.d (.sl .int)]),(8,false,[.own 4224]),(9,false,[.own 4288]),(10,false,[.d (.int .i64)])] 65 0,[(4224,.arr false .int),(4288,.arr false .int)]⟩,[(.slot 9 0,4288,.int)],[(.exit 0,⟨zaf [(8,false,[.own 4224]),(9,false,[.own 4288])] 65 0,[(4224,.arr false .int),(4288,.arr false .int)]⟩,[(.slot 9 0,4288,.int)])]⟩
def ztz (x:Tys zl2.head.ks):Option (zcA zl2.outs):=@whileO ((List Int) × (List Int) × Int × (List Int) × (List Int) × Unit) ((List Int) × (List Int) × Unit) zci x
def zN2:Env:=⟨zbN,[(150,zJe),(133,zvE),(139,zvD),(149,zvF),(151,zJd),(118,zsI),(152,zFM)],[(7,zaZ zl2 ztz)],[]⟩
theorem zxj:zaj Tryz.prog FX zN2.cons:=zaa zRB (zab Tryz.func150 (by kernel_rfl)) rfl (zaa zGW (zab Tryz.func133 (by kernel_rfl)) rfl (zaa zGV (zab Tryz.func139 (by kernel_rfl)) rfl (zaa zGX (zab Tryz.func149 (by kernel_rfl)) rfl (zaa zRA (zab Tryz.func151 (by kernel_rfl)) rfl (zaa zCO (zab Tryz.func118 (by kernel_rfl)) rfl (zaa zOW (zab Tryz.func152 (by kernel_rfl)) rfl (zae)))))))
theorem zAS (x:Tys zl2.head.ks):stepL zN2 zl2 zjD x=zci x:=by kernel_rfl
theorem zuV:zad zjD=[]:=by kernel_rfl
theorem zM0:zay Tryz.prog FX (zaZ zl2 ztz) zjD:=zam mix zah zxj (by kernel_rfl) (zac zuV (trivial)) zAS fun _ _ h=>h
theorem zDV:zad zqs=[zjD]:=by kernel_rfl
theorem zOV:zav Tryz.prog FX 138 zFL:=zai (E:=zN2) (code:=zqs) mix zah zxj Tryz.func138 (by kernel_rfl) zKC (by kernel_rfl) (fun y=>(y.1,y.2.1)) zFL.out (fun _=>rfl) zFL.run (fun x=>by kernel_rfl) (by kernel_rfl) (zac zDV (⟨⟨_,by kernel_rfl,zM0⟩,trivial⟩))
def zKB:Sig:=⟨[(false,[.d (.sl .int)]),(false,[.d (.sl .int)])],[],false,[(false,[.own 0])],[(0,.arr false .int)]⟩
def zFK:Con:=⟨zKB,List Int,fun x=>zeH x.1 x.2.1,fun r=>(r,())⟩
def zqr:Code:=Tryz.f116.body.getD .skip
def zjC:Code:=(zad zqr).getD 0 .skip
def zl1:LoopD:=⟨⟨zaf [(5,false,[.own 3392]),(6,false,[.own 3456])] 52 0,[(3392,.arr false .int),(3456,.arr false .int)]⟩,[],[(.ret,⟨zaf [(4,false,[.own 3520])] 52 0,[(3520,.arr false .int)]⟩,[]),(.exit 0,⟨zaf [(5,false,[.own 3392])] 52 0,[(3392,.arr false .int)]⟩,[])]⟩
def zty (x:Tys zl1.head.ks):Option (zcA zl1.outs):=@whileO ((List Int) × (List Int) × Unit) (((List Int) × Unit) ⊕ ((List Int) × Unit)) zbJ x
def zN1:Env:=⟨zbN,[(136,zJg),(137,zJf),(138,zFL)],[(3,zaZ zl1 zty)],[]⟩
theorem zxi:zaj Tryz.prog FX zN1.cons:=zaa zRD (zab Tryz.func136 (by kernel_rfl)) rfl (zaa zRC (zab Tryz.func137 (by kernel_rfl)) rfl (zaa zOV (zab Tryz.func138 (by kernel_rfl)) rfl (zae)))
theorem zAR (x:Tys zl1.head.ks):stepL zN1 zl1 zjC x=zbJ x:=by kernel_rfl
theorem zuU:zad zjC=[]:=by kernel_rfl
theorem zMZ:zay Tryz.prog FX (zaZ zl1 zty) zjC:=zam mix zah zxi (by kernel_rfl) (zac zuU (trivial)) zAR fun _ _ h=>h
theorem zDU:zad zqr=[zjC]:=by kernel_rfl
theorem zOU:zav Tryz.prog FX 116 zFK:=zai (E:=zN1) (code:=zqr) mix zah zxi Tryz.func116 (by kernel_rfl) zKB (by kernel_rfl) (fun y=>y.1) zFK.out (fun _=>rfl) zFK.run (fun x=>by kernel_rfl) (by kernel_rfl) (zac zDU (⟨⟨_,by kernel_rfl,zMZ⟩,trivial⟩))
def zKA:Sig:=⟨[(false,[.d (.sl .int)])],[],false,[(false,[.d (.bool)])],[]⟩
def zAb:Con:=⟨zKA,Bool,fun x=>zdh x.1,fun r=>(r,())⟩
def zx9:Code:=Tryz.f115.body.getD .skip
def zQr:Env:=⟨zbN,[],[],[]⟩
theorem zIr:zaj Tryz.prog FX zQr.cons:=zae
theorem zDT:zad zx9=[]:=by kernel_rfl
theorem zMf:zav Tryz.prog FX 115 zAb:=zai (E:=zQr) (code:=zx9) mix zah zIr Tryz.func115 (by kernel_rfl) zKA (by kernel_rfl) (fun y=>y.1) zAb.out (fun _=>rfl) zAb.run (fun x=>by kernel_rfl) (by kernel_rfl) (zac zDT (trivial))
def zKz:Sig:=⟨[(true,[.d (.bool),.d (.sl .int),.d (.sl .int)])],[],false,[(false,[.d (.bool)])],[]⟩
def zJc:Con:=⟨zKz,Bool,fun x=>zgw (⟨x.1,x.2.1,x.2.2.1⟩:Rt),fun r=>(r,())⟩
def zx8:Code:=Tryz.f71.body.getD .skip
def zQq:Env:=⟨zbN,[(113,zJh),(114,zAc),(116,zFK),(115,zAb)],[],[]⟩
theorem zIq:zaj Tryz.prog FX zQq.cons:=zaa zRE (zab Tryz.func113 (by kernel_rfl)) rfl (zaa zMg (zab Tryz.func114 (by kernel_rfl)) rfl (zaa zOU (zab Tryz.func116 (by kernel_rfl)) rfl (zaa zMf (zab Tryz.func115 (by kernel_rfl)) rfl (zae))))
theorem zDS:zad zx8=[]:=by kernel_rfl
theorem zRz:zav Tryz.prog FX 71 zJc:=zai (E:=zQq) (code:=zx8) mix zah zIq Tryz.func71 (by kernel_rfl) zKz (by kernel_rfl) (fun y=>y.1) zJc.out (fun _=>rfl) zJc.run (fun x=>by kernel_rfl) (by kernel_rfl) (zac zDS (trivial))
def zKx:Sig:=⟨[(true,[.d (.int .i64),.d (.int .i64),.d (.sl .rat)])],[],false,[(false,[.d (.bool)])],[]⟩
def zJb:Con:=⟨zKx,Bool,fun x=>zeJ (⟨x.1,x.2.1,x.2.2.1⟩:Mx),fun r=>(r,())⟩
def zqq:Code:=Tryz.f34.body.getD .skip
def zjB:Code:=(zad zqq).getD 0 .skip
def zl0:LoopD:=⟨⟨zaf [(27,false,[.d (.sl .rat)]),(28,false,[.d (.int .i64)]),(29,false,[.d (.int .i64)])] 37 0,[]⟩,[],[(.ret,⟨zaf [(2,false,[.d (.bool)])] 37 0,[]⟩,[]),(.exit 0,⟨zaf [] 37 0,[]⟩,[])]⟩
def ztx (x:Tys zl0.head.ks):Option (zcA zl0.outs):=@whileO ((List Rt) × Int × Int × Unit) ((Bool × Unit) ⊕ (Unit)) zbw x
def zN0:Env:=⟨zbN,[(70,zFP),(71,zJc)],[(4,zaZ zl0 ztx)],[]⟩
theorem zxh:zaj Tryz.prog FX zN0.cons:=zaa zPj (zab Tryz.func70 (by kernel_rfl)) rfl (zaa zRz (zab Tryz.func71 (by kernel_rfl)) rfl (zae))
theorem zAQ (x:Tys zl0.head.ks):stepL zN0 zl0 zjB x=zbw x:=by kernel_rfl
theorem zuT:zad zjB=[]:=by kernel_rfl
theorem zMY:zay Tryz.prog FX (zaZ zl0 ztx) zjB:=zam mix zah zxh (by kernel_rfl) (zac zuT (trivial)) zAQ fun _ _ h=>h
theorem zDR:zad zqq=[zjB]:=by kernel_rfl
theorem zRy:zav Tryz.prog FX 34 zJb:=zai (E:=zN0) (code:=zqq) mix zah zxh Tryz.func34 (by kernel_rfl) zKx (by kernel_rfl) (fun y=>y.1) zJb.out (fun _=>rfl) zJb.run (fun x=>by kernel_rfl) (by kernel_rfl) (zac zDR (⟨⟨_,by kernel_rfl,zMY⟩,trivial⟩))
def zKE:Sig:=⟨[(false,[.d (.sl .int)])],[],false,[(false,[.d (.sl .int)])],[]⟩
def zFN:Con:=⟨zKE,List Int,fun x=>zdr x.1,fun r=>(r,())⟩
def zqv:Code:=Tryz.f139.body.getD .skip
def zjF:Code:=(zad zqv).getD 0 .skip
def zl4:LoopD:=⟨⟨zaf [(0,false,[.d (.sl .int)]),(3,false,[.d (.int .i64)])] 21 0,[]⟩,[],[(.exit 0,⟨zaf [(0,false,[.d (.sl .int)]),(3,false,[.d (.int .i64)])] 21 0,[]⟩,[])]⟩
def ztB (x:Tys zl4.head.ks):Option (zcA zl4.outs):=@whileO ((List Int) × Int × Unit) ((List Int) × Int × Unit) zdl x
def zN4:Env:=⟨zbN,[],[(2,zaZ zl4 ztB)],[]⟩
theorem zxl:zaj Tryz.prog FX zN4.cons:=zae
theorem zAU (x:Tys zl4.head.ks):stepL zN4 zl4 zjF x=zdl x:=by kernel_rfl
theorem zuX:zad zjF=[]:=by kernel_rfl
theorem zM2:zay Tryz.prog FX (zaZ zl4 ztB) zjF:=zam mix zah zxl (by kernel_rfl) (zac zuX (trivial)) zAU fun _ _ h=>h
theorem zDX:zad zqv=[zjF]:=by kernel_rfl
theorem zOX:zav Tryz.prog FX 139 zFN:=zai (E:=zN4) (code:=zqv) mix zah zxl Tryz.func139 (by kernel_rfl) zKE (by kernel_rfl) (fun y=>y.1) zFN.out (fun _=>rfl) zFN.run (fun x=>by kernel_rfl) (by kernel_rfl) (zac zDX (⟨⟨_,by kernel_rfl,zM2⟩,trivial⟩))
def zKw:Sig:=⟨[(false,[.d (.sl .int)])],[],false,[(false,[.d (.sl .int)])],[]⟩
def zJa:Con:=⟨zKw,List Int,fun x=>zfM x.1,fun r=>(r,())⟩
def zx7:Code:=Tryz.f134.body.getD .skip
def zQp:Env:=⟨zbN,[(139,zFN)],[],[]⟩
theorem zIp:zaj Tryz.prog FX zQp.cons:=zaa zOX (zab Tryz.func139 (by kernel_rfl)) rfl (zae)
theorem zDQ:zad zx7=[]:=by kernel_rfl
theorem zRx:zav Tryz.prog FX 134 zJa:=zai (E:=zQp) (code:=zx7) mix zah zIp Tryz.func134 (by kernel_rfl) zKw (by kernel_rfl) (fun y=>y.1) zJa.out (fun _=>rfl) zJa.run (fun x=>by kernel_rfl) (by kernel_rfl) (zac zDQ (trivial))
def zKv:Sig:=⟨[(false,[.d (.bool)]),(false,[.d (.sl .int)])],[],false,[(true,[.d (.bool),.own 0])],[(0,.arr false .int)]⟩
def zsH:Con:=⟨zKv,Bg,fun x=>zaw x.1 x.2.1,fun r=>(r.neg,r.mag,())⟩
def zx6:Code:=Tryz.f110.body.getD .skip
def zQo:Env:=⟨zbN,[(134,zJa)],[],[]⟩
theorem zIo:zaj Tryz.prog FX zQo.cons:=zaa zRx (zab Tryz.func134 (by kernel_rfl)) rfl (zae)
theorem zDP:zad zx6=[]:=by kernel_rfl
theorem zCN:zav Tryz.prog FX 110 zsH:=zai (E:=zQo) (code:=zx6) mix zah zIo Tryz.func110 (by kernel_rfl) zKv (by kernel_rfl) (fun y=>(⟨y.1,y.2.1⟩:Bg)) zsH.out (fun _=>rfl) zsH.run (fun x=>by kernel_rfl) (by kernel_rfl) (zac zDP (trivial))
def zKu:Sig:=⟨[(false,[.d (.int .i64)])],[],false,[(true,[.d (.bool),.own 0])],[(0,.arr false .int)]⟩
def zI9:Con:=⟨zKu,Bg,fun x=>zeK x.1,fun r=>(r.neg,r.mag,())⟩
def zx5:Code:=Tryz.f109.body.getD .skip
def zQn:Env:=⟨zbN,[(110,zsH),(133,zvE)],[],[]⟩
theorem zIn:zaj Tryz.prog FX zQn.cons:=zaa zCN (zab Tryz.func110 (by kernel_rfl)) rfl (zaa zGW (zab Tryz.func133 (by kernel_rfl)) rfl (zae))
theorem zDO:zad zx5=[]:=by kernel_rfl
theorem zRw:zav Tryz.prog FX 109 zI9:=zai (E:=zQn) (code:=zx5) mix zah zIn Tryz.func109 (by kernel_rfl) zKu (by kernel_rfl) (fun y=>(⟨y.1,y.2.1⟩:Bg)) zI9.out (fun _=>rfl) zI9.run (fun x=>by kernel_rfl) (by kernel_rfl) (zac zDO (trivial))
def zKt:Sig:=⟨[(false,[.d (.int .i64)])],[],false,[(true,[.d (.bool),.own 0,.own 1])],[(0,.arr false .int),(1,.arr false .int)]⟩
def zAa:Con:=⟨zKt,Rt,fun x=>zbj x.1,fun r=>(r.neg,r.mag,r.den,())⟩
def zx4:Code:=Tryz.f63.body.getD .skip
def zQm:Env:=⟨zbN,[(109,zI9)],[],[]⟩
theorem zIm:zaj Tryz.prog FX zQm.cons:=zaa zRw (zab Tryz.func109 (by kernel_rfl)) rfl (zae)
theorem zDN:zad zx4=[]:=by kernel_rfl
theorem zMe:zav Tryz.prog FX 63 zAa:=zai (E:=zQm) (code:=zx4) mix zah zIm Tryz.func63 (by kernel_rfl) zKt (by kernel_rfl) (fun y=>(⟨y.1,y.2.1,y.2.2.1⟩:Rt)) zAa.out (fun _=>rfl) zAa.run (fun x=>by kernel_rfl) (by kernel_rfl) (zac zDN (trivial))
def zKs:Sig:=⟨[],[],false,[(true,[.d (.bool),.own 0,.own 1])],[(0,.arr false .int),(1,.arr false .int)]⟩
def zI8:Con:=⟨zKs,Rt,fun _=>zfi,fun r=>(r.neg,r.mag,r.den,())⟩
def zx3:Code:=Tryz.f108.body.getD .skip
def zQl:Env:=⟨zbN,[(63,zAa)],[],[]⟩
theorem zIl:zaj Tryz.prog FX zQl.cons:=zaa zMe (zab Tryz.func63 (by kernel_rfl)) rfl (zae)
theorem zDM:zad zx3=[]:=by kernel_rfl
theorem zRv:zav Tryz.prog FX 108 zI8:=zai (E:=zQl) (code:=zx3) mix zah zIl Tryz.func108 (by kernel_rfl) zKs (by kernel_rfl) (fun y=>(⟨y.1,y.2.1,y.2.2.1⟩:Rt)) zI8.out (fun _=>rfl) zI8.run (fun x=>by kernel_rfl) (by kernel_rfl) (zac zDM (trivial))
def zKb:Sig:=⟨[(false,[.d (.int .i64)])],[],false,[(false,[.own 0])],[(0,.arr false .rat)]⟩
def zIW:Con:=⟨zKb,List Rt,fun x=>zdH x.1,fun r=>(r,())⟩
def zql:Code:=Tryz.f62.body.getD .skip
def zju:Code:=(zad zql).getD 0 .skip
def zlR:LoopD:=⟨⟨zaf [(0,false,[.d (.int .i64)]),(3,false,[.own 960])] 14 0,[(960,.arr false .rat)]⟩,[(.slot 3 0,960,.rat)],[(.exit 0,⟨zaf [(3,false,[.own 960])] 14 0,[(960,.arr false .rat)]⟩,[(.slot 3 0,960,.rat)])]⟩
def zto (x:Tys zlR.head.ks):Option (zcA zlR.outs):=@whileO (Int × (List Rt) × Unit) ((List Rt) × Unit) zb9 x
def zNX:Env:=⟨lay,[(108,zI8)],[(2,zaZ zlR zto)],[]⟩
theorem zxe:zaj Tryz.prog FX zNX.cons:=zaa zRv (zab Tryz.func108 (by kernel_rfl)) rfl (zae)
theorem zAH (x:Tys zlR.head.ks):stepL zNX zlR zju x=zb9 x:=by kernel_rfl
theorem zuK:zad zju=[]:=by kernel_rfl
theorem zMP:zay Tryz.prog FX (zaZ zlR zto) zju:=zam mix zcP zxe (by kernel_rfl) (zac zuK (trivial)) zAH fun _ _ h=>h
theorem zDv:zad zql=[zju]:=by kernel_rfl
theorem zRj:zav Tryz.prog FX 62 zIW:=zai (E:=zNX) (code:=zql) mix zcP zxe Tryz.func62 (by kernel_rfl) zKb (by kernel_rfl) (fun y=>y.1) zIW.out (fun _=>rfl) zIW.run (fun x=>by kernel_rfl) (by kernel_rfl) (zac zDv (⟨⟨_,by kernel_rfl,zMP⟩,trivial⟩))
def zKa:Sig:=⟨[(false,[.d (.int .i64)]),(false,[.d (.int .i64)])],[],false,[(true,[.d (.int .i64),.d (.int .i64),.own 0])],[(0,.arr false .rat)]⟩
def zIV:Con:=⟨zKa,Mx,fun x=>zfh x.1 x.2.1,fun r=>(r.rows,r.cols,r.cells,())⟩
def zxQ:Code:=Tryz.f124.body.getD .skip
def zP8:Env:=⟨lay,[(62,zIW)],[],[]⟩
theorem zH8:zaj Tryz.prog FX zP8.cons:=zaa zRj (zab Tryz.func62 (by kernel_rfl)) rfl (zae)
theorem zDu:zad zxQ=[]:=by kernel_rfl
theorem zRi:zav Tryz.prog FX 124 zIV:=zai (E:=zP8) (code:=zxQ) mix zcP zH8 Tryz.func124 (by kernel_rfl) zKa (by kernel_rfl) (fun y=>(⟨y.1,y.2.1,y.2.2.1⟩:Mx)) zIV.out (fun _=>rfl) zIV.run (fun x=>by kernel_rfl) (by kernel_rfl) (zac zDu (trivial))
def zJ9:Sig:=⟨[(false,[.d (.int .i64)])],[],false,[(true,[.d (.int .i64),.d (.int .i64),.own 0])],[(0,.arr false .rat)]⟩
def zIU:Con:=⟨zJ9,Mx,fun x=>zcN x.1,fun r=>(r.rows,r.cols,r.cells,())⟩
def zqk:Code:=Tryz.f85.body.getD .skip
def zjt:Code:=(zad zqk).getD 0 .skip
def zlQ:LoopD:=⟨⟨zaf [(0,false,[.d (.int .i64)]),(2,false,[.lp 128 0]),(3,false,[.lp 192 0]),(4,false,[.d (.int .i64)])] 23 0,[(128,.box [.d (.int .i64),.d (.int .i64),.d (.sl .rat)]),(192,.box [.d (.int .i64),.d (.int .i64),.own 1536]),(1536,.arr false .rat)]⟩,[],[(.exit 0,⟨zaf [(2,false,[.lp 128 0]),(3,false,[.lp 192 0])] 23 0,[(128,.box [.d (.int .i64),.d (.int .i64),.d (.sl .rat)]),(192,.box [.d (.int .i64),.d (.int .i64),.own 1536]),(1536,.arr false .rat)]⟩,[])]⟩
def ztn (x:Tys zlQ.head.ks):Option (zcA zlQ.outs):=@whileO (Int × Int × Int × Int × (List Rt) × Int × Int × (List Rt) × Unit) (Int × Int × (List Rt) × Int × Int × (List Rt) × Unit) za9 x
def zNW:Env:=⟨lay,[(124,zIV),(63,zAa)],[(3,zaZ zlQ ztn)],[(5,[(0,[]),(1,[]),(2,[]),(3,[]),(4,[]),(5,[]),(6,[]),(7,[]),(8,[]),(9,[8,7,0,1,2,3,4,5,6])])]⟩
theorem zxd:zaj Tryz.prog FX zNW.cons:=zaa zRi (zab Tryz.func124 (by kernel_rfl)) rfl (zaa zMe (zab Tryz.func63 (by kernel_rfl)) rfl (zae))
theorem zAG (x:Tys zlQ.head.ks):stepL zNW zlQ zjt x=za9 x:=by kernel_rfl
theorem zuJ:zad zjt=[]:=by kernel_rfl
theorem zMO:zay Tryz.prog FX (zaZ zlQ ztn) zjt:=zam mix zcP zxd (by kernel_rfl) (zac zuJ (trivial)) zAG fun _ _ h=>h
theorem zDt:zad zqk=[zjt]:=by kernel_rfl
theorem zRh:zav Tryz.prog FX 85 zIU:=zai (E:=zNW) (code:=zqk) mix zcP zxd Tryz.func85 (by kernel_rfl) zJ9 (by kernel_rfl) (fun y=>(⟨y.1,y.2.1,y.2.2.1⟩:Mx)) zIU.out (fun _=>rfl) zIU.run (fun x=>by kernel_rfl) (by kernel_rfl) (zac zDt (⟨⟨_,by kernel_rfl,zMO⟩,trivial⟩))
def zKr:Sig:=⟨[(true,[.d (.int .i64),.d (.int .i64),.d (.sl .rat)]),(false,[.d (.int .i64)])],[],false,[(false,[.d (.sl .rat)])],[]⟩
def zFJ:Con:=⟨zKr,List Rt,fun x=>zdf (⟨x.1,x.2.1,x.2.2.1⟩:Mx) x.2.2.2.1,fun r=>(r,())⟩
def zx2:Code:=Tryz.f105.body.getD .skip
def zQk:Env:=⟨zbN,[],[],[]⟩
theorem zIk:zaj Tryz.prog FX zQk.cons:=zae
theorem zDL:zad zx2=[]:=by kernel_rfl
theorem zOT:zav Tryz.prog FX 105 zFJ:=zai (E:=zQk) (code:=zx2) mix zah zIk Tryz.func105 (by kernel_rfl) zKr (by kernel_rfl) (fun y=>y.1) zFJ.out (fun _=>rfl) zFJ.run (fun x=>by kernel_rfl) (by kernel_rfl) (zac zDL (trivial))
def zKq:Sig:=⟨[(true,[.d (.bool),.d (.sl .int),.d (.sl .int)])],[],false,[(true,[.d (.bool),.own 0,.own 1])],[(0,.arr false .int),(1,.arr false .int)]⟩
def zI7:Con:=⟨zKq,Rt,fun x=>zfj (⟨x.1,x.2.1,x.2.2.1⟩:Rt),fun r=>(r.neg,r.mag,r.den,())⟩
def zx1:Code:=Tryz.f88.body.getD .skip
def zQj:Env:=⟨zbN,[],[],[(1,[(0,[]),(1,[]),(2,[]),(3,[]),(4,[]),(5,[]),(6,[]),(9,[]),(10,[]),(11,[]),(7,[3,6,5,4]),(8,[]),(12,[9,11,7,10,3,6,5,4]),(13,[]),(14,[13,12,0,1,2,3,4,5,6,7,8,9,10,11])])]⟩
theorem zIj:zaj Tryz.prog FX zQj.cons:=zae
theorem zDK:zad zx1=[]:=by kernel_rfl
theorem zRu:zav Tryz.prog FX 88 zI7:=zai (E:=zQj) (code:=zx1) mix zah zIj Tryz.func88 (by kernel_rfl) zKq (by kernel_rfl) (fun y=>(⟨y.1,y.2.1,y.2.2.1⟩:Rt)) zI7.out (fun _=>rfl) zI7.run (fun x=>by kernel_rfl) (by kernel_rfl) (zac zDK (trivial))
def zJ8:Sig:=⟨[(false,[.d (.sl .rat)])],[],false,[(false,[.own 0])],[(0,.arr false .rat)]⟩
def zIT:Con:=⟨zJ8,List Rt,fun x=>zdq x.1,fun r=>(r,())⟩
def zqj:Code:=Tryz.f72.body.getD .skip
def zjs:Code:=(zad zqj).getD 0 .skip
def zlP:LoopD:=⟨⟨zaf [(3,false,[.own 1344]),(7,false,[.d (.sl .rat)]),(8,false,[.d (.int .i64)]),(9,false,[.d (.int .i64)])] 20 0,[(1344,.arr false .rat)]⟩,[(.slot 3 0,1344,.rat)],[(.exit 0,⟨zaf [(3,false,[.own 1344])] 20 0,[(1344,.arr false .rat)]⟩,[(.slot 3 0,1344,.rat)])]⟩
def ztm (x:Tys zlP.head.ks):Option (zcA zlP.outs):=@whileO ((List Rt) × Int × Int × (List Rt) × Unit) ((List Rt) × Unit) zcw x
def zNV:Env:=⟨lay,[(88,zI7)],[(3,zaZ zlP ztm)],[]⟩
theorem zxc:zaj Tryz.prog FX zNV.cons:=zaa zRu (zab Tryz.func88 (by kernel_rfl)) rfl (zae)
theorem zAF (x:Tys zlP.head.ks):stepL zNV zlP zjs x=zcw x:=by kernel_rfl
theorem zuI:zad zjs=[]:=by kernel_rfl
theorem zMN:zay Tryz.prog FX (zaZ zlP ztm) zjs:=zam mix zcP zxc (by kernel_rfl) (zac zuI (trivial)) zAF fun _ _ h=>h
theorem zDs:zad zqj=[zjs]:=by kernel_rfl
theorem zRg:zav Tryz.prog FX 72 zIT:=zai (E:=zNV) (code:=zqj) mix zcP zxc Tryz.func72 (by kernel_rfl) zJ8 (by kernel_rfl) (fun y=>y.1) zIT.out (fun _=>rfl) zIT.run (fun x=>by kernel_rfl) (by kernel_rfl) (zac zDs (⟨⟨_,by kernel_rfl,zMN⟩,trivial⟩))
def zJ7:Sig:=⟨[(true,[.d (.int .i64),.d (.int .i64),.d (.sl .rat)]),(true,[.d (.int .i64),.d (.int .i64),.d (.sl .rat)])],[],false,[(true,[.d (.int .i64),.d (.int .i64),.own 0])],[(0,.arr false .rat)]⟩
def zIS:Con:=⟨zJ7,Mx,fun x=>zec (⟨x.1,x.2.1,x.2.2.1⟩:Mx) (⟨x.2.2.2.1,x.2.2.2.2.1,x.2.2.2.2.2.1⟩:Mx),fun r=>(r.rows,r.cols,r.cells,())⟩
def zqi:Code:=Tryz.f101.body.getD .skip
def zjr:Code:=(zad zqi).getD 0 .skip
def zlO:LoopD:=⟨⟨zaf [(2,false,[.lp 128 0]),(3,false,[.lp 192 0]),(4,false,[.lp 256 0]),(5,false,[.lp 320 0]),(6,false,[.d (.int .i64)])] 38 0,[(128,.box [.d (.int .i64),.d (.int .i64),.d (.sl .rat)]),(192,.box [.d (.int .i64),.d (.int .i64),.d (.sl .rat)]),(256,.box [.d (.int .i64),.d (.int .i64),.d (.sl .rat)]),(320,.box [.d (.int .i64),.d (.int .i64),.own 2496]),(2496,.arr false .rat)]⟩,[(.box 320 2,2496,.rat)],[(.exit 0,⟨zaf [(4,false,[.lp 256 0]),(5,false,[.lp 320 0])] 38 0,[(256,.box [.d (.int .i64),.d (.int .i64),.d (.sl .rat)]),(320,.box [.d (.int .i64),.d (.int .i64),.own 2496]),(2496,.arr false .rat)]⟩,[(.box 320 2,2496,.rat)])]⟩
def ztl (x:Tys zlO.head.ks):Option (zcA zlO.outs):=@whileO (Int × Int × Int × (List Rt) × Int × Int × (List Rt) × Int × Int × (List Rt) × Int × Int × (List Rt) × Unit) (Int × Int × (List Rt) × Int × Int × (List Rt) × Unit) zbQ x
def zNU:Env:=⟨lay,[(105,zFJ),(72,zIT)],[(3,zaZ zlO ztl)],[(5,[(0,[]),(1,[]),(2,[]),(3,[]),(4,[2,3]),(5,[4,2,3]),(6,[1,5,0,4,2,3]),(7,[]),(8,[7,6,0,1,2,3,4,5])]),(6,[(0,[]),(1,[]),(2,[]),(3,[]),(4,[2,3]),(5,[4,2,3]),(6,[1,5,0,4,2,3]),(7,[]),(8,[7,6,0,1,2,3,4,5])])]⟩
theorem zxb:zaj Tryz.prog FX zNU.cons:=zaa zOT (zab Tryz.func105 (by kernel_rfl)) rfl (zaa zRg (zab Tryz.func72 (by kernel_rfl)) rfl (zae))
theorem zAE (x:Tys zlO.head.ks):stepL zNU zlO zjr x=zbQ x:=by kernel_rfl
theorem zuH:zad zjr=[]:=by kernel_rfl
theorem zMM:zay Tryz.prog FX (zaZ zlO ztl) zjr:=zam mix zcP zxb (by kernel_rfl) (zac zuH (trivial)) zAE fun _ _ h=>h
theorem zDr:zad zqi=[zjr]:=by kernel_rfl
theorem zRf:zav Tryz.prog FX 101 zIS:=zai (E:=zNU) (code:=zqi) mix zcP zxb Tryz.func101 (by kernel_rfl) zJ7 (by kernel_rfl) (fun y=>(⟨y.1,y.2.1,y.2.2.1⟩:Mx)) zIS.out (fun _=>rfl) zIS.run (fun x=>by kernel_rfl) (by kernel_rfl) (zac zDr (⟨⟨_,by kernel_rfl,zMM⟩,trivial⟩))
def zKm:Sig:=⟨[(true,[.d (.int .i64),.d (.int .i64),.own 191]),(false,[.d (.int .i64)]),(false,[.d (.int .i64)])],[(191,.arr false .rat)],false,[(true,[.d (.bool),.d (.sl .int),.d (.sl .int)])],[(191,.arr false .rat)]⟩
def zFH:Con:=⟨zKm,Rt × List Rt,fun x=>zaW (⟨x.1,x.2.1,x.2.2.2.2.1⟩:Mx) x.2.2.1 x.2.2.2.1,fun r=>(r.1.neg,r.1.mag,r.1.den,r.2,())⟩
def zxX:Code:=Tryz.f65.body.getD .skip
def zQf:Env:=⟨zbN,[],[],[]⟩
theorem zIf:zaj Tryz.prog FX zQf.cons:=zae
theorem zDG:zad zxX=[]:=by kernel_rfl
theorem zOR:zav Tryz.prog FX 65 zFH:=zai (E:=zQf) (code:=zxX) mix zah zIf Tryz.func65 (by kernel_rfl) zKm (by kernel_rfl) (fun y=>((⟨y.1,y.2.1,y.2.2.1⟩:Rt),y.2.2.2.1)) zFH.out (fun _=>rfl) zFH.run (fun x=>by kernel_rfl) (by kernel_rfl) (zac zDG (trivial))
def zKp:Sig:=⟨[(true,[.d (.bool),.d (.sl .int),.d (.sl .int)])],[],false,[(false,[.d (.bool)])],[]⟩
def zFI:Con:=⟨zKp,Bool,fun x=>zdg (⟨x.1,x.2.1,x.2.2.1⟩:Rt),fun r=>(r,())⟩
def zx0:Code:=Tryz.f73.body.getD .skip
def zQi:Env:=⟨zbN,[],[],[]⟩
theorem zIi:zaj Tryz.prog FX zQi.cons:=zae
theorem zDJ:zad zx0=[]:=by kernel_rfl
theorem zOS:zav Tryz.prog FX 73 zFI:=zai (E:=zQi) (code:=zx0) mix zah zIi Tryz.func73 (by kernel_rfl) zKp (by kernel_rfl) (fun y=>y.1) zFI.out (fun _=>rfl) zFI.run (fun x=>by kernel_rfl) (by kernel_rfl) (zac zDJ (trivial))
def zKo:Sig:=⟨[(false,[.d (.bool)]),(false,[.d (.sl .int)]),(false,[.d (.sl .int)])],[],false,[(true,[.d (.bool),.own 0,.own 1])],[(0,.arr false .int),(1,.arr false .int)]⟩
def zz9:Con:=⟨zKo,Rt,fun x=>zaU x.1 x.2.1 x.2.2.1,fun r=>(r.neg,r.mag,r.den,())⟩
def zxZ:Code:=Tryz.f117.body.getD .skip
def zQh:Env:=⟨zbN,[(139,zFN),(115,zAb),(116,zFK),(138,zFL),(110,zsH)],[],[]⟩
theorem zIh:zaj Tryz.prog FX zQh.cons:=zaa zOX (zab Tryz.func139 (by kernel_rfl)) rfl (zaa zMf (zab Tryz.func115 (by kernel_rfl)) rfl (zaa zOU (zab Tryz.func116 (by kernel_rfl)) rfl (zaa zOV (zab Tryz.func138 (by kernel_rfl)) rfl (zaa zCN (zab Tryz.func110 (by kernel_rfl)) rfl (zae)))))
theorem zDI:zad zxZ=[]:=by kernel_rfl
theorem zMd:zav Tryz.prog FX 117 zz9:=zai (E:=zQh) (code:=zxZ) mix zah zIh Tryz.func117 (by kernel_rfl) zKo (by kernel_rfl) (fun y=>(⟨y.1,y.2.1,y.2.2.1⟩:Rt)) zz9.out (fun _=>rfl) zz9.run (fun x=>by kernel_rfl) (by kernel_rfl) (zac zDI (trivial))
def zKn:Sig:=⟨[(true,[.d (.bool),.d (.sl .int),.d (.sl .int)]),(true,[.d (.bool),.d (.sl .int),.d (.sl .int)])],[],false,[(true,[.d (.bool),.own 0,.own 1])],[(0,.arr false .int),(1,.arr false .int)]⟩
def zI6:Con:=⟨zKn,Rt,fun x=>zeD (⟨x.1,x.2.1,x.2.2.1⟩:Rt) (⟨x.2.2.2.1,x.2.2.2.2.1,x.2.2.2.2.2.1⟩:Rt),fun r=>(r.neg,r.mag,r.den,())⟩
def zxY:Code:=Tryz.f74.body.getD .skip
def zQg:Env:=⟨zbN,[(118,zsI),(117,zz9)],[],[(1,[(0,[]),(1,[]),(2,[]),(3,[]),(4,[]),(5,[]),(6,[]),(7,[]),(8,[]),(9,[]),(10,[]),(11,[]),(13,[]),(14,[]),(15,[]),(16,[]),(17,[]),(12,[9,11,8,10,7]),(18,[14,17,12,13,16,9,11,15,8,10,7]),(19,[6,12,18,2,5,9,11,14,17,1,4,8,10,13,16,0,3,7,15]),(20,[19,0,1,2,3,4,5,6,7,8,9,10,11,12,13,14,15,16,17,18])])]⟩
theorem zIg:zaj Tryz.prog FX zQg.cons:=zaa zCO (zab Tryz.func118 (by kernel_rfl)) rfl (zaa zMd (zab Tryz.func117 (by kernel_rfl)) rfl (zae))
theorem zDH:zad zxY=[]:=by kernel_rfl
theorem zRt:zav Tryz.prog FX 74 zI6:=zai (E:=zQg) (code:=zxY) mix zah zIg Tryz.func74 (by kernel_rfl) zKn (by kernel_rfl) (fun y=>(⟨y.1,y.2.1,y.2.2.1⟩:Rt)) zI6.out (fun _=>rfl) zI6.run (fun x=>by kernel_rfl) (by kernel_rfl) (zac zDH (trivial))
def zKl:Sig:=⟨[(true,[.d (.bool),.d (.sl .int),.d (.sl .int)]),(true,[.d (.bool),.d (.sl .int),.d (.sl .int)])],[],false,[(true,[.d (.bool),.own 0,.own 1])],[(0,.arr false .int),(1,.arr false .int)]⟩
def zI5:Con:=⟨zKl,Rt,fun x=>zeE (⟨x.1,x.2.1,x.2.2.1⟩:Rt) (⟨x.2.2.2.1,x.2.2.2.2.1,x.2.2.2.2.2.1⟩:Rt),fun r=>(r.neg,r.mag,r.den,())⟩
def zxW:Code:=Tryz.f87.body.getD .skip
def zQe:Env:=⟨zbN,[(118,zsI),(117,zz9)],[],[(1,[(0,[]),(1,[]),(2,[]),(3,[]),(4,[]),(5,[]),(6,[]),(7,[]),(8,[]),(9,[]),(10,[]),(11,[]),(12,[]),(14,[]),(15,[]),(16,[]),(17,[]),(13,[9,12,8,11,7,10]),(18,[15,17,13,14,16,9,12,8,11,7,10]),(19,[6,13,18,2,5,9,12,15,17,1,4,8,11,14,16,0,3,7,10]),(20,[19,0,1,2,3,4,5,6,7,8,9,10,11,12,13,14,15,16,17,18])])]⟩
theorem zIe:zaj Tryz.prog FX zQe.cons:=zaa zCO (zab Tryz.func118 (by kernel_rfl)) rfl (zaa zMd (zab Tryz.func117 (by kernel_rfl)) rfl (zae))
theorem zDF:zad zxW=[]:=by kernel_rfl
theorem zRs:zav Tryz.prog FX 87 zI5:=zai (E:=zQe) (code:=zxW) mix zah zIe Tryz.func87 (by kernel_rfl) zKl (by kernel_rfl) (fun y=>(⟨y.1,y.2.1,y.2.2.1⟩:Rt)) zI5.out (fun _=>rfl) zI5.run (fun x=>by kernel_rfl) (by kernel_rfl) (zac zDF (trivial))
def zKk:Sig:=⟨[(true,[.d (.bool),.d (.sl .int),.d (.sl .int)])],[],false,[(true,[.d (.bool),.own 0,.own 1])],[(0,.arr false .int),(1,.arr false .int)]⟩
def zI4:Con:=⟨zKk,Rt,fun x=>zfL (⟨x.1,x.2.1,x.2.2.1⟩:Rt),fun r=>(r.neg,r.mag,r.den,())⟩
def zxV:Code:=Tryz.f64.body.getD .skip
def zQd:Env:=⟨zbN,[(110,zsH)],[],[(1,[(0,[]),(1,[]),(2,[]),(3,[]),(4,[]),(5,[]),(6,[]),(8,[]),(9,[]),(10,[]),(7,[3,6,2,5,1,4,0]),(11,[8,10,7,9,3,6,2,5,1,4,0]),(12,[]),(13,[12,11,0,1,2,3,4,5,6,7,8,9,10])])]⟩
theorem zId:zaj Tryz.prog FX zQd.cons:=zaa zCN (zab Tryz.func110 (by kernel_rfl)) rfl (zae)
theorem zDE:zad zxV=[]:=by kernel_rfl
theorem zRr:zav Tryz.prog FX 64 zI4:=zai (E:=zQd) (code:=zxV) mix zah zId Tryz.func64 (by kernel_rfl) zKk (by kernel_rfl) (fun y=>(⟨y.1,y.2.1,y.2.2.1⟩:Rt)) zI4.out (fun _=>rfl) zI4.run (fun x=>by kernel_rfl) (by kernel_rfl) (zac zDE (trivial))
def zKj:Sig:=⟨[(false,[.d (.sl .int)]),(false,[.d (.sl .int)])],[],false,[(false,[.own 0])],[(0,.arr false .int)]⟩
def zI3:Con:=⟨zKj,List Int,fun x=>zfN x.1 x.2.1,fun r=>(r,())⟩
def zqp:Code:=Tryz.f154.body.getD .skip
def zjA:Code:=(zad zqp).getD 0 .skip
def zlZ:LoopD:=⟨⟨zaf [(0,false,[.d (.sl .int)]),(1,false,[.d (.sl .int)]),(5,false,[.own 3584]),(6,false,[.d (.int .i64)]),(7,false,[.d (.int .i64)])] 55 0,[(3584,.arr false .int)]⟩,[(.slot 5 0,3584,.int)],[(.exit 0,⟨zaf [(5,false,[.own 3584])] 55 0,[(3584,.arr false .int)]⟩,[(.slot 5 0,3584,.int)])]⟩
def ztw (x:Tys zlZ.head.ks):Option (zcA zlZ.outs):=@whileO ((List Int) × (List Int) × Int × Int × (List Int) × Unit) ((List Int) × Unit) za3 x
def zNZ:Env:=⟨zbN,[],[(4,zaZ zlZ ztw)],[]⟩
theorem zxg:zaj Tryz.prog FX zNZ.cons:=zae
theorem zAP (x:Tys zlZ.head.ks):stepL zNZ zlZ zjA x=za3 x:=by kernel_rfl
theorem zuS:zad zjA=[]:=by kernel_rfl
theorem zMX:zay Tryz.prog FX (zaZ zlZ ztw) zjA:=zam mix zah zxg (by kernel_rfl) (zac zuS (trivial)) zAP fun _ _ h=>h
theorem zDD:zad zqp=[zjA]:=by kernel_rfl
theorem zRq:zav Tryz.prog FX 154 zI3:=zai (E:=zNZ) (code:=zqp) mix zah zxg Tryz.func154 (by kernel_rfl) zKj (by kernel_rfl) (fun y=>y.1) zI3.out (fun _=>rfl) zI3.run (fun x=>by kernel_rfl) (by kernel_rfl) (zac zDD (⟨⟨_,by kernel_rfl,zMX⟩,trivial⟩))
def zKi:Sig:=⟨[(true,[.d (.bool),.d (.sl .int)]),(true,[.d (.bool),.d (.sl .int)])],[],false,[(true,[.d (.bool),.own 0])],[(0,.arr false .int)]⟩
def zI2:Con:=⟨zKi,Bg,fun x=>zcB (⟨x.1,x.2.1⟩:Bg) (⟨x.2.2.1,x.2.2.2.1⟩:Bg),fun r=>(r.neg,r.mag,())⟩
def zxU:Code:=Tryz.f141.body.getD .skip
def zQc:Env:=⟨zbN,[(154,zI3),(110,zsH),(149,zvF),(152,zFM)],[],[(2,[(0,[]),(1,[]),(2,[]),(3,[]),(4,[]),(5,[]),(6,[3,5,2,4]),(7,[1,6,0,3,5,2,4]),(8,[7,0,1,2,3,4,5,6])]),(4,[(0,[]),(1,[]),(2,[]),(3,[]),(4,[]),(5,[]),(6,[3,5,2,4]),(7,[1,6,0,3,5,2,4]),(8,[7,0,1,2,3,4,5,6])]),(5,[(0,[]),(1,[]),(2,[]),(3,[]),(4,[]),(5,[]),(6,[3,5,2,4]),(7,[1,6,0,3,5,2,4]),(8,[7,0,1,2,3,4,5,6])])]⟩
theorem zIc:zaj Tryz.prog FX zQc.cons:=zaa zRq (zab Tryz.func154 (by kernel_rfl)) rfl (zaa zCN (zab Tryz.func110 (by kernel_rfl)) rfl (zaa zGX (zab Tryz.func149 (by kernel_rfl)) rfl (zaa zOW (zab Tryz.func152 (by kernel_rfl)) rfl (zae))))
theorem zDC:zad zxU=[]:=by kernel_rfl
theorem zRp:zav Tryz.prog FX 141 zI2:=zai (E:=zQc) (code:=zxU) mix zah zIc Tryz.func141 (by kernel_rfl) zKi (by kernel_rfl) (fun y=>(⟨y.1,y.2.1⟩:Bg)) zI2.out (fun _=>rfl) zI2.run (fun x=>by kernel_rfl) (by kernel_rfl) (zac zDC (trivial))
def zKh:Sig:=⟨[(true,[.d (.bool),.d (.sl .int),.d (.sl .int)]),(true,[.d (.bool),.d (.sl .int),.d (.sl .int)])],[],false,[(true,[.d (.bool),.own 0,.own 1])],[(0,.arr false .int),(1,.arr false .int)]⟩
def zI1:Con:=⟨zKh,Rt,fun x=>zdU (⟨x.1,x.2.1,x.2.2.1⟩:Rt) (⟨x.2.2.2.1,x.2.2.2.2.1,x.2.2.2.2.2.1⟩:Rt),fun r=>(r.neg,r.mag,r.den,())⟩
def zxT:Code:=Tryz.f125.body.getD .skip
def zQb:Env:=⟨zbN,[(115,zAb),(141,zI2),(117,zz9),(118,zsI),(110,zsH)],[],[(4,[(0,[]),(1,[]),(2,[]),(3,[]),(4,[]),(5,[]),(6,[]),(7,[]),(8,[5,7,4,6,3]),(9,[2,8,1,5,7,0,4,6,3]),(10,[]),(11,[10,9,0,1,2,3,4,5,6,7,8])]),(5,[(0,[]),(1,[]),(2,[]),(3,[]),(4,[]),(5,[]),(6,[]),(7,[]),(8,[5,7,4,6,3]),(9,[2,8,1,5,7,0,4,6,3]),(10,[]),(11,[10,9,0,1,2,3,4,5,6,7,8])]),(7,[(0,[]),(1,[]),(2,[]),(3,[]),(4,[]),(5,[]),(6,[]),(7,[]),(8,[5,7,4,6]),(9,[1,3,8,0,2,5,7,4,6]),(10,[9,0,1,2,3,4,5,6,7,8])])]⟩
theorem zIb:zaj Tryz.prog FX zQb.cons:=zaa zMf (zab Tryz.func115 (by kernel_rfl)) rfl (zaa zRp (zab Tryz.func141 (by kernel_rfl)) rfl (zaa zMd (zab Tryz.func117 (by kernel_rfl)) rfl (zaa zCO (zab Tryz.func118 (by kernel_rfl)) rfl (zaa zCN (zab Tryz.func110 (by kernel_rfl)) rfl (zae)))))
theorem zDB:zad zxT=[]:=by kernel_rfl
theorem zRo:zav Tryz.prog FX 125 zI1:=zai (E:=zQb) (code:=zxT) mix zah zIb Tryz.func125 (by kernel_rfl) zKh (by kernel_rfl) (fun y=>(⟨y.1,y.2.1,y.2.2.1⟩:Rt)) zI1.out (fun _=>rfl) zI1.run (fun x=>by kernel_rfl) (by kernel_rfl) (zac zDB (trivial))
def zKg:Sig:=⟨[(true,[.d (.bool),.d (.sl .int),.d (.sl .int)]),(true,[.d (.bool),.d (.sl .int),.d (.sl .int)])],[],false,[(true,[.d (.bool),.own 0,.own 1])],[(0,.arr false .int),(1,.arr false .int)]⟩
def zI0:Con:=⟨zKg,Rt,fun x=>zfJ (⟨x.1,x.2.1,x.2.2.1⟩:Rt) (⟨x.2.2.2.1,x.2.2.2.2.1,x.2.2.2.2.2.1⟩:Rt),fun r=>(r.neg,r.mag,r.den,())⟩
def zxS:Code:=Tryz.f86.body.getD .skip
def zQa:Env:=⟨zbN,[(64,zI4),(125,zI1)],[],[(1,[(0,[]),(1,[]),(2,[1]),(3,[0,2,1]),(4,[3,0,1,2])])]⟩
theorem zIa:zaj Tryz.prog FX zQa.cons:=zaa zRr (zab Tryz.func64 (by kernel_rfl)) rfl (zaa zRo (zab Tryz.func125 (by kernel_rfl)) rfl (zae))
theorem zDA:zad zxS=[]:=by kernel_rfl
theorem zRn:zav Tryz.prog FX 86 zI0:=zai (E:=zQa) (code:=zxS) mix zah zIa Tryz.func86 (by kernel_rfl) zKg (by kernel_rfl) (fun y=>(⟨y.1,y.2.1,y.2.2.1⟩:Rt)) zI0.out (fun _=>rfl) zI0.run (fun x=>by kernel_rfl) (by kernel_rfl) (zac zDA (trivial))
def zKf:Sig:=⟨[(true,[.d (.int .i64),.d (.int .i64),.own 191]),(false,[.d (.int .i64)]),(false,[.d (.int .i64)])],[(191,.arr false .rat)],true,[],[(191,.arr false .rat)]⟩
def zIZ:Con:=⟨zKf,List Rt,fun x=>zcm (⟨x.1,x.2.1,x.2.2.2.2.1⟩:Mx) x.2.2.1 x.2.2.2.1,fun r=>(r,())⟩
def zqo:Code:=Tryz.f75.body.getD .skip
def zg3:Code:=(zad zqo).getD 0 .skip
def zjz:Code:=(zad zg3).getD 0 .skip
def zlY:LoopD:=⟨⟨zaf [(1,false,[.d (.int .i64)]),(2,false,[.d (.int .i64)]),(3,false,[.lp 192 0]),(6,false,[.d (.int .i64)])] 59 0,[(191,.arr false .rat),(192,.box [.d (.int .i64),.d (.int .i64),.own 191])]⟩,[],[(.exit 0,⟨zaf [] 59 0,[(191,.arr false .rat)]⟩,[])]⟩
def zlX:LoopD:=⟨⟨zaf [(1,false,[.d (.int .i64)]),(2,false,[.d (.int .i64)]),(3,false,[.lp 192 0]),(6,false,[.d (.int .i64)]),(7,false,[.lp 448 0]),(8,false,[.d (.int .i64)])] 59 0,[(191,.arr false .rat),(192,.box [.d (.int .i64),.d (.int .i64),.own 191]),(448,.box [.d (.bool),.d (.sl .int),.d (.sl .int)])]⟩,[],[(.exit 2,⟨zaf [(1,false,[.d (.int .i64)]),(2,false,[.d (.int .i64)]),(3,false,[.lp 192 0]),(6,false,[.d (.int .i64)])] 59 0,[(191,.arr false .rat),(192,.box [.d (.int .i64),.d (.int .i64),.own 191])]⟩,[])]⟩
def ztv (x:Tys zlY.head.ks):Option (zcA zlY.outs):=@whileO (Int × Int × Int × (List Rt) × Int × Int × Unit) ((List Rt) × Unit) zbi x
def ztu (x:Tys zlX.head.ks):Option (zcA zlX.outs):=@whileO (Int × Int × Int × Int × (List Rt) × Int × Int × Bool × (List Int) × (List Int) × Unit) (Int × Int × Int × (List Rt) × Int × Int × Unit) zbh x
def zJu:Env:=⟨lay,[(65,zFH),(73,zFI),(87,zI5),(86,zI0)],[(2,zaZ zlY ztv),(7,zaZ zlX ztu)],[(10,[(0,[]),(1,[]),(2,[]),(3,[]),(4,[]),(5,[]),(6,[]),(7,[]),(8,[]),(9,[]),(10,[]),(12,[]),(13,[]),(14,[]),(15,[]),(11,[8,9,10]),(16,[13,14,15,11,8,9,10]),(17,[12,16,13,14,15,11,8,9,10]),(18,[11,17,8,9,10,12,16,13,14,15]),(19,[]),(20,[19,18,0,1,2,3,4,5,6,7,8,9,10,11,12,13,14,15,16,17])])]⟩
theorem zp4:zaj Tryz.prog FX zJu.cons:=zaa zOR (zab Tryz.func65 (by kernel_rfl)) rfl (zaa zOS (zab Tryz.func73 (by kernel_rfl)) rfl (zaa zRs (zab Tryz.func87 (by kernel_rfl)) rfl (zaa zRn (zab Tryz.func86 (by kernel_rfl)) rfl (zae))))
theorem zAN (x:Tys zlX.head.ks):stepL zJu zlX zjz x=zbh x:=by kernel_rfl
theorem zuQ:zad zjz=[]:=by kernel_rfl
theorem zMV:zay Tryz.prog FX (zaZ zlX ztu) zjz:=zam mix zcP zp4 (by kernel_rfl) (zac zuQ (trivial)) zAN fun _ _ h=>h
theorem zAO (x:Tys zlY.head.ks):stepL zJu zlY zg3 x=zbi x:=by kernel_rfl
theorem zuR:zad zg3=[zjz]:=by kernel_rfl
theorem zMW:zay Tryz.prog FX (zaZ zlY ztv) zg3:=zam mix zcP zp4 (by kernel_rfl) (zac zuR (⟨⟨_,by kernel_rfl,zMV⟩,trivial⟩)) zAO fun _ _ h=>h
theorem zDz:zad zqo=[zg3]:=by kernel_rfl
theorem zRm:zav Tryz.prog FX 75 zIZ:=zai (E:=zJu) (code:=zqo) mix zcP zp4 Tryz.func75 (by kernel_rfl) zKf (by kernel_rfl) (fun y=>y.1) zIZ.out (fun _=>rfl) zIZ.run (fun x=>by kernel_rfl) (by kernel_rfl) (zac zDz (⟨⟨_,by kernel_rfl,zMW⟩,trivial⟩))
def zKe:Sig:=⟨[(true,[.d (.bool),.d (.sl .int),.d (.sl .int)])],[],false,[(false,[.d (.bool)])],[]⟩
def zIY:Con:=⟨zKe,Bool,fun x=>zfK (⟨x.1,x.2.1,x.2.2.1⟩:Rt),fun r=>(r,())⟩
def zxR:Code:=Tryz.f76.body.getD .skip
def zP9:Env:=⟨zbN,[],[],[]⟩
theorem zH9:zaj Tryz.prog FX zP9.cons:=zae
theorem zDy:zad zxR=[]:=by kernel_rfl
theorem zRl:zav Tryz.prog FX 76 zIY:=zai (E:=zP9) (code:=zxR) mix zah zH9 Tryz.func76 (by kernel_rfl) zKe (by kernel_rfl) (fun y=>y.1) zIY.out (fun _=>rfl) zIY.run (fun x=>by kernel_rfl) (by kernel_rfl) (zac zDy (trivial))
def zKd:Sig:=⟨[(false,[.d (.sl .rat)])],[],false,[(false,[.d (.bool)])],[]⟩
def zFG:Con:=⟨zKd,Bool,fun x=>zcK x.1,fun r=>(r,())⟩
def zqn:Code:=Tryz.f37.body.getD .skip
def zjy:Code:=(zad zqn).getD 0 .skip
def zlW:LoopD:=⟨⟨zaf [(5,false,[.d (.sl .rat)]),(6,false,[.d (.int .i64)]),(7,false,[.d (.int .i64)])] 14 0,[]⟩,[],[(.ret,⟨zaf [(2,false,[.d (.bool)])] 14 0,[]⟩,[]),(.exit 0,⟨zaf [] 14 0,[]⟩,[])]⟩
def ztt (x:Tys zlW.head.ks):Option (zcA zlW.outs):=@whileO ((List Rt) × Int × Int × Unit) ((Bool × Unit) ⊕ (Unit)) zcv x
def zNY:Env:=⟨zbN,[(76,zIY)],[(2,zaZ zlW ztt)],[]⟩
theorem zxf:zaj Tryz.prog FX zNY.cons:=zaa zRl (zab Tryz.func76 (by kernel_rfl)) rfl (zae)
theorem zAM (x:Tys zlW.head.ks):stepL zNY zlW zjy x=zcv x:=by kernel_rfl
theorem zuP:zad zjy=[]:=by kernel_rfl
theorem zMU:zay Tryz.prog FX (zaZ zlW ztt) zjy:=zam mix zah zxf (by kernel_rfl) (zac zuP (trivial)) zAM fun _ _ h=>h
theorem zDx:zad zqn=[zjy]:=by kernel_rfl
theorem zOQ:zav Tryz.prog FX 37 zFG:=zai (E:=zNY) (code:=zqn) mix zah zxf Tryz.func37 (by kernel_rfl) zKd (by kernel_rfl) (fun y=>y.1) zFG.out (fun _=>rfl) zFG.run (fun x=>by kernel_rfl) (by kernel_rfl) (zac zDx (⟨⟨_,by kernel_rfl,zMU⟩,trivial⟩))
def zKc:Sig:=⟨[(true,[.d (.int .i64),.d (.int .i64),.own 191])],[(191,.arr false .rat)],true,[(false,[.own 0]),(false,[.own 1])],[(0,.arr false .int),(1,.arr false .rat),(191,.arr false .rat)]⟩
def zIX:Con:=⟨zKc,List Int × List Rt × List Rt,fun x=>zbS (⟨x.1,x.2.1,x.2.2.1⟩:Mx),fun r=>(r.1,r.2.1,r.2.2,())⟩
def zqm:Code:=Tryz.f36.body.getD .skip
def zfb:Code:=(zad zqm).getD 0 .skip
def zjx:Code:=(zad zfb).getD 0 .skip
def zjw:Code:=(zad zfb).getD 1 .skip
def zjv:Code:=(zad zfb).getD 2 .skip
def zlV:LoopD:=⟨⟨zaf [(1,false,[.lp 64 0]),(4,false,[.own 9536]),(5,false,[.own 9600]),(6,false,[.d (.int .i64)])] 146 0,[(64,.box [.d (.int .i64),.d (.int .i64),.own 191]),(191,.arr false .rat),(9536,.arr false .int),(9600,.arr false .rat)]⟩,[(.slot 4 0,9536,.int),(.slot 5 0,9600,.rat)],[(.ret,⟨zaf [(2,false,[.own 9408]),(3,false,[.own 9472])] 146 0,[(191,.arr false .rat),(9408,.arr false .int),(9472,.arr false .rat)]⟩,[]),(.exit 0,⟨zaf [(4,false,[.own 9536]),(5,false,[.own 9600])] 146 0,[(191,.arr false .rat),(9536,.arr false .int),(9600,.arr false .rat)]⟩,[(.slot 4 0,9536,.int),(.slot 5 0,9600,.rat)])]⟩
def zlU:LoopD:=⟨⟨zaf [(1,false,[.lp 64 0]),(4,false,[.own 9408]),(5,false,[.own 9472]),(6,false,[.d (.int .i64)]),(7,false,[.d (.int .i64)]),(8,false,[.d (.int .i64)])] 146 0,[(64,.box [.d (.int .i64),.d (.int .i64),.own 191]),(191,.arr false .rat),(9408,.arr false .int),(9472,.arr false .rat)]⟩,[(.slot 4 0,9408,.int),(.slot 5 0,9472,.rat)],[(.exit 2,⟨zaf [(1,false,[.lp 64 0]),(4,false,[.own 9408]),(5,false,[.own 9472]),(6,false,[.d (.int .i64)]),(7,false,[.d (.int .i64)]),(8,false,[.d (.int .i64)])] 146 0,[(64,.box [.d (.int .i64),.d (.int .i64),.own 191]),(191,.arr false .rat),(9408,.arr false .int),(9472,.arr false .rat)]⟩,[(.slot 4 0,9408,.int),(.slot 5 0,9472,.rat)])]⟩
def zlT:LoopD:=⟨⟨zaf [(1,false,[.lp 64 0]),(4,false,[.own 9472]),(5,false,[.own 9408]),(6,false,[.d (.int .i64)]),(7,false,[.d (.int .i64)]),(8,false,[.d (.int .i64)]),(9,false,[.d (.int .i64)])] 146 0,[(64,.box [.d (.int .i64),.d (.int .i64),.own 191]),(191,.arr false .rat),(9408,.arr false .rat),(9472,.arr false .int)]⟩,[(.slot 4 0,9472,.int)],[(.exit 4,⟨zaf [(1,false,[.lp 64 0]),(4,false,[.own 9472]),(5,false,[.own 9408]),(6,false,[.d (.int .i64)]),(7,false,[.d (.int .i64)])] 146 0,[(64,.box [.d (.int .i64),.d (.int .i64),.own 191]),(191,.arr false .rat),(9408,.arr false .rat),(9472,.arr false .int)]⟩,[(.slot 4 0,9472,.int)])]⟩
def zlS:LoopD:=⟨⟨zaf [(1,false,[.lp 64 0]),(4,false,[.own 9472]),(5,false,[.own 9408]),(6,false,[.d (.int .i64)]),(7,false,[.d (.int .i64)]),(11,false,[.lp 704 0]),(12,false,[.d (.int .i64)])] 146 0,[(64,.box [.d (.int .i64),.d (.int .i64),.own 191]),(191,.arr false .rat),(704,.box [.d (.bool),.d (.sl .int),.d (.sl .int)]),(9408,.arr false .rat),(9472,.arr false .int)]⟩,[(.slot 4 0,9472,.int)],[(.exit 6,⟨zaf [(1,false,[.lp 64 0]),(4,false,[.own 9472]),(5,false,[.own 9408]),(6,false,[.d (.int .i64)]),(7,false,[.d (.int .i64)])] 146 0,[(64,.box [.d (.int .i64),.d (.int .i64),.own 191]),(191,.arr false .rat),(9408,.arr false .rat),(9472,.arr false .int)]⟩,[(.slot 4 0,9472,.int)])]⟩
def zts (x:Tys zlV.head.ks):Option (zcA zlV.outs):=@whileO (Int × Int × Int × (List Rt) × (List Int) × (List Rt) × Unit) (((List Rt) × (List Int) × (List Rt) × Unit) ⊕ ((List Rt) × (List Int) × (List Rt) × Unit)) zaz x
def ztr (x:Tys zlU.head.ks):Option (zcA zlU.outs):=@whileO (Int × Int × Int × Int × Int × (List Rt) × (List Int) × (List Rt) × Unit) (Int × Int × Int × Int × Int × (List Rt) × (List Int) × (List Rt) × Unit) za5 x
def ztq (x:Tys zlT.head.ks):Option (zcA zlT.outs):=@whileO (Int × Int × Int × Int × Int × Int × (List Rt) × (List Rt) × (List Int) × Unit) (Int × Int × Int × Int × (List Rt) × (List Rt) × (List Int) × Unit) zbo x
def ztp (x:Tys zlS.head.ks):Option (zcA zlS.outs):=@whileO (Int × Int × Int × Int × Int × (List Rt) × Bool × (List Int) × (List Int) × (List Rt) × (List Int) × Unit) (Int × Int × Int × Int × (List Rt) × (List Rt) × (List Int) × Unit) zbn x
def zA5:Env:=⟨lay,[(65,zFH),(73,zFI),(63,zAa),(74,zI6),(75,zIZ),(37,zFG)],[(4,zaZ zlV zts),(8,zaZ zlU ztr),(14,zaZ zlT ztq),(22,zaZ zlS ztp)],[(17,[(0,[]),(1,[]),(2,[]),(3,[]),(4,[]),(5,[]),(6,[]),(7,[]),(8,[]),(9,[]),(10,[]),(11,[]),(12,[]),(13,[]),(14,[]),(15,[]),(16,[]),(17,[]),(18,[]),(19,[18,17,0,1,2,3,4,5,6,7,8,9,10,11,12,13,14,15,16])]),(24,[(0,[]),(1,[]),(2,[]),(3,[]),(4,[]),(5,[]),(6,[]),(7,[]),(8,[]),(9,[]),(10,[]),(12,[]),(11,[8,9,10]),(13,[11,12,8,9,10]),(14,[]),(15,[14,13,0,1,2,3,4,5,6,7,8,9,10,11,12])])]⟩
theorem zk1:zaj Tryz.prog FX zA5.cons:=zaa zOR (zab Tryz.func65 (by kernel_rfl)) rfl (zaa zOS (zab Tryz.func73 (by kernel_rfl)) rfl (zaa zMe (zab Tryz.func63 (by kernel_rfl)) rfl (zaa zRt (zab Tryz.func74 (by kernel_rfl)) rfl (zaa zRm (zab Tryz.func75 (by kernel_rfl)) rfl (zaa zOQ (zab Tryz.func37 (by kernel_rfl)) rfl (zae))))))
theorem zAI (x:Tys zlS.head.ks):stepL zA5 zlS zjv x=zbn x:=by kernel_rfl
theorem zuL:zad zjv=[]:=by kernel_rfl
theorem zMQ:zay Tryz.prog FX (zaZ zlS ztp) zjv:=zam mix zcP zk1 (by kernel_rfl) (zac zuL (trivial)) zAI fun _ _ h=>h
theorem zAJ (x:Tys zlT.head.ks):stepL zA5 zlT zjw x=zbo x:=by kernel_rfl
theorem zuM:zad zjw=[]:=by kernel_rfl
theorem zMR:zay Tryz.prog FX (zaZ zlT ztq) zjw:=zam mix zcP zk1 (by kernel_rfl) (zac zuM (trivial)) zAJ fun _ _ h=>h
theorem zAK (x:Tys zlU.head.ks):stepL zA5 zlU zjx x=za5 x:=by kernel_rfl
theorem zuN:zad zjx=[]:=by kernel_rfl
theorem zMS:zay Tryz.prog FX (zaZ zlU ztr) zjx:=zam mix zcP zk1 (by kernel_rfl) (zac zuN (trivial)) zAK fun _ _ h=>h
theorem zAL (x:Tys zlV.head.ks):stepL zA5 zlV zfb x=zaz x:=by kernel_rfl
theorem zuO:zad zfb=[zjx,zjw,zjv]:=by kernel_rfl
theorem zMT:zay Tryz.prog FX (zaZ zlV zts) zfb:=zam mix zcP zk1 (by kernel_rfl) (zac zuO (⟨⟨_,by kernel_rfl,zMS⟩,⟨⟨_,by kernel_rfl,zMR⟩,⟨⟨_,by kernel_rfl,zMQ⟩,trivial⟩⟩⟩)) zAL fun _ _ h=>h
theorem zDw:zad zqm=[zfb]:=by kernel_rfl
theorem zRk:zav Tryz.prog FX 36 zIX:=zai (E:=zA5) (code:=zqm) mix zcP zk1 Tryz.func36 (by kernel_rfl) zKc (by kernel_rfl) (fun y=>(y.1,y.2.1,y.2.2.1)) zIX.out (fun _=>rfl) zIX.run (fun x=>by kernel_rfl) (by kernel_rfl) (zac zDw (⟨⟨_,by kernel_rfl,zMT⟩,trivial⟩))
def zJ6:Sig:=⟨[(true,[.d (.int .i64),.d (.int .i64),.d (.sl .rat)])],[],true,[(true,[.d (.int .i64),.d (.int .i64),.own 0]),(false,[.d (.bool)])],[(0,.arr false .rat)]⟩
def zIR:Con:=⟨zJ6,Mx × Bool,fun x=>zcl (⟨x.1,x.2.1,x.2.2.1⟩:Mx),fun r=>(r.1.rows,r.1.cols,r.2,r.1.cells,())⟩
def zqh:Code:=Tryz.f59.body.getD .skip
def zjq:Code:=(zad zqh).getD 0 .skip
def zlN:LoopD:=⟨⟨zaf [(2,false,[.lp 128 0]),(4,false,[.d (.int .i64)]),(5,false,[.lp 320 0]),(8,false,[.lp 512 0]),(9,false,[.d (.int .i64)])] 64 0,[(128,.box [.d (.int .i64),.d (.int .i64),.d (.sl .rat)]),(320,.box [.d (.int .i64),.d (.int .i64),.d (.sl .rat)]),(512,.box [.d (.int .i64),.d (.int .i64),.own 4224]),(4224,.arr false .rat)]⟩,[(.box 512 2,4224,.rat)],[(.exit 0,⟨zaf [(2,false,[.lp 128 0]),(8,false,[.lp 512 0])] 64 0,[(128,.box [.d (.int .i64),.d (.int .i64),.d (.sl .rat)]),(512,.box [.d (.int .i64),.d (.int .i64),.own 4224]),(4224,.arr false .rat)]⟩,[(.box 512 2,4224,.rat)])]⟩
def ztk (x:Tys zlN.head.ks):Option (zcA zlN.outs):=@whileO (Int × Int × Int × Int × (List Rt) × Int × Int × (List Rt) × Int × Int × (List Rt) × Unit) (Int × Int × (List Rt) × Int × Int × (List Rt) × Unit) zbg x
def zNT:Env:=⟨lay,[(85,zIU),(101,zIS),(36,zIX),(37,zFG),(105,zFJ)],[(8,zaZ zlN ztk)],[(2,[(0,[]),(1,[]),(2,[1]),(3,[0,2,1]),(4,[]),(5,[4,3,0,1,2])]),(10,[(0,[]),(1,[]),(2,[]),(3,[]),(5,[]),(4,[2,3]),(6,[]),(7,[1,6,4,0,5,2,3]),(8,[]),(9,[8,7,0,1,2,3,4,5,6])])]⟩
theorem zxa:zaj Tryz.prog FX zNT.cons:=zaa zRh (zab Tryz.func85 (by kernel_rfl)) rfl (zaa zRf (zab Tryz.func101 (by kernel_rfl)) rfl (zaa zRk (zab Tryz.func36 (by kernel_rfl)) rfl (zaa zOQ (zab Tryz.func37 (by kernel_rfl)) rfl (zaa zOT (zab Tryz.func105 (by kernel_rfl)) rfl (zae)))))
theorem zAD (x:Tys zlN.head.ks):stepL zNT zlN zjq x=zbg x:=by kernel_rfl
theorem zuG:zad zjq=[]:=by kernel_rfl
theorem zML:zay Tryz.prog FX (zaZ zlN ztk) zjq:=zam mix zcP zxa (by kernel_rfl) (zac zuG (trivial)) zAD fun _ _ h=>h
theorem zDq:zad zqh=[zjq]:=by kernel_rfl
theorem zRe:zav Tryz.prog FX 59 zIR:=zai (E:=zNT) (code:=zqh) mix zcP zxa Tryz.func59 (by kernel_rfl) zJ6 (by kernel_rfl) (fun y=>((⟨y.1,y.2.1,y.2.2.2.1⟩:Mx),y.2.2.1)) zIR.out (fun _=>rfl) zIR.run (fun x=>by kernel_rfl) (by kernel_rfl) (zac zDq (⟨⟨_,by kernel_rfl,zML⟩,trivial⟩))
def zJ5:Sig:=⟨[(true,[.d (.int .i64),.d (.int .i64),.d (.sl .rat)])],[],true,[(true,[.d (.int .i64),.d (.int .i64),.own 0]),(false,[.d (.bool)])],[(0,.arr false .rat)]⟩
def zIQ:Con:=⟨zJ5,Mx × Bool,fun x=>zfk (⟨x.1,x.2.1,x.2.2.1⟩:Mx),fun r=>(r.1.rows,r.1.cols,r.2,r.1.cells,())⟩
def zxP:Code:=Tryz.f27.body.getD .skip
def zP7:Env:=⟨lay,[(34,zJb),(59,zIR)],[],[]⟩
theorem zH7:zaj Tryz.prog FX zP7.cons:=zaa zRy (zab Tryz.func34 (by kernel_rfl)) rfl (zaa zRe (zab Tryz.func59 (by kernel_rfl)) rfl (zae))
theorem zDp:zad zxP=[]:=by kernel_rfl
theorem zRd:zav Tryz.prog FX 27 zIQ:=zai (E:=zP7) (code:=zxP) mix zcP zH7 Tryz.func27 (by kernel_rfl) zJ5 (by kernel_rfl) (fun y=>((⟨y.1,y.2.1,y.2.2.2.1⟩:Mx),y.2.2.1)) zIQ.out (fun _=>rfl) zIQ.run (fun x=>by kernel_rfl) (by kernel_rfl) (zac zDp (trivial))
def zJ4:Sig:=⟨[(false,[.d (.int .i64)])],[],false,[(false,[.d (.bool)])],[]⟩
def zIP:Con:=⟨zJ4,Bool,fun x=>zdL x.1,fun r=>(r,())⟩
def zxO:Code:=Tryz.f77.body.getD .skip
def zP6:Env:=⟨zbN,[],[],[]⟩
theorem zH6:zaj Tryz.prog FX zP6.cons:=zae
theorem zDo:zad zxO=[]:=by kernel_rfl
theorem zRc:zav Tryz.prog FX 77 zIP:=zai (E:=zP6) (code:=zxO) mix zah zH6 Tryz.func77 (by kernel_rfl) zJ4 (by kernel_rfl) (fun y=>y.1) zIP.out (fun _=>rfl) zIP.run (fun x=>by kernel_rfl) (by kernel_rfl) (zac zDo (trivial))
def zJ3:Sig:=⟨[(false,[.d (.sl .int)])],[],false,[(false,[.d (.bool)])],[]⟩
def zFF:Con:=⟨zJ3,Bool,fun x=>zfv x.1,fun r=>(r,())⟩
def zqg:Code:=Tryz.f120.body.getD .skip
def zjo:Code:=(zad zqg).getD 0 .skip
def zlM:LoopD:=⟨⟨zaf [(22,false,[.d (.sl .int)]),(23,false,[.d (.int .i64)]),(24,false,[.d (.int .i64)])] 35 0,[]⟩,[],[(.ret,⟨zaf [(2,false,[.d (.bool)])] 35 0,[]⟩,[]),(.exit 0,⟨zaf [] 35 0,[]⟩,[])]⟩
def ztj (x:Tys zlM.head.ks):Option (zcA zlM.outs):=@whileO ((List Int) × Int × Int × Unit) ((Bool × Unit) ⊕ (Unit)) zdp x
def zNS:Env:=⟨zbN,[],[(4,zaZ zlM ztj)],[]⟩
theorem zw9:zaj Tryz.prog FX zNS.cons:=zae
theorem zAC (x:Tys zlM.head.ks):stepL zNS zlM zjo x=zdp x:=by kernel_rfl
theorem zuF:zad zjo=[]:=by kernel_rfl
theorem zMK:zay Tryz.prog FX (zaZ zlM ztj) zjo:=zam mix zah zw9 (by kernel_rfl) (zac zuF (trivial)) zAC fun _ _ h=>h
theorem zDn:zad zqg=[zjo]:=by kernel_rfl
theorem zOP:zav Tryz.prog FX 120 zFF:=zai (E:=zNS) (code:=zqg) mix zah zw9 Tryz.func120 (by kernel_rfl) zJ3 (by kernel_rfl) (fun y=>y.1) zFF.out (fun _=>rfl) zFF.run (fun x=>by kernel_rfl) (by kernel_rfl) (zac zDn (⟨⟨_,by kernel_rfl,zMK⟩,trivial⟩))
def zJ2:Sig:=⟨[(true,[.d (.bool),.d (.sl .int)])],[],false,[(false,[.d (.bool)])],[]⟩
def zFE:Con:=⟨zJ2,Bool,fun x=>zcp (⟨x.1,x.2.1⟩:Bg),fun r=>(r,())⟩
def zxN:Code:=Tryz.f119.body.getD .skip
def zP5:Env:=⟨zbN,[(120,zFF)],[],[]⟩
theorem zH5:zaj Tryz.prog FX zP5.cons:=zaa zOP (zab Tryz.func120 (by kernel_rfl)) rfl (zae)
theorem zDm:zad zxN=[]:=by kernel_rfl
theorem zOO:zav Tryz.prog FX 119 zFE:=zai (E:=zP5) (code:=zxN) mix zah zH5 Tryz.func119 (by kernel_rfl) zJ2 (by kernel_rfl) (fun y=>y.1) zFE.out (fun _=>rfl) zFE.run (fun x=>by kernel_rfl) (by kernel_rfl) (zac zDm (trivial))
def zJ1:Sig:=⟨[(false,[.d (.sl .int)]),(false,[.d (.sl .int)])],[],false,[(false,[.d (.int .i64)])],[]⟩
def zFD:Con:=⟨zJ1,Int,fun x=>zeT x.1 x.2.1,fun r=>(r,())⟩
def zqf:Code:=Tryz.f144.body.getD .skip
def zjn:Code:=(zad zqf).getD 0 .skip
def zlL:LoopD:=⟨⟨zaf [(0,false,[.d (.sl .int)]),(1,false,[.d (.sl .int)]),(5,false,[.d (.int .i64)])] 43 0,[]⟩,[],[(.ret,⟨zaf [(4,false,[.d (.int .i64)])] 43 0,[]⟩,[]),(.exit 0,⟨zaf [] 43 0,[]⟩,[])]⟩
def zti (x:Tys zlL.head.ks):Option (zcA zlL.outs):=@whileO ((List Int) × (List Int) × Int × Unit) ((Int × Unit) ⊕ (Unit)) zc5 x
def zNR:Env:=⟨zbN,[],[(6,zaZ zlL zti)],[(8,[(0,[]),(1,[]),(2,[]),(3,[]),(4,[]),(5,[]),(6,[]),(7,[]),(8,[]),(9,[8,3,7,2,6,0,1,4,5])]),(10,[(0,[]),(1,[]),(2,[]),(3,[]),(4,[]),(5,[]),(6,[]),(7,[]),(8,[]),(9,[8,3,7,2,6,0,1,4,5])])]⟩
theorem zw8:zaj Tryz.prog FX zNR.cons:=zae
theorem zAB (x:Tys zlL.head.ks):stepL zNR zlL zjn x=zc5 x:=by kernel_rfl
theorem zuE:zad zjn=[]:=by kernel_rfl
theorem zMJ:zay Tryz.prog FX (zaZ zlL zti) zjn:=zam mix zah zw8 (by kernel_rfl) (zac zuE (trivial)) zAB fun _ _ h=>h
theorem zDl:zad zqf=[zjn]:=by kernel_rfl
theorem zON:zav Tryz.prog FX 144 zFD:=zai (E:=zNR) (code:=zqf) mix zah zw8 Tryz.func144 (by kernel_rfl) zJ1 (by kernel_rfl) (fun y=>y.1) zFD.out (fun _=>rfl) zFD.run (fun x=>by kernel_rfl) (by kernel_rfl) (zac zDl (⟨⟨_,by kernel_rfl,zMJ⟩,trivial⟩))
def zJ0:Sig:=⟨[(false,[.d (.sl .int)])],[],false,[(false,[.own 0])],[(0,.arr false .int)]⟩
def zom:Con:=⟨zJ0,List Int,fun x=>zaS x.1,fun r=>(r,())⟩
def zxM:Code:=Tryz.f93.body.getD .skip
def zP4:Env:=⟨zbN,[],[],[]⟩
theorem zH4:zaj Tryz.prog FX zP4.cons:=zae
theorem zDk:zad zxM=[]:=by kernel_rfl
theorem zuk:zav Tryz.prog FX 93 zom:=zai (E:=zP4) (code:=zxM) mix zah zH4 Tryz.func93 (by kernel_rfl) zJ0 (by kernel_rfl) (fun y=>y.1) zom.out (fun _=>rfl) zom.run (fun x=>by kernel_rfl) (by kernel_rfl) (zac zDk (trivial))
def zJZ:Sig:=⟨[(false,[.own 0])],[(0,.arr false .int)],false,[(false,[.own 0])],[(0,.arr false .int)]⟩
def zvC:Con:=⟨zJZ,List Int,fun x=>zcE x.1,fun r=>(r,())⟩
def zqe:Code:=Tryz.f132.body.getD .skip
def zjm:Code:=(zad zqe).getD 0 .skip
def zlK:LoopD:=⟨⟨zaf [(0,false,[.own 1408]),(3,false,[.d (.int .i64)])] 21 0,[(1408,.arr false .int)]⟩,[],[(.exit 0,⟨zaf [(0,false,[.own 1408]),(3,false,[.d (.int .i64)])] 21 0,[(1408,.arr false .int)]⟩,[])]⟩
def zth (x:Tys zlK.head.ks):Option (zcA zlK.outs):=@whileO (Int × (List Int) × Unit) (Int × (List Int) × Unit) zcU x
def zNQ:Env:=⟨zbN,[],[(2,zaZ zlK zth)],[]⟩
theorem zw7:zaj Tryz.prog FX zNQ.cons:=zae
theorem zAA (x:Tys zlK.head.ks):stepL zNQ zlK zjm x=zcU x:=by kernel_rfl
theorem zuD:zad zjm=[]:=by kernel_rfl
theorem zMI:zay Tryz.prog FX (zaZ zlK zth) zjm:=zam mix zah zw7 (by kernel_rfl) (zac zuD (trivial)) zAA fun _ _ h=>h
theorem zDj:zad zqe=[zjm]:=by kernel_rfl
theorem zGU:zav Tryz.prog FX 132 zvC:=zai (E:=zNQ) (code:=zqe) mix zah zw7 Tryz.func132 (by kernel_rfl) zJZ (by kernel_rfl) (fun y=>y.1) zvC.out (fun _=>rfl) zvC.run (fun x=>by kernel_rfl) (by kernel_rfl) (zac zDj (⟨⟨_,by kernel_rfl,zMI⟩,trivial⟩))
def zJY:Sig:=⟨[(false,[.d (.int .i64)])],[],false,[(false,[.own 0])],[(0,.arr false .int)]⟩
def zFC:Con:=⟨zJY,List Int,fun x=>zfw x.1,fun r=>(r,())⟩
def zqd:Code:=Tryz.f155.body.getD .skip
def zjl:Code:=(zad zqd).getD 0 .skip
def zlJ:LoopD:=⟨⟨zaf [(0,false,[.d (.int .i64)]),(3,false,[.own 960])] 14 0,[(960,.arr false .int)]⟩,[(.slot 3 0,960,.int)],[(.exit 0,⟨zaf [(3,false,[.own 960])] 14 0,[(960,.arr false .int)]⟩,[(.slot 3 0,960,.int)])]⟩
def ztg (x:Tys zlJ.head.ks):Option (zcA zlJ.outs):=@whileO (Int × (List Int) × Unit) ((List Int) × Unit) zgJ x
def zNP:Env:=⟨zbN,[],[(2,zaZ zlJ ztg)],[]⟩
theorem zw6:zaj Tryz.prog FX zNP.cons:=zae
theorem zAz (x:Tys zlJ.head.ks):stepL zNP zlJ zjl x=zgJ x:=by kernel_rfl
theorem zuC:zad zjl=[]:=by kernel_rfl
theorem zMH:zay Tryz.prog FX (zaZ zlJ ztg) zjl:=zam mix zah zw6 (by kernel_rfl) (zac zuC (trivial)) zAz fun _ _ h=>h
theorem zDi:zad zqd=[zjl]:=by kernel_rfl
theorem zOM:zav Tryz.prog FX 155 zFC:=zai (E:=zNP) (code:=zqd) mix zah zw6 Tryz.func155 (by kernel_rfl) zJY (by kernel_rfl) (fun y=>y.1) zFC.out (fun _=>rfl) zFC.run (fun x=>by kernel_rfl) (by kernel_rfl) (zac zDi (⟨⟨_,by kernel_rfl,zMH⟩,trivial⟩))
def zJX:Sig:=⟨[(false,[.d (.sl .int)]),(false,[.d (.int .i64)])],[],true,[(false,[.own 0]),(false,[.own 1])],[(0,.arr false .int),(1,.arr false .int)]⟩
def zIO:Con:=⟨zJX,List Int × List Int,fun x=>zdM x.1 x.2.1,fun r=>(r.1,r.2,())⟩
def zqc:Code:=Tryz.f146.body.getD .skip
def zjk:Code:=(zad zqc).getD 0 .skip
def zlI:LoopD:=⟨⟨zaf [(0,false,[.d (.sl .int)]),(1,false,[.d (.int .i64)]),(6,false,[.own 2624]),(7,false,[.d (.int .i64)]),(8,false,[.d (.int .i64)])] 40 0,[(2624,.arr false .int)]⟩,[],[(.exit 0,⟨zaf [(6,false,[.own 2624]),(7,false,[.d (.int .i64)])] 40 0,[(2624,.arr false .int)]⟩,[])]⟩
def ztf (x:Tys zlI.head.ks):Option (zcA zlI.outs):=@whileO ((List Int) × Int × Int × Int × (List Int) × Unit) (Int × (List Int) × Unit) zc6 x
def zNO:Env:=⟨zbN,[(132,zvC),(155,zFC)],[(4,zaZ zlI ztf)],[]⟩
theorem zw5:zaj Tryz.prog FX zNO.cons:=zaa zGU (zab Tryz.func132 (by kernel_rfl)) rfl (zaa zOM (zab Tryz.func155 (by kernel_rfl)) rfl (zae))
theorem zAy (x:Tys zlI.head.ks):stepL zNO zlI zjk x=zc6 x:=by kernel_rfl
theorem zuB:zad zjk=[]:=by kernel_rfl
theorem zMG:zay Tryz.prog FX (zaZ zlI ztf) zjk:=zam mix zah zw5 (by kernel_rfl) (zac zuB (trivial)) zAy fun _ _ h=>h
theorem zDh:zad zqc=[zjk]:=by kernel_rfl
theorem zRb:zav Tryz.prog FX 146 zIO:=zai (E:=zNO) (code:=zqc) mix zah zw5 Tryz.func146 (by kernel_rfl) zJX (by kernel_rfl) (fun y=>(y.1,y.2.1)) zIO.out (fun _=>rfl) zIO.run (fun x=>by kernel_rfl) (by kernel_rfl) (zac zDh (⟨⟨_,by kernel_rfl,zMG⟩,trivial⟩))
def zJW:Sig:=⟨[(false,[.d (.sl .int)]),(false,[.d (.sl .int)])],[],false,[(false,[.own 0])],[(0,.arr false .int)]⟩
def zvB:Con:=⟨zJW,List Int,fun x=>zbl x.1 x.2.1,fun r=>(r,())⟩
def zqb:Code:=Tryz.f97.body.getD .skip
def zg2:Code:=(zad zqb).getD 0 .skip
def zjj:Code:=(zad zg2).getD 0 .skip
def zlH:LoopD:=⟨⟨zaf [(1,false,[.d (.sl .int)]),(5,false,[.own 4352]),(18,false,[.d (.sl .int)]),(19,false,[.d (.int .i64)]),(20,false,[.d (.int .i64)])] 67 0,[(4352,.arr false .int)]⟩,[],[(.exit 0,⟨zaf [(5,false,[.own 4352])] 67 0,[(4352,.arr false .int)]⟩,[])]⟩
def zlG:LoopD:=⟨⟨zaf [(1,false,[.d (.sl .int)]),(5,false,[.own 4352]),(6,false,[.d (.int .i64)]),(7,false,[.d (.int .i64)]),(8,false,[.d (.int .i64)]),(18,false,[.d (.sl .int)]),(19,false,[.d (.int .i64)]),(20,false,[.d (.int .i64)]),(25,false,[.d (.sl .int)]),(26,false,[.d (.int .i64)]),(27,false,[.d (.int .i64)])] 67 0,[(4352,.arr false .int)]⟩,[],[(.exit 2,⟨zaf [(1,false,[.d (.sl .int)]),(5,false,[.own 4352]),(6,false,[.d (.int .i64)]),(8,false,[.d (.int .i64)]),(18,false,[.d (.sl .int)]),(19,false,[.d (.int .i64)]),(20,false,[.d (.int .i64)])] 67 0,[(4352,.arr false .int)]⟩,[])]⟩
def zte (x:Tys zlH.head.ks):Option (zcA zlH.outs):=@whileO ((List Int) × (List Int) × Int × Int × (List Int) × Unit) ((List Int) × Unit) zcZ x
def ztd (x:Tys zlG.head.ks):Option (zcA zlG.outs):=@whileO ((List Int) × Int × Int × Int × (List Int) × Int × Int × (List Int) × Int × Int × (List Int) × Unit) ((List Int) × Int × Int × (List Int) × Int × Int × (List Int) × Unit) zeC x
def zJt:Env:=⟨zbN,[(132,zvC)],[(3,zaZ zlH zte),(7,zaZ zlG ztd)],[]⟩
theorem zp3:zaj Tryz.prog FX zJt.cons:=zaa zGU (zab Tryz.func132 (by kernel_rfl)) rfl (zae)
theorem zAw (x:Tys zlG.head.ks):stepL zJt zlG zjj x=zeC x:=by kernel_rfl
theorem zuz:zad zjj=[]:=by kernel_rfl
theorem zME:zay Tryz.prog FX (zaZ zlG ztd) zjj:=zam mix zah zp3 (by kernel_rfl) (zac zuz (trivial)) zAw fun _ _ h=>h
theorem zAx (x:Tys zlH.head.ks):stepL zJt zlH zg2 x=zcZ x:=by kernel_rfl
theorem zuA:zad zg2=[zjj]:=by kernel_rfl
theorem zMF:zay Tryz.prog FX (zaZ zlH zte) zg2:=zam mix zah zp3 (by kernel_rfl) (zac zuA (⟨⟨_,by kernel_rfl,zME⟩,trivial⟩)) zAx fun _ _ h=>h
theorem zDg:zad zqb=[zg2]:=by kernel_rfl
theorem zGT:zav Tryz.prog FX 97 zvB:=zai (E:=zJt) (code:=zqb) mix zah zp3 Tryz.func97 (by kernel_rfl) zJW (by kernel_rfl) (fun y=>y.1) zvB.out (fun _=>rfl) zvB.run (fun x=>by kernel_rfl) (by kernel_rfl) (zac zDg (⟨⟨_,by kernel_rfl,zMF⟩,trivial⟩))
def zJV:Sig:=⟨[(false,[.d (.sl .int)]),(false,[.d (.sl .int)])],[],true,[(false,[.own 0]),(false,[.own 1])],[(0,.arr false .int),(1,.arr false .int)]⟩
def zz8:Con:=⟨zJV,List Int × List Int,fun x=>zbG x.1 x.2.1,fun r=>(r.1,r.2,())⟩
def zmX:Code:=Tryz.f130.body.getD .skip
def zji:Code:=(zad zmX).getD 0 .skip
def zfa:Code:=(zad zmX).getD 1 .skip
def zjh:Code:=(zad zfa).getD 0 .skip
def zjg:Code:=(zad zfa).getD 1 .skip
def zjf:Code:=(zad zfa).getD 2 .skip
def zlF:LoopD:=⟨⟨zaf [(0,false,[.d (.sl .int)]),(6,false,[.d (.int .i64)]),(7,false,[.own 15360]),(8,false,[.own 15424]),(9,false,[.d (.int .i64)])] 239 0,[(15360,.arr false .int),(15424,.arr false .int)]⟩,[],[(.exit 0,⟨zaf [(6,false,[.d (.int .i64)]),(7,false,[.own 15360]),(8,false,[.own 15424]),(9,false,[.d (.int .i64)])] 239 0,[(15360,.arr false .int),(15424,.arr false .int)]⟩,[])]⟩
def zlE:LoopD:=⟨⟨zaf [(6,false,[.d (.int .i64)]),(7,false,[.own 15360]),(8,false,[.own 15424]),(9,false,[.d (.int .i64)]),(10,false,[.own 15488]),(11,false,[.d (.int .i64)]),(12,false,[.d (.int .i64)])] 239 0,[(15360,.arr false .int),(15424,.arr false .int),(15488,.arr false .int)]⟩,[],[(.exit 2,⟨zaf [(6,false,[.d (.int .i64)]),(7,false,[.own 15360]),(10,false,[.own 15488])] 239 0,[(15360,.arr false .int),(15488,.arr false .int)]⟩,[])]⟩
def zlD:LoopD:=⟨⟨zaf [(6,false,[.d (.int .i64)]),(7,false,[.own 15360]),(8,false,[.own 15424]),(9,false,[.d (.int .i64)]),(10,false,[.own 15488]),(11,false,[.d (.int .i64)]),(12,false,[.d (.int .i64)]),(14,false,[.d (.int .i64)]),(15,false,[.d (.int .i64)])] 239 0,[(15360,.arr false .int),(15424,.arr false .int),(15488,.arr false .int)]⟩,[],[(.exit 4,⟨zaf [(6,false,[.d (.int .i64)]),(7,false,[.own 15360]),(8,false,[.own 15424]),(9,false,[.d (.int .i64)]),(10,false,[.own 15488]),(11,false,[.d (.int .i64)]),(12,false,[.d (.int .i64)]),(14,false,[.d (.int .i64)])] 239 0,[(15360,.arr false .int),(15424,.arr false .int),(15488,.arr false .int)]⟩,[])]⟩
def zlC:LoopD:=⟨⟨zaf [(6,false,[.d (.int .i64)]),(7,false,[.own 15360]),(8,false,[.own 15424]),(9,false,[.d (.int .i64)]),(10,false,[.own 15488]),(11,false,[.d (.int .i64)]),(12,false,[.d (.int .i64)]),(14,false,[.d (.int .i64)]),(16,false,[.d (.int .i64)]),(135,false,[.d (.int .i64)]),(136,false,[.d (.int .i64)])] 239 0,[(15360,.arr false .int),(15424,.arr false .int),(15488,.arr false .int)]⟩,[],[(.exit 6,⟨zaf [(6,false,[.d (.int .i64)]),(7,false,[.own 15360]),(8,false,[.own 15424]),(9,false,[.d (.int .i64)]),(10,false,[.own 15488]),(11,false,[.d (.int .i64)]),(12,false,[.d (.int .i64)]),(14,false,[.d (.int .i64)]),(16,false,[.d (.int .i64)])] 239 0,[(15360,.arr false .int),(15424,.arr false .int),(15488,.arr false .int)]⟩,[])]⟩
def zlB:LoopD:=⟨⟨zaf [(6,false,[.d (.int .i64)]),(7,false,[.own 15360]),(8,false,[.own 15424]),(9,false,[.d (.int .i64)]),(10,false,[.own 15488]),(11,false,[.d (.int .i64)]),(12,false,[.d (.int .i64)]),(14,false,[.d (.int .i64)]),(19,false,[.d (.int .i64)]),(188,false,[.d (.int .i64)]),(189,false,[.d (.int .i64)])] 239 0,[(15360,.arr false .int),(15424,.arr false .int),(15488,.arr false .int)]⟩,[],[(.exit 8,⟨zaf [(6,false,[.d (.int .i64)]),(7,false,[.own 15360]),(8,false,[.own 15424]),(9,false,[.d (.int .i64)]),(10,false,[.own 15488]),(11,false,[.d (.int .i64)]),(12,false,[.d (.int .i64)]),(14,false,[.d (.int .i64)]),(19,false,[.d (.int .i64)])] 239 0,[(15360,.arr false .int),(15424,.arr false .int),(15488,.arr false .int)]⟩,[])]⟩
def ztc (x:Tys zlF.head.ks):Option (zcA zlF.outs):=@whileO ((List Int) × Int × Int × (List Int) × (List Int) × Unit) (Int × Int × (List Int) × (List Int) × Unit) zc4 x
def ztb (x:Tys zlE.head.ks):Option (zcA zlE.outs):=@whileO (Int × Int × Int × Int × (List Int) × (List Int) × (List Int) × Unit) (Int × (List Int) × (List Int) × Unit) zck x
def zta (x:Tys zlD.head.ks):Option (zcA zlD.outs):=@whileO (Int × Int × Int × Int × Int × Int × (List Int) × (List Int) × (List Int) × Unit) (Int × Int × Int × Int × Int × (List Int) × (List Int) × (List Int) × Unit) zc3 x
def zs9 (x:Tys zlC.head.ks):Option (zcA zlC.outs):=@whileO (Int × Int × Int × Int × Int × Int × Int × Int × (List Int) × (List Int) × (List Int) × Unit) (Int × Int × Int × Int × Int × Int × (List Int) × (List Int) × (List Int) × Unit) zc2 x
def zs8 (x:Tys zlB.head.ks):Option (zcA zlB.outs):=@whileO (Int × Int × Int × Int × Int × Int × Int × Int × (List Int) × (List Int) × (List Int) × Unit) (Int × Int × Int × Int × Int × Int × (List Int) × (List Int) × (List Int) × Unit) zc1 x
def zv4:Env:=⟨zbN,[(144,zFD),(93,zom),(146,zIO),(97,zvB),(132,zvC)],[(9,zaZ zlF ztc),(14,zaZ zlE ztb),(18,zaZ zlD zta),(24,zaZ zlC zs9),(38,zaZ zlB zs8)],[(16,[(0,[]),(1,[]),(2,[]),(3,[]),(4,[]),(5,[]),(6,[]),(7,[]),(8,[]),(9,[]),(10,[]),(11,[]),(12,[]),(13,[]),(14,[]),(15,[14,0,1,2,3,4,5,6,7,8,9,10,11,12,13])]),(17,[(0,[]),(1,[]),(2,[]),(3,[]),(4,[]),(5,[]),(6,[2,0,1]),(7,[5,6,0,1,2,3,4])]),(18,[(0,[]),(1,[]),(2,[]),(3,[]),(4,[]),(5,[]),(6,[]),(7,[]),(8,[]),(9,[]),(10,[]),(11,[]),(12,[]),(13,[]),(14,[]),(15,[]),(16,[]),(17,[]),(18,[]),(19,[]),(20,[]),(21,[])]),(26,[(0,[]),(1,[]),(2,[]),(3,[]),(4,[]),(5,[]),(6,[]),(7,[]),(8,[]),(9,[]),(10,[]),(11,[]),(12,[]),(13,[]),(14,[]),(15,[14,0,1,2,3,4,5,6,7,8,9,10,11,12,13])]),(40,[(0,[]),(1,[]),(2,[]),(3,[]),(4,[]),(5,[]),(6,[]),(7,[]),(8,[]),(9,[]),(10,[]),(11,[]),(12,[]),(13,[12,0,1,2,3,4,5,6,7,8,9,10,11])])]⟩
theorem zi7:zaj Tryz.prog FX zv4.cons:=zaa zON (zab Tryz.func144 (by kernel_rfl)) rfl (zaa zuk (zab Tryz.func93 (by kernel_rfl)) rfl (zaa zRb (zab Tryz.func146 (by kernel_rfl)) rfl (zaa zGT (zab Tryz.func97 (by kernel_rfl)) rfl (zaa zGU (zab Tryz.func132 (by kernel_rfl)) rfl (zae)))))
theorem zAr (x:Tys zlB.head.ks):stepL zv4 zlB zjf x=zc1 x:=by kernel_rfl
theorem zuu:zad zjf=[]:=by kernel_rfl
theorem zMz:zay Tryz.prog FX (zaZ zlB zs8) zjf:=zam mix zah zi7 (by kernel_rfl) (zac zuu (trivial)) zAr fun _ _ h=>h
theorem zAs (x:Tys zlC.head.ks):stepL zv4 zlC zjg x=zc2 x:=by kernel_rfl
theorem zuv:zad zjg=[]:=by kernel_rfl
theorem zMA:zay Tryz.prog FX (zaZ zlC zs9) zjg:=zam mix zah zi7 (by kernel_rfl) (zac zuv (trivial)) zAs fun _ _ h=>h
theorem zAt (x:Tys zlD.head.ks):stepL zv4 zlD zjh x=zc3 x:=by kernel_rfl
theorem zuw:zad zjh=[]:=by kernel_rfl
theorem zMB:zay Tryz.prog FX (zaZ zlD zta) zjh:=zam mix zah zi7 (by kernel_rfl) (zac zuw (trivial)) zAt fun _ _ h=>h
theorem zAu (x:Tys zlE.head.ks):stepL zv4 zlE zfa x=zck x:=by kernel_rfl
theorem zux:zad zfa=[zjh,zjg,zjf]:=by kernel_rfl
theorem zMC:zay Tryz.prog FX (zaZ zlE ztb) zfa:=zam mix zah zi7 (by kernel_rfl) (zac zux (⟨⟨_,by kernel_rfl,zMB⟩,⟨⟨_,by kernel_rfl,zMA⟩,⟨⟨_,by kernel_rfl,zMz⟩,trivial⟩⟩⟩)) zAu fun _ _ h=>h
theorem zAv (x:Tys zlF.head.ks):stepL zv4 zlF zji x=zc4 x:=by kernel_rfl
theorem zuy:zad zji=[]:=by kernel_rfl
theorem zMD:zay Tryz.prog FX (zaZ zlF ztc) zji:=zam mix zah zi7 (by kernel_rfl) (zac zuy (trivial)) zAv fun _ _ h=>h
theorem zDf:zad zmX=[zji,zfa]:=by kernel_rfl
theorem zMc:zav Tryz.prog FX 130 zz8:=zai (E:=zv4) (code:=zmX) mix zah zi7 Tryz.func130 (by kernel_rfl) zJV (by kernel_rfl) (fun y=>(y.1,y.2.1)) zz8.out (fun _=>rfl) zz8.run (fun x=>by kernel_rfl) (by kernel_rfl) (zac zDf (⟨⟨_,by kernel_rfl,zMD⟩,⟨⟨_,by kernel_rfl,zMC⟩,trivial⟩⟩))
def zJU:Sig:=⟨[(false,[.d (.sl .int)]),(false,[.d (.sl .int)])],[],false,[(false,[.own 0])],[(0,.arr false .int)]⟩
def zz7:Con:=⟨zJU,List Int,fun x=>zdX x.1 x.2.1,fun r=>(r,())⟩
def zmW:Code:=Tryz.f122.body.getD .skip
def zje:Code:=(zad zmW).getD 0 .skip
def zjd:Code:=(zad zmW).getD 1 .skip
def zlA:LoopD:=⟨⟨zaf [(0,false,[.d (.sl .int)]),(1,false,[.d (.sl .int)])] 49 0,[]⟩,[],[(.exit 0,⟨zaf [(0,false,[.d (.sl .int)]),(1,false,[.d (.sl .int)])] 49 0,[]⟩,[])]⟩
def zlz:LoopD:=⟨⟨zaf [(7,false,[.d (.int .i64)]),(8,false,[.d (.int .i64)])] 49 0,[]⟩,[],[(.exit 2,⟨zaf [(7,false,[.d (.int .i64)])] 49 0,[]⟩,[])]⟩
def zs7 (x:Tys zlA.head.ks):Option (zcA zlA.outs):=@whileO ((List Int) × (List Int) × Unit) ((List Int) × (List Int) × Unit) zbL x
def zs6 (x:Tys zlz.head.ks):Option (zcA zlz.outs):=@whileO (Int × Int × Unit) (Int × Unit) zc0 x
def zJs:Env:=⟨zbN,[(130,zz8),(93,zom)],[(1,zaZ zlA zs7),(7,zaZ zlz zs6)],[(6,[(0,[]),(1,[]),(2,[]),(3,[]),(4,[]),(5,[]),(6,[2,0,1]),(7,[5,6,0,1,2,3,4])]),(8,[(0,[]),(1,[]),(2,[]),(3,[]),(4,[0,1]),(5,[3,4,0,1,2])])]⟩
theorem zp2:zaj Tryz.prog FX zJs.cons:=zaa zMc (zab Tryz.func130 (by kernel_rfl)) rfl (zaa zuk (zab Tryz.func93 (by kernel_rfl)) rfl (zae))
theorem zAp (x:Tys zlz.head.ks):stepL zJs zlz zjd x=zc0 x:=by kernel_rfl
theorem zus:zad zjd=[]:=by kernel_rfl
theorem zMx:zay Tryz.prog FX (zaZ zlz zs6) zjd:=zam mix zah zp2 (by kernel_rfl) (zac zus (trivial)) zAp fun _ _ h=>h
theorem zAq (x:Tys zlA.head.ks):stepL zJs zlA zje x=zbL x:=by kernel_rfl
theorem zut:zad zje=[]:=by kernel_rfl
theorem zMy:zay Tryz.prog FX (zaZ zlA zs7) zje:=zam mix zah zp2 (by kernel_rfl) (zac zut (trivial)) zAq fun _ _ h=>h
theorem zDe:zad zmW=[zje,zjd]:=by kernel_rfl
theorem zMb:zav Tryz.prog FX 122 zz7:=zai (E:=zJs) (code:=zmW) mix zah zp2 Tryz.func122 (by kernel_rfl) zJU (by kernel_rfl) (fun y=>y.1) zz7.out (fun _=>rfl) zz7.run (fun x=>by kernel_rfl) (by kernel_rfl) (zac zDe (⟨⟨_,by kernel_rfl,zMy⟩,⟨⟨_,by kernel_rfl,zMx⟩,trivial⟩⟩))
def zJT:Sig:=⟨[(false,[.d (.sl .int)])],[],false,[(false,[.d (.bool)])],[]⟩
def zz6:Con:=⟨zJT,Bool,fun x=>zfu x.1,fun r=>(r,())⟩
def zxL:Code:=Tryz.f121.body.getD .skip
def zP3:Env:=⟨zbN,[],[],[]⟩
theorem zH3:zaj Tryz.prog FX zP3.cons:=zae
theorem zDd:zad zxL=[]:=by kernel_rfl
theorem zMa:zav Tryz.prog FX 121 zz6:=zai (E:=zP3) (code:=zxL) mix zah zH3 Tryz.func121 (by kernel_rfl) zJT (by kernel_rfl) (fun y=>y.1) zz6.out (fun _=>rfl) zz6.run (fun x=>by kernel_rfl) (by kernel_rfl) (zac zDd (trivial))
def zJS:Sig:=⟨[(true,[.d (.bool),.d (.sl .int),.d (.sl .int)])],[],false,[(false,[.d (.bool)])],[]⟩
def zIN:Con:=⟨zJS,Bool,fun x=>zgA (⟨x.1,x.2.1,x.2.2.1⟩:Rt),fun r=>(r,())⟩
def zxK:Code:=Tryz.f78.body.getD .skip
def zP2:Env:=⟨zbN,[(119,zFE),(120,zFF),(122,zz7),(121,zz6)],[],[]⟩
theorem zH2:zaj Tryz.prog FX zP2.cons:=zaa zOO (zab Tryz.func119 (by kernel_rfl)) rfl (zaa zOP (zab Tryz.func120 (by kernel_rfl)) rfl (zaa zMb (zab Tryz.func122 (by kernel_rfl)) rfl (zaa zMa (zab Tryz.func121 (by kernel_rfl)) rfl (zae))))
theorem zDc:zad zxK=[]:=by kernel_rfl
theorem zRa:zav Tryz.prog FX 78 zIN:=zai (E:=zP2) (code:=zxK) mix zah zH2 Tryz.func78 (by kernel_rfl) zJS (by kernel_rfl) (fun y=>y.1) zIN.out (fun _=>rfl) zIN.run (fun x=>by kernel_rfl) (by kernel_rfl) (zac zDc (trivial))
def zJR:Sig:=⟨[(true,[.d (.int .i64),.d (.int .i64),.d (.sl .rat)])],[],false,[(false,[.d (.bool)])],[]⟩
def zIM:Con:=⟨zJR,Bool,fun x=>zeW (⟨x.1,x.2.1,x.2.2.1⟩:Mx),fun r=>(r,())⟩
def zqa:Code:=Tryz.f38.body.getD .skip
def zjc:Code:=(zad zqa).getD 0 .skip
def zly:LoopD:=⟨⟨zaf [(27,false,[.d (.sl .rat)]),(28,false,[.d (.int .i64)]),(29,false,[.d (.int .i64)])] 37 0,[]⟩,[],[(.ret,⟨zaf [(2,false,[.d (.bool)])] 37 0,[]⟩,[]),(.exit 0,⟨zaf [] 37 0,[]⟩,[])]⟩
def zs5 (x:Tys zly.head.ks):Option (zcA zly.outs):=@whileO ((List Rt) × Int × Int × Unit) ((Bool × Unit) ⊕ (Unit)) zbE x
def zNN:Env:=⟨zbN,[(77,zIP),(78,zIN)],[(4,zaZ zly zs5)],[]⟩
theorem zw4:zaj Tryz.prog FX zNN.cons:=zaa zRc (zab Tryz.func77 (by kernel_rfl)) rfl (zaa zRa (zab Tryz.func78 (by kernel_rfl)) rfl (zae))
theorem zAo (x:Tys zly.head.ks):stepL zNN zly zjc x=zbE x:=by kernel_rfl
theorem zur:zad zjc=[]:=by kernel_rfl
theorem zMw:zay Tryz.prog FX (zaZ zly zs5) zjc:=zam mix zah zw4 (by kernel_rfl) (zac zur (trivial)) zAo fun _ _ h=>h
theorem zDb:zad zqa=[zjc]:=by kernel_rfl
theorem zQ9:zav Tryz.prog FX 38 zIM:=zai (E:=zNN) (code:=zqa) mix zah zw4 Tryz.func38 (by kernel_rfl) zJR (by kernel_rfl) (fun y=>y.1) zIM.out (fun _=>rfl) zIM.run (fun x=>by kernel_rfl) (by kernel_rfl) (zac zDb (⟨⟨_,by kernel_rfl,zMw⟩,trivial⟩))
def zJQ:Sig:=⟨[(false,[.d (.bool)]),(false,[.own 64])],[(64,.arr false .int)],false,[(true,[.d (.bool),.own 0])],[(0,.arr false .int)]⟩
def zqG:Con:=⟨zJQ,Bg,fun x=>zaQ x.1 x.2.1,fun r=>(r.neg,r.mag,())⟩
def zxJ:Code:=Tryz.f131.body.getD .skip
def zP1:Env:=⟨zbN,[],[],[]⟩
theorem zH1:zaj Tryz.prog FX zP1.cons:=zae
theorem zDa:zad zxJ=[]:=by kernel_rfl
theorem zzh:zav Tryz.prog FX 131 zqG:=zai (E:=zP1) (code:=zxJ) mix zah zH1 Tryz.func131 (by kernel_rfl) zJQ (by kernel_rfl) (fun y=>(⟨y.1,y.2.1⟩:Bg)) zqG.out (fun _=>rfl) zqG.run (fun x=>by kernel_rfl) (by kernel_rfl) (zac zDa (trivial))
def zJP:Sig:=⟨[(false,[.d (.sl .int)]),(false,[.d (.sl .int)])],[],false,[(false,[.own 0])],[(0,.arr false .int)]⟩
def zFB:Con:=⟨zJP,List Int,fun x=>zeU x.1 x.2.1,fun r=>(r,())⟩
def zp9:Code:=Tryz.f143.body.getD .skip
def zjb:Code:=(zad zp9).getD 0 .skip
def zlx:LoopD:=⟨⟨zaf [(0,false,[.d (.sl .int)]),(1,false,[.d (.sl .int)]),(5,false,[.own 3648]),(6,false,[.d (.int .i64)]),(21,false,[.d (.int .i64)]),(22,false,[.d (.int .i64)])] 56 0,[(3648,.arr false .int)]⟩,[],[(.exit 0,⟨zaf [(5,false,[.own 3648]),(6,false,[.d (.int .i64)])] 56 0,[(3648,.arr false .int)]⟩,[])]⟩
def zs4 (x:Tys zlx.head.ks):Option (zcA zlx.outs):=@whileO ((List Int) × (List Int) × Int × Int × Int × (List Int) × Unit) (Int × (List Int) × Unit) zbM x
def zNM:Env:=⟨zbN,[],[(6,zaZ zlx zs4)],[]⟩
theorem zw3:zaj Tryz.prog FX zNM.cons:=zae
theorem zAn (x:Tys zlx.head.ks):stepL zNM zlx zjb x=zbM x:=by kernel_rfl
theorem zuq:zad zjb=[]:=by kernel_rfl
theorem zMv:zay Tryz.prog FX (zaZ zlx zs4) zjb:=zam mix zah zw3 (by kernel_rfl) (zac zuq (trivial)) zAn fun _ _ h=>h
theorem zC9:zad zp9=[zjb]:=by kernel_rfl
theorem zOL:zav Tryz.prog FX 143 zFB:=zai (E:=zNM) (code:=zp9) mix zah zw3 Tryz.func143 (by kernel_rfl) zJP (by kernel_rfl) (fun y=>y.1) zFB.out (fun _=>rfl) zFB.run (fun x=>by kernel_rfl) (by kernel_rfl) (zac zC9 (⟨⟨_,by kernel_rfl,zMv⟩,trivial⟩))
def zJO:Sig:=⟨[(false,[.d (.int .i64)])],[],false,[(true,[.d (.bool),.own 0])],[(0,.arr false .int)]⟩
def zIL:Con:=⟨zJO,Bg,fun x=>zdN x.1,fun r=>(r.neg,r.mag,())⟩
def zxI:Code:=Tryz.f148.body.getD .skip
def zP0:Env:=⟨zbN,[(155,zFC),(131,zqG),(143,zFB)],[],[]⟩
theorem zH0:zaj Tryz.prog FX zP0.cons:=zaa zOM (zab Tryz.func155 (by kernel_rfl)) rfl (zaa zzh (zab Tryz.func131 (by kernel_rfl)) rfl (zaa zOL (zab Tryz.func143 (by kernel_rfl)) rfl (zae)))
theorem zC8:zad zxI=[]:=by kernel_rfl
theorem zQ8:zav Tryz.prog FX 148 zIL:=zai (E:=zP0) (code:=zxI) mix zah zH0 Tryz.func148 (by kernel_rfl) zJO (by kernel_rfl) (fun y=>(⟨y.1,y.2.1⟩:Bg)) zIL.out (fun _=>rfl) zIL.run (fun x=>by kernel_rfl) (by kernel_rfl) (zac zC8 (trivial))
def zJN:Sig:=⟨[(false,[.d (.bool)]),(false,[.d (.sl .int)])],[],false,[(true,[.d (.bool),.d (.sl .int)])],[]⟩
def zIK:Con:=⟨zJN,Bg,fun x=>zfP x.1 x.2.1,fun r=>(r.neg,r.mag,())⟩
def zxH:Code:=Tryz.f131.body.getD .skip
def zPZ:Env:=⟨zbN,[],[],[]⟩
theorem zHZ:zaj Tryz.prog FX zPZ.cons:=zae
theorem zC7:zad zxH=[]:=by kernel_rfl
theorem zQ7:zav Tryz.prog FX 131 zIK:=zai (E:=zPZ) (code:=zxH) mix zah zHZ Tryz.func131 (by kernel_rfl) zJN (by kernel_rfl) (fun y=>(⟨y.1,y.2.1⟩:Bg)) zIK.out (fun _=>rfl) zIK.run (fun x=>by kernel_rfl) (by kernel_rfl) (zac zC7 (trivial))
def zJM:Sig:=⟨[(true,[.d (.bool),.d (.sl .int)]),(false,[.d (.sl .int)])],[],false,[(true,[.d (.bool),.d (.sl .int),.d (.sl .int)])],[]⟩
def zIJ:Con:=⟨zJM,Rt,fun x=>zfQ (⟨x.1,x.2.1⟩:Bg) x.2.2.1,fun r=>(r.neg,r.mag,r.den,())⟩
def zxG:Code:=Tryz.f95.body.getD .skip
def zPY:Env:=⟨zbN,[(122,zz7),(121,zz6),(130,zz8),(131,zqG)],[],[]⟩
theorem zHY:zaj Tryz.prog FX zPY.cons:=zaa zMb (zab Tryz.func122 (by kernel_rfl)) rfl (zaa zMa (zab Tryz.func121 (by kernel_rfl)) rfl (zaa zMc (zab Tryz.func130 (by kernel_rfl)) rfl (zaa zzh (zab Tryz.func131 (by kernel_rfl)) rfl (zae))))
theorem zC6:zad zxG=[]:=by kernel_rfl
theorem zQ6:zav Tryz.prog FX 95 zIJ:=zai (E:=zPY) (code:=zxG) mix zah zHY Tryz.func95 (by kernel_rfl) zJM (by kernel_rfl) (fun y=>(⟨y.1,y.2.1,y.2.2.1⟩:Rt)) zIJ.out (fun _=>rfl) zIJ.run (fun x=>by kernel_rfl) (by kernel_rfl) (zac zC6 (trivial))
def zJL:Sig:=⟨[(true,[.d (.bool),.d (.sl .int),.d (.sl .int)])],[],false,[(true,[.d (.bool),.own 0,.own 1])],[(0,.arr false .int),(1,.arr false .int)]⟩
def zFA:Con:=⟨zJL,Rt,fun x=>zd9 (⟨x.1,x.2.1,x.2.2.1⟩:Rt),fun r=>(r.neg,r.mag,r.den,())⟩
def zxF:Code:=Tryz.f44.body.getD .skip
def zPX:Env:=⟨zbN,[(93,zom)],[],[(1,[(0,[]),(1,[]),(2,[]),(3,[]),(4,[]),(5,[]),(8,[]),(9,[]),(6,[5,4,3]),(7,[]),(10,[9,6,8,5,4,3]),(11,[]),(12,[11,10,0,1,2,3,4,5,6,7,8,9])])]⟩
theorem zHX:zaj Tryz.prog FX zPX.cons:=zaa zuk (zab Tryz.func93 (by kernel_rfl)) rfl (zae)
theorem zC5:zad zxF=[]:=by kernel_rfl
theorem zOK:zav Tryz.prog FX 44 zFA:=zai (E:=zPX) (code:=zxF) mix zah zHX Tryz.func44 (by kernel_rfl) zJL (by kernel_rfl) (fun y=>(⟨y.1,y.2.1,y.2.2.1⟩:Rt)) zFA.out (fun _=>rfl) zFA.run (fun x=>by kernel_rfl) (by kernel_rfl) (zac zC5 (trivial))
def zJK:Sig:=⟨[(true,[.d (.bool),.d (.sl .int)]),(true,[.d (.bool),.d (.sl .int)])],[],false,[(true,[.d (.bool),.own 0,.own 1])],[(0,.arr false .int),(1,.arr false .int)]⟩
def zII:Con:=⟨zJK,Rt,fun x=>zfm (⟨x.1,x.2.1⟩:Bg) (⟨x.2.2.1,x.2.2.2.1⟩:Bg),fun r=>(r.neg,r.mag,r.den,())⟩
def zxE:Code:=Tryz.f147.body.getD .skip
def zPW:Env:=⟨zbN,[(119,zFE),(131,zIK),(95,zIJ),(44,zFA)],[],[(3,[(0,[]),(1,[]),(2,[]),(3,[]),(4,[]),(5,[]),(6,[]),(8,[]),(9,[]),(7,[4,6,1,3,5,0,2]),(10,[7,9,4,6,8,1,3,5,0,2]),(11,[10,7,9,4,6,8,1,3,5,0,2]),(12,[11,0,1,2,3,4,5,6,7,8,9,10])])]⟩
theorem zHW:zaj Tryz.prog FX zPW.cons:=zaa zOO (zab Tryz.func119 (by kernel_rfl)) rfl (zaa zQ7 (zab Tryz.func131 (by kernel_rfl)) rfl (zaa zQ6 (zab Tryz.func95 (by kernel_rfl)) rfl (zaa zOK (zab Tryz.func44 (by kernel_rfl)) rfl (zae))))
theorem zC4:zad zxE=[]:=by kernel_rfl
theorem zQ5:zav Tryz.prog FX 147 zII:=zai (E:=zPW) (code:=zxE) mix zah zHW Tryz.func147 (by kernel_rfl) zJK (by kernel_rfl) (fun y=>(⟨y.1,y.2.1,y.2.2.1⟩:Rt)) zII.out (fun _=>rfl) zII.run (fun x=>by kernel_rfl) (by kernel_rfl) (zac zC4 (trivial))
def zJJ:Sig:=⟨[(false,[.d (.int .i64)]),(false,[.d (.int .i64)])],[],false,[(true,[.d (.bool),.own 0,.own 1])],[(0,.arr false .int),(1,.arr false .int)]⟩
def zIH:Con:=⟨zJJ,Rt,fun x=>zgB x.1 x.2.1,fun r=>(r.neg,r.mag,r.den,())⟩
def zxD:Code:=Tryz.f135.body.getD .skip
def zPV:Env:=⟨zbN,[(148,zIL),(147,zII)],[],[]⟩
theorem zHV:zaj Tryz.prog FX zPV.cons:=zaa zQ8 (zab Tryz.func148 (by kernel_rfl)) rfl (zaa zQ5 (zab Tryz.func147 (by kernel_rfl)) rfl (zae))
theorem zC3:zad zxD=[]:=by kernel_rfl
theorem zQ4:zav Tryz.prog FX 135 zIH:=zai (E:=zPV) (code:=zxD) mix zah zHV Tryz.func135 (by kernel_rfl) zJJ (by kernel_rfl) (fun y=>(⟨y.1,y.2.1,y.2.2.1⟩:Rt)) zIH.out (fun _=>rfl) zIH.run (fun x=>by kernel_rfl) (by kernel_rfl) (zac zC3 (trivial))
def zJI:Sig:=⟨[(false,[.d (.int .i64)])],[],false,[(true,[.d (.bool),.own 0,.own 1])],[(0,.arr false .int),(1,.arr false .int)]⟩
def zIG:Con:=⟨zJI,Rt,fun x=>zd0 x.1,fun r=>(r.neg,r.mag,r.den,())⟩
def zxC:Code:=Tryz.f111.body.getD .skip
def zPU:Env:=⟨zbN,[(135,zIH)],[],[]⟩
theorem zHU:zaj Tryz.prog FX zPU.cons:=zaa zQ4 (zab Tryz.func135 (by kernel_rfl)) rfl (zae)
theorem zC2:zad zxC=[]:=by kernel_rfl
theorem zQ3:zav Tryz.prog FX 111 zIG:=zai (E:=zPU) (code:=zxC) mix zah zHU Tryz.func111 (by kernel_rfl) zJI (by kernel_rfl) (fun y=>(⟨y.1,y.2.1,y.2.2.1⟩:Rt)) zIG.out (fun _=>rfl) zIG.run (fun x=>by kernel_rfl) (by kernel_rfl) (zac zC2 (trivial))
def zJH:Sig:=⟨[(false,[.d (.int .i64)])],[],false,[(true,[.d (.bool),.own 0,.own 1])],[(0,.arr false .int),(1,.arr false .int)]⟩
def zFz:Con:=⟨zJH,Rt,fun x=>zbs x.1,fun r=>(r.neg,r.mag,r.den,())⟩
def zxB:Code:=Tryz.f68.body.getD .skip
def zPT:Env:=⟨zbN,[(111,zIG)],[],[]⟩
theorem zHT:zaj Tryz.prog FX zPT.cons:=zaa zQ3 (zab Tryz.func111 (by kernel_rfl)) rfl (zae)
theorem zC1:zad zxB=[]:=by kernel_rfl
theorem zOJ:zav Tryz.prog FX 68 zFz:=zai (E:=zPT) (code:=zxB) mix zah zHT Tryz.func68 (by kernel_rfl) zJH (by kernel_rfl) (fun y=>(⟨y.1,y.2.1,y.2.2.1⟩:Rt)) zFz.out (fun _=>rfl) zFz.run (fun x=>by kernel_rfl) (by kernel_rfl) (zac zC1 (trivial))
def zJG:Sig:=⟨[(false,[.d (.int .i64)]),(false,[.d (.int .i64)])],[],false,[(true,[.d (.bool),.own 0,.own 1])],[(0,.arr false .int),(1,.arr false .int)]⟩
def zIF:Con:=⟨zJG,Rt,fun x=>zkh x.1 x.2.1,fun r=>(r.neg,r.mag,r.den,())⟩
def zxA:Code:=Tryz.f92.body.getD .skip
def zPS:Env:=⟨zbN,[(68,zFz)],[],[]⟩
theorem zHS:zaj Tryz.prog FX zPS.cons:=zaa zOJ (zab Tryz.func68 (by kernel_rfl)) rfl (zae)
theorem zC0:zad zxA=[]:=by kernel_rfl
theorem zQ2:zav Tryz.prog FX 92 zIF:=zai (E:=zPS) (code:=zxA) mix zah zHS Tryz.func92 (by kernel_rfl) zJG (by kernel_rfl) (fun y=>(⟨y.1,y.2.1,y.2.2.1⟩:Rt)) zIF.out (fun _=>rfl) zIF.run (fun x=>by kernel_rfl) (by kernel_rfl) (zac zC0 (trivial))
def zJF:Sig:=⟨[(false,[.d (.int .i64)]),(false,[.d (.int .i64)]),(false,[.fn 92 []])],[],false,[(true,[.d (.int .i64),.d (.int .i64),.own 0])],[(0,.arr false .rat)]⟩
def zIE:Con:=⟨zJF,Mx,fun x=>zcu x.1 x.2.1,fun r=>(r.rows,r.cols,r.cells,())⟩
def zp8:Code:=Tryz.f91.body.getD .skip
def zg1:Code:=(zad zp8).getD 0 .skip
def zja:Code:=(zad zg1).getD 0 .skip
def zlw:LoopD:=⟨⟨zaf [(1,false,[.d (.int .i64)]),(2,false,[.fn 92 []]),(6,false,[.lp 384 0]),(7,false,[.lp 448 0]),(13,false,[.d (.int .i64)]),(14,false,[.d (.int .i64)])] 33 0,[(384,.box [.d (.int .i64),.d (.int .i64),.d (.sl .rat)]),(448,.box [.d (.int .i64),.d (.int .i64),.own 2176]),(2176,.arr false .rat)]⟩,[(.box 448 2,2176,.rat)],[(.exit 0,⟨zaf [(6,false,[.lp 384 0]),(7,false,[.lp 448 0])] 33 0,[(384,.box [.d (.int .i64),.d (.int .i64),.d (.sl .rat)]),(448,.box [.d (.int .i64),.d (.int .i64),.own 2176]),(2176,.arr false .rat)]⟩,[(.box 448 2,2176,.rat)])]⟩
def zlv:LoopD:=⟨⟨zaf [(1,false,[.d (.int .i64)]),(2,false,[.fn 92 []]),(6,false,[.lp 384 0]),(7,false,[.lp 448 0]),(8,false,[.d (.int .i64)]),(13,false,[.d (.int .i64)]),(14,false,[.d (.int .i64)]),(17,false,[.d (.int .i64)]),(18,false,[.d (.int .i64)])] 33 0,[(384,.box [.d (.int .i64),.d (.int .i64),.d (.sl .rat)]),(448,.box [.d (.int .i64),.d (.int .i64),.own 2176]),(2176,.arr false .rat)]⟩,[(.box 448 2,2176,.rat)],[(.exit 2,⟨zaf [(1,false,[.d (.int .i64)]),(2,false,[.fn 92 []]),(6,false,[.lp 384 0]),(7,false,[.lp 448 0]),(13,false,[.d (.int .i64)]),(14,false,[.d (.int .i64)])] 33 0,[(384,.box [.d (.int .i64),.d (.int .i64),.d (.sl .rat)]),(448,.box [.d (.int .i64),.d (.int .i64),.own 2176]),(2176,.arr false .rat)]⟩,[(.box 448 2,2176,.rat)])]⟩
def zs3 (x:Tys zlw.head.ks):Option (zcA zlw.outs):=@whileO (Int × Int × Int × Int × Int × (List Rt) × Int × Int × (List Rt) × Unit) (Int × Int × (List Rt) × Int × Int × (List Rt) × Unit) zb4 x
def zsZ (x:Tys zlv.head.ks):Option (zcA zlv.outs):=@whileO (Int × Int × Int × Int × Int × Int × Int × Int × (List Rt) × Int × Int × (List Rt) × Unit) (Int × Int × Int × Int × Int × (List Rt) × Int × Int × (List Rt) × Unit) zb3 x
def zJr:Env:=⟨lay,[(92,zIF)],[(3,zaZ zlw zs3),(6,zaZ zlv zsZ)],[(8,[(0,[]),(1,[]),(2,[]),(3,[]),(4,[]),(5,[2,3,4]),(6,[5,2,3,4]),(7,[1,6,5,0,2,3,4]),(8,[]),(9,[8,7,0,1,2,3,4,5,6])])]⟩
theorem zp1:zaj Tryz.prog FX zJr.cons:=zaa zQ2 (zab Tryz.func92 (by kernel_rfl)) rfl (zae)
theorem zAl (x:Tys zlv.head.ks):stepL zJr zlv zja x=zb3 x:=by kernel_rfl
theorem zuo:zad zja=[]:=by kernel_rfl
theorem zMt:zay Tryz.prog FX (zaZ zlv zsZ) zja:=zam mix zcP zp1 (by kernel_rfl) (zac zuo (trivial)) zAl fun _ _ h=>h
theorem zAm (x:Tys zlw.head.ks):stepL zJr zlw zg1 x=zb4 x:=by kernel_rfl
theorem zup:zad zg1=[zja]:=by kernel_rfl
theorem zMu:zay Tryz.prog FX (zaZ zlw zs3) zg1:=zam mix zcP zp1 (by kernel_rfl) (zac zup (⟨⟨_,by kernel_rfl,zMt⟩,trivial⟩)) zAm fun _ _ h=>h
theorem zCZ:zad zp8=[zg1]:=by kernel_rfl
theorem zQ1:zav Tryz.prog FX 91 zIE:=zai (E:=zJr) (code:=zp8) mix zcP zp1 Tryz.func91 (by kernel_rfl) zJF (by kernel_rfl) (fun y=>(⟨y.1,y.2.1,y.2.2.1⟩:Mx)) zIE.out (fun _=>rfl) zIE.run (fun x=>by kernel_rfl) (by kernel_rfl) (zac zCZ (⟨⟨_,by kernel_rfl,zMu⟩,trivial⟩))
def zJE:Sig:=⟨[(false,[.d (.int .i64)])],[],false,[(true,[.d (.int .i64),.d (.int .i64),.own 0])],[(0,.arr false .rat)]⟩
def zID:Con:=⟨zJE,Mx,fun x=>zhZ x.1,fun r=>(r.rows,r.cols,r.cells,())⟩
def zxz:Code:=Tryz.f43.body.getD .skip
def zPR:Env:=⟨lay,[(91,zIE)],[],[]⟩
theorem zHR:zaj Tryz.prog FX zPR.cons:=zaa zQ1 (zab Tryz.func91 (by kernel_rfl)) rfl (zae)
theorem zCY:zad zxz=[]:=by kernel_rfl
theorem zQ0:zav Tryz.prog FX 43 zID:=zai (E:=zPR) (code:=zxz) mix zcP zHR Tryz.func43 (by kernel_rfl) zJE (by kernel_rfl) (fun y=>(⟨y.1,y.2.1,y.2.2.1⟩:Mx)) zID.out (fun _=>rfl) zID.run (fun x=>by kernel_rfl) (by kernel_rfl) (zac zCY (trivial))
def zJD:Sig:=⟨[(true,[.d (.int .i64),.d (.int .i64),.d (.sl .rat)]),(false,[.d (.int .i64)]),(false,[.d (.int .i64)])],[],false,[(true,[.d (.bool),.d (.sl .int),.d (.sl .int)])],[]⟩
def zIC:Con:=⟨zJD,Rt,fun x=>zdm (⟨x.1,x.2.1,x.2.2.1⟩:Mx) x.2.2.2.1 x.2.2.2.2.1,fun r=>(r.neg,r.mag,r.den,())⟩
def zxy:Code:=Tryz.f45.body.getD .skip
def zPQ:Env:=⟨zbN,[],[],[]⟩
theorem zHQ:zaj Tryz.prog FX zPQ.cons:=zae
theorem zCX:zad zxy=[]:=by kernel_rfl
theorem zQZ:zav Tryz.prog FX 45 zIC:=zai (E:=zPQ) (code:=zxy) mix zah zHQ Tryz.func45 (by kernel_rfl) zJD (by kernel_rfl) (fun y=>(⟨y.1,y.2.1,y.2.2.1⟩:Rt)) zIC.out (fun _=>rfl) zIC.run (fun x=>by kernel_rfl) (by kernel_rfl) (zac zCX (trivial))
def zJC:Sig:=⟨[(false,[.d (.int .i64)]),(false,[.d (.int .i64)]),(false,[.sp [.int .i64,.int .i64,.sl .rat]]),(false,[.sp [.int .i64,.int .i64,.sl .rat]])],[],false,[(true,[.d (.bool),.d (.sl .int),.d (.sl .int)])],[]⟩
def zIB:Con:=⟨zJC,Rt,fun x=>zed x.1 x.2.1 (⟨x.2.2.1,x.2.2.2.1,x.2.2.2.2.1⟩:Mx) (⟨x.2.2.2.2.2.1,x.2.2.2.2.2.2.1,x.2.2.2.2.2.2.2.1⟩:Mx),fun r=>(r.neg,r.mag,r.den,())⟩
def zxx:Code:=Tryz.f104.body.getD .skip
def zPP:Env:=⟨zbN,[(45,zIC)],[],[]⟩
theorem zHP:zaj Tryz.prog FX zPP.cons:=zaa zQZ (zab Tryz.func45 (by kernel_rfl)) rfl (zae)
theorem zCW:zad zxx=[]:=by kernel_rfl
theorem zQY:zav Tryz.prog FX 104 zIB:=zai (E:=zPP) (code:=zxx) mix zah zHP Tryz.func104 (by kernel_rfl) zJC (by kernel_rfl) (fun y=>(⟨y.1,y.2.1,y.2.2.1⟩:Rt)) zIB.out (fun _=>rfl) zIB.run (fun x=>by kernel_rfl) (by kernel_rfl) (zac zCW (trivial))
def zJB:Sig:=⟨[(false,[.d (.int .i64)]),(false,[.d (.int .i64)]),(false,[.fn 104 [[.int .i64,.int .i64,.sl .rat],[.int .i64,.int .i64,.sl .rat]]])],[],false,[(true,[.d (.int .i64),.d (.int .i64),.own 0])],[(0,.arr false .rat)]⟩
def zIA:Con:=⟨zJB,Mx,fun x=>zb5 x.1 x.2.1 (⟨x.2.2.1,x.2.2.2.1,x.2.2.2.2.1⟩:Mx) (⟨x.2.2.2.2.2.1,x.2.2.2.2.2.2.1,x.2.2.2.2.2.2.2.1⟩:Mx),fun r=>(r.rows,r.cols,r.cells,())⟩
def zp7:Code:=Tryz.f91.body.getD .skip
def zg0:Code:=(zad zp7).getD 0 .skip
def zi9:Code:=(zad zg0).getD 0 .skip
def zlu:LoopD:=⟨⟨zaf [(1,false,[.d (.int .i64)]),(2,false,[.fn 104 [[.int .i64,.int .i64,.sl .rat],[.int .i64,.int .i64,.sl .rat]]]),(6,false,[.lp 384 0]),(7,false,[.lp 448 0]),(13,false,[.d (.int .i64)]),(14,false,[.d (.int .i64)])] 33 0,[(384,.box [.d (.int .i64),.d (.int .i64),.d (.sl .rat)]),(448,.box [.d (.int .i64),.d (.int .i64),.own 2176]),(2176,.arr false .rat)]⟩,[(.box 448 2,2176,.rat)],[(.exit 0,⟨zaf [(6,false,[.lp 384 0]),(7,false,[.lp 448 0])] 33 0,[(384,.box [.d (.int .i64),.d (.int .i64),.d (.sl .rat)]),(448,.box [.d (.int .i64),.d (.int .i64),.own 2176]),(2176,.arr false .rat)]⟩,[(.box 448 2,2176,.rat)])]⟩
def zlt:LoopD:=⟨⟨zaf [(1,false,[.d (.int .i64)]),(2,false,[.fn 104 [[.int .i64,.int .i64,.sl .rat],[.int .i64,.int .i64,.sl .rat]]]),(6,false,[.lp 384 0]),(7,false,[.lp 448 0]),(8,false,[.d (.int .i64)]),(13,false,[.d (.int .i64)]),(14,false,[.d (.int .i64)]),(17,false,[.d (.int .i64)]),(18,false,[.d (.int .i64)])] 33 0,[(384,.box [.d (.int .i64),.d (.int .i64),.d (.sl .rat)]),(448,.box [.d (.int .i64),.d (.int .i64),.own 2176]),(2176,.arr false .rat)]⟩,[(.box 448 2,2176,.rat)],[(.exit 2,⟨zaf [(1,false,[.d (.int .i64)]),(2,false,[.fn 104 [[.int .i64,.int .i64,.sl .rat],[.int .i64,.int .i64,.sl .rat]]]),(6,false,[.lp 384 0]),(7,false,[.lp 448 0]),(13,false,[.d (.int .i64)]),(14,false,[.d (.int .i64)])] 33 0,[(384,.box [.d (.int .i64),.d (.int .i64),.d (.sl .rat)]),(448,.box [.d (.int .i64),.d (.int .i64),.own 2176]),(2176,.arr false .rat)]⟩,[(.box 448 2,2176,.rat)])]⟩
def zsY (x:Tys zlu.head.ks):Option (zcA zlu.outs):=@whileO (Int × Int × Int × (List Rt) × Int × Int × (List Rt) × Int × Int × Int × Int × (List Rt) × Int × Int × (List Rt) × Unit) (Int × Int × (List Rt) × Int × Int × (List Rt) × Unit) zaJ x
def zsX (x:Tys zlt.head.ks):Option (zcA zlt.outs):=@whileO (Int × Int × Int × (List Rt) × Int × Int × (List Rt) × Int × Int × Int × Int × Int × Int × Int × (List Rt) × Int × Int × (List Rt) × Unit) (Int × Int × Int × (List Rt) × Int × Int × (List Rt) × Int × Int × Int × Int × (List Rt) × Int × Int × (List Rt) × Unit) zaI x
def zJq:Env:=⟨lay,[(104,zIB)],[(3,zaZ zlu zsY),(6,zaZ zlt zsX)],[(8,[(0,[]),(1,[]),(2,[]),(3,[]),(4,[]),(5,[2,3,4]),(6,[5,2,3,4]),(7,[1,6,5,0,2,3,4]),(8,[]),(9,[8,7,0,1,2,3,4,5,6])])]⟩
theorem zp0:zaj Tryz.prog FX zJq.cons:=zaa zQY (zab Tryz.func104 (by kernel_rfl)) rfl (zae)
theorem zAj (x:Tys zlt.head.ks):stepL zJq zlt zi9 x=zaI x:=by kernel_rfl
theorem zum:zad zi9=[]:=by kernel_rfl
theorem zMr:zay Tryz.prog FX (zaZ zlt zsX) zi9:=zam mix zcP zp0 (by kernel_rfl) (zac zum (trivial)) zAj fun _ _ h=>h
theorem zAk (x:Tys zlu.head.ks):stepL zJq zlu zg0 x=zaJ x:=by kernel_rfl
theorem zun:zad zg0=[zi9]:=by kernel_rfl
theorem zMs:zay Tryz.prog FX (zaZ zlu zsY) zg0:=zam mix zcP zp0 (by kernel_rfl) (zac zun (⟨⟨_,by kernel_rfl,zMr⟩,trivial⟩)) zAk fun _ _ h=>h
theorem zCV:zad zp7=[zg0]:=by kernel_rfl
theorem zQX:zav Tryz.prog FX 91 zIA:=zai (E:=zJq) (code:=zp7) mix zcP zp0 Tryz.func91 (by kernel_rfl) zJB (by kernel_rfl) (fun y=>(⟨y.1,y.2.1,y.2.2.1⟩:Mx)) zIA.out (fun _=>rfl) zIA.run (fun x=>by kernel_rfl) (by kernel_rfl) (zac zCV (⟨⟨_,by kernel_rfl,zMs⟩,trivial⟩))
def zJA:Sig:=⟨[(true,[.d (.int .i64),.d (.int .i64),.d (.sl .rat)]),(true,[.d (.int .i64),.d (.int .i64),.d (.sl .rat)])],[],false,[(true,[.d (.int .i64),.d (.int .i64),.own 0])],[(0,.arr false .rat)]⟩
def zIz:Con:=⟨zJA,Mx,fun x=>zfR (⟨x.1,x.2.1,x.2.2.1⟩:Mx) (⟨x.2.2.2.1,x.2.2.2.2.1,x.2.2.2.2.2.1⟩:Mx),fun r=>(r.rows,r.cols,r.cells,())⟩
def zxw:Code:=Tryz.f58.body.getD .skip
def zPO:Env:=⟨zbN,[(91,zIA)],[],[]⟩
theorem zHO:zaj Tryz.prog FX zPO.cons:=zaa zQX (zab Tryz.func91 (by kernel_rfl)) rfl (zae)
theorem zCU:zad zxw=[]:=by kernel_rfl
theorem zQW:zav Tryz.prog FX 58 zIz:=zai (E:=zPO) (code:=zxw) mix zah zHO Tryz.func58 (by kernel_rfl) zJA (by kernel_rfl) (fun y=>(⟨y.1,y.2.1,y.2.2.1⟩:Mx)) zIz.out (fun _=>rfl) zIz.run (fun x=>by kernel_rfl) (by kernel_rfl) (zac zCU (trivial))
def zJz:Sig:=⟨[(false,[.d (.sl .rat)])],[],false,[(false,[.dp 0])],[(0,.deep .rat)]⟩
def zIy:Con:=⟨zJz,List Rt,fun x=>zcg x.1,fun r=>(r,())⟩
def zp6:Code:=Tryz.f79.body.getD .skip
def zi8:Code:=(zad zp6).getD 0 .skip
def zls:LoopD:=⟨⟨zaf [(3,false,[.dp 1280]),(6,false,[.d (.sl .rat)]),(7,false,[.d (.int .i64)]),(8,false,[.d (.int .i64)])] 19 0,[(1280,.deep .rat)]⟩,[(.slotD 3 0,1280,.rat)],[(.exit 0,⟨zaf [(3,false,[.dp 1280])] 19 0,[(1280,.deep .rat)]⟩,[(.slotD 3 0,1280,.rat)])]⟩
def zsW (x:Tys zls.head.ks):Option (zcA zls.outs):=@whileO ((List Rt) × Int × Int × (List Rt) × Unit) ((List Rt) × Unit) zbD x
def zNL:Env:=⟨zbN,[(44,zFA)],[(3,zaZ zls zsW)],[]⟩
theorem zw2:zaj Tryz.prog FX zNL.cons:=zaa zOK (zab Tryz.func44 (by kernel_rfl)) rfl (zae)
theorem zAi (x:Tys zls.head.ks):stepL zNL zls zi8 x=zbD x:=by kernel_rfl
theorem zul:zad zi8=[]:=by kernel_rfl
theorem zMq:zay Tryz.prog FX (zaZ zls zsW) zi8:=zam mix zah zw2 (by kernel_rfl) (zac zul (trivial)) zAi fun _ _ h=>h
theorem zCT:zad zp6=[zi8]:=by kernel_rfl
theorem zQV:zav Tryz.prog FX 79 zIy:=zai (E:=zNL) (code:=zp6) mix zah zw2 Tryz.func79 (by kernel_rfl) zJz (by kernel_rfl) (fun y=>y.1) zIy.out (fun _=>rfl) zIy.run (fun x=>by kernel_rfl) (by kernel_rfl) (zac zCT (⟨⟨_,by kernel_rfl,zMq⟩,trivial⟩))
def zJy:Sig:=⟨[(true,[.d (.int .i64),.d (.int .i64),.d (.sl .trat)]),(false,[.d (.int .i64)]),(false,[.d (.int .i64)])],[],false,[(true,[.d (.bool),.d (.tok),.d (.tok)])],[]⟩
def zFy:Con:=⟨zJy,TRt,fun x=>za6 (⟨x.1,x.2.1,x.2.2.1⟩:MxT) x.2.2.2.1 x.2.2.2.2.1,fun r=>(r.neg,r.mag,r.den,())⟩
def zxv:Code:=Tryz.f45.body.getD .skip
def zPN:Env:=⟨zMm,[],[],[]⟩
theorem zHN:zaj Tryz.prog FX zPN.cons:=zae
theorem zCS:zad zxv=[]:=by kernel_rfl
theorem zOI:zav Tryz.prog FX 45 zFy:=zai (E:=zPN) (code:=zxv) mix zeq zHN Tryz.func45 (by kernel_rfl) zJy (by kernel_rfl) (fun y=>(⟨y.1,y.2.1,y.2.2.1⟩:TRt)) zFy.out (fun _=>rfl) zFy.run (fun x=>by kernel_rfl) (by kernel_rfl) (zac zCS (trivial))
def zJx:Sig:=⟨[(true,[.d (.bool),.d (.sl .int),.d (.sl .int)])],[],false,[(false,[.d (.bool)])],[]⟩
def zIx:Con:=⟨zJx,Bool,fun x=>zdY (⟨x.1,x.2.1,x.2.2.1⟩:Rt),fun r=>(r,())⟩
def zxu:Code:=Tryz.f80.body.getD .skip
def zPM:Env:=⟨zbN,[],[],[]⟩
theorem zHM:zaj Tryz.prog FX zPM.cons:=zae
theorem zCR:zad zxu=[]:=by kernel_rfl
theorem zQU:zav Tryz.prog FX 80 zIx:=zai (E:=zPM) (code:=zxu) mix zah zHM Tryz.func80 (by kernel_rfl) zJx (by kernel_rfl) (fun y=>y.1) zIx.out (fun _=>rfl) zIx.run (fun x=>by kernel_rfl) (by kernel_rfl) (zac zCR (trivial))
def zB6:Sig:=⟨[(true,[.d (.int .i64),.d (.int .i64),.own 191]),(false,[.d (.int .i64)])],[(191,.arr false .trat)],false,[(false,[.win 191])],[(191,.arr false .trat)]⟩
def zyD:Con:=⟨zB6,(Nat × Nat) × List TRt,fun x=>zaL (⟨x.1,x.2.1,x.2.2.2.1⟩:MxT) x.2.2.1,fun r=>(r.1.1,r.1.2,r.2,())⟩
def zsB:Code:=Tryz.f81.body.getD .skip
def zLC:Env:=⟨zMm,[],[],[]⟩
theorem zFk:zaj Tryz.prog FX zLC.cons:=zae
theorem zzR:zad zsB=[]:=by kernel_rfl
theorem zPo:zav Tryz.prog FX 81 zyD:=zai (E:=zLC) (code:=zsB) mix zeq zFk Tryz.func81 (by kernel_rfl) zB6 (by kernel_rfl) (fun y=>((y.1,y.2.1),y.2.2.1)) zyD.out (fun _=>rfl) zyD.run (fun x=>by kernel_rfl) (by kernel_rfl) (zac zzR (trivial))
def zB5:Sig:=⟨[(true,[.d (.bool),.d (.sl .int),.d (.sl .int)])],[],false,[(false,[.d (.bool)])],[]⟩
def zmt:Con:=⟨zB5,Bool,fun x=>zbF (⟨x.1,x.2.1,x.2.2.1⟩:Rt),fun r=>(r,())⟩
def zsA:Code:=Tryz.f48.body.getD .skip
def zLB:Env:=⟨zbN,[],[],[]⟩
theorem zFj:zaj Tryz.prog FX zLB.cons:=zae
theorem zzQ:zad zsA=[]:=by kernel_rfl
theorem zrh:zav Tryz.prog FX 48 zmt:=zai (E:=zLB) (code:=zsA) mix zah zFj Tryz.func48 (by kernel_rfl) zB5 (by kernel_rfl) (fun y=>y.1) zmt.out (fun _=>rfl) zmt.run (fun x=>by kernel_rfl) (by kernel_rfl) (zac zzQ (trivial))
def zB4:Sig:=⟨[(true,[.d (.bool),.d (.sl .int)]),(true,[.d (.bool),.d (.sl .int)])],[],false,[(true,[.d (.bool),.own 0])],[(0,.arr false .int)]⟩
def zsM:Con:=⟨zB4,Bg,fun x=>zbH (⟨x.1,x.2.1⟩:Bg) (⟨x.2.2.1,x.2.2.2.1⟩:Bg),fun r=>(r.neg,r.mag,())⟩
def zsz:Code:=Tryz.f96.body.getD .skip
def zLA:Env:=⟨zbN,[(97,zvB),(131,zqG)],[],[(1,[(0,[]),(1,[]),(2,[]),(3,[]),(4,[]),(5,[]),(6,[]),(7,[]),(8,[]),(9,[6,8,5,7]),(10,[4,9,1,3,6,8,0,2,5,7]),(11,[10,0,1,2,3,4,5,6,7,8,9])])]⟩
theorem zFi:zaj Tryz.prog FX zLA.cons:=zaa zGT (zab Tryz.func97 (by kernel_rfl)) rfl (zaa zzh (zab Tryz.func131 (by kernel_rfl)) rfl (zae))
theorem zzP:zad zsz=[]:=by kernel_rfl
theorem zK6:zav Tryz.prog FX 96 zsM:=zai (E:=zLA) (code:=zsz) mix zah zFi Tryz.func96 (by kernel_rfl) zB4 (by kernel_rfl) (fun y=>(⟨y.1,y.2.1⟩:Bg)) zsM.out (fun _=>rfl) zsM.run (fun x=>by kernel_rfl) (by kernel_rfl) (zac zzP (trivial))
def zB3:Sig:=⟨[(true,[.d (.bool),.own 1]),(false,[.own 64])],[(1,.arr false .int),(64,.arr false .int)],false,[(true,[.d (.bool),.own 0,.own 1])],[(0,.arr false .int),(1,.arr false .int)]⟩
def zsL:Con:=⟨zB3,Rt,fun x=>zbX (⟨x.1,x.2.1⟩:Bg) x.2.2.1,fun r=>(r.neg,r.mag,r.den,())⟩
def zsy:Code:=Tryz.f95.body.getD .skip
def zLz:Env:=⟨zbN,[(122,zz7),(121,zz6),(130,zz8),(131,zqG)],[],[]⟩
theorem zFh:zaj Tryz.prog FX zLz.cons:=zaa zMb (zab Tryz.func122 (by kernel_rfl)) rfl (zaa zMa (zab Tryz.func121 (by kernel_rfl)) rfl (zaa zMc (zab Tryz.func130 (by kernel_rfl)) rfl (zaa zzh (zab Tryz.func131 (by kernel_rfl)) rfl (zae))))
theorem zzO:zad zsy=[]:=by kernel_rfl
theorem zK5:zav Tryz.prog FX 95 zsL:=zai (E:=zLz) (code:=zsy) mix zah zFh Tryz.func95 (by kernel_rfl) zB3 (by kernel_rfl) (fun y=>(⟨y.1,y.2.1,y.2.2.1⟩:Rt)) zsL.out (fun _=>rfl) zsL.run (fun x=>by kernel_rfl) (by kernel_rfl) (zac zzO (trivial))
def zB2:Sig:=⟨[(true,[.d (.bool),.d (.sl .int),.d (.sl .int)]),(true,[.d (.bool),.d (.sl .int),.d (.sl .int)])],[],false,[(true,[.d (.bool),.own 0,.own 1])],[(0,.arr false .int),(1,.arr false .int)]⟩
def zsK:Con:=⟨zB2,Rt,fun x=>zen (⟨x.1,x.2.1,x.2.2.1⟩:Rt) (⟨x.2.2.2.1,x.2.2.2.2.1,x.2.2.2.2.2.1⟩:Rt),fun r=>(r.neg,r.mag,r.den,())⟩
def zsx:Code:=Tryz.f47.body.getD .skip
def zLy:Env:=⟨zbN,[(48,zmt),(96,zsM),(97,zvB),(95,zsL)],[],[(3,[(0,[]),(1,[]),(2,[]),(3,[]),(5,[]),(6,[]),(7,[]),(8,[]),(4,[1,3,0,2]),(9,[6,8,4,5,7,1,3,0,2]),(10,[4,9,1,3,6,8,0,2,5,7]),(11,[10,0,1,2,3,4,5,6,7,8,9])])]⟩
theorem zFg:zaj Tryz.prog FX zLy.cons:=zaa zrh (zab Tryz.func48 (by kernel_rfl)) rfl (zaa zK6 (zab Tryz.func96 (by kernel_rfl)) rfl (zaa zGT (zab Tryz.func97 (by kernel_rfl)) rfl (zaa zK5 (zab Tryz.func95 (by kernel_rfl)) rfl (zae))))
theorem zzN:zad zsx=[]:=by kernel_rfl
theorem zK4:zav Tryz.prog FX 47 zsK:=zai (E:=zLy) (code:=zsx) mix zah zFg Tryz.func47 (by kernel_rfl) zB2 (by kernel_rfl) (fun y=>(⟨y.1,y.2.1,y.2.2.1⟩:Rt)) zsK.out (fun _=>rfl) zsK.run (fun x=>by kernel_rfl) (by kernel_rfl) (zac zzN (trivial))
def zB1:Sig:=⟨[(true,[.d (.bool),.d (.sl .int),.d (.sl .int)]),(true,[.d (.bool),.d (.sl .int),.d (.sl .int)])],[],false,[(true,[.d (.bool),.own 0,.own 1])],[(0,.arr false .int),(1,.arr false .int)]⟩
def zyC:Con:=⟨zB1,Rt,fun x=>zf0 (⟨x.1,x.2.1,x.2.2.1⟩:Rt) (⟨x.2.2.2.1,x.2.2.2.2.1,x.2.2.2.2.2.1⟩:Rt),fun r=>(r.neg,r.mag,r.den,())⟩
def zsw:Code:=Tryz.f50.body.getD .skip
def zLx:Env:=⟨zbN,[(48,zmt),(47,zsK)],[],[]⟩
theorem zFf:zaj Tryz.prog FX zLx.cons:=zaa zrh (zab Tryz.func48 (by kernel_rfl)) rfl (zaa zK4 (zab Tryz.func47 (by kernel_rfl)) rfl (zae))
theorem zzM:zad zsw=[]:=by kernel_rfl
theorem zPn:zav Tryz.prog FX 50 zyC:=zai (E:=zLx) (code:=zsw) mix zah zFf Tryz.func50 (by kernel_rfl) zB1 (by kernel_rfl) (fun y=>(⟨y.1,y.2.1,y.2.2.1⟩:Rt)) zyC.out (fun _=>rfl) zyC.run (fun x=>by kernel_rfl) (by kernel_rfl) (zac zzM (trivial))
def zB0:Sig:=⟨[(false,[.d (.sl .rat)])],[],false,[(false,[.d (.bool)])],[]⟩
def zyB:Con:=⟨zB0,Bool,fun x=>zbc x.1,fun r=>(r,())⟩
def zn5:Code:=Tryz.f82.body.getD .skip
def zhU:Code:=(zad zn5).getD 0 .skip
def zj8:LoopD:=⟨⟨zaf [(5,false,[.d (.sl .rat)]),(6,false,[.d (.int .i64)]),(7,false,[.d (.int .i64)])] 14 0,[]⟩,[],[(.ret,⟨zaf [(2,false,[.d (.bool)])] 14 0,[]⟩,[]),(.exit 0,⟨zaf [] 14 0,[]⟩,[])]⟩
def zph (x:Tys zj8.head.ks):Option (zcA zj8.outs):=@whileO ((List Rt) × Int × Int × Unit) ((Bool × Unit) ⊕ (Unit)) zcf x
def zGg:Env:=⟨zbN,[(48,zmt)],[(2,zaZ zj8 zph)],[]⟩
theorem zsh:zaj Tryz.prog FX zGg.cons:=zaa zrh (zab Tryz.func48 (by kernel_rfl)) rfl (zae)
theorem zv2 (x:Tys zj8.head.ks):stepL zGg zj8 zhU x=zcf x:=by kernel_rfl
theorem zrB:zad zhU=[]:=by kernel_rfl
theorem zHs:zay Tryz.prog FX (zaZ zj8 zph) zhU:=zam mix zah zsh (by kernel_rfl) (zac zrB (trivial)) zv2 fun _ _ h=>h
theorem zzL:zad zn5=[zhU]:=by kernel_rfl
theorem zPm:zav Tryz.prog FX 82 zyB:=zai (E:=zGg) (code:=zn5) mix zah zsh Tryz.func82 (by kernel_rfl) zB0 (by kernel_rfl) (fun y=>y.1) zyB.out (fun _=>rfl) zyB.run (fun x=>by kernel_rfl) (by kernel_rfl) (zac zzL (⟨⟨_,by kernel_rfl,zHs⟩,trivial⟩))
def zBZ:Sig:=⟨[(true,[.d (.bool),.d (.sl .int)])],[],false,[(true,[.d (.bool),.own 0])],[(0,.arr false .int)]⟩
def zyA:Con:=⟨zBZ,Bg,fun x=>zeV (⟨x.1,x.2.1⟩:Bg),fun r=>(r.neg,r.mag,())⟩
def zsv:Code:=Tryz.f112.body.getD .skip
def zLw:Env:=⟨zbN,[(93,zom),(131,zqG)],[],[(1,[(0,[]),(1,[]),(2,[]),(3,[]),(4,[]),(5,[4,3]),(6,[2,5,1,4,0,3]),(7,[6,0,1,2,3,4,5])])]⟩
theorem zFe:zaj Tryz.prog FX zLw.cons:=zaa zuk (zab Tryz.func93 (by kernel_rfl)) rfl (zaa zzh (zab Tryz.func131 (by kernel_rfl)) rfl (zae))
theorem zzK:zad zsv=[]:=by kernel_rfl
theorem zPl:zav Tryz.prog FX 112 zyA:=zai (E:=zLw) (code:=zsv) mix zah zFe Tryz.func112 (by kernel_rfl) zBZ (by kernel_rfl) (fun y=>(⟨y.1,y.2.1⟩:Bg)) zyA.out (fun _=>rfl) zyA.run (fun x=>by kernel_rfl) (by kernel_rfl) (zac zzK (trivial))
def zBY:Sig:=⟨[(true,[.d (.bool),.d (.sl .int),.d (.sl .int)])],[],false,[(true,[.d (.bool),.own 0,.own 1])],[(0,.arr false .int),(1,.arr false .int)]⟩
def zyz:Con:=⟨zBY,Rt,fun x=>zjP (⟨x.1,x.2.1,x.2.2.1⟩:Rt),fun r=>(r.neg,r.mag,r.den,())⟩
def zsu:Code:=Tryz.f69.body.getD .skip
def zLv:Env:=⟨zbN,[(48,zmt),(112,zyA),(93,zom)],[],[(3,[(0,[]),(1,[]),(3,[]),(4,[]),(2,[1,0]),(5,[4,2,3,1,0]),(6,[]),(7,[6,5,0,1,2,3,4])])]⟩
theorem zFd:zaj Tryz.prog FX zLv.cons:=zaa zrh (zab Tryz.func48 (by kernel_rfl)) rfl (zaa zPl (zab Tryz.func112 (by kernel_rfl)) rfl (zaa zuk (zab Tryz.func93 (by kernel_rfl)) rfl (zae)))
theorem zzJ:zad zsu=[]:=by kernel_rfl
theorem zPk:zav Tryz.prog FX 69 zyz:=zai (E:=zLv) (code:=zsu) mix zah zFd Tryz.func69 (by kernel_rfl) zBY (by kernel_rfl) (fun y=>(⟨y.1,y.2.1,y.2.2.1⟩:Rt)) zyz.out (fun _=>rfl) zyz.run (fun x=>by kernel_rfl) (by kernel_rfl) (zac zzJ (trivial))
def zBX:Sig:=⟨[(false,[.d (.sl .int)]),(false,[.d (.sl .int)])],[],false,[(false,[.d (.bool)])],[]⟩
def zyy:Con:=⟨zBX,Bool,fun x=>zeQ x.1 x.2.1,fun r=>(r,())⟩
def zn4:Code:=Tryz.f128.body.getD .skip
def zhT:Code:=(zad zn4).getD 0 .skip
def zj7:LoopD:=⟨⟨zaf [(0,false,[.d (.sl .int)]),(1,false,[.d (.sl .int)]),(12,false,[.d (.int .i64)]),(13,false,[.d (.int .i64)])] 26 0,[]⟩,[],[(.ret,⟨zaf [(4,false,[.d (.bool)])] 26 0,[]⟩,[]),(.exit 0,⟨zaf [] 26 0,[]⟩,[])]⟩
def zpg (x:Tys zj7.head.ks):Option (zcA zj7.outs):=@whileO ((List Int) × (List Int) × Int × Int × Unit) ((Bool × Unit) ⊕ (Unit)) zce x
def zGf:Env:=⟨zbN,[],[(4,zaZ zj7 zpg)],[(6,[(0,[]),(1,[]),(2,[]),(3,[]),(4,[]),(5,[]),(6,[]),(7,[]),(8,[])])]⟩
theorem zsg:zaj Tryz.prog FX zGf.cons:=zae
theorem zv1 (x:Tys zj7.head.ks):stepL zGf zj7 zhT x=zce x:=by kernel_rfl
theorem zrA:zad zhT=[]:=by kernel_rfl
theorem zHr:zay Tryz.prog FX (zaZ zj7 zpg) zhT:=zam mix zah zsg (by kernel_rfl) (zac zrA (trivial)) zv1 fun _ _ h=>h
theorem zzI:zad zn4=[zhT]:=by kernel_rfl
theorem zPi:zav Tryz.prog FX 128 zyy:=zai (E:=zGf) (code:=zn4) mix zah zsg Tryz.func128 (by kernel_rfl) zBX (by kernel_rfl) (fun y=>y.1) zyy.out (fun _=>rfl) zyy.run (fun x=>by kernel_rfl) (by kernel_rfl) (zac zzI (⟨⟨_,by kernel_rfl,zHr⟩,trivial⟩))
def zBW:Sig:=⟨[(false,[.d (.sl .int)]),(false,[.d (.sl .int)])],[],false,[(false,[.own 0])],[(0,.arr false .int)]⟩
def zyx:Con:=⟨zBW,List Int,fun x=>zeS x.1 x.2.1,fun r=>(r,())⟩
def zn3:Code:=Tryz.f145.body.getD .skip
def zhS:Code:=(zad zn3).getD 0 .skip
def zj6:LoopD:=⟨⟨zaf [(1,false,[.d (.sl .int)]),(5,false,[.own 2816]),(6,false,[.d (.int .i64)]),(12,false,[.d (.int .i64)]),(13,false,[.d (.int .i64)])] 43 0,[(2816,.arr false .int)]⟩,[],[(.exit 0,⟨zaf [(5,false,[.own 2816])] 43 0,[(2816,.arr false .int)]⟩,[])]⟩
def zpf (x:Tys zj6.head.ks):Option (zcA zj6.outs):=@whileO ((List Int) × Int × Int × Int × (List Int) × Unit) ((List Int) × Unit) zbK x
def zGe:Env:=⟨zbN,[(93,zom),(132,zvC)],[(4,zaZ zj6 zpf)],[]⟩
theorem zsf:zaj Tryz.prog FX zGe.cons:=zaa zuk (zab Tryz.func93 (by kernel_rfl)) rfl (zaa zGU (zab Tryz.func132 (by kernel_rfl)) rfl (zae))
theorem zv0 (x:Tys zj6.head.ks):stepL zGe zj6 zhS x=zbK x:=by kernel_rfl
theorem zrz:zad zhS=[]:=by kernel_rfl
theorem zHq:zay Tryz.prog FX (zaZ zj6 zpf) zhS:=zam mix zah zsf (by kernel_rfl) (zac zrz (trivial)) zv0 fun _ _ h=>h
theorem zzH:zad zn3=[zhS]:=by kernel_rfl
theorem zPh:zav Tryz.prog FX 145 zyx:=zai (E:=zGe) (code:=zn3) mix zah zsf Tryz.func145 (by kernel_rfl) zBW (by kernel_rfl) (fun y=>y.1) zyx.out (fun _=>rfl) zyx.run (fun x=>by kernel_rfl) (by kernel_rfl) (zac zzH (⟨⟨_,by kernel_rfl,zHq⟩,trivial⟩))
def zBV:Sig:=⟨[(true,[.d (.bool),.d (.sl .int)]),(true,[.d (.bool),.d (.sl .int)])],[],false,[(true,[.d (.bool),.own 0])],[(0,.arr false .int)]⟩
def zyw:Con:=⟨zBV,Bg,fun x=>zdZ (⟨x.1,x.2.1⟩:Bg) (⟨x.2.2.1,x.2.2.2.1⟩:Bg),fun r=>(r.neg,r.mag,())⟩
def zst:Code:=Tryz.f129.body.getD .skip
def zLu:Env:=⟨zbN,[(143,zFB),(131,zqG),(144,zFD),(145,zyx)],[],[(2,[(0,[]),(1,[]),(2,[]),(3,[]),(4,[]),(5,[]),(6,[3,5,2,4]),(7,[1,6,0,3,5,2,4]),(8,[7,0,1,2,3,4,5,6])]),(4,[(0,[]),(1,[]),(2,[]),(3,[]),(4,[]),(5,[]),(6,[3,5,2,4]),(7,[1,6,0,3,5,2,4]),(8,[7,0,1,2,3,4,5,6])]),(5,[(0,[]),(1,[]),(2,[]),(3,[]),(4,[]),(5,[]),(6,[3,5,2,4]),(7,[1,6,0,3,5,2,4]),(8,[7,0,1,2,3,4,5,6])])]⟩
theorem zFc:zaj Tryz.prog FX zLu.cons:=zaa zOL (zab Tryz.func143 (by kernel_rfl)) rfl (zaa zzh (zab Tryz.func131 (by kernel_rfl)) rfl (zaa zON (zab Tryz.func144 (by kernel_rfl)) rfl (zaa zPh (zab Tryz.func145 (by kernel_rfl)) rfl (zae))))
theorem zzG:zad zst=[]:=by kernel_rfl
theorem zPg:zav Tryz.prog FX 129 zyw:=zai (E:=zLu) (code:=zst) mix zah zFc Tryz.func129 (by kernel_rfl) zBV (by kernel_rfl) (fun y=>(⟨y.1,y.2.1⟩:Bg)) zyw.out (fun _=>rfl) zyw.run (fun x=>by kernel_rfl) (by kernel_rfl) (zac zzG (trivial))
def zBU:Sig:=⟨[(true,[.d (.bool),.d (.sl .int),.d (.sl .int)]),(true,[.d (.bool),.d (.sl .int),.d (.sl .int)])],[],false,[(true,[.d (.bool),.own 0,.own 1])],[(0,.arr false .int),(1,.arr false .int)]⟩
def zyv:Con:=⟨zBU,Rt,fun x=>zjQ (⟨x.1,x.2.1,x.2.2.1⟩:Rt) (⟨x.2.2.2.1,x.2.2.2.2.1,x.2.2.2.2.2.1⟩:Rt),fun r=>(r.neg,r.mag,r.den,())⟩
def zss:Code:=Tryz.f94.body.getD .skip
def zLt:Env:=⟨zbN,[(48,zmt),(128,zyy),(129,zyw),(93,zom),(95,zsL),(96,zsM),(97,zvB)],[],[(4,[(0,[]),(1,[]),(2,[]),(3,[]),(5,[]),(6,[]),(4,[1,3,0,2]),(7,[6,4,5,1,3,0,2]),(8,[4,7,1,3,6,0,2,5]),(9,[8,0,1,2,3,4,5,6,7])]),(7,[(0,[]),(1,[]),(3,[]),(4,[]),(5,[]),(6,[]),(2,[0,1]),(7,[4,6,2,3,5,0,1]),(8,[2,7,0,1,4,6,3,5]),(9,[8,0,1,2,3,4,5,6,7])])]⟩
theorem zFb:zaj Tryz.prog FX zLt.cons:=zaa zrh (zab Tryz.func48 (by kernel_rfl)) rfl (zaa zPi (zab Tryz.func128 (by kernel_rfl)) rfl (zaa zPg (zab Tryz.func129 (by kernel_rfl)) rfl (zaa zuk (zab Tryz.func93 (by kernel_rfl)) rfl (zaa zK5 (zab Tryz.func95 (by kernel_rfl)) rfl (zaa zK6 (zab Tryz.func96 (by kernel_rfl)) rfl (zaa zGT (zab Tryz.func97 (by kernel_rfl)) rfl (zae)))))))
theorem zzF:zad zss=[]:=by kernel_rfl
theorem zPf:zav Tryz.prog FX 94 zyv:=zai (E:=zLt) (code:=zss) mix zah zFb Tryz.func94 (by kernel_rfl) zBU (by kernel_rfl) (fun y=>(⟨y.1,y.2.1,y.2.2.1⟩:Rt)) zyv.out (fun _=>rfl) zyv.run (fun x=>by kernel_rfl) (by kernel_rfl) (zac zzF (trivial))
def zBT:Sig:=⟨[(true,[.d (.bool),.d (.sl .int),.d (.sl .int)]),(true,[.d (.bool),.d (.sl .int),.d (.sl .int)])],[],false,[(true,[.d (.bool),.own 0,.own 1])],[(0,.arr false .int),(1,.arr false .int)]⟩
def zyu:Con:=⟨zBT,Rt,fun x=>zha (⟨x.1,x.2.1,x.2.2.1⟩:Rt) (⟨x.2.2.2.1,x.2.2.2.2.1,x.2.2.2.2.2.1⟩:Rt),fun r=>(r.neg,r.mag,r.den,())⟩
def zsr:Code:=Tryz.f46.body.getD .skip
def zLs:Env:=⟨zbN,[(69,zyz),(94,zyv)],[],[(1,[(0,[]),(1,[]),(2,[1]),(3,[0,2,1]),(4,[3,0,1,2])])]⟩
theorem zFa:zaj Tryz.prog FX zLs.cons:=zaa zPk (zab Tryz.func69 (by kernel_rfl)) rfl (zaa zPf (zab Tryz.func94 (by kernel_rfl)) rfl (zae))
theorem zzE:zad zsr=[]:=by kernel_rfl
theorem zPe:zav Tryz.prog FX 46 zyu:=zai (E:=zLs) (code:=zsr) mix zah zFa Tryz.func46 (by kernel_rfl) zBT (by kernel_rfl) (fun y=>(⟨y.1,y.2.1,y.2.2.1⟩:Rt)) zyu.out (fun _=>rfl) zyu.run (fun x=>by kernel_rfl) (by kernel_rfl) (zac zzE (trivial))
def zBS:Sig:=⟨[(true,[.d (.int .i64),.d (.int .i64),.d (.sl .rat)])],[],true,[(true,[.d (.int .i64),.d (.int .i64),.dp 0,.own 1,.bot]),(false,[.d (.bool)])],[(0,.deep .rat),(1,.arr false .int)]⟩
def zyt:Con:=⟨zBS,RdnP × Bool,fun x=>zeR (⟨x.1,x.2.1,x.2.2.1⟩:Mx),fun r=>(r.1.rows,r.1.cols,r.2,r.1.cells,r.1.pivots,())⟩
def zn2:Code:=Tryz.f39.body.getD .skip
def zdC:Code:=(zad zn2).getD 0 .skip
def zhR:Code:=(zad zdC).getD 0 .skip
def zhQ:Code:=(zad zdC).getD 1 .skip
def zhP:Code:=(zad zdC).getD 2 .skip
def zgd:Code:=(zad zdC).getD 3 .skip
def zhO:Code:=(zad zgd).getD 0 .skip
def zj5:LoopD:=⟨⟨zaf [(2,false,[.lp 128 0]),(4,false,[.lp 256 0]),(5,false,[.lp 320 0]),(6,false,[.d (.int .i64)]),(7,false,[.d (.int .i64)])] 183 0,[(128,.box [.d (.int .i64),.d (.int .i64),.own 11968,.own 12032,.own 12096]),(256,.box [.d (.int .i64),.d (.int .i64),.own 11776,.own 11840,.own 11904]),(320,.box [.d (.int .i64),.d (.int .i64),.own 11776]),(11776,.arr false .trat),(11840,.arr false .int),(11904,.arr false .trat),(11968,.arr false .trat),(12032,.arr false .int),(12096,.arr false .trat),(70368744177727,.pool)]⟩,[(.box 128 2,11968,.trat),(.box 128 3,12032,.int),(.box 128 4,12096,.trat),(.box 256 3,11840,.int),(.box 256 4,11904,.trat)],[(.ret,⟨zaf [(2,false,[.lp 128 0]),(3,false,[.d (.bool)])] 183 0,[(128,.box [.d (.int .i64),.d (.int .i64),.own 11968,.own 12032,.own 12096]),(11968,.arr false .trat),(12032,.arr false .int),(12096,.arr false .trat),(70368744177727,.pool)]⟩,[(.box 128 2,11968,.trat),(.box 128 3,12032,.int),(.box 128 4,12096,.trat)]),(.exit 0,⟨zaf [(2,false,[.lp 128 0]),(4,false,[.lp 256 0])] 183 0,[(128,.box [.d (.int .i64),.d (.int .i64),.own 11968,.own 12032,.own 12096]),(256,.box [.d (.int .i64),.d (.int .i64),.own 11776,.own 11840,.own 11904]),(11776,.arr false .trat),(11840,.arr false .int),(11904,.arr false .trat),(11968,.arr false .trat),(12032,.arr false .int),(12096,.arr false .trat),(70368744177727,.pool)]⟩,[(.box 128 2,11968,.trat),(.box 128 3,12032,.int),(.box 128 4,12096,.trat),(.box 256 3,11840,.int),(.box 256 4,11904,.trat)])]⟩
def zj4:LoopD:=⟨⟨zaf [(2,false,[.lp 128 0]),(4,false,[.lp 256 0]),(5,false,[.lp 320 0]),(6,false,[.d (.int .i64)]),(7,false,[.d (.int .i64)]),(8,false,[.d (.int .i64)])] 183 0,[(128,.box [.d (.int .i64),.d (.int .i64),.own 11968,.own 12032,.own 12096]),(256,.box [.d (.int .i64),.d (.int .i64),.own 11776,.own 11840,.own 11904]),(320,.box [.d (.int .i64),.d (.int .i64),.own 11776]),(11776,.arr false .trat),(11840,.arr false .int),(11904,.arr false .trat),(11968,.arr false .trat),(12032,.arr false .int),(12096,.arr false .trat),(70368744177727,.pool)]⟩,[(.box 128 2,11968,.trat),(.box 128 3,12032,.int),(.box 128 4,12096,.trat),(.box 256 3,11840,.int),(.box 256 4,11904,.trat)],[(.exit 2,⟨zaf [(2,false,[.lp 128 0]),(4,false,[.lp 256 0]),(5,false,[.lp 320 0]),(6,false,[.d (.int .i64)]),(7,false,[.d (.int .i64)]),(8,false,[.d (.int .i64)])] 183 0,[(128,.box [.d (.int .i64),.d (.int .i64),.own 11968,.own 12032,.own 12096]),(256,.box [.d (.int .i64),.d (.int .i64),.own 11776,.own 11840,.own 11904]),(320,.box [.d (.int .i64),.d (.int .i64),.own 11776]),(11776,.arr false .trat),(11840,.arr false .int),(11904,.arr false .trat),(11968,.arr false .trat),(12032,.arr false .int),(12096,.arr false .trat),(70368744177727,.pool)]⟩,[(.box 128 2,11968,.trat),(.box 128 3,12032,.int),(.box 128 4,12096,.trat),(.box 256 3,11840,.int),(.box 256 4,11904,.trat)])]⟩
def zj3:LoopD:=⟨⟨zaf [(2,false,[.lp 128 0]),(4,false,[.lp 256 0]),(5,false,[.lp 320 0]),(6,false,[.d (.int .i64)]),(7,false,[.d (.int .i64)]),(9,false,[.win 11776]),(10,false,[.win 11776]),(76,false,[.d (.int .i64)]),(77,false,[.d (.int .i64)])] 183 0,[(128,.box [.d (.int .i64),.d (.int .i64),.own 11968,.own 12032,.own 12096]),(256,.box [.d (.int .i64),.d (.int .i64),.own 11776,.own 11904,.own 11840]),(320,.box [.d (.int .i64),.d (.int .i64),.own 11776]),(11776,.arr false .trat),(11840,.arr false .trat),(11904,.arr false .int),(11968,.arr false .trat),(12032,.arr false .int),(12096,.arr false .trat),(70368744177727,.pool)]⟩,[(.box 128 2,11968,.trat),(.box 128 3,12032,.int),(.box 128 4,12096,.trat),(.box 256 3,11904,.int)],[(.exit 4,⟨zaf [(2,false,[.lp 128 0]),(4,false,[.lp 256 0]),(5,false,[.lp 320 0]),(6,false,[.d (.int .i64)]),(7,false,[.d (.int .i64)])] 183 0,[(128,.box [.d (.int .i64),.d (.int .i64),.own 11968,.own 12032,.own 12096]),(256,.box [.d (.int .i64),.d (.int .i64),.own 11776,.own 11904,.own 11840]),(320,.box [.d (.int .i64),.d (.int .i64),.own 11776]),(11776,.arr false .trat),(11840,.arr false .trat),(11904,.arr false .int),(11968,.arr false .trat),(12032,.arr false .int),(12096,.arr false .trat),(70368744177727,.pool)]⟩,[(.box 128 2,11968,.trat),(.box 128 3,12032,.int),(.box 128 4,12096,.trat),(.box 256 3,11904,.int)])]⟩
def zj2:LoopD:=⟨⟨zaf [(2,false,[.lp 128 0]),(4,false,[.lp 256 0]),(5,false,[.lp 320 0]),(6,false,[.d (.int .i64)]),(7,false,[.d (.int .i64)]),(12,false,[.win 11776]),(13,false,[.lp 832 0]),(109,false,[.d (.int .i64)]),(110,false,[.d (.int .i64)])] 183 0,[(128,.box [.d (.int .i64),.d (.int .i64),.own 11968,.own 12032,.own 12096]),(256,.box [.d (.int .i64),.d (.int .i64),.own 11776,.own 11904,.own 11840]),(320,.box [.d (.int .i64),.d (.int .i64),.own 11776]),(832,.box [.d (.bool),.d (.tok),.d (.tok)]),(11776,.arr false .trat),(11840,.arr false .trat),(11904,.arr false .int),(11968,.arr false .trat),(12032,.arr false .int),(12096,.arr false .trat),(70368744177727,.pool)]⟩,[(.box 128 2,11968,.trat),(.box 128 3,12032,.int),(.box 128 4,12096,.trat),(.box 256 3,11904,.int)],[(.exit 6,⟨zaf [(2,false,[.lp 128 0]),(4,false,[.lp 256 0]),(5,false,[.lp 320 0]),(6,false,[.d (.int .i64)]),(7,false,[.d (.int .i64)]),(12,false,[.win 11776])] 183 0,[(128,.box [.d (.int .i64),.d (.int .i64),.own 11968,.own 12032,.own 12096]),(256,.box [.d (.int .i64),.d (.int .i64),.own 11776,.own 11904,.own 11840]),(320,.box [.d (.int .i64),.d (.int .i64),.own 11776]),(11776,.arr false .trat),(11840,.arr false .trat),(11904,.arr false .int),(11968,.arr false .trat),(12032,.arr false .int),(12096,.arr false .trat),(70368744177727,.pool)]⟩,[(.box 128 2,11968,.trat),(.box 128 3,12032,.int),(.box 128 4,12096,.trat),(.box 256 3,11904,.int)])]⟩
def zj1:LoopD:=⟨⟨zaf [(2,false,[.lp 128 0]),(4,false,[.lp 256 0]),(5,false,[.lp 320 0]),(6,false,[.d (.int .i64)]),(7,false,[.d (.int .i64)]),(12,false,[.win 11776]),(128,false,[.d (.int .i64)]),(129,false,[.d (.int .i64)])] 183 0,[(128,.box [.d (.int .i64),.d (.int .i64),.own 11968,.own 12032,.own 12096]),(256,.box [.d (.int .i64),.d (.int .i64),.own 11776,.own 11904,.own 11840]),(320,.box [.d (.int .i64),.d (.int .i64),.own 11776]),(11776,.arr false .trat),(11840,.arr false .trat),(11904,.arr false .int),(11968,.arr false .trat),(12032,.arr false .int),(12096,.arr false .trat),(70368744177727,.pool)]⟩,[(.box 128 2,11968,.trat),(.box 128 3,12032,.int),(.box 128 4,12096,.trat),(.box 256 3,11904,.int)],[(.ret,⟨zaf [(2,false,[.lp 128 0]),(3,false,[.d (.bool)])] 183 0,[(128,.box [.d (.int .i64),.d (.int .i64),.own 11968,.own 12032,.own 12096]),(11968,.arr false .trat),(12032,.arr false .int),(12096,.arr false .trat),(70368744177727,.pool)]⟩,[(.box 128 2,11968,.trat),(.box 128 3,12032,.int),(.box 128 4,12096,.trat)]),(.exit 8,⟨zaf [(2,false,[.lp 128 0]),(4,false,[.lp 256 0]),(5,false,[.lp 320 0]),(6,false,[.d (.int .i64)]),(7,false,[.d (.int .i64)])] 183 0,[(128,.box [.d (.int .i64),.d (.int .i64),.own 11968,.own 12032,.own 12096]),(256,.box [.d (.int .i64),.d (.int .i64),.own 11776,.own 11904,.own 11840]),(320,.box [.d (.int .i64),.d (.int .i64),.own 11776]),(11776,.arr false .trat),(11840,.arr false .trat),(11904,.arr false .int),(11968,.arr false .trat),(12032,.arr false .int),(12096,.arr false .trat),(70368744177727,.pool)]⟩,[(.box 128 2,11968,.trat),(.box 128 3,12032,.int),(.box 128 4,12096,.trat),(.box 256 3,11904,.int)])]⟩
def zj0:LoopD:=⟨⟨zaf [(2,false,[.lp 128 0]),(4,false,[.lp 256 0]),(5,false,[.lp 320 0]),(6,false,[.d (.int .i64)]),(7,false,[.d (.int .i64)]),(12,false,[.win 11776]),(16,false,[.win 11776]),(17,false,[.lp 1088 0]),(128,false,[.d (.int .i64)]),(129,false,[.d (.int .i64)]),(150,false,[.d (.int .i64)]),(151,false,[.d (.int .i64)])] 183 0,[(128,.box [.d (.int .i64),.d (.int .i64),.own 11968,.own 12032,.own 12096]),(256,.box [.d (.int .i64),.d (.int .i64),.own 11776,.own 11904,.own 11840]),(320,.box [.d (.int .i64),.d (.int .i64),.own 11776]),(1088,.box [.d (.bool),.d (.tok),.d (.tok)]),(11776,.arr false .trat),(11840,.arr false .trat),(11904,.arr false .int),(11968,.arr false .trat),(12032,.arr false .int),(12096,.arr false .trat),(70368744177727,.pool)]⟩,[(.box 128 2,11968,.trat),(.box 128 3,12032,.int),(.box 128 4,12096,.trat),(.box 256 3,11904,.int)],[(.exit 10,⟨zaf [(2,false,[.lp 128 0]),(4,false,[.lp 256 0]),(5,false,[.lp 320 0]),(6,false,[.d (.int .i64)]),(7,false,[.d (.int .i64)]),(12,false,[.win 11776]),(16,false,[.win 11776]),(128,false,[.d (.int .i64)]),(129,false,[.d (.int .i64)])] 183 0,[(128,.box [.d (.int .i64),.d (.int .i64),.own 11968,.own 12032,.own 12096]),(256,.box [.d (.int .i64),.d (.int .i64),.own 11776,.own 11904,.own 11840]),(320,.box [.d (.int .i64),.d (.int .i64),.own 11776]),(11776,.arr false .trat),(11840,.arr false .trat),(11904,.arr false .int),(11968,.arr false .trat),(12032,.arr false .int),(12096,.arr false .trat),(70368744177727,.pool)]⟩,[(.box 128 2,11968,.trat),(.box 128 3,12032,.int),(.box 128 4,12096,.trat),(.box 256 3,11904,.int)])]⟩
def zpe (x:Tys zj5.head.ks):Option (zcA zj5.outs):=@whileO (Int × Int × Int × Int × Int × Int × Int × Int × (List TRt) × (List Int) × (List TRt) × (List TRt) × (List Int) × (List TRt) × Nat × Unit) ((Bool × Int × Int × (List TRt) × (List Int) × (List TRt) × Nat × Unit) ⊕ (Int × Int × Int × Int × (List TRt) × (List Int) × (List TRt) × (List TRt) × (List Int) × (List TRt) × Nat × Unit)) zbC x
def zpd (x:Tys zj4.head.ks):Option (zcA zj4.outs):=@whileO (Int × Int × Int × Int × Int × Int × Int × Int × Int × (List TRt) × (List Int) × (List TRt) × (List TRt) × (List Int) × (List TRt) × Nat × Unit) (Int × Int × Int × Int × Int × Int × Int × Int × Int × (List TRt) × (List Int) × (List TRt) × (List TRt) × (List Int) × (List TRt) × Nat × Unit) zbB x
def zpc (x:Tys zj3.head.ks):Option (zcA zj3.outs):=@whileO (Int × Int × Nat × Nat × Nat × Nat × Int × Int × Int × Int × Int × Int × Int × Int × (List TRt) × (List TRt) × (List Int) × (List TRt) × (List Int) × (List TRt) × Nat × Unit) (Int × Int × Int × Int × Int × Int × Int × Int × (List TRt) × (List TRt) × (List Int) × (List TRt) × (List Int) × (List TRt) × Nat × Unit) zbA x
def zpb (x:Tys zj2.head.ks):Option (zcA zj2.outs):=@whileO (Int × Int × Nat × Nat × Int × Int × Int × Int × Int × Int × Int × Int × Bool × Tk × Tk × (List TRt) × (List TRt) × (List Int) × (List TRt) × (List Int) × (List TRt) × Nat × Unit) (Int × Int × Nat × Nat × Int × Int × Int × Int × Int × Int × (List TRt) × (List TRt) × (List Int) × (List TRt) × (List Int) × (List TRt) × Nat × Unit) zbz x
def zpa (x:Tys zj1.head.ks):Option (zcA zj1.outs):=@whileO (Int × Int × Nat × Nat × Int × Int × Int × Int × Int × Int × Int × Int × (List TRt) × (List TRt) × (List Int) × (List TRt) × (List Int) × (List TRt) × Nat × Unit) ((Bool × Int × Int × (List TRt) × (List Int) × (List TRt) × Nat × Unit) ⊕ (Int × Int × Int × Int × Int × Int × Int × Int × (List TRt) × (List TRt) × (List Int) × (List TRt) × (List Int) × (List TRt) × Nat × Unit)) zby x
def zo9 (x:Tys zj0.head.ks):Option (zcA zj0.outs):=@whileO (Int × Int × Nat × Nat × Nat × Nat × Int × Int × Int × Int × Int × Int × Int × Int × Int × Int × Bool × Tk × Tk × (List TRt) × (List TRt) × (List Int) × (List TRt) × (List Int) × (List TRt) × Nat × Unit) (Int × Int × Nat × Nat × Nat × Nat × Int × Int × Int × Int × Int × Int × Int × Int × (List TRt) × (List TRt) × (List Int) × (List TRt) × (List Int) × (List TRt) × Nat × Unit) zbx x
def zmw:Env:=⟨zMm,[(79,zIy),(45,zFy),(80,zIx),(68,zFz),(81,zyD),(50,zyC),(82,zyB),(47,zsK),(46,zyu)],[(5,zaZ zj5 zpe),(8,zaZ zj4 zpd),(15,zaZ zj3 zpc),(23,zaZ zj2 zpb),(30,zaZ zj1 zpa),(36,zaZ zj0 zo9)],[(1,[(0,[]),(1,[]),(2,[]),(3,[]),(4,[]),(5,[]),(6,[5,4]),(7,[]),(8,[]),(9,[]),(10,[9,8,6,0,1,2,3,4,5,7])]),(12,[(0,[]),(1,[]),(2,[]),(3,[2]),(4,[1,3,2,0]),(5,[]),(6,[5,4,0,1,2,3])]),(13,[(0,[]),(1,[]),(3,[]),(4,[]),(2,[0,1]),(5,[3,4,2,0,1]),(6,[2,5,0,1,3,4]),(7,[5,6,0,1,2,3,4])]),(17,[(0,[]),(1,[]),(2,[]),(3,[]),(4,[]),(5,[]),(6,[]),(7,[]),(8,[]),(9,[]),(10,[]),(11,[]),(12,[]),(13,[12,7,0,1,4,5,6,11,10,8,9]),(14,[]),(15,[14,11,13,0,1,2,3,4,5,6,7,8,9,10,12])]),(25,[(0,[]),(1,[]),(2,[]),(3,[]),(4,[]),(5,[]),(6,[]),(7,[5,6,4,2,3]),(8,[]),(9,[8,7,0,1,2,3,4,5,6])]),(38,[(0,[]),(1,[]),(2,[]),(3,[]),(4,[]),(5,[]),(6,[]),(7,[]),(8,[]),(9,[]),(10,[]),(11,[6,10,9,7,8]),(12,[5,11,4,6,10,2,3,9,7,8]),(13,[]),(14,[13,12,0,1,2,3,4,5,6,7,8,9,10,11])])]⟩
theorem zgb:zaj Tryz.prog FX zmw.cons:=zaa zQV (zab Tryz.func79 (by kernel_rfl)) rfl (zaa zOI (zab Tryz.func45 (by kernel_rfl)) rfl (zaa zQU (zab Tryz.func80 (by kernel_rfl)) rfl (zaa zOJ (zab Tryz.func68 (by kernel_rfl)) rfl (zaa zPo (zab Tryz.func81 (by kernel_rfl)) rfl (zaa zPn (zab Tryz.func50 (by kernel_rfl)) rfl (zaa zPm (zab Tryz.func82 (by kernel_rfl)) rfl (zaa zK4 (zab Tryz.func47 (by kernel_rfl)) rfl (zaa zPe (zab Tryz.func46 (by kernel_rfl)) rfl (zae)))))))))
theorem zvU (x:Tys zj0.head.ks):stepL zmw zj0 zhO x=zbx x:=by kernel_rfl
theorem zrr:zad zhO=[]:=by kernel_rfl
theorem zHk:zay Tryz.prog FX (zaZ zj0 zo9) zhO:=zam mix zeq zgb (by kernel_rfl) (zac zrr (trivial)) zvU fun _ _ h=>h
theorem zvV (x:Tys zj1.head.ks):stepL zmw zj1 zgd x=zby x:=by kernel_rfl
theorem zrt:zad zgd=[zhO]:=by kernel_rfl
theorem zHl:zay Tryz.prog FX (zaZ zj1 zpa) zgd:=zam mix zeq zgb (by kernel_rfl) (zac zrt (⟨⟨_,by kernel_rfl,zHk⟩,trivial⟩)) zvV fun _ _ h=>h
theorem zvW (x:Tys zj2.head.ks):stepL zmw zj2 zhP x=zbz x:=by kernel_rfl
theorem zru:zad zhP=[]:=by kernel_rfl
theorem zHm:zay Tryz.prog FX (zaZ zj2 zpb) zhP:=zam mix zeq zgb (by kernel_rfl) (zac zru (trivial)) zvW fun _ _ h=>h
theorem zvX (x:Tys zj3.head.ks):stepL zmw zj3 zhQ x=zbA x:=by kernel_rfl
theorem zrv:zad zhQ=[]:=by kernel_rfl
theorem zHn:zay Tryz.prog FX (zaZ zj3 zpc) zhQ:=zam mix zeq zgb (by kernel_rfl) (zac zrv (trivial)) zvX fun _ _ h=>h
theorem zvY (x:Tys zj4.head.ks):stepL zmw zj4 zhR x=zbB x:=by kernel_rfl
theorem zrx:zad zhR=[]:=by kernel_rfl
theorem zHo:zay Tryz.prog FX (zaZ zj4 zpd) zhR:=zam mix zeq zgb (by kernel_rfl) (zac zrx (trivial)) zvY fun _ _ h=>h
theorem zvZ (x:Tys zj5.head.ks):stepL zmw zj5 zdC x=zbC x:=by kernel_rfl
theorem zry:zad zdC=[zhR,zhQ,zhP,zgd]:=by kernel_rfl
theorem zHp:zay Tryz.prog FX (zaZ zj5 zpe) zdC:=zam mix zeq zgb (by kernel_rfl) (zac zry (⟨⟨_,by kernel_rfl,zHo⟩,⟨⟨_,by kernel_rfl,zHn⟩,⟨⟨_,by kernel_rfl,zHm⟩,⟨⟨_,by kernel_rfl,zHl⟩,trivial⟩⟩⟩⟩)) zvZ fun _ _ h=>h
theorem zzD:zad zn2=[zdC]:=by kernel_rfl
theorem zPd:zav Tryz.prog FX 39 zyt:=zrd (E:=zmw) (code:=zn2) mix zeq zgb Tryz.func39 (by kernel_rfl) zBS (by kernel_rfl) (by kernel_rfl) (fun y=>((⟨y.1,y.2.1,y.2.2.2.1,y.2.2.2.2.1⟩:RdnP),y.2.2.1)) zyt.out (fun _=>rfl) zyt.run (fun x=>by kernel_rfl) (by kernel_rfl) (zac zzD (⟨⟨_,by kernel_rfl,zHp⟩,trivial⟩))
def zBR:Sig:=⟨[(false,[.d (.sl .int)]),(false,[.d (.int .i64)])],[],false,[(false,[.d (.bool)])],[]⟩
def zys:Con:=⟨zBR,Bool,fun x=>zfl x.1 x.2.1,fun r=>(r,())⟩
def zn1:Code:=Tryz.f106.body.getD .skip
def zhN:Code:=(zad zn1).getD 0 .skip
def zjZ:LoopD:=⟨⟨zaf [(0,false,[.d (.sl .int)]),(6,false,[.d (.int .i64)]),(7,false,[.d (.int .i64)])] 23 0,[]⟩,[],[(.ret,⟨zaf [(4,false,[.d (.bool)])] 23 0,[]⟩,[]),(.exit 0,⟨zaf [] 23 0,[]⟩,[])]⟩
def zo8 (x:Tys zjZ.head.ks):Option (zcA zjZ.outs):=@whileO ((List Int) × Int × Int × Unit) ((Bool × Unit) ⊕ (Unit)) zbW x
def zGd:Env:=⟨zbN,[],[(2,zaZ zjZ zo8)],[]⟩
theorem zse:zaj Tryz.prog FX zGd.cons:=zae
theorem zvT (x:Tys zjZ.head.ks):stepL zGd zjZ zhN x=zbW x:=by kernel_rfl
theorem zrq:zad zhN=[]:=by kernel_rfl
theorem zHj:zay Tryz.prog FX (zaZ zjZ zo8) zhN:=zam mix zah zse (by kernel_rfl) (zac zrq (trivial)) zvT fun _ _ h=>h
theorem zzC:zad zn1=[zhN]:=by kernel_rfl
theorem zPc:zav Tryz.prog FX 106 zys:=zai (E:=zGd) (code:=zn1) mix zah zse Tryz.func106 (by kernel_rfl) zBR (by kernel_rfl) (fun y=>y.1) zys.out (fun _=>rfl) zys.run (fun x=>by kernel_rfl) (by kernel_rfl) (zac zzC (⟨⟨_,by kernel_rfl,zHj⟩,trivial⟩))
def zBQ:Sig:=⟨[(false,[.d (.int .i64)]),(false,[.d (.int .i64)]),(false,[.sp [.int .i64,.int .i64,.sl .trat,.sl .int,.any]]),(false,[.sp [.int .i64,.int .i64,.sl .rat]])],[],false,[(true,[.d (.bool),.d (.tok),.d (.tok)])],[]⟩
def zyr:Con:=⟨zBQ,TRt,fun x=>zcO x.1 x.2.1 (⟨x.2.2.1,x.2.2.2.1,x.2.2.2.2.1,x.2.2.2.2.2.1,x.2.2.2.2.2.2.1⟩:RdnT) (⟨x.2.2.2.2.2.2.2.1,x.2.2.2.2.2.2.2.2.1,x.2.2.2.2.2.2.2.2.2.1⟩:Mx),fun r=>(r.neg,r.mag,r.den,())⟩
def zsq:Code:=Tryz.f107.body.getD .skip
def zLr:Env:=⟨zMm,[(45,zFy)],[],[]⟩
theorem zE9:zaj Tryz.prog FX zLr.cons:=zaa zOI (zab Tryz.func45 (by kernel_rfl)) rfl (zae)
theorem zzB:zad zsq=[]:=by kernel_rfl
theorem zPb:zav Tryz.prog FX 107 zyr:=zai (E:=zLr) (code:=zsq) mix zeq zE9 Tryz.func107 (by kernel_rfl) zBQ (by kernel_rfl) (fun y=>(⟨y.1,y.2.1,y.2.2.1⟩:TRt)) zyr.out (fun _=>rfl) zyr.run (fun x=>by kernel_rfl) (by kernel_rfl) (zac zzB (trivial))
def zBP:Sig:=⟨[(false,[.d (.int .i64)]),(false,[.d (.int .i64)]),(false,[.fn 107 [[.int .i64,.int .i64,.sl .trat,.sl .int,.any],[.int .i64,.int .i64,.sl .rat]]])],[],false,[(true,[.d (.int .i64),.d (.int .i64),.own 0])],[(0,.arr false .trat)]⟩
def zyq:Con:=⟨zBP,MxT,fun x=>za0 x.1 x.2.1 (⟨x.2.2.1,x.2.2.2.1,x.2.2.2.2.1,x.2.2.2.2.2.1,x.2.2.2.2.2.2.1⟩:RdnT) (⟨x.2.2.2.2.2.2.2.1,x.2.2.2.2.2.2.2.2.1,x.2.2.2.2.2.2.2.2.2.1⟩:Mx),fun r=>(r.rows,r.cols,r.cells,())⟩
def zn0:Code:=Tryz.f91.body.getD .skip
def zgc:Code:=(zad zn0).getD 0 .skip
def zhM:Code:=(zad zgc).getD 0 .skip
def zjY:LoopD:=⟨⟨zaf [(1,false,[.d (.int .i64)]),(2,false,[.fn 107 [[.int .i64,.int .i64,.sl .trat,.sl .int,.any],[.int .i64,.int .i64,.sl .rat]]]),(6,false,[.lp 384 0]),(7,false,[.lp 448 0]),(13,false,[.d (.int .i64)]),(14,false,[.d (.int .i64)])] 33 0,[(384,.box [.d (.int .i64),.d (.int .i64),.d (.sl .trat)]),(448,.box [.d (.int .i64),.d (.int .i64),.own 2176]),(2176,.arr false .trat)]⟩,[(.box 448 2,2176,.trat)],[(.exit 0,⟨zaf [(6,false,[.lp 384 0]),(7,false,[.lp 448 0])] 33 0,[(384,.box [.d (.int .i64),.d (.int .i64),.d (.sl .trat)]),(448,.box [.d (.int .i64),.d (.int .i64),.own 2176]),(2176,.arr false .trat)]⟩,[(.box 448 2,2176,.trat)])]⟩
def zjX:LoopD:=⟨⟨zaf [(1,false,[.d (.int .i64)]),(2,false,[.fn 107 [[.int .i64,.int .i64,.sl .trat,.sl .int,.any],[.int .i64,.int .i64,.sl .rat]]]),(6,false,[.lp 384 0]),(7,false,[.lp 448 0]),(8,false,[.d (.int .i64)]),(13,false,[.d (.int .i64)]),(14,false,[.d (.int .i64)]),(17,false,[.d (.int .i64)]),(18,false,[.d (.int .i64)])] 33 0,[(384,.box [.d (.int .i64),.d (.int .i64),.d (.sl .trat)]),(448,.box [.d (.int .i64),.d (.int .i64),.own 2176]),(2176,.arr false .trat)]⟩,[(.box 448 2,2176,.trat)],[(.exit 2,⟨zaf [(1,false,[.d (.int .i64)]),(2,false,[.fn 107 [[.int .i64,.int .i64,.sl .trat,.sl .int,.any],[.int .i64,.int .i64,.sl .rat]]]),(6,false,[.lp 384 0]),(7,false,[.lp 448 0]),(13,false,[.d (.int .i64)]),(14,false,[.d (.int .i64)])] 33 0,[(384,.box [.d (.int .i64),.d (.int .i64),.d (.sl .trat)]),(448,.box [.d (.int .i64),.d (.int .i64),.own 2176]),(2176,.arr false .trat)]⟩,[(.box 448 2,2176,.trat)])]⟩
def zo7 (x:Tys zjY.head.ks):Option (zcA zjY.outs):=@whileO (Int × Int × Int × (List TRt) × (List Int) × Unit × Int × Int × (List Rt) × Int × Int × Int × Int × (List TRt) × Int × Int × (List TRt) × Unit) (Int × Int × (List TRt) × Int × Int × (List TRt) × Unit) zaD x
def zo6 (x:Tys zjX.head.ks):Option (zcA zjX.outs):=@whileO (Int × Int × Int × (List TRt) × (List Int) × Unit × Int × Int × (List Rt) × Int × Int × Int × Int × Int × Int × Int × (List TRt) × Int × Int × (List TRt) × Unit) (Int × Int × Int × (List TRt) × (List Int) × Unit × Int × Int × (List Rt) × Int × Int × Int × Int × (List TRt) × Int × Int × (List TRt) × Unit) zaC x
def zyQ:Env:=⟨zMm,[(107,zyr)],[(3,zaZ zjY zo7),(6,zaZ zjX zo6)],[(8,[(0,[]),(1,[]),(2,[]),(3,[]),(4,[]),(5,[2,3,4]),(6,[5,2,3,4]),(7,[1,6,5,0,2,3,4]),(8,[]),(9,[8,7,0,1,2,3,4,5,6])])]⟩
theorem znT:zaj Tryz.prog FX zyQ.cons:=zaa zPb (zab Tryz.func107 (by kernel_rfl)) rfl (zae)
theorem zvR (x:Tys zjX.head.ks):stepL zyQ zjX zhM x=zaC x:=by kernel_rfl
theorem zro:zad zhM=[]:=by kernel_rfl
theorem zHh:zay Tryz.prog FX (zaZ zjX zo6) zhM:=zam mix zeq znT (by kernel_rfl) (zac zro (trivial)) zvR fun _ _ h=>h
theorem zvS (x:Tys zjY.head.ks):stepL zyQ zjY zgc x=zaD x:=by kernel_rfl
theorem zrp:zad zgc=[zhM]:=by kernel_rfl
theorem zHi:zay Tryz.prog FX (zaZ zjY zo7) zgc:=zam mix zeq znT (by kernel_rfl) (zac zrp (⟨⟨_,by kernel_rfl,zHh⟩,trivial⟩)) zvS fun _ _ h=>h
theorem zzA:zad zn0=[zgc]:=by kernel_rfl
theorem zPa:zav Tryz.prog FX 91 zyq:=zai (E:=zyQ) (code:=zn0) mix zeq znT Tryz.func91 (by kernel_rfl) zBP (by kernel_rfl) (fun y=>(⟨y.1,y.2.1,y.2.2.1⟩:MxT)) zyq.out (fun _=>rfl) zyq.run (fun x=>by kernel_rfl) (by kernel_rfl) (zac zzA (⟨⟨_,by kernel_rfl,zHi⟩,trivial⟩))
def zBO:Sig:=⟨[(true,[.d (.int .i64),.d (.int .i64),.d (.sl .rat)])],[],true,[(true,[.d (.int .i64),.d (.int .i64),.dp 0]),(false,[.d (.bool)]),(false,[.d (.bool)])],[(0,.deep .rat)]⟩
def zyp:Con:=⟨zBO,Mx × Bool × Bool,fun x=>zc8 (⟨x.1,x.2.1,x.2.2.1⟩:Mx),fun r=>(r.1.rows,r.1.cols,r.2.1,r.2.2,r.1.cells,())⟩
def zsp:Code:=Tryz.f60.body.getD .skip
def zLq:Env:=⟨zMm,[(43,zID),(58,zIz),(39,zyt),(106,zys),(91,zyq)],[],[(1,[(0,[]),(1,[]),(2,[]),(3,[2,1]),(4,[0,3,2,1]),(5,[4,0,3,2,1]),(6,[]),(7,[]),(8,[]),(9,[]),(10,[9,7,5,0,1,2,3,4,6]),(11,[8,10,0,1,2,3,4,5,6,7,9])])]⟩
theorem zE8:zaj Tryz.prog FX zLq.cons:=zaa zQ0 (zab Tryz.func43 (by kernel_rfl)) rfl (zaa zQW (zab Tryz.func58 (by kernel_rfl)) rfl (zaa zPd (zab Tryz.func39 (by kernel_rfl)) rfl (zaa zPc (zab Tryz.func106 (by kernel_rfl)) rfl (zaa zPa (zab Tryz.func91 (by kernel_rfl)) rfl (zae)))))
theorem zzy:zad zsp=[]:=by kernel_rfl
theorem zO9:zav Tryz.prog FX 60 zyp:=zrd (E:=zLq) (code:=zsp) mix zeq zE8 Tryz.func60 (by kernel_rfl) zBO (by kernel_rfl) (by kernel_rfl) (fun y=>((⟨y.1,y.2.1,y.2.2.2.2.1⟩:Mx),y.2.2.1,y.2.2.2.1)) zyp.out (fun _=>rfl) zyp.run (fun x=>by kernel_rfl) (by kernel_rfl) (zac zzy (trivial))
def zBN:Sig:=⟨[(true,[.d (.int .i64),.d (.int .i64),.d (.sl .rat)])],[],true,[(true,[.d (.int .i64),.d (.int .i64),.dp 0]),(false,[.d (.bool)])],[(0,.deep .rat)]⟩
def zyo:Con:=⟨zBN,Mx × Bool,fun x=>zdn (⟨x.1,x.2.1,x.2.2.1⟩:Mx),fun r=>(r.1.rows,r.1.cols,r.2,r.1.cells,())⟩
def zso:Code:=Tryz.f28.body.getD .skip
def zLp:Env:=⟨zbN,[(38,zIM),(60,zyp)],[],[]⟩
theorem zE7:zaj Tryz.prog FX zLp.cons:=zaa zQ9 (zab Tryz.func38 (by kernel_rfl)) rfl (zaa zO9 (zab Tryz.func60 (by kernel_rfl)) rfl (zae))
theorem zzx:zad zso=[]:=by kernel_rfl
theorem zO8:zav Tryz.prog FX 28 zyo:=zai (E:=zLp) (code:=zso) mix zah zE7 Tryz.func28 (by kernel_rfl) zBN (by kernel_rfl) (fun y=>((⟨y.1,y.2.1,y.2.2.2.1⟩:Mx),y.2.2.1)) zyo.out (fun _=>rfl) zyo.run (fun x=>by kernel_rfl) (by kernel_rfl) (zac zzx (trivial))
def zBM:Sig:=⟨[(false,[.d (.sl .int)]),(false,[.d (.sl .int)])],[],false,[(false,[.d (.bool)])],[]⟩
def zsJ:Con:=⟨zBM,Bool,fun x=>zeP x.1 x.2.1,fun r=>(r,())⟩
def znZ:Code:=Tryz.f13.body.getD .skip
def zhL:Code:=(zad znZ).getD 0 .skip
def zjW:LoopD:=⟨⟨zaf [(0,false,[.d (.sl .int)]),(1,false,[.d (.sl .int)]),(5,false,[.d (.int .i64)])] 26 0,[]⟩,[],[(.ret,⟨zaf [(4,false,[.d (.bool)])] 26 0,[]⟩,[]),(.exit 0,⟨zaf [] 26 0,[]⟩,[])]⟩
def zo5 (x:Tys zjW.head.ks):Option (zcA zjW.outs):=@whileO ((List Int) × (List Int) × Int × Unit) ((Bool × Unit) ⊕ (Unit)) zdG x
def zGc:Env:=⟨zbN,[],[(4,zaZ zjW zo5)],[(6,[(0,[]),(1,[]),(2,[]),(3,[]),(4,[]),(5,[]),(6,[]),(7,[]),(8,[])])]⟩
theorem zsd:zaj Tryz.prog FX zGc.cons:=zae
theorem zvQ (x:Tys zjW.head.ks):stepL zGc zjW zhL x=zdG x:=by kernel_rfl
theorem zrn:zad zhL=[]:=by kernel_rfl
theorem zHg:zay Tryz.prog FX (zaZ zjW zo5) zhL:=zam mix zah zsd (by kernel_rfl) (zac zrn (trivial)) zvQ fun _ _ h=>h
theorem zzw:zad znZ=[zhL]:=by kernel_rfl
theorem zK3:zav Tryz.prog FX 13 zsJ:=zai (E:=zGc) (code:=znZ) mix zah zsd Tryz.func13 (by kernel_rfl) zBM (by kernel_rfl) (fun y=>y.1) zsJ.out (fun _=>rfl) zsJ.run (fun x=>by kernel_rfl) (by kernel_rfl) (zac zzw (⟨⟨_,by kernel_rfl,zHg⟩,trivial⟩))
def zBL:Sig:=⟨[(true,[.d (.bool),.d (.sl .int)]),(true,[.d (.bool),.d (.sl .int)])],[],false,[(false,[.d (.bool)])],[]⟩
def zyn:Con:=⟨zBL,Bool,fun x=>zgj (⟨x.1,x.2.1⟩:Bg) (⟨x.2.2.1,x.2.2.2.1⟩:Bg),fun r=>(r,())⟩
def zsn:Code:=Tryz.f98.body.getD .skip
def zLo:Env:=⟨zbN,[(13,zsJ)],[],[]⟩
theorem zE6:zaj Tryz.prog FX zLo.cons:=zaa zK3 (zab Tryz.func13 (by kernel_rfl)) rfl (zae)
theorem zzv:zad zsn=[]:=by kernel_rfl
theorem zO7:zav Tryz.prog FX 98 zyn:=zai (E:=zLo) (code:=zsn) mix zah zE6 Tryz.func98 (by kernel_rfl) zBL (by kernel_rfl) (fun y=>y.1) zyn.out (fun _=>rfl) zyn.run (fun x=>by kernel_rfl) (by kernel_rfl) (zac zzv (trivial))
def zBK:Sig:=⟨[(true,[.d (.bool),.d (.sl .int),.d (.sl .int)]),(true,[.d (.bool),.d (.sl .int),.d (.sl .int)])],[],false,[(false,[.d (.bool)])],[]⟩
def zym:Con:=⟨zBK,Bool,fun x=>zgz (⟨x.1,x.2.1,x.2.2.1⟩:Rt) (⟨x.2.2.2.1,x.2.2.2.2.1,x.2.2.2.2.2.1⟩:Rt),fun r=>(r,())⟩
def zsm:Code:=Tryz.f51.body.getD .skip
def zLn:Env:=⟨zbN,[(98,zyn),(13,zsJ)],[],[]⟩
theorem zE5:zaj Tryz.prog FX zLn.cons:=zaa zO7 (zab Tryz.func98 (by kernel_rfl)) rfl (zaa zK3 (zab Tryz.func13 (by kernel_rfl)) rfl (zae))
theorem zzu:zad zsm=[]:=by kernel_rfl
theorem zO6:zav Tryz.prog FX 51 zym:=zai (E:=zLn) (code:=zsm) mix zah zE5 Tryz.func51 (by kernel_rfl) zBK (by kernel_rfl) (fun y=>y.1) zym.out (fun _=>rfl) zym.run (fun x=>by kernel_rfl) (by kernel_rfl) (zac zzu (trivial))
def zBJ:Sig:=⟨[(false,[.d (.sl .rat)]),(false,[.d (.sl .rat)])],[],false,[(false,[.d (.bool)])],[]⟩
def zyl:Con:=⟨zBJ,Bool,fun x=>zhY x.1 x.2.1,fun r=>(r,())⟩
def znY:Code:=Tryz.f20.body.getD .skip
def zhK:Code:=(zad znY).getD 0 .skip
def zjV:LoopD:=⟨⟨zaf [(0,false,[.d (.sl .rat)]),(1,false,[.d (.sl .rat)]),(5,false,[.d (.int .i64)])] 27 0,[]⟩,[],[(.ret,⟨zaf [(4,false,[.d (.bool)])] 27 0,[]⟩,[]),(.exit 0,⟨zaf [] 27 0,[]⟩,[])]⟩
def zo4 (x:Tys zjV.head.ks):Option (zcA zjV.outs):=@whileO ((List Rt) × (List Rt) × Int × Unit) ((Bool × Unit) ⊕ (Unit)) zeB x
def zGb:Env:=⟨zbN,[(51,zym)],[(4,zaZ zjV zo4)],[(6,[(0,[]),(1,[]),(2,[]),(3,[]),(4,[]),(5,[]),(6,[]),(7,[]),(8,[3,7,2,6,0,1,4,5]),(9,[])])]⟩
theorem zsc:zaj Tryz.prog FX zGb.cons:=zaa zO6 (zab Tryz.func51 (by kernel_rfl)) rfl (zae)
theorem zvP (x:Tys zjV.head.ks):stepL zGb zjV zhK x=zeB x:=by kernel_rfl
theorem zrm:zad zhK=[]:=by kernel_rfl
theorem zHf:zay Tryz.prog FX (zaZ zjV zo4) zhK:=zam mix zah zsc (by kernel_rfl) (zac zrm (trivial)) zvP fun _ _ h=>h
theorem zzt:zad znY=[zhK]:=by kernel_rfl
theorem zO5:zav Tryz.prog FX 20 zyl:=zai (E:=zGb) (code:=znY) mix zah zsc Tryz.func20 (by kernel_rfl) zBJ (by kernel_rfl) (fun y=>y.1) zyl.out (fun _=>rfl) zyl.run (fun x=>by kernel_rfl) (by kernel_rfl) (zac zzt (⟨⟨_,by kernel_rfl,zHf⟩,trivial⟩))
def zBI:Sig:=⟨[(true,[.d (.int .i64),.d (.int .i64),.d (.sl .rat)]),(true,[.d (.int .i64),.d (.int .i64),.d (.sl .rat)])],[],false,[(false,[.d (.bool)])],[]⟩
def zyk:Con:=⟨zBI,Bool,fun x=>zco (⟨x.1,x.2.1,x.2.2.1⟩:Mx) (⟨x.2.2.2.1,x.2.2.2.2.1,x.2.2.2.2.2.1⟩:Mx),fun r=>(r,())⟩
def zsl:Code:=Tryz.f12.body.getD .skip
def zLm:Env:=⟨zbN,[(20,zyl)],[],[]⟩
theorem zE4:zaj Tryz.prog FX zLm.cons:=zaa zO5 (zab Tryz.func20 (by kernel_rfl)) rfl (zae)
theorem zzs:zad zsl=[]:=by kernel_rfl
theorem zO4:zav Tryz.prog FX 12 zyk:=zai (E:=zLm) (code:=zsl) mix zah zE4 Tryz.func12 (by kernel_rfl) zBI (by kernel_rfl) (fun y=>y.1) zyk.out (fun _=>rfl) zyk.run (fun x=>by kernel_rfl) (by kernel_rfl) (zac zzs (trivial))
def zBH:Sig:=⟨[(false,[.own 63]),(false,[.d (.int .i64)])],[(63,.arr false .int)],false,[(false,[.d (.int .i64)])],[(63,.arr false .int)]⟩
def zyj:Con:=⟨zBH,Int × List Int,fun x=>zcD x.2.1 x.1,fun r=>(r.1,r.2,())⟩
def znX:Code:=Tryz.f15.body.getD .skip
def zhJ:Code:=(zad znX).getD 0 .skip
def zjU:LoopD:=⟨⟨zaf [(0,false,[.own 63]),(1,false,[.d (.int .i64)]),(5,false,[.d (.int .i64)])] 19 0,[(63,.arr false .int)]⟩,[],[(.exit 0,⟨zaf [(1,false,[.d (.int .i64)])] 19 0,[(63,.arr false .int)]⟩,[])]⟩
def zo3 (x:Tys zjU.head.ks):Option (zcA zjU.outs):=@whileO (Int × Int × (List Int) × Unit) (Int × (List Int) × Unit) zbp x
def zGa:Env:=⟨zbN,[],[(2,zaZ zjU zo3)],[]⟩
theorem zsb:zaj Tryz.prog FX zGa.cons:=zae
theorem zvO (x:Tys zjU.head.ks):stepL zGa zjU zhJ x=zbp x:=by kernel_rfl
theorem zrl:zad zhJ=[]:=by kernel_rfl
theorem zHe:zay Tryz.prog FX (zaZ zjU zo3) zhJ:=zam mix zah zsb (by kernel_rfl) (zac zrl (trivial)) zvO fun _ _ h=>h
theorem zzr:zad znX=[zhJ]:=by kernel_rfl
theorem zO3:zav Tryz.prog FX 15 zyj:=zai (E:=zGa) (code:=znX) mix zah zsb Tryz.func15 (by kernel_rfl) zBH (by kernel_rfl) (fun y=>(y.1,y.2.1)) zyj.out (fun _=>rfl) zyj.run (fun x=>by kernel_rfl) (by kernel_rfl) (zac zzr (⟨⟨_,by kernel_rfl,zHe⟩,trivial⟩))
def zBG:Sig:=⟨[(false,[.dp 63]),(false,[.d (.int .i64)])],[(63,.deep .rat)],false,[(false,[.d (.int .i64)])],[(63,.deep .rat)]⟩
def zyi:Con:=⟨zBG,Int × List Rt,fun x=>zdw x.2.1 x.1,fun r=>(r.1,r.2,())⟩
def znW:Code:=Tryz.f21.body.getD .skip
def zhI:Code:=(zad znW).getD 0 .skip
def zjT:LoopD:=⟨⟨zaf [(0,false,[.dp 63]),(1,false,[.d (.int .i64)]),(5,false,[.d (.int .i64)])] 38 0,[(63,.deep .rat)]⟩,[],[(.exit 0,⟨zaf [(1,false,[.d (.int .i64)])] 38 0,[(63,.deep .rat)]⟩,[])]⟩
def zo2 (x:Tys zjT.head.ks):Option (zcA zjT.outs):=@whileO (Int × Int × (List Rt) × Unit) (Int × (List Rt) × Unit) zb0 x
def zF9:Env:=⟨zbN,[(15,zyj)],[(2,zaZ zjT zo2)],[]⟩
theorem zsa:zaj Tryz.prog FX zF9.cons:=zaa zO3 (zab Tryz.func15 (by kernel_rfl)) rfl (zae)
theorem zvN (x:Tys zjT.head.ks):stepL zF9 zjT zhI x=zb0 x:=by kernel_rfl
theorem zrk:zad zhI=[]:=by kernel_rfl
theorem zHd:zay Tryz.prog FX (zaZ zjT zo2) zhI:=zam mix zah zsa (by kernel_rfl) (zac zrk (trivial)) zvN fun _ _ h=>h
theorem zzq:zad znW=[zhI]:=by kernel_rfl
theorem zO2:zav Tryz.prog FX 21 zyi:=zai (E:=zF9) (code:=znW) mix zah zsa Tryz.func21 (by kernel_rfl) zBG (by kernel_rfl) (fun y=>(y.1,y.2.1)) zyi.out (fun _=>rfl) zyi.run (fun x=>by kernel_rfl) (by kernel_rfl) (zac zzq (⟨⟨_,by kernel_rfl,zHd⟩,trivial⟩))
def zBF:Sig:=⟨[(true,[.d (.int .i64),.d (.int .i64),.dp 191]),(false,[.d (.int .i64)])],[(191,.deep .rat)],false,[(false,[.d (.int .i64)])],[(191,.deep .rat)]⟩
def zyh:Con:=⟨zBF,Int × List Rt,fun x=>zb1 (⟨x.1,x.2.1,x.2.2.2.1⟩:Mx) x.2.2.1,fun r=>(r.1,r.2,())⟩
def zsk:Code:=Tryz.f14.body.getD .skip
def zLl:Env:=⟨zbN,[(21,zyi)],[],[]⟩
theorem zE3:zaj Tryz.prog FX zLl.cons:=zaa zO2 (zab Tryz.func21 (by kernel_rfl)) rfl (zae)
theorem zzp:zad zsk=[]:=by kernel_rfl
theorem zO1:zav Tryz.prog FX 14 zyh:=zai (E:=zLl) (code:=zsk) mix zah zE3 Tryz.func14 (by kernel_rfl) zBF (by kernel_rfl) (fun y=>(y.1,y.2.1)) zyh.out (fun _=>rfl) zyh.run (fun x=>by kernel_rfl) (by kernel_rfl) (zac zzp (trivial))
def zBE:Sig:=⟨[(false,[.d (.sl .int)]),(false,[.d (.int .i64)])],[],false,[(false,[.d (.int .i64)])],[]⟩
def zyg:Con:=⟨zBE,Int,fun x=>zdK x.1 x.2.1,fun r=>(r,())⟩
def znV:Code:=Tryz.f17.body.getD .skip
def zhH:Code:=(zad znV).getD 0 .skip
def zjS:LoopD:=⟨⟨zaf [(0,false,[.d (.sl .int)]),(1,false,[.d (.int .i64)]),(5,false,[.d (.int .i64)])] 21 0,[]⟩,[],[(.ret,⟨zaf [(4,false,[.d (.int .i64)])] 21 0,[]⟩,[]),(.exit 0,⟨zaf [(1,false,[.d (.int .i64)])] 21 0,[]⟩,[])]⟩
def zo1 (x:Tys zjS.head.ks):Option (zcA zjS.outs):=@whileO ((List Int) × Int × Int × Unit) ((Int × Unit) ⊕ (Int × Unit)) zcd x
def zF8:Env:=⟨zbN,[],[(2,zaZ zjS zo1)],[]⟩
theorem zr9:zaj Tryz.prog FX zF8.cons:=zae
theorem zvM (x:Tys zjS.head.ks):stepL zF8 zjS zhH x=zcd x:=by kernel_rfl
theorem zrj:zad zhH=[]:=by kernel_rfl
theorem zHc:zay Tryz.prog FX (zaZ zjS zo1) zhH:=zam mix zah zr9 (by kernel_rfl) (zac zrj (trivial)) zvM fun _ _ h=>h
theorem zzo:zad znV=[zhH]:=by kernel_rfl
theorem zO0:zav Tryz.prog FX 17 zyg:=zai (E:=zF8) (code:=znV) mix zah zr9 Tryz.func17 (by kernel_rfl) zBE (by kernel_rfl) (fun y=>y.1) zyg.out (fun _=>rfl) zyg.run (fun x=>by kernel_rfl) (by kernel_rfl) (zac zzo (⟨⟨_,by kernel_rfl,zHc⟩,trivial⟩))
def zBD:Sig:=⟨[(false,[.d (.sl .rat)]),(false,[.d (.int .i64)])],[],false,[(false,[.d (.int .i64)])],[]⟩
def zyf:Con:=⟨zBD,Int,fun x=>zeO x.1 x.2.1,fun r=>(r,())⟩
def znU:Code:=Tryz.f22.body.getD .skip
def zhG:Code:=(zad znU).getD 0 .skip
def zjR:LoopD:=⟨⟨zaf [(0,false,[.d (.sl .rat)]),(1,false,[.d (.int .i64)]),(5,false,[.d (.int .i64)])] 44 0,[]⟩,[],[(.ret,⟨zaf [(4,false,[.d (.int .i64)])] 44 0,[]⟩,[]),(.exit 0,⟨zaf [(1,false,[.d (.int .i64)])] 44 0,[]⟩,[])]⟩
def zo0 (x:Tys zjR.head.ks):Option (zcA zjR.outs):=@whileO ((List Rt) × Int × Int × Unit) ((Int × Unit) ⊕ (Int × Unit)) zcT x
def zF7:Env:=⟨zbN,[(17,zyg)],[(2,zaZ zjR zo0)],[]⟩
theorem zr8:zaj Tryz.prog FX zF7.cons:=zaa zO0 (zab Tryz.func17 (by kernel_rfl)) rfl (zae)
theorem zvL (x:Tys zjR.head.ks):stepL zF7 zjR zhG x=zcT x:=by kernel_rfl
theorem zri:zad zhG=[]:=by kernel_rfl
theorem zHb:zay Tryz.prog FX (zaZ zjR zo0) zhG:=zam mix zah zr8 (by kernel_rfl) (zac zri (trivial)) zvL fun _ _ h=>h
theorem zzn:zad znU=[zhG]:=by kernel_rfl
theorem zOZ:zav Tryz.prog FX 22 zyf:=zai (E:=zF7) (code:=znU) mix zah zr8 Tryz.func22 (by kernel_rfl) zBD (by kernel_rfl) (fun y=>y.1) zyf.out (fun _=>rfl) zyf.run (fun x=>by kernel_rfl) (by kernel_rfl) (zac zzn (⟨⟨_,by kernel_rfl,zHb⟩,trivial⟩))
def zBC:Sig:=⟨[(true,[.d (.int .i64),.d (.int .i64),.d (.sl .rat)]),(false,[.d (.int .i64)])],[],false,[(false,[.d (.int .i64)])],[]⟩
def zye:Con:=⟨zBC,Int,fun x=>zc7 (⟨x.1,x.2.1,x.2.2.1⟩:Mx) x.2.2.2.1,fun r=>(r,())⟩
def zsj:Code:=Tryz.f16.body.getD .skip
def zLk:Env:=⟨zbN,[(22,zyf)],[],[]⟩
theorem zE2:zaj Tryz.prog FX zLk.cons:=zaa zOZ (zab Tryz.func22 (by kernel_rfl)) rfl (zae)
theorem zzm:zad zsj=[]:=by kernel_rfl
theorem zOY:zav Tryz.prog FX 16 zye:=zai (E:=zLk) (code:=zsj) mix zah zE2 Tryz.func16 (by kernel_rfl) zBC (by kernel_rfl) (fun y=>y.1) zye.out (fun _=>rfl) zye.run (fun x=>by kernel_rfl) (by kernel_rfl) (zac zzm (trivial))
def zBB:Sig:=⟨[(true,[.d (.int .i64),.d (.int .i64),.d (.sl .rat)])],[],false,[(false,[.d (.bool)])],[]⟩
def zFO:Con:=⟨zBB,Bool,fun x=>M_laws_FnExactInverse (⟨x.1,x.2.1,x.2.2.1⟩:Mx),fun r=>(r,())⟩
def zsi:Code:=Tryz.f6.body.getD .skip
def zLj:Env:=⟨zbN,[(8,zQD),(10,zJi),(27,zIQ),(28,zyo),(12,zyk),(14,zyh),(16,zye)],[],[(10,[(0,[]),(1,[]),(2,[1]),(3,[0,2,1]),(4,[])])]⟩
theorem zE1:zaj Tryz.prog FX zLj.cons:=zaa zSc (zab Tryz.func8 (by kernel_rfl)) rfl (zaa zRF (zab Tryz.func10 (by kernel_rfl)) rfl (zaa zRd (zab Tryz.func27 (by kernel_rfl)) rfl (zaa zO8 (zab Tryz.func28 (by kernel_rfl)) rfl (zaa zO4 (zab Tryz.func12 (by kernel_rfl)) rfl (zaa zO1 (zab Tryz.func14 (by kernel_rfl)) rfl (zaa zOY (zab Tryz.func16 (by kernel_rfl)) rfl (zae)))))))
theorem zzl:zad zsi=[]:=by kernel_rfl
theorem m_q132:zav Tryz.prog FX 6 zFO:=zai (E:=zLj) (code:=zsi) mix zah zE1 Tryz.func6 (by kernel_rfl) zBB (by kernel_rfl) (fun y=>y.1) zFO.out (fun _=>rfl) zFO.run (fun x=>by kernel_rfl) (by kernel_rfl) (zac zzl (trivial))
end Go.Proofs.YtemlaciidfaceaaGreat.WInverse
