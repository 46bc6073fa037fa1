/-
  Own work: part 8 of the texts that the proof of the given statement leans on.
-/
import Derived.Test.YtemlaciidfaceaaGreatProg
import Derived.Test.YtemlaciidfaceaaGreatZSolveSystemP00
noncomputable section
open Go Go.Di Go.Proofs
namespace Go.Proofs.YtemlaciidfaceaaGreat.WSolveSystem
def FX:Nat→Option (Array Value→Prop):=zM9
def zNL:List (TypeId × TI):=[
  (3,⟨false,[.d (.int .i64 0)],[],none,some (.int .i64),false,false⟩),
  (4,⟨false,[.d (.bool false)],[],none,some .bool,false,false⟩),
  (22,⟨false,[.mt],[],some .trat,none,false,false⟩),
  (24,⟨true,[.d (.int .i64 0),.d (.int .i64 0),.mt],[(0,1,false),(1,1,false),(2,1,false)],none,none,true,false⟩),
  (26,⟨false,[.mt],[],some .trat,none,false,false⟩),
  (28,⟨true,[.d (.int .i64 0),.d (.int .i64 0),.mt],[(0,1,false),(1,1,false),(2,1,false)],none,none,true,false⟩),
  (29,⟨false,[.mt],[],some .int,none,false,false⟩),
  (60,⟨true,[.d (.int .i64 0),.d (.int .i64 0),.mt,.mt,.mt],[(0,3,true),(3,1,false),(4,1,false)],none,none,true,false⟩),
  (65,⟨true,[.d (.bool false),.mt],[(0,1,false),(1,1,false)],none,none,true,false⟩),
  (67,⟨true,[.d (.bool false),.mt,.mt],[(0,2,true),(2,1,false)],none,none,true,false⟩),
  (75,⟨true,[.d (.bool false),.mt],[(0,1,false),(1,1,false)],none,none,true,false⟩),
  (77,⟨true,[.d (.bool false),.mt,.mt],[(0,2,true),(2,1,false)],none,none,true,false⟩)]
def lay:List (TypeId × TI):=[
  (3,⟨false,[.d (.int .i64 0)],[],none,some (.int .i64),false,false⟩),
  (4,⟨false,[.d (.bool false)],[],none,some .bool,false,false⟩),
  (22,⟨false,[.mt],[],some .rat,none,false,false⟩),
  (24,⟨true,[.d (.int .i64 0),.d (.int .i64 0),.mt],[(0,1,false),(1,1,false),(2,1,false)],none,none,true,false⟩),
  (26,⟨false,[.mt],[],some .rat,none,false,false⟩),
  (28,⟨true,[.d (.int .i64 0),.d (.int .i64 0),.mt],[(0,1,false),(1,1,false),(2,1,false)],none,none,true,false⟩),
  (29,⟨false,[.mt],[],some .int,none,false,false⟩),
  (60,⟨true,[.d (.int .i64 0),.d (.int .i64 0),.mt,.mt,.mt],[(0,3,true),(3,1,false),(4,1,false)],none,none,true,false⟩),
  (65,⟨true,[.d (.bool false),.mt],[(0,1,false),(1,1,false)],none,none,true,false⟩),
  (67,⟨true,[.d (.bool false),.mt,.mt],[(0,2,true),(2,1,false)],none,none,true,false⟩),
  (75,⟨true,[.d (.bool false),.mt],[(0,1,false),(1,1,false)],none,none,true,false⟩),
  (77,⟨true,[.d (.bool false),.mt,.mt],[(0,2,true),(2,1,false)],none,none,true,false⟩)]
def zbH:List (TypeId × TI):=[
  (3,⟨false,[.d (.int .i64 0)],[],none,some (.int .i64),false,false⟩),
  (4,⟨false,[.d (.bool false)],[],none,some .bool,false,false⟩),
  (22,⟨false,[.mt],[],some .rat,none,false,true⟩),
  (24,⟨true,[.d (.int .i64 0),.d (.int .i64 0),.mt],[(0,1,false),(1,1,false),(2,1,false)],none,none,true,false⟩),
  (26,⟨false,[.mt],[],some .rat,none,false,true⟩),
  (28,⟨true,[.d (.int .i64 0),.d (.int .i64 0),.mt],[(0,1,false),(1,1,false),(2,1,false)],none,none,true,false⟩),
  (29,⟨false,[.mt],[],some .int,none,false,false⟩),
  (60,⟨true,[.d (.int .i64 0),.d (.int .i64 0),.mt,.mt,.mt],[(0,3,true),(3,1,false),(4,1,false)],none,none,true,false⟩),
  (65,⟨true,[.d (.bool false),.mt],[(0,1,false),(1,1,false)],none,none,true,false⟩),
  (67,⟨true,[.d (.bool false),.mt,.mt],[(0,2,true),(2,1,false)],none,none,true,false⟩),
  (75,⟨true,[.d (.bool false),.mt],[(0,1,false),(1,1,false)],none,none,true,false⟩),
  (77,⟨true,[.d (.bool false),.mt,.mt],[(0,2,true),(2,1,false)],none,none,true,false⟩)]
theorem zfc:zcB Tryz.prog lay:=zmk (by kernel_rfl)
theorem zah:zcB Tryz.prog zbH:=zmk (by kernel_rfl)
theorem zfR:zcB Tryz.prog zNL:=zmk (by kernel_rfl)
theorem mix:Tryz.prog.follows .mixedOrders=true:=by kernel_rfl
def zM1:Sig:=⟨[(false,[.d (.sl .int)]),(false,[.d (.int .i64)])],[],false,[(false,[.d (.int .i64)])],[]⟩
def zN2:Con:=⟨zM1,Int,fun x=>zeC x.1 x.2.1,fun r=>(r,())⟩
def zD0:Code:=Tryz.f100.body.getD .skip
def zQD:Env:=⟨zbH,[],[],[]⟩
theorem zL0:zak Tryz.prog FX zQD.cons:=zae
theorem zFH:zad zD0=[]:=by kernel_rfl
theorem zQr:zax Tryz.prog FX 100 zN2:=zai (E:=zQD) (code:=zD0) mix zah zL0 Tryz.func100 (by kernel_rfl) zM1 (by kernel_rfl) (fun y=>y.1) zN2.out (fun _=>rfl) zN2.run (fun x=>by kernel_rfl) (by kernel_rfl) (zac zFH (trivial))
def zM0:Sig:=⟨[(true,[.d (.bool),.d (.sl .int)]),(false,[.d (.int .i64)])],[],false,[(false,[.d (.int .i64)])],[]⟩
def zO6:Con:=⟨zM0,Int,fun x=>zf6 (⟨x.1,x.2.1⟩:Bg) x.2.2.1,fun r=>(r,())⟩
def zDZ:Code:=Tryz.f99.body.getD .skip
def zQC:Env:=⟨zbH,[(100,zN2)],[],[]⟩
theorem zLZ:zak Tryz.prog FX zQC.cons:=zaa zQr (zab Tryz.func100 (by kernel_rfl)) rfl (zae)
theorem zFG:zad zDZ=[]:=by kernel_rfl
theorem zQK:zax Tryz.prog FX 99 zO6:=zai (E:=zQC) (code:=zDZ) mix zah zLZ Tryz.func99 (by kernel_rfl) zM0 (by kernel_rfl) (fun y=>y.1) zO6.out (fun _=>rfl) zO6.run (fun x=>by kernel_rfl) (by kernel_rfl) (zac zFG (trivial))
def zMZ:Sig:=⟨[(true,[.d (.bool),.d (.sl .int),.d (.sl .int)]),(false,[.d (.int .i64)])],[],false,[(false,[.d (.int .i64)])],[]⟩
def zO5:Con:=⟨zMZ,Int,fun x=>zgm (⟨x.1,x.2.1,x.2.2.1⟩:Rt) x.2.2.2.1,fun r=>(r,())⟩
def zDY:Code:=Tryz.f52.body.getD .skip
def zQB:Env:=⟨zbH,[(99,zO6),(100,zN2)],[],[]⟩
theorem zLY:zak Tryz.prog FX zQB.cons:=zaa zQK (zab Tryz.func99 (by kernel_rfl)) rfl (zaa zQr (zab Tryz.func100 (by kernel_rfl)) rfl (zae))
theorem zFF:zad zDY=[]:=by kernel_rfl
theorem zQJ:zax Tryz.prog FX 52 zO5:=zai (E:=zQB) (code:=zDY) mix zah zLY Tryz.func52 (by kernel_rfl) zMZ (by kernel_rfl) (fun y=>y.1) zO5.out (fun _=>rfl) zO5.run (fun x=>by kernel_rfl) (by kernel_rfl) (zac zFF (trivial))
def zMY:Sig:=⟨[(false,[.d (.sl .rat)]),(false,[.d (.int .i64)])],[],false,[(false,[.d (.int .i64)])],[]⟩
def zN1:Con:=⟨zMY,Int,fun x=>zfD x.1 x.2.1,fun r=>(r,())⟩
def zuR:Code:=Tryz.f23.body.getD .skip
def zkF:Code:=(zad zuR).getD 0 .skip
def zoU:LoopD:=⟨⟨zaf [(0,false,[.d (.sl .rat)]),(1,false,[.d (.int .i64)]),(5,false,[.d (.int .i64)])] 27 0,[]⟩,[],[(.ret,⟨zaf [(4,false,[.d (.int .i64)])] 27 0,[]⟩,[]),(.exit 0,⟨zaf [(1,false,[.d (.int .i64)])] 27 0,[]⟩,[])]⟩
def zx0 (x:Tys zoU.head.ks):Option (zcA zoU.outs):=@whileO ((List Rt) × Int × Int × Unit) ((Int × Unit) ⊕ (Int × Unit)) zeo x
def zQk:Env:=⟨zbH,[(52,zO5)],[(5,zaZ zoU zx0)],[]⟩
theorem zDK:zak Tryz.prog FX zQk.cons:=zaa zQJ (zab Tryz.func52 (by kernel_rfl)) rfl (zae)
theorem zEG (x:Tys zoU.head.ks):stepL zQk zoU zkF x=zeo x:=by kernel_rfl
theorem zyu:zad zkF=[]:=by kernel_rfl
theorem zNO:zaz Tryz.prog FX (zaZ zoU zx0) zkF:=zam mix zah zDK (by kernel_rfl) (zac zyu (trivial)) zEG fun _ _ h=>h
theorem zFE:zad zuR=[zkF]:=by kernel_rfl
theorem zQq:zax Tryz.prog FX 23 zN1:=zai (E:=zQk) (code:=zuR) mix zah zDK Tryz.func23 (by kernel_rfl) zMY (by kernel_rfl) (fun y=>y.1) zN1.out (fun _=>rfl) zN1.run (fun x=>by kernel_rfl) (by kernel_rfl) (zac zFE (⟨⟨_,by kernel_rfl,zNO⟩,trivial⟩))
def zMX:Sig:=⟨[(true,[.d (.int .i64),.d (.int .i64),.d (.sl .rat)]),(false,[.d (.int .i64)])],[],false,[(false,[.d (.int .i64)])],[]⟩
def zO4:Con:=⟨zMX,Int,fun x=>zeB (⟨x.1,x.2.1,x.2.2.1⟩:Mx) x.2.2.2.1,fun r=>(r,())⟩
def zDX:Code:=Tryz.f8.body.getD .skip
def zQA:Env:=⟨zbH,[(23,zN1)],[],[]⟩
theorem zLX:zak Tryz.prog FX zQA.cons:=zaa zQq (zab Tryz.func23 (by kernel_rfl)) rfl (zae)
theorem zFD:zad zDX=[]:=by kernel_rfl
theorem zQI:zax Tryz.prog FX 8 zO4:=zai (E:=zQA) (code:=zDX) mix zah zLX Tryz.func8 (by kernel_rfl) zMX (by kernel_rfl) (fun y=>y.1) zO4.out (fun _=>rfl) zO4.run (fun x=>by kernel_rfl) (by kernel_rfl) (zac zFD (trivial))
def zMW:Sig:=⟨[(false,[.d (.sl .int)])],[],false,[(false,[.own 0])],[(0,.arr false .int)]⟩
def zN0:Con:=⟨zMW,List Int,fun x=>zeA x.1,fun r=>(r,())⟩
def zuQ:Code:=Tryz.f103.body.getD .skip
def zkE:Code:=(zad zuQ).getD 0 .skip
def zoT:LoopD:=⟨⟨zaf [(0,false,[.d (.sl .int)]),(3,false,[.own 1472]),(4,false,[.d (.int .i64)])] 22 0,[(1472,.arr false .int)]⟩,[],[(.exit 0,⟨zaf [(3,false,[.own 1472])] 22 0,[(1472,.arr false .int)]⟩,[])]⟩
def zxZ (x:Tys zoT.head.ks):Option (zcA zoT.outs):=@whileO ((List Int) × Int × (List Int) × Unit) ((List Int) × Unit) zdq x
def zQj:Env:=⟨zbH,[],[(3,zaZ zoT zxZ)],[]⟩
theorem zDJ:zak Tryz.prog FX zQj.cons:=zae
theorem zEF (x:Tys zoT.head.ks):stepL zQj zoT zkE x=zdq x:=by kernel_rfl
theorem zyt:zad zkE=[]:=by kernel_rfl
theorem zNN:zaz Tryz.prog FX (zaZ zoT zxZ) zkE:=zam mix zah zDJ (by kernel_rfl) (zac zyt (trivial)) zEF fun _ _ h=>h
theorem zFC:zad zuQ=[zkE]:=by kernel_rfl
theorem zQp:zax Tryz.prog FX 103 zN0:=zai (E:=zQj) (code:=zuQ) mix zah zDJ Tryz.func103 (by kernel_rfl) zMW (by kernel_rfl) (fun y=>y.1) zN0.out (fun _=>rfl) zN0.run (fun x=>by kernel_rfl) (by kernel_rfl) (zac zFC (⟨⟨_,by kernel_rfl,zNN⟩,trivial⟩))
def zMV:Sig:=⟨[(true,[.d (.bool),.d (.sl .int)])],[],false,[(true,[.d (.bool),.own 0])],[(0,.arr false .int)]⟩
def zO3:Con:=⟨zMV,Bg,fun x=>zf5 (⟨x.1,x.2.1⟩:Bg),fun r=>(r.neg,r.mag,())⟩
def zDW:Code:=Tryz.f102.body.getD .skip
def zQz:Env:=⟨zbH,[(103,zN0)],[],[]⟩
theorem zLW:zak Tryz.prog FX zQz.cons:=zaa zQp (zab Tryz.func103 (by kernel_rfl)) rfl (zae)
theorem zFB:zad zDW=[]:=by kernel_rfl
theorem zQH:zax Tryz.prog FX 102 zO3:=zai (E:=zQz) (code:=zDW) mix zah zLW Tryz.func102 (by kernel_rfl) zMV (by kernel_rfl) (fun y=>(⟨y.1,y.2.1⟩:Bg)) zO3.out (fun _=>rfl) zO3.run (fun x=>by kernel_rfl) (by kernel_rfl) (zac zFB (trivial))
def zMU:Sig:=⟨[(true,[.d (.bool),.d (.sl .int),.d (.sl .int)])],[],false,[(true,[.d (.bool),.own 0,.own 1])],[(0,.arr false .int),(1,.arr false .int)]⟩
def zO2:Con:=⟨zMU,Rt,fun x=>zgl (⟨x.1,x.2.1,x.2.2.1⟩:Rt),fun r=>(r.neg,r.mag,r.den,())⟩
def zDV:Code:=Tryz.f55.body.getD .skip
def zQy:Env:=⟨zbH,[(102,zO3),(103,zN0)],[],[]⟩
theorem zLV:zak Tryz.prog FX zQy.cons:=zaa zQH (zab Tryz.func102 (by kernel_rfl)) rfl (zaa zQp (zab Tryz.func103 (by kernel_rfl)) rfl (zae))
theorem zFA:zad zDV=[]:=by kernel_rfl
theorem zQG:zax Tryz.prog FX 55 zO2:=zai (E:=zQy) (code:=zDV) mix zah zLV Tryz.func55 (by kernel_rfl) zMU (by kernel_rfl) (fun y=>(⟨y.1,y.2.1,y.2.2.1⟩:Rt)) zO2.out (fun _=>rfl) zO2.run (fun x=>by kernel_rfl) (by kernel_rfl) (zac zFA (trivial))
def zMT:Sig:=⟨[(false,[.d (.sl .rat)])],[],false,[(false,[.dp 0])],[(0,.deep .rat)]⟩
def zNZ:Con:=⟨zMT,List Rt,fun x=>zcq x.1,fun r=>(r,())⟩
def zuP:Code:=Tryz.f25.body.getD .skip
def zkD:Code:=(zad zuP).getD 0 .skip
def zoS:LoopD:=⟨⟨zaf [(0,false,[.d (.sl .rat)]),(3,false,[.dp 1536]),(4,false,[.d (.int .i64)])] 23 0,[(1536,.deep .rat)]⟩,[],[(.exit 0,⟨zaf [(3,false,[.dp 1536])] 23 0,[(1536,.deep .rat)]⟩,[])]⟩
def zxY (x:Tys zoS.head.ks):Option (zcA zoS.outs):=@whileO ((List Rt) × Int × (List Rt) × Unit) ((List Rt) × Unit) zdp x
def zQi:Env:=⟨zbH,[(55,zO2)],[(3,zaZ zoS zxY)],[]⟩
theorem zDI:zak Tryz.prog FX zQi.cons:=zaa zQG (zab Tryz.func55 (by kernel_rfl)) rfl (zae)
theorem zEE (x:Tys zoS.head.ks):stepL zQi zoS zkD x=zdp x:=by kernel_rfl
theorem zys:zad zkD=[]:=by kernel_rfl
theorem zNM:zaz Tryz.prog FX (zaZ zoS zxY) zkD:=zam mix zah zDI (by kernel_rfl) (zac zys (trivial)) zEE fun _ _ h=>h
theorem zFz:zad zuP=[zkD]:=by kernel_rfl
theorem zQo:zax Tryz.prog FX 25 zNZ:=zai (E:=zQi) (code:=zuP) mix zah zDI Tryz.func25 (by kernel_rfl) zMT (by kernel_rfl) (fun y=>y.1) zNZ.out (fun _=>rfl) zNZ.run (fun x=>by kernel_rfl) (by kernel_rfl) (zac zFz (⟨⟨_,by kernel_rfl,zNM⟩,trivial⟩))
def zJw:Sig:=⟨[(true,[.d (.int .i64),.d (.int .i64),.d (.sl .rat)])],[],false,[(true,[.d (.int .i64),.d (.int .i64),.dp 0])],[(0,.deep .rat)]⟩
def zHV:Con:=⟨zJw,Mx,fun x=>zcd (⟨x.1,x.2.1,x.2.2.1⟩:Mx),fun r=>(r.rows,r.cols,r.cells,())⟩
def zxz:Code:=Tryz.f10.body.getD .skip
def zOX:Env:=⟨zbH,[(25,zNZ)],[],[]⟩
theorem zG6:zak Tryz.prog FX zOX.cons:=zaa zQo (zab Tryz.func25 (by kernel_rfl)) rfl (zae)
theorem zCW:zad zxz=[]:=by kernel_rfl
theorem zP7:zax Tryz.prog FX 10 zHV:=zai (E:=zOX) (code:=zxz) mix zah zG6 Tryz.func10 (by kernel_rfl) zJw (by kernel_rfl) (fun y=>(⟨y.1,y.2.1,y.2.2.1⟩:Mx)) zHV.out (fun _=>rfl) zHV.run (fun x=>by kernel_rfl) (by kernel_rfl) (zac zCW (trivial))
def zJv:Sig:=⟨[(false,[.d (.int .i64)]),(false,[.d (.int .i64)]),(false,[.d (.int .i64)])],[],false,[(false,[.d (.bool)])],[]⟩
def zEs:Con:=⟨zJv,Bool,fun x=>zds x.1 x.2.1 x.2.2.1,fun r=>(r,())⟩
def zxy:Code:=Tryz.f70.body.getD .skip
def zOW:Env:=⟨zbH,[],[],[]⟩
theorem zG5:zak Tryz.prog FX zOW.cons:=zae
theorem zCV:zad zxy=[]:=by kernel_rfl
theorem zNC:zax Tryz.prog FX 70 zEs:=zai (E:=zOW) (code:=zxy) mix zah zG5 Tryz.func70 (by kernel_rfl) zJv (by kernel_rfl) (fun y=>y.1) zEs.out (fun _=>rfl) zEs.run (fun x=>by kernel_rfl) (by kernel_rfl) (zac zCV (trivial))
def zJu:Sig:=⟨[(false,[.d (.sl .int)])],[],false,[(false,[.d (.bool)])],[]⟩
def zy9:Con:=⟨zJu,Bool,fun x=>zea x.1,fun r=>(r,())⟩
def zqf:Code:=Tryz.f114.body.getD .skip
def zjs:Code:=(zad zqf).getD 0 .skip
def zlO:LoopD:=⟨⟨zaf [(0,false,[.d (.sl .int)]),(5,false,[.d (.sl .int)]),(6,false,[.d (.int .i64)]),(7,false,[.d (.int .i64)])] 32 0,[]⟩,[],[(.ret,⟨zaf [(2,false,[.d (.bool)])] 32 0,[]⟩,[]),(.exit 0,⟨zaf [(0,false,[.d (.sl .int)])] 32 0,[]⟩,[])]⟩
def zs5 (x:Tys zlO.head.ks):Option (zcA zlO.outs):=@whileO ((List Int) × (List Int) × Int × Int × Unit) ((Bool × Unit) ⊕ ((List Int) × Unit)) zda x
def zMG:Env:=⟨zbH,[(70,zEs)],[(2,zaZ zlO zs5)],[]⟩
theorem zwM:zak Tryz.prog FX zMG.cons:=zaa zNC (zab Tryz.func70 (by kernel_rfl)) rfl (zae)
theorem zz1 (x:Tys zlO.head.ks):stepL zMG zlO zjs x=zda x:=by kernel_rfl
theorem zur:zad zjs=[]:=by kernel_rfl
theorem zLE:zaz Tryz.prog FX (zaZ zlO zs5) zjs:=zam mix zah zwM (by kernel_rfl) (zac zur (trivial)) zz1 fun _ _ h=>h
theorem zCU:zad zqf=[zjs]:=by kernel_rfl
theorem zKK:zax Tryz.prog FX 114 zy9:=zai (E:=zMG) (code:=zqf) mix zah zwM Tryz.func114 (by kernel_rfl) zJu (by kernel_rfl) (fun y=>y.1) zy9.out (fun _=>rfl) zy9.run (fun x=>by kernel_rfl) (by kernel_rfl) (zac zCU (⟨⟨_,by kernel_rfl,zLE⟩,trivial⟩))
def zJt:Sig:=⟨[(true,[.d (.bool),.d (.sl .int)])],[],false,[(false,[.d (.bool)])],[]⟩
def zHU:Con:=⟨zJt,Bool,fun x=>zf4 (⟨x.1,x.2.1⟩:Bg),fun r=>(r,())⟩
def zxx:Code:=Tryz.f113.body.getD .skip
def zOV:Env:=⟨zbH,[(114,zy9)],[],[]⟩
theorem zG4:zak Tryz.prog FX zOV.cons:=zaa zKK (zab Tryz.func114 (by kernel_rfl)) rfl (zae)
theorem zCT:zad zxx=[]:=by kernel_rfl
theorem zP6:zax Tryz.prog FX 113 zHU:=zai (E:=zOV) (code:=zxx) mix zah zG4 Tryz.func113 (by kernel_rfl) zJt (by kernel_rfl) (fun y=>y.1) zHU.out (fun _=>rfl) zHU.run (fun x=>by kernel_rfl) (by kernel_rfl) (zac zCT (trivial))
def zJs:Sig:=⟨[(false,[.d (.sl .int)]),(false,[.d (.sl .int)])],[],false,[(false,[.d (.int .i64)])],[]⟩
def zuY:Con:=⟨zJs,Int,fun x=>zc4 x.1 x.2.1,fun r=>(r,())⟩
def zqe:Code:=Tryz.f149.body.getD .skip
def zjr:Code:=(zad zqe).getD 0 .skip
def zlN:LoopD:=⟨⟨zaf [(0,false,[.d (.sl .int)]),(1,false,[.d (.sl .int)]),(5,false,[.d (.int .i64)])] 41 0,[]⟩,[],[(.ret,⟨zaf [(4,false,[.d (.int .i64)])] 41 0,[]⟩,[]),(.exit 0,⟨zaf [] 41 0,[]⟩,[])]⟩
def zs4 (x:Tys zlN.head.ks):Option (zcA zlN.outs):=@whileO ((List Int) × (List Int) × Int × Unit) ((Int × Unit) ⊕ (Unit)) zcF x
def zMF:Env:=⟨zbH,[],[(6,zaZ zlN zs4)],[(8,[(0,[]),(1,[]),(2,[]),(3,[]),(4,[]),(5,[]),(6,[]),(7,[]),(8,[])]),(10,[(0,[]),(1,[]),(2,[]),(3,[]),(4,[]),(5,[]),(6,[]),(7,[]),(8,[])])]⟩
theorem zwL:zak Tryz.prog FX zMF.cons:=zae
theorem zz0 (x:Tys zlN.head.ks):stepL zMF zlN zjr x=zcF x:=by kernel_rfl
theorem zuq:zad zjr=[]:=by kernel_rfl
theorem zLD:zaz Tryz.prog FX (zaZ zlN zs4) zjr:=zam mix zah zwL (by kernel_rfl) (zac zuq (trivial)) zz0 fun _ _ h=>h
theorem zCS:zad zqe=[zjr]:=by kernel_rfl
theorem zFy:zax Tryz.prog FX 149 zuY:=zai (E:=zMF) (code:=zqe) mix zah zwL Tryz.func149 (by kernel_rfl) zJs (by kernel_rfl) (fun y=>y.1) zuY.out (fun _=>rfl) zuY.run (fun x=>by kernel_rfl) (by kernel_rfl) (zac zCS (⟨⟨_,by kernel_rfl,zLD⟩,trivial⟩))
def zJr:Sig:=⟨[(false,[.d (.sl .int)])],[],true,[(false,[.d (.int .i64)]),(false,[.d (.bool)])],[]⟩
def zHT:Con:=⟨zJr,Int × Bool,fun x=>zdu x.1,fun r=>(r.1,r.2,())⟩
def zqd:Code:=Tryz.f136.body.getD .skip
def zjq:Code:=(zad zqd).getD 0 .skip
def zlM:LoopD:=⟨⟨zaf [(0,false,[.d (.sl .int)]),(4,false,[.d (.int .i64)]),(5,false,[.d (.int .i64)])] 30 0,[]⟩,[],[(.exit 0,⟨zaf [(4,false,[.d (.int .i64)])] 30 0,[]⟩,[])]⟩
def zs3 (x:Tys zlM.head.ks):Option (zcA zlM.outs):=@whileO ((List Int) × Int × Int × Unit) (Int × Unit) zb0 x
def zME:Env:=⟨zbH,[(114,zy9),(149,zuY)],[(5,zaZ zlM zs3)],[]⟩
theorem zwK:zak Tryz.prog FX zME.cons:=zaa zKK (zab Tryz.func114 (by kernel_rfl)) rfl (zaa zFy (zab Tryz.func149 (by kernel_rfl)) rfl (zae))
theorem zzZ (x:Tys zlM.head.ks):stepL zME zlM zjq x=zb0 x:=by kernel_rfl
theorem zup:zad zjq=[]:=by kernel_rfl
theorem zLC:zaz Tryz.prog FX (zaZ zlM zs3) zjq:=zam mix zah zwK (by kernel_rfl) (zac zup (trivial)) zzZ fun _ _ h=>h
theorem zCR:zad zqd=[zjq]:=by kernel_rfl
theorem zP5:zax Tryz.prog FX 136 zHT:=zai (E:=zME) (code:=zqd) mix zah zwK Tryz.func136 (by kernel_rfl) zJr (by kernel_rfl) (fun y=>(y.1,y.2.1)) zHT.out (fun _=>rfl) zHT.run (fun x=>by kernel_rfl) (by kernel_rfl) (zac zCR (⟨⟨_,by kernel_rfl,zLC⟩,trivial⟩))
def zJq:Sig:=⟨[(false,[.d (.int .i64)])],[],false,[(false,[.own 0])],[(0,.arr false .int)]⟩
def zuX:Con:=⟨zJq,List Int,fun x=>zcp x.1,fun r=>(r,())⟩
def zqc:Code:=Tryz.f133.body.getD .skip
def zjo:Code:=(zad zqc).getD 0 .skip
def zlL:LoopD:=⟨⟨zaf [(0,false,[.d (.int .i64)]),(3,false,[.own 1024])] 15 0,[(1024,.arr false .int)]⟩,[(.slot 3 0,1024,.int)],[(.exit 0,⟨zaf [(3,false,[.own 1024])] 15 0,[(1024,.arr false .int)]⟩,[(.slot 3 0,1024,.int)])]⟩
def zsZ (x:Tys zlL.head.ks):Option (zcA zlL.outs):=@whileO (Int × (List Int) × Unit) ((List Int) × Unit) zcx x
def zMD:Env:=⟨zbH,[],[(2,zaZ zlL zsZ)],[]⟩
theorem zwJ:zak Tryz.prog FX zMD.cons:=zae
theorem zzY (x:Tys zlL.head.ks):stepL zMD zlL zjo x=zcx x:=by kernel_rfl
theorem zuo:zad zjo=[]:=by kernel_rfl
theorem zLB:zaz Tryz.prog FX (zaZ zlL zsZ) zjo:=zam mix zah zwJ (by kernel_rfl) (zac zuo (trivial)) zzY fun _ _ h=>h
theorem zCQ:zad zqc=[zjo]:=by kernel_rfl
theorem zFx:zax Tryz.prog FX 133 zuX:=zai (E:=zMD) (code:=zqc) mix zah zwJ Tryz.func133 (by kernel_rfl) zJq (by kernel_rfl) (fun y=>y.1) zuX.out (fun _=>rfl) zuX.run (fun x=>by kernel_rfl) (by kernel_rfl) (zac zCQ (⟨⟨_,by kernel_rfl,zLB⟩,trivial⟩))
def zJp:Sig:=⟨[(false,[.d (.int .i64)]),(false,[.d (.int .i64)])],[],false,[(false,[.own 0])],[(0,.arr false .int)]⟩
def zHS:Con:=⟨zJp,List Int,fun x=>zeu x.1 x.2.1,fun r=>(r,())⟩
def zqb:Code:=Tryz.f137.body.getD .skip
def zjn:Code:=(zad zqb).getD 0 .skip
def zlK:LoopD:=⟨⟨zaf [(0,false,[.d (.int .i64)]),(1,false,[.d (.int .i64)])] 15 0,[]⟩,[],[(.exit 0,⟨zaf [(0,false,[.d (.int .i64)])] 15 0,[]⟩,[])]⟩
def zsY (x:Tys zlK.head.ks):Option (zcA zlK.outs):=@whileO (Int × Int × Unit) (Int × Unit) zbY x
def zMC:Env:=⟨zbH,[(133,zuX)],[(1,zaZ zlK zsY)],[]⟩
theorem zwI:zak Tryz.prog FX zMC.cons:=zaa zFx (zab Tryz.func133 (by kernel_rfl)) rfl (zae)
theorem zzX (x:Tys zlK.head.ks):stepL zMC zlK zjn x=zbY x:=by kernel_rfl
theorem zun:zad zjn=[]:=by kernel_rfl
theorem zLA:zaz Tryz.prog FX (zaZ zlK zsY) zjn:=zam mix zah zwI (by kernel_rfl) (zac zun (trivial)) zzX fun _ _ h=>h
theorem zCP:zad zqb=[zjn]:=by kernel_rfl
theorem zP4:zax Tryz.prog FX 137 zHS:=zai (E:=zMC) (code:=zqb) mix zah zwI Tryz.func137 (by kernel_rfl) zJp (by kernel_rfl) (fun y=>y.1) zHS.out (fun _=>rfl) zHS.run (fun x=>by kernel_rfl) (by kernel_rfl) (zac zCP (⟨⟨_,by kernel_rfl,zLA⟩,trivial⟩))
def zJo:Sig:=⟨[(false,[.own 0])],[(0,.arr false .int)],false,[(false,[.own 0])],[(0,.arr false .int)]⟩
def zuW:Con:=⟨zJo,List Int,fun x=>zbl x.1,fun r=>(r,())⟩
def zqa:Code:=Tryz.f139.body.getD .skip
def zjm:Code:=(zad zqa).getD 0 .skip
def zlJ:LoopD:=⟨⟨zaf [(0,false,[.own 1408]),(3,false,[.d (.int .i64)])] 21 0,[(1408,.arr false .int)]⟩,[],[(.exit 0,⟨zaf [(0,false,[.own 1408]),(3,false,[.d (.int .i64)])] 21 0,[(1408,.arr false .int)]⟩,[])]⟩
def zsX (x:Tys zlJ.head.ks):Option (zcA zlJ.outs):=@whileO (Int × (List Int) × Unit) (Int × (List Int) × Unit) zbK x
def zMB:Env:=⟨zbH,[],[(2,zaZ zlJ zsX)],[]⟩
theorem zwH:zak Tryz.prog FX zMB.cons:=zae
theorem zzW (x:Tys zlJ.head.ks):stepL zMB zlJ zjm x=zbK x:=by kernel_rfl
theorem zum:zad zjm=[]:=by kernel_rfl
theorem zLz:zaz Tryz.prog FX (zaZ zlJ zsX) zjm:=zam mix zah zwH (by kernel_rfl) (zac zum (trivial)) zzW fun _ _ h=>h
theorem zCO:zad zqa=[zjm]:=by kernel_rfl
theorem zFw:zax Tryz.prog FX 139 zuW:=zai (E:=zMB) (code:=zqa) mix zah zwH Tryz.func139 (by kernel_rfl) zJo (by kernel_rfl) (fun y=>y.1) zuW.out (fun _=>rfl) zuW.run (fun x=>by kernel_rfl) (by kernel_rfl) (zac zCO (⟨⟨_,by kernel_rfl,zLz⟩,trivial⟩))
def zJn:Sig:=⟨[(false,[.d (.sl .int)]),(false,[.d (.int .i64)])],[],true,[(false,[.own 0]),(false,[.d (.int .i64)])],[(0,.arr false .int)]⟩
def zHR:Con:=⟨zJn,List Int × Int,fun x=>zet x.1 x.2.1,fun r=>(r.2,r.1,())⟩
def zp9:Code:=Tryz.f150.body.getD .skip
def zjl:Code:=(zad zp9).getD 0 .skip
def zlI:LoopD:=⟨⟨zaf [(0,false,[.d (.sl .int)]),(1,false,[.d (.int .i64)]),(6,false,[.own 2560]),(7,false,[.d (.int .i64)]),(8,false,[.d (.int .i64)])] 39 0,[(2560,.arr false .int)]⟩,[],[(.exit 0,⟨zaf [(6,false,[.own 2560]),(7,false,[.d (.int .i64)])] 39 0,[(2560,.arr false .int)]⟩,[])]⟩
def zsW (x:Tys zlI.head.ks):Option (zcA zlI.outs):=@whileO ((List Int) × Int × Int × Int × (List Int) × Unit) (Int × (List Int) × Unit) zbp x
def zMA:Env:=⟨zbH,[(139,zuW)],[(4,zaZ zlI zsW)],[]⟩
theorem zwG:zak Tryz.prog FX zMA.cons:=zaa zFw (zab Tryz.func139 (by kernel_rfl)) rfl (zae)
theorem zzV (x:Tys zlI.head.ks):stepL zMA zlI zjl x=zbp x:=by kernel_rfl
theorem zul:zad zjl=[]:=by kernel_rfl
theorem zLy:zaz Tryz.prog FX (zaZ zlI zsW) zjl:=zam mix zah zwG (by kernel_rfl) (zac zul (trivial)) zzV fun _ _ h=>h
theorem zCN:zad zp9=[zjl]:=by kernel_rfl
theorem zP3:zax Tryz.prog FX 150 zHR:=zai (E:=zMA) (code:=zp9) mix zah zwG Tryz.func150 (by kernel_rfl) zJn (by kernel_rfl) (fun y=>(y.2.1,y.1)) zHR.out (fun _=>rfl) zHR.run (fun x=>by kernel_rfl) (by kernel_rfl) (zac zCN (⟨⟨_,by kernel_rfl,zLy⟩,trivial⟩))
def zJm:Sig:=⟨[(false,[.d (.sl .int)]),(false,[.d (.sl .int)])],[],false,[(false,[.own 0])],[(0,.arr false .int)]⟩
def zr4:Con:=⟨zJm,List Int,fun x=>zat x.1 x.2.1,fun r=>(r,())⟩
def zp8:Code:=Tryz.f118.body.getD .skip
def zgQ:Code:=(zad zp8).getD 0 .skip
def zjk:Code:=(zad zgQ).getD 0 .skip
def zlH:LoopD:=⟨⟨zaf [(1,false,[.d (.sl .int)]),(5,false,[.own 4672]),(26,false,[.d (.sl .int)]),(27,false,[.d (.int .i64)]),(28,false,[.d (.int .i64)])] 72 0,[(4672,.arr false .int)]⟩,[],[(.exit 0,⟨zaf [(5,false,[.own 4672])] 72 0,[(4672,.arr false .int)]⟩,[])]⟩
def zlG:LoopD:=⟨⟨zaf [(1,false,[.d (.sl .int)]),(5,false,[.own 4672]),(6,false,[.d (.int .i64)]),(7,false,[.d (.int .i64)]),(8,false,[.d (.int .i64)]),(26,false,[.d (.sl .int)]),(27,false,[.d (.int .i64)]),(28,false,[.d (.int .i64)]),(33,false,[.d (.sl .int)]),(34,false,[.d (.int .i64)]),(35,false,[.d (.int .i64)])] 72 0,[(4672,.arr false .int)]⟩,[],[(.exit 2,⟨zaf [(1,false,[.d (.sl .int)]),(5,false,[.own 4672]),(6,false,[.d (.int .i64)]),(8,false,[.d (.int .i64)]),(26,false,[.d (.sl .int)]),(27,false,[.d (.int .i64)]),(28,false,[.d (.int .i64)])] 72 0,[(4672,.arr false .int)]⟩,[])]⟩
def zsV (x:Tys zlH.head.ks):Option (zcA zlH.outs):=@whileO ((List Int) × (List Int) × Int × Int × (List Int) × Unit) ((List Int) × Unit) zcE x
def zsU (x:Tys zlG.head.ks):Option (zcA zlG.outs):=@whileO ((List Int) × Int × Int × Int × (List Int) × Int × Int × (List Int) × Int × Int × (List Int) × Unit) ((List Int) × Int × Int × (List Int) × Int × Int × (List Int) × Unit) zcD x
def zH7:Env:=⟨zbH,[(139,zuW)],[(5,zaZ zlH zsV),(9,zaZ zlG zsU)],[]⟩
theorem zpG:zak Tryz.prog FX zH7.cons:=zaa zFw (zab Tryz.func139 (by kernel_rfl)) rfl (zae)
theorem zzT (x:Tys zlG.head.ks):stepL zH7 zlG zjk x=zcD x:=by kernel_rfl
theorem zuj:zad zjk=[]:=by kernel_rfl
theorem zLw:zaz Tryz.prog FX (zaZ zlG zsU) zjk:=zam mix zah zpG (by kernel_rfl) (zac zuj (trivial)) zzT fun _ _ h=>h
theorem zzU (x:Tys zlH.head.ks):stepL zH7 zlH zgQ x=zcE x:=by kernel_rfl
theorem zuk:zad zgQ=[zjk]:=by kernel_rfl
theorem zLx:zaz Tryz.prog FX (zaZ zlH zsV) zgQ:=zam mix zah zpG (by kernel_rfl) (zac zuk (⟨⟨_,by kernel_rfl,zLw⟩,trivial⟩)) zzU fun _ _ h=>h
theorem zCM:zad zp8=[zgQ]:=by kernel_rfl
theorem zBw:zax Tryz.prog FX 118 zr4:=zai (E:=zH7) (code:=zp8) mix zah zpG Tryz.func118 (by kernel_rfl) zJm (by kernel_rfl) (fun y=>y.1) zr4.out (fun _=>rfl) zr4.run (fun x=>by kernel_rfl) (by kernel_rfl) (zac zCM (⟨⟨_,by kernel_rfl,zLx⟩,trivial⟩))
def zJl:Sig:=⟨[(false,[.d (.sl .int)]),(false,[.d (.sl .int)])],[],false,[(false,[.d (.int .i64)])],[]⟩
def zHQ:Con:=⟨zJl,Int,fun x=>zew x.1 x.2.1,fun r=>(r,())⟩
def zp7:Code:=Tryz.f151.body.getD .skip
def zjj:Code:=(zad zp7).getD 0 .skip
def zlF:LoopD:=⟨⟨zaf [(0,false,[.d (.sl .int)]),(1,false,[.d (.sl .int)]),(5,false,[.d (.int .i64)]),(6,false,[.d (.int .i64)])] 27 0,[]⟩,[],[(.exit 0,⟨zaf [(5,false,[.d (.int .i64)])] 27 0,[]⟩,[])]⟩
def zsS (x:Tys zlF.head.ks):Option (zcA zlF.outs):=@whileO ((List Int) × (List Int) × Int × Int × Unit) (Int × Unit) zbZ x
def zMz:Env:=⟨zbH,[(133,zuX),(118,zr4),(149,zuY)],[(3,zaZ zlF zsS)],[]⟩
theorem zwF:zak Tryz.prog FX zMz.cons:=zaa zFx (zab Tryz.func133 (by kernel_rfl)) rfl (zaa zBw (zab Tryz.func118 (by kernel_rfl)) rfl (zaa zFy (zab Tryz.func149 (by kernel_rfl)) rfl (zae)))
theorem zzS (x:Tys zlF.head.ks):stepL zMz zlF zjj x=zbZ x:=by kernel_rfl
theorem zui:zad zjj=[]:=by kernel_rfl
theorem zLv:zaz Tryz.prog FX (zaZ zlF zsS) zjj:=zam mix zah zwF (by kernel_rfl) (zac zui (trivial)) zzS fun _ _ h=>h
theorem zCL:zad zp7=[zjj]:=by kernel_rfl
theorem zP2:zax Tryz.prog FX 151 zHQ:=zai (E:=zMz) (code:=zp7) mix zah zwF Tryz.func151 (by kernel_rfl) zJl (by kernel_rfl) (fun y=>y.1) zHQ.out (fun _=>rfl) zHQ.run (fun x=>by kernel_rfl) (by kernel_rfl) (zac zCL (⟨⟨_,by kernel_rfl,zLv⟩,trivial⟩))
def zJj:Sig:=⟨[(false,[.d (.sl .int)]),(false,[.d (.sl .int)])],[],false,[(false,[.own 0])],[(0,.arr false .int)]⟩
def zEp:Con:=⟨zJj,List Int,fun x=>zdL x.1 x.2.1,fun r=>(r,())⟩
def zp5:Code:=Tryz.f152.body.getD .skip
def zjh:Code:=(zad zp5).getD 0 .skip
def zlD:LoopD:=⟨⟨zaf [(0,false,[.d (.sl .int)]),(1,false,[.d (.sl .int)]),(5,false,[.own 2752]),(6,false,[.d (.int .i64)]),(11,false,[.d (.int .i64)]),(12,false,[.d (.int .i64)])] 42 0,[(2752,.arr false .int)]⟩,[(.slot 5 0,2752,.int)],[(.exit 0,⟨zaf [(5,false,[.own 2752])] 42 0,[(2752,.arr false .int)]⟩,[(.slot 5 0,2752,.int)])]⟩
def zsQ (x:Tys zlD.head.ks):Option (zcA zlD.outs):=@whileO ((List Int) × (List Int) × Int × Int × Int × (List Int) × Unit) ((List Int) × Unit) zbC x
def zMx:Env:=⟨zbH,[(139,zuW)],[(4,zaZ zlD zsQ)],[]⟩
theorem zwD:zak Tryz.prog FX zMx.cons:=zaa zFw (zab Tryz.func139 (by kernel_rfl)) rfl (zae)
theorem zzQ (x:Tys zlD.head.ks):stepL zMx zlD zjh x=zbC x:=by kernel_rfl
theorem zug:zad zjh=[]:=by kernel_rfl
theorem zLt:zaz Tryz.prog FX (zaZ zlD zsQ) zjh:=zam mix zah zwD (by kernel_rfl) (zac zug (trivial)) zzQ fun _ _ h=>h
theorem zCJ:zad zp5=[zjh]:=by kernel_rfl
theorem zNu:zax Tryz.prog FX 152 zEp:=zai (E:=zMx) (code:=zp5) mix zah zwD Tryz.func152 (by kernel_rfl) zJj (by kernel_rfl) (fun y=>y.1) zEp.out (fun _=>rfl) zEp.run (fun x=>by kernel_rfl) (by kernel_rfl) (zac zCJ (⟨⟨_,by kernel_rfl,zLt⟩,trivial⟩))
def zJi:Sig:=⟨[(false,[.d (.sl .int)]),(false,[.d (.sl .int)])],[],true,[(false,[.own 0]),(false,[.own 1])],[(0,.arr false .int),(1,.arr false .int)]⟩
def zEo:Con:=⟨zJi,List Int × List Int,fun x=>zc3 x.1 x.2.1,fun r=>(r.1,r.2,())⟩
def zp4:Code:=Tryz.f138.body.getD .skip
def zjg:Code:=(zad zp4).getD 0 .skip
def zlC:LoopD:=⟨⟨zaf [(0,false,[.d (.sl .int)]),(1,false,[.d (.sl .int)]),(8,false,[.own 4224]),(9,false,[.own 4288]),(10,false,[.d (.int .i64)])] 65 0,[(4224,.arr false .int),(4288,.arr false .int)]⟩,[(.slot 9 0,4288,.int)],[(.exit 0,⟨zaf [(8,false,[.own 4224]),(9,false,[.own 4288])] 65 0,[(4224,.arr false .int),(4288,.arr false .int)]⟩,[(.slot 9 0,4288,.int)])]⟩
def zsP (x:Tys zlC.head.ks):Option (zcA zlC.outs):=@whileO ((List Int) × (List Int) × Int × (List Int) × (List Int) × Unit) ((List Int) × (List Int) × Unit) zb8 x
def zMw:Env:=⟨zbH,[(150,zHR),(133,zuX),(139,zuW),(149,zuY),(151,zHQ),(118,zr4),(152,zEp)],[(7,zaZ zlC zsP)],[]⟩
theorem zwC:zak Tryz.prog FX zMw.cons:=zaa zP3 (zab Tryz.func150 (by kernel_rfl)) rfl (zaa zFx (zab Tryz.func133 (by kernel_rfl)) rfl (zaa zFw (zab Tryz.func139 (by kernel_rfl)) rfl (zaa zFy (zab Tryz.func149 (by kernel_rfl)) rfl (zaa zP2 (zab Tryz.func151 (by kernel_rfl)) rfl (zaa zBw (zab Tryz.func118 (by kernel_rfl)) rfl (zaa zNu (zab Tryz.func152 (by kernel_rfl)) rfl (zae)))))))
theorem zzP (x:Tys zlC.head.ks):stepL zMw zlC zjg x=zb8 x:=by kernel_rfl
theorem zuf:zad zjg=[]:=by kernel_rfl
theorem zLs:zaz Tryz.prog FX (zaZ zlC zsP) zjg:=zam mix zah zwC (by kernel_rfl) (zac zuf (trivial)) zzP fun _ _ h=>h
theorem zCI:zad zp4=[zjg]:=by kernel_rfl
theorem zNt:zax Tryz.prog FX 138 zEo:=zai (E:=zMw) (code:=zp4) mix zah zwC Tryz.func138 (by kernel_rfl) zJi (by kernel_rfl) (fun y=>(y.1,y.2.1)) zEo.out (fun _=>rfl) zEo.run (fun x=>by kernel_rfl) (by kernel_rfl) (zac zCI (⟨⟨_,by kernel_rfl,zLs⟩,trivial⟩))
def zJh:Sig:=⟨[(false,[.d (.sl .int)]),(false,[.d (.sl .int)])],[],false,[(false,[.own 0])],[(0,.arr false .int)]⟩
def zEn:Con:=⟨zJh,List Int,fun x=>zev x.1 x.2.1,fun r=>(r,())⟩
def zp3:Code:=Tryz.f116.body.getD .skip
def zjf:Code:=(zad zp3).getD 0 .skip
def zlB:LoopD:=⟨⟨zaf [(5,false,[.own 3392]),(6,false,[.own 3456])] 52 0,[(3392,.arr false .int),(3456,.arr false .int)]⟩,[],[(.ret,⟨zaf [(4,false,[.own 3520])] 52 0,[(3520,.arr false .int)]⟩,[]),(.exit 0,⟨zaf [(5,false,[.own 3392])] 52 0,[(3392,.arr false .int)]⟩,[])]⟩
def zsO (x:Tys zlB.head.ks):Option (zcA zlB.outs):=@whileO ((List Int) × (List Int) × Unit) (((List Int) × Unit) ⊕ ((List Int) × Unit)) zbD x
def zMv:Env:=⟨zbH,[(136,zHT),(137,zHS),(138,zEo)],[(3,zaZ zlB zsO)],[]⟩
theorem zwB:zak Tryz.prog FX zMv.cons:=zaa zP5 (zab Tryz.func136 (by kernel_rfl)) rfl (zaa zP4 (zab Tryz.func137 (by kernel_rfl)) rfl (zaa zNt (zab Tryz.func138 (by kernel_rfl)) rfl (zae)))
theorem zzO (x:Tys zlB.head.ks):stepL zMv zlB zjf x=zbD x:=by kernel_rfl
theorem zue:zad zjf=[]:=by kernel_rfl
theorem zLr:zaz Tryz.prog FX (zaZ zlB zsO) zjf:=zam mix zah zwB (by kernel_rfl) (zac zue (trivial)) zzO fun _ _ h=>h
theorem zCH:zad zp3=[zjf]:=by kernel_rfl
theorem zNs:zax Tryz.prog FX 116 zEn:=zai (E:=zMv) (code:=zp3) mix zah zwB Tryz.func116 (by kernel_rfl) zJh (by kernel_rfl) (fun y=>y.1) zEn.out (fun _=>rfl) zEn.run (fun x=>by kernel_rfl) (by kernel_rfl) (zac zCH (⟨⟨_,by kernel_rfl,zLr⟩,trivial⟩))
def zJg:Sig:=⟨[(false,[.d (.sl .int)])],[],false,[(false,[.d (.bool)])],[]⟩
def zy8:Con:=⟨zJg,Bool,fun x=>zc2 x.1,fun r=>(r,())⟩
def zxw:Code:=Tryz.f115.body.getD .skip
def zOU:Env:=⟨zbH,[],[],[]⟩
theorem zG3:zak Tryz.prog FX zOU.cons:=zae
theorem zCG:zad zxw=[]:=by kernel_rfl
theorem zKJ:zax Tryz.prog FX 115 zy8:=zai (E:=zOU) (code:=zxw) mix zah zG3 Tryz.func115 (by kernel_rfl) zJg (by kernel_rfl) (fun y=>y.1) zy8.out (fun _=>rfl) zy8.run (fun x=>by kernel_rfl) (by kernel_rfl) (zac zCG (trivial))
def zJf:Sig:=⟨[(true,[.d (.bool),.d (.sl .int),.d (.sl .int)])],[],false,[(false,[.d (.bool)])],[]⟩
def zEm:Con:=⟨zJf,Bool,fun x=>zfi (⟨x.1,x.2.1,x.2.2.1⟩:Rt),fun r=>(r,())⟩
def zxv:Code:=Tryz.f71.body.getD .skip
def zOT:Env:=⟨zbH,[(113,zHU),(114,zy9),(116,zEn),(115,zy8)],[],[]⟩
theorem zG2:zak Tryz.prog FX zOT.cons:=zaa zP6 (zab Tryz.func113 (by kernel_rfl)) rfl (zaa zKK (zab Tryz.func114 (by kernel_rfl)) rfl (zaa zNs (zab Tryz.func116 (by kernel_rfl)) rfl (zaa zKJ (zab Tryz.func115 (by kernel_rfl)) rfl (zae))))
theorem zCF:zad zxv=[]:=by kernel_rfl
theorem zNr:zax Tryz.prog FX 71 zEm:=zai (E:=zOT) (code:=zxv) mix zah zG2 Tryz.func71 (by kernel_rfl) zJf (by kernel_rfl) (fun y=>y.1) zEm.out (fun _=>rfl) zEm.run (fun x=>by kernel_rfl) (by kernel_rfl) (zac zCF (trivial))
def zJe:Sig:=⟨[(true,[.d (.int .i64),.d (.int .i64),.d (.sl .rat)])],[],false,[(false,[.d (.bool)])],[]⟩
def zHP:Con:=⟨zJe,Bool,fun x=>zex (⟨x.1,x.2.1,x.2.2.1⟩:Mx),fun r=>(r,())⟩
def zp2:Code:=Tryz.f34.body.getD .skip
def zje:Code:=(zad zp2).getD 0 .skip
def zlA:LoopD:=⟨⟨zaf [(27,false,[.d (.sl .rat)]),(28,false,[.d (.int .i64)]),(29,false,[.d (.int .i64)])] 37 0,[]⟩,[],[(.ret,⟨zaf [(2,false,[.d (.bool)])] 37 0,[]⟩,[]),(.exit 0,⟨zaf [] 37 0,[]⟩,[])]⟩
def zsN (x:Tys zlA.head.ks):Option (zcA zlA.outs):=@whileO ((List Rt) × Int × Int × Unit) ((Bool × Unit) ⊕ (Unit)) zbq x
def zMu:Env:=⟨zbH,[(70,zEs),(71,zEm)],[(4,zaZ zlA zsN)],[]⟩
theorem zwA:zak Tryz.prog FX zMu.cons:=zaa zNC (zab Tryz.func70 (by kernel_rfl)) rfl (zaa zNr (zab Tryz.func71 (by kernel_rfl)) rfl (zae))
theorem zzN (x:Tys zlA.head.ks):stepL zMu zlA zje x=zbq x:=by kernel_rfl
theorem zua:zad zje=[]:=by kernel_rfl
theorem zLq:zaz Tryz.prog FX (zaZ zlA zsN) zje:=zam mix zah zwA (by kernel_rfl) (zac zua (trivial)) zzN fun _ _ h=>h
theorem zCE:zad zp2=[zje]:=by kernel_rfl
theorem zP1:zax Tryz.prog FX 34 zHP:=zai (E:=zMu) (code:=zp2) mix zah zwA Tryz.func34 (by kernel_rfl) zJe (by kernel_rfl) (fun y=>y.1) zHP.out (fun _=>rfl) zHP.run (fun x=>by kernel_rfl) (by kernel_rfl) (zac zCE (⟨⟨_,by kernel_rfl,zLq⟩,trivial⟩))
def zJd:Sig:=⟨[(false,[.d (.sl .rat)])],[],false,[(false,[.d (.bool)])],[]⟩
def zHO:Con:=⟨zJd,Bool,fun x=>zey x.1,fun r=>(r,())⟩
def zp1:Code:=Tryz.f53.body.getD .skip
def zjd:Code:=(zad zp1).getD 0 .skip
def zlz:LoopD:=⟨⟨zaf [(8,false,[.d (.sl .rat)]),(9,false,[.d (.int .i64)]),(10,false,[.d (.int .i64)])] 18 0,[]⟩,[],[(.ret,⟨zaf [(2,false,[.d (.bool)])] 18 0,[]⟩,[]),(.exit 0,⟨zaf [] 18 0,[]⟩,[])]⟩
def zsM (x:Tys zlz.head.ks):Option (zcA zlz.outs):=@whileO ((List Rt) × Int × Int × Unit) ((Bool × Unit) ⊕ (Unit)) zb1 x
def zMt:Env:=⟨zbH,[(71,zEm)],[(4,zaZ zlz zsM)],[]⟩
theorem zwz:zak Tryz.prog FX zMt.cons:=zaa zNr (zab Tryz.func71 (by kernel_rfl)) rfl (zae)
theorem zzM (x:Tys zlz.head.ks):stepL zMt zlz zjd x=zb1 x:=by kernel_rfl
theorem zt9:zad zjd=[]:=by kernel_rfl
theorem zLp:zaz Tryz.prog FX (zaZ zlz zsM) zjd:=zam mix zah zwz (by kernel_rfl) (zac zt9 (trivial)) zzM fun _ _ h=>h
theorem zCD:zad zp1=[zjd]:=by kernel_rfl
theorem zP0:zax Tryz.prog FX 53 zHO:=zai (E:=zMt) (code:=zp1) mix zah zwz Tryz.func53 (by kernel_rfl) zJd (by kernel_rfl) (fun y=>y.1) zHO.out (fun _=>rfl) zHO.run (fun x=>by kernel_rfl) (by kernel_rfl) (zac zCD (⟨⟨_,by kernel_rfl,zLp⟩,trivial⟩))
def zJc:Sig:=⟨[(true,[.d (.int .i64),.d (.int .i64),.d (.sl .rat)]),(false,[.d (.int .i64)])],[],false,[(false,[.d (.sl .rat)])],[]⟩
def zHN:Con:=⟨zJc,List Rt,fun x=>zdJ (⟨x.1,x.2.1,x.2.2.1⟩:Mx) x.2.2.2.1,fun r=>(r,())⟩
def zxu:Code:=Tryz.f105.body.getD .skip
def zOS:Env:=⟨zbH,[],[],[]⟩
theorem zG1:zak Tryz.prog FX zOS.cons:=zae
theorem zCC:zad zxu=[]:=by kernel_rfl
theorem zPZ:zax Tryz.prog FX 105 zHN:=zai (E:=zOS) (code:=zxu) mix zah zG1 Tryz.func105 (by kernel_rfl) zJc (by kernel_rfl) (fun y=>y.1) zHN.out (fun _=>rfl) zHN.run (fun x=>by kernel_rfl) (by kernel_rfl) (zac zCC (trivial))
def zJb:Sig:=⟨[(true,[.d (.bool),.d (.sl .int),.d (.sl .int)])],[],false,[(true,[.d (.bool),.own 0,.own 1])],[(0,.arr false .int),(1,.arr false .int)]⟩
def zHM:Con:=⟨zJb,Rt,fun x=>ze7 (⟨x.1,x.2.1,x.2.2.1⟩:Rt),fun r=>(r.neg,r.mag,r.den,())⟩
def zxt:Code:=Tryz.f88.body.getD .skip
def zOR:Env:=⟨zbH,[],[],[(1,[(0,[]),(1,[]),(2,[]),(3,[]),(4,[]),(5,[]),(6,[]),(9,[]),(10,[]),(11,[]),(7,[3,6,5,4]),(8,[]),(12,[9,11,7,10,3,6,5,4]),(13,[]),(14,[13,12,0,1,2,3,4,5,6,7,8,9,10,11])])]⟩
theorem zG0:zak Tryz.prog FX zOR.cons:=zae
theorem zCB:zad zxt=[]:=by kernel_rfl
theorem zPY:zax Tryz.prog FX 88 zHM:=zai (E:=zOR) (code:=zxt) mix zah zG0 Tryz.func88 (by kernel_rfl) zJb (by kernel_rfl) (fun y=>(⟨y.1,y.2.1,y.2.2.1⟩:Rt)) zHM.out (fun _=>rfl) zHM.run (fun x=>by kernel_rfl) (by kernel_rfl) (zac zCB (trivial))
def zIS:Sig:=⟨[(false,[.d (.sl .rat)])],[],false,[(false,[.own 0])],[(0,.arr false .rat)]⟩
def zHy:Con:=⟨zIS,List Rt,fun x=>zdc x.1,fun r=>(r,())⟩
def zpW:Code:=Tryz.f72.body.getD .skip
def zi6:Code:=(zad zpW).getD 0 .skip
def zlq:LoopD:=⟨⟨zaf [(3,false,[.own 1344]),(7,false,[.d (.sl .rat)]),(8,false,[.d (.int .i64)]),(9,false,[.d (.int .i64)])] 20 0,[(1344,.arr false .rat)]⟩,[(.slot 3 0,1344,.rat)],[(.exit 0,⟨zaf [(3,false,[.own 1344])] 20 0,[(1344,.arr false .rat)]⟩,[(.slot 3 0,1344,.rat)])]⟩
def zsD (x:Tys zlq.head.ks):Option (zcA zlq.outs):=@whileO ((List Rt) × Int × Int × (List Rt) × Unit) ((List Rt) × Unit) zcj x
def zMq:Env:=⟨lay,[(88,zHM)],[(3,zaZ zlq zsD)],[]⟩
theorem zww:zak Tryz.prog FX zMq.cons:=zaa zPY (zab Tryz.func88 (by kernel_rfl)) rfl (zae)
theorem zzD (x:Tys zlq.head.ks):stepL zMq zlq zi6 x=zcj x:=by kernel_rfl
theorem zt0:zad zi6=[]:=by kernel_rfl
theorem zLg:zaz Tryz.prog FX (zaZ zlq zsD) zi6:=zam mix zfc zww (by kernel_rfl) (zac zt0 (trivial)) zzD fun _ _ h=>h
theorem zCi:zad zpW=[zi6]:=by kernel_rfl
theorem zPK:zax Tryz.prog FX 72 zHy:=zai (E:=zMq) (code:=zpW) mix zfc zww Tryz.func72 (by kernel_rfl) zIS (by kernel_rfl) (fun y=>y.1) zHy.out (fun _=>rfl) zHy.run (fun x=>by kernel_rfl) (by kernel_rfl) (zac zCi (⟨⟨_,by kernel_rfl,zLg⟩,trivial⟩))
def zIR:Sig:=⟨[(true,[.d (.int .i64),.d (.int .i64),.d (.sl .rat)]),(true,[.d (.int .i64),.d (.int .i64),.d (.sl .rat)])],[],false,[(true,[.d (.int .i64),.d (.int .i64),.own 0])],[(0,.arr false .rat)]⟩
def zHx:Con:=⟨zIR,Mx,fun x=>zc8 (⟨x.1,x.2.1,x.2.2.1⟩:Mx) (⟨x.2.2.2.1,x.2.2.2.2.1,x.2.2.2.2.2.1⟩:Mx),fun r=>(r.rows,r.cols,r.cells,())⟩
def zpV:Code:=Tryz.f101.body.getD .skip
def zi5:Code:=(zad zpV).getD 0 .skip
def zlp:LoopD:=⟨⟨zaf [(2,false,[.lp 128 0]),(3,false,[.lp 192 0]),(4,false,[.lp 256 0]),(5,false,[.lp 320 0]),(6,false,[.d (.int .i64)])] 38 0,[(128,.box [.d (.int .i64),.d (.int .i64),.d (.sl .rat)]),(192,.box [.d (.int .i64),.d (.int .i64),.d (.sl .rat)]),(256,.box [.d (.int .i64),.d (.int .i64),.d (.sl .rat)]),(320,.box [.d (.int .i64),.d (.int .i64),.own 2496]),(2496,.arr false .rat)]⟩,[(.box 320 2,2496,.rat)],[(.exit 0,⟨zaf [(4,false,[.lp 256 0]),(5,false,[.lp 320 0])] 38 0,[(256,.box [.d (.int .i64),.d (.int .i64),.d (.sl .rat)]),(320,.box [.d (.int .i64),.d (.int .i64),.own 2496]),(2496,.arr false .rat)]⟩,[(.box 320 2,2496,.rat)])]⟩
def zsC (x:Tys zlp.head.ks):Option (zcA zlp.outs):=@whileO (Int × Int × Int × (List Rt) × Int × Int × (List Rt) × Int × Int × (List Rt) × Int × Int × (List Rt) × Unit) (Int × Int × (List Rt) × Int × Int × (List Rt) × Unit) zbJ x
def zMp:Env:=⟨lay,[(105,zHN),(72,zHy)],[(3,zaZ zlp zsC)],[(5,[(0,[]),(1,[]),(2,[]),(3,[]),(4,[2,3]),(5,[4,2,3]),(6,[1,5,0,4,2,3]),(7,[]),(8,[7,6,0,1,2,3,4,5])]),(6,[(0,[]),(1,[]),(2,[]),(3,[]),(4,[2,3]),(5,[4,2,3]),(6,[1,5,0,4,2,3]),(7,[]),(8,[7,6,0,1,2,3,4,5])])]⟩
theorem zwv:zak Tryz.prog FX zMp.cons:=zaa zPZ (zab Tryz.func105 (by kernel_rfl)) rfl (zaa zPK (zab Tryz.func72 (by kernel_rfl)) rfl (zae))
theorem zzC (x:Tys zlp.head.ks):stepL zMp zlp zi5 x=zbJ x:=by kernel_rfl
theorem ztZ:zad zi5=[]:=by kernel_rfl
theorem zLf:zaz Tryz.prog FX (zaZ zlp zsC) zi5:=zam mix zfc zwv (by kernel_rfl) (zac ztZ (trivial)) zzC fun _ _ h=>h
theorem zCh:zad zpV=[zi5]:=by kernel_rfl
theorem zPJ:zax Tryz.prog FX 101 zHx:=zai (E:=zMp) (code:=zpV) mix zfc zwv Tryz.func101 (by kernel_rfl) zIR (by kernel_rfl) (fun y=>(⟨y.1,y.2.1,y.2.2.1⟩:Mx)) zHx.out (fun _=>rfl) zHx.run (fun x=>by kernel_rfl) (by kernel_rfl) (zac zCh (⟨⟨_,by kernel_rfl,zLf⟩,trivial⟩))
def zI3:Sig:=⟨[(true,[.d (.int .i64),.d (.int .i64),.own 191]),(false,[.d (.int .i64)]),(false,[.d (.int .i64)])],[(191,.arr false .rat)],false,[(true,[.d (.bool),.d (.sl .int),.d (.sl .int)])],[(191,.arr false .rat)]⟩
def zy6:Con:=⟨zI3,Rt × List Rt,fun x=>zaN (⟨x.1,x.2.1,x.2.2.2.2.1⟩:Mx) x.2.2.1 x.2.2.2.1,fun r=>(r.1.neg,r.1.mag,r.1.den,r.2,())⟩
def zxl:Code:=Tryz.f65.body.getD .skip
def zOJ:Env:=⟨zbH,[],[],[]⟩
theorem zGS:zak Tryz.prog FX zOJ.cons:=zae
theorem zCt:zad zxl=[]:=by kernel_rfl
theorem zKH:zax Tryz.prog FX 65 zy6:=zai (E:=zOJ) (code:=zxl) mix zah zGS Tryz.func65 (by kernel_rfl) zI3 (by kernel_rfl) (fun y=>((⟨y.1,y.2.1,y.2.2.1⟩:Rt),y.2.2.2.1)) zy6.out (fun _=>rfl) zy6.run (fun x=>by kernel_rfl) (by kernel_rfl) (zac zCt (trivial))
def zJa:Sig:=⟨[(true,[.d (.bool),.d (.sl .int),.d (.sl .int)])],[],false,[(false,[.d (.bool)])],[]⟩
def zEl:Con:=⟨zJa,Bool,fun x=>zc1 (⟨x.1,x.2.1,x.2.2.1⟩:Rt),fun r=>(r,())⟩
def zxs:Code:=Tryz.f73.body.getD .skip
def zOQ:Env:=⟨zbH,[],[],[]⟩
theorem zGZ:zak Tryz.prog FX zOQ.cons:=zae
theorem zCA:zad zxs=[]:=by kernel_rfl
theorem zNq:zax Tryz.prog FX 73 zEl:=zai (E:=zOQ) (code:=zxs) mix zah zGZ Tryz.func73 (by kernel_rfl) zJa (by kernel_rfl) (fun y=>y.1) zEl.out (fun _=>rfl) zEl.run (fun x=>by kernel_rfl) (by kernel_rfl) (zac zCA (trivial))
def zJk:Sig:=⟨[(false,[.d (.sl .int)])],[],false,[(false,[.d (.sl .int)])],[]⟩
def zEq:Con:=⟨zJk,List Int,fun x=>zdd x.1,fun r=>(r,())⟩
def zp6:Code:=Tryz.f139.body.getD .skip
def zji:Code:=(zad zp6).getD 0 .skip
def zlE:LoopD:=⟨⟨zaf [(0,false,[.d (.sl .int)]),(3,false,[.d (.int .i64)])] 21 0,[]⟩,[],[(.exit 0,⟨zaf [(0,false,[.d (.sl .int)]),(3,false,[.d (.int .i64)])] 21 0,[]⟩,[])]⟩
def zsR (x:Tys zlE.head.ks):Option (zcA zlE.outs):=@whileO ((List Int) × Int × Unit) ((List Int) × Int × Unit) zc7 x
def zMy:Env:=⟨zbH,[],[(2,zaZ zlE zsR)],[]⟩
theorem zwE:zak Tryz.prog FX zMy.cons:=zae
theorem zzR (x:Tys zlE.head.ks):stepL zMy zlE zji x=zc7 x:=by kernel_rfl
theorem zuh:zad zji=[]:=by kernel_rfl
theorem zLu:zaz Tryz.prog FX (zaZ zlE zsR) zji:=zam mix zah zwE (by kernel_rfl) (zac zuh (trivial)) zzR fun _ _ h=>h
theorem zCK:zad zp6=[zji]:=by kernel_rfl
theorem zNv:zax Tryz.prog FX 139 zEq:=zai (E:=zMy) (code:=zp6) mix zah zwE Tryz.func139 (by kernel_rfl) zJk (by kernel_rfl) (fun y=>y.1) zEq.out (fun _=>rfl) zEq.run (fun x=>by kernel_rfl) (by kernel_rfl) (zac zCK (⟨⟨_,by kernel_rfl,zLu⟩,trivial⟩))
def zI9:Sig:=⟨[(false,[.d (.sl .int)])],[],false,[(false,[.d (.sl .int)])],[]⟩
def zHL:Con:=⟨zI9,List Int,fun x=>zfB x.1,fun r=>(r,())⟩
def zxr:Code:=Tryz.f134.body.getD .skip
def zOP:Env:=⟨zbH,[(139,zEq)],[],[]⟩
theorem zGY:zak Tryz.prog FX zOP.cons:=zaa zNv (zab Tryz.func139 (by kernel_rfl)) rfl (zae)
theorem zCz:zad zxr=[]:=by kernel_rfl
theorem zPX:zax Tryz.prog FX 134 zHL:=zai (E:=zOP) (code:=zxr) mix zah zGY Tryz.func134 (by kernel_rfl) zI9 (by kernel_rfl) (fun y=>y.1) zHL.out (fun _=>rfl) zHL.run (fun x=>by kernel_rfl) (by kernel_rfl) (zac zCz (trivial))
def zI8:Sig:=⟨[(false,[.d (.bool)]),(false,[.d (.sl .int)])],[],false,[(true,[.d (.bool),.own 0])],[(0,.arr false .int)]⟩
def zr3:Con:=⟨zI8,Bg,fun x=>zav x.1 x.2.1,fun r=>(r.neg,r.mag,())⟩
def zxq:Code:=Tryz.f110.body.getD .skip
def zOO:Env:=⟨zbH,[(134,zHL)],[],[]⟩
theorem zGX:zak Tryz.prog FX zOO.cons:=zaa zPX (zab Tryz.func134 (by kernel_rfl)) rfl (zae)
theorem zCy:zad zxq=[]:=by kernel_rfl
theorem zBv:zax Tryz.prog FX 110 zr3:=zai (E:=zOO) (code:=zxq) mix zah zGX Tryz.func110 (by kernel_rfl) zI8 (by kernel_rfl) (fun y=>(⟨y.1,y.2.1⟩:Bg)) zr3.out (fun _=>rfl) zr3.run (fun x=>by kernel_rfl) (by kernel_rfl) (zac zCy (trivial))
def zI7:Sig:=⟨[(false,[.d (.int .i64)])],[],false,[(true,[.d (.bool),.own 0])],[(0,.arr false .int)]⟩
def zHK:Con:=⟨zI7,Bg,fun x=>zez x.1,fun r=>(r.neg,r.mag,())⟩
def zxp:Code:=Tryz.f109.body.getD .skip
def zON:Env:=⟨zbH,[(110,zr3),(133,zuX)],[],[]⟩
theorem zGW:zak Tryz.prog FX zON.cons:=zaa zBv (zab Tryz.func110 (by kernel_rfl)) rfl (zaa zFx (zab Tryz.func133 (by kernel_rfl)) rfl (zae))
theorem zCx:zad zxp=[]:=by kernel_rfl
theorem zPW:zax Tryz.prog FX 109 zHK:=zai (E:=zON) (code:=zxp) mix zah zGW Tryz.func109 (by kernel_rfl) zI7 (by kernel_rfl) (fun y=>(⟨y.1,y.2.1⟩:Bg)) zHK.out (fun _=>rfl) zHK.run (fun x=>by kernel_rfl) (by kernel_rfl) (zac zCx (trivial))
def zI6:Sig:=⟨[(false,[.d (.int .i64)])],[],false,[(true,[.d (.bool),.own 0,.own 1])],[(0,.arr false .int),(1,.arr false .int)]⟩
def zHJ:Con:=⟨zI6,Rt,fun x=>zcU x.1,fun r=>(r.neg,r.mag,r.den,())⟩
def zxo:Code:=Tryz.f63.body.getD .skip
def zOM:Env:=⟨zbH,[(109,zHK)],[],[]⟩
theorem zGV:zak Tryz.prog FX zOM.cons:=zaa zPW (zab Tryz.func109 (by kernel_rfl)) rfl (zae)
theorem zCw:zad zxo=[]:=by kernel_rfl
theorem zPV:zax Tryz.prog FX 63 zHJ:=zai (E:=zOM) (code:=zxo) mix zah zGV Tryz.func63 (by kernel_rfl) zI6 (by kernel_rfl) (fun y=>(⟨y.1,y.2.1,y.2.2.1⟩:Rt)) zHJ.out (fun _=>rfl) zHJ.run (fun x=>by kernel_rfl) (by kernel_rfl) (zac zCw (trivial))
def zI5:Sig:=⟨[(false,[.d (.bool)]),(false,[.d (.sl .int)]),(false,[.d (.sl .int)])],[],false,[(true,[.d (.bool),.own 0,.own 1])],[(0,.arr false .int),(1,.arr false .int)]⟩
def zy7:Con:=⟨zI5,Rt,fun x=>zaS x.1 x.2.1 x.2.2.1,fun r=>(r.neg,r.mag,r.den,())⟩
def zxn:Code:=Tryz.f117.body.getD .skip
def zOL:Env:=⟨zbH,[(139,zEq),(115,zy8),(116,zEn),(138,zEo),(110,zr3)],[],[]⟩
theorem zGU:zak Tryz.prog FX zOL.cons:=zaa zNv (zab Tryz.func139 (by kernel_rfl)) rfl (zaa zKJ (zab Tryz.func115 (by kernel_rfl)) rfl (zaa zNs (zab Tryz.func116 (by kernel_rfl)) rfl (zaa zNt (zab Tryz.func138 (by kernel_rfl)) rfl (zaa zBv (zab Tryz.func110 (by kernel_rfl)) rfl (zae)))))
theorem zCv:zad zxn=[]:=by kernel_rfl
theorem zKI:zax Tryz.prog FX 117 zy7:=zai (E:=zOL) (code:=zxn) mix zah zGU Tryz.func117 (by kernel_rfl) zI5 (by kernel_rfl) (fun y=>(⟨y.1,y.2.1,y.2.2.1⟩:Rt)) zy7.out (fun _=>rfl) zy7.run (fun x=>by kernel_rfl) (by kernel_rfl) (zac zCv (trivial))
def zI4:Sig:=⟨[(true,[.d (.bool),.d (.sl .int),.d (.sl .int)]),(true,[.d (.bool),.d (.sl .int),.d (.sl .int)])],[],false,[(true,[.d (.bool),.own 0,.own 1])],[(0,.arr false .int),(1,.arr false .int)]⟩
def zHI:Con:=⟨zI4,Rt,fun x=>zer (⟨x.1,x.2.1,x.2.2.1⟩:Rt) (⟨x.2.2.2.1,x.2.2.2.2.1,x.2.2.2.2.2.1⟩:Rt),fun r=>(r.neg,r.mag,r.den,())⟩
def zxm:Code:=Tryz.f74.body.getD .skip
def zOK:Env:=⟨zbH,[(118,zr4),(117,zy7)],[],[(1,[(0,[]),(1,[]),(2,[]),(3,[]),(4,[]),(5,[]),(6,[]),(7,[]),(8,[]),(9,[]),(10,[]),(11,[]),(13,[]),(14,[]),(15,[]),(16,[]),(17,[]),(12,[9,11,8,10,7]),(18,[14,17,12,13,16,9,11,15,8,10,7]),(19,[6,12,18,2,5,9,11,14,17,1,4,8,10,13,16,0,3,7,15]),(20,[19,0,1,2,3,4,5,6,7,8,9,10,11,12,13,14,15,16,17,18])])]⟩
theorem zGT:zak Tryz.prog FX zOK.cons:=zaa zBw (zab Tryz.func118 (by kernel_rfl)) rfl (zaa zKI (zab Tryz.func117 (by kernel_rfl)) rfl (zae))
theorem zCu:zad zxm=[]:=by kernel_rfl
theorem zPU:zax Tryz.prog FX 74 zHI:=zai (E:=zOK) (code:=zxm) mix zah zGT Tryz.func74 (by kernel_rfl) zI4 (by kernel_rfl) (fun y=>(⟨y.1,y.2.1,y.2.2.1⟩:Rt)) zHI.out (fun _=>rfl) zHI.run (fun x=>by kernel_rfl) (by kernel_rfl) (zac zCu (trivial))
def zI2:Sig:=⟨[(true,[.d (.bool),.d (.sl .int),.d (.sl .int)]),(true,[.d (.bool),.d (.sl .int),.d (.sl .int)])],[],false,[(true,[.d (.bool),.own 0,.own 1])],[(0,.arr false .int),(1,.arr false .int)]⟩
def zHH:Con:=⟨zI2,Rt,fun x=>zes (⟨x.1,x.2.1,x.2.2.1⟩:Rt) (⟨x.2.2.2.1,x.2.2.2.2.1,x.2.2.2.2.2.1⟩:Rt),fun r=>(r.neg,r.mag,r.den,())⟩
def zxk:Code:=Tryz.f87.body.getD .skip
def zOI:Env:=⟨zbH,[(118,zr4),(117,zy7)],[],[(1,[(0,[]),(1,[]),(2,[]),(3,[]),(4,[]),(5,[]),(6,[]),(7,[]),(8,[]),(9,[]),(10,[]),(11,[]),(12,[]),(14,[]),(15,[]),(16,[]),(17,[]),(13,[9,12,8,11,7,10]),(18,[15,17,13,14,16,9,12,8,11,7,10]),(19,[6,13,18,2,5,9,12,15,17,1,4,8,11,14,16,0,3,7,10]),(20,[19,0,1,2,3,4,5,6,7,8,9,10,11,12,13,14,15,16,17,18])])]⟩
theorem zGR:zak Tryz.prog FX zOI.cons:=zaa zBw (zab Tryz.func118 (by kernel_rfl)) rfl (zaa zKI (zab Tryz.func117 (by kernel_rfl)) rfl (zae))
theorem zCs:zad zxk=[]:=by kernel_rfl
theorem zPT:zax Tryz.prog FX 87 zHH:=zai (E:=zOI) (code:=zxk) mix zah zGR Tryz.func87 (by kernel_rfl) zI2 (by kernel_rfl) (fun y=>(⟨y.1,y.2.1,y.2.2.1⟩:Rt)) zHH.out (fun _=>rfl) zHH.run (fun x=>by kernel_rfl) (by kernel_rfl) (zac zCs (trivial))
def zI1:Sig:=⟨[(true,[.d (.bool),.d (.sl .int),.d (.sl .int)])],[],false,[(true,[.d (.bool),.own 0,.own 1])],[(0,.arr false .int),(1,.arr false .int)]⟩
def zHG:Con:=⟨zI1,Rt,fun x=>zfA (⟨x.1,x.2.1,x.2.2.1⟩:Rt),fun r=>(r.neg,r.mag,r.den,())⟩
def zxj:Code:=Tryz.f64.body.getD .skip
def zOH:Env:=⟨zbH,[(110,zr3)],[],[(1,[(0,[]),(1,[]),(2,[]),(3,[]),(4,[]),(5,[]),(6,[]),(8,[]),(9,[]),(10,[]),(7,[3,6,2,5,1,4,0]),(11,[8,10,7,9,3,6,2,5,1,4,0]),(12,[]),(13,[12,11,0,1,2,3,4,5,6,7,8,9,10])])]⟩
theorem zGQ:zak Tryz.prog FX zOH.cons:=zaa zBv (zab Tryz.func110 (by kernel_rfl)) rfl (zae)
theorem zCr:zad zxj=[]:=by kernel_rfl
theorem zPS:zax Tryz.prog FX 64 zHG:=zai (E:=zOH) (code:=zxj) mix zah zGQ Tryz.func64 (by kernel_rfl) zI1 (by kernel_rfl) (fun y=>(⟨y.1,y.2.1,y.2.2.1⟩:Rt)) zHG.out (fun _=>rfl) zHG.run (fun x=>by kernel_rfl) (by kernel_rfl) (zac zCr (trivial))
def zI0:Sig:=⟨[(false,[.d (.sl .int)]),(false,[.d (.sl .int)])],[],false,[(false,[.own 0])],[(0,.arr false .int)]⟩
def zHF:Con:=⟨zI0,List Int,fun x=>zfC x.1 x.2.1,fun r=>(r,())⟩
def zp0:Code:=Tryz.f154.body.getD .skip
def zjc:Code:=(zad zp0).getD 0 .skip
def zly:LoopD:=⟨⟨zaf [(0,false,[.d (.sl .int)]),(1,false,[.d (.sl .int)]),(5,false,[.own 3584]),(6,false,[.d (.int .i64)]),(7,false,[.d (.int .i64)])] 55 0,[(3584,.arr false .int)]⟩,[(.slot 5 0,3584,.int)],[(.exit 0,⟨zaf [(5,false,[.own 3584])] 55 0,[(3584,.arr false .int)]⟩,[(.slot 5 0,3584,.int)])]⟩
def zsL (x:Tys zly.head.ks):Option (zcA zly.outs):=@whileO ((List Int) × (List Int) × Int × Int × (List Int) × Unit) ((List Int) × Unit) zaX x
def zMs:Env:=⟨zbH,[],[(4,zaZ zly zsL)],[]⟩
theorem zwy:zak Tryz.prog FX zMs.cons:=zae
theorem zzL (x:Tys zly.head.ks):stepL zMs zly zjc x=zaX x:=by kernel_rfl
theorem zt8:zad zjc=[]:=by kernel_rfl
theorem zLo:zaz Tryz.prog FX (zaZ zly zsL) zjc:=zam mix zah zwy (by kernel_rfl) (zac zt8 (trivial)) zzL fun _ _ h=>h
theorem zCq:zad zp0=[zjc]:=by kernel_rfl
theorem zPR:zax Tryz.prog FX 154 zHF:=zai (E:=zMs) (code:=zp0) mix zah zwy Tryz.func154 (by kernel_rfl) zI0 (by kernel_rfl) (fun y=>y.1) zHF.out (fun _=>rfl) zHF.run (fun x=>by kernel_rfl) (by kernel_rfl) (zac zCq (⟨⟨_,by kernel_rfl,zLo⟩,trivial⟩))
def zIZ:Sig:=⟨[(true,[.d (.bool),.d (.sl .int)]),(true,[.d (.bool),.d (.sl .int)])],[],false,[(true,[.d (.bool),.own 0])],[(0,.arr false .int)]⟩
def zHE:Con:=⟨zIZ,Bg,fun x=>zco (⟨x.1,x.2.1⟩:Bg) (⟨x.2.2.1,x.2.2.2.1⟩:Bg),fun r=>(r.neg,r.mag,())⟩
def zxi:Code:=Tryz.f141.body.getD .skip
def zOG:Env:=⟨zbH,[(154,zHF),(110,zr3),(149,zuY),(152,zEp)],[],[(2,[(0,[]),(1,[]),(2,[]),(3,[]),(4,[]),(5,[]),(6,[3,5,2,4]),(7,[1,6,0,3,5,2,4]),(8,[7,0,1,2,3,4,5,6])]),(4,[(0,[]),(1,[]),(2,[]),(3,[]),(4,[]),(5,[]),(6,[3,5,2,4]),(7,[1,6,0,3,5,2,4]),(8,[7,0,1,2,3,4,5,6])]),(5,[(0,[]),(1,[]),(2,[]),(3,[]),(4,[]),(5,[]),(6,[3,5,2,4]),(7,[1,6,0,3,5,2,4]),(8,[7,0,1,2,3,4,5,6])])]⟩
theorem zGP:zak Tryz.prog FX zOG.cons:=zaa zPR (zab Tryz.func154 (by kernel_rfl)) rfl (zaa zBv (zab Tryz.func110 (by kernel_rfl)) rfl (zaa zFy (zab Tryz.func149 (by kernel_rfl)) rfl (zaa zNu (zab Tryz.func152 (by kernel_rfl)) rfl (zae))))
theorem zCp:zad zxi=[]:=by kernel_rfl
theorem zPQ:zax Tryz.prog FX 141 zHE:=zai (E:=zOG) (code:=zxi) mix zah zGP Tryz.func141 (by kernel_rfl) zIZ (by kernel_rfl) (fun y=>(⟨y.1,y.2.1⟩:Bg)) zHE.out (fun _=>rfl) zHE.run (fun x=>by kernel_rfl) (by kernel_rfl) (zac zCp (trivial))
def zIY:Sig:=⟨[(true,[.d (.bool),.d (.sl .int),.d (.sl .int)]),(true,[.d (.bool),.d (.sl .int),.d (.sl .int)])],[],false,[(true,[.d (.bool),.own 0,.own 1])],[(0,.arr false .int),(1,.arr false .int)]⟩
def zHD:Con:=⟨zIY,Rt,fun x=>zdK (⟨x.1,x.2.1,x.2.2.1⟩:Rt) (⟨x.2.2.2.1,x.2.2.2.2.1,x.2.2.2.2.2.1⟩:Rt),fun r=>(r.neg,r.mag,r.den,())⟩
def zxh:Code:=Tryz.f125.body.getD .skip
def zOF:Env:=⟨zbH,[(115,zy8),(141,zHE),(117,zy7),(118,zr4),(110,zr3)],[],[(4,[(0,[]),(1,[]),(2,[]),(3,[]),(4,[]),(5,[]),(6,[]),(7,[]),(8,[5,7,4,6,3]),(9,[2,8,1,5,7,0,4,6,3]),(10,[]),(11,[10,9,0,1,2,3,4,5,6,7,8])]),(5,[(0,[]),(1,[]),(2,[]),(3,[]),(4,[]),(5,[]),(6,[]),(7,[]),(8,[5,7,4,6,3]),(9,[2,8,1,5,7,0,4,6,3]),(10,[]),(11,[10,9,0,1,2,3,4,5,6,7,8])]),(7,[(0,[]),(1,[]),(2,[]),(3,[]),(4,[]),(5,[]),(6,[]),(7,[]),(8,[5,7,4,6]),(9,[1,3,8,0,2,5,7,4,6]),(10,[9,0,1,2,3,4,5,6,7,8])])]⟩
theorem zGO:zak Tryz.prog FX zOF.cons:=zaa zKJ (zab Tryz.func115 (by kernel_rfl)) rfl (zaa zPQ (zab Tryz.func141 (by kernel_rfl)) rfl (zaa zKI (zab Tryz.func117 (by kernel_rfl)) rfl (zaa zBw (zab Tryz.func118 (by kernel_rfl)) rfl (zaa zBv (zab Tryz.func110 (by kernel_rfl)) rfl (zae)))))
theorem zCo:zad zxh=[]:=by kernel_rfl
theorem zPP:zax Tryz.prog FX 125 zHD:=zai (E:=zOF) (code:=zxh) mix zah zGO Tryz.func125 (by kernel_rfl) zIY (by kernel_rfl) (fun y=>(⟨y.1,y.2.1,y.2.2.1⟩:Rt)) zHD.out (fun _=>rfl) zHD.run (fun x=>by kernel_rfl) (by kernel_rfl) (zac zCo (trivial))
def zIX:Sig:=⟨[(true,[.d (.bool),.d (.sl .int),.d (.sl .int)]),(true,[.d (.bool),.d (.sl .int),.d (.sl .int)])],[],false,[(true,[.d (.bool),.own 0,.own 1])],[(0,.arr false .int),(1,.arr false .int)]⟩
def zHC:Con:=⟨zIX,Rt,fun x=>zfy (⟨x.1,x.2.1,x.2.2.1⟩:Rt) (⟨x.2.2.2.1,x.2.2.2.2.1,x.2.2.2.2.2.1⟩:Rt),fun r=>(r.neg,r.mag,r.den,())⟩
def zxg:Code:=Tryz.f86.body.getD .skip
def zOE:Env:=⟨zbH,[(64,zHG),(125,zHD)],[],[(1,[(0,[]),(1,[]),(2,[1]),(3,[0,2,1]),(4,[3,0,1,2])])]⟩
theorem zGN:zak Tryz.prog FX zOE.cons:=zaa zPS (zab Tryz.func64 (by kernel_rfl)) rfl (zaa zPP (zab Tryz.func125 (by kernel_rfl)) rfl (zae))
theorem zCn:zad zxg=[]:=by kernel_rfl
theorem zPO:zax Tryz.prog FX 86 zHC:=zai (E:=zOE) (code:=zxg) mix zah zGN Tryz.func86 (by kernel_rfl) zIX (by kernel_rfl) (fun y=>(⟨y.1,y.2.1,y.2.2.1⟩:Rt)) zHC.out (fun _=>rfl) zHC.run (fun x=>by kernel_rfl) (by kernel_rfl) (zac zCn (trivial))
def zIW:Sig:=⟨[(true,[.d (.int .i64),.d (.int .i64),.own 191]),(false,[.d (.int .i64)]),(false,[.d (.int .i64)])],[(191,.arr false .rat)],true,[],[(191,.arr false .rat)]⟩
def zHB:Con:=⟨zIW,List Rt,fun x=>zcc (⟨x.1,x.2.1,x.2.2.2.2.1⟩:Mx) x.2.2.1 x.2.2.2.1,fun r=>(r,())⟩
def zpZ:Code:=Tryz.f75.body.getD .skip
def zgP:Code:=(zad zpZ).getD 0 .skip
def zjb:Code:=(zad zgP).getD 0 .skip
def zlx:LoopD:=⟨⟨zaf [(1,false,[.d (.int .i64)]),(2,false,[.d (.int .i64)]),(3,false,[.lp 192 0]),(6,false,[.d (.int .i64)])] 59 0,[(191,.arr false .rat),(192,.box [.d (.int .i64),.d (.int .i64),.own 191])]⟩,[],[(.exit 0,⟨zaf [] 59 0,[(191,.arr false .rat)]⟩,[])]⟩
def zlw:LoopD:=⟨⟨zaf [(1,false,[.d (.int .i64)]),(2,false,[.d (.int .i64)]),(3,false,[.lp 192 0]),(6,false,[.d (.int .i64)]),(7,false,[.lp 448 0]),(8,false,[.d (.int .i64)])] 59 0,[(191,.arr false .rat),(192,.box [.d (.int .i64),.d (.int .i64),.own 191]),(448,.box [.d (.bool),.d (.sl .int),.d (.sl .int)])]⟩,[],[(.exit 2,⟨zaf [(1,false,[.d (.int .i64)]),(2,false,[.d (.int .i64)]),(3,false,[.lp 192 0]),(6,false,[.d (.int .i64)])] 59 0,[(191,.arr false .rat),(192,.box [.d (.int .i64),.d (.int .i64),.own 191])]⟩,[])]⟩
def zsK (x:Tys zlx.head.ks):Option (zcA zlx.outs):=@whileO (Int × Int × Int × (List Rt) × Int × Int × Unit) ((List Rt) × Unit) zbc x
def zsJ (x:Tys zlw.head.ks):Option (zcA zlw.outs):=@whileO (Int × Int × Int × Int × (List Rt) × Int × Int × Bool × (List Int) × (List Int) × Unit) (Int × Int × Int × (List Rt) × Int × Int × Unit) zbb x
def zH6:Env:=⟨lay,[(65,zy6),(73,zEl),(87,zHH),(86,zHC)],[(2,zaZ zlx zsK),(7,zaZ zlw zsJ)],[(10,[(0,[]),(1,[]),(2,[]),(3,[]),(4,[]),(5,[]),(6,[]),(7,[]),(8,[]),(9,[]),(10,[]),(12,[]),(13,[]),(14,[]),(15,[]),(11,[8,9,10]),(16,[13,14,15,11,8,9,10]),(17,[12,16,13,14,15,11,8,9,10]),(18,[11,17,8,9,10,12,16,13,14,15]),(19,[]),(20,[19,18,0,1,2,3,4,5,6,7,8,9,10,11,12,13,14,15,16,17])])]⟩
theorem zpF:zak Tryz.prog FX zH6.cons:=zaa zKH (zab Tryz.func65 (by kernel_rfl)) rfl (zaa zNq (zab Tryz.func73 (by kernel_rfl)) rfl (zaa zPT (zab Tryz.func87 (by kernel_rfl)) rfl (zaa zPO (zab Tryz.func86 (by kernel_rfl)) rfl (zae))))
theorem zzJ (x:Tys zlw.head.ks):stepL zH6 zlw zjb x=zbb x:=by kernel_rfl
theorem zt6:zad zjb=[]:=by kernel_rfl
theorem zLm:zaz Tryz.prog FX (zaZ zlw zsJ) zjb:=zam mix zfc zpF (by kernel_rfl) (zac zt6 (trivial)) zzJ fun _ _ h=>h
theorem zzK (x:Tys zlx.head.ks):stepL zH6 zlx zgP x=zbc x:=by kernel_rfl
theorem zt7:zad zgP=[zjb]:=by kernel_rfl
theorem zLn:zaz Tryz.prog FX (zaZ zlx zsK) zgP:=zam mix zfc zpF (by kernel_rfl) (zac zt7 (⟨⟨_,by kernel_rfl,zLm⟩,trivial⟩)) zzK fun _ _ h=>h
theorem zCm:zad zpZ=[zgP]:=by kernel_rfl
theorem zPN:zax Tryz.prog FX 75 zHB:=zai (E:=zH6) (code:=zpZ) mix zfc zpF Tryz.func75 (by kernel_rfl) zIW (by kernel_rfl) (fun y=>y.1) zHB.out (fun _=>rfl) zHB.run (fun x=>by kernel_rfl) (by kernel_rfl) (zac zCm (⟨⟨_,by kernel_rfl,zLn⟩,trivial⟩))
def zIV:Sig:=⟨[(true,[.d (.bool),.d (.sl .int),.d (.sl .int)])],[],false,[(false,[.d (.bool)])],[]⟩
def zHA:Con:=⟨zIV,Bool,fun x=>zfz (⟨x.1,x.2.1,x.2.2.1⟩:Rt),fun r=>(r,())⟩
def zxf:Code:=Tryz.f76.body.getD .skip
def zOD:Env:=⟨zbH,[],[],[]⟩
theorem zGM:zak Tryz.prog FX zOD.cons:=zae
theorem zCl:zad zxf=[]:=by kernel_rfl
theorem zPM:zax Tryz.prog FX 76 zHA:=zai (E:=zOD) (code:=zxf) mix zah zGM Tryz.func76 (by kernel_rfl) zIV (by kernel_rfl) (fun y=>y.1) zHA.out (fun _=>rfl) zHA.run (fun x=>by kernel_rfl) (by kernel_rfl) (zac zCl (trivial))
def zIU:Sig:=⟨[(false,[.d (.sl .rat)])],[],false,[(false,[.d (.bool)])],[]⟩
def zEk:Con:=⟨zIU,Bool,fun x=>zcy x.1,fun r=>(r,())⟩
def zpY:Code:=Tryz.f37.body.getD .skip
def zja:Code:=(zad zpY).getD 0 .skip
def zlv:LoopD:=⟨⟨zaf [(5,false,[.d (.sl .rat)]),(6,false,[.d (.int .i64)]),(7,false,[.d (.int .i64)])] 14 0,[]⟩,[],[(.ret,⟨zaf [(2,false,[.d (.bool)])] 14 0,[]⟩,[]),(.exit 0,⟨zaf [] 14 0,[]⟩,[])]⟩
def zsI (x:Tys zlv.head.ks):Option (zcA zlv.outs):=@whileO ((List Rt) × Int × Int × Unit) ((Bool × Unit) ⊕ (Unit)) zci x
def zMr:Env:=⟨zbH,[(76,zHA)],[(2,zaZ zlv zsI)],[]⟩
theorem zwx:zak Tryz.prog FX zMr.cons:=zaa zPM (zab Tryz.func76 (by kernel_rfl)) rfl (zae)
theorem zzI (x:Tys zlv.head.ks):stepL zMr zlv zja x=zci x:=by kernel_rfl
theorem zt5:zad zja=[]:=by kernel_rfl
theorem zLl:zaz Tryz.prog FX (zaZ zlv zsI) zja:=zam mix zah zwx (by kernel_rfl) (zac zt5 (trivial)) zzI fun _ _ h=>h
theorem zCk:zad zpY=[zja]:=by kernel_rfl
theorem zNp:zax Tryz.prog FX 37 zEk:=zai (E:=zMr) (code:=zpY) mix zah zwx Tryz.func37 (by kernel_rfl) zIU (by kernel_rfl) (fun y=>y.1) zEk.out (fun _=>rfl) zEk.run (fun x=>by kernel_rfl) (by kernel_rfl) (zac zCk (⟨⟨_,by kernel_rfl,zLl⟩,trivial⟩))
def zIT:Sig:=⟨[(true,[.d (.int .i64),.d (.int .i64),.own 191])],[(191,.arr false .rat)],true,[(false,[.own 0]),(false,[.own 1])],[(0,.arr false .int),(1,.arr false .rat),(191,.arr false .rat)]⟩
def zHz:Con:=⟨zIT,List Int × List Rt × List Rt,fun x=>zbL (⟨x.1,x.2.1,x.2.2.1⟩:Mx),fun r=>(r.1,r.2.1,r.2.2,())⟩
def zpX:Code:=Tryz.f36.body.getD .skip
def ze0:Code:=(zad zpX).getD 0 .skip
def zi9:Code:=(zad ze0).getD 0 .skip
def zi8:Code:=(zad ze0).getD 1 .skip
def zi7:Code:=(zad ze0).getD 2 .skip
def zlu:LoopD:=⟨⟨zaf [(1,false,[.lp 64 0]),(4,false,[.own 9536]),(5,false,[.own 9600]),(6,false,[.d (.int .i64)])] 146 0,[(64,.box [.d (.int .i64),.d (.int .i64),.own 191]),(191,.arr false .rat),(9536,.arr false .int),(9600,.arr false .rat)]⟩,[(.slot 4 0,9536,.int),(.slot 5 0,9600,.rat)],[(.ret,⟨zaf [(2,false,[.own 9408]),(3,false,[.own 9472])] 146 0,[(191,.arr false .rat),(9408,.arr false .int),(9472,.arr false .rat)]⟩,[]),(.exit 0,⟨zaf [(4,false,[.own 9536]),(5,false,[.own 9600])] 146 0,[(191,.arr false .rat),(9536,.arr false .int),(9600,.arr false .rat)]⟩,[(.slot 4 0,9536,.int),(.slot 5 0,9600,.rat)])]⟩
def zlt:LoopD:=⟨⟨zaf [(1,false,[.lp 64 0]),(4,false,[.own 9408]),(5,false,[.own 9472]),(6,false,[.d (.int .i64)]),(7,false,[.d (.int .i64)]),(8,false,[.d (.int .i64)])] 146 0,[(64,.box [.d (.int .i64),.d (.int .i64),.own 191]),(191,.arr false .rat),(9408,.arr false .int),(9472,.arr false .rat)]⟩,[(.slot 4 0,9408,.int),(.slot 5 0,9472,.rat)],[(.exit 2,⟨zaf [(1,false,[.lp 64 0]),(4,false,[.own 9408]),(5,false,[.own 9472]),(6,false,[.d (.int .i64)]),(7,false,[.d (.int .i64)]),(8,false,[.d (.int .i64)])] 146 0,[(64,.box [.d (.int .i64),.d (.int .i64),.own 191]),(191,.arr false .rat),(9408,.arr false .int),(9472,.arr false .rat)]⟩,[(.slot 4 0,9408,.int),(.slot 5 0,9472,.rat)])]⟩
def zls:LoopD:=⟨⟨zaf [(1,false,[.lp 64 0]),(4,false,[.own 9472]),(5,false,[.own 9408]),(6,false,[.d (.int .i64)]),(7,false,[.d (.int .i64)]),(8,false,[.d (.int .i64)]),(9,false,[.d (.int .i64)])] 146 0,[(64,.box [.d (.int .i64),.d (.int .i64),.own 191]),(191,.arr false .rat),(9408,.arr false .rat),(9472,.arr false .int)]⟩,[(.slot 4 0,9472,.int)],[(.exit 4,⟨zaf [(1,false,[.lp 64 0]),(4,false,[.own 9472]),(5,false,[.own 9408]),(6,false,[.d (.int .i64)]),(7,false,[.d (.int .i64)])] 146 0,[(64,.box [.d (.int .i64),.d (.int .i64),.own 191]),(191,.arr false .rat),(9408,.arr false .rat),(9472,.arr false .int)]⟩,[(.slot 4 0,9472,.int)])]⟩
def zlr:LoopD:=⟨⟨zaf [(1,false,[.lp 64 0]),(4,false,[.own 9472]),(5,false,[.own 9408]),(6,false,[.d (.int .i64)]),(7,false,[.d (.int .i64)]),(11,false,[.lp 704 0]),(12,false,[.d (.int .i64)])] 146 0,[(64,.box [.d (.int .i64),.d (.int .i64),.own 191]),(191,.arr false .rat),(704,.box [.d (.bool),.d (.sl .int),.d (.sl .int)]),(9408,.arr false .rat),(9472,.arr false .int)]⟩,[(.slot 4 0,9472,.int)],[(.exit 6,⟨zaf [(1,false,[.lp 64 0]),(4,false,[.own 9472]),(5,false,[.own 9408]),(6,false,[.d (.int .i64)]),(7,false,[.d (.int .i64)])] 146 0,[(64,.box [.d (.int .i64),.d (.int .i64),.own 191]),(191,.arr false .rat),(9408,.arr false .rat),(9472,.arr false .int)]⟩,[(.slot 4 0,9472,.int)])]⟩
def zsH (x:Tys zlu.head.ks):Option (zcA zlu.outs):=@whileO (Int × Int × Int × (List Rt) × (List Int) × (List Rt) × Unit) (((List Rt) × (List Int) × (List Rt) × Unit) ⊕ ((List Rt) × (List Int) × (List Rt) × Unit)) zay x
def zsG (x:Tys zlt.head.ks):Option (zcA zlt.outs):=@whileO (Int × Int × Int × Int × Int × (List Rt) × (List Int) × (List Rt) × Unit) (Int × Int × Int × Int × Int × (List Rt) × (List Int) × (List Rt) × Unit) za1 x
def zsF (x:Tys zls.head.ks):Option (zcA zls.outs):=@whileO (Int × Int × Int × Int × Int × Int × (List Rt) × (List Rt) × (List Int) × Unit) (Int × Int × Int × Int × (List Rt) × (List Rt) × (List Int) × Unit) zbi x
def zsE (x:Tys zlr.head.ks):Option (zcA zlr.outs):=@whileO (Int × Int × Int × Int × Int × (List Rt) × Bool × (List Int) × (List Int) × (List Rt) × (List Int) × Unit) (Int × Int × Int × Int × (List Rt) × (List Rt) × (List Int) × Unit) zbh x
def zz2:Env:=⟨lay,[(65,zy6),(73,zEl),(63,zHJ),(74,zHI),(75,zHB),(37,zEk)],[(4,zaZ zlu zsH),(8,zaZ zlt zsG),(14,zaZ zls zsF),(22,zaZ zlr zsE)],[(17,[(0,[]),(1,[]),(2,[]),(3,[]),(4,[]),(5,[]),(6,[]),(7,[]),(8,[]),(9,[]),(10,[]),(11,[]),(12,[]),(13,[]),(14,[]),(15,[]),(16,[]),(17,[]),(18,[]),(19,[18,17,0,1,2,3,4,5,6,7,8,9,10,11,12,13,14,15,16])]),(24,[(0,[]),(1,[]),(2,[]),(3,[]),(4,[]),(5,[]),(6,[]),(7,[]),(8,[]),(9,[]),(10,[]),(12,[]),(11,[8,9,10]),(13,[11,12,8,9,10]),(14,[]),(15,[14,13,0,1,2,3,4,5,6,7,8,9,10,11,12])])]⟩
theorem zkB:zak Tryz.prog FX zz2.cons:=zaa zKH (zab Tryz.func65 (by kernel_rfl)) rfl (zaa zNq (zab Tryz.func73 (by kernel_rfl)) rfl (zaa zPV (zab Tryz.func63 (by kernel_rfl)) rfl (zaa zPU (zab Tryz.func74 (by kernel_rfl)) rfl (zaa zPN (zab Tryz.func75 (by kernel_rfl)) rfl (zaa zNp (zab Tryz.func37 (by kernel_rfl)) rfl (zae))))))
theorem zzE (x:Tys zlr.head.ks):stepL zz2 zlr zi7 x=zbh x:=by kernel_rfl
theorem zt1:zad zi7=[]:=by kernel_rfl
theorem zLh:zaz Tryz.prog FX (zaZ zlr zsE) zi7:=zam mix zfc zkB (by kernel_rfl) (zac zt1 (trivial)) zzE fun _ _ h=>h
theorem zzF (x:Tys zls.head.ks):stepL zz2 zls zi8 x=zbi x:=by kernel_rfl
theorem zt2:zad zi8=[]:=by kernel_rfl
theorem zLi:zaz Tryz.prog FX (zaZ zls zsF) zi8:=zam mix zfc zkB (by kernel_rfl) (zac zt2 (trivial)) zzF fun _ _ h=>h
theorem zzG (x:Tys zlt.head.ks):stepL zz2 zlt zi9 x=za1 x:=by kernel_rfl
theorem zt3:zad zi9=[]:=by kernel_rfl
theorem zLj:zaz Tryz.prog FX (zaZ zlt zsG) zi9:=zam mix zfc zkB (by kernel_rfl) (zac zt3 (trivial)) zzG fun _ _ h=>h
theorem zzH (x:Tys zlu.head.ks):stepL zz2 zlu ze0 x=zay x:=by kernel_rfl
theorem zt4:zad ze0=[zi9,zi8,zi7]:=by kernel_rfl
theorem zLk:zaz Tryz.prog FX (zaZ zlu zsH) ze0:=zam mix zfc zkB (by kernel_rfl) (zac zt4 (⟨⟨_,by kernel_rfl,zLj⟩,⟨⟨_,by kernel_rfl,zLi⟩,⟨⟨_,by kernel_rfl,zLh⟩,trivial⟩⟩⟩)) zzH fun _ _ h=>h
theorem zCj:zad zpX=[ze0]:=by kernel_rfl
theorem zPL:zax Tryz.prog FX 36 zHz:=zai (E:=zz2) (code:=zpX) mix zfc zkB Tryz.func36 (by kernel_rfl) zIT (by kernel_rfl) (fun y=>(y.1,y.2.1,y.2.2.1)) zHz.out (fun _=>rfl) zHz.run (fun x=>by kernel_rfl) (by kernel_rfl) (zac zCj (⟨⟨_,by kernel_rfl,zLk⟩,trivial⟩))
def zIQ:Sig:=⟨[(true,[.d (.int .i64),.d (.int .i64),.d (.sl .rat)]),(false,[.d (.sl .rat)])],[],true,[(false,[.own 0]),(false,[.d (.bool)])],[(0,.arr false .rat)]⟩
def zHw:Con:=⟨zIQ,List Rt × Bool,fun x=>zcb (⟨x.1,x.2.1,x.2.2.1⟩:Mx) x.2.2.2.1,fun r=>(r.2,r.1,())⟩
def zpU:Code:=Tryz.f54.body.getD .skip
def zi4:Code:=(zad zpU).getD 0 .skip
def zlo:LoopD:=⟨⟨zaf [(6,false,[.d (.int .i64)]),(7,false,[.lp 448 0]),(10,false,[.own 4096]),(11,false,[.d (.int .i64)])] 62 0,[(448,.box [.d (.int .i64),.d (.int .i64),.own 4032]),(4032,.arr false .rat),(4096,.arr false .rat)]⟩,[(.slot 10 0,4096,.rat)],[(.exit 0,⟨zaf [(10,false,[.own 4096])] 62 0,[(4096,.arr false .rat)]⟩,[(.slot 10 0,4096,.rat)])]⟩
def zsB (x:Tys zlo.head.ks):Option (zcA zlo.outs):=@whileO (Int × Int × Int × Int × (List Rt) × (List Rt) × Unit) ((List Rt) × Unit) zbX x
def zMo:Env:=⟨lay,[(101,zHx),(36,zHz),(37,zEk),(65,zy6)],[(8,zaZ zlo zsB)],[]⟩
theorem zwu:zak Tryz.prog FX zMo.cons:=zaa zPJ (zab Tryz.func101 (by kernel_rfl)) rfl (zaa zPL (zab Tryz.func36 (by kernel_rfl)) rfl (zaa zNp (zab Tryz.func37 (by kernel_rfl)) rfl (zaa zKH (zab Tryz.func65 (by kernel_rfl)) rfl (zae))))
theorem zzB (x:Tys zlo.head.ks):stepL zMo zlo zi4 x=zbX x:=by kernel_rfl
theorem ztY:zad zi4=[]:=by kernel_rfl
theorem zLe:zaz Tryz.prog FX (zaZ zlo zsB) zi4:=zam mix zfc zwu (by kernel_rfl) (zac ztY (trivial)) zzB fun _ _ h=>h
theorem zCg:zad zpU=[zi4]:=by kernel_rfl
theorem zPI:zax Tryz.prog FX 54 zHw:=zai (E:=zMo) (code:=zpU) mix zfc zwu Tryz.func54 (by kernel_rfl) zIQ (by kernel_rfl) (fun y=>(y.2.1,y.1)) zHw.out (fun _=>rfl) zHw.run (fun x=>by kernel_rfl) (by kernel_rfl) (zac zCg (⟨⟨_,by kernel_rfl,zLe⟩,trivial⟩))
def zIP:Sig:=⟨[(true,[.d (.int .i64),.d (.int .i64),.d (.sl .rat)]),(false,[.d (.sl .rat)])],[],true,[(false,[.own 0]),(false,[.d (.bool)])],[(0,.arr false .rat)]⟩
def zHv:Con:=⟨zIP,List Rt × Bool,fun x=>zbe (⟨x.1,x.2.1,x.2.2.1⟩:Mx) x.2.2.2.1,fun r=>(r.2,r.1,())⟩
def zxe:Code:=Tryz.f24.body.getD .skip
def zOC:Env:=⟨zbH,[(34,zHP),(53,zHO),(54,zHw)],[],[]⟩
theorem zGL:zak Tryz.prog FX zOC.cons:=zaa zP1 (zab Tryz.func34 (by kernel_rfl)) rfl (zaa zP0 (zab Tryz.func53 (by kernel_rfl)) rfl (zaa zPI (zab Tryz.func54 (by kernel_rfl)) rfl (zae)))
theorem zCf:zad zxe=[]:=by kernel_rfl
theorem zPH:zax Tryz.prog FX 24 zHv:=zai (E:=zOC) (code:=zxe) mix zah zGL Tryz.func24 (by kernel_rfl) zIP (by kernel_rfl) (fun y=>(y.2.1,y.1)) zHv.out (fun _=>rfl) zHv.run (fun x=>by kernel_rfl) (by kernel_rfl) (zac zCf (trivial))
def zIO:Sig:=⟨[(false,[.d (.int .i64)])],[],false,[(false,[.d (.bool)])],[]⟩
def zHu:Con:=⟨zIO,Bool,fun x=>zdy x.1,fun r=>(r,())⟩
def zxd:Code:=Tryz.f77.body.getD .skip
def zOB:Env:=⟨zbH,[],[],[]⟩
theorem zGK:zak Tryz.prog FX zOB.cons:=zae
theorem zCe:zad zxd=[]:=by kernel_rfl
theorem zPG:zax Tryz.prog FX 77 zHu:=zai (E:=zOB) (code:=zxd) mix zah zGK Tryz.func77 (by kernel_rfl) zIO (by kernel_rfl) (fun y=>y.1) zHu.out (fun _=>rfl) zHu.run (fun x=>by kernel_rfl) (by kernel_rfl) (zac zCe (trivial))
def zIN:Sig:=⟨[(false,[.d (.sl .int)])],[],false,[(false,[.d (.bool)])],[]⟩
def zEj:Con:=⟨zIN,Bool,fun x=>zfl x.1,fun r=>(r,())⟩
def zpT:Code:=Tryz.f120.body.getD .skip
def zi3:Code:=(zad zpT).getD 0 .skip
def zln:LoopD:=⟨⟨zaf [(22,false,[.d (.sl .int)]),(23,false,[.d (.int .i64)]),(24,false,[.d (.int .i64)])] 35 0,[]⟩,[],[(.ret,⟨zaf [(2,false,[.d (.bool)])] 35 0,[]⟩,[]),(.exit 0,⟨zaf [] 35 0,[]⟩,[])]⟩
def zsA (x:Tys zln.head.ks):Option (zcA zln.outs):=@whileO ((List Int) × Int × Int × Unit) ((Bool × Unit) ⊕ (Unit)) zdb x
def zMn:Env:=⟨zbH,[],[(4,zaZ zln zsA)],[]⟩
theorem zwt:zak Tryz.prog FX zMn.cons:=zae
theorem zzA (x:Tys zln.head.ks):stepL zMn zln zi3 x=zdb x:=by kernel_rfl
theorem ztX:zad zi3=[]:=by kernel_rfl
theorem zLd:zaz Tryz.prog FX (zaZ zln zsA) zi3:=zam mix zah zwt (by kernel_rfl) (zac ztX (trivial)) zzA fun _ _ h=>h
theorem zCd:zad zpT=[zi3]:=by kernel_rfl
theorem zNo:zax Tryz.prog FX 120 zEj:=zai (E:=zMn) (code:=zpT) mix zah zwt Tryz.func120 (by kernel_rfl) zIN (by kernel_rfl) (fun y=>y.1) zEj.out (fun _=>rfl) zEj.run (fun x=>by kernel_rfl) (by kernel_rfl) (zac zCd (⟨⟨_,by kernel_rfl,zLd⟩,trivial⟩))
def zIM:Sig:=⟨[(true,[.d (.bool),.d (.sl .int)])],[],false,[(false,[.d (.bool)])],[]⟩
def zEi:Con:=⟨zIM,Bool,fun x=>zcf (⟨x.1,x.2.1⟩:Bg),fun r=>(r,())⟩
def zxc:Code:=Tryz.f119.body.getD .skip
def zOA:Env:=⟨zbH,[(120,zEj)],[],[]⟩
theorem zGJ:zak Tryz.prog FX zOA.cons:=zaa zNo (zab Tryz.func120 (by kernel_rfl)) rfl (zae)
theorem zCc:zad zxc=[]:=by kernel_rfl
theorem zNn:zax Tryz.prog FX 119 zEi:=zai (E:=zOA) (code:=zxc) mix zah zGJ Tryz.func119 (by kernel_rfl) zIM (by kernel_rfl) (fun y=>y.1) zEi.out (fun _=>rfl) zEi.run (fun x=>by kernel_rfl) (by kernel_rfl) (zac zCc (trivial))
def zIL:Sig:=⟨[(false,[.d (.sl .int)]),(false,[.d (.sl .int)])],[],false,[(false,[.d (.int .i64)])],[]⟩
def zEh:Con:=⟨zIL,Int,fun x=>zeH x.1 x.2.1,fun r=>(r,())⟩
def zpS:Code:=Tryz.f144.body.getD .skip
def zi2:Code:=(zad zpS).getD 0 .skip
def zlm:LoopD:=⟨⟨zaf [(0,false,[.d (.sl .int)]),(1,false,[.d (.sl .int)]),(5,false,[.d (.int .i64)])] 43 0,[]⟩,[],[(.ret,⟨zaf [(4,false,[.d (.int .i64)])] 43 0,[]⟩,[]),(.exit 0,⟨zaf [] 43 0,[]⟩,[])]⟩
def zsz (x:Tys zlm.head.ks):Option (zcA zlm.outs):=@whileO ((List Int) × (List Int) × Int × Unit) ((Int × Unit) ⊕ (Unit)) zcS x
def zMm:Env:=⟨zbH,[],[(6,zaZ zlm zsz)],[(8,[(0,[]),(1,[]),(2,[]),(3,[]),(4,[]),(5,[]),(6,[]),(7,[]),(8,[]),(9,[8,3,7,2,6,0,1,4,5])]),(10,[(0,[]),(1,[]),(2,[]),(3,[]),(4,[]),(5,[]),(6,[]),(7,[]),(8,[]),(9,[8,3,7,2,6,0,1,4,5])])]⟩
theorem zwr:zak Tryz.prog FX zMm.cons:=zae
theorem zzy (x:Tys zlm.head.ks):stepL zMm zlm zi2 x=zcS x:=by kernel_rfl
theorem ztW:zad zi2=[]:=by kernel_rfl
theorem zLc:zaz Tryz.prog FX (zaZ zlm zsz) zi2:=zam mix zah zwr (by kernel_rfl) (zac ztW (trivial)) zzy fun _ _ h=>h
theorem zCb:zad zpS=[zi2]:=by kernel_rfl
theorem zNm:zax Tryz.prog FX 144 zEh:=zai (E:=zMm) (code:=zpS) mix zah zwr Tryz.func144 (by kernel_rfl) zIL (by kernel_rfl) (fun y=>y.1) zEh.out (fun _=>rfl) zEh.run (fun x=>by kernel_rfl) (by kernel_rfl) (zac zCb (⟨⟨_,by kernel_rfl,zLc⟩,trivial⟩))
def zIK:Sig:=⟨[(false,[.d (.sl .int)])],[],false,[(false,[.own 0])],[(0,.arr false .int)]⟩
def znT:Con:=⟨zIK,List Int,fun x=>zaQ x.1,fun r=>(r,())⟩
def zxb:Code:=Tryz.f93.body.getD .skip
def zOz:Env:=⟨zbH,[],[],[]⟩
theorem zGI:zak Tryz.prog FX zOz.cons:=zae
theorem zCa:zad zxb=[]:=by kernel_rfl
theorem ztC:zax Tryz.prog FX 93 znT:=zai (E:=zOz) (code:=zxb) mix zah zGI Tryz.func93 (by kernel_rfl) zIK (by kernel_rfl) (fun y=>y.1) znT.out (fun _=>rfl) znT.run (fun x=>by kernel_rfl) (by kernel_rfl) (zac zCa (trivial))
def zIJ:Sig:=⟨[(false,[.own 0])],[(0,.arr false .int)],false,[(false,[.own 0])],[(0,.arr false .int)]⟩
def zuV:Con:=⟨zIJ,List Int,fun x=>zcs x.1,fun r=>(r,())⟩
def zpR:Code:=Tryz.f132.body.getD .skip
def zi1:Code:=(zad zpR).getD 0 .skip
def zll:LoopD:=⟨⟨zaf [(0,false,[.own 1408]),(3,false,[.d (.int .i64)])] 21 0,[(1408,.arr false .int)]⟩,[],[(.exit 0,⟨zaf [(0,false,[.own 1408]),(3,false,[.d (.int .i64)])] 21 0,[(1408,.arr false .int)]⟩,[])]⟩
def zsy (x:Tys zll.head.ks):Option (zcA zll.outs):=@whileO (Int × (List Int) × Unit) (Int × (List Int) × Unit) zcH x
def zMl:Env:=⟨zbH,[],[(2,zaZ zll zsy)],[]⟩
theorem zwq:zak Tryz.prog FX zMl.cons:=zae
theorem zzx (x:Tys zll.head.ks):stepL zMl zll zi1 x=zcH x:=by kernel_rfl
theorem ztV:zad zi1=[]:=by kernel_rfl
theorem zLb:zaz Tryz.prog FX (zaZ zll zsy) zi1:=zam mix zah zwq (by kernel_rfl) (zac ztV (trivial)) zzx fun _ _ h=>h
theorem zB9:zad zpR=[zi1]:=by kernel_rfl
theorem zFv:zax Tryz.prog FX 132 zuV:=zai (E:=zMl) (code:=zpR) mix zah zwq Tryz.func132 (by kernel_rfl) zIJ (by kernel_rfl) (fun y=>y.1) zuV.out (fun _=>rfl) zuV.run (fun x=>by kernel_rfl) (by kernel_rfl) (zac zB9 (⟨⟨_,by kernel_rfl,zLb⟩,trivial⟩))
def zII:Sig:=⟨[(false,[.d (.int .i64)])],[],false,[(false,[.own 0])],[(0,.arr false .int)]⟩
def zEg:Con:=⟨zII,List Int,fun x=>zfm x.1,fun r=>(r,())⟩
def zpQ:Code:=Tryz.f155.body.getD .skip
def zi0:Code:=(zad zpQ).getD 0 .skip
def zlk:LoopD:=⟨⟨zaf [(0,false,[.d (.int .i64)]),(3,false,[.own 960])] 14 0,[(960,.arr false .int)]⟩,[(.slot 3 0,960,.int)],[(.exit 0,⟨zaf [(3,false,[.own 960])] 14 0,[(960,.arr false .int)]⟩,[(.slot 3 0,960,.int)])]⟩
def zsx (x:Tys zlk.head.ks):Option (zcA zlk.outs):=@whileO (Int × (List Int) × Unit) ((List Int) × Unit) zgw x
def zMk:Env:=⟨zbH,[],[(2,zaZ zlk zsx)],[]⟩
theorem zwp:zak Tryz.prog FX zMk.cons:=zae
theorem zzw (x:Tys zlk.head.ks):stepL zMk zlk zi0 x=zgw x:=by kernel_rfl
theorem ztU:zad zi0=[]:=by kernel_rfl
theorem zLa:zaz Tryz.prog FX (zaZ zlk zsx) zi0:=zam mix zah zwp (by kernel_rfl) (zac ztU (trivial)) zzw fun _ _ h=>h
theorem zB8:zad zpQ=[zi0]:=by kernel_rfl
theorem zNl:zax Tryz.prog FX 155 zEg:=zai (E:=zMk) (code:=zpQ) mix zah zwp Tryz.func155 (by kernel_rfl) zII (by kernel_rfl) (fun y=>y.1) zEg.out (fun _=>rfl) zEg.run (fun x=>by kernel_rfl) (by kernel_rfl) (zac zB8 (⟨⟨_,by kernel_rfl,zLa⟩,trivial⟩))
def zIH:Sig:=⟨[(false,[.d (.sl .int)]),(false,[.d (.int .i64)])],[],true,[(false,[.own 0]),(false,[.own 1])],[(0,.arr false .int),(1,.arr false .int)]⟩
def zHt:Con:=⟨zIH,List Int × List Int,fun x=>zdz x.1 x.2.1,fun r=>(r.1,r.2,())⟩
def zpP:Code:=Tryz.f146.body.getD .skip
def ziZ:Code:=(zad zpP).getD 0 .skip
def zlj:LoopD:=⟨⟨zaf [(0,false,[.d (.sl .int)]),(1,false,[.d (.int .i64)]),(6,false,[.own 2624]),(7,false,[.d (.int .i64)]),(8,false,[.d (.int .i64)])] 40 0,[(2624,.arr false .int)]⟩,[],[(.exit 0,⟨zaf [(6,false,[.own 2624]),(7,false,[.d (.int .i64)])] 40 0,[(2624,.arr false .int)]⟩,[])]⟩
def zsw (x:Tys zlj.head.ks):Option (zcA zlj.outs):=@whileO ((List Int) × Int × Int × Int × (List Int) × Unit) (Int × (List Int) × Unit) zcT x
def zMj:Env:=⟨zbH,[(132,zuV),(155,zEg)],[(4,zaZ zlj zsw)],[]⟩
theorem zwo:zak Tryz.prog FX zMj.cons:=zaa zFv (zab Tryz.func132 (by kernel_rfl)) rfl (zaa zNl (zab Tryz.func155 (by kernel_rfl)) rfl (zae))
theorem zzv (x:Tys zlj.head.ks):stepL zMj zlj ziZ x=zcT x:=by kernel_rfl
theorem ztT:zad ziZ=[]:=by kernel_rfl
theorem zK9:zaz Tryz.prog FX (zaZ zlj zsw) ziZ:=zam mix zah zwo (by kernel_rfl) (zac ztT (trivial)) zzv fun _ _ h=>h
theorem zB7:zad zpP=[ziZ]:=by kernel_rfl
theorem zPF:zax Tryz.prog FX 146 zHt:=zai (E:=zMj) (code:=zpP) mix zah zwo Tryz.func146 (by kernel_rfl) zIH (by kernel_rfl) (fun y=>(y.1,y.2.1)) zHt.out (fun _=>rfl) zHt.run (fun x=>by kernel_rfl) (by kernel_rfl) (zac zB7 (⟨⟨_,by kernel_rfl,zK9⟩,trivial⟩))
def zIG:Sig:=⟨[(false,[.d (.sl .int)]),(false,[.d (.sl .int)])],[],false,[(false,[.own 0])],[(0,.arr false .int)]⟩
def zuU:Con:=⟨zIG,List Int,fun x=>zbf x.1 x.2.1,fun r=>(r,())⟩
def zpO:Code:=Tryz.f97.body.getD .skip
def zgO:Code:=(zad zpO).getD 0 .skip
def ziY:Code:=(zad zgO).getD 0 .skip
def zli:LoopD:=⟨⟨zaf [(1,false,[.d (.sl .int)]),(5,false,[.own 4352]),(18,false,[.d (.sl .int)]),(19,false,[.d (.int .i64)]),(20,false,[.d (.int .i64)])] 67 0,[(4352,.arr false .int)]⟩,[],[(.exit 0,⟨zaf [(5,false,[.own 4352])] 67 0,[(4352,.arr false .int)]⟩,[])]⟩
def zlh:LoopD:=⟨⟨zaf [(1,false,[.d (.sl .int)]),(5,false,[.own 4352]),(6,false,[.d (.int .i64)]),(7,false,[.d (.int .i64)]),(8,false,[.d (.int .i64)]),(18,false,[.d (.sl .int)]),(19,false,[.d (.int .i64)]),(20,false,[.d (.int .i64)]),(25,false,[.d (.sl .int)]),(26,false,[.d (.int .i64)]),(27,false,[.d (.int .i64)])] 67 0,[(4352,.arr false .int)]⟩,[],[(.exit 2,⟨zaf [(1,false,[.d (.sl .int)]),(5,false,[.own 4352]),(6,false,[.d (.int .i64)]),(8,false,[.d (.int .i64)]),(18,false,[.d (.sl .int)]),(19,false,[.d (.int .i64)]),(20,false,[.d (.int .i64)])] 67 0,[(4352,.arr false .int)]⟩,[])]⟩
def zsv (x:Tys zli.head.ks):Option (zcA zli.outs):=@whileO ((List Int) × (List Int) × Int × Int × (List Int) × Unit) ((List Int) × Unit) zcM x
def zsu (x:Tys zlh.head.ks):Option (zcA zlh.outs):=@whileO ((List Int) × Int × Int × Int × (List Int) × Int × Int × (List Int) × Int × Int × (List Int) × Unit) ((List Int) × Int × Int × (List Int) × Int × Int × (List Int) × Unit) zeq x
def zH5:Env:=⟨zbH,[(132,zuV)],[(3,zaZ zli zsv),(7,zaZ zlh zsu)],[]⟩
theorem zpE:zak Tryz.prog FX zH5.cons:=zaa zFv (zab Tryz.func132 (by kernel_rfl)) rfl (zae)
theorem zzt (x:Tys zlh.head.ks):stepL zH5 zlh ziY x=zeq x:=by kernel_rfl
theorem ztR:zad ziY=[]:=by kernel_rfl
theorem zK7:zaz Tryz.prog FX (zaZ zlh zsu) ziY:=zam mix zah zpE (by kernel_rfl) (zac ztR (trivial)) zzt fun _ _ h=>h
theorem zzu (x:Tys zli.head.ks):stepL zH5 zli zgO x=zcM x:=by kernel_rfl
theorem ztS:zad zgO=[ziY]:=by kernel_rfl
theorem zK8:zaz Tryz.prog FX (zaZ zli zsv) zgO:=zam mix zah zpE (by kernel_rfl) (zac ztS (⟨⟨_,by kernel_rfl,zK7⟩,trivial⟩)) zzu fun _ _ h=>h
theorem zB6:zad zpO=[zgO]:=by kernel_rfl
theorem zFu:zax Tryz.prog FX 97 zuU:=zai (E:=zH5) (code:=zpO) mix zah zpE Tryz.func97 (by kernel_rfl) zIG (by kernel_rfl) (fun y=>y.1) zuU.out (fun _=>rfl) zuU.run (fun x=>by kernel_rfl) (by kernel_rfl) (zac zB6 (⟨⟨_,by kernel_rfl,zK8⟩,trivial⟩))
def zIF:Sig:=⟨[(false,[.d (.sl .int)]),(false,[.d (.sl .int)])],[],true,[(false,[.own 0]),(false,[.own 1])],[(0,.arr false .int),(1,.arr false .int)]⟩
def zy5:Con:=⟨zIF,List Int × List Int,fun x=>zbA x.1 x.2.1,fun r=>(r.1,r.2,())⟩
def zmu:Code:=Tryz.f130.body.getD .skip
def ziX:Code:=(zad zmu).getD 0 .skip
def zeZ:Code:=(zad zmu).getD 1 .skip
def ziW:Code:=(zad zeZ).getD 0 .skip
def ziV:Code:=(zad zeZ).getD 1 .skip
def ziU:Code:=(zad zeZ).getD 2 .skip
def zlg:LoopD:=⟨⟨zaf [(0,false,[.d (.sl .int)]),(6,false,[.d (.int .i64)]),(7,false,[.own 15360]),(8,false,[.own 15424]),(9,false,[.d (.int .i64)])] 239 0,[(15360,.arr false .int),(15424,.arr false .int)]⟩,[],[(.exit 0,⟨zaf [(6,false,[.d (.int .i64)]),(7,false,[.own 15360]),(8,false,[.own 15424]),(9,false,[.d (.int .i64)])] 239 0,[(15360,.arr false .int),(15424,.arr false .int)]⟩,[])]⟩
def zlf:LoopD:=⟨⟨zaf [(6,false,[.d (.int .i64)]),(7,false,[.own 15360]),(8,false,[.own 15424]),(9,false,[.d (.int .i64)]),(10,false,[.own 15488]),(11,false,[.d (.int .i64)]),(12,false,[.d (.int .i64)])] 239 0,[(15360,.arr false .int),(15424,.arr false .int),(15488,.arr false .int)]⟩,[],[(.exit 2,⟨zaf [(6,false,[.d (.int .i64)]),(7,false,[.own 15360]),(10,false,[.own 15488])] 239 0,[(15360,.arr false .int),(15488,.arr false .int)]⟩,[])]⟩
def zle:LoopD:=⟨⟨zaf [(6,false,[.d (.int .i64)]),(7,false,[.own 15360]),(8,false,[.own 15424]),(9,false,[.d (.int .i64)]),(10,false,[.own 15488]),(11,false,[.d (.int .i64)]),(12,false,[.d (.int .i64)]),(14,false,[.d (.int .i64)]),(15,false,[.d (.int .i64)])] 239 0,[(15360,.arr false .int),(15424,.arr false .int),(15488,.arr false .int)]⟩,[],[(.exit 4,⟨zaf [(6,false,[.d (.int .i64)]),(7,false,[.own 15360]),(8,false,[.own 15424]),(9,false,[.d (.int .i64)]),(10,false,[.own 15488]),(11,false,[.d (.int .i64)]),(12,false,[.d (.int .i64)]),(14,false,[.d (.int .i64)])] 239 0,[(15360,.arr false .int),(15424,.arr false .int),(15488,.arr false .int)]⟩,[])]⟩
def zld:LoopD:=⟨⟨zaf [(6,false,[.d (.int .i64)]),(7,false,[.own 15360]),(8,false,[.own 15424]),(9,false,[.d (.int .i64)]),(10,false,[.own 15488]),(11,false,[.d (.int .i64)]),(12,false,[.d (.int .i64)]),(14,false,[.d (.int .i64)]),(16,false,[.d (.int .i64)]),(135,false,[.d (.int .i64)]),(136,false,[.d (.int .i64)])] 239 0,[(15360,.arr false .int),(15424,.arr false .int),(15488,.arr false .int)]⟩,[],[(.exit 6,⟨zaf [(6,false,[.d (.int .i64)]),(7,false,[.own 15360]),(8,false,[.own 15424]),(9,false,[.d (.int .i64)]),(10,false,[.own 15488]),(11,false,[.d (.int .i64)]),(12,false,[.d (.int .i64)]),(14,false,[.d (.int .i64)]),(16,false,[.d (.int .i64)])] 239 0,[(15360,.arr false .int),(15424,.arr false .int),(15488,.arr false .int)]⟩,[])]⟩
def zlc:LoopD:=⟨⟨zaf [(6,false,[.d (.int .i64)]),(7,false,[.own 15360]),(8,false,[.own 15424]),(9,false,[.d (.int .i64)]),(10,false,[.own 15488]),(11,false,[.d (.int .i64)]),(12,false,[.d (.int .i64)]),(14,false,[.d (.int .i64)]),(19,false,[.d (.int .i64)]),(188,false,[.d (.int .i64)]),(189,false,[.d (.int .i64)])] 239 0,[(15360,.arr false .int),(15424,.arr false .int),(15488,.arr false .int)]⟩,[],[(.exit 8,⟨zaf [(6,false,[.d (.int .i64)]),(7,false,[.own 15360]),(8,false,[.own 15424]),(9,false,[.d (.int .i64)]),(10,false,[.own 15488]),(11,false,[.d (.int .i64)]),(12,false,[.d (.int .i64)]),(14,false,[.d (.int .i64)]),(19,false,[.d (.int .i64)])] 239 0,[(15360,.arr false .int),(15424,.arr false .int),(15488,.arr false .int)]⟩,[])]⟩
def zst (x:Tys zlg.head.ks):Option (zcA zlg.outs):=@whileO ((List Int) × Int × Int × (List Int) × (List Int) × Unit) (Int × Int × (List Int) × (List Int) × Unit) zcR x
def zss (x:Tys zlf.head.ks):Option (zcA zlf.outs):=@whileO (Int × Int × Int × Int × (List Int) × (List Int) × (List Int) × Unit) (Int × (List Int) × (List Int) × Unit) zca x
def zsr (x:Tys zle.head.ks):Option (zcA zle.outs):=@whileO (Int × Int × Int × Int × Int × Int × (List Int) × (List Int) × (List Int) × Unit) (Int × Int × Int × Int × Int × (List Int) × (List Int) × (List Int) × Unit) zcQ x
def zsq (x:Tys zld.head.ks):Option (zcA zld.outs):=@whileO (Int × Int × Int × Int × Int × Int × Int × Int × (List Int) × (List Int) × (List Int) × Unit) (Int × Int × Int × Int × Int × Int × (List Int) × (List Int) × (List Int) × Unit) zcP x
def zsp (x:Tys zlc.head.ks):Option (zcA zlc.outs):=@whileO (Int × Int × Int × Int × Int × Int × Int × Int × (List Int) × (List Int) × (List Int) × Unit) (Int × Int × Int × Int × Int × Int × (List Int) × (List Int) × (List Int) × Unit) zcO x
def zvm:Env:=⟨zbH,[(144,zEh),(93,znT),(146,zHt),(97,zuU),(132,zuV)],[(9,zaZ zlg zst),(14,zaZ zlf zss),(18,zaZ zle zsr),(24,zaZ zld zsq),(38,zaZ zlc zsp)],[(16,[(0,[]),(1,[]),(2,[]),(3,[]),(4,[]),(5,[]),(6,[]),(7,[]),(8,[]),(9,[]),(10,[]),(11,[]),(12,[]),(13,[]),(14,[]),(15,[14,0,1,2,3,4,5,6,7,8,9,10,11,12,13])]),(17,[(0,[]),(1,[]),(2,[]),(3,[]),(4,[]),(5,[]),(6,[2,0,1]),(7,[5,6,0,1,2,3,4])]),(18,[(0,[]),(1,[]),(2,[]),(3,[]),(4,[]),(5,[]),(6,[]),(7,[]),(8,[]),(9,[]),(10,[]),(11,[]),(12,[]),(13,[]),(14,[]),(15,[]),(16,[]),(17,[]),(18,[]),(19,[]),(20,[]),(21,[])]),(26,[(0,[]),(1,[]),(2,[]),(3,[]),(4,[]),(5,[]),(6,[]),(7,[]),(8,[]),(9,[]),(10,[]),(11,[]),(12,[]),(13,[]),(14,[]),(15,[14,0,1,2,3,4,5,6,7,8,9,10,11,12,13])]),(40,[(0,[]),(1,[]),(2,[]),(3,[]),(4,[]),(5,[]),(6,[]),(7,[]),(8,[]),(9,[]),(10,[]),(11,[]),(12,[]),(13,[12,0,1,2,3,4,5,6,7,8,9,10,11])])]⟩
theorem ziK:zak Tryz.prog FX zvm.cons:=zaa zNm (zab Tryz.func144 (by kernel_rfl)) rfl (zaa ztC (zab Tryz.func93 (by kernel_rfl)) rfl (zaa zPF (zab Tryz.func146 (by kernel_rfl)) rfl (zaa zFu (zab Tryz.func97 (by kernel_rfl)) rfl (zaa zFv (zab Tryz.func132 (by kernel_rfl)) rfl (zae)))))
theorem zzo (x:Tys zlc.head.ks):stepL zvm zlc ziU x=zcO x:=by kernel_rfl
theorem ztM:zad ziU=[]:=by kernel_rfl
theorem zK2:zaz Tryz.prog FX (zaZ zlc zsp) ziU:=zam mix zah ziK (by kernel_rfl) (zac ztM (trivial)) zzo fun _ _ h=>h
theorem zzp (x:Tys zld.head.ks):stepL zvm zld ziV x=zcP x:=by kernel_rfl
theorem ztN:zad ziV=[]:=by kernel_rfl
theorem zK3:zaz Tryz.prog FX (zaZ zld zsq) ziV:=zam mix zah ziK (by kernel_rfl) (zac ztN (trivial)) zzp fun _ _ h=>h
theorem zzq (x:Tys zle.head.ks):stepL zvm zle ziW x=zcQ x:=by kernel_rfl
theorem ztO:zad ziW=[]:=by kernel_rfl
theorem zK4:zaz Tryz.prog FX (zaZ zle zsr) ziW:=zam mix zah ziK (by kernel_rfl) (zac ztO (trivial)) zzq fun _ _ h=>h
theorem zzr (x:Tys zlf.head.ks):stepL zvm zlf zeZ x=zca x:=by kernel_rfl
theorem ztP:zad zeZ=[ziW,ziV,ziU]:=by kernel_rfl
theorem zK5:zaz Tryz.prog FX (zaZ zlf zss) zeZ:=zam mix zah ziK (by kernel_rfl) (zac ztP (⟨⟨_,by kernel_rfl,zK4⟩,⟨⟨_,by kernel_rfl,zK3⟩,⟨⟨_,by kernel_rfl,zK2⟩,trivial⟩⟩⟩)) zzr fun _ _ h=>h
theorem zzs (x:Tys zlg.head.ks):stepL zvm zlg ziX x=zcR x:=by kernel_rfl
theorem ztQ:zad ziX=[]:=by kernel_rfl
theorem zK6:zaz Tryz.prog FX (zaZ zlg zst) ziX:=zam mix zah ziK (by kernel_rfl) (zac ztQ (trivial)) zzs fun _ _ h=>h
theorem zB5:zad zmu=[ziX,zeZ]:=by kernel_rfl
theorem zKG:zax Tryz.prog FX 130 zy5:=zai (E:=zvm) (code:=zmu) mix zah ziK Tryz.func130 (by kernel_rfl) zIF (by kernel_rfl) (fun y=>(y.1,y.2.1)) zy5.out (fun _=>rfl) zy5.run (fun x=>by kernel_rfl) (by kernel_rfl) (zac zB5 (⟨⟨_,by kernel_rfl,zK6⟩,⟨⟨_,by kernel_rfl,zK5⟩,trivial⟩⟩))
def zIE:Sig:=⟨[(false,[.d (.sl .int)]),(false,[.d (.sl .int)])],[],false,[(false,[.own 0])],[(0,.arr false .int)]⟩
def zy4:Con:=⟨zIE,List Int,fun x=>zdM x.1 x.2.1,fun r=>(r,())⟩
def zmt:Code:=Tryz.f122.body.getD .skip
def ziT:Code:=(zad zmt).getD 0 .skip
def ziS:Code:=(zad zmt).getD 1 .skip
def zlb:LoopD:=⟨⟨zaf [(0,false,[.d (.sl .int)]),(1,false,[.d (.sl .int)])] 49 0,[]⟩,[],[(.exit 0,⟨zaf [(0,false,[.d (.sl .int)]),(1,false,[.d (.sl .int)])] 49 0,[]⟩,[])]⟩
def zla:LoopD:=⟨⟨zaf [(7,false,[.d (.int .i64)]),(8,false,[.d (.int .i64)])] 49 0,[]⟩,[],[(.exit 2,⟨zaf [(7,false,[.d (.int .i64)])] 49 0,[]⟩,[])]⟩
def zso (x:Tys zlb.head.ks):Option (zcA zlb.outs):=@whileO ((List Int) × (List Int) × Unit) ((List Int) × (List Int) × Unit) zbF x
def zsn (x:Tys zla.head.ks):Option (zcA zla.outs):=@whileO (Int × Int × Unit) (Int × Unit) zcN x
def zH4:Env:=⟨zbH,[(130,zy5),(93,znT)],[(1,zaZ zlb zso),(7,zaZ zla zsn)],[(6,[(0,[]),(1,[]),(2,[]),(3,[]),(4,[]),(5,[]),(6,[2,0,1]),(7,[5,6,0,1,2,3,4])]),(8,[(0,[]),(1,[]),(2,[]),(3,[]),(4,[0,1]),(5,[3,4,0,1,2])])]⟩
theorem zpD:zak Tryz.prog FX zH4.cons:=zaa zKG (zab Tryz.func130 (by kernel_rfl)) rfl (zaa ztC (zab Tryz.func93 (by kernel_rfl)) rfl (zae))
theorem zzm (x:Tys zla.head.ks):stepL zH4 zla ziS x=zcN x:=by kernel_rfl
theorem ztK:zad ziS=[]:=by kernel_rfl
theorem zKZ:zaz Tryz.prog FX (zaZ zla zsn) ziS:=zam mix zah zpD (by kernel_rfl) (zac ztK (trivial)) zzm fun _ _ h=>h
theorem zzn (x:Tys zlb.head.ks):stepL zH4 zlb ziT x=zbF x:=by kernel_rfl
theorem ztL:zad ziT=[]:=by kernel_rfl
theorem zK1:zaz Tryz.prog FX (zaZ zlb zso) ziT:=zam mix zah zpD (by kernel_rfl) (zac ztL (trivial)) zzn fun _ _ h=>h
theorem zB4:zad zmt=[ziT,ziS]:=by kernel_rfl
theorem zKF:zax Tryz.prog FX 122 zy4:=zai (E:=zH4) (code:=zmt) mix zah zpD Tryz.func122 (by kernel_rfl) zIE (by kernel_rfl) (fun y=>y.1) zy4.out (fun _=>rfl) zy4.run (fun x=>by kernel_rfl) (by kernel_rfl) (zac zB4 (⟨⟨_,by kernel_rfl,zK1⟩,⟨⟨_,by kernel_rfl,zKZ⟩,trivial⟩⟩))
def zID:Sig:=⟨[(false,[.d (.sl .int)])],[],false,[(false,[.d (.bool)])],[]⟩
def zy3:Con:=⟨zID,Bool,fun x=>zfj x.1,fun r=>(r,())⟩
def zxa:Code:=Tryz.f121.body.getD .skip
def zOy:Env:=⟨zbH,[],[],[]⟩
theorem zGH:zak Tryz.prog FX zOy.cons:=zae
theorem zB3:zad zxa=[]:=by kernel_rfl
theorem zKE:zax Tryz.prog FX 121 zy3:=zai (E:=zOy) (code:=zxa) mix zah zGH Tryz.func121 (by kernel_rfl) zID (by kernel_rfl) (fun y=>y.1) zy3.out (fun _=>rfl) zy3.run (fun x=>by kernel_rfl) (by kernel_rfl) (zac zB3 (trivial))
def zIC:Sig:=⟨[(true,[.d (.bool),.d (.sl .int),.d (.sl .int)])],[],false,[(false,[.d (.bool)])],[]⟩
def zEf:Con:=⟨zIC,Bool,fun x=>zfk (⟨x.1,x.2.1,x.2.2.1⟩:Rt),fun r=>(r,())⟩
def zw9:Code:=Tryz.f78.body.getD .skip
def zOx:Env:=⟨zbH,[(119,zEi),(120,zEj),(122,zy4),(121,zy3)],[],[]⟩
theorem zGG:zak Tryz.prog FX zOx.cons:=zaa zNn (zab Tryz.func119 (by kernel_rfl)) rfl (zaa zNo (zab Tryz.func120 (by kernel_rfl)) rfl (zaa zKF (zab Tryz.func122 (by kernel_rfl)) rfl (zaa zKE (zab Tryz.func121 (by kernel_rfl)) rfl (zae))))
theorem zB2:zad zw9=[]:=by kernel_rfl
theorem zNk:zax Tryz.prog FX 78 zEf:=zai (E:=zOx) (code:=zw9) mix zah zGG Tryz.func78 (by kernel_rfl) zIC (by kernel_rfl) (fun y=>y.1) zEf.out (fun _=>rfl) zEf.run (fun x=>by kernel_rfl) (by kernel_rfl) (zac zB2 (trivial))
def zIB:Sig:=⟨[(true,[.d (.int .i64),.d (.int .i64),.d (.sl .rat)])],[],false,[(false,[.d (.bool)])],[]⟩
def zEe:Con:=⟨zIB,Bool,fun x=>zce (⟨x.1,x.2.1,x.2.2.1⟩:Mx),fun r=>(r,())⟩
def zpN:Code:=Tryz.f38.body.getD .skip
def ziR:Code:=(zad zpN).getD 0 .skip
def zk9:LoopD:=⟨⟨zaf [(27,false,[.d (.sl .rat)]),(28,false,[.d (.int .i64)]),(29,false,[.d (.int .i64)])] 37 0,[]⟩,[],[(.ret,⟨zaf [(2,false,[.d (.bool)])] 37 0,[]⟩,[]),(.exit 0,⟨zaf [] 37 0,[]⟩,[])]⟩
def zsm (x:Tys zk9.head.ks):Option (zcA zk9.outs):=@whileO ((List Rt) × Int × Int × Unit) ((Bool × Unit) ⊕ (Unit)) zby x
def zMi:Env:=⟨zbH,[(77,zHu),(78,zEf)],[(4,zaZ zk9 zsm)],[]⟩
theorem zwn:zak Tryz.prog FX zMi.cons:=zaa zPG (zab Tryz.func77 (by kernel_rfl)) rfl (zaa zNk (zab Tryz.func78 (by kernel_rfl)) rfl (zae))
theorem zzl (x:Tys zk9.head.ks):stepL zMi zk9 ziR x=zby x:=by kernel_rfl
theorem ztJ:zad ziR=[]:=by kernel_rfl
theorem zKY:zaz Tryz.prog FX (zaZ zk9 zsm) ziR:=zam mix zah zwn (by kernel_rfl) (zac ztJ (trivial)) zzl fun _ _ h=>h
theorem zB1:zad zpN=[ziR]:=by kernel_rfl
theorem zNj:zax Tryz.prog FX 38 zEe:=zai (E:=zMi) (code:=zpN) mix zah zwn Tryz.func38 (by kernel_rfl) zIB (by kernel_rfl) (fun y=>y.1) zEe.out (fun _=>rfl) zEe.run (fun x=>by kernel_rfl) (by kernel_rfl) (zac zB1 (⟨⟨_,by kernel_rfl,zKY⟩,trivial⟩))
def zIA:Sig:=⟨[(false,[.d (.sl .rat)])],[],false,[(false,[.d (.bool)])],[]⟩
def zHs:Con:=⟨zIA,Bool,fun x=>zdA x.1,fun r=>(r,())⟩
def zpM:Code:=Tryz.f56.body.getD .skip
def ziQ:Code:=(zad zpM).getD 0 .skip
def zk8:LoopD:=⟨⟨zaf [(8,false,[.d (.sl .rat)]),(9,false,[.d (.int .i64)]),(10,false,[.d (.int .i64)])] 18 0,[]⟩,[],[(.ret,⟨zaf [(2,false,[.d (.bool)])] 18 0,[]⟩,[]),(.exit 0,⟨zaf [] 18 0,[]⟩,[])]⟩
def zsl (x:Tys zk8.head.ks):Option (zcA zk8.outs):=@whileO ((List Rt) × Int × Int × Unit) ((Bool × Unit) ⊕ (Unit)) zb5 x
def zMh:Env:=⟨zbH,[(78,zEf)],[(4,zaZ zk8 zsl)],[]⟩
theorem zwm:zak Tryz.prog FX zMh.cons:=zaa zNk (zab Tryz.func78 (by kernel_rfl)) rfl (zae)
theorem zzk (x:Tys zk8.head.ks):stepL zMh zk8 ziQ x=zb5 x:=by kernel_rfl
theorem ztI:zad ziQ=[]:=by kernel_rfl
theorem zKX:zaz Tryz.prog FX (zaZ zk8 zsl) ziQ:=zam mix zah zwm (by kernel_rfl) (zac ztI (trivial)) zzk fun _ _ h=>h
theorem zB0:zad zpM=[ziQ]:=by kernel_rfl
theorem zPE:zax Tryz.prog FX 56 zHs:=zai (E:=zMh) (code:=zpM) mix zah zwm Tryz.func56 (by kernel_rfl) zIA (by kernel_rfl) (fun y=>y.1) zHs.out (fun _=>rfl) zHs.run (fun x=>by kernel_rfl) (by kernel_rfl) (zac zB0 (⟨⟨_,by kernel_rfl,zKX⟩,trivial⟩))
def zIz:Sig:=⟨[(true,[.d (.bool),.d (.sl .int),.d (.sl .int)])],[],false,[(true,[.d (.bool),.own 0,.own 1])],[(0,.arr false .int),(1,.arr false .int)]⟩
def zEd:Con:=⟨zIz,Rt,fun x=>zdZ (⟨x.1,x.2.1,x.2.2.1⟩:Rt),fun r=>(r.neg,r.mag,r.den,())⟩
def zw8:Code:=Tryz.f44.body.getD .skip
def zOw:Env:=⟨zbH,[(93,znT)],[],[(1,[(0,[]),(1,[]),(2,[]),(3,[]),(4,[]),(5,[]),(8,[]),(9,[]),(6,[5,4,3]),(7,[]),(10,[9,6,8,5,4,3]),(11,[]),(12,[11,10,0,1,2,3,4,5,6,7,8,9])])]⟩
theorem zGF:zak Tryz.prog FX zOw.cons:=zaa ztC (zab Tryz.func93 (by kernel_rfl)) rfl (zae)
theorem zBZ:zad zw8=[]:=by kernel_rfl
theorem zNi:zax Tryz.prog FX 44 zEd:=zai (E:=zOw) (code:=zw8) mix zah zGF Tryz.func44 (by kernel_rfl) zIz (by kernel_rfl) (fun y=>(⟨y.1,y.2.1,y.2.2.1⟩:Rt)) zEd.out (fun _=>rfl) zEd.run (fun x=>by kernel_rfl) (by kernel_rfl) (zac zBZ (trivial))
def zIy:Sig:=⟨[(false,[.d (.sl .rat)])],[],false,[(false,[.dp 0])],[(0,.deep .rat)]⟩
def zHr:Con:=⟨zIy,List Rt,fun x=>zb6 x.1,fun r=>(r,())⟩
def zpL:Code:=Tryz.f79.body.getD .skip
def ziP:Code:=(zad zpL).getD 0 .skip
def zk7:LoopD:=⟨⟨zaf [(3,false,[.dp 1280]),(6,false,[.d (.sl .rat)]),(7,false,[.d (.int .i64)]),(8,false,[.d (.int .i64)])] 19 0,[(1280,.deep .rat)]⟩,[(.slotD 3 0,1280,.rat)],[(.exit 0,⟨zaf [(3,false,[.dp 1280])] 19 0,[(1280,.deep .rat)]⟩,[(.slotD 3 0,1280,.rat)])]⟩
def zsk (x:Tys zk7.head.ks):Option (zcA zk7.outs):=@whileO ((List Rt) × Int × Int × (List Rt) × Unit) ((List Rt) × Unit) zbx x
def zMg:Env:=⟨zbH,[(44,zEd)],[(3,zaZ zk7 zsk)],[]⟩
theorem zwl:zak Tryz.prog FX zMg.cons:=zaa zNi (zab Tryz.func44 (by kernel_rfl)) rfl (zae)
theorem zzj (x:Tys zk7.head.ks):stepL zMg zk7 ziP x=zbx x:=by kernel_rfl
theorem ztH:zad ziP=[]:=by kernel_rfl
theorem zKW:zaz Tryz.prog FX (zaZ zk7 zsk) ziP:=zam mix zah zwl (by kernel_rfl) (zac ztH (trivial)) zzj fun _ _ h=>h
theorem zBY:zad zpL=[ziP]:=by kernel_rfl
theorem zPD:zax Tryz.prog FX 79 zHr:=zai (E:=zMg) (code:=zpL) mix zah zwl Tryz.func79 (by kernel_rfl) zIy (by kernel_rfl) (fun y=>y.1) zHr.out (fun _=>rfl) zHr.run (fun x=>by kernel_rfl) (by kernel_rfl) (zac zBY (⟨⟨_,by kernel_rfl,zKW⟩,trivial⟩))
def zIw:Sig:=⟨[(true,[.d (.int .i64),.d (.int .i64),.d (.sl .trat)]),(false,[.d (.int .i64)]),(false,[.d (.int .i64)])],[],false,[(true,[.d (.bool),.d (.tok),.d (.tok)])],[]⟩
def zEc:Con:=⟨zIw,TRt,fun x=>za2 (⟨x.1,x.2.1,x.2.2.1⟩:MxT) x.2.2.2.1 x.2.2.2.2.1,fun r=>(r.neg,r.mag,r.den,())⟩
def zw6:Code:=Tryz.f45.body.getD .skip
def zOu:Env:=⟨zNL,[],[],[]⟩
theorem zGD:zak Tryz.prog FX zOu.cons:=zae
theorem zBW:zad zw6=[]:=by kernel_rfl
theorem zNh:zax Tryz.prog FX 45 zEc:=zai (E:=zOu) (code:=zw6) mix zfR zGD Tryz.func45 (by kernel_rfl) zIw (by kernel_rfl) (fun y=>(⟨y.1,y.2.1,y.2.2.1⟩:TRt)) zEc.out (fun _=>rfl) zEc.run (fun x=>by kernel_rfl) (by kernel_rfl) (zac zBW (trivial))
def zIv:Sig:=⟨[(true,[.d (.bool),.d (.sl .int),.d (.sl .int)])],[],false,[(false,[.d (.bool)])],[]⟩
def zHp:Con:=⟨zIv,Bool,fun x=>zdN (⟨x.1,x.2.1,x.2.2.1⟩:Rt),fun r=>(r,())⟩
def zw5:Code:=Tryz.f80.body.getD .skip
def zOt:Env:=⟨zbH,[],[],[]⟩
theorem zGC:zak Tryz.prog FX zOt.cons:=zae
theorem zBV:zad zw5=[]:=by kernel_rfl
theorem zPB:zax Tryz.prog FX 80 zHp:=zai (E:=zOt) (code:=zw5) mix zah zGC Tryz.func80 (by kernel_rfl) zIv (by kernel_rfl) (fun y=>y.1) zHp.out (fun _=>rfl) zHp.run (fun x=>by kernel_rfl) (by kernel_rfl) (zac zBV (trivial))
def zIu:Sig:=⟨[(false,[.d (.bool)]),(false,[.own 64])],[(64,.arr false .int)],false,[(true,[.d (.bool),.own 0])],[(0,.arr false .int)]⟩
def zqh:Con:=⟨zIu,Bg,fun x=>zaO x.1 x.2.1,fun r=>(r.neg,r.mag,())⟩
def zw4:Code:=Tryz.f131.body.getD .skip
def zOs:Env:=⟨zbH,[],[],[]⟩
theorem zGB:zak Tryz.prog FX zOs.cons:=zae
theorem zBU:zad zw4=[]:=by kernel_rfl
theorem zyr:zax Tryz.prog FX 131 zqh:=zai (E:=zOs) (code:=zw4) mix zah zGB Tryz.func131 (by kernel_rfl) zIu (by kernel_rfl) (fun y=>(⟨y.1,y.2.1⟩:Bg)) zqh.out (fun _=>rfl) zqh.run (fun x=>by kernel_rfl) (by kernel_rfl) (zac zBU (trivial))
def zIt:Sig:=⟨[(false,[.d (.sl .int)]),(false,[.d (.sl .int)])],[],false,[(false,[.own 0])],[(0,.arr false .int)]⟩
def zEb:Con:=⟨zIt,List Int,fun x=>zeI x.1 x.2.1,fun r=>(r,())⟩
def zpK:Code:=Tryz.f143.body.getD .skip
def ziO:Code:=(zad zpK).getD 0 .skip
def zk6:LoopD:=⟨⟨zaf [(0,false,[.d (.sl .int)]),(1,false,[.d (.sl .int)]),(5,false,[.own 3648]),(6,false,[.d (.int .i64)]),(21,false,[.d (.int .i64)]),(22,false,[.d (.int .i64)])] 56 0,[(3648,.arr false .int)]⟩,[],[(.exit 0,⟨zaf [(5,false,[.own 3648]),(6,false,[.d (.int .i64)])] 56 0,[(3648,.arr false .int)]⟩,[])]⟩
def zsj (x:Tys zk6.head.ks):Option (zcA zk6.outs):=@whileO ((List Int) × (List Int) × Int × Int × Int × (List Int) × Unit) (Int × (List Int) × Unit) zbG x
def zMf:Env:=⟨zbH,[],[(6,zaZ zk6 zsj)],[]⟩
theorem zwk:zak Tryz.prog FX zMf.cons:=zae
theorem zzi (x:Tys zk6.head.ks):stepL zMf zk6 ziO x=zbG x:=by kernel_rfl
theorem ztG:zad ziO=[]:=by kernel_rfl
theorem zKV:zaz Tryz.prog FX (zaZ zk6 zsj) ziO:=zam mix zah zwk (by kernel_rfl) (zac ztG (trivial)) zzi fun _ _ h=>h
theorem zBT:zad zpK=[ziO]:=by kernel_rfl
theorem zNg:zax Tryz.prog FX 143 zEb:=zai (E:=zMf) (code:=zpK) mix zah zwk Tryz.func143 (by kernel_rfl) zIt (by kernel_rfl) (fun y=>y.1) zEb.out (fun _=>rfl) zEb.run (fun x=>by kernel_rfl) (by kernel_rfl) (zac zBT (⟨⟨_,by kernel_rfl,zKV⟩,trivial⟩))
def zIs:Sig:=⟨[(false,[.d (.int .i64)])],[],false,[(true,[.d (.bool),.own 0])],[(0,.arr false .int)]⟩
def zHo:Con:=⟨zIs,Bg,fun x=>zdB x.1,fun r=>(r.neg,r.mag,())⟩
def zw3:Code:=Tryz.f148.body.getD .skip
def zOr:Env:=⟨zbH,[(155,zEg),(131,zqh),(143,zEb)],[],[]⟩
theorem zGA:zak Tryz.prog FX zOr.cons:=zaa zNl (zab Tryz.func155 (by kernel_rfl)) rfl (zaa zyr (zab Tryz.func131 (by kernel_rfl)) rfl (zaa zNg (zab Tryz.func143 (by kernel_rfl)) rfl (zae)))
theorem zBS:zad zw3=[]:=by kernel_rfl
theorem zPA:zax Tryz.prog FX 148 zHo:=zai (E:=zOr) (code:=zw3) mix zah zGA Tryz.func148 (by kernel_rfl) zIs (by kernel_rfl) (fun y=>(⟨y.1,y.2.1⟩:Bg)) zHo.out (fun _=>rfl) zHo.run (fun x=>by kernel_rfl) (by kernel_rfl) (zac zBS (trivial))
def zIr:Sig:=⟨[(false,[.d (.bool)]),(false,[.d (.sl .int)])],[],false,[(true,[.d (.bool),.d (.sl .int)])],[]⟩
def zHn:Con:=⟨zIr,Bg,fun x=>zfE x.1 x.2.1,fun r=>(r.neg,r.mag,())⟩
def zw2:Code:=Tryz.f131.body.getD .skip
def zOq:Env:=⟨zbH,[],[],[]⟩
theorem zGz:zak Tryz.prog FX zOq.cons:=zae
theorem zBR:zad zw2=[]:=by kernel_rfl
theorem zPz:zax Tryz.prog FX 131 zHn:=zai (E:=zOq) (code:=zw2) mix zah zGz Tryz.func131 (by kernel_rfl) zIr (by kernel_rfl) (fun y=>(⟨y.1,y.2.1⟩:Bg)) zHn.out (fun _=>rfl) zHn.run (fun x=>by kernel_rfl) (by kernel_rfl) (zac zBR (trivial))
def zIq:Sig:=⟨[(true,[.d (.bool),.d (.sl .int)]),(false,[.d (.sl .int)])],[],false,[(true,[.d (.bool),.d (.sl .int),.d (.sl .int)])],[]⟩
def zHm:Con:=⟨zIq,Rt,fun x=>zfF (⟨x.1,x.2.1⟩:Bg) x.2.2.1,fun r=>(r.neg,r.mag,r.den,())⟩
def zw1:Code:=Tryz.f95.body.getD .skip
def zOp:Env:=⟨zbH,[(122,zy4),(121,zy3),(130,zy5),(131,zqh)],[],[]⟩
theorem zGy:zak Tryz.prog FX zOp.cons:=zaa zKF (zab Tryz.func122 (by kernel_rfl)) rfl (zaa zKE (zab Tryz.func121 (by kernel_rfl)) rfl (zaa zKG (zab Tryz.func130 (by kernel_rfl)) rfl (zaa zyr (zab Tryz.func131 (by kernel_rfl)) rfl (zae))))
theorem zBQ:zad zw1=[]:=by kernel_rfl
theorem zPy:zax Tryz.prog FX 95 zHm:=zai (E:=zOp) (code:=zw1) mix zah zGy Tryz.func95 (by kernel_rfl) zIq (by kernel_rfl) (fun y=>(⟨y.1,y.2.1,y.2.2.1⟩:Rt)) zHm.out (fun _=>rfl) zHm.run (fun x=>by kernel_rfl) (by kernel_rfl) (zac zBQ (trivial))
def zIp:Sig:=⟨[(true,[.d (.bool),.d (.sl .int)]),(true,[.d (.bool),.d (.sl .int)])],[],false,[(true,[.d (.bool),.own 0,.own 1])],[(0,.arr false .int),(1,.arr false .int)]⟩
def zHl:Con:=⟨zIp,Rt,fun x=>ze8 (⟨x.1,x.2.1⟩:Bg) (⟨x.2.2.1,x.2.2.2.1⟩:Bg),fun r=>(r.neg,r.mag,r.den,())⟩
def zw0:Code:=Tryz.f147.body.getD .skip
def zOo:Env:=⟨zbH,[(119,zEi),(131,zHn),(95,zHm),(44,zEd)],[],[(3,[(0,[]),(1,[]),(2,[]),(3,[]),(4,[]),(5,[]),(6,[]),(8,[]),(9,[]),(7,[4,6,1,3,5,0,2]),(10,[7,9,4,6,8,1,3,5,0,2]),(11,[10,7,9,4,6,8,1,3,5,0,2]),(12,[11,0,1,2,3,4,5,6,7,8,9,10])])]⟩
theorem zGx:zak Tryz.prog FX zOo.cons:=zaa zNn (zab Tryz.func119 (by kernel_rfl)) rfl (zaa zPz (zab Tryz.func131 (by kernel_rfl)) rfl (zaa zPy (zab Tryz.func95 (by kernel_rfl)) rfl (zaa zNi (zab Tryz.func44 (by kernel_rfl)) rfl (zae))))
theorem zBP:zad zw0=[]:=by kernel_rfl
theorem zPx:zax Tryz.prog FX 147 zHl:=zai (E:=zOo) (code:=zw0) mix zah zGx Tryz.func147 (by kernel_rfl) zIp (by kernel_rfl) (fun y=>(⟨y.1,y.2.1,y.2.2.1⟩:Rt)) zHl.out (fun _=>rfl) zHl.run (fun x=>by kernel_rfl) (by kernel_rfl) (zac zBP (trivial))
def zIo:Sig:=⟨[(false,[.d (.int .i64)]),(false,[.d (.int .i64)])],[],false,[(true,[.d (.bool),.own 0,.own 1])],[(0,.arr false .int),(1,.arr false .int)]⟩
def zHk:Con:=⟨zIo,Rt,fun x=>zgo x.1 x.2.1,fun r=>(r.neg,r.mag,r.den,())⟩
def zwZ:Code:=Tryz.f135.body.getD .skip
def zOn:Env:=⟨zbH,[(148,zHo),(147,zHl)],[],[]⟩
theorem zGw:zak Tryz.prog FX zOn.cons:=zaa zPA (zab Tryz.func148 (by kernel_rfl)) rfl (zaa zPx (zab Tryz.func147 (by kernel_rfl)) rfl (zae))
theorem zBO:zad zwZ=[]:=by kernel_rfl
theorem zPw:zax Tryz.prog FX 135 zHk:=zai (E:=zOn) (code:=zwZ) mix zah zGw Tryz.func135 (by kernel_rfl) zIo (by kernel_rfl) (fun y=>(⟨y.1,y.2.1,y.2.2.1⟩:Rt)) zHk.out (fun _=>rfl) zHk.run (fun x=>by kernel_rfl) (by kernel_rfl) (zac zBO (trivial))
def zIn:Sig:=⟨[(false,[.d (.int .i64)])],[],false,[(true,[.d (.bool),.own 0,.own 1])],[(0,.arr false .int),(1,.arr false .int)]⟩
def zHj:Con:=⟨zIn,Rt,fun x=>zdP x.1,fun r=>(r.neg,r.mag,r.den,())⟩
def zwY:Code:=Tryz.f111.body.getD .skip
def zOm:Env:=⟨zbH,[(135,zHk)],[],[]⟩
theorem zGv:zak Tryz.prog FX zOm.cons:=zaa zPw (zab Tryz.func135 (by kernel_rfl)) rfl (zae)
theorem zBN:zad zwY=[]:=by kernel_rfl
theorem zPv:zax Tryz.prog FX 111 zHj:=zai (E:=zOm) (code:=zwY) mix zah zGv Tryz.func111 (by kernel_rfl) zIn (by kernel_rfl) (fun y=>(⟨y.1,y.2.1,y.2.2.1⟩:Rt)) zHj.out (fun _=>rfl) zHj.run (fun x=>by kernel_rfl) (by kernel_rfl) (zac zBN (trivial))
def zIm:Sig:=⟨[(false,[.d (.int .i64)])],[],false,[(true,[.d (.bool),.own 0,.own 1])],[(0,.arr false .int),(1,.arr false .int)]⟩
def zHi:Con:=⟨zIm,Rt,fun x=>zeb x.1,fun r=>(r.neg,r.mag,r.den,())⟩
def zwX:Code:=Tryz.f68.body.getD .skip
def zOl:Env:=⟨zbH,[(111,zHj)],[],[]⟩
theorem zGu:zak Tryz.prog FX zOl.cons:=zaa zPv (zab Tryz.func111 (by kernel_rfl)) rfl (zae)
theorem zBM:zad zwX=[]:=by kernel_rfl
theorem zPu:zax Tryz.prog FX 68 zHi:=zai (E:=zOl) (code:=zwX) mix zah zGu Tryz.func68 (by kernel_rfl) zIm (by kernel_rfl) (fun y=>(⟨y.1,y.2.1,y.2.2.1⟩:Rt)) zHi.out (fun _=>rfl) zHi.run (fun x=>by kernel_rfl) (by kernel_rfl) (zac zBM (trivial))
def zIl:Sig:=⟨[(true,[.d (.int .i64),.d (.int .i64),.own 191]),(false,[.d (.int .i64)])],[(191,.arr false .trat)],false,[(false,[.win 191])],[(191,.arr false .trat)]⟩
def zHh:Con:=⟨zIl,(Nat × Nat) × List TRt,fun x=>zaJ (⟨x.1,x.2.1,x.2.2.2.1⟩:MxT) x.2.2.1,fun r=>(r.1.1,r.1.2,r.2,())⟩
def zwW:Code:=Tryz.f81.body.getD .skip
def zOj:Env:=⟨zNL,[],[],[]⟩
theorem zGt:zak Tryz.prog FX zOj.cons:=zae
theorem zBL:zad zwW=[]:=by kernel_rfl
theorem zPt:zax Tryz.prog FX 81 zHh:=zai (E:=zOj) (code:=zwW) mix zfR zGt Tryz.func81 (by kernel_rfl) zIl (by kernel_rfl) (fun y=>((y.1,y.2.1),y.2.2.1)) zHh.out (fun _=>rfl) zHh.run (fun x=>by kernel_rfl) (by kernel_rfl) (zac zBL (trivial))
def zIk:Sig:=⟨[(true,[.d (.bool),.d (.sl .int),.d (.sl .int)])],[],false,[(false,[.d (.bool)])],[]⟩
def zr2:Con:=⟨zIk,Bool,fun x=>zbz (⟨x.1,x.2.1,x.2.2.1⟩:Rt),fun r=>(r,())⟩
def zwV:Code:=Tryz.f48.body.getD .skip
def zOi:Env:=⟨zbH,[],[],[]⟩
theorem zGs:zak Tryz.prog FX zOi.cons:=zae
theorem zBK:zad zwV=[]:=by kernel_rfl
theorem zBu:zax Tryz.prog FX 48 zr2:=zai (E:=zOi) (code:=zwV) mix zah zGs Tryz.func48 (by kernel_rfl) zIk (by kernel_rfl) (fun y=>y.1) zr2.out (fun _=>rfl) zr2.run (fun x=>by kernel_rfl) (by kernel_rfl) (zac zBK (trivial))
def zIj:Sig:=⟨[(true,[.d (.bool),.d (.sl .int)]),(true,[.d (.bool),.d (.sl .int)])],[],false,[(true,[.d (.bool),.own 0])],[(0,.arr false .int)]⟩
def zEa:Con:=⟨zIj,Bg,fun x=>zbB (⟨x.1,x.2.1⟩:Bg) (⟨x.2.2.1,x.2.2.2.1⟩:Bg),fun r=>(r.neg,r.mag,())⟩
def zwU:Code:=Tryz.f96.body.getD .skip
def zOh:Env:=⟨zbH,[(97,zuU),(131,zqh)],[],[(1,[(0,[]),(1,[]),(2,[]),(3,[]),(4,[]),(5,[]),(6,[]),(7,[]),(8,[]),(9,[6,8,5,7]),(10,[4,9,1,3,6,8,0,2,5,7]),(11,[10,0,1,2,3,4,5,6,7,8,9])])]⟩
theorem zGr:zak Tryz.prog FX zOh.cons:=zaa zFu (zab Tryz.func97 (by kernel_rfl)) rfl (zaa zyr (zab Tryz.func131 (by kernel_rfl)) rfl (zae))
theorem zBJ:zad zwU=[]:=by kernel_rfl
theorem zNf:zax Tryz.prog FX 96 zEa:=zai (E:=zOh) (code:=zwU) mix zah zGr Tryz.func96 (by kernel_rfl) zIj (by kernel_rfl) (fun y=>(⟨y.1,y.2.1⟩:Bg)) zEa.out (fun _=>rfl) zEa.run (fun x=>by kernel_rfl) (by kernel_rfl) (zac zBJ (trivial))
def zIi:Sig:=⟨[(true,[.d (.bool),.own 1]),(false,[.own 64])],[(1,.arr false .int),(64,.arr false .int)],false,[(true,[.d (.bool),.own 0,.own 1])],[(0,.arr false .int),(1,.arr false .int)]⟩
def zD9:Con:=⟨zIi,Rt,fun x=>zbO (⟨x.1,x.2.1⟩:Bg) x.2.2.1,fun r=>(r.neg,r.mag,r.den,())⟩
def zwT:Code:=Tryz.f95.body.getD .skip
def zOg:Env:=⟨zbH,[(122,zy4),(121,zy3),(130,zy5),(131,zqh)],[],[]⟩
theorem zGq:zak Tryz.prog FX zOg.cons:=zaa zKF (zab Tryz.func122 (by kernel_rfl)) rfl (zaa zKE (zab Tryz.func121 (by kernel_rfl)) rfl (zaa zKG (zab Tryz.func130 (by kernel_rfl)) rfl (zaa zyr (zab Tryz.func131 (by kernel_rfl)) rfl (zae))))
theorem zBI:zad zwT=[]:=by kernel_rfl
theorem zNe:zax Tryz.prog FX 95 zD9:=zai (E:=zOg) (code:=zwT) mix zah zGq Tryz.func95 (by kernel_rfl) zIi (by kernel_rfl) (fun y=>(⟨y.1,y.2.1,y.2.2.1⟩:Rt)) zD9.out (fun _=>rfl) zD9.run (fun x=>by kernel_rfl) (by kernel_rfl) (zac zBI (trivial))
def zIh:Sig:=⟨[(true,[.d (.bool),.d (.sl .int),.d (.sl .int)]),(true,[.d (.bool),.d (.sl .int),.d (.sl .int)])],[],false,[(true,[.d (.bool),.own 0,.own 1])],[(0,.arr false .int),(1,.arr false .int)]⟩
def zD8:Con:=⟨zIh,Rt,fun x=>zec (⟨x.1,x.2.1,x.2.2.1⟩:Rt) (⟨x.2.2.2.1,x.2.2.2.2.1,x.2.2.2.2.2.1⟩:Rt),fun r=>(r.neg,r.mag,r.den,())⟩
def zwS:Code:=Tryz.f47.body.getD .skip
def zOf:Env:=⟨zbH,[(48,zr2),(96,zEa),(97,zuU),(95,zD9)],[],[(3,[(0,[]),(1,[]),(2,[]),(3,[]),(5,[]),(6,[]),(7,[]),(8,[]),(4,[1,3,0,2]),(9,[6,8,4,5,7,1,3,0,2]),(10,[4,9,1,3,6,8,0,2,5,7]),(11,[10,0,1,2,3,4,5,6,7,8,9])])]⟩
theorem zGp:zak Tryz.prog FX zOf.cons:=zaa zBu (zab Tryz.func48 (by kernel_rfl)) rfl (zaa zNf (zab Tryz.func96 (by kernel_rfl)) rfl (zaa zFu (zab Tryz.func97 (by kernel_rfl)) rfl (zaa zNe (zab Tryz.func95 (by kernel_rfl)) rfl (zae))))
theorem zBH:zad zwS=[]:=by kernel_rfl
theorem zNd:zax Tryz.prog FX 47 zD8:=zai (E:=zOf) (code:=zwS) mix zah zGp Tryz.func47 (by kernel_rfl) zIh (by kernel_rfl) (fun y=>(⟨y.1,y.2.1,y.2.2.1⟩:Rt)) zD8.out (fun _=>rfl) zD8.run (fun x=>by kernel_rfl) (by kernel_rfl) (zac zBH (trivial))
def zIg:Sig:=⟨[(true,[.d (.bool),.d (.sl .int),.d (.sl .int)]),(true,[.d (.bool),.d (.sl .int),.d (.sl .int)])],[],false,[(true,[.d (.bool),.own 0,.own 1])],[(0,.arr false .int),(1,.arr false .int)]⟩
def zHg:Con:=⟨zIg,Rt,fun x=>zfN (⟨x.1,x.2.1,x.2.2.1⟩:Rt) (⟨x.2.2.2.1,x.2.2.2.2.1,x.2.2.2.2.2.1⟩:Rt),fun r=>(r.neg,r.mag,r.den,())⟩
def zwR:Code:=Tryz.f50.body.getD .skip
def zOe:Env:=⟨zbH,[(48,zr2),(47,zD8)],[],[]⟩
theorem zGo:zak Tryz.prog FX zOe.cons:=zaa zBu (zab Tryz.func48 (by kernel_rfl)) rfl (zaa zNd (zab Tryz.func47 (by kernel_rfl)) rfl (zae))
theorem zBG:zad zwR=[]:=by kernel_rfl
theorem zPs:zax Tryz.prog FX 50 zHg:=zai (E:=zOe) (code:=zwR) mix zah zGo Tryz.func50 (by kernel_rfl) zIg (by kernel_rfl) (fun y=>(⟨y.1,y.2.1,y.2.2.1⟩:Rt)) zHg.out (fun _=>rfl) zHg.run (fun x=>by kernel_rfl) (by kernel_rfl) (zac zBG (trivial))
def zIf:Sig:=⟨[(false,[.d (.sl .rat)])],[],false,[(false,[.d (.bool)])],[]⟩
def zHf:Con:=⟨zIf,Bool,fun x=>za8 x.1,fun r=>(r,())⟩
def zpJ:Code:=Tryz.f82.body.getD .skip
def ziN:Code:=(zad zpJ).getD 0 .skip
def zk5:LoopD:=⟨⟨zaf [(5,false,[.d (.sl .rat)]),(6,false,[.d (.int .i64)]),(7,false,[.d (.int .i64)])] 14 0,[]⟩,[],[(.ret,⟨zaf [(2,false,[.d (.bool)])] 14 0,[]⟩,[]),(.exit 0,⟨zaf [] 14 0,[]⟩,[])]⟩
def zsi (x:Tys zk5.head.ks):Option (zcA zk5.outs):=@whileO ((List Rt) × Int × Int × Unit) ((Bool × Unit) ⊕ (Unit)) zb4 x
def zMe:Env:=⟨zbH,[(48,zr2)],[(2,zaZ zk5 zsi)],[]⟩
theorem zwj:zak Tryz.prog FX zMe.cons:=zaa zBu (zab Tryz.func48 (by kernel_rfl)) rfl (zae)
theorem zzh (x:Tys zk5.head.ks):stepL zMe zk5 ziN x=zb4 x:=by kernel_rfl
theorem ztF:zad ziN=[]:=by kernel_rfl
theorem zKU:zaz Tryz.prog FX (zaZ zk5 zsi) ziN:=zam mix zah zwj (by kernel_rfl) (zac ztF (trivial)) zzh fun _ _ h=>h
theorem zBF:zad zpJ=[ziN]:=by kernel_rfl
theorem zPr:zax Tryz.prog FX 82 zHf:=zai (E:=zMe) (code:=zpJ) mix zah zwj Tryz.func82 (by kernel_rfl) zIf (by kernel_rfl) (fun y=>y.1) zHf.out (fun _=>rfl) zHf.run (fun x=>by kernel_rfl) (by kernel_rfl) (zac zBF (⟨⟨_,by kernel_rfl,zKU⟩,trivial⟩))
def zIe:Sig:=⟨[(true,[.d (.bool),.d (.sl .int)])],[],false,[(true,[.d (.bool),.own 0])],[(0,.arr false .int)]⟩
def zHe:Con:=⟨zIe,Bg,fun x=>zeJ (⟨x.1,x.2.1⟩:Bg),fun r=>(r.neg,r.mag,())⟩
def zwQ:Code:=Tryz.f112.body.getD .skip
def zOd:Env:=⟨zbH,[(93,znT),(131,zqh)],[],[(1,[(0,[]),(1,[]),(2,[]),(3,[]),(4,[]),(5,[4,3]),(6,[2,5,1,4,0,3]),(7,[6,0,1,2,3,4,5])])]⟩
theorem zGn:zak Tryz.prog FX zOd.cons:=zaa ztC (zab Tryz.func93 (by kernel_rfl)) rfl (zaa zyr (zab Tryz.func131 (by kernel_rfl)) rfl (zae))
theorem zBE:zad zwQ=[]:=by kernel_rfl
theorem zPq:zax Tryz.prog FX 112 zHe:=zai (E:=zOd) (code:=zwQ) mix zah zGn Tryz.func112 (by kernel_rfl) zIe (by kernel_rfl) (fun y=>(⟨y.1,y.2.1⟩:Bg)) zHe.out (fun _=>rfl) zHe.run (fun x=>by kernel_rfl) (by kernel_rfl) (zac zBE (trivial))
def zId:Sig:=⟨[(true,[.d (.bool),.d (.sl .int),.d (.sl .int)])],[],false,[(true,[.d (.bool),.own 0,.own 1])],[(0,.arr false .int),(1,.arr false .int)]⟩
def zHd:Con:=⟨zId,Rt,fun x=>zjt (⟨x.1,x.2.1,x.2.2.1⟩:Rt),fun r=>(r.neg,r.mag,r.den,())⟩
def zwP:Code:=Tryz.f69.body.getD .skip
def zOc:Env:=⟨zbH,[(48,zr2),(112,zHe),(93,znT)],[],[(3,[(0,[]),(1,[]),(3,[]),(4,[]),(2,[1,0]),(5,[4,2,3,1,0]),(6,[]),(7,[6,5,0,1,2,3,4])])]⟩
theorem zGm:zak Tryz.prog FX zOc.cons:=zaa zBu (zab Tryz.func48 (by kernel_rfl)) rfl (zaa zPq (zab Tryz.func112 (by kernel_rfl)) rfl (zaa ztC (zab Tryz.func93 (by kernel_rfl)) rfl (zae)))
theorem zBD:zad zwP=[]:=by kernel_rfl
theorem zPp:zax Tryz.prog FX 69 zHd:=zai (E:=zOc) (code:=zwP) mix zah zGm Tryz.func69 (by kernel_rfl) zId (by kernel_rfl) (fun y=>(⟨y.1,y.2.1,y.2.2.1⟩:Rt)) zHd.out (fun _=>rfl) zHd.run (fun x=>by kernel_rfl) (by kernel_rfl) (zac zBD (trivial))
def zIc:Sig:=⟨[(false,[.d (.sl .int)]),(false,[.d (.sl .int)])],[],false,[(false,[.d (.bool)])],[]⟩
def zHc:Con:=⟨zIc,Bool,fun x=>zeF x.1 x.2.1,fun r=>(r,())⟩
def zpI:Code:=Tryz.f128.body.getD .skip
def ziM:Code:=(zad zpI).getD 0 .skip
def zk4:LoopD:=⟨⟨zaf [(0,false,[.d (.sl .int)]),(1,false,[.d (.sl .int)]),(12,false,[.d (.int .i64)]),(13,false,[.d (.int .i64)])] 26 0,[]⟩,[],[(.ret,⟨zaf [(4,false,[.d (.bool)])] 26 0,[]⟩,[]),(.exit 0,⟨zaf [] 26 0,[]⟩,[])]⟩
def zsh (x:Tys zk4.head.ks):Option (zcA zk4.outs):=@whileO ((List Int) × (List Int) × Int × Int × Unit) ((Bool × Unit) ⊕ (Unit)) zb3 x
def zMd:Env:=⟨zbH,[],[(4,zaZ zk4 zsh)],[(6,[(0,[]),(1,[]),(2,[]),(3,[]),(4,[]),(5,[]),(6,[]),(7,[]),(8,[])])]⟩
theorem zwi:zak Tryz.prog FX zMd.cons:=zae
theorem zzg (x:Tys zk4.head.ks):stepL zMd zk4 ziM x=zb3 x:=by kernel_rfl
theorem ztE:zad ziM=[]:=by kernel_rfl
theorem zKT:zaz Tryz.prog FX (zaZ zk4 zsh) ziM:=zam mix zah zwi (by kernel_rfl) (zac ztE (trivial)) zzg fun _ _ h=>h
theorem zBC:zad zpI=[ziM]:=by kernel_rfl
theorem zPo:zax Tryz.prog FX 128 zHc:=zai (E:=zMd) (code:=zpI) mix zah zwi Tryz.func128 (by kernel_rfl) zIc (by kernel_rfl) (fun y=>y.1) zHc.out (fun _=>rfl) zHc.run (fun x=>by kernel_rfl) (by kernel_rfl) (zac zBC (⟨⟨_,by kernel_rfl,zKT⟩,trivial⟩))
def zIb:Sig:=⟨[(false,[.d (.sl .int)]),(false,[.d (.sl .int)])],[],false,[(false,[.own 0])],[(0,.arr false .int)]⟩
def zHb:Con:=⟨zIb,List Int,fun x=>zeG x.1 x.2.1,fun r=>(r,())⟩
def zpH:Code:=Tryz.f145.body.getD .skip
def ziL:Code:=(zad zpH).getD 0 .skip
def zk3:LoopD:=⟨⟨zaf [(1,false,[.d (.sl .int)]),(5,false,[.own 2816]),(6,false,[.d (.int .i64)]),(12,false,[.d (.int .i64)]),(13,false,[.d (.int .i64)])] 43 0,[(2816,.arr false .int)]⟩,[],[(.exit 0,⟨zaf [(5,false,[.own 2816])] 43 0,[(2816,.arr false .int)]⟩,[])]⟩
def zsg (x:Tys zk3.head.ks):Option (zcA zk3.outs):=@whileO ((List Int) × Int × Int × Int × (List Int) × Unit) ((List Int) × Unit) zbE x
def zMc:Env:=⟨zbH,[(93,znT),(132,zuV)],[(4,zaZ zk3 zsg)],[]⟩
theorem zwh:zak Tryz.prog FX zMc.cons:=zaa ztC (zab Tryz.func93 (by kernel_rfl)) rfl (zaa zFv (zab Tryz.func132 (by kernel_rfl)) rfl (zae))
theorem zzf (x:Tys zk3.head.ks):stepL zMc zk3 ziL x=zbE x:=by kernel_rfl
theorem ztD:zad ziL=[]:=by kernel_rfl
theorem zKS:zaz Tryz.prog FX (zaZ zk3 zsg) ziL:=zam mix zah zwh (by kernel_rfl) (zac ztD (trivial)) zzf fun _ _ h=>h
theorem zBB:zad zpH=[ziL]:=by kernel_rfl
theorem zPn:zax Tryz.prog FX 145 zHb:=zai (E:=zMc) (code:=zpH) mix zah zwh Tryz.func145 (by kernel_rfl) zIb (by kernel_rfl) (fun y=>y.1) zHb.out (fun _=>rfl) zHb.run (fun x=>by kernel_rfl) (by kernel_rfl) (zac zBB (⟨⟨_,by kernel_rfl,zKS⟩,trivial⟩))
def zIa:Sig:=⟨[(true,[.d (.bool),.d (.sl .int)]),(true,[.d (.bool),.d (.sl .int)])],[],false,[(true,[.d (.bool),.own 0])],[(0,.arr false .int)]⟩
def zHa:Con:=⟨zIa,Bg,fun x=>zdO (⟨x.1,x.2.1⟩:Bg) (⟨x.2.2.1,x.2.2.2.1⟩:Bg),fun r=>(r.neg,r.mag,())⟩
def zwO:Code:=Tryz.f129.body.getD .skip
def zOb:Env:=⟨zbH,[(143,zEb),(131,zqh),(144,zEh),(145,zHb)],[],[(2,[(0,[]),(1,[]),(2,[]),(3,[]),(4,[]),(5,[]),(6,[3,5,2,4]),(7,[1,6,0,3,5,2,4]),(8,[7,0,1,2,3,4,5,6])]),(4,[(0,[]),(1,[]),(2,[]),(3,[]),(4,[]),(5,[]),(6,[3,5,2,4]),(7,[1,6,0,3,5,2,4]),(8,[7,0,1,2,3,4,5,6])]),(5,[(0,[]),(1,[]),(2,[]),(3,[]),(4,[]),(5,[]),(6,[3,5,2,4]),(7,[1,6,0,3,5,2,4]),(8,[7,0,1,2,3,4,5,6])])]⟩
theorem zGl:zak Tryz.prog FX zOb.cons:=zaa zNg (zab Tryz.func143 (by kernel_rfl)) rfl (zaa zyr (zab Tryz.func131 (by kernel_rfl)) rfl (zaa zNm (zab Tryz.func144 (by kernel_rfl)) rfl (zaa zPn (zab Tryz.func145 (by kernel_rfl)) rfl (zae))))
theorem zBA:zad zwO=[]:=by kernel_rfl
theorem zPm:zax Tryz.prog FX 129 zHa:=zai (E:=zOb) (code:=zwO) mix zah zGl Tryz.func129 (by kernel_rfl) zIa (by kernel_rfl) (fun y=>(⟨y.1,y.2.1⟩:Bg)) zHa.out (fun _=>rfl) zHa.run (fun x=>by kernel_rfl) (by kernel_rfl) (zac zBA (trivial))
def zH9:Sig:=⟨[(true,[.d (.bool),.d (.sl .int),.d (.sl .int)]),(true,[.d (.bool),.d (.sl .int),.d (.sl .int)])],[],false,[(true,[.d (.bool),.own 0,.own 1])],[(0,.arr false .int),(1,.arr false .int)]⟩
def zG9:Con:=⟨zH9,Rt,fun x=>zju (⟨x.1,x.2.1,x.2.2.1⟩:Rt) (⟨x.2.2.2.1,x.2.2.2.2.1,x.2.2.2.2.2.1⟩:Rt),fun r=>(r.neg,r.mag,r.den,())⟩
def zwN:Code:=Tryz.f94.body.getD .skip
def zOa:Env:=⟨zbH,[(48,zr2),(128,zHc),(129,zHa),(93,znT),(95,zD9),(96,zEa),(97,zuU)],[],[(4,[(0,[]),(1,[]),(2,[]),(3,[]),(5,[]),(6,[]),(4,[1,3,0,2]),(7,[6,4,5,1,3,0,2]),(8,[4,7,1,3,6,0,2,5]),(9,[8,0,1,2,3,4,5,6,7])]),(7,[(0,[]),(1,[]),(3,[]),(4,[]),(5,[]),(6,[]),(2,[0,1]),(7,[4,6,2,3,5,0,1]),(8,[2,7,0,1,4,6,3,5]),(9,[8,0,1,2,3,4,5,6,7])])]⟩
theorem zGk:zak Tryz.prog FX zOa.cons:=zaa zBu (zab Tryz.func48 (by kernel_rfl)) rfl (zaa zPo (zab Tryz.func128 (by kernel_rfl)) rfl (zaa zPm (zab Tryz.func129 (by kernel_rfl)) rfl (zaa ztC (zab Tryz.func93 (by kernel_rfl)) rfl (zaa zNe (zab Tryz.func95 (by kernel_rfl)) rfl (zaa zNf (zab Tryz.func96 (by kernel_rfl)) rfl (zaa zFu (zab Tryz.func97 (by kernel_rfl)) rfl (zae)))))))
theorem zBz:zad zwN=[]:=by kernel_rfl
theorem zPl:zax Tryz.prog FX 94 zG9:=zai (E:=zOa) (code:=zwN) mix zah zGk Tryz.func94 (by kernel_rfl) zH9 (by kernel_rfl) (fun y=>(⟨y.1,y.2.1,y.2.2.1⟩:Rt)) zG9.out (fun _=>rfl) zG9.run (fun x=>by kernel_rfl) (by kernel_rfl) (zac zBz (trivial))
def zAR:Sig:=⟨[(true,[.d (.bool),.d (.sl .int),.d (.sl .int)]),(true,[.d (.bool),.d (.sl .int),.d (.sl .int)])],[],false,[(true,[.d (.bool),.own 0,.own 1])],[(0,.arr false .int),(1,.arr false .int)]⟩
def zxO:Con:=⟨zAR,Rt,fun x=>zgV (⟨x.1,x.2.1,x.2.2.1⟩:Rt) (⟨x.2.2.2.1,x.2.2.2.2.1,x.2.2.2.2.2.1⟩:Rt),fun r=>(r.neg,r.mag,r.den,())⟩
def zrV:Code:=Tryz.f46.body.getD .skip
def zJ7:Env:=⟨zbH,[(69,zHd),(94,zG9)],[],[(1,[(0,[]),(1,[]),(2,[1]),(3,[0,2,1]),(4,[3,0,1,2])])]⟩
theorem zDU:zak Tryz.prog FX zJ7.cons:=zaa zPp (zab Tryz.func69 (by kernel_rfl)) rfl (zaa zPl (zab Tryz.func94 (by kernel_rfl)) rfl (zae))
theorem zyN:zad zrV=[]:=by kernel_rfl
theorem zNK:zax Tryz.prog FX 46 zxO:=zai (E:=zJ7) (code:=zrV) mix zah zDU Tryz.func46 (by kernel_rfl) zAR (by kernel_rfl) (fun y=>(⟨y.1,y.2.1,y.2.2.1⟩:Rt)) zxO.out (fun _=>rfl) zxO.run (fun x=>by kernel_rfl) (by kernel_rfl) (zac zyN (trivial))
def zAQ:Sig:=⟨[(true,[.d (.int .i64),.d (.int .i64),.d (.sl .rat)])],[],true,[(true,[.d (.int .i64),.d (.int .i64),.dp 0,.own 1,.bot]),(false,[.d (.bool)])],[(0,.deep .rat),(1,.arr false .int)]⟩
def zr8:Con:=⟨zAQ,RdnP × Bool,fun x=>zdx (⟨x.1,x.2.1,x.2.2.1⟩:Mx),fun r=>(r.1.rows,r.1.cols,r.2,r.1.cells,r.1.pivots,())⟩
def znA:Code:=Tryz.f39.body.getD .skip
def zdn:Code:=(zad znA).getD 0 .skip
def zhB:Code:=(zad zdn).getD 0 .skip
def zhA:Code:=(zad zdn).getD 1 .skip
def zhz:Code:=(zad zdn).getD 2 .skip
def zf1:Code:=(zad zdn).getD 3 .skip
def zhy:Code:=(zad zf1).getD 0 .skip
def zjJ:LoopD:=⟨⟨zaf [(2,false,[.lp 128 0]),(4,false,[.lp 256 0]),(5,false,[.lp 320 0]),(6,false,[.d (.int .i64)]),(7,false,[.d (.int .i64)])] 183 0,[(128,.box [.d (.int .i64),.d (.int .i64),.own 11968,.own 12032,.own 12096]),(256,.box [.d (.int .i64),.d (.int .i64),.own 11776,.own 11840,.own 11904]),(320,.box [.d (.int .i64),.d (.int .i64),.own 11776]),(11776,.arr false .trat),(11840,.arr false .int),(11904,.arr false .trat),(11968,.arr false .trat),(12032,.arr false .int),(12096,.arr false .trat),(70368744177727,.pool)]⟩,[(.box 128 2,11968,.trat),(.box 128 3,12032,.int),(.box 128 4,12096,.trat),(.box 256 3,11840,.int),(.box 256 4,11904,.trat)],[(.ret,⟨zaf [(2,false,[.lp 128 0]),(3,false,[.d (.bool)])] 183 0,[(128,.box [.d (.int .i64),.d (.int .i64),.own 11968,.own 12032,.own 12096]),(11968,.arr false .trat),(12032,.arr false .int),(12096,.arr false .trat),(70368744177727,.pool)]⟩,[(.box 128 2,11968,.trat),(.box 128 3,12032,.int),(.box 128 4,12096,.trat)]),(.exit 0,⟨zaf [(2,false,[.lp 128 0]),(4,false,[.lp 256 0])] 183 0,[(128,.box [.d (.int .i64),.d (.int .i64),.own 11968,.own 12032,.own 12096]),(256,.box [.d (.int .i64),.d (.int .i64),.own 11776,.own 11840,.own 11904]),(11776,.arr false .trat),(11840,.arr false .int),(11904,.arr false .trat),(11968,.arr false .trat),(12032,.arr false .int),(12096,.arr false .trat),(70368744177727,.pool)]⟩,[(.box 128 2,11968,.trat),(.box 128 3,12032,.int),(.box 128 4,12096,.trat),(.box 256 3,11840,.int),(.box 256 4,11904,.trat)])]⟩
def zjI:LoopD:=⟨⟨zaf [(2,false,[.lp 128 0]),(4,false,[.lp 256 0]),(5,false,[.lp 320 0]),(6,false,[.d (.int .i64)]),(7,false,[.d (.int .i64)]),(8,false,[.d (.int .i64)])] 183 0,[(128,.box [.d (.int .i64),.d (.int .i64),.own 11968,.own 12032,.own 12096]),(256,.box [.d (.int .i64),.d (.int .i64),.own 11776,.own 11840,.own 11904]),(320,.box [.d (.int .i64),.d (.int .i64),.own 11776]),(11776,.arr false .trat),(11840,.arr false .int),(11904,.arr false .trat),(11968,.arr false .trat),(12032,.arr false .int),(12096,.arr false .trat),(70368744177727,.pool)]⟩,[(.box 128 2,11968,.trat),(.box 128 3,12032,.int),(.box 128 4,12096,.trat),(.box 256 3,11840,.int),(.box 256 4,11904,.trat)],[(.exit 2,⟨zaf [(2,false,[.lp 128 0]),(4,false,[.lp 256 0]),(5,false,[.lp 320 0]),(6,false,[.d (.int .i64)]),(7,false,[.d (.int .i64)]),(8,false,[.d (.int .i64)])] 183 0,[(128,.box [.d (.int .i64),.d (.int .i64),.own 11968,.own 12032,.own 12096]),(256,.box [.d (.int .i64),.d (.int .i64),.own 11776,.own 11840,.own 11904]),(320,.box [.d (.int .i64),.d (.int .i64),.own 11776]),(11776,.arr false .trat),(11840,.arr false .int),(11904,.arr false .trat),(11968,.arr false .trat),(12032,.arr false .int),(12096,.arr false .trat),(70368744177727,.pool)]⟩,[(.box 128 2,11968,.trat),(.box 128 3,12032,.int),(.box 128 4,12096,.trat),(.box 256 3,11840,.int),(.box 256 4,11904,.trat)])]⟩
def zjH:LoopD:=⟨⟨zaf [(2,false,[.lp 128 0]),(4,false,[.lp 256 0]),(5,false,[.lp 320 0]),(6,false,[.d (.int .i64)]),(7,false,[.d (.int .i64)]),(9,false,[.win 11776]),(10,false,[.win 11776]),(76,false,[.d (.int .i64)]),(77,false,[.d (.int .i64)])] 183 0,[(128,.box [.d (.int .i64),.d (.int .i64),.own 11968,.own 12032,.own 12096]),(256,.box [.d (.int .i64),.d (.int .i64),.own 11776,.own 11904,.own 11840]),(320,.box [.d (.int .i64),.d (.int .i64),.own 11776]),(11776,.arr false .trat),(11840,.arr false .trat),(11904,.arr false .int),(11968,.arr false .trat),(12032,.arr false .int),(12096,.arr false .trat),(70368744177727,.pool)]⟩,[(.box 128 2,11968,.trat),(.box 128 3,12032,.int),(.box 128 4,12096,.trat),(.box 256 3,11904,.int)],[(.exit 4,⟨zaf [(2,false,[.lp 128 0]),(4,false,[.lp 256 0]),(5,false,[.lp 320 0]),(6,false,[.d (.int .i64)]),(7,false,[.d (.int .i64)])] 183 0,[(128,.box [.d (.int .i64),.d (.int .i64),.own 11968,.own 12032,.own 12096]),(256,.box [.d (.int .i64),.d (.int .i64),.own 11776,.own 11904,.own 11840]),(320,.box [.d (.int .i64),.d (.int .i64),.own 11776]),(11776,.arr false .trat),(11840,.arr false .trat),(11904,.arr false .int),(11968,.arr false .trat),(12032,.arr false .int),(12096,.arr false .trat),(70368744177727,.pool)]⟩,[(.box 128 2,11968,.trat),(.box 128 3,12032,.int),(.box 128 4,12096,.trat),(.box 256 3,11904,.int)])]⟩
def zjG:LoopD:=⟨⟨zaf [(2,false,[.lp 128 0]),(4,false,[.lp 256 0]),(5,false,[.lp 320 0]),(6,false,[.d (.int .i64)]),(7,false,[.d (.int .i64)]),(12,false,[.win 11776]),(13,false,[.lp 832 0]),(109,false,[.d (.int .i64)]),(110,false,[.d (.int .i64)])] 183 0,[(128,.box [.d (.int .i64),.d (.int .i64),.own 11968,.own 12032,.own 12096]),(256,.box [.d (.int .i64),.d (.int .i64),.own 11776,.own 11904,.own 11840]),(320,.box [.d (.int .i64),.d (.int .i64),.own 11776]),(832,.box [.d (.bool),.d (.tok),.d (.tok)]),(11776,.arr false .trat),(11840,.arr false .trat),(11904,.arr false .int),(11968,.arr false .trat),(12032,.arr false .int),(12096,.arr false .trat),(70368744177727,.pool)]⟩,[(.box 128 2,11968,.trat),(.box 128 3,12032,.int),(.box 128 4,12096,.trat),(.box 256 3,11904,.int)],[(.exit 6,⟨zaf [(2,false,[.lp 128 0]),(4,false,[.lp 256 0]),(5,false,[.lp 320 0]),(6,false,[.d (.int .i64)]),(7,false,[.d (.int .i64)]),(12,false,[.win 11776])] 183 0,[(128,.box [.d (.int .i64),.d (.int .i64),.own 11968,.own 12032,.own 12096]),(256,.box [.d (.int .i64),.d (.int .i64),.own 11776,.own 11904,.own 11840]),(320,.box [.d (.int .i64),.d (.int .i64),.own 11776]),(11776,.arr false .trat),(11840,.arr false .trat),(11904,.arr false .int),(11968,.arr false .trat),(12032,.arr false .int),(12096,.arr false .trat),(70368744177727,.pool)]⟩,[(.box 128 2,11968,.trat),(.box 128 3,12032,.int),(.box 128 4,12096,.trat),(.box 256 3,11904,.int)])]⟩
def zjF:LoopD:=⟨⟨zaf [(2,false,[.lp 128 0]),(4,false,[.lp 256 0]),(5,false,[.lp 320 0]),(6,false,[.d (.int .i64)]),(7,false,[.d (.int .i64)]),(12,false,[.win 11776]),(128,false,[.d (.int .i64)]),(129,false,[.d (.int .i64)])] 183 0,[(128,.box [.d (.int .i64),.d (.int .i64),.own 11968,.own 12032,.own 12096]),(256,.box [.d (.int .i64),.d (.int .i64),.own 11776,.own 11904,.own 11840]),(320,.box [.d (.int .i64),.d (.int .i64),.own 11776]),(11776,.arr false .trat),(11840,.arr false .trat),(11904,.arr false .int),(11968,.arr false .trat),(12032,.arr false .int),(12096,.arr false .trat),(70368744177727,.pool)]⟩,[(.box 128 2,11968,.trat),(.box 128 3,12032,.int),(.box 128 4,12096,.trat),(.box 256 3,11904,.int)],[(.ret,⟨zaf [(2,false,[.lp 128 0]),(3,false,[.d (.bool)])] 183 0,[(128,.box [.d (.int .i64),.d (.int .i64),.own 11968,.own 12032,.own 12096]),(11968,.arr false .trat),(12032,.arr false .int),(12096,.arr false .trat),(70368744177727,.pool)]⟩,[(.box 128 2,11968,.trat),(.box 128 3,12032,.int),(.box 128 4,12096,.trat)]),(.exit 8,⟨zaf [(2,false,[.lp 128 0]),(4,false,[.lp 256 0]),(5,false,[.lp 320 0]),(6,false,[.d (.int .i64)]),(7,false,[.d (.int .i64)])] 183 0,[(128,.box [.d (.int .i64),.d (.int .i64),.own 11968,.own 12032,.own 12096]),(256,.box [.d (.int .i64),.d (.int .i64),.own 11776,.own 11904,.own 11840]),(320,.box [.d (.int .i64),.d (.int .i64),.own 11776]),(11776,.arr false .trat),(11840,.arr false .trat),(11904,.arr false .int),(11968,.arr false .trat),(12032,.arr false .int),(12096,.arr false .trat),(70368744177727,.pool)]⟩,[(.box 128 2,11968,.trat),(.box 128 3,12032,.int),(.box 128 4,12096,.trat),(.box 256 3,11904,.int)])]⟩
def zjE:LoopD:=⟨⟨zaf [(2,false,[.lp 128 0]),(4,false,[.lp 256 0]),(5,false,[.lp 320 0]),(6,false,[.d (.int .i64)]),(7,false,[.d (.int .i64)]),(12,false,[.win 11776]),(16,false,[.win 11776]),(17,false,[.lp 1088 0]),(128,false,[.d (.int .i64)]),(129,false,[.d (.int .i64)]),(150,false,[.d (.int .i64)]),(151,false,[.d (.int .i64)])] 183 0,[(128,.box [.d (.int .i64),.d (.int .i64),.own 11968,.own 12032,.own 12096]),(256,.box [.d (.int .i64),.d (.int .i64),.own 11776,.own 11904,.own 11840]),(320,.box [.d (.int .i64),.d (.int .i64),.own 11776]),(1088,.box [.d (.bool),.d (.tok),.d (.tok)]),(11776,.arr false .trat),(11840,.arr false .trat),(11904,.arr false .int),(11968,.arr false .trat),(12032,.arr false .int),(12096,.arr false .trat),(70368744177727,.pool)]⟩,[(.box 128 2,11968,.trat),(.box 128 3,12032,.int),(.box 128 4,12096,.trat),(.box 256 3,11904,.int)],[(.exit 10,⟨zaf [(2,false,[.lp 128 0]),(4,false,[.lp 256 0]),(5,false,[.lp 320 0]),(6,false,[.d (.int .i64)]),(7,false,[.d (.int .i64)]),(12,false,[.win 11776]),(16,false,[.win 11776]),(128,false,[.d (.int .i64)]),(129,false,[.d (.int .i64)])] 183 0,[(128,.box [.d (.int .i64),.d (.int .i64),.own 11968,.own 12032,.own 12096]),(256,.box [.d (.int .i64),.d (.int .i64),.own 11776,.own 11904,.own 11840]),(320,.box [.d (.int .i64),.d (.int .i64),.own 11776]),(11776,.arr false .trat),(11840,.arr false .trat),(11904,.arr false .int),(11968,.arr false .trat),(12032,.arr false .int),(12096,.arr false .trat),(70368744177727,.pool)]⟩,[(.box 128 2,11968,.trat),(.box 128 3,12032,.int),(.box 128 4,12096,.trat),(.box 256 3,11904,.int)])]⟩
def zoR (x:Tys zjJ.head.ks):Option (zcA zjJ.outs):=@whileO (Int × Int × Int × Int × Int × Int × Int × Int × (List TRt) × (List Int) × (List TRt) × (List TRt) × (List Int) × (List TRt) × Nat × Unit) ((Bool × Int × Int × (List TRt) × (List Int) × (List TRt) × Nat × Unit) ⊕ (Int × Int × Int × Int × (List TRt) × (List Int) × (List TRt) × (List TRt) × (List Int) × (List TRt) × Nat × Unit)) zbw x
def zoQ (x:Tys zjI.head.ks):Option (zcA zjI.outs):=@whileO (Int × Int × Int × Int × Int × Int × Int × Int × Int × (List TRt) × (List Int) × (List TRt) × (List TRt) × (List Int) × (List TRt) × Nat × Unit) (Int × Int × Int × Int × Int × Int × Int × Int × Int × (List TRt) × (List Int) × (List TRt) × (List TRt) × (List Int) × (List TRt) × Nat × Unit) zbv x
def zoP (x:Tys zjH.head.ks):Option (zcA zjH.outs):=@whileO (Int × Int × Nat × Nat × Nat × Nat × Int × Int × Int × Int × Int × Int × Int × Int × (List TRt) × (List TRt) × (List Int) × (List TRt) × (List Int) × (List TRt) × Nat × Unit) (Int × Int × Int × Int × Int × Int × Int × Int × (List TRt) × (List TRt) × (List Int) × (List TRt) × (List Int) × (List TRt) × Nat × Unit) zbu x
def zoO (x:Tys zjG.head.ks):Option (zcA zjG.outs):=@whileO (Int × Int × Nat × Nat × Int × Int × Int × Int × Int × Int × Int × Int × Bool × Tk × Tk × (List TRt) × (List TRt) × (List Int) × (List TRt) × (List Int) × (List TRt) × Nat × Unit) (Int × Int × Nat × Nat × Int × Int × Int × Int × Int × Int × (List TRt) × (List TRt) × (List Int) × (List TRt) × (List Int) × (List TRt) × Nat × Unit) zbt x
def zoN (x:Tys zjF.head.ks):Option (zcA zjF.outs):=@whileO (Int × Int × Nat × Nat × Int × Int × Int × Int × Int × Int × Int × Int × (List TRt) × (List TRt) × (List Int) × (List TRt) × (List Int) × (List TRt) × Nat × Unit) ((Bool × Int × Int × (List TRt) × (List Int) × (List TRt) × Nat × Unit) ⊕ (Int × Int × Int × Int × Int × Int × Int × Int × (List TRt) × (List TRt) × (List Int) × (List TRt) × (List Int) × (List TRt) × Nat × Unit)) zbs x
def zoM (x:Tys zjE.head.ks):Option (zcA zjE.outs):=@whileO (Int × Int × Nat × Nat × Nat × Nat × Int × Int × Int × Int × Int × Int × Int × Int × Int × Int × Bool × Tk × Tk × (List TRt) × (List TRt) × (List Int) × (List TRt) × (List Int) × (List TRt) × Nat × Unit) (Int × Int × Nat × Nat × Nat × Nat × Int × Int × Int × Int × Int × Int × Int × Int × (List TRt) × (List TRt) × (List Int) × (List TRt) × (List Int) × (List TRt) × Nat × Unit) zbr x
def zl3:Env:=⟨zNL,[(79,zHr),(45,zEc),(80,zHp),(68,zHi),(81,zHh),(50,zHg),(82,zHf),(47,zD8),(46,zxO)],[(5,zaZ zjJ zoR),(8,zaZ zjI zoQ),(15,zaZ zjH zoP),(23,zaZ zjG zoO),(30,zaZ zjF zoN),(36,zaZ zjE zoM)],[(1,[(0,[]),(1,[]),(2,[]),(3,[]),(4,[]),(5,[]),(6,[5,4]),(7,[]),(8,[]),(9,[]),(10,[9,8,6,0,1,2,3,4,5,7])]),(12,[(0,[]),(1,[]),(2,[]),(3,[2]),(4,[1,3,2,0]),(5,[]),(6,[5,4,0,1,2,3])]),(13,[(0,[]),(1,[]),(3,[]),(4,[]),(2,[0,1]),(5,[3,4,2,0,1]),(6,[2,5,0,1,3,4]),(7,[5,6,0,1,2,3,4])]),(17,[(0,[]),(1,[]),(2,[]),(3,[]),(4,[]),(5,[]),(6,[]),(7,[]),(8,[]),(9,[]),(10,[]),(11,[]),(12,[]),(13,[12,7,0,1,4,5,6,11,10,8,9]),(14,[]),(15,[14,11,13,0,1,2,3,4,5,6,7,8,9,10,12])]),(25,[(0,[]),(1,[]),(2,[]),(3,[]),(4,[]),(5,[]),(6,[]),(7,[5,6,4,2,3]),(8,[]),(9,[8,7,0,1,2,3,4,5,6])]),(38,[(0,[]),(1,[]),(2,[]),(3,[]),(4,[]),(5,[]),(6,[]),(7,[]),(8,[]),(9,[]),(10,[]),(11,[6,10,9,7,8]),(12,[5,11,4,6,10,2,3,9,7,8]),(13,[]),(14,[13,12,0,1,2,3,4,5,6,7,8,9,10,11])])]⟩
theorem zfZ:zak Tryz.prog FX zl3.cons:=zaa zPD (zab Tryz.func79 (by kernel_rfl)) rfl (zaa zNh (zab Tryz.func45 (by kernel_rfl)) rfl (zaa zPB (zab Tryz.func80 (by kernel_rfl)) rfl (zaa zPu (zab Tryz.func68 (by kernel_rfl)) rfl (zaa zPt (zab Tryz.func81 (by kernel_rfl)) rfl (zaa zPs (zab Tryz.func50 (by kernel_rfl)) rfl (zaa zPr (zab Tryz.func82 (by kernel_rfl)) rfl (zaa zNd (zab Tryz.func47 (by kernel_rfl)) rfl (zaa zNK (zab Tryz.func46 (by kernel_rfl)) rfl (zae)))))))))
theorem zvf (x:Tys zjE.head.ks):stepL zl3 zjE zhy x=zbr x:=by kernel_rfl
theorem zqZ:zad zhy=[]:=by kernel_rfl
theorem zFV:zaz Tryz.prog FX (zaZ zjE zoM) zhy:=zam mix zfR zfZ (by kernel_rfl) (zac zqZ (trivial)) zvf fun _ _ h=>h
theorem zvg (x:Tys zjF.head.ks):stepL zl3 zjF zf1 x=zbs x:=by kernel_rfl
theorem zq0:zad zf1=[zhy]:=by kernel_rfl
theorem zFW:zaz Tryz.prog FX (zaZ zjF zoN) zf1:=zam mix zfR zfZ (by kernel_rfl) (zac zq0 (⟨⟨_,by kernel_rfl,zFV⟩,trivial⟩)) zvg fun _ _ h=>h
theorem zvh (x:Tys zjG.head.ks):stepL zl3 zjG zhz x=zbt x:=by kernel_rfl
theorem zq1:zad zhz=[]:=by kernel_rfl
theorem zFX:zaz Tryz.prog FX (zaZ zjG zoO) zhz:=zam mix zfR zfZ (by kernel_rfl) (zac zq1 (trivial)) zvh fun _ _ h=>h
theorem zvi (x:Tys zjH.head.ks):stepL zl3 zjH zhA x=zbu x:=by kernel_rfl
theorem zq2:zad zhA=[]:=by kernel_rfl
theorem zFY:zaz Tryz.prog FX (zaZ zjH zoP) zhA:=zam mix zfR zfZ (by kernel_rfl) (zac zq2 (trivial)) zvi fun _ _ h=>h
theorem zvj (x:Tys zjI.head.ks):stepL zl3 zjI zhB x=zbv x:=by kernel_rfl
theorem zq3:zad zhB=[]:=by kernel_rfl
theorem zFZ:zaz Tryz.prog FX (zaZ zjI zoQ) zhB:=zam mix zfR zfZ (by kernel_rfl) (zac zq3 (trivial)) zvj fun _ _ h=>h
theorem zvk (x:Tys zjJ.head.ks):stepL zl3 zjJ zdn x=zbw x:=by kernel_rfl
theorem zq4:zad zdn=[zhB,zhA,zhz,zf1]:=by kernel_rfl
theorem zF0:zaz Tryz.prog FX (zaZ zjJ zoR) zdn:=zam mix zfR zfZ (by kernel_rfl) (zac zq4 (⟨⟨_,by kernel_rfl,zFZ⟩,⟨⟨_,by kernel_rfl,zFY⟩,⟨⟨_,by kernel_rfl,zFX⟩,⟨⟨_,by kernel_rfl,zFW⟩,trivial⟩⟩⟩⟩)) zvk fun _ _ h=>h
theorem zyM:zad znA=[zdn]:=by kernel_rfl
theorem zJL:zax Tryz.prog FX 39 zr8:=zqM (E:=zl3) (code:=znA) mix zfR zfZ Tryz.func39 (by kernel_rfl) zAQ (by kernel_rfl) (by kernel_rfl) (fun y=>((⟨y.1,y.2.1,y.2.2.2.1,y.2.2.2.2.1⟩:RdnP),y.2.2.1)) zr8.out (fun _=>rfl) zr8.run (fun x=>by kernel_rfl) (by kernel_rfl) (zac zyM (⟨⟨_,by kernel_rfl,zF0⟩,trivial⟩))
def zAP:Sig:=⟨[(true,[.d (.int .i64),.d (.int .i64),.d (.sl .rat)])],[],true,[(true,[.d (.int .i64),.d (.int .i64),.dp 0]),(false,[.own 1]),(false,[.d (.bool)])],[(0,.deep .rat),(1,.arr false .int)]⟩
def zxN:Con:=⟨zAP,Mx × List Int × Bool,fun x=>zeL (⟨x.1,x.2.1,x.2.2.1⟩:Mx),fun r=>(r.1.rows,r.1.cols,r.2.2,r.1.cells,r.2.1,())⟩
def zrU:Code:=Tryz.f11.body.getD .skip
def zJ6:Env:=⟨zbH,[(38,zEe),(39,zr8)],[],[(6,[(0,[]),(1,[]),(2,[]),(3,[]),(4,[1,0]),(5,[3,4,0,1,2]),(6,[5,0,1,2,3,4])])]⟩
theorem zDT:zak Tryz.prog FX zJ6.cons:=zaa zNj (zab Tryz.func38 (by kernel_rfl)) rfl (zaa zJL (zab Tryz.func39 (by kernel_rfl)) rfl (zae))
theorem zyL:zad zrU=[]:=by kernel_rfl
theorem zNJ:zax Tryz.prog FX 11 zxN:=zai (E:=zJ6) (code:=zrU) mix zah zDT Tryz.func11 (by kernel_rfl) zAP (by kernel_rfl) (fun y=>((⟨y.1,y.2.1,y.2.2.2.1⟩:Mx),y.2.2.2.2.1,y.2.2.1)) zxN.out (fun _=>rfl) zxN.run (fun x=>by kernel_rfl) (by kernel_rfl) (zac zyL (trivial))
def zAO:Sig:=⟨[(true,[.d (.int .i64),.d (.int .i64),.d (.sl .rat)])],[],false,[(false,[.d (.int .i64)])],[]⟩
def zxM:Con:=⟨zAO,Int,fun x=>zcV (⟨x.1,x.2.1,x.2.2.1⟩:Mx),fun r=>(r,())⟩
def zrT:Code:=Tryz.f57.body.getD .skip
def zJ5:Env:=⟨zbH,[(11,zxN)],[],[]⟩
theorem zDS:zak Tryz.prog FX zJ5.cons:=zaa zNJ (zab Tryz.func11 (by kernel_rfl)) rfl (zae)
theorem zyK:zad zrT=[]:=by kernel_rfl
theorem zNI:zax Tryz.prog FX 57 zxM:=zai (E:=zJ5) (code:=zrT) mix zah zDS Tryz.func57 (by kernel_rfl) zAO (by kernel_rfl) (fun y=>y.1) zxM.out (fun _=>rfl) zxM.run (fun x=>by kernel_rfl) (by kernel_rfl) (zac zyK (trivial))
def zIx:Sig:=⟨[(true,[.d (.int .i64),.d (.int .i64),.d (.sl .rat)]),(false,[.d (.int .i64)]),(false,[.d (.int .i64)])],[],false,[(true,[.d (.bool),.d (.sl .int),.d (.sl .int)])],[]⟩
def zHq:Con:=⟨zIx,Rt,fun x=>zc9 (⟨x.1,x.2.1,x.2.2.1⟩:Mx) x.2.2.2.1 x.2.2.2.2.1,fun r=>(r.neg,r.mag,r.den,())⟩
def zw7:Code:=Tryz.f45.body.getD .skip
def zOv:Env:=⟨zbH,[],[],[]⟩
theorem zGE:zak Tryz.prog FX zOv.cons:=zae
theorem zBX:zad zw7=[]:=by kernel_rfl
theorem zPC:zax Tryz.prog FX 45 zHq:=zai (E:=zOv) (code:=zw7) mix zah zGE Tryz.func45 (by kernel_rfl) zIx (by kernel_rfl) (fun y=>(⟨y.1,y.2.1,y.2.2.1⟩:Rt)) zHq.out (fun _=>rfl) zHq.run (fun x=>by kernel_rfl) (by kernel_rfl) (zac zBX (trivial))
def zAN:Sig:=⟨[(false,[.d (.int .i64)]),(false,[.d (.int .i64)]),(false,[.sp [.int .i64,.int .i64,.sl .rat]]),(false,[.sp [.int .i64,.int .i64,.sl .rat]])],[],false,[(true,[.d (.bool),.d (.sl .int),.d (.sl .int)])],[]⟩
def zxL:Con:=⟨zAN,Rt,fun x=>zd1 x.1 x.2.1 (⟨x.2.2.1,x.2.2.2.1,x.2.2.2.2.1⟩:Mx) (⟨x.2.2.2.2.2.1,x.2.2.2.2.2.2.1,x.2.2.2.2.2.2.2.1⟩:Mx),fun r=>(r.neg,r.mag,r.den,())⟩
def zrS:Code:=Tryz.f104.body.getD .skip
def zJ4:Env:=⟨zbH,[(45,zHq)],[],[]⟩
theorem zDR:zak Tryz.prog FX zJ4.cons:=zaa zPC (zab Tryz.func45 (by kernel_rfl)) rfl (zae)
theorem zyJ:zad zrS=[]:=by kernel_rfl
theorem zNH:zax Tryz.prog FX 104 zxL:=zai (E:=zJ4) (code:=zrS) mix zah zDR Tryz.func104 (by kernel_rfl) zAN (by kernel_rfl) (fun y=>(⟨y.1,y.2.1,y.2.2.1⟩:Rt)) zxL.out (fun _=>rfl) zxL.run (fun x=>by kernel_rfl) (by kernel_rfl) (zac zyJ (trivial))
def zAM:Sig:=⟨[(false,[.d (.int .i64)]),(false,[.d (.int .i64)]),(false,[.fn 104 [[.int .i64,.int .i64,.sl .rat],[.int .i64,.int .i64,.sl .rat]]])],[],false,[(true,[.d (.int .i64),.d (.int .i64),.own 0])],[(0,.arr false .rat)]⟩
def zxK:Con:=⟨zAM,Mx,fun x=>zbT x.1 x.2.1 (⟨x.2.2.1,x.2.2.2.1,x.2.2.2.2.1⟩:Mx) (⟨x.2.2.2.2.2.1,x.2.2.2.2.2.2.1,x.2.2.2.2.2.2.2.1⟩:Mx),fun r=>(r.rows,r.cols,r.cells,())⟩
def znz:Code:=Tryz.f91.body.getD .skip
def zf0:Code:=(zad znz).getD 0 .skip
def zhx:Code:=(zad zf0).getD 0 .skip
def zjD:LoopD:=⟨⟨zaf [(1,false,[.d (.int .i64)]),(2,false,[.fn 104 [[.int .i64,.int .i64,.sl .rat],[.int .i64,.int .i64,.sl .rat]]]),(6,false,[.lp 384 0]),(7,false,[.lp 448 0]),(13,false,[.d (.int .i64)]),(14,false,[.d (.int .i64)])] 33 0,[(384,.box [.d (.int .i64),.d (.int .i64),.d (.sl .rat)]),(448,.box [.d (.int .i64),.d (.int .i64),.own 2176]),(2176,.arr false .rat)]⟩,[(.box 448 2,2176,.rat)],[(.exit 0,⟨zaf [(6,false,[.lp 384 0]),(7,false,[.lp 448 0])] 33 0,[(384,.box [.d (.int .i64),.d (.int .i64),.d (.sl .rat)]),(448,.box [.d (.int .i64),.d (.int .i64),.own 2176]),(2176,.arr false .rat)]⟩,[(.box 448 2,2176,.rat)])]⟩
def zjC:LoopD:=⟨⟨zaf [(1,false,[.d (.int .i64)]),(2,false,[.fn 104 [[.int .i64,.int .i64,.sl .rat],[.int .i64,.int .i64,.sl .rat]]]),(6,false,[.lp 384 0]),(7,false,[.lp 448 0]),(8,false,[.d (.int .i64)]),(13,false,[.d (.int .i64)]),(14,false,[.d (.int .i64)]),(17,false,[.d (.int .i64)]),(18,false,[.d (.int .i64)])] 33 0,[(384,.box [.d (.int .i64),.d (.int .i64),.d (.sl .rat)]),(448,.box [.d (.int .i64),.d (.int .i64),.own 2176]),(2176,.arr false .rat)]⟩,[(.box 448 2,2176,.rat)],[(.exit 2,⟨zaf [(1,false,[.d (.int .i64)]),(2,false,[.fn 104 [[.int .i64,.int .i64,.sl .rat],[.int .i64,.int .i64,.sl .rat]]]),(6,false,[.lp 384 0]),(7,false,[.lp 448 0]),(13,false,[.d (.int .i64)]),(14,false,[.d (.int .i64)])] 33 0,[(384,.box [.d (.int .i64),.d (.int .i64),.d (.sl .rat)]),(448,.box [.d (.int .i64),.d (.int .i64),.own 2176]),(2176,.arr false .rat)]⟩,[(.box 448 2,2176,.rat)])]⟩
def zoL (x:Tys zjD.head.ks):Option (zcA zjD.outs):=@whileO (Int × Int × Int × (List Rt) × Int × Int × (List Rt) × Int × Int × Int × Int × (List Rt) × Int × Int × (List Rt) × Unit) (Int × Int × (List Rt) × Int × Int × (List Rt) × Unit) zaG x
def zoK (x:Tys zjC.head.ks):Option (zcA zjC.outs):=@whileO (Int × Int × Int × (List Rt) × Int × Int × (List Rt) × Int × Int × Int × Int × Int × Int × Int × (List Rt) × Int × Int × (List Rt) × Unit) (Int × Int × Int × (List Rt) × Int × Int × (List Rt) × Int × Int × Int × Int × (List Rt) × Int × Int × (List Rt) × Unit) zaF x
def zx2:Env:=⟨lay,[(104,zxL)],[(3,zaZ zjD zoL),(6,zaZ zjC zoK)],[(8,[(0,[]),(1,[]),(2,[]),(3,[]),(4,[]),(5,[2,3,4]),(6,[5,2,3,4]),(7,[1,6,5,0,2,3,4]),(8,[]),(9,[8,7,0,1,2,3,4,5,6])])]⟩
theorem znr:zak Tryz.prog FX zx2.cons:=zaa zNH (zab Tryz.func104 (by kernel_rfl)) rfl (zae)
theorem zvd (x:Tys zjC.head.ks):stepL zx2 zjC zhx x=zaF x:=by kernel_rfl
theorem zqX:zad zhx=[]:=by kernel_rfl
theorem zFT:zaz Tryz.prog FX (zaZ zjC zoK) zhx:=zam mix zfc znr (by kernel_rfl) (zac zqX (trivial)) zvd fun _ _ h=>h
theorem zve (x:Tys zjD.head.ks):stepL zx2 zjD zf0 x=zaG x:=by kernel_rfl
theorem zqY:zad zf0=[zhx]:=by kernel_rfl
theorem zFU:zaz Tryz.prog FX (zaZ zjD zoL) zf0:=zam mix zfc znr (by kernel_rfl) (zac zqY (⟨⟨_,by kernel_rfl,zFT⟩,trivial⟩)) zve fun _ _ h=>h
theorem zyI:zad znz=[zf0]:=by kernel_rfl
theorem zNG:zax Tryz.prog FX 91 zxK:=zai (E:=zx2) (code:=znz) mix zfc znr Tryz.func91 (by kernel_rfl) zAM (by kernel_rfl) (fun y=>(⟨y.1,y.2.1,y.2.2.1⟩:Mx)) zxK.out (fun _=>rfl) zxK.run (fun x=>by kernel_rfl) (by kernel_rfl) (zac zyI (⟨⟨_,by kernel_rfl,zFU⟩,trivial⟩))
def zAL:Sig:=⟨[(true,[.d (.int .i64),.d (.int .i64),.d (.sl .rat)]),(true,[.d (.int .i64),.d (.int .i64),.d (.sl .rat)])],[],false,[(true,[.d (.int .i64),.d (.int .i64),.own 0])],[(0,.arr false .rat)]⟩
def zxJ:Con:=⟨zAL,Mx,fun x=>zeK (⟨x.1,x.2.1,x.2.2.1⟩:Mx) (⟨x.2.2.2.1,x.2.2.2.2.1,x.2.2.2.2.2.1⟩:Mx),fun r=>(r.rows,r.cols,r.cells,())⟩
def zrR:Code:=Tryz.f58.body.getD .skip
def zJ3:Env:=⟨zbH,[(91,zxK)],[],[]⟩
theorem zDQ:zak Tryz.prog FX zJ3.cons:=zaa zNG (zab Tryz.func91 (by kernel_rfl)) rfl (zae)
theorem zyH:zad zrR=[]:=by kernel_rfl
theorem zNF:zax Tryz.prog FX 58 zxJ:=zai (E:=zJ3) (code:=zrR) mix zah zDQ Tryz.func58 (by kernel_rfl) zAL (by kernel_rfl) (fun y=>(⟨y.1,y.2.1,y.2.2.1⟩:Mx)) zxJ.out (fun _=>rfl) zxJ.run (fun x=>by kernel_rfl) (by kernel_rfl) (zac zyH (trivial))
def zAK:Sig:=⟨[(true,[.d (.int .i64),.d (.int .i64),.d (.sl .rat)]),(false,[.d (.sl .rat)])],[],true,[(false,[.dp 0]),(false,[.d (.bool)])],[(0,.deep .rat)]⟩
def zxI:Con:=⟨zAK,List Rt × Bool,fun x=>zaH (⟨x.1,x.2.1,x.2.2.1⟩:Mx) x.2.2.2.1,fun r=>(r.2,r.1,())⟩
def zny:Code:=Tryz.f26.body.getD .skip
def zhw:Code:=(zad zny).getD 0 .skip
def zjB:LoopD:=⟨⟨zaf [(2,false,[.lp 128 0]),(6,false,[.lp 384 0]),(8,false,[.own 4800]),(57,false,[.d (.int .i64)]),(58,false,[.d (.int .i64)])] 72 0,[(128,.box [.d (.int .i64),.d (.int .i64),.d (.sl .rat)]),(384,.box [.d (.int .i64),.d (.int .i64),.own 4672,.own 4736,.bot]),(4672,.arr false .trat),(4736,.arr false .int),(4800,.arr false .trat),(70368744177727,.pool)]⟩,[(.slot 8 0,4800,.trat)],[(.exit 0,⟨zaf [(8,false,[.own 4800])] 72 0,[(4800,.arr false .trat),(70368744177727,.pool)]⟩,[(.slot 8 0,4800,.trat)])]⟩
def zoJ (x:Tys zjB.head.ks):Option (zcA zjB.outs):=@whileO (Int × Int × Int × Int × (List Rt) × Int × Int × (List TRt) × (List Int) × (List TRt) × Nat × Unit) ((List TRt) × Nat × Unit) za5 x
def zER:Env:=⟨zNL,[(38,zEe),(56,zHs),(57,zxM),(58,zxJ),(39,zr8),(45,zEc)],[(8,zaZ zjB zoJ)],[(1,[(0,[]),(1,[0]),(2,[]),(3,[]),(4,[]),(5,[4,3,2,1,0]),(6,[]),(7,[]),(8,[]),(9,[]),(10,[]),(11,[]),(12,[]),(13,[]),(14,[]),(15,[]),(16,[]),(17,[]),(18,[]),(19,[]),(20,[]),(21,[]),(22,[]),(23,[]),(24,[]),(25,[]),(26,[]),(27,[]),(28,[]),(30,[]),(31,[]),(29,[28,27,26,20,25,19,15,22,24,18,14,8,21,23,17,13,7,5,16,10,12,3,6,4,9,11,2,1,0]),(32,[]),(33,[])])]⟩
theorem zrL:zak Tryz.prog FX zER.cons:=zaa zNj (zab Tryz.func38 (by kernel_rfl)) rfl (zaa zPE (zab Tryz.func56 (by kernel_rfl)) rfl (zaa zNI (zab Tryz.func57 (by kernel_rfl)) rfl (zaa zNF (zab Tryz.func58 (by kernel_rfl)) rfl (zaa zJL (zab Tryz.func39 (by kernel_rfl)) rfl (zaa zNh (zab Tryz.func45 (by kernel_rfl)) rfl (zae))))))
theorem zvc (x:Tys zjB.head.ks):stepL zER zjB zhw x=za5 x:=by kernel_rfl
theorem zqW:zad zhw=[]:=by kernel_rfl
theorem zFS:zaz Tryz.prog FX (zaZ zjB zoJ) zhw:=zam mix zfR zrL (by kernel_rfl) (zac zqW (trivial)) zvc fun _ _ h=>h
theorem zyG:zad zny=[zhw]:=by kernel_rfl
theorem zNE:zax Tryz.prog FX 26 zxI:=zqM (E:=zER) (code:=zny) mix zfR zrL Tryz.func26 (by kernel_rfl) zAK (by kernel_rfl) (by kernel_rfl) (fun y=>(y.2.1,y.1)) zxI.out (fun _=>rfl) zxI.run (fun x=>by kernel_rfl) (by kernel_rfl) (zac zyG (⟨⟨_,by kernel_rfl,zFS⟩,trivial⟩))
def zAJ:Sig:=⟨[(false,[.d (.sl .int)]),(false,[.d (.sl .int)])],[],false,[(false,[.d (.bool)])],[]⟩
def zr7:Con:=⟨zAJ,Bool,fun x=>zeE x.1 x.2.1,fun r=>(r,())⟩
def znx:Code:=Tryz.f13.body.getD .skip
def zhv:Code:=(zad znx).getD 0 .skip
def zjA:LoopD:=⟨⟨zaf [(0,false,[.d (.sl .int)]),(1,false,[.d (.sl .int)]),(5,false,[.d (.int .i64)])] 26 0,[]⟩,[],[(.ret,⟨zaf [(4,false,[.d (.bool)])] 26 0,[]⟩,[]),(.exit 0,⟨zaf [] 26 0,[]⟩,[])]⟩
def zoI (x:Tys zjA.head.ks):Option (zcA zjA.outs):=@whileO ((List Int) × (List Int) × Int × Unit) ((Bool × Unit) ⊕ (Unit)) zdr x
def zEQ:Env:=⟨zbH,[],[(4,zaZ zjA zoI)],[(6,[(0,[]),(1,[]),(2,[]),(3,[]),(4,[]),(5,[]),(6,[]),(7,[]),(8,[])])]⟩
theorem zrK:zak Tryz.prog FX zEQ.cons:=zae
theorem zvb (x:Tys zjA.head.ks):stepL zEQ zjA zhv x=zdr x:=by kernel_rfl
theorem zqV:zad zhv=[]:=by kernel_rfl
theorem zFR:zaz Tryz.prog FX (zaZ zjA zoI) zhv:=zam mix zah zrK (by kernel_rfl) (zac zqV (trivial)) zvb fun _ _ h=>h
theorem zyF:zad znx=[zhv]:=by kernel_rfl
theorem zJK:zax Tryz.prog FX 13 zr7:=zai (E:=zEQ) (code:=znx) mix zah zrK Tryz.func13 (by kernel_rfl) zAJ (by kernel_rfl) (fun y=>y.1) zr7.out (fun _=>rfl) zr7.run (fun x=>by kernel_rfl) (by kernel_rfl) (zac zyF (⟨⟨_,by kernel_rfl,zFR⟩,trivial⟩))
def zAI:Sig:=⟨[(true,[.d (.bool),.d (.sl .int)]),(true,[.d (.bool),.d (.sl .int)])],[],false,[(false,[.d (.bool)])],[]⟩
def zxH:Con:=⟨zAI,Bool,fun x=>zf7 (⟨x.1,x.2.1⟩:Bg) (⟨x.2.2.1,x.2.2.2.1⟩:Bg),fun r=>(r,())⟩
def zrQ:Code:=Tryz.f98.body.getD .skip
def zJ2:Env:=⟨zbH,[(13,zr7)],[],[]⟩
theorem zDP:zak Tryz.prog FX zJ2.cons:=zaa zJK (zab Tryz.func13 (by kernel_rfl)) rfl (zae)
theorem zyE:zad zrQ=[]:=by kernel_rfl
theorem zND:zax Tryz.prog FX 98 zxH:=zai (E:=zJ2) (code:=zrQ) mix zah zDP Tryz.func98 (by kernel_rfl) zAI (by kernel_rfl) (fun y=>y.1) zxH.out (fun _=>rfl) zxH.run (fun x=>by kernel_rfl) (by kernel_rfl) (zac zyE (trivial))
def zAH:Sig:=⟨[(true,[.d (.bool),.d (.sl .int),.d (.sl .int)]),(true,[.d (.bool),.d (.sl .int),.d (.sl .int)])],[],false,[(false,[.d (.bool)])],[]⟩
def zxG:Con:=⟨zAH,Bool,fun x=>zgn (⟨x.1,x.2.1,x.2.2.1⟩:Rt) (⟨x.2.2.2.1,x.2.2.2.2.1,x.2.2.2.2.2.1⟩:Rt),fun r=>(r,())⟩
def zrP:Code:=Tryz.f51.body.getD .skip
def zJ1:Env:=⟨zbH,[(98,zxH),(13,zr7)],[],[]⟩
theorem zDO:zak Tryz.prog FX zJ1.cons:=zaa zND (zab Tryz.func98 (by kernel_rfl)) rfl (zaa zJK (zab Tryz.func13 (by kernel_rfl)) rfl (zae))
theorem zyD:zad zrP=[]:=by kernel_rfl
theorem zNB:zax Tryz.prog FX 51 zxG:=zai (E:=zJ1) (code:=zrP) mix zah zDO Tryz.func51 (by kernel_rfl) zAH (by kernel_rfl) (fun y=>y.1) zxG.out (fun _=>rfl) zxG.run (fun x=>by kernel_rfl) (by kernel_rfl) (zac zyD (trivial))
def zAG:Sig:=⟨[(false,[.d (.sl .rat)]),(false,[.d (.sl .rat)])],[],false,[(false,[.d (.bool)])],[]⟩
def zr6:Con:=⟨zAG,Bool,fun x=>zc5 x.1 x.2.1,fun r=>(r,())⟩
def znw:Code:=Tryz.f20.body.getD .skip
def zhu:Code:=(zad znw).getD 0 .skip
def zjz:LoopD:=⟨⟨zaf [(0,false,[.d (.sl .rat)]),(1,false,[.d (.sl .rat)]),(5,false,[.d (.int .i64)])] 27 0,[]⟩,[],[(.ret,⟨zaf [(4,false,[.d (.bool)])] 27 0,[]⟩,[]),(.exit 0,⟨zaf [] 27 0,[]⟩,[])]⟩
def zoH (x:Tys zjz.head.ks):Option (zcA zjz.outs):=@whileO ((List Rt) × (List Rt) × Int × Unit) ((Bool × Unit) ⊕ (Unit)) zep x
def zEP:Env:=⟨zbH,[(51,zxG)],[(4,zaZ zjz zoH)],[(6,[(0,[]),(1,[]),(2,[]),(3,[]),(4,[]),(5,[]),(6,[]),(7,[]),(8,[3,7,2,6,0,1,4,5]),(9,[])])]⟩
theorem zrJ:zak Tryz.prog FX zEP.cons:=zaa zNB (zab Tryz.func51 (by kernel_rfl)) rfl (zae)
theorem zva (x:Tys zjz.head.ks):stepL zEP zjz zhu x=zep x:=by kernel_rfl
theorem zqU:zad zhu=[]:=by kernel_rfl
theorem zFQ:zaz Tryz.prog FX (zaZ zjz zoH) zhu:=zam mix zah zrJ (by kernel_rfl) (zac zqU (trivial)) zva fun _ _ h=>h
theorem zyC:zad znw=[zhu]:=by kernel_rfl
theorem zJJ:zax Tryz.prog FX 20 zr6:=zai (E:=zEP) (code:=znw) mix zah zrJ Tryz.func20 (by kernel_rfl) zAG (by kernel_rfl) (fun y=>y.1) zr6.out (fun _=>rfl) zr6.run (fun x=>by kernel_rfl) (by kernel_rfl) (zac zyC (⟨⟨_,by kernel_rfl,zFQ⟩,trivial⟩))
def zAF:Sig:=⟨[(true,[.d (.int .i64),.d (.int .i64),.d (.sl .rat)]),(true,[.d (.int .i64),.d (.int .i64),.d (.sl .rat)])],[],false,[(false,[.d (.bool)])],[]⟩
def zxF:Con:=⟨zAF,Bool,fun x=>zeD (⟨x.1,x.2.1,x.2.2.1⟩:Mx) (⟨x.2.2.2.1,x.2.2.2.2.1,x.2.2.2.2.2.1⟩:Mx),fun r=>(r,())⟩
def zrO:Code:=Tryz.f12.body.getD .skip
def zJ0:Env:=⟨zbH,[(20,zr6)],[],[]⟩
theorem zDN:zak Tryz.prog FX zJ0.cons:=zaa zJJ (zab Tryz.func20 (by kernel_rfl)) rfl (zae)
theorem zyB:zad zrO=[]:=by kernel_rfl
theorem zNA:zax Tryz.prog FX 12 zxF:=zai (E:=zJ0) (code:=zrO) mix zah zDN Tryz.func12 (by kernel_rfl) zAF (by kernel_rfl) (fun y=>y.1) zxF.out (fun _=>rfl) zxF.run (fun x=>by kernel_rfl) (by kernel_rfl) (zac zyB (trivial))
def zAE:Sig:=⟨[(false,[.own 63]),(false,[.d (.int .i64)])],[(63,.arr false .int)],false,[(false,[.d (.int .i64)])],[(63,.arr false .int)]⟩
def zxE:Con:=⟨zAE,Int × List Int,fun x=>zcr x.2.1 x.1,fun r=>(r.1,r.2,())⟩
def znv:Code:=Tryz.f15.body.getD .skip
def zht:Code:=(zad znv).getD 0 .skip
def zjy:LoopD:=⟨⟨zaf [(0,false,[.own 63]),(1,false,[.d (.int .i64)]),(5,false,[.d (.int .i64)])] 19 0,[(63,.arr false .int)]⟩,[],[(.exit 0,⟨zaf [(1,false,[.d (.int .i64)])] 19 0,[(63,.arr false .int)]⟩,[])]⟩
def zoG (x:Tys zjy.head.ks):Option (zcA zjy.outs):=@whileO (Int × Int × (List Int) × Unit) (Int × (List Int) × Unit) zbj x
def zEO:Env:=⟨zbH,[],[(2,zaZ zjy zoG)],[]⟩
theorem zrI:zak Tryz.prog FX zEO.cons:=zae
theorem zu9 (x:Tys zjy.head.ks):stepL zEO zjy zht x=zbj x:=by kernel_rfl
theorem zqT:zad zht=[]:=by kernel_rfl
theorem zFP:zaz Tryz.prog FX (zaZ zjy zoG) zht:=zam mix zah zrI (by kernel_rfl) (zac zqT (trivial)) zu9 fun _ _ h=>h
theorem zyA:zad znv=[zht]:=by kernel_rfl
theorem zNz:zax Tryz.prog FX 15 zxE:=zai (E:=zEO) (code:=znv) mix zah zrI Tryz.func15 (by kernel_rfl) zAE (by kernel_rfl) (fun y=>(y.1,y.2.1)) zxE.out (fun _=>rfl) zxE.run (fun x=>by kernel_rfl) (by kernel_rfl) (zac zyA (⟨⟨_,by kernel_rfl,zFP⟩,trivial⟩))
def zAD:Sig:=⟨[(false,[.dp 63]),(false,[.d (.int .i64)])],[(63,.deep .rat)],false,[(false,[.d (.int .i64)])],[(63,.deep .rat)]⟩
def zr5:Con:=⟨zAD,Int × List Rt,fun x=>zbM x.2.1 x.1,fun r=>(r.1,r.2,())⟩
def znu:Code:=Tryz.f21.body.getD .skip
def zhs:Code:=(zad znu).getD 0 .skip
def zjx:LoopD:=⟨⟨zaf [(0,false,[.dp 63]),(1,false,[.d (.int .i64)]),(5,false,[.d (.int .i64)])] 38 0,[(63,.deep .rat)]⟩,[],[(.exit 0,⟨zaf [(1,false,[.d (.int .i64)])] 38 0,[(63,.deep .rat)]⟩,[])]⟩
def zoF (x:Tys zjx.head.ks):Option (zcA zjx.outs):=@whileO (Int × Int × (List Rt) × Unit) (Int × (List Rt) × Unit) zbR x
def zEN:Env:=⟨zbH,[(15,zxE)],[(2,zaZ zjx zoF)],[]⟩
theorem zrH:zak Tryz.prog FX zEN.cons:=zaa zNz (zab Tryz.func15 (by kernel_rfl)) rfl (zae)
theorem zu8 (x:Tys zjx.head.ks):stepL zEN zjx zhs x=zbR x:=by kernel_rfl
theorem zqS:zad zhs=[]:=by kernel_rfl
theorem zFO:zaz Tryz.prog FX (zaZ zjx zoF) zhs:=zam mix zah zrH (by kernel_rfl) (zac zqS (trivial)) zu8 fun _ _ h=>h
theorem zyz:zad znu=[zhs]:=by kernel_rfl
theorem zJI:zax Tryz.prog FX 21 zr5:=zai (E:=zEN) (code:=znu) mix zah zrH Tryz.func21 (by kernel_rfl) zAD (by kernel_rfl) (fun y=>(y.1,y.2.1)) zr5.out (fun _=>rfl) zr5.run (fun x=>by kernel_rfl) (by kernel_rfl) (zac zyz (⟨⟨_,by kernel_rfl,zFO⟩,trivial⟩))
def zAC:Sig:=⟨[(true,[.d (.int .i64),.d (.int .i64),.dp 191]),(false,[.d (.int .i64)])],[(191,.deep .rat)],false,[(false,[.d (.int .i64)])],[(191,.deep .rat)]⟩
def zxD:Con:=⟨zAC,Int × List Rt,fun x=>zcC (⟨x.1,x.2.1,x.2.2.2.1⟩:Mx) x.2.2.1,fun r=>(r.1,r.2,())⟩
def zrN:Code:=Tryz.f14.body.getD .skip
def zJZ:Env:=⟨zbH,[(21,zr5)],[],[]⟩
theorem zDM:zak Tryz.prog FX zJZ.cons:=zaa zJI (zab Tryz.func21 (by kernel_rfl)) rfl (zae)
theorem zyy:zad zrN=[]:=by kernel_rfl
theorem zNy:zax Tryz.prog FX 14 zxD:=zai (E:=zJZ) (code:=zrN) mix zah zDM Tryz.func14 (by kernel_rfl) zAC (by kernel_rfl) (fun y=>(y.1,y.2.1)) zxD.out (fun _=>rfl) zxD.run (fun x=>by kernel_rfl) (by kernel_rfl) (zac zyy (trivial))
def zAB:Sig:=⟨[(false,[.d (.sl .int)]),(false,[.d (.int .i64)])],[],false,[(false,[.d (.int .i64)])],[]⟩
def zxC:Con:=⟨zAB,Int,fun x=>zdw x.1 x.2.1,fun r=>(r,())⟩
def znt:Code:=Tryz.f17.body.getD .skip
def zhr:Code:=(zad znt).getD 0 .skip
def zjw:LoopD:=⟨⟨zaf [(0,false,[.d (.sl .int)]),(1,false,[.d (.int .i64)]),(5,false,[.d (.int .i64)])] 21 0,[]⟩,[],[(.ret,⟨zaf [(4,false,[.d (.int .i64)])] 21 0,[]⟩,[]),(.exit 0,⟨zaf [(1,false,[.d (.int .i64)])] 21 0,[]⟩,[])]⟩
def zoE (x:Tys zjw.head.ks):Option (zcA zjw.outs):=@whileO ((List Int) × Int × Int × Unit) ((Int × Unit) ⊕ (Int × Unit)) zb2 x
def zEM:Env:=⟨zbH,[],[(2,zaZ zjw zoE)],[]⟩
theorem zrG:zak Tryz.prog FX zEM.cons:=zae
theorem zu7 (x:Tys zjw.head.ks):stepL zEM zjw zhr x=zb2 x:=by kernel_rfl
theorem zqR:zad zhr=[]:=by kernel_rfl
theorem zFN:zaz Tryz.prog FX (zaZ zjw zoE) zhr:=zam mix zah zrG (by kernel_rfl) (zac zqR (trivial)) zu7 fun _ _ h=>h
theorem zyx:zad znt=[zhr]:=by kernel_rfl
theorem zNx:zax Tryz.prog FX 17 zxC:=zai (E:=zEM) (code:=znt) mix zah zrG Tryz.func17 (by kernel_rfl) zAB (by kernel_rfl) (fun y=>y.1) zxC.out (fun _=>rfl) zxC.run (fun x=>by kernel_rfl) (by kernel_rfl) (zac zyx (⟨⟨_,by kernel_rfl,zFN⟩,trivial⟩))
def zAA:Sig:=⟨[(false,[.d (.sl .rat)]),(false,[.d (.int .i64)])],[],false,[(false,[.d (.int .i64)])],[]⟩
def zxB:Con:=⟨zAA,Int,fun x=>zdv x.1 x.2.1,fun r=>(r,())⟩
def zns:Code:=Tryz.f22.body.getD .skip
def zhq:Code:=(zad zns).getD 0 .skip
def zjv:LoopD:=⟨⟨zaf [(0,false,[.d (.sl .rat)]),(1,false,[.d (.int .i64)]),(5,false,[.d (.int .i64)])] 44 0,[]⟩,[],[(.ret,⟨zaf [(4,false,[.d (.int .i64)])] 44 0,[]⟩,[]),(.exit 0,⟨zaf [(1,false,[.d (.int .i64)])] 44 0,[]⟩,[])]⟩
def zoD (x:Tys zjv.head.ks):Option (zcA zjv.outs):=@whileO ((List Rt) × Int × Int × Unit) ((Int × Unit) ⊕ (Int × Unit)) zcG x
def zEL:Env:=⟨zbH,[(17,zxC)],[(2,zaZ zjv zoD)],[]⟩
theorem zrF:zak Tryz.prog FX zEL.cons:=zaa zNx (zab Tryz.func17 (by kernel_rfl)) rfl (zae)
theorem zu6 (x:Tys zjv.head.ks):stepL zEL zjv zhq x=zcG x:=by kernel_rfl
theorem zqQ:zad zhq=[]:=by kernel_rfl
theorem zFM:zaz Tryz.prog FX (zaZ zjv zoD) zhq:=zam mix zah zrF (by kernel_rfl) (zac zqQ (trivial)) zu6 fun _ _ h=>h
theorem zyw:zad zns=[zhq]:=by kernel_rfl
theorem zNw:zax Tryz.prog FX 22 zxB:=zai (E:=zEL) (code:=zns) mix zah zrF Tryz.func22 (by kernel_rfl) zAA (by kernel_rfl) (fun y=>y.1) zxB.out (fun _=>rfl) zxB.run (fun x=>by kernel_rfl) (by kernel_rfl) (zac zyw (⟨⟨_,by kernel_rfl,zFM⟩,trivial⟩))
def zAz:Sig:=⟨[(true,[.d (.int .i64),.d (.int .i64),.d (.sl .rat)]),(false,[.d (.sl .rat)])],[],false,[(false,[.d (.bool)])],[]⟩
def zEr:Con:=⟨zAz,Bool,fun x=>M_laws_FnExactSolveSystem (⟨x.1,x.2.1,x.2.2.1⟩:Mx) x.2.2.2.1,fun r=>(r,())⟩
def zrM:Code:=Tryz.f5.body.getD .skip
def zJY:Env:=⟨zbH,[(8,zO4),(23,zN1),(10,zHV),(25,zNZ),(24,zHv),(26,zxI),(20,zr6),(12,zxF),(14,zxD),(21,zr5),(22,zxB)],[],[(14,[(0,[]),(1,[]),(2,[1]),(3,[0,2,1]),(4,[])])]⟩
theorem zDL:zak Tryz.prog FX zJY.cons:=zaa zQI (zab Tryz.func8 (by kernel_rfl)) rfl (zaa zQq (zab Tryz.func23 (by kernel_rfl)) rfl (zaa zP7 (zab Tryz.func10 (by kernel_rfl)) rfl (zaa zQo (zab Tryz.func25 (by kernel_rfl)) rfl (zaa zPH (zab Tryz.func24 (by kernel_rfl)) rfl (zaa zNE (zab Tryz.func26 (by kernel_rfl)) rfl (zaa zJJ (zab Tryz.func20 (by kernel_rfl)) rfl (zaa zNA (zab Tryz.func12 (by kernel_rfl)) rfl (zaa zNy (zab Tryz.func14 (by kernel_rfl)) rfl (zaa zJI (zab Tryz.func21 (by kernel_rfl)) rfl (zaa zNw (zab Tryz.func22 (by kernel_rfl)) rfl (zae)))))))))))
theorem zyv:zad zrM=[]:=by kernel_rfl
theorem m_q118:zax Tryz.prog FX 5 zEr:=zai (E:=zJY) (code:=zrM) mix zah zDL Tryz.func5 (by kernel_rfl) zAz (by kernel_rfl) (fun y=>y.1) zEr.out (fun _=>rfl) zEr.run (fun x=>by kernel_rfl) (by kernel_rfl) (zac zyv (trivial))
end Go.Proofs.YtemlaciidfaceaaGreat.WSolveSystem
