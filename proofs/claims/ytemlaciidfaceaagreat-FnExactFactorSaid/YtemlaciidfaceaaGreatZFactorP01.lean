/-
  Own work: part 8 of the texts that the proof of the given statement leans on.
-/
import Derived.Test.YtemlaciidfaceaaGreatProg
import Derived.Test.YtemlaciidfaceaaGreatZFactorP00
noncomputable section
open Go Go.Di Go.Proofs
namespace Go.Proofs.YtemlaciidfaceaaGreat.WFactor
def FX:Nat→Option (Array Value→Prop):=zM1
def zP7:List (TypeId × TI):=[
  (3,⟨false,[.d (.int .i64 0)],[],none,some (.int .i64),false,false⟩),
  (4,⟨false,[.d (.bool false)],[],none,some .bool,false,false⟩),
  (22,⟨false,[.mt],[],some .trat,none,false,false⟩),
  (24,⟨true,[.d (.int .i64 0),.d (.int .i64 0),.mt],[(0,1,false),(1,1,false),(2,1,false)],none,none,true,false⟩),
  (26,⟨false,[.mt],[],some .trat,none,false,false⟩),
  (28,⟨true,[.d (.int .i64 0),.d (.int .i64 0),.mt],[(0,1,false),(1,1,false),(2,1,false)],none,none,true,false⟩),
  (29,⟨false,[.mt],[],some .int,none,false,false⟩),
  (65,⟨true,[.d (.bool false),.mt],[(0,1,false),(1,1,false)],none,none,true,false⟩),
  (67,⟨true,[.d (.bool false),.mt,.mt],[(0,2,true),(2,1,false)],none,none,true,false⟩),
  (75,⟨true,[.d (.bool false),.mt],[(0,1,false),(1,1,false)],none,none,true,false⟩),
  (77,⟨true,[.d (.bool false),.mt,.mt],[(0,2,true),(2,1,false)],none,none,true,false⟩)]
def lay:List (TypeId × TI):=[
  (3,⟨false,[.d (.int .i64 0)],[],none,some (.int .i64),false,false⟩),
  (4,⟨false,[.d (.bool false)],[],none,some .bool,false,false⟩),
  (22,⟨false,[.mt],[],some .rat,none,false,false⟩),
  (24,⟨true,[.d (.int .i64 0),.d (.int .i64 0),.mt],[(0,1,false),(1,1,false),(2,1,false)],none,none,true,false⟩),
  (26,⟨false,[.mt],[],some .rat,none,false,false⟩),
  (28,⟨true,[.d (.int .i64 0),.d (.int .i64 0),.mt],[(0,1,false),(1,1,false),(2,1,false)],none,none,true,false⟩),
  (29,⟨false,[.mt],[],some .int,none,false,false⟩),
  (65,⟨true,[.d (.bool false),.mt],[(0,1,false),(1,1,false)],none,none,true,false⟩),
  (67,⟨true,[.d (.bool false),.mt,.mt],[(0,2,true),(2,1,false)],none,none,true,false⟩),
  (75,⟨true,[.d (.bool false),.mt],[(0,1,false),(1,1,false)],none,none,true,false⟩),
  (77,⟨true,[.d (.bool false),.mt,.mt],[(0,2,true),(2,1,false)],none,none,true,false⟩)]
def zbq:List (TypeId × TI):=[
  (3,⟨false,[.d (.int .i64 0)],[],none,some (.int .i64),false,false⟩),
  (4,⟨false,[.d (.bool false)],[],none,some .bool,false,false⟩),
  (22,⟨false,[.mt],[],some .rat,none,false,true⟩),
  (24,⟨true,[.d (.int .i64 0),.d (.int .i64 0),.mt],[(0,1,false),(1,1,false),(2,1,false)],none,none,true,false⟩),
  (26,⟨false,[.mt],[],some .rat,none,false,true⟩),
  (28,⟨true,[.d (.int .i64 0),.d (.int .i64 0),.mt],[(0,1,false),(1,1,false),(2,1,false)],none,none,true,false⟩),
  (29,⟨false,[.mt],[],some .int,none,false,false⟩),
  (65,⟨true,[.d (.bool false),.mt],[(0,1,false),(1,1,false)],none,none,true,false⟩),
  (67,⟨true,[.d (.bool false),.mt,.mt],[(0,2,true),(2,1,false)],none,none,true,false⟩),
  (75,⟨true,[.d (.bool false),.mt],[(0,1,false),(1,1,false)],none,none,true,false⟩),
  (77,⟨true,[.d (.bool false),.mt,.mt],[(0,2,true),(2,1,false)],none,none,true,false⟩)]
theorem zjG:zcF Tryz.prog lay:=zmb (by kernel_rfl)
theorem zaf:zcF Tryz.prog zbq:=zmb (by kernel_rfl)
theorem zkL:zcF Tryz.prog zP7:=zmb (by kernel_rfl)
theorem mix:Tryz.prog.follows .mixedOrders=true:=by kernel_rfl
def zMS:Sig:=⟨[(false,[.d (.sl .int)]),(false,[.d (.int .i64)])],[],false,[(false,[.d (.int .i64)])],[]⟩
def zNU:Con:=⟨zMS,Int,fun x=>zeD x.1 x.2.1,fun r=>(r,())⟩
def zDL:Code:=Tryz.f100.body.getD .skip
def zQy:Env:=⟨zbq,[],[],[]⟩
theorem zLZ:zaj Tryz.prog FX zQy.cons:=zae
theorem zFk:zad zDL=[]:=by kernel_rfl
theorem zQm:zav Tryz.prog FX 100 zNU:=zah (E:=zQy) (code:=zDL) mix zaf zLZ Tryz.func100 (by kernel_rfl) zMS (by kernel_rfl) (fun y=>y.1) zNU.out (fun _=>rfl) zNU.run (fun x=>by kernel_rfl) (by kernel_rfl) (zac zFk (trivial))
def zMR:Sig:=⟨[(true,[.d (.bool),.d (.sl .int)]),(false,[.d (.int .i64)])],[],false,[(false,[.d (.int .i64)])],[]⟩
def zO1:Con:=⟨zMR,Int,fun x=>zf4 (⟨x.1,x.2.1⟩:Bg) x.2.2.1,fun r=>(r,())⟩
def zDK:Code:=Tryz.f99.body.getD .skip
def zQx:Env:=⟨zbq,[(100,zNU)],[],[]⟩
theorem zLY:zaj Tryz.prog FX zQx.cons:=zab zQm (zaa Tryz.func100 (by kernel_rfl)) rfl (zae)
theorem zFj:zad zDK=[]:=by kernel_rfl
theorem zQH:zav Tryz.prog FX 99 zO1:=zah (E:=zQx) (code:=zDK) mix zaf zLY Tryz.func99 (by kernel_rfl) zMR (by kernel_rfl) (fun y=>y.1) zO1.out (fun _=>rfl) zO1.run (fun x=>by kernel_rfl) (by kernel_rfl) (zac zFj (trivial))
def zMQ:Sig:=⟨[(true,[.d (.bool),.d (.sl .int),.d (.sl .int)]),(false,[.d (.int .i64)])],[],false,[(false,[.d (.int .i64)])],[]⟩
def zO0:Con:=⟨zMQ,Int,fun x=>zgj (⟨x.1,x.2.1,x.2.2.1⟩:Rt) x.2.2.2.1,fun r=>(r,())⟩
def zDJ:Code:=Tryz.f52.body.getD .skip
def zQw:Env:=⟨zbq,[(99,zO1),(100,zNU)],[],[]⟩
theorem zLX:zaj Tryz.prog FX zQw.cons:=zab zQH (zaa Tryz.func99 (by kernel_rfl)) rfl (zab zQm (zaa Tryz.func100 (by kernel_rfl)) rfl (zae))
theorem zFi:zad zDJ=[]:=by kernel_rfl
theorem zQG:zav Tryz.prog FX 52 zO0:=zah (E:=zQw) (code:=zDJ) mix zaf zLX Tryz.func52 (by kernel_rfl) zMQ (by kernel_rfl) (fun y=>y.1) zO0.out (fun _=>rfl) zO0.run (fun x=>by kernel_rfl) (by kernel_rfl) (zac zFi (trivial))
def zMP:Sig:=⟨[(false,[.d (.sl .rat)]),(false,[.d (.int .i64)])],[],false,[(false,[.d (.int .i64)])],[]⟩
def zOZ:Con:=⟨zMP,Int,fun x=>zhB x.1 x.2.1,fun r=>(r,())⟩
def zuF:Code:=Tryz.f23.body.getD .skip
def zkw:Code:=(zad zuF).getD 0 .skip
def zoF:LoopD:=⟨⟨zai [(0,false,[.d (.sl .rat)]),(1,false,[.d (.int .i64)]),(5,false,[.d (.int .i64)])] 27 0,[]⟩,[],[(.ret,⟨zai [(4,false,[.d (.int .i64)])] 27 0,[]⟩,[]),(.exit 0,⟨zai [(1,false,[.d (.int .i64)])] 27 0,[]⟩,[])]⟩
def zxH (x:Tys zoF.head.ks):Option (zc1 zoF.outs):=@whileO ((List Rt) × Int × Int × Unit) ((Int × Unit) ⊕ (Int × Unit)) zep x
def zQg:Env:=⟨zbq,[(52,zO0)],[(5,za5 zoF zxH)],[]⟩
theorem zDo:zaj Tryz.prog FX zQg.cons:=zab zQG (zaa Tryz.func52 (by kernel_rfl)) rfl (zae)
theorem zEn (x:Tys zoF.head.ks):stepL zQg zoF zkw x=zep x:=by kernel_rfl
theorem zyb:zad zkw=[]:=by kernel_rfl
theorem zND:zaz Tryz.prog FX (za5 zoF zxH) zkw:=zam mix zaf zDo (by kernel_rfl) (zac zyb (trivial)) zEn fun _ _ h=>h
theorem zFh:zad zuF=[zkw]:=by kernel_rfl
theorem zQF:zav Tryz.prog FX 23 zOZ:=zah (E:=zQg) (code:=zuF) mix zaf zDo Tryz.func23 (by kernel_rfl) zMP (by kernel_rfl) (fun y=>y.1) zOZ.out (fun _=>rfl) zOZ.run (fun x=>by kernel_rfl) (by kernel_rfl) (zac zFh (⟨⟨_,by kernel_rfl,zND⟩,trivial⟩))
def zMO:Sig:=⟨[(true,[.d (.int .i64),.d (.int .i64),.d (.sl .rat)]),(false,[.d (.int .i64)])],[],false,[(false,[.d (.int .i64)])],[]⟩
def zOY:Con:=⟨zMO,Int,fun x=>zeC (⟨x.1,x.2.1,x.2.2.1⟩:Mx) x.2.2.2.1,fun r=>(r,())⟩
def zDI:Code:=Tryz.f8.body.getD .skip
def zQv:Env:=⟨zbq,[(23,zOZ)],[],[]⟩
theorem zLW:zaj Tryz.prog FX zQv.cons:=zab zQF (zaa Tryz.func23 (by kernel_rfl)) rfl (zae)
theorem zFg:zad zDI=[]:=by kernel_rfl
theorem zQE:zav Tryz.prog FX 8 zOY:=zah (E:=zQv) (code:=zDI) mix zaf zLW Tryz.func8 (by kernel_rfl) zMO (by kernel_rfl) (fun y=>y.1) zOY.out (fun _=>rfl) zOY.run (fun x=>by kernel_rfl) (by kernel_rfl) (zac zFg (trivial))
def zMN:Sig:=⟨[(false,[.d (.sl .int)])],[],false,[(false,[.own 0])],[(0,.arr false .int)]⟩
def zNT:Con:=⟨zMN,List Int,fun x=>zeB x.1,fun r=>(r,())⟩
def zuE:Code:=Tryz.f103.body.getD .skip
def zkv:Code:=(zad zuE).getD 0 .skip
def zoE:LoopD:=⟨⟨zai [(0,false,[.d (.sl .int)]),(3,false,[.own 1472]),(4,false,[.d (.int .i64)])] 22 0,[(1472,.arr false .int)]⟩,[],[(.exit 0,⟨zai [(3,false,[.own 1472])] 22 0,[(1472,.arr false .int)]⟩,[])]⟩
def zxG (x:Tys zoE.head.ks):Option (zc1 zoE.outs):=@whileO ((List Int) × Int × (List Int) × Unit) ((List Int) × Unit) zdu x
def zQf:Env:=⟨zbq,[],[(3,za5 zoE zxG)],[]⟩
theorem zDn:zaj Tryz.prog FX zQf.cons:=zae
theorem zEm (x:Tys zoE.head.ks):stepL zQf zoE zkv x=zdu x:=by kernel_rfl
theorem zya:zad zkv=[]:=by kernel_rfl
theorem zNC:zaz Tryz.prog FX (za5 zoE zxG) zkv:=zam mix zaf zDn (by kernel_rfl) (zac zya (trivial)) zEm fun _ _ h=>h
theorem zFf:zad zuE=[zkv]:=by kernel_rfl
theorem zQl:zav Tryz.prog FX 103 zNT:=zah (E:=zQf) (code:=zuE) mix zaf zDn Tryz.func103 (by kernel_rfl) zMN (by kernel_rfl) (fun y=>y.1) zNT.out (fun _=>rfl) zNT.run (fun x=>by kernel_rfl) (by kernel_rfl) (zac zFf (⟨⟨_,by kernel_rfl,zNC⟩,trivial⟩))
def zMM:Sig:=⟨[(true,[.d (.bool),.d (.sl .int)])],[],false,[(true,[.d (.bool),.own 0])],[(0,.arr false .int)]⟩
def zOX:Con:=⟨zMM,Bg,fun x=>zf3 (⟨x.1,x.2.1⟩:Bg),fun r=>(r.neg,r.mag,())⟩
def zDH:Code:=Tryz.f102.body.getD .skip
def zQu:Env:=⟨zbq,[(103,zNT)],[],[]⟩
theorem zLV:zaj Tryz.prog FX zQu.cons:=zab zQl (zaa Tryz.func103 (by kernel_rfl)) rfl (zae)
theorem zFe:zad zDH=[]:=by kernel_rfl
theorem zQD:zav Tryz.prog FX 102 zOX:=zah (E:=zQu) (code:=zDH) mix zaf zLV Tryz.func102 (by kernel_rfl) zMM (by kernel_rfl) (fun y=>(⟨y.1,y.2.1⟩:Bg)) zOX.out (fun _=>rfl) zOX.run (fun x=>by kernel_rfl) (by kernel_rfl) (zac zFe (trivial))
def zML:Sig:=⟨[(true,[.d (.bool),.d (.sl .int),.d (.sl .int)])],[],false,[(true,[.d (.bool),.own 0,.own 1])],[(0,.arr false .int),(1,.arr false .int)]⟩
def zOW:Con:=⟨zML,Rt,fun x=>zgi (⟨x.1,x.2.1,x.2.2.1⟩:Rt),fun r=>(r.neg,r.mag,r.den,())⟩
def zDG:Code:=Tryz.f55.body.getD .skip
def zQt:Env:=⟨zbq,[(102,zOX),(103,zNT)],[],[]⟩
theorem zLU:zaj Tryz.prog FX zQt.cons:=zab zQD (zaa Tryz.func102 (by kernel_rfl)) rfl (zab zQl (zaa Tryz.func103 (by kernel_rfl)) rfl (zae))
theorem zFd:zad zDG=[]:=by kernel_rfl
theorem zQC:zav Tryz.prog FX 55 zOW:=zah (E:=zQt) (code:=zDG) mix zaf zLU Tryz.func55 (by kernel_rfl) zML (by kernel_rfl) (fun y=>(⟨y.1,y.2.1,y.2.2.1⟩:Rt)) zOW.out (fun _=>rfl) zOW.run (fun x=>by kernel_rfl) (by kernel_rfl) (zac zFd (trivial))
def zMK:Sig:=⟨[(false,[.d (.sl .rat)])],[],false,[(false,[.dp 0])],[(0,.deep .rat)]⟩
def zOV:Con:=⟨zMK,List Rt,fun x=>zfB x.1,fun r=>(r,())⟩
def zuD:Code:=Tryz.f25.body.getD .skip
def zku:Code:=(zad zuD).getD 0 .skip
def zoD:LoopD:=⟨⟨zai [(0,false,[.d (.sl .rat)]),(3,false,[.dp 1536]),(4,false,[.d (.int .i64)])] 23 0,[(1536,.deep .rat)]⟩,[],[(.exit 0,⟨zai [(3,false,[.dp 1536])] 23 0,[(1536,.deep .rat)]⟩,[])]⟩
def zxF (x:Tys zoD.head.ks):Option (zc1 zoD.outs):=@whileO ((List Rt) × Int × (List Rt) × Unit) ((List Rt) × Unit) zds x
def zQe:Env:=⟨zbq,[(55,zOW)],[(3,za5 zoD zxF)],[]⟩
theorem zDm:zaj Tryz.prog FX zQe.cons:=zab zQC (zaa Tryz.func55 (by kernel_rfl)) rfl (zae)
theorem zEl (x:Tys zoD.head.ks):stepL zQe zoD zku x=zds x:=by kernel_rfl
theorem zx9:zad zku=[]:=by kernel_rfl
theorem zNB:zaz Tryz.prog FX (za5 zoD zxF) zku:=zam mix zaf zDm (by kernel_rfl) (zac zx9 (trivial)) zEl fun _ _ h=>h
theorem zFc:zad zuD=[zku]:=by kernel_rfl
theorem zQB:zav Tryz.prog FX 25 zOV:=zah (E:=zQe) (code:=zuD) mix zaf zDm Tryz.func25 (by kernel_rfl) zMK (by kernel_rfl) (fun y=>y.1) zOV.out (fun _=>rfl) zOV.run (fun x=>by kernel_rfl) (by kernel_rfl) (zac zFc (⟨⟨_,by kernel_rfl,zNB⟩,trivial⟩))
def zJg:Sig:=⟨[(true,[.d (.int .i64),.d (.int .i64),.d (.sl .rat)])],[],false,[(true,[.d (.int .i64),.d (.int .i64),.dp 0])],[(0,.deep .rat)]⟩
def zHB:Con:=⟨zJg,Mx,fun x=>zce (⟨x.1,x.2.1,x.2.2.1⟩:Mx),fun r=>(r.rows,r.cols,r.cells,())⟩
def zxf:Code:=Tryz.f10.body.getD .skip
def zOP:Env:=⟨zbq,[(25,zOV)],[],[]⟩
theorem zGG:zaj Tryz.prog FX zOP.cons:=zab zQB (zaa Tryz.func25 (by kernel_rfl)) rfl (zae)
theorem zCD:zad zxf=[]:=by kernel_rfl
theorem zP6:zav Tryz.prog FX 10 zHB:=zah (E:=zOP) (code:=zxf) mix zaf zGG Tryz.func10 (by kernel_rfl) zJg (by kernel_rfl) (fun y=>(⟨y.1,y.2.1,y.2.2.1⟩:Mx)) zHB.out (fun _=>rfl) zHB.run (fun x=>by kernel_rfl) (by kernel_rfl) (zac zCD (trivial))
def zJf:Sig:=⟨[(false,[.d (.int .i64)]),(false,[.d (.int .i64)]),(false,[.d (.int .i64)])],[],false,[(false,[.d (.bool)])],[]⟩
def zD9:Con:=⟨zJf,Bool,fun x=>zdx x.1 x.2.1 x.2.2.1,fun r=>(r,())⟩
def zxe:Code:=Tryz.f70.body.getD .skip
def zOO:Env:=⟨zbq,[],[],[]⟩
theorem zGF:zaj Tryz.prog FX zOO.cons:=zae
theorem zCC:zad zxe=[]:=by kernel_rfl
theorem zNt:zav Tryz.prog FX 70 zD9:=zah (E:=zOO) (code:=zxe) mix zaf zGF Tryz.func70 (by kernel_rfl) zJf (by kernel_rfl) (fun y=>y.1) zD9.out (fun _=>rfl) zD9.run (fun x=>by kernel_rfl) (by kernel_rfl) (zac zCC (trivial))
def zJe:Sig:=⟨[(false,[.d (.sl .int)])],[],false,[(false,[.d (.bool)])],[]⟩
def zyV:Con:=⟨zJe,Bool,fun x=>zed x.1,fun r=>(r,())⟩
def zpV:Code:=Tryz.f114.body.getD .skip
def zjn:Code:=(zad zpV).getD 0 .skip
def zlG:LoopD:=⟨⟨zai [(0,false,[.d (.sl .int)]),(5,false,[.d (.sl .int)]),(6,false,[.d (.int .i64)]),(7,false,[.d (.int .i64)])] 32 0,[]⟩,[],[(.ret,⟨zai [(2,false,[.d (.bool)])] 32 0,[]⟩,[]),(.exit 0,⟨zai [(0,false,[.d (.sl .int)])] 32 0,[]⟩,[])]⟩
def zsS (x:Tys zlG.head.ks):Option (zc1 zlG.outs):=@whileO ((List Int) × (List Int) × Int × Int × Unit) ((Bool × Unit) ⊕ ((List Int) × Unit)) zdg x
def zMB:Env:=⟨zbq,[(70,zD9)],[(2,za5 zlG zsS)],[]⟩
theorem zwp:zaj Tryz.prog FX zMB.cons:=zab zNt (zaa Tryz.func70 (by kernel_rfl)) rfl (zae)
theorem zzO (x:Tys zlG.head.ks):stepL zMB zlG zjn x=zdg x:=by kernel_rfl
theorem zuf:zad zjn=[]:=by kernel_rfl
theorem zLC:zaz Tryz.prog FX (za5 zlG zsS) zjn:=zam mix zaf zwp (by kernel_rfl) (zac zuf (trivial)) zzO fun _ _ h=>h
theorem zCB:zad zpV=[zjn]:=by kernel_rfl
theorem zKH:zav Tryz.prog FX 114 zyV:=zah (E:=zMB) (code:=zpV) mix zaf zwp Tryz.func114 (by kernel_rfl) zJe (by kernel_rfl) (fun y=>y.1) zyV.out (fun _=>rfl) zyV.run (fun x=>by kernel_rfl) (by kernel_rfl) (zac zCB (⟨⟨_,by kernel_rfl,zLC⟩,trivial⟩))
def zJd:Sig:=⟨[(true,[.d (.bool),.d (.sl .int)])],[],false,[(false,[.d (.bool)])],[]⟩
def zHA:Con:=⟨zJd,Bool,fun x=>zf2 (⟨x.1,x.2.1⟩:Bg),fun r=>(r,())⟩
def zxd:Code:=Tryz.f113.body.getD .skip
def zON:Env:=⟨zbq,[(114,zyV)],[],[]⟩
theorem zGE:zaj Tryz.prog FX zON.cons:=zab zKH (zaa Tryz.func114 (by kernel_rfl)) rfl (zae)
theorem zCA:zad zxd=[]:=by kernel_rfl
theorem zP5:zav Tryz.prog FX 113 zHA:=zah (E:=zON) (code:=zxd) mix zaf zGE Tryz.func113 (by kernel_rfl) zJd (by kernel_rfl) (fun y=>y.1) zHA.out (fun _=>rfl) zHA.run (fun x=>by kernel_rfl) (by kernel_rfl) (zac zCA (trivial))
def zJc:Sig:=⟨[(false,[.d (.sl .int)]),(false,[.d (.sl .int)])],[],false,[(false,[.d (.int .i64)])],[]⟩
def zuM:Con:=⟨zJc,Int,fun x=>zdc x.1 x.2.1,fun r=>(r,())⟩
def zpU:Code:=Tryz.f149.body.getD .skip
def zjm:Code:=(zad zpU).getD 0 .skip
def zlF:LoopD:=⟨⟨zai [(0,false,[.d (.sl .int)]),(1,false,[.d (.sl .int)]),(5,false,[.d (.int .i64)])] 41 0,[]⟩,[],[(.ret,⟨zai [(4,false,[.d (.int .i64)])] 41 0,[]⟩,[]),(.exit 0,⟨zai [] 41 0,[]⟩,[])]⟩
def zsR (x:Tys zlF.head.ks):Option (zc1 zlF.outs):=@whileO ((List Int) × (List Int) × Int × Unit) ((Int × Unit) ⊕ (Unit)) zcL x
def zMA:Env:=⟨zbq,[],[(6,za5 zlF zsR)],[(8,[(0,[]),(1,[]),(2,[]),(3,[]),(4,[]),(5,[]),(6,[]),(7,[]),(8,[])]),(10,[(0,[]),(1,[]),(2,[]),(3,[]),(4,[]),(5,[]),(6,[]),(7,[]),(8,[])])]⟩
theorem zwo:zaj Tryz.prog FX zMA.cons:=zae
theorem zzN (x:Tys zlF.head.ks):stepL zMA zlF zjm x=zcL x:=by kernel_rfl
theorem zue:zad zjm=[]:=by kernel_rfl
theorem zLB:zaz Tryz.prog FX (za5 zlF zsR) zjm:=zam mix zaf zwo (by kernel_rfl) (zac zue (trivial)) zzN fun _ _ h=>h
theorem zCz:zad zpU=[zjm]:=by kernel_rfl
theorem zFb:zav Tryz.prog FX 149 zuM:=zah (E:=zMA) (code:=zpU) mix zaf zwo Tryz.func149 (by kernel_rfl) zJc (by kernel_rfl) (fun y=>y.1) zuM.out (fun _=>rfl) zuM.run (fun x=>by kernel_rfl) (by kernel_rfl) (zac zCz (⟨⟨_,by kernel_rfl,zLB⟩,trivial⟩))
def zJb:Sig:=⟨[(false,[.d (.sl .int)])],[],true,[(false,[.d (.int .i64)]),(false,[.d (.bool)])],[]⟩
def zHz:Con:=⟨zJb,Int × Bool,fun x=>zdy x.1,fun r=>(r.1,r.2,())⟩
def zpT:Code:=Tryz.f136.body.getD .skip
def zjl:Code:=(zad zpT).getD 0 .skip
def zlE:LoopD:=⟨⟨zai [(0,false,[.d (.sl .int)]),(4,false,[.d (.int .i64)]),(5,false,[.d (.int .i64)])] 30 0,[]⟩,[],[(.exit 0,⟨zai [(4,false,[.d (.int .i64)])] 30 0,[]⟩,[])]⟩
def zsQ (x:Tys zlE.head.ks):Option (zc1 zlE.outs):=@whileO ((List Int) × Int × Int × Unit) (Int × Unit) zb1 x
def zMz:Env:=⟨zbq,[(114,zyV),(149,zuM)],[(5,za5 zlE zsQ)],[]⟩
theorem zwn:zaj Tryz.prog FX zMz.cons:=zab zKH (zaa Tryz.func114 (by kernel_rfl)) rfl (zab zFb (zaa Tryz.func149 (by kernel_rfl)) rfl (zae))
theorem zzM (x:Tys zlE.head.ks):stepL zMz zlE zjl x=zb1 x:=by kernel_rfl
theorem zua:zad zjl=[]:=by kernel_rfl
theorem zLA:zaz Tryz.prog FX (za5 zlE zsQ) zjl:=zam mix zaf zwn (by kernel_rfl) (zac zua (trivial)) zzM fun _ _ h=>h
theorem zCy:zad zpT=[zjl]:=by kernel_rfl
theorem zP4:zav Tryz.prog FX 136 zHz:=zah (E:=zMz) (code:=zpT) mix zaf zwn Tryz.func136 (by kernel_rfl) zJb (by kernel_rfl) (fun y=>(y.1,y.2.1)) zHz.out (fun _=>rfl) zHz.run (fun x=>by kernel_rfl) (by kernel_rfl) (zac zCy (⟨⟨_,by kernel_rfl,zLA⟩,trivial⟩))
def zJa:Sig:=⟨[(false,[.d (.int .i64)])],[],false,[(false,[.own 0])],[(0,.arr false .int)]⟩
def zuL:Con:=⟨zJa,List Int,fun x=>zcv x.1,fun r=>(r,())⟩
def zpS:Code:=Tryz.f133.body.getD .skip
def zjk:Code:=(zad zpS).getD 0 .skip
def zlD:LoopD:=⟨⟨zai [(0,false,[.d (.int .i64)]),(3,false,[.own 1024])] 15 0,[(1024,.arr false .int)]⟩,[(.slot 3 0,1024,.int)],[(.exit 0,⟨zai [(3,false,[.own 1024])] 15 0,[(1024,.arr false .int)]⟩,[(.slot 3 0,1024,.int)])]⟩
def zsP (x:Tys zlD.head.ks):Option (zc1 zlD.outs):=@whileO (Int × (List Int) × Unit) ((List Int) × Unit) zcD x
def zMy:Env:=⟨zbq,[],[(2,za5 zlD zsP)],[]⟩
theorem zwm:zaj Tryz.prog FX zMy.cons:=zae
theorem zzL (x:Tys zlD.head.ks):stepL zMy zlD zjk x=zcD x:=by kernel_rfl
theorem zt9:zad zjk=[]:=by kernel_rfl
theorem zLz:zaz Tryz.prog FX (za5 zlD zsP) zjk:=zam mix zaf zwm (by kernel_rfl) (zac zt9 (trivial)) zzL fun _ _ h=>h
theorem zCx:zad zpS=[zjk]:=by kernel_rfl
theorem zFa:zav Tryz.prog FX 133 zuL:=zah (E:=zMy) (code:=zpS) mix zaf zwm Tryz.func133 (by kernel_rfl) zJa (by kernel_rfl) (fun y=>y.1) zuL.out (fun _=>rfl) zuL.run (fun x=>by kernel_rfl) (by kernel_rfl) (zac zCx (⟨⟨_,by kernel_rfl,zLz⟩,trivial⟩))
def zI9:Sig:=⟨[(false,[.d (.int .i64)]),(false,[.d (.int .i64)])],[],false,[(false,[.own 0])],[(0,.arr false .int)]⟩
def zHy:Con:=⟨zI9,List Int,fun x=>zeu x.1 x.2.1,fun r=>(r,())⟩
def zpR:Code:=Tryz.f137.body.getD .skip
def zjj:Code:=(zad zpR).getD 0 .skip
def zlC:LoopD:=⟨⟨zai [(0,false,[.d (.int .i64)]),(1,false,[.d (.int .i64)])] 15 0,[]⟩,[],[(.exit 0,⟨zai [(0,false,[.d (.int .i64)])] 15 0,[]⟩,[])]⟩
def zsO (x:Tys zlC.head.ks):Option (zc1 zlC.outs):=@whileO (Int × Int × Unit) (Int × Unit) zbZ x
def zMx:Env:=⟨zbq,[(133,zuL)],[(1,za5 zlC zsO)],[]⟩
theorem zwl:zaj Tryz.prog FX zMx.cons:=zab zFa (zaa Tryz.func133 (by kernel_rfl)) rfl (zae)
theorem zzK (x:Tys zlC.head.ks):stepL zMx zlC zjj x=zbZ x:=by kernel_rfl
theorem zt8:zad zjj=[]:=by kernel_rfl
theorem zLy:zaz Tryz.prog FX (za5 zlC zsO) zjj:=zam mix zaf zwl (by kernel_rfl) (zac zt8 (trivial)) zzK fun _ _ h=>h
theorem zCw:zad zpR=[zjj]:=by kernel_rfl
theorem zP3:zav Tryz.prog FX 137 zHy:=zah (E:=zMx) (code:=zpR) mix zaf zwl Tryz.func137 (by kernel_rfl) zI9 (by kernel_rfl) (fun y=>y.1) zHy.out (fun _=>rfl) zHy.run (fun x=>by kernel_rfl) (by kernel_rfl) (zac zCw (⟨⟨_,by kernel_rfl,zLy⟩,trivial⟩))
def zI8:Sig:=⟨[(false,[.own 0])],[(0,.arr false .int)],false,[(false,[.own 0])],[(0,.arr false .int)]⟩
def zuK:Con:=⟨zI8,List Int,fun x=>zbo x.1,fun r=>(r,())⟩
def zpQ:Code:=Tryz.f139.body.getD .skip
def zji:Code:=(zad zpQ).getD 0 .skip
def zlB:LoopD:=⟨⟨zai [(0,false,[.own 1408]),(3,false,[.d (.int .i64)])] 21 0,[(1408,.arr false .int)]⟩,[],[(.exit 0,⟨zai [(0,false,[.own 1408]),(3,false,[.d (.int .i64)])] 21 0,[(1408,.arr false .int)]⟩,[])]⟩
def zsN (x:Tys zlB.head.ks):Option (zc1 zlB.outs):=@whileO (Int × (List Int) × Unit) (Int × (List Int) × Unit) zbI x
def zMw:Env:=⟨zbq,[],[(2,za5 zlB zsN)],[]⟩
theorem zwk:zaj Tryz.prog FX zMw.cons:=zae
theorem zzJ (x:Tys zlB.head.ks):stepL zMw zlB zji x=zbI x:=by kernel_rfl
theorem zt7:zad zji=[]:=by kernel_rfl
theorem zLx:zaz Tryz.prog FX (za5 zlB zsN) zji:=zam mix zaf zwk (by kernel_rfl) (zac zt7 (trivial)) zzJ fun _ _ h=>h
theorem zCv:zad zpQ=[zji]:=by kernel_rfl
theorem zE9:zav Tryz.prog FX 139 zuK:=zah (E:=zMw) (code:=zpQ) mix zaf zwk Tryz.func139 (by kernel_rfl) zI8 (by kernel_rfl) (fun y=>y.1) zuK.out (fun _=>rfl) zuK.run (fun x=>by kernel_rfl) (by kernel_rfl) (zac zCv (⟨⟨_,by kernel_rfl,zLx⟩,trivial⟩))
def zI7:Sig:=⟨[(false,[.d (.sl .int)]),(false,[.d (.int .i64)])],[],true,[(false,[.own 0]),(false,[.d (.int .i64)])],[(0,.arr false .int)]⟩
def zHx:Con:=⟨zI7,List Int × Int,fun x=>zet x.1 x.2.1,fun r=>(r.2,r.1,())⟩
def zpP:Code:=Tryz.f150.body.getD .skip
def zjh:Code:=(zad zpP).getD 0 .skip
def zlA:LoopD:=⟨⟨zai [(0,false,[.d (.sl .int)]),(1,false,[.d (.int .i64)]),(6,false,[.own 2560]),(7,false,[.d (.int .i64)]),(8,false,[.d (.int .i64)])] 39 0,[(2560,.arr false .int)]⟩,[],[(.exit 0,⟨zai [(6,false,[.own 2560]),(7,false,[.d (.int .i64)])] 39 0,[(2560,.arr false .int)]⟩,[])]⟩
def zsM (x:Tys zlA.head.ks):Option (zc1 zlA.outs):=@whileO ((List Int) × Int × Int × Int × (List Int) × Unit) (Int × (List Int) × Unit) zbs x
def zMv:Env:=⟨zbq,[(139,zuK)],[(4,za5 zlA zsM)],[]⟩
theorem zwj:zaj Tryz.prog FX zMv.cons:=zab zE9 (zaa Tryz.func139 (by kernel_rfl)) rfl (zae)
theorem zzI (x:Tys zlA.head.ks):stepL zMv zlA zjh x=zbs x:=by kernel_rfl
theorem zt6:zad zjh=[]:=by kernel_rfl
theorem zLw:zaz Tryz.prog FX (za5 zlA zsM) zjh:=zam mix zaf zwj (by kernel_rfl) (zac zt6 (trivial)) zzI fun _ _ h=>h
theorem zCu:zad zpP=[zjh]:=by kernel_rfl
theorem zP2:zav Tryz.prog FX 150 zHx:=zah (E:=zMv) (code:=zpP) mix zaf zwj Tryz.func150 (by kernel_rfl) zI7 (by kernel_rfl) (fun y=>(y.2.1,y.1)) zHx.out (fun _=>rfl) zHx.run (fun x=>by kernel_rfl) (by kernel_rfl) (zac zCu (⟨⟨_,by kernel_rfl,zLw⟩,trivial⟩))
def zI6:Sig:=⟨[(false,[.d (.sl .int)]),(false,[.d (.sl .int)])],[],false,[(false,[.own 0])],[(0,.arr false .int)]⟩
def zrQ:Con:=⟨zI6,List Int,fun x=>zas x.1 x.2.1,fun r=>(r,())⟩
def zpO:Code:=Tryz.f118.body.getD .skip
def zgR:Code:=(zad zpO).getD 0 .skip
def zjg:Code:=(zad zgR).getD 0 .skip
def zlz:LoopD:=⟨⟨zai [(1,false,[.d (.sl .int)]),(5,false,[.own 4672]),(26,false,[.d (.sl .int)]),(27,false,[.d (.int .i64)]),(28,false,[.d (.int .i64)])] 72 0,[(4672,.arr false .int)]⟩,[],[(.exit 0,⟨zai [(5,false,[.own 4672])] 72 0,[(4672,.arr false .int)]⟩,[])]⟩
def zly:LoopD:=⟨⟨zai [(1,false,[.d (.sl .int)]),(5,false,[.own 4672]),(6,false,[.d (.int .i64)]),(7,false,[.d (.int .i64)]),(8,false,[.d (.int .i64)]),(26,false,[.d (.sl .int)]),(27,false,[.d (.int .i64)]),(28,false,[.d (.int .i64)]),(33,false,[.d (.sl .int)]),(34,false,[.d (.int .i64)]),(35,false,[.d (.int .i64)])] 72 0,[(4672,.arr false .int)]⟩,[],[(.exit 2,⟨zai [(1,false,[.d (.sl .int)]),(5,false,[.own 4672]),(6,false,[.d (.int .i64)]),(8,false,[.d (.int .i64)]),(26,false,[.d (.sl .int)]),(27,false,[.d (.int .i64)]),(28,false,[.d (.int .i64)])] 72 0,[(4672,.arr false .int)]⟩,[])]⟩
def zsL (x:Tys zlz.head.ks):Option (zc1 zlz.outs):=@whileO ((List Int) × (List Int) × Int × Int × (List Int) × Unit) ((List Int) × Unit) zcK x
def zsK (x:Tys zly.head.ks):Option (zc1 zly.outs):=@whileO ((List Int) × Int × Int × Int × (List Int) × Int × Int × (List Int) × Int × Int × (List Int) × Unit) ((List Int) × Int × Int × (List Int) × Int × Int × (List Int) × Unit) zcJ x
def zHQ:Env:=⟨zbq,[(139,zuK)],[(5,za5 zlz zsL),(9,za5 zly zsK)],[]⟩
theorem zpm:zaj Tryz.prog FX zHQ.cons:=zab zE9 (zaa Tryz.func139 (by kernel_rfl)) rfl (zae)
theorem zzG (x:Tys zly.head.ks):stepL zHQ zly zjg x=zcJ x:=by kernel_rfl
theorem zt4:zad zjg=[]:=by kernel_rfl
theorem zLu:zaz Tryz.prog FX (za5 zly zsK) zjg:=zam mix zaf zpm (by kernel_rfl) (zac zt4 (trivial)) zzG fun _ _ h=>h
theorem zzH (x:Tys zlz.head.ks):stepL zHQ zlz zgR x=zcK x:=by kernel_rfl
theorem zt5:zad zgR=[zjg]:=by kernel_rfl
theorem zLv:zaz Tryz.prog FX (za5 zlz zsL) zgR:=zam mix zaf zpm (by kernel_rfl) (zac zt5 (⟨⟨_,by kernel_rfl,zLu⟩,trivial⟩)) zzH fun _ _ h=>h
theorem zCt:zad zpO=[zgR]:=by kernel_rfl
theorem zBd:zav Tryz.prog FX 118 zrQ:=zah (E:=zHQ) (code:=zpO) mix zaf zpm Tryz.func118 (by kernel_rfl) zI6 (by kernel_rfl) (fun y=>y.1) zrQ.out (fun _=>rfl) zrQ.run (fun x=>by kernel_rfl) (by kernel_rfl) (zac zCt (⟨⟨_,by kernel_rfl,zLv⟩,trivial⟩))
def zI5:Sig:=⟨[(false,[.d (.sl .int)]),(false,[.d (.sl .int)])],[],false,[(false,[.d (.int .i64)])],[]⟩
def zHw:Con:=⟨zI5,Int,fun x=>zew x.1 x.2.1,fun r=>(r,())⟩
def zpN:Code:=Tryz.f151.body.getD .skip
def zjf:Code:=(zad zpN).getD 0 .skip
def zlx:LoopD:=⟨⟨zai [(0,false,[.d (.sl .int)]),(1,false,[.d (.sl .int)]),(5,false,[.d (.int .i64)]),(6,false,[.d (.int .i64)])] 27 0,[]⟩,[],[(.exit 0,⟨zai [(5,false,[.d (.int .i64)])] 27 0,[]⟩,[])]⟩
def zsJ (x:Tys zlx.head.ks):Option (zc1 zlx.outs):=@whileO ((List Int) × (List Int) × Int × Int × Unit) (Int × Unit) zb0 x
def zMu:Env:=⟨zbq,[(133,zuL),(118,zrQ),(149,zuM)],[(3,za5 zlx zsJ)],[]⟩
theorem zwi:zaj Tryz.prog FX zMu.cons:=zab zFa (zaa Tryz.func133 (by kernel_rfl)) rfl (zab zBd (zaa Tryz.func118 (by kernel_rfl)) rfl (zab zFb (zaa Tryz.func149 (by kernel_rfl)) rfl (zae)))
theorem zzF (x:Tys zlx.head.ks):stepL zMu zlx zjf x=zb0 x:=by kernel_rfl
theorem zt3:zad zjf=[]:=by kernel_rfl
theorem zLt:zaz Tryz.prog FX (za5 zlx zsJ) zjf:=zam mix zaf zwi (by kernel_rfl) (zac zt3 (trivial)) zzF fun _ _ h=>h
theorem zCs:zad zpN=[zjf]:=by kernel_rfl
theorem zP1:zav Tryz.prog FX 151 zHw:=zah (E:=zMu) (code:=zpN) mix zaf zwi Tryz.func151 (by kernel_rfl) zI5 (by kernel_rfl) (fun y=>y.1) zHw.out (fun _=>rfl) zHw.run (fun x=>by kernel_rfl) (by kernel_rfl) (zac zCs (⟨⟨_,by kernel_rfl,zLt⟩,trivial⟩))
def zI3:Sig:=⟨[(false,[.d (.sl .int)]),(false,[.d (.sl .int)])],[],false,[(false,[.own 0])],[(0,.arr false .int)]⟩
def zD6:Con:=⟨zI3,List Int,fun x=>zdQ x.1 x.2.1,fun r=>(r,())⟩
def zpL:Code:=Tryz.f152.body.getD .skip
def zjd:Code:=(zad zpL).getD 0 .skip
def zlv:LoopD:=⟨⟨zai [(0,false,[.d (.sl .int)]),(1,false,[.d (.sl .int)]),(5,false,[.own 2752]),(6,false,[.d (.int .i64)]),(11,false,[.d (.int .i64)]),(12,false,[.d (.int .i64)])] 42 0,[(2752,.arr false .int)]⟩,[(.slot 5 0,2752,.int)],[(.exit 0,⟨zai [(5,false,[.own 2752])] 42 0,[(2752,.arr false .int)]⟩,[(.slot 5 0,2752,.int)])]⟩
def zsH (x:Tys zlv.head.ks):Option (zc1 zlv.outs):=@whileO ((List Int) × (List Int) × Int × Int × Int × (List Int) × Unit) ((List Int) × Unit) zbC x
def zMs:Env:=⟨zbq,[(139,zuK)],[(4,za5 zlv zsH)],[]⟩
theorem zwg:zaj Tryz.prog FX zMs.cons:=zab zE9 (zaa Tryz.func139 (by kernel_rfl)) rfl (zae)
theorem zzD (x:Tys zlv.head.ks):stepL zMs zlv zjd x=zbC x:=by kernel_rfl
theorem zt1:zad zjd=[]:=by kernel_rfl
theorem zLr:zaz Tryz.prog FX (za5 zlv zsH) zjd:=zam mix zaf zwg (by kernel_rfl) (zac zt1 (trivial)) zzD fun _ _ h=>h
theorem zCq:zad zpL=[zjd]:=by kernel_rfl
theorem zNi:zav Tryz.prog FX 152 zD6:=zah (E:=zMs) (code:=zpL) mix zaf zwg Tryz.func152 (by kernel_rfl) zI3 (by kernel_rfl) (fun y=>y.1) zD6.out (fun _=>rfl) zD6.run (fun x=>by kernel_rfl) (by kernel_rfl) (zac zCq (⟨⟨_,by kernel_rfl,zLr⟩,trivial⟩))
def zI2:Sig:=⟨[(false,[.d (.sl .int)]),(false,[.d (.sl .int)])],[],true,[(false,[.own 0]),(false,[.own 1])],[(0,.arr false .int),(1,.arr false .int)]⟩
def zD5:Con:=⟨zI2,List Int × List Int,fun x=>zdb x.1 x.2.1,fun r=>(r.1,r.2,())⟩
def zpK:Code:=Tryz.f138.body.getD .skip
def zjc:Code:=(zad zpK).getD 0 .skip
def zlu:LoopD:=⟨⟨zai [(0,false,[.d (.sl .int)]),(1,false,[.d (.sl .int)]),(8,false,[.own 4224]),(9,false,[.own 4288]),(10,false,[.d (.int .i64)])] 65 0,[(4224,.arr false .int),(4288,.arr false .int)]⟩,[(.slot 9 0,4288,.int)],[(.exit 0,⟨zai [(8,false,[.own 4224]),(9,false,[.own 4288])] 65 0,[(4224,.arr false .int),(4288,.arr false .int)]⟩,[(.slot 9 0,4288,.int)])]⟩
def zsG (x:Tys zlu.head.ks):Option (zc1 zlu.outs):=@whileO ((List Int) × (List Int) × Int × (List Int) × (List Int) × Unit) ((List Int) × (List Int) × Unit) zcb x
def zMr:Env:=⟨zbq,[(150,zHx),(133,zuL),(139,zuK),(149,zuM),(151,zHw),(118,zrQ),(152,zD6)],[(7,za5 zlu zsG)],[]⟩
theorem zwf:zaj Tryz.prog FX zMr.cons:=zab zP2 (zaa Tryz.func150 (by kernel_rfl)) rfl (zab zFa (zaa Tryz.func133 (by kernel_rfl)) rfl (zab zE9 (zaa Tryz.func139 (by kernel_rfl)) rfl (zab zFb (zaa Tryz.func149 (by kernel_rfl)) rfl (zab zP1 (zaa Tryz.func151 (by kernel_rfl)) rfl (zab zBd (zaa Tryz.func118 (by kernel_rfl)) rfl (zab zNi (zaa Tryz.func152 (by kernel_rfl)) rfl (zae)))))))
theorem zzC (x:Tys zlu.head.ks):stepL zMr zlu zjc x=zcb x:=by kernel_rfl
theorem zt0:zad zjc=[]:=by kernel_rfl
theorem zLq:zaz Tryz.prog FX (za5 zlu zsG) zjc:=zam mix zaf zwf (by kernel_rfl) (zac zt0 (trivial)) zzC fun _ _ h=>h
theorem zCp:zad zpK=[zjc]:=by kernel_rfl
theorem zNh:zav Tryz.prog FX 138 zD5:=zah (E:=zMr) (code:=zpK) mix zaf zwf Tryz.func138 (by kernel_rfl) zI2 (by kernel_rfl) (fun y=>(y.1,y.2.1)) zD5.out (fun _=>rfl) zD5.run (fun x=>by kernel_rfl) (by kernel_rfl) (zac zCp (⟨⟨_,by kernel_rfl,zLq⟩,trivial⟩))
def zI1:Sig:=⟨[(false,[.d (.sl .int)]),(false,[.d (.sl .int)])],[],false,[(false,[.own 0])],[(0,.arr false .int)]⟩
def zD4:Con:=⟨zI1,List Int,fun x=>zev x.1 x.2.1,fun r=>(r,())⟩
def zpJ:Code:=Tryz.f116.body.getD .skip
def zjb:Code:=(zad zpJ).getD 0 .skip
def zlt:LoopD:=⟨⟨zai [(5,false,[.own 3392]),(6,false,[.own 3456])] 52 0,[(3392,.arr false .int),(3456,.arr false .int)]⟩,[],[(.ret,⟨zai [(4,false,[.own 3520])] 52 0,[(3520,.arr false .int)]⟩,[]),(.exit 0,⟨zai [(5,false,[.own 3392])] 52 0,[(3392,.arr false .int)]⟩,[])]⟩
def zsF (x:Tys zlt.head.ks):Option (zc1 zlt.outs):=@whileO ((List Int) × (List Int) × Unit) (((List Int) × Unit) ⊕ ((List Int) × Unit)) zbD x
def zMq:Env:=⟨zbq,[(136,zHz),(137,zHy),(138,zD5)],[(3,za5 zlt zsF)],[]⟩
theorem zwe:zaj Tryz.prog FX zMq.cons:=zab zP4 (zaa Tryz.func136 (by kernel_rfl)) rfl (zab zP3 (zaa Tryz.func137 (by kernel_rfl)) rfl (zab zNh (zaa Tryz.func138 (by kernel_rfl)) rfl (zae)))
theorem zzB (x:Tys zlt.head.ks):stepL zMq zlt zjb x=zbD x:=by kernel_rfl
theorem ztZ:zad zjb=[]:=by kernel_rfl
theorem zLp:zaz Tryz.prog FX (za5 zlt zsF) zjb:=zam mix zaf zwe (by kernel_rfl) (zac ztZ (trivial)) zzB fun _ _ h=>h
theorem zCo:zad zpJ=[zjb]:=by kernel_rfl
theorem zNg:zav Tryz.prog FX 116 zD4:=zah (E:=zMq) (code:=zpJ) mix zaf zwe Tryz.func116 (by kernel_rfl) zI1 (by kernel_rfl) (fun y=>y.1) zD4.out (fun _=>rfl) zD4.run (fun x=>by kernel_rfl) (by kernel_rfl) (zac zCo (⟨⟨_,by kernel_rfl,zLp⟩,trivial⟩))
def zI0:Sig:=⟨[(false,[.d (.sl .int)])],[],false,[(false,[.d (.bool)])],[]⟩
def zyU:Con:=⟨zI0,Bool,fun x=>zda x.1,fun r=>(r,())⟩
def zxc:Code:=Tryz.f115.body.getD .skip
def zOM:Env:=⟨zbq,[],[],[]⟩
theorem zGD:zaj Tryz.prog FX zOM.cons:=zae
theorem zCn:zad zxc=[]:=by kernel_rfl
theorem zKG:zav Tryz.prog FX 115 zyU:=zah (E:=zOM) (code:=zxc) mix zaf zGD Tryz.func115 (by kernel_rfl) zI0 (by kernel_rfl) (fun y=>y.1) zyU.out (fun _=>rfl) zyU.run (fun x=>by kernel_rfl) (by kernel_rfl) (zac zCn (trivial))
def zIZ:Sig:=⟨[(true,[.d (.bool),.d (.sl .int),.d (.sl .int)])],[],false,[(false,[.d (.bool)])],[]⟩
def zHv:Con:=⟨zIZ,Bool,fun x=>zgh (⟨x.1,x.2.1,x.2.2.1⟩:Rt),fun r=>(r,())⟩
def zxb:Code:=Tryz.f71.body.getD .skip
def zOL:Env:=⟨zbq,[(113,zHA),(114,zyV),(116,zD4),(115,zyU)],[],[]⟩
theorem zGC:zaj Tryz.prog FX zOL.cons:=zab zP5 (zaa Tryz.func113 (by kernel_rfl)) rfl (zab zKH (zaa Tryz.func114 (by kernel_rfl)) rfl (zab zNg (zaa Tryz.func116 (by kernel_rfl)) rfl (zab zKG (zaa Tryz.func115 (by kernel_rfl)) rfl (zae))))
theorem zCm:zad zxb=[]:=by kernel_rfl
theorem zP0:zav Tryz.prog FX 71 zHv:=zah (E:=zOL) (code:=zxb) mix zaf zGC Tryz.func71 (by kernel_rfl) zIZ (by kernel_rfl) (fun y=>y.1) zHv.out (fun _=>rfl) zHv.run (fun x=>by kernel_rfl) (by kernel_rfl) (zac zCm (trivial))
def zIY:Sig:=⟨[(true,[.d (.int .i64),.d (.int .i64),.d (.sl .rat)])],[],false,[(false,[.d (.bool)])],[]⟩
def zHu:Con:=⟨zIY,Bool,fun x=>zey (⟨x.1,x.2.1,x.2.2.1⟩:Mx),fun r=>(r,())⟩
def zpI:Code:=Tryz.f34.body.getD .skip
def zja:Code:=(zad zpI).getD 0 .skip
def zls:LoopD:=⟨⟨zai [(27,false,[.d (.sl .rat)]),(28,false,[.d (.int .i64)]),(29,false,[.d (.int .i64)])] 37 0,[]⟩,[],[(.ret,⟨zai [(2,false,[.d (.bool)])] 37 0,[]⟩,[]),(.exit 0,⟨zai [] 37 0,[]⟩,[])]⟩
def zsE (x:Tys zls.head.ks):Option (zc1 zls.outs):=@whileO ((List Rt) × Int × Int × Unit) ((Bool × Unit) ⊕ (Unit)) zbt x
def zMp:Env:=⟨zbq,[(70,zD9),(71,zHv)],[(4,za5 zls zsE)],[]⟩
theorem zwd:zaj Tryz.prog FX zMp.cons:=zab zNt (zaa Tryz.func70 (by kernel_rfl)) rfl (zab zP0 (zaa Tryz.func71 (by kernel_rfl)) rfl (zae))
theorem zzA (x:Tys zls.head.ks):stepL zMp zls zja x=zbt x:=by kernel_rfl
theorem ztY:zad zja=[]:=by kernel_rfl
theorem zLo:zaz Tryz.prog FX (za5 zls zsE) zja:=zam mix zaf zwd (by kernel_rfl) (zac ztY (trivial)) zzA fun _ _ h=>h
theorem zCl:zad zpI=[zja]:=by kernel_rfl
theorem zPZ:zav Tryz.prog FX 34 zHu:=zah (E:=zMp) (code:=zpI) mix zaf zwd Tryz.func34 (by kernel_rfl) zIY (by kernel_rfl) (fun y=>y.1) zHu.out (fun _=>rfl) zHu.run (fun x=>by kernel_rfl) (by kernel_rfl) (zac zCl (⟨⟨_,by kernel_rfl,zLo⟩,trivial⟩))
def zIX:Sig:=⟨[(true,[.d (.int .i64),.d (.int .i64),.d (.sl .rat)]),(false,[.d (.int .i64)]),(false,[.d (.int .i64)])],[],false,[(true,[.d (.bool),.d (.sl .int),.d (.sl .int)])],[]⟩
def zD3:Con:=⟨zIX,Rt,fun x=>zec (⟨x.1,x.2.1,x.2.2.1⟩:Mx) x.2.2.2.1 x.2.2.2.2.1,fun r=>(r.neg,r.mag,r.den,())⟩
def zxa:Code:=Tryz.f65.body.getD .skip
def zOK:Env:=⟨zbq,[],[],[]⟩
theorem zGB:zaj Tryz.prog FX zOK.cons:=zae
theorem zCk:zad zxa=[]:=by kernel_rfl
theorem zNf:zav Tryz.prog FX 65 zD3:=zah (E:=zOK) (code:=zxa) mix zaf zGB Tryz.func65 (by kernel_rfl) zIX (by kernel_rfl) (fun y=>(⟨y.1,y.2.1,y.2.2.1⟩:Rt)) zD3.out (fun _=>rfl) zD3.run (fun x=>by kernel_rfl) (by kernel_rfl) (zac zCk (trivial))
def zIW:Sig:=⟨[(true,[.d (.bool),.d (.sl .int),.d (.sl .int)])],[],false,[(true,[.d (.bool),.own 0,.own 1])],[(0,.arr false .int),(1,.arr false .int)]⟩
def zD2:Con:=⟨zIW,Rt,fun x=>zbz (⟨x.1,x.2.1,x.2.2.1⟩:Rt),fun r=>(r.neg,r.mag,r.den,())⟩
def zw9:Code:=Tryz.f88.body.getD .skip
def zOJ:Env:=⟨zbq,[],[],[(1,[(0,[]),(1,[]),(2,[]),(3,[]),(4,[]),(5,[]),(6,[]),(9,[]),(10,[]),(11,[]),(7,[3,6,5,4]),(8,[]),(12,[9,11,7,10,3,6,5,4]),(13,[]),(14,[13,12,0,1,2,3,4,5,6,7,8,9,10,11])])]⟩
theorem zGA:zaj Tryz.prog FX zOJ.cons:=zae
theorem zCj:zad zw9=[]:=by kernel_rfl
theorem zNe:zav Tryz.prog FX 88 zD2:=zah (E:=zOJ) (code:=zw9) mix zaf zGA Tryz.func88 (by kernel_rfl) zIW (by kernel_rfl) (fun y=>(⟨y.1,y.2.1,y.2.2.1⟩:Rt)) zD2.out (fun _=>rfl) zD2.run (fun x=>by kernel_rfl) (by kernel_rfl) (zac zCj (trivial))
def zIV:Sig:=⟨[(true,[.d (.int .i64),.d (.int .i64),.d (.sl .rat)])],[],false,[(true,[.d (.int .i64),.d (.int .i64),.dp 0])],[(0,.deep .rat)]⟩
def zHt:Con:=⟨zIV,Mx,fun x=>zcd (⟨x.1,x.2.1,x.2.2.1⟩:Mx),fun r=>(r.rows,r.cols,r.cells,())⟩
def zpH:Code:=Tryz.f84.body.getD .skip
def zgQ:Code:=(zad zpH).getD 0 .skip
def zi9:Code:=(zad zgQ).getD 0 .skip
def zlr:LoopD:=⟨⟨zai [(1,false,[.lp 64 0]),(2,false,[.lp 128 0]),(3,false,[.lp 192 0]),(4,false,[.d (.int .i64)])] 34 0,[(64,.box [.d (.int .i64),.d (.int .i64),.d (.sl .rat)]),(128,.box [.d (.int .i64),.d (.int .i64),.d (.sl .rat)]),(192,.box [.d (.int .i64),.d (.int .i64),.dp 2240]),(2240,.deep .rat)]⟩,[(.boxD 192 2,2240,.rat)],[(.exit 0,⟨zai [(2,false,[.lp 128 0]),(3,false,[.lp 192 0])] 34 0,[(128,.box [.d (.int .i64),.d (.int .i64),.d (.sl .rat)]),(192,.box [.d (.int .i64),.d (.int .i64),.dp 2240]),(2240,.deep .rat)]⟩,[(.boxD 192 2,2240,.rat)])]⟩
def zlq:LoopD:=⟨⟨zai [(1,false,[.lp 64 0]),(2,false,[.lp 128 0]),(3,false,[.lp 192 0]),(4,false,[.d (.int .i64)]),(5,false,[.d (.int .i64)])] 34 0,[(64,.box [.d (.int .i64),.d (.int .i64),.d (.sl .rat)]),(128,.box [.d (.int .i64),.d (.int .i64),.d (.sl .rat)]),(192,.box [.d (.int .i64),.d (.int .i64),.dp 2240]),(2240,.deep .rat)]⟩,[(.boxD 192 2,2240,.rat)],[(.exit 2,⟨zai [(1,false,[.lp 64 0]),(2,false,[.lp 128 0]),(3,false,[.lp 192 0]),(4,false,[.d (.int .i64)])] 34 0,[(64,.box [.d (.int .i64),.d (.int .i64),.d (.sl .rat)]),(128,.box [.d (.int .i64),.d (.int .i64),.d (.sl .rat)]),(192,.box [.d (.int .i64),.d (.int .i64),.dp 2240]),(2240,.deep .rat)]⟩,[(.boxD 192 2,2240,.rat)])]⟩
def zsD (x:Tys zlr.head.ks):Option (zc1 zlr.outs):=@whileO (Int × Int × Int × (List Rt) × Int × Int × (List Rt) × Int × Int × (List Rt) × Unit) (Int × Int × (List Rt) × Int × Int × (List Rt) × Unit) zba x
def zsC (x:Tys zlq.head.ks):Option (zc1 zlq.outs):=@whileO (Int × Int × Int × Int × (List Rt) × Int × Int × (List Rt) × Int × Int × (List Rt) × Unit) (Int × Int × Int × (List Rt) × Int × Int × (List Rt) × Int × Int × (List Rt) × Unit) za9 x
def zHP:Env:=⟨zbq,[(65,zD3),(88,zD2)],[(3,za5 zlr zsD),(6,za5 zlq zsC)],[(8,[(0,[]),(1,[]),(2,[]),(3,[]),(4,[]),(5,[2,3,4]),(6,[5,2,3,4]),(7,[6,5,2,3,4]),(8,[1,7,6,0,5,2,3,4]),(9,[]),(10,[9,8,0,1,2,3,4,5,6,7])])]⟩
theorem zpl:zaj Tryz.prog FX zHP.cons:=zab zNf (zaa Tryz.func65 (by kernel_rfl)) rfl (zab zNe (zaa Tryz.func88 (by kernel_rfl)) rfl (zae))
theorem zzx (x:Tys zlq.head.ks):stepL zHP zlq zi9 x=za9 x:=by kernel_rfl
theorem ztW:zad zi9=[]:=by kernel_rfl
theorem zLm:zaz Tryz.prog FX (za5 zlq zsC) zi9:=zam mix zaf zpl (by kernel_rfl) (zac ztW (trivial)) zzx fun _ _ h=>h
theorem zzy (x:Tys zlr.head.ks):stepL zHP zlr zgQ x=zba x:=by kernel_rfl
theorem ztX:zad zgQ=[zi9]:=by kernel_rfl
theorem zLn:zaz Tryz.prog FX (za5 zlr zsD) zgQ:=zam mix zaf zpl (by kernel_rfl) (zac ztX (⟨⟨_,by kernel_rfl,zLm⟩,trivial⟩)) zzy fun _ _ h=>h
theorem zCi:zad zpH=[zgQ]:=by kernel_rfl
theorem zPY:zav Tryz.prog FX 84 zHt:=zah (E:=zHP) (code:=zpH) mix zaf zpl Tryz.func84 (by kernel_rfl) zIV (by kernel_rfl) (fun y=>(⟨y.1,y.2.1,y.2.2.1⟩:Mx)) zHt.out (fun _=>rfl) zHt.run (fun x=>by kernel_rfl) (by kernel_rfl) (zac zCi (⟨⟨_,by kernel_rfl,zLn⟩,trivial⟩))
def zIU:Sig:=⟨[(false,[.d (.sl .int)]),(false,[.d (.sl .int)])],[],false,[(false,[.d (.bool)])],[]⟩
def zHs:Con:=⟨zIU,Bool,fun x=>zd2 x.1 x.2.1,fun r=>(r,())⟩
def zpG:Code:=Tryz.f153.body.getD .skip
def zi8:Code:=(zad zpG).getD 0 .skip
def zlp:LoopD:=⟨⟨zai [(0,false,[.d (.sl .int)]),(1,false,[.d (.sl .int)]),(12,false,[.d (.int .i64)]),(13,false,[.d (.int .i64)])] 26 0,[]⟩,[],[(.ret,⟨zai [(4,false,[.d (.bool)])] 26 0,[]⟩,[]),(.exit 0,⟨zai [] 26 0,[]⟩,[])]⟩
def zsB (x:Tys zlp.head.ks):Option (zc1 zlp.outs):=@whileO ((List Int) × (List Int) × Int × Int × Unit) ((Bool × Unit) ⊕ (Unit)) zcl x
def zMo:Env:=⟨zbq,[],[(4,za5 zlp zsB)],[(6,[(0,[]),(1,[]),(2,[]),(3,[]),(4,[]),(5,[]),(6,[]),(7,[]),(8,[])])]⟩
theorem zwc:zaj Tryz.prog FX zMo.cons:=zae
theorem zzw (x:Tys zlp.head.ks):stepL zMo zlp zi8 x=zcl x:=by kernel_rfl
theorem ztV:zad zi8=[]:=by kernel_rfl
theorem zLl:zaz Tryz.prog FX (za5 zlp zsB) zi8:=zam mix zaf zwc (by kernel_rfl) (zac ztV (trivial)) zzw fun _ _ h=>h
theorem zCh:zad zpG=[zi8]:=by kernel_rfl
theorem zPX:zav Tryz.prog FX 153 zHs:=zah (E:=zMo) (code:=zpG) mix zaf zwc Tryz.func153 (by kernel_rfl) zIU (by kernel_rfl) (fun y=>y.1) zHs.out (fun _=>rfl) zHs.run (fun x=>by kernel_rfl) (by kernel_rfl) (zac zCh (⟨⟨_,by kernel_rfl,zLl⟩,trivial⟩))
def zIT:Sig:=⟨[(true,[.d (.bool),.d (.sl .int),.d (.sl .int)]),(true,[.d (.bool),.d (.sl .int),.d (.sl .int)])],[],false,[(false,[.d (.bool)])],[]⟩
def zHr:Con:=⟨zIT,Bool,fun x=>zex (⟨x.1,x.2.1,x.2.2.1⟩:Rt) (⟨x.2.2.2.1,x.2.2.2.2.1,x.2.2.2.2.2.1⟩:Rt),fun r=>(r,())⟩
def zw8:Code:=Tryz.f140.body.getD .skip
def zOI:Env:=⟨zbq,[(153,zHs)],[],[]⟩
theorem zGz:zaj Tryz.prog FX zOI.cons:=zab zPX (zaa Tryz.func153 (by kernel_rfl)) rfl (zae)
theorem zCg:zad zw8=[]:=by kernel_rfl
theorem zPW:zav Tryz.prog FX 140 zHr:=zah (E:=zOI) (code:=zw8) mix zaf zGz Tryz.func140 (by kernel_rfl) zIT (by kernel_rfl) (fun y=>y.1) zHr.out (fun _=>rfl) zHr.run (fun x=>by kernel_rfl) (by kernel_rfl) (zac zCg (trivial))
def zIS:Sig:=⟨[(false,[.d (.sl .rat)]),(false,[.d (.sl .rat)])],[],false,[(false,[.d (.bool)])],[]⟩
def zHq:Con:=⟨zIS,Bool,fun x=>zdd x.1 x.2.1,fun r=>(r,())⟩
def zpF:Code:=Tryz.f123.body.getD .skip
def zi7:Code:=(zad zpF).getD 0 .skip
def zlo:LoopD:=⟨⟨zai [(1,false,[.d (.sl .rat)]),(12,false,[.d (.sl .rat)]),(13,false,[.d (.int .i64)]),(14,false,[.d (.int .i64)])] 27 0,[]⟩,[],[(.ret,⟨zai [(4,false,[.d (.bool)])] 27 0,[]⟩,[]),(.exit 0,⟨zai [] 27 0,[]⟩,[])]⟩
def zsA (x:Tys zlo.head.ks):Option (zc1 zlo.outs):=@whileO ((List Rt) × (List Rt) × Int × Int × Unit) ((Bool × Unit) ⊕ (Unit)) zbb x
def zMn:Env:=⟨zbq,[(140,zHr)],[(4,za5 zlo zsA)],[(6,[(0,[]),(1,[]),(2,[]),(3,[]),(4,[]),(5,[0,4,3,1,2]),(6,[])])]⟩
theorem zwb:zaj Tryz.prog FX zMn.cons:=zab zPW (zaa Tryz.func140 (by kernel_rfl)) rfl (zae)
theorem zzv (x:Tys zlo.head.ks):stepL zMn zlo zi7 x=zbb x:=by kernel_rfl
theorem ztU:zad zi7=[]:=by kernel_rfl
theorem zLk:zaz Tryz.prog FX (za5 zlo zsA) zi7:=zam mix zaf zwb (by kernel_rfl) (zac ztU (trivial)) zzv fun _ _ h=>h
theorem zCf:zad zpF=[zi7]:=by kernel_rfl
theorem zPV:zav Tryz.prog FX 123 zHq:=zah (E:=zMn) (code:=zpF) mix zaf zwb Tryz.func123 (by kernel_rfl) zIS (by kernel_rfl) (fun y=>y.1) zHq.out (fun _=>rfl) zHq.run (fun x=>by kernel_rfl) (by kernel_rfl) (zac zCf (⟨⟨_,by kernel_rfl,zLk⟩,trivial⟩))
def zIR:Sig:=⟨[(true,[.d (.int .i64),.d (.int .i64),.d (.sl .rat)]),(true,[.d (.int .i64),.d (.int .i64),.d (.sl .rat)])],[],false,[(false,[.d (.bool)])],[]⟩
def zHp:Con:=⟨zIR,Bool,fun x=>zcG (⟨x.1,x.2.1,x.2.2.1⟩:Mx) (⟨x.2.2.2.1,x.2.2.2.2.1,x.2.2.2.2.2.1⟩:Mx),fun r=>(r,())⟩
def zw7:Code:=Tryz.f83.body.getD .skip
def zOH:Env:=⟨zbq,[(123,zHq)],[],[]⟩
theorem zGy:zaj Tryz.prog FX zOH.cons:=zab zPV (zaa Tryz.func123 (by kernel_rfl)) rfl (zae)
theorem zCe:zad zw7=[]:=by kernel_rfl
theorem zPU:zav Tryz.prog FX 83 zHp:=zah (E:=zOH) (code:=zw7) mix zaf zGy Tryz.func83 (by kernel_rfl) zIR (by kernel_rfl) (fun y=>y.1) zHp.out (fun _=>rfl) zHp.run (fun x=>by kernel_rfl) (by kernel_rfl) (zac zCe (trivial))
def zIQ:Sig:=⟨[(true,[.d (.int .i64),.d (.int .i64),.d (.sl .rat)])],[],false,[(false,[.d (.bool)])],[]⟩
def zHo:Con:=⟨zIQ,Bool,fun x=>zaH (⟨x.1,x.2.1,x.2.2.1⟩:Mx),fun r=>(r,())⟩
def zw6:Code:=Tryz.f40.body.getD .skip
def zOG:Env:=⟨zbq,[(34,zHu),(84,zHt),(83,zHp)],[],[(1,[(0,[]),(1,[0]),(2,[]),(3,[]),(4,[]),(5,[]),(6,[]),(7,[]),(8,[]),(9,[]),(10,[]),(11,[]),(12,[11,9,8,2,7,1,4,6,0,3,5]),(13,[10,12,9,11,8,2,7,1,4,6,0,3,5]),(14,[]),(15,[14,13,0,1,2,3,4,5,6,7,8,9,10,11,12])])]⟩
theorem zGx:zaj Tryz.prog FX zOG.cons:=zab zPZ (zaa Tryz.func34 (by kernel_rfl)) rfl (zab zPY (zaa Tryz.func84 (by kernel_rfl)) rfl (zab zPU (zaa Tryz.func83 (by kernel_rfl)) rfl (zae)))
theorem zCd:zad zw6=[]:=by kernel_rfl
theorem zPT:zav Tryz.prog FX 40 zHo:=zah (E:=zOG) (code:=zw6) mix zaf zGx Tryz.func40 (by kernel_rfl) zIQ (by kernel_rfl) (fun y=>y.1) zHo.out (fun _=>rfl) zHo.run (fun x=>by kernel_rfl) (by kernel_rfl) (zac zCd (trivial))
def zI4:Sig:=⟨[(false,[.d (.sl .int)])],[],false,[(false,[.d (.sl .int)])],[]⟩
def zD7:Con:=⟨zI4,List Int,fun x=>zdi x.1,fun r=>(r,())⟩
def zpM:Code:=Tryz.f139.body.getD .skip
def zje:Code:=(zad zpM).getD 0 .skip
def zlw:LoopD:=⟨⟨zai [(0,false,[.d (.sl .int)]),(3,false,[.d (.int .i64)])] 21 0,[]⟩,[],[(.exit 0,⟨zai [(0,false,[.d (.sl .int)]),(3,false,[.d (.int .i64)])] 21 0,[]⟩,[])]⟩
def zsI (x:Tys zlw.head.ks):Option (zc1 zlw.outs):=@whileO ((List Int) × Int × Unit) ((List Int) × Int × Unit) zdf x
def zMt:Env:=⟨zbq,[],[(2,za5 zlw zsI)],[]⟩
theorem zwh:zaj Tryz.prog FX zMt.cons:=zae
theorem zzE (x:Tys zlw.head.ks):stepL zMt zlw zje x=zdf x:=by kernel_rfl
theorem zt2:zad zje=[]:=by kernel_rfl
theorem zLs:zaz Tryz.prog FX (za5 zlw zsI) zje:=zam mix zaf zwh (by kernel_rfl) (zac zt2 (trivial)) zzE fun _ _ h=>h
theorem zCr:zad zpM=[zje]:=by kernel_rfl
theorem zNj:zav Tryz.prog FX 139 zD7:=zah (E:=zMt) (code:=zpM) mix zaf zwh Tryz.func139 (by kernel_rfl) zI4 (by kernel_rfl) (fun y=>y.1) zD7.out (fun _=>rfl) zD7.run (fun x=>by kernel_rfl) (by kernel_rfl) (zac zCr (⟨⟨_,by kernel_rfl,zLs⟩,trivial⟩))
def zIP:Sig:=⟨[(false,[.d (.sl .int)])],[],false,[(false,[.d (.sl .int)])],[]⟩
def zHn:Con:=⟨zIP,List Int,fun x=>zfz x.1,fun r=>(r,())⟩
def zw5:Code:=Tryz.f134.body.getD .skip
def zOF:Env:=⟨zbq,[(139,zD7)],[],[]⟩
theorem zGw:zaj Tryz.prog FX zOF.cons:=zab zNj (zaa Tryz.func139 (by kernel_rfl)) rfl (zae)
theorem zCc:zad zw5=[]:=by kernel_rfl
theorem zPS:zav Tryz.prog FX 134 zHn:=zah (E:=zOF) (code:=zw5) mix zaf zGw Tryz.func134 (by kernel_rfl) zIP (by kernel_rfl) (fun y=>y.1) zHn.out (fun _=>rfl) zHn.run (fun x=>by kernel_rfl) (by kernel_rfl) (zac zCc (trivial))
def zIO:Sig:=⟨[(false,[.d (.bool)]),(false,[.d (.sl .int)])],[],false,[(true,[.d (.bool),.own 0])],[(0,.arr false .int)]⟩
def zrP:Con:=⟨zIO,Bg,fun x=>zau x.1 x.2.1,fun r=>(r.neg,r.mag,())⟩
def zw4:Code:=Tryz.f110.body.getD .skip
def zOE:Env:=⟨zbq,[(134,zHn)],[],[]⟩
theorem zGv:zaj Tryz.prog FX zOE.cons:=zab zPS (zaa Tryz.func134 (by kernel_rfl)) rfl (zae)
theorem zCb:zad zw4=[]:=by kernel_rfl
theorem zBc:zav Tryz.prog FX 110 zrP:=zah (E:=zOE) (code:=zw4) mix zaf zGv Tryz.func110 (by kernel_rfl) zIO (by kernel_rfl) (fun y=>(⟨y.1,y.2.1⟩:Bg)) zrP.out (fun _=>rfl) zrP.run (fun x=>by kernel_rfl) (by kernel_rfl) (zac zCb (trivial))
def zIN:Sig:=⟨[(false,[.d (.int .i64)])],[],false,[(true,[.d (.bool),.own 0])],[(0,.arr false .int)]⟩
def zHm:Con:=⟨zIN,Bg,fun x=>zeA x.1,fun r=>(r.neg,r.mag,())⟩
def zw3:Code:=Tryz.f109.body.getD .skip
def zOD:Env:=⟨zbq,[(110,zrP),(133,zuL)],[],[]⟩
theorem zGu:zaj Tryz.prog FX zOD.cons:=zab zBc (zaa Tryz.func110 (by kernel_rfl)) rfl (zab zFa (zaa Tryz.func133 (by kernel_rfl)) rfl (zae))
theorem zCa:zad zw3=[]:=by kernel_rfl
theorem zPR:zav Tryz.prog FX 109 zHm:=zah (E:=zOD) (code:=zw3) mix zaf zGu Tryz.func109 (by kernel_rfl) zIN (by kernel_rfl) (fun y=>(⟨y.1,y.2.1⟩:Bg)) zHm.out (fun _=>rfl) zHm.run (fun x=>by kernel_rfl) (by kernel_rfl) (zac zCa (trivial))
def zIM:Sig:=⟨[(false,[.d (.int .i64)])],[],false,[(true,[.d (.bool),.own 0,.own 1])],[(0,.arr false .int),(1,.arr false .int)]⟩
def zD1:Con:=⟨zIM,Rt,fun x=>zb8 x.1,fun r=>(r.neg,r.mag,r.den,())⟩
def zw2:Code:=Tryz.f63.body.getD .skip
def zOC:Env:=⟨zbq,[(109,zHm)],[],[]⟩
theorem zGt:zaj Tryz.prog FX zOC.cons:=zab zPR (zaa Tryz.func109 (by kernel_rfl)) rfl (zae)
theorem zB9:zad zw2=[]:=by kernel_rfl
theorem zNd:zav Tryz.prog FX 63 zD1:=zah (E:=zOC) (code:=zw2) mix zaf zGt Tryz.func63 (by kernel_rfl) zIM (by kernel_rfl) (fun y=>(⟨y.1,y.2.1,y.2.2.1⟩:Rt)) zD1.out (fun _=>rfl) zD1.run (fun x=>by kernel_rfl) (by kernel_rfl) (zac zB9 (trivial))
def zIL:Sig:=⟨[],[],false,[(true,[.d (.bool),.own 0,.own 1])],[(0,.arr false .int),(1,.arr false .int)]⟩
def zHl:Con:=⟨zIL,Rt,fun _=>ze6,fun r=>(r.neg,r.mag,r.den,())⟩
def zw1:Code:=Tryz.f108.body.getD .skip
def zOB:Env:=⟨zbq,[(63,zD1)],[],[]⟩
theorem zGs:zaj Tryz.prog FX zOB.cons:=zab zNd (zaa Tryz.func63 (by kernel_rfl)) rfl (zae)
theorem zB8:zad zw1=[]:=by kernel_rfl
theorem zPQ:zav Tryz.prog FX 108 zHl:=zah (E:=zOB) (code:=zw1) mix zaf zGs Tryz.func108 (by kernel_rfl) zIL (by kernel_rfl) (fun y=>(⟨y.1,y.2.1,y.2.2.1⟩:Rt)) zHl.out (fun _=>rfl) zHl.run (fun x=>by kernel_rfl) (by kernel_rfl) (zac zB8 (trivial))
def zIK:Sig:=⟨[(false,[.d (.int .i64)])],[],false,[(false,[.own 0])],[(0,.arr false .rat)]⟩
def zHk:Con:=⟨zIK,List Rt,fun x=>zdw x.1,fun r=>(r,())⟩
def zpE:Code:=Tryz.f62.body.getD .skip
def zi6:Code:=(zad zpE).getD 0 .skip
def zln:LoopD:=⟨⟨zai [(0,false,[.d (.int .i64)]),(3,false,[.own 960])] 14 0,[(960,.arr false .rat)]⟩,[(.slot 3 0,960,.rat)],[(.exit 0,⟨zai [(3,false,[.own 960])] 14 0,[(960,.arr false .rat)]⟩,[(.slot 3 0,960,.rat)])]⟩
def zsz (x:Tys zln.head.ks):Option (zc1 zln.outs):=@whileO (Int × (List Rt) × Unit) ((List Rt) × Unit) zbY x
def zMm:Env:=⟨lay,[(108,zHl)],[(2,za5 zln zsz)],[]⟩
theorem zwa:zaj Tryz.prog FX zMm.cons:=zab zPQ (zaa Tryz.func108 (by kernel_rfl)) rfl (zae)
theorem zzu (x:Tys zln.head.ks):stepL zMm zln zi6 x=zbY x:=by kernel_rfl
theorem ztT:zad zi6=[]:=by kernel_rfl
theorem zLj:zaz Tryz.prog FX (za5 zln zsz) zi6:=zam mix zjG zwa (by kernel_rfl) (zac ztT (trivial)) zzu fun _ _ h=>h
theorem zB7:zad zpE=[zi6]:=by kernel_rfl
theorem zPP:zav Tryz.prog FX 62 zHk:=zah (E:=zMm) (code:=zpE) mix zjG zwa Tryz.func62 (by kernel_rfl) zIK (by kernel_rfl) (fun y=>y.1) zHk.out (fun _=>rfl) zHk.run (fun x=>by kernel_rfl) (by kernel_rfl) (zac zB7 (⟨⟨_,by kernel_rfl,zLj⟩,trivial⟩))
def zIJ:Sig:=⟨[(false,[.d (.int .i64)]),(false,[.d (.int .i64)])],[],false,[(true,[.d (.int .i64),.d (.int .i64),.own 0])],[(0,.arr false .rat)]⟩
def zHj:Con:=⟨zIJ,Mx,fun x=>ze5 x.1 x.2.1,fun r=>(r.rows,r.cols,r.cells,())⟩
def zw0:Code:=Tryz.f124.body.getD .skip
def zOA:Env:=⟨lay,[(62,zHk)],[],[]⟩
theorem zGr:zaj Tryz.prog FX zOA.cons:=zab zPP (zaa Tryz.func62 (by kernel_rfl)) rfl (zae)
theorem zB6:zad zw0=[]:=by kernel_rfl
theorem zPO:zav Tryz.prog FX 124 zHj:=zah (E:=zOA) (code:=zw0) mix zjG zGr Tryz.func124 (by kernel_rfl) zIJ (by kernel_rfl) (fun y=>(⟨y.1,y.2.1,y.2.2.1⟩:Mx)) zHj.out (fun _=>rfl) zHj.run (fun x=>by kernel_rfl) (by kernel_rfl) (zac zB6 (trivial))
def zII:Sig:=⟨[(false,[.d (.int .i64)])],[],false,[(true,[.d (.int .i64),.d (.int .i64),.own 0])],[(0,.arr false .rat)]⟩
def zHi:Con:=⟨zII,Mx,fun x=>zbn x.1,fun r=>(r.rows,r.cols,r.cells,())⟩
def zpD:Code:=Tryz.f85.body.getD .skip
def zi5:Code:=(zad zpD).getD 0 .skip
def zlm:LoopD:=⟨⟨zai [(0,false,[.d (.int .i64)]),(2,false,[.lp 128 0]),(3,false,[.lp 192 0]),(4,false,[.d (.int .i64)])] 23 0,[(128,.box [.d (.int .i64),.d (.int .i64),.d (.sl .rat)]),(192,.box [.d (.int .i64),.d (.int .i64),.own 1536]),(1536,.arr false .rat)]⟩,[],[(.exit 0,⟨zai [(2,false,[.lp 128 0]),(3,false,[.lp 192 0])] 23 0,[(128,.box [.d (.int .i64),.d (.int .i64),.d (.sl .rat)]),(192,.box [.d (.int .i64),.d (.int .i64),.own 1536]),(1536,.arr false .rat)]⟩,[])]⟩
def zsy (x:Tys zlm.head.ks):Option (zc1 zlm.outs):=@whileO (Int × Int × Int × Int × (List Rt) × Int × Int × (List Rt) × Unit) (Int × Int × (List Rt) × Int × Int × (List Rt) × Unit) za1 x
def zMl:Env:=⟨lay,[(124,zHj),(63,zD1)],[(3,za5 zlm zsy)],[(5,[(0,[]),(1,[]),(2,[]),(3,[]),(4,[]),(5,[]),(6,[]),(7,[]),(8,[]),(9,[8,7,0,1,2,3,4,5,6])])]⟩
theorem zv9:zaj Tryz.prog FX zMl.cons:=zab zPO (zaa Tryz.func124 (by kernel_rfl)) rfl (zab zNd (zaa Tryz.func63 (by kernel_rfl)) rfl (zae))
theorem zzt (x:Tys zlm.head.ks):stepL zMl zlm zi5 x=za1 x:=by kernel_rfl
theorem ztS:zad zi5=[]:=by kernel_rfl
theorem zLi:zaz Tryz.prog FX (za5 zlm zsy) zi5:=zam mix zjG zv9 (by kernel_rfl) (zac ztS (trivial)) zzt fun _ _ h=>h
theorem zB5:zad zpD=[zi5]:=by kernel_rfl
theorem zPN:zav Tryz.prog FX 85 zHi:=zah (E:=zMl) (code:=zpD) mix zjG zv9 Tryz.func85 (by kernel_rfl) zII (by kernel_rfl) (fun y=>(⟨y.1,y.2.1,y.2.2.1⟩:Mx)) zHi.out (fun _=>rfl) zHi.run (fun x=>by kernel_rfl) (by kernel_rfl) (zac zB5 (⟨⟨_,by kernel_rfl,zLi⟩,trivial⟩))
def zIH:Sig:=⟨[(true,[.d (.int .i64),.d (.int .i64),.own 191]),(false,[.d (.int .i64)]),(false,[.d (.int .i64)])],[(191,.arr false .rat)],false,[(true,[.d (.bool),.d (.sl .int),.d (.sl .int)])],[(191,.arr false .rat)]⟩
def zHh:Con:=⟨zIH,Rt × List Rt,fun x=>zaQ (⟨x.1,x.2.1,x.2.2.2.2.1⟩:Mx) x.2.2.1 x.2.2.2.1,fun r=>(r.1.neg,r.1.mag,r.1.den,r.2,())⟩
def zwZ:Code:=Tryz.f65.body.getD .skip
def zOz:Env:=⟨zbq,[],[],[]⟩
theorem zGq:zaj Tryz.prog FX zOz.cons:=zae
theorem zB4:zad zwZ=[]:=by kernel_rfl
theorem zPM:zav Tryz.prog FX 65 zHh:=zah (E:=zOz) (code:=zwZ) mix zaf zGq Tryz.func65 (by kernel_rfl) zIH (by kernel_rfl) (fun y=>((⟨y.1,y.2.1,y.2.2.1⟩:Rt),y.2.2.2.1)) zHh.out (fun _=>rfl) zHh.run (fun x=>by kernel_rfl) (by kernel_rfl) (zac zB4 (trivial))
def zIE:Sig:=⟨[(false,[.d (.bool)]),(false,[.d (.sl .int)]),(false,[.d (.sl .int)])],[],false,[(true,[.d (.bool),.own 0,.own 1])],[(0,.arr false .int),(1,.arr false .int)]⟩
def zyT:Con:=⟨zIE,Rt,fun x=>zaO x.1 x.2.1 x.2.2.1,fun r=>(r.neg,r.mag,r.den,())⟩
def zwW:Code:=Tryz.f117.body.getD .skip
def zOw:Env:=⟨zbq,[(139,zD7),(115,zyU),(116,zD4),(138,zD5),(110,zrP)],[],[]⟩
theorem zGn:zaj Tryz.prog FX zOw.cons:=zab zNj (zaa Tryz.func139 (by kernel_rfl)) rfl (zab zKG (zaa Tryz.func115 (by kernel_rfl)) rfl (zab zNg (zaa Tryz.func116 (by kernel_rfl)) rfl (zab zNh (zaa Tryz.func138 (by kernel_rfl)) rfl (zab zBc (zaa Tryz.func110 (by kernel_rfl)) rfl (zae)))))
theorem zB1:zad zwW=[]:=by kernel_rfl
theorem zKF:zav Tryz.prog FX 117 zyT:=zah (E:=zOw) (code:=zwW) mix zaf zGn Tryz.func117 (by kernel_rfl) zIE (by kernel_rfl) (fun y=>(⟨y.1,y.2.1,y.2.2.1⟩:Rt)) zyT.out (fun _=>rfl) zyT.run (fun x=>by kernel_rfl) (by kernel_rfl) (zac zB1 (trivial))
def zID:Sig:=⟨[(true,[.d (.bool),.d (.sl .int),.d (.sl .int)]),(true,[.d (.bool),.d (.sl .int),.d (.sl .int)])],[],false,[(true,[.d (.bool),.own 0,.own 1])],[(0,.arr false .int),(1,.arr false .int)]⟩
def zHf:Con:=⟨zID,Rt,fun x=>zbf (⟨x.1,x.2.1,x.2.2.1⟩:Rt) (⟨x.2.2.2.1,x.2.2.2.2.1,x.2.2.2.2.2.1⟩:Rt),fun r=>(r.neg,r.mag,r.den,())⟩
def zwV:Code:=Tryz.f87.body.getD .skip
def zOv:Env:=⟨zbq,[(118,zrQ),(117,zyT)],[],[(1,[(0,[]),(1,[]),(2,[]),(3,[]),(4,[]),(5,[]),(6,[]),(7,[]),(8,[]),(9,[]),(10,[]),(11,[]),(12,[]),(14,[]),(15,[]),(16,[]),(17,[]),(13,[9,12,8,11,7,10]),(18,[15,17,13,14,16,9,12,8,11,7,10]),(19,[6,13,18,2,5,9,12,15,17,1,4,8,11,14,16,0,3,7,10]),(20,[19,0,1,2,3,4,5,6,7,8,9,10,11,12,13,14,15,16,17,18])])]⟩
theorem zGm:zaj Tryz.prog FX zOv.cons:=zab zBd (zaa Tryz.func118 (by kernel_rfl)) rfl (zab zKF (zaa Tryz.func117 (by kernel_rfl)) rfl (zae))
theorem zB0:zad zwV=[]:=by kernel_rfl
theorem zPK:zav Tryz.prog FX 87 zHf:=zah (E:=zOv) (code:=zwV) mix zaf zGm Tryz.func87 (by kernel_rfl) zID (by kernel_rfl) (fun y=>(⟨y.1,y.2.1,y.2.2.1⟩:Rt)) zHf.out (fun _=>rfl) zHf.run (fun x=>by kernel_rfl) (by kernel_rfl) (zac zB0 (trivial))
def zIC:Sig:=⟨[(true,[.d (.bool),.d (.sl .int),.d (.sl .int)])],[],false,[(true,[.d (.bool),.own 0,.own 1])],[(0,.arr false .int),(1,.arr false .int)]⟩
def zHe:Con:=⟨zIC,Rt,fun x=>zfy (⟨x.1,x.2.1,x.2.2.1⟩:Rt),fun r=>(r.neg,r.mag,r.den,())⟩
def zwU:Code:=Tryz.f64.body.getD .skip
def zOu:Env:=⟨zbq,[(110,zrP)],[],[(1,[(0,[]),(1,[]),(2,[]),(3,[]),(4,[]),(5,[]),(6,[]),(8,[]),(9,[]),(10,[]),(7,[3,6,2,5,1,4,0]),(11,[8,10,7,9,3,6,2,5,1,4,0]),(12,[]),(13,[12,11,0,1,2,3,4,5,6,7,8,9,10])])]⟩
theorem zGl:zaj Tryz.prog FX zOu.cons:=zab zBc (zaa Tryz.func110 (by kernel_rfl)) rfl (zae)
theorem zBZ:zad zwU=[]:=by kernel_rfl
theorem zPJ:zav Tryz.prog FX 64 zHe:=zah (E:=zOu) (code:=zwU) mix zaf zGl Tryz.func64 (by kernel_rfl) zIC (by kernel_rfl) (fun y=>(⟨y.1,y.2.1,y.2.2.1⟩:Rt)) zHe.out (fun _=>rfl) zHe.run (fun x=>by kernel_rfl) (by kernel_rfl) (zac zBZ (trivial))
def zIB:Sig:=⟨[(false,[.d (.sl .int)]),(false,[.d (.sl .int)])],[],false,[(false,[.own 0])],[(0,.arr false .int)]⟩
def zHd:Con:=⟨zIB,List Int,fun x=>zfA x.1 x.2.1,fun r=>(r,())⟩
def zpC:Code:=Tryz.f154.body.getD .skip
def zi4:Code:=(zad zpC).getD 0 .skip
def zll:LoopD:=⟨⟨zai [(0,false,[.d (.sl .int)]),(1,false,[.d (.sl .int)]),(5,false,[.own 3584]),(6,false,[.d (.int .i64)]),(7,false,[.d (.int .i64)])] 55 0,[(3584,.arr false .int)]⟩,[(.slot 5 0,3584,.int)],[(.exit 0,⟨zai [(5,false,[.own 3584])] 55 0,[(3584,.arr false .int)]⟩,[(.slot 5 0,3584,.int)])]⟩
def zsx (x:Tys zll.head.ks):Option (zc1 zll.outs):=@whileO ((List Int) × (List Int) × Int × Int × (List Int) × Unit) ((List Int) × Unit) zaV x
def zMk:Env:=⟨zbq,[],[(4,za5 zll zsx)],[]⟩
theorem zv8:zaj Tryz.prog FX zMk.cons:=zae
theorem zzs (x:Tys zll.head.ks):stepL zMk zll zi4 x=zaV x:=by kernel_rfl
theorem ztR:zad zi4=[]:=by kernel_rfl
theorem zLh:zaz Tryz.prog FX (za5 zll zsx) zi4:=zam mix zaf zv8 (by kernel_rfl) (zac ztR (trivial)) zzs fun _ _ h=>h
theorem zBY:zad zpC=[zi4]:=by kernel_rfl
theorem zPI:zav Tryz.prog FX 154 zHd:=zah (E:=zMk) (code:=zpC) mix zaf zv8 Tryz.func154 (by kernel_rfl) zIB (by kernel_rfl) (fun y=>y.1) zHd.out (fun _=>rfl) zHd.run (fun x=>by kernel_rfl) (by kernel_rfl) (zac zBY (⟨⟨_,by kernel_rfl,zLh⟩,trivial⟩))
def zIA:Sig:=⟨[(true,[.d (.bool),.d (.sl .int)]),(true,[.d (.bool),.d (.sl .int)])],[],false,[(true,[.d (.bool),.own 0])],[(0,.arr false .int)]⟩
def zHc:Con:=⟨zIA,Bg,fun x=>zcu (⟨x.1,x.2.1⟩:Bg) (⟨x.2.2.1,x.2.2.2.1⟩:Bg),fun r=>(r.neg,r.mag,())⟩
def zwT:Code:=Tryz.f141.body.getD .skip
def zOt:Env:=⟨zbq,[(154,zHd),(110,zrP),(149,zuM),(152,zD6)],[],[(2,[(0,[]),(1,[]),(2,[]),(3,[]),(4,[]),(5,[]),(6,[3,5,2,4]),(7,[1,6,0,3,5,2,4]),(8,[7,0,1,2,3,4,5,6])]),(4,[(0,[]),(1,[]),(2,[]),(3,[]),(4,[]),(5,[]),(6,[3,5,2,4]),(7,[1,6,0,3,5,2,4]),(8,[7,0,1,2,3,4,5,6])]),(5,[(0,[]),(1,[]),(2,[]),(3,[]),(4,[]),(5,[]),(6,[3,5,2,4]),(7,[1,6,0,3,5,2,4]),(8,[7,0,1,2,3,4,5,6])])]⟩
theorem zGk:zaj Tryz.prog FX zOt.cons:=zab zPI (zaa Tryz.func154 (by kernel_rfl)) rfl (zab zBc (zaa Tryz.func110 (by kernel_rfl)) rfl (zab zFb (zaa Tryz.func149 (by kernel_rfl)) rfl (zab zNi (zaa Tryz.func152 (by kernel_rfl)) rfl (zae))))
theorem zBX:zad zwT=[]:=by kernel_rfl
theorem zPH:zav Tryz.prog FX 141 zHc:=zah (E:=zOt) (code:=zwT) mix zaf zGk Tryz.func141 (by kernel_rfl) zIA (by kernel_rfl) (fun y=>(⟨y.1,y.2.1⟩:Bg)) zHc.out (fun _=>rfl) zHc.run (fun x=>by kernel_rfl) (by kernel_rfl) (zac zBX (trivial))
def zIz:Sig:=⟨[(true,[.d (.bool),.d (.sl .int),.d (.sl .int)]),(true,[.d (.bool),.d (.sl .int),.d (.sl .int)])],[],false,[(true,[.d (.bool),.own 0,.own 1])],[(0,.arr false .int),(1,.arr false .int)]⟩
def zHb:Con:=⟨zIz,Rt,fun x=>zdP (⟨x.1,x.2.1,x.2.2.1⟩:Rt) (⟨x.2.2.2.1,x.2.2.2.2.1,x.2.2.2.2.2.1⟩:Rt),fun r=>(r.neg,r.mag,r.den,())⟩
def zwS:Code:=Tryz.f125.body.getD .skip
def zOs:Env:=⟨zbq,[(115,zyU),(141,zHc),(117,zyT),(118,zrQ),(110,zrP)],[],[(4,[(0,[]),(1,[]),(2,[]),(3,[]),(4,[]),(5,[]),(6,[]),(7,[]),(8,[5,7,4,6,3]),(9,[2,8,1,5,7,0,4,6,3]),(10,[]),(11,[10,9,0,1,2,3,4,5,6,7,8])]),(5,[(0,[]),(1,[]),(2,[]),(3,[]),(4,[]),(5,[]),(6,[]),(7,[]),(8,[5,7,4,6,3]),(9,[2,8,1,5,7,0,4,6,3]),(10,[]),(11,[10,9,0,1,2,3,4,5,6,7,8])]),(7,[(0,[]),(1,[]),(2,[]),(3,[]),(4,[]),(5,[]),(6,[]),(7,[]),(8,[5,7,4,6]),(9,[1,3,8,0,2,5,7,4,6]),(10,[9,0,1,2,3,4,5,6,7,8])])]⟩
theorem zGj:zaj Tryz.prog FX zOs.cons:=zab zKG (zaa Tryz.func115 (by kernel_rfl)) rfl (zab zPH (zaa Tryz.func141 (by kernel_rfl)) rfl (zab zKF (zaa Tryz.func117 (by kernel_rfl)) rfl (zab zBd (zaa Tryz.func118 (by kernel_rfl)) rfl (zab zBc (zaa Tryz.func110 (by kernel_rfl)) rfl (zae)))))
theorem zBW:zad zwS=[]:=by kernel_rfl
theorem zPG:zav Tryz.prog FX 125 zHb:=zah (E:=zOs) (code:=zwS) mix zaf zGj Tryz.func125 (by kernel_rfl) zIz (by kernel_rfl) (fun y=>(⟨y.1,y.2.1,y.2.2.1⟩:Rt)) zHb.out (fun _=>rfl) zHb.run (fun x=>by kernel_rfl) (by kernel_rfl) (zac zBW (trivial))
def zIy:Sig:=⟨[(true,[.d (.bool),.d (.sl .int),.d (.sl .int)]),(true,[.d (.bool),.d (.sl .int),.d (.sl .int)])],[],false,[(true,[.d (.bool),.own 0,.own 1])],[(0,.arr false .int),(1,.arr false .int)]⟩
def zHa:Con:=⟨zIy,Rt,fun x=>zc8 (⟨x.1,x.2.1,x.2.2.1⟩:Rt) (⟨x.2.2.2.1,x.2.2.2.2.1,x.2.2.2.2.2.1⟩:Rt),fun r=>(r.neg,r.mag,r.den,())⟩
def zwR:Code:=Tryz.f86.body.getD .skip
def zOr:Env:=⟨zbq,[(64,zHe),(125,zHb)],[],[(1,[(0,[]),(1,[]),(2,[1]),(3,[0,2,1]),(4,[3,0,1,2])])]⟩
theorem zGi:zaj Tryz.prog FX zOr.cons:=zab zPJ (zaa Tryz.func64 (by kernel_rfl)) rfl (zab zPG (zaa Tryz.func125 (by kernel_rfl)) rfl (zae))
theorem zBV:zad zwR=[]:=by kernel_rfl
theorem zPF:zav Tryz.prog FX 86 zHa:=zah (E:=zOr) (code:=zwR) mix zaf zGi Tryz.func86 (by kernel_rfl) zIy (by kernel_rfl) (fun y=>(⟨y.1,y.2.1,y.2.2.1⟩:Rt)) zHa.out (fun _=>rfl) zHa.run (fun x=>by kernel_rfl) (by kernel_rfl) (zac zBV (trivial))
def zIG:Sig:=⟨[(true,[.d (.bool),.d (.sl .int),.d (.sl .int)])],[],false,[(false,[.d (.bool)])],[]⟩
def zD0:Con:=⟨zIG,Bool,fun x=>zc9 (⟨x.1,x.2.1,x.2.2.1⟩:Rt),fun r=>(r,())⟩
def zwY:Code:=Tryz.f76.body.getD .skip
def zOy:Env:=⟨zbq,[],[],[]⟩
theorem zGp:zaj Tryz.prog FX zOy.cons:=zae
theorem zB3:zad zwY=[]:=by kernel_rfl
theorem zNc:zav Tryz.prog FX 76 zD0:=zah (E:=zOy) (code:=zwY) mix zaf zGp Tryz.func76 (by kernel_rfl) zIG (by kernel_rfl) (fun y=>y.1) zD0.out (fun _=>rfl) zD0.run (fun x=>by kernel_rfl) (by kernel_rfl) (zac zB3 (trivial))
def zIF:Sig:=⟨[(true,[.d (.bool),.d (.sl .int),.d (.sl .int)])],[],false,[(false,[.d (.bool)])],[]⟩
def zHg:Con:=⟨zIF,Bool,fun x=>zes (⟨x.1,x.2.1,x.2.2.1⟩:Rt),fun r=>(r,())⟩
def zwX:Code:=Tryz.f73.body.getD .skip
def zOx:Env:=⟨zbq,[],[],[]⟩
theorem zGo:zaj Tryz.prog FX zOx.cons:=zae
theorem zB2:zad zwX=[]:=by kernel_rfl
theorem zPL:zav Tryz.prog FX 73 zHg:=zah (E:=zOx) (code:=zwX) mix zaf zGo Tryz.func73 (by kernel_rfl) zIF (by kernel_rfl) (fun y=>y.1) zHg.out (fun _=>rfl) zHg.run (fun x=>by kernel_rfl) (by kernel_rfl) (zac zB2 (trivial))
def zIx:Sig:=⟨[(true,[.d (.bool),.d (.sl .int),.d (.sl .int)]),(true,[.d (.bool),.d (.sl .int),.d (.sl .int)])],[],false,[(true,[.d (.bool),.own 0,.own 1])],[(0,.arr false .int),(1,.arr false .int)]⟩
def zG9:Con:=⟨zIx,Rt,fun x=>zdO (⟨x.1,x.2.1,x.2.2.1⟩:Rt) (⟨x.2.2.2.1,x.2.2.2.2.1,x.2.2.2.2.2.1⟩:Rt),fun r=>(r.neg,r.mag,r.den,())⟩
def zwQ:Code:=Tryz.f74.body.getD .skip
def zOq:Env:=⟨zbq,[(118,zrQ),(117,zyT)],[],[(1,[(0,[]),(1,[]),(2,[]),(3,[]),(4,[]),(5,[]),(6,[]),(7,[]),(8,[]),(9,[]),(10,[]),(11,[]),(13,[]),(14,[]),(15,[]),(16,[]),(17,[]),(12,[9,11,8,10,7]),(18,[14,17,12,13,16,9,11,15,8,10,7]),(19,[6,12,18,2,5,9,11,14,17,1,4,8,10,13,16,0,3,7,15]),(20,[19,0,1,2,3,4,5,6,7,8,9,10,11,12,13,14,15,16,17,18])])]⟩
theorem zGh:zaj Tryz.prog FX zOq.cons:=zab zBd (zaa Tryz.func118 (by kernel_rfl)) rfl (zab zKF (zaa Tryz.func117 (by kernel_rfl)) rfl (zae))
theorem zBU:zad zwQ=[]:=by kernel_rfl
theorem zPE:zav Tryz.prog FX 74 zG9:=zah (E:=zOq) (code:=zwQ) mix zaf zGh Tryz.func74 (by kernel_rfl) zIx (by kernel_rfl) (fun y=>(⟨y.1,y.2.1,y.2.2.1⟩:Rt)) zG9.out (fun _=>rfl) zG9.run (fun x=>by kernel_rfl) (by kernel_rfl) (zac zBU (trivial))
def zIw:Sig:=⟨[(false,[.d (.sl .rat)])],[],false,[(false,[.d (.bool)])],[]⟩
def zG8:Con:=⟨zIw,Bool,fun x=>zd1 x.1,fun r=>(r,())⟩
def zpB:Code:=Tryz.f37.body.getD .skip
def zi3:Code:=(zad zpB).getD 0 .skip
def zlk:LoopD:=⟨⟨zai [(5,false,[.d (.sl .rat)]),(6,false,[.d (.int .i64)]),(7,false,[.d (.int .i64)])] 14 0,[]⟩,[],[(.ret,⟨zai [(2,false,[.d (.bool)])] 14 0,[]⟩,[]),(.exit 0,⟨zai [] 14 0,[]⟩,[])]⟩
def zsw (x:Tys zlk.head.ks):Option (zc1 zlk.outs):=@whileO ((List Rt) × Int × Int × Unit) ((Bool × Unit) ⊕ (Unit)) zck x
def zMj:Env:=⟨zbq,[(76,zD0)],[(2,za5 zlk zsw)],[]⟩
theorem zv7:zaj Tryz.prog FX zMj.cons:=zab zNc (zaa Tryz.func76 (by kernel_rfl)) rfl (zae)
theorem zzr (x:Tys zlk.head.ks):stepL zMj zlk zi3 x=zck x:=by kernel_rfl
theorem ztQ:zad zi3=[]:=by kernel_rfl
theorem zLg:zaz Tryz.prog FX (za5 zlk zsw) zi3:=zam mix zaf zv7 (by kernel_rfl) (zac ztQ (trivial)) zzr fun _ _ h=>h
theorem zBT:zad zpB=[zi3]:=by kernel_rfl
theorem zPD:zav Tryz.prog FX 37 zG8:=zah (E:=zMj) (code:=zpB) mix zaf zv7 Tryz.func37 (by kernel_rfl) zIw (by kernel_rfl) (fun y=>y.1) zG8.out (fun _=>rfl) zG8.run (fun x=>by kernel_rfl) (by kernel_rfl) (zac zBT (⟨⟨_,by kernel_rfl,zLg⟩,trivial⟩))
def zIv:Sig:=⟨[(true,[.d (.int .i64),.d (.int .i64),.d (.sl .rat)])],[],true,[(true,[.d (.int .i64),.d (.int .i64),.d (.sl .rat)]),(false,[.d (.sl .rat)]),(false,[.d (.bool)])],[]⟩
def zG7:Con:=⟨zIv,Mx × List Rt × Bool,fun x=>zd4 (⟨x.1,x.2.1,x.2.2.1⟩:Mx),fun r=>(r.1.rows,r.1.cols,r.1.cells,r.2.1,r.2.2,())⟩
def zpA:Code:=Tryz.f41.body.getD .skip
def zfM:Code:=(zad zpA).getD 0 .skip
def zi2:Code:=(zad zfM).getD 0 .skip
def zgP:Code:=(zad zfM).getD 1 .skip
def zi1:Code:=(zad zgP).getD 0 .skip
def zlj:LoopD:=⟨⟨zai [(1,false,[.lp 64 0]),(2,false,[.lp 128 0]),(5,false,[.d (.int .i64)]),(6,false,[.lp 384 0]),(7,false,[.own 7488]),(8,false,[.d (.int .i64)])] 115 0,[(64,.box [.d (.int .i64),.d (.int .i64),.d (.sl .rat)]),(128,.box [.d (.int .i64),.d (.int .i64),.d (.sl .rat)]),(384,.box [.d (.int .i64),.d (.int .i64),.own 7424]),(7424,.arr false .rat),(7488,.arr false .rat)]⟩,[(.slot 7 0,7488,.rat)],[(.ret,⟨zai [(2,false,[.lp 128 0]),(3,false,[.d (.sl .rat)]),(4,false,[.d (.bool)])] 115 0,[(128,.box [.d (.int .i64),.d (.int .i64),.d (.sl .rat)])]⟩,[]),(.exit 0,⟨zai [(2,false,[.lp 128 0]),(6,false,[.lp 384 0]),(7,false,[.own 7488])] 115 0,[(128,.box [.d (.int .i64),.d (.int .i64),.d (.sl .rat)]),(384,.box [.d (.int .i64),.d (.int .i64),.own 7424]),(7424,.arr false .rat),(7488,.arr false .rat)]⟩,[(.slot 7 0,7488,.rat)])]⟩
def zli:LoopD:=⟨⟨zai [(1,false,[.lp 64 0]),(2,false,[.lp 128 0]),(5,false,[.d (.int .i64)]),(6,false,[.lp 384 0]),(7,false,[.own 7488]),(8,false,[.d (.int .i64)]),(9,false,[.lp 576 0]),(10,false,[.d (.int .i64)])] 115 0,[(64,.box [.d (.int .i64),.d (.int .i64),.d (.sl .rat)]),(128,.box [.d (.int .i64),.d (.int .i64),.d (.sl .rat)]),(384,.box [.d (.int .i64),.d (.int .i64),.own 7424]),(576,.box [.d (.bool),.d (.sl .int),.d (.sl .int)]),(7424,.arr false .rat),(7488,.arr false .rat)]⟩,[(.slot 7 0,7488,.rat)],[(.exit 2,⟨zai [(1,false,[.lp 64 0]),(2,false,[.lp 128 0]),(5,false,[.d (.int .i64)]),(6,false,[.lp 384 0]),(7,false,[.own 7488]),(8,false,[.d (.int .i64)]),(9,false,[.lp 576 0])] 115 0,[(64,.box [.d (.int .i64),.d (.int .i64),.d (.sl .rat)]),(128,.box [.d (.int .i64),.d (.int .i64),.d (.sl .rat)]),(384,.box [.d (.int .i64),.d (.int .i64),.own 7424]),(576,.box [.d (.bool),.d (.sl .int),.d (.sl .int)]),(7424,.arr false .rat),(7488,.arr false .rat)]⟩,[(.slot 7 0,7488,.rat)])]⟩
def zlh:LoopD:=⟨⟨zai [(1,false,[.lp 64 0]),(2,false,[.lp 128 0]),(5,false,[.d (.int .i64)]),(6,false,[.lp 384 0]),(7,false,[.own 7424]),(8,false,[.d (.int .i64)]),(9,false,[.lp 576 0]),(12,false,[.d (.int .i64)])] 115 0,[(64,.box [.d (.int .i64),.d (.int .i64),.d (.sl .rat)]),(128,.box [.d (.int .i64),.d (.int .i64),.d (.sl .rat)]),(384,.box [.d (.int .i64),.d (.int .i64),.own 7488]),(576,.box [.d (.bool),.d (.sl .int),.d (.sl .int)]),(7424,.arr false .rat),(7488,.arr false .rat)]⟩,[],[(.exit 4,⟨zai [(1,false,[.lp 64 0]),(2,false,[.lp 128 0]),(5,false,[.d (.int .i64)]),(6,false,[.lp 384 0]),(7,false,[.own 7424]),(8,false,[.d (.int .i64)])] 115 0,[(64,.box [.d (.int .i64),.d (.int .i64),.d (.sl .rat)]),(128,.box [.d (.int .i64),.d (.int .i64),.d (.sl .rat)]),(384,.box [.d (.int .i64),.d (.int .i64),.own 7488]),(7424,.arr false .rat),(7488,.arr false .rat)]⟩,[])]⟩
def zlg:LoopD:=⟨⟨zai [(1,false,[.lp 64 0]),(2,false,[.lp 128 0]),(5,false,[.d (.int .i64)]),(6,false,[.lp 384 0]),(7,false,[.own 7424]),(8,false,[.d (.int .i64)]),(9,false,[.lp 576 0]),(12,false,[.d (.int .i64)]),(13,false,[.lp 832 0]),(14,false,[.d (.int .i64)])] 115 0,[(64,.box [.d (.int .i64),.d (.int .i64),.d (.sl .rat)]),(128,.box [.d (.int .i64),.d (.int .i64),.d (.sl .rat)]),(384,.box [.d (.int .i64),.d (.int .i64),.own 7488]),(576,.box [.d (.bool),.d (.sl .int),.d (.sl .int)]),(832,.box [.d (.bool),.d (.sl .int),.d (.sl .int)]),(7424,.arr false .rat),(7488,.arr false .rat)]⟩,[],[(.exit 6,⟨zai [(1,false,[.lp 64 0]),(2,false,[.lp 128 0]),(5,false,[.d (.int .i64)]),(6,false,[.lp 384 0]),(7,false,[.own 7424]),(8,false,[.d (.int .i64)]),(9,false,[.lp 576 0]),(12,false,[.d (.int .i64)]),(13,false,[.lp 832 0])] 115 0,[(64,.box [.d (.int .i64),.d (.int .i64),.d (.sl .rat)]),(128,.box [.d (.int .i64),.d (.int .i64),.d (.sl .rat)]),(384,.box [.d (.int .i64),.d (.int .i64),.own 7488]),(576,.box [.d (.bool),.d (.sl .int),.d (.sl .int)]),(832,.box [.d (.bool),.d (.sl .int),.d (.sl .int)]),(7424,.arr false .rat),(7488,.arr false .rat)]⟩,[])]⟩
def zsv (x:Tys zlj.head.ks):Option (zc1 zlj.outs):=@whileO (Int × Int × Int × Int × (List Rt) × Int × Int × (List Rt) × Int × Int × (List Rt) × (List Rt) × Unit) (((List Rt) × Bool × Int × Int × (List Rt) × Unit) ⊕ (Int × Int × (List Rt) × Int × Int × (List Rt) × (List Rt) × Unit)) zcs x
def zsu (x:Tys zli.head.ks):Option (zc1 zli.outs):=@whileO (Int × Int × Int × Int × Int × (List Rt) × Int × Int × (List Rt) × Int × Int × Bool × (List Int) × (List Int) × (List Rt) × (List Rt) × Unit) (Int × Int × Int × Int × (List Rt) × Int × Int × (List Rt) × Int × Int × Bool × (List Int) × (List Int) × (List Rt) × (List Rt) × Unit) zcr x
def zst (x:Tys zlh.head.ks):Option (zc1 zlh.outs):=@whileO (Int × Int × Int × Int × Int × (List Rt) × Int × Int × (List Rt) × Int × Int × Bool × (List Int) × (List Int) × (List Rt) × (List Rt) × Unit) (Int × Int × Int × Int × (List Rt) × Int × Int × (List Rt) × Int × Int × (List Rt) × (List Rt) × Unit) zcq x
def zss (x:Tys zlg.head.ks):Option (zc1 zlg.outs):=@whileO (Int × Int × Int × Int × Int × Int × (List Rt) × Int × Int × (List Rt) × Int × Int × Bool × (List Int) × (List Int) × Bool × (List Int) × (List Int) × (List Rt) × (List Rt) × Unit) (Int × Int × Int × Int × Int × (List Rt) × Int × Int × (List Rt) × Int × Int × Bool × (List Int) × (List Int) × Bool × (List Int) × (List Int) × (List Rt) × (List Rt) × Unit) zcp x
def zzP:Env:=⟨lay,[(85,zHi),(65,zD3),(65+zJo,zHh),(87,zHf),(86,zHa),(76,zD0),(73,zHg),(88,zD2),(74,zG9),(37,zG8)],[(5,za5 zlj zsv),(9,za5 zli zsu),(17,za5 zlh zst),(21,za5 zlg zss)],[(12,[(0,[]),(1,[]),(2,[]),(4,[]),(5,[]),(6,[]),(7,[]),(3,[1,2]),(8,[3,7,1,2,6,4,5]),(9,[0,8,3,7,1,2,6,4,5]),(10,[9,0,1,2,3,4,5,6,7,8])]),(23,[(0,[]),(1,[]),(2,[]),(3,[]),(5,[]),(6,[]),(7,[]),(10,[]),(11,[]),(12,[]),(13,[]),(4,[1,2,3]),(8,[5,6,7,4,1,2,3]),(9,[4,8,1,2,3,5,6,7]),(14,[9,13,4,8,12,1,2,3,5,6,7,10,11]),(15,[0,14,9,13,4,8,12,1,2,3,5,6,7,10,11]),(16,[15,0,1,2,3,4,5,6,7,8,9,10,11,12,13,14])]),(24,[(0,[]),(1,[]),(2,[]),(3,[]),(4,[]),(5,[]),(6,[]),(7,[]),(8,[]),(9,[7,8]),(10,[]),(11,[10,9,0,1,2,3,4,5,6,7,8])])]⟩
theorem zks:zaj Tryz.prog FX zzP.cons:=zab zPN (zaa Tryz.func85 (by kernel_rfl)) rfl (zab zNf (zaa Tryz.func65 (by kernel_rfl)) rfl (zlT zPM (zaa Tryz.func65 (by kernel_rfl)) (zab zPK (zaa Tryz.func87 (by kernel_rfl)) rfl (zab zPF (zaa Tryz.func86 (by kernel_rfl)) rfl (zab zNc (zaa Tryz.func76 (by kernel_rfl)) rfl (zab zPL (zaa Tryz.func73 (by kernel_rfl)) rfl (zab zNe (zaa Tryz.func88 (by kernel_rfl)) rfl (zab zPE (zaa Tryz.func74 (by kernel_rfl)) rfl (zab zPD (zaa Tryz.func37 (by kernel_rfl)) rfl (zae))))))))))
theorem zzn (x:Tys zlg.head.ks):stepL zzP zlg zi1 x=zcp x:=by kernel_rfl
theorem ztM:zad zi1=[]:=by kernel_rfl
theorem zLc:zaz Tryz.prog FX (za5 zlg zss) zi1:=zam mix zjG zks (by kernel_rfl) (zac ztM (trivial)) zzn fun _ _ h=>h
theorem zzo (x:Tys zlh.head.ks):stepL zzP zlh zgP x=zcq x:=by kernel_rfl
theorem ztN:zad zgP=[zi1]:=by kernel_rfl
theorem zLd:zaz Tryz.prog FX (za5 zlh zst) zgP:=zam mix zjG zks (by kernel_rfl) (zac ztN (⟨⟨_,by kernel_rfl,zLc⟩,trivial⟩)) zzo fun _ _ h=>h
theorem zzp (x:Tys zli.head.ks):stepL zzP zli zi2 x=zcr x:=by kernel_rfl
theorem ztO:zad zi2=[]:=by kernel_rfl
theorem zLe:zaz Tryz.prog FX (za5 zli zsu) zi2:=zam mix zjG zks (by kernel_rfl) (zac ztO (trivial)) zzp fun _ _ h=>h
theorem zzq (x:Tys zlj.head.ks):stepL zzP zlj zfM x=zcs x:=by kernel_rfl
theorem ztP:zad zfM=[zi2,zgP]:=by kernel_rfl
theorem zLf:zaz Tryz.prog FX (za5 zlj zsv) zfM:=zam mix zjG zks (by kernel_rfl) (zac ztP (⟨⟨_,by kernel_rfl,zLe⟩,⟨⟨_,by kernel_rfl,zLd⟩,trivial⟩⟩)) zzq fun _ _ h=>h
theorem zBS:zad zpA=[zfM]:=by kernel_rfl
theorem zPC:zav Tryz.prog FX 41 zG7:=zah (E:=zzP) (code:=zpA) mix zjG zks Tryz.func41 (by kernel_rfl) zIv (by kernel_rfl) (fun y=>((⟨y.1,y.2.1,y.2.2.1⟩:Mx),y.2.2.2.1,y.2.2.2.2.1)) zG7.out (fun _=>rfl) zG7.run (fun x=>by kernel_rfl) (by kernel_rfl) (zac zBS (⟨⟨_,by kernel_rfl,zLf⟩,trivial⟩))
def zIu:Sig:=⟨[(true,[.d (.int .i64),.d (.int .i64),.d (.sl .rat)])],[],true,[(true,[.d (.int .i64),.d (.int .i64),.d (.sl .rat)]),(false,[.d (.sl .rat)]),(false,[.d (.bool)])],[]⟩
def zG6:Con:=⟨zIu,Mx × List Rt × Bool,fun x=>zez (⟨x.1,x.2.1,x.2.2.1⟩:Mx),fun r=>(r.1.rows,r.1.cols,r.1.cells,r.2.1,r.2.2,())⟩
def zwP:Code:=Tryz.f18.body.getD .skip
def zOp:Env:=⟨zbq,[(40,zHo),(41,zG7)],[],[]⟩
theorem zGg:zaj Tryz.prog FX zOp.cons:=zab zPT (zaa Tryz.func40 (by kernel_rfl)) rfl (zab zPC (zaa Tryz.func41 (by kernel_rfl)) rfl (zae))
theorem zBR:zad zwP=[]:=by kernel_rfl
theorem zPB:zav Tryz.prog FX 18 zG6:=zah (E:=zOp) (code:=zwP) mix zaf zGg Tryz.func18 (by kernel_rfl) zIu (by kernel_rfl) (fun y=>((⟨y.1,y.2.1,y.2.2.1⟩:Mx),y.2.2.2.1,y.2.2.2.2.1)) zG6.out (fun _=>rfl) zG6.run (fun x=>by kernel_rfl) (by kernel_rfl) (zac zBR (trivial))
def zIt:Sig:=⟨[(false,[.d (.int .i64)])],[],false,[(false,[.d (.bool)])],[]⟩
def zG5:Con:=⟨zIt,Bool,fun x=>zdC x.1,fun r=>(r,())⟩
def zwO:Code:=Tryz.f77.body.getD .skip
def zOo:Env:=⟨zbq,[],[],[]⟩
theorem zGf:zaj Tryz.prog FX zOo.cons:=zae
theorem zBQ:zad zwO=[]:=by kernel_rfl
theorem zPA:zav Tryz.prog FX 77 zG5:=zah (E:=zOo) (code:=zwO) mix zaf zGf Tryz.func77 (by kernel_rfl) zIt (by kernel_rfl) (fun y=>y.1) zG5.out (fun _=>rfl) zG5.run (fun x=>by kernel_rfl) (by kernel_rfl) (zac zBQ (trivial))
def zIs:Sig:=⟨[(false,[.d (.sl .int)])],[],false,[(false,[.d (.bool)])],[]⟩
def zDZ:Con:=⟨zIs,Bool,fun x=>zfg x.1,fun r=>(r,())⟩
def zpz:Code:=Tryz.f120.body.getD .skip
def zi0:Code:=(zad zpz).getD 0 .skip
def zlf:LoopD:=⟨⟨zai [(22,false,[.d (.sl .int)]),(23,false,[.d (.int .i64)]),(24,false,[.d (.int .i64)])] 35 0,[]⟩,[],[(.ret,⟨zai [(2,false,[.d (.bool)])] 35 0,[]⟩,[]),(.exit 0,⟨zai [] 35 0,[]⟩,[])]⟩
def zsr (x:Tys zlf.head.ks):Option (zc1 zlf.outs):=@whileO ((List Int) × Int × Int × Unit) ((Bool × Unit) ⊕ (Unit)) zdh x
def zMi:Env:=⟨zbq,[],[(4,za5 zlf zsr)],[]⟩
theorem zv6:zaj Tryz.prog FX zMi.cons:=zae
theorem zzm (x:Tys zlf.head.ks):stepL zMi zlf zi0 x=zdh x:=by kernel_rfl
theorem ztL:zad zi0=[]:=by kernel_rfl
theorem zLb:zaz Tryz.prog FX (za5 zlf zsr) zi0:=zam mix zaf zv6 (by kernel_rfl) (zac ztL (trivial)) zzm fun _ _ h=>h
theorem zBP:zad zpz=[zi0]:=by kernel_rfl
theorem zNb:zav Tryz.prog FX 120 zDZ:=zah (E:=zMi) (code:=zpz) mix zaf zv6 Tryz.func120 (by kernel_rfl) zIs (by kernel_rfl) (fun y=>y.1) zDZ.out (fun _=>rfl) zDZ.run (fun x=>by kernel_rfl) (by kernel_rfl) (zac zBP (⟨⟨_,by kernel_rfl,zLb⟩,trivial⟩))
def zIr:Sig:=⟨[(true,[.d (.bool),.d (.sl .int)])],[],false,[(false,[.d (.bool)])],[]⟩
def zDY:Con:=⟨zIr,Bool,fun x=>zcg (⟨x.1,x.2.1⟩:Bg),fun r=>(r,())⟩
def zwN:Code:=Tryz.f119.body.getD .skip
def zOn:Env:=⟨zbq,[(120,zDZ)],[],[]⟩
theorem zGe:zaj Tryz.prog FX zOn.cons:=zab zNb (zaa Tryz.func120 (by kernel_rfl)) rfl (zae)
theorem zBO:zad zwN=[]:=by kernel_rfl
theorem zNa:zav Tryz.prog FX 119 zDY:=zah (E:=zOn) (code:=zwN) mix zaf zGe Tryz.func119 (by kernel_rfl) zIr (by kernel_rfl) (fun y=>y.1) zDY.out (fun _=>rfl) zDY.run (fun x=>by kernel_rfl) (by kernel_rfl) (zac zBO (trivial))
def zIq:Sig:=⟨[(false,[.d (.sl .int)]),(false,[.d (.sl .int)])],[],false,[(false,[.d (.int .i64)])],[]⟩
def zDX:Con:=⟨zIq,Int,fun x=>zeH x.1 x.2.1,fun r=>(r,())⟩
def zpy:Code:=Tryz.f144.body.getD .skip
def ziZ:Code:=(zad zpy).getD 0 .skip
def zle:LoopD:=⟨⟨zai [(0,false,[.d (.sl .int)]),(1,false,[.d (.sl .int)]),(5,false,[.d (.int .i64)])] 43 0,[]⟩,[],[(.ret,⟨zai [(4,false,[.d (.int .i64)])] 43 0,[]⟩,[]),(.exit 0,⟨zai [] 43 0,[]⟩,[])]⟩
def zsq (x:Tys zle.head.ks):Option (zc1 zle.outs):=@whileO ((List Int) × (List Int) × Int × Unit) ((Int × Unit) ⊕ (Unit)) zcU x
def zMh:Env:=⟨zbq,[],[(6,za5 zle zsq)],[(8,[(0,[]),(1,[]),(2,[]),(3,[]),(4,[]),(5,[]),(6,[]),(7,[]),(8,[]),(9,[8,3,7,2,6,0,1,4,5])]),(10,[(0,[]),(1,[]),(2,[]),(3,[]),(4,[]),(5,[]),(6,[]),(7,[]),(8,[]),(9,[8,3,7,2,6,0,1,4,5])])]⟩
theorem zv5:zaj Tryz.prog FX zMh.cons:=zae
theorem zzl (x:Tys zle.head.ks):stepL zMh zle ziZ x=zcU x:=by kernel_rfl
theorem ztK:zad ziZ=[]:=by kernel_rfl
theorem zLa:zaz Tryz.prog FX (za5 zle zsq) ziZ:=zam mix zaf zv5 (by kernel_rfl) (zac ztK (trivial)) zzl fun _ _ h=>h
theorem zBN:zad zpy=[ziZ]:=by kernel_rfl
theorem zM9:zav Tryz.prog FX 144 zDX:=zah (E:=zMh) (code:=zpy) mix zaf zv5 Tryz.func144 (by kernel_rfl) zIq (by kernel_rfl) (fun y=>y.1) zDX.out (fun _=>rfl) zDX.run (fun x=>by kernel_rfl) (by kernel_rfl) (zac zBN (⟨⟨_,by kernel_rfl,zLa⟩,trivial⟩))
def zIp:Sig:=⟨[(false,[.d (.sl .int)])],[],false,[(false,[.own 0])],[(0,.arr false .int)]⟩
def znK:Con:=⟨zIp,List Int,fun x=>zaM x.1,fun r=>(r,())⟩
def zwM:Code:=Tryz.f93.body.getD .skip
def zOm:Env:=⟨zbq,[],[],[]⟩
theorem zGd:zaj Tryz.prog FX zOm.cons:=zae
theorem zBM:zad zwM=[]:=by kernel_rfl
theorem ztp:zav Tryz.prog FX 93 znK:=zah (E:=zOm) (code:=zwM) mix zaf zGd Tryz.func93 (by kernel_rfl) zIp (by kernel_rfl) (fun y=>y.1) znK.out (fun _=>rfl) znK.run (fun x=>by kernel_rfl) (by kernel_rfl) (zac zBM (trivial))
def zIo:Sig:=⟨[(false,[.own 0])],[(0,.arr false .int)],false,[(false,[.own 0])],[(0,.arr false .int)]⟩
def zuJ:Con:=⟨zIo,List Int,fun x=>zcz x.1,fun r=>(r,())⟩
def zpx:Code:=Tryz.f132.body.getD .skip
def ziY:Code:=(zad zpx).getD 0 .skip
def zld:LoopD:=⟨⟨zai [(0,false,[.own 1408]),(3,false,[.d (.int .i64)])] 21 0,[(1408,.arr false .int)]⟩,[],[(.exit 0,⟨zai [(0,false,[.own 1408]),(3,false,[.d (.int .i64)])] 21 0,[(1408,.arr false .int)]⟩,[])]⟩
def zsp (x:Tys zld.head.ks):Option (zc1 zld.outs):=@whileO (Int × (List Int) × Unit) (Int × (List Int) × Unit) zcN x
def zMg:Env:=⟨zbq,[],[(2,za5 zld zsp)],[]⟩
theorem zv4:zaj Tryz.prog FX zMg.cons:=zae
theorem zzk (x:Tys zld.head.ks):stepL zMg zld ziY x=zcN x:=by kernel_rfl
theorem ztJ:zad ziY=[]:=by kernel_rfl
theorem zK9:zaz Tryz.prog FX (za5 zld zsp) ziY:=zam mix zaf zv4 (by kernel_rfl) (zac ztJ (trivial)) zzk fun _ _ h=>h
theorem zBL:zad zpx=[ziY]:=by kernel_rfl
theorem zE8:zav Tryz.prog FX 132 zuJ:=zah (E:=zMg) (code:=zpx) mix zaf zv4 Tryz.func132 (by kernel_rfl) zIo (by kernel_rfl) (fun y=>y.1) zuJ.out (fun _=>rfl) zuJ.run (fun x=>by kernel_rfl) (by kernel_rfl) (zac zBL (⟨⟨_,by kernel_rfl,zK9⟩,trivial⟩))
def zIn:Sig:=⟨[(false,[.d (.int .i64)])],[],false,[(false,[.own 0])],[(0,.arr false .int)]⟩
def zDW:Con:=⟨zIn,List Int,fun x=>zfh x.1,fun r=>(r,())⟩
def zpw:Code:=Tryz.f155.body.getD .skip
def ziX:Code:=(zad zpw).getD 0 .skip
def zlc:LoopD:=⟨⟨zai [(0,false,[.d (.int .i64)]),(3,false,[.own 960])] 14 0,[(960,.arr false .int)]⟩,[(.slot 3 0,960,.int)],[(.exit 0,⟨zai [(3,false,[.own 960])] 14 0,[(960,.arr false .int)]⟩,[(.slot 3 0,960,.int)])]⟩
def zso (x:Tys zlc.head.ks):Option (zc1 zlc.outs):=@whileO (Int × (List Int) × Unit) ((List Int) × Unit) zgw x
def zMf:Env:=⟨zbq,[],[(2,za5 zlc zso)],[]⟩
theorem zv3:zaj Tryz.prog FX zMf.cons:=zae
theorem zzj (x:Tys zlc.head.ks):stepL zMf zlc ziX x=zgw x:=by kernel_rfl
theorem ztI:zad ziX=[]:=by kernel_rfl
theorem zK8:zaz Tryz.prog FX (za5 zlc zso) ziX:=zam mix zaf zv3 (by kernel_rfl) (zac ztI (trivial)) zzj fun _ _ h=>h
theorem zBK:zad zpw=[ziX]:=by kernel_rfl
theorem zM8:zav Tryz.prog FX 155 zDW:=zah (E:=zMf) (code:=zpw) mix zaf zv3 Tryz.func155 (by kernel_rfl) zIn (by kernel_rfl) (fun y=>y.1) zDW.out (fun _=>rfl) zDW.run (fun x=>by kernel_rfl) (by kernel_rfl) (zac zBK (⟨⟨_,by kernel_rfl,zK8⟩,trivial⟩))
def zIm:Sig:=⟨[(false,[.d (.sl .int)]),(false,[.d (.int .i64)])],[],true,[(false,[.own 0]),(false,[.own 1])],[(0,.arr false .int),(1,.arr false .int)]⟩
def zG4:Con:=⟨zIm,List Int × List Int,fun x=>zdD x.1 x.2.1,fun r=>(r.1,r.2,())⟩
def zpv:Code:=Tryz.f146.body.getD .skip
def ziW:Code:=(zad zpv).getD 0 .skip
def zlb:LoopD:=⟨⟨zai [(0,false,[.d (.sl .int)]),(1,false,[.d (.int .i64)]),(6,false,[.own 2624]),(7,false,[.d (.int .i64)]),(8,false,[.d (.int .i64)])] 40 0,[(2624,.arr false .int)]⟩,[],[(.exit 0,⟨zai [(6,false,[.own 2624]),(7,false,[.d (.int .i64)])] 40 0,[(2624,.arr false .int)]⟩,[])]⟩
def zsn (x:Tys zlb.head.ks):Option (zc1 zlb.outs):=@whileO ((List Int) × Int × Int × Int × (List Int) × Unit) (Int × (List Int) × Unit) zcV x
def zMe:Env:=⟨zbq,[(132,zuJ),(155,zDW)],[(4,za5 zlb zsn)],[]⟩
theorem zv2:zaj Tryz.prog FX zMe.cons:=zab zE8 (zaa Tryz.func132 (by kernel_rfl)) rfl (zab zM8 (zaa Tryz.func155 (by kernel_rfl)) rfl (zae))
theorem zzi (x:Tys zlb.head.ks):stepL zMe zlb ziW x=zcV x:=by kernel_rfl
theorem ztH:zad ziW=[]:=by kernel_rfl
theorem zK7:zaz Tryz.prog FX (za5 zlb zsn) ziW:=zam mix zaf zv2 (by kernel_rfl) (zac ztH (trivial)) zzi fun _ _ h=>h
theorem zBJ:zad zpv=[ziW]:=by kernel_rfl
theorem zPz:zav Tryz.prog FX 146 zG4:=zah (E:=zMe) (code:=zpv) mix zaf zv2 Tryz.func146 (by kernel_rfl) zIm (by kernel_rfl) (fun y=>(y.1,y.2.1)) zG4.out (fun _=>rfl) zG4.run (fun x=>by kernel_rfl) (by kernel_rfl) (zac zBJ (⟨⟨_,by kernel_rfl,zK7⟩,trivial⟩))
def zIl:Sig:=⟨[(false,[.d (.sl .int)]),(false,[.d (.sl .int)])],[],false,[(false,[.own 0])],[(0,.arr false .int)]⟩
def zuI:Con:=⟨zIl,List Int,fun x=>zbg x.1 x.2.1,fun r=>(r,())⟩
def zpu:Code:=Tryz.f97.body.getD .skip
def zgO:Code:=(zad zpu).getD 0 .skip
def ziV:Code:=(zad zgO).getD 0 .skip
def zla:LoopD:=⟨⟨zai [(1,false,[.d (.sl .int)]),(5,false,[.own 4352]),(18,false,[.d (.sl .int)]),(19,false,[.d (.int .i64)]),(20,false,[.d (.int .i64)])] 67 0,[(4352,.arr false .int)]⟩,[],[(.exit 0,⟨zai [(5,false,[.own 4352])] 67 0,[(4352,.arr false .int)]⟩,[])]⟩
def zk9:LoopD:=⟨⟨zai [(1,false,[.d (.sl .int)]),(5,false,[.own 4352]),(6,false,[.d (.int .i64)]),(7,false,[.d (.int .i64)]),(8,false,[.d (.int .i64)]),(18,false,[.d (.sl .int)]),(19,false,[.d (.int .i64)]),(20,false,[.d (.int .i64)]),(25,false,[.d (.sl .int)]),(26,false,[.d (.int .i64)]),(27,false,[.d (.int .i64)])] 67 0,[(4352,.arr false .int)]⟩,[],[(.exit 2,⟨zai [(1,false,[.d (.sl .int)]),(5,false,[.own 4352]),(6,false,[.d (.int .i64)]),(8,false,[.d (.int .i64)]),(18,false,[.d (.sl .int)]),(19,false,[.d (.int .i64)]),(20,false,[.d (.int .i64)])] 67 0,[(4352,.arr false .int)]⟩,[])]⟩
def zsm (x:Tys zla.head.ks):Option (zc1 zla.outs):=@whileO ((List Int) × (List Int) × Int × Int × (List Int) × Unit) ((List Int) × Unit) zcO x
def zsl (x:Tys zk9.head.ks):Option (zc1 zk9.outs):=@whileO ((List Int) × Int × Int × Int × (List Int) × Int × Int × (List Int) × Int × Int × (List Int) × Unit) ((List Int) × Int × Int × (List Int) × Int × Int × (List Int) × Unit) zer x
def zHO:Env:=⟨zbq,[(132,zuJ)],[(3,za5 zla zsm),(7,za5 zk9 zsl)],[]⟩
theorem zpk:zaj Tryz.prog FX zHO.cons:=zab zE8 (zaa Tryz.func132 (by kernel_rfl)) rfl (zae)
theorem zzg (x:Tys zk9.head.ks):stepL zHO zk9 ziV x=zer x:=by kernel_rfl
theorem ztF:zad ziV=[]:=by kernel_rfl
theorem zK5:zaz Tryz.prog FX (za5 zk9 zsl) ziV:=zam mix zaf zpk (by kernel_rfl) (zac ztF (trivial)) zzg fun _ _ h=>h
theorem zzh (x:Tys zla.head.ks):stepL zHO zla zgO x=zcO x:=by kernel_rfl
theorem ztG:zad zgO=[ziV]:=by kernel_rfl
theorem zK6:zaz Tryz.prog FX (za5 zla zsm) zgO:=zam mix zaf zpk (by kernel_rfl) (zac ztG (⟨⟨_,by kernel_rfl,zK5⟩,trivial⟩)) zzh fun _ _ h=>h
theorem zBI:zad zpu=[zgO]:=by kernel_rfl
theorem zE7:zav Tryz.prog FX 97 zuI:=zah (E:=zHO) (code:=zpu) mix zaf zpk Tryz.func97 (by kernel_rfl) zIl (by kernel_rfl) (fun y=>y.1) zuI.out (fun _=>rfl) zuI.run (fun x=>by kernel_rfl) (by kernel_rfl) (zac zBI (⟨⟨_,by kernel_rfl,zK6⟩,trivial⟩))
def zIk:Sig:=⟨[(false,[.d (.sl .int)]),(false,[.d (.sl .int)])],[],true,[(false,[.own 0]),(false,[.own 1])],[(0,.arr false .int),(1,.arr false .int)]⟩
def zyS:Con:=⟨zIk,List Int × List Int,fun x=>zbA x.1 x.2.1,fun r=>(r.1,r.2,())⟩
def zmm:Code:=Tryz.f130.body.getD .skip
def ziU:Code:=(zad zmm).getD 0 .skip
def zeX:Code:=(zad zmm).getD 1 .skip
def ziT:Code:=(zad zeX).getD 0 .skip
def ziS:Code:=(zad zeX).getD 1 .skip
def ziR:Code:=(zad zeX).getD 2 .skip
def zk8:LoopD:=⟨⟨zai [(0,false,[.d (.sl .int)]),(6,false,[.d (.int .i64)]),(7,false,[.own 15360]),(8,false,[.own 15424]),(9,false,[.d (.int .i64)])] 239 0,[(15360,.arr false .int),(15424,.arr false .int)]⟩,[],[(.exit 0,⟨zai [(6,false,[.d (.int .i64)]),(7,false,[.own 15360]),(8,false,[.own 15424]),(9,false,[.d (.int .i64)])] 239 0,[(15360,.arr false .int),(15424,.arr false .int)]⟩,[])]⟩
def zk7:LoopD:=⟨⟨zai [(6,false,[.d (.int .i64)]),(7,false,[.own 15360]),(8,false,[.own 15424]),(9,false,[.d (.int .i64)]),(10,false,[.own 15488]),(11,false,[.d (.int .i64)]),(12,false,[.d (.int .i64)])] 239 0,[(15360,.arr false .int),(15424,.arr false .int),(15488,.arr false .int)]⟩,[],[(.exit 2,⟨zai [(6,false,[.d (.int .i64)]),(7,false,[.own 15360]),(10,false,[.own 15488])] 239 0,[(15360,.arr false .int),(15488,.arr false .int)]⟩,[])]⟩
def zk6:LoopD:=⟨⟨zai [(6,false,[.d (.int .i64)]),(7,false,[.own 15360]),(8,false,[.own 15424]),(9,false,[.d (.int .i64)]),(10,false,[.own 15488]),(11,false,[.d (.int .i64)]),(12,false,[.d (.int .i64)]),(14,false,[.d (.int .i64)]),(15,false,[.d (.int .i64)])] 239 0,[(15360,.arr false .int),(15424,.arr false .int),(15488,.arr false .int)]⟩,[],[(.exit 4,⟨zai [(6,false,[.d (.int .i64)]),(7,false,[.own 15360]),(8,false,[.own 15424]),(9,false,[.d (.int .i64)]),(10,false,[.own 15488]),(11,false,[.d (.int .i64)]),(12,false,[.d (.int .i64)]),(14,false,[.d (.int .i64)])] 239 0,[(15360,.arr false .int),(15424,.arr false .int),(15488,.arr false .int)]⟩,[])]⟩
def zk5:LoopD:=⟨⟨zai [(6,false,[.d (.int .i64)]),(7,false,[.own 15360]),(8,false,[.own 15424]),(9,false,[.d (.int .i64)]),(10,false,[.own 15488]),(11,false,[.d (.int .i64)]),(12,false,[.d (.int .i64)]),(14,false,[.d (.int .i64)]),(16,false,[.d (.int .i64)]),(135,false,[.d (.int .i64)]),(136,false,[.d (.int .i64)])] 239 0,[(15360,.arr false .int),(15424,.arr false .int),(15488,.arr false .int)]⟩,[],[(.exit 6,⟨zai [(6,false,[.d (.int .i64)]),(7,false,[.own 15360]),(8,false,[.own 15424]),(9,false,[.d (.int .i64)]),(10,false,[.own 15488]),(11,false,[.d (.int .i64)]),(12,false,[.d (.int .i64)]),(14,false,[.d (.int .i64)]),(16,false,[.d (.int .i64)])] 239 0,[(15360,.arr false .int),(15424,.arr false .int),(15488,.arr false .int)]⟩,[])]⟩
def zk4:LoopD:=⟨⟨zai [(6,false,[.d (.int .i64)]),(7,false,[.own 15360]),(8,false,[.own 15424]),(9,false,[.d (.int .i64)]),(10,false,[.own 15488]),(11,false,[.d (.int .i64)]),(12,false,[.d (.int .i64)]),(14,false,[.d (.int .i64)]),(19,false,[.d (.int .i64)]),(188,false,[.d (.int .i64)]),(189,false,[.d (.int .i64)])] 239 0,[(15360,.arr false .int),(15424,.arr false .int),(15488,.arr false .int)]⟩,[],[(.exit 8,⟨zai [(6,false,[.d (.int .i64)]),(7,false,[.own 15360]),(8,false,[.own 15424]),(9,false,[.d (.int .i64)]),(10,false,[.own 15488]),(11,false,[.d (.int .i64)]),(12,false,[.d (.int .i64)]),(14,false,[.d (.int .i64)]),(19,false,[.d (.int .i64)])] 239 0,[(15360,.arr false .int),(15424,.arr false .int),(15488,.arr false .int)]⟩,[])]⟩
def zsk (x:Tys zk8.head.ks):Option (zc1 zk8.outs):=@whileO ((List Int) × Int × Int × (List Int) × (List Int) × Unit) (Int × Int × (List Int) × (List Int) × Unit) zcT x
def zsj (x:Tys zk7.head.ks):Option (zc1 zk7.outs):=@whileO (Int × Int × Int × Int × (List Int) × (List Int) × (List Int) × Unit) (Int × (List Int) × (List Int) × Unit) zcc x
def zsi (x:Tys zk6.head.ks):Option (zc1 zk6.outs):=@whileO (Int × Int × Int × Int × Int × Int × (List Int) × (List Int) × (List Int) × Unit) (Int × Int × Int × Int × Int × (List Int) × (List Int) × (List Int) × Unit) zcS x
def zsh (x:Tys zk5.head.ks):Option (zc1 zk5.outs):=@whileO (Int × Int × Int × Int × Int × Int × Int × Int × (List Int) × (List Int) × (List Int) × Unit) (Int × Int × Int × Int × Int × Int × (List Int) × (List Int) × (List Int) × Unit) zcR x
def zsg (x:Tys zk4.head.ks):Option (zc1 zk4.outs):=@whileO (Int × Int × Int × Int × Int × Int × Int × Int × (List Int) × (List Int) × (List Int) × Unit) (Int × Int × Int × Int × Int × Int × (List Int) × (List Int) × (List Int) × Unit) zcQ x
def zu5:Env:=⟨zbq,[(144,zDX),(93,znK),(146,zG4),(97,zuI),(132,zuJ)],[(9,za5 zk8 zsk),(14,za5 zk7 zsj),(18,za5 zk6 zsi),(24,za5 zk5 zsh),(38,za5 zk4 zsg)],[(16,[(0,[]),(1,[]),(2,[]),(3,[]),(4,[]),(5,[]),(6,[]),(7,[]),(8,[]),(9,[]),(10,[]),(11,[]),(12,[]),(13,[]),(14,[]),(15,[14,0,1,2,3,4,5,6,7,8,9,10,11,12,13])]),(17,[(0,[]),(1,[]),(2,[]),(3,[]),(4,[]),(5,[]),(6,[2,0,1]),(7,[5,6,0,1,2,3,4])]),(18,[(0,[]),(1,[]),(2,[]),(3,[]),(4,[]),(5,[]),(6,[]),(7,[]),(8,[]),(9,[]),(10,[]),(11,[]),(12,[]),(13,[]),(14,[]),(15,[]),(16,[]),(17,[]),(18,[]),(19,[]),(20,[]),(21,[])]),(26,[(0,[]),(1,[]),(2,[]),(3,[]),(4,[]),(5,[]),(6,[]),(7,[]),(8,[]),(9,[]),(10,[]),(11,[]),(12,[]),(13,[]),(14,[]),(15,[14,0,1,2,3,4,5,6,7,8,9,10,11,12,13])]),(40,[(0,[]),(1,[]),(2,[]),(3,[]),(4,[]),(5,[]),(6,[]),(7,[]),(8,[]),(9,[]),(10,[]),(11,[]),(12,[]),(13,[12,0,1,2,3,4,5,6,7,8,9,10,11])])]⟩
theorem ziH:zaj Tryz.prog FX zu5.cons:=zab zM9 (zaa Tryz.func144 (by kernel_rfl)) rfl (zab ztp (zaa Tryz.func93 (by kernel_rfl)) rfl (zab zPz (zaa Tryz.func146 (by kernel_rfl)) rfl (zab zE7 (zaa Tryz.func97 (by kernel_rfl)) rfl (zab zE8 (zaa Tryz.func132 (by kernel_rfl)) rfl (zae)))))
theorem zzb (x:Tys zk4.head.ks):stepL zu5 zk4 ziR x=zcQ x:=by kernel_rfl
theorem ztA:zad ziR=[]:=by kernel_rfl
theorem zKZ:zaz Tryz.prog FX (za5 zk4 zsg) ziR:=zam mix zaf ziH (by kernel_rfl) (zac ztA (trivial)) zzb fun _ _ h=>h
theorem zzc (x:Tys zk5.head.ks):stepL zu5 zk5 ziS x=zcR x:=by kernel_rfl
theorem ztB:zad ziS=[]:=by kernel_rfl
theorem zK1:zaz Tryz.prog FX (za5 zk5 zsh) ziS:=zam mix zaf ziH (by kernel_rfl) (zac ztB (trivial)) zzc fun _ _ h=>h
theorem zzd (x:Tys zk6.head.ks):stepL zu5 zk6 ziT x=zcS x:=by kernel_rfl
theorem ztC:zad ziT=[]:=by kernel_rfl
theorem zK2:zaz Tryz.prog FX (za5 zk6 zsi) ziT:=zam mix zaf ziH (by kernel_rfl) (zac ztC (trivial)) zzd fun _ _ h=>h
theorem zze (x:Tys zk7.head.ks):stepL zu5 zk7 zeX x=zcc x:=by kernel_rfl
theorem ztD:zad zeX=[ziT,ziS,ziR]:=by kernel_rfl
theorem zK3:zaz Tryz.prog FX (za5 zk7 zsj) zeX:=zam mix zaf ziH (by kernel_rfl) (zac ztD (⟨⟨_,by kernel_rfl,zK2⟩,⟨⟨_,by kernel_rfl,zK1⟩,⟨⟨_,by kernel_rfl,zKZ⟩,trivial⟩⟩⟩)) zze fun _ _ h=>h
theorem zzf (x:Tys zk8.head.ks):stepL zu5 zk8 ziU x=zcT x:=by kernel_rfl
theorem ztE:zad ziU=[]:=by kernel_rfl
theorem zK4:zaz Tryz.prog FX (za5 zk8 zsk) ziU:=zam mix zaf ziH (by kernel_rfl) (zac ztE (trivial)) zzf fun _ _ h=>h
theorem zBH:zad zmm=[ziU,zeX]:=by kernel_rfl
theorem zKE:zav Tryz.prog FX 130 zyS:=zah (E:=zu5) (code:=zmm) mix zaf ziH Tryz.func130 (by kernel_rfl) zIk (by kernel_rfl) (fun y=>(y.1,y.2.1)) zyS.out (fun _=>rfl) zyS.run (fun x=>by kernel_rfl) (by kernel_rfl) (zac zBH (⟨⟨_,by kernel_rfl,zK4⟩,⟨⟨_,by kernel_rfl,zK3⟩,trivial⟩⟩))
def zIj:Sig:=⟨[(false,[.d (.sl .int)]),(false,[.d (.sl .int)])],[],false,[(false,[.own 0])],[(0,.arr false .int)]⟩
def zyR:Con:=⟨zIj,List Int,fun x=>zdS x.1 x.2.1,fun r=>(r,())⟩
def zml:Code:=Tryz.f122.body.getD .skip
def ziQ:Code:=(zad zml).getD 0 .skip
def ziP:Code:=(zad zml).getD 1 .skip
def zk3:LoopD:=⟨⟨zai [(0,false,[.d (.sl .int)]),(1,false,[.d (.sl .int)])] 49 0,[]⟩,[],[(.exit 0,⟨zai [(0,false,[.d (.sl .int)]),(1,false,[.d (.sl .int)])] 49 0,[]⟩,[])]⟩
def zk2:LoopD:=⟨⟨zai [(7,false,[.d (.int .i64)]),(8,false,[.d (.int .i64)])] 49 0,[]⟩,[],[(.exit 2,⟨zai [(7,false,[.d (.int .i64)])] 49 0,[]⟩,[])]⟩
def zsf (x:Tys zk3.head.ks):Option (zc1 zk3.outs):=@whileO ((List Int) × (List Int) × Unit) ((List Int) × (List Int) × Unit) zbF x
def zse (x:Tys zk2.head.ks):Option (zc1 zk2.outs):=@whileO (Int × Int × Unit) (Int × Unit) zcP x
def zHN:Env:=⟨zbq,[(130,zyS),(93,znK)],[(1,za5 zk3 zsf),(7,za5 zk2 zse)],[(6,[(0,[]),(1,[]),(2,[]),(3,[]),(4,[]),(5,[]),(6,[2,0,1]),(7,[5,6,0,1,2,3,4])]),(8,[(0,[]),(1,[]),(2,[]),(3,[]),(4,[0,1]),(5,[3,4,0,1,2])])]⟩
theorem zpj:zaj Tryz.prog FX zHN.cons:=zab zKE (zaa Tryz.func130 (by kernel_rfl)) rfl (zab ztp (zaa Tryz.func93 (by kernel_rfl)) rfl (zae))
theorem zy9 (x:Tys zk2.head.ks):stepL zHN zk2 ziP x=zcP x:=by kernel_rfl
theorem zty:zad ziP=[]:=by kernel_rfl
theorem zKX:zaz Tryz.prog FX (za5 zk2 zse) ziP:=zam mix zaf zpj (by kernel_rfl) (zac zty (trivial)) zy9 fun _ _ h=>h
theorem zza (x:Tys zk3.head.ks):stepL zHN zk3 ziQ x=zbF x:=by kernel_rfl
theorem ztz:zad ziQ=[]:=by kernel_rfl
theorem zKY:zaz Tryz.prog FX (za5 zk3 zsf) ziQ:=zam mix zaf zpj (by kernel_rfl) (zac ztz (trivial)) zza fun _ _ h=>h
theorem zBG:zad zml=[ziQ,ziP]:=by kernel_rfl
theorem zKD:zav Tryz.prog FX 122 zyR:=zah (E:=zHN) (code:=zml) mix zaf zpj Tryz.func122 (by kernel_rfl) zIj (by kernel_rfl) (fun y=>y.1) zyR.out (fun _=>rfl) zyR.run (fun x=>by kernel_rfl) (by kernel_rfl) (zac zBG (⟨⟨_,by kernel_rfl,zKY⟩,⟨⟨_,by kernel_rfl,zKX⟩,trivial⟩⟩))
def zIi:Sig:=⟨[(false,[.d (.sl .int)])],[],false,[(false,[.d (.bool)])],[]⟩
def zyQ:Con:=⟨zIi,Bool,fun x=>zff x.1,fun r=>(r,())⟩
def zwL:Code:=Tryz.f121.body.getD .skip
def zOl:Env:=⟨zbq,[],[],[]⟩
theorem zGc:zaj Tryz.prog FX zOl.cons:=zae
theorem zBF:zad zwL=[]:=by kernel_rfl
theorem zKC:zav Tryz.prog FX 121 zyQ:=zah (E:=zOl) (code:=zwL) mix zaf zGc Tryz.func121 (by kernel_rfl) zIi (by kernel_rfl) (fun y=>y.1) zyQ.out (fun _=>rfl) zyQ.run (fun x=>by kernel_rfl) (by kernel_rfl) (zac zBF (trivial))
def zIh:Sig:=⟨[(true,[.d (.bool),.d (.sl .int),.d (.sl .int)])],[],false,[(false,[.d (.bool)])],[]⟩
def zG3:Con:=⟨zIh,Bool,fun x=>zgl (⟨x.1,x.2.1,x.2.2.1⟩:Rt),fun r=>(r,())⟩
def zwK:Code:=Tryz.f78.body.getD .skip
def zOj:Env:=⟨zbq,[(119,zDY),(120,zDZ),(122,zyR),(121,zyQ)],[],[]⟩
theorem zGb:zaj Tryz.prog FX zOj.cons:=zab zNa (zaa Tryz.func119 (by kernel_rfl)) rfl (zab zNb (zaa Tryz.func120 (by kernel_rfl)) rfl (zab zKD (zaa Tryz.func122 (by kernel_rfl)) rfl (zab zKC (zaa Tryz.func121 (by kernel_rfl)) rfl (zae))))
theorem zBE:zad zwK=[]:=by kernel_rfl
theorem zPy:zav Tryz.prog FX 78 zG3:=zah (E:=zOj) (code:=zwK) mix zaf zGb Tryz.func78 (by kernel_rfl) zIh (by kernel_rfl) (fun y=>y.1) zG3.out (fun _=>rfl) zG3.run (fun x=>by kernel_rfl) (by kernel_rfl) (zac zBE (trivial))
def zIg:Sig:=⟨[(true,[.d (.int .i64),.d (.int .i64),.d (.sl .rat)])],[],false,[(false,[.d (.bool)])],[]⟩
def zG2:Con:=⟨zIg,Bool,fun x=>zeL (⟨x.1,x.2.1,x.2.2.1⟩:Mx),fun r=>(r,())⟩
def zpt:Code:=Tryz.f38.body.getD .skip
def ziO:Code:=(zad zpt).getD 0 .skip
def zk1:LoopD:=⟨⟨zai [(27,false,[.d (.sl .rat)]),(28,false,[.d (.int .i64)]),(29,false,[.d (.int .i64)])] 37 0,[]⟩,[],[(.ret,⟨zai [(2,false,[.d (.bool)])] 37 0,[]⟩,[]),(.exit 0,⟨zai [] 37 0,[]⟩,[])]⟩
def zsd (x:Tys zk1.head.ks):Option (zc1 zk1.outs):=@whileO ((List Rt) × Int × Int × Unit) ((Bool × Unit) ⊕ (Unit)) zbu x
def zMd:Env:=⟨zbq,[(77,zG5),(78,zG3)],[(4,za5 zk1 zsd)],[]⟩
theorem zv1:zaj Tryz.prog FX zMd.cons:=zab zPA (zaa Tryz.func77 (by kernel_rfl)) rfl (zab zPy (zaa Tryz.func78 (by kernel_rfl)) rfl (zae))
theorem zy8 (x:Tys zk1.head.ks):stepL zMd zk1 ziO x=zbu x:=by kernel_rfl
theorem ztx:zad ziO=[]:=by kernel_rfl
theorem zKW:zaz Tryz.prog FX (za5 zk1 zsd) ziO:=zam mix zaf zv1 (by kernel_rfl) (zac ztx (trivial)) zy8 fun _ _ h=>h
theorem zBD:zad zpt=[ziO]:=by kernel_rfl
theorem zPx:zav Tryz.prog FX 38 zG2:=zah (E:=zMd) (code:=zpt) mix zaf zv1 Tryz.func38 (by kernel_rfl) zIg (by kernel_rfl) (fun y=>y.1) zG2.out (fun _=>rfl) zG2.run (fun x=>by kernel_rfl) (by kernel_rfl) (zac zBD (⟨⟨_,by kernel_rfl,zKW⟩,trivial⟩))
def zIf:Sig:=⟨[(true,[.d (.int .i64),.d (.int .i64),.d (.sl .rat)]),(false,[.d (.int .i64)]),(false,[.d (.int .i64)])],[],false,[(true,[.d (.bool),.d (.sl .int),.d (.sl .int)])],[]⟩
def zDV:Con:=⟨zIf,Rt,fun x=>zbp (⟨x.1,x.2.1,x.2.2.1⟩:Mx) x.2.2.2.1 x.2.2.2.2.1,fun r=>(r.neg,r.mag,r.den,())⟩
def zwJ:Code:=Tryz.f45.body.getD .skip
def zOi:Env:=⟨zbq,[],[],[]⟩
theorem zGa:zaj Tryz.prog FX zOi.cons:=zae
theorem zBC:zad zwJ=[]:=by kernel_rfl
theorem zM7:zav Tryz.prog FX 45 zDV:=zah (E:=zOi) (code:=zwJ) mix zaf zGa Tryz.func45 (by kernel_rfl) zIf (by kernel_rfl) (fun y=>(⟨y.1,y.2.1,y.2.2.1⟩:Rt)) zDV.out (fun _=>rfl) zDV.run (fun x=>by kernel_rfl) (by kernel_rfl) (zac zBC (trivial))
def zIe:Sig:=⟨[(true,[.d (.bool),.d (.sl .int),.d (.sl .int)])],[],false,[(true,[.d (.bool),.own 0,.own 1])],[(0,.arr false .int),(1,.arr false .int)]⟩
def zyP:Con:=⟨zIe,Rt,fun x=>zbd (⟨x.1,x.2.1,x.2.2.1⟩:Rt),fun r=>(r.neg,r.mag,r.den,())⟩
def zwI:Code:=Tryz.f44.body.getD .skip
def zOh:Env:=⟨zbq,[(93,znK)],[],[(1,[(0,[]),(1,[]),(2,[]),(3,[]),(4,[]),(5,[]),(8,[]),(9,[]),(6,[5,4,3]),(7,[]),(10,[9,6,8,5,4,3]),(11,[]),(12,[11,10,0,1,2,3,4,5,6,7,8,9])])]⟩
theorem zF9:zaj Tryz.prog FX zOh.cons:=zab ztp (zaa Tryz.func93 (by kernel_rfl)) rfl (zae)
theorem zBB:zad zwI=[]:=by kernel_rfl
theorem zKB:zav Tryz.prog FX 44 zyP:=zah (E:=zOh) (code:=zwI) mix zaf zF9 Tryz.func44 (by kernel_rfl) zIe (by kernel_rfl) (fun y=>(⟨y.1,y.2.1,y.2.2.1⟩:Rt)) zyP.out (fun _=>rfl) zyP.run (fun x=>by kernel_rfl) (by kernel_rfl) (zac zBB (trivial))
def zId:Sig:=⟨[(false,[.d (.int .i64)]),(false,[.d (.int .i64)]),(false,[.sp [.int .i64,.int .i64,.sl .rat]])],[],false,[(true,[.d (.bool),.own 0,.own 1])],[(0,.arr false .int),(1,.arr false .int)]⟩
def zG1:Con:=⟨zId,Rt,fun x=>zfo x.1 x.2.1 (⟨x.2.2.1,x.2.2.2.1,x.2.2.2.2.1⟩:Mx),fun r=>(r.neg,r.mag,r.den,())⟩
def zwH:Code:=Tryz.f127.body.getD .skip
def zOg:Env:=⟨zbq,[(45,zDV),(44,zyP)],[],[]⟩
theorem zF8:zaj Tryz.prog FX zOg.cons:=zab zM7 (zaa Tryz.func45 (by kernel_rfl)) rfl (zab zKB (zaa Tryz.func44 (by kernel_rfl)) rfl (zae))
theorem zBA:zad zwH=[]:=by kernel_rfl
theorem zPw:zav Tryz.prog FX 127 zG1:=zah (E:=zOg) (code:=zwH) mix zaf zF8 Tryz.func127 (by kernel_rfl) zId (by kernel_rfl) (fun y=>(⟨y.1,y.2.1,y.2.2.1⟩:Rt)) zG1.out (fun _=>rfl) zG1.run (fun x=>by kernel_rfl) (by kernel_rfl) (zac zBA (trivial))
def zIc:Sig:=⟨[(false,[.d (.int .i64)]),(false,[.d (.int .i64)]),(false,[.fn 127 [[.int .i64,.int .i64,.sl .rat]]])],[],false,[(true,[.d (.int .i64),.d (.int .i64),.dp 0])],[(0,.deep .rat)]⟩
def zG0:Con:=⟨zIc,Mx,fun x=>zbU x.1 x.2.1 (⟨x.2.2.1,x.2.2.2.1,x.2.2.2.2.1⟩:Mx),fun r=>(r.rows,r.cols,r.cells,())⟩
def zps:Code:=Tryz.f91.body.getD .skip
def zgN:Code:=(zad zps).getD 0 .skip
def ziN:Code:=(zad zgN).getD 0 .skip
def zk0:LoopD:=⟨⟨zai [(1,false,[.d (.int .i64)]),(2,false,[.fn 127 [[.int .i64,.int .i64,.sl .rat]]]),(6,false,[.lp 384 0]),(7,false,[.lp 448 0]),(13,false,[.d (.int .i64)]),(14,false,[.d (.int .i64)])] 33 0,[(384,.box [.d (.int .i64),.d (.int .i64),.d (.sl .rat)]),(448,.box [.d (.int .i64),.d (.int .i64),.dp 2176]),(2176,.deep .rat)]⟩,[(.boxD 448 2,2176,.rat)],[(.exit 0,⟨zai [(6,false,[.lp 384 0]),(7,false,[.lp 448 0])] 33 0,[(384,.box [.d (.int .i64),.d (.int .i64),.d (.sl .rat)]),(448,.box [.d (.int .i64),.d (.int .i64),.dp 2176]),(2176,.deep .rat)]⟩,[(.boxD 448 2,2176,.rat)])]⟩
def zkZ:LoopD:=⟨⟨zai [(1,false,[.d (.int .i64)]),(2,false,[.fn 127 [[.int .i64,.int .i64,.sl .rat]]]),(6,false,[.lp 384 0]),(7,false,[.lp 448 0]),(8,false,[.d (.int .i64)]),(13,false,[.d (.int .i64)]),(14,false,[.d (.int .i64)]),(17,false,[.d (.int .i64)]),(18,false,[.d (.int .i64)])] 33 0,[(384,.box [.d (.int .i64),.d (.int .i64),.d (.sl .rat)]),(448,.box [.d (.int .i64),.d (.int .i64),.dp 2176]),(2176,.deep .rat)]⟩,[(.boxD 448 2,2176,.rat)],[(.exit 2,⟨zai [(1,false,[.d (.int .i64)]),(2,false,[.fn 127 [[.int .i64,.int .i64,.sl .rat]]]),(6,false,[.lp 384 0]),(7,false,[.lp 448 0]),(13,false,[.d (.int .i64)]),(14,false,[.d (.int .i64)])] 33 0,[(384,.box [.d (.int .i64),.d (.int .i64),.d (.sl .rat)]),(448,.box [.d (.int .i64),.d (.int .i64),.dp 2176]),(2176,.deep .rat)]⟩,[(.boxD 448 2,2176,.rat)])]⟩
def zsc (x:Tys zk0.head.ks):Option (zc1 zk0.outs):=@whileO (Int × Int × Int × (List Rt) × Int × Int × Int × Int × (List Rt) × Int × Int × (List Rt) × Unit) (Int × Int × (List Rt) × Int × Int × (List Rt) × Unit) zaF x
def zsb (x:Tys zkZ.head.ks):Option (zc1 zkZ.outs):=@whileO (Int × Int × Int × (List Rt) × Int × Int × Int × Int × Int × Int × Int × (List Rt) × Int × Int × (List Rt) × Unit) (Int × Int × Int × (List Rt) × Int × Int × Int × Int × (List Rt) × Int × Int × (List Rt) × Unit) zaE x
def zHM:Env:=⟨zbq,[(127,zG1)],[(3,za5 zk0 zsc),(6,za5 zkZ zsb)],[(8,[(0,[]),(1,[]),(2,[]),(3,[]),(4,[]),(5,[2,3,4]),(6,[5,2,3,4]),(7,[1,6,5,0,2,3,4]),(8,[]),(9,[8,7,0,1,2,3,4,5,6])])]⟩
theorem zpi:zaj Tryz.prog FX zHM.cons:=zab zPw (zaa Tryz.func127 (by kernel_rfl)) rfl (zae)
theorem zy6 (x:Tys zkZ.head.ks):stepL zHM zkZ ziN x=zaE x:=by kernel_rfl
theorem ztv:zad ziN=[]:=by kernel_rfl
theorem zKU:zaz Tryz.prog FX (za5 zkZ zsb) ziN:=zam mix zaf zpi (by kernel_rfl) (zac ztv (trivial)) zy6 fun _ _ h=>h
theorem zy7 (x:Tys zk0.head.ks):stepL zHM zk0 zgN x=zaF x:=by kernel_rfl
theorem ztw:zad zgN=[ziN]:=by kernel_rfl
theorem zKV:zaz Tryz.prog FX (za5 zk0 zsc) zgN:=zam mix zaf zpi (by kernel_rfl) (zac ztw (⟨⟨_,by kernel_rfl,zKU⟩,trivial⟩)) zy7 fun _ _ h=>h
theorem zBz:zad zps=[zgN]:=by kernel_rfl
theorem zPv:zav Tryz.prog FX 91 zG0:=zah (E:=zHM) (code:=zps) mix zaf zpi Tryz.func91 (by kernel_rfl) zIc (by kernel_rfl) (fun y=>(⟨y.1,y.2.1,y.2.2.1⟩:Mx)) zG0.out (fun _=>rfl) zG0.run (fun x=>by kernel_rfl) (by kernel_rfl) (zac zBz (⟨⟨_,by kernel_rfl,zKV⟩,trivial⟩))
def zIb:Sig:=⟨[(true,[.d (.int .i64),.d (.int .i64),.d (.sl .rat)])],[],false,[(true,[.d (.int .i64),.d (.int .i64),.dp 0])],[(0,.deep .rat)]⟩
def zGZ:Con:=⟨zIb,Mx,fun x=>zeF (⟨x.1,x.2.1,x.2.2.1⟩:Mx),fun r=>(r.rows,r.cols,r.cells,())⟩
def zwG:Code:=Tryz.f90.body.getD .skip
def zOf:Env:=⟨zbq,[(91,zG0)],[],[]⟩
theorem zF7:zaj Tryz.prog FX zOf.cons:=zab zPv (zaa Tryz.func91 (by kernel_rfl)) rfl (zae)
theorem zBy:zad zwG=[]:=by kernel_rfl
theorem zPu:zav Tryz.prog FX 90 zGZ:=zah (E:=zOf) (code:=zwG) mix zaf zF7 Tryz.func90 (by kernel_rfl) zIb (by kernel_rfl) (fun y=>(⟨y.1,y.2.1,y.2.2.1⟩:Mx)) zGZ.out (fun _=>rfl) zGZ.run (fun x=>by kernel_rfl) (by kernel_rfl) (zac zBy (trivial))
def zIa:Sig:=⟨[(false,[.d (.sl .int)]),(false,[.d (.sl .int)])],[],false,[(false,[.d (.bool)])],[]⟩
def zDU:Con:=⟨zIa,Bool,fun x=>zcY x.1 x.2.1,fun r=>(r,())⟩
def zpr:Code:=Tryz.f128.body.getD .skip
def ziM:Code:=(zad zpr).getD 0 .skip
def zkY:LoopD:=⟨⟨zai [(0,false,[.d (.sl .int)]),(1,false,[.d (.sl .int)]),(12,false,[.d (.int .i64)]),(13,false,[.d (.int .i64)])] 26 0,[]⟩,[],[(.ret,⟨zai [(4,false,[.d (.bool)])] 26 0,[]⟩,[]),(.exit 0,⟨zai [] 26 0,[]⟩,[])]⟩
def zsa (x:Tys zkY.head.ks):Option (zc1 zkY.outs):=@whileO ((List Int) × (List Int) × Int × Int × Unit) ((Bool × Unit) ⊕ (Unit)) zb3 x
def zMc:Env:=⟨zbq,[],[(4,za5 zkY zsa)],[(6,[(0,[]),(1,[]),(2,[]),(3,[]),(4,[]),(5,[]),(6,[]),(7,[]),(8,[])])]⟩
theorem zv0:zaj Tryz.prog FX zMc.cons:=zae
theorem zy5 (x:Tys zkY.head.ks):stepL zMc zkY ziM x=zb3 x:=by kernel_rfl
theorem ztu:zad ziM=[]:=by kernel_rfl
theorem zKT:zaz Tryz.prog FX (za5 zkY zsa) ziM:=zam mix zaf zv0 (by kernel_rfl) (zac ztu (trivial)) zy5 fun _ _ h=>h
theorem zBx:zad zpr=[ziM]:=by kernel_rfl
theorem zM6:zav Tryz.prog FX 128 zDU:=zah (E:=zMc) (code:=zpr) mix zaf zv0 Tryz.func128 (by kernel_rfl) zIa (by kernel_rfl) (fun y=>y.1) zDU.out (fun _=>rfl) zDU.run (fun x=>by kernel_rfl) (by kernel_rfl) (zac zBx (⟨⟨_,by kernel_rfl,zKT⟩,trivial⟩))
def zH9:Sig:=⟨[(true,[.d (.bool),.d (.sl .int),.d (.sl .int)]),(true,[.d (.bool),.d (.sl .int),.d (.sl .int)])],[],false,[(false,[.d (.bool)])],[]⟩
def zGY:Con:=⟨zH9,Bool,fun x=>zeK (⟨x.1,x.2.1,x.2.2.1⟩:Rt) (⟨x.2.2.2.1,x.2.2.2.2.1,x.2.2.2.2.2.1⟩:Rt),fun r=>(r,())⟩
def zwF:Code:=Tryz.f142.body.getD .skip
def zOe:Env:=⟨zbq,[(128,zDU)],[],[]⟩
theorem zF6:zaj Tryz.prog FX zOe.cons:=zab zM6 (zaa Tryz.func128 (by kernel_rfl)) rfl (zae)
theorem zBw:zad zwF=[]:=by kernel_rfl
theorem zPt:zav Tryz.prog FX 142 zGY:=zah (E:=zOe) (code:=zwF) mix zaf zF6 Tryz.func142 (by kernel_rfl) zH9 (by kernel_rfl) (fun y=>y.1) zGY.out (fun _=>rfl) zGY.run (fun x=>by kernel_rfl) (by kernel_rfl) (zac zBw (trivial))
def zH8:Sig:=⟨[(false,[.d (.sl .rat)]),(false,[.d (.sl .rat)])],[],false,[(false,[.d (.bool)])],[]⟩
def zGX:Con:=⟨zH8,Bool,fun x=>zde x.1 x.2.1,fun r=>(r,())⟩
def zpq:Code:=Tryz.f126.body.getD .skip
def ziL:Code:=(zad zpq).getD 0 .skip
def zkX:LoopD:=⟨⟨zai [(0,false,[.d (.sl .rat)]),(1,false,[.d (.sl .rat)]),(12,false,[.d (.int .i64)]),(13,false,[.d (.int .i64)])] 27 0,[]⟩,[],[(.ret,⟨zai [(4,false,[.d (.bool)])] 27 0,[]⟩,[]),(.exit 0,⟨zai [] 27 0,[]⟩,[])]⟩
def zr9 (x:Tys zkX.head.ks):Option (zc1 zkX.outs):=@whileO ((List Rt) × (List Rt) × Int × Int × Unit) ((Bool × Unit) ⊕ (Unit)) zbc x
def zMb:Env:=⟨zbq,[(142,zGY)],[(4,za5 zkX zr9)],[(6,[(0,[]),(1,[]),(2,[]),(3,[]),(4,[]),(5,[]),(6,[]),(7,[]),(8,[3,7,2,6,0,1,4,5]),(9,[])])]⟩
theorem zvZ:zaj Tryz.prog FX zMb.cons:=zab zPt (zaa Tryz.func142 (by kernel_rfl)) rfl (zae)
theorem zy4 (x:Tys zkX.head.ks):stepL zMb zkX ziL x=zbc x:=by kernel_rfl
theorem ztt:zad ziL=[]:=by kernel_rfl
theorem zKS:zaz Tryz.prog FX (za5 zkX zr9) ziL:=zam mix zaf zvZ (by kernel_rfl) (zac ztt (trivial)) zy4 fun _ _ h=>h
theorem zBv:zad zpq=[ziL]:=by kernel_rfl
theorem zPs:zav Tryz.prog FX 126 zGX:=zah (E:=zMb) (code:=zpq) mix zaf zvZ Tryz.func126 (by kernel_rfl) zH8 (by kernel_rfl) (fun y=>y.1) zGX.out (fun _=>rfl) zGX.run (fun x=>by kernel_rfl) (by kernel_rfl) (zac zBv (⟨⟨_,by kernel_rfl,zKS⟩,trivial⟩))
def zH7:Sig:=⟨[(true,[.d (.int .i64),.d (.int .i64),.d (.sl .rat)]),(true,[.d (.int .i64),.d (.int .i64),.d (.sl .rat)])],[],false,[(false,[.d (.bool)])],[]⟩
def zGW:Con:=⟨zH7,Bool,fun x=>zcH (⟨x.1,x.2.1,x.2.2.1⟩:Mx) (⟨x.2.2.2.1,x.2.2.2.2.1,x.2.2.2.2.2.1⟩:Mx),fun r=>(r,())⟩
def zwE:Code:=Tryz.f89.body.getD .skip
def zOd:Env:=⟨zbq,[(126,zGX)],[],[]⟩
theorem zF5:zaj Tryz.prog FX zOd.cons:=zab zPs (zaa Tryz.func126 (by kernel_rfl)) rfl (zae)
theorem zBu:zad zwE=[]:=by kernel_rfl
theorem zPr:zav Tryz.prog FX 89 zGW:=zah (E:=zOd) (code:=zwE) mix zaf zF5 Tryz.func89 (by kernel_rfl) zH7 (by kernel_rfl) (fun y=>y.1) zGW.out (fun _=>rfl) zGW.run (fun x=>by kernel_rfl) (by kernel_rfl) (zac zBu (trivial))
def zH6:Sig:=⟨[(true,[.d (.int .i64),.d (.int .i64),.d (.sl .rat)])],[],false,[(false,[.d (.bool)])],[]⟩
def zGV:Con:=⟨zH6,Bool,fun x=>zaT (⟨x.1,x.2.1,x.2.2.1⟩:Mx),fun r=>(r,())⟩
def zwD:Code:=Tryz.f42.body.getD .skip
def zOc:Env:=⟨zbq,[(38,zG2),(90,zGZ),(89,zGW)],[],[(1,[(0,[]),(1,[0]),(2,[]),(3,[]),(4,[]),(5,[4,2,1,0]),(6,[3,5,2,4,1,0]),(7,[]),(8,[7,6,0,1,2,3,4,5])])]⟩
theorem zF4:zaj Tryz.prog FX zOc.cons:=zab zPx (zaa Tryz.func38 (by kernel_rfl)) rfl (zab zPu (zaa Tryz.func90 (by kernel_rfl)) rfl (zab zPr (zaa Tryz.func89 (by kernel_rfl)) rfl (zae)))
theorem zBt:zad zwD=[]:=by kernel_rfl
theorem zPq:zav Tryz.prog FX 42 zGV:=zah (E:=zOc) (code:=zwD) mix zaf zF4 Tryz.func42 (by kernel_rfl) zH6 (by kernel_rfl) (fun y=>y.1) zGV.out (fun _=>rfl) zGV.run (fun x=>by kernel_rfl) (by kernel_rfl) (zac zBt (trivial))
def zH5:Sig:=⟨[(false,[.d (.bool)]),(false,[.own 64])],[(64,.arr false .int)],false,[(true,[.d (.bool),.own 0])],[(0,.arr false .int)]⟩
def zpX:Con:=⟨zH5,Bg,fun x=>zaL x.1 x.2.1,fun r=>(r.neg,r.mag,())⟩
def zwC:Code:=Tryz.f131.body.getD .skip
def zOb:Env:=⟨zbq,[],[],[]⟩
theorem zF3:zaj Tryz.prog FX zOb.cons:=zae
theorem zBs:zad zwC=[]:=by kernel_rfl
theorem zx8:zav Tryz.prog FX 131 zpX:=zah (E:=zOb) (code:=zwC) mix zaf zF3 Tryz.func131 (by kernel_rfl) zH5 (by kernel_rfl) (fun y=>(⟨y.1,y.2.1⟩:Bg)) zpX.out (fun _=>rfl) zpX.run (fun x=>by kernel_rfl) (by kernel_rfl) (zac zBs (trivial))
def zH4:Sig:=⟨[(false,[.d (.sl .int)]),(false,[.d (.sl .int)])],[],false,[(false,[.own 0])],[(0,.arr false .int)]⟩
def zDT:Con:=⟨zH4,List Int,fun x=>zeI x.1 x.2.1,fun r=>(r,())⟩
def zpp:Code:=Tryz.f143.body.getD .skip
def ziK:Code:=(zad zpp).getD 0 .skip
def zkW:LoopD:=⟨⟨zai [(0,false,[.d (.sl .int)]),(1,false,[.d (.sl .int)]),(5,false,[.own 3648]),(6,false,[.d (.int .i64)]),(21,false,[.d (.int .i64)]),(22,false,[.d (.int .i64)])] 56 0,[(3648,.arr false .int)]⟩,[],[(.exit 0,⟨zai [(5,false,[.own 3648]),(6,false,[.d (.int .i64)])] 56 0,[(3648,.arr false .int)]⟩,[])]⟩
def zr8 (x:Tys zkW.head.ks):Option (zc1 zkW.outs):=@whileO ((List Int) × (List Int) × Int × Int × Int × (List Int) × Unit) (Int × (List Int) × Unit) zbG x
def zMa:Env:=⟨zbq,[],[(6,za5 zkW zr8)],[]⟩
theorem zvY:zaj Tryz.prog FX zMa.cons:=zae
theorem zy3 (x:Tys zkW.head.ks):stepL zMa zkW ziK x=zbG x:=by kernel_rfl
theorem zts:zad ziK=[]:=by kernel_rfl
theorem zKR:zaz Tryz.prog FX (za5 zkW zr8) ziK:=zam mix zaf zvY (by kernel_rfl) (zac zts (trivial)) zy3 fun _ _ h=>h
theorem zBr:zad zpp=[ziK]:=by kernel_rfl
theorem zM5:zav Tryz.prog FX 143 zDT:=zah (E:=zMa) (code:=zpp) mix zaf zvY Tryz.func143 (by kernel_rfl) zH4 (by kernel_rfl) (fun y=>y.1) zDT.out (fun _=>rfl) zDT.run (fun x=>by kernel_rfl) (by kernel_rfl) (zac zBr (⟨⟨_,by kernel_rfl,zKR⟩,trivial⟩))
def zH3:Sig:=⟨[(false,[.d (.int .i64)])],[],false,[(true,[.d (.bool),.own 0])],[(0,.arr false .int)]⟩
def zGU:Con:=⟨zH3,Bg,fun x=>zdF x.1,fun r=>(r.neg,r.mag,())⟩
def zwB:Code:=Tryz.f148.body.getD .skip
def zOa:Env:=⟨zbq,[(155,zDW),(131,zpX),(143,zDT)],[],[]⟩
theorem zF2:zaj Tryz.prog FX zOa.cons:=zab zM8 (zaa Tryz.func155 (by kernel_rfl)) rfl (zab zx8 (zaa Tryz.func131 (by kernel_rfl)) rfl (zab zM5 (zaa Tryz.func143 (by kernel_rfl)) rfl (zae)))
theorem zBq:zad zwB=[]:=by kernel_rfl
theorem zPp:zav Tryz.prog FX 148 zGU:=zah (E:=zOa) (code:=zwB) mix zaf zF2 Tryz.func148 (by kernel_rfl) zH3 (by kernel_rfl) (fun y=>(⟨y.1,y.2.1⟩:Bg)) zGU.out (fun _=>rfl) zGU.run (fun x=>by kernel_rfl) (by kernel_rfl) (zac zBq (trivial))
def zH2:Sig:=⟨[(false,[.d (.bool)]),(false,[.d (.sl .int)])],[],false,[(true,[.d (.bool),.d (.sl .int)])],[]⟩
def zGT:Con:=⟨zH2,Bg,fun x=>zfC x.1 x.2.1,fun r=>(r.neg,r.mag,())⟩
def zwA:Code:=Tryz.f131.body.getD .skip
def zN9:Env:=⟨zbq,[],[],[]⟩
theorem zF1:zaj Tryz.prog FX zN9.cons:=zae
theorem zBp:zad zwA=[]:=by kernel_rfl
theorem zPo:zav Tryz.prog FX 131 zGT:=zah (E:=zN9) (code:=zwA) mix zaf zF1 Tryz.func131 (by kernel_rfl) zH2 (by kernel_rfl) (fun y=>(⟨y.1,y.2.1⟩:Bg)) zGT.out (fun _=>rfl) zGT.run (fun x=>by kernel_rfl) (by kernel_rfl) (zac zBp (trivial))
def zH1:Sig:=⟨[(true,[.d (.bool),.d (.sl .int)]),(false,[.d (.sl .int)])],[],false,[(true,[.d (.bool),.d (.sl .int),.d (.sl .int)])],[]⟩
def zGS:Con:=⟨zH1,Rt,fun x=>zfD (⟨x.1,x.2.1⟩:Bg) x.2.2.1,fun r=>(r.neg,r.mag,r.den,())⟩
def zwz:Code:=Tryz.f95.body.getD .skip
def zN8:Env:=⟨zbq,[(122,zyR),(121,zyQ),(130,zyS),(131,zpX)],[],[]⟩
theorem zF0:zaj Tryz.prog FX zN8.cons:=zab zKD (zaa Tryz.func122 (by kernel_rfl)) rfl (zab zKC (zaa Tryz.func121 (by kernel_rfl)) rfl (zab zKE (zaa Tryz.func130 (by kernel_rfl)) rfl (zab zx8 (zaa Tryz.func131 (by kernel_rfl)) rfl (zae))))
theorem zBo:zad zwz=[]:=by kernel_rfl
theorem zPn:zav Tryz.prog FX 95 zGS:=zah (E:=zN8) (code:=zwz) mix zaf zF0 Tryz.func95 (by kernel_rfl) zH1 (by kernel_rfl) (fun y=>(⟨y.1,y.2.1,y.2.2.1⟩:Rt)) zGS.out (fun _=>rfl) zGS.run (fun x=>by kernel_rfl) (by kernel_rfl) (zac zBo (trivial))
def zH0:Sig:=⟨[(true,[.d (.bool),.d (.sl .int)]),(true,[.d (.bool),.d (.sl .int)])],[],false,[(true,[.d (.bool),.own 0,.own 1])],[(0,.arr false .int),(1,.arr false .int)]⟩
def zGR:Con:=⟨zH0,Rt,fun x=>ze7 (⟨x.1,x.2.1⟩:Bg) (⟨x.2.2.1,x.2.2.2.1⟩:Bg),fun r=>(r.neg,r.mag,r.den,())⟩
def zwy:Code:=Tryz.f147.body.getD .skip
def zN7:Env:=⟨zbq,[(119,zDY),(131,zGT),(95,zGS),(44,zyP)],[],[(3,[(0,[]),(1,[]),(2,[]),(3,[]),(4,[]),(5,[]),(6,[]),(8,[]),(9,[]),(7,[4,6,1,3,5,0,2]),(10,[7,9,4,6,8,1,3,5,0,2]),(11,[10,7,9,4,6,8,1,3,5,0,2]),(12,[11,0,1,2,3,4,5,6,7,8,9,10])])]⟩
theorem zFZ:zaj Tryz.prog FX zN7.cons:=zab zNa (zaa Tryz.func119 (by kernel_rfl)) rfl (zab zPo (zaa Tryz.func131 (by kernel_rfl)) rfl (zab zPn (zaa Tryz.func95 (by kernel_rfl)) rfl (zab zKB (zaa Tryz.func44 (by kernel_rfl)) rfl (zae))))
theorem zBn:zad zwy=[]:=by kernel_rfl
theorem zPm:zav Tryz.prog FX 147 zGR:=zah (E:=zN7) (code:=zwy) mix zaf zFZ Tryz.func147 (by kernel_rfl) zH0 (by kernel_rfl) (fun y=>(⟨y.1,y.2.1,y.2.2.1⟩:Rt)) zGR.out (fun _=>rfl) zGR.run (fun x=>by kernel_rfl) (by kernel_rfl) (zac zBn (trivial))
def zHZ:Sig:=⟨[(false,[.d (.int .i64)]),(false,[.d (.int .i64)])],[],false,[(true,[.d (.bool),.own 0,.own 1])],[(0,.arr false .int),(1,.arr false .int)]⟩
def zGQ:Con:=⟨zHZ,Rt,fun x=>zgm x.1 x.2.1,fun r=>(r.neg,r.mag,r.den,())⟩
def zwx:Code:=Tryz.f135.body.getD .skip
def zN6:Env:=⟨zbq,[(148,zGU),(147,zGR)],[],[]⟩
theorem zFY:zaj Tryz.prog FX zN6.cons:=zab zPp (zaa Tryz.func148 (by kernel_rfl)) rfl (zab zPm (zaa Tryz.func147 (by kernel_rfl)) rfl (zae))
theorem zBm:zad zwx=[]:=by kernel_rfl
theorem zPl:zav Tryz.prog FX 135 zGQ:=zah (E:=zN6) (code:=zwx) mix zaf zFY Tryz.func135 (by kernel_rfl) zHZ (by kernel_rfl) (fun y=>(⟨y.1,y.2.1,y.2.2.1⟩:Rt)) zGQ.out (fun _=>rfl) zGQ.run (fun x=>by kernel_rfl) (by kernel_rfl) (zac zBm (trivial))
def zHY:Sig:=⟨[(false,[.d (.int .i64)])],[],false,[(true,[.d (.bool),.own 0,.own 1])],[(0,.arr false .int),(1,.arr false .int)]⟩
def zGP:Con:=⟨zHY,Rt,fun x=>zdU x.1,fun r=>(r.neg,r.mag,r.den,())⟩
def zww:Code:=Tryz.f111.body.getD .skip
def zN5:Env:=⟨zbq,[(135,zGQ)],[],[]⟩
theorem zFX:zaj Tryz.prog FX zN5.cons:=zab zPl (zaa Tryz.func135 (by kernel_rfl)) rfl (zae)
theorem zBl:zad zww=[]:=by kernel_rfl
theorem zPk:zav Tryz.prog FX 111 zGP:=zah (E:=zN5) (code:=zww) mix zaf zFX Tryz.func111 (by kernel_rfl) zHY (by kernel_rfl) (fun y=>(⟨y.1,y.2.1,y.2.2.1⟩:Rt)) zGP.out (fun _=>rfl) zGP.run (fun x=>by kernel_rfl) (by kernel_rfl) (zac zBl (trivial))
def zHX:Sig:=⟨[(false,[.d (.int .i64)])],[],false,[(true,[.d (.bool),.own 0,.own 1])],[(0,.arr false .int),(1,.arr false .int)]⟩
def zGO:Con:=⟨zHX,Rt,fun x=>zcy x.1,fun r=>(r.neg,r.mag,r.den,())⟩
def zwv:Code:=Tryz.f68.body.getD .skip
def zN4:Env:=⟨zbq,[(111,zGP)],[],[]⟩
theorem zFW:zaj Tryz.prog FX zN4.cons:=zab zPk (zaa Tryz.func111 (by kernel_rfl)) rfl (zae)
theorem zBk:zad zwv=[]:=by kernel_rfl
theorem zPj:zav Tryz.prog FX 68 zGO:=zah (E:=zN4) (code:=zwv) mix zaf zFW Tryz.func68 (by kernel_rfl) zHX (by kernel_rfl) (fun y=>(⟨y.1,y.2.1,y.2.2.1⟩:Rt)) zGO.out (fun _=>rfl) zGO.run (fun x=>by kernel_rfl) (by kernel_rfl) (zac zBk (trivial))
def zHW:Sig:=⟨[(false,[.d (.int .i64)]),(false,[.d (.int .i64)])],[],false,[(true,[.d (.bool),.own 0,.own 1])],[(0,.arr false .int),(1,.arr false .int)]⟩
def zGN:Con:=⟨zHW,Rt,fun x=>zjL x.1 x.2.1,fun r=>(r.neg,r.mag,r.den,())⟩
def zwu:Code:=Tryz.f92.body.getD .skip
def zN3:Env:=⟨zbq,[(68,zGO)],[],[]⟩
theorem zFV:zaj Tryz.prog FX zN3.cons:=zab zPj (zaa Tryz.func68 (by kernel_rfl)) rfl (zae)
theorem zBj:zad zwu=[]:=by kernel_rfl
theorem zPi:zav Tryz.prog FX 92 zGN:=zah (E:=zN3) (code:=zwu) mix zaf zFV Tryz.func92 (by kernel_rfl) zHW (by kernel_rfl) (fun y=>(⟨y.1,y.2.1,y.2.2.1⟩:Rt)) zGN.out (fun _=>rfl) zGN.run (fun x=>by kernel_rfl) (by kernel_rfl) (zac zBj (trivial))
def zHV:Sig:=⟨[(false,[.d (.int .i64)]),(false,[.d (.int .i64)]),(false,[.fn 92 []])],[],false,[(true,[.d (.int .i64),.d (.int .i64),.dp 0])],[(0,.deep .rat)]⟩
def zGM:Con:=⟨zHV,Mx,fun x=>zcj x.1 x.2.1,fun r=>(r.rows,r.cols,r.cells,())⟩
def zpo:Code:=Tryz.f91.body.getD .skip
def zgM:Code:=(zad zpo).getD 0 .skip
def ziJ:Code:=(zad zgM).getD 0 .skip
def zkV:LoopD:=⟨⟨zai [(1,false,[.d (.int .i64)]),(2,false,[.fn 92 []]),(6,false,[.lp 384 0]),(7,false,[.lp 448 0]),(13,false,[.d (.int .i64)]),(14,false,[.d (.int .i64)])] 33 0,[(384,.box [.d (.int .i64),.d (.int .i64),.d (.sl .rat)]),(448,.box [.d (.int .i64),.d (.int .i64),.dp 2176]),(2176,.deep .rat)]⟩,[(.boxD 448 2,2176,.rat)],[(.exit 0,⟨zai [(6,false,[.lp 384 0]),(7,false,[.lp 448 0])] 33 0,[(384,.box [.d (.int .i64),.d (.int .i64),.d (.sl .rat)]),(448,.box [.d (.int .i64),.d (.int .i64),.dp 2176]),(2176,.deep .rat)]⟩,[(.boxD 448 2,2176,.rat)])]⟩
def zkU:LoopD:=⟨⟨zai [(1,false,[.d (.int .i64)]),(2,false,[.fn 92 []]),(6,false,[.lp 384 0]),(7,false,[.lp 448 0]),(8,false,[.d (.int .i64)]),(13,false,[.d (.int .i64)]),(14,false,[.d (.int .i64)]),(17,false,[.d (.int .i64)]),(18,false,[.d (.int .i64)])] 33 0,[(384,.box [.d (.int .i64),.d (.int .i64),.d (.sl .rat)]),(448,.box [.d (.int .i64),.d (.int .i64),.dp 2176]),(2176,.deep .rat)]⟩,[(.boxD 448 2,2176,.rat)],[(.exit 2,⟨zai [(1,false,[.d (.int .i64)]),(2,false,[.fn 92 []]),(6,false,[.lp 384 0]),(7,false,[.lp 448 0]),(13,false,[.d (.int .i64)]),(14,false,[.d (.int .i64)])] 33 0,[(384,.box [.d (.int .i64),.d (.int .i64),.d (.sl .rat)]),(448,.box [.d (.int .i64),.d (.int .i64),.dp 2176]),(2176,.deep .rat)]⟩,[(.boxD 448 2,2176,.rat)])]⟩
def zr7 (x:Tys zkV.head.ks):Option (zc1 zkV.outs):=@whileO (Int × Int × Int × Int × Int × (List Rt) × Int × Int × (List Rt) × Unit) (Int × Int × (List Rt) × Int × Int × (List Rt) × Unit) zbT x
def zr6 (x:Tys zkU.head.ks):Option (zc1 zkU.outs):=@whileO (Int × Int × Int × Int × Int × Int × Int × Int × (List Rt) × Int × Int × (List Rt) × Unit) (Int × Int × Int × Int × Int × (List Rt) × Int × Int × (List Rt) × Unit) zbS x
def zHL:Env:=⟨zbq,[(92,zGN)],[(3,za5 zkV zr7),(6,za5 zkU zr6)],[(8,[(0,[]),(1,[]),(2,[]),(3,[]),(4,[]),(5,[2,3,4]),(6,[5,2,3,4]),(7,[1,6,5,0,2,3,4]),(8,[]),(9,[8,7,0,1,2,3,4,5,6])])]⟩
theorem zph:zaj Tryz.prog FX zHL.cons:=zab zPi (zaa Tryz.func92 (by kernel_rfl)) rfl (zae)
theorem zy1 (x:Tys zkU.head.ks):stepL zHL zkU ziJ x=zbS x:=by kernel_rfl
theorem ztq:zad ziJ=[]:=by kernel_rfl
theorem zKP:zaz Tryz.prog FX (za5 zkU zr6) ziJ:=zam mix zaf zph (by kernel_rfl) (zac ztq (trivial)) zy1 fun _ _ h=>h
theorem zy2 (x:Tys zkV.head.ks):stepL zHL zkV zgM x=zbT x:=by kernel_rfl
theorem ztr:zad zgM=[ziJ]:=by kernel_rfl
theorem zKQ:zaz Tryz.prog FX (za5 zkV zr7) zgM:=zam mix zaf zph (by kernel_rfl) (zac ztr (⟨⟨_,by kernel_rfl,zKP⟩,trivial⟩)) zy2 fun _ _ h=>h
theorem zBi:zad zpo=[zgM]:=by kernel_rfl
theorem zPh:zav Tryz.prog FX 91 zGM:=zah (E:=zHL) (code:=zpo) mix zaf zph Tryz.func91 (by kernel_rfl) zHV (by kernel_rfl) (fun y=>(⟨y.1,y.2.1,y.2.2.1⟩:Mx)) zGM.out (fun _=>rfl) zGM.run (fun x=>by kernel_rfl) (by kernel_rfl) (zac zBi (⟨⟨_,by kernel_rfl,zKQ⟩,trivial⟩))
def zHU:Sig:=⟨[(false,[.d (.int .i64)])],[],false,[(true,[.d (.int .i64),.d (.int .i64),.dp 0])],[(0,.deep .rat)]⟩
def zGL:Con:=⟨zHU,Mx,fun x=>zf6 x.1,fun r=>(r.rows,r.cols,r.cells,())⟩
def zwt:Code:=Tryz.f43.body.getD .skip
def zN2:Env:=⟨zbq,[(91,zGM)],[],[]⟩
theorem zFU:zaj Tryz.prog FX zN2.cons:=zab zPh (zaa Tryz.func91 (by kernel_rfl)) rfl (zae)
theorem zBh:zad zwt=[]:=by kernel_rfl
theorem zPg:zav Tryz.prog FX 43 zGL:=zah (E:=zN2) (code:=zwt) mix zaf zFU Tryz.func43 (by kernel_rfl) zHU (by kernel_rfl) (fun y=>(⟨y.1,y.2.1,y.2.2.1⟩:Mx)) zGL.out (fun _=>rfl) zGL.run (fun x=>by kernel_rfl) (by kernel_rfl) (zac zBh (trivial))
def zAI:Sig:=⟨[(true,[.d (.int .i64),.d (.int .i64),.d (.sl .trat)]),(false,[.d (.int .i64)]),(false,[.d (.int .i64)])],[],false,[(true,[.d (.bool),.d (.tok),.d (.tok)])],[]⟩
def zxw:Con:=⟨zAI,TRt,fun x=>zaY (⟨x.1,x.2.1,x.2.2.1⟩:MxT) x.2.2.2.1 x.2.2.2.2.1,fun r=>(r.neg,r.mag,r.den,())⟩
def zrI:Code:=Tryz.f45.body.getD .skip
def zJ4:Env:=⟨zP7,[],[],[]⟩
theorem zDE:zaj Tryz.prog FX zJ4.cons:=zae
theorem zyz:zad zrI=[]:=by kernel_rfl
theorem zNA:zav Tryz.prog FX 45 zxw:=zah (E:=zJ4) (code:=zrI) mix zkL zDE Tryz.func45 (by kernel_rfl) zAI (by kernel_rfl) (fun y=>(⟨y.1,y.2.1,y.2.2.1⟩:TRt)) zxw.out (fun _=>rfl) zxw.run (fun x=>by kernel_rfl) (by kernel_rfl) (zac zyz (trivial))
def zHT:Sig:=⟨[(true,[.d (.bool),.d (.sl .int),.d (.sl .int)])],[],false,[(false,[.d (.bool)])],[]⟩
def zrO:Con:=⟨zHT,Bool,fun x=>zaW (⟨x.1,x.2.1,x.2.2.1⟩:Rt),fun r=>(r,())⟩
def zwr:Code:=Tryz.f48.body.getD .skip
def zN1:Env:=⟨zbq,[],[],[]⟩
theorem zFT:zaj Tryz.prog FX zN1.cons:=zae
theorem zBg:zad zwr=[]:=by kernel_rfl
theorem zBb:zav Tryz.prog FX 48 zrO:=zah (E:=zN1) (code:=zwr) mix zaf zFT Tryz.func48 (by kernel_rfl) zHT (by kernel_rfl) (fun y=>y.1) zrO.out (fun _=>rfl) zrO.run (fun x=>by kernel_rfl) (by kernel_rfl) (zac zBg (trivial))
def zAH:Sig:=⟨[(true,[.d (.bool),.d (.sl .int)]),(true,[.d (.bool),.d (.sl .int)])],[],false,[(true,[.d (.bool),.own 0])],[(0,.arr false .int)]⟩
def zrX:Con:=⟨zAH,Bg,fun x=>zbB (⟨x.1,x.2.1⟩:Bg) (⟨x.2.2.1,x.2.2.2.1⟩:Bg),fun r=>(r.neg,r.mag,())⟩
def zrH:Code:=Tryz.f96.body.getD .skip
def zJ3:Env:=⟨zbq,[(97,zuI),(131,zpX)],[],[(1,[(0,[]),(1,[]),(2,[]),(3,[]),(4,[]),(5,[]),(6,[]),(7,[]),(8,[]),(9,[6,8,5,7]),(10,[4,9,1,3,6,8,0,2,5,7]),(11,[10,0,1,2,3,4,5,6,7,8,9])])]⟩
theorem zDD:zaj Tryz.prog FX zJ3.cons:=zab zE7 (zaa Tryz.func97 (by kernel_rfl)) rfl (zab zx8 (zaa Tryz.func131 (by kernel_rfl)) rfl (zae))
theorem zyy:zad zrH=[]:=by kernel_rfl
theorem zJA:zav Tryz.prog FX 96 zrX:=zah (E:=zJ3) (code:=zrH) mix zaf zDD Tryz.func96 (by kernel_rfl) zAH (by kernel_rfl) (fun y=>(⟨y.1,y.2.1⟩:Bg)) zrX.out (fun _=>rfl) zrX.run (fun x=>by kernel_rfl) (by kernel_rfl) (zac zyy (trivial))
def zAG:Sig:=⟨[(true,[.d (.bool),.own 1]),(false,[.own 64])],[(1,.arr false .int),(64,.arr false .int)],false,[(true,[.d (.bool),.own 0,.own 1])],[(0,.arr false .int),(1,.arr false .int)]⟩
def zrW:Con:=⟨zAG,Rt,fun x=>zbM (⟨x.1,x.2.1⟩:Bg) x.2.2.1,fun r=>(r.neg,r.mag,r.den,())⟩
def zrG:Code:=Tryz.f95.body.getD .skip
def zJ2:Env:=⟨zbq,[(122,zyR),(121,zyQ),(130,zyS),(131,zpX)],[],[]⟩
theorem zDC:zaj Tryz.prog FX zJ2.cons:=zab zKD (zaa Tryz.func122 (by kernel_rfl)) rfl (zab zKC (zaa Tryz.func121 (by kernel_rfl)) rfl (zab zKE (zaa Tryz.func130 (by kernel_rfl)) rfl (zab zx8 (zaa Tryz.func131 (by kernel_rfl)) rfl (zae))))
theorem zyx:zad zrG=[]:=by kernel_rfl
theorem zJz:zav Tryz.prog FX 95 zrW:=zah (E:=zJ2) (code:=zrG) mix zaf zDC Tryz.func95 (by kernel_rfl) zAG (by kernel_rfl) (fun y=>(⟨y.1,y.2.1,y.2.2.1⟩:Rt)) zrW.out (fun _=>rfl) zrW.run (fun x=>by kernel_rfl) (by kernel_rfl) (zac zyx (trivial))
def zAF:Sig:=⟨[(true,[.d (.bool),.d (.sl .int),.d (.sl .int)]),(true,[.d (.bool),.d (.sl .int),.d (.sl .int)])],[],false,[(true,[.d (.bool),.own 0,.own 1])],[(0,.arr false .int),(1,.arr false .int)]⟩
def zrV:Con:=⟨zAF,Rt,fun x=>zb9 (⟨x.1,x.2.1,x.2.2.1⟩:Rt) (⟨x.2.2.2.1,x.2.2.2.2.1,x.2.2.2.2.2.1⟩:Rt),fun r=>(r.neg,r.mag,r.den,())⟩
def zrF:Code:=Tryz.f47.body.getD .skip
def zJ1:Env:=⟨zbq,[(48,zrO),(96,zrX),(97,zuI),(95,zrW)],[],[(3,[(0,[]),(1,[]),(2,[]),(3,[]),(5,[]),(6,[]),(7,[]),(8,[]),(4,[1,3,0,2]),(9,[6,8,4,5,7,1,3,0,2]),(10,[4,9,1,3,6,8,0,2,5,7]),(11,[10,0,1,2,3,4,5,6,7,8,9])])]⟩
theorem zDB:zaj Tryz.prog FX zJ1.cons:=zab zBb (zaa Tryz.func48 (by kernel_rfl)) rfl (zab zJA (zaa Tryz.func96 (by kernel_rfl)) rfl (zab zE7 (zaa Tryz.func97 (by kernel_rfl)) rfl (zab zJz (zaa Tryz.func95 (by kernel_rfl)) rfl (zae))))
theorem zyw:zad zrF=[]:=by kernel_rfl
theorem zJy:zav Tryz.prog FX 47 zrV:=zah (E:=zJ1) (code:=zrF) mix zaf zDB Tryz.func47 (by kernel_rfl) zAF (by kernel_rfl) (fun y=>(⟨y.1,y.2.1,y.2.2.1⟩:Rt)) zrV.out (fun _=>rfl) zrV.run (fun x=>by kernel_rfl) (by kernel_rfl) (zac zyw (trivial))
def zAE:Sig:=⟨[(true,[.d (.bool),.d (.sl .int)])],[],false,[(true,[.d (.bool),.own 0])],[(0,.arr false .int)]⟩
def zxv:Con:=⟨zAE,Bg,fun x=>zeJ (⟨x.1,x.2.1⟩:Bg),fun r=>(r.neg,r.mag,())⟩
def zrE:Code:=Tryz.f112.body.getD .skip
def zJ0:Env:=⟨zbq,[(93,znK),(131,zpX)],[],[(1,[(0,[]),(1,[]),(2,[]),(3,[]),(4,[]),(5,[4,3]),(6,[2,5,1,4,0,3]),(7,[6,0,1,2,3,4,5])])]⟩
theorem zDA:zaj Tryz.prog FX zJ0.cons:=zab ztp (zaa Tryz.func93 (by kernel_rfl)) rfl (zab zx8 (zaa Tryz.func131 (by kernel_rfl)) rfl (zae))
theorem zyv:zad zrE=[]:=by kernel_rfl
theorem zNz:zav Tryz.prog FX 112 zxv:=zah (E:=zJ0) (code:=zrE) mix zaf zDA Tryz.func112 (by kernel_rfl) zAE (by kernel_rfl) (fun y=>(⟨y.1,y.2.1⟩:Bg)) zxv.out (fun _=>rfl) zxv.run (fun x=>by kernel_rfl) (by kernel_rfl) (zac zyv (trivial))
def zAD:Sig:=⟨[(true,[.d (.bool),.d (.sl .int),.d (.sl .int)])],[],false,[(true,[.d (.bool),.own 0,.own 1])],[(0,.arr false .int),(1,.arr false .int)]⟩
def zxu:Con:=⟨zAD,Rt,fun x=>zjo (⟨x.1,x.2.1,x.2.2.1⟩:Rt),fun r=>(r.neg,r.mag,r.den,())⟩
def zrD:Code:=Tryz.f69.body.getD .skip
def zJZ:Env:=⟨zbq,[(48,zrO),(112,zxv),(93,znK)],[],[(3,[(0,[]),(1,[]),(3,[]),(4,[]),(2,[1,0]),(5,[4,2,3,1,0]),(6,[]),(7,[6,5,0,1,2,3,4])])]⟩
theorem zDz:zaj Tryz.prog FX zJZ.cons:=zab zBb (zaa Tryz.func48 (by kernel_rfl)) rfl (zab zNz (zaa Tryz.func112 (by kernel_rfl)) rfl (zab ztp (zaa Tryz.func93 (by kernel_rfl)) rfl (zae)))
theorem zyu:zad zrD=[]:=by kernel_rfl
theorem zNy:zav Tryz.prog FX 69 zxu:=zah (E:=zJZ) (code:=zrD) mix zaf zDz Tryz.func69 (by kernel_rfl) zAD (by kernel_rfl) (fun y=>(⟨y.1,y.2.1,y.2.2.1⟩:Rt)) zxu.out (fun _=>rfl) zxu.run (fun x=>by kernel_rfl) (by kernel_rfl) (zac zyu (trivial))
def zAC:Sig:=⟨[(false,[.d (.sl .int)]),(false,[.d (.sl .int)])],[],false,[(false,[.own 0])],[(0,.arr false .int)]⟩
def zxt:Con:=⟨zAC,List Int,fun x=>zeG x.1 x.2.1,fun r=>(r,())⟩
def znp:Code:=Tryz.f145.body.getD .skip
def zhy:Code:=(zad znp).getD 0 .skip
def zjB:LoopD:=⟨⟨zai [(1,false,[.d (.sl .int)]),(5,false,[.own 2816]),(6,false,[.d (.int .i64)]),(12,false,[.d (.int .i64)]),(13,false,[.d (.int .i64)])] 43 0,[(2816,.arr false .int)]⟩,[],[(.exit 0,⟨zai [(5,false,[.own 2816])] 43 0,[(2816,.arr false .int)]⟩,[])]⟩
def zoB (x:Tys zjB.head.ks):Option (zc1 zjB.outs):=@whileO ((List Int) × Int × Int × Int × (List Int) × Unit) ((List Int) × Unit) zbE x
def zEy:Env:=⟨zbq,[(93,znK),(132,zuJ)],[(4,za5 zjB zoB)],[]⟩
theorem zrp:zaj Tryz.prog FX zEy.cons:=zab ztp (zaa Tryz.func93 (by kernel_rfl)) rfl (zab zE8 (zaa Tryz.func132 (by kernel_rfl)) rfl (zae))
theorem zu3 (x:Tys zjB.head.ks):stepL zEy zjB zhy x=zbE x:=by kernel_rfl
theorem zqN:zad zhy=[]:=by kernel_rfl
theorem zFy:zaz Tryz.prog FX (za5 zjB zoB) zhy:=zam mix zaf zrp (by kernel_rfl) (zac zqN (trivial)) zu3 fun _ _ h=>h
theorem zyt:zad znp=[zhy]:=by kernel_rfl
theorem zNx:zav Tryz.prog FX 145 zxt:=zah (E:=zEy) (code:=znp) mix zaf zrp Tryz.func145 (by kernel_rfl) zAC (by kernel_rfl) (fun y=>y.1) zxt.out (fun _=>rfl) zxt.run (fun x=>by kernel_rfl) (by kernel_rfl) (zac zyt (⟨⟨_,by kernel_rfl,zFy⟩,trivial⟩))
def zAB:Sig:=⟨[(true,[.d (.bool),.d (.sl .int)]),(true,[.d (.bool),.d (.sl .int)])],[],false,[(true,[.d (.bool),.own 0])],[(0,.arr false .int)]⟩
def zxs:Con:=⟨zAB,Bg,fun x=>zdT (⟨x.1,x.2.1⟩:Bg) (⟨x.2.2.1,x.2.2.2.1⟩:Bg),fun r=>(r.neg,r.mag,())⟩
def zrC:Code:=Tryz.f129.body.getD .skip
def zJY:Env:=⟨zbq,[(143,zDT),(131,zpX),(144,zDX),(145,zxt)],[],[(2,[(0,[]),(1,[]),(2,[]),(3,[]),(4,[]),(5,[]),(6,[3,5,2,4]),(7,[1,6,0,3,5,2,4]),(8,[7,0,1,2,3,4,5,6])]),(4,[(0,[]),(1,[]),(2,[]),(3,[]),(4,[]),(5,[]),(6,[3,5,2,4]),(7,[1,6,0,3,5,2,4]),(8,[7,0,1,2,3,4,5,6])]),(5,[(0,[]),(1,[]),(2,[]),(3,[]),(4,[]),(5,[]),(6,[3,5,2,4]),(7,[1,6,0,3,5,2,4]),(8,[7,0,1,2,3,4,5,6])])]⟩
theorem zDy:zaj Tryz.prog FX zJY.cons:=zab zM5 (zaa Tryz.func143 (by kernel_rfl)) rfl (zab zx8 (zaa Tryz.func131 (by kernel_rfl)) rfl (zab zM9 (zaa Tryz.func144 (by kernel_rfl)) rfl (zab zNx (zaa Tryz.func145 (by kernel_rfl)) rfl (zae))))
theorem zys:zad zrC=[]:=by kernel_rfl
theorem zNw:zav Tryz.prog FX 129 zxs:=zah (E:=zJY) (code:=zrC) mix zaf zDy Tryz.func129 (by kernel_rfl) zAB (by kernel_rfl) (fun y=>(⟨y.1,y.2.1⟩:Bg)) zxs.out (fun _=>rfl) zxs.run (fun x=>by kernel_rfl) (by kernel_rfl) (zac zys (trivial))
def zAA:Sig:=⟨[(true,[.d (.bool),.d (.sl .int),.d (.sl .int)]),(true,[.d (.bool),.d (.sl .int),.d (.sl .int)])],[],false,[(true,[.d (.bool),.own 0,.own 1])],[(0,.arr false .int),(1,.arr false .int)]⟩
def zxr:Con:=⟨zAA,Rt,fun x=>zjq (⟨x.1,x.2.1,x.2.2.1⟩:Rt) (⟨x.2.2.2.1,x.2.2.2.2.1,x.2.2.2.2.2.1⟩:Rt),fun r=>(r.neg,r.mag,r.den,())⟩
def zrB:Code:=Tryz.f94.body.getD .skip
def zJX:Env:=⟨zbq,[(48,zrO),(128,zDU),(129,zxs),(93,znK),(95,zrW),(96,zrX),(97,zuI)],[],[(4,[(0,[]),(1,[]),(2,[]),(3,[]),(5,[]),(6,[]),(4,[1,3,0,2]),(7,[6,4,5,1,3,0,2]),(8,[4,7,1,3,6,0,2,5]),(9,[8,0,1,2,3,4,5,6,7])]),(7,[(0,[]),(1,[]),(3,[]),(4,[]),(5,[]),(6,[]),(2,[0,1]),(7,[4,6,2,3,5,0,1]),(8,[2,7,0,1,4,6,3,5]),(9,[8,0,1,2,3,4,5,6,7])])]⟩
theorem zDx:zaj Tryz.prog FX zJX.cons:=zab zBb (zaa Tryz.func48 (by kernel_rfl)) rfl (zab zM6 (zaa Tryz.func128 (by kernel_rfl)) rfl (zab zNw (zaa Tryz.func129 (by kernel_rfl)) rfl (zab ztp (zaa Tryz.func93 (by kernel_rfl)) rfl (zab zJz (zaa Tryz.func95 (by kernel_rfl)) rfl (zab zJA (zaa Tryz.func96 (by kernel_rfl)) rfl (zab zE7 (zaa Tryz.func97 (by kernel_rfl)) rfl (zae)))))))
theorem zyr:zad zrB=[]:=by kernel_rfl
theorem zNv:zav Tryz.prog FX 94 zxr:=zah (E:=zJX) (code:=zrB) mix zaf zDx Tryz.func94 (by kernel_rfl) zAA (by kernel_rfl) (fun y=>(⟨y.1,y.2.1,y.2.2.1⟩:Rt)) zxr.out (fun _=>rfl) zxr.run (fun x=>by kernel_rfl) (by kernel_rfl) (zac zyr (trivial))
def zAz:Sig:=⟨[(true,[.d (.bool),.d (.sl .int),.d (.sl .int)]),(true,[.d (.bool),.d (.sl .int),.d (.sl .int)])],[],false,[(true,[.d (.bool),.own 0,.own 1])],[(0,.arr false .int),(1,.arr false .int)]⟩
def zxq:Con:=⟨zAz,Rt,fun x=>zeZ (⟨x.1,x.2.1,x.2.2.1⟩:Rt) (⟨x.2.2.2.1,x.2.2.2.2.1,x.2.2.2.2.2.1⟩:Rt),fun r=>(r.neg,r.mag,r.den,())⟩
def zrA:Code:=Tryz.f46.body.getD .skip
def zJW:Env:=⟨zbq,[(69,zxu),(94,zxr)],[],[(1,[(0,[]),(1,[]),(2,[1]),(3,[0,2,1]),(4,[3,0,1,2])])]⟩
theorem zDw:zaj Tryz.prog FX zJW.cons:=zab zNy (zaa Tryz.func69 (by kernel_rfl)) rfl (zab zNv (zaa Tryz.func94 (by kernel_rfl)) rfl (zae))
theorem zyq:zad zrA=[]:=by kernel_rfl
theorem zNu:zav Tryz.prog FX 46 zxq:=zah (E:=zJW) (code:=zrA) mix zaf zDw Tryz.func46 (by kernel_rfl) zAz (by kernel_rfl) (fun y=>(⟨y.1,y.2.1,y.2.2.1⟩:Rt)) zxq.out (fun _=>rfl) zxq.run (fun x=>by kernel_rfl) (by kernel_rfl) (zac zyq (trivial))
def zHS:Sig:=⟨[(true,[.d (.bool),.d (.sl .int),.d (.sl .int)])],[],false,[(false,[.d (.int .i64)])],[]⟩
def zGK:Con:=⟨zHS,Int,fun x=>zdB (⟨x.1,x.2.1,x.2.2.1⟩:Rt),fun r=>(r,())⟩
def zwq:Code:=Tryz.f49.body.getD .skip
def zN0:Env:=⟨zbq,[],[],[]⟩
theorem zFS:zaj Tryz.prog FX zN0.cons:=zae
theorem zBf:zad zwq=[]:=by kernel_rfl
theorem zPf:zav Tryz.prog FX 49 zGK:=zah (E:=zN0) (code:=zwq) mix zaf zFS Tryz.func49 (by kernel_rfl) zHS (by kernel_rfl) (fun y=>y.1) zGK.out (fun _=>rfl) zGK.run (fun x=>by kernel_rfl) (by kernel_rfl) (zac zBf (trivial))
def zAy:Sig:=⟨[(true,[.d (.bool),.d (.sl .int),.d (.sl .int)]),(true,[.d (.bool),.d (.sl .int),.d (.sl .int)])],[],false,[(true,[.d (.bool),.own 0,.own 1])],[(0,.arr false .int),(1,.arr false .int)]⟩
def zxp:Con:=⟨zAy,Rt,fun x=>zfN (⟨x.1,x.2.1,x.2.2.1⟩:Rt) (⟨x.2.2.2.1,x.2.2.2.2.1,x.2.2.2.2.2.1⟩:Rt),fun r=>(r.neg,r.mag,r.den,())⟩
def zrz:Code:=Tryz.f50.body.getD .skip
def zJV:Env:=⟨zbq,[(48,zrO),(47,zrV)],[],[]⟩
theorem zDv:zaj Tryz.prog FX zJV.cons:=zab zBb (zaa Tryz.func48 (by kernel_rfl)) rfl (zab zJy (zaa Tryz.func47 (by kernel_rfl)) rfl (zae))
theorem zyp:zad zrz=[]:=by kernel_rfl
theorem zNs:zav Tryz.prog FX 50 zxp:=zah (E:=zJV) (code:=zrz) mix zaf zDv Tryz.func50 (by kernel_rfl) zAy (by kernel_rfl) (fun y=>(⟨y.1,y.2.1,y.2.2.1⟩:Rt)) zxp.out (fun _=>rfl) zxp.run (fun x=>by kernel_rfl) (by kernel_rfl) (zac zyp (trivial))
def zAx:Sig:=⟨[(true,[.d (.int .i64),.d (.int .i64),.d (.sl .rat)])],[],true,[(true,[.d (.int .i64),.d (.int .i64),.dp 0]),(false,[.dp 1]),(false,[.d (.bool)])],[(0,.deep .rat),(1,.deep .rat)]⟩
def zxo:Con:=⟨zAx,Mx × List Rt × Bool,fun x=>zc0 (⟨x.1,x.2.1,x.2.2.1⟩:Mx),fun r=>(r.1.rows,r.1.cols,r.2.2,r.1.cells,r.2.1,())⟩
def zno:Code:=Tryz.f19.body.getD .skip
def zeY:Code:=(zad zno).getD 0 .skip
def zhx:Code:=(zad zeY).getD 0 .skip
def zfZ:Code:=(zad zeY).getD 1 .skip
def zhw:Code:=(zad zfZ).getD 0 .skip
def zjA:LoopD:=⟨⟨zai [(1,false,[.lp 64 0]),(2,false,[.lp 128 0]),(5,false,[.d (.int .i64)]),(6,false,[.lp 384 0]),(7,false,[.own 7488]),(22,false,[.d (.int .i64)]),(23,false,[.d (.int .i64)])] 115 0,[(64,.box [.d (.int .i64),.d (.int .i64),.d (.sl .rat)]),(128,.box [.d (.int .i64),.d (.int .i64),.own 7552]),(384,.box [.d (.int .i64),.d (.int .i64),.own 7424]),(7424,.arr false .trat),(7488,.arr false .trat),(7552,.arr false .trat),(70368744177727,.pool)]⟩,[(.slot 7 0,7488,.trat),(.box 128 2,7552,.trat)],[(.ret,⟨zai [(2,false,[.lp 128 0]),(3,false,[.own 7616]),(4,false,[.d (.bool)])] 115 0,[(128,.box [.d (.int .i64),.d (.int .i64),.own 7552]),(7552,.arr false .trat),(7616,.arr false .trat),(70368744177727,.pool)]⟩,[(.slot 3 0,7616,.trat),(.box 128 2,7552,.trat)]),(.exit 0,⟨zai [(2,false,[.lp 128 0]),(6,false,[.lp 384 0]),(7,false,[.own 7488])] 115 0,[(128,.box [.d (.int .i64),.d (.int .i64),.own 7552]),(384,.box [.d (.int .i64),.d (.int .i64),.own 7424]),(7424,.arr false .trat),(7488,.arr false .trat),(7552,.arr false .trat),(70368744177727,.pool)]⟩,[(.slot 7 0,7488,.trat),(.box 128 2,7552,.trat)])]⟩
def zjz:LoopD:=⟨⟨zai [(1,false,[.lp 64 0]),(2,false,[.lp 128 0]),(5,false,[.d (.int .i64)]),(6,false,[.lp 384 0]),(7,false,[.own 7488]),(8,false,[.d (.int .i64)]),(9,false,[.lp 576 0]),(22,false,[.d (.int .i64)]),(23,false,[.d (.int .i64)]),(31,false,[.d (.int .i64)]),(32,false,[.d (.int .i64)])] 115 0,[(64,.box [.d (.int .i64),.d (.int .i64),.d (.sl .rat)]),(128,.box [.d (.int .i64),.d (.int .i64),.own 7552]),(384,.box [.d (.int .i64),.d (.int .i64),.own 7424]),(576,.box [.d (.bool),.d (.tok),.d (.tok)]),(7424,.arr false .trat),(7488,.arr false .trat),(7552,.arr false .trat),(70368744177727,.pool)]⟩,[(.slot 7 0,7488,.trat),(.box 128 2,7552,.trat)],[(.exit 2,⟨zai [(1,false,[.lp 64 0]),(2,false,[.lp 128 0]),(5,false,[.d (.int .i64)]),(6,false,[.lp 384 0]),(7,false,[.own 7488]),(8,false,[.d (.int .i64)]),(9,false,[.lp 576 0]),(22,false,[.d (.int .i64)]),(23,false,[.d (.int .i64)])] 115 0,[(64,.box [.d (.int .i64),.d (.int .i64),.d (.sl .rat)]),(128,.box [.d (.int .i64),.d (.int .i64),.own 7552]),(384,.box [.d (.int .i64),.d (.int .i64),.own 7424]),(576,.box [.d (.bool),.d (.tok),.d (.tok)]),(7424,.arr false .trat),(7488,.arr false .trat),(7552,.arr false .trat),(70368744177727,.pool)]⟩,[(.slot 7 0,7488,.trat),(.box 128 2,7552,.trat)])]⟩
def zjy:LoopD:=⟨⟨zai [(1,false,[.lp 64 0]),(2,false,[.lp 128 0]),(5,false,[.d (.int .i64)]),(6,false,[.lp 384 0]),(7,false,[.own 7424]),(8,false,[.d (.int .i64)]),(9,false,[.lp 576 0]),(11,false,[.d (.int .i64)]),(22,false,[.d (.int .i64)]),(23,false,[.d (.int .i64)])] 115 0,[(64,.box [.d (.int .i64),.d (.int .i64),.d (.sl .rat)]),(128,.box [.d (.int .i64),.d (.int .i64),.own 7552]),(384,.box [.d (.int .i64),.d (.int .i64),.own 7488]),(576,.box [.d (.bool),.d (.tok),.d (.tok)]),(7424,.arr false .trat),(7488,.arr false .trat),(7552,.arr false .trat),(70368744177727,.pool)]⟩,[(.box 128 2,7552,.trat)],[(.ret,⟨zai [(2,false,[.lp 128 0]),(3,false,[.own 7616]),(4,false,[.d (.bool)])] 115 0,[(128,.box [.d (.int .i64),.d (.int .i64),.own 7552]),(7552,.arr false .trat),(7616,.arr false .trat),(70368744177727,.pool)]⟩,[(.slot 3 0,7616,.trat),(.box 128 2,7552,.trat)]),(.exit 4,⟨zai [(1,false,[.lp 64 0]),(2,false,[.lp 128 0]),(5,false,[.d (.int .i64)]),(6,false,[.lp 384 0]),(7,false,[.own 7424]),(22,false,[.d (.int .i64)]),(23,false,[.d (.int .i64)])] 115 0,[(64,.box [.d (.int .i64),.d (.int .i64),.d (.sl .rat)]),(128,.box [.d (.int .i64),.d (.int .i64),.own 7552]),(384,.box [.d (.int .i64),.d (.int .i64),.own 7488]),(7424,.arr false .trat),(7488,.arr false .trat),(7552,.arr false .trat),(70368744177727,.pool)]⟩,[(.box 128 2,7552,.trat)])]⟩
def zjx:LoopD:=⟨⟨zai [(1,false,[.lp 64 0]),(2,false,[.lp 128 0]),(5,false,[.d (.int .i64)]),(6,false,[.lp 384 0]),(7,false,[.own 7424]),(8,false,[.d (.int .i64)]),(9,false,[.lp 576 0]),(11,false,[.d (.int .i64)]),(12,false,[.lp 768 0]),(22,false,[.d (.int .i64)]),(23,false,[.d (.int .i64)]),(76,false,[.d (.int .i64)]),(77,false,[.d (.int .i64)])] 115 0,[(64,.box [.d (.int .i64),.d (.int .i64),.d (.sl .rat)]),(128,.box [.d (.int .i64),.d (.int .i64),.own 7552]),(384,.box [.d (.int .i64),.d (.int .i64),.own 7488]),(576,.box [.d (.bool),.d (.tok),.d (.tok)]),(768,.box [.d (.bool),.d (.tok),.d (.tok)]),(7424,.arr false .trat),(7488,.arr false .trat),(7552,.arr false .trat),(70368744177727,.pool)]⟩,[(.box 128 2,7552,.trat)],[(.exit 6,⟨zai [(1,false,[.lp 64 0]),(2,false,[.lp 128 0]),(5,false,[.d (.int .i64)]),(6,false,[.lp 384 0]),(7,false,[.own 7424]),(8,false,[.d (.int .i64)]),(9,false,[.lp 576 0]),(11,false,[.d (.int .i64)]),(12,false,[.lp 768 0]),(22,false,[.d (.int .i64)]),(23,false,[.d (.int .i64)])] 115 0,[(64,.box [.d (.int .i64),.d (.int .i64),.d (.sl .rat)]),(128,.box [.d (.int .i64),.d (.int .i64),.own 7552]),(384,.box [.d (.int .i64),.d (.int .i64),.own 7488]),(576,.box [.d (.bool),.d (.tok),.d (.tok)]),(768,.box [.d (.bool),.d (.tok),.d (.tok)]),(7424,.arr false .trat),(7488,.arr false .trat),(7552,.arr false .trat),(70368744177727,.pool)]⟩,[(.box 128 2,7552,.trat)])]⟩
def zoA (x:Tys zjA.head.ks):Option (zc1 zjA.outs):=@whileO (Int × Int × Int × Int × Int × (List Rt) × Int × Int × Int × Int × (List TRt) × (List TRt) × (List TRt) × Nat × Unit) ((Bool × Int × Int × (List TRt) × (List TRt) × Nat × Unit) ⊕ (Int × Int × Int × Int × (List TRt) × (List TRt) × (List TRt) × Nat × Unit)) zby x
def zoz (x:Tys zjz.head.ks):Option (zc1 zjz.outs):=@whileO (Int × Int × Int × Int × Int × Int × Int × Int × (List Rt) × Int × Int × Int × Int × Bool × Tk × Tk × (List TRt) × (List TRt) × (List TRt) × Nat × Unit) (Int × Int × Int × Int × Int × Int × (List Rt) × Int × Int × Int × Int × Bool × Tk × Tk × (List TRt) × (List TRt) × (List TRt) × Nat × Unit) zbx x
def zoy (x:Tys zjy.head.ks):Option (zc1 zjy.outs):=@whileO (Int × Int × Int × Int × Int × Int × Int × (List Rt) × Int × Int × Int × Int × Bool × Tk × Tk × (List TRt) × (List TRt) × (List TRt) × Nat × Unit) ((Bool × Int × Int × (List TRt) × (List TRt) × Nat × Unit) ⊕ (Int × Int × Int × Int × Int × (List Rt) × Int × Int × Int × Int × (List TRt) × (List TRt) × (List TRt) × Nat × Unit)) zbw x
def zox (x:Tys zjx.head.ks):Option (zc1 zjx.outs):=@whileO (Int × Int × Int × Int × Int × Int × Int × Int × Int × (List Rt) × Int × Int × Int × Int × Bool × Tk × Tk × Bool × Tk × Tk × (List TRt) × (List TRt) × (List TRt) × Nat × Unit) (Int × Int × Int × Int × Int × Int × Int × (List Rt) × Int × Int × Int × Int × Bool × Tk × Tk × Bool × Tk × Tk × (List TRt) × (List TRt) × (List TRt) × Nat × Unit) zbv x
def zoC:Env:=⟨zP7,[(42,zGV),(43,zGL),(45,zDV),(44,zyP),(45+zJo,zxw),(47,zrV),(46,zxq),(48,zrO),(49,zGK),(50,zxp)],[(7,za5 zjA zoA),(11,za5 zjz zoz),(19,za5 zjy zoy),(23,za5 zjx zox)],[(13,[(0,[]),(1,[]),(2,[]),(3,[]),(5,[]),(6,[]),(7,[]),(10,[]),(11,[]),(12,[]),(13,[]),(4,[1,2,3]),(8,[5,6,7,4,1,2,3]),(9,[4,8,1,2,3,5,6,7]),(14,[9,13,4,8,12,1,2,3,5,6,7,10,11]),(15,[0,14,9,13,4,8,12,1,2,3,5,6,7,10,11]),(16,[15,0,1,2,3,4,5,6,7,8,9,10,11,12,13,14])]),(25,[(0,[]),(1,[]),(2,[]),(3,[]),(5,[]),(6,[]),(7,[]),(10,[]),(11,[]),(12,[]),(13,[]),(4,[1,2,3]),(8,[5,6,7,4,1,2,3]),(9,[4,8,1,2,3,5,6,7]),(14,[9,13,4,8,12,1,2,3,5,6,7,10,11]),(15,[0,14,9,13,4,8,12,1,2,3,5,6,7,10,11]),(16,[15,0,1,2,3,4,5,6,7,8,9,10,11,12,13,14])])]⟩
theorem zh0:zaj Tryz.prog FX zoC.cons:=zab zPq (zaa Tryz.func42 (by kernel_rfl)) rfl (zab zPg (zaa Tryz.func43 (by kernel_rfl)) rfl (zab zM7 (zaa Tryz.func45 (by kernel_rfl)) rfl (zab zKB (zaa Tryz.func44 (by kernel_rfl)) rfl (zlT zNA (zaa Tryz.func45 (by kernel_rfl)) (zab zJy (zaa Tryz.func47 (by kernel_rfl)) rfl (zab zNu (zaa Tryz.func46 (by kernel_rfl)) rfl (zab zBb (zaa Tryz.func48 (by kernel_rfl)) rfl (zab zPf (zaa Tryz.func49 (by kernel_rfl)) rfl (zab zNs (zaa Tryz.func50 (by kernel_rfl)) rfl (zae))))))))))
theorem zuY (x:Tys zjx.head.ks):stepL zoC zjx zhw x=zbv x:=by kernel_rfl
theorem zqJ:zad zhw=[]:=by kernel_rfl
theorem zFu:zaz Tryz.prog FX (za5 zjx zox) zhw:=zam mix zkL zh0 (by kernel_rfl) (zac zqJ (trivial)) zuY fun _ _ h=>h
theorem zuZ (x:Tys zjy.head.ks):stepL zoC zjy zfZ x=zbw x:=by kernel_rfl
theorem zqK:zad zfZ=[zhw]:=by kernel_rfl
theorem zFv:zaz Tryz.prog FX (za5 zjy zoy) zfZ:=zam mix zkL zh0 (by kernel_rfl) (zac zqK (⟨⟨_,by kernel_rfl,zFu⟩,trivial⟩)) zuZ fun _ _ h=>h
theorem zu0 (x:Tys zjz.head.ks):stepL zoC zjz zhx x=zbx x:=by kernel_rfl
theorem zqL:zad zhx=[]:=by kernel_rfl
theorem zFw:zaz Tryz.prog FX (za5 zjz zoz) zhx:=zam mix zkL zh0 (by kernel_rfl) (zac zqL (trivial)) zu0 fun _ _ h=>h
theorem zu1 (x:Tys zjA.head.ks):stepL zoC zjA zeY x=zby x:=by kernel_rfl
theorem zqM:zad zeY=[zhx,zfZ]:=by kernel_rfl
theorem zFx:zaz Tryz.prog FX (za5 zjA zoA) zeY:=zam mix zkL zh0 (by kernel_rfl) (zac zqM (⟨⟨_,by kernel_rfl,zFw⟩,⟨⟨_,by kernel_rfl,zFv⟩,trivial⟩⟩)) zu1 fun _ _ h=>h
theorem zyo:zad zno=[zeY]:=by kernel_rfl
theorem zNr:zav Tryz.prog FX 19 zxo:=zA8 (E:=zoC) (code:=zno) mix zkL zh0 Tryz.func19 (by kernel_rfl) zAx (by kernel_rfl) (by kernel_rfl) (fun y=>((⟨y.1,y.2.1,y.2.2.2.1⟩:Mx),y.2.2.2.2.1,y.2.2.1)) zxo.out (fun _=>rfl) zxo.run (fun x=>by kernel_rfl) (by kernel_rfl) (zac zyo (⟨⟨_,by kernel_rfl,zFx⟩,trivial⟩))
def zAw:Sig:=⟨[(false,[.d (.sl .int)]),(false,[.d (.sl .int)])],[],false,[(false,[.d (.bool)])],[]⟩
def zrU:Con:=⟨zAw,Bool,fun x=>zeE x.1 x.2.1,fun r=>(r,())⟩
def znn:Code:=Tryz.f13.body.getD .skip
def zhv:Code:=(zad znn).getD 0 .skip
def zjw:LoopD:=⟨⟨zai [(0,false,[.d (.sl .int)]),(1,false,[.d (.sl .int)]),(5,false,[.d (.int .i64)])] 26 0,[]⟩,[],[(.ret,⟨zai [(4,false,[.d (.bool)])] 26 0,[]⟩,[]),(.exit 0,⟨zai [] 26 0,[]⟩,[])]⟩
def zow (x:Tys zjw.head.ks):Option (zc1 zjw.outs):=@whileO ((List Int) × (List Int) × Int × Unit) ((Bool × Unit) ⊕ (Unit)) zdv x
def zEx:Env:=⟨zbq,[],[(4,za5 zjw zow)],[(6,[(0,[]),(1,[]),(2,[]),(3,[]),(4,[]),(5,[]),(6,[]),(7,[]),(8,[])])]⟩
theorem zro:zaj Tryz.prog FX zEx.cons:=zae
theorem zuX (x:Tys zjw.head.ks):stepL zEx zjw zhv x=zdv x:=by kernel_rfl
theorem zqI:zad zhv=[]:=by kernel_rfl
theorem zFt:zaz Tryz.prog FX (za5 zjw zow) zhv:=zam mix zaf zro (by kernel_rfl) (zac zqI (trivial)) zuX fun _ _ h=>h
theorem zyn:zad znn=[zhv]:=by kernel_rfl
theorem zJx:zav Tryz.prog FX 13 zrU:=zah (E:=zEx) (code:=znn) mix zaf zro Tryz.func13 (by kernel_rfl) zAw (by kernel_rfl) (fun y=>y.1) zrU.out (fun _=>rfl) zrU.run (fun x=>by kernel_rfl) (by kernel_rfl) (zac zyn (⟨⟨_,by kernel_rfl,zFt⟩,trivial⟩))
def zAv:Sig:=⟨[(true,[.d (.bool),.d (.sl .int)]),(true,[.d (.bool),.d (.sl .int)])],[],false,[(false,[.d (.bool)])],[]⟩
def zxn:Con:=⟨zAv,Bool,fun x=>zf5 (⟨x.1,x.2.1⟩:Bg) (⟨x.2.2.1,x.2.2.2.1⟩:Bg),fun r=>(r,())⟩
def zry:Code:=Tryz.f98.body.getD .skip
def zJU:Env:=⟨zbq,[(13,zrU)],[],[]⟩
theorem zDu:zaj Tryz.prog FX zJU.cons:=zab zJx (zaa Tryz.func13 (by kernel_rfl)) rfl (zae)
theorem zym:zad zry=[]:=by kernel_rfl
theorem zNq:zav Tryz.prog FX 98 zxn:=zah (E:=zJU) (code:=zry) mix zaf zDu Tryz.func98 (by kernel_rfl) zAv (by kernel_rfl) (fun y=>y.1) zxn.out (fun _=>rfl) zxn.run (fun x=>by kernel_rfl) (by kernel_rfl) (zac zym (trivial))
def zAu:Sig:=⟨[(true,[.d (.bool),.d (.sl .int),.d (.sl .int)]),(true,[.d (.bool),.d (.sl .int),.d (.sl .int)])],[],false,[(false,[.d (.bool)])],[]⟩
def zxm:Con:=⟨zAu,Bool,fun x=>zgk (⟨x.1,x.2.1,x.2.2.1⟩:Rt) (⟨x.2.2.2.1,x.2.2.2.2.1,x.2.2.2.2.2.1⟩:Rt),fun r=>(r,())⟩
def zrx:Code:=Tryz.f51.body.getD .skip
def zJT:Env:=⟨zbq,[(98,zxn),(13,zrU)],[],[]⟩
theorem zDt:zaj Tryz.prog FX zJT.cons:=zab zNq (zaa Tryz.func98 (by kernel_rfl)) rfl (zab zJx (zaa Tryz.func13 (by kernel_rfl)) rfl (zae))
theorem zyl:zad zrx=[]:=by kernel_rfl
theorem zNp:zav Tryz.prog FX 51 zxm:=zah (E:=zJT) (code:=zrx) mix zaf zDt Tryz.func51 (by kernel_rfl) zAu (by kernel_rfl) (fun y=>y.1) zxm.out (fun _=>rfl) zxm.run (fun x=>by kernel_rfl) (by kernel_rfl) (zac zyl (trivial))
def zAt:Sig:=⟨[(false,[.d (.sl .rat)]),(false,[.d (.sl .rat)])],[],false,[(false,[.d (.bool)])],[]⟩
def zrT:Con:=⟨zAt,Bool,fun x=>zdR x.1 x.2.1,fun r=>(r,())⟩
def znm:Code:=Tryz.f20.body.getD .skip
def zhu:Code:=(zad znm).getD 0 .skip
def zjv:LoopD:=⟨⟨zai [(0,false,[.d (.sl .rat)]),(1,false,[.d (.sl .rat)]),(5,false,[.d (.int .i64)])] 27 0,[]⟩,[],[(.ret,⟨zai [(4,false,[.d (.bool)])] 27 0,[]⟩,[]),(.exit 0,⟨zai [] 27 0,[]⟩,[])]⟩
def zov (x:Tys zjv.head.ks):Option (zc1 zjv.outs):=@whileO ((List Rt) × (List Rt) × Int × Unit) ((Bool × Unit) ⊕ (Unit)) zeq x
def zEw:Env:=⟨zbq,[(51,zxm)],[(4,za5 zjv zov)],[(6,[(0,[]),(1,[]),(2,[]),(3,[]),(4,[]),(5,[]),(6,[]),(7,[]),(8,[3,7,2,6,0,1,4,5]),(9,[])])]⟩
theorem zrn:zaj Tryz.prog FX zEw.cons:=zab zNp (zaa Tryz.func51 (by kernel_rfl)) rfl (zae)
theorem zuW (x:Tys zjv.head.ks):stepL zEw zjv zhu x=zeq x:=by kernel_rfl
theorem zqH:zad zhu=[]:=by kernel_rfl
theorem zFs:zaz Tryz.prog FX (za5 zjv zov) zhu:=zam mix zaf zrn (by kernel_rfl) (zac zqH (trivial)) zuW fun _ _ h=>h
theorem zyk:zad znm=[zhu]:=by kernel_rfl
theorem zJw:zav Tryz.prog FX 20 zrT:=zah (E:=zEw) (code:=znm) mix zaf zrn Tryz.func20 (by kernel_rfl) zAt (by kernel_rfl) (fun y=>y.1) zrT.out (fun _=>rfl) zrT.run (fun x=>by kernel_rfl) (by kernel_rfl) (zac zyk (⟨⟨_,by kernel_rfl,zFs⟩,trivial⟩))
def zAs:Sig:=⟨[(true,[.d (.int .i64),.d (.int .i64),.d (.sl .rat)]),(true,[.d (.int .i64),.d (.int .i64),.d (.sl .rat)])],[],false,[(false,[.d (.bool)])],[]⟩
def zxl:Con:=⟨zAs,Bool,fun x=>zcf (⟨x.1,x.2.1,x.2.2.1⟩:Mx) (⟨x.2.2.2.1,x.2.2.2.2.1,x.2.2.2.2.2.1⟩:Mx),fun r=>(r,())⟩
def zrv:Code:=Tryz.f12.body.getD .skip
def zJS:Env:=⟨zbq,[(20,zrT)],[],[]⟩
theorem zDs:zaj Tryz.prog FX zJS.cons:=zab zJw (zaa Tryz.func20 (by kernel_rfl)) rfl (zae)
theorem zyj:zad zrv=[]:=by kernel_rfl
theorem zNo:zav Tryz.prog FX 12 zxl:=zah (E:=zJS) (code:=zrv) mix zaf zDs Tryz.func12 (by kernel_rfl) zAs (by kernel_rfl) (fun y=>y.1) zxl.out (fun _=>rfl) zxl.run (fun x=>by kernel_rfl) (by kernel_rfl) (zac zyj (trivial))
def zAr:Sig:=⟨[(false,[.own 63]),(false,[.d (.int .i64)])],[(63,.arr false .int)],false,[(false,[.d (.int .i64)])],[(63,.arr false .int)]⟩
def zxk:Con:=⟨zAr,Int × List Int,fun x=>zcx x.2.1 x.1,fun r=>(r.1,r.2,())⟩
def znl:Code:=Tryz.f15.body.getD .skip
def zht:Code:=(zad znl).getD 0 .skip
def zju:LoopD:=⟨⟨zai [(0,false,[.own 63]),(1,false,[.d (.int .i64)]),(5,false,[.d (.int .i64)])] 19 0,[(63,.arr false .int)]⟩,[],[(.exit 0,⟨zai [(1,false,[.d (.int .i64)])] 19 0,[(63,.arr false .int)]⟩,[])]⟩
def zou (x:Tys zju.head.ks):Option (zc1 zju.outs):=@whileO (Int × Int × (List Int) × Unit) (Int × (List Int) × Unit) zbm x
def zEv:Env:=⟨zbq,[],[(2,za5 zju zou)],[]⟩
theorem zrm:zaj Tryz.prog FX zEv.cons:=zae
theorem zuV (x:Tys zju.head.ks):stepL zEv zju zht x=zbm x:=by kernel_rfl
theorem zqG:zad zht=[]:=by kernel_rfl
theorem zFr:zaz Tryz.prog FX (za5 zju zou) zht:=zam mix zaf zrm (by kernel_rfl) (zac zqG (trivial)) zuV fun _ _ h=>h
theorem zyi:zad znl=[zht]:=by kernel_rfl
theorem zNn:zav Tryz.prog FX 15 zxk:=zah (E:=zEv) (code:=znl) mix zaf zrm Tryz.func15 (by kernel_rfl) zAr (by kernel_rfl) (fun y=>(y.1,y.2.1)) zxk.out (fun _=>rfl) zxk.run (fun x=>by kernel_rfl) (by kernel_rfl) (zac zyi (⟨⟨_,by kernel_rfl,zFr⟩,trivial⟩))
def zAq:Sig:=⟨[(false,[.dp 63]),(false,[.d (.int .i64)])],[(63,.deep .rat)],false,[(false,[.d (.int .i64)])],[(63,.deep .rat)]⟩
def zrS:Con:=⟨zAq,Int × List Rt,fun x=>zcw x.2.1 x.1,fun r=>(r.1,r.2,())⟩
def znk:Code:=Tryz.f21.body.getD .skip
def zhs:Code:=(zad znk).getD 0 .skip
def zjt:LoopD:=⟨⟨zai [(0,false,[.dp 63]),(1,false,[.d (.int .i64)]),(5,false,[.d (.int .i64)])] 38 0,[(63,.deep .rat)]⟩,[],[(.exit 0,⟨zai [(1,false,[.d (.int .i64)])] 38 0,[(63,.deep .rat)]⟩,[])]⟩
def zot (x:Tys zjt.head.ks):Option (zc1 zjt.outs):=@whileO (Int × Int × (List Rt) × Unit) (Int × (List Rt) × Unit) zbP x
def zEu:Env:=⟨zbq,[(15,zxk)],[(2,za5 zjt zot)],[]⟩
theorem zrl:zaj Tryz.prog FX zEu.cons:=zab zNn (zaa Tryz.func15 (by kernel_rfl)) rfl (zae)
theorem zuU (x:Tys zjt.head.ks):stepL zEu zjt zhs x=zbP x:=by kernel_rfl
theorem zqF:zad zhs=[]:=by kernel_rfl
theorem zFq:zaz Tryz.prog FX (za5 zjt zot) zhs:=zam mix zaf zrl (by kernel_rfl) (zac zqF (trivial)) zuU fun _ _ h=>h
theorem zyh:zad znk=[zhs]:=by kernel_rfl
theorem zJv:zav Tryz.prog FX 21 zrS:=zah (E:=zEu) (code:=znk) mix zaf zrl Tryz.func21 (by kernel_rfl) zAq (by kernel_rfl) (fun y=>(y.1,y.2.1)) zrS.out (fun _=>rfl) zrS.run (fun x=>by kernel_rfl) (by kernel_rfl) (zac zyh (⟨⟨_,by kernel_rfl,zFq⟩,trivial⟩))
def zAp:Sig:=⟨[(true,[.d (.int .i64),.d (.int .i64),.dp 191]),(false,[.d (.int .i64)])],[(191,.deep .rat)],false,[(false,[.d (.int .i64)])],[(191,.deep .rat)]⟩
def zxj:Con:=⟨zAp,Int × List Rt,fun x=>zbQ (⟨x.1,x.2.1,x.2.2.2.1⟩:Mx) x.2.2.1,fun r=>(r.1,r.2,())⟩
def zru:Code:=Tryz.f14.body.getD .skip
def zJR:Env:=⟨zbq,[(21,zrS)],[],[]⟩
theorem zDr:zaj Tryz.prog FX zJR.cons:=zab zJv (zaa Tryz.func21 (by kernel_rfl)) rfl (zae)
theorem zyg:zad zru=[]:=by kernel_rfl
theorem zNm:zav Tryz.prog FX 14 zxj:=zah (E:=zJR) (code:=zru) mix zaf zDr Tryz.func14 (by kernel_rfl) zAp (by kernel_rfl) (fun y=>(y.1,y.2.1)) zxj.out (fun _=>rfl) zxj.run (fun x=>by kernel_rfl) (by kernel_rfl) (zac zyg (trivial))
def zAo:Sig:=⟨[(false,[.d (.sl .int)]),(false,[.d (.int .i64)])],[],false,[(false,[.d (.int .i64)])],[]⟩
def zxi:Con:=⟨zAo,Int,fun x=>zdA x.1 x.2.1,fun r=>(r,())⟩
def znj:Code:=Tryz.f17.body.getD .skip
def zhr:Code:=(zad znj).getD 0 .skip
def zjs:LoopD:=⟨⟨zai [(0,false,[.d (.sl .int)]),(1,false,[.d (.int .i64)]),(5,false,[.d (.int .i64)])] 21 0,[]⟩,[],[(.ret,⟨zai [(4,false,[.d (.int .i64)])] 21 0,[]⟩,[]),(.exit 0,⟨zai [(1,false,[.d (.int .i64)])] 21 0,[]⟩,[])]⟩
def zos (x:Tys zjs.head.ks):Option (zc1 zjs.outs):=@whileO ((List Int) × Int × Int × Unit) ((Int × Unit) ⊕ (Int × Unit)) zb2 x
def zEt:Env:=⟨zbq,[],[(2,za5 zjs zos)],[]⟩
theorem zrk:zaj Tryz.prog FX zEt.cons:=zae
theorem zuT (x:Tys zjs.head.ks):stepL zEt zjs zhr x=zb2 x:=by kernel_rfl
theorem zqE:zad zhr=[]:=by kernel_rfl
theorem zFp:zaz Tryz.prog FX (za5 zjs zos) zhr:=zam mix zaf zrk (by kernel_rfl) (zac zqE (trivial)) zuT fun _ _ h=>h
theorem zyf:zad znj=[zhr]:=by kernel_rfl
theorem zNl:zav Tryz.prog FX 17 zxi:=zah (E:=zEt) (code:=znj) mix zaf zrk Tryz.func17 (by kernel_rfl) zAo (by kernel_rfl) (fun y=>y.1) zxi.out (fun _=>rfl) zxi.run (fun x=>by kernel_rfl) (by kernel_rfl) (zac zyf (⟨⟨_,by kernel_rfl,zFp⟩,trivial⟩))
def zAn:Sig:=⟨[(false,[.d (.sl .rat)]),(false,[.d (.int .i64)])],[],false,[(false,[.d (.int .i64)])],[]⟩
def zrR:Con:=⟨zAn,Int,fun x=>zcW x.1 x.2.1,fun r=>(r,())⟩
def zni:Code:=Tryz.f22.body.getD .skip
def zhq:Code:=(zad zni).getD 0 .skip
def zjr:LoopD:=⟨⟨zai [(0,false,[.d (.sl .rat)]),(1,false,[.d (.int .i64)]),(5,false,[.d (.int .i64)])] 44 0,[]⟩,[],[(.ret,⟨zai [(4,false,[.d (.int .i64)])] 44 0,[]⟩,[]),(.exit 0,⟨zai [(1,false,[.d (.int .i64)])] 44 0,[]⟩,[])]⟩
def zor (x:Tys zjr.head.ks):Option (zc1 zjr.outs):=@whileO ((List Rt) × Int × Int × Unit) ((Int × Unit) ⊕ (Int × Unit)) zcM x
def zEs:Env:=⟨zbq,[(17,zxi)],[(2,za5 zjr zor)],[]⟩
theorem zrj:zaj Tryz.prog FX zEs.cons:=zab zNl (zaa Tryz.func17 (by kernel_rfl)) rfl (zae)
theorem zuS (x:Tys zjr.head.ks):stepL zEs zjr zhq x=zcM x:=by kernel_rfl
theorem zqD:zad zhq=[]:=by kernel_rfl
theorem zFo:zaz Tryz.prog FX (za5 zjr zor) zhq:=zam mix zaf zrj (by kernel_rfl) (zac zqD (trivial)) zuS fun _ _ h=>h
theorem zye:zad zni=[zhq]:=by kernel_rfl
theorem zJu:zav Tryz.prog FX 22 zrR:=zah (E:=zEs) (code:=zni) mix zaf zrj Tryz.func22 (by kernel_rfl) zAn (by kernel_rfl) (fun y=>y.1) zrR.out (fun _=>rfl) zrR.run (fun x=>by kernel_rfl) (by kernel_rfl) (zac zye (⟨⟨_,by kernel_rfl,zFo⟩,trivial⟩))
def zAm:Sig:=⟨[(true,[.d (.int .i64),.d (.int .i64),.d (.sl .rat)]),(false,[.d (.int .i64)])],[],false,[(false,[.d (.int .i64)])],[]⟩
def zxh:Con:=⟨zAm,Int,fun x=>zcX (⟨x.1,x.2.1,x.2.2.1⟩:Mx) x.2.2.2.1,fun r=>(r,())⟩
def zrt:Code:=Tryz.f16.body.getD .skip
def zJQ:Env:=⟨zbq,[(22,zrR)],[],[]⟩
theorem zDq:zaj Tryz.prog FX zJQ.cons:=zab zJu (zaa Tryz.func22 (by kernel_rfl)) rfl (zae)
theorem zyd:zad zrt=[]:=by kernel_rfl
theorem zNk:zav Tryz.prog FX 16 zxh:=zah (E:=zJQ) (code:=zrt) mix zaf zDq Tryz.func16 (by kernel_rfl) zAm (by kernel_rfl) (fun y=>y.1) zxh.out (fun _=>rfl) zxh.run (fun x=>by kernel_rfl) (by kernel_rfl) (zac zyd (trivial))
def zAl:Sig:=⟨[(true,[.d (.int .i64),.d (.int .i64),.d (.sl .rat)])],[],false,[(false,[.d (.bool)])],[]⟩
def zD8:Con:=⟨zAl,Bool,fun x=>M_laws_FnExactFactor (⟨x.1,x.2.1,x.2.2.1⟩:Mx),fun r=>(r,())⟩
def zrr:Code:=Tryz.f4.body.getD .skip
def zJP:Env:=⟨zbq,[(8,zOY),(10,zHB),(18,zG6),(19,zxo),(12,zxl),(20,zrT),(14,zxj),(21,zrS),(16,zxh),(22,zrR)],[],[(10,[(0,[]),(1,[]),(2,[1]),(3,[0,2,1]),(4,[])])]⟩
theorem zDp:zaj Tryz.prog FX zJP.cons:=zab zQE (zaa Tryz.func8 (by kernel_rfl)) rfl (zab zP6 (zaa Tryz.func10 (by kernel_rfl)) rfl (zab zPB (zaa Tryz.func18 (by kernel_rfl)) rfl (zab zNr (zaa Tryz.func19 (by kernel_rfl)) rfl (zab zNo (zaa Tryz.func12 (by kernel_rfl)) rfl (zab zJw (zaa Tryz.func20 (by kernel_rfl)) rfl (zab zNm (zaa Tryz.func14 (by kernel_rfl)) rfl (zab zJv (zaa Tryz.func21 (by kernel_rfl)) rfl (zab zNk (zaa Tryz.func16 (by kernel_rfl)) rfl (zab zJu (zaa Tryz.func22 (by kernel_rfl)) rfl (zae))))))))))
theorem zyc:zad zrr=[]:=by kernel_rfl
theorem m_q123:zav Tryz.prog FX 4 zD8:=zah (E:=zJP) (code:=zrr) mix zaf zDp Tryz.func4 (by kernel_rfl) zAl (by kernel_rfl) (fun y=>y.1) zD8.out (fun _=>rfl) zD8.run (fun x=>by kernel_rfl) (by kernel_rfl) (zac zyc (trivial))
end Go.Proofs.YtemlaciidfaceaaGreat.WFactor
