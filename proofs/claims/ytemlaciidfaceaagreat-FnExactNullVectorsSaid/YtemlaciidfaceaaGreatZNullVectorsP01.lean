/-
  Own work: part 8 of the texts that the proof of the given statement leans on.
-/
import Derived.Test.YtemlaciidfaceaaGreatProg
import Derived.Test.YtemlaciidfaceaaGreatZNullVectorsP00
noncomputable section
open Go Go.Di Go.Proofs
namespace Go.Proofs.YtemlaciidfaceaaGreat.WNullVectors
def FX:Nat→Option (Array Value→Prop):=zNV
def zPM:List (TypeId × TI):=[
  (3,⟨false,[.d (.int .i64 0)],[],none,some (.int .i64),false,false⟩),
  (4,⟨false,[.d (.bool false)],[],none,some .bool,false,false⟩),
  (22,⟨false,[.mt],[],some .trat,none,false,false⟩),
  (24,⟨true,[.d (.int .i64 0),.d (.int .i64 0),.mt],[(0,1,false),(1,1,false),(2,1,false)],none,none,true,false⟩),
  (26,⟨false,[.mt],[],some .trat,none,false,false⟩),
  (28,⟨true,[.d (.int .i64 0),.d (.int .i64 0),.mt],[(0,1,false),(1,1,false),(2,1,false)],none,none,true,false⟩),
  (29,⟨false,[.mt],[],some .int,none,false,false⟩),
  (49,⟨false,[.mt],[],some .rats,none,false,false⟩),
  (60,⟨true,[.d (.int .i64 0),.d (.int .i64 0),.mt,.mt,.mt],[(0,3,true),(3,1,false),(4,1,false)],none,none,true,false⟩),
  (65,⟨true,[.d (.bool false),.mt],[(0,1,false),(1,1,false)],none,none,true,false⟩),
  (67,⟨true,[.d (.bool false),.mt,.mt],[(0,2,true),(2,1,false)],none,none,true,false⟩),
  (75,⟨true,[.d (.bool false),.mt],[(0,1,false),(1,1,false)],none,none,true,false⟩),
  (77,⟨true,[.d (.bool false),.mt,.mt],[(0,2,true),(2,1,false)],none,none,true,false⟩)]
def lay:List (TypeId × TI):=[
  (3,⟨false,[.d (.int .i64 0)],[],none,some (.int .i64),false,false⟩),
  (4,⟨false,[.d (.bool false)],[],none,some .bool,false,false⟩),
  (22,⟨false,[.mt],[],some .rat,none,false,false⟩),
  (24,⟨true,[.d (.int .i64 0),.d (.int .i64 0),.mt],[(0,1,false),(1,1,false),(2,1,false)],none,none,true,false⟩),
  (26,⟨false,[.mt],[],some .rat,none,false,false⟩),
  (28,⟨true,[.d (.int .i64 0),.d (.int .i64 0),.mt],[(0,1,false),(1,1,false),(2,1,false)],none,none,true,false⟩),
  (29,⟨false,[.mt],[],some .int,none,false,false⟩),
  (49,⟨false,[.mt],[],some .rats,none,false,false⟩),
  (60,⟨true,[.d (.int .i64 0),.d (.int .i64 0),.mt,.mt,.mt],[(0,3,true),(3,1,false),(4,1,false)],none,none,true,false⟩),
  (65,⟨true,[.d (.bool false),.mt],[(0,1,false),(1,1,false)],none,none,true,false⟩),
  (67,⟨true,[.d (.bool false),.mt,.mt],[(0,2,true),(2,1,false)],none,none,true,false⟩),
  (75,⟨true,[.d (.bool false),.mt],[(0,1,false),(1,1,false)],none,none,true,false⟩),
  (77,⟨true,[.d (.bool false),.mt,.mt],[(0,2,true),(2,1,false)],none,none,true,false⟩)]
def zbA:List (TypeId × TI):=[
  (3,⟨false,[.d (.int .i64 0)],[],none,some (.int .i64),false,false⟩),
  (4,⟨false,[.d (.bool false)],[],none,some .bool,false,false⟩),
  (22,⟨false,[.mt],[],some .rat,none,false,true⟩),
  (24,⟨true,[.d (.int .i64 0),.d (.int .i64 0),.mt],[(0,1,false),(1,1,false),(2,1,false)],none,none,true,false⟩),
  (26,⟨false,[.mt],[],some .rat,none,false,true⟩),
  (28,⟨true,[.d (.int .i64 0),.d (.int .i64 0),.mt],[(0,1,false),(1,1,false),(2,1,false)],none,none,true,false⟩),
  (29,⟨false,[.mt],[],some .int,none,false,false⟩),
  (49,⟨false,[.mt],[],some .rats,none,false,true⟩),
  (60,⟨true,[.d (.int .i64 0),.d (.int .i64 0),.mt,.mt,.mt],[(0,3,true),(3,1,false),(4,1,false)],none,none,true,false⟩),
  (65,⟨true,[.d (.bool false),.mt],[(0,1,false),(1,1,false)],none,none,true,false⟩),
  (67,⟨true,[.d (.bool false),.mt,.mt],[(0,2,true),(2,1,false)],none,none,true,false⟩),
  (75,⟨true,[.d (.bool false),.mt],[(0,1,false),(1,1,false)],none,none,true,false⟩),
  (77,⟨true,[.d (.bool false),.mt,.mt],[(0,2,true),(2,1,false)],none,none,true,false⟩)]
theorem zhX:zcC Tryz.prog lay:=zmK (by kernel_rfl)
theorem zaf:zcC Tryz.prog zbA:=zmK (by kernel_rfl)
theorem zhq:zcC Tryz.prog zPM:=zmK (by kernel_rfl)
theorem mix:Tryz.prog.follows .mixedOrders=true:=by kernel_rfl
def zNM:Sig:=⟨[(false,[.d (.sl .int)]),(false,[.d (.int .i64)])],[],false,[(false,[.d (.int .i64)])],[]⟩
def zON:Con:=⟨zNM,Int,fun x=>zeB x.1 x.2.1,fun r=>(r,())⟩
def zEH:Code:=Tryz.f100.body.getD .skip
def zRm:Env:=⟨zbA,[],[],[]⟩
theorem zMN:zaj Tryz.prog FX zRm.cons:=zae
theorem zGp:zad zEH=[]:=by kernel_rfl
theorem zRb:zaw Tryz.prog FX 100 zON:=zai (E:=zRm) (code:=zEH) mix zaf zMN Tryz.func100 (by kernel_rfl) zNM (by kernel_rfl) (fun y=>y.1) zON.out (fun _=>rfl) zON.run (fun x=>by kernel_rfl) (by kernel_rfl) (zac zGp (trivial))
def zNL:Sig:=⟨[(true,[.d (.bool),.d (.sl .int)]),(false,[.d (.int .i64)])],[],false,[(false,[.d (.int .i64)])],[]⟩
def zPU:Con:=⟨zNL,Int,fun x=>zf7 (⟨x.1,x.2.1⟩:Bg) x.2.2.1,fun r=>(r,())⟩
def zEG:Code:=Tryz.f99.body.getD .skip
def zRl:Env:=⟨zbA,[(100,zON)],[],[]⟩
theorem zMM:zaj Tryz.prog FX zRl.cons:=zaa zRb (zab Tryz.func100 (by kernel_rfl)) rfl (zae)
theorem zGo:zad zEG=[]:=by kernel_rfl
theorem zRv:zaw Tryz.prog FX 99 zPU:=zai (E:=zRl) (code:=zEG) mix zaf zMM Tryz.func99 (by kernel_rfl) zNL (by kernel_rfl) (fun y=>y.1) zPU.out (fun _=>rfl) zPU.run (fun x=>by kernel_rfl) (by kernel_rfl) (zac zGo (trivial))
def zNK:Sig:=⟨[(true,[.d (.bool),.d (.sl .int),.d (.sl .int)]),(false,[.d (.int .i64)])],[],false,[(false,[.d (.int .i64)])],[]⟩
def zPT:Con:=⟨zNK,Int,fun x=>zgq (⟨x.1,x.2.1,x.2.2.1⟩:Rt) x.2.2.2.1,fun r=>(r,())⟩
def zEF:Code:=Tryz.f52.body.getD .skip
def zRk:Env:=⟨zbA,[(99,zPU),(100,zON)],[],[]⟩
theorem zML:zaj Tryz.prog FX zRk.cons:=zaa zRv (zab Tryz.func99 (by kernel_rfl)) rfl (zaa zRb (zab Tryz.func100 (by kernel_rfl)) rfl (zae))
theorem zGn:zad zEF=[]:=by kernel_rfl
theorem zRu:zaw Tryz.prog FX 52 zPT:=zai (E:=zRk) (code:=zEF) mix zaf zML Tryz.func52 (by kernel_rfl) zNK (by kernel_rfl) (fun y=>y.1) zPT.out (fun _=>rfl) zPT.run (fun x=>by kernel_rfl) (by kernel_rfl) (zac zGn (trivial))
def zNJ:Sig:=⟨[(false,[.d (.sl .rat)]),(false,[.d (.int .i64)])],[],false,[(false,[.d (.int .i64)])],[]⟩
def zPS:Con:=⟨zNJ,Int,fun x=>zhU x.1 x.2.1,fun r=>(r,())⟩
def zvw:Code:=Tryz.f23.body.getD .skip
def zk1:Code:=(zad zvw).getD 0 .skip
def zpx:LoopD:=⟨⟨zah [(0,false,[.d (.sl .rat)]),(1,false,[.d (.int .i64)]),(5,false,[.d (.int .i64)])] 27 0,[]⟩,[],[(.ret,⟨zah [(4,false,[.d (.int .i64)])] 27 0,[]⟩,[]),(.exit 0,⟨zah [(1,false,[.d (.int .i64)])] 27 0,[]⟩,[])]⟩
def zyG (x:Tys zpx.head.ks):Option (zcp zpx.outs):=@whileO ((List Rt) × Int × Int × Unit) ((Int × Unit) ⊕ (Int × Unit)) zem x
def zQ6:Env:=⟨zbA,[(52,zPT)],[(5,zaT zpx zyG)],[]⟩
theorem zEu:zaj Tryz.prog FX zQ6.cons:=zaa zRu (zab Tryz.func52 (by kernel_rfl)) rfl (zae)
theorem zFl (x:Tys zpx.head.ks):stepL zQ6 zpx zk1 x=zem x:=by kernel_rfl
theorem zzd:zad zk1=[]:=by kernel_rfl
theorem zOB:zay Tryz.prog FX (zaT zpx zyG) zk1:=zam mix zaf zEu (by kernel_rfl) (zac zzd (trivial)) zFl fun _ _ h=>h
theorem zGm:zad zvw=[zk1]:=by kernel_rfl
theorem zRt:zaw Tryz.prog FX 23 zPS:=zai (E:=zQ6) (code:=zvw) mix zaf zEu Tryz.func23 (by kernel_rfl) zNJ (by kernel_rfl) (fun y=>y.1) zPS.out (fun _=>rfl) zPS.run (fun x=>by kernel_rfl) (by kernel_rfl) (zac zGm (⟨⟨_,by kernel_rfl,zOB⟩,trivial⟩))
def zNI:Sig:=⟨[(true,[.d (.int .i64),.d (.int .i64),.d (.sl .rat)]),(false,[.d (.int .i64)])],[],false,[(false,[.d (.int .i64)])],[]⟩
def zPR:Con:=⟨zNI,Int,fun x=>zeA (⟨x.1,x.2.1,x.2.2.1⟩:Mx) x.2.2.2.1,fun r=>(r,())⟩
def zEE:Code:=Tryz.f8.body.getD .skip
def zRj:Env:=⟨zbA,[(23,zPS)],[],[]⟩
theorem zMK:zaj Tryz.prog FX zRj.cons:=zaa zRt (zab Tryz.func23 (by kernel_rfl)) rfl (zae)
theorem zGl:zad zEE=[]:=by kernel_rfl
theorem zRs:zaw Tryz.prog FX 8 zPR:=zai (E:=zRj) (code:=zEE) mix zaf zMK Tryz.func8 (by kernel_rfl) zNI (by kernel_rfl) (fun y=>y.1) zPR.out (fun _=>rfl) zPR.run (fun x=>by kernel_rfl) (by kernel_rfl) (zac zGl (trivial))
def zNH:Sig:=⟨[(false,[.d (.sl .int)])],[],false,[(false,[.own 0])],[(0,.arr false .int)]⟩
def zOM:Con:=⟨zNH,List Int,fun x=>zez x.1,fun r=>(r,())⟩
def zvv:Code:=Tryz.f103.body.getD .skip
def zk0:Code:=(zad zvv).getD 0 .skip
def zpw:LoopD:=⟨⟨zah [(0,false,[.d (.sl .int)]),(3,false,[.own 1472]),(4,false,[.d (.int .i64)])] 22 0,[(1472,.arr false .int)]⟩,[],[(.exit 0,⟨zah [(3,false,[.own 1472])] 22 0,[(1472,.arr false .int)]⟩,[])]⟩
def zyF (x:Tys zpw.head.ks):Option (zcp zpw.outs):=@whileO ((List Int) × Int × (List Int) × Unit) ((List Int) × Unit) zdr x
def zQ5:Env:=⟨zbA,[],[(3,zaT zpw zyF)],[]⟩
theorem zEt:zaj Tryz.prog FX zQ5.cons:=zae
theorem zFk (x:Tys zpw.head.ks):stepL zQ5 zpw zk0 x=zdr x:=by kernel_rfl
theorem zzc:zad zk0=[]:=by kernel_rfl
theorem zOA:zay Tryz.prog FX (zaT zpw zyF) zk0:=zam mix zaf zEt (by kernel_rfl) (zac zzc (trivial)) zFk fun _ _ h=>h
theorem zGk:zad zvv=[zk0]:=by kernel_rfl
theorem zRa:zaw Tryz.prog FX 103 zOM:=zai (E:=zQ5) (code:=zvv) mix zaf zEt Tryz.func103 (by kernel_rfl) zNH (by kernel_rfl) (fun y=>y.1) zOM.out (fun _=>rfl) zOM.run (fun x=>by kernel_rfl) (by kernel_rfl) (zac zGk (⟨⟨_,by kernel_rfl,zOA⟩,trivial⟩))
def zNG:Sig:=⟨[(true,[.d (.bool),.d (.sl .int)])],[],false,[(true,[.d (.bool),.own 0])],[(0,.arr false .int)]⟩
def zPQ:Con:=⟨zNG,Bg,fun x=>zf6 (⟨x.1,x.2.1⟩:Bg),fun r=>(r.neg,r.mag,())⟩
def zED:Code:=Tryz.f102.body.getD .skip
def zRi:Env:=⟨zbA,[(103,zOM)],[],[]⟩
theorem zMJ:zaj Tryz.prog FX zRi.cons:=zaa zRa (zab Tryz.func103 (by kernel_rfl)) rfl (zae)
theorem zGj:zad zED=[]:=by kernel_rfl
theorem zRr:zaw Tryz.prog FX 102 zPQ:=zai (E:=zRi) (code:=zED) mix zaf zMJ Tryz.func102 (by kernel_rfl) zNG (by kernel_rfl) (fun y=>(⟨y.1,y.2.1⟩:Bg)) zPQ.out (fun _=>rfl) zPQ.run (fun x=>by kernel_rfl) (by kernel_rfl) (zac zGj (trivial))
def zNF:Sig:=⟨[(true,[.d (.bool),.d (.sl .int),.d (.sl .int)])],[],false,[(true,[.d (.bool),.own 0,.own 1])],[(0,.arr false .int),(1,.arr false .int)]⟩
def zPP:Con:=⟨zNF,Rt,fun x=>zgp (⟨x.1,x.2.1,x.2.2.1⟩:Rt),fun r=>(r.neg,r.mag,r.den,())⟩
def zEC:Code:=Tryz.f55.body.getD .skip
def zRh:Env:=⟨zbA,[(102,zPQ),(103,zOM)],[],[]⟩
theorem zMI:zaj Tryz.prog FX zRh.cons:=zaa zRr (zab Tryz.func102 (by kernel_rfl)) rfl (zaa zRa (zab Tryz.func103 (by kernel_rfl)) rfl (zae))
theorem zGi:zad zEC=[]:=by kernel_rfl
theorem zRq:zaw Tryz.prog FX 55 zPP:=zai (E:=zRh) (code:=zEC) mix zaf zMI Tryz.func55 (by kernel_rfl) zNF (by kernel_rfl) (fun y=>(⟨y.1,y.2.1,y.2.2.1⟩:Rt)) zPP.out (fun _=>rfl) zPP.run (fun x=>by kernel_rfl) (by kernel_rfl) (zac zGi (trivial))
def zNE:Sig:=⟨[(false,[.d (.sl .rat)])],[],false,[(false,[.dp 0])],[(0,.deep .rat)]⟩
def zPO:Con:=⟨zNE,List Rt,fun x=>zfB x.1,fun r=>(r,())⟩
def zvu:Code:=Tryz.f25.body.getD .skip
def zkZ:Code:=(zad zvu).getD 0 .skip
def zpv:LoopD:=⟨⟨zah [(0,false,[.d (.sl .rat)]),(3,false,[.dp 1536]),(4,false,[.d (.int .i64)])] 23 0,[(1536,.deep .rat)]⟩,[],[(.exit 0,⟨zah [(3,false,[.dp 1536])] 23 0,[(1536,.deep .rat)]⟩,[])]⟩
def zyE (x:Tys zpv.head.ks):Option (zcp zpv.outs):=@whileO ((List Rt) × Int × (List Rt) × Unit) ((List Rt) × Unit) zdq x
def zQ4:Env:=⟨zbA,[(55,zPP)],[(3,zaT zpv zyE)],[]⟩
theorem zEs:zaj Tryz.prog FX zQ4.cons:=zaa zRq (zab Tryz.func55 (by kernel_rfl)) rfl (zae)
theorem zFj (x:Tys zpv.head.ks):stepL zQ4 zpv zkZ x=zdq x:=by kernel_rfl
theorem zzb:zad zkZ=[]:=by kernel_rfl
theorem zOz:zay Tryz.prog FX (zaT zpv zyE) zkZ:=zam mix zaf zEs (by kernel_rfl) (zac zzb (trivial)) zFj fun _ _ h=>h
theorem zGh:zad zvu=[zkZ]:=by kernel_rfl
theorem zRp:zaw Tryz.prog FX 25 zPO:=zai (E:=zQ4) (code:=zvu) mix zaf zEs Tryz.func25 (by kernel_rfl) zNE (by kernel_rfl) (fun y=>y.1) zPO.out (fun _=>rfl) zPO.run (fun x=>by kernel_rfl) (by kernel_rfl) (zac zGh (⟨⟨_,by kernel_rfl,zOz⟩,trivial⟩))
def zKk:Sig:=⟨[(true,[.d (.int .i64),.d (.int .i64),.d (.sl .rat)])],[],false,[(true,[.d (.int .i64),.d (.int .i64),.dp 0])],[(0,.deep .rat)]⟩
def zII:Con:=⟨zKk,Mx,fun x=>zce (⟨x.1,x.2.1,x.2.2.1⟩:Mx),fun r=>(r.rows,r.cols,r.cells,())⟩
def zye:Code:=Tryz.f10.body.getD .skip
def zPI:Env:=⟨zbA,[(25,zPO)],[],[]⟩
theorem zHS:zaj Tryz.prog FX zPI.cons:=zaa zRp (zab Tryz.func25 (by kernel_rfl)) rfl (zae)
theorem zDH:zad zye=[]:=by kernel_rfl
theorem zQT:zaw Tryz.prog FX 10 zII:=zai (E:=zPI) (code:=zye) mix zaf zHS Tryz.func10 (by kernel_rfl) zKk (by kernel_rfl) (fun y=>(⟨y.1,y.2.1,y.2.2.1⟩:Mx)) zII.out (fun _=>rfl) zII.run (fun x=>by kernel_rfl) (by kernel_rfl) (zac zDH (trivial))
def zKj:Sig:=⟨[(false,[.d (.int .i64)]),(false,[.d (.int .i64)]),(false,[.d (.int .i64)])],[],false,[(false,[.d (.bool)])],[]⟩
def zE8:Con:=⟨zKj,Bool,fun x=>zdu x.1 x.2.1 x.2.2.1,fun r=>(r,())⟩
def zyd:Code:=Tryz.f70.body.getD .skip
def zPH:Env:=⟨zbA,[],[],[]⟩
theorem zHR:zaj Tryz.prog FX zPH.cons:=zae
theorem zDG:zad zyd=[]:=by kernel_rfl
theorem zOq:zaw Tryz.prog FX 70 zE8:=zai (E:=zPH) (code:=zyd) mix zaf zHR Tryz.func70 (by kernel_rfl) zKj (by kernel_rfl) (fun y=>y.1) zE8.out (fun _=>rfl) zE8.run (fun x=>by kernel_rfl) (by kernel_rfl) (zac zDG (trivial))
def zKi:Sig:=⟨[(false,[.d (.sl .int)])],[],false,[(false,[.d (.bool)])],[]⟩
def zzU:Con:=⟨zKi,Bool,fun x=>zea x.1,fun r=>(r,())⟩
def zqO:Code:=Tryz.f114.body.getD .skip
def zjJ:Code:=(zad zqO).getD 0 .skip
def zma:LoopD:=⟨⟨zah [(0,false,[.d (.sl .int)]),(5,false,[.d (.sl .int)]),(6,false,[.d (.int .i64)]),(7,false,[.d (.int .i64)])] 32 0,[]⟩,[],[(.ret,⟨zah [(2,false,[.d (.bool)])] 32 0,[]⟩,[]),(.exit 0,⟨zah [(0,false,[.d (.sl .int)])] 32 0,[]⟩,[])]⟩
def ztO (x:Tys zma.head.ks):Option (zcp zma.outs):=@whileO ((List Int) × (List Int) × Int × Int × Unit) ((Bool × Unit) ⊕ ((List Int) × Unit)) zdb x
def zNr:Env:=⟨zbA,[(70,zE8)],[(2,zaT zma ztO)],[]⟩
theorem zxp:zaj Tryz.prog FX zNr.cons:=zaa zOq (zab Tryz.func70 (by kernel_rfl)) rfl (zae)
theorem zAM (x:Tys zma.head.ks):stepL zNr zma zjJ x=zdb x:=by kernel_rfl
theorem zu8:zad zjJ=[]:=by kernel_rfl
theorem zMt:zay Tryz.prog FX (zaT zma ztO) zjJ:=zam mix zaf zxp (by kernel_rfl) (zac zu8 (trivial)) zAM fun _ _ h=>h
theorem zDF:zad zqO=[zjJ]:=by kernel_rfl
theorem zLA:zaw Tryz.prog FX 114 zzU:=zai (E:=zNr) (code:=zqO) mix zaf zxp Tryz.func114 (by kernel_rfl) zKi (by kernel_rfl) (fun y=>y.1) zzU.out (fun _=>rfl) zzU.run (fun x=>by kernel_rfl) (by kernel_rfl) (zac zDF (⟨⟨_,by kernel_rfl,zMt⟩,trivial⟩))
def zKh:Sig:=⟨[(true,[.d (.bool),.d (.sl .int)])],[],false,[(false,[.d (.bool)])],[]⟩
def zIH:Con:=⟨zKh,Bool,fun x=>zf5 (⟨x.1,x.2.1⟩:Bg),fun r=>(r,())⟩
def zyc:Code:=Tryz.f113.body.getD .skip
def zPG:Env:=⟨zbA,[(114,zzU)],[],[]⟩
theorem zHQ:zaj Tryz.prog FX zPG.cons:=zaa zLA (zab Tryz.func114 (by kernel_rfl)) rfl (zae)
theorem zDE:zad zyc=[]:=by kernel_rfl
theorem zQS:zaw Tryz.prog FX 113 zIH:=zai (E:=zPG) (code:=zyc) mix zaf zHQ Tryz.func113 (by kernel_rfl) zKh (by kernel_rfl) (fun y=>y.1) zIH.out (fun _=>rfl) zIH.run (fun x=>by kernel_rfl) (by kernel_rfl) (zac zDE (trivial))
def zKg:Sig:=⟨[(false,[.d (.sl .int)]),(false,[.d (.sl .int)])],[],false,[(false,[.d (.int .i64)])],[]⟩
def zvD:Con:=⟨zKg,Int,fun x=>zc4 x.1 x.2.1,fun r=>(r,())⟩
def zqN:Code:=Tryz.f149.body.getD .skip
def zjI:Code:=(zad zqN).getD 0 .skip
def zl9:LoopD:=⟨⟨zah [(0,false,[.d (.sl .int)]),(1,false,[.d (.sl .int)]),(5,false,[.d (.int .i64)])] 41 0,[]⟩,[],[(.ret,⟨zah [(4,false,[.d (.int .i64)])] 41 0,[]⟩,[]),(.exit 0,⟨zah [] 41 0,[]⟩,[])]⟩
def ztN (x:Tys zl9.head.ks):Option (zcp zl9.outs):=@whileO ((List Int) × (List Int) × Int × Unit) ((Int × Unit) ⊕ (Unit)) zcI x
def zNq:Env:=⟨zbA,[],[(6,zaT zl9 ztN)],[(8,[(0,[]),(1,[]),(2,[]),(3,[]),(4,[]),(5,[]),(6,[]),(7,[]),(8,[])]),(10,[(0,[]),(1,[]),(2,[]),(3,[]),(4,[]),(5,[]),(6,[]),(7,[]),(8,[])])]⟩
theorem zxo:zaj Tryz.prog FX zNq.cons:=zae
theorem zAL (x:Tys zl9.head.ks):stepL zNq zl9 zjI x=zcI x:=by kernel_rfl
theorem zu7:zad zjI=[]:=by kernel_rfl
theorem zMs:zay Tryz.prog FX (zaT zl9 ztN) zjI:=zam mix zaf zxo (by kernel_rfl) (zac zu7 (trivial)) zAL fun _ _ h=>h
theorem zDD:zad zqN=[zjI]:=by kernel_rfl
theorem zGg:zaw Tryz.prog FX 149 zvD:=zai (E:=zNq) (code:=zqN) mix zaf zxo Tryz.func149 (by kernel_rfl) zKg (by kernel_rfl) (fun y=>y.1) zvD.out (fun _=>rfl) zvD.run (fun x=>by kernel_rfl) (by kernel_rfl) (zac zDD (⟨⟨_,by kernel_rfl,zMs⟩,trivial⟩))
def zKf:Sig:=⟨[(false,[.d (.sl .int)])],[],true,[(false,[.d (.int .i64)]),(false,[.d (.bool)])],[]⟩
def zIG:Con:=⟨zKf,Int × Bool,fun x=>zdv x.1,fun r=>(r.1,r.2,())⟩
def zqM:Code:=Tryz.f136.body.getD .skip
def zjH:Code:=(zad zqM).getD 0 .skip
def zl8:LoopD:=⟨⟨zah [(0,false,[.d (.sl .int)]),(4,false,[.d (.int .i64)]),(5,false,[.d (.int .i64)])] 30 0,[]⟩,[],[(.exit 0,⟨zah [(4,false,[.d (.int .i64)])] 30 0,[]⟩,[])]⟩
def ztM (x:Tys zl8.head.ks):Option (zcp zl8.outs):=@whileO ((List Int) × Int × Int × Unit) (Int × Unit) zb3 x
def zNp:Env:=⟨zbA,[(114,zzU),(149,zvD)],[(5,zaT zl8 ztM)],[]⟩
theorem zxn:zaj Tryz.prog FX zNp.cons:=zaa zLA (zab Tryz.func114 (by kernel_rfl)) rfl (zaa zGg (zab Tryz.func149 (by kernel_rfl)) rfl (zae))
theorem zAK (x:Tys zl8.head.ks):stepL zNp zl8 zjH x=zb3 x:=by kernel_rfl
theorem zu6:zad zjH=[]:=by kernel_rfl
theorem zMr:zay Tryz.prog FX (zaT zl8 ztM) zjH:=zam mix zaf zxn (by kernel_rfl) (zac zu6 (trivial)) zAK fun _ _ h=>h
theorem zDC:zad zqM=[zjH]:=by kernel_rfl
theorem zQR:zaw Tryz.prog FX 136 zIG:=zai (E:=zNp) (code:=zqM) mix zaf zxn Tryz.func136 (by kernel_rfl) zKf (by kernel_rfl) (fun y=>(y.1,y.2.1)) zIG.out (fun _=>rfl) zIG.run (fun x=>by kernel_rfl) (by kernel_rfl) (zac zDC (⟨⟨_,by kernel_rfl,zMr⟩,trivial⟩))
def zKe:Sig:=⟨[(false,[.d (.int .i64)])],[],false,[(false,[.own 0])],[(0,.arr false .int)]⟩
def zvC:Con:=⟨zKe,List Int,fun x=>zcs x.1,fun r=>(r,())⟩
def zqL:Code:=Tryz.f133.body.getD .skip
def zjG:Code:=(zad zqL).getD 0 .skip
def zl7:LoopD:=⟨⟨zah [(0,false,[.d (.int .i64)]),(3,false,[.own 1024])] 15 0,[(1024,.arr false .int)]⟩,[(.slot 3 0,1024,.int)],[(.exit 0,⟨zah [(3,false,[.own 1024])] 15 0,[(1024,.arr false .int)]⟩,[(.slot 3 0,1024,.int)])]⟩
def ztL (x:Tys zl7.head.ks):Option (zcp zl7.outs):=@whileO (Int × (List Int) × Unit) ((List Int) × Unit) zcA x
def zNo:Env:=⟨zbA,[],[(2,zaT zl7 ztL)],[]⟩
theorem zxm:zaj Tryz.prog FX zNo.cons:=zae
theorem zAJ (x:Tys zl7.head.ks):stepL zNo zl7 zjG x=zcA x:=by kernel_rfl
theorem zu5:zad zjG=[]:=by kernel_rfl
theorem zMq:zay Tryz.prog FX (zaT zl7 ztL) zjG:=zam mix zaf zxm (by kernel_rfl) (zac zu5 (trivial)) zAJ fun _ _ h=>h
theorem zDB:zad zqL=[zjG]:=by kernel_rfl
theorem zGf:zaw Tryz.prog FX 133 zvC:=zai (E:=zNo) (code:=zqL) mix zaf zxm Tryz.func133 (by kernel_rfl) zKe (by kernel_rfl) (fun y=>y.1) zvC.out (fun _=>rfl) zvC.run (fun x=>by kernel_rfl) (by kernel_rfl) (zac zDB (⟨⟨_,by kernel_rfl,zMq⟩,trivial⟩))
def zKd:Sig:=⟨[(false,[.d (.int .i64)]),(false,[.d (.int .i64)])],[],false,[(false,[.own 0])],[(0,.arr false .int)]⟩
def zIF:Con:=⟨zKd,List Int,fun x=>zeu x.1 x.2.1,fun r=>(r,())⟩
def zqK:Code:=Tryz.f137.body.getD .skip
def zjF:Code:=(zad zqK).getD 0 .skip
def zl6:LoopD:=⟨⟨zah [(0,false,[.d (.int .i64)]),(1,false,[.d (.int .i64)])] 15 0,[]⟩,[],[(.exit 0,⟨zah [(0,false,[.d (.int .i64)])] 15 0,[]⟩,[])]⟩
def ztK (x:Tys zl6.head.ks):Option (zcp zl6.outs):=@whileO (Int × Int × Unit) (Int × Unit) zb1 x
def zNn:Env:=⟨zbA,[(133,zvC)],[(1,zaT zl6 ztK)],[]⟩
theorem zxl:zaj Tryz.prog FX zNn.cons:=zaa zGf (zab Tryz.func133 (by kernel_rfl)) rfl (zae)
theorem zAI (x:Tys zl6.head.ks):stepL zNn zl6 zjF x=zb1 x:=by kernel_rfl
theorem zu4:zad zjF=[]:=by kernel_rfl
theorem zMp:zay Tryz.prog FX (zaT zl6 ztK) zjF:=zam mix zaf zxl (by kernel_rfl) (zac zu4 (trivial)) zAI fun _ _ h=>h
theorem zDA:zad zqK=[zjF]:=by kernel_rfl
theorem zQQ:zaw Tryz.prog FX 137 zIF:=zai (E:=zNn) (code:=zqK) mix zaf zxl Tryz.func137 (by kernel_rfl) zKd (by kernel_rfl) (fun y=>y.1) zIF.out (fun _=>rfl) zIF.run (fun x=>by kernel_rfl) (by kernel_rfl) (zac zDA (⟨⟨_,by kernel_rfl,zMp⟩,trivial⟩))
def zKc:Sig:=⟨[(false,[.own 0])],[(0,.arr false .int)],false,[(false,[.own 0])],[(0,.arr false .int)]⟩
def zvB:Con:=⟨zKc,List Int,fun x=>zbk x.1,fun r=>(r,())⟩
def zqJ:Code:=Tryz.f139.body.getD .skip
def zjE:Code:=(zad zqJ).getD 0 .skip
def zl5:LoopD:=⟨⟨zah [(0,false,[.own 1408]),(3,false,[.d (.int .i64)])] 21 0,[(1408,.arr false .int)]⟩,[],[(.exit 0,⟨zah [(0,false,[.own 1408]),(3,false,[.d (.int .i64)])] 21 0,[(1408,.arr false .int)]⟩,[])]⟩
def ztJ (x:Tys zl5.head.ks):Option (zcp zl5.outs):=@whileO (Int × (List Int) × Unit) (Int × (List Int) × Unit) zbN x
def zNm:Env:=⟨zbA,[],[(2,zaT zl5 ztJ)],[]⟩
theorem zxk:zaj Tryz.prog FX zNm.cons:=zae
theorem zAH (x:Tys zl5.head.ks):stepL zNm zl5 zjE x=zbN x:=by kernel_rfl
theorem zu3:zad zjE=[]:=by kernel_rfl
theorem zMo:zay Tryz.prog FX (zaT zl5 ztJ) zjE:=zam mix zaf zxk (by kernel_rfl) (zac zu3 (trivial)) zAH fun _ _ h=>h
theorem zDz:zad zqJ=[zjE]:=by kernel_rfl
theorem zGe:zaw Tryz.prog FX 139 zvB:=zai (E:=zNm) (code:=zqJ) mix zaf zxk Tryz.func139 (by kernel_rfl) zKc (by kernel_rfl) (fun y=>y.1) zvB.out (fun _=>rfl) zvB.run (fun x=>by kernel_rfl) (by kernel_rfl) (zac zDz (⟨⟨_,by kernel_rfl,zMo⟩,trivial⟩))
def zKb:Sig:=⟨[(false,[.d (.sl .int)]),(false,[.d (.int .i64)])],[],true,[(false,[.own 0]),(false,[.d (.int .i64)])],[(0,.arr false .int)]⟩
def zIE:Con:=⟨zKb,List Int × Int,fun x=>zet x.1 x.2.1,fun r=>(r.2,r.1,())⟩
def zqI:Code:=Tryz.f150.body.getD .skip
def zjD:Code:=(zad zqI).getD 0 .skip
def zl4:LoopD:=⟨⟨zah [(0,false,[.d (.sl .int)]),(1,false,[.d (.int .i64)]),(6,false,[.own 2560]),(7,false,[.d (.int .i64)]),(8,false,[.d (.int .i64)])] 39 0,[(2560,.arr false .int)]⟩,[],[(.exit 0,⟨zah [(6,false,[.own 2560]),(7,false,[.d (.int .i64)])] 39 0,[(2560,.arr false .int)]⟩,[])]⟩
def ztI (x:Tys zl4.head.ks):Option (zcp zl4.outs):=@whileO ((List Int) × Int × Int × Int × (List Int) × Unit) (Int × (List Int) × Unit) zbm x
def zNl:Env:=⟨zbA,[(139,zvB)],[(4,zaT zl4 ztI)],[]⟩
theorem zxj:zaj Tryz.prog FX zNl.cons:=zaa zGe (zab Tryz.func139 (by kernel_rfl)) rfl (zae)
theorem zAG (x:Tys zl4.head.ks):stepL zNl zl4 zjD x=zbm x:=by kernel_rfl
theorem zu1:zad zjD=[]:=by kernel_rfl
theorem zMn:zay Tryz.prog FX (zaT zl4 ztI) zjD:=zam mix zaf zxj (by kernel_rfl) (zac zu1 (trivial)) zAG fun _ _ h=>h
theorem zDy:zad zqI=[zjD]:=by kernel_rfl
theorem zQP:zaw Tryz.prog FX 150 zIE:=zai (E:=zNl) (code:=zqI) mix zaf zxj Tryz.func150 (by kernel_rfl) zKb (by kernel_rfl) (fun y=>(y.2.1,y.1)) zIE.out (fun _=>rfl) zIE.run (fun x=>by kernel_rfl) (by kernel_rfl) (zac zDy (⟨⟨_,by kernel_rfl,zMn⟩,trivial⟩))
def zKa:Sig:=⟨[(false,[.d (.sl .int)]),(false,[.d (.sl .int)])],[],false,[(false,[.own 0])],[(0,.arr false .int)]⟩
def zsN:Con:=⟨zKa,List Int,fun x=>zat x.1 x.2.1,fun r=>(r,())⟩
def zqH:Code:=Tryz.f118.body.getD .skip
def zgX:Code:=(zad zqH).getD 0 .skip
def zjC:Code:=(zad zgX).getD 0 .skip
def zl3:LoopD:=⟨⟨zah [(1,false,[.d (.sl .int)]),(5,false,[.own 4672]),(26,false,[.d (.sl .int)]),(27,false,[.d (.int .i64)]),(28,false,[.d (.int .i64)])] 72 0,[(4672,.arr false .int)]⟩,[],[(.exit 0,⟨zah [(5,false,[.own 4672])] 72 0,[(4672,.arr false .int)]⟩,[])]⟩
def zl2:LoopD:=⟨⟨zah [(1,false,[.d (.sl .int)]),(5,false,[.own 4672]),(6,false,[.d (.int .i64)]),(7,false,[.d (.int .i64)]),(8,false,[.d (.int .i64)]),(26,false,[.d (.sl .int)]),(27,false,[.d (.int .i64)]),(28,false,[.d (.int .i64)]),(33,false,[.d (.sl .int)]),(34,false,[.d (.int .i64)]),(35,false,[.d (.int .i64)])] 72 0,[(4672,.arr false .int)]⟩,[],[(.exit 2,⟨zah [(1,false,[.d (.sl .int)]),(5,false,[.own 4672]),(6,false,[.d (.int .i64)]),(8,false,[.d (.int .i64)]),(26,false,[.d (.sl .int)]),(27,false,[.d (.int .i64)]),(28,false,[.d (.int .i64)])] 72 0,[(4672,.arr false .int)]⟩,[])]⟩
def ztH (x:Tys zl3.head.ks):Option (zcp zl3.outs):=@whileO ((List Int) × (List Int) × Int × Int × (List Int) × Unit) ((List Int) × Unit) zcH x
def ztG (x:Tys zl2.head.ks):Option (zcp zl2.outs):=@whileO ((List Int) × Int × Int × Int × (List Int) × Int × Int × (List Int) × Int × Int × (List Int) × Unit) ((List Int) × Int × Int × (List Int) × Int × Int × (List Int) × Unit) zcG x
def zIU:Env:=⟨zbA,[(139,zvB)],[(5,zaT zl3 ztH),(9,zaT zl2 ztG)],[]⟩
theorem zqf:zaj Tryz.prog FX zIU.cons:=zaa zGe (zab Tryz.func139 (by kernel_rfl)) rfl (zae)
theorem zAE (x:Tys zl2.head.ks):stepL zIU zl2 zjC x=zcG x:=by kernel_rfl
theorem zuZ:zad zjC=[]:=by kernel_rfl
theorem zMl:zay Tryz.prog FX (zaT zl2 ztG) zjC:=zam mix zaf zqf (by kernel_rfl) (zac zuZ (trivial)) zAE fun _ _ h=>h
theorem zAF (x:Tys zl3.head.ks):stepL zIU zl3 zgX x=zcH x:=by kernel_rfl
theorem zu0:zad zgX=[zjC]:=by kernel_rfl
theorem zMm:zay Tryz.prog FX (zaT zl3 ztH) zgX:=zam mix zaf zqf (by kernel_rfl) (zac zu0 (⟨⟨_,by kernel_rfl,zMl⟩,trivial⟩)) zAF fun _ _ h=>h
theorem zDx:zad zqH=[zgX]:=by kernel_rfl
theorem zCh:zaw Tryz.prog FX 118 zsN:=zai (E:=zIU) (code:=zqH) mix zaf zqf Tryz.func118 (by kernel_rfl) zKa (by kernel_rfl) (fun y=>y.1) zsN.out (fun _=>rfl) zsN.run (fun x=>by kernel_rfl) (by kernel_rfl) (zac zDx (⟨⟨_,by kernel_rfl,zMm⟩,trivial⟩))
def zJ9:Sig:=⟨[(false,[.d (.sl .int)]),(false,[.d (.sl .int)])],[],false,[(false,[.d (.int .i64)])],[]⟩
def zID:Con:=⟨zJ9,Int,fun x=>zew x.1 x.2.1,fun r=>(r,())⟩
def zqG:Code:=Tryz.f151.body.getD .skip
def zjB:Code:=(zad zqG).getD 0 .skip
def zl1:LoopD:=⟨⟨zah [(0,false,[.d (.sl .int)]),(1,false,[.d (.sl .int)]),(5,false,[.d (.int .i64)]),(6,false,[.d (.int .i64)])] 27 0,[]⟩,[],[(.exit 0,⟨zah [(5,false,[.d (.int .i64)])] 27 0,[]⟩,[])]⟩
def ztF (x:Tys zl1.head.ks):Option (zcp zl1.outs):=@whileO ((List Int) × (List Int) × Int × Int × Unit) (Int × Unit) zb2 x
def zNk:Env:=⟨zbA,[(133,zvC),(118,zsN),(149,zvD)],[(3,zaT zl1 ztF)],[]⟩
theorem zxi:zaj Tryz.prog FX zNk.cons:=zaa zGf (zab Tryz.func133 (by kernel_rfl)) rfl (zaa zCh (zab Tryz.func118 (by kernel_rfl)) rfl (zaa zGg (zab Tryz.func149 (by kernel_rfl)) rfl (zae)))
theorem zAD (x:Tys zl1.head.ks):stepL zNk zl1 zjB x=zb2 x:=by kernel_rfl
theorem zuY:zad zjB=[]:=by kernel_rfl
theorem zMk:zay Tryz.prog FX (zaT zl1 ztF) zjB:=zam mix zaf zxi (by kernel_rfl) (zac zuY (trivial)) zAD fun _ _ h=>h
theorem zDw:zad zqG=[zjB]:=by kernel_rfl
theorem zQO:zaw Tryz.prog FX 151 zID:=zai (E:=zNk) (code:=zqG) mix zaf zxi Tryz.func151 (by kernel_rfl) zJ9 (by kernel_rfl) (fun y=>y.1) zID.out (fun _=>rfl) zID.run (fun x=>by kernel_rfl) (by kernel_rfl) (zac zDw (⟨⟨_,by kernel_rfl,zMk⟩,trivial⟩))
def zJ7:Sig:=⟨[(false,[.d (.sl .int)]),(false,[.d (.sl .int)])],[],false,[(false,[.own 0])],[(0,.arr false .int)]⟩
def zE5:Con:=⟨zJ7,List Int,fun x=>zdI x.1 x.2.1,fun r=>(r,())⟩
def zqE:Code:=Tryz.f152.body.getD .skip
def zjz:Code:=(zad zqE).getD 0 .skip
def zlZ:LoopD:=⟨⟨zah [(0,false,[.d (.sl .int)]),(1,false,[.d (.sl .int)]),(5,false,[.own 2752]),(6,false,[.d (.int .i64)]),(11,false,[.d (.int .i64)]),(12,false,[.d (.int .i64)])] 42 0,[(2752,.arr false .int)]⟩,[(.slot 5 0,2752,.int)],[(.exit 0,⟨zah [(5,false,[.own 2752])] 42 0,[(2752,.arr false .int)]⟩,[(.slot 5 0,2752,.int)])]⟩
def ztD (x:Tys zlZ.head.ks):Option (zcp zlZ.outs):=@whileO ((List Int) × (List Int) × Int × Int × Int × (List Int) × Unit) ((List Int) × Unit) zbF x
def zNi:Env:=⟨zbA,[(139,zvB)],[(4,zaT zlZ ztD)],[]⟩
theorem zxg:zaj Tryz.prog FX zNi.cons:=zaa zGe (zab Tryz.func139 (by kernel_rfl)) rfl (zae)
theorem zAB (x:Tys zlZ.head.ks):stepL zNi zlZ zjz x=zbF x:=by kernel_rfl
theorem zuW:zad zjz=[]:=by kernel_rfl
theorem zMi:zay Tryz.prog FX (zaT zlZ ztD) zjz:=zam mix zaf zxg (by kernel_rfl) (zac zuW (trivial)) zAB fun _ _ h=>h
theorem zDu:zad zqE=[zjz]:=by kernel_rfl
theorem zOf:zaw Tryz.prog FX 152 zE5:=zai (E:=zNi) (code:=zqE) mix zaf zxg Tryz.func152 (by kernel_rfl) zJ7 (by kernel_rfl) (fun y=>y.1) zE5.out (fun _=>rfl) zE5.run (fun x=>by kernel_rfl) (by kernel_rfl) (zac zDu (⟨⟨_,by kernel_rfl,zMi⟩,trivial⟩))
def zJ6:Sig:=⟨[(false,[.d (.sl .int)]),(false,[.d (.sl .int)])],[],true,[(false,[.own 0]),(false,[.own 1])],[(0,.arr false .int),(1,.arr false .int)]⟩
def zE4:Con:=⟨zJ6,List Int × List Int,fun x=>zc3 x.1 x.2.1,fun r=>(r.1,r.2,())⟩
def zqD:Code:=Tryz.f138.body.getD .skip
def zjy:Code:=(zad zqD).getD 0 .skip
def zlY:LoopD:=⟨⟨zah [(0,false,[.d (.sl .int)]),(1,false,[.d (.sl .int)]),(8,false,[.own 4224]),(9,false,[.own 4288]),(10,false,[.d (.int .i64)])] 65 0,[(4224,.arr false .int),(4288,.arr false .int)]⟩,[(.slot 9 0,4288,.int)],[(.exit 0,⟨zah [(8,false,[.own 4224]),(9,false,[.own 4288])] 65 0,[(4224,.arr false .int),(4288,.arr false .int)]⟩,[(.slot 9 0,4288,.int)])]⟩
def ztC (x:Tys zlY.head.ks):Option (zcp zlY.outs):=@whileO ((List Int) × (List Int) × Int × (List Int) × (List Int) × Unit) ((List Int) × (List Int) × Unit) zb9 x
def zNh:Env:=⟨zbA,[(150,zIE),(133,zvC),(139,zvB),(149,zvD),(151,zID),(118,zsN),(152,zE5)],[(7,zaT zlY ztC)],[]⟩
theorem zxf:zaj Tryz.prog FX zNh.cons:=zaa zQP (zab Tryz.func150 (by kernel_rfl)) rfl (zaa zGf (zab Tryz.func133 (by kernel_rfl)) rfl (zaa zGe (zab Tryz.func139 (by kernel_rfl)) rfl (zaa zGg (zab Tryz.func149 (by kernel_rfl)) rfl (zaa zQO (zab Tryz.func151 (by kernel_rfl)) rfl (zaa zCh (zab Tryz.func118 (by kernel_rfl)) rfl (zaa zOf (zab Tryz.func152 (by kernel_rfl)) rfl (zae)))))))
theorem zAA (x:Tys zlY.head.ks):stepL zNh zlY zjy x=zb9 x:=by kernel_rfl
theorem zuV:zad zjy=[]:=by kernel_rfl
theorem zMh:zay Tryz.prog FX (zaT zlY ztC) zjy:=zam mix zaf zxf (by kernel_rfl) (zac zuV (trivial)) zAA fun _ _ h=>h
theorem zDt:zad zqD=[zjy]:=by kernel_rfl
theorem zOe:zaw Tryz.prog FX 138 zE4:=zai (E:=zNh) (code:=zqD) mix zaf zxf Tryz.func138 (by kernel_rfl) zJ6 (by kernel_rfl) (fun y=>(y.1,y.2.1)) zE4.out (fun _=>rfl) zE4.run (fun x=>by kernel_rfl) (by kernel_rfl) (zac zDt (⟨⟨_,by kernel_rfl,zMh⟩,trivial⟩))
def zJ5:Sig:=⟨[(false,[.d (.sl .int)]),(false,[.d (.sl .int)])],[],false,[(false,[.own 0])],[(0,.arr false .int)]⟩
def zE3:Con:=⟨zJ5,List Int,fun x=>zev x.1 x.2.1,fun r=>(r,())⟩
def zqC:Code:=Tryz.f116.body.getD .skip
def zjx:Code:=(zad zqC).getD 0 .skip
def zlX:LoopD:=⟨⟨zah [(5,false,[.own 3392]),(6,false,[.own 3456])] 52 0,[(3392,.arr false .int),(3456,.arr false .int)]⟩,[],[(.ret,⟨zah [(4,false,[.own 3520])] 52 0,[(3520,.arr false .int)]⟩,[]),(.exit 0,⟨zah [(5,false,[.own 3392])] 52 0,[(3392,.arr false .int)]⟩,[])]⟩
def ztB (x:Tys zlX.head.ks):Option (zcp zlX.outs):=@whileO ((List Int) × (List Int) × Unit) (((List Int) × Unit) ⊕ ((List Int) × Unit)) zbG x
def zNg:Env:=⟨zbA,[(136,zIG),(137,zIF),(138,zE4)],[(3,zaT zlX ztB)],[]⟩
theorem zxe:zaj Tryz.prog FX zNg.cons:=zaa zQR (zab Tryz.func136 (by kernel_rfl)) rfl (zaa zQQ (zab Tryz.func137 (by kernel_rfl)) rfl (zaa zOe (zab Tryz.func138 (by kernel_rfl)) rfl (zae)))
theorem zAz (x:Tys zlX.head.ks):stepL zNg zlX zjx x=zbG x:=by kernel_rfl
theorem zuU:zad zjx=[]:=by kernel_rfl
theorem zMg:zay Tryz.prog FX (zaT zlX ztB) zjx:=zam mix zaf zxe (by kernel_rfl) (zac zuU (trivial)) zAz fun _ _ h=>h
theorem zDs:zad zqC=[zjx]:=by kernel_rfl
theorem zOd:zaw Tryz.prog FX 116 zE3:=zai (E:=zNg) (code:=zqC) mix zaf zxe Tryz.func116 (by kernel_rfl) zJ5 (by kernel_rfl) (fun y=>y.1) zE3.out (fun _=>rfl) zE3.run (fun x=>by kernel_rfl) (by kernel_rfl) (zac zDs (⟨⟨_,by kernel_rfl,zMg⟩,trivial⟩))
def zJ4:Sig:=⟨[(false,[.d (.sl .int)])],[],false,[(false,[.d (.bool)])],[]⟩
def zzT:Con:=⟨zJ4,Bool,fun x=>zc2 x.1,fun r=>(r,())⟩
def zyb:Code:=Tryz.f115.body.getD .skip
def zPF:Env:=⟨zbA,[],[],[]⟩
theorem zHP:zaj Tryz.prog FX zPF.cons:=zae
theorem zDr:zad zyb=[]:=by kernel_rfl
theorem zLz:zaw Tryz.prog FX 115 zzT:=zai (E:=zPF) (code:=zyb) mix zaf zHP Tryz.func115 (by kernel_rfl) zJ4 (by kernel_rfl) (fun y=>y.1) zzT.out (fun _=>rfl) zzT.run (fun x=>by kernel_rfl) (by kernel_rfl) (zac zDr (trivial))
def zJ3:Sig:=⟨[(true,[.d (.bool),.d (.sl .int),.d (.sl .int)])],[],false,[(false,[.d (.bool)])],[]⟩
def zIC:Con:=⟨zJ3,Bool,fun x=>zgo (⟨x.1,x.2.1,x.2.2.1⟩:Rt),fun r=>(r,())⟩
def zya:Code:=Tryz.f71.body.getD .skip
def zPE:Env:=⟨zbA,[(113,zIH),(114,zzU),(116,zE3),(115,zzT)],[],[]⟩
theorem zHO:zaj Tryz.prog FX zPE.cons:=zaa zQS (zab Tryz.func113 (by kernel_rfl)) rfl (zaa zLA (zab Tryz.func114 (by kernel_rfl)) rfl (zaa zOd (zab Tryz.func116 (by kernel_rfl)) rfl (zaa zLz (zab Tryz.func115 (by kernel_rfl)) rfl (zae))))
theorem zDq:zad zya=[]:=by kernel_rfl
theorem zQN:zaw Tryz.prog FX 71 zIC:=zai (E:=zPE) (code:=zya) mix zaf zHO Tryz.func71 (by kernel_rfl) zJ3 (by kernel_rfl) (fun y=>y.1) zIC.out (fun _=>rfl) zIC.run (fun x=>by kernel_rfl) (by kernel_rfl) (zac zDq (trivial))
def zJ2:Sig:=⟨[(true,[.d (.int .i64),.d (.int .i64),.d (.sl .rat)])],[],false,[(false,[.d (.bool)])],[]⟩
def zIB:Con:=⟨zJ2,Bool,fun x=>zex (⟨x.1,x.2.1,x.2.2.1⟩:Mx),fun r=>(r,())⟩
def zqB:Code:=Tryz.f34.body.getD .skip
def zjw:Code:=(zad zqB).getD 0 .skip
def zlW:LoopD:=⟨⟨zah [(27,false,[.d (.sl .rat)]),(28,false,[.d (.int .i64)]),(29,false,[.d (.int .i64)])] 37 0,[]⟩,[],[(.ret,⟨zah [(2,false,[.d (.bool)])] 37 0,[]⟩,[]),(.exit 0,⟨zah [] 37 0,[]⟩,[])]⟩
def ztA (x:Tys zlW.head.ks):Option (zcp zlW.outs):=@whileO ((List Rt) × Int × Int × Unit) ((Bool × Unit) ⊕ (Unit)) zbn x
def zNf:Env:=⟨zbA,[(70,zE8),(71,zIC)],[(4,zaT zlW ztA)],[]⟩
theorem zxd:zaj Tryz.prog FX zNf.cons:=zaa zOq (zab Tryz.func70 (by kernel_rfl)) rfl (zaa zQN (zab Tryz.func71 (by kernel_rfl)) rfl (zae))
theorem zAy (x:Tys zlW.head.ks):stepL zNf zlW zjw x=zbn x:=by kernel_rfl
theorem zuT:zad zjw=[]:=by kernel_rfl
theorem zMf:zay Tryz.prog FX (zaT zlW ztA) zjw:=zam mix zaf zxd (by kernel_rfl) (zac zuT (trivial)) zAy fun _ _ h=>h
theorem zDp:zad zqB=[zjw]:=by kernel_rfl
theorem zQM:zaw Tryz.prog FX 34 zIB:=zai (E:=zNf) (code:=zqB) mix zaf zxd Tryz.func34 (by kernel_rfl) zJ2 (by kernel_rfl) (fun y=>y.1) zIB.out (fun _=>rfl) zIB.run (fun x=>by kernel_rfl) (by kernel_rfl) (zac zDp (⟨⟨_,by kernel_rfl,zMf⟩,trivial⟩))
def zJ1:Sig:=⟨[(true,[.d (.bool),.d (.sl .int),.d (.sl .int)])],[],false,[(true,[.d (.bool),.own 0,.own 1])],[(0,.arr false .int),(1,.arr false .int)]⟩
def zIA:Con:=⟨zJ1,Rt,fun x=>ze9 (⟨x.1,x.2.1,x.2.2.1⟩:Rt),fun r=>(r.neg,r.mag,r.den,())⟩
def zx9:Code:=Tryz.f88.body.getD .skip
def zPD:Env:=⟨zbA,[],[],[(1,[(0,[]),(1,[]),(2,[]),(3,[]),(4,[]),(5,[]),(6,[]),(9,[]),(10,[]),(11,[]),(7,[3,6,5,4]),(8,[]),(12,[9,11,7,10,3,6,5,4]),(13,[]),(14,[13,12,0,1,2,3,4,5,6,7,8,9,10,11])])]⟩
theorem zHN:zaj Tryz.prog FX zPD.cons:=zae
theorem zDo:zad zx9=[]:=by kernel_rfl
theorem zQL:zaw Tryz.prog FX 88 zIA:=zai (E:=zPD) (code:=zx9) mix zaf zHN Tryz.func88 (by kernel_rfl) zJ1 (by kernel_rfl) (fun y=>(⟨y.1,y.2.1,y.2.2.1⟩:Rt)) zIA.out (fun _=>rfl) zIA.run (fun x=>by kernel_rfl) (by kernel_rfl) (zac zDo (trivial))
def zJH:Sig:=⟨[(false,[.d (.sl .rat)])],[],false,[(false,[.own 0])],[(0,.arr false .rat)]⟩
def zIn:Con:=⟨zJH,List Rt,fun x=>ze8 x.1,fun r=>(r,())⟩
def zqw:Code:=Tryz.f72.body.getD .skip
def zjo:Code:=(zad zqw).getD 0 .skip
def zlN:LoopD:=⟨⟨zah [(3,false,[.own 1344]),(7,false,[.d (.sl .rat)]),(8,false,[.d (.int .i64)]),(9,false,[.d (.int .i64)])] 20 0,[(1344,.arr false .rat)]⟩,[(.slot 3 0,1344,.rat)],[(.exit 0,⟨zah [(3,false,[.own 1344])] 20 0,[(1344,.arr false .rat)]⟩,[(.slot 3 0,1344,.rat)])]⟩
def ztr (x:Tys zlN.head.ks):Option (zcp zlN.outs):=@whileO ((List Rt) × Int × Int × (List Rt) × Unit) ((List Rt) × Unit) zcj x
def zNc:Env:=⟨lay,[(88,zIA)],[(3,zaT zlN ztr)],[]⟩
theorem zxa:zaj Tryz.prog FX zNc.cons:=zaa zQL (zab Tryz.func88 (by kernel_rfl)) rfl (zae)
theorem zAp (x:Tys zlN.head.ks):stepL zNc zlN zjo x=zcj x:=by kernel_rfl
theorem zuK:zad zjo=[]:=by kernel_rfl
theorem zL6:zay Tryz.prog FX (zaT zlN ztr) zjo:=zam mix zhX zxa (by kernel_rfl) (zac zuK (trivial)) zAp fun _ _ h=>h
theorem zC4:zad zqw=[zjo]:=by kernel_rfl
theorem zQy:zaw Tryz.prog FX 72 zIn:=zai (E:=zNc) (code:=zqw) mix zhX zxa Tryz.func72 (by kernel_rfl) zJH (by kernel_rfl) (fun y=>y.1) zIn.out (fun _=>rfl) zIn.run (fun x=>by kernel_rfl) (by kernel_rfl) (zac zC4 (⟨⟨_,by kernel_rfl,zL6⟩,trivial⟩))
def zJG:Sig:=⟨[(true,[.d (.int .i64),.d (.int .i64),.d (.sl .rat)])],[],false,[(true,[.d (.int .i64),.d (.int .i64),.own 0])],[(0,.arr false .rat)]⟩
def zIm:Con:=⟨zJG,Mx,fun x=>ze6 (⟨x.1,x.2.1,x.2.2.1⟩:Mx),fun r=>(r.rows,r.cols,r.cells,())⟩
def zxT:Code:=Tryz.f35.body.getD .skip
def zPn:Env:=⟨lay,[(72,zIn)],[],[(1,[(0,[]),(1,[]),(2,[]),(3,[]),(4,[]),(5,[]),(6,[5,4]),(7,[]),(8,[7,6,0,1,2,3,4,5])])]⟩
theorem zHx:zaj Tryz.prog FX zPn.cons:=zaa zQy (zab Tryz.func72 (by kernel_rfl)) rfl (zae)
theorem zC3:zad zxT=[]:=by kernel_rfl
theorem zQx:zaw Tryz.prog FX 35 zIm:=zai (E:=zPn) (code:=zxT) mix zhX zHx Tryz.func35 (by kernel_rfl) zJG (by kernel_rfl) (fun y=>(⟨y.1,y.2.1,y.2.2.1⟩:Mx)) zIm.out (fun _=>rfl) zIm.run (fun x=>by kernel_rfl) (by kernel_rfl) (zac zC3 (trivial))
def zJS:Sig:=⟨[(true,[.d (.int .i64),.d (.int .i64),.own 191]),(false,[.d (.int .i64)]),(false,[.d (.int .i64)])],[(191,.arr false .rat)],false,[(true,[.d (.bool),.d (.sl .int),.d (.sl .int)])],[(191,.arr false .rat)]⟩
def zE1:Con:=⟨zJS,Rt × List Rt,fun x=>zaQ (⟨x.1,x.2.1,x.2.2.2.2.1⟩:Mx) x.2.2.1 x.2.2.2.1,fun r=>(r.1.neg,r.1.mag,r.1.den,r.2,())⟩
def zx0:Code:=Tryz.f65.body.getD .skip
def zPu:Env:=⟨zbA,[],[],[]⟩
theorem zHE:zaj Tryz.prog FX zPu.cons:=zae
theorem zDf:zad zx0=[]:=by kernel_rfl
theorem zOb:zaw Tryz.prog FX 65 zE1:=zai (E:=zPu) (code:=zx0) mix zaf zHE Tryz.func65 (by kernel_rfl) zJS (by kernel_rfl) (fun y=>((⟨y.1,y.2.1,y.2.2.1⟩:Rt),y.2.2.2.1)) zE1.out (fun _=>rfl) zE1.run (fun x=>by kernel_rfl) (by kernel_rfl) (zac zDf (trivial))
def zJZ:Sig:=⟨[(true,[.d (.bool),.d (.sl .int),.d (.sl .int)])],[],false,[(false,[.d (.bool)])],[]⟩
def zE2:Con:=⟨zJZ,Bool,fun x=>zc1 (⟨x.1,x.2.1,x.2.2.1⟩:Rt),fun r=>(r,())⟩
def zx7:Code:=Tryz.f73.body.getD .skip
def zPB:Env:=⟨zbA,[],[],[]⟩
theorem zHL:zaj Tryz.prog FX zPB.cons:=zae
theorem zDm:zad zx7=[]:=by kernel_rfl
theorem zOc:zaw Tryz.prog FX 73 zE2:=zai (E:=zPB) (code:=zx7) mix zaf zHL Tryz.func73 (by kernel_rfl) zJZ (by kernel_rfl) (fun y=>y.1) zE2.out (fun _=>rfl) zE2.run (fun x=>by kernel_rfl) (by kernel_rfl) (zac zDm (trivial))
def zJ8:Sig:=⟨[(false,[.d (.sl .int)])],[],false,[(false,[.d (.sl .int)])],[]⟩
def zE6:Con:=⟨zJ8,List Int,fun x=>zdd x.1,fun r=>(r,())⟩
def zqF:Code:=Tryz.f139.body.getD .skip
def zjA:Code:=(zad zqF).getD 0 .skip
def zl0:LoopD:=⟨⟨zah [(0,false,[.d (.sl .int)]),(3,false,[.d (.int .i64)])] 21 0,[]⟩,[],[(.exit 0,⟨zah [(0,false,[.d (.sl .int)]),(3,false,[.d (.int .i64)])] 21 0,[]⟩,[])]⟩
def ztE (x:Tys zl0.head.ks):Option (zcp zl0.outs):=@whileO ((List Int) × Int × Unit) ((List Int) × Int × Unit) zc8 x
def zNj:Env:=⟨zbA,[],[(2,zaT zl0 ztE)],[]⟩
theorem zxh:zaj Tryz.prog FX zNj.cons:=zae
theorem zAC (x:Tys zl0.head.ks):stepL zNj zl0 zjA x=zc8 x:=by kernel_rfl
theorem zuX:zad zjA=[]:=by kernel_rfl
theorem zMj:zay Tryz.prog FX (zaT zl0 ztE) zjA:=zam mix zaf zxh (by kernel_rfl) (zac zuX (trivial)) zAC fun _ _ h=>h
theorem zDv:zad zqF=[zjA]:=by kernel_rfl
theorem zOg:zaw Tryz.prog FX 139 zE6:=zai (E:=zNj) (code:=zqF) mix zaf zxh Tryz.func139 (by kernel_rfl) zJ8 (by kernel_rfl) (fun y=>y.1) zE6.out (fun _=>rfl) zE6.run (fun x=>by kernel_rfl) (by kernel_rfl) (zac zDv (⟨⟨_,by kernel_rfl,zMj⟩,trivial⟩))
def zJY:Sig:=⟨[(false,[.d (.sl .int)])],[],false,[(false,[.d (.sl .int)])],[]⟩
def zIy:Con:=⟨zJY,List Int,fun x=>zfz x.1,fun r=>(r,())⟩
def zx6:Code:=Tryz.f134.body.getD .skip
def zPA:Env:=⟨zbA,[(139,zE6)],[],[]⟩
theorem zHK:zaj Tryz.prog FX zPA.cons:=zaa zOg (zab Tryz.func139 (by kernel_rfl)) rfl (zae)
theorem zDl:zad zx6=[]:=by kernel_rfl
theorem zQJ:zaw Tryz.prog FX 134 zIy:=zai (E:=zPA) (code:=zx6) mix zaf zHK Tryz.func134 (by kernel_rfl) zJY (by kernel_rfl) (fun y=>y.1) zIy.out (fun _=>rfl) zIy.run (fun x=>by kernel_rfl) (by kernel_rfl) (zac zDl (trivial))
def zJX:Sig:=⟨[(false,[.d (.bool)]),(false,[.d (.sl .int)])],[],false,[(true,[.d (.bool),.own 0])],[(0,.arr false .int)]⟩
def zsM:Con:=⟨zJX,Bg,fun x=>zav x.1 x.2.1,fun r=>(r.neg,r.mag,())⟩
def zx5:Code:=Tryz.f110.body.getD .skip
def zPz:Env:=⟨zbA,[(134,zIy)],[],[]⟩
theorem zHJ:zaj Tryz.prog FX zPz.cons:=zaa zQJ (zab Tryz.func134 (by kernel_rfl)) rfl (zae)
theorem zDk:zad zx5=[]:=by kernel_rfl
theorem zCg:zaw Tryz.prog FX 110 zsM:=zai (E:=zPz) (code:=zx5) mix zaf zHJ Tryz.func110 (by kernel_rfl) zJX (by kernel_rfl) (fun y=>(⟨y.1,y.2.1⟩:Bg)) zsM.out (fun _=>rfl) zsM.run (fun x=>by kernel_rfl) (by kernel_rfl) (zac zDk (trivial))
def zJW:Sig:=⟨[(false,[.d (.int .i64)])],[],false,[(true,[.d (.bool),.own 0])],[(0,.arr false .int)]⟩
def zIx:Con:=⟨zJW,Bg,fun x=>zey x.1,fun r=>(r.neg,r.mag,())⟩
def zx4:Code:=Tryz.f109.body.getD .skip
def zPy:Env:=⟨zbA,[(110,zsM),(133,zvC)],[],[]⟩
theorem zHI:zaj Tryz.prog FX zPy.cons:=zaa zCg (zab Tryz.func110 (by kernel_rfl)) rfl (zaa zGf (zab Tryz.func133 (by kernel_rfl)) rfl (zae))
theorem zDj:zad zx4=[]:=by kernel_rfl
theorem zQI:zaw Tryz.prog FX 109 zIx:=zai (E:=zPy) (code:=zx4) mix zaf zHI Tryz.func109 (by kernel_rfl) zJW (by kernel_rfl) (fun y=>(⟨y.1,y.2.1⟩:Bg)) zIx.out (fun _=>rfl) zIx.run (fun x=>by kernel_rfl) (by kernel_rfl) (zac zDj (trivial))
def zJV:Sig:=⟨[(false,[.d (.int .i64)])],[],false,[(true,[.d (.bool),.own 0,.own 1])],[(0,.arr false .int),(1,.arr false .int)]⟩
def zzS:Con:=⟨zJV,Rt,fun x=>zba x.1,fun r=>(r.neg,r.mag,r.den,())⟩
def zx3:Code:=Tryz.f63.body.getD .skip
def zPx:Env:=⟨zbA,[(109,zIx)],[],[]⟩
theorem zHH:zaj Tryz.prog FX zPx.cons:=zaa zQI (zab Tryz.func109 (by kernel_rfl)) rfl (zae)
theorem zDi:zad zx3=[]:=by kernel_rfl
theorem zLy:zaw Tryz.prog FX 63 zzS:=zai (E:=zPx) (code:=zx3) mix zaf zHH Tryz.func63 (by kernel_rfl) zJV (by kernel_rfl) (fun y=>(⟨y.1,y.2.1,y.2.2.1⟩:Rt)) zzS.out (fun _=>rfl) zzS.run (fun x=>by kernel_rfl) (by kernel_rfl) (zac zDi (trivial))
def zJU:Sig:=⟨[(false,[.d (.bool)]),(false,[.d (.sl .int)]),(false,[.d (.sl .int)])],[],false,[(true,[.d (.bool),.own 0,.own 1])],[(0,.arr false .int),(1,.arr false .int)]⟩
def zzR:Con:=⟨zJU,Rt,fun x=>zaO x.1 x.2.1 x.2.2.1,fun r=>(r.neg,r.mag,r.den,())⟩
def zx2:Code:=Tryz.f117.body.getD .skip
def zPw:Env:=⟨zbA,[(139,zE6),(115,zzT),(116,zE3),(138,zE4),(110,zsM)],[],[]⟩
theorem zHG:zaj Tryz.prog FX zPw.cons:=zaa zOg (zab Tryz.func139 (by kernel_rfl)) rfl (zaa zLz (zab Tryz.func115 (by kernel_rfl)) rfl (zaa zOd (zab Tryz.func116 (by kernel_rfl)) rfl (zaa zOe (zab Tryz.func138 (by kernel_rfl)) rfl (zaa zCg (zab Tryz.func110 (by kernel_rfl)) rfl (zae)))))
theorem zDh:zad zx2=[]:=by kernel_rfl
theorem zLx:zaw Tryz.prog FX 117 zzR:=zai (E:=zPw) (code:=zx2) mix zaf zHG Tryz.func117 (by kernel_rfl) zJU (by kernel_rfl) (fun y=>(⟨y.1,y.2.1,y.2.2.1⟩:Rt)) zzR.out (fun _=>rfl) zzR.run (fun x=>by kernel_rfl) (by kernel_rfl) (zac zDh (trivial))
def zJT:Sig:=⟨[(true,[.d (.bool),.d (.sl .int),.d (.sl .int)]),(true,[.d (.bool),.d (.sl .int),.d (.sl .int)])],[],false,[(true,[.d (.bool),.own 0,.own 1])],[(0,.arr false .int),(1,.arr false .int)]⟩
def zIw:Con:=⟨zJT,Rt,fun x=>zeq (⟨x.1,x.2.1,x.2.2.1⟩:Rt) (⟨x.2.2.2.1,x.2.2.2.2.1,x.2.2.2.2.2.1⟩:Rt),fun r=>(r.neg,r.mag,r.den,())⟩
def zx1:Code:=Tryz.f74.body.getD .skip
def zPv:Env:=⟨zbA,[(118,zsN),(117,zzR)],[],[(1,[(0,[]),(1,[]),(2,[]),(3,[]),(4,[]),(5,[]),(6,[]),(7,[]),(8,[]),(9,[]),(10,[]),(11,[]),(13,[]),(14,[]),(15,[]),(16,[]),(17,[]),(12,[9,11,8,10,7]),(18,[14,17,12,13,16,9,11,15,8,10,7]),(19,[6,12,18,2,5,9,11,14,17,1,4,8,10,13,16,0,3,7,15]),(20,[19,0,1,2,3,4,5,6,7,8,9,10,11,12,13,14,15,16,17,18])])]⟩
theorem zHF:zaj Tryz.prog FX zPv.cons:=zaa zCh (zab Tryz.func118 (by kernel_rfl)) rfl (zaa zLx (zab Tryz.func117 (by kernel_rfl)) rfl (zae))
theorem zDg:zad zx1=[]:=by kernel_rfl
theorem zQH:zaw Tryz.prog FX 74 zIw:=zai (E:=zPv) (code:=zx1) mix zaf zHF Tryz.func74 (by kernel_rfl) zJT (by kernel_rfl) (fun y=>(⟨y.1,y.2.1,y.2.2.1⟩:Rt)) zIw.out (fun _=>rfl) zIw.run (fun x=>by kernel_rfl) (by kernel_rfl) (zac zDg (trivial))
def zJR:Sig:=⟨[(true,[.d (.bool),.d (.sl .int),.d (.sl .int)]),(true,[.d (.bool),.d (.sl .int),.d (.sl .int)])],[],false,[(true,[.d (.bool),.own 0,.own 1])],[(0,.arr false .int),(1,.arr false .int)]⟩
def zIv:Con:=⟨zJR,Rt,fun x=>zes (⟨x.1,x.2.1,x.2.2.1⟩:Rt) (⟨x.2.2.2.1,x.2.2.2.2.1,x.2.2.2.2.2.1⟩:Rt),fun r=>(r.neg,r.mag,r.den,())⟩
def zxZ:Code:=Tryz.f87.body.getD .skip
def zPt:Env:=⟨zbA,[(118,zsN),(117,zzR)],[],[(1,[(0,[]),(1,[]),(2,[]),(3,[]),(4,[]),(5,[]),(6,[]),(7,[]),(8,[]),(9,[]),(10,[]),(11,[]),(12,[]),(14,[]),(15,[]),(16,[]),(17,[]),(13,[9,12,8,11,7,10]),(18,[15,17,13,14,16,9,12,8,11,7,10]),(19,[6,13,18,2,5,9,12,15,17,1,4,8,11,14,16,0,3,7,10]),(20,[19,0,1,2,3,4,5,6,7,8,9,10,11,12,13,14,15,16,17,18])])]⟩
theorem zHD:zaj Tryz.prog FX zPt.cons:=zaa zCh (zab Tryz.func118 (by kernel_rfl)) rfl (zaa zLx (zab Tryz.func117 (by kernel_rfl)) rfl (zae))
theorem zDe:zad zxZ=[]:=by kernel_rfl
theorem zQG:zaw Tryz.prog FX 87 zIv:=zai (E:=zPt) (code:=zxZ) mix zaf zHD Tryz.func87 (by kernel_rfl) zJR (by kernel_rfl) (fun y=>(⟨y.1,y.2.1,y.2.2.1⟩:Rt)) zIv.out (fun _=>rfl) zIv.run (fun x=>by kernel_rfl) (by kernel_rfl) (zac zDe (trivial))
def zJQ:Sig:=⟨[(true,[.d (.bool),.d (.sl .int),.d (.sl .int)])],[],false,[(true,[.d (.bool),.own 0,.own 1])],[(0,.arr false .int),(1,.arr false .int)]⟩
def zE0:Con:=⟨zJQ,Rt,fun x=>zer (⟨x.1,x.2.1,x.2.2.1⟩:Rt),fun r=>(r.neg,r.mag,r.den,())⟩
def zxY:Code:=Tryz.f64.body.getD .skip
def zPs:Env:=⟨zbA,[(110,zsM)],[],[(1,[(0,[]),(1,[]),(2,[]),(3,[]),(4,[]),(5,[]),(6,[]),(8,[]),(9,[]),(10,[]),(7,[3,6,2,5,1,4,0]),(11,[8,10,7,9,3,6,2,5,1,4,0]),(12,[]),(13,[12,11,0,1,2,3,4,5,6,7,8,9,10])])]⟩
theorem zHC:zaj Tryz.prog FX zPs.cons:=zaa zCg (zab Tryz.func110 (by kernel_rfl)) rfl (zae)
theorem zDd:zad zxY=[]:=by kernel_rfl
theorem zOa:zaw Tryz.prog FX 64 zE0:=zai (E:=zPs) (code:=zxY) mix zaf zHC Tryz.func64 (by kernel_rfl) zJQ (by kernel_rfl) (fun y=>(⟨y.1,y.2.1,y.2.2.1⟩:Rt)) zE0.out (fun _=>rfl) zE0.run (fun x=>by kernel_rfl) (by kernel_rfl) (zac zDd (trivial))
def zJP:Sig:=⟨[(false,[.d (.sl .int)]),(false,[.d (.sl .int)])],[],false,[(false,[.own 0])],[(0,.arr false .int)]⟩
def zIu:Con:=⟨zJP,List Int,fun x=>zfA x.1 x.2.1,fun r=>(r,())⟩
def zqA:Code:=Tryz.f154.body.getD .skip
def zjv:Code:=(zad zqA).getD 0 .skip
def zlV:LoopD:=⟨⟨zah [(0,false,[.d (.sl .int)]),(1,false,[.d (.sl .int)]),(5,false,[.own 3584]),(6,false,[.d (.int .i64)]),(7,false,[.d (.int .i64)])] 55 0,[(3584,.arr false .int)]⟩,[(.slot 5 0,3584,.int)],[(.exit 0,⟨zah [(5,false,[.own 3584])] 55 0,[(3584,.arr false .int)]⟩,[(.slot 5 0,3584,.int)])]⟩
def ztz (x:Tys zlV.head.ks):Option (zcp zlV.outs):=@whileO ((List Int) × (List Int) × Int × Int × (List Int) × Unit) ((List Int) × Unit) zaV x
def zNe:Env:=⟨zbA,[],[(4,zaT zlV ztz)],[]⟩
theorem zxc:zaj Tryz.prog FX zNe.cons:=zae
theorem zAx (x:Tys zlV.head.ks):stepL zNe zlV zjv x=zaV x:=by kernel_rfl
theorem zuS:zad zjv=[]:=by kernel_rfl
theorem zMe:zay Tryz.prog FX (zaT zlV ztz) zjv:=zam mix zaf zxc (by kernel_rfl) (zac zuS (trivial)) zAx fun _ _ h=>h
theorem zDc:zad zqA=[zjv]:=by kernel_rfl
theorem zQF:zaw Tryz.prog FX 154 zIu:=zai (E:=zNe) (code:=zqA) mix zaf zxc Tryz.func154 (by kernel_rfl) zJP (by kernel_rfl) (fun y=>y.1) zIu.out (fun _=>rfl) zIu.run (fun x=>by kernel_rfl) (by kernel_rfl) (zac zDc (⟨⟨_,by kernel_rfl,zMe⟩,trivial⟩))
def zJO:Sig:=⟨[(true,[.d (.bool),.d (.sl .int)]),(true,[.d (.bool),.d (.sl .int)])],[],false,[(true,[.d (.bool),.own 0])],[(0,.arr false .int)]⟩
def zIt:Con:=⟨zJO,Bg,fun x=>zcq (⟨x.1,x.2.1⟩:Bg) (⟨x.2.2.1,x.2.2.2.1⟩:Bg),fun r=>(r.neg,r.mag,())⟩
def zxX:Code:=Tryz.f141.body.getD .skip
def zPr:Env:=⟨zbA,[(154,zIu),(110,zsM),(149,zvD),(152,zE5)],[],[(2,[(0,[]),(1,[]),(2,[]),(3,[]),(4,[]),(5,[]),(6,[3,5,2,4]),(7,[1,6,0,3,5,2,4]),(8,[7,0,1,2,3,4,5,6])]),(4,[(0,[]),(1,[]),(2,[]),(3,[]),(4,[]),(5,[]),(6,[3,5,2,4]),(7,[1,6,0,3,5,2,4]),(8,[7,0,1,2,3,4,5,6])]),(5,[(0,[]),(1,[]),(2,[]),(3,[]),(4,[]),(5,[]),(6,[3,5,2,4]),(7,[1,6,0,3,5,2,4]),(8,[7,0,1,2,3,4,5,6])])]⟩
theorem zHB:zaj Tryz.prog FX zPr.cons:=zaa zQF (zab Tryz.func154 (by kernel_rfl)) rfl (zaa zCg (zab Tryz.func110 (by kernel_rfl)) rfl (zaa zGg (zab Tryz.func149 (by kernel_rfl)) rfl (zaa zOf (zab Tryz.func152 (by kernel_rfl)) rfl (zae))))
theorem zDb:zad zxX=[]:=by kernel_rfl
theorem zQE:zaw Tryz.prog FX 141 zIt:=zai (E:=zPr) (code:=zxX) mix zaf zHB Tryz.func141 (by kernel_rfl) zJO (by kernel_rfl) (fun y=>(⟨y.1,y.2.1⟩:Bg)) zIt.out (fun _=>rfl) zIt.run (fun x=>by kernel_rfl) (by kernel_rfl) (zac zDb (trivial))
def zJN:Sig:=⟨[(true,[.d (.bool),.d (.sl .int),.d (.sl .int)]),(true,[.d (.bool),.d (.sl .int),.d (.sl .int)])],[],false,[(true,[.d (.bool),.own 0,.own 1])],[(0,.arr false .int),(1,.arr false .int)]⟩
def zIs:Con:=⟨zJN,Rt,fun x=>zdH (⟨x.1,x.2.1,x.2.2.1⟩:Rt) (⟨x.2.2.2.1,x.2.2.2.2.1,x.2.2.2.2.2.1⟩:Rt),fun r=>(r.neg,r.mag,r.den,())⟩
def zxW:Code:=Tryz.f125.body.getD .skip
def zPq:Env:=⟨zbA,[(115,zzT),(141,zIt),(117,zzR),(118,zsN),(110,zsM)],[],[(4,[(0,[]),(1,[]),(2,[]),(3,[]),(4,[]),(5,[]),(6,[]),(7,[]),(8,[5,7,4,6,3]),(9,[2,8,1,5,7,0,4,6,3]),(10,[]),(11,[10,9,0,1,2,3,4,5,6,7,8])]),(5,[(0,[]),(1,[]),(2,[]),(3,[]),(4,[]),(5,[]),(6,[]),(7,[]),(8,[5,7,4,6,3]),(9,[2,8,1,5,7,0,4,6,3]),(10,[]),(11,[10,9,0,1,2,3,4,5,6,7,8])]),(7,[(0,[]),(1,[]),(2,[]),(3,[]),(4,[]),(5,[]),(6,[]),(7,[]),(8,[5,7,4,6]),(9,[1,3,8,0,2,5,7,4,6]),(10,[9,0,1,2,3,4,5,6,7,8])])]⟩
theorem zHA:zaj Tryz.prog FX zPq.cons:=zaa zLz (zab Tryz.func115 (by kernel_rfl)) rfl (zaa zQE (zab Tryz.func141 (by kernel_rfl)) rfl (zaa zLx (zab Tryz.func117 (by kernel_rfl)) rfl (zaa zCh (zab Tryz.func118 (by kernel_rfl)) rfl (zaa zCg (zab Tryz.func110 (by kernel_rfl)) rfl (zae)))))
theorem zDa:zad zxW=[]:=by kernel_rfl
theorem zQD:zaw Tryz.prog FX 125 zIs:=zai (E:=zPq) (code:=zxW) mix zaf zHA Tryz.func125 (by kernel_rfl) zJN (by kernel_rfl) (fun y=>(⟨y.1,y.2.1,y.2.2.1⟩:Rt)) zIs.out (fun _=>rfl) zIs.run (fun x=>by kernel_rfl) (by kernel_rfl) (zac zDa (trivial))
def zJM:Sig:=⟨[(true,[.d (.bool),.d (.sl .int),.d (.sl .int)]),(true,[.d (.bool),.d (.sl .int),.d (.sl .int)])],[],false,[(true,[.d (.bool),.own 0,.own 1])],[(0,.arr false .int),(1,.arr false .int)]⟩
def zIr:Con:=⟨zJM,Rt,fun x=>zfx (⟨x.1,x.2.1,x.2.2.1⟩:Rt) (⟨x.2.2.2.1,x.2.2.2.2.1,x.2.2.2.2.2.1⟩:Rt),fun r=>(r.neg,r.mag,r.den,())⟩
def zxV:Code:=Tryz.f86.body.getD .skip
def zPp:Env:=⟨zbA,[(64,zE0),(125,zIs)],[],[(1,[(0,[]),(1,[]),(2,[1]),(3,[0,2,1]),(4,[3,0,1,2])])]⟩
theorem zHz:zaj Tryz.prog FX zPp.cons:=zaa zOa (zab Tryz.func64 (by kernel_rfl)) rfl (zaa zQD (zab Tryz.func125 (by kernel_rfl)) rfl (zae))
theorem zC9:zad zxV=[]:=by kernel_rfl
theorem zQC:zaw Tryz.prog FX 86 zIr:=zai (E:=zPp) (code:=zxV) mix zaf zHz Tryz.func86 (by kernel_rfl) zJM (by kernel_rfl) (fun y=>(⟨y.1,y.2.1,y.2.2.1⟩:Rt)) zIr.out (fun _=>rfl) zIr.run (fun x=>by kernel_rfl) (by kernel_rfl) (zac zC9 (trivial))
def zJL:Sig:=⟨[(true,[.d (.int .i64),.d (.int .i64),.own 191]),(false,[.d (.int .i64)]),(false,[.d (.int .i64)])],[(191,.arr false .rat)],true,[],[(191,.arr false .rat)]⟩
def zIq:Con:=⟨zJL,List Rt,fun x=>zcd (⟨x.1,x.2.1,x.2.2.2.2.1⟩:Mx) x.2.2.1 x.2.2.2.1,fun r=>(r,())⟩
def zqz:Code:=Tryz.f75.body.getD .skip
def zgW:Code:=(zad zqz).getD 0 .skip
def zju:Code:=(zad zgW).getD 0 .skip
def zlU:LoopD:=⟨⟨zah [(1,false,[.d (.int .i64)]),(2,false,[.d (.int .i64)]),(3,false,[.lp 192 0]),(6,false,[.d (.int .i64)])] 59 0,[(191,.arr false .rat),(192,.box [.d (.int .i64),.d (.int .i64),.own 191])]⟩,[],[(.exit 0,⟨zah [] 59 0,[(191,.arr false .rat)]⟩,[])]⟩
def zlT:LoopD:=⟨⟨zah [(1,false,[.d (.int .i64)]),(2,false,[.d (.int .i64)]),(3,false,[.lp 192 0]),(6,false,[.d (.int .i64)]),(7,false,[.lp 448 0]),(8,false,[.d (.int .i64)])] 59 0,[(191,.arr false .rat),(192,.box [.d (.int .i64),.d (.int .i64),.own 191]),(448,.box [.d (.bool),.d (.sl .int),.d (.sl .int)])]⟩,[],[(.exit 2,⟨zah [(1,false,[.d (.int .i64)]),(2,false,[.d (.int .i64)]),(3,false,[.lp 192 0]),(6,false,[.d (.int .i64)])] 59 0,[(191,.arr false .rat),(192,.box [.d (.int .i64),.d (.int .i64),.own 191])]⟩,[])]⟩
def zty (x:Tys zlU.head.ks):Option (zcp zlU.outs):=@whileO (Int × Int × Int × (List Rt) × Int × Int × Unit) ((List Rt) × Unit) za9 x
def ztx (x:Tys zlT.head.ks):Option (zcp zlT.outs):=@whileO (Int × Int × Int × Int × (List Rt) × Int × Int × Bool × (List Int) × (List Int) × Unit) (Int × Int × Int × (List Rt) × Int × Int × Unit) za8 x
def zIT:Env:=⟨lay,[(65,zE1),(73,zE2),(87,zIv),(86,zIr)],[(2,zaT zlU zty),(7,zaT zlT ztx)],[(10,[(0,[]),(1,[]),(2,[]),(3,[]),(4,[]),(5,[]),(6,[]),(7,[]),(8,[]),(9,[]),(10,[]),(12,[]),(13,[]),(14,[]),(15,[]),(11,[8,9,10]),(16,[13,14,15,11,8,9,10]),(17,[12,16,13,14,15,11,8,9,10]),(18,[11,17,8,9,10,12,16,13,14,15]),(19,[]),(20,[19,18,0,1,2,3,4,5,6,7,8,9,10,11,12,13,14,15,16,17])])]⟩
theorem zqe:zaj Tryz.prog FX zIT.cons:=zaa zOb (zab Tryz.func65 (by kernel_rfl)) rfl (zaa zOc (zab Tryz.func73 (by kernel_rfl)) rfl (zaa zQG (zab Tryz.func87 (by kernel_rfl)) rfl (zaa zQC (zab Tryz.func86 (by kernel_rfl)) rfl (zae))))
theorem zAv (x:Tys zlT.head.ks):stepL zIT zlT zju x=za8 x:=by kernel_rfl
theorem zuQ:zad zju=[]:=by kernel_rfl
theorem zMc:zay Tryz.prog FX (zaT zlT ztx) zju:=zam mix zhX zqe (by kernel_rfl) (zac zuQ (trivial)) zAv fun _ _ h=>h
theorem zAw (x:Tys zlU.head.ks):stepL zIT zlU zgW x=za9 x:=by kernel_rfl
theorem zuR:zad zgW=[zju]:=by kernel_rfl
theorem zMd:zay Tryz.prog FX (zaT zlU zty) zgW:=zam mix zhX zqe (by kernel_rfl) (zac zuR (⟨⟨_,by kernel_rfl,zMc⟩,trivial⟩)) zAw fun _ _ h=>h
theorem zC8:zad zqz=[zgW]:=by kernel_rfl
theorem zQB:zaw Tryz.prog FX 75 zIq:=zai (E:=zIT) (code:=zqz) mix zhX zqe Tryz.func75 (by kernel_rfl) zJL (by kernel_rfl) (fun y=>y.1) zIq.out (fun _=>rfl) zIq.run (fun x=>by kernel_rfl) (by kernel_rfl) (zac zC8 (⟨⟨_,by kernel_rfl,zMd⟩,trivial⟩))
def zJK:Sig:=⟨[(true,[.d (.bool),.d (.sl .int),.d (.sl .int)])],[],false,[(false,[.d (.bool)])],[]⟩
def zIp:Con:=⟨zJK,Bool,fun x=>zfy (⟨x.1,x.2.1,x.2.2.1⟩:Rt),fun r=>(r,())⟩
def zxU:Code:=Tryz.f76.body.getD .skip
def zPo:Env:=⟨zbA,[],[],[]⟩
theorem zHy:zaj Tryz.prog FX zPo.cons:=zae
theorem zC7:zad zxU=[]:=by kernel_rfl
theorem zQA:zaw Tryz.prog FX 76 zIp:=zai (E:=zPo) (code:=zxU) mix zaf zHy Tryz.func76 (by kernel_rfl) zJK (by kernel_rfl) (fun y=>y.1) zIp.out (fun _=>rfl) zIp.run (fun x=>by kernel_rfl) (by kernel_rfl) (zac zC7 (trivial))
def zJJ:Sig:=⟨[(false,[.d (.sl .rat)])],[],false,[(false,[.d (.bool)])],[]⟩
def zEZ:Con:=⟨zJJ,Bool,fun x=>zbC x.1,fun r=>(r,())⟩
def zqy:Code:=Tryz.f37.body.getD .skip
def zjt:Code:=(zad zqy).getD 0 .skip
def zlS:LoopD:=⟨⟨zah [(5,false,[.d (.sl .rat)]),(6,false,[.d (.int .i64)]),(7,false,[.d (.int .i64)])] 14 0,[]⟩,[],[(.ret,⟨zah [(2,false,[.d (.bool)])] 14 0,[]⟩,[]),(.exit 0,⟨zah [] 14 0,[]⟩,[])]⟩
def ztw (x:Tys zlS.head.ks):Option (zcp zlS.outs):=@whileO ((List Rt) × Int × Int × Unit) ((Bool × Unit) ⊕ (Unit)) zci x
def zNd:Env:=⟨zbA,[(76,zIp)],[(2,zaT zlS ztw)],[]⟩
theorem zxb:zaj Tryz.prog FX zNd.cons:=zaa zQA (zab Tryz.func76 (by kernel_rfl)) rfl (zae)
theorem zAu (x:Tys zlS.head.ks):stepL zNd zlS zjt x=zci x:=by kernel_rfl
theorem zuP:zad zjt=[]:=by kernel_rfl
theorem zMb:zay Tryz.prog FX (zaT zlS ztw) zjt:=zam mix zaf zxb (by kernel_rfl) (zac zuP (trivial)) zAu fun _ _ h=>h
theorem zC6:zad zqy=[zjt]:=by kernel_rfl
theorem zN9:zaw Tryz.prog FX 37 zEZ:=zai (E:=zNd) (code:=zqy) mix zaf zxb Tryz.func37 (by kernel_rfl) zJJ (by kernel_rfl) (fun y=>y.1) zEZ.out (fun _=>rfl) zEZ.run (fun x=>by kernel_rfl) (by kernel_rfl) (zac zC6 (⟨⟨_,by kernel_rfl,zMb⟩,trivial⟩))
def zJI:Sig:=⟨[(true,[.d (.int .i64),.d (.int .i64),.own 191])],[(191,.arr false .rat)],true,[(false,[.own 0]),(false,[.own 1])],[(0,.arr false .int),(1,.arr false .rat),(191,.arr false .rat)]⟩
def zIo:Con:=⟨zJI,List Int × List Rt × List Rt,fun x=>za0 (⟨x.1,x.2.1,x.2.2.1⟩:Mx),fun r=>(r.1,r.2.1,r.2.2,())⟩
def zqx:Code:=Tryz.f36.body.getD .skip
def zeZ:Code:=(zad zqx).getD 0 .skip
def zjs:Code:=(zad zeZ).getD 0 .skip
def zjr:Code:=(zad zeZ).getD 1 .skip
def zjq:Code:=(zad zeZ).getD 2 .skip
def zlR:LoopD:=⟨⟨zah [(1,false,[.lp 64 0]),(4,false,[.own 9536]),(5,false,[.own 9600]),(6,false,[.d (.int .i64)])] 146 0,[(64,.box [.d (.int .i64),.d (.int .i64),.own 191]),(191,.arr false .rat),(9536,.arr false .int),(9600,.arr false .rat)]⟩,[(.slot 4 0,9536,.int),(.slot 5 0,9600,.rat)],[(.ret,⟨zah [(2,false,[.own 9408]),(3,false,[.own 9472])] 146 0,[(191,.arr false .rat),(9408,.arr false .int),(9472,.arr false .rat)]⟩,[]),(.exit 0,⟨zah [(4,false,[.own 9536]),(5,false,[.own 9600])] 146 0,[(191,.arr false .rat),(9536,.arr false .int),(9600,.arr false .rat)]⟩,[(.slot 4 0,9536,.int),(.slot 5 0,9600,.rat)])]⟩
def zlQ:LoopD:=⟨⟨zah [(1,false,[.lp 64 0]),(4,false,[.own 9408]),(5,false,[.own 9472]),(6,false,[.d (.int .i64)]),(7,false,[.d (.int .i64)]),(8,false,[.d (.int .i64)])] 146 0,[(64,.box [.d (.int .i64),.d (.int .i64),.own 191]),(191,.arr false .rat),(9408,.arr false .int),(9472,.arr false .rat)]⟩,[(.slot 4 0,9408,.int),(.slot 5 0,9472,.rat)],[(.exit 2,⟨zah [(1,false,[.lp 64 0]),(4,false,[.own 9408]),(5,false,[.own 9472]),(6,false,[.d (.int .i64)]),(7,false,[.d (.int .i64)]),(8,false,[.d (.int .i64)])] 146 0,[(64,.box [.d (.int .i64),.d (.int .i64),.own 191]),(191,.arr false .rat),(9408,.arr false .int),(9472,.arr false .rat)]⟩,[(.slot 4 0,9408,.int),(.slot 5 0,9472,.rat)])]⟩
def zlP:LoopD:=⟨⟨zah [(1,false,[.lp 64 0]),(4,false,[.own 9472]),(5,false,[.own 9408]),(6,false,[.d (.int .i64)]),(7,false,[.d (.int .i64)]),(8,false,[.d (.int .i64)]),(9,false,[.d (.int .i64)])] 146 0,[(64,.box [.d (.int .i64),.d (.int .i64),.own 191]),(191,.arr false .rat),(9408,.arr false .rat),(9472,.arr false .int)]⟩,[(.slot 4 0,9472,.int)],[(.exit 4,⟨zah [(1,false,[.lp 64 0]),(4,false,[.own 9472]),(5,false,[.own 9408]),(6,false,[.d (.int .i64)]),(7,false,[.d (.int .i64)])] 146 0,[(64,.box [.d (.int .i64),.d (.int .i64),.own 191]),(191,.arr false .rat),(9408,.arr false .rat),(9472,.arr false .int)]⟩,[(.slot 4 0,9472,.int)])]⟩
def zlO:LoopD:=⟨⟨zah [(1,false,[.lp 64 0]),(4,false,[.own 9472]),(5,false,[.own 9408]),(6,false,[.d (.int .i64)]),(7,false,[.d (.int .i64)]),(11,false,[.lp 704 0]),(12,false,[.d (.int .i64)])] 146 0,[(64,.box [.d (.int .i64),.d (.int .i64),.own 191]),(191,.arr false .rat),(704,.box [.d (.bool),.d (.sl .int),.d (.sl .int)]),(9408,.arr false .rat),(9472,.arr false .int)]⟩,[(.slot 4 0,9472,.int)],[(.exit 6,⟨zah [(1,false,[.lp 64 0]),(4,false,[.own 9472]),(5,false,[.own 9408]),(6,false,[.d (.int .i64)]),(7,false,[.d (.int .i64)])] 146 0,[(64,.box [.d (.int .i64),.d (.int .i64),.own 191]),(191,.arr false .rat),(9408,.arr false .rat),(9472,.arr false .int)]⟩,[(.slot 4 0,9472,.int)])]⟩
def ztv (x:Tys zlR.head.ks):Option (zcp zlR.outs):=@whileO (Int × Int × Int × (List Rt) × (List Int) × (List Rt) × Unit) (((List Rt) × (List Int) × (List Rt) × Unit) ⊕ ((List Rt) × (List Int) × (List Rt) × Unit)) zaA x
def ztu (x:Tys zlQ.head.ks):Option (zcp zlQ.outs):=@whileO (Int × Int × Int × Int × Int × (List Rt) × (List Int) × (List Rt) × Unit) (Int × Int × Int × Int × Int × (List Rt) × (List Int) × (List Rt) × Unit) zaX x
def ztt (x:Tys zlP.head.ks):Option (zcp zlP.outs):=@whileO (Int × Int × Int × Int × Int × Int × (List Rt) × (List Rt) × (List Int) × Unit) (Int × Int × Int × Int × (List Rt) × (List Rt) × (List Int) × Unit) zbg x
def zts (x:Tys zlO.head.ks):Option (zcp zlO.outs):=@whileO (Int × Int × Int × Int × Int × (List Rt) × Bool × (List Int) × (List Int) × (List Rt) × (List Int) × Unit) (Int × Int × Int × Int × (List Rt) × (List Rt) × (List Int) × Unit) zbf x
def zAN:Env:=⟨lay,[(65,zE1),(73,zE2),(63,zzS),(74,zIw),(75,zIq),(37,zEZ)],[(4,zaT zlR ztv),(8,zaT zlQ ztu),(14,zaT zlP ztt),(22,zaT zlO zts)],[(17,[(0,[]),(1,[]),(2,[]),(3,[]),(4,[]),(5,[]),(6,[]),(7,[]),(8,[]),(9,[]),(10,[]),(11,[]),(12,[]),(13,[]),(14,[]),(15,[]),(16,[]),(17,[]),(18,[]),(19,[18,17,0,1,2,3,4,5,6,7,8,9,10,11,12,13,14,15,16])]),(24,[(0,[]),(1,[]),(2,[]),(3,[]),(4,[]),(5,[]),(6,[]),(7,[]),(8,[]),(9,[]),(10,[]),(12,[]),(11,[8,9,10]),(13,[11,12,8,9,10]),(14,[]),(15,[14,13,0,1,2,3,4,5,6,7,8,9,10,11,12])])]⟩
theorem zkW:zaj Tryz.prog FX zAN.cons:=zaa zOb (zab Tryz.func65 (by kernel_rfl)) rfl (zaa zOc (zab Tryz.func73 (by kernel_rfl)) rfl (zaa zLy (zab Tryz.func63 (by kernel_rfl)) rfl (zaa zQH (zab Tryz.func74 (by kernel_rfl)) rfl (zaa zQB (zab Tryz.func75 (by kernel_rfl)) rfl (zaa zN9 (zab Tryz.func37 (by kernel_rfl)) rfl (zae))))))
theorem zAq (x:Tys zlO.head.ks):stepL zAN zlO zjq x=zbf x:=by kernel_rfl
theorem zuL:zad zjq=[]:=by kernel_rfl
theorem zL7:zay Tryz.prog FX (zaT zlO zts) zjq:=zam mix zhX zkW (by kernel_rfl) (zac zuL (trivial)) zAq fun _ _ h=>h
theorem zAr (x:Tys zlP.head.ks):stepL zAN zlP zjr x=zbg x:=by kernel_rfl
theorem zuM:zad zjr=[]:=by kernel_rfl
theorem zL8:zay Tryz.prog FX (zaT zlP ztt) zjr:=zam mix zhX zkW (by kernel_rfl) (zac zuM (trivial)) zAr fun _ _ h=>h
theorem zAs (x:Tys zlQ.head.ks):stepL zAN zlQ zjs x=zaX x:=by kernel_rfl
theorem zuN:zad zjs=[]:=by kernel_rfl
theorem zL9:zay Tryz.prog FX (zaT zlQ ztu) zjs:=zam mix zhX zkW (by kernel_rfl) (zac zuN (trivial)) zAs fun _ _ h=>h
theorem zAt (x:Tys zlR.head.ks):stepL zAN zlR zeZ x=zaA x:=by kernel_rfl
theorem zuO:zad zeZ=[zjs,zjr,zjq]:=by kernel_rfl
theorem zMa:zay Tryz.prog FX (zaT zlR ztv) zeZ:=zam mix zhX zkW (by kernel_rfl) (zac zuO (⟨⟨_,by kernel_rfl,zL9⟩,⟨⟨_,by kernel_rfl,zL8⟩,⟨⟨_,by kernel_rfl,zL7⟩,trivial⟩⟩⟩)) zAt fun _ _ h=>h
theorem zC5:zad zqx=[zeZ]:=by kernel_rfl
theorem zQz:zaw Tryz.prog FX 36 zIo:=zai (E:=zAN) (code:=zqx) mix zhX zkW Tryz.func36 (by kernel_rfl) zJI (by kernel_rfl) (fun y=>(y.1,y.2.1,y.2.2.1)) zIo.out (fun _=>rfl) zIo.run (fun x=>by kernel_rfl) (by kernel_rfl) (zac zC5 (⟨⟨_,by kernel_rfl,zMa⟩,trivial⟩))
def zJF:Sig:=⟨[(true,[.d (.int .i64),.d (.int .i64),.d (.sl .rat)])],[],true,[(true,[.d (.int .i64),.d (.int .i64),.own 0]),(false,[.own 1]),(false,[.d (.bool)])],[(0,.arr false .rat),(1,.arr false .int)]⟩
def zIl:Con:=⟨zJF,Mx × List Int × Bool,fun x=>zcr (⟨x.1,x.2.1,x.2.2.1⟩:Mx),fun r=>(r.1.rows,r.1.cols,r.2.2,r.1.cells,r.2.1,())⟩
def zxS:Code:=Tryz.f9.body.getD .skip
def zPm:Env:=⟨lay,[(34,zIB),(35,zIm),(36,zIo),(37,zEZ)],[],[]⟩
theorem zHw:zaj Tryz.prog FX zPm.cons:=zaa zQM (zab Tryz.func34 (by kernel_rfl)) rfl (zaa zQx (zab Tryz.func35 (by kernel_rfl)) rfl (zaa zQz (zab Tryz.func36 (by kernel_rfl)) rfl (zaa zN9 (zab Tryz.func37 (by kernel_rfl)) rfl (zae))))
theorem zC2:zad zxS=[]:=by kernel_rfl
theorem zQw:zaw Tryz.prog FX 9 zIl:=zai (E:=zPm) (code:=zxS) mix zhX zHw Tryz.func9 (by kernel_rfl) zJF (by kernel_rfl) (fun y=>((⟨y.1,y.2.1,y.2.2.2.1⟩:Mx),y.2.2.2.2.1,y.2.2.1)) zIl.out (fun _=>rfl) zIl.run (fun x=>by kernel_rfl) (by kernel_rfl) (zac zC2 (trivial))
def zJE:Sig:=⟨[(false,[.d (.sl .int)]),(false,[.d (.int .i64)])],[],false,[(false,[.d (.bool)])],[]⟩
def zIk:Con:=⟨zJE,Bool,fun x=>zhT x.1 x.2.1,fun r=>(r,())⟩
def zqv:Code:=Tryz.f61.body.getD .skip
def zjn:Code:=(zad zqv).getD 0 .skip
def zlM:LoopD:=⟨⟨zah [(1,false,[.d (.int .i64)]),(7,false,[.d (.sl .int)]),(8,false,[.d (.int .i64)]),(9,false,[.d (.int .i64)])] 17 0,[]⟩,[],[(.ret,⟨zah [(4,false,[.d (.bool)])] 17 0,[]⟩,[]),(.exit 0,⟨zah [] 17 0,[]⟩,[])]⟩
def ztq (x:Tys zlM.head.ks):Option (zcp zlM.outs):=@whileO (Int × (List Int) × Int × Int × Unit) ((Bool × Unit) ⊕ (Unit)) zf4 x
def zNb:Env:=⟨zbA,[],[(2,zaT zlM ztq)],[]⟩
theorem zw9:zaj Tryz.prog FX zNb.cons:=zae
theorem zAo (x:Tys zlM.head.ks):stepL zNb zlM zjn x=zf4 x:=by kernel_rfl
theorem zuJ:zad zjn=[]:=by kernel_rfl
theorem zL5:zay Tryz.prog FX (zaT zlM ztq) zjn:=zam mix zaf zw9 (by kernel_rfl) (zac zuJ (trivial)) zAo fun _ _ h=>h
theorem zC1:zad zqv=[zjn]:=by kernel_rfl
theorem zQv:zaw Tryz.prog FX 61 zIk:=zai (E:=zNb) (code:=zqv) mix zaf zw9 Tryz.func61 (by kernel_rfl) zJE (by kernel_rfl) (fun y=>y.1) zIk.out (fun _=>rfl) zIk.run (fun x=>by kernel_rfl) (by kernel_rfl) (zac zC1 (⟨⟨_,by kernel_rfl,zL5⟩,trivial⟩))
def zJD:Sig:=⟨[],[],false,[(true,[.d (.bool),.own 0,.own 1])],[(0,.arr false .int),(1,.arr false .int)]⟩
def zIj:Con:=⟨zJD,Rt,fun _=>ze7,fun r=>(r.neg,r.mag,r.den,())⟩
def zxR:Code:=Tryz.f108.body.getD .skip
def zPl:Env:=⟨zbA,[(63,zzS)],[],[]⟩
theorem zHv:zaj Tryz.prog FX zPl.cons:=zaa zLy (zab Tryz.func63 (by kernel_rfl)) rfl (zae)
theorem zC0:zad zxR=[]:=by kernel_rfl
theorem zQu:zaw Tryz.prog FX 108 zIj:=zai (E:=zPl) (code:=zxR) mix zaf zHv Tryz.func108 (by kernel_rfl) zJD (by kernel_rfl) (fun y=>(⟨y.1,y.2.1,y.2.2.1⟩:Rt)) zIj.out (fun _=>rfl) zIj.run (fun x=>by kernel_rfl) (by kernel_rfl) (zac zC0 (trivial))
def zJC:Sig:=⟨[(false,[.d (.int .i64)])],[],false,[(false,[.dp 0])],[(0,.deep .rat)]⟩
def zIi:Con:=⟨zJC,List Rt,fun x=>zep x.1,fun r=>(r,())⟩
def zqu:Code:=Tryz.f62.body.getD .skip
def zjm:Code:=(zad zqu).getD 0 .skip
def zlL:LoopD:=⟨⟨zah [(0,false,[.d (.int .i64)]),(3,false,[.dp 960])] 14 0,[(960,.deep .rat)]⟩,[(.slotD 3 0,960,.rat)],[(.exit 0,⟨zah [(3,false,[.dp 960])] 14 0,[(960,.deep .rat)]⟩,[(.slotD 3 0,960,.rat)])]⟩
def ztp (x:Tys zlL.head.ks):Option (zcp zlL.outs):=@whileO (Int × (List Rt) × Unit) ((List Rt) × Unit) zb0 x
def zNa:Env:=⟨zbA,[(108,zIj)],[(2,zaT zlL ztp)],[]⟩
theorem zw8:zaj Tryz.prog FX zNa.cons:=zaa zQu (zab Tryz.func108 (by kernel_rfl)) rfl (zae)
theorem zAn (x:Tys zlL.head.ks):stepL zNa zlL zjm x=zb0 x:=by kernel_rfl
theorem zuI:zad zjm=[]:=by kernel_rfl
theorem zL4:zay Tryz.prog FX (zaT zlL ztp) zjm:=zam mix zaf zw8 (by kernel_rfl) (zac zuI (trivial)) zAn fun _ _ h=>h
theorem zCZ:zad zqu=[zjm]:=by kernel_rfl
theorem zQt:zaw Tryz.prog FX 62 zIi:=zai (E:=zNa) (code:=zqu) mix zaf zw8 Tryz.func62 (by kernel_rfl) zJC (by kernel_rfl) (fun y=>y.1) zIi.out (fun _=>rfl) zIi.run (fun x=>by kernel_rfl) (by kernel_rfl) (zac zCZ (⟨⟨_,by kernel_rfl,zL4⟩,trivial⟩))
def zJ0:Sig:=⟨[(true,[.d (.int .i64),.d (.int .i64),.d (.sl .rat)]),(false,[.d (.int .i64)]),(false,[.d (.int .i64)])],[],false,[(true,[.d (.bool),.d (.sl .int),.d (.sl .int)])],[]⟩
def zIz:Con:=⟨zJ0,Rt,fun x=>zis (⟨x.1,x.2.1,x.2.2.1⟩:Mx) x.2.2.2.1 x.2.2.2.2.1,fun r=>(r.neg,r.mag,r.den,())⟩
def zx8:Code:=Tryz.f65.body.getD .skip
def zPC:Env:=⟨zbA,[],[],[]⟩
theorem zHM:zaj Tryz.prog FX zPC.cons:=zae
theorem zDn:zad zx8=[]:=by kernel_rfl
theorem zQK:zaw Tryz.prog FX 65 zIz:=zai (E:=zPC) (code:=zx8) mix zaf zHM Tryz.func65 (by kernel_rfl) zJ0 (by kernel_rfl) (fun y=>(⟨y.1,y.2.1,y.2.2.1⟩:Rt)) zIz.out (fun _=>rfl) zIz.run (fun x=>by kernel_rfl) (by kernel_rfl) (zac zDn (trivial))
def zJB:Sig:=⟨[(true,[.d (.int .i64),.d (.int .i64),.d (.sl .rat)])],[],true,[(false,[.dp 0]),(false,[.d (.bool)])],[(0,.deep .rats)]⟩
def zIh:Con:=⟨zJB,List (List Rt) × Bool,fun x=>zbO (⟨x.1,x.2.1,x.2.2.1⟩:Mx),fun r=>(r.2,r.1,())⟩
def zqs:Code:=Tryz.f29.body.getD .skip
def zgV:Code:=(zad zqs).getD 0 .skip
def zjl:Code:=(zad zgV).getD 0 .skip
def zlK:LoopD:=⟨⟨zah [(1,false,[.lp 64 0]),(4,false,[.lp 256 0]),(5,false,[.d (.sl .int)]),(7,false,[.dp 3904]),(8,false,[.d (.int .i64)])] 58 0,[(64,.box [.d (.int .i64),.d (.int .i64),.d (.sl .rat)]),(256,.box [.d (.int .i64),.d (.int .i64),.d (.sl .rat)]),(3904,.deep .rats)]⟩,[(.slotD 7 0,3904,.rats)],[(.exit 0,⟨zah [(7,false,[.dp 3904])] 58 0,[(3904,.deep .rats)]⟩,[(.slotD 7 0,3904,.rats)])]⟩
def zlJ:LoopD:=⟨⟨zah [(1,false,[.lp 64 0]),(4,false,[.lp 256 0]),(5,false,[.d (.sl .int)]),(7,false,[.dp 3904]),(8,false,[.d (.int .i64)]),(9,false,[.dp 3776]),(37,false,[.d (.sl .int)]),(38,false,[.d (.int .i64)]),(39,false,[.d (.int .i64)])] 58 0,[(64,.box [.d (.int .i64),.d (.int .i64),.d (.sl .rat)]),(256,.box [.d (.int .i64),.d (.int .i64),.d (.sl .rat)]),(3776,.deep .rat),(3904,.deep .rats)]⟩,[(.slotD 7 0,3904,.rats)],[(.exit 2,⟨zah [(1,false,[.lp 64 0]),(4,false,[.lp 256 0]),(5,false,[.d (.sl .int)]),(7,false,[.dp 3904]),(8,false,[.d (.int .i64)]),(9,false,[.dp 3776])] 58 0,[(64,.box [.d (.int .i64),.d (.int .i64),.d (.sl .rat)]),(256,.box [.d (.int .i64),.d (.int .i64),.d (.sl .rat)]),(3776,.deep .rat),(3904,.deep .rats)]⟩,[(.slotD 7 0,3904,.rats)])]⟩
def zto (x:Tys zlK.head.ks):Option (zcp zlK.outs):=@whileO ((List Int) × Int × Int × Int × (List Rt) × Int × Int × (List Rt) × (List (List Rt)) × Unit) ((List (List Rt)) × Unit) zaY x
def ztn (x:Tys zlJ.head.ks):Option (zcp zlJ.outs):=@whileO ((List Int) × Int × (List Int) × Int × Int × Int × Int × (List Rt) × Int × Int × (List Rt) × (List Rt) × (List (List Rt)) × Unit) ((List Int) × Int × Int × Int × (List Rt) × Int × Int × (List Rt) × (List Rt) × (List (List Rt)) × Unit) zbh x
def zIS:Env:=⟨zbA,[(9,zIl),(61,zIk),(62,zIi),(63,zzS),(65,zIz),(64,zE0)],[(6,zaT zlK zto),(12,zaT zlJ ztn)],[]⟩
theorem zqd:zaj Tryz.prog FX zIS.cons:=zaa zQw (zab Tryz.func9 (by kernel_rfl)) rfl (zaa zQv (zab Tryz.func61 (by kernel_rfl)) rfl (zaa zQt (zab Tryz.func62 (by kernel_rfl)) rfl (zaa zLy (zab Tryz.func63 (by kernel_rfl)) rfl (zaa zQK (zab Tryz.func65 (by kernel_rfl)) rfl (zaa zOa (zab Tryz.func64 (by kernel_rfl)) rfl (zae))))))
theorem zAl (x:Tys zlJ.head.ks):stepL zIS zlJ zjl x=zbh x:=by kernel_rfl
theorem zuG:zad zjl=[]:=by kernel_rfl
theorem zL2:zay Tryz.prog FX (zaT zlJ ztn) zjl:=zam mix zaf zqd (by kernel_rfl) (zac zuG (trivial)) zAl fun _ _ h=>h
theorem zAm (x:Tys zlK.head.ks):stepL zIS zlK zgV x=zaY x:=by kernel_rfl
theorem zuH:zad zgV=[zjl]:=by kernel_rfl
theorem zL3:zay Tryz.prog FX (zaT zlK zto) zgV:=zam mix zaf zqd (by kernel_rfl) (zac zuH (⟨⟨_,by kernel_rfl,zL2⟩,trivial⟩)) zAm fun _ _ h=>h
theorem zCY:zad zqs=[zgV]:=by kernel_rfl
theorem zQs:zaw Tryz.prog FX 29 zIh:=zai (E:=zIS) (code:=zqs) mix zaf zqd Tryz.func29 (by kernel_rfl) zJB (by kernel_rfl) (fun y=>(y.2.1,y.1)) zIh.out (fun _=>rfl) zIh.run (fun x=>by kernel_rfl) (by kernel_rfl) (zac zCY (⟨⟨_,by kernel_rfl,zL3⟩,trivial⟩))
def zJA:Sig:=⟨[(false,[.d (.int .i64)])],[],false,[(false,[.d (.bool)])],[]⟩
def zIg:Con:=⟨zJA,Bool,fun x=>zdx x.1,fun r=>(r,())⟩
def zxQ:Code:=Tryz.f77.body.getD .skip
def zPk:Env:=⟨zbA,[],[],[]⟩
theorem zHu:zaj Tryz.prog FX zPk.cons:=zae
theorem zCX:zad zxQ=[]:=by kernel_rfl
theorem zQr:zaw Tryz.prog FX 77 zIg:=zai (E:=zPk) (code:=zxQ) mix zaf zHu Tryz.func77 (by kernel_rfl) zJA (by kernel_rfl) (fun y=>y.1) zIg.out (fun _=>rfl) zIg.run (fun x=>by kernel_rfl) (by kernel_rfl) (zac zCX (trivial))
def zJz:Sig:=⟨[(false,[.d (.sl .int)])],[],false,[(false,[.d (.bool)])],[]⟩
def zEY:Con:=⟨zJz,Bool,fun x=>zfk x.1,fun r=>(r,())⟩
def zqr:Code:=Tryz.f120.body.getD .skip
def zjk:Code:=(zad zqr).getD 0 .skip
def zlI:LoopD:=⟨⟨zah [(22,false,[.d (.sl .int)]),(23,false,[.d (.int .i64)]),(24,false,[.d (.int .i64)])] 35 0,[]⟩,[],[(.ret,⟨zah [(2,false,[.d (.bool)])] 35 0,[]⟩,[]),(.exit 0,⟨zah [] 35 0,[]⟩,[])]⟩
def ztm (x:Tys zlI.head.ks):Option (zcp zlI.outs):=@whileO ((List Int) × Int × Int × Unit) ((Bool × Unit) ⊕ (Unit)) zdc x
def zM9:Env:=⟨zbA,[],[(4,zaT zlI ztm)],[]⟩
theorem zw7:zaj Tryz.prog FX zM9.cons:=zae
theorem zAk (x:Tys zlI.head.ks):stepL zM9 zlI zjk x=zdc x:=by kernel_rfl
theorem zuF:zad zjk=[]:=by kernel_rfl
theorem zL1:zay Tryz.prog FX (zaT zlI ztm) zjk:=zam mix zaf zw7 (by kernel_rfl) (zac zuF (trivial)) zAk fun _ _ h=>h
theorem zCW:zad zqr=[zjk]:=by kernel_rfl
theorem zN8:zaw Tryz.prog FX 120 zEY:=zai (E:=zM9) (code:=zqr) mix zaf zw7 Tryz.func120 (by kernel_rfl) zJz (by kernel_rfl) (fun y=>y.1) zEY.out (fun _=>rfl) zEY.run (fun x=>by kernel_rfl) (by kernel_rfl) (zac zCW (⟨⟨_,by kernel_rfl,zL1⟩,trivial⟩))
def zJy:Sig:=⟨[(true,[.d (.bool),.d (.sl .int)])],[],false,[(false,[.d (.bool)])],[]⟩
def zEX:Con:=⟨zJy,Bool,fun x=>zcg (⟨x.1,x.2.1⟩:Bg),fun r=>(r,())⟩
def zxP:Code:=Tryz.f119.body.getD .skip
def zPj:Env:=⟨zbA,[(120,zEY)],[],[]⟩
theorem zHt:zaj Tryz.prog FX zPj.cons:=zaa zN8 (zab Tryz.func120 (by kernel_rfl)) rfl (zae)
theorem zCV:zad zxP=[]:=by kernel_rfl
theorem zN7:zaw Tryz.prog FX 119 zEX:=zai (E:=zPj) (code:=zxP) mix zaf zHt Tryz.func119 (by kernel_rfl) zJy (by kernel_rfl) (fun y=>y.1) zEX.out (fun _=>rfl) zEX.run (fun x=>by kernel_rfl) (by kernel_rfl) (zac zCV (trivial))
def zJx:Sig:=⟨[(false,[.d (.sl .int)]),(false,[.d (.sl .int)])],[],false,[(false,[.d (.int .i64)])],[]⟩
def zEW:Con:=⟨zJx,Int,fun x=>zeI x.1 x.2.1,fun r=>(r,())⟩
def zqq:Code:=Tryz.f144.body.getD .skip
def zjj:Code:=(zad zqq).getD 0 .skip
def zlH:LoopD:=⟨⟨zah [(0,false,[.d (.sl .int)]),(1,false,[.d (.sl .int)]),(5,false,[.d (.int .i64)])] 43 0,[]⟩,[],[(.ret,⟨zah [(4,false,[.d (.int .i64)])] 43 0,[]⟩,[]),(.exit 0,⟨zah [] 43 0,[]⟩,[])]⟩
def ztl (x:Tys zlH.head.ks):Option (zcp zlH.outs):=@whileO ((List Int) × (List Int) × Int × Unit) ((Int × Unit) ⊕ (Unit)) zcV x
def zM8:Env:=⟨zbA,[],[(6,zaT zlH ztl)],[(8,[(0,[]),(1,[]),(2,[]),(3,[]),(4,[]),(5,[]),(6,[]),(7,[]),(8,[]),(9,[8,3,7,2,6,0,1,4,5])]),(10,[(0,[]),(1,[]),(2,[]),(3,[]),(4,[]),(5,[]),(6,[]),(7,[]),(8,[]),(9,[8,3,7,2,6,0,1,4,5])])]⟩
theorem zw6:zaj Tryz.prog FX zM8.cons:=zae
theorem zAj (x:Tys zlH.head.ks):stepL zM8 zlH zjj x=zcV x:=by kernel_rfl
theorem zuE:zad zjj=[]:=by kernel_rfl
theorem zL0:zay Tryz.prog FX (zaT zlH ztl) zjj:=zam mix zaf zw6 (by kernel_rfl) (zac zuE (trivial)) zAj fun _ _ h=>h
theorem zCU:zad zqq=[zjj]:=by kernel_rfl
theorem zN6:zaw Tryz.prog FX 144 zEW:=zai (E:=zM8) (code:=zqq) mix zaf zw6 Tryz.func144 (by kernel_rfl) zJx (by kernel_rfl) (fun y=>y.1) zEW.out (fun _=>rfl) zEW.run (fun x=>by kernel_rfl) (by kernel_rfl) (zac zCU (⟨⟨_,by kernel_rfl,zL0⟩,trivial⟩))
def zJw:Sig:=⟨[(false,[.d (.sl .int)])],[],false,[(false,[.own 0])],[(0,.arr false .int)]⟩
def zov:Con:=⟨zJw,List Int,fun x=>zaN x.1,fun r=>(r,())⟩
def zxO:Code:=Tryz.f93.body.getD .skip
def zPi:Env:=⟨zbA,[],[],[]⟩
theorem zHs:zaj Tryz.prog FX zPi.cons:=zae
theorem zCT:zad zxO=[]:=by kernel_rfl
theorem zul:zaw Tryz.prog FX 93 zov:=zai (E:=zPi) (code:=zxO) mix zaf zHs Tryz.func93 (by kernel_rfl) zJw (by kernel_rfl) (fun y=>y.1) zov.out (fun _=>rfl) zov.run (fun x=>by kernel_rfl) (by kernel_rfl) (zac zCT (trivial))
def zJv:Sig:=⟨[(false,[.own 0])],[(0,.arr false .int)],false,[(false,[.own 0])],[(0,.arr false .int)]⟩
def zvA:Con:=⟨zJv,List Int,fun x=>zcv x.1,fun r=>(r,())⟩
def zqp:Code:=Tryz.f132.body.getD .skip
def zji:Code:=(zad zqp).getD 0 .skip
def zlG:LoopD:=⟨⟨zah [(0,false,[.own 1408]),(3,false,[.d (.int .i64)])] 21 0,[(1408,.arr false .int)]⟩,[],[(.exit 0,⟨zah [(0,false,[.own 1408]),(3,false,[.d (.int .i64)])] 21 0,[(1408,.arr false .int)]⟩,[])]⟩
def ztk (x:Tys zlG.head.ks):Option (zcp zlG.outs):=@whileO (Int × (List Int) × Unit) (Int × (List Int) × Unit) zcK x
def zM7:Env:=⟨zbA,[],[(2,zaT zlG ztk)],[]⟩
theorem zw5:zaj Tryz.prog FX zM7.cons:=zae
theorem zAi (x:Tys zlG.head.ks):stepL zM7 zlG zji x=zcK x:=by kernel_rfl
theorem zuD:zad zji=[]:=by kernel_rfl
theorem zLZ:zay Tryz.prog FX (zaT zlG ztk) zji:=zam mix zaf zw5 (by kernel_rfl) (zac zuD (trivial)) zAi fun _ _ h=>h
theorem zCS:zad zqp=[zji]:=by kernel_rfl
theorem zGd:zaw Tryz.prog FX 132 zvA:=zai (E:=zM7) (code:=zqp) mix zaf zw5 Tryz.func132 (by kernel_rfl) zJv (by kernel_rfl) (fun y=>y.1) zvA.out (fun _=>rfl) zvA.run (fun x=>by kernel_rfl) (by kernel_rfl) (zac zCS (⟨⟨_,by kernel_rfl,zLZ⟩,trivial⟩))
def zJu:Sig:=⟨[(false,[.d (.int .i64)])],[],false,[(false,[.own 0])],[(0,.arr false .int)]⟩
def zEV:Con:=⟨zJu,List Int,fun x=>zfl x.1,fun r=>(r,())⟩
def zqo:Code:=Tryz.f155.body.getD .skip
def zjh:Code:=(zad zqo).getD 0 .skip
def zlF:LoopD:=⟨⟨zah [(0,false,[.d (.int .i64)]),(3,false,[.own 960])] 14 0,[(960,.arr false .int)]⟩,[(.slot 3 0,960,.int)],[(.exit 0,⟨zah [(3,false,[.own 960])] 14 0,[(960,.arr false .int)]⟩,[(.slot 3 0,960,.int)])]⟩
def ztj (x:Tys zlF.head.ks):Option (zcp zlF.outs):=@whileO (Int × (List Int) × Unit) ((List Int) × Unit) zgC x
def zM6:Env:=⟨zbA,[],[(2,zaT zlF ztj)],[]⟩
theorem zw4:zaj Tryz.prog FX zM6.cons:=zae
theorem zAh (x:Tys zlF.head.ks):stepL zM6 zlF zjh x=zgC x:=by kernel_rfl
theorem zuC:zad zjh=[]:=by kernel_rfl
theorem zLY:zay Tryz.prog FX (zaT zlF ztj) zjh:=zam mix zaf zw4 (by kernel_rfl) (zac zuC (trivial)) zAh fun _ _ h=>h
theorem zCR:zad zqo=[zjh]:=by kernel_rfl
theorem zN5:zaw Tryz.prog FX 155 zEV:=zai (E:=zM6) (code:=zqo) mix zaf zw4 Tryz.func155 (by kernel_rfl) zJu (by kernel_rfl) (fun y=>y.1) zEV.out (fun _=>rfl) zEV.run (fun x=>by kernel_rfl) (by kernel_rfl) (zac zCR (⟨⟨_,by kernel_rfl,zLY⟩,trivial⟩))
def zJt:Sig:=⟨[(false,[.d (.sl .int)]),(false,[.d (.int .i64)])],[],true,[(false,[.own 0]),(false,[.own 1])],[(0,.arr false .int),(1,.arr false .int)]⟩
def zIf:Con:=⟨zJt,List Int × List Int,fun x=>zdy x.1 x.2.1,fun r=>(r.1,r.2,())⟩
def zqn:Code:=Tryz.f146.body.getD .skip
def zjg:Code:=(zad zqn).getD 0 .skip
def zlE:LoopD:=⟨⟨zah [(0,false,[.d (.sl .int)]),(1,false,[.d (.int .i64)]),(6,false,[.own 2624]),(7,false,[.d (.int .i64)]),(8,false,[.d (.int .i64)])] 40 0,[(2624,.arr false .int)]⟩,[],[(.exit 0,⟨zah [(6,false,[.own 2624]),(7,false,[.d (.int .i64)])] 40 0,[(2624,.arr false .int)]⟩,[])]⟩
def zti (x:Tys zlE.head.ks):Option (zcp zlE.outs):=@whileO ((List Int) × Int × Int × Int × (List Int) × Unit) (Int × (List Int) × Unit) zcW x
def zM5:Env:=⟨zbA,[(132,zvA),(155,zEV)],[(4,zaT zlE zti)],[]⟩
theorem zw3:zaj Tryz.prog FX zM5.cons:=zaa zGd (zab Tryz.func132 (by kernel_rfl)) rfl (zaa zN5 (zab Tryz.func155 (by kernel_rfl)) rfl (zae))
theorem zAg (x:Tys zlE.head.ks):stepL zM5 zlE zjg x=zcW x:=by kernel_rfl
theorem zuB:zad zjg=[]:=by kernel_rfl
theorem zLX:zay Tryz.prog FX (zaT zlE zti) zjg:=zam mix zaf zw3 (by kernel_rfl) (zac zuB (trivial)) zAg fun _ _ h=>h
theorem zCQ:zad zqn=[zjg]:=by kernel_rfl
theorem zQq:zaw Tryz.prog FX 146 zIf:=zai (E:=zM5) (code:=zqn) mix zaf zw3 Tryz.func146 (by kernel_rfl) zJt (by kernel_rfl) (fun y=>(y.1,y.2.1)) zIf.out (fun _=>rfl) zIf.run (fun x=>by kernel_rfl) (by kernel_rfl) (zac zCQ (⟨⟨_,by kernel_rfl,zLX⟩,trivial⟩))
def zJs:Sig:=⟨[(false,[.d (.sl .int)]),(false,[.d (.sl .int)])],[],false,[(false,[.own 0])],[(0,.arr false .int)]⟩
def zvz:Con:=⟨zJs,List Int,fun x=>zbc x.1 x.2.1,fun r=>(r,())⟩
def zqm:Code:=Tryz.f97.body.getD .skip
def zgU:Code:=(zad zqm).getD 0 .skip
def zjf:Code:=(zad zgU).getD 0 .skip
def zlD:LoopD:=⟨⟨zah [(1,false,[.d (.sl .int)]),(5,false,[.own 4352]),(18,false,[.d (.sl .int)]),(19,false,[.d (.int .i64)]),(20,false,[.d (.int .i64)])] 67 0,[(4352,.arr false .int)]⟩,[],[(.exit 0,⟨zah [(5,false,[.own 4352])] 67 0,[(4352,.arr false .int)]⟩,[])]⟩
def zlC:LoopD:=⟨⟨zah [(1,false,[.d (.sl .int)]),(5,false,[.own 4352]),(6,false,[.d (.int .i64)]),(7,false,[.d (.int .i64)]),(8,false,[.d (.int .i64)]),(18,false,[.d (.sl .int)]),(19,false,[.d (.int .i64)]),(20,false,[.d (.int .i64)]),(25,false,[.d (.sl .int)]),(26,false,[.d (.int .i64)]),(27,false,[.d (.int .i64)])] 67 0,[(4352,.arr false .int)]⟩,[],[(.exit 2,⟨zah [(1,false,[.d (.sl .int)]),(5,false,[.own 4352]),(6,false,[.d (.int .i64)]),(8,false,[.d (.int .i64)]),(18,false,[.d (.sl .int)]),(19,false,[.d (.int .i64)]),(20,false,[.d (.int .i64)])] 67 0,[(4352,.arr false .int)]⟩,[])]⟩
def zth (x:Tys zlD.head.ks):Option (zcp zlD.outs):=@whileO ((List Int) × (List Int) × Int × Int × (List Int) × Unit) ((List Int) × Unit) zcP x
def ztg (x:Tys zlC.head.ks):Option (zcp zlC.outs):=@whileO ((List Int) × Int × Int × Int × (List Int) × Int × Int × (List Int) × Int × Int × (List Int) × Unit) ((List Int) × Int × Int × (List Int) × Int × Int × (List Int) × Unit) zeo x
def zIR:Env:=⟨zbA,[(132,zvA)],[(3,zaT zlD zth),(7,zaT zlC ztg)],[]⟩
theorem zqc:zaj Tryz.prog FX zIR.cons:=zaa zGd (zab Tryz.func132 (by kernel_rfl)) rfl (zae)
theorem zAe (x:Tys zlC.head.ks):stepL zIR zlC zjf x=zeo x:=by kernel_rfl
theorem zuz:zad zjf=[]:=by kernel_rfl
theorem zLV:zay Tryz.prog FX (zaT zlC ztg) zjf:=zam mix zaf zqc (by kernel_rfl) (zac zuz (trivial)) zAe fun _ _ h=>h
theorem zAf (x:Tys zlD.head.ks):stepL zIR zlD zgU x=zcP x:=by kernel_rfl
theorem zuA:zad zgU=[zjf]:=by kernel_rfl
theorem zLW:zay Tryz.prog FX (zaT zlD zth) zgU:=zam mix zaf zqc (by kernel_rfl) (zac zuA (⟨⟨_,by kernel_rfl,zLV⟩,trivial⟩)) zAf fun _ _ h=>h
theorem zCP:zad zqm=[zgU]:=by kernel_rfl
theorem zGc:zaw Tryz.prog FX 97 zvz:=zai (E:=zIR) (code:=zqm) mix zaf zqc Tryz.func97 (by kernel_rfl) zJs (by kernel_rfl) (fun y=>y.1) zvz.out (fun _=>rfl) zvz.run (fun x=>by kernel_rfl) (by kernel_rfl) (zac zCP (⟨⟨_,by kernel_rfl,zLW⟩,trivial⟩))
def zJr:Sig:=⟨[(false,[.d (.sl .int)]),(false,[.d (.sl .int)])],[],true,[(false,[.own 0]),(false,[.own 1])],[(0,.arr false .int),(1,.arr false .int)]⟩
def zzQ:Con:=⟨zJr,List Int × List Int,fun x=>zbD x.1 x.2.1,fun r=>(r.1,r.2,())⟩
def zmV:Code:=Tryz.f130.body.getD .skip
def zje:Code:=(zad zmV).getD 0 .skip
def zeY:Code:=(zad zmV).getD 1 .skip
def zjd:Code:=(zad zeY).getD 0 .skip
def zjc:Code:=(zad zeY).getD 1 .skip
def zjb:Code:=(zad zeY).getD 2 .skip
def zlB:LoopD:=⟨⟨zah [(0,false,[.d (.sl .int)]),(6,false,[.d (.int .i64)]),(7,false,[.own 15360]),(8,false,[.own 15424]),(9,false,[.d (.int .i64)])] 239 0,[(15360,.arr false .int),(15424,.arr false .int)]⟩,[],[(.exit 0,⟨zah [(6,false,[.d (.int .i64)]),(7,false,[.own 15360]),(8,false,[.own 15424]),(9,false,[.d (.int .i64)])] 239 0,[(15360,.arr false .int),(15424,.arr false .int)]⟩,[])]⟩
def zlA:LoopD:=⟨⟨zah [(6,false,[.d (.int .i64)]),(7,false,[.own 15360]),(8,false,[.own 15424]),(9,false,[.d (.int .i64)]),(10,false,[.own 15488]),(11,false,[.d (.int .i64)]),(12,false,[.d (.int .i64)])] 239 0,[(15360,.arr false .int),(15424,.arr false .int),(15488,.arr false .int)]⟩,[],[(.exit 2,⟨zah [(6,false,[.d (.int .i64)]),(7,false,[.own 15360]),(10,false,[.own 15488])] 239 0,[(15360,.arr false .int),(15488,.arr false .int)]⟩,[])]⟩
def zlz:LoopD:=⟨⟨zah [(6,false,[.d (.int .i64)]),(7,false,[.own 15360]),(8,false,[.own 15424]),(9,false,[.d (.int .i64)]),(10,false,[.own 15488]),(11,false,[.d (.int .i64)]),(12,false,[.d (.int .i64)]),(14,false,[.d (.int .i64)]),(15,false,[.d (.int .i64)])] 239 0,[(15360,.arr false .int),(15424,.arr false .int),(15488,.arr false .int)]⟩,[],[(.exit 4,⟨zah [(6,false,[.d (.int .i64)]),(7,false,[.own 15360]),(8,false,[.own 15424]),(9,false,[.d (.int .i64)]),(10,false,[.own 15488]),(11,false,[.d (.int .i64)]),(12,false,[.d (.int .i64)]),(14,false,[.d (.int .i64)])] 239 0,[(15360,.arr false .int),(15424,.arr false .int),(15488,.arr false .int)]⟩,[])]⟩
def zly:LoopD:=⟨⟨zah [(6,false,[.d (.int .i64)]),(7,false,[.own 15360]),(8,false,[.own 15424]),(9,false,[.d (.int .i64)]),(10,false,[.own 15488]),(11,false,[.d (.int .i64)]),(12,false,[.d (.int .i64)]),(14,false,[.d (.int .i64)]),(16,false,[.d (.int .i64)]),(135,false,[.d (.int .i64)]),(136,false,[.d (.int .i64)])] 239 0,[(15360,.arr false .int),(15424,.arr false .int),(15488,.arr false .int)]⟩,[],[(.exit 6,⟨zah [(6,false,[.d (.int .i64)]),(7,false,[.own 15360]),(8,false,[.own 15424]),(9,false,[.d (.int .i64)]),(10,false,[.own 15488]),(11,false,[.d (.int .i64)]),(12,false,[.d (.int .i64)]),(14,false,[.d (.int .i64)]),(16,false,[.d (.int .i64)])] 239 0,[(15360,.arr false .int),(15424,.arr false .int),(15488,.arr false .int)]⟩,[])]⟩
def zlx:LoopD:=⟨⟨zah [(6,false,[.d (.int .i64)]),(7,false,[.own 15360]),(8,false,[.own 15424]),(9,false,[.d (.int .i64)]),(10,false,[.own 15488]),(11,false,[.d (.int .i64)]),(12,false,[.d (.int .i64)]),(14,false,[.d (.int .i64)]),(19,false,[.d (.int .i64)]),(188,false,[.d (.int .i64)]),(189,false,[.d (.int .i64)])] 239 0,[(15360,.arr false .int),(15424,.arr false .int),(15488,.arr false .int)]⟩,[],[(.exit 8,⟨zah [(6,false,[.d (.int .i64)]),(7,false,[.own 15360]),(8,false,[.own 15424]),(9,false,[.d (.int .i64)]),(10,false,[.own 15488]),(11,false,[.d (.int .i64)]),(12,false,[.d (.int .i64)]),(14,false,[.d (.int .i64)]),(19,false,[.d (.int .i64)])] 239 0,[(15360,.arr false .int),(15424,.arr false .int),(15488,.arr false .int)]⟩,[])]⟩
def ztf (x:Tys zlB.head.ks):Option (zcp zlB.outs):=@whileO ((List Int) × Int × Int × (List Int) × (List Int) × Unit) (Int × Int × (List Int) × (List Int) × Unit) zcU x
def zte (x:Tys zlA.head.ks):Option (zcp zlA.outs):=@whileO (Int × Int × Int × Int × (List Int) × (List Int) × (List Int) × Unit) (Int × (List Int) × (List Int) × Unit) zcb x
def ztd (x:Tys zlz.head.ks):Option (zcp zlz.outs):=@whileO (Int × Int × Int × Int × Int × Int × (List Int) × (List Int) × (List Int) × Unit) (Int × Int × Int × Int × Int × (List Int) × (List Int) × (List Int) × Unit) zcT x
def ztc (x:Tys zly.head.ks):Option (zcp zly.outs):=@whileO (Int × Int × Int × Int × Int × Int × Int × Int × (List Int) × (List Int) × (List Int) × Unit) (Int × Int × Int × Int × Int × Int × (List Int) × (List Int) × (List Int) × Unit) zcS x
def ztb (x:Tys zlx.head.ks):Option (zcp zlx.outs):=@whileO (Int × Int × Int × Int × Int × Int × Int × Int × (List Int) × (List Int) × (List Int) × Unit) (Int × Int × Int × Int × Int × Int × (List Int) × (List Int) × (List Int) × Unit) zcR x
def zv3:Env:=⟨zbA,[(144,zEW),(93,zov),(146,zIf),(97,zvz),(132,zvA)],[(9,zaT zlB ztf),(14,zaT zlA zte),(18,zaT zlz ztd),(24,zaT zly ztc),(38,zaT zlx ztb)],[(16,[(0,[]),(1,[]),(2,[]),(3,[]),(4,[]),(5,[]),(6,[]),(7,[]),(8,[]),(9,[]),(10,[]),(11,[]),(12,[]),(13,[]),(14,[]),(15,[14,0,1,2,3,4,5,6,7,8,9,10,11,12,13])]),(17,[(0,[]),(1,[]),(2,[]),(3,[]),(4,[]),(5,[]),(6,[2,0,1]),(7,[5,6,0,1,2,3,4])]),(18,[(0,[]),(1,[]),(2,[]),(3,[]),(4,[]),(5,[]),(6,[]),(7,[]),(8,[]),(9,[]),(10,[]),(11,[]),(12,[]),(13,[]),(14,[]),(15,[]),(16,[]),(17,[]),(18,[]),(19,[]),(20,[]),(21,[])]),(26,[(0,[]),(1,[]),(2,[]),(3,[]),(4,[]),(5,[]),(6,[]),(7,[]),(8,[]),(9,[]),(10,[]),(11,[]),(12,[]),(13,[]),(14,[]),(15,[14,0,1,2,3,4,5,6,7,8,9,10,11,12,13])]),(40,[(0,[]),(1,[]),(2,[]),(3,[]),(4,[]),(5,[]),(6,[]),(7,[]),(8,[]),(9,[]),(10,[]),(11,[]),(12,[]),(13,[12,0,1,2,3,4,5,6,7,8,9,10,11])])]⟩
theorem zi2:zaj Tryz.prog FX zv3.cons:=zaa zN6 (zab Tryz.func144 (by kernel_rfl)) rfl (zaa zul (zab Tryz.func93 (by kernel_rfl)) rfl (zaa zQq (zab Tryz.func146 (by kernel_rfl)) rfl (zaa zGc (zab Tryz.func97 (by kernel_rfl)) rfl (zaa zGd (zab Tryz.func132 (by kernel_rfl)) rfl (zae)))))
theorem zz9 (x:Tys zlx.head.ks):stepL zv3 zlx zjb x=zcR x:=by kernel_rfl
theorem zuu:zad zjb=[]:=by kernel_rfl
theorem zLQ:zay Tryz.prog FX (zaT zlx ztb) zjb:=zam mix zaf zi2 (by kernel_rfl) (zac zuu (trivial)) zz9 fun _ _ h=>h
theorem zAa (x:Tys zly.head.ks):stepL zv3 zly zjc x=zcS x:=by kernel_rfl
theorem zuv:zad zjc=[]:=by kernel_rfl
theorem zLR:zay Tryz.prog FX (zaT zly ztc) zjc:=zam mix zaf zi2 (by kernel_rfl) (zac zuv (trivial)) zAa fun _ _ h=>h
theorem zAb (x:Tys zlz.head.ks):stepL zv3 zlz zjd x=zcT x:=by kernel_rfl
theorem zuw:zad zjd=[]:=by kernel_rfl
theorem zLS:zay Tryz.prog FX (zaT zlz ztd) zjd:=zam mix zaf zi2 (by kernel_rfl) (zac zuw (trivial)) zAb fun _ _ h=>h
theorem zAc (x:Tys zlA.head.ks):stepL zv3 zlA zeY x=zcb x:=by kernel_rfl
theorem zux:zad zeY=[zjd,zjc,zjb]:=by kernel_rfl
theorem zLT:zay Tryz.prog FX (zaT zlA zte) zeY:=zam mix zaf zi2 (by kernel_rfl) (zac zux (⟨⟨_,by kernel_rfl,zLS⟩,⟨⟨_,by kernel_rfl,zLR⟩,⟨⟨_,by kernel_rfl,zLQ⟩,trivial⟩⟩⟩)) zAc fun _ _ h=>h
theorem zAd (x:Tys zlB.head.ks):stepL zv3 zlB zje x=zcU x:=by kernel_rfl
theorem zuy:zad zje=[]:=by kernel_rfl
theorem zLU:zay Tryz.prog FX (zaT zlB ztf) zje:=zam mix zaf zi2 (by kernel_rfl) (zac zuy (trivial)) zAd fun _ _ h=>h
theorem zCO:zad zmV=[zje,zeY]:=by kernel_rfl
theorem zLw:zaw Tryz.prog FX 130 zzQ:=zai (E:=zv3) (code:=zmV) mix zaf zi2 Tryz.func130 (by kernel_rfl) zJr (by kernel_rfl) (fun y=>(y.1,y.2.1)) zzQ.out (fun _=>rfl) zzQ.run (fun x=>by kernel_rfl) (by kernel_rfl) (zac zCO (⟨⟨_,by kernel_rfl,zLU⟩,⟨⟨_,by kernel_rfl,zLT⟩,trivial⟩⟩))
def zJq:Sig:=⟨[(false,[.d (.sl .int)]),(false,[.d (.sl .int)])],[],false,[(false,[.own 0])],[(0,.arr false .int)]⟩
def zzP:Con:=⟨zJq,List Int,fun x=>zdJ x.1 x.2.1,fun r=>(r,())⟩
def zmU:Code:=Tryz.f122.body.getD .skip
def zja:Code:=(zad zmU).getD 0 .skip
def zi9:Code:=(zad zmU).getD 1 .skip
def zlw:LoopD:=⟨⟨zah [(0,false,[.d (.sl .int)]),(1,false,[.d (.sl .int)])] 49 0,[]⟩,[],[(.exit 0,⟨zah [(0,false,[.d (.sl .int)]),(1,false,[.d (.sl .int)])] 49 0,[]⟩,[])]⟩
def zlv:LoopD:=⟨⟨zah [(7,false,[.d (.int .i64)]),(8,false,[.d (.int .i64)])] 49 0,[]⟩,[],[(.exit 2,⟨zah [(7,false,[.d (.int .i64)])] 49 0,[]⟩,[])]⟩
def zta (x:Tys zlw.head.ks):Option (zcp zlw.outs):=@whileO ((List Int) × (List Int) × Unit) ((List Int) × (List Int) × Unit) zbJ x
def zs9 (x:Tys zlv.head.ks):Option (zcp zlv.outs):=@whileO (Int × Int × Unit) (Int × Unit) zcQ x
def zIQ:Env:=⟨zbA,[(130,zzQ),(93,zov)],[(1,zaT zlw zta),(7,zaT zlv zs9)],[(6,[(0,[]),(1,[]),(2,[]),(3,[]),(4,[]),(5,[]),(6,[2,0,1]),(7,[5,6,0,1,2,3,4])]),(8,[(0,[]),(1,[]),(2,[]),(3,[]),(4,[0,1]),(5,[3,4,0,1,2])])]⟩
theorem zqb:zaj Tryz.prog FX zIQ.cons:=zaa zLw (zab Tryz.func130 (by kernel_rfl)) rfl (zaa zul (zab Tryz.func93 (by kernel_rfl)) rfl (zae))
theorem zz7 (x:Tys zlv.head.ks):stepL zIQ zlv zi9 x=zcQ x:=by kernel_rfl
theorem zus:zad zi9=[]:=by kernel_rfl
theorem zLO:zay Tryz.prog FX (zaT zlv zs9) zi9:=zam mix zaf zqb (by kernel_rfl) (zac zus (trivial)) zz7 fun _ _ h=>h
theorem zz8 (x:Tys zlw.head.ks):stepL zIQ zlw zja x=zbJ x:=by kernel_rfl
theorem zut:zad zja=[]:=by kernel_rfl
theorem zLP:zay Tryz.prog FX (zaT zlw zta) zja:=zam mix zaf zqb (by kernel_rfl) (zac zut (trivial)) zz8 fun _ _ h=>h
theorem zCN:zad zmU=[zja,zi9]:=by kernel_rfl
theorem zLv:zaw Tryz.prog FX 122 zzP:=zai (E:=zIQ) (code:=zmU) mix zaf zqb Tryz.func122 (by kernel_rfl) zJq (by kernel_rfl) (fun y=>y.1) zzP.out (fun _=>rfl) zzP.run (fun x=>by kernel_rfl) (by kernel_rfl) (zac zCN (⟨⟨_,by kernel_rfl,zLP⟩,⟨⟨_,by kernel_rfl,zLO⟩,trivial⟩⟩))
def zJp:Sig:=⟨[(false,[.d (.sl .int)])],[],false,[(false,[.d (.bool)])],[]⟩
def zzO:Con:=⟨zJp,Bool,fun x=>zfj x.1,fun r=>(r,())⟩
def zxN:Code:=Tryz.f121.body.getD .skip
def zPh:Env:=⟨zbA,[],[],[]⟩
theorem zHr:zaj Tryz.prog FX zPh.cons:=zae
theorem zCM:zad zxN=[]:=by kernel_rfl
theorem zLu:zaw Tryz.prog FX 121 zzO:=zai (E:=zPh) (code:=zxN) mix zaf zHr Tryz.func121 (by kernel_rfl) zJp (by kernel_rfl) (fun y=>y.1) zzO.out (fun _=>rfl) zzO.run (fun x=>by kernel_rfl) (by kernel_rfl) (zac zCM (trivial))
def zJo:Sig:=⟨[(true,[.d (.bool),.d (.sl .int),.d (.sl .int)])],[],false,[(false,[.d (.bool)])],[]⟩
def zIe:Con:=⟨zJo,Bool,fun x=>zgs (⟨x.1,x.2.1,x.2.2.1⟩:Rt),fun r=>(r,())⟩
def zxM:Code:=Tryz.f78.body.getD .skip
def zPg:Env:=⟨zbA,[(119,zEX),(120,zEY),(122,zzP),(121,zzO)],[],[]⟩
theorem zHq:zaj Tryz.prog FX zPg.cons:=zaa zN7 (zab Tryz.func119 (by kernel_rfl)) rfl (zaa zN8 (zab Tryz.func120 (by kernel_rfl)) rfl (zaa zLv (zab Tryz.func122 (by kernel_rfl)) rfl (zaa zLu (zab Tryz.func121 (by kernel_rfl)) rfl (zae))))
theorem zCL:zad zxM=[]:=by kernel_rfl
theorem zQp:zaw Tryz.prog FX 78 zIe:=zai (E:=zPg) (code:=zxM) mix zaf zHq Tryz.func78 (by kernel_rfl) zJo (by kernel_rfl) (fun y=>y.1) zIe.out (fun _=>rfl) zIe.run (fun x=>by kernel_rfl) (by kernel_rfl) (zac zCL (trivial))
def zJn:Sig:=⟨[(true,[.d (.int .i64),.d (.int .i64),.d (.sl .rat)])],[],false,[(false,[.d (.bool)])],[]⟩
def zId:Con:=⟨zJn,Bool,fun x=>zdz (⟨x.1,x.2.1,x.2.2.1⟩:Mx),fun r=>(r,())⟩
def zql:Code:=Tryz.f38.body.getD .skip
def zi8:Code:=(zad zql).getD 0 .skip
def zlu:LoopD:=⟨⟨zah [(27,false,[.d (.sl .rat)]),(28,false,[.d (.int .i64)]),(29,false,[.d (.int .i64)])] 37 0,[]⟩,[],[(.ret,⟨zah [(2,false,[.d (.bool)])] 37 0,[]⟩,[]),(.exit 0,⟨zah [] 37 0,[]⟩,[])]⟩
def zs8 (x:Tys zlu.head.ks):Option (zcp zlu.outs):=@whileO ((List Rt) × Int × Int × Unit) ((Bool × Unit) ⊕ (Unit)) zbw x
def zM4:Env:=⟨zbA,[(77,zIg),(78,zIe)],[(4,zaT zlu zs8)],[]⟩
theorem zw2:zaj Tryz.prog FX zM4.cons:=zaa zQr (zab Tryz.func77 (by kernel_rfl)) rfl (zaa zQp (zab Tryz.func78 (by kernel_rfl)) rfl (zae))
theorem zz6 (x:Tys zlu.head.ks):stepL zM4 zlu zi8 x=zbw x:=by kernel_rfl
theorem zur:zad zi8=[]:=by kernel_rfl
theorem zLN:zay Tryz.prog FX (zaT zlu zs8) zi8:=zam mix zaf zw2 (by kernel_rfl) (zac zur (trivial)) zz6 fun _ _ h=>h
theorem zCK:zad zql=[zi8]:=by kernel_rfl
theorem zQo:zaw Tryz.prog FX 38 zId:=zai (E:=zM4) (code:=zql) mix zaf zw2 Tryz.func38 (by kernel_rfl) zJn (by kernel_rfl) (fun y=>y.1) zId.out (fun _=>rfl) zId.run (fun x=>by kernel_rfl) (by kernel_rfl) (zac zCK (⟨⟨_,by kernel_rfl,zLN⟩,trivial⟩))
def zJm:Sig:=⟨[(true,[.d (.bool),.d (.sl .int),.d (.sl .int)])],[],false,[(true,[.d (.bool),.own 0,.own 1])],[(0,.arr false .int),(1,.arr false .int)]⟩
def zEU:Con:=⟨zJm,Rt,fun x=>zd0 (⟨x.1,x.2.1,x.2.2.1⟩:Rt),fun r=>(r.neg,r.mag,r.den,())⟩
def zxL:Code:=Tryz.f44.body.getD .skip
def zPf:Env:=⟨zbA,[(93,zov)],[],[(1,[(0,[]),(1,[]),(2,[]),(3,[]),(4,[]),(5,[]),(8,[]),(9,[]),(6,[5,4,3]),(7,[]),(10,[9,6,8,5,4,3]),(11,[]),(12,[11,10,0,1,2,3,4,5,6,7,8,9])])]⟩
theorem zHp:zaj Tryz.prog FX zPf.cons:=zaa zul (zab Tryz.func93 (by kernel_rfl)) rfl (zae)
theorem zCJ:zad zxL=[]:=by kernel_rfl
theorem zN4:zaw Tryz.prog FX 44 zEU:=zai (E:=zPf) (code:=zxL) mix zaf zHp Tryz.func44 (by kernel_rfl) zJm (by kernel_rfl) (fun y=>(⟨y.1,y.2.1,y.2.2.1⟩:Rt)) zEU.out (fun _=>rfl) zEU.run (fun x=>by kernel_rfl) (by kernel_rfl) (zac zCJ (trivial))
def zJl:Sig:=⟨[(false,[.d (.sl .rat)])],[],false,[(false,[.dp 0])],[(0,.deep .rat)]⟩
def zIc:Con:=⟨zJl,List Rt,fun x=>zb7 x.1,fun r=>(r,())⟩
def zqk:Code:=Tryz.f79.body.getD .skip
def zi7:Code:=(zad zqk).getD 0 .skip
def zlt:LoopD:=⟨⟨zah [(3,false,[.dp 1280]),(6,false,[.d (.sl .rat)]),(7,false,[.d (.int .i64)]),(8,false,[.d (.int .i64)])] 19 0,[(1280,.deep .rat)]⟩,[(.slotD 3 0,1280,.rat)],[(.exit 0,⟨zah [(3,false,[.dp 1280])] 19 0,[(1280,.deep .rat)]⟩,[(.slotD 3 0,1280,.rat)])]⟩
def zs7 (x:Tys zlt.head.ks):Option (zcp zlt.outs):=@whileO ((List Rt) × Int × Int × (List Rt) × Unit) ((List Rt) × Unit) zbu x
def zM3:Env:=⟨zbA,[(44,zEU)],[(3,zaT zlt zs7)],[]⟩
theorem zw1:zaj Tryz.prog FX zM3.cons:=zaa zN4 (zab Tryz.func44 (by kernel_rfl)) rfl (zae)
theorem zz5 (x:Tys zlt.head.ks):stepL zM3 zlt zi7 x=zbu x:=by kernel_rfl
theorem zuq:zad zi7=[]:=by kernel_rfl
theorem zLM:zay Tryz.prog FX (zaT zlt zs7) zi7:=zam mix zaf zw1 (by kernel_rfl) (zac zuq (trivial)) zz5 fun _ _ h=>h
theorem zCI:zad zqk=[zi7]:=by kernel_rfl
theorem zQn:zaw Tryz.prog FX 79 zIc:=zai (E:=zM3) (code:=zqk) mix zaf zw1 Tryz.func79 (by kernel_rfl) zJl (by kernel_rfl) (fun y=>y.1) zIc.out (fun _=>rfl) zIc.run (fun x=>by kernel_rfl) (by kernel_rfl) (zac zCI (⟨⟨_,by kernel_rfl,zLM⟩,trivial⟩))
def zJj:Sig:=⟨[(true,[.d (.int .i64),.d (.int .i64),.d (.sl .trat)]),(false,[.d (.int .i64)]),(false,[.d (.int .i64)])],[],false,[(true,[.d (.bool),.d (.tok),.d (.tok)])],[]⟩
def zIa:Con:=⟨zJj,TRt,fun x=>zcF (⟨x.1,x.2.1,x.2.2.1⟩:MxT) x.2.2.2.1 x.2.2.2.2.1,fun r=>(r.neg,r.mag,r.den,())⟩
def zxJ:Code:=Tryz.f45.body.getD .skip
def zPd:Env:=⟨zPM,[],[],[]⟩
theorem zHn:zaj Tryz.prog FX zPd.cons:=zae
theorem zCG:zad zxJ=[]:=by kernel_rfl
theorem zQl:zaw Tryz.prog FX 45 zIa:=zai (E:=zPd) (code:=zxJ) mix zhq zHn Tryz.func45 (by kernel_rfl) zJj (by kernel_rfl) (fun y=>(⟨y.1,y.2.1,y.2.2.1⟩:TRt)) zIa.out (fun _=>rfl) zIa.run (fun x=>by kernel_rfl) (by kernel_rfl) (zac zCG (trivial))
def zJi:Sig:=⟨[(true,[.d (.bool),.d (.sl .int),.d (.sl .int)])],[],false,[(false,[.d (.bool)])],[]⟩
def zH9:Con:=⟨zJi,Bool,fun x=>zdK (⟨x.1,x.2.1,x.2.2.1⟩:Rt),fun r=>(r,())⟩
def zxI:Code:=Tryz.f80.body.getD .skip
def zPc:Env:=⟨zbA,[],[],[]⟩
theorem zHm:zaj Tryz.prog FX zPc.cons:=zae
theorem zCF:zad zxI=[]:=by kernel_rfl
theorem zQk:zaw Tryz.prog FX 80 zH9:=zai (E:=zPc) (code:=zxI) mix zaf zHm Tryz.func80 (by kernel_rfl) zJi (by kernel_rfl) (fun y=>y.1) zH9.out (fun _=>rfl) zH9.run (fun x=>by kernel_rfl) (by kernel_rfl) (zac zCF (trivial))
def zJh:Sig:=⟨[(false,[.d (.bool)]),(false,[.own 64])],[(64,.arr false .int)],false,[(true,[.d (.bool),.own 0])],[(0,.arr false .int)]⟩
def zqR:Con:=⟨zJh,Bg,fun x=>zaL x.1 x.2.1,fun r=>(r.neg,r.mag,())⟩
def zxH:Code:=Tryz.f131.body.getD .skip
def zPb:Env:=⟨zbA,[],[],[]⟩
theorem zHl:zaj Tryz.prog FX zPb.cons:=zae
theorem zCE:zad zxH=[]:=by kernel_rfl
theorem zza:zaw Tryz.prog FX 131 zqR:=zai (E:=zPb) (code:=zxH) mix zaf zHl Tryz.func131 (by kernel_rfl) zJh (by kernel_rfl) (fun y=>(⟨y.1,y.2.1⟩:Bg)) zqR.out (fun _=>rfl) zqR.run (fun x=>by kernel_rfl) (by kernel_rfl) (zac zCE (trivial))
def zJg:Sig:=⟨[(false,[.d (.sl .int)]),(false,[.d (.sl .int)])],[],false,[(false,[.own 0])],[(0,.arr false .int)]⟩
def zET:Con:=⟨zJg,List Int,fun x=>zeJ x.1 x.2.1,fun r=>(r,())⟩
def zqj:Code:=Tryz.f143.body.getD .skip
def zi6:Code:=(zad zqj).getD 0 .skip
def zls:LoopD:=⟨⟨zah [(0,false,[.d (.sl .int)]),(1,false,[.d (.sl .int)]),(5,false,[.own 3648]),(6,false,[.d (.int .i64)]),(21,false,[.d (.int .i64)]),(22,false,[.d (.int .i64)])] 56 0,[(3648,.arr false .int)]⟩,[],[(.exit 0,⟨zah [(5,false,[.own 3648]),(6,false,[.d (.int .i64)])] 56 0,[(3648,.arr false .int)]⟩,[])]⟩
def zs6 (x:Tys zls.head.ks):Option (zcp zls.outs):=@whileO ((List Int) × (List Int) × Int × Int × Int × (List Int) × Unit) (Int × (List Int) × Unit) zbK x
def zM2:Env:=⟨zbA,[],[(6,zaT zls zs6)],[]⟩
theorem zw0:zaj Tryz.prog FX zM2.cons:=zae
theorem zz4 (x:Tys zls.head.ks):stepL zM2 zls zi6 x=zbK x:=by kernel_rfl
theorem zup:zad zi6=[]:=by kernel_rfl
theorem zLL:zay Tryz.prog FX (zaT zls zs6) zi6:=zam mix zaf zw0 (by kernel_rfl) (zac zup (trivial)) zz4 fun _ _ h=>h
theorem zCD:zad zqj=[zi6]:=by kernel_rfl
theorem zN3:zaw Tryz.prog FX 143 zET:=zai (E:=zM2) (code:=zqj) mix zaf zw0 Tryz.func143 (by kernel_rfl) zJg (by kernel_rfl) (fun y=>y.1) zET.out (fun _=>rfl) zET.run (fun x=>by kernel_rfl) (by kernel_rfl) (zac zCD (⟨⟨_,by kernel_rfl,zLL⟩,trivial⟩))
def zJf:Sig:=⟨[(false,[.d (.int .i64)])],[],false,[(true,[.d (.bool),.own 0])],[(0,.arr false .int)]⟩
def zH8:Con:=⟨zJf,Bg,fun x=>zdA x.1,fun r=>(r.neg,r.mag,())⟩
def zxG:Code:=Tryz.f148.body.getD .skip
def zPa:Env:=⟨zbA,[(155,zEV),(131,zqR),(143,zET)],[],[]⟩
theorem zHk:zaj Tryz.prog FX zPa.cons:=zaa zN5 (zab Tryz.func155 (by kernel_rfl)) rfl (zaa zza (zab Tryz.func131 (by kernel_rfl)) rfl (zaa zN3 (zab Tryz.func143 (by kernel_rfl)) rfl (zae)))
theorem zCC:zad zxG=[]:=by kernel_rfl
theorem zQj:zaw Tryz.prog FX 148 zH8:=zai (E:=zPa) (code:=zxG) mix zaf zHk Tryz.func148 (by kernel_rfl) zJf (by kernel_rfl) (fun y=>(⟨y.1,y.2.1⟩:Bg)) zH8.out (fun _=>rfl) zH8.run (fun x=>by kernel_rfl) (by kernel_rfl) (zac zCC (trivial))
def zJe:Sig:=⟨[(false,[.d (.bool)]),(false,[.d (.sl .int)])],[],false,[(true,[.d (.bool),.d (.sl .int)])],[]⟩
def zH7:Con:=⟨zJe,Bg,fun x=>zfD x.1 x.2.1,fun r=>(r.neg,r.mag,())⟩
def zxF:Code:=Tryz.f131.body.getD .skip
def zO9:Env:=⟨zbA,[],[],[]⟩
theorem zHj:zaj Tryz.prog FX zO9.cons:=zae
theorem zCB:zad zxF=[]:=by kernel_rfl
theorem zQi:zaw Tryz.prog FX 131 zH7:=zai (E:=zO9) (code:=zxF) mix zaf zHj Tryz.func131 (by kernel_rfl) zJe (by kernel_rfl) (fun y=>(⟨y.1,y.2.1⟩:Bg)) zH7.out (fun _=>rfl) zH7.run (fun x=>by kernel_rfl) (by kernel_rfl) (zac zCB (trivial))
def zJd:Sig:=⟨[(true,[.d (.bool),.d (.sl .int)]),(false,[.d (.sl .int)])],[],false,[(true,[.d (.bool),.d (.sl .int),.d (.sl .int)])],[]⟩
def zH6:Con:=⟨zJd,Rt,fun x=>zfE (⟨x.1,x.2.1⟩:Bg) x.2.2.1,fun r=>(r.neg,r.mag,r.den,())⟩
def zxE:Code:=Tryz.f95.body.getD .skip
def zO8:Env:=⟨zbA,[(122,zzP),(121,zzO),(130,zzQ),(131,zqR)],[],[]⟩
theorem zHi:zaj Tryz.prog FX zO8.cons:=zaa zLv (zab Tryz.func122 (by kernel_rfl)) rfl (zaa zLu (zab Tryz.func121 (by kernel_rfl)) rfl (zaa zLw (zab Tryz.func130 (by kernel_rfl)) rfl (zaa zza (zab Tryz.func131 (by kernel_rfl)) rfl (zae))))
theorem zCA:zad zxE=[]:=by kernel_rfl
theorem zQh:zaw Tryz.prog FX 95 zH6:=zai (E:=zO8) (code:=zxE) mix zaf zHi Tryz.func95 (by kernel_rfl) zJd (by kernel_rfl) (fun y=>(⟨y.1,y.2.1,y.2.2.1⟩:Rt)) zH6.out (fun _=>rfl) zH6.run (fun x=>by kernel_rfl) (by kernel_rfl) (zac zCA (trivial))
def zJc:Sig:=⟨[(true,[.d (.bool),.d (.sl .int)]),(true,[.d (.bool),.d (.sl .int)])],[],false,[(true,[.d (.bool),.own 0,.own 1])],[(0,.arr false .int),(1,.arr false .int)]⟩
def zH5:Con:=⟨zJc,Rt,fun x=>zfa (⟨x.1,x.2.1⟩:Bg) (⟨x.2.2.1,x.2.2.2.1⟩:Bg),fun r=>(r.neg,r.mag,r.den,())⟩
def zxD:Code:=Tryz.f147.body.getD .skip
def zO7:Env:=⟨zbA,[(119,zEX),(131,zH7),(95,zH6),(44,zEU)],[],[(3,[(0,[]),(1,[]),(2,[]),(3,[]),(4,[]),(5,[]),(6,[]),(8,[]),(9,[]),(7,[4,6,1,3,5,0,2]),(10,[7,9,4,6,8,1,3,5,0,2]),(11,[10,7,9,4,6,8,1,3,5,0,2]),(12,[11,0,1,2,3,4,5,6,7,8,9,10])])]⟩
theorem zHh:zaj Tryz.prog FX zO7.cons:=zaa zN7 (zab Tryz.func119 (by kernel_rfl)) rfl (zaa zQi (zab Tryz.func131 (by kernel_rfl)) rfl (zaa zQh (zab Tryz.func95 (by kernel_rfl)) rfl (zaa zN4 (zab Tryz.func44 (by kernel_rfl)) rfl (zae))))
theorem zCz:zad zxD=[]:=by kernel_rfl
theorem zQg:zaw Tryz.prog FX 147 zH5:=zai (E:=zO7) (code:=zxD) mix zaf zHh Tryz.func147 (by kernel_rfl) zJc (by kernel_rfl) (fun y=>(⟨y.1,y.2.1,y.2.2.1⟩:Rt)) zH5.out (fun _=>rfl) zH5.run (fun x=>by kernel_rfl) (by kernel_rfl) (zac zCz (trivial))
def zJb:Sig:=⟨[(false,[.d (.int .i64)]),(false,[.d (.int .i64)])],[],false,[(true,[.d (.bool),.own 0,.own 1])],[(0,.arr false .int),(1,.arr false .int)]⟩
def zH4:Con:=⟨zJb,Rt,fun x=>zgt x.1 x.2.1,fun r=>(r.neg,r.mag,r.den,())⟩
def zxC:Code:=Tryz.f135.body.getD .skip
def zO6:Env:=⟨zbA,[(148,zH8),(147,zH5)],[],[]⟩
theorem zHg:zaj Tryz.prog FX zO6.cons:=zaa zQj (zab Tryz.func148 (by kernel_rfl)) rfl (zaa zQg (zab Tryz.func147 (by kernel_rfl)) rfl (zae))
theorem zCy:zad zxC=[]:=by kernel_rfl
theorem zQf:zaw Tryz.prog FX 135 zH4:=zai (E:=zO6) (code:=zxC) mix zaf zHg Tryz.func135 (by kernel_rfl) zJb (by kernel_rfl) (fun y=>(⟨y.1,y.2.1,y.2.2.1⟩:Rt)) zH4.out (fun _=>rfl) zH4.run (fun x=>by kernel_rfl) (by kernel_rfl) (zac zCy (trivial))
def zJa:Sig:=⟨[(false,[.d (.int .i64)])],[],false,[(true,[.d (.bool),.own 0,.own 1])],[(0,.arr false .int),(1,.arr false .int)]⟩
def zH3:Con:=⟨zJa,Rt,fun x=>zdN x.1,fun r=>(r.neg,r.mag,r.den,())⟩
def zxB:Code:=Tryz.f111.body.getD .skip
def zO5:Env:=⟨zbA,[(135,zH4)],[],[]⟩
theorem zHf:zaj Tryz.prog FX zO5.cons:=zaa zQf (zab Tryz.func135 (by kernel_rfl)) rfl (zae)
theorem zCx:zad zxB=[]:=by kernel_rfl
theorem zQe:zaw Tryz.prog FX 111 zH3:=zai (E:=zO5) (code:=zxB) mix zaf zHf Tryz.func111 (by kernel_rfl) zJa (by kernel_rfl) (fun y=>(⟨y.1,y.2.1,y.2.2.1⟩:Rt)) zH3.out (fun _=>rfl) zH3.run (fun x=>by kernel_rfl) (by kernel_rfl) (zac zCx (trivial))
def zI9:Sig:=⟨[(false,[.d (.int .i64)])],[],false,[(true,[.d (.bool),.own 0,.own 1])],[(0,.arr false .int),(1,.arr false .int)]⟩
def zzN:Con:=⟨zI9,Rt,fun x=>zbL x.1,fun r=>(r.neg,r.mag,r.den,())⟩
def zxA:Code:=Tryz.f68.body.getD .skip
def zO4:Env:=⟨zbA,[(111,zH3)],[],[]⟩
theorem zHe:zaj Tryz.prog FX zO4.cons:=zaa zQe (zab Tryz.func111 (by kernel_rfl)) rfl (zae)
theorem zCw:zad zxA=[]:=by kernel_rfl
theorem zLt:zaw Tryz.prog FX 68 zzN:=zai (E:=zO4) (code:=zxA) mix zaf zHe Tryz.func68 (by kernel_rfl) zI9 (by kernel_rfl) (fun y=>(⟨y.1,y.2.1,y.2.2.1⟩:Rt)) zzN.out (fun _=>rfl) zzN.run (fun x=>by kernel_rfl) (by kernel_rfl) (zac zCw (trivial))
def zI8:Sig:=⟨[(true,[.d (.int .i64),.d (.int .i64),.own 191]),(false,[.d (.int .i64)])],[(191,.arr false .trat)],false,[(false,[.win 191])],[(191,.arr false .trat)]⟩
def zH2:Con:=⟨zI8,(Nat × Nat) × List TRt,fun x=>zaG (⟨x.1,x.2.1,x.2.2.2.1⟩:MxT) x.2.2.1,fun r=>(r.1.1,r.1.2,r.2,())⟩
def zxz:Code:=Tryz.f81.body.getD .skip
def zO3:Env:=⟨zPM,[],[],[]⟩
theorem zHd:zaj Tryz.prog FX zO3.cons:=zae
theorem zCv:zad zxz=[]:=by kernel_rfl
theorem zQd:zaw Tryz.prog FX 81 zH2:=zai (E:=zO3) (code:=zxz) mix zhq zHd Tryz.func81 (by kernel_rfl) zI8 (by kernel_rfl) (fun y=>((y.1,y.2.1),y.2.2.1)) zH2.out (fun _=>rfl) zH2.run (fun x=>by kernel_rfl) (by kernel_rfl) (zac zCv (trivial))
def zI7:Sig:=⟨[(true,[.d (.bool),.d (.sl .int),.d (.sl .int)])],[],false,[(false,[.d (.bool)])],[]⟩
def zsL:Con:=⟨zI7,Bool,fun x=>zbx (⟨x.1,x.2.1,x.2.2.1⟩:Rt),fun r=>(r,())⟩
def zxy:Code:=Tryz.f48.body.getD .skip
def zO2:Env:=⟨zbA,[],[],[]⟩
theorem zHc:zaj Tryz.prog FX zO2.cons:=zae
theorem zCu:zad zxy=[]:=by kernel_rfl
theorem zCf:zaw Tryz.prog FX 48 zsL:=zai (E:=zO2) (code:=zxy) mix zaf zHc Tryz.func48 (by kernel_rfl) zI7 (by kernel_rfl) (fun y=>y.1) zsL.out (fun _=>rfl) zsL.run (fun x=>by kernel_rfl) (by kernel_rfl) (zac zCu (trivial))
def zI6:Sig:=⟨[(true,[.d (.bool),.d (.sl .int)]),(true,[.d (.bool),.d (.sl .int)])],[],false,[(true,[.d (.bool),.own 0])],[(0,.arr false .int)]⟩
def zES:Con:=⟨zI6,Bg,fun x=>zbE (⟨x.1,x.2.1⟩:Bg) (⟨x.2.2.1,x.2.2.2.1⟩:Bg),fun r=>(r.neg,r.mag,())⟩
def zxx:Code:=Tryz.f96.body.getD .skip
def zO1:Env:=⟨zbA,[(97,zvz),(131,zqR)],[],[(1,[(0,[]),(1,[]),(2,[]),(3,[]),(4,[]),(5,[]),(6,[]),(7,[]),(8,[]),(9,[6,8,5,7]),(10,[4,9,1,3,6,8,0,2,5,7]),(11,[10,0,1,2,3,4,5,6,7,8,9])])]⟩
theorem zHb:zaj Tryz.prog FX zO1.cons:=zaa zGc (zab Tryz.func97 (by kernel_rfl)) rfl (zaa zza (zab Tryz.func131 (by kernel_rfl)) rfl (zae))
theorem zCt:zad zxx=[]:=by kernel_rfl
theorem zN2:zaw Tryz.prog FX 96 zES:=zai (E:=zO1) (code:=zxx) mix zaf zHb Tryz.func96 (by kernel_rfl) zI6 (by kernel_rfl) (fun y=>(⟨y.1,y.2.1⟩:Bg)) zES.out (fun _=>rfl) zES.run (fun x=>by kernel_rfl) (by kernel_rfl) (zac zCt (trivial))
def zI5:Sig:=⟨[(true,[.d (.bool),.own 1]),(false,[.own 64])],[(1,.arr false .int),(64,.arr false .int)],false,[(true,[.d (.bool),.own 0,.own 1])],[(0,.arr false .int),(1,.arr false .int)]⟩
def zER:Con:=⟨zI5,Rt,fun x=>zbR (⟨x.1,x.2.1⟩:Bg) x.2.2.1,fun r=>(r.neg,r.mag,r.den,())⟩
def zxw:Code:=Tryz.f95.body.getD .skip
def zO0:Env:=⟨zbA,[(122,zzP),(121,zzO),(130,zzQ),(131,zqR)],[],[]⟩
theorem zHa:zaj Tryz.prog FX zO0.cons:=zaa zLv (zab Tryz.func122 (by kernel_rfl)) rfl (zaa zLu (zab Tryz.func121 (by kernel_rfl)) rfl (zaa zLw (zab Tryz.func130 (by kernel_rfl)) rfl (zaa zza (zab Tryz.func131 (by kernel_rfl)) rfl (zae))))
theorem zCs:zad zxw=[]:=by kernel_rfl
theorem zN1:zaw Tryz.prog FX 95 zER:=zai (E:=zO0) (code:=zxw) mix zaf zHa Tryz.func95 (by kernel_rfl) zI5 (by kernel_rfl) (fun y=>(⟨y.1,y.2.1,y.2.2.1⟩:Rt)) zER.out (fun _=>rfl) zER.run (fun x=>by kernel_rfl) (by kernel_rfl) (zac zCs (trivial))
def zI4:Sig:=⟨[(true,[.d (.bool),.d (.sl .int),.d (.sl .int)]),(true,[.d (.bool),.d (.sl .int),.d (.sl .int)])],[],false,[(true,[.d (.bool),.own 0,.own 1])],[(0,.arr false .int),(1,.arr false .int)]⟩
def zEQ:Con:=⟨zI4,Rt,fun x=>zeb (⟨x.1,x.2.1,x.2.2.1⟩:Rt) (⟨x.2.2.2.1,x.2.2.2.2.1,x.2.2.2.2.2.1⟩:Rt),fun r=>(r.neg,r.mag,r.den,())⟩
def zxv:Code:=Tryz.f47.body.getD .skip
def zOZ:Env:=⟨zbA,[(48,zsL),(96,zES),(97,zvz),(95,zER)],[],[(3,[(0,[]),(1,[]),(2,[]),(3,[]),(5,[]),(6,[]),(7,[]),(8,[]),(4,[1,3,0,2]),(9,[6,8,4,5,7,1,3,0,2]),(10,[4,9,1,3,6,8,0,2,5,7]),(11,[10,0,1,2,3,4,5,6,7,8,9])])]⟩
theorem zG9:zaj Tryz.prog FX zOZ.cons:=zaa zCf (zab Tryz.func48 (by kernel_rfl)) rfl (zaa zN2 (zab Tryz.func96 (by kernel_rfl)) rfl (zaa zGc (zab Tryz.func97 (by kernel_rfl)) rfl (zaa zN1 (zab Tryz.func95 (by kernel_rfl)) rfl (zae))))
theorem zCr:zad zxv=[]:=by kernel_rfl
theorem zN0:zaw Tryz.prog FX 47 zEQ:=zai (E:=zOZ) (code:=zxv) mix zaf zG9 Tryz.func47 (by kernel_rfl) zI4 (by kernel_rfl) (fun y=>(⟨y.1,y.2.1,y.2.2.1⟩:Rt)) zEQ.out (fun _=>rfl) zEQ.run (fun x=>by kernel_rfl) (by kernel_rfl) (zac zCr (trivial))
def zI3:Sig:=⟨[(true,[.d (.bool),.d (.sl .int),.d (.sl .int)]),(true,[.d (.bool),.d (.sl .int),.d (.sl .int)])],[],false,[(true,[.d (.bool),.own 0,.own 1])],[(0,.arr false .int),(1,.arr false .int)]⟩
def zH1:Con:=⟨zI3,Rt,fun x=>zfN (⟨x.1,x.2.1,x.2.2.1⟩:Rt) (⟨x.2.2.2.1,x.2.2.2.2.1,x.2.2.2.2.2.1⟩:Rt),fun r=>(r.neg,r.mag,r.den,())⟩
def zxu:Code:=Tryz.f50.body.getD .skip
def zOY:Env:=⟨zbA,[(48,zsL),(47,zEQ)],[],[]⟩
theorem zG8:zaj Tryz.prog FX zOY.cons:=zaa zCf (zab Tryz.func48 (by kernel_rfl)) rfl (zaa zN0 (zab Tryz.func47 (by kernel_rfl)) rfl (zae))
theorem zCq:zad zxu=[]:=by kernel_rfl
theorem zQc:zaw Tryz.prog FX 50 zH1:=zai (E:=zOY) (code:=zxu) mix zaf zG8 Tryz.func50 (by kernel_rfl) zI3 (by kernel_rfl) (fun y=>(⟨y.1,y.2.1,y.2.2.1⟩:Rt)) zH1.out (fun _=>rfl) zH1.run (fun x=>by kernel_rfl) (by kernel_rfl) (zac zCq (trivial))
def zI2:Sig:=⟨[(false,[.d (.sl .rat)])],[],false,[(false,[.d (.bool)])],[]⟩
def zH0:Con:=⟨zI2,Bool,fun x=>za5 x.1,fun r=>(r,())⟩
def zqi:Code:=Tryz.f82.body.getD .skip
def zi5:Code:=(zad zqi).getD 0 .skip
def zlr:LoopD:=⟨⟨zah [(5,false,[.d (.sl .rat)]),(6,false,[.d (.int .i64)]),(7,false,[.d (.int .i64)])] 14 0,[]⟩,[],[(.ret,⟨zah [(2,false,[.d (.bool)])] 14 0,[]⟩,[]),(.exit 0,⟨zah [] 14 0,[]⟩,[])]⟩
def zs5 (x:Tys zlr.head.ks):Option (zcp zlr.outs):=@whileO ((List Rt) × Int × Int × Unit) ((Bool × Unit) ⊕ (Unit)) zb6 x
def zM1:Env:=⟨zbA,[(48,zsL)],[(2,zaT zlr zs5)],[]⟩
theorem zwZ:zaj Tryz.prog FX zM1.cons:=zaa zCf (zab Tryz.func48 (by kernel_rfl)) rfl (zae)
theorem zz3 (x:Tys zlr.head.ks):stepL zM1 zlr zi5 x=zb6 x:=by kernel_rfl
theorem zuo:zad zi5=[]:=by kernel_rfl
theorem zLK:zay Tryz.prog FX (zaT zlr zs5) zi5:=zam mix zaf zwZ (by kernel_rfl) (zac zuo (trivial)) zz3 fun _ _ h=>h
theorem zCp:zad zqi=[zi5]:=by kernel_rfl
theorem zQb:zaw Tryz.prog FX 82 zH0:=zai (E:=zM1) (code:=zqi) mix zaf zwZ Tryz.func82 (by kernel_rfl) zI2 (by kernel_rfl) (fun y=>y.1) zH0.out (fun _=>rfl) zH0.run (fun x=>by kernel_rfl) (by kernel_rfl) (zac zCp (⟨⟨_,by kernel_rfl,zLK⟩,trivial⟩))
def zI1:Sig:=⟨[(true,[.d (.bool),.d (.sl .int)])],[],false,[(true,[.d (.bool),.own 0])],[(0,.arr false .int)]⟩
def zHZ:Con:=⟨zI1,Bg,fun x=>zeK (⟨x.1,x.2.1⟩:Bg),fun r=>(r.neg,r.mag,())⟩
def zxt:Code:=Tryz.f112.body.getD .skip
def zOX:Env:=⟨zbA,[(93,zov),(131,zqR)],[],[(1,[(0,[]),(1,[]),(2,[]),(3,[]),(4,[]),(5,[4,3]),(6,[2,5,1,4,0,3]),(7,[6,0,1,2,3,4,5])])]⟩
theorem zG7:zaj Tryz.prog FX zOX.cons:=zaa zul (zab Tryz.func93 (by kernel_rfl)) rfl (zaa zza (zab Tryz.func131 (by kernel_rfl)) rfl (zae))
theorem zCo:zad zxt=[]:=by kernel_rfl
theorem zQa:zaw Tryz.prog FX 112 zHZ:=zai (E:=zOX) (code:=zxt) mix zaf zG7 Tryz.func112 (by kernel_rfl) zI1 (by kernel_rfl) (fun y=>(⟨y.1,y.2.1⟩:Bg)) zHZ.out (fun _=>rfl) zHZ.run (fun x=>by kernel_rfl) (by kernel_rfl) (zac zCo (trivial))
def zI0:Sig:=⟨[(true,[.d (.bool),.d (.sl .int),.d (.sl .int)])],[],false,[(true,[.d (.bool),.own 0,.own 1])],[(0,.arr false .int),(1,.arr false .int)]⟩
def zEP:Con:=⟨zI0,Rt,fun x=>zfM (⟨x.1,x.2.1,x.2.2.1⟩:Rt),fun r=>(r.neg,r.mag,r.den,())⟩
def zxs:Code:=Tryz.f69.body.getD .skip
def zOW:Env:=⟨zbA,[(48,zsL),(112,zHZ),(93,zov)],[],[(3,[(0,[]),(1,[]),(3,[]),(4,[]),(2,[1,0]),(5,[4,2,3,1,0]),(6,[]),(7,[6,5,0,1,2,3,4])])]⟩
theorem zG6:zaj Tryz.prog FX zOW.cons:=zaa zCf (zab Tryz.func48 (by kernel_rfl)) rfl (zaa zQa (zab Tryz.func112 (by kernel_rfl)) rfl (zaa zul (zab Tryz.func93 (by kernel_rfl)) rfl (zae)))
theorem zCn:zad zxs=[]:=by kernel_rfl
theorem zNZ:zaw Tryz.prog FX 69 zEP:=zai (E:=zOW) (code:=zxs) mix zaf zG6 Tryz.func69 (by kernel_rfl) zI0 (by kernel_rfl) (fun y=>(⟨y.1,y.2.1,y.2.2.1⟩:Rt)) zEP.out (fun _=>rfl) zEP.run (fun x=>by kernel_rfl) (by kernel_rfl) (zac zCn (trivial))
def zIZ:Sig:=⟨[(false,[.d (.sl .int)]),(false,[.d (.sl .int)])],[],false,[(false,[.d (.bool)])],[]⟩
def zHY:Con:=⟨zIZ,Bool,fun x=>zeF x.1 x.2.1,fun r=>(r,())⟩
def zqh:Code:=Tryz.f128.body.getD .skip
def zi4:Code:=(zad zqh).getD 0 .skip
def zlq:LoopD:=⟨⟨zah [(0,false,[.d (.sl .int)]),(1,false,[.d (.sl .int)]),(12,false,[.d (.int .i64)]),(13,false,[.d (.int .i64)])] 26 0,[]⟩,[],[(.ret,⟨zah [(4,false,[.d (.bool)])] 26 0,[]⟩,[]),(.exit 0,⟨zah [] 26 0,[]⟩,[])]⟩
def zs4 (x:Tys zlq.head.ks):Option (zcp zlq.outs):=@whileO ((List Int) × (List Int) × Int × Int × Unit) ((Bool × Unit) ⊕ (Unit)) zb5 x
def zM0:Env:=⟨zbA,[],[(4,zaT zlq zs4)],[(6,[(0,[]),(1,[]),(2,[]),(3,[]),(4,[]),(5,[]),(6,[]),(7,[]),(8,[])])]⟩
theorem zwY:zaj Tryz.prog FX zM0.cons:=zae
theorem zz2 (x:Tys zlq.head.ks):stepL zM0 zlq zi4 x=zb5 x:=by kernel_rfl
theorem zun:zad zi4=[]:=by kernel_rfl
theorem zLJ:zay Tryz.prog FX (zaT zlq zs4) zi4:=zam mix zaf zwY (by kernel_rfl) (zac zun (trivial)) zz2 fun _ _ h=>h
theorem zCm:zad zqh=[zi4]:=by kernel_rfl
theorem zP9:zaw Tryz.prog FX 128 zHY:=zai (E:=zM0) (code:=zqh) mix zaf zwY Tryz.func128 (by kernel_rfl) zIZ (by kernel_rfl) (fun y=>y.1) zHY.out (fun _=>rfl) zHY.run (fun x=>by kernel_rfl) (by kernel_rfl) (zac zCm (⟨⟨_,by kernel_rfl,zLJ⟩,trivial⟩))
def zIY:Sig:=⟨[(false,[.d (.sl .int)]),(false,[.d (.sl .int)])],[],false,[(false,[.own 0])],[(0,.arr false .int)]⟩
def zHX:Con:=⟨zIY,List Int,fun x=>zeH x.1 x.2.1,fun r=>(r,())⟩
def zqg:Code:=Tryz.f145.body.getD .skip
def zi3:Code:=(zad zqg).getD 0 .skip
def zlp:LoopD:=⟨⟨zah [(1,false,[.d (.sl .int)]),(5,false,[.own 2816]),(6,false,[.d (.int .i64)]),(12,false,[.d (.int .i64)]),(13,false,[.d (.int .i64)])] 43 0,[(2816,.arr false .int)]⟩,[],[(.exit 0,⟨zah [(5,false,[.own 2816])] 43 0,[(2816,.arr false .int)]⟩,[])]⟩
def zs3 (x:Tys zlp.head.ks):Option (zcp zlp.outs):=@whileO ((List Int) × Int × Int × Int × (List Int) × Unit) ((List Int) × Unit) zbI x
def zMZ:Env:=⟨zbA,[(93,zov),(132,zvA)],[(4,zaT zlp zs3)],[]⟩
theorem zwX:zaj Tryz.prog FX zMZ.cons:=zaa zul (zab Tryz.func93 (by kernel_rfl)) rfl (zaa zGd (zab Tryz.func132 (by kernel_rfl)) rfl (zae))
theorem zz1 (x:Tys zlp.head.ks):stepL zMZ zlp zi3 x=zbI x:=by kernel_rfl
theorem zum:zad zi3=[]:=by kernel_rfl
theorem zLI:zay Tryz.prog FX (zaT zlp zs3) zi3:=zam mix zaf zwX (by kernel_rfl) (zac zum (trivial)) zz1 fun _ _ h=>h
theorem zCl:zad zqg=[zi3]:=by kernel_rfl
theorem zP8:zaw Tryz.prog FX 145 zHX:=zai (E:=zMZ) (code:=zqg) mix zaf zwX Tryz.func145 (by kernel_rfl) zIY (by kernel_rfl) (fun y=>y.1) zHX.out (fun _=>rfl) zHX.run (fun x=>by kernel_rfl) (by kernel_rfl) (zac zCl (⟨⟨_,by kernel_rfl,zLI⟩,trivial⟩))
def zIX:Sig:=⟨[(true,[.d (.bool),.d (.sl .int)]),(true,[.d (.bool),.d (.sl .int)])],[],false,[(true,[.d (.bool),.own 0])],[(0,.arr false .int)]⟩
def zHW:Con:=⟨zIX,Bg,fun x=>zdM (⟨x.1,x.2.1⟩:Bg) (⟨x.2.2.1,x.2.2.2.1⟩:Bg),fun r=>(r.neg,r.mag,())⟩
def zxr:Code:=Tryz.f129.body.getD .skip
def zOV:Env:=⟨zbA,[(143,zET),(131,zqR),(144,zEW),(145,zHX)],[],[(2,[(0,[]),(1,[]),(2,[]),(3,[]),(4,[]),(5,[]),(6,[3,5,2,4]),(7,[1,6,0,3,5,2,4]),(8,[7,0,1,2,3,4,5,6])]),(4,[(0,[]),(1,[]),(2,[]),(3,[]),(4,[]),(5,[]),(6,[3,5,2,4]),(7,[1,6,0,3,5,2,4]),(8,[7,0,1,2,3,4,5,6])]),(5,[(0,[]),(1,[]),(2,[]),(3,[]),(4,[]),(5,[]),(6,[3,5,2,4]),(7,[1,6,0,3,5,2,4]),(8,[7,0,1,2,3,4,5,6])])]⟩
theorem zG5:zaj Tryz.prog FX zOV.cons:=zaa zN3 (zab Tryz.func143 (by kernel_rfl)) rfl (zaa zza (zab Tryz.func131 (by kernel_rfl)) rfl (zaa zN6 (zab Tryz.func144 (by kernel_rfl)) rfl (zaa zP8 (zab Tryz.func145 (by kernel_rfl)) rfl (zae))))
theorem zCk:zad zxr=[]:=by kernel_rfl
theorem zP7:zaw Tryz.prog FX 129 zHW:=zai (E:=zOV) (code:=zxr) mix zaf zG5 Tryz.func129 (by kernel_rfl) zIX (by kernel_rfl) (fun y=>(⟨y.1,y.2.1⟩:Bg)) zHW.out (fun _=>rfl) zHW.run (fun x=>by kernel_rfl) (by kernel_rfl) (zac zCk (trivial))
def zIW:Sig:=⟨[(true,[.d (.bool),.d (.sl .int),.d (.sl .int)]),(true,[.d (.bool),.d (.sl .int),.d (.sl .int)])],[],false,[(true,[.d (.bool),.own 0,.own 1])],[(0,.arr false .int),(1,.arr false .int)]⟩
def zHV:Con:=⟨zIW,Rt,fun x=>zjK (⟨x.1,x.2.1,x.2.2.1⟩:Rt) (⟨x.2.2.2.1,x.2.2.2.2.1,x.2.2.2.2.2.1⟩:Rt),fun r=>(r.neg,r.mag,r.den,())⟩
def zxq:Code:=Tryz.f94.body.getD .skip
def zOU:Env:=⟨zbA,[(48,zsL),(128,zHY),(129,zHW),(93,zov),(95,zER),(96,zES),(97,zvz)],[],[(4,[(0,[]),(1,[]),(2,[]),(3,[]),(5,[]),(6,[]),(4,[1,3,0,2]),(7,[6,4,5,1,3,0,2]),(8,[4,7,1,3,6,0,2,5]),(9,[8,0,1,2,3,4,5,6,7])]),(7,[(0,[]),(1,[]),(3,[]),(4,[]),(5,[]),(6,[]),(2,[0,1]),(7,[4,6,2,3,5,0,1]),(8,[2,7,0,1,4,6,3,5]),(9,[8,0,1,2,3,4,5,6,7])])]⟩
theorem zG4:zaj Tryz.prog FX zOU.cons:=zaa zCf (zab Tryz.func48 (by kernel_rfl)) rfl (zaa zP9 (zab Tryz.func128 (by kernel_rfl)) rfl (zaa zP7 (zab Tryz.func129 (by kernel_rfl)) rfl (zaa zul (zab Tryz.func93 (by kernel_rfl)) rfl (zaa zN1 (zab Tryz.func95 (by kernel_rfl)) rfl (zaa zN2 (zab Tryz.func96 (by kernel_rfl)) rfl (zaa zGc (zab Tryz.func97 (by kernel_rfl)) rfl (zae)))))))
theorem zCj:zad zxq=[]:=by kernel_rfl
theorem zP6:zaw Tryz.prog FX 94 zHV:=zai (E:=zOU) (code:=zxq) mix zaf zG4 Tryz.func94 (by kernel_rfl) zIW (by kernel_rfl) (fun y=>(⟨y.1,y.2.1,y.2.2.1⟩:Rt)) zHV.out (fun _=>rfl) zHV.run (fun x=>by kernel_rfl) (by kernel_rfl) (zac zCj (trivial))
def zBC:Sig:=⟨[(true,[.d (.bool),.d (.sl .int),.d (.sl .int)]),(true,[.d (.bool),.d (.sl .int),.d (.sl .int)])],[],false,[(true,[.d (.bool),.own 0,.own 1])],[(0,.arr false .int),(1,.arr false .int)]⟩
def zyu:Con:=⟨zBC,Rt,fun x=>zg2 (⟨x.1,x.2.1,x.2.2.1⟩:Rt) (⟨x.2.2.2.1,x.2.2.2.2.1,x.2.2.2.2.2.1⟩:Rt),fun r=>(r.neg,r.mag,r.den,())⟩
def zsE:Code:=Tryz.f46.body.getD .skip
def zKT:Env:=⟨zbA,[(69,zEP),(94,zHV)],[],[(1,[(0,[]),(1,[]),(2,[1]),(3,[0,2,1]),(4,[3,0,1,2])])]⟩
theorem zEB:zaj Tryz.prog FX zKT.cons:=zaa zNZ (zab Tryz.func69 (by kernel_rfl)) rfl (zaa zP6 (zab Tryz.func94 (by kernel_rfl)) rfl (zae))
theorem zzx:zad zsE=[]:=by kernel_rfl
theorem zOy:zaw Tryz.prog FX 46 zyu:=zai (E:=zKT) (code:=zsE) mix zaf zEB Tryz.func46 (by kernel_rfl) zBC (by kernel_rfl) (fun y=>(⟨y.1,y.2.1,y.2.2.1⟩:Rt)) zyu.out (fun _=>rfl) zyu.run (fun x=>by kernel_rfl) (by kernel_rfl) (zac zzx (trivial))
def zBB:Sig:=⟨[(true,[.d (.int .i64),.d (.int .i64),.d (.sl .rat)])],[],true,[(true,[.d (.int .i64),.d (.int .i64),.dp 0,.own 1,.bot]),(false,[.d (.bool)])],[(0,.deep .rat),(1,.arr false .int)]⟩
def zyt:Con:=⟨zBB,RdnP × Bool,fun x=>zeG (⟨x.1,x.2.1,x.2.2.1⟩:Mx),fun r=>(r.1.rows,r.1.cols,r.2,r.1.cells,r.1.pivots,())⟩
def zoc:Code:=Tryz.f39.body.getD .skip
def zdo:Code:=(zad zoc).getD 0 .skip
def zhQ:Code:=(zad zdo).getD 0 .skip
def zhP:Code:=(zad zdo).getD 1 .skip
def zhO:Code:=(zad zdo).getD 2 .skip
def zf1:Code:=(zad zdo).getD 3 .skip
def zhN:Code:=(zad zf1).getD 0 .skip
def zj3:LoopD:=⟨⟨zah [(2,false,[.lp 128 0]),(4,false,[.lp 256 0]),(5,false,[.lp 320 0]),(6,false,[.d (.int .i64)]),(7,false,[.d (.int .i64)])] 183 0,[(128,.box [.d (.int .i64),.d (.int .i64),.own 11968,.own 12032,.own 12096]),(256,.box [.d (.int .i64),.d (.int .i64),.own 11776,.own 11840,.own 11904]),(320,.box [.d (.int .i64),.d (.int .i64),.own 11776]),(11776,.arr false .trat),(11840,.arr false .int),(11904,.arr false .trat),(11968,.arr false .trat),(12032,.arr false .int),(12096,.arr false .trat),(70368744177727,.pool)]⟩,[(.box 128 2,11968,.trat),(.box 128 3,12032,.int),(.box 128 4,12096,.trat),(.box 256 3,11840,.int),(.box 256 4,11904,.trat)],[(.ret,⟨zah [(2,false,[.lp 128 0]),(3,false,[.d (.bool)])] 183 0,[(128,.box [.d (.int .i64),.d (.int .i64),.own 11968,.own 12032,.own 12096]),(11968,.arr false .trat),(12032,.arr false .int),(12096,.arr false .trat),(70368744177727,.pool)]⟩,[(.box 128 2,11968,.trat),(.box 128 3,12032,.int),(.box 128 4,12096,.trat)]),(.exit 0,⟨zah [(2,false,[.lp 128 0]),(4,false,[.lp 256 0])] 183 0,[(128,.box [.d (.int .i64),.d (.int .i64),.own 11968,.own 12032,.own 12096]),(256,.box [.d (.int .i64),.d (.int .i64),.own 11776,.own 11840,.own 11904]),(11776,.arr false .trat),(11840,.arr false .int),(11904,.arr false .trat),(11968,.arr false .trat),(12032,.arr false .int),(12096,.arr false .trat),(70368744177727,.pool)]⟩,[(.box 128 2,11968,.trat),(.box 128 3,12032,.int),(.box 128 4,12096,.trat),(.box 256 3,11840,.int),(.box 256 4,11904,.trat)])]⟩
def zj2:LoopD:=⟨⟨zah [(2,false,[.lp 128 0]),(4,false,[.lp 256 0]),(5,false,[.lp 320 0]),(6,false,[.d (.int .i64)]),(7,false,[.d (.int .i64)]),(8,false,[.d (.int .i64)])] 183 0,[(128,.box [.d (.int .i64),.d (.int .i64),.own 11968,.own 12032,.own 12096]),(256,.box [.d (.int .i64),.d (.int .i64),.own 11776,.own 11840,.own 11904]),(320,.box [.d (.int .i64),.d (.int .i64),.own 11776]),(11776,.arr false .trat),(11840,.arr false .int),(11904,.arr false .trat),(11968,.arr false .trat),(12032,.arr false .int),(12096,.arr false .trat),(70368744177727,.pool)]⟩,[(.box 128 2,11968,.trat),(.box 128 3,12032,.int),(.box 128 4,12096,.trat),(.box 256 3,11840,.int),(.box 256 4,11904,.trat)],[(.exit 2,⟨zah [(2,false,[.lp 128 0]),(4,false,[.lp 256 0]),(5,false,[.lp 320 0]),(6,false,[.d (.int .i64)]),(7,false,[.d (.int .i64)]),(8,false,[.d (.int .i64)])] 183 0,[(128,.box [.d (.int .i64),.d (.int .i64),.own 11968,.own 12032,.own 12096]),(256,.box [.d (.int .i64),.d (.int .i64),.own 11776,.own 11840,.own 11904]),(320,.box [.d (.int .i64),.d (.int .i64),.own 11776]),(11776,.arr false .trat),(11840,.arr false .int),(11904,.arr false .trat),(11968,.arr false .trat),(12032,.arr false .int),(12096,.arr false .trat),(70368744177727,.pool)]⟩,[(.box 128 2,11968,.trat),(.box 128 3,12032,.int),(.box 128 4,12096,.trat),(.box 256 3,11840,.int),(.box 256 4,11904,.trat)])]⟩
def zj1:LoopD:=⟨⟨zah [(2,false,[.lp 128 0]),(4,false,[.lp 256 0]),(5,false,[.lp 320 0]),(6,false,[.d (.int .i64)]),(7,false,[.d (.int .i64)]),(9,false,[.win 11776]),(10,false,[.win 11776]),(76,false,[.d (.int .i64)]),(77,false,[.d (.int .i64)])] 183 0,[(128,.box [.d (.int .i64),.d (.int .i64),.own 11968,.own 12032,.own 12096]),(256,.box [.d (.int .i64),.d (.int .i64),.own 11776,.own 11904,.own 11840]),(320,.box [.d (.int .i64),.d (.int .i64),.own 11776]),(11776,.arr false .trat),(11840,.arr false .trat),(11904,.arr false .int),(11968,.arr false .trat),(12032,.arr false .int),(12096,.arr false .trat),(70368744177727,.pool)]⟩,[(.box 128 2,11968,.trat),(.box 128 3,12032,.int),(.box 128 4,12096,.trat),(.box 256 3,11904,.int)],[(.exit 4,⟨zah [(2,false,[.lp 128 0]),(4,false,[.lp 256 0]),(5,false,[.lp 320 0]),(6,false,[.d (.int .i64)]),(7,false,[.d (.int .i64)])] 183 0,[(128,.box [.d (.int .i64),.d (.int .i64),.own 11968,.own 12032,.own 12096]),(256,.box [.d (.int .i64),.d (.int .i64),.own 11776,.own 11904,.own 11840]),(320,.box [.d (.int .i64),.d (.int .i64),.own 11776]),(11776,.arr false .trat),(11840,.arr false .trat),(11904,.arr false .int),(11968,.arr false .trat),(12032,.arr false .int),(12096,.arr false .trat),(70368744177727,.pool)]⟩,[(.box 128 2,11968,.trat),(.box 128 3,12032,.int),(.box 128 4,12096,.trat),(.box 256 3,11904,.int)])]⟩
def zj0:LoopD:=⟨⟨zah [(2,false,[.lp 128 0]),(4,false,[.lp 256 0]),(5,false,[.lp 320 0]),(6,false,[.d (.int .i64)]),(7,false,[.d (.int .i64)]),(12,false,[.win 11776]),(13,false,[.lp 832 0]),(109,false,[.d (.int .i64)]),(110,false,[.d (.int .i64)])] 183 0,[(128,.box [.d (.int .i64),.d (.int .i64),.own 11968,.own 12032,.own 12096]),(256,.box [.d (.int .i64),.d (.int .i64),.own 11776,.own 11904,.own 11840]),(320,.box [.d (.int .i64),.d (.int .i64),.own 11776]),(832,.box [.d (.bool),.d (.tok),.d (.tok)]),(11776,.arr false .trat),(11840,.arr false .trat),(11904,.arr false .int),(11968,.arr false .trat),(12032,.arr false .int),(12096,.arr false .trat),(70368744177727,.pool)]⟩,[(.box 128 2,11968,.trat),(.box 128 3,12032,.int),(.box 128 4,12096,.trat),(.box 256 3,11904,.int)],[(.exit 6,⟨zah [(2,false,[.lp 128 0]),(4,false,[.lp 256 0]),(5,false,[.lp 320 0]),(6,false,[.d (.int .i64)]),(7,false,[.d (.int .i64)]),(12,false,[.win 11776])] 183 0,[(128,.box [.d (.int .i64),.d (.int .i64),.own 11968,.own 12032,.own 12096]),(256,.box [.d (.int .i64),.d (.int .i64),.own 11776,.own 11904,.own 11840]),(320,.box [.d (.int .i64),.d (.int .i64),.own 11776]),(11776,.arr false .trat),(11840,.arr false .trat),(11904,.arr false .int),(11968,.arr false .trat),(12032,.arr false .int),(12096,.arr false .trat),(70368744177727,.pool)]⟩,[(.box 128 2,11968,.trat),(.box 128 3,12032,.int),(.box 128 4,12096,.trat),(.box 256 3,11904,.int)])]⟩
def zjZ:LoopD:=⟨⟨zah [(2,false,[.lp 128 0]),(4,false,[.lp 256 0]),(5,false,[.lp 320 0]),(6,false,[.d (.int .i64)]),(7,false,[.d (.int .i64)]),(12,false,[.win 11776]),(128,false,[.d (.int .i64)]),(129,false,[.d (.int .i64)])] 183 0,[(128,.box [.d (.int .i64),.d (.int .i64),.own 11968,.own 12032,.own 12096]),(256,.box [.d (.int .i64),.d (.int .i64),.own 11776,.own 11904,.own 11840]),(320,.box [.d (.int .i64),.d (.int .i64),.own 11776]),(11776,.arr false .trat),(11840,.arr false .trat),(11904,.arr false .int),(11968,.arr false .trat),(12032,.arr false .int),(12096,.arr false .trat),(70368744177727,.pool)]⟩,[(.box 128 2,11968,.trat),(.box 128 3,12032,.int),(.box 128 4,12096,.trat),(.box 256 3,11904,.int)],[(.ret,⟨zah [(2,false,[.lp 128 0]),(3,false,[.d (.bool)])] 183 0,[(128,.box [.d (.int .i64),.d (.int .i64),.own 11968,.own 12032,.own 12096]),(11968,.arr false .trat),(12032,.arr false .int),(12096,.arr false .trat),(70368744177727,.pool)]⟩,[(.box 128 2,11968,.trat),(.box 128 3,12032,.int),(.box 128 4,12096,.trat)]),(.exit 8,⟨zah [(2,false,[.lp 128 0]),(4,false,[.lp 256 0]),(5,false,[.lp 320 0]),(6,false,[.d (.int .i64)]),(7,false,[.d (.int .i64)])] 183 0,[(128,.box [.d (.int .i64),.d (.int .i64),.own 11968,.own 12032,.own 12096]),(256,.box [.d (.int .i64),.d (.int .i64),.own 11776,.own 11904,.own 11840]),(320,.box [.d (.int .i64),.d (.int .i64),.own 11776]),(11776,.arr false .trat),(11840,.arr false .trat),(11904,.arr false .int),(11968,.arr false .trat),(12032,.arr false .int),(12096,.arr false .trat),(70368744177727,.pool)]⟩,[(.box 128 2,11968,.trat),(.box 128 3,12032,.int),(.box 128 4,12096,.trat),(.box 256 3,11904,.int)])]⟩
def zjY:LoopD:=⟨⟨zah [(2,false,[.lp 128 0]),(4,false,[.lp 256 0]),(5,false,[.lp 320 0]),(6,false,[.d (.int .i64)]),(7,false,[.d (.int .i64)]),(12,false,[.win 11776]),(16,false,[.win 11776]),(17,false,[.lp 1088 0]),(128,false,[.d (.int .i64)]),(129,false,[.d (.int .i64)]),(150,false,[.d (.int .i64)]),(151,false,[.d (.int .i64)])] 183 0,[(128,.box [.d (.int .i64),.d (.int .i64),.own 11968,.own 12032,.own 12096]),(256,.box [.d (.int .i64),.d (.int .i64),.own 11776,.own 11904,.own 11840]),(320,.box [.d (.int .i64),.d (.int .i64),.own 11776]),(1088,.box [.d (.bool),.d (.tok),.d (.tok)]),(11776,.arr false .trat),(11840,.arr false .trat),(11904,.arr false .int),(11968,.arr false .trat),(12032,.arr false .int),(12096,.arr false .trat),(70368744177727,.pool)]⟩,[(.box 128 2,11968,.trat),(.box 128 3,12032,.int),(.box 128 4,12096,.trat),(.box 256 3,11904,.int)],[(.exit 10,⟨zah [(2,false,[.lp 128 0]),(4,false,[.lp 256 0]),(5,false,[.lp 320 0]),(6,false,[.d (.int .i64)]),(7,false,[.d (.int .i64)]),(12,false,[.win 11776]),(16,false,[.win 11776]),(128,false,[.d (.int .i64)]),(129,false,[.d (.int .i64)])] 183 0,[(128,.box [.d (.int .i64),.d (.int .i64),.own 11968,.own 12032,.own 12096]),(256,.box [.d (.int .i64),.d (.int .i64),.own 11776,.own 11904,.own 11840]),(320,.box [.d (.int .i64),.d (.int .i64),.own 11776]),(11776,.arr false .trat),(11840,.arr false .trat),(11904,.arr false .int),(11968,.arr false .trat),(12032,.arr false .int),(12096,.arr false .trat),(70368744177727,.pool)]⟩,[(.box 128 2,11968,.trat),(.box 128 3,12032,.int),(.box 128 4,12096,.trat),(.box 256 3,11904,.int)])]⟩
def zpu (x:Tys zj3.head.ks):Option (zcp zj3.outs):=@whileO (Int × Int × Int × Int × Int × Int × Int × Int × (List TRt) × (List Int) × (List TRt) × (List TRt) × (List Int) × (List TRt) × Nat × Unit) ((Bool × Int × Int × (List TRt) × (List Int) × (List TRt) × Nat × Unit) ⊕ (Int × Int × Int × Int × (List TRt) × (List Int) × (List TRt) × (List TRt) × (List Int) × (List TRt) × Nat × Unit)) zbt x
def zpt (x:Tys zj2.head.ks):Option (zcp zj2.outs):=@whileO (Int × Int × Int × Int × Int × Int × Int × Int × Int × (List TRt) × (List Int) × (List TRt) × (List TRt) × (List Int) × (List TRt) × Nat × Unit) (Int × Int × Int × Int × Int × Int × Int × Int × Int × (List TRt) × (List Int) × (List TRt) × (List TRt) × (List Int) × (List TRt) × Nat × Unit) zbs x
def zps (x:Tys zj1.head.ks):Option (zcp zj1.outs):=@whileO (Int × Int × Nat × Nat × Nat × Nat × Int × Int × Int × Int × Int × Int × Int × Int × (List TRt) × (List TRt) × (List Int) × (List TRt) × (List Int) × (List TRt) × Nat × Unit) (Int × Int × Int × Int × Int × Int × Int × Int × (List TRt) × (List TRt) × (List Int) × (List TRt) × (List Int) × (List TRt) × Nat × Unit) zbr x
def zpr (x:Tys zj0.head.ks):Option (zcp zj0.outs):=@whileO (Int × Int × Nat × Nat × Int × Int × Int × Int × Int × Int × Int × Int × Bool × Tk × Tk × (List TRt) × (List TRt) × (List Int) × (List TRt) × (List Int) × (List TRt) × Nat × Unit) (Int × Int × Nat × Nat × Int × Int × Int × Int × Int × Int × (List TRt) × (List TRt) × (List Int) × (List TRt) × (List Int) × (List TRt) × Nat × Unit) zbq x
def zpq (x:Tys zjZ.head.ks):Option (zcp zjZ.outs):=@whileO (Int × Int × Nat × Nat × Int × Int × Int × Int × Int × Int × Int × Int × (List TRt) × (List TRt) × (List Int) × (List TRt) × (List Int) × (List TRt) × Nat × Unit) ((Bool × Int × Int × (List TRt) × (List Int) × (List TRt) × Nat × Unit) ⊕ (Int × Int × Int × Int × Int × Int × Int × Int × (List TRt) × (List TRt) × (List Int) × (List TRt) × (List Int) × (List TRt) × Nat × Unit)) zbp x
def zpp (x:Tys zjY.head.ks):Option (zcp zjY.outs):=@whileO (Int × Int × Nat × Nat × Nat × Nat × Int × Int × Int × Int × Int × Int × Int × Int × Int × Int × Bool × Tk × Tk × (List TRt) × (List TRt) × (List Int) × (List TRt) × (List Int) × (List TRt) × Nat × Unit) (Int × Int × Nat × Nat × Nat × Nat × Int × Int × Int × Int × Int × Int × Int × Int × (List TRt) × (List TRt) × (List Int) × (List TRt) × (List Int) × (List TRt) × Nat × Unit) zbo x
def zmq:Env:=⟨zPM,[(79,zIc),(45,zIa),(80,zH9),(68,zzN),(81,zH2),(50,zH1),(82,zH0),(47,zEQ),(46,zyu)],[(5,zaT zj3 zpu),(8,zaT zj2 zpt),(15,zaT zj1 zps),(23,zaT zj0 zpr),(30,zaT zjZ zpq),(36,zaT zjY zpp)],[(1,[(0,[]),(1,[]),(2,[]),(3,[]),(4,[]),(5,[]),(6,[5,4]),(7,[]),(8,[]),(9,[]),(10,[9,8,6,0,1,2,3,4,5,7])]),(12,[(0,[]),(1,[]),(2,[]),(3,[2]),(4,[1,3,2,0]),(5,[]),(6,[5,4,0,1,2,3])]),(13,[(0,[]),(1,[]),(3,[]),(4,[]),(2,[0,1]),(5,[3,4,2,0,1]),(6,[2,5,0,1,3,4]),(7,[5,6,0,1,2,3,4])]),(17,[(0,[]),(1,[]),(2,[]),(3,[]),(4,[]),(5,[]),(6,[]),(7,[]),(8,[]),(9,[]),(10,[]),(11,[]),(12,[]),(13,[12,7,0,1,4,5,6,11,10,8,9]),(14,[]),(15,[14,11,13,0,1,2,3,4,5,6,7,8,9,10,12])]),(25,[(0,[]),(1,[]),(2,[]),(3,[]),(4,[]),(5,[]),(6,[]),(7,[5,6,4,2,3]),(8,[]),(9,[8,7,0,1,2,3,4,5,6])]),(38,[(0,[]),(1,[]),(2,[]),(3,[]),(4,[]),(5,[]),(6,[]),(7,[]),(8,[]),(9,[]),(10,[]),(11,[6,10,9,7,8]),(12,[5,11,4,6,10,2,3,9,7,8]),(13,[]),(14,[13,12,0,1,2,3,4,5,6,7,8,9,10,11])])]⟩
theorem zfY:zaj Tryz.prog FX zmq.cons:=zaa zQn (zab Tryz.func79 (by kernel_rfl)) rfl (zaa zQl (zab Tryz.func45 (by kernel_rfl)) rfl (zaa zQk (zab Tryz.func80 (by kernel_rfl)) rfl (zaa zLt (zab Tryz.func68 (by kernel_rfl)) rfl (zaa zQd (zab Tryz.func81 (by kernel_rfl)) rfl (zaa zQc (zab Tryz.func50 (by kernel_rfl)) rfl (zaa zQb (zab Tryz.func82 (by kernel_rfl)) rfl (zaa zN0 (zab Tryz.func47 (by kernel_rfl)) rfl (zaa zOy (zab Tryz.func46 (by kernel_rfl)) rfl (zae)))))))))
theorem zvW (x:Tys zjY.head.ks):stepL zmq zjY zhN x=zbo x:=by kernel_rfl
theorem zrJ:zad zhN=[]:=by kernel_rfl
theorem zGH:zay Tryz.prog FX (zaT zjY zpp) zhN:=zam mix zhq zfY (by kernel_rfl) (zac zrJ (trivial)) zvW fun _ _ h=>h
theorem zvX (x:Tys zjZ.head.ks):stepL zmq zjZ zf1 x=zbp x:=by kernel_rfl
theorem zrK:zad zf1=[zhN]:=by kernel_rfl
theorem zGI:zay Tryz.prog FX (zaT zjZ zpq) zf1:=zam mix zhq zfY (by kernel_rfl) (zac zrK (⟨⟨_,by kernel_rfl,zGH⟩,trivial⟩)) zvX fun _ _ h=>h
theorem zvY (x:Tys zj0.head.ks):stepL zmq zj0 zhO x=zbq x:=by kernel_rfl
theorem zrL:zad zhO=[]:=by kernel_rfl
theorem zGJ:zay Tryz.prog FX (zaT zj0 zpr) zhO:=zam mix zhq zfY (by kernel_rfl) (zac zrL (trivial)) zvY fun _ _ h=>h
theorem zvZ (x:Tys zj1.head.ks):stepL zmq zj1 zhP x=zbr x:=by kernel_rfl
theorem zrM:zad zhP=[]:=by kernel_rfl
theorem zGK:zay Tryz.prog FX (zaT zj1 zps) zhP:=zam mix zhq zfY (by kernel_rfl) (zac zrM (trivial)) zvZ fun _ _ h=>h
theorem zv0 (x:Tys zj2.head.ks):stepL zmq zj2 zhQ x=zbs x:=by kernel_rfl
theorem zrN:zad zhQ=[]:=by kernel_rfl
theorem zGL:zay Tryz.prog FX (zaT zj2 zpt) zhQ:=zam mix zhq zfY (by kernel_rfl) (zac zrN (trivial)) zv0 fun _ _ h=>h
theorem zv1 (x:Tys zj3.head.ks):stepL zmq zj3 zdo x=zbt x:=by kernel_rfl
theorem zrO:zad zdo=[zhQ,zhP,zhO,zf1]:=by kernel_rfl
theorem zGM:zay Tryz.prog FX (zaT zj3 zpu) zdo:=zam mix zhq zfY (by kernel_rfl) (zac zrO (⟨⟨_,by kernel_rfl,zGL⟩,⟨⟨_,by kernel_rfl,zGK⟩,⟨⟨_,by kernel_rfl,zGJ⟩,⟨⟨_,by kernel_rfl,zGI⟩,trivial⟩⟩⟩⟩)) zv1 fun _ _ h=>h
theorem zzw:zad zoc=[zdo]:=by kernel_rfl
theorem zOx:zaw Tryz.prog FX 39 zyt:=zCe (E:=zmq) (code:=zoc) mix zhq zfY Tryz.func39 (by kernel_rfl) zBB (by kernel_rfl) (by kernel_rfl) (fun y=>((⟨y.1,y.2.1,y.2.2.2.1,y.2.2.2.2.1⟩:RdnP),y.2.2.1)) zyt.out (fun _=>rfl) zyt.run (fun x=>by kernel_rfl) (by kernel_rfl) (zac zzw (⟨⟨_,by kernel_rfl,zGM⟩,trivial⟩))
def zBA:Sig:=⟨[(true,[.d (.int .i64),.d (.int .i64),.d (.sl .rat)])],[],true,[(true,[.d (.int .i64),.d (.int .i64),.dp 0]),(false,[.own 1]),(false,[.d (.bool)])],[(0,.deep .rat),(1,.arr false .int)]⟩
def zys:Con:=⟨zBA,Mx × List Int × Bool,fun x=>zcf (⟨x.1,x.2.1,x.2.2.1⟩:Mx),fun r=>(r.1.rows,r.1.cols,r.2.2,r.1.cells,r.2.1,())⟩
def zsD:Code:=Tryz.f11.body.getD .skip
def zKS:Env:=⟨zbA,[(38,zId),(39,zyt)],[],[(6,[(0,[]),(1,[]),(2,[]),(3,[]),(4,[1,0]),(5,[3,4,0,1,2]),(6,[5,0,1,2,3,4])])]⟩
theorem zEA:zaj Tryz.prog FX zKS.cons:=zaa zQo (zab Tryz.func38 (by kernel_rfl)) rfl (zaa zOx (zab Tryz.func39 (by kernel_rfl)) rfl (zae))
theorem zzv:zad zsD=[]:=by kernel_rfl
theorem zOw:zaw Tryz.prog FX 11 zys:=zai (E:=zKS) (code:=zsD) mix zaf zEA Tryz.func11 (by kernel_rfl) zBA (by kernel_rfl) (fun y=>((⟨y.1,y.2.1,y.2.2.2.1⟩:Mx),y.2.2.2.2.1,y.2.2.1)) zys.out (fun _=>rfl) zys.run (fun x=>by kernel_rfl) (by kernel_rfl) (zac zzv (trivial))
def zBz:Sig:=⟨[(false,[.d (.sl .int)]),(false,[.d (.int .i64)])],[],false,[(false,[.d (.bool)])],[]⟩
def zyr:Con:=⟨zBz,Bool,fun x=>zdL x.1 x.2.1,fun r=>(r,())⟩
def zob:Code:=Tryz.f66.body.getD .skip
def zhM:Code:=(zad zob).getD 0 .skip
def zjX:LoopD:=⟨⟨zah [(1,false,[.d (.int .i64)]),(7,false,[.d (.sl .int)]),(8,false,[.d (.int .i64)]),(9,false,[.d (.int .i64)])] 17 0,[]⟩,[],[(.ret,⟨zah [(4,false,[.d (.bool)])] 17 0,[]⟩,[]),(.exit 0,⟨zah [] 17 0,[]⟩,[])]⟩
def zpo (x:Tys zjX.head.ks):Option (zcp zjX.outs):=@whileO (Int × (List Int) × Int × Int × Unit) ((Bool × Unit) ⊕ (Unit)) zcc x
def zFA:Env:=⟨zbA,[],[(2,zaT zjX zpo)],[]⟩
theorem zsx:zaj Tryz.prog FX zFA.cons:=zae
theorem zvV (x:Tys zjX.head.ks):stepL zFA zjX zhM x=zcc x:=by kernel_rfl
theorem zrI:zad zhM=[]:=by kernel_rfl
theorem zGG:zay Tryz.prog FX (zaT zjX zpo) zhM:=zam mix zaf zsx (by kernel_rfl) (zac zrI (trivial)) zvV fun _ _ h=>h
theorem zzu:zad zob=[zhM]:=by kernel_rfl
theorem zOv:zaw Tryz.prog FX 66 zyr:=zai (E:=zFA) (code:=zob) mix zaf zsx Tryz.func66 (by kernel_rfl) zBz (by kernel_rfl) (fun y=>y.1) zyr.out (fun _=>rfl) zyr.run (fun x=>by kernel_rfl) (by kernel_rfl) (zac zzu (⟨⟨_,by kernel_rfl,zGG⟩,trivial⟩))
def zBy:Sig:=⟨[(false,[.d (.int .i64)])],[],false,[(false,[.dp 0])],[(0,.deep .rat)]⟩
def zyq:Con:=⟨zBy,List Rt,fun x=>zcX x.1,fun r=>(r,())⟩
def zoa:Code:=Tryz.f67.body.getD .skip
def zhL:Code:=(zad zoa).getD 0 .skip
def zjW:LoopD:=⟨⟨zah [(3,false,[.dp 1280]),(10,false,[.d (.int .i64)]),(11,false,[.d (.int .i64)])] 19 0,[(1280,.deep .rat)]⟩,[(.slotD 3 0,1280,.rat)],[(.exit 0,⟨zah [(3,false,[.dp 1280])] 19 0,[(1280,.deep .rat)]⟩,[(.slotD 3 0,1280,.rat)])]⟩
def zpn (x:Tys zjW.head.ks):Option (zcp zjW.outs):=@whileO (Int × Int × (List Rt) × Unit) ((List Rt) × Unit) zbv x
def zFz:Env:=⟨zbA,[(68,zzN)],[(5,zaT zjW zpn)],[]⟩
theorem zsw:zaj Tryz.prog FX zFz.cons:=zaa zLt (zab Tryz.func68 (by kernel_rfl)) rfl (zae)
theorem zvU (x:Tys zjW.head.ks):stepL zFz zjW zhL x=zbv x:=by kernel_rfl
theorem zrH:zad zhL=[]:=by kernel_rfl
theorem zGF:zay Tryz.prog FX (zaT zjW zpn) zhL:=zam mix zaf zsw (by kernel_rfl) (zac zrH (trivial)) zvU fun _ _ h=>h
theorem zzt:zad zoa=[zhL]:=by kernel_rfl
theorem zOu:zaw Tryz.prog FX 67 zyq:=zai (E:=zFz) (code:=zoa) mix zaf zsw Tryz.func67 (by kernel_rfl) zBy (by kernel_rfl) (fun y=>y.1) zyq.out (fun _=>rfl) zyq.run (fun x=>by kernel_rfl) (by kernel_rfl) (zac zzt (⟨⟨_,by kernel_rfl,zGF⟩,trivial⟩))
def zJk:Sig:=⟨[(true,[.d (.int .i64),.d (.int .i64),.d (.sl .rat)]),(false,[.d (.int .i64)]),(false,[.d (.int .i64)])],[],false,[(true,[.d (.bool),.d (.sl .int),.d (.sl .int)])],[]⟩
def zIb:Con:=⟨zJk,Rt,fun x=>zda (⟨x.1,x.2.1,x.2.2.1⟩:Mx) x.2.2.2.1 x.2.2.2.2.1,fun r=>(r.neg,r.mag,r.den,())⟩
def zxK:Code:=Tryz.f45.body.getD .skip
def zPe:Env:=⟨zbA,[],[],[]⟩
theorem zHo:zaj Tryz.prog FX zPe.cons:=zae
theorem zCH:zad zxK=[]:=by kernel_rfl
theorem zQm:zaw Tryz.prog FX 45 zIb:=zai (E:=zPe) (code:=zxK) mix zaf zHo Tryz.func45 (by kernel_rfl) zJk (by kernel_rfl) (fun y=>(⟨y.1,y.2.1,y.2.2.1⟩:Rt)) zIb.out (fun _=>rfl) zIb.run (fun x=>by kernel_rfl) (by kernel_rfl) (zac zCH (trivial))
def zBx:Sig:=⟨[(true,[.d (.int .i64),.d (.int .i64),.d (.sl .rat)])],[],true,[(false,[.dp 0]),(false,[.d (.bool)])],[(0,.deep .rats)]⟩
def zyp:Con:=⟨zBx,List (List Rt) × Bool,fun x=>zaZ (⟨x.1,x.2.1,x.2.2.1⟩:Mx),fun r=>(r.2,r.1,())⟩
def zn9:Code:=Tryz.f30.body.getD .skip
def zf0:Code:=(zad zn9).getD 0 .skip
def zhK:Code:=(zad zf0).getD 0 .skip
def zjV:LoopD:=⟨⟨zah [(1,false,[.lp 64 0]),(4,false,[.lp 256 0]),(5,false,[.d (.sl .int)]),(7,false,[.dp 3840]),(21,false,[.d (.int .i64)]),(22,false,[.d (.int .i64)])] 57 0,[(64,.box [.d (.int .i64),.d (.int .i64),.d (.sl .rat)]),(256,.box [.d (.int .i64),.d (.int .i64),.d (.sl .rat)]),(3840,.deep .rats)]⟩,[(.slotD 7 0,3840,.rats)],[(.exit 0,⟨zah [(7,false,[.dp 3840])] 57 0,[(3840,.deep .rats)]⟩,[(.slotD 7 0,3840,.rats)])]⟩
def zjU:LoopD:=⟨⟨zah [(1,false,[.lp 64 0]),(4,false,[.lp 256 0]),(5,false,[.d (.sl .int)]),(7,false,[.dp 3840]),(8,false,[.d (.int .i64)]),(9,false,[.dp 3712]),(21,false,[.d (.int .i64)]),(22,false,[.d (.int .i64)]),(35,false,[.d (.sl .int)]),(36,false,[.d (.int .i64)]),(37,false,[.d (.int .i64)])] 57 0,[(64,.box [.d (.int .i64),.d (.int .i64),.d (.sl .rat)]),(256,.box [.d (.int .i64),.d (.int .i64),.d (.sl .rat)]),(3712,.deep .rat),(3840,.deep .rats)]⟩,[(.slotD 7 0,3840,.rats)],[(.exit 2,⟨zah [(1,false,[.lp 64 0]),(4,false,[.lp 256 0]),(5,false,[.d (.sl .int)]),(7,false,[.dp 3840]),(9,false,[.dp 3712]),(21,false,[.d (.int .i64)]),(22,false,[.d (.int .i64)])] 57 0,[(64,.box [.d (.int .i64),.d (.int .i64),.d (.sl .rat)]),(256,.box [.d (.int .i64),.d (.int .i64),.d (.sl .rat)]),(3712,.deep .rat),(3840,.deep .rats)]⟩,[(.slotD 7 0,3840,.rats)])]⟩
def zpm (x:Tys zjV.head.ks):Option (zcp zjV.outs):=@whileO ((List Int) × Int × Int × Int × Int × (List Rt) × Int × Int × (List Rt) × (List (List Rt)) × Unit) ((List (List Rt)) × Unit) zdg x
def zpl (x:Tys zjU.head.ks):Option (zcp zjU.outs):=@whileO ((List Int) × Int × Int × Int × (List Int) × Int × Int × Int × Int × (List Rt) × Int × Int × (List Rt) × (List Rt) × (List (List Rt)) × Unit) ((List Int) × Int × Int × Int × Int × (List Rt) × Int × Int × (List Rt) × (List Rt) × (List (List Rt)) × Unit) zdf x
def zyH:Env:=⟨zbA,[(11,zys),(66,zyr),(67,zyq),(68,zzN),(45,zIb),(69,zEP)],[(6,zaT zjV zpm),(12,zaT zjU zpl)],[]⟩
theorem znZ:zaj Tryz.prog FX zyH.cons:=zaa zOw (zab Tryz.func11 (by kernel_rfl)) rfl (zaa zOv (zab Tryz.func66 (by kernel_rfl)) rfl (zaa zOu (zab Tryz.func67 (by kernel_rfl)) rfl (zaa zLt (zab Tryz.func68 (by kernel_rfl)) rfl (zaa zQm (zab Tryz.func45 (by kernel_rfl)) rfl (zaa zNZ (zab Tryz.func69 (by kernel_rfl)) rfl (zae))))))
theorem zvS (x:Tys zjU.head.ks):stepL zyH zjU zhK x=zdf x:=by kernel_rfl
theorem zrF:zad zhK=[]:=by kernel_rfl
theorem zGD:zay Tryz.prog FX (zaT zjU zpl) zhK:=zam mix zaf znZ (by kernel_rfl) (zac zrF (trivial)) zvS fun _ _ h=>h
theorem zvT (x:Tys zjV.head.ks):stepL zyH zjV zf0 x=zdg x:=by kernel_rfl
theorem zrG:zad zf0=[zhK]:=by kernel_rfl
theorem zGE:zay Tryz.prog FX (zaT zjV zpm) zf0:=zam mix zaf znZ (by kernel_rfl) (zac zrG (⟨⟨_,by kernel_rfl,zGD⟩,trivial⟩)) zvT fun _ _ h=>h
theorem zzs:zad zn9=[zf0]:=by kernel_rfl
theorem zOt:zaw Tryz.prog FX 30 zyp:=zai (E:=zyH) (code:=zn9) mix zaf znZ Tryz.func30 (by kernel_rfl) zBx (by kernel_rfl) (fun y=>(y.2.1,y.1)) zyp.out (fun _=>rfl) zyp.run (fun x=>by kernel_rfl) (by kernel_rfl) (zac zzs (⟨⟨_,by kernel_rfl,zGE⟩,trivial⟩))
def zBw:Sig:=⟨[(false,[.d (.sl .int)]),(false,[.d (.sl .int)])],[],false,[(false,[.d (.bool)])],[]⟩
def zsQ:Con:=⟨zBw,Bool,fun x=>zeE x.1 x.2.1,fun r=>(r,())⟩
def zn8:Code:=Tryz.f13.body.getD .skip
def zhJ:Code:=(zad zn8).getD 0 .skip
def zjT:LoopD:=⟨⟨zah [(0,false,[.d (.sl .int)]),(1,false,[.d (.sl .int)]),(5,false,[.d (.int .i64)])] 26 0,[]⟩,[],[(.ret,⟨zah [(4,false,[.d (.bool)])] 26 0,[]⟩,[]),(.exit 0,⟨zah [] 26 0,[]⟩,[])]⟩
def zpk (x:Tys zjT.head.ks):Option (zcp zjT.outs):=@whileO ((List Int) × (List Int) × Int × Unit) ((Bool × Unit) ⊕ (Unit)) zds x
def zFy:Env:=⟨zbA,[],[(4,zaT zjT zpk)],[(6,[(0,[]),(1,[]),(2,[]),(3,[]),(4,[]),(5,[]),(6,[]),(7,[]),(8,[])])]⟩
theorem zsv:zaj Tryz.prog FX zFy.cons:=zae
theorem zvR (x:Tys zjT.head.ks):stepL zFy zjT zhJ x=zds x:=by kernel_rfl
theorem zrE:zad zhJ=[]:=by kernel_rfl
theorem zGC:zay Tryz.prog FX (zaT zjT zpk) zhJ:=zam mix zaf zsv (by kernel_rfl) (zac zrE (trivial)) zvR fun _ _ h=>h
theorem zzr:zad zn8=[zhJ]:=by kernel_rfl
theorem zKA:zaw Tryz.prog FX 13 zsQ:=zai (E:=zFy) (code:=zn8) mix zaf zsv Tryz.func13 (by kernel_rfl) zBw (by kernel_rfl) (fun y=>y.1) zsQ.out (fun _=>rfl) zsQ.run (fun x=>by kernel_rfl) (by kernel_rfl) (zac zzr (⟨⟨_,by kernel_rfl,zGC⟩,trivial⟩))
def zBv:Sig:=⟨[(true,[.d (.bool),.d (.sl .int)]),(true,[.d (.bool),.d (.sl .int)])],[],false,[(false,[.d (.bool)])],[]⟩
def zyo:Con:=⟨zBv,Bool,fun x=>zf8 (⟨x.1,x.2.1⟩:Bg) (⟨x.2.2.1,x.2.2.2.1⟩:Bg),fun r=>(r,())⟩
def zsC:Code:=Tryz.f98.body.getD .skip
def zKR:Env:=⟨zbA,[(13,zsQ)],[],[]⟩
theorem zEz:zaj Tryz.prog FX zKR.cons:=zaa zKA (zab Tryz.func13 (by kernel_rfl)) rfl (zae)
theorem zzq:zad zsC=[]:=by kernel_rfl
theorem zOs:zaw Tryz.prog FX 98 zyo:=zai (E:=zKR) (code:=zsC) mix zaf zEz Tryz.func98 (by kernel_rfl) zBv (by kernel_rfl) (fun y=>y.1) zyo.out (fun _=>rfl) zyo.run (fun x=>by kernel_rfl) (by kernel_rfl) (zac zzq (trivial))
def zBu:Sig:=⟨[(true,[.d (.bool),.d (.sl .int),.d (.sl .int)]),(true,[.d (.bool),.d (.sl .int),.d (.sl .int)])],[],false,[(false,[.d (.bool)])],[]⟩
def zyn:Con:=⟨zBu,Bool,fun x=>zgr (⟨x.1,x.2.1,x.2.2.1⟩:Rt) (⟨x.2.2.2.1,x.2.2.2.2.1,x.2.2.2.2.2.1⟩:Rt),fun r=>(r,())⟩
def zsB:Code:=Tryz.f51.body.getD .skip
def zKQ:Env:=⟨zbA,[(98,zyo),(13,zsQ)],[],[]⟩
theorem zEy:zaj Tryz.prog FX zKQ.cons:=zaa zOs (zab Tryz.func98 (by kernel_rfl)) rfl (zaa zKA (zab Tryz.func13 (by kernel_rfl)) rfl (zae))
theorem zzp:zad zsB=[]:=by kernel_rfl
theorem zOr:zaw Tryz.prog FX 51 zyn:=zai (E:=zKQ) (code:=zsB) mix zaf zEy Tryz.func51 (by kernel_rfl) zBu (by kernel_rfl) (fun y=>y.1) zyn.out (fun _=>rfl) zyn.run (fun x=>by kernel_rfl) (by kernel_rfl) (zac zzp (trivial))
def zBt:Sig:=⟨[(false,[.d (.sl .rat)]),(false,[.d (.sl .rat)])],[],false,[(false,[.d (.bool)])],[]⟩
def zsP:Con:=⟨zBt,Bool,fun x=>zfC x.1 x.2.1,fun r=>(r,())⟩
def zn7:Code:=Tryz.f20.body.getD .skip
def zhI:Code:=(zad zn7).getD 0 .skip
def zjS:LoopD:=⟨⟨zah [(0,false,[.d (.sl .rat)]),(1,false,[.d (.sl .rat)]),(5,false,[.d (.int .i64)])] 27 0,[]⟩,[],[(.ret,⟨zah [(4,false,[.d (.bool)])] 27 0,[]⟩,[]),(.exit 0,⟨zah [] 27 0,[]⟩,[])]⟩
def zpj (x:Tys zjS.head.ks):Option (zcp zjS.outs):=@whileO ((List Rt) × (List Rt) × Int × Unit) ((Bool × Unit) ⊕ (Unit)) zen x
def zFx:Env:=⟨zbA,[(51,zyn)],[(4,zaT zjS zpj)],[(6,[(0,[]),(1,[]),(2,[]),(3,[]),(4,[]),(5,[]),(6,[]),(7,[]),(8,[3,7,2,6,0,1,4,5]),(9,[])])]⟩
theorem zsu:zaj Tryz.prog FX zFx.cons:=zaa zOr (zab Tryz.func51 (by kernel_rfl)) rfl (zae)
theorem zvQ (x:Tys zjS.head.ks):stepL zFx zjS zhI x=zen x:=by kernel_rfl
theorem zrD:zad zhI=[]:=by kernel_rfl
theorem zGB:zay Tryz.prog FX (zaT zjS zpj) zhI:=zam mix zaf zsu (by kernel_rfl) (zac zrD (trivial)) zvQ fun _ _ h=>h
theorem zzo:zad zn7=[zhI]:=by kernel_rfl
theorem zKz:zaw Tryz.prog FX 20 zsP:=zai (E:=zFx) (code:=zn7) mix zaf zsu Tryz.func20 (by kernel_rfl) zBt (by kernel_rfl) (fun y=>y.1) zsP.out (fun _=>rfl) zsP.run (fun x=>by kernel_rfl) (by kernel_rfl) (zac zzo (⟨⟨_,by kernel_rfl,zGB⟩,trivial⟩))
def zBs:Sig:=⟨[(false,[.d (.sl .rats)]),(false,[.d (.sl .rats)])],[],false,[(false,[.d (.bool)])],[]⟩
def zym:Con:=⟨zBs,Bool,fun x=>zdZ x.1 x.2.1,fun r=>(r,())⟩
def zn6:Code:=Tryz.f31.body.getD .skip
def zhH:Code:=(zad zn6).getD 0 .skip
def zjR:LoopD:=⟨⟨zah [(0,false,[.d (.sl .rats)]),(1,false,[.d (.sl .rats)]),(5,false,[.d (.int .i64)])] 27 0,[]⟩,[],[(.ret,⟨zah [(4,false,[.d (.bool)])] 27 0,[]⟩,[]),(.exit 0,⟨zah [] 27 0,[]⟩,[])]⟩
def zpi (x:Tys zjR.head.ks):Option (zcp zjR.outs):=@whileO ((List (List Rt)) × (List (List Rt)) × Int × Unit) ((Bool × Unit) ⊕ (Unit)) zd4 x
def zFw:Env:=⟨zbA,[(20,zsP)],[(4,zaT zjR zpi)],[(6,[(0,[]),(1,[]),(2,[]),(3,[]),(4,[]),(5,[]),(6,[]),(7,[]),(8,[3,7,2,6,0,1,4,5]),(9,[])])]⟩
theorem zst:zaj Tryz.prog FX zFw.cons:=zaa zKz (zab Tryz.func20 (by kernel_rfl)) rfl (zae)
theorem zvP (x:Tys zjR.head.ks):stepL zFw zjR zhH x=zd4 x:=by kernel_rfl
theorem zrC:zad zhH=[]:=by kernel_rfl
theorem zGA:zay Tryz.prog FX (zaT zjR zpi) zhH:=zam mix zaf zst (by kernel_rfl) (zac zrC (trivial)) zvP fun _ _ h=>h
theorem zzn:zad zn6=[zhH]:=by kernel_rfl
theorem zOp:zaw Tryz.prog FX 31 zym:=zai (E:=zFw) (code:=zn6) mix zaf zst Tryz.func31 (by kernel_rfl) zBs (by kernel_rfl) (fun y=>y.1) zym.out (fun _=>rfl) zym.run (fun x=>by kernel_rfl) (by kernel_rfl) (zac zzn (⟨⟨_,by kernel_rfl,zGA⟩,trivial⟩))
def zBr:Sig:=⟨[(true,[.d (.int .i64),.d (.int .i64),.d (.sl .rat)]),(true,[.d (.int .i64),.d (.int .i64),.d (.sl .rat)])],[],false,[(false,[.d (.bool)])],[]⟩
def zyl:Con:=⟨zBr,Bool,fun x=>zeD (⟨x.1,x.2.1,x.2.2.1⟩:Mx) (⟨x.2.2.2.1,x.2.2.2.2.1,x.2.2.2.2.2.1⟩:Mx),fun r=>(r,())⟩
def zsA:Code:=Tryz.f12.body.getD .skip
def zKP:Env:=⟨zbA,[(20,zsP)],[],[]⟩
theorem zEx:zaj Tryz.prog FX zKP.cons:=zaa zKz (zab Tryz.func20 (by kernel_rfl)) rfl (zae)
theorem zzm:zad zsA=[]:=by kernel_rfl
theorem zOo:zaw Tryz.prog FX 12 zyl:=zai (E:=zKP) (code:=zsA) mix zaf zEx Tryz.func12 (by kernel_rfl) zBr (by kernel_rfl) (fun y=>y.1) zyl.out (fun _=>rfl) zyl.run (fun x=>by kernel_rfl) (by kernel_rfl) (zac zzm (trivial))
def zBq:Sig:=⟨[(false,[.own 63]),(false,[.d (.int .i64)])],[(63,.arr false .int)],false,[(false,[.d (.int .i64)])],[(63,.arr false .int)]⟩
def zyk:Con:=⟨zBq,Int × List Int,fun x=>zcu x.2.1 x.1,fun r=>(r.1,r.2,())⟩
def zn5:Code:=Tryz.f15.body.getD .skip
def zhG:Code:=(zad zn5).getD 0 .skip
def zjQ:LoopD:=⟨⟨zah [(0,false,[.own 63]),(1,false,[.d (.int .i64)]),(5,false,[.d (.int .i64)])] 19 0,[(63,.arr false .int)]⟩,[],[(.exit 0,⟨zah [(1,false,[.d (.int .i64)])] 19 0,[(63,.arr false .int)]⟩,[])]⟩
def zph (x:Tys zjQ.head.ks):Option (zcp zjQ.outs):=@whileO (Int × Int × (List Int) × Unit) (Int × (List Int) × Unit) zbi x
def zFv:Env:=⟨zbA,[],[(2,zaT zjQ zph)],[]⟩
theorem zss:zaj Tryz.prog FX zFv.cons:=zae
theorem zvO (x:Tys zjQ.head.ks):stepL zFv zjQ zhG x=zbi x:=by kernel_rfl
theorem zrB:zad zhG=[]:=by kernel_rfl
theorem zGz:zay Tryz.prog FX (zaT zjQ zph) zhG:=zam mix zaf zss (by kernel_rfl) (zac zrB (trivial)) zvO fun _ _ h=>h
theorem zzl:zad zn5=[zhG]:=by kernel_rfl
theorem zOn:zaw Tryz.prog FX 15 zyk:=zai (E:=zFv) (code:=zn5) mix zaf zss Tryz.func15 (by kernel_rfl) zBq (by kernel_rfl) (fun y=>(y.1,y.2.1)) zyk.out (fun _=>rfl) zyk.run (fun x=>by kernel_rfl) (by kernel_rfl) (zac zzl (⟨⟨_,by kernel_rfl,zGz⟩,trivial⟩))
def zBp:Sig:=⟨[(false,[.dp 63]),(false,[.d (.int .i64)])],[(63,.deep .rat)],false,[(false,[.d (.int .i64)])],[(63,.deep .rat)]⟩
def zsO:Con:=⟨zBp,Int × List Rt,fun x=>zct x.2.1 x.1,fun r=>(r.1,r.2,())⟩
def zn4:Code:=Tryz.f21.body.getD .skip
def zhF:Code:=(zad zn4).getD 0 .skip
def zjP:LoopD:=⟨⟨zah [(0,false,[.dp 63]),(1,false,[.d (.int .i64)]),(5,false,[.d (.int .i64)])] 38 0,[(63,.deep .rat)]⟩,[],[(.exit 0,⟨zah [(1,false,[.d (.int .i64)])] 38 0,[(63,.deep .rat)]⟩,[])]⟩
def zpg (x:Tys zjP.head.ks):Option (zcp zjP.outs):=@whileO (Int × Int × (List Rt) × Unit) (Int × (List Rt) × Unit) zbU x
def zFu:Env:=⟨zbA,[(15,zyk)],[(2,zaT zjP zpg)],[]⟩
theorem zsr:zaj Tryz.prog FX zFu.cons:=zaa zOn (zab Tryz.func15 (by kernel_rfl)) rfl (zae)
theorem zvN (x:Tys zjP.head.ks):stepL zFu zjP zhF x=zbU x:=by kernel_rfl
theorem zrA:zad zhF=[]:=by kernel_rfl
theorem zGy:zay Tryz.prog FX (zaT zjP zpg) zhF:=zam mix zaf zsr (by kernel_rfl) (zac zrA (trivial)) zvN fun _ _ h=>h
theorem zzk:zad zn4=[zhF]:=by kernel_rfl
theorem zKx:zaw Tryz.prog FX 21 zsO:=zai (E:=zFu) (code:=zn4) mix zaf zsr Tryz.func21 (by kernel_rfl) zBp (by kernel_rfl) (fun y=>(y.1,y.2.1)) zsO.out (fun _=>rfl) zsO.run (fun x=>by kernel_rfl) (by kernel_rfl) (zac zzk (⟨⟨_,by kernel_rfl,zGy⟩,trivial⟩))
def zBo:Sig:=⟨[(true,[.d (.int .i64),.d (.int .i64),.dp 191]),(false,[.d (.int .i64)])],[(191,.deep .rat)],false,[(false,[.d (.int .i64)])],[(191,.deep .rat)]⟩
def zyj:Con:=⟨zBo,Int × List Rt,fun x=>zcE (⟨x.1,x.2.1,x.2.2.2.1⟩:Mx) x.2.2.1,fun r=>(r.1,r.2,())⟩
def zsz:Code:=Tryz.f14.body.getD .skip
def zKO:Env:=⟨zbA,[(21,zsO)],[],[]⟩
theorem zEw:zaj Tryz.prog FX zKO.cons:=zaa zKx (zab Tryz.func21 (by kernel_rfl)) rfl (zae)
theorem zzj:zad zsz=[]:=by kernel_rfl
theorem zOm:zaw Tryz.prog FX 14 zyj:=zai (E:=zKO) (code:=zsz) mix zaf zEw Tryz.func14 (by kernel_rfl) zBo (by kernel_rfl) (fun y=>(y.1,y.2.1)) zyj.out (fun _=>rfl) zyj.run (fun x=>by kernel_rfl) (by kernel_rfl) (zac zzj (trivial))
def zBn:Sig:=⟨[(false,[.dp 63]),(false,[.d (.int .i64)])],[(63,.deep .rats)],false,[(false,[.d (.int .i64)])],[(63,.deep .rats)]⟩
def zyi:Con:=⟨zBn,Int × List (List Rt),fun x=>zc5 x.2.1 x.1,fun r=>(r.1,r.2,())⟩
def zn3:Code:=Tryz.f32.body.getD .skip
def zhE:Code:=(zad zn3).getD 0 .skip
def zjO:LoopD:=⟨⟨zah [(0,false,[.dp 63]),(1,false,[.d (.int .i64)]),(5,false,[.d (.int .i64)])] 19 0,[(63,.deep .rats)]⟩,[],[(.exit 0,⟨zah [(1,false,[.d (.int .i64)])] 19 0,[(63,.deep .rats)]⟩,[])]⟩
def zpf (x:Tys zjO.head.ks):Option (zcp zjO.outs):=@whileO (Int × Int × (List (List Rt)) × Unit) (Int × (List (List Rt)) × Unit) zbH x
def zFt:Env:=⟨zbA,[(21,zsO)],[(2,zaT zjO zpf)],[]⟩
theorem zsq:zaj Tryz.prog FX zFt.cons:=zaa zKx (zab Tryz.func21 (by kernel_rfl)) rfl (zae)
theorem zvM (x:Tys zjO.head.ks):stepL zFt zjO zhE x=zbH x:=by kernel_rfl
theorem zrz:zad zhE=[]:=by kernel_rfl
theorem zGx:zay Tryz.prog FX (zaT zjO zpf) zhE:=zam mix zaf zsq (by kernel_rfl) (zac zrz (trivial)) zvM fun _ _ h=>h
theorem zzi:zad zn3=[zhE]:=by kernel_rfl
theorem zOl:zaw Tryz.prog FX 32 zyi:=zai (E:=zFt) (code:=zn3) mix zaf zsq Tryz.func32 (by kernel_rfl) zBn (by kernel_rfl) (fun y=>(y.1,y.2.1)) zyi.out (fun _=>rfl) zyi.run (fun x=>by kernel_rfl) (by kernel_rfl) (zac zzi (⟨⟨_,by kernel_rfl,zGx⟩,trivial⟩))
def zBm:Sig:=⟨[(false,[.d (.sl .int)]),(false,[.d (.int .i64)])],[],false,[(false,[.d (.int .i64)])],[]⟩
def zyh:Con:=⟨zBm,Int,fun x=>zdw x.1 x.2.1,fun r=>(r,())⟩
def zn2:Code:=Tryz.f17.body.getD .skip
def zhD:Code:=(zad zn2).getD 0 .skip
def zjN:LoopD:=⟨⟨zah [(0,false,[.d (.sl .int)]),(1,false,[.d (.int .i64)]),(5,false,[.d (.int .i64)])] 21 0,[]⟩,[],[(.ret,⟨zah [(4,false,[.d (.int .i64)])] 21 0,[]⟩,[]),(.exit 0,⟨zah [(1,false,[.d (.int .i64)])] 21 0,[]⟩,[])]⟩
def zpe (x:Tys zjN.head.ks):Option (zcp zjN.outs):=@whileO ((List Int) × Int × Int × Unit) ((Int × Unit) ⊕ (Int × Unit)) zb4 x
def zFs:Env:=⟨zbA,[],[(2,zaT zjN zpe)],[]⟩
theorem zsp:zaj Tryz.prog FX zFs.cons:=zae
theorem zvL (x:Tys zjN.head.ks):stepL zFs zjN zhD x=zb4 x:=by kernel_rfl
theorem zry:zad zhD=[]:=by kernel_rfl
theorem zGw:zay Tryz.prog FX (zaT zjN zpe) zhD:=zam mix zaf zsp (by kernel_rfl) (zac zry (trivial)) zvL fun _ _ h=>h
theorem zzh:zad zn2=[zhD]:=by kernel_rfl
theorem zOj:zaw Tryz.prog FX 17 zyh:=zai (E:=zFs) (code:=zn2) mix zaf zsp Tryz.func17 (by kernel_rfl) zBm (by kernel_rfl) (fun y=>y.1) zyh.out (fun _=>rfl) zyh.run (fun x=>by kernel_rfl) (by kernel_rfl) (zac zzh (⟨⟨_,by kernel_rfl,zGw⟩,trivial⟩))
def zBl:Sig:=⟨[(false,[.d (.sl .rat)]),(false,[.d (.int .i64)])],[],false,[(false,[.d (.int .i64)])],[]⟩
def zyg:Con:=⟨zBl,Int,fun x=>zeC x.1 x.2.1,fun r=>(r,())⟩
def zn1:Code:=Tryz.f22.body.getD .skip
def zhC:Code:=(zad zn1).getD 0 .skip
def zjM:LoopD:=⟨⟨zah [(0,false,[.d (.sl .rat)]),(1,false,[.d (.int .i64)]),(5,false,[.d (.int .i64)])] 44 0,[]⟩,[],[(.ret,⟨zah [(4,false,[.d (.int .i64)])] 44 0,[]⟩,[]),(.exit 0,⟨zah [(1,false,[.d (.int .i64)])] 44 0,[]⟩,[])]⟩
def zpd (x:Tys zjM.head.ks):Option (zcp zjM.outs):=@whileO ((List Rt) × Int × Int × Unit) ((Int × Unit) ⊕ (Int × Unit)) zcJ x
def zFr:Env:=⟨zbA,[(17,zyh)],[(2,zaT zjM zpd)],[]⟩
theorem zso:zaj Tryz.prog FX zFr.cons:=zaa zOj (zab Tryz.func17 (by kernel_rfl)) rfl (zae)
theorem zvK (x:Tys zjM.head.ks):stepL zFr zjM zhC x=zcJ x:=by kernel_rfl
theorem zrx:zad zhC=[]:=by kernel_rfl
theorem zGv:zay Tryz.prog FX (zaT zjM zpd) zhC:=zam mix zaf zso (by kernel_rfl) (zac zrx (trivial)) zvK fun _ _ h=>h
theorem zzg:zad zn1=[zhC]:=by kernel_rfl
theorem zOi:zaw Tryz.prog FX 22 zyg:=zai (E:=zFr) (code:=zn1) mix zaf zso Tryz.func22 (by kernel_rfl) zBl (by kernel_rfl) (fun y=>y.1) zyg.out (fun _=>rfl) zyg.run (fun x=>by kernel_rfl) (by kernel_rfl) (zac zzg (⟨⟨_,by kernel_rfl,zGv⟩,trivial⟩))
def zBk:Sig:=⟨[(false,[.d (.sl .rats)]),(false,[.d (.int .i64)])],[],false,[(false,[.d (.int .i64)])],[]⟩
def zyf:Con:=⟨zBk,Int,fun x=>zc9 x.1 x.2.1,fun r=>(r,())⟩
def zn0:Code:=Tryz.f33.body.getD .skip
def zhB:Code:=(zad zn0).getD 0 .skip
def zjL:LoopD:=⟨⟨zah [(0,false,[.d (.sl .rats)]),(1,false,[.d (.int .i64)]),(5,false,[.d (.int .i64)])] 21 0,[]⟩,[],[(.ret,⟨zah [(4,false,[.d (.int .i64)])] 21 0,[]⟩,[]),(.exit 0,⟨zah [(1,false,[.d (.int .i64)])] 21 0,[]⟩,[])]⟩
def zpc (x:Tys zjL.head.ks):Option (zcp zjL.outs):=@whileO ((List (List Rt)) × Int × Int × Unit) ((Int × Unit) ⊕ (Int × Unit)) zco x
def zFq:Env:=⟨zbA,[(22,zyg)],[(2,zaT zjL zpc)],[]⟩
theorem zsn:zaj Tryz.prog FX zFq.cons:=zaa zOi (zab Tryz.func22 (by kernel_rfl)) rfl (zae)
theorem zvJ (x:Tys zjL.head.ks):stepL zFq zjL zhB x=zco x:=by kernel_rfl
theorem zrv:zad zhB=[]:=by kernel_rfl
theorem zGu:zay Tryz.prog FX (zaT zjL zpc) zhB:=zam mix zaf zsn (by kernel_rfl) (zac zrv (trivial)) zvJ fun _ _ h=>h
theorem zzf:zad zn0=[zhB]:=by kernel_rfl
theorem zOh:zaw Tryz.prog FX 33 zyf:=zai (E:=zFq) (code:=zn0) mix zaf zsn Tryz.func33 (by kernel_rfl) zBk (by kernel_rfl) (fun y=>y.1) zyf.out (fun _=>rfl) zyf.run (fun x=>by kernel_rfl) (by kernel_rfl) (zac zzf (⟨⟨_,by kernel_rfl,zGu⟩,trivial⟩))
def zBj:Sig:=⟨[(true,[.d (.int .i64),.d (.int .i64),.d (.sl .rat)])],[],false,[(false,[.d (.bool)])],[]⟩
def zE7:Con:=⟨zBj,Bool,fun x=>M_laws_FnExactNullVectors (⟨x.1,x.2.1,x.2.2.1⟩:Mx),fun r=>(r,())⟩
def zsy:Code:=Tryz.f7.body.getD .skip
def zKN:Env:=⟨zbA,[(8,zPR),(10,zII),(29,zIh),(30,zyp),(31,zym),(12,zyl),(14,zyj),(32,zyi),(33,zyf)],[],[(10,[(0,[]),(1,[]),(2,[1]),(3,[0,2,1]),(4,[])])]⟩
theorem zEv:zaj Tryz.prog FX zKN.cons:=zaa zRs (zab Tryz.func8 (by kernel_rfl)) rfl (zaa zQT (zab Tryz.func10 (by kernel_rfl)) rfl (zaa zQs (zab Tryz.func29 (by kernel_rfl)) rfl (zaa zOt (zab Tryz.func30 (by kernel_rfl)) rfl (zaa zOp (zab Tryz.func31 (by kernel_rfl)) rfl (zaa zOo (zab Tryz.func12 (by kernel_rfl)) rfl (zaa zOm (zab Tryz.func14 (by kernel_rfl)) rfl (zaa zOl (zab Tryz.func32 (by kernel_rfl)) rfl (zaa zOh (zab Tryz.func33 (by kernel_rfl)) rfl (zae)))))))))
theorem zze:zad zsy=[]:=by kernel_rfl
theorem m_q119:zaw Tryz.prog FX 7 zE7:=zai (E:=zKN) (code:=zsy) mix zaf zEv Tryz.func7 (by kernel_rfl) zBj (by kernel_rfl) (fun y=>y.1) zE7.out (fun _=>rfl) zE7.run (fun x=>by kernel_rfl) (by kernel_rfl) (zac zze (trivial))
end Go.Proofs.YtemlaciidfaceaaGreat.WNullVectors
