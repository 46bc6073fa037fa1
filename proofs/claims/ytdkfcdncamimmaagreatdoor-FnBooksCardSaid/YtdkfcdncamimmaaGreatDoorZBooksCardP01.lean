/-
  Own work: part 8 of the texts that the proof of the given statement leans on.
-/
import Derived.Test.YtdkfcdncamimmaaGreatDoorProg
import Derived.Test.YtdkfcdncamimmaaGreatDoorZBooksCardP00
noncomputable section
open Go Go.Di Go.Proofs
namespace Go.Proofs.YtdkfcdncamimmaaGreatDoor.WBooks
def FX:Nat→Option (Array Value→Prop):=Fo.FX
def lay:List (TypeId × TI):=[
 (3,⟨false,[.d (.int .i64 0)],[],none,some (.int .i64),false,false⟩),
 (4,⟨false,[.d (.bool false)],[],none,some .bool,false,false⟩),
 (5,⟨false,[.d (.int .u8 0)],[],none,some (.int .u8),false,false⟩),
 (9,⟨false,[.d (.str ByteArray.empty)],[],none,some .str,false,false⟩),
 (26,⟨false,[.mt],[],some .int,none,false,false⟩),
 (28,⟨true,[.d (.bool false),.mt],[(0,1,false),(1,1,false)],none,none,true,false⟩),
 (30,⟨true,[.d (.bool false),.mt,.mt],[(0,2,true),(2,1,false)],none,none,true,false⟩),
 (32,⟨true,[.d (.int .i64 0),.d (.int .i64 0),.d (.int .i64 0),.d (.bool false),.mt,.mt,.d (.bool false),.mt,.mt],[(0,1,false),(1,1,false),(2,1,false),(3,3,true),(6,3,true)],none,none,true,false⟩),
 (35,⟨false,[.mt],[],some .sta,none,false,false⟩),
 (37,⟨true,[.d (.bool false),.mt],[(0,1,false),(1,1,false)],none,none,true,false⟩),
 (44,⟨false,[.mt],[],some .byte,none,false,false⟩),
 (45,⟨false,[.mt],[],some .obs,none,false,false⟩),
 (49,⟨true,[.d (.bool false),.mt,.mt],[(0,2,true),(2,1,false)],none,none,true,false⟩),
 (77,⟨false,[.mt],[],some .str,none,false,false⟩),
 (96,⟨true,[.d (.str ByteArray.empty),.d (.bool false),.mt,.mt,.d (.bool false),.mt,.mt,.d (.bool false)],[(0,1,false),(1,3,true),(4,3,true),(7,1,false)],none,none,true,false⟩),
 (133,⟨true,[.mt,.d (.int .i64 0),.d (.int .i64 0)],[(0,1,false),(1,1,false),(2,1,false)],none,none,true,false⟩)]
def zbQ:List (TypeId × TI):=[
 (3,⟨false,[.d (.int .i64 0)],[],none,some (.int .i64),false,false⟩),
 (4,⟨false,[.d (.bool false)],[],none,some .bool,false,false⟩),
 (5,⟨false,[.d (.int .u8 0)],[],none,some (.int .u8),false,false⟩),
 (9,⟨false,[.d (.str ByteArray.empty)],[],none,some .str,false,false⟩),
 (26,⟨false,[.mt],[],some .int,none,false,false⟩),
 (28,⟨true,[.d (.bool false),.mt],[(0,1,false),(1,1,false)],none,none,true,false⟩),
 (30,⟨true,[.d (.bool false),.mt,.mt],[(0,2,true),(2,1,false)],none,none,true,false⟩),
 (32,⟨true,[.d (.int .i64 0),.d (.int .i64 0),.d (.int .i64 0),.d (.bool false),.mt,.mt,.d (.bool false),.mt,.mt],[(0,1,false),(1,1,false),(2,1,false),(3,3,true),(6,3,true)],none,none,true,false⟩),
 (35,⟨false,[.mt],[],some .sta,none,false,true⟩),
 (37,⟨true,[.d (.bool false),.mt],[(0,1,false),(1,1,false)],none,none,true,false⟩),
 (44,⟨false,[.mt],[],some .byte,none,false,false⟩),
 (45,⟨false,[.mt],[],some .obs,none,false,true⟩),
 (49,⟨true,[.d (.bool false),.mt,.mt],[(0,2,true),(2,1,false)],none,none,true,false⟩),
 (77,⟨false,[.mt],[],some .str,none,false,false⟩),
 (96,⟨true,[.d (.str ByteArray.empty),.d (.bool false),.mt,.mt,.d (.bool false),.mt,.mt,.d (.bool false)],[(0,1,false),(1,3,true),(4,3,true),(7,1,false)],none,none,true,false⟩),
 (133,⟨true,[.mt,.d (.int .i64 0),.d (.int .i64 0)],[(0,1,false),(1,1,false),(2,1,false)],none,none,true,false⟩)]
theorem zto:zdE Tryz.prog lay:=zry (by kernel_rfl)
theorem zaf:zdE Tryz.prog zbQ:=zry (by kernel_rfl)
theorem mix:Tryz.prog.follows .mixedOrders=true:=by kernel_rfl
def zPa:Sig:=⟨[(false,[.d (.sl .byte)])],[],false,[(false,[.lp 0 0])],[(0,.box [.d (.sl .byte),.d (.int .i64),.d (.int .i64)])]⟩
def zRv:Con:=⟨zPa,Cur,fun x=>zgO x.1,fun r=>(r.b,r.i,r.h,())⟩
def zw1:Code:=Tryz.f57.body.getD .skip
def zme:Code:=(zad zw1).getD 0 .skip
def zq8:LoopD:=⟨⟨zaj [(0,false,[.d (.sl .byte)]),(3,false,[.d (.int .i64)]),(4,false,[.d (.int .i64)])] 32 0,[]⟩,[],[(.exit 0,⟨zaj [(0,false,[.d (.sl .byte)]),(3,false,[.d (.int .i64)])] 32 0,[]⟩,[])]⟩
def zAg (x:Tys zq8.head.ks):Option (zd2 zq8.outs):=@whileO ((List Int) × Int × Int × Unit) ((List Int) × Int × Unit) zen x
def zSv:Env:=⟨zbQ,[],[(3,zbO zq8 zAg)],[]⟩
theorem zGn:zak Tryz.prog FX zSv.cons:=zae
theorem zHc (x:Tys zq8.head.ks):stepL zSv zq8 zme x=zen x:=by kernel_rfl
theorem zAQ:zad zme=[]:=by kernel_rfl
theorem zP2:zaR Tryz.prog FX (zbO zq8 zAg) zme:=zau mix zaf zGn (by kernel_rfl) (zac zAQ (trivial)) zHc fun _ _ h=>h
theorem zH7:zad zw1=[zme]:=by kernel_rfl
theorem zSP:zax Tryz.prog FX 57 zRv:=zai (E:=zSv) (code:=zw1) mix zaf zGn Tryz.func57 (by kernel_rfl) zPa (by kernel_rfl) (fun y=>(⟨y.1,y.2.1,y.2.2.1⟩:Cur)) zRv.out (fun _=>rfl) zRv.run (fun x=>by kernel_rfl) (by kernel_rfl) (zac zH7 (⟨⟨_,by kernel_rfl,zP2⟩,trivial⟩))
def zO9:Sig:=⟨[(false,[.lp 63 0])],[(63,.box [.d (.sl .byte),.d (.int .i64),.d (.int .i64)])],false,[(false,[.d (.int .i64)])],[(63,.box [.d (.sl .byte),.d (.int .i64),.d (.int .i64)])]⟩
def zRu:Con:=⟨zO9,Int × Cur,fun x=>zcy (⟨x.1,x.2.1,x.2.2.1⟩:Cur),fun r=>(r.1,r.2.b,r.2.i,r.2.h,())⟩
def zGt:Code:=Tryz.f146.body.getD .skip
def zSL:Env:=⟨zbQ,[],[],[(2,[(0,[]),(1,[]),(2,[]),(3,[]),(4,[]),(5,[]),(6,[]),(7,[]),(8,[]),(9,[]),(10,[]),(11,[]),(12,[11,0,1,2,3,4,5,6,7,8,9,10])]),(3,[(0,[]),(1,[]),(2,[]),(3,[]),(4,[]),(5,[]),(6,[]),(7,[]),(8,[]),(9,[])]),(4,[(0,[]),(1,[]),(2,[]),(3,[]),(4,[]),(5,[]),(6,[]),(7,[]),(8,[]),(9,[]),(10,[]),(11,[]),(12,[]),(13,[]),(14,[13,0,1,2,3,4,5,6,7,8,9,10,11,12])])]⟩
theorem zOj:zak Tryz.prog FX zSL.cons:=zae
theorem zH6:zad zGt=[]:=by kernel_rfl
theorem zSO:zax Tryz.prog FX 146 zRu:=zai (E:=zSL) (code:=zGt) mix zaf zOj Tryz.func146 (by kernel_rfl) zO9 (by kernel_rfl) (fun y=>(y.1,(⟨y.2.1,y.2.2.1,y.2.2.2.1⟩:Cur))) zRu.out (fun _=>rfl) zRu.run (fun x=>by kernel_rfl) (by kernel_rfl) (zac zH6 (trivial))
def zO8:Sig:=⟨[(false,[.lp 63 0]),(false,[.d (.int .i64)])],[(63,.box [.d (.sl .byte),.d (.int .i64),.d (.int .i64)])],false,[(false,[.d (.int .i64)])],[(63,.box [.d (.sl .byte),.d (.int .i64),.d (.int .i64)])]⟩
def zGS:Con:=⟨zO8,Int × Cur,fun x=>zaq (⟨x.2.1,x.2.2.1,x.2.2.2.1⟩:Cur) x.1,fun r=>(r.1,r.2.b,r.2.i,r.2.h,())⟩
def zGs:Code:=Tryz.f104.body.getD .skip
def zSK:Env:=⟨zbQ,[(146,zRu)],[],[]⟩
theorem zOi:zak Tryz.prog FX zSK.cons:=zaa zSO (zab Tryz.func146 (by kernel_rfl)) (zae)
theorem zH5:zad zGs=[]:=by kernel_rfl
theorem zLY:zax Tryz.prog FX 104 zGS:=zai (E:=zSK) (code:=zGs) mix zaf zOi Tryz.func104 (by kernel_rfl) zO8 (by kernel_rfl) (fun y=>(y.1,(⟨y.2.1,y.2.2.1,y.2.2.2.1⟩:Cur))) zGS.out (fun _=>rfl) zGS.run (fun x=>by kernel_rfl) (by kernel_rfl) (zac zH5 (trivial))
def zO7:Sig:=⟨[(false,[.lp 63 0]),(false,[.d (.int .i64)])],[(63,.box [.d (.sl .byte),.d (.int .i64),.d (.int .i64)])],false,[(false,[.d (.bool)])],[(63,.box [.d (.sl .byte),.d (.int .i64),.d (.int .i64)])]⟩
def zOY:Con:=⟨zO7,Bool × Cur,fun x=>zd4 (⟨x.2.1,x.2.2.1,x.2.2.2.1⟩:Cur) x.1,fun r=>(r.1,r.2.b,r.2.i,r.2.h,())⟩
def zGr:Code:=Tryz.f102.body.getD .skip
def zSJ:Env:=⟨zbQ,[(104,zGS)],[],[]⟩
theorem zOh:zak Tryz.prog FX zSJ.cons:=zaa zLY (zab Tryz.func104 (by kernel_rfl)) (zae)
theorem zH4:zad zGr=[]:=by kernel_rfl
theorem zSd:zax Tryz.prog FX 102 zOY:=zai (E:=zSJ) (code:=zGr) mix zaf zOh Tryz.func102 (by kernel_rfl) zO7 (by kernel_rfl) (fun y=>(y.1,(⟨y.2.1,y.2.2.1,y.2.2.2.1⟩:Cur))) zOY.out (fun _=>rfl) zOY.run (fun x=>by kernel_rfl) (by kernel_rfl) (zac zH4 (trivial))
def zO6:Sig:=⟨[(false,[.d (.int .i64)])],[],false,[(false,[.d (.str)])],[]⟩
def zQk:Con:=⟨zO6,ByteArray,fun x=>zgf x.1,fun r=>(r,())⟩
def zGq:Code:=Tryz.f144.body.getD .skip
def zSI:Env:=⟨zbQ,[],[],[]⟩
theorem zOg:zak Tryz.prog FX zSI.cons:=zae
theorem zH3:zad zGq=[]:=by kernel_rfl
theorem zSy:zax Tryz.prog FX 144 zQk:=zai (E:=zSI) (code:=zGq) mix zaf zOg Tryz.func144 (by kernel_rfl) zO6 (by kernel_rfl) (fun y=>y.1) zQk.out (fun _=>rfl) zQk.run (fun x=>by kernel_rfl) (by kernel_rfl) (zac zH3 (trivial))
def zO5:Sig:=⟨[(false,[.d (.sl .int)])],[],false,[(false,[.d (.sl .int)])],[]⟩
def zOX:Con:=⟨zO5,List Int,fun x=>zbu x.1,fun r=>(r,())⟩
def zw0:Code:=Tryz.f130.body.getD .skip
def zmd:Code:=(zad zw0).getD 0 .skip
def zq7:LoopD:=⟨⟨zaj [(0,false,[.d (.sl .int)]),(3,false,[.d (.int .i64)])] 21 0,[]⟩,[],[(.exit 0,⟨zaj [(0,false,[.d (.sl .int)]),(3,false,[.d (.int .i64)])] 21 0,[]⟩,[])]⟩
def zAf (x:Tys zq7.head.ks):Option (zd2 zq7.outs):=@whileO ((List Int) × Int × Unit) ((List Int) × Int × Unit) zdW x
def zSu:Env:=⟨zbQ,[],[(2,zbO zq7 zAf)],[]⟩
theorem zF9:zak Tryz.prog FX zSu.cons:=zae
theorem zHb (x:Tys zq7.head.ks):stepL zSu zq7 zmd x=zdW x:=by kernel_rfl
theorem zAP:zad zmd=[]:=by kernel_rfl
theorem zP1:zaR Tryz.prog FX (zbO zq7 zAf) zmd:=zau mix zaf zF9 (by kernel_rfl) (zac zAP (trivial)) zHb fun _ _ h=>h
theorem zH2:zad zw0=[zmd]:=by kernel_rfl
theorem zRY:zax Tryz.prog FX 130 zOX:=zai (E:=zSu) (code:=zw0) mix zaf zF9 Tryz.func130 (by kernel_rfl) zO5 (by kernel_rfl) (fun y=>y.1) zOX.out (fun _=>rfl) zOX.run (fun x=>by kernel_rfl) (by kernel_rfl) (zac zH2 (⟨⟨_,by kernel_rfl,zP1⟩,trivial⟩))
def zO4:Sig:=⟨[(false,[.d (.sl .int)])],[],false,[(false,[.d (.sl .int)])],[]⟩
def zRt:Con:=⟨zO4,List Int,fun x=>zgN x.1,fun r=>(r,())⟩
def zGp:Code:=Tryz.f211.body.getD .skip
def zSH:Env:=⟨zbQ,[(130,zOX)],[],[]⟩
theorem zOf:zak Tryz.prog FX zSH.cons:=zaa zRY (zab Tryz.func130 (by kernel_rfl)) (zae)
theorem zH1:zad zGp=[]:=by kernel_rfl
theorem zSN:zax Tryz.prog FX 211 zRt:=zai (E:=zSH) (code:=zGp) mix zaf zOf Tryz.func211 (by kernel_rfl) zO4 (by kernel_rfl) (fun y=>y.1) zRt.out (fun _=>rfl) zRt.run (fun x=>by kernel_rfl) (by kernel_rfl) (zac zH1 (trivial))
def zO3:Sig:=⟨[(false,[.d (.bool)]),(false,[.d (.sl .int)])],[],false,[(true,[.d (.bool),.own 0])],[(0,.arr false .int)]⟩
def zJE:Con:=⟨zO3,Bg,fun x=>zat x.1 x.2.1,fun r=>(r.neg,r.mag,())⟩
def zGo:Code:=Tryz.f179.body.getD .skip
def zSG:Env:=⟨zbQ,[(211,zRt)],[],[]⟩
theorem zOe:zak Tryz.prog FX zSG.cons:=zaa zSN (zab Tryz.func211 (by kernel_rfl)) (zae)
theorem zH0:zad zGo=[]:=by kernel_rfl
theorem zOW:zax Tryz.prog FX 179 zJE:=zai (E:=zSG) (code:=zGo) mix zaf zOe Tryz.func179 (by kernel_rfl) zO3 (by kernel_rfl) (fun y=>(⟨y.1,y.2.1⟩:Bg)) zJE.out (fun _=>rfl) zJE.run (fun x=>by kernel_rfl) (by kernel_rfl) (zac zH0 (trivial))
def zO2:Sig:=⟨[(false,[.d (.int .i64)])],[],false,[(false,[.own 0])],[(0,.arr false .int)]⟩
def zJA:Con:=⟨zO2,List Int,fun x=>zcf x.1,fun r=>(r,())⟩
def zwZ:Code:=Tryz.f207.body.getD .skip
def zmc:Code:=(zad zwZ).getD 0 .skip
def zq6:LoopD:=⟨⟨zaj [(0,false,[.d (.int .i64)]),(3,false,[.own 1024])] 15 0,[(1024,.arr false .int)]⟩,[(.slot 3 0,1024,.int)],[(.exit 0,⟨zaj [(3,false,[.own 1024])] 15 0,[(1024,.arr false .int)]⟩,[(.slot 3 0,1024,.int)])]⟩
def zAe (x:Tys zq6.head.ks):Option (zd2 zq6.outs):=@whileO (Int × (List Int) × Unit) ((List Int) × Unit) zdb x
def zSt:Env:=⟨zbQ,[],[(2,zbO zq6 zAe)],[]⟩
theorem zF8:zak Tryz.prog FX zSt.cons:=zae
theorem zHa (x:Tys zq6.head.ks):stepL zSt zq6 zmc x=zdb x:=by kernel_rfl
theorem zAO:zad zmc=[]:=by kernel_rfl
theorem zP0:zaR Tryz.prog FX (zbO zq6 zAe) zmc:=zau mix zaf zF8 (by kernel_rfl) (zac zAO (trivial)) zHa fun _ _ h=>h
theorem zHZ:zad zwZ=[zmc]:=by kernel_rfl
theorem zOV:zax Tryz.prog FX 207 zJA:=zai (E:=zSt) (code:=zwZ) mix zaf zF8 Tryz.func207 (by kernel_rfl) zO2 (by kernel_rfl) (fun y=>y.1) zJA.out (fun _=>rfl) zJA.run (fun x=>by kernel_rfl) (by kernel_rfl) (zac zHZ (⟨⟨_,by kernel_rfl,zP0⟩,trivial⟩))
def zLP:Sig:=⟨[(false,[.d (.int .i64)])],[],false,[(true,[.d (.bool),.own 0])],[(0,.arr false .int)]⟩
def zGX:Con:=⟨zLP,Bg,fun x=>zdz x.1,fun r=>(r.neg,r.mag,())⟩
def zzP:Code:=Tryz.f175.body.getD .skip
def zRm:Env:=⟨zbQ,[(179,zJE),(207,zJA)],[],[]⟩
theorem zJq:zak Tryz.prog FX zRm.cons:=zaa zOW (zab Tryz.func179 (by kernel_rfl)) (zaa zOV (zab Tryz.func207 (by kernel_rfl)) (zae))
theorem zFt:zad zzP=[]:=by kernel_rfl
theorem zPX:zax Tryz.prog FX 175 zGX:=zai (E:=zRm) (code:=zzP) mix zaf zJq Tryz.func175 (by kernel_rfl) zLP (by kernel_rfl) (fun y=>(⟨y.1,y.2.1⟩:Bg)) zGX.out (fun _=>rfl) zGX.run (fun x=>by kernel_rfl) (by kernel_rfl) (zac zFt (trivial))
def zLO:Sig:=⟨[(false,[.d (.int .i64)])],[],false,[(true,[.d (.bool),.own 0,.own 1])],[(0,.arr false .int),(1,.arr false .int)]⟩
def zpU:Con:=⟨zLO,Rt,fun x=>za2 x.1,fun r=>(r.neg,r.mag,r.den,())⟩
def zzO:Code:=Tryz.f145.body.getD .skip
def zRl:Env:=⟨zbQ,[(175,zGX)],[],[]⟩
theorem zJp:zak Tryz.prog FX zRl.cons:=zaa zPX (zab Tryz.func175 (by kernel_rfl)) (zae)
theorem zFs:zad zzO=[]:=by kernel_rfl
theorem zvW:zax Tryz.prog FX 145 zpU:=zai (E:=zRl) (code:=zzO) mix zaf zJp Tryz.func145 (by kernel_rfl) zLO (by kernel_rfl) (fun y=>(⟨y.1,y.2.1,y.2.2.1⟩:Rt)) zpU.out (fun _=>rfl) zpU.run (fun x=>by kernel_rfl) (by kernel_rfl) (zac zFs (trivial))
def zLN:Sig:=⟨[(false,[.lp 63 0]),(false,[.d (.int .i64)]),(false,[.d (.int .i64)])],[(63,.box [.d (.sl .byte),.d (.int .i64),.d (.int .i64)])],false,[(true,[.d (.bool),.dp 0])],[(0,.deep .sta),(63,.box [.d (.sl .byte),.d (.int .i64),.d (.int .i64)])]⟩
def zJ8:Con:=⟨zLN,Net × Cur,fun x=>zfA (⟨x.2.2.1,x.2.2.2.1,x.2.2.2.2.1⟩:Cur) x.1 x.2.1,fun r=>(r.1.plane,r.1.stations,r.2.b,r.2.i,r.2.h,())⟩
def zst:Code:=Tryz.f103.body.getD .skip
def zkX:Code:=(zad zst).getD 0 .skip
def znr:LoopD:=⟨⟨zaj [(0,false,[.lp 63 0]),(1,false,[.d (.int .i64)]),(2,false,[.d (.int .i64)]),(6,false,[.lp 384 0]),(7,false,[.lp 448 0]),(8,false,[.d (.int .i64)])] 41 0,[(63,.box [.d (.sl .byte),.d (.int .i64),.d (.int .i64)]),(384,.box [.d (.bool),.d (.sl .sta)]),(448,.box [.d (.bool),.dp 2688]),(2688,.deep .sta)]⟩,[(.boxD 448 1,2688,.sta)],[(.exit 0,⟨zaj [(6,false,[.lp 384 0]),(7,false,[.lp 448 0])] 41 0,[(63,.box [.d (.sl .byte),.d (.int .i64),.d (.int .i64)]),(384,.box [.d (.bool),.d (.sl .sta)]),(448,.box [.d (.bool),.dp 2688]),(2688,.deep .sta)]⟩,[(.boxD 448 1,2688,.sta)])]⟩
def zvs (x:Tys znr.head.ks):Option (zd2 znr.outs):=@whileO (Int × Int × Int × (List Int) × Int × Int × Bool × (List Sta) × Bool × (List Sta) × Unit) ((List Int) × Int × Int × Bool × (List Sta) × Bool × (List Sta) × Unit) zdf x
def zOU:Env:=⟨zbQ,[(144,zQk),(104,zGS),(145,zpU)],[(3,zbO znr zvs)],[(5,[(0,[]),(1,[]),(2,[]),(4,[]),(7,[]),(10,[]),(13,[]),(14,[]),(15,[]),(18,[]),(19,[]),(20,[]),(3,[2]),(5,[4,3,2]),(6,[]),(8,[]),(9,[8,5,6,7,4,3,2]),(11,[10,9,8,5,6,7,4,3,2]),(12,[]),(16,[]),(17,[16,11,12,15,10,9,13,14,8,5,6,7,4,3,2]),(21,[]),(22,[21,3,9,17,20,2,8,5,16,11,18,19,6,7,4,12,15,10,13,14]),(23,[1,22,17,0,21,16,11,3,9,20,12,15,10,2,8,5,18,19,13,14,6,7,4]),(24,[]),(25,[24,23,0,1,2,3,4,5,6,7,8,9,10,11,12,13,14,15,16,17,18,19,20,21,22])])]⟩
theorem zyX:zak Tryz.prog FX zOU.cons:=zaa zSy (zab Tryz.func144 (by kernel_rfl)) (zaa zLY (zab Tryz.func104 (by kernel_rfl)) (zaa zvW (zab Tryz.func145 (by kernel_rfl)) (zae)))
theorem zCC (x:Tys znr.head.ks):stepL zOU znr zkX x=zdf x:=by kernel_rfl
theorem zwF:zad zkX=[]:=by kernel_rfl
theorem zNV:zaR Tryz.prog FX (zbO znr zvs) zkX:=zau mix zaf zyX (by kernel_rfl) (zac zwF (trivial)) zCC fun _ _ h=>h
theorem zFr:zad zst=[zkX]:=by kernel_rfl
theorem zSn:zax Tryz.prog FX 103 zJ8:=zai (E:=zOU) (code:=zst) mix zaf zyX Tryz.func103 (by kernel_rfl) zLN (by kernel_rfl) (fun y=>((⟨y.1,y.2.1⟩:Net),(⟨y.2.2.1,y.2.2.2.1,y.2.2.2.2.1⟩:Cur))) zJ8.out (fun _=>rfl) zJ8.run (fun x=>by kernel_rfl) (by kernel_rfl) (zac zFr (⟨⟨_,by kernel_rfl,zNV⟩,trivial⟩))
def zLM:Sig:=⟨[(true,[.d (.bool),.d (.sl .int),.d (.sl .int)])],[],false,[(true,[.d (.bool),.own 0,.own 1])],[(0,.arr false .int),(1,.arr false .int)]⟩
def zJ7:Con:=⟨zLM,Rt,fun x=>zgM (⟨x.1,x.2.1,x.2.2.1⟩:Rt),fun r=>(r.neg,r.mag,r.den,())⟩
def zzN:Code:=Tryz.f176.body.getD .skip
def zRk:Env:=⟨zbQ,[(179,zJE)],[],[(1,[(0,[]),(1,[]),(2,[]),(3,[]),(4,[]),(5,[]),(6,[]),(8,[]),(9,[]),(10,[]),(7,[3,6,2,5,1,4,0]),(11,[8,10,7,9,3,6,2,5,1,4,0]),(12,[]),(13,[12,11,0,1,2,3,4,5,6,7,8,9,10])])]⟩
theorem zJo:zak Tryz.prog FX zRk.cons:=zaa zOW (zab Tryz.func179 (by kernel_rfl)) (zae)
theorem zFq:zad zzN=[]:=by kernel_rfl
theorem zSm:zax Tryz.prog FX 176 zJ7:=zai (E:=zRk) (code:=zzN) mix zaf zJo Tryz.func176 (by kernel_rfl) zLM (by kernel_rfl) (fun y=>(⟨y.1,y.2.1,y.2.2.1⟩:Rt)) zJ7.out (fun _=>rfl) zJ7.run (fun x=>by kernel_rfl) (by kernel_rfl) (zac zFq (trivial))
def zLL:Sig:=⟨[(false,[.d (.sl .int)])],[],false,[(false,[.d (.bool)])],[]⟩
def zBL:Con:=⟨zLL,Bool,fun x=>zct x.1,fun r=>(r,())⟩
def zzM:Code:=Tryz.f126.body.getD .skip
def zRj:Env:=⟨zbQ,[],[],[]⟩
theorem zJn:zak Tryz.prog FX zRj.cons:=zae
theorem zFp:zad zzM=[]:=by kernel_rfl
theorem zM6:zax Tryz.prog FX 126 zBL:=zai (E:=zRj) (code:=zzM) mix zaf zJn Tryz.func126 (by kernel_rfl) zLL (by kernel_rfl) (fun y=>y.1) zBL.out (fun _=>rfl) zBL.run (fun x=>by kernel_rfl) (by kernel_rfl) (zac zFp (trivial))
def zLK:Sig:=⟨[(false,[.d (.sl .int)]),(false,[.d (.sl .int)])],[],false,[(false,[.own 0])],[(0,.arr false .int)]⟩
def zBK:Con:=⟨zLK,List Int,fun x=>zeJ x.1 x.2.1,fun r=>(r,())⟩
def zss:Code:=Tryz.f208.body.getD .skip
def zkW:Code:=(zad zss).getD 0 .skip
def znq:LoopD:=⟨⟨zaj [(0,false,[.d (.sl .int)]),(1,false,[.d (.sl .int)]),(5,false,[.own 3584]),(6,false,[.d (.int .i64)]),(7,false,[.d (.int .i64)])] 55 0,[(3584,.arr false .int)]⟩,[(.slot 5 0,3584,.int)],[(.exit 0,⟨zaj [(5,false,[.own 3584])] 55 0,[(3584,.arr false .int)]⟩,[(.slot 5 0,3584,.int)])]⟩
def zvr (x:Tys znq.head.ks):Option (zd2 znq.outs):=@whileO ((List Int) × (List Int) × Int × Int × (List Int) × Unit) ((List Int) × Unit) zbj x
def zOT:Env:=⟨zbQ,[],[(4,zbO znq zvr)],[]⟩
theorem zyW:zak Tryz.prog FX zOT.cons:=zae
theorem zCB (x:Tys znq.head.ks):stepL zOT znq zkW x=zbj x:=by kernel_rfl
theorem zwE:zad zkW=[]:=by kernel_rfl
theorem zNU:zaR Tryz.prog FX (zbO znq zvr) zkW:=zau mix zaf zyW (by kernel_rfl) (zac zwE (trivial)) zCB fun _ _ h=>h
theorem zFo:zad zss=[zkW]:=by kernel_rfl
theorem zM5:zax Tryz.prog FX 208 zBK:=zai (E:=zOT) (code:=zss) mix zaf zyW Tryz.func208 (by kernel_rfl) zLK (by kernel_rfl) (fun y=>y.1) zBK.out (fun _=>rfl) zBK.run (fun x=>by kernel_rfl) (by kernel_rfl) (zac zFo (⟨⟨_,by kernel_rfl,zNU⟩,trivial⟩))
def zLJ:Sig:=⟨[(false,[.d (.sl .int)]),(false,[.d (.sl .int)])],[],false,[(false,[.d (.int .i64)])],[]⟩
def zuv:Con:=⟨zLJ,Int,fun x=>zc5 x.1 x.2.1,fun r=>(r,())⟩
def zsr:Code:=Tryz.f209.body.getD .skip
def zkV:Code:=(zad zsr).getD 0 .skip
def znp:LoopD:=⟨⟨zaj [(0,false,[.d (.sl .int)]),(1,false,[.d (.sl .int)]),(5,false,[.d (.int .i64)])] 41 0,[]⟩,[],[(.ret,⟨zaj [(4,false,[.d (.int .i64)])] 41 0,[]⟩,[]),(.exit 0,⟨zaj [] 41 0,[]⟩,[])]⟩
def zvq (x:Tys znp.head.ks):Option (zd2 znp.outs):=@whileO ((List Int) × (List Int) × Int × Unit) ((Int × Unit) ⊕ (Unit)) zdi x
def zOS:Env:=⟨zbQ,[],[(6,zbO znp zvq)],[(8,[(0,[]),(1,[]),(2,[]),(3,[]),(4,[]),(5,[]),(6,[]),(7,[]),(8,[])]),(10,[(0,[]),(1,[]),(2,[]),(3,[]),(4,[]),(5,[]),(6,[]),(7,[]),(8,[])])]⟩
theorem zyV:zak Tryz.prog FX zOS.cons:=zae
theorem zCA (x:Tys znp.head.ks):stepL zOS znp zkV x=zdi x:=by kernel_rfl
theorem zwD:zad zkV=[]:=by kernel_rfl
theorem zNT:zaR Tryz.prog FX (zbO znp zvq) zkV:=zau mix zaf zyV (by kernel_rfl) (zac zwD (trivial)) zCA fun _ _ h=>h
theorem zFn:zad zsr=[zkV]:=by kernel_rfl
theorem zD4:zax Tryz.prog FX 209 zuv:=zai (E:=zOS) (code:=zsr) mix zaf zyV Tryz.func209 (by kernel_rfl) zLJ (by kernel_rfl) (fun y=>y.1) zuv.out (fun _=>rfl) zuv.run (fun x=>by kernel_rfl) (by kernel_rfl) (zac zFn (⟨⟨_,by kernel_rfl,zNT⟩,trivial⟩))
def zLI:Sig:=⟨[(false,[.own 0])],[(0,.arr false .int)],false,[(false,[.own 0])],[(0,.arr false .int)]⟩
def zsx:Con:=⟨zLI,List Int,fun x=>zaN x.1,fun r=>(r,())⟩
def zsq:Code:=Tryz.f130.body.getD .skip
def zkU:Code:=(zad zsq).getD 0 .skip
def zno:LoopD:=⟨⟨zaj [(0,false,[.own 1408]),(3,false,[.d (.int .i64)])] 21 0,[(1408,.arr false .int)]⟩,[],[(.exit 0,⟨zaj [(0,false,[.own 1408]),(3,false,[.d (.int .i64)])] 21 0,[(1408,.arr false .int)]⟩,[])]⟩
def zvp (x:Tys zno.head.ks):Option (zd2 zno.outs):=@whileO (Int × (List Int) × Unit) (Int × (List Int) × Unit) zci x
def zOR:Env:=⟨zbQ,[],[(2,zbO zno zvp)],[]⟩
theorem zyU:zak Tryz.prog FX zOR.cons:=zae
theorem zCz (x:Tys zno.head.ks):stepL zOR zno zkU x=zci x:=by kernel_rfl
theorem zwC:zad zkU=[]:=by kernel_rfl
theorem zNS:zaR Tryz.prog FX (zbO zno zvp) zkU:=zau mix zaf zyU (by kernel_rfl) (zac zwC (trivial)) zCz fun _ _ h=>h
theorem zFm:zad zsq=[zkU]:=by kernel_rfl
theorem zAN:zax Tryz.prog FX 130 zsx:=zai (E:=zOR) (code:=zsq) mix zaf zyU Tryz.func130 (by kernel_rfl) zLI (by kernel_rfl) (fun y=>y.1) zsx.out (fun _=>rfl) zsx.run (fun x=>by kernel_rfl) (by kernel_rfl) (zac zFm (⟨⟨_,by kernel_rfl,zNS⟩,trivial⟩))
def zLH:Sig:=⟨[(false,[.d (.sl .int)]),(false,[.d (.sl .int)])],[],false,[(false,[.own 0])],[(0,.arr false .int)]⟩
def zGV:Con:=⟨zLH,List Int,fun x=>zeI x.1 x.2.1,fun r=>(r,())⟩
def zsp:Code:=Tryz.f210.body.getD .skip
def zkT:Code:=(zad zsp).getD 0 .skip
def znn:LoopD:=⟨⟨zaj [(0,false,[.d (.sl .int)]),(1,false,[.d (.sl .int)]),(5,false,[.own 2752]),(6,false,[.d (.int .i64)]),(11,false,[.d (.int .i64)]),(12,false,[.d (.int .i64)])] 42 0,[(2752,.arr false .int)]⟩,[(.slot 5 0,2752,.int)],[(.exit 0,⟨zaj [(5,false,[.own 2752])] 42 0,[(2752,.arr false .int)]⟩,[(.slot 5 0,2752,.int)])]⟩
def zvo (x:Tys znn.head.ks):Option (zd2 znn.outs):=@whileO ((List Int) × (List Int) × Int × Int × Int × (List Int) × Unit) ((List Int) × Unit) zcb x
def zOQ:Env:=⟨zbQ,[(130,zsx)],[(4,zbO znn zvo)],[]⟩
theorem zyT:zak Tryz.prog FX zOQ.cons:=zaa zAN (zab Tryz.func130 (by kernel_rfl)) (zae)
theorem zCy (x:Tys znn.head.ks):stepL zOQ znn zkT x=zcb x:=by kernel_rfl
theorem zwB:zad zkT=[]:=by kernel_rfl
theorem zNR:zaR Tryz.prog FX (zbO znn zvo) zkT:=zau mix zaf zyT (by kernel_rfl) (zac zwB (trivial)) zCy fun _ _ h=>h
theorem zFl:zad zsp=[zkT]:=by kernel_rfl
theorem zPH:zax Tryz.prog FX 210 zGV:=zai (E:=zOQ) (code:=zsp) mix zaf zyT Tryz.func210 (by kernel_rfl) zLH (by kernel_rfl) (fun y=>y.1) zGV.out (fun _=>rfl) zGV.run (fun x=>by kernel_rfl) (by kernel_rfl) (zac zFl (⟨⟨_,by kernel_rfl,zNR⟩,trivial⟩))
def zLG:Sig:=⟨[(true,[.d (.bool),.d (.sl .int)]),(true,[.d (.bool),.d (.sl .int)])],[],false,[(true,[.d (.bool),.own 0])],[(0,.arr false .int)]⟩
def zJ6:Con:=⟨zLG,Bg,fun x=>zc4 (⟨x.1,x.2.1⟩:Bg) (⟨x.2.2.1,x.2.2.2.1⟩:Bg),fun r=>(r.neg,r.mag,())⟩
def zzL:Code:=Tryz.f177.body.getD .skip
def zRi:Env:=⟨zbQ,[(208,zBK),(179,zJE),(209,zuv),(210,zGV)],[],[(2,[(0,[]),(1,[]),(2,[]),(3,[]),(4,[]),(5,[]),(6,[3,5,2,4]),(7,[1,6,0,3,5,2,4]),(8,[7,0,1,2,3,4,5,6])]),(4,[(0,[]),(1,[]),(2,[]),(3,[]),(4,[]),(5,[]),(6,[3,5,2,4]),(7,[1,6,0,3,5,2,4]),(8,[7,0,1,2,3,4,5,6])]),(5,[(0,[]),(1,[]),(2,[]),(3,[]),(4,[]),(5,[]),(6,[3,5,2,4]),(7,[1,6,0,3,5,2,4]),(8,[7,0,1,2,3,4,5,6])])]⟩
theorem zJm:zak Tryz.prog FX zRi.cons:=zaa zM5 (zab Tryz.func208 (by kernel_rfl)) (zaa zOW (zab Tryz.func179 (by kernel_rfl)) (zaa zD4 (zab Tryz.func209 (by kernel_rfl)) (zaa zPH (zab Tryz.func210 (by kernel_rfl)) (zae))))
theorem zFk:zad zzL=[]:=by kernel_rfl
theorem zSl:zax Tryz.prog FX 177 zJ6:=zai (E:=zRi) (code:=zzL) mix zaf zJm Tryz.func177 (by kernel_rfl) zLG (by kernel_rfl) (fun y=>(⟨y.1,y.2.1⟩:Bg)) zJ6.out (fun _=>rfl) zJ6.run (fun x=>by kernel_rfl) (by kernel_rfl) (zac zFk (trivial))
def zLF:Sig:=⟨[(false,[.d (.int .i64)]),(false,[.d (.int .i64)]),(false,[.d (.int .i64)])],[],false,[(false,[.d (.bool)])],[]⟩
def zGU:Con:=⟨zLF,Bool,fun x=>zaX x.1 x.2.1 x.2.2.1,fun r=>(r,())⟩
def zzK:Code:=Tryz.f83.body.getD .skip
def zRh:Env:=⟨zbQ,[],[],[]⟩
theorem zJl:zak Tryz.prog FX zRh.cons:=zae
theorem zFj:zad zzK=[]:=by kernel_rfl
theorem zPG:zax Tryz.prog FX 83 zGU:=zai (E:=zRh) (code:=zzK) mix zaf zJl Tryz.func83 (by kernel_rfl) zLF (by kernel_rfl) (fun y=>y.1) zGU.out (fun _=>rfl) zGU.run (fun x=>by kernel_rfl) (by kernel_rfl) (zac zFj (trivial))
def zLE:Sig:=⟨[(false,[.d (.sl .int)])],[],false,[(false,[.d (.bool)])],[]⟩
def zBJ:Con:=⟨zLE,Bool,fun x=>zeq x.1,fun r=>(r,())⟩
def zso:Code:=Tryz.f163.body.getD .skip
def zkS:Code:=(zad zso).getD 0 .skip
def znm:LoopD:=⟨⟨zaj [(0,false,[.d (.sl .int)]),(5,false,[.d (.sl .int)]),(6,false,[.d (.int .i64)]),(7,false,[.d (.int .i64)])] 32 0,[]⟩,[],[(.ret,⟨zaj [(2,false,[.d (.bool)])] 32 0,[]⟩,[]),(.exit 0,⟨zaj [(0,false,[.d (.sl .int)])] 32 0,[]⟩,[])]⟩
def zvn (x:Tys znm.head.ks):Option (zd2 znm.outs):=@whileO ((List Int) × (List Int) × Int × Int × Unit) ((Bool × Unit) ⊕ ((List Int) × Unit)) zd0 x
def zOP:Env:=⟨zbQ,[(83,zGU)],[(2,zbO znm zvn)],[]⟩
theorem zyS:zak Tryz.prog FX zOP.cons:=zaa zPG (zab Tryz.func83 (by kernel_rfl)) (zae)
theorem zCx (x:Tys znm.head.ks):stepL zOP znm zkS x=zd0 x:=by kernel_rfl
theorem zwA:zad zkS=[]:=by kernel_rfl
theorem zNQ:zaR Tryz.prog FX (zbO znm zvn) zkS:=zau mix zaf zyS (by kernel_rfl) (zac zwA (trivial)) zCx fun _ _ h=>h
theorem zFi:zad zso=[zkS]:=by kernel_rfl
theorem zM4:zax Tryz.prog FX 163 zBJ:=zai (E:=zOP) (code:=zso) mix zaf zyS Tryz.func163 (by kernel_rfl) zLE (by kernel_rfl) (fun y=>y.1) zBJ.out (fun _=>rfl) zBJ.run (fun x=>by kernel_rfl) (by kernel_rfl) (zac zFi (⟨⟨_,by kernel_rfl,zNQ⟩,trivial⟩))
def zLD:Sig:=⟨[(false,[.d (.sl .int)])],[],true,[(false,[.d (.int .i64)]),(false,[.d (.bool)])],[]⟩
def zJ5:Con:=⟨zLD,Int × Bool,fun x=>zep x.1,fun r=>(r.1,r.2,())⟩
def zsn:Code:=Tryz.f192.body.getD .skip
def zkR:Code:=(zad zsn).getD 0 .skip
def znl:LoopD:=⟨⟨zaj [(0,false,[.d (.sl .int)]),(4,false,[.d (.int .i64)]),(5,false,[.d (.int .i64)])] 30 0,[]⟩,[],[(.exit 0,⟨zaj [(4,false,[.d (.int .i64)])] 30 0,[]⟩,[])]⟩
def zvm (x:Tys znl.head.ks):Option (zd2 znl.outs):=@whileO ((List Int) × Int × Int × Unit) (Int × Unit) zcD x
def zOO:Env:=⟨zbQ,[(163,zBJ),(209,zuv)],[(5,zbO znl zvm)],[]⟩
theorem zyR:zak Tryz.prog FX zOO.cons:=zaa zM4 (zab Tryz.func163 (by kernel_rfl)) (zaa zD4 (zab Tryz.func209 (by kernel_rfl)) (zae))
theorem zCw (x:Tys znl.head.ks):stepL zOO znl zkR x=zcD x:=by kernel_rfl
theorem zwz:zad zkR=[]:=by kernel_rfl
theorem zNP:zaR Tryz.prog FX (zbO znl zvm) zkR:=zau mix zaf zyR (by kernel_rfl) (zac zwz (trivial)) zCw fun _ _ h=>h
theorem zFh:zad zsn=[zkR]:=by kernel_rfl
theorem zSk:zax Tryz.prog FX 192 zJ5:=zai (E:=zOO) (code:=zsn) mix zaf zyR Tryz.func192 (by kernel_rfl) zLD (by kernel_rfl) (fun y=>(y.1,y.2.1)) zJ5.out (fun _=>rfl) zJ5.run (fun x=>by kernel_rfl) (by kernel_rfl) (zac zFh (⟨⟨_,by kernel_rfl,zNP⟩,trivial⟩))
def zLC:Sig:=⟨[(false,[.d (.int .i64)]),(false,[.d (.int .i64)])],[],false,[(false,[.own 0])],[(0,.arr false .int)]⟩
def zJ4:Con:=⟨zLC,List Int,fun x=>zfE x.1 x.2.1,fun r=>(r,())⟩
def zsm:Code:=Tryz.f193.body.getD .skip
def zkQ:Code:=(zad zsm).getD 0 .skip
def znk:LoopD:=⟨⟨zaj [(0,false,[.d (.int .i64)]),(1,false,[.d (.int .i64)])] 15 0,[]⟩,[],[(.exit 0,⟨zaj [(0,false,[.d (.int .i64)])] 15 0,[]⟩,[])]⟩
def zvl (x:Tys znk.head.ks):Option (zd2 znk.outs):=@whileO (Int × Int × Unit) (Int × Unit) zcB x
def zON:Env:=⟨zbQ,[(207,zJA)],[(1,zbO znk zvl)],[]⟩
theorem zyQ:zak Tryz.prog FX zON.cons:=zaa zOV (zab Tryz.func207 (by kernel_rfl)) (zae)
theorem zCv (x:Tys znk.head.ks):stepL zON znk zkQ x=zcB x:=by kernel_rfl
theorem zwy:zad zkQ=[]:=by kernel_rfl
theorem zNO:zaR Tryz.prog FX (zbO znk zvl) zkQ:=zau mix zaf zyQ (by kernel_rfl) (zac zwy (trivial)) zCv fun _ _ h=>h
theorem zFg:zad zsm=[zkQ]:=by kernel_rfl
theorem zSj:zax Tryz.prog FX 193 zJ4:=zai (E:=zON) (code:=zsm) mix zaf zyQ Tryz.func193 (by kernel_rfl) zLC (by kernel_rfl) (fun y=>y.1) zJ4.out (fun _=>rfl) zJ4.run (fun x=>by kernel_rfl) (by kernel_rfl) (zac zFg (⟨⟨_,by kernel_rfl,zNO⟩,trivial⟩))
def zLB:Sig:=⟨[(false,[.d (.sl .int)]),(false,[.d (.int .i64)])],[],true,[(false,[.own 0]),(false,[.d (.int .i64)])],[(0,.arr false .int)]⟩
def zJ3:Con:=⟨zLB,List Int × Int,fun x=>zfD x.1 x.2.1,fun r=>(r.2,r.1,())⟩
def zsl:Code:=Tryz.f223.body.getD .skip
def zkP:Code:=(zad zsl).getD 0 .skip
def znj:LoopD:=⟨⟨zaj [(0,false,[.d (.sl .int)]),(1,false,[.d (.int .i64)]),(6,false,[.own 2560]),(7,false,[.d (.int .i64)]),(8,false,[.d (.int .i64)])] 39 0,[(2560,.arr false .int)]⟩,[],[(.exit 0,⟨zaj [(6,false,[.own 2560]),(7,false,[.d (.int .i64)])] 39 0,[(2560,.arr false .int)]⟩,[])]⟩
def zvk (x:Tys znj.head.ks):Option (zd2 znj.outs):=@whileO ((List Int) × Int × Int × Int × (List Int) × Unit) (Int × (List Int) × Unit) zb4 x
def zOM:Env:=⟨zbQ,[(130,zsx)],[(4,zbO znj zvk)],[]⟩
theorem zyP:zak Tryz.prog FX zOM.cons:=zaa zAN (zab Tryz.func130 (by kernel_rfl)) (zae)
theorem zCu (x:Tys znj.head.ks):stepL zOM znj zkP x=zb4 x:=by kernel_rfl
theorem zwx:zad zkP=[]:=by kernel_rfl
theorem zNN:zaR Tryz.prog FX (zbO znj zvk) zkP:=zau mix zaf zyP (by kernel_rfl) (zac zwx (trivial)) zCu fun _ _ h=>h
theorem zFf:zad zsl=[zkP]:=by kernel_rfl
theorem zSi:zax Tryz.prog FX 223 zJ3:=zai (E:=zOM) (code:=zsl) mix zaf zyP Tryz.func223 (by kernel_rfl) zLB (by kernel_rfl) (fun y=>(y.2.1,y.1)) zJ3.out (fun _=>rfl) zJ3.run (fun x=>by kernel_rfl) (by kernel_rfl) (zac zFf (⟨⟨_,by kernel_rfl,zNN⟩,trivial⟩))
def zLA:Sig:=⟨[(false,[.d (.sl .int)]),(false,[.d (.sl .int)])],[],false,[(false,[.own 0])],[(0,.arr false .int)]⟩
def zuu:Con:=⟨zLA,List Int,fun x=>zaA x.1 x.2.1,fun r=>(r,())⟩
def zsk:Code:=Tryz.f180.body.getD .skip
def zia:Code:=(zad zsk).getD 0 .skip
def zkO:Code:=(zad zia).getD 0 .skip
def zni:LoopD:=⟨⟨zaj [(1,false,[.d (.sl .int)]),(5,false,[.own 4672]),(26,false,[.d (.sl .int)]),(27,false,[.d (.int .i64)]),(28,false,[.d (.int .i64)])] 72 0,[(4672,.arr false .int)]⟩,[],[(.exit 0,⟨zaj [(5,false,[.own 4672])] 72 0,[(4672,.arr false .int)]⟩,[])]⟩
def znh:LoopD:=⟨⟨zaj [(1,false,[.d (.sl .int)]),(5,false,[.own 4672]),(6,false,[.d (.int .i64)]),(7,false,[.d (.int .i64)]),(8,false,[.d (.int .i64)]),(26,false,[.d (.sl .int)]),(27,false,[.d (.int .i64)]),(28,false,[.d (.int .i64)]),(33,false,[.d (.sl .int)]),(34,false,[.d (.int .i64)]),(35,false,[.d (.int .i64)])] 72 0,[(4672,.arr false .int)]⟩,[],[(.exit 2,⟨zaj [(1,false,[.d (.sl .int)]),(5,false,[.own 4672]),(6,false,[.d (.int .i64)]),(8,false,[.d (.int .i64)]),(26,false,[.d (.sl .int)]),(27,false,[.d (.int .i64)]),(28,false,[.d (.int .i64)])] 72 0,[(4672,.arr false .int)]⟩,[])]⟩
def zvj (x:Tys zni.head.ks):Option (zd2 zni.outs):=@whileO ((List Int) × (List Int) × Int × Int × (List Int) × Unit) ((List Int) × Unit) zdh x
def zvi (x:Tys znh.head.ks):Option (zd2 znh.outs):=@whileO ((List Int) × Int × Int × Int × (List Int) × Int × Int × (List Int) × Int × Int × (List Int) × Unit) ((List Int) × Int × Int × (List Int) × Int × Int × (List Int) × Unit) zdg x
def zKp:Env:=⟨zbQ,[(130,zsx)],[(5,zbO zni zvj),(9,zbO znh zvi)],[]⟩
theorem zr2:zak Tryz.prog FX zKp.cons:=zaa zAN (zab Tryz.func130 (by kernel_rfl)) (zae)
theorem zCs (x:Tys znh.head.ks):stepL zKp znh zkO x=zdg x:=by kernel_rfl
theorem zwv:zad zkO=[]:=by kernel_rfl
theorem zNL:zaR Tryz.prog FX (zbO znh zvi) zkO:=zau mix zaf zr2 (by kernel_rfl) (zac zwv (trivial)) zCs fun _ _ h=>h
theorem zCt (x:Tys zni.head.ks):stepL zKp zni zia x=zdh x:=by kernel_rfl
theorem zww:zad zia=[zkO]:=by kernel_rfl
theorem zNM:zaR Tryz.prog FX (zbO zni zvj) zia:=zau mix zaf zr2 (by kernel_rfl) (zac zww (⟨⟨_,by kernel_rfl,zNL⟩,trivial⟩)) zCt fun _ _ h=>h
theorem zFe:zad zsk=[zia]:=by kernel_rfl
theorem zD3:zax Tryz.prog FX 180 zuu:=zai (E:=zKp) (code:=zsk) mix zaf zr2 Tryz.func180 (by kernel_rfl) zLA (by kernel_rfl) (fun y=>y.1) zuu.out (fun _=>rfl) zuu.run (fun x=>by kernel_rfl) (by kernel_rfl) (zac zFe (⟨⟨_,by kernel_rfl,zNM⟩,trivial⟩))
def zLz:Sig:=⟨[(false,[.d (.sl .int)]),(false,[.d (.sl .int)])],[],false,[(false,[.d (.int .i64)])],[]⟩
def zJ2:Con:=⟨zLz,Int,fun x=>zfG x.1 x.2.1,fun r=>(r,())⟩
def zsj:Code:=Tryz.f224.body.getD .skip
def zkN:Code:=(zad zsj).getD 0 .skip
def zng:LoopD:=⟨⟨zaj [(0,false,[.d (.sl .int)]),(1,false,[.d (.sl .int)]),(5,false,[.d (.int .i64)]),(6,false,[.d (.int .i64)])] 27 0,[]⟩,[],[(.exit 0,⟨zaj [(5,false,[.d (.int .i64)])] 27 0,[]⟩,[])]⟩
def zvh (x:Tys zng.head.ks):Option (zd2 zng.outs):=@whileO ((List Int) × (List Int) × Int × Int × Unit) (Int × Unit) zcC x
def zOL:Env:=⟨zbQ,[(207,zJA),(180,zuu),(209,zuv)],[(3,zbO zng zvh)],[]⟩
theorem zyO:zak Tryz.prog FX zOL.cons:=zaa zOV (zab Tryz.func207 (by kernel_rfl)) (zaa zD3 (zab Tryz.func180 (by kernel_rfl)) (zaa zD4 (zab Tryz.func209 (by kernel_rfl)) (zae)))
theorem zCr (x:Tys zng.head.ks):stepL zOL zng zkN x=zcC x:=by kernel_rfl
theorem zwu:zad zkN=[]:=by kernel_rfl
theorem zNK:zaR Tryz.prog FX (zbO zng zvh) zkN:=zau mix zaf zyO (by kernel_rfl) (zac zwu (trivial)) zCr fun _ _ h=>h
theorem zFd:zad zsj=[zkN]:=by kernel_rfl
theorem zSh:zax Tryz.prog FX 224 zJ2:=zai (E:=zOL) (code:=zsj) mix zaf zyO Tryz.func224 (by kernel_rfl) zLz (by kernel_rfl) (fun y=>y.1) zJ2.out (fun _=>rfl) zJ2.run (fun x=>by kernel_rfl) (by kernel_rfl) (zac zFd (⟨⟨_,by kernel_rfl,zNK⟩,trivial⟩))
def zLy:Sig:=⟨[(false,[.d (.sl .int)]),(false,[.d (.sl .int)])],[],true,[(false,[.own 0]),(false,[.own 1])],[(0,.arr false .int),(1,.arr false .int)]⟩
def zut:Con:=⟨zLy,List Int × List Int,fun x=>zbx x.1 x.2.1,fun r=>(r.1,r.2,())⟩
def zsi:Code:=Tryz.f194.body.getD .skip
def zkM:Code:=(zad zsi).getD 0 .skip
def znf:LoopD:=⟨⟨zaj [(0,false,[.d (.sl .int)]),(1,false,[.d (.sl .int)]),(8,false,[.own 4224]),(9,false,[.own 4288]),(10,false,[.d (.int .i64)])] 65 0,[(4224,.arr false .int),(4288,.arr false .int)]⟩,[(.slot 9 0,4288,.int)],[(.exit 0,⟨zaj [(8,false,[.own 4224]),(9,false,[.own 4288])] 65 0,[(4224,.arr false .int),(4288,.arr false .int)]⟩,[(.slot 9 0,4288,.int)])]⟩
def zvg (x:Tys znf.head.ks):Option (zd2 znf.outs):=@whileO ((List Int) × (List Int) × Int × (List Int) × (List Int) × Unit) ((List Int) × (List Int) × Unit) zcN x
def zOK:Env:=⟨zbQ,[(223,zJ3),(207,zJA),(130,zsx),(209,zuv),(224,zJ2),(180,zuu),(210,zGV)],[(7,zbO znf zvg)],[]⟩
theorem zyN:zak Tryz.prog FX zOK.cons:=zaa zSi (zab Tryz.func223 (by kernel_rfl)) (zaa zOV (zab Tryz.func207 (by kernel_rfl)) (zaa zAN (zab Tryz.func130 (by kernel_rfl)) (zaa zD4 (zab Tryz.func209 (by kernel_rfl)) (zaa zSh (zab Tryz.func224 (by kernel_rfl)) (zaa zD3 (zab Tryz.func180 (by kernel_rfl)) (zaa zPH (zab Tryz.func210 (by kernel_rfl)) (zae)))))))
theorem zCq (x:Tys znf.head.ks):stepL zOK znf zkM x=zcN x:=by kernel_rfl
theorem zwt:zad zkM=[]:=by kernel_rfl
theorem zNJ:zaR Tryz.prog FX (zbO znf zvg) zkM:=zau mix zaf zyN (by kernel_rfl) (zac zwt (trivial)) zCq fun _ _ h=>h
theorem zFc:zad zsi=[zkM]:=by kernel_rfl
theorem zD2:zax Tryz.prog FX 194 zut:=zai (E:=zOK) (code:=zsi) mix zaf zyN Tryz.func194 (by kernel_rfl) zLy (by kernel_rfl) (fun y=>(y.1,y.2.1)) zut.out (fun _=>rfl) zut.run (fun x=>by kernel_rfl) (by kernel_rfl) (zac zFc (⟨⟨_,by kernel_rfl,zNJ⟩,trivial⟩))
def zLx:Sig:=⟨[(false,[.d (.sl .int)]),(false,[.d (.sl .int)])],[],false,[(false,[.own 0])],[(0,.arr false .int)]⟩
def zGT:Con:=⟨zLx,List Int,fun x=>zfF x.1 x.2.1,fun r=>(r,())⟩
def zsh:Code:=Tryz.f164.body.getD .skip
def zkL:Code:=(zad zsh).getD 0 .skip
def zne:LoopD:=⟨⟨zaj [(5,false,[.own 3392]),(6,false,[.own 3456])] 52 0,[(3392,.arr false .int),(3456,.arr false .int)]⟩,[],[(.ret,⟨zaj [(4,false,[.own 3520])] 52 0,[(3520,.arr false .int)]⟩,[]),(.exit 0,⟨zaj [(5,false,[.own 3392])] 52 0,[(3392,.arr false .int)]⟩,[])]⟩
def zvf (x:Tys zne.head.ks):Option (zd2 zne.outs):=@whileO ((List Int) × (List Int) × Unit) (((List Int) × Unit) ⊕ ((List Int) × Unit)) zcc x
def zOJ:Env:=⟨zbQ,[(192,zJ5),(193,zJ4),(194,zut)],[(3,zbO zne zvf)],[]⟩
theorem zyM:zak Tryz.prog FX zOJ.cons:=zaa zSk (zab Tryz.func192 (by kernel_rfl)) (zaa zSj (zab Tryz.func193 (by kernel_rfl)) (zaa zD2 (zab Tryz.func194 (by kernel_rfl)) (zae)))
theorem zCp (x:Tys zne.head.ks):stepL zOJ zne zkL x=zcc x:=by kernel_rfl
theorem zwr:zad zkL=[]:=by kernel_rfl
theorem zNI:zaR Tryz.prog FX (zbO zne zvf) zkL:=zau mix zaf zyM (by kernel_rfl) (zac zwr (trivial)) zCp fun _ _ h=>h
theorem zFb:zad zsh=[zkL]:=by kernel_rfl
theorem zPF:zax Tryz.prog FX 164 zGT:=zai (E:=zOJ) (code:=zsh) mix zaf zyM Tryz.func164 (by kernel_rfl) zLx (by kernel_rfl) (fun y=>y.1) zGT.out (fun _=>rfl) zGT.run (fun x=>by kernel_rfl) (by kernel_rfl) (zac zFb (⟨⟨_,by kernel_rfl,zNI⟩,trivial⟩))
def zLw:Sig:=⟨[(false,[.d (.bool)]),(false,[.d (.sl .int)]),(false,[.d (.sl .int)])],[],false,[(true,[.d (.bool),.own 0,.own 1])],[(0,.arr false .int),(1,.arr false .int)]⟩
def zsw:Con:=⟨zLw,Rt,fun x=>zaL x.1 x.2.1 x.2.2.1,fun r=>(r.neg,r.mag,r.den,())⟩
def zzJ:Code:=Tryz.f178.body.getD .skip
def zRg:Env:=⟨zbQ,[(130,zOX),(126,zBL),(164,zGT),(194,zut),(179,zJE)],[],[]⟩
theorem zJk:zak Tryz.prog FX zRg.cons:=zaa zRY (zab Tryz.func130 (by kernel_rfl)) (zaa zM6 (zab Tryz.func126 (by kernel_rfl)) (zaa zPF (zab Tryz.func164 (by kernel_rfl)) (zaa zD2 (zab Tryz.func194 (by kernel_rfl)) (zaa zOW (zab Tryz.func179 (by kernel_rfl)) (zae)))))
theorem zFa:zad zzJ=[]:=by kernel_rfl
theorem zAM:zax Tryz.prog FX 178 zsw:=zai (E:=zRg) (code:=zzJ) mix zaf zJk Tryz.func178 (by kernel_rfl) zLw (by kernel_rfl) (fun y=>(⟨y.1,y.2.1,y.2.2.1⟩:Rt)) zsw.out (fun _=>rfl) zsw.run (fun x=>by kernel_rfl) (by kernel_rfl) (zac zFa (trivial))
def zLv:Sig:=⟨[(true,[.d (.bool),.d (.sl .int),.d (.sl .int)]),(true,[.d (.bool),.d (.sl .int),.d (.sl .int)])],[],false,[(true,[.d (.bool),.own 0,.own 1])],[(0,.arr false .int),(1,.arr false .int)]⟩
def zpT:Con:=⟨zLv,Rt,fun x=>zaz (⟨x.1,x.2.1,x.2.2.1⟩:Rt) (⟨x.2.2.2.1,x.2.2.2.2.1,x.2.2.2.2.2.1⟩:Rt),fun r=>(r.neg,r.mag,r.den,())⟩
def zzI:Code:=Tryz.f148.body.getD .skip
def zRf:Env:=⟨zbQ,[(126,zBL),(177,zJ6),(178,zsw),(180,zuu),(179,zJE)],[],[(4,[(0,[]),(1,[]),(2,[]),(3,[]),(4,[]),(5,[]),(6,[]),(7,[]),(8,[5,7,4,6,3]),(9,[2,8,1,5,7,0,4,6,3]),(10,[]),(11,[10,9,0,1,2,3,4,5,6,7,8])]),(5,[(0,[]),(1,[]),(2,[]),(3,[]),(4,[]),(5,[]),(6,[]),(7,[]),(8,[5,7,4,6,3]),(9,[2,8,1,5,7,0,4,6,3]),(10,[]),(11,[10,9,0,1,2,3,4,5,6,7,8])]),(7,[(0,[]),(1,[]),(2,[]),(3,[]),(4,[]),(5,[]),(6,[]),(7,[]),(8,[5,7,4,6]),(9,[1,3,8,0,2,5,7,4,6]),(10,[9,0,1,2,3,4,5,6,7,8])])]⟩
theorem zJj:zak Tryz.prog FX zRf.cons:=zaa zM6 (zab Tryz.func126 (by kernel_rfl)) (zaa zSl (zab Tryz.func177 (by kernel_rfl)) (zaa zAM (zab Tryz.func178 (by kernel_rfl)) (zaa zD3 (zab Tryz.func180 (by kernel_rfl)) (zaa zOW (zab Tryz.func179 (by kernel_rfl)) (zae)))))
theorem zE9:zad zzI=[]:=by kernel_rfl
theorem zvV:zax Tryz.prog FX 148 zpT:=zai (E:=zRf) (code:=zzI) mix zaf zJj Tryz.func148 (by kernel_rfl) zLv (by kernel_rfl) (fun y=>(⟨y.1,y.2.1,y.2.2.1⟩:Rt)) zpT.out (fun _=>rfl) zpT.run (fun x=>by kernel_rfl) (by kernel_rfl) (zac zE9 (trivial))
def zLu:Sig:=⟨[(true,[.d (.bool),.d (.sl .int),.d (.sl .int)]),(true,[.d (.bool),.d (.sl .int),.d (.sl .int)])],[],false,[(true,[.d (.bool),.own 0,.own 1])],[(0,.arr false .int),(1,.arr false .int)]⟩
def zw9:Con:=⟨zLu,Rt,fun x=>zbw (⟨x.1,x.2.1,x.2.2.1⟩:Rt) (⟨x.2.2.2.1,x.2.2.2.2.1,x.2.2.2.2.2.1⟩:Rt),fun r=>(r.neg,r.mag,r.den,())⟩
def zzH:Code:=Tryz.f147.body.getD .skip
def zRe:Env:=⟨zbQ,[(176,zJ7),(148,zpT)],[],[(1,[(0,[]),(1,[]),(2,[1]),(3,[0,2,1]),(4,[3,0,1,2])])]⟩
theorem zJi:zak Tryz.prog FX zRe.cons:=zaa zSm (zab Tryz.func176 (by kernel_rfl)) (zaa zvV (zab Tryz.func148 (by kernel_rfl)) (zae))
theorem zE8:zad zzH=[]:=by kernel_rfl
theorem zHY:zax Tryz.prog FX 147 zw9:=zai (E:=zRe) (code:=zzH) mix zaf zJi Tryz.func147 (by kernel_rfl) zLu (by kernel_rfl) (fun y=>(⟨y.1,y.2.1,y.2.2.1⟩:Rt)) zw9.out (fun _=>rfl) zw9.run (fun x=>by kernel_rfl) (by kernel_rfl) (zac zE8 (trivial))
def zLt:Sig:=⟨[(true,[.d (.bool),.d (.sl .int)])],[],false,[(false,[.d (.bool)])],[]⟩
def zGR:Con:=⟨zLt,Bool,fun x=>zbv (⟨x.1,x.2.1⟩:Bg),fun r=>(r,())⟩
def zzG:Code:=Tryz.f162.body.getD .skip
def zRd:Env:=⟨zbQ,[(163,zBJ)],[],[]⟩
theorem zJh:zak Tryz.prog FX zRd.cons:=zaa zM4 (zab Tryz.func163 (by kernel_rfl)) (zae)
theorem zE7:zad zzG=[]:=by kernel_rfl
theorem zPE:zax Tryz.prog FX 162 zGR:=zai (E:=zRd) (code:=zzG) mix zaf zJh Tryz.func162 (by kernel_rfl) zLt (by kernel_rfl) (fun y=>y.1) zGR.out (fun _=>rfl) zGR.run (fun x=>by kernel_rfl) (by kernel_rfl) (zac zE7 (trivial))
def zLs:Sig:=⟨[(true,[.d (.bool),.d (.sl .int)]),(true,[.d (.bool),.d (.sl .int)])],[],false,[(true,[.d (.bool),.own 0,.own 1])],[(0,.arr false .int),(1,.arr false .int)]⟩
def zJ1:Con:=⟨zLs,Rt,fun x=>zgi (⟨x.1,x.2.1⟩:Bg) (⟨x.2.2.1,x.2.2.2.1⟩:Bg),fun r=>(r.neg,r.mag,r.den,())⟩
def zzF:Code:=Tryz.f181.body.getD .skip
def zRc:Env:=⟨zbQ,[(162,zGR),(178,zsw)],[],[]⟩
theorem zJg:zak Tryz.prog FX zRc.cons:=zaa zPE (zab Tryz.func162 (by kernel_rfl)) (zaa zAM (zab Tryz.func178 (by kernel_rfl)) (zae))
theorem zE6:zad zzF=[]:=by kernel_rfl
theorem zSg:zax Tryz.prog FX 181 zJ1:=zai (E:=zRc) (code:=zzF) mix zaf zJg Tryz.func181 (by kernel_rfl) zLs (by kernel_rfl) (fun y=>(⟨y.1,y.2.1,y.2.2.1⟩:Rt)) zJ1.out (fun _=>rfl) zJ1.run (fun x=>by kernel_rfl) (by kernel_rfl) (zac zE6 (trivial))
def zLr:Sig:=⟨[(false,[.d (.int .i64)]),(false,[.d (.int .i64)])],[],false,[(true,[.d (.bool),.own 0,.own 1])],[(0,.arr false .int),(1,.arr false .int)]⟩
def zus:Con:=⟨zLr,Rt,fun x=>zbC x.1 x.2.1,fun r=>(r.neg,r.mag,r.den,())⟩
def zzE:Code:=Tryz.f149.body.getD .skip
def zRb:Env:=⟨zbQ,[(175,zGX),(181,zJ1)],[],[]⟩
theorem zJf:zak Tryz.prog FX zRb.cons:=zaa zPX (zab Tryz.func175 (by kernel_rfl)) (zaa zSg (zab Tryz.func181 (by kernel_rfl)) (zae))
theorem zE5:zad zzE=[]:=by kernel_rfl
theorem zD1:zax Tryz.prog FX 149 zus:=zai (E:=zRb) (code:=zzE) mix zaf zJf Tryz.func149 (by kernel_rfl) zLr (by kernel_rfl) (fun y=>(⟨y.1,y.2.1,y.2.2.1⟩:Rt)) zus.out (fun _=>rfl) zus.run (fun x=>by kernel_rfl) (by kernel_rfl) (zac zE5 (trivial))
def zLq:Sig:=⟨[(true,[.d (.bool),.d (.sl .int),.d (.sl .int)])],[],false,[(false,[.d (.bool)])],[]⟩
def zw8:Con:=⟨zLq,Bool,fun x=>zbK (⟨x.1,x.2.1,x.2.2.1⟩:Rt),fun r=>(r,())⟩
def zzD:Code:=Tryz.f186.body.getD .skip
def zRa:Env:=⟨zbQ,[],[],[]⟩
theorem zJe:zak Tryz.prog FX zRa.cons:=zae
theorem zE4:zad zzD=[]:=by kernel_rfl
theorem zHX:zax Tryz.prog FX 186 zw8:=zai (E:=zRa) (code:=zzD) mix zaf zJe Tryz.func186 (by kernel_rfl) zLq (by kernel_rfl) (fun y=>y.1) zw8.out (fun _=>rfl) zw8.run (fun x=>by kernel_rfl) (by kernel_rfl) (zac zE4 (trivial))
def zLp:Sig:=⟨[(true,[.d (.bool),.d (.sl .int),.d (.sl .int)])],[],false,[(false,[.d (.bool)])],[]⟩
def zw7:Con:=⟨zLp,Bool,fun x=>za5 (⟨x.1,x.2.1,x.2.2.1⟩:Rt),fun r=>(r,())⟩
def zzC:Code:=Tryz.f125.body.getD .skip
def zQ9:Env:=⟨zbQ,[(162,zGR),(163,zBJ),(164,zGT),(126,zBL)],[],[]⟩
theorem zJd:zak Tryz.prog FX zQ9.cons:=zaa zPE (zab Tryz.func162 (by kernel_rfl)) (zaa zM4 (zab Tryz.func163 (by kernel_rfl)) (zaa zPF (zab Tryz.func164 (by kernel_rfl)) (zaa zM6 (zab Tryz.func126 (by kernel_rfl)) (zae))))
theorem zE3:zad zzC=[]:=by kernel_rfl
theorem zHW:zax Tryz.prog FX 125 zw7:=zai (E:=zQ9) (code:=zzC) mix zaf zJd Tryz.func125 (by kernel_rfl) zLp (by kernel_rfl) (fun y=>y.1) zw7.out (fun _=>rfl) zw7.run (fun x=>by kernel_rfl) (by kernel_rfl) (zac zE3 (trivial))
def zLo:Sig:=⟨[(true,[.d (.bool),.d (.sl .int),.d (.sl .int)])],[],false,[(false,[.d (.int .i64)])],[]⟩
def zJ0:Con:=⟨zLo,Int,fun x=>zav (⟨x.1,x.2.1,x.2.2.1⟩:Rt),fun r=>(r,())⟩
def zzB:Code:=Tryz.f133.body.getD .skip
def zQ8:Env:=⟨zbQ,[(125,zw7)],[],[]⟩
theorem zJc:zak Tryz.prog FX zQ8.cons:=zaa zHW (zab Tryz.func125 (by kernel_rfl)) (zae)
theorem zE2:zad zzB=[]:=by kernel_rfl
theorem zSf:zax Tryz.prog FX 133 zJ0:=zai (E:=zQ8) (code:=zzB) mix zaf zJc Tryz.func133 (by kernel_rfl) zLo (by kernel_rfl) (fun y=>y.1) zJ0.out (fun _=>rfl) zJ0.run (fun x=>by kernel_rfl) (by kernel_rfl) (zac zE2 (trivial))
def zLn:Sig:=⟨[(true,[.d (.bool),.d (.sl .int),.d (.sl .int)]),(true,[.d (.bool),.d (.sl .int),.d (.sl .int)])],[],false,[(true,[.d (.bool),.own 0,.own 1])],[(0,.arr false .int),(1,.arr false .int)]⟩
def zw6:Con:=⟨zLn,Rt,fun x=>zbr (⟨x.1,x.2.1,x.2.2.1⟩:Rt) (⟨x.2.2.2.1,x.2.2.2.2.1,x.2.2.2.2.2.1⟩:Rt),fun r=>(r.neg,r.mag,r.den,())⟩
def zzA:Code:=Tryz.f184.body.getD .skip
def zQ7:Env:=⟨zbQ,[(180,zuu),(178,zsw)],[],[(1,[(0,[]),(1,[]),(2,[]),(3,[]),(4,[]),(5,[]),(6,[]),(7,[]),(8,[]),(9,[]),(10,[]),(11,[]),(12,[]),(14,[]),(15,[]),(16,[]),(17,[]),(13,[9,12,8,11,7,10]),(18,[15,17,13,14,16,9,12,8,11,7,10]),(19,[6,13,18,2,5,9,12,15,17,1,4,8,11,14,16,0,3,7,10]),(20,[19,0,1,2,3,4,5,6,7,8,9,10,11,12,13,14,15,16,17,18])])]⟩
theorem zJb:zak Tryz.prog FX zQ7.cons:=zaa zD3 (zab Tryz.func180 (by kernel_rfl)) (zaa zAM (zab Tryz.func178 (by kernel_rfl)) (zae))
theorem zE1:zad zzA=[]:=by kernel_rfl
theorem zHV:zax Tryz.prog FX 184 zw6:=zai (E:=zQ7) (code:=zzA) mix zaf zJb Tryz.func184 (by kernel_rfl) zLn (by kernel_rfl) (fun y=>(⟨y.1,y.2.1,y.2.2.1⟩:Rt)) zw6.out (fun _=>rfl) zw6.run (fun x=>by kernel_rfl) (by kernel_rfl) (zac zE1 (trivial))
def zLm:Sig:=⟨[(false,[.d (.sl .int)])],[],false,[(false,[.own 0])],[(0,.arr false .int)]⟩
def zJZ:Con:=⟨zLm,List Int,fun x=>zgg x.1,fun r=>(r,())⟩
def zof:Code:=Tryz.f213.body.getD .skip
def zkK:Code:=(zad zof).getD 0 .skip
def zkJ:Code:=(zad zof).getD 1 .skip
def znd:LoopD:=⟨⟨zaj [(0,false,[.d (.sl .int)]),(3,false,[.own 3456])] 53 0,[(3456,.arr false .int)]⟩,[(.slot 3 0,3456,.int)],[(.exit 0,⟨zaj [(0,false,[.d (.sl .int)]),(3,false,[.own 3456])] 53 0,[(3456,.arr false .int)]⟩,[(.slot 3 0,3456,.int)])]⟩
def znc:LoopD:=⟨⟨zaj [(0,false,[.d (.sl .int)]),(3,false,[.d (.sl .int)])] 53 0,[]⟩,[],[(.ret,⟨zaj [(2,false,[.own 3520])] 53 0,[(3520,.arr false .int)]⟩,[])]⟩
def zve (x:Tys znd.head.ks):Option (zd2 znd.outs):=@whileO ((List Int) × (List Int) × Unit) ((List Int) × (List Int) × Unit) zcX x
def zvd (x:Tys znc.head.ks):Option (zd2 znc.outs):=@whileO ((List Int) × (List Int) × Unit) ((List Int) × Unit) zcW x
def zKo:Env:=⟨zbQ,[(194,zut),(208,zBK),(130,zOX),(209,zuv)],[(4,zbO znd zve),(7,zbO znc zvd)],[]⟩
theorem zr1:zak Tryz.prog FX zKo.cons:=zaa zD2 (zab Tryz.func194 (by kernel_rfl)) (zaa zM5 (zab Tryz.func208 (by kernel_rfl)) (zaa zRY (zab Tryz.func130 (by kernel_rfl)) (zaa zD4 (zab Tryz.func209 (by kernel_rfl)) (zae))))
theorem zCn (x:Tys znc.head.ks):stepL zKo znc zkJ x=zcW x:=by kernel_rfl
theorem zwp:zad zkJ=[]:=by kernel_rfl
theorem zNG:zaR Tryz.prog FX (zbO znc zvd) zkJ:=zau mix zaf zr1 (by kernel_rfl) (zac zwp (trivial)) zCn fun _ _ h=>h
theorem zCo (x:Tys znd.head.ks):stepL zKo znd zkK x=zcX x:=by kernel_rfl
theorem zwq:zad zkK=[]:=by kernel_rfl
theorem zNH:zaR Tryz.prog FX (zbO znd zve) zkK:=zau mix zaf zr1 (by kernel_rfl) (zac zwq (trivial)) zCo fun _ _ h=>h
theorem zE0:zad zof=[zkK,zkJ]:=by kernel_rfl
theorem zSe:zax Tryz.prog FX 213 zJZ:=zai (E:=zKo) (code:=zof) mix zaf zr1 Tryz.func213 (by kernel_rfl) zLm (by kernel_rfl) (fun y=>y.1) zJZ.out (fun _=>rfl) zJZ.run (fun x=>by kernel_rfl) (by kernel_rfl) (zac zE0 (⟨⟨_,by kernel_rfl,zNH⟩,⟨⟨_,by kernel_rfl,zNG⟩,trivial⟩⟩))
def zLl:Sig:=⟨[(true,[.d (.bool),.d (.sl .int),.d (.sl .int)])],[],false,[(true,[.d (.bool),.own 0,.own 1])],[(0,.arr false .int),(1,.arr false .int)]⟩
def zGQ:Con:=⟨zLl,Rt,fun x=>zbm (⟨x.1,x.2.1,x.2.2.1⟩:Rt),fun r=>(r.neg,r.mag,r.den,())⟩
def zzy:Code:=Tryz.f183.body.getD .skip
def zQ6:Env:=⟨zbQ,[(125,zw7),(145,zpU),(184,zw6),(186,zw8),(194,zut),(130,zsx),(213,zJZ),(207,zJA),(178,zsw)],[],[(3,[(0,[]),(1,[]),(2,[0,1]),(3,[]),(4,[3,2,0,1])])]⟩
theorem zJa:zak Tryz.prog FX zQ6.cons:=zaa zHW (zab Tryz.func125 (by kernel_rfl)) (zaa zvW (zab Tryz.func145 (by kernel_rfl)) (zaa zHV (zab Tryz.func184 (by kernel_rfl)) (zaa zHX (zab Tryz.func186 (by kernel_rfl)) (zaa zD2 (zab Tryz.func194 (by kernel_rfl)) (zaa zAN (zab Tryz.func130 (by kernel_rfl)) (zaa zSe (zab Tryz.func213 (by kernel_rfl)) (zaa zOV (zab Tryz.func207 (by kernel_rfl)) (zaa zAM (zab Tryz.func178 (by kernel_rfl)) (zae)))))))))
theorem zEZ:zad zzy=[]:=by kernel_rfl
theorem zPD:zax Tryz.prog FX 183 zGQ:=zai (E:=zQ6) (code:=zzy) mix zaf zJa Tryz.func183 (by kernel_rfl) zLl (by kernel_rfl) (fun y=>(⟨y.1,y.2.1,y.2.2.1⟩:Rt)) zGQ.out (fun _=>rfl) zGQ.run (fun x=>by kernel_rfl) (by kernel_rfl) (zac zEZ (trivial))
def zLk:Sig:=⟨[(true,[.d (.bool),.d (.sl .int),.d (.sl .int)])],[],false,[(true,[.d (.bool),.own 0])],[(0,.arr false .int)]⟩
def zJY:Con:=⟨zLk,Bg,fun x=>zfB (⟨x.1,x.2.1,x.2.2.1⟩:Rt),fun r=>(r.neg,r.mag,())⟩
def zzx:Code:=Tryz.f212.body.getD .skip
def zQ5:Env:=⟨zbQ,[(194,zut),(130,zsx),(208,zBK),(179,zJE)],[],[]⟩
theorem zI9:zak Tryz.prog FX zQ5.cons:=zaa zD2 (zab Tryz.func194 (by kernel_rfl)) (zaa zAN (zab Tryz.func130 (by kernel_rfl)) (zaa zM5 (zab Tryz.func208 (by kernel_rfl)) (zaa zOW (zab Tryz.func179 (by kernel_rfl)) (zae))))
theorem zEY:zad zzx=[]:=by kernel_rfl
theorem zSc:zax Tryz.prog FX 212 zJY:=zai (E:=zQ5) (code:=zzx) mix zaf zI9 Tryz.func212 (by kernel_rfl) zLk (by kernel_rfl) (fun y=>(⟨y.1,y.2.1⟩:Bg)) zJY.out (fun _=>rfl) zJY.run (fun x=>by kernel_rfl) (by kernel_rfl) (zac zEY (trivial))
def zLj:Sig:=⟨[(true,[.d (.bool),.d (.sl .int),.d (.sl .int)]),(false,[.d (.int .i64)])],[],false,[(true,[.d (.bool),.own 0,.own 1])],[(0,.arr false .int),(1,.arr false .int)]⟩
def zGP:Con:=⟨zLj,Rt,fun x=>zaY (⟨x.1,x.2.1,x.2.2.1⟩:Rt) x.2.2.2.1,fun r=>(r.neg,r.mag,r.den,())⟩
def zzw:Code:=Tryz.f182.body.getD .skip
def zQ4:Env:=⟨zbQ,[(125,zw7),(83,zGU),(145,zpU),(184,zw6),(149,zus),(148,zpT),(186,zw8),(212,zJY),(207,zJA),(178,zsw)],[],[(3,[(0,[]),(1,[]),(2,[1]),(3,[0,2,1]),(4,[3,0,2,1]),(5,[3,4,0,2,1]),(6,[]),(7,[6,5,0,1,2,3,4])]),(7,[(0,[]),(1,[]),(2,[]),(3,[]),(4,[]),(5,[4]),(6,[1,3,5,0,2,4]),(7,[6,0,1,2,3,4,5])])]⟩
theorem zI8:zak Tryz.prog FX zQ4.cons:=zaa zHW (zab Tryz.func125 (by kernel_rfl)) (zaa zPG (zab Tryz.func83 (by kernel_rfl)) (zaa zvW (zab Tryz.func145 (by kernel_rfl)) (zaa zHV (zab Tryz.func184 (by kernel_rfl)) (zaa zD1 (zab Tryz.func149 (by kernel_rfl)) (zaa zvV (zab Tryz.func148 (by kernel_rfl)) (zaa zHX (zab Tryz.func186 (by kernel_rfl)) (zaa zSc (zab Tryz.func212 (by kernel_rfl)) (zaa zOV (zab Tryz.func207 (by kernel_rfl)) (zaa zAM (zab Tryz.func178 (by kernel_rfl)) (zae))))))))))
theorem zEX:zad zzw=[]:=by kernel_rfl
theorem zPC:zax Tryz.prog FX 182 zGP:=zai (E:=zQ4) (code:=zzw) mix zaf zI8 Tryz.func182 (by kernel_rfl) zLj (by kernel_rfl) (fun y=>(⟨y.1,y.2.1,y.2.2.1⟩:Rt)) zGP.out (fun _=>rfl) zGP.run (fun x=>by kernel_rfl) (by kernel_rfl) (zac zEX (trivial))
def zLi:Sig:=⟨[(true,[.d (.bool),.d (.sl .int),.d (.sl .int)])],[],false,[(false,[.d (.bool)])],[]⟩
def zJX:Con:=⟨zLi,Bool,fun x=>zfC (⟨x.1,x.2.1,x.2.2.1⟩:Rt),fun r=>(r,())⟩
def zzv:Code:=Tryz.f168.body.getD .skip
def zQ3:Env:=⟨zbQ,[],[],[]⟩
theorem zI7:zak Tryz.prog FX zQ3.cons:=zae
theorem zEW:zad zzv=[]:=by kernel_rfl
theorem zSb:zax Tryz.prog FX 168 zJX:=zai (E:=zQ3) (code:=zzv) mix zaf zI7 Tryz.func168 (by kernel_rfl) zLi (by kernel_rfl) (fun y=>y.1) zJX.out (fun _=>rfl) zJX.run (fun x=>by kernel_rfl) (by kernel_rfl) (zac zEW (trivial))
def zLh:Sig:=⟨[(true,[.d (.bool),.d (.sl .int),.d (.sl .int)]),(true,[.d (.bool),.d (.sl .int),.d (.sl .int)])],[],false,[(true,[.d (.bool),.own 0,.own 1])],[(0,.arr false .int),(1,.arr false .int)]⟩
def zJW:Con:=⟨zLh,Rt,fun x=>zcs (⟨x.1,x.2.1,x.2.2.1⟩:Rt) (⟨x.2.2.2.1,x.2.2.2.2.1,x.2.2.2.2.2.1⟩:Rt),fun r=>(r.neg,r.mag,r.den,())⟩
def zzu:Code:=Tryz.f214.body.getD .skip
def zQ2:Env:=⟨zbQ,[(180,zuu),(178,zsw)],[],[(1,[(0,[]),(1,[]),(2,[]),(3,[]),(4,[]),(5,[]),(6,[]),(7,[]),(8,[]),(9,[]),(10,[]),(11,[]),(13,[]),(14,[]),(15,[]),(16,[]),(17,[]),(12,[9,11,8,10,7]),(18,[14,17,12,13,16,9,11,15,8,10,7]),(19,[6,12,18,2,5,9,11,14,17,1,4,8,10,13,16,0,3,7,15]),(20,[19,0,1,2,3,4,5,6,7,8,9,10,11,12,13,14,15,16,17,18])])]⟩
theorem zI6:zak Tryz.prog FX zQ2.cons:=zaa zD3 (zab Tryz.func180 (by kernel_rfl)) (zaa zAM (zab Tryz.func178 (by kernel_rfl)) (zae))
theorem zEV:zad zzu=[]:=by kernel_rfl
theorem zSa:zax Tryz.prog FX 214 zJW:=zai (E:=zQ2) (code:=zzu) mix zaf zI6 Tryz.func214 (by kernel_rfl) zLh (by kernel_rfl) (fun y=>(⟨y.1,y.2.1,y.2.2.1⟩:Rt)) zJW.out (fun _=>rfl) zJW.run (fun x=>by kernel_rfl) (by kernel_rfl) (zac zEV (trivial))
def zLg:Sig:=⟨[(true,[.d (.bool),.d (.sl .int),.d (.sl .int)]),(true,[.d (.bool),.d (.sl .int),.d (.sl .int)])],[],false,[(true,[.d (.bool),.own 0,.own 1])],[(0,.arr false .int),(1,.arr false .int)]⟩
def zJV:Con:=⟨zLg,Rt,fun x=>zec (⟨x.1,x.2.1,x.2.2.1⟩:Rt) (⟨x.2.2.2.1,x.2.2.2.2.1,x.2.2.2.2.2.1⟩:Rt),fun r=>(r.neg,r.mag,r.den,())⟩
def zzt:Code:=Tryz.f185.body.getD .skip
def zQ1:Env:=⟨zbQ,[(125,zw7),(184,zw6),(148,zpT),(183,zGQ),(186,zw8),(168,zJX),(147,zw9),(214,zJW),(182,zGP)],[],[(3,[(0,[]),(1,[]),(3,[]),(4,[]),(2,[0,1]),(5,[3,4,2,0,1]),(6,[2,5,0,1,3,4]),(7,[6,2,5,0,1,3,4]),(8,[]),(9,[8,7,0,1,2,3,4,5,6])]),(7,[(0,[]),(1,[]),(3,[]),(2,[0,1]),(4,[2,3,0,1]),(5,[4,2,3,0,1]),(6,[5,0,1,2,3,4])]),(8,[(0,[]),(1,[]),(2,[]),(3,[1,2]),(4,[0,3,1,2]),(5,[4,0,3,1,2]),(6,[5,0,1,2,3,4])])]⟩
theorem zI5:zak Tryz.prog FX zQ1.cons:=zaa zHW (zab Tryz.func125 (by kernel_rfl)) (zaa zHV (zab Tryz.func184 (by kernel_rfl)) (zaa zvV (zab Tryz.func148 (by kernel_rfl)) (zaa zPD (zab Tryz.func183 (by kernel_rfl)) (zaa zHX (zab Tryz.func186 (by kernel_rfl)) (zaa zSb (zab Tryz.func168 (by kernel_rfl)) (zaa zHY (zab Tryz.func147 (by kernel_rfl)) (zaa zSa (zab Tryz.func214 (by kernel_rfl)) (zaa zPC (zab Tryz.func182 (by kernel_rfl)) (zae)))))))))
theorem zEU:zad zzt=[]:=by kernel_rfl
theorem zR9:zax Tryz.prog FX 185 zJV:=zai (E:=zQ1) (code:=zzt) mix zaf zI5 Tryz.func185 (by kernel_rfl) zLg (by kernel_rfl) (fun y=>(⟨y.1,y.2.1,y.2.2.1⟩:Rt)) zJV.out (fun _=>rfl) zJV.run (fun x=>by kernel_rfl) (by kernel_rfl) (zac zEU (trivial))
def zLf:Sig:=⟨[(false,[.lp 63 0]),(true,[.d (.bool),.d (.sl .sta)]),(false,[.d (.int .i64)]),(false,[.d (.int .i64)])],[(63,.box [.d (.sl .byte),.d (.int .i64),.d (.int .i64)])],false,[(true,[.d (.int .i64),.d (.int .i64),.d (.int .i64),.d (.bool),.own 0,.own 1,.d (.bool),.own 2,.own 3])],[(0,.arr false .int),(1,.arr false .int),(2,.arr false .int),(3,.arr false .int),(63,.box [.d (.sl .byte),.d (.int .i64),.d (.int .i64)])]⟩
def zJU:Con:=⟨zLf,Obs × Cur,fun x=>zeG (⟨x.2.2.2.2.1,x.2.2.2.2.2.1,x.2.2.2.2.2.2.1⟩:Cur) (⟨x.1,x.2.1⟩:Net) x.2.2.1 x.2.2.2.1,fun r=>(r.1.kind,r.1.frm,r.1.to,r.1.value.neg,r.1.variance.neg,r.1.value.mag,r.1.value.den,r.1.variance.mag,r.1.variance.den,r.2.b,r.2.i,r.2.h,())⟩
def zzs:Code:=Tryz.f150.body.getD .skip
def zQ0:Env:=⟨zbQ,[(147,zw9),(104,zGS),(149,zus),(148,zpT),(186,zw8),(133,zJ0),(184,zw6),(183,zGQ),(182,zGP),(185,zJV)],[],[(1,[(0,[]),(1,[]),(2,[]),(3,[]),(4,[]),(5,[]),(6,[]),(7,[]),(8,[]),(9,[]),(10,[]),(11,[]),(12,[5,11,4,10,3,9,1,2,7,8,0,6]),(13,[]),(14,[13,12,0,1,2,3,4,5,6,7,8,9,10,11])]),(2,[(0,[]),(1,[]),(2,[]),(3,[]),(4,[]),(5,[]),(6,[]),(7,[]),(8,[]),(9,[]),(10,[]),(11,[]),(12,[5,11,4,10,3,9,1,2,7,8,0,6]),(13,[]),(14,[13,12,0,1,2,3,4,5,6,7,8,9,10,11])]),(12,[(0,[]),(1,[]),(3,[]),(4,[]),(2,[0,1]),(5,[3,4,2,0,1]),(6,[2,5,0,1,3,4]),(7,[6,2,5,0,1,3,4]),(8,[7,6,2,5,0,1,3,4]),(9,[]),(10,[9,8,0,1,2,3,4,5,6,7])])]⟩
theorem zI4:zak Tryz.prog FX zQ0.cons:=zaa zHY (zab Tryz.func147 (by kernel_rfl)) (zaa zLY (zab Tryz.func104 (by kernel_rfl)) (zaa zD1 (zab Tryz.func149 (by kernel_rfl)) (zaa zvV (zab Tryz.func148 (by kernel_rfl)) (zaa zHX (zab Tryz.func186 (by kernel_rfl)) (zaa zSf (zab Tryz.func133 (by kernel_rfl)) (zaa zHV (zab Tryz.func184 (by kernel_rfl)) (zaa zPD (zab Tryz.func183 (by kernel_rfl)) (zaa zPC (zab Tryz.func182 (by kernel_rfl)) (zaa zR9 (zab Tryz.func185 (by kernel_rfl)) (zae))))))))))
theorem zET:zad zzs=[]:=by kernel_rfl
theorem zR8:zax Tryz.prog FX 150 zJU:=zai (E:=zQ0) (code:=zzs) mix zaf zI4 Tryz.func150 (by kernel_rfl) zLf (by kernel_rfl) (fun y=>((⟨y.1,y.2.1,y.2.2.1,(⟨y.2.2.2.1,y.2.2.2.2.2.1,y.2.2.2.2.2.2.1⟩:Rt),(⟨y.2.2.2.2.1,y.2.2.2.2.2.2.2.1,y.2.2.2.2.2.2.2.2.1⟩:Rt)⟩:Obs),(⟨y.2.2.2.2.2.2.2.2.2.1,y.2.2.2.2.2.2.2.2.2.2.1,y.2.2.2.2.2.2.2.2.2.2.2.1⟩:Cur))) zJU.out (fun _=>rfl) zJU.run (fun x=>by kernel_rfl) (by kernel_rfl) (zac zET (trivial))
def zLe:Sig:=⟨[(false,[.lp 63 0]),(true,[.d (.bool),.d (.sl .sta)])],[(63,.box [.d (.sl .byte),.d (.int .i64),.d (.int .i64)])],false,[(false,[.own 0])],[(0,.arr false .obs),(63,.box [.d (.sl .byte),.d (.int .i64),.d (.int .i64)])]⟩
def zJT:Con:=⟨zLe,List Obs × Cur,fun x=>zfz (⟨x.2.2.1,x.2.2.2.1,x.2.2.2.2.1⟩:Cur) (⟨x.1,x.2.1⟩:Net),fun r=>(r.1,r.2.b,r.2.i,r.2.h,())⟩
def zoe:Code:=Tryz.f105.body.getD .skip
def zkI:Code:=(zad zoe).getD 0 .skip
def zkH:Code:=(zad zoe).getD 1 .skip
def znb:LoopD:=⟨⟨zaj [(0,false,[.lp 63 0]),(3,false,[.lp 192 0]),(5,false,[.own 8960]),(6,false,[.d (.int .i64)]),(7,false,[.d (.int .i64)])] 139 0,[(63,.box [.d (.sl .byte),.d (.int .i64),.d (.int .i64)]),(192,.box [.d (.bool),.d (.sl .sta)]),(8960,.arr false .obs)]⟩,[(.slot 5 0,8960,.obs)],[(.exit 0,⟨zaj [(0,false,[.lp 63 0]),(3,false,[.lp 192 0]),(5,false,[.own 8960]),(6,false,[.d (.int .i64)])] 139 0,[(63,.box [.d (.sl .byte),.d (.int .i64),.d (.int .i64)]),(192,.box [.d (.bool),.d (.sl .sta)]),(8960,.arr false .obs)]⟩,[(.slot 5 0,8960,.obs)])]⟩
def zna:LoopD:=⟨⟨zaj [(0,false,[.lp 63 0]),(3,false,[.lp 192 0]),(5,false,[.own 8960]),(6,false,[.d (.int .i64)]),(10,false,[.d (.bool)]),(11,false,[.d (.int .i64)])] 139 0,[(63,.box [.d (.sl .byte),.d (.int .i64),.d (.int .i64)]),(192,.box [.d (.bool),.d (.sl .sta)]),(8960,.arr false .obs)]⟩,[(.slot 5 0,8960,.obs)],[(.exit 2,⟨zaj [(0,false,[.lp 63 0]),(3,false,[.lp 192 0]),(5,false,[.own 8960]),(6,false,[.d (.int .i64)])] 139 0,[(63,.box [.d (.sl .byte),.d (.int .i64),.d (.int .i64)]),(192,.box [.d (.bool),.d (.sl .sta)]),(8960,.arr false .obs)]⟩,[(.slot 5 0,8960,.obs)])]⟩
def zvc (x:Tys znb.head.ks):Option (zd2 znb.outs):=@whileO (Int × Int × (List Int) × Int × Int × Bool × (List Sta) × (List Obs) × Unit) (Int × (List Int) × Int × Int × Bool × (List Sta) × (List Obs) × Unit) zde x
def zvb (x:Tys zna.head.ks):Option (zd2 zna.outs):=@whileO (Int × Bool × Int × (List Int) × Int × Int × Bool × (List Sta) × (List Obs) × Unit) (Int × (List Int) × Int × Int × Bool × (List Sta) × (List Obs) × Unit) zdd x
def zKn:Env:=⟨lay,[(147,zw9),(104,zGS),(149,zus),(148,zpT),(150,zJU),(102,zOY),(145,zpU)],[(4,zbO znb zvc),(12,zbO zna zvb)],[(6,[(0,[]),(1,[]),(2,[]),(3,[]),(4,[]),(5,[]),(6,[]),(7,[]),(8,[]),(9,[]),(10,[]),(11,[]),(12,[]),(13,[6,12,5,11,4,10,1,3,8,9,0,2,7]),(14,[]),(15,[14,13,0,1,2,3,4,5,6,7,8,9,10,11,12])]),(7,[(0,[]),(1,[]),(2,[]),(3,[]),(4,[]),(5,[]),(6,[]),(7,[]),(8,[]),(9,[]),(10,[]),(11,[]),(12,[]),(13,[6,12,5,11,4,10,1,3,8,9,0,2,7]),(14,[]),(15,[14,13,0,1,2,3,4,5,6,7,8,9,10,11,12])]),(8,[(0,[]),(1,[]),(2,[]),(3,[]),(4,[]),(5,[]),(6,[5]),(7,[]),(8,[7,6,5]),(9,[4,8,7,6,5]),(10,[9,4,8,7,6,5]),(11,[]),(12,[11,1,3,9,10,2,4,8,7,6,5]),(13,[0,12,10,11,9,1,3,4,8,2,7,6,5]),(14,[13,0,1,2,3,4,5,6,7,8,9,10,11,12])]),(9,[(0,[]),(1,[]),(2,[]),(3,[]),(4,[]),(5,[]),(6,[]),(7,[6,1,3,4,5,2]),(8,[0,7,5,6,1,3,4,2]),(9,[8,0,1,2,3,4,5,6,7])]),(15,[(0,[]),(1,[]),(2,[]),(3,[]),(4,[]),(5,[]),(6,[]),(7,[]),(10,[]),(8,[5,7,6]),(9,[]),(11,[]),(12,[0,1,2,11,8,9,10,5,7,4,6,3]),(13,[]),(14,[13,12,0,1,2,3,4,5,6,7,8,9,10,11])]),(21,[(0,[]),(1,[]),(2,[]),(3,[]),(4,[]),(5,[]),(6,[]),(7,[]),(8,[]),(9,[]),(10,[]),(11,[]),(12,[11,2,9,10,1,8,7,4,6,3,5]),(13,[0,12,10,11,2,9,1,8,7,4,6,3,5]),(14,[13,0,1,2,3,4,5,6,7,8,9,10,11,12])])]⟩
theorem zr0:zak Tryz.prog FX zKn.cons:=zaa zHY (zab Tryz.func147 (by kernel_rfl)) (zaa zLY (zab Tryz.func104 (by kernel_rfl)) (zaa zD1 (zab Tryz.func149 (by kernel_rfl)) (zaa zvV (zab Tryz.func148 (by kernel_rfl)) (zaa zR8 (zab Tryz.func150 (by kernel_rfl)) (zaa zSd (zab Tryz.func102 (by kernel_rfl)) (zaa zvW (zab Tryz.func145 (by kernel_rfl)) (zae)))))))
theorem zCl (x:Tys zna.head.ks):stepL zKn zna zkH x=zdd x:=by kernel_rfl
theorem zwn:zad zkH=[]:=by kernel_rfl
theorem zNE:zaR Tryz.prog FX (zbO zna zvb) zkH:=zau mix zto zr0 (by kernel_rfl) (zac zwn (trivial)) zCl fun _ _ h=>h
theorem zCm (x:Tys znb.head.ks):stepL zKn znb zkI x=zde x:=by kernel_rfl
theorem zwo:zad zkI=[]:=by kernel_rfl
theorem zNF:zaR Tryz.prog FX (zbO znb zvc) zkI:=zau mix zto zr0 (by kernel_rfl) (zac zwo (trivial)) zCm fun _ _ h=>h
theorem zES:zad zoe=[zkI,zkH]:=by kernel_rfl
theorem zR7:zax Tryz.prog FX 105 zJT:=zai (E:=zKn) (code:=zoe) mix zto zr0 Tryz.func105 (by kernel_rfl) zLe (by kernel_rfl) (fun y=>(y.1,(⟨y.2.1,y.2.2.1,y.2.2.2.1⟩:Cur))) zJT.out (fun _=>rfl) zJT.run (fun x=>by kernel_rfl) (by kernel_rfl) (zac zES (⟨⟨_,by kernel_rfl,zNF⟩,⟨⟨_,by kernel_rfl,zNE⟩,trivial⟩⟩))
def zLd:Sig:=⟨[],[],false,[(true,[.d (.bool),.own 0,.own 1])],[(0,.arr false .int),(1,.arr false .int)]⟩
def zJS:Con:=⟨zLd,Rt,fun _=>zbl,fun r=>(r.neg,r.mag,r.den,())⟩
def zzr:Code:=Tryz.f118.body.getD .skip
def zQZ:Env:=⟨zbQ,[(145,zpU)],[],[]⟩
theorem zI3:zak Tryz.prog FX zQZ.cons:=zaa zvW (zab Tryz.func145 (by kernel_rfl)) (zae)
theorem zER:zad zzr=[]:=by kernel_rfl
theorem zR6:zax Tryz.prog FX 118 zJS:=zai (E:=zQZ) (code:=zzr) mix zaf zI3 Tryz.func118 (by kernel_rfl) zLd (by kernel_rfl) (fun y=>(⟨y.1,y.2.1,y.2.2.1⟩:Rt)) zJS.out (fun _=>rfl) zJS.run (fun x=>by kernel_rfl) (by kernel_rfl) (zac zER (trivial))
def zLc:Sig:=⟨[(false,[.lp 63 0]),(false,[.d (.int .i64)]),(false,[.d (.int .i64)])],[(63,.box [.d (.sl .byte),.d (.int .i64),.d (.int .i64)])],false,[(true,[.d (.bool),.dp 0])],[(0,.deep .sta),(63,.box [.d (.sl .byte),.d (.int .i64),.d (.int .i64)])]⟩
def zJR:Con:=⟨zLc,Net × Cur,fun x=>zeH (⟨x.2.2.1,x.2.2.2.1,x.2.2.2.2.1⟩:Cur) x.1 x.2.1,fun r=>(r.1.plane,r.1.stations,r.2.b,r.2.i,r.2.h,())⟩
def zsg:Code:=Tryz.f106.body.getD .skip
def zkG:Code:=(zad zsg).getD 0 .skip
def zm9:LoopD:=⟨⟨zaj [(0,false,[.lp 63 0]),(1,false,[.d (.int .i64)]),(2,false,[.d (.int .i64)]),(6,false,[.lp 384 0]),(7,false,[.lp 448 0]),(8,false,[.d (.int .i64)])] 31 0,[(63,.box [.d (.sl .byte),.d (.int .i64),.d (.int .i64)]),(384,.box [.d (.bool),.d (.sl .sta)]),(448,.box [.d (.bool),.dp 2048]),(2048,.deep .sta)]⟩,[(.boxD 448 1,2048,.sta)],[(.exit 0,⟨zaj [(6,false,[.lp 384 0]),(7,false,[.lp 448 0])] 31 0,[(63,.box [.d (.sl .byte),.d (.int .i64),.d (.int .i64)]),(384,.box [.d (.bool),.d (.sl .sta)]),(448,.box [.d (.bool),.dp 2048]),(2048,.deep .sta)]⟩,[(.boxD 448 1,2048,.sta)])]⟩
def zva (x:Tys zm9.head.ks):Option (zd2 zm9.outs):=@whileO (Int × Int × Int × (List Int) × Int × Int × Bool × (List Sta) × Bool × (List Sta) × Unit) ((List Int) × Int × Int × Bool × (List Sta) × Bool × (List Sta) × Unit) zcM x
def zOI:Env:=⟨zbQ,[(144,zQk),(104,zGS),(145,zpU),(118,zJS)],[(3,zbO zm9 zva)],[(5,[(0,[]),(1,[]),(2,[]),(4,[]),(8,[]),(9,[]),(10,[]),(3,[2]),(5,[4,3,2]),(6,[5,4,3,2]),(7,[6,5,4,3,2]),(11,[]),(12,[11,3,6,7,10,2,5,8,9,4]),(13,[1,12,7,0,11,6,3,10,5,2,8,9,4]),(14,[]),(15,[14,13,0,1,2,3,4,5,6,7,8,9,10,11,12])])]⟩
theorem zyL:zak Tryz.prog FX zOI.cons:=zaa zSy (zab Tryz.func144 (by kernel_rfl)) (zaa zLY (zab Tryz.func104 (by kernel_rfl)) (zaa zvW (zab Tryz.func145 (by kernel_rfl)) (zaa zR6 (zab Tryz.func118 (by kernel_rfl)) (zae))))
theorem zCk (x:Tys zm9.head.ks):stepL zOI zm9 zkG x=zcM x:=by kernel_rfl
theorem zwm:zad zkG=[]:=by kernel_rfl
theorem zND:zaR Tryz.prog FX (zbO zm9 zva) zkG:=zau mix zaf zyL (by kernel_rfl) (zac zwm (trivial)) zCk fun _ _ h=>h
theorem zEQ:zad zsg=[zkG]:=by kernel_rfl
theorem zR5:zax Tryz.prog FX 106 zJR:=zai (E:=zOI) (code:=zsg) mix zaf zyL Tryz.func106 (by kernel_rfl) zLc (by kernel_rfl) (fun y=>((⟨y.1,y.2.1⟩:Net),(⟨y.2.2.1,y.2.2.2.1,y.2.2.2.2.1⟩:Cur))) zJR.out (fun _=>rfl) zJR.run (fun x=>by kernel_rfl) (by kernel_rfl) (zac zEQ (⟨⟨_,by kernel_rfl,zND⟩,trivial⟩))
def zLb:Sig:=⟨[(false,[.lp 63 0]),(true,[.d (.bool),.d (.sl .sta)]),(false,[.d (.int .i64)]),(false,[.d (.int .i64)])],[(63,.box [.d (.sl .byte),.d (.int .i64),.d (.int .i64)])],false,[(true,[.d (.int .i64),.d (.int .i64),.d (.int .i64),.d (.bool),.own 0,.own 1,.d (.bool),.own 2,.own 3])],[(0,.arr false .int),(1,.arr false .int),(2,.arr false .int),(3,.arr false .int),(63,.box [.d (.sl .byte),.d (.int .i64),.d (.int .i64)])]⟩
def zJQ:Con:=⟨zLb,Obs × Cur,fun x=>zeV (⟨x.2.2.2.2.1,x.2.2.2.2.2.1,x.2.2.2.2.2.2.1⟩:Cur) (⟨x.1,x.2.1⟩:Net) x.2.2.1 x.2.2.2.1,fun r=>(r.1.kind,r.1.frm,r.1.to,r.1.value.neg,r.1.variance.neg,r.1.value.mag,r.1.value.den,r.1.variance.mag,r.1.variance.den,r.2.b,r.2.i,r.2.h,())⟩
def zzq:Code:=Tryz.f151.body.getD .skip
def zQY:Env:=⟨zbQ,[(147,zw9),(104,zGS),(149,zus),(148,zpT)],[],[(1,[(0,[]),(1,[]),(2,[]),(3,[]),(4,[]),(5,[]),(6,[]),(7,[]),(8,[]),(9,[]),(10,[]),(11,[]),(12,[5,11,4,10,3,9,1,2,7,8,0,6]),(13,[]),(14,[13,12,0,1,2,3,4,5,6,7,8,9,10,11])]),(2,[(0,[]),(1,[]),(2,[]),(3,[]),(8,[]),(11,[]),(4,[3]),(5,[]),(6,[5,4,3]),(7,[2,6,5,4,3]),(9,[8,7,2,6,5,4,3]),(10,[]),(12,[11,9,8,7,2,6,5,4,3]),(13,[]),(14,[10,13,12,9,11,8,7,2,6,5,4,3]),(15,[]),(16,[15,14,0,1,2,3,4,5,6,7,8,9,10,11,12,13])])]⟩
theorem zI2:zak Tryz.prog FX zQY.cons:=zaa zHY (zab Tryz.func147 (by kernel_rfl)) (zaa zLY (zab Tryz.func104 (by kernel_rfl)) (zaa zD1 (zab Tryz.func149 (by kernel_rfl)) (zaa zvV (zab Tryz.func148 (by kernel_rfl)) (zae))))
theorem zEP:zad zzq=[]:=by kernel_rfl
theorem zR4:zax Tryz.prog FX 151 zJQ:=zai (E:=zQY) (code:=zzq) mix zaf zI2 Tryz.func151 (by kernel_rfl) zLb (by kernel_rfl) (fun y=>((⟨y.1,y.2.1,y.2.2.1,(⟨y.2.2.2.1,y.2.2.2.2.2.1,y.2.2.2.2.2.2.1⟩:Rt),(⟨y.2.2.2.2.1,y.2.2.2.2.2.2.2.1,y.2.2.2.2.2.2.2.2.1⟩:Rt)⟩:Obs),(⟨y.2.2.2.2.2.2.2.2.2.1,y.2.2.2.2.2.2.2.2.2.2.1,y.2.2.2.2.2.2.2.2.2.2.2.1⟩:Cur))) zJQ.out (fun _=>rfl) zJQ.run (fun x=>by kernel_rfl) (by kernel_rfl) (zac zEP (trivial))
def zLa:Sig:=⟨[(false,[.lp 63 0]),(true,[.d (.bool),.d (.sl .sta)])],[(63,.box [.d (.sl .byte),.d (.int .i64),.d (.int .i64)])],false,[(false,[.dp 0])],[(0,.deep .obs),(63,.box [.d (.sl .byte),.d (.int .i64),.d (.int .i64)])]⟩
def zJP:Con:=⟨zLa,List Obs × Cur,fun x=>zeF (⟨x.2.2.1,x.2.2.2.1,x.2.2.2.2.1⟩:Cur) (⟨x.1,x.2.1⟩:Net),fun r=>(r.1,r.2.b,r.2.i,r.2.h,())⟩
def zod:Code:=Tryz.f107.body.getD .skip
def zkF:Code:=(zad zod).getD 0 .skip
def zkE:Code:=(zad zod).getD 1 .skip
def zm8:LoopD:=⟨⟨zaj [(0,false,[.lp 63 0]),(3,false,[.lp 192 0]),(5,false,[.dp 5568]),(6,false,[.d (.int .i64)]),(7,false,[.d (.int .i64)])] 86 0,[(63,.box [.d (.sl .byte),.d (.int .i64),.d (.int .i64)]),(192,.box [.d (.bool),.d (.sl .sta)]),(5568,.deep .obs)]⟩,[(.slotD 5 0,5568,.obs)],[(.exit 0,⟨zaj [(0,false,[.lp 63 0]),(3,false,[.lp 192 0]),(5,false,[.dp 5568]),(6,false,[.d (.int .i64)])] 86 0,[(63,.box [.d (.sl .byte),.d (.int .i64),.d (.int .i64)]),(192,.box [.d (.bool),.d (.sl .sta)]),(5568,.deep .obs)]⟩,[(.slotD 5 0,5568,.obs)])]⟩
def zm7:LoopD:=⟨⟨zaj [(0,false,[.lp 63 0]),(3,false,[.lp 192 0]),(5,false,[.dp 5568]),(6,false,[.d (.int .i64)]),(8,false,[.d (.int .i64)])] 86 0,[(63,.box [.d (.sl .byte),.d (.int .i64),.d (.int .i64)]),(192,.box [.d (.bool),.d (.sl .sta)]),(5568,.deep .obs)]⟩,[(.slotD 5 0,5568,.obs)],[(.exit 2,⟨zaj [(0,false,[.lp 63 0]),(3,false,[.lp 192 0]),(5,false,[.dp 5568]),(6,false,[.d (.int .i64)])] 86 0,[(63,.box [.d (.sl .byte),.d (.int .i64),.d (.int .i64)]),(192,.box [.d (.bool),.d (.sl .sta)]),(5568,.deep .obs)]⟩,[(.slotD 5 0,5568,.obs)])]⟩
def zu9 (x:Tys zm8.head.ks):Option (zd2 zm8.outs):=@whileO (Int × Int × (List Int) × Int × Int × Bool × (List Sta) × (List Obs) × Unit) (Int × (List Int) × Int × Int × Bool × (List Sta) × (List Obs) × Unit) zcL x
def zu8 (x:Tys zm7.head.ks):Option (zd2 zm7.outs):=@whileO (Int × Int × (List Int) × Int × Int × Bool × (List Sta) × (List Obs) × Unit) (Int × (List Int) × Int × Int × Bool × (List Sta) × (List Obs) × Unit) zcK x
def zKm:Env:=⟨zbQ,[(151,zJQ),(104,zGS),(102,zOY),(149,zus),(148,zpT),(145,zpU)],[(4,zbO zm8 zu9),(8,zbO zm7 zu8)],[(11,[(0,[]),(1,[]),(2,[]),(3,[]),(4,[]),(5,[]),(6,[]),(7,[]),(8,[]),(11,[]),(9,[6,8,7]),(10,[]),(12,[]),(13,[1,2,3,12,9,10,11,6,8,5,7,4]),(14,[13,1,2,3,12,9,10,11,6,8,5,7,4]),(15,[0,14,13,1,2,3,12,9,10,11,6,8,5,7,4]),(16,[15,0,1,2,3,4,5,6,7,8,9,10,11,12,13,14])]),(14,[(0,[]),(1,[]),(2,[]),(3,[]),(4,[]),(5,[]),(6,[]),(7,[]),(8,[]),(9,[8]),(10,[]),(11,[10,9,8]),(12,[7,11,6,10,9,5,8,3,4,2]),(13,[12,7,11,6,10,9,5,8,3,4,2]),(14,[]),(15,[14,1,12,13,7,11,6,10,9,5,8,3,4,2]),(16,[0,15,13,14,12,1,7,11,6,10,9,5,8,3,4,2]),(17,[16,0,1,2,3,4,5,6,7,8,9,10,11,12,13,14,15])])]⟩
theorem zrZ:zak Tryz.prog FX zKm.cons:=zaa zR4 (zab Tryz.func151 (by kernel_rfl)) (zaa zLY (zab Tryz.func104 (by kernel_rfl)) (zaa zSd (zab Tryz.func102 (by kernel_rfl)) (zaa zD1 (zab Tryz.func149 (by kernel_rfl)) (zaa zvV (zab Tryz.func148 (by kernel_rfl)) (zaa zvW (zab Tryz.func145 (by kernel_rfl)) (zae))))))
theorem zCi (x:Tys zm7.head.ks):stepL zKm zm7 zkE x=zcK x:=by kernel_rfl
theorem zwk:zad zkE=[]:=by kernel_rfl
theorem zNB:zaR Tryz.prog FX (zbO zm7 zu8) zkE:=zau mix zaf zrZ (by kernel_rfl) (zac zwk (trivial)) zCi fun _ _ h=>h
theorem zCj (x:Tys zm8.head.ks):stepL zKm zm8 zkF x=zcL x:=by kernel_rfl
theorem zwl:zad zkF=[]:=by kernel_rfl
theorem zNC:zaR Tryz.prog FX (zbO zm8 zu9) zkF:=zau mix zaf zrZ (by kernel_rfl) (zac zwl (trivial)) zCj fun _ _ h=>h
theorem zEO:zad zod=[zkF,zkE]:=by kernel_rfl
theorem zR3:zax Tryz.prog FX 107 zJP:=zai (E:=zKm) (code:=zod) mix zaf zrZ Tryz.func107 (by kernel_rfl) zLa (by kernel_rfl) (fun y=>(y.1,(⟨y.2.1,y.2.2.1,y.2.2.2.1⟩:Cur))) zJP.out (fun _=>rfl) zJP.run (fun x=>by kernel_rfl) (by kernel_rfl) (zac zEO (⟨⟨_,by kernel_rfl,zNC⟩,⟨⟨_,by kernel_rfl,zNB⟩,trivial⟩⟩))
def zK9:Sig:=⟨[(false,[.lp 63 0])],[(63,.box [.d (.sl .byte),.d (.int .i64),.d (.int .i64)])],true,[(true,[.d (.bool),.d (.sl .sta)]),(false,[.d (.sl .obs)])],[(63,.box [.d (.sl .byte),.d (.int .i64),.d (.int .i64)])]⟩
def zJO:Con:=⟨zK9,Net × List Obs × Cur,fun x=>zhK (⟨x.1,x.2.1,x.2.2.1⟩:Cur),fun r=>(r.1.plane,r.1.stations,r.2.1,r.2.2.b,r.2.2.i,r.2.2.h,())⟩
def zzp:Code:=Tryz.f56.body.getD .skip
def zQX:Env:=⟨zbQ,[(102,zOY),(104,zGS),(103,zJ8),(105,zJT),(106,zJR),(107,zJP)],[],[(3,[(0,[]),(1,[]),(2,[]),(3,[1,2]),(4,[0,3,1,2]),(5,[3,4,0,1,2])]),(5,[(0,[]),(1,[]),(2,[]),(3,[1,2]),(4,[0,3,1,2]),(5,[3,4,0,1,2])])]⟩
theorem zI1:zak Tryz.prog FX zQX.cons:=zaa zSd (zab Tryz.func102 (by kernel_rfl)) (zaa zLY (zab Tryz.func104 (by kernel_rfl)) (zaa zSn (zab Tryz.func103 (by kernel_rfl)) (zaa zR7 (zab Tryz.func105 (by kernel_rfl)) (zaa zR5 (zab Tryz.func106 (by kernel_rfl)) (zaa zR3 (zab Tryz.func107 (by kernel_rfl)) (zae))))))
theorem zEN:zad zzp=[]:=by kernel_rfl
theorem zR2:zax Tryz.prog FX 56 zJO:=zai (E:=zQX) (code:=zzp) mix zaf zI1 Tryz.func56 (by kernel_rfl) zK9 (by kernel_rfl) (fun y=>((⟨y.1,y.2.1⟩:Net),y.2.2.1,(⟨y.2.2.2.1,y.2.2.2.2.1,y.2.2.2.2.2.1⟩:Cur))) zJO.out (fun _=>rfl) zJO.run (fun x=>by kernel_rfl) (by kernel_rfl) (zac zEN (trivial))
def zK8:Sig:=⟨[(false,[.d (.sl .byte)])],[],true,[(true,[.d (.bool),.d (.sl .sta)]),(false,[.d (.sl .obs)])],[]⟩
def zJN:Con:=⟨zK8,Net × List Obs,fun x=>zfI x.1,fun r=>(r.1.plane,r.1.stations,r.2,())⟩
def zzo:Code:=Tryz.f17.body.getD .skip
def zQW:Env:=⟨zbQ,[(57,zRv),(56,zJO)],[],[]⟩
theorem zI0:zak Tryz.prog FX zQW.cons:=zaa zSP (zab Tryz.func57 (by kernel_rfl)) (zaa zR2 (zab Tryz.func56 (by kernel_rfl)) (zae))
theorem zEM:zad zzo=[]:=by kernel_rfl
theorem zR1:zax Tryz.prog FX 17 zJN:=zai (E:=zQW) (code:=zzo) mix zaf zI0 Tryz.func17 (by kernel_rfl) zK8 (by kernel_rfl) (fun y=>((⟨y.1,y.2.1⟩:Net),y.2.2.1)) zJN.out (fun _=>rfl) zJN.run (fun x=>by kernel_rfl) (by kernel_rfl) (zac zEM (trivial))
def zK7:Sig:=⟨[(false,[.d (.str)])],[],false,[(false,[.d (.bool)])],[]⟩
def zJM:Con:=⟨zK7,Bool,fun x=>zgS x.1,fun r=>(r,())⟩
def zsf:Code:=Tryz.f156.body.getD .skip
def zkD:Code:=(zad zsf).getD 0 .skip
def zm6:LoopD:=⟨⟨zaj [(0,false,[.d (.str)]),(3,false,[.d (.int .i64)])] 50 0,[]⟩,[],[(.ret,⟨zaj [(2,false,[.d (.bool)])] 50 0,[]⟩,[]),(.exit 0,⟨zaj [] 50 0,[]⟩,[])]⟩
def zu7 (x:Tys zm6.head.ks):Option (zd2 zm6.outs):=@whileO (ByteArray × Int × Unit) ((Bool × Unit) ⊕ (Unit)) zdw x
def zOH:Env:=⟨zbQ,[],[(4,zbO zm6 zu7)],[]⟩
theorem zyK:zak Tryz.prog FX zOH.cons:=zae
theorem zCh (x:Tys zm6.head.ks):stepL zOH zm6 zkD x=zdw x:=by kernel_rfl
theorem zwj:zad zkD=[]:=by kernel_rfl
theorem zNA:zaR Tryz.prog FX (zbO zm6 zu7) zkD:=zau mix zaf zyK (by kernel_rfl) (zac zwj (trivial)) zCh fun _ _ h=>h
theorem zEL:zad zsf=[zkD]:=by kernel_rfl
theorem zR0:zax Tryz.prog FX 156 zJM:=zai (E:=zOH) (code:=zsf) mix zaf zyK Tryz.func156 (by kernel_rfl) zK7 (by kernel_rfl) (fun y=>y.1) zJM.out (fun _=>rfl) zJM.run (fun x=>by kernel_rfl) (by kernel_rfl) (zac zEL (⟨⟨_,by kernel_rfl,zNA⟩,trivial⟩))
def zK6:Sig:=⟨[(false,[.d (.sl .int)])],[],false,[(false,[.d (.bool)])],[]⟩
def zGO:Con:=⟨zK6,Bool,fun x=>zgv x.1,fun r=>(r,())⟩
def zse:Code:=Tryz.f142.body.getD .skip
def zkC:Code:=(zad zse).getD 0 .skip
def zm5:LoopD:=⟨⟨zaj [(22,false,[.d (.sl .int)]),(23,false,[.d (.int .i64)]),(24,false,[.d (.int .i64)])] 35 0,[]⟩,[],[(.ret,⟨zaj [(2,false,[.d (.bool)])] 35 0,[]⟩,[]),(.exit 0,⟨zaj [] 35 0,[]⟩,[])]⟩
def zu6 (x:Tys zm5.head.ks):Option (zd2 zm5.outs):=@whileO ((List Int) × Int × Int × Unit) ((Bool × Unit) ⊕ (Unit)) zd1 x
def zOG:Env:=⟨zbQ,[],[(4,zbO zm5 zu6)],[]⟩
theorem zyJ:zak Tryz.prog FX zOG.cons:=zae
theorem zCg (x:Tys zm5.head.ks):stepL zOG zm5 zkC x=zd1 x:=by kernel_rfl
theorem zwi:zad zkC=[]:=by kernel_rfl
theorem zNz:zaR Tryz.prog FX (zbO zm5 zu6) zkC:=zau mix zaf zyJ (by kernel_rfl) (zac zwi (trivial)) zCg fun _ _ h=>h
theorem zEK:zad zse=[zkC]:=by kernel_rfl
theorem zPB:zax Tryz.prog FX 142 zGO:=zai (E:=zOG) (code:=zse) mix zaf zyJ Tryz.func142 (by kernel_rfl) zK6 (by kernel_rfl) (fun y=>y.1) zGO.out (fun _=>rfl) zGO.run (fun x=>by kernel_rfl) (by kernel_rfl) (zac zEK (⟨⟨_,by kernel_rfl,zNz⟩,trivial⟩))
def zK5:Sig:=⟨[(true,[.d (.bool),.d (.sl .int)])],[],false,[(false,[.d (.bool)])],[]⟩
def zGN:Con:=⟨zK5,Bool,fun x=>zcR (⟨x.1,x.2.1⟩:Bg),fun r=>(r,())⟩
def zzn:Code:=Tryz.f141.body.getD .skip
def zQV:Env:=⟨zbQ,[(142,zGO)],[],[]⟩
theorem zIZ:zak Tryz.prog FX zQV.cons:=zaa zPB (zab Tryz.func142 (by kernel_rfl)) (zae)
theorem zEJ:zad zzn=[]:=by kernel_rfl
theorem zPA:zax Tryz.prog FX 141 zGN:=zai (E:=zQV) (code:=zzn) mix zaf zIZ Tryz.func141 (by kernel_rfl) zK5 (by kernel_rfl) (fun y=>y.1) zGN.out (fun _=>rfl) zGN.run (fun x=>by kernel_rfl) (by kernel_rfl) (zac zEJ (trivial))
def zK4:Sig:=⟨[(false,[.d (.sl .int)]),(false,[.d (.sl .int)])],[],false,[(false,[.d (.int .i64)])],[]⟩
def zJL:Con:=⟨zK4,Int,fun x=>zeL x.1 x.2.1,fun r=>(r,())⟩
def zsd:Code:=Tryz.f204.body.getD .skip
def zkB:Code:=(zad zsd).getD 0 .skip
def zm4:LoopD:=⟨⟨zaj [(0,false,[.d (.sl .int)]),(1,false,[.d (.sl .int)]),(5,false,[.d (.int .i64)])] 43 0,[]⟩,[],[(.ret,⟨zaj [(4,false,[.d (.int .i64)])] 43 0,[]⟩,[]),(.exit 0,⟨zaj [] 43 0,[]⟩,[])]⟩
def zu5 (x:Tys zm4.head.ks):Option (zd2 zm4.outs):=@whileO ((List Int) × (List Int) × Int × Unit) ((Int × Unit) ⊕ (Unit)) zdu x
def zOF:Env:=⟨zbQ,[],[(6,zbO zm4 zu5)],[(8,[(0,[]),(1,[]),(2,[]),(3,[]),(4,[]),(5,[]),(6,[]),(7,[]),(8,[]),(9,[8,3,7,2,6,0,1,4,5])]),(10,[(0,[]),(1,[]),(2,[]),(3,[]),(4,[]),(5,[]),(6,[]),(7,[]),(8,[]),(9,[8,3,7,2,6,0,1,4,5])])]⟩
theorem zyI:zak Tryz.prog FX zOF.cons:=zae
theorem zCf (x:Tys zm4.head.ks):stepL zOF zm4 zkB x=zdu x:=by kernel_rfl
theorem zwh:zad zkB=[]:=by kernel_rfl
theorem zNy:zaR Tryz.prog FX (zbO zm4 zu5) zkB:=zau mix zaf zyI (by kernel_rfl) (zac zwh (trivial)) zCf fun _ _ h=>h
theorem zEI:zad zsd=[zkB]:=by kernel_rfl
theorem zRZ:zax Tryz.prog FX 204 zJL:=zai (E:=zOF) (code:=zsd) mix zaf zyI Tryz.func204 (by kernel_rfl) zK4 (by kernel_rfl) (fun y=>y.1) zJL.out (fun _=>rfl) zJL.run (fun x=>by kernel_rfl) (by kernel_rfl) (zac zEI (⟨⟨_,by kernel_rfl,zNy⟩,trivial⟩))
def zK3:Sig:=⟨[(false,[.d (.sl .int)])],[],false,[(false,[.own 0])],[(0,.arr false .int)]⟩
def zBI:Con:=⟨zK3,List Int,fun x=>za3 x.1,fun r=>(r,())⟩
def zzm:Code:=Tryz.f161.body.getD .skip
def zQU:Env:=⟨zbQ,[],[],[]⟩
theorem zIY:zak Tryz.prog FX zQU.cons:=zae
theorem zEH:zad zzm=[]:=by kernel_rfl
theorem zM3:zax Tryz.prog FX 161 zBI:=zai (E:=zQU) (code:=zzm) mix zaf zIY Tryz.func161 (by kernel_rfl) zK3 (by kernel_rfl) (fun y=>y.1) zBI.out (fun _=>rfl) zBI.run (fun x=>by kernel_rfl) (by kernel_rfl) (zac zEH (trivial))
def zK2:Sig:=⟨[(false,[.own 0])],[(0,.arr false .int)],false,[(false,[.own 0])],[(0,.arr false .int)]⟩
def zw5:Con:=⟨zK2,List Int,fun x=>zb8 x.1,fun r=>(r,())⟩
def zsc:Code:=Tryz.f140.body.getD .skip
def zkA:Code:=(zad zsc).getD 0 .skip
def zm3:LoopD:=⟨⟨zaj [(0,false,[.own 1408]),(3,false,[.d (.int .i64)])] 21 0,[(1408,.arr false .int)]⟩,[],[(.exit 0,⟨zaj [(0,false,[.own 1408]),(3,false,[.d (.int .i64)])] 21 0,[(1408,.arr false .int)]⟩,[])]⟩
def zu4 (x:Tys zm3.head.ks):Option (zd2 zm3.outs):=@whileO (Int × (List Int) × Unit) (Int × (List Int) × Unit) zdl x
def zOE:Env:=⟨zbQ,[],[(2,zbO zm3 zu4)],[]⟩
theorem zyH:zak Tryz.prog FX zOE.cons:=zae
theorem zCe (x:Tys zm3.head.ks):stepL zOE zm3 zkA x=zdl x:=by kernel_rfl
theorem zwg:zad zkA=[]:=by kernel_rfl
theorem zNx:zaR Tryz.prog FX (zbO zm3 zu4) zkA:=zau mix zaf zyH (by kernel_rfl) (zac zwg (trivial)) zCe fun _ _ h=>h
theorem zEG:zad zsc=[zkA]:=by kernel_rfl
theorem zHU:zax Tryz.prog FX 140 zw5:=zai (E:=zOE) (code:=zsc) mix zaf zyH Tryz.func140 (by kernel_rfl) zK2 (by kernel_rfl) (fun y=>y.1) zw5.out (fun _=>rfl) zw5.run (fun x=>by kernel_rfl) (by kernel_rfl) (zac zEG (⟨⟨_,by kernel_rfl,zNx⟩,trivial⟩))
def zK1:Sig:=⟨[(false,[.d (.int .i64)])],[],false,[(false,[.own 0])],[(0,.arr false .int)]⟩
def zGM:Con:=⟨zK1,List Int,fun x=>zeu x.1,fun r=>(r,())⟩
def zsb:Code:=Tryz.f229.body.getD .skip
def zkz:Code:=(zad zsb).getD 0 .skip
def zm2:LoopD:=⟨⟨zaj [(0,false,[.d (.int .i64)]),(3,false,[.own 960])] 14 0,[(960,.arr false .int)]⟩,[(.slot 3 0,960,.int)],[(.exit 0,⟨zaj [(3,false,[.own 960])] 14 0,[(960,.arr false .int)]⟩,[(.slot 3 0,960,.int)])]⟩
def zu3 (x:Tys zm2.head.ks):Option (zd2 zm2.outs):=@whileO (Int × (List Int) × Unit) ((List Int) × Unit) zhI x
def zOD:Env:=⟨zbQ,[],[(2,zbO zm2 zu3)],[]⟩
theorem zyG:zak Tryz.prog FX zOD.cons:=zae
theorem zCd (x:Tys zm2.head.ks):stepL zOD zm2 zkz x=zhI x:=by kernel_rfl
theorem zwf:zad zkz=[]:=by kernel_rfl
theorem zNw:zaR Tryz.prog FX (zbO zm2 zu3) zkz:=zau mix zaf zyG (by kernel_rfl) (zac zwf (trivial)) zCd fun _ _ h=>h
theorem zEF:zad zsb=[zkz]:=by kernel_rfl
theorem zPz:zax Tryz.prog FX 229 zGM:=zai (E:=zOD) (code:=zsb) mix zaf zyG Tryz.func229 (by kernel_rfl) zK1 (by kernel_rfl) (fun y=>y.1) zGM.out (fun _=>rfl) zGM.run (fun x=>by kernel_rfl) (by kernel_rfl) (zac zEF (⟨⟨_,by kernel_rfl,zNw⟩,trivial⟩))
def zKZ:Sig:=⟨[(false,[.d (.sl .int)]),(false,[.d (.int .i64)])],[],true,[(false,[.own 0]),(false,[.own 1])],[(0,.arr false .int),(1,.arr false .int)]⟩
def zJK:Con:=⟨zKZ,List Int × List Int,fun x=>zes x.1 x.2.1,fun r=>(r.1,r.2,())⟩
def zsa:Code:=Tryz.f205.body.getD .skip
def zky:Code:=(zad zsa).getD 0 .skip
def zm1:LoopD:=⟨⟨zaj [(0,false,[.d (.sl .int)]),(1,false,[.d (.int .i64)]),(6,false,[.own 2624]),(7,false,[.d (.int .i64)]),(8,false,[.d (.int .i64)])] 40 0,[(2624,.arr false .int)]⟩,[],[(.exit 0,⟨zaj [(6,false,[.own 2624]),(7,false,[.d (.int .i64)])] 40 0,[(2624,.arr false .int)]⟩,[])]⟩
def zu1 (x:Tys zm1.head.ks):Option (zd2 zm1.outs):=@whileO ((List Int) × Int × Int × Int × (List Int) × Unit) (Int × (List Int) × Unit) zdv x
def zOC:Env:=⟨zbQ,[(140,zw5),(229,zGM)],[(4,zbO zm1 zu1)],[]⟩
theorem zyF:zak Tryz.prog FX zOC.cons:=zaa zHU (zab Tryz.func140 (by kernel_rfl)) (zaa zPz (zab Tryz.func229 (by kernel_rfl)) (zae))
theorem zCc (x:Tys zm1.head.ks):stepL zOC zm1 zky x=zdv x:=by kernel_rfl
theorem zwe:zad zky=[]:=by kernel_rfl
theorem zNv:zaR Tryz.prog FX (zbO zm1 zu1) zky:=zau mix zaf zyF (by kernel_rfl) (zac zwe (trivial)) zCc fun _ _ h=>h
theorem zEE:zad zsa=[zky]:=by kernel_rfl
theorem zRX:zax Tryz.prog FX 205 zJK:=zai (E:=zOC) (code:=zsa) mix zaf zyF Tryz.func205 (by kernel_rfl) zKZ (by kernel_rfl) (fun y=>(y.1,y.2.1)) zJK.out (fun _=>rfl) zJK.run (fun x=>by kernel_rfl) (by kernel_rfl) (zac zEE (⟨⟨_,by kernel_rfl,zNv⟩,trivial⟩))
def zKY:Sig:=⟨[(false,[.d (.sl .int)]),(false,[.d (.sl .int)])],[],false,[(false,[.own 0])],[(0,.arr false .int)]⟩
def zJJ:Con:=⟨zKY,List Int,fun x=>zbL x.1 x.2.1,fun r=>(r,())⟩
def zr9:Code:=Tryz.f206.body.getD .skip
def zh9:Code:=(zad zr9).getD 0 .skip
def zkx:Code:=(zad zh9).getD 0 .skip
def zm0:LoopD:=⟨⟨zaj [(1,false,[.d (.sl .int)]),(5,false,[.own 4352]),(18,false,[.d (.sl .int)]),(19,false,[.d (.int .i64)]),(20,false,[.d (.int .i64)])] 67 0,[(4352,.arr false .int)]⟩,[],[(.exit 0,⟨zaj [(5,false,[.own 4352])] 67 0,[(4352,.arr false .int)]⟩,[])]⟩
def zmZ:LoopD:=⟨⟨zaj [(1,false,[.d (.sl .int)]),(5,false,[.own 4352]),(6,false,[.d (.int .i64)]),(7,false,[.d (.int .i64)]),(8,false,[.d (.int .i64)]),(18,false,[.d (.sl .int)]),(19,false,[.d (.int .i64)]),(20,false,[.d (.int .i64)]),(25,false,[.d (.sl .int)]),(26,false,[.d (.int .i64)]),(27,false,[.d (.int .i64)])] 67 0,[(4352,.arr false .int)]⟩,[],[(.exit 2,⟨zaj [(1,false,[.d (.sl .int)]),(5,false,[.own 4352]),(6,false,[.d (.int .i64)]),(8,false,[.d (.int .i64)]),(18,false,[.d (.sl .int)]),(19,false,[.d (.int .i64)]),(20,false,[.d (.int .i64)])] 67 0,[(4352,.arr false .int)]⟩,[])]⟩
def zu0 (x:Tys zm0.head.ks):Option (zd2 zm0.outs):=@whileO ((List Int) × (List Int) × Int × Int × (List Int) × Unit) ((List Int) × Unit) zdn x
def zuZ (x:Tys zmZ.head.ks):Option (zd2 zmZ.outs):=@whileO ((List Int) × Int × Int × Int × (List Int) × Int × Int × (List Int) × Int × Int × (List Int) × Unit) ((List Int) × Int × Int × (List Int) × Int × Int × (List Int) × Unit) zfx x
def zKl:Env:=⟨zbQ,[(140,zw5)],[(3,zbO zm0 zu0),(7,zbO zmZ zuZ)],[]⟩
theorem zrY:zak Tryz.prog FX zKl.cons:=zaa zHU (zab Tryz.func140 (by kernel_rfl)) (zae)
theorem zCa (x:Tys zmZ.head.ks):stepL zKl zmZ zkx x=zfx x:=by kernel_rfl
theorem zwc:zad zkx=[]:=by kernel_rfl
theorem zNt:zaR Tryz.prog FX (zbO zmZ zuZ) zkx:=zau mix zaf zrY (by kernel_rfl) (zac zwc (trivial)) zCa fun _ _ h=>h
theorem zCb (x:Tys zm0.head.ks):stepL zKl zm0 zh9 x=zdn x:=by kernel_rfl
theorem zwd:zad zh9=[zkx]:=by kernel_rfl
theorem zNu:zaR Tryz.prog FX (zbO zm0 zu0) zh9:=zau mix zaf zrY (by kernel_rfl) (zac zwd (⟨⟨_,by kernel_rfl,zNt⟩,trivial⟩)) zCb fun _ _ h=>h
theorem zED:zad zr9=[zh9]:=by kernel_rfl
theorem zRW:zax Tryz.prog FX 206 zJJ:=zai (E:=zKl) (code:=zr9) mix zaf zrY Tryz.func206 (by kernel_rfl) zKY (by kernel_rfl) (fun y=>y.1) zJJ.out (fun _=>rfl) zJJ.run (fun x=>by kernel_rfl) (by kernel_rfl) (zac zED (⟨⟨_,by kernel_rfl,zNu⟩,trivial⟩))
def zKX:Sig:=⟨[(false,[.d (.sl .int)]),(false,[.d (.sl .int)])],[],true,[(false,[.own 0]),(false,[.own 1])],[(0,.arr false .int),(1,.arr false .int)]⟩
def zGL:Con:=⟨zKX,List Int × List Int,fun x=>zba x.1 x.2.1,fun r=>(r.1,r.2,())⟩
def zoc:Code:=Tryz.f174.body.getD .skip
def zkw:Code:=(zad zoc).getD 0 .skip
def zf3:Code:=(zad zoc).getD 1 .skip
def zkv:Code:=(zad zf3).getD 0 .skip
def zku:Code:=(zad zf3).getD 1 .skip
def zkt:Code:=(zad zf3).getD 2 .skip
def zmY:LoopD:=⟨⟨zaj [(0,false,[.d (.sl .int)]),(6,false,[.d (.int .i64)]),(7,false,[.own 15360]),(8,false,[.own 15424]),(9,false,[.d (.int .i64)])] 239 0,[(15360,.arr false .int),(15424,.arr false .int)]⟩,[],[(.exit 0,⟨zaj [(6,false,[.d (.int .i64)]),(7,false,[.own 15360]),(8,false,[.own 15424]),(9,false,[.d (.int .i64)])] 239 0,[(15360,.arr false .int),(15424,.arr false .int)]⟩,[])]⟩
def zmX:LoopD:=⟨⟨zaj [(6,false,[.d (.int .i64)]),(7,false,[.own 15360]),(8,false,[.own 15424]),(9,false,[.d (.int .i64)]),(10,false,[.own 15488]),(11,false,[.d (.int .i64)]),(12,false,[.d (.int .i64)])] 239 0,[(15360,.arr false .int),(15424,.arr false .int),(15488,.arr false .int)]⟩,[],[(.exit 2,⟨zaj [(6,false,[.d (.int .i64)]),(7,false,[.own 15360]),(10,false,[.own 15488])] 239 0,[(15360,.arr false .int),(15488,.arr false .int)]⟩,[])]⟩
def zmW:LoopD:=⟨⟨zaj [(6,false,[.d (.int .i64)]),(7,false,[.own 15360]),(8,false,[.own 15424]),(9,false,[.d (.int .i64)]),(10,false,[.own 15488]),(11,false,[.d (.int .i64)]),(12,false,[.d (.int .i64)]),(14,false,[.d (.int .i64)]),(15,false,[.d (.int .i64)])] 239 0,[(15360,.arr false .int),(15424,.arr false .int),(15488,.arr false .int)]⟩,[],[(.exit 4,⟨zaj [(6,false,[.d (.int .i64)]),(7,false,[.own 15360]),(8,false,[.own 15424]),(9,false,[.d (.int .i64)]),(10,false,[.own 15488]),(11,false,[.d (.int .i64)]),(12,false,[.d (.int .i64)]),(14,false,[.d (.int .i64)])] 239 0,[(15360,.arr false .int),(15424,.arr false .int),(15488,.arr false .int)]⟩,[])]⟩
def zmV:LoopD:=⟨⟨zaj [(6,false,[.d (.int .i64)]),(7,false,[.own 15360]),(8,false,[.own 15424]),(9,false,[.d (.int .i64)]),(10,false,[.own 15488]),(11,false,[.d (.int .i64)]),(12,false,[.d (.int .i64)]),(14,false,[.d (.int .i64)]),(16,false,[.d (.int .i64)]),(135,false,[.d (.int .i64)]),(136,false,[.d (.int .i64)])] 239 0,[(15360,.arr false .int),(15424,.arr false .int),(15488,.arr false .int)]⟩,[],[(.exit 6,⟨zaj [(6,false,[.d (.int .i64)]),(7,false,[.own 15360]),(8,false,[.own 15424]),(9,false,[.d (.int .i64)]),(10,false,[.own 15488]),(11,false,[.d (.int .i64)]),(12,false,[.d (.int .i64)]),(14,false,[.d (.int .i64)]),(16,false,[.d (.int .i64)])] 239 0,[(15360,.arr false .int),(15424,.arr false .int),(15488,.arr false .int)]⟩,[])]⟩
def zmU:LoopD:=⟨⟨zaj [(6,false,[.d (.int .i64)]),(7,false,[.own 15360]),(8,false,[.own 15424]),(9,false,[.d (.int .i64)]),(10,false,[.own 15488]),(11,false,[.d (.int .i64)]),(12,false,[.d (.int .i64)]),(14,false,[.d (.int .i64)]),(19,false,[.d (.int .i64)]),(188,false,[.d (.int .i64)]),(189,false,[.d (.int .i64)])] 239 0,[(15360,.arr false .int),(15424,.arr false .int),(15488,.arr false .int)]⟩,[],[(.exit 8,⟨zaj [(6,false,[.d (.int .i64)]),(7,false,[.own 15360]),(8,false,[.own 15424]),(9,false,[.d (.int .i64)]),(10,false,[.own 15488]),(11,false,[.d (.int .i64)]),(12,false,[.d (.int .i64)]),(14,false,[.d (.int .i64)]),(19,false,[.d (.int .i64)])] 239 0,[(15360,.arr false .int),(15424,.arr false .int),(15488,.arr false .int)]⟩,[])]⟩
def zuY (x:Tys zmY.head.ks):Option (zd2 zmY.outs):=@whileO ((List Int) × Int × Int × (List Int) × (List Int) × Unit) (Int × Int × (List Int) × (List Int) × Unit) zds x
def zuX (x:Tys zmX.head.ks):Option (zd2 zmX.outs):=@whileO (Int × Int × Int × Int × (List Int) × (List Int) × (List Int) × Unit) (Int × (List Int) × (List Int) × Unit) zcO x
def zuW (x:Tys zmW.head.ks):Option (zd2 zmW.outs):=@whileO (Int × Int × Int × Int × Int × Int × (List Int) × (List Int) × (List Int) × Unit) (Int × Int × Int × Int × Int × (List Int) × (List Int) × (List Int) × Unit) zdr x
def zuV (x:Tys zmV.head.ks):Option (zd2 zmV.outs):=@whileO (Int × Int × Int × Int × Int × Int × Int × Int × (List Int) × (List Int) × (List Int) × Unit) (Int × Int × Int × Int × Int × Int × (List Int) × (List Int) × (List Int) × Unit) zdq x
def zuU (x:Tys zmU.head.ks):Option (zd2 zmU.outs):=@whileO (Int × Int × Int × Int × Int × Int × Int × Int × (List Int) × (List Int) × (List Int) × Unit) (Int × Int × Int × Int × Int × Int × (List Int) × (List Int) × (List Int) × Unit) zdp x
def zxq:Env:=⟨zbQ,[(204,zJL),(161,zBI),(205,zJK),(206,zJJ),(140,zw5)],[(9,zbO zmY zuY),(14,zbO zmX zuX),(18,zbO zmW zuW),(24,zbO zmV zuV),(38,zbO zmU zuU)],[(16,[(0,[]),(1,[]),(2,[]),(3,[]),(4,[]),(5,[]),(6,[]),(7,[]),(8,[]),(9,[]),(10,[]),(11,[]),(12,[]),(13,[]),(14,[]),(15,[14,0,1,2,3,4,5,6,7,8,9,10,11,12,13])]),(17,[(0,[]),(1,[]),(2,[]),(3,[]),(4,[]),(5,[]),(6,[2,0,1]),(7,[5,6,0,1,2,3,4])]),(18,[(0,[]),(1,[]),(2,[]),(3,[]),(4,[]),(5,[]),(6,[]),(7,[]),(8,[]),(9,[]),(10,[]),(11,[]),(12,[]),(13,[]),(14,[]),(15,[]),(16,[]),(17,[]),(18,[]),(19,[]),(20,[]),(21,[])]),(26,[(0,[]),(1,[]),(2,[]),(3,[]),(4,[]),(5,[]),(6,[]),(7,[]),(8,[]),(9,[]),(10,[]),(11,[]),(12,[]),(13,[]),(14,[]),(15,[14,0,1,2,3,4,5,6,7,8,9,10,11,12,13])]),(40,[(0,[]),(1,[]),(2,[]),(3,[]),(4,[]),(5,[]),(6,[]),(7,[]),(8,[]),(9,[]),(10,[]),(11,[]),(12,[]),(13,[12,0,1,2,3,4,5,6,7,8,9,10,11])])]⟩
theorem zkh:zak Tryz.prog FX zxq.cons:=zaa zRZ (zab Tryz.func204 (by kernel_rfl)) (zaa zM3 (zab Tryz.func161 (by kernel_rfl)) (zaa zRX (zab Tryz.func205 (by kernel_rfl)) (zaa zRW (zab Tryz.func206 (by kernel_rfl)) (zaa zHU (zab Tryz.func140 (by kernel_rfl)) (zae)))))
theorem zB5 (x:Tys zmU.head.ks):stepL zxq zmU zkt x=zdp x:=by kernel_rfl
theorem zv7:zad zkt=[]:=by kernel_rfl
theorem zNo:zaR Tryz.prog FX (zbO zmU zuU) zkt:=zau mix zaf zkh (by kernel_rfl) (zac zv7 (trivial)) zB5 fun _ _ h=>h
theorem zB6 (x:Tys zmV.head.ks):stepL zxq zmV zku x=zdq x:=by kernel_rfl
theorem zv8:zad zku=[]:=by kernel_rfl
theorem zNp:zaR Tryz.prog FX (zbO zmV zuV) zku:=zau mix zaf zkh (by kernel_rfl) (zac zv8 (trivial)) zB6 fun _ _ h=>h
theorem zB7 (x:Tys zmW.head.ks):stepL zxq zmW zkv x=zdr x:=by kernel_rfl
theorem zv9:zad zkv=[]:=by kernel_rfl
theorem zNq:zaR Tryz.prog FX (zbO zmW zuW) zkv:=zau mix zaf zkh (by kernel_rfl) (zac zv9 (trivial)) zB7 fun _ _ h=>h
theorem zB8 (x:Tys zmX.head.ks):stepL zxq zmX zf3 x=zcO x:=by kernel_rfl
theorem zwa:zad zf3=[zkv,zku,zkt]:=by kernel_rfl
theorem zNr:zaR Tryz.prog FX (zbO zmX zuX) zf3:=zau mix zaf zkh (by kernel_rfl) (zac zwa (⟨⟨_,by kernel_rfl,zNq⟩,⟨⟨_,by kernel_rfl,zNp⟩,⟨⟨_,by kernel_rfl,zNo⟩,trivial⟩⟩⟩)) zB8 fun _ _ h=>h
theorem zB9 (x:Tys zmY.head.ks):stepL zxq zmY zkw x=zds x:=by kernel_rfl
theorem zwb:zad zkw=[]:=by kernel_rfl
theorem zNs:zaR Tryz.prog FX (zbO zmY zuY) zkw:=zau mix zaf zkh (by kernel_rfl) (zac zwb (trivial)) zB9 fun _ _ h=>h
theorem zEC:zad zoc=[zkw,zf3]:=by kernel_rfl
theorem zPy:zax Tryz.prog FX 174 zGL:=zai (E:=zxq) (code:=zoc) mix zaf zkh Tryz.func174 (by kernel_rfl) zKX (by kernel_rfl) (fun y=>(y.1,y.2.1)) zGL.out (fun _=>rfl) zGL.run (fun x=>by kernel_rfl) (by kernel_rfl) (zac zEC (⟨⟨_,by kernel_rfl,zNs⟩,⟨⟨_,by kernel_rfl,zNr⟩,trivial⟩⟩))
def zKW:Sig:=⟨[(false,[.d (.sl .int)]),(false,[.d (.sl .int)])],[],false,[(false,[.own 0])],[(0,.arr false .int)]⟩
def zGK:Con:=⟨zKW,List Int,fun x=>zeK x.1 x.2.1,fun r=>(r,())⟩
def zob:Code:=Tryz.f143.body.getD .skip
def zks:Code:=(zad zob).getD 0 .skip
def zkr:Code:=(zad zob).getD 1 .skip
def zmT:LoopD:=⟨⟨zaj [(0,false,[.d (.sl .int)]),(1,false,[.d (.sl .int)])] 49 0,[]⟩,[],[(.exit 0,⟨zaj [(0,false,[.d (.sl .int)]),(1,false,[.d (.sl .int)])] 49 0,[]⟩,[])]⟩
def zmS:LoopD:=⟨⟨zaj [(7,false,[.d (.int .i64)]),(8,false,[.d (.int .i64)])] 49 0,[]⟩,[],[(.exit 2,⟨zaj [(7,false,[.d (.int .i64)])] 49 0,[]⟩,[])]⟩
def zuT (x:Tys zmT.head.ks):Option (zd2 zmT.outs):=@whileO ((List Int) × (List Int) × Unit) ((List Int) × (List Int) × Unit) zcd x
def zuS (x:Tys zmS.head.ks):Option (zd2 zmS.outs):=@whileO (Int × Int × Unit) (Int × Unit) zdo x
def zKk:Env:=⟨zbQ,[(174,zGL),(161,zBI)],[(1,zbO zmT zuT),(7,zbO zmS zuS)],[(6,[(0,[]),(1,[]),(2,[]),(3,[]),(4,[]),(5,[]),(6,[2,0,1]),(7,[5,6,0,1,2,3,4])]),(8,[(0,[]),(1,[]),(2,[]),(3,[]),(4,[0,1]),(5,[3,4,0,1,2])])]⟩
theorem zrX:zak Tryz.prog FX zKk.cons:=zaa zPy (zab Tryz.func174 (by kernel_rfl)) (zaa zM3 (zab Tryz.func161 (by kernel_rfl)) (zae))
theorem zB3 (x:Tys zmS.head.ks):stepL zKk zmS zkr x=zdo x:=by kernel_rfl
theorem zv5:zad zkr=[]:=by kernel_rfl
theorem zNm:zaR Tryz.prog FX (zbO zmS zuS) zkr:=zau mix zaf zrX (by kernel_rfl) (zac zv5 (trivial)) zB3 fun _ _ h=>h
theorem zB4 (x:Tys zmT.head.ks):stepL zKk zmT zks x=zcd x:=by kernel_rfl
theorem zv6:zad zks=[]:=by kernel_rfl
theorem zNn:zaR Tryz.prog FX (zbO zmT zuT) zks:=zau mix zaf zrX (by kernel_rfl) (zac zv6 (trivial)) zB4 fun _ _ h=>h
theorem zEB:zad zob=[zks,zkr]:=by kernel_rfl
theorem zPx:zax Tryz.prog FX 143 zGK:=zai (E:=zKk) (code:=zob) mix zaf zrX Tryz.func143 (by kernel_rfl) zKW (by kernel_rfl) (fun y=>y.1) zGK.out (fun _=>rfl) zGK.run (fun x=>by kernel_rfl) (by kernel_rfl) (zac zEB (⟨⟨_,by kernel_rfl,zNn⟩,⟨⟨_,by kernel_rfl,zNm⟩,trivial⟩⟩))
def zKV:Sig:=⟨[(false,[.d (.sl .int)])],[],false,[(false,[.d (.bool)])],[]⟩
def zBH:Con:=⟨zKV,Bool,fun x=>zdH x.1,fun r=>(r,())⟩
def zzl:Code:=Tryz.f110.body.getD .skip
def zQT:Env:=⟨zbQ,[],[],[]⟩
theorem zIX:zak Tryz.prog FX zQT.cons:=zae
theorem zEA:zad zzl=[]:=by kernel_rfl
theorem zM2:zax Tryz.prog FX 110 zBH:=zai (E:=zQT) (code:=zzl) mix zaf zIX Tryz.func110 (by kernel_rfl) zKV (by kernel_rfl) (fun y=>y.1) zBH.out (fun _=>rfl) zBH.run (fun x=>by kernel_rfl) (by kernel_rfl) (zac zEA (trivial))
def zKU:Sig:=⟨[(true,[.d (.bool),.d (.sl .int),.d (.sl .int)])],[],false,[(false,[.d (.bool)])],[]⟩
def zBG:Con:=⟨zKU,Bool,fun x=>zaI (⟨x.1,x.2.1,x.2.2.1⟩:Rt),fun r=>(r,())⟩
def zzk:Code:=Tryz.f93.body.getD .skip
def zQS:Env:=⟨zbQ,[(141,zGN),(142,zGO),(143,zGK),(110,zBH)],[],[]⟩
theorem zIW:zak Tryz.prog FX zQS.cons:=zaa zPA (zab Tryz.func141 (by kernel_rfl)) (zaa zPB (zab Tryz.func142 (by kernel_rfl)) (zaa zPx (zab Tryz.func143 (by kernel_rfl)) (zaa zM2 (zab Tryz.func110 (by kernel_rfl)) (zae))))
theorem zEz:zad zzk=[]:=by kernel_rfl
theorem zM1:zax Tryz.prog FX 93 zBG:=zai (E:=zQS) (code:=zzk) mix zaf zIW Tryz.func93 (by kernel_rfl) zKU (by kernel_rfl) (fun y=>y.1) zBG.out (fun _=>rfl) zBG.run (fun x=>by kernel_rfl) (by kernel_rfl) (zac zEz (trivial))
def zKT:Sig:=⟨[(true,[.d (.bool),.d (.sl .int),.d (.sl .int)])],[],false,[(false,[.d (.bool)])],[]⟩
def zJI:Con:=⟨zKT,Bool,fun x=>zfK (⟨x.1,x.2.1,x.2.2.1⟩:Rt),fun r=>(r,())⟩
def zzj:Code:=Tryz.f157.body.getD .skip
def zQR:Env:=⟨zbQ,[],[],[]⟩
theorem zIV:zak Tryz.prog FX zQR.cons:=zae
theorem zEy:zad zzj=[]:=by kernel_rfl
theorem zRV:zax Tryz.prog FX 157 zJI:=zai (E:=zQR) (code:=zzj) mix zaf zIV Tryz.func157 (by kernel_rfl) zKT (by kernel_rfl) (fun y=>y.1) zJI.out (fun _=>rfl) zJI.run (fun x=>by kernel_rfl) (by kernel_rfl) (zac zEy (trivial))
def zKS:Sig:=⟨[(true,[.d (.str),.d (.bool),.d (.sl .int),.d (.sl .int),.d (.bool),.d (.sl .int),.d (.sl .int),.d (.bool)]),(false,[.d (.bool)])],[],false,[(false,[.d (.bool)])],[]⟩
def zJH:Con:=⟨zKS,Bool,fun x=>ze2 (⟨x.1,(⟨x.2.1,x.2.2.1,x.2.2.2.1⟩:Rt),(⟨x.2.2.2.2.1,x.2.2.2.2.2.1,x.2.2.2.2.2.2.1⟩:Rt),x.2.2.2.2.2.2.2.1⟩:Sta) x.2.2.2.2.2.2.2.2.1,fun r=>(r,())⟩
def zzi:Code:=Tryz.f114.body.getD .skip
def zQQ:Env:=⟨zbQ,[(156,zJM),(93,zBG),(157,zJI)],[],[]⟩
theorem zIU:zak Tryz.prog FX zQQ.cons:=zaa zR0 (zab Tryz.func156 (by kernel_rfl)) (zaa zM1 (zab Tryz.func93 (by kernel_rfl)) (zaa zRV (zab Tryz.func157 (by kernel_rfl)) (zae)))
theorem zEx:zad zzi=[]:=by kernel_rfl
theorem zRU:zax Tryz.prog FX 114 zJH:=zai (E:=zQQ) (code:=zzi) mix zaf zIU Tryz.func114 (by kernel_rfl) zKS (by kernel_rfl) (fun y=>y.1) zJH.out (fun _=>rfl) zJH.run (fun x=>by kernel_rfl) (by kernel_rfl) (zac zEx (trivial))
def zKR:Sig:=⟨[(true,[.d (.bool),.d (.sl .sta)]),(false,[.d (.str)])],[],false,[(false,[.d (.int .i64)])],[]⟩
def zGJ:Con:=⟨zKR,Int,fun x=>za4 (⟨x.1,x.2.1⟩:Net) x.2.2.1,fun r=>(r,())⟩
def zr8:Code:=Tryz.f48.body.getD .skip
def zkq:Code:=(zad zr8).getD 0 .skip
def zmR:LoopD:=⟨⟨zaj [(1,false,[.d (.str)]),(8,false,[.d (.sl .sta)]),(9,false,[.d (.int .i64)]),(10,false,[.d (.int .i64)])] 21 0,[]⟩,[],[(.ret,⟨zaj [(4,false,[.d (.int .i64)])] 21 0,[]⟩,[]),(.exit 0,⟨zaj [] 21 0,[]⟩,[])]⟩
def zuR (x:Tys zmR.head.ks):Option (zd2 zmR.outs):=@whileO (ByteArray × (List Sta) × Int × Int × Unit) ((Int × Unit) ⊕ (Unit)) zbP x
def zOB:Env:=⟨zbQ,[],[(2,zbO zmR zuR)],[]⟩
theorem zyE:zak Tryz.prog FX zOB.cons:=zae
theorem zB2 (x:Tys zmR.head.ks):stepL zOB zmR zkq x=zbP x:=by kernel_rfl
theorem zv4:zad zkq=[]:=by kernel_rfl
theorem zNl:zaR Tryz.prog FX (zbO zmR zuR) zkq:=zau mix zaf zyE (by kernel_rfl) (zac zv4 (trivial)) zB2 fun _ _ h=>h
theorem zEw:zad zr8=[zkq]:=by kernel_rfl
theorem zPw:zax Tryz.prog FX 48 zGJ:=zai (E:=zOB) (code:=zr8) mix zaf zyE Tryz.func48 (by kernel_rfl) zKR (by kernel_rfl) (fun y=>y.1) zGJ.out (fun _=>rfl) zGJ.run (fun x=>by kernel_rfl) (by kernel_rfl) (zac zEw (⟨⟨_,by kernel_rfl,zNl⟩,trivial⟩))
def zKQ:Sig:=⟨[(true,[.d (.bool),.d (.sl .sta)])],[],false,[(false,[.d (.bool)])],[]⟩
def zGI:Con:=⟨zKQ,Bool,fun x=>zdZ (⟨x.1,x.2.1⟩:Net),fun r=>(r,())⟩
def zr7:Code:=Tryz.f62.body.getD .skip
def zkp:Code:=(zad zr7).getD 0 .skip
def zmQ:LoopD:=⟨⟨zaj [(1,false,[.lp 64 0]),(10,false,[.d (.sl .sta)]),(11,false,[.d (.int .i64)]),(12,false,[.d (.int .i64)])] 31 0,[(64,.box [.d (.bool),.d (.sl .sta)])]⟩,[],[(.ret,⟨zaj [(2,false,[.d (.bool)])] 31 0,[]⟩,[]),(.exit 0,⟨zaj [] 31 0,[]⟩,[])]⟩
def zuQ (x:Tys zmQ.head.ks):Option (zd2 zmQ.outs):=@whileO ((List Sta) × Int × Int × Bool × (List Sta) × Unit) ((Bool × Unit) ⊕ (Unit)) zcj x
def zOA:Env:=⟨zbQ,[(114,zJH),(48,zGJ)],[(4,zbO zmQ zuQ)],[]⟩
theorem zyD:zak Tryz.prog FX zOA.cons:=zaa zRU (zab Tryz.func114 (by kernel_rfl)) (zaa zPw (zab Tryz.func48 (by kernel_rfl)) (zae))
theorem zB1 (x:Tys zmQ.head.ks):stepL zOA zmQ zkp x=zcj x:=by kernel_rfl
theorem zv3:zad zkp=[]:=by kernel_rfl
theorem zNk:zaR Tryz.prog FX (zbO zmQ zuQ) zkp:=zau mix zaf zyD (by kernel_rfl) (zac zv3 (trivial)) zB1 fun _ _ h=>h
theorem zEv:zad zr7=[zkp]:=by kernel_rfl
theorem zPv:zax Tryz.prog FX 62 zGI:=zai (E:=zOA) (code:=zr7) mix zaf zyD Tryz.func62 (by kernel_rfl) zKQ (by kernel_rfl) (fun y=>y.1) zGI.out (fun _=>rfl) zGI.run (fun x=>by kernel_rfl) (by kernel_rfl) (zac zEv (⟨⟨_,by kernel_rfl,zNk⟩,trivial⟩))
def zKP:Sig:=⟨[(false,[.d (.int .i64)])],[],false,[(false,[.d (.bool)])],[]⟩
def zBF:Con:=⟨zKP,Bool,fun x=>zbT x.1,fun r=>(r,())⟩
def zzh:Code:=Tryz.f46.body.getD .skip
def zQP:Env:=⟨zbQ,[],[],[]⟩
theorem zIT:zak Tryz.prog FX zQP.cons:=zae
theorem zEu:zad zzh=[]:=by kernel_rfl
theorem zM0:zax Tryz.prog FX 46 zBF:=zai (E:=zQP) (code:=zzh) mix zaf zIT Tryz.func46 (by kernel_rfl) zKP (by kernel_rfl) (fun y=>y.1) zBF.out (fun _=>rfl) zBF.run (fun x=>by kernel_rfl) (by kernel_rfl) (zac zEu (trivial))
def zKO:Sig:=⟨[(true,[.d (.bool),.d (.sl .int),.d (.sl .int)])],[],false,[(false,[.d (.int .i64)])],[]⟩
def zJG:Con:=⟨zKO,Int,fun x=>za9 (⟨x.1,x.2.1,x.2.2.1⟩:Rt),fun r=>(r,())⟩
def zzg:Code:=Tryz.f115.body.getD .skip
def zQO:Env:=⟨zbQ,[],[],[]⟩
theorem zIS:zak Tryz.prog FX zQO.cons:=zae
theorem zEt:zad zzg=[]:=by kernel_rfl
theorem zRT:zax Tryz.prog FX 115 zJG:=zai (E:=zQO) (code:=zzg) mix zaf zIS Tryz.func115 (by kernel_rfl) zKO (by kernel_rfl) (fun y=>y.1) zJG.out (fun _=>rfl) zJG.run (fun x=>by kernel_rfl) (by kernel_rfl) (zac zEt (trivial))
def zKN:Sig:=⟨[(true,[.d (.bool),.d (.sl .sta)]),(true,[.d (.int .i64),.d (.int .i64),.d (.int .i64),.d (.bool),.d (.sl .int),.d (.sl .int),.d (.bool),.d (.sl .int),.d (.sl .int)])],[],false,[(false,[.d (.bool)])],[]⟩
def zGH:Con:=⟨zKN,Bool,fun x=>M_impl_observationFits (⟨x.1,x.2.1⟩:Net) (⟨x.2.2.1,x.2.2.2.1,x.2.2.2.2.1,(⟨x.2.2.2.2.2.1,x.2.2.2.2.2.2.1,x.2.2.2.2.2.2.2.1⟩:Rt),(⟨x.2.2.2.2.2.2.2.2.1,x.2.2.2.2.2.2.2.2.2.1,x.2.2.2.2.2.2.2.2.2.2.1⟩:Rt)⟩:Obs),fun r=>(r,())⟩
def zzf:Code:=Tryz.f63.body.getD .skip
def zQN:Env:=⟨zbQ,[(46,zBF),(93,zBG),(115,zJG)],[],[]⟩
theorem zIR:zak Tryz.prog FX zQN.cons:=zaa zM0 (zab Tryz.func46 (by kernel_rfl)) (zaa zM1 (zab Tryz.func93 (by kernel_rfl)) (zaa zRT (zab Tryz.func115 (by kernel_rfl)) (zae)))
theorem zEs:zad zzf=[]:=by kernel_rfl
theorem zPu:zax Tryz.prog FX 63 zGH:=zai (E:=zQN) (code:=zzf) mix zaf zIR Tryz.func63 (by kernel_rfl) zKN (by kernel_rfl) (fun y=>y.1) zGH.out (fun _=>rfl) zGH.run (fun x=>by kernel_rfl) (by kernel_rfl) (zac zEs (trivial))
def zKM:Sig:=⟨[(true,[.d (.bool),.d (.sl .sta)]),(false,[.d (.sl .obs)])],[],false,[(false,[.d (.bool)])],[]⟩
def zGG:Con:=⟨zKM,Bool,fun x=>zbE (⟨x.1,x.2.1⟩:Net) x.2.2.1,fun r=>(r,())⟩
def zr6:Code:=Tryz.f22.body.getD .skip
def zko:Code:=(zad zr6).getD 0 .skip
def zmP:LoopD:=⟨⟨zaj [(2,false,[.lp 128 0]),(15,false,[.d (.sl .obs)]),(16,false,[.d (.int .i64)]),(17,false,[.d (.int .i64)])] 26 0,[(128,.box [.d (.bool),.d (.sl .sta)])]⟩,[],[(.ret,⟨zaj [(4,false,[.d (.bool)])] 26 0,[]⟩,[]),(.exit 0,⟨zaj [] 26 0,[]⟩,[])]⟩
def zuP (x:Tys zmP.head.ks):Option (zd2 zmP.outs):=@whileO ((List Obs) × Int × Int × Bool × (List Sta) × Unit) ((Bool × Unit) ⊕ (Unit)) zbq x
def zOz:Env:=⟨zbQ,[(62,zGI),(63,zGH)],[(4,zbO zmP zuP)],[]⟩
theorem zyC:zak Tryz.prog FX zOz.cons:=zaa zPv (zab Tryz.func62 (by kernel_rfl)) (zaa zPu (zab Tryz.func63 (by kernel_rfl)) (zae))
theorem zB0 (x:Tys zmP.head.ks):stepL zOz zmP zko x=zbq x:=by kernel_rfl
theorem zv2:zad zko=[]:=by kernel_rfl
theorem zNj:zaR Tryz.prog FX (zbO zmP zuP) zko:=zau mix zaf zyC (by kernel_rfl) (zac zv2 (trivial)) zB0 fun _ _ h=>h
theorem zEr:zad zr6=[zko]:=by kernel_rfl
theorem zPt:zax Tryz.prog FX 22 zGG:=zai (E:=zOz) (code:=zr6) mix zaf zyC Tryz.func22 (by kernel_rfl) zKM (by kernel_rfl) (fun y=>y.1) zGG.out (fun _=>rfl) zGG.run (fun x=>by kernel_rfl) (by kernel_rfl) (zac zEr (⟨⟨_,by kernel_rfl,zNj⟩,trivial⟩))
def zKL:Sig:=⟨[(true,[.d (.bool),.d (.sl .sta),.d (.sl .obs)])],[],false,[(false,[.d (.bool)])],[]⟩
def zBE:Con:=⟨zKL,Bool,fun x=>zcw (⟨x.1,x.2.1,x.2.2.1⟩:Bk),fun r=>(r,())⟩
def zze:Code:=Tryz.f21.body.getD .skip
def zQM:Env:=⟨zbQ,[(22,zGG)],[],[]⟩
theorem zIQ:zak Tryz.prog FX zQM.cons:=zaa zPt (zab Tryz.func22 (by kernel_rfl)) (zae)
theorem zEq:zad zze=[]:=by kernel_rfl
theorem zMZ:zax Tryz.prog FX 21 zBE:=zai (E:=zQM) (code:=zze) mix zaf zIQ Tryz.func21 (by kernel_rfl) zKL (by kernel_rfl) (fun y=>y.1) zBE.out (fun _=>rfl) zBE.run (fun x=>by kernel_rfl) (by kernel_rfl) (zac zEq (trivial))
def zQj:Con:=Fo.zlm
theorem zRS:zax Tryz.prog FX 153 zQj:=Fo.zpN
def zQi:Con:=Fo.zi3
theorem zRR:zax Tryz.prog FX 189 zQi:=Fo.znL
def zKK:Sig:=⟨[(false,[.d (.str)]),(false,[.d (.int .i64)])],[],false,[(false,[.d (.str)])],[]⟩
def zJF:Con:=⟨zKK,ByteArray,fun x=>zfN x.1 x.2.1,fun r=>(r,())⟩
def zzd:Code:=Tryz.f154.body.getD .skip
def zQL:Env:=⟨zbQ,[(189,zQi)],[],[]⟩
theorem zIP:zak Tryz.prog FX zQL.cons:=zaa zRR (zab Tryz.func189 (by kernel_rfl)) (zae)
theorem zEp:zad zzd=[]:=by kernel_rfl
theorem zRQ:zax Tryz.prog FX 154 zJF:=zai (E:=zQL) (code:=zzd) mix zaf zIP Tryz.func154 (by kernel_rfl) zKK (by kernel_rfl) (fun y=>y.1) zJF.out (fun _=>rfl) zJF.run (fun x=>by kernel_rfl) (by kernel_rfl) (zac zEp (trivial))
def zKJ:Sig:=⟨[(false,[.d (.sl .int)])],[],false,[(false,[.d (.str)])],[]⟩
def zGF:Con:=⟨zKJ,ByteArray,fun x=>zbS x.1,fun r=>(r,())⟩
def zr5:Code:=Tryz.f112.body.getD .skip
def zkn:Code:=(zad zr5).getD 0 .skip
def zmO:LoopD:=⟨⟨zaj [(0,false,[.d (.sl .int)]),(3,false,[.d (.str)]),(4,false,[.d (.int .i64)])] 31 0,[]⟩,[],[(.exit 0,⟨zaj [(3,false,[.d (.str)])] 31 0,[]⟩,[])]⟩
def zuO (x:Tys zmO.head.ks):Option (zd2 zmO.outs):=@whileO ((List Int) × ByteArray × Int × Unit) (ByteArray × Unit) zeb x
def zOy:Env:=⟨zbQ,[(153,zQj),(154,zJF)],[(5,zbO zmO zuO)],[]⟩
theorem zyB:zak Tryz.prog FX zOy.cons:=zaa zRS (zab Tryz.func153 (by kernel_rfl)) (zaa zRQ (zab Tryz.func154 (by kernel_rfl)) (zae))
theorem zBZ (x:Tys zmO.head.ks):stepL zOy zmO zkn x=zeb x:=by kernel_rfl
theorem zv1:zad zkn=[]:=by kernel_rfl
theorem zNi:zaR Tryz.prog FX (zbO zmO zuO) zkn:=zau mix zaf zyB (by kernel_rfl) (zac zv1 (trivial)) zBZ fun _ _ h=>h
theorem zEo:zad zr5=[zkn]:=by kernel_rfl
theorem zPs:zax Tryz.prog FX 112 zGF:=zai (E:=zOy) (code:=zr5) mix zaf zyB Tryz.func112 (by kernel_rfl) zKJ (by kernel_rfl) (fun y=>y.1) zGF.out (fun _=>rfl) zGF.run (fun x=>by kernel_rfl) (by kernel_rfl) (zac zEo (⟨⟨_,by kernel_rfl,zNi⟩,trivial⟩))
def zKI:Sig:=⟨[(true,[.d (.bool),.d (.sl .int)])],[],false,[(false,[.d (.str)])],[]⟩
def zJD:Con:=⟨zKI,ByteArray,fun x=>zdX (⟨x.1,x.2.1⟩:Bg),fun r=>(r,())⟩
def zzc:Code:=Tryz.f111.body.getD .skip
def zQK:Env:=⟨zbQ,[(112,zGF)],[],[]⟩
theorem zIO:zak Tryz.prog FX zQK.cons:=zaa zPs (zab Tryz.func112 (by kernel_rfl)) (zae)
theorem zEn:zad zzc=[]:=by kernel_rfl
theorem zRP:zax Tryz.prog FX 111 zJD:=zai (E:=zQK) (code:=zzc) mix zaf zIO Tryz.func111 (by kernel_rfl) zKI (by kernel_rfl) (fun y=>y.1) zJD.out (fun _=>rfl) zJD.run (fun x=>by kernel_rfl) (by kernel_rfl) (zac zEn (trivial))
def zKH:Sig:=⟨[(true,[.d (.bool),.d (.sl .int),.d (.sl .int)])],[],false,[(false,[.d (.str)])],[]⟩
def zBD:Con:=⟨zKH,ByteArray,fun x=>zaS (⟨x.1,x.2.1,x.2.2.1⟩:Rt),fun r=>(r,())⟩
def zzb:Code:=Tryz.f60.body.getD .skip
def zQJ:Env:=⟨zbQ,[(110,zBH),(111,zJD),(112,zGF)],[],[(3,[(0,[]),(1,[]),(4,[]),(5,[]),(2,[1,0]),(3,[]),(6,[5,2,4,1,0]),(7,[]),(8,[7,6,0,1,2,3,4,5])])]⟩
theorem zIN:zak Tryz.prog FX zQJ.cons:=zaa zM2 (zab Tryz.func110 (by kernel_rfl)) (zaa zRP (zab Tryz.func111 (by kernel_rfl)) (zaa zPs (zab Tryz.func112 (by kernel_rfl)) (zae)))
theorem zEm:zad zzb=[]:=by kernel_rfl
theorem zMY:zax Tryz.prog FX 60 zBD:=zai (E:=zQJ) (code:=zzb) mix zaf zIN Tryz.func60 (by kernel_rfl) zKH (by kernel_rfl) (fun y=>y.1) zBD.out (fun _=>rfl) zBD.run (fun x=>by kernel_rfl) (by kernel_rfl) (zac zEm (trivial))
def zKG:Sig:=⟨[(true,[.d (.bool),.d (.sl .sta)]),(true,[.d (.int .i64),.d (.int .i64),.d (.int .i64),.d (.bool),.d (.sl .int),.d (.sl .int),.d (.bool),.d (.sl .int),.d (.sl .int)])],[],false,[(false,[.d (.bool)])],[]⟩
def zGE:Con:=⟨zKG,Bool,fun x=>za1 (⟨x.1,x.2.1⟩:Net) (⟨x.2.2.1,x.2.2.2.1,x.2.2.2.2.1,(⟨x.2.2.2.2.2.1,x.2.2.2.2.2.2.1,x.2.2.2.2.2.2.2.1⟩:Rt),(⟨x.2.2.2.2.2.2.2.2.1,x.2.2.2.2.2.2.2.2.2.1,x.2.2.2.2.2.2.2.2.2.2.1⟩:Rt)⟩:Obs),fun r=>(r,())⟩
def zza:Code:=Tryz.f50.body.getD .skip
def zQI:Env:=⟨zbQ,[(62,zGI),(63,zGH)],[],[]⟩
theorem zIM:zak Tryz.prog FX zQI.cons:=zaa zPv (zab Tryz.func62 (by kernel_rfl)) (zaa zPu (zab Tryz.func63 (by kernel_rfl)) (zae))
theorem zEl:zad zza=[]:=by kernel_rfl
theorem zPr:zax Tryz.prog FX 50 zGE:=zai (E:=zQI) (code:=zza) mix zaf zIM Tryz.func50 (by kernel_rfl) zKG (by kernel_rfl) (fun y=>y.1) zGE.out (fun _=>rfl) zGE.run (fun x=>by kernel_rfl) (by kernel_rfl) (zac zEl (trivial))
def zKF:Sig:=⟨[(false,[.d (.int .i64)])],[],false,[(false,[.d (.str)])],[]⟩
def zGD:Con:=⟨zKF,ByteArray,fun x=>zbk x.1,fun r=>(r,())⟩
def zy9:Code:=Tryz.f47.body.getD .skip
def zQH:Env:=⟨zbQ,[],[],[]⟩
theorem zIL:zak Tryz.prog FX zQH.cons:=zae
theorem zEk:zad zy9=[]:=by kernel_rfl
theorem zPq:zax Tryz.prog FX 47 zGD:=zai (E:=zQH) (code:=zy9) mix zaf zIL Tryz.func47 (by kernel_rfl) zKF (by kernel_rfl) (fun y=>y.1) zGD.out (fun _=>rfl) zGD.run (fun x=>by kernel_rfl) (by kernel_rfl) (zac zEk (trivial))
def zKE:Sig:=⟨[(true,[.d (.bool),.d (.sl .sta)]),(true,[.d (.int .i64),.d (.int .i64),.d (.int .i64),.d (.bool),.d (.sl .int),.d (.sl .int),.d (.bool),.d (.sl .int),.d (.sl .int)])],[],false,[(false,[.own 0])],[(0,.arr false .str)]⟩
def zJC:Con:=⟨zKE,List ByteArray,fun x=>zcu (⟨x.1,x.2.1⟩:Net) (⟨x.2.2.1,x.2.2.2.1,x.2.2.2.2.1,(⟨x.2.2.2.2.2.1,x.2.2.2.2.2.2.1,x.2.2.2.2.2.2.2.1⟩:Rt),(⟨x.2.2.2.2.2.2.2.2.1,x.2.2.2.2.2.2.2.2.2.1,x.2.2.2.2.2.2.2.2.2.2.1⟩:Rt)⟩:Obs),fun r=>(r,())⟩
def zy8:Code:=Tryz.f65.body.getD .skip
def zQG:Env:=⟨zbQ,[(47,zGD),(46,zBF)],[],[(1,[(0,[]),(1,[]),(3,[]),(4,[]),(5,[]),(6,[]),(7,[]),(8,[]),(9,[]),(2,[1,0]),(10,[2,9,1,8,0,7,4,6,3,5]),(11,[10,2,0,1,3,4,5,6,7,8,9])])]⟩
theorem zIK:zak Tryz.prog FX zQG.cons:=zaa zPq (zab Tryz.func47 (by kernel_rfl)) (zaa zM0 (zab Tryz.func46 (by kernel_rfl)) (zae))
theorem zEj:zad zy8=[]:=by kernel_rfl
theorem zRO:zax Tryz.prog FX 65 zJC:=zai (E:=zQG) (code:=zy8) mix zaf zIK Tryz.func65 (by kernel_rfl) zKE (by kernel_rfl) (fun y=>y.1) zJC.out (fun _=>rfl) zJC.run (fun x=>by kernel_rfl) (by kernel_rfl) (zac zEj (trivial))
def zQh:Con:=Fo.zhF
theorem zRN:zax Tryz.prog FX 116 zQh:=Fo.zpM
def zKD:Sig:=⟨[(false,[.d (.sl .str)]),(false,[.d (.str)])],[],false,[(false,[.d (.str)])],[]⟩
def zJB:Con:=⟨zKD,ByteArray,fun x=>zhk x.1 x.2.1,fun r=>(r,())⟩
def zy7:Code:=Tryz.f64.body.getD .skip
def zQF:Env:=⟨zbQ,[(116,zQh)],[],[]⟩
theorem zIJ:zak Tryz.prog FX zQF.cons:=zaa zRN (zab Tryz.func116 (by kernel_rfl)) (zae)
theorem zEi:zad zy7=[]:=by kernel_rfl
theorem zRM:zax Tryz.prog FX 64 zJB:=zai (E:=zQF) (code:=zy7) mix zaf zIJ Tryz.func64 (by kernel_rfl) zKD (by kernel_rfl) (fun y=>y.1) zJB.out (fun _=>rfl) zJB.run (fun x=>by kernel_rfl) (by kernel_rfl) (zac zEi (trivial))
def zKC:Sig:=⟨[(true,[.d (.bool),.d (.sl .sta)]),(true,[.d (.int .i64),.d (.int .i64),.d (.int .i64),.d (.bool),.d (.sl .int),.d (.sl .int),.d (.bool),.d (.sl .int),.d (.sl .int)])],[],false,[(false,[.d (.str)])],[]⟩
def zGC:Con:=⟨zKC,ByteArray,fun x=>zbg (⟨x.1,x.2.1⟩:Net) (⟨x.2.2.1,x.2.2.2.1,x.2.2.2.2.1,(⟨x.2.2.2.2.2.1,x.2.2.2.2.2.2.1,x.2.2.2.2.2.2.2.1⟩:Rt),(⟨x.2.2.2.2.2.2.2.2.1,x.2.2.2.2.2.2.2.2.2.1,x.2.2.2.2.2.2.2.2.2.2.1⟩:Rt)⟩:Obs),fun r=>(r,())⟩
def zy6:Code:=Tryz.f23.body.getD .skip
def zQE:Env:=⟨zbQ,[(50,zGE),(65,zJC),(60,zBD),(64,zJB)],[],[(3,[(0,[]),(1,[]),(3,[]),(4,[]),(6,[]),(7,[]),(2,[0,1]),(5,[4,2,3,0,1]),(8,[7,5,6,4,2,3,0,1]),(9,[5,8,4,2,7,3,0,1,6]),(10,[2,9,8,0,1,5,7,4,6,3]),(11,[10,2,9,8,0,1,5,7,4,6,3]),(12,[11,0,1,2,3,4,5,6,7,8,9,10])])]⟩
theorem zII:zak Tryz.prog FX zQE.cons:=zaa zPr (zab Tryz.func50 (by kernel_rfl)) (zaa zRO (zab Tryz.func65 (by kernel_rfl)) (zaa zMY (zab Tryz.func60 (by kernel_rfl)) (zaa zRM (zab Tryz.func64 (by kernel_rfl)) (zae))))
theorem zEh:zad zy6=[]:=by kernel_rfl
theorem zPp:zax Tryz.prog FX 23 zGC:=zai (E:=zQE) (code:=zy6) mix zaf zII Tryz.func23 (by kernel_rfl) zKC (by kernel_rfl) (fun y=>y.1) zGC.out (fun _=>rfl) zGC.run (fun x=>by kernel_rfl) (by kernel_rfl) (zac zEh (trivial))
def zKB:Sig:=⟨[(true,[.d (.bool),.d (.sl .sta),.d (.sl .obs)])],[],false,[(false,[.d (.str)])],[]⟩
def zGB:Con:=⟨zKB,ByteArray,fun x=>zbF (⟨x.1,x.2.1,x.2.2.1⟩:Bk),fun r=>(r,())⟩
def zoa:Code:=Tryz.f19.body.getD .skip
def zkm:Code:=(zad zoa).getD 0 .skip
def zkl:Code:=(zad zoa).getD 1 .skip
def zmN:LoopD:=⟨⟨zaj [(1,false,[.lp 64 0]),(3,false,[.d (.str)]),(17,false,[.d (.sl .sta)]),(18,false,[.d (.int .i64)]),(19,false,[.d (.int .i64)])] 65 0,[(64,.box [.d (.bool),.d (.sl .sta),.d (.sl .obs)])]⟩,[],[(.exit 0,⟨zaj [(1,false,[.lp 64 0]),(3,false,[.d (.str)])] 65 0,[(64,.box [.d (.bool),.d (.sl .sta),.d (.sl .obs)])]⟩,[])]⟩
def zmM:LoopD:=⟨⟨zaj [(1,false,[.lp 64 0]),(3,false,[.d (.str)]),(50,false,[.d (.sl .obs)]),(51,false,[.d (.int .i64)]),(52,false,[.d (.int .i64)])] 65 0,[(64,.box [.d (.bool),.d (.sl .sta),.d (.sl .obs)])]⟩,[],[(.exit 2,⟨zaj [(3,false,[.d (.str)])] 65 0,[]⟩,[])]⟩
def zuN (x:Tys zmN.head.ks):Option (zd2 zmN.outs):=@whileO (ByteArray × (List Sta) × Int × Int × Bool × (List Sta) × (List Obs) × Unit) (ByteArray × Bool × (List Sta) × (List Obs) × Unit) zb6 x
def zuM (x:Tys zmM.head.ks):Option (zd2 zmM.outs):=@whileO (ByteArray × (List Obs) × Int × Int × Bool × (List Sta) × (List Obs) × Unit) (ByteArray × Unit) zcP x
def zKj:Env:=⟨zbQ,[(21,zBE),(60,zBD),(23,zGC)],[(7,zbO zmN zuN),(18,zbO zmM zuM)],[(12,[(0,[]),(1,[]),(2,[]),(3,[]),(4,[]),(5,[]),(6,[]),(7,[]),(8,[]),(9,[8,7]),(10,[]),(11,[]),(12,[11,9,0,1,2,3,4,5,6,7,8,10])])]⟩
theorem zrW:zak Tryz.prog FX zKj.cons:=zaa zMZ (zab Tryz.func21 (by kernel_rfl)) (zaa zMY (zab Tryz.func60 (by kernel_rfl)) (zaa zPp (zab Tryz.func23 (by kernel_rfl)) (zae)))
theorem zBX (x:Tys zmM.head.ks):stepL zKj zmM zkl x=zcP x:=by kernel_rfl
theorem zvZ:zad zkl=[]:=by kernel_rfl
theorem zNg:zaR Tryz.prog FX (zbO zmM zuM) zkl:=zau mix zaf zrW (by kernel_rfl) (zac zvZ (trivial)) zBX fun _ _ h=>h
theorem zBY (x:Tys zmN.head.ks):stepL zKj zmN zkm x=zb6 x:=by kernel_rfl
theorem zv0:zad zkm=[]:=by kernel_rfl
theorem zNh:zaR Tryz.prog FX (zbO zmN zuN) zkm:=zau mix zaf zrW (by kernel_rfl) (zac zv0 (trivial)) zBY fun _ _ h=>h
theorem zEg:zad zoa=[zkm,zkl]:=by kernel_rfl
theorem zPo:zax Tryz.prog FX 19 zGB:=zai (E:=zKj) (code:=zoa) mix zaf zrW Tryz.func19 (by kernel_rfl) zKB (by kernel_rfl) (fun y=>y.1) zGB.out (fun _=>rfl) zGB.run (fun x=>by kernel_rfl) (by kernel_rfl) (zac zEg (⟨⟨_,by kernel_rfl,zNh⟩,⟨⟨_,by kernel_rfl,zNg⟩,trivial⟩⟩))
def zQg:Con:=Fo.zhf
theorem m_q89:zax Tryz.prog FX 89 zQg:=Fo.zlz
def zKA:Sig:=⟨[(false,[.d (.str)]),(false,[.d (.str)])],[],false,[(false,[.own 0])],[(0,.arr false .str)]⟩
def zBC:Con:=⟨zKA,List ByteArray,fun x=>zdB x.1 x.2.1,fun r=>(r,())⟩
def zr4:Code:=Tryz.f45.body.getD .skip
def zkk:Code:=(zad zr4).getD 0 .skip
def zmL:LoopD:=⟨⟨zaj [(0,false,[.d (.str)]),(1,false,[.d (.str)]),(5,false,[.own 2304]),(6,false,[.d (.int .i64)]),(7,false,[.d (.int .i64)])] 35 0,[(2304,.arr false .str)]⟩,[(.slot 5 0,2304,.str)],[(.exit 0,⟨zaj [(0,false,[.d (.str)]),(5,false,[.own 2304]),(6,false,[.d (.int .i64)])] 35 0,[(2304,.arr false .str)]⟩,[(.slot 5 0,2304,.str)])]⟩
def zuL (x:Tys zmL.head.ks):Option (zd2 zmL.outs):=@whileO (ByteArray × ByteArray × Int × Int × (List ByteArray) × Unit) (ByteArray × Int × (List ByteArray) × Unit) zbp x
def zOx:Env:=⟨zbQ,[(89,zQg)],[(4,zbO zmL zuL)],[]⟩
theorem zyA:zak Tryz.prog FX zOx.cons:=zaa m_q89 (zab Tryz.func89 (by kernel_rfl)) (zae)
theorem zBW (x:Tys zmL.head.ks):stepL zOx zmL zkk x=zbp x:=by kernel_rfl
theorem zvY:zad zkk=[]:=by kernel_rfl
theorem zNf:zaR Tryz.prog FX (zbO zmL zuL) zkk:=zau mix zaf zyA (by kernel_rfl) (zac zvY (trivial)) zBW fun _ _ h=>h
theorem zEf:zad zr4=[zkk]:=by kernel_rfl
theorem zMX:zax Tryz.prog FX 45 zBC:=zai (E:=zOx) (code:=zr4) mix zaf zyA Tryz.func45 (by kernel_rfl) zKA (by kernel_rfl) (fun y=>y.1) zBC.out (fun _=>rfl) zBC.run (fun x=>by kernel_rfl) (by kernel_rfl) (zac zEf (⟨⟨_,by kernel_rfl,zNf⟩,trivial⟩))
def zKz:Sig:=⟨[(false,[.d (.str)])],[],false,[(false,[.own 0])],[(0,.arr false .str)]⟩
def zJz:Con:=⟨zKz,List ByteArray,fun x=>zeN x.1,fun r=>(r,())⟩
def zy5:Code:=Tryz.f58.body.getD .skip
def zQD:Env:=⟨zbQ,[(45,zBC)],[],[]⟩
theorem zIH:zak Tryz.prog FX zQD.cons:=zaa zMX (zab Tryz.func45 (by kernel_rfl)) (zae)
theorem zEe:zad zy5=[]:=by kernel_rfl
theorem zRL:zax Tryz.prog FX 58 zJz:=zai (E:=zQD) (code:=zy5) mix zaf zIH Tryz.func58 (by kernel_rfl) zKz (by kernel_rfl) (fun y=>y.1) zJz.out (fun _=>rfl) zJz.run (fun x=>by kernel_rfl) (by kernel_rfl) (zac zEe (trivial))
def zKx:Sig:=⟨[(false,[.d (.bool)])],[],false,[(false,[.d (.int .i64)])],[]⟩
def zJy:Con:=⟨zKx,Int,fun x=>zlG x.1,fun r=>(r,())⟩
def zy4:Code:=Tryz.f108.body.getD .skip
def zQC:Env:=⟨zbQ,[],[],[]⟩
theorem zIG:zak Tryz.prog FX zQC.cons:=zae
theorem zEd:zad zy4=[]:=by kernel_rfl
theorem zRK:zax Tryz.prog FX 108 zJy:=zai (E:=zQC) (code:=zy4) mix zaf zIG Tryz.func108 (by kernel_rfl) zKx (by kernel_rfl) (fun y=>y.1) zJy.out (fun _=>rfl) zJy.run (fun x=>by kernel_rfl) (by kernel_rfl) (zac zEd (trivial))
def zKw:Sig:=⟨[(false,[.d (.bool)]),(false,[.own 64])],[(64,.arr false .int)],false,[(true,[.d (.bool),.own 0])],[(0,.arr false .int)]⟩
def zBB:Con:=⟨zKw,Bg,fun x=>zay x.1 x.2.1,fun r=>(r.neg,r.mag,())⟩
def zy3:Code:=Tryz.f137.body.getD .skip
def zQB:Env:=⟨zbQ,[],[],[]⟩
theorem zIF:zak Tryz.prog FX zQB.cons:=zae
theorem zEc:zad zy3=[]:=by kernel_rfl
theorem zMW:zax Tryz.prog FX 137 zBB:=zai (E:=zQB) (code:=zy3) mix zaf zIF Tryz.func137 (by kernel_rfl) zKw (by kernel_rfl) (fun y=>(⟨y.1,y.2.1⟩:Bg)) zBB.out (fun _=>rfl) zBB.run (fun x=>by kernel_rfl) (by kernel_rfl) (zac zEc (trivial))
def zKv:Sig:=⟨[(false,[.d (.sl .int)]),(false,[.d (.sl .int)])],[],false,[(false,[.own 0])],[(0,.arr false .int)]⟩
def zJx:Con:=⟨zKv,List Int,fun x=>zdO x.1 x.2.1,fun r=>(r,())⟩
def zr3:Code:=Tryz.f231.body.getD .skip
def zkj:Code:=(zad zr3).getD 0 .skip
def zmK:LoopD:=⟨⟨zaj [(0,false,[.d (.sl .int)]),(1,false,[.d (.sl .int)]),(5,false,[.own 3648]),(6,false,[.d (.int .i64)]),(21,false,[.d (.int .i64)]),(22,false,[.d (.int .i64)])] 56 0,[(3648,.arr false .int)]⟩,[],[(.exit 0,⟨zaj [(5,false,[.own 3648]),(6,false,[.d (.int .i64)])] 56 0,[(3648,.arr false .int)]⟩,[])]⟩
def zuK (x:Tys zmK.head.ks):Option (zd2 zmK.outs):=@whileO ((List Int) × (List Int) × Int × Int × Int × (List Int) × Unit) (Int × (List Int) × Unit) zce x
def zOw:Env:=⟨zbQ,[],[(6,zbO zmK zuK)],[]⟩
theorem zyz:zak Tryz.prog FX zOw.cons:=zae
theorem zBV (x:Tys zmK.head.ks):stepL zOw zmK zkj x=zce x:=by kernel_rfl
theorem zvX:zad zkj=[]:=by kernel_rfl
theorem zNe:zaR Tryz.prog FX (zbO zmK zuK) zkj:=zau mix zaf zyz (by kernel_rfl) (zac zvX (trivial)) zBV fun _ _ h=>h
theorem zEb:zad zr3=[zkj]:=by kernel_rfl
theorem zRJ:zax Tryz.prog FX 231 zJx:=zai (E:=zOw) (code:=zr3) mix zaf zyz Tryz.func231 (by kernel_rfl) zKv (by kernel_rfl) (fun y=>y.1) zJx.out (fun _=>rfl) zJx.run (fun x=>by kernel_rfl) (by kernel_rfl) (zac zEb (⟨⟨_,by kernel_rfl,zNe⟩,trivial⟩))
def zKu:Sig:=⟨[(false,[.d (.int .i64)])],[],false,[(true,[.d (.bool),.own 0])],[(0,.arr false .int)]⟩
def zJw:Con:=⟨zKu,Bg,fun x=>zev x.1,fun r=>(r.neg,r.mag,())⟩
def zy2:Code:=Tryz.f216.body.getD .skip
def zQA:Env:=⟨zbQ,[(229,zGM),(137,zBB),(231,zJx)],[],[]⟩
theorem zIE:zak Tryz.prog FX zQA.cons:=zaa zPz (zab Tryz.func229 (by kernel_rfl)) (zaa zMW (zab Tryz.func137 (by kernel_rfl)) (zaa zRJ (zab Tryz.func231 (by kernel_rfl)) (zae)))
theorem zEa:zad zy2=[]:=by kernel_rfl
theorem zRI:zax Tryz.prog FX 216 zJw:=zai (E:=zQA) (code:=zy2) mix zaf zIE Tryz.func216 (by kernel_rfl) zKu (by kernel_rfl) (fun y=>(⟨y.1,y.2.1⟩:Bg)) zJw.out (fun _=>rfl) zJw.run (fun x=>by kernel_rfl) (by kernel_rfl) (zac zEa (trivial))
def zKt:Sig:=⟨[(false,[.d (.bool)]),(false,[.d (.sl .int)])],[],false,[(true,[.d (.bool),.d (.sl .int)])],[]⟩
def zJv:Con:=⟨zKt,Bg,fun x=>zgP x.1 x.2.1,fun r=>(r.neg,r.mag,())⟩
def zy1:Code:=Tryz.f137.body.getD .skip
def zQz:Env:=⟨zbQ,[],[],[]⟩
theorem zID:zak Tryz.prog FX zQz.cons:=zae
theorem zD9:zad zy1=[]:=by kernel_rfl
theorem zRH:zax Tryz.prog FX 137 zJv:=zai (E:=zQz) (code:=zy1) mix zaf zID Tryz.func137 (by kernel_rfl) zKt (by kernel_rfl) (fun y=>(⟨y.1,y.2.1⟩:Bg)) zJv.out (fun _=>rfl) zJv.run (fun x=>by kernel_rfl) (by kernel_rfl) (zac zD9 (trivial))
def zKs:Sig:=⟨[(true,[.d (.bool),.d (.sl .int)]),(false,[.d (.sl .int)])],[],false,[(true,[.d (.bool),.d (.sl .int),.d (.sl .int)])],[]⟩
def zJu:Con:=⟨zKs,Rt,fun x=>zgQ (⟨x.1,x.2.1⟩:Bg) x.2.2.1,fun r=>(r.neg,r.mag,r.den,())⟩
def zy0:Code:=Tryz.f230.body.getD .skip
def zQy:Env:=⟨zbQ,[(143,zGK),(110,zBH),(174,zGL),(137,zBB)],[],[]⟩
theorem zIC:zak Tryz.prog FX zQy.cons:=zaa zPx (zab Tryz.func143 (by kernel_rfl)) (zaa zM2 (zab Tryz.func110 (by kernel_rfl)) (zaa zPy (zab Tryz.func174 (by kernel_rfl)) (zaa zMW (zab Tryz.func137 (by kernel_rfl)) (zae))))
theorem zD8:zad zy0=[]:=by kernel_rfl
theorem zRG:zax Tryz.prog FX 230 zJu:=zai (E:=zQy) (code:=zy0) mix zaf zIC Tryz.func230 (by kernel_rfl) zKs (by kernel_rfl) (fun y=>(⟨y.1,y.2.1,y.2.2.1⟩:Rt)) zJu.out (fun _=>rfl) zJu.run (fun x=>by kernel_rfl) (by kernel_rfl) (zac zD8 (trivial))
def zKr:Sig:=⟨[(true,[.d (.bool),.d (.sl .int),.d (.sl .int)])],[],false,[(true,[.d (.bool),.own 0,.own 1])],[(0,.arr false .int),(1,.arr false .int)]⟩
def zGA:Con:=⟨zKr,Rt,fun x=>zd5 (⟨x.1,x.2.1,x.2.2.1⟩:Rt),fun r=>(r.neg,r.mag,r.den,())⟩
def zyZ:Code:=Tryz.f117.body.getD .skip
def zQx:Env:=⟨zbQ,[(161,zBI)],[],[(1,[(0,[]),(1,[]),(2,[]),(3,[]),(4,[]),(5,[]),(8,[]),(9,[]),(6,[5,4,3]),(7,[]),(10,[9,6,8,5,4,3]),(11,[]),(12,[11,10,0,1,2,3,4,5,6,7,8,9])])]⟩
theorem zIB:zak Tryz.prog FX zQx.cons:=zaa zM3 (zab Tryz.func161 (by kernel_rfl)) (zae)
theorem zD7:zad zyZ=[]:=by kernel_rfl
theorem zPn:zax Tryz.prog FX 117 zGA:=zai (E:=zQx) (code:=zyZ) mix zaf zIB Tryz.func117 (by kernel_rfl) zKr (by kernel_rfl) (fun y=>(⟨y.1,y.2.1,y.2.2.1⟩:Rt)) zGA.out (fun _=>rfl) zGA.run (fun x=>by kernel_rfl) (by kernel_rfl) (zac zD7 (trivial))
def zKq:Sig:=⟨[(true,[.d (.bool),.d (.sl .int)]),(true,[.d (.bool),.d (.sl .int)])],[],false,[(true,[.d (.bool),.own 0,.own 1])],[(0,.arr false .int),(1,.arr false .int)]⟩
def zJt:Con:=⟨zKq,Rt,fun x=>zgj (⟨x.1,x.2.1⟩:Bg) (⟨x.2.2.1,x.2.2.2.1⟩:Bg),fun r=>(r.neg,r.mag,r.den,())⟩
def zyY:Code:=Tryz.f215.body.getD .skip
def zQw:Env:=⟨zbQ,[(141,zGN),(137,zJv),(230,zJu),(117,zGA)],[],[(3,[(0,[]),(1,[]),(2,[]),(3,[]),(4,[]),(5,[]),(6,[]),(8,[]),(9,[]),(7,[4,6,1,3,5,0,2]),(10,[7,9,4,6,8,1,3,5,0,2]),(11,[10,7,9,4,6,8,1,3,5,0,2]),(12,[11,0,1,2,3,4,5,6,7,8,9,10])])]⟩
theorem zIA:zak Tryz.prog FX zQw.cons:=zaa zPA (zab Tryz.func141 (by kernel_rfl)) (zaa zRH (zab Tryz.func137 (by kernel_rfl)) (zaa zRG (zab Tryz.func230 (by kernel_rfl)) (zaa zPn (zab Tryz.func117 (by kernel_rfl)) (zae))))
theorem zD6:zad zyY=[]:=by kernel_rfl
theorem zRF:zax Tryz.prog FX 215 zJt:=zai (E:=zQw) (code:=zyY) mix zaf zIA Tryz.func215 (by kernel_rfl) zKq (by kernel_rfl) (fun y=>(⟨y.1,y.2.1,y.2.2.1⟩:Rt)) zJt.out (fun _=>rfl) zJt.run (fun x=>by kernel_rfl) (by kernel_rfl) (zac zD6 (trivial))
def zDo:Sig:=⟨[(false,[.d (.int .i64)]),(false,[.d (.int .i64)])],[],false,[(true,[.d (.bool),.own 0,.own 1])],[(0,.arr false .int),(1,.arr false .int)]⟩
def zz7:Con:=⟨zDo,Rt,fun x=>zgu x.1 x.2.1,fun r=>(r.neg,r.mag,r.den,())⟩
def zun:Code:=Tryz.f187.body.getD .skip
def zMv:Env:=⟨zbQ,[(216,zJw),(215,zJt)],[],[]⟩
theorem zGm:zak Tryz.prog FX zMv.cons:=zaa zRI (zab Tryz.func216 (by kernel_rfl)) (zaa zRF (zab Tryz.func215 (by kernel_rfl)) (zae))
theorem zBd:zad zun=[]:=by kernel_rfl
theorem zPW:zax Tryz.prog FX 187 zz7:=zai (E:=zMv) (code:=zun) mix zaf zGm Tryz.func187 (by kernel_rfl) zDo (by kernel_rfl) (fun y=>(⟨y.1,y.2.1,y.2.2.1⟩:Rt)) zz7.out (fun _=>rfl) zz7.run (fun x=>by kernel_rfl) (by kernel_rfl) (zac zBd (trivial))
def zDn:Sig:=⟨[(false,[.d (.int .i64)])],[],false,[(true,[.d (.bool),.own 0,.own 1])],[(0,.arr false .int),(1,.arr false .int)]⟩
def zz6:Con:=⟨zDn,Rt,fun x=>zeO x.1,fun r=>(r.neg,r.mag,r.den,())⟩
def zum:Code:=Tryz.f152.body.getD .skip
def zMu:Env:=⟨zbQ,[(187,zz7)],[],[]⟩
theorem zGl:zak Tryz.prog FX zMu.cons:=zaa zPW (zab Tryz.func187 (by kernel_rfl)) (zae)
theorem zBc:zad zum=[]:=by kernel_rfl
theorem zPV:zax Tryz.prog FX 152 zz6:=zai (E:=zMu) (code:=zum) mix zaf zGl Tryz.func152 (by kernel_rfl) zDn (by kernel_rfl) (fun y=>(⟨y.1,y.2.1,y.2.2.1⟩:Rt)) zz6.out (fun _=>rfl) zz6.run (fun x=>by kernel_rfl) (by kernel_rfl) (zac zBc (trivial))
def zDm:Sig:=⟨[(false,[.d (.int .i64)])],[],false,[(true,[.d (.bool),.own 0,.own 1])],[(0,.arr false .int),(1,.arr false .int)]⟩
def zz5:Con:=⟨zDm,Rt,fun x=>zc7 x.1,fun r=>(r.neg,r.mag,r.den,())⟩
def zul:Code:=Tryz.f109.body.getD .skip
def zMt:Env:=⟨zbQ,[(152,zz6)],[],[]⟩
theorem zGk:zak Tryz.prog FX zMt.cons:=zaa zPV (zab Tryz.func152 (by kernel_rfl)) (zae)
theorem zBb:zad zul=[]:=by kernel_rfl
theorem zPU:zax Tryz.prog FX 109 zz5:=zai (E:=zMt) (code:=zul) mix zaf zGk Tryz.func109 (by kernel_rfl) zDm (by kernel_rfl) (fun y=>(⟨y.1,y.2.1,y.2.2.1⟩:Rt)) zz5.out (fun _=>rfl) zz5.run (fun x=>by kernel_rfl) (by kernel_rfl) (zac zBb (trivial))
def zMc:Con:=Fo.zmb
theorem zPT:zax Tryz.prog FX 90 zMc:=Fo.zrv
def zDl:Sig:=⟨[(false,[.d (.str)]),(false,[.d (.str)])],[],false,[(false,[.d (.bool)])],[]⟩
def zz4:Con:=⟨zDl,Bool,fun x=>zbU x.1 x.2.1,fun r=>(r,())⟩
def zuk:Code:=Tryz.f198.body.getD .skip
def zMs:Env:=⟨zbQ,[],[],[]⟩
theorem zGj:zak Tryz.prog FX zMs.cons:=zae
theorem zBa:zad zuk=[]:=by kernel_rfl
theorem zPS:zax Tryz.prog FX 198 zz4:=zai (E:=zMs) (code:=zuk) mix zaf zGj Tryz.func198 (by kernel_rfl) zDl (by kernel_rfl) (fun y=>y.1) zz4.out (fun _=>rfl) zz4.run (fun x=>by kernel_rfl) (by kernel_rfl) (zac zBa (trivial))
def zDk:Sig:=⟨[(false,[.d (.str)]),(false,[.d (.str)])],[],true,[(false,[.d (.str)]),(false,[.d (.bool)])],[]⟩
def zz3:Con:=⟨zDk,ByteArray × Bool,fun x=>zbV x.1 x.2.1,fun r=>(r.1,r.2,())⟩
def zuj:Code:=Tryz.f171.body.getD .skip
def zMr:Env:=⟨zbQ,[(198,zz4)],[],[]⟩
theorem zGi:zak Tryz.prog FX zMr.cons:=zaa zPS (zab Tryz.func198 (by kernel_rfl)) (zae)
theorem zA9:zad zuj=[]:=by kernel_rfl
theorem zPR:zax Tryz.prog FX 171 zz3:=zai (E:=zMr) (code:=zuj) mix zaf zGi Tryz.func171 (by kernel_rfl) zDk (by kernel_rfl) (fun y=>(y.1,y.2.1)) zz3.out (fun _=>rfl) zz3.run (fun x=>by kernel_rfl) (by kernel_rfl) (zac zA9 (trivial))
def zDj:Sig:=⟨[(false,[.d (.str)]),(false,[.d (.str)])],[],true,[(false,[.d (.str)]),(false,[.d (.bool)])],[]⟩
def zz2:Con:=⟨zDj,ByteArray × Bool,fun x=>zdL x.1 x.2.1,fun r=>(r.1,r.2,())⟩
def zui:Code:=Tryz.f136.body.getD .skip
def zMq:Env:=⟨zbQ,[(171,zz3)],[],[]⟩
theorem zGh:zak Tryz.prog FX zMq.cons:=zaa zPR (zab Tryz.func171 (by kernel_rfl)) (zae)
theorem zA8:zad zui=[]:=by kernel_rfl
theorem zPQ:zax Tryz.prog FX 136 zz2:=zai (E:=zMq) (code:=zui) mix zaf zGh Tryz.func136 (by kernel_rfl) zDj (by kernel_rfl) (fun y=>(y.1,y.2.1)) zz2.out (fun _=>rfl) zz2.run (fun x=>by kernel_rfl) (by kernel_rfl) (zac zA8 (trivial))
def zDi:Sig:=⟨[(false,[.d (.str)])],[],false,[(false,[.d (.bool)])],[]⟩
def zz1:Con:=⟨zDi,Bool,fun x=>zfO x.1,fun r=>(r,())⟩
def zpo:Code:=Tryz.f138.body.getD .skip
def ziV:Code:=(zad zpo).getD 0 .skip
def zk7:LoopD:=⟨⟨zaj [(0,false,[.d (.str)]),(3,false,[.d (.int .i64)])] 22 0,[]⟩,[],[(.ret,⟨zaj [(2,false,[.d (.bool)])] 22 0,[]⟩,[]),(.exit 0,⟨zaj [(0,false,[.d (.str)])] 22 0,[]⟩,[])]⟩
def zq4 (x:Tys zk7.head.ks):Option (zd2 zk7.outs):=@whileO (ByteArray × Int × Unit) ((Bool × Unit) ⊕ (ByteArray × Unit)) zcG x
def zHq:Env:=⟨zbQ,[],[(2,zbO zk7 zq4)],[]⟩
theorem zt7:zak Tryz.prog FX zHq.cons:=zae
theorem zxo (x:Tys zk7.head.ks):stepL zHq zk7 ziV x=zcG x:=by kernel_rfl
theorem ztj:zad ziV=[]:=by kernel_rfl
theorem zIi:zaR Tryz.prog FX (zbO zk7 zq4) ziV:=zau mix zaf zt7 (by kernel_rfl) (zac ztj (trivial)) zxo fun _ _ h=>h
theorem zA7:zad zpo=[ziV]:=by kernel_rfl
theorem m_q107:zax Tryz.prog FX 138 zz1:=zai (E:=zHq) (code:=zpo) mix zaf zt7 Tryz.func138 (by kernel_rfl) zDi (by kernel_rfl) (fun y=>y.1) zz1.out (fun _=>rfl) zz1.run (fun x=>by kernel_rfl) (by kernel_rfl) (zac zA7 (⟨⟨_,by kernel_rfl,zIi⟩,trivial⟩))
def zMb:Con:=Fo.zln
theorem zPP:zax Tryz.prog FX 139 zMb:=Fo.zpO
def zDh:Sig:=⟨[(false,[.d (.str)])],[],true,[(false,[.own 0]),(false,[.d (.bool)])],[(0,.arr false .int)]⟩
def zuA:Con:=⟨zDh,List Int × Bool,fun x=>zet x.1,fun r=>(r.2,r.1,())⟩
def zpn:Code:=Tryz.f92.body.getD .skip
def ziU:Code:=(zad zpn).getD 0 .skip
def zk6:LoopD:=⟨⟨zaj [(0,false,[.d (.str)]),(4,false,[.own 3136]),(5,false,[.d (.int .i64)])] 48 0,[(3136,.arr false .int)]⟩,[(.slot 4 0,3136,.int)],[(.exit 0,⟨zaj [(4,false,[.own 3136])] 48 0,[(3136,.arr false .int)]⟩,[(.slot 4 0,3136,.int)])]⟩
def zq3 (x:Tys zk6.head.ks):Option (zd2 zk6.outs):=@whileO (ByteArray × Int × (List Int) × Unit) ((List Int) × Unit) zcF x
def zHp:Env:=⟨zbQ,[(138,zz1),(139,zMb),(140,zw5)],[(5,zbO zk6 zq3)],[]⟩
theorem zt6:zak Tryz.prog FX zHp.cons:=zaa m_q107 (zab Tryz.func138 (by kernel_rfl)) (zaa zPP (zab Tryz.func139 (by kernel_rfl)) (zaa zHU (zab Tryz.func140 (by kernel_rfl)) (zae)))
theorem zxn (x:Tys zk6.head.ks):stepL zHp zk6 ziU x=zcF x:=by kernel_rfl
theorem zti:zad ziU=[]:=by kernel_rfl
theorem zIh:zaR Tryz.prog FX (zbO zk6 zq3) ziU:=zau mix zaf zt6 (by kernel_rfl) (zac zti (trivial)) zxn fun _ _ h=>h
theorem zA6:zad zpn=[ziU]:=by kernel_rfl
theorem zL3:zax Tryz.prog FX 92 zuA:=zai (E:=zHp) (code:=zpn) mix zaf zt6 Tryz.func92 (by kernel_rfl) zDh (by kernel_rfl) (fun y=>(y.2.1,y.1)) zuA.out (fun _=>rfl) zuA.run (fun x=>by kernel_rfl) (by kernel_rfl) (zac zA6 (⟨⟨_,by kernel_rfl,zIh⟩,trivial⟩))
def zDg:Sig:=⟨[(false,[.d (.str)])],[],true,[(true,[.d (.bool),.own 0]),(false,[.d (.bool)])],[(0,.arr false .int)]⟩
def zz0:Con:=⟨zDg,Bg × Bool,fun x=>zed x.1,fun r=>(r.1.neg,r.2,r.1.mag,())⟩
def zuh:Code:=Tryz.f91.body.getD .skip
def zMp:Env:=⟨zbQ,[(136,zz2),(92,zuA),(137,zBB)],[],[]⟩
theorem zGg:zak Tryz.prog FX zMp.cons:=zaa zPQ (zab Tryz.func136 (by kernel_rfl)) (zaa zL3 (zab Tryz.func92 (by kernel_rfl)) (zaa zMW (zab Tryz.func137 (by kernel_rfl)) (zae)))
theorem zA5:zad zuh=[]:=by kernel_rfl
theorem zPO:zax Tryz.prog FX 91 zz0:=zai (E:=zMp) (code:=zuh) mix zaf zGg Tryz.func91 (by kernel_rfl) zDg (by kernel_rfl) (fun y=>((⟨y.1,y.2.2.1⟩:Bg),y.2.1)) zz0.out (fun _=>rfl) zz0.run (fun x=>by kernel_rfl) (by kernel_rfl) (zac zA5 (trivial))
def zDf:Sig:=⟨[(false,[.d (.str)])],[],true,[(true,[.d (.bool),.own 0,.own 1]),(false,[.d (.bool)])],[(0,.arr false .int),(1,.arr false .int)]⟩
def zuz:Con:=⟨zDf,Rt × Bool,fun x=>zaF x.1,fun r=>(r.1.neg,r.2,r.1.mag,r.1.den,())⟩
def zug:Code:=Tryz.f49.body.getD .skip
def zMo:Env:=⟨zbQ,[(90,zMc),(91,zz0),(92,zuA),(93,zBG),(60,zBD)],[],[]⟩
theorem zGf:zak Tryz.prog FX zMo.cons:=zaa zPT (zab Tryz.func90 (by kernel_rfl)) (zaa zPO (zab Tryz.func91 (by kernel_rfl)) (zaa zL3 (zab Tryz.func92 (by kernel_rfl)) (zaa zM1 (zab Tryz.func93 (by kernel_rfl)) (zaa zMY (zab Tryz.func60 (by kernel_rfl)) (zae)))))
theorem zA4:zad zug=[]:=by kernel_rfl
theorem zL2:zax Tryz.prog FX 49 zuz:=zai (E:=zMo) (code:=zug) mix zaf zGf Tryz.func49 (by kernel_rfl) zDf (by kernel_rfl) (fun y=>((⟨y.1,y.2.2.1,y.2.2.2.1⟩:Rt),y.2.1)) zuz.out (fun _=>rfl) zuz.run (fun x=>by kernel_rfl) (by kernel_rfl) (zac zA4 (trivial))
def zDe:Sig:=⟨[(false,[.d (.str)]),(false,[.d (.bool)])],[],true,[(true,[.d (.str),.d (.bool),.own 0,.own 1,.d (.bool),.own 2,.own 3,.d (.bool)]),(false,[.d (.bool)])],[(0,.arr false .int),(1,.arr false .int),(2,.arr false .int),(3,.arr false .int)]⟩
def zzZ:Con:=⟨zDe,Sta × Bool,fun x=>zdN x.1 x.2.1,fun r=>(r.1.name,r.1.x.neg,r.1.y.neg,r.1.fixed,r.2,r.1.x.mag,r.1.x.den,r.1.y.mag,r.1.y.den,())⟩
def zuf:Code:=Tryz.f59.body.getD .skip
def zMn:Env:=⟨zbQ,[(45,zBC),(108,zJy),(109,zz5),(49,zuz)],[],[(4,[(0,[]),(1,[]),(2,[]),(4,[]),(5,[]),(6,[]),(7,[]),(3,[]),(8,[]),(9,[]),(10,[9,8,3,0,1,2,4,5,6,7])])]⟩
theorem zGe:zak Tryz.prog FX zMn.cons:=zaa zMX (zab Tryz.func45 (by kernel_rfl)) (zaa zRK (zab Tryz.func108 (by kernel_rfl)) (zaa zPU (zab Tryz.func109 (by kernel_rfl)) (zaa zL2 (zab Tryz.func49 (by kernel_rfl)) (zae))))
theorem zA3:zad zuf=[]:=by kernel_rfl
theorem zPN:zax Tryz.prog FX 59 zzZ:=zai (E:=zMn) (code:=zuf) mix zaf zGe Tryz.func59 (by kernel_rfl) zDe (by kernel_rfl) (fun y=>((⟨y.1,(⟨y.2.1,y.2.2.2.2.2.1,y.2.2.2.2.2.2.1⟩:Rt),(⟨y.2.2.1,y.2.2.2.2.2.2.2.1,y.2.2.2.2.2.2.2.2.1⟩:Rt),y.2.2.2.1⟩:Sta),y.2.2.2.2.1)) zzZ.out (fun _=>rfl) zzZ.run (fun x=>by kernel_rfl) (by kernel_rfl) (zac zA3 (trivial))
def zDd:Sig:=⟨[(true,[.d (.bool),.d (.sl .sta)]),(false,[.d (.str)])],[],true,[(true,[.d (.int .i64),.d (.int .i64),.d (.int .i64),.d (.bool),.own 0,.own 1,.d (.bool),.own 2,.own 3]),(false,[.d (.bool)])],[(0,.arr false .int),(1,.arr false .int),(2,.arr false .int),(3,.arr false .int)]⟩
def zuy:Con:=⟨zDd,Obs × Bool,fun x=>zam (⟨x.1,x.2.1⟩:Net) x.2.2.1,fun r=>(r.1.kind,r.1.frm,r.1.to,r.1.value.neg,r.1.variance.neg,r.2,r.1.value.mag,r.1.value.den,r.1.variance.mag,r.1.variance.den,())⟩
def zpm:Code:=Tryz.f11.body.getD .skip
def ziT:Code:=(zad zpm).getD 0 .skip
def zk5:LoopD:=⟨⟨zaj [(2,false,[.lp 128 0]),(4,false,[.lp 256 0]),(6,false,[.own 5312]),(7,false,[.d (.int .i64)])] 82 0,[(128,.box [.d (.bool),.d (.sl .sta)]),(256,.box [.d (.int .i64),.d (.int .i64),.d (.int .i64),.d (.bool),.d (.sl .int),.d (.sl .int),.d (.bool),.d (.sl .int),.d (.sl .int)]),(5312,.arr false .str)]⟩,[],[(.ret,⟨zaj [(4,false,[.lp 256 0]),(5,false,[.d (.bool)])] 82 0,[(256,.box [.d (.int .i64),.d (.int .i64),.d (.int .i64),.d (.bool),.own 5376,.own 5440,.d (.bool),.own 5504,.own 5568]),(5376,.arr false .int),(5440,.arr false .int),(5504,.arr false .int),(5568,.arr false .int)]⟩,[(.box 256 4,5376,.int),(.box 256 5,5440,.int),(.box 256 7,5504,.int),(.box 256 8,5568,.int)]),(.exit 0,⟨zaj [(4,false,[.lp 256 0])] 82 0,[(256,.box [.d (.int .i64),.d (.int .i64),.d (.int .i64),.d (.bool),.d (.sl .int),.d (.sl .int),.d (.bool),.d (.sl .int),.d (.sl .int)])]⟩,[])]⟩
def zq2 (x:Tys zk5.head.ks):Option (zd2 zk5.outs):=@whileO (Int × Bool × (List Sta) × Int × Int × Int × Bool × (List Int) × (List Int) × Bool × (List Int) × (List Int) × (List ByteArray) × Unit) ((Bool × Int × Int × Int × Bool × Bool × (List Int) × (List Int) × (List Int) × (List Int) × Unit) ⊕ (Int × Int × Int × Bool × (List Int) × (List Int) × Bool × (List Int) × (List Int) × Unit)) zao x
def zHo:Env:=⟨zbQ,[(45,zBC),(46,zBF),(47,zGD),(48,zGJ),(49,zuz),(50,zGE)],[(3,zbO zk5 zq2)],[(8,[(0,[]),(2,[]),(3,[]),(4,[]),(1,[0]),(5,[]),(6,[]),(7,[]),(8,[]),(9,[]),(10,[]),(11,[])]),(9,[(0,[]),(1,[]),(2,[]),(3,[]),(4,[]),(5,[1,4,3,2]),(6,[]),(7,[]),(8,[7,6,5,0,1,2,3,4])]),(11,[(0,[]),(1,[]),(2,[]),(3,[]),(4,[0,3,2,1]),(5,[]),(6,[5,4,0,1,2,3])])]⟩
theorem zt5:zak Tryz.prog FX zHo.cons:=zaa zMX (zab Tryz.func45 (by kernel_rfl)) (zaa zM0 (zab Tryz.func46 (by kernel_rfl)) (zaa zPq (zab Tryz.func47 (by kernel_rfl)) (zaa zPw (zab Tryz.func48 (by kernel_rfl)) (zaa zL2 (zab Tryz.func49 (by kernel_rfl)) (zaa zPr (zab Tryz.func50 (by kernel_rfl)) (zae))))))
theorem zxm (x:Tys zk5.head.ks):stepL zHo zk5 ziT x=zao x:=by kernel_rfl
theorem zth:zad ziT=[]:=by kernel_rfl
theorem zIg:zaR Tryz.prog FX (zbO zk5 zq2) ziT:=zau mix zaf zt5 (by kernel_rfl) (zac zth (trivial)) zxm fun _ _ h=>h
theorem zA2:zad zpm=[ziT]:=by kernel_rfl
theorem zL1:zax Tryz.prog FX 11 zuy:=zai (E:=zHo) (code:=zpm) mix zaf zt5 Tryz.func11 (by kernel_rfl) zDd (by kernel_rfl) (fun y=>((⟨y.1,y.2.1,y.2.2.1,(⟨y.2.2.2.1,y.2.2.2.2.2.2.1,y.2.2.2.2.2.2.2.1⟩:Rt),(⟨y.2.2.2.2.1,y.2.2.2.2.2.2.2.2.1,y.2.2.2.2.2.2.2.2.2.1⟩:Rt)⟩:Obs),y.2.2.2.2.2.1)) zuy.out (fun _=>rfl) zuy.run (fun x=>by kernel_rfl) (by kernel_rfl) (zac zA2 (⟨⟨_,by kernel_rfl,zIg⟩,trivial⟩))
def zDc:Sig:=⟨[(false,[.d (.str)])],[],true,[(true,[.d (.bool),.dp 0,.dp 1]),(false,[.d (.bool)])],[(0,.deep .sta),(1,.deep .obs)]⟩
def zzY:Con:=⟨zDc,Bk × Bool,fun x=>zdY x.1,fun r=>(r.1.plane,r.2,r.1.stations,r.1.obs,())⟩
def zpl:Code:=Tryz.f18.body.getD .skip
def ziS:Code:=(zad zpl).getD 0 .skip
def zk4:LoopD:=⟨⟨zaj [(0,false,[.d (.str)]),(2,false,[.lp 128 0]),(5,false,[.lp 320 0]),(42,false,[.d (.sl .str)]),(43,false,[.d (.int .i64)]),(44,false,[.d (.int .i64)])] 99 0,[(128,.box [.d (.bool),.dp 6528,.dp 6592]),(320,.box [.d (.bool),.dp 6400,.dp 6464]),(6400,.deep .sta),(6464,.deep .obs),(6528,.deep .sta),(6592,.deep .obs)]⟩,[(.boxD 128 1,6528,.sta),(.boxD 128 2,6592,.obs),(.boxD 320 1,6400,.sta),(.boxD 320 2,6464,.obs)],[(.ret,⟨zaj [(2,false,[.lp 128 0]),(3,false,[.d (.bool)])] 99 0,[(128,.box [.d (.bool),.dp 6528,.dp 6592]),(6528,.deep .sta),(6592,.deep .obs)]⟩,[(.boxD 128 1,6528,.sta),(.boxD 128 2,6592,.obs)]),(.exit 0,⟨zaj [(0,false,[.d (.str)]),(2,false,[.lp 128 0]),(5,false,[.lp 320 0])] 99 0,[(128,.box [.d (.bool),.dp 6528,.dp 6592]),(320,.box [.d (.bool),.dp 6400,.dp 6464]),(6400,.deep .sta),(6464,.deep .obs),(6528,.deep .sta),(6592,.deep .obs)]⟩,[(.boxD 128 1,6528,.sta),(.boxD 128 2,6592,.obs),(.boxD 320 1,6400,.sta),(.boxD 320 2,6464,.obs)])]⟩
def zq1 (x:Tys zk4.head.ks):Option (zd2 zk4.outs):=@whileO (ByteArray × (List ByteArray) × Int × Int × Bool × Bool × (List Sta) × (List Obs) × (List Sta) × (List Obs) × Unit) ((Bool × Bool × (List Sta) × (List Obs) × Unit) ⊕ (ByteArray × Bool × Bool × (List Sta) × (List Obs) × (List Sta) × (List Obs) × Unit)) S_impl_ParseBook_0 x
def zHn:Env:=⟨zbQ,[(58,zJz),(59,zzZ),(11,zuy),(21,zBE),(19,zGB)],[(6,zbO zk4 zq1)],[]⟩
theorem zt4:zak Tryz.prog FX zHn.cons:=zaa zRL (zab Tryz.func58 (by kernel_rfl)) (zaa zPN (zab Tryz.func59 (by kernel_rfl)) (zaa zL1 (zab Tryz.func11 (by kernel_rfl)) (zaa zMZ (zab Tryz.func21 (by kernel_rfl)) (zaa zPo (zab Tryz.func19 (by kernel_rfl)) (zae)))))
theorem zxl (x:Tys zk4.head.ks):stepL zHn zk4 ziS x=S_impl_ParseBook_0 x:=by kernel_rfl
theorem ztg:zad ziS=[]:=by kernel_rfl
theorem zIf:zaR Tryz.prog FX (zbO zk4 zq1) ziS:=zau mix zaf zt4 (by kernel_rfl) (zac ztg (trivial)) zxl fun _ _ h=>h
theorem zA1:zad zpl=[ziS]:=by kernel_rfl
theorem m_q115:zax Tryz.prog FX 18 zzY:=zai (E:=zHn) (code:=zpl) mix zaf zt4 Tryz.func18 (by kernel_rfl) zDc (by kernel_rfl) (fun y=>((⟨y.1,y.2.2.1,y.2.2.2.1⟩:Bk),y.2.1)) zzY.out (fun _=>rfl) zzY.run (fun x=>by kernel_rfl) (by kernel_rfl) (zac zA1 (⟨⟨_,by kernel_rfl,zIf⟩,trivial⟩))
def zDb:Sig:=⟨[(false,[.d (.sl .int)]),(false,[.d (.sl .int)])],[],false,[(false,[.d (.bool)])],[]⟩
def zzX:Con:=⟨zDb,Bool,fun x=>zdA x.1 x.2.1,fun r=>(r,())⟩
def zpk:Code:=Tryz.f155.body.getD .skip
def ziR:Code:=(zad zpk).getD 0 .skip
def zk3:LoopD:=⟨⟨zaj [(0,false,[.d (.sl .int)]),(1,false,[.d (.sl .int)]),(12,false,[.d (.int .i64)]),(13,false,[.d (.int .i64)])] 26 0,[]⟩,[],[(.ret,⟨zaj [(4,false,[.d (.bool)])] 26 0,[]⟩,[]),(.exit 0,⟨zaj [] 26 0,[]⟩,[])]⟩
def zq0 (x:Tys zk3.head.ks):Option (zd2 zk3.outs):=@whileO ((List Int) × (List Int) × Int × Int × Unit) ((Bool × Unit) ⊕ (Unit)) zcE x
def zHm:Env:=⟨zbQ,[],[(4,zbO zk3 zq0)],[(6,[(0,[]),(1,[]),(2,[]),(3,[]),(4,[]),(5,[]),(6,[]),(7,[]),(8,[])])]⟩
theorem zt3:zak Tryz.prog FX zHm.cons:=zae
theorem zxk (x:Tys zk3.head.ks):stepL zHm zk3 ziR x=zcE x:=by kernel_rfl
theorem ztf:zad ziR=[]:=by kernel_rfl
theorem zIe:zaR Tryz.prog FX (zbO zk3 zq0) ziR:=zau mix zaf zt3 (by kernel_rfl) (zac ztf (trivial)) zxk fun _ _ h=>h
theorem zA0:zad zpk=[ziR]:=by kernel_rfl
theorem m_q116:zax Tryz.prog FX 155 zzX:=zai (E:=zHm) (code:=zpk) mix zaf zt3 Tryz.func155 (by kernel_rfl) zDb (by kernel_rfl) (fun y=>y.1) zzX.out (fun _=>rfl) zzX.run (fun x=>by kernel_rfl) (by kernel_rfl) (zac zA0 (⟨⟨_,by kernel_rfl,zIe⟩,trivial⟩))
def zDa:Sig:=⟨[(true,[.d (.bool),.d (.sl .int),.d (.sl .int)]),(true,[.d (.bool),.d (.sl .int),.d (.sl .int)])],[],false,[(false,[.d (.bool)])],[]⟩
def zux:Con:=⟨zDa,Bool,fun x=>zcQ (⟨x.1,x.2.1,x.2.2.1⟩:Rt) (⟨x.2.2.2.1,x.2.2.2.2.1,x.2.2.2.2.2.1⟩:Rt),fun r=>(r,())⟩
def zue:Code:=Tryz.f113.body.getD .skip
def zMm:Env:=⟨zbQ,[(155,zzX)],[],[]⟩
theorem zGd:zak Tryz.prog FX zMm.cons:=zaa m_q116 (zab Tryz.func155 (by kernel_rfl)) (zae)
theorem zAZ:zad zue=[]:=by kernel_rfl
theorem zL0:zax Tryz.prog FX 113 zux:=zai (E:=zMm) (code:=zue) mix zaf zGd Tryz.func113 (by kernel_rfl) zDa (by kernel_rfl) (fun y=>y.1) zux.out (fun _=>rfl) zux.run (fun x=>by kernel_rfl) (by kernel_rfl) (zac zAZ (trivial))
def zC9:Sig:=⟨[(true,[.d (.bool),.d (.sl .sta)]),(true,[.d (.bool),.d (.sl .sta)])],[],false,[(false,[.d (.bool)])],[]⟩
def zzW:Con:=⟨zC9,Bool,fun x=>zdP (⟨x.1,x.2.1⟩:Net) (⟨x.2.2.1,x.2.2.2.1⟩:Net),fun r=>(r,())⟩
def zpj:Code:=Tryz.f61.body.getD .skip
def ziQ:Code:=(zad zpj).getD 0 .skip
def zk2:LoopD:=⟨⟨zaj [(3,false,[.lp 192 0]),(23,false,[.d (.sl .sta)]),(24,false,[.d (.int .i64)]),(25,false,[.d (.int .i64)])] 64 0,[(192,.box [.d (.bool),.d (.sl .sta)])]⟩,[],[(.ret,⟨zaj [(4,false,[.d (.bool)])] 64 0,[]⟩,[]),(.exit 0,⟨zaj [] 64 0,[]⟩,[])]⟩
def zqZ (x:Tys zk2.head.ks):Option (zd2 zk2.outs):=@whileO ((List Sta) × Int × Int × Bool × (List Sta) × Unit) ((Bool × Unit) ⊕ (Unit)) zbB x
def zHl:Env:=⟨zbQ,[(113,zux)],[(4,zbO zk2 zqZ)],[]⟩
theorem zt2:zak Tryz.prog FX zHl.cons:=zaa zL0 (zab Tryz.func113 (by kernel_rfl)) (zae)
theorem zxj (x:Tys zk2.head.ks):stepL zHl zk2 ziQ x=zbB x:=by kernel_rfl
theorem zte:zad ziQ=[]:=by kernel_rfl
theorem zId:zaR Tryz.prog FX (zbO zk2 zqZ) ziQ:=zau mix zaf zt2 (by kernel_rfl) (zac zte (trivial)) zxj fun _ _ h=>h
theorem zAY:zad zpj=[ziQ]:=by kernel_rfl
theorem zPM:zax Tryz.prog FX 61 zzW:=zai (E:=zHl) (code:=zpj) mix zaf zt2 Tryz.func61 (by kernel_rfl) zC9 (by kernel_rfl) (fun y=>y.1) zzW.out (fun _=>rfl) zzW.run (fun x=>by kernel_rfl) (by kernel_rfl) (zac zAY (⟨⟨_,by kernel_rfl,zId⟩,trivial⟩))
def zC8:Sig:=⟨[(true,[.d (.int .i64),.d (.int .i64),.d (.int .i64),.d (.bool),.d (.sl .int),.d (.sl .int),.d (.bool),.d (.sl .int),.d (.sl .int)]),(true,[.d (.int .i64),.d (.int .i64),.d (.int .i64),.d (.bool),.d (.sl .int),.d (.sl .int),.d (.bool),.d (.sl .int),.d (.sl .int)])],[],false,[(false,[.d (.bool)])],[]⟩
def zzV:Con:=⟨zC8,Bool,fun x=>zcT (⟨x.1,x.2.1,x.2.2.1,(⟨x.2.2.2.1,x.2.2.2.2.1,x.2.2.2.2.2.1⟩:Rt),(⟨x.2.2.2.2.2.2.1,x.2.2.2.2.2.2.2.1,x.2.2.2.2.2.2.2.2.1⟩:Rt)⟩:Obs) (⟨x.2.2.2.2.2.2.2.2.2.1,x.2.2.2.2.2.2.2.2.2.2.1,x.2.2.2.2.2.2.2.2.2.2.2.1,(⟨x.2.2.2.2.2.2.2.2.2.2.2.2.1,x.2.2.2.2.2.2.2.2.2.2.2.2.2.1,x.2.2.2.2.2.2.2.2.2.2.2.2.2.2.1⟩:Rt),(⟨x.2.2.2.2.2.2.2.2.2.2.2.2.2.2.2.1,x.2.2.2.2.2.2.2.2.2.2.2.2.2.2.2.2.1,x.2.2.2.2.2.2.2.2.2.2.2.2.2.2.2.2.2.1⟩:Rt)⟩:Obs),fun r=>(r,())⟩
def zua:Code:=Tryz.f66.body.getD .skip
def zMl:Env:=⟨zbQ,[(113,zux)],[],[]⟩
theorem zGc:zak Tryz.prog FX zMl.cons:=zaa zL0 (zab Tryz.func113 (by kernel_rfl)) (zae)
theorem zAX:zad zua=[]:=by kernel_rfl
theorem zPL:zax Tryz.prog FX 66 zzV:=zai (E:=zMl) (code:=zua) mix zaf zGc Tryz.func66 (by kernel_rfl) zC8 (by kernel_rfl) (fun y=>y.1) zzV.out (fun _=>rfl) zzV.run (fun x=>by kernel_rfl) (by kernel_rfl) (zac zAX (trivial))
def zC7:Sig:=⟨[(false,[.d (.sl .obs)]),(false,[.d (.sl .obs)])],[],false,[(false,[.d (.bool)])],[]⟩
def zuw:Con:=⟨zC7,Bool,fun x=>zbM x.1 x.2.1,fun r=>(r,())⟩
def zpi:Code:=Tryz.f24.body.getD .skip
def ziP:Code:=(zad zpi).getD 0 .skip
def zk1:LoopD:=⟨⟨zaj [(0,false,[.d (.sl .obs)]),(1,false,[.d (.sl .obs)]),(12,false,[.d (.int .i64)]),(13,false,[.d (.int .i64)])] 27 0,[]⟩,[],[(.ret,⟨zaj [(4,false,[.d (.bool)])] 27 0,[]⟩,[]),(.exit 0,⟨zaj [] 27 0,[]⟩,[])]⟩
def zqY (x:Tys zk1.head.ks):Option (zd2 zk1.outs):=@whileO ((List Obs) × (List Obs) × Int × Int × Unit) ((Bool × Unit) ⊕ (Unit)) zbe x
def zHk:Env:=⟨zbQ,[(66,zzV)],[(4,zbO zk1 zqY)],[(6,[(0,[]),(1,[]),(2,[]),(3,[]),(4,[]),(5,[]),(6,[]),(7,[]),(8,[3,7,2,6,0,1,4,5]),(9,[])])]⟩
theorem zt1:zak Tryz.prog FX zHk.cons:=zaa zPL (zab Tryz.func66 (by kernel_rfl)) (zae)
theorem zxi (x:Tys zk1.head.ks):stepL zHk zk1 ziP x=zbe x:=by kernel_rfl
theorem ztd:zad ziP=[]:=by kernel_rfl
theorem zIc:zaR Tryz.prog FX (zbO zk1 zqY) ziP:=zau mix zaf zt1 (by kernel_rfl) (zac ztd (trivial)) zxi fun _ _ h=>h
theorem zAW:zad zpi=[ziP]:=by kernel_rfl
theorem zLZ:zax Tryz.prog FX 24 zuw:=zai (E:=zHk) (code:=zpi) mix zaf zt1 Tryz.func24 (by kernel_rfl) zC7 (by kernel_rfl) (fun y=>y.1) zuw.out (fun _=>rfl) zuw.run (fun x=>by kernel_rfl) (by kernel_rfl) (zac zAW (⟨⟨_,by kernel_rfl,zIc⟩,trivial⟩))
def zC6:Sig:=⟨[(true,[.d (.bool),.d (.sl .sta),.d (.sl .obs)]),(true,[.d (.bool),.d (.sl .sta),.d (.sl .obs)])],[],false,[(false,[.d (.bool)])],[]⟩
def zzU:Con:=⟨zC6,Bool,fun x=>ze3 (⟨x.1,x.2.1,x.2.2.1⟩:Bk) (⟨x.2.2.2.1,x.2.2.2.2.1,x.2.2.2.2.2.1⟩:Bk),fun r=>(r,())⟩
def zt9:Code:=Tryz.f20.body.getD .skip
def zMk:Env:=⟨zbQ,[(61,zzW),(24,zuw)],[],[]⟩
theorem zGb:zak Tryz.prog FX zMk.cons:=zaa zPM (zab Tryz.func61 (by kernel_rfl)) (zaa zLZ (zab Tryz.func24 (by kernel_rfl)) (zae))
theorem zAV:zad zt9=[]:=by kernel_rfl
theorem zPK:zax Tryz.prog FX 20 zzU:=zai (E:=zMk) (code:=zt9) mix zaf zGb Tryz.func20 (by kernel_rfl) zC6 (by kernel_rfl) (fun y=>y.1) zzU.out (fun _=>rfl) zzU.run (fun x=>by kernel_rfl) (by kernel_rfl) (zac zAV (trivial))
def zC5:Sig:=⟨[(false,[.d (.sl .int)]),(false,[.d (.int .i64)])],[],false,[(false,[.d (.bool)])],[]⟩
def zzT:Con:=⟨zC5,Bool,fun x=>zbb x.1 x.2.1,fun r=>(r,())⟩
def zph:Code:=Tryz.f67.body.getD .skip
def ziO:Code:=(zad zph).getD 0 .skip
def zk0:LoopD:=⟨⟨zaj [(1,false,[.d (.int .i64)]),(7,false,[.d (.sl .int)]),(8,false,[.d (.int .i64)]),(9,false,[.d (.int .i64)])] 17 0,[]⟩,[],[(.ret,⟨zaj [(4,false,[.d (.bool)])] 17 0,[]⟩,[]),(.exit 0,⟨zaj [] 17 0,[]⟩,[])]⟩
def zqX (x:Tys zk0.head.ks):Option (zd2 zk0.outs):=@whileO (Int × (List Int) × Int × Int × Unit) ((Bool × Unit) ⊕ (Unit)) zbt x
def zHj:Env:=⟨zbQ,[],[(2,zbO zk0 zqX)],[]⟩
theorem zt0:zak Tryz.prog FX zHj.cons:=zae
theorem zxh (x:Tys zk0.head.ks):stepL zHj zk0 ziO x=zbt x:=by kernel_rfl
theorem ztc:zad ziO=[]:=by kernel_rfl
theorem zIb:zaR Tryz.prog FX (zbO zk0 zqX) ziO:=zau mix zaf zt0 (by kernel_rfl) (zac ztc (trivial)) zxh fun _ _ h=>h
theorem zAU:zad zph=[ziO]:=by kernel_rfl
theorem zPJ:zax Tryz.prog FX 67 zzT:=zai (E:=zHj) (code:=zph) mix zaf zt0 Tryz.func67 (by kernel_rfl) zC5 (by kernel_rfl) (fun y=>y.1) zzT.out (fun _=>rfl) zzT.run (fun x=>by kernel_rfl) (by kernel_rfl) (zac zAU (⟨⟨_,by kernel_rfl,zIb⟩,trivial⟩))
def zC4:Sig:=⟨[(true,[.d (.int .i64),.d (.int .i64),.d (.int .i64),.d (.bool),.d (.sl .int),.d (.sl .int),.d (.bool),.d (.sl .int),.d (.sl .int)])],[],false,[(true,[.d (.int .i64),.d (.int .i64),.d (.int .i64),.d (.bool),.own 0,.own 1,.d (.bool),.own 2,.own 3])],[(0,.arr false .int),(1,.arr false .int),(2,.arr false .int),(3,.arr false .int)]⟩
def zzS:Con:=⟨zC4,Obs,fun x=>zcU (⟨x.1,x.2.1,x.2.2.1,(⟨x.2.2.2.1,x.2.2.2.2.1,x.2.2.2.2.2.1⟩:Rt),(⟨x.2.2.2.2.2.2.1,x.2.2.2.2.2.2.2.1,x.2.2.2.2.2.2.2.2.1⟩:Rt)⟩:Obs),fun r=>(r.kind,r.frm,r.to,r.value.neg,r.variance.neg,r.value.mag,r.value.den,r.variance.mag,r.variance.den,())⟩
def zt8:Code:=Tryz.f68.body.getD .skip
def zMj:Env:=⟨zbQ,[(117,zGA)],[],[(1,[(0,[]),(1,[]),(3,[]),(4,[]),(2,[1,0]),(6,[]),(5,[4,2,3,1,0]),(7,[6,2,5,0,1,3,4]),(8,[]),(9,[8,5,7,0,1,2,3,4,6])])]⟩
theorem zGa:zak Tryz.prog FX zMj.cons:=zaa zPn (zab Tryz.func117 (by kernel_rfl)) (zae)
theorem zAT:zad zt8=[]:=by kernel_rfl
theorem m_q123:zax Tryz.prog FX 68 zzS:=zai (E:=zMj) (code:=zt8) mix zaf zGa Tryz.func68 (by kernel_rfl) zC4 (by kernel_rfl) (fun y=>(⟨y.1,y.2.1,y.2.2.1,(⟨y.2.2.2.1,y.2.2.2.2.2.1,y.2.2.2.2.2.2.1⟩:Rt),(⟨y.2.2.2.2.1,y.2.2.2.2.2.2.2.1,y.2.2.2.2.2.2.2.2.1⟩:Rt)⟩:Obs)) zzS.out (fun _=>rfl) zzS.run (fun x=>by kernel_rfl) (by kernel_rfl) (zac zAT (trivial))
def zC3:Sig:=⟨[(false,[.d (.sl .obs)]),(false,[.d (.sl .int)])],[],false,[(false,[.dp 0])],[(0,.deep .obs)]⟩
def zzR:Con:=⟨zC3,List Obs,fun x=>zbY x.1 x.2.1,fun r=>(r,())⟩
def zpg:Code:=Tryz.f25.body.getD .skip
def ziN:Code:=(zad zpg).getD 0 .skip
def zkZ:LoopD:=⟨⟨zaj [(1,false,[.d (.sl .int)]),(5,false,[.dp 1728]),(8,false,[.d (.sl .obs)]),(9,false,[.d (.int .i64)]),(10,false,[.d (.int .i64)])] 26 0,[(1728,.deep .obs)]⟩,[(.slotD 5 0,1728,.obs)],[(.exit 0,⟨zaj [(5,false,[.dp 1728])] 26 0,[(1728,.deep .obs)]⟩,[(.slotD 5 0,1728,.obs)])]⟩
def zqW (x:Tys zkZ.head.ks):Option (zd2 zkZ.outs):=@whileO ((List Int) × (List Obs) × Int × Int × (List Obs) × Unit) ((List Obs) × Unit) za0 x
def zHi:Env:=⟨zbQ,[(67,zzT),(68,zzS)],[(3,zbO zkZ zqW)],[]⟩
theorem ztZ:zak Tryz.prog FX zHi.cons:=zaa zPJ (zab Tryz.func67 (by kernel_rfl)) (zaa m_q123 (zab Tryz.func68 (by kernel_rfl)) (zae))
theorem zxg (x:Tys zkZ.head.ks):stepL zHi zkZ ziN x=za0 x:=by kernel_rfl
theorem ztb:zad ziN=[]:=by kernel_rfl
theorem zIa:zaR Tryz.prog FX (zbO zkZ zqW) ziN:=zau mix zaf ztZ (by kernel_rfl) (zac ztb (trivial)) zxg fun _ _ h=>h
theorem zAS:zad zpg=[ziN]:=by kernel_rfl
theorem zPI:zax Tryz.prog FX 25 zzR:=zai (E:=zHi) (code:=zpg) mix zaf ztZ Tryz.func25 (by kernel_rfl) zC3 (by kernel_rfl) (fun y=>y.1) zzR.out (fun _=>rfl) zzR.run (fun x=>by kernel_rfl) (by kernel_rfl) (zac zAS (⟨⟨_,by kernel_rfl,zIa⟩,trivial⟩))
def zC2:Sig:=⟨[(false,[.d (.sl .byte)])],[],false,[(false,[.d (.bool)])],[]⟩
def zGW:Con:=⟨zC2,Bool,fun x=>zhM x.1,fun r=>(r,())⟩
def zpf:Code:=Tryz.f4.body.getD .skip
def ziM:Code:=(zad zpf).getD 0 .skip
def zkY:LoopD:=⟨⟨zaj [(3,false,[.lp 192 0]),(4,false,[.d (.sl .obs)]),(48,false,[.d (.sl .obs)]),(49,false,[.d (.int .i64)]),(50,false,[.d (.int .i64)])] 81 0,[(192,.box [.d (.bool),.d (.sl .sta)])]⟩,[],[(.ret,⟨zaj [(2,false,[.d (.bool)])] 81 0,[]⟩,[]),(.exit 0,⟨zaj [(4,false,[.d (.sl .obs)])] 81 0,[]⟩,[])]⟩
def zqV (x:Tys zkY.head.ks):Option (zd2 zkY.outs):=@whileO ((List Obs) × (List Obs) × Int × Int × Bool × (List Sta) × Unit) ((Bool × Unit) ⊕ ((List Obs) × Unit)) zcY x
def zHh:Env:=⟨lay,[(17,zJN),(19,zGB),(18,zzY),(20,zzU),(21,zBE),(22,zGG),(23,zGC),(11,zuy),(24,zuw),(25,zzR)],[(9,zbO zkY zqV)],[(11,[(0,[]),(1,[]),(2,[]),(3,[1,2]),(4,[0,3,1,2]),(5,[]),(6,[]),(7,[]),(8,[]),(9,[8,6,4,0,1,2,3,5]),(10,[7,9,0,1,2,3,4,5,6,8])])]⟩
theorem ztY:zak Tryz.prog FX zHh.cons:=zaa zR1 (zab Tryz.func17 (by kernel_rfl)) (zaa zPo (zab Tryz.func19 (by kernel_rfl)) (zaa m_q115 (zab Tryz.func18 (by kernel_rfl)) (zaa zPK (zab Tryz.func20 (by kernel_rfl)) (zaa zMZ (zab Tryz.func21 (by kernel_rfl)) (zaa zPt (zab Tryz.func22 (by kernel_rfl)) (zaa zPp (zab Tryz.func23 (by kernel_rfl)) (zaa zL1 (zab Tryz.func11 (by kernel_rfl)) (zaa zLZ (zab Tryz.func24 (by kernel_rfl)) (zaa zPI (zab Tryz.func25 (by kernel_rfl)) (zae))))))))))
theorem zxf (x:Tys zkY.head.ks):stepL zHh zkY ziM x=zcY x:=by kernel_rfl
theorem zta:zad ziM=[]:=by kernel_rfl
theorem zH9:zaR Tryz.prog FX (zbO zkY zqV) ziM:=zau mix zto ztY (by kernel_rfl) (zac zta (trivial)) zxf fun _ _ h=>h
theorem zAR:zad zpf=[ziM]:=by kernel_rfl
theorem m_q125:zax Tryz.prog FX 4 zGW:=zai (E:=zHh) (code:=zpf) mix zto ztY Tryz.func4 (by kernel_rfl) zC2 (by kernel_rfl) (fun y=>y.1) zGW.out (fun _=>rfl) zGW.run (fun x=>by kernel_rfl) (by kernel_rfl) (zac zAR (⟨⟨_,by kernel_rfl,zH9⟩,trivial⟩))
end Go.Proofs.YtdkfcdncamimmaaGreatDoor.WBooks
