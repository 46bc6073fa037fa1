/-
  Own work: part 7 of the texts that the proof of the given statement leans on.
-/
import Derived.Shelf.Strings.Builder1
import Derived.Shelf.Strings.Builder2
import Derived.Shelf.Strings.OnBuilder
import Derived.Shelf.Small.Strs
import Derived.Shelf.Small.Wraps
import Derived.Shelf.Strings.BuilderF
import Derived.Shelf.Strconv.Atoi
import Derived.Shelf.Strconv.Itoa0
import Derived.Shelf.Strconv.Itoa1
import Derived.Shelf.LaysM
import Derived.Shelf.Strconv.Itoa2
import Derived.Shelf.Strconv.Itoa3
import Derived.Shelf.Strconv.AtoiErrFast
import Derived.Shelf.Strconv.ParseIntEmpty
import Derived.Shelf.Strconv.AtoiFail
import Derived.Shelf.Strconv.Clone
import Derived.Shelf.Strconv.SyntaxError
import Derived.Shelf.LaysC
import Derived.Shelf.Strconv.ToError
import Derived.Shelf.Strconv.Lower
import Derived.Shelf.Strconv.ParseUint10
import Derived.Shelf.Strconv.ParseUint10Empty
import Derived.Shelf.Strconv.ParseUint10Any
import Derived.Shelf.Strconv.ParseInt10
import Derived.Shelf.Strconv.AtoiLong
import Derived.Shelf.Strconv.AtoiInnerAll
import Derived.Shelf.Strconv.RangeError
import Derived.Shelf.Strconv.ToErrorRange
import Derived.Shelf.Strconv.AtoiAll
import Derived.Shelf.Strings.Search1
import Derived.Shelf.Strings.Search2
import Derived.Shelf.Strings.Cut
import Derived.Shelf.Strings.Shaped
import Derived.Shelf.Strings.Prefix
import Derived.Shelf.Bits.Mul64
import Derived.Shelf.Strings.Repeat
import Derived.Test.YtdkfcdncamimmaaGreatDoorProg
import Derived.Lib.AppendIntMem
import Derived.Lib.LaidTab
import Derived.Lib.SmallJoins
import Derived.WalkSmall
import Derived.Test.YtdkfcdncamimmaaGreatDoorZE01
noncomputable section
namespace Go.Proofs
open Go.Shelf Go.RowKit
def Tryz.lays156_ren:Go.Shelf.Ren:=⟨fun | 156=>116 | 165=>158 | 166=>159 | 169=>160 | 240=>190 | 241=>191 | 276=>221 | 277=>222 | n=>n,fun | 31=>77 | 9=>9 | 3=>3 | 4=>4 | 0=>0 | 20=>20 | 72=>163 | 76=>152 | 70=>161 | 37=>44 | 75=>151 | 127=>176 | 164=>196 | 5=>5 | 80=>165 | n=>n,fun | n=>n⟩
theorem Tryz.lays156:Go.Proofs.Lays.n156 Tryz.prog Tryz.lays156_ren:={
 mixed:=by kernel_rfl
 f156:=Tryz.func116.trans (congrArg some (by kernel_rfl))
 f165:=Tryz.func158.trans (congrArg some (by kernel_rfl))
 f166:=Tryz.func159.trans (congrArg some (by kernel_rfl))
 f169:=Tryz.func160.trans (congrArg some (by kernel_rfl))
 f240:=Tryz.func190.trans (congrArg some (by kernel_rfl))
 f241:=Tryz.func191.trans (congrArg some (by kernel_rfl))
 f276:=Tryz.func221.trans (congrArg some (by kernel_rfl))
 f277:=Tryz.func222.trans (congrArg some (by kernel_rfl))
 t0:=Tryz.underlying0
 a0:=Tryz.isAgg0
 z0:=Tryz.sizeOf0
 v0:=Tryz.zeroValue0
 t3:=Tryz.underlying3
 a3:=Tryz.isAgg3
 z3:=Tryz.sizeOf3
 v3:=Tryz.zeroValue3
 t4:=Tryz.underlying4
 a4:=Tryz.isAgg4
 z4:=Tryz.sizeOf4
 v4:=Tryz.zeroValue4
 t9:=Tryz.underlying9
 a9:=Tryz.isAgg9
 z9:=Tryz.sizeOf9
 v9:=Tryz.zeroValue9
 t20:=Tryz.underlying20
 a20:=Tryz.isAgg20
 z20:=Tryz.sizeOf20
 v20:=Tryz.zeroValue20
 t31:=Tryz.underlying77
 a31:=Tryz.isAgg77
 z31:=Tryz.sizeOf77
 v31:=Tryz.zeroValue77
 t37:=Tryz.underlying44
 a37:=Tryz.isAgg44
 z37:=Tryz.sizeOf44
 v37:=Tryz.zeroValue44
 t70:=Tryz.underlying161
 a70:=Tryz.isAgg161
 z70:=Tryz.sizeOf161
 v70:=Tryz.zeroValue161
 t72:=Tryz.underlying163
 a72:=Tryz.isAgg163
 z72:=Tryz.sizeOf163
 v72:=Tryz.zeroValue163
 t75:=Tryz.underlying151
 a75:=Tryz.isAgg151
 z75:=Tryz.sizeOf151
 v75:=Tryz.zeroValue151
 t76:=Tryz.underlying152
 a76:=Tryz.isAgg152
 z76:=Tryz.sizeOf152
 v76:=Tryz.zeroValue152
 t127:=Tryz.underlying176
 a127:=Tryz.isAgg176
 z127:=Tryz.sizeOf176
 v127:=Tryz.zeroValue176
 t164:=Tryz.underlying196
 a164:=Tryz.isAgg196
 z164:=Tryz.sizeOf196
 v164:=Tryz.zeroValue196 }
theorem Tryz.Builder_Extra_156:Builder.Extra Tryz.prog Tryz.lays156_ren:={
 sizeBuilder:=by kernel_rfl
 liesBuilder:=by kernel_rfl
 t5:=Tryz.underlying5
 a5:=Tryz.isAgg5
 z5:=Tryz.sizeOf5
 v5:=Tryz.zeroValue5
 infoByte:=by kernel_rfl
 cellsByte:=by kernel_rfl
 sizeByte:=by kernel_rfl
 neB5:=by decide }
theorem Tryz.strings_Join (bk o c:Nat) (xs:List ByteArray) (sep:ByteArray) (w:World) (hcells:∀ (j:Nat) x,xs[j]? = some x→w.cell? ⟨bk,o+j,none⟩=some (.string x)) (hbk:bk < w.heap.size) (hN:xs.length≤140737488355328) (hcap:xs.length≤c) (hlen:(Lib.join (xs.map (·.data.toList)) sep.data.toList).length≤140737488355328) :
  Calls Tryz.prog 116 #[.slice (some ⟨bk,o,none⟩) xs.length c,.string sep] w fun e w'=>e = .returned (.string ⟨(Lib.join (xs.map (·.data.toList)) sep.data.toList).toArray⟩)∧Below w.heap.size w w':=Any.strings_Join Tryz.lays156 Tryz.Builder_Extra_156 bk o c xs sep w hcells hbk hN hcap hlen
def Tryz.lays137_ren:Go.Shelf.Ren:=⟨fun | 137=>89 | 217=>134 | 266=>169 | n=>n,fun | 9=>9 | 5=>5 | 3=>3 | n=>n,fun | n=>n⟩
theorem Tryz.lays137:Go.Proofs.Lays.n137 Tryz.prog Tryz.lays137_ren:={
 mixed:=by kernel_rfl
 f137:=Tryz.func89.trans (congrArg some (by kernel_rfl))
 f217:=Tryz.func134.trans (congrArg some (by kernel_rfl))
 f266:=Tryz.func169.trans (congrArg some (by kernel_rfl))
 t3:=Tryz.underlying3
 a3:=Tryz.isAgg3
 z3:=Tryz.sizeOf3
 v3:=Tryz.zeroValue3
 t5:=Tryz.underlying5
 a5:=Tryz.isAgg5
 z5:=Tryz.sizeOf5
 v5:=Tryz.zeroValue5
 t9:=Tryz.underlying9
 a9:=Tryz.isAgg9
 z9:=Tryz.sizeOf9
 v9:=Tryz.zeroValue9 }
theorem Tryz.strings_IndexByte (s:ByteArray) (c:Int) (w:World) :
  Calls Tryz.prog 89 #[.string s,.int .u8 c] w fun e w'=>e = .returned (.int .i64 (Lib.indexByte s.data.toList c.toNat.toUInt8))∧w'=w:=Any.strings_IndexByte Tryz.lays137 s c w
def Tryz.lays172_ren:Go.Shelf.Ren:=⟨fun | 172=>139 | 244=>172 | 245=>173 | 247=>199 | 279=>200 | 280=>201 | 281=>202 | 282=>203 | 287=>226 | 316=>227 | 171=>153 | 205=>228 | 321=>238 | 322=>239 | 243=>188 | 246=>217 | 283=>232 | 284=>233 | 285=>234 | 286=>235 | 129=>241 | 317=>240 | 318=>242 | 319=>243 | 320=>244 | 337=>245 | 338=>246 | n=>n,fun | 9=>9 | 3=>3 | 75=>151 | 76=>152 | 4=>4 | 5=>5 | 167=>182 | 37=>44 | 0=>0 | 85=>183 | 2=>2 | 168=>185 | 53=>204 | 175=>205 | 46=>171 | 210=>209 | 127=>176 | 145=>223 | 143=>221 | 21=>21 | 171=>212 | 173=>215 | 212=>224 | 51=>201 | 20=>20 | 213=>225 | 232=>228 | 233=>229 | 80=>165 | n=>n,fun | 15=>1 | 16=>2 | 17=>3 | 18=>4 | 19=>5 | n=>n⟩
theorem Tryz.lays172:Go.Proofs.Lays.n172 Tryz.prog Tryz.lays172_ren:={
 mixed:=by kernel_rfl
 f129:=Tryz.func241.trans (congrArg some (by kernel_rfl))
 f171:=Tryz.func153.trans (congrArg some (by kernel_rfl))
 f172:=Tryz.func139.trans (congrArg some (by kernel_rfl))
 f205:=Tryz.func228.trans (congrArg some (by kernel_rfl))
 f243:=Tryz.func188.trans (congrArg some (by kernel_rfl))
 f244:=Tryz.func172.trans (congrArg some (by kernel_rfl))
 f245:=Tryz.func173.trans (congrArg some (by kernel_rfl))
 f246:=Tryz.func217.trans (congrArg some (by kernel_rfl))
 f247:=Tryz.func199.trans (congrArg some (by kernel_rfl))
 f279:=Tryz.func200.trans (congrArg some (by kernel_rfl))
 f280:=Tryz.func201.trans (congrArg some (by kernel_rfl))
 f281:=Tryz.func202.trans (congrArg some (by kernel_rfl))
 f282:=Tryz.func203.trans (congrArg some (by kernel_rfl))
 f283:=Tryz.func232.trans (congrArg some (by kernel_rfl))
 f284:=Tryz.func233.trans (congrArg some (by kernel_rfl))
 f285:=Tryz.func234.trans (congrArg some (by kernel_rfl))
 f286:=Tryz.func235.trans (congrArg some (by kernel_rfl))
 f287:=Tryz.func226.trans (congrArg some (by kernel_rfl))
 f316:=Tryz.func227.trans (congrArg some (by kernel_rfl))
 f317:=Tryz.func240.trans (congrArg some (by kernel_rfl))
 f318:=Tryz.func242.trans (congrArg some (by kernel_rfl))
 f319:=Tryz.func243.trans (congrArg some (by kernel_rfl))
 f320:=Tryz.func244.trans (congrArg some (by kernel_rfl))
 f321:=Tryz.func238.trans (congrArg some (by kernel_rfl))
 f322:=Tryz.func239.trans (congrArg some (by kernel_rfl))
 f337:=Tryz.func245.trans (congrArg some (by kernel_rfl))
 f338:=Tryz.func246.trans (congrArg some (by kernel_rfl))
 t0:=Tryz.underlying0
 a0:=Tryz.isAgg0
 z0:=Tryz.sizeOf0
 v0:=Tryz.zeroValue0
 t2:=Tryz.underlying2
 a2:=Tryz.isAgg2
 z2:=Tryz.sizeOf2
 v2:=Tryz.zeroValue2
 t3:=Tryz.underlying3
 a3:=Tryz.isAgg3
 z3:=Tryz.sizeOf3
 v3:=Tryz.zeroValue3
 t4:=Tryz.underlying4
 a4:=Tryz.isAgg4
 z4:=Tryz.sizeOf4
 v4:=Tryz.zeroValue4
 t5:=Tryz.underlying5
 a5:=Tryz.isAgg5
 z5:=Tryz.sizeOf5
 v5:=Tryz.zeroValue5
 t9:=Tryz.underlying9
 a9:=Tryz.isAgg9
 z9:=Tryz.sizeOf9
 v9:=Tryz.zeroValue9
 t20:=Tryz.underlying20
 a20:=Tryz.isAgg20
 z20:=Tryz.sizeOf20
 v20:=Tryz.zeroValue20
 t21:=Tryz.underlying21
 a21:=Tryz.isAgg21
 z21:=Tryz.sizeOf21
 v21:=Tryz.zeroValue21
 t37:=Tryz.underlying44
 a37:=Tryz.isAgg44
 z37:=Tryz.sizeOf44
 v37:=Tryz.zeroValue44
 t46:=Tryz.underlying171
 a46:=Tryz.isAgg171
 z46:=Tryz.sizeOf171
 v46:=Tryz.zeroValue171
 t51:=Tryz.underlying201
 a51:=Tryz.isAgg201
 z51:=Tryz.sizeOf201
 v51:=Tryz.zeroValue201
 t53:=Tryz.underlying204
 a53:=Tryz.isAgg204
 z53:=Tryz.sizeOf204
 v53:=Tryz.zeroValue204
 t75:=Tryz.underlying151
 a75:=Tryz.isAgg151
 z75:=Tryz.sizeOf151
 v75:=Tryz.zeroValue151
 t76:=Tryz.underlying152
 a76:=Tryz.isAgg152
 z76:=Tryz.sizeOf152
 v76:=Tryz.zeroValue152
 t85:=Tryz.underlying183
 a85:=Tryz.isAgg183
 z85:=Tryz.sizeOf183
 v85:=Tryz.zeroValue183
 t127:=Tryz.underlying176
 a127:=Tryz.isAgg176
 z127:=Tryz.sizeOf176
 v127:=Tryz.zeroValue176
 t143:=Tryz.underlying221
 a143:=Tryz.isAgg221
 z143:=Tryz.sizeOf221
 v143:=Tryz.zeroValue221
 t145:=Tryz.underlying223
 a145:=Tryz.isAgg223
 z145:=Tryz.sizeOf223
 v145:=Tryz.zeroValue223
 t167:=Tryz.underlying182
 a167:=Tryz.isAgg182
 z167:=Tryz.sizeOf182
 v167:=Tryz.zeroValue182
 t168:=Tryz.underlying185
 a168:=Tryz.isAgg185
 z168:=Tryz.sizeOf185
 v168:=Tryz.zeroValue185
 t171:=Tryz.underlying212
 a171:=Tryz.isAgg212
 z171:=Tryz.sizeOf212
 v171:=Tryz.zeroValue212
 t173:=Tryz.underlying215
 a173:=Tryz.isAgg215
 z173:=Tryz.sizeOf215
 v173:=Tryz.zeroValue215
 t175:=Tryz.underlying205
 a175:=Tryz.isAgg205
 z175:=Tryz.sizeOf205
 v175:=Tryz.zeroValue205
 t210:=Tryz.underlying209
 a210:=Tryz.isAgg209
 z210:=Tryz.sizeOf209
 v210:=Tryz.zeroValue209
 t212:=Tryz.underlying224
 a212:=Tryz.isAgg224
 z212:=Tryz.sizeOf224
 v212:=Tryz.zeroValue224
 t213:=Tryz.underlying225
 a213:=Tryz.isAgg225
 z213:=Tryz.sizeOf225
 t232:=Tryz.underlying228
 a232:=Tryz.isAgg228
 z232:=Tryz.sizeOf228
 v232:=Tryz.zeroValue228
 t233:=Tryz.underlying229
 a233:=Tryz.isAgg229
 z233:=Tryz.sizeOf229
 v233:=Tryz.zeroValue229
 g15:=by kernel_rfl
 g16:=by kernel_rfl
 g17:=by kernel_rfl
 g18:=by kernel_rfl
 g19:=by kernel_rfl }
theorem Tryz.strconv_Atoi (s:ByteArray) (n:Int) (hl:s.size≤18) (h:Lib.atoi s.data.toList=some n) (w:World) :
  Calls Tryz.prog 139 #[.string s] w fun e w'=>e = .returned (.tuple #[.int .i64 n,.nilIface])∧∃ t,w'=Lib.bytesWorld w 5 t:=Any.strconv_Atoi Tryz.lays172 s n hl h w
def Tryz.laysM171_ren:Go.Shelf.Ren:=⟨fun | 171=>153 | 243=>188 | 246=>217 | 283=>232 | 284=>233 | 285=>234 | 286=>235 | 129=>241 | 317=>240 | 318=>242 | 319=>243 | 320=>244 | 337=>245 | 338=>246 | n=>n,fun | 3=>3 | 9=>9 | 2=>2 | 4=>4 | 171=>212 | 0=>0 | 53=>204 | 37=>44 | 5=>5 | 173=>215 | 212=>224 | 51=>201 | 20=>20 | 213=>225 | 46=>171 | 232=>228 | 233=>229 | n=>n,fun | 17=>3 | 18=>4 | 19=>5 | n=>n⟩
theorem Tryz.laysM171:Go.Proofs.LaysM.n171 Tryz.prog Tryz.laysM171_ren:={
 mixed:=by kernel_rfl
 f129:=Tryz.func241.trans (congrArg some (by kernel_rfl))
 f171:=Tryz.func153.trans (congrArg some (by kernel_rfl))
 f243:=Tryz.func188.trans (congrArg some (by kernel_rfl))
 f246:=Tryz.func217.trans (congrArg some (by kernel_rfl))
 f283:=Tryz.func232.trans (congrArg some (by kernel_rfl))
 f284:=Tryz.func233.trans (congrArg some (by kernel_rfl))
 f285:=Tryz.func234.trans (congrArg some (by kernel_rfl))
 f286:=Tryz.func235.trans (congrArg some (by kernel_rfl))
 f317:=Tryz.func240.trans (congrArg some (by kernel_rfl))
 f318:=Tryz.func242.trans (congrArg some (by kernel_rfl))
 f319:=Tryz.func243.trans (congrArg some (by kernel_rfl))
 f320:=Tryz.func244.trans (congrArg some (by kernel_rfl))
 f337:=Tryz.func245.trans (congrArg some (by kernel_rfl))
 f338:=Tryz.func246.trans (congrArg some (by kernel_rfl))
 t0:=Tryz.underlying0
 a0:=Tryz.isAgg0
 z0:=Tryz.sizeOf0
 v0:=Tryz.zeroValue0
 t2:=Tryz.underlying2
 a2:=Tryz.isAgg2
 z2:=Tryz.sizeOf2
 v2:=Tryz.zeroValue2
 t3:=Tryz.underlying3
 a3:=Tryz.isAgg3
 z3:=Tryz.sizeOf3
 v3:=Tryz.zeroValue3
 t4:=Tryz.underlying4
 a4:=Tryz.isAgg4
 z4:=Tryz.sizeOf4
 v4:=Tryz.zeroValue4
 t5:=Tryz.underlying5
 a5:=Tryz.isAgg5
 z5:=Tryz.sizeOf5
 v5:=Tryz.zeroValue5
 t9:=Tryz.underlying9
 a9:=Tryz.isAgg9
 z9:=Tryz.sizeOf9
 v9:=Tryz.zeroValue9
 t20:=Tryz.underlying20
 a20:=Tryz.isAgg20
 z20:=Tryz.sizeOf20
 v20:=Tryz.zeroValue20
 t37:=Tryz.underlying44
 a37:=Tryz.isAgg44
 z37:=Tryz.sizeOf44
 v37:=Tryz.zeroValue44
 t46:=Tryz.underlying171
 a46:=Tryz.isAgg171
 z46:=Tryz.sizeOf171
 v46:=Tryz.zeroValue171
 t51:=Tryz.underlying201
 a51:=Tryz.isAgg201
 z51:=Tryz.sizeOf201
 v51:=Tryz.zeroValue201
 t53:=Tryz.underlying204
 a53:=Tryz.isAgg204
 z53:=Tryz.sizeOf204
 v53:=Tryz.zeroValue204
 t171:=Tryz.underlying212
 a171:=Tryz.isAgg212
 z171:=Tryz.sizeOf212
 v171:=Tryz.zeroValue212
 t173:=Tryz.underlying215
 a173:=Tryz.isAgg215
 z173:=Tryz.sizeOf215
 v173:=Tryz.zeroValue215
 t212:=Tryz.underlying224
 a212:=Tryz.isAgg224
 z212:=Tryz.sizeOf224
 v212:=Tryz.zeroValue224
 t213:=Tryz.underlying225
 a213:=Tryz.isAgg225
 z213:=Tryz.sizeOf225
 t232:=Tryz.underlying228
 a232:=Tryz.isAgg228
 z232:=Tryz.sizeOf228
 v232:=Tryz.zeroValue228
 t233:=Tryz.underlying229
 a233:=Tryz.isAgg229
 z233:=Tryz.sizeOf229
 v233:=Tryz.zeroValue229
 g17:=by kernel_rfl
 g18:=by kernel_rfl
 g19:=by kernel_rfl
 i0:=by kernel_rfl
 i2:=by kernel_rfl
 i3:=by kernel_rfl
 i4:=by kernel_rfl
 i5:=by kernel_rfl
 i9:=by kernel_rfl
 i20:=by kernel_rfl
 i37:=by kernel_rfl
 i46:=by kernel_rfl
 i51:=by kernel_rfl
 i53:=by kernel_rfl
 i171:=by kernel_rfl
 i173:=by kernel_rfl
 i212:=by kernel_rfl
 i232:=by kernel_rfl
 i233:=by kernel_rfl
 m17:=by kernel_rfl
 m18:=by kernel_rfl
 m19:=by kernel_rfl }
open Go.RowKit Go.Sort Go.Lib in
theorem Tryz.strconv_Itoa (n : Int) (h0 : -9223372036854775808 ≤ n) (h1 : n ≤ 9223372036854775807) (w : World) (htab : Lib.TabIs Tryz.prog w "internal/strconv.uint64pow10" .u64 Lib.pow10Tab) :
  Calls Tryz.prog 153 #[.int .i64 n] w fun e w'=>e = .returned (.string ⟨(Lib.itoa n).toArray⟩)∧∃ k os,w'=grow (w.drewN k) os:=Any.strconv_Itoa Tryz.laysM171 n h0 h1 w htab
def Tryz.lays145_ren:Go.Shelf.Ren:=⟨fun | 145=>90 | 220=>135 | 219=>170 | 217=>134 | 225=>195 | 224=>196 | 267=>197 | 266=>169 | 314=>225 | n=>n,fun | 9=>9 | 4=>4 | 59=>120 | 3=>3 | 5=>5 | 46=>171 | 146=>202 | 51=>201 | n=>n,fun | 1=>0 | n=>n⟩
theorem Tryz.lays145:Go.Proofs.Lays.n145 Tryz.prog Tryz.lays145_ren:={
 mixed:=by kernel_rfl
 f145:=Tryz.func90.trans (congrArg some (by kernel_rfl))
 f217:=Tryz.func134.trans (congrArg some (by kernel_rfl))
 f219:=Tryz.func170.trans (congrArg some (by kernel_rfl))
 f220:=Tryz.func135.trans (congrArg some (by kernel_rfl))
 f224:=Tryz.func196.trans (congrArg some (by kernel_rfl))
 f225:=Tryz.func195.trans (congrArg some (by kernel_rfl))
 f266:=Tryz.func169.trans (congrArg some (by kernel_rfl))
 f267:=Tryz.func197.trans (congrArg some (by kernel_rfl))
 f314:=Tryz.func225.trans (congrArg some (by kernel_rfl))
 t3:=Tryz.underlying3
 a3:=Tryz.isAgg3
 z3:=Tryz.sizeOf3
 v3:=Tryz.zeroValue3
 t4:=Tryz.underlying4
 a4:=Tryz.isAgg4
 z4:=Tryz.sizeOf4
 v4:=Tryz.zeroValue4
 t5:=Tryz.underlying5
 a5:=Tryz.isAgg5
 z5:=Tryz.sizeOf5
 v5:=Tryz.zeroValue5
 t9:=Tryz.underlying9
 a9:=Tryz.isAgg9
 z9:=Tryz.sizeOf9
 v9:=Tryz.zeroValue9
 t46:=Tryz.underlying171
 a46:=Tryz.isAgg171
 z46:=Tryz.sizeOf171
 v46:=Tryz.zeroValue171
 t51:=Tryz.underlying201
 a51:=Tryz.isAgg201
 z51:=Tryz.sizeOf201
 v51:=Tryz.zeroValue201
 t59:=Tryz.underlying120
 a59:=Tryz.isAgg120
 z59:=Tryz.sizeOf120
 v59:=Tryz.zeroValue120
 t146:=Tryz.underlying202
 a146:=Tryz.isAgg202
 z146:=Tryz.sizeOf202
 v146:=Tryz.zeroValue202
 g1:=by kernel_rfl }
open Go.RowKit Go.Lib in
theorem Tryz.strings_Cut (s sep:ByteArray) (m:Int) (w:World) (hs:s.size < 4294967281) (hm:w.cell? ⟨0,0,none⟩=some (.int .i64 m)) :
  Calls Tryz.prog 90 #[.string s,.string sep] w fun e w'=>e = .returned (.tuple #[.string ⟨(Lib.cut s.data.toList sep.data.toList).1.toArray⟩,.string ⟨(Lib.cut s.data.toList sep.data.toList).2.1.toArray⟩,.bool (Lib.cut s.data.toList sep.data.toList).2.2])∧∃ n,w'=w.drewN n:=Any.strings_Cut Tryz.lays145 s sep m w hs hm
def Tryz.lays105_ren:Go.Shelf.Ren:=⟨fun | 105=>189 | 212=>218 | 99=>219 | 165=>158 | 166=>159 | 170=>220 | 169=>160 | 263=>236 | 264=>237 | 206=>198 | 240=>190 | 241=>191 | 276=>221 | 277=>222 | n=>n,fun | 9=>9 | 3=>3 | 4=>4 | 20=>20 | 0=>0 | 46=>171 | 109=>193 | 5=>5 | 72=>163 | 76=>152 | 51=>201 | 146=>202 | 53=>204 | 148=>218 | 70=>161 | 37=>44 | 75=>151 | 127=>176 | 164=>196 | 80=>165 | n=>n,fun | n=>n⟩
theorem Tryz.lays105:Go.Proofs.Lays.n105 Tryz.prog Tryz.lays105_ren:={
 mixed:=by kernel_rfl
 f99:=Tryz.func219.trans (congrArg some (by kernel_rfl))
 f105:=Tryz.func189.trans (congrArg some (by kernel_rfl))
 f165:=Tryz.func158.trans (congrArg some (by kernel_rfl))
 f166:=Tryz.func159.trans (congrArg some (by kernel_rfl))
 f169:=Tryz.func160.trans (congrArg some (by kernel_rfl))
 f170:=Tryz.func220.trans (congrArg some (by kernel_rfl))
 f206:=Tryz.func198.trans (congrArg some (by kernel_rfl))
 f212:=Tryz.func218.trans (congrArg some (by kernel_rfl))
 f240:=Tryz.func190.trans (congrArg some (by kernel_rfl))
 f241:=Tryz.func191.trans (congrArg some (by kernel_rfl))
 f263:=Tryz.func236.trans (congrArg some (by kernel_rfl))
 f264:=Tryz.func237.trans (congrArg some (by kernel_rfl))
 f276:=Tryz.func221.trans (congrArg some (by kernel_rfl))
 f277:=Tryz.func222.trans (congrArg some (by kernel_rfl))
 t0:=Tryz.underlying0
 a0:=Tryz.isAgg0
 z0:=Tryz.sizeOf0
 v0:=Tryz.zeroValue0
 t3:=Tryz.underlying3
 a3:=Tryz.isAgg3
 z3:=Tryz.sizeOf3
 v3:=Tryz.zeroValue3
 t4:=Tryz.underlying4
 a4:=Tryz.isAgg4
 z4:=Tryz.sizeOf4
 v4:=Tryz.zeroValue4
 t5:=Tryz.underlying5
 a5:=Tryz.isAgg5
 z5:=Tryz.sizeOf5
 v5:=Tryz.zeroValue5
 t9:=Tryz.underlying9
 a9:=Tryz.isAgg9
 z9:=Tryz.sizeOf9
 v9:=Tryz.zeroValue9
 t20:=Tryz.underlying20
 a20:=Tryz.isAgg20
 z20:=Tryz.sizeOf20
 v20:=Tryz.zeroValue20
 t37:=Tryz.underlying44
 a37:=Tryz.isAgg44
 z37:=Tryz.sizeOf44
 v37:=Tryz.zeroValue44
 t46:=Tryz.underlying171
 a46:=Tryz.isAgg171
 z46:=Tryz.sizeOf171
 v46:=Tryz.zeroValue171
 t51:=Tryz.underlying201
 a51:=Tryz.isAgg201
 z51:=Tryz.sizeOf201
 v51:=Tryz.zeroValue201
 t53:=Tryz.underlying204
 a53:=Tryz.isAgg204
 z53:=Tryz.sizeOf204
 v53:=Tryz.zeroValue204
 t70:=Tryz.underlying161
 a70:=Tryz.isAgg161
 z70:=Tryz.sizeOf161
 v70:=Tryz.zeroValue161
 t72:=Tryz.underlying163
 a72:=Tryz.isAgg163
 z72:=Tryz.sizeOf163
 v72:=Tryz.zeroValue163
 t75:=Tryz.underlying151
 a75:=Tryz.isAgg151
 z75:=Tryz.sizeOf151
 v75:=Tryz.zeroValue151
 t76:=Tryz.underlying152
 a76:=Tryz.isAgg152
 z76:=Tryz.sizeOf152
 v76:=Tryz.zeroValue152
 t109:=Tryz.underlying193
 a109:=Tryz.isAgg193
 z109:=Tryz.sizeOf193
 v109:=Tryz.zeroValue193
 t127:=Tryz.underlying176
 a127:=Tryz.isAgg176
 z127:=Tryz.sizeOf176
 v127:=Tryz.zeroValue176
 t146:=Tryz.underlying202
 a146:=Tryz.isAgg202
 z146:=Tryz.sizeOf202
 v146:=Tryz.zeroValue202
 t148:=Tryz.underlying218
 a148:=Tryz.isAgg218
 z148:=Tryz.sizeOf218
 v148:=Tryz.zeroValue218
 t164:=Tryz.underlying196
 a164:=Tryz.isAgg196
 z164:=Tryz.sizeOf196
 v164:=Tryz.zeroValue196 }
theorem Tryz.Builder_Extra_105:Builder.Extra Tryz.prog Tryz.lays105_ren:={
 sizeBuilder:=by kernel_rfl
 liesBuilder:=by kernel_rfl
 t5:=Tryz.underlying5
 a5:=Tryz.isAgg5
 z5:=Tryz.sizeOf5
 v5:=Tryz.zeroValue5
 infoByte:=by kernel_rfl
 cellsByte:=by kernel_rfl
 sizeByte:=by kernel_rfl
 neB5:=by decide }
open Go.RowKit Go.Lib in
theorem Tryz.strings_Repeat (s:ByteArray) (c:Nat) (w:World) (hc:c≤9223372036854775807) (hlen:s.size * c≤140737488355328) :
  Calls Tryz.prog 189 #[.string s,.int .i64 c] w fun e w'=>e = .returned (.string ⟨(Lib.repeatL s.data.toList c).toArray⟩)∧Below w.heap.size w w':=Any.strings_Repeat Tryz.lays105 Tryz.Builder_Extra_105 s c w hc hlen
end Go.Proofs
open Go Go.Di Go.Proofs
open Go.RowKit (Below)
namespace Go.Proofs.YtdkfcdncamimmaaGreatDoor.Fo
def FX:Nat→Option (Array Value→Prop)
 | 0=>some fun cs=>∃ m,cs[0]? = some (.int .i64 m)
 | 3=>some fun cs=>cs=(Lib.pow10Tab.map fun z=>Value.int .u64 z).toArray
 | _=>none
variable {C:Bs} {s:St} {β:Nat→Option Value} {args:Array Value} {w w':World}
theorem tab (g : Gam C s NoX β args w) (hF : C.fix = FX) : Lib.TabIs Tryz.prog w "internal/strconv.uint64pow10" .u64 Lib.pow10Tab := by
 obtain ⟨cs,t,fr,h1,h2⟩:=g.fxw 3 _ (by rw[hF]; rfl)
 have h2:cs=(Lib.pow10Tab.map fun z=>Value.int .u64 z).toArray:=h2
 subst h2
 have hn : Tryz.prog.globalNamed "internal/strconv.uint64pow10" = some 3 := by kernel_rfl
 unfold Lib.TabIs World.var?
 rw[hn]
 show (match w.heap[3]? with
  | some (.cells cs _ _)=>some cs
  | _=>none)=_
 rw[h1]
def zlm:Con:=⟨⟨[(false,[.d (.int .i64)])],[],false,[(false,[.d .str])],[]⟩,ByteArray,fun x=>zd3 x.1,fun r=>(r,())⟩
theorem zpN:zax Tryz.prog FX 153 zlm:=by
 intro C w β args x y hF hrun g
 obtain ⟨n,u⟩:Int × Unit:=x
 have hrun:zd3 n=some y:=hrun
 obtain ⟨hb,hy⟩:=zh6 hrun
 cases hy
 simp only[Bool.and_eq_true,decide_eq_true_eq] at hb
 have g:Gam C ⟨[.v false [.d (.int .i64 n)]],[]⟩ NoX β args w:=g
 have ha:args=#[.int .i64 n]:=zQq (by rw[← g.len]; rfl) (zsX (zli g (j:=0) rfl))
 subst ha
 refine (Tryz.strconv_Itoa n hb.1 hb.2 w (tab g hF)).mono fun e w' ⟨he,k,os,hw⟩=>?_
 subst hw
 have hbl:=Lib.below_grow w.heap.size w (Nat.le_refl _) k os
 refine ⟨#[.string ⟨(Lib.itoa n).toArray⟩],_,he,zBu g hbl,zqI g hbl rfl fun j a ha=>?_⟩
 match j,ha with
 | 0,ha=>cases ha; exact .inr ⟨_,rfl,rfl⟩
 | _+1,ha=>cases ha
def zi3:Con:=⟨⟨[(false,[.d .str]),(false,[.d (.int .i64)])],[],false,[(false,[.d .str])],[]⟩,ByteArray,fun x=>zeZ x.1 x.2.1,fun r=>(r,())⟩
theorem znL:zax Tryz.prog FX 189 zi3:=by
 intro C w β args x y hF hrun g
 obtain ⟨t,n,u⟩:ByteArray × Int × Unit:=x
 have hrun:zeZ t n=some y:=hrun
 obtain ⟨hb,hy⟩:=zh6 hrun
 cases hy
 simp only[Bool.and_eq_true,decide_eq_true_eq,Nat.ble_eq] at hb
 have g:Gam C ⟨[.v false [.d (.str t)],.v false [.d (.int .i64 n)]],[]⟩ NoX β args w:=g
 have ha:args=#[.string t,.int .i64 n]:=zKg (by rw[← g.len]; rfl) (zoC (zli g (j:=0) rfl)) (zsX (zli g (j:=1) rfl))
 subst ha
 obtain ⟨c,rfl⟩:∃ c:Nat,n=(c:Int):=⟨n.toNat,(Int.toNat_of_nonneg hb.1.1).symm⟩
 simp only[Int.toNat_natCast] at hb
 refine (Tryz.strings_Repeat t c w (by omega) hb.2).mono fun e w' ⟨he,hbl⟩=>?_
 refine ⟨#[.string ⟨(Lib.repeatL t.data.toList c).toArray⟩],_,he,zBu g hbl,zqI g hbl rfl fun j a ha=>?_⟩
 match j,ha with
 | 0,ha=>cases ha; exact .inr ⟨_,rfl,rfl⟩
 | _+1,ha=>cases ha
theorem zMK {w:World} {v:Value} {x:ByteArray} {fp:List Nat} (h:Rd w v (.str x) fp):v = .string x:=by cases h; rfl
theorem zyj:∀ (xs:List ByteArray) (i:Nat),(flat .str xs)[i]? = (xs[i]?).map Cell.str
  | [],i=>by show ([]:List Cell)[i]? = _; simp
  | x :: r,0=>rfl
  | x :: r,i+1=>by
    show ([Cell.str x]++flat .str r)[i+1]? = _
    simpa using zyj r i
def zhF:Con:=⟨⟨[(false,[.d (.sl .str)]),(false,[.d .str])],[],false,[(false,[.d .str])],[]⟩,ByteArray,fun x=>zge x.1 x.2.1,fun r=>(r,())⟩
theorem zpM:zax Tryz.prog FX 116 zhF:=by
  intro C w β args x y hF hrun g
  obtain ⟨l,t,u⟩:List ByteArray × ByteArray × Unit:=x
  have hrun:zge l t=some y:=hrun
  obtain ⟨hb,hy⟩:=zh6 hrun
  cases hy
  simp only[Bool.and_eq_true,Nat.ble_eq] at hb
  have g:Gam C ⟨[.v false [.d (.sl .str l)],.v false [.d (.str t)]],[]⟩ NoX β args w:=g
  obtain ⟨fp,h1,hfine⟩:=zli g (j:=0) rfl
  have e2:args.getD 1 undef = .string t:=zoC (zli g (j:=1) rfl)
  have fin:∀ e w',(e=Ending.returned (.string ⟨(Lib.join (l.map (·.data.toList)) t.data.toList).toArray⟩)∧Below w.heap.size w w')→∃ vs β',e = .returned (znK false vs)∧Kp C.keep w w' ∧
      Gam C (zhF.sig.zmq.enc (⟨(Lib.join (l.map (·.data.toList)) t.data.toList).toArray⟩,())) NoX β' vs w':=by
    intro e w' ⟨he,hbl⟩
    refine ⟨#[.string ⟨(Lib.join (l.map fun x:ByteArray=>x.data.toList) t.data.toList).toArray⟩],_,he,zBu g hbl,zqI g hbl rfl fun j a ha=>?_⟩
    match j,ha with
    | 0,ha=>cases ha; exact .inr ⟨_,rfl,rfl⟩
    | _+1,ha=>cases ha
  generalize hv:args.getD 0 undef=v at h1
  have ha:args=#[v,.string t]:=zKg (by rw[← g.len]; rfl) hv e2
  subst ha
  generalize hc:Cell.sl .str l=c at h1
  cases h1 with
  | int=>cases hc
  | bool=>cases hc
  | str=>cases hc
  | emp a t0 cap =>
    cases hc
    exact (Any.strings_Join_none Tryz.lays156 Tryz.Builder_Extra_156 a cap t w).mono fun e w' ⟨he,hw⟩=>fin e w' ⟨he,hw▸Below.refl _ _⟩
  | sl b off len cap t0 xs vals fps hl hcap k1 k2 =>
    cases hc
    subst hl
    refine (Tryz.strings_Join b off cap l t w (fun j x hx=>?_) ?_ hb.1 hcap hb.2).mono fin
    · have hf:(flat .str l)[j]? = some (.str x):=(zyj l j).trans (by rw[hx]; rfl)
      refine (k1 j _ hf).trans ?_
      have:=k2 j _ hf
      exact congrArg some (zMK this)
    · exact (hfine b (List.mem_cons_self ..)).1
def zhf:Con:=⟨⟨[(false,[.d .str]),(false,[.d (.int .u8)])],[],false,[(false,[.d (.int .i64)])],[]⟩,Int,fun x=>zdK x.1 x.2.1,fun r=>(r,())⟩
theorem zlz:zax Tryz.prog FX 89 zhf:=by
 intro C w β args x y hF hrun g
 obtain ⟨t,n,u⟩:ByteArray × Int × Unit:=x
 have hy:y=Lib.indexByte t.data.toList n.toNat.toUInt8:=(Option.some.inj hrun).symm
 subst hy
 have g:Gam C ⟨[.v false [.d (.str t)],.v false [.d (.int .u8 n)]],[]⟩ NoX β args w:=g
 have ha:args=#[.string t,.int .u8 n]:=zKg (by rw[← g.len]; rfl) (zoC (zli g (j:=0) rfl)) (zsX (zli g (j:=1) rfl))
 subst ha
 refine (Tryz.strings_IndexByte t n w).mono fun e w' ⟨he,hw⟩=>?_
 subst hw
 have hbl:=Below.refl w'.heap.size w'
 refine ⟨#[.int .i64 (Lib.indexByte t.data.toList n.toNat.toUInt8)],_,he,zBu g hbl,zqI g hbl rfl fun j a ha=>?_⟩
 match j,ha with
 | 0,ha=>cases ha; exact .inr ⟨_,rfl,rfl⟩
 | _+1,ha=>cases ha
def zmb:Con:=⟨⟨[(false,[.d .str]),(false,[.d .str])],[],true,[(false,[.d .str]),(false,[.d .str]),(false,[.d .bool])],[]⟩,ByteArray × ByteArray × Bool,fun x=>zfy x.1 x.2.1,fun r=>(r.1,r.2.1,r.2.2,())⟩
theorem zrv:zax Tryz.prog FX 90 zmb:=by
 intro C w β args x y hF hrun g
 obtain ⟨t,p,u⟩:ByteArray × ByteArray × Unit:=x
 have hrun:zfy t p=some y:=hrun
 obtain ⟨hb,hy⟩:=zh6 hrun
 cases hy
 rw[Nat.ble_eq] at hb
 have g:Gam C ⟨[.v false [.d (.str t)],.v false [.d (.str p)]],[]⟩ NoX β args w:=g
 have ha:args=#[.string t,.string p]:=zKg (by rw[← g.len]; rfl) (zoC (zli g (j:=0) rfl)) (zoC (zli g (j:=1) rfl))
 subst ha
 obtain ⟨cs,ty,fr,h1,m,h2⟩:=g.fxw 0 _ (by rw[hF]; rfl)
 have hm:w.cell? ⟨0,0,none⟩=some (.int .i64 m):=by simp[World.cell?,h1,h2]
 refine (Tryz.strings_Cut t p m w (by omega) hm).mono fun e w' ⟨he,n,hw⟩=>?_
 subst hw
 have hbl:=below_drewN (Below.refl w.heap.size w) n
 refine ⟨#[.string ⟨(Lib.cut t.data.toList p.data.toList).1.toArray⟩,.string ⟨(Lib.cut t.data.toList p.data.toList).2.1.toArray⟩,.bool (Lib.cut t.data.toList p.data.toList).2.2],_,he,zBu g hbl,zqI g hbl rfl fun j a ha=>?_⟩
 match j,ha with
 | 0,ha=>cases ha; exact .inr ⟨_,rfl,rfl⟩
 | 1,ha=>cases ha; exact .inr ⟨_,rfl,rfl⟩
 | 2,ha=>cases ha; exact .inr ⟨_,rfl,rfl⟩
 | _+3,ha=>cases ha
def zln:Con:=⟨⟨[(false,[.d .str])],[],true,[(false,[.d (.int .i64)]),(false,[.bot])],[]⟩,Int,fun x=>zeT x.1,fun r=>(r,())⟩
theorem zpO:zax Tryz.prog FX 139 zln:=by
 intro C w β args x y hF hrun g
 obtain ⟨t,u⟩:ByteArray × Unit:=x
 have hrun:zeT t=some y:=hrun
 obtain ⟨hb,hy⟩:=zh6 hrun
 rw[Nat.ble_eq] at hb
 have g:Gam C ⟨[.v false [.d (.str t)]],[]⟩ NoX β args w:=g
 have ha:args=#[.string t]:=zQq (by rw[← g.len]; rfl) (zoC (zli g (j:=0) rfl))
 subst ha
 refine (Tryz.strconv_Atoi t y hb hy w).mono fun e w' ⟨he,b,hw⟩=>?_
 subst hw
 have hbl:=Go.Joins.below_bytesWorld w.heap.size w 5 b (Nat.le_refl _)
 refine ⟨#[.int .i64 y,.nilIface],_,he,zBu g hbl,zqI g hbl rfl fun j a ha=>?_⟩
 match j,ha with
 | 0,ha=>cases ha; exact .inr ⟨_,rfl,rfl⟩
 | 1,ha=>cases ha; exact .inl rfl
 | _+2,ha=>cases ha
end Go.Proofs.YtdkfcdncamimmaaGreatDoor.Fo
namespace Go.Di
def zfI (code:List Int):Option (Net × List Obs) :=
 (zgO code).bind fun r =>
 (zhK r).bind fun (r0,r1,_) =>
 some (r0,r1)
end Go.Di
namespace Go.Di
def zcw (b:Bk):Option Bool :=
 (zbE (⟨b.plane,b.stations⟩:Net) b.obs).bind fun r =>
 some r
def zcu (n:Net) (o:Obs):Option (List ByteArray) :=
  (idx n.stations o.frm).bind fun e =>
  (zbk o.kind).bind fun r =>
  (zbT o.kind).bind fun r1 =>
  cond r1
    ((idx n.stations o.to).bind fun e1 =>
    some ([r,e.name,e1.name]:List ByteArray))
    (some ([r,e.name]:List ByteArray))
def zbg (n:Net) (o:Obs):Option ByteArray :=
  (za1 n o).bind fun r =>
  cond (!r)
    (some (⟨#[]⟩:ByteArray))
    ((zcu n o).bind fun r1 =>
    (zaS o.value).bind fun r2 =>
    (zaS o.variance).bind fun r3 =>
    (zah (Nat.ble (r1.length+2) zan)).bind fun _ =>
    (zhk (r1++([r2,r3]:List ByteArray)) (⟨#[32]⟩:ByteArray)).bind fun r4 =>
    some r4)
def zcP:ByteArray × (List Obs) × Int × Int × Bool × (List Sta) × (List Obs) × Unit→Option ((ByteArray × (List Obs) × Int × Int × Bool × (List Sta) × (List Obs) × Unit) ⊕ (ByteArray × Unit)):=fun (out,t,t1,t2,v,v1,v2,_) =>
  cond (decide (t2 < t1))
    ((idx t t2).bind fun e =>
    (zbg (⟨v,v1⟩:Net) e).bind fun r =>
    (zah (Nat.ble (r.size+((⟨#[10]⟩:ByteArray).size)) 4611686018427387904)).bind fun _ =>
    (zah (Nat.ble (out.size+((r++(⟨#[10]⟩:ByteArray)).size)) 4611686018427387904)).bind fun _ =>
    some (.inl (out++(r++(⟨#[10]⟩:ByteArray)),t,t1,IntKind.i64.wrap (t2+1),v,v1,v2,())))
    (some (.inr (out,())))
def zdS (out:ByteArray) (t:List Obs) (t1:Int) (t2:Int) (v:Bool) (v1:List Sta) (v2:List Obs):Option (ByteArray × Unit):=whileO zcP (out,t,t1,t2,v,v1,v2,())
def zb6:ByteArray × (List Sta) × Int × Int × Bool × (List Sta) × (List Obs) × Unit→Option ((ByteArray × (List Sta) × Int × Int × Bool × (List Sta) × (List Obs) × Unit) ⊕ (ByteArray × Bool × (List Sta) × (List Obs) × Unit)):=fun (out,t,t1,t2,v,v1,v2,_) =>
  cond (decide (t2 < t1))
    ((idx t t2).bind fun e =>
    cond e.fixed
      ((zah (Nat.ble (((⟨#[102,105,120,101,100]⟩:ByteArray).size)+((⟨#[32]⟩:ByteArray).size)) 4611686018427387904)).bind fun _ =>
      (zah (Nat.ble (((⟨#[102,105,120,101,100,32]⟩:ByteArray).size)+e.name.size) 4611686018427387904)).bind fun _ =>
      (zah (Nat.ble ((((⟨#[102,105,120,101,100,32]⟩:ByteArray)++e.name).size)+((⟨#[32]⟩:ByteArray).size)) 4611686018427387904)).bind fun _ =>
      (zaS e.x).bind fun r =>
      (zah (Nat.ble (((((⟨#[102,105,120,101,100,32]⟩:ByteArray)++e.name)++(⟨#[32]⟩:ByteArray)).size)+r.size) 4611686018427387904)).bind fun _ =>
      (zah (Nat.ble (out.size+(((((⟨#[102,105,120,101,100,32]⟩:ByteArray)++e.name)++(⟨#[32]⟩:ByteArray))++r).size)) 4611686018427387904)).bind fun _ =>
      cond v
        ((zaS e.y).bind fun r1 =>
        (zah (Nat.ble (((⟨#[32]⟩:ByteArray).size)+r1.size) 4611686018427387904)).bind fun _ =>
        (zah (Nat.ble (((out++((((⟨#[102,105,120,101,100,32]⟩:ByteArray)++e.name)++(⟨#[32]⟩:ByteArray))++r)).size)+(((⟨#[32]⟩:ByteArray)++r1).size)) 4611686018427387904)).bind fun _ =>
        (zah (Nat.ble ((((out++((((⟨#[102,105,120,101,100,32]⟩:ByteArray)++e.name)++(⟨#[32]⟩:ByteArray))++r))++((⟨#[32]⟩:ByteArray)++r1)).size)+((⟨#[10]⟩:ByteArray).size)) 4611686018427387904)).bind fun _ =>
        some (.inl (((out++((((⟨#[102,105,120,101,100,32]⟩:ByteArray)++e.name)++(⟨#[32]⟩:ByteArray))++r))++((⟨#[32]⟩:ByteArray)++r1))++(⟨#[10]⟩:ByteArray),t,t1,IntKind.i64.wrap (t2+1),v,v1,v2,())))
        ((zah (Nat.ble (((out++((((⟨#[102,105,120,101,100,32]⟩:ByteArray)++e.name)++(⟨#[32]⟩:ByteArray))++r)).size)+((⟨#[10]⟩:ByteArray).size)) 4611686018427387904)).bind fun _ =>
        some (.inl ((out++((((⟨#[102,105,120,101,100,32]⟩:ByteArray)++e.name)++(⟨#[32]⟩:ByteArray))++r))++(⟨#[10]⟩:ByteArray),t,t1,IntKind.i64.wrap (t2+1),v,v1,v2,()))))
      ((zah (Nat.ble (((⟨#[102,114,101,101]⟩:ByteArray).size)+((⟨#[32]⟩:ByteArray).size)) 4611686018427387904)).bind fun _ =>
      (zah (Nat.ble (((⟨#[102,114,101,101,32]⟩:ByteArray).size)+e.name.size) 4611686018427387904)).bind fun _ =>
      (zah (Nat.ble ((((⟨#[102,114,101,101,32]⟩:ByteArray)++e.name).size)+((⟨#[32]⟩:ByteArray).size)) 4611686018427387904)).bind fun _ =>
      (zaS e.x).bind fun r =>
      (zah (Nat.ble (((((⟨#[102,114,101,101,32]⟩:ByteArray)++e.name)++(⟨#[32]⟩:ByteArray)).size)+r.size) 4611686018427387904)).bind fun _ =>
      (zah (Nat.ble (out.size+(((((⟨#[102,114,101,101,32]⟩:ByteArray)++e.name)++(⟨#[32]⟩:ByteArray))++r).size)) 4611686018427387904)).bind fun _ =>
      cond v
        ((zaS e.y).bind fun r1 =>
        (zah (Nat.ble (((⟨#[32]⟩:ByteArray).size)+r1.size) 4611686018427387904)).bind fun _ =>
        (zah (Nat.ble (((out++((((⟨#[102,114,101,101,32]⟩:ByteArray)++e.name)++(⟨#[32]⟩:ByteArray))++r)).size)+(((⟨#[32]⟩:ByteArray)++r1).size)) 4611686018427387904)).bind fun _ =>
        (zah (Nat.ble ((((out++((((⟨#[102,114,101,101,32]⟩:ByteArray)++e.name)++(⟨#[32]⟩:ByteArray))++r))++((⟨#[32]⟩:ByteArray)++r1)).size)+((⟨#[10]⟩:ByteArray).size)) 4611686018427387904)).bind fun _ =>
        some (.inl (((out++((((⟨#[102,114,101,101,32]⟩:ByteArray)++e.name)++(⟨#[32]⟩:ByteArray))++r))++((⟨#[32]⟩:ByteArray)++r1))++(⟨#[10]⟩:ByteArray),t,t1,IntKind.i64.wrap (t2+1),v,v1,v2,())))
        ((zah (Nat.ble (((out++((((⟨#[102,114,101,101,32]⟩:ByteArray)++e.name)++(⟨#[32]⟩:ByteArray))++r)).size)+((⟨#[10]⟩:ByteArray).size)) 4611686018427387904)).bind fun _ =>
        some (.inl ((out++((((⟨#[102,114,101,101,32]⟩:ByteArray)++e.name)++(⟨#[32]⟩:ByteArray))++r))++(⟨#[10]⟩:ByteArray),t,t1,IntKind.i64.wrap (t2+1),v,v1,v2,())))))
    (some (.inr (out,v,v1,v2,())))
def zdT (out:ByteArray) (t:List Sta) (t1:Int) (t2:Int) (v:Bool) (v1:List Sta) (v2:List Obs):Option (ByteArray × Bool × (List Sta) × (List Obs) × Unit):=whileO zb6 (out,t,t1,t2,v,v1,v2,())
def zbF (b:Bk):Option ByteArray :=
  (zcw b).bind fun r =>
  cond (!r)
    (some (⟨#[]⟩:ByteArray))
    (cond b.plane
      ((zdT (⟨#[112,108,97,110,101,10]⟩:ByteArray) b.stations (b.stations.length:Int) 0 b.plane b.stations b.obs).bind fun (out,v,v1,v2,_) =>
      (zdS out v2 (v2.length:Int) 0 v v1 v2).bind fun (out1,_) =>
      some out1)
      ((zdT (⟨#[104,101,105,103,104,116,115,10]⟩:ByteArray) b.stations (b.stations.length:Int) 0 b.plane b.stations b.obs).bind fun (out,v,v1,v2,_) =>
      (zdS out v2 (v2.length:Int) 0 v v1 v2).bind fun (out1,_) =>
      some out1))
def zdN (line:ByteArray) (plane:Bool):Option (Sta × Bool) :=
  (zdB line (⟨#[32]⟩:ByteArray)).bind fun r =>
  (zlG plane).bind fun r1 =>
  cond ((r.length:Int) != (IntKind.i64.wrap (2+r1)))
    (some ((⟨(⟨#[]⟩:ByteArray),(⟨false,([]:List Int),([]:List Int)⟩:Rt),(⟨false,([]:List Int),([]:List Int)⟩:Rt),false⟩:Sta),false))
    ((idx r 0).bind fun _ =>
    (r[0]?).bind fun e =>
    cond (!(strEq e (⟨#[102,105,120,101,100]⟩:ByteArray)))
      ((idx r 0).bind fun _ =>
      (r[0]?).bind fun e1 =>
      cond (!(strEq e1 (⟨#[102,114,101,101]⟩:ByteArray)))
        (some ((⟨(⟨#[]⟩:ByteArray),(⟨false,([]:List Int),([]:List Int)⟩:Rt),(⟨false,([]:List Int),([]:List Int)⟩:Rt),false⟩:Sta),false))
        ((idx r 1).bind fun _ =>
        (r[1]?).bind fun e2 =>
        (idx r 0).bind fun _ =>
        (r[0]?).bind fun e3 =>
        (zc7 0).bind fun r2 =>
        (idx r 2).bind fun _ =>
        (r[2]?).bind fun e4 =>
        (zaF e4).bind fun (r0,r1_1) =>
        cond plane
          ((idx r 3).bind fun _ =>
          (r[3]?).bind fun e5 =>
          (zaF e5).bind fun (r0_1,r1_2) =>
          cond r1_1
            (some ((⟨e2,r0,r0_1,strEq e3 (⟨#[102,105,120,101,100]⟩:ByteArray)⟩:Sta),r1_2))
            (some ((⟨e2,r0,r0_1,strEq e3 (⟨#[102,105,120,101,100]⟩:ByteArray)⟩:Sta),false)))
          (cond r1_1
            (some ((⟨e2,r0,r2,strEq e3 (⟨#[102,105,120,101,100]⟩:ByteArray)⟩:Sta),true))
            (some ((⟨e2,r0,r2,strEq e3 (⟨#[102,105,120,101,100]⟩:ByteArray)⟩:Sta),false)))))
      ((idx r 1).bind fun _ =>
      (r[1]?).bind fun e1 =>
      (idx r 0).bind fun _ =>
      (r[0]?).bind fun e2 =>
      (zc7 0).bind fun r2 =>
      (idx r 2).bind fun _ =>
      (r[2]?).bind fun e3 =>
      (zaF e3).bind fun (r0,r1_1) =>
      cond plane
        ((idx r 3).bind fun _ =>
        (r[3]?).bind fun e4 =>
        (zaF e4).bind fun (r0_1,r1_2) =>
        cond r1_1
          (some ((⟨e1,r0,r0_1,strEq e2 (⟨#[102,105,120,101,100]⟩:ByteArray)⟩:Sta),r1_2))
          (some ((⟨e1,r0,r0_1,strEq e2 (⟨#[102,105,120,101,100]⟩:ByteArray)⟩:Sta),false)))
        (cond r1_1
          (some ((⟨e1,r0,r2,strEq e2 (⟨#[102,105,120,101,100]⟩:ByteArray)⟩:Sta),true))
          (some ((⟨e1,r0,r2,strEq e2 (⟨#[102,105,120,101,100]⟩:ByteArray)⟩:Sta),false)))))
def zao:Int × Bool × (List Sta) × Int × Int × Int × Bool × (List Int) × (List Int) × Bool × (List Int) × (List Int) × (List ByteArray) × Unit→Option ((Int × Bool × (List Sta) × Int × Int × Int × Bool × (List Int) × (List Int) × Bool × (List Int) × (List Int) × (List ByteArray) × Unit) ⊕ ((Bool × Int × Int × Int × Bool × Bool × (List Int) × (List Int) × (List Int) × (List Int) × Unit) ⊕ (Int × Int × Int × Bool × (List Int) × (List Int) × Bool × (List Int) × (List Int) × Unit))):=fun (kind,v,v1,v2,v3,v4,v5,v6,v7,v8,v9,v10,words,_) =>
  cond (decide (kind≤8))
    ((zbT kind).bind fun r =>
    cond r
      ((idx words 0).bind fun _ =>
      (words[0]?).bind fun e =>
      (zbk kind).bind fun r1 =>
      cond (!(strEq r1 e))
        (some (.inl (IntKind.i64.wrap (kind+1),v,v1,v2,v3,v4,v5,v6,v7,v8,v9,v10,words,())))
        (cond ((words.length:Int) != 5)
          (some (.inl (IntKind.i64.wrap (kind+1),v,v1,v2,v3,v4,v5,v6,v7,v8,v9,v10,words,())))
          ((idx words 1).bind fun _ =>
          (words[1]?).bind fun e1 =>
          (za4 (⟨v,v1⟩:Net) e1).bind fun r2 =>
          (zbT kind).bind fun r3 =>
          cond r3
            ((idx words 2).bind fun _ =>
            (words[2]?).bind fun e2 =>
            (za4 (⟨v,v1⟩:Net) e2).bind fun r4 =>
            (idx words 3).bind fun _ =>
            (words[3]?).bind fun e3 =>
            (zaF e3).bind fun (r0,r1_1) =>
            (idx words 4).bind fun _ =>
            (words[4]?).bind fun e4 =>
            (zaF e4).bind fun (r0_1,r1_2) =>
            cond (!r1_1)
              (some (.inr (.inl (false,0,0,0,false,false,([]:List Int),([]:List Int),([]:List Int),([]:List Int),()))))
              (cond (!r1_2)
                (some (.inr (.inl (false,0,0,0,false,false,([]:List Int),([]:List Int),([]:List Int),([]:List Int),()))))
                ((za1 (⟨v,v1⟩:Net) (⟨kind,r2,r4,r0,r0_1⟩:Obs)).bind fun r5 =>
                cond (!r5)
                  (some (.inr (.inl (false,0,0,0,false,false,([]:List Int),([]:List Int),([]:List Int),([]:List Int),()))))
                  (some (.inr (.inl (true,kind,r2,r4,r0.neg,r0_1.neg,r0.mag,r0.den,r0_1.mag,r0_1.den,())))))))
            ((idx words 3).bind fun _ =>
            (words[3]?).bind fun e2 =>
            (zaF e2).bind fun (r0,r1_1) =>
            (idx words 4).bind fun _ =>
            (words[4]?).bind fun e3 =>
            (zaF e3).bind fun (r0_1,r1_2) =>
            cond (!r1_1)
              (some (.inr (.inl (false,0,0,0,false,false,([]:List Int),([]:List Int),([]:List Int),([]:List Int),()))))
              (cond (!r1_2)
                (some (.inr (.inl (false,0,0,0,false,false,([]:List Int),([]:List Int),([]:List Int),([]:List Int),()))))
                ((za1 (⟨v,v1⟩:Net) (⟨kind,r2,0,r0,r0_1⟩:Obs)).bind fun r4 =>
                cond (!r4)
                  (some (.inr (.inl (false,0,0,0,false,false,([]:List Int),([]:List Int),([]:List Int),([]:List Int),()))))
                  (some (.inr (.inl (true,kind,r2,0,r0.neg,r0_1.neg,r0.mag,r0.den,r0_1.mag,r0_1.den,()))))))))))
      ((idx words 0).bind fun _ =>
      (words[0]?).bind fun e =>
      (zbk kind).bind fun r1 =>
      cond (!(strEq r1 e))
        (some (.inl (IntKind.i64.wrap (kind+1),v,v1,v2,v3,v4,v5,v6,v7,v8,v9,v10,words,())))
        (cond ((words.length:Int) != 4)
          (some (.inl (IntKind.i64.wrap (kind+1),v,v1,v2,v3,v4,v5,v6,v7,v8,v9,v10,words,())))
          ((idx words 1).bind fun _ =>
          (words[1]?).bind fun e1 =>
          (za4 (⟨v,v1⟩:Net) e1).bind fun r2 =>
          (zbT kind).bind fun r3 =>
          cond r3
            ((idx words 2).bind fun _ =>
            (words[2]?).bind fun e2 =>
            (za4 (⟨v,v1⟩:Net) e2).bind fun r4 =>
            (idx words 2).bind fun _ =>
            (words[2]?).bind fun e3 =>
            (zaF e3).bind fun (r0,r1_1) =>
            (idx words 3).bind fun _ =>
            (words[3]?).bind fun e4 =>
            (zaF e4).bind fun (r0_1,r1_2) =>
            cond (!r1_1)
              (some (.inr (.inl (false,0,0,0,false,false,([]:List Int),([]:List Int),([]:List Int),([]:List Int),()))))
              (cond (!r1_2)
                (some (.inr (.inl (false,0,0,0,false,false,([]:List Int),([]:List Int),([]:List Int),([]:List Int),()))))
                ((za1 (⟨v,v1⟩:Net) (⟨kind,r2,r4,r0,r0_1⟩:Obs)).bind fun r5 =>
                cond (!r5)
                  (some (.inr (.inl (false,0,0,0,false,false,([]:List Int),([]:List Int),([]:List Int),([]:List Int),()))))
                  (some (.inr (.inl (true,kind,r2,r4,r0.neg,r0_1.neg,r0.mag,r0.den,r0_1.mag,r0_1.den,())))))))
            ((idx words 2).bind fun _ =>
            (words[2]?).bind fun e2 =>
            (zaF e2).bind fun (r0,r1_1) =>
            (idx words 3).bind fun _ =>
            (words[3]?).bind fun e3 =>
            (zaF e3).bind fun (r0_1,r1_2) =>
            cond (!r1_1)
              (some (.inr (.inl (false,0,0,0,false,false,([]:List Int),([]:List Int),([]:List Int),([]:List Int),()))))
              (cond (!r1_2)
                (some (.inr (.inl (false,0,0,0,false,false,([]:List Int),([]:List Int),([]:List Int),([]:List Int),()))))
                ((za1 (⟨v,v1⟩:Net) (⟨kind,r2,0,r0,r0_1⟩:Obs)).bind fun r4 =>
                cond (!r4)
                  (some (.inr (.inl (false,0,0,0,false,false,([]:List Int),([]:List Int),([]:List Int),([]:List Int),()))))
                  (some (.inr (.inl (true,kind,r2,0,r0.neg,r0_1.neg,r0.mag,r0.den,r0_1.mag,r0_1.den,())))))))))))
    (some (.inr (.inr (v2,v3,v4,v5,v6,v7,v8,v9,v10,()))))
def zaH (kind:Int) (v:Bool) (v1:List Sta) (v2:Int) (v3:Int) (v4:Int) (v5:Bool) (v6:List Int) (v7:List Int) (v8:Bool) (v9:List Int) (v10:List Int) (words:List ByteArray):Option ((Bool × Int × Int × Int × Bool × Bool × (List Int) × (List Int) × (List Int) × (List Int) × Unit) ⊕ (Int × Int × Int × Bool × (List Int) × (List Int) × Bool × (List Int) × (List Int) × Unit)):=whileO zao (kind,v,v1,v2,v3,v4,v5,v6,v7,v8,v9,v10,words,())
def zam (n:Net) (line:ByteArray):Option (Obs × Bool) :=
  (zdB line (⟨#[32]⟩:ByteArray)).bind fun r =>
  (zaH 1 n.plane n.stations 0 0 0 false ([]:List Int) ([]:List Int) false ([]:List Int) ([]:List Int) r).bind fun r1 =>
  match r1 with
  | .inl (t,v,v1,v2,v3,v4,xs,xs1,xs2,xs3,_) =>
    some ((⟨v,v1,v2,(⟨v3,xs,xs1⟩:Rt),(⟨v4,xs2,xs3⟩:Rt)⟩:Obs),t)
  | .inr (_,_,_,_,_,_,_,_,_,_) =>
    some ((⟨0,0,0,(⟨false,([]:List Int),([]:List Int)⟩:Rt),(⟨false,([]:List Int),([]:List Int)⟩:Rt)⟩:Obs),false)
def S_impl_ParseBook_0:ByteArray × (List ByteArray) × Int × Int × Bool × Bool × (List Sta) × (List Obs) × (List Sta) × (List Obs) × Unit→Option ((ByteArray × (List ByteArray) × Int × Int × Bool × Bool × (List Sta) × (List Obs) × (List Sta) × (List Obs) × Unit) ⊕ ((Bool × Bool × (List Sta) × (List Obs) × Unit) ⊕ (ByteArray × Bool × Bool × (List Sta) × (List Obs) × (List Sta) × (List Obs) × Unit))):=fun (s,t,t1,t2,v,v1,xs,xs1,xs2,xs3,_) =>
  cond (decide (t2 < t1))
    ((idx t t2).bind fun e =>
    (zdN e v1).bind fun (r0,r1) =>
    cond r1
      (cond ((xs1.length:Int)==0)
        ((zah (Nat.ble (xs.length+1) zan)).bind fun _ =>
        some (.inl (s,t,t1,IntKind.i64.wrap (t2+1),v,v1,xs++([r0]:List Sta),xs1,xs2,xs3,())))
        ((zam (⟨v1,xs⟩:Net) e).bind fun (r0_1,r1_1) =>
        cond (!r1_1)
          (some (.inr (.inl (false,false,([]:List Sta),([]:List Obs),()))))
          ((zah (Nat.ble (xs1.length+1) zan)).bind fun _ =>
          some (.inl (s,t,t1,IntKind.i64.wrap (t2+1),v,v1,xs,xs1++([r0_1]:List Obs),xs2,xs3,())))))
      ((zam (⟨v1,xs⟩:Net) e).bind fun (r0_1,r1_1) =>
      cond (!r1_1)
        (some (.inr (.inl (false,false,([]:List Sta),([]:List Obs),()))))
        ((zah (Nat.ble (xs1.length+1) zan)).bind fun _ =>
        some (.inl (s,t,t1,IntKind.i64.wrap (t2+1),v,v1,xs,xs1++([r0_1]:List Obs),xs2,xs3,())))))
    (some (.inr (.inr (s,v,v1,xs,xs1,xs2,xs3,()))))
def zfT (s:ByteArray) (t:List ByteArray) (t1:Int) (t2:Int) (v:Bool) (v1:Bool) (xs:List Sta) (xs1:List Obs) (xs2:List Sta) (xs3:List Obs):Option ((Bool × Bool × (List Sta) × (List Obs) × Unit) ⊕ (ByteArray × Bool × Bool × (List Sta) × (List Obs) × (List Sta) × (List Obs) × Unit)):=whileO S_impl_ParseBook_0 (s,t,t1,t2,v,v1,xs,xs1,xs2,xs3,())
def zdY (s:ByteArray):Option (Bk × Bool) :=
  (zeN s).bind fun r =>
  cond ((r.length:Int)==0)
    (some ((⟨false,([]:List Sta),([]:List Obs)⟩:Bk),false))
    (cond (decide ((r.length:Int) > 29))
      (some ((⟨false,([]:List Sta),([]:List Obs)⟩:Bk),false))
      ((idx r 0).bind fun _ =>
      (r[0]?).bind fun e =>
      cond (!(strEq e (⟨#[112,108,97,110,101]⟩:ByteArray)))
        ((idx r 0).bind fun _ =>
        (r[0]?).bind fun e1 =>
        cond (!(strEq e1 (⟨#[104,101,105,103,104,116,115]⟩:ByteArray)))
          (some ((⟨false,([]:List Sta),([]:List Obs)⟩:Bk),false))
          ((idx r 0).bind fun _ =>
          (r[0]?).bind fun e2 =>
          (zah (inside r.length (1,(r.length:Int)))).bind fun _ =>
          (zfT s (cut r 1 (1+(((r.length:Int).toNat) - 1))) ((((r.length:Int).toNat) - 1:Nat):Int) 0 false (strEq e2 (⟨#[112,108,97,110,101]⟩:ByteArray)) ([]:List Sta) ([]:List Obs) ([]:List Sta) ([]:List Obs)).bind fun r1 =>
          match r1 with
          | .inl (t,v,xs,xs1,_) =>
            some ((⟨v,xs,xs1⟩:Bk),t)
          | .inr (s1,_,v2,xs2,xs3,_,_,_) =>
            (zcw (⟨v2,xs2,xs3⟩:Bk)).bind fun r2 =>
            cond (!r2)
              (some ((⟨false,([]:List Sta),([]:List Obs)⟩:Bk),false))
              ((zbF (⟨v2,xs2,xs3⟩:Bk)).bind fun r3 =>
              cond (!(strEq r3 s1))
                (some ((⟨false,([]:List Sta),([]:List Obs)⟩:Bk),false))
                (some ((⟨v2,xs2,xs3⟩:Bk),true)))))
        ((idx r 0).bind fun _ =>
        (r[0]?).bind fun e1 =>
        (zah (inside r.length (1,(r.length:Int)))).bind fun _ =>
        (zfT s (cut r 1 (1+(((r.length:Int).toNat) - 1))) ((((r.length:Int).toNat) - 1:Nat):Int) 0 false (strEq e1 (⟨#[112,108,97,110,101]⟩:ByteArray)) ([]:List Sta) ([]:List Obs) ([]:List Sta) ([]:List Obs)).bind fun r1 =>
        match r1 with
        | .inl (t,v,xs,xs1,_) =>
          some ((⟨v,xs,xs1⟩:Bk),t)
        | .inr (s1,_,v2,xs2,xs3,_,_,_) =>
          (zcw (⟨v2,xs2,xs3⟩:Bk)).bind fun r2 =>
          cond (!r2)
            (some ((⟨false,([]:List Sta),([]:List Obs)⟩:Bk),false))
            ((zbF (⟨v2,xs2,xs3⟩:Bk)).bind fun r3 =>
            cond (!(strEq r3 s1))
              (some ((⟨false,([]:List Sta),([]:List Obs)⟩:Bk),false))
              (some ((⟨v2,xs2,xs3⟩:Bk),true))))))
def ze3 (a:Bk) (b:Bk):Option Bool :=
  (zdP (⟨a.plane,a.stations⟩:Net) (⟨b.plane,b.stations⟩:Net)).bind fun r =>
  cond r
    ((zbM a.obs b.obs).bind fun r1 =>
    some r1)
    (some false)
def ziZ (b:Bk):Option Bool :=
 (zeo (⟨b.plane,b.stations⟩:Net) b.obs).bind fun r =>
 some r
def zaM (n:Net) (o:Obs):Option ByteArray :=
  (idx n.stations o.frm).bind fun e =>
  (zer o.kind).bind fun r =>
  (zah (Nat.ble (r.size+((⟨#[32]⟩:ByteArray).size)) 4611686018427387904)).bind fun _ =>
  (zah (Nat.ble (((r++(⟨#[32]⟩:ByteArray)).size)+e.name.size) 4611686018427387904)).bind fun _ =>
  (zck o.kind).bind fun r1 =>
  cond r1
    ((zah (Nat.ble ((((r++(⟨#[32]⟩:ByteArray))++e.name).size)+((⟨#[32]⟩:ByteArray).size)) 4611686018427387904)).bind fun _ =>
    (idx n.stations o.to).bind fun e1 =>
    (zah (Nat.ble (((((r++(⟨#[32]⟩:ByteArray))++e.name)++(⟨#[32]⟩:ByteArray)).size)+e1.name.size) 4611686018427387904)).bind fun _ =>
    (zah (Nat.ble ((((((r++(⟨#[32]⟩:ByteArray))++e.name)++(⟨#[32]⟩:ByteArray))++e1.name).size)+((⟨#[32]⟩:ByteArray).size)) 4611686018427387904)).bind fun _ =>
    (zaD o.value).bind fun r2 =>
    (zah (Nat.ble (((((((r++(⟨#[32]⟩:ByteArray))++e.name)++(⟨#[32]⟩:ByteArray))++e1.name)++(⟨#[32]⟩:ByteArray)).size)+r2.size) 4611686018427387904)).bind fun _ =>
    (zah (Nat.ble ((((((((r++(⟨#[32]⟩:ByteArray))++e.name)++(⟨#[32]⟩:ByteArray))++e1.name)++(⟨#[32]⟩:ByteArray))++r2).size)+((⟨#[32]⟩:ByteArray).size)) 4611686018427387904)).bind fun _ =>
    (zaD o.variance).bind fun r3 =>
    (zah (Nat.ble (((((((((r++(⟨#[32]⟩:ByteArray))++e.name)++(⟨#[32]⟩:ByteArray))++e1.name)++(⟨#[32]⟩:ByteArray))++r2)++(⟨#[32]⟩:ByteArray)).size)+r3.size) 4611686018427387904)).bind fun _ =>
    some ((((((((r++(⟨#[32]⟩:ByteArray))++e.name)++(⟨#[32]⟩:ByteArray))++e1.name)++(⟨#[32]⟩:ByteArray))++r2)++(⟨#[32]⟩:ByteArray))++r3))
    ((zah (Nat.ble ((((r++(⟨#[32]⟩:ByteArray))++e.name).size)+((⟨#[32]⟩:ByteArray).size)) 4611686018427387904)).bind fun _ =>
    (zaD o.value).bind fun r2 =>
    (zah (Nat.ble (((((r++(⟨#[32]⟩:ByteArray))++e.name)++(⟨#[32]⟩:ByteArray)).size)+r2.size) 4611686018427387904)).bind fun _ =>
    (zah (Nat.ble ((((((r++(⟨#[32]⟩:ByteArray))++e.name)++(⟨#[32]⟩:ByteArray))++r2).size)+((⟨#[32]⟩:ByteArray).size)) 4611686018427387904)).bind fun _ =>
    (zaD o.variance).bind fun r3 =>
    (zah (Nat.ble (((((((r++(⟨#[32]⟩:ByteArray))++e.name)++(⟨#[32]⟩:ByteArray))++r2)++(⟨#[32]⟩:ByteArray)).size)+r3.size) 4611686018427387904)).bind fun _ =>
    some ((((((r++(⟨#[32]⟩:ByteArray))++e.name)++(⟨#[32]⟩:ByteArray))++r2)++(⟨#[32]⟩:ByteArray))++r3))
def ze9:ByteArray × (List Obs) × Int × Int × Bool × (List Sta) × (List Obs) × Unit→Option ((ByteArray × (List Obs) × Int × Int × Bool × (List Sta) × (List Obs) × Unit) ⊕ (ByteArray × Unit)):=fun (out,t,t1,t2,v,v1,v2,_) =>
  cond (decide (t2 < t1))
    ((idx t t2).bind fun e =>
    (zaM (⟨v,v1⟩:Net) e).bind fun r =>
    (zah (Nat.ble (out.size+r.size) 4611686018427387904)).bind fun _ =>
    (zah (Nat.ble (((out++r).size)+((⟨#[10]⟩:ByteArray).size)) 4611686018427387904)).bind fun _ =>
    some (.inl ((out++r)++(⟨#[10]⟩:ByteArray),t,t1,IntKind.i64.wrap (t2+1),v,v1,v2,())))
    (some (.inr (out,())))
def zdQ (out:ByteArray) (t:List Obs) (t1:Int) (t2:Int) (v:Bool) (v1:List Sta) (v2:List Obs):Option (ByteArray × Unit):=whileO ze9 (out,t,t1,t2,v,v1,v2,())
def zdJ:ByteArray × (List Sta) × Int × Int × Bool × (List Sta) × (List Obs) × Unit→Option ((ByteArray × (List Sta) × Int × Int × Bool × (List Sta) × (List Obs) × Unit) ⊕ (ByteArray × Bool × (List Sta) × (List Obs) × Unit)):=fun (out,t,t1,t2,v,v1,v2,_) =>
  cond (decide (t2 < t1))
    ((idx t t2).bind fun e =>
    cond e.fixed
      ((zah (Nat.ble (out.size+((⟨#[102,105,120,101,100,32]⟩:ByteArray).size)) 4611686018427387904)).bind fun _ =>
      (zah (Nat.ble (((out++(⟨#[102,105,120,101,100,32]⟩:ByteArray)).size)+e.name.size) 4611686018427387904)).bind fun _ =>
      (zah (Nat.ble ((((out++(⟨#[102,105,120,101,100,32]⟩:ByteArray))++e.name).size)+((⟨#[32]⟩:ByteArray).size)) 4611686018427387904)).bind fun _ =>
      (zaD e.x).bind fun r =>
      (zah (Nat.ble (((((out++(⟨#[102,105,120,101,100,32]⟩:ByteArray))++e.name)++(⟨#[32]⟩:ByteArray)).size)+r.size) 4611686018427387904)).bind fun _ =>
      cond v
        ((zah (Nat.ble ((((((out++(⟨#[102,105,120,101,100,32]⟩:ByteArray))++e.name)++(⟨#[32]⟩:ByteArray))++r).size)+((⟨#[32]⟩:ByteArray).size)) 4611686018427387904)).bind fun _ =>
        (zaD e.y).bind fun r1 =>
        (zah (Nat.ble (((((((out++(⟨#[102,105,120,101,100,32]⟩:ByteArray))++e.name)++(⟨#[32]⟩:ByteArray))++r)++(⟨#[32]⟩:ByteArray)).size)+r1.size) 4611686018427387904)).bind fun _ =>
        (zah (Nat.ble ((((((((out++(⟨#[102,105,120,101,100,32]⟩:ByteArray))++e.name)++(⟨#[32]⟩:ByteArray))++r)++(⟨#[32]⟩:ByteArray))++r1).size)+((⟨#[10]⟩:ByteArray).size)) 4611686018427387904)).bind fun _ =>
        some (.inl (((((((out++(⟨#[102,105,120,101,100,32]⟩:ByteArray))++e.name)++(⟨#[32]⟩:ByteArray))++r)++(⟨#[32]⟩:ByteArray))++r1)++(⟨#[10]⟩:ByteArray),t,t1,IntKind.i64.wrap (t2+1),v,v1,v2,())))
        ((zah (Nat.ble ((((((out++(⟨#[102,105,120,101,100,32]⟩:ByteArray))++e.name)++(⟨#[32]⟩:ByteArray))++r).size)+((⟨#[10]⟩:ByteArray).size)) 4611686018427387904)).bind fun _ =>
        some (.inl (((((out++(⟨#[102,105,120,101,100,32]⟩:ByteArray))++e.name)++(⟨#[32]⟩:ByteArray))++r)++(⟨#[10]⟩:ByteArray),t,t1,IntKind.i64.wrap (t2+1),v,v1,v2,()))))
      ((zah (Nat.ble (out.size+((⟨#[102,114,101,101,32]⟩:ByteArray).size)) 4611686018427387904)).bind fun _ =>
      (zah (Nat.ble (((out++(⟨#[102,114,101,101,32]⟩:ByteArray)).size)+e.name.size) 4611686018427387904)).bind fun _ =>
      (zah (Nat.ble ((((out++(⟨#[102,114,101,101,32]⟩:ByteArray))++e.name).size)+((⟨#[32]⟩:ByteArray).size)) 4611686018427387904)).bind fun _ =>
      (zaD e.x).bind fun r =>
      (zah (Nat.ble (((((out++(⟨#[102,114,101,101,32]⟩:ByteArray))++e.name)++(⟨#[32]⟩:ByteArray)).size)+r.size) 4611686018427387904)).bind fun _ =>
      cond v
        ((zah (Nat.ble ((((((out++(⟨#[102,114,101,101,32]⟩:ByteArray))++e.name)++(⟨#[32]⟩:ByteArray))++r).size)+((⟨#[32]⟩:ByteArray).size)) 4611686018427387904)).bind fun _ =>
        (zaD e.y).bind fun r1 =>
        (zah (Nat.ble (((((((out++(⟨#[102,114,101,101,32]⟩:ByteArray))++e.name)++(⟨#[32]⟩:ByteArray))++r)++(⟨#[32]⟩:ByteArray)).size)+r1.size) 4611686018427387904)).bind fun _ =>
        (zah (Nat.ble ((((((((out++(⟨#[102,114,101,101,32]⟩:ByteArray))++e.name)++(⟨#[32]⟩:ByteArray))++r)++(⟨#[32]⟩:ByteArray))++r1).size)+((⟨#[10]⟩:ByteArray).size)) 4611686018427387904)).bind fun _ =>
        some (.inl (((((((out++(⟨#[102,114,101,101,32]⟩:ByteArray))++e.name)++(⟨#[32]⟩:ByteArray))++r)++(⟨#[32]⟩:ByteArray))++r1)++(⟨#[10]⟩:ByteArray),t,t1,IntKind.i64.wrap (t2+1),v,v1,v2,())))
        ((zah (Nat.ble ((((((out++(⟨#[102,114,101,101,32]⟩:ByteArray))++e.name)++(⟨#[32]⟩:ByteArray))++r).size)+((⟨#[10]⟩:ByteArray).size)) 4611686018427387904)).bind fun _ =>
        some (.inl (((((out++(⟨#[102,114,101,101,32]⟩:ByteArray))++e.name)++(⟨#[32]⟩:ByteArray))++r)++(⟨#[10]⟩:ByteArray),t,t1,IntKind.i64.wrap (t2+1),v,v1,v2,())))))
    (some (.inr (out,v,v1,v2,())))
def zdR (out:ByteArray) (t:List Sta) (t1:Int) (t2:Int) (v:Bool) (v1:List Sta) (v2:List Obs):Option (ByteArray × Bool × (List Sta) × (List Obs) × Unit):=whileO zdJ (out,t,t1,t2,v,v1,v2,())
def zbD (b:Bk):Option ByteArray :=
  (ziZ b).bind fun r =>
  cond (!r)
    (some (⟨#[]⟩:ByteArray))
    (cond b.plane
      ((zdR (⟨#[112,108,97,110,101,10]⟩:ByteArray) b.stations (b.stations.length:Int) 0 b.plane b.stations b.obs).bind fun (out,v,v1,v2,_) =>
      (zdQ out v2 (v2.length:Int) 0 v v1 v2).bind fun (out1,_) =>
      some out1)
      ((zdR (⟨#[104,101,105,103,104,116,115,10]⟩:ByteArray) b.stations (b.stations.length:Int) 0 b.plane b.stations b.obs).bind fun (out,v,v1,v2,_) =>
      (zdQ out v2 (v2.length:Int) 0 v v1 v2).bind fun (out1,_) =>
      some out1))
def zfi (n:Net) (o:Obs):Option ByteArray :=
  (M_spec_ObservationOk n o).bind fun r =>
  cond (!r)
    (some (⟨#[]⟩:ByteArray))
    ((zaM n o).bind fun r1 =>
    some r1)
def zf4 (line:ByteArray) (plane:Bool):Option (Sta × Bool) :=
  (zdx line (⟨#[32]⟩:ByteArray)).bind fun r =>
  (idx r 0).bind fun _ =>
  (r[0]?).bind fun e =>
  cond (!(strEq e (⟨#[102,105,120,101,100]⟩:ByteArray)))
    ((idx r 0).bind fun _ =>
    (r[0]?).bind fun e1 =>
    cond (!(strEq e1 (⟨#[102,114,101,101]⟩:ByteArray)))
      (some ((⟨(⟨#[]⟩:ByteArray),(⟨false,([]:List Int),([]:List Int)⟩:Rt),(⟨false,([]:List Int),([]:List Int)⟩:Rt),false⟩:Sta),false))
      (cond plane
        (cond ((r.length:Int) != 4)
          (some ((⟨(⟨#[]⟩:ByteArray),(⟨false,([]:List Int),([]:List Int)⟩:Rt),(⟨false,([]:List Int),([]:List Int)⟩:Rt),false⟩:Sta),false))
          (cond (!plane)
            (cond ((r.length:Int) != 3)
              (some ((⟨(⟨#[]⟩:ByteArray),(⟨false,([]:List Int),([]:List Int)⟩:Rt),(⟨false,([]:List Int),([]:List Int)⟩:Rt),false⟩:Sta),false))
              ((idx r 1).bind fun _ =>
              (r[1]?).bind fun e2 =>
              (idx r 0).bind fun _ =>
              (r[0]?).bind fun e3 =>
              (zbl).bind fun r1 =>
              (idx r 2).bind fun _ =>
              (r[2]?).bind fun e4 =>
              (zar e4).bind fun (r0,_) =>
              cond plane
                ((idx r 3).bind fun _ =>
                (r[3]?).bind fun e5 =>
                (zar e5).bind fun (r0_1,_) =>
                some ((⟨e2,r0,r0_1,strEq e3 (⟨#[102,105,120,101,100]⟩:ByteArray)⟩:Sta),true))
                (some ((⟨e2,r0,r1,strEq e3 (⟨#[102,105,120,101,100]⟩:ByteArray)⟩:Sta),true))))
            ((idx r 1).bind fun _ =>
            (r[1]?).bind fun e2 =>
            (idx r 0).bind fun _ =>
            (r[0]?).bind fun e3 =>
            (zbl).bind fun r1 =>
            (idx r 2).bind fun _ =>
            (r[2]?).bind fun e4 =>
            (zar e4).bind fun (r0,_) =>
            cond plane
              ((idx r 3).bind fun _ =>
              (r[3]?).bind fun e5 =>
              (zar e5).bind fun (r0_1,_) =>
              some ((⟨e2,r0,r0_1,strEq e3 (⟨#[102,105,120,101,100]⟩:ByteArray)⟩:Sta),true))
              (some ((⟨e2,r0,r1,strEq e3 (⟨#[102,105,120,101,100]⟩:ByteArray)⟩:Sta),true)))))
        (cond (!plane)
          (cond ((r.length:Int) != 3)
            (some ((⟨(⟨#[]⟩:ByteArray),(⟨false,([]:List Int),([]:List Int)⟩:Rt),(⟨false,([]:List Int),([]:List Int)⟩:Rt),false⟩:Sta),false))
            ((idx r 1).bind fun _ =>
            (r[1]?).bind fun e2 =>
            (idx r 0).bind fun _ =>
            (r[0]?).bind fun e3 =>
            (zbl).bind fun r1 =>
            (idx r 2).bind fun _ =>
            (r[2]?).bind fun e4 =>
            (zar e4).bind fun (r0,_) =>
            cond plane
              ((idx r 3).bind fun _ =>
              (r[3]?).bind fun e5 =>
              (zar e5).bind fun (r0_1,_) =>
              some ((⟨e2,r0,r0_1,strEq e3 (⟨#[102,105,120,101,100]⟩:ByteArray)⟩:Sta),true))
              (some ((⟨e2,r0,r1,strEq e3 (⟨#[102,105,120,101,100]⟩:ByteArray)⟩:Sta),true))))
          ((idx r 1).bind fun _ =>
          (r[1]?).bind fun e2 =>
          (idx r 0).bind fun _ =>
          (r[0]?).bind fun e3 =>
          (zbl).bind fun r1 =>
          (idx r 2).bind fun _ =>
          (r[2]?).bind fun e4 =>
          (zar e4).bind fun (r0,_) =>
          cond plane
            ((idx r 3).bind fun _ =>
            (r[3]?).bind fun e5 =>
            (zar e5).bind fun (r0_1,_) =>
            some ((⟨e2,r0,r0_1,strEq e3 (⟨#[102,105,120,101,100]⟩:ByteArray)⟩:Sta),true))
            (some ((⟨e2,r0,r1,strEq e3 (⟨#[102,105,120,101,100]⟩:ByteArray)⟩:Sta),true))))))
    (cond plane
      (cond ((r.length:Int) != 4)
        (some ((⟨(⟨#[]⟩:ByteArray),(⟨false,([]:List Int),([]:List Int)⟩:Rt),(⟨false,([]:List Int),([]:List Int)⟩:Rt),false⟩:Sta),false))
        (cond (!plane)
          (cond ((r.length:Int) != 3)
            (some ((⟨(⟨#[]⟩:ByteArray),(⟨false,([]:List Int),([]:List Int)⟩:Rt),(⟨false,([]:List Int),([]:List Int)⟩:Rt),false⟩:Sta),false))
            ((idx r 1).bind fun _ =>
            (r[1]?).bind fun e1 =>
            (idx r 0).bind fun _ =>
            (r[0]?).bind fun e2 =>
            (zbl).bind fun r1 =>
            (idx r 2).bind fun _ =>
            (r[2]?).bind fun e3 =>
            (zar e3).bind fun (r0,_) =>
            cond plane
              ((idx r 3).bind fun _ =>
              (r[3]?).bind fun e4 =>
              (zar e4).bind fun (r0_1,_) =>
              some ((⟨e1,r0,r0_1,strEq e2 (⟨#[102,105,120,101,100]⟩:ByteArray)⟩:Sta),true))
              (some ((⟨e1,r0,r1,strEq e2 (⟨#[102,105,120,101,100]⟩:ByteArray)⟩:Sta),true))))
          ((idx r 1).bind fun _ =>
          (r[1]?).bind fun e1 =>
          (idx r 0).bind fun _ =>
          (r[0]?).bind fun e2 =>
          (zbl).bind fun r1 =>
          (idx r 2).bind fun _ =>
          (r[2]?).bind fun e3 =>
          (zar e3).bind fun (r0,_) =>
          cond plane
            ((idx r 3).bind fun _ =>
            (r[3]?).bind fun e4 =>
            (zar e4).bind fun (r0_1,_) =>
            some ((⟨e1,r0,r0_1,strEq e2 (⟨#[102,105,120,101,100]⟩:ByteArray)⟩:Sta),true))
            (some ((⟨e1,r0,r1,strEq e2 (⟨#[102,105,120,101,100]⟩:ByteArray)⟩:Sta),true)))))
      (cond (!plane)
        (cond ((r.length:Int) != 3)
          (some ((⟨(⟨#[]⟩:ByteArray),(⟨false,([]:List Int),([]:List Int)⟩:Rt),(⟨false,([]:List Int),([]:List Int)⟩:Rt),false⟩:Sta),false))
          ((idx r 1).bind fun _ =>
          (r[1]?).bind fun e1 =>
          (idx r 0).bind fun _ =>
          (r[0]?).bind fun e2 =>
          (zbl).bind fun r1 =>
          (idx r 2).bind fun _ =>
          (r[2]?).bind fun e3 =>
          (zar e3).bind fun (r0,_) =>
          cond plane
            ((idx r 3).bind fun _ =>
            (r[3]?).bind fun e4 =>
            (zar e4).bind fun (r0_1,_) =>
            some ((⟨e1,r0,r0_1,strEq e2 (⟨#[102,105,120,101,100]⟩:ByteArray)⟩:Sta),true))
            (some ((⟨e1,r0,r1,strEq e2 (⟨#[102,105,120,101,100]⟩:ByteArray)⟩:Sta),true))))
        ((idx r 1).bind fun _ =>
        (r[1]?).bind fun e1 =>
        (idx r 0).bind fun _ =>
        (r[0]?).bind fun e2 =>
        (zbl).bind fun r1 =>
        (idx r 2).bind fun _ =>
        (r[2]?).bind fun e3 =>
        (zar e3).bind fun (r0,_) =>
        cond plane
          ((idx r 3).bind fun _ =>
          (r[3]?).bind fun e4 =>
          (zar e4).bind fun (r0_1,_) =>
          some ((⟨e1,r0,r0_1,strEq e2 (⟨#[102,105,120,101,100]⟩:ByteArray)⟩:Sta),true))
          (some ((⟨e1,r0,r1,strEq e2 (⟨#[102,105,120,101,100]⟩:ByteArray)⟩:Sta),true)))))
def zbd:ByteArray × Int × Unit→Option ((ByteArray × Int × Unit) ⊕ ((Int × Unit) ⊕ (Unit))):=fun (word,k,_) =>
  cond (decide (k≤8))
    ((zer k).bind fun r =>
    cond (strEq r word)
      (some (.inr (.inl (k,()))))
      (some (.inl (word,IntKind.i64.wrap (k+1),()))))
    (some (.inr (.inr (()))))
def zgA (word:ByteArray) (k:Int):Option ((Int × Unit) ⊕ (Unit)):=whileO zbd (word,k,())
def zeU (word:ByteArray):Option Int :=
  (zgA word 1).bind fun r =>
  match r with
  | .inl (t,_) =>
    some t
  | .inr _ =>
    some 0
def za7 (n:Net) (line:ByteArray):Option (Obs × Bool) :=
  (zdx line (⟨#[32]⟩:ByteArray)).bind fun r =>
  (idx r 0).bind fun _ =>
  (r[0]?).bind fun e =>
  (zeU e).bind fun r1 =>
  (zck r1).bind fun r2 =>
  cond r2
    (cond (r1==0)
      (some ((⟨0,0,0,(⟨false,([]:List Int),([]:List Int)⟩:Rt),(⟨false,([]:List Int),([]:List Int)⟩:Rt)⟩:Obs),false))
      (cond ((r.length:Int) != 5)
        (some ((⟨0,0,0,(⟨false,([]:List Int),([]:List Int)⟩:Rt),(⟨false,([]:List Int),([]:List Int)⟩:Rt)⟩:Obs),false))
        ((idx r 1).bind fun _ =>
        (r[1]?).bind fun e1 =>
        (zc6 n e1).bind fun r3 =>
        (idx r 2).bind fun _ =>
        (r[2]?).bind fun e2 =>
        (zc6 n e2).bind fun r4 =>
        (idx r 3).bind fun _ =>
        (r[3]?).bind fun e3 =>
        (zar e3).bind fun (r0,_) =>
        (idx r 4).bind fun _ =>
        (r[4]?).bind fun e4 =>
        (zar e4).bind fun (r0_1,_) =>
        (M_spec_ObservationOk n (⟨r1,r3,r4,r0,r0_1⟩:Obs)).bind fun r5 =>
        cond (!r5)
          (some ((⟨0,0,0,(⟨false,([]:List Int),([]:List Int)⟩:Rt),(⟨false,([]:List Int),([]:List Int)⟩:Rt)⟩:Obs),false))
          ((zaM n (⟨r1,r3,r4,r0,r0_1⟩:Obs)).bind fun r6 =>
          cond (!(strEq r6 line))
            (some ((⟨0,0,0,(⟨false,([]:List Int),([]:List Int)⟩:Rt),(⟨false,([]:List Int),([]:List Int)⟩:Rt)⟩:Obs),false))
            (some ((⟨r1,r3,r4,r0,r0_1⟩:Obs),true))))))
    (cond (r1==0)
      (some ((⟨0,0,0,(⟨false,([]:List Int),([]:List Int)⟩:Rt),(⟨false,([]:List Int),([]:List Int)⟩:Rt)⟩:Obs),false))
      (cond ((r.length:Int) != 4)
        (some ((⟨0,0,0,(⟨false,([]:List Int),([]:List Int)⟩:Rt),(⟨false,([]:List Int),([]:List Int)⟩:Rt)⟩:Obs),false))
        ((idx r 1).bind fun _ =>
        (r[1]?).bind fun e1 =>
        (zc6 n e1).bind fun r3 =>
        (idx r 2).bind fun _ =>
        (r[2]?).bind fun e2 =>
        (zar e2).bind fun (r0,_) =>
        (idx r 3).bind fun _ =>
        (r[3]?).bind fun e3 =>
        (zar e3).bind fun (r0_1,_) =>
        (M_spec_ObservationOk n (⟨r1,r3,0,r0,r0_1⟩:Obs)).bind fun r4 =>
        cond (!r4)
          (some ((⟨0,0,0,(⟨false,([]:List Int),([]:List Int)⟩:Rt),(⟨false,([]:List Int),([]:List Int)⟩:Rt)⟩:Obs),false))
          ((zaM n (⟨r1,r3,0,r0,r0_1⟩:Obs)).bind fun r5 =>
          cond (!(strEq r5 line))
            (some ((⟨0,0,0,(⟨false,([]:List Int),([]:List Int)⟩:Rt),(⟨false,([]:List Int),([]:List Int)⟩:Rt)⟩:Obs),false))
            (some ((⟨r1,r3,0,r0,r0_1⟩:Obs),true))))))
def S_spec_ParseBook_0:ByteArray × (List ByteArray) × Int × Int × Bool × (List Sta) × (List Obs) × Bool × (List Sta) × (List Obs) × Unit→Option ((ByteArray × (List ByteArray) × Int × Int × Bool × (List Sta) × (List Obs) × Bool × (List Sta) × (List Obs) × Unit) ⊕ ((Bool × Bool × (List Sta) × (List Obs) × Unit) ⊕ (ByteArray × Bool × (List Sta) × (List Obs) × Bool × (List Sta) × (List Obs) × Unit))):=fun (s,t,t1,t2,v,v1,v2,v3,xs,xs1,_) =>
  cond (decide (t2 < t1))
    ((idx t t2).bind fun e =>
    (zf4 e v3).bind fun (r0,r1) =>
    cond r1
      (cond ((xs1.length:Int)==0)
        (cond (decide ((xs.length:Int) < 8))
          ((zah (Nat.ble (xs.length+1) zan)).bind fun _ =>
          some (.inl (s,t,t1,IntKind.i64.wrap (t2+1),v,v1,v2,v3,xs++([r0]:List Sta),xs1,())))
          ((za7 (⟨v3,xs⟩:Net) e).bind fun (r0_1,r1_1) =>
          cond (!r1_1)
            (some (.inr (.inl (false,false,([]:List Sta),([]:List Obs),()))))
            (cond ((xs1.length:Int)==20)
              (some (.inr (.inl (false,false,([]:List Sta),([]:List Obs),()))))
              ((zah (Nat.ble (xs1.length+1) zan)).bind fun _ =>
              some (.inl (s,t,t1,IntKind.i64.wrap (t2+1),v,v1,v2,v3,xs,xs1++([r0_1]:List Obs),()))))))
        ((za7 (⟨v3,xs⟩:Net) e).bind fun (r0_1,r1_1) =>
        cond (!r1_1)
          (some (.inr (.inl (false,false,([]:List Sta),([]:List Obs),()))))
          (cond ((xs1.length:Int)==20)
            (some (.inr (.inl (false,false,([]:List Sta),([]:List Obs),()))))
            ((zah (Nat.ble (xs1.length+1) zan)).bind fun _ =>
            some (.inl (s,t,t1,IntKind.i64.wrap (t2+1),v,v1,v2,v3,xs,xs1++([r0_1]:List Obs),()))))))
      ((za7 (⟨v3,xs⟩:Net) e).bind fun (r0_1,r1_1) =>
      cond (!r1_1)
        (some (.inr (.inl (false,false,([]:List Sta),([]:List Obs),()))))
        (cond ((xs1.length:Int)==20)
          (some (.inr (.inl (false,false,([]:List Sta),([]:List Obs),()))))
          ((zah (Nat.ble (xs1.length+1) zan)).bind fun _ =>
          some (.inl (s,t,t1,IntKind.i64.wrap (t2+1),v,v1,v2,v3,xs,xs1++([r0_1]:List Obs),()))))))
    (some (.inr (.inr (s,v,v1,v2,v3,xs,xs1,()))))
def zfP (s:ByteArray) (t:List ByteArray) (t1:Int) (t2:Int) (v:Bool) (v1:List Sta) (v2:List Obs) (v3:Bool) (xs:List Sta) (xs1:List Obs):Option ((Bool × Bool × (List Sta) × (List Obs) × Unit) ⊕ (ByteArray × Bool × (List Sta) × (List Obs) × Bool × (List Sta) × (List Obs) × Unit)):=whileO S_spec_ParseBook_0 (s,t,t1,t2,v,v1,v2,v3,xs,xs1,())
def zi4 (s:ByteArray):Option (Bk × Bool) :=
  (zf5 s).bind fun r =>
  cond ((r.length:Int)==0)
    (some ((⟨false,([]:List Sta),([]:List Obs)⟩:Bk),false))
    ((idx r 0).bind fun _ =>
    (r[0]?).bind fun e =>
    cond (!(strEq e (⟨#[112,108,97,110,101]⟩:ByteArray)))
      ((idx r 0).bind fun _ =>
      (r[0]?).bind fun e1 =>
      cond (!(strEq e1 (⟨#[104,101,105,103,104,116,115]⟩:ByteArray)))
        (some ((⟨false,([]:List Sta),([]:List Obs)⟩:Bk),false))
        ((idx r 0).bind fun _ =>
        (r[0]?).bind fun e2 =>
        (zah (inside r.length (1,(r.length:Int)))).bind fun _ =>
        (zfP s (cut r 1 (1+(((r.length:Int).toNat) - 1))) ((((r.length:Int).toNat) - 1:Nat):Int) 0 false ([]:List Sta) ([]:List Obs) (strEq e2 (⟨#[112,108,97,110,101]⟩:ByteArray)) ([]:List Sta) ([]:List Obs)).bind fun r1 =>
        match r1 with
        | .inl (t,v,v1,v2,_) =>
          some ((⟨v,v1,v2⟩:Bk),t)
        | .inr (s1,_,_,_,v6,xs,xs1,_) =>
          (zbD (⟨v6,xs,xs1⟩:Bk)).bind fun r2 =>
          cond (strEq r2 (⟨#[]⟩:ByteArray))
            (some ((⟨false,([]:List Sta),([]:List Obs)⟩:Bk),false))
            ((zbD (⟨v6,xs,xs1⟩:Bk)).bind fun r3 =>
            cond (!(strEq r3 s1))
              (some ((⟨false,([]:List Sta),([]:List Obs)⟩:Bk),false))
              (some ((⟨v6,xs,xs1⟩:Bk),true)))))
      ((idx r 0).bind fun _ =>
      (r[0]?).bind fun e1 =>
      (zah (inside r.length (1,(r.length:Int)))).bind fun _ =>
      (zfP s (cut r 1 (1+(((r.length:Int).toNat) - 1))) ((((r.length:Int).toNat) - 1:Nat):Int) 0 false ([]:List Sta) ([]:List Obs) (strEq e1 (⟨#[112,108,97,110,101]⟩:ByteArray)) ([]:List Sta) ([]:List Obs)).bind fun r1 =>
      match r1 with
      | .inl (t,v,v1,v2,_) =>
        some ((⟨v,v1,v2⟩:Bk),t)
      | .inr (s1,_,_,_,v6,xs,xs1,_) =>
        (zbD (⟨v6,xs,xs1⟩:Bk)).bind fun r2 =>
        cond (strEq r2 (⟨#[]⟩:ByteArray))
          (some ((⟨false,([]:List Sta),([]:List Obs)⟩:Bk),false))
          ((zbD (⟨v6,xs,xs1⟩:Bk)).bind fun r3 =>
          cond (!(strEq r3 s1))
            (some ((⟨false,([]:List Sta),([]:List Obs)⟩:Bk),false))
            (some ((⟨v6,xs,xs1⟩:Bk),true)))))
end Go.Di
namespace Go.Di
def zcY:(List Obs) × (List Obs) × Int × Int × Bool × (List Sta) × Unit→Option (((List Obs) × (List Obs) × Int × Int × Bool × (List Sta) × Unit) ⊕ ((Bool × Unit) ⊕ ((List Obs) × Unit))):=fun (list,t,t1,t2,v,v1,_) =>
  cond (decide (t2 < t1))
    ((idx t t2).bind fun e =>
    (zbg (⟨v,v1⟩:Net) e).bind fun r =>
    (zam (⟨v,v1⟩:Net) r).bind fun (r0,r1) =>
    cond (!r1)
      (some (.inr (.inl (false,()))))
      ((zbM ([r0]:List Obs) ([e]:List Obs)).bind fun r2 =>
      cond (!r2)
        (some (.inr (.inl (false,()))))
        (some (.inl (list,t,t1,IntKind.i64.wrap (t2+1),v,v1,())))))
    (some (.inr (.inr (list,()))))
def zgC (list:List Obs) (t:List Obs) (t1:Int) (t2:Int) (v:Bool) (v1:List Sta):Option ((Bool × Unit) ⊕ ((List Obs) × Unit)):=whileO zcY (list,t,t1,t2,v,v1,())
def zhM (code:List Int):Option Bool :=
  cond (decide ((code.length:Int) > 1048576))
    (some true)
    ((zfI code).bind fun (r0,r1) =>
    (zbF (⟨r0.plane,r0.stations,r1⟩:Bk)).bind fun r =>
    (zdY r).bind fun (r0_1,r1_1) =>
    cond (!r1_1)
      (some false)
      ((ze3 (⟨r0.plane,r0.stations,r1⟩:Bk) r0_1).bind fun r2 =>
      cond (!r2)
        (some false)
        ((zcw (⟨r0.plane,r0.stations,r1⟩:Bk)).bind fun r3 =>
        cond (!r3)
          (some false)
          ((zbE r0 r1).bind fun r4 =>
          cond (!r4)
            (some false)
            ((zgC r1 r1 (r1.length:Int) 0 r0.plane r0.stations).bind fun r5 =>
            match r5 with
            | .inl (t,_) =>
              some t
            | .inr (list,_) =>
              (zbY list ([0]:List Int)).bind fun r6 =>
              some ((r6.length:Int)==(IntKind.i64.wrap ((list.length:Int) - 1))))))))
end Go.Di
