/-
  DERIVED: THE SHELF's CONTRACTS AT THIS DUMP, IN PLAIN WORDS (tools/lay-plain.mjs out of 'TryzShelf.lean', which tools/lay-shelf.mjs wrote): THE SAME DECLARATIONS UNDER THE SAME NAMES: 'import', 'namespace', 'open', 'def', 'theorem' AND NOTHING ELSE: no command of the shelf's: FOR A HAND-IN. Each laying: the table of numbers ('.._ren') and one theorem, a field a fact of the dump's own or the kernel's comparison; each contract: ONE APPLICATION.
-/
import Derived.Shelf.Strings.Builder1
import Derived.Shelf.Strings.Builder2
import Derived.Shelf.Strings.Trim
import Derived.Shelf.Small.Utf8
import Derived.Shelf.Small.Strs
import Derived.Shelf.Strings.BuilderF
import Derived.Shelf.Strings.BuilderK
import Derived.Shelf.Strings.BuilderRune
import Derived.Shelf.Strings.Builder2Cap
import Derived.Shelf.Strconv.Atoi
import Derived.Shelf.Strconv.Itoa0
import Derived.Shelf.Strconv.Itoa1
import Derived.Shelf.LaysM
import Derived.Shelf.Strconv.Itoa2
import Derived.Shelf.Strconv.Itoa3
import Derived.Shelf.Strconv.AtoiErrFast
import Derived.Shelf.Strconv.ParseIntEmpty
import Derived.Shelf.Strconv.AtoiFail
import Derived.Shelf.Strconv.Clone
import Derived.Shelf.Strconv.SyntaxError
import Derived.Shelf.LaysC
import Derived.Shelf.Strconv.ToError
import Derived.Shelf.Strconv.AtoiErr
import Derived.Shelf.Strconv.ErrVar
import Derived.Shelf.Strconv.Lower
import Derived.Shelf.Strconv.ParseUint10
import Derived.Shelf.Strconv.ParseUint10Empty
import Derived.Shelf.Strconv.ParseUint10Any
import Derived.Shelf.Strconv.ParseInt10
import Derived.Shelf.Strconv.AtoiLong
import Derived.Shelf.Strconv.AtoiInnerAll
import Derived.Shelf.Strconv.RangeError
import Derived.Shelf.Strconv.ToErrorRange
import Derived.Shelf.Strconv.AtoiAll
import Derived.Shelf.Strconv.ErrVarAll
import Derived.Shelf.Strconv.ParseUintEmpty
import Derived.Shelf.Strconv.ParseUint10b64
import Derived.Shelf.Strconv.ParseUint10b32
import Derived.Shelf.Strconv.ParseUint10b16
import Derived.Shelf.Strconv.ParseUint10b8
import Derived.Shelf.Strconv.ParseUint10At
import Derived.Shelf.Strconv.ParseInt10At64
import Derived.Shelf.Strconv.ParseInt10At32
import Derived.Shelf.Strconv.ParseInt10At16
import Derived.Shelf.Strconv.ParseInt10At8
import Derived.Shelf.Strconv.ParseInt10All
import Derived.Shelf.Strings.Search1
import Derived.Shelf.Strings.Search2
import Derived.Shelf.Strings.Search3
import Derived.Shelf.Strings.Cut
import Derived.Shelf.Strings.Count
import Derived.Shelf.Strings.Shaped
import Derived.Shelf.Strings.Prefix
import Derived.Shelf.Strings.Split
import Derived.Shelf.Strings.Runes
import Derived.Shelf.Strings.AsciiSet
import Derived.Shelf.Bits.Mul64
import Derived.Shelf.Strings.Repeat
import Derived.Shelf.Unicode.DecodeSlow
import Derived.Shelf.Unicode.DecodeAny
import Derived.Shelf.Unicode.DecodeLast
import Derived.Shelf.Strings.MapAny
import Derived.Shelf.Strings.BuilderCap
import Derived.Shelf.Strings.MapGrows
import Derived.Test.YtadobobfjnmdlaaGreatDoorProg
set_option linter.unnecessarySimpa false
set_option linter.unusedVariables false
set_option linter.unusedSimpArgs false
set_option maxHeartbeats 16000000
set_option maxRecDepth 100000
open Go.Proofs.Tryz
namespace Go
theorem qq {p:Prop} (h:p):Go.RowKit.Hid p:=h
theorem qv (n:Nat):n≤n:=Nat.le_refl n
theorem qy {n m k:Nat} (h:n≤m) (g:m≤k):n≤k:=Nat.le_trans h g
theorem qj {n m k:Nat} (h:n<m) (g:m≤k):n<k:=Nat.lt_of_lt_of_le h g
theorem qx (n:Nat):0≤n:=Nat.zero_le n
theorem qw {α:Type _} {a b:List α}:(a++b).length=a.length+b.length:=List.length_append
theorem qk {α:Type _} [BEq α] [LawfulBEq α] {a b:α}:(a==b)=false↔a≠b:=beq_eq_false_iff_ne
end Go
namespace Go.Proofs
open Go.Shelf
def lays169_ren:Go.Shelf.Ren:=⟨fun | 169=>118 | n=>n,fun | 70=>145 | 9=>9 | 0=>0 | 72=>147 | 37=>100 | 127=>198 | 3=>3 | 5=>5 | n=>n,fun | n=>n⟩
theorem lays169:Go.Proofs.Lays.n169 prog lays169_ren:={
 mixed:=by kernel_rfl
 f169:=func118.trans (congrArg some (by kernel_rfl))
 t0:=underlying0
 a0:=isAgg0
 z0:=sizeOf0
 v0:=zeroValue0
 t3:=underlying3
 a3:=isAgg3
 z3:=sizeOf3
 v3:=zeroValue3
 t9:=underlying9
 a9:=isAgg9
 z9:=sizeOf9
 v9:=zeroValue9
 t37:=underlying100
 a37:=isAgg100
 z37:=sizeOf100
 v37:=zeroValue100
 t70:=underlying145
 a70:=isAgg145
 z70:=sizeOf145
 v70:=zeroValue145
 t72:=underlying147
 a72:=isAgg147
 z72:=sizeOf147
 v72:=zeroValue147
 t127:=underlying198
 a127:=isAgg198
 z127:=sizeOf198
 v127:=zeroValue198 }
theorem Tryz.Builder_Extra_169:Builder.Extra prog lays169_ren:={
 sizeBuilder:=by kernel_rfl
 liesBuilder:=by kernel_rfl
 t5:=underlying5
 a5:=isAgg5
 z5:=sizeOf5
 v5:=zeroValue5
 infoByte:=by kernel_rfl
 cellsByte:=by kernel_rfl
 sizeByte:=by kernel_rfl
 neB5:=by decide }
open Go.RowKit in
theorem Tryz.Builder_String_any (B b:Nat)(l:List UInt8)(w:World)(h:Lib.IsBuilder 147 5 B b (Lib.byteCells l) w)(a:B≤w.heap.size) :
  Calls prog 118 #[.pointer (some ⟨b,0,none⟩)] w λe w'=>e=.returned (.string ⟨l.toArray⟩)∧Below B w w':=Any.Builder_String_any lays169 Tryz.Builder_Extra_169 B b l w h a
def lays160_ren:Go.Shelf.Ren:=⟨fun | 160=>162 | 232=>197 | 231=>196 | 227=>198 | 234=>200 | 233=>199 | 236=>202 | 235=>201 | 228=>230 | 271=>232 | 151=>231 | 197=>227 | 120=>259 | 152=>245 | 260=>258 | 137=>218 | 119=>266 | 224=>157 | 225=>156 | 217=>155 | 266=>190 | n=>n,fun | 9=>9 | 4=>4 | 3=>3 | 5=>5 | 117=>242 | 116=>241 | 0=>0 | 124=>245 | 21=>21 | 105=>264 | 46=>101 | 119=>303 | 139=>306 | 138=>305 | n=>n,fun | 3=>4 | 4=>5 | n=>n⟩
theorem lays160:Go.Proofs.Lays.n160 prog lays160_ren:={
 mixed:=by kernel_rfl
 f119:=func266.trans (congrArg some (by kernel_rfl))
 f120:=func259.trans (congrArg some (by kernel_rfl))
 f137:=func218.trans (congrArg some (by kernel_rfl))
 f151:=func231.trans (congrArg some (by kernel_rfl))
 f152:=func245.trans (congrArg some (by kernel_rfl))
 f160:=func162.trans (congrArg some (by kernel_rfl))
 f197:=func227.trans (congrArg some (by kernel_rfl))
 f217:=func155.trans (congrArg some (by kernel_rfl))
 f224:=func157.trans (congrArg some (by kernel_rfl))
 f225:=func156.trans (congrArg some (by kernel_rfl))
 f227:=func198.trans (congrArg some (by kernel_rfl))
 f228:=func230.trans (congrArg some (by kernel_rfl))
 f231:=func196.trans (congrArg some (by kernel_rfl))
 f232:=func197.trans (congrArg some (by kernel_rfl))
 f233:=func199.trans (congrArg some (by kernel_rfl))
 f234:=func200.trans (congrArg some (by kernel_rfl))
 f235:=func201.trans (congrArg some (by kernel_rfl))
 f236:=func202.trans (congrArg some (by kernel_rfl))
 f260:=func258.trans (congrArg some (by kernel_rfl))
 f266:=func190.trans (congrArg some (by kernel_rfl))
 f271:=func232.trans (congrArg some (by kernel_rfl))
 t0:=underlying0
 a0:=isAgg0
 z0:=sizeOf0
 v0:=zeroValue0
 t3:=underlying3
 a3:=isAgg3
 z3:=sizeOf3
 v3:=zeroValue3
 t4:=underlying4
 a4:=isAgg4
 z4:=sizeOf4
 v4:=zeroValue4
 t5:=underlying5
 a5:=isAgg5
 z5:=sizeOf5
 v5:=zeroValue5
 t9:=underlying9
 a9:=isAgg9
 z9:=sizeOf9
 v9:=zeroValue9
 t21:=underlying21
 a21:=isAgg21
 z21:=sizeOf21
 v21:=zeroValue21
 t46:=underlying101
 a46:=isAgg101
 z46:=sizeOf101
 v46:=zeroValue101
 t105:=underlying264
 a105:=isAgg264
 z105:=sizeOf264
 v105:=zeroValue264
 t116:=underlying241
 a116:=isAgg241
 z116:=sizeOf241
 t117:=underlying242
 a117:=isAgg242
 z117:=sizeOf242
 v117:=zeroValue242
 t119:=underlying303
 a119:=isAgg303
 z119:=sizeOf303
 t124:=underlying245
 a124:=isAgg245
 z124:=sizeOf245
 v124:=zeroValue245
 t138:=underlying305
 a138:=isAgg305
 z138:=sizeOf305
 v138:=zeroValue305
 t139:=underlying306
 a139:=isAgg306
 z139:=sizeOf306
 v139:=zeroValue306
 g3:=by kernel_rfl
 g4:=by kernel_rfl }
def lays119_ren:Go.Shelf.Ren:=⟨fun | 119=>266 | n=>n,fun | 21=>21 | 4=>4 | n=>n,fun | n=>n⟩
theorem lays119:Go.Proofs.Lays.n119 prog lays119_ren:={
 mixed:=by kernel_rfl
 f119:=func266.trans (congrArg some (by kernel_rfl))
 t4:=underlying4
 a4:=isAgg4
 z4:=sizeOf4
 v4:=zeroValue4
 t21:=underlying21
 a21:=isAgg21
 z21:=sizeOf21
 v21:=zeroValue21 }
theorem Tryz.utf8_ValidRune (r:Int)(w:World) :
  Calls prog 266 #[.int .i32 r] w λe w'=>e=.returned (.bool (Lib.validRune r))∧w'=w:=Any.utf8_ValidRune lays119 r w
def lays137_ren:Go.Shelf.Ren:=⟨fun | 137=>218 | 217=>155 | 266=>190 | n=>n,fun | 9=>9 | 5=>5 | 3=>3 | n=>n,fun | n=>n⟩
theorem lays137:Go.Proofs.Lays.n137 prog lays137_ren:={
 mixed:=by kernel_rfl
 f137:=func218.trans (congrArg some (by kernel_rfl))
 f217:=func155.trans (congrArg some (by kernel_rfl))
 f266:=func190.trans (congrArg some (by kernel_rfl))
 t3:=underlying3
 a3:=isAgg3
 z3:=sizeOf3
 v3:=zeroValue3
 t5:=underlying5
 a5:=isAgg5
 z5:=sizeOf5
 v5:=zeroValue5
 t9:=underlying9
 a9:=isAgg9
 z9:=sizeOf9
 v9:=zeroValue9 }
open Go.RowKit in
theorem Tryz.strings_IndexByte (s:ByteArray)(c:Int)(w:World) :
  Calls prog 218 #[.string s,.int .u8 c] w λe w'=>e=.returned (.int .i64 (Lib.indexByte s.data.toList c.toNat.toUInt8))∧w'=w:=Any.strings_IndexByte lays137 s c w
def Tryz.laysM171_ren:Go.Shelf.Ren:=⟨fun | 171=>116 | 243=>144 | 246=>179 | 283=>219 | 284=>220 | 285=>221 | 286=>222 | 129=>251 | 317=>250 | 318=>252 | 319=>253 | 320=>254 | 337=>272 | 338=>273 | n=>n,fun | 3=>3 | 9=>9 | 2=>2 | 4=>4 | 171=>256 | 0=>0 | 53=>94 | 37=>100 | 5=>5 | 173=>258 | 212=>285 | 51=>234 | 20=>20 | 213=>286 | 46=>101 | 232=>315 | 233=>316 | n=>n,fun | 17=>1 | 18=>6 | 19=>7 | n=>n⟩
theorem Tryz.laysM171:Go.Proofs.LaysM.n171 prog Tryz.laysM171_ren:={
 mixed:=by kernel_rfl
 f129:=func251.trans (congrArg some (by kernel_rfl))
 f171:=func116.trans (congrArg some (by kernel_rfl))
 f243:=func144.trans (congrArg some (by kernel_rfl))
 f246:=func179.trans (congrArg some (by kernel_rfl))
 f283:=func219.trans (congrArg some (by kernel_rfl))
 f284:=func220.trans (congrArg some (by kernel_rfl))
 f285:=func221.trans (congrArg some (by kernel_rfl))
 f286:=func222.trans (congrArg some (by kernel_rfl))
 f317:=func250.trans (congrArg some (by kernel_rfl))
 f318:=func252.trans (congrArg some (by kernel_rfl))
 f319:=func253.trans (congrArg some (by kernel_rfl))
 f320:=func254.trans (congrArg some (by kernel_rfl))
 f337:=func272.trans (congrArg some (by kernel_rfl))
 f338:=func273.trans (congrArg some (by kernel_rfl))
 t0:=underlying0
 a0:=isAgg0
 z0:=sizeOf0
 v0:=zeroValue0
 t2:=underlying2
 a2:=isAgg2
 z2:=sizeOf2
 v2:=zeroValue2
 t3:=underlying3
 a3:=isAgg3
 z3:=sizeOf3
 v3:=zeroValue3
 t4:=underlying4
 a4:=isAgg4
 z4:=sizeOf4
 v4:=zeroValue4
 t5:=underlying5
 a5:=isAgg5
 z5:=sizeOf5
 v5:=zeroValue5
 t9:=underlying9
 a9:=isAgg9
 z9:=sizeOf9
 v9:=zeroValue9
 t20:=underlying20
 a20:=isAgg20
 z20:=sizeOf20
 v20:=zeroValue20
 t37:=underlying100
 a37:=isAgg100
 z37:=sizeOf100
 v37:=zeroValue100
 t46:=underlying101
 a46:=isAgg101
 z46:=sizeOf101
 v46:=zeroValue101
 t51:=underlying234
 a51:=isAgg234
 z51:=sizeOf234
 v51:=zeroValue234
 t53:=underlying94
 a53:=isAgg94
 z53:=sizeOf94
 v53:=zeroValue94
 t171:=underlying256
 a171:=isAgg256
 z171:=sizeOf256
 v171:=zeroValue256
 t173:=underlying258
 a173:=isAgg258
 z173:=sizeOf258
 v173:=zeroValue258
 t212:=underlying285
 a212:=isAgg285
 z212:=sizeOf285
 v212:=zeroValue285
 t213:=underlying286
 a213:=isAgg286
 z213:=sizeOf286
 t232:=underlying315
 a232:=isAgg315
 z232:=sizeOf315
 v232:=zeroValue315
 t233:=underlying316
 a233:=isAgg316
 z233:=sizeOf316
 v233:=zeroValue316
 g17:=by kernel_rfl
 g18:=by kernel_rfl
 g19:=by kernel_rfl
 i0:=by kernel_rfl
 i2:=by kernel_rfl
 i3:=by kernel_rfl
 i4:=by kernel_rfl
 i5:=by kernel_rfl
 i9:=by kernel_rfl
 i20:=by kernel_rfl
 i37:=by kernel_rfl
 i46:=by kernel_rfl
 i51:=by kernel_rfl
 i53:=by kernel_rfl
 i171:=by kernel_rfl
 i173:=by kernel_rfl
 i212:=by kernel_rfl
 i232:=by kernel_rfl
 i233:=by kernel_rfl
 m17:=by kernel_rfl
 m18:=by kernel_rfl
 m19:=by kernel_rfl }
open Go.RowKit Go.Sort Go.Lib in
theorem Tryz.strconv_Itoa (n:Int)(h0:-9223372036854775808≤n)(b:n≤9223372036854775807)(w:World)(a:Lib.TabIs prog w "internal/strconv.uint64pow10" .u64 Lib.pow10Tab) :
  Calls prog 116 #[.int .i64 n] w λe w'=>e=.returned (.string ⟨(Lib.itoa n).toArray⟩)∧∃k os,w'=grow (w.drewN k) os:=Any.strconv_Itoa Tryz.laysM171 n h0 b w a
def Tryz.laysC172_ren:Go.Shelf.Ren:=⟨fun | 172=>163 | 244=>203 | 245=>204 | 247=>233 | 279=>234 | 280=>235 | 281=>236 | 282=>237 | 287=>260 | 316=>261 | 171=>116 | 205=>262 | 321=>274 | 322=>275 | 243=>144 | 246=>179 | 283=>219 | 284=>220 | 285=>221 | 286=>222 | 129=>251 | 317=>250 | 318=>252 | 319=>253 | 320=>254 | 337=>272 | 338=>273 | n=>n,fun | 9=>9 | 3=>3 | 75=>171 | 76=>172 | 4=>4 | 5=>5 | 167=>267 | 37=>100 | 0=>0 | 85=>268 | 2=>2 | 168=>270 | 53=>94 | 175=>289 | 46=>101 | 210=>292 | 127=>198 | 145=>309 | 143=>307 | 21=>21 | 171=>256 | 173=>258 | 212=>285 | 51=>234 | 20=>20 | 213=>286 | 232=>315 | 233=>316 | 80=>46 | n=>n,fun | 15=>2 | 16=>3 | 17=>1 | 18=>6 | 19=>7 | n=>n⟩
theorem Tryz.laysC172:Go.Proofs.LaysC.n172 prog Tryz.laysC172_ren:={
 mixed:=by kernel_rfl
 f129:=func251.trans (congrArg some (by kernel_rfl))
 f171:=func116.trans (congrArg some (by kernel_rfl))
 f172:=func163.trans (congrArg some (by kernel_rfl))
 f205:=func262.trans (congrArg some (by kernel_rfl))
 f243:=func144.trans (congrArg some (by kernel_rfl))
 f244:=func203.trans (congrArg some (by kernel_rfl))
 f245:=func204.trans (congrArg some (by kernel_rfl))
 f246:=func179.trans (congrArg some (by kernel_rfl))
 f247:=func233.trans (congrArg some (by kernel_rfl))
 f279:=func234.trans (congrArg some (by kernel_rfl))
 f280:=func235.trans (congrArg some (by kernel_rfl))
 f281:=func236.trans (congrArg some (by kernel_rfl))
 f282:=func237.trans (congrArg some (by kernel_rfl))
 f283:=func219.trans (congrArg some (by kernel_rfl))
 f284:=func220.trans (congrArg some (by kernel_rfl))
 f285:=func221.trans (congrArg some (by kernel_rfl))
 f286:=func222.trans (congrArg some (by kernel_rfl))
 f287:=func260.trans (congrArg some (by kernel_rfl))
 f316:=func261.trans (congrArg some (by kernel_rfl))
 f317:=func250.trans (congrArg some (by kernel_rfl))
 f318:=func252.trans (congrArg some (by kernel_rfl))
 f319:=func253.trans (congrArg some (by kernel_rfl))
 f320:=func254.trans (congrArg some (by kernel_rfl))
 f321:=func274.trans (congrArg some (by kernel_rfl))
 f322:=func275.trans (congrArg some (by kernel_rfl))
 f337:=func272.trans (congrArg some (by kernel_rfl))
 f338:=func273.trans (congrArg some (by kernel_rfl))
 t0:=underlying0
 a0:=isAgg0
 z0:=sizeOf0
 v0:=zeroValue0
 t2:=underlying2
 a2:=isAgg2
 z2:=sizeOf2
 v2:=zeroValue2
 t3:=underlying3
 a3:=isAgg3
 z3:=sizeOf3
 v3:=zeroValue3
 t4:=underlying4
 a4:=isAgg4
 z4:=sizeOf4
 v4:=zeroValue4
 t5:=underlying5
 a5:=isAgg5
 z5:=sizeOf5
 v5:=zeroValue5
 t9:=underlying9
 a9:=isAgg9
 z9:=sizeOf9
 v9:=zeroValue9
 t20:=underlying20
 a20:=isAgg20
 z20:=sizeOf20
 v20:=zeroValue20
 t21:=underlying21
 a21:=isAgg21
 z21:=sizeOf21
 v21:=zeroValue21
 t37:=underlying100
 a37:=isAgg100
 z37:=sizeOf100
 v37:=zeroValue100
 t46:=underlying101
 a46:=isAgg101
 z46:=sizeOf101
 v46:=zeroValue101
 t51:=underlying234
 a51:=isAgg234
 z51:=sizeOf234
 v51:=zeroValue234
 t53:=underlying94
 a53:=isAgg94
 z53:=sizeOf94
 v53:=zeroValue94
 t75:=underlying171
 a75:=isAgg171
 z75:=sizeOf171
 v75:=zeroValue171
 t76:=underlying172
 a76:=isAgg172
 z76:=sizeOf172
 v76:=zeroValue172
 t85:=underlying268
 a85:=isAgg268
 z85:=sizeOf268
 v85:=zeroValue268
 t127:=underlying198
 a127:=isAgg198
 z127:=sizeOf198
 v127:=zeroValue198
 t143:=underlying307
 a143:=isAgg307
 z143:=sizeOf307
 v143:=zeroValue307
 t145:=underlying309
 a145:=isAgg309
 z145:=sizeOf309
 v145:=zeroValue309
 t167:=underlying267
 a167:=isAgg267
 z167:=sizeOf267
 v167:=zeroValue267
 t168:=underlying270
 a168:=isAgg270
 z168:=sizeOf270
 v168:=zeroValue270
 t171:=underlying256
 a171:=isAgg256
 z171:=sizeOf256
 v171:=zeroValue256
 t173:=underlying258
 a173:=isAgg258
 z173:=sizeOf258
 v173:=zeroValue258
 t175:=underlying289
 a175:=isAgg289
 z175:=sizeOf289
 v175:=zeroValue289
 t210:=underlying292
 a210:=isAgg292
 z210:=sizeOf292
 v210:=zeroValue292
 t212:=underlying285
 a212:=isAgg285
 z212:=sizeOf285
 v212:=zeroValue285
 t213:=underlying286
 a213:=isAgg286
 z213:=sizeOf286
 t232:=underlying315
 a232:=isAgg315
 z232:=sizeOf315
 v232:=zeroValue315
 t233:=underlying316
 a233:=isAgg316
 z233:=sizeOf316
 v233:=zeroValue316
 g15:=by kernel_rfl
 g16:=by kernel_rfl
 g17:=by kernel_rfl
 g18:=by kernel_rfl
 g19:=by kernel_rfl
 t80:=underlying46
 a80:=isAgg46
 z80:=sizeOf46
 v80:=zeroValue46
 i0:=by kernel_rfl
 i2:=by kernel_rfl
 i3:=by kernel_rfl
 i4:=by kernel_rfl
 i5:=by kernel_rfl
 i9:=by kernel_rfl
 i20:=by kernel_rfl
 i21:=by kernel_rfl
 i37:=by kernel_rfl
 i46:=by kernel_rfl
 i51:=by kernel_rfl
 i53:=by kernel_rfl
 i75:=by kernel_rfl
 i76:=by kernel_rfl
 i80:=by kernel_rfl
 i85:=by kernel_rfl
 i127:=by kernel_rfl
 i143:=by kernel_rfl
 i145:=by kernel_rfl
 i167:=by kernel_rfl
 i168:=by kernel_rfl
 i171:=by kernel_rfl
 i173:=by kernel_rfl
 i175:=by kernel_rfl
 i210:=by kernel_rfl
 i212:=by kernel_rfl
 i232:=by kernel_rfl
 i233:=by kernel_rfl
 m15:=by kernel_rfl
 m16:=by kernel_rfl
 m17:=by kernel_rfl
 m18:=by kernel_rfl
 m19:=by kernel_rfl
 c0:=by kernel_rfl
 c2:=by kernel_rfl
 c3:=by kernel_rfl
 c4:=by kernel_rfl
 c5:=by kernel_rfl
 c9:=by kernel_rfl
 c20:=by kernel_rfl
 c21:=by kernel_rfl
 c37:=by kernel_rfl
 c46:=by kernel_rfl
 c51:=by kernel_rfl
 c53:=by kernel_rfl
 c75:=by kernel_rfl
 c76:=by kernel_rfl
 c80:=by kernel_rfl
 c85:=by kernel_rfl
 c127:=by kernel_rfl
 c143:=by kernel_rfl
 c145:=by kernel_rfl
 c167:=by kernel_rfl
 c168:=by kernel_rfl
 c171:=by kernel_rfl
 c173:=by kernel_rfl
 c175:=by kernel_rfl
 c210:=by kernel_rfl
 c212:=by kernel_rfl
 c213:=by kernel_rfl
 c232:=by kernel_rfl
 c233:=by kernel_rfl }
def lays321_ren:Go.Shelf.Ren:=⟨fun | 321=>274 | n=>n,fun | 5=>5 | n=>n,fun | n=>n⟩
theorem lays321:Go.Proofs.Lays.n321 prog lays321_ren:={
 mixed:=by kernel_rfl
 f321:=func274.trans (congrArg some (by kernel_rfl))
 t5:=underlying5
 a5:=isAgg5
 z5:=sizeOf5
 v5:=zeroValue5 }
open Go.RowKit in
theorem Tryz.internal_strconv_lower (c:Int)(w:World) :
  Calls prog 274 #[.int .u8 c] w λe w'=>e=.returned (.int .u8 (bits .or .u8 c 32))∧w'=w:=Any.internal_strconv_lower lays321 c w
open Go.RowKit in
theorem Tryz.strconv_Atoi_ok (s:ByteArray)(a:s.size≤9223372036854775806)(v:Int)(h:Lib.atoiAll s.data.toList=.ok v)(w:World) :
  Calls prog 163 #[.string s] w λe w'=>e=.returned (.tuple #[.int .i64 v,.nilIface])∧(w'=w∨∃t,w'=Lib.bytesWorld w 5 t):=Any.strconv_Atoi_ok Tryz.laysC172 s a v h w
open Go.RowKit in
theorem Tryz.strconv_Atoi_syntax (s:ByteArray)(b:s.size≤281474976710656)(h:Lib.atoiAll s.data.toList=.«syntax»)(a:Value)(w:World)(d:w.cell? ⟨2,0,none⟩=some a)(c:a=.nilIface∨∃g f,a=.iface g f) :
  Calls prog 163 #[.string s] w λe w'=>∃N,e=.returned (.tuple #[.int .i64 (0),.iface 270 (.pointer (some ⟨N,0,none⟩))])∧w.heap.size≤N∧w'.heap[N]?=some (.cells #[.string ⟨#[65,116,111,105]⟩,.string s,a] 292 (0,0))∧Below w.heap.size w w':=Any.strconv_Atoi_syntax Tryz.laysC172 s b h a w d c
open Go.RowKit in
theorem Tryz.strconv_Atoi_range (s:ByteArray)(b:s.size≤281474976710656)(h:Lib.atoiAll s.data.toList=.range)(a:Value)(w:World)(d:w.cell? ⟨3,0,none⟩=some a)(c:a=.nilIface∨∃g f,a=.iface g f) :
  Calls prog 163 #[.string s] w λe w'=>∃N,e=.returned (.tuple #[.int .i64 (Lib.atoiSat s.data.toList),.iface 270 (.pointer (some ⟨N,0,none⟩))])∧w.heap.size≤N∧w'.heap[N]?=some (.cells #[.string ⟨#[65,116,111,105]⟩,.string s,a] 292 (0,0))∧Below w.heap.size w w':=Any.strconv_Atoi_range Tryz.laysC172 s b h a w d c
def lays143_ren:Go.Shelf.Ren:=⟨fun | 143=>105 | 219=>127 | 217=>155 | 225=>156 | 224=>157 | 267=>158 | 266=>190 | 314=>191 | n=>n,fun | 9=>9 | 3=>3 | 4=>4 | 5=>5 | 46=>101 | 146=>235 | 51=>234 | n=>n,fun | 1=>0 | n=>n⟩
theorem lays143:Go.Proofs.Lays.n143 prog lays143_ren:={
 mixed:=by kernel_rfl
 f143:=func105.trans (congrArg some (by kernel_rfl))
 f217:=func155.trans (congrArg some (by kernel_rfl))
 f219:=func127.trans (congrArg some (by kernel_rfl))
 f224:=func157.trans (congrArg some (by kernel_rfl))
 f225:=func156.trans (congrArg some (by kernel_rfl))
 f266:=func190.trans (congrArg some (by kernel_rfl))
 f267:=func158.trans (congrArg some (by kernel_rfl))
 f314:=func191.trans (congrArg some (by kernel_rfl))
 t3:=underlying3
 a3:=isAgg3
 z3:=sizeOf3
 v3:=zeroValue3
 t4:=underlying4
 a4:=isAgg4
 z4:=sizeOf4
 v4:=zeroValue4
 t5:=underlying5
 a5:=isAgg5
 z5:=sizeOf5
 v5:=zeroValue5
 t9:=underlying9
 a9:=isAgg9
 z9:=sizeOf9
 v9:=zeroValue9
 t46:=underlying101
 a46:=isAgg101
 z46:=sizeOf101
 v46:=zeroValue101
 t51:=underlying234
 a51:=isAgg234
 z51:=sizeOf234
 v51:=zeroValue234
 t146:=underlying235
 a146:=isAgg235
 z146:=sizeOf235
 v146:=zeroValue235
 g1:=by kernel_rfl }
open Go.RowKit Go.Lib in
theorem Tryz.strings_Index_one (s:ByteArray)(c:UInt8)(w:World) :
  Calls prog 105 #[.string s,.string ⟨#[c]⟩] w λe w'=>e=.returned (.int .i64 (Lib.indexByte s.data.toList c))∧w'=w:=Any.strings_Index_one lays143 s c w
open Go.RowKit Go.Lib in
theorem Tryz.strings_Index (s a:ByteArray)(m:Int)(w:World)(hs:s.size<4294967281)(hm:w.cell? ⟨0,0,none⟩=some (.int .i64 m)) :
  Calls prog 105 #[.string s,.string a] w λe w'=>e=.returned (.int .i64 (Lib.index s.data.toList a.data.toList))∧w'=w:=Any.strings_Index lays143 s a m w hs hm
def lays145_ren:Go.Shelf.Ren:=⟨fun | 145=>174 | 220=>216 | 219=>127 | 217=>155 | 225=>156 | 224=>157 | 267=>158 | 266=>190 | 314=>191 | n=>n,fun | 9=>9 | 4=>4 | 59=>215 | 3=>3 | 5=>5 | 46=>101 | 146=>235 | 51=>234 | n=>n,fun | 1=>0 | n=>n⟩
theorem lays145:Go.Proofs.Lays.n145 prog lays145_ren:={
 mixed:=by kernel_rfl
 f145:=func174.trans (congrArg some (by kernel_rfl))
 f217:=func155.trans (congrArg some (by kernel_rfl))
 f219:=func127.trans (congrArg some (by kernel_rfl))
 f220:=func216.trans (congrArg some (by kernel_rfl))
 f224:=func157.trans (congrArg some (by kernel_rfl))
 f225:=func156.trans (congrArg some (by kernel_rfl))
 f266:=func190.trans (congrArg some (by kernel_rfl))
 f267:=func158.trans (congrArg some (by kernel_rfl))
 f314:=func191.trans (congrArg some (by kernel_rfl))
 t3:=underlying3
 a3:=isAgg3
 z3:=sizeOf3
 v3:=zeroValue3
 t4:=underlying4
 a4:=isAgg4
 z4:=sizeOf4
 v4:=zeroValue4
 t5:=underlying5
 a5:=isAgg5
 z5:=sizeOf5
 v5:=zeroValue5
 t9:=underlying9
 a9:=isAgg9
 z9:=sizeOf9
 v9:=zeroValue9
 t46:=underlying101
 a46:=isAgg101
 z46:=sizeOf101
 v46:=zeroValue101
 t51:=underlying234
 a51:=isAgg234
 z51:=sizeOf234
 v51:=zeroValue234
 t59:=underlying215
 a59:=isAgg215
 z59:=sizeOf215
 v59:=zeroValue215
 t146:=underlying235
 a146:=isAgg235
 z146:=sizeOf235
 v146:=zeroValue235
 g1:=by kernel_rfl }
open Go.RowKit Go.Lib in
theorem Tryz.strings_Cut (s a:ByteArray)(m:Int)(w:World)(hs:s.size<4294967281)(hm:w.cell? ⟨0,0,none⟩=some (.int .i64 m)) :
  Calls prog 174 #[.string s,.string a] w λe w'=>e=.returned (.tuple #[.string ⟨(Lib.cut s.data.toList a.data.toList).1.toArray⟩,.string ⟨(Lib.cut s.data.toList a.data.toList).2.1.toArray⟩,.bool (Lib.cut s.data.toList a.data.toList).2.2])∧∃n,w'=w.drewN n:=Any.strings_Cut lays145 s a m w hs hm
def Tryz.laysM219_ren:Go.Shelf.Ren:=⟨fun | 219=>127 | 217=>155 | 225=>156 | 224=>157 | 267=>158 | 266=>190 | 314=>191 | n=>n,fun | 9=>9 | 3=>3 | 4=>4 | 5=>5 | 46=>101 | 146=>235 | 51=>234 | n=>n,fun | 1=>0 | n=>n⟩
theorem Tryz.laysM219:Go.Proofs.LaysM.n219 prog Tryz.laysM219_ren:={
 mixed:=by kernel_rfl
 f217:=func155.trans (congrArg some (by kernel_rfl))
 f219:=func127.trans (congrArg some (by kernel_rfl))
 f224:=func157.trans (congrArg some (by kernel_rfl))
 f225:=func156.trans (congrArg some (by kernel_rfl))
 f266:=func190.trans (congrArg some (by kernel_rfl))
 f267:=func158.trans (congrArg some (by kernel_rfl))
 f314:=func191.trans (congrArg some (by kernel_rfl))
 t3:=underlying3
 a3:=isAgg3
 z3:=sizeOf3
 v3:=zeroValue3
 t4:=underlying4
 a4:=isAgg4
 z4:=sizeOf4
 v4:=zeroValue4
 t5:=underlying5
 a5:=isAgg5
 z5:=sizeOf5
 v5:=zeroValue5
 t9:=underlying9
 a9:=isAgg9
 z9:=sizeOf9
 v9:=zeroValue9
 t46:=underlying101
 a46:=isAgg101
 z46:=sizeOf101
 v46:=zeroValue101
 t51:=underlying234
 a51:=isAgg234
 z51:=sizeOf234
 v51:=zeroValue234
 t146:=underlying235
 a146:=isAgg235
 z146:=sizeOf235
 v146:=zeroValue235
 g1:=by kernel_rfl
 i3:=by kernel_rfl
 i4:=by kernel_rfl
 i5:=by kernel_rfl
 i9:=by kernel_rfl
 i46:=by kernel_rfl
 i51:=by kernel_rfl
 i146:=by kernel_rfl
 m1:=by kernel_rfl
 s1_3:=λw h=>Go.Proofs.cell_of_shapedOpen_int (zero:=#[.int .i64 0]) (t:=3) h (of_decide_eq_true (by kernel_rfl)) (by kernel_rfl) rfl (by kernel_rfl) (by kernel_rfl) underlying3 }
def lays99_ren:Go.Shelf.Ren:=⟨fun | 99=>194 | 206=>229 | n=>n,fun | 9=>9 | 4=>4 | 3=>3 | n=>n,fun | n=>n⟩
theorem lays99:Go.Proofs.Lays.n99 prog lays99_ren:={
 mixed:=by kernel_rfl
 f99:=func194.trans (congrArg some (by kernel_rfl))
 f206:=func229.trans (congrArg some (by kernel_rfl))
 t3:=underlying3
 a3:=isAgg3
 z3:=sizeOf3
 v3:=zeroValue3
 t4:=underlying4
 a4:=isAgg4
 z4:=sizeOf4
 v4:=zeroValue4
 t9:=underlying9
 a9:=isAgg9
 z9:=sizeOf9
 v9:=zeroValue9 }
open Go.RowKit Go.Lib in
theorem Tryz.strings_HasPrefix (s p:ByteArray)(w:World) :
  Calls prog 194 #[.string s,.string p] w λe w'=>e=.returned (.bool (Lib.hasPrefix s.data.toList p.data.toList))∧w'=w:=Any.strings_HasPrefix lays99 s p w
def lays102_ren:Go.Shelf.Ren:=⟨fun | 102=>170 | 209=>210 | 207=>244 | n=>n,fun | 9=>9 | 4=>4 | 3=>3 | n=>n,fun | n=>n⟩
theorem lays102:Go.Proofs.Lays.n102 prog lays102_ren:={
 mixed:=by kernel_rfl
 f102:=func170.trans (congrArg some (by kernel_rfl))
 f207:=func244.trans (congrArg some (by kernel_rfl))
 f209:=func210.trans (congrArg some (by kernel_rfl))
 t3:=underlying3
 a3:=isAgg3
 z3:=sizeOf3
 v3:=zeroValue3
 t4:=underlying4
 a4:=isAgg4
 z4:=sizeOf4
 v4:=zeroValue4
 t9:=underlying9
 a9:=isAgg9
 z9:=sizeOf9
 v9:=zeroValue9 }
open Go.RowKit Go.Lib in
theorem Tryz.strings_TrimSuffix (s p:ByteArray)(w:World)(hs:s.size≤9223372036854775807) :
  Calls prog 170 #[.string s,.string p] w λe w'=>e=.returned (.string ⟨(Lib.trimSuffix s.data.toList p.data.toList).toArray⟩)∧w'=w:=Any.strings_TrimSuffix lays102 s p w hs
def lays146_ren:Go.Shelf.Ren:=⟨fun | 146=>128 | 221=>159 | 268=>192 | 138=>193 | 143=>105 | 195=>226 | 197=>227 | 218=>228 | 219=>127 | 260=>258 | 217=>155 | 225=>156 | 224=>157 | 267=>158 | 266=>190 | 314=>191 | n=>n,fun | 9=>9 | 31=>86 | 3=>3 | 4=>4 | 0=>0 | 105=>264 | 21=>21 | 5=>5 | 46=>101 | 119=>303 | 139=>306 | 138=>305 | 146=>235 | 51=>234 | n=>n,fun | 1=>0 | 3=>4 | 4=>5 | n=>n⟩
theorem lays146:Go.Proofs.Lays.n146 prog lays146_ren:={
 mixed:=by kernel_rfl
 f138:=func193.trans (congrArg some (by kernel_rfl))
 f143:=func105.trans (congrArg some (by kernel_rfl))
 f146:=func128.trans (congrArg some (by kernel_rfl))
 f195:=func226.trans (congrArg some (by kernel_rfl))
 f197:=func227.trans (congrArg some (by kernel_rfl))
 f217:=func155.trans (congrArg some (by kernel_rfl))
 f218:=func228.trans (congrArg some (by kernel_rfl))
 f219:=func127.trans (congrArg some (by kernel_rfl))
 f221:=func159.trans (congrArg some (by kernel_rfl))
 f224:=func157.trans (congrArg some (by kernel_rfl))
 f225:=func156.trans (congrArg some (by kernel_rfl))
 f260:=func258.trans (congrArg some (by kernel_rfl))
 f266:=func190.trans (congrArg some (by kernel_rfl))
 f267:=func158.trans (congrArg some (by kernel_rfl))
 f268:=func192.trans (congrArg some (by kernel_rfl))
 f314:=func191.trans (congrArg some (by kernel_rfl))
 t0:=underlying0
 a0:=isAgg0
 z0:=sizeOf0
 v0:=zeroValue0
 t3:=underlying3
 a3:=isAgg3
 z3:=sizeOf3
 v3:=zeroValue3
 t4:=underlying4
 a4:=isAgg4
 z4:=sizeOf4
 v4:=zeroValue4
 t5:=underlying5
 a5:=isAgg5
 z5:=sizeOf5
 v5:=zeroValue5
 t9:=underlying9
 a9:=isAgg9
 z9:=sizeOf9
 v9:=zeroValue9
 t21:=underlying21
 a21:=isAgg21
 z21:=sizeOf21
 v21:=zeroValue21
 t31:=underlying86
 a31:=isAgg86
 z31:=sizeOf86
 v31:=zeroValue86
 t46:=underlying101
 a46:=isAgg101
 z46:=sizeOf101
 v46:=zeroValue101
 t51:=underlying234
 a51:=isAgg234
 z51:=sizeOf234
 v51:=zeroValue234
 t105:=underlying264
 a105:=isAgg264
 z105:=sizeOf264
 v105:=zeroValue264
 t119:=underlying303
 a119:=isAgg303
 z119:=sizeOf303
 t138:=underlying305
 a138:=isAgg305
 z138:=sizeOf305
 v138:=zeroValue305
 t139:=underlying306
 a139:=isAgg306
 z139:=sizeOf306
 v139:=zeroValue306
 t146:=underlying235
 a146:=isAgg235
 z146:=sizeOf235
 v146:=zeroValue235
 g1:=by kernel_rfl
 g3:=by kernel_rfl
 g4:=by kernel_rfl }
open Go.RowKit Go.Lib in
theorem Tryz.strings_Split (s a:ByteArray)(m:Int)(w:World)(hs:s.size<4294967281)(hm:w.cell? ⟨0,0,none⟩=some (.int .i64 m))(b:1≤a.size) :
  Calls prog 128 #[.string s,.string a] w λe w' =>
   e=.returned (.slice (some ⟨w.heap.size,0,none⟩) (Lib.countB s a+1) (Lib.countB s a+1))∧w'=w.alloc (.cells ((Lib.splitB a 0 (Lib.countB s a) s).map Value.string).toArray 9):=Any.strings_Split lays146 (by kernel_rfl) s a m w hs hm b
def lays152_ren:Go.Shelf.Ren:=⟨fun | 152=>245 | 137=>218 | 119=>266 | 224=>157 | 225=>156 | 217=>155 | 266=>190 | n=>n,fun | 9=>9 | 21=>21 | 3=>3 | 4=>4 | 5=>5 | 0=>0 | 46=>101 | n=>n,fun | n=>n⟩
theorem lays152:Go.Proofs.Lays.n152 prog lays152_ren:={
 mixed:=by kernel_rfl
 f119:=func266.trans (congrArg some (by kernel_rfl))
 f137:=func218.trans (congrArg some (by kernel_rfl))
 f152:=func245.trans (congrArg some (by kernel_rfl))
 f217:=func155.trans (congrArg some (by kernel_rfl))
 f224:=func157.trans (congrArg some (by kernel_rfl))
 f225:=func156.trans (congrArg some (by kernel_rfl))
 f266:=func190.trans (congrArg some (by kernel_rfl))
 t0:=underlying0
 a0:=isAgg0
 z0:=sizeOf0
 v0:=zeroValue0
 t3:=underlying3
 a3:=isAgg3
 z3:=sizeOf3
 v3:=zeroValue3
 t4:=underlying4
 a4:=isAgg4
 z4:=sizeOf4
 v4:=zeroValue4
 t5:=underlying5
 a5:=isAgg5
 z5:=sizeOf5
 v5:=zeroValue5
 t9:=underlying9
 a9:=isAgg9
 z9:=sizeOf9
 v9:=zeroValue9
 t21:=underlying21
 a21:=isAgg21
 z21:=sizeOf21
 v21:=zeroValue21
 t46:=underlying101
 a46:=isAgg101
 z46:=sizeOf101
 v46:=zeroValue101 }
open Go.RowKit Go.Lib in
theorem Tryz.strings_IndexRune_ascii (s:ByteArray)(r:Int)(w:World)(h0:0≤r)(a:r<128) :
  Calls prog 245 #[.string s,.int .i32 r] w λe w'=>e=.returned (.int .i64 (Lib.indexByte s.data.toList r.toNat.toUInt8))∧w'=w:=Any.strings_IndexRune_ascii lays152 s r w h0 a
def lays105_ren:Go.Shelf.Ren:=⟨fun | 105=>248 | 212=>270 | 99=>194 | 165=>239 | 166=>115 | 170=>271 | 169=>118 | 263=>279 | 264=>280 | 206=>229 | 240=>143 | 241=>263 | 276=>178 | 277=>276 | n=>n,fun | 9=>9 | 3=>3 | 4=>4 | 20=>20 | 0=>0 | 46=>101 | 109=>300 | 5=>5 | 72=>147 | 76=>172 | 51=>234 | 146=>235 | 53=>94 | 148=>313 | 70=>145 | 37=>100 | 75=>171 | 127=>198 | 164=>225 | 80=>46 | n=>n,fun | n=>n⟩
theorem lays105:Go.Proofs.Lays.n105 prog lays105_ren:={
 mixed:=by kernel_rfl
 f99:=func194.trans (congrArg some (by kernel_rfl))
 f105:=func248.trans (congrArg some (by kernel_rfl))
 f165:=func239.trans (congrArg some (by kernel_rfl))
 f166:=func115.trans (congrArg some (by kernel_rfl))
 f169:=func118.trans (congrArg some (by kernel_rfl))
 f170:=func271.trans (congrArg some (by kernel_rfl))
 f206:=func229.trans (congrArg some (by kernel_rfl))
 f212:=func270.trans (congrArg some (by kernel_rfl))
 f240:=func143.trans (congrArg some (by kernel_rfl))
 f241:=func263.trans (congrArg some (by kernel_rfl))
 f263:=func279.trans (congrArg some (by kernel_rfl))
 f264:=func280.trans (congrArg some (by kernel_rfl))
 f276:=func178.trans (congrArg some (by kernel_rfl))
 f277:=func276.trans (congrArg some (by kernel_rfl))
 t0:=underlying0
 a0:=isAgg0
 z0:=sizeOf0
 v0:=zeroValue0
 t3:=underlying3
 a3:=isAgg3
 z3:=sizeOf3
 v3:=zeroValue3
 t4:=underlying4
 a4:=isAgg4
 z4:=sizeOf4
 v4:=zeroValue4
 t5:=underlying5
 a5:=isAgg5
 z5:=sizeOf5
 v5:=zeroValue5
 t9:=underlying9
 a9:=isAgg9
 z9:=sizeOf9
 v9:=zeroValue9
 t20:=underlying20
 a20:=isAgg20
 z20:=sizeOf20
 v20:=zeroValue20
 t37:=underlying100
 a37:=isAgg100
 z37:=sizeOf100
 v37:=zeroValue100
 t46:=underlying101
 a46:=isAgg101
 z46:=sizeOf101
 v46:=zeroValue101
 t51:=underlying234
 a51:=isAgg234
 z51:=sizeOf234
 v51:=zeroValue234
 t53:=underlying94
 a53:=isAgg94
 z53:=sizeOf94
 v53:=zeroValue94
 t70:=underlying145
 a70:=isAgg145
 z70:=sizeOf145
 v70:=zeroValue145
 t72:=underlying147
 a72:=isAgg147
 z72:=sizeOf147
 v72:=zeroValue147
 t75:=underlying171
 a75:=isAgg171
 z75:=sizeOf171
 v75:=zeroValue171
 t76:=underlying172
 a76:=isAgg172
 z76:=sizeOf172
 v76:=zeroValue172
 t109:=underlying300
 a109:=isAgg300
 z109:=sizeOf300
 v109:=zeroValue300
 t127:=underlying198
 a127:=isAgg198
 z127:=sizeOf198
 v127:=zeroValue198
 t146:=underlying235
 a146:=isAgg235
 z146:=sizeOf235
 v146:=zeroValue235
 t148:=underlying313
 a148:=isAgg313
 z148:=sizeOf313
 v148:=zeroValue313
 t164:=underlying225
 a164:=isAgg225
 z164:=sizeOf225
 v164:=zeroValue225 }
theorem Tryz.Builder_Extra_105:Builder.Extra prog lays105_ren:={
 sizeBuilder:=by kernel_rfl
 liesBuilder:=by kernel_rfl
 t5:=underlying5
 a5:=isAgg5
 z5:=sizeOf5
 v5:=zeroValue5
 infoByte:=by kernel_rfl
 cellsByte:=by kernel_rfl
 sizeByte:=by kernel_rfl
 neB5:=by decide }
open Go.RowKit Go.Lib in
theorem Tryz.strings_Repeat (s:ByteArray)(c:Nat)(w:World)(b:c≤9223372036854775807)(a:s.size*c≤140737488355328) :
  Calls prog 248 #[.string s,.int .i64 c] w λe w'=>e=.returned (.string ⟨(Lib.repeatL s.data.toList c).toArray⟩)∧Below w.heap.size w w':=Any.strings_Repeat lays105 Tryz.Builder_Extra_105 s c w b a
def lays230_ren:Go.Shelf.Ren:=⟨fun | 230=>205 | 197=>227 | 118=>238 | 165=>239 | 166=>115 | 168=>240 | 270=>241 | 167=>215 | 169=>118 | 260=>258 | 240=>143 | 241=>263 | 242=>264 | 276=>178 | 277=>276 | 278=>277 | n=>n,fun | 107=>248 | 9=>9 | 72=>147 | 0=>0 | 4=>4 | 3=>3 | 21=>21 | 105=>264 | 76=>172 | 5=>5 | 75=>171 | 70=>145 | 20=>20 | 37=>100 | 127=>198 | 119=>303 | 46=>101 | 139=>306 | 138=>305 | 164=>225 | 51=>234 | 80=>46 | n=>n,fun | 3=>4 | 4=>5 | n=>n⟩
theorem lays230:Go.Proofs.Lays.n230 prog lays230_ren:={
 mixed:=by kernel_rfl
 f118:=func238.trans (congrArg some (by kernel_rfl))
 f165:=func239.trans (congrArg some (by kernel_rfl))
 f166:=func115.trans (congrArg some (by kernel_rfl))
 f167:=func215.trans (congrArg some (by kernel_rfl))
 f168:=func240.trans (congrArg some (by kernel_rfl))
 f169:=func118.trans (congrArg some (by kernel_rfl))
 f197:=func227.trans (congrArg some (by kernel_rfl))
 f230:=func205.trans (congrArg some (by kernel_rfl))
 f240:=func143.trans (congrArg some (by kernel_rfl))
 f241:=func263.trans (congrArg some (by kernel_rfl))
 f242:=func264.trans (congrArg some (by kernel_rfl))
 f260:=func258.trans (congrArg some (by kernel_rfl))
 f270:=func241.trans (congrArg some (by kernel_rfl))
 f276:=func178.trans (congrArg some (by kernel_rfl))
 f277:=func276.trans (congrArg some (by kernel_rfl))
 f278:=func277.trans (congrArg some (by kernel_rfl))
 t0:=underlying0
 a0:=isAgg0
 z0:=sizeOf0
 v0:=zeroValue0
 t3:=underlying3
 a3:=isAgg3
 z3:=sizeOf3
 v3:=zeroValue3
 t4:=underlying4
 a4:=isAgg4
 z4:=sizeOf4
 v4:=zeroValue4
 t5:=underlying5
 a5:=isAgg5
 z5:=sizeOf5
 v5:=zeroValue5
 t9:=underlying9
 a9:=isAgg9
 z9:=sizeOf9
 v9:=zeroValue9
 t20:=underlying20
 a20:=isAgg20
 z20:=sizeOf20
 v20:=zeroValue20
 t21:=underlying21
 a21:=isAgg21
 z21:=sizeOf21
 v21:=zeroValue21
 t37:=underlying100
 a37:=isAgg100
 z37:=sizeOf100
 v37:=zeroValue100
 t46:=underlying101
 a46:=isAgg101
 z46:=sizeOf101
 v46:=zeroValue101
 t51:=underlying234
 a51:=isAgg234
 z51:=sizeOf234
 v51:=zeroValue234
 t70:=underlying145
 a70:=isAgg145
 z70:=sizeOf145
 v70:=zeroValue145
 t72:=underlying147
 a72:=isAgg147
 z72:=sizeOf147
 v72:=zeroValue147
 t75:=underlying171
 a75:=isAgg171
 z75:=sizeOf171
 v75:=zeroValue171
 t76:=underlying172
 a76:=isAgg172
 z76:=sizeOf172
 v76:=zeroValue172
 t105:=underlying264
 a105:=isAgg264
 z105:=sizeOf264
 v105:=zeroValue264
 t107:=underlying248
 a107:=isAgg248
 z107:=sizeOf248
 v107:=zeroValue248
 t119:=underlying303
 a119:=isAgg303
 z119:=sizeOf303
 t127:=underlying198
 a127:=isAgg198
 z127:=sizeOf198
 v127:=zeroValue198
 t138:=underlying305
 a138:=isAgg305
 z138:=sizeOf305
 v138:=zeroValue305
 t139:=underlying306
 a139:=isAgg306
 z139:=sizeOf306
 v139:=zeroValue306
 t164:=underlying225
 a164:=isAgg225
 z164:=sizeOf225
 v164:=zeroValue225
 g3:=by kernel_rfl
 g4:=by kernel_rfl }
theorem Tryz.Builder_Extra_230:Builder.Extra prog lays230_ren:={
 sizeBuilder:=by kernel_rfl
 liesBuilder:=by kernel_rfl
 t5:=underlying5
 a5:=isAgg5
 z5:=sizeOf5
 v5:=zeroValue5
 infoByte:=by kernel_rfl
 cellsByte:=by kernel_rfl
 sizeByte:=by kernel_rfl
 neB5:=by decide }
open Go.RowKit Go.Lib in
theorem Tryz.strings_Map_grows (g:Nat)(b:Array Value)(c:∀args w,(callFunc g args).run prog w=.ok (.enter g args) w)(f:Int→Int)(s:ByteArray)(w:World)(hs:s.size<35184372088832)(hf:MapGrows prog g b f w)(a:∀x:Nat,x≤1114111→-2147483648≤f x∧f x≤2147483647)(d:Lib.Utf8Tabs 4 5 w) :
  Calls prog 205 #[.func (.func g) #[] b,.string s] w λe w'=>e=.returned (.string ⟨(Lib.mapD f s.data.toList).toArray⟩)∧Below w.heap.size w w':=Any.strings_Map_grows lays230 Tryz.Builder_Extra_230 g b c f s w hs hf a d
