import Derived.Shelf.LaysM
import Derived.Shelf.Small.Strs
import Derived.Shelf.Strconv.Atoi
import Derived.Shelf.Strconv.Itoa3
import Derived.Shelf.Strings.BuilderX
import Derived.Shelf.Strings.Count
import Derived.Shelf.Strings.Cut
import Derived.Shelf.Strings.OnBuilder
import Derived.Shelf.Strings.Prefix
import Derived.Shelf.Strings.Repeat
import Derived.Shelf.Strings.Search2
import Derived.Shelf.Strings.Search3
import Derived.Ground.MpProg
import Derived.Test.YtfnjahjbpaoepaaGreatDoorProg
namespace Go.Proofs
open Go.Shelf
def Tryz.lays170_ren:Go.Shelf.Ren:=⟨fun | 170=>57 | n=>n,fun | 70=>87 | 3=>3 | 0=>0 | 72=>90 | 37=>88 | 5=>5 | n=>n,fun | n=>n⟩
def Tryz.lays169_ren:Go.Shelf.Ren:=⟨fun | 169=>58 | n=>n,fun | 70=>87 | 9=>9 | 0=>0 | 72=>90 | 37=>88 | 127=>194 | 3=>3 | 5=>5 | n=>n,fun | n=>n⟩
def Tryz.lays241_ren:Go.Shelf.Ren:=⟨fun | 241=>270 | 277=>325 | n=>n,fun | 70=>87 | 3=>3 | 0=>0 | 72=>90 | 37=>88 | 5=>5 | n=>n,fun | n=>n⟩
def Tryz.lays165_ren:Go.Shelf.Ren:=⟨fun | 165=>200 | 240=>152 | 241=>270 | 276=>233 | 277=>325 | n=>n,fun | 70=>87 | 3=>3 | 0=>0 | 4=>4 | 9=>9 | 20=>20 | 72=>90 | 37=>88 | 164=>248 | 5=>5 | n=>n,fun | n=>n⟩
def Tryz.lays159_ren:Go.Shelf.Ren:=⟨fun | 159=>209 | 165=>200 | 166=>55 | 167=>276 | 169=>58 | 230=>277 | 204=>278 | 240=>152 | 241=>270 | 197=>320 | 118=>330 | 168=>331 | 270=>332 | 262=>333 | 276=>233 | 277=>325 | 260=>354 | 242=>358 | 313=>359 | 278=>367 | 274=>368 | 275=>369 | n=>n,fun | 9=>9 | 4=>4 | 3=>3 | 5=>5 | 72=>90 | 0=>0 | 76=>94 | 75=>93 | 107=>293 | 70=>87 | 20=>20 | 37=>88 | 127=>194 | 21=>21 | 105=>330 | 164=>248 | 162=>357 | 203=>355 | 119=>326 | 46=>213 | 139=>329 | 138=>328 | 51=>283 | 160=>366 | 208=>374 | 206=>372 | 80=>33 | n=>n,fun | 13=>6 | 3=>1 | 4=>2 | n=>n⟩
theorem Tryz.lays159:Go.Proofs.Lays.n159 Tryz.prog Tryz.lays159_ren:={
 mixed:=by kernel_rfl
 f118:=Tryz.func330.trans (congrArg some (by kernel_rfl))
 f159:=Tryz.func209.trans (congrArg some (by kernel_rfl))
 f165:=Tryz.func200.trans (congrArg some (by kernel_rfl))
 f166:=Tryz.func55.trans (congrArg some (by kernel_rfl))
 f167:=Tryz.func276.trans (congrArg some (by kernel_rfl))
 f168:=Tryz.func331.trans (congrArg some (by kernel_rfl))
 f169:=Tryz.func58.trans (congrArg some (by kernel_rfl))
 f197:=Tryz.func320.trans (congrArg some (by kernel_rfl))
 f204:=Tryz.func278.trans (congrArg some (by kernel_rfl))
 f230:=Tryz.func277.trans (congrArg some (by kernel_rfl))
 f240:=Tryz.func152.trans (congrArg some (by kernel_rfl))
 f241:=Tryz.func270.trans (congrArg some (by kernel_rfl))
 f242:=Tryz.func358.trans (congrArg some (by kernel_rfl))
 f260:=Tryz.func354.trans (congrArg some (by kernel_rfl))
 f262:=Tryz.func333.trans (congrArg some (by kernel_rfl))
 f270:=Tryz.func332.trans (congrArg some (by kernel_rfl))
 f274:=Tryz.func368.trans (congrArg some (by kernel_rfl))
 f275:=Tryz.func369.trans (congrArg some (by kernel_rfl))
 f276:=Tryz.func233.trans (congrArg some (by kernel_rfl))
 f277:=Tryz.func325.trans (congrArg some (by kernel_rfl))
 f278:=Tryz.func367.trans (congrArg some (by kernel_rfl))
 f313:=Tryz.func359.trans (congrArg some (by kernel_rfl))
 t0:=Tryz.underlying0
 a0:=Tryz.isAgg0
 z0:=Tryz.sizeOf0
 v0:=Tryz.zeroValue0
 t3:=Tryz.underlying3
 a3:=Tryz.isAgg3
 z3:=Tryz.sizeOf3
 v3:=Tryz.zeroValue3
 t4:=Tryz.underlying4
 a4:=Tryz.isAgg4
 z4:=Tryz.sizeOf4
 v4:=Tryz.zeroValue4
 t5:=Tryz.underlying5
 a5:=Tryz.isAgg5
 z5:=Tryz.sizeOf5
 v5:=Tryz.zeroValue5
 t9:=Tryz.underlying9
 a9:=Tryz.isAgg9
 z9:=Tryz.sizeOf9
 v9:=Tryz.zeroValue9
 t20:=Tryz.underlying20
 a20:=Tryz.isAgg20
 z20:=Tryz.sizeOf20
 v20:=Tryz.zeroValue20
 t21:=Tryz.underlying21
 a21:=Tryz.isAgg21
 z21:=Tryz.sizeOf21
 v21:=Tryz.zeroValue21
 t37:=Tryz.underlying88
 a37:=Tryz.isAgg88
 z37:=Tryz.sizeOf88
 v37:=Tryz.zeroValue88
 t46:=Tryz.underlying213
 a46:=Tryz.isAgg213
 z46:=Tryz.sizeOf213
 v46:=Tryz.zeroValue213
 t51:=Tryz.underlying283
 a51:=Tryz.isAgg283
 z51:=Tryz.sizeOf283
 v51:=Tryz.zeroValue283
 t70:=Tryz.underlying87
 a70:=Tryz.isAgg87
 z70:=Tryz.sizeOf87
 v70:=Tryz.zeroValue87
 t72:=Tryz.underlying90
 a72:=Tryz.isAgg90
 z72:=Tryz.sizeOf90
 v72:=Tryz.zeroValue90
 t75:=Tryz.underlying93
 a75:=Tryz.isAgg93
 z75:=Tryz.sizeOf93
 v75:=Tryz.zeroValue93
 t76:=Tryz.underlying94
 a76:=Tryz.isAgg94
 z76:=Tryz.sizeOf94
 v76:=Tryz.zeroValue94
 t105:=Tryz.underlying330
 a105:=Tryz.isAgg330
 z105:=Tryz.sizeOf330
 v105:=Tryz.zeroValue330
 t107:=Tryz.underlying293
 a107:=Tryz.isAgg293
 z107:=Tryz.sizeOf293
 v107:=Tryz.zeroValue293
 t119:=Tryz.underlying326
 a119:=Tryz.isAgg326
 z119:=Tryz.sizeOf326
 t127:=Tryz.underlying194
 a127:=Tryz.isAgg194
 z127:=Tryz.sizeOf194
 v127:=Tryz.zeroValue194
 t138:=Tryz.underlying328
 a138:=Tryz.isAgg328
 z138:=Tryz.sizeOf328
 v138:=Tryz.zeroValue328
 t139:=Tryz.underlying329
 a139:=Tryz.isAgg329
 z139:=Tryz.sizeOf329
 v139:=Tryz.zeroValue329
 t160:=Tryz.underlying366
 a160:=Tryz.isAgg366
 z160:=Tryz.sizeOf366
 v160:=Tryz.zeroValue366
 t162:=Tryz.underlying357
 a162:=Tryz.isAgg357
 z162:=Tryz.sizeOf357
 v162:=Tryz.zeroValue357
 t164:=Tryz.underlying248
 a164:=Tryz.isAgg248
 z164:=Tryz.sizeOf248
 v164:=Tryz.zeroValue248
 t203:=Tryz.underlying355
 a203:=Tryz.isAgg355
 z203:=Tryz.sizeOf355
 v203:=Tryz.zeroValue355
 t206:=Tryz.underlying372
 a206:=Tryz.isAgg372
 z206:=Tryz.sizeOf372
 v206:=Tryz.zeroValue372
 t208:=Tryz.underlying374
 a208:=Tryz.isAgg374
 z208:=Tryz.sizeOf374
 v208:=Tryz.zeroValue374
 g3:=by kernel_rfl
 g4:=by kernel_rfl
 g13:=by kernel_rfl }
theorem Tryz.Builder_Extra_159:Builder.Extra Tryz.prog Tryz.lays159_ren:={
 sizeBuilder:=by kernel_rfl
 liesBuilder:=by kernel_rfl
 t5:=Tryz.underlying5
 a5:=Tryz.isAgg5
 z5:=Tryz.sizeOf5
 v5:=Tryz.zeroValue5
 infoByte:=by kernel_rfl
 cellsByte:=by kernel_rfl
 sizeByte:=by kernel_rfl
 neB5:=by decide }
open Go.RowKit in
theorem Tryz.strings_ToLower_ascii(s:ByteArray)(w:World)(hs:s.size≤140737488355328)(hascii:∀ (j:Nat) (b:UInt8),s.data.toList[j]?=some b→b.toNat<128) :
  Calls Tryz.prog 209 #[.string s] w fun e w'=>e=.returned (.string ⟨(Lib.toLowerA s.data.toList).toArray⟩)∧Below w.heap.size w w':=Any.strings_ToLower_ascii Tryz.lays159 Tryz.Builder_Extra_159 s w hs hascii
def Tryz.lays156_ren:Go.Shelf.Ren:=⟨fun | 156=>111 | 165=>200 | 166=>55 | 169=>58 | 240=>152 | 241=>270 | 276=>233 | 277=>325 | n=>n,fun | 31=>85 | 9=>9 | 3=>3 | 4=>4 | 0=>0 | 20=>20 | 72=>90 | 76=>94 | 70=>87 | 37=>88 | 75=>93 | 127=>194 | 164=>248 | 5=>5 | 80=>33 | n=>n,fun | n=>n⟩
theorem Tryz.lays156:Go.Proofs.Lays.n156 Tryz.prog Tryz.lays156_ren:={
 mixed:=by kernel_rfl
 f156:=Tryz.func111.trans (congrArg some (by kernel_rfl))
 f165:=Tryz.func200.trans (congrArg some (by kernel_rfl))
 f166:=Tryz.func55.trans (congrArg some (by kernel_rfl))
 f169:=Tryz.func58.trans (congrArg some (by kernel_rfl))
 f240:=Tryz.func152.trans (congrArg some (by kernel_rfl))
 f241:=Tryz.func270.trans (congrArg some (by kernel_rfl))
 f276:=Tryz.func233.trans (congrArg some (by kernel_rfl))
 f277:=Tryz.func325.trans (congrArg some (by kernel_rfl))
 t0:=Tryz.underlying0
 a0:=Tryz.isAgg0
 z0:=Tryz.sizeOf0
 v0:=Tryz.zeroValue0
 t3:=Tryz.underlying3
 a3:=Tryz.isAgg3
 z3:=Tryz.sizeOf3
 v3:=Tryz.zeroValue3
 t4:=Tryz.underlying4
 a4:=Tryz.isAgg4
 z4:=Tryz.sizeOf4
 v4:=Tryz.zeroValue4
 t9:=Tryz.underlying9
 a9:=Tryz.isAgg9
 z9:=Tryz.sizeOf9
 v9:=Tryz.zeroValue9
 t20:=Tryz.underlying20
 a20:=Tryz.isAgg20
 z20:=Tryz.sizeOf20
 v20:=Tryz.zeroValue20
 t31:=Tryz.underlying85
 a31:=Tryz.isAgg85
 z31:=Tryz.sizeOf85
 v31:=Tryz.zeroValue85
 t37:=Tryz.underlying88
 a37:=Tryz.isAgg88
 z37:=Tryz.sizeOf88
 v37:=Tryz.zeroValue88
 t70:=Tryz.underlying87
 a70:=Tryz.isAgg87
 z70:=Tryz.sizeOf87
 v70:=Tryz.zeroValue87
 t72:=Tryz.underlying90
 a72:=Tryz.isAgg90
 z72:=Tryz.sizeOf90
 v72:=Tryz.zeroValue90
 t75:=Tryz.underlying93
 a75:=Tryz.isAgg93
 z75:=Tryz.sizeOf93
 v75:=Tryz.zeroValue93
 t76:=Tryz.underlying94
 a76:=Tryz.isAgg94
 z76:=Tryz.sizeOf94
 v76:=Tryz.zeroValue94
 t127:=Tryz.underlying194
 a127:=Tryz.isAgg194
 z127:=Tryz.sizeOf194
 v127:=Tryz.zeroValue194
 t164:=Tryz.underlying248
 a164:=Tryz.isAgg248
 z164:=Tryz.sizeOf248
 v164:=Tryz.zeroValue248 }
theorem Tryz.Builder_Extra_156:Builder.Extra Tryz.prog Tryz.lays156_ren:={
 sizeBuilder:=by kernel_rfl
 liesBuilder:=by kernel_rfl
 t5:=Tryz.underlying5
 a5:=Tryz.isAgg5
 z5:=Tryz.sizeOf5
 v5:=Tryz.zeroValue5
 infoByte:=by kernel_rfl
 cellsByte:=by kernel_rfl
 sizeByte:=by kernel_rfl
 neB5:=by decide }
open Go.RowKit in
theorem Tryz.strings_Join_none(a:Option Addr)(c:Nat)(sep:ByteArray)(w:World) :
  Calls Tryz.prog 111 #[.slice a 0 c,.string sep] w fun e w'=>e=.returned (.string ⟨#[]⟩)∧w'=w:=Any.strings_Join_none Tryz.lays156 Tryz.Builder_Extra_156 a c sep w
open Go.RowKit in
theorem Tryz.strings_Join(bk o c:Nat)(xs:List ByteArray)(sep:ByteArray)(w:World)(hcells:∀ (j:Nat) x,xs[j]?=some x→w.cell? ⟨bk,o+j,none⟩=some (.string x))(hbk:bk<w.heap.size)(hN:xs.length≤140737488355328)(hcap:xs.length≤c)(hlen:(Lib.join (xs.map (·.data.toList)) sep.data.toList).length≤140737488355328) :
  Calls Tryz.prog 111 #[.slice (some ⟨bk,o,none⟩) xs.length c,.string sep] w fun e w'=>e=.returned (.string ⟨(Lib.join (xs.map (·.data.toList)) sep.data.toList).toArray⟩)∧Below w.heap.size w w':=Any.strings_Join Tryz.lays156 Tryz.Builder_Extra_156 bk o c xs sep w hcells hbk hN hcap hlen
def Tryz.lays231_ren:Go.Shelf.Ren:=⟨fun | 231=>257 | n=>n,fun | 9=>9 | 5=>5 | 3=>3 | 4=>4 | n=>n,fun | n=>n⟩
def Tryz.lays232_ren:Go.Shelf.Ren:=⟨fun | 232=>258 | n=>n,fun | 9=>9 | 5=>5 | 3=>3 | 4=>4 | n=>n,fun | n=>n⟩
def Tryz.lays160_ren:Go.Shelf.Ren:=⟨fun | 160=>193 | 232=>258 | 231=>257 | 227=>259 | 234=>261 | 233=>260 | 236=>263 | 235=>262 | 228=>319 | 271=>322 | 151=>321 | 197=>320 | 120=>356 | 152=>355 | 260=>354 | 137=>210 | 119=>366 | 224=>347 | 225=>346 | 217=>279 | 266=>334 | n=>n,fun | 9=>9 | 4=>4 | 3=>3 | 5=>5 | 117=>275 | 116=>274 | 0=>0 | 124=>278 | 21=>21 | 105=>330 | 46=>213 | 119=>326 | 139=>329 | 138=>328 | n=>n,fun | 3=>1 | 4=>2 | n=>n⟩
theorem Tryz.lays160:Go.Proofs.Lays.n160 Tryz.prog Tryz.lays160_ren:={
 mixed:=by kernel_rfl
 f119:=Tryz.func366.trans (congrArg some (by kernel_rfl))
 f120:=Tryz.func356.trans (congrArg some (by kernel_rfl))
 f137:=Tryz.func210.trans (congrArg some (by kernel_rfl))
 f151:=Tryz.func321.trans (congrArg some (by kernel_rfl))
 f152:=Tryz.func355.trans (congrArg some (by kernel_rfl))
 f160:=Tryz.func193.trans (congrArg some (by kernel_rfl))
 f197:=Tryz.func320.trans (congrArg some (by kernel_rfl))
 f217:=Tryz.func279.trans (congrArg some (by kernel_rfl))
 f224:=Tryz.func347.trans (congrArg some (by kernel_rfl))
 f225:=Tryz.func346.trans (congrArg some (by kernel_rfl))
 f227:=Tryz.func259.trans (congrArg some (by kernel_rfl))
 f228:=Tryz.func319.trans (congrArg some (by kernel_rfl))
 f231:=Tryz.func257.trans (congrArg some (by kernel_rfl))
 f232:=Tryz.func258.trans (congrArg some (by kernel_rfl))
 f233:=Tryz.func260.trans (congrArg some (by kernel_rfl))
 f234:=Tryz.func261.trans (congrArg some (by kernel_rfl))
 f235:=Tryz.func262.trans (congrArg some (by kernel_rfl))
 f236:=Tryz.func263.trans (congrArg some (by kernel_rfl))
 f260:=Tryz.func354.trans (congrArg some (by kernel_rfl))
 f266:=Tryz.func334.trans (congrArg some (by kernel_rfl))
 f271:=Tryz.func322.trans (congrArg some (by kernel_rfl))
 t0:=Tryz.underlying0
 a0:=Tryz.isAgg0
 z0:=Tryz.sizeOf0
 v0:=Tryz.zeroValue0
 t3:=Tryz.underlying3
 a3:=Tryz.isAgg3
 z3:=Tryz.sizeOf3
 v3:=Tryz.zeroValue3
 t4:=Tryz.underlying4
 a4:=Tryz.isAgg4
 z4:=Tryz.sizeOf4
 v4:=Tryz.zeroValue4
 t5:=Tryz.underlying5
 a5:=Tryz.isAgg5
 z5:=Tryz.sizeOf5
 v5:=Tryz.zeroValue5
 t9:=Tryz.underlying9
 a9:=Tryz.isAgg9
 z9:=Tryz.sizeOf9
 v9:=Tryz.zeroValue9
 t21:=Tryz.underlying21
 a21:=Tryz.isAgg21
 z21:=Tryz.sizeOf21
 v21:=Tryz.zeroValue21
 t46:=Tryz.underlying213
 a46:=Tryz.isAgg213
 z46:=Tryz.sizeOf213
 v46:=Tryz.zeroValue213
 t105:=Tryz.underlying330
 a105:=Tryz.isAgg330
 z105:=Tryz.sizeOf330
 v105:=Tryz.zeroValue330
 t116:=Tryz.underlying274
 a116:=Tryz.isAgg274
 z116:=Tryz.sizeOf274
 t117:=Tryz.underlying275
 a117:=Tryz.isAgg275
 z117:=Tryz.sizeOf275
 v117:=Tryz.zeroValue275
 t119:=Tryz.underlying326
 a119:=Tryz.isAgg326
 z119:=Tryz.sizeOf326
 t124:=Tryz.underlying278
 a124:=Tryz.isAgg278
 z124:=Tryz.sizeOf278
 v124:=Tryz.zeroValue278
 t138:=Tryz.underlying328
 a138:=Tryz.isAgg328
 z138:=Tryz.sizeOf328
 v138:=Tryz.zeroValue328
 t139:=Tryz.underlying329
 a139:=Tryz.isAgg329
 z139:=Tryz.sizeOf329
 v139:=Tryz.zeroValue329
 g3:=by kernel_rfl
 g4:=by kernel_rfl }
def Tryz.lays118_ren:Go.Shelf.Ren:=⟨fun | 118=>330 | n=>n,fun | 21=>21 | 3=>3 | 4=>4 | n=>n,fun | n=>n⟩
def Tryz.lays119_ren:Go.Shelf.Ren:=⟨fun | 119=>366 | n=>n,fun | 21=>21 | 4=>4 | n=>n,fun | n=>n⟩
def Tryz.lays120_ren:Go.Shelf.Ren:=⟨fun | 120=>356 | n=>n,fun | 5=>5 | 4=>4 | n=>n,fun | n=>n⟩
def Tryz.lays128_ren:Go.Shelf.Ren:=⟨fun | 128=>293 | n=>n,fun | 51=>283 | 3=>3 | 4=>4 | 46=>213 | 5=>5 | 9=>9 | n=>n,fun | n=>n⟩
def Tryz.lays125_ren:Go.Shelf.Ren:=⟨fun | 125=>225 | 128=>293 | 129=>294 | n=>n,fun | 46=>213 | 3=>3 | 51=>283 | 53=>37 | 4=>4 | 5=>5 | 9=>9 | n=>n,fun | n=>n⟩
def Tryz.lays213_ren:Go.Shelf.Ren:=⟨fun | 213=>161 | 265=>236 | n=>n,fun | 9=>9 | 3=>3 | n=>n,fun | n=>n⟩
def Tryz.lays106_ren:Go.Shelf.Ren:=⟨fun | 106=>64 | 213=>161 | 265=>236 | n=>n,fun | 9=>9 | 3=>3 | n=>n,fun | n=>n⟩
theorem Tryz.lays106:Go.Proofs.Lays.n106 Tryz.prog Tryz.lays106_ren:={
 mixed:=by kernel_rfl
 f106:=Tryz.func64.trans (congrArg some (by kernel_rfl))
 f213:=Tryz.func161.trans (congrArg some (by kernel_rfl))
 f265:=Tryz.func236.trans (congrArg some (by kernel_rfl))
 t3:=Tryz.underlying3
 a3:=Tryz.isAgg3
 z3:=Tryz.sizeOf3
 v3:=Tryz.zeroValue3
 t9:=Tryz.underlying9
 a9:=Tryz.isAgg9
 z9:=Tryz.sizeOf9
 v9:=Tryz.zeroValue9 }
open Go.RowKit in
theorem Tryz.strings_Compare(a b:ByteArray)(w:World) :
  Calls Tryz.prog 64 #[.string a,.string b] w fun e w'=>e=.returned (.int .i64 (Lib.compareBytes a.data.toList b.data.toList))∧w'=w:=Any.strings_Compare Tryz.lays106 a b w
def Tryz.lays137_ren:Go.Shelf.Ren:=⟨fun | 137=>210 | 217=>279 | 266=>334 | n=>n,fun | 9=>9 | 5=>5 | 3=>3 | n=>n,fun | n=>n⟩
theorem Tryz.lays137:Go.Proofs.Lays.n137 Tryz.prog Tryz.lays137_ren:={
 mixed:=by kernel_rfl
 f137:=Tryz.func210.trans (congrArg some (by kernel_rfl))
 f217:=Tryz.func279.trans (congrArg some (by kernel_rfl))
 f266:=Tryz.func334.trans (congrArg some (by kernel_rfl))
 t3:=Tryz.underlying3
 a3:=Tryz.isAgg3
 z3:=Tryz.sizeOf3
 v3:=Tryz.zeroValue3
 t5:=Tryz.underlying5
 a5:=Tryz.isAgg5
 z5:=Tryz.sizeOf5
 v5:=Tryz.zeroValue5
 t9:=Tryz.underlying9
 a9:=Tryz.isAgg9
 z9:=Tryz.sizeOf9
 v9:=Tryz.zeroValue9 }
open Go.RowKit in
theorem Tryz.strings_IndexByte(s:ByteArray)(c:Int)(w:World) :
  Calls Tryz.prog 210 #[.string s,.int .u8 c] w fun e w'=>e=.returned (.int .i64 (Lib.indexByte s.data.toList c.toNat.toUInt8))∧w'=w:=Any.strings_IndexByte Tryz.lays137 s c w
def Tryz.lays210_ren:Go.Shelf.Ren:=⟨fun | 210=>323 | 206=>269 | n=>n,fun | 9=>9 | 4=>4 | 3=>3 | n=>n,fun | n=>n⟩
def Tryz.lays103_ren:Go.Shelf.Ren:=⟨fun | 103=>264 | 210=>323 | 206=>269 | n=>n,fun | 9=>9 | 4=>4 | 24=>279 | 3=>3 | n=>n,fun | n=>n⟩
def Tryz.lays215_ren:Go.Shelf.Ren:=⟨fun | 215=>226 | n=>n,fun | 3=>3 | 4=>4 | n=>n,fun | n=>n⟩
def Tryz.lays122_ren:Go.Shelf.Ren:=⟨fun | 122=>139 | 215=>226 | n=>n,fun | 3=>3 | 4=>4 | n=>n,fun | n=>n⟩
def Tryz.lays244_ren:Go.Shelf.Ren:=⟨fun | 244=>241 | 247=>308 | 287=>350 | 321=>364 | 322=>365 | n=>n,fun | 9=>9 | 3=>3 | 75=>93 | 4=>4 | 5=>5 | 167=>317 | 37=>88 | 0=>0 | 85=>318 | 2=>2 | 53=>37 | 175=>348 | 46=>213 | 21=>21 | 80=>33 | n=>n,fun | n=>n⟩
def Tryz.lays172_ren:Go.Shelf.Ren:=⟨fun | 172=>168 | 244=>241 | 245=>242 | 247=>308 | 279=>309 | 280=>310 | 281=>311 | 282=>312 | 287=>350 | 316=>351 | 171=>56 | 205=>352 | 321=>364 | 322=>365 | 243=>153 | 246=>234 | 283=>298 | 284=>299 | 285=>300 | 286=>301 | 129=>294 | 317=>340 | 318=>341 | 319=>342 | 320=>343 | 337=>361 | 338=>362 | n=>n,fun | 9=>9 | 3=>3 | 75=>93 | 76=>94 | 4=>4 | 5=>5 | 167=>317 | 37=>88 | 0=>0 | 85=>318 | 2=>2 | 168=>320 | 53=>37 | 175=>348 | 46=>213 | 210=>351 | 127=>194 | 145=>364 | 143=>362 | 21=>21 | 171=>308 | 173=>310 | 212=>345 | 51=>283 | 20=>20 | 213=>346 | 232=>369 | 233=>370 | 80=>33 | n=>n,fun | 15=>4 | 16=>5 | 17=>3 | 18=>7 | 19=>8 | n=>n⟩
theorem Tryz.lays172:Go.Proofs.Lays.n172 Tryz.prog Tryz.lays172_ren:={
 mixed:=by kernel_rfl
 f129:=Tryz.func294.trans (congrArg some (by kernel_rfl))
 f171:=Tryz.func56.trans (congrArg some (by kernel_rfl))
 f172:=Tryz.func168.trans (congrArg some (by kernel_rfl))
 f205:=Tryz.func352.trans (congrArg some (by kernel_rfl))
 f243:=Tryz.func153.trans (congrArg some (by kernel_rfl))
 f244:=Tryz.func241.trans (congrArg some (by kernel_rfl))
 f245:=Tryz.func242.trans (congrArg some (by kernel_rfl))
 f246:=Tryz.func234.trans (congrArg some (by kernel_rfl))
 f247:=Tryz.func308.trans (congrArg some (by kernel_rfl))
 f279:=Tryz.func309.trans (congrArg some (by kernel_rfl))
 f280:=Tryz.func310.trans (congrArg some (by kernel_rfl))
 f281:=Tryz.func311.trans (congrArg some (by kernel_rfl))
 f282:=Tryz.func312.trans (congrArg some (by kernel_rfl))
 f283:=Tryz.func298.trans (congrArg some (by kernel_rfl))
 f284:=Tryz.func299.trans (congrArg some (by kernel_rfl))
 f285:=Tryz.func300.trans (congrArg some (by kernel_rfl))
 f286:=Tryz.func301.trans (congrArg some (by kernel_rfl))
 f287:=Tryz.func350.trans (congrArg some (by kernel_rfl))
 f316:=Tryz.func351.trans (congrArg some (by kernel_rfl))
 f317:=Tryz.func340.trans (congrArg some (by kernel_rfl))
 f318:=Tryz.func341.trans (congrArg some (by kernel_rfl))
 f319:=Tryz.func342.trans (congrArg some (by kernel_rfl))
 f320:=Tryz.func343.trans (congrArg some (by kernel_rfl))
 f321:=Tryz.func364.trans (congrArg some (by kernel_rfl))
 f322:=Tryz.func365.trans (congrArg some (by kernel_rfl))
 f337:=Tryz.func361.trans (congrArg some (by kernel_rfl))
 f338:=Tryz.func362.trans (congrArg some (by kernel_rfl))
 t0:=Tryz.underlying0
 a0:=Tryz.isAgg0
 z0:=Tryz.sizeOf0
 v0:=Tryz.zeroValue0
 t2:=Tryz.underlying2
 a2:=Tryz.isAgg2
 z2:=Tryz.sizeOf2
 v2:=Tryz.zeroValue2
 t3:=Tryz.underlying3
 a3:=Tryz.isAgg3
 z3:=Tryz.sizeOf3
 v3:=Tryz.zeroValue3
 t4:=Tryz.underlying4
 a4:=Tryz.isAgg4
 z4:=Tryz.sizeOf4
 v4:=Tryz.zeroValue4
 t5:=Tryz.underlying5
 a5:=Tryz.isAgg5
 z5:=Tryz.sizeOf5
 v5:=Tryz.zeroValue5
 t9:=Tryz.underlying9
 a9:=Tryz.isAgg9
 z9:=Tryz.sizeOf9
 v9:=Tryz.zeroValue9
 t20:=Tryz.underlying20
 a20:=Tryz.isAgg20
 z20:=Tryz.sizeOf20
 v20:=Tryz.zeroValue20
 t21:=Tryz.underlying21
 a21:=Tryz.isAgg21
 z21:=Tryz.sizeOf21
 v21:=Tryz.zeroValue21
 t37:=Tryz.underlying88
 a37:=Tryz.isAgg88
 z37:=Tryz.sizeOf88
 v37:=Tryz.zeroValue88
 t46:=Tryz.underlying213
 a46:=Tryz.isAgg213
 z46:=Tryz.sizeOf213
 v46:=Tryz.zeroValue213
 t51:=Tryz.underlying283
 a51:=Tryz.isAgg283
 z51:=Tryz.sizeOf283
 v51:=Tryz.zeroValue283
 t53:=Tryz.underlying37
 a53:=Tryz.isAgg37
 z53:=Tryz.sizeOf37
 v53:=Tryz.zeroValue37
 t75:=Tryz.underlying93
 a75:=Tryz.isAgg93
 z75:=Tryz.sizeOf93
 v75:=Tryz.zeroValue93
 t76:=Tryz.underlying94
 a76:=Tryz.isAgg94
 z76:=Tryz.sizeOf94
 v76:=Tryz.zeroValue94
 t85:=Tryz.underlying318
 a85:=Tryz.isAgg318
 z85:=Tryz.sizeOf318
 v85:=Tryz.zeroValue318
 t127:=Tryz.underlying194
 a127:=Tryz.isAgg194
 z127:=Tryz.sizeOf194
 v127:=Tryz.zeroValue194
 t143:=Tryz.underlying362
 a143:=Tryz.isAgg362
 z143:=Tryz.sizeOf362
 v143:=Tryz.zeroValue362
 t145:=Tryz.underlying364
 a145:=Tryz.isAgg364
 z145:=Tryz.sizeOf364
 v145:=Tryz.zeroValue364
 t167:=Tryz.underlying317
 a167:=Tryz.isAgg317
 z167:=Tryz.sizeOf317
 v167:=Tryz.zeroValue317
 t168:=Tryz.underlying320
 a168:=Tryz.isAgg320
 z168:=Tryz.sizeOf320
 v168:=Tryz.zeroValue320
 t171:=Tryz.underlying308
 a171:=Tryz.isAgg308
 z171:=Tryz.sizeOf308
 v171:=Tryz.zeroValue308
 t173:=Tryz.underlying310
 a173:=Tryz.isAgg310
 z173:=Tryz.sizeOf310
 v173:=Tryz.zeroValue310
 t175:=Tryz.underlying348
 a175:=Tryz.isAgg348
 z175:=Tryz.sizeOf348
 v175:=Tryz.zeroValue348
 t210:=Tryz.underlying351
 a210:=Tryz.isAgg351
 z210:=Tryz.sizeOf351
 v210:=Tryz.zeroValue351
 t212:=Tryz.underlying345
 a212:=Tryz.isAgg345
 z212:=Tryz.sizeOf345
 v212:=Tryz.zeroValue345
 t213:=Tryz.underlying346
 a213:=Tryz.isAgg346
 z213:=Tryz.sizeOf346
 t232:=Tryz.underlying369
 a232:=Tryz.isAgg369
 z232:=Tryz.sizeOf369
 v232:=Tryz.zeroValue369
 t233:=Tryz.underlying370
 a233:=Tryz.isAgg370
 z233:=Tryz.sizeOf370
 v233:=Tryz.zeroValue370
 g15:=by kernel_rfl
 g16:=by kernel_rfl
 g17:=by kernel_rfl
 g18:=by kernel_rfl
 g19:=by kernel_rfl }
open Go.RowKit in
theorem Tryz.strconv_Atoi(s:ByteArray)(n:Int)(hl:s.size≤18)(h:Lib.atoi s.data.toList=some n)(w:World) :
  Calls Tryz.prog 168 #[.string s] w fun e w'=>e=.returned (.tuple #[.int .i64 n,.nilIface])∧∃ t,w'=Lib.bytesWorld w 5 t:=Any.strconv_Atoi Tryz.lays172 s n hl h w
def Tryz.lays129_ren:Go.Shelf.Ren:=⟨fun | 129=>294 | n=>n,fun | 53=>37 | 3=>3 | 4=>4 | 46=>213 | 5=>5 | 9=>9 | n=>n,fun | n=>n⟩
def Tryz.lays317_ren:Go.Shelf.Ren:=⟨fun | 317=>340 | n=>n,fun | 3=>3 | 46=>213 | n=>n,fun | n=>n⟩
def Tryz.lays318_ren:Go.Shelf.Ren:=⟨fun | 318=>341 | n=>n,fun | 3=>3 | 4=>4 | n=>n,fun | n=>n⟩
def Tryz.lays283_ren:Go.Shelf.Ren:=⟨fun | 283=>298 | n=>n,fun | 3=>3 | 9=>9 | 4=>4 | n=>n,fun | n=>n⟩
def Tryz.laysM284_ren:Go.Shelf.Ren:=⟨fun | 284=>299 | 129=>294 | 317=>340 | 318=>341 | n=>n,fun | 53=>37 | 3=>3 | 212=>345 | 0=>0 | 4=>4 | 46=>213 | 5=>5 | 9=>9 | n=>n,fun | 17=>3 | n=>n⟩
def Tryz.lays285_ren:Go.Shelf.Ren:=⟨fun | 285=>300 | n=>n,fun | 37=>88 | 53=>37 | 3=>3 | 4=>4 | 51=>283 | 9=>9 | 5=>5 | 0=>0 | n=>n,fun | n=>n⟩
def Tryz.laysM246_ren:Go.Shelf.Ren:=⟨fun | 246=>234 | 283=>298 | 284=>299 | 285=>300 | 286=>301 | 129=>294 | 317=>340 | 318=>341 | 319=>342 | 320=>343 | 337=>361 | 338=>362 | n=>n,fun | 2=>2 | 3=>3 | 9=>9 | 4=>4 | 171=>308 | 0=>0 | 53=>37 | 37=>88 | 5=>5 | 173=>310 | 212=>345 | 51=>283 | 20=>20 | 213=>346 | 46=>213 | 232=>369 | 233=>370 | n=>n,fun | 17=>3 | 18=>7 | 19=>8 | n=>n⟩
def Tryz.lays246_ren:Go.Shelf.Ren:=⟨fun | 246=>234 | 283=>298 | 284=>299 | 285=>300 | 286=>301 | 129=>294 | 317=>340 | 318=>341 | 319=>342 | 320=>343 | 337=>361 | 338=>362 | n=>n,fun | 2=>2 | 3=>3 | 9=>9 | 4=>4 | 171=>308 | 0=>0 | 53=>37 | 37=>88 | 5=>5 | 173=>310 | 212=>345 | 51=>283 | 20=>20 | 213=>346 | 46=>213 | 232=>369 | 233=>370 | n=>n,fun | 17=>3 | 18=>7 | 19=>8 | n=>n⟩
def Tryz.laysM243_ren:Go.Shelf.Ren:=⟨fun | 243=>153 | 246=>234 | 283=>298 | 284=>299 | 285=>300 | 286=>301 | 129=>294 | 317=>340 | 318=>341 | 319=>342 | 320=>343 | 337=>361 | 338=>362 | n=>n,fun | 3=>3 | 9=>9 | 2=>2 | 4=>4 | 171=>308 | 0=>0 | 53=>37 | 37=>88 | 5=>5 | 173=>310 | 212=>345 | 51=>283 | 20=>20 | 213=>346 | 46=>213 | 232=>369 | 233=>370 | n=>n,fun | 17=>3 | 18=>7 | 19=>8 | n=>n⟩
def Tryz.lays243_ren:Go.Shelf.Ren:=⟨fun | 243=>153 | 246=>234 | 283=>298 | 284=>299 | 285=>300 | 286=>301 | 129=>294 | 317=>340 | 318=>341 | 319=>342 | 320=>343 | 337=>361 | 338=>362 | n=>n,fun | 3=>3 | 9=>9 | 2=>2 | 4=>4 | 171=>308 | 0=>0 | 53=>37 | 37=>88 | 5=>5 | 173=>310 | 212=>345 | 51=>283 | 20=>20 | 213=>346 | 46=>213 | 232=>369 | 233=>370 | n=>n,fun | 17=>3 | 18=>7 | 19=>8 | n=>n⟩
def Tryz.laysM171_ren:Go.Shelf.Ren:=⟨fun | 171=>56 | 243=>153 | 246=>234 | 283=>298 | 284=>299 | 285=>300 | 286=>301 | 129=>294 | 317=>340 | 318=>341 | 319=>342 | 320=>343 | 337=>361 | 338=>362 | n=>n,fun | 3=>3 | 9=>9 | 2=>2 | 4=>4 | 171=>308 | 0=>0 | 53=>37 | 37=>88 | 5=>5 | 173=>310 | 212=>345 | 51=>283 | 20=>20 | 213=>346 | 46=>213 | 232=>369 | 233=>370 | n=>n,fun | 17=>3 | 18=>7 | 19=>8 | n=>n⟩
theorem Tryz.laysM171:Go.Proofs.LaysM.n171 Tryz.prog Tryz.laysM171_ren:={
 mixed:=by kernel_rfl
 f129:=Tryz.func294.trans (congrArg some (by kernel_rfl))
 f171:=Tryz.func56.trans (congrArg some (by kernel_rfl))
 f243:=Tryz.func153.trans (congrArg some (by kernel_rfl))
 f246:=Tryz.func234.trans (congrArg some (by kernel_rfl))
 f283:=Tryz.func298.trans (congrArg some (by kernel_rfl))
 f284:=Tryz.func299.trans (congrArg some (by kernel_rfl))
 f285:=Tryz.func300.trans (congrArg some (by kernel_rfl))
 f286:=Tryz.func301.trans (congrArg some (by kernel_rfl))
 f317:=Tryz.func340.trans (congrArg some (by kernel_rfl))
 f318:=Tryz.func341.trans (congrArg some (by kernel_rfl))
 f319:=Tryz.func342.trans (congrArg some (by kernel_rfl))
 f320:=Tryz.func343.trans (congrArg some (by kernel_rfl))
 f337:=Tryz.func361.trans (congrArg some (by kernel_rfl))
 f338:=Tryz.func362.trans (congrArg some (by kernel_rfl))
 t0:=Tryz.underlying0
 a0:=Tryz.isAgg0
 z0:=Tryz.sizeOf0
 v0:=Tryz.zeroValue0
 t2:=Tryz.underlying2
 a2:=Tryz.isAgg2
 z2:=Tryz.sizeOf2
 v2:=Tryz.zeroValue2
 t3:=Tryz.underlying3
 a3:=Tryz.isAgg3
 z3:=Tryz.sizeOf3
 v3:=Tryz.zeroValue3
 t4:=Tryz.underlying4
 a4:=Tryz.isAgg4
 z4:=Tryz.sizeOf4
 v4:=Tryz.zeroValue4
 t5:=Tryz.underlying5
 a5:=Tryz.isAgg5
 z5:=Tryz.sizeOf5
 v5:=Tryz.zeroValue5
 t9:=Tryz.underlying9
 a9:=Tryz.isAgg9
 z9:=Tryz.sizeOf9
 v9:=Tryz.zeroValue9
 t20:=Tryz.underlying20
 a20:=Tryz.isAgg20
 z20:=Tryz.sizeOf20
 v20:=Tryz.zeroValue20
 t37:=Tryz.underlying88
 a37:=Tryz.isAgg88
 z37:=Tryz.sizeOf88
 v37:=Tryz.zeroValue88
 t46:=Tryz.underlying213
 a46:=Tryz.isAgg213
 z46:=Tryz.sizeOf213
 v46:=Tryz.zeroValue213
 t51:=Tryz.underlying283
 a51:=Tryz.isAgg283
 z51:=Tryz.sizeOf283
 v51:=Tryz.zeroValue283
 t53:=Tryz.underlying37
 a53:=Tryz.isAgg37
 z53:=Tryz.sizeOf37
 v53:=Tryz.zeroValue37
 t171:=Tryz.underlying308
 a171:=Tryz.isAgg308
 z171:=Tryz.sizeOf308
 v171:=Tryz.zeroValue308
 t173:=Tryz.underlying310
 a173:=Tryz.isAgg310
 z173:=Tryz.sizeOf310
 v173:=Tryz.zeroValue310
 t212:=Tryz.underlying345
 a212:=Tryz.isAgg345
 z212:=Tryz.sizeOf345
 v212:=Tryz.zeroValue345
 t213:=Tryz.underlying346
 a213:=Tryz.isAgg346
 z213:=Tryz.sizeOf346
 t232:=Tryz.underlying369
 a232:=Tryz.isAgg369
 z232:=Tryz.sizeOf369
 v232:=Tryz.zeroValue369
 t233:=Tryz.underlying370
 a233:=Tryz.isAgg370
 z233:=Tryz.sizeOf370
 v233:=Tryz.zeroValue370
 g17:=by kernel_rfl
 g18:=by kernel_rfl
 g19:=by kernel_rfl
 i0:=by kernel_rfl
 i2:=by kernel_rfl
 i3:=by kernel_rfl
 i4:=by kernel_rfl
 i5:=by kernel_rfl
 i9:=by kernel_rfl
 i20:=by kernel_rfl
 i37:=by kernel_rfl
 i46:=by kernel_rfl
 i51:=by kernel_rfl
 i53:=by kernel_rfl
 i171:=by kernel_rfl
 i173:=by kernel_rfl
 i212:=by kernel_rfl
 i232:=by kernel_rfl
 i233:=by kernel_rfl
 m17:=by kernel_rfl
 m18:=by kernel_rfl
 m19:=by kernel_rfl }
open Go.RowKit Go.Sort Go.Lib in
theorem Tryz.strconv_Itoa (n:Int) (h0 : -9223372036854775808≤n) (h1:n≤9223372036854775807) (w:World) (htab:Lib.TabIs Tryz.prog w "internal/strconv.uint64pow10" .u64 Lib.pow10Tab) :
  Calls Tryz.prog 56 #[.int .i64 n] w fun e w'=>e=.returned (.string ⟨(Lib.itoa n).toArray⟩)∧∃ k os,w'=grow (w.drewN k) os:=Any.strconv_Itoa Tryz.laysM171 n h0 h1 w htab
def Tryz.lays171_ren:Go.Shelf.Ren:=⟨fun | 171=>56 | 243=>153 | 246=>234 | 283=>298 | 284=>299 | 285=>300 | 286=>301 | 129=>294 | 317=>340 | 318=>341 | 319=>342 | 320=>343 | 337=>361 | 338=>362 | n=>n,fun | 3=>3 | 9=>9 | 2=>2 | 4=>4 | 171=>308 | 0=>0 | 53=>37 | 37=>88 | 5=>5 | 173=>310 | 212=>345 | 51=>283 | 20=>20 | 213=>346 | 46=>213 | 232=>369 | 233=>370 | n=>n,fun | 17=>3 | 18=>7 | 19=>8 | n=>n⟩
def Tryz.lays247_ren:Go.Shelf.Ren:=⟨fun | 247=>308 | 287=>350 | 321=>364 | 322=>365 | n=>n,fun | 9=>9 | 3=>3 | 2=>2 | 75=>93 | 4=>4 | 167=>317 | 5=>5 | 53=>37 | 175=>348 | 46=>213 | 37=>88 | 0=>0 | 21=>21 | 80=>33 | n=>n,fun | n=>n⟩
def Tryz.laysM316_ren:Go.Shelf.Ren:=⟨fun | 316=>351 | n=>n,fun | 9=>9 | 3=>3 | 4=>4 | 37=>88 | 0=>0 | 127=>194 | 5=>5 | n=>n,fun | n=>n⟩
def Tryz.laysM279_ren:Go.Shelf.Ren:=⟨fun | 279=>309 | 316=>351 | n=>n,fun | 9=>9 | 168=>320 | 75=>93 | 210=>351 | 3=>3 | 4=>4 | 37=>88 | 0=>0 | 127=>194 | 80=>33 | 5=>5 | n=>n,fun | 15=>4 | n=>n⟩
def Tryz.laysC245_ren:Go.Shelf.Ren:=⟨fun | 245=>242 | 279=>309 | 280=>310 | 281=>311 | 282=>312 | 316=>351 | 171=>56 | 205=>352 | 243=>153 | 246=>234 | 283=>298 | 284=>299 | 285=>300 | 286=>301 | 129=>294 | 317=>340 | 318=>341 | 319=>342 | 320=>343 | 337=>361 | 338=>362 | n=>n,fun | 9=>9 | 3=>3 | 75=>93 | 167=>317 | 4=>4 | 168=>320 | 210=>351 | 37=>88 | 0=>0 | 127=>194 | 145=>364 | 143=>362 | 2=>2 | 171=>308 | 53=>37 | 5=>5 | 173=>310 | 212=>345 | 51=>283 | 20=>20 | 213=>346 | 46=>213 | 232=>369 | 233=>370 | 80=>33 | n=>n,fun | 15=>4 | 16=>5 | 17=>3 | 18=>7 | 19=>8 | n=>n⟩
def Tryz.lays321_ren:Go.Shelf.Ren:=⟨fun | 321=>364 | n=>n,fun | 5=>5 | n=>n,fun | n=>n⟩
def Tryz.lays287_ren:Go.Shelf.Ren:=⟨fun | 287=>350 | 321=>364 | 322=>365 | n=>n,fun | 9=>9 | 3=>3 | 53=>37 | 75=>93 | 4=>4 | 167=>317 | 5=>5 | 46=>213 | 37=>88 | 0=>0 | 21=>21 | 80=>33 | n=>n,fun | n=>n⟩
def Tryz.laysC247_ren:Go.Shelf.Ren:=⟨fun | 247=>308 | 287=>350 | 321=>364 | 322=>365 | n=>n,fun | 9=>9 | 3=>3 | 2=>2 | 75=>93 | 4=>4 | 167=>317 | 5=>5 | 53=>37 | 175=>348 | 46=>213 | 37=>88 | 0=>0 | 21=>21 | 80=>33 | n=>n,fun | n=>n⟩
def Tryz.laysC244_ren:Go.Shelf.Ren:=⟨fun | 244=>241 | 247=>308 | 287=>350 | 321=>364 | 322=>365 | n=>n,fun | 9=>9 | 3=>3 | 75=>93 | 4=>4 | 5=>5 | 167=>317 | 37=>88 | 0=>0 | 85=>318 | 2=>2 | 53=>37 | 175=>348 | 46=>213 | 21=>21 | 80=>33 | n=>n,fun | n=>n⟩
def Tryz.laysM280_ren:Go.Shelf.Ren:=⟨fun | 280=>310 | 316=>351 | n=>n,fun | 9=>9 | 168=>320 | 75=>93 | 210=>351 | 3=>3 | 4=>4 | 37=>88 | 0=>0 | 127=>194 | 80=>33 | 5=>5 | n=>n,fun | 16=>5 | n=>n⟩
def Tryz.laysC172_ren:Go.Shelf.Ren:=⟨fun | 172=>168 | 244=>241 | 245=>242 | 247=>308 | 279=>309 | 280=>310 | 281=>311 | 282=>312 | 287=>350 | 316=>351 | 171=>56 | 205=>352 | 321=>364 | 322=>365 | 243=>153 | 246=>234 | 283=>298 | 284=>299 | 285=>300 | 286=>301 | 129=>294 | 317=>340 | 318=>341 | 319=>342 | 320=>343 | 337=>361 | 338=>362 | n=>n,fun | 9=>9 | 3=>3 | 75=>93 | 76=>94 | 4=>4 | 5=>5 | 167=>317 | 37=>88 | 0=>0 | 85=>318 | 2=>2 | 168=>320 | 53=>37 | 175=>348 | 46=>213 | 210=>351 | 127=>194 | 145=>364 | 143=>362 | 21=>21 | 171=>308 | 173=>310 | 212=>345 | 51=>283 | 20=>20 | 213=>346 | 232=>369 | 233=>370 | 80=>33 | n=>n,fun | 15=>4 | 16=>5 | 17=>3 | 18=>7 | 19=>8 | n=>n⟩
def Tryz.laysPu14_ren:Go.Shelf.Ren:=⟨fun | 14=>349 | 16=>350 | 17=>242 | 19=>364 | 20=>365 | 21=>309 | 22=>310 | 23=>311 | 24=>312 | 25=>351 | 27=>56 | 26=>352 | 28=>153 | 29=>234 | 30=>298 | 31=>299 | 32=>300 | 33=>301 | 35=>294 | 34=>340 | 36=>341 | 37=>342 | 38=>343 | 39=>361 | 40=>362 | n=>n,fun | 9=>9 | 3=>3 | 22=>37 | 24=>93 | 25=>348 | 4=>4 | 34=>317 | 5=>5 | 36=>213 | 37=>88 | 0=>0 | 39=>320 | 21=>21 | 44=>351 | 47=>194 | 50=>364 | 48=>362 | 2=>2 | 52=>308 | 55=>310 | 59=>345 | 60=>283 | 20=>20 | 61=>346 | 65=>369 | 66=>370 | 67=>33 | n=>n,fun | 0=>4 | 1=>5 | 2=>3 | 3=>7 | 4=>8 | n=>n⟩
def Tryz.lays217_ren:Go.Shelf.Ren:=⟨fun | 217=>279 | 266=>334 | n=>n,fun | 9=>9 | 5=>5 | 3=>3 | n=>n,fun | n=>n⟩
def Tryz.lays224_ren:Go.Shelf.Ren:=⟨fun | 224=>347 | n=>n,fun | 3=>3 | n=>n,fun | n=>n⟩
def Tryz.lays314_ren:Go.Shelf.Ren:=⟨fun | 314=>363 | n=>n,fun | 9=>9 | 51=>283 | 3=>3 | 4=>4 | 5=>5 | 46=>213 | n=>n,fun | n=>n⟩
def Tryz.lays267_ren:Go.Shelf.Ren:=⟨fun | 267=>348 | 314=>363 | n=>n,fun | 9=>9 | 3=>3 | 146=>284 | 51=>283 | 4=>4 | 5=>5 | 46=>213 | n=>n,fun | n=>n⟩
def Tryz.lays219_ren:Go.Shelf.Ren:=⟨fun | 219=>305 | 217=>279 | 225=>346 | 224=>347 | 267=>348 | 266=>334 | 314=>363 | n=>n,fun | 9=>9 | 3=>3 | 4=>4 | 5=>5 | 46=>213 | 146=>284 | 51=>283 | n=>n,fun | 1=>0 | n=>n⟩
theorem Tryz.lays219:Go.Proofs.Lays.n219 Tryz.prog Tryz.lays219_ren:={
 mixed:=by kernel_rfl
 f217:=Tryz.func279.trans (congrArg some (by kernel_rfl))
 f219:=Tryz.func305.trans (congrArg some (by kernel_rfl))
 f224:=Tryz.func347.trans (congrArg some (by kernel_rfl))
 f225:=Tryz.func346.trans (congrArg some (by kernel_rfl))
 f266:=Tryz.func334.trans (congrArg some (by kernel_rfl))
 f267:=Tryz.func348.trans (congrArg some (by kernel_rfl))
 f314:=Tryz.func363.trans (congrArg some (by kernel_rfl))
 t3:=Tryz.underlying3
 a3:=Tryz.isAgg3
 z3:=Tryz.sizeOf3
 v3:=Tryz.zeroValue3
 t4:=Tryz.underlying4
 a4:=Tryz.isAgg4
 z4:=Tryz.sizeOf4
 v4:=Tryz.zeroValue4
 t5:=Tryz.underlying5
 a5:=Tryz.isAgg5
 z5:=Tryz.sizeOf5
 v5:=Tryz.zeroValue5
 t9:=Tryz.underlying9
 a9:=Tryz.isAgg9
 z9:=Tryz.sizeOf9
 v9:=Tryz.zeroValue9
 t46:=Tryz.underlying213
 a46:=Tryz.isAgg213
 z46:=Tryz.sizeOf213
 v46:=Tryz.zeroValue213
 t51:=Tryz.underlying283
 a51:=Tryz.isAgg283
 z51:=Tryz.sizeOf283
 v51:=Tryz.zeroValue283
 t146:=Tryz.underlying284
 a146:=Tryz.isAgg284
 z146:=Tryz.sizeOf284
 v146:=Tryz.zeroValue284
 g1:=by kernel_rfl }
open Go.RowKit Go.Lib in
theorem Tryz.stringslite_Index_one(s:ByteArray)(c:UInt8)(w:World) :
  Calls Tryz.prog 305 #[.string s,.string ⟨#[c]⟩] w fun e w'=>e=.returned (.int .i64 (Lib.indexByte s.data.toList c))∧w'=w:=Any.stringslite_Index_one Tryz.lays219 s c w
def Tryz.lays143_ren:Go.Shelf.Ren:=⟨fun | 143=>255 | 219=>305 | 217=>279 | 225=>346 | 224=>347 | 267=>348 | 266=>334 | 314=>363 | n=>n,fun | 9=>9 | 3=>3 | 4=>4 | 5=>5 | 46=>213 | 146=>284 | 51=>283 | n=>n,fun | 1=>0 | n=>n⟩
theorem Tryz.lays143:Go.Proofs.Lays.n143 Tryz.prog Tryz.lays143_ren:={
 mixed:=by kernel_rfl
 f143:=Tryz.func255.trans (congrArg some (by kernel_rfl))
 f217:=Tryz.func279.trans (congrArg some (by kernel_rfl))
 f219:=Tryz.func305.trans (congrArg some (by kernel_rfl))
 f224:=Tryz.func347.trans (congrArg some (by kernel_rfl))
 f225:=Tryz.func346.trans (congrArg some (by kernel_rfl))
 f266:=Tryz.func334.trans (congrArg some (by kernel_rfl))
 f267:=Tryz.func348.trans (congrArg some (by kernel_rfl))
 f314:=Tryz.func363.trans (congrArg some (by kernel_rfl))
 t3:=Tryz.underlying3
 a3:=Tryz.isAgg3
 z3:=Tryz.sizeOf3
 v3:=Tryz.zeroValue3
 t4:=Tryz.underlying4
 a4:=Tryz.isAgg4
 z4:=Tryz.sizeOf4
 v4:=Tryz.zeroValue4
 t5:=Tryz.underlying5
 a5:=Tryz.isAgg5
 z5:=Tryz.sizeOf5
 v5:=Tryz.zeroValue5
 t9:=Tryz.underlying9
 a9:=Tryz.isAgg9
 z9:=Tryz.sizeOf9
 v9:=Tryz.zeroValue9
 t46:=Tryz.underlying213
 a46:=Tryz.isAgg213
 z46:=Tryz.sizeOf213
 v46:=Tryz.zeroValue213
 t51:=Tryz.underlying283
 a51:=Tryz.isAgg283
 z51:=Tryz.sizeOf283
 v51:=Tryz.zeroValue283
 t146:=Tryz.underlying284
 a146:=Tryz.isAgg284
 z146:=Tryz.sizeOf284
 v146:=Tryz.zeroValue284
 g1:=by kernel_rfl }
open Go.RowKit Go.Lib in
theorem Tryz.strings_Index_one(s:ByteArray)(c:UInt8)(w:World) :
  Calls Tryz.prog 255 #[.string s,.string ⟨#[c]⟩] w fun e w'=>e=.returned (.int .i64 (Lib.indexByte s.data.toList c))∧w'=w:=Any.strings_Index_one Tryz.lays143 s c w
def Tryz.lays144_ren:Go.Shelf.Ren:=⟨fun | 144=>189 | 143=>255 | 219=>305 | 217=>279 | 225=>346 | 224=>347 | 267=>348 | 266=>334 | 314=>363 | n=>n,fun | 9=>9 | 4=>4 | 3=>3 | 5=>5 | 46=>213 | 146=>284 | 51=>283 | n=>n,fun | 1=>0 | n=>n⟩
def Tryz.lays220_ren:Go.Shelf.Ren:=⟨fun | 220=>239 | 219=>305 | 217=>279 | 225=>346 | 224=>347 | 267=>348 | 266=>334 | 314=>363 | n=>n,fun | 9=>9 | 4=>4 | 3=>3 | 5=>5 | 46=>213 | 146=>284 | 51=>283 | n=>n,fun | 1=>0 | n=>n⟩
def Tryz.lays145_ren:Go.Shelf.Ren:=⟨fun | 145=>165 | 220=>239 | 219=>305 | 217=>279 | 225=>346 | 224=>347 | 267=>348 | 266=>334 | 314=>363 | n=>n,fun | 9=>9 | 4=>4 | 59=>204 | 3=>3 | 5=>5 | 46=>213 | 146=>284 | 51=>283 | n=>n,fun | 1=>0 | n=>n⟩
theorem Tryz.lays145:Go.Proofs.Lays.n145 Tryz.prog Tryz.lays145_ren:={
 mixed:=by kernel_rfl
 f145:=Tryz.func165.trans (congrArg some (by kernel_rfl))
 f217:=Tryz.func279.trans (congrArg some (by kernel_rfl))
 f219:=Tryz.func305.trans (congrArg some (by kernel_rfl))
 f220:=Tryz.func239.trans (congrArg some (by kernel_rfl))
 f224:=Tryz.func347.trans (congrArg some (by kernel_rfl))
 f225:=Tryz.func346.trans (congrArg some (by kernel_rfl))
 f266:=Tryz.func334.trans (congrArg some (by kernel_rfl))
 f267:=Tryz.func348.trans (congrArg some (by kernel_rfl))
 f314:=Tryz.func363.trans (congrArg some (by kernel_rfl))
 t3:=Tryz.underlying3
 a3:=Tryz.isAgg3
 z3:=Tryz.sizeOf3
 v3:=Tryz.zeroValue3
 t4:=Tryz.underlying4
 a4:=Tryz.isAgg4
 z4:=Tryz.sizeOf4
 v4:=Tryz.zeroValue4
 t5:=Tryz.underlying5
 a5:=Tryz.isAgg5
 z5:=Tryz.sizeOf5
 v5:=Tryz.zeroValue5
 t9:=Tryz.underlying9
 a9:=Tryz.isAgg9
 z9:=Tryz.sizeOf9
 v9:=Tryz.zeroValue9
 t46:=Tryz.underlying213
 a46:=Tryz.isAgg213
 z46:=Tryz.sizeOf213
 v46:=Tryz.zeroValue213
 t51:=Tryz.underlying283
 a51:=Tryz.isAgg283
 z51:=Tryz.sizeOf283
 v51:=Tryz.zeroValue283
 t59:=Tryz.underlying204
 a59:=Tryz.isAgg204
 z59:=Tryz.sizeOf204
 v59:=Tryz.zeroValue204
 t146:=Tryz.underlying284
 a146:=Tryz.isAgg284
 z146:=Tryz.sizeOf284
 v146:=Tryz.zeroValue284
 g1:=by kernel_rfl }
open Go.RowKit Go.Lib in
theorem Tryz.strings_Cut(s sep:ByteArray)(m:Int)(w:World)(hs:s.size<4294967281)(hm:w.cell? ⟨0,0,none⟩=some (.int .i64 m)) :
  Calls Tryz.prog 165 #[.string s,.string sep] w fun e w'=>e=.returned (.tuple #[.string ⟨(Lib.cut s.data.toList sep.data.toList).1.toArray⟩,.string ⟨(Lib.cut s.data.toList sep.data.toList).2.1.toArray⟩,.bool (Lib.cut s.data.toList sep.data.toList).2.2])∧∃ n,w'=w.drewN n:=Any.strings_Cut Tryz.lays145 s sep m w hs hm
def Tryz.lays138_ren:Go.Shelf.Ren:=⟨fun | 138=>304 | 195=>344 | 218=>345 | 143=>255 | 219=>305 | 217=>279 | 225=>346 | 224=>347 | 267=>348 | 266=>334 | 314=>363 | n=>n,fun | 9=>9 | 3=>3 | 4=>4 | 5=>5 | 0=>0 | 46=>213 | 146=>284 | 51=>283 | n=>n,fun | 1=>0 | n=>n⟩
theorem Tryz.lays138:Go.Proofs.Lays.n138 Tryz.prog Tryz.lays138_ren:={
 mixed:=by kernel_rfl
 f138:=Tryz.func304.trans (congrArg some (by kernel_rfl))
 f143:=Tryz.func255.trans (congrArg some (by kernel_rfl))
 f195:=Tryz.func344.trans (congrArg some (by kernel_rfl))
 f217:=Tryz.func279.trans (congrArg some (by kernel_rfl))
 f218:=Tryz.func345.trans (congrArg some (by kernel_rfl))
 f219:=Tryz.func305.trans (congrArg some (by kernel_rfl))
 f224:=Tryz.func347.trans (congrArg some (by kernel_rfl))
 f225:=Tryz.func346.trans (congrArg some (by kernel_rfl))
 f266:=Tryz.func334.trans (congrArg some (by kernel_rfl))
 f267:=Tryz.func348.trans (congrArg some (by kernel_rfl))
 f314:=Tryz.func363.trans (congrArg some (by kernel_rfl))
 t0:=Tryz.underlying0
 a0:=Tryz.isAgg0
 z0:=Tryz.sizeOf0
 v0:=Tryz.zeroValue0
 t3:=Tryz.underlying3
 a3:=Tryz.isAgg3
 z3:=Tryz.sizeOf3
 v3:=Tryz.zeroValue3
 t4:=Tryz.underlying4
 a4:=Tryz.isAgg4
 z4:=Tryz.sizeOf4
 v4:=Tryz.zeroValue4
 t5:=Tryz.underlying5
 a5:=Tryz.isAgg5
 z5:=Tryz.sizeOf5
 v5:=Tryz.zeroValue5
 t9:=Tryz.underlying9
 a9:=Tryz.isAgg9
 z9:=Tryz.sizeOf9
 v9:=Tryz.zeroValue9
 t46:=Tryz.underlying213
 a46:=Tryz.isAgg213
 z46:=Tryz.sizeOf213
 v46:=Tryz.zeroValue213
 t51:=Tryz.underlying283
 a51:=Tryz.isAgg283
 z51:=Tryz.sizeOf283
 v51:=Tryz.zeroValue283
 t146:=Tryz.underlying284
 a146:=Tryz.isAgg284
 z146:=Tryz.sizeOf284
 v146:=Tryz.zeroValue284
 g1:=by kernel_rfl }
open Go.RowKit Go.Lib in
theorem Tryz.strings_Count_one(s:ByteArray)(c:UInt8)(w:World) :
  Calls Tryz.prog 304 #[.string s,.string ⟨#[c]⟩] w fun e w'=>e=.returned (.int .i64 (Lib.countByte s.data.toList c))∧w'=w:=Any.strings_Count_one Tryz.lays138 s c w
def Tryz.laysM219_ren:Go.Shelf.Ren:=⟨fun | 219=>305 | 217=>279 | 225=>346 | 224=>347 | 267=>348 | 266=>334 | 314=>363 | n=>n,fun | 9=>9 | 3=>3 | 4=>4 | 5=>5 | 46=>213 | 146=>284 | 51=>283 | n=>n,fun | 1=>0 | n=>n⟩
def Tryz.laysM143_ren:Go.Shelf.Ren:=⟨fun | 143=>255 | 219=>305 | 217=>279 | 225=>346 | 224=>347 | 267=>348 | 266=>334 | 314=>363 | n=>n,fun | 9=>9 | 3=>3 | 4=>4 | 5=>5 | 46=>213 | 146=>284 | 51=>283 | n=>n,fun | 1=>0 | n=>n⟩
def Tryz.laysM144_ren:Go.Shelf.Ren:=⟨fun | 144=>189 | 143=>255 | 219=>305 | 217=>279 | 225=>346 | 224=>347 | 267=>348 | 266=>334 | 314=>363 | n=>n,fun | 9=>9 | 4=>4 | 3=>3 | 5=>5 | 46=>213 | 146=>284 | 51=>283 | n=>n,fun | 1=>0 | n=>n⟩
def Tryz.laysM220_ren:Go.Shelf.Ren:=⟨fun | 220=>239 | 219=>305 | 217=>279 | 225=>346 | 224=>347 | 267=>348 | 266=>334 | 314=>363 | n=>n,fun | 9=>9 | 4=>4 | 3=>3 | 5=>5 | 46=>213 | 146=>284 | 51=>283 | n=>n,fun | 1=>0 | n=>n⟩
def Tryz.laysM145_ren:Go.Shelf.Ren:=⟨fun | 145=>165 | 220=>239 | 219=>305 | 217=>279 | 225=>346 | 224=>347 | 267=>348 | 266=>334 | 314=>363 | n=>n,fun | 9=>9 | 4=>4 | 59=>204 | 3=>3 | 5=>5 | 46=>213 | 146=>284 | 51=>283 | n=>n,fun | 1=>0 | n=>n⟩
def Tryz.laysM138_ren:Go.Shelf.Ren:=⟨fun | 138=>304 | 195=>344 | 218=>345 | 143=>255 | 219=>305 | 217=>279 | 225=>346 | 224=>347 | 267=>348 | 266=>334 | 314=>363 | n=>n,fun | 9=>9 | 3=>3 | 4=>4 | 5=>5 | 0=>0 | 46=>213 | 146=>284 | 51=>283 | n=>n,fun | 1=>0 | n=>n⟩
def Tryz.lays206_ren:Go.Shelf.Ren:=⟨fun | 206=>269 | n=>n,fun | 9=>9 | 4=>4 | 3=>3 | n=>n,fun | n=>n⟩
def Tryz.lays99_ren:Go.Shelf.Ren:=⟨fun | 99=>199 | 206=>269 | n=>n,fun | 9=>9 | 4=>4 | 3=>3 | n=>n,fun | n=>n⟩
def Tryz.lays207_ren:Go.Shelf.Ren:=⟨fun | 207=>252 | n=>n,fun | 9=>9 | 4=>4 | 3=>3 | n=>n,fun | n=>n⟩
def Tryz.lays100_ren:Go.Shelf.Ren:=⟨fun | 100=>181 | 207=>252 | n=>n,fun | 9=>9 | 4=>4 | 3=>3 | n=>n,fun | n=>n⟩
def Tryz.lays208_ren:Go.Shelf.Ren:=⟨fun | 208=>243 | 206=>269 | n=>n,fun | 9=>9 | 4=>4 | 3=>3 | n=>n,fun | n=>n⟩
def Tryz.lays101_ren:Go.Shelf.Ren:=⟨fun | 101=>169 | 208=>243 | 206=>269 | n=>n,fun | 9=>9 | 4=>4 | 3=>3 | n=>n,fun | n=>n⟩
theorem Tryz.lays101:Go.Proofs.Lays.n101 Tryz.prog Tryz.lays101_ren:={
 mixed:=by kernel_rfl
 f101:=Tryz.func169.trans (congrArg some (by kernel_rfl))
 f206:=Tryz.func269.trans (congrArg some (by kernel_rfl))
 f208:=Tryz.func243.trans (congrArg some (by kernel_rfl))
 t3:=Tryz.underlying3
 a3:=Tryz.isAgg3
 z3:=Tryz.sizeOf3
 v3:=Tryz.zeroValue3
 t4:=Tryz.underlying4
 a4:=Tryz.isAgg4
 z4:=Tryz.sizeOf4
 v4:=Tryz.zeroValue4
 t9:=Tryz.underlying9
 a9:=Tryz.isAgg9
 z9:=Tryz.sizeOf9
 v9:=Tryz.zeroValue9 }
open Go.RowKit Go.Lib in
theorem Tryz.strings_TrimPrefix(s p:ByteArray)(w:World) :
  Calls Tryz.prog 169 #[.string s,.string p] w fun e w'=>e=.returned (.string ⟨(Lib.trimPrefix s.data.toList p.data.toList).toArray⟩)∧w'=w:=Any.strings_TrimPrefix Tryz.lays101 s p w
def Tryz.lays221_ren:Go.Shelf.Ren:=⟨fun | 221=>237 | 268=>303 | 138=>304 | 143=>255 | 195=>344 | 197=>320 | 218=>345 | 219=>305 | 260=>354 | 217=>279 | 225=>346 | 224=>347 | 267=>348 | 266=>334 | 314=>363 | n=>n,fun | 9=>9 | 3=>3 | 31=>85 | 4=>4 | 0=>0 | 105=>330 | 21=>21 | 5=>5 | 46=>213 | 119=>326 | 139=>329 | 138=>328 | 146=>284 | 51=>283 | n=>n,fun | 1=>0 | 3=>1 | 4=>2 | n=>n⟩
theorem Tryz.lays221:Go.Proofs.Lays.n221 Tryz.prog Tryz.lays221_ren:={
 mixed:=by kernel_rfl
 f138:=Tryz.func304.trans (congrArg some (by kernel_rfl))
 f143:=Tryz.func255.trans (congrArg some (by kernel_rfl))
 f195:=Tryz.func344.trans (congrArg some (by kernel_rfl))
 f197:=Tryz.func320.trans (congrArg some (by kernel_rfl))
 f217:=Tryz.func279.trans (congrArg some (by kernel_rfl))
 f218:=Tryz.func345.trans (congrArg some (by kernel_rfl))
 f219:=Tryz.func305.trans (congrArg some (by kernel_rfl))
 f221:=Tryz.func237.trans (congrArg some (by kernel_rfl))
 f224:=Tryz.func347.trans (congrArg some (by kernel_rfl))
 f225:=Tryz.func346.trans (congrArg some (by kernel_rfl))
 f260:=Tryz.func354.trans (congrArg some (by kernel_rfl))
 f266:=Tryz.func334.trans (congrArg some (by kernel_rfl))
 f267:=Tryz.func348.trans (congrArg some (by kernel_rfl))
 f268:=Tryz.func303.trans (congrArg some (by kernel_rfl))
 f314:=Tryz.func363.trans (congrArg some (by kernel_rfl))
 t0:=Tryz.underlying0
 a0:=Tryz.isAgg0
 z0:=Tryz.sizeOf0
 v0:=Tryz.zeroValue0
 t3:=Tryz.underlying3
 a3:=Tryz.isAgg3
 z3:=Tryz.sizeOf3
 v3:=Tryz.zeroValue3
 t4:=Tryz.underlying4
 a4:=Tryz.isAgg4
 z4:=Tryz.sizeOf4
 v4:=Tryz.zeroValue4
 t5:=Tryz.underlying5
 a5:=Tryz.isAgg5
 z5:=Tryz.sizeOf5
 v5:=Tryz.zeroValue5
 t9:=Tryz.underlying9
 a9:=Tryz.isAgg9
 z9:=Tryz.sizeOf9
 v9:=Tryz.zeroValue9
 t21:=Tryz.underlying21
 a21:=Tryz.isAgg21
 z21:=Tryz.sizeOf21
 v21:=Tryz.zeroValue21
 t31:=Tryz.underlying85
 a31:=Tryz.isAgg85
 z31:=Tryz.sizeOf85
 v31:=Tryz.zeroValue85
 t46:=Tryz.underlying213
 a46:=Tryz.isAgg213
 z46:=Tryz.sizeOf213
 v46:=Tryz.zeroValue213
 t51:=Tryz.underlying283
 a51:=Tryz.isAgg283
 z51:=Tryz.sizeOf283
 v51:=Tryz.zeroValue283
 t105:=Tryz.underlying330
 a105:=Tryz.isAgg330
 z105:=Tryz.sizeOf330
 v105:=Tryz.zeroValue330
 t119:=Tryz.underlying326
 a119:=Tryz.isAgg326
 z119:=Tryz.sizeOf326
 t138:=Tryz.underlying328
 a138:=Tryz.isAgg328
 z138:=Tryz.sizeOf328
 v138:=Tryz.zeroValue328
 t139:=Tryz.underlying329
 a139:=Tryz.isAgg329
 z139:=Tryz.sizeOf329
 v139:=Tryz.zeroValue329
 t146:=Tryz.underlying284
 a146:=Tryz.isAgg284
 z146:=Tryz.sizeOf284
 v146:=Tryz.zeroValue284
 g1:=by kernel_rfl
 g3:=by kernel_rfl
 g4:=by kernel_rfl }
def Tryz.lays146_ren:Go.Shelf.Ren:=⟨fun | 146=>162 | 221=>237 | 268=>303 | 138=>304 | 143=>255 | 195=>344 | 197=>320 | 218=>345 | 219=>305 | 260=>354 | 217=>279 | 225=>346 | 224=>347 | 267=>348 | 266=>334 | 314=>363 | n=>n,fun | 9=>9 | 31=>85 | 3=>3 | 4=>4 | 0=>0 | 105=>330 | 21=>21 | 5=>5 | 46=>213 | 119=>326 | 139=>329 | 138=>328 | 146=>284 | 51=>283 | n=>n,fun | 1=>0 | 3=>1 | 4=>2 | n=>n⟩
def Tryz.lays147_ren:Go.Shelf.Ren:=⟨fun | 147=>187 | 221=>237 | 268=>303 | 138=>304 | 143=>255 | 195=>344 | 197=>320 | 218=>345 | 219=>305 | 260=>354 | 217=>279 | 225=>346 | 224=>347 | 267=>348 | 266=>334 | 314=>363 | n=>n,fun | 9=>9 | 3=>3 | 31=>85 | 4=>4 | 0=>0 | 105=>330 | 21=>21 | 5=>5 | 46=>213 | 119=>326 | 139=>329 | 138=>328 | 146=>284 | 51=>283 | n=>n,fun | 1=>0 | 3=>1 | 4=>2 | n=>n⟩
def Tryz.lays204_ren:Go.Shelf.Ren:=⟨fun | 204=>278 | 262=>333 | 313=>359 | 274=>368 | 275=>369 | n=>n,fun | 21=>21 | 4=>4 | 3=>3 | 162=>357 | 203=>355 | 160=>366 | 46=>213 | 0=>0 | 208=>374 | 51=>283 | 206=>372 | n=>n,fun | 13=>6 | n=>n⟩
def Tryz.lays152_ren:Go.Shelf.Ren:=⟨fun | 152=>355 | 137=>210 | 119=>366 | 224=>347 | 225=>346 | 217=>279 | 266=>334 | n=>n,fun | 9=>9 | 21=>21 | 3=>3 | 4=>4 | 5=>5 | 0=>0 | 46=>213 | n=>n,fun | n=>n⟩
def Tryz.lays151_ren:Go.Shelf.Ren:=⟨fun | 151=>321 | 152=>355 | 137=>210 | 119=>366 | 224=>347 | 225=>346 | 217=>279 | 266=>334 | n=>n,fun | 9=>9 | 21=>21 | 4=>4 | 3=>3 | 5=>5 | 0=>0 | 46=>213 | n=>n,fun | n=>n⟩
def Tryz.lays227_ren:Go.Shelf.Ren:=⟨fun | 227=>259 | n=>n,fun | 9=>9 | 116=>274 | 4=>4 | 0=>0 | 3=>3 | 5=>5 | n=>n,fun | n=>n⟩
def Tryz.lays228_ren:Go.Shelf.Ren:=⟨fun | 228=>319 | n=>n,fun | 124=>278 | 5=>5 | 4=>4 | 0=>0 | 116=>274 | n=>n,fun | n=>n⟩
def Tryz.lays264_ren:Go.Shelf.Ren:=⟨fun | 264=>268 | n=>n,fun | 53=>37 | 46=>213 | n=>n,fun | n=>n⟩
def Tryz.lays212_ren:Go.Shelf.Ren:=⟨fun | 212=>198 | 263=>267 | 264=>268 | n=>n,fun | 46=>213 | 51=>283 | 146=>284 | 53=>37 | 148=>286 | n=>n,fun | n=>n⟩
def Tryz.lays105_ren:Go.Shelf.Ren:=⟨fun | 105=>106 | 212=>198 | 99=>199 | 165=>200 | 166=>55 | 170=>57 | 169=>58 | 263=>267 | 264=>268 | 206=>269 | 240=>152 | 241=>270 | 276=>233 | 277=>325 | n=>n,fun | 9=>9 | 3=>3 | 4=>4 | 20=>20 | 0=>0 | 46=>213 | 109=>221 | 5=>5 | 72=>90 | 76=>94 | 51=>283 | 146=>284 | 53=>37 | 148=>286 | 70=>87 | 37=>88 | 75=>93 | 127=>194 | 164=>248 | 80=>33 | n=>n,fun | n=>n⟩
theorem Tryz.lays105:Go.Proofs.Lays.n105 Tryz.prog Tryz.lays105_ren:={
 mixed:=by kernel_rfl
 f99:=Tryz.func199.trans (congrArg some (by kernel_rfl))
 f105:=Tryz.func106.trans (congrArg some (by kernel_rfl))
 f165:=Tryz.func200.trans (congrArg some (by kernel_rfl))
 f166:=Tryz.func55.trans (congrArg some (by kernel_rfl))
 f169:=Tryz.func58.trans (congrArg some (by kernel_rfl))
 f170:=Tryz.func57.trans (congrArg some (by kernel_rfl))
 f206:=Tryz.func269.trans (congrArg some (by kernel_rfl))
 f212:=Tryz.func198.trans (congrArg some (by kernel_rfl))
 f240:=Tryz.func152.trans (congrArg some (by kernel_rfl))
 f241:=Tryz.func270.trans (congrArg some (by kernel_rfl))
 f263:=Tryz.func267.trans (congrArg some (by kernel_rfl))
 f264:=Tryz.func268.trans (congrArg some (by kernel_rfl))
 f276:=Tryz.func233.trans (congrArg some (by kernel_rfl))
 f277:=Tryz.func325.trans (congrArg some (by kernel_rfl))
 t0:=Tryz.underlying0
 a0:=Tryz.isAgg0
 z0:=Tryz.sizeOf0
 v0:=Tryz.zeroValue0
 t3:=Tryz.underlying3
 a3:=Tryz.isAgg3
 z3:=Tryz.sizeOf3
 v3:=Tryz.zeroValue3
 t4:=Tryz.underlying4
 a4:=Tryz.isAgg4
 z4:=Tryz.sizeOf4
 v4:=Tryz.zeroValue4
 t5:=Tryz.underlying5
 a5:=Tryz.isAgg5
 z5:=Tryz.sizeOf5
 v5:=Tryz.zeroValue5
 t9:=Tryz.underlying9
 a9:=Tryz.isAgg9
 z9:=Tryz.sizeOf9
 v9:=Tryz.zeroValue9
 t20:=Tryz.underlying20
 a20:=Tryz.isAgg20
 z20:=Tryz.sizeOf20
 v20:=Tryz.zeroValue20
 t37:=Tryz.underlying88
 a37:=Tryz.isAgg88
 z37:=Tryz.sizeOf88
 v37:=Tryz.zeroValue88
 t46:=Tryz.underlying213
 a46:=Tryz.isAgg213
 z46:=Tryz.sizeOf213
 v46:=Tryz.zeroValue213
 t51:=Tryz.underlying283
 a51:=Tryz.isAgg283
 z51:=Tryz.sizeOf283
 v51:=Tryz.zeroValue283
 t53:=Tryz.underlying37
 a53:=Tryz.isAgg37
 z53:=Tryz.sizeOf37
 v53:=Tryz.zeroValue37
 t70:=Tryz.underlying87
 a70:=Tryz.isAgg87
 z70:=Tryz.sizeOf87
 v70:=Tryz.zeroValue87
 t72:=Tryz.underlying90
 a72:=Tryz.isAgg90
 z72:=Tryz.sizeOf90
 v72:=Tryz.zeroValue90
 t75:=Tryz.underlying93
 a75:=Tryz.isAgg93
 z75:=Tryz.sizeOf93
 v75:=Tryz.zeroValue93
 t76:=Tryz.underlying94
 a76:=Tryz.isAgg94
 z76:=Tryz.sizeOf94
 v76:=Tryz.zeroValue94
 t109:=Tryz.underlying221
 a109:=Tryz.isAgg221
 z109:=Tryz.sizeOf221
 v109:=Tryz.zeroValue221
 t127:=Tryz.underlying194
 a127:=Tryz.isAgg194
 z127:=Tryz.sizeOf194
 v127:=Tryz.zeroValue194
 t146:=Tryz.underlying284
 a146:=Tryz.isAgg284
 z146:=Tryz.sizeOf284
 v146:=Tryz.zeroValue284
 t148:=Tryz.underlying286
 a148:=Tryz.isAgg286
 z148:=Tryz.sizeOf286
 v148:=Tryz.zeroValue286
 t164:=Tryz.underlying248
 a164:=Tryz.isAgg248
 z164:=Tryz.sizeOf248
 v164:=Tryz.zeroValue248 }
theorem Tryz.Builder_Extra_105:Builder.Extra Tryz.prog Tryz.lays105_ren:={
 sizeBuilder:=by kernel_rfl
 liesBuilder:=by kernel_rfl
 t5:=Tryz.underlying5
 a5:=Tryz.isAgg5
 z5:=Tryz.sizeOf5
 v5:=Tryz.zeroValue5
 infoByte:=by kernel_rfl
 cellsByte:=by kernel_rfl
 sizeByte:=by kernel_rfl
 neB5:=by decide }
open Go.RowKit Go.Lib in
theorem Tryz.strings_Repeat(s:ByteArray)(c:Nat)(w:World)(hc:c≤9223372036854775807)(hlen:s.size * c≤140737488355328) :
  Calls Tryz.prog 106 #[.string s,.int .i64 c] w fun e w'=>e=.returned (.string ⟨(Lib.repeatL s.data.toList c).toArray⟩)∧Below w.heap.size w w':=Any.strings_Repeat Tryz.lays105 Tryz.Builder_Extra_105 s c w hc hlen
def Tryz.lays260_ren:Go.Shelf.Ren:=⟨fun | 260=>354 | n=>n,fun | 9=>9 | 21=>21 | 3=>3 | 4=>4 | 5=>5 | 119=>326 | 0=>0 | 46=>213 | 139=>329 | 138=>328 | n=>n,fun | 3=>1 | 4=>2 | n=>n⟩
def Tryz.lays197_ren:Go.Shelf.Ren:=⟨fun | 197=>320 | 260=>354 | n=>n,fun | 9=>9 | 21=>21 | 3=>3 | 4=>4 | 5=>5 | 105=>330 | 119=>326 | 0=>0 | 46=>213 | 139=>329 | 138=>328 | n=>n,fun | 3=>1 | 4=>2 | n=>n⟩
def Tryz.lays274_ren:Go.Shelf.Ren:=⟨fun | 274=>368 | n=>n,fun | 21=>21 | 162=>357 | 160=>366 | 3=>3 | 4=>4 | 46=>213 | 0=>0 | 208=>374 | 51=>283 | 206=>372 | n=>n,fun | n=>n⟩
def Tryz.lays275_ren:Go.Shelf.Ren:=⟨fun | 275=>369 | n=>n,fun | 3=>3 | 21=>21 | 160=>366 | 0=>0 | 208=>374 | 206=>372 | 4=>4 | 51=>283 | n=>n,fun | n=>n⟩
def Tryz.lays313_ren:Go.Shelf.Ren:=⟨fun | 313=>359 | 274=>368 | 275=>369 | n=>n,fun | 3=>3 | 21=>21 | 162=>357 | 4=>4 | 160=>366 | 46=>213 | 0=>0 | 208=>374 | 51=>283 | 206=>372 | n=>n,fun | n=>n⟩
def Tryz.lays262_ren:Go.Shelf.Ren:=⟨fun | 262=>333 | 313=>359 | 274=>368 | 275=>369 | n=>n,fun | 3=>3 | 21=>21 | 162=>357 | 203=>355 | 4=>4 | 160=>366 | 46=>213 | 0=>0 | 208=>374 | 51=>283 | 206=>372 | n=>n,fun | 13=>6 | n=>n⟩
end Go.Proofs
