import Derived.Shelf.Strings.Builder1
import Derived.Shelf.Strings.Builder2
import Derived.Shelf.Strings.OnBuilder
import Derived.Shelf.Strings.Trim
import Derived.Shelf.Small.Utf8
import Derived.Shelf.Small.Bits
import Derived.Shelf.Small.Strs
import Derived.Shelf.Strings.BuilderF
import Derived.Shelf.Strconv.Atoi
import Derived.Shelf.Strconv.Itoa0
import Derived.Shelf.Strconv.Itoa1
import Derived.Shelf.LaysM
import Derived.Shelf.Strconv.Itoa2
import Derived.Shelf.Strconv.Itoa3
import Derived.Shelf.Strconv.AtoiErrFast
import Derived.Shelf.Strconv.ParseIntEmpty
import Derived.Shelf.Strconv.AtoiFail
import Derived.Shelf.Strconv.Clone
import Derived.Shelf.Strconv.SyntaxError
import Derived.Shelf.LaysC
import Derived.Shelf.Strconv.ToError
import Derived.Shelf.Strconv.Lower
import Derived.Shelf.Strconv.ParseUint10
import Derived.Shelf.Strconv.ParseUint10Empty
import Derived.Shelf.Strconv.ParseUint10Any
import Derived.Shelf.Strconv.ParseInt10
import Derived.Shelf.Strconv.AtoiLong
import Derived.Shelf.Strconv.AtoiInnerAll
import Derived.Shelf.Strconv.RangeError
import Derived.Shelf.Strconv.ToErrorRange
import Derived.Shelf.Strconv.AtoiAll
import Derived.Shelf.Strings.Search1
import Derived.Shelf.Strings.Search2
import Derived.Shelf.Strings.Search3
import Derived.Shelf.Strings.Count
import Derived.Shelf.Strings.Shaped
import Derived.Shelf.Sort.Plain
import Derived.Shelf.Strings.Prefix
import Derived.Shelf.Strings.Split
import Derived.Shelf.Strings.Replace
import Derived.Shelf.Strings.Runes
import Derived.Shelf.Strings.AsciiSet
import Derived.Shelf.Bits.Mul64
import Derived.Shelf.Strings.Repeat
import Derived.Shelf.Unicode.DecodeSlow
import Derived.Shelf.Slices.In.SortNone
import Derived.Test.YthhdojhbohfmnaaGreatDoorProg
namespace Go.Proofs
open Go.Shelf
def Tryz.lays156_ren:Go.Shelf.Ren:=⟨fun | 156=>159 | 165=>209 | 166=>210 | 169=>211 | 240=>277 | 241=>278 | 276=>333 | 277=>334 | n=>n,fun | 31=>65 | 9=>9 | 3=>3 | 4=>4 | 0=>0 | 20=>20 | 72=>261 | 76=>265 | 70=>258 | 37=>259 | 75=>264 | 127=>311 | 164=>352 | 5=>5 | 80=>26 | n=>n,fun | n=>n⟩
def Tryz.lays161_ren:Go.Shelf.Ren:=⟨fun | 161=>221 | 231=>285 | 227=>286 | 233=>287 | 235=>288 | 228=>336 | 197=>332 | 151=>337 | 260=>364 | 152=>365 | 137=>223 | 119=>379 | 224=>377 | 225=>376 | 217=>289 | 266=>338 | n=>n,fun | 9=>9 | 4=>4 | 3=>3 | 5=>5 | 117=>320 | 116=>319 | 0=>0 | 124=>323 | 105=>350 | 21=>21 | 119=>388 | 46=>252 | 139=>391 | 138=>390 | n=>n,fun | 3=>4 | 4=>5 | n=>n⟩
theorem Tryz.lays161:Go.Proofs.Lays.n161 Tryz.prog Tryz.lays161_ren:={
 mixed:=by kernel_rfl
 f119:=Tryz.func379.trans (congrArg some (by kernel_rfl))
 f137:=Tryz.func223.trans (congrArg some (by kernel_rfl))
 f151:=Tryz.func337.trans (congrArg some (by kernel_rfl))
 f152:=Tryz.func365.trans (congrArg some (by kernel_rfl))
 f161:=Tryz.func221.trans (congrArg some (by kernel_rfl))
 f197:=Tryz.func332.trans (congrArg some (by kernel_rfl))
 f217:=Tryz.func289.trans (congrArg some (by kernel_rfl))
 f224:=Tryz.func377.trans (congrArg some (by kernel_rfl))
 f225:=Tryz.func376.trans (congrArg some (by kernel_rfl))
 f227:=Tryz.func286.trans (congrArg some (by kernel_rfl))
 f228:=Tryz.func336.trans (congrArg some (by kernel_rfl))
 f231:=Tryz.func285.trans (congrArg some (by kernel_rfl))
 f233:=Tryz.func287.trans (congrArg some (by kernel_rfl))
 f235:=Tryz.func288.trans (congrArg some (by kernel_rfl))
 f260:=Tryz.func364.trans (congrArg some (by kernel_rfl))
 f266:=Tryz.func338.trans (congrArg some (by kernel_rfl))
 t0:=Tryz.underlying0
 a0:=Tryz.isAgg0
 z0:=Tryz.sizeOf0
 v0:=Tryz.zeroValue0
 t3:=Tryz.underlying3
 a3:=Tryz.isAgg3
 z3:=Tryz.sizeOf3
 v3:=Tryz.zeroValue3
 t4:=Tryz.underlying4
 a4:=Tryz.isAgg4
 z4:=Tryz.sizeOf4
 v4:=Tryz.zeroValue4
 t5:=Tryz.underlying5
 a5:=Tryz.isAgg5
 z5:=Tryz.sizeOf5
 v5:=Tryz.zeroValue5
 t9:=Tryz.underlying9
 a9:=Tryz.isAgg9
 z9:=Tryz.sizeOf9
 v9:=Tryz.zeroValue9
 t21:=Tryz.underlying21
 a21:=Tryz.isAgg21
 z21:=Tryz.sizeOf21
 v21:=Tryz.zeroValue21
 t46:=Tryz.underlying252
 a46:=Tryz.isAgg252
 z46:=Tryz.sizeOf252
 v46:=Tryz.zeroValue252
 t105:=Tryz.underlying350
 a105:=Tryz.isAgg350
 z105:=Tryz.sizeOf350
 v105:=Tryz.zeroValue350
 t116:=Tryz.underlying319
 a116:=Tryz.isAgg319
 z116:=Tryz.sizeOf319
 t117:=Tryz.underlying320
 a117:=Tryz.isAgg320
 z117:=Tryz.sizeOf320
 v117:=Tryz.zeroValue320
 t119:=Tryz.underlying388
 a119:=Tryz.isAgg388
 z119:=Tryz.sizeOf388
 t124:=Tryz.underlying323
 a124:=Tryz.isAgg323
 z124:=Tryz.sizeOf323
 v124:=Tryz.zeroValue323
 t138:=Tryz.underlying390
 a138:=Tryz.isAgg390
 z138:=Tryz.sizeOf390
 v138:=Tryz.zeroValue390
 t139:=Tryz.underlying391
 a139:=Tryz.isAgg391
 z139:=Tryz.sizeOf391
 v139:=Tryz.zeroValue391
 g3:=by kernel_rfl
 g4:=by kernel_rfl }
def Tryz.lays160_ren:Go.Shelf.Ren:=⟨fun | 160=>236 | 232=>298 | 231=>285 | 227=>286 | 234=>299 | 233=>287 | 236=>300 | 235=>288 | 228=>336 | 271=>345 | 151=>337 | 197=>332 | 120=>369 | 152=>365 | 260=>364 | 137=>223 | 119=>379 | 224=>377 | 225=>376 | 217=>289 | 266=>338 | n=>n,fun | 9=>9 | 4=>4 | 3=>3 | 5=>5 | 117=>320 | 116=>319 | 0=>0 | 124=>323 | 21=>21 | 105=>350 | 46=>252 | 119=>388 | 139=>391 | 138=>390 | n=>n,fun | 3=>4 | 4=>5 | n=>n⟩
theorem Tryz.lays160:Go.Proofs.Lays.n160 Tryz.prog Tryz.lays160_ren:={
 mixed:=by kernel_rfl
 f119:=Tryz.func379.trans (congrArg some (by kernel_rfl))
 f120:=Tryz.func369.trans (congrArg some (by kernel_rfl))
 f137:=Tryz.func223.trans (congrArg some (by kernel_rfl))
 f151:=Tryz.func337.trans (congrArg some (by kernel_rfl))
 f152:=Tryz.func365.trans (congrArg some (by kernel_rfl))
 f160:=Tryz.func236.trans (congrArg some (by kernel_rfl))
 f197:=Tryz.func332.trans (congrArg some (by kernel_rfl))
 f217:=Tryz.func289.trans (congrArg some (by kernel_rfl))
 f224:=Tryz.func377.trans (congrArg some (by kernel_rfl))
 f225:=Tryz.func376.trans (congrArg some (by kernel_rfl))
 f227:=Tryz.func286.trans (congrArg some (by kernel_rfl))
 f228:=Tryz.func336.trans (congrArg some (by kernel_rfl))
 f231:=Tryz.func285.trans (congrArg some (by kernel_rfl))
 f232:=Tryz.func298.trans (congrArg some (by kernel_rfl))
 f233:=Tryz.func287.trans (congrArg some (by kernel_rfl))
 f234:=Tryz.func299.trans (congrArg some (by kernel_rfl))
 f235:=Tryz.func288.trans (congrArg some (by kernel_rfl))
 f236:=Tryz.func300.trans (congrArg some (by kernel_rfl))
 f260:=Tryz.func364.trans (congrArg some (by kernel_rfl))
 f266:=Tryz.func338.trans (congrArg some (by kernel_rfl))
 f271:=Tryz.func345.trans (congrArg some (by kernel_rfl))
 t0:=Tryz.underlying0
 a0:=Tryz.isAgg0
 z0:=Tryz.sizeOf0
 v0:=Tryz.zeroValue0
 t3:=Tryz.underlying3
 a3:=Tryz.isAgg3
 z3:=Tryz.sizeOf3
 v3:=Tryz.zeroValue3
 t4:=Tryz.underlying4
 a4:=Tryz.isAgg4
 z4:=Tryz.sizeOf4
 v4:=Tryz.zeroValue4
 t5:=Tryz.underlying5
 a5:=Tryz.isAgg5
 z5:=Tryz.sizeOf5
 v5:=Tryz.zeroValue5
 t9:=Tryz.underlying9
 a9:=Tryz.isAgg9
 z9:=Tryz.sizeOf9
 v9:=Tryz.zeroValue9
 t21:=Tryz.underlying21
 a21:=Tryz.isAgg21
 z21:=Tryz.sizeOf21
 v21:=Tryz.zeroValue21
 t46:=Tryz.underlying252
 a46:=Tryz.isAgg252
 z46:=Tryz.sizeOf252
 v46:=Tryz.zeroValue252
 t105:=Tryz.underlying350
 a105:=Tryz.isAgg350
 z105:=Tryz.sizeOf350
 v105:=Tryz.zeroValue350
 t116:=Tryz.underlying319
 a116:=Tryz.isAgg319
 z116:=Tryz.sizeOf319
 t117:=Tryz.underlying320
 a117:=Tryz.isAgg320
 z117:=Tryz.sizeOf320
 v117:=Tryz.zeroValue320
 t119:=Tryz.underlying388
 a119:=Tryz.isAgg388
 z119:=Tryz.sizeOf388
 t124:=Tryz.underlying323
 a124:=Tryz.isAgg323
 z124:=Tryz.sizeOf323
 v124:=Tryz.zeroValue323
 t138:=Tryz.underlying390
 a138:=Tryz.isAgg390
 z138:=Tryz.sizeOf390
 v138:=Tryz.zeroValue390
 t139:=Tryz.underlying391
 a139:=Tryz.isAgg391
 z139:=Tryz.sizeOf391
 v139:=Tryz.zeroValue391
 g3:=by kernel_rfl
 g4:=by kernel_rfl }
def Tryz.lays137_ren:Go.Shelf.Ren:=⟨fun | 137=>223 | 217=>289 | 266=>338 | n=>n,fun | 9=>9 | 5=>5 | 3=>3 | n=>n,fun | n=>n⟩
def Tryz.lays172_ren:Go.Shelf.Ren:=⟨fun | 172=>225 | 244=>291 | 245=>292 | 247=>339 | 279=>340 | 280=>341 | 281=>342 | 282=>343 | 287=>366 | 316=>367 | 171=>207 | 205=>368 | 321=>380 | 322=>381 | 243=>275 | 246=>329 | 283=>357 | 284=>358 | 285=>359 | 286=>360 | 129=>257 | 317=>372 | 318=>373 | 319=>374 | 320=>375 | 337=>382 | 338=>383 | n=>n,fun | 9=>9 | 3=>3 | 75=>264 | 76=>265 | 4=>4 | 5=>5 | 167=>356 | 37=>259 | 0=>0 | 85=>357 | 2=>2 | 168=>359 | 53=>298 | 175=>377 | 46=>252 | 210=>381 | 127=>311 | 145=>396 | 143=>394 | 21=>21 | 171=>371 | 173=>373 | 212=>386 | 51=>296 | 20=>20 | 213=>387 | 232=>398 | 233=>399 | 80=>26 | n=>n,fun | 15=>1 | 16=>2 | 17=>3 | 18=>6 | 19=>7 | n=>n⟩
theorem Tryz.lays172:Go.Proofs.Lays.n172 Tryz.prog Tryz.lays172_ren:={
 mixed:=by kernel_rfl
 f129:=Tryz.func257.trans (congrArg some (by kernel_rfl))
 f171:=Tryz.func207.trans (congrArg some (by kernel_rfl))
 f172:=Tryz.func225.trans (congrArg some (by kernel_rfl))
 f205:=Tryz.func368.trans (congrArg some (by kernel_rfl))
 f243:=Tryz.func275.trans (congrArg some (by kernel_rfl))
 f244:=Tryz.func291.trans (congrArg some (by kernel_rfl))
 f245:=Tryz.func292.trans (congrArg some (by kernel_rfl))
 f246:=Tryz.func329.trans (congrArg some (by kernel_rfl))
 f247:=Tryz.func339.trans (congrArg some (by kernel_rfl))
 f279:=Tryz.func340.trans (congrArg some (by kernel_rfl))
 f280:=Tryz.func341.trans (congrArg some (by kernel_rfl))
 f281:=Tryz.func342.trans (congrArg some (by kernel_rfl))
 f282:=Tryz.func343.trans (congrArg some (by kernel_rfl))
 f283:=Tryz.func357.trans (congrArg some (by kernel_rfl))
 f284:=Tryz.func358.trans (congrArg some (by kernel_rfl))
 f285:=Tryz.func359.trans (congrArg some (by kernel_rfl))
 f286:=Tryz.func360.trans (congrArg some (by kernel_rfl))
 f287:=Tryz.func366.trans (congrArg some (by kernel_rfl))
 f316:=Tryz.func367.trans (congrArg some (by kernel_rfl))
 f317:=Tryz.func372.trans (congrArg some (by kernel_rfl))
 f318:=Tryz.func373.trans (congrArg some (by kernel_rfl))
 f319:=Tryz.func374.trans (congrArg some (by kernel_rfl))
 f320:=Tryz.func375.trans (congrArg some (by kernel_rfl))
 f321:=Tryz.func380.trans (congrArg some (by kernel_rfl))
 f322:=Tryz.func381.trans (congrArg some (by kernel_rfl))
 f337:=Tryz.func382.trans (congrArg some (by kernel_rfl))
 f338:=Tryz.func383.trans (congrArg some (by kernel_rfl))
 t0:=Tryz.underlying0
 a0:=Tryz.isAgg0
 z0:=Tryz.sizeOf0
 v0:=Tryz.zeroValue0
 t2:=Tryz.underlying2
 a2:=Tryz.isAgg2
 z2:=Tryz.sizeOf2
 v2:=Tryz.zeroValue2
 t3:=Tryz.underlying3
 a3:=Tryz.isAgg3
 z3:=Tryz.sizeOf3
 v3:=Tryz.zeroValue3
 t4:=Tryz.underlying4
 a4:=Tryz.isAgg4
 z4:=Tryz.sizeOf4
 v4:=Tryz.zeroValue4
 t5:=Tryz.underlying5
 a5:=Tryz.isAgg5
 z5:=Tryz.sizeOf5
 v5:=Tryz.zeroValue5
 t9:=Tryz.underlying9
 a9:=Tryz.isAgg9
 z9:=Tryz.sizeOf9
 v9:=Tryz.zeroValue9
 t20:=Tryz.underlying20
 a20:=Tryz.isAgg20
 z20:=Tryz.sizeOf20
 v20:=Tryz.zeroValue20
 t21:=Tryz.underlying21
 a21:=Tryz.isAgg21
 z21:=Tryz.sizeOf21
 v21:=Tryz.zeroValue21
 t37:=Tryz.underlying259
 a37:=Tryz.isAgg259
 z37:=Tryz.sizeOf259
 v37:=Tryz.zeroValue259
 t46:=Tryz.underlying252
 a46:=Tryz.isAgg252
 z46:=Tryz.sizeOf252
 v46:=Tryz.zeroValue252
 t51:=Tryz.underlying296
 a51:=Tryz.isAgg296
 z51:=Tryz.sizeOf296
 v51:=Tryz.zeroValue296
 t53:=Tryz.underlying298
 a53:=Tryz.isAgg298
 z53:=Tryz.sizeOf298
 v53:=Tryz.zeroValue298
 t75:=Tryz.underlying264
 a75:=Tryz.isAgg264
 z75:=Tryz.sizeOf264
 v75:=Tryz.zeroValue264
 t76:=Tryz.underlying265
 a76:=Tryz.isAgg265
 z76:=Tryz.sizeOf265
 v76:=Tryz.zeroValue265
 t85:=Tryz.underlying357
 a85:=Tryz.isAgg357
 z85:=Tryz.sizeOf357
 v85:=Tryz.zeroValue357
 t127:=Tryz.underlying311
 a127:=Tryz.isAgg311
 z127:=Tryz.sizeOf311
 v127:=Tryz.zeroValue311
 t143:=Tryz.underlying394
 a143:=Tryz.isAgg394
 z143:=Tryz.sizeOf394
 v143:=Tryz.zeroValue394
 t145:=Tryz.underlying396
 a145:=Tryz.isAgg396
 z145:=Tryz.sizeOf396
 v145:=Tryz.zeroValue396
 t167:=Tryz.underlying356
 a167:=Tryz.isAgg356
 z167:=Tryz.sizeOf356
 v167:=Tryz.zeroValue356
 t168:=Tryz.underlying359
 a168:=Tryz.isAgg359
 z168:=Tryz.sizeOf359
 v168:=Tryz.zeroValue359
 t171:=Tryz.underlying371
 a171:=Tryz.isAgg371
 z171:=Tryz.sizeOf371
 v171:=Tryz.zeroValue371
 t173:=Tryz.underlying373
 a173:=Tryz.isAgg373
 z173:=Tryz.sizeOf373
 v173:=Tryz.zeroValue373
 t175:=Tryz.underlying377
 a175:=Tryz.isAgg377
 z175:=Tryz.sizeOf377
 v175:=Tryz.zeroValue377
 t210:=Tryz.underlying381
 a210:=Tryz.isAgg381
 z210:=Tryz.sizeOf381
 v210:=Tryz.zeroValue381
 t212:=Tryz.underlying386
 a212:=Tryz.isAgg386
 z212:=Tryz.sizeOf386
 v212:=Tryz.zeroValue386
 t213:=Tryz.underlying387
 a213:=Tryz.isAgg387
 z213:=Tryz.sizeOf387
 t232:=Tryz.underlying398
 a232:=Tryz.isAgg398
 z232:=Tryz.sizeOf398
 v232:=Tryz.zeroValue398
 t233:=Tryz.underlying399
 a233:=Tryz.isAgg399
 z233:=Tryz.sizeOf399
 v233:=Tryz.zeroValue399
 g15:=by kernel_rfl
 g16:=by kernel_rfl
 g17:=by kernel_rfl
 g18:=by kernel_rfl
 g19:=by kernel_rfl }
open Go.RowKit in
theorem Tryz.strconv_Atoi(s:ByteArray)(n:Int)(hl:s.size≤18)(h:Lib.atoi s.data.toList=some n)(w:World) :
  Calls Tryz.prog 225 #[.string s] w fun e w'=>e=.returned (.tuple #[.int .i64 n,.nilIface])∧∃ t,w'=Lib.bytesWorld w 5 t:=Any.strconv_Atoi Tryz.lays172 s n hl h w
def Tryz.laysM171_ren:Go.Shelf.Ren:=⟨fun | 171=>207 | 243=>275 | 246=>329 | 283=>357 | 284=>358 | 285=>359 | 286=>360 | 129=>257 | 317=>372 | 318=>373 | 319=>374 | 320=>375 | 337=>382 | 338=>383 | n=>n,fun | 3=>3 | 9=>9 | 2=>2 | 4=>4 | 171=>371 | 0=>0 | 53=>298 | 37=>259 | 5=>5 | 173=>373 | 212=>386 | 51=>296 | 20=>20 | 213=>387 | 46=>252 | 232=>398 | 233=>399 | n=>n,fun | 17=>3 | 18=>6 | 19=>7 | n=>n⟩
def Tryz.lays219_ren:Go.Shelf.Ren:=⟨fun | 219=>363 | 217=>289 | 225=>376 | 224=>377 | 267=>378 | 266=>338 | 314=>384 | n=>n,fun | 9=>9 | 3=>3 | 4=>4 | 5=>5 | 46=>252 | 146=>326 | 51=>296 | n=>n,fun | 1=>0 | n=>n⟩
def Tryz.lays143_ren:Go.Shelf.Ren:=⟨fun | 143=>331 | 219=>363 | 217=>289 | 225=>376 | 224=>377 | 267=>378 | 266=>338 | 314=>384 | n=>n,fun | 9=>9 | 3=>3 | 4=>4 | 5=>5 | 46=>252 | 146=>326 | 51=>296 | n=>n,fun | 1=>0 | n=>n⟩
theorem Tryz.lays143:Go.Proofs.Lays.n143 Tryz.prog Tryz.lays143_ren:={
 mixed:=by kernel_rfl
 f143:=Tryz.func331.trans (congrArg some (by kernel_rfl))
 f217:=Tryz.func289.trans (congrArg some (by kernel_rfl))
 f219:=Tryz.func363.trans (congrArg some (by kernel_rfl))
 f224:=Tryz.func377.trans (congrArg some (by kernel_rfl))
 f225:=Tryz.func376.trans (congrArg some (by kernel_rfl))
 f266:=Tryz.func338.trans (congrArg some (by kernel_rfl))
 f267:=Tryz.func378.trans (congrArg some (by kernel_rfl))
 f314:=Tryz.func384.trans (congrArg some (by kernel_rfl))
 t3:=Tryz.underlying3
 a3:=Tryz.isAgg3
 z3:=Tryz.sizeOf3
 v3:=Tryz.zeroValue3
 t4:=Tryz.underlying4
 a4:=Tryz.isAgg4
 z4:=Tryz.sizeOf4
 v4:=Tryz.zeroValue4
 t5:=Tryz.underlying5
 a5:=Tryz.isAgg5
 z5:=Tryz.sizeOf5
 v5:=Tryz.zeroValue5
 t9:=Tryz.underlying9
 a9:=Tryz.isAgg9
 z9:=Tryz.sizeOf9
 v9:=Tryz.zeroValue9
 t46:=Tryz.underlying252
 a46:=Tryz.isAgg252
 z46:=Tryz.sizeOf252
 v46:=Tryz.zeroValue252
 t51:=Tryz.underlying296
 a51:=Tryz.isAgg296
 z51:=Tryz.sizeOf296
 v51:=Tryz.zeroValue296
 t146:=Tryz.underlying326
 a146:=Tryz.isAgg326
 z146:=Tryz.sizeOf326
 v146:=Tryz.zeroValue326
 g1:=by kernel_rfl }
open Go.RowKit Go.Lib in
theorem Tryz.strings_Index_one(s:ByteArray)(c:UInt8)(w:World) :
  Calls Tryz.prog 331 #[.string s,.string ⟨#[c]⟩] w fun e w'=>e=.returned (.int .i64 (Lib.indexByte s.data.toList c))∧w'=w:=Any.strings_Index_one Tryz.lays143 s c w
def Tryz.lays138_ren:Go.Shelf.Ren:=⟨fun | 138=>330 | 195=>361 | 218=>362 | 143=>331 | 219=>363 | 217=>289 | 225=>376 | 224=>377 | 267=>378 | 266=>338 | 314=>384 | n=>n,fun | 9=>9 | 3=>3 | 4=>4 | 5=>5 | 0=>0 | 46=>252 | 146=>326 | 51=>296 | n=>n,fun | 1=>0 | n=>n⟩
theorem Tryz.lays138:Go.Proofs.Lays.n138 Tryz.prog Tryz.lays138_ren:={
 mixed:=by kernel_rfl
 f138:=Tryz.func330.trans (congrArg some (by kernel_rfl))
 f143:=Tryz.func331.trans (congrArg some (by kernel_rfl))
 f195:=Tryz.func361.trans (congrArg some (by kernel_rfl))
 f217:=Tryz.func289.trans (congrArg some (by kernel_rfl))
 f218:=Tryz.func362.trans (congrArg some (by kernel_rfl))
 f219:=Tryz.func363.trans (congrArg some (by kernel_rfl))
 f224:=Tryz.func377.trans (congrArg some (by kernel_rfl))
 f225:=Tryz.func376.trans (congrArg some (by kernel_rfl))
 f266:=Tryz.func338.trans (congrArg some (by kernel_rfl))
 f267:=Tryz.func378.trans (congrArg some (by kernel_rfl))
 f314:=Tryz.func384.trans (congrArg some (by kernel_rfl))
 t0:=Tryz.underlying0
 a0:=Tryz.isAgg0
 z0:=Tryz.sizeOf0
 v0:=Tryz.zeroValue0
 t3:=Tryz.underlying3
 a3:=Tryz.isAgg3
 z3:=Tryz.sizeOf3
 v3:=Tryz.zeroValue3
 t4:=Tryz.underlying4
 a4:=Tryz.isAgg4
 z4:=Tryz.sizeOf4
 v4:=Tryz.zeroValue4
 t5:=Tryz.underlying5
 a5:=Tryz.isAgg5
 z5:=Tryz.sizeOf5
 v5:=Tryz.zeroValue5
 t9:=Tryz.underlying9
 a9:=Tryz.isAgg9
 z9:=Tryz.sizeOf9
 v9:=Tryz.zeroValue9
 t46:=Tryz.underlying252
 a46:=Tryz.isAgg252
 z46:=Tryz.sizeOf252
 v46:=Tryz.zeroValue252
 t51:=Tryz.underlying296
 a51:=Tryz.isAgg296
 z51:=Tryz.sizeOf296
 v51:=Tryz.zeroValue296
 t146:=Tryz.underlying326
 a146:=Tryz.isAgg326
 z146:=Tryz.sizeOf326
 v146:=Tryz.zeroValue326
 g1:=by kernel_rfl }
open Go.RowKit Go.Lib in
theorem Tryz.strings_Count_one(s:ByteArray)(c:UInt8)(w:World) :
  Calls Tryz.prog 330 #[.string s,.string ⟨#[c]⟩] w fun e w'=>e=.returned (.int .i64 (Lib.countByte s.data.toList c))∧w'=w:=Any.strings_Count_one Tryz.lays138 s c w
def Tryz.lays99_ren:Go.Shelf.Ren:=⟨fun | 99=>167 | 206=>222 | n=>n,fun | 9=>9 | 4=>4 | 3=>3 | n=>n,fun | n=>n⟩
theorem Tryz.lays99:Go.Proofs.Lays.n99 Tryz.prog Tryz.lays99_ren:={
 mixed:=by kernel_rfl
 f99:=Tryz.func167.trans (congrArg some (by kernel_rfl))
 f206:=Tryz.func222.trans (congrArg some (by kernel_rfl))
 t3:=Tryz.underlying3
 a3:=Tryz.isAgg3
 z3:=Tryz.sizeOf3
 v3:=Tryz.zeroValue3
 t4:=Tryz.underlying4
 a4:=Tryz.isAgg4
 z4:=Tryz.sizeOf4
 v4:=Tryz.zeroValue4
 t9:=Tryz.underlying9
 a9:=Tryz.isAgg9
 z9:=Tryz.sizeOf9
 v9:=Tryz.zeroValue9 }
open Go.RowKit Go.Lib in
theorem Tryz.strings_HasPrefix(s p:ByteArray)(w:World) :
  Calls Tryz.prog 167 #[.string s,.string p] w fun e w'=>e=.returned (.bool (Lib.hasPrefix s.data.toList p.data.toList))∧w'=w:=Any.strings_HasPrefix Tryz.lays99 s p w
def Tryz.lays101_ren:Go.Shelf.Ren:=⟨fun | 101=>224 | 208=>290 | 206=>222 | n=>n,fun | 9=>9 | 4=>4 | 3=>3 | n=>n,fun | n=>n⟩
theorem Tryz.lays101:Go.Proofs.Lays.n101 Tryz.prog Tryz.lays101_ren:={
 mixed:=by kernel_rfl
 f101:=Tryz.func224.trans (congrArg some (by kernel_rfl))
 f206:=Tryz.func222.trans (congrArg some (by kernel_rfl))
 f208:=Tryz.func290.trans (congrArg some (by kernel_rfl))
 t3:=Tryz.underlying3
 a3:=Tryz.isAgg3
 z3:=Tryz.sizeOf3
 v3:=Tryz.zeroValue3
 t4:=Tryz.underlying4
 a4:=Tryz.isAgg4
 z4:=Tryz.sizeOf4
 v4:=Tryz.zeroValue4
 t9:=Tryz.underlying9
 a9:=Tryz.isAgg9
 z9:=Tryz.sizeOf9
 v9:=Tryz.zeroValue9 }
open Go.RowKit Go.Lib in
theorem Tryz.strings_TrimPrefix(s p:ByteArray)(w:World) :
  Calls Tryz.prog 224 #[.string s,.string p] w fun e w'=>e=.returned (.string ⟨(Lib.trimPrefix s.data.toList p.data.toList).toArray⟩)∧w'=w:=Any.strings_TrimPrefix Tryz.lays101 s p w
def Tryz.lays221_ren:Go.Shelf.Ren:=⟨fun | 221=>293 | 268=>344 | 138=>330 | 143=>331 | 195=>361 | 197=>332 | 218=>362 | 219=>363 | 260=>364 | 217=>289 | 225=>376 | 224=>377 | 267=>378 | 266=>338 | 314=>384 | n=>n,fun | 9=>9 | 3=>3 | 31=>65 | 4=>4 | 0=>0 | 105=>350 | 21=>21 | 5=>5 | 46=>252 | 119=>388 | 139=>391 | 138=>390 | 146=>326 | 51=>296 | n=>n,fun | 1=>0 | 3=>4 | 4=>5 | n=>n⟩
theorem Tryz.lays221:Go.Proofs.Lays.n221 Tryz.prog Tryz.lays221_ren:={
 mixed:=by kernel_rfl
 f138:=Tryz.func330.trans (congrArg some (by kernel_rfl))
 f143:=Tryz.func331.trans (congrArg some (by kernel_rfl))
 f195:=Tryz.func361.trans (congrArg some (by kernel_rfl))
 f197:=Tryz.func332.trans (congrArg some (by kernel_rfl))
 f217:=Tryz.func289.trans (congrArg some (by kernel_rfl))
 f218:=Tryz.func362.trans (congrArg some (by kernel_rfl))
 f219:=Tryz.func363.trans (congrArg some (by kernel_rfl))
 f221:=Tryz.func293.trans (congrArg some (by kernel_rfl))
 f224:=Tryz.func377.trans (congrArg some (by kernel_rfl))
 f225:=Tryz.func376.trans (congrArg some (by kernel_rfl))
 f260:=Tryz.func364.trans (congrArg some (by kernel_rfl))
 f266:=Tryz.func338.trans (congrArg some (by kernel_rfl))
 f267:=Tryz.func378.trans (congrArg some (by kernel_rfl))
 f268:=Tryz.func344.trans (congrArg some (by kernel_rfl))
 f314:=Tryz.func384.trans (congrArg some (by kernel_rfl))
 t0:=Tryz.underlying0
 a0:=Tryz.isAgg0
 z0:=Tryz.sizeOf0
 v0:=Tryz.zeroValue0
 t3:=Tryz.underlying3
 a3:=Tryz.isAgg3
 z3:=Tryz.sizeOf3
 v3:=Tryz.zeroValue3
 t4:=Tryz.underlying4
 a4:=Tryz.isAgg4
 z4:=Tryz.sizeOf4
 v4:=Tryz.zeroValue4
 t5:=Tryz.underlying5
 a5:=Tryz.isAgg5
 z5:=Tryz.sizeOf5
 v5:=Tryz.zeroValue5
 t9:=Tryz.underlying9
 a9:=Tryz.isAgg9
 z9:=Tryz.sizeOf9
 v9:=Tryz.zeroValue9
 t21:=Tryz.underlying21
 a21:=Tryz.isAgg21
 z21:=Tryz.sizeOf21
 v21:=Tryz.zeroValue21
 t31:=Tryz.underlying65
 a31:=Tryz.isAgg65
 z31:=Tryz.sizeOf65
 v31:=Tryz.zeroValue65
 t46:=Tryz.underlying252
 a46:=Tryz.isAgg252
 z46:=Tryz.sizeOf252
 v46:=Tryz.zeroValue252
 t51:=Tryz.underlying296
 a51:=Tryz.isAgg296
 z51:=Tryz.sizeOf296
 v51:=Tryz.zeroValue296
 t105:=Tryz.underlying350
 a105:=Tryz.isAgg350
 z105:=Tryz.sizeOf350
 v105:=Tryz.zeroValue350
 t119:=Tryz.underlying388
 a119:=Tryz.isAgg388
 z119:=Tryz.sizeOf388
 t138:=Tryz.underlying390
 a138:=Tryz.isAgg390
 z138:=Tryz.sizeOf390
 v138:=Tryz.zeroValue390
 t139:=Tryz.underlying391
 a139:=Tryz.isAgg391
 z139:=Tryz.sizeOf391
 v139:=Tryz.zeroValue391
 t146:=Tryz.underlying326
 a146:=Tryz.isAgg326
 z146:=Tryz.sizeOf326
 v146:=Tryz.zeroValue326
 g1:=by kernel_rfl
 g3:=by kernel_rfl
 g4:=by kernel_rfl }
def Tryz.lays155_ren:Go.Shelf.Ren:=⟨fun | 155=>208 | 154=>276 | 138=>330 | 165=>209 | 143=>331 | 166=>210 | 197=>332 | 169=>211 | 195=>361 | 218=>362 | 240=>277 | 241=>278 | 219=>363 | 260=>364 | 276=>333 | 277=>334 | 217=>289 | 225=>376 | 224=>377 | 267=>378 | 266=>338 | 314=>384 | n=>n,fun | 9=>9 | 3=>3 | 4=>4 | 72=>261 | 0=>0 | 76=>265 | 105=>350 | 21=>21 | 5=>5 | 70=>258 | 20=>20 | 37=>259 | 75=>264 | 127=>311 | 164=>352 | 46=>252 | 119=>388 | 139=>391 | 138=>390 | 146=>326 | 51=>296 | 80=>26 | n=>n,fun | 1=>0 | 3=>4 | 4=>5 | n=>n⟩
def Tryz.lays105_ren:Go.Shelf.Ren:=⟨fun | 105=>176 | 212=>228 | 99=>167 | 165=>209 | 166=>210 | 170=>229 | 169=>211 | 263=>294 | 264=>295 | 206=>222 | 240=>277 | 241=>278 | 276=>333 | 277=>334 | n=>n,fun | 9=>9 | 3=>3 | 4=>4 | 20=>20 | 0=>0 | 46=>252 | 109=>273 | 5=>5 | 72=>261 | 76=>265 | 51=>296 | 146=>326 | 53=>298 | 148=>328 | 70=>258 | 37=>259 | 75=>264 | 127=>311 | 164=>352 | 80=>26 | n=>n,fun | n=>n⟩
end Go.Proofs
