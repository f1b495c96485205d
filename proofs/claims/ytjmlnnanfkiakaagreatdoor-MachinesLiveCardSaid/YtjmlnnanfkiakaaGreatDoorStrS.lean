import Derived.Test.YtjmlnnanfkiakaaGreatDoorGt
import Derived.Test.YtjmlnnanfkiakaaGreatDoorMStr3
import Derived.Test.YtjmlnnanfkiakaaGreatDoorLays
import Derived.Shelf.Strings.SlTrimAscii
import Derived.Test.YtjmlnnanfkiakaaGreatDoorGk53
import Derived.Test.YtjmlnnanfkiakaaGreatDoorItLays
import Derived.WalkKit
import Derived.ProofKit
import Derived.Shelf.Sort.Plain
import Derived.Shelf.Slices.In.SortNone
import Derived.Test.YtjmlnnanfkiakaaGreatDoorProg
set_option linter.all false
set_option maxRecDepth 100000
set_option linter.unusedVariables false
namespace Go.Proofs.YtjmlnnanfkiakaaGreatDoor
open Go.Gk Go.Shelf
theorem Lek(s cs:List UInt8)(hs:s.length≤1099511627776)(hc:cs.length<4294967281)(ha:∀ b∈cs,b.toNat<128):Pure Tryz.prog 153 [S s,S cs] (S (Lib.trimS s cs)):=
 Pure.of_below rfl rfl fun w=>Any.strings_Trim_laid Tryz.lays160 (by kernel_rfl) ⟨s.toArray⟩ ⟨cs.toArray⟩ w (by simp;omega) (by simpa using hc) (fun j b hb=>ha b (List.mem_of_getElem? hb))
theorem Lel{s cs r:Str}(h:Kqr s cs=some r):Pure Tryz.prog 153 [S s,S cs] (S r):=by
 obtain⟨h1,h⟩:=Kcq h
 simp only[Bool.and_eq_true] at h1
 cases h;exact Lek s cs (Nat.le_of_ble_eq_true h1.1) (nblt.1 h1.2.1) fun b hb=>nblt.1 (List.all_eq_true.1 h1.2.2 b hb)
theorem Lem{a b:Str}{r:Int}(h:Kqy a b=some r):Pure Tryz.prog 147 [S a,S b] (I r):=by
 cases h
 exact Pure.of_same rfl rfl fun w=>Tryz.strings_Compare ⟨a.toArray⟩ ⟨b.toArray⟩ w
theorem Len(s:List UInt8)(n:Nat)(h1:n≤9223372036854775807)(h2:s.length * n≤140737488355328):Pure Tryz.prog 100 [S s,I n] (S (Lib.repeatL s n)):=
 Pure.of_below rfl rfl fun w=>Tryz.strings_Repeat ⟨s.toArray⟩ n w h1 (by simpa using h2)
theorem Leo{s:Str}{n:Int}{r:Str}(h:Kqt s n=some r):Pure Tryz.prog 100 [S s,I n] (S r):=by
 unfold Kqt at h
 split at h
 ·obtain⟨h1,h⟩:=Kcq h
  simp only[Bool.and_eq_true] at h1
  cases h;exact Len s _ (Nat.le_of_ble_eq_true h1.1) (Nat.le_of_ble_eq_true h1.2)
 cases h
theorem Lep{s:Str}{c r:Int}(h:Kqz s c=some r):Pure Tryz.prog 201 [S s,.d (.v (.int .u8 c))] (I r):=by
 cases h
 exact Pure.of_same rfl rfl fun w=>Tryz.strings_IndexByte ⟨s.toArray⟩ c w
theorem Leq{s r:Str}(h:Krc s=some r):Pure Tryz.prog 200 [S s] (S r):=by
 obtain⟨h1,h⟩:=Kcq h
 obtain⟨h2,h⟩:=Kcq h
 cases h
 exact Pure.of_below rfl rfl fun w=>Tryz.strings_ToLower_ascii ⟨s.toArray⟩ w (by have:=Nat.le_of_ble_eq_true h2;simpa using this) (fun j b hb=>nblt.1 (List.all_eq_true.1 h1 b (List.mem_of_getElem? (by simpa using hb))))
end Go.Proofs.YtjmlnnanfkiakaaGreatDoor
namespace Go.Proofs.YtjmlnnanfkiakaaGreatDoor
open Go.Gk Go.RowKit Go.Maps Go.Sort Go.Shelf
theorem Lrj(m:Nat):AnyZ.SortsIn Tryz.prog Tryz.sorted141_ren Fence.wide m:=
 ⟨fun blk off cap ss W hH hblk hsz=>callsIn_wide.2 (AnyM.slices_Sort_string Tryz.sort232 blk off cap ss W hH hblk hsz),
  fun p cap W=>callsIn_wide.2 (AnyM.slices_Sort_string_none Tryz.sort232 p cap W)⟩
theorem Lrk:SortsKeys Tryz.prog 141 305 9:=fun W Bm b nn D0 hB hc hown hsz=>
 (callsIn_wide.1 (AnyZ.sorted_in Tryz.sorted141 Fence.wide 5 trivial trivial trivial trivial rfl (by omega) (Lrj _) (enters_of Tryz.func232 (by kernel_rfl) rfl) 305 #[.pointer (some ⟨Bm,0,none⟩)] trivial (enters_of Tryz.func305 (by kernel_rfl) rfl) _ _ (Nat.le_trans hsz (by decide)) (by omega) W
  (AnyZ.keys_gives (ρ:=Tryz.keys230_ren) { Tryz.keys230 with } Fence.wide _ trivial rfl (by omega) Bm b nn D0 W hB hc hown))).mono fun e w' ⟨v,ss,h1,h2,h3,_,h5⟩=>⟨v,ss,h1,h2,h3,h5⟩
theorem Lrl:BoxesMap Tryz.prog 230 305 203:=fun mb W=>callsIn_wide.1 (AnyZ.keys_in Tryz.keys230 Fence.wide 5 trivial rfl mb W)
theorem str9:Tryz.prog.underlying 9=some .string:=by kernel_rfl
end Go.Proofs.YtjmlnnanfkiakaaGreatDoor
namespace Go.Proofs
open Go.Shelf
def Tryz.lays189_ren:Go.Shelf.Ren:=⟨fun | 189=>171 | 125=>215 | 257=>253 | 128=>293 | 129=>294 | 294=>330 | 295=>331 | 296=>332 | 297=>333 | 298=>334 | 299=>335 | 216=>336 | 300=>337 | 301=>338 | 328=>387 | 329=>350 | 330=>351 | 331=>388 | 332=>389 | 215=>251 | 343=>416 | n=>n,fun | 28=>22 | 3=>3 | 46=>283 | 0=>0 | 51=>341 | 53=>250 | 4=>4 | 183=>347 | 182=>346 | 131=>123 | 5=>5 | 9=>9 | 218=>390 | 222=>394 | 228=>424 | 229=>425 | n=>n,fun | n=>n⟩
theorem Tryz.lays189:Go.Proofs.Lays.n189 Tryz.prog Tryz.lays189_ren:={
 mixed:=by kernel_rfl
 f125:=Tryz.func215.trans (congrArg some (by kernel_rfl))
 f128:=Tryz.func293.trans (congrArg some (by kernel_rfl))
 f129:=Tryz.func294.trans (congrArg some (by kernel_rfl))
 f189:=Tryz.func171.trans (congrArg some (by kernel_rfl))
 f215:=Tryz.func251.trans (congrArg some (by kernel_rfl))
 f216:=Tryz.func336.trans (congrArg some (by kernel_rfl))
 f257:=Tryz.func253.trans (congrArg some (by kernel_rfl))
 f294:=Tryz.func330.trans (congrArg some (by kernel_rfl))
 f295:=Tryz.func331.trans (congrArg some (by kernel_rfl))
 f296:=Tryz.func332.trans (congrArg some (by kernel_rfl))
 f297:=Tryz.func333.trans (congrArg some (by kernel_rfl))
 f298:=Tryz.func334.trans (congrArg some (by kernel_rfl))
 f299:=Tryz.func335.trans (congrArg some (by kernel_rfl))
 f300:=Tryz.func337.trans (congrArg some (by kernel_rfl))
 f301:=Tryz.func338.trans (congrArg some (by kernel_rfl))
 f328:=Tryz.func387.trans (congrArg some (by kernel_rfl))
 f329:=Tryz.func350.trans (congrArg some (by kernel_rfl))
 f330:=Tryz.func351.trans (congrArg some (by kernel_rfl))
 f331:=Tryz.func388.trans (congrArg some (by kernel_rfl))
 f332:=Tryz.func389.trans (congrArg some (by kernel_rfl))
 f343:=Tryz.func416.trans (congrArg some (by kernel_rfl))
 t0:=Tryz.underlying0
 a0:=Tryz.isAgg0
 z0:=Tryz.sizeOf0
 v0:=Tryz.zeroValue0
 t3:=Tryz.underlying3
 a3:=Tryz.isAgg3
 z3:=Tryz.sizeOf3
 v3:=Tryz.zeroValue3
 t4:=Tryz.underlying4
 a4:=Tryz.isAgg4
 z4:=Tryz.sizeOf4
 v4:=Tryz.zeroValue4
 t5:=Tryz.underlying5
 a5:=Tryz.isAgg5
 z5:=Tryz.sizeOf5
 v5:=Tryz.zeroValue5
 t9:=Tryz.underlying9
 a9:=Tryz.isAgg9
 z9:=Tryz.sizeOf9
 v9:=Tryz.zeroValue9
 t28:=Tryz.underlying22
 a28:=Tryz.isAgg22
 z28:=Tryz.sizeOf22
 v28:=Tryz.zeroValue22
 t46:=Tryz.underlying283
 a46:=Tryz.isAgg283
 z46:=Tryz.sizeOf283
 v46:=Tryz.zeroValue283
 t51:=Tryz.underlying341
 a51:=Tryz.isAgg341
 z51:=Tryz.sizeOf341
 v51:=Tryz.zeroValue341
 t53:=Tryz.underlying250
 a53:=Tryz.isAgg250
 z53:=Tryz.sizeOf250
 v53:=Tryz.zeroValue250
 t131:=Tryz.underlying123
 a131:=Tryz.isAgg123
 z131:=Tryz.sizeOf123
 v131:=Tryz.zeroValue123
 t182:=Tryz.underlying346
 a182:=Tryz.isAgg346
 z182:=Tryz.sizeOf346
 v182:=Tryz.zeroValue346
 t183:=Tryz.underlying347
 a183:=Tryz.isAgg347
 z183:=Tryz.sizeOf347
 v183:=Tryz.zeroValue347
 t218:=Tryz.underlying390
 a218:=Tryz.isAgg390
 z218:=Tryz.sizeOf390
 v218:=Tryz.zeroValue390
 t222:=Tryz.underlying394
 a222:=Tryz.isAgg394
 z222:=Tryz.sizeOf394
 v222:=Tryz.zeroValue394
 t228:=Tryz.underlying424
 a228:=Tryz.isAgg424
 z228:=Tryz.sizeOf424
 v228:=Tryz.zeroValue424
 t229:=Tryz.underlying425
 a229:=Tryz.isAgg425
 z229:=Tryz.sizeOf425
 v229:=Tryz.zeroValue425 }
open Go.Sort Go.RowKit in
theorem Tryz.slices_Sort_int(blk off cap:Nat)(zs:List Int)(w:World)(hH:Holds (Value.int .i64) w blk off zs.toArray)(hblk:blk<w.heap.size)(hsz:zs.length<4611686018427387904) :
  Calls Tryz.prog 171 #[.slice (some ⟨blk,off,none⟩) zs.length cap] w fun e w'=>
   e=.returned (.tuple #[])∧∃ n os,w'=grow (putRow (Value.int .i64) (Sort.ahead w n) blk off (zs.mergeSort fun x y=>decide (x≤y)).toArray) os:=Any.slices_Sort_int Tryz.lays189 blk off cap zs w hH hblk hsz
open Go.RowKit Go.Sort in
theorem Tryz.slices_Sort_int_none(p:Option Addr)(cap:Nat)(w:World) :
  Calls Tryz.prog 171 #[.slice p 0 cap] w fun e w'=>e=.returned (.tuple #[])∧w'=w:=Any.slices_Sort_int_none Tryz.lays189 p cap w
end Go.Proofs
namespace Go.Proofs.YtjmlnnanfkiakaaGreatDoor
open Go.Gk Go.Shelf
theorem Lej{l r:List Int}(h:Krd l=some r):EC Tryz.prog 171 [.sl 0 l.length] [.row 3 1 l.length (l.flatMap (eN .i64))] fun g hp'=>g=.tup []∧hp'=[.row 3 1 r.length (r.flatMap (eN .i64))]:=by
 obtain⟨h1,h⟩:=Kcq h
 cases h
 have hlen:(l.mergeSort fun x y=>decide (x≤y)).length=l.length:=List.length_mergeSort l
 have e:∀ l:List Int,l.flatMap (eN .i64)=(l.toArray.toList.map fun x=>D.v (Value.int .i64 x)):=fun l=>by
  induction l with
  | nil=>rfl
  | cons x l ih=>simp only[List.flatMap_cons,ih];rfl
 rw[hlen,e,e]
 exact EC.of_putRowG (α:=Int) (enc:=Value.int .i64) (d:=l.toArray) (d':=(l.mergeSort fun x y=>decide (x≤y)).toArray) (fun _=>rfl) (by simp) (by simp[hlen]) (fun h0 w=>by
   obtain rfl:l=[]:=by simpa using h0
   exact Tryz.slices_Sort_int_none none 0 w) fun w b c hb hH=>by
  simpa using Tryz.slices_Sort_int b 0 c l w hH hb (by have:=Nat.le_of_ble_eq_true h1;omega)
end Go.Proofs.YtjmlnnanfkiakaaGreatDoor
