import Derived.Test.YtcihhlhmkcaeeaaGreatDoorGt
import Derived.Test.YtcihhlhmkcaeeaaGreatDoorMStr3
import Derived.Test.YtcihhlhmkcaeeaaGreatDoorLays
import Derived.Shelf.Spec.TrailingZeros
import Derived.Lib.AppendIntMem
import Derived.Laws.BitsLemmas
import Derived.Shelf.Strconv.Itoa3
set_option linter.all false
set_option maxRecDepth 100000
namespace Go.Proofs.YtcihhlhmkcaeeaaGreatDoor
open Go.Gk Go.Shelf Go.RowKit Go.Sort Go.Lib
theorem Lql {w:World} (h:TabX w):Lib.TabIs Tryz.prog w "internal/strconv.uint64pow10" .u64 Lib.pow10Tab:=by
 obtain⟨t,e,h⟩:=h.2.2.1
 unfold Lib.TabIs World.var?
 rw[show Tryz.prog.globalNamed "internal/strconv.uint64pow10" = some 1 by kernel_rfl]
 show(match w.heap[1]? with | some (.cells cs _ _)=>some cs | _=>none)=_
 rw[h]
theorem tz16(w:World)(hT:TabB 5 Lib.deBruijn64tab w):Calls Tryz.prog 275 #[.int .u64 16] w fun e w'=>e=.returned (.int .i64 4)∧w'=w:=by
 have hc:w.cell? ⟨5,15,none⟩=some (.int .u8 4):=hT 15 (by decide)
 have key:IntKind.u64.wrap (bits BinOp.and IntKind.u64 16 (IntKind.u64.wrap (-16)) * 285870213051353865) / 288230376151711744=15:=by decide +kernel
 go_enter Tryz.func275,Tryz.ntmps275
 go_wp2_with (simp only[key])
 go_ret
 exact⟨rfl,rfl⟩
theorem Lqm(w:World)(hT:TabB 5 Lib.deBruijn64tab w):Calls Tryz.prog 245 #[.int .u64 16] w fun e w'=>e=.returned (.int .i64 4)∧w'=w:=by
 have ee:∀ args w,(callFunc 275 args).run Tryz.prog w=.ok (.enter 275 args) w:=enters_of Tryz.func275 (by kernel_rfl) rfl
 go_enter Tryz.func245,Tryz.ntmps245
 go_wp2_with (go_at_fn 275;refine(tz16 _ hT).mono ?_;rintro e w' ⟨rfl,rfl⟩)
 go_ret
 exact⟨rfl,rfl⟩
theorem Ksy(w:World):Calls Tryz.prog 244 #[.int .i64 16] w fun e w'=>e=.returned (.bool true)∧w'=w:=by
 go_enter Tryz.func244,Tryz.ntmps244
 go_wp2
 go_ret
 exact⟨rfl,rfl⟩
theorem Ksz(u:Nat)(hu:u<16):([48,49,50,51,52,53,54,55,56,57,97,98,99,100,101,102,103,104,105,106,107,108,109,110,111,112,113,114,115,116,117,118,119,120,121,122]:List UInt8)[u]?=some (hexB u):=by
 have:∀ u,u<16→([48,49,50,51,52,53,54,55,56,57,97,98,99,100,101,102,103,104,105,106,107,108,109,110,111,112,113,114,115,116,117,118,119,120,121,122]:List UInt8)[u]?=some (hexB u):=by decide
 exact this u hu
theorem Kta{w:World}(hT:TabB 5 Lib.deBruijn64tab w)(o:Obj):TabB 5 Lib.deBruijn64tab (w.alloc o):=fun j hj=>by
 have h:=hT j hj
 have hb:5<w.heap.size:=by
  rcases Nat.lt_or_ge 5 w.heap.size with hb | hb
  ·exact hb
  simp[World.cell?,Array.getElem?_eq_none hb] at h
 rw[←h]
 exact World.cell?_of_block (RowKit.Below.heap_alloc w o 5 hb)
theorem Ktb(i:Nat)(hi:i<16):∀ h:i<(⟨#[48,49,50,51,52,53,54,55,56,57,97,98,99,100,101,102,103,104,105,106,107,108,109,110,111,112,113,114,115,116,117,118,119,120,121,122]⟩:ByteArray).size,(⟨#[48,49,50,51,52,53,54,55,56,57,97,98,99,100,101,102,103,104,105,106,107,108,109,110,111,112,113,114,115,116,117,118,119,120,121,122]⟩:ByteArray)[i]'h=hexB i:=fun h=>by
 have e:=Ksz i hi
 obtain⟨h1,e⟩:=List.getElem?_eq_some_iff.1 e
 rw[←e,ByteArray.getElem_eq_getElem_data]
 rfl
theorem Ktc(w:World)(A:Array Value)(k:Nat)(cs:List UInt8)(o:Nat)(hk:cs.length=k)(h:∀ j (hj:j<cs.length),A[o+j]?=some (.int .u8 cs[j].toNat)) :
  (convert 91 9 (.slice (some ⟨w.heap.size,o,none⟩) k k)).run Tryz.prog (w.alloc (.cells A 310))=.ok (.string ⟨cs.toArray⟩) (w.alloc (.cells A 310)):=by
 subst hk
 exact run_convert_bytes_back (P:=Tryz.prog) (w.alloc (.cells A 310)) 91 9 5 ⟨w.heap.size,o,none⟩ cs.length cs Tryz.underlying91 Tryz.underlying5 Tryz.underlying9 (fun j hj=>by
  rw[Lib.add_plain,World.cell?_alloc_new]
  exact h j hj)
theorem z65:Tryz.zeroCells310.size=65:=by kernel_rfl
set_option maxHeartbeats 4000000 in
theorem Lqn(u:Nat)(hl:u<16)(w:World)(hT:TabB 5 Lib.deBruijn64tab w):Calls Tryz.prog 211 #[.slice none 0 0,.int .u64 u,.int .i64 16,.bool false,.bool false] w fun e w'=>
  e=.returned (.tuple #[.slice none 0 0,.string ⟨[hexB u].toArray⟩])∧∃ os,w'=grow w os:=by
 have e1:∀ args w,(callFunc 245 args).run Tryz.prog w=.ok (.enter 245 args) w:=enters_of Tryz.func245 (by kernel_rfl) rfl
 have e2:∀ args w,(callFunc 244 args).run Tryz.prog w=.ok (.enter 244 args) w:=enters_of Tryz.func244 (by kernel_rfl) rfl
 have il:(u:Int)<16:=by omega
 have il2:(u:Int)<36:=by omega
 have il3:u<36:=by omega
 go_enter Tryz.func211,Tryz.ntmps211
 go_wp2_with (first
  | (go_at_fn 244;refine(Ksy _).mono ?_;rintro e w' ⟨rfl,rfl⟩)
  | (go_at_fn 245;refine(Lqm _ (Kta hT _)).mono ?_;rintro e w' ⟨rfl,rfl⟩))
 refine wp_loop_rounds 1 ?_
 rw[rounds_succ]
 go_wp2
 simp only[Ktb u hl]
 rw[Ktc w (Tryz.zeroCells310.setIfInBounds 64 (.int .u8 (hexB u).toNat)) 1 [hexB u] 64 rfl (fun j hj=>by
  match j,hj with
  | 0,_=>simp[z65])]
 go_wp2
 go_ret2
 exact⟨rfl,#[.cells (Tryz.zeroCells310.setIfInBounds 64 (.int .u8 (hexB u).toNat)) 310],alloc_eq_grow _ _⟩
set_option maxHeartbeats 4000000 in
theorem Lqo(u r0 q1:Nat)(hb0:bits BinOp.and IntKind.u64 (u:Int) 15=(r0:Int))(hd0:(u:Int) / 16=(q1:Int))(hr0:r0<16)(hg0:16≤u)(hl:q1<16)(w:World)(hT:TabB 5 Lib.deBruijn64tab w):Calls Tryz.prog 211 #[.slice none 0 0,.int .u64 u,.int .i64 16,.bool false,.bool false] w fun e w'=>
  e=.returned (.tuple #[.slice none 0 0,.string ⟨[hexB q1,hexB r0].toArray⟩])∧∃ os,w'=grow w os:=by
 have e1:∀ args w,(callFunc 245 args).run Tryz.prog w=.ok (.enter 245 args) w:=enters_of Tryz.func245 (by kernel_rfl) rfl
 have e2:∀ args w,(callFunc 244 args).run Tryz.prog w=.ok (.enter 244 args) w:=enters_of Tryz.func244 (by kernel_rfl) rfl
 have ig0:(16:Int)≤(u:Int):=by omega
 have ir0:(r0:Int)<36:=by omega
 have is0:r0<36:=by omega
 have il:(q1:Int)<16:=by omega
 have il2:(q1:Int)<36:=by omega
 have il3:q1<36:=by omega
 go_enter Tryz.func211,Tryz.ntmps211
 go_wp2_with (first
  | (go_at_fn 244;refine(Ksy _).mono ?_;rintro e w' ⟨rfl,rfl⟩)
  | (go_at_fn 245;refine(Lqm _ (Kta hT _)).mono ?_;rintro e w' ⟨rfl,rfl⟩))
 refine wp_loop_rounds 2 ?_
 rw[rounds_succ]
 go_wp2_with (simp only[hb0,hd0])
 rw[rounds_succ]
 go_wp2_with (simp only[hb0,hd0])
 simp only[Ktb r0 hr0,Ktb q1 hl]
 rw[Ktc w ((Tryz.zeroCells310.setIfInBounds 64 (.int .u8 (hexB r0).toNat)).setIfInBounds 63 (.int .u8 (hexB q1).toNat)) 2 [hexB q1,hexB r0] 63 rfl (fun j hj=>by
  match j,hj with
  | 0,_=>simp[z65]
  | 1,_=>simp[z65])]
 go_wp2
 go_ret2
 exact⟨rfl,#[.cells ((Tryz.zeroCells310.setIfInBounds 64 (.int .u8 (hexB r0).toNat)).setIfInBounds 63 (.int .u8 (hexB q1).toNat)) 310],alloc_eq_grow _ _⟩
set_option maxHeartbeats 4000000 in
theorem Lqp(u r0 r1 q1 q2:Nat)(hb0:bits BinOp.and IntKind.u64 (u:Int) 15=(r0:Int))(hd0:(u:Int) / 16=(q1:Int))(hr0:r0<16)(hg0:16≤u)(hb1:bits BinOp.and IntKind.u64 (q1:Int) 15=(r1:Int))(hd1:(q1:Int) / 16=(q2:Int))(hr1:r1<16)(hg1:16≤q1)(hl:q2<16)(w:World)(hT:TabB 5 Lib.deBruijn64tab w):Calls Tryz.prog 211 #[.slice none 0 0,.int .u64 u,.int .i64 16,.bool false,.bool false] w fun e w'=>
  e=.returned (.tuple #[.slice none 0 0,.string ⟨[hexB q2,hexB r1,hexB r0].toArray⟩])∧∃ os,w'=grow w os:=by
 have e1:∀ args w,(callFunc 245 args).run Tryz.prog w=.ok (.enter 245 args) w:=enters_of Tryz.func245 (by kernel_rfl) rfl
 have e2:∀ args w,(callFunc 244 args).run Tryz.prog w=.ok (.enter 244 args) w:=enters_of Tryz.func244 (by kernel_rfl) rfl
 have ig0:(16:Int)≤(u:Int):=by omega
 have ir0:(r0:Int)<36:=by omega
 have is0:r0<36:=by omega
 have ig1:(16:Int)≤(q1:Int):=by omega
 have ir1:(r1:Int)<36:=by omega
 have is1:r1<36:=by omega
 have il:(q2:Int)<16:=by omega
 have il2:(q2:Int)<36:=by omega
 have il3:q2<36:=by omega
 go_enter Tryz.func211,Tryz.ntmps211
 go_wp2_with (first
  | (go_at_fn 244;refine(Ksy _).mono ?_;rintro e w' ⟨rfl,rfl⟩)
  | (go_at_fn 245;refine(Lqm _ (Kta hT _)).mono ?_;rintro e w' ⟨rfl,rfl⟩))
 refine wp_loop_rounds 3 ?_
 rw[rounds_succ]
 go_wp2_with (simp only[hb0,hb1,hd0,hd1])
 rw[rounds_succ]
 go_wp2_with (simp only[hb0,hb1,hd0,hd1])
 rw[rounds_succ]
 go_wp2_with (simp only[hb0,hb1,hd0,hd1])
 simp only[Ktb r0 hr0,Ktb r1 hr1,Ktb q2 hl]
 rw[Ktc w (((Tryz.zeroCells310.setIfInBounds 64 (.int .u8 (hexB r0).toNat)).setIfInBounds 63 (.int .u8 (hexB r1).toNat)).setIfInBounds 62 (.int .u8 (hexB q2).toNat)) 3 [hexB q2,hexB r1,hexB r0] 62 rfl (fun j hj=>by
  match j,hj with
  | 0,_=>simp[z65]
  | 1,_=>simp[z65]
  | 2,_=>simp[z65])]
 go_wp2
 go_ret2
 exact⟨rfl,#[.cells (((Tryz.zeroCells310.setIfInBounds 64 (.int .u8 (hexB r0).toNat)).setIfInBounds 63 (.int .u8 (hexB r1).toNat)).setIfInBounds 62 (.int .u8 (hexB q2).toNat)) 310],alloc_eq_grow _ _⟩
set_option maxHeartbeats 4000000 in
theorem Lqq(u r0 r1 r2 q1 q2 q3:Nat)(hb0:bits BinOp.and IntKind.u64 (u:Int) 15=(r0:Int))(hd0:(u:Int) / 16=(q1:Int))(hr0:r0<16)(hg0:16≤u)(hb1:bits BinOp.and IntKind.u64 (q1:Int) 15=(r1:Int))(hd1:(q1:Int) / 16=(q2:Int))(hr1:r1<16)(hg1:16≤q1)(hb2:bits BinOp.and IntKind.u64 (q2:Int) 15=(r2:Int))(hd2:(q2:Int) / 16=(q3:Int))(hr2:r2<16)(hg2:16≤q2)(hl:q3<16)(w:World)(hT:TabB 5 Lib.deBruijn64tab w):Calls Tryz.prog 211 #[.slice none 0 0,.int .u64 u,.int .i64 16,.bool false,.bool false] w fun e w'=>
  e=.returned (.tuple #[.slice none 0 0,.string ⟨[hexB q3,hexB r2,hexB r1,hexB r0].toArray⟩])∧∃ os,w'=grow w os:=by
 have e1:∀ args w,(callFunc 245 args).run Tryz.prog w=.ok (.enter 245 args) w:=enters_of Tryz.func245 (by kernel_rfl) rfl
 have e2:∀ args w,(callFunc 244 args).run Tryz.prog w=.ok (.enter 244 args) w:=enters_of Tryz.func244 (by kernel_rfl) rfl
 have ig0:(16:Int)≤(u:Int):=by omega
 have ir0:(r0:Int)<36:=by omega
 have is0:r0<36:=by omega
 have ig1:(16:Int)≤(q1:Int):=by omega
 have ir1:(r1:Int)<36:=by omega
 have is1:r1<36:=by omega
 have ig2:(16:Int)≤(q2:Int):=by omega
 have ir2:(r2:Int)<36:=by omega
 have is2:r2<36:=by omega
 have il:(q3:Int)<16:=by omega
 have il2:(q3:Int)<36:=by omega
 have il3:q3<36:=by omega
 go_enter Tryz.func211,Tryz.ntmps211
 go_wp2_with (first
  | (go_at_fn 244;refine(Ksy _).mono ?_;rintro e w' ⟨rfl,rfl⟩)
  | (go_at_fn 245;refine(Lqm _ (Kta hT _)).mono ?_;rintro e w' ⟨rfl,rfl⟩))
 refine wp_loop_rounds 4 ?_
 rw[rounds_succ]
 go_wp2_with (simp only[hb0,hb1,hb2,hd0,hd1,hd2])
 rw[rounds_succ]
 go_wp2_with (simp only[hb0,hb1,hb2,hd0,hd1,hd2])
 rw[rounds_succ]
 go_wp2_with (simp only[hb0,hb1,hb2,hd0,hd1,hd2])
 rw[rounds_succ]
 go_wp2_with (simp only[hb0,hb1,hb2,hd0,hd1,hd2])
 simp only[Ktb r0 hr0,Ktb r1 hr1,Ktb r2 hr2,Ktb q3 hl]
 rw[Ktc w ((((Tryz.zeroCells310.setIfInBounds 64 (.int .u8 (hexB r0).toNat)).setIfInBounds 63 (.int .u8 (hexB r1).toNat)).setIfInBounds 62 (.int .u8 (hexB r2).toNat)).setIfInBounds 61 (.int .u8 (hexB q3).toNat)) 4 [hexB q3,hexB r2,hexB r1,hexB r0] 61 rfl (fun j hj=>by
  match j,hj with
  | 0,_=>simp[z65]
  | 1,_=>simp[z65]
  | 2,_=>simp[z65]
  | 3,_=>simp[z65])]
 go_wp2
 go_ret2
 exact⟨rfl,#[.cells ((((Tryz.zeroCells310.setIfInBounds 64 (.int .u8 (hexB r0).toNat)).setIfInBounds 63 (.int .u8 (hexB r1).toNat)).setIfInBounds 62 (.int .u8 (hexB r2).toNat)).setIfInBounds 61 (.int .u8 (hexB q3).toNat)) 310],alloc_eq_grow _ _⟩
theorem Ktd(n:Nat)(h:n<65536):bits BinOp.and IntKind.u64 (n:Int) 15=((n % 16:Nat):Int):=by
 have:=bits_mask .u64 64 (by decide) (fun n h0 h1=>by show n % 18446744073709551616=n;omega) 4 (by decide) (n:Int) (by omega) (by omega)
 rw[show((2:Int) ^ 4 - 1)=15 from rfl] at this
 rw[this]
 omega
theorem Kte(n:Nat):(n:Int) / 16=((n / 16:Nat):Int):=by omega
theorem Lqr(u:Nat)(hu:u<65536)(w:World)(hT:TabB 5 Lib.deBruijn64tab w):Calls Tryz.prog 211 #[.slice none 0 0,.int .u64 u,.int .i64 16,.bool false,.bool false] w fun e w'=>
  e=.returned (.tuple #[.slice none 0 0,.string ⟨(hexS u).toArray⟩])∧∃ os,w'=grow w os:=by
 unfold hexS
 have m:=fun n:Nat=>Nat.mod_lt n (show 16>0 by decide)
 by_cases h1:u<16
 ·rw[if_pos h1];exact Lqn u h1 w hT
 rw[if_neg h1]
 by_cases h2:u<256
 ·rw[if_pos h2];exact Lqo u (u % 16) (u / 16) (Ktd u hu) (Kte u) (m _) (by omega) (by omega) w hT
 rw[if_neg h2]
 by_cases h3:u<4096
 ·rw[if_pos h3];exact Lqp u (u % 16) (u / 16 % 16) (u / 16) (u / 16 / 16) (Ktd u hu) (Kte u) (m _) (by omega) (Ktd _ (by omega)) (Kte _) (m _) (by omega) (by omega) w hT
 rw[if_neg h3]
 exact Lqq u (u % 16) (u / 16 % 16) (u / 16 / 16 % 16) (u / 16) (u / 16 / 16) (u / 16 / 16 / 16) (Ktd u hu) (Kte u) (m _) (by omega) (Ktd _ (by omega)) (Kte _) (m _) (by omega) (Ktd _ (by omega)) (Kte _) (m _) (by omega) (by omega) w hT
theorem Lqs(u:Nat)(hu:u<65536)(w:World)(hT:TabB 5 Lib.deBruijn64tab w):Calls Tryz.prog 167 #[.int .u64 u,.int .i64 16] w fun e w'=>
  e=.returned (.string ⟨(hexS u).toArray⟩)∧∃ os,w'=grow w os:=by
 have e1:∀ args w,(callFunc 211 args).run Tryz.prog w=.ok (.enter 211 args) w:=enters_of Tryz.func211 (by kernel_rfl) rfl
 go_enter Tryz.func167,Tryz.ntmps167
 go_wp2_with (go_at_fn 211;refine(Lqr u hu _ hT).mono ?_;rintro e w' ⟨rfl,os,rfl⟩)
 go_ret
 exact⟨rfl,os,rfl⟩
theorem Lqt (u:Nat) (hu64:u<18446744073709551616) (w:World) (htab:Lib.TabIs Tryz.prog w "internal/strconv.uint64pow10" .u64 Lib.pow10Tab):Calls Tryz.prog 167 #[.int .u64 u,.int .i64 10] w fun e w'=>
  e=.returned (.string ⟨(Lib.decDigits u).toArray⟩)∧∃ k os,w'=grow (w.drewN k) os:=by
 have e1:∀ args w,(callFunc 208 args).run Tryz.prog w=.ok (.enter 208 args) w:=enters_of Tryz.func208 (by kernel_rfl) rfl
 have e2:∀ args w,(callFunc 209 args).run Tryz.prog w=.ok (.enter 209 args) w:=enters_of Tryz.func209 (by kernel_rfl) rfl
 have e3:∀ args w,(callFunc 210 args).run Tryz.prog w=.ok (.enter 210 args) w:=enters_of Tryz.func210 (by kernel_rfl) rfl
 by_cases hs:u<100
 ·have iu:(u:Int)<100:=by omega
  go_enter Tryz.func167,Tryz.ntmps167
  go_wp2_with (go_at_fn 208;refine(Tryz.internal_strconv_small u hs _).mono ?_;rintro e w' ⟨rfl,rfl⟩)
  go_ret
  exact⟨rfl,0,#[],by simp[World.drewN_zero]⟩
 ·have hu1:1≤u:=by omega
  have hnd20:Lib.nDigits u≤20:=by have:=Lib.numDigits_eq u hu1 hu64;split at this<;>omega
  have hsl:∀ W,(Instr.sliceAt 280 (.pointer (some ⟨w.heap.size,0,none⟩)) none (some (.int .i64 (Lib.nDigits u:Int))) none).run Tryz.prog W=.ok (.slice (some ⟨w.heap.size,0,none⟩) (Lib.nDigits u) 24) W:=fun W=>by
   have hal:Tryz.prog.arrayLen 280=24:=by simp[Program.arrayLen,Tryz.underlying280]
   rw[run_sliceAt_array_h W 280 ⟨w.heap.size,0,none⟩ (by simp[Program.arrayLen,Program.elem,Tryz.underlying280]) .i64 (Lib.nDigits u:Int) (by omega) (by rw[hal];omega)]
   go_simp
  have hH0:=Lib.holds_zero0 w 280 (Lib.nDigits u) (by omega)
  have hfmt:=Tryz.internal_strconv_formatBase10 w.heap.size 0 24 u (Array.replicate (Lib.nDigits u) 0) (w.alloc (.cells Lib.zeros24 280)) hH0 (by rw[Array.size_replicate];exact Lib.lt_pow_nDigits u) hu64 (by rw[Array.size_replicate];omega)
  rw[Array.size_replicate] at hfmt
  have HH0:=Lib.hid hH0
  have iu:(100:Int)≤(u:Int):=by omega
  clear hH0
  go_enter Tryz.func167,Tryz.ntmps167
  go_wp2_with (first
   | (go_at_fn 209;refine(Tryz.internal_strconv_numDigits u hu1 hu64 _ (Lib.tabIs_alloc htab _)).mono ?_;rintro e w' ⟨rfl,rfl⟩))
  go_at_fn 210
  refine hfmt.mono ?_
  rintro e w' ⟨rfl,k,v',dk,rfl,hF⟩
  have hcv:(convert 91 9 (.slice (some ⟨w.heap.size,0,none⟩) (Lib.nDigits u) 24)).run Tryz.prog ((putRow (fun (b:UInt8)=>Value.int .u8 (b.toNat:Int)) (w.alloc (.cells Lib.zeros24 280)) w.heap.size 0 dk).drewN k)=.ok (.string ⟨(Lib.decDigits u).toArray⟩) ((putRow (fun (b:UInt8)=>Value.int .u8 (b.toNat:Int)) (w.alloc (.cells Lib.zeros24 280)) w.heap.size 0 dk).drewN k):=by
   have h:=run_convert_bytes_back (P:=Tryz.prog) ((putRow (fun (b:UInt8)=>Value.int .u8 (b.toNat:Int)) (w.alloc (.cells Lib.zeros24 280)) w.heap.size 0 dk).drewN k) 91 9 5 ⟨w.heap.size,0,none⟩ 24 (Lib.decDigits u) Tryz.underlying91 Tryz.underlying5 Tryz.underlying9 (fun j hj=>by
    rw[Lib.row_is_numeral hF j hj,Lib.add_plain,World.cell?_drewN]
    exact cell?_putRow (fun (b:UInt8)=>Value.int .u8 (b.toNat:Int)) _ w.heap.size 0 _ dk HH0.out (by rw[hF.size,Array.size_replicate]) j (by rw[hF.size];rw[Lib.decDigits_length] at hj;exact hj))
   rw[Lib.decDigits_length] at h
   exact h
  go_wp2
  go_ret
  obtain⟨os,eo⟩:=Lib.fin_at w (.cells Lib.zeros24 280) dk k 0
  exact⟨rfl,k,os,eo⟩
theorem Ksx{n b:Int}{r:Str}(h:Krm n b=some r):Pure Tryz.prog 115 [U n,I b] (S r):=by
 unfold Krm at h
 split at h
 ·rename_i u
  have ee:∀ args w,(callFunc 167 args).run Tryz.prog w=.ok (.enter 167 args) w:=enters_of Tryz.func167 (by kernel_rfl) rfl
  by_cases h10:b=10
  ·subst h10
   simp only[decide_true,cond_true] at h
   obtain⟨h1,h⟩:=Kdx h
   cases h
   refine Pure.of_belowX rfl rfl fun w hT=>?_
   go_enter Tryz.func115,Tryz.ntmps115
   go_wp2_with (go_at_fn 167;refine(Lqt u (nblt.1 h1) _ (Lql hT)).mono ?_;rintro e w' ⟨rfl,k,os,rfl⟩)
   go_ret
   exact⟨rfl,Lib.below_grow w.heap.size w (Nat.le_refl _) k os⟩
  rw[show decide (b=10)=false from decide_eq_false h10,cond_false] at h
  by_cases h16:b=16
  ·subst h16
   simp only[decide_true,cond_true] at h
   obtain⟨h1,h⟩:=Kdx h
   cases h
   refine Pure.of_belowX rfl rfl fun w hT=>?_
   go_enter Tryz.func115,Tryz.ntmps115
   go_wp2_with (go_at_fn 167;refine(Lqs u (nblt.1 h1) _ hT.2.2.2.1).mono ?_;rintro e w' ⟨rfl,os,rfl⟩)
   go_ret
   exact⟨rfl,by simpa [World.drewN_zero] using Lib.below_grow w.heap.size w (Nat.le_refl _) 0 os⟩
  rw[show decide (b=16)=false from decide_eq_false h16,cond_false] at h
  cases h
 cases h
end Go.Proofs.YtcihhlhmkcaeeaaGreatDoor
