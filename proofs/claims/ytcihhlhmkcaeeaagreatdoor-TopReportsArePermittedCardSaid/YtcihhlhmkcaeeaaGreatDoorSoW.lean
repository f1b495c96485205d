import Derived.Test.YtcihhlhmkcaeeaaGreatDoorGt
import Derived.Test.YtcihhlhmkcaeeaaGreatDoorSoLays
import Derived.Shelf.SlSortCmp.NoneTotal
set_option linter.all false
set_option maxRecDepth 100000
namespace Go.Proofs.YtcihhlhmkcaeeaaGreatDoor
open Go.Shelf Go.RowKit Go.Lib Go.Sort
theorem Ksf(n:Nat)(hn:n<4611686018427387904)(w:World):Calls Tryz.prog 199 #[.int .u64 (n:Int)] w fun e w'=>e=.returned (.int .i64 (Lib.bitLen n:Nat))∧w'=w:=by
 have h:=Any.bits_Len (SlLaysF0.n15.bits (P:=Tryz.prog) (ρ:=Tryz.pdq198_ren) { Tryz.pdq198 with }) (n:Int) w (by omega) (by omega)
 rwa [Int.toNat_natCast] at h
theorem Ksg(p:Option Addr)(cap:Nat)(fv:Value)(w:World):Calls Tryz.prog 149 #[.slice p 0 cap,fv] w fun e w'=>e=.returned (.tuple #[])∧w'=w:=by
 have e14:∀ args w,(callFunc 198 args).run Tryz.prog w=.ok (.enter 198 args) w:=enters_of Tryz.func198 (by kernel_rfl) rfl
 have e15:∀ args w,(callFunc 199 args).run Tryz.prog w=.ok (.enter 199 args) w:=enters_of Tryz.func199 (by kernel_rfl) rfl
 have hp:∀ lim W,Calls Tryz.prog 198 #[.slice p 0 cap,.int .i64 0,.int .i64 0,.int .i64 lim,fv] W fun e w'=>e=.returned (.tuple #[])∧w'=W:=fun lim W=>AnyF.pdqsortCmpFunc_none Tryz.pdq198 p cap lim fv W
 have hl:∀ W,Calls Tryz.prog 199 #[.int .u64 0] W fun e w'=>e=.returned (.int .i64 (Lib.bitLen 0:Nat))∧w'=W:=fun W=>Ksf 0 (by omega) W
 go_enter Tryz.func149,Tryz.ntmps149
 go_wp2_with (first | (go_at_fn 199;refine(hl _).mono ?_;rintro e w' ⟨rfl,rfl⟩) | (go_at_fn 198;refine(hp _ _).mono ?_;rintro e w' ⟨rfl,rfl⟩))
 go_end0
 exact⟨rfl,rfl⟩
variable{α:Type}[Inhabited α]
theorem Ksh(k:Nat)(aE:∀ w,(isAgg 180).run Tryz.prog w=.ok true w)(zE:∀ w,(Go.sizeOf 180).run Tryz.prog w=.ok k w)(enc:α→List Value)(hk:∀ x,(enc x).length=k)(h1:∀ x,∀ v∈enc x,v.oneCell'=true)(cf:α→α→Int)(hO:SWO (ltOf cf))(g:Nat)(blk off cap:Nat)(d:Array α)(w:World)
  (eg:∀ args w,(callFunc g args).run Tryz.prog w=.ok (.enter g args) w) (hcmp:CmpLays Tryz.prog g #[] enc k cf blk off d.size w) (hH:HoldsK enc k w blk off d) (hblk:blk<w.heap.size) (hsz:d.size<4611686018427387904) :
  Calls Tryz.prog 149 #[.slice (some ⟨blk,off,none⟩) d.size cap,.func (.func g) #[] #[]] w fun e w'=>
   e=.returned (.tuple #[])∧∃ d' n os,PermIn 0 d.size d d'∧SortedIn (ltOf cf) 0 d.size d'∧w'=sortWorldK enc k w blk off n d' os:=by
 have e14:∀ args w,(callFunc 198 args).run Tryz.prog w=.ok (.enter 198 args) w:=enters_of Tryz.func198 (by kernel_rfl) rfl
 have e15:∀ args w,(callFunc 199 args).run Tryz.prog w=.ok (.enter 199 args) w:=enters_of Tryz.func199 (by kernel_rfl) rfl
 have hlim:Lib.bitLen d.size<4611686018427387904:=Nat.lt_of_le_of_lt (Lib.bitLen_le d.size 62 (by omega) (by omega)) (by omega)
 have hp:Calls Tryz.prog 198 #[.slice (some ⟨blk,off,none⟩) d.size cap,.int .i64 (0:Nat),.int .i64 d.size,.int .i64 (Lib.bitLen d.size:Nat),.func (.func g) #[] #[]] w fun e w'=>e=.returned (.tuple #[])∧SWK enc k w blk off (pdq (ltOf cf) d 0 d.size (Lib.bitLen d.size) true true) w':=
  AnyQ.pdqsortCmpFunc_all Tryz.pdq198 k aE zE enc cf g #[] hO blk off cap d w eg hcmp ⟨hk,h1,hH,hblk⟩ (d.size+1) 0 d.size (Lib.bitLen d.size) d w (by omega) rfl (SWK.start hH) (Nat.zero_le _) (Nat.le_refl _) hsz hlim (Or.inl rfl)
 have hl:=Ksf d.size hsz w
 have wr:IntKind.u64.wrap (d.size:Int)=d.size:=by simp[IntKind.wrap,IntKind.bits,IntKind.signed];omega
 clear hH hcmp hk h1
 refine Calls.mono (R:=fun e w'=>e=.returned (.tuple #[])∧SWK enc k w blk off (pdq (ltOf cf) d 0 d.size (Lib.bitLen d.size) true true) w') ?_ ?_
 ·go_enter Tryz.func149,Tryz.ntmps149
  go_wp2_with (first | (go_at_fn 199;refine hl.mono ?_;rintro e w' ⟨rfl,rfl⟩) | (go_at_fn 198;refine hp.mono ?_;rintro e w' ⟨rfl,n,os,rfl⟩))
  go_end0
  exact⟨rfl,n,os,rfl⟩
 ·rintro e w' ⟨he,n,os,hw⟩
  have h:=pdq_sorts (ltOf cf) hO d 0 d.size (Lib.bitLen d.size) true true (Nat.zero_le _) (Nat.le_refl _) (Or.inl rfl)
  exact⟨he,_,n,os,h.1,h.2,hw⟩
end Go.Proofs.YtcihhlhmkcaeeaaGreatDoor
