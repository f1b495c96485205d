/-
  lanetop.TopReportsArePermitted returns true whatever the input, and the input reads behind the call as it read before.
  Condition: none beyond those of the row itself.
-/
import Derived.Test.YtcihhlhmkcaeeaaGreatDoorCards
import Derived.Test.YtcihhlhmkcaeeaaGreatDoorTie
import Derived.Test.YtcihhlhmkcaeeaaGreatDoorXTop
import Derived.Test.YtcihhlhmkcaeeaaGreatDoorXPW
import Derived.Test.YtcihhlhmkcaeeaaGreatDoorWrapV
import Derived.WalkKit
import Derived.ProofKit
import Derived.OpenShut
import Derived.ShutString
import Derived.ChangeOld
import Derived.Below
import Derived.Deep.DeepHandedRow
import Derived.Lib.LaidTab
import Derived.Lib.LaidU8T
import Derived.Shelf.Vars
import Derived.Test.YtcihhlhmkcaeeaaGreatDoorLays
import Derived.Test.YtcihhlhmkcaeeaaGreatDoorTopReportsArePermittedFacts
import Derived.LaidMore
import Derived.LaidLaws
import Derived.Lib.LaidTab
import Derived.Lay
import Derived.Stop.Joined
namespace Go.Proofs.YtcihhlhmkcaeeaaGreatDoor.treports
open Go.ChangeShapes Go.WideShapes Go.ChangeAt Go.RowKit
set_option linter.unusedVariables false
set_option maxRecDepth 100000
theorem own:ownKnob Tryz.prog.godebug=none:=by kernel_rfl
theorem Lqu:laidOutB Tryz.prog=true:=by kernel_rfl
theorem contract(H:Type)(enc:TypeId×Value→H)(W:World)(base:Nat)(args:Array Value)(ds gs:List (DataW H))(before:List MemPlace)
  (hval:∀ (j:Nat) t v,Tryz.f3.params[j]?=some t→args[j]?=some v→Value.okWide Tryz.prog W .any base t v)
  (hW:DataW.Whole enc Tryz.prog Tryz.f3.params.toList Rows.topReportsArePermittedSpec.vars false W args.toList ds gs before) (hT:Go.Gk.TabX W) :
  Calls Tryz.prog 3 args W fun e W'=>∃ v,e=.returned v∧Rows.topReportsArePermittedSpec.post enc Tryz.prog Tryz.f3 false true false false W args v W':=by
 have hW':=hW
 obtain⟨p,q,hA0,hV,rfl,hfz,hnd⟩:=hW
 have hA:DataW.TrodAll enc Tryz.prog W 0 (fun _=>true) true Tryz.f3.params.toList args.toList ds p:=hA0
 rw[Tryz.params3] at hA hval
 obtain⟨v0,vs0,d0,ds0,p0,q0,hargs,rfl,rfl,h0,r0⟩:=trodAll_cons hA
 obtain⟨rfl,rfl,rfl⟩:=trodAll_nil r0
 obtain rfl:args=#[v0]:=by cases args;simp_all
 obtain⟨rfl,rfl⟩:=trodVars_none hV
 have hok:=hval 0 22 v0 rfl rfl
 obtain⟨a0,len0,cap0,rfl⟩:=okWide_slice Tryz.underlying22 hok
 have k0:=h0
 have lt0:∀ x∈p0,x.block<W.heap.size:=by obtain⟨m,hm⟩:=k0;exact DataW.trod_lt m _ _ _ hm
 obtain⟨l,hl,hv⟩:=Kuy hok (by
  obtain⟨fuel,hf⟩:=h0
  rcases open_ints Tryz.underlying22 Tryz.underlying3 (by kernel_rfl) hf with⟨hcs,_⟩ | ⟨x,l,c,zs,hcs,_,hl,hm,hz,_,hcell,hwz⟩
  ·simp[Value.cells] at hcs
   exact .inl hcs
  ·simp[Value.cells] at hcs
   obtain⟨rfl,rfl,rfl⟩:=hcs
   exact .inr ⟨_,zs,rfl,hl,hm,by simpa using hz,hcell⟩)
 clear hA0
 simp only[List.append_nil] at hW'
 obtain⟨al',hal⟩:=Go.Gk.TopReportsArePermitted_true l hl []
 refine(Kux (Lfe hal) W hT hv).mono fun e W' ⟨he,bel⟩=>?_
 subst he
 exact⟨_,rfl,_,_,_,[],_,[],hW',trodAll_mk1 (shut_bool Tryz.underlying4 _),(trodAll_cons_mk (Below.trod Lqu (by kernel_rfl) (of_decide_eq_true (by kernel_rfl)) k0 bel lt0) trodAll_mk0),rfl,bel.frame _,fun h=>by cases h⟩
theorem Kui:Rows.laid_unicode_utf8_first=Lib.firstData:=by kernel_rfl
theorem Kuj:(Rows.laid_unicode_utf8_acceptRanges:DataW Unit)=Lib.acceptData:=by kernel_rfl
theorem Kuk:(Rows.laid_math_bits_deBruijn64tab:DataW Unit)=Lib.tabData .u8 (Lib.deBruijn64tab.map fun n:Nat=>(n:Int)):=by kernel_rfl
theorem Kul:(Rows.laid_internal_strconv_uint64pow10:DataW Unit)=Lib.tabData .u64 Lib.pow10Tab:=by kernel_rfl
theorem Kum{P:Program}{W:World}{name:String}{k:IntKind}{zs:List Int}{g:Nat}{t e:TypeId}{n:Nat}(h:Lib.VarReads P W name (Lib.tabData k zs))
  (hg:P.globalNamed name=some g) (hty:(P.globals[g]?).map (·.type)=some t) (ht:P.underlying t=some (.array n e)) (he:P.underlying e=some (.int k)) (hce:P.cellsOf e=1) (hct:P.cellsOf t=n) :
  Lib.TabIs P W name k zs:=by
 obtain⟨g',t',cs,fuel,p,hg',ht',hvar,hd⟩:=h
 obtain rfl:=Option.some.inj (hg.symm.trans hg')
 obtain rfl:=Option.some.inj (hty.symm.trans ht')
 unfold Lib.TabIs
 rw[hvar,←Lib.cells_of_tab ht he hce hct hd]
theorem Kun{P:Program}{W:World}{name:String}{k:IntKind}{zs:List Int}{g:Nat}(hg:P.globalNamed name=some g)(h:Lib.TabIs P W name k zs):Go.Gk.TabN g k zs W:=by
 unfold Lib.TabIs World.var? at h
 rw[hg] at h
 simp only[Option.bind_some] at h
 split at h
 ·rename_i cs t e hh
  exact⟨t,e,by rw[hh,Option.some.inj h]⟩
 cases h
theorem Kuo{P:Program}{W:World}{name:String}{zs:List Nat}{g:Nat}(hg:P.globalNamed name=some g)(h:Lib.TabIs P W name .u8 (zs.map fun n:Nat=>(n:Int))):Go.Gk.TabB g zs W:=fun j hj=>by
 have:=h.cell hg j (by simpa using hj)
 rw[this]
 simp[List.getD,hj]
theorem Kup{P:Program}{W:World}{name nm:String}{d:DataW Unit}{g:Nat}{t:TypeId}{ms:Array (String×TypeId)}(h:Lib.VarReads P W name (.iface nm d))
  (hg:P.globalNamed name=some g) (hty:(P.globals[g]?).map (·.type)=some t) (ht:P.underlying t=some (.interface ms)):Go.Gk.ErrV g W:=by
 obtain⟨g',t',cs,fuel,p,hg',ht',hvar,hd⟩:=h
 obtain rfl:=Option.some.inj (hg.symm.trans hg')
 obtain rfl:=Option.some.inj (hty.symm.trans ht')
 obtain⟨_,u,v,hcs,_⟩:=iface_of_trod ht hd
 have:=World.var?_cell hg hvar 0
 rw[←Array.getElem?_toList,hcs] at this
 exact⟨u,v,this⟩
theorem Kuq(W:World)(hL:laidMetH Tryz.prog Rows.topReportsArePermittedRow.laid W)(hsh:W.ShapedOpen Tryz.prog):Go.Gk.TabX W:=by
 have h3:=Lib.laidMet.reads (n:= "math/bits.deBruijn64tab") (d:=Rows.laid_math_bits_deBruijn64tab) (l:=Rows.topReportsArePermittedRow.laid) hL (.tail _ (.head _))
 have h4:=Lib.laidMet.reads (n:= "internal/strconv.uint64pow10") (d:=Rows.laid_internal_strconv_uint64pow10) (l:=Rows.topReportsArePermittedRow.laid) hL (.tail _ (.tail _ (.head _)))
 have h1:=Lib.laidMet.reads (n:= "unicode/utf8.acceptRanges") (d:=Rows.laid_unicode_utf8_acceptRanges) (l:=Rows.topReportsArePermittedRow.laid) hL (.tail _ (.tail _ (.tail _ (.head _))))
 have h5:=Lib.laidMet.reads (n:= "strconv.ErrRange") (d:=Rows.laid_strconv_ErrRange) (l:=Rows.topReportsArePermittedRow.laid) hL (.tail _ (.tail _ (.tail _ (.tail _ (.head _)))))
 have h6:=Lib.laidMet.reads (n:= "strconv.ErrSyntax") (d:=Rows.laid_strconv_ErrSyntax) (l:=Rows.topReportsArePermittedRow.laid) hL (.tail _ (.tail _ (.tail _ (.tail _ (.tail _ (.head _))))))
 have h2:=Lib.laidMet.reads (n:= "unicode/utf8.first") (d:=Rows.laid_unicode_utf8_first) (l:=Rows.topReportsArePermittedRow.laid) hL (.tail _ (.tail _ (.tail _ (.tail _ (.tail _ (.tail _ (.head _)))))))
 rw[Kui] at h2
 rw[Kuj] at h1
 rw[Kuk] at h3
 rw[Kul] at h4
 have n3:(Tryz.prog).globalNamed "math/bits.deBruijn64tab" = some 5:=by kernel_rfl
 have n4:(Tryz.prog).globalNamed "internal/strconv.uint64pow10" = some 1:=by kernel_rfl
 exact⟨utf8Tabs_of_readsT ({ Tryz.lays160 with }:U8Types Tryz.prog Tryz.lays160_ren) ⟨by kernel_rfl,by kernel_rfl,by kernel_rfl,by kernel_rfl,by kernel_rfl,by kernel_rfl,by kernel_rfl⟩ h2 h1,
  cell_of_shapedOpen_int (t:=3) (zero:=#[.int .i64 0]) hsh (of_decide_eq_true (by kernel_rfl)) (by kernel_rfl) rfl (by kernel_rfl) (by kernel_rfl) Tryz.underlying3,
  Kun n4 (Kum h4 n4 (by kernel_rfl) (t:=309) (n:=20) (e:=44) (by kernel_rfl) (by kernel_rfl) (by kernel_rfl) (by kernel_rfl)),
  Kuo n3 (Kum h3 n3 (by kernel_rfl) (t:=351) (n:=64) (e:=5) (by kernel_rfl) (by kernel_rfl) (by kernel_rfl) (by kernel_rfl)),
  Kup h6 (show(Tryz.prog).globalNamed "strconv.ErrSyntax" = some 6 by kernel_rfl) (by kernel_rfl) Tryz.underlying242,
  Kup h5 (show(Tryz.prog).globalNamed "strconv.ErrRange" = some 7 by kernel_rfl) (by kernel_rfl) Tryz.underlying242⟩
theorem Kur(os:Os):laidMet Tryz.prog Rows.topReportsArePermittedRow.laid ((World.laidAll Tryz.prog os Rows.topReportsArePermittedRow.laid).forCall (fun _ _=>0) ⟨#[],#[.slice none 0 0],[]⟩).memory:=
 laidMet_laidAll _ (by kernel_rfl) (by kernel_rfl)
theorem reads(os:Os){H:Type}(enc:TypeId×Value→H):∃ places,DataW.whole enc Tryz.prog ((World.laidAll Tryz.prog os Rows.topReportsArePermittedRow.laid).forCall (fun _ _=>0) ⟨#[],#[.slice none 0 0],[]⟩).memory Tryz.f3.params.toList Rows.topReportsArePermittedSpec.vars false #[Value.slice none 0 0].toList 8=some ([.nil],[],places):=
 ⟨[],by kernel_rfl⟩
theorem lifted(os:Os)(started:os.Started)(H:Type)(enc:TypeId×Value→H)(F:Stop.Interp) :
  ReturnsInHanded {} Tryz.checked os 3 .any ((OpenSpec.ofChange Rows.topReportsArePermittedSpec).preRow enc Tryz.prog Tryz.f3 Rows.topReportsArePermittedRow.domain false Rows.topReportsArePermittedRow.laid) (((OpenSpec.ofChange Rows.topReportsArePermittedSpec).at F).post enc Tryz.prog Tryz.f3 false true false false):=by
 obtain⟨places,hx⟩:=reads os enc
 refine returnsInHanded_of_row (C:=Tryz.checked) (s:=OpenSpec.ofChange Rows.topReportsArePermittedSpec) own started (by kernel_rfl) Tryz.func3
  (witness_row_at (enc:=enc) (C:=Tryz.checked) false (World.laidAll Tryz.prog os Rows.topReportsArePermittedRow.laid) #[.slice none 0 0] (World.laidAll_os _ _ _) (by kernel_rfl) (by kernel_rfl) (by kernel_rfl)
   (OpenSpec.preRow_of_cond 8 hx (by kernel_rfl) (fun k hk=>by cases hk) (by kernel_rfl) (Kur os))) ?_
 intro W base args ds gs before hval hW _ _ _ hL hsh _
 exact contract H enc W base args ds gs before hval hW (Kuq W hL hsh)
theorem said:Rows.TopReportsArePermittedSaid:=
 OpenClaim.holds_of_cond 3 Tryz.f3 rfl rfl rfl rfl rfl rfl rfl ⟨rfl,rfl,rfl,rfl,rfl⟩ rfl rfl rfl rfl rfl (by kernel_rfl) Tryz.func3 closed
  (of_decide_eq_true (by as_aux_lemma=>kernel_rfl)) (by unfold Func.isWrapper;first | (rw[if_pos (by decide +kernel)];kernel_rfl) | (rw[if_neg (by decide +kernel)];exact⟨rfl,rfl⟩))
  (fun os started H enc _ F=>by rw[OpenClaim.pre_eq_preRow];exact lifted os started H enc F)
theorem plain (f:FuncId) (fn:Func) (hf:Tryz.pinned.checked.prog.funcNamed "holloway/lanetop.TopReportsArePermitted" = some f) (hfn:Tryz.pinned.checked.prog.funcs[f]?=some fn) :
  true=Tryz.pinned.checked.prog.looks []∧∀ (j:Nat) t,fn.params[j]?=some t→Tryz.pinned.checked.prog.wantsStandIn t=false:=by
 obtain rfl:f=3:=Option.some.inj ((show Tryz.prog.funcNamed "holloway/lanetop.TopReportsArePermitted" = some 3 by kernel_rfl).symm.trans hf) |>.symm
 obtain rfl:fn=Tryz.f3:=(Option.some.inj (Tryz.func3.symm.trans hfn)).symm
 refine⟨by kernel_rfl,fun j t ht=>?_⟩
 rw[Tryz.params3] at ht
 obtain rfl:t=22:=by simpa using Array.mem_of_getElem? ht
 exact(show Tryz.prog.wantsStandIn 22=false by kernel_rfl)
theorem card:Rows.TopReportsArePermittedCardSaid:=
 Claim7.holds_tied_plain_at .later [] _ _ _ _ said (fun _ h=>by cases h) (by as_aux_lemma=>kernel_rfl) (fun _ h=>by cases h) topReportsArePermitted_row_tie rfl ⟨rfl,rfl⟩ (by as_aux_lemma=>kernel_rfl) rfl plain (by as_aux_lemma=>kernel_rfl)
#print axioms card
end Go.Proofs.YtcihhlhmkcaeeaaGreatDoor.treports
