import Derived.Test.YtcihhlhmkcaeeaaGreatDoorXPM
import Derived.Test.YtcihhlhmkcaeeaaGreatDoorGt
import Derived.Test.YtcihhlhmkcaeeaaGreatDoorStr
import Derived.Test.YtcihhlhmkcaeeaaGreatDoorStrC
import Derived.Test.YtcihhlhmkcaeeaaGreatDoorStrJ
import Derived.Test.YtcihhlhmkcaeeaaGreatDoorStr4
import Derived.Test.YtcihhlhmkcaeeaaGreatDoorStrSS
import Derived.Test.YtcihhlhmkcaeeaaGreatDoorStrB
import Derived.Test.YtcihhlhmkcaeeaaGreatDoorSoW
import Derived.Test.YtcihhlhmkcaeeaaGreatDoorGk49
import Derived.Test.YtcihhlhmkcaeeaaGreatDoorGk66
import Derived.Test.YtcihhlhmkcaeeaaGreatDoorGk68
import Derived.Test.YtcihhlhmkcaeeaaGreatDoorGk70
import Derived.Test.YtcihhlhmkcaeeaaGreatDoorGk53
import Derived.Test.YtcihhlhmkcaeeaaGreatDoorGk57
import Derived.Test.YtcihhlhmkcaeeaaGreatDoorSoLays
import Derived.Test.YtcihhlhmkcaeeaaGreatDoorXPW3
set_option maxHeartbeats 8000000
set_option linter.all false
set_option maxRecDepth 100000
namespace Go.Proofs.YtcihhlhmkcaeeaaGreatDoor
open Go.Gk
theorem Lln{k:Nat}{v:Kxu}{v_g:Kxk}{r:List Kxt}(h:Ldi k v v_g=some r):EC Tryz.prog 63 [.ptr 5 0,.agg (gt v_g)] [QB v,QE v,Q2 v,QH v,QK v,Qc v] fun g hp'=>g=.d (Sl Lfv r)∧hp'=[QB v,QE v,Q2 v,QH v,QK v,Qc v]:=by
 unfold Ldi at h
 refine QN Tryz.func63 E Z<|gA 2 E<|Kqo E E E E Z<|Kqo E E E E Z<|gO 17 E<|bK h fun q4 hq4 h5=>Kef 9 E fun hb7=>Kid [(2,.ptr 6 0),(3,.ptr 7 0),(5,.d (Sl Lfv q4))] [QB v,QE v,Q2 v,QH v,QK v,Qc v,Q6,.box 115 (gt v_g)] ?_ ?_
 ·refine gA 1 E<|Kfp v_g.Src hq4 (fun i1 s2=>[(2,.ptr 6 0),(3,.ptr 7 0),(5,.d (Sl Lfv s2)),(9,.d (Sl Lfk v_g.Src)),(10,I (v_g.Src.length:Int)),(11,I (i1:Int))]) (fun s2=>[QB v,QE v,Q2 v,QH v,QK v,Qc v,Q6,.box 115 (gt v_g)]) ⟨⟨E,E,E,E,E,E,tV⟩,[],E,.inl E⟩ (fun i1 x3 s2 y11 hx8 hlt hy9=>?_) (?_)
  ·refine gA 6 E<|Kdo E (dT (Int.ofNat_lt.2 hlt))<|gA 6 E<|eo_o E (Keg hΓ (enc:=Lfk) (Kdz hx8) E E E E E (fun _=>E))<|gO 1 E<|Kqn hΓ E E E Z<|Kqs hΓ E E E E E E E E Z<|Kfg [QB v,QE v,Q2 v,QH v,QK v,Qc v,Q6,.box 115 (gt v_g),.box 146 (gm x3)] E<|bK hy9 fun y12 hy12 h13=>gO 6 E<|Kew [0,1,2,3,4,5] (.d (Sl Lfv y12)) [QB v,QE v,Q2 v,QH v,QK v,Qc v,Q6,.box 115 (gt v_g),.box 146 (gm x3)] C (Lld hy12) E Z E E E E E E E E E E<|bK h13 fun y14 hy14 h15=>Kex C (Lle hy14) E Z E E E E E<|gO 8 E ?_
   cases h15
   exact⟨⟨E,E,E,E,E,Kcs E (Kcr (nLl hlt hb7)),tV⟩,[_],E,.inr ⟨HB.mk E,FB.mk E,Z⟩⟩
  exact gA 6 E<|Kdp E (dF (Int.lt_irrefl _))<|gA 4 E<|⟨⟨E,E,E,tV⟩,[],E,.inl E⟩
 refine gA 10 E<|jC E h5 (fun h16=>?_) fun h17=>bK h17 fun y18 hy18 h19=>gA 7 E<|Kew [0,1,2,3,4,5,7,6] (.d (Sl Lfv y18)) [QB v,QE v,Q2 v,QH v,QK v,Qc v,Q6,.box 115 (gt v_g)] C (Llj hy18) E Z E E E E E E E E E E<|bK h19 fun y20 hy20 h21=>Kex C (Llm hy20) E Z E E E E E<|gO 4 E<|oSi h21▸Kfn hΓ [_,_] (.inr E) E E E E (.inr ⟨HB.mk E,E⟩)
 exact gA 8 E<|oSi h16▸Kfn hΓ [_,_] (.inr E) E E E E (.inr ⟨HB.mk E,E⟩)
theorem Llo{k:Nat}{s:Kxq}{al:List Bool}{r:Kxu×(List Bool)}(h:Ldj k s al=some r):EC Tryz.prog 31 [.agg (gD s)] [.bag al [] []] fun g hp'=>g=.ptr 6 0∧hp'=[.bag r.2 [] [],Qpb r.1.owners,Qqb r.1.meets,Qrb r.1.src,Qsb r.1.dst,Qtb r.1.own,.box 139 [.d (Sl Lfr r.1.s.Nodes),.d (Sl Lfg r.1.s.Policy.Groups),.d (Sl Lfj r.1.s.Policy.Hosts),.d (Sl Lfn r.1.s.Policy.Grants),.d (Sl Lfp r.1.s.Policy.Tests),.d (Sl Lfs r.1.s.Facts),.map 1,.map 2,.sl 3 r.1.src.length,.sl 4 r.1.dst.length,.map 5]]:=by
 unfold Ldj at h
 refine QM Tryz.func31 E Z<|gA 2 E<|Kqo E E E E Z<|gO 6 E<|eo_s Z (nblt.1 E) (Kjn false)<|Kfg [.bag al [] [],.box 35 (gD s),Qr] E<|eo_s Z (nblt.1 E) (Kjn false)<|Kfg [.bag al [] [],.box 35 (gD s),Qr,Qw] E<|eo_s Z (nblt.1 E) (Kjn false)<|Kfg [.bag al [] [],.box 35 (gD s),Qr,Qw,Qs] E<|eo_s Z (nblt.1 E) (Kiy 136 1 9 (Kiy 142 1 8 (OpP.s (Kiw hΓ [8,9] (gs:=[.d (Sl Lfr s.Nodes),.d (Sl Lfg s.Policy.Groups),.d (Sl Lfj s.Policy.Hosts),.d (Sl Lfn s.Policy.Grants),.d (Sl Lfp s.Policy.Tests),.d (Sl Lfs s.Facts),.map 2,.map 3,.d (.v (.slice none 0 0)),.d (.v (.slice none 0 0)),.map 4]) E E E E E E)) E) E)<|Kqo E E E E Z<|gO 5 E<|eo_s Z (nblt.1 E) (Kjn false)<|Kfg [.bag al [] [],.box 35 (gD s),Qr,Qw,Qs,QA,Qq,Qa s,Qub ([]:List (Str×(Tl Kxe)))] E<|gO 12 E<|bK h fun q4 hq4 h5=>Kef 26 E fun hb7=>Kid [(1,.ptr 1 0),(3,.ptr 7 0),(4,.map 8)] [.bag q4.1 [] [],.box 35 (gD s),Qpb q4.2.1,Qw,Qs,QA,Qq,Qa s,Qub q4.2.2] ?_ ?_
 ·refine gA 1 E<|Kfp s.Nodes hq4 (fun i1 s2=>[(1,.ptr 1 0),(3,.ptr 7 0),(4,.map 8),(26,.d (Sl Lfr s.Nodes)),(27,I (s.Nodes.length:Int)),(28,I (i1:Int))]) (fun s2=>[.bag s2.1 [] [],.box 35 (gD s),Qpb s2.2.1,Qw,Qs,QA,Qq,Qa s,Qub s2.2.2]) ⟨⟨E,E,E,E,E,E,tV⟩,[],E,.inl E⟩ (fun i1 x3 s2 y11 hx8 hlt hy9=>?_) (?_)
  ·refine gA 6 E<|Kdo E (dT (Int.ofNat_lt.2 hlt))<|gA 7 E<|eo_o E (Keg hΓ (enc:=Lfr) (Kdz hx8) E E E E E (fun _=>E))<|gO 1 E<|Kqn hΓ E E E Z<|gO 1 E<|Kqs hΓ E E E E E E E E Z<|Kfg [.bag s2.1 [] [],.box 35 (gD s),Qpb s2.2.1,Qw,Qs,QA,Qq,Qa s,Qub s2.2.2,.box 103 (gB x3)] E<|gO 11 E<|bK hy9 fun q15 hq15 h16=>Kef 34 E fun hb18=>Kid [(1,.ptr 1 0),(3,.ptr 7 0),(4,.map 8),(6,.ptr 9 0),(26,.d (Sl Lfr s.Nodes)),(27,I (s.Nodes.length:Int)),(28,I (i1:Int))] [.bag s2.1 [] [],.box 35 (gD s),Qpb q15,Qw,Qs,QA,Qq,Qa s,Qub s2.2.2,.box 103 (gB x3)] ?_ ?_
   ·refine gA 1 E<|Kfp x3.Addrs hq15 (fun i12 s13=>[(1,.ptr 1 0),(3,.ptr 7 0),(4,.map 8),(5,I (i1:Int)),(6,.ptr 9 0),(26,.d (Sl Lfr s.Nodes)),(27,I (s.Nodes.length:Int)),(28,I (i1:Int)),(34,.d (Sl Lfh x3.Addrs)),(35,I (x3.Addrs.length:Int)),(36,I (i12:Int))]) (fun s13=>[.bag s2.1 [] [],.box 35 (gD s),Qpb s13,Qw,Qs,QA,Qq,Qa s,Qub s2.2.2,.box 103 (gB x3)]) ⟨⟨E,E,E,E,E,E,E,E,E,E,E,tV⟩,[],E,.inl E⟩ (fun i12 x14 s13 y22 hx19 hlt hy20=>?_) (?_)
    ·refine gA 6 E<|Kdo E (dT (Int.ofNat_lt.2 hlt))<|gA 6 E<|eo_o E (Keg hΓ (enc:=Lfh) (Kdz hx19) E E E E E (fun _=>E))<|gO 1 E<|Kqn hΓ E E E Z<|Kqs hΓ E E E E E E E E Z<|Kfg [.bag s2.1 [] [],.box 35 (gD s),Qpb s13,Qw,Qs,QA,Qq,Qa s,Qub s2.2.2,.box 103 (gB x3),.box 46 (gh x14)] E<|gO 2 E<|Khd [.dead,.dead,.dead,.dead,.dead,.dead,.dead,Qa s,.dead,.dead,.box 46 (gh x14)] [3,4] [6] [] hmix (by kernel_rfl) (by kernel_rfl) ⟨E,E,tV⟩ Z<|go_E hΓ 6 E<|Khj [.bag s2.1 [] [],.box 35 (gD s),Qpb (mSet s13 x14 (i1:Int)),Qw,Qs,QA,Qq,Qa s,Qub s2.2.2,.box 103 (gB x3),.box 46 (gh x14)] E E (Khl ⟨E,E,tV⟩) (Khp (Klu hΓ (kenc:=Lfh) (agg:=false) (enc:=(eN .i64)) (id:=2) s13 x14 (i1:Int) E E Lhq (fun _=>E) E E E E E))<|Khe<|gA 6 E ?_
     cases hy20
     exact⟨⟨E,E,E,E,E,E,E,E,E,E,Kcs E (Kcr (nLl hlt hb18)),tV⟩,[_],E,.inr ⟨HB.mk E,FB.mk E,Z⟩⟩
    exact gA 6 E<|Kdp E (dF (Int.lt_irrefl _))<|gA 4 E<|⟨⟨E,E,E,E,E,E,E,tV⟩,[],E,.inl E⟩
   refine gA 8 E<|jC E h16 (fun h23=>?_) fun h26=>gA 7 E ?_
   ·refine Khd [.dead,.dead,.dead,.dead,.dead,.dead,.dead,.dead,Qub s2.2.2,.box 103 (gB x3)] [2,5,6,8] [9,10] [10] hmix (by kernel_rfl) (by kernel_rfl) ⟨E,E,tV⟩ Z<|go_E hΓ 6 E<|ge_p E (fun hp hs=>Klk hΓ (kv:=kS) (te:=46) (sz:=3) (enc:=Lfh) s2.2.2 x3.User E E E E Kjh E (hs 8 _ E E) E E E) E<|bK h23 fun y24 hy24 h25=>go_E hΓ 2 E<|ge_h [.bag y24.2 [] [],.box 35 (gD s),Qpb q15,Qw,Qs,QA,Qq,Qa s,Qub s2.2.2,.box 103 (gB x3)] E E E (Khl ⟨E,E,tV⟩) (Kho (Kku hΓ (enc:=Lfh) (bg:=0) hy24 E E E E E E E E (fun _=>E) E E))<|Khj [.bag y24.2 [] [],.box 35 (gD s),Qpb q15,Qw,Qs,QA,Qq,Qa s,Qub (mSet s2.2.2 x3.User y24.1),.box 103 (gB x3)] E E (Khk E) (Khp (Kju hΓ (kv:=kS) (agg:=false) (enc:=(eT 46 3 Lfh)) (id:=8) s2.2.2 x3.User y24.1 E E E Kjh E E E E E))<|Khe<|gA 6 E ?_
    cases h25
    exact⟨⟨E,E,E,E,E,Kcs E (Kcr (nLl hlt hb7)),tV⟩,[_],E,.inr ⟨HB.mk E,FB.mk E,Z⟩⟩
   cases h26
   exact⟨⟨E,E,E,E,E,Kcs E (Kcr (nLl hlt hb7)),tV⟩,[_],E,.inr ⟨HB.mk E,FB.mk E,Z⟩⟩
  exact gA 6 E<|Kdp E (dF (Int.lt_irrefl _))<|gA 4 E<|⟨⟨E,E,E,tV⟩,[],E,.inl E⟩
 refine gA 5 E<|Kkd hΓ (kv:=kS) (agg:=false) (enc:=(eT 46 3 Lfh)) q4.2.2 E E E E E Z (fun mr27 bs28 cl29 hpm30 hbl31 hbn32=>?_)
 refine Kfg [.bag q4.1 [] [],.box 35 (gD s),Qpb q4.2.1,Qw,Qs,QA,Qq,Qa s,Qvb q4.2.2 (rawM kS (eT 46 3 Lfh) mr27 bs28 cl29),.iter 8 cl29 []] E<|gO 2 E<|bK h5 fun q38 hq38 h39=>gA 1 E<|Kkg hq38 hpm30 hbl31 hbn32 (fun s33=>[(1,.ptr 1 0),(3,.ptr 7 0),(62,.ptr 9 0)]) (fun sn35 s33=>[.bag q4.1 [] [],.box 35 (gD s),Qpb q4.2.1,Qw,Qtb s33,QA,Qq,Qa s,Qvb q4.2.2 (rawM kS (eT 46 3 Lfh) mr27 bs28 cl29),.iter 8 cl29 sn35]) ⟨⟨E,E,E,tV⟩,[],E,.inl E⟩ (fun sn35 s33 hdone40 hstep41=>?_)
 refine gA 2 E<|Kke (kv:=kS) (agg:=false) (enc:=(eT 46 3 Lfh)) q4.2.2 mr27 bs28 cl29 sn35 [.bag q4.1 [] [],.box 35 (gD s),Qpb q4.2.1,Qw,Qtb s33,QA,Qq,Qa s,Qub q4.2.2,.dead] E E E E E Z (fun hdsn35=>?_) (fun j36 x34 b37 hjsn35 hbsn35 hnsn35=>?_)
 ·have hqsn35:=hdone40 hdsn35
  subst hqsn35
  refine gO 19 E<|bK h39 fun q45 hq45 h46=>Kef 76 E fun hb48=>Kid [(1,.ptr 1 0),(3,.ptr 7 0)] [.bag q4.1 [] [],.box 35 (gD s),Qpb q4.2.1,Qqb q45,Qtb q38,QA,Qq,Qa s,Qub q4.2.2,.dead] ?_ ?_
  ·refine gA 1 E<|Kfp s.Facts hq45 (fun i42 s43=>[(1,.ptr 1 0),(3,.ptr 7 0),(76,.d (Sl Lfs s.Facts)),(77,I (s.Facts.length:Int)),(78,I (i42:Int))]) (fun s43=>[.bag q4.1 [] [],.box 35 (gD s),Qpb q4.2.1,Qqb s43,Qtb q38,QA,Qq,Qa s,Qub q4.2.2,.dead]) ⟨⟨E,E,E,E,E,tV⟩,[],E,.inl E⟩ (fun i42 x44 s43 y52 hx49 hlt hy50=>?_) (?_)
   ·refine gA 6 E<|Kdo E (dT (Int.ofNat_lt.2 hlt))<|gA 6 E<|eo_o E (Keg hΓ (enc:=Lfs) (Kdz hx49) E E E E E (fun _=>E))<|gO 1 E<|Kqn hΓ E E E Z<|Kqs hΓ E E E E E E E E Z<|Kfg [.bag q4.1 [] [],.box 35 (gD s),Qpb q4.2.1,Qqb s43,Qtb q38,QA,Qq,Qa s,Qub q4.2.2,.dead,.box 63 (gC x44)] E<|gO 2 E<|Khd [.dead,.dead,.dead,.dead,.dead,.dead,.dead,Qa s,.dead,.dead,.box 63 (gC x44)] [3,4] [5] [] hmix (by kernel_rfl) (by kernel_rfl) ⟨E,E,tV⟩ Z<|go_E hΓ 5 E<|Khj [.bag q4.1 [] [],.box 35 (gD s),Qpb q4.2.1,Qqb (mSet s43 x44 true),Qtb q38,QA,Qq,Qa s,Qub q4.2.2,.dead,.box 63 (gC x44)] E E (Khl ⟨E,E,tV⟩) (Khp (Klu hΓ (kenc:=Lfs) (agg:=false) (enc:=eB) (id:=3) s43 x44 true E E Lhr (fun _=>E) E E E E E))<|Khe<|gA 6 E ?_
    cases hy50
    exact⟨⟨E,E,E,E,Kcs E (Kcr (nLl hlt hb48)),tV⟩,[_],E,.inr ⟨HB.mk E,FB.mk E,Z⟩⟩
   exact gA 6 E<|Kdp E (dF (Int.lt_irrefl _))<|gA 4 E<|⟨⟨E,E,tV⟩,[],E,.inl E⟩
  refine gA 11 E<|bK h46 fun q56 hq56 h57=>Kef 90 E fun hb59=>Kid [(3,.ptr 7 0)] [.bag q4.1 [] [],.box 35 (gD s),Qpb q4.2.1,Qqb q45,Qtb q38,Qrb q56.1,Qsb q56.2,.box 139 [.d (Sl Lfr s.Nodes),.d (Sl Lfg s.Policy.Groups),.d (Sl Lfj s.Policy.Hosts),.d (Sl Lfn s.Policy.Grants),.d (Sl Lfp s.Policy.Tests),.d (Sl Lfs s.Facts),.map 2,.map 3,.sl 5 q56.1.length,.sl 6 q56.2.length,.map 4],Qub q4.2.2,.dead] ?_ ?_
  ·refine gA 1 E<|Kfp s.Policy.Grants hq56 (fun i53 s54=>[(3,.ptr 7 0),(90,.d (Sl Lfn s.Policy.Grants)),(91,I (s.Policy.Grants.length:Int)),(92,I (i53:Int))]) (fun s54=>[.bag q4.1 [] [],.box 35 (gD s),Qpb q4.2.1,Qqb q45,Qtb q38,Qrb s54.1,Qsb s54.2,.box 139 [.d (Sl Lfr s.Nodes),.d (Sl Lfg s.Policy.Groups),.d (Sl Lfj s.Policy.Hosts),.d (Sl Lfn s.Policy.Grants),.d (Sl Lfp s.Policy.Tests),.d (Sl Lfs s.Facts),.map 2,.map 3,.sl 5 s54.1.length,.sl 6 s54.2.length,.map 4],Qub q4.2.2,.dead]) ⟨⟨E,E,E,E,tV⟩,[],E,.inl E⟩ (fun i53 x55 s54 y63 hx60 hlt hy61=>?_) (?_)
   ·refine gA 6 E<|Kdo E (dT (Int.ofNat_lt.2 hlt))<|gA 6 E<|eo_o E (Keg hΓ (enc:=Lfn) (Kdz hx60) E E E E E (fun _=>E))<|gO 1 E<|Kqn hΓ E E E Z<|Kqs hΓ E E E E E E E E Z<|Kfg [.bag q4.1 [] [],.box 35 (gD s),Qpb q4.2.1,Qqb q45,Qtb q38,Qrb s54.1,Qsb s54.2,.box 139 [.d (Sl Lfr s.Nodes),.d (Sl Lfg s.Policy.Groups),.d (Sl Lfj s.Policy.Hosts),.d (Sl Lfn s.Policy.Grants),.d (Sl Lfp s.Policy.Tests),.d (Sl Lfs s.Facts),.map 2,.map 3,.sl 5 s54.1.length,.sl 6 s54.2.length,.map 4],Qub q4.2.2,.dead,.box 115 (gt x55)] E<|gO 3 E<|Khd [.dead,.dead,.dead,.dead,.dead,.dead,.dead,.box 139 [.d (Sl Lfr s.Nodes),.d (Sl Lfg s.Policy.Groups),.d (Sl Lfj s.Policy.Hosts),.d (Sl Lfn s.Policy.Grants),.d (Sl Lfp s.Policy.Tests),.d (Sl Lfs s.Facts),.map 2,.map 3,.sl 5 s54.1.length,.sl 6 s54.2.length,.map 4],.dead,.dead,.box 115 (gt x55)] [4,6] [7,9,12] [9,12] hmix (by kernel_rfl) (by kernel_rfl) ⟨E,E,tV⟩ Z<|bK hy61 fun y64 hy64 h65=>go_E hΓ 7 E<|ge_h [.bag q4.1 [] [],.box 35 (gD s),Qpb q4.2.1,Qqb q45,Qtb q38,Qrb s54.1,Qsb s54.2,.box 139 [.d (Sl Lfr s.Nodes),.d (Sl Lfg s.Policy.Groups),.d (Sl Lfj s.Policy.Hosts),.d (Sl Lfn s.Policy.Grants),.d (Sl Lfp s.Policy.Tests),.d (Sl Lfs s.Facts),.map 2,.map 3,.sl 5 s54.1.length,.sl 6 s54.2.length,.map 4],Qub q4.2.2,.dead,.box 115 (gt x55)] E E E (Khl ⟨E,E,tV⟩) (Khq [2,3,5,6,4,7] (.d (Sl Lfv y64)) [.bag q4.1 [] [],.box 35 (gD s),Qpb q4.2.1,Qqb q45,Qtb q38,Qrb s54.1,Qsb s54.2,.box 139 [.d (Sl Lfr s.Nodes),.d (Sl Lfg s.Policy.Groups),.d (Sl Lfj s.Policy.Hosts),.d (Sl Lfn s.Policy.Grants),.d (Sl Lfp s.Policy.Tests),.d (Sl Lfs s.Facts),.map 2,.map 3,.sl 5 s54.1.length,.sl 6 s54.2.length,.map 4],Qub q4.2.2,.dead,.box 115 (gt x55)] C (Lln hy64) E E E E E E E E E E)<|Khs hΓ (enc:=(eL Lfv)) [y64] E E E E E E E E E E E E<|bK h65 fun y66 hy66 h67=>ge_h [.bag q4.1 [] [],.box 35 (gD s),Qpb q4.2.1,Qqb q45,Qtb q38,.dead,Qsb s54.2,.box 139 [.d (Sl Lfr s.Nodes),.d (Sl Lfg s.Policy.Groups),.d (Sl Lfj s.Policy.Hosts),.d (Sl Lfn s.Policy.Grants),.d (Sl Lfp s.Policy.Tests),.d (Sl Lfs s.Facts),.map 2,.map 3,.junk,.sl 6 s54.2.length,.map 4],Qub q4.2.2,.dead,.box 115 (gt x55),Qrb y66] E E E (Khk E) (Kho (Kjc 5 (Kgt hΓ (enc:=(eL Lfv)) (id:=5) (h2:=show Γ 142=some ⟨_,1,_,_⟩ from E) hy66 E E E E E E E E (fun _=>E) E)))<|go_E hΓ 2 E<|Khj [.bag q4.1 [] [],.box 35 (gD s),Qpb q4.2.1,Qqb q45,Qtb q38,.dead,Qsb s54.2,.box 139 [.d (Sl Lfr s.Nodes),.d (Sl Lfg s.Policy.Groups),.d (Sl Lfj s.Policy.Hosts),.d (Sl Lfn s.Policy.Grants),.d (Sl Lfp s.Policy.Tests),.d (Sl Lfs s.Facts),.map 2,.map 3,.sl 11 y66.length,.sl 6 s54.2.length,.map 4],Qub q4.2.2,.dead,.box 115 (gt x55),Qrb y66] E E (Khk E) (Khp (Kiq hΓ E E E E E E E E E))<|Khe<|gA 1 E<|Kgx 11 5 [.bag q4.1 [] [],.box 35 (gD s),Qpb q4.2.1,Qqb q45,Qtb q38,Qrb y66,Qsb s54.2,.box 139 [.d (Sl Lfr s.Nodes),.d (Sl Lfg s.Policy.Groups),.d (Sl Lfj s.Policy.Hosts),.d (Sl Lfn s.Policy.Grants),.d (Sl Lfp s.Policy.Tests),.d (Sl Lfs s.Facts),.map 2,.map 3,.sl 5 y66.length,.sl 6 s54.2.length,.map 4],Qub q4.2.2,.dead,.box 115 (gt x55),.dead] E E E E E E<|gA 2 E<|Keu (t:=0) 142 1 E Z<|gO 11 E<|bK h67 fun q71 hq71 h72=>Kef 109 E fun hb74=>Kid [(3,.ptr 7 0),(15,.sl 12 q71.length),(90,.d (Sl Lfn s.Policy.Grants)),(91,I (s.Policy.Grants.length:Int)),(92,I (i53:Int))] [.bag q4.1 [] [],.box 35 (gD s),Qpb q4.2.1,Qqb q45,Qtb q38,Qrb y66,Qsb s54.2,.box 139 [.d (Sl Lfr s.Nodes),.d (Sl Lfg s.Policy.Groups),.d (Sl Lfj s.Policy.Hosts),.d (Sl Lfn s.Policy.Grants),.d (Sl Lfp s.Policy.Tests),.d (Sl Lfs s.Facts),.map 2,.map 3,.sl 5 y66.length,.sl 6 s54.2.length,.map 4],Qub q4.2.2,.dead,.box 115 (gt x55),.dead,Qrb q71] ?_ ?_
    ·refine gA 1 E<|Kfp x55.Dst hq71 (fun i68 s69=>[(3,.ptr 7 0),(15,.sl 12 s69.length),(90,.d (Sl Lfn s.Policy.Grants)),(91,I (s.Policy.Grants.length:Int)),(92,I (i53:Int)),(109,.d (Sl Lfm x55.Dst)),(110,I (x55.Dst.length:Int)),(111,I (i68:Int))]) (fun s69=>[.bag q4.1 [] [],.box 35 (gD s),Qpb q4.2.1,Qqb q45,Qtb q38,Qrb y66,Qsb s54.2,.box 139 [.d (Sl Lfr s.Nodes),.d (Sl Lfg s.Policy.Groups),.d (Sl Lfj s.Policy.Hosts),.d (Sl Lfn s.Policy.Grants),.d (Sl Lfp s.Policy.Tests),.d (Sl Lfs s.Facts),.map 2,.map 3,.sl 5 y66.length,.sl 6 s54.2.length,.map 4],Qub q4.2.2,.dead,.box 115 (gt x55),.dead,Qrb s69]) ⟨⟨E,E,E,E,E,E,E,E,tV⟩,[],E,.inl E⟩ (fun i68 x70 s69 y78 hx75 hlt hy76=>?_) (?_)
     ·refine gA 6 E<|Kdo E (dT (Int.ofNat_lt.2 hlt))<|gA 6 E<|eo_o E (Keg hΓ (enc:=Lfm) (Kdz hx75) E E E E E (fun _=>E))<|gO 1 E<|Kqn hΓ E E E Z<|Kqs hΓ E E E E E E E E Z<|Kfg [.bag q4.1 [] [],.box 35 (gD s),Qpb q4.2.1,Qqb q45,Qtb q38,Qrb y66,Qsb s54.2,.box 139 [.d (Sl Lfr s.Nodes),.d (Sl Lfg s.Policy.Groups),.d (Sl Lfj s.Policy.Hosts),.d (Sl Lfn s.Policy.Grants),.d (Sl Lfp s.Policy.Tests),.d (Sl Lfs s.Facts),.map 2,.map 3,.sl 5 y66.length,.sl 6 s54.2.length,.map 4],Qub q4.2.2,.dead,.box 115 (gt x55),.dead,Qrb s69,.box 150 (gp x70)] E<|bK hy76 fun y79 hy79 h80=>gO 7 E<|Kew [2,3,5,6,4,7] (.d (Sl Lfv y79)) [.bag q4.1 [] [],.box 35 (gD s),Qpb q4.2.1,Qqb q45,Qtb q38,Qrb y66,Qsb s54.2,.box 139 [.d (Sl Lfr s.Nodes),.d (Sl Lfg s.Policy.Groups),.d (Sl Lfj s.Policy.Hosts),.d (Sl Lfn s.Policy.Grants),.d (Sl Lfp s.Policy.Tests),.d (Sl Lfs s.Facts),.map 2,.map 3,.sl 5 y66.length,.sl 6 s54.2.length,.map 4],Qub q4.2.2,.dead,.box 115 (gt x55),.dead,Qrb s69,.box 150 (gp x70)] C (Lld hy79) E Z E E E E E E E E E E<|Ker hΓ (enc:=(eL Lfv)) [y79] E E E E E E E E E E E E Z<|bK h80 fun y81 hy81 h82=>Kfh hΓ (enc:=(eL Lfv)) hy81 E E E E E E E E E (fun _=>E) E E E E<|gO 8 E ?_
      cases h82
      exact⟨⟨E,E,E,E,E,E,E,Kcs E (Kcr (nLl hlt hb74)),tV⟩,[_],E,.inr ⟨HB.mk E,FB.mk E,Z⟩⟩
     exact gA 6 E<|Kdp E (dF (Int.lt_irrefl _))<|gA 4 E<|⟨⟨E,E,E,E,E,tV⟩,[],E,.inl E⟩
    refine gA 8 E<|Kfd 12 [15,128] _ [.bag q4.1 [] [],.box 35 (gD s),Qpb q4.2.1,Qqb q45,Qtb q38,Qrb y66,Qsb s54.2,.box 139 [.d (Sl Lfr s.Nodes),.d (Sl Lfg s.Policy.Groups),.d (Sl Lfj s.Policy.Hosts),.d (Sl Lfn s.Policy.Grants),.d (Sl Lfp s.Policy.Tests),.d (Sl Lfs s.Facts),.map 2,.map 3,.sl 5 y66.length,.sl 6 s54.2.length,.map 4],Qub q4.2.2,.dead,.box 115 (gt x55),.dead,.dead] E E E Z<|Ker hΓ (enc:=(eL (eL Lfv))) [q71] E E E E E E E E E E E E Z<|bK h72 fun y83 hy83 h84=>Kjb 6 [.bag q4.1 [] [],.box 35 (gD s),Qpb q4.2.1,Qqb q45,Qtb q38,Qrb y66,Qsb s54.2,.box 139 [.d (Sl Lfr s.Nodes),.d (Sl Lfg s.Policy.Groups),.d (Sl Lfj s.Policy.Hosts),.d (Sl Lfn s.Policy.Grants),.d (Sl Lfp s.Policy.Tests),.d (Sl Lfs s.Facts),.map 2,.map 3,.sl 5 y66.length,.junk,.map 4],Qub q4.2.2,.dead,.box 115 (gt x55),.dead,.dead] E Z<|Kfh hΓ (enc:=(eL (eL Lfv))) hy83 E E E E E E E E E (fun _=>E) E E E E<|gO 2 E<|Kqs hΓ E E E E E E E E Z<|Kfg [.bag q4.1 [] [],.box 35 (gD s),Qpb q4.2.1,Qqb q45,Qtb q38,Qrb y66,Qsb y83,.box 139 [.d (Sl Lfr s.Nodes),.d (Sl Lfg s.Policy.Groups),.d (Sl Lfj s.Policy.Hosts),.d (Sl Lfn s.Policy.Grants),.d (Sl Lfp s.Policy.Tests),.d (Sl Lfs s.Facts),.map 2,.map 3,.sl 5 y66.length,.sl 6 y83.length,.map 4],Qub q4.2.2,.dead,.box 115 (gt x55),.dead,.dead] E<|gO 7 E ?_
    cases h84
    exact⟨⟨E,E,E,Kcs E (Kcr (nLl hlt hb59)),tV⟩,[_,_,_],E,.inr ⟨HB.mk E,FB.mk E,Z⟩⟩
   exact gA 6 E<|Kdp E (dF (Int.lt_irrefl _))<|gA 4 E<|⟨⟨E,tV⟩,[],E,.inl E⟩
  exact gA 8 E<|Kki 1 [.bag q4.1 [] [],.dead,Qpb q4.2.1,Qqb q45,Qtb q38,Qrb q56.1,Qsb q56.2,.box 139 [.d (Sl Lfr s.Nodes),.d (Sl Lfg s.Policy.Groups),.d (Sl Lfj s.Policy.Hosts),.d (Sl Lfn s.Policy.Grants),.d (Sl Lfp s.Policy.Tests),.d (Sl Lfs s.Facts),.map 2,.map 3,.sl 5 q56.1.length,.sl 6 q56.2.length,.map 4],Qub q4.2.2,.dead] E Z<|Kib 2 1 [.bag q4.1 [] [],Qpb q4.2.1,.dead,Qqb q45,Qtb q38,Qrb q56.1,Qsb q56.2,.box 139 [.d (Sl Lfr s.Nodes),.d (Sl Lfg s.Policy.Groups),.d (Sl Lfj s.Policy.Hosts),.d (Sl Lfn s.Policy.Grants),.d (Sl Lfp s.Policy.Tests),.d (Sl Lfs s.Facts),.map 1,.map 3,.sl 5 q56.1.length,.sl 6 q56.2.length,.map 4],Qub q4.2.2,.dead] E E E E E E<|Kib 3 2 [.bag q4.1 [] [],Qpb q4.2.1,Qqb q45,.dead,Qtb q38,Qrb q56.1,Qsb q56.2,.box 139 [.d (Sl Lfr s.Nodes),.d (Sl Lfg s.Policy.Groups),.d (Sl Lfj s.Policy.Hosts),.d (Sl Lfn s.Policy.Grants),.d (Sl Lfp s.Policy.Tests),.d (Sl Lfs s.Facts),.map 1,.map 2,.sl 5 q56.1.length,.sl 6 q56.2.length,.map 4],Qub q4.2.2,.dead] E E E E E E<|Kib 5 3 [.bag q4.1 [] [],Qpb q4.2.1,Qqb q45,Qrb q56.1,Qtb q38,.dead,Qsb q56.2,.box 139 [.d (Sl Lfr s.Nodes),.d (Sl Lfg s.Policy.Groups),.d (Sl Lfj s.Policy.Hosts),.d (Sl Lfn s.Policy.Grants),.d (Sl Lfp s.Policy.Tests),.d (Sl Lfs s.Facts),.map 1,.map 2,.sl 3 q56.1.length,.sl 6 q56.2.length,.map 4],Qub q4.2.2,.dead] E E E E E E<|Kkl Z<|Kib 4 10 [.bag q4.1 [] [],Qpb q4.2.1,Qqb q45,Qrb q56.1,.dead,.dead,Qsb q56.2,.box 139 [.d (Sl Lfr s.Nodes),.d (Sl Lfg s.Policy.Groups),.d (Sl Lfj s.Policy.Hosts),.d (Sl Lfn s.Policy.Grants),.d (Sl Lfp s.Policy.Tests),.d (Sl Lfs s.Facts),.map 1,.map 2,.sl 3 q56.1.length,.sl 6 q56.2.length,.map 10],Qub q4.2.2,.dead,Qtb q38] E E E E E E<|Kib 6 4 [.bag q4.1 [] [],Qpb q4.2.1,Qqb q45,Qrb q56.1,Qsb q56.2,.dead,.dead,.box 139 [.d (Sl Lfr s.Nodes),.d (Sl Lfg s.Policy.Groups),.d (Sl Lfj s.Policy.Hosts),.d (Sl Lfn s.Policy.Grants),.d (Sl Lfp s.Policy.Tests),.d (Sl Lfs s.Facts),.map 1,.map 2,.sl 3 q56.1.length,.sl 4 q56.2.length,.map 10],Qub q4.2.2,.dead,Qtb q38] E E E E E E<|Kib 10 5 [.bag q4.1 [] [],Qpb q4.2.1,Qqb q45,Qrb q56.1,Qsb q56.2,Qtb q38,.dead,.box 139 [.d (Sl Lfr s.Nodes),.d (Sl Lfg s.Policy.Groups),.d (Sl Lfj s.Policy.Hosts),.d (Sl Lfn s.Policy.Grants),.d (Sl Lfp s.Policy.Tests),.d (Sl Lfs s.Facts),.map 1,.map 2,.sl 3 q56.1.length,.sl 4 q56.2.length,.map 5],Qub q4.2.2,.dead,.dead] E E E E E E<|Kib 7 6 [.bag q4.1 [] [],Qpb q4.2.1,Qqb q45,Qrb q56.1,Qsb q56.2,Qtb q38,.box 139 [.d (Sl Lfr s.Nodes),.d (Sl Lfg s.Policy.Groups),.d (Sl Lfj s.Policy.Hosts),.d (Sl Lfn s.Policy.Grants),.d (Sl Lfp s.Policy.Tests),.d (Sl Lfs s.Facts),.map 1,.map 2,.sl 3 q56.1.length,.sl 4 q56.2.length,.map 5],.dead,Qub q4.2.2,.dead,.dead] E E E E E E<|Khz<|oSi h57▸Kfn hΓ [_,_,_,_] (.inr E) E E E E (.inr ⟨HB.mk E,E⟩)
 obtain⟨s85,h86⟩:=hstep41 j36 x34 b37 hjsn35 hbsn35 hnsn35
 have hssn35:=h86
 refine gO 10 E<|eo_o E (Kkf (kv:=kS) (agg:=false) (enc:=(eT 46 3 Lfh)) q4.2.2 mr27 bs28 cl29 sn35 hjsn35 hbsn35 E E E E (fun _=>E))<|gO 1 E<|eo_o E (Kkv (Kqa hΓ (g:=.d (Slt 46 3 Lfh x34.2)) E) G.Le.unt)<|gO 4 E<|Khd [.dead,.dead,.dead,.dead,.dead,.dead,.dead,Qa s] [3] [7] [] hmix (by kernel_rfl) (by kernel_rfl) ⟨E,tV⟩ Z<|bK h86 fun y87 hy87 h88=>go_E hΓ 6 E<|Khr C (Lkh hy87) E E E E E E<|Khj [.bag q4.1 [] [],.box 35 (gD s),Qpb q4.2.1,Qw,Qtb (mSet s33 x34.1 y87),QA,Qq,Qa s,Qvb q4.2.2 (rawM kS (eT 46 3 Lfh) mr27 bs28 cl29),.iter 8 cl29 (sn35++[b37])] E E (Khl ⟨E,tV⟩) (Khp (Kju hΓ (kv:=kS) (agg:=false) (enc:=(eL Lfv)) (id:=4) s33 x34.1 y87 E E E Kjh E E E E E))<|Khe<|gA 1 E ?_
 cases h88
 exact⟨j36,x34,b37,_,hjsn35,hbsn35,hnsn35,hssn35,⟨⟨E,E,E,tV⟩,[],E,.inl E⟩⟩
theorem Llp{v_g:Kxs}{v_r:Kxr}{r:Bool}(h:Ldk v_g v_r=some r):EC Tryz.prog 32 [.ptr 1 0,.agg (gE v_r)] [Qmb v_g.owners,.box 132 [.d (Sl Lfr v_g.nodes),.d (Sl Lfu v_g.list),.map 0]] fun g hp'=>g=B r∧hp'=[Qmb v_g.owners,.box 132 [.d (Sl Lfr v_g.nodes),.d (Sl Lfu v_g.list),.map 0]]:=by
 unfold Ldk at h
 refine QN Tryz.func32 E Z<|gA 2 E<|Kqo E E E E Z<|gO 10 E<|jC E h (fun h1=>?_) fun h2=>gA 3 E<|jD<|gA 7 E<|gl_o E (Kls hΓ (kenc:=Lfh) (agg:=false) (enc:=eS) v_g.owners v_r.Flow.To ([]:Str) E E E Lhq (fun _=>E) E E E E E E E)<|Kdl hΓ 7 E<|oSi h2▸Kfn hΓ [_] (.inr E) E E E E (.inr ⟨HB.mk E,E⟩)
 exact gA 1 E<|jD<|gA 7 E<|gl_o E (Kls hΓ (kenc:=Lfh) (agg:=false) (enc:=eS) v_g.owners v_r.Flow.From ([]:Str) E E E Lhq (fun _=>E) E E E E E E E)<|Kdl hΓ 8 E<|oSi h1▸Kfn hΓ [_] (.inr E) E E E E (.inr ⟨HB.mk E,E⟩)
theorem Llq{v_g:Kxk}{proto:Int}{r:Bool}(h:Ldl v_g proto=some r):Pure Tryz.prog 111 [.agg (gt v_g),I proto] (B r):=by
 unfold Ldl at h
 refine QP Tryz.func111 E E E<|gA 2 E<|Kqo E E E E Z<|gO 9 E<|Kdt 5 [(4,B false),(13,B (((v_g.Proto:Int)==0)||((v_g.Proto:Int)==proto)))] [.box 115 (gt v_g)] ?_ ?_
 ·refine Kpg E E (fun hb=>?_) (fun hb=>?_)
  ·exact gO 6 E<|⟨⟨E,Kct E (or_t hb),tV⟩,[],E,.inl E⟩
  exact gO 6 E<|⟨⟨E,Kct E (or_f hb),tV⟩,[],E,.inl E⟩
 exact gO 4 E<|oSi h▸gP E E
theorem Llr{v_r:Kxt}{x:Kxe}{r:Int}(h:Ldm v_r x=some r):Pure Tryz.prog 165 [.agg (gF v_r),.agg (gh x)] (I r):=by
 unfold Ldm at h
 exact QP Tryz.func165 E E E<|gA 2 E<|Kqo E E E E Z<|Kqo E E E E Z<|bK h fun y1 hy1 h2=>gO 8 E<|Kex C (Ljt hy1) E Z E E E E E<|gO 4 E<|oSi h2▸gP E E
theorem Lls{k:Nat}{x:List Kxt}{target:Kxe}{r:Int×Bool}(h:Ldn k x target=some r):Pure Tryz.prog 164 [.d (Sl Lfv x),.agg (gh target),.fn (.func 165) [] []] (.tup [I r.1,B r.2]):=by
 unfold Ldn at h
 refine QP Tryz.func164 E E E<|gA 2 E<|Kqo E E E E Z<|gO 19 E<|bK h fun q4 hq4 h5=>Kid [(0,.d (Sl Lfv x)),(2,.fn (.func 165) [] []),(4,.ptr 0 0),(8,I (x.length:Int)),(9,I q4)] [.box 46 (gh target)] ?_ ?_
 ·refine gA 1 E<|Kec hq4 (fun s2=>[(0,.d (Sl Lfv x)),(2,.fn (.func 165) [] []),(4,.ptr 0 0),(8,I (x.length:Int)),(9,I s2.1),(10,I s2.2)]) (fun s2=>[.box 46 (gh target)]) ⟨⟨E,E,E,E,E,E,tV⟩,[],E,.inl E⟩ (fun s2 y10 hy8 hout9=>?_)
  refine gA 8 E<|jC E hy8 (fun h11=>?_) fun h18=>gA 4 E ?_
  ·refine gA 15 E<|jD<|bK h11 fun x12 hx12 h13=>gA 3 E<|gl_o E (Keg hΓ (enc:=Lfv) hx12 E E E E E (fun _=>E))<|bK h13 fun y14 hy14 h15=>Kdl hΓ 2 E<|Kez C (Llr hy14) E E E E E E<|Kdl hΓ 3 E<|jC E h15 (fun h16=>?_) fun h17=>gA 5 E<|oSi h17▸⟨_,E,⟨⟨E,E,E,E,E,E,tV⟩,[],E,.inl E⟩⟩
   exact gA 6 E<|oSi h16▸⟨_,E,⟨⟨E,E,E,E,E,E,tV⟩,[],E,.inl E⟩⟩
  cases h18
  obtain rfl:=hout9 _ rfl
  exact⟨⟨E,E,E,E,E,tV⟩,[],E,.inl E⟩
 refine bK h5 fun q19 hq19 h20=>gA 2 E<|Kid [(6,I q4),(7,B q19)] [.box 46 (gh target)] ?_ ?_
 ·refine jD<|gA 5 E<|Kbx E E (fun hb=>?_) (fun hb=>?_)
  ·have h21:=cT hq19 hb
   exact bK h21 fun x22 hx22 h23=>Kdl hΓ 3 E<|Kcu E E (Keg hΓ (enc:=Lfv) hx22 E E E E E (fun _=>E))<|bK h23 fun y24 hy24 h25=>Kdl hΓ 2 E<|Kfa C (Llr hy24) E E E E E E E<|Kdl hΓ 5 E<|oSi h25▸⟨⟨E,E,tV⟩,[],E,.inl E⟩
  have h26:=cF hq19 hb
  exact Kdl hΓ 12 E<|oSi h26▸⟨⟨E,E,tV⟩,[],E,.inl E⟩
 exact gA 2 E<|oSi h20▸gP E E
theorem Llt{k:Nat}{a:List Kxt}{x:Kxe}{r:Bool}(h:Ldo k a x=some r):Pure Tryz.prog 112 [.d (Sl Lfv a),.agg (gh x)] (B r):=by
 unfold Ldo at h
 refine QP Tryz.func112 E E E<|gA 2 E<|Kqo E E E E Z<|bK h fun y1 hy1 h2=>gO 7 E<|Kex C (Lls hy1) E Z E E E E E<|bK h2 fun q3 hq3 h4=>gO 8 E<|Kid [(4,B q3)] [.box 46 (gh x)] ?_ ?_
 ·refine jD<|gA 2 E<|Kbx E E (fun hb=>?_) (fun hb=>?_)
  ·have h5:=cT hq3 hb
   exact Kdl hΓ 28 E<|oSi h5▸⟨⟨E,tV⟩,[],E,.inl E⟩
  have h6:=cF hq3 hb
  refine Kdl hΓ 3 E<|Kbx E E (fun hb=>?_) (fun hb=>?_)
  ·have h7:=cT h6 hb
   refine bK h7 fun x8 hx8 h9=>Kdl hΓ 3 E<|Kcu E E (Keg hΓ (enc:=Lfv) hx8 E E E E E (fun _=>E))<|Kdl hΓ 8 E<|Kbx E E (fun hb=>?_) (fun hb=>?_)
   ·have h10:=cT h9 hb
    exact bK h10 fun x11 hx11 h12=>Kdl hΓ 4 E<|Kcu E E (Keg hΓ (enc:=Lfv) hx11 E E E E E (fun _=>E))<|bK h12 fun y13 hy13 h14=>Kdl hΓ 2 E<|Kfa C (Ljt hy13) E E E E E E E<|Kdl hΓ 5 E<|oSi h14▸⟨⟨E,tV⟩,[],E,.inl E⟩
   have h15:=cF h9 hb
   exact Kdl hΓ 13 E<|oSi h15▸⟨⟨E,tV⟩,[],E,.inl E⟩
  have h16:=cF h6 hb
  exact Kdl hΓ 25 E<|oSi h16▸⟨⟨E,tV⟩,[],E,.inl E⟩
 exact gA 2 E<|oSi h4▸gP E E
theorem Llu{p:Kxi}{n:Int}{r:Bool}(h:Ldp p n=some r):Pure Tryz.prog 113 [.agg (gn p),I n] (B r):=by
 unfold Ldp at h
 refine QP Tryz.func113 E E E<|gA 2 E<|Kqo E E E E Z<|gO 10 E<|Kdt 5 [(4,B false),(14,B ((decide ((p.From:Int)≤n))&&(decide ((n:Int)≤p.To))))] [.box 148 (gn p)] ?_ ?_
 ·refine Kpg E E (fun hb=>?_) (fun hb=>?_)
  ·exact gO 6 E<|⟨⟨E,Kct E (Kft hb),tV⟩,[],E,.inl E⟩
  exact gO 6 E<|⟨⟨E,Kct E (Kfu hb),tV⟩,[],E,.inl E⟩
 exact gO 4 E<|oSi h▸gP E E
theorem Llv{v:Kxu}{a:Kxe}{r:Str}(h:Ldq v a=some r):EC Tryz.prog 166 [.ptr 5 0,.agg (gh a)] [QB v,QE v,Q2 v,QH v,QK v,Qc v] fun g hp'=>g=S r∧hp'=[QB v,QE v,Q2 v,QH v,QK v,Qc v]:=by
 unfold Ldq at h
 refine QN Tryz.func166 E Z<|gA 2 E<|Kqo E E E E Z<|gO 4 E<|jD<|gA 5 E<|gl_o E (Klt hΓ (kenc:=Lfh) (agg:=false) (enc:=(eN .i64)) v.owners a (0:Int) E E E Lhq (fun _=>E) E E E E E E E)<|Kdl hΓ 14 E<|jC E h (fun h1=>?_) fun h2=>bK h2 fun x3 hx3 h4=>gA 10 E<|eo_o E (Keg hΓ (enc:=Lfr) hx3 E E E E E (fun _=>E))<|gO 6 E<|oSi h4▸Kfn hΓ [_] (.inr E) E E E E (.inr ⟨HB.mk E,E⟩)
 exact gA 7 E<|oSi h1▸Kfn hΓ [_] (.inr E) E E E E (.inr ⟨HB.mk E,E⟩)
theorem Llw{k:Nat}{v:Kxu}{i:Int}{v_k:Int}{v_from:Kxe}{v_to:Kxe}{r:Bool}(h:Ldr k v i v_k v_from v_to=some r):EC Tryz.prog 114 [.ptr 5 0,I i,I v_k,.agg (gh v_from),.agg (gh v_to)] [QB v,QE v,Q2 v,QH v,QK v,Qc v] fun g hp'=>g=B r∧hp'=[QB v,QE v,Q2 v,QH v,QK v,Qc v]:=by
 unfold Ldr at h
 refine QN Tryz.func114 E Z<|gA 2 E<|Kqo E E E E Z<|Kqo E E E E Z<|bK h fun x1 hx1 h2=>gO 13 E<|eo_o E (Keg hΓ (enc:=Lfn) hx1 E E E E E (fun _=>E))<|bK h2 fun x3 hx3 h4=>gO 3 E<|eo_o E (Keg hΓ (enc:=Lfm) hx3 E E E E E (fun _=>E))<|gO 6 E<|jC E h4 (fun h5=>?_) fun h13=>bK h13 fun y14 hy14 h15=>gA 6 E<|Kew [0,1,2,3,4,5] (S y14) [QB v,QE v,Q2 v,QH v,QK v,Qc v,.box 46 (gh v_from),.box 46 (gh v_to)] C (Llv hy14) E Z E E E E E E E E E E<|gO 8 E<|bK h15 fun q16 hq16 h17=>Kdt 6 [(10,B false),(51,B q16)] [QB v,QE v,Q2 v,QH v,QK v,Qc v,.box 46 (gh v_from),.box 46 (gh v_to)] ?_ ?_
 ·refine gA 1 E<|jD<|bK h5 fun x6 hx6 h7=>?_
  have hj8:=Kfs hx6
  exact gA 5 E<|gl_o E (Kei hΓ hx6 E E E E E E)<|gl_o E (Keo hΓ (enc:=(eL (eL Lfv))) i.toNat 0 hj8 E E E E (fun _=>E) (g:=.d (Sl (eL Lfv) x6)) E)<|bK h7 fun x9 hx9 h10=>Kdl hΓ 1 E<|gl_o E (Keg hΓ (enc:=(eL Lfv)) hx9 E E E E E (fun _=>E))<|bK h10 fun y11 hy11 h12=>Kdl hΓ 2 E<|Kez C (Llt hy11) E E E E E E<|Kdl hΓ 5 E<|oSi h12▸Kfn hΓ [_,_] (.inr E) E E E E (.inr ⟨HB.mk E,E⟩)
 ·refine Kpg E E (fun hb=>?_) (fun hb=>?_)
  ·have h18:=cT hq16 hb
   exact bK h18 fun y19 hy19 h20=>gO 3 E<|Kpe E<|Kew [0,1,2,3,4,5] (S y19) [QB v,QE v,Q2 v,QH v,QK v,Qc v,.box 46 (gh v_from),.box 46 (gh v_to)] C (Llv hy19) E Z E E E E E E E E E E<|gO 3 E<|oSi h20▸⟨⟨E,E,tV⟩,[],E,.inl E⟩
  have h21:=cF hq16 hb
  exact gO 7 E<|oSi h21▸⟨⟨E,E,tV⟩,[],E,.inl E⟩
 exact gO 4 E<|oSi h17▸Kfn hΓ [_,_] (.inr E) E E E E (.inr ⟨HB.mk E,E⟩)
theorem Llx{k:Nat}{v:Kxu}{i:Int}{f:Kxl}{r:Bool}(h:Lds k v i f=some r):EC Tryz.prog 65 [.ptr 5 0,I i,.agg (gu f)] [QB v,QE v,Q2 v,QH v,QK v,Qc v] fun g hp'=>g=B r∧hp'=[QB v,QE v,Q2 v,QH v,QK v,Qc v]:=by
 unfold Lds at h
 refine QN Tryz.func65 E Z<|gA 2 E<|Kqo E E E E Z<|bK h fun x1 hx1 h2=>gO 12 E<|eo_o E (Keg hΓ (enc:=Lfn) hx1 E E E E E (fun _=>E))<|gO 1 E<|Kqn hΓ E E E Z<|Kqs hΓ E E E E E E E E Z<|Kfg [QB v,QE v,Q2 v,QH v,QK v,Qc v,.box 48 (gu f),.box 115 (gt x1)] E<|bK h2 fun q3 hq3 h4=>gO 4 E<|Kid [(0,.ptr 5 0),(1,I i),(5,.ptr 6 0),(7,.ptr 7 0),(36,B q3)] [QB v,QE v,Q2 v,QH v,QK v,Qc v,.box 48 (gu f),.box 115 (gt x1)] ?_ ?_
 ·refine jD<|bK hq3 fun y5 hy5 h6=>gA 3 E<|Kez C (Llq hy5) E E E E E E<|Kdl hΓ 2 E<|Kbx E E (fun hb=>?_) (fun hb=>?_)
  ·have h7:=cT h6 hb
   exact Kdl hΓ 13 E<|oSi h7▸⟨⟨E,E,E,E,E,tV⟩,[],E,.inl E⟩
  have h8:=cF h6 hb
  refine bK h8 fun x9 hx9 h10=>?_
  have hj11:=Kfs hx9
  exact Kdl hΓ 5 E<|Kcu E E (Kei hΓ hx9 E E E E E E)<|Kcu E E (Keo hΓ (enc:=(eL Lfv)) i.toNat 0 hj11 E E E E (fun _=>E) (g:=.d (Sl Lfv x9)) E)<|bK h10 fun y12 hy12 h13=>Kdl hΓ 2 E<|Kfa C (Llt hy12) E E E E E E E<|Kdl hΓ 3 E<|oSi h13▸⟨⟨E,E,E,E,E,tV⟩,[],E,.inl E⟩
 refine gA 1 E<|jC E h4 (fun h14=>?_) fun h15=>gA 11 E<|bK h15 fun q19 hq19 h20=>Kef 38 E fun hb22=>Kic (R:=fun a21=>q19=.go a21) (fun a21=>[]) (fun a21=>[QB v,QE v,Q2 v,QH v,QK v,Qc v,.box 48 (gu f),.box 115 (gt x1)]) ?_ ?_
 ·exact gA 7 E<|oSi h14▸Kfn hΓ [_,_] (.inr E) E E E E (.inr ⟨HB.mk E,E⟩)
 ·refine gA 1 E<|Kee x1.Dst hq19 (fun i16 s17=>[(0,.ptr 5 0),(1,I i),(5,.ptr 6 0),(38,.d (Sl Lfm x1.Dst)),(39,I (x1.Dst.length:Int)),(40,I (i16:Int))]) (fun s17=>[QB v,QE v,Q2 v,QH v,QK v,Qc v,.box 48 (gu f),.box 115 (gt x1)]) ⟨⟨E,E,E,E,E,E,tV⟩,[],E,.inl E⟩ (fun i16 x18 s17 y26 hx23 hlt hy24 hout25=>?_) (fun s17 hgo=>?_)
  ·refine gA 6 E<|Kdo E (dT (Int.ofNat_lt.2 hlt))<|gA 7 E<|eo_o E (Keg hΓ (enc:=Lfm) (Kdz hx23) E E E E E (fun _=>E))<|gO 1 E<|Kqn hΓ E E E Z<|gO 1 E<|Kqs hΓ E E E E E E E E Z<|Kfg [QB v,QE v,Q2 v,QH v,QK v,Qc v,.box 48 (gu f),.box 115 (gt x1),.box 150 (gp x18)] E<|bK hy24 fun y27 hy27 h28=>gO 8 E<|Kex C (Llu hy27) E Z E E E E E<|gO 1 E<|bK h28 fun q29 hq29 h30=>Kdt 9 [(0,.ptr 5 0),(1,I i),(5,.ptr 6 0),(38,.d (Sl Lfm x1.Dst)),(39,I (x1.Dst.length:Int)),(40,I (i16:Int)),(59,B q29)] [QB v,QE v,Q2 v,QH v,QK v,Qc v,.box 48 (gu f),.box 115 (gt x1),.box 150 (gp x18)] ?_ ?_
   ·refine Kpg E E (fun hb=>?_) (fun hb=>?_)
    ·have h31:=cT hq29 hb
     exact bK h31 fun y32 hy32 h33=>gO 7 E<|Kpe E<|Kew [0,1,2,3,4,5] (B y32) [QB v,QE v,Q2 v,QH v,QK v,Qc v,.box 48 (gu f),.box 115 (gt x1),.box 150 (gp x18)] C (Llw hy32) E Z E E E E E E E E E E<|gO 2 E<|oSi h33▸⟨⟨E,E,E,E,E,E,E,tV⟩,[],E,.inl E⟩
    have h34:=cF hq29 hb
    exact gO 10 E<|oSi h34▸⟨⟨E,E,E,E,E,E,E,tV⟩,[],E,.inl E⟩
   refine gO 2 E<|jC E h30 (fun h35=>?_) fun h38=>gA 7 E ?_
   ·refine gA 8 E<|bK h35 fun v36 hv36 h37=>?_
    cases h37
    obtain rfl:=hout25 _ rfl
    cases h20
    exact gA 4 E<|oSi hv36▸Kfn hΓ [_,_,_] (.inr E) E E E E (.inr ⟨HB.mk E,E⟩)
   cases h38
   exact⟨_,E,⟨⟨E,E,E,E,E,Kcs E (Kcr (nLl hlt hb22)),tV⟩,[_],E,.inr ⟨HB.mk E,FB.mk E,Z⟩⟩⟩
  subst hgo
  exact gA 6 E<|Kdp E (dF (Int.lt_irrefl _))<|gA 4 E<|⟨_,E,⟨tV,[],E,.inl E⟩⟩
 intro a21 ha
 subst ha
 replace h20:=Khx h20
 exact gA 7 E<|oSi h20▸Kfn hΓ [_,_] (.inr E) E E E E (.inr ⟨HB.mk E,E⟩)
theorem Lly{k:Nat}{v:Kxu}{f:Kxl}{r:Bool}(h:Ldt k v f=some r):EC Tryz.prog 33 [.ptr 5 0,.agg (gu f)] [QB v,QE v,Q2 v,QH v,QK v,Qc v] fun g hp'=>g=B r∧hp'=[QB v,QE v,Q2 v,QH v,QK v,Qc v]:=by
 unfold Ldt at h
 refine QN Tryz.func33 E Z<|gA 2 E<|Kqo E E E E Z<|gO 16 E<|bK h fun q4 hq4 h5=>gK hq4 fun hb7 h8=>?_
 replace hb7:=of_decide_eq_true hb7
 refine Kic (R:=fun a6=>q4=.go a6) (fun a6=>[]) (fun a6=>[QB v,QE v,Q2 v,QH v,QK v,Qc v,.box 48 (gu f)]) ?_ ?_
 ·refine gA 1 E<|Kfq h8 (fun i1 s2=>[(0,.ptr 5 0),(3,.ptr 6 0),(12,I (v.s.Policy.Grants.length:Int)),(13,I (i1:Int))]) (fun s2=>[QB v,QE v,Q2 v,QH v,QK v,Qc v,.box 48 (gu f)]) ⟨⟨E,E,E,E,tV⟩,[],E,.inl E⟩ (fun i1 s2 y12 hlt hy10 hout11=>?_) (fun s2 hgo hge=>?_)
  ·refine gA 6 E<|Kdo E (dT hlt)<|bK hy10 fun y13 hy13 h14=>gA 15 E<|Kew [0,1,2,3,4,5] (B y13) [QB v,QE v,Q2 v,QH v,QK v,Qc v,.box 48 (gu f)] C (Llx hy13) E Z E E E E E E E E E E<|gO 2 E<|jC E h14 (fun h15=>?_) fun h18=>gA 7 E<|oSi h18▸⟨_,E,⟨⟨E,E,E,Kcs E (Kcr (by omega)),tV⟩,[],E,.inl E⟩⟩
   refine gA 8 E<|bK h15 fun v16 hv16 h17=>?_
   cases h17
   obtain rfl:=hout11 _ rfl
   cases h5
   exact gA 4 E<|oSi hv16▸Kfn hΓ [_] (.inr E) E E E E (.inr ⟨HB.mk E,E⟩)
  subst hgo
  exact gA 6 E<|Kdp E (dF hge)<|gA 4 E<|⟨_,E,⟨tV,[],E,.inl E⟩⟩
 intro a6 ha
 subst ha
 replace h5:=Khx h5
 exact gA 7 E<|oSi h5▸Kfn hΓ [_] (.inr E) E E E E (.inr ⟨HB.mk E,E⟩)
theorem Llz{k:Nat}{s:Kxq}{l:List Kxr}{al:List Bool}{r:(List Int)×Int×(List Bool)}(h:Ldu k s l al=some r):EC Tryz.prog 7 [.agg (gD s),.d (Sl Lfu l)] [.bag al [] []] fun g hp'=>g=.tup [.d (Sl (eN .i64) r.1),I r.2.1]∧hp'=[.bag r.2.2 [] []]:=by
 unfold Ldu at h
 refine QN Tryz.func7 E Z<|gA 2 E<|Kqo E E E E Z<|bK h fun y1 hy1 h2=>gO 8 E<|Kex C (Ljo hy1) E Z E E E E E<|gO 9 E<|jC E h2 (fun h3=>?_) fun h4=>bK h4 fun y5 hy5 h6=>gA 7 E ?_
 ·exact gA 9 E<|oSi h3▸Kfn hΓ [_] (.inr E) E E E E (.inr ⟨HB.mk E,E⟩)
 rcases y5 with⟨_ | z7,z8⟩
 ·refine Kew [] (.tup [.d (.v (.pointer none)),I z8]) [.bag al [] [],.box 35 (gD s)] C (Ljy hy5) E Z E E E E E E E E E E<|gO 14 E<|jC E h6 (fun h9=>?_) fun h10=>bK h10 fun y11 hy11 h12=>gA 5 E<|Kew [0] (.ptr 7 0) [.bag y11.2 [] [],.box 35 (gD s),Qpb y11.1.owners,Qqb y11.1.meets,Qrb y11.1.src,Qsb y11.1.dst,Qtb y11.1.own,.box 139 [.d (Sl Lfr y11.1.s.Nodes),.d (Sl Lfg y11.1.s.Policy.Groups),.d (Sl Lfj y11.1.s.Policy.Hosts),.d (Sl Lfn y11.1.s.Policy.Grants),.d (Sl Lfp y11.1.s.Policy.Tests),.d (Sl Lfs y11.1.s.Facts),.map 2,.map 3,.sl 4 y11.1.src.length,.sl 5 y11.1.dst.length,.map 6]] C (Llo hy11) E Z E E E E E E E E E E<|gO 5 E<|Keu (t:=0) 3 1 E Z<|gO 10 E<|bK h12 fun q16 hq16 h17=>Kef 32 E fun hb19=>Kid [(10,.sl 8 ([]:List Int).length)] [.bag y11.2 [] [],.box 35 (gD s),Qpb y11.1.owners,Qqb y11.1.meets,Qrb y11.1.src,Qsb y11.1.dst,Qtb y11.1.own,.box 139 [.d (Sl Lfr y11.1.s.Nodes),.d (Sl Lfg y11.1.s.Policy.Groups),.d (Sl Lfj y11.1.s.Policy.Hosts),.d (Sl Lfn y11.1.s.Policy.Grants),.d (Sl Lfp y11.1.s.Policy.Tests),.d (Sl Lfs y11.1.s.Facts),.map 2,.map 3,.sl 4 y11.1.src.length,.sl 5 y11.1.dst.length,.map 6],QD] ?_ ?_
  ·exact gA 9 E<|oSi h9▸Kfn hΓ [_] (.inr E) E E E E (.inr ⟨HB.mk E,E⟩)
  ·refine gA 1 E<|Kfp l hq16 (fun i13 s14=>[(7,.d (.v (.pointer none))),(9,.ptr 7 0),(10,.sl 8 ([]:List Int).length),(32,.d (Sl Lfu l)),(33,I (l.length:Int)),(34,I (i13:Int))]) (fun s14=>[.bag y11.2 [] [],.box 35 (gD s),Qpb y11.1.owners,Qqb y11.1.meets,Qrb y11.1.src,Qsb y11.1.dst,Qtb y11.1.own,.box 139 [.d (Sl Lfr y11.1.s.Nodes),.d (Sl Lfg y11.1.s.Policy.Groups),.d (Sl Lfj y11.1.s.Policy.Hosts),.d (Sl Lfn y11.1.s.Policy.Grants),.d (Sl Lfp y11.1.s.Policy.Tests),.d (Sl Lfs y11.1.s.Facts),.map 2,.map 3,.sl 4 y11.1.src.length,.sl 5 y11.1.dst.length,.map 6],QD]) ⟨⟨E,E,E,E,E,E,tV⟩,[],E,.inl E⟩ (fun i13 x15 s14 y23 hx20 hlt hy21=>?_) (?_)
   ·refine gA 6 E<|Kdo E (dT (Int.ofNat_lt.2 hlt))<|gA 7 E<|eo_o E (Keg hΓ (enc:=Lfu) (Kdz hx20) E E E E E (fun _=>E))<|gO 1 E<|Kqn hΓ E E E Z<|gO 1 E<|Kqs hΓ E E E E E E E E Z<|Kfg [.bag y11.2 [] [],.box 35 (gD s),Qpb y11.1.owners,Qqb y11.1.meets,Qrb y11.1.src,Qsb y11.1.dst,Qtb y11.1.own,.box 139 [.d (Sl Lfr y11.1.s.Nodes),.d (Sl Lfg y11.1.s.Policy.Groups),.d (Sl Lfj y11.1.s.Policy.Hosts),.d (Sl Lfn y11.1.s.Policy.Grants),.d (Sl Lfp y11.1.s.Policy.Tests),.d (Sl Lfs y11.1.s.Facts),.map 2,.map 3,.sl 4 y11.1.src.length,.sl 5 y11.1.dst.length,.map 6],QD,.box 50 (gE x15)] E<|gO 6 E<|Kqn hΓ E E E Z<|Kqs hΓ E E E E E E E E Z<|Kfg [.bag y11.2 [] [],.box 35 (gD s),Qpb y11.1.owners,Qqb y11.1.meets,Qrb y11.1.src,Qsb y11.1.dst,Qtb y11.1.own,.box 139 [.d (Sl Lfr y11.1.s.Nodes),.d (Sl Lfg y11.1.s.Policy.Groups),.d (Sl Lfj y11.1.s.Policy.Hosts),.d (Sl Lfn y11.1.s.Policy.Grants),.d (Sl Lfp y11.1.s.Policy.Tests),.d (Sl Lfs y11.1.s.Facts),.map 2,.map 3,.sl 4 y11.1.src.length,.sl 5 y11.1.dst.length,.map 6],QD,.box 50 (gE x15),.box 48 (gu x15.Flow)] E<|gO 14 E<|Kbn hΓ (gs:=[I x15.Flow.Proto,B x15.Flow.To.Six,U x15.Flow.To.Hi,U x15.Flow.To.Lo,B x15.Flow.From.Six,U x15.Flow.From.Hi,U x15.Flow.From.Lo,I x15.Flow.ToPort,I x15.Flow.FromPort]) E E E E E E E<|Kqn hΓ E E E Z<|Kqs hΓ E E E E E E E E Z<|Kfg [.bag y11.2 [] [],.box 35 (gD s),Qpb y11.1.owners,Qqb y11.1.meets,Qrb y11.1.src,Qsb y11.1.dst,Qtb y11.1.own,.box 139 [.d (Sl Lfr y11.1.s.Nodes),.d (Sl Lfg y11.1.s.Policy.Groups),.d (Sl Lfj y11.1.s.Policy.Hosts),.d (Sl Lfn y11.1.s.Policy.Grants),.d (Sl Lfp y11.1.s.Policy.Tests),.d (Sl Lfs y11.1.s.Facts),.map 2,.map 3,.sl 4 y11.1.src.length,.sl 5 y11.1.dst.length,.map 6],QD,.box 50 (gE x15),.box 48 (gu x15.Flow),.box 48 [I x15.Flow.Proto,B x15.Flow.To.Six,U x15.Flow.To.Hi,U x15.Flow.To.Lo,B x15.Flow.From.Six,U x15.Flow.From.Hi,U x15.Flow.From.Lo,I x15.Flow.ToPort,I x15.Flow.FromPort]] E<|gO 8 E<|bK hy21 fun q24 hq24 h25=>Kdt 4 [(7,.d (.v (.pointer none))),(9,.ptr 7 0),(10,.sl 8 ([]:List Int).length),(11,I (i13:Int)),(13,.ptr 10 0),(14,.ptr 11 0),(32,.d (Sl Lfu l)),(33,I (l.length:Int)),(34,I (i13:Int)),(59,B false)] [.bag y11.2 [] [],.box 35 (gD s),Qpb y11.1.owners,Qqb y11.1.meets,Qrb y11.1.src,Qsb y11.1.dst,Qtb y11.1.own,.box 139 [.d (Sl Lfr y11.1.s.Nodes),.d (Sl Lfg y11.1.s.Policy.Groups),.d (Sl Lfj y11.1.s.Policy.Hosts),.d (Sl Lfn y11.1.s.Policy.Grants),.d (Sl Lfp y11.1.s.Policy.Tests),.d (Sl Lfs y11.1.s.Facts),.map 2,.map 3,.sl 4 y11.1.src.length,.sl 5 y11.1.dst.length,.map 6],QD,.box 50 (gE x15),.box 48 (gu x15.Flow),.box 48 [I x15.Flow.Proto,B x15.Flow.To.Six,U x15.Flow.To.Hi,U x15.Flow.To.Lo,B x15.Flow.From.Six,U x15.Flow.From.Hi,U x15.Flow.From.Lo,I x15.Flow.ToPort,I x15.Flow.FromPort]] ?_ ?_
    ·refine Kpg E E (fun hb=>?_) (fun hb=>?_)
     ·have h26:=cT hq24 hb
      refine gO 2 E ?_
      cases h26
     have h27:=cF hq24 hb
     exact gO 5 E<|⟨⟨E,E,E,E,E,E,E,E,E,E,tV⟩,[],E,.inl E⟩
    refine gO 22 E ?_
    cases h25
    exact⟨⟨E,E,E,E,E,Kcs E (Kcr (nLl hlt hb19)),tV⟩,[_,_,_],E,.inr ⟨HB.mk E,FB.mk E,Z⟩⟩
   exact gA 6 E<|Kdp E (dF (Int.lt_irrefl _))<|gA 4 E<|⟨⟨E,tV⟩,[],E,.inl E⟩
  exact gA 5 E<|Kfd 8 [4,10,77] _ [.bag y11.2 [] [],.box 35 (gD s),Qpb y11.1.owners,Qqb y11.1.meets,Qrb y11.1.src,Qsb y11.1.dst,Qtb y11.1.own,.box 139 [.d (Sl Lfr y11.1.s.Nodes),.d (Sl Lfg y11.1.s.Policy.Groups),.d (Sl Lfj y11.1.s.Policy.Hosts),.d (Sl Lfn y11.1.s.Policy.Grants),.d (Sl Lfp y11.1.s.Policy.Tests),.d (Sl Lfs y11.1.s.Facts),.map 2,.map 3,.sl 4 y11.1.src.length,.sl 5 y11.1.dst.length,.map 6],.dead] E E E Z<|gO 4 E<|oSi h17▸Kfn hΓ [_,_,_,_,_,_,_,_] (.inr E) E E E E (.inr ⟨HB.mk E,E⟩)
 refine Kew [] (.tup [.ptr 3 0,I z8]) [.bag al [] [],.box 35 (gD s),Qmb z7.owners,.box 132 [.d (Sl Lfr z7.nodes),.d (Sl Lfu z7.list),.map 2]] C (Ljz hy5) E Z E E E E E E E E E E<|gO 14 E<|jC E h6 (fun h28=>?_) fun h29=>bK h29 fun y30 hy30 h31=>gA 5 E<|Kew [0] (.ptr 9 0) [.bag y30.2 [] [],.box 35 (gD s),Qmb z7.owners,.box 132 [.d (Sl Lfr z7.nodes),.d (Sl Lfu z7.list),.map 2],Qpb y30.1.owners,Qqb y30.1.meets,Qrb y30.1.src,Qsb y30.1.dst,Qtb y30.1.own,.box 139 [.d (Sl Lfr y30.1.s.Nodes),.d (Sl Lfg y30.1.s.Policy.Groups),.d (Sl Lfj y30.1.s.Policy.Hosts),.d (Sl Lfn y30.1.s.Policy.Grants),.d (Sl Lfp y30.1.s.Policy.Tests),.d (Sl Lfs y30.1.s.Facts),.map 4,.map 5,.sl 6 y30.1.src.length,.sl 7 y30.1.dst.length,.map 8]] C (Llo hy30) E Z E E E E E E E E E E<|gO 5 E<|Keu (t:=0) 3 1 E Z<|gO 10 E<|bK h31 fun q35 hq35 h36=>Kef 32 E fun hb38=>Kid [(10,.sl 10 q35.length)] [.bag y30.2 [] [],.box 35 (gD s),Qmb z7.owners,.box 132 [.d (Sl Lfr z7.nodes),.d (Sl Lfu z7.list),.map 2],Qpb y30.1.owners,Qqb y30.1.meets,Qrb y30.1.src,Qsb y30.1.dst,Qtb y30.1.own,.box 139 [.d (Sl Lfr y30.1.s.Nodes),.d (Sl Lfg y30.1.s.Policy.Groups),.d (Sl Lfj y30.1.s.Policy.Hosts),.d (Sl Lfn y30.1.s.Policy.Grants),.d (Sl Lfp y30.1.s.Policy.Tests),.d (Sl Lfs y30.1.s.Facts),.map 4,.map 5,.sl 6 y30.1.src.length,.sl 7 y30.1.dst.length,.map 8],Qkb q35] ?_ ?_
 ·exact gA 9 E<|oSi h28▸Kfn hΓ [_,_,_] (.inr E) E E E E (.inr ⟨HB.mk E,E⟩)
 ·refine gA 1 E<|Kfp l hq35 (fun i32 s33=>[(7,.ptr 3 0),(9,.ptr 9 0),(10,.sl 10 s33.length),(32,.d (Sl Lfu l)),(33,I (l.length:Int)),(34,I (i32:Int))]) (fun s33=>[.bag y30.2 [] [],.box 35 (gD s),Qmb z7.owners,.box 132 [.d (Sl Lfr z7.nodes),.d (Sl Lfu z7.list),.map 2],Qpb y30.1.owners,Qqb y30.1.meets,Qrb y30.1.src,Qsb y30.1.dst,Qtb y30.1.own,.box 139 [.d (Sl Lfr y30.1.s.Nodes),.d (Sl Lfg y30.1.s.Policy.Groups),.d (Sl Lfj y30.1.s.Policy.Hosts),.d (Sl Lfn y30.1.s.Policy.Grants),.d (Sl Lfp y30.1.s.Policy.Tests),.d (Sl Lfs y30.1.s.Facts),.map 4,.map 5,.sl 6 y30.1.src.length,.sl 7 y30.1.dst.length,.map 8],Qkb s33]) ⟨⟨E,E,E,E,E,E,tV⟩,[],E,.inl E⟩ (fun i32 x34 s33 y42 hx39 hlt hy40=>?_) (?_)
  ·refine gA 6 E<|Kdo E (dT (Int.ofNat_lt.2 hlt))<|gA 7 E<|eo_o E (Keg hΓ (enc:=Lfu) (Kdz hx39) E E E E E (fun _=>E))<|gO 1 E<|Kqn hΓ E E E Z<|gO 1 E<|Kqs hΓ E E E E E E E E Z<|Kfg [.bag y30.2 [] [],.box 35 (gD s),Qmb z7.owners,.box 132 [.d (Sl Lfr z7.nodes),.d (Sl Lfu z7.list),.map 2],Qpb y30.1.owners,Qqb y30.1.meets,Qrb y30.1.src,Qsb y30.1.dst,Qtb y30.1.own,.box 139 [.d (Sl Lfr y30.1.s.Nodes),.d (Sl Lfg y30.1.s.Policy.Groups),.d (Sl Lfj y30.1.s.Policy.Hosts),.d (Sl Lfn y30.1.s.Policy.Grants),.d (Sl Lfp y30.1.s.Policy.Tests),.d (Sl Lfs y30.1.s.Facts),.map 4,.map 5,.sl 6 y30.1.src.length,.sl 7 y30.1.dst.length,.map 8],Qkb s33,.box 50 (gE x34)] E<|gO 6 E<|Kqn hΓ E E E Z<|Kqs hΓ E E E E E E E E Z<|Kfg [.bag y30.2 [] [],.box 35 (gD s),Qmb z7.owners,.box 132 [.d (Sl Lfr z7.nodes),.d (Sl Lfu z7.list),.map 2],Qpb y30.1.owners,Qqb y30.1.meets,Qrb y30.1.src,Qsb y30.1.dst,Qtb y30.1.own,.box 139 [.d (Sl Lfr y30.1.s.Nodes),.d (Sl Lfg y30.1.s.Policy.Groups),.d (Sl Lfj y30.1.s.Policy.Hosts),.d (Sl Lfn y30.1.s.Policy.Grants),.d (Sl Lfp y30.1.s.Policy.Tests),.d (Sl Lfs y30.1.s.Facts),.map 4,.map 5,.sl 6 y30.1.src.length,.sl 7 y30.1.dst.length,.map 8],Qkb s33,.box 50 (gE x34),.box 48 (gu x34.Flow)] E<|gO 14 E<|Kbn hΓ (gs:=[I x34.Flow.Proto,B x34.Flow.To.Six,U x34.Flow.To.Hi,U x34.Flow.To.Lo,B x34.Flow.From.Six,U x34.Flow.From.Hi,U x34.Flow.From.Lo,I x34.Flow.ToPort,I x34.Flow.FromPort]) E E E E E E E<|Kqn hΓ E E E Z<|Kqs hΓ E E E E E E E E Z<|Kfg [.bag y30.2 [] [],.box 35 (gD s),Qmb z7.owners,.box 132 [.d (Sl Lfr z7.nodes),.d (Sl Lfu z7.list),.map 2],Qpb y30.1.owners,Qqb y30.1.meets,Qrb y30.1.src,Qsb y30.1.dst,Qtb y30.1.own,.box 139 [.d (Sl Lfr y30.1.s.Nodes),.d (Sl Lfg y30.1.s.Policy.Groups),.d (Sl Lfj y30.1.s.Policy.Hosts),.d (Sl Lfn y30.1.s.Policy.Grants),.d (Sl Lfp y30.1.s.Policy.Tests),.d (Sl Lfs y30.1.s.Facts),.map 4,.map 5,.sl 6 y30.1.src.length,.sl 7 y30.1.dst.length,.map 8],Qkb s33,.box 50 (gE x34),.box 48 (gu x34.Flow),.box 48 [I x34.Flow.Proto,B x34.Flow.To.Six,U x34.Flow.To.Hi,U x34.Flow.To.Lo,B x34.Flow.From.Six,U x34.Flow.From.Hi,U x34.Flow.From.Lo,I x34.Flow.ToPort,I x34.Flow.FromPort]] E<|gO 8 E<|bK hy40 fun q43 hq43 h44=>Kdt 4 [(7,.ptr 3 0),(9,.ptr 9 0),(10,.sl 10 s33.length),(11,I (i32:Int)),(13,.ptr 12 0),(14,.ptr 13 0),(32,.d (Sl Lfu l)),(33,I (l.length:Int)),(34,I (i32:Int)),(59,B q43)] [.bag y30.2 [] [],.box 35 (gD s),Qmb z7.owners,.box 132 [.d (Sl Lfr z7.nodes),.d (Sl Lfu z7.list),.map 2],Qpb y30.1.owners,Qqb y30.1.meets,Qrb y30.1.src,Qsb y30.1.dst,Qtb y30.1.own,.box 139 [.d (Sl Lfr y30.1.s.Nodes),.d (Sl Lfg y30.1.s.Policy.Groups),.d (Sl Lfj y30.1.s.Policy.Hosts),.d (Sl Lfn y30.1.s.Policy.Grants),.d (Sl Lfp y30.1.s.Policy.Tests),.d (Sl Lfs y30.1.s.Facts),.map 4,.map 5,.sl 6 y30.1.src.length,.sl 7 y30.1.dst.length,.map 8],Qkb s33,.box 50 (gE x34),.box 48 (gu x34.Flow),.box 48 [I x34.Flow.Proto,B x34.Flow.To.Six,U x34.Flow.To.Hi,U x34.Flow.To.Lo,B x34.Flow.From.Six,U x34.Flow.From.Hi,U x34.Flow.From.Lo,I x34.Flow.ToPort,I x34.Flow.FromPort]] ?_ ?_
   ·refine Kpg E E (fun hb=>?_) (fun hb=>?_)
    ·have h45:=cT hq43 hb
     exact bK h45 fun y46 hy46 h47=>gO 2 E<|Kpe E<|Kew [2,3] (B y46) [.bag y30.2 [] [],.box 35 (gD s),Qmb z7.owners,.box 132 [.d (Sl Lfr z7.nodes),.d (Sl Lfu z7.list),.map 2],Qpb y30.1.owners,Qqb y30.1.meets,Qrb y30.1.src,Qsb y30.1.dst,Qtb y30.1.own,.box 139 [.d (Sl Lfr y30.1.s.Nodes),.d (Sl Lfg y30.1.s.Policy.Groups),.d (Sl Lfj y30.1.s.Policy.Hosts),.d (Sl Lfn y30.1.s.Policy.Grants),.d (Sl Lfp y30.1.s.Policy.Tests),.d (Sl Lfs y30.1.s.Facts),.map 4,.map 5,.sl 6 y30.1.src.length,.sl 7 y30.1.dst.length,.map 8],Qkb s33,.box 50 (gE x34),.box 48 (gu x34.Flow),.box 48 [I x34.Flow.Proto,B x34.Flow.To.Six,U x34.Flow.To.Hi,U x34.Flow.To.Lo,B x34.Flow.From.Six,U x34.Flow.From.Hi,U x34.Flow.From.Lo,I x34.Flow.ToPort,I x34.Flow.FromPort]] C (Llp hy46) E Z E E E E E E E E E E<|gO 2 E<|oSi h47▸⟨⟨E,E,E,E,E,E,E,E,E,E,tV⟩,[],E,.inl E⟩
    have h48:=cF hq43 hb
    exact gO 5 E<|oSi h48▸⟨⟨E,E,E,E,E,E,E,E,E,E,tV⟩,[],E,.inl E⟩
   refine gO 1 E<|bK h44 fun q49 hq49 h50=>Kdt 5 [(7,.ptr 3 0),(9,.ptr 9 0),(10,.sl 10 s33.length),(11,I (i32:Int)),(14,.ptr 13 0),(32,.d (Sl Lfu l)),(33,I (l.length:Int)),(34,I (i32:Int)),(65,B q49)] [.bag y30.2 [] [],.box 35 (gD s),Qmb z7.owners,.box 132 [.d (Sl Lfr z7.nodes),.d (Sl Lfu z7.list),.map 2],Qpb y30.1.owners,Qqb y30.1.meets,Qrb y30.1.src,Qsb y30.1.dst,Qtb y30.1.own,.box 139 [.d (Sl Lfr y30.1.s.Nodes),.d (Sl Lfg y30.1.s.Policy.Groups),.d (Sl Lfj y30.1.s.Policy.Hosts),.d (Sl Lfn y30.1.s.Policy.Grants),.d (Sl Lfp y30.1.s.Policy.Tests),.d (Sl Lfs y30.1.s.Facts),.map 4,.map 5,.sl 6 y30.1.src.length,.sl 7 y30.1.dst.length,.map 8],Qkb s33,.box 50 (gE x34),.box 48 (gu x34.Flow),.box 48 [I x34.Flow.Proto,B x34.Flow.To.Six,U x34.Flow.To.Hi,U x34.Flow.To.Lo,B x34.Flow.From.Six,U x34.Flow.From.Hi,U x34.Flow.From.Lo,I x34.Flow.ToPort,I x34.Flow.FromPort]] ?_ ?_
   ·refine Kpg E E (fun hb=>?_) (fun hb=>?_)
    ·have h51:=cT hq49 hb
     exact bK h51 fun y52 hy52 h53=>gO 2 E<|Kpe E<|Kew [4,5,6,7,8,9] (B y52) [.bag y30.2 [] [],.box 35 (gD s),Qmb z7.owners,.box 132 [.d (Sl Lfr z7.nodes),.d (Sl Lfu z7.list),.map 2],Qpb y30.1.owners,Qqb y30.1.meets,Qrb y30.1.src,Qsb y30.1.dst,Qtb y30.1.own,.box 139 [.d (Sl Lfr y30.1.s.Nodes),.d (Sl Lfg y30.1.s.Policy.Groups),.d (Sl Lfj y30.1.s.Policy.Hosts),.d (Sl Lfn y30.1.s.Policy.Grants),.d (Sl Lfp y30.1.s.Policy.Tests),.d (Sl Lfs y30.1.s.Facts),.map 4,.map 5,.sl 6 y30.1.src.length,.sl 7 y30.1.dst.length,.map 8],Qkb s33,.box 50 (gE x34),.box 48 (gu x34.Flow),.box 48 [I x34.Flow.Proto,B x34.Flow.To.Six,U x34.Flow.To.Hi,U x34.Flow.To.Lo,B x34.Flow.From.Six,U x34.Flow.From.Hi,U x34.Flow.From.Lo,I x34.Flow.ToPort,I x34.Flow.FromPort]] C (Lly hy52) E Z E E E E E E E E E E<|gO 3 E<|oSi h53▸⟨⟨E,E,E,E,E,E,E,E,E,tV⟩,[],E,.inl E⟩
    have h54:=cF hq49 hb
    exact gO 6 E<|oSi h54▸⟨⟨E,E,E,E,E,E,E,E,E,tV⟩,[],E,.inl E⟩
   refine gO 1 E<|bK h50 fun q55 hq55 h56=>Kdt 5 [(7,.ptr 3 0),(9,.ptr 9 0),(10,.sl 10 s33.length),(11,I (i32:Int)),(32,.d (Sl Lfu l)),(33,I (l.length:Int)),(34,I (i32:Int)),(71,B q55)] [.bag y30.2 [] [],.box 35 (gD s),Qmb z7.owners,.box 132 [.d (Sl Lfr z7.nodes),.d (Sl Lfu z7.list),.map 2],Qpb y30.1.owners,Qqb y30.1.meets,Qrb y30.1.src,Qsb y30.1.dst,Qtb y30.1.own,.box 139 [.d (Sl Lfr y30.1.s.Nodes),.d (Sl Lfg y30.1.s.Policy.Groups),.d (Sl Lfj y30.1.s.Policy.Hosts),.d (Sl Lfn y30.1.s.Policy.Grants),.d (Sl Lfp y30.1.s.Policy.Tests),.d (Sl Lfs y30.1.s.Facts),.map 4,.map 5,.sl 6 y30.1.src.length,.sl 7 y30.1.dst.length,.map 8],Qkb s33,.box 50 (gE x34),.box 48 (gu x34.Flow),.box 48 [I x34.Flow.Proto,B x34.Flow.To.Six,U x34.Flow.To.Hi,U x34.Flow.To.Lo,B x34.Flow.From.Six,U x34.Flow.From.Hi,U x34.Flow.From.Lo,I x34.Flow.ToPort,I x34.Flow.FromPort]] ?_ ?_
   ·refine Kpg E E (fun hb=>?_) (fun hb=>?_)
    ·have h57:=cT hq55 hb
     exact bK h57 fun y58 hy58 h59=>gO 2 E<|Kpe E<|Kew [4,5,6,7,8,9] (B y58) [.bag y30.2 [] [],.box 35 (gD s),Qmb z7.owners,.box 132 [.d (Sl Lfr z7.nodes),.d (Sl Lfu z7.list),.map 2],Qpb y30.1.owners,Qqb y30.1.meets,Qrb y30.1.src,Qsb y30.1.dst,Qtb y30.1.own,.box 139 [.d (Sl Lfr y30.1.s.Nodes),.d (Sl Lfg y30.1.s.Policy.Groups),.d (Sl Lfj y30.1.s.Policy.Hosts),.d (Sl Lfn y30.1.s.Policy.Grants),.d (Sl Lfp y30.1.s.Policy.Tests),.d (Sl Lfs y30.1.s.Facts),.map 4,.map 5,.sl 6 y30.1.src.length,.sl 7 y30.1.dst.length,.map 8],Qkb s33,.box 50 (gE x34),.box 48 (gu x34.Flow),.box 48 [I x34.Flow.Proto,B x34.Flow.To.Six,U x34.Flow.To.Hi,U x34.Flow.To.Lo,B x34.Flow.From.Six,U x34.Flow.From.Hi,U x34.Flow.From.Lo,I x34.Flow.ToPort,I x34.Flow.FromPort]] C (Lly hy58) E Z E E E E E E E E E E<|gO 3 E<|oSi h59▸⟨⟨E,E,E,E,E,E,E,E,tV⟩,[],E,.inl E⟩
    have h60:=cF hq55 hb
    exact gO 6 E<|oSi h60▸⟨⟨E,E,E,E,E,E,E,E,tV⟩,[],E,.inl E⟩
   refine gO 2 E<|jC E h56 (fun h61=>?_) fun h64=>gA 7 E ?_
   ·refine gA 3 E<|Ker hΓ (enc:=(eN .i64)) [(i32:Int)] E E E E E E E E E E E E Z<|bK h61 fun y62 hy62 h63=>Kfh hΓ (enc:=(eN .i64)) hy62 E E E E E E E E E (fun _=>E) E E E E<|gO 8 E ?_
    cases h63
    exact⟨⟨E,E,E,E,E,Kcs E (Kcr (nLl hlt hb38)),tV⟩,[_,_,_],E,.inr ⟨HB.mk E,FB.mk E,Z⟩⟩
   cases h64
   exact⟨⟨E,E,E,E,E,Kcs E (Kcr (nLl hlt hb38)),tV⟩,[_,_,_],E,.inr ⟨HB.mk E,FB.mk E,Z⟩⟩
  exact gA 6 E<|Kdp E (dF (Int.lt_irrefl _))<|gA 4 E<|⟨⟨E,tV⟩,[],E,.inl E⟩
 exact gA 5 E<|Kfd 10 [4,10,77] _ [.bag y30.2 [] [],.box 35 (gD s),Qmb z7.owners,.box 132 [.d (Sl Lfr z7.nodes),.d (Sl Lfu z7.list),.map 2],Qpb y30.1.owners,Qqb y30.1.meets,Qrb y30.1.src,Qsb y30.1.dst,Qtb y30.1.own,.box 139 [.d (Sl Lfr y30.1.s.Nodes),.d (Sl Lfg y30.1.s.Policy.Groups),.d (Sl Lfj y30.1.s.Policy.Hosts),.d (Sl Lfn y30.1.s.Policy.Grants),.d (Sl Lfp y30.1.s.Policy.Tests),.d (Sl Lfs y30.1.s.Facts),.map 4,.map 5,.sl 6 y30.1.src.length,.sl 7 y30.1.dst.length,.map 8],.dead] E E E Z<|gO 4 E<|oSi h36▸Kfn hΓ [_,_,_,_,_,_,_,_,_,_] (.inr E) E E E E (.inr ⟨HB.mk E,E⟩)
theorem Lma{k:Nat}{a:Kxe}{r:(Int×Int×Int×Int×Int×Int×Int×Int)}(h:Ldv k a=some r):Pure Tryz.prog 117 [.agg (gh a)] (.agg [U r.1,U r.2.1,U r.2.2.1,U r.2.2.2.1,U r.2.2.2.2.1,U r.2.2.2.2.2.1,U r.2.2.2.2.2.2.1,U r.2.2.2.2.2.2.2]):=by
 unfold Ldv at h
 refine QP Tryz.func117 E E E<|gA 2 E<|Kqo E E E E Z<|Kqn hΓ E E E Z<|gO 4 E<|Kqn hΓ E E E Z<|gO 8 E<|bK h fun q4 hq4 h5=>Kid [(2,.ptr 1 0),(3,.ptr 2 0)] [.box 46 (gh a),Qx,.box 195 [U q4.1,U q4.2.1,U q4.2.2.1,U q4.2.2.2.1,U q4.2.2.2.2.1,U q4.2.2.2.2.2.1,U q4.2.2.2.2.2.2.1,U q4.2.2.2.2.2.2.2]] ?_ ?_
 ·refine gA 1 E<|Kec hq4 (fun s2=>[(1,.ptr 0 0),(2,.ptr 1 0),(3,.ptr 2 0),(5,I s2.2)]) (fun s2=>[.box 46 (gh a),Qx,.box 195 [U s2.1.1,U s2.1.2.1,U s2.1.2.2.1,U s2.1.2.2.2.1,U s2.1.2.2.2.2.1,U s2.1.2.2.2.2.2.1,U s2.1.2.2.2.2.2.2.1,U s2.1.2.2.2.2.2.2.2]]) ⟨⟨E,E,E,E,tV⟩,[],E,.inl E⟩ (fun s2 y10 hy8 hout9=>?_)
  refine gA 6 E<|jC E hy8 (fun h11=>?_) fun h20=>gA 4 E ?_
  ·exact bK h11 fun y12 hy12 h13=>gA 18 E<|eo_o E (Kgc hy12 E E)<|bK h13 fun x14 hx14 h15=>gO 1 E<|eo_o E (Klc hΓ hx14 E E E E E E)<|eo_u Z (Kle hΓ (l:=([s2.1.1,s2.1.2.1,s2.1.2.2.1,s2.1.2.2.2.1,s2.1.2.2.2.2.1,s2.1.2.2.2.2.2.1,s2.1.2.2.2.2.2.2.1,s2.1.2.2.2.2.2.2.2]:List Int)) (v:=(bitsV .and .u64 y12 65535)) (f:=fun z=>.d (.v (.int .u64 z))) hx14 E E E E E E E E E E)<|Kfg [.box 46 (gh a),Qx,.box 195 [U (updA s2.2 0 (bitsV .and .u64 y12 65535) s2.1.1),U (updA s2.2 1 (bitsV .and .u64 y12 65535) s2.1.2.1),U (updA s2.2 2 (bitsV .and .u64 y12 65535) s2.1.2.2.1),U (updA s2.2 3 (bitsV .and .u64 y12 65535) s2.1.2.2.2.1),U (updA s2.2 4 (bitsV .and .u64 y12 65535) s2.1.2.2.2.2.1),U (updA s2.2 5 (bitsV .and .u64 y12 65535) s2.1.2.2.2.2.2.1),U (updA s2.2 6 (bitsV .and .u64 y12 65535) s2.1.2.2.2.2.2.2.1),U (updA s2.2 7 (bitsV .and .u64 y12 65535) s2.1.2.2.2.2.2.2.2)]] E<|bK h15 fun y16 hy16 h17=>gO 10 E<|eo_o E (Kgc hy16 E E)<|bK h17 fun x18 hx18 h19=>gO 1 E<|eo_o E (Klc hΓ hx18 E E E E E E)<|eo_u Z (Kle hΓ (l:=([updA s2.2 0 (bitsV .and .u64 y12 65535) s2.1.1,updA s2.2 1 (bitsV .and .u64 y12 65535) s2.1.2.1,updA s2.2 2 (bitsV .and .u64 y12 65535) s2.1.2.2.1,updA s2.2 3 (bitsV .and .u64 y12 65535) s2.1.2.2.2.1,updA s2.2 4 (bitsV .and .u64 y12 65535) s2.1.2.2.2.2.1,updA s2.2 5 (bitsV .and .u64 y12 65535) s2.1.2.2.2.2.2.1,updA s2.2 6 (bitsV .and .u64 y12 65535) s2.1.2.2.2.2.2.2.1,updA s2.2 7 (bitsV .and .u64 y12 65535) s2.1.2.2.2.2.2.2.2]:List Int)) (v:=(bitsV .and .u64 y16 65535)) (f:=fun z=>.d (.v (.int .u64 z))) hx18 E E E E E E E E E E)<|Kfg [.box 46 (gh a),Qx,.box 195 [U (updA (wi (4+s2.2)) 0 (bitsV .and .u64 y16 65535) (updA s2.2 0 (bitsV .and .u64 y12 65535) s2.1.1)),U (updA (wi (4+s2.2)) 1 (bitsV .and .u64 y16 65535) (updA s2.2 1 (bitsV .and .u64 y12 65535) s2.1.2.1)),U (updA (wi (4+s2.2)) 2 (bitsV .and .u64 y16 65535) (updA s2.2 2 (bitsV .and .u64 y12 65535) s2.1.2.2.1)),U (updA (wi (4+s2.2)) 3 (bitsV .and .u64 y16 65535) (updA s2.2 3 (bitsV .and .u64 y12 65535) s2.1.2.2.2.1)),U (updA (wi (4+s2.2)) 4 (bitsV .and .u64 y16 65535) (updA s2.2 4 (bitsV .and .u64 y12 65535) s2.1.2.2.2.2.1)),U (updA (wi (4+s2.2)) 5 (bitsV .and .u64 y16 65535) (updA s2.2 5 (bitsV .and .u64 y12 65535) s2.1.2.2.2.2.2.1)),U (updA (wi (4+s2.2)) 6 (bitsV .and .u64 y16 65535) (updA s2.2 6 (bitsV .and .u64 y12 65535) s2.1.2.2.2.2.2.2.1)),U (updA (wi (4+s2.2)) 7 (bitsV .and .u64 y16 65535) (updA s2.2 7 (bitsV .and .u64 y12 65535) s2.1.2.2.2.2.2.2.2))]] E<|gO 7 E<|oSi h19▸⟨_,E,⟨⟨E,E,E,E,tV⟩,[],E,.inl E⟩⟩
  cases h20
  obtain rfl:=hout9 _ rfl
  exact⟨⟨E,E,tV⟩,[],E,.inl E⟩
 exact gA 4 E<|Kqs hΓ E E E E E E E E Z<|Kfg [.box 46 (gh a),.box 195 [U q4.1,U q4.2.1,U q4.2.2.1,U q4.2.2.2.1,U q4.2.2.2.2.1,U q4.2.2.2.2.2.1,U q4.2.2.2.2.2.2.1,U q4.2.2.2.2.2.2.2],.box 195 [U q4.1,U q4.2.1,U q4.2.2.1,U q4.2.2.2.1,U q4.2.2.2.2.1,U q4.2.2.2.2.2.1,U q4.2.2.2.2.2.2.1,U q4.2.2.2.2.2.2.2]] E<|gO 3 E<|oSi h5▸gP E E
theorem Lmb{k:Nat}{v_g:(Int×Int×Int×Int×Int×Int×Int×Int)}{r:Int×Int}(h:Ldw k v_g=some r):Pure Tryz.prog 118 [.agg [U v_g.1,U v_g.2.1,U v_g.2.2.1,U v_g.2.2.2.1,U v_g.2.2.2.2.1,U v_g.2.2.2.2.2.1,U v_g.2.2.2.2.2.2.1,U v_g.2.2.2.2.2.2.2]] (.tup [I r.1,I r.2]):=by
 unfold Ldw at h
 refine QP Tryz.func118 E E E<|gA 2 E<|Kqo E E E E Z<|gO 10 E<|bK h fun q4 hq4 h5=>Kid [(2,I q4.1),(3,I q4.2)] [Qh v_g] ?_ ?_
 ·refine gA 1 E<|Kec hq4 (fun s2=>[(1,.ptr 0 0),(2,I s2.1),(3,I s2.2.1),(4,I s2.2.2)]) (fun s2=>[Qh v_g]) ⟨⟨E,E,E,E,tV⟩,[],E,.inl E⟩ (fun s2 y10 hy8 hout9=>?_)
  refine gA 7 E<|jC E hy8 (fun h11=>?_) fun h34=>gA 4 E ?_
  ·refine gA 10 E<|bK h11 fun q15 hq15 h16=>Kid [(1,.ptr 0 0),(2,I s2.1),(3,I s2.2.1),(4,I s2.2.2),(5,I q15)] [Qh v_g] ?_ ?_
   ·refine gA 1 E<|Kec hq15 (fun s13=>[(1,.ptr 0 0),(2,I s2.1),(3,I s2.2.1),(4,I s2.2.2),(5,I s13)]) (fun s13=>[Qh v_g]) ⟨⟨E,E,E,E,E,tV⟩,[],E,.inl E⟩ (fun s13 y21 hy19 hout20=>?_)
    refine gA 8 E<|bK hy19 fun q22 hq22 h23=>Kdt 7 [(1,.ptr 0 0),(2,I s2.1),(3,I s2.2.1),(4,I s2.2.2),(5,I s13),(21,B q22)] [Qh v_g] ?_ ?_
    ·refine Kpg E E (fun hb=>?_) (fun hb=>?_)
     ·have h24:=cT hq22 hb
      exact bK h24 fun x25 hx25 h26=>gO 3 E<|Kpe E<|eo_o E (Klc hΓ hx25 E E E E E E)<|Kpe E<|eo_o E (Kld hΓ (f:=fun z=>.d (.v (.int .u64 z))) hx25 E E E E E E)<|gO 3 E<|oSi h26▸⟨⟨E,E,E,E,E,E,tV⟩,[],E,.inl E⟩
     have h27:=cF hq22 hb
     exact gO 8 E<|oSi h27▸⟨⟨E,E,E,E,E,E,tV⟩,[],E,.inl E⟩
    refine gO 2 E<|jC E h23 (fun h28=>?_) fun h29=>gA 4 E ?_
    ·exact gA 9 E<|oSi h28▸⟨_,E,⟨⟨E,E,E,E,E,tV⟩,[],E,.inl E⟩⟩
    cases h29
    obtain rfl:=hout20 _ rfl
    exact⟨⟨E,E,E,E,E,tV⟩,[],E,.inl E⟩
   refine bK h16 fun q30 hq30 h31=>gA 9 E<|Kid [(1,.ptr 0 0),(2,I q30.1),(3,I q30.2),(4,I s2.2.2),(5,I q15)] [Qh v_g] ?_ ?_
   ·refine jC E hq30 (fun h32=>?_) fun h33=>gA 1 E<|oSi h33▸⟨⟨E,E,E,E,E,tV⟩,[],E,.inl E⟩
    exact gA 6 E<|oSi h32▸⟨⟨E,E,E,E,E,tV⟩,[],E,.inl E⟩
   exact gA 14 E<|oSi h31▸⟨_,E,⟨⟨E,E,E,E,tV⟩,[],E,.inl E⟩⟩
  cases h34
  obtain rfl:=hout9 _ rfl
  exact⟨⟨E,E,tV⟩,[],E,.inl E⟩
 exact gA 10 E<|oSi h5▸gP E E
theorem Lmc{k:Nat}{a:Kxe}{r:Str}(h:Ldx k a=some r):Pure Tryz.prog 66 [.agg (gh a)] (S r):=by
 unfold Ldx at h
 refine QP Tryz.func66 E E E<|gA 2 E<|Kqo E E E E Z<|gO 11 E<|jC E h (fun h1=>?_) fun h22=>bK h22 fun y23 hy23 h24=>gA 5 E<|Kex C (Lma hy23) E Z E E E E E<|Kqn hΓ E E E Z<|Kqs hΓ E E E E E E E E Z<|Kfg [.box 46 (gh a),.box 195 [U y23.1,U y23.2.1,U y23.2.2.1,U y23.2.2.2.1,U y23.2.2.2.2.1,U y23.2.2.2.2.2.1,U y23.2.2.2.2.2.2.1,U y23.2.2.2.2.2.2.2]] E<|gO 4 E<|Keu (t:=0) 9 1 E Z<|gO 9 E<|bK h24 fun q28 hq28 h29=>Kid [(5,.ptr 1 0),(6,.sl 2 q28.length)] [.box 46 (gh a),.box 195 [U y23.1,U y23.2.1,U y23.2.2.1,U y23.2.2.2.1,U y23.2.2.2.2.1,U y23.2.2.2.2.2.1,U y23.2.2.2.2.2.2.1,U y23.2.2.2.2.2.2.2],Qcb q28] ?_ ?_
 ·refine gA 2 E<|Keu (t:=0) 9 1 E Z<|gO 8 E<|bK h1 fun q5 hq5 h6=>Kid [(3,.sl 1 q5.length)] [.box 46 (gh a),Qcb q5] ?_ ?_
  ·refine gA 1 E<|Kec hq5 (fun s3=>[(1,.ptr 0 0),(3,.sl 1 s3.1.length),(14,I s3.2)]) (fun s3=>[.box 46 (gh a),Qcb s3.1]) ⟨⟨E,E,E,tV⟩,[],E,.inl E⟩ (fun s3 y11 hy9 hout10=>?_)
   refine gA 6 E<|jC E hy9 (fun h12=>?_) fun h19=>gA 4 E ?_
   ·exact bK h12 fun y13 hy13 h14=>gA 17 E<|eo_o E (Kgc hy13 E E)<|bK h14 fun y15 hy15 h16=>gO 1 E<|Kex C (Ksx hy15) E Z E E E E E<|Ker hΓ (enc:=eS) [y15] E E E E E E E E E E E E Z<|bK h16 fun y17 hy17 h18=>Kfh hΓ (enc:=eS) hy17 E E E E E E E E E (fun _=>E) E E E E<|gO 8 E<|oSi h18▸⟨_,E,⟨⟨E,E,E,tV⟩,[],E,.inl E⟩⟩
   cases h19
   obtain rfl:=hout10 _ rfl
   exact⟨⟨E,tV⟩,[],E,.inl E⟩
  exact gA 2 E<|Kff 1 [3] _ [.box 46 (gh a),.dead] E E E Z<|bK h6 fun y20 hy20 h21=>gA 2 E<|Kex C (Ktm hy20) E Z E E E E E<|gO 5 E<|oSi h21▸gP E E
 ·refine gA 1 E<|Kec hq28 (fun s26=>[(5,.ptr 1 0),(6,.sl 2 s26.1.length),(33,.agg [U y23.1,U y23.2.1,U y23.2.2.1,U y23.2.2.2.1,U y23.2.2.2.2.1,U y23.2.2.2.2.2.1,U y23.2.2.2.2.2.2.1,U y23.2.2.2.2.2.2.2]),(34,I s26.2)]) (fun s26=>[.box 46 (gh a),.box 195 [U y23.1,U y23.2.1,U y23.2.2.1,U y23.2.2.2.1,U y23.2.2.2.2.1,U y23.2.2.2.2.2.1,U y23.2.2.2.2.2.2.1,U y23.2.2.2.2.2.2.2],Qcb s26.1]) ⟨⟨E,E,E,E,tV⟩,[],E,.inl E⟩ (fun s26 y34 hy32 hout33=>?_)
  refine gA 6 E<|jC E hy32 (fun h35=>?_) fun h42=>gA 4 E ?_
  ·exact bK h35 fun x36 hx36 h37=>gA 6 E<|eo_o E (Kjd hΓ (enc:=(eN .u64)) [y23.1,y23.2.1,y23.2.2.1,y23.2.2.2.1,y23.2.2.2.2.1,y23.2.2.2.2.2.1,y23.2.2.2.2.2.2.1,y23.2.2.2.2.2.2.2] hx36 E E E E E E E (fun _=>E) E)<|bK h37 fun y38 hy38 h39=>gO 6 E<|Kex C (Ksx hy38) E Z E E E E E<|Ker hΓ (enc:=eS) [y38] E E E E E E E E E E E E Z<|bK h39 fun y40 hy40 h41=>Kfh hΓ (enc:=eS) hy40 E E E E E E E E E (fun _=>E) E E E E<|gO 8 E<|oSi h41▸⟨_,E,⟨⟨E,E,E,E,tV⟩,[],E,.inl E⟩⟩
  cases h42
  obtain rfl:=hout33 _ rfl
  exact⟨⟨E,E,tV⟩,[],E,.inl E⟩
 refine gA 2 E<|Kff 2 [6] _ [.box 46 (gh a),.box 195 [U y23.1,U y23.2.1,U y23.2.2.1,U y23.2.2.2.1,U y23.2.2.2.2.1,U y23.2.2.2.2.2.1,U y23.2.2.2.2.2.2.1,U y23.2.2.2.2.2.2.2],.dead] E E E Z<|bK h29 fun y43 hy43 h44=>gA 2 E<|Kex C (Lmb hy43) E Z E E E E E<|gO 14 E<|jC E h44 (fun h45=>?_) fun h48=>gA 3 E<|jD<|bK h48 fun z49 hz49 h50=>gA 2 E<|gl_o E (Ken hΓ (enc:=eS) hz49 E E E E E E (fun _=>E))<|bK h50 fun y51 hy51 h52=>Kez C (Ktm hy51) E E E E E E<|bK h52 fun y53 hy53 h54=>gl_o E (Kfj hy53 E E)<|bK h54 fun z55 hz55 h56=>Kdl hΓ 4 E<|gl_o E (Ken hΓ (enc:=eS) hz55 E E E E E E (fun _=>E))<|bK h56 fun y57 hy57 h58=>Kez C (Ktm hy57) E E E E E E<|bK h58 fun y59 hy59 h60=>gl_o E (Kfj hy59 E E)<|Kdl hΓ 4 E<|oSi h60▸gP E E
 exact bK h45 fun y46 hy46 h47=>gA 3 E<|Kex C (Ktm hy46) E Z E E E E E<|gO 5 E<|oSi h47▸gP E E
theorem Lmd{k:Nat}{a:Kxe}{r:Str×Int}(h:Ldy k a=some r):Pure Tryz.prog 34 [.agg (gh a)] (.tup [S r.1,I r.2]):=by
 unfold Ldy at h
 refine QP Tryz.func34 E E E<|gA 2 E<|Kqo E E E E Z<|bK h fun y1 hy1 h2=>gO 8 E<|Kex C (Lir hy1) E Z E E E E E<|gO 9 E<|jC E h2 (fun h3=>?_) fun h4=>bK h4 fun y5 hy5 h6=>gA 5 E<|Kex C (Lmc hy5) E Z E E E E E<|gO 5 E<|oSi h6▸gP E E
 exact gA 9 E<|oSi h3▸gP E E
theorem Lme{s:Str}{r:(List Str)×Bool}(h:Ldz s=some r):Pure Tryz.prog 67 [S s] (.tup [.d (Sl eS r.1),B r.2]):=by
 unfold Ldz at h
 refine QP Tryz.func67 E E E<|bK h fun y1 hy1 h2=>gA 9 E<|Kex C (Pure.rows (Ksu hy1) E E) E Z E E E E E<|bK h2 fun x3 hx3 h4=>gO 16 E<|eo_o E (Keg hΓ (enc:=eS) hx3 E E E E E (fun _=>E))<|gO 4 E<|jC E h4 (fun h5=>?_) fun h8=>gA 10 E<|oSi h8▸gP E E
 exact bK h5 fun z6 hz6 h7=>gA 4 E<|eo_o E (Ken hΓ (enc:=eS) hz6 E E E E E E (fun _=>E))<|gO 6 E<|oSi h7▸gP E E
theorem Lmf{s:Str}{r:(List Str)×Bool}(h:Lea s=some r):Pure Tryz.prog 120 [S s] (.tup [.d (Sl eS r.1),B r.2]):=by
 unfold Lea at h
 exact QP Tryz.func120 E E E<|bK h fun y1 hy1 h2=>gA 9 E<|Kex C (Pure.rows (Ksu hy1) E E) E Z E E E E E<|bK h2 fun y3 hy3 h4=>gO 7 E<|Kex C (Lik hy3) E Z E E E E E<|gO 6 E<|oSi h4▸gP E E
theorem Lmg{r:List Str}(h:Leb=some r):Pure Tryz.prog 220 [] (.d (Sl eS r)):=by
 unfold Leb at h
 exact QP Tryz.func220 E E E<|gA 7 E<|Ker hΓ (enc:=eS) [[],[],[117,115,101,114,58],[103,114,111,117,112,58],[116,97,103,58],[110,111,100,101,58],[104,111,115,116,58]] E E E E E E E E E E E E Z<|gO 4 E<|oSi h▸gP E E
theorem Lmh{s:Str}{r:Kxh×Bool}(h:Lec s=some r):Pure Tryz.prog 175 [S s] (.tup [.agg (gm r.1),B r.2]):=by
 unfold Lec at h
 refine QP Tryz.func175 E E E<|gA 2 E<|Kqn hΓ E E E Z<|gO 16 E<|Kdn E (fun hb=>?_) (fun hb=>?_)
 ·have h1:=cT h hb
  exact gA 2 E<|Kbn hΓ (gs:=[I 1,S [],B false,U 0,U 0,I 0]) E E E E E E E<|Kqs hΓ E E E E E E E E Z<|Kfg [.box 146 [I 1,S [],B false,U 0,U 0,I 0]] E<|gO 6 E<|oSi h1▸gP E E
 have h2:=cF h hb
 refine gA 6 E<|Kdn E (fun hb=>?_) (fun hb=>?_)
 ·have h3:=cT h2 hb
  exact gA 2 E<|Kbn hΓ (gs:=[I 8,S [],B false,U 0,U 0,I 0]) E E E E E E E<|Kqs hΓ E E E E E E E E Z<|Kfg [.box 146 [I 8,S [],B false,U 0,U 0,I 0]] E<|gO 6 E<|oSi h3▸gP E E
 have h4:=cF h2 hb
 refine gA 6 E<|Kdn E (fun hb=>?_) (fun hb=>?_)
 ·have h5:=cT h4 hb
  exact gA 2 E<|Kbn hΓ (gs:=[I 9,S [],B false,U 0,U 0,I 0]) E E E E E E E<|Kqs hΓ E E E E E E E E Z<|Kfg [.box 146 [I 9,S [],B false,U 0,U 0,I 0]] E<|gO 6 E<|oSi h5▸gP E E
 have h6:=cF h4 hb
 refine gA 6 E<|Kdn E (fun hb=>?_) (fun hb=>?_)
 ·have h7:=cT h6 hb
  exact gA 2 E<|Kbn hΓ (gs:=[I 10,S [],B false,U 0,U 0,I 0]) E E E E E E E<|Kqs hΓ E E E E E E E E Z<|Kfg [.box 146 [I 10,S [],B false,U 0,U 0,I 0]] E<|gO 6 E<|oSi h7▸gP E E
 have h8:=cF h6 hb
 refine bK h8 fun y9 hy9 h10=>gA 7 E<|Kex C (Kss hy9) E Z E E E E E<|gO 12 E<|Kdn E (fun hb=>?_) (fun hb=>?_)
 ·have h11:=cT h10 hb
  refine gA 1 E ?_
  cases h11
 have h12:=cF h10 hb
 refine bK h12 fun y13 hy13 h14=>gA 5 E<|Kex C (Lmg hy13) E Z E E E E E<|gO 4 E<|bK h14 fun q18 hq18 h19=>Kef 40 E fun hb21=>Kid [(2,.ptr 0 0)] [Qy] ?_ ?_
 ·refine gA 1 E<|Kfp y13 hq18 (fun i15 s16=>[(0,S s),(2,.ptr 0 0),(40,.d (Sl eS y13)),(41,I (y13.length:Int)),(42,I (i15:Int))]) (fun s16=>[Qy]) ⟨⟨E,E,E,E,E,tV⟩,[],E,.inl E⟩ (fun i15 x17 s16 y25 hx22 hlt hy23=>?_) (?_)
  ·refine gA 6 E<|Kdo E (dT (Int.ofNat_lt.2 hlt))<|gA 7 E<|eo_o E (Keg hΓ (enc:=eS) (Kdz hx22) E E E E E (fun _=>E))<|bK hy23 fun y26 hy26 h27=>gO 9 E<|Kex C (Kss hy26) E Z E E E E E<|gO 11 E<|Kdt 3 [(0,S s),(2,.ptr 0 0),(8,I (i15:Int)),(10,S y26.1),(40,.d (Sl eS y13)),(41,I (y13.length:Int)),(42,I (i15:Int)),(57,B (y26.2&&(!((x17:Str)==[]))))] [Qy] ?_ ?_
   ·refine Kpg E E (fun hb=>?_) (fun hb=>?_)
    ·exact gO 4 E<|⟨⟨E,E,E,E,E,E,E,Kct E (Kft hb),tV⟩,[],E,.inl E⟩
    exact gO 4 E<|⟨⟨E,E,E,E,E,E,E,Kct E (Kfu hb),tV⟩,[],E,.inl E⟩
   refine gO 2 E<|jC E h27 (fun h28=>?_) fun h29=>gA 7 E ?_
   ·refine gA 1 E ?_
    cases h28
   cases h29
   exact⟨⟨E,E,E,E,Kcs E (Kcr (nLl hlt hb21)),tV⟩,[],E,.inl E⟩
  exact gA 6 E<|Kdp E (dF (Int.lt_irrefl _))<|gA 4 E<|⟨⟨E,tV⟩,[],E,.inl E⟩
 exact gA 3 E<|Kbn hΓ (gs:=[I 0,S [],B false,U 0,U 0,I 0]) E E E E E E E<|Kqs hΓ E E E E E E E E Z<|Kfg [Qy] E<|gO 4 E<|oSi h19▸gP E E
theorem Lmi{s:Str}{r:Kxj×Bool}(h:Led s=some r):Pure Tryz.prog 176 [S s] (.tup [.agg (gp r.1),B r.2]):=by
 unfold Led at h
 refine QP Tryz.func176 E E E<|gA 2 E<|Kqn hΓ E E E Z<|bK h fun y1 hy1 h2=>gO 6 E<|Kex C (Ktl hy1) E Z E E E E E<|bK h2 fun y3 hy3 h4=>gO 12 E<|Kex C (Lmh hy3) E Z E E E E E<|gO 3 E<|Kqn hΓ E E E Z<|Kqs hΓ E E E E E E E E Z<|Kfg [Qu,.box 146 (gm y3.1)] E<|gO 4 E<|Khd [.dead,.box 146 (gm y3.1)] [0] [3,4] [] hmix (by kernel_rfl) (by kernel_rfl) ⟨E,tV⟩ Z<|bK h4 fun y5 hy5 h6=>go_E hΓ 1 E<|Khr C (Ljc hy5) E E E E E E<|ge_q E (.inl E) (fun _ _=>Khf (qt_p (Khu hΓ (gs:=[I y3.1.Kind,S y3.1.Name,B y3.1.Net.Addr.Six,U y3.1.Net.Addr.Hi,U y3.1.Net.Addr.Lo,I y3.1.Net.Bits,I y5.From,I y5.To]) E E E E E E)))<|ge_h [Qu,.box 146 (gm y3.1),Qu] E E E (Khl ⟨E,tV⟩) (Kho (Kht hΓ (hi:=show Γ 150=some ⟨_,_,_,_⟩ from E) E))<|Khj [Qu,.box 146 (gm y3.1),.box 150 [I y3.1.Kind,S y3.1.Name,B y3.1.Net.Addr.Six,U y3.1.Net.Addr.Hi,U y3.1.Net.Addr.Lo,I y3.1.Net.Bits,I y5.From,I y5.To]] E E (Khl ⟨E,tV⟩) (Khp (Kiq hΓ E E E E E E E E E))<|Khe<|gA 7 E<|jC E h6 (fun h7=>?_) fun h8=>gA 6 E<|Kqs hΓ E E E E E E E E Z<|Kfg [.box 150 [I y3.1.Kind,S y3.1.Name,B y3.1.Net.Addr.Six,U y3.1.Net.Addr.Hi,U y3.1.Net.Addr.Lo,I y3.1.Net.Bits,I y5.From,I y5.To],.box 146 (gm y3.1),.box 150 [I y3.1.Kind,S y3.1.Name,B y3.1.Net.Addr.Six,U y3.1.Net.Addr.Hi,U y3.1.Net.Addr.Lo,I y3.1.Net.Bits,I y5.From,I y5.To]] E<|gO 4 E<|oSi h8▸gP E E
 refine gA 1 E ?_
 cases h7
theorem Lmj{w:List Str}{r:Kxk×Bool}(h:Lee w=some r):Pure Tryz.prog 123 [.d (Sl eS w)] (.tup [.agg (gt r.1),B r.2]):=by
 unfold Lee at h
 refine QP Tryz.func123 E E E<|gA 2 E<|Kqn hΓ E E E Z<|gO 5 E<|eo_s Z (nblt.1 E) (Kiy 150 8 1 (Kiy 146 6 0 (OpP.s (Kiw hΓ [0,1] (gs:=[.d (.v (.slice none 0 0)),.d (.v (.slice none 0 0)),I 0,.d (Sl eS [])]) E E E E E E)) E) E)<|Kqn hΓ E E E Z<|Kqs hΓ E E E E E E E E Z<|Kfg [Qo,QQ,QR,Ql] E<|gO 9 E<|bK h fun q1 hq1 h2=>Kdt 5 [(0,.d (Sl eS w)),(2,.ptr 0 0),(4,.ptr 3 0),(26,B q1)] [Qo,QQ,QR,Ql] ?_ ?_
 ·refine Kpg E E (fun hb=>?_) (fun hb=>?_)
  ·have h3:=cT hq1 hb
   exact gO 6 E<|oSi h3▸⟨⟨E,E,E,E,tV⟩,[],E,.inl E⟩
  have h4:=cF hq1 hb
  exact bK h4 fun x5 hx5 h6=>gO 1 E<|Kpe E<|eo_o E (Keg hΓ (enc:=eS) hx5 E E E E E (fun _=>E))<|gO 4 E<|oSi h6▸⟨⟨E,E,E,E,tV⟩,[],E,.inl E⟩
 refine gO 2 E<|jC E h2 (fun h7=>?_) fun h8=>bK h8 fun x9 hx9 h10=>gA 6 E<|eo_o E (Keg hΓ (enc:=eS) hx9 E E E E E (fun _=>E))<|bK h10 fun y11 hy11 h12=>gO 1 E<|Kex C (Pure.rows (Ksu hy11) E E) E Z E E E E E<|gO 4 E<|bK h12 fun q16 hq16 h17=>Kef 31 E fun hb19=>Kic (R:=fun a18=>q16=.go a18) (fun a18=>[(0,.d (Sl eS w)),(2,.ptr 0 0),(4,.ptr 3 0)]) (fun a18=>[Qo,Qdb a18,QR,.box 115 [.sl 1 a18.length,.sl 2 ([]:List Kxj).length,I 0,.d (Sl eS [])]]) ?_ ?_
 ·exact gA 3 E<|Kfd 1 [27] _ [Qo,.dead,QR,.box 115 [.d (Sl Lfk ([]:List Kxh)),.sl 2 ([]:List Kxj).length,I 0,.d (Sl eS [])]] E E E Z<|Kfd 2 [27] _ [Qo,.dead,.dead,Qm] E E E Z<|Kqs hΓ E E E E E E E E Z<|Kfg [Qm,.dead,.dead,Qm] E<|gO 5 E<|oSi h7▸gP E E
 ·refine gA 1 E<|Kee y11 hq16 (fun i13 s14=>[(0,.d (Sl eS w)),(2,.ptr 0 0),(4,.ptr 3 0),(31,.d (Sl eS y11)),(32,I (y11.length:Int)),(33,I (i13:Int))]) (fun s14=>[Qo,Qdb s14,QR,.box 115 [.sl 1 s14.length,.sl 2 ([]:List Kxj).length,I 0,.d (Sl eS [])]]) ⟨⟨E,E,E,E,E,E,tV⟩,[],E,.inl E⟩ (fun i13 x15 s14 y23 hx20 hlt hy21 hout22=>?_) (fun s14 hgo=>?_)
  ·refine gA 6 E<|Kdo E (dT (Int.ofNat_lt.2 hlt))<|gA 6 E<|eo_o E (Keg hΓ (enc:=eS) (Kdz hx20) E E E E E (fun _=>E))<|bK hy21 fun y24 hy24 h25=>gO 7 E<|Kex C (Lmh hy24) E Z E E E E E<|gO 3 E<|Kqn hΓ E E E Z<|Kqs hΓ E E E E E E E E Z<|Kfg [Qo,Qdb s14,QR,.box 115 [.sl 1 s14.length,.sl 2 ([]:List Kxj).length,I 0,.d (Sl eS [])],.box 146 (gm y24.1)] E<|gO 10 E<|jC E h25 (fun h26=>?_) fun h29=>gA 6 E<|Ker hΓ (enc:=Lfk) [y24.1] E E E E E E E E E E E E Z<|bK h29 fun y30 hy30 h31=>Kjb 1 [Qo,Qdb s14,QR,.box 115 [.junk,.sl 2 ([]:List Kxj).length,I 0,.d (Sl eS [])],.box 146 (gm y24.1)] E Z<|Kfh hΓ (enc:=Lfk) hy30 E E E E E E E E E (fun _=>E) E E E E<|gO 1 E<|Kqs hΓ E E E E E E E E Z<|Kfg [Qo,Qdb y30,QR,.box 115 [.sl 1 y30.length,.sl 2 ([]:List Kxj).length,I 0,.d (Sl eS [])],.box 146 (gm y24.1)] E<|gO 7 E ?_
   ·refine gA 3 E<|Kfd 1 [44] _ [Qo,.dead,QR,.box 115 [.d (Sl Lfk s14),.sl 2 ([]:List Kxj).length,I 0,.d (Sl eS [])],.box 146 (gm y24.1)] E E E Z<|Kfd 2 [44] _ [Qo,.dead,.dead,.box 115 [.d (Sl Lfk s14),.d (Sl Lfm ([]:List Kxj)),I 0,.d (Sl eS [])],.box 146 (gm y24.1)] E E E Z<|Kqs hΓ E E E E E E E E Z<|Kfg [.box 115 [.d (Sl Lfk s14),.d (Sl Lfm ([]:List Kxj)),I 0,.d (Sl eS [])],.dead,.dead,.box 115 [.d (Sl Lfk s14),.d (Sl Lfm ([]:List Kxj)),I 0,.d (Sl eS [])],.box 146 (gm y24.1)] E<|gO 7 E<|bK h26 fun v27 hv27 h28=>?_
    cases h28
    obtain rfl:=hout22 _ rfl
    cases h17
    exact gA 4 E<|oSi hv27▸gP E E
   cases h31
   exact⟨_,E,⟨⟨E,E,E,E,E,Kcs E (Kcr (nLl hlt hb19)),tV⟩,[_],E,.inr ⟨HB.mk E,FB.mk E,Z⟩⟩⟩
  subst hgo
  exact gA 6 E<|Kdp E (dF (Int.lt_irrefl _))<|gA 4 E<|⟨_,E,⟨⟨E,E,E,tV⟩,[],E,.inl E⟩⟩
 intro a18 ha
 subst ha
 replace h17:=Khx h17
 refine bK h17 fun x32 hx32 h33=>gA 5 E<|eo_o E (Keg hΓ (enc:=eS) hx32 E E E E E (fun _=>E))<|bK h33 fun y34 hy34 h35=>gO 1 E<|Kex C (Pure.rows (Ksu hy34) E E) E Z E E E E E<|gO 4 E<|bK h35 fun q39 hq39 h40=>Kef 55 E fun hb42=>Kic (R:=fun a41=>q39=.go a41) (fun a41=>[(0,.d (Sl eS w)),(2,.ptr 0 0),(4,.ptr 3 0)]) (fun a41=>[Qo,Qdb a18,Qeb a41,.box 115 [.sl 1 a18.length,.sl 2 a41.length,I 0,.d (Sl eS [])]]) ?_ ?_
 ·refine gA 1 E<|Kee y34 hq39 (fun i36 s37=>[(0,.d (Sl eS w)),(2,.ptr 0 0),(4,.ptr 3 0),(55,.d (Sl eS y34)),(56,I (y34.length:Int)),(57,I (i36:Int))]) (fun s37=>[Qo,Qdb a18,Qeb s37,.box 115 [.sl 1 a18.length,.sl 2 s37.length,I 0,.d (Sl eS [])]]) ⟨⟨E,E,E,E,E,E,tV⟩,[],E,.inl E⟩ (fun i36 x38 s37 y46 hx43 hlt hy44 hout45=>?_) (fun s37 hgo=>?_)
  ·refine gA 6 E<|Kdo E (dT (Int.ofNat_lt.2 hlt))<|gA 6 E<|eo_o E (Keg hΓ (enc:=eS) (Kdz hx43) E E E E E (fun _=>E))<|bK hy44 fun y47 hy47 h48=>gO 7 E<|Kex C (Lmi hy47) E Z E E E E E<|gO 3 E<|Kqn hΓ E E E Z<|Kqs hΓ E E E E E E E E Z<|Kfg [Qo,Qdb a18,Qeb s37,.box 115 [.sl 1 a18.length,.sl 2 s37.length,I 0,.d (Sl eS [])],.box 150 (gp y47.1)] E<|gO 10 E<|jC E h48 (fun h49=>?_) fun h52=>gA 6 E<|Ker hΓ (enc:=Lfm) [y47.1] E E E E E E E E E E E E Z<|bK h52 fun y53 hy53 h54=>Kjb 2 [Qo,Qdb a18,Qeb s37,.box 115 [.sl 1 a18.length,.junk,I 0,.d (Sl eS [])],.box 150 (gp y47.1)] E Z<|Kfh hΓ (enc:=Lfm) hy53 E E E E E E E E E (fun _=>E) E E E E<|gO 1 E<|Kqs hΓ E E E E E E E E Z<|Kfg [Qo,Qdb a18,Qeb y53,.box 115 [.sl 1 a18.length,.sl 2 y53.length,I 0,.d (Sl eS [])],.box 150 (gp y47.1)] E<|gO 7 E ?_
   ·refine gA 3 E<|Kfd 1 [68] _ [Qo,.dead,Qeb s37,.box 115 [.d (Sl Lfk a18),.sl 2 s37.length,I 0,.d (Sl eS [])],.box 150 (gp y47.1)] E E E Z<|Kfd 2 [68] _ [Qo,.dead,.dead,.box 115 [.d (Sl Lfk a18),.d (Sl Lfm s37),I 0,.d (Sl eS [])],.box 150 (gp y47.1)] E E E Z<|Kqs hΓ E E E E E E E E Z<|Kfg [.box 115 [.d (Sl Lfk a18),.d (Sl Lfm s37),I 0,.d (Sl eS [])],.dead,.dead,.box 115 [.d (Sl Lfk a18),.d (Sl Lfm s37),I 0,.d (Sl eS [])],.box 150 (gp y47.1)] E<|gO 7 E<|bK h49 fun v50 hv50 h51=>?_
    cases h51
    obtain rfl:=hout45 _ rfl
    cases h40
    exact gA 4 E<|oSi hv50▸gP E E
   cases h54
   exact⟨_,E,⟨⟨E,E,E,E,E,Kcs E (Kcr (nLl hlt hb42)),tV⟩,[_],E,.inr ⟨HB.mk E,FB.mk E,Z⟩⟩⟩
  subst hgo
  exact gA 6 E<|Kdp E (dF (Int.lt_irrefl _))<|gA 4 E<|⟨_,E,⟨⟨E,E,E,tV⟩,[],E,.inl E⟩⟩
 intro a41 ha
 subst ha
 replace h40:=Khx h40
 refine bK h40 fun z55 hz55 h56=>gA 4 E<|eo_o E (Ken hΓ (enc:=eS) hz55 E E E E E E (fun _=>E))<|gO 10 E<|bK h56 fun q57 hq57 h58=>Kdt 5 [(0,.d (Sl eS z55)),(2,.ptr 0 0),(4,.ptr 3 0),(86,B q57)] [Qo,Qdb a18,Qeb a41,.box 115 [.sl 1 a18.length,.sl 2 a41.length,I 0,.d (Sl eS [])]] ?_ ?_
 ·refine Kpg E E (fun hb=>?_) (fun hb=>?_)
  ·have h59:=cT hq57 hb
   exact bK h59 fun x60 hx60 h61=>gO 1 E<|Kpe E<|eo_o E (Keg hΓ (enc:=eS) hx60 E E E E E (fun _=>E))<|gO 4 E<|oSi h61▸⟨⟨E,E,E,E,tV⟩,[],E,.inl E⟩
  have h62:=cF hq57 hb
  exact gO 6 E<|oSi h62▸⟨⟨E,E,E,E,tV⟩,[],E,.inl E⟩
 refine gO 2 E<|jC E h58 (fun h63=>?_) fun h64=>gA 9 E<|bK h64 fun q65 hq65 h66=>Kdt 5 [(0,.d (Sl eS z55)),(2,.ptr 0 0),(4,.ptr 3 0),(113,B q65)] [Qo,Qdb a18,Qeb a41,.box 115 [.sl 1 a18.length,.sl 2 a41.length,I 0,.d (Sl eS [])]] ?_ ?_
 ·refine gA 1 E ?_
  cases h63
 ·refine Kpg E E (fun hb=>?_) (fun hb=>?_)
  ·have h67:=cT hq65 hb
   exact bK h67 fun x68 hx68 h69=>gO 1 E<|Kpe E<|eo_o E (Keg hΓ (enc:=eS) hx68 E E E E E (fun _=>E))<|gO 4 E<|oSi h69▸⟨⟨E,E,E,E,tV⟩,[],E,.inl E⟩
  have h70:=cF hq65 hb
  exact gO 6 E<|oSi h70▸⟨⟨E,E,E,E,tV⟩,[],E,.inl E⟩
 refine bK h66 fun q71 hq71 h72=>gO 2 E<|Kid [(0,.d (Sl eS q71.2)),(2,.ptr 0 0),(4,.ptr 3 0)] [Qo,Qdb a18,Qeb a41,.box 115 [.sl 1 a18.length,.sl 2 a41.length,I 0,.d (Sl eS q71.1)]] ?_ ?_
 ·refine jC E hq71 (fun h73=>?_) fun h89=>gA 1 E<|oSi h89▸⟨⟨E,E,E,tV⟩,[],E,.inl E⟩
  refine bK h73 fun x74 hx74 h75=>gA 3 E<|eo_o E (Keg hΓ (enc:=eS) hx74 E E E E E (fun _=>E))<|bK h75 fun y76 hy76 h77=>gO 1 E<|Kex C (Pure.rows (Ksu hy76) E E) E Z E E E E E<|gO 1 E<|Kqs hΓ E E E E E E E E Z<|Kfg [Qo,Qdb a18,Qeb a41,.box 115 [.sl 1 a18.length,.sl 2 a41.length,I 0,.d (Sl eS y76)]] E<|gO 11 E<|bK h77 fun q81 hq81 h82=>Kef 120 E fun hb84=>Kid [(0,.d (Sl eS [])),(2,.ptr 0 0),(4,.ptr 3 0)] [Qo,Qdb a18,Qeb a41,.box 115 [.sl 1 a18.length,.sl 2 a41.length,I 0,.d (Sl eS y76)]] ?_ ?_
  ·refine gA 1 E<|Kfp y76 hq81 (fun i78 s79=>[(0,.d (Sl eS [])),(2,.ptr 0 0),(4,.ptr 3 0),(120,.d (Sl eS y76)),(121,I (y76.length:Int)),(122,I (i78:Int))]) (fun s79=>[Qo,Qdb a18,Qeb a41,.box 115 [.sl 1 a18.length,.sl 2 a41.length,I 0,.d (Sl eS y76)]]) ⟨⟨E,E,E,E,E,E,tV⟩,[],E,.inl E⟩ (fun i78 x80 s79 y88 hx85 hlt hy86=>?_) (?_)
   ·refine gA 6 E<|Kdo E (dT (Int.ofNat_lt.2 hlt))<|gA 6 E<|eo_o E (Keg hΓ (enc:=eS) (Kdz hx85) E E E E E (fun _=>E))<|gO 5 E ?_
    cases hy86
   exact gA 6 E<|Kdp E (dF (Int.lt_irrefl _))<|gA 4 E<|⟨⟨E,E,E,tV⟩,[],E,.inl E⟩
  exact oSi h82▸⟨⟨E,E,E,tV⟩,[],E,.inl E⟩
 exact gA 7 E<|Kfd 1 [131] _ [Qo,.dead,Qeb a41,.box 115 [.d (Sl Lfk a18),.sl 2 a41.length,I 0,.d (Sl eS q71.1)]] E E E Z<|Kfd 2 [131] _ [Qo,.dead,.dead,.box 115 [.d (Sl Lfk a18),.d (Sl Lfm a41),I 0,.d (Sl eS q71.1)]] E E E Z<|Kqs hΓ E E E E E E E E Z<|Kfg [.box 115 [.d (Sl Lfk a18),.d (Sl Lfm a41),I 0,.d (Sl eS q71.1)],.dead,.dead,.box 115 [.d (Sl Lfk a18),.d (Sl Lfm a41),I 0,.d (Sl eS q71.1)]] E<|gO 4 E<|oSi h72▸gP E E
theorem Lmk{v_r:Kxv}{s:Str}{r:Bool×Kxv}(h:Lef v_r s=some r):EC Tryz.prog 68 [.ptr 4 0,S s] [QX v_r,Q0 v_r,QY v_r,QZ v_r,.box 158 [.sl 0 v_r.p.Groups.length,.sl 1 v_r.p.Hosts.length,.sl 2 v_r.p.Grants.length,.sl 3 v_r.p.Tests.length,I v_r.kind]] fun g hp'=>g=B r.1∧hp'=[.dead,.dead,.dead,.dead,.box 158 [.sl 5 r.2.p.Groups.length,.sl 6 r.2.p.Hosts.length,.sl 7 r.2.p.Grants.length,.sl 8 r.2.p.Tests.length,I r.2.kind],Qwb r.2.p.Groups,Qxb r.2.p.Hosts,Qfb r.2.p.Grants,Qgb r.2.p.Tests]:=by
 unfold Lef at h
 refine QM Tryz.func68 E Z<|Kgz Z<|Kgx 0 5 [.dead,Q0 v_r,QY v_r,QZ v_r,.box 158 [.sl 5 v_r.p.Groups.length,.sl 1 v_r.p.Hosts.length,.sl 2 v_r.p.Grants.length,.sl 3 v_r.p.Tests.length,I v_r.kind],QX v_r] E E E E E E<|Kgz Z<|Kgx 1 6 [.dead,.dead,QY v_r,QZ v_r,.box 158 [.sl 5 v_r.p.Groups.length,.sl 6 v_r.p.Hosts.length,.sl 2 v_r.p.Grants.length,.sl 3 v_r.p.Tests.length,I v_r.kind],QX v_r,Q0 v_r] E E E E E E<|Kgz Z<|Kgx 2 7 [.dead,.dead,.dead,QZ v_r,.box 158 [.sl 5 v_r.p.Groups.length,.sl 6 v_r.p.Hosts.length,.sl 7 v_r.p.Grants.length,.sl 3 v_r.p.Tests.length,I v_r.kind],QX v_r,Q0 v_r,QY v_r] E E E E E E<|Kgz Z<|Kgx 3 8 [.dead,.dead,.dead,.dead,.box 158 [.sl 5 v_r.p.Groups.length,.sl 6 v_r.p.Hosts.length,.sl 7 v_r.p.Grants.length,.sl 8 v_r.p.Tests.length,I v_r.kind],QX v_r,Q0 v_r,QY v_r,QZ v_r] E E E E E E<|bK h fun y1 hy1 h2=>gA 8 E<|Kex C (Lmf hy1) E Z E E E E E<|gO 14 E<|jC E h2 (fun h3=>?_) fun h4=>gA 4 E<|Ker hΓ (enc:=eS) [[103,114,111,117,112],[104,111,115,116],[97,108,108,111,119],[97,99,99,101,112,116],[100,101,110,121]] E E E E E E E E E E E E Z<|bK h4 fun x5 hx5 h6=>gO 1 E<|eo_o E (Keg hΓ (enc:=eS) hx5 E E E E E (fun _=>E))<|bK h6 fun y7 hy7 h8=>gO 1 E<|Kex C (Lij hy7) E Z E E E E E<|gO 21 E<|jC E h8 (fun h9=>?_) fun h10=>?_
 ·exact gA 7 E<|Khz<|oSi h3▸Kfn hΓ [] (.inr E) E E E E (.inl E)
 ·exact gA 7 E<|Khz<|oSi h9▸Kfn hΓ [] (.inr E) E E E E (.inl E)
 refine gA 8 E<|Kqs hΓ E E E E E E E E Z<|Kfg [.dead,.dead,.dead,.dead,.box 158 [.sl 5 v_r.p.Groups.length,.sl 6 v_r.p.Hosts.length,.sl 7 v_r.p.Grants.length,.sl 8 v_r.p.Tests.length,I (if 3<y7 then 3 else y7)],QX v_r,Q0 v_r,QY v_r,QZ v_r] E<|gO 15 E<|jC E h10 (fun h11=>?_) fun h20=>gA 6 E<|jC E h20 (fun h21=>?_) fun h24=>?_
 ·refine gA 8 E<|jC E h11 (fun h12=>?_) fun h13=>gA 2 E<|Khd [.dead,.dead,.dead,.dead,.box 158 [.sl 5 v_r.p.Groups.length,.sl 6 v_r.p.Hosts.length,.sl 7 v_r.p.Grants.length,.sl 8 v_r.p.Tests.length,I (if 3<y7 then 3 else y7)]] [5] [13,17] [13,17] hmix (by kernel_rfl) (by kernel_rfl) ⟨E,tV⟩ Z<|bK h13 fun x14 hx14 h15=>go_E hΓ 7 E<|ge_q E (.inl E) (fun _ _=>Khf (qt_p (Keg hΓ (enc:=eS) hx14 E E E E E (fun _=>E))))<|bK h15 fun z16 hz16 h17=>go_E hΓ 2 E<|ge_q E (.inl E) (fun _ _=>Khf (qt_p (Ken hΓ (enc:=eS) hz16 E E E E E E (fun _=>E))))<|ge_q E (.inl E) (fun _ _=>Khf (qt_p (Khu hΓ (gs:=[S x14,.d (Sl eS z16)]) E E E E E E)))<|Khs hΓ (enc:=Lfg) [(⟨x14,z16⟩:Kxd)] E E E E E E E E E E E E<|bK h17 fun y18 hy18 h19=>ge_h [.dead,.dead,.dead,.dead,.box 158 [.junk,.sl 6 v_r.p.Hosts.length,.sl 7 v_r.p.Grants.length,.sl 8 v_r.p.Tests.length,I (if 3<y7 then 3 else y7)],.dead,Q0 v_r,QY v_r,QZ v_r,Qwb y18] E E E (Khk E) (Kho (Kjc 5 (Kgt hΓ (enc:=Lfg) (id:=5) (h2:=show Γ 109=some ⟨_,2,_,_⟩ from E) hy18 E E E E E E E E (fun _=>E) E)))<|go_E hΓ 3 E<|Khj [.dead,.dead,.dead,.dead,.box 158 [.sl 9 y18.length,.sl 6 v_r.p.Hosts.length,.sl 7 v_r.p.Grants.length,.sl 8 v_r.p.Tests.length,I (if 3<y7 then 3 else y7)],.dead,Q0 v_r,QY v_r,QZ v_r,Qwb y18] E E (Khk E) (Khp (Kiq hΓ E E E E E E E E E))<|Khe<|gA 2 E<|Kgx 9 5 [.dead,.dead,.dead,.dead,.box 158 [.sl 5 y18.length,.sl 6 v_r.p.Hosts.length,.sl 7 v_r.p.Grants.length,.sl 8 v_r.p.Tests.length,I (if 3<y7 then 3 else y7)],Qwb y18,Q0 v_r,QY v_r,QZ v_r,.dead] E E E E E E<|gA 6 E<|Khz<|oSi h19▸Kfn hΓ [_] (.inr E) E E E E (.inr ⟨HB.mk E,E⟩)
  exact gA 9 E<|Khz<|oSi h12▸Kfn hΓ [] (.inr E) E E E E (.inl E)
 ·refine gA 8 E<|jC E h21 (fun h22=>?_) fun h23=>gA 3 E ?_
  ·exact gA 9 E<|Khz<|oSi h22▸Kfn hΓ [] (.inr E) E E E E (.inl E)
  cases h23
 refine gA 6 E<|jC E h24 (fun h25=>?_) fun h32=>gA 1 E ?_
 ·exact bK h25 fun z26 hz26 h27=>gA 3 E<|eo_o E (Ken hΓ (enc:=eS) hz26 E E E E E E (fun _=>E))<|bK h27 fun y28 hy28 h29=>Kex C (Lmj hy28) E Z E E E E E<|gO 3 E<|Kqn hΓ E E E Z<|Kqs hΓ E E E E E E E E Z<|Kfg [.dead,.dead,.dead,.dead,.box 158 [.sl 5 v_r.p.Groups.length,.sl 6 v_r.p.Hosts.length,.sl 7 v_r.p.Grants.length,.sl 8 v_r.p.Tests.length,I (if 3<y7 then 3 else y7)],QX v_r,Q0 v_r,QY v_r,QZ v_r,.box 115 (gt y28.1)] E<|gO 4 E<|Khd [.dead,.dead,.dead,.dead,.box 158 [.sl 5 v_r.p.Groups.length,.sl 6 v_r.p.Hosts.length,.sl 7 v_r.p.Grants.length,.sl 8 v_r.p.Tests.length,I (if 3<y7 then 3 else y7)],.dead,.dead,.dead,.dead,.box 115 (gt y28.1)] [5,6] [8,12] [8,12] hmix (by kernel_rfl) (by kernel_rfl) ⟨E,E,tV⟩ Z<|go_E hΓ 7 E<|Khs hΓ (enc:=Lfn) [y28.1] E E E E E E E E E E E E<|bK h29 fun y30 hy30 h31=>ge_h [.dead,.dead,.dead,.dead,.box 158 [.sl 5 v_r.p.Groups.length,.sl 6 v_r.p.Hosts.length,.junk,.sl 8 v_r.p.Tests.length,I (if 3<y7 then 3 else y7)],QX v_r,Q0 v_r,.dead,QZ v_r,.box 115 (gt y28.1),Qfb y30] E E E (Khk E) (Kho (Kjc 7 (Kgt hΓ (enc:=Lfn) (id:=7) (h2:=show Γ 115=some ⟨_,4,_,_⟩ from E) hy30 E E E E E E E E (fun _=>E) E)))<|go_E hΓ 3 E<|Khj [.dead,.dead,.dead,.dead,.box 158 [.sl 5 v_r.p.Groups.length,.sl 6 v_r.p.Hosts.length,.sl 10 y30.length,.sl 8 v_r.p.Tests.length,I (if 3<y7 then 3 else y7)],QX v_r,Q0 v_r,.dead,QZ v_r,.box 115 (gt y28.1),Qfb y30] E E (Khk E) (Khp (Kiq hΓ E E E E E E E E E))<|Khe<|gA 1 E<|Kgx 10 7 [.dead,.dead,.dead,.dead,.box 158 [.sl 5 v_r.p.Groups.length,.sl 6 v_r.p.Hosts.length,.sl 7 y30.length,.sl 8 v_r.p.Tests.length,I (if 3<y7 then 3 else y7)],QX v_r,Q0 v_r,Qfb y30,QZ v_r,.box 115 (gt y28.1),.dead] E E E E E E<|gA 9 E<|Khz<|oSi h31▸Kfn hΓ [_,_] (.inr E) E E E E (.inr ⟨HB.mk E,E⟩)
 cases h32
end Go.Proofs.YtcihhlhmkcaeeaaGreatDoor
