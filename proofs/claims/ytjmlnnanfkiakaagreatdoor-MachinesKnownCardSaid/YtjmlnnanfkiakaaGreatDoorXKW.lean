import Derived.Test.YtjmlnnanfkiakaaGreatDoorXKM
import Derived.Test.YtjmlnnanfkiakaaGreatDoorGt
import Derived.Test.YtjmlnnanfkiakaaGreatDoorStrS
import Derived.Test.YtjmlnnanfkiakaaGreatDoorStrK
import Derived.Test.YtjmlnnanfkiakaaGreatDoorXKW2
set_option maxHeartbeats 8000000
set_option linter.all false
set_option maxRecDepth 100000
namespace Go.Proofs.YtjmlnnanfkiakaaGreatDoor
open Go.Gk
theorem Lhc{v_h:Lcg}{s:Lby}{al:BagT}{r:Int×Lcg×BagT}(h:Lfw v_h s al=some r):EC Tryz.prog 202 [.ptr 4 0,.agg (fS s)] [mObH v_h.keys,mObH v_h.nodes,mObB v_h.ever,mObV v_h.History,.box 220 [.d (Sl eS v_h.d.Users),.d (Sl Lij v_h.d.Owners),I v_h.d.Life,B v_h.d.Approve,.map 0,.map 1,.map 2,.map 3],bg al] fun g hp'=>g=I r.1∧hp'=[mObH r.2.1.keys,mObH r.2.1.nodes,mObB r.2.1.ever,mObV r.2.1.History,.box 220 [.d (Sl eS r.2.1.d.Users),.d (Sl Lij r.2.1.d.Owners),I r.2.1.d.Life,B r.2.1.d.Approve,.map 0,.map 1,.map 2,.map 3],bg r.2.2]:=by
 refine Klr (Fr.of 0 _) Tryz.func202 rfl (Fr.of_ok _) (nBe rfl) fun _=>?_
 refine Kfo ?_
 unfold Lfw at h
 refine go hΓ 2 rfl ?_
 refine Ksq rfl rfl rfl rfl (nBe rfl) ?_
 refine Kfm hΓ 4 rfl ?_
 refine Kfs hmix (by kernel_rfl) ?_
 refine go hΓ 6 rfl ?_
 refine gl_o rfl (Knf hΓ (kv:=kS) (agg:=false) (enc:=(eH (some 0))) v_h.keys s.Join (0:Nat) rfl rfl rfl rfl Kkh rfl rfl rfl (Kne rfl) rfl) ?_
 refine Kfn hΓ 6 rfl ?_
 refine Kfs hmix (by kernel_rfl) ?_
 obtain⟨y1,hy1,h2⟩:=Kfw h
 refine go hΓ 7 rfl ?_
 refine Kgy (Lml Tryz.func61 rfl rfl) (Lju hy1) rfl rfl rfl rfl rfl rfl ?_
 refine Kfn hΓ 4 rfl ?_
 refine Kfp rfl (fun hb=>?_) (fun hb=>?_)
 ·have h3:=cT h2 hb
  refine go hΓ 8 rfl ?_
  refine Kjn ?_
  obtain rfl:=oSi h3
  exact Khj hΓ [_] (.inr rfl) rfl rfl rfl rfl (.inr ⟨HB.mk rfl,rfl⟩)
 have h4:=cF h2 hb
 refine go hΓ 6 rfl ?_
 refine Kfv 3 [(0,.ptr 4 0),(3,.ptr 6 0),(5,.d (.hd (some 0) ((mGet v_h.keys s.Join).getD 0))),(31,B (((s.Kind:Int)==2)&&(((mGet v_h.keys s.Join).getD 0)==0)))] [mObH v_h.keys,mObH v_h.nodes,mObB v_h.ever,mObV v_h.History,.box 220 [.d (Sl eS v_h.d.Users),.d (Sl Lij v_h.d.Owners),I v_h.d.Life,B v_h.d.Approve,.map 0,.map 1,.map 2,.map 3],bg al,.box 37 (fS s)] ?_ ?_
 ·refine Krj rfl rfl (fun hb=>?_) (fun hb=>?_)
  ·refine Kfm hΓ 1 rfl ?_
   refine Krh rfl ?_
   refine eo_o rfl ((Knj hΓ rfl rfl rfl rfl).1) ?_
   refine Kfm hΓ 2 rfl ?_
   exact⟨⟨rfl,rfl,rfl,Kex rfl (Kho hb),tV⟩,[],rfl,.inl rfl⟩
  refine Kfm hΓ 4 rfl ?_
  exact⟨⟨rfl,rfl,rfl,Kex rfl (Khp hb),tV⟩,[],rfl,.inl rfl⟩
 refine Kfm hΓ 3 rfl ?_
 refine Kfp rfl (fun hb=>?_) (fun hb=>?_)
 ·have h5:=cT h4 hb
  refine go hΓ 8 rfl ?_
  refine Kjn ?_
  obtain rfl:=oSi h5
  exact Khj hΓ [_] (.inr rfl) rfl rfl rfl rfl (.inr ⟨HB.mk rfl,rfl⟩)
 have h6:=cF h4 hb
 obtain⟨q7,hq7,h8⟩:=Kfw h6
 refine go hΓ 1 rfl ?_
 refine Kjr [(0,.ptr 4 0),(3,.ptr 6 0),(5,.d (.hd (some 0) ((mGet v_h.keys s.Join).getD 0))),(32,B q7)] [mObH v_h.keys,mObH v_h.nodes,mObB v_h.ever,mObV v_h.History,.box 220 [.d (Sl eS v_h.d.Users),.d (Sl Lij v_h.d.Owners),I v_h.d.Life,B v_h.d.Approve,.map 0,.map 1,.map 2,.map 3],bg al,.box 37 (fS s)] ?_ ?_
 ·refine Kfs hmix (by kernel_rfl) ?_
  refine go hΓ 4 rfl ?_
  refine Kee rfl rfl (fun hb=>?_) (fun hb=>?_)
  ·have h9:=cT hq7 hb
   obtain⟨hg11,h10⟩:=Kfx h9
   refine Kfn hΓ 1 rfl ?_
   refine Kez rfl rfl (Kos hg11 rfl) ?_
   refine Kez rfl rfl (Kot hΓ hg11 rfl rfl rfl rfl rfl rfl) ?_
   refine Kez rfl rfl (Kot hΓ hg11 rfl rfl rfl rfl rfl rfl) ?_
   obtain⟨m12,hm12,h13⟩:=Kfw h10
   refine Kez rfl rfl (Kou hΓ (enc:=Liu) (bg:=5) m12 rfl rfl (ArU.r _ (ArU.r _ (ArU.r _ (ArU.l _ (Kmy (fun _ _=>rfl) hm12 m12))))) rfl (g:=S m12.Join.By) rfl rfl) ?_
   refine Kfn hΓ 6 rfl ?_
   obtain rfl:=oSi h13
   exact⟨⟨rfl,rfl,rfl,rfl,tV⟩,[],rfl,.inl rfl⟩
  have h14:=cF hq7 hb
  refine Kfn hΓ 11 rfl ?_
  obtain rfl:=oSi h14
  exact⟨⟨rfl,rfl,rfl,rfl,tV⟩,[],rfl,.inl rfl⟩
 refine go hΓ 1 rfl ?_
 refine Kfp rfl (fun hb=>?_) (fun hb=>?_)
 ·have h15:=cT h8 hb
  refine go hΓ 8 rfl ?_
  refine Kjn ?_
  obtain rfl:=oSi h15
  exact Khj hΓ [_] (.inr rfl) rfl rfl rfl rfl (.inr ⟨HB.mk rfl,rfl⟩)
 have h16:=cF h8 hb
 refine go hΓ 6 rfl ?_
 obtain⟨q17,hq17,h18⟩:=Kfw h16
 refine Kfv 5 [(0,.ptr 4 0),(3,.ptr 6 0),(5,.d (.hd (some 0) ((mGet v_h.keys s.Join).getD 0))),(55,B q17)] [mObH v_h.keys,mObH v_h.nodes,mObB v_h.ever,mObV v_h.History,.box 220 [.d (Sl eS v_h.d.Users),.d (Sl Lij v_h.d.Owners),I v_h.d.Life,B v_h.d.Approve,.map 0,.map 1,.map 2,.map 3],bg al,.box 37 (fS s)] ?_ ?_
 ·refine Krj rfl rfl (fun hb=>?_) (fun hb=>?_)
  ·have h19:=cT hq17 hb
   obtain⟨hg21,h20⟩:=Kfx h19
   refine Kfm hΓ 1 rfl ?_
   refine Krh rfl ?_
   refine eo_o rfl (Kos hg21 rfl) ?_
   refine Krh rfl ?_
   refine eo_o rfl (Kot hΓ hg21 rfl rfl rfl rfl rfl rfl) ?_
   obtain⟨m22,hm22,h23⟩:=Kfw h20
   refine Krh rfl ?_
   refine eo_o rfl (Kou hΓ (enc:=Liu) (bg:=5) m22 rfl rfl (ArU.r _ (ArU.r _ (ArU.r _ (ArU.l _ (Kmy (fun _ _=>rfl) hm22 m22))))) rfl (g:=B m22.revoked) rfl rfl) ?_
   refine Kfm hΓ 2 rfl ?_
   obtain rfl:=oSi h23
   exact⟨⟨rfl,rfl,rfl,rfl,tV⟩,[],rfl,.inl rfl⟩
  have h24:=cF hq17 hb
  refine Kfm hΓ 6 rfl ?_
  obtain rfl:=oSi h24
  exact⟨⟨rfl,rfl,rfl,rfl,tV⟩,[],rfl,.inl rfl⟩
 refine Kfm hΓ 3 rfl ?_
 refine Kfp rfl (fun hb=>?_) (fun hb=>?_)
 ·have h25:=cT h18 hb
  refine go hΓ 8 rfl ?_
  refine Kjn ?_
  obtain rfl:=oSi h25
  exact Khj hΓ [_] (.inr rfl) rfl rfl rfl rfl (.inr ⟨HB.mk rfl,rfl⟩)
 have h26:=cF h18 hb
 refine go hΓ 8 rfl ?_
 refine Kfp rfl (fun hb=>?_) (fun hb=>?_)
 ·have h27:=cT h26 hb
  obtain⟨hg29,h28⟩:=Kfx h27
  refine go hΓ 3 rfl ?_
  refine eo_o rfl (Kos hg29 rfl) ?_
  refine eo_o rfl (Kot hΓ hg29 rfl rfl rfl rfl rfl rfl) ?_
  obtain⟨m30,hm30,h31⟩:=Kfw h28
  refine eo_u (nBe rfl) (Kov hΓ (enc:=Liu) (bg:=5) m30 (⟨m30.Join,true,m30.used⟩:Lci) rfl rfl (ArU.r _ (ArU.r _ (ArU.r _ (ArU.l _ (Kmy (fun _ _=>rfl) hm30 (⟨m30.Join,true,m30.used⟩:Lci)))))) rfl rfl (by intro e;cases e) rfl rfl rfl rfl rfl rfl rfl) ?_
  refine Khe [mObH v_h.keys,mObH v_h.nodes,mObB v_h.ever,mObV v_h.History,.box 220 [.d (Sl eS v_h.d.Users),.d (Sl Lij v_h.d.Owners),I v_h.d.Life,B v_h.d.Approve,.map 0,.map 1,.map 2,.map 3],.bag al.1 (arX al.2.1 al.2.2.1 al.2.2.2.1 (hSet al.2.2.2.2.1 ((mGet v_h.keys s.Join).getD 0) (⟨m30.Join,true,m30.used⟩:Lci)) al.2.2.2.2.2) [],.box 37 (fS s)] rfl ?_
  refine Kfm hΓ 10 rfl ?_
  refine Kjn ?_
  obtain rfl:=oSi h31
  exact Khj hΓ [_] (.inr rfl) rfl rfl rfl rfl (.inr ⟨HB.mk rfl,rfl⟩)
 have h32:=cF h26 hb
 refine go hΓ 3 rfl ?_
 refine eo_o rfl ((Knj hΓ rfl rfl rfl rfl).2) ?_
 refine Kfm hΓ 3 rfl ?_
 refine Kfp rfl (fun hb=>?_) (fun hb=>?_)
 ·have h33:=cT h32 hb
  refine go hΓ 8 rfl ?_
  refine Kjn ?_
  obtain rfl:=oSi h33
  exact Khj hΓ [_] (.inr rfl) rfl rfl rfl rfl (.inr ⟨HB.mk rfl,rfl⟩)
 have h34:=cF h32 hb
 obtain⟨y35,hy35,h36⟩:=Kfw h34
 refine go hΓ 4 rfl ?_
 refine Kgx (Lml Tryz.func105 rfl rfl) (Ljv hy35) rfl (nBe rfl) rfl rfl rfl rfl rfl ?_
 refine Kfm hΓ 2 rfl ?_
 refine Kfv 6 [(0,.ptr 4 0),(3,.ptr 6 0),(77,B ((!y35)||(decide ((s.Until:Int)≤s.At))))] [mObH v_h.keys,mObH v_h.nodes,mObB v_h.ever,mObV v_h.History,.box 220 [.d (Sl eS v_h.d.Users),.d (Sl Lij v_h.d.Owners),I v_h.d.Life,B v_h.d.Approve,.map 0,.map 1,.map 2,.map 3],bg al,.box 37 (fS s)] ?_ ?_
 ·refine Krj rfl rfl (fun hb=>?_) (fun hb=>?_)
  ·refine Kfm hΓ 7 rfl ?_
   exact⟨⟨rfl,rfl,Kex rfl (or_t hb),tV⟩,[],rfl,.inl rfl⟩
  refine Kfm hΓ 7 rfl ?_
  exact⟨⟨rfl,rfl,Kex rfl (or_f hb),tV⟩,[],rfl,.inl rfl⟩
 refine Kfm hΓ 1 rfl ?_
 refine Kfv 4 [(0,.ptr 4 0),(3,.ptr 6 0),(82,B (((!y35)||(decide ((s.Until:Int)≤s.At)))||(decide ((s.Until:Int)>345686400))))] [mObH v_h.keys,mObH v_h.nodes,mObB v_h.ever,mObV v_h.History,.box 220 [.d (Sl eS v_h.d.Users),.d (Sl Lij v_h.d.Owners),I v_h.d.Life,B v_h.d.Approve,.map 0,.map 1,.map 2,.map 3],bg al,.box 37 (fS s)] ?_ ?_
 ·refine Krj rfl rfl (fun hb=>?_) (fun hb=>?_)
  ·refine Kfm hΓ 5 rfl ?_
   exact⟨⟨rfl,rfl,Kex rfl (or_t hb),tV⟩,[],rfl,.inl rfl⟩
  refine Kfm hΓ 5 rfl ?_
  exact⟨⟨rfl,rfl,Kex rfl (or_f hb),tV⟩,[],rfl,.inl rfl⟩
 refine Kfm hΓ 3 rfl ?_
 refine Kfp rfl (fun hb=>?_) (fun hb=>?_)
 ·have h37:=cT h36 hb
  refine go hΓ 8 rfl ?_
  refine Kjn ?_
  obtain rfl:=oSi h37
  exact Khj hΓ [_] (.inr rfl) rfl rfl rfl rfl (.inr ⟨HB.mk rfl,rfl⟩)
 have h38:=cF h36 hb
 refine go hΓ 5 rfl ?_
 refine Kfs hmix (by kernel_rfl) ?_
 obtain⟨y39,hy39,h40⟩:=Kfw h38
 refine go hΓ 8 rfl ?_
 refine Kgy (Lml Tryz.func278 rfl rfl) (Lmj hy39) rfl rfl rfl rfl rfl rfl ?_
 refine Kfn hΓ 9 rfl ?_
 refine Kfp rfl (fun hb=>?_) (fun hb=>?_)
 ·have h41:=cT h40 hb
  refine go hΓ 8 rfl ?_
  refine Kjn ?_
  obtain rfl:=oSi h41
  exact Khj hΓ [_] (.inr rfl) rfl rfl rfl rfl (.inr ⟨HB.mk rfl,rfl⟩)
 have h42:=cF h40 hb
 refine go hΓ 3 rfl ?_
 refine Kir [.dead,.dead,.dead,.dead,.box 220 [.d (Sl eS v_h.d.Users),.d (Sl Lij v_h.d.Owners),I v_h.d.Life,B v_h.d.Approve,.map 0,.map 1,.map 2,.map 3],.dead,.box 37 (fS s)] [3,5,7,9,11,14,16,18] [21,22] [] hmix (by kernel_rfl) (by kernel_rfl) ⟨rfl,rfl,tV⟩ (nBe rfl) ?_
 obtain⟨y43,hy43,h44⟩:=Kfw h42
 refine go_E hΓ 12 rfl ?_
 refine Kje (Lml Tryz.func213 rfl rfl) (Pure.rows (Llh hy43) rfl rfl) rfl rfl rfl rfl rfl rfl ?_
 refine go_E hΓ 6 rfl ?_
 refine ge_q rfl (.inl rfl) (fun _ _=>Kiu (qt_p (Kji hΓ (gs:=[S s.Join,S s.By,.d (Sl eS y43),I s.Until,I s.Uses,B s.Ready]) rfl rfl rfl rfl rfl rfl))) ?_
 refine ge_q rfl (.inl rfl) (fun _ _=>Kiu (qt_p (Kji hΓ (gs:=[S s.Join,S s.By,.d (Sl eS y43),I s.Until,I s.Uses,B s.Ready,B false,I 0]) rfl rfl rfl rfl rfl rfl))) ?_
 refine ge_h [mObH v_h.keys,mObH v_h.nodes,mObB v_h.ever,mObV v_h.History,.box 220 [.d (Sl eS v_h.d.Users),.d (Sl Lij v_h.d.Owners),I v_h.d.Life,B v_h.d.Approve,.map 0,.map 1,.map 2,.map 3],bg al,.box 37 (fS s),.box 227 [S s.Join,S s.By,.d (Sl eS y43),I s.Until,I s.Uses,B s.Ready,B false,I 0]] rfl rfl rfl (Kiy ⟨rfl,rfl,tV⟩) (Kjb (Kjh rfl rfl rfl)) ?_
 refine Kiw [mObH (mSet v_h.keys s.Join (al.1.length+1)),mObH v_h.nodes,mObB v_h.ever,mObV v_h.History,.box 220 [.d (Sl eS v_h.d.Users),.d (Sl Lij v_h.d.Owners),I v_h.d.Life,B v_h.d.Approve,.map 0,.map 1,.map 2,.map 3],.bag (al.1++[false]) (arX al.2.1 al.2.2.1 al.2.2.2.1 ((al.1.length,(⟨(⟨s.Join,s.By,y43,s.Until,s.Uses,s.Ready⟩:Lce),false,0⟩:Lci)) :: al.2.2.2.2.1) al.2.2.2.2.2) [],.box 37 (fS s),.dead] rfl rfl (Kiy ⟨rfl,rfl,tV⟩) (Kjc (Kln (Kmw (hp2:=[mObH v_h.keys,mObH v_h.nodes,mObB v_h.ever,mObV v_h.History,.box 220 [.d (Sl eS v_h.d.Users),.d (Sl Lij v_h.d.Owners),I v_h.d.Life,B v_h.d.Approve,.map 0,.map 1,.map 2,.map 3],.bag (al.1++[false]) (arX al.2.1 al.2.2.1 al.2.2.2.1 ((al.1.length,(⟨(⟨s.Join,s.By,y43,s.Until,s.Uses,s.Ready⟩:Lce),false,0⟩:Lci)) :: al.2.2.2.2.1) al.2.2.2.2.2) [],.box 37 (fS s),.dead]) (bg:=5) (id:=7) (a:=(fB 227 Liu) al.1.length (⟨(⟨s.Join,s.By,y43,s.Until,s.Uses,s.Ready⟩:Lce),false,0⟩:Lci)) [(116,some 0)] ⟨rfl,tV⟩ rfl rfl ⟨rfl,rfl⟩ rfl rfl (Knc _ (Knc _ (Knc _ (Knb _ Kna)))) rfl rfl) (Kkv hΓ (kv:=kS) (agg:=false) (enc:=(eH (some 0))) (id:=0) v_h.keys s.Join (al.1.length+1) rfl rfl rfl Kkh rfl rfl rfl rfl rfl) (nBe rfl))) ?_
 refine Kit ?_
 refine go hΓ 7 rfl ?_
 refine Kjn ?_
 obtain rfl:=oSi h44
 exact Khj hΓ [_,_] (.inr rfl) rfl rfl rfl rfl (.inr ⟨HB.mk rfl,rfl⟩)
theorem Lhd{v_h:Lcg}{v_public:Str}{al:BagT}{r:Bool}(h:Lfx v_h v_public al=some r):EC Tryz.prog 279 [.ptr 4 0,S v_public] [mObH v_h.keys,mObH v_h.nodes,mObB v_h.ever,mObV v_h.History,.box 220 [.d (Sl eS v_h.d.Users),.d (Sl Lij v_h.d.Owners),I v_h.d.Life,B v_h.d.Approve,.map 0,.map 1,.map 2,.map 3],bg al] fun g hp'=>g=B r∧hp'=[mObH v_h.keys,mObH v_h.nodes,mObB v_h.ever,mObV v_h.History,.box 220 [.d (Sl eS v_h.d.Users),.d (Sl Lij v_h.d.Owners),I v_h.d.Life,B v_h.d.Approve,.map 0,.map 1,.map 2,.map 3],bg al]:=by
 refine Krb (Fr.of 0 _) Tryz.func279 rfl (Fr.of_ok _) (nBe rfl) fun _=>?_
 refine Kfo ?_
 unfold Lfx at h
 refine go hΓ 12 rfl ?_
 refine Klg hΓ (kv:=kS) (agg:=false) (enc:=(eH (some 0))) v_h.nodes rfl rfl rfl rfl rfl (nBe rfl) (fun mr1 bs2 cl3 hpm4 hbl5 hbn6=>?_)
 refine Khe [mObH v_h.keys,mObS kS false (eH (some 0)) v_h.nodes (rawM kS (eH (some 0)) mr1 bs2 cl3),mObB v_h.ever,mObV v_h.History,.box 220 [.d (Sl eS v_h.d.Users),.d (Sl Lij v_h.d.Owners),I v_h.d.Life,B v_h.d.Approve,.map 0,.map 1,.map 2,.map 3],bg al,.iter 1 cl3 []] rfl ?_
 refine Kfm hΓ 2 rfl ?_
 obtain⟨q12,hq12,h13⟩:=Kfw h
 refine go hΓ 1 rfl ?_
 refine Knw hq12 hpm4 hbl5 hbn6 (fun s7=>[(1,S v_public),(11,.ptr 6 0)]) (fun sn9 s7=>[mObH v_h.keys,mObS kS false (eH (some 0)) v_h.nodes (rawM kS (eH (some 0)) mr1 bs2 cl3),mObB v_h.ever,mObV v_h.History,.box 220 [.d (Sl eS v_h.d.Users),.d (Sl Lij v_h.d.Owners),I v_h.d.Life,B v_h.d.Approve,.map 0,.map 1,.map 2,.map 3],bg al,.iter 1 cl3 sn9]) ⟨⟨rfl,rfl,tV⟩,[],rfl,.inl rfl⟩ (fun sn9 s7 hdone14 hstep15=>?_)
 refine go hΓ 2 rfl ?_
 refine Klh (kv:=kS) (agg:=false) (enc:=(eH (some 0))) v_h.nodes mr1 bs2 cl3 sn9 [mObH v_h.keys,mObH v_h.nodes,mObB v_h.ever,mObV v_h.History,.box 220 [.d (Sl eS v_h.d.Users),.d (Sl Lij v_h.d.Owners),I v_h.d.Life,B v_h.d.Approve,.map 0,.map 1,.map 2,.map 3],bg al,.dead] rfl rfl rfl rfl rfl (nBe rfl) (fun hdsn9=>?_) (fun j10 x8 b11 hjsn9 hbsn9 hnsn9=>?_)
 ·have hqsn9:=hdone14 hdsn9
  subst hqsn9
  replace h13:=Kjl h13
  refine Kfm hΓ 16 rfl ?_
  obtain rfl:=oSi h13
  exact Khj hΓ [_] (.inr rfl) rfl rfl rfl rfl (.inr ⟨HB.mk rfl,rfl⟩)
 obtain⟨s16,h17,houtsn9⟩:=hstep15 j10 x8 b11 hjsn9 hbsn9 hnsn9
 have hssn9:=h17
 refine Kfm hΓ 10 rfl ?_
 refine eo_o rfl (Kli (kv:=kS) (agg:=false) (enc:=(eH (some 0))) v_h.nodes mr1 bs2 cl3 sn9 hjsn9 hbsn9 rfl rfl rfl rfl (fun _=>rfl)) ?_
 obtain⟨hg19,h18⟩:=Kfx h17
 refine Kfm hΓ 7 rfl ?_
 refine eo_o rfl (Kos hg19 rfl) ?_
 refine eo_o rfl (Kot hΓ hg19 rfl rfl rfl rfl rfl rfl) ?_
 obtain⟨m20,hm20,h21⟩:=Kfw h18
 refine eo_o rfl (Kou hΓ (enc:=Lio) (bg:=5) m20 rfl rfl (ArU.r _ (ArU.r _ (ArU.l _ (Kmy (fun _ _=>rfl) hm20 m20)))) rfl (g:=S m20.Public) rfl rfl) ?_
 refine Kfm hΓ 4 rfl ?_
 refine Kfp rfl (fun hb=>?_) (fun hb=>?_)
 ·have h22:=cT h21 hb
  refine go hΓ 5 rfl ?_
  refine Kps (kv:=kS) (agg:=false) (enc:=(eH (some 0))) (id:=1) v_h.nodes [mObH v_h.keys,mObH v_h.nodes,mObB v_h.ever,mObV v_h.History,.box 220 [.d (Sl eS v_h.d.Users),.d (Sl Lij v_h.d.Owners),I v_h.d.Life,B v_h.d.Approve,.map 0,.map 1,.map 2,.map 3],bg al,.iter 1 cl3 (sn9++[b11])] rfl rfl (nBe rfl) ?_
  refine go hΓ 2 rfl ?_
  obtain⟨v23,hv23,h24⟩:=Kfw h22
  obtain rfl:=oSi h24
  obtain rfl:=houtsn9 _ rfl
  obtain rfl:=oSi h13
  refine go hΓ 3 rfl ?_
  obtain rfl:=oSi hv23
  exact Khj hΓ [_] (.inr rfl) rfl rfl rfl rfl (.inr ⟨HB.mk rfl,rfl⟩)
 have h25:=cF h21 hb
 refine go hΓ 2 rfl ?_
 obtain rfl:=oSi h25
 exact⟨j10,x8,b11,_,hjsn9,hbsn9,hnsn9,hssn9,⟨⟨rfl,rfl,tV⟩,[],rfl,.inl rfl⟩⟩
theorem Lhe{v_h:Lcg}{s:Lby}{al:BagT}{r:Int×Lcg×BagT}(h:Lfy v_h s al=some r):EC Tryz.prog 203 [.ptr 4 0,.agg (fS s)] [mObH v_h.keys,mObH v_h.nodes,mObB v_h.ever,mObV v_h.History,.box 220 [.d (Sl eS v_h.d.Users),.d (Sl Lij v_h.d.Owners),I v_h.d.Life,B v_h.d.Approve,.map 0,.map 1,.map 2,.map 3],bg al] fun g hp'=>g=I r.1∧hp'=[mObH r.2.1.keys,mObH r.2.1.nodes,mObB r.2.1.ever,mObV r.2.1.History,.box 220 [.d (Sl eS r.2.1.d.Users),.d (Sl Lij r.2.1.d.Owners),I r.2.1.d.Life,B r.2.1.d.Approve,.map 0,.map 1,.map 2,.map 3],bg r.2.2]:=by
 refine Klr (Fr.of 0 _) Tryz.func203 rfl (Fr.of_ok _) (nBe rfl) fun _=>?_
 refine Kfo ?_
 unfold Lfy at h
 refine go hΓ 2 rfl ?_
 refine Ksq rfl rfl rfl rfl (nBe rfl) ?_
 refine Kfm hΓ 4 rfl ?_
 refine Kfs hmix (by kernel_rfl) ?_
 refine go hΓ 6 rfl ?_
 refine gl_o rfl (Knf hΓ (kv:=kS) (agg:=false) (enc:=(eH (some 0))) v_h.keys s.Join (0:Nat) rfl rfl rfl rfl Kkh rfl rfl rfl (Kne rfl) rfl) ?_
 refine Kfn hΓ 17 rfl ?_
 refine Kfp rfl (fun hb=>?_) (fun hb=>?_)
 ·have h1:=cT h hb
  refine go hΓ 8 rfl ?_
  refine Kjn ?_
  obtain rfl:=oSi h1
  exact Khj hΓ [_] (.inr rfl) rfl rfl rfl rfl (.inr ⟨HB.mk rfl,rfl⟩)
 have h2:=cF h hb
 obtain⟨q3,hq3,h4⟩:=Kfw h2
 refine go hΓ 1 rfl ?_
 refine Kjr [(0,.ptr 4 0),(3,.ptr 6 0),(5,.d (.hd (some 0) ((mGet v_h.keys s.Join).getD 0))),(22,B q3)] [mObH v_h.keys,mObH v_h.nodes,mObB v_h.ever,mObV v_h.History,.box 220 [.d (Sl eS v_h.d.Users),.d (Sl Lij v_h.d.Owners),I v_h.d.Life,B v_h.d.Approve,.map 0,.map 1,.map 2,.map 3],bg al,.box 37 (fS s)] ?_ ?_
 ·refine Kfs hmix (by kernel_rfl) ?_
  refine go hΓ 4 rfl ?_
  refine Kee rfl rfl (fun hb=>?_) (fun hb=>?_)
  ·have h5:=cT hq3 hb
   obtain⟨y6,hy6,h7⟩:=Kfw h5
   refine Kfn hΓ 7 rfl ?_
   refine Kgz (Lml Tryz.func61 rfl rfl) (Lju hy6) rfl rfl rfl rfl rfl rfl rfl ?_
   refine Kfn hΓ 3 rfl ?_
   refine Kee rfl rfl (fun hb=>?_) (fun hb=>?_)
   ·have h8:=cT h7 hb
    refine Kfn hΓ 10 rfl ?_
    obtain rfl:=oSi h8
    exact⟨⟨rfl,rfl,rfl,rfl,tV⟩,[],rfl,.inl rfl⟩
   have h9:=cF h7 hb
   refine Kfn hΓ 4 rfl ?_
   refine Kee rfl rfl (fun hb=>?_) (fun hb=>?_)
   ·have h10:=cT h9 hb
    refine Kfn hΓ 1 rfl ?_
    refine Kez rfl rfl ((Knj hΓ rfl rfl rfl rfl).1) ?_
    refine Kfn hΓ 4 rfl ?_
    obtain rfl:=oSi h10
    exact⟨⟨rfl,rfl,rfl,rfl,tV⟩,[],rfl,.inl rfl⟩
   have h11:=cF h9 hb
   refine Kfn hΓ 6 rfl ?_
   obtain rfl:=oSi h11
   exact⟨⟨rfl,rfl,rfl,rfl,tV⟩,[],rfl,.inl rfl⟩
  have h12:=cF hq3 hb
  refine Kfn hΓ 15 rfl ?_
  refine Kee rfl rfl (fun hb=>?_) (fun hb=>?_)
  ·have h13:=cT h12 hb
   refine Kfn hΓ 1 rfl ?_
   refine Kez rfl rfl ((Knj hΓ rfl rfl rfl rfl).1) ?_
   refine Kfn hΓ 4 rfl ?_
   obtain rfl:=oSi h13
   exact⟨⟨rfl,rfl,rfl,rfl,tV⟩,[],rfl,.inl rfl⟩
  have h14:=cF h12 hb
  refine Kfn hΓ 6 rfl ?_
  obtain rfl:=oSi h14
  exact⟨⟨rfl,rfl,rfl,rfl,tV⟩,[],rfl,.inl rfl⟩
 refine go hΓ 1 rfl ?_
 refine Kfp rfl (fun hb=>?_) (fun hb=>?_)
 ·have h15:=cT h4 hb
  refine go hΓ 8 rfl ?_
  refine Kjn ?_
  obtain rfl:=oSi h15
  exact Khj hΓ [_] (.inr rfl) rfl rfl rfl rfl (.inr ⟨HB.mk rfl,rfl⟩)
 have h16:=cF h4 hb
 obtain⟨q17,hq17,h18⟩:=Kfw h16
 refine go hΓ 1 rfl ?_
 refine Kjr [(0,.ptr 4 0),(3,.ptr 6 0),(5,.d (.hd (some 0) ((mGet v_h.keys s.Join).getD 0))),(46,B q17)] [mObH v_h.keys,mObH v_h.nodes,mObB v_h.ever,mObV v_h.History,.box 220 [.d (Sl eS v_h.d.Users),.d (Sl Lij v_h.d.Owners),I v_h.d.Life,B v_h.d.Approve,.map 0,.map 1,.map 2,.map 3],bg al,.box 37 (fS s)] ?_ ?_
 ·refine Kfs hmix (by kernel_rfl) ?_
  refine go hΓ 1 rfl ?_
  refine gl_o rfl ((Knj hΓ rfl rfl rfl rfl).2) ?_
  refine Kfn hΓ 1 rfl ?_
  refine Kee rfl rfl (fun hb=>?_) (fun hb=>?_)
  ·have h19:=cT hq17 hb
   obtain⟨hg21,h20⟩:=Kfx h19
   refine Kfn hΓ 1 rfl ?_
   refine Kez rfl rfl (Kos hg21 rfl) ?_
   refine Kez rfl rfl (Kot hΓ hg21 rfl rfl rfl rfl rfl rfl) ?_
   obtain⟨m22,hm22,h23⟩:=Kfw h20
   refine Kez rfl rfl (Kou hΓ (enc:=Liu) (bg:=5) m22 rfl rfl (ArU.r _ (ArU.r _ (ArU.r _ (ArU.l _ (Kmy (fun _ _=>rfl) hm22 m22))))) rfl (g:=B m22.revoked) rfl rfl) ?_
   refine Kfn hΓ 1 rfl ?_
   refine Kee rfl rfl (fun hb=>?_) (fun hb=>?_)
   ·have h24:=cT h23 hb
    refine Kfn hΓ 12 rfl ?_
    obtain rfl:=oSi h24
    exact⟨⟨rfl,rfl,rfl,rfl,tV⟩,[],rfl,.inl rfl⟩
   have h25:=cF h23 hb
   obtain⟨hg27,h26⟩:=Kfx h25
   refine Kfn hΓ 3 rfl ?_
   refine Kez rfl rfl (Kos hg27 rfl) ?_
   refine Kez rfl rfl (Kot hΓ hg27 rfl rfl rfl rfl rfl rfl) ?_
   refine Kez rfl rfl (Kot hΓ hg27 rfl rfl rfl rfl rfl rfl) ?_
   obtain⟨m28,hm28,h29⟩:=Kfw h26
   refine Kez rfl rfl (Kou hΓ (enc:=Liu) (bg:=5) m28 rfl rfl (ArU.r _ (ArU.r _ (ArU.r _ (ArU.l _ (Kmy (fun _ _=>rfl) hm28 m28))))) rfl (g:=I m28.Join.Until) rfl rfl) ?_
   refine Kfn hΓ 5 rfl ?_
   obtain rfl:=oSi h29
   exact⟨⟨rfl,rfl,rfl,rfl,tV⟩,[],rfl,.inl rfl⟩
  have h30:=cF hq17 hb
  refine Kfn hΓ 17 rfl ?_
  obtain rfl:=oSi h30
  exact⟨⟨rfl,rfl,rfl,rfl,tV⟩,[],rfl,.inl rfl⟩
 refine go hΓ 1 rfl ?_
 refine Kfp rfl (fun hb=>?_) (fun hb=>?_)
 ·have h31:=cT h18 hb
  refine go hΓ 8 rfl ?_
  refine Kjn ?_
  obtain rfl:=oSi h31
  exact Khj hΓ [_] (.inr rfl) rfl rfl rfl rfl (.inr ⟨HB.mk rfl,rfl⟩)
 have h32:=cF h18 hb
 obtain⟨q33,hq33,h34⟩:=Kfw h32
 refine go hΓ 1 rfl ?_
 refine Kjr [(0,.ptr 4 0),(3,.ptr 6 0),(5,.d (.hd (some 0) ((mGet v_h.keys s.Join).getD 0))),(65,B q33)] [mObH v_h.keys,mObH v_h.nodes,mObB v_h.ever,mObV v_h.History,.box 220 [.d (Sl eS v_h.d.Users),.d (Sl Lij v_h.d.Owners),I v_h.d.Life,B v_h.d.Approve,.map 0,.map 1,.map 2,.map 3],bg al,.box 37 (fS s)] ?_ ?_
 ·refine Kfs hmix (by kernel_rfl) ?_
  refine go hΓ 1 rfl ?_
  refine gl_o rfl ((Knj hΓ rfl rfl rfl rfl).2) ?_
  refine Kfn hΓ 1 rfl ?_
  refine Kee rfl rfl (fun hb=>?_) (fun hb=>?_)
  ·have h35:=cT hq33 hb
   obtain⟨hg37,h36⟩:=Kfx h35
   refine Kfn hΓ 1 rfl ?_
   refine Kez rfl rfl (Kos hg37 rfl) ?_
   refine Kez rfl rfl (Kot hΓ hg37 rfl rfl rfl rfl rfl rfl) ?_
   obtain⟨m38,hm38,h39⟩:=Kfw h36
   refine Kez rfl rfl (Kou hΓ (enc:=Liu) (bg:=5) m38 rfl rfl (ArU.r _ (ArU.r _ (ArU.r _ (ArU.l _ (Kmy (fun _ _=>rfl) hm38 m38))))) rfl (g:=I m38.used) rfl rfl) ?_
   obtain⟨hg41,h40⟩:=Kfx h39
   refine Kfn hΓ 1 rfl ?_
   refine Kez rfl rfl (Kos hg41 rfl) ?_
   refine Kez rfl rfl (Kot hΓ hg41 rfl rfl rfl rfl rfl rfl) ?_
   refine Kez rfl rfl (Kot hΓ hg41 rfl rfl rfl rfl rfl rfl) ?_
   obtain⟨m42,hm42,h43⟩:=Kfw h40
   refine Kez rfl rfl (Kou hΓ (enc:=Liu) (bg:=5) m42 rfl rfl (ArU.r _ (ArU.r _ (ArU.r _ (ArU.l _ (Kmy (fun _ _=>rfl) hm42 m42))))) rfl (g:=I m42.Join.Left) rfl rfl) ?_
   refine Kfn hΓ 4 rfl ?_
   obtain rfl:=oSi h43
   exact⟨⟨rfl,rfl,rfl,rfl,tV⟩,[],rfl,.inl rfl⟩
  have h44:=cF hq33 hb
  refine Kfn hΓ 13 rfl ?_
  obtain rfl:=oSi h44
  exact⟨⟨rfl,rfl,rfl,rfl,tV⟩,[],rfl,.inl rfl⟩
 refine go hΓ 1 rfl ?_
 refine Kfp rfl (fun hb=>?_) (fun hb=>?_)
 ·have h45:=cT h34 hb
  refine go hΓ 8 rfl ?_
  refine Kjn ?_
  obtain rfl:=oSi h45
  exact Khj hΓ [_] (.inr rfl) rfl rfl rfl rfl (.inr ⟨HB.mk rfl,rfl⟩)
 have h46:=cF h34 hb
 refine go hΓ 1 rfl ?_
 refine Kfs hmix (by kernel_rfl) ?_
 refine go hΓ 6 rfl ?_
 refine gl_o rfl (Kkr hΓ (kv:=kS) (agg:=false) (enc:=eB) v_h.ever s.Node (false:Bool) rfl rfl rfl rfl Kkh rfl rfl rfl rfl rfl rfl rfl) ?_
 refine Kfn hΓ 3 rfl ?_
 refine Kfp rfl (fun hb=>?_) (fun hb=>?_)
 ·have h47:=cT h46 hb
  refine go hΓ 8 rfl ?_
  refine Kjn ?_
  obtain rfl:=oSi h47
  exact Khj hΓ [_] (.inr rfl) rfl rfl rfl rfl (.inr ⟨HB.mk rfl,rfl⟩)
 have h48:=cF h46 hb
 obtain⟨y49,hy49,h50⟩:=Kfw h48
 refine go hΓ 5 rfl ?_
 refine Kgw [0,1,2,3,4,5] (B y49) [mObH v_h.keys,mObH v_h.nodes,mObB v_h.ever,mObV v_h.History,.box 220 [.d (Sl eS v_h.d.Users),.d (Sl Lij v_h.d.Owners),I v_h.d.Life,B v_h.d.Approve,.map 0,.map 1,.map 2,.map 3],bg al,.box 37 (fS s)] (Lml Tryz.func279 rfl rfl) (Lhd hy49) rfl (nBe rfl) rfl rfl rfl rfl rfl rfl rfl rfl rfl rfl ?_
 refine Kfm hΓ 3 rfl ?_
 refine Kfp rfl (fun hb=>?_) (fun hb=>?_)
 ·have h51:=cT h50 hb
  refine go hΓ 8 rfl ?_
  refine Kjn ?_
  obtain rfl:=oSi h51
  exact Khj hΓ [_] (.inr rfl) rfl rfl rfl rfl (.inr ⟨HB.mk rfl,rfl⟩)
 have h52:=cF h50 hb
 refine go hΓ 6 rfl ?_
 refine eo_o rfl (Klj hΓ (kv:=kS) (agg:=false) (enc:=(eH (some 0))) v_h.nodes rfl rfl rfl rfl) ?_
 refine Kfm hΓ 4 rfl ?_
 refine Kfp rfl (fun hb=>?_) (fun hb=>?_)
 ·have h53:=cT h52 hb
  refine go hΓ 8 rfl ?_
  refine Kjn ?_
  obtain rfl:=oSi h53
  exact Khj hΓ [_] (.inr rfl) rfl rfl rfl rfl (.inr ⟨HB.mk rfl,rfl⟩)
 have h54:=cF h52 hb
 refine go hΓ 4 rfl ?_
 refine Kir [.dead,.dead,.dead,.dead,.box 220 [.d (Sl eS v_h.d.Users),.d (Sl Lij v_h.d.Owners),I v_h.d.Life,B v_h.d.Approve,.map 0,.map 1,.map 2,.map 3],.dead,.box 37 (fS s)] [1,3,5,7,9,11,16,23] [26] [] hmix (by kernel_rfl) (by kernel_rfl) ⟨rfl,rfl,tV⟩ (nBe rfl) ?_
 refine go_E hΓ 25 rfl ?_
 refine ge_q rfl (.inl rfl) (fun _ _=>Kiu (qt_p (Kji hΓ (gs:=[S s.Node,S s.By,S s.Name,S s.Public,.d (Sl eS []),I s.At,I (if 345686400<(wi (s.At+v_h.d.Life)) then 345686400 else wi (s.At+v_h.d.Life)),B (!v_h.d.Approve)]) rfl rfl rfl rfl rfl rfl))) ?_
 refine ge_h [mObH v_h.keys,mObH v_h.nodes,mObB v_h.ever,mObV v_h.History,.box 220 [.d (Sl eS v_h.d.Users),.d (Sl Lij v_h.d.Owners),I v_h.d.Life,B v_h.d.Approve,.map 0,.map 1,.map 2,.map 3],bg al,.box 37 (fS s),.box 77 [S s.Node,S s.By,S s.Name,S s.Public,.d (Sl eS []),I s.At,I (if 345686400<(wi (s.At+v_h.d.Life)) then 345686400 else wi (s.At+v_h.d.Life)),B (!v_h.d.Approve)]] rfl rfl rfl (Kiy ⟨rfl,rfl,tV⟩) (Kjb (Kjh rfl rfl rfl)) ?_
 refine go_E hΓ 1 rfl ?_
 refine Kit ?_
 refine go hΓ 5 rfl ?_
 refine eo_o rfl ((Knj hΓ rfl rfl rfl rfl).2) ?_
 obtain⟨q55,hq55,h56⟩:=Kfw h54
 refine Kfm hΓ 2 rfl ?_
 refine Kjr [(0,.ptr 4 0),(3,.ptr 6 0),(6,.ptr 7 0)] [mObH v_h.keys,mObH v_h.nodes,mObB v_h.ever,mObV v_h.History,.box 220 [.d (Sl eS v_h.d.Users),.d (Sl Lij v_h.d.Owners),I v_h.d.Life,B v_h.d.Approve,.map 0,.map 1,.map 2,.map 3],bg q55.1,.box 37 (fS s),.box 77 (fM q55.2)] ?_ ?_
 ·refine Kfp rfl (fun hb=>?_) (fun hb=>?_)
  ·have h57:=cT hq55 hb
   obtain⟨hg59,h58⟩:=Kfx h57
   refine go hΓ 3 rfl ?_
   refine eo_o rfl (Kos hg59 rfl) ?_
   refine eo_o rfl (Kot hΓ hg59 rfl rfl rfl rfl rfl rfl) ?_
   obtain⟨m60,hm60,h61⟩:=Kfw h58
   refine eo_o rfl (Kou hΓ (enc:=Liu) (bg:=5) m60 rfl rfl (ArU.r _ (ArU.r _ (ArU.r _ (ArU.l _ (Kmy (fun _ _=>rfl) hm60 m60))))) rfl (g:=I m60.used) rfl rfl) ?_
   obtain⟨hg63,h62⟩:=Kfx h61
   refine Kfm hΓ 1 rfl ?_
   refine eo_o rfl (Kos hg63 rfl) ?_
   refine eo_o rfl (Kot hΓ hg63 rfl rfl rfl rfl rfl rfl) ?_
   obtain⟨m64,hm64,h65⟩:=Kfw h62
   refine eo_u (nBe rfl) (Kov hΓ (enc:=Liu) (bg:=5) m64 (⟨m64.Join,m64.revoked,wi (m60.used+1)⟩:Lci) rfl rfl (ArU.r _ (ArU.r _ (ArU.r _ (ArU.l _ (Kmy (fun _ _=>rfl) hm64 (⟨m64.Join,m64.revoked,wi (m60.used+1)⟩:Lci)))))) rfl rfl (by intro e;cases e) rfl rfl rfl rfl rfl rfl rfl) ?_
   refine Khe [mObH v_h.keys,mObH v_h.nodes,mObB v_h.ever,mObV v_h.History,.box 220 [.d (Sl eS v_h.d.Users),.d (Sl Lij v_h.d.Owners),I v_h.d.Life,B v_h.d.Approve,.map 0,.map 1,.map 2,.map 3],.bag al.1 (arX al.2.1 al.2.2.1 al.2.2.2.1 (hSet al.2.2.2.2.1 ((mGet v_h.keys s.Join).getD 0) (⟨m64.Join,m64.revoked,wi (m60.used+1)⟩:Lci)) al.2.2.2.2.2) [],.box 37 (fS s),.box 77 [S s.Node,S s.By,S s.Name,S s.Public,.d (Sl eS []),I s.At,I (if 345686400<(wi (s.At+v_h.d.Life)) then 345686400 else wi (s.At+v_h.d.Life)),B (!v_h.d.Approve)]] rfl ?_
   refine Kfm hΓ 10 rfl ?_
   obtain⟨q66,hq66,h67⟩:=Kfw h65
   refine Kfv 6 [(0,.ptr 4 0),(3,.ptr 6 0),(5,.d (.hd (some 0) ((mGet v_h.keys s.Join).getD 0))),(6,.ptr 7 0),(136,.ptr 7 0),(147,B q66)] [mObH v_h.keys,mObH v_h.nodes,mObB v_h.ever,mObV v_h.History,.box 220 [.d (Sl eS v_h.d.Users),.d (Sl Lij v_h.d.Owners),I v_h.d.Life,B v_h.d.Approve,.map 0,.map 1,.map 2,.map 3],.bag al.1 (arX al.2.1 al.2.2.1 al.2.2.2.1 (hSet al.2.2.2.2.1 ((mGet v_h.keys s.Join).getD 0) (⟨m64.Join,m64.revoked,wi (m60.used+1)⟩:Lci)) al.2.2.2.2.2) [],.box 37 (fS s),.box 77 [S s.Node,S s.By,S s.Name,S s.Public,.d (Sl eS []),I s.At,I (if 345686400<(wi (s.At+v_h.d.Life)) then 345686400 else wi (s.At+v_h.d.Life)),B (!v_h.d.Approve)]] ?_ ?_
   ·refine Krj rfl rfl (fun hb=>?_) (fun hb=>?_)
    ·have h68:=cT hq66 hb
     refine Kfm hΓ 7 rfl ?_
     obtain rfl:=oSi h68
     exact⟨⟨rfl,rfl,rfl,rfl,rfl,rfl,tV⟩,[],rfl,.inl rfl⟩
    have h69:=cF hq66 hb
    obtain⟨hg71,h70⟩:=Kfx h69
    refine Kfm hΓ 1 rfl ?_
    refine Krh rfl ?_
    refine eo_o rfl (Kos hg71 rfl) ?_
    refine Krh rfl ?_
    refine eo_o rfl (Kot hΓ hg71 rfl rfl rfl rfl rfl rfl) ?_
    refine Krh rfl ?_
    refine eo_o rfl (Kot hΓ hg71 rfl rfl rfl rfl rfl rfl) ?_
    obtain⟨m72,hm72,h73⟩:=Kfw h70
    refine Krh rfl ?_
    refine eo_o rfl (Kou hΓ (enc:=Liu) (bg:=5) m72 rfl rfl (ArU.r _ (ArU.r _ (ArU.r _ (ArU.l _ (Kmy (fun _ _=>rfl) hm72 m72))))) rfl (g:=B m72.Join.Ready) rfl rfl) ?_
    refine Kfm hΓ 2 rfl ?_
    obtain rfl:=oSi h73
    exact⟨⟨rfl,rfl,rfl,rfl,rfl,rfl,tV⟩,[],rfl,.inl rfl⟩
   refine Kfm hΓ 2 rfl ?_
   refine Ksu hΓ rfl rfl rfl rfl rfl rfl rfl rfl (nBe rfl) ?_
   refine Khe [mObH v_h.keys,mObH v_h.nodes,mObB v_h.ever,mObV v_h.History,.box 220 [.d (Sl eS v_h.d.Users),.d (Sl Lij v_h.d.Owners),I v_h.d.Life,B v_h.d.Approve,.map 0,.map 1,.map 2,.map 3],.bag al.1 (arX al.2.1 al.2.2.1 al.2.2.2.1 (hSet al.2.2.2.2.1 ((mGet v_h.keys s.Join).getD 0) (⟨m64.Join,m64.revoked,wi (m60.used+1)⟩:Lci)) al.2.2.2.2.2) [],.box 37 (fS s),.box 77 [S s.Node,S s.By,S s.Name,S s.Public,.d (Sl eS []),I s.At,I (if 345686400<(wi (s.At+v_h.d.Life)) then 345686400 else wi (s.At+v_h.d.Life)),B q66]] rfl ?_
   obtain⟨hg75,h74⟩:=Kfx h67
   refine Kfm hΓ 6 rfl ?_
   refine eo_o rfl (Kos hg75 rfl) ?_
   refine eo_o rfl (Kot hΓ hg75 rfl rfl rfl rfl rfl rfl) ?_
   refine eo_o rfl (Kot hΓ hg75 rfl rfl rfl rfl rfl rfl) ?_
   obtain⟨m76,hm76,h77⟩:=Kfw h74
   refine eo_o rfl (Kou hΓ (enc:=Liu) (bg:=5) m76 rfl rfl (ArU.r _ (ArU.r _ (ArU.r _ (ArU.l _ (Kmy (fun _ _=>rfl) hm76 m76))))) rfl (g:=S m76.Join.By) rfl rfl) ?_
   refine Kfm hΓ 2 rfl ?_
   refine Ksu hΓ rfl rfl rfl rfl rfl rfl rfl rfl (nBe rfl) ?_
   refine Khe [mObH v_h.keys,mObH v_h.nodes,mObB v_h.ever,mObV v_h.History,.box 220 [.d (Sl eS v_h.d.Users),.d (Sl Lij v_h.d.Owners),I v_h.d.Life,B v_h.d.Approve,.map 0,.map 1,.map 2,.map 3],.bag al.1 (arX al.2.1 al.2.2.1 al.2.2.2.1 (hSet al.2.2.2.2.1 ((mGet v_h.keys s.Join).getD 0) (⟨m64.Join,m64.revoked,wi (m60.used+1)⟩:Lci)) al.2.2.2.2.2) [],.box 37 (fS s),.box 77 [S s.Node,S m76.Join.By,S s.Name,S s.Public,.d (Sl eS []),I s.At,I (if 345686400<(wi (s.At+v_h.d.Life)) then 345686400 else wi (s.At+v_h.d.Life)),B q66]] rfl ?_
   obtain⟨hg79,h78⟩:=Kfx h77
   refine Kfm hΓ 5 rfl ?_
   refine eo_o rfl (Kos hg79 rfl) ?_
   refine eo_o rfl (Kot hΓ hg79 rfl rfl rfl rfl rfl rfl) ?_
   refine eo_o rfl (Kot hΓ hg79 rfl rfl rfl rfl rfl rfl) ?_
   obtain⟨m80,hm80,h81⟩:=Kfw h78
   refine eo_o rfl (Kou hΓ (enc:=Liu) (bg:=5) m80 rfl rfl (ArU.r _ (ArU.r _ (ArU.r _ (ArU.l _ (Kmy (fun _ _=>rfl) hm80 m80))))) rfl (g:=.d (Sl eS m80.Join.Tags)) rfl rfl) ?_
   refine Kfm hΓ 4 rfl ?_
   refine Kfp rfl (fun hb=>?_) (fun hb=>?_)
   ·have h82:=cT h81 hb
    obtain⟨hg84,h83⟩:=Kfx h82
    refine go hΓ 5 rfl ?_
    refine eo_o rfl (Kos hg84 rfl) ?_
    refine eo_o rfl (Kot hΓ hg84 rfl rfl rfl rfl rfl rfl) ?_
    refine eo_o rfl (Kot hΓ hg84 rfl rfl rfl rfl rfl rfl) ?_
    obtain⟨m85,hm85,h86⟩:=Kfw h83
    refine eo_o rfl (Kou hΓ (enc:=Liu) (bg:=5) m85 rfl rfl (ArU.r _ (ArU.r _ (ArU.r _ (ArU.l _ (Kmy (fun _ _=>rfl) hm85 m85))))) rfl (g:=.d (Sl eS m85.Join.Tags)) rfl rfl) ?_
    obtain⟨y87,hy87,h88⟩:=Kfw h86
    refine Kgx (Lml Tryz.func213 rfl rfl) (Pure.rows (Llh hy87) rfl rfl) rfl (nBe rfl) rfl rfl rfl rfl rfl ?_
    refine Kfm hΓ 2 rfl ?_
    refine Ksu hΓ rfl rfl rfl rfl rfl rfl rfl rfl (nBe rfl) ?_
    refine Khe [mObH v_h.keys,mObH v_h.nodes,mObB v_h.ever,mObV v_h.History,.box 220 [.d (Sl eS v_h.d.Users),.d (Sl Lij v_h.d.Owners),I v_h.d.Life,B v_h.d.Approve,.map 0,.map 1,.map 2,.map 3],.bag al.1 (arX al.2.1 al.2.2.1 al.2.2.2.1 (hSet al.2.2.2.2.1 ((mGet v_h.keys s.Join).getD 0) (⟨m64.Join,m64.revoked,wi (m60.used+1)⟩:Lci)) al.2.2.2.2.2) [],.box 37 (fS s),.box 77 [S s.Node,S [],S s.Name,S s.Public,.d (Sl eS []),I s.At,I (if 345686400<(wi (s.At+v_h.d.Life)) then 345686400 else wi (s.At+v_h.d.Life)),B q66]] rfl ?_
    refine Kfm hΓ 2 rfl ?_
    refine Ksu hΓ rfl rfl rfl rfl rfl rfl rfl rfl (nBe rfl) ?_
    refine Khe [mObH v_h.keys,mObH v_h.nodes,mObB v_h.ever,mObV v_h.History,.box 220 [.d (Sl eS v_h.d.Users),.d (Sl Lij v_h.d.Owners),I v_h.d.Life,B v_h.d.Approve,.map 0,.map 1,.map 2,.map 3],.bag al.1 (arX al.2.1 al.2.2.1 al.2.2.2.1 (hSet al.2.2.2.2.1 ((mGet v_h.keys s.Join).getD 0) (⟨m64.Join,m64.revoked,wi (m60.used+1)⟩:Lci)) al.2.2.2.2.2) [],.box 37 (fS s),.box 77 [S s.Node,S [],S s.Name,S s.Public,.d (Sl eS y87),I s.At,I (if 345686400<(wi (s.At+v_h.d.Life)) then 345686400 else wi (s.At+v_h.d.Life)),B q66]] rfl ?_
    refine Kfm hΓ 2 rfl ?_
    refine Ksu hΓ rfl rfl rfl rfl rfl rfl rfl rfl (nBe rfl) ?_
    refine Khe [mObH v_h.keys,mObH v_h.nodes,mObB v_h.ever,mObV v_h.History,.box 220 [.d (Sl eS v_h.d.Users),.d (Sl Lij v_h.d.Owners),I v_h.d.Life,B v_h.d.Approve,.map 0,.map 1,.map 2,.map 3],.bag al.1 (arX al.2.1 al.2.2.1 al.2.2.2.1 (hSet al.2.2.2.2.1 ((mGet v_h.keys s.Join).getD 0) (⟨m64.Join,m64.revoked,wi (m60.used+1)⟩:Lci)) al.2.2.2.2.2) [],.box 37 (fS s),.box 77 [S s.Node,S [],S s.Name,S s.Public,.d (Sl eS y87),I s.At,I 345686400,B q66]] rfl ?_
    refine Kfm hΓ 1 rfl ?_
    obtain rfl:=oSi h88
    exact⟨⟨rfl,rfl,rfl,tV⟩,[],rfl,.inl rfl⟩
   have h89:=cF h81 hb
   refine go hΓ 1 rfl ?_
   obtain rfl:=oSi h89
   exact⟨⟨rfl,rfl,rfl,tV⟩,[],rfl,.inl rfl⟩
  have h90:=cF hq55 hb
  refine go hΓ 1 rfl ?_
  obtain rfl:=oSi h90
  exact⟨⟨rfl,rfl,rfl,tV⟩,[],rfl,.inl rfl⟩
 refine go hΓ 2 rfl ?_
 refine Kpr (kv:=kS) (agg:=false) (enc:=(eH (some 0))) (id:=1) v_h.nodes rfl (nBe rfl) (fun mr91 bs92 cl93 hbl94=>?_)
 refine j_hp [mObH v_h.keys,mObS kS false (eH (some 0)) v_h.nodes (rawM kS (eH (some 0)) mr91 bs92 cl93),mObB v_h.ever,mObV v_h.History,.box 220 [.d (Sl eS v_h.d.Users),.d (Sl Lij v_h.d.Owners),I v_h.d.Life,B v_h.d.Approve,.map 0,.map 1,.map 2,.map 3],bg q55.1,.box 37 (fS s),.box 77 (fM q55.2)] rfl ?_
 refine Kpr (kv:=kS) (agg:=false) (enc:=eB) (id:=2) v_h.ever rfl (nBe rfl) (fun mr95 bs96 cl97 hbl98=>?_)
 refine j_hp [mObH v_h.keys,mObS kS false (eH (some 0)) v_h.nodes (rawM kS (eH (some 0)) mr91 bs92 cl93),mObS kS false eB v_h.ever (rawM kS eB mr95 bs96 cl97),mObV v_h.History,.box 220 [.d (Sl eS v_h.d.Users),.d (Sl Lij v_h.d.Owners),I v_h.d.Life,B v_h.d.Approve,.map 0,.map 1,.map 2,.map 3],bg q55.1,.box 37 (fS s),.box 77 (fM q55.2)] rfl ?_
 refine Kir [.dead,.dead,.dead,.dead,.box 220 [.d (Sl eS v_h.d.Users),.d (Sl Lij v_h.d.Owners),I v_h.d.Life,B v_h.d.Approve,.map 0,.map 1,.map 2,.map 3],.dead,.box 37 (fS s)] [3,5,9,11] [13,15,16,18] [] hmix (by kernel_rfl) (by kernel_rfl) ⟨rfl,rfl,tV⟩ (nBe rfl) ?_
 refine go_E hΓ 13 rfl ?_
 refine ge_h [mObH v_h.keys,mObS kS false (eH (some 0)) (mEnt v_h.nodes s.Node (0:Nat)) (rawM kS (eH (some 0)) (entR mr91 s.Node (0:Nat)) (entB mr91 bs92 cl93 s.Node) (entC mr91 cl93 s.Node)),mObS kS false eB v_h.ever (rawM kS eB mr95 bs96 cl97),mObV v_h.History,.box 220 [.d (Sl eS v_h.d.Users),.d (Sl Lij v_h.d.Owners),I v_h.d.Life,B v_h.d.Approve,.map 0,.map 1,.map 2,.map 3],bg q55.1,.box 37 (fS s),.box 77 (fM q55.2)] rfl rfl rfl (Kiy ⟨rfl,rfl,tV⟩) (Kjb (Kpt hΓ (kv:=kS) (agg:=false) (enc:=(eH (some 0))) (id:=1) v_h.nodes mr91 s.Node (0:Nat) rfl rfl rfl rfl Kkh rfl rfl rfl (Kne rfl) rfl hbl94 rfl)) ?_
 refine go_E hΓ 1 rfl ?_
 refine Kiw [mObH v_h.keys,mObH (mSet v_h.nodes s.Node (q55.1.1.length+1)),mObS kS false eB v_h.ever (rawM kS eB mr95 bs96 cl97),mObV v_h.History,.box 220 [.d (Sl eS v_h.d.Users),.d (Sl Lij v_h.d.Owners),I v_h.d.Life,B v_h.d.Approve,.map 0,.map 1,.map 2,.map 3],.bag (q55.1.1++[false]) (arX q55.1.2.1 q55.1.2.2.1 ((q55.1.1.length,q55.2) :: q55.1.2.2.2.1) q55.1.2.2.2.2.1 q55.1.2.2.2.2.2) [],.box 37 (fS s),.dead] rfl rfl (Kiy ⟨rfl,rfl,tV⟩) (Kjc (Kln (Kmw (hp2:=[mObH v_h.keys,mObS kS false (eH (some 0)) (mEnt v_h.nodes s.Node (0:Nat)) (rawM kS (eH (some 0)) (entR mr91 s.Node (0:Nat)) (entB mr91 bs92 cl93 s.Node) (entC mr91 cl93 s.Node)),mObS kS false eB v_h.ever (rawM kS eB mr95 bs96 cl97),mObV v_h.History,.box 220 [.d (Sl eS v_h.d.Users),.d (Sl Lij v_h.d.Owners),I v_h.d.Life,B v_h.d.Approve,.map 0,.map 1,.map 2,.map 3],.bag (q55.1.1++[false]) (arX q55.1.2.1 q55.1.2.2.1 ((q55.1.1.length,q55.2) :: q55.1.2.2.2.1) q55.1.2.2.2.2.1 q55.1.2.2.2.2.2) [],.box 37 (fS s),.dead]) (bg:=5) (id:=7) (a:=(fB 77 Lio) q55.1.1.length q55.2) [(192,some 0)] ⟨rfl,tV⟩ rfl rfl ⟨rfl,rfl⟩ rfl rfl (Knc _ (Knc _ (Knb _ Kna))) rfl rfl) (Kpu (kv:=kS) (agg:=false) (enc:=(eH (some 0))) (id:=1) v_h.nodes mr91 s.Node (0:Nat) (q55.1.1.length+1) Kkh rfl rfl rfl rfl rfl hbl94 rfl) (nBe rfl))) ?_
 refine ge_h [mObH v_h.keys,mObH (mSet v_h.nodes s.Node (q55.1.1.length+1)),mObS kS false eB (mEnt v_h.ever s.Node (false:Bool)) (rawM kS eB (entR mr95 s.Node (false:Bool)) (entB mr95 bs96 cl97 s.Node) (entC mr95 cl97 s.Node)),mObV v_h.History,.box 220 [.d (Sl eS v_h.d.Users),.d (Sl Lij v_h.d.Owners),I v_h.d.Life,B v_h.d.Approve,.map 0,.map 1,.map 2,.map 3],.bag (q55.1.1++[false]) (arX q55.1.2.1 q55.1.2.2.1 ((q55.1.1.length,q55.2) :: q55.1.2.2.2.1) q55.1.2.2.2.2.1 q55.1.2.2.2.2.2) [],.box 37 (fS s),.dead] rfl rfl rfl (Kiy ⟨rfl,rfl,tV⟩) (Kjb (Kpt hΓ (kv:=kS) (agg:=false) (enc:=eB) (id:=2) v_h.ever mr95 s.Node (false:Bool) rfl rfl rfl rfl Kkh rfl rfl rfl (Knd rfl rfl rfl) rfl hbl98 rfl)) ?_
 refine go_E hΓ 1 rfl ?_
 refine Kiw [mObH v_h.keys,mObH (mSet v_h.nodes s.Node (q55.1.1.length+1)),mObB (mSet v_h.ever s.Node true),mObV v_h.History,.box 220 [.d (Sl eS v_h.d.Users),.d (Sl Lij v_h.d.Owners),I v_h.d.Life,B v_h.d.Approve,.map 0,.map 1,.map 2,.map 3],.bag (q55.1.1++[false]) (arX q55.1.2.1 q55.1.2.2.1 ((q55.1.1.length,q55.2) :: q55.1.2.2.2.1) q55.1.2.2.2.2.1 q55.1.2.2.2.2.2) [],.box 37 (fS s),.dead] rfl rfl (Kiy ⟨rfl,rfl,tV⟩) (Kjc (Kpu (kv:=kS) (agg:=false) (enc:=eB) (id:=2) v_h.ever mr95 s.Node (false:Bool) true Kkh rfl rfl rfl rfl rfl hbl98 rfl)) ?_
 refine Kit ?_
 refine go hΓ 2 rfl ?_
 refine Kir [.dead,.dead,.dead,.dead,.box 220 [.d (Sl eS v_h.d.Users),.d (Sl Lij v_h.d.Owners),I v_h.d.Life,B v_h.d.Approve,.map 0,.map 1,.map 2,.map 3],.dead,.box 37 (fS s)] [3,5,7,9] [11,12] [] hmix (by kernel_rfl) (by kernel_rfl) ⟨rfl,rfl,tV⟩ (nBe rfl) ?_
 refine go_E hΓ 10 rfl ?_
 refine ge_q rfl (.inl rfl) (fun _ _=>Kiu (qt_p (Kji hΓ (gs:=[S s.Public,I s.At,I 345686400]) rfl rfl rfl rfl rfl rfl))) ?_
 refine ge_h [mObH v_h.keys,mObH (mSet v_h.nodes s.Node (q55.1.1.length+1)),mObB (mSet v_h.ever s.Node true),mObV v_h.History,.box 220 [.d (Sl eS v_h.d.Users),.d (Sl Lij v_h.d.Owners),I v_h.d.Life,B v_h.d.Approve,.map 0,.map 1,.map 2,.map 3],.bag (q55.1.1++[false]) (arX q55.1.2.1 q55.1.2.2.1 ((q55.1.1.length,q55.2) :: q55.1.2.2.2.1) q55.1.2.2.2.2.1 q55.1.2.2.2.2.2) [],.box 37 (fS s),.dead,rO 107 3 Liv [(⟨s.Public,s.At,345686400⟩:Lcj)]] rfl rfl rfl (Kiy ⟨rfl,rfl,tV⟩) (Kjb (Kpv hΓ (enc:=Liv) [(⟨s.Public,s.At,345686400⟩:Lcj)] rfl rfl rfl rfl rfl rfl rfl rfl rfl rfl rfl rfl rfl rfl)) ?_
 refine Kiw [mObH v_h.keys,mObH (mSet v_h.nodes s.Node (q55.1.1.length+1)),mObB (mSet v_h.ever s.Node true),mObV (mSet v_h.History s.Node ((q55.1.1++[false]).length+1,[(⟨s.Public,s.At,345686400⟩:Lcj)].length)),.box 220 [.d (Sl eS v_h.d.Users),.d (Sl Lij v_h.d.Owners),I v_h.d.Life,B v_h.d.Approve,.map 0,.map 1,.map 2,.map 3],.bag ((q55.1.1++[false])++[true]) (arX q55.1.2.1 (((q55.1.1++[false]).length,[(⟨s.Public,s.At,345686400⟩:Lcj)]) :: q55.1.2.2.1) ((q55.1.1.length,q55.2) :: q55.1.2.2.2.1) q55.1.2.2.2.2.1 q55.1.2.2.2.2.2) [],.box 37 (fS s),.dead,.dead] rfl rfl (Kiy ⟨rfl,rfl,tV⟩) (Kjc (Kln (Kpn (hp2:=[mObH v_h.keys,mObH (mSet v_h.nodes s.Node (q55.1.1.length+1)),mObB (mSet v_h.ever s.Node true),mObV v_h.History,.box 220 [.d (Sl eS v_h.d.Users),.d (Sl Lij v_h.d.Owners),I v_h.d.Life,B v_h.d.Approve,.map 0,.map 1,.map 2,.map 3],.bag ((q55.1.1++[false])++[true]) (arX q55.1.2.1 (((q55.1.1++[false]).length,[(⟨s.Public,s.At,345686400⟩:Lcj)]) :: q55.1.2.2.1) ((q55.1.1.length,q55.2) :: q55.1.2.2.2.1) q55.1.2.2.2.2.1 q55.1.2.2.2.2.2) [],.box 37 (fS s),.dead,.dead]) (enc:=Liv) (id:=8) (bg:=5) 208 (nblt.1 rfl) (nblt.1 rfl) rfl rfl rfl (Knc _ (Knb _ Kna)) rfl rfl) (Kkv hΓ (kv:=kS) (agg:=false) (enc:=(eV 107 3)) (id:=3) v_h.History s.Node ((q55.1.1++[false]).length+1,[(⟨s.Public,s.At,345686400⟩:Lcj)].length) rfl rfl rfl Kkh rfl rfl rfl rfl rfl) (nBe rfl))) ?_
 refine Kit ?_
 refine go hΓ 7 rfl ?_
 refine Kjn ?_
 obtain rfl:=oSi h56
 exact Khj hΓ [_,_,_] (.inr rfl) rfl rfl rfl rfl (.inr ⟨HB.mk rfl,rfl⟩)
theorem Lhf{t:Str}{x:Lbx}{x2:Str}{r:Bool}(h:Lfz t x x2=some r):EC Tryz.prog 247 [S t,.ptr 0 0,.ptr 1 0] [.box 29 (fD x),.box 9 [S x2]] fun g hp'=>g=B r∧hp'=[.box 29 (fD x),.box 9 [S x2]]:=by
 refine Krb (Fr.of 0 _) Tryz.func247 rfl (Fr.of_ok _) (nBe rfl) fun _=>?_
 refine Kfo ?_
 unfold Lfz at h
 obtain⟨y1,hy1,h2⟩:=Kfw h
 refine go hΓ 9 rfl ?_
 refine Kgx (Lml Tryz.func109 rfl rfl) (Lmi hy1) rfl (nBe rfl) rfl rfl rfl rfl rfl ?_
 obtain⟨y3,hy3,h4⟩:=Kfw h2
 refine Kfm hΓ 11 rfl ?_
 refine Kgx (Lml Tryz.func61 rfl rfl) (Lju hy3) rfl (nBe rfl) rfl rfl rfl rfl rfl ?_
 refine Kfm hΓ 4 rfl ?_
 obtain rfl:=oSi h4
 exact Khj hΓ [] (.inr rfl) rfl rfl rfl rfl (.inl rfl)
theorem Lhg{s:List Str}{f:Lbx}{f2:Str}{r:Int}(h:Lga s f f2=some r):EC Tryz.prog 246 [.d (Sl eS s),.fn (.func 247) [] [.ptr 0 0,.ptr 1 0]] [.box 29 (fD f),.box 9 [S f2]] fun g hp'=>g=I r∧hp'=[.box 29 (fD f),.box 9 [S f2]]:=by
 refine Krb (Fr.of 0 _) Tryz.func246 rfl (Fr.of_ok _) (nBe rfl) fun _=>?_
 refine Kfo ?_
 unfold Lga at h
 refine go hΓ 13 rfl ?_
 obtain⟨q4,hq4,h5⟩:=Kfw h
 refine Kgf 0 rfl fun hb7=>?_
 refine Kjq (R:=fun a6=>q4=.go a6) (fun a6=>[]) (fun a6=>[.box 29 (fD f),.box 9 [S f2]]) ?_ ?_
 ·refine go hΓ 1 rfl ?_
  refine Kge s hq4 (fun i1 s2=>[(0,.d (Sl eS s)),(1,.fn (.func 247) [] [.ptr 0 0,.ptr 1 0]),(7,I (s.length:Int)),(8,I (i1:Int))]) (fun s2=>[.box 29 (fD f),.box 9 [S f2]]) ⟨⟨rfl,rfl,rfl,rfl,tV⟩,[],rfl,.inl rfl⟩ (fun i1 x3 s2 y11 hx8 hlt hy9 hout10=>?_) (fun s2 hgo=>?_)
  ·refine go hΓ 6 rfl ?_
   refine Kfq rfl (decide_eq_true (Int.ofNat_lt.2 hlt)) ?_
   refine go hΓ 15 rfl ?_
   refine eo_o rfl (Kgg hΓ (enc:=eS) (Kfz hx8) rfl rfl rfl rfl rfl (fun _=>rfl)) ?_
   obtain⟨y12,hy12,h13⟩:=Kfw hy9
   refine Kfm hΓ 1 rfl ?_
   refine Kgw [0,1] (B y12) [.box 29 (fD f),.box 9 [S f2]] (Lml Tryz.func247 rfl rfl) (Lhf hy12) rfl (nBe rfl) rfl rfl rfl rfl rfl rfl rfl rfl rfl rfl ?_
   refine Kfm hΓ 2 rfl ?_
   refine Kfp rfl (fun hb=>?_) (fun hb=>?_)
   ·have h14:=cT h13 hb
    refine go hΓ 9 rfl ?_
    obtain⟨v15,hv15,h16⟩:=Kfw h14
    obtain rfl:=oSi h16
    obtain rfl:=hout10 _ rfl
    obtain rfl:=oSi h5
    refine go hΓ 4 rfl ?_
    obtain rfl:=oSi hv15
    exact Khj hΓ [] (.inr rfl) rfl rfl rfl rfl (.inl rfl)
   have h17:=cF h13 hb
   refine go hΓ 7 rfl ?_
   obtain rfl:=oSi h17
   exact⟨_,rfl,⟨⟨rfl,rfl,rfl,Kew rfl (Kev (nLl hlt hb7)),tV⟩,[],rfl,.inl rfl⟩⟩
  subst hgo
  refine go hΓ 6 rfl ?_
  refine Kfr rfl (decide_eq_false (Int.lt_irrefl _)) ?_
  refine go hΓ 4 rfl ?_
  exact⟨_,rfl,⟨tV,[],rfl,.inl rfl⟩⟩
 intro a6 ha
 subst ha
 replace h5:=Kjl h5
 refine go hΓ 7 rfl ?_
 obtain rfl:=oSi h5
 exact Khj hΓ [] (.inr rfl) rfl rfl rfl rfl (.inl rfl)
theorem Lhh{s:List Str}{f:Lbx}{f2:Str}{r:Bool}(h:Lgb s f f2=some r):EC Tryz.prog 158 [.d (Sl eS s),.fn (.func 247) [] [.ptr 0 0,.ptr 1 0]] [.box 29 (fD f),.box 9 [S f2]] fun g hp'=>g=B r∧hp'=[.box 29 (fD f),.box 9 [S f2]]:=by
 refine Krb (Fr.of 0 _) Tryz.func158 rfl (Fr.of_ok _) (nBe rfl) fun _=>?_
 refine Kfo ?_
 unfold Lgb at h
 obtain⟨y1,hy1,h2⟩:=Kfw h
 refine go hΓ 9 rfl ?_
 refine Kgw [0,1] (I y1) [.box 29 (fD f),.box 9 [S f2]] (Lml Tryz.func246 rfl rfl) (Lhg hy1) rfl (nBe rfl) rfl rfl rfl rfl rfl rfl rfl rfl rfl rfl ?_
 refine Kfm hΓ 5 rfl ?_
 obtain rfl:=oSi h2
 exact Khj hΓ [] (.inr rfl) rfl rfl rfl rfl (.inl rfl)
theorem Lhi{d:Lbx}{user:Str}{m:Lcb}{r:Bool}(h:Lgc d user m=some r):Pure Tryz.prog 160 [.agg (fD d),S user,.agg (fM m)] (B r):=by
 refine Pure.enter (Fr.of 0 _) Tryz.func160 rfl (Fr.of_ok _) rfl rfl ?_
 refine Kfo ?_
 unfold Lgc at h
 refine go hΓ 2 rfl ?_
 refine Ksq rfl rfl rfl rfl (nBe rfl) ?_
 refine Ksq rfl rfl rfl rfl (nBe rfl) ?_
 refine Ksq rfl rfl rfl rfl (nBe rfl) ?_
 refine Kfm hΓ 10 rfl ?_
 obtain⟨q1,hq1,h2⟩:=Kfw h
 refine Kfv 5 [(6,B false),(16,B q1)] [.box 29 (fD d),.box 9 [S user],.box 77 (fM m)] ?_ ?_
 ·refine Krj rfl rfl (fun hb=>?_) (fun hb=>?_)
  ·have h3:=cT hq1 hb
   refine Kfm hΓ 6 rfl ?_
   obtain rfl:=oSi h3
   exact⟨⟨rfl,rfl,tV⟩,[],rfl,.inl rfl⟩
  have h4:=cF hq1 hb
  obtain⟨y5,hy5,h6⟩:=Kfw h4
  refine Kfm hΓ 3 rfl ?_
  refine Krh rfl ?_
  refine Kgw [0,1] (B y5) [.box 29 (fD d),.box 9 [S user],.box 77 (fM m)] (Lml Tryz.func158 rfl rfl) (Lhh hy5) rfl (nBe rfl) rfl rfl rfl rfl rfl rfl rfl rfl rfl rfl ?_
  refine Kfm hΓ 2 rfl ?_
  obtain rfl:=oSi h6
  exact⟨⟨rfl,rfl,tV⟩,[],rfl,.inl rfl⟩
 refine Kfm hΓ 4 rfl ?_
 obtain rfl:=oSi h2
 exact Khi hΓ (.inr rfl) rfl rfl
theorem Lhj{v_h:Lcg}{s:Lby}{m:Nat}{al:BagT}{r:Int×Lcg×BagT}(h:Lgd v_h s m al=some r):EC Tryz.prog 204 [.ptr 4 0,.agg (fS s),.d (.hd (some 0) m)] [mObH v_h.keys,mObH v_h.nodes,mObB v_h.ever,mObV v_h.History,.box 220 [.d (Sl eS v_h.d.Users),.d (Sl Lij v_h.d.Owners),I v_h.d.Life,B v_h.d.Approve,.map 0,.map 1,.map 2,.map 3],bg al] fun g hp'=>g=I r.1∧hp'=[mObH r.2.1.keys,mObH r.2.1.nodes,mObB r.2.1.ever,mObV r.2.1.History,.box 220 [.d (Sl eS r.2.1.d.Users),.d (Sl Lij r.2.1.d.Owners),I r.2.1.d.Life,B r.2.1.d.Approve,.map 0,.map 1,.map 2,.map 3],bg r.2.2]:=by
 refine Klr (Fr.of 0 _) Tryz.func204 rfl (Fr.of_ok _) (nBe rfl) fun _=>?_
 refine Kfo ?_
 unfold Lgd at h
 refine go hΓ 2 rfl ?_
 refine Ksq rfl rfl rfl rfl (nBe rfl) ?_
 refine Kfm hΓ 4 rfl ?_
 refine Kfs hmix (by kernel_rfl) ?_
 refine go hΓ 6 rfl ?_
 refine gl_o rfl (Knf hΓ (kv:=kS) (agg:=false) (enc:=(eV 107 3)) v_h.History s.Node ((0,0):Vl) rfl rfl rfl rfl Kkh rfl rfl rfl (Koz rfl) rfl) ?_
 obtain⟨q1,hq1,h2⟩:=Kfw h
 refine Kfn hΓ 10 rfl ?_
 refine Kjt (q:=q1) (fun a3=>[]) (fun a3=>[mObH v_h.keys,mObH a3.1,mObB v_h.ever,mObV a3.2.1,.box 220 [.d (Sl eS v_h.d.Users),.d (Sl Lij v_h.d.Owners),I v_h.d.Life,B v_h.d.Approve,.map 0,.map 1,.map 2,.map 3],bg a3.2.2,.box 37 (fS s)]) ?_ ?_
 ·refine go hΓ 7 rfl ?_
  refine Kfp rfl (fun hb=>?_) (fun hb=>?_)
  ·have h4:=cT hq1 hb
   obtain⟨y5,hy5,h6⟩:=Kfw h4
   refine go hΓ 6 rfl ?_
   refine Kgw [0,1,2,3,4,5] (B y5) [mObH v_h.keys,mObH v_h.nodes,mObB v_h.ever,mObV v_h.History,.box 220 [.d (Sl eS v_h.d.Users),.d (Sl Lij v_h.d.Owners),I v_h.d.Life,B v_h.d.Approve,.map 0,.map 1,.map 2,.map 3],bg al,.box 37 (fS s)] (Lml Tryz.func279 rfl rfl) (Lhd hy5) rfl (nBe rfl) rfl rfl rfl rfl rfl rfl rfl rfl rfl rfl ?_
   refine Kfm hΓ 2 rfl ?_
   refine Kfp rfl (fun hb=>?_) (fun hb=>?_)
   ·have h7:=cT h6 hb
    refine go hΓ 8 rfl ?_
    obtain⟨v8,hv8,h9⟩:=Kfw h7
    obtain rfl:=oSi h9
    obtain rfl:=oSi h2
    refine go hΓ 2 rfl ?_
    refine Kjn ?_
    obtain rfl:=oSi hv8
    exact Khj hΓ [_] (.inr rfl) rfl rfl rfl rfl (.inr ⟨HB.mk rfl,rfl⟩)
   have h10:=cF h6 hb
   obtain⟨hg12,h11⟩:=Kfx h10
   refine go hΓ 7 rfl ?_
   refine eo_o rfl (Kos hg12 rfl) ?_
   refine eo_o rfl (Kot hΓ hg12 rfl rfl rfl rfl rfl rfl) ?_
   obtain⟨m13,hm13,h14⟩:=Kfw h11
   refine eo_u (nBe rfl) (Kov hΓ (enc:=Lio) (bg:=5) m13 (⟨m13.Node,m13.User,m13.Name,s.Public,m13.Tags,m13.Joined,m13.Expires,m13.Approved⟩:Lcb) rfl rfl (ArU.r _ (ArU.r _ (ArU.l _ (Kmy (fun _ _=>rfl) hm13 (⟨m13.Node,m13.User,m13.Name,s.Public,m13.Tags,m13.Joined,m13.Expires,m13.Approved⟩:Lcb))))) rfl rfl (by intro e;cases e) rfl rfl rfl rfl rfl rfl rfl) ?_
   refine Khe [mObH v_h.keys,mObH v_h.nodes,mObB v_h.ever,mObV v_h.History,.box 220 [.d (Sl eS v_h.d.Users),.d (Sl Lij v_h.d.Owners),I v_h.d.Life,B v_h.d.Approve,.map 0,.map 1,.map 2,.map 3],.bag al.1 (arX al.2.1 al.2.2.1 (hSet al.2.2.2.1 m (⟨m13.Node,m13.User,m13.Name,s.Public,m13.Tags,m13.Joined,m13.Expires,m13.Approved⟩:Lcb)) al.2.2.2.2.1 al.2.2.2.2.2) [],.box 37 (fS s)] rfl ?_
   obtain⟨hg16,h15⟩:=Kfx h14
   refine Kfm hΓ 5 rfl ?_
   refine eo_o rfl (Kos hg16 rfl) ?_
   refine eo_o rfl (Kot hΓ hg16 rfl rfl rfl rfl rfl rfl) ?_
   obtain⟨m17,hm17,h18⟩:=Kfw h15
   refine eo_u (nBe rfl) (Kov hΓ (enc:=Lio) (bg:=5) m17 (⟨m17.Node,m17.User,m17.Name,m17.Public,m17.Tags,m17.Joined,345686400,m17.Approved⟩:Lcb) rfl rfl (ArU.r _ (ArU.r _ (ArU.l _ (Kmy (fun _ _=>rfl) hm17 (⟨m17.Node,m17.User,m17.Name,m17.Public,m17.Tags,m17.Joined,345686400,m17.Approved⟩:Lcb))))) rfl rfl (by intro e;cases e) rfl rfl rfl rfl rfl rfl rfl) ?_
   refine Khe [mObH v_h.keys,mObH v_h.nodes,mObB v_h.ever,mObV v_h.History,.box 220 [.d (Sl eS v_h.d.Users),.d (Sl Lij v_h.d.Owners),I v_h.d.Life,B v_h.d.Approve,.map 0,.map 1,.map 2,.map 3],.bag al.1 (arX al.2.1 al.2.2.1 (hSet (hSet al.2.2.2.1 m (⟨m13.Node,m13.User,m13.Name,s.Public,m13.Tags,m13.Joined,m13.Expires,m13.Approved⟩:Lcb)) m (⟨m17.Node,m17.User,m17.Name,m17.Public,m17.Tags,m17.Joined,345686400,m17.Approved⟩:Lcb)) al.2.2.2.2.1 al.2.2.2.2.2) [],.box 37 (fS s)] rfl ?_
   obtain⟨hg20,h19⟩:=Kfx h18
   refine Kfm hΓ 6 rfl ?_
   refine eo_o rfl (Kos hg20 rfl) ?_
   refine eo_o rfl (Kot hΓ hg20 rfl rfl rfl rfl rfl rfl) ?_
   obtain⟨m21,hm21,h22⟩:=Kfw h19
   refine eo_o rfl (Kou hΓ (enc:=Lio) (bg:=5) m21 rfl rfl (ArU.r _ (ArU.r _ (ArU.l _ (Kmy (fun _ _=>rfl) hm21 m21)))) rfl (g:=S m21.User) rfl rfl) ?_
   obtain⟨q23,hq23,h24⟩:=Kfw h22
   refine Kfm hΓ 3 rfl ?_
   refine Kjr [(0,.ptr 4 0),(4,.ptr 6 0),(7,.d (.rv 107 3 ((mGet v_h.History s.Node).getD (0,0)).1 ((mGet v_h.History s.Node).getD (0,0)).2))] [mObH v_h.keys,mObH v_h.nodes,mObB v_h.ever,mObV v_h.History,.box 220 [.d (Sl eS v_h.d.Users),.d (Sl Lij v_h.d.Owners),I v_h.d.Life,B v_h.d.Approve,.map 0,.map 1,.map 2,.map 3],bg q23,.box 37 (fS s)] ?_ ?_
   ·refine Kfp rfl (fun hb=>?_) (fun hb=>?_)
    ·have h25:=cT hq23 hb
     refine Kir [.dead,.dead,.dead,.dead,.box 220 [.d (Sl eS v_h.d.Users),.d (Sl Lij v_h.d.Owners),I v_h.d.Life,B v_h.d.Approve,.map 0,.map 1,.map 2,.map 3],.dead,.box 37 (fS s)] [2,7] [12] [] hmix (by kernel_rfl) (by kernel_rfl) ⟨rfl,rfl,tV⟩ (nBe rfl) ?_
     obtain⟨hg27,h26⟩:=Kfx h25
     refine go_E hΓ 10 rfl ?_
     refine ge_q rfl (.inl rfl) (fun _ _=>Kiu (qt_p (Kos hg27 rfl))) ?_
     refine ge_q rfl (.inl rfl) (fun _ _=>Kiu (qt_p (Kot hΓ hg27 rfl rfl rfl rfl rfl rfl))) ?_
     obtain⟨m28,hm28,h29⟩:=Kfw h26
     refine Kiw [mObH v_h.keys,mObH v_h.nodes,mObB v_h.ever,mObV v_h.History,.box 220 [.d (Sl eS v_h.d.Users),.d (Sl Lij v_h.d.Owners),I v_h.d.Life,B v_h.d.Approve,.map 0,.map 1,.map 2,.map 3],.bag al.1 (arX al.2.1 al.2.2.1 (hSet (hSet (hSet al.2.2.2.1 m (⟨m13.Node,m13.User,m13.Name,s.Public,m13.Tags,m13.Joined,m13.Expires,m13.Approved⟩:Lcb)) m (⟨m17.Node,m17.User,m17.Name,m17.Public,m17.Tags,m17.Joined,345686400,m17.Approved⟩:Lcb)) m (⟨m28.Node,m28.User,m28.Name,m28.Public,m28.Tags,m28.Joined,(if 345686400<(wi (s.At+v_h.d.Life)) then 345686400 else wi (s.At+v_h.d.Life)),m28.Approved⟩:Lcb)) al.2.2.2.2.1 al.2.2.2.2.2) [],.box 37 (fS s)] rfl rfl (Kiy ⟨rfl,rfl,tV⟩) (Kjc (Kov hΓ (enc:=Lio) (bg:=5) m28 (⟨m28.Node,m28.User,m28.Name,m28.Public,m28.Tags,m28.Joined,(if 345686400<(wi (s.At+v_h.d.Life)) then 345686400 else wi (s.At+v_h.d.Life)),m28.Approved⟩:Lcb) rfl rfl (ArU.r _ (ArU.r _ (ArU.l _ (Kmy (fun _ _=>rfl) hm28 (⟨m28.Node,m28.User,m28.Name,m28.Public,m28.Tags,m28.Joined,(if 345686400<(wi (s.At+v_h.d.Life)) then 345686400 else wi (s.At+v_h.d.Life)),m28.Approved⟩:Lcb))))) rfl rfl (by intro e;cases e) rfl rfl rfl rfl rfl rfl rfl)) ?_
     refine Kit ?_
     obtain rfl:=oSi h29
     exact⟨⟨rfl,rfl,rfl,tV⟩,[],rfl,.inl rfl⟩
    have h30:=cF hq23 hb
    refine go hΓ 1 rfl ?_
    obtain rfl:=oSi h30
    exact⟨⟨rfl,rfl,rfl,tV⟩,[],rfl,.inl rfl⟩
   refine go hΓ 5 rfl ?_
   refine eo_o rfl (Kpc hΓ rfl rfl rfl) ?_
   obtain⟨hg32,h31⟩:=Kfx h24
   obtain⟨hg34,h33⟩:=Kfx h31
   refine Kfm hΓ 3 rfl ?_
   refine eo_o rfl (Kpd hΓ hg34 rfl rfl rfl rfl rfl rfl) ?_
   refine eo_o rfl (Kot hΓ hg32 rfl rfl rfl rfl rfl rfl) ?_
   obtain⟨m35,hm35,h36⟩:=Kfw h33
   obtain⟨x37,hx37,h38⟩:=Kfw h36
   have hj39:=Khn hx37
   refine eo_u (nBe rfl) (Kpf hΓ (enc:=Liv) (bg:=5) (z':=(⟨x37.Public,x37.From,s.At⟩:Lcj)) (wi (((((mGet v_h.History s.Node).getD (0,0)).2:Nat):Int) - 1)).toNat 2 hj39 rfl rfl rfl (ArU.r _ (ArU.l _ (Kmy (fun _ _=>rfl) hm35 (m35.set (wi (((((mGet v_h.History s.Node).getD (0,0)).2:Nat):Int) - 1)).toNat (⟨x37.Public,x37.From,s.At⟩:Lcj))))) rfl (fun _=>rfl) rfl rfl rfl rfl rfl rfl rfl) ?_
   refine Khe [mObH v_h.keys,mObH v_h.nodes,mObB v_h.ever,mObV v_h.History,.box 220 [.d (Sl eS v_h.d.Users),.d (Sl Lij v_h.d.Owners),I v_h.d.Life,B v_h.d.Approve,.map 0,.map 1,.map 2,.map 3],.bag q23.1 (arX q23.2.1 (hSet q23.2.2.1 (((mGet v_h.History s.Node).getD (0,0)).1) (m35.set (wi (((((mGet v_h.History s.Node).getD (0,0)).2:Nat):Int) - 1)).toNat (⟨x37.Public,x37.From,s.At⟩:Lcj))) q23.2.2.2.1 q23.2.2.2.2.1 q23.2.2.2.2.2) [],.box 37 (fS s)] rfl ?_
   refine Kfm hΓ 2 rfl ?_
   refine Kir [.dead,.dead,.dead,.dead,.box 220 [.d (Sl eS v_h.d.Users),.d (Sl Lij v_h.d.Owners),I v_h.d.Life,B v_h.d.Approve,.map 0,.map 1,.map 2,.map 3],.dead,.box 37 (fS s)] [3,5,8,10] [13,14] [] hmix (by kernel_rfl) (by kernel_rfl) ⟨rfl,rfl,tV⟩ (nBe rfl) ?_
   refine go_E hΓ 11 rfl ?_
   refine ge_q rfl (.inl rfl) (fun _ _=>Kiu (qt_p (Kji hΓ (gs:=[S s.Public,I s.At,I 345686400]) rfl rfl rfl rfl rfl rfl))) ?_
   refine Kjf hΓ (enc:=Liv) [(⟨s.Public,s.At,345686400⟩:Lcj)] rfl rfl rfl rfl rfl rfl rfl rfl rfl rfl rfl rfl ?_
   obtain⟨y40,hy40,h41⟩:=Kfw h38
   refine ge_h [mObH v_h.keys,mObH v_h.nodes,mObB v_h.ever,mObV v_h.History,.box 220 [.d (Sl eS v_h.d.Users),.d (Sl Lij v_h.d.Owners),I v_h.d.Life,B v_h.d.Approve,.map 0,.map 1,.map 2,.map 3],.bag y40.2.1 (arX q23.2.1 y40.2.2 q23.2.2.2.1 q23.2.2.2.2.1 q23.2.2.2.2.2) [],.box 37 (fS s)] rfl rfl rfl (Kiy ⟨rfl,rfl,tV⟩) (Kjb (Kpm hΓ (enc:=Liv) (bg:=5) (fun l=>arX q23.2.1 l q23.2.2.2.1 q23.2.2.2.2.1 q23.2.2.2.2.2) hy40 (Kpi _ (Kph _ Kpg)) rfl rfl rfl rfl rfl rfl rfl rfl (fun _=>rfl) rfl rfl)) ?_
   refine Kiw [mObH v_h.keys,mObH v_h.nodes,mObB v_h.ever,mObV (mSet v_h.History s.Node y40.1),.box 220 [.d (Sl eS v_h.d.Users),.d (Sl Lij v_h.d.Owners),I v_h.d.Life,B v_h.d.Approve,.map 0,.map 1,.map 2,.map 3],.bag y40.2.1 (arX q23.2.1 y40.2.2 q23.2.2.2.1 q23.2.2.2.2.1 q23.2.2.2.2.2) [],.box 37 (fS s)] rfl rfl (Kiy ⟨rfl,rfl,tV⟩) (Kjc (Kkv hΓ (kv:=kS) (agg:=false) (enc:=(eV 107 3)) (id:=3) v_h.History s.Node y40.1 rfl rfl rfl Kkh rfl rfl rfl rfl rfl)) ?_
   refine Kit ?_
   refine go hΓ 1 rfl ?_
   obtain rfl:=oSi h41
   exact⟨_,rfl,⟨tV,[],rfl,.inl rfl⟩⟩
  have h42:=cF hq1 hb
  refine go hΓ 6 rfl ?_
  refine Kfp rfl (fun hb=>?_) (fun hb=>?_)
  ·have h43:=cT h42 hb
   refine go hΓ 2 rfl ?_
   refine Kfs hmix (by kernel_rfl) ?_
   obtain⟨hg45,h44⟩:=Kfx h43
   refine go hΓ 1 rfl ?_
   refine gl_o rfl (Kos hg45 rfl) ?_
   refine gl_o rfl (Kot hΓ hg45 rfl rfl rfl rfl rfl rfl) ?_
   obtain⟨m46,hm46,h47⟩:=Kfw h44
   refine gl_o rfl (Kou hΓ (enc:=Lio) (bg:=5) m46 rfl rfl (ArU.r _ (ArU.r _ (ArU.l _ (Kmy (fun _ _=>rfl) hm46 m46)))) rfl (g:=S m46.Name) rfl rfl) ?_
   refine Kfn hΓ 5 rfl ?_
   refine Kfp rfl (fun hb=>?_) (fun hb=>?_)
   ·have h48:=cT h47 hb
    refine go hΓ 8 rfl ?_
    obtain⟨v49,hv49,h50⟩:=Kfw h48
    obtain rfl:=oSi h50
    obtain rfl:=oSi h2
    refine go hΓ 2 rfl ?_
    refine Kjn ?_
    obtain rfl:=oSi hv49
    exact Khj hΓ [_] (.inr rfl) rfl rfl rfl rfl (.inr ⟨HB.mk rfl,rfl⟩)
   have h51:=cF h47 hb
   obtain⟨hg53,h52⟩:=Kfx h51
   refine go hΓ 6 rfl ?_
   refine eo_o rfl (Kos hg53 rfl) ?_
   refine eo_o rfl (Kot hΓ hg53 rfl rfl rfl rfl rfl rfl) ?_
   obtain⟨m54,hm54,h55⟩:=Kfw h52
   refine eo_u (nBe rfl) (Kov hΓ (enc:=Lio) (bg:=5) m54 (⟨m54.Node,m54.User,s.Name,m54.Public,m54.Tags,m54.Joined,m54.Expires,m54.Approved⟩:Lcb) rfl rfl (ArU.r _ (ArU.r _ (ArU.l _ (Kmy (fun _ _=>rfl) hm54 (⟨m54.Node,m54.User,s.Name,m54.Public,m54.Tags,m54.Joined,m54.Expires,m54.Approved⟩:Lcb))))) rfl rfl (by intro e;cases e) rfl rfl rfl rfl rfl rfl rfl) ?_
   refine Khe [mObH v_h.keys,mObH v_h.nodes,mObB v_h.ever,mObV v_h.History,.box 220 [.d (Sl eS v_h.d.Users),.d (Sl Lij v_h.d.Owners),I v_h.d.Life,B v_h.d.Approve,.map 0,.map 1,.map 2,.map 3],.bag al.1 (arX al.2.1 al.2.2.1 (hSet al.2.2.2.1 m (⟨m54.Node,m54.User,s.Name,m54.Public,m54.Tags,m54.Joined,m54.Expires,m54.Approved⟩:Lcb)) al.2.2.2.2.1 al.2.2.2.2.2) [],.box 37 (fS s)] rfl ?_
   refine Kfm hΓ 2 rfl ?_
   obtain rfl:=oSi h55
   exact⟨_,rfl,⟨tV,[],rfl,.inl rfl⟩⟩
  have h56:=cF h42 hb
  refine go hΓ 6 rfl ?_
  refine Kfp rfl (fun hb=>?_) (fun hb=>?_)
  ·have h57:=cT h56 hb
   refine go hΓ 9 rfl ?_
   refine Kfp rfl (fun hb=>?_) (fun hb=>?_)
   ·have h58:=cT h57 hb
    refine go hΓ 8 rfl ?_
    obtain⟨v59,hv59,h60⟩:=Kfw h58
    obtain rfl:=oSi h60
    obtain rfl:=oSi h2
    refine go hΓ 2 rfl ?_
    refine Kjn ?_
    obtain rfl:=oSi hv59
    exact Khj hΓ [_] (.inr rfl) rfl rfl rfl rfl (.inr ⟨HB.mk rfl,rfl⟩)
   have h61:=cF h57 hb
   refine go hΓ 4 rfl ?_
   refine Kfs hmix (by kernel_rfl) ?_
   obtain⟨y62,hy62,h63⟩:=Kfw h61
   refine go hΓ 8 rfl ?_
   refine Kgy (Lml Tryz.func278 rfl rfl) (Lmj hy62) rfl rfl rfl rfl rfl rfl ?_
   refine Kfn hΓ 9 rfl ?_
   refine Kfp rfl (fun hb=>?_) (fun hb=>?_)
   ·have h64:=cT h63 hb
    refine go hΓ 9 rfl ?_
    obtain⟨v65,hv65,h66⟩:=Kfw h64
    obtain rfl:=oSi h66
    obtain rfl:=oSi h2
    refine go hΓ 2 rfl ?_
    refine Kjn ?_
    obtain rfl:=oSi hv65
    exact Khj hΓ [_] (.inr rfl) rfl rfl rfl rfl (.inr ⟨HB.mk rfl,rfl⟩)
   have h67:=cF h63 hb
   obtain⟨y68,hy68,h69⟩:=Kfw h67
   refine go hΓ 8 rfl ?_
   refine Kgx (Lml Tryz.func213 rfl rfl) (Pure.rows (Llh hy68) rfl rfl) rfl (nBe rfl) rfl rfl rfl rfl rfl ?_
   obtain⟨hg71,h70⟩:=Kfx h69
   refine eo_o rfl (Kos hg71 rfl) ?_
   refine eo_o rfl (Kot hΓ hg71 rfl rfl rfl rfl rfl rfl) ?_
   obtain⟨m72,hm72,h73⟩:=Kfw h70
   refine eo_u (nBe rfl) (Kov hΓ (enc:=Lio) (bg:=5) m72 (⟨m72.Node,[],m72.Name,m72.Public,m72.Tags,m72.Joined,m72.Expires,m72.Approved⟩:Lcb) rfl rfl (ArU.r _ (ArU.r _ (ArU.l _ (Kmy (fun _ _=>rfl) hm72 (⟨m72.Node,[],m72.Name,m72.Public,m72.Tags,m72.Joined,m72.Expires,m72.Approved⟩:Lcb))))) rfl rfl (by intro e;cases e) rfl rfl rfl rfl rfl rfl rfl) ?_
   refine Khe [mObH v_h.keys,mObH v_h.nodes,mObB v_h.ever,mObV v_h.History,.box 220 [.d (Sl eS v_h.d.Users),.d (Sl Lij v_h.d.Owners),I v_h.d.Life,B v_h.d.Approve,.map 0,.map 1,.map 2,.map 3],.bag al.1 (arX al.2.1 al.2.2.1 (hSet al.2.2.2.1 m (⟨m72.Node,[],m72.Name,m72.Public,m72.Tags,m72.Joined,m72.Expires,m72.Approved⟩:Lcb)) al.2.2.2.2.1 al.2.2.2.2.2) [],.box 37 (fS s)] rfl ?_
   obtain⟨hg75,h74⟩:=Kfx h73
   refine eo_o rfl (Kos hg75 rfl) ?_
   refine eo_o rfl (Kot hΓ hg75 rfl rfl rfl rfl rfl rfl) ?_
   obtain⟨m76,hm76,h77⟩:=Kfw h74
   refine eo_u (nBe rfl) (Kov hΓ (enc:=Lio) (bg:=5) m76 (⟨m76.Node,m76.User,m76.Name,m76.Public,y68,m76.Joined,m76.Expires,m76.Approved⟩:Lcb) rfl rfl (ArU.r _ (ArU.r _ (ArU.l _ (Kmy (fun _ _=>rfl) hm76 (⟨m76.Node,m76.User,m76.Name,m76.Public,y68,m76.Joined,m76.Expires,m76.Approved⟩:Lcb))))) rfl rfl (by intro e;cases e) rfl rfl rfl rfl rfl rfl rfl) ?_
   refine Khe [mObH v_h.keys,mObH v_h.nodes,mObB v_h.ever,mObV v_h.History,.box 220 [.d (Sl eS v_h.d.Users),.d (Sl Lij v_h.d.Owners),I v_h.d.Life,B v_h.d.Approve,.map 0,.map 1,.map 2,.map 3],.bag al.1 (arX al.2.1 al.2.2.1 (hSet (hSet al.2.2.2.1 m (⟨m72.Node,[],m72.Name,m72.Public,m72.Tags,m72.Joined,m72.Expires,m72.Approved⟩:Lcb)) m (⟨m76.Node,m76.User,m76.Name,m76.Public,y68,m76.Joined,m76.Expires,m76.Approved⟩:Lcb)) al.2.2.2.2.1 al.2.2.2.2.2) [],.box 37 (fS s)] rfl ?_
   obtain⟨hg79,h78⟩:=Kfx h77
   refine eo_o rfl (Kos hg79 rfl) ?_
   refine eo_o rfl (Kot hΓ hg79 rfl rfl rfl rfl rfl rfl) ?_
   obtain⟨m80,hm80,h81⟩:=Kfw h78
   refine eo_u (nBe rfl) (Kov hΓ (enc:=Lio) (bg:=5) m80 (⟨m80.Node,m80.User,m80.Name,m80.Public,m80.Tags,m80.Joined,345686400,m80.Approved⟩:Lcb) rfl rfl (ArU.r _ (ArU.r _ (ArU.l _ (Kmy (fun _ _=>rfl) hm80 (⟨m80.Node,m80.User,m80.Name,m80.Public,m80.Tags,m80.Joined,345686400,m80.Approved⟩:Lcb))))) rfl rfl (by intro e;cases e) rfl rfl rfl rfl rfl rfl rfl) ?_
   refine Khe [mObH v_h.keys,mObH v_h.nodes,mObB v_h.ever,mObV v_h.History,.box 220 [.d (Sl eS v_h.d.Users),.d (Sl Lij v_h.d.Owners),I v_h.d.Life,B v_h.d.Approve,.map 0,.map 1,.map 2,.map 3],.bag al.1 (arX al.2.1 al.2.2.1 (hSet (hSet (hSet al.2.2.2.1 m (⟨m72.Node,[],m72.Name,m72.Public,m72.Tags,m72.Joined,m72.Expires,m72.Approved⟩:Lcb)) m (⟨m76.Node,m76.User,m76.Name,m76.Public,y68,m76.Joined,m76.Expires,m76.Approved⟩:Lcb)) m (⟨m80.Node,m80.User,m80.Name,m80.Public,m80.Tags,m80.Joined,345686400,m80.Approved⟩:Lcb)) al.2.2.2.2.1 al.2.2.2.2.2) [],.box 37 (fS s)] rfl ?_
   refine Kfm hΓ 2 rfl ?_
   obtain rfl:=oSi h81
   exact⟨_,rfl,⟨tV,[],rfl,.inl rfl⟩⟩
  have h82:=cF h56 hb
  refine go hΓ 6 rfl ?_
  refine Kfp rfl (fun hb=>?_) (fun hb=>?_)
  ·have h83:=cT h82 hb
   refine go hΓ 2 rfl ?_
   refine Kfs hmix (by kernel_rfl) ?_
   obtain⟨hg85,h84⟩:=Kfx h83
   refine go hΓ 1 rfl ?_
   refine gl_o rfl (Kos hg85 rfl) ?_
   refine gl_o rfl (Kot hΓ hg85 rfl rfl rfl rfl rfl rfl) ?_
   obtain⟨m86,hm86,h87⟩:=Kfw h84
   refine gl_o rfl (Kou hΓ (enc:=Lio) (bg:=5) m86 rfl rfl (ArU.r _ (ArU.r _ (ArU.l _ (Kmy (fun _ _=>rfl) hm86 m86)))) rfl (g:=I m86.Expires) rfl rfl) ?_
   refine Kfn hΓ 5 rfl ?_
   refine Kfp rfl (fun hb=>?_) (fun hb=>?_)
   ·have h88:=cT h87 hb
    refine go hΓ 8 rfl ?_
    obtain⟨v89,hv89,h90⟩:=Kfw h88
    obtain rfl:=oSi h90
    obtain rfl:=oSi h2
    refine go hΓ 2 rfl ?_
    refine Kjn ?_
    obtain rfl:=oSi hv89
    exact Khj hΓ [_] (.inr rfl) rfl rfl rfl rfl (.inr ⟨HB.mk rfl,rfl⟩)
   have h91:=cF h87 hb
   obtain⟨hg93,h92⟩:=Kfx h91
   refine go hΓ 6 rfl ?_
   refine eo_o rfl (Kos hg93 rfl) ?_
   refine eo_o rfl (Kot hΓ hg93 rfl rfl rfl rfl rfl rfl) ?_
   obtain⟨m94,hm94,h95⟩:=Kfw h92
   refine eo_u (nBe rfl) (Kov hΓ (enc:=Lio) (bg:=5) m94 (⟨m94.Node,m94.User,m94.Name,m94.Public,m94.Tags,m94.Joined,s.At,m94.Approved⟩:Lcb) rfl rfl (ArU.r _ (ArU.r _ (ArU.l _ (Kmy (fun _ _=>rfl) hm94 (⟨m94.Node,m94.User,m94.Name,m94.Public,m94.Tags,m94.Joined,s.At,m94.Approved⟩:Lcb))))) rfl rfl (by intro e;cases e) rfl rfl rfl rfl rfl rfl rfl) ?_
   refine Khe [mObH v_h.keys,mObH v_h.nodes,mObB v_h.ever,mObV v_h.History,.box 220 [.d (Sl eS v_h.d.Users),.d (Sl Lij v_h.d.Owners),I v_h.d.Life,B v_h.d.Approve,.map 0,.map 1,.map 2,.map 3],.bag al.1 (arX al.2.1 al.2.2.1 (hSet al.2.2.2.1 m (⟨m94.Node,m94.User,m94.Name,m94.Public,m94.Tags,m94.Joined,s.At,m94.Approved⟩:Lcb)) al.2.2.2.2.1 al.2.2.2.2.2) [],.box 37 (fS s)] rfl ?_
   refine Kfm hΓ 2 rfl ?_
   obtain rfl:=oSi h95
   exact⟨_,rfl,⟨tV,[],rfl,.inl rfl⟩⟩
  have h96:=cF h82 hb
  refine go hΓ 1 rfl ?_
  refine Kir [.dead,.dead,.dead,.dead,.box 220 [.d (Sl eS v_h.d.Users),.d (Sl Lij v_h.d.Owners),I v_h.d.Life,B v_h.d.Approve,.map 0,.map 1,.map 2,.map 3],.dead,.box 37 (fS s)] [3,5] [6] [] hmix (by kernel_rfl) (by kernel_rfl) ⟨rfl,rfl,tV⟩ (nBe rfl) ?_
  refine go_E hΓ 6 rfl ?_
  refine Kiw [mObH v_h.keys,mObH (mDel v_h.nodes s.Node),mObB v_h.ever,mObV v_h.History,.box 220 [.d (Sl eS v_h.d.Users),.d (Sl Lij v_h.d.Owners),I v_h.d.Life,B v_h.d.Approve,.map 0,.map 1,.map 2,.map 3],bg al,.box 37 (fS s)] rfl rfl (Kiy ⟨rfl,rfl,tV⟩) (Kjb (Kpp hΓ (kv:=kS) (agg:=false) (enc:=(eH (some 0))) (id:=1) v_h.nodes s.Node rfl rfl rfl Kkh rfl rfl rfl rfl)) ?_
  refine Kit ?_
  refine go hΓ 4 rfl ?_
  refine eo_o rfl (Kpc hΓ rfl rfl rfl) ?_
  obtain⟨hg98,h97⟩:=Kfx h96
  obtain⟨hg100,h99⟩:=Kfx h97
  refine Kfm hΓ 3 rfl ?_
  refine eo_o rfl (Kpd hΓ hg100 rfl rfl rfl rfl rfl rfl) ?_
  refine eo_o rfl (Kot hΓ hg98 rfl rfl rfl rfl rfl rfl) ?_
  obtain⟨m101,hm101,h102⟩:=Kfw h99
  obtain⟨x103,hx103,h104⟩:=Kfw h102
  have hj105:=Khn hx103
  refine eo_u (nBe rfl) (Kpf hΓ (enc:=Liv) (bg:=5) (z':=(⟨x103.Public,x103.From,s.At⟩:Lcj)) (wi (((((mGet v_h.History s.Node).getD (0,0)).2:Nat):Int) - 1)).toNat 2 hj105 rfl rfl rfl (ArU.r _ (ArU.l _ (Kmy (fun _ _=>rfl) hm101 (m101.set (wi (((((mGet v_h.History s.Node).getD (0,0)).2:Nat):Int) - 1)).toNat (⟨x103.Public,x103.From,s.At⟩:Lcj))))) rfl (fun _=>rfl) rfl rfl rfl rfl rfl rfl rfl) ?_
  refine Khe [mObH v_h.keys,mObH (mDel v_h.nodes s.Node),mObB v_h.ever,mObV v_h.History,.box 220 [.d (Sl eS v_h.d.Users),.d (Sl Lij v_h.d.Owners),I v_h.d.Life,B v_h.d.Approve,.map 0,.map 1,.map 2,.map 3],.bag al.1 (arX al.2.1 (hSet al.2.2.1 (((mGet v_h.History s.Node).getD (0,0)).1) (m101.set (wi (((((mGet v_h.History s.Node).getD (0,0)).2:Nat):Int) - 1)).toNat (⟨x103.Public,x103.From,s.At⟩:Lcj))) al.2.2.2.1 al.2.2.2.2.1 al.2.2.2.2.2) [],.box 37 (fS s)] rfl ?_
  refine Kfm hΓ 2 rfl ?_
  obtain rfl:=oSi h104
  exact⟨_,rfl,⟨tV,[],rfl,.inl rfl⟩⟩
 intro a3 ha
 subst ha
 replace h2:=Kjk h2
 refine go hΓ 7 rfl ?_
 refine Kjn ?_
 obtain rfl:=oSi h2
 exact Khj hΓ [_] (.inr rfl) rfl rfl rfl rfl (.inr ⟨HB.mk rfl,rfl⟩)
theorem Lhk{v_h:Lcg}{s:Lby}{al:BagT}{r:Int×Lcg×BagT}(h:Lge v_h s al=some r):EC Tryz.prog 98 [.ptr 4 0,.agg (fS s)] [mObH v_h.keys,mObH v_h.nodes,mObB v_h.ever,mObV v_h.History,.box 220 [.d (Sl eS v_h.d.Users),.d (Sl Lij v_h.d.Owners),I v_h.d.Life,B v_h.d.Approve,.map 0,.map 1,.map 2,.map 3],bg al] fun g hp'=>g=I r.1∧hp'=[mObH r.2.1.keys,mObH r.2.1.nodes,mObB r.2.1.ever,mObV r.2.1.History,.box 220 [.d (Sl eS r.2.1.d.Users),.d (Sl Lij r.2.1.d.Owners),I r.2.1.d.Life,B r.2.1.d.Approve,.map 0,.map 1,.map 2,.map 3],bg r.2.2]:=by
 refine Klr (Fr.of 0 _) Tryz.func98 rfl (Fr.of_ok _) (nBe rfl) fun _=>?_
 refine Kfo ?_
 unfold Lge at h
 refine go hΓ 2 rfl ?_
 refine Ksq rfl rfl rfl rfl (nBe rfl) ?_
 obtain⟨q1,hq1,h2⟩:=Kfw h
 refine Kfm hΓ 18 rfl ?_
 refine Kjr [(0,.ptr 4 0),(3,.ptr 6 0),(7,I s.Kind),(8,B q1)] [mObH v_h.keys,mObH v_h.nodes,mObB v_h.ever,mObV v_h.History,.box 220 [.d (Sl eS v_h.d.Users),.d (Sl Lij v_h.d.Owners),I v_h.d.Life,B v_h.d.Approve,.map 0,.map 1,.map 2,.map 3],bg al,.box 37 (fS s)] ?_ ?_
 ·refine Kfp rfl (fun hb=>?_) (fun hb=>?_)
  ·have h3:=cT hq1 hb
   refine go hΓ 1 rfl ?_
   obtain rfl:=oSi h3
   exact⟨⟨rfl,rfl,rfl,rfl,tV⟩,[],rfl,.inl rfl⟩
  have h4:=cF hq1 hb
  refine go hΓ 4 rfl ?_
  obtain rfl:=oSi h4
  exact⟨⟨rfl,rfl,rfl,rfl,tV⟩,[],rfl,.inl rfl⟩
 refine go hΓ 1 rfl ?_
 refine Kfp rfl (fun hb=>?_) (fun hb=>?_)
 ·have h5:=cT h2 hb
  obtain⟨y6,hy6,h7⟩:=Kfw h5
  refine go hΓ 4 rfl ?_
  refine Kgw [0,1,2,3,4,5] (I y6.1) [mObH y6.2.1.keys,mObH y6.2.1.nodes,mObB y6.2.1.ever,mObV y6.2.1.History,.box 220 [.d (Sl eS y6.2.1.d.Users),.d (Sl Lij y6.2.1.d.Owners),I y6.2.1.d.Life,B y6.2.1.d.Approve,.map 0,.map 1,.map 2,.map 3],bg y6.2.2,.box 37 (fS s)] (Lml Tryz.func202 rfl rfl) (Lhc hy6) rfl (nBe rfl) rfl rfl rfl rfl rfl rfl rfl rfl rfl rfl ?_
  refine Kfm hΓ 6 rfl ?_
  refine Kjn ?_
  obtain rfl:=oSi h7
  exact Khj hΓ [_] (.inr rfl) rfl rfl rfl rfl (.inr ⟨HB.mk rfl,rfl⟩)
 have h8:=cF h2 hb
 refine go hΓ 6 rfl ?_
 refine Kfp rfl (fun hb=>?_) (fun hb=>?_)
 ·have h9:=cT h8 hb
  obtain⟨y10,hy10,h11⟩:=Kfw h9
  refine go hΓ 4 rfl ?_
  refine Kgw [0,1,2,3,4,5] (I y10.1) [mObH y10.2.1.keys,mObH y10.2.1.nodes,mObB y10.2.1.ever,mObV y10.2.1.History,.box 220 [.d (Sl eS y10.2.1.d.Users),.d (Sl Lij y10.2.1.d.Owners),I y10.2.1.d.Life,B y10.2.1.d.Approve,.map 0,.map 1,.map 2,.map 3],bg y10.2.2,.box 37 (fS s)] (Lml Tryz.func203 rfl rfl) (Lhe hy10) rfl (nBe rfl) rfl rfl rfl rfl rfl rfl rfl rfl rfl rfl ?_
  refine Kfm hΓ 6 rfl ?_
  refine Kjn ?_
  obtain rfl:=oSi h11
  exact Khj hΓ [_] (.inr rfl) rfl rfl rfl rfl (.inr ⟨HB.mk rfl,rfl⟩)
 have h12:=cF h8 hb
 refine go hΓ 5 rfl ?_
 refine Kfs hmix (by kernel_rfl) ?_
 obtain⟨y13,hy13,h14⟩:=Kfw h12
 refine go hΓ 7 rfl ?_
 refine Kgy (Lml Tryz.func61 rfl rfl) (Lju hy13) rfl rfl rfl rfl rfl rfl ?_
 refine Kfn hΓ 3 rfl ?_
 refine Kfp rfl (fun hb=>?_) (fun hb=>?_)
 ·have h15:=cT h14 hb
  refine go hΓ 7 rfl ?_
  refine Kjn ?_
  obtain rfl:=oSi h15
  exact Khj hΓ [_] (.inr rfl) rfl rfl rfl rfl (.inr ⟨HB.mk rfl,rfl⟩)
 have h16:=cF h14 hb
 refine go hΓ 3 rfl ?_
 refine Kfs hmix (by kernel_rfl) ?_
 refine go hΓ 6 rfl ?_
 refine gl_o rfl (Knf hΓ (kv:=kS) (agg:=false) (enc:=(eH (some 0))) v_h.nodes s.Node (0:Nat) rfl rfl rfl rfl Kkh rfl rfl rfl (Kne rfl) rfl) ?_
 refine Kfn hΓ 7 rfl ?_
 refine eo_o rfl ((Knj hΓ rfl rfl rfl rfl).1) ?_
 refine Kfm hΓ 2 rfl ?_
 refine Kfp rfl (fun hb=>?_) (fun hb=>?_)
 ·have h17:=cT h16 hb
  refine go hΓ 7 rfl ?_
  refine Kjn ?_
  obtain rfl:=oSi h17
  exact Khj hΓ [_] (.inr rfl) rfl rfl rfl rfl (.inr ⟨HB.mk rfl,rfl⟩)
 have h18:=cF h16 hb
 refine go hΓ 10 rfl ?_
 refine Kfp rfl (fun hb=>?_) (fun hb=>?_)
 ·have h19:=cT h18 hb
  obtain⟨hg21,h20⟩:=Kfx h19
  refine go hΓ 4 rfl ?_
  refine eo_o rfl (Kos hg21 rfl) ?_
  refine eo_o rfl (Kot hΓ hg21 rfl rfl rfl rfl rfl rfl) ?_
  obtain⟨m22,hm22,h23⟩:=Kfw h20
  refine eo_o rfl (Kou hΓ (enc:=Lio) (bg:=5) m22 rfl rfl (ArU.r _ (ArU.r _ (ArU.l _ (Kmy (fun _ _=>rfl) hm22 m22)))) rfl (g:=B m22.Approved) rfl rfl) ?_
  refine Kfm hΓ 2 rfl ?_
  refine Kfp rfl (fun hb=>?_) (fun hb=>?_)
  ·have h24:=cT h23 hb
   refine go hΓ 8 rfl ?_
   refine Kjn ?_
   obtain rfl:=oSi h24
   exact Khj hΓ [_] (.inr rfl) rfl rfl rfl rfl (.inr ⟨HB.mk rfl,rfl⟩)
  have h25:=cF h23 hb
  obtain⟨hg27,h26⟩:=Kfx h25
  refine go hΓ 5 rfl ?_
  refine eo_o rfl (Kos hg27 rfl) ?_
  refine eo_o rfl (Kot hΓ hg27 rfl rfl rfl rfl rfl rfl) ?_
  obtain⟨m28,hm28,h29⟩:=Kfw h26
  refine eo_u (nBe rfl) (Kov hΓ (enc:=Lio) (bg:=5) m28 (⟨m28.Node,m28.User,m28.Name,m28.Public,m28.Tags,m28.Joined,m28.Expires,true⟩:Lcb) rfl rfl (ArU.r _ (ArU.r _ (ArU.l _ (Kmy (fun _ _=>rfl) hm28 (⟨m28.Node,m28.User,m28.Name,m28.Public,m28.Tags,m28.Joined,m28.Expires,true⟩:Lcb))))) rfl rfl (by intro e;cases e) rfl rfl rfl rfl rfl rfl rfl) ?_
  refine Khe [mObH v_h.keys,mObH v_h.nodes,mObB v_h.ever,mObV v_h.History,.box 220 [.d (Sl eS v_h.d.Users),.d (Sl Lij v_h.d.Owners),I v_h.d.Life,B v_h.d.Approve,.map 0,.map 1,.map 2,.map 3],.bag al.1 (arX al.2.1 al.2.2.1 (hSet al.2.2.2.1 ((mGet v_h.nodes s.Node).getD 0) (⟨m28.Node,m28.User,m28.Name,m28.Public,m28.Tags,m28.Joined,m28.Expires,true⟩:Lcb)) al.2.2.2.2.1 al.2.2.2.2.2) [],.box 37 (fS s)] rfl ?_
  refine Kfm hΓ 9 rfl ?_
  refine Kjn ?_
  obtain rfl:=oSi h29
  exact Khj hΓ [_] (.inr rfl) rfl rfl rfl rfl (.inr ⟨HB.mk rfl,rfl⟩)
 have h30:=cF h18 hb
 refine go hΓ 4 rfl ?_
 refine Kfs hmix (by kernel_rfl) ?_
 obtain⟨hg32,h31⟩:=Kfx h30
 refine go hΓ 7 rfl ?_
 refine gl_o rfl (Kos hg32 rfl) ?_
 obtain⟨m33,hm33,h34⟩:=Kfw h31
 refine gl_o rfl (Kou hΓ (enc:=Lio) (bg:=5) m33 rfl rfl (ArU.r _ (ArU.r _ (ArU.l _ (Kmy (fun _ _=>rfl) hm33 m33)))) rfl (g:=.agg (fM m33)) rfl rfl) ?_
 obtain⟨y35,hy35,h36⟩:=Kfw h34
 refine Kgy (Lml Tryz.func160 rfl rfl) (Lhi hy35) rfl rfl rfl rfl rfl rfl ?_
 refine Kfn hΓ 3 rfl ?_
 refine Kfp rfl (fun hb=>?_) (fun hb=>?_)
 ·have h37:=cT h36 hb
  refine go hΓ 7 rfl ?_
  refine Kjn ?_
  obtain rfl:=oSi h37
  exact Khj hΓ [_] (.inr rfl) rfl rfl rfl rfl (.inr ⟨HB.mk rfl,rfl⟩)
 have h38:=cF h36 hb
 obtain⟨y39,hy39,h40⟩:=Kfw h38
 refine go hΓ 7 rfl ?_
 refine Kgw [0,1,2,3,4,5] (I y39.1) [mObH y39.2.1.keys,mObH y39.2.1.nodes,mObB y39.2.1.ever,mObV y39.2.1.History,.box 220 [.d (Sl eS y39.2.1.d.Users),.d (Sl Lij y39.2.1.d.Owners),I y39.2.1.d.Life,B y39.2.1.d.Approve,.map 0,.map 1,.map 2,.map 3],bg y39.2.2,.box 37 (fS s)] (Lml Tryz.func204 rfl rfl) (Lhj hy39) rfl (nBe rfl) rfl rfl rfl rfl rfl rfl rfl rfl rfl rfl ?_
 refine Kfm hΓ 4 rfl ?_
 refine Kjn ?_
 obtain rfl:=oSi h40
 exact Khj hΓ [_] (.inr rfl) rfl rfl rfl rfl (.inr ⟨HB.mk rfl,rfl⟩)
theorem Lhl{d:Lbx}{l:List Lby}{v_at:Int}{al:BagT}{r:Lcg×(List Lch)×BagT}(h:Lgf d l v_at al=some r):EC Tryz.prog 94 [.agg (fD d),.d (Sl Lil l),I v_at] [bg al] fun g hp'=>g=.tup [.ptr 5 0,.sl 6 r.2.1.length]∧hp'=[bg r.2.2,mObH r.1.keys,mObH r.1.nodes,mObB r.1.ever,mObV r.1.History,.box 220 [.d (Sl eS r.1.d.Users),.d (Sl Lij r.1.d.Owners),I r.1.d.Life,B r.1.d.Approve,.map 1,.map 2,.map 3,.map 4],rO 48 2 Lis r.2.1]:=by
 refine Klr (Fr.of 0 _) Tryz.func94 rfl (Fr.of_ok _) (nBe rfl) fun _=>?_
 refine Kfo ?_
 unfold Lgf at h
 refine go hΓ 2 rfl ?_
 refine Ksq rfl rfl rfl rfl (nBe rfl) ?_
 obtain⟨y1,hy1,h2⟩:=Kfw h
 refine Kfm hΓ 7 rfl ?_
 refine Kgw [] (.ptr 6 0) [bg al,.box 29 (fD d),mObH y1.keys,mObH y1.nodes,mObB y1.ever,mObV y1.History,.box 220 [.d (Sl eS y1.d.Users),.d (Sl Lij y1.d.Owners),I y1.d.Life,B y1.d.Approve,.map 2,.map 3,.map 4,.map 5]] (Lml Tryz.func197 rfl rfl) (Lmh hy1) rfl (nBe rfl) rfl rfl rfl rfl rfl rfl rfl rfl rfl rfl ?_
 refine Kfm hΓ 5 rfl ?_
 refine Kgu (t:=0) 48 2 rfl (nBe rfl) ?_
 refine Kfm hΓ 10 rfl ?_
 obtain⟨q6,hq6,h7⟩:=Kfw h2
 refine Kgf 15 rfl fun hb9=>?_
 obtain⟨q10,hq10,h11⟩:=Kfw h7
 refine Kjr [(8,.ptr 6 0),(9,.sl 7 q10.2.2.2.2.2.2.2.2.2.length)] [bg q10.1,.box 29 (fD d),mObH q10.2.1,mObH q10.2.2.1,mObB q10.2.2.2.1,mObV q10.2.2.2.2.1,.box 220 [.d (Sl eS q10.2.2.2.2.2.1),.d (Sl Lij q10.2.2.2.2.2.2.1),I q10.2.2.2.2.2.2.2.1,B q10.2.2.2.2.2.2.2.2.1,.map 2,.map 3,.map 4,.map 5],rO 48 2 Lis q10.2.2.2.2.2.2.2.2.2] ?_ ?_
 ·refine go hΓ 1 rfl ?_
  refine Kge l hq6 (fun i3 s4=>[(2,I v_at),(8,.ptr 6 0),(9,.sl 7 s4.2.2.2.2.2.2.2.2.2.length),(15,.d (Sl Lil l)),(16,I (l.length:Int)),(17,I (i3:Int))]) (fun s4=>[bg s4.1,.box 29 (fD d),mObH s4.2.1,mObH s4.2.2.1,mObB s4.2.2.2.1,mObV s4.2.2.2.2.1,.box 220 [.d (Sl eS s4.2.2.2.2.2.1),.d (Sl Lij s4.2.2.2.2.2.2.1),I s4.2.2.2.2.2.2.2.1,B s4.2.2.2.2.2.2.2.2.1,.map 2,.map 3,.map 4,.map 5],rO 48 2 Lis s4.2.2.2.2.2.2.2.2.2]) ⟨⟨rfl,rfl,rfl,rfl,rfl,rfl,tV⟩,[],rfl,.inl rfl⟩ (fun i3 x5 s4 y15 hx12 hlt hy13 hout14=>?_) (fun s4 hgo=>?_)
  ·refine go hΓ 6 rfl ?_
   refine Kfq rfl (decide_eq_true (Int.ofNat_lt.2 hlt)) ?_
   refine go hΓ 7 rfl ?_
   refine eo_o rfl (Kgg hΓ (enc:=Lil) (Kfz hx12) rfl rfl rfl rfl rfl (fun _=>rfl)) ?_
   refine Kfm hΓ 1 rfl ?_
   refine Ksp hΓ rfl rfl rfl (nBe rfl) ?_
   refine Kfm hΓ 1 rfl ?_
   refine Ksu hΓ rfl rfl rfl rfl rfl rfl rfl rfl (nBe rfl) ?_
   refine Khe [bg s4.1,.box 29 (fD d),mObH s4.2.1,mObH s4.2.2.1,mObB s4.2.2.2.1,mObV s4.2.2.2.2.1,.box 220 [.d (Sl eS s4.2.2.2.2.2.1),.d (Sl Lij s4.2.2.2.2.2.2.1),I s4.2.2.2.2.2.2.2.1,B s4.2.2.2.2.2.2.2.2.1,.map 2,.map 3,.map 4,.map 5],rO 48 2 Lis s4.2.2.2.2.2.2.2.2.2,.box 37 (fS x5)] rfl ?_
   refine Kfm hΓ 11 rfl ?_
   refine Kfp rfl (fun hb=>?_) (fun hb=>?_)
   ·have h16:=cT hy13 hb
    refine go hΓ 6 rfl ?_
    obtain rfl:=oSi h16
    obtain rfl:=hout14 _ rfl
    obtain rfl:=oSi hq10
    exact⟨⟨rfl,rfl,tV⟩,[_],rfl,.inr ⟨HB.mk rfl,FB.mk rfl,(nBe rfl)⟩⟩
   have h17:=cF hy13 hb
   obtain⟨y18,hy18,h19⟩:=Kfw h17
   refine go hΓ 6 rfl ?_
   refine Kgw [2,3,4,5,6,0] (I y18.1) [bg y18.2.2,.box 29 (fD d),mObH y18.2.1.keys,mObH y18.2.1.nodes,mObB y18.2.1.ever,mObV y18.2.1.History,.box 220 [.d (Sl eS y18.2.1.d.Users),.d (Sl Lij y18.2.1.d.Owners),I y18.2.1.d.Life,B y18.2.1.d.Approve,.map 2,.map 3,.map 4,.map 5],rO 48 2 Lis s4.2.2.2.2.2.2.2.2.2,.box 37 (fS x5)] (Lml Tryz.func98 rfl rfl) (Lhk hy18) rfl (nBe rfl) rfl rfl rfl rfl rfl rfl rfl rfl rfl rfl ?_
   refine Kfm hΓ 9 rfl ?_
   refine Kfp rfl (fun hb=>?_) (fun hb=>?_)
   ·have h20:=cT h19 hb
    refine go hΓ 4 rfl ?_
    refine Kdu hΓ (gs:=[I (i3:Int),I y18.1]) rfl rfl rfl rfl rfl rfl rfl ?_
    refine Kgr hΓ (enc:=Lis) [(⟨(i3:Int),y18.1⟩:Lch)] rfl rfl rfl rfl rfl rfl rfl rfl rfl rfl rfl rfl (nBe rfl) ?_
    obtain⟨y21,hy21,h22⟩:=Kfw h20
    refine Khf hΓ (enc:=Lis) hy21 rfl rfl rfl rfl rfl rfl rfl rfl rfl (fun _=>rfl) rfl rfl rfl rfl ?_
    refine Kfm hΓ 8 rfl ?_
    obtain rfl:=oSi h22
    exact⟨_,rfl,⟨⟨rfl,rfl,rfl,rfl,rfl,Kew rfl (Kev (nLl hlt hb9)),tV⟩,[_],rfl,.inr ⟨HB.mk rfl,FB.mk rfl,(nBe rfl)⟩⟩⟩
   have h23:=cF h19 hb
   refine go hΓ 7 rfl ?_
   obtain rfl:=oSi h23
   exact⟨_,rfl,⟨⟨rfl,rfl,rfl,rfl,rfl,Kew rfl (Kev (nLl hlt hb9)),tV⟩,[_],rfl,.inr ⟨HB.mk rfl,FB.mk rfl,(nBe rfl)⟩⟩⟩
  subst hgo
  refine go hΓ 6 rfl ?_
  refine Kfr rfl (decide_eq_false (Int.lt_irrefl _)) ?_
  refine go hΓ 4 rfl ?_
  obtain rfl:=oSi hq10
  exact⟨⟨rfl,rfl,tV⟩,[],rfl,.inl rfl⟩
 refine go hΓ 10 rfl ?_
 refine Klm 1 [bg q10.1,.dead,mObH q10.2.1,mObH q10.2.2.1,mObB q10.2.2.2.1,mObV q10.2.2.2.2.1,.box 220 [.d (Sl eS q10.2.2.2.2.2.1),.d (Sl Lij q10.2.2.2.2.2.2.1),I q10.2.2.2.2.2.2.2.1,B q10.2.2.2.2.2.2.2.2.1,.map 2,.map 3,.map 4,.map 5],rO 48 2 Lis q10.2.2.2.2.2.2.2.2.2] rfl (nBe rfl) ?_
 refine Kjp 2 1 [bg q10.1,mObH q10.2.1,.dead,mObH q10.2.2.1,mObB q10.2.2.2.1,mObV q10.2.2.2.2.1,.box 220 [.d (Sl eS q10.2.2.2.2.2.1),.d (Sl Lij q10.2.2.2.2.2.2.1),I q10.2.2.2.2.2.2.2.1,B q10.2.2.2.2.2.2.2.2.1,.map 1,.map 3,.map 4,.map 5],rO 48 2 Lis q10.2.2.2.2.2.2.2.2.2] rfl rfl rfl rfl rfl rfl ?_
 refine Kjp 3 2 [bg q10.1,mObH q10.2.1,mObH q10.2.2.1,.dead,mObB q10.2.2.2.1,mObV q10.2.2.2.2.1,.box 220 [.d (Sl eS q10.2.2.2.2.2.1),.d (Sl Lij q10.2.2.2.2.2.2.1),I q10.2.2.2.2.2.2.2.1,B q10.2.2.2.2.2.2.2.2.1,.map 1,.map 2,.map 4,.map 5],rO 48 2 Lis q10.2.2.2.2.2.2.2.2.2] rfl rfl rfl rfl rfl rfl ?_
 refine Kjp 4 3 [bg q10.1,mObH q10.2.1,mObH q10.2.2.1,mObB q10.2.2.2.1,.dead,mObV q10.2.2.2.2.1,.box 220 [.d (Sl eS q10.2.2.2.2.2.1),.d (Sl Lij q10.2.2.2.2.2.2.1),I q10.2.2.2.2.2.2.2.1,B q10.2.2.2.2.2.2.2.2.1,.map 1,.map 2,.map 3,.map 5],rO 48 2 Lis q10.2.2.2.2.2.2.2.2.2] rfl rfl rfl rfl rfl rfl ?_
 refine Kjp 5 4 [bg q10.1,mObH q10.2.1,mObH q10.2.2.1,mObB q10.2.2.2.1,mObV q10.2.2.2.2.1,.dead,.box 220 [.d (Sl eS q10.2.2.2.2.2.1),.d (Sl Lij q10.2.2.2.2.2.2.1),I q10.2.2.2.2.2.2.2.1,B q10.2.2.2.2.2.2.2.2.1,.map 1,.map 2,.map 3,.map 4],rO 48 2 Lis q10.2.2.2.2.2.2.2.2.2] rfl rfl rfl rfl rfl rfl ?_
 refine Kjp 6 5 [bg q10.1,mObH q10.2.1,mObH q10.2.2.1,mObB q10.2.2.2.1,mObV q10.2.2.2.2.1,.box 220 [.d (Sl eS q10.2.2.2.2.2.1),.d (Sl Lij q10.2.2.2.2.2.2.1),I q10.2.2.2.2.2.2.2.1,B q10.2.2.2.2.2.2.2.2.1,.map 1,.map 2,.map 3,.map 4],.dead,rO 48 2 Lis q10.2.2.2.2.2.2.2.2.2] rfl rfl rfl rfl rfl rfl ?_
 refine Kjp 7 6 [bg q10.1,mObH q10.2.1,mObH q10.2.2.1,mObB q10.2.2.2.1,mObV q10.2.2.2.2.1,.box 220 [.d (Sl eS q10.2.2.2.2.2.1),.d (Sl Lij q10.2.2.2.2.2.2.1),I q10.2.2.2.2.2.2.2.1,B q10.2.2.2.2.2.2.2.2.1,.map 1,.map 2,.map 3,.map 4],rO 48 2 Lis q10.2.2.2.2.2.2.2.2.2,.dead] rfl rfl rfl rfl rfl rfl ?_
 refine Kjn ?_
 obtain rfl:=oSi h11
 exact Khj hΓ [_] (.inr rfl) rfl rfl rfl rfl (.inr ⟨HB.mk rfl,rfl⟩)
theorem Lhm{x:Int}{r:Int}(h:Lgg x=some r):Pure Tryz.prog 294 [U x] (I r):=by
 refine Pure.enter (Fr.of 0 _) Tryz.func294 rfl (Fr.of_ok _) rfl rfl ?_
 refine Kfo ?_
 unfold Lgg at h
 obtain⟨q1,hq1,h2⟩:=Kfw h
 refine go hΓ 12 rfl ?_
 refine Kjr [(0,U q1.1),(2,I q1.2)] [] ?_ ?_
 ·refine Kfp rfl (fun hb=>?_) (fun hb=>?_)
  ·have h3:=cT hq1 hb
   refine go hΓ 10 rfl ?_
   obtain rfl:=oSi h3
   exact⟨⟨rfl,rfl,tV⟩,[],rfl,.inl rfl⟩
  have h4:=cF hq1 hb
  refine go hΓ 1 rfl ?_
  obtain rfl:=oSi h4
  exact⟨⟨rfl,rfl,tV⟩,[],rfl,.inl rfl⟩
 obtain⟨q5,hq5,h6⟩:=Kfw h2
 refine go hΓ 8 rfl ?_
 refine Kjr [(0,U q5.1),(2,I q5.2)] [] ?_ ?_
 ·refine Kfp rfl (fun hb=>?_) (fun hb=>?_)
  ·have h7:=cT hq5 hb
   refine go hΓ 12 rfl ?_
   obtain rfl:=oSi h7
   exact⟨⟨rfl,rfl,tV⟩,[],rfl,.inl rfl⟩
  have h8:=cF hq5 hb
  refine go hΓ 1 rfl ?_
  obtain rfl:=oSi h8
  exact⟨⟨rfl,rfl,tV⟩,[],rfl,.inl rfl⟩
 obtain⟨q9,hq9,h10⟩:=Kfw h6
 refine go hΓ 8 rfl ?_
 refine Kjr [(0,U q9.1),(2,I q9.2)] [] ?_ ?_
 ·refine Kfp rfl (fun hb=>?_) (fun hb=>?_)
  ·have h11:=cT hq9 hb
   refine go hΓ 12 rfl ?_
   obtain rfl:=oSi h11
   exact⟨⟨rfl,rfl,tV⟩,[],rfl,.inl rfl⟩
  have h12:=cF hq9 hb
  refine go hΓ 1 rfl ?_
  obtain rfl:=oSi h12
  exact⟨⟨rfl,rfl,tV⟩,[],rfl,.inl rfl⟩
 obtain⟨c13,hc13,h14⟩:=Kfw h10
 refine go hΓ 6 rfl ?_
 refine eo_o rfl (Kgh hΓ hc13 rfl rfl rfl rfl) ?_
 refine Kfm hΓ 6 rfl ?_
 obtain rfl:=oSi h14
 exact Khi hΓ (.inr rfl) rfl rfl
theorem Lhn{x:Int}{r:Int}(h:Lgh x=some r):Pure Tryz.prog 215 [U x] (I r):=by
 refine Pure.enter (Fr.of 0 _) Tryz.func215 rfl (Fr.of_ok _) rfl rfl ?_
 refine Kfo ?_
 unfold Lgh at h
 refine go hΓ 6 rfl ?_
 refine Kkw ?_
 obtain⟨y1,hy1,h2⟩:=Kfw h
 refine go hΓ 5 rfl ?_
 refine Kgx (Lml Tryz.func294 rfl rfl) (Lhm hy1) rfl (nBe rfl) rfl rfl rfl rfl rfl ?_
 refine Kfm hΓ 4 rfl ?_
 obtain rfl:=oSi h2
 exact Khi hΓ (.inr rfl) rfl rfl
theorem Lho{a:Lcb}{b:Lcb}{r:Int}(h:Lgi a b=some r):Pure Tryz.prog 146 [.agg (fM a),.agg (fM b)] (I r):=by
 refine Pure.enter (Fr.of 0 _) Tryz.func146 rfl (Fr.of_ok _) rfl rfl ?_
 refine Kfo ?_
 unfold Lgi at h
 refine go hΓ 2 rfl ?_
 refine Ksq rfl rfl rfl rfl (nBe rfl) ?_
 refine Ksq rfl rfl rfl rfl (nBe rfl) ?_
 obtain⟨y1,hy1,h2⟩:=Kfw h
 refine Kfm hΓ 9 rfl ?_
 refine Kgx (Lml Tryz.func147 rfl rfl) (Lbm hy1) rfl (nBe rfl) rfl rfl rfl rfl rfl ?_
 refine Kfm hΓ 4 rfl ?_
 obtain rfl:=oSi h2
 exact Khi hΓ (.inr rfl) rfl rfl
theorem Lhp{k:Nat}{data:List Lcb}{a:Int}{b:Int}{r:List Lcb}(h:Lgj k data a b=some r):EC Tryz.prog 308 [.sl 0 data.length,I a,I b,.fn (.func 146) [] []] [rO 77 8 Lio data] fun g hp'=>g=.tup []∧hp'=[rO 77 8 Lio r]:=by
 refine Krb (Fr.of 0 _) Tryz.func308 rfl (Fr.of_ok _) (nBe rfl) fun _=>?_
 refine Kfo ?_
 unfold Lgj at h
 refine go hΓ 7 rfl ?_
 obtain⟨q4,hq4,h5⟩:=Kfw h
 refine Kjr [] [rO 77 8 Lio q4] ?_ ?_
 ·refine go hΓ 1 rfl ?_
  refine Kgc hq4 (fun s2=>[(0,.sl 0 s2.1.length),(1,I a),(2,I b),(3,.fn (.func 146) [] []),(8,I s2.2)]) (fun s2=>[rO 77 8 Lio s2.1]) ⟨⟨rfl,rfl,rfl,rfl,rfl,tV⟩,[],rfl,.inl rfl⟩ (fun s2 y10 hy8 hout9=>?_)
  refine go hΓ 8 rfl ?_
  refine Kfp rfl (fun hb=>?_) (fun hb=>?_)
  ·have h11:=cT hy8 hb
   refine go hΓ 10 rfl ?_
   obtain⟨q15,hq15,h16⟩:=Kfw h11
   refine Kjr [(0,.sl 0 q15.length),(1,I a),(2,I b),(3,.fn (.func 146) [] []),(8,I s2.2)] [rO 77 8 Lio q15] ?_ ?_
   ·refine go hΓ 1 rfl ?_
    refine Kgc hq15 (fun s13=>[(0,.sl 0 s13.1.length),(1,I a),(2,I b),(3,.fn (.func 146) [] []),(8,I s2.2),(9,I s13.2)]) (fun s13=>[rO 77 8 Lio s13.1]) ⟨⟨rfl,rfl,rfl,rfl,rfl,rfl,tV⟩,[],rfl,.inl rfl⟩ (fun s13 y21 hy19 hout20=>?_)
    obtain⟨q22,hq22,h23⟩:=Kfw hy19
    refine go hΓ 2 rfl ?_
    refine Kjr [(0,.sl 0 s13.1.length),(1,I a),(2,I b),(3,.fn (.func 146) [] []),(8,I s2.2),(9,I s13.2),(34,B q22)] [rO 77 8 Lio s13.1] ?_ ?_
    ·refine Kfs hmix (by kernel_rfl) ?_
     refine go hΓ 4 rfl ?_
     refine Kee rfl rfl (fun hb=>?_) (fun hb=>?_)
     ·have h24:=cT hq22 hb
      obtain⟨x25,hx25,h26⟩:=Kfw h24
      have hj27:=Khn hx25
      refine Kfn hΓ 3 rfl ?_
      refine Kez rfl rfl (Kgi hΓ hx25 rfl rfl rfl rfl rfl rfl) ?_
      refine Kez rfl rfl (Kgo hΓ (enc:=Lio) s13.2.toNat 0 hj27 rfl rfl rfl rfl (fun _=>rfl) (g:=.agg (fM x25)) rfl) ?_
      obtain⟨x28,hx28,h29⟩:=Kfw h26
      have hj30:=Khn hx28
      refine Kfn hΓ 3 rfl ?_
      refine Kez rfl rfl (Kgi hΓ hx28 rfl rfl rfl rfl rfl rfl) ?_
      refine Kez rfl rfl (Kgo hΓ (enc:=Lio) ((wi (s13.2 - 1)).toNat) 0 hj30 rfl rfl rfl rfl (fun _=>rfl) (g:=.agg (fM x28)) rfl) ?_
      obtain⟨y31,hy31,h32⟩:=Kfw h29
      refine Kgz (Lml Tryz.func146 rfl rfl) (Lho hy31) rfl rfl rfl rfl rfl rfl rfl ?_
      refine Kfn hΓ 3 rfl ?_
      obtain rfl:=oSi h32
      exact⟨⟨rfl,rfl,rfl,rfl,rfl,rfl,rfl,tV⟩,[],rfl,.inl rfl⟩
     have h33:=cF hq22 hb
     refine Kfn hΓ 14 rfl ?_
     obtain rfl:=oSi h33
     exact⟨⟨rfl,rfl,rfl,rfl,rfl,rfl,rfl,tV⟩,[],rfl,.inl rfl⟩
    refine go hΓ 1 rfl ?_
    refine Kfp rfl (fun hb=>?_) (fun hb=>?_)
    ·have h34:=cT h23 hb
     refine go hΓ 4 rfl ?_
     refine Kir [rO 77 8 Lio s13.1] [9,13] [15,17] [15,17] hmix (by kernel_rfl) (by kernel_rfl) ⟨rfl,tV⟩ (nBe rfl) ?_
     obtain⟨x35,hx35,h36⟩:=Kfw h34
     have hj37:=Khn hx35
     refine go_E hΓ 8 rfl ?_
     refine ge_q rfl (.inl rfl) (fun _ _=>Kiu (qt_p (Kgi hΓ hx35 rfl rfl rfl rfl rfl rfl))) ?_
     refine ge_p rfl (fun hp hs=>Kgo hΓ (enc:=Lio) ((wi (s13.2 - 1)).toNat) 0 hj37 rfl rfl rfl (hs 0 _ rfl rfl) (fun _=>rfl) (g:=.agg (fM x35)) rfl) rfl ?_
     obtain⟨x38,hx38,h39⟩:=Kfw h36
     have hj40:=Khn hx38
     refine go_E hΓ 2 rfl ?_
     refine ge_q rfl (.inl rfl) (fun _ _=>Kiu (qt_p (Kgi hΓ hx38 rfl rfl rfl rfl rfl rfl))) ?_
     refine ge_p rfl (fun hp hs=>Kgo hΓ (enc:=Lio) s13.2.toNat 0 hj40 rfl rfl rfl (hs 0 _ rfl rfl) (fun _=>rfl) (g:=.agg (fM x38)) rfl) rfl ?_
     obtain⟨x41,hx41,h42⟩:=Kfw h39
     have hj43:=Khn hx41
     refine ge_q rfl (.inl rfl) (fun _ _=>Kiu (qt_p (Kgi hΓ hx41 rfl rfl rfl rfl rfl rfl))) ?_
     refine Kiw [rO 77 8 Lio (s13.1.set s13.2.toNat x35)] rfl rfl (Kix rfl) (Kjc (Kjx hΓ (enc:=Lio) (z':=x35) s13.2.toNat (by have:=(gEs.1 hj43).1;simpa using this) rfl rfl rfl rfl (fun _=>rfl) rfl rfl rfl rfl rfl)) ?_
     obtain⟨x44,hx44,h45⟩:=Kfw h42
     have hj46:=Khn hx44
     refine ge_q rfl (.inl rfl) (fun _ _=>Kiu (qt_p (Kgi hΓ hx44 rfl rfl rfl rfl rfl rfl))) ?_
     obtain⟨x47,hx47,h48⟩:=Kfw h45
     have hj49:(s13.1.set s13.2.toNat x35)[(wi (s13.2 - 1)).toNat]?=some x47:=hx47
     refine Kiw [rO 77 8 Lio ((s13.1.set s13.2.toNat x35).set ((wi (s13.2 - 1)).toNat) x38)] rfl rfl (Kix rfl) (Kjc (Kjx hΓ (enc:=Lio) (z':=x38) ((wi (s13.2 - 1)).toNat) (by have:=(gEs.1 hj49).1;simpa using this) rfl rfl rfl rfl (fun _=>rfl) rfl rfl rfl rfl rfl)) ?_
     refine Kit ?_
     refine go hΓ 2 rfl ?_
     refine Kjy 0 (n':=((s13.1.set s13.2.toNat x35).set ((wi (s13.2 - 1)).toNat) x38).length) rfl (by simp) ?_
     refine Kjy 37 (n':=((s13.1.set s13.2.toNat x35).set ((wi (s13.2 - 1)).toNat) x38).length) rfl (by simp) ?_
     refine Kjy 39 (n':=((s13.1.set s13.2.toNat x35).set ((wi (s13.2 - 1)).toNat) x38).length) rfl (by simp) ?_
     refine Kjy 42 (n':=((s13.1.set s13.2.toNat x35).set ((wi (s13.2 - 1)).toNat) x38).length) rfl (by simp) ?_
     refine Kjy 47 (n':=((s13.1.set s13.2.toNat x35).set ((wi (s13.2 - 1)).toNat) x38).length) rfl (by simp) ?_
     refine go hΓ 5 rfl ?_
     obtain rfl:=oSi h48
     exact⟨_,rfl,⟨⟨rfl,rfl,rfl,rfl,rfl,rfl,tV⟩,[],rfl,.inl rfl⟩⟩
    have h50:=cF h23 hb
    refine go hΓ 4 rfl ?_
    obtain rfl:=oSi h50
    obtain rfl:=hout20 _ rfl
    exact⟨⟨rfl,rfl,rfl,rfl,rfl,tV⟩,[],rfl,.inl rfl⟩
   refine go hΓ 7 rfl ?_
   obtain rfl:=oSi h16
   exact⟨_,rfl,⟨⟨rfl,rfl,rfl,rfl,rfl,tV⟩,[],rfl,.inl rfl⟩⟩
  have h51:=cF hy8 hb
  refine go hΓ 4 rfl ?_
  obtain rfl:=oSi h51
  obtain rfl:=hout9 _ rfl
  exact⟨tV,[],rfl,.inl rfl⟩
 obtain rfl:=oSi h5
 exact Khj hΓ [] (.inl rfl) rfl rfl rfl rfl (.inl rfl)
theorem Lhq{k:Nat}{data:List Lcb}{a:Int}{b:Int}{limit:Int}{r:List Lcb}(h:Lgk k data a b limit=some r):EC Tryz.prog 234 [.sl 0 data.length,I a,I b,I limit,.fn (.func 146) [] []] [rO 77 8 Lio data] fun g hp'=>g=.tup []∧hp'=[rO 77 8 Lio r]:=by
 refine Krb (Fr.of 0 _) Tryz.func234 rfl (Fr.of_ok _) (nBe rfl) fun _=>?_
 refine Kfo ?_
 unfold Lgk at h
 refine go hΓ 10 rfl ?_
 obtain⟨q4,hq4,h5⟩:=Kfw h
 refine go hΓ 1 rfl ?_
 refine Kgc hq4 (fun s2=>[(0,.sl 0 data.length),(1,I a),(2,I b),(3,I limit),(4,.fn (.func 146) [] []),(10,B true),(11,B true)]) (fun s2=>[rO 77 8 Lio data]) ⟨⟨rfl,rfl,rfl,rfl,rfl,rfl,rfl,tV⟩,[],rfl,.inl rfl⟩ (fun s2 y10 hy8 hout9=>?_)
 refine go hΓ 16 rfl ?_
 refine Kfp rfl (fun hb=>?_) (fun hb=>?_)
 ·have h11:=cT hy8 hb
  obtain⟨y12,hy12,h13⟩:=Kfw h11
  refine go hΓ 6 rfl ?_
  refine Kgw [0] (.tup []) [rO 77 8 Lio y12] (Lml Tryz.func308 rfl rfl) (Lhp hy12) rfl (nBe rfl) rfl rfl rfl rfl rfl rfl rfl rfl rfl rfl ?_
  refine Kfm hΓ 5 rfl ?_
  obtain⟨v14,hv14,h15⟩:=Kfw h13
  obtain rfl:=oSi h15
  obtain rfl:=hout9 _ rfl
  obtain rfl:=oSi h5
  refine go hΓ 2 rfl ?_
  obtain rfl:=oSi hv14
  exact Khj hΓ [] (.inr rfl) rfl rfl rfl rfl (.inl rfl)
 have h16:=cF hy8 hb
 refine go hΓ 9 rfl ?_
 refine Kfp rfl (fun hb=>?_) (fun hb=>?_)
 ·have h17:=cT h16 hb
  refine go hΓ 6 rfl ?_
  cases h17
 have h18:=cF h16 hb
 refine go hΓ 18 rfl ?_
 cases h18
theorem Lhr{k:Nat}{x:List Lcb}{r:List Lcb}(h:Lgl k x=some r):EC Tryz.prog 145 [.sl 0 x.length,.fn (.func 146) [] []] [rO 77 8 Lio x] fun g hp'=>g=.tup []∧hp'=[rO 77 8 Lio r]:=by
 refine Krb (Fr.of 0 _) Tryz.func145 rfl (Fr.of_ok _) (nBe rfl) fun _=>?_
 refine Kfo ?_
 unfold Lgl at h
 obtain⟨y1,hy1,h2⟩:=Kfw h
 refine go hΓ 12 rfl ?_
 refine Kgx (Lml Tryz.func215 rfl rfl) (Lhn hy1) rfl (nBe rfl) rfl rfl rfl rfl rfl ?_
 obtain⟨y3,hy3,h4⟩:=Kfw h2
 refine Kfm hΓ 1 rfl ?_
 refine Kgw [0] (.tup []) [rO 77 8 Lio y3] (Lml Tryz.func234 rfl rfl) (Lhq hy3) rfl (nBe rfl) rfl rfl rfl rfl rfl rfl rfl rfl rfl rfl ?_
 refine Kfm hΓ 1 rfl ?_
 obtain rfl:=oSi h4
 exact Khj hΓ [] (.inl rfl) rfl rfl rfl rfl (.inl rfl)
theorem Lhs{k:Nat}{d:Lbx}{l:List Lby}{v_at:Int}{al:BagT}{r:(List Lcb)×BagT}(h:Lgm k d l v_at al=some r):EC Tryz.prog 49 [.agg (fD d),.d (Sl Lil l),I v_at] [bg al] fun g hp'=>g=.sl 1 r.1.length∧hp'=[bg r.2,rO 77 8 Lio r.1]:=by
 refine Klr (Fr.of 0 _) Tryz.func49 rfl (Fr.of_ok _) (nBe rfl) fun _=>?_
 refine Kfo ?_
 unfold Lgm at h
 refine go hΓ 2 rfl ?_
 refine Ksq rfl rfl rfl rfl (nBe rfl) ?_
 obtain⟨y1,hy1,h2⟩:=Kfw h
 refine Kfm hΓ 8 rfl ?_
 refine Kgw [0] (.tup [.ptr 6 0,.sl 7 y1.2.1.length]) [bg y1.2.2,.box 29 (fD d),mObH y1.1.keys,mObH y1.1.nodes,mObB y1.1.ever,mObV y1.1.History,.box 220 [.d (Sl eS y1.1.d.Users),.d (Sl Lij y1.1.d.Owners),I y1.1.d.Life,B y1.1.d.Approve,.map 2,.map 3,.map 4,.map 5],rO 48 2 Lis y1.2.1] (Lml Tryz.func94 rfl rfl) (Lhl hy1) rfl (nBe rfl) rfl rfl rfl rfl rfl rfl rfl rfl rfl rfl ?_
 refine Khc 7 [16] _ [bg y1.2.2,.box 29 (fD d),mObH y1.1.keys,mObH y1.1.nodes,mObB y1.1.ever,mObV y1.1.History,.box 220 [.d (Sl eS y1.1.d.Users),.d (Sl Lij y1.1.d.Owners),I y1.1.d.Life,B y1.1.d.Approve,.map 2,.map 3,.map 4,.map 5],.dead] rfl rfl rfl (nBe rfl) ?_
 refine Kfm hΓ 9 rfl ?_
 refine Kgu (t:=0) 77 8 rfl (nBe rfl) ?_
 refine Kfm hΓ 9 rfl ?_
 refine Klg hΓ (kv:=kS) (agg:=false) (enc:=(eH (some 0))) y1.1.nodes rfl rfl rfl rfl rfl (nBe rfl) (fun mr3 bs4 cl5 hpm6 hbl7 hbn8=>?_)
 refine Khe [bg y1.2.2,.box 29 (fD d),mObH y1.1.keys,mObS kS false (eH (some 0)) y1.1.nodes (rawM kS (eH (some 0)) mr3 bs4 cl5),mObB y1.1.ever,mObV y1.1.History,.box 220 [.d (Sl eS y1.1.d.Users),.d (Sl Lij y1.1.d.Owners),I y1.1.d.Life,B y1.1.d.Approve,.map 2,.map 3,.map 4,.map 5],.dead,rO 77 8 Lio ([]:List Lcb),.iter 3 cl5 []] rfl ?_
 refine Kfm hΓ 2 rfl ?_
 refine go hΓ 1 rfl ?_
 refine Knl (Kpx h2) hpm6 hbl7 hbn8 (fun s9=>[(9,.sl 8 s9.length),(23,.ptr 9 0)]) (fun sn11 s9=>[bg y1.2.2,.box 29 (fD d),mObH y1.1.keys,mObS kS false (eH (some 0)) y1.1.nodes (rawM kS (eH (some 0)) mr3 bs4 cl5),mObB y1.1.ever,mObV y1.1.History,.box 220 [.d (Sl eS y1.1.d.Users),.d (Sl Lij y1.1.d.Owners),I y1.1.d.Life,B y1.1.d.Approve,.map 2,.map 3,.map 4,.map 5],.dead,rO 77 8 Lio s9,.iter 3 cl5 sn11]) ⟨⟨rfl,rfl,tV⟩,[],rfl,.inl rfl⟩ (fun sn11 s9 hdone14 hstep15=>?_)
 refine go hΓ 2 rfl ?_
 refine Klh (kv:=kS) (agg:=false) (enc:=(eH (some 0))) y1.1.nodes mr3 bs4 cl5 sn11 [bg y1.2.2,.box 29 (fD d),mObH y1.1.keys,mObH y1.1.nodes,mObB y1.1.ever,mObV y1.1.History,.box 220 [.d (Sl eS y1.1.d.Users),.d (Sl Lij y1.1.d.Owners),I y1.1.d.Life,B y1.1.d.Approve,.map 2,.map 3,.map 4,.map 5],.dead,rO 77 8 Lio s9,.dead] rfl rfl rfl rfl rfl (nBe rfl) (fun hdsn11=>?_) (fun j12 x10 b13 hjsn11 hbsn11 hnsn11=>?_)
 ·have h16:=hdone14 hdsn11
  obtain⟨y17,hy17,h18⟩:=Kfw h16
  refine Kfm hΓ 13 rfl ?_
  refine Kgw [8] (.tup []) [bg y1.2.2,.box 29 (fD d),mObH y1.1.keys,mObH y1.1.nodes,mObB y1.1.ever,mObV y1.1.History,.box 220 [.d (Sl eS y1.1.d.Users),.d (Sl Lij y1.1.d.Owners),I y1.1.d.Life,B y1.1.d.Approve,.map 2,.map 3,.map 4,.map 5],.dead,rO 77 8 Lio y17,.dead] (Lml Tryz.func145 rfl rfl) (Lhr hy17) rfl (nBe rfl) rfl rfl rfl rfl rfl rfl rfl rfl rfl rfl ?_
  obtain⟨hg20,h19⟩:=Kfx h18
  refine Kju 9 rfl (of_decide_eq_true hg20).symm ?_
  refine Kfm hΓ 9 rfl ?_
  refine Klm 1 [bg y1.2.2,.dead,mObH y1.1.keys,mObH y1.1.nodes,mObB y1.1.ever,mObV y1.1.History,.box 220 [.d (Sl eS y1.1.d.Users),.d (Sl Lij y1.1.d.Owners),I y1.1.d.Life,B y1.1.d.Approve,.map 2,.map 3,.map 4,.map 5],.dead,rO 77 8 Lio y17,.dead] rfl (nBe rfl) ?_
  refine Kjp 8 1 [bg y1.2.2,rO 77 8 Lio y17,mObH y1.1.keys,mObH y1.1.nodes,mObB y1.1.ever,mObV y1.1.History,.box 220 [.d (Sl eS y1.1.d.Users),.d (Sl Lij y1.1.d.Owners),I y1.1.d.Life,B y1.1.d.Approve,.map 2,.map 3,.map 4,.map 5],.dead,.dead,.dead] rfl rfl rfl rfl rfl rfl ?_
  refine Kjn ?_
  obtain rfl:=oSi h19
  exact Khj hΓ [_,_,_,_,_,_,_,_] (.inr rfl) rfl rfl rfl rfl (.inr ⟨HB.mk rfl,rfl⟩)
 obtain⟨s21,h22⟩:=hstep15 j12 x10 b13 hjsn11 hbsn11 hnsn11
 have hssn11:=h22
 refine Kfm hΓ 10 rfl ?_
 refine eo_o rfl (Kli (kv:=kS) (agg:=false) (enc:=(eH (some 0))) y1.1.nodes mr3 bs4 cl5 sn11 hjsn11 hbsn11 rfl rfl rfl rfl (fun _=>rfl)) ?_
 obtain⟨hg24,h23⟩:=Kfx h22
 refine Kfm hΓ 7 rfl ?_
 refine eo_o rfl (Kos hg24 rfl) ?_
 obtain⟨m25,hm25,h26⟩:=Kfw h23
 refine eo_o rfl (Kou hΓ (enc:=Lio) (bg:=0) m25 rfl rfl (ArU.r _ (ArU.r _ (ArU.l _ (Kmy (fun _ _=>rfl) hm25 m25)))) rfl (g:=.agg (fM m25)) rfl rfl) ?_
 refine Kgr hΓ (enc:=Lio) [m25] rfl rfl rfl rfl rfl rfl rfl rfl rfl rfl rfl rfl (nBe rfl) ?_
 obtain⟨y27,hy27,h28⟩:=Kfw h26
 refine Khf hΓ (enc:=Lio) hy27 rfl rfl rfl rfl rfl rfl rfl rfl rfl (fun _=>rfl) rfl rfl rfl rfl ?_
 refine Kfm hΓ 3 rfl ?_
 obtain rfl:=oSi h28
 exact⟨j12,x10,b13,_,hjsn11,hbsn11,hnsn11,hssn11,⟨⟨rfl,rfl,tV⟩,[],rfl,.inl rfl⟩⟩
theorem Lht{s1:List Str}{s2:List Str}{r:Bool}(h:Lgn s1 s2=some r):Pure Tryz.prog 65 [.d (Sl eS s1),.d (Sl eS s2)] (B r):=by
 refine Pure.enter (Fr.of 0 _) Tryz.func65 rfl (Fr.of_ok _) rfl rfl ?_
 refine Kfo ?_
 unfold Lgn at h
 refine go hΓ 15 rfl ?_
 refine Kfp rfl (fun hb=>?_) (fun hb=>?_)
 ·have h1:=cT h hb
  refine go hΓ 7 rfl ?_
  obtain rfl:=oSi h1
  exact Khi hΓ (.inr rfl) rfl rfl
 have h2:=cF h hb
 refine go hΓ 10 rfl ?_
 obtain⟨q6,hq6,h7⟩:=Kfw h2
 refine Kgf 0 rfl fun hb9=>?_
 refine Kjq (R:=fun a8=>q6=.go a8) (fun a8=>[]) (fun a8=>[]) ?_ ?_
 ·refine go hΓ 1 rfl ?_
  refine Kge s1 hq6 (fun i3 s4=>[(0,.d (Sl eS s1)),(1,.d (Sl eS s2)),(12,I (s1.length:Int)),(13,I (i3:Int))]) (fun s4=>[]) ⟨⟨rfl,rfl,rfl,rfl,tV⟩,[],rfl,.inl rfl⟩ (fun i3 x5 s4 y13 hx10 hlt hy11 hout12=>?_) (fun s4 hgo=>?_)
  ·refine go hΓ 6 rfl ?_
   refine Kfq rfl (decide_eq_true (Int.ofNat_lt.2 hlt)) ?_
   refine go hΓ 11 rfl ?_
   refine Kfs hmix (by kernel_rfl) ?_
   refine go hΓ 2 rfl ?_
   refine gl_o rfl (Kgg hΓ (enc:=eS) (Kfz hx10) rfl rfl rfl rfl rfl (fun _=>rfl)) ?_
   obtain⟨x14,hx14,h15⟩:=Kfw hy11
   refine Kfn hΓ 3 rfl ?_
   refine gl_o rfl (Kgg hΓ (enc:=eS) hx14 rfl rfl rfl rfl rfl (fun _=>rfl)) ?_
   refine Kfn hΓ 4 rfl ?_
   refine Kfp rfl (fun hb=>?_) (fun hb=>?_)
   ·have h16:=cT h15 hb
    refine go hΓ 8 rfl ?_
    obtain⟨v17,hv17,h18⟩:=Kfw h16
    obtain rfl:=oSi h18
    obtain rfl:=hout12 _ rfl
    obtain rfl:=oSi h7
    refine go hΓ 4 rfl ?_
    obtain rfl:=oSi hv17
    exact Khi hΓ (.inr rfl) rfl rfl
   have h19:=cF h15 hb
   refine go hΓ 7 rfl ?_
   obtain rfl:=oSi h19
   exact⟨_,rfl,⟨⟨rfl,rfl,rfl,Kew rfl (Kev (nLl hlt hb9)),tV⟩,[],rfl,.inl rfl⟩⟩
  subst hgo
  refine go hΓ 6 rfl ?_
  refine Kfr rfl (decide_eq_false (Int.lt_irrefl _)) ?_
  refine go hΓ 4 rfl ?_
  exact⟨_,rfl,⟨tV,[],rfl,.inl rfl⟩⟩
 intro a8 ha
 subst ha
 replace h7:=Kjl h7
 refine go hΓ 7 rfl ?_
 obtain rfl:=oSi h7
 exact Khi hΓ (.inr rfl) rfl rfl
theorem Lhu{a:Lcb}{b:Lcb}{r:Bool}(h:Lgo a b=some r):Pure Tryz.prog 50 [.agg (fM a),.agg (fM b)] (B r):=by
 refine Pure.enter (Fr.of 0 _) Tryz.func50 rfl (Fr.of_ok _) rfl rfl ?_
 refine Kfo ?_
 unfold Lgo at h
 refine go hΓ 2 rfl ?_
 refine Ksq rfl rfl rfl rfl (nBe rfl) ?_
 refine Ksq rfl rfl rfl rfl (nBe rfl) ?_
 refine Kfm hΓ 11 rfl ?_
 refine Kfv 6 [(2,.ptr 0 0),(3,.ptr 1 0),(4,B false),(16,B (((a.Node:Str)==b.Node)&&((a.User:Str)==b.User)))] [.box 77 (fM a),.box 77 (fM b)] ?_ ?_
 ·refine Krj rfl rfl (fun hb=>?_) (fun hb=>?_)
  ·refine Kfm hΓ 7 rfl ?_
   exact⟨⟨rfl,rfl,rfl,Kex rfl (Kho hb),tV⟩,[],rfl,.inl rfl⟩
  refine Kfm hΓ 7 rfl ?_
  exact⟨⟨rfl,rfl,rfl,Kex rfl (Khp hb),tV⟩,[],rfl,.inl rfl⟩
 refine Kfm hΓ 1 rfl ?_
 refine Kfv 6 [(2,.ptr 0 0),(3,.ptr 1 0),(4,B false),(23,B ((((a.Node:Str)==b.Node)&&((a.User:Str)==b.User))&&((a.Name:Str)==b.Name)))] [.box 77 (fM a),.box 77 (fM b)] ?_ ?_
 ·refine Krj rfl rfl (fun hb=>?_) (fun hb=>?_)
  ·refine Kfm hΓ 7 rfl ?_
   exact⟨⟨rfl,rfl,rfl,Kex rfl (Kho hb),tV⟩,[],rfl,.inl rfl⟩
  refine Kfm hΓ 7 rfl ?_
  exact⟨⟨rfl,rfl,rfl,Kex rfl (Khp hb),tV⟩,[],rfl,.inl rfl⟩
 refine Kfm hΓ 1 rfl ?_
 refine Kfv 6 [(2,.ptr 0 0),(3,.ptr 1 0),(4,B false),(30,B (((((a.Node:Str)==b.Node)&&((a.User:Str)==b.User))&&((a.Name:Str)==b.Name))&&((a.Public:Str)==b.Public)))] [.box 77 (fM a),.box 77 (fM b)] ?_ ?_
 ·refine Krj rfl rfl (fun hb=>?_) (fun hb=>?_)
  ·refine Kfm hΓ 7 rfl ?_
   exact⟨⟨rfl,rfl,rfl,Kex rfl (Kho hb),tV⟩,[],rfl,.inl rfl⟩
  refine Kfm hΓ 7 rfl ?_
  exact⟨⟨rfl,rfl,rfl,Kex rfl (Khp hb),tV⟩,[],rfl,.inl rfl⟩
 refine Kfm hΓ 1 rfl ?_
 obtain⟨q1,hq1,h2⟩:=Kfw h
 refine Kfv 6 [(2,.ptr 0 0),(3,.ptr 1 0),(4,B false),(37,B q1)] [.box 77 (fM a),.box 77 (fM b)] ?_ ?_
 ·refine Krj rfl rfl (fun hb=>?_) (fun hb=>?_)
  ·have h3:=cT hq1 hb
   obtain⟨y4,hy4,h5⟩:=Kfw h3
   refine Kfm hΓ 4 rfl ?_
   refine Krh rfl ?_
   refine Kgx (Lml Tryz.func65 rfl rfl) (Lht hy4) rfl (nBe rfl) rfl rfl rfl rfl rfl ?_
   refine Kfm hΓ 2 rfl ?_
   obtain rfl:=oSi h5
   exact⟨⟨rfl,rfl,rfl,rfl,tV⟩,[],rfl,.inl rfl⟩
  have h6:=cF hq1 hb
  refine Kfm hΓ 7 rfl ?_
  obtain rfl:=oSi h6
  exact⟨⟨rfl,rfl,rfl,rfl,tV⟩,[],rfl,.inl rfl⟩
 refine Kfm hΓ 1 rfl ?_
 refine Kfv 6 [(2,.ptr 0 0),(3,.ptr 1 0),(4,B false),(44,B (q1&&((a.Joined:Int)==b.Joined)))] [.box 77 (fM a),.box 77 (fM b)] ?_ ?_
 ·refine Krj rfl rfl (fun hb=>?_) (fun hb=>?_)
  ·refine Kfm hΓ 7 rfl ?_
   exact⟨⟨rfl,rfl,rfl,Kex rfl (Kho hb),tV⟩,[],rfl,.inl rfl⟩
  refine Kfm hΓ 7 rfl ?_
  exact⟨⟨rfl,rfl,rfl,Kex rfl (Khp hb),tV⟩,[],rfl,.inl rfl⟩
 refine Kfm hΓ 1 rfl ?_
 refine Kfv 6 [(2,.ptr 0 0),(3,.ptr 1 0),(4,B false),(51,B ((q1&&((a.Joined:Int)==b.Joined))&&((a.Expires:Int)==b.Expires)))] [.box 77 (fM a),.box 77 (fM b)] ?_ ?_
 ·refine Krj rfl rfl (fun hb=>?_) (fun hb=>?_)
  ·refine Kfm hΓ 7 rfl ?_
   exact⟨⟨rfl,rfl,rfl,Kex rfl (Kho hb),tV⟩,[],rfl,.inl rfl⟩
  refine Kfm hΓ 7 rfl ?_
  exact⟨⟨rfl,rfl,rfl,Kex rfl (Khp hb),tV⟩,[],rfl,.inl rfl⟩
 refine Kfm hΓ 1 rfl ?_
 refine Kfv 6 [(4,B false),(58,B (((q1&&((a.Joined:Int)==b.Joined))&&((a.Expires:Int)==b.Expires))&&((a.Approved:Bool)==b.Approved)))] [.box 77 (fM a),.box 77 (fM b)] ?_ ?_
 ·refine Krj rfl rfl (fun hb=>?_) (fun hb=>?_)
  ·refine Kfm hΓ 7 rfl ?_
   exact⟨⟨rfl,Kex rfl (Kho hb),tV⟩,[],rfl,.inl rfl⟩
  refine Kfm hΓ 7 rfl ?_
  exact⟨⟨rfl,Kex rfl (Khp hb),tV⟩,[],rfl,.inl rfl⟩
 refine Kfm hΓ 4 rfl ?_
 obtain rfl:=oSi h2
 exact Khi hΓ (.inr rfl) rfl rfl
theorem Lhv{s1:List Lcb}{s2:List Lcb}{r:Bool}(h:Lgp s1 s2=some r):Pure Tryz.prog 48 [.d (Sl Lio s1),.d (Sl Lio s2),.fn (.func 50) [] []] (B r):=by
 refine Pure.enter (Fr.of 0 _) Tryz.func48 rfl (Fr.of_ok _) rfl rfl ?_
 refine Kfo ?_
 unfold Lgp at h
 refine go hΓ 15 rfl ?_
 refine Kfp rfl (fun hb=>?_) (fun hb=>?_)
 ·have h1:=cT h hb
  refine go hΓ 7 rfl ?_
  obtain rfl:=oSi h1
  exact Khi hΓ (.inr rfl) rfl rfl
 have h2:=cF h hb
 refine go hΓ 10 rfl ?_
 obtain⟨q6,hq6,h7⟩:=Kfw h2
 refine Kgf 15 rfl fun hb9=>?_
 refine Kjq (R:=fun a8=>q6=.go a8) (fun a8=>[]) (fun a8=>[]) ?_ ?_
 ·refine go hΓ 1 rfl ?_
  refine Kge s1 hq6 (fun i3 s4=>[(1,.d (Sl Lio s2)),(2,.fn (.func 50) [] []),(15,.d (Sl Lio s1)),(16,I (s1.length:Int)),(17,I (i3:Int))]) (fun s4=>[]) ⟨⟨rfl,rfl,rfl,rfl,rfl,tV⟩,[],rfl,.inl rfl⟩ (fun i3 x5 s4 y13 hx10 hlt hy11 hout12=>?_) (fun s4 hgo=>?_)
  ·refine go hΓ 6 rfl ?_
   refine Kfq rfl (decide_eq_true (Int.ofNat_lt.2 hlt)) ?_
   refine go hΓ 7 rfl ?_
   refine eo_o rfl (Kgg hΓ (enc:=Lio) (Kfz hx10) rfl rfl rfl rfl rfl (fun _=>rfl)) ?_
   refine Kfm hΓ 1 rfl ?_
   refine Ksp hΓ rfl rfl rfl (nBe rfl) ?_
   refine Kfm hΓ 1 rfl ?_
   refine Ksu hΓ rfl rfl rfl rfl rfl rfl rfl rfl (nBe rfl) ?_
   refine Khe [.box 77 (fM x5)] rfl ?_
   obtain⟨x14,hx14,h15⟩:=Kfw hy11
   refine Kfm hΓ 6 rfl ?_
   refine eo_o rfl (Kgg hΓ (enc:=Lio) hx14 rfl rfl rfl rfl rfl (fun _=>rfl)) ?_
   refine Kfm hΓ 1 rfl ?_
   refine Ksp hΓ rfl rfl rfl (nBe rfl) ?_
   refine Ksu hΓ rfl rfl rfl rfl rfl rfl rfl rfl (nBe rfl) ?_
   refine Khe [.box 77 (fM x5),.box 77 (fM x14)] rfl ?_
   obtain⟨y16,hy16,h17⟩:=Kfw h15
   refine Kfm hΓ 7 rfl ?_
   refine Kgx (Lml Tryz.func50 rfl rfl) (Lhu hy16) rfl (nBe rfl) rfl rfl rfl rfl rfl ?_
   refine Kfm hΓ 3 rfl ?_
   refine Kfp rfl (fun hb=>?_) (fun hb=>?_)
   ·have h18:=cT h17 hb
    refine go hΓ 8 rfl ?_
    obtain⟨v19,hv19,h20⟩:=Kfw h18
    obtain rfl:=oSi h20
    obtain rfl:=hout12 _ rfl
    obtain rfl:=oSi h7
    refine go hΓ 4 rfl ?_
    obtain rfl:=oSi hv19
    exact Khi hΓ (.inr rfl) rfl rfl
   have h21:=cF h17 hb
   refine go hΓ 7 rfl ?_
   obtain rfl:=oSi h21
   exact⟨_,rfl,⟨⟨rfl,rfl,rfl,rfl,Kew rfl (Kev (nLl hlt hb9)),tV⟩,[_,_],rfl,.inr ⟨HB.mk rfl,FB.mk rfl,(nBe rfl)⟩⟩⟩
  subst hgo
  refine go hΓ 6 rfl ?_
  refine Kfr rfl (decide_eq_false (Int.lt_irrefl _)) ?_
  refine go hΓ 4 rfl ?_
  exact⟨_,rfl,⟨tV,[],rfl,.inl rfl⟩⟩
 intro a8 ha
 subst ha
 replace h7:=Kjl h7
 refine go hΓ 7 rfl ?_
 obtain rfl:=oSi h7
 exact Khi hΓ (.inr rfl) rfl rfl
theorem Lhw{a:Lce}{b:Lce}{r:Int}(h:Lgq a b=some r):Pure Tryz.prog 149 [.agg [S a.Key,S a.By,.d (Sl eS a.Tags),I a.Until,I a.Left,B a.Ready],.agg [S b.Key,S b.By,.d (Sl eS b.Tags),I b.Until,I b.Left,B b.Ready]] (I r):=by
 refine Pure.enter (Fr.of 0 _) Tryz.func149 rfl (Fr.of_ok _) rfl rfl ?_
 refine Kfo ?_
 unfold Lgq at h
 refine go hΓ 2 rfl ?_
 refine Ksq rfl rfl rfl rfl (nBe rfl) ?_
 refine Ksq rfl rfl rfl rfl (nBe rfl) ?_
 obtain⟨y1,hy1,h2⟩:=Kfw h
 refine Kfm hΓ 9 rfl ?_
 refine Kgx (Lml Tryz.func147 rfl rfl) (Lbm hy1) rfl (nBe rfl) rfl rfl rfl rfl rfl ?_
 refine Kfm hΓ 4 rfl ?_
 obtain rfl:=oSi h2
 exact Khi hΓ (.inr rfl) rfl rfl
theorem Lhx{k:Nat}{data:List Lce}{a:Int}{b:Int}{r:List Lce}(h:Lgr k data a b=some r):EC Tryz.prog 317 [.sl 0 data.length,I a,I b,.fn (.func 149) [] []] [rO 90 6 Liq data] fun g hp'=>g=.tup []∧hp'=[rO 90 6 Liq r]:=by
 refine Krb (Fr.of 0 _) Tryz.func317 rfl (Fr.of_ok _) (nBe rfl) fun _=>?_
 refine Kfo ?_
 unfold Lgr at h
 refine go hΓ 7 rfl ?_
 obtain⟨q4,hq4,h5⟩:=Kfw h
 refine Kjr [] [rO 90 6 Liq q4] ?_ ?_
 ·refine go hΓ 1 rfl ?_
  refine Kgc hq4 (fun s2=>[(0,.sl 0 s2.1.length),(1,I a),(2,I b),(3,.fn (.func 149) [] []),(8,I s2.2)]) (fun s2=>[rO 90 6 Liq s2.1]) ⟨⟨rfl,rfl,rfl,rfl,rfl,tV⟩,[],rfl,.inl rfl⟩ (fun s2 y10 hy8 hout9=>?_)
  refine go hΓ 8 rfl ?_
  refine Kfp rfl (fun hb=>?_) (fun hb=>?_)
  ·have h11:=cT hy8 hb
   refine go hΓ 10 rfl ?_
   obtain⟨q15,hq15,h16⟩:=Kfw h11
   refine Kjr [(0,.sl 0 q15.length),(1,I a),(2,I b),(3,.fn (.func 149) [] []),(8,I s2.2)] [rO 90 6 Liq q15] ?_ ?_
   ·refine go hΓ 1 rfl ?_
    refine Kgc hq15 (fun s13=>[(0,.sl 0 s13.1.length),(1,I a),(2,I b),(3,.fn (.func 149) [] []),(8,I s2.2),(9,I s13.2)]) (fun s13=>[rO 90 6 Liq s13.1]) ⟨⟨rfl,rfl,rfl,rfl,rfl,rfl,tV⟩,[],rfl,.inl rfl⟩ (fun s13 y21 hy19 hout20=>?_)
    obtain⟨q22,hq22,h23⟩:=Kfw hy19
    refine go hΓ 2 rfl ?_
    refine Kjr [(0,.sl 0 s13.1.length),(1,I a),(2,I b),(3,.fn (.func 149) [] []),(8,I s2.2),(9,I s13.2),(34,B q22)] [rO 90 6 Liq s13.1] ?_ ?_
    ·refine Kfs hmix (by kernel_rfl) ?_
     refine go hΓ 4 rfl ?_
     refine Kee rfl rfl (fun hb=>?_) (fun hb=>?_)
     ·have h24:=cT hq22 hb
      obtain⟨x25,hx25,h26⟩:=Kfw h24
      have hj27:=Khn hx25
      refine Kfn hΓ 3 rfl ?_
      refine Kez rfl rfl (Kgi hΓ hx25 rfl rfl rfl rfl rfl rfl) ?_
      refine Kez rfl rfl (Kgo hΓ (enc:=Liq) s13.2.toNat 0 hj27 rfl rfl rfl rfl (fun _=>rfl) (g:=.agg [S x25.Key,S x25.By,.d (Sl eS x25.Tags),I x25.Until,I x25.Left,B x25.Ready]) rfl) ?_
      obtain⟨x28,hx28,h29⟩:=Kfw h26
      have hj30:=Khn hx28
      refine Kfn hΓ 3 rfl ?_
      refine Kez rfl rfl (Kgi hΓ hx28 rfl rfl rfl rfl rfl rfl) ?_
      refine Kez rfl rfl (Kgo hΓ (enc:=Liq) ((wi (s13.2 - 1)).toNat) 0 hj30 rfl rfl rfl rfl (fun _=>rfl) (g:=.agg [S x28.Key,S x28.By,.d (Sl eS x28.Tags),I x28.Until,I x28.Left,B x28.Ready]) rfl) ?_
      obtain⟨y31,hy31,h32⟩:=Kfw h29
      refine Kgz (Lml Tryz.func149 rfl rfl) (Lhw hy31) rfl rfl rfl rfl rfl rfl rfl ?_
      refine Kfn hΓ 3 rfl ?_
      obtain rfl:=oSi h32
      exact⟨⟨rfl,rfl,rfl,rfl,rfl,rfl,rfl,tV⟩,[],rfl,.inl rfl⟩
     have h33:=cF hq22 hb
     refine Kfn hΓ 14 rfl ?_
     obtain rfl:=oSi h33
     exact⟨⟨rfl,rfl,rfl,rfl,rfl,rfl,rfl,tV⟩,[],rfl,.inl rfl⟩
    refine go hΓ 1 rfl ?_
    refine Kfp rfl (fun hb=>?_) (fun hb=>?_)
    ·have h34:=cT h23 hb
     refine go hΓ 4 rfl ?_
     refine Kir [rO 90 6 Liq s13.1] [9,13] [15,17] [15,17] hmix (by kernel_rfl) (by kernel_rfl) ⟨rfl,tV⟩ (nBe rfl) ?_
     obtain⟨x35,hx35,h36⟩:=Kfw h34
     have hj37:=Khn hx35
     refine go_E hΓ 8 rfl ?_
     refine ge_q rfl (.inl rfl) (fun _ _=>Kiu (qt_p (Kgi hΓ hx35 rfl rfl rfl rfl rfl rfl))) ?_
     refine ge_p rfl (fun hp hs=>Kgo hΓ (enc:=Liq) ((wi (s13.2 - 1)).toNat) 0 hj37 rfl rfl rfl (hs 0 _ rfl rfl) (fun _=>rfl) (g:=.agg [S x35.Key,S x35.By,.d (Sl eS x35.Tags),I x35.Until,I x35.Left,B x35.Ready]) rfl) rfl ?_
     obtain⟨x38,hx38,h39⟩:=Kfw h36
     have hj40:=Khn hx38
     refine go_E hΓ 2 rfl ?_
     refine ge_q rfl (.inl rfl) (fun _ _=>Kiu (qt_p (Kgi hΓ hx38 rfl rfl rfl rfl rfl rfl))) ?_
     refine ge_p rfl (fun hp hs=>Kgo hΓ (enc:=Liq) s13.2.toNat 0 hj40 rfl rfl rfl (hs 0 _ rfl rfl) (fun _=>rfl) (g:=.agg [S x38.Key,S x38.By,.d (Sl eS x38.Tags),I x38.Until,I x38.Left,B x38.Ready]) rfl) rfl ?_
     obtain⟨x41,hx41,h42⟩:=Kfw h39
     have hj43:=Khn hx41
     refine ge_q rfl (.inl rfl) (fun _ _=>Kiu (qt_p (Kgi hΓ hx41 rfl rfl rfl rfl rfl rfl))) ?_
     refine Kiw [rO 90 6 Liq (s13.1.set s13.2.toNat x35)] rfl rfl (Kix rfl) (Kjc (Kjx hΓ (enc:=Liq) (z':=x35) s13.2.toNat (by have:=(gEs.1 hj43).1;simpa using this) rfl rfl rfl rfl (fun _=>rfl) rfl rfl rfl rfl rfl)) ?_
     obtain⟨x44,hx44,h45⟩:=Kfw h42
     have hj46:=Khn hx44
     refine ge_q rfl (.inl rfl) (fun _ _=>Kiu (qt_p (Kgi hΓ hx44 rfl rfl rfl rfl rfl rfl))) ?_
     obtain⟨x47,hx47,h48⟩:=Kfw h45
     have hj49:(s13.1.set s13.2.toNat x35)[(wi (s13.2 - 1)).toNat]?=some x47:=hx47
     refine Kiw [rO 90 6 Liq ((s13.1.set s13.2.toNat x35).set ((wi (s13.2 - 1)).toNat) x38)] rfl rfl (Kix rfl) (Kjc (Kjx hΓ (enc:=Liq) (z':=x38) ((wi (s13.2 - 1)).toNat) (by have:=(gEs.1 hj49).1;simpa using this) rfl rfl rfl rfl (fun _=>rfl) rfl rfl rfl rfl rfl)) ?_
     refine Kit ?_
     refine go hΓ 2 rfl ?_
     refine Kjy 0 (n':=((s13.1.set s13.2.toNat x35).set ((wi (s13.2 - 1)).toNat) x38).length) rfl (by simp) ?_
     refine Kjy 37 (n':=((s13.1.set s13.2.toNat x35).set ((wi (s13.2 - 1)).toNat) x38).length) rfl (by simp) ?_
     refine Kjy 39 (n':=((s13.1.set s13.2.toNat x35).set ((wi (s13.2 - 1)).toNat) x38).length) rfl (by simp) ?_
     refine Kjy 42 (n':=((s13.1.set s13.2.toNat x35).set ((wi (s13.2 - 1)).toNat) x38).length) rfl (by simp) ?_
     refine Kjy 47 (n':=((s13.1.set s13.2.toNat x35).set ((wi (s13.2 - 1)).toNat) x38).length) rfl (by simp) ?_
     refine go hΓ 5 rfl ?_
     obtain rfl:=oSi h48
     exact⟨_,rfl,⟨⟨rfl,rfl,rfl,rfl,rfl,rfl,tV⟩,[],rfl,.inl rfl⟩⟩
    have h50:=cF h23 hb
    refine go hΓ 4 rfl ?_
    obtain rfl:=oSi h50
    obtain rfl:=hout20 _ rfl
    exact⟨⟨rfl,rfl,rfl,rfl,rfl,tV⟩,[],rfl,.inl rfl⟩
   refine go hΓ 7 rfl ?_
   obtain rfl:=oSi h16
   exact⟨_,rfl,⟨⟨rfl,rfl,rfl,rfl,rfl,tV⟩,[],rfl,.inl rfl⟩⟩
  have h51:=cF hy8 hb
  refine go hΓ 4 rfl ?_
  obtain rfl:=oSi h51
  obtain rfl:=hout9 _ rfl
  exact⟨tV,[],rfl,.inl rfl⟩
 obtain rfl:=oSi h5
 exact Khj hΓ [] (.inl rfl) rfl rfl rfl rfl (.inl rfl)
theorem Lhy{k:Nat}{data:List Lce}{a:Int}{b:Int}{limit:Int}{r:List Lce}(h:Lgs k data a b limit=some r):EC Tryz.prog 236 [.sl 0 data.length,I a,I b,I limit,.fn (.func 149) [] []] [rO 90 6 Liq data] fun g hp'=>g=.tup []∧hp'=[rO 90 6 Liq r]:=by
 refine Krb (Fr.of 0 _) Tryz.func236 rfl (Fr.of_ok _) (nBe rfl) fun _=>?_
 refine Kfo ?_
 unfold Lgs at h
 refine go hΓ 10 rfl ?_
 obtain⟨q4,hq4,h5⟩:=Kfw h
 refine go hΓ 1 rfl ?_
 refine Kgc hq4 (fun s2=>[(0,.sl 0 data.length),(1,I a),(2,I b),(3,I limit),(4,.fn (.func 149) [] []),(10,B true),(11,B true)]) (fun s2=>[rO 90 6 Liq data]) ⟨⟨rfl,rfl,rfl,rfl,rfl,rfl,rfl,tV⟩,[],rfl,.inl rfl⟩ (fun s2 y10 hy8 hout9=>?_)
 refine go hΓ 16 rfl ?_
 refine Kfp rfl (fun hb=>?_) (fun hb=>?_)
 ·have h11:=cT hy8 hb
  obtain⟨y12,hy12,h13⟩:=Kfw h11
  refine go hΓ 6 rfl ?_
  refine Kgw [0] (.tup []) [rO 90 6 Liq y12] (Lml Tryz.func317 rfl rfl) (Lhx hy12) rfl (nBe rfl) rfl rfl rfl rfl rfl rfl rfl rfl rfl rfl ?_
  refine Kfm hΓ 5 rfl ?_
  obtain⟨v14,hv14,h15⟩:=Kfw h13
  obtain rfl:=oSi h15
  obtain rfl:=hout9 _ rfl
  obtain rfl:=oSi h5
  refine go hΓ 2 rfl ?_
  obtain rfl:=oSi hv14
  exact Khj hΓ [] (.inr rfl) rfl rfl rfl rfl (.inl rfl)
 have h16:=cF hy8 hb
 refine go hΓ 9 rfl ?_
 refine Kfp rfl (fun hb=>?_) (fun hb=>?_)
 ·have h17:=cT h16 hb
  refine go hΓ 6 rfl ?_
  cases h17
 have h18:=cF h16 hb
 refine go hΓ 18 rfl ?_
 cases h18
theorem Lhz{k:Nat}{x:List Lce}{r:List Lce}(h:Lgt k x=some r):EC Tryz.prog 148 [.sl 0 x.length,.fn (.func 149) [] []] [rO 90 6 Liq x] fun g hp'=>g=.tup []∧hp'=[rO 90 6 Liq r]:=by
 refine Krb (Fr.of 0 _) Tryz.func148 rfl (Fr.of_ok _) (nBe rfl) fun _=>?_
 refine Kfo ?_
 unfold Lgt at h
 obtain⟨y1,hy1,h2⟩:=Kfw h
 refine go hΓ 12 rfl ?_
 refine Kgx (Lml Tryz.func215 rfl rfl) (Lhn hy1) rfl (nBe rfl) rfl rfl rfl rfl rfl ?_
 obtain⟨y3,hy3,h4⟩:=Kfw h2
 refine Kfm hΓ 1 rfl ?_
 refine Kgw [0] (.tup []) [rO 90 6 Liq y3] (Lml Tryz.func236 rfl rfl) (Lhy hy3) rfl (nBe rfl) rfl rfl rfl rfl rfl rfl rfl rfl rfl rfl ?_
 refine Kfm hΓ 1 rfl ?_
 obtain rfl:=oSi h4
 exact Khj hΓ [] (.inl rfl) rfl rfl rfl rfl (.inl rfl)
theorem Lia{k:Nat}{d:Lbx}{l:List Lby}{v_at:Int}{al:BagT}{r:(List Lce)×BagT}(h:Lgu k d l v_at al=some r):EC Tryz.prog 52 [.agg (fD d),.d (Sl Lil l),I v_at] [bg al] fun g hp'=>g=.sl 1 r.1.length∧hp'=[bg r.2,rO 90 6 Liq r.1]:=by
 refine Klr (Fr.of 0 _) Tryz.func52 rfl (Fr.of_ok _) (nBe rfl) fun _=>?_
 refine Kfo ?_
 unfold Lgu at h
 refine go hΓ 2 rfl ?_
 refine Ksq rfl rfl rfl rfl (nBe rfl) ?_
 obtain⟨y1,hy1,h2⟩:=Kfw h
 refine Kfm hΓ 8 rfl ?_
 refine Kgw [0] (.tup [.ptr 6 0,.sl 7 y1.2.1.length]) [bg y1.2.2,.box 29 (fD d),mObH y1.1.keys,mObH y1.1.nodes,mObB y1.1.ever,mObV y1.1.History,.box 220 [.d (Sl eS y1.1.d.Users),.d (Sl Lij y1.1.d.Owners),I y1.1.d.Life,B y1.1.d.Approve,.map 2,.map 3,.map 4,.map 5],rO 48 2 Lis y1.2.1] (Lml Tryz.func94 rfl rfl) (Lhl hy1) rfl (nBe rfl) rfl rfl rfl rfl rfl rfl rfl rfl rfl rfl ?_
 refine Khc 7 [17] _ [bg y1.2.2,.box 29 (fD d),mObH y1.1.keys,mObH y1.1.nodes,mObB y1.1.ever,mObV y1.1.History,.box 220 [.d (Sl eS y1.1.d.Users),.d (Sl Lij y1.1.d.Owners),I y1.1.d.Life,B y1.1.d.Approve,.map 2,.map 3,.map 4,.map 5],.dead] rfl rfl rfl (nBe rfl) ?_
 refine Kfm hΓ 9 rfl ?_
 refine Kgu (t:=0) 90 6 rfl (nBe rfl) ?_
 refine Kfm hΓ 9 rfl ?_
 refine Klg hΓ (kv:=kS) (agg:=false) (enc:=(eH (some 0))) y1.1.keys rfl rfl rfl rfl rfl (nBe rfl) (fun mr3 bs4 cl5 hpm6 hbl7 hbn8=>?_)
 refine Khe [bg y1.2.2,.box 29 (fD d),mObS kS false (eH (some 0)) y1.1.keys (rawM kS (eH (some 0)) mr3 bs4 cl5),mObH y1.1.nodes,mObB y1.1.ever,mObV y1.1.History,.box 220 [.d (Sl eS y1.1.d.Users),.d (Sl Lij y1.1.d.Owners),I y1.1.d.Life,B y1.1.d.Approve,.map 2,.map 3,.map 4,.map 5],.dead,rO 90 6 Liq ([]:List Lce),.iter 2 cl5 []] rfl ?_
 refine Kfm hΓ 2 rfl ?_
 refine go hΓ 1 rfl ?_
 refine Knl (Kpx h2) hpm6 hbl7 hbn8 (fun s9=>[(2,I v_at),(9,.sl 8 s9.length),(24,.ptr 9 0)]) (fun sn11 s9=>[bg y1.2.2,.box 29 (fD d),mObS kS false (eH (some 0)) y1.1.keys (rawM kS (eH (some 0)) mr3 bs4 cl5),mObH y1.1.nodes,mObB y1.1.ever,mObV y1.1.History,.box 220 [.d (Sl eS y1.1.d.Users),.d (Sl Lij y1.1.d.Owners),I y1.1.d.Life,B y1.1.d.Approve,.map 2,.map 3,.map 4,.map 5],.dead,rO 90 6 Liq s9,.iter 2 cl5 sn11]) ⟨⟨rfl,rfl,rfl,tV⟩,[],rfl,.inl rfl⟩ (fun sn11 s9 hdone14 hstep15=>?_)
 refine go hΓ 2 rfl ?_
 refine Klh (kv:=kS) (agg:=false) (enc:=(eH (some 0))) y1.1.keys mr3 bs4 cl5 sn11 [bg y1.2.2,.box 29 (fD d),mObH y1.1.keys,mObH y1.1.nodes,mObB y1.1.ever,mObV y1.1.History,.box 220 [.d (Sl eS y1.1.d.Users),.d (Sl Lij y1.1.d.Owners),I y1.1.d.Life,B y1.1.d.Approve,.map 2,.map 3,.map 4,.map 5],.dead,rO 90 6 Liq s9,.dead] rfl rfl rfl rfl rfl (nBe rfl) (fun hdsn11=>?_) (fun j12 x10 b13 hjsn11 hbsn11 hnsn11=>?_)
 ·have h16:=hdone14 hdsn11
  obtain⟨y17,hy17,h18⟩:=Kfw h16
  refine Kfm hΓ 13 rfl ?_
  refine Kgw [8] (.tup []) [bg y1.2.2,.box 29 (fD d),mObH y1.1.keys,mObH y1.1.nodes,mObB y1.1.ever,mObV y1.1.History,.box 220 [.d (Sl eS y1.1.d.Users),.d (Sl Lij y1.1.d.Owners),I y1.1.d.Life,B y1.1.d.Approve,.map 2,.map 3,.map 4,.map 5],.dead,rO 90 6 Liq y17,.dead] (Lml Tryz.func148 rfl rfl) (Lhz hy17) rfl (nBe rfl) rfl rfl rfl rfl rfl rfl rfl rfl rfl rfl ?_
  obtain⟨hg20,h19⟩:=Kfx h18
  refine Kju 9 rfl (of_decide_eq_true hg20).symm ?_
  refine Kfm hΓ 9 rfl ?_
  refine Klm 1 [bg y1.2.2,.dead,mObH y1.1.keys,mObH y1.1.nodes,mObB y1.1.ever,mObV y1.1.History,.box 220 [.d (Sl eS y1.1.d.Users),.d (Sl Lij y1.1.d.Owners),I y1.1.d.Life,B y1.1.d.Approve,.map 2,.map 3,.map 4,.map 5],.dead,rO 90 6 Liq y17,.dead] rfl (nBe rfl) ?_
  refine Kjp 8 1 [bg y1.2.2,rO 90 6 Liq y17,mObH y1.1.keys,mObH y1.1.nodes,mObB y1.1.ever,mObV y1.1.History,.box 220 [.d (Sl eS y1.1.d.Users),.d (Sl Lij y1.1.d.Owners),I y1.1.d.Life,B y1.1.d.Approve,.map 2,.map 3,.map 4,.map 5],.dead,.dead,.dead] rfl rfl rfl rfl rfl rfl ?_
  refine Kjn ?_
  obtain rfl:=oSi h19
  exact Khj hΓ [_,_,_,_,_,_,_,_] (.inr rfl) rfl rfl rfl rfl (.inr ⟨HB.mk rfl,rfl⟩)
 obtain⟨s21,h22⟩:=hstep15 j12 x10 b13 hjsn11 hbsn11 hnsn11
 have hssn11:=h22
 refine Kfm hΓ 10 rfl ?_
 refine eo_o rfl (Kli (kv:=kS) (agg:=false) (enc:=(eH (some 0))) y1.1.keys mr3 bs4 cl5 sn11 hjsn11 hbsn11 rfl rfl rfl rfl (fun _=>rfl)) ?_
 obtain⟨hg24,h23⟩:=Kfx h22
 refine Kfm hΓ 7 rfl ?_
 refine eo_o rfl (Kos hg24 rfl) ?_
 refine eo_o rfl (Kot hΓ hg24 rfl rfl rfl rfl rfl rfl) ?_
 obtain⟨m25,hm25,h26⟩:=Kfw h23
 refine eo_o rfl (Kou hΓ (enc:=Liu) (bg:=0) m25 rfl rfl (ArU.r _ (ArU.r _ (ArU.r _ (ArU.l _ (Kmy (fun _ _=>rfl) hm25 m25))))) rfl (g:=.agg [S m25.Join.Key,S m25.Join.By,.d (Sl eS m25.Join.Tags),I m25.Join.Until,I m25.Join.Left,B m25.Join.Ready]) rfl rfl) ?_
 refine Ksp hΓ rfl rfl rfl (nBe rfl) ?_
 refine Ksu hΓ rfl rfl rfl rfl rfl rfl rfl rfl (nBe rfl) ?_
 refine Khe [bg y1.2.2,.box 29 (fD d),mObS kS false (eH (some 0)) y1.1.keys (rawM kS (eH (some 0)) mr3 bs4 cl5),mObH y1.1.nodes,mObB y1.1.ever,mObV y1.1.History,.box 220 [.d (Sl eS y1.1.d.Users),.d (Sl Lij y1.1.d.Owners),I y1.1.d.Life,B y1.1.d.Approve,.map 2,.map 3,.map 4,.map 5],.dead,rO 90 6 Liq s9,.iter 2 cl5 (sn11++[b13]),.box 90 [S m25.Join.Key,S m25.Join.By,.d (Sl eS m25.Join.Tags),I m25.Join.Until,I m25.Join.Left,B m25.Join.Ready]] rfl ?_
 refine Kfm hΓ 3 rfl ?_
 refine Kir [bg y1.2.2,.dead,.dead,.dead,.dead,.dead,.dead,.dead,.dead,.dead,.box 90 [S m25.Join.Key,S m25.Join.By,.d (Sl eS m25.Join.Tags),I m25.Join.Until,I m25.Join.Left,B m25.Join.Ready]] [1,5] [8] [8] hmix (by kernel_rfl) (by kernel_rfl) ⟨rfl,rfl,tV⟩ (nBe rfl) ?_
 obtain⟨hg28,h27⟩:=Kfx h26
 refine go_E hΓ 3 rfl ?_
 refine ge_q rfl (.inl rfl) (fun _ _=>Kiu (qt_p (Kos hg28 rfl))) ?_
 refine ge_q rfl (.inl rfl) (fun _ _=>Kiu (qt_p (Kot hΓ hg28 rfl rfl rfl rfl rfl rfl))) ?_
 obtain⟨m29,hm29,h30⟩:=Kfw h27
 refine ge_p rfl (fun hp hs=>Kou hΓ (enc:=Liu) (bg:=0) m29 rfl (hs 0 _ rfl rfl) (ArU.r _ (ArU.r _ (ArU.r _ (ArU.l _ (Kmy (fun _ _=>rfl) hm29 m29))))) rfl (g:=I m29.used) rfl rfl) rfl ?_
 refine go_E hΓ 2 rfl ?_
 refine Kiw [bg y1.2.2,.box 29 (fD d),mObS kS false (eH (some 0)) y1.1.keys (rawM kS (eH (some 0)) mr3 bs4 cl5),mObH y1.1.nodes,mObB y1.1.ever,mObV y1.1.History,.box 220 [.d (Sl eS y1.1.d.Users),.d (Sl Lij y1.1.d.Owners),I y1.1.d.Life,B y1.1.d.Approve,.map 2,.map 3,.map 4,.map 5],.dead,rO 90 6 Liq s9,.iter 2 cl5 (sn11++[b13]),.box 90 [S m25.Join.Key,S m25.Join.By,.d (Sl eS m25.Join.Tags),I m25.Join.Until,I (wi (m25.Join.Left - m29.used)),B m25.Join.Ready]] rfl rfl (Kix rfl) (Kjc (Kjv hΓ rfl rfl rfl rfl rfl rfl rfl rfl rfl)) ?_
 refine Kit ?_
 obtain⟨hg32,h31⟩:=Kfx h30
 refine go hΓ 5 rfl ?_
 refine eo_o rfl (Kos hg32 rfl) ?_
 refine eo_o rfl (Kot hΓ hg32 rfl rfl rfl rfl rfl rfl) ?_
 obtain⟨m33,hm33,h34⟩:=Kfw h31
 refine eo_o rfl (Kou hΓ (enc:=Liu) (bg:=0) m33 rfl rfl (ArU.r _ (ArU.r _ (ArU.r _ (ArU.l _ (Kmy (fun _ _=>rfl) hm33 m33))))) rfl (g:=B m33.revoked) rfl rfl) ?_
 refine Kfm hΓ 1 rfl ?_
 obtain⟨q35,hq35,h36⟩:=Kfw h34
 refine Kfv 8 [(2,I v_at),(9,.sl 8 s9.length),(12,.ptr 10 0),(24,.ptr 9 0),(53,B q35)] [bg y1.2.2,.box 29 (fD d),mObS kS false (eH (some 0)) y1.1.keys (rawM kS (eH (some 0)) mr3 bs4 cl5),mObH y1.1.nodes,mObB y1.1.ever,mObV y1.1.History,.box 220 [.d (Sl eS y1.1.d.Users),.d (Sl Lij y1.1.d.Owners),I y1.1.d.Life,B y1.1.d.Approve,.map 2,.map 3,.map 4,.map 5],.dead,rO 90 6 Liq s9,.iter 2 cl5 (sn11++[b13]),.box 90 [S m25.Join.Key,S m25.Join.By,.d (Sl eS m25.Join.Tags),I m25.Join.Until,I (wi (m25.Join.Left - m29.used)),B m25.Join.Ready]] ?_ ?_
 ·refine Krj rfl rfl (fun hb=>?_) (fun hb=>?_)
  ·have h37:=cT hq35 hb
   refine Kfm hΓ 9 rfl ?_
   obtain rfl:=oSi h37
   exact⟨⟨rfl,rfl,rfl,rfl,rfl,tV⟩,[],rfl,.inl rfl⟩
  have h38:=cF hq35 hb
  obtain⟨hg40,h39⟩:=Kfx h38
  refine Kfm hΓ 2 rfl ?_
  refine Krh rfl ?_
  refine eo_o rfl (Kos hg40 rfl) ?_
  refine Krh rfl ?_
  refine eo_o rfl (Kot hΓ hg40 rfl rfl rfl rfl rfl rfl) ?_
  refine Krh rfl ?_
  refine eo_o rfl (Kot hΓ hg40 rfl rfl rfl rfl rfl rfl) ?_
  obtain⟨m41,hm41,h42⟩:=Kfw h39
  refine Krh rfl ?_
  refine eo_o rfl (Kou hΓ (enc:=Liu) (bg:=0) m41 rfl rfl (ArU.r _ (ArU.r _ (ArU.r _ (ArU.l _ (Kmy (fun _ _=>rfl) hm41 m41))))) rfl (g:=I m41.Join.Until) rfl rfl) ?_
  refine Kfm hΓ 3 rfl ?_
  obtain rfl:=oSi h42
  exact⟨⟨rfl,rfl,rfl,rfl,rfl,tV⟩,[],rfl,.inl rfl⟩
 obtain⟨q43,hq43,h44⟩:=Kfw h36
 refine Kfm hΓ 2 rfl ?_
 refine Kjr [(2,I v_at),(9,.sl 8 s9.length),(12,.ptr 10 0),(24,.ptr 9 0)] [bg y1.2.2,.box 29 (fD d),mObS kS false (eH (some 0)) y1.1.keys (rawM kS (eH (some 0)) mr3 bs4 cl5),mObH y1.1.nodes,mObB y1.1.ever,mObV y1.1.History,.box 220 [.d (Sl eS y1.1.d.Users),.d (Sl Lij y1.1.d.Owners),I y1.1.d.Life,B y1.1.d.Approve,.map 2,.map 3,.map 4,.map 5],.dead,rO 90 6 Liq s9,.iter 2 cl5 (sn11++[b13]),.box 90 [S m25.Join.Key,S m25.Join.By,.d (Sl eS m25.Join.Tags),I m25.Join.Until,I q43,B m25.Join.Ready]] ?_ ?_
 ·refine Kfp rfl (fun hb=>?_) (fun hb=>?_)
  ·have h45:=cT hq43 hb
   refine go hΓ 2 rfl ?_
   refine Ksu hΓ rfl rfl rfl rfl rfl rfl rfl rfl (nBe rfl) ?_
   refine Khe [bg y1.2.2,.box 29 (fD d),mObS kS false (eH (some 0)) y1.1.keys (rawM kS (eH (some 0)) mr3 bs4 cl5),mObH y1.1.nodes,mObB y1.1.ever,mObV y1.1.History,.box 220 [.d (Sl eS y1.1.d.Users),.d (Sl Lij y1.1.d.Owners),I y1.1.d.Life,B y1.1.d.Approve,.map 2,.map 3,.map 4,.map 5],.dead,rO 90 6 Liq s9,.iter 2 cl5 (sn11++[b13]),.box 90 [S m25.Join.Key,S m25.Join.By,.d (Sl eS m25.Join.Tags),I m25.Join.Until,I 0,B m25.Join.Ready]] rfl ?_
   refine Kfm hΓ 1 rfl ?_
   obtain rfl:=oSi h45
   exact⟨⟨rfl,rfl,rfl,rfl,tV⟩,[],rfl,.inl rfl⟩
  have h46:=cF hq43 hb
  refine go hΓ 1 rfl ?_
  obtain rfl:=oSi h46
  exact⟨⟨rfl,rfl,rfl,rfl,tV⟩,[],rfl,.inl rfl⟩
 refine go hΓ 4 rfl ?_
 refine Kgr hΓ (enc:=Liq) [(⟨m25.Join.Key,m25.Join.By,m25.Join.Tags,m25.Join.Until,q43,m25.Join.Ready⟩:Lce)] rfl rfl rfl rfl rfl rfl rfl rfl rfl rfl rfl rfl (nBe rfl) ?_
 obtain⟨y47,hy47,h48⟩:=Kfw h44
 refine Khf hΓ (enc:=Liq) hy47 rfl rfl rfl rfl rfl rfl rfl rfl rfl (fun _=>rfl) rfl rfl rfl rfl ?_
 refine Kfm hΓ 3 rfl ?_
 obtain rfl:=oSi h48
 exact⟨j12,x10,b13,_,hjsn11,hbsn11,hnsn11,hssn11,⟨⟨rfl,rfl,rfl,tV⟩,[_],rfl,.inr ⟨HB.mk rfl,FB.mk rfl,(nBe rfl)⟩⟩⟩
theorem Lic{a:Lce}{b:Lce}{r:Bool}(h:Lgv a b=some r):Pure Tryz.prog 53 [.agg [S a.Key,S a.By,.d (Sl eS a.Tags),I a.Until,I a.Left,B a.Ready],.agg [S b.Key,S b.By,.d (Sl eS b.Tags),I b.Until,I b.Left,B b.Ready]] (B r):=by
 refine Pure.enter (Fr.of 0 _) Tryz.func53 rfl (Fr.of_ok _) rfl rfl ?_
 refine Kfo ?_
 unfold Lgv at h
 refine go hΓ 2 rfl ?_
 refine Ksq rfl rfl rfl rfl (nBe rfl) ?_
 refine Ksq rfl rfl rfl rfl (nBe rfl) ?_
 refine Kfm hΓ 11 rfl ?_
 refine Kfv 6 [(2,.ptr 0 0),(3,.ptr 1 0),(4,B false),(16,B (((a.Key:Str)==b.Key)&&((a.By:Str)==b.By)))] [.box 90 [S a.Key,S a.By,.d (Sl eS a.Tags),I a.Until,I a.Left,B a.Ready],.box 90 [S b.Key,S b.By,.d (Sl eS b.Tags),I b.Until,I b.Left,B b.Ready]] ?_ ?_
 ·refine Krj rfl rfl (fun hb=>?_) (fun hb=>?_)
  ·refine Kfm hΓ 7 rfl ?_
   exact⟨⟨rfl,rfl,rfl,Kex rfl (Kho hb),tV⟩,[],rfl,.inl rfl⟩
  refine Kfm hΓ 7 rfl ?_
  exact⟨⟨rfl,rfl,rfl,Kex rfl (Khp hb),tV⟩,[],rfl,.inl rfl⟩
 refine Kfm hΓ 1 rfl ?_
 obtain⟨q1,hq1,h2⟩:=Kfw h
 refine Kfv 6 [(2,.ptr 0 0),(3,.ptr 1 0),(4,B false),(23,B q1)] [.box 90 [S a.Key,S a.By,.d (Sl eS a.Tags),I a.Until,I a.Left,B a.Ready],.box 90 [S b.Key,S b.By,.d (Sl eS b.Tags),I b.Until,I b.Left,B b.Ready]] ?_ ?_
 ·refine Krj rfl rfl (fun hb=>?_) (fun hb=>?_)
  ·have h3:=cT hq1 hb
   obtain⟨y4,hy4,h5⟩:=Kfw h3
   refine Kfm hΓ 4 rfl ?_
   refine Krh rfl ?_
   refine Kgx (Lml Tryz.func65 rfl rfl) (Lht hy4) rfl (nBe rfl) rfl rfl rfl rfl rfl ?_
   refine Kfm hΓ 2 rfl ?_
   obtain rfl:=oSi h5
   exact⟨⟨rfl,rfl,rfl,rfl,tV⟩,[],rfl,.inl rfl⟩
  have h6:=cF hq1 hb
  refine Kfm hΓ 7 rfl ?_
  obtain rfl:=oSi h6
  exact⟨⟨rfl,rfl,rfl,rfl,tV⟩,[],rfl,.inl rfl⟩
 refine Kfm hΓ 1 rfl ?_
 refine Kfv 6 [(2,.ptr 0 0),(3,.ptr 1 0),(4,B false),(30,B (q1&&((a.Until:Int)==b.Until)))] [.box 90 [S a.Key,S a.By,.d (Sl eS a.Tags),I a.Until,I a.Left,B a.Ready],.box 90 [S b.Key,S b.By,.d (Sl eS b.Tags),I b.Until,I b.Left,B b.Ready]] ?_ ?_
 ·refine Krj rfl rfl (fun hb=>?_) (fun hb=>?_)
  ·refine Kfm hΓ 7 rfl ?_
   exact⟨⟨rfl,rfl,rfl,Kex rfl (Kho hb),tV⟩,[],rfl,.inl rfl⟩
  refine Kfm hΓ 7 rfl ?_
  exact⟨⟨rfl,rfl,rfl,Kex rfl (Khp hb),tV⟩,[],rfl,.inl rfl⟩
 refine Kfm hΓ 1 rfl ?_
 refine Kfv 6 [(2,.ptr 0 0),(3,.ptr 1 0),(4,B false),(37,B ((q1&&((a.Until:Int)==b.Until))&&((a.Left:Int)==b.Left)))] [.box 90 [S a.Key,S a.By,.d (Sl eS a.Tags),I a.Until,I a.Left,B a.Ready],.box 90 [S b.Key,S b.By,.d (Sl eS b.Tags),I b.Until,I b.Left,B b.Ready]] ?_ ?_
 ·refine Krj rfl rfl (fun hb=>?_) (fun hb=>?_)
  ·refine Kfm hΓ 7 rfl ?_
   exact⟨⟨rfl,rfl,rfl,Kex rfl (Kho hb),tV⟩,[],rfl,.inl rfl⟩
  refine Kfm hΓ 7 rfl ?_
  exact⟨⟨rfl,rfl,rfl,Kex rfl (Khp hb),tV⟩,[],rfl,.inl rfl⟩
 refine Kfm hΓ 1 rfl ?_
 refine Kfv 6 [(4,B false),(44,B (((q1&&((a.Until:Int)==b.Until))&&((a.Left:Int)==b.Left))&&((a.Ready:Bool)==b.Ready)))] [.box 90 [S a.Key,S a.By,.d (Sl eS a.Tags),I a.Until,I a.Left,B a.Ready],.box 90 [S b.Key,S b.By,.d (Sl eS b.Tags),I b.Until,I b.Left,B b.Ready]] ?_ ?_
 ·refine Krj rfl rfl (fun hb=>?_) (fun hb=>?_)
  ·refine Kfm hΓ 7 rfl ?_
   exact⟨⟨rfl,Kex rfl (Kho hb),tV⟩,[],rfl,.inl rfl⟩
  refine Kfm hΓ 7 rfl ?_
  exact⟨⟨rfl,Kex rfl (Khp hb),tV⟩,[],rfl,.inl rfl⟩
 refine Kfm hΓ 4 rfl ?_
 obtain rfl:=oSi h2
 exact Khi hΓ (.inr rfl) rfl rfl
theorem Lid{s1:List Lce}{s2:List Lce}{r:Bool}(h:Lgw s1 s2=some r):Pure Tryz.prog 51 [.d (Sl Liq s1),.d (Sl Liq s2),.fn (.func 53) [] []] (B r):=by
 refine Pure.enter (Fr.of 0 _) Tryz.func51 rfl (Fr.of_ok _) rfl rfl ?_
 refine Kfo ?_
 unfold Lgw at h
 refine go hΓ 15 rfl ?_
 refine Kfp rfl (fun hb=>?_) (fun hb=>?_)
 ·have h1:=cT h hb
  refine go hΓ 7 rfl ?_
  obtain rfl:=oSi h1
  exact Khi hΓ (.inr rfl) rfl rfl
 have h2:=cF h hb
 refine go hΓ 10 rfl ?_
 obtain⟨q6,hq6,h7⟩:=Kfw h2
 refine Kgf 15 rfl fun hb9=>?_
 refine Kjq (R:=fun a8=>q6=.go a8) (fun a8=>[]) (fun a8=>[]) ?_ ?_
 ·refine go hΓ 1 rfl ?_
  refine Kge s1 hq6 (fun i3 s4=>[(1,.d (Sl Liq s2)),(2,.fn (.func 53) [] []),(15,.d (Sl Liq s1)),(16,I (s1.length:Int)),(17,I (i3:Int))]) (fun s4=>[]) ⟨⟨rfl,rfl,rfl,rfl,rfl,tV⟩,[],rfl,.inl rfl⟩ (fun i3 x5 s4 y13 hx10 hlt hy11 hout12=>?_) (fun s4 hgo=>?_)
  ·refine go hΓ 6 rfl ?_
   refine Kfq rfl (decide_eq_true (Int.ofNat_lt.2 hlt)) ?_
   refine go hΓ 7 rfl ?_
   refine eo_o rfl (Kgg hΓ (enc:=Liq) (Kfz hx10) rfl rfl rfl rfl rfl (fun _=>rfl)) ?_
   refine Kfm hΓ 1 rfl ?_
   refine Ksp hΓ rfl rfl rfl (nBe rfl) ?_
   refine Kfm hΓ 1 rfl ?_
   refine Ksu hΓ rfl rfl rfl rfl rfl rfl rfl rfl (nBe rfl) ?_
   refine Khe [.box 90 [S x5.Key,S x5.By,.d (Sl eS x5.Tags),I x5.Until,I x5.Left,B x5.Ready]] rfl ?_
   obtain⟨x14,hx14,h15⟩:=Kfw hy11
   refine Kfm hΓ 6 rfl ?_
   refine eo_o rfl (Kgg hΓ (enc:=Liq) hx14 rfl rfl rfl rfl rfl (fun _=>rfl)) ?_
   refine Kfm hΓ 1 rfl ?_
   refine Ksp hΓ rfl rfl rfl (nBe rfl) ?_
   refine Ksu hΓ rfl rfl rfl rfl rfl rfl rfl rfl (nBe rfl) ?_
   refine Khe [.box 90 [S x5.Key,S x5.By,.d (Sl eS x5.Tags),I x5.Until,I x5.Left,B x5.Ready],.box 90 [S x14.Key,S x14.By,.d (Sl eS x14.Tags),I x14.Until,I x14.Left,B x14.Ready]] rfl ?_
   obtain⟨y16,hy16,h17⟩:=Kfw h15
   refine Kfm hΓ 7 rfl ?_
   refine Kgx (Lml Tryz.func53 rfl rfl) (Lic hy16) rfl (nBe rfl) rfl rfl rfl rfl rfl ?_
   refine Kfm hΓ 3 rfl ?_
   refine Kfp rfl (fun hb=>?_) (fun hb=>?_)
   ·have h18:=cT h17 hb
    refine go hΓ 8 rfl ?_
    obtain⟨v19,hv19,h20⟩:=Kfw h18
    obtain rfl:=oSi h20
    obtain rfl:=hout12 _ rfl
    obtain rfl:=oSi h7
    refine go hΓ 4 rfl ?_
    obtain rfl:=oSi hv19
    exact Khi hΓ (.inr rfl) rfl rfl
   have h21:=cF h17 hb
   refine go hΓ 7 rfl ?_
   obtain rfl:=oSi h21
   exact⟨_,rfl,⟨⟨rfl,rfl,rfl,rfl,Kew rfl (Kev (nLl hlt hb9)),tV⟩,[_,_],rfl,.inr ⟨HB.mk rfl,FB.mk rfl,(nBe rfl)⟩⟩⟩
  subst hgo
  refine go hΓ 6 rfl ?_
  refine Kfr rfl (decide_eq_false (Int.lt_irrefl _)) ?_
  refine go hΓ 4 rfl ?_
  exact⟨_,rfl,⟨tV,[],rfl,.inl rfl⟩⟩
 intro a8 ha
 subst ha
 replace h7:=Kjl h7
 refine go hΓ 7 rfl ?_
 obtain rfl:=oSi h7
 exact Khi hΓ (.inr rfl) rfl rfl
theorem Lie{k:Nat}{d:Lbx}{user:Str}{tag:Str}{r:Bool×Int}(h:Lgx k d user tag=some r):Pure Tryz.prog 27 [.agg (fD d),S user,S tag] (.tup [B r.1,I r.2]):=by
 refine Pure.enter (Fr.of 0 _) Tryz.func27 rfl (Fr.of_ok _) rfl rfl ?_
 refine Kfo ?_
 unfold Lgx at h
 refine go hΓ 2 rfl ?_
 refine Ksq rfl rfl rfl rfl (nBe rfl) ?_
 obtain⟨y1,hy1,h2⟩:=Kfw h
 refine Kfm hΓ 8 rfl ?_
 refine Kgx (Lml Tryz.func29 rfl rfl) (Lkn hy1) rfl (nBe rfl) rfl rfl rfl rfl rfl ?_
 refine Kfm hΓ 9 rfl ?_
 refine Kfp rfl (fun hb=>?_) (fun hb=>?_)
 ·have h3:=cT h2 hb
  refine go hΓ 9 rfl ?_
  obtain rfl:=oSi h3
  exact Khi hΓ (.inr rfl) rfl rfl
 have h4:=cF h2 hb
 obtain⟨y5,hy5,h6⟩:=Kfw h4
 refine go hΓ 7 rfl ?_
 refine Kgx (Lml Tryz.func102 rfl rfl) (Lln hy5) rfl (nBe rfl) rfl rfl rfl rfl rfl ?_
 obtain⟨y7,hy7,h8⟩:=Kfw h6
 refine Kfm hΓ 13 rfl ?_
 refine Kgx (Lml Tryz.func61 rfl rfl) (Lju hy7) rfl (nBe rfl) rfl rfl rfl rfl rfl ?_
 refine Kfm hΓ 2 rfl ?_
 refine Kfv 3 [(9,B y5.1),(31,B ((!y7)||(!y5.2)))] [.box 29 (fD d)] ?_ ?_
 ·refine Krj rfl rfl (fun hb=>?_) (fun hb=>?_)
  ·refine Kfm hΓ 4 rfl ?_
   exact⟨⟨rfl,Kex rfl (or_t hb),tV⟩,[],rfl,.inl rfl⟩
  refine Kfm hΓ 4 rfl ?_
  exact⟨⟨rfl,Kex rfl (or_f hb),tV⟩,[],rfl,.inl rfl⟩
 refine Kfm hΓ 2 rfl ?_
 refine Kfp rfl (fun hb=>?_) (fun hb=>?_)
 ·have h9:=cT h8 hb
  refine go hΓ 8 rfl ?_
  obtain rfl:=oSi h9
  exact Khi hΓ (.inr rfl) rfl rfl
 have h10:=cF h8 hb
 refine go hΓ 10 rfl ?_
 obtain rfl:=oSi h10
 exact Khi hΓ (.inr rfl) rfl rfl
theorem Lif{k:Nat}{r:Bool}(h:Lgy k=some r):Pure Tryz.prog 16 [] (B r):=by
 refine Pure.enter (Fr.of 0 _) Tryz.func16 rfl (Fr.of_ok _) rfl rfl ?_
 refine Kfo ?_
 unfold Lgy at h
 refine go hΓ 7 rfl ?_
 refine Kgr hΓ (enc:=eS) [[97]] rfl rfl rfl rfl rfl rfl rfl rfl rfl rfl rfl rfl (nBe rfl) ?_
 refine Kgr hΓ (enc:=eS) [[97]] rfl rfl rfl rfl rfl rfl rfl rfl rfl rfl rfl rfl (nBe rfl) ?_
 refine Kdu hΓ (gs:=[S [116],.d (Sl eS [[97]])]) rfl rfl rfl rfl rfl rfl rfl ?_
 refine Kgr hΓ (enc:=Lij) [(⟨[116],[[97]]⟩:Lbw)] rfl rfl rfl rfl rfl rfl rfl rfl rfl rfl rfl rfl (nBe rfl) ?_
 refine Kdu hΓ (gs:=[.d (Sl eS [[97]]),.d (Sl Lij [(⟨[116],[[97]]⟩:Lbw)]),I 1,B false]) rfl rfl rfl rfl rfl rfl rfl ?_
 obtain⟨y1,hy1,h2⟩:=Kfw h
 refine Kgx (Lml Tryz.func27 rfl rfl) (Lie hy1) rfl (nBe rfl) rfl rfl rfl rfl rfl ?_
 refine Kfm hΓ 12 rfl ?_
 refine Kfv 2 [(0,B false),(16,B (((y1.2:Int)==0)&&y1.1))] [] ?_ ?_
 ·refine Krj rfl rfl (fun hb=>?_) (fun hb=>?_)
  ·refine Kfm hΓ 3 rfl ?_
   exact⟨⟨rfl,Kex rfl (Kho hb),tV⟩,[],rfl,.inl rfl⟩
  refine Kfm hΓ 3 rfl ?_
  exact⟨⟨rfl,Kex rfl (Khp hb),tV⟩,[],rfl,.inl rfl⟩
 refine Kfm hΓ 4 rfl ?_
 obtain rfl:=oSi h2
 exact Khi hΓ (.inr rfl) rfl rfl
theorem Lig{k:Nat}{d:Lbx}{l:List Lby}{node:Str}{v_at:Int}{al:BagT}{r:Lcb×Bool×BagT}(h:Lgz k d l node v_at al=some r):EC Tryz.prog 54 [.agg (fD d),.d (Sl Lil l),S node,I v_at] [bg al] fun g hp'=>g=.tup [.agg (fM r.1),B r.2.1]∧hp'=[bg r.2.2]:=by
 refine Krb (Fr.of 0 _) Tryz.func54 rfl (Fr.of_ok _) (nBe rfl) fun _=>?_
 refine Kfo ?_
 unfold Lgz at h
 refine go hΓ 2 rfl ?_
 refine Ksq rfl rfl rfl rfl (nBe rfl) ?_
 refine Ksp hΓ rfl rfl rfl (nBe rfl) ?_
 obtain⟨y1,hy1,h2⟩:=Kfw h
 refine Kfm hΓ 9 rfl ?_
 refine Kgw [0] (.sl 3 y1.1.length) [bg y1.2,.box 29 (fD d),.box 77 [S [],S [],S [],S [],.d (Sl eS []),I 0,I 0,B false],rO 77 8 Lio y1.1] (Lml Tryz.func49 rfl rfl) (Lhs hy1) rfl (nBe rfl) rfl rfl rfl rfl rfl rfl rfl rfl rfl rfl ?_
 refine Khc 3 [15] _ [bg y1.2,.box 29 (fD d),.box 77 [S [],S [],S [],S [],.d (Sl eS []),I 0,I 0,B false],.dead] rfl rfl rfl (nBe rfl) ?_
 refine Kfm hΓ 4 rfl ?_
 obtain⟨q6,hq6,h7⟩:=Kfw h2
 refine Kgf 15 rfl fun hb9=>?_
 refine Kjq (R:=fun a8=>q6=.go a8) (fun a8=>[(8,.ptr 2 0)]) (fun a8=>[bg y1.2,.box 29 (fD d),.box 77 [S [],S [],S [],S [],.d (Sl eS []),I 0,I 0,B false],.dead]) ?_ ?_
 ·refine go hΓ 1 rfl ?_
  refine Kge y1.1 hq6 (fun i3 s4=>[(2,S node),(8,.ptr 2 0),(15,.d (Sl Lio y1.1)),(16,I (y1.1.length:Int)),(17,I (i3:Int))]) (fun s4=>[bg y1.2,.box 29 (fD d),.box 77 [S [],S [],S [],S [],.d (Sl eS []),I 0,I 0,B false],.dead]) ⟨⟨rfl,rfl,rfl,rfl,rfl,tV⟩,[],rfl,.inl rfl⟩ (fun i3 x5 s4 y13 hx10 hlt hy11 hout12=>?_) (fun s4 hgo=>?_)
  ·refine go hΓ 6 rfl ?_
   refine Kfq rfl (decide_eq_true (Int.ofNat_lt.2 hlt)) ?_
   refine go hΓ 6 rfl ?_
   refine eo_o rfl (Kgg hΓ (enc:=Lio) (Kfz hx10) rfl rfl rfl rfl rfl (fun _=>rfl)) ?_
   refine Kfm hΓ 1 rfl ?_
   refine Ksp hΓ rfl rfl rfl (nBe rfl) ?_
   refine Ksu hΓ rfl rfl rfl rfl rfl rfl rfl rfl (nBe rfl) ?_
   refine Khe [bg y1.2,.box 29 (fD d),.box 77 [S [],S [],S [],S [],.d (Sl eS []),I 0,I 0,B false],.dead,.box 77 (fM x5)] rfl ?_
   refine Kfm hΓ 10 rfl ?_
   refine Kfp rfl (fun hb=>?_) (fun hb=>?_)
   ·have h14:=cT hy11 hb
    refine go hΓ 3 rfl ?_
    refine Ksu hΓ rfl rfl rfl rfl rfl rfl rfl rfl (nBe rfl) ?_
    refine Khe [bg y1.2,.box 29 (fD d),.box 77 (fM x5),.dead,.box 77 (fM x5)] rfl ?_
    refine Kfm hΓ 6 rfl ?_
    obtain⟨v15,hv15,h16⟩:=Kfw h14
    obtain rfl:=oSi h16
    obtain rfl:=hout12 _ rfl
    obtain rfl:=oSi h7
    refine go hΓ 4 rfl ?_
    obtain rfl:=oSi hv15
    exact Khj hΓ [_,_,_,_] (.inr rfl) rfl rfl rfl rfl (.inr ⟨HB.mk rfl,rfl⟩)
   have h17:=cF hy11 hb
   refine go hΓ 7 rfl ?_
   obtain rfl:=oSi h17
   exact⟨_,rfl,⟨⟨rfl,rfl,rfl,rfl,Kew rfl (Kev (nLl hlt hb9)),tV⟩,[_],rfl,.inr ⟨HB.mk rfl,FB.mk rfl,(nBe rfl)⟩⟩⟩
  subst hgo
  refine go hΓ 6 rfl ?_
  refine Kfr rfl (decide_eq_false (Int.lt_irrefl _)) ?_
  refine go hΓ 4 rfl ?_
  exact⟨_,rfl,⟨⟨rfl,tV⟩,[],rfl,.inl rfl⟩⟩
 intro a8 ha
 subst ha
 replace h7:=Kjl h7
 refine go hΓ 3 rfl ?_
 refine Kdu hΓ (gs:=[S [],S [],S [],S [],.d (Sl eS []),I 0,I 0,B false]) rfl rfl rfl rfl rfl rfl rfl ?_
 refine Ksu hΓ rfl rfl rfl rfl rfl rfl rfl rfl (nBe rfl) ?_
 refine Khe [bg y1.2,.box 29 (fD d),.box 77 [S [],S [],S [],S [],.d (Sl eS []),I 0,I 0,B false],.dead] rfl ?_
 refine Kfm hΓ 4 rfl ?_
 obtain rfl:=oSi h7
 exact Khj hΓ [_,_,_] (.inr rfl) rfl rfl rfl rfl (.inr ⟨HB.mk rfl,rfl⟩)
theorem Lih{k:Nat}{l:List Int}{al:BagT}{r:Bool×BagT}(h:Lha k l al=some r):EC Tryz.prog 6 [.d (Sl (eN .i64) l)] [bg al] fun g hp'=>g=B r.1∧hp'=[bg r.2]:=by
 refine Krb (Fr.of 0 _) Tryz.func6 rfl (Fr.of_ok _) (nBe rfl) fun _=>?_
 refine Kfo ?_
 unfold Lha at h
 refine go hΓ 8 rfl ?_
 refine Kdu hΓ (gs:=[.d (Sl (eN .i64) l),I 0]) rfl rfl rfl rfl rfl rfl rfl ?_
 refine Ksq rfl rfl rfl rfl (nBe rfl) ?_
 obtain⟨y1,hy1,h2⟩:=Kfw h
 refine Kfm hΓ 7 rfl ?_
 refine Kgw [1] (I y1.1) [bg al,.box 25 (fQ y1.2)] (Lml Tryz.func11 rfl rfl) (Liy hy1) rfl (nBe rfl) rfl rfl rfl rfl rfl rfl rfl rfl rfl rfl ?_
 obtain⟨y3,hy3,h4⟩:=Kfw h2
 refine Kgw [1] (.agg [.d (Sl eS y3.1.d.Users),.d (Sl Lij y3.1.d.Owners),I y3.1.d.Life,B y3.1.d.Approve,.d (Sl Lil y3.1.l),I y3.1.fault]) [bg al,.box 25 (fQ y3.2)] (Lml Tryz.func10 rfl rfl) (Lki hy3) rfl (nBe rfl) rfl rfl rfl rfl rfl rfl rfl rfl rfl rfl ?_
 obtain⟨y5,hy5,h6⟩:=Kfw h4
 refine Kfm hΓ 1 rfl ?_
 refine Kgw [1] (I y5.1) [bg al,.box 25 (fQ y5.2)] (Lml Tryz.func42 rfl rfl) (Lkj hy5) rfl (nBe rfl) rfl rfl rfl rfl rfl rfl rfl rfl rfl rfl ?_
 refine Kfm hΓ 1 rfl ?_
 refine Kgr hΓ (enc:=eS) [[110,97],[110,98],[110,99],[65]] rfl rfl rfl rfl rfl rfl rfl rfl rfl rfl rfl rfl (nBe rfl) ?_
 obtain⟨y7,hy7,h8⟩:=Kfw h6
 refine Kgw [1] (S y7.1) [bg al,.box 25 (fQ y7.2)] (Lml Tryz.func22 rfl rfl) (Ljc hy7) rfl (nBe rfl) rfl rfl rfl rfl rfl rfl rfl rfl rfl rfl ?_
 refine Ksp hΓ rfl rfl rfl (nBe rfl) ?_
 refine Ksu hΓ rfl rfl rfl rfl rfl rfl rfl rfl (nBe rfl) ?_
 refine Khe [bg al,.box 25 (fQ y7.2),.box 33 [.d (Sl eS y3.1.d.Users),.d (Sl Lij y3.1.d.Owners),I y3.1.d.Life,B y3.1.d.Approve,.d (Sl Lil y3.1.l),I y3.1.fault]] rfl ?_
 obtain⟨y9,hy9,h10⟩:=Kfw h8
 refine Kfm hΓ 11 rfl ?_
 refine Kgw [0] (.tup [.d (Sl Lio y9.1),I y9.2.1]) [bg y9.2.2,.box 25 (fQ y7.2),.box 33 [.d (Sl eS y3.1.d.Users),.d (Sl Lij y3.1.d.Owners),I y3.1.d.Life,B y3.1.d.Approve,.d (Sl Lil y3.1.l),I y3.1.fault]] (Lml Tryz.func43 rfl rfl) (Lmc hy9) rfl (nBe rfl) rfl rfl rfl rfl rfl rfl rfl rfl rfl rfl ?_
 obtain⟨y11,hy11,h12⟩:=Kfw h10
 refine Kfm hΓ 15 rfl ?_
 refine Kgw [0] (.tup [.agg (fM y11.1),B y11.2.1,I y11.2.2.1]) [bg y11.2.2.2,.box 25 (fQ y7.2),.box 33 [.d (Sl eS y3.1.d.Users),.d (Sl Lij y3.1.d.Owners),I y3.1.d.Life,B y3.1.d.Approve,.d (Sl Lil y3.1.l),I y3.1.fault]] (Lml Tryz.func44 rfl rfl) (Lmd hy11) rfl (nBe rfl) rfl rfl rfl rfl rfl rfl rfl rfl rfl rfl ?_
 refine Kfm hΓ 4 rfl ?_
 refine Ksp hΓ rfl rfl rfl (nBe rfl) ?_
 refine Ksu hΓ rfl rfl rfl rfl rfl rfl rfl rfl (nBe rfl) ?_
 refine Khe [bg y11.2.2.2,.box 25 (fQ y7.2),.box 33 [.d (Sl eS y3.1.d.Users),.d (Sl Lij y3.1.d.Owners),I y3.1.d.Life,B y3.1.d.Approve,.d (Sl Lil y3.1.l),I y3.1.fault],.box 77 (fM y11.1)] rfl ?_
 obtain⟨y13,hy13,h14⟩:=Kfw h12
 refine Kfm hΓ 11 rfl ?_
 refine Kgw [0] (.tup [.d (Sl Liq y13.1),I y13.2.1]) [bg y13.2.2,.box 25 (fQ y7.2),.box 33 [.d (Sl eS y3.1.d.Users),.d (Sl Lij y3.1.d.Owners),I y3.1.d.Life,B y3.1.d.Approve,.d (Sl Lil y3.1.l),I y3.1.fault],.box 77 (fM y11.1)] (Lml Tryz.func45 rfl rfl) (Lme hy13) rfl (nBe rfl) rfl rfl rfl rfl rfl rfl rfl rfl rfl rfl ?_
 refine Kfm hΓ 8 rfl ?_
 refine Kfs hmix (by kernel_rfl) ?_
 obtain⟨y15,hy15,h16⟩:=Kfw h14
 refine go hΓ 3 rfl ?_
 refine Kgy (Lml Tryz.func46 rfl rfl) (Lmf hy15) rfl rfl rfl rfl rfl rfl ?_
 refine Kgs hΓ (enc:=(eN .i64)) [y3.1.fault,y15] rfl rfl rfl rfl rfl rfl rfl rfl rfl rfl rfl rfl ?_
 obtain⟨y17,hy17,h18⟩:=Kfw h16
 refine Kgy (Lml Tryz.func34 rfl rfl) (Lkh hy17) rfl rfl rfl rfl rfl rfl ?_
 refine Kfn hΓ 4 rfl ?_
 refine Kfs hmix (by kernel_rfl) ?_
 obtain⟨y19,hy19,h20⟩:=Kfw h18
 refine go hΓ 3 rfl ?_
 refine Kgy (Lml Tryz.func47 rfl rfl) (Lmg hy19) rfl rfl rfl rfl rfl rfl ?_
 obtain⟨y21,hy21,h22⟩:=Kfw h20
 refine Kfn hΓ 1 rfl ?_
 refine Kgy (Lml Tryz.func46 rfl rfl) (Lmf hy21) rfl rfl rfl rfl rfl rfl ?_
 refine Kgs hΓ (enc:=(eN .i64)) [y3.1.fault,y19,y21] rfl rfl rfl rfl rfl rfl rfl rfl rfl rfl rfl rfl ?_
 obtain⟨y23,hy23,h24⟩:=Kfw h22
 refine Kgy (Lml Tryz.func34 rfl rfl) (Lkh hy23) rfl rfl rfl rfl rfl rfl ?_
 refine Kfn hΓ 10 rfl ?_
 refine Kfv 4 [(4,.ptr 2 0),(5,I y5.1),(6,S y7.1),(7,.d (Sl Lio y9.1)),(9,.ptr 3 0),(10,B y11.2.1),(11,I y11.2.2.1),(12,.d (Sl Liq y13.1)),(14,I y17),(15,I y23),(80,B (((y9.2.1:Int) != y17)||((y13.2.1:Int) != y17)))] [bg y13.2.2,.box 25 (fQ y7.2),.box 33 [.d (Sl eS y3.1.d.Users),.d (Sl Lij y3.1.d.Owners),I y3.1.d.Life,B y3.1.d.Approve,.d (Sl Lil y3.1.l),I y3.1.fault],.box 77 (fM y11.1)] ?_ ?_
 ·refine Krj rfl rfl (fun hb=>?_) (fun hb=>?_)
  ·refine Kfm hΓ 5 rfl ?_
   exact⟨⟨rfl,rfl,rfl,rfl,rfl,rfl,rfl,rfl,rfl,rfl,Kex rfl (or_t hb),tV⟩,[],rfl,.inl rfl⟩
  refine Kfm hΓ 5 rfl ?_
  exact⟨⟨rfl,rfl,rfl,rfl,rfl,rfl,rfl,rfl,rfl,rfl,Kex rfl (or_f hb),tV⟩,[],rfl,.inl rfl⟩
 refine Kfm hΓ 1 rfl ?_
 refine Kfv 4 [(4,.ptr 2 0),(5,I y5.1),(6,S y7.1),(7,.d (Sl Lio y9.1)),(9,.ptr 3 0),(10,B y11.2.1),(12,.d (Sl Liq y13.1)),(14,I y17),(15,I y23),(85,B ((((y9.2.1:Int) != y17)||((y13.2.1:Int) != y17))||((y11.2.2.1:Int) != y23)))] [bg y13.2.2,.box 25 (fQ y7.2),.box 33 [.d (Sl eS y3.1.d.Users),.d (Sl Lij y3.1.d.Owners),I y3.1.d.Life,B y3.1.d.Approve,.d (Sl Lil y3.1.l),I y3.1.fault],.box 77 (fM y11.1)] ?_ ?_
 ·refine Krj rfl rfl (fun hb=>?_) (fun hb=>?_)
  ·refine Kfm hΓ 5 rfl ?_
   exact⟨⟨rfl,rfl,rfl,rfl,rfl,rfl,rfl,rfl,rfl,Kex rfl (or_t hb),tV⟩,[],rfl,.inl rfl⟩
  refine Kfm hΓ 5 rfl ?_
  exact⟨⟨rfl,rfl,rfl,rfl,rfl,rfl,rfl,rfl,rfl,Kex rfl (or_f hb),tV⟩,[],rfl,.inl rfl⟩
 refine Kfm hΓ 1 rfl ?_
 refine Kfv 11 [(4,.ptr 2 0),(5,I y5.1),(6,S y7.1),(7,.d (Sl Lio y9.1)),(9,.ptr 3 0),(10,B y11.2.1),(12,.d (Sl Liq y13.1)),(14,I y17),(15,I y23),(97,B (((((y9.2.1:Int) != y17)||((y13.2.1:Int) != y17))||((y11.2.2.1:Int) != y23))||(((y17:Int) != 0)&&(decide ((wi ((y9.1.length:Int)+(y13.1.length:Int)):Int)>0)))))] [bg y13.2.2,.box 25 (fQ y7.2),.box 33 [.d (Sl eS y3.1.d.Users),.d (Sl Lij y3.1.d.Owners),I y3.1.d.Life,B y3.1.d.Approve,.d (Sl Lil y3.1.l),I y3.1.fault],.box 77 (fM y11.1)] ?_ ?_
 ·refine Krj rfl rfl (fun hb=>?_) (fun hb=>?_)
  ·refine Kfm hΓ 12 rfl ?_
   exact⟨⟨rfl,rfl,rfl,rfl,rfl,rfl,rfl,rfl,rfl,Kex rfl (or_t hb),tV⟩,[],rfl,.inl rfl⟩
  refine Kfm hΓ 3 rfl ?_
  refine Kfv 7 [(4,.ptr 2 0),(5,I y5.1),(6,S y7.1),(7,.d (Sl Lio y9.1)),(9,.ptr 3 0),(10,B y11.2.1),(12,.d (Sl Liq y13.1)),(14,I y17),(15,I y23),(86,B false),(96,B (((y17:Int) != 0)&&(decide ((wi ((y9.1.length:Int)+(y13.1.length:Int)):Int)>0))))] [bg y13.2.2,.box 25 (fQ y7.2),.box 33 [.d (Sl eS y3.1.d.Users),.d (Sl Lij y3.1.d.Owners),I y3.1.d.Life,B y3.1.d.Approve,.d (Sl Lil y3.1.l),I y3.1.fault],.box 77 (fM y11.1)] ?_ ?_
  ·refine Krj rfl rfl (fun hb=>?_) (fun hb=>?_)
   ·refine Kfm hΓ 8 rfl ?_
    exact⟨⟨rfl,rfl,rfl,rfl,rfl,rfl,rfl,rfl,rfl,rfl,Kex rfl (Kho hb),tV⟩,[],rfl,.inl rfl⟩
   refine Kfm hΓ 8 rfl ?_
   exact⟨⟨rfl,rfl,rfl,rfl,rfl,rfl,rfl,rfl,rfl,rfl,Kex rfl (Khp hb),tV⟩,[],rfl,.inl rfl⟩
  refine Kfm hΓ 2 rfl ?_
  exact⟨⟨rfl,rfl,rfl,rfl,rfl,rfl,rfl,rfl,rfl,Kex rfl (or_f hb),tV⟩,[],rfl,.inl rfl⟩
 refine Kfm hΓ 2 rfl ?_
 refine Kfp rfl (fun hb=>?_) (fun hb=>?_)
 ·have h25:=cT h24 hb
  refine go hΓ 7 rfl ?_
  obtain rfl:=oSi h25
  exact Khj hΓ [_,_,_] (.inr rfl) rfl rfl rfl rfl (.inr ⟨HB.mk rfl,rfl⟩)
 have h26:=cF h24 hb
 refine go hΓ 8 rfl ?_
 obtain⟨q27,hq27,h28⟩:=Kfw h26
 refine Kfv 21 [(4,.ptr 2 0),(5,I y5.1),(6,S y7.1),(9,.ptr 3 0),(10,B y11.2.1),(15,I y23),(121,B q27.2)] [bg q27.1,.box 25 (fQ y7.2),.box 33 [.d (Sl eS y3.1.d.Users),.d (Sl Lij y3.1.d.Owners),I y3.1.d.Life,B y3.1.d.Approve,.d (Sl Lil y3.1.l),I y3.1.fault],.box 77 (fM y11.1)] ?_ ?_
 ·refine Krj rfl rfl (fun hb=>?_) (fun hb=>?_)
  ·have h29:=cT hq27 hb
   obtain⟨y30,hy30,h31⟩:=Kfw h29
   refine Kfm hΓ 6 rfl ?_
   refine Krh rfl ?_
   refine Kgw [0] (.sl 4 y30.1.length) [bg y30.2,.box 25 (fQ y7.2),.box 33 [.d (Sl eS y3.1.d.Users),.d (Sl Lij y3.1.d.Owners),I y3.1.d.Life,B y3.1.d.Approve,.d (Sl Lil y3.1.l),I y3.1.fault],.box 77 (fM y11.1),rO 77 8 Lio y30.1] (Lml Tryz.func49 rfl rfl) (Lhs hy30) rfl (nBe rfl) rfl rfl rfl rfl rfl rfl rfl rfl rfl rfl ?_
   refine Khc 4 [107] _ [bg y30.2,.box 25 (fQ y7.2),.box 33 [.d (Sl eS y3.1.d.Users),.d (Sl Lij y3.1.d.Owners),I y3.1.d.Life,B y3.1.d.Approve,.d (Sl Lil y3.1.l),I y3.1.fault],.box 77 (fM y11.1),.dead] rfl rfl rfl (nBe rfl) ?_
   obtain⟨y32,hy32,h33⟩:=Kfw h31
   refine Krh rfl ?_
   refine Kgx (Lml Tryz.func48 rfl rfl) (Lhv hy32) rfl (nBe rfl) rfl rfl rfl rfl rfl ?_
   refine Kfm hΓ 2 rfl ?_
   obtain⟨q34,hq34,h35⟩:=Kfw h33
   refine Kfv 10 [(4,.ptr 2 0),(5,I y5.1),(6,S y7.1),(9,.ptr 3 0),(10,B y11.2.1),(15,I y23),(100,B true),(120,B q34.2)] [bg q34.1,.box 25 (fQ y7.2),.box 33 [.d (Sl eS y3.1.d.Users),.d (Sl Lij y3.1.d.Owners),I y3.1.d.Life,B y3.1.d.Approve,.d (Sl Lil y3.1.l),I y3.1.fault],.box 77 (fM y11.1),.dead] ?_ ?_
   ·refine Krj rfl rfl (fun hb=>?_) (fun hb=>?_)
    ·have h36:=cT hq34 hb
     refine Kfm hΓ 11 rfl ?_
     obtain rfl:=oSi h36
     exact⟨⟨rfl,rfl,rfl,rfl,rfl,rfl,rfl,rfl,tV⟩,[],rfl,.inl rfl⟩
    have h37:=cF hq34 hb
    obtain⟨y38,hy38,h39⟩:=Kfw h37
    refine Kfm hΓ 6 rfl ?_
    refine Krh rfl ?_
    refine Kgw [0] (.sl 5 y38.1.length) [bg y38.2,.box 25 (fQ y7.2),.box 33 [.d (Sl eS y3.1.d.Users),.d (Sl Lij y3.1.d.Owners),I y3.1.d.Life,B y3.1.d.Approve,.d (Sl Lil y3.1.l),I y3.1.fault],.box 77 (fM y11.1),.dead,rO 90 6 Liq y38.1] (Lml Tryz.func52 rfl rfl) (Lia hy38) rfl (nBe rfl) rfl rfl rfl rfl rfl rfl rfl rfl rfl rfl ?_
    refine Khc 5 [117] _ [bg y38.2,.box 25 (fQ y7.2),.box 33 [.d (Sl eS y3.1.d.Users),.d (Sl Lij y3.1.d.Owners),I y3.1.d.Life,B y3.1.d.Approve,.d (Sl Lil y3.1.l),I y3.1.fault],.box 77 (fM y11.1),.dead,.dead] rfl rfl rfl (nBe rfl) ?_
    obtain⟨y40,hy40,h41⟩:=Kfw h39
    refine Krh rfl ?_
    refine Kgx (Lml Tryz.func51 rfl rfl) (Lid hy40) rfl (nBe rfl) rfl rfl rfl rfl rfl ?_
    refine Kfm hΓ 3 rfl ?_
    obtain rfl:=oSi h41
    exact⟨⟨rfl,rfl,rfl,rfl,rfl,rfl,rfl,rfl,tV⟩,[_],rfl,.inr ⟨HB.mk rfl,FB.mk rfl,(nBe rfl)⟩⟩
   refine Kfm hΓ 2 rfl ?_
   obtain rfl:=oSi h35
   exact⟨⟨rfl,rfl,rfl,rfl,rfl,rfl,rfl,tV⟩,[_],rfl,.inr ⟨HB.mk rfl,FB.mk rfl,(nBe rfl)⟩⟩
  have h42:=cF hq27 hb
  refine Kfm hΓ 22 rfl ?_
  obtain rfl:=oSi h42
  exact⟨⟨rfl,rfl,rfl,rfl,rfl,rfl,rfl,tV⟩,[],rfl,.inl rfl⟩
 refine Kfm hΓ 2 rfl ?_
 refine Kfp rfl (fun hb=>?_) (fun hb=>?_)
 ·have h43:=cT h28 hb
  refine go hΓ 7 rfl ?_
  obtain rfl:=oSi h43
  exact Khj hΓ [_,_,_] (.inr rfl) rfl rfl rfl rfl (.inr ⟨HB.mk rfl,rfl⟩)
 have h44:=cF h28 hb
 refine go hΓ 9 rfl ?_
 refine Kfp rfl (fun hb=>?_) (fun hb=>?_)
 ·have h45:=cT h44 hb
  refine go hΓ 5 rfl ?_
  obtain⟨q46,hq46,h47⟩:=Kfw h45
  refine Kfv 4 [(130,B q46)] [bg q27.1,.box 25 (fQ y7.2),.box 33 [.d (Sl eS y3.1.d.Users),.d (Sl Lij y3.1.d.Owners),I y3.1.d.Life,B y3.1.d.Approve,.d (Sl Lil y3.1.l),I y3.1.fault],.box 77 (fM y11.1)] ?_ ?_
  ·refine Krj rfl rfl (fun hb=>?_) (fun hb=>?_)
   ·have h48:=cT hq46 hb
    refine Kfm hΓ 1 rfl ?_
    refine Krh rfl ?_
    refine Kdu hΓ (gs:=[S [],S [],S [],S [],.d (Sl eS []),I 0,I 0,B false]) rfl rfl rfl rfl rfl rfl rfl ?_
    obtain⟨y49,hy49,h50⟩:=Kfw h48
    refine Krh rfl ?_
    refine Kgx (Lml Tryz.func50 rfl rfl) (Lhu hy49) rfl (nBe rfl) rfl rfl rfl rfl rfl ?_
    refine Kfm hΓ 2 rfl ?_
    obtain rfl:=oSi h50
    exact⟨⟨rfl,tV⟩,[],rfl,.inl rfl⟩
   have h51:=cF hq46 hb
   refine Kfm hΓ 5 rfl ?_
   obtain rfl:=oSi h51
   exact⟨⟨rfl,tV⟩,[],rfl,.inl rfl⟩
  refine Kfm hΓ 1 rfl ?_
  obtain⟨q52,hq52,h53⟩:=Kfw h47
  refine Kfv 2 [(133,B q52)] [bg q27.1,.box 25 (fQ y7.2),.box 33 [.d (Sl eS y3.1.d.Users),.d (Sl Lij y3.1.d.Owners),I y3.1.d.Life,B y3.1.d.Approve,.d (Sl Lil y3.1.l),I y3.1.fault],.box 77 (fM y11.1)] ?_ ?_
  ·refine Krj rfl rfl (fun hb=>?_) (fun hb=>?_)
   ·have h54:=cT hq52 hb
    obtain⟨y55,hy55,h56⟩:=Kfw h54
    refine Krh rfl ?_
    refine Kgx (Lml Tryz.func16 rfl rfl) (Lif hy55) rfl (nBe rfl) rfl rfl rfl rfl rfl ?_
    refine Kfm hΓ 2 rfl ?_
    obtain rfl:=oSi h56
    exact⟨⟨rfl,tV⟩,[],rfl,.inl rfl⟩
   have h57:=cF hq52 hb
   refine Kfm hΓ 3 rfl ?_
   obtain rfl:=oSi h57
   exact⟨⟨rfl,tV⟩,[],rfl,.inl rfl⟩
  refine Kfm hΓ 5 rfl ?_
  obtain rfl:=oSi h53
  exact Khj hΓ [_,_,_] (.inr rfl) rfl rfl rfl rfl (.inr ⟨HB.mk rfl,rfl⟩)
 have h58:=cF h44 hb
 obtain⟨y59,hy59,h60⟩:=Kfw h58
 refine go hΓ 10 rfl ?_
 refine Kgw [0] (.tup [.agg (fM y59.1),B y59.2.1]) [bg y59.2.2,.box 25 (fQ y7.2),.box 33 [.d (Sl eS y3.1.d.Users),.d (Sl Lij y3.1.d.Owners),I y3.1.d.Life,B y3.1.d.Approve,.d (Sl Lil y3.1.l),I y3.1.fault],.box 77 (fM y11.1)] (Lml Tryz.func54 rfl rfl) (Lig hy59) rfl (nBe rfl) rfl rfl rfl rfl rfl rfl rfl rfl rfl rfl ?_
 refine Kfm hΓ 3 rfl ?_
 refine Ksp hΓ rfl rfl rfl (nBe rfl) ?_
 refine Ksu hΓ rfl rfl rfl rfl rfl rfl rfl rfl (nBe rfl) ?_
 refine Khe [bg y59.2.2,.box 25 (fQ y7.2),.box 33 [.d (Sl eS y3.1.d.Users),.d (Sl Lij y3.1.d.Owners),I y3.1.d.Life,B y3.1.d.Approve,.d (Sl Lil y3.1.l),I y3.1.fault],.box 77 (fM y11.1),.box 77 (fM y59.1)] rfl ?_
 refine Kfm hΓ 9 rfl ?_
 obtain⟨q61,hq61,h62⟩:=Kfw h60
 refine Kfv 4 [(151,B q61)] [bg y59.2.2,.box 25 (fQ y7.2),.box 33 [.d (Sl eS y3.1.d.Users),.d (Sl Lij y3.1.d.Owners),I y3.1.d.Life,B y3.1.d.Approve,.d (Sl Lil y3.1.l),I y3.1.fault],.box 77 (fM y11.1),.box 77 (fM y59.1)] ?_ ?_
 ·refine Krj rfl rfl (fun hb=>?_) (fun hb=>?_)
  ·have h63:=cT hq61 hb
   obtain⟨y64,hy64,h65⟩:=Kfw h63
   refine Kfm hΓ 2 rfl ?_
   refine Krh rfl ?_
   refine Kgx (Lml Tryz.func50 rfl rfl) (Lhu hy64) rfl (nBe rfl) rfl rfl rfl rfl rfl ?_
   refine Kfm hΓ 2 rfl ?_
   obtain rfl:=oSi h65
   exact⟨⟨rfl,tV⟩,[],rfl,.inl rfl⟩
  have h66:=cF hq61 hb
  refine Kfm hΓ 5 rfl ?_
  obtain rfl:=oSi h66
  exact⟨⟨rfl,tV⟩,[],rfl,.inl rfl⟩
 refine Kfm hΓ 1 rfl ?_
 obtain⟨q67,hq67,h68⟩:=Kfw h62
 refine Kfv 2 [(154,B q67)] [bg y59.2.2,.box 25 (fQ y7.2),.box 33 [.d (Sl eS y3.1.d.Users),.d (Sl Lij y3.1.d.Owners),I y3.1.d.Life,B y3.1.d.Approve,.d (Sl Lil y3.1.l),I y3.1.fault],.box 77 (fM y11.1),.box 77 (fM y59.1)] ?_ ?_
 ·refine Krj rfl rfl (fun hb=>?_) (fun hb=>?_)
  ·have h69:=cT hq67 hb
   obtain⟨y70,hy70,h71⟩:=Kfw h69
   refine Krh rfl ?_
   refine Kgx (Lml Tryz.func16 rfl rfl) (Lif hy70) rfl (nBe rfl) rfl rfl rfl rfl rfl ?_
   refine Kfm hΓ 2 rfl ?_
   obtain rfl:=oSi h71
   exact⟨⟨rfl,tV⟩,[],rfl,.inl rfl⟩
  have h72:=cF hq67 hb
  refine Kfm hΓ 3 rfl ?_
  obtain rfl:=oSi h72
  exact⟨⟨rfl,tV⟩,[],rfl,.inl rfl⟩
 refine Kfm hΓ 4 rfl ?_
 obtain rfl:=oSi h68
 exact Khj hΓ [_,_,_,_] (.inr rfl) rfl rfl rfl rfl (.inr ⟨HB.mk rfl,rfl⟩)
end Go.Proofs.YtjmlnnanfkiakaaGreatDoor
