import Derived.Test.YtjmlnnanfkiakaaGreatDoorXNM
import Derived.Test.YtjmlnnanfkiakaaGreatDoorGt
import Derived.Test.YtjmlnnanfkiakaaGreatDoorStrS
import Derived.Test.YtjmlnnanfkiakaaGreatDoorStrK
import Derived.Test.YtjmlnnanfkiakaaGreatDoorXNW3
set_option maxHeartbeats 8000000
set_option linter.all false
set_option maxRecDepth 100000
namespace Go.Proofs.YtjmlnnanfkiakaaGreatDoor
open Go.Gk
theorem Lmr{v_h:Lgs}{s:Lgg}{al:BagT}{r:Int×Lgs×BagT}(h:Lly v_h s al=some r):EC Tryz.prog 98 [.ptr 4 0,.agg (fS s)] (oH v_h 0 1 2 3 [bg al]) fun g hp'=>g=I r.1∧hp'=(oH r.2.1 0 1 2 3 [bg r.2.2]):=by
 unfold Lly at h
 refine Kqd (Fr.of 0 _) Tryz.func98 E (Fr.of_ok _) Z fun _=>Kjm<|gA 2 E<|Kxo E E E E Z<|bK h fun q1 hq1 h2=>gO 18 E<|Knu [(0,.ptr 4 0),(3,.ptr 6 0),(7,I s.Kind),(8,B q1)] (oH v_h 0 1 2 3 [bg al,.box 37 (fS s)]) ?_ ?_
 ·refine jC E hq1 (fun h3=>?_) fun h4=>gA 4 E<|oSi h4▸⟨⟨E,E,E,E,tV⟩,[],E,.inl E⟩
  exact gA 1 E<|oSi h3▸⟨⟨E,E,E,E,tV⟩,[],E,.inl E⟩
 refine gA 1 E<|jC E h2 (fun h5=>?_) fun h8=>gA 6 E<|jC E h8 (fun h9=>?_) fun h12=>?_
 ·exact bK h5 fun y6 hy6 h7=>gA 4 E<|Kku [0,1,2,3,4,5] (I y6.1) (oH y6.2.1 0 1 2 3 [bg y6.2.2,.box 37 (fS s)]) C (Lsu hy6) E Z E E E E E E E E E E<|gO 6 E<|Knq<|oSi h7▸Kli hΓ [_] (.inr E) E E E E (.inr ⟨HB.mk E,E⟩)
 ·exact bK h9 fun y10 hy10 h11=>gA 4 E<|Kku [0,1,2,3,4,5] (I y10.1) (oH y10.2.1 0 1 2 3 [bg y10.2.2,.box 37 (fS s)]) C (Lsw hy10) E Z E E E E E E E E E E<|gO 6 E<|Knq<|oSi h11▸Kli hΓ [_] (.inr E) E E E E (.inr ⟨HB.mk E,E⟩)
 refine gA 5 E<|Kjq hmix (by kernel_rfl)<|bK h12 fun y13 hy13 h14=>gA 7 E<|Kkw C (Loy hy13) E E E E E E<|Kjl hΓ 3 E<|jC E h14 (fun h15=>?_) fun h16=>gA 3 E<|Kjq hmix (by kernel_rfl)<|gA 6 E<|gl_o E (Ksb hΓ (kv:=kS) (agg:=false) (enc:=(eH (some 0))) v_h.nodes s.Node (0:Nat) E E E E Kor E E E (Ksa E) E)<|Kjl hΓ 7 E<|eo_o E ((Ksf hΓ E E E E).1)<|gO 2 E<|jC E h16 (fun h17=>?_) fun h18=>?_
 ·exact gA 7 E<|Knq<|oSi h15▸Kli hΓ [_] (.inr E) E E E E (.inr ⟨HB.mk E,E⟩)
 ·exact gA 7 E<|Knq<|oSi h17▸Kli hΓ [_] (.inr E) E E E E (.inr ⟨HB.mk E,E⟩)
 refine gA 10 E<|jC E h18 (fun h19=>?_) fun h30=>gA 4 E<|Kjq hmix (by kernel_rfl)<|gK h30 fun hg32 h31=>gA 7 E<|gl_o E (Kto hg32 E)<|bK h31 fun m33 hm33 h34=>gl_o E (Ktq hΓ (enc:=Lnt) (bg:=5) m33 E E (ArU.r _ (ArU.r _ (ArU.l _ (Kru (fun _ _=>E) hm33 m33)))) E (g:=.agg (fM m33)) E E)<|bK h34 fun y35 hy35 h36=>Kkw C (Lta hy35) E E E E E E<|Kjl hΓ 3 E<|jC E h36 (fun h37=>?_) fun h38=>?_
 ·refine gK h19 fun hg21 h20=>gA 4 E<|eo_o E (Kto hg21 E)<|eo_o E (Ktp hΓ hg21 E E E E E E)<|bK h20 fun m22 hm22 h23=>eo_o E (Ktq hΓ (enc:=Lnt) (bg:=5) m22 E E (ArU.r _ (ArU.r _ (ArU.l _ (Kru (fun _ _=>E) hm22 m22)))) E (g:=B m22.Approved) E E)<|gO 2 E<|jC E h23 (fun h24=>?_) fun h25=>gK h25 fun hg27 h26=>gA 5 E<|eo_o E (Kto hg27 E)<|eo_o E (Ktp hΓ hg27 E E E E E E)<|bK h26 fun m28 hm28 h29=>eo_u Z (Ktr hΓ (enc:=Lnt) (bg:=5) m28 (⟨m28.Node,m28.User,m28.Name,m28.Public,m28.Tags,m28.Joined,m28.Expires,true⟩:Lgn) E E (ArU.r _ (ArU.r _ (ArU.l _ (Kru (fun _ _=>E) hm28 (⟨m28.Node,m28.User,m28.Name,m28.Public,m28.Tags,m28.Joined,m28.Expires,true⟩:Lgn))))) E E (by intro e;cases e) E E E E E E E) ?_
  ·exact gA 8 E<|Knq<|oSi h24▸Kli hΓ [_] (.inr E) E E E E (.inr ⟨HB.mk E,E⟩)
  exact Kld (oH v_h 0 1 2 3 [.bag al.1 (arX al.2.1 al.2.2.1 (hSet al.2.2.2.1 ((mGet v_h.nodes s.Node).getD 0) (⟨m28.Node,m28.User,m28.Name,m28.Public,m28.Tags,m28.Joined,m28.Expires,true⟩:Lgn)) al.2.2.2.2.1 al.2.2.2.2.2) [],.box 37 (fS s)]) E<|gO 9 E<|Knq<|oSi h29▸Kli hΓ [_] (.inr E) E E E E (.inr ⟨HB.mk E,E⟩)
 ·exact gA 7 E<|Knq<|oSi h37▸Kli hΓ [_] (.inr E) E E E E (.inr ⟨HB.mk E,E⟩)
 exact bK h38 fun y39 hy39 h40=>gA 7 E<|Kku [0,1,2,3,4,5] (I y39.1) (oH y39.2.1 0 1 2 3 [bg y39.2.2,.box 37 (fS s)]) C (Ltb hy39) E Z E E E E E E E E E E<|gO 4 E<|Knq<|oSi h40▸Kli hΓ [_] (.inr E) E E E E (.inr ⟨HB.mk E,E⟩)
theorem Lms{d:Lgf}{l:List Lgg}{v_at:Int}{al:BagT}{r:Lgs×(List Lgt)×BagT}(h:Llz d l v_at al=some r):EC Tryz.prog 94 [.agg (fD d),.d (Sl Lnm l),I v_at] [bg al] fun g hp'=>g=.tup [.ptr 5 0,.sl 6 r.2.1.length]∧hp'=(bg r.2.2::oH r.1 1 2 3 4 [rO 48 2 Lnx r.2.1]):=by
 unfold Llz at h
 refine Kqd (Fr.of 0 _) Tryz.func94 E (Fr.of_ok _) Z fun _=>Kjm<|gA 2 E<|Kxo E E E E Z<|bK h fun y1 hy1 h2=>gO 7 E<|Kku [] (.ptr 6 0) (bg al::.box 29 (fD d)::oH y1 2 3 4 5 []) C (Lsr hy1) E Z E E E E E E E E E E<|gO 5 E<|Kks (t:=0) 48 2 E Z<|gO 10 E<|bK h2 fun q6 hq6 h7=>Kkd 15 E fun hb9=>bK h7 fun q10 hq10 h11=>Knu [(8,.ptr 6 0),(9,.sl 7 q10.2.2.2.2.2.2.2.2.2.length)] [bg q10.1,.box 29 (fD d),mObH q10.2.1,mObH q10.2.2.1,mObB q10.2.2.2.1,mObV q10.2.2.2.2.1,.box 220 [.d (Sl eS q10.2.2.2.2.2.1),.d (Sl Lnk q10.2.2.2.2.2.2.1),I q10.2.2.2.2.2.2.2.1,B q10.2.2.2.2.2.2.2.2.1,.map 2,.map 3,.map 4,.map 5],rO 48 2 Lnx q10.2.2.2.2.2.2.2.2.2] ?_ ?_
 ·refine gA 1 E<|Kkc l hq6 (fun i3 s4=>[(2,I v_at),(8,.ptr 6 0),(9,.sl 7 s4.2.2.2.2.2.2.2.2.2.length),(15,.d (Sl Lnm l)),(16,I (l.length:Int)),(17,I (i3:Int))]) (fun s4=>[bg s4.1,.box 29 (fD d),mObH s4.2.1,mObH s4.2.2.1,mObB s4.2.2.2.1,mObV s4.2.2.2.2.1,.box 220 [.d (Sl eS s4.2.2.2.2.2.1),.d (Sl Lnk s4.2.2.2.2.2.2.1),I s4.2.2.2.2.2.2.2.1,B s4.2.2.2.2.2.2.2.2.1,.map 2,.map 3,.map 4,.map 5],rO 48 2 Lnx s4.2.2.2.2.2.2.2.2.2]) ⟨⟨E,E,E,E,E,E,tV⟩,[],E,.inl E⟩ (fun i3 x5 s4 y15 hx12 hlt hy13 hout14=>?_) (fun s4 hgo=>?_)
  ·refine gA 6 E<|Kjo E (decide_eq_true (Int.ofNat_lt.2 hlt))<|gA 7 E<|eo_o E (Kke hΓ (enc:=Lnm) (Kjx hx12) E E E E E (fun _=>E))<|gO 1 E<|Kxn hΓ E E E Z<|gO 1 E<|Kxs hΓ E E E E E E E E Z<|Kld [bg s4.1,.box 29 (fD d),mObH s4.2.1,mObH s4.2.2.1,mObB s4.2.2.2.1,mObV s4.2.2.2.2.1,.box 220 [.d (Sl eS s4.2.2.2.2.2.1),.d (Sl Lnk s4.2.2.2.2.2.2.1),I s4.2.2.2.2.2.2.2.1,B s4.2.2.2.2.2.2.2.2.1,.map 2,.map 3,.map 4,.map 5],rO 48 2 Lnx s4.2.2.2.2.2.2.2.2.2,.box 37 (fS x5)] E<|gO 11 E<|jC E hy13 (fun h16=>?_) fun h17=>bK h17 fun y18 hy18 h19=>gA 6 E<|Kku [2,3,4,5,6,0] (I y18.1) (bg y18.2.2::.box 29 (fD d)::oH y18.2.1 2 3 4 5 [rO 48 2 Lnx s4.2.2.2.2.2.2.2.2.2,.box 37 (fS x5)]) C (Lmr hy18) E Z E E E E E E E E E E<|gO 9 E<|jC E h19 (fun h20=>?_) fun h23=>?_
   ·refine gA 6 E ?_
    cases h16
    obtain rfl:=hout14 _ rfl
    exact oSi hq10▸⟨⟨E,E,tV⟩,[_],E,.inr ⟨HB.mk E,FB.mk E,Z⟩⟩
   ·refine gA 4 E<|Khr hΓ (gs:=[I (i3:Int),I y18.1]) E E E E E E E<|Kkp hΓ (enc:=Lnx) [(⟨(i3:Int),y18.1⟩:Lgt)] E E E E E E E E E E E E Z<|bK h20 fun y21 hy21 h22=>Kle hΓ (enc:=Lnx) hy21 E E E E E E E E E (fun _=>E) E E E E<|gO 8 E ?_
    cases h22
    exact⟨_,E,⟨⟨E,E,E,E,E,Kiv E (Kiu (nLl hlt hb9)),tV⟩,[_],E,.inr ⟨HB.mk E,FB.mk E,Z⟩⟩⟩
   refine gA 7 E ?_
   cases h23
   exact⟨_,E,⟨⟨E,E,E,E,E,Kiv E (Kiu (nLl hlt hb9)),tV⟩,[_],E,.inr ⟨HB.mk E,FB.mk E,Z⟩⟩⟩
  subst hgo
  exact gA 6 E<|Kjp E (decide_eq_false (Int.lt_irrefl _))<|gA 4 E<|oSi hq10▸⟨⟨E,E,tV⟩,[],E,.inl E⟩
 exact gA 10 E<|Kpy 1 [bg q10.1,.dead,mObH q10.2.1,mObH q10.2.2.1,mObB q10.2.2.2.1,mObV q10.2.2.2.2.1,.box 220 [.d (Sl eS q10.2.2.2.2.2.1),.d (Sl Lnk q10.2.2.2.2.2.2.1),I q10.2.2.2.2.2.2.2.1,B q10.2.2.2.2.2.2.2.2.1,.map 2,.map 3,.map 4,.map 5],rO 48 2 Lnx q10.2.2.2.2.2.2.2.2.2] E Z<|Kns 2 1 [bg q10.1,mObH q10.2.1,.dead,mObH q10.2.2.1,mObB q10.2.2.2.1,mObV q10.2.2.2.2.1,.box 220 [.d (Sl eS q10.2.2.2.2.2.1),.d (Sl Lnk q10.2.2.2.2.2.2.1),I q10.2.2.2.2.2.2.2.1,B q10.2.2.2.2.2.2.2.2.1,.map 1,.map 3,.map 4,.map 5],rO 48 2 Lnx q10.2.2.2.2.2.2.2.2.2] E E E E E E<|Kns 3 2 [bg q10.1,mObH q10.2.1,mObH q10.2.2.1,.dead,mObB q10.2.2.2.1,mObV q10.2.2.2.2.1,.box 220 [.d (Sl eS q10.2.2.2.2.2.1),.d (Sl Lnk q10.2.2.2.2.2.2.1),I q10.2.2.2.2.2.2.2.1,B q10.2.2.2.2.2.2.2.2.1,.map 1,.map 2,.map 4,.map 5],rO 48 2 Lnx q10.2.2.2.2.2.2.2.2.2] E E E E E E<|Kns 4 3 [bg q10.1,mObH q10.2.1,mObH q10.2.2.1,mObB q10.2.2.2.1,.dead,mObV q10.2.2.2.2.1,.box 220 [.d (Sl eS q10.2.2.2.2.2.1),.d (Sl Lnk q10.2.2.2.2.2.2.1),I q10.2.2.2.2.2.2.2.1,B q10.2.2.2.2.2.2.2.2.1,.map 1,.map 2,.map 3,.map 5],rO 48 2 Lnx q10.2.2.2.2.2.2.2.2.2] E E E E E E<|Kns 5 4 [bg q10.1,mObH q10.2.1,mObH q10.2.2.1,mObB q10.2.2.2.1,mObV q10.2.2.2.2.1,.dead,.box 220 [.d (Sl eS q10.2.2.2.2.2.1),.d (Sl Lnk q10.2.2.2.2.2.2.1),I q10.2.2.2.2.2.2.2.1,B q10.2.2.2.2.2.2.2.2.1,.map 1,.map 2,.map 3,.map 4],rO 48 2 Lnx q10.2.2.2.2.2.2.2.2.2] E E E E E E<|Kns 6 5 [bg q10.1,mObH q10.2.1,mObH q10.2.2.1,mObB q10.2.2.2.1,mObV q10.2.2.2.2.1,.box 220 [.d (Sl eS q10.2.2.2.2.2.1),.d (Sl Lnk q10.2.2.2.2.2.2.1),I q10.2.2.2.2.2.2.2.1,B q10.2.2.2.2.2.2.2.2.1,.map 1,.map 2,.map 3,.map 4],.dead,rO 48 2 Lnx q10.2.2.2.2.2.2.2.2.2] E E E E E E<|Kns 7 6 [bg q10.1,mObH q10.2.1,mObH q10.2.2.1,mObB q10.2.2.2.1,mObV q10.2.2.2.2.1,.box 220 [.d (Sl eS q10.2.2.2.2.2.1),.d (Sl Lnk q10.2.2.2.2.2.2.1),I q10.2.2.2.2.2.2.2.1,B q10.2.2.2.2.2.2.2.2.1,.map 1,.map 2,.map 3,.map 4],rO 48 2 Lnx q10.2.2.2.2.2.2.2.2.2,.dead] E E E E E E<|Knq<|oSi h11▸Kli hΓ [_] (.inr E) E E E E (.inr ⟨HB.mk E,E⟩)
theorem Lmt{x:Int}{r:Int}(h:Lma x=some r):Pure Tryz.prog 294 [U x] (I r):=by
 unfold Lma at h
 refine Pure.enter (Fr.of 0 _) Tryz.func294 E (Fr.of_ok _) E E<|Kjm<|bK h fun q1 hq1 h2=>gA 12 E<|Knu [(0,U q1.1),(2,I q1.2)] [] ?_ ?_
 ·refine jC E hq1 (fun h3=>?_) fun h4=>gA 1 E<|oSi h4▸⟨⟨E,E,tV⟩,[],E,.inl E⟩
  exact gA 10 E<|oSi h3▸⟨⟨E,E,tV⟩,[],E,.inl E⟩
 refine bK h2 fun q5 hq5 h6=>gA 8 E<|Knu [(0,U q5.1),(2,I q5.2)] [] ?_ ?_
 ·refine jC E hq5 (fun h7=>?_) fun h8=>gA 1 E<|oSi h8▸⟨⟨E,E,tV⟩,[],E,.inl E⟩
  exact gA 12 E<|oSi h7▸⟨⟨E,E,tV⟩,[],E,.inl E⟩
 refine bK h6 fun q9 hq9 h10=>gA 8 E<|Knu [(0,U q9.1),(2,I q9.2)] [] ?_ ?_
 ·refine jC E hq9 (fun h11=>?_) fun h12=>gA 1 E<|oSi h12▸⟨⟨E,E,tV⟩,[],E,.inl E⟩
  exact gA 12 E<|oSi h11▸⟨⟨E,E,tV⟩,[],E,.inl E⟩
 exact bK h10 fun c13 hc13 h14=>gA 6 E<|eo_o E (Kkf hΓ hc13 E E E E)<|gO 6 E<|oSi h14▸gP E E
theorem Lmu{x:Int}{r:Int}(h:Lmb x=some r):Pure Tryz.prog 215 [U x] (I r):=by
 unfold Lmb at h
 exact Pure.enter (Fr.of 0 _) Tryz.func215 E (Fr.of_ok _) E E<|Kjm<|gA 6 E<|Kpg<|bK h fun y1 hy1 h2=>gA 5 E<|Kkv C (Lmt hy1) E Z E E E E E<|gO 4 E<|oSi h2▸gP E E
theorem Lmv{a:Lgn}{b:Lgn}{r:Int}(h:Lmc a b=some r):Pure Tryz.prog 146 [.agg (fM a),.agg (fM b)] (I r):=by
 unfold Lmc at h
 exact Pure.enter (Fr.of 0 _) Tryz.func146 E (Fr.of_ok _) E E<|Kjm<|gA 2 E<|Kxo E E E E Z<|Kxo E E E E Z<|bK h fun y1 hy1 h2=>gO 9 E<|Kkv C (Lfu hy1) E Z E E E E E<|gO 4 E<|oSi h2▸gP E E
theorem Lmw{k:Nat}{data:List Lgn}{a:Int}{b:Int}{r:List Lgn}(h:Lmd k data a b=some r):EC Tryz.prog 308 [.sl 0 data.length,I a,I b,.fn (.func 146) [] []] [rO 77 8 Lnt data] fun g hp'=>g=.tup []∧hp'=[rO 77 8 Lnt r]:=by
 unfold Lmd at h
 refine Kvz (Fr.of 0 _) Tryz.func308 E (Fr.of_ok _) Z fun _=>Kjm<|gA 7 E<|bK h fun q4 hq4 h5=>Knu [] [rO 77 8 Lnt q4] ?_ ?_
 ·refine gA 1 E<|Kka hq4 (fun s2=>[(0,.sl 0 s2.1.length),(1,I a),(2,I b),(3,.fn (.func 146) [] []),(8,I s2.2)]) (fun s2=>[rO 77 8 Lnt s2.1]) ⟨⟨E,E,E,E,E,tV⟩,[],E,.inl E⟩ (fun s2 y10 hy8 hout9=>?_)
  refine gA 8 E<|jC E hy8 (fun h11=>?_) fun h51=>gA 4 E ?_
  ·refine gA 10 E<|bK h11 fun q15 hq15 h16=>Knu [(0,.sl 0 q15.length),(1,I a),(2,I b),(3,.fn (.func 146) [] []),(8,I s2.2)] [rO 77 8 Lnt q15] ?_ ?_
   ·refine gA 1 E<|Kka hq15 (fun s13=>[(0,.sl 0 s13.1.length),(1,I a),(2,I b),(3,.fn (.func 146) [] []),(8,I s2.2),(9,I s13.2)]) (fun s13=>[rO 77 8 Lnt s13.1]) ⟨⟨E,E,E,E,E,E,tV⟩,[],E,.inl E⟩ (fun s13 y21 hy19 hout20=>?_)
    refine bK hy19 fun q22 hq22 h23=>gA 2 E<|Knu [(0,.sl 0 s13.1.length),(1,I a),(2,I b),(3,.fn (.func 146) [] []),(8,I s2.2),(9,I s13.2),(34,B q22)] [rO 77 8 Lnt s13.1] ?_ ?_
    ·refine Kjq hmix (by kernel_rfl)<|gA 4 E<|Kib E E (fun hb=>?_) (fun hb=>?_)
     ·have h24:=cT hq22 hb
      refine bK h24 fun x25 hx25 h26=>?_
      have hj27:=Kln hx25
      refine Kjl hΓ 3 E<|Kix E E (Kkg hΓ hx25 E E E E E E)<|Kix E E (Kkm hΓ (enc:=Lnt) s13.2.toNat 0 hj27 E E E E (fun _=>E) (g:=.agg (fM x25)) E)<|bK h26 fun x28 hx28 h29=>?_
      have hj30:=Kln hx28
      exact Kjl hΓ 3 E<|Kix E E (Kkg hΓ hx28 E E E E E E)<|Kix E E (Kkm hΓ (enc:=Lnt) ((wi (s13.2 - 1)).toNat) 0 hj30 E E E E (fun _=>E) (g:=.agg (fM x28)) E)<|bK h29 fun y31 hy31 h32=>Kkx C (Lmv hy31) E E E E E E E<|Kjl hΓ 3 E<|oSi h32▸⟨⟨E,E,E,E,E,E,E,tV⟩,[],E,.inl E⟩
     have h33:=cF hq22 hb
     exact Kjl hΓ 14 E<|oSi h33▸⟨⟨E,E,E,E,E,E,E,tV⟩,[],E,.inl E⟩
    refine gA 1 E<|jC E h23 (fun h34=>?_) fun h50=>gA 4 E ?_
    ·refine gA 4 E<|Kmu [rO 77 8 Lnt s13.1] [9,13] [15,17] [15,17] hmix (by kernel_rfl) (by kernel_rfl) ⟨E,tV⟩ Z<|bK h34 fun x35 hx35 h36=>?_
     have hj37:=Kln hx35
     refine go_E hΓ 8 E<|ge_q E (.inl E) (fun _ _=>Kmx (qt_p (Kkg hΓ hx35 E E E E E E)))<|ge_p E (fun hp hs=>Kkm hΓ (enc:=Lnt) ((wi (s13.2 - 1)).toNat) 0 hj37 E E E (hs 0 _ E E) (fun _=>E) (g:=.agg (fM x35)) E) E<|bK h36 fun x38 hx38 h39=>?_
     have hj40:=Kln hx38
     refine go_E hΓ 2 E<|ge_q E (.inl E) (fun _ _=>Kmx (qt_p (Kkg hΓ hx38 E E E E E E)))<|ge_p E (fun hp hs=>Kkm hΓ (enc:=Lnt) s13.2.toNat 0 hj40 E E E (hs 0 _ E E) (fun _=>E) (g:=.agg (fM x38)) E) E<|bK h39 fun x41 hx41 h42=>?_
     have hj43:=Kln hx41
     refine ge_q E (.inl E) (fun _ _=>Kmx (qt_p (Kkg hΓ hx41 E E E E E E)))<|Kmz [rO 77 8 Lnt (s13.1.set s13.2.toNat x35)] E E (Kna E) (Knf (Koh hΓ (enc:=Lnt) (z':=x35) s13.2.toNat (by have:=(gEs.1 hj43).1;simpa using this) E E E E (fun _=>E) E E E E E)) ?_
     refine bK h42 fun x44 hx44 h45=>?_
     have hj46:=Kln hx44
     refine ge_q E (.inl E) (fun _ _=>Kmx (qt_p (Kkg hΓ hx44 E E E E E E)))<|bK h45 fun x47 hx47 h48=>?_
     have hj49:(s13.1.set s13.2.toNat x35)[(wi (s13.2 - 1)).toNat]?=some x47:=hx47
     refine Kmz [rO 77 8 Lnt ((s13.1.set s13.2.toNat x35).set ((wi (s13.2 - 1)).toNat) x38)] E E (Kna E) (Knf (Koh hΓ (enc:=Lnt) (z':=x38) ((wi (s13.2 - 1)).toNat) (by have:=(gEs.1 hj49).1;simpa using this) E E E E (fun _=>E) E E E E E)) ?_
     refine Kmw<|gA 2 E<|Koi 0 (n':=((s13.1.set s13.2.toNat x35).set ((wi (s13.2 - 1)).toNat) x38).length) E (by simp) ?_
     refine Koi 37 (n':=((s13.1.set s13.2.toNat x35).set ((wi (s13.2 - 1)).toNat) x38).length) E (by simp) ?_
     refine Koi 39 (n':=((s13.1.set s13.2.toNat x35).set ((wi (s13.2 - 1)).toNat) x38).length) E (by simp) ?_
     refine Koi 42 (n':=((s13.1.set s13.2.toNat x35).set ((wi (s13.2 - 1)).toNat) x38).length) E (by simp) ?_
     refine Koi 47 (n':=((s13.1.set s13.2.toNat x35).set ((wi (s13.2 - 1)).toNat) x38).length) E (by simp) ?_
     exact gA 5 E<|oSi h48▸⟨_,E,⟨⟨E,E,E,E,E,E,tV⟩,[],E,.inl E⟩⟩
    cases h50
    obtain rfl:=hout20 _ rfl
    exact⟨⟨E,E,E,E,E,tV⟩,[],E,.inl E⟩
   exact gA 7 E<|oSi h16▸⟨_,E,⟨⟨E,E,E,E,E,tV⟩,[],E,.inl E⟩⟩
  cases h51
  obtain rfl:=hout9 _ rfl
  exact⟨tV,[],E,.inl E⟩
 exact oSi h5▸Kli hΓ [] (.inl E) E E E E (.inl E)
theorem Lmx{k:Nat}{data:List Lgn}{a:Int}{b:Int}{limit:Int}{r:List Lgn}(h:Lme k data a b limit=some r):EC Tryz.prog 234 [.sl 0 data.length,I a,I b,I limit,.fn (.func 146) [] []] [rO 77 8 Lnt data] fun g hp'=>g=.tup []∧hp'=[rO 77 8 Lnt r]:=by
 unfold Lme at h
 refine Kvz (Fr.of 0 _) Tryz.func234 E (Fr.of_ok _) Z fun _=>Kjm<|gA 10 E<|bK h fun q4 hq4 h5=>gA 1 E<|Kka hq4 (fun s2=>[(0,.sl 0 data.length),(1,I a),(2,I b),(3,I limit),(4,.fn (.func 146) [] []),(10,B true),(11,B true)]) (fun s2=>[rO 77 8 Lnt data]) ⟨⟨E,E,E,E,E,E,E,tV⟩,[],E,.inl E⟩ (fun s2 y10 hy8 hout9=>?_)
 refine gA 16 E<|jC E hy8 (fun h11=>?_) fun h16=>gA 9 E<|jC E h16 (fun h17=>?_) fun h18=>?_
 ·refine bK h11 fun y12 hy12 h13=>gA 6 E<|Kku [0] (.tup []) [rO 77 8 Lnt y12] C (Lmw hy12) E Z E E E E E E E E E E<|gO 5 E<|bK h13 fun v14 hv14 h15=>?_
  cases h15
  obtain rfl:=hout9 _ rfl
  cases h5
  exact gA 2 E<|oSi hv14▸Kli hΓ [] (.inr E) E E E E (.inl E)
 ·refine gA 6 E ?_
  cases h17
 refine gA 18 E ?_
 cases h18
theorem Lmy{k:Nat}{x:List Lgn}{r:List Lgn}(h:Lmf k x=some r):EC Tryz.prog 145 [.sl 0 x.length,.fn (.func 146) [] []] [rO 77 8 Lnt x] fun g hp'=>g=.tup []∧hp'=[rO 77 8 Lnt r]:=by
 unfold Lmf at h
 exact Kvz (Fr.of 0 _) Tryz.func145 E (Fr.of_ok _) Z fun _=>Kjm<|bK h fun y1 hy1 h2=>gA 12 E<|Kkv C (Lmu hy1) E Z E E E E E<|bK h2 fun y3 hy3 h4=>gO 1 E<|Kku [0] (.tup []) [rO 77 8 Lnt y3] C (Lmx hy3) E Z E E E E E E E E E E<|gO 1 E<|oSi h4▸Kli hΓ [] (.inl E) E E E E (.inl E)
theorem Lmz{k:Nat}{d:Lgf}{l:List Lgg}{v_at:Int}{al:BagT}{r:(List Lgn)×BagT}(h:Lmg k d l v_at al=some r):EC Tryz.prog 49 [.agg (fD d),.d (Sl Lnm l),I v_at] [bg al] fun g hp'=>g=.sl 1 r.1.length∧hp'=[bg r.2,rO 77 8 Lnt r.1]:=by
 unfold Lmg at h
 refine Kqd (Fr.of 0 _) Tryz.func49 E (Fr.of_ok _) Z fun _=>Kjm<|gA 2 E<|Kxo E E E E Z<|bK h fun y1 hy1 h2=>gO 8 E<|Kku [0] (.tup [.ptr 6 0,.sl 7 y1.2.1.length]) (bg y1.2.2::.box 29 (fD d)::oH y1.1 2 3 4 5 [rO 48 2 Lnx y1.2.1]) C (Lms hy1) E Z E E E E E E E E E E<|Klb 7 [16] _ (bg y1.2.2::.box 29 (fD d)::oH y1.1 2 3 4 5 [.dead]) E E E Z<|gO 9 E<|Kks (t:=0) 77 8 E Z<|gO 9 E<|Kps hΓ (kv:=kS) (agg:=false) (enc:=(eH (some 0))) y1.1.nodes E E E E E Z (fun mr3 bs4 cl5 hpm6 hbl7 hbn8=>?_)
 refine Kld [bg y1.2.2,.box 29 (fD d),mObH y1.1.keys,mObS kS false (eH (some 0)) y1.1.nodes (rawM kS (eH (some 0)) mr3 bs4 cl5),mObB y1.1.ever,mObV y1.1.History,bH y1.1 2 3 4 5,.dead,rO 77 8 Lnt ([]:List Lgn),.iter 3 cl5 []] E<|gO 2 E<|gA 1 E<|Ksh (Kut h2) hpm6 hbl7 hbn8 (fun s9=>[(9,.sl 8 s9.length),(23,.ptr 9 0)]) (fun sn11 s9=>[bg y1.2.2,.box 29 (fD d),mObH y1.1.keys,mObS kS false (eH (some 0)) y1.1.nodes (rawM kS (eH (some 0)) mr3 bs4 cl5),mObB y1.1.ever,mObV y1.1.History,bH y1.1 2 3 4 5,.dead,rO 77 8 Lnt s9,.iter 3 cl5 sn11]) ⟨⟨E,E,tV⟩,[],E,.inl E⟩ (fun sn11 s9 hdone14 hstep15=>?_)
 refine gA 2 E<|Kpt (kv:=kS) (agg:=false) (enc:=(eH (some 0))) y1.1.nodes mr3 bs4 cl5 sn11 (bg y1.2.2::.box 29 (fD d)::oH y1.1 2 3 4 5 [.dead,rO 77 8 Lnt s9,.dead]) E E E E E Z (fun hdsn11=>?_) (fun j12 x10 b13 hjsn11 hbsn11 hnsn11=>?_)
 ·have h16:=hdone14 hdsn11
  exact bK h16 fun y17 hy17 h18=>gO 13 E<|Kku [8] (.tup []) (bg y1.2.2::.box 29 (fD d)::oH y1.1 2 3 4 5 [.dead,rO 77 8 Lnt y17,.dead]) C (Lmy hy17) E Z E E E E E E E E E E<|gK h18 fun hg20 h19=>Koe 9 E (of_decide_eq_true hg20).symm<|gO 9 E<|Kpy 1 (bg y1.2.2::.dead::oH y1.1 2 3 4 5 [.dead,rO 77 8 Lnt y17,.dead]) E Z<|Kns 8 1 (bg y1.2.2::rO 77 8 Lnt y17::oH y1.1 2 3 4 5 [.dead,.dead,.dead]) E E E E E E<|Knq<|oSi h19▸Kli hΓ [_,_,_,_,_,_,_,_] (.inr E) E E E E (.inr ⟨HB.mk E,E⟩)
 obtain⟨s21,h22⟩:=hstep15 j12 x10 b13 hjsn11 hbsn11 hnsn11
 have hssn11:=h22
 refine gO 10 E<|eo_o E (Kpu (kv:=kS) (agg:=false) (enc:=(eH (some 0))) y1.1.nodes mr3 bs4 cl5 sn11 hjsn11 hbsn11 E E E E (fun _=>E))<|gK h22 fun hg24 h23=>gO 7 E<|eo_o E (Kto hg24 E)<|bK h23 fun m25 hm25 h26=>eo_o E (Ktq hΓ (enc:=Lnt) (bg:=0) m25 E E (ArU.r _ (ArU.r _ (ArU.l _ (Kru (fun _ _=>E) hm25 m25)))) E (g:=.agg (fM m25)) E E)<|Kkp hΓ (enc:=Lnt) [m25] E E E E E E E E E E E E Z<|bK h26 fun y27 hy27 h28=>Kle hΓ (enc:=Lnt) hy27 E E E E E E E E E (fun _=>E) E E E E<|gO 3 E ?_
 cases h28
 exact⟨j12,x10,b13,_,hjsn11,hbsn11,hnsn11,hssn11,⟨⟨E,E,tV⟩,[],E,.inl E⟩⟩
theorem Lna{k:Nat}{d:Lgf}{l:List Lgg}{v_at:Int}{al:BagT}{r:(List Str)×BagT}(h:Lmh k d l v_at al=some r):EC Tryz.prog 74 [.agg (fD d),.d (Sl Lnm l),I v_at] [bg al] fun g hp'=>g=.sl 1 r.1.length∧hp'=[bg r.2,rO 9 1 eS r.1]:=by
 unfold Lmh at h
 refine Kqd (Fr.of 0 _) Tryz.func74 E (Fr.of_ok _) Z fun _=>Kjm<|gA 2 E<|Kxo E E E E Z<|gO 5 E<|Kks (t:=0) 9 1 E Z<|bK h fun y1 hy1 h2=>gO 8 E<|Kku [0] (.sl 3 y1.1.length) [bg y1.2,.box 29 (fD d),rO 9 1 eS ([]:List Str),rO 77 8 Lnt y1.1] C (Lmz hy1) E Z E E E E E E E E E E<|Klb 3 [13] _ [bg y1.2,.box 29 (fD d),rO 9 1 eS ([]:List Str),.dead] E E E Z<|gO 4 E<|bK h2 fun q6 hq6 h7=>Kkd 13 E fun hb9=>Knu [(7,.sl 2 q6.length)] [bg y1.2,.box 29 (fD d),rO 9 1 eS q6,.dead] ?_ ?_
 ·refine gA 1 E<|Klk y1.1 hq6 (fun i3 s4=>[(2,I v_at),(7,.sl 2 s4.length),(13,.d (Sl Lnt y1.1)),(14,I (y1.1.length:Int)),(15,I (i3:Int))]) (fun s4=>[bg y1.2,.box 29 (fD d),rO 9 1 eS s4,.dead]) ⟨⟨E,E,E,E,E,tV⟩,[],E,.inl E⟩ (fun i3 x5 s4 y13 hx10 hlt hy11=>?_) (?_)
  ·refine gA 6 E<|Kjo E (decide_eq_true (Int.ofNat_lt.2 hlt))<|gA 6 E<|eo_o E (Kke hΓ (enc:=Lnt) (Kjx hx10) E E E E E (fun _=>E))<|gO 1 E<|Kxn hΓ E E E Z<|Kxs hΓ E E E E E E E E Z<|Kld [bg y1.2,.box 29 (fD d),rO 9 1 eS s4,.dead,.box 77 (fM x5)] E<|gO 7 E<|Kjt 5 [(2,I v_at),(7,.sl 2 s4.length),(9,.ptr 4 0),(13,.d (Sl Lnt y1.1)),(14,I (y1.1.length:Int)),(15,I (i3:Int)),(26,B (x5.Approved&&(decide ((v_at:Int)<x5.Expires))))] [bg y1.2,.box 29 (fD d),rO 9 1 eS s4,.dead,.box 77 (fM x5)] ?_ ?_
   ·refine Kwh E E (fun hb=>?_) (fun hb=>?_)
    ·exact gO 6 E<|⟨⟨E,E,E,E,E,E,Kiw E (Klo hb),tV⟩,[],E,.inl E⟩
    exact gO 6 E<|⟨⟨E,E,E,E,E,E,Kiw E (Klp hb),tV⟩,[],E,.inl E⟩
   refine gO 2 E<|jC E hy11 (fun h14=>?_) fun h17=>gA 7 E ?_
   ·refine gA 4 E<|Kkp hΓ (enc:=eS) [x5.Node] E E E E E E E E E E E E Z<|bK h14 fun y15 hy15 h16=>Kle hΓ (enc:=eS) hy15 E E E E E E E E E (fun _=>E) E E E E<|gO 8 E ?_
    cases h16
    exact⟨⟨E,E,E,E,Kiv E (Kiu (nLl hlt hb9)),tV⟩,[_],E,.inr ⟨HB.mk E,FB.mk E,Z⟩⟩
   cases h17
   exact⟨⟨E,E,E,E,Kiv E (Kiu (nLl hlt hb9)),tV⟩,[_],E,.inr ⟨HB.mk E,FB.mk E,Z⟩⟩
  exact gA 6 E<|Kjp E (decide_eq_false (Int.lt_irrefl _))<|gA 4 E<|⟨⟨E,tV⟩,[],E,.inl E⟩
 exact gA 8 E<|Kpy 1 [bg y1.2,.dead,rO 9 1 eS q6,.dead] E Z<|Kns 2 1 [bg y1.2,rO 9 1 eS q6,.dead,.dead] E E E E E E<|Knq<|oSi h7▸Kli hΓ [_,_] (.inr E) E E E E (.inr ⟨HB.mk E,E⟩)
theorem Lnb{k:Nat}{d:Lgf}{l:List Lgg}{node:Str}{v_at:Int}{al:BagT}{r:Lgn×Bool×BagT}(h:Lmi k d l node v_at al=some r):EC Tryz.prog 54 [.agg (fD d),.d (Sl Lnm l),S node,I v_at] [bg al] fun g hp'=>g=.tup [.agg (fM r.1),B r.2.1]∧hp'=[bg r.2.2]:=by
 unfold Lmi at h
 refine Kvz (Fr.of 0 _) Tryz.func54 E (Fr.of_ok _) Z fun _=>Kjm<|gA 2 E<|Kxo E E E E Z<|Kxn hΓ E E E Z<|bK h fun y1 hy1 h2=>gO 9 E<|Kku [0] (.sl 3 y1.1.length) [bg y1.2,.box 29 (fD d),.box 77 [S [],S [],S [],S [],.d (Sl eS []),I 0,I 0,B false],rO 77 8 Lnt y1.1] C (Lmz hy1) E Z E E E E E E E E E E<|Klb 3 [15] _ [bg y1.2,.box 29 (fD d),.box 77 [S [],S [],S [],S [],.d (Sl eS []),I 0,I 0,B false],.dead] E E E Z<|gO 4 E<|bK h2 fun q6 hq6 h7=>Kkd 15 E fun hb9=>Knt (R:=fun a8=>q6=.go a8) (fun a8=>[(8,.ptr 2 0)]) (fun a8=>[bg y1.2,.box 29 (fD d),.box 77 [S [],S [],S [],S [],.d (Sl eS []),I 0,I 0,B false],.dead]) ?_ ?_
 ·refine gA 1 E<|Kkc y1.1 hq6 (fun i3 s4=>[(2,S node),(8,.ptr 2 0),(15,.d (Sl Lnt y1.1)),(16,I (y1.1.length:Int)),(17,I (i3:Int))]) (fun s4=>[bg y1.2,.box 29 (fD d),.box 77 [S [],S [],S [],S [],.d (Sl eS []),I 0,I 0,B false],.dead]) ⟨⟨E,E,E,E,E,tV⟩,[],E,.inl E⟩ (fun i3 x5 s4 y13 hx10 hlt hy11 hout12=>?_) (fun s4 hgo=>?_)
  ·refine gA 6 E<|Kjo E (decide_eq_true (Int.ofNat_lt.2 hlt))<|gA 6 E<|eo_o E (Kke hΓ (enc:=Lnt) (Kjx hx10) E E E E E (fun _=>E))<|gO 1 E<|Kxn hΓ E E E Z<|Kxs hΓ E E E E E E E E Z<|Kld [bg y1.2,.box 29 (fD d),.box 77 [S [],S [],S [],S [],.d (Sl eS []),I 0,I 0,B false],.dead,.box 77 (fM x5)] E<|gO 10 E<|jC E hy11 (fun h14=>?_) fun h17=>gA 7 E ?_
   ·refine gA 3 E<|Kxs hΓ E E E E E E E E Z<|Kld [bg y1.2,.box 29 (fD d),.box 77 (fM x5),.dead,.box 77 (fM x5)] E<|gO 6 E<|bK h14 fun v15 hv15 h16=>?_
    cases h16
    obtain rfl:=hout12 _ rfl
    cases h7
    exact gA 4 E<|oSi hv15▸Kli hΓ [_,_,_,_] (.inr E) E E E E (.inr ⟨HB.mk E,E⟩)
   cases h17
   exact⟨_,E,⟨⟨E,E,E,E,Kiv E (Kiu (nLl hlt hb9)),tV⟩,[_],E,.inr ⟨HB.mk E,FB.mk E,Z⟩⟩⟩
  subst hgo
  exact gA 6 E<|Kjp E (decide_eq_false (Int.lt_irrefl _))<|gA 4 E<|⟨_,E,⟨⟨E,tV⟩,[],E,.inl E⟩⟩
 intro a8 ha
 subst ha
 replace h7:=Kno h7
 exact gA 3 E<|Khr hΓ (gs:=[S [],S [],S [],S [],.d (Sl eS []),I 0,I 0,B false]) E E E E E E E<|Kxs hΓ E E E E E E E E Z<|Kld [bg y1.2,.box 29 (fD d),.box 77 [S [],S [],S [],S [],.d (Sl eS []),I 0,I 0,B false],.dead] E<|gO 4 E<|oSi h7▸Kli hΓ [_,_,_] (.inr E) E E E E (.inr ⟨HB.mk E,E⟩)
theorem Lnc{k:Nat}{d:Lgf}{l:List Lgg}{places:List Lgk}{v_at:Int}{al:BagT}{r:(List Lgm)×BagT}(h:Lmj k d l places v_at al=some r):EC Tryz.prog 81 [.agg (fD d),.d (Sl Lnm l),.d (Sl Lnq places),I v_at] [bg al] fun g hp'=>g=.sl 1 r.1.length∧hp'=[bg r.2,rO 138 6 Lns r.1]:=by
 unfold Lmj at h
 refine Kqd (Fr.of 0 _) Tryz.func81 E (Fr.of_ok _) Z fun _=>Kjm<|gA 2 E<|Kxo E E E E Z<|gO 5 E<|Kks (t:=0) 138 6 E Z<|bK h fun y1 hy1 h2=>gO 8 E<|Kku [0] (.sl 3 y1.1.length) [bg y1.2,.box 29 (fD d),rO 138 6 Lns ([]:List Lgm),rO 9 1 eS y1.1] C (Lna hy1) E Z E E E E E E E E E E<|Klb 3 [20] _ [bg y1.2,.box 29 (fD d),rO 138 6 Lns ([]:List Lgm),.dead] E E E Z<|gO 4 E<|bK h2 fun q6 hq6 h7=>Kkd 20 E fun hb9=>Knu [(9,.sl 2 q6.2.length)] [bg q6.1,.box 29 (fD d),rO 138 6 Lns q6.2,.dead] ?_ ?_
 ·refine gA 1 E<|Klk y1.1 hq6 (fun i3 s4=>[(1,.d (Sl Lnm l)),(2,.d (Sl Lnq places)),(3,I v_at),(4,.ptr 1 0),(9,.sl 2 s4.2.length),(20,.d (Sl eS y1.1)),(21,I (y1.1.length:Int)),(22,I (i3:Int))]) (fun s4=>[bg s4.1,.box 29 (fD d),rO 138 6 Lns s4.2,.dead]) ⟨⟨E,E,E,E,E,E,E,E,tV⟩,[],E,.inl E⟩ (fun i3 x5 s4 y13 hx10 hlt hy11=>?_) (?_)
  ·refine gA 6 E<|Kjo E (decide_eq_true (Int.ofNat_lt.2 hlt))<|gA 6 E<|eo_o E (Kke hΓ (enc:=eS) (Kjx hx10) E E E E E (fun _=>E))<|bK hy11 fun y14 hy14 h15=>gO 10 E<|Kku [0] (.tup [.agg (fM y14.1),B y14.2.1]) [bg y14.2.2,.box 29 (fD d),rO 138 6 Lns s4.2,.dead] C (Lnb hy14) E Z E E E E E E E E E E<|gO 3 E<|Kxn hΓ E E E Z<|Kxs hΓ E E E E E E E E Z<|Kld [bg y14.2.2,.box 29 (fD d),rO 138 6 Lns s4.2,.dead,.box 77 (fM y14.1)] E<|gO 12 E<|Khr hΓ (gs:=[S x5,S y14.1.User,S y14.1.Name,.d (Sl eS y14.1.Tags),.d (Sl Lno []),.d (Sl Lnp [])]) E E E E E E E<|Kxn hΓ E E E Z<|Kxs hΓ E E E E E E E E Z<|Kld [bg y14.2.2,.box 29 (fD d),rO 138 6 Lns s4.2,.dead,.box 77 (fM y14.1),.box 138 [S x5,S y14.1.User,S y14.1.Name,.d (Sl eS y14.1.Tags),.d (Sl Lno []),.d (Sl Lnp [])]] E<|gO 10 E<|bK h15 fun q19 hq19 h20=>Kkd 2 E fun hb22=>Knu [(1,.d (Sl Lnm l)),(2,.d (Sl Lnq places)),(3,I v_at),(4,.ptr 1 0),(9,.sl 2 s4.2.length),(14,.ptr 5 0),(20,.d (Sl eS y1.1)),(21,I (y1.1.length:Int)),(22,I (i3:Int))] [bg y14.2.2,.box 29 (fD d),rO 138 6 Lns s4.2,.dead,.box 77 (fM y14.1),.box 138 [S q19.Key,S q19.User,S q19.Name,.d (Sl eS q19.Tags),.d (Sl Lno q19.Addrs),.d (Sl Lnp q19.Routes)]] ?_ ?_
   ·refine gA 1 E<|Klk places hq19 (fun i16 s17=>[(1,.d (Sl Lnm l)),(2,.d (Sl Lnq places)),(3,I v_at),(4,.ptr 1 0),(9,.sl 2 s4.2.length),(11,S x5),(14,.ptr 5 0),(20,.d (Sl eS y1.1)),(21,I (y1.1.length:Int)),(22,I (i3:Int)),(42,.d (Sl Lnq places)),(43,I (places.length:Int)),(44,I (i16:Int))]) (fun s17=>[bg y14.2.2,.box 29 (fD d),rO 138 6 Lns s4.2,.dead,.box 77 (fM y14.1),.box 138 [S s17.Key,S s17.User,S s17.Name,.d (Sl eS s17.Tags),.d (Sl Lno s17.Addrs),.d (Sl Lnp s17.Routes)]]) ⟨⟨E,E,E,E,E,E,E,E,E,E,E,E,E,tV⟩,[],E,.inl E⟩ (fun i16 x18 s17 y26 hx23 hlt hy24=>?_) (?_)
    ·refine gA 6 E<|Kjo E (decide_eq_true (Int.ofNat_lt.2 hlt))<|gA 6 E<|eo_o E (Kke hΓ (enc:=Lnq) (Kjx hx23) E E E E E (fun _=>E))<|gO 1 E<|eo_s Z (nblt.1 E) (Kqo hΓ [1,2] [S [],.d (Slt 252 3 Lno (1,[])),.d (Slt 257 4 Lnp (1,[]))] (hi:=show Γ 255=some ⟨_,_,_,_⟩ from E) E ⟨.refl _,G.Le.tagN,G.Le.tagN,tV⟩)<|Kld [bg y14.2.2,.box 29 (fD d),rO 138 6 Lns s4.2,.dead,.box 77 (fM y14.1),.box 138 [S s17.Key,S s17.User,S s17.Name,.d (Sl eS s17.Tags),.d (Sl Lno s17.Addrs),.d (Sl Lnp s17.Routes)],.box 255 [S [],.d (Slt 252 3 Lno (1,[])),.d (Slt 257 4 Lnp (1,[]))]] E<|Kxs hΓ E E E E E E E E Z<|Kld [bg y14.2.2,.box 29 (fD d),rO 138 6 Lns s4.2,.dead,.box 77 (fM y14.1),.box 138 [S s17.Key,S s17.User,S s17.Name,.d (Sl eS s17.Tags),.d (Sl Lno s17.Addrs),.d (Sl Lnp s17.Routes)],.box 255 [S x18.Node,.d (Slt 252 3 Lno x18.Addrs),.d (Slt 257 4 Lnp x18.Routes)]] E<|gO 10 E<|jC E hy24 (fun h27=>?_) fun h32=>gA 7 E ?_
     ·refine Kmu [.dead,.dead,.dead,.dead,.dead,.dead,.box 255 [S x18.Node,.d (Slt 252 3 Lno x18.Addrs),.d (Slt 257 4 Lnp x18.Routes)]] [1,4] [7,9] [] hmix (by kernel_rfl) (by kernel_rfl) ⟨E,tV⟩ Z<|go_E hΓ 1 E<|ge_p E (fun hp hs=>Kqn (Kuz hΓ (g:=.d (Slt 252 3 Lno x18.Addrs)) (o:=.box 255 [S x18.Node,.d (Slt 252 3 Lno x18.Addrs),.d (Slt 257 4 Lnp x18.Routes)]) E (hs 6 _ E E) E) G.Le.unt) E<|bK h27 fun y28 hy28 h29=>Knh C (Pure.rows (Lsg hy28) E E) E E E E E E<|go_E hΓ 1 E<|ge_p E (fun hp hs=>Kqn (Kuz hΓ (g:=.d (Slt 257 4 Lnp x18.Routes)) (o:=.box 255 [S x18.Node,.d (Slt 252 3 Lno x18.Addrs),.d (Slt 257 4 Lnp x18.Routes)]) E (hs 6 _ E E) E) G.Le.unt) E<|bK h29 fun y30 hy30 h31=>Knh C (Pure.rows (Lsh hy30) E E) E E E E E E<|go_E hΓ 1 E<|Kmz [bg y14.2.2,.box 29 (fD d),rO 138 6 Lns s4.2,.dead,.box 77 (fM y14.1),.box 138 [S s17.Key,S s17.User,S s17.Name,.d (Sl eS s17.Tags),.d (Sl Lno y28),.d (Sl Lnp s17.Routes)],.box 255 [S x18.Node,.d (Slt 252 3 Lno x18.Addrs),.d (Slt 257 4 Lnp x18.Routes)]] E E (Knb ⟨E,tV⟩) (Knf (Kof hΓ E E E E E E E E E))<|go_E hΓ 1 E<|Kmz [bg y14.2.2,.box 29 (fD d),rO 138 6 Lns s4.2,.dead,.box 77 (fM y14.1),.box 138 [S s17.Key,S s17.User,S s17.Name,.d (Sl eS s17.Tags),.d (Sl Lno y28),.d (Sl Lnp y30)],.box 255 [S x18.Node,.d (Slt 252 3 Lno x18.Addrs),.d (Slt 257 4 Lnp x18.Routes)]] E E (Knb ⟨E,tV⟩) (Knf (Kof hΓ E E E E E E E E E))<|Kmw<|gA 6 E ?_
      cases h31
      exact⟨⟨E,E,E,E,E,E,E,E,E,E,E,E,Kiv E (Kiu (nLl hlt hb22)),tV⟩,[_],E,.inr ⟨HB.mk E,FB.mk E,Z⟩⟩
     cases h32
     exact⟨⟨E,E,E,E,E,E,E,E,E,E,E,E,Kiv E (Kiu (nLl hlt hb22)),tV⟩,[_],E,.inr ⟨HB.mk E,FB.mk E,Z⟩⟩
    exact gA 6 E<|Kjp E (decide_eq_false (Int.lt_irrefl _))<|gA 4 E<|⟨⟨E,E,E,E,E,E,E,E,E,tV⟩,[],E,.inl E⟩
   refine gA 4 E<|Kkp hΓ (enc:=Lns) [q19] E E E E E E E E E E E E Z<|bK h20 fun y33 hy33 h34=>Kle hΓ (enc:=Lns) hy33 E E E E E E E E E (fun _=>E) E E E E<|gO 8 E ?_
   cases h34
   exact⟨⟨E,E,E,E,E,E,E,Kiv E (Kiu (nLl hlt hb9)),tV⟩,[_,_],E,.inr ⟨HB.mk E,FB.mk E,Z⟩⟩
  exact gA 6 E<|Kjp E (decide_eq_false (Int.lt_irrefl _))<|gA 4 E<|⟨⟨E,tV⟩,[],E,.inl E⟩
 exact gA 8 E<|Kpy 1 [bg q6.1,.dead,rO 138 6 Lns q6.2,.dead] E Z<|Kns 2 1 [bg q6.1,rO 138 6 Lns q6.2,.dead,.dead] E E E E E E<|Knq<|oSi h7▸Kli hΓ [_,_] (.inr E) E E E E (.inr ⟨HB.mk E,E⟩)
theorem Lnd{s1:List Str}{s2:List Str}{r:Bool}(h:Lmk s1 s2=some r):Pure Tryz.prog 65 [.d (Sl eS s1),.d (Sl eS s2)] (B r):=by
 unfold Lmk at h
 refine Pure.enter (Fr.of 0 _) Tryz.func65 E (Fr.of_ok _) E E<|Kjm<|gA 15 E<|jC E h (fun h1=>?_) fun h2=>gA 10 E<|bK h2 fun q6 hq6 h7=>Kkd 0 E fun hb9=>Knt (R:=fun a8=>q6=.go a8) (fun a8=>[]) (fun a8=>[]) ?_ ?_
 ·exact gA 7 E<|oSi h1▸gP E E
 ·refine gA 1 E<|Kkc s1 hq6 (fun i3 s4=>[(0,.d (Sl eS s1)),(1,.d (Sl eS s2)),(12,I (s1.length:Int)),(13,I (i3:Int))]) (fun s4=>[]) ⟨⟨E,E,E,E,tV⟩,[],E,.inl E⟩ (fun i3 x5 s4 y13 hx10 hlt hy11 hout12=>?_) (fun s4 hgo=>?_)
  ·refine gA 6 E<|Kjo E (decide_eq_true (Int.ofNat_lt.2 hlt))<|gA 11 E<|Kjq hmix (by kernel_rfl)<|gA 2 E<|gl_o E (Kke hΓ (enc:=eS) (Kjx hx10) E E E E E (fun _=>E))<|bK hy11 fun x14 hx14 h15=>Kjl hΓ 3 E<|gl_o E (Kke hΓ (enc:=eS) hx14 E E E E E (fun _=>E))<|Kjl hΓ 4 E<|jC E h15 (fun h16=>?_) fun h19=>gA 7 E ?_
   ·refine gA 8 E<|bK h16 fun v17 hv17 h18=>?_
    cases h18
    obtain rfl:=hout12 _ rfl
    cases h7
    exact gA 4 E<|oSi hv17▸gP E E
   cases h19
   exact⟨_,E,⟨⟨E,E,E,Kiv E (Kiu (nLl hlt hb9)),tV⟩,[],E,.inl E⟩⟩
  subst hgo
  exact gA 6 E<|Kjp E (decide_eq_false (Int.lt_irrefl _))<|gA 4 E<|⟨_,E,⟨tV,[],E,.inl E⟩⟩
 intro a8 ha
 subst ha
 replace h7:=Kno h7
 exact gA 7 E<|oSi h7▸gP E E
theorem Lne{s1:List Lgi}{s2:List Lgi}{r:Bool}(h:Lml s1 s2=some r):Pure Tryz.prog 185 [.d (Sl Lno s1),.d (Sl Lno s2)] (B r):=by
 unfold Lml at h
 refine Pure.enter (Fr.of 0 _) Tryz.func185 E (Fr.of_ok _) E E<|Kjm<|gA 15 E<|jC E h (fun h1=>?_) fun h2=>gA 10 E<|bK h2 fun q6 hq6 h7=>Kkd 0 E fun hb9=>Knt (R:=fun a8=>q6=.go a8) (fun a8=>[]) (fun a8=>[]) ?_ ?_
 ·exact gA 7 E<|oSi h1▸gP E E
 ·refine gA 1 E<|Kkc s1 hq6 (fun i3 s4=>[(0,.d (Sl Lno s1)),(1,.d (Sl Lno s2)),(12,I (s1.length:Int)),(13,I (i3:Int))]) (fun s4=>[]) ⟨⟨E,E,E,E,tV⟩,[],E,.inl E⟩ (fun i3 x5 s4 y13 hx10 hlt hy11 hout12=>?_) (fun s4 hgo=>?_)
  ·refine gA 6 E<|Kjo E (decide_eq_true (Int.ofNat_lt.2 hlt))<|gA 11 E<|Kjq hmix (by kernel_rfl)<|gA 2 E<|gl_o E (Kke hΓ (enc:=Lno) (Kjx hx10) E E E E E (fun _=>E))<|bK hy11 fun x14 hx14 h15=>Kjl hΓ 3 E<|gl_o E (Kke hΓ (enc:=Lno) hx14 E E E E E (fun _=>E))<|Kjl hΓ 1 E<|gl_o E (Klt hΓ [252] (b:=(((x5.Six:Bool)==x14.Six)&&(((x5.Hi:Int)==x14.Hi)&&(((x5.Lo:Int)==x14.Lo)&&true)))) (by kernel_rfl) (by kernel_rfl) E E E)<|Kjl hΓ 2 E<|jC E h15 (fun h16=>?_) fun h19=>gA 7 E ?_
   ·refine gA 8 E<|bK h16 fun v17 hv17 h18=>?_
    cases h18
    obtain rfl:=hout12 _ rfl
    cases h7
    exact gA 4 E<|oSi hv17▸gP E E
   cases h19
   exact⟨_,E,⟨⟨E,E,E,Kiv E (Kiu (nLl hlt hb9)),tV⟩,[],E,.inl E⟩⟩
  subst hgo
  exact gA 6 E<|Kjp E (decide_eq_false (Int.lt_irrefl _))<|gA 4 E<|⟨_,E,⟨tV,[],E,.inl E⟩⟩
 intro a8 ha
 subst ha
 replace h7:=Kno h7
 exact gA 7 E<|oSi h7▸gP E E
theorem Lnf{s1:List Lgj}{s2:List Lgj}{r:Bool}(h:Lmm s1 s2=some r):Pure Tryz.prog 186 [.d (Sl Lnp s1),.d (Sl Lnp s2)] (B r):=by
 unfold Lmm at h
 refine Pure.enter (Fr.of 0 _) Tryz.func186 E (Fr.of_ok _) E E<|Kjm<|gA 15 E<|jC E h (fun h1=>?_) fun h2=>gA 10 E<|bK h2 fun q6 hq6 h7=>Kkd 0 E fun hb9=>Knt (R:=fun a8=>q6=.go a8) (fun a8=>[]) (fun a8=>[]) ?_ ?_
 ·exact gA 7 E<|oSi h1▸gP E E
 ·refine gA 1 E<|Kkc s1 hq6 (fun i3 s4=>[(0,.d (Sl Lnp s1)),(1,.d (Sl Lnp s2)),(12,I (s1.length:Int)),(13,I (i3:Int))]) (fun s4=>[]) ⟨⟨E,E,E,E,tV⟩,[],E,.inl E⟩ (fun i3 x5 s4 y13 hx10 hlt hy11 hout12=>?_) (fun s4 hgo=>?_)
  ·refine gA 6 E<|Kjo E (decide_eq_true (Int.ofNat_lt.2 hlt))<|gA 11 E<|Kjq hmix (by kernel_rfl)<|gA 2 E<|gl_o E (Kke hΓ (enc:=Lnp) (Kjx hx10) E E E E E (fun _=>E))<|bK hy11 fun x14 hx14 h15=>Kjl hΓ 3 E<|gl_o E (Kke hΓ (enc:=Lnp) hx14 E E E E E (fun _=>E))<|Kjl hΓ 1 E<|gl_o E (Klt hΓ [257,252] (b:=((((x5.Addr.Six:Bool)==x14.Addr.Six)&&(((x5.Addr.Hi:Int)==x14.Addr.Hi)&&(((x5.Addr.Lo:Int)==x14.Addr.Lo)&&true)))&&(((x5.Bits:Int)==x14.Bits)&&true))) (by kernel_rfl) (by kernel_rfl) E E E)<|Kjl hΓ 2 E<|jC E h15 (fun h16=>?_) fun h19=>gA 7 E ?_
   ·refine gA 8 E<|bK h16 fun v17 hv17 h18=>?_
    cases h18
    obtain rfl:=hout12 _ rfl
    cases h7
    exact gA 4 E<|oSi hv17▸gP E E
   cases h19
   exact⟨_,E,⟨⟨E,E,E,Kiv E (Kiu (nLl hlt hb9)),tV⟩,[],E,.inl E⟩⟩
  subst hgo
  exact gA 6 E<|Kjp E (decide_eq_false (Int.lt_irrefl _))<|gA 4 E<|⟨_,E,⟨tV,[],E,.inl E⟩⟩
 intro a8 ha
 subst ha
 replace h7:=Kno h7
 exact gA 7 E<|oSi h7▸gP E E
theorem Lng{a:Lgm}{b:Lgm}{r:Bool}(h:Lmn a b=some r):Pure Tryz.prog 82 [.agg [S a.Key,S a.User,S a.Name,.d (Sl eS a.Tags),.d (Sl Lno a.Addrs),.d (Sl Lnp a.Routes)],.agg [S b.Key,S b.User,S b.Name,.d (Sl eS b.Tags),.d (Sl Lno b.Addrs),.d (Sl Lnp b.Routes)]] (B r):=by
 unfold Lmn at h
 refine Pure.enter (Fr.of 0 _) Tryz.func82 E (Fr.of_ok _) E E<|Kjm<|gA 2 E<|Kxo E E E E Z<|Kxo E E E E Z<|gO 11 E<|Kjt 6 [(2,.ptr 0 0),(3,.ptr 1 0),(4,B false),(16,B (((a.Key:Str)==b.Key)&&((a.User:Str)==b.User)))] [.box 138 [S a.Key,S a.User,S a.Name,.d (Sl eS a.Tags),.d (Sl Lno a.Addrs),.d (Sl Lnp a.Routes)],.box 138 [S b.Key,S b.User,S b.Name,.d (Sl eS b.Tags),.d (Sl Lno b.Addrs),.d (Sl Lnp b.Routes)]] ?_ ?_
 ·refine Kwh E E (fun hb=>?_) (fun hb=>?_)
  ·exact gO 7 E<|⟨⟨E,E,E,Kiw E (Klo hb),tV⟩,[],E,.inl E⟩
  exact gO 7 E<|⟨⟨E,E,E,Kiw E (Klp hb),tV⟩,[],E,.inl E⟩
 refine gO 1 E<|Kjt 6 [(2,.ptr 0 0),(3,.ptr 1 0),(4,B false),(23,B ((((a.Key:Str)==b.Key)&&((a.User:Str)==b.User))&&((a.Name:Str)==b.Name)))] [.box 138 [S a.Key,S a.User,S a.Name,.d (Sl eS a.Tags),.d (Sl Lno a.Addrs),.d (Sl Lnp a.Routes)],.box 138 [S b.Key,S b.User,S b.Name,.d (Sl eS b.Tags),.d (Sl Lno b.Addrs),.d (Sl Lnp b.Routes)]] ?_ ?_
 ·refine Kwh E E (fun hb=>?_) (fun hb=>?_)
  ·exact gO 7 E<|⟨⟨E,E,E,Kiw E (Klo hb),tV⟩,[],E,.inl E⟩
  exact gO 7 E<|⟨⟨E,E,E,Kiw E (Klp hb),tV⟩,[],E,.inl E⟩
 refine gO 1 E<|bK h fun q1 hq1 h2=>Kjt 6 [(2,.ptr 0 0),(3,.ptr 1 0),(4,B false),(30,B q1)] [.box 138 [S a.Key,S a.User,S a.Name,.d (Sl eS a.Tags),.d (Sl Lno a.Addrs),.d (Sl Lnp a.Routes)],.box 138 [S b.Key,S b.User,S b.Name,.d (Sl eS b.Tags),.d (Sl Lno b.Addrs),.d (Sl Lnp b.Routes)]] ?_ ?_
 ·refine Kwh E E (fun hb=>?_) (fun hb=>?_)
  ·have h3:=cT hq1 hb
   exact bK h3 fun y4 hy4 h5=>gO 4 E<|Kwf E<|Kkv C (Lnd hy4) E Z E E E E E<|gO 2 E<|oSi h5▸⟨⟨E,E,E,E,tV⟩,[],E,.inl E⟩
  have h6:=cF hq1 hb
  exact gO 7 E<|oSi h6▸⟨⟨E,E,E,E,tV⟩,[],E,.inl E⟩
 refine gO 1 E<|bK h2 fun q7 hq7 h8=>Kjt 6 [(2,.ptr 0 0),(3,.ptr 1 0),(4,B false),(37,B q7)] [.box 138 [S a.Key,S a.User,S a.Name,.d (Sl eS a.Tags),.d (Sl Lno a.Addrs),.d (Sl Lnp a.Routes)],.box 138 [S b.Key,S b.User,S b.Name,.d (Sl eS b.Tags),.d (Sl Lno b.Addrs),.d (Sl Lnp b.Routes)]] ?_ ?_
 ·refine Kwh E E (fun hb=>?_) (fun hb=>?_)
  ·have h9:=cT hq7 hb
   exact bK h9 fun y10 hy10 h11=>gO 4 E<|Kwf E<|Kkv C (Lne hy10) E Z E E E E E<|gO 2 E<|oSi h11▸⟨⟨E,E,E,E,tV⟩,[],E,.inl E⟩
  have h12:=cF hq7 hb
  exact gO 7 E<|oSi h12▸⟨⟨E,E,E,E,tV⟩,[],E,.inl E⟩
 refine gO 1 E<|bK h8 fun q13 hq13 h14=>Kjt 6 [(4,B false),(44,B q13)] [.box 138 [S a.Key,S a.User,S a.Name,.d (Sl eS a.Tags),.d (Sl Lno a.Addrs),.d (Sl Lnp a.Routes)],.box 138 [S b.Key,S b.User,S b.Name,.d (Sl eS b.Tags),.d (Sl Lno b.Addrs),.d (Sl Lnp b.Routes)]] ?_ ?_
 ·refine Kwh E E (fun hb=>?_) (fun hb=>?_)
  ·have h15:=cT hq13 hb
   exact bK h15 fun y16 hy16 h17=>gO 4 E<|Kwf E<|Kkv C (Lnf hy16) E Z E E E E E<|gO 2 E<|oSi h17▸⟨⟨E,E,tV⟩,[],E,.inl E⟩
  have h18:=cF hq13 hb
  exact gO 7 E<|oSi h18▸⟨⟨E,E,tV⟩,[],E,.inl E⟩
 exact gO 4 E<|oSi h14▸gP E E
theorem Lnh{s1:List Lgm}{s2:List Lgm}{r:Bool}(h:Lmo s1 s2=some r):Pure Tryz.prog 80 [.d (Sl Lns s1),.d (Sl Lns s2),.fn (.func 82) [] []] (B r):=by
 unfold Lmo at h
 refine Pure.enter (Fr.of 0 _) Tryz.func80 E (Fr.of_ok _) E E<|Kjm<|gA 15 E<|jC E h (fun h1=>?_) fun h2=>gA 10 E<|bK h2 fun q6 hq6 h7=>Kkd 15 E fun hb9=>Knt (R:=fun a8=>q6=.go a8) (fun a8=>[]) (fun a8=>[]) ?_ ?_
 ·exact gA 7 E<|oSi h1▸gP E E
 ·refine gA 1 E<|Kkc s1 hq6 (fun i3 s4=>[(1,.d (Sl Lns s2)),(2,.fn (.func 82) [] []),(15,.d (Sl Lns s1)),(16,I (s1.length:Int)),(17,I (i3:Int))]) (fun s4=>[]) ⟨⟨E,E,E,E,E,tV⟩,[],E,.inl E⟩ (fun i3 x5 s4 y13 hx10 hlt hy11 hout12=>?_) (fun s4 hgo=>?_)
  ·refine gA 6 E<|Kjo E (decide_eq_true (Int.ofNat_lt.2 hlt))<|gA 7 E<|eo_o E (Kke hΓ (enc:=Lns) (Kjx hx10) E E E E E (fun _=>E))<|gO 1 E<|Kxn hΓ E E E Z<|gO 1 E<|Kxs hΓ E E E E E E E E Z<|Kld [.box 138 [S x5.Key,S x5.User,S x5.Name,.d (Sl eS x5.Tags),.d (Sl Lno x5.Addrs),.d (Sl Lnp x5.Routes)]] E<|bK hy11 fun x14 hx14 h15=>gO 6 E<|eo_o E (Kke hΓ (enc:=Lns) hx14 E E E E E (fun _=>E))<|gO 1 E<|Kxn hΓ E E E Z<|Kxs hΓ E E E E E E E E Z<|Kld [.box 138 [S x5.Key,S x5.User,S x5.Name,.d (Sl eS x5.Tags),.d (Sl Lno x5.Addrs),.d (Sl Lnp x5.Routes)],.box 138 [S x14.Key,S x14.User,S x14.Name,.d (Sl eS x14.Tags),.d (Sl Lno x14.Addrs),.d (Sl Lnp x14.Routes)]] E<|bK h15 fun y16 hy16 h17=>gO 7 E<|Kkv C (Lng hy16) E Z E E E E E<|gO 3 E<|jC E h17 (fun h18=>?_) fun h21=>gA 7 E ?_
   ·refine gA 8 E<|bK h18 fun v19 hv19 h20=>?_
    cases h20
    obtain rfl:=hout12 _ rfl
    cases h7
    exact gA 4 E<|oSi hv19▸gP E E
   cases h21
   exact⟨_,E,⟨⟨E,E,E,E,Kiv E (Kiu (nLl hlt hb9)),tV⟩,[_,_],E,.inr ⟨HB.mk E,FB.mk E,Z⟩⟩⟩
  subst hgo
  exact gA 6 E<|Kjp E (decide_eq_false (Int.lt_irrefl _))<|gA 4 E<|⟨_,E,⟨tV,[],E,.inl E⟩⟩
 intro a8 ha
 subst ha
 replace h7:=Kno h7
 exact gA 7 E<|oSi h7▸gP E E
theorem Lni{k:Nat}{l:List Int}{al:BagT}{r:Bool×BagT}(h:Lmp k l al=some r):EC Tryz.prog 9 [.d (Sl (eN .i64) l)] [bg al] fun g hp'=>g=B r.1∧hp'=[bg r.2]:=by
 unfold Lmp at h
 refine Kvz (Fr.of 0 _) Tryz.func9 E (Fr.of_ok _) Z fun _=>Kjm<|gA 8 E<|Khr hΓ (gs:=[.d (Sl (eN .i64) l),I 0]) E E E E E E E<|Kxo E E E E Z<|bK h fun y1 hy1 h2=>gO 7 E<|Kku [1] (I y1.1) [bg al,.box 25 (fQ y1.2)] C (Loc hy1) E Z E E E E E E E E E E<|bK h2 fun y3 hy3 h4=>Kku [1] (.agg [.d (Sl eS y3.1.d.Users),.d (Sl Lnk y3.1.d.Owners),I y3.1.d.Life,B y3.1.d.Approve,.d (Sl Lnm y3.1.l),I y3.1.fault]) [bg al,.box 25 (fQ y3.2)] C (Lpm hy3) E Z E E E E E E E E E E<|bK h4 fun y5 hy5 h6=>gO 1 E<|Kku [1,0] (.sl 2 y5.1.length) [bg y5.2.2,.box 25 (fQ y5.2.1),rO 255 3 Lnq y5.1] C (Lqb hy5) E Z E E E E E E E E E E<|Klb 2 [18] _ [bg y5.2.2,.box 25 (fQ y5.2.1),.dead] E E E Z<|bK h6 fun y7 hy7 h8=>gO 1 E<|Kku [1] (I y7.1) [bg y5.2.2,.box 25 (fQ y7.2),.dead] C (Lqc hy7) E Z E E E E E E E E E E<|Kxn hΓ E E E Z<|Kxs hΓ E E E E E E E E Z<|Kld [bg y5.2.2,.box 25 (fQ y7.2),.dead,.box 33 [.d (Sl eS y3.1.d.Users),.d (Sl Lnk y3.1.d.Owners),I y3.1.d.Life,B y3.1.d.Approve,.d (Sl Lnm y3.1.l),I y3.1.fault]] E<|bK h8 fun y9 hy9 h10=>gO 12 E<|Kku [0] (.tup [.d (Sl Lns y9.1),I y9.2.1]) [bg y9.2.2,.box 25 (fQ y7.2),.dead,.box 33 [.d (Sl eS y3.1.d.Users),.d (Sl Lnk y3.1.d.Owners),I y3.1.d.Life,B y3.1.d.Approve,.d (Sl Lnm y3.1.l),I y3.1.fault]] C (Lsi hy9) E Z E E E E E E E E E E<|gO 8 E<|Kjq hmix (by kernel_rfl)<|bK h10 fun y11 hy11 h12=>gA 3 E<|Kkw C (Lsn hy11) E E E E E E<|bK h12 fun y13 hy13 h14=>Kjl hΓ 1 E<|Kkw C (Lso hy13) E E E E E E<|Kkq hΓ (enc:=(eN .i64)) [y3.1.fault,y11,y13] E E E E E E E E E E E E<|bK h14 fun y15 hy15 h16=>Kkw C (Lpl hy15) E E E E E E<|Kjl hΓ 10 E<|Kjn E (fun hb=>?_) (fun hb=>?_)
 ·have h17:=cT h16 hb
  refine gA 6 E<|Kjt 4 [(2,B false),(48,B (((y9.2.1:Int)==y15)&&(((y9.1.length:Int):Int)==0)))] [bg y9.2.2,.box 25 (fQ y7.2),.dead,.box 33 [.d (Sl eS y3.1.d.Users),.d (Sl Lnk y3.1.d.Owners),I y3.1.d.Life,B y3.1.d.Approve,.d (Sl Lnm y3.1.l),I y3.1.fault]] ?_ ?_
  ·refine Kwh E E (fun hb=>?_) (fun hb=>?_)
   ·exact gO 5 E<|⟨⟨E,Kiw E (Klo hb),tV⟩,[],E,.inl E⟩
   exact gO 5 E<|⟨⟨E,Kiw E (Klp hb),tV⟩,[],E,.inl E⟩
  refine gO 1 E<|bK h17 fun q18 hq18 h19=>Kjt 2 [(2,B false),(51,B q18)] [bg y9.2.2,.box 25 (fQ y7.2),.dead,.box 33 [.d (Sl eS y3.1.d.Users),.d (Sl Lnk y3.1.d.Owners),I y3.1.d.Life,B y3.1.d.Approve,.d (Sl Lnm y3.1.l),I y3.1.fault]] ?_ ?_
  ·refine Kwh E E (fun hb=>?_) (fun hb=>?_)
   ·have h20:=cT hq18 hb
    exact bK h20 fun y21 hy21 h22=>Kwf E<|Kkv C (Lsq hy21) E Z E E E E E<|gO 2 E<|oSi h22▸⟨⟨E,E,tV⟩,[],E,.inl E⟩
   have h23:=cF hq18 hb
   exact gO 3 E<|oSi h23▸⟨⟨E,E,tV⟩,[],E,.inl E⟩
  exact gO 5 E<|oSi h19▸Kli hΓ [_,_,_] (.inr E) E E E E (.inr ⟨HB.mk E,E⟩)
 have h24:=cF h16 hb
 refine gA 7 E<|bK h24 fun q25 hq25 h26=>Kjt 10 [(2,B false),(64,B q25.2)] [bg q25.1,.box 25 (fQ y7.2),.dead,.box 33 [.d (Sl eS y3.1.d.Users),.d (Sl Lnk y3.1.d.Owners),I y3.1.d.Life,B y3.1.d.Approve,.d (Sl Lnm y3.1.l),I y3.1.fault]] ?_ ?_
 ·refine Kwh E E (fun hb=>?_) (fun hb=>?_)
  ·have h27:=cT hq25 hb
   exact bK h27 fun y28 hy28 h29=>gO 7 E<|Kwf E<|Kku [0] (.sl 4 y28.1.length) [bg y28.2,.box 25 (fQ y7.2),.dead,.box 33 [.d (Sl eS y3.1.d.Users),.d (Sl Lnk y3.1.d.Owners),I y3.1.d.Life,B y3.1.d.Approve,.d (Sl Lnm y3.1.l),I y3.1.fault],rO 138 6 Lns y28.1] C (Lnc hy28) E Z E E E E E E E E E E<|Klb 4 [62] _ [bg y28.2,.box 25 (fQ y7.2),.dead,.box 33 [.d (Sl eS y3.1.d.Users),.d (Sl Lnk y3.1.d.Owners),I y3.1.d.Life,B y3.1.d.Approve,.d (Sl Lnm y3.1.l),I y3.1.fault],.dead] E E E Z<|bK h29 fun y30 hy30 h31=>Kwf E<|Kkv C (Lnh hy30) E Z E E E E E<|gO 2 E<|oSi h31▸⟨⟨E,E,tV⟩,[_],E,.inr ⟨HB.mk E,FB.mk E,Z⟩⟩
  have h32:=cF hq25 hb
  exact gO 11 E<|oSi h32▸⟨⟨E,E,tV⟩,[],E,.inl E⟩
 refine gO 1 E<|bK h26 fun q33 hq33 h34=>Kjt 2 [(2,B false),(67,B q33)] [bg q25.1,.box 25 (fQ y7.2),.dead,.box 33 [.d (Sl eS y3.1.d.Users),.d (Sl Lnk y3.1.d.Owners),I y3.1.d.Life,B y3.1.d.Approve,.d (Sl Lnm y3.1.l),I y3.1.fault]] ?_ ?_
 ·refine Kwh E E (fun hb=>?_) (fun hb=>?_)
  ·have h35:=cT hq33 hb
   exact bK h35 fun y36 hy36 h37=>Kwf E<|Kkv C (Lsq hy36) E Z E E E E E<|gO 2 E<|oSi h37▸⟨⟨E,E,tV⟩,[],E,.inl E⟩
  have h38:=cF hq33 hb
  exact gO 3 E<|oSi h38▸⟨⟨E,E,tV⟩,[],E,.inl E⟩
 exact gO 4 E<|oSi h34▸Kli hΓ [_,_,_] (.inr E) E E E E (.inr ⟨HB.mk E,E⟩)
end Go.Proofs.YtjmlnnanfkiakaaGreatDoor
