import Derived.Test.YtjmlnnanfkiakaaGreatDoorXNM
import Derived.Test.YtjmlnnanfkiakaaGreatDoorGt
import Derived.Test.YtjmlnnanfkiakaaGreatDoorStrS
import Derived.Test.YtjmlnnanfkiakaaGreatDoorStrK
import Derived.Test.YtjmlnnanfkiakaaGreatDoorXNW2
set_option maxHeartbeats 8000000
set_option linter.all false
set_option maxRecDepth 100000
namespace Go.Proofs.YtjmlnnanfkiakaaGreatDoor
open Go.Gk
theorem Lrv{n:Lgp}{s:Lgg}{m:Lgn}{al:BagT}{r:Int×Lgp×BagT}(h:Lkr n s m al=some r):EC Tryz.prog 192 [.ptr 4 0,.agg (fS s),.agg (fM m)] (oN n 0 1 2 3 [bg al]) fun g hp'=>g=I r.1∧hp'=(oN r.2.1 0 1 2 3 [bg r.2.2]):=by
 unfold Lkr at h
 refine Kqd (Fr.of 0 _) Tryz.func192 E (Fr.of_ok _) Z fun _=>Kjm<|gA 2 E<|Kxo E E E E Z<|Kxo E E E E Z<|bK h fun q1 hq1 h2=>gO 15 E<|Knw (q:=q1) (fun a3=>[(0,.ptr 4 0),(4,.ptr 6 0),(5,.ptr 7 0),(7,B a3.2)]) (fun a3=>(oN n 0 1 2 3 [bg al,.box 37 (fS s),.box 77 (fM a3.1)])) ?_ ?_
 ·refine gA 7 E<|jC E hq1 (fun h4=>?_) fun h9=>gA 6 E<|jC E h9 (fun h10=>?_) fun h19=>?_
  ·refine gA 7 E<|jC E h4 (fun h5=>?_) fun h8=>gA 4 E<|Kxs hΓ E E E E E E E E Z<|Kld (oN n 0 1 2 3 [bg al,.box 37 (fS s),.box 77 [S m.Node,S m.User,S m.Name,S m.Public,.d (Sl eS m.Tags),I m.Joined,I m.Expires,B true]]) E<|gO 2 E<|oSi h8▸⟨_,E,⟨⟨E,E,E,E,tV⟩,[],E,.inl E⟩⟩
   refine gA 8 E<|bK h5 fun v6 hv6 h7=>?_
   cases h7
   cases h2
   exact gA 2 E<|Knq<|oSi hv6▸Kli hΓ [_,_] (.inr E) E E E E (.inr ⟨HB.mk E,E⟩)
  ·refine bK h10 fun y11 hy11 h12=>gA 6 E<|Kku [0,1,2,3,4] (B y11) (oN n 0 1 2 3 [bg al,.box 37 (fS s),.box 77 (fM m)]) C (Lrg hy11) E Z E E E E E E E E E E<|gO 2 E<|jC E h12 (fun h13=>?_) fun h16=>gA 2 E<|Kmu [.dead,.dead,.dead,.dead,.dead,.dead,.box 37 (fS s),.box 77 (fM m)] [1,4,6] [7,9,11] [9,11] hmix (by kernel_rfl) (by kernel_rfl) ⟨E,E,tV⟩ Z<|bK h16 fun y17 hy17 h18=>go_E hΓ 7 E<|ge_h (oN n 0 1 2 3 [bg al,.box 37 (fS s),.box 77 (fM m)]) E E E (Knb ⟨E,E,tV⟩) (Kng [0,1,2,3,4] (I y17) (oN n 0 1 2 3 [bg al,.box 37 (fS s),.box 77 (fM m)]) C (Lri hy17) E E E E E E E E E E)<|go_E hΓ 1 E<|Kmz (oN n 0 1 2 3 [bg al,.box 37 (fS s),.box 77 [S m.Node,S m.User,S m.Name,S s.Public,.d (Sl eS m.Tags),I m.Joined,I m.Expires,B m.Approved]]) E E (Kna E) (Knf (Kof hΓ E E E E E E E E E))<|go_E hΓ 1 E<|Kmz (oN n 0 1 2 3 [bg al,.box 37 (fS s),.box 77 [S m.Node,S m.User,S m.Name,S s.Public,.d (Sl eS m.Tags),I m.Joined,I y17,B m.Approved]]) E E (Kna E) (Knf (Kof hΓ E E E E E E E E E))<|go_E hΓ 1 E<|Kmw<|gA 1 E<|oSi h18▸⟨_,E,⟨⟨E,E,E,E,tV⟩,[],E,.inl E⟩⟩
   refine gA 8 E<|bK h13 fun v14 hv14 h15=>?_
   cases h15
   cases h2
   exact gA 2 E<|Knq<|oSi hv14▸Kli hΓ [_,_] (.inr E) E E E E (.inr ⟨HB.mk E,E⟩)
  refine gA 6 E<|jC E h19 (fun h20=>?_) fun h25=>gA 6 E<|jC E h25 (fun h26=>?_) fun h39=>?_
  ·refine gA 10 E<|jC E h20 (fun h21=>?_) fun h24=>gA 6 E<|Kxs hΓ E E E E E E E E Z<|Kld (oN n 0 1 2 3 [bg al,.box 37 (fS s),.box 77 [S m.Node,S m.User,S s.Name,S m.Public,.d (Sl eS m.Tags),I m.Joined,I m.Expires,B m.Approved]]) E<|gO 2 E<|oSi h24▸⟨_,E,⟨⟨E,E,E,E,tV⟩,[],E,.inl E⟩⟩
   refine gA 8 E<|bK h21 fun v22 hv22 h23=>?_
   cases h23
   cases h2
   exact gA 2 E<|Knq<|oSi hv22▸Kli hΓ [_,_] (.inr E) E E E E (.inr ⟨HB.mk E,E⟩)
  ·refine gA 9 E<|jC E h26 (fun h27=>?_) fun h30=>bK h30 fun y31 hy31 h32=>gA 10 E<|Kku [0,1,2,3,4] (I y31) (oN n 0 1 2 3 [bg al,.box 37 (fS s),.box 77 (fM m)]) C (Lro hy31) E Z E E E E E E E E E E<|gO 9 E<|jC E h32 (fun h33=>?_) fun h36=>?_
   ·refine gA 8 E<|bK h27 fun v28 hv28 h29=>?_
    cases h29
    cases h2
    exact gA 2 E<|Knq<|oSi hv28▸Kli hΓ [_,_] (.inr E) E E E E (.inr ⟨HB.mk E,E⟩)
   ·refine gA 9 E<|bK h33 fun v34 hv34 h35=>?_
    cases h35
    cases h2
    exact gA 2 E<|Knq<|oSi hv34▸Kli hΓ [_,_] (.inr E) E E E E (.inr ⟨HB.mk E,E⟩)
   exact bK h36 fun y37 hy37 h38=>gA 5 E<|Kkv C (Pure.rows (Lrh hy37) E E) E Z E E E E E<|gO 1 E<|Kxs hΓ E E E E E E E E Z<|Kld (oN n 0 1 2 3 [bg al,.box 37 (fS s),.box 77 [S m.Node,S [],S m.Name,S m.Public,.d (Sl eS m.Tags),I m.Joined,I m.Expires,B m.Approved]]) E<|gO 1 E<|Kxs hΓ E E E E E E E E Z<|Kld (oN n 0 1 2 3 [bg al,.box 37 (fS s),.box 77 [S m.Node,S [],S m.Name,S m.Public,.d (Sl eS y37),I m.Joined,I m.Expires,B m.Approved]]) E<|gO 1 E<|Kxs hΓ E E E E E E E E Z<|Kld (oN n 0 1 2 3 [bg al,.box 37 (fS s),.box 77 [S m.Node,S [],S m.Name,S m.Public,.d (Sl eS y37),I m.Joined,I 345686400,B m.Approved]]) E<|gO 2 E<|oSi h38▸⟨_,E,⟨⟨E,E,E,E,tV⟩,[],E,.inl E⟩⟩
  refine gA 6 E<|jC E h39 (fun h40=>?_) fun h45=>gA 1 E<|Kmu [.dead,.dead,.dead,.dead,bN n 0 1 2 3,.dead,.box 37 (fS s)] [3,5] [6] [] hmix (by kernel_rfl) (by kernel_rfl) ⟨E,E,tV⟩ Z<|go_E hΓ 6 E<|Kmz [mObB n.users,mObH n.passes,mObM (mDel n.there s.Node),mObT n.story,bN n 0 1 2 3,bg al,.box 37 (fS s),.box 77 (fM m)] E E (Knb ⟨E,E,tV⟩) (Kne (Kul hΓ (kv:=kS) (agg:=true) (enc:=Lnt) (id:=2) n.there s.Node E E E Kor E E E E))<|Kmw<|gA 2 E<|Kmu [.dead,.dead,.dead,mObT n.story,bN n 0 1 2 3,.dead,.box 37 (fS s)] [3,5,9,11,12,14] [17,18] [18] hmix (by kernel_rfl) (by kernel_rfl) ⟨E,E,E,tV⟩ Z<|go_E hΓ 12 E<|ge_p E (fun hp hs=>Krl hΓ (kv:=kS) (te:=233) (sz:=11) (enc:=Lnu) n.story s.Node E E E E Kor E (hs 3 _ E E) E E E) E<|go_E hΓ 2 E<|ge_q E (.inl E) (fun _ _=>Kmx (qt_p (Knl hΓ (gs:=[I s.At,S [],S [],S [],S [],.d (Sl eS []),I 0,I 0,B false,B true,B false]) E E E E E E)))<|Kni hΓ (enc:=Lnu) [(⟨s.At,(⟨[],[],[],[],[],0,0,false⟩:Lgn),true,false⟩:Lgo)] E E E E E E E E E E E E<|bK h45 fun y46 hy46 h47=>ge_h [mObB n.users,mObH n.passes,mObM (mDel n.there s.Node),mObT n.story,bN n 0 1 2 3,.bag y46.2 (arX al.2.1 al.2.2.1 al.2.2.2.1 al.2.2.2.2.1 al.2.2.2.2.2) [],.box 37 (fS s),.box 77 (fM m)] E E E (Knb ⟨E,E,E,tV⟩) (Kne (Kqm hΓ (enc:=Lnu) (bg:=5) hy46 E E E E E E E E (fun _=>E) E E))<|Kmz [mObB n.users,mObH n.passes,mObM (mDel n.there s.Node),mObT (mSet n.story s.Node y46.1),bN n 0 1 2 3,.bag y46.2 (arX al.2.1 al.2.2.1 al.2.2.2.1 al.2.2.2.2.1 al.2.2.2.2.2) [],.box 37 (fS s),.box 77 (fM m)] E E (Kna E) (Knf (Kpf hΓ (kv:=kS) (agg:=false) (enc:=(eT 233 11 Lnu)) (id:=3) n.story s.Node y46.1 E E E Kor E E E E E))<|Kmw<|gA 8 E<|bK h47 fun v48 hv48 h49=>?_
  ·refine gA 10 E<|jC E h40 (fun h41=>?_) fun h44=>gA 6 E<|Kxs hΓ E E E E E E E E Z<|Kld (oN n 0 1 2 3 [bg al,.box 37 (fS s),.box 77 [S m.Node,S m.User,S m.Name,S m.Public,.d (Sl eS m.Tags),I m.Joined,I s.At,B m.Approved]]) E<|gO 2 E<|oSi h44▸⟨_,E,⟨⟨E,E,E,E,tV⟩,[],E,.inl E⟩⟩
   refine gA 8 E<|bK h41 fun v42 hv42 h43=>?_
   cases h43
   cases h2
   exact gA 2 E<|Knq<|oSi hv42▸Kli hΓ [_,_] (.inr E) E E E E (.inr ⟨HB.mk E,E⟩)
  cases h49
  cases h2
  exact gA 2 E<|Knq<|oSi hv48▸Kli hΓ [_,_] (.inr E) E E E E (.inr ⟨HB.mk E,E⟩)
 intro a3 ha
 subst ha
 replace h2:=Knn h2
 exact bK h2 fun y50 hy50 h51=>gA 8 E<|Kku [0,1,2,3,4,5] (.tup []) (oN y50.1 0 1 2 3 [bg y50.2,.box 37 (fS s),.box 77 (fM a3.1)]) C (Lrj hy50) E Z E E E E E E E E E E<|gO 8 E<|Knq<|oSi h51▸Kli hΓ [_,_] (.inr E) E E E E (.inr ⟨HB.mk E,E⟩)
theorem Lrw{n:Lgp}{s:Lgg}{al:BagT}{r:Int×Lgp×BagT}(h:Lks n s al=some r):EC Tryz.prog 87 [.ptr 4 0,.agg (fS s)] (oN n 0 1 2 3 [bg al]) fun g hp'=>g=I r.1∧hp'=(oN r.2.1 0 1 2 3 [bg r.2.2]):=by
 unfold Lks at h
 refine Kqd (Fr.of 0 _) Tryz.func87 E (Fr.of_ok _) Z fun _=>Kjm<|gA 2 E<|Kxo E E E E Z<|gO 11 E<|jC E h (fun h1=>?_) fun h4=>gA 4 E<|Kjq hmix (by kernel_rfl)<|gA 6 E<|gl_o E (Kpb hΓ (kv:=kS) (agg:=false) (enc:=eB) n.users s.By (false:Bool) E E E E Kor E E E E E E E)<|Kjl hΓ 3 E<|jC E h4 (fun h5=>?_) fun h6=>?_
 ·exact bK h1 fun y2 hy2 h3=>gA 4 E<|Kku [0,1,2,3,4,5] (I y2.1) (oN y2.2.1 0 1 2 3 [bg y2.2.2,.box 37 (fS s)]) C (Lrk hy2) E Z E E E E E E E E E E<|gO 5 E<|Knq<|oSi h3▸Kli hΓ [_] (.inr E) E E E E (.inr ⟨HB.mk E,E⟩)
 ·exact gA 7 E<|Knq<|oSi h5▸Kli hΓ [_] (.inr E) E E E E (.inr ⟨HB.mk E,E⟩)
 refine gA 16 E<|jC E h6 (fun h7=>?_) fun h10=>gA 6 E<|jC E h10 (fun h11=>?_) fun h14=>?_
 ·exact bK h7 fun y8 hy8 h9=>gA 4 E<|Kku [0,1,2,3,4,5] (I y8.1) (oN y8.2.1 0 1 2 3 [bg y8.2.2,.box 37 (fS s)]) C (Lrp hy8) E Z E E E E E E E E E E<|gO 6 E<|Knq<|oSi h9▸Kli hΓ [_] (.inr E) E E E E (.inr ⟨HB.mk E,E⟩)
 ·exact bK h11 fun y12 hy12 h13=>gA 4 E<|Kku [0,1,2,3,4,5] (I y12.1) (oN n 0 1 2 3 [bg y12.2,.box 37 (fS s)]) C (Lrq hy12) E Z E E E E E E E E E E<|gO 6 E<|Knq<|oSi h13▸Kli hΓ [_] (.inr E) E E E E (.inr ⟨HB.mk E,E⟩)
 refine gA 4 E<|Kmu [.dead,.dead,mObM n.there,.dead,bN n 0 1 2 3,.dead,.box 37 (fS s)] [3,5,6] [10,11] [] hmix (by kernel_rfl) (by kernel_rfl) ⟨E,E,E,tV⟩ Z<|go_E hΓ 6 E<|ge_p E (fun hp hs=>Kpc hΓ (kv:=kS) (agg:=true) (enc:=Lnt) n.there s.Node ((⟨[],[],[],[],[],0,0,false⟩:Lgn):Lgn) E E E E Kor E (hs 2 _ E E) E E E E E) E<|go_E hΓ 3 E<|ge_h (oN n 0 1 2 3 [bg al,.box 37 (fS s),.box 77 [S [],S [],S [],S [],.d (Sl eS []),I 0,I 0,B false]]) E E E (Knb ⟨E,E,E,tV⟩) (Kne (Knj hΓ (hi:=show Γ 77=some ⟨_,_,_,_⟩ from E) E))<|Kmz (oN n 0 1 2 3 [bg al,.box 37 (fS s),.box 77 [S (((mGet n.there s.Node).getD (⟨[],[],[],[],[],0,0,false⟩:Lgn)).Node),S (((mGet n.there s.Node).getD (⟨[],[],[],[],[],0,0,false⟩:Lgn)).User),S (((mGet n.there s.Node).getD (⟨[],[],[],[],[],0,0,false⟩:Lgn)).Name),S (((mGet n.there s.Node).getD (⟨[],[],[],[],[],0,0,false⟩:Lgn)).Public),.d (Sl eS (((mGet n.there s.Node).getD (⟨[],[],[],[],[],0,0,false⟩:Lgn)).Tags)),I (((mGet n.there s.Node).getD (⟨[],[],[],[],[],0,0,false⟩:Lgn)).Joined),I (((mGet n.there s.Node).getD (⟨[],[],[],[],[],0,0,false⟩:Lgn)).Expires),B (((mGet n.there s.Node).getD (⟨[],[],[],[],[],0,0,false⟩:Lgn)).Approved)]]) E E (Knb ⟨E,E,E,tV⟩) (Knf (Kof hΓ E E E E E E E E E))<|go_E hΓ 1 E<|Kmw<|gA 8 E<|jC E h14 (fun h15=>?_) fun h16=>gA 9 E<|bK h16 fun q17 hq17 h18=>Kjt 7 [(0,.ptr 4 0),(3,.ptr 6 0),(5,.ptr 7 0),(55,B q17)] (oN n 0 1 2 3 [bg al,.box 37 (fS s),.box 77 [S (((mGet n.there s.Node).getD (⟨[],[],[],[],[],0,0,false⟩:Lgn)).Node),S (((mGet n.there s.Node).getD (⟨[],[],[],[],[],0,0,false⟩:Lgn)).User),S (((mGet n.there s.Node).getD (⟨[],[],[],[],[],0,0,false⟩:Lgn)).Name),S (((mGet n.there s.Node).getD (⟨[],[],[],[],[],0,0,false⟩:Lgn)).Public),.d (Sl eS (((mGet n.there s.Node).getD (⟨[],[],[],[],[],0,0,false⟩:Lgn)).Tags)),I (((mGet n.there s.Node).getD (⟨[],[],[],[],[],0,0,false⟩:Lgn)).Joined),I (((mGet n.there s.Node).getD (⟨[],[],[],[],[],0,0,false⟩:Lgn)).Expires),B (((mGet n.there s.Node).getD (⟨[],[],[],[],[],0,0,false⟩:Lgn)).Approved)]]) ?_ ?_
 ·exact gA 7 E<|Knq<|oSi h15▸Kli hΓ [_,_] (.inr E) E E E E (.inr ⟨HB.mk E,E⟩)
 ·refine Kwh E E (fun hb=>?_) (fun hb=>?_)
  ·have h19:=cT hq17 hb
   exact bK h19 fun y20 hy20 h21=>gO 4 E<|Kwf E<|Kku [0,1,2,3,4] (B y20) (oN n 0 1 2 3 [bg al,.box 37 (fS s),.box 77 [S (((mGet n.there s.Node).getD (⟨[],[],[],[],[],0,0,false⟩:Lgn)).Node),S (((mGet n.there s.Node).getD (⟨[],[],[],[],[],0,0,false⟩:Lgn)).User),S (((mGet n.there s.Node).getD (⟨[],[],[],[],[],0,0,false⟩:Lgn)).Name),S (((mGet n.there s.Node).getD (⟨[],[],[],[],[],0,0,false⟩:Lgn)).Public),.d (Sl eS (((mGet n.there s.Node).getD (⟨[],[],[],[],[],0,0,false⟩:Lgn)).Tags)),I (((mGet n.there s.Node).getD (⟨[],[],[],[],[],0,0,false⟩:Lgn)).Joined),I (((mGet n.there s.Node).getD (⟨[],[],[],[],[],0,0,false⟩:Lgn)).Expires),B (((mGet n.there s.Node).getD (⟨[],[],[],[],[],0,0,false⟩:Lgn)).Approved)]]) C (Lru hy20) E Z E E E E E E E E E E<|gO 3 E<|oSi h21▸⟨⟨E,E,E,E,tV⟩,[],E,.inl E⟩
  have h22:=cF hq17 hb
  exact gO 8 E<|oSi h22▸⟨⟨E,E,E,E,tV⟩,[],E,.inl E⟩
 refine gO 2 E<|jC E h18 (fun h23=>?_) fun h24=>bK h24 fun y25 hy25 h26=>gA 7 E<|Kku [0,1,2,3,4,5] (I y25.1) (oN y25.2.1 0 1 2 3 [bg y25.2.2,.box 37 (fS s),.box 77 [S (((mGet n.there s.Node).getD (⟨[],[],[],[],[],0,0,false⟩:Lgn)).Node),S (((mGet n.there s.Node).getD (⟨[],[],[],[],[],0,0,false⟩:Lgn)).User),S (((mGet n.there s.Node).getD (⟨[],[],[],[],[],0,0,false⟩:Lgn)).Name),S (((mGet n.there s.Node).getD (⟨[],[],[],[],[],0,0,false⟩:Lgn)).Public),.d (Sl eS (((mGet n.there s.Node).getD (⟨[],[],[],[],[],0,0,false⟩:Lgn)).Tags)),I (((mGet n.there s.Node).getD (⟨[],[],[],[],[],0,0,false⟩:Lgn)).Joined),I (((mGet n.there s.Node).getD (⟨[],[],[],[],[],0,0,false⟩:Lgn)).Expires),B (((mGet n.there s.Node).getD (⟨[],[],[],[],[],0,0,false⟩:Lgn)).Approved)]]) C (Lrv hy25) E Z E E E E E E E E E E<|gO 4 E<|Knq<|oSi h26▸Kli hΓ [_,_] (.inr E) E E E E (.inr ⟨HB.mk E,E⟩)
 exact gA 7 E<|Knq<|oSi h23▸Kli hΓ [_,_] (.inr E) E E E E (.inr ⟨HB.mk E,E⟩)
theorem Lrx{d:Lgf}{l:List Lgg}{v_at:Int}{al:BagT}{r:Lgp×BagT}(h:Lkt d l v_at al=some r):EC Tryz.prog 139 [.agg (fD d),.d (Sl Lnm l),I v_at] [bg al] fun g hp'=>g=.ptr 5 0∧hp'=(bg r.2::oN r.1 1 2 3 4 []):=by
 unfold Lkt at h
 refine Kqd (Fr.of 0 _) Tryz.func139 E (Fr.of_ok _) Z fun _=>Kjm<|gA 2 E<|Kxo E E E E Z<|bK h fun y1 hy1 h2=>gO 6 E<|Kku [] (.ptr 6 0) (bg al::.box 29 (fD d)::oN y1 2 3 4 5 []) C (Lre hy1) E Z E E E E E E E E E E<|gO 11 E<|bK h2 fun q6 hq6 h7=>Kkd 12 E fun hb9=>Knu [(7,.ptr 6 0)] [bg q6.1,.box 29 (fD d),mObB q6.2.1,mObH q6.2.2.1,mObM q6.2.2.2.1,mObT q6.2.2.2.2.1,.box 206 [.d (Sl eS q6.2.2.2.2.2.1),.d (Sl Lnk q6.2.2.2.2.2.2.1),I q6.2.2.2.2.2.2.2.1,B q6.2.2.2.2.2.2.2.2,.map 2,.map 3,.map 4,.map 5]] ?_ ?_
 ·refine gA 1 E<|Klk l hq6 (fun i3 s4=>[(2,I v_at),(7,.ptr 6 0),(12,.d (Sl Lnm l)),(13,I (l.length:Int)),(14,I (i3:Int))]) (fun s4=>[bg s4.1,.box 29 (fD d),mObB s4.2.1,mObH s4.2.2.1,mObM s4.2.2.2.1,mObT s4.2.2.2.2.1,.box 206 [.d (Sl eS s4.2.2.2.2.2.1),.d (Sl Lnk s4.2.2.2.2.2.2.1),I s4.2.2.2.2.2.2.2.1,B s4.2.2.2.2.2.2.2.2,.map 2,.map 3,.map 4,.map 5]]) ⟨⟨E,E,E,E,E,tV⟩,[],E,.inl E⟩ (fun i3 x5 s4 y13 hx10 hlt hy11=>?_) (?_)
  ·refine gA 6 E<|Kjo E (decide_eq_true (Int.ofNat_lt.2 hlt))<|gA 6 E<|eo_o E (Kke hΓ (enc:=Lnm) (Kjx hx10) E E E E E (fun _=>E))<|gO 1 E<|Kxn hΓ E E E Z<|Kxs hΓ E E E E E E E E Z<|Kld [bg s4.1,.box 29 (fD d),mObB s4.2.1,mObH s4.2.2.1,mObM s4.2.2.2.1,mObT s4.2.2.2.2.1,.box 206 [.d (Sl eS s4.2.2.2.2.2.1),.d (Sl Lnk s4.2.2.2.2.2.2.1),I s4.2.2.2.2.2.2.2.1,B s4.2.2.2.2.2.2.2.2,.map 2,.map 3,.map 4,.map 5],.box 37 (fS x5)] E<|gO 10 E<|jC E hy11 (fun h14=>?_) fun h17=>gA 7 E ?_
   ·refine bK h14 fun y15 hy15 h16=>gA 3 E<|Kku [2,3,4,5,6,0] (I y15.1) (bg y15.2.2::.box 29 (fD d)::oN y15.2.1 2 3 4 5 [.box 37 (fS x5)]) C (Lrw hy15) E Z E E E E E E E E E E<|gO 7 E ?_
    cases h16
    exact⟨⟨E,E,E,E,Kiv E (Kiu (nLl hlt hb9)),tV⟩,[_],E,.inr ⟨HB.mk E,FB.mk E,Z⟩⟩
   cases h17
   exact⟨⟨E,E,E,E,Kiv E (Kiu (nLl hlt hb9)),tV⟩,[_],E,.inr ⟨HB.mk E,FB.mk E,Z⟩⟩
  exact gA 6 E<|Kjp E (decide_eq_false (Int.lt_irrefl _))<|gA 4 E<|⟨⟨E,tV⟩,[],E,.inl E⟩
 exact gA 8 E<|Kpy 1 [bg q6.1,.dead,mObB q6.2.1,mObH q6.2.2.1,mObM q6.2.2.2.1,mObT q6.2.2.2.2.1,.box 206 [.d (Sl eS q6.2.2.2.2.2.1),.d (Sl Lnk q6.2.2.2.2.2.2.1),I q6.2.2.2.2.2.2.2.1,B q6.2.2.2.2.2.2.2.2,.map 2,.map 3,.map 4,.map 5]] E Z<|Kns 2 1 [bg q6.1,mObB q6.2.1,.dead,mObH q6.2.2.1,mObM q6.2.2.2.1,mObT q6.2.2.2.2.1,.box 206 [.d (Sl eS q6.2.2.2.2.2.1),.d (Sl Lnk q6.2.2.2.2.2.2.1),I q6.2.2.2.2.2.2.2.1,B q6.2.2.2.2.2.2.2.2,.map 1,.map 3,.map 4,.map 5]] E E E E E E<|Kns 3 2 [bg q6.1,mObB q6.2.1,mObH q6.2.2.1,.dead,mObM q6.2.2.2.1,mObT q6.2.2.2.2.1,.box 206 [.d (Sl eS q6.2.2.2.2.2.1),.d (Sl Lnk q6.2.2.2.2.2.2.1),I q6.2.2.2.2.2.2.2.1,B q6.2.2.2.2.2.2.2.2,.map 1,.map 2,.map 4,.map 5]] E E E E E E<|Kns 4 3 [bg q6.1,mObB q6.2.1,mObH q6.2.2.1,mObM q6.2.2.2.1,.dead,mObT q6.2.2.2.2.1,.box 206 [.d (Sl eS q6.2.2.2.2.2.1),.d (Sl Lnk q6.2.2.2.2.2.2.1),I q6.2.2.2.2.2.2.2.1,B q6.2.2.2.2.2.2.2.2,.map 1,.map 2,.map 3,.map 5]] E E E E E E<|Kns 5 4 [bg q6.1,mObB q6.2.1,mObH q6.2.2.1,mObM q6.2.2.2.1,mObT q6.2.2.2.2.1,.dead,.box 206 [.d (Sl eS q6.2.2.2.2.2.1),.d (Sl Lnk q6.2.2.2.2.2.2.1),I q6.2.2.2.2.2.2.2.1,B q6.2.2.2.2.2.2.2.2,.map 1,.map 2,.map 3,.map 4]] E E E E E E<|Kns 6 5 [bg q6.1,mObB q6.2.1,mObH q6.2.2.1,mObM q6.2.2.2.1,mObT q6.2.2.2.2.1,.box 206 [.d (Sl eS q6.2.2.2.2.2.1),.d (Sl Lnk q6.2.2.2.2.2.2.1),I q6.2.2.2.2.2.2.2.1,B q6.2.2.2.2.2.2.2.2,.map 1,.map 2,.map 3,.map 4],.dead] E E E E E E<|Knq<|oSi h7▸Kli hΓ [_] (.inr E) E E E E (.inr ⟨HB.mk E,E⟩)
theorem Lry{m:Lgn}{r:Lgn}(h:Lku m=some r):Pure Tryz.prog 140 [.agg (fM m)] (.agg (fM r)):=by
 unfold Lku at h
 exact Pure.enter (Fr.of 0 _) Tryz.func140 E (Fr.of_ok _) E E<|Kjm<|gA 2 E<|Kxo E E E E Z<|Kxn hΓ E E E Z<|bK h fun y1 hy1 h2=>gO 6 E<|Kkv C (Pure.rows (Lrh hy1) E E) E Z E E E E E<|gO 1 E<|Kxs hΓ E E E E E E E E Z<|Kld [.box 77 [S m.Node,S m.User,S m.Name,S m.Public,.d (Sl eS y1),I m.Joined,I m.Expires,B m.Approved],.box 77 [S [],S [],S [],S [],.d (Sl eS []),I 0,I 0,B false]] E<|gO 5 E<|Kxs hΓ E E E E E E E E Z<|Kld [.box 77 [S m.Node,S m.User,S m.Name,S m.Public,.d (Sl eS y1),I m.Joined,I m.Expires,B m.Approved],.box 77 [S m.Node,S m.User,S m.Name,S m.Public,.d (Sl eS y1),I m.Joined,I m.Expires,B m.Approved]] E<|gO 3 E<|oSi h2▸gP E E
theorem Lrz{n:Lgp}{r:List Lgn}(h:Lkv n=some r):EC Tryz.prog 137 [.ptr 4 0] (oN n 0 1 2 3 []) fun g hp'=>g=.sl 5 r.length∧hp'=(oN n 0 1 2 3 [rO 77 8 Lnt r]):=by
 unfold Lkv at h
 refine Kqd (Fr.of 0 _) Tryz.func137 E (Fr.of_ok _) Z fun _=>Kjm<|gA 2 E<|Kks (t:=0) 77 8 E Z<|gO 4 E<|Kks (t:=0) 77 8 E Z<|gO 9 E<|Kku [2] (.fn (.func 305) [] [.ptr 7 0]) (oN n 0 1 2 3 [rO 77 8 Lnt ([]:List Lgn),rO 77 8 Lnt ([]:List Lgn),.box 203 [.map 2]]) C (EC.mapKeys (o:=mObM n.there) Ltv) E Z E E E E E E E E E E<|gK h fun hg2 h1=>Kku [2,7] (.sl 8 (sortK n.there).length) (oN n 0 1 2 3 [rO 77 8 Lnt ([]:List Lgn),rO 77 8 Lnt ([]:List Lgn),.box 203 [.map 2],rO 9 1 eS (sortK n.there)]) C (EC.sortedKeys true Lnt str9 (Kuw hg2) (Kux hg2) Ltu) E Z E E E E E E E E E E<|Klb 8 [11] _ (oN n 0 1 2 3 [rO 77 8 Lnt ([]:List Lgn),rO 77 8 Lnt ([]:List Lgn),.box 203 [.map 2],.dead]) E E E Z<|gO 4 E<|bK h1 fun q6 hq6 h7=>Kkd 11 E fun hb9=>Knu [(3,.sl 6 q6.length)] (oN n 0 1 2 3 [rO 77 8 Lnt ([]:List Lgn),rO 77 8 Lnt q6,.box 203 [.map 2],.dead]) ?_ ?_
 ·refine gA 1 E<|Klk (sortK n.there) hq6 (fun i3 s4=>[(0,.ptr 4 0),(3,.sl 6 s4.length),(11,.d (Sl eS (sortK n.there))),(12,I ((sortK n.there).length:Int)),(13,I (i3:Int))]) (fun s4=>(oN n 0 1 2 3 [rO 77 8 Lnt ([]:List Lgn),rO 77 8 Lnt s4,.box 203 [.map 2],.dead])) ⟨⟨E,E,E,E,E,tV⟩,[],E,.inl E⟩ (fun i3 x5 s4 y13 hx10 hlt hy11=>?_) (?_)
  ·refine gA 6 E<|Kjo E (decide_eq_true (Int.ofNat_lt.2 hlt))<|gA 6 E<|eo_o E (Kke hΓ (enc:=eS) (Kjx hx10) E E E E E (fun _=>E))<|gO 11 E<|eo_o E (Kpb hΓ (kv:=kS) (agg:=true) (enc:=Lnt) n.there x5 ((⟨[],[],[],[],[],0,0,false⟩:Lgn):Lgn) E E E E Kor E E E E E E E)<|bK hy11 fun y14 hy14 h15=>Kkv C (Lry hy14) E Z E E E E E<|Kkp hΓ (enc:=Lnt) [y14] E E E E E E E E E E E E Z<|bK h15 fun y16 hy16 h17=>Kle hΓ (enc:=Lnt) hy16 E E E E E E E E E (fun _=>E) E E E E<|gO 8 E ?_
   cases h17
   exact⟨⟨E,E,E,E,Kiv E (Kiu (nLl hlt hb9)),tV⟩,[],E,.inl E⟩
  exact gA 6 E<|Kjp E (decide_eq_false (Int.lt_irrefl _))<|gA 4 E<|⟨⟨E,tV⟩,[],E,.inl E⟩
 exact gA 8 E<|Kpy 5 (oN n 0 1 2 3 [.dead,rO 77 8 Lnt q6,.box 203 [.map 2],.dead]) E Z<|Kns 6 5 (oN n 0 1 2 3 [rO 77 8 Lnt q6,.dead,.box 203 [.map 2],.dead]) E E E E E E<|Knq<|oSi h7▸Kli hΓ [_,_,_] (.inr E) E E E E (.inr ⟨HB.mk E,E⟩)
theorem Lsa{m:Lgn}{x:Int}{r:Bool}(h:Lkw m x=some r):EC Tryz.prog 248 [.agg (fM m),.ptr 0 0] [.box 3 [I x]] fun g hp'=>g=B r∧hp'=[.box 3 [I x]]:=by
 unfold Lkw at h
 refine Kvz (Fr.of 0 _) Tryz.func248 E (Fr.of_ok _) Z fun _=>Kjm<|gA 2 E<|Kxo E E E E Z<|gO 9 E<|Kjt 5 [(3,B false),(12,B ((!m.Approved)||(decide ((x:Int)≥m.Expires))))] [.box 3 [I x],.box 77 (fM m)] ?_ ?_
 ·refine Kwh E E (fun hb=>?_) (fun hb=>?_)
  ·exact gO 6 E<|⟨⟨E,Kiw E (or_t hb),tV⟩,[],E,.inl E⟩
  exact gO 6 E<|⟨⟨E,Kiw E (or_f hb),tV⟩,[],E,.inl E⟩
 exact gO 4 E<|oSi h▸Kli hΓ [_] (.inr E) E E E E (.inr ⟨HB.mk E,E⟩)
theorem Lsb{s:List Lgn}{f:Int}{r:Int}(h:Lkx s f=some r):EC Tryz.prog 249 [.sl 0 s.length,.fn (.func 248) [] [.ptr 1 0]] [rO 77 8 Lnt s,.box 3 [I f]] fun g hp'=>g=I r∧hp'=[rO 77 8 Lnt s,.box 3 [I f]]:=by
 unfold Lkx at h
 refine Kvz (Fr.of 0 _) Tryz.func249 E (Fr.of_ok _) Z fun _=>Kjm<|gA 13 E<|bK h fun q4 hq4 h5=>gK hq4 fun hb7 h8=>?_
 replace hb7:=of_decide_eq_true hb7
 refine Knt (R:=fun a6=>q4=.go a6) (fun a6=>[]) (fun a6=>[rO 77 8 Lnt s,.box 3 [I f]]) ?_ ?_
 ·refine gA 1 E<|Kll h8 (fun i1 s2=>[(0,.sl 0 s.length),(1,.fn (.func 248) [] [.ptr 1 0]),(7,I (s.length:Int)),(8,I (i1:Int))]) (fun s2=>[rO 77 8 Lnt s,.box 3 [I f]]) ⟨⟨E,E,E,E,tV⟩,[],E,.inl E⟩ (fun i1 s2 y12 hlt hy10 hout11=>?_) (fun s2 hgo hge=>?_)
  ·refine gA 6 E<|Kjo E (decide_eq_true hlt)<|bK hy10 fun x13 hx13 h14=>?_
   have hj15:=Kln hx13
   refine gA 15 E<|eo_o E (Kkg hΓ hx13 E E E E E E)<|eo_o E (Kkm hΓ (enc:=Lnt) ((i1:Int).toNat) 0 hj15 E E E E (fun _=>E) (g:=.agg (fM x13)) E)<|bK h14 fun y16 hy16 h17=>Kku [1] (B y16) [rO 77 8 Lnt s,.box 3 [I f]] C (Lsa hy16) E Z E E E E E E E E E E<|gO 2 E<|jC E h17 (fun h18=>?_) fun h21=>gA 7 E<|oSi h21▸⟨_,E,⟨⟨E,E,E,Kiv E (Kiu (by omega)),tV⟩,[],E,.inl E⟩⟩
   refine gA 9 E<|bK h18 fun v19 hv19 h20=>?_
   cases h20
   obtain rfl:=hout11 _ rfl
   cases h5
   exact gA 4 E<|oSi hv19▸Kli hΓ [] (.inr E) E E E E (.inl E)
  subst hgo
  exact gA 6 E<|Kjp E (decide_eq_false hge)<|gA 4 E<|⟨_,E,⟨tV,[],E,.inl E⟩⟩
 intro a6 ha
 subst ha
 replace h5:=Kno h5
 exact gA 7 E<|oSi h5▸Kli hΓ [] (.inr E) E E E E (.inl E)
theorem Lsc{k:Nat}{s:List Lgn}{f:Int}{r:List Lgn}(h:Lky k s f=some r):EC Tryz.prog 163 [.sl 0 s.length,.fn (.func 248) [] [.ptr 1 0]] [rO 77 8 Lnt s,.box 3 [I f]] fun g hp'=>g=.sl 0 r.length∧hp'=[rO 77 8 Lnt r,.box 3 [I f]]:=by
 unfold Lky at h
 refine Kvz (Fr.of 0 _) Tryz.func163 E (Fr.of_ok _) Z fun _=>Kjm<|gA 2 E<|Kks (t:=0) 77 8 E Z<|bK h fun y1 hy1 h2=>gO 6 E<|Kku [0,1] (I y1) [rO 77 8 Lnt s,.box 3 [I f],rO 77 8 Lnt ([]:List Lgn)] C (Lsb hy1) E Z E E E E E E E E E E<|gO 10 E<|jC E h2 (fun h3=>?_) fun h4=>gA 10 E<|bK h4 fun q8 hq8 h9=>Knu [(0,.sl 0 q8.1.length),(5,I q8.2)] [rO 77 8 Lnt q8.1,.box 3 [I f],rO 77 8 Lnt ([]:List Lgn)] ?_ ?_
 ·exact gA 8 E<|oSi h3▸Kli hΓ [_] (.inr E) E E E E (.inr ⟨HB.mk E,E⟩)
 ·refine gA 1 E<|Kka hq8 (fun s6=>[(0,.sl 0 s6.1.length),(1,.fn (.func 248) [] [.ptr 1 0]),(5,I s6.2.1),(6,I s6.2.2)]) (fun s6=>[rO 77 8 Lnt s6.1,.box 3 [I f],rO 77 8 Lnt ([]:List Lgn)]) ⟨⟨E,E,E,E,tV⟩,[],E,.inl E⟩ (fun s6 y14 hy12 hout13=>?_)
  refine gA 9 E<|jC E hy12 (fun h15=>?_) fun h26=>gA 4 E ?_
  ·refine bK h15 fun x16 hx16 h17=>?_
   have hj18:=Kln hx16
   refine gA 8 E<|eo_o E (Kkg hΓ hx16 E E E E E E)<|eo_o E (Kkm hΓ (enc:=Lnt) s6.2.2.toNat 0 hj18 E E E E (fun _=>E) (g:=.agg (fM x16)) E)<|Kxn hΓ E E E Z<|Kxs hΓ E E E E E E E E Z<|Kld [rO 77 8 Lnt s6.1,.box 3 [I f],rO 77 8 Lnt ([]:List Lgn),.box 77 (fM x16)] E<|bK h17 fun y19 hy19 h20=>gO 6 E<|Kku [1] (B y19) [rO 77 8 Lnt s6.1,.box 3 [I f],rO 77 8 Lnt ([]:List Lgn),.box 77 (fM x16)] C (Lsa hy19) E Z E E E E E E E E E E<|gO 3 E<|jC E h20 (fun h21=>?_) fun h25=>gA 8 E<|oSi h25▸⟨_,E,⟨⟨E,E,E,E,tV⟩,[_],E,.inr ⟨HB.mk E,FB.mk E,Z⟩⟩⟩
   refine bK h21 fun x22 hx22 h23=>?_
   have hj24:=Kln hx22
   exact gA 5 E<|eo_o E (Kkg hΓ hx22 E E E E E E)<|Kko hΓ (enc:=Lnt) (z':=x16) s6.2.1.toNat 0 hj24 E E E E (fun _=>E) E E E E E E Z<|Kld [rO 77 8 Lnt (s6.1.set s6.2.1.toNat x16),.box 3 [I f],rO 77 8 Lnt ([]:List Lgn),.box 77 (fM x16)] E<|Koe 0 (n':=(s6.1.set s6.2.1.toNat x16).length) E List.length_set.symm<|gO 14 E<|oSi h23▸⟨_,E,⟨⟨E,E,E,E,tV⟩,[_],E,.inr ⟨HB.mk E,FB.mk E,Z⟩⟩⟩
  cases h26
  obtain rfl:=hout13 _ rfl
  exact⟨⟨E,E,tV⟩,[],E,.inl E⟩
 exact bK h9 fun z27 hz27 h28=>gA 5 E<|eo_o E (Koc hΓ hz27 E E E E E E)<|Knz Z (Kob hΓ (enc:=Lnt) (a:=q8.2) hz27 E E E E E E E E E E (fun _=>E))<|gO 6 E<|Kod hΓ hz27 E E E E E E E E<|gO 4 E<|oSi h28▸Kli hΓ [_] (.inr E) E E E E (.inr ⟨HB.mk E,E⟩)
theorem Lsd{k:Nat}{n:Lgp}{moment:Int}{r:List Lgn}(h:Lkz k n moment=some r):EC Tryz.prog 162 [.ptr 4 0,I moment] (oN n 0 1 2 3 []) fun g hp'=>g=.sl 5 r.length∧hp'=(oN n 0 1 2 3 [rO 77 8 Lnt r]):=by
 unfold Lkz at h
 exact Kqd (Fr.of 0 _) Tryz.func162 E (Fr.of_ok _) Z fun _=>Kjm<|gA 2 E<|Kxo E E E E Z<|Kks (t:=0) 77 8 E Z<|bK h fun y1 hy1 h2=>gO 5 E<|Kku [0,1,2,3,4] (.sl 7 y1.length) (oN n 0 1 2 3 [.box 3 [I moment],rO 77 8 Lnt ([]:List Lgn),rO 77 8 Lnt y1]) C (Lrz hy1) E Z E E E E E E E E E E<|bK h2 fun y3 hy3 h4=>gO 1 E<|Kku [7,5] (.sl 7 y3.length) (oN n 0 1 2 3 [.box 3 [I moment],rO 77 8 Lnt ([]:List Lgn),rO 77 8 Lnt y3]) C (Lsc hy3) E Z E E E E E E E E E E<|gO 3 E<|Kqb 6 (oN n 0 1 2 3 [.box 3 [I moment],.dead,rO 77 8 Lnt y3]) E Z<|Kmp 7 6 (oN n 0 1 2 3 [.box 3 [I moment],rO 77 8 Lnt y3,.dead]) E E E E E E<|gA 1 E<|Kpy 5 (oN n 0 1 2 3 [.dead,rO 77 8 Lnt y3,.dead]) E Z<|Kns 6 5 (oN n 0 1 2 3 [rO 77 8 Lnt y3,.dead,.dead]) E E E E E E<|Knq<|oSi h4▸Kli hΓ [_,_] (.inr E) E E E E (.inr ⟨HB.mk E,E⟩)
theorem Lse{p:Lgk}{node:Str}{r:Int}(h:Lla p node=some r):Pure Tryz.prog 178 [.agg [S p.Node,.d (Slt 252 3 Lno p.Addrs),.d (Slt 257 4 Lnp p.Routes)],S node] (I r):=by
 unfold Lla at h
 exact Pure.enter (Fr.of 0 _) Tryz.func178 E (Fr.of_ok _) E E<|Kjm<|gA 2 E<|Kxo E E E E Z<|bK h fun y1 hy1 h2=>gO 8 E<|Kkv C (Lfu hy1) E Z E E E E E<|gO 4 E<|oSi h2▸gP E E
theorem Lsf{k:Nat}{x:List Lgk}{target:Str}{r:Int×Bool}(h:Llb k x target=some r):Pure Tryz.prog 177 [.d (Sl Lnq x),S target,.fn (.func 178) [] []] (.tup [I r.1,B r.2]):=by
 unfold Llb at h
 refine Pure.enter (Fr.of 0 _) Tryz.func177 E (Fr.of_ok _) E E<|Kjm<|gA 21 E<|bK h fun q4 hq4 h5=>Knu [(0,.d (Sl Lnq x)),(1,S target),(2,.fn (.func 178) [] []),(8,I (x.length:Int)),(9,I q4)] [] ?_ ?_
 ·refine gA 1 E<|Kka hq4 (fun s2=>[(0,.d (Sl Lnq x)),(1,S target),(2,.fn (.func 178) [] []),(8,I (x.length:Int)),(9,I s2.1),(10,I s2.2)]) (fun s2=>[]) ⟨⟨E,E,E,E,E,E,tV⟩,[],E,.inl E⟩ (fun s2 y10 hy8 hout9=>?_)
  refine gA 8 E<|jC E hy8 (fun h11=>?_) fun h18=>gA 4 E ?_
  ·refine bK h11 fun x12 hx12 h13=>gA 19 E<|eo_o E (Kke hΓ (enc:=Lnq) hx12 E E E E E (fun _=>E))<|bK h13 fun y14 hy14 h15=>gO 2 E<|Kkv C (Lse hy14) E Z E E E E E<|gO 3 E<|jC E h15 (fun h16=>?_) fun h17=>gA 5 E<|oSi h17▸⟨_,E,⟨⟨E,E,E,E,E,E,tV⟩,[],E,.inl E⟩⟩
   exact gA 6 E<|oSi h16▸⟨_,E,⟨⟨E,E,E,E,E,E,tV⟩,[],E,.inl E⟩⟩
  cases h18
  obtain rfl:=hout9 _ rfl
  exact⟨⟨E,E,E,E,E,tV⟩,[],E,.inl E⟩
 refine gA 8 E<|bK h5 fun q19 hq19 h20=>Kjt 9 [(35,I q4),(48,B q19)] [] ?_ ?_
 ·refine Kwh E E (fun hb=>?_) (fun hb=>?_)
  ·have h21:=cT hq19 hb
   exact bK h21 fun x22 hx22 h23=>gO 3 E<|Kwf E<|eo_o E (Kke hΓ (enc:=Lnq) hx22 E E E E E (fun _=>E))<|bK h23 fun y24 hy24 h25=>gO 2 E<|Kwf E<|Kkv C (Lse hy24) E Z E E E E E<|gO 3 E<|oSi h25▸⟨⟨E,E,tV⟩,[],E,.inl E⟩
  have h26:=cF hq19 hb
  exact gO 10 E<|oSi h26▸⟨⟨E,E,tV⟩,[],E,.inl E⟩
 exact gO 5 E<|oSi h20▸gP E E
theorem Lsg{s:List Lgi}{r:List Lgi}(h:Llc s=some r):EC Tryz.prog 179 [.d (Sl Lno s)] [] fun g hp'=>g=.sl 0 r.length∧hp'=[rO 252 3 Lno r]:=by
 unfold Llc at h
 refine Kqd (Fr.of 0 _) Tryz.func179 E (Fr.of_ok _) Z fun _=>Kjm<|gA 2 E<|Kks (t:=0) 252 3 E Z<|gO 6 E<|Kje hΓ E E E E E fun b hbn=>?_
 rcases b with _ | _
 ·exact gO 7 E<|Kkr hΓ (enc:=Lno) ([]:List Lgi) E E E E E E E E E E E E Z<|bK h fun y1 hy1 h2=>gO 1 E<|Kle hΓ (enc:=Lno) hy1 E E E E E E E E E (fun _=>E) E E E E<|gO 3 E<|Kqb 0 [.dead,rO 252 3 Lno y1] E Z<|Kmp 1 0 [rO 252 3 Lno y1,.dead] E E E E E E<|gA 1 E<|Knq<|oSi h2▸Kli hΓ [_] (.inr E) E E E E (.inr ⟨HB.mk E,E⟩)
 obtain rfl:=List.eq_nil_of_length_eq_zero (hbn rfl).1
 replace h:(some ([]:List Lgi):Option (List Lgi))=some r:=h
 exact gO 5 E<|Kks (t:=0) 252 3 E Z<|gO 4 E<|Kpy 0 [.dead,rO 252 3 Lno ([]:List Lgi)] E Z<|Kns 1 0 [rO 252 3 Lno ([]:List Lgi),.dead] E E E E E E<|Knq<|oSi h▸Kli hΓ [_] (.inr E) E E E E (.inr ⟨HB.mk E,E⟩)
theorem Lsh{s:List Lgj}{r:List Lgj}(h:Lld s=some r):EC Tryz.prog 180 [.d (Sl Lnp s)] [] fun g hp'=>g=.sl 0 r.length∧hp'=[rO 257 4 Lnp r]:=by
 unfold Lld at h
 refine Kqd (Fr.of 0 _) Tryz.func180 E (Fr.of_ok _) Z fun _=>Kjm<|gA 2 E<|Kks (t:=0) 257 4 E Z<|gO 6 E<|Kje hΓ E E E E E fun b hbn=>?_
 rcases b with _ | _
 ·exact gO 7 E<|Kkr hΓ (enc:=Lnp) ([]:List Lgj) E E E E E E E E E E E E Z<|bK h fun y1 hy1 h2=>gO 1 E<|Kle hΓ (enc:=Lnp) hy1 E E E E E E E E E (fun _=>E) E E E E<|gO 3 E<|Kqb 0 [.dead,rO 257 4 Lnp y1] E Z<|Kmp 1 0 [rO 257 4 Lnp y1,.dead] E E E E E E<|gA 1 E<|Knq<|oSi h2▸Kli hΓ [_] (.inr E) E E E E (.inr ⟨HB.mk E,E⟩)
 obtain rfl:=List.eq_nil_of_length_eq_zero (hbn rfl).1
 replace h:(some ([]:List Lgj):Option (List Lgj))=some r:=h
 exact gO 5 E<|Kks (t:=0) 257 4 E Z<|gO 4 E<|Kpy 0 [.dead,rO 257 4 Lnp ([]:List Lgj)] E Z<|Kns 1 0 [rO 257 4 Lnp ([]:List Lgj),.dead] E E E E E E<|Knq<|oSi h▸Kli hΓ [_] (.inr E) E E E E (.inr ⟨HB.mk E,E⟩)
theorem Lsi{k:Nat}{d:Lgf}{l:List Lgg}{places:List Lgk}{moment:Int}{al:BagT}{r:(List Lgm)×Int×BagT}(h:Lle k d l places moment al=some r):EC Tryz.prog 78 [.agg (fD d),.d (Sl Lnm l),.d (Sl Lnq places),I moment] [bg al] fun g hp'=>g=.tup [.d (Sl Lns r.1),I r.2.1]∧hp'=[bg r.2.2]:=by
 unfold Lle at h
 refine Kvz (Fr.of 0 _) Tryz.func78 E (Fr.of_ok _) Z fun _=>Kjm<|gA 2 E<|Kxo E E E E Z<|bK h fun y1 hy1 h2=>gO 9 E<|Kkv C (Lqv hy1) E Z E E E E E<|gO 9 E<|jC E h2 (fun h3=>?_) fun h4=>bK h4 fun y5 hy5 h6=>gA 6 E<|Kkv C (Lrd hy5) E Z E E E E E<|gO 9 E<|jC E h6 (fun h7=>?_) fun h8=>?_
 ·exact gA 9 E<|oSi h3▸Kli hΓ [_] (.inr E) E E E E (.inr ⟨HB.mk E,E⟩)
 ·exact gA 9 E<|oSi h7▸Kli hΓ [_] (.inr E) E E E E (.inr ⟨HB.mk E,E⟩)
 refine bK h8 fun y9 hy9 h10=>gA 6 E<|Kkv C (Lqh hy9) E Z E E E E E<|gO 3 E<|jC E h10 (fun h11=>?_) fun h12=>gA 4 E<|Kks (t:=0) 138 6 E Z<|bK h12 fun y13 hy13 h14=>gO 8 E<|Kku [0] (.ptr 7 0) (bg y13.2::.box 29 (fD d)::rO 138 6 Lns ([]:List Lgm)::oN y13.1 3 4 5 6 []) C (Lrx hy13) E Z E E E E E E E E E E<|bK h14 fun y15 hy15 h16=>gO 1 E<|Kku [3,4,5,6,7] (.sl 8 y15.length) (bg y13.2::.box 29 (fD d)::rO 138 6 Lns ([]:List Lgm)::oN y13.1 3 4 5 6 [rO 77 8 Lnt y15]) C (Lsd hy15) E Z E E E E E E E E E E<|Klb 8 [37] _ (bg y13.2::.box 29 (fD d)::rO 138 6 Lns ([]:List Lgm)::oN y13.1 3 4 5 6 [.dead]) E E E Z<|gO 4 E<|bK h16 fun q20 hq20 h21=>Kkd 37 E fun hb23=>Knu [(12,.sl 2 q20.length)] (bg y13.2::.box 29 (fD d)::rO 138 6 Lns q20::oN y13.1 3 4 5 6 [.dead]) ?_ ?_
 ·exact gA 8 E<|oSi h11▸Kli hΓ [_] (.inr E) E E E E (.inr ⟨HB.mk E,E⟩)
 ·refine gA 1 E<|Klk y15 hq20 (fun i17 s18=>[(2,.d (Sl Lnq places)),(12,.sl 2 s18.length),(37,.d (Sl Lnt y15)),(38,I (y15.length:Int)),(39,I (i17:Int))]) (fun s18=>(bg y13.2::.box 29 (fD d)::rO 138 6 Lns s18::oN y13.1 3 4 5 6 [.dead])) ⟨⟨E,E,E,E,E,tV⟩,[],E,.inl E⟩ (fun i17 x19 s18 y27 hx24 hlt hy25=>?_) (?_)
  ·refine gA 6 E<|Kjo E (decide_eq_true (Int.ofNat_lt.2 hlt))<|gA 6 E<|eo_o E (Kke hΓ (enc:=Lnt) (Kjx hx24) E E E E E (fun _=>E))<|gO 1 E<|Kxn hΓ E E E Z<|Kxs hΓ E E E E E E E E Z<|Kld (bg y13.2::.box 29 (fD d)::rO 138 6 Lns s18::oN y13.1 3 4 5 6 [.dead,.box 77 (fM x19)]) E<|gO 12 E<|Khr hΓ (gs:=[S x19.Node,S x19.User,S x19.Name,.d (Sl eS x19.Tags),.d (Sl Lno []),.d (Sl Lnp [])]) E E E E E E E<|Kxn hΓ E E E Z<|Kxs hΓ E E E E E E E E Z<|Kld (bg y13.2::.box 29 (fD d)::rO 138 6 Lns s18::oN y13.1 3 4 5 6 [.dead,.box 77 (fM x19),.box 138 [S x19.Node,S x19.User,S x19.Name,.d (Sl eS x19.Tags),.d (Sl Lno []),.d (Sl Lnp [])]]) E<|bK hy25 fun y28 hy28 h29=>gO 8 E<|Kkv C (Lsf hy28) E Z E E E E E<|bK h29 fun q30 hq30 h31=>gO 12 E<|Knu [(2,.d (Sl Lnq places)),(12,.sl 2 s18.length),(15,.ptr 10 0),(37,.d (Sl Lnt y15)),(38,I (y15.length:Int)),(39,I (i17:Int))] (bg y13.2::.box 29 (fD d)::rO 138 6 Lns s18::oN y13.1 3 4 5 6 [.dead,.box 77 (fM x19),.box 138 [S q30.Key,S q30.User,S q30.Name,.d (Sl eS q30.Tags),.d (Sl Lno q30.Addrs),.d (Sl Lnp q30.Routes)]]) ?_ ?_
   ·refine jC E hq30 (fun h32=>?_) fun h41=>gA 1 E<|oSi h41▸⟨⟨E,E,E,E,E,E,tV⟩,[],E,.inl E⟩
    exact Kmu [] [] [13,15] [] hmix (by kernel_rfl) (by kernel_rfl) trivial Z<|bK h32 fun x33 hx33 h34=>go_E hΓ 2 E<|ge_q E (.inl E) (fun _ _=>Kmx (qt_p (Kke hΓ (enc:=Lnq) hx33 E E E E E (fun _=>E))))<|go_E hΓ 1 E<|ge_q E (.inl E) (fun _ _=>Kmx (qt_p (Kqn (Kxb hΓ (g:=.d (Slt 252 3 Lno x33.Addrs)) E) G.Le.unt)))<|bK h34 fun y35 hy35 h36=>Knh C (Pure.rows (Lsg hy35) E E) E E E E E E<|bK h36 fun x37 hx37 h38=>go_E hΓ 2 E<|ge_q E (.inl E) (fun _ _=>Kmx (qt_p (Kke hΓ (enc:=Lnq) hx37 E E E E E (fun _=>E))))<|go_E hΓ 1 E<|ge_q E (.inl E) (fun _ _=>Kmx (qt_p (Kqn (Kxb hΓ (g:=.d (Slt 257 4 Lnp x37.Routes)) E) G.Le.unt)))<|bK h38 fun y39 hy39 h40=>Knh C (Pure.rows (Lsh hy39) E E) E E E E E E<|go_E hΓ 1 E<|Kmz (bg y13.2::.box 29 (fD d)::rO 138 6 Lns s18::oN y13.1 3 4 5 6 [.dead,.box 77 (fM x19),.box 138 [S x19.Node,S x19.User,S x19.Name,.d (Sl eS x19.Tags),.d (Sl Lno y35),.d (Sl Lnp [])]]) E E (Knb tV) (Knf (Kof hΓ E E E E E E E E E))<|go_E hΓ 1 E<|Kmz (bg y13.2::.box 29 (fD d)::rO 138 6 Lns s18::oN y13.1 3 4 5 6 [.dead,.box 77 (fM x19),.box 138 [S x19.Node,S x19.User,S x19.Name,.d (Sl eS x19.Tags),.d (Sl Lno y35),.d (Sl Lnp y39)]]) E E (Knb tV) (Knf (Kof hΓ E E E E E E E E E))<|Kmw<|oSi h40▸⟨⟨E,E,E,E,E,E,tV⟩,[],E,.inl E⟩
   refine gA 4 E<|Kkp hΓ (enc:=Lns) [q30] E E E E E E E E E E E E Z<|bK h31 fun y42 hy42 h43=>Kle hΓ (enc:=Lns) hy42 E E E E E E E E E (fun _=>E) E E E E<|gO 8 E ?_
   cases h43
   exact⟨⟨E,E,E,E,Kiv E (Kiu (nLl hlt hb23)),tV⟩,[_,_],E,.inr ⟨HB.mk E,FB.mk E,Z⟩⟩
  exact gA 6 E<|Kjp E (decide_eq_false (Int.lt_irrefl _))<|gA 4 E<|⟨⟨E,tV⟩,[],E,.inl E⟩
 exact gA 5 E<|Klb 2 [8,12,79] _ (bg y13.2::.box 29 (fD d)::.dead::oN y13.1 3 4 5 6 [.dead]) E E E Z<|gO 4 E<|oSi h21▸Kli hΓ [_,_,_,_,_,_,_,_] (.inr E) E E E E (.inr ⟨HB.mk E,E⟩)
theorem Lsj{a:Lgi}{r:Int}(h:Llf a=some r):Pure Tryz.prog 181 [.agg [B a.Six,U a.Hi,U a.Lo]] (I r):=by
 unfold Llf at h
 refine Pure.enter (Fr.of 0 _) Tryz.func181 E (Fr.of_ok _) E E<|Kjm<|gA 2 E<|Kxo E E E E Z<|gO 10 E<|Kjt 9 [(15,B ((!a.Six)&&((decide ((a.Hi:Int)>0))||(decide ((a.Lo:Int)>4294967295)))))] [.box 252 [B a.Six,U a.Hi,U a.Lo]] ?_ ?_
 ·refine Kwh E E (fun hb=>?_) (fun hb=>?_)
  ·refine gO 4 E<|Kjt 4 [(6,B true),(14,B ((decide ((a.Hi:Int)>0))||(decide ((a.Lo:Int)>4294967295))))] [.box 252 [B a.Six,U a.Hi,U a.Lo]] ?_ ?_
   ·refine Kwh E E (fun hb=>?_) (fun hb=>?_)
    ·exact gO 5 E<|⟨⟨E,Kiw E (or_t hb),tV⟩,[],E,.inl E⟩
    exact gO 5 E<|⟨⟨E,Kiw E (or_f hb),tV⟩,[],E,.inl E⟩
   exact gO 2 E<|⟨⟨Kiw E (Klo hb),tV⟩,[],E,.inl E⟩
  exact gO 10 E<|⟨⟨Kiw E (Klp hb),tV⟩,[],E,.inl E⟩
 refine gO 2 E<|jC E h (fun h1=>?_) fun h2=>gA 8 E<|oSi h2▸gP E E
 exact gA 7 E<|oSi h1▸gP E E
theorem Lsk{s:List Lgi}{v:Lgi}{r:Int}(h:Llg s v=some r):Pure Tryz.prog 259 [.d (Sl Lno s),.agg [B v.Six,U v.Hi,U v.Lo]] (I r):=by
 unfold Llg at h
 refine Pure.enter (Fr.of 0 _) Tryz.func259 E (Fr.of_ok _) E E<|Kjm<|gA 2 E<|Kxo E E E E Z<|gO 11 E<|bK h fun q4 hq4 h5=>Kkd 0 E fun hb7=>Knt (R:=fun a6=>q4=.go a6) (fun a6=>[]) (fun a6=>[.box 252 [B v.Six,U v.Hi,U v.Lo]]) ?_ ?_
 ·refine gA 1 E<|Kkc s hq4 (fun i1 s2=>[(0,.d (Sl Lno s)),(3,.ptr 0 0),(7,I (s.length:Int)),(8,I (i1:Int))]) (fun s2=>[.box 252 [B v.Six,U v.Hi,U v.Lo]]) ⟨⟨E,E,E,E,tV⟩,[],E,.inl E⟩ (fun i1 x3 s2 y11 hx8 hlt hy9 hout10=>?_) (fun s2 hgo=>?_)
  ·refine gA 6 E<|Kjo E (decide_eq_true (Int.ofNat_lt.2 hlt))<|gA 11 E<|Kjq hmix (by kernel_rfl)<|gA 3 E<|gl_o E (Kke hΓ (enc:=Lno) (Kjx hx8) E E E E E (fun _=>E))<|Kjl hΓ 1 E<|gl_o E (Kls hΓ [252] (b:=(((v.Six:Bool)==x3.Six)&&(((v.Hi:Int)==x3.Hi)&&(((v.Lo:Int)==x3.Lo)&&true)))) (by kernel_rfl) (by kernel_rfl) E E E)<|Kjl hΓ 2 E<|jC E hy9 (fun h12=>?_) fun h15=>gA 7 E ?_
   ·refine gA 9 E<|bK h12 fun v13 hv13 h14=>?_
    cases h14
    obtain rfl:=hout10 _ rfl
    cases h5
    exact gA 4 E<|oSi hv13▸gP E E
   cases h15
   exact⟨_,E,⟨⟨E,E,E,Kiv E (Kiu (nLl hlt hb7)),tV⟩,[],E,.inl E⟩⟩
  subst hgo
  exact gA 6 E<|Kjp E (decide_eq_false (Int.lt_irrefl _))<|gA 4 E<|⟨_,E,⟨tV,[],E,.inl E⟩⟩
 intro a6 ha
 subst ha
 replace h5:=Kno h5
 exact gA 7 E<|oSi h5▸gP E E
theorem Lsl{s:List Lgi}{v:Lgi}{r:Bool}(h:Llh s v=some r):Pure Tryz.prog 182 [.d (Sl Lno s),.agg [B v.Six,U v.Hi,U v.Lo]] (B r):=by
 unfold Llh at h
 exact Pure.enter (Fr.of 0 _) Tryz.func182 E (Fr.of_ok _) E E<|Kjm<|gA 2 E<|Kxo E E E E Z<|bK h fun y1 hy1 h2=>gO 7 E<|Kkv C (Lsk hy1) E Z E E E E E<|gO 5 E<|oSi h2▸gP E E
theorem Lsm{k:Nat}{p:Lgj}{r:Int}(h:Lli k p=some r):Pure Tryz.prog 183 [.agg [B p.Addr.Six,U p.Addr.Hi,U p.Addr.Lo,I p.Bits]] (I r):=by
 unfold Lli at h
 refine Pure.enter (Fr.of 0 _) Tryz.func183 E (Fr.of_ok _) E E<|Kjm<|gA 2 E<|Kxo E E E E Z<|bK h fun y1 hy1 h2=>gO 8 E<|Kkv C (Lsj hy1) E Z E E E E E<|gO 9 E<|jC E h2 (fun h3=>?_) fun h4=>gA 4 E<|Kjq hmix (by kernel_rfl)<|bK h4 fun y5 hy5 h6=>gA 4 E<|Kkw C (Lps hy5) E E E E E E<|bK h6 fun y7 hy7 h8=>Kkw C (Lot hy7) E E E E E E<|Kjl hΓ 3 E<|jC E h8 (fun h9=>?_) fun h10=>?_
 ·exact gA 8 E<|oSi h3▸gP E E
 ·exact gA 7 E<|oSi h9▸gP E E
 refine gA 4 E<|Kjq hmix (by kernel_rfl)<|bK h10 fun y11 hy11 h12=>gA 4 E<|Kkw C (Lpt hy11) E E E E E E<|bK h12 fun y13 hy13 h14=>Kjl hΓ 2 E<|Kkw C (Lpr hy13) E E E E E E<|gl_o E (Kqx hΓ (l1:=([y11.1,y11.2.1,y11.2.2.1,y11.2.2.2.1,y11.2.2.2.2.1,y11.2.2.2.2.2.1,y11.2.2.2.2.2.2.1,y11.2.2.2.2.2.2.2.1,y11.2.2.2.2.2.2.2.2]:List Int)) (l2:=([y13.1,y13.2.1,y13.2.2.1,y13.2.2.2.1,y13.2.2.2.2.1,y13.2.2.2.2.2.1,y13.2.2.2.2.2.2.1,y13.2.2.2.2.2.2.2.1,y13.2.2.2.2.2.2.2.2]:List Int)) E E E E E (by kernel_rfl) E E E E E E)<|Kjl hΓ 2 E<|jC E h14 (fun h15=>?_) fun h16=>gA 8 E<|oSi h16▸gP E E
 exact gA 7 E<|oSi h15▸gP E E
theorem Lsn{k:Nat}{l:List Lgk}{r:Int}(h:Llj k l=some r):Pure Tryz.prog 79 [.d (Sl Lnq l)] (I r):=by
 unfold Llj at h
 refine Pure.enter (Fr.of 0 _) Tryz.func79 E (Fr.of_ok _) E E<|Kjm<|gA 13 E<|jC E h (fun h1=>?_) fun h2=>gA 4 E<|Kks (t:=0) 252 3 E Z<|gO 10 E<|bK h2 fun q6 hq6 h7=>Kkd 0 E fun hb9=>Knt (R:=fun a8=>q6=.go a8) (fun a8=>[]) (fun a8=>[rO 252 3 Lno a8]) ?_ ?_
 ·exact gA 7 E<|oSi h1▸gP E E
 ·refine gA 1 E<|Kkc l hq6 (fun i3 s4=>[(0,.d (Sl Lnq l)),(3,.sl 0 s4.length),(15,.d (Sl Lnq l)),(16,I (l.length:Int)),(17,I (i3:Int))]) (fun s4=>[rO 252 3 Lno s4]) ⟨⟨E,E,E,E,E,tV⟩,[],E,.inl E⟩ (fun i3 x5 s4 y13 hx10 hlt hy11 hout12=>?_) (fun s4 hgo=>?_)
  ·refine gA 6 E<|Kjo E (decide_eq_true (Int.ofNat_lt.2 hlt))<|gA 7 E<|eo_o E (Kke hΓ (enc:=Lnq) (Kjx hx10) E E E E E (fun _=>E))<|gO 1 E<|eo_s Z (nblt.1 E) (Kqo hΓ [1,2] [S [],.d (Slt 252 3 Lno (1,[])),.d (Slt 257 4 Lnp (1,[]))] (hi:=show Γ 255=some ⟨_,_,_,_⟩ from E) E ⟨.refl _,G.Le.tagN,G.Le.tagN,tV⟩)<|Kld [rO 252 3 Lno s4,.box 255 [S [],.d (Slt 252 3 Lno (1,[])),.d (Slt 257 4 Lnp (1,[]))]] E<|gO 1 E<|Kxs hΓ E E E E E E E E Z<|Kld [rO 252 3 Lno s4,.box 255 [S x5.Node,.d (Slt 252 3 Lno x5.Addrs),.d (Slt 257 4 Lnp x5.Routes)]] E<|bK hy11 fun y14 hy14 h15=>gO 8 E<|Kkv C (Lov hy14) E Z E E E E E<|gO 4 E<|jC E h15 (fun h16=>?_) fun h19=>bK h19 fun q20 hq20 h21=>gA 1 E<|Knu [(0,.d (Sl Lnq l)),(3,.sl 0 s4.length),(5,.ptr 1 0),(15,.d (Sl Lnq l)),(16,I (l.length:Int)),(17,I (i3:Int)),(27,B q20)] [rO 252 3 Lno s4,.box 255 [S x5.Node,.d (Slt 252 3 Lno x5.Addrs),.d (Slt 257 4 Lnp x5.Routes)]] ?_ ?_
   ·refine gA 10 E<|bK h16 fun v17 hv17 h18=>?_
    cases h18
    obtain rfl:=hout12 _ rfl
    cases h7
    exact gA 4 E<|oSi hv17▸gP E E
   ·refine Kjq hmix (by kernel_rfl)<|gA 3 E<|Kib E E (fun hb=>?_) (fun hb=>?_)
    ·have h22:=cT hq20 hb
     exact bK h22 fun x23 hx23 h24=>Kjl hΓ 5 E<|Kix E E (Kke hΓ (enc:=Lnq) hx23 E E E E E (fun _=>E))<|Kjl hΓ 6 E<|oSi h24▸⟨⟨E,E,E,E,E,E,E,tV⟩,[],E,.inl E⟩
    have h25:=cF hq20 hb
    exact Kjl hΓ 12 E<|oSi h25▸⟨⟨E,E,E,E,E,E,E,tV⟩,[],E,.inl E⟩
   refine gA 1 E<|jC E h21 (fun h26=>?_) fun h29=>gA 3 E<|eo_o E (Kqn (Kxb hΓ (g:=.d (Slt 252 3 Lno x5.Addrs)) E) G.Le.unt)<|gO 5 E<|jC E h29 (fun h30=>?_) fun h33=>?_
   ·refine gA 10 E<|bK h26 fun v27 hv27 h28=>?_
    cases h28
    obtain rfl:=hout12 _ rfl
    cases h7
    exact gA 4 E<|oSi hv27▸gP E E
   ·refine gA 10 E<|bK h30 fun v31 hv31 h32=>?_
    cases h32
    obtain rfl:=hout12 _ rfl
    cases h7
    exact gA 4 E<|oSi hv31▸gP E E
   refine gA 7 E<|eo_o E (Kqn (Kxb hΓ (g:=.d (Slt 252 3 Lno x5.Addrs)) E) G.Le.unt)<|gO 4 E<|bK h33 fun q37 hq37 h38=>Kkd 47 E fun hb40=>Knt (R:=fun a39=>q37=.go a39) (fun a39=>[(0,.d (Sl Lnq l)),(3,.sl 0 a39.length),(5,.ptr 1 0),(15,.d (Sl Lnq l)),(16,I (l.length:Int)),(17,I (i3:Int))]) (fun a39=>[rO 252 3 Lno a39,.box 255 [S x5.Node,.d (Slt 252 3 Lno x5.Addrs),.d (Slt 257 4 Lnp x5.Routes)]]) ?_ ?_
   ·refine gA 1 E<|Kkc x5.Addrs.2 hq37 (fun i34 s35=>[(0,.d (Sl Lnq l)),(3,.sl 0 s35.length),(5,.ptr 1 0),(15,.d (Sl Lnq l)),(16,I (l.length:Int)),(17,I (i3:Int)),(47,.d (Sl Lno x5.Addrs.2)),(48,I (x5.Addrs.2.length:Int)),(49,I (i34:Int))]) (fun s35=>[rO 252 3 Lno s35,.box 255 [S x5.Node,.d (Slt 252 3 Lno x5.Addrs),.d (Slt 257 4 Lnp x5.Routes)]]) ⟨⟨E,E,E,E,E,E,E,E,E,tV⟩,[],E,.inl E⟩ (fun i34 x36 s35 y44 hx41 hlt hy42 hout43=>?_) (fun s35 hgo=>?_)
    ·refine gA 6 E<|Kjo E (decide_eq_true (Int.ofNat_lt.2 hlt))<|gA 6 E<|eo_o E (Kke hΓ (enc:=Lno) (Kjx hx41) E E E E E (fun _=>E))<|gO 1 E<|Kxn hΓ E E E Z<|Kxs hΓ E E E E E E E E Z<|Kld [rO 252 3 Lno s35,.box 255 [S x5.Node,.d (Slt 252 3 Lno x5.Addrs),.d (Slt 257 4 Lnp x5.Routes)],.box 252 [B x36.Six,U x36.Hi,U x36.Lo]] E<|bK hy42 fun y45 hy45 h46=>gO 6 E<|Kkv C (Lsj hy45) E Z E E E E E<|gO 9 E<|jC E h46 (fun h47=>?_) fun h52=>bK h52 fun y53 hy53 h54=>gA 7 E<|Kky C (Lsl hy53) E Z E E E E E<|gO 2 E<|jC E h54 (fun h55=>?_) fun h60=>?_
     ·refine gA 10 E<|bK h47 fun v48 hv48 h49=>?_
      cases h49
      obtain rfl:=hout43 _ rfl
      cases h38
      refine gA 6 E<|bK hv48 fun v50 hv50 h51=>?_
      cases h51
      obtain rfl:=hout12 _ rfl
      cases h7
      exact gA 4 E<|oSi hv50▸gP E E
     ·refine gA 9 E<|bK h55 fun v56 hv56 h57=>?_
      cases h57
      obtain rfl:=hout43 _ rfl
      cases h38
      refine gA 6 E<|bK hv56 fun v58 hv58 h59=>?_
      cases h59
      obtain rfl:=hout12 _ rfl
      cases h7
      exact gA 4 E<|oSi hv58▸gP E E
     refine gA 5 E<|Kkp hΓ (enc:=Lno) [x36] E E E E E E E E E E E E Z<|bK h60 fun y61 hy61 h62=>Kle hΓ (enc:=Lno) hy61 E E E E E E E E E (fun _=>E) E E E E<|gO 8 E ?_
     cases h62
     exact⟨_,E,⟨⟨E,E,E,E,E,E,E,E,Kiv E (Kiu (nLl hlt hb40)),tV⟩,[_],E,.inr ⟨HB.mk E,FB.mk E,Z⟩⟩⟩
    subst hgo
    exact gA 6 E<|Kjp E (decide_eq_false (Int.lt_irrefl _))<|gA 4 E<|⟨_,E,⟨⟨E,E,E,E,E,E,tV⟩,[],E,.inl E⟩⟩
   intro a39 ha
   subst ha
   replace h38:=Kno h38
   refine gA 5 E<|eo_o E (Kqn (Kxb hΓ (g:=.d (Slt 257 4 Lnp x5.Routes)) E) G.Le.unt)<|gO 4 E<|jC E h38 (fun h63=>?_) fun h66=>gA 5 E<|eo_o E (Kqn (Kxb hΓ (g:=.d (Slt 257 4 Lnp x5.Routes)) E) G.Le.unt)<|gO 4 E<|bK h66 fun q70 hq70 h71=>Kkd 71 E fun hb73=>Knt (R:=fun a72=>q70=.go a72) (fun a72=>[(0,.d (Sl Lnq l)),(3,.sl 0 a39.length),(15,.d (Sl Lnq l)),(16,I (l.length:Int)),(17,I (i3:Int))]) (fun a72=>[rO 252 3 Lno a39,.box 255 [S x5.Node,.d (Slt 252 3 Lno x5.Addrs),.d (Slt 257 4 Lnp x5.Routes)]]) ?_ ?_
   ·refine gA 9 E<|bK h63 fun v64 hv64 h65=>?_
    cases h65
    obtain rfl:=hout12 _ rfl
    cases h7
    exact gA 4 E<|oSi hv64▸gP E E
   ·refine gA 1 E<|Kkc x5.Routes.2 hq70 (fun i67 s68=>[(0,.d (Sl Lnq l)),(3,.sl 0 a39.length),(5,.ptr 1 0),(15,.d (Sl Lnq l)),(16,I (l.length:Int)),(17,I (i3:Int)),(71,.d (Sl Lnp x5.Routes.2)),(72,I (x5.Routes.2.length:Int)),(73,I (i67:Int))]) (fun s68=>[rO 252 3 Lno a39,.box 255 [S x5.Node,.d (Slt 252 3 Lno x5.Addrs),.d (Slt 257 4 Lnp x5.Routes)]]) ⟨⟨E,E,E,E,E,E,E,E,E,tV⟩,[],E,.inl E⟩ (fun i67 x69 s68 y77 hx74 hlt hy75 hout76=>?_) (fun s68 hgo=>?_)
    ·refine gA 6 E<|Kjo E (decide_eq_true (Int.ofNat_lt.2 hlt))<|gA 7 E<|eo_o E (Kke hΓ (enc:=Lnp) (Kjx hx74) E E E E E (fun _=>E))<|gO 1 E<|Kxn hΓ E E E Z<|gO 1 E<|Kxs hΓ E E E E E E E E Z<|Kld [rO 252 3 Lno a39,.box 255 [S x5.Node,.d (Slt 252 3 Lno x5.Addrs),.d (Slt 257 4 Lnp x5.Routes)],.box 257 [B x69.Addr.Six,U x69.Addr.Hi,U x69.Addr.Lo,I x69.Bits]] E<|bK hy75 fun y78 hy78 h79=>gO 6 E<|Kkv C (Lsm hy78) E Z E E E E E<|gO 9 E<|jC E h79 (fun h80=>?_) fun h85=>gA 3 E<|Kjq hmix (by kernel_rfl)<|gA 1 E<|gl_o E (Kqn (Kxb hΓ (g:=.d (Slt 257 4 Lnp x5.Routes)) E) G.Le.unt)<|bK h85 fun z86 hz86 h87=>Kjl hΓ 1 E<|gl_o E (Kkl hΓ (enc:=Lnp) hz86 E E E E E E (fun _=>E))<|bK h87 fun y88 hy88 h89=>Kjl hΓ 1 E<|Kkw C (Lrc hy88) E E E E E E<|Kjl hΓ 2 E<|jC E h89 (fun h90=>?_) fun h95=>?_
     ·refine gA 10 E<|bK h80 fun v81 hv81 h82=>?_
      cases h82
      obtain rfl:=hout76 _ rfl
      cases h71
      refine gA 5 E<|bK hv81 fun v83 hv83 h84=>?_
      cases h84
      obtain rfl:=hout12 _ rfl
      cases h7
      exact gA 4 E<|oSi hv83▸gP E E
     ·refine gA 8 E<|bK h90 fun v91 hv91 h92=>?_
      cases h92
      obtain rfl:=hout76 _ rfl
      cases h71
      refine gA 5 E<|bK hv91 fun v93 hv93 h94=>?_
      cases h94
      obtain rfl:=hout12 _ rfl
      cases h7
      exact gA 4 E<|oSi hv93▸gP E E
     refine gA 7 E ?_
     cases h95
     exact⟨_,E,⟨⟨E,E,E,E,E,E,E,E,Kiv E (Kiu (nLl hlt hb73)),tV⟩,[_],E,.inr ⟨HB.mk E,FB.mk E,Z⟩⟩⟩
    subst hgo
    exact gA 6 E<|Kjp E (decide_eq_false (Int.lt_irrefl _))<|gA 4 E<|⟨_,E,⟨⟨E,E,E,E,E,tV⟩,[],E,.inl E⟩⟩
   intro a72 ha
   subst ha
   replace h71:=Kno h71
   refine gA 6 E ?_
   cases h71
   exact⟨_,E,⟨⟨E,E,E,E,Kiv E (Kiu (nLl hlt hb9)),tV⟩,[_],E,.inr ⟨HB.mk E,FB.mk E,Z⟩⟩⟩
  subst hgo
  exact gA 6 E<|Kjp E (decide_eq_false (Int.lt_irrefl _))<|gA 4 E<|⟨_,E,⟨tV,[],E,.inl E⟩⟩
 intro a8 ha
 subst ha
 replace h7:=Kno h7
 exact gA 7 E<|oSi h7▸gP E E
theorem Lso{v_at:Int}{r:Int}(h:Llk v_at=some r):Pure Tryz.prog 46 [I v_at] (I r):=by
 unfold Llk at h
 refine Pure.enter (Fr.of 0 _) Tryz.func46 E (Fr.of_ok _) E E<|Kjm<|bK h fun y1 hy1 h2=>gA 9 E<|Kkv C (Lpb hy1) E Z E E E E E<|gO 3 E<|jC E h2 (fun h3=>?_) fun h4=>gA 8 E<|oSi h4▸gP E E
 exact gA 7 E<|oSi h3▸gP E E
theorem Lsp{k:Nat}{d:Lgf}{user:Str}{tag:Str}{r:Bool×Int}(h:Lll k d user tag=some r):Pure Tryz.prog 27 [.agg (fD d),S user,S tag] (.tup [B r.1,I r.2]):=by
 unfold Lll at h
 refine Pure.enter (Fr.of 0 _) Tryz.func27 E (Fr.of_ok _) E E<|Kjm<|gA 2 E<|Kxo E E E E Z<|bK h fun y1 hy1 h2=>gO 8 E<|Kkv C (Lqg hy1) E Z E E E E E<|gO 9 E<|Kjn E (fun hb=>?_) (fun hb=>?_)
 ·have h3:=cT h2 hb
  exact gA 9 E<|oSi h3▸gP E E
 have h4:=cF h2 hb
 refine bK h4 fun y5 hy5 h6=>gA 7 E<|Kkv C (Lrn hy5) E Z E E E E E<|bK h6 fun y7 hy7 h8=>gO 13 E<|Kkv C (Loy hy7) E Z E E E E E<|gO 2 E<|Kjt 3 [(9,B y5.1),(31,B ((!y7)||(!y5.2)))] [.box 29 (fD d)] ?_ ?_
 ·refine Kwh E E (fun hb=>?_) (fun hb=>?_)
  ·exact gO 4 E<|⟨⟨E,Kiw E (or_t hb),tV⟩,[],E,.inl E⟩
  exact gO 4 E<|⟨⟨E,Kiw E (or_f hb),tV⟩,[],E,.inl E⟩
 refine gO 2 E<|jC E h8 (fun h9=>?_) fun h10=>gA 10 E<|oSi h10▸gP E E
 exact gA 8 E<|oSi h9▸gP E E
theorem Lsq{k:Nat}{r:Bool}(h:Llm k=some r):Pure Tryz.prog 16 [] (B r):=by
 unfold Llm at h
 refine Pure.enter (Fr.of 0 _) Tryz.func16 E (Fr.of_ok _) E E<|Kjm<|gA 7 E<|Kkp hΓ (enc:=eS) [[97]] E E E E E E E E E E E E Z<|Kkp hΓ (enc:=eS) [[97]] E E E E E E E E E E E E Z<|Khr hΓ (gs:=[S [116],.d (Sl eS [[97]])]) E E E E E E E<|Kkp hΓ (enc:=Lnk) [(⟨[116],[[97]]⟩:Lge)] E E E E E E E E E E E E Z<|Khr hΓ (gs:=[.d (Sl eS [[97]]),.d (Sl Lnk [(⟨[116],[[97]]⟩:Lge)]),I 1,B false]) E E E E E E E<|bK h fun y1 hy1 h2=>Kkv C (Lsp hy1) E Z E E E E E<|gO 12 E<|Kjt 2 [(0,B false),(16,B (((y1.2:Int)==0)&&y1.1))] [] ?_ ?_
 ·refine Kwh E E (fun hb=>?_) (fun hb=>?_)
  ·exact gO 3 E<|⟨⟨E,Kiw E (Klo hb),tV⟩,[],E,.inl E⟩
  exact gO 3 E<|⟨⟨E,Kiw E (Klp hb),tV⟩,[],E,.inl E⟩
 exact gO 4 E<|oSi h2▸gP E E
theorem Lsr{d:Lgf}{r:Lgs}(h:Lln d=some r):EC Tryz.prog 197 [.agg (fD d)] [] fun g hp'=>g=.ptr 4 0∧hp'=(oH r 0 1 2 3 []):=by
 unfold Lln at h
 exact Kqd (Fr.of 0 _) Tryz.func197 E (Fr.of_ok _) Z fun _=>Kjm<|gA 2 E<|Kxo E E E E Z<|gO 6 E<|eo_s Z (nblt.1 E) (Kox false)<|Kld [.box 29 (fD d),mObH ([]:List (Str×Nat))] E<|eo_s Z (nblt.1 E) (Kox false)<|Kld [.box 29 (fD d),mObH ([]:List (Str×Nat)),mObH ([]:List (Str×Nat))] E<|eo_s Z (nblt.1 E) (Kox false)<|Kld [.box 29 (fD d),mObH ([]:List (Str×Nat)),mObH ([]:List (Str×Nat)),mObB ([]:List (Str×Bool))] E<|eo_s Z (nblt.1 E) (Kox false)<|Kld [.box 29 (fD d),mObH ([]:List (Str×Nat)),mObH ([]:List (Str×Nat)),mObB ([]:List (Str×Bool)),mObV ([]:List (Str×Vl))] E<|Khr hΓ (gs:=[.d (Sl eS d.Users),.d (Sl Lnk d.Owners),I d.Life,B d.Approve,.map 1,.map 2,.map 3,.map 4]) E E E E E E E<|Kxo E E E E Z<|gO 4 E<|Kpy 0 [.dead,mObH ([]:List (Str×Nat)),mObH ([]:List (Str×Nat)),mObB ([]:List (Str×Bool)),mObV ([]:List (Str×Vl)),.box 220 [.d (Sl eS d.Users),.d (Sl Lnk d.Owners),I d.Life,B d.Approve,.map 1,.map 2,.map 3,.map 4]] E Z<|Kns 1 0 [mObH ([]:List (Str×Nat)),.dead,mObH ([]:List (Str×Nat)),mObB ([]:List (Str×Bool)),mObV ([]:List (Str×Vl)),.box 220 [.d (Sl eS d.Users),.d (Sl Lnk d.Owners),I d.Life,B d.Approve,.map 0,.map 2,.map 3,.map 4]] E E E E E E<|Kns 2 1 [mObH ([]:List (Str×Nat)),mObH ([]:List (Str×Nat)),.dead,mObB ([]:List (Str×Bool)),mObV ([]:List (Str×Vl)),.box 220 [.d (Sl eS d.Users),.d (Sl Lnk d.Owners),I d.Life,B d.Approve,.map 0,.map 1,.map 3,.map 4]] E E E E E E<|Kns 3 2 [mObH ([]:List (Str×Nat)),mObH ([]:List (Str×Nat)),mObB ([]:List (Str×Bool)),.dead,mObV ([]:List (Str×Vl)),.box 220 [.d (Sl eS d.Users),.d (Sl Lnk d.Owners),I d.Life,B d.Approve,.map 0,.map 1,.map 2,.map 4]] E E E E E E<|Kns 4 3 [mObH ([]:List (Str×Nat)),mObH ([]:List (Str×Nat)),mObB ([]:List (Str×Bool)),mObV ([]:List (Str×Vl)),.dead,.box 220 [.d (Sl eS d.Users),.d (Sl Lnk d.Owners),I d.Life,B d.Approve,.map 0,.map 1,.map 2,.map 3]] E E E E E E<|Kns 5 4 [mObH ([]:List (Str×Nat)),mObH ([]:List (Str×Nat)),mObB ([]:List (Str×Bool)),mObV ([]:List (Str×Vl)),.box 220 [.d (Sl eS d.Users),.d (Sl Lnk d.Owners),I d.Life,B d.Approve,.map 0,.map 1,.map 2,.map 3],.dead] E E E E E E<|Knq<|oSi h▸Kli hΓ [_] (.inr E) E E E E (.inr ⟨HB.mk E,E⟩)
theorem Lss{d:Lgf}{tag:Str}{r:(List Str)×Bool}(h:Llo d tag=some r):Pure Tryz.prog 109 [.agg (fD d),S tag] (.tup [.d (Sl eS r.1),B r.2]):=by
 unfold Llo at h
 refine Pure.enter (Fr.of 0 _) Tryz.func109 E (Fr.of_ok _) E E<|Kjm<|gA 2 E<|Kxo E E E E Z<|gO 13 E<|bK h fun q4 hq4 h5=>Kkd 9 E fun hb7=>Knt (R:=fun a6=>q4=.go a6) (fun a6=>[]) (fun a6=>[.box 29 (fD d)]) ?_ ?_
 ·refine gA 1 E<|Kkc d.Owners hq4 (fun i1 s2=>[(1,S tag),(9,.d (Sl Lnk d.Owners)),(10,I (d.Owners.length:Int)),(11,I (i1:Int))]) (fun s2=>[.box 29 (fD d)]) ⟨⟨E,E,E,E,tV⟩,[],E,.inl E⟩ (fun i1 x3 s2 y11 hx8 hlt hy9 hout10=>?_) (fun s2 hgo=>?_)
  ·refine gA 6 E<|Kjo E (decide_eq_true (Int.ofNat_lt.2 hlt))<|gA 6 E<|eo_o E (Kke hΓ (enc:=Lnk) (Kjx hx8) E E E E E (fun _=>E))<|gO 1 E<|Kxn hΓ E E E Z<|Kxs hΓ E E E E E E E E Z<|Kld [.box 29 (fD d),.box 155 [S x3.Tag,.d (Sl eS x3.Users)]] E<|gO 10 E<|jC E hy9 (fun h12=>?_) fun h15=>gA 7 E ?_
   ·refine gA 11 E<|bK h12 fun v13 hv13 h14=>?_
    cases h14
    obtain rfl:=hout10 _ rfl
    cases h5
    exact gA 4 E<|oSi hv13▸gP E E
   cases h15
   exact⟨_,E,⟨⟨E,E,E,Kiv E (Kiu (nLl hlt hb7)),tV⟩,[_],E,.inr ⟨HB.mk E,FB.mk E,Z⟩⟩⟩
  subst hgo
  exact gA 6 E<|Kjp E (decide_eq_false (Int.lt_irrefl _))<|gA 4 E<|⟨_,E,⟨tV,[],E,.inl E⟩⟩
 intro a6 ha
 subst ha
 replace h5:=Kno h5
 exact gA 8 E<|oSi h5▸gP E E
theorem Lst{d:Lgf}{user:Str}{tags:List Str}{r:Int}(h:Llp d user tags=some r):Pure Tryz.prog 278 [.agg (fD d),S user,.d (Sl eS tags)] (I r):=by
 unfold Llp at h
 refine Pure.enter (Fr.of 0 _) Tryz.func278 E (Fr.of_ok _) E E<|Kjm<|gA 2 E<|Kxo E E E E Z<|gO 11 E<|bK h fun q4 hq4 h5=>Kkd 11 E fun hb7=>Knt (R:=fun a6=>q4=.go a6) (fun a6=>[]) (fun a6=>[.box 29 (fD d)]) ?_ ?_
 ·refine gA 1 E<|Kkc tags hq4 (fun i1 s2=>[(1,S user),(3,.ptr 0 0),(11,.d (Sl eS tags)),(12,I (tags.length:Int)),(13,I (i1:Int))]) (fun s2=>[.box 29 (fD d)]) ⟨⟨E,E,E,E,E,tV⟩,[],E,.inl E⟩ (fun i1 x3 s2 y11 hx8 hlt hy9 hout10=>?_) (fun s2 hgo=>?_)
  ·refine gA 6 E<|Kjo E (decide_eq_true (Int.ofNat_lt.2 hlt))<|gA 6 E<|eo_o E (Kke hΓ (enc:=eS) (Kjx hx8) E E E E E (fun _=>E))<|bK hy9 fun y12 hy12 h13=>gO 8 E<|Kkv C (Lss hy12) E Z E E E E E<|gO 14 E<|jC E h13 (fun h14=>?_) fun h17=>bK h17 fun y18 hy18 h19=>gA 6 E<|Kkv C (Loy hy18) E Z E E E E E<|gO 3 E<|jC E h19 (fun h20=>?_) fun h23=>?_
   ·refine gA 9 E<|bK h14 fun v15 hv15 h16=>?_
    cases h16
    obtain rfl:=hout10 _ rfl
    cases h5
    exact gA 4 E<|oSi hv15▸gP E E
   ·refine gA 8 E<|bK h20 fun v21 hv21 h22=>?_
    cases h22
    obtain rfl:=hout10 _ rfl
    cases h5
    exact gA 4 E<|oSi hv21▸gP E E
   refine gA 7 E ?_
   cases h23
   exact⟨_,E,⟨⟨E,E,E,E,Kiv E (Kiu (nLl hlt hb7)),tV⟩,[],E,.inl E⟩⟩
  subst hgo
  exact gA 6 E<|Kjp E (decide_eq_false (Int.lt_irrefl _))<|gA 4 E<|⟨_,E,⟨tV,[],E,.inl E⟩⟩
 intro a6 ha
 subst ha
 replace h5:=Kno h5
 exact gA 7 E<|oSi h5▸gP E E
theorem Lsu{v_h:Lgs}{s:Lgg}{al:BagT}{r:Int×Lgs×BagT}(h:Llq v_h s al=some r):EC Tryz.prog 202 [.ptr 4 0,.agg (fS s)] (oH v_h 0 1 2 3 [bg al]) fun g hp'=>g=I r.1∧hp'=(oH r.2.1 0 1 2 3 [bg r.2.2]):=by
 unfold Llq at h
 refine Kqd (Fr.of 0 _) Tryz.func202 E (Fr.of_ok _) Z fun _=>Kjm<|gA 2 E<|Kxo E E E E Z<|gO 4 E<|Kjq hmix (by kernel_rfl)<|gA 6 E<|gl_o E (Ksb hΓ (kv:=kS) (agg:=false) (enc:=(eH (some 0))) v_h.keys s.Join (0:Nat) E E E E Kor E E E (Ksa E) E)<|Kjl hΓ 6 E<|Kjq hmix (by kernel_rfl)<|bK h fun y1 hy1 h2=>gA 7 E<|Kkw C (Loy hy1) E E E E E E<|Kjl hΓ 4 E<|Kjn E (fun hb=>?_) (fun hb=>?_)
 ·have h3:=cT h2 hb
  exact gA 8 E<|Knq<|oSi h3▸Kli hΓ [_] (.inr E) E E E E (.inr ⟨HB.mk E,E⟩)
 have h4:=cF h2 hb
 refine gA 6 E<|Kjt 3 [(0,.ptr 4 0),(3,.ptr 6 0),(5,.d (.hd (some 0) ((mGet v_h.keys s.Join).getD 0))),(31,B (((s.Kind:Int)==2)&&(((mGet v_h.keys s.Join).getD 0)==0)))] (oH v_h 0 1 2 3 [bg al,.box 37 (fS s)]) ?_ ?_
 ·refine Kwh E E (fun hb=>?_) (fun hb=>?_)
  ·exact gO 1 E<|Kwf E<|eo_o E ((Ksf hΓ E E E E).1)<|gO 2 E<|⟨⟨E,E,E,Kiw E (Klo hb),tV⟩,[],E,.inl E⟩
  exact gO 4 E<|⟨⟨E,E,E,Kiw E (Klp hb),tV⟩,[],E,.inl E⟩
 refine gO 3 E<|Kjn E (fun hb=>?_) (fun hb=>?_)
 ·have h5:=cT h4 hb
  exact gA 8 E<|Knq<|oSi h5▸Kli hΓ [_] (.inr E) E E E E (.inr ⟨HB.mk E,E⟩)
 have h6:=cF h4 hb
 refine bK h6 fun q7 hq7 h8=>gA 1 E<|Knu [(0,.ptr 4 0),(3,.ptr 6 0),(5,.d (.hd (some 0) ((mGet v_h.keys s.Join).getD 0))),(32,B q7)] (oH v_h 0 1 2 3 [bg al,.box 37 (fS s)]) ?_ ?_
 ·refine Kjq hmix (by kernel_rfl)<|gA 4 E<|Kib E E (fun hb=>?_) (fun hb=>?_)
  ·have h9:=cT hq7 hb
   exact gK h9 fun hg11 h10=>Kjl hΓ 1 E<|Kix E E (Kto hg11 E)<|Kix E E (Ktp hΓ hg11 E E E E E E)<|Kix E E (Ktp hΓ hg11 E E E E E E)<|bK h10 fun m12 hm12 h13=>Kix E E (Ktq hΓ (enc:=Lny) (bg:=5) m12 E E (ArU.r _ (ArU.r _ (ArU.r _ (ArU.l _ (Kru (fun _ _=>E) hm12 m12))))) E (g:=S m12.Join.By) E E)<|Kjl hΓ 6 E<|oSi h13▸⟨⟨E,E,E,E,tV⟩,[],E,.inl E⟩
  have h14:=cF hq7 hb
  exact Kjl hΓ 11 E<|oSi h14▸⟨⟨E,E,E,E,tV⟩,[],E,.inl E⟩
 refine gA 1 E<|Kjn E (fun hb=>?_) (fun hb=>?_)
 ·have h15:=cT h8 hb
  exact gA 8 E<|Knq<|oSi h15▸Kli hΓ [_] (.inr E) E E E E (.inr ⟨HB.mk E,E⟩)
 have h16:=cF h8 hb
 refine gA 6 E<|bK h16 fun q17 hq17 h18=>Kjt 5 [(0,.ptr 4 0),(3,.ptr 6 0),(5,.d (.hd (some 0) ((mGet v_h.keys s.Join).getD 0))),(55,B q17)] (oH v_h 0 1 2 3 [bg al,.box 37 (fS s)]) ?_ ?_
 ·refine Kwh E E (fun hb=>?_) (fun hb=>?_)
  ·have h19:=cT hq17 hb
   exact gK h19 fun hg21 h20=>gO 1 E<|Kwf E<|eo_o E (Kto hg21 E)<|Kwf E<|eo_o E (Ktp hΓ hg21 E E E E E E)<|bK h20 fun m22 hm22 h23=>Kwf E<|eo_o E (Ktq hΓ (enc:=Lny) (bg:=5) m22 E E (ArU.r _ (ArU.r _ (ArU.r _ (ArU.l _ (Kru (fun _ _=>E) hm22 m22))))) E (g:=B m22.revoked) E E)<|gO 2 E<|oSi h23▸⟨⟨E,E,E,E,tV⟩,[],E,.inl E⟩
  have h24:=cF hq17 hb
  exact gO 6 E<|oSi h24▸⟨⟨E,E,E,E,tV⟩,[],E,.inl E⟩
 refine gO 3 E<|Kjn E (fun hb=>?_) (fun hb=>?_)
 ·have h25:=cT h18 hb
  exact gA 8 E<|Knq<|oSi h25▸Kli hΓ [_] (.inr E) E E E E (.inr ⟨HB.mk E,E⟩)
 have h26:=cF h18 hb
 refine gA 8 E<|Kjn E (fun hb=>?_) (fun hb=>?_)
 ·have h27:=cT h26 hb
  refine gK h27 fun hg29 h28=>gA 3 E<|eo_o E (Kto hg29 E)<|eo_o E (Ktp hΓ hg29 E E E E E E)<|bK h28 fun m30 hm30 h31=>eo_u Z (Ktr hΓ (enc:=Lny) (bg:=5) m30 (⟨m30.Join,true,m30.used⟩:Lgu) E E (ArU.r _ (ArU.r _ (ArU.r _ (ArU.l _ (Kru (fun _ _=>E) hm30 (⟨m30.Join,true,m30.used⟩:Lgu)))))) E E (by intro e;cases e) E E E E E E E) ?_
  exact Kld (oH v_h 0 1 2 3 [.bag al.1 (arX al.2.1 al.2.2.1 al.2.2.2.1 (hSet al.2.2.2.2.1 ((mGet v_h.keys s.Join).getD 0) (⟨m30.Join,true,m30.used⟩:Lgu)) al.2.2.2.2.2) [],.box 37 (fS s)]) E<|gO 10 E<|Knq<|oSi h31▸Kli hΓ [_] (.inr E) E E E E (.inr ⟨HB.mk E,E⟩)
 have h32:=cF h26 hb
 refine gA 3 E<|eo_o E ((Ksf hΓ E E E E).2)<|gO 3 E<|Kjn E (fun hb=>?_) (fun hb=>?_)
 ·have h33:=cT h32 hb
  exact gA 8 E<|Knq<|oSi h33▸Kli hΓ [_] (.inr E) E E E E (.inr ⟨HB.mk E,E⟩)
 have h34:=cF h32 hb
 refine bK h34 fun y35 hy35 h36=>gA 4 E<|Kkv C (Loz hy35) E Z E E E E E<|gO 2 E<|Kjt 6 [(0,.ptr 4 0),(3,.ptr 6 0),(77,B ((!y35)||(decide ((s.Until:Int)≤s.At))))] (oH v_h 0 1 2 3 [bg al,.box 37 (fS s)]) ?_ ?_
 ·refine Kwh E E (fun hb=>?_) (fun hb=>?_)
  ·exact gO 7 E<|⟨⟨E,E,Kiw E (or_t hb),tV⟩,[],E,.inl E⟩
  exact gO 7 E<|⟨⟨E,E,Kiw E (or_f hb),tV⟩,[],E,.inl E⟩
 refine gO 1 E<|Kjt 4 [(0,.ptr 4 0),(3,.ptr 6 0),(82,B (((!y35)||(decide ((s.Until:Int)≤s.At)))||(decide ((s.Until:Int)>345686400))))] (oH v_h 0 1 2 3 [bg al,.box 37 (fS s)]) ?_ ?_
 ·refine Kwh E E (fun hb=>?_) (fun hb=>?_)
  ·exact gO 5 E<|⟨⟨E,E,Kiw E (or_t hb),tV⟩,[],E,.inl E⟩
  exact gO 5 E<|⟨⟨E,E,Kiw E (or_f hb),tV⟩,[],E,.inl E⟩
 refine gO 3 E<|jC E h36 (fun h37=>?_) fun h38=>gA 5 E<|Kjq hmix (by kernel_rfl)<|bK h38 fun y39 hy39 h40=>gA 8 E<|Kkw C (Lst hy39) E E E E E E<|Kjl hΓ 9 E<|jC E h40 (fun h41=>?_) fun h42=>?_
 ·exact gA 8 E<|Knq<|oSi h37▸Kli hΓ [_] (.inr E) E E E E (.inr ⟨HB.mk E,E⟩)
 ·exact gA 8 E<|Knq<|oSi h41▸Kli hΓ [_] (.inr E) E E E E (.inr ⟨HB.mk E,E⟩)
 exact gA 3 E<|Kmu [.dead,.dead,.dead,.dead,bH v_h 0 1 2 3,.dead,.box 37 (fS s)] [3,5,7,9,11,14,16,18] [21,22] [] hmix (by kernel_rfl) (by kernel_rfl) ⟨E,E,tV⟩ Z<|bK h42 fun y43 hy43 h44=>go_E hΓ 12 E<|Knh C (Pure.rows (Lrh hy43) E E) E E E E E E<|go_E hΓ 6 E<|ge_q E (.inl E) (fun _ _=>Kmx (qt_p (Knl hΓ (gs:=[S s.Join,S s.By,.d (Sl eS y43),I s.Until,I s.Uses,B s.Ready]) E E E E E E)))<|ge_q E (.inl E) (fun _ _=>Kmx (qt_p (Knl hΓ (gs:=[S s.Join,S s.By,.d (Sl eS y43),I s.Until,I s.Uses,B s.Ready,B false,I 0]) E E E E E E)))<|ge_h (oH v_h 0 1 2 3 [bg al,.box 37 (fS s),.box 227 [S s.Join,S s.By,.d (Sl eS y43),I s.Until,I s.Uses,B s.Ready,B false,I 0]]) E E E (Knb ⟨E,E,tV⟩) (Kne (Knk E E E))<|Kmz [mObH (mSet v_h.keys s.Join (al.1.length+1)),mObH v_h.nodes,mObB v_h.ever,mObV v_h.History,bH v_h 0 1 2 3,.bag (al.1++[false]) (arX al.2.1 al.2.2.1 al.2.2.2.1 ((al.1.length,(⟨(⟨s.Join,s.By,y43,s.Until,s.Uses,s.Ready⟩:Lgq),false,0⟩:Lgu)) :: al.2.2.2.2.1) al.2.2.2.2.2) [],.box 37 (fS s),.dead] E E (Knb ⟨E,E,tV⟩) (Knf (Kpz (Krs (hp2:=(oH v_h 0 1 2 3 [.bag (al.1++[false]) (arX al.2.1 al.2.2.1 al.2.2.2.1 ((al.1.length,(⟨(⟨s.Join,s.By,y43,s.Until,s.Uses,s.Ready⟩:Lgq),false,0⟩:Lgu)) :: al.2.2.2.2.1) al.2.2.2.2.2) [],.box 37 (fS s),.dead])) (bg:=5) (id:=7) (a:=(fB 227 Lny) al.1.length (⟨(⟨s.Join,s.By,y43,s.Until,s.Uses,s.Ready⟩:Lgq),false,0⟩:Lgu)) [(116,some 0)] ⟨E,tV⟩ E E ⟨E,E⟩ E E (Kry _ (Kry _ (Kry _ (Krx _ Krw)))) E E) (Kpf hΓ (kv:=kS) (agg:=false) (enc:=(eH (some 0))) (id:=0) v_h.keys s.Join (al.1.length+1) E E E Kor E E E E E) Z))<|Kmw<|gA 7 E<|Knq<|oSi h44▸Kli hΓ [_,_] (.inr E) E E E E (.inr ⟨HB.mk E,E⟩)
theorem Lsv{v_h:Lgs}{v_public:Str}{al:BagT}{r:Bool}(h:Llr v_h v_public al=some r):EC Tryz.prog 279 [.ptr 4 0,S v_public] (oH v_h 0 1 2 3 [bg al]) fun g hp'=>g=B r∧hp'=(oH v_h 0 1 2 3 [bg al]):=by
 unfold Llr at h
 refine Kvz (Fr.of 0 _) Tryz.func279 E (Fr.of_ok _) Z fun _=>Kjm<|gA 12 E<|Kps hΓ (kv:=kS) (agg:=false) (enc:=(eH (some 0))) v_h.nodes E E E E E Z (fun mr1 bs2 cl3 hpm4 hbl5 hbn6=>?_)
 refine Kld [mObH v_h.keys,mObS kS false (eH (some 0)) v_h.nodes (rawM kS (eH (some 0)) mr1 bs2 cl3),mObB v_h.ever,mObV v_h.History,bH v_h 0 1 2 3,bg al,.iter 1 cl3 []] E<|gO 2 E<|bK h fun q12 hq12 h13=>gA 1 E<|Kss hq12 hpm4 hbl5 hbn6 (fun s7=>[(1,S v_public),(11,.ptr 6 0)]) (fun sn9 s7=>[mObH v_h.keys,mObS kS false (eH (some 0)) v_h.nodes (rawM kS (eH (some 0)) mr1 bs2 cl3),mObB v_h.ever,mObV v_h.History,bH v_h 0 1 2 3,bg al,.iter 1 cl3 sn9]) ⟨⟨E,E,tV⟩,[],E,.inl E⟩ (fun sn9 s7 hdone14 hstep15=>?_)
 refine gA 2 E<|Kpt (kv:=kS) (agg:=false) (enc:=(eH (some 0))) v_h.nodes mr1 bs2 cl3 sn9 (oH v_h 0 1 2 3 [bg al,.dead]) E E E E E Z (fun hdsn9=>?_) (fun j10 x8 b11 hjsn9 hbsn9 hnsn9=>?_)
 ·have hqsn9:=hdone14 hdsn9
  subst hqsn9
  replace h13:=Kno h13
  exact gO 16 E<|oSi h13▸Kli hΓ [_] (.inr E) E E E E (.inr ⟨HB.mk E,E⟩)
 obtain⟨s16,h17,houtsn9⟩:=hstep15 j10 x8 b11 hjsn9 hbsn9 hnsn9
 have hssn9:=h17
 refine gO 10 E<|eo_o E (Kpu (kv:=kS) (agg:=false) (enc:=(eH (some 0))) v_h.nodes mr1 bs2 cl3 sn9 hjsn9 hbsn9 E E E E (fun _=>E))<|gK h17 fun hg19 h18=>gO 7 E<|eo_o E (Kto hg19 E)<|eo_o E (Ktp hΓ hg19 E E E E E E)<|bK h18 fun m20 hm20 h21=>eo_o E (Ktq hΓ (enc:=Lnt) (bg:=5) m20 E E (ArU.r _ (ArU.r _ (ArU.l _ (Kru (fun _ _=>E) hm20 m20)))) E (g:=S m20.Public) E E)<|gO 4 E<|jC E h21 (fun h22=>?_) fun h25=>gA 2 E ?_
 ·refine gA 5 E<|Kuo (kv:=kS) (agg:=false) (enc:=(eH (some 0))) (id:=1) v_h.nodes (oH v_h 0 1 2 3 [bg al,.iter 1 cl3 (sn9++[b11])]) E E Z<|gA 2 E<|bK h22 fun v23 hv23 h24=>?_
  cases h24
  obtain rfl:=houtsn9 _ rfl
  cases h13
  exact gA 3 E<|oSi hv23▸Kli hΓ [_] (.inr E) E E E E (.inr ⟨HB.mk E,E⟩)
 cases h25
 exact⟨j10,x8,b11,_,hjsn9,hbsn9,hnsn9,hssn9,⟨⟨E,E,tV⟩,[],E,.inl E⟩⟩
theorem Lsw{v_h:Lgs}{s:Lgg}{al:BagT}{r:Int×Lgs×BagT}(h:Lls v_h s al=some r):EC Tryz.prog 203 [.ptr 4 0,.agg (fS s)] (oH v_h 0 1 2 3 [bg al]) fun g hp'=>g=I r.1∧hp'=(oH r.2.1 0 1 2 3 [bg r.2.2]):=by
 unfold Lls at h
 refine Kqd (Fr.of 0 _) Tryz.func203 E (Fr.of_ok _) Z fun _=>Kjm<|gA 2 E<|Kxo E E E E Z<|gO 4 E<|Kjq hmix (by kernel_rfl)<|gA 6 E<|gl_o E (Ksb hΓ (kv:=kS) (agg:=false) (enc:=(eH (some 0))) v_h.keys s.Join (0:Nat) E E E E Kor E E E (Ksa E) E)<|Kjl hΓ 17 E<|jC E h (fun h1=>?_) fun h2=>bK h2 fun q3 hq3 h4=>gA 1 E<|Knu [(0,.ptr 4 0),(3,.ptr 6 0),(5,.d (.hd (some 0) ((mGet v_h.keys s.Join).getD 0))),(22,B q3)] (oH v_h 0 1 2 3 [bg al,.box 37 (fS s)]) ?_ ?_
 ·exact gA 8 E<|Knq<|oSi h1▸Kli hΓ [_] (.inr E) E E E E (.inr ⟨HB.mk E,E⟩)
 ·refine Kjq hmix (by kernel_rfl)<|gA 4 E<|Kib E E (fun hb=>?_) (fun hb=>?_)
  ·have h5:=cT hq3 hb
   refine bK h5 fun y6 hy6 h7=>Kjl hΓ 7 E<|Kkx C (Loy hy6) E E E E E E E<|Kjl hΓ 3 E<|Kib E E (fun hb=>?_) (fun hb=>?_)
   ·have h8:=cT h7 hb
    exact Kjl hΓ 10 E<|oSi h8▸⟨⟨E,E,E,E,tV⟩,[],E,.inl E⟩
   have h9:=cF h7 hb
   refine Kjl hΓ 4 E<|Kib E E (fun hb=>?_) (fun hb=>?_)
   ·have h10:=cT h9 hb
    exact Kjl hΓ 1 E<|Kix E E ((Ksf hΓ E E E E).1)<|Kjl hΓ 4 E<|oSi h10▸⟨⟨E,E,E,E,tV⟩,[],E,.inl E⟩
   have h11:=cF h9 hb
   exact Kjl hΓ 6 E<|oSi h11▸⟨⟨E,E,E,E,tV⟩,[],E,.inl E⟩
  have h12:=cF hq3 hb
  refine Kjl hΓ 15 E<|Kib E E (fun hb=>?_) (fun hb=>?_)
  ·have h13:=cT h12 hb
   exact Kjl hΓ 1 E<|Kix E E ((Ksf hΓ E E E E).1)<|Kjl hΓ 4 E<|oSi h13▸⟨⟨E,E,E,E,tV⟩,[],E,.inl E⟩
  have h14:=cF h12 hb
  exact Kjl hΓ 6 E<|oSi h14▸⟨⟨E,E,E,E,tV⟩,[],E,.inl E⟩
 refine gA 1 E<|jC E h4 (fun h15=>?_) fun h16=>bK h16 fun q17 hq17 h18=>gA 1 E<|Knu [(0,.ptr 4 0),(3,.ptr 6 0),(5,.d (.hd (some 0) ((mGet v_h.keys s.Join).getD 0))),(46,B q17)] (oH v_h 0 1 2 3 [bg al,.box 37 (fS s)]) ?_ ?_
 ·exact gA 8 E<|Knq<|oSi h15▸Kli hΓ [_] (.inr E) E E E E (.inr ⟨HB.mk E,E⟩)
 ·refine Kjq hmix (by kernel_rfl)<|gA 1 E<|gl_o E ((Ksf hΓ E E E E).2)<|Kjl hΓ 1 E<|Kib E E (fun hb=>?_) (fun hb=>?_)
  ·have h19:=cT hq17 hb
   refine gK h19 fun hg21 h20=>Kjl hΓ 1 E<|Kix E E (Kto hg21 E)<|Kix E E (Ktp hΓ hg21 E E E E E E)<|bK h20 fun m22 hm22 h23=>Kix E E (Ktq hΓ (enc:=Lny) (bg:=5) m22 E E (ArU.r _ (ArU.r _ (ArU.r _ (ArU.l _ (Kru (fun _ _=>E) hm22 m22))))) E (g:=B m22.revoked) E E)<|Kjl hΓ 1 E<|Kib E E (fun hb=>?_) (fun hb=>?_)
   ·have h24:=cT h23 hb
    exact Kjl hΓ 12 E<|oSi h24▸⟨⟨E,E,E,E,tV⟩,[],E,.inl E⟩
   have h25:=cF h23 hb
   exact gK h25 fun hg27 h26=>Kjl hΓ 3 E<|Kix E E (Kto hg27 E)<|Kix E E (Ktp hΓ hg27 E E E E E E)<|Kix E E (Ktp hΓ hg27 E E E E E E)<|bK h26 fun m28 hm28 h29=>Kix E E (Ktq hΓ (enc:=Lny) (bg:=5) m28 E E (ArU.r _ (ArU.r _ (ArU.r _ (ArU.l _ (Kru (fun _ _=>E) hm28 m28))))) E (g:=I m28.Join.Until) E E)<|Kjl hΓ 5 E<|oSi h29▸⟨⟨E,E,E,E,tV⟩,[],E,.inl E⟩
  have h30:=cF hq17 hb
  exact Kjl hΓ 17 E<|oSi h30▸⟨⟨E,E,E,E,tV⟩,[],E,.inl E⟩
 refine gA 1 E<|jC E h18 (fun h31=>?_) fun h32=>bK h32 fun q33 hq33 h34=>gA 1 E<|Knu [(0,.ptr 4 0),(3,.ptr 6 0),(5,.d (.hd (some 0) ((mGet v_h.keys s.Join).getD 0))),(65,B q33)] (oH v_h 0 1 2 3 [bg al,.box 37 (fS s)]) ?_ ?_
 ·exact gA 8 E<|Knq<|oSi h31▸Kli hΓ [_] (.inr E) E E E E (.inr ⟨HB.mk E,E⟩)
 ·refine Kjq hmix (by kernel_rfl)<|gA 1 E<|gl_o E ((Ksf hΓ E E E E).2)<|Kjl hΓ 1 E<|Kib E E (fun hb=>?_) (fun hb=>?_)
  ·have h35:=cT hq33 hb
   exact gK h35 fun hg37 h36=>Kjl hΓ 1 E<|Kix E E (Kto hg37 E)<|Kix E E (Ktp hΓ hg37 E E E E E E)<|bK h36 fun m38 hm38 h39=>Kix E E (Ktq hΓ (enc:=Lny) (bg:=5) m38 E E (ArU.r _ (ArU.r _ (ArU.r _ (ArU.l _ (Kru (fun _ _=>E) hm38 m38))))) E (g:=I m38.used) E E)<|gK h39 fun hg41 h40=>Kjl hΓ 1 E<|Kix E E (Kto hg41 E)<|Kix E E (Ktp hΓ hg41 E E E E E E)<|Kix E E (Ktp hΓ hg41 E E E E E E)<|bK h40 fun m42 hm42 h43=>Kix E E (Ktq hΓ (enc:=Lny) (bg:=5) m42 E E (ArU.r _ (ArU.r _ (ArU.r _ (ArU.l _ (Kru (fun _ _=>E) hm42 m42))))) E (g:=I m42.Join.Left) E E)<|Kjl hΓ 4 E<|oSi h43▸⟨⟨E,E,E,E,tV⟩,[],E,.inl E⟩
  have h44:=cF hq33 hb
  exact Kjl hΓ 13 E<|oSi h44▸⟨⟨E,E,E,E,tV⟩,[],E,.inl E⟩
 refine gA 1 E<|jC E h34 (fun h45=>?_) fun h46=>gA 1 E<|Kjq hmix (by kernel_rfl)<|gA 6 E<|gl_o E (Kpb hΓ (kv:=kS) (agg:=false) (enc:=eB) v_h.ever s.Node (false:Bool) E E E E Kor E E E E E E E)<|Kjl hΓ 3 E<|jC E h46 (fun h47=>?_) fun h48=>?_
 ·exact gA 8 E<|Knq<|oSi h45▸Kli hΓ [_] (.inr E) E E E E (.inr ⟨HB.mk E,E⟩)
 ·exact gA 8 E<|Knq<|oSi h47▸Kli hΓ [_] (.inr E) E E E E (.inr ⟨HB.mk E,E⟩)
 refine bK h48 fun y49 hy49 h50=>gA 5 E<|Kku [0,1,2,3,4,5] (B y49) (oH v_h 0 1 2 3 [bg al,.box 37 (fS s)]) C (Lsv hy49) E Z E E E E E E E E E E<|gO 3 E<|jC E h50 (fun h51=>?_) fun h52=>gA 6 E<|eo_o E (Kpv hΓ (kv:=kS) (agg:=false) (enc:=(eH (some 0))) v_h.nodes E E E E)<|gO 4 E<|jC E h52 (fun h53=>?_) fun h54=>?_
 ·exact gA 8 E<|Knq<|oSi h51▸Kli hΓ [_] (.inr E) E E E E (.inr ⟨HB.mk E,E⟩)
 ·exact gA 8 E<|Knq<|oSi h53▸Kli hΓ [_] (.inr E) E E E E (.inr ⟨HB.mk E,E⟩)
 refine gA 4 E<|Kmu [.dead,.dead,.dead,.dead,bH v_h 0 1 2 3,.dead,.box 37 (fS s)] [1,3,5,7,9,11,16,23] [26] [] hmix (by kernel_rfl) (by kernel_rfl) ⟨E,E,tV⟩ Z<|go_E hΓ 25 E<|ge_q E (.inl E) (fun _ _=>Kmx (qt_p (Knl hΓ (gs:=[S s.Node,S s.By,S s.Name,S s.Public,.d (Sl eS []),I s.At,I (if 345686400<(wi (s.At+v_h.d.Life)) then 345686400 else wi (s.At+v_h.d.Life)),B (!v_h.d.Approve)]) E E E E E E)))<|ge_h (oH v_h 0 1 2 3 [bg al,.box 37 (fS s),.box 77 [S s.Node,S s.By,S s.Name,S s.Public,.d (Sl eS []),I s.At,I (if 345686400<(wi (s.At+v_h.d.Life)) then 345686400 else wi (s.At+v_h.d.Life)),B (!v_h.d.Approve)]]) E E E (Knb ⟨E,E,tV⟩) (Kne (Knk E E E))<|go_E hΓ 1 E<|Kmw<|gA 5 E<|eo_o E ((Ksf hΓ E E E E).2)<|bK h54 fun q55 hq55 h56=>gO 2 E<|Knu [(0,.ptr 4 0),(3,.ptr 6 0),(6,.ptr 7 0)] (oH v_h 0 1 2 3 [bg q55.1,.box 37 (fS s),.box 77 (fM q55.2)]) ?_ ?_
 ·refine jC E hq55 (fun h57=>?_) fun h90=>gA 1 E<|oSi h90▸⟨⟨E,E,E,tV⟩,[],E,.inl E⟩
  refine gK h57 fun hg59 h58=>gA 3 E<|eo_o E (Kto hg59 E)<|eo_o E (Ktp hΓ hg59 E E E E E E)<|bK h58 fun m60 hm60 h61=>eo_o E (Ktq hΓ (enc:=Lny) (bg:=5) m60 E E (ArU.r _ (ArU.r _ (ArU.r _ (ArU.l _ (Kru (fun _ _=>E) hm60 m60))))) E (g:=I m60.used) E E)<|gK h61 fun hg63 h62=>gO 1 E<|eo_o E (Kto hg63 E)<|eo_o E (Ktp hΓ hg63 E E E E E E)<|bK h62 fun m64 hm64 h65=>eo_u Z (Ktr hΓ (enc:=Lny) (bg:=5) m64 (⟨m64.Join,m64.revoked,wi (m60.used+1)⟩:Lgu) E E (ArU.r _ (ArU.r _ (ArU.r _ (ArU.l _ (Kru (fun _ _=>E) hm64 (⟨m64.Join,m64.revoked,wi (m60.used+1)⟩:Lgu)))))) E E (by intro e;cases e) E E E E E E E) ?_
  refine Kld (oH v_h 0 1 2 3 [.bag al.1 (arX al.2.1 al.2.2.1 al.2.2.2.1 (hSet al.2.2.2.2.1 ((mGet v_h.keys s.Join).getD 0) (⟨m64.Join,m64.revoked,wi (m60.used+1)⟩:Lgu)) al.2.2.2.2.2) [],.box 37 (fS s),.box 77 [S s.Node,S s.By,S s.Name,S s.Public,.d (Sl eS []),I s.At,I (if 345686400<(wi (s.At+v_h.d.Life)) then 345686400 else wi (s.At+v_h.d.Life)),B (!v_h.d.Approve)]]) E<|gO 10 E<|bK h65 fun q66 hq66 h67=>Kjt 6 [(0,.ptr 4 0),(3,.ptr 6 0),(5,.d (.hd (some 0) ((mGet v_h.keys s.Join).getD 0))),(6,.ptr 7 0),(136,.ptr 7 0),(147,B q66)] (oH v_h 0 1 2 3 [.bag al.1 (arX al.2.1 al.2.2.1 al.2.2.2.1 (hSet al.2.2.2.2.1 ((mGet v_h.keys s.Join).getD 0) (⟨m64.Join,m64.revoked,wi (m60.used+1)⟩:Lgu)) al.2.2.2.2.2) [],.box 37 (fS s),.box 77 [S s.Node,S s.By,S s.Name,S s.Public,.d (Sl eS []),I s.At,I (if 345686400<(wi (s.At+v_h.d.Life)) then 345686400 else wi (s.At+v_h.d.Life)),B (!v_h.d.Approve)]]) ?_ ?_
  ·refine Kwh E E (fun hb=>?_) (fun hb=>?_)
   ·have h68:=cT hq66 hb
    exact gO 7 E<|oSi h68▸⟨⟨E,E,E,E,E,E,tV⟩,[],E,.inl E⟩
   have h69:=cF hq66 hb
   exact gK h69 fun hg71 h70=>gO 1 E<|Kwf E<|eo_o E (Kto hg71 E)<|Kwf E<|eo_o E (Ktp hΓ hg71 E E E E E E)<|Kwf E<|eo_o E (Ktp hΓ hg71 E E E E E E)<|bK h70 fun m72 hm72 h73=>Kwf E<|eo_o E (Ktq hΓ (enc:=Lny) (bg:=5) m72 E E (ArU.r _ (ArU.r _ (ArU.r _ (ArU.l _ (Kru (fun _ _=>E) hm72 m72))))) E (g:=B m72.Join.Ready) E E)<|gO 2 E<|oSi h73▸⟨⟨E,E,E,E,E,E,tV⟩,[],E,.inl E⟩
  refine gO 2 E<|Kxs hΓ E E E E E E E E Z<|Kld (oH v_h 0 1 2 3 [.bag al.1 (arX al.2.1 al.2.2.1 al.2.2.2.1 (hSet al.2.2.2.2.1 ((mGet v_h.keys s.Join).getD 0) (⟨m64.Join,m64.revoked,wi (m60.used+1)⟩:Lgu)) al.2.2.2.2.2) [],.box 37 (fS s),.box 77 [S s.Node,S s.By,S s.Name,S s.Public,.d (Sl eS []),I s.At,I (if 345686400<(wi (s.At+v_h.d.Life)) then 345686400 else wi (s.At+v_h.d.Life)),B q66]]) E<|gK h67 fun hg75 h74=>gO 6 E<|eo_o E (Kto hg75 E)<|eo_o E (Ktp hΓ hg75 E E E E E E)<|eo_o E (Ktp hΓ hg75 E E E E E E)<|bK h74 fun m76 hm76 h77=>eo_o E (Ktq hΓ (enc:=Lny) (bg:=5) m76 E E (ArU.r _ (ArU.r _ (ArU.r _ (ArU.l _ (Kru (fun _ _=>E) hm76 m76))))) E (g:=S m76.Join.By) E E)<|gO 2 E<|Kxs hΓ E E E E E E E E Z<|Kld (oH v_h 0 1 2 3 [.bag al.1 (arX al.2.1 al.2.2.1 al.2.2.2.1 (hSet al.2.2.2.2.1 ((mGet v_h.keys s.Join).getD 0) (⟨m64.Join,m64.revoked,wi (m60.used+1)⟩:Lgu)) al.2.2.2.2.2) [],.box 37 (fS s),.box 77 [S s.Node,S m76.Join.By,S s.Name,S s.Public,.d (Sl eS []),I s.At,I (if 345686400<(wi (s.At+v_h.d.Life)) then 345686400 else wi (s.At+v_h.d.Life)),B q66]]) E<|gK h77 fun hg79 h78=>gO 5 E<|eo_o E (Kto hg79 E)<|eo_o E (Ktp hΓ hg79 E E E E E E)<|eo_o E (Ktp hΓ hg79 E E E E E E)<|bK h78 fun m80 hm80 h81=>eo_o E (Ktq hΓ (enc:=Lny) (bg:=5) m80 E E (ArU.r _ (ArU.r _ (ArU.r _ (ArU.l _ (Kru (fun _ _=>E) hm80 m80))))) E (g:=.d (Sl eS m80.Join.Tags)) E E)<|gO 4 E<|jC E h81 (fun h82=>?_) fun h89=>gA 1 E<|oSi h89▸⟨⟨E,E,E,tV⟩,[],E,.inl E⟩
  exact gK h82 fun hg84 h83=>gA 5 E<|eo_o E (Kto hg84 E)<|eo_o E (Ktp hΓ hg84 E E E E E E)<|eo_o E (Ktp hΓ hg84 E E E E E E)<|bK h83 fun m85 hm85 h86=>eo_o E (Ktq hΓ (enc:=Lny) (bg:=5) m85 E E (ArU.r _ (ArU.r _ (ArU.r _ (ArU.l _ (Kru (fun _ _=>E) hm85 m85))))) E (g:=.d (Sl eS m85.Join.Tags)) E E)<|bK h86 fun y87 hy87 h88=>Kkv C (Pure.rows (Lrh hy87) E E) E Z E E E E E<|gO 2 E<|Kxs hΓ E E E E E E E E Z<|Kld (oH v_h 0 1 2 3 [.bag al.1 (arX al.2.1 al.2.2.1 al.2.2.2.1 (hSet al.2.2.2.2.1 ((mGet v_h.keys s.Join).getD 0) (⟨m64.Join,m64.revoked,wi (m60.used+1)⟩:Lgu)) al.2.2.2.2.2) [],.box 37 (fS s),.box 77 [S s.Node,S [],S s.Name,S s.Public,.d (Sl eS []),I s.At,I (if 345686400<(wi (s.At+v_h.d.Life)) then 345686400 else wi (s.At+v_h.d.Life)),B q66]]) E<|gO 2 E<|Kxs hΓ E E E E E E E E Z<|Kld (oH v_h 0 1 2 3 [.bag al.1 (arX al.2.1 al.2.2.1 al.2.2.2.1 (hSet al.2.2.2.2.1 ((mGet v_h.keys s.Join).getD 0) (⟨m64.Join,m64.revoked,wi (m60.used+1)⟩:Lgu)) al.2.2.2.2.2) [],.box 37 (fS s),.box 77 [S s.Node,S [],S s.Name,S s.Public,.d (Sl eS y87),I s.At,I (if 345686400<(wi (s.At+v_h.d.Life)) then 345686400 else wi (s.At+v_h.d.Life)),B q66]]) E<|gO 2 E<|Kxs hΓ E E E E E E E E Z<|Kld (oH v_h 0 1 2 3 [.bag al.1 (arX al.2.1 al.2.2.1 al.2.2.2.1 (hSet al.2.2.2.2.1 ((mGet v_h.keys s.Join).getD 0) (⟨m64.Join,m64.revoked,wi (m60.used+1)⟩:Lgu)) al.2.2.2.2.2) [],.box 37 (fS s),.box 77 [S s.Node,S [],S s.Name,S s.Public,.d (Sl eS y87),I s.At,I 345686400,B q66]]) E<|gO 1 E<|oSi h88▸⟨⟨E,E,E,tV⟩,[],E,.inl E⟩
 refine gA 2 E<|Kun (kv:=kS) (agg:=false) (enc:=(eH (some 0))) (id:=1) v_h.nodes E Z (fun mr91 bs92 cl93 hbl94=>?_)
 refine j_hp [mObH v_h.keys,mObS kS false (eH (some 0)) v_h.nodes (rawM kS (eH (some 0)) mr91 bs92 cl93),mObB v_h.ever,mObV v_h.History,bH v_h 0 1 2 3,bg q55.1,.box 37 (fS s),.box 77 (fM q55.2)] E<|Kun (kv:=kS) (agg:=false) (enc:=eB) (id:=2) v_h.ever E Z (fun mr95 bs96 cl97 hbl98=>?_)
 exact j_hp [mObH v_h.keys,mObS kS false (eH (some 0)) v_h.nodes (rawM kS (eH (some 0)) mr91 bs92 cl93),mObS kS false eB v_h.ever (rawM kS eB mr95 bs96 cl97),mObV v_h.History,bH v_h 0 1 2 3,bg q55.1,.box 37 (fS s),.box 77 (fM q55.2)] E<|Kmu [.dead,.dead,.dead,.dead,bH v_h 0 1 2 3,.dead,.box 37 (fS s)] [3,5,9,11] [13,15,16,18] [] hmix (by kernel_rfl) (by kernel_rfl) ⟨E,E,tV⟩ Z<|go_E hΓ 13 E<|ge_h [mObH v_h.keys,mObS kS false (eH (some 0)) (mEnt v_h.nodes s.Node (0:Nat)) (rawM kS (eH (some 0)) (entR mr91 s.Node (0:Nat)) (entB mr91 bs92 cl93 s.Node) (entC mr91 cl93 s.Node)),mObS kS false eB v_h.ever (rawM kS eB mr95 bs96 cl97),mObV v_h.History,bH v_h 0 1 2 3,bg q55.1,.box 37 (fS s),.box 77 (fM q55.2)] E E E (Knb ⟨E,E,tV⟩) (Kne (Kup hΓ (kv:=kS) (agg:=false) (enc:=(eH (some 0))) (id:=1) v_h.nodes mr91 s.Node (0:Nat) E E E E Kor E E E (Ksa E) E hbl94 E))<|go_E hΓ 1 E<|Kmz [mObH v_h.keys,mObH (mSet v_h.nodes s.Node (q55.1.1.length+1)),mObS kS false eB v_h.ever (rawM kS eB mr95 bs96 cl97),mObV v_h.History,bH v_h 0 1 2 3,.bag (q55.1.1++[false]) (arX q55.1.2.1 q55.1.2.2.1 ((q55.1.1.length,q55.2) :: q55.1.2.2.2.1) q55.1.2.2.2.2.1 q55.1.2.2.2.2.2) [],.box 37 (fS s),.dead] E E (Knb ⟨E,E,tV⟩) (Knf (Kpz (Krs (hp2:=[mObH v_h.keys,mObS kS false (eH (some 0)) (mEnt v_h.nodes s.Node (0:Nat)) (rawM kS (eH (some 0)) (entR mr91 s.Node (0:Nat)) (entB mr91 bs92 cl93 s.Node) (entC mr91 cl93 s.Node)),mObS kS false eB v_h.ever (rawM kS eB mr95 bs96 cl97),mObV v_h.History,bH v_h 0 1 2 3,.bag (q55.1.1++[false]) (arX q55.1.2.1 q55.1.2.2.1 ((q55.1.1.length,q55.2) :: q55.1.2.2.2.1) q55.1.2.2.2.2.1 q55.1.2.2.2.2.2) [],.box 37 (fS s),.dead]) (bg:=5) (id:=7) (a:=(fB 77 Lnt) q55.1.1.length q55.2) [(192,some 0)] ⟨E,tV⟩ E E ⟨E,E⟩ E E (Kry _ (Kry _ (Krx _ Krw))) E E) (Kuq (kv:=kS) (agg:=false) (enc:=(eH (some 0))) (id:=1) v_h.nodes mr91 s.Node (0:Nat) (q55.1.1.length+1) Kor E E E E E hbl94 E) Z))<|ge_h [mObH v_h.keys,mObH (mSet v_h.nodes s.Node (q55.1.1.length+1)),mObS kS false eB (mEnt v_h.ever s.Node (false:Bool)) (rawM kS eB (entR mr95 s.Node (false:Bool)) (entB mr95 bs96 cl97 s.Node) (entC mr95 cl97 s.Node)),mObV v_h.History,bH v_h 0 1 2 3,.bag (q55.1.1++[false]) (arX q55.1.2.1 q55.1.2.2.1 ((q55.1.1.length,q55.2) :: q55.1.2.2.2.1) q55.1.2.2.2.2.1 q55.1.2.2.2.2.2) [],.box 37 (fS s),.dead] E E E (Knb ⟨E,E,tV⟩) (Kne (Kup hΓ (kv:=kS) (agg:=false) (enc:=eB) (id:=2) v_h.ever mr95 s.Node (false:Bool) E E E E Kor E E E (Krz E E E) E hbl98 E))<|go_E hΓ 1 E<|Kmz [mObH v_h.keys,mObH (mSet v_h.nodes s.Node (q55.1.1.length+1)),mObB (mSet v_h.ever s.Node true),mObV v_h.History,bH v_h 0 1 2 3,.bag (q55.1.1++[false]) (arX q55.1.2.1 q55.1.2.2.1 ((q55.1.1.length,q55.2) :: q55.1.2.2.2.1) q55.1.2.2.2.2.1 q55.1.2.2.2.2.2) [],.box 37 (fS s),.dead] E E (Knb ⟨E,E,tV⟩) (Knf (Kuq (kv:=kS) (agg:=false) (enc:=eB) (id:=2) v_h.ever mr95 s.Node (false:Bool) true Kor E E E E E hbl98 E))<|Kmw<|gA 2 E<|Kmu [.dead,.dead,.dead,.dead,bH v_h 0 1 2 3,.dead,.box 37 (fS s)] [3,5,7,9] [11,12] [] hmix (by kernel_rfl) (by kernel_rfl) ⟨E,E,tV⟩ Z<|go_E hΓ 10 E<|ge_q E (.inl E) (fun _ _=>Kmx (qt_p (Knl hΓ (gs:=[S s.Public,I s.At,I 345686400]) E E E E E E)))<|ge_h [mObH v_h.keys,mObH (mSet v_h.nodes s.Node (q55.1.1.length+1)),mObB (mSet v_h.ever s.Node true),mObV v_h.History,bH v_h 0 1 2 3,.bag (q55.1.1++[false]) (arX q55.1.2.1 q55.1.2.2.1 ((q55.1.1.length,q55.2) :: q55.1.2.2.2.1) q55.1.2.2.2.2.1 q55.1.2.2.2.2.2) [],.box 37 (fS s),.dead,rO 107 3 Lnz [(⟨s.Public,s.At,345686400⟩:Lgv)]] E E E (Knb ⟨E,E,tV⟩) (Kne (Kur hΓ (enc:=Lnz) [(⟨s.Public,s.At,345686400⟩:Lgv)] E E E E E E E E E E E E E E))<|Kmz [mObH v_h.keys,mObH (mSet v_h.nodes s.Node (q55.1.1.length+1)),mObB (mSet v_h.ever s.Node true),mObV (mSet v_h.History s.Node ((q55.1.1++[false]).length+1,[(⟨s.Public,s.At,345686400⟩:Lgv)].length)),bH v_h 0 1 2 3,.bag ((q55.1.1++[false])++[true]) (arX q55.1.2.1 (((q55.1.1++[false]).length,[(⟨s.Public,s.At,345686400⟩:Lgv)]) :: q55.1.2.2.1) ((q55.1.1.length,q55.2) :: q55.1.2.2.2.1) q55.1.2.2.2.2.1 q55.1.2.2.2.2.2) [],.box 37 (fS s),.dead,.dead] E E (Knb ⟨E,E,tV⟩) (Knf (Kpz (Kuj (hp2:=[mObH v_h.keys,mObH (mSet v_h.nodes s.Node (q55.1.1.length+1)),mObB (mSet v_h.ever s.Node true),mObV v_h.History,bH v_h 0 1 2 3,.bag ((q55.1.1++[false])++[true]) (arX q55.1.2.1 (((q55.1.1++[false]).length,[(⟨s.Public,s.At,345686400⟩:Lgv)]) :: q55.1.2.2.1) ((q55.1.1.length,q55.2) :: q55.1.2.2.2.1) q55.1.2.2.2.2.1 q55.1.2.2.2.2.2) [],.box 37 (fS s),.dead,.dead]) (enc:=Lnz) (id:=8) (bg:=5) 208 (nblt.1 E) (nblt.1 E) E E E (Kry _ (Krx _ Krw)) E E) (Kpf hΓ (kv:=kS) (agg:=false) (enc:=(eV 107 3)) (id:=3) v_h.History s.Node ((q55.1.1++[false]).length+1,[(⟨s.Public,s.At,345686400⟩:Lgv)].length) E E E Kor E E E E E) Z))<|Kmw<|gA 7 E<|Knq<|oSi h56▸Kli hΓ [_,_,_] (.inr E) E E E E (.inr ⟨HB.mk E,E⟩)
theorem Lsx{t:Str}{x:Lgf}{x2:Str}{r:Bool}(h:Llt t x x2=some r):EC Tryz.prog 247 [S t,.ptr 0 0,.ptr 1 0] [.box 29 (fD x),.box 9 [S x2]] fun g hp'=>g=B r∧hp'=[.box 29 (fD x),.box 9 [S x2]]:=by
 unfold Llt at h
 exact Kvz (Fr.of 0 _) Tryz.func247 E (Fr.of_ok _) Z fun _=>Kjm<|bK h fun y1 hy1 h2=>gA 9 E<|Kkv C (Lss hy1) E Z E E E E E<|bK h2 fun y3 hy3 h4=>gO 11 E<|Kkv C (Loy hy3) E Z E E E E E<|gO 4 E<|oSi h4▸Kli hΓ [] (.inr E) E E E E (.inl E)
theorem Lsy{s:List Str}{f:Lgf}{f2:Str}{r:Int}(h:Llu s f f2=some r):EC Tryz.prog 246 [.d (Sl eS s),.fn (.func 247) [] [.ptr 0 0,.ptr 1 0]] [.box 29 (fD f),.box 9 [S f2]] fun g hp'=>g=I r∧hp'=[.box 29 (fD f),.box 9 [S f2]]:=by
 unfold Llu at h
 refine Kvz (Fr.of 0 _) Tryz.func246 E (Fr.of_ok _) Z fun _=>Kjm<|gA 13 E<|bK h fun q4 hq4 h5=>Kkd 0 E fun hb7=>Knt (R:=fun a6=>q4=.go a6) (fun a6=>[]) (fun a6=>[.box 29 (fD f),.box 9 [S f2]]) ?_ ?_
 ·refine gA 1 E<|Kkc s hq4 (fun i1 s2=>[(0,.d (Sl eS s)),(1,.fn (.func 247) [] [.ptr 0 0,.ptr 1 0]),(7,I (s.length:Int)),(8,I (i1:Int))]) (fun s2=>[.box 29 (fD f),.box 9 [S f2]]) ⟨⟨E,E,E,E,tV⟩,[],E,.inl E⟩ (fun i1 x3 s2 y11 hx8 hlt hy9 hout10=>?_) (fun s2 hgo=>?_)
  ·refine gA 6 E<|Kjo E (decide_eq_true (Int.ofNat_lt.2 hlt))<|gA 15 E<|eo_o E (Kke hΓ (enc:=eS) (Kjx hx8) E E E E E (fun _=>E))<|bK hy9 fun y12 hy12 h13=>gO 1 E<|Kku [0,1] (B y12) [.box 29 (fD f),.box 9 [S f2]] C (Lsx hy12) E Z E E E E E E E E E E<|gO 2 E<|jC E h13 (fun h14=>?_) fun h17=>gA 7 E ?_
   ·refine gA 9 E<|bK h14 fun v15 hv15 h16=>?_
    cases h16
    obtain rfl:=hout10 _ rfl
    cases h5
    exact gA 4 E<|oSi hv15▸Kli hΓ [] (.inr E) E E E E (.inl E)
   cases h17
   exact⟨_,E,⟨⟨E,E,E,Kiv E (Kiu (nLl hlt hb7)),tV⟩,[],E,.inl E⟩⟩
  subst hgo
  exact gA 6 E<|Kjp E (decide_eq_false (Int.lt_irrefl _))<|gA 4 E<|⟨_,E,⟨tV,[],E,.inl E⟩⟩
 intro a6 ha
 subst ha
 replace h5:=Kno h5
 exact gA 7 E<|oSi h5▸Kli hΓ [] (.inr E) E E E E (.inl E)
theorem Lsz{s:List Str}{f:Lgf}{f2:Str}{r:Bool}(h:Llv s f f2=some r):EC Tryz.prog 158 [.d (Sl eS s),.fn (.func 247) [] [.ptr 0 0,.ptr 1 0]] [.box 29 (fD f),.box 9 [S f2]] fun g hp'=>g=B r∧hp'=[.box 29 (fD f),.box 9 [S f2]]:=by
 unfold Llv at h
 exact Kvz (Fr.of 0 _) Tryz.func158 E (Fr.of_ok _) Z fun _=>Kjm<|bK h fun y1 hy1 h2=>gA 9 E<|Kku [0,1] (I y1) [.box 29 (fD f),.box 9 [S f2]] C (Lsy hy1) E Z E E E E E E E E E E<|gO 5 E<|oSi h2▸Kli hΓ [] (.inr E) E E E E (.inl E)
theorem Lta{d:Lgf}{user:Str}{m:Lgn}{r:Bool}(h:Llw d user m=some r):Pure Tryz.prog 160 [.agg (fD d),S user,.agg (fM m)] (B r):=by
 unfold Llw at h
 refine Pure.enter (Fr.of 0 _) Tryz.func160 E (Fr.of_ok _) E E<|Kjm<|gA 2 E<|Kxo E E E E Z<|Kxo E E E E Z<|Kxo E E E E Z<|gO 10 E<|bK h fun q1 hq1 h2=>Kjt 5 [(6,B false),(16,B q1)] [.box 29 (fD d),.box 9 [S user],.box 77 (fM m)] ?_ ?_
 ·refine Kwh E E (fun hb=>?_) (fun hb=>?_)
  ·have h3:=cT hq1 hb
   exact gO 6 E<|oSi h3▸⟨⟨E,E,tV⟩,[],E,.inl E⟩
  have h4:=cF hq1 hb
  exact bK h4 fun y5 hy5 h6=>gO 3 E<|Kwf E<|Kku [0,1] (B y5) [.box 29 (fD d),.box 9 [S user],.box 77 (fM m)] C (Lsz hy5) E Z E E E E E E E E E E<|gO 2 E<|oSi h6▸⟨⟨E,E,tV⟩,[],E,.inl E⟩
 exact gO 4 E<|oSi h2▸gP E E
theorem Ltb{v_h:Lgs}{s:Lgg}{m:Nat}{al:BagT}{r:Int×Lgs×BagT}(h:Llx v_h s m al=some r):EC Tryz.prog 204 [.ptr 4 0,.agg (fS s),.d (.hd (some 0) m)] (oH v_h 0 1 2 3 [bg al]) fun g hp'=>g=I r.1∧hp'=(oH r.2.1 0 1 2 3 [bg r.2.2]):=by
 unfold Llx at h
 refine Kqd (Fr.of 0 _) Tryz.func204 E (Fr.of_ok _) Z fun _=>Kjm<|gA 2 E<|Kxo E E E E Z<|gO 4 E<|Kjq hmix (by kernel_rfl)<|gA 6 E<|gl_o E (Ksb hΓ (kv:=kS) (agg:=false) (enc:=(eV 107 3)) v_h.History s.Node ((0,0):Vl) E E E E Kor E E E (Ktv E) E)<|bK h fun q1 hq1 h2=>Kjl hΓ 10 E<|Knw (q:=q1) (fun a3=>[]) (fun a3=>[mObH v_h.keys,mObH a3.1,mObB v_h.ever,mObV a3.2.1,bH v_h 0 1 2 3,bg a3.2.2,.box 37 (fS s)]) ?_ ?_
 ·refine gA 7 E<|jC E hq1 (fun h4=>?_) fun h42=>gA 6 E<|jC E h42 (fun h43=>?_) fun h56=>?_
  ·refine bK h4 fun y5 hy5 h6=>gA 6 E<|Kku [0,1,2,3,4,5] (B y5) (oH v_h 0 1 2 3 [bg al,.box 37 (fS s)]) C (Lsv hy5) E Z E E E E E E E E E E<|gO 2 E<|jC E h6 (fun h7=>?_) fun h10=>gK h10 fun hg12 h11=>gA 7 E<|eo_o E (Kto hg12 E)<|eo_o E (Ktp hΓ hg12 E E E E E E)<|bK h11 fun m13 hm13 h14=>eo_u Z (Ktr hΓ (enc:=Lnt) (bg:=5) m13 (⟨m13.Node,m13.User,m13.Name,s.Public,m13.Tags,m13.Joined,m13.Expires,m13.Approved⟩:Lgn) E E (ArU.r _ (ArU.r _ (ArU.l _ (Kru (fun _ _=>E) hm13 (⟨m13.Node,m13.User,m13.Name,s.Public,m13.Tags,m13.Joined,m13.Expires,m13.Approved⟩:Lgn))))) E E (by intro e;cases e) E E E E E E E) ?_
   ·refine gA 8 E<|bK h7 fun v8 hv8 h9=>?_
    cases h9
    cases h2
    exact gA 2 E<|Knq<|oSi hv8▸Kli hΓ [_] (.inr E) E E E E (.inr ⟨HB.mk E,E⟩)
   refine Kld (oH v_h 0 1 2 3 [.bag al.1 (arX al.2.1 al.2.2.1 (hSet al.2.2.2.1 m (⟨m13.Node,m13.User,m13.Name,s.Public,m13.Tags,m13.Joined,m13.Expires,m13.Approved⟩:Lgn)) al.2.2.2.2.1 al.2.2.2.2.2) [],.box 37 (fS s)]) E<|gK h14 fun hg16 h15=>gO 5 E<|eo_o E (Kto hg16 E)<|eo_o E (Ktp hΓ hg16 E E E E E E)<|bK h15 fun m17 hm17 h18=>eo_u Z (Ktr hΓ (enc:=Lnt) (bg:=5) m17 (⟨m17.Node,m17.User,m17.Name,m17.Public,m17.Tags,m17.Joined,345686400,m17.Approved⟩:Lgn) E E (ArU.r _ (ArU.r _ (ArU.l _ (Kru (fun _ _=>E) hm17 (⟨m17.Node,m17.User,m17.Name,m17.Public,m17.Tags,m17.Joined,345686400,m17.Approved⟩:Lgn))))) E E (by intro e;cases e) E E E E E E E) ?_
   refine Kld (oH v_h 0 1 2 3 [.bag al.1 (arX al.2.1 al.2.2.1 (hSet (hSet al.2.2.2.1 m (⟨m13.Node,m13.User,m13.Name,s.Public,m13.Tags,m13.Joined,m13.Expires,m13.Approved⟩:Lgn)) m (⟨m17.Node,m17.User,m17.Name,m17.Public,m17.Tags,m17.Joined,345686400,m17.Approved⟩:Lgn)) al.2.2.2.2.1 al.2.2.2.2.2) [],.box 37 (fS s)]) E<|gK h18 fun hg20 h19=>gO 6 E<|eo_o E (Kto hg20 E)<|eo_o E (Ktp hΓ hg20 E E E E E E)<|bK h19 fun m21 hm21 h22=>eo_o E (Ktq hΓ (enc:=Lnt) (bg:=5) m21 E E (ArU.r _ (ArU.r _ (ArU.l _ (Kru (fun _ _=>E) hm21 m21)))) E (g:=S m21.User) E E)<|bK h22 fun q23 hq23 h24=>gO 3 E<|Knu [(0,.ptr 4 0),(4,.ptr 6 0),(7,.d (.rv 107 3 ((mGet v_h.History s.Node).getD (0,0)).1 ((mGet v_h.History s.Node).getD (0,0)).2))] (oH v_h 0 1 2 3 [bg q23,.box 37 (fS s)]) ?_ ?_
   ·refine jC E hq23 (fun h25=>?_) fun h30=>gA 1 E<|oSi h30▸⟨⟨E,E,E,tV⟩,[],E,.inl E⟩
    refine Kmu [.dead,.dead,.dead,.dead,bH v_h 0 1 2 3,.dead,.box 37 (fS s)] [2,7] [12] [] hmix (by kernel_rfl) (by kernel_rfl) ⟨E,E,tV⟩ Z<|gK h25 fun hg27 h26=>go_E hΓ 10 E<|ge_q E (.inl E) (fun _ _=>Kmx (qt_p (Kto hg27 E)))<|ge_q E (.inl E) (fun _ _=>Kmx (qt_p (Ktp hΓ hg27 E E E E E E)))<|bK h26 fun m28 hm28 h29=>Kmz (oH v_h 0 1 2 3 [.bag al.1 (arX al.2.1 al.2.2.1 (hSet (hSet (hSet al.2.2.2.1 m (⟨m13.Node,m13.User,m13.Name,s.Public,m13.Tags,m13.Joined,m13.Expires,m13.Approved⟩:Lgn)) m (⟨m17.Node,m17.User,m17.Name,m17.Public,m17.Tags,m17.Joined,345686400,m17.Approved⟩:Lgn)) m (⟨m28.Node,m28.User,m28.Name,m28.Public,m28.Tags,m28.Joined,(if 345686400<(wi (s.At+v_h.d.Life)) then 345686400 else wi (s.At+v_h.d.Life)),m28.Approved⟩:Lgn)) al.2.2.2.2.1 al.2.2.2.2.2) [],.box 37 (fS s)]) E E (Knb ⟨E,E,tV⟩) (Knf (Ktr hΓ (enc:=Lnt) (bg:=5) m28 (⟨m28.Node,m28.User,m28.Name,m28.Public,m28.Tags,m28.Joined,(if 345686400<(wi (s.At+v_h.d.Life)) then 345686400 else wi (s.At+v_h.d.Life)),m28.Approved⟩:Lgn) E E (ArU.r _ (ArU.r _ (ArU.l _ (Kru (fun _ _=>E) hm28 (⟨m28.Node,m28.User,m28.Name,m28.Public,m28.Tags,m28.Joined,(if 345686400<(wi (s.At+v_h.d.Life)) then 345686400 else wi (s.At+v_h.d.Life)),m28.Approved⟩:Lgn))))) E E (by intro e;cases e) E E E E E E E)) ?_
    exact Kmw<|oSi h29▸⟨⟨E,E,E,tV⟩,[],E,.inl E⟩
   refine gA 5 E<|eo_o E (Kty hΓ E E E)<|gK h24 fun hg32 h31=>gK h31 fun hg34 h33=>gO 3 E<|eo_o E (Ktz hΓ hg34 E E E E E E)<|eo_o E (Ktp hΓ hg32 E E E E E E)<|bK h33 fun m35 hm35 h36=>bK h36 fun x37 hx37 h38=>?_
   have hj39:=Kln hx37
   exact eo_u Z (Kub hΓ (enc:=Lnz) (bg:=5) (z':=(⟨x37.Public,x37.From,s.At⟩:Lgv)) (wi (((((mGet v_h.History s.Node).getD (0,0)).2:Nat):Int) - 1)).toNat 2 hj39 E E E (ArU.r _ (ArU.l _ (Kru (fun _ _=>E) hm35 (m35.set (wi (((((mGet v_h.History s.Node).getD (0,0)).2:Nat):Int) - 1)).toNat (⟨x37.Public,x37.From,s.At⟩:Lgv))))) E (fun _=>E) E E E E E E E)<|Kld (oH v_h 0 1 2 3 [.bag q23.1 (arX q23.2.1 (hSet q23.2.2.1 (((mGet v_h.History s.Node).getD (0,0)).1) (m35.set (wi (((((mGet v_h.History s.Node).getD (0,0)).2:Nat):Int) - 1)).toNat (⟨x37.Public,x37.From,s.At⟩:Lgv))) q23.2.2.2.1 q23.2.2.2.2.1 q23.2.2.2.2.2) [],.box 37 (fS s)]) E<|gO 2 E<|Kmu [.dead,.dead,.dead,.dead,bH v_h 0 1 2 3,.dead,.box 37 (fS s)] [3,5,8,10] [13,14] [] hmix (by kernel_rfl) (by kernel_rfl) ⟨E,E,tV⟩ Z<|go_E hΓ 11 E<|ge_q E (.inl E) (fun _ _=>Kmx (qt_p (Knl hΓ (gs:=[S s.Public,I s.At,I 345686400]) E E E E E E)))<|Kni hΓ (enc:=Lnz) [(⟨s.Public,s.At,345686400⟩:Lgv)] E E E E E E E E E E E E<|bK h38 fun y40 hy40 h41=>ge_h (oH v_h 0 1 2 3 [.bag y40.2.1 (arX q23.2.1 y40.2.2 q23.2.2.2.1 q23.2.2.2.2.1 q23.2.2.2.2.2) [],.box 37 (fS s)]) E E E (Knb ⟨E,E,tV⟩) (Kne (Kui hΓ (enc:=Lnz) (bg:=5) (fun l=>arX q23.2.1 l q23.2.2.2.1 q23.2.2.2.2.1 q23.2.2.2.2.2) hy40 (Kue _ (Kud _ Kuc)) E E E E E E E E (fun _=>E) E E))<|Kmz [mObH v_h.keys,mObH v_h.nodes,mObB v_h.ever,mObV (mSet v_h.History s.Node y40.1),bH v_h 0 1 2 3,.bag y40.2.1 (arX q23.2.1 y40.2.2 q23.2.2.2.1 q23.2.2.2.2.1 q23.2.2.2.2.2) [],.box 37 (fS s)] E E (Knb ⟨E,E,tV⟩) (Knf (Kpf hΓ (kv:=kS) (agg:=false) (enc:=(eV 107 3)) (id:=3) v_h.History s.Node y40.1 E E E Kor E E E E E))<|Kmw<|gA 1 E<|oSi h41▸⟨_,E,⟨tV,[],E,.inl E⟩⟩
  ·refine gA 2 E<|Kjq hmix (by kernel_rfl)<|gK h43 fun hg45 h44=>gA 1 E<|gl_o E (Kto hg45 E)<|gl_o E (Ktp hΓ hg45 E E E E E E)<|bK h44 fun m46 hm46 h47=>gl_o E (Ktq hΓ (enc:=Lnt) (bg:=5) m46 E E (ArU.r _ (ArU.r _ (ArU.l _ (Kru (fun _ _=>E) hm46 m46)))) E (g:=S m46.Name) E E)<|Kjl hΓ 5 E<|jC E h47 (fun h48=>?_) fun h51=>gK h51 fun hg53 h52=>gA 6 E<|eo_o E (Kto hg53 E)<|eo_o E (Ktp hΓ hg53 E E E E E E)<|bK h52 fun m54 hm54 h55=>eo_u Z (Ktr hΓ (enc:=Lnt) (bg:=5) m54 (⟨m54.Node,m54.User,s.Name,m54.Public,m54.Tags,m54.Joined,m54.Expires,m54.Approved⟩:Lgn) E E (ArU.r _ (ArU.r _ (ArU.l _ (Kru (fun _ _=>E) hm54 (⟨m54.Node,m54.User,s.Name,m54.Public,m54.Tags,m54.Joined,m54.Expires,m54.Approved⟩:Lgn))))) E E (by intro e;cases e) E E E E E E E) ?_
   ·refine gA 8 E<|bK h48 fun v49 hv49 h50=>?_
    cases h50
    cases h2
    exact gA 2 E<|Knq<|oSi hv49▸Kli hΓ [_] (.inr E) E E E E (.inr ⟨HB.mk E,E⟩)
   exact Kld (oH v_h 0 1 2 3 [.bag al.1 (arX al.2.1 al.2.2.1 (hSet al.2.2.2.1 m (⟨m54.Node,m54.User,s.Name,m54.Public,m54.Tags,m54.Joined,m54.Expires,m54.Approved⟩:Lgn)) al.2.2.2.2.1 al.2.2.2.2.2) [],.box 37 (fS s)]) E<|gO 2 E<|oSi h55▸⟨_,E,⟨tV,[],E,.inl E⟩⟩
  refine gA 6 E<|jC E h56 (fun h57=>?_) fun h82=>gA 6 E<|jC E h82 (fun h83=>?_) fun h96=>?_
  ·refine gA 9 E<|jC E h57 (fun h58=>?_) fun h61=>gA 4 E<|Kjq hmix (by kernel_rfl)<|bK h61 fun y62 hy62 h63=>gA 8 E<|Kkw C (Lst hy62) E E E E E E<|Kjl hΓ 9 E<|jC E h63 (fun h64=>?_) fun h67=>?_
   ·refine gA 8 E<|bK h58 fun v59 hv59 h60=>?_
    cases h60
    cases h2
    exact gA 2 E<|Knq<|oSi hv59▸Kli hΓ [_] (.inr E) E E E E (.inr ⟨HB.mk E,E⟩)
   ·refine gA 9 E<|bK h64 fun v65 hv65 h66=>?_
    cases h66
    cases h2
    exact gA 2 E<|Knq<|oSi hv65▸Kli hΓ [_] (.inr E) E E E E (.inr ⟨HB.mk E,E⟩)
   refine bK h67 fun y68 hy68 h69=>gA 8 E<|Kkv C (Pure.rows (Lrh hy68) E E) E Z E E E E E<|gK h69 fun hg71 h70=>eo_o E (Kto hg71 E)<|eo_o E (Ktp hΓ hg71 E E E E E E)<|bK h70 fun m72 hm72 h73=>eo_u Z (Ktr hΓ (enc:=Lnt) (bg:=5) m72 (⟨m72.Node,[],m72.Name,m72.Public,m72.Tags,m72.Joined,m72.Expires,m72.Approved⟩:Lgn) E E (ArU.r _ (ArU.r _ (ArU.l _ (Kru (fun _ _=>E) hm72 (⟨m72.Node,[],m72.Name,m72.Public,m72.Tags,m72.Joined,m72.Expires,m72.Approved⟩:Lgn))))) E E (by intro e;cases e) E E E E E E E) ?_
   refine Kld (oH v_h 0 1 2 3 [.bag al.1 (arX al.2.1 al.2.2.1 (hSet al.2.2.2.1 m (⟨m72.Node,[],m72.Name,m72.Public,m72.Tags,m72.Joined,m72.Expires,m72.Approved⟩:Lgn)) al.2.2.2.2.1 al.2.2.2.2.2) [],.box 37 (fS s)]) E<|gK h73 fun hg75 h74=>eo_o E (Kto hg75 E)<|eo_o E (Ktp hΓ hg75 E E E E E E)<|bK h74 fun m76 hm76 h77=>eo_u Z (Ktr hΓ (enc:=Lnt) (bg:=5) m76 (⟨m76.Node,m76.User,m76.Name,m76.Public,y68,m76.Joined,m76.Expires,m76.Approved⟩:Lgn) E E (ArU.r _ (ArU.r _ (ArU.l _ (Kru (fun _ _=>E) hm76 (⟨m76.Node,m76.User,m76.Name,m76.Public,y68,m76.Joined,m76.Expires,m76.Approved⟩:Lgn))))) E E (by intro e;cases e) E E E E E E E) ?_
   refine Kld (oH v_h 0 1 2 3 [.bag al.1 (arX al.2.1 al.2.2.1 (hSet (hSet al.2.2.2.1 m (⟨m72.Node,[],m72.Name,m72.Public,m72.Tags,m72.Joined,m72.Expires,m72.Approved⟩:Lgn)) m (⟨m76.Node,m76.User,m76.Name,m76.Public,y68,m76.Joined,m76.Expires,m76.Approved⟩:Lgn)) al.2.2.2.2.1 al.2.2.2.2.2) [],.box 37 (fS s)]) E<|gK h77 fun hg79 h78=>eo_o E (Kto hg79 E)<|eo_o E (Ktp hΓ hg79 E E E E E E)<|bK h78 fun m80 hm80 h81=>eo_u Z (Ktr hΓ (enc:=Lnt) (bg:=5) m80 (⟨m80.Node,m80.User,m80.Name,m80.Public,m80.Tags,m80.Joined,345686400,m80.Approved⟩:Lgn) E E (ArU.r _ (ArU.r _ (ArU.l _ (Kru (fun _ _=>E) hm80 (⟨m80.Node,m80.User,m80.Name,m80.Public,m80.Tags,m80.Joined,345686400,m80.Approved⟩:Lgn))))) E E (by intro e;cases e) E E E E E E E) ?_
   exact Kld (oH v_h 0 1 2 3 [.bag al.1 (arX al.2.1 al.2.2.1 (hSet (hSet (hSet al.2.2.2.1 m (⟨m72.Node,[],m72.Name,m72.Public,m72.Tags,m72.Joined,m72.Expires,m72.Approved⟩:Lgn)) m (⟨m76.Node,m76.User,m76.Name,m76.Public,y68,m76.Joined,m76.Expires,m76.Approved⟩:Lgn)) m (⟨m80.Node,m80.User,m80.Name,m80.Public,m80.Tags,m80.Joined,345686400,m80.Approved⟩:Lgn)) al.2.2.2.2.1 al.2.2.2.2.2) [],.box 37 (fS s)]) E<|gO 2 E<|oSi h81▸⟨_,E,⟨tV,[],E,.inl E⟩⟩
  ·refine gA 2 E<|Kjq hmix (by kernel_rfl)<|gK h83 fun hg85 h84=>gA 1 E<|gl_o E (Kto hg85 E)<|gl_o E (Ktp hΓ hg85 E E E E E E)<|bK h84 fun m86 hm86 h87=>gl_o E (Ktq hΓ (enc:=Lnt) (bg:=5) m86 E E (ArU.r _ (ArU.r _ (ArU.l _ (Kru (fun _ _=>E) hm86 m86)))) E (g:=I m86.Expires) E E)<|Kjl hΓ 5 E<|jC E h87 (fun h88=>?_) fun h91=>gK h91 fun hg93 h92=>gA 6 E<|eo_o E (Kto hg93 E)<|eo_o E (Ktp hΓ hg93 E E E E E E)<|bK h92 fun m94 hm94 h95=>eo_u Z (Ktr hΓ (enc:=Lnt) (bg:=5) m94 (⟨m94.Node,m94.User,m94.Name,m94.Public,m94.Tags,m94.Joined,s.At,m94.Approved⟩:Lgn) E E (ArU.r _ (ArU.r _ (ArU.l _ (Kru (fun _ _=>E) hm94 (⟨m94.Node,m94.User,m94.Name,m94.Public,m94.Tags,m94.Joined,s.At,m94.Approved⟩:Lgn))))) E E (by intro e;cases e) E E E E E E E) ?_
   ·refine gA 8 E<|bK h88 fun v89 hv89 h90=>?_
    cases h90
    cases h2
    exact gA 2 E<|Knq<|oSi hv89▸Kli hΓ [_] (.inr E) E E E E (.inr ⟨HB.mk E,E⟩)
   exact Kld (oH v_h 0 1 2 3 [.bag al.1 (arX al.2.1 al.2.2.1 (hSet al.2.2.2.1 m (⟨m94.Node,m94.User,m94.Name,m94.Public,m94.Tags,m94.Joined,s.At,m94.Approved⟩:Lgn)) al.2.2.2.2.1 al.2.2.2.2.2) [],.box 37 (fS s)]) E<|gO 2 E<|oSi h95▸⟨_,E,⟨tV,[],E,.inl E⟩⟩
  refine gA 1 E<|Kmu [.dead,.dead,.dead,.dead,bH v_h 0 1 2 3,.dead,.box 37 (fS s)] [3,5] [6] [] hmix (by kernel_rfl) (by kernel_rfl) ⟨E,E,tV⟩ Z<|go_E hΓ 6 E<|Kmz [mObH v_h.keys,mObH (mDel v_h.nodes s.Node),mObB v_h.ever,mObV v_h.History,bH v_h 0 1 2 3,bg al,.box 37 (fS s)] E E (Knb ⟨E,E,tV⟩) (Kne (Kul hΓ (kv:=kS) (agg:=false) (enc:=(eH (some 0))) (id:=1) v_h.nodes s.Node E E E Kor E E E E))<|Kmw<|gA 4 E<|eo_o E (Kty hΓ E E E)<|gK h96 fun hg98 h97=>gK h97 fun hg100 h99=>gO 3 E<|eo_o E (Ktz hΓ hg100 E E E E E E)<|eo_o E (Ktp hΓ hg98 E E E E E E)<|bK h99 fun m101 hm101 h102=>bK h102 fun x103 hx103 h104=>?_
  have hj105:=Kln hx103
  exact eo_u Z (Kub hΓ (enc:=Lnz) (bg:=5) (z':=(⟨x103.Public,x103.From,s.At⟩:Lgv)) (wi (((((mGet v_h.History s.Node).getD (0,0)).2:Nat):Int) - 1)).toNat 2 hj105 E E E (ArU.r _ (ArU.l _ (Kru (fun _ _=>E) hm101 (m101.set (wi (((((mGet v_h.History s.Node).getD (0,0)).2:Nat):Int) - 1)).toNat (⟨x103.Public,x103.From,s.At⟩:Lgv))))) E (fun _=>E) E E E E E E E)<|Kld [mObH v_h.keys,mObH (mDel v_h.nodes s.Node),mObB v_h.ever,mObV v_h.History,bH v_h 0 1 2 3,.bag al.1 (arX al.2.1 (hSet al.2.2.1 (((mGet v_h.History s.Node).getD (0,0)).1) (m101.set (wi (((((mGet v_h.History s.Node).getD (0,0)).2:Nat):Int) - 1)).toNat (⟨x103.Public,x103.From,s.At⟩:Lgv))) al.2.2.2.1 al.2.2.2.2.1 al.2.2.2.2.2) [],.box 37 (fS s)] E<|gO 2 E<|oSi h104▸⟨_,E,⟨tV,[],E,.inl E⟩⟩
 intro a3 ha
 subst ha
 replace h2:=Knn h2
 exact gA 7 E<|Knq<|oSi h2▸Kli hΓ [_] (.inr E) E E E E (.inr ⟨HB.mk E,E⟩)
end Go.Proofs.YtjmlnnanfkiakaaGreatDoor
