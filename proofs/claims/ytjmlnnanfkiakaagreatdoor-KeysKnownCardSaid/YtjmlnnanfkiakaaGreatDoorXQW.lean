import Derived.Test.YtjmlnnanfkiakaaGreatDoorXQM
import Derived.Test.YtjmlnnanfkiakaaGreatDoorGt
import Derived.Test.YtjmlnnanfkiakaaGreatDoorStrS
import Derived.Test.YtjmlnnanfkiakaaGreatDoorStrK
import Derived.Test.YtjmlnnanfkiakaaGreatDoorXQW2
set_option maxHeartbeats 8000000
set_option linter.all false
set_option maxRecDepth 100000
namespace Go.Proofs.YtjmlnnanfkiakaaGreatDoor
open Go.Gk
theorem Liv{s:Str}{r:Int}(h:Lhg s=some r):Pure Tryz.prog 47 [S s] (I r):=by
 unfold Lhg at h
 exact Pure.enter (Fr.of 0 _) Tryz.func47 E (Fr.of_ok _) E E<|Kcg<|bK h fun y1 hy1 h2=>gA 8 E<|Kdp C (Llx hy1) E Z E E E E E<|gO 4 E<|oSi h2▸gP E E
theorem Liw{is:Bool}{e:Int}{r:Int}(h:Lhh is e=some r):Pure Tryz.prog 59 [B is,I e] (I r):=by
 unfold Lhh at h
 refine Pure.enter (Fr.of 0 _) Tryz.func59 E (Fr.of_ok _) E E<|Kcg<|gA 11 E<|jC E h (fun h1=>?_) fun h2=>gA 8 E<|oSi h2▸gP E E
 exact gA 8 E<|oSi h1▸gP E E
theorem Lix{v_at:Int}{r:Int}(h:Lhi v_at=some r):Pure Tryz.prog 46 [I v_at] (I r):=by
 unfold Lhi at h
 refine Pure.enter (Fr.of 0 _) Tryz.func46 E (Fr.of_ok _) E E<|Kcg<|bK h fun y1 hy1 h2=>gA 9 E<|Kdp C (Llv hy1) E Z E E E E E<|gO 3 E<|jC E h2 (fun h3=>?_) fun h4=>gA 8 E<|oSi h4▸gP E E
 exact gA 7 E<|oSi h3▸gP E E
theorem Liy{d:Ldg}{r:Ldq}(h:Lhj d=some r):EC Tryz.prog 197 [.agg (fD d)] [] fun g hp'=>g=.ptr 4 0∧hp'=(oH r 0 1 2 3 []):=by
 unfold Lhj at h
 exact Kix (Fr.of 0 _) Tryz.func197 E (Fr.of_ok _) Z fun _=>Kcg<|gA 2 E<|Kqc E E E E Z<|gO 6 E<|eo_s Z (nblt.1 E) (Khs false)<|Kdx [.box 29 (fD d),mObH ([]:List (Str×Nat))] E<|eo_s Z (nblt.1 E) (Khs false)<|Kdx [.box 29 (fD d),mObH ([]:List (Str×Nat)),mObH ([]:List (Str×Nat))] E<|eo_s Z (nblt.1 E) (Khs false)<|Kdx [.box 29 (fD d),mObH ([]:List (Str×Nat)),mObH ([]:List (Str×Nat)),mObB ([]:List (Str×Bool))] E<|eo_s Z (nblt.1 E) (Khs false)<|Kdx [.box 29 (fD d),mObH ([]:List (Str×Nat)),mObH ([]:List (Str×Nat)),mObB ([]:List (Str×Bool)),mObV ([]:List (Str×Vl))] E<|Kam hΓ (gs:=[.d (Sl eS d.Users),.d (Sl Lki d.Owners),I d.Life,B d.Approve,.map 1,.map 2,.map 3,.map 4]) E E E E E E E<|Kqc E E E E Z<|gO 4 E<|Kis 0 [.dead,mObH ([]:List (Str×Nat)),mObH ([]:List (Str×Nat)),mObB ([]:List (Str×Bool)),mObV ([]:List (Str×Vl)),.box 220 [.d (Sl eS d.Users),.d (Sl Lki d.Owners),I d.Life,B d.Approve,.map 1,.map 2,.map 3,.map 4]] E Z<|Kgl 1 0 [mObH ([]:List (Str×Nat)),.dead,mObH ([]:List (Str×Nat)),mObB ([]:List (Str×Bool)),mObV ([]:List (Str×Vl)),.box 220 [.d (Sl eS d.Users),.d (Sl Lki d.Owners),I d.Life,B d.Approve,.map 0,.map 2,.map 3,.map 4]] E E E E E E<|Kgl 2 1 [mObH ([]:List (Str×Nat)),mObH ([]:List (Str×Nat)),.dead,mObB ([]:List (Str×Bool)),mObV ([]:List (Str×Vl)),.box 220 [.d (Sl eS d.Users),.d (Sl Lki d.Owners),I d.Life,B d.Approve,.map 0,.map 1,.map 3,.map 4]] E E E E E E<|Kgl 3 2 [mObH ([]:List (Str×Nat)),mObH ([]:List (Str×Nat)),mObB ([]:List (Str×Bool)),.dead,mObV ([]:List (Str×Vl)),.box 220 [.d (Sl eS d.Users),.d (Sl Lki d.Owners),I d.Life,B d.Approve,.map 0,.map 1,.map 2,.map 4]] E E E E E E<|Kgl 4 3 [mObH ([]:List (Str×Nat)),mObH ([]:List (Str×Nat)),mObB ([]:List (Str×Bool)),mObV ([]:List (Str×Vl)),.dead,.box 220 [.d (Sl eS d.Users),.d (Sl Lki d.Owners),I d.Life,B d.Approve,.map 0,.map 1,.map 2,.map 3]] E E E E E E<|Kgl 5 4 [mObH ([]:List (Str×Nat)),mObH ([]:List (Str×Nat)),mObB ([]:List (Str×Bool)),mObV ([]:List (Str×Vl)),.box 220 [.d (Sl eS d.Users),.d (Sl Lki d.Owners),I d.Life,B d.Approve,.map 0,.map 1,.map 2,.map 3],.dead] E E E E E E<|Kgj<|oSi h▸Kec hΓ [_] (.inr E) E E E E (.inr ⟨HB.mk E,E⟩)
theorem Liz{d:Ldg}{tag:Str}{r:(List Str)×Bool}(h:Lhk d tag=some r):Pure Tryz.prog 109 [.agg (fD d),S tag] (.tup [.d (Sl eS r.1),B r.2]):=by
 unfold Lhk at h
 refine Pure.enter (Fr.of 0 _) Tryz.func109 E (Fr.of_ok _) E E<|Kcg<|gA 2 E<|Kqc E E E E Z<|gO 13 E<|bK h fun q4 hq4 h5=>Kcx 9 E fun hb7=>Kgm (R:=fun a6=>q4=.go a6) (fun a6=>[]) (fun a6=>[.box 29 (fD d)]) ?_ ?_
 ·refine gA 1 E<|Kcw d.Owners hq4 (fun i1 s2=>[(1,S tag),(9,.d (Sl Lki d.Owners)),(10,I (d.Owners.length:Int)),(11,I (i1:Int))]) (fun s2=>[.box 29 (fD d)]) ⟨⟨E,E,E,E,tV⟩,[],E,.inl E⟩ (fun i1 x3 s2 y11 hx8 hlt hy9 hout10=>?_) (fun s2 hgo=>?_)
  ·refine gA 6 E<|Kci E (decide_eq_true (Int.ofNat_lt.2 hlt))<|gA 6 E<|eo_o E (Kcy hΓ (enc:=Lki) (Kcr hx8) E E E E E (fun _=>E))<|gO 1 E<|Kqb hΓ E E E Z<|Kqg hΓ E E E E E E E E Z<|Kdx [.box 29 (fD d),.box 155 [S x3.Tag,.d (Sl eS x3.Users)]] E<|gO 10 E<|jC E hy9 (fun h12=>?_) fun h15=>gA 7 E ?_
   ·refine gA 11 E<|bK h12 fun v13 hv13 h14=>?_
    cases h14
    obtain rfl:=hout10 _ rfl
    cases h5
    exact gA 4 E<|oSi hv13▸gP E E
   cases h15
   exact⟨_,E,⟨⟨E,E,E,Kbp E (Kbo (nLl hlt hb7)),tV⟩,[_],E,.inr ⟨HB.mk E,FB.mk E,Z⟩⟩⟩
  subst hgo
  exact gA 6 E<|Kcj E (decide_eq_false (Int.lt_irrefl _))<|gA 4 E<|⟨_,E,⟨tV,[],E,.inl E⟩⟩
 intro a6 ha
 subst ha
 replace h5:=Kgh h5
 exact gA 8 E<|oSi h5▸gP E E
theorem Lja{d:Ldg}{user:Str}{tags:List Str}{r:Int}(h:Lhl d user tags=some r):Pure Tryz.prog 278 [.agg (fD d),S user,.d (Sl eS tags)] (I r):=by
 unfold Lhl at h
 refine Pure.enter (Fr.of 0 _) Tryz.func278 E (Fr.of_ok _) E E<|Kcg<|gA 2 E<|Kqc E E E E Z<|gO 11 E<|bK h fun q4 hq4 h5=>Kcx 11 E fun hb7=>Kgm (R:=fun a6=>q4=.go a6) (fun a6=>[]) (fun a6=>[.box 29 (fD d)]) ?_ ?_
 ·refine gA 1 E<|Kcw tags hq4 (fun i1 s2=>[(1,S user),(3,.ptr 0 0),(11,.d (Sl eS tags)),(12,I (tags.length:Int)),(13,I (i1:Int))]) (fun s2=>[.box 29 (fD d)]) ⟨⟨E,E,E,E,E,tV⟩,[],E,.inl E⟩ (fun i1 x3 s2 y11 hx8 hlt hy9 hout10=>?_) (fun s2 hgo=>?_)
  ·refine gA 6 E<|Kci E (decide_eq_true (Int.ofNat_lt.2 hlt))<|gA 6 E<|eo_o E (Kcy hΓ (enc:=eS) (Kcr hx8) E E E E E (fun _=>E))<|bK hy9 fun y12 hy12 h13=>gO 8 E<|Kdp C (Liz hy12) E Z E E E E E<|gO 14 E<|jC E h13 (fun h14=>?_) fun h17=>bK h17 fun y18 hy18 h19=>gA 6 E<|Kdp C (Lls hy18) E Z E E E E E<|gO 3 E<|jC E h19 (fun h20=>?_) fun h23=>?_
   ·refine gA 9 E<|bK h14 fun v15 hv15 h16=>?_
    cases h16
    obtain rfl:=hout10 _ rfl
    cases h5
    exact gA 4 E<|oSi hv15▸gP E E
   ·refine gA 8 E<|bK h20 fun v21 hv21 h22=>?_
    cases h22
    obtain rfl:=hout10 _ rfl
    cases h5
    exact gA 4 E<|oSi hv21▸gP E E
   refine gA 7 E ?_
   cases h23
   exact⟨_,E,⟨⟨E,E,E,E,Kbp E (Kbo (nLl hlt hb7)),tV⟩,[],E,.inl E⟩⟩
  subst hgo
  exact gA 6 E<|Kcj E (decide_eq_false (Int.lt_irrefl _))<|gA 4 E<|⟨_,E,⟨tV,[],E,.inl E⟩⟩
 intro a6 ha
 subst ha
 replace h5:=Kgh h5
 exact gA 7 E<|oSi h5▸gP E E
theorem Ljb{v_h:Ldq}{s:Ldh}{al:BagT}{r:Int×Ldq×BagT}(h:Lhm v_h s al=some r):EC Tryz.prog 202 [.ptr 4 0,.agg (fS s)] (oH v_h 0 1 2 3 [bg al]) fun g hp'=>g=I r.1∧hp'=(oH r.2.1 0 1 2 3 [bg r.2.2]):=by
 unfold Lhm at h
 refine Kix (Fr.of 0 _) Tryz.func202 E (Fr.of_ok _) Z fun _=>Kcg<|gA 2 E<|Kqc E E E E Z<|gO 4 E<|Kck hmix (by kernel_rfl)<|gA 6 E<|gl_o E (Kkp hΓ (kv:=kS) (agg:=false) (enc:=(eH (some 0))) v_h.keys s.Join (0:Nat) E E E E Khm E E E (Kko E) E)<|Kcf hΓ 6 E<|Kck hmix (by kernel_rfl)<|bK h fun y1 hy1 h2=>gA 7 E<|Kdq C (Lls hy1) E E E E E E<|Kcf hΓ 4 E<|Kch E (fun hb=>?_) (fun hb=>?_)
 ·have h3:=cT h2 hb
  exact gA 8 E<|Kgj<|oSi h3▸Kec hΓ [_] (.inr E) E E E E (.inr ⟨HB.mk E,E⟩)
 have h4:=cF h2 hb
 refine gA 6 E<|Kcn 3 [(0,.ptr 4 0),(3,.ptr 6 0),(5,.d (.hd (some 0) ((mGet v_h.keys s.Join).getD 0))),(31,B (((s.Kind:Int)==2)&&(((mGet v_h.keys s.Join).getD 0)==0)))] (oH v_h 0 1 2 3 [bg al,.box 37 (fS s)]) ?_ ?_
 ·refine Kov E E (fun hb=>?_) (fun hb=>?_)
  ·exact gO 1 E<|Kot E<|eo_o E ((Kkt hΓ E E E E).1)<|gO 2 E<|⟨⟨E,E,E,Kbq E (Keh hb),tV⟩,[],E,.inl E⟩
  exact gO 4 E<|⟨⟨E,E,E,Kbq E (Kei hb),tV⟩,[],E,.inl E⟩
 refine gO 3 E<|Kch E (fun hb=>?_) (fun hb=>?_)
 ·have h5:=cT h4 hb
  exact gA 8 E<|Kgj<|oSi h5▸Kec hΓ [_] (.inr E) E E E E (.inr ⟨HB.mk E,E⟩)
 have h6:=cF h4 hb
 refine bK h6 fun q7 hq7 h8=>gA 1 E<|Kgn [(0,.ptr 4 0),(3,.ptr 6 0),(5,.d (.hd (some 0) ((mGet v_h.keys s.Join).getD 0))),(32,B q7)] (oH v_h 0 1 2 3 [bg al,.box 37 (fS s)]) ?_ ?_
 ·refine Kck hmix (by kernel_rfl)<|gA 4 E<|Kaw E E (fun hb=>?_) (fun hb=>?_)
  ·have h9:=cT hq7 hb
   exact gK h9 fun hg11 h10=>Kcf hΓ 1 E<|Kbr E E (Kmc hg11 E)<|Kbr E E (Kmd hΓ hg11 E E E E E E)<|Kbr E E (Kmd hΓ hg11 E E E E E E)<|bK h10 fun m12 hm12 h13=>Kbr E E (Kme hΓ (enc:=Lkt) (bg:=5) m12 E E (ArU.r _ (ArU.r _ (ArU.r _ (ArU.l _ (Kki (fun _ _=>E) hm12 m12))))) E (g:=S m12.Join.By) E E)<|Kcf hΓ 6 E<|oSi h13▸⟨⟨E,E,E,E,tV⟩,[],E,.inl E⟩
  have h14:=cF hq7 hb
  exact Kcf hΓ 11 E<|oSi h14▸⟨⟨E,E,E,E,tV⟩,[],E,.inl E⟩
 refine gA 1 E<|Kch E (fun hb=>?_) (fun hb=>?_)
 ·have h15:=cT h8 hb
  exact gA 8 E<|Kgj<|oSi h15▸Kec hΓ [_] (.inr E) E E E E (.inr ⟨HB.mk E,E⟩)
 have h16:=cF h8 hb
 refine gA 6 E<|bK h16 fun q17 hq17 h18=>Kcn 5 [(0,.ptr 4 0),(3,.ptr 6 0),(5,.d (.hd (some 0) ((mGet v_h.keys s.Join).getD 0))),(55,B q17)] (oH v_h 0 1 2 3 [bg al,.box 37 (fS s)]) ?_ ?_
 ·refine Kov E E (fun hb=>?_) (fun hb=>?_)
  ·have h19:=cT hq17 hb
   exact gK h19 fun hg21 h20=>gO 1 E<|Kot E<|eo_o E (Kmc hg21 E)<|Kot E<|eo_o E (Kmd hΓ hg21 E E E E E E)<|bK h20 fun m22 hm22 h23=>Kot E<|eo_o E (Kme hΓ (enc:=Lkt) (bg:=5) m22 E E (ArU.r _ (ArU.r _ (ArU.r _ (ArU.l _ (Kki (fun _ _=>E) hm22 m22))))) E (g:=B m22.revoked) E E)<|gO 2 E<|oSi h23▸⟨⟨E,E,E,E,tV⟩,[],E,.inl E⟩
  have h24:=cF hq17 hb
  exact gO 6 E<|oSi h24▸⟨⟨E,E,E,E,tV⟩,[],E,.inl E⟩
 refine gO 3 E<|Kch E (fun hb=>?_) (fun hb=>?_)
 ·have h25:=cT h18 hb
  exact gA 8 E<|Kgj<|oSi h25▸Kec hΓ [_] (.inr E) E E E E (.inr ⟨HB.mk E,E⟩)
 have h26:=cF h18 hb
 refine gA 8 E<|Kch E (fun hb=>?_) (fun hb=>?_)
 ·have h27:=cT h26 hb
  refine gK h27 fun hg29 h28=>gA 3 E<|eo_o E (Kmc hg29 E)<|eo_o E (Kmd hΓ hg29 E E E E E E)<|bK h28 fun m30 hm30 h31=>eo_u Z (Kmf hΓ (enc:=Lkt) (bg:=5) m30 (⟨m30.Join,true,m30.used⟩:Lds) E E (ArU.r _ (ArU.r _ (ArU.r _ (ArU.l _ (Kki (fun _ _=>E) hm30 (⟨m30.Join,true,m30.used⟩:Lds)))))) E E (by intro e;cases e) E E E E E E E) ?_
  exact Kdx (oH v_h 0 1 2 3 [.bag al.1 (arX al.2.1 al.2.2.1 al.2.2.2.1 (hSet al.2.2.2.2.1 ((mGet v_h.keys s.Join).getD 0) (⟨m30.Join,true,m30.used⟩:Lds)) al.2.2.2.2.2) [],.box 37 (fS s)]) E<|gO 10 E<|Kgj<|oSi h31▸Kec hΓ [_] (.inr E) E E E E (.inr ⟨HB.mk E,E⟩)
 have h32:=cF h26 hb
 refine gA 3 E<|eo_o E ((Kkt hΓ E E E E).2)<|gO 3 E<|Kch E (fun hb=>?_) (fun hb=>?_)
 ·have h33:=cT h32 hb
  exact gA 8 E<|Kgj<|oSi h33▸Kec hΓ [_] (.inr E) E E E E (.inr ⟨HB.mk E,E⟩)
 have h34:=cF h32 hb
 refine bK h34 fun y35 hy35 h36=>gA 4 E<|Kdp C (Llt hy35) E Z E E E E E<|gO 2 E<|Kcn 6 [(0,.ptr 4 0),(3,.ptr 6 0),(77,B ((!y35)||(decide ((s.Until:Int)≤s.At))))] (oH v_h 0 1 2 3 [bg al,.box 37 (fS s)]) ?_ ?_
 ·refine Kov E E (fun hb=>?_) (fun hb=>?_)
  ·exact gO 7 E<|⟨⟨E,E,Kbq E (or_t hb),tV⟩,[],E,.inl E⟩
  exact gO 7 E<|⟨⟨E,E,Kbq E (or_f hb),tV⟩,[],E,.inl E⟩
 refine gO 1 E<|Kcn 4 [(0,.ptr 4 0),(3,.ptr 6 0),(82,B (((!y35)||(decide ((s.Until:Int)≤s.At)))||(decide ((s.Until:Int)>345686400))))] (oH v_h 0 1 2 3 [bg al,.box 37 (fS s)]) ?_ ?_
 ·refine Kov E E (fun hb=>?_) (fun hb=>?_)
  ·exact gO 5 E<|⟨⟨E,E,Kbq E (or_t hb),tV⟩,[],E,.inl E⟩
  exact gO 5 E<|⟨⟨E,E,Kbq E (or_f hb),tV⟩,[],E,.inl E⟩
 refine gO 3 E<|jC E h36 (fun h37=>?_) fun h38=>gA 5 E<|Kck hmix (by kernel_rfl)<|bK h38 fun y39 hy39 h40=>gA 8 E<|Kdq C (Lja hy39) E E E E E E<|Kcf hΓ 9 E<|jC E h40 (fun h41=>?_) fun h42=>?_
 ·exact gA 8 E<|Kgj<|oSi h37▸Kec hΓ [_] (.inr E) E E E E (.inr ⟨HB.mk E,E⟩)
 ·exact gA 8 E<|Kgj<|oSi h41▸Kec hΓ [_] (.inr E) E E E E (.inr ⟨HB.mk E,E⟩)
 exact gA 3 E<|Kfn [.dead,.dead,.dead,.dead,bH v_h 0 1 2 3,.dead,.box 37 (fS s)] [3,5,7,9,11,14,16,18] [21,22] [] hmix (by kernel_rfl) (by kernel_rfl) ⟨E,E,tV⟩ Z<|bK h42 fun y43 hy43 h44=>go_E hΓ 12 E<|Kga C (Pure.rows (Lnf hy43) E E) E E E E E E<|go_E hΓ 6 E<|ge_q E (.inl E) (fun _ _=>Kfq (qt_p (Kge hΓ (gs:=[S s.Join,S s.By,.d (Sl eS y43),I s.Until,I s.Uses,B s.Ready]) E E E E E E)))<|ge_q E (.inl E) (fun _ _=>Kfq (qt_p (Kge hΓ (gs:=[S s.Join,S s.By,.d (Sl eS y43),I s.Until,I s.Uses,B s.Ready,B false,I 0]) E E E E E E)))<|ge_h (oH v_h 0 1 2 3 [bg al,.box 37 (fS s),.box 227 [S s.Join,S s.By,.d (Sl eS y43),I s.Until,I s.Uses,B s.Ready,B false,I 0]]) E E E (Kfu ⟨E,E,tV⟩) (Kfx (Kgd E E E))<|Kfs [mObH (mSet v_h.keys s.Join (al.1.length+1)),mObH v_h.nodes,mObB v_h.ever,mObV v_h.History,bH v_h 0 1 2 3,.bag (al.1++[false]) (arX al.2.1 al.2.2.1 al.2.2.2.1 ((al.1.length,(⟨(⟨s.Join,s.By,y43,s.Until,s.Uses,s.Ready⟩:Ldo),false,0⟩:Lds)) :: al.2.2.2.2.1) al.2.2.2.2.2) [],.box 37 (fS s),.dead] E E (Kfu ⟨E,E,tV⟩) (Kfy (Kit (Kkg (hp2:=(oH v_h 0 1 2 3 [.bag (al.1++[false]) (arX al.2.1 al.2.2.1 al.2.2.2.1 ((al.1.length,(⟨(⟨s.Join,s.By,y43,s.Until,s.Uses,s.Ready⟩:Ldo),false,0⟩:Lds)) :: al.2.2.2.2.1) al.2.2.2.2.2) [],.box 37 (fS s),.dead])) (bg:=5) (id:=7) (a:=(fB 227 Lkt) al.1.length (⟨(⟨s.Join,s.By,y43,s.Until,s.Uses,s.Ready⟩:Ldo),false,0⟩:Lds)) [(116,some 0)] ⟨E,tV⟩ E E ⟨E,E⟩ E E (Kkm _ (Kkm _ (Kkm _ (Kkl _ Kkk)))) E E) (Kia hΓ (kv:=kS) (agg:=false) (enc:=(eH (some 0))) (id:=0) v_h.keys s.Join (al.1.length+1) E E E Khm E E E E E) Z))<|Kfp<|gA 7 E<|Kgj<|oSi h44▸Kec hΓ [_,_] (.inr E) E E E E (.inr ⟨HB.mk E,E⟩)
theorem Ljc{v_h:Ldq}{v_public:Str}{al:BagT}{r:Bool}(h:Lhn v_h v_public al=some r):EC Tryz.prog 279 [.ptr 4 0,S v_public] (oH v_h 0 1 2 3 [bg al]) fun g hp'=>g=B r∧hp'=(oH v_h 0 1 2 3 [bg al]):=by
 unfold Lhn at h
 refine Kon (Fr.of 0 _) Tryz.func279 E (Fr.of_ok _) Z fun _=>Kcg<|gA 12 E<|Kil hΓ (kv:=kS) (agg:=false) (enc:=(eH (some 0))) v_h.nodes E E E E E Z (fun mr1 bs2 cl3 hpm4 hbl5 hbn6=>?_)
 refine Kdx [mObH v_h.keys,mObS kS false (eH (some 0)) v_h.nodes (rawM kS (eH (some 0)) mr1 bs2 cl3),mObB v_h.ever,mObV v_h.History,bH v_h 0 1 2 3,bg al,.iter 1 cl3 []] E<|gO 2 E<|bK h fun q12 hq12 h13=>gA 1 E<|Klg hq12 hpm4 hbl5 hbn6 (fun s7=>[(1,S v_public),(11,.ptr 6 0)]) (fun sn9 s7=>[mObH v_h.keys,mObS kS false (eH (some 0)) v_h.nodes (rawM kS (eH (some 0)) mr1 bs2 cl3),mObB v_h.ever,mObV v_h.History,bH v_h 0 1 2 3,bg al,.iter 1 cl3 sn9]) ⟨⟨E,E,tV⟩,[],E,.inl E⟩ (fun sn9 s7 hdone14 hstep15=>?_)
 refine gA 2 E<|Kim (kv:=kS) (agg:=false) (enc:=(eH (some 0))) v_h.nodes mr1 bs2 cl3 sn9 (oH v_h 0 1 2 3 [bg al,.dead]) E E E E E Z (fun hdsn9=>?_) (fun j10 x8 b11 hjsn9 hbsn9 hnsn9=>?_)
 ·have hqsn9:=hdone14 hdsn9
  subst hqsn9
  replace h13:=Kgh h13
  exact gO 16 E<|oSi h13▸Kec hΓ [_] (.inr E) E E E E (.inr ⟨HB.mk E,E⟩)
 obtain⟨s16,h17,houtsn9⟩:=hstep15 j10 x8 b11 hjsn9 hbsn9 hnsn9
 have hssn9:=h17
 refine gO 10 E<|eo_o E (Kio (kv:=kS) (agg:=false) (enc:=(eH (some 0))) v_h.nodes mr1 bs2 cl3 sn9 hjsn9 hbsn9 E E E E (fun _=>E))<|gK h17 fun hg19 h18=>gO 7 E<|eo_o E (Kmc hg19 E)<|eo_o E (Kmd hΓ hg19 E E E E E E)<|bK h18 fun m20 hm20 h21=>eo_o E (Kme hΓ (enc:=Lko) (bg:=5) m20 E E (ArU.r _ (ArU.r _ (ArU.l _ (Kki (fun _ _=>E) hm20 m20)))) E (g:=S m20.Public) E E)<|gO 4 E<|jC E h21 (fun h22=>?_) fun h25=>gA 2 E ?_
 ·refine gA 5 E<|Kne (kv:=kS) (agg:=false) (enc:=(eH (some 0))) (id:=1) v_h.nodes (oH v_h 0 1 2 3 [bg al,.iter 1 cl3 (sn9++[b11])]) E E Z<|gA 2 E<|bK h22 fun v23 hv23 h24=>?_
  cases h24
  obtain rfl:=houtsn9 _ rfl
  cases h13
  exact gA 3 E<|oSi hv23▸Kec hΓ [_] (.inr E) E E E E (.inr ⟨HB.mk E,E⟩)
 cases h25
 exact⟨j10,x8,b11,_,hjsn9,hbsn9,hnsn9,hssn9,⟨⟨E,E,tV⟩,[],E,.inl E⟩⟩
theorem Ljd{v_h:Ldq}{s:Ldh}{al:BagT}{r:Int×Ldq×BagT}(h:Lho v_h s al=some r):EC Tryz.prog 203 [.ptr 4 0,.agg (fS s)] (oH v_h 0 1 2 3 [bg al]) fun g hp'=>g=I r.1∧hp'=(oH r.2.1 0 1 2 3 [bg r.2.2]):=by
 unfold Lho at h
 refine Kix (Fr.of 0 _) Tryz.func203 E (Fr.of_ok _) Z fun _=>Kcg<|gA 2 E<|Kqc E E E E Z<|gO 4 E<|Kck hmix (by kernel_rfl)<|gA 6 E<|gl_o E (Kkp hΓ (kv:=kS) (agg:=false) (enc:=(eH (some 0))) v_h.keys s.Join (0:Nat) E E E E Khm E E E (Kko E) E)<|Kcf hΓ 17 E<|jC E h (fun h1=>?_) fun h2=>bK h2 fun q3 hq3 h4=>gA 1 E<|Kgn [(0,.ptr 4 0),(3,.ptr 6 0),(5,.d (.hd (some 0) ((mGet v_h.keys s.Join).getD 0))),(22,B q3)] (oH v_h 0 1 2 3 [bg al,.box 37 (fS s)]) ?_ ?_
 ·exact gA 8 E<|Kgj<|oSi h1▸Kec hΓ [_] (.inr E) E E E E (.inr ⟨HB.mk E,E⟩)
 ·refine Kck hmix (by kernel_rfl)<|gA 4 E<|Kaw E E (fun hb=>?_) (fun hb=>?_)
  ·have h5:=cT hq3 hb
   refine bK h5 fun y6 hy6 h7=>Kcf hΓ 7 E<|Kdr C (Lls hy6) E E E E E E E<|Kcf hΓ 3 E<|Kaw E E (fun hb=>?_) (fun hb=>?_)
   ·have h8:=cT h7 hb
    exact Kcf hΓ 10 E<|oSi h8▸⟨⟨E,E,E,E,tV⟩,[],E,.inl E⟩
   have h9:=cF h7 hb
   refine Kcf hΓ 4 E<|Kaw E E (fun hb=>?_) (fun hb=>?_)
   ·have h10:=cT h9 hb
    exact Kcf hΓ 1 E<|Kbr E E ((Kkt hΓ E E E E).1)<|Kcf hΓ 4 E<|oSi h10▸⟨⟨E,E,E,E,tV⟩,[],E,.inl E⟩
   have h11:=cF h9 hb
   exact Kcf hΓ 6 E<|oSi h11▸⟨⟨E,E,E,E,tV⟩,[],E,.inl E⟩
  have h12:=cF hq3 hb
  refine Kcf hΓ 15 E<|Kaw E E (fun hb=>?_) (fun hb=>?_)
  ·have h13:=cT h12 hb
   exact Kcf hΓ 1 E<|Kbr E E ((Kkt hΓ E E E E).1)<|Kcf hΓ 4 E<|oSi h13▸⟨⟨E,E,E,E,tV⟩,[],E,.inl E⟩
  have h14:=cF h12 hb
  exact Kcf hΓ 6 E<|oSi h14▸⟨⟨E,E,E,E,tV⟩,[],E,.inl E⟩
 refine gA 1 E<|jC E h4 (fun h15=>?_) fun h16=>bK h16 fun q17 hq17 h18=>gA 1 E<|Kgn [(0,.ptr 4 0),(3,.ptr 6 0),(5,.d (.hd (some 0) ((mGet v_h.keys s.Join).getD 0))),(46,B q17)] (oH v_h 0 1 2 3 [bg al,.box 37 (fS s)]) ?_ ?_
 ·exact gA 8 E<|Kgj<|oSi h15▸Kec hΓ [_] (.inr E) E E E E (.inr ⟨HB.mk E,E⟩)
 ·refine Kck hmix (by kernel_rfl)<|gA 1 E<|gl_o E ((Kkt hΓ E E E E).2)<|Kcf hΓ 1 E<|Kaw E E (fun hb=>?_) (fun hb=>?_)
  ·have h19:=cT hq17 hb
   refine gK h19 fun hg21 h20=>Kcf hΓ 1 E<|Kbr E E (Kmc hg21 E)<|Kbr E E (Kmd hΓ hg21 E E E E E E)<|bK h20 fun m22 hm22 h23=>Kbr E E (Kme hΓ (enc:=Lkt) (bg:=5) m22 E E (ArU.r _ (ArU.r _ (ArU.r _ (ArU.l _ (Kki (fun _ _=>E) hm22 m22))))) E (g:=B m22.revoked) E E)<|Kcf hΓ 1 E<|Kaw E E (fun hb=>?_) (fun hb=>?_)
   ·have h24:=cT h23 hb
    exact Kcf hΓ 12 E<|oSi h24▸⟨⟨E,E,E,E,tV⟩,[],E,.inl E⟩
   have h25:=cF h23 hb
   exact gK h25 fun hg27 h26=>Kcf hΓ 3 E<|Kbr E E (Kmc hg27 E)<|Kbr E E (Kmd hΓ hg27 E E E E E E)<|Kbr E E (Kmd hΓ hg27 E E E E E E)<|bK h26 fun m28 hm28 h29=>Kbr E E (Kme hΓ (enc:=Lkt) (bg:=5) m28 E E (ArU.r _ (ArU.r _ (ArU.r _ (ArU.l _ (Kki (fun _ _=>E) hm28 m28))))) E (g:=I m28.Join.Until) E E)<|Kcf hΓ 5 E<|oSi h29▸⟨⟨E,E,E,E,tV⟩,[],E,.inl E⟩
  have h30:=cF hq17 hb
  exact Kcf hΓ 17 E<|oSi h30▸⟨⟨E,E,E,E,tV⟩,[],E,.inl E⟩
 refine gA 1 E<|jC E h18 (fun h31=>?_) fun h32=>bK h32 fun q33 hq33 h34=>gA 1 E<|Kgn [(0,.ptr 4 0),(3,.ptr 6 0),(5,.d (.hd (some 0) ((mGet v_h.keys s.Join).getD 0))),(65,B q33)] (oH v_h 0 1 2 3 [bg al,.box 37 (fS s)]) ?_ ?_
 ·exact gA 8 E<|Kgj<|oSi h31▸Kec hΓ [_] (.inr E) E E E E (.inr ⟨HB.mk E,E⟩)
 ·refine Kck hmix (by kernel_rfl)<|gA 1 E<|gl_o E ((Kkt hΓ E E E E).2)<|Kcf hΓ 1 E<|Kaw E E (fun hb=>?_) (fun hb=>?_)
  ·have h35:=cT hq33 hb
   exact gK h35 fun hg37 h36=>Kcf hΓ 1 E<|Kbr E E (Kmc hg37 E)<|Kbr E E (Kmd hΓ hg37 E E E E E E)<|bK h36 fun m38 hm38 h39=>Kbr E E (Kme hΓ (enc:=Lkt) (bg:=5) m38 E E (ArU.r _ (ArU.r _ (ArU.r _ (ArU.l _ (Kki (fun _ _=>E) hm38 m38))))) E (g:=I m38.used) E E)<|gK h39 fun hg41 h40=>Kcf hΓ 1 E<|Kbr E E (Kmc hg41 E)<|Kbr E E (Kmd hΓ hg41 E E E E E E)<|Kbr E E (Kmd hΓ hg41 E E E E E E)<|bK h40 fun m42 hm42 h43=>Kbr E E (Kme hΓ (enc:=Lkt) (bg:=5) m42 E E (ArU.r _ (ArU.r _ (ArU.r _ (ArU.l _ (Kki (fun _ _=>E) hm42 m42))))) E (g:=I m42.Join.Left) E E)<|Kcf hΓ 4 E<|oSi h43▸⟨⟨E,E,E,E,tV⟩,[],E,.inl E⟩
  have h44:=cF hq33 hb
  exact Kcf hΓ 13 E<|oSi h44▸⟨⟨E,E,E,E,tV⟩,[],E,.inl E⟩
 refine gA 1 E<|jC E h34 (fun h45=>?_) fun h46=>gA 1 E<|Kck hmix (by kernel_rfl)<|gA 6 E<|gl_o E (Khw hΓ (kv:=kS) (agg:=false) (enc:=eB) v_h.ever s.Node (false:Bool) E E E E Khm E E E E E E E)<|Kcf hΓ 3 E<|jC E h46 (fun h47=>?_) fun h48=>?_
 ·exact gA 8 E<|Kgj<|oSi h45▸Kec hΓ [_] (.inr E) E E E E (.inr ⟨HB.mk E,E⟩)
 ·exact gA 8 E<|Kgj<|oSi h47▸Kec hΓ [_] (.inr E) E E E E (.inr ⟨HB.mk E,E⟩)
 refine bK h48 fun y49 hy49 h50=>gA 5 E<|Kdo [0,1,2,3,4,5] (B y49) (oH v_h 0 1 2 3 [bg al,.box 37 (fS s)]) C (Ljc hy49) E Z E E E E E E E E E E<|gO 3 E<|jC E h50 (fun h51=>?_) fun h52=>gA 6 E<|eo_o E (Kip hΓ (kv:=kS) (agg:=false) (enc:=(eH (some 0))) v_h.nodes E E E E)<|gO 4 E<|jC E h52 (fun h53=>?_) fun h54=>?_
 ·exact gA 8 E<|Kgj<|oSi h51▸Kec hΓ [_] (.inr E) E E E E (.inr ⟨HB.mk E,E⟩)
 ·exact gA 8 E<|Kgj<|oSi h53▸Kec hΓ [_] (.inr E) E E E E (.inr ⟨HB.mk E,E⟩)
 refine gA 4 E<|Kfn [.dead,.dead,.dead,.dead,bH v_h 0 1 2 3,.dead,.box 37 (fS s)] [1,3,5,7,9,11,16,23] [26] [] hmix (by kernel_rfl) (by kernel_rfl) ⟨E,E,tV⟩ Z<|go_E hΓ 25 E<|ge_q E (.inl E) (fun _ _=>Kfq (qt_p (Kge hΓ (gs:=[S s.Node,S s.By,S s.Name,S s.Public,.d (Sl eS []),I s.At,I (if 345686400<(wi (s.At+v_h.d.Life)) then 345686400 else wi (s.At+v_h.d.Life)),B (!v_h.d.Approve)]) E E E E E E)))<|ge_h (oH v_h 0 1 2 3 [bg al,.box 37 (fS s),.box 77 [S s.Node,S s.By,S s.Name,S s.Public,.d (Sl eS []),I s.At,I (if 345686400<(wi (s.At+v_h.d.Life)) then 345686400 else wi (s.At+v_h.d.Life)),B (!v_h.d.Approve)]]) E E E (Kfu ⟨E,E,tV⟩) (Kfx (Kgd E E E))<|go_E hΓ 1 E<|Kfp<|gA 5 E<|eo_o E ((Kkt hΓ E E E E).2)<|bK h54 fun q55 hq55 h56=>gO 2 E<|Kgn [(0,.ptr 4 0),(3,.ptr 6 0),(6,.ptr 7 0)] (oH v_h 0 1 2 3 [bg q55.1,.box 37 (fS s),.box 77 (fM q55.2)]) ?_ ?_
 ·refine jC E hq55 (fun h57=>?_) fun h90=>gA 1 E<|oSi h90▸⟨⟨E,E,E,tV⟩,[],E,.inl E⟩
  refine gK h57 fun hg59 h58=>gA 3 E<|eo_o E (Kmc hg59 E)<|eo_o E (Kmd hΓ hg59 E E E E E E)<|bK h58 fun m60 hm60 h61=>eo_o E (Kme hΓ (enc:=Lkt) (bg:=5) m60 E E (ArU.r _ (ArU.r _ (ArU.r _ (ArU.l _ (Kki (fun _ _=>E) hm60 m60))))) E (g:=I m60.used) E E)<|gK h61 fun hg63 h62=>gO 1 E<|eo_o E (Kmc hg63 E)<|eo_o E (Kmd hΓ hg63 E E E E E E)<|bK h62 fun m64 hm64 h65=>eo_u Z (Kmf hΓ (enc:=Lkt) (bg:=5) m64 (⟨m64.Join,m64.revoked,wi (m60.used+1)⟩:Lds) E E (ArU.r _ (ArU.r _ (ArU.r _ (ArU.l _ (Kki (fun _ _=>E) hm64 (⟨m64.Join,m64.revoked,wi (m60.used+1)⟩:Lds)))))) E E (by intro e;cases e) E E E E E E E) ?_
  refine Kdx (oH v_h 0 1 2 3 [.bag al.1 (arX al.2.1 al.2.2.1 al.2.2.2.1 (hSet al.2.2.2.2.1 ((mGet v_h.keys s.Join).getD 0) (⟨m64.Join,m64.revoked,wi (m60.used+1)⟩:Lds)) al.2.2.2.2.2) [],.box 37 (fS s),.box 77 [S s.Node,S s.By,S s.Name,S s.Public,.d (Sl eS []),I s.At,I (if 345686400<(wi (s.At+v_h.d.Life)) then 345686400 else wi (s.At+v_h.d.Life)),B (!v_h.d.Approve)]]) E<|gO 10 E<|bK h65 fun q66 hq66 h67=>Kcn 6 [(0,.ptr 4 0),(3,.ptr 6 0),(5,.d (.hd (some 0) ((mGet v_h.keys s.Join).getD 0))),(6,.ptr 7 0),(136,.ptr 7 0),(147,B q66)] (oH v_h 0 1 2 3 [.bag al.1 (arX al.2.1 al.2.2.1 al.2.2.2.1 (hSet al.2.2.2.2.1 ((mGet v_h.keys s.Join).getD 0) (⟨m64.Join,m64.revoked,wi (m60.used+1)⟩:Lds)) al.2.2.2.2.2) [],.box 37 (fS s),.box 77 [S s.Node,S s.By,S s.Name,S s.Public,.d (Sl eS []),I s.At,I (if 345686400<(wi (s.At+v_h.d.Life)) then 345686400 else wi (s.At+v_h.d.Life)),B (!v_h.d.Approve)]]) ?_ ?_
  ·refine Kov E E (fun hb=>?_) (fun hb=>?_)
   ·have h68:=cT hq66 hb
    exact gO 7 E<|oSi h68▸⟨⟨E,E,E,E,E,E,tV⟩,[],E,.inl E⟩
   have h69:=cF hq66 hb
   exact gK h69 fun hg71 h70=>gO 1 E<|Kot E<|eo_o E (Kmc hg71 E)<|Kot E<|eo_o E (Kmd hΓ hg71 E E E E E E)<|Kot E<|eo_o E (Kmd hΓ hg71 E E E E E E)<|bK h70 fun m72 hm72 h73=>Kot E<|eo_o E (Kme hΓ (enc:=Lkt) (bg:=5) m72 E E (ArU.r _ (ArU.r _ (ArU.r _ (ArU.l _ (Kki (fun _ _=>E) hm72 m72))))) E (g:=B m72.Join.Ready) E E)<|gO 2 E<|oSi h73▸⟨⟨E,E,E,E,E,E,tV⟩,[],E,.inl E⟩
  refine gO 2 E<|Kqg hΓ E E E E E E E E Z<|Kdx (oH v_h 0 1 2 3 [.bag al.1 (arX al.2.1 al.2.2.1 al.2.2.2.1 (hSet al.2.2.2.2.1 ((mGet v_h.keys s.Join).getD 0) (⟨m64.Join,m64.revoked,wi (m60.used+1)⟩:Lds)) al.2.2.2.2.2) [],.box 37 (fS s),.box 77 [S s.Node,S s.By,S s.Name,S s.Public,.d (Sl eS []),I s.At,I (if 345686400<(wi (s.At+v_h.d.Life)) then 345686400 else wi (s.At+v_h.d.Life)),B q66]]) E<|gK h67 fun hg75 h74=>gO 6 E<|eo_o E (Kmc hg75 E)<|eo_o E (Kmd hΓ hg75 E E E E E E)<|eo_o E (Kmd hΓ hg75 E E E E E E)<|bK h74 fun m76 hm76 h77=>eo_o E (Kme hΓ (enc:=Lkt) (bg:=5) m76 E E (ArU.r _ (ArU.r _ (ArU.r _ (ArU.l _ (Kki (fun _ _=>E) hm76 m76))))) E (g:=S m76.Join.By) E E)<|gO 2 E<|Kqg hΓ E E E E E E E E Z<|Kdx (oH v_h 0 1 2 3 [.bag al.1 (arX al.2.1 al.2.2.1 al.2.2.2.1 (hSet al.2.2.2.2.1 ((mGet v_h.keys s.Join).getD 0) (⟨m64.Join,m64.revoked,wi (m60.used+1)⟩:Lds)) al.2.2.2.2.2) [],.box 37 (fS s),.box 77 [S s.Node,S m76.Join.By,S s.Name,S s.Public,.d (Sl eS []),I s.At,I (if 345686400<(wi (s.At+v_h.d.Life)) then 345686400 else wi (s.At+v_h.d.Life)),B q66]]) E<|gK h77 fun hg79 h78=>gO 5 E<|eo_o E (Kmc hg79 E)<|eo_o E (Kmd hΓ hg79 E E E E E E)<|eo_o E (Kmd hΓ hg79 E E E E E E)<|bK h78 fun m80 hm80 h81=>eo_o E (Kme hΓ (enc:=Lkt) (bg:=5) m80 E E (ArU.r _ (ArU.r _ (ArU.r _ (ArU.l _ (Kki (fun _ _=>E) hm80 m80))))) E (g:=.d (Sl eS m80.Join.Tags)) E E)<|gO 4 E<|jC E h81 (fun h82=>?_) fun h89=>gA 1 E<|oSi h89▸⟨⟨E,E,E,tV⟩,[],E,.inl E⟩
  exact gK h82 fun hg84 h83=>gA 5 E<|eo_o E (Kmc hg84 E)<|eo_o E (Kmd hΓ hg84 E E E E E E)<|eo_o E (Kmd hΓ hg84 E E E E E E)<|bK h83 fun m85 hm85 h86=>eo_o E (Kme hΓ (enc:=Lkt) (bg:=5) m85 E E (ArU.r _ (ArU.r _ (ArU.r _ (ArU.l _ (Kki (fun _ _=>E) hm85 m85))))) E (g:=.d (Sl eS m85.Join.Tags)) E E)<|bK h86 fun y87 hy87 h88=>Kdp C (Pure.rows (Lnf hy87) E E) E Z E E E E E<|gO 2 E<|Kqg hΓ E E E E E E E E Z<|Kdx (oH v_h 0 1 2 3 [.bag al.1 (arX al.2.1 al.2.2.1 al.2.2.2.1 (hSet al.2.2.2.2.1 ((mGet v_h.keys s.Join).getD 0) (⟨m64.Join,m64.revoked,wi (m60.used+1)⟩:Lds)) al.2.2.2.2.2) [],.box 37 (fS s),.box 77 [S s.Node,S [],S s.Name,S s.Public,.d (Sl eS []),I s.At,I (if 345686400<(wi (s.At+v_h.d.Life)) then 345686400 else wi (s.At+v_h.d.Life)),B q66]]) E<|gO 2 E<|Kqg hΓ E E E E E E E E Z<|Kdx (oH v_h 0 1 2 3 [.bag al.1 (arX al.2.1 al.2.2.1 al.2.2.2.1 (hSet al.2.2.2.2.1 ((mGet v_h.keys s.Join).getD 0) (⟨m64.Join,m64.revoked,wi (m60.used+1)⟩:Lds)) al.2.2.2.2.2) [],.box 37 (fS s),.box 77 [S s.Node,S [],S s.Name,S s.Public,.d (Sl eS y87),I s.At,I (if 345686400<(wi (s.At+v_h.d.Life)) then 345686400 else wi (s.At+v_h.d.Life)),B q66]]) E<|gO 2 E<|Kqg hΓ E E E E E E E E Z<|Kdx (oH v_h 0 1 2 3 [.bag al.1 (arX al.2.1 al.2.2.1 al.2.2.2.1 (hSet al.2.2.2.2.1 ((mGet v_h.keys s.Join).getD 0) (⟨m64.Join,m64.revoked,wi (m60.used+1)⟩:Lds)) al.2.2.2.2.2) [],.box 37 (fS s),.box 77 [S s.Node,S [],S s.Name,S s.Public,.d (Sl eS y87),I s.At,I 345686400,B q66]]) E<|gO 1 E<|oSi h88▸⟨⟨E,E,E,tV⟩,[],E,.inl E⟩
 refine gA 2 E<|Knd (kv:=kS) (agg:=false) (enc:=(eH (some 0))) (id:=1) v_h.nodes E Z (fun mr91 bs92 cl93 hbl94=>?_)
 refine j_hp [mObH v_h.keys,mObS kS false (eH (some 0)) v_h.nodes (rawM kS (eH (some 0)) mr91 bs92 cl93),mObB v_h.ever,mObV v_h.History,bH v_h 0 1 2 3,bg q55.1,.box 37 (fS s),.box 77 (fM q55.2)] E<|Knd (kv:=kS) (agg:=false) (enc:=eB) (id:=2) v_h.ever E Z (fun mr95 bs96 cl97 hbl98=>?_)
 exact j_hp [mObH v_h.keys,mObS kS false (eH (some 0)) v_h.nodes (rawM kS (eH (some 0)) mr91 bs92 cl93),mObS kS false eB v_h.ever (rawM kS eB mr95 bs96 cl97),mObV v_h.History,bH v_h 0 1 2 3,bg q55.1,.box 37 (fS s),.box 77 (fM q55.2)] E<|Kfn [.dead,.dead,.dead,.dead,bH v_h 0 1 2 3,.dead,.box 37 (fS s)] [3,5,9,11] [13,15,16,18] [] hmix (by kernel_rfl) (by kernel_rfl) ⟨E,E,tV⟩ Z<|go_E hΓ 13 E<|ge_h [mObH v_h.keys,mObS kS false (eH (some 0)) (mEnt v_h.nodes s.Node (0:Nat)) (rawM kS (eH (some 0)) (entR mr91 s.Node (0:Nat)) (entB mr91 bs92 cl93 s.Node) (entC mr91 cl93 s.Node)),mObS kS false eB v_h.ever (rawM kS eB mr95 bs96 cl97),mObV v_h.History,bH v_h 0 1 2 3,bg q55.1,.box 37 (fS s),.box 77 (fM q55.2)] E E E (Kfu ⟨E,E,tV⟩) (Kfx (Knf hΓ (kv:=kS) (agg:=false) (enc:=(eH (some 0))) (id:=1) v_h.nodes mr91 s.Node (0:Nat) E E E E Khm E E E (Kko E) E hbl94 E))<|go_E hΓ 1 E<|Kfs [mObH v_h.keys,mObH (mSet v_h.nodes s.Node (q55.1.1.length+1)),mObS kS false eB v_h.ever (rawM kS eB mr95 bs96 cl97),mObV v_h.History,bH v_h 0 1 2 3,.bag (q55.1.1++[false]) (arX q55.1.2.1 q55.1.2.2.1 ((q55.1.1.length,q55.2) :: q55.1.2.2.2.1) q55.1.2.2.2.2.1 q55.1.2.2.2.2.2) [],.box 37 (fS s),.dead] E E (Kfu ⟨E,E,tV⟩) (Kfy (Kit (Kkg (hp2:=[mObH v_h.keys,mObS kS false (eH (some 0)) (mEnt v_h.nodes s.Node (0:Nat)) (rawM kS (eH (some 0)) (entR mr91 s.Node (0:Nat)) (entB mr91 bs92 cl93 s.Node) (entC mr91 cl93 s.Node)),mObS kS false eB v_h.ever (rawM kS eB mr95 bs96 cl97),mObV v_h.History,bH v_h 0 1 2 3,.bag (q55.1.1++[false]) (arX q55.1.2.1 q55.1.2.2.1 ((q55.1.1.length,q55.2) :: q55.1.2.2.2.1) q55.1.2.2.2.2.1 q55.1.2.2.2.2.2) [],.box 37 (fS s),.dead]) (bg:=5) (id:=7) (a:=(fB 77 Lko) q55.1.1.length q55.2) [(192,some 0)] ⟨E,tV⟩ E E ⟨E,E⟩ E E (Kkm _ (Kkm _ (Kkl _ Kkk))) E E) (Kng (kv:=kS) (agg:=false) (enc:=(eH (some 0))) (id:=1) v_h.nodes mr91 s.Node (0:Nat) (q55.1.1.length+1) Khm E E E E E hbl94 E) Z))<|ge_h [mObH v_h.keys,mObH (mSet v_h.nodes s.Node (q55.1.1.length+1)),mObS kS false eB (mEnt v_h.ever s.Node (false:Bool)) (rawM kS eB (entR mr95 s.Node (false:Bool)) (entB mr95 bs96 cl97 s.Node) (entC mr95 cl97 s.Node)),mObV v_h.History,bH v_h 0 1 2 3,.bag (q55.1.1++[false]) (arX q55.1.2.1 q55.1.2.2.1 ((q55.1.1.length,q55.2) :: q55.1.2.2.2.1) q55.1.2.2.2.2.1 q55.1.2.2.2.2.2) [],.box 37 (fS s),.dead] E E E (Kfu ⟨E,E,tV⟩) (Kfx (Knf hΓ (kv:=kS) (agg:=false) (enc:=eB) (id:=2) v_h.ever mr95 s.Node (false:Bool) E E E E Khm E E E (Kkn E E E) E hbl98 E))<|go_E hΓ 1 E<|Kfs [mObH v_h.keys,mObH (mSet v_h.nodes s.Node (q55.1.1.length+1)),mObB (mSet v_h.ever s.Node true),mObV v_h.History,bH v_h 0 1 2 3,.bag (q55.1.1++[false]) (arX q55.1.2.1 q55.1.2.2.1 ((q55.1.1.length,q55.2) :: q55.1.2.2.2.1) q55.1.2.2.2.2.1 q55.1.2.2.2.2.2) [],.box 37 (fS s),.dead] E E (Kfu ⟨E,E,tV⟩) (Kfy (Kng (kv:=kS) (agg:=false) (enc:=eB) (id:=2) v_h.ever mr95 s.Node (false:Bool) true Khm E E E E E hbl98 E))<|Kfp<|gA 2 E<|Kfn [.dead,.dead,.dead,.dead,bH v_h 0 1 2 3,.dead,.box 37 (fS s)] [3,5,7,9] [11,12] [] hmix (by kernel_rfl) (by kernel_rfl) ⟨E,E,tV⟩ Z<|go_E hΓ 10 E<|ge_q E (.inl E) (fun _ _=>Kfq (qt_p (Kge hΓ (gs:=[S s.Public,I s.At,I 345686400]) E E E E E E)))<|ge_h [mObH v_h.keys,mObH (mSet v_h.nodes s.Node (q55.1.1.length+1)),mObB (mSet v_h.ever s.Node true),mObV v_h.History,bH v_h 0 1 2 3,.bag (q55.1.1++[false]) (arX q55.1.2.1 q55.1.2.2.1 ((q55.1.1.length,q55.2) :: q55.1.2.2.2.1) q55.1.2.2.2.2.1 q55.1.2.2.2.2.2) [],.box 37 (fS s),.dead,rO 107 3 Lkn [(⟨s.Public,s.At,345686400⟩:Ldk)]] E E E (Kfu ⟨E,E,tV⟩) (Kfx (Knh hΓ (enc:=Lkn) [(⟨s.Public,s.At,345686400⟩:Ldk)] E E E E E E E E E E E E E E))<|Kfs [mObH v_h.keys,mObH (mSet v_h.nodes s.Node (q55.1.1.length+1)),mObB (mSet v_h.ever s.Node true),mObV (mSet v_h.History s.Node ((q55.1.1++[false]).length+1,[(⟨s.Public,s.At,345686400⟩:Ldk)].length)),bH v_h 0 1 2 3,.bag ((q55.1.1++[false])++[true]) (arX q55.1.2.1 (((q55.1.1++[false]).length,[(⟨s.Public,s.At,345686400⟩:Ldk)]) :: q55.1.2.2.1) ((q55.1.1.length,q55.2) :: q55.1.2.2.2.1) q55.1.2.2.2.2.1 q55.1.2.2.2.2.2) [],.box 37 (fS s),.dead,.dead] E E (Kfu ⟨E,E,tV⟩) (Kfy (Kit (Kmx (hp2:=[mObH v_h.keys,mObH (mSet v_h.nodes s.Node (q55.1.1.length+1)),mObB (mSet v_h.ever s.Node true),mObV v_h.History,bH v_h 0 1 2 3,.bag ((q55.1.1++[false])++[true]) (arX q55.1.2.1 (((q55.1.1++[false]).length,[(⟨s.Public,s.At,345686400⟩:Ldk)]) :: q55.1.2.2.1) ((q55.1.1.length,q55.2) :: q55.1.2.2.2.1) q55.1.2.2.2.2.1 q55.1.2.2.2.2.2) [],.box 37 (fS s),.dead,.dead]) (enc:=Lkn) (id:=8) (bg:=5) 208 (nblt.1 E) (nblt.1 E) E E E (Kkm _ (Kkl _ Kkk)) E E) (Kia hΓ (kv:=kS) (agg:=false) (enc:=(eV 107 3)) (id:=3) v_h.History s.Node ((q55.1.1++[false]).length+1,[(⟨s.Public,s.At,345686400⟩:Ldk)].length) E E E Khm E E E E E) Z))<|Kfp<|gA 7 E<|Kgj<|oSi h56▸Kec hΓ [_,_,_] (.inr E) E E E E (.inr ⟨HB.mk E,E⟩)
theorem Lje{t:Str}{x:Ldg}{x2:Str}{r:Bool}(h:Lhp t x x2=some r):EC Tryz.prog 247 [S t,.ptr 0 0,.ptr 1 0] [.box 29 (fD x),.box 9 [S x2]] fun g hp'=>g=B r∧hp'=[.box 29 (fD x),.box 9 [S x2]]:=by
 unfold Lhp at h
 exact Kon (Fr.of 0 _) Tryz.func247 E (Fr.of_ok _) Z fun _=>Kcg<|bK h fun y1 hy1 h2=>gA 9 E<|Kdp C (Liz hy1) E Z E E E E E<|bK h2 fun y3 hy3 h4=>gO 11 E<|Kdp C (Lls hy3) E Z E E E E E<|gO 4 E<|oSi h4▸Kec hΓ [] (.inr E) E E E E (.inl E)
theorem Ljf{s:List Str}{f:Ldg}{f2:Str}{r:Int}(h:Lhq s f f2=some r):EC Tryz.prog 246 [.d (Sl eS s),.fn (.func 247) [] [.ptr 0 0,.ptr 1 0]] [.box 29 (fD f),.box 9 [S f2]] fun g hp'=>g=I r∧hp'=[.box 29 (fD f),.box 9 [S f2]]:=by
 unfold Lhq at h
 refine Kon (Fr.of 0 _) Tryz.func246 E (Fr.of_ok _) Z fun _=>Kcg<|gA 13 E<|bK h fun q4 hq4 h5=>Kcx 0 E fun hb7=>Kgm (R:=fun a6=>q4=.go a6) (fun a6=>[]) (fun a6=>[.box 29 (fD f),.box 9 [S f2]]) ?_ ?_
 ·refine gA 1 E<|Kcw s hq4 (fun i1 s2=>[(0,.d (Sl eS s)),(1,.fn (.func 247) [] [.ptr 0 0,.ptr 1 0]),(7,I (s.length:Int)),(8,I (i1:Int))]) (fun s2=>[.box 29 (fD f),.box 9 [S f2]]) ⟨⟨E,E,E,E,tV⟩,[],E,.inl E⟩ (fun i1 x3 s2 y11 hx8 hlt hy9 hout10=>?_) (fun s2 hgo=>?_)
  ·refine gA 6 E<|Kci E (decide_eq_true (Int.ofNat_lt.2 hlt))<|gA 15 E<|eo_o E (Kcy hΓ (enc:=eS) (Kcr hx8) E E E E E (fun _=>E))<|bK hy9 fun y12 hy12 h13=>gO 1 E<|Kdo [0,1] (B y12) [.box 29 (fD f),.box 9 [S f2]] C (Lje hy12) E Z E E E E E E E E E E<|gO 2 E<|jC E h13 (fun h14=>?_) fun h17=>gA 7 E ?_
   ·refine gA 9 E<|bK h14 fun v15 hv15 h16=>?_
    cases h16
    obtain rfl:=hout10 _ rfl
    cases h5
    exact gA 4 E<|oSi hv15▸Kec hΓ [] (.inr E) E E E E (.inl E)
   cases h17
   exact⟨_,E,⟨⟨E,E,E,Kbp E (Kbo (nLl hlt hb7)),tV⟩,[],E,.inl E⟩⟩
  subst hgo
  exact gA 6 E<|Kcj E (decide_eq_false (Int.lt_irrefl _))<|gA 4 E<|⟨_,E,⟨tV,[],E,.inl E⟩⟩
 intro a6 ha
 subst ha
 replace h5:=Kgh h5
 exact gA 7 E<|oSi h5▸Kec hΓ [] (.inr E) E E E E (.inl E)
theorem Ljg{s:List Str}{f:Ldg}{f2:Str}{r:Bool}(h:Lhr s f f2=some r):EC Tryz.prog 158 [.d (Sl eS s),.fn (.func 247) [] [.ptr 0 0,.ptr 1 0]] [.box 29 (fD f),.box 9 [S f2]] fun g hp'=>g=B r∧hp'=[.box 29 (fD f),.box 9 [S f2]]:=by
 unfold Lhr at h
 exact Kon (Fr.of 0 _) Tryz.func158 E (Fr.of_ok _) Z fun _=>Kcg<|bK h fun y1 hy1 h2=>gA 9 E<|Kdo [0,1] (I y1) [.box 29 (fD f),.box 9 [S f2]] C (Ljf hy1) E Z E E E E E E E E E E<|gO 5 E<|oSi h2▸Kec hΓ [] (.inr E) E E E E (.inl E)
theorem Ljh{d:Ldg}{user:Str}{m:Ldl}{r:Bool}(h:Lhs d user m=some r):Pure Tryz.prog 160 [.agg (fD d),S user,.agg (fM m)] (B r):=by
 unfold Lhs at h
 refine Pure.enter (Fr.of 0 _) Tryz.func160 E (Fr.of_ok _) E E<|Kcg<|gA 2 E<|Kqc E E E E Z<|Kqc E E E E Z<|Kqc E E E E Z<|gO 10 E<|bK h fun q1 hq1 h2=>Kcn 5 [(6,B false),(16,B q1)] [.box 29 (fD d),.box 9 [S user],.box 77 (fM m)] ?_ ?_
 ·refine Kov E E (fun hb=>?_) (fun hb=>?_)
  ·have h3:=cT hq1 hb
   exact gO 6 E<|oSi h3▸⟨⟨E,E,tV⟩,[],E,.inl E⟩
  have h4:=cF hq1 hb
  exact bK h4 fun y5 hy5 h6=>gO 3 E<|Kot E<|Kdo [0,1] (B y5) [.box 29 (fD d),.box 9 [S user],.box 77 (fM m)] C (Ljg hy5) E Z E E E E E E E E E E<|gO 2 E<|oSi h6▸⟨⟨E,E,tV⟩,[],E,.inl E⟩
 exact gO 4 E<|oSi h2▸gP E E
theorem Lji{v_h:Ldq}{s:Ldh}{m:Nat}{al:BagT}{r:Int×Ldq×BagT}(h:Lht v_h s m al=some r):EC Tryz.prog 204 [.ptr 4 0,.agg (fS s),.d (.hd (some 0) m)] (oH v_h 0 1 2 3 [bg al]) fun g hp'=>g=I r.1∧hp'=(oH r.2.1 0 1 2 3 [bg r.2.2]):=by
 unfold Lht at h
 refine Kix (Fr.of 0 _) Tryz.func204 E (Fr.of_ok _) Z fun _=>Kcg<|gA 2 E<|Kqc E E E E Z<|gO 4 E<|Kck hmix (by kernel_rfl)<|gA 6 E<|gl_o E (Kkp hΓ (kv:=kS) (agg:=false) (enc:=(eV 107 3)) v_h.History s.Node ((0,0):Vl) E E E E Khm E E E (Kmj E) E)<|bK h fun q1 hq1 h2=>Kcf hΓ 10 E<|Kgp (q:=q1) (fun a3=>[]) (fun a3=>[mObH v_h.keys,mObH a3.1,mObB v_h.ever,mObV a3.2.1,bH v_h 0 1 2 3,bg a3.2.2,.box 37 (fS s)]) ?_ ?_
 ·refine gA 7 E<|jC E hq1 (fun h4=>?_) fun h42=>gA 6 E<|jC E h42 (fun h43=>?_) fun h56=>?_
  ·refine bK h4 fun y5 hy5 h6=>gA 6 E<|Kdo [0,1,2,3,4,5] (B y5) (oH v_h 0 1 2 3 [bg al,.box 37 (fS s)]) C (Ljc hy5) E Z E E E E E E E E E E<|gO 2 E<|jC E h6 (fun h7=>?_) fun h10=>gK h10 fun hg12 h11=>gA 7 E<|eo_o E (Kmc hg12 E)<|eo_o E (Kmd hΓ hg12 E E E E E E)<|bK h11 fun m13 hm13 h14=>eo_u Z (Kmf hΓ (enc:=Lko) (bg:=5) m13 (⟨m13.Node,m13.User,m13.Name,s.Public,m13.Tags,m13.Joined,m13.Expires,m13.Approved⟩:Ldl) E E (ArU.r _ (ArU.r _ (ArU.l _ (Kki (fun _ _=>E) hm13 (⟨m13.Node,m13.User,m13.Name,s.Public,m13.Tags,m13.Joined,m13.Expires,m13.Approved⟩:Ldl))))) E E (by intro e;cases e) E E E E E E E) ?_
   ·refine gA 8 E<|bK h7 fun v8 hv8 h9=>?_
    cases h9
    cases h2
    exact gA 2 E<|Kgj<|oSi hv8▸Kec hΓ [_] (.inr E) E E E E (.inr ⟨HB.mk E,E⟩)
   refine Kdx (oH v_h 0 1 2 3 [.bag al.1 (arX al.2.1 al.2.2.1 (hSet al.2.2.2.1 m (⟨m13.Node,m13.User,m13.Name,s.Public,m13.Tags,m13.Joined,m13.Expires,m13.Approved⟩:Ldl)) al.2.2.2.2.1 al.2.2.2.2.2) [],.box 37 (fS s)]) E<|gK h14 fun hg16 h15=>gO 5 E<|eo_o E (Kmc hg16 E)<|eo_o E (Kmd hΓ hg16 E E E E E E)<|bK h15 fun m17 hm17 h18=>eo_u Z (Kmf hΓ (enc:=Lko) (bg:=5) m17 (⟨m17.Node,m17.User,m17.Name,m17.Public,m17.Tags,m17.Joined,345686400,m17.Approved⟩:Ldl) E E (ArU.r _ (ArU.r _ (ArU.l _ (Kki (fun _ _=>E) hm17 (⟨m17.Node,m17.User,m17.Name,m17.Public,m17.Tags,m17.Joined,345686400,m17.Approved⟩:Ldl))))) E E (by intro e;cases e) E E E E E E E) ?_
   refine Kdx (oH v_h 0 1 2 3 [.bag al.1 (arX al.2.1 al.2.2.1 (hSet (hSet al.2.2.2.1 m (⟨m13.Node,m13.User,m13.Name,s.Public,m13.Tags,m13.Joined,m13.Expires,m13.Approved⟩:Ldl)) m (⟨m17.Node,m17.User,m17.Name,m17.Public,m17.Tags,m17.Joined,345686400,m17.Approved⟩:Ldl)) al.2.2.2.2.1 al.2.2.2.2.2) [],.box 37 (fS s)]) E<|gK h18 fun hg20 h19=>gO 6 E<|eo_o E (Kmc hg20 E)<|eo_o E (Kmd hΓ hg20 E E E E E E)<|bK h19 fun m21 hm21 h22=>eo_o E (Kme hΓ (enc:=Lko) (bg:=5) m21 E E (ArU.r _ (ArU.r _ (ArU.l _ (Kki (fun _ _=>E) hm21 m21)))) E (g:=S m21.User) E E)<|bK h22 fun q23 hq23 h24=>gO 3 E<|Kgn [(0,.ptr 4 0),(4,.ptr 6 0),(7,.d (.rv 107 3 ((mGet v_h.History s.Node).getD (0,0)).1 ((mGet v_h.History s.Node).getD (0,0)).2))] (oH v_h 0 1 2 3 [bg q23,.box 37 (fS s)]) ?_ ?_
   ·refine jC E hq23 (fun h25=>?_) fun h30=>gA 1 E<|oSi h30▸⟨⟨E,E,E,tV⟩,[],E,.inl E⟩
    refine Kfn [.dead,.dead,.dead,.dead,bH v_h 0 1 2 3,.dead,.box 37 (fS s)] [2,7] [12] [] hmix (by kernel_rfl) (by kernel_rfl) ⟨E,E,tV⟩ Z<|gK h25 fun hg27 h26=>go_E hΓ 10 E<|ge_q E (.inl E) (fun _ _=>Kfq (qt_p (Kmc hg27 E)))<|ge_q E (.inl E) (fun _ _=>Kfq (qt_p (Kmd hΓ hg27 E E E E E E)))<|bK h26 fun m28 hm28 h29=>Kfs (oH v_h 0 1 2 3 [.bag al.1 (arX al.2.1 al.2.2.1 (hSet (hSet (hSet al.2.2.2.1 m (⟨m13.Node,m13.User,m13.Name,s.Public,m13.Tags,m13.Joined,m13.Expires,m13.Approved⟩:Ldl)) m (⟨m17.Node,m17.User,m17.Name,m17.Public,m17.Tags,m17.Joined,345686400,m17.Approved⟩:Ldl)) m (⟨m28.Node,m28.User,m28.Name,m28.Public,m28.Tags,m28.Joined,(if 345686400<(wi (s.At+v_h.d.Life)) then 345686400 else wi (s.At+v_h.d.Life)),m28.Approved⟩:Ldl)) al.2.2.2.2.1 al.2.2.2.2.2) [],.box 37 (fS s)]) E E (Kfu ⟨E,E,tV⟩) (Kfy (Kmf hΓ (enc:=Lko) (bg:=5) m28 (⟨m28.Node,m28.User,m28.Name,m28.Public,m28.Tags,m28.Joined,(if 345686400<(wi (s.At+v_h.d.Life)) then 345686400 else wi (s.At+v_h.d.Life)),m28.Approved⟩:Ldl) E E (ArU.r _ (ArU.r _ (ArU.l _ (Kki (fun _ _=>E) hm28 (⟨m28.Node,m28.User,m28.Name,m28.Public,m28.Tags,m28.Joined,(if 345686400<(wi (s.At+v_h.d.Life)) then 345686400 else wi (s.At+v_h.d.Life)),m28.Approved⟩:Ldl))))) E E (by intro e;cases e) E E E E E E E)) ?_
    exact Kfp<|oSi h29▸⟨⟨E,E,E,tV⟩,[],E,.inl E⟩
   refine gA 5 E<|eo_o E (Kmm hΓ E E E)<|gK h24 fun hg32 h31=>gK h31 fun hg34 h33=>gO 3 E<|eo_o E (Kmn hΓ hg34 E E E E E E)<|eo_o E (Kmd hΓ hg32 E E E E E E)<|bK h33 fun m35 hm35 h36=>bK h36 fun x37 hx37 h38=>?_
   have hj39:=Keg hx37
   exact eo_u Z (Kmp hΓ (enc:=Lkn) (bg:=5) (z':=(⟨x37.Public,x37.From,s.At⟩:Ldk)) (wi (((((mGet v_h.History s.Node).getD (0,0)).2:Nat):Int) - 1)).toNat 2 hj39 E E E (ArU.r _ (ArU.l _ (Kki (fun _ _=>E) hm35 (m35.set (wi (((((mGet v_h.History s.Node).getD (0,0)).2:Nat):Int) - 1)).toNat (⟨x37.Public,x37.From,s.At⟩:Ldk))))) E (fun _=>E) E E E E E E E)<|Kdx (oH v_h 0 1 2 3 [.bag q23.1 (arX q23.2.1 (hSet q23.2.2.1 (((mGet v_h.History s.Node).getD (0,0)).1) (m35.set (wi (((((mGet v_h.History s.Node).getD (0,0)).2:Nat):Int) - 1)).toNat (⟨x37.Public,x37.From,s.At⟩:Ldk))) q23.2.2.2.1 q23.2.2.2.2.1 q23.2.2.2.2.2) [],.box 37 (fS s)]) E<|gO 2 E<|Kfn [.dead,.dead,.dead,.dead,bH v_h 0 1 2 3,.dead,.box 37 (fS s)] [3,5,8,10] [13,14] [] hmix (by kernel_rfl) (by kernel_rfl) ⟨E,E,tV⟩ Z<|go_E hΓ 11 E<|ge_q E (.inl E) (fun _ _=>Kfq (qt_p (Kge hΓ (gs:=[S s.Public,I s.At,I 345686400]) E E E E E E)))<|Kgb hΓ (enc:=Lkn) [(⟨s.Public,s.At,345686400⟩:Ldk)] E E E E E E E E E E E E<|bK h38 fun y40 hy40 h41=>ge_h (oH v_h 0 1 2 3 [.bag y40.2.1 (arX q23.2.1 y40.2.2 q23.2.2.2.1 q23.2.2.2.2.1 q23.2.2.2.2.2) [],.box 37 (fS s)]) E E E (Kfu ⟨E,E,tV⟩) (Kfx (Kmw hΓ (enc:=Lkn) (bg:=5) (fun l=>arX q23.2.1 l q23.2.2.2.1 q23.2.2.2.2.1 q23.2.2.2.2.2) hy40 (Kms _ (Kmr _ Kmq)) E E E E E E E E (fun _=>E) E E))<|Kfs [mObH v_h.keys,mObH v_h.nodes,mObB v_h.ever,mObV (mSet v_h.History s.Node y40.1),bH v_h 0 1 2 3,.bag y40.2.1 (arX q23.2.1 y40.2.2 q23.2.2.2.1 q23.2.2.2.2.1 q23.2.2.2.2.2) [],.box 37 (fS s)] E E (Kfu ⟨E,E,tV⟩) (Kfy (Kia hΓ (kv:=kS) (agg:=false) (enc:=(eV 107 3)) (id:=3) v_h.History s.Node y40.1 E E E Khm E E E E E))<|Kfp<|gA 1 E<|oSi h41▸⟨_,E,⟨tV,[],E,.inl E⟩⟩
  ·refine gA 2 E<|Kck hmix (by kernel_rfl)<|gK h43 fun hg45 h44=>gA 1 E<|gl_o E (Kmc hg45 E)<|gl_o E (Kmd hΓ hg45 E E E E E E)<|bK h44 fun m46 hm46 h47=>gl_o E (Kme hΓ (enc:=Lko) (bg:=5) m46 E E (ArU.r _ (ArU.r _ (ArU.l _ (Kki (fun _ _=>E) hm46 m46)))) E (g:=S m46.Name) E E)<|Kcf hΓ 5 E<|jC E h47 (fun h48=>?_) fun h51=>gK h51 fun hg53 h52=>gA 6 E<|eo_o E (Kmc hg53 E)<|eo_o E (Kmd hΓ hg53 E E E E E E)<|bK h52 fun m54 hm54 h55=>eo_u Z (Kmf hΓ (enc:=Lko) (bg:=5) m54 (⟨m54.Node,m54.User,s.Name,m54.Public,m54.Tags,m54.Joined,m54.Expires,m54.Approved⟩:Ldl) E E (ArU.r _ (ArU.r _ (ArU.l _ (Kki (fun _ _=>E) hm54 (⟨m54.Node,m54.User,s.Name,m54.Public,m54.Tags,m54.Joined,m54.Expires,m54.Approved⟩:Ldl))))) E E (by intro e;cases e) E E E E E E E) ?_
   ·refine gA 8 E<|bK h48 fun v49 hv49 h50=>?_
    cases h50
    cases h2
    exact gA 2 E<|Kgj<|oSi hv49▸Kec hΓ [_] (.inr E) E E E E (.inr ⟨HB.mk E,E⟩)
   exact Kdx (oH v_h 0 1 2 3 [.bag al.1 (arX al.2.1 al.2.2.1 (hSet al.2.2.2.1 m (⟨m54.Node,m54.User,s.Name,m54.Public,m54.Tags,m54.Joined,m54.Expires,m54.Approved⟩:Ldl)) al.2.2.2.2.1 al.2.2.2.2.2) [],.box 37 (fS s)]) E<|gO 2 E<|oSi h55▸⟨_,E,⟨tV,[],E,.inl E⟩⟩
  refine gA 6 E<|jC E h56 (fun h57=>?_) fun h82=>gA 6 E<|jC E h82 (fun h83=>?_) fun h96=>?_
  ·refine gA 9 E<|jC E h57 (fun h58=>?_) fun h61=>gA 4 E<|Kck hmix (by kernel_rfl)<|bK h61 fun y62 hy62 h63=>gA 8 E<|Kdq C (Lja hy62) E E E E E E<|Kcf hΓ 9 E<|jC E h63 (fun h64=>?_) fun h67=>?_
   ·refine gA 8 E<|bK h58 fun v59 hv59 h60=>?_
    cases h60
    cases h2
    exact gA 2 E<|Kgj<|oSi hv59▸Kec hΓ [_] (.inr E) E E E E (.inr ⟨HB.mk E,E⟩)
   ·refine gA 9 E<|bK h64 fun v65 hv65 h66=>?_
    cases h66
    cases h2
    exact gA 2 E<|Kgj<|oSi hv65▸Kec hΓ [_] (.inr E) E E E E (.inr ⟨HB.mk E,E⟩)
   refine bK h67 fun y68 hy68 h69=>gA 8 E<|Kdp C (Pure.rows (Lnf hy68) E E) E Z E E E E E<|gK h69 fun hg71 h70=>eo_o E (Kmc hg71 E)<|eo_o E (Kmd hΓ hg71 E E E E E E)<|bK h70 fun m72 hm72 h73=>eo_u Z (Kmf hΓ (enc:=Lko) (bg:=5) m72 (⟨m72.Node,[],m72.Name,m72.Public,m72.Tags,m72.Joined,m72.Expires,m72.Approved⟩:Ldl) E E (ArU.r _ (ArU.r _ (ArU.l _ (Kki (fun _ _=>E) hm72 (⟨m72.Node,[],m72.Name,m72.Public,m72.Tags,m72.Joined,m72.Expires,m72.Approved⟩:Ldl))))) E E (by intro e;cases e) E E E E E E E) ?_
   refine Kdx (oH v_h 0 1 2 3 [.bag al.1 (arX al.2.1 al.2.2.1 (hSet al.2.2.2.1 m (⟨m72.Node,[],m72.Name,m72.Public,m72.Tags,m72.Joined,m72.Expires,m72.Approved⟩:Ldl)) al.2.2.2.2.1 al.2.2.2.2.2) [],.box 37 (fS s)]) E<|gK h73 fun hg75 h74=>eo_o E (Kmc hg75 E)<|eo_o E (Kmd hΓ hg75 E E E E E E)<|bK h74 fun m76 hm76 h77=>eo_u Z (Kmf hΓ (enc:=Lko) (bg:=5) m76 (⟨m76.Node,m76.User,m76.Name,m76.Public,y68,m76.Joined,m76.Expires,m76.Approved⟩:Ldl) E E (ArU.r _ (ArU.r _ (ArU.l _ (Kki (fun _ _=>E) hm76 (⟨m76.Node,m76.User,m76.Name,m76.Public,y68,m76.Joined,m76.Expires,m76.Approved⟩:Ldl))))) E E (by intro e;cases e) E E E E E E E) ?_
   refine Kdx (oH v_h 0 1 2 3 [.bag al.1 (arX al.2.1 al.2.2.1 (hSet (hSet al.2.2.2.1 m (⟨m72.Node,[],m72.Name,m72.Public,m72.Tags,m72.Joined,m72.Expires,m72.Approved⟩:Ldl)) m (⟨m76.Node,m76.User,m76.Name,m76.Public,y68,m76.Joined,m76.Expires,m76.Approved⟩:Ldl)) al.2.2.2.2.1 al.2.2.2.2.2) [],.box 37 (fS s)]) E<|gK h77 fun hg79 h78=>eo_o E (Kmc hg79 E)<|eo_o E (Kmd hΓ hg79 E E E E E E)<|bK h78 fun m80 hm80 h81=>eo_u Z (Kmf hΓ (enc:=Lko) (bg:=5) m80 (⟨m80.Node,m80.User,m80.Name,m80.Public,m80.Tags,m80.Joined,345686400,m80.Approved⟩:Ldl) E E (ArU.r _ (ArU.r _ (ArU.l _ (Kki (fun _ _=>E) hm80 (⟨m80.Node,m80.User,m80.Name,m80.Public,m80.Tags,m80.Joined,345686400,m80.Approved⟩:Ldl))))) E E (by intro e;cases e) E E E E E E E) ?_
   exact Kdx (oH v_h 0 1 2 3 [.bag al.1 (arX al.2.1 al.2.2.1 (hSet (hSet (hSet al.2.2.2.1 m (⟨m72.Node,[],m72.Name,m72.Public,m72.Tags,m72.Joined,m72.Expires,m72.Approved⟩:Ldl)) m (⟨m76.Node,m76.User,m76.Name,m76.Public,y68,m76.Joined,m76.Expires,m76.Approved⟩:Ldl)) m (⟨m80.Node,m80.User,m80.Name,m80.Public,m80.Tags,m80.Joined,345686400,m80.Approved⟩:Ldl)) al.2.2.2.2.1 al.2.2.2.2.2) [],.box 37 (fS s)]) E<|gO 2 E<|oSi h81▸⟨_,E,⟨tV,[],E,.inl E⟩⟩
  ·refine gA 2 E<|Kck hmix (by kernel_rfl)<|gK h83 fun hg85 h84=>gA 1 E<|gl_o E (Kmc hg85 E)<|gl_o E (Kmd hΓ hg85 E E E E E E)<|bK h84 fun m86 hm86 h87=>gl_o E (Kme hΓ (enc:=Lko) (bg:=5) m86 E E (ArU.r _ (ArU.r _ (ArU.l _ (Kki (fun _ _=>E) hm86 m86)))) E (g:=I m86.Expires) E E)<|Kcf hΓ 5 E<|jC E h87 (fun h88=>?_) fun h91=>gK h91 fun hg93 h92=>gA 6 E<|eo_o E (Kmc hg93 E)<|eo_o E (Kmd hΓ hg93 E E E E E E)<|bK h92 fun m94 hm94 h95=>eo_u Z (Kmf hΓ (enc:=Lko) (bg:=5) m94 (⟨m94.Node,m94.User,m94.Name,m94.Public,m94.Tags,m94.Joined,s.At,m94.Approved⟩:Ldl) E E (ArU.r _ (ArU.r _ (ArU.l _ (Kki (fun _ _=>E) hm94 (⟨m94.Node,m94.User,m94.Name,m94.Public,m94.Tags,m94.Joined,s.At,m94.Approved⟩:Ldl))))) E E (by intro e;cases e) E E E E E E E) ?_
   ·refine gA 8 E<|bK h88 fun v89 hv89 h90=>?_
    cases h90
    cases h2
    exact gA 2 E<|Kgj<|oSi hv89▸Kec hΓ [_] (.inr E) E E E E (.inr ⟨HB.mk E,E⟩)
   exact Kdx (oH v_h 0 1 2 3 [.bag al.1 (arX al.2.1 al.2.2.1 (hSet al.2.2.2.1 m (⟨m94.Node,m94.User,m94.Name,m94.Public,m94.Tags,m94.Joined,s.At,m94.Approved⟩:Ldl)) al.2.2.2.2.1 al.2.2.2.2.2) [],.box 37 (fS s)]) E<|gO 2 E<|oSi h95▸⟨_,E,⟨tV,[],E,.inl E⟩⟩
  refine gA 1 E<|Kfn [.dead,.dead,.dead,.dead,bH v_h 0 1 2 3,.dead,.box 37 (fS s)] [3,5] [6] [] hmix (by kernel_rfl) (by kernel_rfl) ⟨E,E,tV⟩ Z<|go_E hΓ 6 E<|Kfs [mObH v_h.keys,mObH (mDel v_h.nodes s.Node),mObB v_h.ever,mObV v_h.History,bH v_h 0 1 2 3,bg al,.box 37 (fS s)] E E (Kfu ⟨E,E,tV⟩) (Kfx (Knb hΓ (kv:=kS) (agg:=false) (enc:=(eH (some 0))) (id:=1) v_h.nodes s.Node E E E Khm E E E E))<|Kfp<|gA 4 E<|eo_o E (Kmm hΓ E E E)<|gK h96 fun hg98 h97=>gK h97 fun hg100 h99=>gO 3 E<|eo_o E (Kmn hΓ hg100 E E E E E E)<|eo_o E (Kmd hΓ hg98 E E E E E E)<|bK h99 fun m101 hm101 h102=>bK h102 fun x103 hx103 h104=>?_
  have hj105:=Keg hx103
  exact eo_u Z (Kmp hΓ (enc:=Lkn) (bg:=5) (z':=(⟨x103.Public,x103.From,s.At⟩:Ldk)) (wi (((((mGet v_h.History s.Node).getD (0,0)).2:Nat):Int) - 1)).toNat 2 hj105 E E E (ArU.r _ (ArU.l _ (Kki (fun _ _=>E) hm101 (m101.set (wi (((((mGet v_h.History s.Node).getD (0,0)).2:Nat):Int) - 1)).toNat (⟨x103.Public,x103.From,s.At⟩:Ldk))))) E (fun _=>E) E E E E E E E)<|Kdx [mObH v_h.keys,mObH (mDel v_h.nodes s.Node),mObB v_h.ever,mObV v_h.History,bH v_h 0 1 2 3,.bag al.1 (arX al.2.1 (hSet al.2.2.1 (((mGet v_h.History s.Node).getD (0,0)).1) (m101.set (wi (((((mGet v_h.History s.Node).getD (0,0)).2:Nat):Int) - 1)).toNat (⟨x103.Public,x103.From,s.At⟩:Ldk))) al.2.2.2.1 al.2.2.2.2.1 al.2.2.2.2.2) [],.box 37 (fS s)] E<|gO 2 E<|oSi h104▸⟨_,E,⟨tV,[],E,.inl E⟩⟩
 intro a3 ha
 subst ha
 replace h2:=Kgg h2
 exact gA 7 E<|Kgj<|oSi h2▸Kec hΓ [_] (.inr E) E E E E (.inr ⟨HB.mk E,E⟩)
theorem Ljj{v_h:Ldq}{s:Ldh}{al:BagT}{r:Int×Ldq×BagT}(h:Lhu v_h s al=some r):EC Tryz.prog 98 [.ptr 4 0,.agg (fS s)] (oH v_h 0 1 2 3 [bg al]) fun g hp'=>g=I r.1∧hp'=(oH r.2.1 0 1 2 3 [bg r.2.2]):=by
 unfold Lhu at h
 refine Kix (Fr.of 0 _) Tryz.func98 E (Fr.of_ok _) Z fun _=>Kcg<|gA 2 E<|Kqc E E E E Z<|bK h fun q1 hq1 h2=>gO 18 E<|Kgn [(0,.ptr 4 0),(3,.ptr 6 0),(7,I s.Kind),(8,B q1)] (oH v_h 0 1 2 3 [bg al,.box 37 (fS s)]) ?_ ?_
 ·refine jC E hq1 (fun h3=>?_) fun h4=>gA 4 E<|oSi h4▸⟨⟨E,E,E,E,tV⟩,[],E,.inl E⟩
  exact gA 1 E<|oSi h3▸⟨⟨E,E,E,E,tV⟩,[],E,.inl E⟩
 refine gA 1 E<|jC E h2 (fun h5=>?_) fun h8=>gA 6 E<|jC E h8 (fun h9=>?_) fun h12=>?_
 ·exact bK h5 fun y6 hy6 h7=>gA 4 E<|Kdo [0,1,2,3,4,5] (I y6.1) (oH y6.2.1 0 1 2 3 [bg y6.2.2,.box 37 (fS s)]) C (Ljb hy6) E Z E E E E E E E E E E<|gO 6 E<|Kgj<|oSi h7▸Kec hΓ [_] (.inr E) E E E E (.inr ⟨HB.mk E,E⟩)
 ·exact bK h9 fun y10 hy10 h11=>gA 4 E<|Kdo [0,1,2,3,4,5] (I y10.1) (oH y10.2.1 0 1 2 3 [bg y10.2.2,.box 37 (fS s)]) C (Ljd hy10) E Z E E E E E E E E E E<|gO 6 E<|Kgj<|oSi h11▸Kec hΓ [_] (.inr E) E E E E (.inr ⟨HB.mk E,E⟩)
 refine gA 5 E<|Kck hmix (by kernel_rfl)<|bK h12 fun y13 hy13 h14=>gA 7 E<|Kdq C (Lls hy13) E E E E E E<|Kcf hΓ 3 E<|jC E h14 (fun h15=>?_) fun h16=>gA 3 E<|Kck hmix (by kernel_rfl)<|gA 6 E<|gl_o E (Kkp hΓ (kv:=kS) (agg:=false) (enc:=(eH (some 0))) v_h.nodes s.Node (0:Nat) E E E E Khm E E E (Kko E) E)<|Kcf hΓ 7 E<|eo_o E ((Kkt hΓ E E E E).1)<|gO 2 E<|jC E h16 (fun h17=>?_) fun h18=>?_
 ·exact gA 7 E<|Kgj<|oSi h15▸Kec hΓ [_] (.inr E) E E E E (.inr ⟨HB.mk E,E⟩)
 ·exact gA 7 E<|Kgj<|oSi h17▸Kec hΓ [_] (.inr E) E E E E (.inr ⟨HB.mk E,E⟩)
 refine gA 10 E<|jC E h18 (fun h19=>?_) fun h30=>gA 4 E<|Kck hmix (by kernel_rfl)<|gK h30 fun hg32 h31=>gA 7 E<|gl_o E (Kmc hg32 E)<|bK h31 fun m33 hm33 h34=>gl_o E (Kme hΓ (enc:=Lko) (bg:=5) m33 E E (ArU.r _ (ArU.r _ (ArU.l _ (Kki (fun _ _=>E) hm33 m33)))) E (g:=.agg (fM m33)) E E)<|bK h34 fun y35 hy35 h36=>Kdq C (Ljh hy35) E E E E E E<|Kcf hΓ 3 E<|jC E h36 (fun h37=>?_) fun h38=>?_
 ·refine gK h19 fun hg21 h20=>gA 4 E<|eo_o E (Kmc hg21 E)<|eo_o E (Kmd hΓ hg21 E E E E E E)<|bK h20 fun m22 hm22 h23=>eo_o E (Kme hΓ (enc:=Lko) (bg:=5) m22 E E (ArU.r _ (ArU.r _ (ArU.l _ (Kki (fun _ _=>E) hm22 m22)))) E (g:=B m22.Approved) E E)<|gO 2 E<|jC E h23 (fun h24=>?_) fun h25=>gK h25 fun hg27 h26=>gA 5 E<|eo_o E (Kmc hg27 E)<|eo_o E (Kmd hΓ hg27 E E E E E E)<|bK h26 fun m28 hm28 h29=>eo_u Z (Kmf hΓ (enc:=Lko) (bg:=5) m28 (⟨m28.Node,m28.User,m28.Name,m28.Public,m28.Tags,m28.Joined,m28.Expires,true⟩:Ldl) E E (ArU.r _ (ArU.r _ (ArU.l _ (Kki (fun _ _=>E) hm28 (⟨m28.Node,m28.User,m28.Name,m28.Public,m28.Tags,m28.Joined,m28.Expires,true⟩:Ldl))))) E E (by intro e;cases e) E E E E E E E) ?_
  ·exact gA 8 E<|Kgj<|oSi h24▸Kec hΓ [_] (.inr E) E E E E (.inr ⟨HB.mk E,E⟩)
  exact Kdx (oH v_h 0 1 2 3 [.bag al.1 (arX al.2.1 al.2.2.1 (hSet al.2.2.2.1 ((mGet v_h.nodes s.Node).getD 0) (⟨m28.Node,m28.User,m28.Name,m28.Public,m28.Tags,m28.Joined,m28.Expires,true⟩:Ldl)) al.2.2.2.2.1 al.2.2.2.2.2) [],.box 37 (fS s)]) E<|gO 9 E<|Kgj<|oSi h29▸Kec hΓ [_] (.inr E) E E E E (.inr ⟨HB.mk E,E⟩)
 ·exact gA 7 E<|Kgj<|oSi h37▸Kec hΓ [_] (.inr E) E E E E (.inr ⟨HB.mk E,E⟩)
 exact bK h38 fun y39 hy39 h40=>gA 7 E<|Kdo [0,1,2,3,4,5] (I y39.1) (oH y39.2.1 0 1 2 3 [bg y39.2.2,.box 37 (fS s)]) C (Lji hy39) E Z E E E E E E E E E E<|gO 4 E<|Kgj<|oSi h40▸Kec hΓ [_] (.inr E) E E E E (.inr ⟨HB.mk E,E⟩)
theorem Ljk{d:Ldg}{l:List Ldh}{v_at:Int}{al:BagT}{r:Ldq×(List Ldr)×BagT}(h:Lhv d l v_at al=some r):EC Tryz.prog 94 [.agg (fD d),.d (Sl Lkk l),I v_at] [bg al] fun g hp'=>g=.tup [.ptr 5 0,.sl 6 r.2.1.length]∧hp'=(bg r.2.2::oH r.1 1 2 3 4 [rO 48 2 Lks r.2.1]):=by
 unfold Lhv at h
 refine Kix (Fr.of 0 _) Tryz.func94 E (Fr.of_ok _) Z fun _=>Kcg<|gA 2 E<|Kqc E E E E Z<|bK h fun y1 hy1 h2=>gO 7 E<|Kdo [] (.ptr 6 0) (bg al::.box 29 (fD d)::oH y1 2 3 4 5 []) C (Liy hy1) E Z E E E E E E E E E E<|gO 5 E<|Kdm (t:=0) 48 2 E Z<|gO 10 E<|bK h2 fun q6 hq6 h7=>Kcx 15 E fun hb9=>bK h7 fun q10 hq10 h11=>Kgn [(8,.ptr 6 0),(9,.sl 7 q10.2.2.2.2.2.2.2.2.2.length)] [bg q10.1,.box 29 (fD d),mObH q10.2.1,mObH q10.2.2.1,mObB q10.2.2.2.1,mObV q10.2.2.2.2.1,.box 220 [.d (Sl eS q10.2.2.2.2.2.1),.d (Sl Lki q10.2.2.2.2.2.2.1),I q10.2.2.2.2.2.2.2.1,B q10.2.2.2.2.2.2.2.2.1,.map 2,.map 3,.map 4,.map 5],rO 48 2 Lks q10.2.2.2.2.2.2.2.2.2] ?_ ?_
 ·refine gA 1 E<|Kcw l hq6 (fun i3 s4=>[(2,I v_at),(8,.ptr 6 0),(9,.sl 7 s4.2.2.2.2.2.2.2.2.2.length),(15,.d (Sl Lkk l)),(16,I (l.length:Int)),(17,I (i3:Int))]) (fun s4=>[bg s4.1,.box 29 (fD d),mObH s4.2.1,mObH s4.2.2.1,mObB s4.2.2.2.1,mObV s4.2.2.2.2.1,.box 220 [.d (Sl eS s4.2.2.2.2.2.1),.d (Sl Lki s4.2.2.2.2.2.2.1),I s4.2.2.2.2.2.2.2.1,B s4.2.2.2.2.2.2.2.2.1,.map 2,.map 3,.map 4,.map 5],rO 48 2 Lks s4.2.2.2.2.2.2.2.2.2]) ⟨⟨E,E,E,E,E,E,tV⟩,[],E,.inl E⟩ (fun i3 x5 s4 y15 hx12 hlt hy13 hout14=>?_) (fun s4 hgo=>?_)
  ·refine gA 6 E<|Kci E (decide_eq_true (Int.ofNat_lt.2 hlt))<|gA 7 E<|eo_o E (Kcy hΓ (enc:=Lkk) (Kcr hx12) E E E E E (fun _=>E))<|gO 1 E<|Kqb hΓ E E E Z<|gO 1 E<|Kqg hΓ E E E E E E E E Z<|Kdx [bg s4.1,.box 29 (fD d),mObH s4.2.1,mObH s4.2.2.1,mObB s4.2.2.2.1,mObV s4.2.2.2.2.1,.box 220 [.d (Sl eS s4.2.2.2.2.2.1),.d (Sl Lki s4.2.2.2.2.2.2.1),I s4.2.2.2.2.2.2.2.1,B s4.2.2.2.2.2.2.2.2.1,.map 2,.map 3,.map 4,.map 5],rO 48 2 Lks s4.2.2.2.2.2.2.2.2.2,.box 37 (fS x5)] E<|gO 11 E<|jC E hy13 (fun h16=>?_) fun h17=>bK h17 fun y18 hy18 h19=>gA 6 E<|Kdo [2,3,4,5,6,0] (I y18.1) (bg y18.2.2::.box 29 (fD d)::oH y18.2.1 2 3 4 5 [rO 48 2 Lks s4.2.2.2.2.2.2.2.2.2,.box 37 (fS x5)]) C (Ljj hy18) E Z E E E E E E E E E E<|gO 9 E<|jC E h19 (fun h20=>?_) fun h23=>?_
   ·refine gA 6 E ?_
    cases h16
    obtain rfl:=hout14 _ rfl
    exact oSi hq10▸⟨⟨E,E,tV⟩,[_],E,.inr ⟨HB.mk E,FB.mk E,Z⟩⟩
   ·refine gA 4 E<|Kam hΓ (gs:=[I (i3:Int),I y18.1]) E E E E E E E<|Kdj hΓ (enc:=Lks) [(⟨(i3:Int),y18.1⟩:Ldr)] E E E E E E E E E E E E Z<|bK h20 fun y21 hy21 h22=>Kdy hΓ (enc:=Lks) hy21 E E E E E E E E E (fun _=>E) E E E E<|gO 8 E ?_
    cases h22
    exact⟨_,E,⟨⟨E,E,E,E,E,Kbp E (Kbo (nLl hlt hb9)),tV⟩,[_],E,.inr ⟨HB.mk E,FB.mk E,Z⟩⟩⟩
   refine gA 7 E ?_
   cases h23
   exact⟨_,E,⟨⟨E,E,E,E,E,Kbp E (Kbo (nLl hlt hb9)),tV⟩,[_],E,.inr ⟨HB.mk E,FB.mk E,Z⟩⟩⟩
  subst hgo
  exact gA 6 E<|Kcj E (decide_eq_false (Int.lt_irrefl _))<|gA 4 E<|oSi hq10▸⟨⟨E,E,tV⟩,[],E,.inl E⟩
 exact gA 10 E<|Kis 1 [bg q10.1,.dead,mObH q10.2.1,mObH q10.2.2.1,mObB q10.2.2.2.1,mObV q10.2.2.2.2.1,.box 220 [.d (Sl eS q10.2.2.2.2.2.1),.d (Sl Lki q10.2.2.2.2.2.2.1),I q10.2.2.2.2.2.2.2.1,B q10.2.2.2.2.2.2.2.2.1,.map 2,.map 3,.map 4,.map 5],rO 48 2 Lks q10.2.2.2.2.2.2.2.2.2] E Z<|Kgl 2 1 [bg q10.1,mObH q10.2.1,.dead,mObH q10.2.2.1,mObB q10.2.2.2.1,mObV q10.2.2.2.2.1,.box 220 [.d (Sl eS q10.2.2.2.2.2.1),.d (Sl Lki q10.2.2.2.2.2.2.1),I q10.2.2.2.2.2.2.2.1,B q10.2.2.2.2.2.2.2.2.1,.map 1,.map 3,.map 4,.map 5],rO 48 2 Lks q10.2.2.2.2.2.2.2.2.2] E E E E E E<|Kgl 3 2 [bg q10.1,mObH q10.2.1,mObH q10.2.2.1,.dead,mObB q10.2.2.2.1,mObV q10.2.2.2.2.1,.box 220 [.d (Sl eS q10.2.2.2.2.2.1),.d (Sl Lki q10.2.2.2.2.2.2.1),I q10.2.2.2.2.2.2.2.1,B q10.2.2.2.2.2.2.2.2.1,.map 1,.map 2,.map 4,.map 5],rO 48 2 Lks q10.2.2.2.2.2.2.2.2.2] E E E E E E<|Kgl 4 3 [bg q10.1,mObH q10.2.1,mObH q10.2.2.1,mObB q10.2.2.2.1,.dead,mObV q10.2.2.2.2.1,.box 220 [.d (Sl eS q10.2.2.2.2.2.1),.d (Sl Lki q10.2.2.2.2.2.2.1),I q10.2.2.2.2.2.2.2.1,B q10.2.2.2.2.2.2.2.2.1,.map 1,.map 2,.map 3,.map 5],rO 48 2 Lks q10.2.2.2.2.2.2.2.2.2] E E E E E E<|Kgl 5 4 [bg q10.1,mObH q10.2.1,mObH q10.2.2.1,mObB q10.2.2.2.1,mObV q10.2.2.2.2.1,.dead,.box 220 [.d (Sl eS q10.2.2.2.2.2.1),.d (Sl Lki q10.2.2.2.2.2.2.1),I q10.2.2.2.2.2.2.2.1,B q10.2.2.2.2.2.2.2.2.1,.map 1,.map 2,.map 3,.map 4],rO 48 2 Lks q10.2.2.2.2.2.2.2.2.2] E E E E E E<|Kgl 6 5 [bg q10.1,mObH q10.2.1,mObH q10.2.2.1,mObB q10.2.2.2.1,mObV q10.2.2.2.2.1,.box 220 [.d (Sl eS q10.2.2.2.2.2.1),.d (Sl Lki q10.2.2.2.2.2.2.1),I q10.2.2.2.2.2.2.2.1,B q10.2.2.2.2.2.2.2.2.1,.map 1,.map 2,.map 3,.map 4],.dead,rO 48 2 Lks q10.2.2.2.2.2.2.2.2.2] E E E E E E<|Kgl 7 6 [bg q10.1,mObH q10.2.1,mObH q10.2.2.1,mObB q10.2.2.2.1,mObV q10.2.2.2.2.1,.box 220 [.d (Sl eS q10.2.2.2.2.2.1),.d (Sl Lki q10.2.2.2.2.2.2.1),I q10.2.2.2.2.2.2.2.1,B q10.2.2.2.2.2.2.2.2.1,.map 1,.map 2,.map 3,.map 4],rO 48 2 Lks q10.2.2.2.2.2.2.2.2.2,.dead] E E E E E E<|Kgj<|oSi h11▸Kec hΓ [_] (.inr E) E E E E (.inr ⟨HB.mk E,E⟩)
theorem Ljl{s:List Ldk}{r:List Ldk}(h:Lhw s=some r):EC Tryz.prog 156 [.d (Sl Lkn s)] [] fun g hp'=>g=.sl 0 r.length∧hp'=[rO 107 3 Lkn r]:=by
 unfold Lhw at h
 refine Kix (Fr.of 0 _) Tryz.func156 E (Fr.of_ok _) Z fun _=>Kcg<|gA 2 E<|Kdm (t:=0) 107 3 E Z<|gO 6 E<|Kby hΓ E E E E E fun b hbn=>?_
 rcases b with _ | _
 ·exact gO 7 E<|Kdl hΓ (enc:=Lkn) ([]:List Ldk) E E E E E E E E E E E E Z<|bK h fun y1 hy1 h2=>gO 1 E<|Kdy hΓ (enc:=Lkn) hy1 E E E E E E E E E (fun _=>E) E E E E<|gO 3 E<|Kiv 0 [.dead,rO 107 3 Lkn y1] E Z<|Kfh 1 0 [rO 107 3 Lkn y1,.dead] E E E E E E<|gA 1 E<|Kgj<|oSi h2▸Kec hΓ [_] (.inr E) E E E E (.inr ⟨HB.mk E,E⟩)
 obtain rfl:=List.eq_nil_of_length_eq_zero (hbn rfl).1
 replace h:(some ([]:List Ldk):Option (List Ldk))=some r:=h
 exact gO 5 E<|Kdm (t:=0) 107 3 E Z<|gO 4 E<|Kis 0 [.dead,rO 107 3 Lkn ([]:List Ldk)] E Z<|Kgl 1 0 [rO 107 3 Lkn ([]:List Ldk),.dead] E E E E E E<|Kgj<|oSi h▸Kec hΓ [_] (.inr E) E E E E (.inr ⟨HB.mk E,E⟩)
theorem Ljm{x:Ldk}{r:Bool}(h:Lhx x=some r):Pure Tryz.prog 157 [.agg [S x.Public,I x.From,I x.To]] (B r):=by
 unfold Lhx at h
 exact Pure.enter (Fr.of 0 _) Tryz.func157 E (Fr.of_ok _) E E<|Kcg<|gA 2 E<|Kqc E E E E Z<|gO 14 E<|oSi h▸gP E E
theorem Ljn{s:List Ldk}{r:Int}(h:Lhy s=some r):Pure Tryz.prog 245 [.d (Sl Lkn s),.fn (.func 157) [] []] (I r):=by
 unfold Lhy at h
 refine Pure.enter (Fr.of 0 _) Tryz.func245 E (Fr.of_ok _) E E<|Kcg<|gA 13 E<|bK h fun q4 hq4 h5=>Kcx 0 E fun hb7=>Kgm (R:=fun a6=>q4=.go a6) (fun a6=>[]) (fun a6=>[]) ?_ ?_
 ·refine gA 1 E<|Kcw s hq4 (fun i1 s2=>[(0,.d (Sl Lkn s)),(1,.fn (.func 157) [] []),(7,I (s.length:Int)),(8,I (i1:Int))]) (fun s2=>[]) ⟨⟨E,E,E,E,tV⟩,[],E,.inl E⟩ (fun i1 x3 s2 y11 hx8 hlt hy9 hout10=>?_) (fun s2 hgo=>?_)
  ·refine gA 6 E<|Kci E (decide_eq_true (Int.ofNat_lt.2 hlt))<|gA 15 E<|eo_o E (Kcy hΓ (enc:=Lkn) (Kcr hx8) E E E E E (fun _=>E))<|bK hy9 fun y12 hy12 h13=>gO 1 E<|Kdp C (Ljm hy12) E Z E E E E E<|gO 2 E<|jC E h13 (fun h14=>?_) fun h17=>gA 7 E ?_
   ·refine gA 9 E<|bK h14 fun v15 hv15 h16=>?_
    cases h16
    obtain rfl:=hout10 _ rfl
    cases h5
    exact gA 4 E<|oSi hv15▸gP E E
   cases h17
   exact⟨_,E,⟨⟨E,E,E,Kbp E (Kbo (nLl hlt hb7)),tV⟩,[],E,.inl E⟩⟩
  subst hgo
  exact gA 6 E<|Kcj E (decide_eq_false (Int.lt_irrefl _))<|gA 4 E<|⟨_,E,⟨tV,[],E,.inl E⟩⟩
 intro a6 ha
 subst ha
 replace h5:=Kgh h5
 exact gA 7 E<|oSi h5▸gP E E
theorem Ljo{k:Nat}{s:List Ldk}{r:List Ldk}(h:Lhz k s=some r):EC Tryz.prog 155 [.sl 0 s.length,.fn (.func 157) [] []] [rO 107 3 Lkn s] fun g hp'=>g=.sl 0 r.length∧hp'=[rO 107 3 Lkn r]:=by
 unfold Lhz at h
 refine Kon (Fr.of 0 _) Tryz.func155 E (Fr.of_ok _) Z fun _=>Kcg<|bK h fun y1 hy1 h2=>gA 9 E<|Kds C (Ljn hy1) E Z E E E E E<|gO 10 E<|jC E h2 (fun h3=>?_) fun h4=>gA 10 E<|bK h4 fun q8 hq8 h9=>Kgn [(0,.sl 0 q8.1.length),(5,I q8.2)] [rO 107 3 Lkn q8.1] ?_ ?_
 ·exact gA 8 E<|oSi h3▸Kec hΓ [] (.inr E) E E E E (.inl E)
 ·refine gA 1 E<|Kcu hq8 (fun s6=>[(0,.sl 0 s6.1.length),(1,.fn (.func 157) [] []),(5,I s6.2.1),(6,I s6.2.2)]) (fun s6=>[rO 107 3 Lkn s6.1]) ⟨⟨E,E,E,E,tV⟩,[],E,.inl E⟩ (fun s6 y14 hy12 hout13=>?_)
  refine gA 9 E<|jC E hy12 (fun h15=>?_) fun h26=>gA 4 E ?_
  ·refine bK h15 fun x16 hx16 h17=>?_
   have hj18:=Keg hx16
   refine gA 8 E<|eo_o E (Kda hΓ hx16 E E E E E E)<|eo_o E (Kdg hΓ (enc:=Lkn) s6.2.2.toNat 0 hj18 E E E E (fun _=>E) (g:=.agg [S x16.Public,I x16.From,I x16.To]) E)<|Kqb hΓ E E E Z<|Kqg hΓ E E E E E E E E Z<|Kdx [rO 107 3 Lkn s6.1,.box 107 [S x16.Public,I x16.From,I x16.To]] E<|bK h17 fun y19 hy19 h20=>gO 6 E<|Kdp C (Ljm hy19) E Z E E E E E<|gO 3 E<|jC E h20 (fun h21=>?_) fun h25=>gA 8 E<|oSi h25▸⟨_,E,⟨⟨E,E,E,E,tV⟩,[_],E,.inr ⟨HB.mk E,FB.mk E,Z⟩⟩⟩
   refine bK h21 fun x22 hx22 h23=>?_
   have hj24:=Keg hx22
   exact gA 5 E<|eo_o E (Kda hΓ hx22 E E E E E E)<|Kdi hΓ (enc:=Lkn) (z':=x16) s6.2.1.toNat 0 hj24 E E E E (fun _=>E) E E E E E E Z<|Kdx [rO 107 3 Lkn (s6.1.set s6.2.1.toNat x16),.box 107 [S x16.Public,I x16.From,I x16.To]] E<|Kgx 0 (n':=(s6.1.set s6.2.1.toNat x16).length) E List.length_set.symm<|gO 14 E<|oSi h23▸⟨_,E,⟨⟨E,E,E,E,tV⟩,[_],E,.inr ⟨HB.mk E,FB.mk E,Z⟩⟩⟩
  cases h26
  obtain rfl:=hout13 _ rfl
  exact⟨⟨E,E,tV⟩,[],E,.inl E⟩
 exact bK h9 fun z27 hz27 h28=>gA 5 E<|eo_o E (Kgv hΓ hz27 E E E E E E)<|Kgs Z (Kgu hΓ (enc:=Lkn) (a:=q8.2) hz27 E E E E E E E E E E (fun _=>E))<|gO 6 E<|Kgw hΓ hz27 E E E E E E E E<|gO 4 E<|oSi h28▸Kec hΓ [] (.inr E) E E E E (.inl E)
theorem Ljp{k:Nat}{d:Ldg}{l:List Ldh}{node:Str}{al:BagT}{r:(List Ldk)×BagT}(h:Lia k d l node al=some r):EC Tryz.prog 63 [.agg (fD d),.d (Sl Lkk l),S node] [bg al] fun g hp'=>g=.sl 1 r.1.length∧hp'=[bg r.2,rO 107 3 Lkn r.1]:=by
 unfold Lia at h
 exact Kix (Fr.of 0 _) Tryz.func63 E (Fr.of_ok _) Z fun _=>Kcg<|gA 2 E<|Kqc E E E E Z<|bK h fun y1 hy1 h2=>gO 7 E<|Kdo [0] (.tup [.ptr 6 0,.sl 7 y1.2.1.length]) (bg y1.2.2::.box 29 (fD d)::oH y1.1 2 3 4 5 [rO 48 2 Lks y1.2.1]) C (Ljk hy1) E Z E E E E E E E E E E<|Kdv 7 [12] _ (bg y1.2.2::.box 29 (fD d)::oH y1.1 2 3 4 5 [.dead]) E E E Z<|gO 14 E<|eo_o E (Kkp hΓ (kv:=kS) (agg:=false) (enc:=(eV 107 3)) y1.1.History node ((0,0):Vl) E E E E Khm E E E (Kmj E) E)<|bK h2 fun z3 hz3 h4=>Kmz (enc:=Lkn) (bg:=0) (fun l=>arX y1.2.2.2.1 l y1.2.2.2.2.2.1 y1.2.2.2.2.2.2.1 y1.2.2.2.2.2.2.2) hz3 (Kms _ (Kmr _ Kmq)) 20 (.bag z3.2.1 (arX y1.2.2.2.1 z3.2.2 y1.2.2.2.2.2.1 y1.2.2.2.2.2.2.1 y1.2.2.2.2.2.2.2) []::.box 29 (fD d)::oH y1.1 2 3 4 5 [.dead]) E E E Z<|bK h4 fun y5 hy5 h6=>Kdo [] (.sl 8 y5.length) (.bag z3.2.1 (arX y1.2.2.2.1 z3.2.2 y1.2.2.2.2.2.1 y1.2.2.2.2.2.2.1 y1.2.2.2.2.2.2.2) []::.box 29 (fD d)::oH y1.1 2 3 4 5 [.dead,rO 107 3 Lkn y5]) C (Ljl hy5) E Z E E E E E E E E E E<|bK h6 fun y7 hy7 h8=>Kdo [8] (.sl 8 y7.length) (.bag z3.2.1 (arX y1.2.2.2.1 z3.2.2 y1.2.2.2.2.2.1 y1.2.2.2.2.2.2.1 y1.2.2.2.2.2.2.2) []::.box 29 (fD d)::oH y1.1 2 3 4 5 [.dead,rO 107 3 Lkn y7]) C (Ljo hy7) E Z E E E E E E E E E E<|gO 4 E<|Kis 1 (.bag z3.2.1 (arX y1.2.2.2.1 z3.2.2 y1.2.2.2.2.2.1 y1.2.2.2.2.2.2.1 y1.2.2.2.2.2.2.2) []::.dead::oH y1.1 2 3 4 5 [.dead,rO 107 3 Lkn y7]) E Z<|Kgl 8 1 (.bag z3.2.1 (arX y1.2.2.2.1 z3.2.2 y1.2.2.2.2.2.1 y1.2.2.2.2.2.2.1 y1.2.2.2.2.2.2.2) []::rO 107 3 Lkn y7::oH y1.1 2 3 4 5 [.dead,.dead]) E E E E E E<|Kgj<|oSi h8▸Kec hΓ [_,_,_,_,_,_,_] (.inr E) E E E E (.inr ⟨HB.mk E,E⟩)
theorem Ljq{s1:List Ldk}{s2:List Ldk}{r:Bool}(h:Lic s1 s2=some r):Pure Tryz.prog 62 [.d (Sl Lkn s1),.d (Sl Lkn s2)] (B r):=by
 unfold Lic at h
 refine Pure.enter (Fr.of 0 _) Tryz.func62 E (Fr.of_ok _) E E<|Kcg<|gA 15 E<|jC E h (fun h1=>?_) fun h2=>gA 10 E<|bK h2 fun q6 hq6 h7=>Kcx 0 E fun hb9=>Kgm (R:=fun a8=>q6=.go a8) (fun a8=>[]) (fun a8=>[]) ?_ ?_
 ·exact gA 7 E<|oSi h1▸gP E E
 ·refine gA 1 E<|Kcw s1 hq6 (fun i3 s4=>[(0,.d (Sl Lkn s1)),(1,.d (Sl Lkn s2)),(12,I (s1.length:Int)),(13,I (i3:Int))]) (fun s4=>[]) ⟨⟨E,E,E,E,tV⟩,[],E,.inl E⟩ (fun i3 x5 s4 y13 hx10 hlt hy11 hout12=>?_) (fun s4 hgo=>?_)
  ·refine gA 6 E<|Kci E (decide_eq_true (Int.ofNat_lt.2 hlt))<|gA 11 E<|Kck hmix (by kernel_rfl)<|gA 2 E<|gl_o E (Kcy hΓ (enc:=Lkn) (Kcr hx10) E E E E E (fun _=>E))<|bK hy11 fun x14 hx14 h15=>Kcf hΓ 3 E<|gl_o E (Kcy hΓ (enc:=Lkn) hx14 E E E E E (fun _=>E))<|Kcf hΓ 1 E<|gl_o E (Kel hΓ [107] (b:=(((x5.Public:Str)==x14.Public)&&(((x5.From:Int)==x14.From)&&(((x5.To:Int)==x14.To)&&true)))) (by kernel_rfl) (by kernel_rfl) E E E)<|Kcf hΓ 2 E<|jC E h15 (fun h16=>?_) fun h19=>gA 7 E ?_
   ·refine gA 8 E<|bK h16 fun v17 hv17 h18=>?_
    cases h18
    obtain rfl:=hout12 _ rfl
    cases h7
    exact gA 4 E<|oSi hv17▸gP E E
   cases h19
   exact⟨_,E,⟨⟨E,E,E,Kbp E (Kbo (nLl hlt hb9)),tV⟩,[],E,.inl E⟩⟩
  subst hgo
  exact gA 6 E<|Kcj E (decide_eq_false (Int.lt_irrefl _))<|gA 4 E<|⟨_,E,⟨tV,[],E,.inl E⟩⟩
 intro a8 ha
 subst ha
 replace h7:=Kgh h7
 exact gA 7 E<|oSi h7▸gP E E
theorem Ljr{x:Int}{r:Int}(h:Lid x=some r):Pure Tryz.prog 294 [U x] (I r):=by
 unfold Lid at h
 refine Pure.enter (Fr.of 0 _) Tryz.func294 E (Fr.of_ok _) E E<|Kcg<|bK h fun q1 hq1 h2=>gA 12 E<|Kgn [(0,U q1.1),(2,I q1.2)] [] ?_ ?_
 ·refine jC E hq1 (fun h3=>?_) fun h4=>gA 1 E<|oSi h4▸⟨⟨E,E,tV⟩,[],E,.inl E⟩
  exact gA 10 E<|oSi h3▸⟨⟨E,E,tV⟩,[],E,.inl E⟩
 refine bK h2 fun q5 hq5 h6=>gA 8 E<|Kgn [(0,U q5.1),(2,I q5.2)] [] ?_ ?_
 ·refine jC E hq5 (fun h7=>?_) fun h8=>gA 1 E<|oSi h8▸⟨⟨E,E,tV⟩,[],E,.inl E⟩
  exact gA 12 E<|oSi h7▸⟨⟨E,E,tV⟩,[],E,.inl E⟩
 refine bK h6 fun q9 hq9 h10=>gA 8 E<|Kgn [(0,U q9.1),(2,I q9.2)] [] ?_ ?_
 ·refine jC E hq9 (fun h11=>?_) fun h12=>gA 1 E<|oSi h12▸⟨⟨E,E,tV⟩,[],E,.inl E⟩
  exact gA 12 E<|oSi h11▸⟨⟨E,E,tV⟩,[],E,.inl E⟩
 exact bK h10 fun c13 hc13 h14=>gA 6 E<|eo_o E (Kcz hΓ hc13 E E E E)<|gO 6 E<|oSi h14▸gP E E
theorem Ljs{x:Int}{r:Int}(h:Lie x=some r):Pure Tryz.prog 215 [U x] (I r):=by
 unfold Lie at h
 exact Pure.enter (Fr.of 0 _) Tryz.func215 E (Fr.of_ok _) E E<|Kcg<|gA 6 E<|Kib<|bK h fun y1 hy1 h2=>gA 5 E<|Kdp C (Ljr hy1) E Z E E E E E<|gO 4 E<|oSi h2▸gP E E
theorem Ljt{a:Ldl}{b:Ldl}{r:Int}(h:Lif a b=some r):Pure Tryz.prog 146 [.agg (fM a),.agg (fM b)] (I r):=by
 unfold Lif at h
 exact Pure.enter (Fr.of 0 _) Tryz.func146 E (Fr.of_ok _) E E<|Kcg<|gA 2 E<|Kqc E E E E Z<|Kqc E E E E Z<|bK h fun y1 hy1 h2=>gO 9 E<|Kdp C (Lcv hy1) E Z E E E E E<|gO 4 E<|oSi h2▸gP E E
theorem Lju{k:Nat}{data:List Ldl}{a:Int}{b:Int}{r:List Ldl}(h:Lig k data a b=some r):EC Tryz.prog 308 [.sl 0 data.length,I a,I b,.fn (.func 146) [] []] [rO 77 8 Lko data] fun g hp'=>g=.tup []∧hp'=[rO 77 8 Lko r]:=by
 unfold Lig at h
 refine Kon (Fr.of 0 _) Tryz.func308 E (Fr.of_ok _) Z fun _=>Kcg<|gA 7 E<|bK h fun q4 hq4 h5=>Kgn [] [rO 77 8 Lko q4] ?_ ?_
 ·refine gA 1 E<|Kcu hq4 (fun s2=>[(0,.sl 0 s2.1.length),(1,I a),(2,I b),(3,.fn (.func 146) [] []),(8,I s2.2)]) (fun s2=>[rO 77 8 Lko s2.1]) ⟨⟨E,E,E,E,E,tV⟩,[],E,.inl E⟩ (fun s2 y10 hy8 hout9=>?_)
  refine gA 8 E<|jC E hy8 (fun h11=>?_) fun h51=>gA 4 E ?_
  ·refine gA 10 E<|bK h11 fun q15 hq15 h16=>Kgn [(0,.sl 0 q15.length),(1,I a),(2,I b),(3,.fn (.func 146) [] []),(8,I s2.2)] [rO 77 8 Lko q15] ?_ ?_
   ·refine gA 1 E<|Kcu hq15 (fun s13=>[(0,.sl 0 s13.1.length),(1,I a),(2,I b),(3,.fn (.func 146) [] []),(8,I s2.2),(9,I s13.2)]) (fun s13=>[rO 77 8 Lko s13.1]) ⟨⟨E,E,E,E,E,E,tV⟩,[],E,.inl E⟩ (fun s13 y21 hy19 hout20=>?_)
    refine bK hy19 fun q22 hq22 h23=>gA 2 E<|Kgn [(0,.sl 0 s13.1.length),(1,I a),(2,I b),(3,.fn (.func 146) [] []),(8,I s2.2),(9,I s13.2),(34,B q22)] [rO 77 8 Lko s13.1] ?_ ?_
    ·refine Kck hmix (by kernel_rfl)<|gA 4 E<|Kaw E E (fun hb=>?_) (fun hb=>?_)
     ·have h24:=cT hq22 hb
      refine bK h24 fun x25 hx25 h26=>?_
      have hj27:=Keg hx25
      refine Kcf hΓ 3 E<|Kbr E E (Kda hΓ hx25 E E E E E E)<|Kbr E E (Kdg hΓ (enc:=Lko) s13.2.toNat 0 hj27 E E E E (fun _=>E) (g:=.agg (fM x25)) E)<|bK h26 fun x28 hx28 h29=>?_
      have hj30:=Keg hx28
      exact Kcf hΓ 3 E<|Kbr E E (Kda hΓ hx28 E E E E E E)<|Kbr E E (Kdg hΓ (enc:=Lko) ((wi (s13.2 - 1)).toNat) 0 hj30 E E E E (fun _=>E) (g:=.agg (fM x28)) E)<|bK h29 fun y31 hy31 h32=>Kdr C (Ljt hy31) E E E E E E E<|Kcf hΓ 3 E<|oSi h32▸⟨⟨E,E,E,E,E,E,E,tV⟩,[],E,.inl E⟩
     have h33:=cF hq22 hb
     exact Kcf hΓ 14 E<|oSi h33▸⟨⟨E,E,E,E,E,E,E,tV⟩,[],E,.inl E⟩
    refine gA 1 E<|jC E h23 (fun h34=>?_) fun h50=>gA 4 E ?_
    ·refine gA 4 E<|Kfn [rO 77 8 Lko s13.1] [9,13] [15,17] [15,17] hmix (by kernel_rfl) (by kernel_rfl) ⟨E,tV⟩ Z<|bK h34 fun x35 hx35 h36=>?_
     have hj37:=Keg hx35
     refine go_E hΓ 8 E<|ge_q E (.inl E) (fun _ _=>Kfq (qt_p (Kda hΓ hx35 E E E E E E)))<|ge_p E (fun hp hs=>Kdg hΓ (enc:=Lko) ((wi (s13.2 - 1)).toNat) 0 hj37 E E E (hs 0 _ E E) (fun _=>E) (g:=.agg (fM x35)) E) E<|bK h36 fun x38 hx38 h39=>?_
     have hj40:=Keg hx38
     refine go_E hΓ 2 E<|ge_q E (.inl E) (fun _ _=>Kfq (qt_p (Kda hΓ hx38 E E E E E E)))<|ge_p E (fun hp hs=>Kdg hΓ (enc:=Lko) s13.2.toNat 0 hj40 E E E (hs 0 _ E E) (fun _=>E) (g:=.agg (fM x38)) E) E<|bK h39 fun x41 hx41 h42=>?_
     have hj43:=Keg hx41
     refine ge_q E (.inl E) (fun _ _=>Kfq (qt_p (Kda hΓ hx41 E E E E E E)))<|Kfs [rO 77 8 Lko (s13.1.set s13.2.toNat x35)] E E (Kft E) (Kfy (Kha hΓ (enc:=Lko) (z':=x35) s13.2.toNat (by have:=(gEs.1 hj43).1;simpa using this) E E E E (fun _=>E) E E E E E)) ?_
     refine bK h42 fun x44 hx44 h45=>?_
     have hj46:=Keg hx44
     refine ge_q E (.inl E) (fun _ _=>Kfq (qt_p (Kda hΓ hx44 E E E E E E)))<|bK h45 fun x47 hx47 h48=>?_
     have hj49:(s13.1.set s13.2.toNat x35)[(wi (s13.2 - 1)).toNat]?=some x47:=hx47
     refine Kfs [rO 77 8 Lko ((s13.1.set s13.2.toNat x35).set ((wi (s13.2 - 1)).toNat) x38)] E E (Kft E) (Kfy (Kha hΓ (enc:=Lko) (z':=x38) ((wi (s13.2 - 1)).toNat) (by have:=(gEs.1 hj49).1;simpa using this) E E E E (fun _=>E) E E E E E)) ?_
     refine Kfp<|gA 2 E<|Khb 0 (n':=((s13.1.set s13.2.toNat x35).set ((wi (s13.2 - 1)).toNat) x38).length) E (by simp) ?_
     refine Khb 37 (n':=((s13.1.set s13.2.toNat x35).set ((wi (s13.2 - 1)).toNat) x38).length) E (by simp) ?_
     refine Khb 39 (n':=((s13.1.set s13.2.toNat x35).set ((wi (s13.2 - 1)).toNat) x38).length) E (by simp) ?_
     refine Khb 42 (n':=((s13.1.set s13.2.toNat x35).set ((wi (s13.2 - 1)).toNat) x38).length) E (by simp) ?_
     refine Khb 47 (n':=((s13.1.set s13.2.toNat x35).set ((wi (s13.2 - 1)).toNat) x38).length) E (by simp) ?_
     exact gA 5 E<|oSi h48▸⟨_,E,⟨⟨E,E,E,E,E,E,tV⟩,[],E,.inl E⟩⟩
    cases h50
    obtain rfl:=hout20 _ rfl
    exact⟨⟨E,E,E,E,E,tV⟩,[],E,.inl E⟩
   exact gA 7 E<|oSi h16▸⟨_,E,⟨⟨E,E,E,E,E,tV⟩,[],E,.inl E⟩⟩
  cases h51
  obtain rfl:=hout9 _ rfl
  exact⟨tV,[],E,.inl E⟩
 exact oSi h5▸Kec hΓ [] (.inl E) E E E E (.inl E)
theorem Ljv{k:Nat}{data:List Ldl}{a:Int}{b:Int}{limit:Int}{r:List Ldl}(h:Lih k data a b limit=some r):EC Tryz.prog 234 [.sl 0 data.length,I a,I b,I limit,.fn (.func 146) [] []] [rO 77 8 Lko data] fun g hp'=>g=.tup []∧hp'=[rO 77 8 Lko r]:=by
 unfold Lih at h
 refine Kon (Fr.of 0 _) Tryz.func234 E (Fr.of_ok _) Z fun _=>Kcg<|gA 10 E<|bK h fun q4 hq4 h5=>gA 1 E<|Kcu hq4 (fun s2=>[(0,.sl 0 data.length),(1,I a),(2,I b),(3,I limit),(4,.fn (.func 146) [] []),(10,B true),(11,B true)]) (fun s2=>[rO 77 8 Lko data]) ⟨⟨E,E,E,E,E,E,E,tV⟩,[],E,.inl E⟩ (fun s2 y10 hy8 hout9=>?_)
 refine gA 16 E<|jC E hy8 (fun h11=>?_) fun h16=>gA 9 E<|jC E h16 (fun h17=>?_) fun h18=>?_
 ·refine bK h11 fun y12 hy12 h13=>gA 6 E<|Kdo [0] (.tup []) [rO 77 8 Lko y12] C (Lju hy12) E Z E E E E E E E E E E<|gO 5 E<|bK h13 fun v14 hv14 h15=>?_
  cases h15
  obtain rfl:=hout9 _ rfl
  cases h5
  exact gA 2 E<|oSi hv14▸Kec hΓ [] (.inr E) E E E E (.inl E)
 ·refine gA 6 E ?_
  cases h17
 refine gA 18 E ?_
 cases h18
theorem Ljw{k:Nat}{x:List Ldl}{r:List Ldl}(h:Lii k x=some r):EC Tryz.prog 145 [.sl 0 x.length,.fn (.func 146) [] []] [rO 77 8 Lko x] fun g hp'=>g=.tup []∧hp'=[rO 77 8 Lko r]:=by
 unfold Lii at h
 exact Kon (Fr.of 0 _) Tryz.func145 E (Fr.of_ok _) Z fun _=>Kcg<|bK h fun y1 hy1 h2=>gA 12 E<|Kdp C (Ljs hy1) E Z E E E E E<|bK h2 fun y3 hy3 h4=>gO 1 E<|Kdo [0] (.tup []) [rO 77 8 Lko y3] C (Ljv hy3) E Z E E E E E E E E E E<|gO 1 E<|oSi h4▸Kec hΓ [] (.inl E) E E E E (.inl E)
theorem Ljx{k:Nat}{d:Ldg}{l:List Ldh}{v_at:Int}{al:BagT}{r:(List Ldl)×BagT}(h:Lij k d l v_at al=some r):EC Tryz.prog 49 [.agg (fD d),.d (Sl Lkk l),I v_at] [bg al] fun g hp'=>g=.sl 1 r.1.length∧hp'=[bg r.2,rO 77 8 Lko r.1]:=by
 unfold Lij at h
 refine Kix (Fr.of 0 _) Tryz.func49 E (Fr.of_ok _) Z fun _=>Kcg<|gA 2 E<|Kqc E E E E Z<|bK h fun y1 hy1 h2=>gO 8 E<|Kdo [0] (.tup [.ptr 6 0,.sl 7 y1.2.1.length]) (bg y1.2.2::.box 29 (fD d)::oH y1.1 2 3 4 5 [rO 48 2 Lks y1.2.1]) C (Ljk hy1) E Z E E E E E E E E E E<|Kdv 7 [16] _ (bg y1.2.2::.box 29 (fD d)::oH y1.1 2 3 4 5 [.dead]) E E E Z<|gO 9 E<|Kdm (t:=0) 77 8 E Z<|gO 9 E<|Kil hΓ (kv:=kS) (agg:=false) (enc:=(eH (some 0))) y1.1.nodes E E E E E Z (fun mr3 bs4 cl5 hpm6 hbl7 hbn8=>?_)
 refine Kdx [bg y1.2.2,.box 29 (fD d),mObH y1.1.keys,mObS kS false (eH (some 0)) y1.1.nodes (rawM kS (eH (some 0)) mr3 bs4 cl5),mObB y1.1.ever,mObV y1.1.History,bH y1.1 2 3 4 5,.dead,rO 77 8 Lko ([]:List Ldl),.iter 3 cl5 []] E<|gO 2 E<|gA 1 E<|Kkv (Knj h2) hpm6 hbl7 hbn8 (fun s9=>[(9,.sl 8 s9.length),(23,.ptr 9 0)]) (fun sn11 s9=>[bg y1.2.2,.box 29 (fD d),mObH y1.1.keys,mObS kS false (eH (some 0)) y1.1.nodes (rawM kS (eH (some 0)) mr3 bs4 cl5),mObB y1.1.ever,mObV y1.1.History,bH y1.1 2 3 4 5,.dead,rO 77 8 Lko s9,.iter 3 cl5 sn11]) ⟨⟨E,E,tV⟩,[],E,.inl E⟩ (fun sn11 s9 hdone14 hstep15=>?_)
 refine gA 2 E<|Kim (kv:=kS) (agg:=false) (enc:=(eH (some 0))) y1.1.nodes mr3 bs4 cl5 sn11 (bg y1.2.2::.box 29 (fD d)::oH y1.1 2 3 4 5 [.dead,rO 77 8 Lko s9,.dead]) E E E E E Z (fun hdsn11=>?_) (fun j12 x10 b13 hjsn11 hbsn11 hnsn11=>?_)
 ·have h16:=hdone14 hdsn11
  exact bK h16 fun y17 hy17 h18=>gO 13 E<|Kdo [8] (.tup []) (bg y1.2.2::.box 29 (fD d)::oH y1.1 2 3 4 5 [.dead,rO 77 8 Lko y17,.dead]) C (Ljw hy17) E Z E E E E E E E E E E<|gK h18 fun hg20 h19=>Kgx 9 E (of_decide_eq_true hg20).symm<|gO 9 E<|Kis 1 (bg y1.2.2::.dead::oH y1.1 2 3 4 5 [.dead,rO 77 8 Lko y17,.dead]) E Z<|Kgl 8 1 (bg y1.2.2::rO 77 8 Lko y17::oH y1.1 2 3 4 5 [.dead,.dead,.dead]) E E E E E E<|Kgj<|oSi h19▸Kec hΓ [_,_,_,_,_,_,_,_] (.inr E) E E E E (.inr ⟨HB.mk E,E⟩)
 obtain⟨s21,h22⟩:=hstep15 j12 x10 b13 hjsn11 hbsn11 hnsn11
 have hssn11:=h22
 refine gO 10 E<|eo_o E (Kio (kv:=kS) (agg:=false) (enc:=(eH (some 0))) y1.1.nodes mr3 bs4 cl5 sn11 hjsn11 hbsn11 E E E E (fun _=>E))<|gK h22 fun hg24 h23=>gO 7 E<|eo_o E (Kmc hg24 E)<|bK h23 fun m25 hm25 h26=>eo_o E (Kme hΓ (enc:=Lko) (bg:=0) m25 E E (ArU.r _ (ArU.r _ (ArU.l _ (Kki (fun _ _=>E) hm25 m25)))) E (g:=.agg (fM m25)) E E)<|Kdj hΓ (enc:=Lko) [m25] E E E E E E E E E E E E Z<|bK h26 fun y27 hy27 h28=>Kdy hΓ (enc:=Lko) hy27 E E E E E E E E E (fun _=>E) E E E E<|gO 3 E ?_
 cases h28
 exact⟨j12,x10,b13,_,hjsn11,hbsn11,hnsn11,hssn11,⟨⟨E,E,tV⟩,[],E,.inl E⟩⟩
theorem Ljy{k:Nat}{d:Ldg}{l:List Ldh}{v_public:Str}{v_at:Int}{al:BagT}{r:Str×Bool×BagT}(h:Lik k d l v_public v_at al=some r):EC Tryz.prog 64 [.agg (fD d),.d (Sl Lkk l),S v_public,I v_at] [bg al] fun g hp'=>g=.tup [S r.1,B r.2.1]∧hp'=[bg r.2.2]:=by
 unfold Lik at h
 refine Kon (Fr.of 0 _) Tryz.func64 E (Fr.of_ok _) Z fun _=>Kcg<|gA 2 E<|Kqc E E E E Z<|bK h fun y1 hy1 h2=>gO 10 E<|Kdo [0] (.sl 2 y1.1.length) [bg y1.2,.box 29 (fD d),rO 77 8 Lko y1.1] C (Ljx hy1) E Z E E E E E E E E E E<|Kdv 2 [15] _ [bg y1.2,.box 29 (fD d),.dead] E E E Z<|gO 4 E<|bK h2 fun q6 hq6 h7=>Kcx 15 E fun hb9=>Kgm (R:=fun a8=>q6=.go a8) (fun a8=>[]) (fun a8=>[bg y1.2,.box 29 (fD d),.dead]) ?_ ?_
 ·refine gA 1 E<|Kcw y1.1 hq6 (fun i3 s4=>[(2,S v_public),(15,.d (Sl Lko y1.1)),(16,I (y1.1.length:Int)),(17,I (i3:Int))]) (fun s4=>[bg y1.2,.box 29 (fD d),.dead]) ⟨⟨E,E,E,E,tV⟩,[],E,.inl E⟩ (fun i3 x5 s4 y13 hx10 hlt hy11 hout12=>?_) (fun s4 hgo=>?_)
  ·refine gA 6 E<|Kci E (decide_eq_true (Int.ofNat_lt.2 hlt))<|gA 6 E<|eo_o E (Kcy hΓ (enc:=Lko) (Kcr hx10) E E E E E (fun _=>E))<|gO 1 E<|Kqb hΓ E E E Z<|Kqg hΓ E E E E E E E E Z<|Kdx [bg y1.2,.box 29 (fD d),.dead,.box 77 (fM x5)] E<|gO 10 E<|jC E hy11 (fun h14=>?_) fun h17=>gA 7 E ?_
   ·refine gA 11 E<|bK h14 fun v15 hv15 h16=>?_
    cases h16
    obtain rfl:=hout12 _ rfl
    cases h7
    exact gA 4 E<|oSi hv15▸Kec hΓ [_,_,_] (.inr E) E E E E (.inr ⟨HB.mk E,E⟩)
   cases h17
   exact⟨_,E,⟨⟨E,E,E,Kbp E (Kbo (nLl hlt hb9)),tV⟩,[_],E,.inr ⟨HB.mk E,FB.mk E,Z⟩⟩⟩
  subst hgo
  exact gA 6 E<|Kcj E (decide_eq_false (Int.lt_irrefl _))<|gA 4 E<|⟨_,E,⟨tV,[],E,.inl E⟩⟩
 intro a8 ha
 subst ha
 replace h7:=Kgh h7
 exact gA 8 E<|oSi h7▸Kec hΓ [_,_] (.inr E) E E E E (.inr ⟨HB.mk E,E⟩)
theorem Ljz{u:Str}{x:Str}{x2:Ldg}{x3:Ldl}{r:Bool}(h:Lil u x x2 x3=some r):EC Tryz.prog 159 [S u,.ptr 0 0,.ptr 1 0,.ptr 2 0] [.box 9 [S x],.box 29 (fD x2),.box 77 (fM x3)] fun g hp'=>g=B r∧hp'=[.box 9 [S x],.box 29 (fD x2),.box 77 (fM x3)]:=by
 unfold Lil at h
 refine Kon (Fr.of 0 _) Tryz.func159 E (Fr.of_ok _) Z fun _=>Kcg<|gA 11 E<|bK h fun q1 hq1 h2=>Kcn 5 [(5,B false),(14,B q1)] [.box 9 [S x],.box 29 (fD x2),.box 77 (fM x3)] ?_ ?_
 ·refine Kov E E (fun hb=>?_) (fun hb=>?_)
  ·have h3:=cT hq1 hb
   exact bK h3 fun y4 hy4 h5=>gO 3 E<|Kot E<|Kdp C (Ljh hy4) E Z E E E E E<|gO 2 E<|oSi h5▸⟨⟨E,E,tV⟩,[],E,.inl E⟩
  have h6:=cF hq1 hb
  exact gO 6 E<|oSi h6▸⟨⟨E,E,tV⟩,[],E,.inl E⟩
 exact gO 4 E<|oSi h2▸Kec hΓ [] (.inr E) E E E E (.inl E)
theorem Lka{s:List Str}{f:Str}{f2:Ldg}{f3:Ldl}{r:Int}(h:Lim s f f2 f3=some r):EC Tryz.prog 246 [.d (Sl eS s),.fn (.func 159) [] [.ptr 0 0,.ptr 1 0,.ptr 2 0]] [.box 9 [S f],.box 29 (fD f2),.box 77 (fM f3)] fun g hp'=>g=I r∧hp'=[.box 9 [S f],.box 29 (fD f2),.box 77 (fM f3)]:=by
 unfold Lim at h
 refine Kon (Fr.of 0 _) Tryz.func246 E (Fr.of_ok _) Z fun _=>Kcg<|gA 13 E<|bK h fun q4 hq4 h5=>Kcx 0 E fun hb7=>Kgm (R:=fun a6=>q4=.go a6) (fun a6=>[]) (fun a6=>[.box 9 [S f],.box 29 (fD f2),.box 77 (fM f3)]) ?_ ?_
 ·refine gA 1 E<|Kcw s hq4 (fun i1 s2=>[(0,.d (Sl eS s)),(1,.fn (.func 159) [] [.ptr 0 0,.ptr 1 0,.ptr 2 0]),(7,I (s.length:Int)),(8,I (i1:Int))]) (fun s2=>[.box 9 [S f],.box 29 (fD f2),.box 77 (fM f3)]) ⟨⟨E,E,E,E,tV⟩,[],E,.inl E⟩ (fun i1 x3 s2 y11 hx8 hlt hy9 hout10=>?_) (fun s2 hgo=>?_)
  ·refine gA 6 E<|Kci E (decide_eq_true (Int.ofNat_lt.2 hlt))<|gA 15 E<|eo_o E (Kcy hΓ (enc:=eS) (Kcr hx8) E E E E E (fun _=>E))<|bK hy9 fun y12 hy12 h13=>gO 1 E<|Kdo [0,1,2] (B y12) [.box 9 [S f],.box 29 (fD f2),.box 77 (fM f3)] C (Ljz hy12) E Z E E E E E E E E E E<|gO 2 E<|jC E h13 (fun h14=>?_) fun h17=>gA 7 E ?_
   ·refine gA 9 E<|bK h14 fun v15 hv15 h16=>?_
    cases h16
    obtain rfl:=hout10 _ rfl
    cases h5
    exact gA 4 E<|oSi hv15▸Kec hΓ [] (.inr E) E E E E (.inl E)
   cases h17
   exact⟨_,E,⟨⟨E,E,E,Kbp E (Kbo (nLl hlt hb7)),tV⟩,[],E,.inl E⟩⟩
  subst hgo
  exact gA 6 E<|Kcj E (decide_eq_false (Int.lt_irrefl _))<|gA 4 E<|⟨_,E,⟨tV,[],E,.inl E⟩⟩
 intro a6 ha
 subst ha
 replace h5:=Kgh h5
 exact gA 7 E<|oSi h5▸Kec hΓ [] (.inr E) E E E E (.inl E)
theorem Lkb{s:List Str}{f:Str}{f2:Ldg}{f3:Ldl}{r:Bool}(h:Lin s f f2 f3=some r):EC Tryz.prog 158 [.d (Sl eS s),.fn (.func 159) [] [.ptr 0 0,.ptr 1 0,.ptr 2 0]] [.box 9 [S f],.box 29 (fD f2),.box 77 (fM f3)] fun g hp'=>g=B r∧hp'=[.box 9 [S f],.box 29 (fD f2),.box 77 (fM f3)]:=by
 unfold Lin at h
 exact Kon (Fr.of 0 _) Tryz.func158 E (Fr.of_ok _) Z fun _=>Kcg<|bK h fun y1 hy1 h2=>gA 9 E<|Kdo [0,1,2] (I y1) [.box 9 [S f],.box 29 (fD f2),.box 77 (fM f3)] C (Lka hy1) E Z E E E E E E E E E E<|gO 5 E<|oSi h2▸Kec hΓ [] (.inr E) E E E E (.inl E)
theorem Lkc{k:Nat}{d:Ldg}{l:List Ldh}{user:Str}{v_at:Int}{alone:Bool}{al:BagT}{r:(List Str)×BagT}(h:Lio k d l user v_at alone al=some r):EC Tryz.prog 66 [.agg (fD d),.d (Sl Lkk l),S user,I v_at,B alone] [bg al] fun g hp'=>g=.sl 1 r.1.length∧hp'=[bg r.2,rO 9 1 eS r.1]:=by
 unfold Lio at h
 refine Kix (Fr.of 0 _) Tryz.func66 E (Fr.of_ok _) Z fun _=>Kcg<|gA 2 E<|Kqc E E E E Z<|Kqc E E E E Z<|gO 5 E<|Kdm (t:=0) 9 1 E Z<|bK h fun y1 hy1 h2=>gO 8 E<|Kdo [0] (.sl 4 y1.1.length) [bg y1.2,.box 29 (fD d),.box 9 [S user],rO 9 1 eS ([]:List Str),rO 77 8 Lko y1.1] C (Ljx hy1) E Z E E E E E E E E E E<|Kdv 4 [18] _ [bg y1.2,.box 29 (fD d),.box 9 [S user],rO 9 1 eS ([]:List Str),.dead] E E E Z<|gO 4 E<|bK h2 fun q6 hq6 h7=>Kcx 18 E fun hb9=>Kgn [(11,.sl 3 q6.length)] [bg y1.2,.box 29 (fD d),.box 9 [S user],rO 9 1 eS q6,.dead] ?_ ?_
 ·refine gA 1 E<|Kee y1.1 hq6 (fun i3 s4=>[(4,B alone),(5,.ptr 1 0),(7,.ptr 2 0),(11,.sl 3 s4.length),(18,.d (Sl Lko y1.1)),(19,I (y1.1.length:Int)),(20,I (i3:Int))]) (fun s4=>[bg y1.2,.box 29 (fD d),.box 9 [S user],rO 9 1 eS s4,.dead]) ⟨⟨E,E,E,E,E,E,E,tV⟩,[],E,.inl E⟩ (fun i3 x5 s4 y13 hx10 hlt hy11=>?_) (?_)
  ·refine gA 6 E<|Kci E (decide_eq_true (Int.ofNat_lt.2 hlt))<|gA 6 E<|eo_o E (Kcy hΓ (enc:=Lko) (Kcr hx10) E E E E E (fun _=>E))<|gO 1 E<|Kqb hΓ E E E Z<|Kqg hΓ E E E E E E E E Z<|Kdx [bg y1.2,.box 29 (fD d),.box 9 [S user],rO 9 1 eS s4,.dead,.box 77 (fM x5)] E<|bK hy11 fun y14 hy14 h15=>gO 7 E<|Kdo [2,1,5] (B y14) [bg y1.2,.box 29 (fD d),.box 9 [S user],rO 9 1 eS s4,.dead,.box 77 (fM x5)] C (Lkb hy14) E Z E E E E E E E E E E<|bK h15 fun y16 hy16 h17=>gO 8 E<|Kdp C (Ljh hy16) E Z E E E E E<|gO 1 E<|Kcn 6 [(4,B alone),(5,.ptr 1 0),(7,.ptr 2 0),(11,.sl 3 s4.length),(13,.ptr 5 0),(18,.d (Sl Lko y1.1)),(19,I (y1.1.length:Int)),(20,I (i3:Int)),(38,B (y16&&(!(alone&&y14))))] [bg y1.2,.box 29 (fD d),.box 9 [S user],rO 9 1 eS s4,.dead,.box 77 (fM x5)] ?_ ?_
   ·refine Kov E E (fun hb=>?_) (fun hb=>?_)
    ·refine gO 2 E<|Kcn 2 [(4,B alone),(5,.ptr 1 0),(7,.ptr 2 0),(11,.sl 3 s4.length),(13,.ptr 5 0),(18,.d (Sl Lko y1.1)),(19,I (y1.1.length:Int)),(20,I (i3:Int)),(32,B true),(36,B (alone&&y14))] [bg y1.2,.box 29 (fD d),.box 9 [S user],rO 9 1 eS s4,.dead,.box 77 (fM x5)] ?_ ?_
     ·refine Kov E E (fun hb=>?_) (fun hb=>?_)
      ·exact gO 3 E<|⟨⟨E,E,E,E,E,E,E,E,E,Kbq E (Keh hb),tV⟩,[],E,.inl E⟩
      exact gO 3 E<|⟨⟨E,E,E,E,E,E,E,E,E,Kbq E (Kei hb),tV⟩,[],E,.inl E⟩
     exact gO 3 E<|⟨⟨E,E,E,E,E,E,E,E,Kbq E (Keh hb),tV⟩,[],E,.inl E⟩
    exact gO 7 E<|⟨⟨E,E,E,E,E,E,E,E,Kbq E (Kei hb),tV⟩,[],E,.inl E⟩
   refine gO 2 E<|jC E h17 (fun h18=>?_) fun h21=>gA 7 E ?_
   ·refine gA 4 E<|Kdj hΓ (enc:=eS) [x5.Node] E E E E E E E E E E E E Z<|bK h18 fun y19 hy19 h20=>Kdy hΓ (enc:=eS) hy19 E E E E E E E E E (fun _=>E) E E E E<|gO 8 E ?_
    cases h20
    exact⟨⟨E,E,E,E,E,E,Kbp E (Kbo (nLl hlt hb9)),tV⟩,[_],E,.inr ⟨HB.mk E,FB.mk E,Z⟩⟩
   cases h21
   exact⟨⟨E,E,E,E,E,E,Kbp E (Kbo (nLl hlt hb9)),tV⟩,[_],E,.inr ⟨HB.mk E,FB.mk E,Z⟩⟩
  exact gA 6 E<|Kcj E (decide_eq_false (Int.lt_irrefl _))<|gA 4 E<|⟨⟨E,tV⟩,[],E,.inl E⟩
 exact gA 8 E<|Kis 1 [bg y1.2,.dead,.box 9 [S user],rO 9 1 eS q6,.dead] E Z<|Kgl 3 1 [bg y1.2,rO 9 1 eS q6,.box 9 [S user],.dead,.dead] E E E E E E<|Kgj<|oSi h7▸Kec hΓ [_,_,_] (.inr E) E E E E (.inr ⟨HB.mk E,E⟩)
theorem Lkd{s1:List Str}{s2:List Str}{r:Bool}(h:Lip s1 s2=some r):Pure Tryz.prog 65 [.d (Sl eS s1),.d (Sl eS s2)] (B r):=by
 unfold Lip at h
 refine Pure.enter (Fr.of 0 _) Tryz.func65 E (Fr.of_ok _) E E<|Kcg<|gA 15 E<|jC E h (fun h1=>?_) fun h2=>gA 10 E<|bK h2 fun q6 hq6 h7=>Kcx 0 E fun hb9=>Kgm (R:=fun a8=>q6=.go a8) (fun a8=>[]) (fun a8=>[]) ?_ ?_
 ·exact gA 7 E<|oSi h1▸gP E E
 ·refine gA 1 E<|Kcw s1 hq6 (fun i3 s4=>[(0,.d (Sl eS s1)),(1,.d (Sl eS s2)),(12,I (s1.length:Int)),(13,I (i3:Int))]) (fun s4=>[]) ⟨⟨E,E,E,E,tV⟩,[],E,.inl E⟩ (fun i3 x5 s4 y13 hx10 hlt hy11 hout12=>?_) (fun s4 hgo=>?_)
  ·refine gA 6 E<|Kci E (decide_eq_true (Int.ofNat_lt.2 hlt))<|gA 11 E<|Kck hmix (by kernel_rfl)<|gA 2 E<|gl_o E (Kcy hΓ (enc:=eS) (Kcr hx10) E E E E E (fun _=>E))<|bK hy11 fun x14 hx14 h15=>Kcf hΓ 3 E<|gl_o E (Kcy hΓ (enc:=eS) hx14 E E E E E (fun _=>E))<|Kcf hΓ 4 E<|jC E h15 (fun h16=>?_) fun h19=>gA 7 E ?_
   ·refine gA 8 E<|bK h16 fun v17 hv17 h18=>?_
    cases h18
    obtain rfl:=hout12 _ rfl
    cases h7
    exact gA 4 E<|oSi hv17▸gP E E
   cases h19
   exact⟨_,E,⟨⟨E,E,E,Kbp E (Kbo (nLl hlt hb9)),tV⟩,[],E,.inl E⟩⟩
  subst hgo
  exact gA 6 E<|Kcj E (decide_eq_false (Int.lt_irrefl _))<|gA 4 E<|⟨_,E,⟨tV,[],E,.inl E⟩⟩
 intro a8 ha
 subst ha
 replace h7:=Kgh h7
 exact gA 7 E<|oSi h7▸gP E E
theorem Lke{k:Nat}{d:Ldg}{user:Str}{tag:Str}{r:Bool×Int}(h:Liq k d user tag=some r):Pure Tryz.prog 27 [.agg (fD d),S user,S tag] (.tup [B r.1,I r.2]):=by
 unfold Liq at h
 refine Pure.enter (Fr.of 0 _) Tryz.func27 E (Fr.of_ok _) E E<|Kcg<|gA 2 E<|Kqc E E E E Z<|bK h fun y1 hy1 h2=>gO 8 E<|Kdp C (Lml hy1) E Z E E E E E<|gO 9 E<|Kch E (fun hb=>?_) (fun hb=>?_)
 ·have h3:=cT h2 hb
  exact gA 9 E<|oSi h3▸gP E E
 have h4:=cF h2 hb
 refine bK h4 fun y5 hy5 h6=>gA 7 E<|Kdp C (Lnl hy5) E Z E E E E E<|bK h6 fun y7 hy7 h8=>gO 13 E<|Kdp C (Lls hy7) E Z E E E E E<|gO 2 E<|Kcn 3 [(9,B y5.1),(31,B ((!y7)||(!y5.2)))] [.box 29 (fD d)] ?_ ?_
 ·refine Kov E E (fun hb=>?_) (fun hb=>?_)
  ·exact gO 4 E<|⟨⟨E,Kbq E (or_t hb),tV⟩,[],E,.inl E⟩
  exact gO 4 E<|⟨⟨E,Kbq E (or_f hb),tV⟩,[],E,.inl E⟩
 refine gO 2 E<|jC E h8 (fun h9=>?_) fun h10=>gA 10 E<|oSi h10▸gP E E
 exact gA 8 E<|oSi h9▸gP E E
theorem Lkf{k:Nat}{r:Bool}(h:Lir k=some r):Pure Tryz.prog 16 [] (B r):=by
 unfold Lir at h
 refine Pure.enter (Fr.of 0 _) Tryz.func16 E (Fr.of_ok _) E E<|Kcg<|gA 7 E<|Kdj hΓ (enc:=eS) [[97]] E E E E E E E E E E E E Z<|Kdj hΓ (enc:=eS) [[97]] E E E E E E E E E E E E Z<|Kam hΓ (gs:=[S [116],.d (Sl eS [[97]])]) E E E E E E E<|Kdj hΓ (enc:=Lki) [(⟨[116],[[97]]⟩:Ldf)] E E E E E E E E E E E E Z<|Kam hΓ (gs:=[.d (Sl eS [[97]]),.d (Sl Lki [(⟨[116],[[97]]⟩:Ldf)]),I 1,B false]) E E E E E E E<|bK h fun y1 hy1 h2=>Kdp C (Lke hy1) E Z E E E E E<|gO 12 E<|Kcn 2 [(0,B false),(16,B (((y1.2:Int)==0)&&y1.1))] [] ?_ ?_
 ·refine Kov E E (fun hb=>?_) (fun hb=>?_)
  ·exact gO 3 E<|⟨⟨E,Kbq E (Keh hb),tV⟩,[],E,.inl E⟩
  exact gO 3 E<|⟨⟨E,Kbq E (Kei hb),tV⟩,[],E,.inl E⟩
 exact gO 4 E<|oSi h2▸gP E E
theorem Lkg{k:Nat}{l:List Int}{al:BagT}{r:Bool×BagT}(h:Lis k l al=some r):EC Tryz.prog 7 [.d (Sl (eN .i64) l)] [bg al] fun g hp'=>g=B r.1∧hp'=[bg r.2]:=by
 unfold Lis at h
 refine Kon (Fr.of 0 _) Tryz.func7 E (Fr.of_ok _) Z fun _=>Kcg<|gA 8 E<|Kam hΓ (gs:=[.d (Sl (eN .i64) l),I 0]) E E E E E E E<|Kqc E E E E Z<|bK h fun y1 hy1 h2=>gO 7 E<|Kdo [1] (I y1.1) [bg al,.box 25 (fQ y1.2)] C (Lkw hy1) E Z E E E E E E E E E E<|bK h2 fun y3 hy3 h4=>Kdo [1] (.agg [.d (Sl eS y3.1.d.Users),.d (Sl Lki y3.1.d.Owners),I y3.1.d.Life,B y3.1.d.Approve,.d (Sl Lkk y3.1.l),I y3.1.fault]) [bg al,.box 25 (fQ y3.2)] C (Lmg hy3) E Z E E E E E E E E E E<|bK h4 fun y5 hy5 h6=>gO 1 E<|Kdo [1] (I y5.1) [bg al,.box 25 (fQ y5.2)] C (Lmh hy5) E Z E E E E E E E E E E<|gO 1 E<|Kdj hΓ (enc:=eS) [[110,97],[110,97],[110,98],[]] E E E E E E E E E E E E Z<|bK h6 fun y7 hy7 h8=>Kdo [1] (S y7.1) [bg al,.box 25 (fQ y7.2)] C (Lla hy7) E Z E E E E E E E E E E<|gO 1 E<|Kdj hΓ (enc:=eS) [[48,97],[48,98],[49,97],[122,122],[]] E E E E E E E E E E E E Z<|bK h8 fun y9 hy9 h10=>Kdo [1] (S y9.1) [bg al,.box 25 (fQ y9.2)] C (Lla hy9) E Z E E E E E E E E E E<|bK h10 fun y11 hy11 h12=>gO 1 E<|Kdo [1] (S y11.1) [bg al,.box 25 (fQ y11.2)] C (Llc hy11) E Z E E E E E E E E E E<|Kqb hΓ E E E Z<|Kqg hΓ E E E E E E E E Z<|Kdx [bg al,.box 25 (fQ y11.2),.box 33 [.d (Sl eS y3.1.d.Users),.d (Sl Lki y3.1.d.Owners),I y3.1.d.Life,B y3.1.d.Approve,.d (Sl Lkk y3.1.l),I y3.1.fault]] E<|bK h12 fun y13 hy13 h14=>gO 13 E<|Kdo [0] (.tup [.d (Sl Lkn y13.1),I y13.2.1]) [bg y13.2.2,.box 25 (fQ y11.2),.box 33 [.d (Sl eS y3.1.d.Users),.d (Sl Lki y3.1.d.Owners),I y3.1.d.Life,B y3.1.d.Approve,.d (Sl Lkk y3.1.l),I y3.1.fault]] C (Lny hy13) E Z E E E E E E E E E E<|bK h14 fun y15 hy15 h16=>gO 15 E<|Kdo [0] (.tup [S y15.1,B y15.2.1,I y15.2.2.1]) [bg y15.2.2.2,.box 25 (fQ y11.2),.box 33 [.d (Sl eS y3.1.d.Users),.d (Sl Lki y3.1.d.Owners),I y3.1.d.Life,B y3.1.d.Approve,.d (Sl Lkk y3.1.l),I y3.1.fault]] C (Lnz hy15) E Z E E E E E E E E E E<|bK h16 fun y17 hy17 h18=>gO 17 E<|Kdo [0] (.tup [.d (Sl eS y17.1),I y17.2.1]) [bg y17.2.2,.box 25 (fQ y11.2),.box 33 [.d (Sl eS y3.1.d.Users),.d (Sl Lki y3.1.d.Owners),I y3.1.d.Life,B y3.1.d.Approve,.d (Sl Lkk y3.1.l),I y3.1.fault]] C (Log hy17) E Z E E E E E E E E E E<|bK h18 fun y19 hy19 h20=>gO 15 E<|Kdo [0] (.tup [.d (Sl eS y19.1),I y19.2.1]) [bg y19.2.2,.box 25 (fQ y11.2),.box 33 [.d (Sl eS y3.1.d.Users),.d (Sl Lki y3.1.d.Owners),I y3.1.d.Life,B y3.1.d.Approve,.d (Sl Lkk y3.1.l),I y3.1.fault]] C (Loh hy19) E Z E E E E E E E E E E<|gO 8 E<|Kck hmix (by kernel_rfl)<|bK h20 fun y21 hy21 h22=>gA 3 E<|Kdq C (Liv hy21) E E E E E E<|Kdk hΓ (enc:=(eN .i64)) [y3.1.fault,y21] E E E E E E E E E E E E<|bK h22 fun y23 hy23 h24=>Kdq C (Lmf hy23) E E E E E E<|Kcf hΓ 4 E<|Kck hmix (by kernel_rfl)<|bK h24 fun y25 hy25 h26=>gA 3 E<|Kdq C (Lly hy25) E E E E E E<|bK h26 fun y27 hy27 h28=>Kcf hΓ 1 E<|Kdq C (Liw hy27) E E E E E E<|bK h28 fun y29 hy29 h30=>Kcf hΓ 1 E<|Kdq C (Lix hy29) E E E E E E<|Kdk hΓ (enc:=(eN .i64)) [y3.1.fault,y27,y29] E E E E E E E E E E E E<|bK h30 fun y31 hy31 h32=>Kdq C (Lmf hy31) E E E E E E<|Kcf hΓ 4 E<|Kck hmix (by kernel_rfl)<|bK h32 fun y33 hy33 h34=>gA 6 E<|Kdq C (Lls hy33) E E E E E E<|bK h34 fun y35 hy35 h36=>Kcf hΓ 1 E<|Kdq C (Liw hy35) E E E E E E<|bK h36 fun y37 hy37 h38=>Kcf hΓ 1 E<|Kdq C (Lix hy37) E E E E E E<|Kdk hΓ (enc:=(eN .i64)) [y3.1.fault,y35,y37] E E E E E E E E E E E E<|bK h38 fun y39 hy39 h40=>Kdq C (Lmf hy39) E E E E E E<|Kcf hΓ 10 E<|Kcn 4 [(4,.ptr 2 0),(5,I y5.1),(6,S y7.1),(7,S y9.1),(8,S y11.1),(9,.d (Sl Lkn y13.1)),(11,S y15.1),(12,B y15.2.1),(14,.d (Sl eS y17.1)),(15,I y17.2.1),(16,.d (Sl eS y19.1)),(17,I y19.2.1),(18,I y23),(19,I y31),(20,I y39),(116,B (((y13.2.1:Int) != y23)||((y15.2.2.1:Int) != y31)))] [bg y19.2.2,.box 25 (fQ y11.2),.box 33 [.d (Sl eS y3.1.d.Users),.d (Sl Lki y3.1.d.Owners),I y3.1.d.Life,B y3.1.d.Approve,.d (Sl Lkk y3.1.l),I y3.1.fault]] ?_ ?_
 ·refine Kov E E (fun hb=>?_) (fun hb=>?_)
  ·exact gO 5 E<|⟨⟨E,E,E,E,E,E,E,E,E,E,E,E,E,E,E,Kbq E (or_t hb),tV⟩,[],E,.inl E⟩
  exact gO 5 E<|⟨⟨E,E,E,E,E,E,E,E,E,E,E,E,E,E,E,Kbq E (or_f hb),tV⟩,[],E,.inl E⟩
 refine gO 1 E<|Kcn 4 [(4,.ptr 2 0),(5,I y5.1),(6,S y7.1),(7,S y9.1),(8,S y11.1),(9,.d (Sl Lkn y13.1)),(11,S y15.1),(12,B y15.2.1),(14,.d (Sl eS y17.1)),(16,.d (Sl eS y19.1)),(17,I y19.2.1),(18,I y23),(19,I y31),(20,I y39),(121,B ((((y13.2.1:Int) != y23)||((y15.2.2.1:Int) != y31))||((y17.2.1:Int) != y39)))] [bg y19.2.2,.box 25 (fQ y11.2),.box 33 [.d (Sl eS y3.1.d.Users),.d (Sl Lki y3.1.d.Owners),I y3.1.d.Life,B y3.1.d.Approve,.d (Sl Lkk y3.1.l),I y3.1.fault]] ?_ ?_
 ·refine Kov E E (fun hb=>?_) (fun hb=>?_)
  ·exact gO 5 E<|⟨⟨E,E,E,E,E,E,E,E,E,E,E,E,E,E,Kbq E (or_t hb),tV⟩,[],E,.inl E⟩
  exact gO 5 E<|⟨⟨E,E,E,E,E,E,E,E,E,E,E,E,E,E,Kbq E (or_f hb),tV⟩,[],E,.inl E⟩
 refine gO 1 E<|Kcn 4 [(4,.ptr 2 0),(5,I y5.1),(6,S y7.1),(7,S y9.1),(8,S y11.1),(9,.d (Sl Lkn y13.1)),(11,S y15.1),(12,B y15.2.1),(14,.d (Sl eS y17.1)),(16,.d (Sl eS y19.1)),(18,I y23),(19,I y31),(20,I y39),(126,B (((((y13.2.1:Int) != y23)||((y15.2.2.1:Int) != y31))||((y17.2.1:Int) != y39))||((y19.2.1:Int) != y39)))] [bg y19.2.2,.box 25 (fQ y11.2),.box 33 [.d (Sl eS y3.1.d.Users),.d (Sl Lki y3.1.d.Owners),I y3.1.d.Life,B y3.1.d.Approve,.d (Sl Lkk y3.1.l),I y3.1.fault]] ?_ ?_
 ·refine Kov E E (fun hb=>?_) (fun hb=>?_)
  ·exact gO 5 E<|⟨⟨E,E,E,E,E,E,E,E,E,E,E,E,E,Kbq E (or_t hb),tV⟩,[],E,.inl E⟩
  exact gO 5 E<|⟨⟨E,E,E,E,E,E,E,E,E,E,E,E,E,Kbq E (or_f hb),tV⟩,[],E,.inl E⟩
 refine gO 2 E<|Kch E (fun hb=>?_) (fun hb=>?_)
 ·have h41:=cT h40 hb
  exact gA 7 E<|oSi h41▸Kec hΓ [_,_] (.inr E) E E E E (.inr ⟨HB.mk E,E⟩)
 have h42:=cF h40 hb
 refine gA 8 E<|bK h42 fun q43 hq43 h44=>Kcn 10 [(4,.ptr 2 0),(5,I y5.1),(7,S y9.1),(8,S y11.1),(11,S y15.1),(12,B y15.2.1),(14,.d (Sl eS y17.1)),(16,.d (Sl eS y19.1)),(19,I y31),(20,I y39),(139,B q43.2)] [bg q43.1,.box 25 (fQ y11.2),.box 33 [.d (Sl eS y3.1.d.Users),.d (Sl Lki y3.1.d.Owners),I y3.1.d.Life,B y3.1.d.Approve,.d (Sl Lkk y3.1.l),I y3.1.fault]] ?_ ?_
 ·refine Kov E E (fun hb=>?_) (fun hb=>?_)
  ·have h45:=cT hq43 hb
   exact bK h45 fun y46 hy46 h47=>gO 6 E<|Kot E<|Kdo [0] (.sl 3 y46.1.length) [bg y46.2,.box 25 (fQ y11.2),.box 33 [.d (Sl eS y3.1.d.Users),.d (Sl Lki y3.1.d.Owners),I y3.1.d.Life,B y3.1.d.Approve,.d (Sl Lkk y3.1.l),I y3.1.fault],rO 107 3 Lkn y46.1] C (Ljp hy46) E Z E E E E E E E E E E<|Kdv 3 [136] _ [bg y46.2,.box 25 (fQ y11.2),.box 33 [.d (Sl eS y3.1.d.Users),.d (Sl Lki y3.1.d.Owners),I y3.1.d.Life,B y3.1.d.Approve,.d (Sl Lkk y3.1.l),I y3.1.fault],.dead] E E E Z<|bK h47 fun y48 hy48 h49=>Kot E<|Kdp C (Ljq hy48) E Z E E E E E<|gO 3 E<|oSi h49▸⟨⟨E,E,E,E,E,E,E,E,E,E,E,tV⟩,[_],E,.inr ⟨HB.mk E,FB.mk E,Z⟩⟩
  have h50:=cF hq43 hb
  exact gO 11 E<|oSi h50▸⟨⟨E,E,E,E,E,E,E,E,E,E,E,tV⟩,[],E,.inl E⟩
 refine gO 2 E<|Kch E (fun hb=>?_) (fun hb=>?_)
 ·have h51:=cT h44 hb
  exact gA 7 E<|oSi h51▸Kec hΓ [_,_] (.inr E) E E E E (.inr ⟨HB.mk E,E⟩)
 have h52:=cF h44 hb
 refine bK h52 fun q53 hq53 h54=>gA 9 E<|Kgp (q:=q53) (fun a55=>[(4,.ptr 2 0),(5,I y5.1),(8,S y11.1),(14,.d (Sl eS y17.1)),(16,.d (Sl eS y19.1)),(20,I y39)]) (fun a55=>[bg a55,.box 25 (fQ y11.2),.box 33 [.d (Sl eS y3.1.d.Users),.d (Sl Lki y3.1.d.Owners),I y3.1.d.Life,B y3.1.d.Approve,.d (Sl Lkk y3.1.l),I y3.1.fault]]) ?_ ?_
 ·refine Kch E (fun hb=>?_) (fun hb=>?_)
  ·have h56:=cT hq53 hb
   refine bK h56 fun y57 hy57 h58=>gA 8 E<|Kdo [0] (.tup [S y57.1,B y57.2.1]) [bg y57.2.2,.box 25 (fQ y11.2),.box 33 [.d (Sl eS y3.1.d.Users),.d (Sl Lki y3.1.d.Owners),I y3.1.d.Life,B y3.1.d.Approve,.d (Sl Lkk y3.1.l),I y3.1.fault]] C (Ljy hy57) E Z E E E E E E E E E E<|gO 13 E<|Kcn 4 [(4,.ptr 2 0),(5,I y5.1),(8,S y11.1),(14,.d (Sl eS y17.1)),(16,.d (Sl eS y19.1)),(20,I y39),(159,B ((!((y15.1:Str)==y57.1))||(!((y15.2.1:Bool)==y57.2.1))))] [bg y57.2.2,.box 25 (fQ y11.2),.box 33 [.d (Sl eS y3.1.d.Users),.d (Sl Lki y3.1.d.Owners),I y3.1.d.Life,B y3.1.d.Approve,.d (Sl Lkk y3.1.l),I y3.1.fault]] ?_ ?_
   ·refine Kov E E (fun hb=>?_) (fun hb=>?_)
    ·exact gO 5 E<|⟨⟨E,E,E,E,E,E,Kbq E (or_t hb),tV⟩,[],E,.inl E⟩
    exact gO 5 E<|⟨⟨E,E,E,E,E,E,Kbq E (or_f hb),tV⟩,[],E,.inl E⟩
   refine gO 2 E<|jC E h58 (fun h59=>?_) fun h62=>gA 1 E<|oSi h62▸⟨_,E,⟨⟨E,E,E,E,E,E,tV⟩,[],E,.inl E⟩⟩
   refine gA 6 E<|bK h59 fun v60 hv60 h61=>?_
   cases h61
   cases h54
   exact gA 2 E<|oSi hv60▸Kec hΓ [_,_] (.inr E) E E E E (.inr ⟨HB.mk E,E⟩)
  have h63:=cF hq53 hb
  exact gA 1 E<|oSi h63▸⟨_,E,⟨⟨E,E,E,E,E,E,tV⟩,[],E,.inl E⟩⟩
 intro a55 ha
 subst ha
 replace h54:=Kgg h54
 refine gA 6 E<|bK h54 fun q64 hq64 h65=>Kcn 21 [(183,B q64.2)] [bg q64.1,.box 25 (fQ y11.2),.box 33 [.d (Sl eS y3.1.d.Users),.d (Sl Lki y3.1.d.Owners),I y3.1.d.Life,B y3.1.d.Approve,.d (Sl Lkk y3.1.l),I y3.1.fault]] ?_ ?_
 ·refine Kov E E (fun hb=>?_) (fun hb=>?_)
  ·have h66:=cT hq64 hb
   exact gO 22 E<|oSi h66▸⟨⟨E,tV⟩,[],E,.inl E⟩
  have h67:=cF hq64 hb
  refine bK h67 fun y68 hy68 h69=>gO 7 E<|Kot E<|Kdo [0] (.sl 3 y68.1.length) [bg y68.2,.box 25 (fQ y11.2),.box 33 [.d (Sl eS y3.1.d.Users),.d (Sl Lki y3.1.d.Owners),I y3.1.d.Life,B y3.1.d.Approve,.d (Sl Lkk y3.1.l),I y3.1.fault],rO 9 1 eS y68.1] C (Lkc hy68) E Z E E E E E E E E E E<|Kdv 3 [170] _ [bg y68.2,.box 25 (fQ y11.2),.box 33 [.d (Sl eS y3.1.d.Users),.d (Sl Lki y3.1.d.Owners),I y3.1.d.Life,B y3.1.d.Approve,.d (Sl Lkk y3.1.l),I y3.1.fault],.dead] E E E Z<|bK h69 fun y70 hy70 h71=>Kot E<|Kdp C (Lkd hy70) E Z E E E E E<|gO 1 E<|bK h71 fun q72 hq72 h73=>Kcn 10 [(162,B false),(182,B q72.2)] [bg q72.1,.box 25 (fQ y11.2),.box 33 [.d (Sl eS y3.1.d.Users),.d (Sl Lki y3.1.d.Owners),I y3.1.d.Life,B y3.1.d.Approve,.d (Sl Lkk y3.1.l),I y3.1.fault],.dead] ?_ ?_
  ·refine Kov E E (fun hb=>?_) (fun hb=>?_)
   ·have h74:=cT hq72 hb
    exact bK h74 fun y75 hy75 h76=>gO 7 E<|Kot E<|Kdo [0] (.sl 4 y75.1.length) [bg y75.2,.box 25 (fQ y11.2),.box 33 [.d (Sl eS y3.1.d.Users),.d (Sl Lki y3.1.d.Owners),I y3.1.d.Life,B y3.1.d.Approve,.d (Sl Lkk y3.1.l),I y3.1.fault],.dead,rO 9 1 eS y75.1] C (Lkc hy75) E Z E E E E E E E E E E<|Kdv 4 [180] _ [bg y75.2,.box 25 (fQ y11.2),.box 33 [.d (Sl eS y3.1.d.Users),.d (Sl Lki y3.1.d.Owners),I y3.1.d.Life,B y3.1.d.Approve,.d (Sl Lkk y3.1.l),I y3.1.fault],.dead,.dead] E E E Z<|bK h76 fun y77 hy77 h78=>Kot E<|Kdp C (Lkd hy77) E Z E E E E E<|gO 2 E<|oSi h78▸⟨⟨E,E,tV⟩,[_],E,.inr ⟨HB.mk E,FB.mk E,Z⟩⟩
   have h79:=cF hq72 hb
   exact gO 11 E<|oSi h79▸⟨⟨E,E,tV⟩,[],E,.inl E⟩
  exact gO 2 E<|oSi h73▸⟨⟨E,tV⟩,[_],E,.inr ⟨HB.mk E,FB.mk E,Z⟩⟩
 refine gO 1 E<|bK h65 fun q80 hq80 h81=>Kcn 2 [(186,B q80)] [bg q64.1,.box 25 (fQ y11.2),.box 33 [.d (Sl eS y3.1.d.Users),.d (Sl Lki y3.1.d.Owners),I y3.1.d.Life,B y3.1.d.Approve,.d (Sl Lkk y3.1.l),I y3.1.fault]] ?_ ?_
 ·refine Kov E E (fun hb=>?_) (fun hb=>?_)
  ·have h82:=cT hq80 hb
   exact bK h82 fun y83 hy83 h84=>Kot E<|Kdp C (Lkf hy83) E Z E E E E E<|gO 2 E<|oSi h84▸⟨⟨E,tV⟩,[],E,.inl E⟩
  have h85:=cF hq80 hb
  exact gO 3 E<|oSi h85▸⟨⟨E,tV⟩,[],E,.inl E⟩
 exact gO 4 E<|oSi h81▸Kec hΓ [_,_] (.inr E) E E E E (.inr ⟨HB.mk E,E⟩)
end Go.Proofs.YtjmlnnanfkiakaaGreatDoor
