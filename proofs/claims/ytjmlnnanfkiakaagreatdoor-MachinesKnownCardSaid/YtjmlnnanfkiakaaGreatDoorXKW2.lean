import Derived.Test.YtjmlnnanfkiakaaGreatDoorXKM
import Derived.Test.YtjmlnnanfkiakaaGreatDoorGt
import Derived.Test.YtjmlnnanfkiakaaGreatDoorStrS
import Derived.Test.YtjmlnnanfkiakaaGreatDoorStrK
import Derived.Test.YtjmlnnanfkiakaaGreatDoorXKW1
set_option maxHeartbeats 8000000
set_option linter.all false
set_option maxRecDepth 100000
namespace Go.Proofs.YtjmlnnanfkiakaaGreatDoor
open Go.Gk
theorem Lkq{kind:Int}{r:List Int}(h:Led kind=some r):Pure Tryz.prog 120 [I kind] (.d (Sl (eN .i64) r)):=by
 refine Pure.enter (Fr.of 0 _) Tryz.func120 rfl (Fr.of_ok _) rfl rfl ?_
 refine Kfo ?_
 unfold Led at h
 refine go hΓ 18 rfl ?_
 refine Kfp rfl (fun hb=>?_) (fun hb=>?_)
 ·have h1:=cT h hb
  refine go hΓ 2 rfl ?_
  refine Kgr hΓ (enc:=(eN .i64)) [0,2,5,6,7,8] rfl rfl rfl rfl rfl rfl rfl rfl rfl rfl rfl rfl (nBe rfl) ?_
  refine Kfm hΓ 6 rfl ?_
  obtain rfl:=oSi h1
  exact Khi hΓ (.inr rfl) rfl rfl
 have h2:=cF h hb
 refine go hΓ 6 rfl ?_
 refine Kfp rfl (fun hb=>?_) (fun hb=>?_)
 ·have h3:=cT h2 hb
  refine go hΓ 2 rfl ?_
  refine Kgr hΓ (enc:=(eN .i64)) [0,2] rfl rfl rfl rfl rfl rfl rfl rfl rfl rfl rfl rfl (nBe rfl) ?_
  refine Kfm hΓ 6 rfl ?_
  obtain rfl:=oSi h3
  exact Khi hΓ (.inr rfl) rfl rfl
 have h4:=cF h2 hb
 refine go hΓ 6 rfl ?_
 refine Kfp rfl (fun hb=>?_) (fun hb=>?_)
 ·have h5:=cT h4 hb
  refine go hΓ 2 rfl ?_
  refine Kgr hΓ (enc:=(eN .i64)) [0,1,2,3,4] rfl rfl rfl rfl rfl rfl rfl rfl rfl rfl rfl rfl (nBe rfl) ?_
  refine Kfm hΓ 6 rfl ?_
  obtain rfl:=oSi h5
  exact Khi hΓ (.inr rfl) rfl rfl
 have h6:=cF h4 hb
 refine go hΓ 6 rfl ?_
 refine Kfp rfl (fun hb=>?_) (fun hb=>?_)
 ·have h7:=cT h6 hb
  refine go hΓ 2 rfl ?_
  refine Kgr hΓ (enc:=(eN .i64)) [0,1,3] rfl rfl rfl rfl rfl rfl rfl rfl rfl rfl rfl rfl (nBe rfl) ?_
  refine Kfm hΓ 6 rfl ?_
  obtain rfl:=oSi h7
  exact Khi hΓ (.inr rfl) rfl rfl
 have h8:=cF h6 hb
 refine go hΓ 6 rfl ?_
 refine Kfp rfl (fun hb=>?_) (fun hb=>?_)
 ·have h9:=cT h8 hb
  refine go hΓ 2 rfl ?_
  refine Kgr hΓ (enc:=(eN .i64)) [0,1,4] rfl rfl rfl rfl rfl rfl rfl rfl rfl rfl rfl rfl (nBe rfl) ?_
  refine Kfm hΓ 6 rfl ?_
  obtain rfl:=oSi h9
  exact Khi hΓ (.inr rfl) rfl rfl
 have h10:=cF h8 hb
 refine go hΓ 6 rfl ?_
 refine Kfp rfl (fun hb=>?_) (fun hb=>?_)
 ·have h11:=cT h10 hb
  refine go hΓ 2 rfl ?_
  refine Kgr hΓ (enc:=(eN .i64)) [0,1,5] rfl rfl rfl rfl rfl rfl rfl rfl rfl rfl rfl rfl (nBe rfl) ?_
  refine Kfm hΓ 6 rfl ?_
  obtain rfl:=oSi h11
  exact Khi hΓ (.inr rfl) rfl rfl
 have h12:=cF h10 hb
 refine go hΓ 5 rfl ?_
 refine Kgr hΓ (enc:=(eN .i64)) [0,1] rfl rfl rfl rfl rfl rfl rfl rfl rfl rfl rfl rfl (nBe rfl) ?_
 refine Kfm hΓ 4 rfl ?_
 obtain rfl:=oSi h12
 exact Khi hΓ (.inr rfl) rfl rfl
theorem Lkr{k:Nat}{s:Str}{empty:Bool}{r:Int}(h:Lee k s empty=some r):Pure Tryz.prog 270 [S s,B empty] (I r):=by
 refine Pure.enter (Fr.of 0 _) Tryz.func270 rfl (Fr.of_ok _) rfl rfl ?_
 refine Kfo ?_
 unfold Lee at h
 obtain⟨y1,hy1,h2⟩:=Kfw h
 refine go hΓ 9 rfl ?_
 refine Kgx (Lml Tryz.func107 rfl rfl) (Lkk hy1) rfl (nBe rfl) rfl rfl rfl rfl rfl ?_
 refine Kfm hΓ 2 rfl ?_
 refine Kfv 7 [(15,B ((!y1)&&(!(empty&&((s:Str)==[])))))] [] ?_ ?_
 ·refine Krj rfl rfl (fun hb=>?_) (fun hb=>?_)
  ·refine Kfm hΓ 2 rfl ?_
   refine Kfv 3 [(8,B true),(13,B (empty&&((s:Str)==[])))] [] ?_ ?_
   ·refine Krj rfl rfl (fun hb=>?_) (fun hb=>?_)
    ·refine Kfm hΓ 4 rfl ?_
     exact⟨⟨rfl,Kex rfl (Kho hb),tV⟩,[],rfl,.inl rfl⟩
    refine Kfm hΓ 4 rfl ?_
    exact⟨⟨rfl,Kex rfl (Khp hb),tV⟩,[],rfl,.inl rfl⟩
   refine Kfm hΓ 3 rfl ?_
   exact⟨⟨Kex rfl (Kho hb),tV⟩,[],rfl,.inl rfl⟩
  refine Kfm hΓ 8 rfl ?_
  exact⟨⟨Kex rfl (Khp hb),tV⟩,[],rfl,.inl rfl⟩
 refine Kfm hΓ 2 rfl ?_
 refine Kfp rfl (fun hb=>?_) (fun hb=>?_)
 ·have h3:=cT h2 hb
  refine go hΓ 7 rfl ?_
  obtain rfl:=oSi h3
  exact Khi hΓ (.inr rfl) rfl rfl
 have h4:=cF h2 hb
 refine go hΓ 8 rfl ?_
 obtain rfl:=oSi h4
 exact Khi hΓ (.inr rfl) rfl rfl
theorem Lks{s:Str}{r:Bool}(h:Lef s=some r):Pure Tryz.prog 151 [S s] (B r):=by
 refine Pure.enter (Fr.of 0 _) Tryz.func151 rfl (Fr.of_ok _) rfl rfl ?_
 refine Kfo ?_
 unfold Lef at h
 refine go hΓ 10 rfl ?_
 refine Kfv 4 [(0,S s),(2,B false),(9,B ((!((s:Str)==[]))&&(decide (((s.length:Int):Int)≤20))))] [] ?_ ?_
 ·refine Krj rfl rfl (fun hb=>?_) (fun hb=>?_)
  ·refine Kfm hΓ 5 rfl ?_
   exact⟨⟨rfl,rfl,Kex rfl (Kho hb),tV⟩,[],rfl,.inl rfl⟩
  refine Kfm hΓ 5 rfl ?_
  exact⟨⟨rfl,rfl,Kex rfl (Khp hb),tV⟩,[],rfl,.inl rfl⟩
 refine Kfm hΓ 1 rfl ?_
 obtain⟨q1,hq1,h2⟩:=Kfw h
 refine Kfv 4 [(2,B false),(14,B q1)] [] ?_ ?_
 ·refine Krj rfl rfl (fun hb=>?_) (fun hb=>?_)
  ·have h3:=cT hq1 hb
   obtain⟨y4,hy4,h5⟩:=Kfw h3
   refine Kfm hΓ 1 rfl ?_
   refine Krh rfl ?_
   refine Kgx (Lml Tryz.func153 rfl rfl) (Lbl hy4) rfl (nBe rfl) rfl rfl rfl rfl rfl ?_
   refine Kfm hΓ 3 rfl ?_
   obtain rfl:=oSi h5
   exact⟨⟨rfl,rfl,tV⟩,[],rfl,.inl rfl⟩
  have h6:=cF hq1 hb
  refine Kfm hΓ 5 rfl ?_
  obtain rfl:=oSi h6
  exact⟨⟨rfl,rfl,tV⟩,[],rfl,.inl rfl⟩
 refine Kfm hΓ 4 rfl ?_
 obtain rfl:=oSi h2
 exact Khi hΓ (.inr rfl) rfl rfl
theorem Lkt{k:Nat}{l:List Str}{r:Int}(h:Leg k l=some r):Pure Tryz.prog 271 [.d (Sl eS l)] (I r):=by
 refine Pure.enter (Fr.of 0 _) Tryz.func271 rfl (Fr.of_ok _) rfl rfl ?_
 refine Kfo ?_
 unfold Leg at h
 refine go hΓ 13 rfl ?_
 refine Kfp rfl (fun hb=>?_) (fun hb=>?_)
 ·have h1:=cT h hb
  refine go hΓ 7 rfl ?_
  obtain rfl:=oSi h1
  exact Khi hΓ (.inr rfl) rfl rfl
 have h2:=cF h hb
 obtain⟨y3,hy3,h4⟩:=Kfw h2
 refine go hΓ 5 rfl ?_
 refine Kgx (Lml Tryz.func106 rfl rfl) (Lkl hy3) rfl (nBe rfl) rfl rfl rfl rfl rfl ?_
 refine Kfm hΓ 4 rfl ?_
 obtain rfl:=oSi h4
 exact Khi hΓ (.inr rfl) rfl rfl
theorem Lku{n:Int}{r:Int}(h:Leh n=some r):Pure Tryz.prog 272 [I n] (I r):=by
 refine Pure.enter (Fr.of 0 _) Tryz.func272 rfl (Fr.of_ok _) rfl rfl ?_
 refine Kfo ?_
 unfold Leh at h
 obtain⟨y1,hy1,h2⟩:=Kfw h
 refine go hΓ 9 rfl ?_
 refine Kgx (Lml Tryz.func108 rfl rfl) (Lkm hy1) rfl (nBe rfl) rfl rfl rfl rfl rfl ?_
 refine Kfm hΓ 2 rfl ?_
 refine Kfp rfl (fun hb=>?_) (fun hb=>?_)
 ·have h3:=cT h2 hb
  refine go hΓ 7 rfl ?_
  obtain rfl:=oSi h3
  exact Khi hΓ (.inr rfl) rfl rfl
 have h4:=cF h2 hb
 refine go hΓ 8 rfl ?_
 obtain rfl:=oSi h4
 exact Khi hΓ (.inr rfl) rfl rfl
theorem Lkv{k:Nat}{s:Lby}{field:Int}{r:Int}(h:Lei k s field=some r):Pure Tryz.prog 193 [.agg (fS s),I field] (I r):=by
 refine Pure.enter (Fr.of 0 _) Tryz.func193 rfl (Fr.of_ok _) rfl rfl ?_
 refine Kfo ?_
 unfold Lei at h
 refine go hΓ 2 rfl ?_
 refine Ksq rfl rfl rfl rfl (nBe rfl) ?_
 obtain⟨q1,hq1,h2⟩:=Kfw h
 refine Kfm hΓ 17 rfl ?_
 refine Kjt (q:=q1) (fun a3=>[]) (fun a3=>[.box 37 (fS s)]) ?_ ?_
 ·refine go hΓ 7 rfl ?_
  refine Kfp rfl (fun hb=>?_) (fun hb=>?_)
  ·have h4:=cT hq1 hb
   obtain⟨y5,hy5,h6⟩:=Kfw h4
   refine go hΓ 5 rfl ?_
   refine Kgx (Lml Tryz.func270 rfl rfl) (Lkr hy5) rfl (nBe rfl) rfl rfl rfl rfl rfl ?_
   refine Kfm hΓ 5 rfl ?_
   obtain⟨v7,hv7,h8⟩:=Kfw h6
   obtain rfl:=oSi h8
   obtain rfl:=oSi h2
   refine go hΓ 2 rfl ?_
   obtain rfl:=oSi hv7
   exact Khi hΓ (.inr rfl) rfl rfl
  have h9:=cF hq1 hb
  refine go hΓ 6 rfl ?_
  refine Kfp rfl (fun hb=>?_) (fun hb=>?_)
  ·have h10:=cT h9 hb
   obtain⟨y11,hy11,h12⟩:=Kfw h10
   refine go hΓ 4 rfl ?_
   refine Kgx (Lml Tryz.func270 rfl rfl) (Lkr hy11) rfl (nBe rfl) rfl rfl rfl rfl rfl ?_
   refine Kfm hΓ 5 rfl ?_
   obtain⟨v13,hv13,h14⟩:=Kfw h12
   obtain rfl:=oSi h14
   obtain rfl:=oSi h2
   refine go hΓ 2 rfl ?_
   obtain rfl:=oSi hv13
   exact Khi hΓ (.inr rfl) rfl rfl
  have h15:=cF h9 hb
  refine go hΓ 6 rfl ?_
  refine Kfp rfl (fun hb=>?_) (fun hb=>?_)
  ·have h16:=cT h15 hb
   obtain⟨y17,hy17,h18⟩:=Kfw h16
   refine go hΓ 5 rfl ?_
   refine Kgx (Lml Tryz.func270 rfl rfl) (Lkr hy17) rfl (nBe rfl) rfl rfl rfl rfl rfl ?_
   refine Kfm hΓ 5 rfl ?_
   obtain⟨v19,hv19,h20⟩:=Kfw h18
   obtain rfl:=oSi h20
   obtain rfl:=oSi h2
   refine go hΓ 2 rfl ?_
   obtain rfl:=oSi hv19
   exact Khi hΓ (.inr rfl) rfl rfl
  have h21:=cF h15 hb
  refine go hΓ 6 rfl ?_
  refine Kfp rfl (fun hb=>?_) (fun hb=>?_)
  ·have h22:=cT h21 hb
   obtain⟨y23,hy23,h24⟩:=Kfw h22
   refine go hΓ 4 rfl ?_
   refine Kgx (Lml Tryz.func151 rfl rfl) (Lks hy23) rfl (nBe rfl) rfl rfl rfl rfl rfl ?_
   refine Kfm hΓ 3 rfl ?_
   refine Kfp rfl (fun hb=>?_) (fun hb=>?_)
   ·have h25:=cT h24 hb
    refine go hΓ 7 rfl ?_
    obtain⟨v26,hv26,h27⟩:=Kfw h25
    obtain rfl:=oSi h27
    obtain rfl:=oSi h2
    refine go hΓ 2 rfl ?_
    obtain rfl:=oSi hv26
    exact Khi hΓ (.inr rfl) rfl rfl
   have h28:=cF h24 hb
   refine go hΓ 2 rfl ?_
   obtain rfl:=oSi h28
   exact⟨_,rfl,⟨tV,[],rfl,.inl rfl⟩⟩
  have h29:=cF h21 hb
  refine go hΓ 6 rfl ?_
  refine Kfp rfl (fun hb=>?_) (fun hb=>?_)
  ·have h30:=cT h29 hb
   obtain⟨y31,hy31,h32⟩:=Kfw h30
   refine go hΓ 4 rfl ?_
   refine Kgx (Lml Tryz.func270 rfl rfl) (Lkr hy31) rfl (nBe rfl) rfl rfl rfl rfl rfl ?_
   refine Kfm hΓ 5 rfl ?_
   obtain⟨v33,hv33,h34⟩:=Kfw h32
   obtain rfl:=oSi h34
   obtain rfl:=oSi h2
   refine go hΓ 2 rfl ?_
   obtain rfl:=oSi hv33
   exact Khi hΓ (.inr rfl) rfl rfl
  have h35:=cF h29 hb
  refine go hΓ 6 rfl ?_
  refine Kfp rfl (fun hb=>?_) (fun hb=>?_)
  ·have h36:=cT h35 hb
   obtain⟨y37,hy37,h38⟩:=Kfw h36
   refine go hΓ 4 rfl ?_
   refine Kgx (Lml Tryz.func271 rfl rfl) (Lkt hy37) rfl (nBe rfl) rfl rfl rfl rfl rfl ?_
   refine Kfm hΓ 5 rfl ?_
   obtain⟨v39,hv39,h40⟩:=Kfw h38
   obtain rfl:=oSi h40
   obtain rfl:=oSi h2
   refine go hΓ 2 rfl ?_
   obtain rfl:=oSi hv39
   exact Khi hΓ (.inr rfl) rfl rfl
  have h41:=cF h35 hb
  refine go hΓ 6 rfl ?_
  refine Kfp rfl (fun hb=>?_) (fun hb=>?_)
  ·have h42:=cT h41 hb
   obtain⟨y43,hy43,h44⟩:=Kfw h42
   refine go hΓ 4 rfl ?_
   refine Kgx (Lml Tryz.func272 rfl rfl) (Lku hy43) rfl (nBe rfl) rfl rfl rfl rfl rfl ?_
   refine Kfm hΓ 5 rfl ?_
   obtain⟨v45,hv45,h46⟩:=Kfw h44
   obtain rfl:=oSi h46
   obtain rfl:=oSi h2
   refine go hΓ 2 rfl ?_
   obtain rfl:=oSi hv45
   exact Khi hΓ (.inr rfl) rfl rfl
  have h47:=cF h41 hb
  refine go hΓ 6 rfl ?_
  refine Kfp rfl (fun hb=>?_) (fun hb=>?_)
  ·have h48:=cT h47 hb
   obtain⟨y49,hy49,h50⟩:=Kfw h48
   refine go hΓ 4 rfl ?_
   refine Kgx (Lml Tryz.func272 rfl rfl) (Lku hy49) rfl (nBe rfl) rfl rfl rfl rfl rfl ?_
   refine Kfm hΓ 5 rfl ?_
   obtain⟨v51,hv51,h52⟩:=Kfw h50
   obtain rfl:=oSi h52
   obtain rfl:=oSi h2
   refine go hΓ 2 rfl ?_
   obtain rfl:=oSi hv51
   exact Khi hΓ (.inr rfl) rfl rfl
  have h53:=cF h47 hb
  refine go hΓ 2 rfl ?_
  obtain rfl:=oSi h53
  exact⟨_,rfl,⟨tV,[],rfl,.inl rfl⟩⟩
 intro a3 ha
 subst ha
 replace h2:=Kjk h2
 refine go hΓ 7 rfl ?_
 obtain rfl:=oSi h2
 exact Khi hΓ (.inr rfl) rfl rfl
theorem Lkw{s:List Int}{v:Int}{r:Int}(h:Lej s v=some r):Pure Tryz.prog 273 [.d (Sl (eN .i64) s),I v] (I r):=by
 refine Pure.enter (Fr.of 0 _) Tryz.func273 rfl (Fr.of_ok _) rfl rfl ?_
 refine Kfo ?_
 unfold Lej at h
 refine go hΓ 13 rfl ?_
 obtain⟨q4,hq4,h5⟩:=Kfw h
 refine Kgf 0 rfl fun hb7=>?_
 refine Kjq (R:=fun a6=>q4=.go a6) (fun a6=>[]) (fun a6=>[]) ?_ ?_
 ·refine go hΓ 1 rfl ?_
  refine Kge s hq4 (fun i1 s2=>[(0,.d (Sl (eN .i64) s)),(1,I v),(7,I (s.length:Int)),(8,I (i1:Int))]) (fun s2=>[]) ⟨⟨rfl,rfl,rfl,rfl,tV⟩,[],rfl,.inl rfl⟩ (fun i1 x3 s2 y11 hx8 hlt hy9 hout10=>?_) (fun s2 hgo=>?_)
  ·refine go hΓ 6 rfl ?_
   refine Kfq rfl (decide_eq_true (Int.ofNat_lt.2 hlt)) ?_
   refine go hΓ 15 rfl ?_
   refine eo_o rfl (Kgg hΓ (enc:=(eN .i64)) (Kfz hx8) rfl rfl rfl rfl rfl (fun _=>rfl)) ?_
   refine Kfm hΓ 4 rfl ?_
   refine Kfp rfl (fun hb=>?_) (fun hb=>?_)
   ·have h12:=cT hy9 hb
    refine go hΓ 9 rfl ?_
    obtain⟨v13,hv13,h14⟩:=Kfw h12
    obtain rfl:=oSi h14
    obtain rfl:=hout10 _ rfl
    obtain rfl:=oSi h5
    refine go hΓ 4 rfl ?_
    obtain rfl:=oSi hv13
    exact Khi hΓ (.inr rfl) rfl rfl
   have h15:=cF hy9 hb
   refine go hΓ 7 rfl ?_
   obtain rfl:=oSi h15
   exact⟨_,rfl,⟨⟨rfl,rfl,rfl,Kew rfl (Kev (nLl hlt hb7)),tV⟩,[],rfl,.inl rfl⟩⟩
  subst hgo
  refine go hΓ 6 rfl ?_
  refine Kfr rfl (decide_eq_false (Int.lt_irrefl _)) ?_
  refine go hΓ 4 rfl ?_
  exact⟨_,rfl,⟨tV,[],rfl,.inl rfl⟩⟩
 intro a6 ha
 subst ha
 replace h5:=Kjl h5
 refine go hΓ 7 rfl ?_
 obtain rfl:=oSi h5
 exact Khi hΓ (.inr rfl) rfl rfl
theorem Lkx{s:List Int}{v:Int}{r:Bool}(h:Lek s v=some r):Pure Tryz.prog 194 [.d (Sl (eN .i64) s),I v] (B r):=by
 refine Pure.enter (Fr.of 0 _) Tryz.func194 rfl (Fr.of_ok _) rfl rfl ?_
 refine Kfo ?_
 unfold Lek at h
 obtain⟨y1,hy1,h2⟩:=Kfw h
 refine go hΓ 9 rfl ?_
 refine Kgx (Lml Tryz.func273 rfl rfl) (Lkw hy1) rfl (nBe rfl) rfl rfl rfl rfl rfl ?_
 refine Kfm hΓ 5 rfl ?_
 obtain rfl:=oSi h2
 exact Khi hΓ (.inr rfl) rfl rfl
theorem Lky{s:Lby}{field:Int}{r:Bool}(h:Lel s field=some r):Pure Tryz.prog 195 [.agg (fS s),I field] (B r):=by
 refine Pure.enter (Fr.of 0 _) Tryz.func195 rfl (Fr.of_ok _) rfl rfl ?_
 refine Kfo ?_
 unfold Lel at h
 refine go hΓ 2 rfl ?_
 refine Ksq rfl rfl rfl rfl (nBe rfl) ?_
 refine Kfm hΓ 16 rfl ?_
 refine Kfp rfl (fun hb=>?_) (fun hb=>?_)
 ·have h1:=cT h hb
  refine go hΓ 11 rfl ?_
  obtain rfl:=oSi h1
  exact Khi hΓ (.inr rfl) rfl rfl
 have h2:=cF h hb
 refine go hΓ 6 rfl ?_
 refine Kfp rfl (fun hb=>?_) (fun hb=>?_)
 ·have h3:=cT h2 hb
  refine go hΓ 11 rfl ?_
  obtain rfl:=oSi h3
  exact Khi hΓ (.inr rfl) rfl rfl
 have h4:=cF h2 hb
 refine go hΓ 6 rfl ?_
 refine Kfp rfl (fun hb=>?_) (fun hb=>?_)
 ·have h5:=cT h4 hb
  refine go hΓ 11 rfl ?_
  obtain rfl:=oSi h5
  exact Khi hΓ (.inr rfl) rfl rfl
 have h6:=cF h4 hb
 refine go hΓ 6 rfl ?_
 refine Kfp rfl (fun hb=>?_) (fun hb=>?_)
 ·have h7:=cT h6 hb
  refine go hΓ 11 rfl ?_
  obtain rfl:=oSi h7
  exact Khi hΓ (.inr rfl) rfl rfl
 have h8:=cF h6 hb
 refine go hΓ 6 rfl ?_
 refine Kfp rfl (fun hb=>?_) (fun hb=>?_)
 ·have h9:=cT h8 hb
  refine go hΓ 11 rfl ?_
  obtain rfl:=oSi h9
  exact Khi hΓ (.inr rfl) rfl rfl
 have h10:=cF h8 hb
 refine go hΓ 6 rfl ?_
 refine Kfp rfl (fun hb=>?_) (fun hb=>?_)
 ·have h11:=cT h10 hb
  refine go hΓ 12 rfl ?_
  obtain rfl:=oSi h11
  exact Khi hΓ (.inr rfl) rfl rfl
 have h12:=cF h10 hb
 refine go hΓ 6 rfl ?_
 refine Kfp rfl (fun hb=>?_) (fun hb=>?_)
 ·have h13:=cT h12 hb
  refine go hΓ 11 rfl ?_
  obtain rfl:=oSi h13
  exact Khi hΓ (.inr rfl) rfl rfl
 have h14:=cF h12 hb
 refine go hΓ 6 rfl ?_
 refine Kfp rfl (fun hb=>?_) (fun hb=>?_)
 ·have h15:=cT h14 hb
  refine go hΓ 11 rfl ?_
  obtain rfl:=oSi h15
  exact Khi hΓ (.inr rfl) rfl rfl
 have h16:=cF h14 hb
 refine go hΓ 12 rfl ?_
 obtain rfl:=oSi h16
 exact Khi hΓ (.inr rfl) rfl rfl
theorem Lkz{k:Nat}{s:Lby}{r:Int}(h:Lem k s=some r):Pure Tryz.prog 88 [.agg (fS s)] (I r):=by
 refine Pure.enter (Fr.of 0 _) Tryz.func88 rfl (Fr.of_ok _) rfl rfl ?_
 refine Kfo ?_
 unfold Lem at h
 refine go hΓ 2 rfl ?_
 refine Ksq rfl rfl rfl rfl (nBe rfl) ?_
 obtain⟨y1,hy1,h2⟩:=Kfw h
 refine Kfm hΓ 9 rfl ?_
 refine Kgx (Lml Tryz.func138 rfl rfl) (Lko hy1) rfl (nBe rfl) rfl rfl rfl rfl rfl ?_
 refine Kfm hΓ 4 rfl ?_
 refine Kfp rfl (fun hb=>?_) (fun hb=>?_)
 ·have h3:=cT h2 hb
  refine go hΓ 8 rfl ?_
  obtain rfl:=oSi h3
  exact Khi hΓ (.inr rfl) rfl rfl
 have h4:=cF h2 hb
 obtain⟨y5,hy5,h6⟩:=Kfw h4
 refine go hΓ 4 rfl ?_
 refine Kgx (Lml Tryz.func107 rfl rfl) (Lkk hy5) rfl (nBe rfl) rfl rfl rfl rfl rfl ?_
 refine Kfm hΓ 4 rfl ?_
 refine Kfp rfl (fun hb=>?_) (fun hb=>?_)
 ·have h7:=cT h6 hb
  refine go hΓ 8 rfl ?_
  obtain rfl:=oSi h7
  exact Khi hΓ (.inr rfl) rfl rfl
 have h8:=cF h6 hb
 obtain⟨y9,hy9,h10⟩:=Kfw h8
 refine go hΓ 4 rfl ?_
 refine Kgx (Lml Tryz.func108 rfl rfl) (Lkm hy9) rfl (nBe rfl) rfl rfl rfl rfl rfl ?_
 refine Kfm hΓ 3 rfl ?_
 refine Kfp rfl (fun hb=>?_) (fun hb=>?_)
 ·have h11:=cT h10 hb
  refine go hΓ 8 rfl ?_
  obtain rfl:=oSi h11
  exact Khi hΓ (.inr rfl) rfl rfl
 have h12:=cF h10 hb
 obtain⟨y13,hy13,h14⟩:=Kfw h12
 refine go hΓ 4 rfl ?_
 refine Kgx (Lml Tryz.func108 rfl rfl) (Lkm hy13) rfl (nBe rfl) rfl rfl rfl rfl rfl ?_
 refine Kfm hΓ 3 rfl ?_
 refine Kfp rfl (fun hb=>?_) (fun hb=>?_)
 ·have h15:=cT h14 hb
  refine go hΓ 8 rfl ?_
  obtain rfl:=oSi h15
  exact Khi hΓ (.inr rfl) rfl rfl
 have h16:=cF h14 hb
 obtain⟨y17,hy17,h18⟩:=Kfw h16
 refine go hΓ 7 rfl ?_
 refine Kgx (Lml Tryz.func120 rfl rfl) (Lkq hy17) rfl (nBe rfl) rfl rfl rfl rfl rfl ?_
 refine Kfm hΓ 11 rfl ?_
 obtain⟨q22,hq22,h23⟩:=Kfw h18
 refine Kgf 3 rfl fun hb25=>?_
 refine Kjq (R:=fun a24=>q22=.go a24) (fun a24=>[(1,.ptr 0 0),(3,.d (Sl (eN .i64) y17))]) (fun a24=>[.box 37 (fS s)]) ?_ ?_
 ·refine go hΓ 1 rfl ?_
  refine Kge y17 hq22 (fun i19 s20=>[(1,.ptr 0 0),(3,.d (Sl (eN .i64) y17)),(29,.d (Sl (eN .i64) y17)),(30,I (y17.length:Int)),(31,I (i19:Int))]) (fun s20=>[.box 37 (fS s)]) ⟨⟨rfl,rfl,rfl,rfl,rfl,tV⟩,[],rfl,.inl rfl⟩ (fun i19 x21 s20 y29 hx26 hlt hy27 hout28=>?_) (fun s20 hgo=>?_)
  ·refine go hΓ 6 rfl ?_
   refine Kfq rfl (decide_eq_true (Int.ofNat_lt.2 hlt)) ?_
   refine go hΓ 6 rfl ?_
   refine eo_o rfl (Kgg hΓ (enc:=(eN .i64)) (Kfz hx26) rfl rfl rfl rfl rfl (fun _=>rfl)) ?_
   obtain⟨y30,hy30,h31⟩:=Kfw hy27
   refine Kfm hΓ 8 rfl ?_
   refine Kgx (Lml Tryz.func193 rfl rfl) (Lkv hy30) rfl (nBe rfl) rfl rfl rfl rfl rfl ?_
   refine Kfm hΓ 9 rfl ?_
   refine Kfp rfl (fun hb=>?_) (fun hb=>?_)
   ·have h32:=cT h31 hb
    refine go hΓ 9 rfl ?_
    obtain⟨v33,hv33,h34⟩:=Kfw h32
    obtain rfl:=oSi h34
    obtain rfl:=hout28 _ rfl
    obtain rfl:=oSi h23
    refine go hΓ 4 rfl ?_
    obtain rfl:=oSi hv33
    exact Khi hΓ (.inr rfl) rfl rfl
   have h35:=cF h31 hb
   refine go hΓ 7 rfl ?_
   obtain rfl:=oSi h35
   exact⟨_,rfl,⟨⟨rfl,rfl,rfl,rfl,Kew rfl (Kev (nLl hlt hb25)),tV⟩,[],rfl,.inl rfl⟩⟩
  subst hgo
  refine go hΓ 6 rfl ?_
  refine Kfr rfl (decide_eq_false (Int.lt_irrefl _)) ?_
  refine go hΓ 4 rfl ?_
  exact⟨_,rfl,⟨⟨rfl,rfl,tV⟩,[],rfl,.inl rfl⟩⟩
 intro a24 ha
 subst ha
 replace h23:=Kjl h23
 refine go hΓ 7 rfl ?_
 obtain⟨q39,hq39,h40⟩:=Kfw h23
 refine Kjq (R:=fun a41=>q39=.inl a41) (fun a41=>[]) (fun a41=>[.box 37 (fS s)]) ?_ ?_
 ·refine go hΓ 1 rfl ?_
  refine Kgc hq39 (fun s37=>[(1,.ptr 0 0),(3,.d (Sl (eN .i64) y17)),(42,I s37)]) (fun s37=>[.box 37 (fS s)]) ⟨⟨rfl,rfl,rfl,tV⟩,[],rfl,.inl rfl⟩ (fun s37 y45 hy43 hout44=>?_)
  refine go hΓ 6 rfl ?_
  refine Kfp rfl (fun hb=>?_) (fun hb=>?_)
  ·have h46:=cT hy43 hb
   obtain⟨y47,hy47,h48⟩:=Kfw h46
   refine go hΓ 14 rfl ?_
   refine Kgx (Lml Tryz.func194 rfl rfl) (Lkx hy47) rfl (nBe rfl) rfl rfl rfl rfl rfl ?_
   refine Kfm hΓ 2 rfl ?_
   obtain⟨q49,hq49,h50⟩:=Kfw h48
   refine Kfv 5 [(1,.ptr 0 0),(3,.d (Sl (eN .i64) y17)),(42,I s37),(54,B q49)] [.box 37 (fS s)] ?_ ?_
   ·refine Krj rfl rfl (fun hb=>?_) (fun hb=>?_)
    ·have h51:=cT hq49 hb
     obtain⟨y52,hy52,h53⟩:=Kfw h51
     refine Kfm hΓ 2 rfl ?_
     refine Krh rfl ?_
     refine Kgx (Lml Tryz.func195 rfl rfl) (Lky hy52) rfl (nBe rfl) rfl rfl rfl rfl rfl ?_
     refine Kfm hΓ 3 rfl ?_
     obtain rfl:=oSi h53
     exact⟨⟨rfl,rfl,rfl,rfl,tV⟩,[],rfl,.inl rfl⟩
    have h54:=cF hq49 hb
    refine Kfm hΓ 6 rfl ?_
    obtain rfl:=oSi h54
    exact⟨⟨rfl,rfl,rfl,rfl,tV⟩,[],rfl,.inl rfl⟩
   refine Kfm hΓ 2 rfl ?_
   refine Kfp rfl (fun hb=>?_) (fun hb=>?_)
   ·have h55:=cT h50 hb
    refine go hΓ 8 rfl ?_
    obtain⟨v56,hv56,h57⟩:=Kfw h55
    obtain rfl:=oSi h57
    obtain rfl:=hout44 _ rfl
    obtain rfl:=oSi h40
    refine go hΓ 4 rfl ?_
    obtain rfl:=oSi hv56
    exact Khi hΓ (.inr rfl) rfl rfl
   have h58:=cF h50 hb
   refine go hΓ 7 rfl ?_
   obtain rfl:=oSi h58
   exact⟨_,rfl,⟨⟨rfl,rfl,rfl,tV⟩,[],rfl,.inl rfl⟩⟩
  have h59:=cF hy43 hb
  refine go hΓ 4 rfl ?_
  obtain rfl:=oSi h59
  obtain rfl:=hout44 _ rfl
  exact⟨_,rfl,⟨tV,[],rfl,.inl rfl⟩⟩
 intro a41 ha
 subst ha
 replace h40:=Kjk h40
 refine go hΓ 7 rfl ?_
 obtain rfl:=oSi h40
 exact Khi hΓ (.inr rfl) rfl rfl
theorem Lla{a:Lby}{b:Lby}{r:Int}(h:Len a b=some r):Pure Tryz.prog 89 [.agg (fS a),.agg (fS b)] (I r):=by
 refine Pure.enter (Fr.of 0 _) Tryz.func89 rfl (Fr.of_ok _) rfl rfl ?_
 refine Kfo ?_
 unfold Len at h
 refine go hΓ 2 rfl ?_
 refine Ksq rfl rfl rfl rfl (nBe rfl) ?_
 refine Ksq rfl rfl rfl rfl (nBe rfl) ?_
 refine Kfm hΓ 4 rfl ?_
 refine Kfs hmix (by kernel_rfl) ?_
 obtain⟨y1,hy1,h2⟩:=Kfw h
 refine go hΓ 4 rfl ?_
 refine Kgy (Lml Tryz.func167 rfl rfl) (Lji hy1) rfl rfl rfl rfl rfl rfl ?_
 obtain⟨y3,hy3,h4⟩:=Kfw h2
 refine Kfn hΓ 4 rfl ?_
 refine Kgy (Lml Tryz.func147 rfl rfl) (Lbm hy3) rfl rfl rfl rfl rfl rfl ?_
 obtain⟨y5,hy5,h6⟩:=Kfw h4
 refine Kfn hΓ 4 rfl ?_
 refine Kgy (Lml Tryz.func167 rfl rfl) (Lji hy5) rfl rfl rfl rfl rfl rfl ?_
 refine Kgs hΓ (enc:=(eN .i64)) [y1,y3,y5] rfl rfl rfl rfl rfl rfl rfl rfl rfl rfl rfl rfl ?_
 obtain⟨y7,hy7,h8⟩:=Kfw h6
 refine Kgy (Lml Tryz.func196 rfl rfl) (Ljj hy7) rfl rfl rfl rfl rfl rfl ?_
 refine Kfn hΓ 4 rfl ?_
 obtain rfl:=oSi h8
 exact Khi hΓ (.inr rfl) rfl rfl
theorem Llb{s:Lby}{r:Lca}(h:Leo s=some r):Pure Tryz.prog 92 [.agg (fS s)] (.agg [S r.server,I r.no]):=by
 refine Pure.enter (Fr.of 0 _) Tryz.func92 rfl (Fr.of_ok _) rfl rfl ?_
 refine Kfo ?_
 unfold Leo at h
 refine go hΓ 2 rfl ?_
 refine Ksq rfl rfl rfl rfl (nBe rfl) ?_
 refine Ksp hΓ rfl rfl rfl (nBe rfl) ?_
 refine Kfm hΓ 8 rfl ?_
 refine Kdu hΓ (gs:=[S s.Server,I s.No]) rfl rfl rfl rfl rfl rfl rfl ?_
 refine Ksu hΓ rfl rfl rfl rfl rfl rfl rfl rfl (nBe rfl) ?_
 refine Khe [.box 37 (fS s),.box 150 [S s.Server,I s.No]] rfl ?_
 refine Kfm hΓ 3 rfl ?_
 obtain rfl:=oSi h
 exact Khi hΓ (.inr rfl) rfl rfl
theorem Llc{k:Nat}{l:List Lby}{r:Int}(h:Lep k l=some r):Pure Tryz.prog 33 [.d (Sl Lil l)] (I r):=by
 refine Pure.enter (Fr.of 0 _) Tryz.func33 rfl (Fr.of_ok _) rfl rfl ?_
 refine Kfo ?_
 unfold Lep at h
 refine go hΓ 13 rfl ?_
 refine Kfp rfl (fun hb=>?_) (fun hb=>?_)
 ·have h1:=cT h hb
  refine go hΓ 7 rfl ?_
  obtain rfl:=oSi h1
  exact Khi hΓ (.inr rfl) rfl rfl
 have h2:=cF h hb
 refine go hΓ 4 rfl ?_
 refine eo_s (nBe rfl) (nblt.1 rfl) (Kkn false) ?_
 refine Khe [mOb (kD Lin) false eB ([]:List (Lca×Bool))] rfl ?_
 refine Kfm hΓ 11 rfl ?_
 obtain⟨q6,hq6,h7⟩:=Kfw h2
 refine Kgf 0 rfl fun hb9=>?_
 refine Kjq (R:=fun a8=>q6=.go a8) (fun a8=>[]) (fun a8=>[mOb (kD Lin) false eB a8]) ?_ ?_
 ·refine go hΓ 1 rfl ?_
  refine Kge l hq6 (fun i3 s4=>[(0,.d (Sl Lil l)),(3,.map 0),(11,.d (Sl Lil l)),(12,I (l.length:Int)),(13,I (i3:Int))]) (fun s4=>[mOb (kD Lin) false eB s4]) ⟨⟨rfl,rfl,rfl,rfl,rfl,tV⟩,[],rfl,.inl rfl⟩ (fun i3 x5 s4 y13 hx10 hlt hy11 hout12=>?_) (fun s4 hgo=>?_)
  ·refine go hΓ 6 rfl ?_
   refine Kfq rfl (decide_eq_true (Int.ofNat_lt.2 hlt)) ?_
   refine go hΓ 7 rfl ?_
   refine eo_o rfl (Kgg hΓ (enc:=Lil) (Kfz hx10) rfl rfl rfl rfl rfl (fun _=>rfl)) ?_
   refine Kfm hΓ 1 rfl ?_
   refine Ksp hΓ rfl rfl rfl (nBe rfl) ?_
   refine Kfm hΓ 1 rfl ?_
   refine Ksu hΓ rfl rfl rfl rfl rfl rfl rfl rfl (nBe rfl) ?_
   refine Khe [mOb (kD Lin) false eB s4,.box 37 (fS x5)] rfl ?_
   obtain⟨y14,hy14,h15⟩:=Kfw hy11
   refine Kfm hΓ 6 rfl ?_
   refine Kgx (Lml Tryz.func88 rfl rfl) (Lkz hy14) rfl (nBe rfl) rfl rfl rfl rfl rfl ?_
   refine Kfm hΓ 9 rfl ?_
   refine Kfp rfl (fun hb=>?_) (fun hb=>?_)
   ·have h16:=cT h15 hb
    refine go hΓ 10 rfl ?_
    obtain⟨v17,hv17,h18⟩:=Kfw h16
    obtain rfl:=oSi h18
    obtain rfl:=hout12 _ rfl
    obtain rfl:=oSi h7
    refine go hΓ 4 rfl ?_
    obtain rfl:=oSi hv17
    exact Khi hΓ (.inr rfl) rfl rfl
   have h19:=cF h15 hb
   obtain⟨q20,hq20,h21⟩:=Kfw h19
   refine go hΓ 4 rfl ?_
   refine Kjr [(0,.d (Sl Lil l)),(3,.map 0),(5,.ptr 1 0),(11,.d (Sl Lil l)),(12,I (l.length:Int)),(13,I (i3:Int)),(34,B q20)] [mOb (kD Lin) false eB s4,.box 37 (fS x5)] ?_ ?_
   ·refine Kfs hmix (by kernel_rfl) ?_
    refine go hΓ 3 rfl ?_
    refine Kee rfl rfl (fun hb=>?_) (fun hb=>?_)
    ·have h22:=cT hq20 hb
     obtain⟨x23,hx23,h24⟩:=Kfw h22
     refine Kfn hΓ 3 rfl ?_
     refine Kez rfl rfl (Kgg hΓ (enc:=Lil) hx23 rfl rfl rfl rfl rfl (fun _=>rfl)) ?_
     obtain⟨y25,hy25,h26⟩:=Kfw h24
     refine Kfn hΓ 2 rfl ?_
     refine Kgz (Lml Tryz.func89 rfl rfl) (Lla hy25) rfl rfl rfl rfl rfl rfl rfl ?_
     refine Kfn hΓ 3 rfl ?_
     obtain rfl:=oSi h26
     exact⟨⟨rfl,rfl,rfl,rfl,rfl,rfl,rfl,tV⟩,[],rfl,.inl rfl⟩
    have h27:=cF hq20 hb
    refine Kfn hΓ 10 rfl ?_
    obtain rfl:=oSi h27
    exact⟨⟨rfl,rfl,rfl,rfl,rfl,rfl,rfl,tV⟩,[],rfl,.inl rfl⟩
   refine go hΓ 1 rfl ?_
   refine Kfp rfl (fun hb=>?_) (fun hb=>?_)
   ·have h28:=cT h21 hb
    refine go hΓ 9 rfl ?_
    obtain⟨v29,hv29,h30⟩:=Kfw h28
    obtain rfl:=oSi h30
    obtain rfl:=hout12 _ rfl
    obtain rfl:=oSi h7
    refine go hΓ 4 rfl ?_
    obtain rfl:=oSi hv29
    exact Khi hΓ (.inr rfl) rfl rfl
   have h31:=cF h21 hb
   obtain⟨y32,hy32,h33⟩:=Kfw h31
   refine go hΓ 7 rfl ?_
   refine Kgx (Lml Tryz.func92 rfl rfl) (Llb hy32) rfl (nBe rfl) rfl rfl rfl rfl rfl ?_
   refine eo_o rfl (Kns hΓ (kenc:=Lin) (agg:=false) (enc:=eB) s4 y32 (false:Bool) rfl rfl rfl Lkp (fun _=>rfl) rfl rfl rfl rfl rfl rfl rfl) ?_
   refine Kfm hΓ 2 rfl ?_
   refine Kfp rfl (fun hb=>?_) (fun hb=>?_)
   ·have h34:=cT h33 hb
    refine go hΓ 9 rfl ?_
    obtain⟨v35,hv35,h36⟩:=Kfw h34
    obtain rfl:=oSi h36
    obtain rfl:=hout12 _ rfl
    obtain rfl:=oSi h7
    refine go hΓ 4 rfl ?_
    obtain rfl:=oSi hv35
    exact Khi hΓ (.inr rfl) rfl rfl
   have h37:=cF h33 hb
   obtain⟨y38,hy38,h39⟩:=Kfw h37
   refine go hΓ 5 rfl ?_
   refine Kgx (Lml Tryz.func92 rfl rfl) (Llb hy38) rfl (nBe rfl) rfl rfl rfl rfl rfl ?_
   refine eo_u (nBe rfl) (Knt hΓ (kenc:=Lin) (agg:=false) (enc:=eB) (id:=0) s4 y38 true rfl rfl Lkp (fun _=>rfl) rfl rfl rfl rfl rfl) ?_
   refine Khe [mOb (kD Lin) false eB (mSet s4 y38 true),.box 37 (fS x5)] rfl ?_
   refine Kfm hΓ 7 rfl ?_
   obtain rfl:=oSi h39
   exact⟨_,rfl,⟨⟨rfl,rfl,rfl,rfl,Kew rfl (Kev (nLl hlt hb9)),tV⟩,[_],rfl,.inr ⟨HB.mk rfl,FB.mk rfl,(nBe rfl)⟩⟩⟩
  subst hgo
  refine go hΓ 6 rfl ?_
  refine Kfr rfl (decide_eq_false (Int.lt_irrefl _)) ?_
  refine go hΓ 4 rfl ?_
  exact⟨_,rfl,⟨tV,[],rfl,.inl rfl⟩⟩
 intro a8 ha
 subst ha
 replace h7:=Kjl h7
 refine go hΓ 7 rfl ?_
 obtain rfl:=oSi h7
 exact Khi hΓ (.inr rfl) rfl rfl
theorem Lld{k:Nat}{d:Lbx}{l:List Lby}{r:Int}(h:Leq k d l=some r):Pure Tryz.prog 85 [.agg (fD d),.d (Sl Lil l)] (I r):=by
 refine Pure.enter (Fr.of 0 _) Tryz.func85 rfl (Fr.of_ok _) rfl rfl ?_
 refine Kfo ?_
 unfold Leq at h
 refine go hΓ 2 rfl ?_
 refine Ksq rfl rfl rfl rfl (nBe rfl) ?_
 obtain⟨y1,hy1,h2⟩:=Kfw h
 refine Kfm hΓ 7 rfl ?_
 refine Kgx (Lml Tryz.func29 rfl rfl) (Lkn hy1) rfl (nBe rfl) rfl rfl rfl rfl rfl ?_
 refine Kfm hΓ 9 rfl ?_
 refine Kfp rfl (fun hb=>?_) (fun hb=>?_)
 ·have h3:=cT h2 hb
  refine go hΓ 8 rfl ?_
  obtain rfl:=oSi h3
  exact Khi hΓ (.inr rfl) rfl rfl
 have h4:=cF h2 hb
 obtain⟨y5,hy5,h6⟩:=Kfw h4
 refine go hΓ 5 rfl ?_
 refine Kgx (Lml Tryz.func33 rfl rfl) (Llc hy5) rfl (nBe rfl) rfl rfl rfl rfl rfl ?_
 refine Kfm hΓ 4 rfl ?_
 obtain rfl:=oSi h6
 exact Khi hΓ (.inr rfl) rfl rfl
theorem Lle{d:Lbx}{r:Lcd}(h:Ler d=some r):EC Tryz.prog 86 [.agg (fD d)] [] fun g hp'=>g=.ptr 4 0∧hp'=[mObB r.users,mObH r.passes,mObM r.there,mObT r.story,.box 206 [.d (Sl eS r.d.Users),.d (Sl Lij r.d.Owners),I r.d.Life,B r.d.Approve,.map 0,.map 1,.map 2,.map 3]]:=by
 refine Klr (Fr.of 0 _) Tryz.func86 rfl (Fr.of_ok _) (nBe rfl) fun _=>?_
 refine Kfo ?_
 unfold Ler at h
 refine go hΓ 2 rfl ?_
 refine Ksq rfl rfl rfl rfl (nBe rfl) ?_
 refine Kfm hΓ 6 rfl ?_
 refine eo_s (nBe rfl) (nblt.1 rfl) (Kkn false) ?_
 refine Khe [.box 29 (fD d),mObB ([]:List (Str×Bool))] rfl ?_
 refine eo_s (nBe rfl) (nblt.1 rfl) (Kkn false) ?_
 refine Khe [.box 29 (fD d),mObB ([]:List (Str×Bool)),mObH ([]:List (Str×Nat))] rfl ?_
 refine eo_s (nBe rfl) (nblt.1 rfl) (Kkn true) ?_
 refine Khe [.box 29 (fD d),mObB ([]:List (Str×Bool)),mObH ([]:List (Str×Nat)),mObM ([]:List (Str×Lcb))] rfl ?_
 refine eo_s (nBe rfl) (nblt.1 rfl) (Kkn false) ?_
 refine Khe [.box 29 (fD d),mObB ([]:List (Str×Bool)),mObH ([]:List (Str×Nat)),mObM ([]:List (Str×Lcb)),mObT ([]:List (Str×(Tl Lcc)))] rfl ?_
 refine Kdu hΓ (gs:=[.d (Sl eS d.Users),.d (Sl Lij d.Owners),I d.Life,B d.Approve,.map 1,.map 2,.map 3,.map 4]) rfl rfl rfl rfl rfl rfl rfl ?_
 refine Ksq rfl rfl rfl rfl (nBe rfl) ?_
 refine Kfm hΓ 12 rfl ?_
 obtain⟨q4,hq4,h5⟩:=Kfw h
 refine Kgf 14 rfl fun hb7=>?_
 refine Kjr [(3,.ptr 5 0)] [.box 29 (fD d),mObB q4,mObH ([]:List (Str×Nat)),mObM ([]:List (Str×Lcb)),mObT ([]:List (Str×(Tl Lcc))),.box 206 [.d (Sl eS d.Users),.d (Sl Lij d.Owners),I d.Life,B d.Approve,.map 1,.map 2,.map 3,.map 4]] ?_ ?_
 ·refine go hΓ 1 rfl ?_
  refine Khl d.Users hq4 (fun i1 s2=>[(3,.ptr 5 0),(14,.d (Sl eS d.Users)),(15,I (d.Users.length:Int)),(16,I (i1:Int))]) (fun s2=>[.box 29 (fD d),mObB s2,mObH ([]:List (Str×Nat)),mObM ([]:List (Str×Lcb)),mObT ([]:List (Str×(Tl Lcc))),.box 206 [.d (Sl eS d.Users),.d (Sl Lij d.Owners),I d.Life,B d.Approve,.map 1,.map 2,.map 3,.map 4]]) ⟨⟨rfl,rfl,rfl,rfl,tV⟩,[],rfl,.inl rfl⟩ (fun i1 x3 s2 y11 hx8 hlt hy9=>?_) (?_)
  ·refine go hΓ 6 rfl ?_
   refine Kfq rfl (decide_eq_true (Int.ofNat_lt.2 hlt)) ?_
   refine go hΓ 6 rfl ?_
   refine eo_o rfl (Kgg hΓ (enc:=eS) (Kfz hx8) rfl rfl rfl rfl rfl (fun _=>rfl)) ?_
   refine Kfm hΓ 10 rfl ?_
   refine eo_u (nBe rfl) (Kkv hΓ (kv:=kS) (agg:=false) (enc:=eB) (id:=1) s2 x3 true rfl rfl rfl Kkh rfl rfl rfl rfl rfl) ?_
   refine Khe [.box 29 (fD d),mObB (mSet s2 x3 true),mObH ([]:List (Str×Nat)),mObM ([]:List (Str×Lcb)),mObT ([]:List (Str×(Tl Lcc))),.box 206 [.d (Sl eS d.Users),.d (Sl Lij d.Owners),I d.Life,B d.Approve,.map 1,.map 2,.map 3,.map 4]] rfl ?_
   refine Kfm hΓ 7 rfl ?_
   obtain rfl:=oSi hy9
   exact⟨⟨rfl,rfl,rfl,Kew rfl (Kev (nLl hlt hb7)),tV⟩,[],rfl,.inl rfl⟩
  refine go hΓ 6 rfl ?_
  refine Kfr rfl (decide_eq_false (Int.lt_irrefl _)) ?_
  refine go hΓ 4 rfl ?_
  exact⟨⟨rfl,tV⟩,[],rfl,.inl rfl⟩
 refine go hΓ 8 rfl ?_
 refine Klm 0 [.dead,mObB q4,mObH ([]:List (Str×Nat)),mObM ([]:List (Str×Lcb)),mObT ([]:List (Str×(Tl Lcc))),.box 206 [.d (Sl eS d.Users),.d (Sl Lij d.Owners),I d.Life,B d.Approve,.map 1,.map 2,.map 3,.map 4]] rfl (nBe rfl) ?_
 refine Kjp 1 0 [mObB q4,.dead,mObH ([]:List (Str×Nat)),mObM ([]:List (Str×Lcb)),mObT ([]:List (Str×(Tl Lcc))),.box 206 [.d (Sl eS d.Users),.d (Sl Lij d.Owners),I d.Life,B d.Approve,.map 0,.map 2,.map 3,.map 4]] rfl rfl rfl rfl rfl rfl ?_
 refine Kjp 2 1 [mObB q4,mObH ([]:List (Str×Nat)),.dead,mObM ([]:List (Str×Lcb)),mObT ([]:List (Str×(Tl Lcc))),.box 206 [.d (Sl eS d.Users),.d (Sl Lij d.Owners),I d.Life,B d.Approve,.map 0,.map 1,.map 3,.map 4]] rfl rfl rfl rfl rfl rfl ?_
 refine Kjp 3 2 [mObB q4,mObH ([]:List (Str×Nat)),mObM ([]:List (Str×Lcb)),.dead,mObT ([]:List (Str×(Tl Lcc))),.box 206 [.d (Sl eS d.Users),.d (Sl Lij d.Owners),I d.Life,B d.Approve,.map 0,.map 1,.map 2,.map 4]] rfl rfl rfl rfl rfl rfl ?_
 refine Kjp 4 3 [mObB q4,mObH ([]:List (Str×Nat)),mObM ([]:List (Str×Lcb)),mObT ([]:List (Str×(Tl Lcc))),.dead,.box 206 [.d (Sl eS d.Users),.d (Sl Lij d.Owners),I d.Life,B d.Approve,.map 0,.map 1,.map 2,.map 3]] rfl rfl rfl rfl rfl rfl ?_
 refine Kjp 5 4 [mObB q4,mObH ([]:List (Str×Nat)),mObM ([]:List (Str×Lcb)),mObT ([]:List (Str×(Tl Lcc))),.box 206 [.d (Sl eS d.Users),.d (Sl Lij d.Owners),I d.Life,B d.Approve,.map 0,.map 1,.map 2,.map 3],.dead] rfl rfl rfl rfl rfl rfl ?_
 refine Kjn ?_
 obtain rfl:=oSi h5
 exact Khj hΓ [_] (.inr rfl) rfl rfl rfl rfl (.inr ⟨HB.mk rfl,rfl⟩)
theorem Llf{p:Nat}{v_at:Int}{al:BagT}{r:Int}(h:Les p v_at al=some r):EC Tryz.prog 264 [.d (.hd (some 0) p),I v_at] [bg al] fun g hp'=>g=I r∧hp'=[bg al]:=by
 refine Krb (Fr.of 0 _) Tryz.func264 rfl (Fr.of_ok _) (nBe rfl) fun _=>?_
 refine Kfo ?_
 unfold Les at h
 refine go hΓ 10 rfl ?_
 refine eo_o rfl ((Knj hΓ rfl rfl rfl rfl).1) ?_
 refine Kfm hΓ 3 rfl ?_
 refine Kfp rfl (fun hb=>?_) (fun hb=>?_)
 ·have h1:=cT h hb
  refine go hΓ 8 rfl ?_
  obtain rfl:=oSi h1
  exact Khj hΓ [] (.inr rfl) rfl rfl rfl rfl (.inl rfl)
 have h2:=cF h hb
 obtain⟨hg4,h3⟩:=Kfx h2
 refine go hΓ 3 rfl ?_
 refine eo_o rfl (Kos hg4 rfl) ?_
 refine eo_o rfl (Kot hΓ hg4 rfl rfl rfl rfl rfl rfl) ?_
 obtain⟨m5,hm5,h6⟩:=Kfw h3
 refine eo_o rfl (Kou hΓ (enc:=Lir) (bg:=0) m5 rfl rfl (ArU.l _ (Kmy (fun _ _=>rfl) hm5 m5)) rfl (g:=B m5.revoked) rfl rfl) ?_
 refine Kfm hΓ 1 rfl ?_
 obtain⟨q7,hq7,h8⟩:=Kfw h6
 refine Kfv 8 [(0,.d (.hd (some 0) p)),(21,B q7)] [bg al] ?_ ?_
 ·refine Krj rfl rfl (fun hb=>?_) (fun hb=>?_)
  ·have h9:=cT hq7 hb
   refine Kfm hΓ 9 rfl ?_
   obtain rfl:=oSi h9
   exact⟨⟨rfl,rfl,tV⟩,[],rfl,.inl rfl⟩
  have h10:=cF hq7 hb
  obtain⟨hg12,h11⟩:=Kfx h10
  refine Kfm hΓ 2 rfl ?_
  refine Krh rfl ?_
  refine eo_o rfl (Kos hg12 rfl) ?_
  refine Krh rfl ?_
  refine eo_o rfl (Kot hΓ hg12 rfl rfl rfl rfl rfl rfl) ?_
  refine Krh rfl ?_
  refine eo_o rfl (Kot hΓ hg12 rfl rfl rfl rfl rfl rfl) ?_
  obtain⟨m13,hm13,h14⟩:=Kfw h11
  refine Krh rfl ?_
  refine eo_o rfl (Kou hΓ (enc:=Lir) (bg:=0) m13 rfl rfl (ArU.l _ (Kmy (fun _ _=>rfl) hm13 m13)) rfl (g:=I m13.Join.Until) rfl rfl) ?_
  refine Kfm hΓ 3 rfl ?_
  obtain rfl:=oSi h14
  exact⟨⟨rfl,rfl,tV⟩,[],rfl,.inl rfl⟩
 refine Kfm hΓ 3 rfl ?_
 refine Kfp rfl (fun hb=>?_) (fun hb=>?_)
 ·have h15:=cT h8 hb
  refine go hΓ 8 rfl ?_
  obtain rfl:=oSi h15
  exact Khj hΓ [] (.inr rfl) rfl rfl rfl rfl (.inl rfl)
 have h16:=cF h8 hb
 refine go hΓ 1 rfl ?_
 refine Kfs hmix (by kernel_rfl) ?_
 obtain⟨hg18,h17⟩:=Kfx h16
 refine go hΓ 1 rfl ?_
 refine gl_o rfl (Kos hg18 rfl) ?_
 refine gl_o rfl (Kot hΓ hg18 rfl rfl rfl rfl rfl rfl) ?_
 obtain⟨m19,hm19,h20⟩:=Kfw h17
 refine gl_o rfl (Kou hΓ (enc:=Lir) (bg:=0) m19 rfl rfl (ArU.l _ (Kmy (fun _ _=>rfl) hm19 m19)) rfl (g:=I m19.used) rfl rfl) ?_
 obtain⟨hg22,h21⟩:=Kfx h20
 refine Kfn hΓ 1 rfl ?_
 refine gl_o rfl (Kos hg22 rfl) ?_
 refine gl_o rfl (Kot hΓ hg22 rfl rfl rfl rfl rfl rfl) ?_
 refine gl_o rfl (Kot hΓ hg22 rfl rfl rfl rfl rfl rfl) ?_
 obtain⟨m23,hm23,h24⟩:=Kfw h21
 refine gl_o rfl (Kou hΓ (enc:=Lir) (bg:=0) m23 rfl rfl (ArU.l _ (Kmy (fun _ _=>rfl) hm23 m23)) rfl (g:=I m23.Join.Left) rfl rfl) ?_
 refine Kfn hΓ 4 rfl ?_
 refine Kfp rfl (fun hb=>?_) (fun hb=>?_)
 ·have h25:=cT h24 hb
  refine go hΓ 8 rfl ?_
  obtain rfl:=oSi h25
  exact Khj hΓ [] (.inr rfl) rfl rfl rfl rfl (.inl rfl)
 have h26:=cF h24 hb
 refine go hΓ 9 rfl ?_
 obtain rfl:=oSi h26
 exact Khj hΓ [] (.inr rfl) rfl rfl rfl rfl (.inl rfl)
theorem Llg{n:Lcd}{v_public:Str}{r:Bool}(h:Let n v_public=some r):EC Tryz.prog 265 [.ptr 4 0,S v_public] [mObB n.users,mObH n.passes,mObM n.there,mObT n.story,.box 206 [.d (Sl eS n.d.Users),.d (Sl Lij n.d.Owners),I n.d.Life,B n.d.Approve,.map 0,.map 1,.map 2,.map 3]] fun g hp'=>g=B r∧hp'=[mObB n.users,mObH n.passes,mObM n.there,mObT n.story,.box 206 [.d (Sl eS n.d.Users),.d (Sl Lij n.d.Owners),I n.d.Life,B n.d.Approve,.map 0,.map 1,.map 2,.map 3]]:=by
 refine Krb (Fr.of 0 _) Tryz.func265 rfl (Fr.of_ok _) (nBe rfl) fun _=>?_
 refine Kfo ?_
 unfold Let at h
 refine go hΓ 12 rfl ?_
 refine Klg hΓ (kv:=kS) (agg:=true) (enc:=Lio) n.there rfl rfl rfl rfl rfl (nBe rfl) (fun mr1 bs2 cl3 hpm4 hbl5 hbn6=>?_)
 refine Khe [mObB n.users,mObH n.passes,mObS kS true Lio n.there (rawM kS Lio mr1 bs2 cl3),mObT n.story,.box 206 [.d (Sl eS n.d.Users),.d (Sl Lij n.d.Owners),I n.d.Life,B n.d.Approve,.map 0,.map 1,.map 2,.map 3],.iter 2 cl3 []] rfl ?_
 refine Kfm hΓ 2 rfl ?_
 obtain⟨q12,hq12,h13⟩:=Kfw h
 refine go hΓ 1 rfl ?_
 refine Knw hq12 hpm4 hbl5 hbn6 (fun s7=>[(1,S v_public),(11,.ptr 5 0)]) (fun sn9 s7=>[mObB n.users,mObH n.passes,mObS kS true Lio n.there (rawM kS Lio mr1 bs2 cl3),mObT n.story,.box 206 [.d (Sl eS n.d.Users),.d (Sl Lij n.d.Owners),I n.d.Life,B n.d.Approve,.map 0,.map 1,.map 2,.map 3],.iter 2 cl3 sn9]) ⟨⟨rfl,rfl,tV⟩,[],rfl,.inl rfl⟩ (fun sn9 s7 hdone14 hstep15=>?_)
 refine go hΓ 2 rfl ?_
 refine Klh (kv:=kS) (agg:=true) (enc:=Lio) n.there mr1 bs2 cl3 sn9 [mObB n.users,mObH n.passes,mObM n.there,mObT n.story,.box 206 [.d (Sl eS n.d.Users),.d (Sl Lij n.d.Owners),I n.d.Life,B n.d.Approve,.map 0,.map 1,.map 2,.map 3],.dead] rfl rfl rfl rfl rfl (nBe rfl) (fun hdsn9=>?_) (fun j10 x8 b11 hjsn9 hbsn9 hnsn9=>?_)
 ·have hqsn9:=hdone14 hdsn9
  subst hqsn9
  replace h13:=Kjl h13
  refine Kfm hΓ 16 rfl ?_
  obtain rfl:=oSi h13
  exact Khj hΓ [_] (.inr rfl) rfl rfl rfl rfl (.inr ⟨HB.mk rfl,rfl⟩)
 obtain⟨s16,h17,houtsn9⟩:=hstep15 j10 x8 b11 hjsn9 hbsn9 hnsn9
 have hssn9:=h17
 refine Kfm hΓ 10 rfl ?_
 refine eo_o rfl (Kli (kv:=kS) (agg:=true) (enc:=Lio) n.there mr1 bs2 cl3 sn9 hjsn9 hbsn9 rfl rfl rfl rfl (fun _=>rfl)) ?_
 refine Kfm hΓ 1 rfl ?_
 refine Ksp hΓ rfl rfl rfl (nBe rfl) ?_
 refine Ksu hΓ rfl rfl rfl rfl rfl rfl rfl rfl (nBe rfl) ?_
 refine Khe [mObB n.users,mObH n.passes,mObS kS true Lio n.there (rawM kS Lio mr1 bs2 cl3),mObT n.story,.box 206 [.d (Sl eS n.d.Users),.d (Sl Lij n.d.Owners),I n.d.Life,B n.d.Approve,.map 0,.map 1,.map 2,.map 3],.iter 2 cl3 (sn9++[b11]),.box 77 (fM x8.2)] rfl ?_
 refine Kfm hΓ 10 rfl ?_
 refine Kfp rfl (fun hb=>?_) (fun hb=>?_)
 ·have h18:=cT h17 hb
  refine go hΓ 5 rfl ?_
  refine Kps (kv:=kS) (agg:=true) (enc:=Lio) (id:=2) n.there [mObB n.users,mObH n.passes,mObM n.there,mObT n.story,.box 206 [.d (Sl eS n.d.Users),.d (Sl Lij n.d.Owners),I n.d.Life,B n.d.Approve,.map 0,.map 1,.map 2,.map 3],.iter 2 cl3 (sn9++[b11]),.box 77 (fM x8.2)] rfl rfl (nBe rfl) ?_
  refine go hΓ 2 rfl ?_
  obtain⟨v19,hv19,h20⟩:=Kfw h18
  obtain rfl:=oSi h20
  obtain rfl:=houtsn9 _ rfl
  obtain rfl:=oSi h13
  refine go hΓ 3 rfl ?_
  obtain rfl:=oSi hv19
  exact Khj hΓ [_,_] (.inr rfl) rfl rfl rfl rfl (.inr ⟨HB.mk rfl,rfl⟩)
 have h21:=cF h17 hb
 refine go hΓ 2 rfl ?_
 obtain rfl:=oSi h21
 exact⟨j10,x8,b11,_,hjsn9,hbsn9,hnsn9,hssn9,⟨⟨rfl,rfl,tV⟩,[_],rfl,.inr ⟨HB.mk rfl,FB.mk rfl,(nBe rfl)⟩⟩⟩
theorem Llh{s:List Str}{r:List Str}(h:Leu s=some r):EC Tryz.prog 213 [.d (Sl eS s)] [] fun g hp'=>g=.sl 0 r.length∧hp'=[rO 9 1 eS r]:=by
 refine Klr (Fr.of 0 _) Tryz.func213 rfl (Fr.of_ok _) (nBe rfl) fun _=>?_
 refine Kfo ?_
 unfold Leu at h
 refine go hΓ 2 rfl ?_
 refine Kgu (t:=0) 9 1 rfl (nBe rfl) ?_
 refine Kfm hΓ 6 rfl ?_
 refine Kfg hΓ rfl rfl rfl rfl rfl fun b hbn=>?_
 rcases b with _ | _
 ·refine Kfm hΓ 7 rfl ?_
  refine Kgt hΓ (enc:=eS) ([]:List Str) rfl rfl rfl rfl rfl rfl rfl rfl rfl rfl rfl rfl (nBe rfl) ?_
  obtain⟨y1,hy1,h2⟩:=Kfw h
  refine Kfm hΓ 1 rfl ?_
  refine Khf hΓ (enc:=eS) hy1 rfl rfl rfl rfl rfl rfl rfl rfl rfl (fun _=>rfl) rfl rfl rfl rfl ?_
  refine Kfm hΓ 3 rfl ?_
  refine Klp 0 [.dead,rO 9 1 eS y1] rfl (nBe rfl) ?_
  refine Kil 1 0 [rO 9 1 eS y1,.dead] rfl rfl rfl rfl rfl rfl ?_
  refine go hΓ 1 rfl ?_
  refine Kjn ?_
  obtain rfl:=oSi h2
  exact Khj hΓ [_] (.inr rfl) rfl rfl rfl rfl (.inr ⟨HB.mk rfl,rfl⟩)
 obtain rfl:=List.eq_nil_of_length_eq_zero (hbn rfl).1
 replace h:(some ([]:List Str):Option (List Str))=some r:=h
 refine Kfm hΓ 5 rfl ?_
 refine Kgu (t:=0) 9 1 rfl (nBe rfl) ?_
 refine Kfm hΓ 4 rfl ?_
 refine Klm 0 [.dead,rO 9 1 eS ([]:List Str)] rfl (nBe rfl) ?_
 refine Kjp 1 0 [rO 9 1 eS ([]:List Str),.dead] rfl rfl rfl rfl rfl rfl ?_
 refine Kjn ?_
 obtain rfl:=oSi h
 exact Khj hΓ [_] (.inr rfl) rfl rfl rfl rfl (.inr ⟨HB.mk rfl,rfl⟩)
theorem Lli{n:Lcd}{v_at:Int}{user:Str}{r:Int}(h:Lev n v_at user=some r):EC Tryz.prog 266 [.ptr 4 0,I v_at,S user] [mObB n.users,mObH n.passes,mObM n.there,mObT n.story,.box 206 [.d (Sl eS n.d.Users),.d (Sl Lij n.d.Owners),I n.d.Life,B n.d.Approve,.map 0,.map 1,.map 2,.map 3]] fun g hp'=>g=I r∧hp'=[mObB n.users,mObH n.passes,mObM n.there,mObT n.story,.box 206 [.d (Sl eS n.d.Users),.d (Sl Lij n.d.Owners),I n.d.Life,B n.d.Approve,.map 0,.map 1,.map 2,.map 3]]:=by
 refine Krb (Fr.of 0 _) Tryz.func266 rfl (Fr.of_ok _) (nBe rfl) fun _=>?_
 refine Kfo ?_
 unfold Lev at h
 refine go hΓ 12 rfl ?_
 refine Kfp rfl (fun hb=>?_) (fun hb=>?_)
 ·have h1:=cT h hb
  refine go hΓ 7 rfl ?_
  obtain rfl:=oSi h1
  exact Khj hΓ [] (.inr rfl) rfl rfl rfl rfl (.inl rfl)
 have h2:=cF h hb
 refine go hΓ 16 rfl ?_
 obtain rfl:=oSi h2
 exact Khj hΓ [] (.inr rfl) rfl rfl rfl rfl (.inl rfl)
theorem Llj{n:Lcd}{v_at:Int}{m:Lcb}{key:Bool}{al:BagT}{r:Lcd×BagT}(h:Lew n v_at m key al=some r):EC Tryz.prog 267 [.ptr 4 0,I v_at,.agg (fM m),B key] [mObB n.users,mObH n.passes,mObM n.there,mObT n.story,.box 206 [.d (Sl eS n.d.Users),.d (Sl Lij n.d.Owners),I n.d.Life,B n.d.Approve,.map 0,.map 1,.map 2,.map 3],bg al] fun g hp'=>g=.tup []∧hp'=[mObB r.1.users,mObH r.1.passes,mObM r.1.there,mObT r.1.story,.box 206 [.d (Sl eS r.1.d.Users),.d (Sl Lij r.1.d.Owners),I r.1.d.Life,B r.1.d.Approve,.map 0,.map 1,.map 2,.map 3],bg r.2]:=by
 refine Klr (Fr.of 0 _) Tryz.func267 rfl (Fr.of_ok _) (nBe rfl) fun _=>?_
 refine Kfo ?_
 unfold Lew at h
 refine go hΓ 2 rfl ?_
 refine Ksq rfl rfl rfl rfl (nBe rfl) ?_
 refine Kfm hΓ 3 rfl ?_
 refine Kir [.dead,.dead,.dead,.dead,.box 206 [.d (Sl eS n.d.Users),.d (Sl Lij n.d.Owners),I n.d.Life,B n.d.Approve,.map 0,.map 1,.map 2,.map 3],.dead,.box 77 (fM m)] [3,5,6] [7] [] hmix (by kernel_rfl) (by kernel_rfl) ⟨rfl,rfl,tV⟩ (nBe rfl) ?_
 refine go_E hΓ 7 rfl ?_
 refine Kiw [mObB n.users,mObH n.passes,mObM (mSet n.there m.Node m),mObT n.story,.box 206 [.d (Sl eS n.d.Users),.d (Sl Lij n.d.Owners),I n.d.Life,B n.d.Approve,.map 0,.map 1,.map 2,.map 3],bg al,.box 77 (fM m)] rfl rfl (Kiy ⟨rfl,rfl,tV⟩) (Kjc (Kkv hΓ (kv:=kS) (agg:=true) (enc:=Lio) (id:=2) n.there m.Node m rfl rfl rfl Kkh rfl rfl rfl rfl rfl)) ?_
 refine Kit ?_
 refine go hΓ 1 rfl ?_
 refine Kir [.dead,.dead,.dead,mObT n.story,.box 206 [.d (Sl eS n.d.Users),.d (Sl Lij n.d.Owners),I n.d.Life,B n.d.Approve,.map 0,.map 1,.map 2,.map 3],.dead,.box 77 (fM m)] [3,5,9,11,12,14] [18,19] [19] hmix (by kernel_rfl) (by kernel_rfl) ⟨rfl,rfl,rfl,tV⟩ (nBe rfl) ?_
 refine go_E hΓ 12 rfl ?_
 refine ge_p rfl (fun hp hs=>Kmp hΓ (kv:=kS) (te:=233) (sz:=11) (enc:=Lip) n.story m.Node rfl rfl rfl rfl Kkh rfl (hs 3 _ rfl rfl) rfl rfl rfl) rfl ?_
 refine go_E hΓ 3 rfl ?_
 refine ge_q rfl (.inl rfl) (fun _ _=>Kiu (qt_p (Kji hΓ (gs:=[I v_at,S m.Node,S m.User,S m.Name,S m.Public,.d (Sl eS m.Tags),I m.Joined,I m.Expires,B m.Approved,B false,B key]) rfl rfl rfl rfl rfl rfl))) ?_
 refine Kjf hΓ (enc:=Lip) [(⟨v_at,m,false,key⟩:Lcc)] rfl rfl rfl rfl rfl rfl rfl rfl rfl rfl rfl rfl ?_
 obtain⟨y1,hy1,h2⟩:=Kfw h
 refine ge_h [mObB n.users,mObH n.passes,mObM (mSet n.there m.Node m),mObT n.story,.box 206 [.d (Sl eS n.d.Users),.d (Sl Lij n.d.Owners),I n.d.Life,B n.d.Approve,.map 0,.map 1,.map 2,.map 3],.bag y1.2 (arX al.2.1 al.2.2.1 al.2.2.2.1 al.2.2.2.2.1 al.2.2.2.2.2) [],.box 77 (fM m)] rfl rfl rfl (Kiy ⟨rfl,rfl,rfl,tV⟩) (Kjb (Kma hΓ (enc:=Lip) (bg:=5) hy1 rfl rfl rfl rfl rfl rfl rfl rfl (fun _=>rfl) rfl rfl)) ?_
 refine Kiw [mObB n.users,mObH n.passes,mObM (mSet n.there m.Node m),mObT (mSet n.story m.Node y1.1),.box 206 [.d (Sl eS n.d.Users),.d (Sl Lij n.d.Owners),I n.d.Life,B n.d.Approve,.map 0,.map 1,.map 2,.map 3],.bag y1.2 (arX al.2.1 al.2.2.1 al.2.2.2.1 al.2.2.2.2.1 al.2.2.2.2.2) [],.box 77 (fM m)] rfl rfl (Kix rfl) (Kjc (Kkv hΓ (kv:=kS) (agg:=false) (enc:=(eT 233 11 Lip)) (id:=3) n.story m.Node y1.1 rfl rfl rfl Kkh rfl rfl rfl rfl rfl)) ?_
 refine Kit ?_
 refine Kjn ?_
 obtain rfl:=oSi h2
 exact Khj hΓ [_] (.inl rfl) rfl rfl rfl rfl (.inr ⟨HB.mk rfl,rfl⟩)
theorem Llk{n:Lcd}{s:Lby}{al:BagT}{r:Int×Lcd×BagT}(h:Lex n s al=some r):EC Tryz.prog 188 [.ptr 4 0,.agg (fS s)] [mObB n.users,mObH n.passes,mObM n.there,mObT n.story,.box 206 [.d (Sl eS n.d.Users),.d (Sl Lij n.d.Owners),I n.d.Life,B n.d.Approve,.map 0,.map 1,.map 2,.map 3],bg al] fun g hp'=>g=I r.1∧hp'=[mObB r.2.1.users,mObH r.2.1.passes,mObM r.2.1.there,mObT r.2.1.story,.box 206 [.d (Sl eS r.2.1.d.Users),.d (Sl Lij r.2.1.d.Owners),I r.2.1.d.Life,B r.2.1.d.Approve,.map 0,.map 1,.map 2,.map 3],bg r.2.2]:=by
 refine Klr (Fr.of 0 _) Tryz.func188 rfl (Fr.of_ok _) (nBe rfl) fun _=>?_
 refine Kfo ?_
 unfold Lex at h
 refine go hΓ 2 rfl ?_
 refine Ksq rfl rfl rfl rfl (nBe rfl) ?_
 refine Kfm hΓ 15 rfl ?_
 refine Kfp rfl (fun hb=>?_) (fun hb=>?_)
 ·have h1:=cT h hb
  refine go hΓ 7 rfl ?_
  refine Kjn ?_
  obtain rfl:=oSi h1
  exact Khj hΓ [_] (.inr rfl) rfl rfl rfl rfl (.inr ⟨HB.mk rfl,rfl⟩)
 have h2:=cF h hb
 refine go hΓ 3 rfl ?_
 refine Kfs hmix (by kernel_rfl) ?_
 refine go hΓ 6 rfl ?_
 refine gl_o rfl (Knf hΓ (kv:=kS) (agg:=false) (enc:=(eH (some 0))) n.passes s.Join (0:Nat) rfl rfl rfl rfl Kkh rfl rfl rfl (Kne rfl) rfl) ?_
 obtain⟨q3,hq3,h4⟩:=Kfw h2
 refine Kfn hΓ 5 rfl ?_
 refine Kjr [(0,.ptr 4 0),(3,.ptr 6 0),(5,.d (.hd (some 0) ((mGet n.passes s.Join).getD 0))),(43,B q3)] [mObB n.users,mObH n.passes,mObM n.there,mObT n.story,.box 206 [.d (Sl eS n.d.Users),.d (Sl Lij n.d.Owners),I n.d.Life,B n.d.Approve,.map 0,.map 1,.map 2,.map 3],bg al,.box 37 (fS s)] ?_ ?_
 ·refine Kfs hmix (by kernel_rfl) ?_
  refine go hΓ 4 rfl ?_
  refine Kee rfl rfl (fun hb=>?_) (fun hb=>?_)
  ·have h5:=cT hq3 hb
   refine Kfn hΓ 6 rfl ?_
   refine Kez rfl rfl (Kkr hΓ (kv:=kS) (agg:=false) (enc:=eB) n.users s.By (false:Bool) rfl rfl rfl rfl Kkh rfl rfl rfl rfl rfl rfl rfl) ?_
   refine Kfn hΓ 3 rfl ?_
   refine Kee rfl rfl (fun hb=>?_) (fun hb=>?_)
   ·have h6:=cT h5 hb
    refine Kfn hΓ 9 rfl ?_
    obtain rfl:=oSi h6
    exact⟨⟨rfl,rfl,rfl,rfl,tV⟩,[],rfl,.inl rfl⟩
   have h7:=cF h5 hb
   refine Kfn hΓ 4 rfl ?_
   refine Kee rfl rfl (fun hb=>?_) (fun hb=>?_)
   ·have h8:=cT h7 hb
    refine Kfn hΓ 1 rfl ?_
    refine Kez rfl rfl ((Knj hΓ rfl rfl rfl rfl).1) ?_
    refine Kfn hΓ 3 rfl ?_
    obtain rfl:=oSi h8
    exact⟨⟨rfl,rfl,rfl,rfl,tV⟩,[],rfl,.inl rfl⟩
   have h9:=cF h7 hb
   refine Kfn hΓ 5 rfl ?_
   obtain rfl:=oSi h9
   exact⟨⟨rfl,rfl,rfl,rfl,tV⟩,[],rfl,.inl rfl⟩
  have h10:=cF hq3 hb
  refine Kfn hΓ 14 rfl ?_
  refine Kee rfl rfl (fun hb=>?_) (fun hb=>?_)
  ·have h11:=cT h10 hb
   refine Kfn hΓ 1 rfl ?_
   refine Kez rfl rfl ((Knj hΓ rfl rfl rfl rfl).1) ?_
   refine Kfn hΓ 3 rfl ?_
   obtain rfl:=oSi h11
   exact⟨⟨rfl,rfl,rfl,rfl,tV⟩,[],rfl,.inl rfl⟩
  have h12:=cF h10 hb
  refine Kfn hΓ 5 rfl ?_
  obtain rfl:=oSi h12
  exact⟨⟨rfl,rfl,rfl,rfl,tV⟩,[],rfl,.inl rfl⟩
 refine go hΓ 1 rfl ?_
 refine Kfp rfl (fun hb=>?_) (fun hb=>?_)
 ·have h13:=cT h4 hb
  refine go hΓ 7 rfl ?_
  refine Kjn ?_
  obtain rfl:=oSi h13
  exact Khj hΓ [_] (.inr rfl) rfl rfl rfl rfl (.inr ⟨HB.mk rfl,rfl⟩)
 have h14:=cF h4 hb
 obtain⟨y15,hy15,h16⟩:=Kfw h14
 refine go hΓ 8 rfl ?_
 refine Kgw [5] (I y15) [mObB n.users,mObH n.passes,mObM n.there,mObT n.story,.box 206 [.d (Sl eS n.d.Users),.d (Sl Lij n.d.Owners),I n.d.Life,B n.d.Approve,.map 0,.map 1,.map 2,.map 3],bg al,.box 37 (fS s)] (Lml Tryz.func264 rfl rfl) (Llf hy15) rfl (nBe rfl) rfl rfl rfl rfl rfl rfl rfl rfl rfl rfl ?_
 refine Kfm hΓ 9 rfl ?_
 refine Kfp rfl (fun hb=>?_) (fun hb=>?_)
 ·have h17:=cT h16 hb
  refine go hΓ 8 rfl ?_
  refine Kjn ?_
  obtain rfl:=oSi h17
  exact Khj hΓ [_] (.inr rfl) rfl rfl rfl rfl (.inr ⟨HB.mk rfl,rfl⟩)
 have h18:=cF h16 hb
 refine go hΓ 5 rfl ?_
 refine Kfs hmix (by kernel_rfl) ?_
 refine go hΓ 6 rfl ?_
 refine gl_o rfl (Kmp hΓ (kv:=kS) (te:=233) (sz:=11) (enc:=Lip) n.story s.Node rfl rfl rfl rfl Kkh rfl rfl rfl rfl rfl) ?_
 obtain⟨b19,hb19,h20⟩:=Kfw h18
 refine gl_o rfl ((Koy hΓ hb19 rfl rfl rfl rfl).2) ?_
 refine Kfn hΓ 3 rfl ?_
 refine Kfp rfl (fun hb=>?_) (fun hb=>?_)
 ·have h21:=cT h20 hb
  refine go hΓ 8 rfl ?_
  refine Kjn ?_
  obtain rfl:=oSi h21
  exact Khj hΓ [_] (.inr rfl) rfl rfl rfl rfl (.inr ⟨HB.mk rfl,rfl⟩)
 have h22:=cF h20 hb
 obtain⟨y23,hy23,h24⟩:=Kfw h22
 refine go hΓ 5 rfl ?_
 refine Kgw [0,1,2,3,4] (B y23) [mObB n.users,mObH n.passes,mObM n.there,mObT n.story,.box 206 [.d (Sl eS n.d.Users),.d (Sl Lij n.d.Owners),I n.d.Life,B n.d.Approve,.map 0,.map 1,.map 2,.map 3],bg al,.box 37 (fS s)] (Lml Tryz.func265 rfl rfl) (Llg hy23) rfl (nBe rfl) rfl rfl rfl rfl rfl rfl rfl rfl rfl rfl ?_
 refine Kfm hΓ 3 rfl ?_
 refine Kfp rfl (fun hb=>?_) (fun hb=>?_)
 ·have h25:=cT h24 hb
  refine go hΓ 8 rfl ?_
  refine Kjn ?_
  obtain rfl:=oSi h25
  exact Khj hΓ [_] (.inr rfl) rfl rfl rfl rfl (.inr ⟨HB.mk rfl,rfl⟩)
 have h26:=cF h24 hb
 refine go hΓ 6 rfl ?_
 refine eo_o rfl (Klj hΓ (kv:=kS) (agg:=true) (enc:=Lio) n.there rfl rfl rfl rfl) ?_
 refine Kfm hΓ 4 rfl ?_
 refine Kfp rfl (fun hb=>?_) (fun hb=>?_)
 ·have h27:=cT h26 hb
  refine go hΓ 8 rfl ?_
  refine Kjn ?_
  obtain rfl:=oSi h27
  exact Khj hΓ [_] (.inr rfl) rfl rfl rfl rfl (.inr ⟨HB.mk rfl,rfl⟩)
 have h28:=cF h26 hb
 refine go hΓ 4 rfl ?_
 refine Kir [.dead,.dead,.dead,.dead,.box 206 [.d (Sl eS n.d.Users),.d (Sl Lij n.d.Owners),I n.d.Life,B n.d.Approve,.map 0,.map 1,.map 2,.map 3],.dead,.box 37 (fS s)] [1,3,5,7,9,14] [17,18] [] hmix (by kernel_rfl) (by kernel_rfl) ⟨rfl,rfl,tV⟩ (nBe rfl) ?_
 refine go_E hΓ 16 rfl ?_
 refine ge_q rfl (.inl rfl) (fun _ _=>Kiu (qt_p (Kji hΓ (gs:=[S s.Node,S s.By,S s.Name,S s.Public,.d (Sl eS []),I s.At,I 0,B (!n.d.Approve)]) rfl rfl rfl rfl rfl rfl))) ?_
 refine ge_h [mObB n.users,mObH n.passes,mObM n.there,mObT n.story,.box 206 [.d (Sl eS n.d.Users),.d (Sl Lij n.d.Owners),I n.d.Life,B n.d.Approve,.map 0,.map 1,.map 2,.map 3],bg al,.box 37 (fS s),.box 77 [S [],S [],S [],S [],.d (Sl eS []),I 0,I 0,B false]] rfl rfl rfl (Kiy ⟨rfl,rfl,tV⟩) (Kjb (Kjg hΓ (hi:=show Γ 77=some ⟨_,_,_,_⟩ from rfl) rfl)) ?_
 refine Kiw [mObB n.users,mObH n.passes,mObM n.there,mObT n.story,.box 206 [.d (Sl eS n.d.Users),.d (Sl Lij n.d.Owners),I n.d.Life,B n.d.Approve,.map 0,.map 1,.map 2,.map 3],bg al,.box 37 (fS s),.box 77 [S s.Node,S s.By,S s.Name,S s.Public,.d (Sl eS []),I s.At,I 0,B (!n.d.Approve)]] rfl rfl (Kiy ⟨rfl,rfl,tV⟩) (Kjc (Kjv hΓ rfl rfl rfl rfl rfl rfl rfl rfl rfl)) ?_
 refine Kit ?_
 refine go hΓ 5 rfl ?_
 refine eo_o rfl ((Knj hΓ rfl rfl rfl rfl).2) ?_
 obtain⟨q29,hq29,h30⟩:=Kfw h28
 refine Kfm hΓ 2 rfl ?_
 refine Kjr [(0,.ptr 4 0),(3,.ptr 6 0),(7,.ptr 7 0)] [mObB n.users,mObH n.passes,mObM n.there,mObT n.story,.box 206 [.d (Sl eS n.d.Users),.d (Sl Lij n.d.Owners),I n.d.Life,B n.d.Approve,.map 0,.map 1,.map 2,.map 3],bg q29.1,.box 37 (fS s),.box 77 (fM q29.2)] ?_ ?_
 ·refine Kfp rfl (fun hb=>?_) (fun hb=>?_)
  ·have h31:=cT hq29 hb
   obtain⟨hg33,h32⟩:=Kfx h31
   refine go hΓ 3 rfl ?_
   refine eo_o rfl (Kos hg33 rfl) ?_
   refine eo_o rfl (Kot hΓ hg33 rfl rfl rfl rfl rfl rfl) ?_
   obtain⟨m34,hm34,h35⟩:=Kfw h32
   refine eo_o rfl (Kou hΓ (enc:=Lir) (bg:=5) m34 rfl rfl (ArU.l _ (Kmy (fun _ _=>rfl) hm34 m34)) rfl (g:=I m34.used) rfl rfl) ?_
   obtain⟨hg37,h36⟩:=Kfx h35
   refine Kfm hΓ 1 rfl ?_
   refine eo_o rfl (Kos hg37 rfl) ?_
   refine eo_o rfl (Kot hΓ hg37 rfl rfl rfl rfl rfl rfl) ?_
   obtain⟨m38,hm38,h39⟩:=Kfw h36
   refine eo_u (nBe rfl) (Kov hΓ (enc:=Lir) (bg:=5) m38 (⟨m38.Join,m38.revoked,wi (m34.used+1)⟩:Lcf) rfl rfl (ArU.l _ (Kmy (fun _ _=>rfl) hm38 (⟨m38.Join,m38.revoked,wi (m34.used+1)⟩:Lcf))) rfl rfl (by intro e;cases e) rfl rfl rfl rfl rfl rfl rfl) ?_
   refine Khe [mObB n.users,mObH n.passes,mObM n.there,mObT n.story,.box 206 [.d (Sl eS n.d.Users),.d (Sl Lij n.d.Owners),I n.d.Life,B n.d.Approve,.map 0,.map 1,.map 2,.map 3],.bag al.1 (arX (hSet al.2.1 ((mGet n.passes s.Join).getD 0) (⟨m38.Join,m38.revoked,wi (m34.used+1)⟩:Lcf)) al.2.2.1 al.2.2.2.1 al.2.2.2.2.1 al.2.2.2.2.2) [],.box 37 (fS s),.box 77 [S s.Node,S s.By,S s.Name,S s.Public,.d (Sl eS []),I s.At,I 0,B (!n.d.Approve)]] rfl ?_
   obtain⟨hg41,h40⟩:=Kfx h39
   refine Kfm hΓ 5 rfl ?_
   refine eo_o rfl (Kos hg41 rfl) ?_
   refine eo_o rfl (Kot hΓ hg41 rfl rfl rfl rfl rfl rfl) ?_
   refine eo_o rfl (Kot hΓ hg41 rfl rfl rfl rfl rfl rfl) ?_
   obtain⟨m42,hm42,h43⟩:=Kfw h40
   refine eo_o rfl (Kou hΓ (enc:=Lir) (bg:=5) m42 rfl rfl (ArU.l _ (Kmy (fun _ _=>rfl) hm42 m42)) rfl (g:=.d (Sl eS m42.Join.Tags)) rfl rfl) ?_
   obtain⟨y44,hy44,h45⟩:=Kfw h43
   refine Kgx (Lml Tryz.func213 rfl rfl) (Pure.rows (Llh hy44) rfl rfl) rfl (nBe rfl) rfl rfl rfl rfl rfl ?_
   refine Kfm hΓ 1 rfl ?_
   refine Ksu hΓ rfl rfl rfl rfl rfl rfl rfl rfl (nBe rfl) ?_
   refine Khe [mObB n.users,mObH n.passes,mObM n.there,mObT n.story,.box 206 [.d (Sl eS n.d.Users),.d (Sl Lij n.d.Owners),I n.d.Life,B n.d.Approve,.map 0,.map 1,.map 2,.map 3],.bag al.1 (arX (hSet al.2.1 ((mGet n.passes s.Join).getD 0) (⟨m38.Join,m38.revoked,wi (m34.used+1)⟩:Lcf)) al.2.2.1 al.2.2.2.1 al.2.2.2.2.1 al.2.2.2.2.2) [],.box 37 (fS s),.box 77 [S s.Node,S s.By,S s.Name,S s.Public,.d (Sl eS y44),I s.At,I 0,B (!n.d.Approve)]] rfl ?_
   obtain⟨hg47,h46⟩:=Kfx h45
   refine Kfm hΓ 6 rfl ?_
   refine eo_o rfl (Kos hg47 rfl) ?_
   refine eo_o rfl (Kot hΓ hg47 rfl rfl rfl rfl rfl rfl) ?_
   refine eo_o rfl (Kot hΓ hg47 rfl rfl rfl rfl rfl rfl) ?_
   obtain⟨m48,hm48,h49⟩:=Kfw h46
   refine eo_o rfl (Kou hΓ (enc:=Lir) (bg:=5) m48 rfl rfl (ArU.l _ (Kmy (fun _ _=>rfl) hm48 m48)) rfl (g:=.d (Sl eS m48.Join.Tags)) rfl rfl) ?_
   obtain⟨q50,hq50,h51⟩:=Kfw h49
   refine Kfm hΓ 4 rfl ?_
   refine Kjr [(0,.ptr 4 0),(3,.ptr 6 0),(5,.d (.hd (some 0) ((mGet n.passes s.Join).getD 0))),(7,.ptr 7 0)] [mObB n.users,mObH n.passes,mObM n.there,mObT n.story,.box 206 [.d (Sl eS n.d.Users),.d (Sl Lij n.d.Owners),I n.d.Life,B n.d.Approve,.map 0,.map 1,.map 2,.map 3],.bag al.1 (arX (hSet al.2.1 ((mGet n.passes s.Join).getD 0) (⟨m38.Join,m38.revoked,wi (m34.used+1)⟩:Lcf)) al.2.2.1 al.2.2.2.1 al.2.2.2.2.1 al.2.2.2.2.2) [],.box 37 (fS s),.box 77 [S s.Node,S q50,S s.Name,S s.Public,.d (Sl eS y44),I s.At,I 0,B (!n.d.Approve)]] ?_ ?_
   ·refine Kfp rfl (fun hb=>?_) (fun hb=>?_)
    ·have h52:=cT hq50 hb
     obtain⟨hg54,h53⟩:=Kfx h52
     refine go hΓ 2 rfl ?_
     refine eo_o rfl (Kos hg54 rfl) ?_
     refine eo_o rfl (Kot hΓ hg54 rfl rfl rfl rfl rfl rfl) ?_
     refine eo_o rfl (Kot hΓ hg54 rfl rfl rfl rfl rfl rfl) ?_
     obtain⟨m55,hm55,h56⟩:=Kfw h53
     refine eo_o rfl (Kou hΓ (enc:=Lir) (bg:=5) m55 rfl rfl (ArU.l _ (Kmy (fun _ _=>rfl) hm55 m55)) rfl (g:=S m55.Join.By) rfl rfl) ?_
     refine Kfm hΓ 1 rfl ?_
     refine Ksu hΓ rfl rfl rfl rfl rfl rfl rfl rfl (nBe rfl) ?_
     refine Khe [mObB n.users,mObH n.passes,mObM n.there,mObT n.story,.box 206 [.d (Sl eS n.d.Users),.d (Sl Lij n.d.Owners),I n.d.Life,B n.d.Approve,.map 0,.map 1,.map 2,.map 3],.bag al.1 (arX (hSet al.2.1 ((mGet n.passes s.Join).getD 0) (⟨m38.Join,m38.revoked,wi (m34.used+1)⟩:Lcf)) al.2.2.1 al.2.2.2.1 al.2.2.2.2.1 al.2.2.2.2.2) [],.box 37 (fS s),.box 77 [S s.Node,S m55.Join.By,S s.Name,S s.Public,.d (Sl eS y44),I s.At,I 0,B (!n.d.Approve)]] rfl ?_
     refine Kfm hΓ 1 rfl ?_
     obtain rfl:=oSi h56
     exact⟨⟨rfl,rfl,rfl,rfl,tV⟩,[],rfl,.inl rfl⟩
    have h57:=cF hq50 hb
    refine go hΓ 1 rfl ?_
    obtain rfl:=oSi h57
    exact⟨⟨rfl,rfl,rfl,rfl,tV⟩,[],rfl,.inl rfl⟩
   refine go hΓ 5 rfl ?_
   obtain⟨q58,hq58,h59⟩:=Kfw h51
   refine Kfv 6 [(0,.ptr 4 0),(3,.ptr 6 0),(7,.ptr 7 0),(126,B q58)] [mObB n.users,mObH n.passes,mObM n.there,mObT n.story,.box 206 [.d (Sl eS n.d.Users),.d (Sl Lij n.d.Owners),I n.d.Life,B n.d.Approve,.map 0,.map 1,.map 2,.map 3],.bag al.1 (arX (hSet al.2.1 ((mGet n.passes s.Join).getD 0) (⟨m38.Join,m38.revoked,wi (m34.used+1)⟩:Lcf)) al.2.2.1 al.2.2.2.1 al.2.2.2.2.1 al.2.2.2.2.2) [],.box 37 (fS s),.box 77 [S s.Node,S q50,S s.Name,S s.Public,.d (Sl eS y44),I s.At,I 0,B (!n.d.Approve)]] ?_ ?_
   ·refine Krj rfl rfl (fun hb=>?_) (fun hb=>?_)
    ·have h60:=cT hq58 hb
     refine Kfm hΓ 7 rfl ?_
     obtain rfl:=oSi h60
     exact⟨⟨rfl,rfl,rfl,rfl,tV⟩,[],rfl,.inl rfl⟩
    have h61:=cF hq58 hb
    obtain⟨hg63,h62⟩:=Kfx h61
    refine Kfm hΓ 1 rfl ?_
    refine Krh rfl ?_
    refine eo_o rfl (Kos hg63 rfl) ?_
    refine Krh rfl ?_
    refine eo_o rfl (Kot hΓ hg63 rfl rfl rfl rfl rfl rfl) ?_
    refine Krh rfl ?_
    refine eo_o rfl (Kot hΓ hg63 rfl rfl rfl rfl rfl rfl) ?_
    obtain⟨m64,hm64,h65⟩:=Kfw h62
    refine Krh rfl ?_
    refine eo_o rfl (Kou hΓ (enc:=Lir) (bg:=5) m64 rfl rfl (ArU.l _ (Kmy (fun _ _=>rfl) hm64 m64)) rfl (g:=B m64.Join.Ready) rfl rfl) ?_
    refine Kfm hΓ 2 rfl ?_
    obtain rfl:=oSi h65
    exact⟨⟨rfl,rfl,rfl,rfl,tV⟩,[],rfl,.inl rfl⟩
   refine Kfm hΓ 1 rfl ?_
   refine Ksu hΓ rfl rfl rfl rfl rfl rfl rfl rfl (nBe rfl) ?_
   refine Khe [mObB n.users,mObH n.passes,mObM n.there,mObT n.story,.box 206 [.d (Sl eS n.d.Users),.d (Sl Lij n.d.Owners),I n.d.Life,B n.d.Approve,.map 0,.map 1,.map 2,.map 3],.bag al.1 (arX (hSet al.2.1 ((mGet n.passes s.Join).getD 0) (⟨m38.Join,m38.revoked,wi (m34.used+1)⟩:Lcf)) al.2.2.1 al.2.2.2.1 al.2.2.2.2.1 al.2.2.2.2.2) [],.box 37 (fS s),.box 77 [S s.Node,S q50,S s.Name,S s.Public,.d (Sl eS y44),I s.At,I 0,B q58]] rfl ?_
   refine Kfm hΓ 1 rfl ?_
   obtain rfl:=oSi h59
   exact⟨⟨rfl,rfl,rfl,tV⟩,[],rfl,.inl rfl⟩
  have h66:=cF hq29 hb
  refine go hΓ 1 rfl ?_
  obtain rfl:=oSi h66
  exact⟨⟨rfl,rfl,rfl,tV⟩,[],rfl,.inl rfl⟩
 obtain⟨y67,hy67,h68⟩:=Kfw h30
 refine go hΓ 8 rfl ?_
 refine Kgw [0,1,2,3,4] (I y67) [mObB n.users,mObH n.passes,mObM n.there,mObT n.story,.box 206 [.d (Sl eS n.d.Users),.d (Sl Lij n.d.Owners),I n.d.Life,B n.d.Approve,.map 0,.map 1,.map 2,.map 3],bg q29.1,.box 37 (fS s),.box 77 (fM q29.2)] (Lml Tryz.func266 rfl rfl) (Lli hy67) rfl (nBe rfl) rfl rfl rfl rfl rfl rfl rfl rfl rfl rfl ?_
 refine Kfm hΓ 1 rfl ?_
 refine Ksu hΓ rfl rfl rfl rfl rfl rfl rfl rfl (nBe rfl) ?_
 refine Khe [mObB n.users,mObH n.passes,mObM n.there,mObT n.story,.box 206 [.d (Sl eS n.d.Users),.d (Sl Lij n.d.Owners),I n.d.Life,B n.d.Approve,.map 0,.map 1,.map 2,.map 3],bg q29.1,.box 37 (fS s),.box 77 [S q29.2.Node,S q29.2.User,S q29.2.Name,S q29.2.Public,.d (Sl eS q29.2.Tags),I q29.2.Joined,I y67,B q29.2.Approved]] rfl ?_
 obtain⟨y69,hy69,h70⟩:=Kfw h68
 refine Kfm hΓ 8 rfl ?_
 refine Kgw [0,1,2,3,4,5] (.tup []) [mObB y69.1.users,mObH y69.1.passes,mObM y69.1.there,mObT y69.1.story,.box 206 [.d (Sl eS y69.1.d.Users),.d (Sl Lij y69.1.d.Owners),I y69.1.d.Life,B y69.1.d.Approve,.map 0,.map 1,.map 2,.map 3],bg y69.2,.box 37 (fS s),.box 77 [S q29.2.Node,S q29.2.User,S q29.2.Name,S q29.2.Public,.d (Sl eS q29.2.Tags),I q29.2.Joined,I y67,B q29.2.Approved]] (Lml Tryz.func267 rfl rfl) (Llj hy69) rfl (nBe rfl) rfl rfl rfl rfl rfl rfl rfl rfl rfl rfl ?_
 refine Kfm hΓ 8 rfl ?_
 refine Kjn ?_
 obtain rfl:=oSi h70
 exact Khj hΓ [_,_] (.inr rfl) rfl rfl rfl rfl (.inr ⟨HB.mk rfl,rfl⟩)
theorem Lll{o:Lbw}{x:Str}{r:Bool}(h:Ley o x=some r):EC Tryz.prog 210 [.agg [S o.Tag,.d (Sl eS o.Users)],.ptr 0 0] [.box 9 [S x]] fun g hp'=>g=B r∧hp'=[.box 9 [S x]]:=by
 refine Krb (Fr.of 0 _) Tryz.func210 rfl (Fr.of_ok _) (nBe rfl) fun _=>?_
 refine Kfo ?_
 unfold Ley at h
 refine go hΓ 2 rfl ?_
 refine Ksq rfl rfl rfl rfl (nBe rfl) ?_
 refine Kfm hΓ 13 rfl ?_
 obtain rfl:=oSi h
 exact Khj hΓ [_] (.inr rfl) rfl rfl rfl rfl (.inr ⟨HB.mk rfl,rfl⟩)
theorem Llm{s:List Lbw}{f:Str}{r:Int}(h:Lez s f=some r):EC Tryz.prog 209 [.d (Sl Lij s),.fn (.func 210) [] [.ptr 0 0]] [.box 9 [S f]] fun g hp'=>g=I r∧hp'=[.box 9 [S f]]:=by
 refine Krb (Fr.of 0 _) Tryz.func209 rfl (Fr.of_ok _) (nBe rfl) fun _=>?_
 refine Kfo ?_
 unfold Lez at h
 refine go hΓ 13 rfl ?_
 obtain⟨q4,hq4,h5⟩:=Kfw h
 refine Kgf 0 rfl fun hb7=>?_
 refine Kjq (R:=fun a6=>q4=.go a6) (fun a6=>[]) (fun a6=>[.box 9 [S f]]) ?_ ?_
 ·refine go hΓ 1 rfl ?_
  refine Kge s hq4 (fun i1 s2=>[(0,.d (Sl Lij s)),(1,.fn (.func 210) [] [.ptr 0 0]),(7,I (s.length:Int)),(8,I (i1:Int))]) (fun s2=>[.box 9 [S f]]) ⟨⟨rfl,rfl,rfl,rfl,tV⟩,[],rfl,.inl rfl⟩ (fun i1 x3 s2 y11 hx8 hlt hy9 hout10=>?_) (fun s2 hgo=>?_)
  ·refine go hΓ 6 rfl ?_
   refine Kfq rfl (decide_eq_true (Int.ofNat_lt.2 hlt)) ?_
   refine go hΓ 15 rfl ?_
   refine eo_o rfl (Kgg hΓ (enc:=Lij) (Kfz hx8) rfl rfl rfl rfl rfl (fun _=>rfl)) ?_
   obtain⟨y12,hy12,h13⟩:=Kfw hy9
   refine Kfm hΓ 1 rfl ?_
   refine Kgw [0] (B y12) [.box 9 [S f]] (Lml Tryz.func210 rfl rfl) (Lll hy12) rfl (nBe rfl) rfl rfl rfl rfl rfl rfl rfl rfl rfl rfl ?_
   refine Kfm hΓ 2 rfl ?_
   refine Kfp rfl (fun hb=>?_) (fun hb=>?_)
   ·have h14:=cT h13 hb
    refine go hΓ 9 rfl ?_
    obtain⟨v15,hv15,h16⟩:=Kfw h14
    obtain rfl:=oSi h16
    obtain rfl:=hout10 _ rfl
    obtain rfl:=oSi h5
    refine go hΓ 4 rfl ?_
    obtain rfl:=oSi hv15
    exact Khj hΓ [] (.inr rfl) rfl rfl rfl rfl (.inl rfl)
   have h17:=cF h13 hb
   refine go hΓ 7 rfl ?_
   obtain rfl:=oSi h17
   exact⟨_,rfl,⟨⟨rfl,rfl,rfl,Kew rfl (Kev (nLl hlt hb7)),tV⟩,[],rfl,.inl rfl⟩⟩
  subst hgo
  refine go hΓ 6 rfl ?_
  refine Kfr rfl (decide_eq_false (Int.lt_irrefl _)) ?_
  refine go hΓ 4 rfl ?_
  exact⟨_,rfl,⟨tV,[],rfl,.inl rfl⟩⟩
 intro a6 ha
 subst ha
 replace h5:=Kjl h5
 refine go hΓ 7 rfl ?_
 obtain rfl:=oSi h5
 exact Khj hΓ [] (.inr rfl) rfl rfl rfl rfl (.inl rfl)
theorem Lln{d:Lbx}{user:Str}{tag:Str}{r:Bool×Bool}(h:Lfa d user tag=some r):Pure Tryz.prog 102 [.agg (fD d),S user,S tag] (.tup [B r.1,B r.2]):=by
 refine Pure.enter (Fr.of 0 _) Tryz.func102 rfl (Fr.of_ok _) rfl rfl ?_
 refine Kfo ?_
 unfold Lfa at h
 refine go hΓ 2 rfl ?_
 refine Ksq rfl rfl rfl rfl (nBe rfl) ?_
 refine Ksq rfl rfl rfl rfl (nBe rfl) ?_
 obtain⟨y1,hy1,h2⟩:=Kfw h
 refine Kfm hΓ 9 rfl ?_
 refine Kgw [1] (I y1) [.box 29 (fD d),.box 9 [S tag]] (Lml Tryz.func209 rfl rfl) (Llm hy1) rfl (nBe rfl) rfl rfl rfl rfl rfl rfl rfl rfl rfl rfl ?_
 refine Kfm hΓ 8 rfl ?_
 obtain⟨q3,hq3,h4⟩:=Kfw h2
 refine Kfv 9 [(6,B false),(7,B false),(8,I y1),(24,B q3)] [.box 29 (fD d),.box 9 [S tag]] ?_ ?_
 ·refine Krj rfl rfl (fun hb=>?_) (fun hb=>?_)
  ·have h5:=cT hq3 hb
   obtain⟨x6,hx6,h7⟩:=Kfw h5
   refine Kfm hΓ 3 rfl ?_
   refine Krh rfl ?_
   refine eo_o rfl (Kgg hΓ (enc:=Lij) hx6 rfl rfl rfl rfl rfl (fun _=>rfl)) ?_
   obtain⟨y8,hy8,h9⟩:=Kfw h7
   refine Kfm hΓ 3 rfl ?_
   refine Krh rfl ?_
   refine Kgx (Lml Tryz.func61 rfl rfl) (Lju hy8) rfl (nBe rfl) rfl rfl rfl rfl rfl ?_
   refine Kfm hΓ 2 rfl ?_
   obtain rfl:=oSi h9
   exact⟨⟨rfl,rfl,rfl,rfl,tV⟩,[],rfl,.inl rfl⟩
  have h10:=cF hq3 hb
  refine Kfm hΓ 10 rfl ?_
  obtain rfl:=oSi h10
  exact⟨⟨rfl,rfl,rfl,rfl,tV⟩,[],rfl,.inl rfl⟩
 refine Kfm hΓ 7 rfl ?_
 obtain rfl:=oSi h4
 exact Khi hΓ (.inr rfl) rfl rfl
theorem Llo{n:Lcd}{user:Str}{tags:List Str}{r:Int}(h:Lfb n user tags=some r):EC Tryz.prog 268 [.ptr 4 0,S user,.d (Sl eS tags)] [mObB n.users,mObH n.passes,mObM n.there,mObT n.story,.box 206 [.d (Sl eS n.d.Users),.d (Sl Lij n.d.Owners),I n.d.Life,B n.d.Approve,.map 0,.map 1,.map 2,.map 3]] fun g hp'=>g=I r∧hp'=[mObB n.users,mObH n.passes,mObM n.there,mObT n.story,.box 206 [.d (Sl eS n.d.Users),.d (Sl Lij n.d.Owners),I n.d.Life,B n.d.Approve,.map 0,.map 1,.map 2,.map 3]]:=by
 refine Krb (Fr.of 0 _) Tryz.func268 rfl (Fr.of_ok _) (nBe rfl) fun _=>?_
 refine Kfo ?_
 unfold Lfb at h
 refine go hΓ 13 rfl ?_
 obtain⟨q4,hq4,h5⟩:=Kfw h
 refine Kgf 11 rfl fun hb7=>?_
 refine Kjq (R:=fun a6=>q4=.go a6) (fun a6=>[]) (fun a6=>[mObB n.users,mObH n.passes,mObM n.there,mObT n.story,.box 206 [.d (Sl eS n.d.Users),.d (Sl Lij n.d.Owners),I n.d.Life,B n.d.Approve,.map 0,.map 1,.map 2,.map 3]]) ?_ ?_
 ·refine go hΓ 1 rfl ?_
  refine Kge tags hq4 (fun i1 s2=>[(0,.ptr 4 0),(1,S user),(11,.d (Sl eS tags)),(12,I (tags.length:Int)),(13,I (i1:Int))]) (fun s2=>[mObB n.users,mObH n.passes,mObM n.there,mObT n.story,.box 206 [.d (Sl eS n.d.Users),.d (Sl Lij n.d.Owners),I n.d.Life,B n.d.Approve,.map 0,.map 1,.map 2,.map 3]]) ⟨⟨rfl,rfl,rfl,rfl,rfl,tV⟩,[],rfl,.inl rfl⟩ (fun i1 x3 s2 y11 hx8 hlt hy9 hout10=>?_) (fun s2 hgo=>?_)
  ·refine go hΓ 6 rfl ?_
   refine Kfq rfl (decide_eq_true (Int.ofNat_lt.2 hlt)) ?_
   refine go hΓ 6 rfl ?_
   refine eo_o rfl (Kgg hΓ (enc:=eS) (Kfz hx8) rfl rfl rfl rfl rfl (fun _=>rfl)) ?_
   obtain⟨y12,hy12,h13⟩:=Kfw hy9
   refine Kfm hΓ 12 rfl ?_
   refine Kgx (Lml Tryz.func102 rfl rfl) (Lln hy12) rfl (nBe rfl) rfl rfl rfl rfl rfl ?_
   refine Kfm hΓ 14 rfl ?_
   refine Kfp rfl (fun hb=>?_) (fun hb=>?_)
   ·have h14:=cT h13 hb
    refine go hΓ 9 rfl ?_
    obtain⟨v15,hv15,h16⟩:=Kfw h14
    obtain rfl:=oSi h16
    obtain rfl:=hout10 _ rfl
    obtain rfl:=oSi h5
    refine go hΓ 4 rfl ?_
    obtain rfl:=oSi hv15
    exact Khj hΓ [] (.inr rfl) rfl rfl rfl rfl (.inl rfl)
   have h17:=cF h13 hb
   refine go hΓ 8 rfl ?_
   refine Kfp rfl (fun hb=>?_) (fun hb=>?_)
   ·have h18:=cT h17 hb
    refine go hΓ 8 rfl ?_
    obtain⟨v19,hv19,h20⟩:=Kfw h18
    obtain rfl:=oSi h20
    obtain rfl:=hout10 _ rfl
    obtain rfl:=oSi h5
    refine go hΓ 4 rfl ?_
    obtain rfl:=oSi hv19
    exact Khj hΓ [] (.inr rfl) rfl rfl rfl rfl (.inl rfl)
   have h21:=cF h17 hb
   refine go hΓ 7 rfl ?_
   obtain rfl:=oSi h21
   exact⟨_,rfl,⟨⟨rfl,rfl,rfl,rfl,Kew rfl (Kev (nLl hlt hb7)),tV⟩,[],rfl,.inl rfl⟩⟩
  subst hgo
  refine go hΓ 6 rfl ?_
  refine Kfr rfl (decide_eq_false (Int.lt_irrefl _)) ?_
  refine go hΓ 4 rfl ?_
  exact⟨_,rfl,⟨tV,[],rfl,.inl rfl⟩⟩
 intro a6 ha
 subst ha
 replace h5:=Kjl h5
 refine go hΓ 7 rfl ?_
 obtain rfl:=oSi h5
 exact Khj hΓ [] (.inr rfl) rfl rfl rfl rfl (.inl rfl)
theorem Llp{n:Lcd}{s:Lby}{al:BagT}{r:Int×Lcd×BagT}(h:Lfc n s al=some r):EC Tryz.prog 189 [.ptr 4 0,.agg (fS s)] [mObB n.users,mObH n.passes,mObM n.there,mObT n.story,.box 206 [.d (Sl eS n.d.Users),.d (Sl Lij n.d.Owners),I n.d.Life,B n.d.Approve,.map 0,.map 1,.map 2,.map 3],bg al] fun g hp'=>g=I r.1∧hp'=[mObB r.2.1.users,mObH r.2.1.passes,mObM r.2.1.there,mObT r.2.1.story,.box 206 [.d (Sl eS r.2.1.d.Users),.d (Sl Lij r.2.1.d.Owners),I r.2.1.d.Life,B r.2.1.d.Approve,.map 0,.map 1,.map 2,.map 3],bg r.2.2]:=by
 refine Klr (Fr.of 0 _) Tryz.func189 rfl (Fr.of_ok _) (nBe rfl) fun _=>?_
 refine Kfo ?_
 unfold Lfc at h
 refine go hΓ 2 rfl ?_
 refine Ksq rfl rfl rfl rfl (nBe rfl) ?_
 refine Kfm hΓ 5 rfl ?_
 refine Kfs hmix (by kernel_rfl) ?_
 refine go hΓ 6 rfl ?_
 refine gl_o rfl (Knf hΓ (kv:=kS) (agg:=false) (enc:=(eH (some 0))) n.passes s.Join (0:Nat) rfl rfl rfl rfl Kkh rfl rfl rfl (Kne rfl) rfl) ?_
 refine gl_o rfl ((Knj hΓ rfl rfl rfl rfl).2) ?_
 refine Kfn hΓ 2 rfl ?_
 refine Kfp rfl (fun hb=>?_) (fun hb=>?_)
 ·have h1:=cT h hb
  refine go hΓ 7 rfl ?_
  refine Kjn ?_
  obtain rfl:=oSi h1
  exact Khj hΓ [_] (.inr rfl) rfl rfl rfl rfl (.inr ⟨HB.mk rfl,rfl⟩)
 have h2:=cF h hb
 obtain⟨y3,hy3,h4⟩:=Kfw h2
 refine go hΓ 7 rfl ?_
 refine Kgx (Lml Tryz.func108 rfl rfl) (Lkm hy3) rfl (nBe rfl) rfl rfl rfl rfl rfl ?_
 refine Kfm hΓ 1 rfl ?_
 obtain⟨q5,hq5,h6⟩:=Kfw h4
 refine Kfv 7 [(0,.ptr 4 0),(3,.ptr 6 0),(24,B q5)] [mObB n.users,mObH n.passes,mObM n.there,mObT n.story,.box 206 [.d (Sl eS n.d.Users),.d (Sl Lij n.d.Owners),I n.d.Life,B n.d.Approve,.map 0,.map 1,.map 2,.map 3],bg al,.box 37 (fS s)] ?_ ?_
 ·refine Krj rfl rfl (fun hb=>?_) (fun hb=>?_)
  ·have h7:=cT hq5 hb
   refine Kfm hΓ 8 rfl ?_
   obtain rfl:=oSi h7
   exact⟨⟨rfl,rfl,rfl,tV⟩,[],rfl,.inl rfl⟩
  have h8:=cF hq5 hb
  obtain⟨y9,hy9,h10⟩:=Kfw h8
  refine Kfm hΓ 5 rfl ?_
  refine Krh rfl ?_
  refine Kgx (Lml Tryz.func108 rfl rfl) (Lkm hy9) rfl (nBe rfl) rfl rfl rfl rfl rfl ?_
  refine Kfm hΓ 2 rfl ?_
  obtain rfl:=oSi h10
  exact⟨⟨rfl,rfl,rfl,tV⟩,[],rfl,.inl rfl⟩
 refine Kfm hΓ 2 rfl ?_
 refine Kfp rfl (fun hb=>?_) (fun hb=>?_)
 ·have h11:=cT h6 hb
  refine go hΓ 7 rfl ?_
  refine Kjn ?_
  obtain rfl:=oSi h11
  exact Khj hΓ [_] (.inr rfl) rfl rfl rfl rfl (.inr ⟨HB.mk rfl,rfl⟩)
 have h12:=cF h6 hb
 obtain⟨y13,hy13,h14⟩:=Kfw h12
 refine go hΓ 10 rfl ?_
 refine Kgw [0,1,2,3,4] (I y13) [mObB n.users,mObH n.passes,mObM n.there,mObT n.story,.box 206 [.d (Sl eS n.d.Users),.d (Sl Lij n.d.Owners),I n.d.Life,B n.d.Approve,.map 0,.map 1,.map 2,.map 3],bg al,.box 37 (fS s)] (Lml Tryz.func268 rfl rfl) (Llo hy13) rfl (nBe rfl) rfl rfl rfl rfl rfl rfl rfl rfl rfl rfl ?_
 refine Kfm hΓ 9 rfl ?_
 refine Kfp rfl (fun hb=>?_) (fun hb=>?_)
 ·have h15:=cT h14 hb
  refine go hΓ 8 rfl ?_
  refine Kjn ?_
  obtain rfl:=oSi h15
  exact Khj hΓ [_] (.inr rfl) rfl rfl rfl rfl (.inr ⟨HB.mk rfl,rfl⟩)
 have h16:=cF h14 hb
 refine go hΓ 3 rfl ?_
 refine Kir [.dead,.dead,.dead,.dead,.box 206 [.d (Sl eS n.d.Users),.d (Sl Lij n.d.Owners),I n.d.Life,B n.d.Approve,.map 0,.map 1,.map 2,.map 3],.dead,.box 37 (fS s)] [3,5,7,9,11,14,16,18] [21,22] [] hmix (by kernel_rfl) (by kernel_rfl) ⟨rfl,rfl,tV⟩ (nBe rfl) ?_
 obtain⟨y17,hy17,h18⟩:=Kfw h16
 refine go_E hΓ 12 rfl ?_
 refine Kje (Lml Tryz.func213 rfl rfl) (Pure.rows (Llh hy17) rfl rfl) rfl rfl rfl rfl rfl rfl ?_
 refine go_E hΓ 6 rfl ?_
 refine ge_q rfl (.inl rfl) (fun _ _=>Kiu (qt_p (Kji hΓ (gs:=[S s.Join,S s.By,.d (Sl eS y17),I s.Until,I s.Uses,B s.Ready]) rfl rfl rfl rfl rfl rfl))) ?_
 refine ge_q rfl (.inl rfl) (fun _ _=>Kiu (qt_p (Kji hΓ (gs:=[S s.Join,S s.By,.d (Sl eS y17),I s.Until,I s.Uses,B s.Ready,B false,I 0]) rfl rfl rfl rfl rfl rfl))) ?_
 refine ge_h [mObB n.users,mObH n.passes,mObM n.there,mObT n.story,.box 206 [.d (Sl eS n.d.Users),.d (Sl Lij n.d.Owners),I n.d.Life,B n.d.Approve,.map 0,.map 1,.map 2,.map 3],bg al,.box 37 (fS s),.box 215 [S s.Join,S s.By,.d (Sl eS y17),I s.Until,I s.Uses,B s.Ready,B false,I 0]] rfl rfl rfl (Kiy ⟨rfl,rfl,tV⟩) (Kjb (Kjh rfl rfl rfl)) ?_
 refine Kiw [mObB n.users,mObH (mSet n.passes s.Join (al.1.length+1)),mObM n.there,mObT n.story,.box 206 [.d (Sl eS n.d.Users),.d (Sl Lij n.d.Owners),I n.d.Life,B n.d.Approve,.map 0,.map 1,.map 2,.map 3],.bag (al.1++[false]) (arX ((al.1.length,(⟨(⟨s.Join,s.By,y17,s.Until,s.Uses,s.Ready⟩:Lce),false,0⟩:Lcf)) :: al.2.1) al.2.2.1 al.2.2.2.1 al.2.2.2.2.1 al.2.2.2.2.2) [],.box 37 (fS s),.dead] rfl rfl (Kiy ⟨rfl,rfl,tV⟩) (Kjc (Kln (Kmw (hp2:=[mObB n.users,mObH n.passes,mObM n.there,mObT n.story,.box 206 [.d (Sl eS n.d.Users),.d (Sl Lij n.d.Owners),I n.d.Life,B n.d.Approve,.map 0,.map 1,.map 2,.map 3],.bag (al.1++[false]) (arX ((al.1.length,(⟨(⟨s.Join,s.By,y17,s.Until,s.Uses,s.Ready⟩:Lce),false,0⟩:Lcf)) :: al.2.1) al.2.2.1 al.2.2.2.1 al.2.2.2.2.1 al.2.2.2.2.2) [],.box 37 (fS s),.dead]) (bg:=5) (id:=7) (a:=(fB 215 Lir) al.1.length (⟨(⟨s.Join,s.By,y17,s.Until,s.Uses,s.Ready⟩:Lce),false,0⟩:Lcf)) [(55,some 0)] ⟨rfl,tV⟩ rfl rfl ⟨rfl,rfl⟩ rfl rfl (Knb _ Kna) rfl rfl) (Kkv hΓ (kv:=kS) (agg:=false) (enc:=(eH (some 0))) (id:=1) n.passes s.Join (al.1.length+1) rfl rfl rfl Kkh rfl rfl rfl rfl rfl) (nBe rfl))) ?_
 refine Kit ?_
 refine go hΓ 7 rfl ?_
 refine Kjn ?_
 obtain rfl:=oSi h18
 exact Khj hΓ [_,_] (.inr rfl) rfl rfl rfl rfl (.inr ⟨HB.mk rfl,rfl⟩)
theorem Llq{n:Lcd}{s:Lby}{al:BagT}{r:Int×BagT}(h:Lfd n s al=some r):EC Tryz.prog 190 [.ptr 4 0,.agg (fS s)] [mObB n.users,mObH n.passes,mObM n.there,mObT n.story,.box 206 [.d (Sl eS n.d.Users),.d (Sl Lij n.d.Owners),I n.d.Life,B n.d.Approve,.map 0,.map 1,.map 2,.map 3],bg al] fun g hp'=>g=I r.1∧hp'=[mObB n.users,mObH n.passes,mObM n.there,mObT n.story,.box 206 [.d (Sl eS n.d.Users),.d (Sl Lij n.d.Owners),I n.d.Life,B n.d.Approve,.map 0,.map 1,.map 2,.map 3],bg r.2]:=by
 refine Krb (Fr.of 0 _) Tryz.func190 rfl (Fr.of_ok _) (nBe rfl) fun _=>?_
 refine Kfo ?_
 unfold Lfd at h
 refine go hΓ 2 rfl ?_
 refine Ksq rfl rfl rfl rfl (nBe rfl) ?_
 refine Kfm hΓ 4 rfl ?_
 refine Kfs hmix (by kernel_rfl) ?_
 refine go hΓ 6 rfl ?_
 refine gl_o rfl (Knf hΓ (kv:=kS) (agg:=false) (enc:=(eH (some 0))) n.passes s.Join (0:Nat) rfl rfl rfl rfl Kkh rfl rfl rfl (Kne rfl) rfl) ?_
 refine Kfn hΓ 8 rfl ?_
 refine eo_o rfl ((Knj hΓ rfl rfl rfl rfl).1) ?_
 refine Kfm hΓ 3 rfl ?_
 refine Kfp rfl (fun hb=>?_) (fun hb=>?_)
 ·have h1:=cT h hb
  refine go hΓ 8 rfl ?_
  obtain rfl:=oSi h1
  exact Khj hΓ [_] (.inr rfl) rfl rfl rfl rfl (.inr ⟨HB.mk rfl,rfl⟩)
 have h2:=cF h hb
 refine go hΓ 1 rfl ?_
 refine Kfs hmix (by kernel_rfl) ?_
 obtain⟨hg4,h3⟩:=Kfx h2
 refine go hΓ 1 rfl ?_
 refine gl_o rfl (Kos hg4 rfl) ?_
 refine gl_o rfl (Kot hΓ hg4 rfl rfl rfl rfl rfl rfl) ?_
 refine gl_o rfl (Kot hΓ hg4 rfl rfl rfl rfl rfl rfl) ?_
 obtain⟨m5,hm5,h6⟩:=Kfw h3
 refine gl_o rfl (Kou hΓ (enc:=Lir) (bg:=5) m5 rfl rfl (ArU.l _ (Kmy (fun _ _=>rfl) hm5 m5)) rfl (g:=S m5.Join.By) rfl rfl) ?_
 refine Kfn hΓ 6 rfl ?_
 refine Kfp rfl (fun hb=>?_) (fun hb=>?_)
 ·have h7:=cT h6 hb
  refine go hΓ 8 rfl ?_
  obtain rfl:=oSi h7
  exact Khj hΓ [_] (.inr rfl) rfl rfl rfl rfl (.inr ⟨HB.mk rfl,rfl⟩)
 have h8:=cF h6 hb
 obtain⟨hg10,h9⟩:=Kfx h8
 refine go hΓ 3 rfl ?_
 refine eo_o rfl (Kos hg10 rfl) ?_
 refine eo_o rfl (Kot hΓ hg10 rfl rfl rfl rfl rfl rfl) ?_
 obtain⟨m11,hm11,h12⟩:=Kfw h9
 refine eo_o rfl (Kou hΓ (enc:=Lir) (bg:=5) m11 rfl rfl (ArU.l _ (Kmy (fun _ _=>rfl) hm11 m11)) rfl (g:=B m11.revoked) rfl rfl) ?_
 refine Kfm hΓ 3 rfl ?_
 refine Kfp rfl (fun hb=>?_) (fun hb=>?_)
 ·have h13:=cT h12 hb
  refine go hΓ 8 rfl ?_
  obtain rfl:=oSi h13
  exact Khj hΓ [_] (.inr rfl) rfl rfl rfl rfl (.inr ⟨HB.mk rfl,rfl⟩)
 have h14:=cF h12 hb
 obtain⟨hg16,h15⟩:=Kfx h14
 refine go hΓ 6 rfl ?_
 refine eo_o rfl (Kos hg16 rfl) ?_
 refine eo_o rfl (Kot hΓ hg16 rfl rfl rfl rfl rfl rfl) ?_
 obtain⟨m17,hm17,h18⟩:=Kfw h15
 refine eo_u (nBe rfl) (Kov hΓ (enc:=Lir) (bg:=5) m17 (⟨m17.Join,true,m17.used⟩:Lcf) rfl rfl (ArU.l _ (Kmy (fun _ _=>rfl) hm17 (⟨m17.Join,true,m17.used⟩:Lcf))) rfl rfl (by intro e;cases e) rfl rfl rfl rfl rfl rfl rfl) ?_
 refine Khe [mObB n.users,mObH n.passes,mObM n.there,mObT n.story,.box 206 [.d (Sl eS n.d.Users),.d (Sl Lij n.d.Owners),I n.d.Life,B n.d.Approve,.map 0,.map 1,.map 2,.map 3],.bag al.1 (arX (hSet al.2.1 ((mGet n.passes s.Join).getD 0) (⟨m17.Join,true,m17.used⟩:Lcf)) al.2.2.1 al.2.2.2.1 al.2.2.2.2.1 al.2.2.2.2.2) [],.box 37 (fS s)] rfl ?_
 refine Kfm hΓ 8 rfl ?_
 obtain rfl:=oSi h18
 exact Khj hΓ [_] (.inr rfl) rfl rfl rfl rfl (.inr ⟨HB.mk rfl,rfl⟩)
theorem Llr{t:Str}{x:Lcd}{x2:Str}{r:Bool}(h:Lfe t x x2=some r):EC Tryz.prog 269 [S t,.ptr 5 0,.ptr 6 0] [mObB x.users,mObH x.passes,mObM x.there,mObT x.story,.box 206 [.d (Sl eS x.d.Users),.d (Sl Lij x.d.Owners),I x.d.Life,B x.d.Approve,.map 0,.map 1,.map 2,.map 3],.box 144 [.ptr 4 0],.box 9 [S x2]] fun g hp'=>g=B r∧hp'=[mObB x.users,mObH x.passes,mObM x.there,mObT x.story,.box 206 [.d (Sl eS x.d.Users),.d (Sl Lij x.d.Owners),I x.d.Life,B x.d.Approve,.map 0,.map 1,.map 2,.map 3],.box 144 [.ptr 4 0],.box 9 [S x2]]:=by
 refine Krb (Fr.of 0 _) Tryz.func269 rfl (Fr.of_ok _) (nBe rfl) fun _=>?_
 refine Kfo ?_
 unfold Lfe at h
 refine go hΓ 6 rfl ?_
 refine Kfs hmix (by kernel_rfl) ?_
 obtain⟨y1,hy1,h2⟩:=Kfw h
 refine go hΓ 6 rfl ?_
 refine Kgy (Lml Tryz.func102 rfl rfl) (Lln hy1) rfl rfl rfl rfl rfl rfl ?_
 refine Kfn hΓ 14 rfl ?_
 obtain rfl:=oSi h2
 exact Khj hΓ [] (.inr rfl) rfl rfl rfl rfl (.inl rfl)
theorem Lls{s:List Str}{f:Lcd}{f2:Str}{r:Int}(h:Lff s f f2=some r):EC Tryz.prog 246 [.d (Sl eS s),.fn (.func 269) [] [.ptr 5 0,.ptr 6 0]] [mObB f.users,mObH f.passes,mObM f.there,mObT f.story,.box 206 [.d (Sl eS f.d.Users),.d (Sl Lij f.d.Owners),I f.d.Life,B f.d.Approve,.map 0,.map 1,.map 2,.map 3],.box 144 [.ptr 4 0],.box 9 [S f2]] fun g hp'=>g=I r∧hp'=[mObB f.users,mObH f.passes,mObM f.there,mObT f.story,.box 206 [.d (Sl eS f.d.Users),.d (Sl Lij f.d.Owners),I f.d.Life,B f.d.Approve,.map 0,.map 1,.map 2,.map 3],.box 144 [.ptr 4 0],.box 9 [S f2]]:=by
 refine Krb (Fr.of 0 _) Tryz.func246 rfl (Fr.of_ok _) (nBe rfl) fun _=>?_
 refine Kfo ?_
 unfold Lff at h
 refine go hΓ 13 rfl ?_
 obtain⟨q4,hq4,h5⟩:=Kfw h
 refine Kgf 0 rfl fun hb7=>?_
 refine Kjq (R:=fun a6=>q4=.go a6) (fun a6=>[]) (fun a6=>[mObB f.users,mObH f.passes,mObM f.there,mObT f.story,.box 206 [.d (Sl eS f.d.Users),.d (Sl Lij f.d.Owners),I f.d.Life,B f.d.Approve,.map 0,.map 1,.map 2,.map 3],.box 144 [.ptr 4 0],.box 9 [S f2]]) ?_ ?_
 ·refine go hΓ 1 rfl ?_
  refine Kge s hq4 (fun i1 s2=>[(0,.d (Sl eS s)),(1,.fn (.func 269) [] [.ptr 5 0,.ptr 6 0]),(7,I (s.length:Int)),(8,I (i1:Int))]) (fun s2=>[mObB f.users,mObH f.passes,mObM f.there,mObT f.story,.box 206 [.d (Sl eS f.d.Users),.d (Sl Lij f.d.Owners),I f.d.Life,B f.d.Approve,.map 0,.map 1,.map 2,.map 3],.box 144 [.ptr 4 0],.box 9 [S f2]]) ⟨⟨rfl,rfl,rfl,rfl,tV⟩,[],rfl,.inl rfl⟩ (fun i1 x3 s2 y11 hx8 hlt hy9 hout10=>?_) (fun s2 hgo=>?_)
  ·refine go hΓ 6 rfl ?_
   refine Kfq rfl (decide_eq_true (Int.ofNat_lt.2 hlt)) ?_
   refine go hΓ 15 rfl ?_
   refine eo_o rfl (Kgg hΓ (enc:=eS) (Kfz hx8) rfl rfl rfl rfl rfl (fun _=>rfl)) ?_
   obtain⟨y12,hy12,h13⟩:=Kfw hy9
   refine Kfm hΓ 1 rfl ?_
   refine Kgw [0,1,2,3,4,5,6] (B y12) [mObB f.users,mObH f.passes,mObM f.there,mObT f.story,.box 206 [.d (Sl eS f.d.Users),.d (Sl Lij f.d.Owners),I f.d.Life,B f.d.Approve,.map 0,.map 1,.map 2,.map 3],.box 144 [.ptr 4 0],.box 9 [S f2]] (Lml Tryz.func269 rfl rfl) (Llr hy12) rfl (nBe rfl) rfl rfl rfl rfl rfl rfl rfl rfl rfl rfl ?_
   refine Kfm hΓ 2 rfl ?_
   refine Kfp rfl (fun hb=>?_) (fun hb=>?_)
   ·have h14:=cT h13 hb
    refine go hΓ 9 rfl ?_
    obtain⟨v15,hv15,h16⟩:=Kfw h14
    obtain rfl:=oSi h16
    obtain rfl:=hout10 _ rfl
    obtain rfl:=oSi h5
    refine go hΓ 4 rfl ?_
    obtain rfl:=oSi hv15
    exact Khj hΓ [] (.inr rfl) rfl rfl rfl rfl (.inl rfl)
   have h17:=cF h13 hb
   refine go hΓ 7 rfl ?_
   obtain rfl:=oSi h17
   exact⟨_,rfl,⟨⟨rfl,rfl,rfl,Kew rfl (Kev (nLl hlt hb7)),tV⟩,[],rfl,.inl rfl⟩⟩
  subst hgo
  refine go hΓ 6 rfl ?_
  refine Kfr rfl (decide_eq_false (Int.lt_irrefl _)) ?_
  refine go hΓ 4 rfl ?_
  exact⟨_,rfl,⟨tV,[],rfl,.inl rfl⟩⟩
 intro a6 ha
 subst ha
 replace h5:=Kjl h5
 refine go hΓ 7 rfl ?_
 obtain rfl:=oSi h5
 exact Khj hΓ [] (.inr rfl) rfl rfl rfl rfl (.inl rfl)
theorem Llt{s:List Str}{f:Lcd}{f2:Str}{r:Bool}(h:Lfg s f f2=some r):EC Tryz.prog 158 [.d (Sl eS s),.fn (.func 269) [] [.ptr 5 0,.ptr 6 0]] [mObB f.users,mObH f.passes,mObM f.there,mObT f.story,.box 206 [.d (Sl eS f.d.Users),.d (Sl Lij f.d.Owners),I f.d.Life,B f.d.Approve,.map 0,.map 1,.map 2,.map 3],.box 144 [.ptr 4 0],.box 9 [S f2]] fun g hp'=>g=B r∧hp'=[mObB f.users,mObH f.passes,mObM f.there,mObT f.story,.box 206 [.d (Sl eS f.d.Users),.d (Sl Lij f.d.Owners),I f.d.Life,B f.d.Approve,.map 0,.map 1,.map 2,.map 3],.box 144 [.ptr 4 0],.box 9 [S f2]]:=by
 refine Krb (Fr.of 0 _) Tryz.func158 rfl (Fr.of_ok _) (nBe rfl) fun _=>?_
 refine Kfo ?_
 unfold Lfg at h
 obtain⟨y1,hy1,h2⟩:=Kfw h
 refine go hΓ 9 rfl ?_
 refine Kgw [0,1,2,3,4,5,6] (I y1) [mObB f.users,mObH f.passes,mObM f.there,mObT f.story,.box 206 [.d (Sl eS f.d.Users),.d (Sl Lij f.d.Owners),I f.d.Life,B f.d.Approve,.map 0,.map 1,.map 2,.map 3],.box 144 [.ptr 4 0],.box 9 [S f2]] (Lml Tryz.func246 rfl rfl) (Lls hy1) rfl (nBe rfl) rfl rfl rfl rfl rfl rfl rfl rfl rfl rfl ?_
 refine Kfm hΓ 5 rfl ?_
 obtain rfl:=oSi h2
 exact Khj hΓ [] (.inr rfl) rfl rfl rfl rfl (.inl rfl)
theorem Llu{n:Lcd}{user:Str}{m:Lcb}{r:Bool}(h:Lfh n user m=some r):EC Tryz.prog 191 [.ptr 4 0,S user,.agg (fM m)] [mObB n.users,mObH n.passes,mObM n.there,mObT n.story,.box 206 [.d (Sl eS n.d.Users),.d (Sl Lij n.d.Owners),I n.d.Life,B n.d.Approve,.map 0,.map 1,.map 2,.map 3]] fun g hp'=>g=B r∧hp'=[mObB n.users,mObH n.passes,mObM n.there,mObT n.story,.box 206 [.d (Sl eS n.d.Users),.d (Sl Lij n.d.Owners),I n.d.Life,B n.d.Approve,.map 0,.map 1,.map 2,.map 3]]:=by
 refine Krb (Fr.of 0 _) Tryz.func191 rfl (Fr.of_ok _) (nBe rfl) fun _=>?_
 refine Kfo ?_
 unfold Lfh at h
 refine go hΓ 2 rfl ?_
 refine Ksq rfl rfl rfl rfl (nBe rfl) ?_
 refine Ksq rfl rfl rfl rfl (nBe rfl) ?_
 refine Ksq rfl rfl rfl rfl (nBe rfl) ?_
 refine Kfm hΓ 12 rfl ?_
 refine Kfp rfl (fun hb=>?_) (fun hb=>?_)
 ·have h1:=cT h hb
  refine go hΓ 7 rfl ?_
  obtain rfl:=oSi h1
  exact Khj hΓ [_,_,_] (.inr rfl) rfl rfl rfl rfl (.inr ⟨HB.mk rfl,rfl⟩)
 have h2:=cF h hb
 obtain⟨y3,hy3,h4⟩:=Kfw h2
 refine go hΓ 7 rfl ?_
 refine Kgw [0,1,2,3,4,5,6] (B y3) [mObB n.users,mObH n.passes,mObM n.there,mObT n.story,.box 206 [.d (Sl eS n.d.Users),.d (Sl Lij n.d.Owners),I n.d.Life,B n.d.Approve,.map 0,.map 1,.map 2,.map 3],.box 144 [.ptr 4 0],.box 9 [S user],.box 77 (fM m)] (Lml Tryz.func158 rfl rfl) (Llt hy3) rfl (nBe rfl) rfl rfl rfl rfl rfl rfl rfl rfl rfl rfl ?_
 refine Kfm hΓ 4 rfl ?_
 obtain rfl:=oSi h4
 exact Khj hΓ [_,_,_] (.inr rfl) rfl rfl rfl rfl (.inr ⟨HB.mk rfl,rfl⟩)
theorem Llv{n:Lcd}{s:Lby}{m:Lcb}{al:BagT}{r:Int×Lcd×BagT}(h:Lfi n s m al=some r):EC Tryz.prog 192 [.ptr 4 0,.agg (fS s),.agg (fM m)] [mObB n.users,mObH n.passes,mObM n.there,mObT n.story,.box 206 [.d (Sl eS n.d.Users),.d (Sl Lij n.d.Owners),I n.d.Life,B n.d.Approve,.map 0,.map 1,.map 2,.map 3],bg al] fun g hp'=>g=I r.1∧hp'=[mObB r.2.1.users,mObH r.2.1.passes,mObM r.2.1.there,mObT r.2.1.story,.box 206 [.d (Sl eS r.2.1.d.Users),.d (Sl Lij r.2.1.d.Owners),I r.2.1.d.Life,B r.2.1.d.Approve,.map 0,.map 1,.map 2,.map 3],bg r.2.2]:=by
 refine Klr (Fr.of 0 _) Tryz.func192 rfl (Fr.of_ok _) (nBe rfl) fun _=>?_
 refine Kfo ?_
 unfold Lfi at h
 refine go hΓ 2 rfl ?_
 refine Ksq rfl rfl rfl rfl (nBe rfl) ?_
 refine Ksq rfl rfl rfl rfl (nBe rfl) ?_
 obtain⟨q1,hq1,h2⟩:=Kfw h
 refine Kfm hΓ 15 rfl ?_
 refine Kjt (q:=q1) (fun a3=>[(0,.ptr 4 0),(4,.ptr 6 0),(5,.ptr 7 0),(7,B a3.2)]) (fun a3=>[mObB n.users,mObH n.passes,mObM n.there,mObT n.story,.box 206 [.d (Sl eS n.d.Users),.d (Sl Lij n.d.Owners),I n.d.Life,B n.d.Approve,.map 0,.map 1,.map 2,.map 3],bg al,.box 37 (fS s),.box 77 (fM a3.1)]) ?_ ?_
 ·refine go hΓ 7 rfl ?_
  refine Kfp rfl (fun hb=>?_) (fun hb=>?_)
  ·have h4:=cT hq1 hb
   refine go hΓ 7 rfl ?_
   refine Kfp rfl (fun hb=>?_) (fun hb=>?_)
   ·have h5:=cT h4 hb
    refine go hΓ 8 rfl ?_
    obtain⟨v6,hv6,h7⟩:=Kfw h5
    obtain rfl:=oSi h7
    obtain rfl:=oSi h2
    refine go hΓ 2 rfl ?_
    refine Kjn ?_
    obtain rfl:=oSi hv6
    exact Khj hΓ [_,_] (.inr rfl) rfl rfl rfl rfl (.inr ⟨HB.mk rfl,rfl⟩)
   have h8:=cF h4 hb
   refine go hΓ 4 rfl ?_
   refine Ksu hΓ rfl rfl rfl rfl rfl rfl rfl rfl (nBe rfl) ?_
   refine Khe [mObB n.users,mObH n.passes,mObM n.there,mObT n.story,.box 206 [.d (Sl eS n.d.Users),.d (Sl Lij n.d.Owners),I n.d.Life,B n.d.Approve,.map 0,.map 1,.map 2,.map 3],bg al,.box 37 (fS s),.box 77 [S m.Node,S m.User,S m.Name,S m.Public,.d (Sl eS m.Tags),I m.Joined,I m.Expires,B true]] rfl ?_
   refine Kfm hΓ 2 rfl ?_
   obtain rfl:=oSi h8
   exact⟨_,rfl,⟨⟨rfl,rfl,rfl,rfl,tV⟩,[],rfl,.inl rfl⟩⟩
  have h9:=cF hq1 hb
  refine go hΓ 6 rfl ?_
  refine Kfp rfl (fun hb=>?_) (fun hb=>?_)
  ·have h10:=cT h9 hb
   obtain⟨y11,hy11,h12⟩:=Kfw h10
   refine go hΓ 6 rfl ?_
   refine Kgw [0,1,2,3,4] (B y11) [mObB n.users,mObH n.passes,mObM n.there,mObT n.story,.box 206 [.d (Sl eS n.d.Users),.d (Sl Lij n.d.Owners),I n.d.Life,B n.d.Approve,.map 0,.map 1,.map 2,.map 3],bg al,.box 37 (fS s),.box 77 (fM m)] (Lml Tryz.func265 rfl rfl) (Llg hy11) rfl (nBe rfl) rfl rfl rfl rfl rfl rfl rfl rfl rfl rfl ?_
   refine Kfm hΓ 2 rfl ?_
   refine Kfp rfl (fun hb=>?_) (fun hb=>?_)
   ·have h13:=cT h12 hb
    refine go hΓ 8 rfl ?_
    obtain⟨v14,hv14,h15⟩:=Kfw h13
    obtain rfl:=oSi h15
    obtain rfl:=oSi h2
    refine go hΓ 2 rfl ?_
    refine Kjn ?_
    obtain rfl:=oSi hv14
    exact Khj hΓ [_,_] (.inr rfl) rfl rfl rfl rfl (.inr ⟨HB.mk rfl,rfl⟩)
   have h16:=cF h12 hb
   refine go hΓ 2 rfl ?_
   refine Kir [.dead,.dead,.dead,.dead,.dead,.dead,.box 37 (fS s),.box 77 (fM m)] [1,4,6] [7,9,11] [9,11] hmix (by kernel_rfl) (by kernel_rfl) ⟨rfl,rfl,tV⟩ (nBe rfl) ?_
   obtain⟨y17,hy17,h18⟩:=Kfw h16
   refine go_E hΓ 7 rfl ?_
   refine ge_h [mObB n.users,mObH n.passes,mObM n.there,mObT n.story,.box 206 [.d (Sl eS n.d.Users),.d (Sl Lij n.d.Owners),I n.d.Life,B n.d.Approve,.map 0,.map 1,.map 2,.map 3],bg al,.box 37 (fS s),.box 77 (fM m)] rfl rfl rfl (Kiy ⟨rfl,rfl,tV⟩) (Kjd [0,1,2,3,4] (I y17) [mObB n.users,mObH n.passes,mObM n.there,mObT n.story,.box 206 [.d (Sl eS n.d.Users),.d (Sl Lij n.d.Owners),I n.d.Life,B n.d.Approve,.map 0,.map 1,.map 2,.map 3],bg al,.box 37 (fS s),.box 77 (fM m)] (Lml Tryz.func266 rfl rfl) (Lli hy17) rfl rfl rfl rfl rfl rfl rfl rfl rfl rfl) ?_
   refine go_E hΓ 1 rfl ?_
   refine Kiw [mObB n.users,mObH n.passes,mObM n.there,mObT n.story,.box 206 [.d (Sl eS n.d.Users),.d (Sl Lij n.d.Owners),I n.d.Life,B n.d.Approve,.map 0,.map 1,.map 2,.map 3],bg al,.box 37 (fS s),.box 77 [S m.Node,S m.User,S m.Name,S s.Public,.d (Sl eS m.Tags),I m.Joined,I m.Expires,B m.Approved]] rfl rfl (Kix rfl) (Kjc (Kjv hΓ rfl rfl rfl rfl rfl rfl rfl rfl rfl)) ?_
   refine go_E hΓ 1 rfl ?_
   refine Kiw [mObB n.users,mObH n.passes,mObM n.there,mObT n.story,.box 206 [.d (Sl eS n.d.Users),.d (Sl Lij n.d.Owners),I n.d.Life,B n.d.Approve,.map 0,.map 1,.map 2,.map 3],bg al,.box 37 (fS s),.box 77 [S m.Node,S m.User,S m.Name,S s.Public,.d (Sl eS m.Tags),I m.Joined,I y17,B m.Approved]] rfl rfl (Kix rfl) (Kjc (Kjv hΓ rfl rfl rfl rfl rfl rfl rfl rfl rfl)) ?_
   refine go_E hΓ 1 rfl ?_
   refine Kit ?_
   refine go hΓ 1 rfl ?_
   obtain rfl:=oSi h18
   exact⟨_,rfl,⟨⟨rfl,rfl,rfl,rfl,tV⟩,[],rfl,.inl rfl⟩⟩
  have h19:=cF h9 hb
  refine go hΓ 6 rfl ?_
  refine Kfp rfl (fun hb=>?_) (fun hb=>?_)
  ·have h20:=cT h19 hb
   refine go hΓ 10 rfl ?_
   refine Kfp rfl (fun hb=>?_) (fun hb=>?_)
   ·have h21:=cT h20 hb
    refine go hΓ 8 rfl ?_
    obtain⟨v22,hv22,h23⟩:=Kfw h21
    obtain rfl:=oSi h23
    obtain rfl:=oSi h2
    refine go hΓ 2 rfl ?_
    refine Kjn ?_
    obtain rfl:=oSi hv22
    exact Khj hΓ [_,_] (.inr rfl) rfl rfl rfl rfl (.inr ⟨HB.mk rfl,rfl⟩)
   have h24:=cF h20 hb
   refine go hΓ 6 rfl ?_
   refine Ksu hΓ rfl rfl rfl rfl rfl rfl rfl rfl (nBe rfl) ?_
   refine Khe [mObB n.users,mObH n.passes,mObM n.there,mObT n.story,.box 206 [.d (Sl eS n.d.Users),.d (Sl Lij n.d.Owners),I n.d.Life,B n.d.Approve,.map 0,.map 1,.map 2,.map 3],bg al,.box 37 (fS s),.box 77 [S m.Node,S m.User,S s.Name,S m.Public,.d (Sl eS m.Tags),I m.Joined,I m.Expires,B m.Approved]] rfl ?_
   refine Kfm hΓ 2 rfl ?_
   obtain rfl:=oSi h24
   exact⟨_,rfl,⟨⟨rfl,rfl,rfl,rfl,tV⟩,[],rfl,.inl rfl⟩⟩
  have h25:=cF h19 hb
  refine go hΓ 6 rfl ?_
  refine Kfp rfl (fun hb=>?_) (fun hb=>?_)
  ·have h26:=cT h25 hb
   refine go hΓ 9 rfl ?_
   refine Kfp rfl (fun hb=>?_) (fun hb=>?_)
   ·have h27:=cT h26 hb
    refine go hΓ 8 rfl ?_
    obtain⟨v28,hv28,h29⟩:=Kfw h27
    obtain rfl:=oSi h29
    obtain rfl:=oSi h2
    refine go hΓ 2 rfl ?_
    refine Kjn ?_
    obtain rfl:=oSi hv28
    exact Khj hΓ [_,_] (.inr rfl) rfl rfl rfl rfl (.inr ⟨HB.mk rfl,rfl⟩)
   have h30:=cF h26 hb
   obtain⟨y31,hy31,h32⟩:=Kfw h30
   refine go hΓ 10 rfl ?_
   refine Kgw [0,1,2,3,4] (I y31) [mObB n.users,mObH n.passes,mObM n.there,mObT n.story,.box 206 [.d (Sl eS n.d.Users),.d (Sl Lij n.d.Owners),I n.d.Life,B n.d.Approve,.map 0,.map 1,.map 2,.map 3],bg al,.box 37 (fS s),.box 77 (fM m)] (Lml Tryz.func268 rfl rfl) (Llo hy31) rfl (nBe rfl) rfl rfl rfl rfl rfl rfl rfl rfl rfl rfl ?_
   refine Kfm hΓ 9 rfl ?_
   refine Kfp rfl (fun hb=>?_) (fun hb=>?_)
   ·have h33:=cT h32 hb
    refine go hΓ 9 rfl ?_
    obtain⟨v34,hv34,h35⟩:=Kfw h33
    obtain rfl:=oSi h35
    obtain rfl:=oSi h2
    refine go hΓ 2 rfl ?_
    refine Kjn ?_
    obtain rfl:=oSi hv34
    exact Khj hΓ [_,_] (.inr rfl) rfl rfl rfl rfl (.inr ⟨HB.mk rfl,rfl⟩)
   have h36:=cF h32 hb
   obtain⟨y37,hy37,h38⟩:=Kfw h36
   refine go hΓ 5 rfl ?_
   refine Kgx (Lml Tryz.func213 rfl rfl) (Pure.rows (Llh hy37) rfl rfl) rfl (nBe rfl) rfl rfl rfl rfl rfl ?_
   refine Kfm hΓ 1 rfl ?_
   refine Ksu hΓ rfl rfl rfl rfl rfl rfl rfl rfl (nBe rfl) ?_
   refine Khe [mObB n.users,mObH n.passes,mObM n.there,mObT n.story,.box 206 [.d (Sl eS n.d.Users),.d (Sl Lij n.d.Owners),I n.d.Life,B n.d.Approve,.map 0,.map 1,.map 2,.map 3],bg al,.box 37 (fS s),.box 77 [S m.Node,S [],S m.Name,S m.Public,.d (Sl eS m.Tags),I m.Joined,I m.Expires,B m.Approved]] rfl ?_
   refine Kfm hΓ 1 rfl ?_
   refine Ksu hΓ rfl rfl rfl rfl rfl rfl rfl rfl (nBe rfl) ?_
   refine Khe [mObB n.users,mObH n.passes,mObM n.there,mObT n.story,.box 206 [.d (Sl eS n.d.Users),.d (Sl Lij n.d.Owners),I n.d.Life,B n.d.Approve,.map 0,.map 1,.map 2,.map 3],bg al,.box 37 (fS s),.box 77 [S m.Node,S [],S m.Name,S m.Public,.d (Sl eS y37),I m.Joined,I m.Expires,B m.Approved]] rfl ?_
   refine Kfm hΓ 1 rfl ?_
   refine Ksu hΓ rfl rfl rfl rfl rfl rfl rfl rfl (nBe rfl) ?_
   refine Khe [mObB n.users,mObH n.passes,mObM n.there,mObT n.story,.box 206 [.d (Sl eS n.d.Users),.d (Sl Lij n.d.Owners),I n.d.Life,B n.d.Approve,.map 0,.map 1,.map 2,.map 3],bg al,.box 37 (fS s),.box 77 [S m.Node,S [],S m.Name,S m.Public,.d (Sl eS y37),I m.Joined,I 345686400,B m.Approved]] rfl ?_
   refine Kfm hΓ 2 rfl ?_
   obtain rfl:=oSi h38
   exact⟨_,rfl,⟨⟨rfl,rfl,rfl,rfl,tV⟩,[],rfl,.inl rfl⟩⟩
  have h39:=cF h25 hb
  refine go hΓ 6 rfl ?_
  refine Kfp rfl (fun hb=>?_) (fun hb=>?_)
  ·have h40:=cT h39 hb
   refine go hΓ 10 rfl ?_
   refine Kfp rfl (fun hb=>?_) (fun hb=>?_)
   ·have h41:=cT h40 hb
    refine go hΓ 8 rfl ?_
    obtain⟨v42,hv42,h43⟩:=Kfw h41
    obtain rfl:=oSi h43
    obtain rfl:=oSi h2
    refine go hΓ 2 rfl ?_
    refine Kjn ?_
    obtain rfl:=oSi hv42
    exact Khj hΓ [_,_] (.inr rfl) rfl rfl rfl rfl (.inr ⟨HB.mk rfl,rfl⟩)
   have h44:=cF h40 hb
   refine go hΓ 6 rfl ?_
   refine Ksu hΓ rfl rfl rfl rfl rfl rfl rfl rfl (nBe rfl) ?_
   refine Khe [mObB n.users,mObH n.passes,mObM n.there,mObT n.story,.box 206 [.d (Sl eS n.d.Users),.d (Sl Lij n.d.Owners),I n.d.Life,B n.d.Approve,.map 0,.map 1,.map 2,.map 3],bg al,.box 37 (fS s),.box 77 [S m.Node,S m.User,S m.Name,S m.Public,.d (Sl eS m.Tags),I m.Joined,I s.At,B m.Approved]] rfl ?_
   refine Kfm hΓ 2 rfl ?_
   obtain rfl:=oSi h44
   exact⟨_,rfl,⟨⟨rfl,rfl,rfl,rfl,tV⟩,[],rfl,.inl rfl⟩⟩
  have h45:=cF h39 hb
  refine go hΓ 1 rfl ?_
  refine Kir [.dead,.dead,.dead,.dead,.box 206 [.d (Sl eS n.d.Users),.d (Sl Lij n.d.Owners),I n.d.Life,B n.d.Approve,.map 0,.map 1,.map 2,.map 3],.dead,.box 37 (fS s)] [3,5] [6] [] hmix (by kernel_rfl) (by kernel_rfl) ⟨rfl,rfl,tV⟩ (nBe rfl) ?_
  refine go_E hΓ 6 rfl ?_
  refine Kiw [mObB n.users,mObH n.passes,mObM (mDel n.there s.Node),mObT n.story,.box 206 [.d (Sl eS n.d.Users),.d (Sl Lij n.d.Owners),I n.d.Life,B n.d.Approve,.map 0,.map 1,.map 2,.map 3],bg al,.box 37 (fS s),.box 77 (fM m)] rfl rfl (Kiy ⟨rfl,rfl,tV⟩) (Kjb (Kpp hΓ (kv:=kS) (agg:=true) (enc:=Lio) (id:=2) n.there s.Node rfl rfl rfl Kkh rfl rfl rfl rfl)) ?_
  refine Kit ?_
  refine go hΓ 2 rfl ?_
  refine Kir [.dead,.dead,.dead,mObT n.story,.box 206 [.d (Sl eS n.d.Users),.d (Sl Lij n.d.Owners),I n.d.Life,B n.d.Approve,.map 0,.map 1,.map 2,.map 3],.dead,.box 37 (fS s)] [3,5,9,11,12,14] [17,18] [18] hmix (by kernel_rfl) (by kernel_rfl) ⟨rfl,rfl,rfl,tV⟩ (nBe rfl) ?_
  refine go_E hΓ 12 rfl ?_
  refine ge_p rfl (fun hp hs=>Kmp hΓ (kv:=kS) (te:=233) (sz:=11) (enc:=Lip) n.story s.Node rfl rfl rfl rfl Kkh rfl (hs 3 _ rfl rfl) rfl rfl rfl) rfl ?_
  refine go_E hΓ 2 rfl ?_
  refine ge_q rfl (.inl rfl) (fun _ _=>Kiu (qt_p (Kji hΓ (gs:=[I s.At,S [],S [],S [],S [],.d (Sl eS []),I 0,I 0,B false,B true,B false]) rfl rfl rfl rfl rfl rfl))) ?_
  refine Kjf hΓ (enc:=Lip) [(⟨s.At,(⟨[],[],[],[],[],0,0,false⟩:Lcb),true,false⟩:Lcc)] rfl rfl rfl rfl rfl rfl rfl rfl rfl rfl rfl rfl ?_
  obtain⟨y46,hy46,h47⟩:=Kfw h45
  refine ge_h [mObB n.users,mObH n.passes,mObM (mDel n.there s.Node),mObT n.story,.box 206 [.d (Sl eS n.d.Users),.d (Sl Lij n.d.Owners),I n.d.Life,B n.d.Approve,.map 0,.map 1,.map 2,.map 3],.bag y46.2 (arX al.2.1 al.2.2.1 al.2.2.2.1 al.2.2.2.2.1 al.2.2.2.2.2) [],.box 37 (fS s),.box 77 (fM m)] rfl rfl rfl (Kiy ⟨rfl,rfl,rfl,tV⟩) (Kjb (Kma hΓ (enc:=Lip) (bg:=5) hy46 rfl rfl rfl rfl rfl rfl rfl rfl (fun _=>rfl) rfl rfl)) ?_
  refine Kiw [mObB n.users,mObH n.passes,mObM (mDel n.there s.Node),mObT (mSet n.story s.Node y46.1),.box 206 [.d (Sl eS n.d.Users),.d (Sl Lij n.d.Owners),I n.d.Life,B n.d.Approve,.map 0,.map 1,.map 2,.map 3],.bag y46.2 (arX al.2.1 al.2.2.1 al.2.2.2.1 al.2.2.2.2.1 al.2.2.2.2.2) [],.box 37 (fS s),.box 77 (fM m)] rfl rfl (Kix rfl) (Kjc (Kkv hΓ (kv:=kS) (agg:=false) (enc:=(eT 233 11 Lip)) (id:=3) n.story s.Node y46.1 rfl rfl rfl Kkh rfl rfl rfl rfl rfl)) ?_
  refine Kit ?_
  refine go hΓ 8 rfl ?_
  obtain⟨v48,hv48,h49⟩:=Kfw h47
  obtain rfl:=oSi h49
  obtain rfl:=oSi h2
  refine go hΓ 2 rfl ?_
  refine Kjn ?_
  obtain rfl:=oSi hv48
  exact Khj hΓ [_,_] (.inr rfl) rfl rfl rfl rfl (.inr ⟨HB.mk rfl,rfl⟩)
 intro a3 ha
 subst ha
 replace h2:=Kjk h2
 obtain⟨y50,hy50,h51⟩:=Kfw h2
 refine go hΓ 8 rfl ?_
 refine Kgw [0,1,2,3,4,5] (.tup []) [mObB y50.1.users,mObH y50.1.passes,mObM y50.1.there,mObT y50.1.story,.box 206 [.d (Sl eS y50.1.d.Users),.d (Sl Lij y50.1.d.Owners),I y50.1.d.Life,B y50.1.d.Approve,.map 0,.map 1,.map 2,.map 3],bg y50.2,.box 37 (fS s),.box 77 (fM a3.1)] (Lml Tryz.func267 rfl rfl) (Llj hy50) rfl (nBe rfl) rfl rfl rfl rfl rfl rfl rfl rfl rfl rfl ?_
 refine Kfm hΓ 8 rfl ?_
 refine Kjn ?_
 obtain rfl:=oSi h51
 exact Khj hΓ [_,_] (.inr rfl) rfl rfl rfl rfl (.inr ⟨HB.mk rfl,rfl⟩)
theorem Llw{n:Lcd}{s:Lby}{al:BagT}{r:Int×Lcd×BagT}(h:Lfj n s al=some r):EC Tryz.prog 87 [.ptr 4 0,.agg (fS s)] [mObB n.users,mObH n.passes,mObM n.there,mObT n.story,.box 206 [.d (Sl eS n.d.Users),.d (Sl Lij n.d.Owners),I n.d.Life,B n.d.Approve,.map 0,.map 1,.map 2,.map 3],bg al] fun g hp'=>g=I r.1∧hp'=[mObB r.2.1.users,mObH r.2.1.passes,mObM r.2.1.there,mObT r.2.1.story,.box 206 [.d (Sl eS r.2.1.d.Users),.d (Sl Lij r.2.1.d.Owners),I r.2.1.d.Life,B r.2.1.d.Approve,.map 0,.map 1,.map 2,.map 3],bg r.2.2]:=by
 refine Klr (Fr.of 0 _) Tryz.func87 rfl (Fr.of_ok _) (nBe rfl) fun _=>?_
 refine Kfo ?_
 unfold Lfj at h
 refine go hΓ 2 rfl ?_
 refine Ksq rfl rfl rfl rfl (nBe rfl) ?_
 refine Kfm hΓ 11 rfl ?_
 refine Kfp rfl (fun hb=>?_) (fun hb=>?_)
 ·have h1:=cT h hb
  obtain⟨y2,hy2,h3⟩:=Kfw h1
  refine go hΓ 4 rfl ?_
  refine Kgw [0,1,2,3,4,5] (I y2.1) [mObB y2.2.1.users,mObH y2.2.1.passes,mObM y2.2.1.there,mObT y2.2.1.story,.box 206 [.d (Sl eS y2.2.1.d.Users),.d (Sl Lij y2.2.1.d.Owners),I y2.2.1.d.Life,B y2.2.1.d.Approve,.map 0,.map 1,.map 2,.map 3],bg y2.2.2,.box 37 (fS s)] (Lml Tryz.func188 rfl rfl) (Llk hy2) rfl (nBe rfl) rfl rfl rfl rfl rfl rfl rfl rfl rfl rfl ?_
  refine Kfm hΓ 5 rfl ?_
  refine Kjn ?_
  obtain rfl:=oSi h3
  exact Khj hΓ [_] (.inr rfl) rfl rfl rfl rfl (.inr ⟨HB.mk rfl,rfl⟩)
 have h4:=cF h hb
 refine go hΓ 4 rfl ?_
 refine Kfs hmix (by kernel_rfl) ?_
 refine go hΓ 6 rfl ?_
 refine gl_o rfl (Kkr hΓ (kv:=kS) (agg:=false) (enc:=eB) n.users s.By (false:Bool) rfl rfl rfl rfl Kkh rfl rfl rfl rfl rfl rfl rfl) ?_
 refine Kfn hΓ 3 rfl ?_
 refine Kfp rfl (fun hb=>?_) (fun hb=>?_)
 ·have h5:=cT h4 hb
  refine go hΓ 7 rfl ?_
  refine Kjn ?_
  obtain rfl:=oSi h5
  exact Khj hΓ [_] (.inr rfl) rfl rfl rfl rfl (.inr ⟨HB.mk rfl,rfl⟩)
 have h6:=cF h4 hb
 refine go hΓ 16 rfl ?_
 refine Kfp rfl (fun hb=>?_) (fun hb=>?_)
 ·have h7:=cT h6 hb
  obtain⟨y8,hy8,h9⟩:=Kfw h7
  refine go hΓ 4 rfl ?_
  refine Kgw [0,1,2,3,4,5] (I y8.1) [mObB y8.2.1.users,mObH y8.2.1.passes,mObM y8.2.1.there,mObT y8.2.1.story,.box 206 [.d (Sl eS y8.2.1.d.Users),.d (Sl Lij y8.2.1.d.Owners),I y8.2.1.d.Life,B y8.2.1.d.Approve,.map 0,.map 1,.map 2,.map 3],bg y8.2.2,.box 37 (fS s)] (Lml Tryz.func189 rfl rfl) (Llp hy8) rfl (nBe rfl) rfl rfl rfl rfl rfl rfl rfl rfl rfl rfl ?_
  refine Kfm hΓ 6 rfl ?_
  refine Kjn ?_
  obtain rfl:=oSi h9
  exact Khj hΓ [_] (.inr rfl) rfl rfl rfl rfl (.inr ⟨HB.mk rfl,rfl⟩)
 have h10:=cF h6 hb
 refine go hΓ 6 rfl ?_
 refine Kfp rfl (fun hb=>?_) (fun hb=>?_)
 ·have h11:=cT h10 hb
  obtain⟨y12,hy12,h13⟩:=Kfw h11
  refine go hΓ 4 rfl ?_
  refine Kgw [0,1,2,3,4,5] (I y12.1) [mObB n.users,mObH n.passes,mObM n.there,mObT n.story,.box 206 [.d (Sl eS n.d.Users),.d (Sl Lij n.d.Owners),I n.d.Life,B n.d.Approve,.map 0,.map 1,.map 2,.map 3],bg y12.2,.box 37 (fS s)] (Lml Tryz.func190 rfl rfl) (Llq hy12) rfl (nBe rfl) rfl rfl rfl rfl rfl rfl rfl rfl rfl rfl ?_
  refine Kfm hΓ 6 rfl ?_
  refine Kjn ?_
  obtain rfl:=oSi h13
  exact Khj hΓ [_] (.inr rfl) rfl rfl rfl rfl (.inr ⟨HB.mk rfl,rfl⟩)
 have h14:=cF h10 hb
 refine go hΓ 4 rfl ?_
 refine Kir [.dead,.dead,mObM n.there,.dead,.box 206 [.d (Sl eS n.d.Users),.d (Sl Lij n.d.Owners),I n.d.Life,B n.d.Approve,.map 0,.map 1,.map 2,.map 3],.dead,.box 37 (fS s)] [3,5,6] [10,11] [] hmix (by kernel_rfl) (by kernel_rfl) ⟨rfl,rfl,rfl,tV⟩ (nBe rfl) ?_
 refine go_E hΓ 6 rfl ?_
 refine ge_p rfl (fun hp hs=>Kks hΓ (kv:=kS) (agg:=true) (enc:=Lio) n.there s.Node ((⟨[],[],[],[],[],0,0,false⟩:Lcb):Lcb) rfl rfl rfl rfl Kkh rfl (hs 2 _ rfl rfl) rfl rfl rfl rfl rfl) rfl ?_
 refine go_E hΓ 3 rfl ?_
 refine ge_h [mObB n.users,mObH n.passes,mObM n.there,mObT n.story,.box 206 [.d (Sl eS n.d.Users),.d (Sl Lij n.d.Owners),I n.d.Life,B n.d.Approve,.map 0,.map 1,.map 2,.map 3],bg al,.box 37 (fS s),.box 77 [S [],S [],S [],S [],.d (Sl eS []),I 0,I 0,B false]] rfl rfl rfl (Kiy ⟨rfl,rfl,rfl,tV⟩) (Kjb (Kjg hΓ (hi:=show Γ 77=some ⟨_,_,_,_⟩ from rfl) rfl)) ?_
 refine Kiw [mObB n.users,mObH n.passes,mObM n.there,mObT n.story,.box 206 [.d (Sl eS n.d.Users),.d (Sl Lij n.d.Owners),I n.d.Life,B n.d.Approve,.map 0,.map 1,.map 2,.map 3],bg al,.box 37 (fS s),.box 77 [S (((mGet n.there s.Node).getD (⟨[],[],[],[],[],0,0,false⟩:Lcb)).Node),S (((mGet n.there s.Node).getD (⟨[],[],[],[],[],0,0,false⟩:Lcb)).User),S (((mGet n.there s.Node).getD (⟨[],[],[],[],[],0,0,false⟩:Lcb)).Name),S (((mGet n.there s.Node).getD (⟨[],[],[],[],[],0,0,false⟩:Lcb)).Public),.d (Sl eS (((mGet n.there s.Node).getD (⟨[],[],[],[],[],0,0,false⟩:Lcb)).Tags)),I (((mGet n.there s.Node).getD (⟨[],[],[],[],[],0,0,false⟩:Lcb)).Joined),I (((mGet n.there s.Node).getD (⟨[],[],[],[],[],0,0,false⟩:Lcb)).Expires),B (((mGet n.there s.Node).getD (⟨[],[],[],[],[],0,0,false⟩:Lcb)).Approved)]] rfl rfl (Kiy ⟨rfl,rfl,rfl,tV⟩) (Kjc (Kjv hΓ rfl rfl rfl rfl rfl rfl rfl rfl rfl)) ?_
 refine go_E hΓ 1 rfl ?_
 refine Kit ?_
 refine go hΓ 8 rfl ?_
 refine Kfp rfl (fun hb=>?_) (fun hb=>?_)
 ·have h15:=cT h14 hb
  refine go hΓ 7 rfl ?_
  refine Kjn ?_
  obtain rfl:=oSi h15
  exact Khj hΓ [_,_] (.inr rfl) rfl rfl rfl rfl (.inr ⟨HB.mk rfl,rfl⟩)
 have h16:=cF h14 hb
 refine go hΓ 9 rfl ?_
 obtain⟨q17,hq17,h18⟩:=Kfw h16
 refine Kfv 7 [(0,.ptr 4 0),(3,.ptr 6 0),(5,.ptr 7 0),(55,B q17)] [mObB n.users,mObH n.passes,mObM n.there,mObT n.story,.box 206 [.d (Sl eS n.d.Users),.d (Sl Lij n.d.Owners),I n.d.Life,B n.d.Approve,.map 0,.map 1,.map 2,.map 3],bg al,.box 37 (fS s),.box 77 [S (((mGet n.there s.Node).getD (⟨[],[],[],[],[],0,0,false⟩:Lcb)).Node),S (((mGet n.there s.Node).getD (⟨[],[],[],[],[],0,0,false⟩:Lcb)).User),S (((mGet n.there s.Node).getD (⟨[],[],[],[],[],0,0,false⟩:Lcb)).Name),S (((mGet n.there s.Node).getD (⟨[],[],[],[],[],0,0,false⟩:Lcb)).Public),.d (Sl eS (((mGet n.there s.Node).getD (⟨[],[],[],[],[],0,0,false⟩:Lcb)).Tags)),I (((mGet n.there s.Node).getD (⟨[],[],[],[],[],0,0,false⟩:Lcb)).Joined),I (((mGet n.there s.Node).getD (⟨[],[],[],[],[],0,0,false⟩:Lcb)).Expires),B (((mGet n.there s.Node).getD (⟨[],[],[],[],[],0,0,false⟩:Lcb)).Approved)]] ?_ ?_
 ·refine Krj rfl rfl (fun hb=>?_) (fun hb=>?_)
  ·have h19:=cT hq17 hb
   obtain⟨y20,hy20,h21⟩:=Kfw h19
   refine Kfm hΓ 4 rfl ?_
   refine Krh rfl ?_
   refine Kgw [0,1,2,3,4] (B y20) [mObB n.users,mObH n.passes,mObM n.there,mObT n.story,.box 206 [.d (Sl eS n.d.Users),.d (Sl Lij n.d.Owners),I n.d.Life,B n.d.Approve,.map 0,.map 1,.map 2,.map 3],bg al,.box 37 (fS s),.box 77 [S (((mGet n.there s.Node).getD (⟨[],[],[],[],[],0,0,false⟩:Lcb)).Node),S (((mGet n.there s.Node).getD (⟨[],[],[],[],[],0,0,false⟩:Lcb)).User),S (((mGet n.there s.Node).getD (⟨[],[],[],[],[],0,0,false⟩:Lcb)).Name),S (((mGet n.there s.Node).getD (⟨[],[],[],[],[],0,0,false⟩:Lcb)).Public),.d (Sl eS (((mGet n.there s.Node).getD (⟨[],[],[],[],[],0,0,false⟩:Lcb)).Tags)),I (((mGet n.there s.Node).getD (⟨[],[],[],[],[],0,0,false⟩:Lcb)).Joined),I (((mGet n.there s.Node).getD (⟨[],[],[],[],[],0,0,false⟩:Lcb)).Expires),B (((mGet n.there s.Node).getD (⟨[],[],[],[],[],0,0,false⟩:Lcb)).Approved)]] (Lml Tryz.func191 rfl rfl) (Llu hy20) rfl (nBe rfl) rfl rfl rfl rfl rfl rfl rfl rfl rfl rfl ?_
   refine Kfm hΓ 3 rfl ?_
   obtain rfl:=oSi h21
   exact⟨⟨rfl,rfl,rfl,rfl,tV⟩,[],rfl,.inl rfl⟩
  have h22:=cF hq17 hb
  refine Kfm hΓ 8 rfl ?_
  obtain rfl:=oSi h22
  exact⟨⟨rfl,rfl,rfl,rfl,tV⟩,[],rfl,.inl rfl⟩
 refine Kfm hΓ 2 rfl ?_
 refine Kfp rfl (fun hb=>?_) (fun hb=>?_)
 ·have h23:=cT h18 hb
  refine go hΓ 7 rfl ?_
  refine Kjn ?_
  obtain rfl:=oSi h23
  exact Khj hΓ [_,_] (.inr rfl) rfl rfl rfl rfl (.inr ⟨HB.mk rfl,rfl⟩)
 have h24:=cF h18 hb
 obtain⟨y25,hy25,h26⟩:=Kfw h24
 refine go hΓ 7 rfl ?_
 refine Kgw [0,1,2,3,4,5] (I y25.1) [mObB y25.2.1.users,mObH y25.2.1.passes,mObM y25.2.1.there,mObT y25.2.1.story,.box 206 [.d (Sl eS y25.2.1.d.Users),.d (Sl Lij y25.2.1.d.Owners),I y25.2.1.d.Life,B y25.2.1.d.Approve,.map 0,.map 1,.map 2,.map 3],bg y25.2.2,.box 37 (fS s),.box 77 [S (((mGet n.there s.Node).getD (⟨[],[],[],[],[],0,0,false⟩:Lcb)).Node),S (((mGet n.there s.Node).getD (⟨[],[],[],[],[],0,0,false⟩:Lcb)).User),S (((mGet n.there s.Node).getD (⟨[],[],[],[],[],0,0,false⟩:Lcb)).Name),S (((mGet n.there s.Node).getD (⟨[],[],[],[],[],0,0,false⟩:Lcb)).Public),.d (Sl eS (((mGet n.there s.Node).getD (⟨[],[],[],[],[],0,0,false⟩:Lcb)).Tags)),I (((mGet n.there s.Node).getD (⟨[],[],[],[],[],0,0,false⟩:Lcb)).Joined),I (((mGet n.there s.Node).getD (⟨[],[],[],[],[],0,0,false⟩:Lcb)).Expires),B (((mGet n.there s.Node).getD (⟨[],[],[],[],[],0,0,false⟩:Lcb)).Approved)]] (Lml Tryz.func192 rfl rfl) (Llv hy25) rfl (nBe rfl) rfl rfl rfl rfl rfl rfl rfl rfl rfl rfl ?_
 refine Kfm hΓ 4 rfl ?_
 refine Kjn ?_
 obtain rfl:=oSi h26
 exact Khj hΓ [_,_] (.inr rfl) rfl rfl rfl rfl (.inr ⟨HB.mk rfl,rfl⟩)
theorem Llx{d:Lbx}{l:List Lby}{v_at:Int}{al:BagT}{r:Lcd×BagT}(h:Lfk d l v_at al=some r):EC Tryz.prog 139 [.agg (fD d),.d (Sl Lil l),I v_at] [bg al] fun g hp'=>g=.ptr 5 0∧hp'=[bg r.2,mObB r.1.users,mObH r.1.passes,mObM r.1.there,mObT r.1.story,.box 206 [.d (Sl eS r.1.d.Users),.d (Sl Lij r.1.d.Owners),I r.1.d.Life,B r.1.d.Approve,.map 1,.map 2,.map 3,.map 4]]:=by
 refine Klr (Fr.of 0 _) Tryz.func139 rfl (Fr.of_ok _) (nBe rfl) fun _=>?_
 refine Kfo ?_
 unfold Lfk at h
 refine go hΓ 2 rfl ?_
 refine Ksq rfl rfl rfl rfl (nBe rfl) ?_
 obtain⟨y1,hy1,h2⟩:=Kfw h
 refine Kfm hΓ 6 rfl ?_
 refine Kgw [] (.ptr 6 0) [bg al,.box 29 (fD d),mObB y1.users,mObH y1.passes,mObM y1.there,mObT y1.story,.box 206 [.d (Sl eS y1.d.Users),.d (Sl Lij y1.d.Owners),I y1.d.Life,B y1.d.Approve,.map 2,.map 3,.map 4,.map 5]] (Lml Tryz.func86 rfl rfl) (Lle hy1) rfl (nBe rfl) rfl rfl rfl rfl rfl rfl rfl rfl rfl rfl ?_
 refine Kfm hΓ 11 rfl ?_
 obtain⟨q6,hq6,h7⟩:=Kfw h2
 refine Kgf 12 rfl fun hb9=>?_
 refine Kjr [(7,.ptr 6 0)] [bg q6.1,.box 29 (fD d),mObB q6.2.1,mObH q6.2.2.1,mObM q6.2.2.2.1,mObT q6.2.2.2.2.1,.box 206 [.d (Sl eS q6.2.2.2.2.2.1),.d (Sl Lij q6.2.2.2.2.2.2.1),I q6.2.2.2.2.2.2.2.1,B q6.2.2.2.2.2.2.2.2,.map 2,.map 3,.map 4,.map 5]] ?_ ?_
 ·refine go hΓ 1 rfl ?_
  refine Khl l hq6 (fun i3 s4=>[(2,I v_at),(7,.ptr 6 0),(12,.d (Sl Lil l)),(13,I (l.length:Int)),(14,I (i3:Int))]) (fun s4=>[bg s4.1,.box 29 (fD d),mObB s4.2.1,mObH s4.2.2.1,mObM s4.2.2.2.1,mObT s4.2.2.2.2.1,.box 206 [.d (Sl eS s4.2.2.2.2.2.1),.d (Sl Lij s4.2.2.2.2.2.2.1),I s4.2.2.2.2.2.2.2.1,B s4.2.2.2.2.2.2.2.2,.map 2,.map 3,.map 4,.map 5]]) ⟨⟨rfl,rfl,rfl,rfl,rfl,tV⟩,[],rfl,.inl rfl⟩ (fun i3 x5 s4 y13 hx10 hlt hy11=>?_) (?_)
  ·refine go hΓ 6 rfl ?_
   refine Kfq rfl (decide_eq_true (Int.ofNat_lt.2 hlt)) ?_
   refine go hΓ 6 rfl ?_
   refine eo_o rfl (Kgg hΓ (enc:=Lil) (Kfz hx10) rfl rfl rfl rfl rfl (fun _=>rfl)) ?_
   refine Kfm hΓ 1 rfl ?_
   refine Ksp hΓ rfl rfl rfl (nBe rfl) ?_
   refine Ksu hΓ rfl rfl rfl rfl rfl rfl rfl rfl (nBe rfl) ?_
   refine Khe [bg s4.1,.box 29 (fD d),mObB s4.2.1,mObH s4.2.2.1,mObM s4.2.2.2.1,mObT s4.2.2.2.2.1,.box 206 [.d (Sl eS s4.2.2.2.2.2.1),.d (Sl Lij s4.2.2.2.2.2.2.1),I s4.2.2.2.2.2.2.2.1,B s4.2.2.2.2.2.2.2.2,.map 2,.map 3,.map 4,.map 5],.box 37 (fS x5)] rfl ?_
   refine Kfm hΓ 10 rfl ?_
   refine Kfp rfl (fun hb=>?_) (fun hb=>?_)
   ·have h14:=cT hy11 hb
    obtain⟨y15,hy15,h16⟩:=Kfw h14
    refine go hΓ 3 rfl ?_
    refine Kgw [2,3,4,5,6,0] (I y15.1) [bg y15.2.2,.box 29 (fD d),mObB y15.2.1.users,mObH y15.2.1.passes,mObM y15.2.1.there,mObT y15.2.1.story,.box 206 [.d (Sl eS y15.2.1.d.Users),.d (Sl Lij y15.2.1.d.Owners),I y15.2.1.d.Life,B y15.2.1.d.Approve,.map 2,.map 3,.map 4,.map 5],.box 37 (fS x5)] (Lml Tryz.func87 rfl rfl) (Llw hy15) rfl (nBe rfl) rfl rfl rfl rfl rfl rfl rfl rfl rfl rfl ?_
    refine Kfm hΓ 7 rfl ?_
    obtain rfl:=oSi h16
    exact⟨⟨rfl,rfl,rfl,rfl,Kew rfl (Kev (nLl hlt hb9)),tV⟩,[_],rfl,.inr ⟨HB.mk rfl,FB.mk rfl,(nBe rfl)⟩⟩
   have h17:=cF hy11 hb
   refine go hΓ 7 rfl ?_
   obtain rfl:=oSi h17
   exact⟨⟨rfl,rfl,rfl,rfl,Kew rfl (Kev (nLl hlt hb9)),tV⟩,[_],rfl,.inr ⟨HB.mk rfl,FB.mk rfl,(nBe rfl)⟩⟩
  refine go hΓ 6 rfl ?_
  refine Kfr rfl (decide_eq_false (Int.lt_irrefl _)) ?_
  refine go hΓ 4 rfl ?_
  exact⟨⟨rfl,tV⟩,[],rfl,.inl rfl⟩
 refine go hΓ 8 rfl ?_
 refine Klm 1 [bg q6.1,.dead,mObB q6.2.1,mObH q6.2.2.1,mObM q6.2.2.2.1,mObT q6.2.2.2.2.1,.box 206 [.d (Sl eS q6.2.2.2.2.2.1),.d (Sl Lij q6.2.2.2.2.2.2.1),I q6.2.2.2.2.2.2.2.1,B q6.2.2.2.2.2.2.2.2,.map 2,.map 3,.map 4,.map 5]] rfl (nBe rfl) ?_
 refine Kjp 2 1 [bg q6.1,mObB q6.2.1,.dead,mObH q6.2.2.1,mObM q6.2.2.2.1,mObT q6.2.2.2.2.1,.box 206 [.d (Sl eS q6.2.2.2.2.2.1),.d (Sl Lij q6.2.2.2.2.2.2.1),I q6.2.2.2.2.2.2.2.1,B q6.2.2.2.2.2.2.2.2,.map 1,.map 3,.map 4,.map 5]] rfl rfl rfl rfl rfl rfl ?_
 refine Kjp 3 2 [bg q6.1,mObB q6.2.1,mObH q6.2.2.1,.dead,mObM q6.2.2.2.1,mObT q6.2.2.2.2.1,.box 206 [.d (Sl eS q6.2.2.2.2.2.1),.d (Sl Lij q6.2.2.2.2.2.2.1),I q6.2.2.2.2.2.2.2.1,B q6.2.2.2.2.2.2.2.2,.map 1,.map 2,.map 4,.map 5]] rfl rfl rfl rfl rfl rfl ?_
 refine Kjp 4 3 [bg q6.1,mObB q6.2.1,mObH q6.2.2.1,mObM q6.2.2.2.1,.dead,mObT q6.2.2.2.2.1,.box 206 [.d (Sl eS q6.2.2.2.2.2.1),.d (Sl Lij q6.2.2.2.2.2.2.1),I q6.2.2.2.2.2.2.2.1,B q6.2.2.2.2.2.2.2.2,.map 1,.map 2,.map 3,.map 5]] rfl rfl rfl rfl rfl rfl ?_
 refine Kjp 5 4 [bg q6.1,mObB q6.2.1,mObH q6.2.2.1,mObM q6.2.2.2.1,mObT q6.2.2.2.2.1,.dead,.box 206 [.d (Sl eS q6.2.2.2.2.2.1),.d (Sl Lij q6.2.2.2.2.2.2.1),I q6.2.2.2.2.2.2.2.1,B q6.2.2.2.2.2.2.2.2,.map 1,.map 2,.map 3,.map 4]] rfl rfl rfl rfl rfl rfl ?_
 refine Kjp 6 5 [bg q6.1,mObB q6.2.1,mObH q6.2.2.1,mObM q6.2.2.2.1,mObT q6.2.2.2.2.1,.box 206 [.d (Sl eS q6.2.2.2.2.2.1),.d (Sl Lij q6.2.2.2.2.2.2.1),I q6.2.2.2.2.2.2.2.1,B q6.2.2.2.2.2.2.2.2,.map 1,.map 2,.map 3,.map 4],.dead] rfl rfl rfl rfl rfl rfl ?_
 refine Kjn ?_
 obtain rfl:=oSi h7
 exact Khj hΓ [_] (.inr rfl) rfl rfl rfl rfl (.inr ⟨HB.mk rfl,rfl⟩)
theorem Lly{k:Nat}{d:Lbx}{l:List Lby}{moment:Int}{al:BagT}{r2:Int}{r3:BagT}(h:Lfl k d l moment al=some (none,r2,r3)):EC Tryz.prog 136 [.agg (fD d),.d (Sl Lil l),I moment] [bg al] fun g hp'=>g=.tup [.d (.v (.pointer none)),I r2]∧hp'=[bg r3]:=by
 refine Klr (Fr.of 0 _) Tryz.func136 rfl (Fr.of_ok _) (nBe rfl) fun _=>?_
 refine Kfo ?_
 unfold Lfl at h
 refine go hΓ 2 rfl ?_
 refine Ksq rfl rfl rfl rfl (nBe rfl) ?_
 obtain⟨y1,hy1,h2⟩:=Kfw h
 refine Kfm hΓ 9 rfl ?_
 refine Kgx (Lml Tryz.func85 rfl rfl) (Lld hy1) rfl (nBe rfl) rfl rfl rfl rfl rfl ?_
 refine Kfm hΓ 9 rfl ?_
 refine Kfp rfl (fun hb=>?_) (fun hb=>?_)
 ·have h3:=cT h2 hb
  refine go hΓ 9 rfl ?_
  refine Kjn ?_
  cases h3
  exact Khj hΓ [_] (.inr rfl) rfl rfl rfl rfl (.inr ⟨HB.mk rfl,rfl⟩)
 have h4:=cF h2 hb
 obtain⟨y5,hy5,h6⟩:=Kfw h4
 refine go hΓ 6 rfl ?_
 refine Kgx (Lml Tryz.func138 rfl rfl) (Lko hy5) rfl (nBe rfl) rfl rfl rfl rfl rfl ?_
 refine Kfm hΓ 3 rfl ?_
 refine Kfp rfl (fun hb=>?_) (fun hb=>?_)
 ·have h7:=cT h6 hb
  refine go hΓ 8 rfl ?_
  refine Kjn ?_
  cases h7
  exact Khj hΓ [_] (.inr rfl) rfl rfl rfl rfl (.inr ⟨HB.mk rfl,rfl⟩)
 have h8:=cF h6 hb
 obtain⟨y9,hy9,h10⟩:=Kfw h8
 refine go hΓ 7 rfl ?_
 refine Kgw [0] (.ptr 6 0) [bg y9.2,.box 29 (fD d),mObB y9.1.users,mObH y9.1.passes,mObM y9.1.there,mObT y9.1.story,.box 206 [.d (Sl eS y9.1.d.Users),.d (Sl Lij y9.1.d.Owners),I y9.1.d.Life,B y9.1.d.Approve,.map 2,.map 3,.map 4,.map 5]] (Lml Tryz.func139 rfl rfl) (Llx hy9) rfl (nBe rfl) rfl rfl rfl rfl rfl rfl rfl rfl rfl rfl ?_
 refine Kfm hΓ 5 rfl ?_
 refine Klm 1 [bg y9.2,.dead,mObB y9.1.users,mObH y9.1.passes,mObM y9.1.there,mObT y9.1.story,.box 206 [.d (Sl eS y9.1.d.Users),.d (Sl Lij y9.1.d.Owners),I y9.1.d.Life,B y9.1.d.Approve,.map 2,.map 3,.map 4,.map 5]] rfl (nBe rfl) ?_
 refine Kjp 2 1 [bg y9.2,mObB y9.1.users,.dead,mObH y9.1.passes,mObM y9.1.there,mObT y9.1.story,.box 206 [.d (Sl eS y9.1.d.Users),.d (Sl Lij y9.1.d.Owners),I y9.1.d.Life,B y9.1.d.Approve,.map 1,.map 3,.map 4,.map 5]] rfl rfl rfl rfl rfl rfl ?_
 refine Kjp 3 2 [bg y9.2,mObB y9.1.users,mObH y9.1.passes,.dead,mObM y9.1.there,mObT y9.1.story,.box 206 [.d (Sl eS y9.1.d.Users),.d (Sl Lij y9.1.d.Owners),I y9.1.d.Life,B y9.1.d.Approve,.map 1,.map 2,.map 4,.map 5]] rfl rfl rfl rfl rfl rfl ?_
 refine Kjp 4 3 [bg y9.2,mObB y9.1.users,mObH y9.1.passes,mObM y9.1.there,.dead,mObT y9.1.story,.box 206 [.d (Sl eS y9.1.d.Users),.d (Sl Lij y9.1.d.Owners),I y9.1.d.Life,B y9.1.d.Approve,.map 1,.map 2,.map 3,.map 5]] rfl rfl rfl rfl rfl rfl ?_
 refine Kjp 5 4 [bg y9.2,mObB y9.1.users,mObH y9.1.passes,mObM y9.1.there,mObT y9.1.story,.dead,.box 206 [.d (Sl eS y9.1.d.Users),.d (Sl Lij y9.1.d.Owners),I y9.1.d.Life,B y9.1.d.Approve,.map 1,.map 2,.map 3,.map 4]] rfl rfl rfl rfl rfl rfl ?_
 refine Kjp 6 5 [bg y9.2,mObB y9.1.users,mObH y9.1.passes,mObM y9.1.there,mObT y9.1.story,.box 206 [.d (Sl eS y9.1.d.Users),.d (Sl Lij y9.1.d.Owners),I y9.1.d.Life,B y9.1.d.Approve,.map 1,.map 2,.map 3,.map 4],.dead] rfl rfl rfl rfl rfl rfl ?_
 refine Kjn ?_
 cases h10
theorem Llz{k:Nat}{d:Lbx}{l:List Lby}{moment:Int}{al:BagT}{r1:Lcd}{r2:Int}{r3:BagT}(h:Lfl k d l moment al=some (some r1,r2,r3)):EC Tryz.prog 136 [.agg (fD d),.d (Sl Lil l),I moment] [bg al] fun g hp'=>g=.tup [.ptr 5 0,I r2]∧hp'=[bg r3,mObB r1.users,mObH r1.passes,mObM r1.there,mObT r1.story,.box 206 [.d (Sl eS r1.d.Users),.d (Sl Lij r1.d.Owners),I r1.d.Life,B r1.d.Approve,.map 1,.map 2,.map 3,.map 4]]:=by
 refine Klr (Fr.of 0 _) Tryz.func136 rfl (Fr.of_ok _) (nBe rfl) fun _=>?_
 refine Kfo ?_
 unfold Lfl at h
 refine go hΓ 2 rfl ?_
 refine Ksq rfl rfl rfl rfl (nBe rfl) ?_
 obtain⟨y1,hy1,h2⟩:=Kfw h
 refine Kfm hΓ 9 rfl ?_
 refine Kgx (Lml Tryz.func85 rfl rfl) (Lld hy1) rfl (nBe rfl) rfl rfl rfl rfl rfl ?_
 refine Kfm hΓ 9 rfl ?_
 refine Kfp rfl (fun hb=>?_) (fun hb=>?_)
 ·have h3:=cT h2 hb
  refine go hΓ 9 rfl ?_
  refine Kjn ?_
  cases h3
 have h4:=cF h2 hb
 obtain⟨y5,hy5,h6⟩:=Kfw h4
 refine go hΓ 6 rfl ?_
 refine Kgx (Lml Tryz.func138 rfl rfl) (Lko hy5) rfl (nBe rfl) rfl rfl rfl rfl rfl ?_
 refine Kfm hΓ 3 rfl ?_
 refine Kfp rfl (fun hb=>?_) (fun hb=>?_)
 ·have h7:=cT h6 hb
  refine go hΓ 8 rfl ?_
  refine Kjn ?_
  cases h7
 have h8:=cF h6 hb
 obtain⟨y9,hy9,h10⟩:=Kfw h8
 refine go hΓ 7 rfl ?_
 refine Kgw [0] (.ptr 6 0) [bg y9.2,.box 29 (fD d),mObB y9.1.users,mObH y9.1.passes,mObM y9.1.there,mObT y9.1.story,.box 206 [.d (Sl eS y9.1.d.Users),.d (Sl Lij y9.1.d.Owners),I y9.1.d.Life,B y9.1.d.Approve,.map 2,.map 3,.map 4,.map 5]] (Lml Tryz.func139 rfl rfl) (Llx hy9) rfl (nBe rfl) rfl rfl rfl rfl rfl rfl rfl rfl rfl rfl ?_
 refine Kfm hΓ 5 rfl ?_
 refine Klm 1 [bg y9.2,.dead,mObB y9.1.users,mObH y9.1.passes,mObM y9.1.there,mObT y9.1.story,.box 206 [.d (Sl eS y9.1.d.Users),.d (Sl Lij y9.1.d.Owners),I y9.1.d.Life,B y9.1.d.Approve,.map 2,.map 3,.map 4,.map 5]] rfl (nBe rfl) ?_
 refine Kjp 2 1 [bg y9.2,mObB y9.1.users,.dead,mObH y9.1.passes,mObM y9.1.there,mObT y9.1.story,.box 206 [.d (Sl eS y9.1.d.Users),.d (Sl Lij y9.1.d.Owners),I y9.1.d.Life,B y9.1.d.Approve,.map 1,.map 3,.map 4,.map 5]] rfl rfl rfl rfl rfl rfl ?_
 refine Kjp 3 2 [bg y9.2,mObB y9.1.users,mObH y9.1.passes,.dead,mObM y9.1.there,mObT y9.1.story,.box 206 [.d (Sl eS y9.1.d.Users),.d (Sl Lij y9.1.d.Owners),I y9.1.d.Life,B y9.1.d.Approve,.map 1,.map 2,.map 4,.map 5]] rfl rfl rfl rfl rfl rfl ?_
 refine Kjp 4 3 [bg y9.2,mObB y9.1.users,mObH y9.1.passes,mObM y9.1.there,.dead,mObT y9.1.story,.box 206 [.d (Sl eS y9.1.d.Users),.d (Sl Lij y9.1.d.Owners),I y9.1.d.Life,B y9.1.d.Approve,.map 1,.map 2,.map 3,.map 5]] rfl rfl rfl rfl rfl rfl ?_
 refine Kjp 5 4 [bg y9.2,mObB y9.1.users,mObH y9.1.passes,mObM y9.1.there,mObT y9.1.story,.dead,.box 206 [.d (Sl eS y9.1.d.Users),.d (Sl Lij y9.1.d.Owners),I y9.1.d.Life,B y9.1.d.Approve,.map 1,.map 2,.map 3,.map 4]] rfl rfl rfl rfl rfl rfl ?_
 refine Kjp 6 5 [bg y9.2,mObB y9.1.users,mObH y9.1.passes,mObM y9.1.there,mObT y9.1.story,.box 206 [.d (Sl eS y9.1.d.Users),.d (Sl Lij y9.1.d.Owners),I y9.1.d.Life,B y9.1.d.Approve,.map 1,.map 2,.map 3,.map 4],.dead] rfl rfl rfl rfl rfl rfl ?_
 refine Kjn ?_
 cases h10
 exact Khj hΓ [_] (.inr rfl) rfl rfl rfl rfl (.inr ⟨HB.mk rfl,rfl⟩)
theorem Lma{m:Lcb}{r:Lcb}(h:Lfm m=some r):Pure Tryz.prog 140 [.agg (fM m)] (.agg (fM r)):=by
 refine Pure.enter (Fr.of 0 _) Tryz.func140 rfl (Fr.of_ok _) rfl rfl ?_
 refine Kfo ?_
 unfold Lfm at h
 refine go hΓ 2 rfl ?_
 refine Ksq rfl rfl rfl rfl (nBe rfl) ?_
 refine Ksp hΓ rfl rfl rfl (nBe rfl) ?_
 obtain⟨y1,hy1,h2⟩:=Kfw h
 refine Kfm hΓ 6 rfl ?_
 refine Kgx (Lml Tryz.func213 rfl rfl) (Pure.rows (Llh hy1) rfl rfl) rfl (nBe rfl) rfl rfl rfl rfl rfl ?_
 refine Kfm hΓ 1 rfl ?_
 refine Ksu hΓ rfl rfl rfl rfl rfl rfl rfl rfl (nBe rfl) ?_
 refine Khe [.box 77 [S m.Node,S m.User,S m.Name,S m.Public,.d (Sl eS y1),I m.Joined,I m.Expires,B m.Approved],.box 77 [S [],S [],S [],S [],.d (Sl eS []),I 0,I 0,B false]] rfl ?_
 refine Kfm hΓ 5 rfl ?_
 refine Ksu hΓ rfl rfl rfl rfl rfl rfl rfl rfl (nBe rfl) ?_
 refine Khe [.box 77 [S m.Node,S m.User,S m.Name,S m.Public,.d (Sl eS y1),I m.Joined,I m.Expires,B m.Approved],.box 77 [S m.Node,S m.User,S m.Name,S m.Public,.d (Sl eS y1),I m.Joined,I m.Expires,B m.Approved]] rfl ?_
 refine Kfm hΓ 3 rfl ?_
 obtain rfl:=oSi h2
 exact Khi hΓ (.inr rfl) rfl rfl
theorem Lmb{n:Lcd}{r:List Lcb}(h:Lfn n=some r):EC Tryz.prog 137 [.ptr 4 0] [mObB n.users,mObH n.passes,mObM n.there,mObT n.story,.box 206 [.d (Sl eS n.d.Users),.d (Sl Lij n.d.Owners),I n.d.Life,B n.d.Approve,.map 0,.map 1,.map 2,.map 3]] fun g hp'=>g=.sl 5 r.length∧hp'=[mObB n.users,mObH n.passes,mObM n.there,mObT n.story,.box 206 [.d (Sl eS n.d.Users),.d (Sl Lij n.d.Owners),I n.d.Life,B n.d.Approve,.map 0,.map 1,.map 2,.map 3],rO 77 8 Lio r]:=by
 refine Klr (Fr.of 0 _) Tryz.func137 rfl (Fr.of_ok _) (nBe rfl) fun _=>?_
 refine Kfo ?_
 unfold Lfn at h
 refine go hΓ 2 rfl ?_
 refine Kgu (t:=0) 77 8 rfl (nBe rfl) ?_
 refine Kfm hΓ 4 rfl ?_
 refine Kgu (t:=0) 77 8 rfl (nBe rfl) ?_
 refine Kfm hΓ 9 rfl ?_
 refine Kgw [2] (.fn (.func 305) [] [.ptr 7 0]) [mObB n.users,mObH n.passes,mObM n.there,mObT n.story,.box 206 [.d (Sl eS n.d.Users),.d (Sl Lij n.d.Owners),I n.d.Life,B n.d.Approve,.map 0,.map 1,.map 2,.map 3],rO 77 8 Lio ([]:List Lcb),rO 77 8 Lio ([]:List Lcb),.box 203 [.map 2]] (Lml Tryz.func230 rfl rfl) (EC.mapKeys (o:=mObM n.there) Lnb) rfl (nBe rfl) rfl rfl rfl rfl rfl rfl rfl rfl rfl rfl ?_
 obtain⟨hg2,h1⟩:=Kfx h
 refine Kgw [2,7] (.sl 8 (sortK n.there).length) [mObB n.users,mObH n.passes,mObM n.there,mObT n.story,.box 206 [.d (Sl eS n.d.Users),.d (Sl Lij n.d.Owners),I n.d.Life,B n.d.Approve,.map 0,.map 1,.map 2,.map 3],rO 77 8 Lio ([]:List Lcb),rO 77 8 Lio ([]:List Lcb),.box 203 [.map 2],rO 9 1 eS (sortK n.there)] (Lml Tryz.func141 rfl rfl) (EC.sortedKeys true Lio str9 (Kpz hg2) (Kqa hg2) Lmz) rfl (nBe rfl) rfl rfl rfl rfl rfl rfl rfl rfl rfl rfl ?_
 refine Khc 8 [11] _ [mObB n.users,mObH n.passes,mObM n.there,mObT n.story,.box 206 [.d (Sl eS n.d.Users),.d (Sl Lij n.d.Owners),I n.d.Life,B n.d.Approve,.map 0,.map 1,.map 2,.map 3],rO 77 8 Lio ([]:List Lcb),rO 77 8 Lio ([]:List Lcb),.box 203 [.map 2],.dead] rfl rfl rfl (nBe rfl) ?_
 refine Kfm hΓ 4 rfl ?_
 obtain⟨q6,hq6,h7⟩:=Kfw h1
 refine Kgf 11 rfl fun hb9=>?_
 refine Kjr [(3,.sl 6 q6.length)] [mObB n.users,mObH n.passes,mObM n.there,mObT n.story,.box 206 [.d (Sl eS n.d.Users),.d (Sl Lij n.d.Owners),I n.d.Life,B n.d.Approve,.map 0,.map 1,.map 2,.map 3],rO 77 8 Lio ([]:List Lcb),rO 77 8 Lio q6,.box 203 [.map 2],.dead] ?_ ?_
 ·refine go hΓ 1 rfl ?_
  refine Khl (sortK n.there) hq6 (fun i3 s4=>[(0,.ptr 4 0),(3,.sl 6 s4.length),(11,.d (Sl eS (sortK n.there))),(12,I ((sortK n.there).length:Int)),(13,I (i3:Int))]) (fun s4=>[mObB n.users,mObH n.passes,mObM n.there,mObT n.story,.box 206 [.d (Sl eS n.d.Users),.d (Sl Lij n.d.Owners),I n.d.Life,B n.d.Approve,.map 0,.map 1,.map 2,.map 3],rO 77 8 Lio ([]:List Lcb),rO 77 8 Lio s4,.box 203 [.map 2],.dead]) ⟨⟨rfl,rfl,rfl,rfl,rfl,tV⟩,[],rfl,.inl rfl⟩ (fun i3 x5 s4 y13 hx10 hlt hy11=>?_) (?_)
  ·refine go hΓ 6 rfl ?_
   refine Kfq rfl (decide_eq_true (Int.ofNat_lt.2 hlt)) ?_
   refine go hΓ 6 rfl ?_
   refine eo_o rfl (Kgg hΓ (enc:=eS) (Kfz hx10) rfl rfl rfl rfl rfl (fun _=>rfl)) ?_
   refine Kfm hΓ 11 rfl ?_
   refine eo_o rfl (Kkr hΓ (kv:=kS) (agg:=true) (enc:=Lio) n.there x5 ((⟨[],[],[],[],[],0,0,false⟩:Lcb):Lcb) rfl rfl rfl rfl Kkh rfl rfl rfl rfl rfl rfl rfl) ?_
   obtain⟨y14,hy14,h15⟩:=Kfw hy11
   refine Kgx (Lml Tryz.func140 rfl rfl) (Lma hy14) rfl (nBe rfl) rfl rfl rfl rfl rfl ?_
   refine Kgr hΓ (enc:=Lio) [y14] rfl rfl rfl rfl rfl rfl rfl rfl rfl rfl rfl rfl (nBe rfl) ?_
   obtain⟨y16,hy16,h17⟩:=Kfw h15
   refine Khf hΓ (enc:=Lio) hy16 rfl rfl rfl rfl rfl rfl rfl rfl rfl (fun _=>rfl) rfl rfl rfl rfl ?_
   refine Kfm hΓ 8 rfl ?_
   obtain rfl:=oSi h17
   exact⟨⟨rfl,rfl,rfl,rfl,Kew rfl (Kev (nLl hlt hb9)),tV⟩,[],rfl,.inl rfl⟩
  refine go hΓ 6 rfl ?_
  refine Kfr rfl (decide_eq_false (Int.lt_irrefl _)) ?_
  refine go hΓ 4 rfl ?_
  exact⟨⟨rfl,tV⟩,[],rfl,.inl rfl⟩
 refine go hΓ 8 rfl ?_
 refine Klm 5 [mObB n.users,mObH n.passes,mObM n.there,mObT n.story,.box 206 [.d (Sl eS n.d.Users),.d (Sl Lij n.d.Owners),I n.d.Life,B n.d.Approve,.map 0,.map 1,.map 2,.map 3],.dead,rO 77 8 Lio q6,.box 203 [.map 2],.dead] rfl (nBe rfl) ?_
 refine Kjp 6 5 [mObB n.users,mObH n.passes,mObM n.there,mObT n.story,.box 206 [.d (Sl eS n.d.Users),.d (Sl Lij n.d.Owners),I n.d.Life,B n.d.Approve,.map 0,.map 1,.map 2,.map 3],rO 77 8 Lio q6,.dead,.box 203 [.map 2],.dead] rfl rfl rfl rfl rfl rfl ?_
 refine Kjn ?_
 obtain rfl:=oSi h7
 exact Khj hΓ [_,_,_] (.inr rfl) rfl rfl rfl rfl (.inr ⟨HB.mk rfl,rfl⟩)
theorem Lmc{k:Nat}{d:Lbx}{l:List Lby}{moment:Int}{al:BagT}{r:(List Lcb)×Int×BagT}(h:Lfo k d l moment al=some r):EC Tryz.prog 43 [.agg (fD d),.d (Sl Lil l),I moment] [bg al] fun g hp'=>g=.tup [.d (Sl Lio r.1),I r.2.1]∧hp'=[bg r.2.2]:=by
 refine Krb (Fr.of 0 _) Tryz.func43 rfl (Fr.of_ok _) (nBe rfl) fun _=>?_
 refine Kfo ?_
 unfold Lfo at h
 refine go hΓ 2 rfl ?_
 refine Ksq rfl rfl rfl rfl (nBe rfl) ?_
 obtain⟨y1,hy1,h2⟩:=Kfw h
 refine Kfm hΓ 9 rfl ?_
 rcases y1 with⟨_ | z3,z4,z5⟩
 ·refine Kgw [0] (.tup [.d (.v (.pointer none)),I z4]) [bg z5,.box 29 (fD d)] (Lml Tryz.func136 rfl rfl) (Lly hy1) rfl (nBe rfl) rfl rfl rfl rfl rfl rfl rfl rfl rfl rfl ?_
  refine Kfm hΓ 14 rfl ?_
  refine Kfp rfl (fun hb=>?_) (fun hb=>?_)
  ·have h6:=cT h2 hb
   refine go hΓ 9 rfl ?_
   obtain rfl:=oSi h6
   exact Khj hΓ [_] (.inr rfl) rfl rfl rfl rfl (.inr ⟨HB.mk rfl,rfl⟩)
  have h7:=cF h2 hb
  refine go hΓ 5 rfl ?_
  cases h7
 refine Kgw [0] (.tup [.ptr 6 0,I z4]) [bg z5,.box 29 (fD d),mObB z3.users,mObH z3.passes,mObM z3.there,mObT z3.story,.box 206 [.d (Sl eS z3.d.Users),.d (Sl Lij z3.d.Owners),I z3.d.Life,B z3.d.Approve,.map 2,.map 3,.map 4,.map 5]] (Lml Tryz.func136 rfl rfl) (Llz hy1) rfl (nBe rfl) rfl rfl rfl rfl rfl rfl rfl rfl rfl rfl ?_
 refine Kfm hΓ 14 rfl ?_
 refine Kfp rfl (fun hb=>?_) (fun hb=>?_)
 ·have h8:=cT h2 hb
  refine go hΓ 9 rfl ?_
  obtain rfl:=oSi h8
  exact Khj hΓ [_,_,_,_,_,_] (.inr rfl) rfl rfl rfl rfl (.inr ⟨HB.mk rfl,rfl⟩)
 have h9:=cF h2 hb
 obtain⟨y10,hy10,h11⟩:=Kfw h9
 refine go hΓ 5 rfl ?_
 refine Kgw [2,3,4,5,6] (.sl 7 y10.length) [bg z5,.box 29 (fD d),mObB z3.users,mObH z3.passes,mObM z3.there,mObT z3.story,.box 206 [.d (Sl eS z3.d.Users),.d (Sl Lij z3.d.Owners),I z3.d.Life,B z3.d.Approve,.map 2,.map 3,.map 4,.map 5],rO 77 8 Lio y10] (Lml Tryz.func137 rfl rfl) (Lmb hy10) rfl (nBe rfl) rfl rfl rfl rfl rfl rfl rfl rfl rfl rfl ?_
 refine Khc 7 [21] _ [bg z5,.box 29 (fD d),mObB z3.users,mObH z3.passes,mObM z3.there,mObT z3.story,.box 206 [.d (Sl eS z3.d.Users),.d (Sl Lij z3.d.Owners),I z3.d.Life,B z3.d.Approve,.map 2,.map 3,.map 4,.map 5],.dead] rfl rfl rfl (nBe rfl) ?_
 refine Kfm hΓ 5 rfl ?_
 obtain rfl:=oSi h11
 exact Khj hΓ [_,_,_,_,_,_,_] (.inr rfl) rfl rfl rfl rfl (.inr ⟨HB.mk rfl,rfl⟩)
theorem Lmd{k:Nat}{d:Lbx}{l:List Lby}{node:Str}{moment:Int}{al:BagT}{r:Lcb×Bool×Int×BagT}(h:Lfp k d l node moment al=some r):EC Tryz.prog 44 [.agg (fD d),.d (Sl Lil l),S node,I moment] [bg al] fun g hp'=>g=.tup [.agg (fM r.1),B r.2.1,I r.2.2.1]∧hp'=[bg r.2.2.2]:=by
 refine Krb (Fr.of 0 _) Tryz.func44 rfl (Fr.of_ok _) (nBe rfl) fun _=>?_
 refine Kfo ?_
 unfold Lfp at h
 refine go hΓ 2 rfl ?_
 refine Ksq rfl rfl rfl rfl (nBe rfl) ?_
 refine Ksp hΓ rfl rfl rfl (nBe rfl) ?_
 obtain⟨y1,hy1,h2⟩:=Kfw h
 refine Kfm hΓ 9 rfl ?_
 refine Kgx (Lml Tryz.func85 rfl rfl) (Lld hy1) rfl (nBe rfl) rfl rfl rfl rfl rfl ?_
 refine Kfm hΓ 9 rfl ?_
 refine Kfp rfl (fun hb=>?_) (fun hb=>?_)
 ·have h3:=cT h2 hb
  refine go hΓ 2 rfl ?_
  refine Kdu hΓ (gs:=[S [],S [],S [],S [],.d (Sl eS []),I 0,I 0,B false]) rfl rfl rfl rfl rfl rfl rfl ?_
  refine Kfm hΓ 1 rfl ?_
  refine Ksu hΓ rfl rfl rfl rfl rfl rfl rfl rfl (nBe rfl) ?_
  refine Khe [bg al,.box 29 (fD d),.box 77 [S [],S [],S [],S [],.d (Sl eS []),I 0,I 0,B false]] rfl ?_
  refine Kfm hΓ 6 rfl ?_
  obtain rfl:=oSi h3
  exact Khj hΓ [_,_] (.inr rfl) rfl rfl rfl rfl (.inr ⟨HB.mk rfl,rfl⟩)
 have h4:=cF h2 hb
 obtain⟨y5,hy5,h6⟩:=Kfw h4
 refine go hΓ 6 rfl ?_
 refine Kgx (Lml Tryz.func107 rfl rfl) (Lkk hy5) rfl (nBe rfl) rfl rfl rfl rfl rfl ?_
 refine Kfm hΓ 3 rfl ?_
 refine Kfp rfl (fun hb=>?_) (fun hb=>?_)
 ·have h7:=cT h6 hb
  refine go hΓ 2 rfl ?_
  refine Kdu hΓ (gs:=[S [],S [],S [],S [],.d (Sl eS []),I 0,I 0,B false]) rfl rfl rfl rfl rfl rfl rfl ?_
  refine Ksu hΓ rfl rfl rfl rfl rfl rfl rfl rfl (nBe rfl) ?_
  refine Khe [bg al,.box 29 (fD d),.box 77 [S [],S [],S [],S [],.d (Sl eS []),I 0,I 0,B false]] rfl ?_
  refine Kfm hΓ 6 rfl ?_
  obtain rfl:=oSi h7
  exact Khj hΓ [_,_] (.inr rfl) rfl rfl rfl rfl (.inr ⟨HB.mk rfl,rfl⟩)
 have h8:=cF h6 hb
 obtain⟨y9,hy9,h10⟩:=Kfw h8
 refine go hΓ 6 rfl ?_
 refine Kgx (Lml Tryz.func138 rfl rfl) (Lko hy9) rfl (nBe rfl) rfl rfl rfl rfl rfl ?_
 refine Kfm hΓ 3 rfl ?_
 refine Kfp rfl (fun hb=>?_) (fun hb=>?_)
 ·have h11:=cT h10 hb
  refine go hΓ 2 rfl ?_
  refine Kdu hΓ (gs:=[S [],S [],S [],S [],.d (Sl eS []),I 0,I 0,B false]) rfl rfl rfl rfl rfl rfl rfl ?_
  refine Ksu hΓ rfl rfl rfl rfl rfl rfl rfl rfl (nBe rfl) ?_
  refine Khe [bg al,.box 29 (fD d),.box 77 [S [],S [],S [],S [],.d (Sl eS []),I 0,I 0,B false]] rfl ?_
  refine Kfm hΓ 6 rfl ?_
  obtain rfl:=oSi h11
  exact Khj hΓ [_,_] (.inr rfl) rfl rfl rfl rfl (.inr ⟨HB.mk rfl,rfl⟩)
 have h12:=cF h10 hb
 obtain⟨y13,hy13,h14⟩:=Kfw h12
 refine go hΓ 7 rfl ?_
 refine Kgw [0] (.ptr 7 0) [bg y13.2,.box 29 (fD d),.box 77 [S [],S [],S [],S [],.d (Sl eS []),I 0,I 0,B false],mObB y13.1.users,mObH y13.1.passes,mObM y13.1.there,mObT y13.1.story,.box 206 [.d (Sl eS y13.1.d.Users),.d (Sl Lij y13.1.d.Owners),I y13.1.d.Life,B y13.1.d.Approve,.map 3,.map 4,.map 5,.map 6]] (Lml Tryz.func139 rfl rfl) (Llx hy13) rfl (nBe rfl) rfl rfl rfl rfl rfl rfl rfl rfl rfl rfl ?_
 refine Kfm hΓ 4 rfl ?_
 refine eo_o rfl (Kks hΓ (kv:=kS) (agg:=true) (enc:=Lio) y13.1.there node ((⟨[],[],[],[],[],0,0,false⟩:Lcb):Lcb) rfl rfl rfl rfl Kkh rfl rfl rfl rfl rfl rfl rfl) ?_
 refine Kfm hΓ 3 rfl ?_
 refine Ksp hΓ rfl rfl rfl (nBe rfl) ?_
 refine Ksu hΓ rfl rfl rfl rfl rfl rfl rfl rfl (nBe rfl) ?_
 refine Khe [bg y13.2,.box 29 (fD d),.box 77 [S [],S [],S [],S [],.d (Sl eS []),I 0,I 0,B false],mObB y13.1.users,mObH y13.1.passes,mObM y13.1.there,mObT y13.1.story,.box 206 [.d (Sl eS y13.1.d.Users),.d (Sl Lij y13.1.d.Owners),I y13.1.d.Life,B y13.1.d.Approve,.map 3,.map 4,.map 5,.map 6],.box 77 [S (((mGet y13.1.there node).getD (⟨[],[],[],[],[],0,0,false⟩:Lcb)).Node),S (((mGet y13.1.there node).getD (⟨[],[],[],[],[],0,0,false⟩:Lcb)).User),S (((mGet y13.1.there node).getD (⟨[],[],[],[],[],0,0,false⟩:Lcb)).Name),S (((mGet y13.1.there node).getD (⟨[],[],[],[],[],0,0,false⟩:Lcb)).Public),.d (Sl eS (((mGet y13.1.there node).getD (⟨[],[],[],[],[],0,0,false⟩:Lcb)).Tags)),I (((mGet y13.1.there node).getD (⟨[],[],[],[],[],0,0,false⟩:Lcb)).Joined),I (((mGet y13.1.there node).getD (⟨[],[],[],[],[],0,0,false⟩:Lcb)).Expires),B (((mGet y13.1.there node).getD (⟨[],[],[],[],[],0,0,false⟩:Lcb)).Approved)]] rfl ?_
 obtain⟨y15,hy15,h16⟩:=Kfw h14
 refine Kfm hΓ 6 rfl ?_
 refine Kgx (Lml Tryz.func140 rfl rfl) (Lma hy15) rfl (nBe rfl) rfl rfl rfl rfl rfl ?_
 refine Kfm hΓ 1 rfl ?_
 refine Ksu hΓ rfl rfl rfl rfl rfl rfl rfl rfl (nBe rfl) ?_
 refine Khe [bg y13.2,.box 29 (fD d),.box 77 (fM y15),mObB y13.1.users,mObH y13.1.passes,mObM y13.1.there,mObT y13.1.story,.box 206 [.d (Sl eS y13.1.d.Users),.d (Sl Lij y13.1.d.Owners),I y13.1.d.Life,B y13.1.d.Approve,.map 3,.map 4,.map 5,.map 6],.box 77 [S (((mGet y13.1.there node).getD (⟨[],[],[],[],[],0,0,false⟩:Lcb)).Node),S (((mGet y13.1.there node).getD (⟨[],[],[],[],[],0,0,false⟩:Lcb)).User),S (((mGet y13.1.there node).getD (⟨[],[],[],[],[],0,0,false⟩:Lcb)).Name),S (((mGet y13.1.there node).getD (⟨[],[],[],[],[],0,0,false⟩:Lcb)).Public),.d (Sl eS (((mGet y13.1.there node).getD (⟨[],[],[],[],[],0,0,false⟩:Lcb)).Tags)),I (((mGet y13.1.there node).getD (⟨[],[],[],[],[],0,0,false⟩:Lcb)).Joined),I (((mGet y13.1.there node).getD (⟨[],[],[],[],[],0,0,false⟩:Lcb)).Expires),B (((mGet y13.1.there node).getD (⟨[],[],[],[],[],0,0,false⟩:Lcb)).Approved)]] rfl ?_
 refine Kfm hΓ 5 rfl ?_
 obtain rfl:=oSi h16
 exact Khj hΓ [_,_,_,_,_,_,_,_] (.inr rfl) rfl rfl rfl rfl (.inr ⟨HB.mk rfl,rfl⟩)
theorem Lme{k:Nat}{d:Lbx}{l:List Lby}{moment:Int}{al:BagT}{r:(List Lce)×Int×BagT}(h:Lfq k d l moment al=some r):EC Tryz.prog 45 [.agg (fD d),.d (Sl Lil l),I moment] [bg al] fun g hp'=>g=.tup [.d (Sl Liq r.1),I r.2.1]∧hp'=[bg r.2.2]:=by
 refine Krb (Fr.of 0 _) Tryz.func45 rfl (Fr.of_ok _) (nBe rfl) fun _=>?_
 refine Kfo ?_
 unfold Lfq at h
 refine go hΓ 2 rfl ?_
 refine Ksq rfl rfl rfl rfl (nBe rfl) ?_
 obtain⟨y1,hy1,h2⟩:=Kfw h
 refine Kfm hΓ 9 rfl ?_
 rcases y1 with⟨_ | z3,z4,z5⟩
 ·refine Kgw [0] (.tup [.d (.v (.pointer none)),I z4]) [bg z5,.box 29 (fD d)] (Lml Tryz.func136 rfl rfl) (Lly hy1) rfl (nBe rfl) rfl rfl rfl rfl rfl rfl rfl rfl rfl rfl ?_
  refine Kfm hΓ 14 rfl ?_
  refine Kfp rfl (fun hb=>?_) (fun hb=>?_)
  ·have h6:=cT h2 hb
   refine go hΓ 9 rfl ?_
   obtain rfl:=oSi h6
   exact Khj hΓ [_] (.inr rfl) rfl rfl rfl rfl (.inr ⟨HB.mk rfl,rfl⟩)
  have h7:=cF h2 hb
  refine go hΓ 4 rfl ?_
  refine Kgu (t:=0) 90 6 rfl (nBe rfl) ?_
  refine Kfm hΓ 6 rfl ?_
  cases h7
 refine Kgw [0] (.tup [.ptr 6 0,I z4]) [bg z5,.box 29 (fD d),mObB z3.users,mObH z3.passes,mObM z3.there,mObT z3.story,.box 206 [.d (Sl eS z3.d.Users),.d (Sl Lij z3.d.Owners),I z3.d.Life,B z3.d.Approve,.map 2,.map 3,.map 4,.map 5]] (Lml Tryz.func136 rfl rfl) (Llz hy1) rfl (nBe rfl) rfl rfl rfl rfl rfl rfl rfl rfl rfl rfl ?_
 refine Kfm hΓ 14 rfl ?_
 refine Kfp rfl (fun hb=>?_) (fun hb=>?_)
 ·have h8:=cT h2 hb
  refine go hΓ 9 rfl ?_
  obtain rfl:=oSi h8
  exact Khj hΓ [_,_,_,_,_,_] (.inr rfl) rfl rfl rfl rfl (.inr ⟨HB.mk rfl,rfl⟩)
 have h9:=cF h2 hb
 refine go hΓ 4 rfl ?_
 refine Kgu (t:=0) 90 6 rfl (nBe rfl) ?_
 refine Kfm hΓ 9 rfl ?_
 refine Kgw [3] (.fn (.func 233) [] [.ptr 8 0]) [bg z5,.box 29 (fD d),mObB z3.users,mObH z3.passes,mObM z3.there,mObT z3.story,.box 206 [.d (Sl eS z3.d.Users),.d (Sl Lij z3.d.Owners),I z3.d.Life,B z3.d.Approve,.map 2,.map 3,.map 4,.map 5],rO 90 6 Liq ([]:List Lce),.box 202 [.map 3]] (Lml Tryz.func142 rfl rfl) (EC.mapKeys (o:=mObH z3.passes) Lna) rfl (nBe rfl) rfl rfl rfl rfl rfl rfl rfl rfl rfl rfl ?_
 obtain⟨hg11,h10⟩:=Kfx h9
 refine Kgw [3,8] (.sl 9 (sortK z3.passes).length) [bg z5,.box 29 (fD d),mObB z3.users,mObH z3.passes,mObM z3.there,mObT z3.story,.box 206 [.d (Sl eS z3.d.Users),.d (Sl Lij z3.d.Owners),I z3.d.Life,B z3.d.Approve,.map 2,.map 3,.map 4,.map 5],rO 90 6 Liq ([]:List Lce),.box 202 [.map 3],rO 9 1 eS (sortK z3.passes)] (Lml Tryz.func141 rfl rfl) (EC.sortedKeys false (eH (some 0)) str9 (Kpz hg11) (Kqa hg11) Lmy) rfl (nBe rfl) rfl rfl rfl rfl rfl rfl rfl rfl rfl rfl ?_
 refine Khc 9 [30] _ [bg z5,.box 29 (fD d),mObB z3.users,mObH z3.passes,mObM z3.there,mObT z3.story,.box 206 [.d (Sl eS z3.d.Users),.d (Sl Lij z3.d.Owners),I z3.d.Life,B z3.d.Approve,.map 2,.map 3,.map 4,.map 5],rO 90 6 Liq ([]:List Lce),.box 202 [.map 3],.dead] rfl rfl rfl (nBe rfl) ?_
 refine Kfm hΓ 4 rfl ?_
 obtain⟨q15,hq15,h16⟩:=Kfw h10
 refine Kgf 30 rfl fun hb18=>?_
 refine Kjr [(10,.sl 7 q15.length)] [bg z5,.box 29 (fD d),mObB z3.users,mObH z3.passes,mObM z3.there,mObT z3.story,.box 206 [.d (Sl eS z3.d.Users),.d (Sl Lij z3.d.Owners),I z3.d.Life,B z3.d.Approve,.map 2,.map 3,.map 4,.map 5],rO 90 6 Liq q15,.box 202 [.map 3],.dead] ?_ ?_
 ·refine go hΓ 1 rfl ?_
  refine Khl (sortK z3.passes) hq15 (fun i12 s13=>[(2,I moment),(8,.ptr 6 0),(10,.sl 7 s13.length),(30,.d (Sl eS (sortK z3.passes))),(31,I ((sortK z3.passes).length:Int)),(32,I (i12:Int))]) (fun s13=>[bg z5,.box 29 (fD d),mObB z3.users,mObH z3.passes,mObM z3.there,mObT z3.story,.box 206 [.d (Sl eS z3.d.Users),.d (Sl Lij z3.d.Owners),I z3.d.Life,B z3.d.Approve,.map 2,.map 3,.map 4,.map 5],rO 90 6 Liq s13,.box 202 [.map 3],.dead]) ⟨⟨rfl,rfl,rfl,rfl,rfl,rfl,tV⟩,[],rfl,.inl rfl⟩ (fun i12 x14 s13 y22 hx19 hlt hy20=>?_) (?_)
  ·refine go hΓ 6 rfl ?_
   refine Kfq rfl (decide_eq_true (Int.ofNat_lt.2 hlt)) ?_
   refine go hΓ 6 rfl ?_
   refine eo_o rfl (Kgg hΓ (enc:=eS) (Kfz hx19) rfl rfl rfl rfl rfl (fun _=>rfl)) ?_
   refine Kfm hΓ 11 rfl ?_
   refine eo_o rfl (Knf hΓ (kv:=kS) (agg:=false) (enc:=(eH (some 0))) z3.passes x14 (0:Nat) rfl rfl rfl rfl Kkh rfl rfl rfl (Kne rfl) rfl) ?_
   obtain⟨hg24,h23⟩:=Kfx hy20
   refine Kfm hΓ 6 rfl ?_
   refine eo_o rfl (Kos hg24 rfl) ?_
   refine eo_o rfl (Kot hΓ hg24 rfl rfl rfl rfl rfl rfl) ?_
   obtain⟨m25,hm25,h26⟩:=Kfw h23
   refine eo_o rfl (Kou hΓ (enc:=Lir) (bg:=0) m25 rfl rfl (ArU.l _ (Kmy (fun _ _=>rfl) hm25 m25)) rfl (g:=.agg [S m25.Join.Key,S m25.Join.By,.d (Sl eS m25.Join.Tags),I m25.Join.Until,I m25.Join.Left,B m25.Join.Ready]) rfl rfl) ?_
   refine Ksp hΓ rfl rfl rfl (nBe rfl) ?_
   refine Ksu hΓ rfl rfl rfl rfl rfl rfl rfl rfl (nBe rfl) ?_
   refine Khe [bg z5,.box 29 (fD d),mObB z3.users,mObH z3.passes,mObM z3.there,mObT z3.story,.box 206 [.d (Sl eS z3.d.Users),.d (Sl Lij z3.d.Owners),I z3.d.Life,B z3.d.Approve,.map 2,.map 3,.map 4,.map 5],rO 90 6 Liq s13,.box 202 [.map 3],.dead,.box 90 [S m25.Join.Key,S m25.Join.By,.d (Sl eS m25.Join.Tags),I m25.Join.Until,I m25.Join.Left,B m25.Join.Ready]] rfl ?_
   refine Kfm hΓ 3 rfl ?_
   refine Kir [bg z5,.dead,.dead,.dead,.dead,.dead,.dead,.dead,.dead,.dead,.box 90 [S m25.Join.Key,S m25.Join.By,.d (Sl eS m25.Join.Tags),I m25.Join.Until,I m25.Join.Left,B m25.Join.Ready]] [1,5] [8] [8] hmix (by kernel_rfl) (by kernel_rfl) ⟨rfl,rfl,tV⟩ (nBe rfl) ?_
   obtain⟨hg28,h27⟩:=Kfx h26
   refine go_E hΓ 3 rfl ?_
   refine ge_q rfl (.inl rfl) (fun _ _=>Kiu (qt_p (Kos hg28 rfl))) ?_
   refine ge_q rfl (.inl rfl) (fun _ _=>Kiu (qt_p (Kot hΓ hg28 rfl rfl rfl rfl rfl rfl))) ?_
   obtain⟨m29,hm29,h30⟩:=Kfw h27
   refine ge_p rfl (fun hp hs=>Kou hΓ (enc:=Lir) (bg:=0) m29 rfl (hs 0 _ rfl rfl) (ArU.l _ (Kmy (fun _ _=>rfl) hm29 m29)) rfl (g:=I m29.used) rfl rfl) rfl ?_
   refine go_E hΓ 2 rfl ?_
   refine Kiw [bg z5,.box 29 (fD d),mObB z3.users,mObH z3.passes,mObM z3.there,mObT z3.story,.box 206 [.d (Sl eS z3.d.Users),.d (Sl Lij z3.d.Owners),I z3.d.Life,B z3.d.Approve,.map 2,.map 3,.map 4,.map 5],rO 90 6 Liq s13,.box 202 [.map 3],.dead,.box 90 [S m25.Join.Key,S m25.Join.By,.d (Sl eS m25.Join.Tags),I m25.Join.Until,I (wi (m25.Join.Left - m29.used)),B m25.Join.Ready]] rfl rfl (Kix rfl) (Kjc (Kjv hΓ rfl rfl rfl rfl rfl rfl rfl rfl rfl)) ?_
   refine Kit ?_
   obtain⟨hg32,h31⟩:=Kfx h30
   refine go hΓ 5 rfl ?_
   refine eo_o rfl (Kos hg32 rfl) ?_
   refine eo_o rfl (Kot hΓ hg32 rfl rfl rfl rfl rfl rfl) ?_
   obtain⟨m33,hm33,h34⟩:=Kfw h31
   refine eo_o rfl (Kou hΓ (enc:=Lir) (bg:=0) m33 rfl rfl (ArU.l _ (Kmy (fun _ _=>rfl) hm33 m33)) rfl (g:=B m33.revoked) rfl rfl) ?_
   refine Kfm hΓ 1 rfl ?_
   obtain⟨q35,hq35,h36⟩:=Kfw h34
   refine Kfv 8 [(2,I moment),(8,.ptr 6 0),(10,.sl 7 s13.length),(14,.ptr 10 0),(30,.d (Sl eS (sortK z3.passes))),(31,I ((sortK z3.passes).length:Int)),(32,I (i12:Int)),(66,B q35)] [bg z5,.box 29 (fD d),mObB z3.users,mObH z3.passes,mObM z3.there,mObT z3.story,.box 206 [.d (Sl eS z3.d.Users),.d (Sl Lij z3.d.Owners),I z3.d.Life,B z3.d.Approve,.map 2,.map 3,.map 4,.map 5],rO 90 6 Liq s13,.box 202 [.map 3],.dead,.box 90 [S m25.Join.Key,S m25.Join.By,.d (Sl eS m25.Join.Tags),I m25.Join.Until,I (wi (m25.Join.Left - m29.used)),B m25.Join.Ready]] ?_ ?_
   ·refine Krj rfl rfl (fun hb=>?_) (fun hb=>?_)
    ·have h37:=cT hq35 hb
     refine Kfm hΓ 9 rfl ?_
     obtain rfl:=oSi h37
     exact⟨⟨rfl,rfl,rfl,rfl,rfl,rfl,rfl,rfl,tV⟩,[],rfl,.inl rfl⟩
    have h38:=cF hq35 hb
    obtain⟨hg40,h39⟩:=Kfx h38
    refine Kfm hΓ 2 rfl ?_
    refine Krh rfl ?_
    refine eo_o rfl (Kos hg40 rfl) ?_
    refine Krh rfl ?_
    refine eo_o rfl (Kot hΓ hg40 rfl rfl rfl rfl rfl rfl) ?_
    refine Krh rfl ?_
    refine eo_o rfl (Kot hΓ hg40 rfl rfl rfl rfl rfl rfl) ?_
    obtain⟨m41,hm41,h42⟩:=Kfw h39
    refine Krh rfl ?_
    refine eo_o rfl (Kou hΓ (enc:=Lir) (bg:=0) m41 rfl rfl (ArU.l _ (Kmy (fun _ _=>rfl) hm41 m41)) rfl (g:=I m41.Join.Until) rfl rfl) ?_
    refine Kfm hΓ 3 rfl ?_
    obtain rfl:=oSi h42
    exact⟨⟨rfl,rfl,rfl,rfl,rfl,rfl,rfl,rfl,tV⟩,[],rfl,.inl rfl⟩
   obtain⟨q43,hq43,h44⟩:=Kfw h36
   refine Kfm hΓ 2 rfl ?_
   refine Kjr [(2,I moment),(8,.ptr 6 0),(10,.sl 7 s13.length),(14,.ptr 10 0),(30,.d (Sl eS (sortK z3.passes))),(31,I ((sortK z3.passes).length:Int)),(32,I (i12:Int))] [bg z5,.box 29 (fD d),mObB z3.users,mObH z3.passes,mObM z3.there,mObT z3.story,.box 206 [.d (Sl eS z3.d.Users),.d (Sl Lij z3.d.Owners),I z3.d.Life,B z3.d.Approve,.map 2,.map 3,.map 4,.map 5],rO 90 6 Liq s13,.box 202 [.map 3],.dead,.box 90 [S m25.Join.Key,S m25.Join.By,.d (Sl eS m25.Join.Tags),I m25.Join.Until,I q43,B m25.Join.Ready]] ?_ ?_
   ·refine Kfp rfl (fun hb=>?_) (fun hb=>?_)
    ·have h45:=cT hq43 hb
     refine go hΓ 2 rfl ?_
     refine Ksu hΓ rfl rfl rfl rfl rfl rfl rfl rfl (nBe rfl) ?_
     refine Khe [bg z5,.box 29 (fD d),mObB z3.users,mObH z3.passes,mObM z3.there,mObT z3.story,.box 206 [.d (Sl eS z3.d.Users),.d (Sl Lij z3.d.Owners),I z3.d.Life,B z3.d.Approve,.map 2,.map 3,.map 4,.map 5],rO 90 6 Liq s13,.box 202 [.map 3],.dead,.box 90 [S m25.Join.Key,S m25.Join.By,.d (Sl eS m25.Join.Tags),I m25.Join.Until,I 0,B m25.Join.Ready]] rfl ?_
     refine Kfm hΓ 1 rfl ?_
     obtain rfl:=oSi h45
     exact⟨⟨rfl,rfl,rfl,rfl,rfl,rfl,rfl,tV⟩,[],rfl,.inl rfl⟩
    have h46:=cF hq43 hb
    refine go hΓ 1 rfl ?_
    obtain rfl:=oSi h46
    exact⟨⟨rfl,rfl,rfl,rfl,rfl,rfl,rfl,tV⟩,[],rfl,.inl rfl⟩
   refine go hΓ 4 rfl ?_
   refine Kgr hΓ (enc:=Liq) [(⟨m25.Join.Key,m25.Join.By,m25.Join.Tags,m25.Join.Until,q43,m25.Join.Ready⟩:Lce)] rfl rfl rfl rfl rfl rfl rfl rfl rfl rfl rfl rfl (nBe rfl) ?_
   obtain⟨y47,hy47,h48⟩:=Kfw h44
   refine Khf hΓ (enc:=Liq) hy47 rfl rfl rfl rfl rfl rfl rfl rfl rfl (fun _=>rfl) rfl rfl rfl rfl ?_
   refine Kfm hΓ 8 rfl ?_
   obtain rfl:=oSi h48
   exact⟨⟨rfl,rfl,rfl,rfl,rfl,Kew rfl (Kev (nLl hlt hb18)),tV⟩,[_],rfl,.inr ⟨HB.mk rfl,FB.mk rfl,(nBe rfl)⟩⟩
  refine go hΓ 6 rfl ?_
  refine Kfr rfl (decide_eq_false (Int.lt_irrefl _)) ?_
  refine go hΓ 4 rfl ?_
  exact⟨⟨rfl,tV⟩,[],rfl,.inl rfl⟩
 refine go hΓ 5 rfl ?_
 refine Khc 7 [6,10,73] _ [bg z5,.box 29 (fD d),mObB z3.users,mObH z3.passes,mObM z3.there,mObT z3.story,.box 206 [.d (Sl eS z3.d.Users),.d (Sl Lij z3.d.Owners),I z3.d.Life,B z3.d.Approve,.map 2,.map 3,.map 4,.map 5],.dead,.box 202 [.map 3],.dead] rfl rfl rfl (nBe rfl) ?_
 refine Kfm hΓ 4 rfl ?_
 obtain rfl:=oSi h16
 exact Khj hΓ [_,_,_,_,_,_,_,_,_] (.inr rfl) rfl rfl rfl rfl (.inr ⟨HB.mk rfl,rfl⟩)
theorem Lmf{v_at:Int}{r:Int}(h:Lfr v_at=some r):Pure Tryz.prog 46 [I v_at] (I r):=by
 refine Pure.enter (Fr.of 0 _) Tryz.func46 rfl (Fr.of_ok _) rfl rfl ?_
 refine Kfo ?_
 unfold Lfr at h
 obtain⟨y1,hy1,h2⟩:=Kfw h
 refine go hΓ 9 rfl ?_
 refine Kgx (Lml Tryz.func143 rfl rfl) (Ljx hy1) rfl (nBe rfl) rfl rfl rfl rfl rfl ?_
 refine Kfm hΓ 3 rfl ?_
 refine Kfp rfl (fun hb=>?_) (fun hb=>?_)
 ·have h3:=cT h2 hb
  refine go hΓ 7 rfl ?_
  obtain rfl:=oSi h3
  exact Khi hΓ (.inr rfl) rfl rfl
 have h4:=cF h2 hb
 refine go hΓ 8 rfl ?_
 obtain rfl:=oSi h4
 exact Khi hΓ (.inr rfl) rfl rfl
theorem Lmg{s:Str}{r:Int}(h:Lfs s=some r):Pure Tryz.prog 47 [S s] (I r):=by
 refine Pure.enter (Fr.of 0 _) Tryz.func47 rfl (Fr.of_ok _) rfl rfl ?_
 refine Kfo ?_
 unfold Lfs at h
 obtain⟨y1,hy1,h2⟩:=Kfw h
 refine go hΓ 8 rfl ?_
 refine Kgx (Lml Tryz.func144 rfl rfl) (Ljz hy1) rfl (nBe rfl) rfl rfl rfl rfl rfl ?_
 refine Kfm hΓ 4 rfl ?_
 obtain rfl:=oSi h2
 exact Khi hΓ (.inr rfl) rfl rfl
theorem Lmh{d:Lbx}{r:Lcg}(h:Lft d=some r):EC Tryz.prog 197 [.agg (fD d)] [] fun g hp'=>g=.ptr 4 0∧hp'=[mObH r.keys,mObH r.nodes,mObB r.ever,mObV r.History,.box 220 [.d (Sl eS r.d.Users),.d (Sl Lij r.d.Owners),I r.d.Life,B r.d.Approve,.map 0,.map 1,.map 2,.map 3]]:=by
 refine Klr (Fr.of 0 _) Tryz.func197 rfl (Fr.of_ok _) (nBe rfl) fun _=>?_
 refine Kfo ?_
 unfold Lft at h
 refine go hΓ 2 rfl ?_
 refine Ksq rfl rfl rfl rfl (nBe rfl) ?_
 refine Kfm hΓ 6 rfl ?_
 refine eo_s (nBe rfl) (nblt.1 rfl) (Kkn false) ?_
 refine Khe [.box 29 (fD d),mObH ([]:List (Str×Nat))] rfl ?_
 refine eo_s (nBe rfl) (nblt.1 rfl) (Kkn false) ?_
 refine Khe [.box 29 (fD d),mObH ([]:List (Str×Nat)),mObH ([]:List (Str×Nat))] rfl ?_
 refine eo_s (nBe rfl) (nblt.1 rfl) (Kkn false) ?_
 refine Khe [.box 29 (fD d),mObH ([]:List (Str×Nat)),mObH ([]:List (Str×Nat)),mObB ([]:List (Str×Bool))] rfl ?_
 refine eo_s (nBe rfl) (nblt.1 rfl) (Kkn false) ?_
 refine Khe [.box 29 (fD d),mObH ([]:List (Str×Nat)),mObH ([]:List (Str×Nat)),mObB ([]:List (Str×Bool)),mObV ([]:List (Str×Vl))] rfl ?_
 refine Kdu hΓ (gs:=[.d (Sl eS d.Users),.d (Sl Lij d.Owners),I d.Life,B d.Approve,.map 1,.map 2,.map 3,.map 4]) rfl rfl rfl rfl rfl rfl rfl ?_
 refine Ksq rfl rfl rfl rfl (nBe rfl) ?_
 refine Kfm hΓ 4 rfl ?_
 refine Klm 0 [.dead,mObH ([]:List (Str×Nat)),mObH ([]:List (Str×Nat)),mObB ([]:List (Str×Bool)),mObV ([]:List (Str×Vl)),.box 220 [.d (Sl eS d.Users),.d (Sl Lij d.Owners),I d.Life,B d.Approve,.map 1,.map 2,.map 3,.map 4]] rfl (nBe rfl) ?_
 refine Kjp 1 0 [mObH ([]:List (Str×Nat)),.dead,mObH ([]:List (Str×Nat)),mObB ([]:List (Str×Bool)),mObV ([]:List (Str×Vl)),.box 220 [.d (Sl eS d.Users),.d (Sl Lij d.Owners),I d.Life,B d.Approve,.map 0,.map 2,.map 3,.map 4]] rfl rfl rfl rfl rfl rfl ?_
 refine Kjp 2 1 [mObH ([]:List (Str×Nat)),mObH ([]:List (Str×Nat)),.dead,mObB ([]:List (Str×Bool)),mObV ([]:List (Str×Vl)),.box 220 [.d (Sl eS d.Users),.d (Sl Lij d.Owners),I d.Life,B d.Approve,.map 0,.map 1,.map 3,.map 4]] rfl rfl rfl rfl rfl rfl ?_
 refine Kjp 3 2 [mObH ([]:List (Str×Nat)),mObH ([]:List (Str×Nat)),mObB ([]:List (Str×Bool)),.dead,mObV ([]:List (Str×Vl)),.box 220 [.d (Sl eS d.Users),.d (Sl Lij d.Owners),I d.Life,B d.Approve,.map 0,.map 1,.map 2,.map 4]] rfl rfl rfl rfl rfl rfl ?_
 refine Kjp 4 3 [mObH ([]:List (Str×Nat)),mObH ([]:List (Str×Nat)),mObB ([]:List (Str×Bool)),mObV ([]:List (Str×Vl)),.dead,.box 220 [.d (Sl eS d.Users),.d (Sl Lij d.Owners),I d.Life,B d.Approve,.map 0,.map 1,.map 2,.map 3]] rfl rfl rfl rfl rfl rfl ?_
 refine Kjp 5 4 [mObH ([]:List (Str×Nat)),mObH ([]:List (Str×Nat)),mObB ([]:List (Str×Bool)),mObV ([]:List (Str×Vl)),.box 220 [.d (Sl eS d.Users),.d (Sl Lij d.Owners),I d.Life,B d.Approve,.map 0,.map 1,.map 2,.map 3],.dead] rfl rfl rfl rfl rfl rfl ?_
 refine Kjn ?_
 obtain rfl:=oSi h
 exact Khj hΓ [_] (.inr rfl) rfl rfl rfl rfl (.inr ⟨HB.mk rfl,rfl⟩)
theorem Lmi{d:Lbx}{tag:Str}{r:(List Str)×Bool}(h:Lfu d tag=some r):Pure Tryz.prog 109 [.agg (fD d),S tag] (.tup [.d (Sl eS r.1),B r.2]):=by
 refine Pure.enter (Fr.of 0 _) Tryz.func109 rfl (Fr.of_ok _) rfl rfl ?_
 refine Kfo ?_
 unfold Lfu at h
 refine go hΓ 2 rfl ?_
 refine Ksq rfl rfl rfl rfl (nBe rfl) ?_
 refine Kfm hΓ 13 rfl ?_
 obtain⟨q4,hq4,h5⟩:=Kfw h
 refine Kgf 9 rfl fun hb7=>?_
 refine Kjq (R:=fun a6=>q4=.go a6) (fun a6=>[]) (fun a6=>[.box 29 (fD d)]) ?_ ?_
 ·refine go hΓ 1 rfl ?_
  refine Kge d.Owners hq4 (fun i1 s2=>[(1,S tag),(9,.d (Sl Lij d.Owners)),(10,I (d.Owners.length:Int)),(11,I (i1:Int))]) (fun s2=>[.box 29 (fD d)]) ⟨⟨rfl,rfl,rfl,rfl,tV⟩,[],rfl,.inl rfl⟩ (fun i1 x3 s2 y11 hx8 hlt hy9 hout10=>?_) (fun s2 hgo=>?_)
  ·refine go hΓ 6 rfl ?_
   refine Kfq rfl (decide_eq_true (Int.ofNat_lt.2 hlt)) ?_
   refine go hΓ 6 rfl ?_
   refine eo_o rfl (Kgg hΓ (enc:=Lij) (Kfz hx8) rfl rfl rfl rfl rfl (fun _=>rfl)) ?_
   refine Kfm hΓ 1 rfl ?_
   refine Ksp hΓ rfl rfl rfl (nBe rfl) ?_
   refine Ksu hΓ rfl rfl rfl rfl rfl rfl rfl rfl (nBe rfl) ?_
   refine Khe [.box 29 (fD d),.box 155 [S x3.Tag,.d (Sl eS x3.Users)]] rfl ?_
   refine Kfm hΓ 10 rfl ?_
   refine Kfp rfl (fun hb=>?_) (fun hb=>?_)
   ·have h12:=cT hy9 hb
    refine go hΓ 11 rfl ?_
    obtain⟨v13,hv13,h14⟩:=Kfw h12
    obtain rfl:=oSi h14
    obtain rfl:=hout10 _ rfl
    obtain rfl:=oSi h5
    refine go hΓ 4 rfl ?_
    obtain rfl:=oSi hv13
    exact Khi hΓ (.inr rfl) rfl rfl
   have h15:=cF hy9 hb
   refine go hΓ 7 rfl ?_
   obtain rfl:=oSi h15
   exact⟨_,rfl,⟨⟨rfl,rfl,rfl,Kew rfl (Kev (nLl hlt hb7)),tV⟩,[_],rfl,.inr ⟨HB.mk rfl,FB.mk rfl,(nBe rfl)⟩⟩⟩
  subst hgo
  refine go hΓ 6 rfl ?_
  refine Kfr rfl (decide_eq_false (Int.lt_irrefl _)) ?_
  refine go hΓ 4 rfl ?_
  exact⟨_,rfl,⟨tV,[],rfl,.inl rfl⟩⟩
 intro a6 ha
 subst ha
 replace h5:=Kjl h5
 refine go hΓ 8 rfl ?_
 obtain rfl:=oSi h5
 exact Khi hΓ (.inr rfl) rfl rfl
theorem Lmj{d:Lbx}{user:Str}{tags:List Str}{r:Int}(h:Lfv d user tags=some r):Pure Tryz.prog 278 [.agg (fD d),S user,.d (Sl eS tags)] (I r):=by
 refine Pure.enter (Fr.of 0 _) Tryz.func278 rfl (Fr.of_ok _) rfl rfl ?_
 refine Kfo ?_
 unfold Lfv at h
 refine go hΓ 2 rfl ?_
 refine Ksq rfl rfl rfl rfl (nBe rfl) ?_
 refine Kfm hΓ 11 rfl ?_
 obtain⟨q4,hq4,h5⟩:=Kfw h
 refine Kgf 11 rfl fun hb7=>?_
 refine Kjq (R:=fun a6=>q4=.go a6) (fun a6=>[]) (fun a6=>[.box 29 (fD d)]) ?_ ?_
 ·refine go hΓ 1 rfl ?_
  refine Kge tags hq4 (fun i1 s2=>[(1,S user),(3,.ptr 0 0),(11,.d (Sl eS tags)),(12,I (tags.length:Int)),(13,I (i1:Int))]) (fun s2=>[.box 29 (fD d)]) ⟨⟨rfl,rfl,rfl,rfl,rfl,tV⟩,[],rfl,.inl rfl⟩ (fun i1 x3 s2 y11 hx8 hlt hy9 hout10=>?_) (fun s2 hgo=>?_)
  ·refine go hΓ 6 rfl ?_
   refine Kfq rfl (decide_eq_true (Int.ofNat_lt.2 hlt)) ?_
   refine go hΓ 6 rfl ?_
   refine eo_o rfl (Kgg hΓ (enc:=eS) (Kfz hx8) rfl rfl rfl rfl rfl (fun _=>rfl)) ?_
   obtain⟨y12,hy12,h13⟩:=Kfw hy9
   refine Kfm hΓ 8 rfl ?_
   refine Kgx (Lml Tryz.func109 rfl rfl) (Lmi hy12) rfl (nBe rfl) rfl rfl rfl rfl rfl ?_
   refine Kfm hΓ 14 rfl ?_
   refine Kfp rfl (fun hb=>?_) (fun hb=>?_)
   ·have h14:=cT h13 hb
    refine go hΓ 9 rfl ?_
    obtain⟨v15,hv15,h16⟩:=Kfw h14
    obtain rfl:=oSi h16
    obtain rfl:=hout10 _ rfl
    obtain rfl:=oSi h5
    refine go hΓ 4 rfl ?_
    obtain rfl:=oSi hv15
    exact Khi hΓ (.inr rfl) rfl rfl
   have h17:=cF h13 hb
   obtain⟨y18,hy18,h19⟩:=Kfw h17
   refine go hΓ 6 rfl ?_
   refine Kgx (Lml Tryz.func61 rfl rfl) (Lju hy18) rfl (nBe rfl) rfl rfl rfl rfl rfl ?_
   refine Kfm hΓ 3 rfl ?_
   refine Kfp rfl (fun hb=>?_) (fun hb=>?_)
   ·have h20:=cT h19 hb
    refine go hΓ 8 rfl ?_
    obtain⟨v21,hv21,h22⟩:=Kfw h20
    obtain rfl:=oSi h22
    obtain rfl:=hout10 _ rfl
    obtain rfl:=oSi h5
    refine go hΓ 4 rfl ?_
    obtain rfl:=oSi hv21
    exact Khi hΓ (.inr rfl) rfl rfl
   have h23:=cF h19 hb
   refine go hΓ 7 rfl ?_
   obtain rfl:=oSi h23
   exact⟨_,rfl,⟨⟨rfl,rfl,rfl,rfl,Kew rfl (Kev (nLl hlt hb7)),tV⟩,[],rfl,.inl rfl⟩⟩
  subst hgo
  refine go hΓ 6 rfl ?_
  refine Kfr rfl (decide_eq_false (Int.lt_irrefl _)) ?_
  refine go hΓ 4 rfl ?_
  exact⟨_,rfl,⟨tV,[],rfl,.inl rfl⟩⟩
 intro a6 ha
 subst ha
 replace h5:=Kjl h5
 refine go hΓ 7 rfl ?_
 obtain rfl:=oSi h5
 exact Khi hΓ (.inr rfl) rfl rfl
end Go.Proofs.YtjmlnnanfkiakaaGreatDoor
