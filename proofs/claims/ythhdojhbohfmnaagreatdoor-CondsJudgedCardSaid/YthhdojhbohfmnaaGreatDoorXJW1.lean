import Derived.Test.YthhdojhbohfmnaaGreatDoorXJM
import Derived.Test.YthhdojhbohfmnaaGreatDoorGt
import Derived.Test.YthhdojhbohfmnaaGreatDoorStr
import Derived.Test.YthhdojhbohfmnaaGreatDoorStr9
import Derived.Test.YthhdojhbohfmnaaGreatDoorStrC
import Derived.Test.YthhdojhbohfmnaaGreatDoorStrI
import Derived.Test.YthhdojhbohfmnaaGreatDoorGk64
import Derived.Test.YthhdojhbohfmnaaGreatDoorGk67
import Derived.Test.YthhdojhbohfmnaaGreatDoorBk5
set_option maxHeartbeats 8000000
set_option linter.all false
set_option maxRecDepth 100000
namespace Go.Proofs.YthhdojhbohfmnaaGreatDoor
open Go.Gk
theorem Lii{x:Int}{n:Int}{r:Int}(h:Ldf x n=some r):Pure Tryz.prog 118 [I x,I n] (I r):=by
 unfold Ldf at h
 refine QP Tryz.func118 E E E<|gA 12 E<|jC E h (fun h1=>?_) fun h2=>bK h2 fun y3 hy3 h4=>gA 6 E<|eo_o E (Kjk hy3 E E)<|bK h4 fun q5 hq5 h6=>gO 10 E<|Kls [(0,I q5)] [] ?_ ?_
 ·exact gA 7 E<|oSi h1▸gP E E
 ·refine jC E hq5 (fun h7=>?_) fun h8=>gA 1 E<|oSi h8▸⟨⟨E,tV⟩,[],E,.inl E⟩
  exact gA 6 E<|oSi h7▸⟨⟨E,tV⟩,[],E,.inl E⟩
 exact gA 8 E<|oSi h6▸gP E E
theorem Lij{s:Lcu}{n:Int}{r:Int×Lcu}(h:Ldg s n=some r):EC Tryz.prog 46 [.ptr 0 0,I n] [.box 25 (fQ s)] fun g hp'=>g=I r.1∧hp'=[.box 25 (fQ r.2)]:=by
 unfold Ldg at h
 refine QN Tryz.func46 E Z<|gA 14 E<|Ksh hΓ E E E E E E E E Z<|Kjh [.box 25 [.d (Sl (eN .i64) s.L),I (wi (s.v_at+1))]] E<|gO 13 E<|jC E h (fun h1=>?_) fun h4=>gA 3 E<|jD<|bK h4 fun y5 hy5 h6=>gA 10 E<|gl_o E (Kjk hy5 E E)<|Khq hΓ 4 E<|jD<|bK h6 fun y7 hy7 h8=>gA 10 E<|gl_o E (Kjj hy7 E E)<|bK h8 fun x9 hx9 h10=>Khq hΓ 10 E<|eo_o E (Kij hΓ (enc:=(eN .i64)) hx9 E E E E E (fun _=>E))<|bK h10 fun y11 hy11 h12=>gO 1 E<|Kiz C (Lii hy11) E Z E E E E E<|bK h12 fun y13 hy13 h14=>gO 6 E<|Kiz C (Lii hy13) E Z E E E E E<|gO 4 E<|oSi h14▸Kjm hΓ [] (.inr E) E E E E (.inl E)
 exact bK h1 fun y2 hy2 h3=>gA 8 E<|Kiz C (Lii hy2) E Z E E E E E<|gO 5 E<|oSi h3▸Kjm hΓ [] (.inr E) E E E E (.inl E)
theorem Lik{s:Lcu}{l:List Int}{r:Int×Lcu}(h:Ldh s l=some r):EC Tryz.prog 79 [.ptr 0 0,.d (Sl (eN .i64) l)] [.box 25 (fQ s)] fun g hp'=>g=I r.1∧hp'=[.box 25 (fQ r.2)]:=by
 unfold Ldh at h
 exact QN Tryz.func79 E Z<|bK h fun y1 hy1 h2=>gA 11 E<|Kiy [0] (I y1.1) [.box 25 (fQ y1.2)] C (Lij hy1) E Z E E E E E E E E E E<|bK h2 fun x3 hx3 h4=>eo_o E (Kij hΓ (enc:=(eN .i64)) hx3 E E E E E (fun _=>E))<|gO 5 E<|oSi h4▸Kjm hΓ [] (.inr E) E E E E (.inl E)
theorem Lil{s:Lcu}{n:Int}{r:Bool×Lcu}(h:Ldi s n=some r):EC Tryz.prog 44 [.ptr 0 0,I n] [.box 25 (fQ s)] fun g hp'=>g=B r.1∧hp'=[.box 25 (fQ r.2)]:=by
 unfold Ldi at h
 exact QN Tryz.func44 E Z<|bK h fun y1 hy1 h2=>gA 9 E<|Kiy [0] (I y1.1) [.box 25 (fQ y1.2)] C (Lij hy1) E Z E E E E E E E E E E<|gO 5 E<|oSi h2▸Kjm hΓ [] (.inr E) E E E E (.inl E)
theorem Lim{s:Lcu}{l:List Str}{r:Str×Lcu}(h:Ldj s l=some r):EC Tryz.prog 17 [.ptr 0 0,.d (Sl eS l)] [.box 25 (fQ s)] fun g hp'=>g=S r.1∧hp'=[.box 25 (fQ r.2)]:=by
 unfold Ldj at h
 exact QN Tryz.func17 E Z<|bK h fun y1 hy1 h2=>gA 11 E<|Kiy [0] (I y1.1) [.box 25 (fQ y1.2)] C (Lij hy1) E Z E E E E E E E E E E<|bK h2 fun x3 hx3 h4=>eo_o E (Kij hΓ (enc:=eS) hx3 E E E E E (fun _=>E))<|gO 5 E<|oSi h4▸Kjm hΓ [] (.inr E) E E E E (.inl E)
theorem Lin{r:List Str}(h:Ldk=some r):Pure Tryz.prog 160 [] (.d (Sl eS r)):=by
 unfold Ldk at h
 exact QP Tryz.func160 E E E<|gA 7 E<|Kit hΓ (enc:=eS) [[61,61],[33,61],[60],[60,61],[62],[62,61]] E E E E E E E E E E E E Z<|gO 4 E<|oSi h▸gP E E
theorem Lio{k:Nat}{s:Lcu}{most:Int}{r:Lcw×Lcu}(h:Ldl k s most=some r):EC Tryz.prog 78 [.ptr 0 0,I most] [.box 25 (fQ s)] fun g hp'=>g=.agg [I r.1.Kind,S r.1.Name,S r.1.Op,I r.1.Value.Kind,I r.1.Value.Number,S r.1.Value.Words,I r.1.Value.Version.1,I r.1.Value.Version.2.1,I r.1.Value.Version.2.2.1,I r.1.Value.Version.2.2.2,.d (.ro r.1.Kids.n r.1.Kids.xs)]∧hp'=[.box 25 (fQ r.2)]:=by
 induction k generalizing s most r with
 | zero=>unfold Ldl at h;cases h
 | succ k ih0=>
  have ih:∀ {s:Lcu} {most:Int} {r:Lcw×Lcu},Ldl k s most=some r→EC Tryz.prog 78 [.ptr 0 0,I most] [.box 25 (fQ s)] fun g hp'=>g=.agg [I r.1.Kind,S r.1.Name,S r.1.Op,I r.1.Value.Kind,I r.1.Value.Number,S r.1.Value.Words,I r.1.Value.Version.1,I r.1.Value.Version.2.1,I r.1.Value.Version.2.2.1,I r.1.Value.Version.2.2.2,.d (.ro r.1.Kids.n r.1.Kids.xs)]∧hp'=[.box 25 (fQ r.2)]:=by intro s most r h;first | exact ih0 h | exact ih0 _ _ _ h
  refine Kqo (Fr.of 0 _) Tryz.func78 E (Fr.of_ok _) Z fun _=>?_
  refine Khr ?_
  unfold Ldl at h
  refine gA 2 E ?_
  refine Ksc hΓ E E E Z ?_
  refine gO 8 E ?_
  obtain⟨q1,hq1,h2⟩:=Khz h
  refine Khy 3 [(0,.ptr 0 0),(1,I most),(4,.ptr 1 0),(13,B q1.2)] [.box 25 (fQ q1.1),.box 32 [I 0,S [],S [],I 0,I 0,S [],I 0,I 0,I 0,I 0,.d (.ro (KD.mk 0 []).n (KD.mk 0 []).xs)]] ?_ ?_
  ·refine Kqw E E (fun hb=>?_) (fun hb=>?_)
   ·have h3:=cT hq1 hb
    refine gO 4 E ?_
    obtain rfl:=oSi h3
    exact⟨⟨E,E,E,E,tV⟩,[],E,.inl E⟩
   have h4:=cF hq1 hb
   obtain⟨y5,hy5,h6⟩:=Khz h4
   refine gO 1 E ?_
   refine Kqu E ?_
   refine Kiy [0] (B y5.1) [.box 25 (fQ y5.2),.box 32 [I 0,S [],S [],I 0,I 0,S [],I 0,I 0,I 0,I 0,.d (.ro (KD.mk 0 []).n (KD.mk 0 []).xs)]] C (Lil hy5) E Z E E E E E E E E E E ?_
   refine gO 2 E ?_
   obtain rfl:=oSi h6
   exact⟨⟨E,E,E,E,tV⟩,[],E,.inl E⟩
  refine gO 2 E ?_
  refine Khs E (fun hb=>?_) (fun hb=>?_)
  ·have h7:=cT h2 hb
   obtain⟨y8,hy8,h9⟩:=Khz h7
   refine gA 4 E ?_
   refine Kiy [0] (I y8.1) [.box 25 (fQ y8.2),.box 32 [I 0,S [],S [],I 0,I 0,S [],I 0,I 0,I 0,I 0,.d (.ro (KD.mk 0 []).n (KD.mk 0 []).xs)]] C (Lij hy8) E Z E E E E E E E E E E ?_
   refine gO 9 E ?_
   refine Khs E (fun hb=>?_) (fun hb=>?_)
   ·have h10:=cT h9 hb
    refine gA 3 E ?_
    refine Kit hΓ (enc:=eS) [[61,61],[61,61],[33,61]] E E E E E E E E E E E E Z ?_
    obtain⟨y11,hy11,h12⟩:=Khz h10
    refine Kiy [0] (S y11.1) [.box 25 (fQ y11.2),.box 32 [I 0,S [],S [],I 0,I 0,S [],I 0,I 0,I 0,I 0,.d (.ro (KD.mk 0 []).n (KD.mk 0 []).xs)]] C (Lim hy11) E Z E E E E E E E E E E ?_
    obtain⟨y13,hy13,h14⟩:=Khz h12
    refine gO 1 E ?_
    refine Kiy [0] (I y13.1) [.box 25 (fQ y13.2),.box 32 [I 0,S [],S [],I 0,I 0,S [],I 0,I 0,I 0,I 0,.d (.ro (KD.mk 0 []).n (KD.mk 0 []).xs)]] C (Lij hy13) E Z E E E E E E E E E E ?_
    refine Kfq hΓ (gs:=[I 3,I y13.1,S [],I 0,I 0,I 0,I 0]) E E E E E E E ?_
    refine eo_s Z (nblt.1 E) (Kmi 32 11 10 (OpP.s (Kmg hΓ [10] (gs:=[I 1,S [100,105,115,107],S y11.1,I 3,I y13.1,S [],I 0,I 0,I 0,I 0,.d (.v (.slice none 0 0))]) E E E E E E)) E) ?_
    refine Kjf 2 [24] _ [.box 25 (fQ y13.2),.box 32 [I 0,S [],S [],I 0,I 0,S [],I 0,I 0,I 0,I 0,.d (.ro (KD.mk 0 []).n (KD.mk 0 []).xs)],.dead] E E E Z ?_
    refine Ksh hΓ E E E E E E E E Z ?_
    refine Kjh [.box 25 (fQ y13.2),.box 32 [I 1,S [100,105,115,107],S y11.1,I 3,I y13.1,S [],I 0,I 0,I 0,I 0,.d (.ro (pk Lcx ([]:List Lcw)).n (pk Lcx ([]:List Lcw)).xs)],.dead] E ?_
    refine gO 6 E ?_
    obtain rfl:=oSi h14
    exact Kjm hΓ [_,_] (.inr E) E E E E (.inr ⟨HB.mk E,E⟩)
   have h15:=cF h9 hb
   refine gA 6 E ?_
   refine Khs E (fun hb=>?_) (fun hb=>?_)
   ·have h16:=cT h15 hb
    obtain⟨y17,hy17,h18⟩:=Khz h16
    refine gA 3 E ?_
    refine Kiz C (Lin hy17) E Z E E E E E ?_
    obtain⟨y19,hy19,h20⟩:=Khz h18
    refine Kiy [0] (S y19.1) [.box 25 (fQ y19.2),.box 32 [I 0,S [],S [],I 0,I 0,S [],I 0,I 0,I 0,I 0,.d (.ro (KD.mk 0 []).n (KD.mk 0 []).xs)]] C (Lim hy19) E Z E E E E E E E E E E ?_
    refine gO 1 E ?_
    refine Kit hΓ (enc:=(eN .i64)) [2,5,12] E E E E E E E E E E E E Z ?_
    obtain⟨y21,hy21,h22⟩:=Khz h20
    refine Kiy [0] (I y21.1) [.box 25 (fQ y21.2),.box 32 [I 0,S [],S [],I 0,I 0,S [],I 0,I 0,I 0,I 0,.d (.ro (KD.mk 0 []).n (KD.mk 0 []).xs)]] C (Lik hy21) E Z E E E E E E E E E E ?_
    refine eo_o E (Kmn hΓ (gs:=[I 1,I y21.1,I 0,I 0]) E E E E E E) ?_
    refine Kfq hΓ (gs:=[I 4,I 0,S [],I 1,I y21.1,I 0,I 0]) E E E E E E E ?_
    refine eo_s Z (nblt.1 E) (Kmi 32 11 10 (OpP.s (Kmg hΓ [10] (gs:=[I 1,S [118,101,114,115,105,111,110],S y19.1,I 4,I 0,S [],I 1,I y21.1,I 0,I 0,.d (.v (.slice none 0 0))]) E E E E E E)) E) ?_
    refine Kjf 2 [35] _ [.box 25 (fQ y21.2),.box 32 [I 0,S [],S [],I 0,I 0,S [],I 0,I 0,I 0,I 0,.d (.ro (KD.mk 0 []).n (KD.mk 0 []).xs)],.dead] E E E Z ?_
    refine Ksh hΓ E E E E E E E E Z ?_
    refine Kjh [.box 25 (fQ y21.2),.box 32 [I 1,S [118,101,114,115,105,111,110],S y19.1,I 4,I 0,S [],I 1,I y21.1,I 0,I 0,.d (.ro (pk Lcx ([]:List Lcw)).n (pk Lcx ([]:List Lcw)).xs)],.dead] E ?_
    refine gO 6 E ?_
    obtain rfl:=oSi h22
    exact Kjm hΓ [_,_] (.inr E) E E E E (.inr ⟨HB.mk E,E⟩)
   have h23:=cF h15 hb
   refine gA 6 E ?_
   refine Khs E (fun hb=>?_) (fun hb=>?_)
   ·have h24:=cT h23 hb
    refine gA 3 E ?_
    refine Kit hΓ (enc:=eS) [[115,105,122,101],[111,115]] E E E E E E E E E E E E Z ?_
    obtain⟨y25,hy25,h26⟩:=Khz h24
    refine Kiy [0] (S y25.1) [.box 25 (fQ y25.2),.box 32 [I 0,S [],S [],I 0,I 0,S [],I 0,I 0,I 0,I 0,.d (.ro (KD.mk 0 []).n (KD.mk 0 []).xs)]] C (Lim hy25) E Z E E E E E E E E E E ?_
    obtain⟨y27,hy27,h28⟩:=Khz h26
    refine gO 1 E ?_
    refine Kiz C (Lin hy27) E Z E E E E E ?_
    obtain⟨y29,hy29,h30⟩:=Khz h28
    refine Kiy [0] (S y29.1) [.box 25 (fQ y29.2),.box 32 [I 0,S [],S [],I 0,I 0,S [],I 0,I 0,I 0,I 0,.d (.ro (KD.mk 0 []).n (KD.mk 0 []).xs)]] C (Lim hy29) E Z E E E E E E E E E E ?_
    refine gO 1 E ?_
    refine Kit hΓ (enc:=(eN .i64)) [0,5,-3] E E E E E E E E E E E E Z ?_
    obtain⟨y31,hy31,h32⟩:=Khz h30
    refine Kiy [0] (I y31.1) [.box 25 (fQ y31.2),.box 32 [I 0,S [],S [],I 0,I 0,S [],I 0,I 0,I 0,I 0,.d (.ro (KD.mk 0 []).n (KD.mk 0 []).xs)]] C (Lik hy31) E Z E E E E E E E E E E ?_
    refine Kfq hΓ (gs:=[I 1,I y31.1,S [],I 0,I 0,I 0,I 0]) E E E E E E E ?_
    refine eo_s Z (nblt.1 E) (Kmi 32 11 10 (OpP.s (Kmg hΓ [10] (gs:=[I 1,S y25.1,S y29.1,I 1,I y31.1,S [],I 0,I 0,I 0,I 0,.d (.v (.slice none 0 0))]) E E E E E E)) E) ?_
    refine Kjf 2 [48] _ [.box 25 (fQ y31.2),.box 32 [I 0,S [],S [],I 0,I 0,S [],I 0,I 0,I 0,I 0,.d (.ro (KD.mk 0 []).n (KD.mk 0 []).xs)],.dead] E E E Z ?_
    refine Ksh hΓ E E E E E E E E Z ?_
    refine Kjh [.box 25 (fQ y31.2),.box 32 [I 1,S y25.1,S y29.1,I 1,I y31.1,S [],I 0,I 0,I 0,I 0,.d (.ro (pk Lcx ([]:List Lcw)).n (pk Lcx ([]:List Lcw)).xs)],.dead] E ?_
    refine gO 6 E ?_
    obtain rfl:=oSi h32
    exact Kjm hΓ [_,_] (.inr E) E E E E (.inr ⟨HB.mk E,E⟩)
   have h33:=cF h23 hb
   obtain⟨y34,hy34,h35⟩:=Khz h33
   refine gA 6 E ?_
   refine Kiz C (Lin hy34) E Z E E E E E ?_
   obtain⟨y36,hy36,h37⟩:=Khz h35
   refine Kiy [0] (S y36.1) [.box 25 (fQ y36.2),.box 32 [I 0,S [],S [],I 0,I 0,S [],I 0,I 0,I 0,I 0,.d (.ro (KD.mk 0 []).n (KD.mk 0 []).xs)]] C (Lim hy36) E Z E E E E E E E E E E ?_
   refine gO 1 E ?_
   refine Kit hΓ (enc:=eS) [[108,105,110,117,120],[109,97,99],[120,34,121,92,122]] E E E E E E E E E E E E Z ?_
   obtain⟨y38,hy38,h39⟩:=Khz h37
   refine Kiy [0] (S y38.1) [.box 25 (fQ y38.2),.box 32 [I 0,S [],S [],I 0,I 0,S [],I 0,I 0,I 0,I 0,.d (.ro (KD.mk 0 []).n (KD.mk 0 []).xs)]] C (Lim hy38) E Z E E E E E E E E E E ?_
   refine Kfq hΓ (gs:=[I 2,I 0,S y38.1,I 0,I 0,I 0,I 0]) E E E E E E E ?_
   refine eo_s Z (nblt.1 E) (Kmi 32 11 10 (OpP.s (Kmg hΓ [10] (gs:=[I 1,S [111,115],S y36.1,I 2,I 0,S y38.1,I 0,I 0,I 0,I 0,.d (.v (.slice none 0 0))]) E E E E E E)) E) ?_
   refine Kjf 2 [56] _ [.box 25 (fQ y38.2),.box 32 [I 0,S [],S [],I 0,I 0,S [],I 0,I 0,I 0,I 0,.d (.ro (KD.mk 0 []).n (KD.mk 0 []).xs)],.dead] E E E Z ?_
   refine Ksh hΓ E E E E E E E E Z ?_
   refine Kjh [.box 25 (fQ y38.2),.box 32 [I 1,S [111,115],S y36.1,I 2,I 0,S y38.1,I 0,I 0,I 0,I 0,.d (.ro (pk Lcx ([]:List Lcw)).n (pk Lcx ([]:List Lcw)).xs)],.dead] E ?_
   refine gO 4 E ?_
   obtain rfl:=oSi h39
   exact Kjm hΓ [_,_] (.inr E) E E E E (.inr ⟨HB.mk E,E⟩)
  have h40:=cF h2 hb
  refine gA 5 E ?_
  refine Kit hΓ (enc:=(eN .i64)) [2,3,4] E E E E E E E E E E E E Z ?_
  obtain⟨y41,hy41,h42⟩:=Khz h40
  refine Kiy [0] (I y41.1) [.box 25 (fQ y41.2),.box 32 [I 0,S [],S [],I 0,I 0,S [],I 0,I 0,I 0,I 0,.d (.ro (KD.mk 0 []).n (KD.mk 0 []).xs)]] C (Lik hy41) E Z E E E E E E E E E E ?_
  refine eo_s Z (nblt.1 E) (Kmi 32 11 10 (OpP.s (Kmg hΓ [10] (gs:=[I y41.1,S [],S [],I 0,I 0,S [],I 0,I 0,I 0,I 0,.d (.v (.slice none 0 0))]) E E E E E E)) E) ?_
  refine Ksc hΓ E E E Z ?_
  refine Ksh hΓ E E E E E E E E Z ?_
  refine Kjh [.box 25 (fQ y41.2),.box 32 [I 0,S [],S [],I 0,I 0,S [],I 0,I 0,I 0,I 0,.d (.ro (KD.mk 0 []).n (KD.mk 0 []).xs)],rO 32 11 Lcx ([]:List Lcw),.box 32 [I y41.1,S [],S [],I 0,I 0,S [],I 0,I 0,I 0,I 0,.sl 2 ([]:List Lcw).length]] E ?_
  obtain⟨q43,hq43,h44⟩:=Khz h42
  refine gO 15 E ?_
  refine Kls [(0,.ptr 0 0),(1,I most),(4,.ptr 1 0),(5,.ptr 3 0),(6,I q43.2)] [.box 25 (fQ q43.1),.box 32 [I 0,S [],S [],I 0,I 0,S [],I 0,I 0,I 0,I 0,.d (.ro (KD.mk 0 []).n (KD.mk 0 []).xs)],rO 32 11 Lcx ([]:List Lcw),.box 32 [I y41.1,S [],S [],I 0,I 0,S [],I 0,I 0,I 0,I 0,.sl 2 ([]:List Lcw).length]] ?_ ?_
  ·refine Khs E (fun hb=>?_) (fun hb=>?_)
   ·have h45:=cT hq43 hb
    refine gA 2 E ?_
    refine Kit hΓ (enc:=(eN .i64)) [2,2,3] E E E E E E E E E E E E Z ?_
    obtain⟨y46,hy46,h47⟩:=Khz h45
    refine Kiy [0] (I y46.1) [.box 25 (fQ y46.2),.box 32 [I 0,S [],S [],I 0,I 0,S [],I 0,I 0,I 0,I 0,.d (.ro (KD.mk 0 []).n (KD.mk 0 []).xs)],rO 32 11 Lcx ([]:List Lcw),.box 32 [I y41.1,S [],S [],I 0,I 0,S [],I 0,I 0,I 0,I 0,.sl 2 ([]:List Lcw).length]] C (Lik hy46) E Z E E E E E E E E E E ?_
    refine gO 2 E ?_
    obtain rfl:=oSi h47
    exact⟨⟨E,E,E,E,E,tV⟩,[],E,.inl E⟩
   have h48:=cF hq43 hb
   refine gA 1 E ?_
   obtain rfl:=oSi h48
   exact⟨⟨E,E,E,E,E,tV⟩,[],E,.inl E⟩
  refine gA 8 E ?_
  obtain⟨q52,hq52,h53⟩:=Khz h44
  obtain⟨hb55,h56⟩:=Kia hq52
  replace hb55:=of_decide_eq_true hb55
  refine Kls [(4,.ptr 1 0),(5,.ptr 3 0)] [.box 25 (fQ q52.1),.box 32 [I 0,S [],S [],I 0,I 0,S [],I 0,I 0,I 0,I 0,.d (.ro (KD.mk 0 []).n (KD.mk 0 []).xs)],rO 32 11 Lcx q52.2,.box 32 [I y41.1,S [],S [],I 0,I 0,S [],I 0,I 0,I 0,I 0,.sl 2 q52.2.length]] ?_ ?_
  ·refine gA 1 E ?_
   refine Kjq h56 (fun i49 s50=>[(0,.ptr 0 0),(1,I most),(4,.ptr 1 0),(5,.ptr 3 0),(67,I q43.2),(68,I (i49:Int))]) (fun s50=>[.box 25 (fQ s50.1),.box 32 [I 0,S [],S [],I 0,I 0,S [],I 0,I 0,I 0,I 0,.d (.ro (KD.mk 0 []).n (KD.mk 0 []).xs)],rO 32 11 Lcx s50.2,.box 32 [I y41.1,S [],S [],I 0,I 0,S [],I 0,I 0,I 0,I 0,.sl 2 s50.2.length]]) ⟨⟨E,E,E,E,E,E,tV⟩,[],E,.inl E⟩ (fun i49 s50 y60 hlt hy58=>?_) (fun hge=>?_)
   ·refine gA 6 E ?_
    refine Kht E (dT hlt) ?_
    obtain⟨y61,hy61,h62⟩:=Khz hy58
    refine gA 9 E ?_
    refine Kiy [0] (.agg [I y61.1.Kind,S y61.1.Name,S y61.1.Op,I y61.1.Value.Kind,I y61.1.Value.Number,S y61.1.Value.Words,I y61.1.Value.Version.1,I y61.1.Value.Version.2.1,I y61.1.Value.Version.2.2.1,I y61.1.Value.Version.2.2.2,.d (.ro y61.1.Kids.n y61.1.Kids.xs)]) [.box 25 (fQ y61.2),.box 32 [I 0,S [],S [],I 0,I 0,S [],I 0,I 0,I 0,I 0,.d (.ro (KD.mk 0 []).n (KD.mk 0 []).xs)],rO 32 11 Lcx s50.2,.box 32 [I y41.1,S [],S [],I 0,I 0,S [],I 0,I 0,I 0,I 0,.sl 2 s50.2.length]] C (ih hy61) E Z E E E E E E E E E E ?_
    refine Ksc hΓ E E E Z ?_
    refine Ksh hΓ E E E E E E E E Z ?_
    refine Kjh [.box 25 (fQ y61.2),.box 32 [I 0,S [],S [],I 0,I 0,S [],I 0,I 0,I 0,I 0,.d (.ro (KD.mk 0 []).n (KD.mk 0 []).xs)],rO 32 11 Lcx s50.2,.box 32 [I y41.1,S [],S [],I 0,I 0,S [],I 0,I 0,I 0,I 0,.sl 2 s50.2.length],.box 32 [I y61.1.Kind,S y61.1.Name,S y61.1.Op,I y61.1.Value.Kind,I y61.1.Value.Number,S y61.1.Value.Words,I y61.1.Value.Version.1,I y61.1.Value.Version.2.1,I y61.1.Value.Version.2.2.1,I y61.1.Value.Version.2.2.2,.d (.ro y61.1.Kids.n y61.1.Kids.xs)]] E ?_
    refine gO 10 E ?_
    refine Khy 4 [(0,.ptr 0 0),(1,I most),(4,.ptr 1 0),(5,.ptr 3 0),(7,.ptr 4 0),(67,I q43.2),(68,I (i49:Int)),(83,B (((y61.1.Kind:Int)==y41.1)&&((y41.1:Int) != 2)))] [.box 25 (fQ y61.2),.box 32 [I 0,S [],S [],I 0,I 0,S [],I 0,I 0,I 0,I 0,.d (.ro (KD.mk 0 []).n (KD.mk 0 []).xs)],rO 32 11 Lcx s50.2,.box 32 [I y41.1,S [],S [],I 0,I 0,S [],I 0,I 0,I 0,I 0,.sl 2 s50.2.length],.box 32 [I y61.1.Kind,S y61.1.Name,S y61.1.Op,I y61.1.Value.Kind,I y61.1.Value.Number,S y61.1.Value.Words,I y61.1.Value.Version.1,I y61.1.Value.Version.2.1,I y61.1.Value.Version.2.2.1,I y61.1.Value.Version.2.2.2,.d (.ro y61.1.Kids.n y61.1.Kids.xs)]] ?_ ?_
    ·refine Kqw E E (fun hb=>?_) (fun hb=>?_)
     ·refine gO 5 E ?_
      exact⟨⟨E,E,E,E,E,E,E,Kgw E (Kjs hb),tV⟩,[],E,.inl E⟩
     refine gO 5 E ?_
     exact⟨⟨E,E,E,E,E,E,E,Kgw E (Kjt hb),tV⟩,[],E,.inl E⟩
    refine gO 2 E ?_
    refine Khs E (fun hb=>?_) (fun hb=>?_)
    ·have h63:=cT h62 hb
     obtain⟨l64,hl64,h65⟩:=Khz h63
     refine gA 4 E ?_
     refine eo_o E (Knu (Krq hΓ (g:=.d (.ro y61.1.Kids.n y61.1.Kids.xs)) E) (G.Le.unk Lht hl64)) ?_
     obtain⟨y66,hy66,h67⟩:=Khz h65
     refine Kml 2 [.box 25 (fQ y61.2),.box 32 [I 0,S [],S [],I 0,I 0,S [],I 0,I 0,I 0,I 0,.d (.ro (KD.mk 0 []).n (KD.mk 0 []).xs)],rO 32 11 Lcx s50.2,.box 32 [I y41.1,S [],S [],I 0,I 0,S [],I 0,I 0,I 0,I 0,.junk],.box 32 [I y61.1.Kind,S y61.1.Name,S y61.1.Op,I y61.1.Value.Kind,I y61.1.Value.Number,S y61.1.Value.Words,I y61.1.Value.Version.1,I y61.1.Value.Version.2.1,I y61.1.Value.Version.2.2.1,I y61.1.Value.Version.2.2.2,.d (.ro y61.1.Kids.n y61.1.Kids.xs)]] E Z ?_
     refine Kji hΓ (enc:=Lcx) hy66 E E E E E E E E E (fun _=>E) E E E E ?_
     refine gO 1 E ?_
     refine Ksh hΓ E E E E E E E E Z ?_
     refine Kjh [.box 25 (fQ y61.2),.box 32 [I 0,S [],S [],I 0,I 0,S [],I 0,I 0,I 0,I 0,.d (.ro (KD.mk 0 []).n (KD.mk 0 []).xs)],rO 32 11 Lcx y66,.box 32 [I y41.1,S [],S [],I 0,I 0,S [],I 0,I 0,I 0,I 0,.sl 2 y66.length],.box 32 [I y61.1.Kind,S y61.1.Name,S y61.1.Op,I y61.1.Value.Kind,I y61.1.Value.Number,S y61.1.Value.Words,I y61.1.Value.Version.1,I y61.1.Value.Version.2.1,I y61.1.Value.Version.2.2.1,I y61.1.Value.Version.2.2.2,.d (.ro y61.1.Kids.n y61.1.Kids.xs)]] E ?_
     refine gO 7 E ?_
     obtain rfl:=oSi h67
     exact⟨⟨E,E,E,E,E,Kgv E (Kgu (by omega)),tV⟩,[_],E,.inr ⟨HB.mk E,FB.mk E,Z⟩⟩
    have h68:=cF h62 hb
    refine gA 4 E ?_
    refine Kit hΓ (enc:=Lcx) [y61.1] E E E E E E E E E E E E Z ?_
    obtain⟨y69,hy69,h70⟩:=Khz h68
    refine Kml 2 [.box 25 (fQ y61.2),.box 32 [I 0,S [],S [],I 0,I 0,S [],I 0,I 0,I 0,I 0,.d (.ro (KD.mk 0 []).n (KD.mk 0 []).xs)],rO 32 11 Lcx s50.2,.box 32 [I y41.1,S [],S [],I 0,I 0,S [],I 0,I 0,I 0,I 0,.junk],.box 32 [I y61.1.Kind,S y61.1.Name,S y61.1.Op,I y61.1.Value.Kind,I y61.1.Value.Number,S y61.1.Value.Words,I y61.1.Value.Version.1,I y61.1.Value.Version.2.1,I y61.1.Value.Version.2.2.1,I y61.1.Value.Version.2.2.2,.d (.ro y61.1.Kids.n y61.1.Kids.xs)]] E Z ?_
    refine Kji hΓ (enc:=Lcx) hy69 E E E E E E E E E (fun _=>E) E E E E ?_
    refine gO 1 E ?_
    refine Ksh hΓ E E E E E E E E Z ?_
    refine Kjh [.box 25 (fQ y61.2),.box 32 [I 0,S [],S [],I 0,I 0,S [],I 0,I 0,I 0,I 0,.d (.ro (KD.mk 0 []).n (KD.mk 0 []).xs)],rO 32 11 Lcx y69,.box 32 [I y41.1,S [],S [],I 0,I 0,S [],I 0,I 0,I 0,I 0,.sl 2 y69.length],.box 32 [I y61.1.Kind,S y61.1.Name,S y61.1.Op,I y61.1.Value.Kind,I y61.1.Value.Number,S y61.1.Value.Words,I y61.1.Value.Version.1,I y61.1.Value.Version.2.1,I y61.1.Value.Version.2.2.1,I y61.1.Value.Version.2.2.2,.d (.ro y61.1.Kids.n y61.1.Kids.xs)]] E ?_
    refine gO 7 E ?_
    obtain rfl:=oSi h70
    exact⟨⟨E,E,E,E,E,Kgv E (Kgu (by omega)),tV⟩,[_],E,.inr ⟨HB.mk E,FB.mk E,Z⟩⟩
   refine gA 6 E ?_
   refine Khu E (dF hge) ?_
   refine gA 4 E ?_
   exact⟨⟨E,E,tV⟩,[],E,.inl E⟩
  refine gA 4 E ?_
  refine Kjf 2 [97] _ [.box 25 (fQ q52.1),.box 32 [I 0,S [],S [],I 0,I 0,S [],I 0,I 0,I 0,I 0,.d (.ro (KD.mk 0 []).n (KD.mk 0 []).xs)],.dead,.box 32 [I y41.1,S [],S [],I 0,I 0,S [],I 0,I 0,I 0,I 0,.d (.ro (pk Lcx q52.2).n (pk Lcx q52.2).xs)]] E E E Z ?_
  refine Ksh hΓ E E E E E E E E Z ?_
  refine Kjh [.box 25 (fQ q52.1),.box 32 [I y41.1,S [],S [],I 0,I 0,S [],I 0,I 0,I 0,I 0,.d (.ro (pk Lcx q52.2).n (pk Lcx q52.2).xs)],.dead,.box 32 [I y41.1,S [],S [],I 0,I 0,S [],I 0,I 0,I 0,I 0,.d (.ro (pk Lcx q52.2).n (pk Lcx q52.2).xs)]] E ?_
  refine gO 3 E ?_
  obtain rfl:=oSi h53
  exact Kjm hΓ [_,_,_] (.inr E) E E E E (.inr ⟨HB.mk E,E⟩)
theorem Lip{s:Lcu}{low:Int}{high:Int}{r:Int×Lcu}(h:Ldm s low high=some r):EC Tryz.prog 15 [.ptr 0 0,I low,I high] [.box 25 (fQ s)] fun g hp'=>g=I r.1∧hp'=[.box 25 (fQ r.2)]:=by
 unfold Ldm at h
 refine QN Tryz.func15 E Z<|gA 13 E<|jC E h (fun h1=>?_) fun h2=>bK h2 fun y3 hy3 h4=>gA 10 E<|Kiy [0] (I y3.1) [.box 25 (fQ y3.2)] C (Lij hy3) E Z E E E E E E E E E E<|gO 5 E<|oSi h4▸Kjm hΓ [] (.inr E) E E E E (.inl E)
 exact gA 8 E<|oSi h1▸Kjm hΓ [] (.inr E) E E E E (.inl E)
theorem Liq{s:Lcu}{low:Int}{high:Int}{r:Int×Lcu}(h:Ldn s low high=some r):EC Tryz.prog 90 [.ptr 0 0,I low,I high] [.box 25 (fQ s)] fun g hp'=>g=I r.1∧hp'=[.box 25 (fQ r.2)]:=by
 unfold Ldn at h
 refine QN Tryz.func90 E Z<|bK h fun y1 hy1 h2=>gA 9 E<|Kiy [0] (B y1.1) [.box 25 (fQ y1.2)] C (Lil hy1) E Z E E E E E E E E E E<|gO 2 E<|jC E h2 (fun h3=>?_) fun h6=>bK h6 fun y7 hy7 h8=>gA 7 E<|Kiy [0] (I y7.1) [.box 25 (fQ y7.2)] C (Lip hy7) E Z E E E E E E E E E E<|gO 4 E<|oSi h8▸Kjm hΓ [] (.inr E) E E E E (.inl E)
 exact gA 9 E<|Kit hΓ (enc:=(eN .i64)) [wi (low - 1),wi (high+1),low,high,-1099511627776,1099511627776] E E E E E E E E E E E E Z<|bK h3 fun y4 hy4 h5=>Kiy [0] (I y4.1) [.box 25 (fQ y4.2)] C (Lik hy4) E Z E E E E E E E E E E<|gO 5 E<|oSi h5▸Kjm hΓ [] (.inr E) E E E E (.inl E)
theorem Lir{s:Lcu}{r:Lcv×Lcu}(h:Ldo s=some r):EC Tryz.prog 89 [.ptr 0 0] [.box 25 (fQ s)] fun g hp'=>g=.agg [I r.1.Kind,I r.1.Number,S r.1.Words,I r.1.Version.1,I r.1.Version.2.1,I r.1.Version.2.2.1,I r.1.Version.2.2.2]∧hp'=[.box 25 (fQ r.2)]:=by
 unfold Ldo at h
 refine QN Tryz.func89 E Z<|gA 2 E<|Ksc hΓ E E E Z<|gO 5 E<|Kit hΓ (enc:=(eN .i64)) [1,1,2,2,3,4] E E E E E E E E E E E E Z<|bK h fun y1 hy1 h2=>Kiy [0] (I y1.1) [.box 25 (fQ y1.2),.box 29 [I 0,I 0,S [],I 0,I 0,I 0,I 0]] C (Lik hy1) E Z E E E E E E E E E E<|Kfq hΓ (gs:=[I y1.1,I 0,S [],I 0,I 0,I 0,I 0]) E E E E E E E<|Ksc hΓ E E E Z<|Ksh hΓ E E E E E E E E Z<|Kjh [.box 25 (fQ y1.2),.box 29 [I 0,I 0,S [],I 0,I 0,I 0,I 0],.box 29 [I y1.1,I 0,S [],I 0,I 0,I 0,I 0]] E<|bK h2 fun q3 hq3 h4=>gO 9 E<|Kls [(0,.ptr 0 0),(2,.ptr 1 0),(3,.ptr 2 0)] [.box 25 (fQ q3.1),.box 29 [I 0,I 0,S [],I 0,I 0,I 0,I 0],.box 29 [I q3.2.Kind,I q3.2.Number,S q3.2.Words,I q3.2.Version.1,I q3.2.Version.2.1,I q3.2.Version.2.2.1,I q3.2.Version.2.2.2]] ?_ ?_
 ·refine gA 7 E<|jC E hq3 (fun h5=>?_) fun h8=>gA 6 E<|jC E h8 (fun h9=>?_) fun h12=>?_
  ·exact gA 2 E<|Kit hΓ (enc:=(eN .i64)) [0,5,12,-3,100000000] E E E E E E E E E E E E Z<|bK h5 fun y6 hy6 h7=>Kiy [0] (I y6.1) [.box 25 (fQ y6.2),.box 29 [I 0,I 0,S [],I 0,I 0,I 0,I 0],.box 29 [I y1.1,I 0,S [],I 0,I 0,I 0,I 0]] C (Lik hy6) E Z E E E E E E E E E E<|gO 1 E<|Ksh hΓ E E E E E E E E Z<|Kjh [.box 25 (fQ y6.2),.box 29 [I 0,I 0,S [],I 0,I 0,I 0,I 0],.box 29 [I y1.1,I y6.1,S [],I 0,I 0,I 0,I 0]] E<|gO 2 E<|oSi h7▸⟨⟨E,E,E,tV⟩,[],E,.inl E⟩
  ·exact gA 2 E<|Kit hΓ (enc:=eS) [[108,105,110,117,120],[109,97,99],[],[97,32,34,98,92],[119,105,110]] E E E E E E E E E E E E Z<|bK h9 fun y10 hy10 h11=>Kiy [0] (S y10.1) [.box 25 (fQ y10.2),.box 29 [I 0,I 0,S [],I 0,I 0,I 0,I 0],.box 29 [I y1.1,I 0,S [],I 0,I 0,I 0,I 0]] C (Lim hy10) E Z E E E E E E E E E E<|gO 1 E<|Ksh hΓ E E E E E E E E Z<|Kjh [.box 25 (fQ y10.2),.box 29 [I 0,I 0,S [],I 0,I 0,I 0,I 0],.box 29 [I y1.1,I 0,S y10.1,I 0,I 0,I 0,I 0]] E<|gO 2 E<|oSi h11▸⟨⟨E,E,E,tV⟩,[],E,.inl E⟩
  refine gA 6 E<|jC E h12 (fun h13=>?_) fun h16=>gA 2 E<|Kit hΓ (enc:=(eN .i64)) [0,2,12] E E E E E E E E E E E E Z<|bK h16 fun y17 hy17 h18=>Kiy [0] (I y17.1) [.box 25 (fQ y17.2),.box 29 [I 0,I 0,S [],I 0,I 0,I 0,I 0],.box 29 [I y1.1,I 0,S [],I 0,I 0,I 0,I 0]] C (Lik hy17) E Z E E E E E E E E E E<|gO 1 E<|Kit hΓ (enc:=(eN .i64)) [0,3] E E E E E E E E E E E E Z<|bK h18 fun y19 hy19 h20=>Kiy [0] (I y19.1) [.box 25 (fQ y19.2),.box 29 [I 0,I 0,S [],I 0,I 0,I 0,I 0],.box 29 [I y1.1,I 0,S [],I 0,I 0,I 0,I 0]] C (Lik hy19) E Z E E E E E E E E E E<|eo_o E (Kmn hΓ (gs:=[I 1,I y17.1,I y19.1,I 0]) E E E E E E)<|gO 1 E<|Ksh hΓ E E E E E E E E Z<|Kjh [.box 25 (fQ y19.2),.box 29 [I 0,I 0,S [],I 0,I 0,I 0,I 0],.box 29 [I y1.1,I 0,S [],I 1,I y17.1,I y19.1,I 0]] E<|gO 2 E<|oSi h20▸⟨⟨E,E,E,tV⟩,[],E,.inl E⟩
  exact bK h13 fun y14 hy14 h15=>gA 2 E<|Kiy [0] (I y14.1) [.box 25 (fQ y14.2),.box 29 [I 0,I 0,S [],I 0,I 0,I 0,I 0],.box 29 [I y1.1,I 0,S [],I 0,I 0,I 0,I 0]] C (Lij hy14) E Z E E E E E E E E E E<|gO 1 E<|Ksh hΓ E E E E E E E E Z<|Kjh [.box 25 (fQ y14.2),.box 29 [I 0,I 0,S [],I 0,I 0,I 0,I 0],.box 29 [I y1.1,I y14.1,S [],I 0,I 0,I 0,I 0]] E<|gO 2 E<|oSi h15▸⟨⟨E,E,E,tV⟩,[],E,.inl E⟩
 refine bK h4 fun y21 hy21 h22=>gA 5 E<|Kiy [0] (B y21.1) [.box 25 (fQ y21.2),.box 29 [I 0,I 0,S [],I 0,I 0,I 0,I 0],.box 29 [I q3.2.Kind,I q3.2.Number,S q3.2.Words,I q3.2.Version.1,I q3.2.Version.2.1,I q3.2.Version.2.2.1,I q3.2.Version.2.2.2]] C (Lil hy21) E Z E E E E E E E E E E<|bK h22 fun q23 hq23 h24=>gO 2 E<|Kls [(2,.ptr 1 0),(3,.ptr 2 0)] [.box 25 (fQ q23.1),.box 29 [I 0,I 0,S [],I 0,I 0,I 0,I 0],.box 29 [I q23.2.Kind,I q23.2.Number,S q23.2.Words,I q23.2.Version.1,I q23.2.Version.2.1,I q23.2.Version.2.2.1,I q23.2.Version.2.2.2]] ?_ ?_
 ·refine jC E hq23 (fun h25=>?_) fun h32=>gA 1 E<|oSi h32▸⟨⟨E,E,tV⟩,[],E,.inl E⟩
  exact bK h25 fun y26 hy26 h27=>gA 2 E<|Kiy [0] (I y26.1) [.box 25 (fQ y26.2),.box 29 [I 0,I 0,S [],I 0,I 0,I 0,I 0],.box 29 [I q3.2.Kind,I q3.2.Number,S q3.2.Words,I q3.2.Version.1,I q3.2.Version.2.1,I q3.2.Version.2.2.1,I q3.2.Version.2.2.2]] C (Liq hy26) E Z E E E E E E E E E E<|bK h27 fun y28 hy28 h29=>gO 1 E<|Kiz C (Laq hy28) E Z E E E E E<|Kit hΓ (enc:=eS) [[],[120],[195,169],y28] E E E E E E E E E E E E Z<|bK h29 fun y30 hy30 h31=>Kiy [0] (S y30.1) [.box 25 (fQ y30.2),.box 29 [I 0,I 0,S [],I 0,I 0,I 0,I 0],.box 29 [I q3.2.Kind,I q3.2.Number,S q3.2.Words,I q3.2.Version.1,I q3.2.Version.2.1,I q3.2.Version.2.2.1,I q3.2.Version.2.2.2]] C (Lim hy30) E Z E E E E E E E E E E<|gO 1 E<|Ksh hΓ E E E E E E E E Z<|Kjh [.box 25 (fQ y30.2),.box 29 [I 0,I 0,S [],I 0,I 0,I 0,I 0],.box 29 [I q3.2.Kind,I y26.1,S q3.2.Words,I q3.2.Version.1,I q3.2.Version.2.1,I q3.2.Version.2.2.1,I q3.2.Version.2.2.2]] E<|gO 1 E<|Ksh hΓ E E E E E E E E Z<|Kjh [.box 25 (fQ y30.2),.box 29 [I 0,I 0,S [],I 0,I 0,I 0,I 0],.box 29 [I q3.2.Kind,I y26.1,S y30.1,I q3.2.Version.1,I q3.2.Version.2.1,I q3.2.Version.2.2.1,I q3.2.Version.2.2.2]] E<|gO 1 E<|oSi h31▸⟨⟨E,E,tV⟩,[],E,.inl E⟩
 exact gA 4 E<|Ksh hΓ E E E E E E E E Z<|Kjh [.box 25 (fQ q23.1),.box 29 [I q23.2.Kind,I q23.2.Number,S q23.2.Words,I q23.2.Version.1,I q23.2.Version.2.1,I q23.2.Version.2.2.1,I q23.2.Version.2.2.2],.box 29 [I q23.2.Kind,I q23.2.Number,S q23.2.Words,I q23.2.Version.1,I q23.2.Version.2.1,I q23.2.Version.2.2.1,I q23.2.Version.2.2.2]] E<|gO 3 E<|oSi h24▸Kjm hΓ [_,_] (.inr E) E E E E (.inr ⟨HB.mk E,E⟩)
theorem Lis{s:List Lcw}{r:List Lcw}(h:Ldp s=some r):EC Tryz.prog 91 [.d (Sl Lcx s)] [] fun g hp'=>g=.sl 0 r.length∧hp'=[rO 32 11 Lcx r]:=by
 unfold Ldp at h
 refine QM Tryz.func91 E Z<|gA 2 E<|Kiw (t:=0) 32 11 E Z<|gO 6 E<|Khj hΓ E E E E E fun b hbn=>?_
 rcases b with _ | _
 ·exact gO 7 E<|Kiv hΓ (enc:=Lcx) ([]:List Lcw) E E E E E E E E E E E E Z<|bK h fun y1 hy1 h2=>gO 1 E<|Kji hΓ (enc:=Lcx) hy1 E E E E E E E E E (fun _=>E) E E E E<|gO 3 E<|Knk 0 [.dead,rO 32 11 Lcx y1] E Z<|Kkr 1 0 [rO 32 11 Lcx y1,.dead] E E E E E E<|gA 1 E<|Kln<|oSi h2▸Kjm hΓ [_] (.inr E) E E E E (.inr ⟨HB.mk E,E⟩)
 obtain rfl:=List.eq_nil_of_length_eq_zero (hbn rfl).1
 replace h:(some ([]:List Lcw):Option (List Lcw))=some r:=h
 exact gO 5 E<|Kiw (t:=0) 32 11 E Z<|gO 4 E<|Kni 0 [.dead,rO 32 11 Lcx ([]:List Lcw)] E Z<|Klq 1 0 [rO 32 11 Lcx ([]:List Lcw),.dead] E E E E E E<|Kln<|oSi h▸Kjm hΓ [_] (.inr E) E E E E (.inr ⟨HB.mk E,E⟩)
theorem Lit{k:Nat}{s:Lcu}{r:Lcw×Lcu}(h:Ldq k s=some r):EC Tryz.prog 13 [.ptr 0 0] [.box 25 (fQ s)] fun g hp'=>g=.agg [I r.1.Kind,S r.1.Name,S r.1.Op,I r.1.Value.Kind,I r.1.Value.Number,S r.1.Value.Words,I r.1.Value.Version.1,I r.1.Value.Version.2.1,I r.1.Value.Version.2.2.1,I r.1.Value.Version.2.2.2,.d (.ro r.1.Kids.n r.1.Kids.xs)]∧hp'=[.box 25 (fQ r.2)]:=by
 unfold Ldq at h
 refine QN Tryz.func13 E Z<|gA 2 E<|Ksc hΓ E E E Z<|gO 6 E<|Kit hΓ (enc:=(eN .i64)) [0,1,2,2] E E E E E E E E E E E E Z<|bK h fun y1 hy1 h2=>Kiy [0] (I y1.1) [.box 25 (fQ y1.2),.box 32 [I 0,S [],S [],I 0,I 0,S [],I 0,I 0,I 0,I 0,.d (.ro (KD.mk 0 []).n (KD.mk 0 []).xs)]] C (Lik hy1) E Z E E E E E E E E E E<|bK h2 fun y3 hy3 h4=>Kiy [0] (.agg [I y3.1.Kind,S y3.1.Name,S y3.1.Op,I y3.1.Value.Kind,I y3.1.Value.Number,S y3.1.Value.Words,I y3.1.Value.Version.1,I y3.1.Value.Version.2.1,I y3.1.Value.Version.2.2.1,I y3.1.Value.Version.2.2.2,.d (.ro y3.1.Kids.n y3.1.Kids.xs)]) [.box 25 (fQ y3.2),.box 32 [I 0,S [],S [],I 0,I 0,S [],I 0,I 0,I 0,I 0,.d (.ro (KD.mk 0 []).n (KD.mk 0 []).xs)]] C (Lio hy3) E Z E E E E E E E E E E<|Ksc hΓ E E E Z<|Ksh hΓ E E E E E E E E Z<|Kjh [.box 25 (fQ y3.2),.box 32 [I 0,S [],S [],I 0,I 0,S [],I 0,I 0,I 0,I 0,.d (.ro (KD.mk 0 []).n (KD.mk 0 []).xs)],.box 32 [I y3.1.Kind,S y3.1.Name,S y3.1.Op,I y3.1.Value.Kind,I y3.1.Value.Number,S y3.1.Value.Words,I y3.1.Value.Version.1,I y3.1.Value.Version.2.1,I y3.1.Value.Version.2.2.1,I y3.1.Value.Version.2.2.2,.d (.ro y3.1.Kids.n y3.1.Kids.xs)]] E<|bK h4 fun y5 hy5 h6=>gO 6 E<|Kiy [0] (B y5.1) [.box 25 (fQ y5.2),.box 32 [I 0,S [],S [],I 0,I 0,S [],I 0,I 0,I 0,I 0,.d (.ro (KD.mk 0 []).n (KD.mk 0 []).xs)],.box 32 [I y3.1.Kind,S y3.1.Name,S y3.1.Op,I y3.1.Value.Kind,I y3.1.Value.Number,S y3.1.Value.Words,I y3.1.Value.Version.1,I y3.1.Value.Version.2.1,I y3.1.Value.Version.2.2.1,I y3.1.Value.Version.2.2.2,.d (.ro y3.1.Kids.n y3.1.Kids.xs)]] C (Lil hy5) E Z E E E E E E E E E E<|bK h6 fun q7 hq7 h8=>gO 2 E<|Klt [(0,.ptr 0 0),(2,.ptr 1 0),(3,.ptr 2 0)] [.box 25 (fQ q7.1),.box 32 [I 0,S [],S [],I 0,I 0,S [],I 0,I 0,I 0,I 0,.d (.ro (KD.mk 0 []).n (KD.mk 0 []).xs)],.box 32 [I q7.2.Kind,S q7.2.Name,S q7.2.Op,I q7.2.Value.Kind,I q7.2.Value.Number,S q7.2.Value.Words,I q7.2.Value.Version.1,I q7.2.Value.Version.2.1,I q7.2.Value.Version.2.2.1,I q7.2.Value.Version.2.2.2,.d (.ro q7.2.Kids.n q7.2.Kids.xs)]] ?_ ?_
 ·refine jC E hq7 (fun h9=>?_) fun h40=>gA 1 E<|Kln<|oSi h40▸⟨⟨E,E,E,tV⟩,[],E,.inl E⟩
  refine bK h9 fun y10 hy10 h11=>gA 3 E<|Kiy [0] (I y10.1) [.box 25 (fQ y10.2),.box 32 [I 0,S [],S [],I 0,I 0,S [],I 0,I 0,I 0,I 0,.d (.ro (KD.mk 0 []).n (KD.mk 0 []).xs)],.box 32 [I y3.1.Kind,S y3.1.Name,S y3.1.Op,I y3.1.Value.Kind,I y3.1.Value.Number,S y3.1.Value.Words,I y3.1.Value.Version.1,I y3.1.Value.Version.2.1,I y3.1.Value.Version.2.2.1,I y3.1.Value.Version.2.2.2,.d (.ro y3.1.Kids.n y3.1.Kids.xs)]] C (Lij hy10) E Z E E E E E E E E E E<|gO 9 E<|jC E h11 (fun h12=>?_) fun h15=>gA 6 E<|jC E h15 (fun h16=>?_) fun h19=>?_
  ·exact gA 2 E<|Kit hΓ (enc:=eS) [[],[65],[116,114,117,101],[118,49],[118],[111,115]] E E E E E E E E E E E E Z<|bK h12 fun y13 hy13 h14=>Kiy [0] (S y13.1) [.box 25 (fQ y13.2),.box 32 [I 0,S [],S [],I 0,I 0,S [],I 0,I 0,I 0,I 0,.d (.ro (KD.mk 0 []).n (KD.mk 0 []).xs)],.box 32 [I y3.1.Kind,S y3.1.Name,S y3.1.Op,I y3.1.Value.Kind,I y3.1.Value.Number,S y3.1.Value.Words,I y3.1.Value.Version.1,I y3.1.Value.Version.2.1,I y3.1.Value.Version.2.2.1,I y3.1.Value.Version.2.2.2,.d (.ro y3.1.Kids.n y3.1.Kids.xs)]] C (Lim hy13) E Z E E E E E E E E E E<|gO 1 E<|Ksh hΓ E E E E E E E E Z<|Kjh [.box 25 (fQ y13.2),.box 32 [I 0,S [],S [],I 0,I 0,S [],I 0,I 0,I 0,I 0,.d (.ro (KD.mk 0 []).n (KD.mk 0 []).xs)],.box 32 [I y3.1.Kind,S y13.1,S y3.1.Op,I y3.1.Value.Kind,I y3.1.Value.Number,S y3.1.Value.Words,I y3.1.Value.Version.1,I y3.1.Value.Version.2.1,I y3.1.Value.Version.2.2.1,I y3.1.Value.Version.2.2.2,.d (.ro y3.1.Kids.n y3.1.Kids.xs)]] E<|gO 2 E<|Kln<|oSi h14▸⟨⟨E,E,E,tV⟩,[],E,.inl E⟩
  ·exact gA 2 E<|Kit hΓ (enc:=eS) [[],[61],[61,61],[60]] E E E E E E E E E E E E Z<|bK h16 fun y17 hy17 h18=>Kiy [0] (S y17.1) [.box 25 (fQ y17.2),.box 32 [I 0,S [],S [],I 0,I 0,S [],I 0,I 0,I 0,I 0,.d (.ro (KD.mk 0 []).n (KD.mk 0 []).xs)],.box 32 [I y3.1.Kind,S y3.1.Name,S y3.1.Op,I y3.1.Value.Kind,I y3.1.Value.Number,S y3.1.Value.Words,I y3.1.Value.Version.1,I y3.1.Value.Version.2.1,I y3.1.Value.Version.2.2.1,I y3.1.Value.Version.2.2.2,.d (.ro y3.1.Kids.n y3.1.Kids.xs)]] C (Lim hy17) E Z E E E E E E E E E E<|gO 1 E<|Ksh hΓ E E E E E E E E Z<|Kjh [.box 25 (fQ y17.2),.box 32 [I 0,S [],S [],I 0,I 0,S [],I 0,I 0,I 0,I 0,.d (.ro (KD.mk 0 []).n (KD.mk 0 []).xs)],.box 32 [I y3.1.Kind,S y3.1.Name,S y17.1,I y3.1.Value.Kind,I y3.1.Value.Number,S y3.1.Value.Words,I y3.1.Value.Version.1,I y3.1.Value.Version.2.1,I y3.1.Value.Version.2.2.1,I y3.1.Value.Version.2.2.2,.d (.ro y3.1.Kids.n y3.1.Kids.xs)]] E<|gO 2 E<|Kln<|oSi h18▸⟨⟨E,E,E,tV⟩,[],E,.inl E⟩
  refine gA 6 E<|jC E h19 (fun h20=>?_) fun h23=>gA 6 E<|jC E h23 (fun h24=>?_) fun h27=>?_
  ·exact bK h20 fun y21 hy21 h22=>gA 2 E<|Kiy [0] (.agg [I y21.1.Kind,I y21.1.Number,S y21.1.Words,I y21.1.Version.1,I y21.1.Version.2.1,I y21.1.Version.2.2.1,I y21.1.Version.2.2.2]) [.box 25 (fQ y21.2),.box 32 [I 0,S [],S [],I 0,I 0,S [],I 0,I 0,I 0,I 0,.d (.ro (KD.mk 0 []).n (KD.mk 0 []).xs)],.box 32 [I y3.1.Kind,S y3.1.Name,S y3.1.Op,I y3.1.Value.Kind,I y3.1.Value.Number,S y3.1.Value.Words,I y3.1.Value.Version.1,I y3.1.Value.Version.2.1,I y3.1.Value.Version.2.2.1,I y3.1.Value.Version.2.2.2,.d (.ro y3.1.Kids.n y3.1.Kids.xs)]] C (Lir hy21) E Z E E E E E E E E E E<|gO 1 E<|Ksh hΓ E E E E E E E E Z<|Kjh [.box 25 (fQ y21.2),.box 32 [I 0,S [],S [],I 0,I 0,S [],I 0,I 0,I 0,I 0,.d (.ro (KD.mk 0 []).n (KD.mk 0 []).xs)],.box 32 [I y3.1.Kind,S y3.1.Name,S y3.1.Op,I y21.1.Kind,I y21.1.Number,S y21.1.Words,I y21.1.Version.1,I y21.1.Version.2.1,I y21.1.Version.2.2.1,I y21.1.Version.2.2.2,.d (.ro y3.1.Kids.n y3.1.Kids.xs)]] E<|gO 2 E<|Kln<|oSi h22▸⟨⟨E,E,E,tV⟩,[],E,.inl E⟩
  ·exact bK h24 fun y25 hy25 h26=>gA 2 E<|Kiy [0] (I y25.1) [.box 25 (fQ y25.2),.box 32 [I 0,S [],S [],I 0,I 0,S [],I 0,I 0,I 0,I 0,.d (.ro (KD.mk 0 []).n (KD.mk 0 []).xs)],.box 32 [I y3.1.Kind,S y3.1.Name,S y3.1.Op,I y3.1.Value.Kind,I y3.1.Value.Number,S y3.1.Value.Words,I y3.1.Value.Version.1,I y3.1.Value.Version.2.1,I y3.1.Value.Version.2.2.1,I y3.1.Value.Version.2.2.2,.d (.ro y3.1.Kids.n y3.1.Kids.xs)]] C (Liq hy25) E Z E E E E E E E E E E<|gO 1 E<|Ksh hΓ E E E E E E E E Z<|Kjh [.box 25 (fQ y25.2),.box 32 [I 0,S [],S [],I 0,I 0,S [],I 0,I 0,I 0,I 0,.d (.ro (KD.mk 0 []).n (KD.mk 0 []).xs)],.box 32 [I y25.1,S y3.1.Name,S y3.1.Op,I y3.1.Value.Kind,I y3.1.Value.Number,S y3.1.Value.Words,I y3.1.Value.Version.1,I y3.1.Value.Version.2.1,I y3.1.Value.Version.2.2.1,I y3.1.Value.Version.2.2.2,.d (.ro y3.1.Kids.n y3.1.Kids.xs)]] E<|gO 2 E<|Kln<|oSi h26▸⟨⟨E,E,E,tV⟩,[],E,.inl E⟩
  refine gA 6 E<|jC E h27 (fun h28=>?_) fun h37=>Kkv [.dead,.dead,.box 32 [I y3.1.Kind,S y3.1.Name,S y3.1.Op,I y3.1.Value.Kind,I y3.1.Value.Number,S y3.1.Value.Words,I y3.1.Value.Version.1,I y3.1.Value.Version.2.1,I y3.1.Value.Version.2.2.1,I y3.1.Value.Version.2.2.2,.d (.ro y3.1.Kids.n y3.1.Kids.xs)]] [3,4] [2,7] [7] hmix (by kernel_rfl) (by kernel_rfl) ⟨E,tV⟩ Z<|go_E hΓ 1 E<|Klh hΓ (enc:=(eN .i64)) [2,3,4] E E E E E E E E E E E E<|bK h37 fun y38 hy38 h39=>ge_h [.box 25 (fQ y38.2),.box 32 [I 0,S [],S [],I 0,I 0,S [],I 0,I 0,I 0,I 0,.d (.ro (KD.mk 0 []).n (KD.mk 0 []).xs)],.box 32 [I y3.1.Kind,S y3.1.Name,S y3.1.Op,I y3.1.Value.Kind,I y3.1.Value.Number,S y3.1.Value.Words,I y3.1.Value.Version.1,I y3.1.Value.Version.2.1,I y3.1.Value.Version.2.2.1,I y3.1.Value.Version.2.2.2,.d (.ro y3.1.Kids.n y3.1.Kids.xs)]] E E E (Klb ⟨E,tV⟩) (Klg [0] (I y38.1) [.box 25 (fQ y38.2),.box 32 [I 0,S [],S [],I 0,I 0,S [],I 0,I 0,I 0,I 0,.d (.ro (KD.mk 0 []).n (KD.mk 0 []).xs)],.box 32 [I y3.1.Kind,S y3.1.Name,S y3.1.Op,I y3.1.Value.Kind,I y3.1.Value.Number,S y3.1.Value.Words,I y3.1.Value.Version.1,I y3.1.Value.Version.2.1,I y3.1.Value.Version.2.2.1,I y3.1.Value.Version.2.2.2,.d (.ro y3.1.Kids.n y3.1.Kids.xs)]] C (Lik hy38) E E E E E E E E E E)<|go_E hΓ 2 E<|Klh hΓ (enc:=Lcx) [y3.1,y3.1] E E E E E E E E E E E E<|ge_q E (.inl E) (fun _ _=>Kkx (qt_p (Kli hΓ (gs:=[I y38.1,S [],S [],I 0,I 0,S [],I 0,I 0,I 0,I 0,.d (.ro (pk Lcx [y3.1,y3.1]).n (pk Lcx [y3.1,y3.1]).xs)]) E E E E E E)))<|Kkz [.box 25 (fQ y38.2),.box 32 [I 0,S [],S [],I 0,I 0,S [],I 0,I 0,I 0,I 0,.d (.ro (KD.mk 0 []).n (KD.mk 0 []).xs)],.box 32 [I y38.1,S [],S [],I 0,I 0,S [],I 0,I 0,I 0,I 0,.d (.ro (pk Lcx [y3.1,y3.1]).n (pk Lcx [y3.1,y3.1]).xs)]] E E (Kla E) (Klf (Kmd hΓ E E E E E E E E E))<|Kkw<|gA 1 E<|Kln<|oSi h39▸⟨⟨E,E,E,tV⟩,[],E,.inl E⟩
  exact bK h28 fun l29 hl29 h30=>gA 2 E<|eo_o E (Knu (Krq hΓ (g:=.d (.ro y3.1.Kids.n y3.1.Kids.xs)) E) (G.Le.unk Lht hl29))<|bK h30 fun y31 hy31 h32=>Kiy [] (.sl 3 y31.length) [.box 25 (fQ y10.2),.box 32 [I 0,S [],S [],I 0,I 0,S [],I 0,I 0,I 0,I 0,.d (.ro (KD.mk 0 []).n (KD.mk 0 []).xs)],.box 32 [I y3.1.Kind,S y3.1.Name,S y3.1.Op,I y3.1.Value.Kind,I y3.1.Value.Number,S y3.1.Value.Words,I y3.1.Value.Version.1,I y3.1.Value.Version.2.1,I y3.1.Value.Version.2.2.1,I y3.1.Value.Version.2.2.2,.d (.ro y3.1.Kids.n y3.1.Kids.xs)],rO 32 11 Lcx y31] C (Lis hy31) E Z E E E E E E E E E E<|bK h32 fun y33 hy33 h34=>gO 1 E<|Kiy [0] (.agg [I y33.1.Kind,S y33.1.Name,S y33.1.Op,I y33.1.Value.Kind,I y33.1.Value.Number,S y33.1.Value.Words,I y33.1.Value.Version.1,I y33.1.Value.Version.2.1,I y33.1.Value.Version.2.2.1,I y33.1.Value.Version.2.2.2,.d (.ro y33.1.Kids.n y33.1.Kids.xs)]) [.box 25 (fQ y33.2),.box 32 [I 0,S [],S [],I 0,I 0,S [],I 0,I 0,I 0,I 0,.d (.ro (KD.mk 0 []).n (KD.mk 0 []).xs)],.box 32 [I y3.1.Kind,S y3.1.Name,S y3.1.Op,I y3.1.Value.Kind,I y3.1.Value.Number,S y3.1.Value.Words,I y3.1.Value.Version.1,I y3.1.Value.Version.2.1,I y3.1.Value.Version.2.2.1,I y3.1.Value.Version.2.2.2,.d (.ro y3.1.Kids.n y3.1.Kids.xs)],rO 32 11 Lcx y31] C (Lio hy33) E Z E E E E E E E E E E<|Kit hΓ (enc:=Lcx) [y33.1] E E E E E E E E E E E E Z<|bK h34 fun y35 hy35 h36=>Kji hΓ (enc:=Lcx) hy35 E E E E E E E E E (fun _=>E) E E E E<|gO 1 E<|Ksh hΓ E E E E E E E E Z<|Kjh [.box 25 (fQ y33.2),.box 32 [I 0,S [],S [],I 0,I 0,S [],I 0,I 0,I 0,I 0,.d (.ro (KD.mk 0 []).n (KD.mk 0 []).xs)],.box 32 [I y3.1.Kind,S y3.1.Name,S y3.1.Op,I y3.1.Value.Kind,I y3.1.Value.Number,S y3.1.Value.Words,I y3.1.Value.Version.1,I y3.1.Value.Version.2.1,I y3.1.Value.Version.2.2.1,I y3.1.Value.Version.2.2.2,.sl 3 y35.length],rO 32 11 Lcx y35] E<|gO 2 E<|Klp 3 [50] _ [.box 25 (fQ y33.2),.box 32 [I 0,S [],S [],I 0,I 0,S [],I 0,I 0,I 0,I 0,.d (.ro (KD.mk 0 []).n (KD.mk 0 []).xs)],.box 32 [I y3.1.Kind,S y3.1.Name,S y3.1.Op,I y3.1.Value.Kind,I y3.1.Value.Number,S y3.1.Value.Words,I y3.1.Value.Version.1,I y3.1.Value.Version.2.1,I y3.1.Value.Version.2.2.1,I y3.1.Value.Version.2.2.2,.d (.ro (pk Lcx y35).n (pk Lcx y35).xs)],.dead] E E E Z<|Kln<|oSi h36▸⟨⟨E,E,E,tV⟩,[_],E,.inr ⟨HB.mk E,FB.mk E,Z⟩⟩
 refine bK h8 fun y41 hy41 h42=>gA 5 E<|Kiy [0] (B y41.1) [.box 25 (fQ y41.2),.box 32 [I 0,S [],S [],I 0,I 0,S [],I 0,I 0,I 0,I 0,.d (.ro (KD.mk 0 []).n (KD.mk 0 []).xs)],.box 32 [I q7.2.Kind,S q7.2.Name,S q7.2.Op,I q7.2.Value.Kind,I q7.2.Value.Number,S q7.2.Value.Words,I q7.2.Value.Version.1,I q7.2.Value.Version.2.1,I q7.2.Value.Version.2.2.1,I q7.2.Value.Version.2.2.2,.d (.ro q7.2.Kids.n q7.2.Kids.xs)]] C (Lil hy41) E Z E E E E E E E E E E<|bK h42 fun q43 hq43 h44=>gO 2 E<|Kls [(2,.ptr 1 0),(3,.ptr 2 0)] [.box 25 (fQ q43.1),.box 32 [I 0,S [],S [],I 0,I 0,S [],I 0,I 0,I 0,I 0,.d (.ro (KD.mk 0 []).n (KD.mk 0 []).xs)],.box 32 [I q43.2.Kind,S q43.2.Name,S q43.2.Op,I q43.2.Value.Kind,I q43.2.Value.Number,S q43.2.Value.Words,I q43.2.Value.Version.1,I q43.2.Value.Version.2.1,I q43.2.Value.Version.2.2.1,I q43.2.Value.Version.2.2.2,.d (.ro q43.2.Kids.n q43.2.Kids.xs)]] ?_ ?_
 ·refine jC E hq43 (fun h45=>?_) fun h60=>gA 1 E<|oSi h60▸⟨⟨E,E,tV⟩,[],E,.inl E⟩
  refine gA 3 E<|Kit hΓ (enc:=(eN .i64)) [28,29,30] E E E E E E E E E E E E Z<|bK h45 fun y46 hy46 h47=>Kiy [0] (I y46.1) [.box 25 (fQ y46.2),.box 32 [I 0,S [],S [],I 0,I 0,S [],I 0,I 0,I 0,I 0,.d (.ro (KD.mk 0 []).n (KD.mk 0 []).xs)],.box 32 [I q7.2.Kind,S q7.2.Name,S q7.2.Op,I q7.2.Value.Kind,I q7.2.Value.Number,S q7.2.Value.Words,I q7.2.Value.Version.1,I q7.2.Value.Version.2.1,I q7.2.Value.Version.2.2.1,I q7.2.Value.Version.2.2.2,.d (.ro q7.2.Kids.n q7.2.Kids.xs)]] C (Lik hy46) E Z E E E E E E E E E E<|gO 3 E<|bK h47 fun q51 hq51 h52=>gK hq51 fun hb54 h55=>?_
  replace hb54:=of_decide_eq_true hb54
  refine Kls [(2,.ptr 1 0),(3,.ptr 2 0)] [.box 25 (fQ y46.2),.box 32 [I 0,S [],S [],I 0,I 0,S [],I 0,I 0,I 0,I 0,.d (.ro (KD.mk 0 []).n (KD.mk 0 []).xs)],.box 32 [I q51.Kind,S q51.Name,S q51.Op,I q51.Value.Kind,I q51.Value.Number,S q51.Value.Words,I q51.Value.Version.1,I q51.Value.Version.2.1,I q51.Value.Version.2.2.1,I q51.Value.Version.2.2.2,.d (.ro q51.Kids.n q51.Kids.xs)]] ?_ ?_
  ·refine gA 1 E<|Kjq h55 (fun i48 s49=>[(2,.ptr 1 0),(3,.ptr 2 0),(56,I y46.1),(57,I (i48:Int))]) (fun s49=>[.box 25 (fQ y46.2),.box 32 [I 0,S [],S [],I 0,I 0,S [],I 0,I 0,I 0,I 0,.d (.ro (KD.mk 0 []).n (KD.mk 0 []).xs)],.box 32 [I s49.Kind,S s49.Name,S s49.Op,I s49.Value.Kind,I s49.Value.Number,S s49.Value.Words,I s49.Value.Version.1,I s49.Value.Version.2.1,I s49.Value.Version.2.2.1,I s49.Value.Version.2.2.2,.d (.ro s49.Kids.n s49.Kids.xs)]]) ⟨⟨E,E,E,E,tV⟩,[],E,.inl E⟩ (fun i48 s49 y59 hlt hy57=>?_) (fun hge=>?_)
   ·exact gA 6 E<|Kht E (dT hlt)<|gA 6 E<|Kit hΓ (enc:=Lcx) [s49] E E E E E E E E E E E E Z<|Kfq hΓ (gs:=[I 2,S [],S [],I 0,I 0,S [],I 0,I 0,I 0,I 0,.d (.ro (pk Lcx [s49]).n (pk Lcx [s49]).xs)]) E E E E E E E<|Ksh hΓ E E E E E E E E Z<|Kjh [.box 25 (fQ y46.2),.box 32 [I 0,S [],S [],I 0,I 0,S [],I 0,I 0,I 0,I 0,.d (.ro (KD.mk 0 []).n (KD.mk 0 []).xs)],.box 32 [I 2,S [],S [],I 0,I 0,S [],I 0,I 0,I 0,I 0,.d (.ro (pk Lcx [s49]).n (pk Lcx [s49]).xs)]] E<|gO 7 E<|oSi hy57▸⟨⟨E,E,E,Kgv E (Kgu (by omega)),tV⟩,[],E,.inl E⟩
   exact gA 6 E<|Khu E (dF hge)<|gA 4 E<|⟨⟨E,E,tV⟩,[],E,.inl E⟩
  exact oSi h52▸⟨⟨E,E,tV⟩,[],E,.inl E⟩
 exact gA 4 E<|Ksh hΓ E E E E E E E E Z<|Kjh [.box 25 (fQ q43.1),.box 32 [I q43.2.Kind,S q43.2.Name,S q43.2.Op,I q43.2.Value.Kind,I q43.2.Value.Number,S q43.2.Value.Words,I q43.2.Value.Version.1,I q43.2.Value.Version.2.1,I q43.2.Value.Version.2.2.1,I q43.2.Value.Version.2.2.2,.d (.ro q43.2.Kids.n q43.2.Kids.xs)],.box 32 [I q43.2.Kind,S q43.2.Name,S q43.2.Op,I q43.2.Value.Kind,I q43.2.Value.Number,S q43.2.Value.Words,I q43.2.Value.Version.1,I q43.2.Value.Version.2.1,I q43.2.Value.Version.2.2.1,I q43.2.Value.Version.2.2.2,.d (.ro q43.2.Kids.n q43.2.Kids.xs)]] E<|gO 3 E<|oSi h44▸Kjm hΓ [_,_] (.inr E) E E E E (.inr ⟨HB.mk E,E⟩)
theorem Liu{s:Lcu}{many:Int}{r:(List Lcy)×Lcu}(h:Ldr s many=some r):EC Tryz.prog 14 [.ptr 0 0,I many] [.box 25 (fQ s)] fun g hp'=>g=.sl 1 r.1.length∧hp'=[.box 25 (fQ r.2),rO 83 10 Lcn r.1]:=by
 unfold Ldr at h
 refine QM Tryz.func14 E Z<|gA 2 E<|Kiw (t:=0) 83 10 E Z<|gO 4 E<|Kiw (t:=0) 83 10 E Z<|bK h fun y1 hy1 h2=>gO 5 E<|Kiy [0] (I y1.1) [.box 25 (fQ y1.2),rO 83 10 Lcn ([]:List Lcy),rO 83 10 Lcn ([]:List Lcy)] C (Lij hy1) E Z E E E E E E E E E E<|gO 10 E<|bK h2 fun q6 hq6 h7=>gK hq6 fun hb9 h10=>?_
 replace hb9:=of_decide_eq_true hb9
 refine Kls [(0,.ptr 0 0),(5,.sl 2 q6.2.1.length)] [.box 25 (fQ q6.1),rO 83 10 Lcn ([]:List Lcy),rO 83 10 Lcn q6.2.1] ?_ ?_
 ·refine gA 1 E<|Kjq h10 (fun i3 s4=>[(0,.ptr 0 0),(5,.sl 2 s4.2.1.length),(6,I s4.2.2),(14,I many),(15,I (i3:Int))]) (fun s4=>[.box 25 (fQ s4.1),rO 83 10 Lcn ([]:List Lcy),rO 83 10 Lcn s4.2.1]) ⟨⟨E,E,E,E,E,tV⟩,[],E,.inl E⟩ (fun i3 s4 y14 hlt hy12=>?_) (fun hge=>?_)
  ·refine gA 6 E<|Kht E (dT hlt)<|gA 7 E<|Kit hΓ (enc:=eS) [[110,97],[110,98]] E E E E E E E E E E E E Z<|gO 4 E<|bK hy12 fun q18 hq18 h19=>Kii 17 E fun hb21=>Kls [(0,.ptr 0 0),(5,.sl 2 q18.2.length),(6,I s4.2.2),(14,I many),(15,I (i3:Int))] [.box 25 (fQ q18.1),rO 83 10 Lcn ([]:List Lcy),rO 83 10 Lcn q18.2] ?_ ?_
   ·refine gA 1 E<|Kjo [[110,97],[110,98]] hq18 (fun i15 s16=>[(0,.ptr 0 0),(5,.sl 2 s16.2.length),(6,I s4.2.2),(14,I many),(15,I (i3:Int)),(17,.d (Sl eS [[110,97],[110,98]])),(18,I ([[110,97],[110,98]].length:Int)),(19,I (i15:Int))]) (fun s16=>[.box 25 (fQ s16.1),rO 83 10 Lcn ([]:List Lcy),rO 83 10 Lcn s16.2]) ⟨⟨E,E,E,E,E,E,E,E,tV⟩,[],E,.inl E⟩ (fun i15 x17 s16 y25 hx22 hlt hy23=>?_) (?_)
    ·refine gA 6 E<|Kht E (dT (Int.ofNat_lt.2 hlt))<|gA 6 E<|eo_o E (Kij hΓ (enc:=eS) (Kic hx22) E E E E E (fun _=>E))<|gO 6 E<|Kit hΓ (enc:=eS) [[100,105,115,107],[111,115],[118,101,114,115,105,111,110]] E E E E E E E E E E E E Z<|gO 4 E<|bK hy23 fun q29 hq29 h30=>Kii 23 E fun hb32=>Kls [(0,.ptr 0 0),(5,.sl 2 q29.2.length),(6,I s4.2.2),(14,I many),(15,I (i3:Int)),(17,.d (Sl eS [[110,97],[110,98]])),(18,I ([[110,97],[110,98]].length:Int)),(19,I (i15:Int))] [.box 25 (fQ q29.1),rO 83 10 Lcn ([]:List Lcy),rO 83 10 Lcn q29.2] ?_ ?_
     ·refine gA 1 E<|Kjo [[100,105,115,107],[111,115],[118,101,114,115,105,111,110]] hq29 (fun i26 s27=>[(0,.ptr 0 0),(5,.sl 2 s27.2.length),(6,I s4.2.2),(8,S x17),(14,I many),(15,I (i3:Int)),(17,.d (Sl eS [[110,97],[110,98]])),(18,I ([[110,97],[110,98]].length:Int)),(19,I (i15:Int)),(23,.d (Sl eS [[100,105,115,107],[111,115],[118,101,114,115,105,111,110]])),(24,I ([[100,105,115,107],[111,115],[118,101,114,115,105,111,110]].length:Int)),(25,I (i26:Int))]) (fun s27=>[.box 25 (fQ s27.1),rO 83 10 Lcn ([]:List Lcy),rO 83 10 Lcn s27.2]) ⟨⟨E,E,E,E,E,E,E,E,E,E,E,E,tV⟩,[],E,.inl E⟩ (fun i26 x28 s27 y36 hx33 hlt hy34=>?_) (?_)
      ·refine gA 6 E<|Kht E (dT (Int.ofNat_lt.2 hlt))<|gA 6 E<|eo_o E (Kij hΓ (enc:=eS) (Kic hx33) E E E E E (fun _=>E))<|bK hy34 fun y37 hy37 h38=>gO 8 E<|Kiy [0] (B y37.1) [.box 25 (fQ y37.2),rO 83 10 Lcn ([]:List Lcy),rO 83 10 Lcn s27.2] C (Lil hy37) E Z E E E E E E E E E E<|gO 3 E<|jC E h38 (fun h39=>?_) fun h40=>gA 7 E<|Kfq hΓ (gs:=[I s4.2.2,S x17,S x28,I 0,I 0,S [],I 0,I 0,I 0,I 0]) E E E E E E E<|Ksc hΓ E E E Z<|Ksh hΓ E E E E E E E E Z<|Kjh [.box 25 (fQ y37.2),rO 83 10 Lcn ([]:List Lcy),rO 83 10 Lcn s27.2,.box 83 [I s4.2.2,S x17,S x28,I 0,I 0,S [],I 0,I 0,I 0,I 0]] E<|bK h40 fun q41 hq41 h42=>gO 8 E<|Kls [(0,.ptr 0 0),(5,.sl 2 s27.2.length),(6,I s4.2.2),(8,S x17),(11,.ptr 3 0),(14,I many),(15,I (i3:Int)),(17,.d (Sl eS [[110,97],[110,98]])),(18,I ([[110,97],[110,98]].length:Int)),(19,I (i15:Int)),(23,.d (Sl eS [[100,105,115,107],[111,115],[118,101,114,115,105,111,110]])),(24,I ([[100,105,115,107],[111,115],[118,101,114,115,105,111,110]].length:Int)),(25,I (i26:Int))] [.box 25 (fQ q41.1),rO 83 10 Lcn ([]:List Lcy),rO 83 10 Lcn s27.2,.box 83 [I q41.2.At,S q41.2.Node,S q41.2.Name,I q41.2.Value.Kind,I q41.2.Value.Number,S q41.2.Value.Words,I q41.2.Value.Version.1,I q41.2.Value.Version.2.1,I q41.2.Value.Version.2.2.1,I q41.2.Value.Version.2.2.2]] ?_ ?_
       ·refine gA 8 E ?_
        cases h39
        exact⟨⟨E,E,E,E,E,E,E,E,E,E,E,Kgv E (Kgu (nLl hlt hb32)),tV⟩,[],E,.inl E⟩
       ·refine gA 7 E<|jC E hq41 (fun h43=>?_) fun h46=>gA 6 E<|jC E h46 (fun h47=>?_) fun h50=>?_
        ·exact bK h43 fun y44 hy44 h45=>gA 2 E<|Kiy [0] (I y44.1) [.box 25 (fQ y44.2),rO 83 10 Lcn ([]:List Lcy),rO 83 10 Lcn s27.2,.box 83 [I s4.2.2,S x17,S x28,I 0,I 0,S [],I 0,I 0,I 0,I 0]] C (Lij hy44) E Z E E E E E E E E E E<|Kfq hΓ (gs:=[I 3,I y44.1,S [],I 0,I 0,I 0,I 0]) E E E E E E E<|gO 1 E<|Ksh hΓ E E E E E E E E Z<|Kjh [.box 25 (fQ y44.2),rO 83 10 Lcn ([]:List Lcy),rO 83 10 Lcn s27.2,.box 83 [I s4.2.2,S x17,S x28,I 3,I y44.1,S [],I 0,I 0,I 0,I 0]] E<|gO 2 E<|oSi h45▸⟨⟨E,E,E,E,E,E,E,E,E,E,E,E,E,tV⟩,[],E,.inl E⟩
        ·exact gA 2 E<|Kit hΓ (enc:=eS) [[108,105,110,117,120],[108,105,110,117,120],[109,97,99]] E E E E E E E E E E E E Z<|bK h47 fun y48 hy48 h49=>Kiy [0] (S y48.1) [.box 25 (fQ y48.2),rO 83 10 Lcn ([]:List Lcy),rO 83 10 Lcn s27.2,.box 83 [I s4.2.2,S x17,S x28,I 0,I 0,S [],I 0,I 0,I 0,I 0]] C (Lim hy48) E Z E E E E E E E E E E<|Kfq hΓ (gs:=[I 2,I 0,S y48.1,I 0,I 0,I 0,I 0]) E E E E E E E<|gO 1 E<|Ksh hΓ E E E E E E E E Z<|Kjh [.box 25 (fQ y48.2),rO 83 10 Lcn ([]:List Lcy),rO 83 10 Lcn s27.2,.box 83 [I s4.2.2,S x17,S x28,I 2,I 0,S y48.1,I 0,I 0,I 0,I 0]] E<|gO 2 E<|oSi h49▸⟨⟨E,E,E,E,E,E,E,E,E,E,E,E,E,tV⟩,[],E,.inl E⟩
        exact gA 2 E<|Kit hΓ (enc:=(eN .i64)) [2,12] E E E E E E E E E E E E Z<|bK h50 fun y51 hy51 h52=>Kiy [0] (I y51.1) [.box 25 (fQ y51.2),rO 83 10 Lcn ([]:List Lcy),rO 83 10 Lcn s27.2,.box 83 [I s4.2.2,S x17,S x28,I 0,I 0,S [],I 0,I 0,I 0,I 0]] C (Lik hy51) E Z E E E E E E E E E E<|eo_o E (Kmn hΓ (gs:=[I 1,I y51.1,I 0,I 0]) E E E E E E)<|Kfq hΓ (gs:=[I 4,I 0,S [],I 1,I y51.1,I 0,I 0]) E E E E E E E<|gO 1 E<|Ksh hΓ E E E E E E E E Z<|Kjh [.box 25 (fQ y51.2),rO 83 10 Lcn ([]:List Lcy),rO 83 10 Lcn s27.2,.box 83 [I s4.2.2,S x17,S x28,I 4,I 0,S [],I 1,I y51.1,I 0,I 0]] E<|gO 2 E<|oSi h52▸⟨⟨E,E,E,E,E,E,E,E,E,E,E,E,E,tV⟩,[],E,.inl E⟩
       refine bK h42 fun y53 hy53 h54=>gA 5 E<|Kiy [0] (B y53.1) [.box 25 (fQ y53.2),rO 83 10 Lcn ([]:List Lcy),rO 83 10 Lcn s27.2,.box 83 [I q41.2.At,S q41.2.Node,S q41.2.Name,I q41.2.Value.Kind,I q41.2.Value.Number,S q41.2.Value.Words,I q41.2.Value.Version.1,I q41.2.Value.Version.2.1,I q41.2.Value.Version.2.2.1,I q41.2.Value.Version.2.2.2]] C (Lil hy53) E Z E E E E E E E E E E<|bK h54 fun q55 hq55 h56=>gO 2 E<|Kls [(0,.ptr 0 0),(5,.sl 2 s27.2.length),(6,I s4.2.2),(8,S x17),(11,.ptr 3 0),(14,I many),(15,I (i3:Int)),(17,.d (Sl eS [[110,97],[110,98]])),(18,I ([[110,97],[110,98]].length:Int)),(19,I (i15:Int)),(23,.d (Sl eS [[100,105,115,107],[111,115],[118,101,114,115,105,111,110]])),(24,I ([[100,105,115,107],[111,115],[118,101,114,115,105,111,110]].length:Int)),(25,I (i26:Int))] [.box 25 (fQ q55.1),rO 83 10 Lcn ([]:List Lcy),rO 83 10 Lcn s27.2,.box 83 [I q55.2.At,S q55.2.Node,S q55.2.Name,I q55.2.Value.Kind,I q55.2.Value.Number,S q55.2.Value.Words,I q55.2.Value.Version.1,I q55.2.Value.Version.2.1,I q55.2.Value.Version.2.2.1,I q55.2.Value.Version.2.2.2]] ?_ ?_
       ·refine jC E hq55 (fun h57=>?_) fun h60=>gA 1 E<|oSi h60▸⟨⟨E,E,E,E,E,E,E,E,E,E,E,E,E,tV⟩,[],E,.inl E⟩
        exact bK h57 fun y58 hy58 h59=>gA 2 E<|Kiy [0] (.agg [I y58.1.Kind,I y58.1.Number,S y58.1.Words,I y58.1.Version.1,I y58.1.Version.2.1,I y58.1.Version.2.2.1,I y58.1.Version.2.2.2]) [.box 25 (fQ y58.2),rO 83 10 Lcn ([]:List Lcy),rO 83 10 Lcn s27.2,.box 83 [I q41.2.At,S q41.2.Node,S q41.2.Name,I q41.2.Value.Kind,I q41.2.Value.Number,S q41.2.Value.Words,I q41.2.Value.Version.1,I q41.2.Value.Version.2.1,I q41.2.Value.Version.2.2.1,I q41.2.Value.Version.2.2.2]] C (Lir hy58) E Z E E E E E E E E E E<|gO 1 E<|Ksh hΓ E E E E E E E E Z<|Kjh [.box 25 (fQ y58.2),rO 83 10 Lcn ([]:List Lcy),rO 83 10 Lcn s27.2,.box 83 [I q41.2.At,S q41.2.Node,S q41.2.Name,I y58.1.Kind,I y58.1.Number,S y58.1.Words,I y58.1.Version.1,I y58.1.Version.2.1,I y58.1.Version.2.2.1,I y58.1.Version.2.2.2]] E<|gO 1 E<|oSi h59▸⟨⟨E,E,E,E,E,E,E,E,E,E,E,E,E,tV⟩,[],E,.inl E⟩
       refine gA 4 E<|Kit hΓ (enc:=Lcn) [q55.2] E E E E E E E E E E E E Z<|bK h56 fun y61 hy61 h62=>Kji hΓ (enc:=Lcn) hy61 E E E E E E E E E (fun _=>E) E E E E<|gO 8 E ?_
       cases h62
       exact⟨⟨E,E,E,E,E,E,E,E,E,E,E,Kgv E (Kgu (nLl hlt hb32)),tV⟩,[_],E,.inr ⟨HB.mk E,FB.mk E,Z⟩⟩
      exact gA 6 E<|Khu E (dF (Int.lt_irrefl _))<|gA 4 E<|⟨⟨E,E,E,E,E,E,E,E,tV⟩,[],E,.inl E⟩
     refine gA 6 E ?_
     cases h30
     exact⟨⟨E,E,E,E,E,E,E,Kgv E (Kgu (nLl hlt hb21)),tV⟩,[],E,.inl E⟩
    exact gA 6 E<|Khu E (dF (Int.lt_irrefl _))<|gA 4 E<|⟨⟨E,E,E,E,E,tV⟩,[],E,.inl E⟩
   exact gA 4 E<|Kit hΓ (enc:=(eN .i64)) [1,5,20,60] E E E E E E E E E E E E Z<|bK h19 fun y63 hy63 h64=>Kiy [0] (I y63.1) [.box 25 (fQ y63.2),rO 83 10 Lcn ([]:List Lcy),rO 83 10 Lcn q18.2] C (Lik hy63) E Z E E E E E E E E E E<|gO 9 E<|oSi h64▸⟨⟨E,E,E,E,Kgv E (Kgu (by omega)),tV⟩,[],E,.inl E⟩
  exact gA 6 E<|Khu E (dF hge)<|gA 4 E<|⟨⟨E,E,tV⟩,[],E,.inl E⟩
 refine bK h7 fun y65 hy65 h66=>gA 5 E<|Kiy [0] (B y65.1) [.box 25 (fQ y65.2),rO 83 10 Lcn ([]:List Lcy),rO 83 10 Lcn q6.2.1] C (Lil hy65) E Z E E E E E E E E E E<|bK h66 fun q67 hq67 h68=>gO 2 E<|Kls [(5,.sl 2 q67.2.length)] [.box 25 (fQ q67.1),rO 83 10 Lcn ([]:List Lcy),rO 83 10 Lcn q67.2] ?_ ?_
 ·refine jC E hq67 (fun h69=>?_) fun h80=>gA 1 E<|oSi h80▸⟨⟨E,tV⟩,[],E,.inl E⟩
  exact bK h69 fun y70 hy70 h71=>gA 3 E<|Kiy [0] (I y70.1) [.box 25 (fQ y70.2),rO 83 10 Lcn ([]:List Lcy),rO 83 10 Lcn q6.2.1] C (Liq hy70) E Z E E E E E E E E E E<|gO 1 E<|Kit hΓ (enc:=eS) [[],[110,97]] E E E E E E E E E E E E Z<|bK h71 fun y72 hy72 h73=>Kiy [0] (S y72.1) [.box 25 (fQ y72.2),rO 83 10 Lcn ([]:List Lcy),rO 83 10 Lcn q6.2.1] C (Lim hy72) E Z E E E E E E E E E E<|gO 1 E<|Kit hΓ (enc:=eS) [[111,115],[65]] E E E E E E E E E E E E Z<|bK h73 fun y74 hy74 h75=>Kiy [0] (S y74.1) [.box 25 (fQ y74.2),rO 83 10 Lcn ([]:List Lcy),rO 83 10 Lcn q6.2.1] C (Lim hy74) E Z E E E E E E E E E E<|bK h75 fun y76 hy76 h77=>gO 1 E<|Kiy [0] (.agg [I y76.1.Kind,I y76.1.Number,S y76.1.Words,I y76.1.Version.1,I y76.1.Version.2.1,I y76.1.Version.2.2.1,I y76.1.Version.2.2.2]) [.box 25 (fQ y76.2),rO 83 10 Lcn ([]:List Lcy),rO 83 10 Lcn q6.2.1] C (Lir hy76) E Z E E E E E E E E E E<|Kfq hΓ (gs:=[I y70.1,S y72.1,S y74.1,I y76.1.Kind,I y76.1.Number,S y76.1.Words,I y76.1.Version.1,I y76.1.Version.2.1,I y76.1.Version.2.2.1,I y76.1.Version.2.2.2]) E E E E E E E<|Kit hΓ (enc:=Lcn) [(⟨y70.1,y72.1,y74.1,y76.1⟩:Lcy)] E E E E E E E E E E E E Z<|bK h77 fun y78 hy78 h79=>Kji hΓ (enc:=Lcn) hy78 E E E E E E E E E (fun _=>E) E E E E<|gO 2 E<|oSi h79▸⟨⟨E,tV⟩,[],E,.inl E⟩
 exact gA 8 E<|Kni 1 [.box 25 (fQ q67.1),.dead,rO 83 10 Lcn q67.2] E Z<|Klq 2 1 [.box 25 (fQ q67.1),rO 83 10 Lcn q67.2,.dead] E E E E E E<|Kln<|oSi h68▸Kjm hΓ [_] (.inr E) E E E E (.inr ⟨HB.mk E,E⟩)
theorem Liv{s:Lcu}{r:Int×Lcu}(h:Lds s=some r):EC Tryz.prog 16 [.ptr 0 0] [.box 25 (fQ s)] fun g hp'=>g=I r.1∧hp'=[.box 25 (fQ r.2)]:=by
 unfold Lds at h
 exact QN Tryz.func16 E Z<|gA 9 E<|Kit hΓ (enc:=(eN .i64)) [20,0,345686401] E E E E E E E E E E E E Z<|bK h fun y1 hy1 h2=>Kiy [0] (I y1.1) [.box 25 (fQ y1.2)] C (Lik hy1) E Z E E E E E E E E E E<|Kit hΓ (enc:=(eN .i64)) [1,20,30,50,50,100,345686400,y1.1] E E E E E E E E E E E E Z<|bK h2 fun y3 hy3 h4=>Kiy [0] (I y3.1) [.box 25 (fQ y3.2)] C (Lik hy3) E Z E E E E E E E E E E<|gO 4 E<|oSi h4▸Kjm hΓ [] (.inr E) E E E E (.inl E)
theorem Liw{s:Lcu}{r:Int×Lcu}(h:Ldt s=some r):EC Tryz.prog 18 [.ptr 0 0] [.box 25 (fQ s)] fun g hp'=>g=I r.1∧hp'=[.box 25 (fQ r.2)]:=by
 unfold Ldt at h
 exact QN Tryz.func18 E Z<|bK h fun y1 hy1 h2=>gA 9 E<|Kiy [0] (I y1.1) [.box 25 (fQ y1.2)] C (Lij hy1) E Z E E E E E E E E E E<|bK h2 fun y3 hy3 h4=>gO 1 E<|Kiy [0] (I y3.1) [.box 25 (fQ y3.2)] C (Lij hy3) E Z E E E E E E E E E E<|gO 1 E<|Kit hΓ (enc:=(eN .i64)) [345686399,-1,345686400] E E E E E E E E E E E E Z<|bK h4 fun y5 hy5 h6=>Kiy [0] (I y5.1) [.box 25 (fQ y5.2)] C (Lik hy5) E Z E E E E E E E E E E<|Kit hΓ (enc:=(eN .i64)) [0,5,20,40,60,80,120,y1.1,y3.1,y5.1] E E E E E E E E E E E E Z<|bK h6 fun y7 hy7 h8=>Kiy [0] (I y7.1) [.box 25 (fQ y7.2)] C (Lik hy7) E Z E E E E E E E E E E<|gO 4 E<|oSi h8▸Kjm hΓ [] (.inr E) E E E E (.inl E)
theorem Lix{s:Lcu}{r:Lcz×Lcu}(h:Ldu s=some r):EC Tryz.prog 19 [.ptr 0 0] [.box 25 (fQ s)] fun g hp'=>g=.agg [I r.1.From,I r.1.To]∧hp'=[.box 25 (fQ r.2)]:=by
 unfold Ldu at h
 refine QN Tryz.func19 E Z<|gA 2 E<|Ksc hΓ E E E Z<|gO 5 E<|Kit hΓ (enc:=(eN .i64)) [0,5,30,100] E E E E E E E E E E E E Z<|bK h fun y1 hy1 h2=>Kiy [0] (I y1.1) [.box 25 (fQ y1.2),.box 46 [I 0,I 0]] C (Lik hy1) E Z E E E E E E E E E E<|gO 1 E<|Kit hΓ (enc:=(eN .i64)) [30,100,250,1000,345686400] E E E E E E E E E E E E Z<|bK h2 fun y3 hy3 h4=>Kiy [0] (I y3.1) [.box 25 (fQ y3.2),.box 46 [I 0,I 0]] C (Lik hy3) E Z E E E E E E E E E E<|Kfq hΓ (gs:=[I y1.1,I y3.1]) E E E E E E E<|Ksc hΓ E E E Z<|Ksh hΓ E E E E E E E E Z<|Kjh [.box 25 (fQ y3.2),.box 46 [I 0,I 0],.box 46 [I y1.1,I y3.1]] E<|bK h4 fun y5 hy5 h6=>gO 6 E<|Kiy [0] (B y5.1) [.box 25 (fQ y5.2),.box 46 [I 0,I 0],.box 46 [I y1.1,I y3.1]] C (Lil hy5) E Z E E E E E E E E E E<|bK h6 fun q7 hq7 h8=>gO 2 E<|Kls [(2,.ptr 1 0),(3,.ptr 2 0)] [.box 25 (fQ q7.1),.box 46 [I 0,I 0],.box 46 [I q7.2.From,I q7.2.To]] ?_ ?_
 ·refine jC E hq7 (fun h9=>?_) fun h14=>gA 1 E<|oSi h14▸⟨⟨E,E,tV⟩,[],E,.inl E⟩
  exact gA 2 E<|Kit hΓ (enc:=(eN .i64)) [-1,10] E E E E E E E E E E E E Z<|bK h9 fun y10 hy10 h11=>Kiy [0] (I y10.1) [.box 25 (fQ y10.2),.box 46 [I 0,I 0],.box 46 [I y1.1,I y3.1]] C (Lik hy10) E Z E E E E E E E E E E<|gO 1 E<|Kit hΓ (enc:=(eN .i64)) [9,345686401] E E E E E E E E E E E E Z<|bK h11 fun y12 hy12 h13=>Kiy [0] (I y12.1) [.box 25 (fQ y12.2),.box 46 [I 0,I 0],.box 46 [I y1.1,I y3.1]] C (Lik hy12) E Z E E E E E E E E E E<|Kfq hΓ (gs:=[I y10.1,I y12.1]) E E E E E E E<|Ksh hΓ E E E E E E E E Z<|Kjh [.box 25 (fQ y12.2),.box 46 [I 0,I 0],.box 46 [I y10.1,I y12.1]] E<|gO 1 E<|oSi h13▸⟨⟨E,E,tV⟩,[],E,.inl E⟩
 exact gA 4 E<|Ksh hΓ E E E E E E E E Z<|Kjh [.box 25 (fQ q7.1),.box 46 [I q7.2.From,I q7.2.To],.box 46 [I q7.2.From,I q7.2.To]] E<|gO 3 E<|oSi h8▸Kjm hΓ [_,_] (.inr E) E E E E (.inr ⟨HB.mk E,E⟩)
theorem Liy{k:Nat}{c:Lcw}{r:Int×Int}(h:Ldv k c=some r):Pure Tryz.prog 164 [.agg [I c.Kind,S c.Name,S c.Op,I c.Value.Kind,I c.Value.Number,S c.Value.Words,I c.Value.Version.1,I c.Value.Version.2.1,I c.Value.Version.2.2.1,I c.Value.Version.2.2.2,.d (.ro c.Kids.n c.Kids.xs)]] (.tup [I r.1,I r.2]):=by
 induction k generalizing c r with
 | zero=>unfold Ldv at h;cases h
 | succ k ih0=>
  have ih:∀ {c:Lcw} {r:Int×Int},Ldv k c=some r→Pure Tryz.prog 164 [.agg [I c.Kind,S c.Name,S c.Op,I c.Value.Kind,I c.Value.Number,S c.Value.Words,I c.Value.Version.1,I c.Value.Version.2.1,I c.Value.Version.2.2.1,I c.Value.Version.2.2.2,.d (.ro c.Kids.n c.Kids.xs)]] (.tup [I r.1,I r.2]):=by intro c r h;first | exact ih0 h | exact ih0 _ _ h
  refine Pure.enter (Fr.of 0 _) Tryz.func164 E (Fr.of_ok _) E E ?_
  refine Khr ?_
  unfold Ldv at h
  refine gA 2 E ?_
  refine Ksd E E E E Z ?_
  obtain⟨q1,hq1,h2⟩:=Khz h
  refine gO 12 E ?_
  refine Kls [(1,.ptr 0 0),(2,I q1),(3,I 0)] [.box 32 [I c.Kind,S c.Name,S c.Op,I c.Value.Kind,I c.Value.Number,S c.Value.Words,I c.Value.Version.1,I c.Value.Version.2.1,I c.Value.Version.2.2.1,I c.Value.Version.2.2.2,.d (.ro c.Kids.n c.Kids.xs)]] ?_ ?_
  ·refine Khs E (fun hb=>?_) (fun hb=>?_)
   ·have h3:=cT hq1 hb
    refine gA 3 E ?_
    obtain rfl:=oSi h3
    exact⟨⟨E,E,E,tV⟩,[],E,.inl E⟩
   have h4:=cF hq1 hb
   refine gA 1 E ?_
   obtain rfl:=oSi h4
   exact⟨⟨E,E,E,tV⟩,[],E,.inl E⟩
  obtain⟨l5,hl5,h6⟩:=Khz h2
  refine gA 5 E ?_
  refine eo_o E (Knu (Krq hΓ (g:=.d (.ro c.Kids.n c.Kids.xs)) E) (G.Le.unk Lht hl5)) ?_
  refine gO 4 E ?_
  obtain⟨q10,hq10,h11⟩:=Khz h6
  refine Kii 12 E fun hb13=>?_
  refine Kls [(2,I q10.1),(3,I q10.2)] [.box 32 [I c.Kind,S c.Name,S c.Op,I c.Value.Kind,I c.Value.Number,S c.Value.Words,I c.Value.Version.1,I c.Value.Version.2.1,I c.Value.Version.2.2.1,I c.Value.Version.2.2.2,.d (.ro c.Kids.n c.Kids.xs)]] ?_ ?_
  ·refine gA 1 E ?_
   refine Kjo l5 hq10 (fun i7 s8=>[(2,I s8.1),(3,I s8.2),(12,.d (Sl Lcx l5)),(13,I (l5.length:Int)),(14,I (i7:Int))]) (fun s8=>[.box 32 [I c.Kind,S c.Name,S c.Op,I c.Value.Kind,I c.Value.Number,S c.Value.Words,I c.Value.Version.1,I c.Value.Version.2.1,I c.Value.Version.2.2.1,I c.Value.Version.2.2.2,.d (.ro c.Kids.n c.Kids.xs)]]) ⟨⟨E,E,E,E,E,tV⟩,[],E,.inl E⟩ (fun i7 x9 s8 y17 hx14 hlt hy15=>?_) (?_)
   ·refine gA 6 E ?_
    refine Kht E (dT (Int.ofNat_lt.2 hlt)) ?_
    refine gA 6 E ?_
    refine eo_o E (Kij hΓ (enc:=Lcx) (Kic hx14) E E E E E (fun _=>E)) ?_
    refine gO 1 E ?_
    refine Ksc hΓ E E E Z ?_
    refine Ksh hΓ E E E E E E E E Z ?_
    refine Kjh [.box 32 [I c.Kind,S c.Name,S c.Op,I c.Value.Kind,I c.Value.Number,S c.Value.Words,I c.Value.Version.1,I c.Value.Version.2.1,I c.Value.Version.2.2.1,I c.Value.Version.2.2.2,.d (.ro c.Kids.n c.Kids.xs)],.box 32 [I x9.Kind,S x9.Name,S x9.Op,I x9.Value.Kind,I x9.Value.Number,S x9.Value.Words,I x9.Value.Version.1,I x9.Value.Version.2.1,I x9.Value.Version.2.2.1,I x9.Value.Version.2.2.2,.d (.ro x9.Kids.n x9.Kids.xs)]] E ?_
    obtain⟨y18,hy18,h19⟩:=Khz hy15
    refine gO 5 E ?_
    refine Kiz C (ih hy18) E Z E E E E E ?_
    refine gO 23 E ?_
    obtain rfl:=oSi h19
    exact⟨⟨E,E,E,E,Kgv E (Kgu (nLl hlt hb13)),tV⟩,[_],E,.inr ⟨HB.mk E,FB.mk E,Z⟩⟩
   refine gA 6 E ?_
   refine Khu E (dF (Int.lt_irrefl _)) ?_
   refine gA 4 E ?_
   exact⟨⟨E,E,tV⟩,[],E,.inl E⟩
  refine gA 11 E ?_
  obtain rfl:=oSi h11
  exact gP E E
theorem Liz{n:Int}{low:Int}{high:Int}{r:Bool}(h:Ldw n low high=some r):Pure Tryz.prog 94 [I n,I low,I high] (B r):=by
 unfold Ldw at h
 refine QP Tryz.func94 E E E<|gA 11 E<|Khy 4 [(6,B false),(14,B ((decide ((n:Int)<low))||(decide ((n:Int)>high))))] [] ?_ ?_
 ·refine Kqw E E (fun hb=>?_) (fun hb=>?_)
  ·exact gO 5 E<|⟨⟨E,Kgw E (or_t hb),tV⟩,[],E,.inl E⟩
  exact gO 5 E<|⟨⟨E,Kgw E (or_f hb),tV⟩,[],E,.inl E⟩
 exact gO 4 E<|oSi h▸gP E E
theorem Lja{v_k:Lcw}{x:Lcw}{r:Bool}(h:Ldx v_k x=some r):EC Tryz.prog 284 [.agg [I v_k.Kind,S v_k.Name,S v_k.Op,I v_k.Value.Kind,I v_k.Value.Number,S v_k.Value.Words,I v_k.Value.Version.1,I v_k.Value.Version.2.1,I v_k.Value.Version.2.2.1,I v_k.Value.Version.2.2.2,.d (.ro v_k.Kids.n v_k.Kids.xs)],.ptr 0 0] [.box 32 [I x.Kind,S x.Name,S x.Op,I x.Value.Kind,I x.Value.Number,S x.Value.Words,I x.Value.Version.1,I x.Value.Version.2.1,I x.Value.Version.2.2.1,I x.Value.Version.2.2.2,.d (.ro x.Kids.n x.Kids.xs)]] fun g hp'=>g=B r∧hp'=[.box 32 [I x.Kind,S x.Name,S x.Op,I x.Value.Kind,I x.Value.Number,S x.Value.Words,I x.Value.Version.1,I x.Value.Version.2.1,I x.Value.Version.2.2.1,I x.Value.Version.2.2.2,.d (.ro x.Kids.n x.Kids.xs)]]:=by
 unfold Ldx at h
 exact QN Tryz.func284 E Z<|gA 2 E<|Ksd E E E E Z<|gO 14 E<|oSi h▸Kjm hΓ [_] (.inr E) E E E E (.inr ⟨HB.mk E,E⟩)
theorem Ljb{s:List Lcw}{f:Lcw}{r:Int}(h:Ldy s f=some r):EC Tryz.prog 297 [.d (Sl Lcx s),.fn (.func 284) [] [.ptr 0 0]] [.box 32 [I f.Kind,S f.Name,S f.Op,I f.Value.Kind,I f.Value.Number,S f.Value.Words,I f.Value.Version.1,I f.Value.Version.2.1,I f.Value.Version.2.2.1,I f.Value.Version.2.2.2,.d (.ro f.Kids.n f.Kids.xs)]] fun g hp'=>g=I r∧hp'=[.box 32 [I f.Kind,S f.Name,S f.Op,I f.Value.Kind,I f.Value.Number,S f.Value.Words,I f.Value.Version.1,I f.Value.Version.2.1,I f.Value.Version.2.2.1,I f.Value.Version.2.2.2,.d (.ro f.Kids.n f.Kids.xs)]]:=by
 unfold Ldy at h
 refine QN Tryz.func297 E Z<|gA 13 E<|bK h fun q4 hq4 h5=>Kii 0 E fun hb7=>Klr (R:=fun a6=>q4=.go a6) (fun a6=>[]) (fun a6=>[.box 32 [I f.Kind,S f.Name,S f.Op,I f.Value.Kind,I f.Value.Number,S f.Value.Words,I f.Value.Version.1,I f.Value.Version.2.1,I f.Value.Version.2.2.1,I f.Value.Version.2.2.2,.d (.ro f.Kids.n f.Kids.xs)]]) ?_ ?_
 ·refine gA 1 E<|Kih s hq4 (fun i1 s2=>[(0,.d (Sl Lcx s)),(1,.fn (.func 284) [] [.ptr 0 0]),(7,I (s.length:Int)),(8,I (i1:Int))]) (fun s2=>[.box 32 [I f.Kind,S f.Name,S f.Op,I f.Value.Kind,I f.Value.Number,S f.Value.Words,I f.Value.Version.1,I f.Value.Version.2.1,I f.Value.Version.2.2.1,I f.Value.Version.2.2.2,.d (.ro f.Kids.n f.Kids.xs)]]) ⟨⟨E,E,E,E,tV⟩,[],E,.inl E⟩ (fun i1 x3 s2 y11 hx8 hlt hy9 hout10=>?_) (fun s2 hgo=>?_)
  ·refine gA 6 E<|Kht E (dT (Int.ofNat_lt.2 hlt))<|gA 15 E<|eo_o E (Kij hΓ (enc:=Lcx) (Kic hx8) E E E E E (fun _=>E))<|bK hy9 fun y12 hy12 h13=>gO 1 E<|Kiy [0] (B y12) [.box 32 [I f.Kind,S f.Name,S f.Op,I f.Value.Kind,I f.Value.Number,S f.Value.Words,I f.Value.Version.1,I f.Value.Version.2.1,I f.Value.Version.2.2.1,I f.Value.Version.2.2.2,.d (.ro f.Kids.n f.Kids.xs)]] C (Lja hy12) E Z E E E E E E E E E E<|gO 2 E<|jC E h13 (fun h14=>?_) fun h17=>gA 7 E ?_
   ·refine gA 9 E<|bK h14 fun v15 hv15 h16=>?_
    cases h16
    obtain rfl:=hout10 _ rfl
    cases h5
    exact gA 4 E<|oSi hv15▸Kjm hΓ [] (.inr E) E E E E (.inl E)
   cases h17
   exact⟨_,E,⟨⟨E,E,E,Kgv E (Kgu (nLl hlt hb7)),tV⟩,[],E,.inl E⟩⟩
  subst hgo
  exact gA 6 E<|Khu E (dF (Int.lt_irrefl _))<|gA 4 E<|⟨_,E,⟨tV,[],E,.inl E⟩⟩
 intro a6 ha
 subst ha
 replace h5:=Kll h5
 exact gA 7 E<|oSi h5▸Kjm hΓ [] (.inr E) E E E E (.inl E)
theorem Ljc{s:List Lcw}{f:Lcw}{r:Bool}(h:Ldz s f=some r):EC Tryz.prog 233 [.d (Sl Lcx s),.fn (.func 284) [] [.ptr 0 0]] [.box 32 [I f.Kind,S f.Name,S f.Op,I f.Value.Kind,I f.Value.Number,S f.Value.Words,I f.Value.Version.1,I f.Value.Version.2.1,I f.Value.Version.2.2.1,I f.Value.Version.2.2.2,.d (.ro f.Kids.n f.Kids.xs)]] fun g hp'=>g=B r∧hp'=[.box 32 [I f.Kind,S f.Name,S f.Op,I f.Value.Kind,I f.Value.Number,S f.Value.Words,I f.Value.Version.1,I f.Value.Version.2.1,I f.Value.Version.2.2.1,I f.Value.Version.2.2.2,.d (.ro f.Kids.n f.Kids.xs)]]:=by
 unfold Ldz at h
 exact QN Tryz.func233 E Z<|bK h fun y1 hy1 h2=>gA 9 E<|Kiy [0] (I y1) [.box 32 [I f.Kind,S f.Name,S f.Op,I f.Value.Kind,I f.Value.Number,S f.Value.Words,I f.Value.Version.1,I f.Value.Version.2.1,I f.Value.Version.2.2.1,I f.Value.Version.2.2.2,.d (.ro f.Kids.n f.Kids.xs)]] C (Ljb hy1) E Z E E E E E E E E E E<|gO 5 E<|oSi h2▸Kjm hΓ [] (.inr E) E E E E (.inl E)
theorem Ljd{c:Lcw}{r:Bool}(h:Lea c=some r):Pure Tryz.prog 219 [.agg [I c.Kind,S c.Name,S c.Op,I c.Value.Kind,I c.Value.Number,S c.Value.Words,I c.Value.Version.1,I c.Value.Version.2.1,I c.Value.Version.2.2.1,I c.Value.Version.2.2.2,.d (.ro c.Kids.n c.Kids.xs)]] (B r):=by
 unfold Lea at h
 refine QP Tryz.func219 E E E<|gA 2 E<|Ksd E E E E Z<|bK h fun l1 hl1 h2=>gO 6 E<|eo_o E (Knu (Krq hΓ (g:=.d (.ro c.Kids.n c.Kids.xs)) E) (G.Le.unk Lht hl1))<|bK h2 fun q3 hq3 h4=>gO 11 E<|Klu (q:=q3) (fun a5=>[(1,.ptr 0 0)]) (fun a5=>[.box 32 [I c.Kind,S c.Name,S c.Op,I c.Value.Kind,I c.Value.Number,S c.Value.Words,I c.Value.Version.1,I c.Value.Version.2.1,I c.Value.Version.2.2.1,I c.Value.Version.2.2.2,.d (.ro c.Kids.n c.Kids.xs)]]) ?_ ?_
 ·refine gA 7 E<|jC E hq3 (fun h6=>?_) fun h9=>gA 6 E<|jC E h9 (fun h10=>?_) fun h15=>?_
  ·refine gA 9 E<|bK h6 fun v7 hv7 h8=>?_
   cases h8
   cases h4
   exact gA 2 E<|oSi hv7▸gP E E
  ·refine gA 6 E<|jC E h10 (fun h11=>?_) fun h14=>gA 2 E<|oSi h14▸⟨_,E,⟨⟨E,tV⟩,[],E,.inl E⟩⟩
   refine gA 7 E<|bK h11 fun v12 hv12 h13=>?_
   cases h13
   cases h4
   exact gA 2 E<|oSi hv12▸gP E E
  refine gA 5 E<|bK h15 fun q16 hq16 h17=>Khy 5 [(1,.ptr 0 0),(16,B q16)] [.box 32 [I c.Kind,S c.Name,S c.Op,I c.Value.Kind,I c.Value.Number,S c.Value.Words,I c.Value.Version.1,I c.Value.Version.2.1,I c.Value.Version.2.2.1,I c.Value.Version.2.2.2,.d (.ro c.Kids.n c.Kids.xs)]] ?_ ?_
  ·refine Kqw E E (fun hb=>?_) (fun hb=>?_)
   ·have h18:=cT hq16 hb
    exact gO 6 E<|oSi h18▸⟨⟨E,E,tV⟩,[],E,.inl E⟩
   have h19:=cF hq16 hb
   exact bK h19 fun l20 hl20 h21=>gO 1 E<|Kqu E<|eo_o E (Knu (Krq hΓ (g:=.d (.ro c.Kids.n c.Kids.xs)) E) (G.Le.unk Lht hl20))<|bK h21 fun y22 hy22 h23=>gO 1 E<|Kqu E<|Kiy [0] (B y22) [.box 32 [I c.Kind,S c.Name,S c.Op,I c.Value.Kind,I c.Value.Number,S c.Value.Words,I c.Value.Version.1,I c.Value.Version.2.1,I c.Value.Version.2.2.1,I c.Value.Version.2.2.2,.d (.ro c.Kids.n c.Kids.xs)]] C (Ljc hy22) E Z E E E E E E E E E E<|gO 2 E<|oSi h23▸⟨⟨E,E,tV⟩,[],E,.inl E⟩
  refine gO 2 E<|jC E h17 (fun h24=>?_) fun h27=>gA 2 E<|oSi h27▸⟨_,E,⟨⟨E,tV⟩,[],E,.inl E⟩⟩
  refine gA 7 E<|bK h24 fun v25 hv25 h26=>?_
  cases h26
  cases h4
  exact gA 2 E<|oSi hv25▸gP E E
 intro a5 ha
 subst ha
 replace h4:=Klk h4
 refine gA 7 E<|Khy 4 [(1,.ptr 0 0),(32,B (((c.Name:Str)==[])&&((c.Op:Str)==[])))] [.box 32 [I c.Kind,S c.Name,S c.Op,I c.Value.Kind,I c.Value.Number,S c.Value.Words,I c.Value.Version.1,I c.Value.Version.2.1,I c.Value.Version.2.2.1,I c.Value.Version.2.2.2,.d (.ro c.Kids.n c.Kids.xs)]] ?_ ?_
 ·refine Kqw E E (fun hb=>?_) (fun hb=>?_)
  ·exact gO 5 E<|⟨⟨E,Kgw E (Kjs hb),tV⟩,[],E,.inl E⟩
  exact gO 5 E<|⟨⟨E,Kgw E (Kjt hb),tV⟩,[],E,.inl E⟩
 refine gO 1 E<|Khy 5 [(38,B ((((c.Name:Str)==[])&&((c.Op:Str)==[]))&&(((c.Value.Kind:Int)==0)&&(((c.Value.Number:Int)==0)&&(((c.Value.Words:Str)==[])&&(decide (([c.Value.Version.1,c.Value.Version.2.1,c.Value.Version.2.2.1,c.Value.Version.2.2.2]:List Int)=[0,0,0,0])&&true))))))] [.box 32 [I c.Kind,S c.Name,S c.Op,I c.Value.Kind,I c.Value.Number,S c.Value.Words,I c.Value.Version.1,I c.Value.Version.2.1,I c.Value.Version.2.2.1,I c.Value.Version.2.2.2,.d (.ro c.Kids.n c.Kids.xs)]] ?_ ?_
 ·refine Kqw E E (fun hb=>?_) (fun hb=>?_)
  ·exact gO 2 E<|Kqu E<|Kfq hΓ (gs:=[I 0,I 0,S [],I 0,I 0,I 0,I 0]) E E E E E E E<|Kqu E<|eo_o E (Kph hΓ [29] (b:=(((c.Value.Kind:Int)==0)&&(((c.Value.Number:Int)==0)&&(((c.Value.Words:Str)==[])&&(decide (([c.Value.Version.1,c.Value.Version.2.1,c.Value.Version.2.2.1,c.Value.Version.2.2.2]:List Int)=[0,0,0,0])&&true))))) (by kernel_rfl) (by kernel_rfl) E E E)<|gO 2 E<|⟨⟨Kgw E (Kjs hb),tV⟩,[],E,.inl E⟩
  exact gO 6 E<|⟨⟨Kgw E (Kjt hb),tV⟩,[],E,.inl E⟩
 exact gO 4 E<|oSi h4▸gP E E
theorem Lje{k:Nat}{s:Str}{r:Bool}(h:Leb k s=some r):Pure Tryz.prog 116 [S s] (B r):=by
 unfold Leb at h
 refine QP Tryz.func116 E E E<|gA 11 E<|bK h fun q4 hq4 h5=>Klr (R:=fun a6=>q4=.inl a6) (fun a6=>[(0,S s)]) (fun a6=>[]) ?_ ?_
 ·refine gA 1 E<|Kif hq4 (fun s2=>[(0,S s),(3,I s2)]) (fun s2=>[]) ⟨⟨E,E,tV⟩,[],E,.inl E⟩ (fun s2 y10 hy8 hout9=>?_)
  refine gA 9 E<|Khs E (fun hb=>?_) (fun hb=>?_)
  ·have h11:=cT hy8 hb
   refine bK h11 fun c12 hc12 h13=>gA 8 E<|eo_o E (Kik hΓ hc12 E E E E)<|gO 8 E<|Khy 3 [(0,S s),(3,I s2),(4,.d (.v (.int .u8 (c12.toNat:Int)))),(19,B ((decide (((c12.toNat:Int):Int)≥97))&&(decide (((c12.toNat:Int):Int)≤122))))] [] ?_ ?_
   ·refine Kqw E E (fun hb=>?_) (fun hb=>?_)
    ·exact gO 4 E<|⟨⟨E,E,E,Kgw E (Kjs hb),tV⟩,[],E,.inl E⟩
    exact gO 4 E<|⟨⟨E,E,E,Kgw E (Kjt hb),tV⟩,[],E,.inl E⟩
   refine gO 1 E<|Khy 19 [(0,S s),(3,I s2),(39,B (((decide (((c12.toNat:Int):Int)≥97))&&(decide (((c12.toNat:Int):Int)≤122)))||((decide ((s2:Int)>0))&&((((decide (((c12.toNat:Int):Int)≥48))&&(decide (((c12.toNat:Int):Int)≤57)))||(((c12.toNat:Int):Int)==45))||(((c12.toNat:Int):Int)==95)))))] [] ?_ ?_
   ·refine Kqw E E (fun hb=>?_) (fun hb=>?_)
    ·exact gO 20 E<|⟨⟨E,E,Kgw E (or_t hb),tV⟩,[],E,.inl E⟩
    refine gO 3 E<|Khy 15 [(0,S s),(3,I s2),(20,B false),(38,B ((decide ((s2:Int)>0))&&((((decide (((c12.toNat:Int):Int)≥48))&&(decide (((c12.toNat:Int):Int)≤57)))||(((c12.toNat:Int):Int)==45))||(((c12.toNat:Int):Int)==95))))] [] ?_ ?_
    ·refine Kqw E E (fun hb=>?_) (fun hb=>?_)
     ·refine gO 3 E<|Khy 3 [(0,S s),(3,I s2),(4,.d (.v (.int .u8 (c12.toNat:Int)))),(20,B false),(23,B true),(29,B ((decide (((c12.toNat:Int):Int)≥48))&&(decide (((c12.toNat:Int):Int)≤57))))] [] ?_ ?_
      ·refine Kqw E E (fun hb=>?_) (fun hb=>?_)
       ·exact gO 4 E<|⟨⟨E,E,E,E,E,Kgw E (Kjs hb),tV⟩,[],E,.inl E⟩
       exact gO 4 E<|⟨⟨E,E,E,E,E,Kgw E (Kjt hb),tV⟩,[],E,.inl E⟩
      refine gO 1 E<|Khy 3 [(0,S s),(3,I s2),(4,.d (.v (.int .u8 (c12.toNat:Int)))),(20,B false),(23,B true),(33,B (((decide (((c12.toNat:Int):Int)≥48))&&(decide (((c12.toNat:Int):Int)≤57)))||(((c12.toNat:Int):Int)==45)))] [] ?_ ?_
      ·refine Kqw E E (fun hb=>?_) (fun hb=>?_)
       ·exact gO 4 E<|⟨⟨E,E,E,E,E,Kgw E (or_t hb),tV⟩,[],E,.inl E⟩
       exact gO 4 E<|⟨⟨E,E,E,E,E,Kgw E (or_f hb),tV⟩,[],E,.inl E⟩
      refine gO 1 E<|Khy 3 [(0,S s),(3,I s2),(20,B false),(23,B true),(37,B ((((decide (((c12.toNat:Int):Int)≥48))&&(decide (((c12.toNat:Int):Int)≤57)))||(((c12.toNat:Int):Int)==45))||(((c12.toNat:Int):Int)==95)))] [] ?_ ?_
      ·refine Kqw E E (fun hb=>?_) (fun hb=>?_)
       ·exact gO 4 E<|⟨⟨E,E,E,E,Kgw E (or_t hb),tV⟩,[],E,.inl E⟩
       exact gO 4 E<|⟨⟨E,E,E,E,Kgw E (or_f hb),tV⟩,[],E,.inl E⟩
      exact gO 2 E<|⟨⟨E,E,E,Kgw E (Kjs hb),tV⟩,[],E,.inl E⟩
     exact gO 16 E<|⟨⟨E,E,E,Kgw E (Kjt hb),tV⟩,[],E,.inl E⟩
    exact gO 2 E<|⟨⟨E,E,Kgw E (or_f hb),tV⟩,[],E,.inl E⟩
   refine gO 3 E<|jC E h13 (fun h14=>?_) fun h17=>gA 8 E<|oSi h17▸⟨_,E,⟨⟨E,E,tV⟩,[],E,.inl E⟩⟩
   refine gA 8 E<|bK h14 fun v15 hv15 h16=>?_
   cases h16
   obtain rfl:=hout9 _ rfl
   cases h5
   exact gA 4 E<|oSi hv15▸gP E E
  have h18:=cF hy8 hb
  refine gA 4 E ?_
  cases h18
  obtain rfl:=hout9 _ rfl
  exact⟨_,E,⟨⟨E,tV⟩,[],E,.inl E⟩⟩
 intro a6 ha
 subst ha
 replace h5:=Klk h5
 refine gA 6 E<|Khy 4 [(47,B ((!((s:Str)==[]))&&(decide (((s.length:Int):Int)≤40))))] [] ?_ ?_
 ·refine Kqw E E (fun hb=>?_) (fun hb=>?_)
  ·exact gO 5 E<|⟨⟨Kgw E (Kjs hb),tV⟩,[],E,.inl E⟩
  exact gO 5 E<|⟨⟨Kgw E (Kjt hb),tV⟩,[],E,.inl E⟩
 exact gO 4 E<|oSi h5▸gP E E
theorem Ljf{c:Int}{r:Bool}(h:Lec c=some r):Pure Tryz.prog 212 [.d (.v (.int .u8 c))] (B r):=by
 unfold Lec at h
 refine QP Tryz.func212 E E E<|gA 10 E<|Khy 3 [(2,B false),(8,B ((decide ((c:Int)≥48))&&(decide ((c:Int)≤57))))] [] ?_ ?_
 ·refine Kqw E E (fun hb=>?_) (fun hb=>?_)
  ·exact gO 4 E<|⟨⟨E,Kgw E (Kjs hb),tV⟩,[],E,.inl E⟩
  exact gO 4 E<|⟨⟨E,Kgw E (Kjt hb),tV⟩,[],E,.inl E⟩
 exact gO 4 E<|oSi h▸gP E E
theorem Ljg{s:Str}{r:Bool}(h:Led s=some r):Pure Tryz.prog 215 [S s] (B r):=by
 unfold Led at h
 refine QP Tryz.func215 E E E<|gA 11 E<|bK h fun q1 hq1 h2=>Khy 4 [(0,S s),(2,B false),(10,B q1)] [] ?_ ?_
 ·refine Kqw E E (fun hb=>?_) (fun hb=>?_)
  ·have h3:=cT hq1 hb
   exact bK h3 fun c4 hc4 h5=>gO 1 E<|Kqu E<|eo_o E (Kik hΓ hc4 E E E E)<|gO 3 E<|oSi h5▸⟨⟨E,E,E,tV⟩,[],E,.inl E⟩
  have h6:=cF hq1 hb
  exact gO 5 E<|oSi h6▸⟨⟨E,E,E,tV⟩,[],E,.inl E⟩
 refine gO 1 E<|bK h2 fun q7 hq7 h8=>Khy 4 [(2,B false),(15,B q7)] [] ?_ ?_
 ·refine Kqw E E (fun hb=>?_) (fun hb=>?_)
  ·have h9:=cT hq7 hb
   exact bK h9 fun c10 hc10 h11=>gO 1 E<|Kqu E<|eo_o E (Kik hΓ hc10 E E E E)<|bK h11 fun y12 hy12 h13=>Kqu E<|Kiz C (Ljf hy12) E Z E E E E E<|gO 2 E<|oSi h13▸⟨⟨E,E,tV⟩,[],E,.inl E⟩
  have h14:=cF hq7 hb
  exact gO 5 E<|oSi h14▸⟨⟨E,E,tV⟩,[],E,.inl E⟩
 exact gO 4 E<|oSi h8▸gP E E
theorem Ljh{s:List Str}{v:Str}{r:Int}(h:Lee s v=some r):Pure Tryz.prog 172 [.d (Sl eS s),S v] (I r):=by
 unfold Lee at h
 refine QP Tryz.func172 E E E<|gA 13 E<|bK h fun q4 hq4 h5=>Kii 0 E fun hb7=>Klr (R:=fun a6=>q4=.go a6) (fun a6=>[]) (fun a6=>[]) ?_ ?_
 ·refine gA 1 E<|Kih s hq4 (fun i1 s2=>[(0,.d (Sl eS s)),(1,S v),(7,I (s.length:Int)),(8,I (i1:Int))]) (fun s2=>[]) ⟨⟨E,E,E,E,tV⟩,[],E,.inl E⟩ (fun i1 x3 s2 y11 hx8 hlt hy9 hout10=>?_) (fun s2 hgo=>?_)
  ·refine gA 6 E<|Kht E (dT (Int.ofNat_lt.2 hlt))<|gA 15 E<|eo_o E (Kij hΓ (enc:=eS) (Kic hx8) E E E E E (fun _=>E))<|gO 4 E<|jC E hy9 (fun h12=>?_) fun h15=>gA 7 E ?_
   ·refine gA 9 E<|bK h12 fun v13 hv13 h14=>?_
    cases h14
    obtain rfl:=hout10 _ rfl
    cases h5
    exact gA 4 E<|oSi hv13▸gP E E
   cases h15
   exact⟨_,E,⟨⟨E,E,E,Kgv E (Kgu (nLl hlt hb7)),tV⟩,[],E,.inl E⟩⟩
  subst hgo
  exact gA 6 E<|Khu E (dF (Int.lt_irrefl _))<|gA 4 E<|⟨_,E,⟨tV,[],E,.inl E⟩⟩
 intro a6 ha
 subst ha
 replace h5:=Kll h5
 exact gA 7 E<|oSi h5▸gP E E
theorem Lji{s:List Str}{v:Str}{r:Bool}(h:Lef s v=some r):Pure Tryz.prog 227 [.d (Sl eS s),S v] (B r):=by
 unfold Lef at h
 exact QP Tryz.func227 E E E<|bK h fun y1 hy1 h2=>gA 9 E<|Kiz C (Ljh hy1) E Z E E E E E<|gO 5 E<|oSi h2▸gP E E
theorem Ljj{op:Str}{r:Bool}(h:Leg op=some r):Pure Tryz.prog 220 [S op] (B r):=by
 unfold Leg at h
 exact QP Tryz.func220 E E E<|gA 7 E<|Kit hΓ (enc:=eS) [[61,61],[33,61],[60],[60,61],[62],[62,61]] E E E E E E E E E E E E Z<|bK h fun y1 hy1 h2=>gO 1 E<|Kiz C (Lji hy1) E Z E E E E E<|gO 4 E<|oSi h2▸gP E E
theorem Ljk{s:Str}{r:Bool}(h:Leh s=some r):Pure Tryz.prog 188 [S s] (B r):=by
 unfold Leh at h
 refine QP Tryz.func188 E E E<|gA 13 E<|bK h fun q4 hq4 h5=>gK hq4 fun hb7 h8=>?_
 replace hb7:=of_decide_eq_true hb7
 refine Klr (R:=fun a6=>q4=.go a6) (fun a6=>[(0,S s)]) (fun a6=>[]) ?_ ?_
 ·refine gA 1 E<|Kjp h8 (fun i1 s2=>[(0,S s),(5,I (s.length:Int)),(6,I (i1:Int))]) (fun s2=>[]) ⟨⟨E,E,E,tV⟩,[],E,.inl E⟩ (fun i1 s2 y12 hlt hy10 hout11=>?_) (fun s2 hgo hge=>?_)
  ·refine gA 6 E<|Kht E (dT hlt)<|bK hy10 fun c13 hc13 h14=>gA 14 E<|eo_o E (Kik hΓ hc13 E E E E)<|gO 2 E<|bK h14 fun q15 hq15 h16=>Khy 5 [(0,S s),(5,I (s.length:Int)),(6,I (i1:Int)),(18,B q15)] [] ?_ ?_
   ·refine Kqw E E (fun hb=>?_) (fun hb=>?_)
    ·have h17:=cT hq15 hb
     exact gO 6 E<|oSi h17▸⟨⟨E,E,E,E,tV⟩,[],E,.inl E⟩
    have h18:=cF hq15 hb
    exact bK h18 fun c19 hc19 h20=>gO 2 E<|Kqu E<|eo_o E (Kik hΓ hc19 E E E E)<|gO 3 E<|oSi h20▸⟨⟨E,E,E,E,tV⟩,[],E,.inl E⟩
   refine gO 2 E<|jC E h16 (fun h21=>?_) fun h24=>gA 7 E<|oSi h24▸⟨_,E,⟨⟨E,E,Kgv E (Kgu (by omega)),tV⟩,[],E,.inl E⟩⟩
   refine gA 8 E<|bK h21 fun v22 hv22 h23=>?_
   cases h23
   obtain rfl:=hout11 _ rfl
   cases h5
   exact gA 4 E<|oSi hv22▸gP E E
  subst hgo
  exact gA 6 E<|Khu E (dF hge)<|gA 4 E<|⟨_,E,⟨⟨E,tV⟩,[],E,.inl E⟩⟩
 intro a6 ha
 subst ha
 replace h5:=Kll h5
 exact gA 10 E<|oSi h5▸gP E E
theorem Ljl{k:Nat}{a:Lcv}{r:Int}(h:Lei k a=some r):Pure Tryz.prog 124 [.agg [I a.Kind,I a.Number,S a.Words,I a.Version.1,I a.Version.2.1,I a.Version.2.2.1,I a.Version.2.2.2]] (I r):=by
 unfold Lei at h
 refine QP Tryz.func124 E E E<|gA 2 E<|Ksd E E E E Z<|bK h fun y1 hy1 h2=>gO 9 E<|Kiz C (Liz hy1) E Z E E E E E<|gO 3 E<|Khs E (fun hb=>?_) (fun hb=>?_)
 ·have h3:=cT h2 hb
  exact gA 8 E<|oSi h3▸gP E E
 have h4:=cF h2 hb
 refine gA 6 E<|bK h4 fun q5 hq5 h6=>Khy 4 [(1,.ptr 0 0),(17,B q5)] [.box 29 [I a.Kind,I a.Number,S a.Words,I a.Version.1,I a.Version.2.1,I a.Version.2.2.1,I a.Version.2.2.2]] ?_ ?_
 ·refine Kqw E E (fun hb=>?_) (fun hb=>?_)
  ·have h7:=cT hq5 hb
   exact bK h7 fun y8 hy8 h9=>gO 2 E<|Kqu E<|Kiz C (Liz hy8) E Z E E E E E<|gO 2 E<|oSi h9▸⟨⟨E,E,tV⟩,[],E,.inl E⟩
  have h10:=cF hq5 hb
  exact gO 5 E<|oSi h10▸⟨⟨E,E,tV⟩,[],E,.inl E⟩
 refine gO 1 E<|bK h6 fun q11 hq11 h12=>Khy 9 [(1,.ptr 0 0),(27,B q11)] [.box 29 [I a.Kind,I a.Number,S a.Words,I a.Version.1,I a.Version.2.1,I a.Version.2.2.1,I a.Version.2.2.2]] ?_ ?_
 ·refine Kqw E E (fun hb=>?_) (fun hb=>?_)
  ·have h13:=cT hq11 hb
   exact gO 10 E<|oSi h13▸⟨⟨E,E,tV⟩,[],E,.inl E⟩
  have h14:=cF hq11 hb
  refine gO 4 E<|bK h14 fun q15 hq15 h16=>Khy 4 [(1,.ptr 0 0),(18,B false),(26,B q15)] [.box 29 [I a.Kind,I a.Number,S a.Words,I a.Version.1,I a.Version.2.1,I a.Version.2.2.1,I a.Version.2.2.2]] ?_ ?_
  ·refine Kqw E E (fun hb=>?_) (fun hb=>?_)
   ·have h17:=cT hq15 hb
    exact bK h17 fun y18 hy18 h19=>gO 2 E<|Kqu E<|Kiz C (Liz hy18) E Z E E E E E<|gO 2 E<|oSi h19▸⟨⟨E,E,E,tV⟩,[],E,.inl E⟩
   have h20:=cF hq15 hb
   exact gO 5 E<|oSi h20▸⟨⟨E,E,E,tV⟩,[],E,.inl E⟩
  exact gO 2 E<|oSi h16▸⟨⟨E,E,tV⟩,[],E,.inl E⟩
 refine gO 3 E<|Khs E (fun hb=>?_) (fun hb=>?_)
 ·have h21:=cT h12 hb
  exact gA 8 E<|oSi h21▸gP E E
 have h22:=cF h12 hb
 refine gA 6 E<|Khy 4 [(1,.ptr 0 0),(36,B (((a.Kind:Int) != 1)&&((a.Kind:Int) != 3)))] [.box 29 [I a.Kind,I a.Number,S a.Words,I a.Version.1,I a.Version.2.1,I a.Version.2.2.1,I a.Version.2.2.2]] ?_ ?_
 ·refine Kqw E E (fun hb=>?_) (fun hb=>?_)
  ·exact gO 5 E<|⟨⟨E,Kgw E (Kjs hb),tV⟩,[],E,.inl E⟩
  exact gO 5 E<|⟨⟨E,Kgw E (Kjt hb),tV⟩,[],E,.inl E⟩
 refine gO 1 E<|Khy 4 [(1,.ptr 0 0),(41,B ((((a.Kind:Int) != 1)&&((a.Kind:Int) != 3))&&((a.Number:Int) != 0)))] [.box 29 [I a.Kind,I a.Number,S a.Words,I a.Version.1,I a.Version.2.1,I a.Version.2.2.1,I a.Version.2.2.2]] ?_ ?_
 ·refine Kqw E E (fun hb=>?_) (fun hb=>?_)
  ·exact gO 5 E<|⟨⟨E,Kgw E (Kjs hb),tV⟩,[],E,.inl E⟩
  exact gO 5 E<|⟨⟨E,Kgw E (Kjt hb),tV⟩,[],E,.inl E⟩
 refine gO 3 E<|Khs E (fun hb=>?_) (fun hb=>?_)
 ·have h23:=cT h22 hb
  exact gA 8 E<|oSi h23▸gP E E
 have h24:=cF h22 hb
 refine gA 6 E<|bK h24 fun q25 hq25 h26=>Khy 5 [(1,.ptr 0 0),(51,B q25)] [.box 29 [I a.Kind,I a.Number,S a.Words,I a.Version.1,I a.Version.2.1,I a.Version.2.2.1,I a.Version.2.2.2]] ?_ ?_
 ·refine Kqw E E (fun hb=>?_) (fun hb=>?_)
  ·have h27:=cT hq25 hb
   exact bK h27 fun y28 hy28 h29=>gO 2 E<|Kqu E<|Kiz C (Ljk hy28) E Z E E E E E<|gO 3 E<|oSi h29▸⟨⟨E,E,tV⟩,[],E,.inl E⟩
  have h30:=cF hq25 hb
  exact gO 6 E<|oSi h30▸⟨⟨E,E,tV⟩,[],E,.inl E⟩
 refine gO 1 E<|Khy 9 [(1,.ptr 0 0),(61,B (q25||(((a.Kind:Int) != 2)&&(!((a.Words:Str)==[])))))] [.box 29 [I a.Kind,I a.Number,S a.Words,I a.Version.1,I a.Version.2.1,I a.Version.2.2.1,I a.Version.2.2.2]] ?_ ?_
 ·refine Kqw E E (fun hb=>?_) (fun hb=>?_)
  ·exact gO 10 E<|⟨⟨E,Kgw E (or_t hb),tV⟩,[],E,.inl E⟩
  refine gO 4 E<|Khy 4 [(1,.ptr 0 0),(52,B false),(60,B (((a.Kind:Int) != 2)&&(!((a.Words:Str)==[]))))] [.box 29 [I a.Kind,I a.Number,S a.Words,I a.Version.1,I a.Version.2.1,I a.Version.2.2.1,I a.Version.2.2.2]] ?_ ?_
  ·refine Kqw E E (fun hb=>?_) (fun hb=>?_)
   ·exact gO 5 E<|⟨⟨E,E,Kgw E (Kjs hb),tV⟩,[],E,.inl E⟩
   exact gO 5 E<|⟨⟨E,E,Kgw E (Kjt hb),tV⟩,[],E,.inl E⟩
  exact gO 2 E<|⟨⟨E,Kgw E (or_f hb),tV⟩,[],E,.inl E⟩
 refine gO 3 E<|Khs E (fun hb=>?_) (fun hb=>?_)
 ·have h31:=cT h26 hb
  exact gA 8 E<|oSi h31▸gP E E
 have h32:=cF h26 hb
 refine gA 11 E<|bK h32 fun q36 hq36 h37=>Klr (R:=fun a38=>q36=.inl a38) (fun a38=>[]) (fun a38=>[.box 29 [I a.Kind,I a.Number,S a.Words,I a.Version.1,I a.Version.2.1,I a.Version.2.2.1,I a.Version.2.2.2]]) ?_ ?_
 ·refine gA 1 E<|Kif hq36 (fun s34=>[(1,.ptr 0 0),(63,.agg [I a.Version.1,I a.Version.2.1,I a.Version.2.2.1,I a.Version.2.2.2]),(64,I s34)]) (fun s34=>[.box 29 [I a.Kind,I a.Number,S a.Words,I a.Version.1,I a.Version.2.1,I a.Version.2.2.1,I a.Version.2.2.2]]) ⟨⟨E,E,E,tV⟩,[],E,.inl E⟩ (fun s34 y42 hy40 hout41=>?_)
  refine gA 6 E<|Khs E (fun hb=>?_) (fun hb=>?_)
  ·have h43:=cT hy40 hb
   refine bK h43 fun x44 hx44 h45=>gA 6 E<|eo_o E (Kmm hΓ (enc:=(eN .i64)) [a.Version.1,a.Version.2.1,a.Version.2.2.1,a.Version.2.2.2] hx44 E E E E E E E (fun _=>E) E)<|gO 10 E<|bK h45 fun q46 hq46 h47=>Khy 3 [(1,.ptr 0 0),(4,I x44),(63,.agg [I a.Version.1,I a.Version.2.1,I a.Version.2.2.1,I a.Version.2.2.2]),(64,I s34),(73,B q46)] [.box 29 [I a.Kind,I a.Number,S a.Words,I a.Version.1,I a.Version.2.1,I a.Version.2.2.1,I a.Version.2.2.2]] ?_ ?_
   ·refine Kqw E E (fun hb=>?_) (fun hb=>?_)
    ·have h48:=cT hq46 hb
     exact bK h48 fun y49 hy49 h50=>gO 1 E<|Kqu E<|Kiz C (Liz hy49) E Z E E E E E<|gO 2 E<|oSi h50▸⟨⟨E,E,E,E,E,tV⟩,[],E,.inl E⟩
    have h51:=cF hq46 hb
    exact gO 4 E<|oSi h51▸⟨⟨E,E,E,E,E,tV⟩,[],E,.inl E⟩
   refine gO 2 E<|Khs E (fun hb=>?_) (fun hb=>?_)
   ·have h52:=cT h47 hb
    refine gA 9 E<|bK h52 fun v53 hv53 h54=>?_
    cases h54
    obtain rfl:=hout41 _ rfl
    cases h37
    exact gA 4 E<|oSi hv53▸gP E E
   have h55:=cF h47 hb
   refine gA 8 E<|Khy 3 [(1,.ptr 0 0),(63,.agg [I a.Version.1,I a.Version.2.1,I a.Version.2.2.1,I a.Version.2.2.2]),(64,I s34),(80,B (((a.Kind:Int) != 4)&&((x44:Int) != 0)))] [.box 29 [I a.Kind,I a.Number,S a.Words,I a.Version.1,I a.Version.2.1,I a.Version.2.2.1,I a.Version.2.2.2]] ?_ ?_
   ·refine Kqw E E (fun hb=>?_) (fun hb=>?_)
    ·exact gO 4 E<|⟨⟨E,E,E,Kgw E (Kjs hb),tV⟩,[],E,.inl E⟩
    exact gO 4 E<|⟨⟨E,E,E,Kgw E (Kjt hb),tV⟩,[],E,.inl E⟩
   refine gO 2 E<|jC E h55 (fun h56=>?_) fun h59=>gA 7 E<|oSi h59▸⟨_,E,⟨⟨E,E,E,tV⟩,[],E,.inl E⟩⟩
   refine gA 8 E<|bK h56 fun v57 hv57 h58=>?_
   cases h58
   obtain rfl:=hout41 _ rfl
   cases h37
   exact gA 4 E<|oSi hv57▸gP E E
  have h60:=cF hy40 hb
  refine gA 4 E ?_
  cases h60
  obtain rfl:=hout41 _ rfl
  exact⟨_,E,⟨tV,[],E,.inl E⟩⟩
 intro a38 ha
 subst ha
 replace h37:=Klk h37
 exact gA 7 E<|oSi h37▸gP E E
theorem Ljm{k:Nat}{c:Lcw}{r:Int}(h:Lej k c=some r):Pure Tryz.prog 165 [.agg [I c.Kind,S c.Name,S c.Op,I c.Value.Kind,I c.Value.Number,S c.Value.Words,I c.Value.Version.1,I c.Value.Version.2.1,I c.Value.Version.2.2.1,I c.Value.Version.2.2.2,.d (.ro c.Kids.n c.Kids.xs)]] (I r):=by
 induction k generalizing c r with
 | zero=>unfold Lej at h;cases h
 | succ k ih0=>
  have ih:∀ {c:Lcw} {r:Int},Lej k c=some r→Pure Tryz.prog 165 [.agg [I c.Kind,S c.Name,S c.Op,I c.Value.Kind,I c.Value.Number,S c.Value.Words,I c.Value.Version.1,I c.Value.Version.2.1,I c.Value.Version.2.2.1,I c.Value.Version.2.2.2,.d (.ro c.Kids.n c.Kids.xs)]] (I r):=by intro c r h;first | exact ih0 h | exact ih0 _ _ h
  refine Pure.enter (Fr.of 0 _) Tryz.func165 E (Fr.of_ok _) E E ?_
  refine Khr ?_
  unfold Lej at h
  refine gA 2 E ?_
  refine Ksd E E E E Z ?_
  obtain⟨y1,hy1,h2⟩:=Khz h
  refine gO 8 E ?_
  refine Kiz C (Liz hy1) E Z E E E E E ?_
  refine gO 2 E ?_
  refine Khs E (fun hb=>?_) (fun hb=>?_)
  ·have h3:=cT h2 hb
   refine gA 7 E ?_
   obtain rfl:=oSi h3
   exact gP E E
  have h4:=cF h2 hb
  obtain⟨y5,hy5,h6⟩:=Khz h4
  refine gA 6 E ?_
  refine Kiz C (Ljd hy5) E Z E E E E E ?_
  refine gO 3 E ?_
  refine Khs E (fun hb=>?_) (fun hb=>?_)
  ·have h7:=cT h6 hb
   refine gA 7 E ?_
   obtain rfl:=oSi h7
   exact gP E E
  have h8:=cF h6 hb
  obtain⟨q9,hq9,h10⟩:=Khz h8
  refine gA 10 E ?_
  refine Klu (q:=q9) (fun a11=>[(1,.ptr 0 0)]) (fun a11=>[.box 32 [I c.Kind,S c.Name,S c.Op,I c.Value.Kind,I c.Value.Number,S c.Value.Words,I c.Value.Version.1,I c.Value.Version.2.1,I c.Value.Version.2.2.1,I c.Value.Version.2.2.2,.d (.ro c.Kids.n c.Kids.xs)]]) ?_ ?_
  ·refine Khs E (fun hb=>?_) (fun hb=>?_)
   ·have h12:=cT hq9 hb
    obtain⟨y13,hy13,h14⟩:=Khz h12
    refine gA 6 E ?_
    refine Kiz C (Lje hy13) E Z E E E E E ?_
    refine gO 2 E ?_
    refine Khy 4 [(1,.ptr 0 0),(25,B ((!y13)||((c.Name:Str)==[116,114,117,101])))] [.box 32 [I c.Kind,S c.Name,S c.Op,I c.Value.Kind,I c.Value.Number,S c.Value.Words,I c.Value.Version.1,I c.Value.Version.2.1,I c.Value.Version.2.2.1,I c.Value.Version.2.2.2,.d (.ro c.Kids.n c.Kids.xs)]] ?_ ?_
    ·refine Kqw E E (fun hb=>?_) (fun hb=>?_)
     ·refine gO 5 E ?_
      exact⟨⟨E,Kgw E (or_t hb),tV⟩,[],E,.inl E⟩
     refine gO 5 E ?_
     exact⟨⟨E,Kgw E (or_f hb),tV⟩,[],E,.inl E⟩
    refine gO 1 E ?_
    refine Khy 4 [(1,.ptr 0 0),(30,B (((!y13)||((c.Name:Str)==[116,114,117,101]))||((c.Name:Str)==[102,97,108,115,101])))] [.box 32 [I c.Kind,S c.Name,S c.Op,I c.Value.Kind,I c.Value.Number,S c.Value.Words,I c.Value.Version.1,I c.Value.Version.2.1,I c.Value.Version.2.2.1,I c.Value.Version.2.2.2,.d (.ro c.Kids.n c.Kids.xs)]] ?_ ?_
    ·refine Kqw E E (fun hb=>?_) (fun hb=>?_)
     ·refine gO 5 E ?_
      exact⟨⟨E,Kgw E (or_t hb),tV⟩,[],E,.inl E⟩
     refine gO 5 E ?_
     exact⟨⟨E,Kgw E (or_f hb),tV⟩,[],E,.inl E⟩
    refine gO 1 E ?_
    obtain⟨q15,hq15,h16⟩:=Khz h14
    refine Khy 4 [(1,.ptr 0 0),(35,B q15)] [.box 32 [I c.Kind,S c.Name,S c.Op,I c.Value.Kind,I c.Value.Number,S c.Value.Words,I c.Value.Version.1,I c.Value.Version.2.1,I c.Value.Version.2.2.1,I c.Value.Version.2.2.2,.d (.ro c.Kids.n c.Kids.xs)]] ?_ ?_
    ·refine Kqw E E (fun hb=>?_) (fun hb=>?_)
     ·have h17:=cT hq15 hb
      refine gO 5 E ?_
      obtain rfl:=oSi h17
      exact⟨⟨E,E,tV⟩,[],E,.inl E⟩
     have h18:=cF hq15 hb
     obtain⟨y19,hy19,h20⟩:=Khz h18
     refine gO 2 E ?_
     refine Kqu E ?_
     refine Kiz C (Ljg hy19) E Z E E E E E ?_
     refine gO 2 E ?_
     obtain rfl:=oSi h20
     exact⟨⟨E,E,tV⟩,[],E,.inl E⟩
    refine gO 3 E ?_
    refine Khs E (fun hb=>?_) (fun hb=>?_)
    ·have h21:=cT h16 hb
     refine gA 8 E ?_
     obtain⟨v22,hv22,h23⟩:=Khz h21
     obtain rfl:=oSi h23
     obtain rfl:=oSi h10
     refine gA 2 E ?_
     obtain rfl:=oSi hv22
     exact gP E E
    have h24:=cF h16 hb
    obtain⟨y25,hy25,h26⟩:=Khz h24
    refine gA 4 E ?_
    refine Kiz C (Ljj hy25) E Z E E E E E ?_
    refine gO 4 E ?_
    refine Khs E (fun hb=>?_) (fun hb=>?_)
    ·have h27:=cT h26 hb
     refine gA 8 E ?_
     obtain⟨v28,hv28,h29⟩:=Khz h27
     obtain rfl:=oSi h29
     obtain rfl:=oSi h10
     refine gA 2 E ?_
     obtain rfl:=oSi hv28
     exact gP E E
    have h30:=cF h26 hb
    obtain⟨y31,hy31,h32⟩:=Khz h30
    refine gA 8 E ?_
    refine Kiz C (Ljl hy31) E Z E E E E E ?_
    refine gO 9 E ?_
    refine Khs E (fun hb=>?_) (fun hb=>?_)
    ·have h33:=cT h32 hb
     refine gA 8 E ?_
     obtain⟨v34,hv34,h35⟩:=Khz h33
     obtain rfl:=oSi h35
     obtain rfl:=oSi h10
     refine gA 2 E ?_
     obtain rfl:=oSi hv34
     exact gP E E
    have h36:=cF h32 hb
    refine gA 9 E ?_
    refine Khy 4 [(1,.ptr 0 0),(55,B (((c.Value.Kind:Int)==3)&&(!((c.Op:Str)==[61,61]))))] [.box 32 [I c.Kind,S c.Name,S c.Op,I c.Value.Kind,I c.Value.Number,S c.Value.Words,I c.Value.Version.1,I c.Value.Version.2.1,I c.Value.Version.2.2.1,I c.Value.Version.2.2.2,.d (.ro c.Kids.n c.Kids.xs)]] ?_ ?_
    ·refine Kqw E E (fun hb=>?_) (fun hb=>?_)
     ·refine gO 5 E ?_
      exact⟨⟨E,Kgw E (Kjs hb),tV⟩,[],E,.inl E⟩
     refine gO 5 E ?_
     exact⟨⟨E,Kgw E (Kjt hb),tV⟩,[],E,.inl E⟩
    refine gO 1 E ?_
    refine Khy 4 [(1,.ptr 0 0),(60,B ((((c.Value.Kind:Int)==3)&&(!((c.Op:Str)==[61,61])))&&(!((c.Op:Str)==[33,61]))))] [.box 32 [I c.Kind,S c.Name,S c.Op,I c.Value.Kind,I c.Value.Number,S c.Value.Words,I c.Value.Version.1,I c.Value.Version.2.1,I c.Value.Version.2.2.1,I c.Value.Version.2.2.2,.d (.ro c.Kids.n c.Kids.xs)]] ?_ ?_
    ·refine Kqw E E (fun hb=>?_) (fun hb=>?_)
     ·refine gO 5 E ?_
      exact⟨⟨E,Kgw E (Kjs hb),tV⟩,[],E,.inl E⟩
     refine gO 5 E ?_
     exact⟨⟨E,Kgw E (Kjt hb),tV⟩,[],E,.inl E⟩
    refine gO 2 E ?_
    refine Khs E (fun hb=>?_) (fun hb=>?_)
    ·have h37:=cT h36 hb
     refine gA 6 E ?_
     obtain⟨v38,hv38,h39⟩:=Khz h37
     obtain rfl:=oSi h39
     obtain rfl:=oSi h10
     refine gA 2 E ?_
     obtain rfl:=oSi hv38
     exact gP E E
    have h40:=cF h36 hb
    refine gA 1 E ?_
    obtain rfl:=oSi h40
    exact⟨_,E,⟨⟨E,tV⟩,[],E,.inl E⟩⟩
   have h41:=cF hq9 hb
   refine gA 1 E ?_
   obtain rfl:=oSi h41
   exact⟨_,E,⟨⟨E,tV⟩,[],E,.inl E⟩⟩
  intro a11 ha
  subst ha
  replace h10:=Klk h10
  obtain⟨l42,hl42,h43⟩:=Khz h10
  refine gA 5 E ?_
  refine eo_o E (Knu (Krq hΓ (g:=.d (.ro c.Kids.n c.Kids.xs)) E) (G.Le.unk Lht hl42)) ?_
  refine gO 4 E ?_
  obtain⟨q47,hq47,h48⟩:=Khz h43
  refine Kii 62 E fun hb50=>?_
  refine Klr (R:=fun a49=>q47=.go a49) (fun a49=>[]) (fun a49=>[.box 32 [I c.Kind,S c.Name,S c.Op,I c.Value.Kind,I c.Value.Number,S c.Value.Words,I c.Value.Version.1,I c.Value.Version.2.1,I c.Value.Version.2.2.1,I c.Value.Version.2.2.2,.d (.ro c.Kids.n c.Kids.xs)]]) ?_ ?_
  ·refine gA 1 E ?_
   refine Kih l42 hq47 (fun i44 s45=>[(62,.d (Sl Lcx l42)),(63,I (l42.length:Int)),(64,I (i44:Int))]) (fun s45=>[.box 32 [I c.Kind,S c.Name,S c.Op,I c.Value.Kind,I c.Value.Number,S c.Value.Words,I c.Value.Version.1,I c.Value.Version.2.1,I c.Value.Version.2.2.1,I c.Value.Version.2.2.2,.d (.ro c.Kids.n c.Kids.xs)]]) ⟨⟨E,E,E,tV⟩,[],E,.inl E⟩ (fun i44 x46 s45 y54 hx51 hlt hy52 hout53=>?_) (fun s45 hgo=>?_)
   ·refine gA 6 E ?_
    refine Kht E (dT (Int.ofNat_lt.2 hlt)) ?_
    refine gA 6 E ?_
    refine eo_o E (Kij hΓ (enc:=Lcx) (Kic hx51) E E E E E (fun _=>E)) ?_
    refine gO 1 E ?_
    refine Ksc hΓ E E E Z ?_
    refine Ksh hΓ E E E E E E E E Z ?_
    refine Kjh [.box 32 [I c.Kind,S c.Name,S c.Op,I c.Value.Kind,I c.Value.Number,S c.Value.Words,I c.Value.Version.1,I c.Value.Version.2.1,I c.Value.Version.2.2.1,I c.Value.Version.2.2.2,.d (.ro c.Kids.n c.Kids.xs)],.box 32 [I x46.Kind,S x46.Name,S x46.Op,I x46.Value.Kind,I x46.Value.Number,S x46.Value.Words,I x46.Value.Version.1,I x46.Value.Version.2.1,I x46.Value.Version.2.2.1,I x46.Value.Version.2.2.2,.d (.ro x46.Kids.n x46.Kids.xs)]] E ?_
    obtain⟨y55,hy55,h56⟩:=Khz hy52
    refine gO 5 E ?_
    refine Kiz C (ih hy55) E Z E E E E E ?_
    refine gO 9 E ?_
    refine Khs E (fun hb=>?_) (fun hb=>?_)
    ·have h57:=cT h56 hb
     refine gA 9 E ?_
     obtain⟨v58,hv58,h59⟩:=Khz h57
     obtain rfl:=oSi h59
     obtain rfl:=hout53 _ rfl
     obtain rfl:=oSi h48
     refine gA 4 E ?_
     obtain rfl:=oSi hv58
     exact gP E E
    have h60:=cF h56 hb
    refine gA 7 E ?_
    obtain rfl:=oSi h60
    exact⟨_,E,⟨⟨E,E,Kgv E (Kgu (nLl hlt hb50)),tV⟩,[_],E,.inr ⟨HB.mk E,FB.mk E,Z⟩⟩⟩
   subst hgo
   refine gA 6 E ?_
   refine Khu E (dF (Int.lt_irrefl _)) ?_
   refine gA 4 E ?_
   exact⟨_,E,⟨tV,[],E,.inl E⟩⟩
  intro a49 ha
  subst ha
  replace h48:=Kll h48
  refine gA 7 E ?_
  obtain rfl:=oSi h48
  exact gP E E
theorem Ljn{k:Nat}{c:Lcw}{r:Int}(h:Lek k c=some r):Pure Tryz.prog 84 [.agg [I c.Kind,S c.Name,S c.Op,I c.Value.Kind,I c.Value.Number,S c.Value.Words,I c.Value.Version.1,I c.Value.Version.2.1,I c.Value.Version.2.2.1,I c.Value.Version.2.2.2,.d (.ro c.Kids.n c.Kids.xs)]] (I r):=by
 unfold Lek at h
 refine QP Tryz.func84 E E E<|gA 2 E<|Ksd E E E E Z<|bK h fun y1 hy1 h2=>gO 7 E<|Kiz C (Liy hy1) E Z E E E E E<|gO 12 E<|Khy 3 [(1,.ptr 0 0),(15,B ((decide ((y1.1:Int)>100))||(decide ((y1.2:Int)>30))))] [.box 32 [I c.Kind,S c.Name,S c.Op,I c.Value.Kind,I c.Value.Number,S c.Value.Words,I c.Value.Version.1,I c.Value.Version.2.1,I c.Value.Version.2.2.1,I c.Value.Version.2.2.2,.d (.ro c.Kids.n c.Kids.xs)]] ?_ ?_
 ·refine Kqw E E (fun hb=>?_) (fun hb=>?_)
  ·exact gO 4 E<|⟨⟨E,Kgw E (or_t hb),tV⟩,[],E,.inl E⟩
  exact gO 4 E<|⟨⟨E,Kgw E (or_f hb),tV⟩,[],E,.inl E⟩
 refine gO 2 E<|jC E h2 (fun h3=>?_) fun h4=>bK h4 fun y5 hy5 h6=>gA 5 E<|Kiz C (Ljm hy5) E Z E E E E E<|gO 4 E<|oSi h6▸gP E E
 exact gA 7 E<|oSi h3▸gP E E
theorem Ljo{n:Int}{r:Bool}(h:Lel n=some r):Pure Tryz.prog 126 [I n] (B r):=by
 unfold Lel at h
 refine QP Tryz.func126 E E E<|gA 10 E<|Khy 3 [(2,B false),(8,B ((decide ((n:Int)≥0))&&(decide ((n:Int)<345686400))))] [] ?_ ?_
 ·refine Kqw E E (fun hb=>?_) (fun hb=>?_)
  ·exact gO 4 E<|⟨⟨E,Kgw E (Kjs hb),tV⟩,[],E,.inl E⟩
  exact gO 4 E<|⟨⟨E,Kgw E (Kjt hb),tV⟩,[],E,.inl E⟩
 exact gO 4 E<|oSi h▸gP E E
theorem Ljp{x:Int}{r:Bool}(h:Lem x=some r):Pure Tryz.prog 192 [I x] (B r):=by
 unfold Lem at h
 exact QP Tryz.func192 E E E<|gA 14 E<|oSi h▸gP E E
theorem Ljq{x:Int}{y:Int}{r:Int}(h:Len x y=some r):Pure Tryz.prog 130 [I x,I y] (I r):=by
 unfold Len at h
 refine QP Tryz.func130 E E E<|bK h fun y1 hy1 h2=>gA 8 E<|Kiz C (Ljp hy1) E Z E E E E E<|bK h2 fun y3 hy3 h4=>gO 6 E<|Kiz C (Ljp hy3) E Z E E E E E<|gO 9 E<|jC E h4 (fun h5=>?_) fun h8=>gA 8 E<|jC E h8 (fun h9=>?_) fun h10=>?_
 ·refine gA 6 E<|jC E h5 (fun h6=>?_) fun h7=>gA 9 E<|oSi h7▸gP E E
  exact gA 8 E<|oSi h6▸gP E E
 ·exact gA 7 E<|oSi h9▸gP E E
 refine gA 10 E<|jC E h10 (fun h11=>?_) fun h12=>gA 10 E<|jC E h12 (fun h13=>?_) fun h14=>?_
 ·exact gA 7 E<|oSi h11▸gP E E
 ·exact gA 7 E<|oSi h13▸gP E E
 exact gA 8 E<|oSi h14▸gP E E
theorem Ljr{vals:List Int}{r:Int}(h:Leo vals=some r):Pure Tryz.prog 129 [.d (Sl (eN .i64) vals)] (I r):=by
 unfold Leo at h
 refine QP Tryz.func129 E E E<|gA 18 E<|bK h fun q4 hq4 h5=>Kii 6 E fun hb7=>Klr (R:=fun a6=>q4=.go a6) (fun a6=>[(3,I 0)]) (fun a6=>[]) ?_ ?_
 ·refine gA 1 E<|Kih vals hq4 (fun i1 s2=>[(3,I 0),(6,.d (Sl (eN .i64) vals)),(7,I (vals.length:Int)),(8,I (i1:Int))]) (fun s2=>[]) ⟨⟨E,E,E,E,tV⟩,[],E,.inl E⟩ (fun i1 x3 s2 y11 hx8 hlt hy9 hout10=>?_) (fun s2 hgo=>?_)
  ·refine gA 6 E<|Kht E (dT (Int.ofNat_lt.2 hlt))<|gA 6 E<|eo_o E (Kij hΓ (enc:=(eN .i64)) (Kic hx8) E E E E E (fun _=>E))<|gO 11 E<|jC E hy9 (fun h12=>?_) fun h15=>gA 7 E ?_
   ·refine gA 9 E<|bK h12 fun v13 hv13 h14=>?_
    cases h14
    obtain rfl:=hout10 _ rfl
    cases h5
    exact gA 4 E<|oSi hv13▸gP E E
   cases h15
   exact⟨_,E,⟨⟨E,E,E,Kgv E (Kgu (nLl hlt hb7)),tV⟩,[],E,.inl E⟩⟩
  subst hgo
  exact gA 6 E<|Khu E (dF (Int.lt_irrefl _))<|gA 4 E<|⟨_,E,⟨⟨E,tV⟩,[],E,.inl E⟩⟩
 intro a6 ha
 subst ha
 replace h5:=Kll h5
 exact gA 8 E<|oSi h5▸gP E E
theorem Ljs{a:Lcy}{b:Lcy}{r:Int}(h:Lep a b=some r):Pure Tryz.prog 122 [.agg [I a.At,S a.Node,S a.Name,I a.Value.Kind,I a.Value.Number,S a.Value.Words,I a.Value.Version.1,I a.Value.Version.2.1,I a.Value.Version.2.2.1,I a.Value.Version.2.2.2],.agg [I b.At,S b.Node,S b.Name,I b.Value.Kind,I b.Value.Number,S b.Value.Words,I b.Value.Version.1,I b.Value.Version.2.1,I b.Value.Version.2.2.1,I b.Value.Version.2.2.2]] (I r):=by
 unfold Lep at h
 exact QP Tryz.func122 E E E<|gA 2 E<|Ksd E E E E Z<|Ksd E E E E Z<|gO 4 E<|jD<|bK h fun y1 hy1 h2=>gA 4 E<|Kja C (Ljq hy1) E E E E E E<|bK h2 fun y3 hy3 h4=>Khq hΓ 4 E<|Kja C (Lau hy3) E E E E E E<|bK h4 fun y5 hy5 h6=>Khq hΓ 4 E<|Kja C (Lau hy5) E E E E E E<|Kiu hΓ (enc:=(eN .i64)) [y1,y3,y5] E E E E E E E E E E E E<|bK h6 fun y7 hy7 h8=>Kja C (Ljr hy7) E E E E E E<|Khq hΓ 4 E<|oSi h8▸gP E E
theorem Ljt{k:Nat}{l:List Lcy}{r:Int}(h:Leq k l=some r):Pure Tryz.prog 51 [.d (Sl Lcn l)] (I r):=by
 unfold Leq at h
 refine QP Tryz.func51 E E E<|gA 13 E<|jC E h (fun h1=>?_) fun h2=>gA 10 E<|bK h2 fun q6 hq6 h7=>Kii 0 E fun hb9=>Klr (R:=fun a8=>q6=.go a8) (fun a8=>[]) (fun a8=>[]) ?_ ?_
 ·exact gA 7 E<|oSi h1▸gP E E
 ·refine gA 1 E<|Kih l hq6 (fun i3 s4=>[(0,.d (Sl Lcn l)),(9,.d (Sl Lcn l)),(10,I (l.length:Int)),(11,I (i3:Int))]) (fun s4=>[]) ⟨⟨E,E,E,E,tV⟩,[],E,.inl E⟩ (fun i3 x5 s4 y13 hx10 hlt hy11 hout12=>?_) (fun s4 hgo=>?_)
  ·refine gA 6 E<|Kht E (dT (Int.ofNat_lt.2 hlt))<|gA 7 E<|eo_o E (Kij hΓ (enc:=Lcn) (Kic hx10) E E E E E (fun _=>E))<|gO 1 E<|Ksc hΓ E E E Z<|gO 1 E<|Ksh hΓ E E E E E E E E Z<|Kjh [.box 83 [I x5.At,S x5.Node,S x5.Name,I x5.Value.Kind,I x5.Value.Number,S x5.Value.Words,I x5.Value.Version.1,I x5.Value.Version.2.1,I x5.Value.Version.2.2.1,I x5.Value.Version.2.2.2]] E<|bK hy11 fun y14 hy14 h15=>gO 7 E<|Kiz C (Ljo hy14) E Z E E E E E<|gO 3 E<|jC E h15 (fun h16=>?_) fun h19=>bK h19 fun y20 hy20 h21=>gA 7 E<|Kiz C (Lje hy20) E Z E E E E E<|gO 2 E<|bK h21 fun q22 hq22 h23=>Khy 5 [(0,.d (Sl Lcn l)),(3,I (i3:Int)),(4,.ptr 0 0),(9,.d (Sl Lcn l)),(10,I (l.length:Int)),(11,I (i3:Int)),(29,B q22)] [.box 83 [I x5.At,S x5.Node,S x5.Name,I x5.Value.Kind,I x5.Value.Number,S x5.Value.Words,I x5.Value.Version.1,I x5.Value.Version.2.1,I x5.Value.Version.2.2.1,I x5.Value.Version.2.2.2]] ?_ ?_
   ·refine gA 9 E<|bK h16 fun v17 hv17 h18=>?_
    cases h18
    obtain rfl:=hout12 _ rfl
    cases h7
    exact gA 4 E<|oSi hv17▸gP E E
   ·refine Kqw E E (fun hb=>?_) (fun hb=>?_)
    ·have h24:=cT hq22 hb
     exact gO 6 E<|oSi h24▸⟨⟨E,E,E,E,E,E,E,tV⟩,[],E,.inl E⟩
    have h25:=cF hq22 hb
    exact bK h25 fun y26 hy26 h27=>gO 2 E<|Kqu E<|Kiz C (Lje hy26) E Z E E E E E<|gO 3 E<|oSi h27▸⟨⟨E,E,E,E,E,E,E,tV⟩,[],E,.inl E⟩
   refine gO 2 E<|jC E h23 (fun h28=>?_) fun h31=>bK h31 fun y32 hy32 h33=>gA 7 E<|Kiz C (Ljl hy32) E Z E E E E E<|gO 9 E<|jC E h33 (fun h34=>?_) fun h37=>?_
   ·refine gA 9 E<|bK h28 fun v29 hv29 h30=>?_
    cases h30
    obtain rfl:=hout12 _ rfl
    cases h7
    exact gA 4 E<|oSi hv29▸gP E E
   ·refine gA 10 E<|bK h34 fun v35 hv35 h36=>?_
    cases h36
    obtain rfl:=hout12 _ rfl
    cases h7
    exact gA 4 E<|oSi hv35▸gP E E
   refine bK h37 fun q38 hq38 h39=>gA 3 E<|Kls [(0,.d (Sl Lcn l)),(9,.d (Sl Lcn l)),(10,I (l.length:Int)),(11,I (i3:Int)),(47,B q38)] [.box 83 [I x5.At,S x5.Node,S x5.Name,I x5.Value.Kind,I x5.Value.Number,S x5.Value.Words,I x5.Value.Version.1,I x5.Value.Version.2.1,I x5.Value.Version.2.2.1,I x5.Value.Version.2.2.2]] ?_ ?_
   ·refine jD<|gA 3 E<|Kga E E (fun hb=>?_) (fun hb=>?_)
    ·have h40:=cT hq38 hb
     exact bK h40 fun x41 hx41 h42=>Khq hΓ 3 E<|Kgx E E (Kij hΓ (enc:=Lcn) hx41 E E E E E (fun _=>E))<|bK h42 fun y43 hy43 h44=>Khq hΓ 2 E<|Kjb C (Ljs hy43) E E E E E E E<|Khq hΓ 3 E<|oSi h44▸⟨⟨E,E,E,E,E,tV⟩,[],E,.inl E⟩
    have h45:=cF hq38 hb
    exact Khq hΓ 10 E<|oSi h45▸⟨⟨E,E,E,E,E,tV⟩,[],E,.inl E⟩
   refine gA 1 E<|jC E h39 (fun h46=>?_) fun h49=>gA 7 E ?_
   ·refine gA 8 E<|bK h46 fun v47 hv47 h48=>?_
    cases h48
    obtain rfl:=hout12 _ rfl
    cases h7
    exact gA 4 E<|oSi hv47▸gP E E
   cases h49
   exact⟨_,E,⟨⟨E,E,E,Kgv E (Kgu (nLl hlt hb9)),tV⟩,[_],E,.inr ⟨HB.mk E,FB.mk E,Z⟩⟩⟩
  subst hgo
  exact gA 6 E<|Khu E (dF (Int.lt_irrefl _))<|gA 4 E<|⟨_,E,⟨tV,[],E,.inl E⟩⟩
 intro a8 ha
 subst ha
 replace h7:=Kll h7
 exact gA 7 E<|oSi h7▸gP E E
theorem Lju{fresh:Int}{r:Int}(h:Ler fresh=some r):Pure Tryz.prog 178 [I fresh] (I r):=by
 unfold Ler at h
 refine QP Tryz.func178 E E E<|bK h fun y1 hy1 h2=>gA 9 E<|Kiz C (Liz hy1) E Z E E E E E<|gO 2 E<|jC E h2 (fun h3=>?_) fun h4=>gA 8 E<|oSi h4▸gP E E
 exact gA 7 E<|oSi h3▸gP E E
theorem Ljv{k:Nat}{s:Str}{r:Bool}(h:Les k s=some r):Pure Tryz.prog 180 [S s] (B r):=by
 unfold Les at h
 exact QP Tryz.func180 E E E<|bK h fun y1 hy1 h2=>gA 8 E<|Kiz C (Lje hy1) E Z E E E E E<|gO 5 E<|oSi h2▸gP E E
theorem Ljw{k:Nat}{s:List Str}{r:Int}(h:Let k s=some r):Pure Tryz.prog 232 [.d (Sl eS s),.fn (.func 180) [] []] (I r):=by
 unfold Let at h
 refine QP Tryz.func232 E E E<|gA 13 E<|bK h fun q4 hq4 h5=>Kii 0 E fun hb7=>Klr (R:=fun a6=>q4=.go a6) (fun a6=>[]) (fun a6=>[]) ?_ ?_
 ·refine gA 1 E<|Kih s hq4 (fun i1 s2=>[(0,.d (Sl eS s)),(1,.fn (.func 180) [] []),(7,I (s.length:Int)),(8,I (i1:Int))]) (fun s2=>[]) ⟨⟨E,E,E,E,tV⟩,[],E,.inl E⟩ (fun i1 x3 s2 y11 hx8 hlt hy9 hout10=>?_) (fun s2 hgo=>?_)
  ·refine gA 6 E<|Kht E (dT (Int.ofNat_lt.2 hlt))<|gA 15 E<|eo_o E (Kij hΓ (enc:=eS) (Kic hx8) E E E E E (fun _=>E))<|bK hy9 fun y12 hy12 h13=>gO 1 E<|Kiz C (Ljv hy12) E Z E E E E E<|gO 2 E<|jC E h13 (fun h14=>?_) fun h17=>gA 7 E ?_
   ·refine gA 9 E<|bK h14 fun v15 hv15 h16=>?_
    cases h16
    obtain rfl:=hout10 _ rfl
    cases h5
    exact gA 4 E<|oSi hv15▸gP E E
   cases h17
   exact⟨_,E,⟨⟨E,E,E,Kgv E (Kgu (nLl hlt hb7)),tV⟩,[],E,.inl E⟩⟩
  subst hgo
  exact gA 6 E<|Khu E (dF (Int.lt_irrefl _))<|gA 4 E<|⟨_,E,⟨tV,[],E,.inl E⟩⟩
 intro a6 ha
 subst ha
 replace h5:=Kll h5
 exact gA 7 E<|oSi h5▸gP E E
theorem Ljx{k:Nat}{s:List Str}{r:Bool}(h:Leu k s=some r):Pure Tryz.prog 179 [.d (Sl eS s),.fn (.func 180) [] []] (B r):=by
 unfold Leu at h
 exact QP Tryz.func179 E E E<|bK h fun y1 hy1 h2=>gA 9 E<|Kiz C (Ljw hy1) E Z E E E E E<|gO 5 E<|oSi h2▸gP E E
theorem Ljy{k:Nat}{l:List Lcy}{fresh:Int}{names:List Str}{r:Int}(h:Lev k l fresh names=some r):Pure Tryz.prog 93 [.d (Sl Lcn l),I fresh,.d (Sl eS names)] (I r):=by
 unfold Lev at h
 refine QP Tryz.func93 E E E<|bK h fun y1 hy1 h2=>gA 9 E<|Kiz C (Ljt hy1) E Z E E E E E<|gO 9 E<|jC E h2 (fun h3=>?_) fun h4=>bK h4 fun y5 hy5 h6=>gA 6 E<|Kiz C (Lju hy5) E Z E E E E E<|gO 9 E<|jC E h6 (fun h7=>?_) fun h8=>?_
 ·exact gA 8 E<|oSi h3▸gP E E
 ·exact gA 8 E<|oSi h7▸gP E E
 refine bK h8 fun y9 hy9 h10=>gA 6 E<|Kiz C (Ljx hy9) E Z E E E E E<|gO 2 E<|jC E h10 (fun h11=>?_) fun h12=>gA 8 E<|oSi h12▸gP E E
 exact gA 7 E<|oSi h11▸gP E E
theorem Ljz{v_at:Int}{r:Int}(h:Lew v_at=some r):Pure Tryz.prog 119 [I v_at] (I r):=by
 unfold Lew at h
 refine QP Tryz.func119 E E E<|bK h fun y1 hy1 h2=>gA 9 E<|Kiz C (Ljo hy1) E Z E E E E E<|gO 3 E<|jC E h2 (fun h3=>?_) fun h4=>gA 8 E<|oSi h4▸gP E E
 exact gA 7 E<|oSi h3▸gP E E
theorem Lka{l:List Lcy}{fresh:Int}{al:List Bool}{r:Ldb×(List Bool)}(h:Lex l fresh al=some r):EC Tryz.prog 95 [.d (Sl Lcn l),I fresh] [.bag al [] []] fun g hp'=>g=.ptr 2 0∧hp'=[.bag r.2 [] [],mOb (kD Lcp) false (eT 83 10 Lcn) r.1.list,.box 240 [I r.1.fresh,.map 1]]:=by
 unfold Lex at h
 refine QM Tryz.func95 E Z<|gA 8 E<|eo_s Z (nblt.1 E) (Kmv false)<|Kjh [.bag al [] [],mOb (kD Lcp) false (eT 83 10 Lcn) ([]:List (Lda×(Tl Lcy)))] E<|Kfq hΓ (gs:=[I fresh,.map 1]) E E E E E E E<|Ksd E E E E Z<|gO 11 E<|bK h fun q4 hq4 h5=>Kii 13 E fun hb7=>Kls [(5,.ptr 2 0)] [.bag q4.1 [] [],mOb (kD Lcp) false (eT 83 10 Lcn) q4.2,.box 240 [I fresh,.map 1]] ?_ ?_
 ·refine gA 1 E<|Kjo l hq4 (fun i1 s2=>[(5,.ptr 2 0),(13,.d (Sl Lcn l)),(14,I (l.length:Int)),(15,I (i1:Int))]) (fun s2=>[.bag s2.1 [] [],mOb (kD Lcp) false (eT 83 10 Lcn) s2.2,.box 240 [I fresh,.map 1]]) ⟨⟨E,E,E,E,tV⟩,[],E,.inl E⟩ (fun i1 x3 s2 y11 hx8 hlt hy9=>?_) (?_)
  ·refine gA 6 E<|Kht E (dT (Int.ofNat_lt.2 hlt))<|gA 6 E<|eo_o E (Kij hΓ (enc:=Lcn) (Kic hx8) E E E E E (fun _=>E))<|gO 1 E<|Ksc hΓ E E E Z<|Ksh hΓ E E E E E E E E Z<|Kjh [.bag s2.1 [] [],mOb (kD Lcp) false (eT 83 10 Lcn) s2.2,.box 240 [I fresh,.map 1],.box 83 [I x3.At,S x3.Node,S x3.Name,I x3.Value.Kind,I x3.Value.Number,S x3.Value.Words,I x3.Value.Version.1,I x3.Value.Version.2.1,I x3.Value.Version.2.2.1,I x3.Value.Version.2.2.2]] E<|gO 8 E<|Kfq hΓ (gs:=[S x3.Node,S x3.Name]) E E E E E E E<|Ksc hΓ E E E Z<|Ksh hΓ E E E E E E E E Z<|Kjh [.bag s2.1 [] [],mOb (kD Lcp) false (eT 83 10 Lcn) s2.2,.box 240 [I fresh,.map 1],.box 83 [I x3.At,S x3.Node,S x3.Name,I x3.Value.Kind,I x3.Value.Number,S x3.Value.Words,I x3.Value.Version.1,I x3.Value.Version.2.1,I x3.Value.Version.2.2.1,I x3.Value.Version.2.2.2],.box 242 [S x3.Node,S x3.Name]] E<|gO 2 E<|Koi (kv:=(kD Lcp)) (agg:=false) (enc:=(eT 83 10 Lcn)) (id:=1) s2.2 E Z (fun mr12 bs13 cl14 hbl15=>?_)
   refine j_hp [.bag s2.1 [] [],mObS (kD Lcp) false (eT 83 10 Lcn) s2.2 (rawM (kD Lcp) (eT 83 10 Lcn) mr12 bs13 cl14),.box 240 [I fresh,.map 1],.box 83 [I x3.At,S x3.Node,S x3.Name,I x3.Value.Kind,I x3.Value.Number,S x3.Value.Words,I x3.Value.Version.1,I x3.Value.Version.2.1,I x3.Value.Version.2.2.1,I x3.Value.Version.2.2.2],.box 242 [S x3.Node,S x3.Name]] E<|Kkv [.dead,.dead,.box 240 [I fresh,.map 1],.box 83 [I x3.At,S x3.Node,S x3.Name,I x3.Value.Kind,I x3.Value.Number,S x3.Value.Words,I x3.Value.Version.1,I x3.Value.Version.2.1,I x3.Value.Version.2.2.1,I x3.Value.Version.2.2.2],.box 242 [S x3.Node,S x3.Name]] [3,4,5] [7,9,11] [] hmix (by kernel_rfl) (by kernel_rfl) ⟨E,E,E,tV⟩ Z<|go_E hΓ 6 E<|Klh hΓ (enc:=Lcn) [x3] E E E E E E E E E E E E<|ge_h [.bag s2.1 [] [],mObS (kD Lcp) false (eT 83 10 Lcn) (mEnt s2.2 (⟨x3.Node,x3.Name⟩:Lda) ((1,[]):Tl Lcy)) (rawM (kD Lcp) (eT 83 10 Lcn) (entR mr12 (⟨x3.Node,x3.Name⟩:Lda) ((1,[]):Tl Lcy)) (entB mr12 bs13 cl14 (⟨x3.Node,x3.Name⟩:Lda)) (entC mr12 cl14 (⟨x3.Node,x3.Name⟩:Lda))),.box 240 [I fresh,.map 1],.box 83 [I x3.At,S x3.Node,S x3.Name,I x3.Value.Kind,I x3.Value.Number,S x3.Value.Words,I x3.Value.Version.1,I x3.Value.Version.2.1,I x3.Value.Version.2.2.1,I x3.Value.Version.2.2.2],.box 242 [S x3.Node,S x3.Name]] E E E (Klb ⟨E,E,E,tV⟩) (Kle (Kpl hΓ (kenc:=Lcp) (agg:=false) (enc:=(eT 83 10 Lcn)) (id:=1) s2.2 mr12 (⟨x3.Node,x3.Name⟩:Lda) ((1,[]):Tl Lcy) E E E Lct (fun _=>E) E E E (Kny E) E hbl15 E))<|bK hy9 fun y16 hy16 h17=>go_E hΓ 1 E<|ge_h [.bag y16.2 [] [],mObS (kD Lcp) false (eT 83 10 Lcn) (mEnt s2.2 (⟨x3.Node,x3.Name⟩:Lda) ((1,[]):Tl Lcy)) (rawM (kD Lcp) (eT 83 10 Lcn) (entR mr12 (⟨x3.Node,x3.Name⟩:Lda) ((1,[]):Tl Lcy)) (entB mr12 bs13 cl14 (⟨x3.Node,x3.Name⟩:Lda)) (entC mr12 cl14 (⟨x3.Node,x3.Name⟩:Lda))),.box 240 [I fresh,.map 1],.box 83 [I x3.At,S x3.Node,S x3.Name,I x3.Value.Kind,I x3.Value.Number,S x3.Value.Words,I x3.Value.Version.1,I x3.Value.Version.2.1,I x3.Value.Version.2.2.1,I x3.Value.Version.2.2.2],.box 242 [S x3.Node,S x3.Name]] E E E (Klb ⟨E,E,E,tV⟩) (Kle (Knt hΓ (enc:=Lcn) (bg:=0) hy16 E E E E E E E E (fun _=>E) E E))<|go_E hΓ 1 E<|Kkz [.bag y16.2 [] [],mOb (kD Lcp) false (eT 83 10 Lcn) (mSet s2.2 (⟨x3.Node,x3.Name⟩:Lda) y16.1),.box 240 [I fresh,.map 1],.box 83 [I x3.At,S x3.Node,S x3.Name,I x3.Value.Kind,I x3.Value.Number,S x3.Value.Words,I x3.Value.Version.1,I x3.Value.Version.2.1,I x3.Value.Version.2.2.1,I x3.Value.Version.2.2.2],.box 242 [S x3.Node,S x3.Name]] E E (Klb ⟨E,E,E,tV⟩) (Klf (Kpm (kenc:=Lcp) (agg:=false) (enc:=(eT 83 10 Lcn)) (id:=1) s2.2 mr12 (⟨x3.Node,x3.Name⟩:Lda) ((1,[]):Tl Lcy) y16.1 Lct E E E E E hbl15 E))<|Kkw<|gA 6 E ?_
   cases h17
   exact⟨⟨E,E,E,Kgv E (Kgu (nLl hlt hb7)),tV⟩,[_,_],E,.inr ⟨HB.mk E,FB.mk E,Z⟩⟩
  exact gA 6 E<|Khu E (dF (Int.lt_irrefl _))<|gA 4 E<|⟨⟨E,tV⟩,[],E,.inl E⟩
 exact gA 8 E<|Kln<|oSi h5▸Kjm hΓ [] (.inr E) E E E E (.inl E)
theorem Lkb{s1:List Int}{s2:List Int}{r:Int}(h:Lez s1 s2=some r):Pure Tryz.prog 132 [.d (Sl (eN .i64) s1),.d (Sl (eN .i64) s2)] (I r):=by
 unfold Lez at h
 refine QP Tryz.func132 E E E<|gA 13 E<|bK h fun q5 hq5 h6=>Kii 0 E fun hb8=>Klr (R:=fun a7=>q5=.go a7) (fun a7=>[(0,.d (Sl (eN .i64) s1)),(1,.d (Sl (eN .i64) s2))]) (fun a7=>[]) ?_ ?_
 ·refine gA 1 E<|Kih s1 hq5 (fun i1 s3=>[(0,.d (Sl (eN .i64) s1)),(1,.d (Sl (eN .i64) s2)),(9,.d (Sl (eN .i64) s1)),(10,I (s1.length:Int)),(11,I (i1:Int))]) (fun s3=>[]) ⟨⟨E,E,E,E,E,tV⟩,[],E,.inl E⟩ (fun i1 x4 s3 y12 hx9 hlt hy10 hout11=>?_) (fun s3 hgo=>?_)
  ·refine gA 6 E<|Kht E (dT (Int.ofNat_lt.2 hlt))<|gA 7 E<|eo_o E (Kij hΓ (enc:=(eN .i64)) (Kic hx9) E E E E E (fun _=>E))<|gO 14 E<|jC E hy10 (fun h13=>?_) fun h16=>bK h16 fun x17 hx17 h18=>gA 6 E<|eo_o E (Kij hΓ (enc:=(eN .i64)) hx17 E E E E E (fun _=>E))<|bK h18 fun y19 hy19 h20=>gO 8 E<|Kiz C (Ljq hy19) E Z E E E E E<|gO 9 E<|jC E h20 (fun h21=>?_) fun h24=>?_
   ·refine gA 9 E<|bK h13 fun v14 hv14 h15=>?_
    cases h15
    obtain rfl:=hout11 _ rfl
    cases h6
    exact gA 4 E<|oSi hv14▸gP E E
   ·refine gA 9 E<|bK h21 fun v22 hv22 h23=>?_
    cases h23
    obtain rfl:=hout11 _ rfl
    cases h6
    exact gA 4 E<|oSi hv22▸gP E E
   refine gA 7 E ?_
   cases h24
   exact⟨_,E,⟨⟨E,E,E,E,Kgv E (Kgu (nLl hlt hb8)),tV⟩,[],E,.inl E⟩⟩
  subst hgo
  exact gA 6 E<|Khu E (dF (Int.lt_irrefl _))<|gA 4 E<|⟨_,E,⟨⟨E,E,tV⟩,[],E,.inl E⟩⟩
 intro a7 ha
 subst ha
 replace h6:=Kll h6
 refine gA 11 E<|jC E h6 (fun h25=>?_) fun h26=>gA 8 E<|oSi h26▸gP E E
 exact gA 7 E<|oSi h25▸gP E E
theorem Lkc{a:Lcv}{b:Lcv}{r:Int}(h:Lfa a b=some r):Pure Tryz.prog 125 [.agg [I a.Kind,I a.Number,S a.Words,I a.Version.1,I a.Version.2.1,I a.Version.2.2.1,I a.Version.2.2.2],.agg [I b.Kind,I b.Number,S b.Words,I b.Version.1,I b.Version.2.1,I b.Version.2.2.1,I b.Version.2.2.2]] (I r):=by
 unfold Lfa at h
 exact QP Tryz.func125 E E E<|gA 2 E<|Ksd E E E E Z<|Ksd E E E E Z<|gO 4 E<|Kox (ds:=[.v (.int .i64 a.Kind),.v (.int .i64 a.Number),.v (.string ⟨a.Words.toArray⟩),.v (.int .i64 a.Version.1),.v (.int .i64 a.Version.2.1),.v (.int .i64 a.Version.2.2.1),.v (.int .i64 a.Version.2.2.2)]) 0 2 [.dead,.box 29 [I b.Kind,I b.Number,S b.Words,I b.Version.1,I b.Version.2.1,I b.Version.2.2.1,I b.Version.2.2.2]] E E E Z<|Kox (ds:=[.v (.int .i64 b.Kind),.v (.int .i64 b.Number),.v (.string ⟨b.Words.toArray⟩),.v (.int .i64 b.Version.1),.v (.int .i64 b.Version.2.1),.v (.int .i64 b.Version.2.2.1),.v (.int .i64 b.Version.2.2.2)]) 1 3 [.dead,.dead] E E E Z<|jD<|bK h fun y1 hy1 h2=>gA 4 E<|Kja C (Ljq hy1) E E E E E E<|bK h2 fun y3 hy3 h4=>Khq hΓ 4 E<|Kja C (Lau hy3) E E E E E E<|Khq hΓ 1 E<|gl_o E (Kpj hΓ ([a.Version.1,a.Version.2.1,a.Version.2.2.1,a.Version.2.2.2]:List Int) E E E E E E E)<|Khq hΓ 1 E<|gl_o E (Kpj hΓ ([b.Version.1,b.Version.2.1,b.Version.2.2.1,b.Version.2.2.2]:List Int) E E E E E E E)<|bK h4 fun y5 hy5 h6=>Kja C (Lkb hy5) E E E E E E<|Kiu hΓ (enc:=(eN .i64)) [y1,y3,y5] E E E E E E E E E E E E<|bK h6 fun y7 hy7 h8=>Kja C (Ljr hy7) E E E E E E<|Khq hΓ 4 E<|oSi h8▸gP E E
theorem Lkd{op:Str}{n:Int}{r:Bool}(h:Lfb op n=some r):Pure Tryz.prog 230 [S op,I n] (B r):=by
 unfold Lfb at h
 refine QP Tryz.func230 E E E<|gA 18 E<|jC E h (fun h1=>?_) fun h2=>gA 6 E<|jC E h2 (fun h3=>?_) fun h4=>?_
 ·exact gA 10 E<|oSi h1▸gP E E
 ·exact gA 10 E<|oSi h3▸gP E E
 refine gA 6 E<|jC E h4 (fun h5=>?_) fun h6=>gA 6 E<|jC E h6 (fun h7=>?_) fun h8=>?_
 ·exact gA 10 E<|oSi h5▸gP E E
 ·exact gA 10 E<|oSi h7▸gP E E
 refine gA 6 E<|jC E h8 (fun h9=>?_) fun h10=>gA 11 E<|oSi h10▸gP E E
 exact gA 10 E<|oSi h9▸gP E E
theorem Lke{a:List Int}{b:List Int}{r:Bool}(h:Lfc a b=some r):Pure Tryz.prog 296 [.d (Sl (eN .i64) a),.d (Sl (eN .i64) b)] (B r):=by
 unfold Lfc at h
 exact QP Tryz.func296 E E E<|bK h fun y1 hy1 h2=>gA 11 E<|Kiz C (Ljq hy1) E Z E E E E E<|bK h2 fun y3 hy3 h4=>gO 2 E<|Kiz C (Lkb hy3) E Z E E E E E<|Kit hΓ (enc:=(eN .i64)) [y1,y3] E E E E E E E E E E E E Z<|bK h4 fun y5 hy5 h6=>Kiz C (Ljr hy5) E Z E E E E E<|gO 5 E<|oSi h6▸gP E E
theorem Lkf{s:List Int}{r:List Int}(h:Lfd s=some r):EC Tryz.prog 110 [.d (Sl (eN .i64) s)] [] fun g hp'=>g=.sl 0 r.length∧hp'=[rO 3 1 (eN .i64) r]:=by
 unfold Lfd at h
 refine QM Tryz.func110 E Z<|gA 2 E<|Kiw (t:=0) 3 1 E Z<|gO 6 E<|Khj hΓ E E E E E fun b hbn=>?_
 rcases b with _ | _
 ·exact gO 7 E<|Kiv hΓ (enc:=(eN .i64)) ([]:List Int) E E E E E E E E E E E E Z<|bK h fun y1 hy1 h2=>gO 1 E<|Kji hΓ (enc:=(eN .i64)) hy1 E E E E E E E E E (fun _=>E) E E E E<|gO 3 E<|Knk 0 [.dead,rO 3 1 (eN .i64) y1] E Z<|Kkr 1 0 [rO 3 1 (eN .i64) y1,.dead] E E E E E E<|gA 1 E<|Kln<|oSi h2▸Kjm hΓ [_] (.inr E) E E E E (.inr ⟨HB.mk E,E⟩)
 obtain rfl:=List.eq_nil_of_length_eq_zero (hbn rfl).1
 replace h:(some ([]:List Int):Option (List Int))=some r:=h
 exact gO 5 E<|Kiw (t:=0) 3 1 E Z<|gO 4 E<|Kni 0 [.dead,rO 3 1 (eN .i64) ([]:List Int)] E Z<|Klq 1 0 [rO 3 1 (eN .i64) ([]:List Int),.dead] E E E E E E<|Kln<|oSi h▸Kjm hΓ [_] (.inr E) E E E E (.inr ⟨HB.mk E,E⟩)
theorem Lkg{rc_posture_Record_judge:Ldb→Lcw→Str→Int→Int→Option (Ldc×Int)}(ih_posture_Record_judge:∀ {v_r:Ldb} {c:Lcw} {node:Str} {v_at:Int} {n:Int} {r:Ldc×Int},rc_posture_Record_judge v_r c node v_at n=some r→EC Tryz.prog 177 [.ptr 1 0,.agg [I c.Kind,S c.Name,S c.Op,I c.Value.Kind,I c.Value.Number,S c.Value.Words,I c.Value.Version.1,I c.Value.Version.2.1,I c.Value.Version.2.2.1,I c.Value.Version.2.2.2,.d (.ro c.Kids.n c.Kids.xs)],S node,I v_at,.ptr 2 0] [mOb (kD Lcp) false (eT 83 10 Lcn) v_r.list,.box 240 [I v_r.fresh,.map 0],.box 3 [I n]] fun g hp'=>g=.agg [I r.1.is,.d (Sl (eN .i64) r.1.proof)]∧hp'=[mOb (kD Lcp) false (eT 83 10 Lcn) v_r.list,.box 240 [I v_r.fresh,.map 0],.box 3 [I r.2]]){v_r:Ldb}{c:Lcw}{node:Str}{v_at:Int}{n:Int}{weak:Int}{strong:Int}{r:Ldc×Int}(h:Lfe rc_posture_Record_judge v_r c node v_at n weak strong=some r):EC Tryz.prog 231 [.ptr 1 0,.agg [I c.Kind,S c.Name,S c.Op,I c.Value.Kind,I c.Value.Number,S c.Value.Words,I c.Value.Version.1,I c.Value.Version.2.1,I c.Value.Version.2.2.1,I c.Value.Version.2.2.2,.d (.ro c.Kids.n c.Kids.xs)],S node,I v_at,.ptr 2 0,I weak,I strong] [mOb (kD Lcp) false (eT 83 10 Lcn) v_r.list,.box 240 [I v_r.fresh,.map 0],.box 3 [I n]] fun g hp'=>g=.agg [I r.1.is,.d (Sl (eN .i64) r.1.proof)]∧hp'=[mOb (kD Lcp) false (eT 83 10 Lcn) v_r.list,.box 240 [I v_r.fresh,.map 0],.box 3 [I r.2]]:=by
 unfold Lfe at h
 refine QN Tryz.func231 E Z<|gA 2 E<|Ksd E E E E Z<|Ksc hΓ E E E Z<|gO 5 E<|Kfq hΓ (gs:=[I weak,.d (Sl (eN .i64) [])]) E E E E E E E<|Ksc hΓ E E E Z<|Ksh hΓ E E E E E E E E Z<|Kjh [mOb (kD Lcp) false (eT 83 10 Lcn) v_r.list,.box 240 [I v_r.fresh,.map 0],.box 3 [I n],.box 32 [I c.Kind,S c.Name,S c.Op,I c.Value.Kind,I c.Value.Number,S c.Value.Words,I c.Value.Version.1,I c.Value.Version.2.1,I c.Value.Version.2.2.1,I c.Value.Version.2.2.2,.d (.ro c.Kids.n c.Kids.xs)],.box 140 [I 0,.d (Sl (eN .i64) [])],.box 140 [I weak,.d (Sl (eN .i64) [])]] E<|bK h fun l1 hl1 h2=>gO 6 E<|eo_o E (Knu (Krq hΓ (g:=.d (.ro c.Kids.n c.Kids.xs)) E) (G.Le.unk Lht hl1))<|gO 4 E<|bK h2 fun q6 hq6 h7=>Kii 22 E fun hb9=>Kls [(14,.ptr 4 0),(15,.ptr 5 0)] [mOb (kD Lcp) false (eT 83 10 Lcn) v_r.list,.box 240 [I v_r.fresh,.map 0],.box 3 [I q6.1],.box 32 [I c.Kind,S c.Name,S c.Op,I c.Value.Kind,I c.Value.Number,S c.Value.Words,I c.Value.Version.1,I c.Value.Version.2.1,I c.Value.Version.2.2.1,I c.Value.Version.2.2.2,.d (.ro c.Kids.n c.Kids.xs)],.box 140 [I 0,.d (Sl (eN .i64) [])],.box 140 [I q6.2.is,.d (Sl (eN .i64) q6.2.proof)]] ?_ ?_
 ·refine gA 1 E<|Kjo l1 hq6 (fun i3 s4=>[(0,.ptr 1 0),(2,S node),(3,I v_at),(4,.ptr 2 0),(6,I strong),(14,.ptr 4 0),(15,.ptr 5 0),(22,.d (Sl Lcx l1)),(23,I (l1.length:Int)),(24,I (i3:Int))]) (fun s4=>[mOb (kD Lcp) false (eT 83 10 Lcn) v_r.list,.box 240 [I v_r.fresh,.map 0],.box 3 [I s4.1],.box 32 [I c.Kind,S c.Name,S c.Op,I c.Value.Kind,I c.Value.Number,S c.Value.Words,I c.Value.Version.1,I c.Value.Version.2.1,I c.Value.Version.2.2.1,I c.Value.Version.2.2.2,.d (.ro c.Kids.n c.Kids.xs)],.box 140 [I 0,.d (Sl (eN .i64) [])],.box 140 [I s4.2.is,.d (Sl (eN .i64) s4.2.proof)]]) ⟨⟨E,E,E,E,E,E,E,E,E,E,tV⟩,[],E,.inl E⟩ (fun i3 x5 s4 y13 hx10 hlt hy11=>?_) (?_)
  ·refine gA 6 E<|Kht E (dT (Int.ofNat_lt.2 hlt))<|gA 6 E<|eo_o E (Kij hΓ (enc:=Lcx) (Kic hx10) E E E E E (fun _=>E))<|gO 1 E<|Ksc hΓ E E E Z<|Ksh hΓ E E E E E E E E Z<|Kjh [mOb (kD Lcp) false (eT 83 10 Lcn) v_r.list,.box 240 [I v_r.fresh,.map 0],.box 3 [I s4.1],.box 32 [I c.Kind,S c.Name,S c.Op,I c.Value.Kind,I c.Value.Number,S c.Value.Words,I c.Value.Version.1,I c.Value.Version.2.1,I c.Value.Version.2.2.1,I c.Value.Version.2.2.2,.d (.ro c.Kids.n c.Kids.xs)],.box 140 [I 0,.d (Sl (eN .i64) [])],.box 140 [I s4.2.is,.d (Sl (eN .i64) s4.2.proof)],.box 32 [I x5.Kind,S x5.Name,S x5.Op,I x5.Value.Kind,I x5.Value.Number,S x5.Value.Words,I x5.Value.Version.1,I x5.Value.Version.2.1,I x5.Value.Version.2.2.1,I x5.Value.Version.2.2.2,.d (.ro x5.Kids.n x5.Kids.xs)]] E<|bK hy11 fun y14 hy14 h15=>gO 9 E<|Kiy [0,1,2] (.agg [I y14.1.is,.d (Sl (eN .i64) y14.1.proof)]) [mOb (kD Lcp) false (eT 83 10 Lcn) v_r.list,.box 240 [I v_r.fresh,.map 0],.box 3 [I y14.2],.box 32 [I c.Kind,S c.Name,S c.Op,I c.Value.Kind,I c.Value.Number,S c.Value.Words,I c.Value.Version.1,I c.Value.Version.2.1,I c.Value.Version.2.2.1,I c.Value.Version.2.2.2,.d (.ro c.Kids.n c.Kids.xs)],.box 140 [I 0,.d (Sl (eN .i64) [])],.box 140 [I s4.2.is,.d (Sl (eN .i64) s4.2.proof)],.box 32 [I x5.Kind,S x5.Name,S x5.Op,I x5.Value.Kind,I x5.Value.Number,S x5.Value.Words,I x5.Value.Version.1,I x5.Value.Version.2.1,I x5.Value.Version.2.2.1,I x5.Value.Version.2.2.2,.d (.ro x5.Kids.n x5.Kids.xs)]] C (ih_posture_Record_judge hy14) E Z E E E E E E E E E E<|Ksc hΓ E E E Z<|Ksh hΓ E E E E E E E E Z<|Kjh [mOb (kD Lcp) false (eT 83 10 Lcn) v_r.list,.box 240 [I v_r.fresh,.map 0],.box 3 [I y14.2],.box 32 [I c.Kind,S c.Name,S c.Op,I c.Value.Kind,I c.Value.Number,S c.Value.Words,I c.Value.Version.1,I c.Value.Version.2.1,I c.Value.Version.2.2.1,I c.Value.Version.2.2.2,.d (.ro c.Kids.n c.Kids.xs)],.box 140 [I 0,.d (Sl (eN .i64) [])],.box 140 [I s4.2.is,.d (Sl (eN .i64) s4.2.proof)],.box 32 [I x5.Kind,S x5.Name,S x5.Op,I x5.Value.Kind,I x5.Value.Number,S x5.Value.Words,I x5.Value.Version.1,I x5.Value.Version.2.1,I x5.Value.Version.2.2.1,I x5.Value.Version.2.2.2,.d (.ro x5.Kids.n x5.Kids.xs)],.box 140 [I y14.1.is,.d (Sl (eN .i64) y14.1.proof)]] E<|gO 12 E<|Khs E (fun hb=>?_) (fun hb=>?_)
   ·have h16:=cT h15 hb
    refine gA 7 E<|bK h16 fun q17 hq17 h18=>Khy 6 [(0,.ptr 1 0),(2,S node),(3,I v_at),(4,.ptr 2 0),(6,I strong),(14,.ptr 4 0),(15,.ptr 5 0),(18,.ptr 7 0),(22,.d (Sl Lcx l1)),(23,I (l1.length:Int)),(24,I (i3:Int)),(56,B q17)] [mOb (kD Lcp) false (eT 83 10 Lcn) v_r.list,.box 240 [I v_r.fresh,.map 0],.box 3 [I y14.2],.box 32 [I c.Kind,S c.Name,S c.Op,I c.Value.Kind,I c.Value.Number,S c.Value.Words,I c.Value.Version.1,I c.Value.Version.2.1,I c.Value.Version.2.2.1,I c.Value.Version.2.2.2,.d (.ro c.Kids.n c.Kids.xs)],.box 140 [I 0,.d (Sl (eN .i64) [])],.box 140 [I s4.2.is,.d (Sl (eN .i64) s4.2.proof)],.box 32 [I x5.Kind,S x5.Name,S x5.Op,I x5.Value.Kind,I x5.Value.Number,S x5.Value.Words,I x5.Value.Version.1,I x5.Value.Version.2.1,I x5.Value.Version.2.2.1,I x5.Value.Version.2.2.2,.d (.ro x5.Kids.n x5.Kids.xs)],.box 140 [I y14.1.is,.d (Sl (eN .i64) y14.1.proof)]] ?_ ?_
    ·refine Kqw E E (fun hb=>?_) (fun hb=>?_)
     ·have h19:=cT hq17 hb
      exact gO 7 E<|oSi h19▸⟨⟨E,E,E,E,E,E,E,E,E,E,E,E,tV⟩,[],E,.inl E⟩
     have h20:=cF hq17 hb
     exact bK h20 fun y21 hy21 h22=>gO 4 E<|Kqu E<|Kiz C (Lke hy21) E Z E E E E E<|gO 2 E<|oSi h22▸⟨⟨E,E,E,E,E,E,E,E,E,E,E,E,tV⟩,[],E,.inl E⟩
    refine gO 2 E<|jC E h18 (fun h23=>?_) fun h24=>gA 8 E ?_
    ·refine gA 2 E<|Ksh hΓ E E E E E E E E Z<|Kjh [mOb (kD Lcp) false (eT 83 10 Lcn) v_r.list,.box 240 [I v_r.fresh,.map 0],.box 3 [I y14.2],.box 32 [I c.Kind,S c.Name,S c.Op,I c.Value.Kind,I c.Value.Number,S c.Value.Words,I c.Value.Version.1,I c.Value.Version.2.1,I c.Value.Version.2.2.1,I c.Value.Version.2.2.2,.d (.ro c.Kids.n c.Kids.xs)],.box 140 [I 0,.d (Sl (eN .i64) [])],.box 140 [I y14.1.is,.d (Sl (eN .i64) y14.1.proof)],.box 32 [I x5.Kind,S x5.Name,S x5.Op,I x5.Value.Kind,I x5.Value.Number,S x5.Value.Words,I x5.Value.Version.1,I x5.Value.Version.2.1,I x5.Value.Version.2.2.1,I x5.Value.Version.2.2.2,.d (.ro x5.Kids.n x5.Kids.xs)],.box 140 [I y14.1.is,.d (Sl (eN .i64) y14.1.proof)]] E<|gO 8 E ?_
     cases h23
     exact⟨⟨E,E,E,E,E,E,E,E,E,Kgv E (Kgu (nLl hlt hb9)),tV⟩,[_,_],E,.inr ⟨HB.mk E,FB.mk E,Z⟩⟩
    cases h24
    exact⟨⟨E,E,E,E,E,E,E,E,E,Kgv E (Kgu (nLl hlt hb9)),tV⟩,[_,_],E,.inr ⟨HB.mk E,FB.mk E,Z⟩⟩
   have h25:=cF h15 hb
   refine gA 9 E<|Khs E (fun hb=>?_) (fun hb=>?_)
   ·have h26:=cT h25 hb
    refine gA 8 E ?_
    cases h26
    exact⟨⟨E,E,E,E,E,E,E,E,E,Kgv E (Kgu (nLl hlt hb9)),tV⟩,[_,_],E,.inr ⟨HB.mk E,FB.mk E,Z⟩⟩
   have h27:=cF h25 hb
   refine gA 6 E<|Khy 4 [(0,.ptr 1 0),(2,S node),(3,I v_at),(4,.ptr 2 0),(6,I strong),(14,.ptr 4 0),(15,.ptr 5 0),(18,.ptr 7 0),(22,.d (Sl Lcx l1)),(23,I (l1.length:Int)),(24,I (i3:Int)),(71,B (((y14.1.is:Int)==2)||((s4.2.is:Int)==2)))] [mOb (kD Lcp) false (eT 83 10 Lcn) v_r.list,.box 240 [I v_r.fresh,.map 0],.box 3 [I y14.2],.box 32 [I c.Kind,S c.Name,S c.Op,I c.Value.Kind,I c.Value.Number,S c.Value.Words,I c.Value.Version.1,I c.Value.Version.2.1,I c.Value.Version.2.2.1,I c.Value.Version.2.2.2,.d (.ro c.Kids.n c.Kids.xs)],.box 140 [I 0,.d (Sl (eN .i64) [])],.box 140 [I s4.2.is,.d (Sl (eN .i64) s4.2.proof)],.box 32 [I x5.Kind,S x5.Name,S x5.Op,I x5.Value.Kind,I x5.Value.Number,S x5.Value.Words,I x5.Value.Version.1,I x5.Value.Version.2.1,I x5.Value.Version.2.2.1,I x5.Value.Version.2.2.2,.d (.ro x5.Kids.n x5.Kids.xs)],.box 140 [I y14.1.is,.d (Sl (eN .i64) y14.1.proof)]] ?_ ?_
   ·refine Kqw E E (fun hb=>?_) (fun hb=>?_)
    ·exact gO 5 E<|⟨⟨E,E,E,E,E,E,E,E,E,E,E,Kgw E (or_t hb),tV⟩,[],E,.inl E⟩
    exact gO 5 E<|⟨⟨E,E,E,E,E,E,E,E,E,E,E,Kgw E (or_f hb),tV⟩,[],E,.inl E⟩
   refine gO 3 E<|jC E h27 (fun h28=>?_) fun h29=>Kkv [.dead,.dead,.dead,.dead,.dead,.box 140 [I s4.2.is,.d (Sl (eN .i64) s4.2.proof)],.dead,.box 140 [I y14.1.is,.d (Sl (eN .i64) y14.1.proof)]] [1,4] [2,5,7] [7] hmix (by kernel_rfl) (by kernel_rfl) ⟨E,E,tV⟩ Z<|bK h29 fun y30 hy30 h31=>go_E hΓ 2 E<|ge_h [mOb (kD Lcp) false (eT 83 10 Lcn) v_r.list,.box 240 [I v_r.fresh,.map 0],.box 3 [I y14.2],.box 32 [I c.Kind,S c.Name,S c.Op,I c.Value.Kind,I c.Value.Number,S c.Value.Words,I c.Value.Version.1,I c.Value.Version.2.1,I c.Value.Version.2.2.1,I c.Value.Version.2.2.2,.d (.ro c.Kids.n c.Kids.xs)],.box 140 [I 0,.d (Sl (eN .i64) [])],.box 140 [I s4.2.is,.d (Sl (eN .i64) s4.2.proof)],.box 32 [I x5.Kind,S x5.Name,S x5.Op,I x5.Value.Kind,I x5.Value.Number,S x5.Value.Words,I x5.Value.Version.1,I x5.Value.Version.2.1,I x5.Value.Version.2.2.1,I x5.Value.Version.2.2.2,.d (.ro x5.Kids.n x5.Kids.xs)],.box 140 [I y14.1.is,.d (Sl (eN .i64) y14.1.proof)],rO 3 1 (eN .i64) y30] E E E (Klb ⟨E,E,tV⟩) (Klg [] (.sl 8 y30.length) [mOb (kD Lcp) false (eT 83 10 Lcn) v_r.list,.box 240 [I v_r.fresh,.map 0],.box 3 [I y14.2],.box 32 [I c.Kind,S c.Name,S c.Op,I c.Value.Kind,I c.Value.Number,S c.Value.Words,I c.Value.Version.1,I c.Value.Version.2.1,I c.Value.Version.2.2.1,I c.Value.Version.2.2.2,.d (.ro c.Kids.n c.Kids.xs)],.box 140 [I 0,.d (Sl (eN .i64) [])],.box 140 [I s4.2.is,.d (Sl (eN .i64) s4.2.proof)],.box 32 [I x5.Kind,S x5.Name,S x5.Op,I x5.Value.Kind,I x5.Value.Number,S x5.Value.Words,I x5.Value.Version.1,I x5.Value.Version.2.1,I x5.Value.Version.2.2.1,I x5.Value.Version.2.2.2,.d (.ro x5.Kids.n x5.Kids.xs)],.box 140 [I y14.1.is,.d (Sl (eN .i64) y14.1.proof)],rO 3 1 (eN .i64) y30] C (Lkf hy30) E E E E E E E E E E)<|bK h31 fun y32 hy32 h33=>go_E hΓ 2 E<|ge_h [mOb (kD Lcp) false (eT 83 10 Lcn) v_r.list,.box 240 [I v_r.fresh,.map 0],.box 3 [I y14.2],.box 32 [I c.Kind,S c.Name,S c.Op,I c.Value.Kind,I c.Value.Number,S c.Value.Words,I c.Value.Version.1,I c.Value.Version.2.1,I c.Value.Version.2.2.1,I c.Value.Version.2.2.2,.d (.ro c.Kids.n c.Kids.xs)],.box 140 [I 0,.d (Sl (eN .i64) [])],.box 140 [I s4.2.is,.d (Sl (eN .i64) s4.2.proof)],.box 32 [I x5.Kind,S x5.Name,S x5.Op,I x5.Value.Kind,I x5.Value.Number,S x5.Value.Words,I x5.Value.Version.1,I x5.Value.Version.2.1,I x5.Value.Version.2.2.1,I x5.Value.Version.2.2.2,.d (.ro x5.Kids.n x5.Kids.xs)],.box 140 [I y14.1.is,.d (Sl (eN .i64) y14.1.proof)],.dead,.dead] E E E (Klb ⟨E,E,tV⟩) (Kle (Kpn (ds:=y32.flatMap (eN .i64)) 9 (nblt.1 E) (Kko hΓ (enc:=(eN .i64)) (id:=8) (h2:=show Γ 3=some ⟨_,1,_,_⟩ from E) hy32 E E E E E E E E (fun _=>E) E) E E E))<|go_E hΓ 1 E<|Kkz [mOb (kD Lcp) false (eT 83 10 Lcn) v_r.list,.box 240 [I v_r.fresh,.map 0],.box 3 [I y14.2],.box 32 [I c.Kind,S c.Name,S c.Op,I c.Value.Kind,I c.Value.Number,S c.Value.Words,I c.Value.Version.1,I c.Value.Version.2.1,I c.Value.Version.2.2.1,I c.Value.Version.2.2.2,.d (.ro c.Kids.n c.Kids.xs)],.box 140 [I 0,.d (Sl (eN .i64) [])],.box 140 [I s4.2.is,.d (Sl (eN .i64) y32)],.box 32 [I x5.Kind,S x5.Name,S x5.Op,I x5.Value.Kind,I x5.Value.Number,S x5.Value.Words,I x5.Value.Version.1,I x5.Value.Version.2.1,I x5.Value.Version.2.2.1,I x5.Value.Version.2.2.2,.d (.ro x5.Kids.n x5.Kids.xs)],.box 140 [I y14.1.is,.d (Sl (eN .i64) y14.1.proof)],.dead,.dead] E E (Kla E) (Klf (Kmd hΓ E E E E E E E E E))<|Kkw<|gA 7 E ?_
   ·refine gA 1 E<|Kfq hΓ (gs:=[I 2,.d (Sl (eN .i64) [])]) E E E E E E E<|Ksh hΓ E E E E E E E E Z<|Kjh [mOb (kD Lcp) false (eT 83 10 Lcn) v_r.list,.box 240 [I v_r.fresh,.map 0],.box 3 [I y14.2],.box 32 [I c.Kind,S c.Name,S c.Op,I c.Value.Kind,I c.Value.Number,S c.Value.Words,I c.Value.Version.1,I c.Value.Version.2.1,I c.Value.Version.2.2.1,I c.Value.Version.2.2.2,.d (.ro c.Kids.n c.Kids.xs)],.box 140 [I 0,.d (Sl (eN .i64) [])],.box 140 [I 2,.d (Sl (eN .i64) [])],.box 32 [I x5.Kind,S x5.Name,S x5.Op,I x5.Value.Kind,I x5.Value.Number,S x5.Value.Words,I x5.Value.Version.1,I x5.Value.Version.2.1,I x5.Value.Version.2.2.1,I x5.Value.Version.2.2.2,.d (.ro x5.Kids.n x5.Kids.xs)],.box 140 [I y14.1.is,.d (Sl (eN .i64) y14.1.proof)]] E<|gO 8 E ?_
    cases h28
    exact⟨⟨E,E,E,E,E,E,E,E,E,Kgv E (Kgu (nLl hlt hb9)),tV⟩,[_,_],E,.inr ⟨HB.mk E,FB.mk E,Z⟩⟩
   cases h33
   exact⟨⟨E,E,E,E,E,E,E,E,E,Kgv E (Kgu (nLl hlt hb9)),tV⟩,[_,_,_,_],E,.inr ⟨HB.mk E,FB.mk E,Z⟩⟩
  exact gA 6 E<|Khu E (dF (Int.lt_irrefl _))<|gA 4 E<|⟨⟨E,E,tV⟩,[],E,.inl E⟩
 exact gA 4 E<|Ksh hΓ E E E E E E E E Z<|Kjh [mOb (kD Lcp) false (eT 83 10 Lcn) v_r.list,.box 240 [I v_r.fresh,.map 0],.box 3 [I q6.1],.box 32 [I c.Kind,S c.Name,S c.Op,I c.Value.Kind,I c.Value.Number,S c.Value.Words,I c.Value.Version.1,I c.Value.Version.2.1,I c.Value.Version.2.2.1,I c.Value.Version.2.2.2,.d (.ro c.Kids.n c.Kids.xs)],.box 140 [I q6.2.is,.d (Sl (eN .i64) q6.2.proof)],.box 140 [I q6.2.is,.d (Sl (eN .i64) q6.2.proof)]] E<|gO 3 E<|oSi h7▸Kjm hΓ [_,_,_] (.inr E) E E E E (.inr ⟨HB.mk E,E⟩)
end Go.Proofs.YthhdojhbohfmnaaGreatDoor
