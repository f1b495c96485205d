import Derived.Test.YtfnjahjbpaoepaaGreatDoorXRM
import Derived.Test.YtfnjahjbpaoepaaGreatDoorGt
import Derived.Test.YtfnjahjbpaoepaaGreatDoorStr
import Derived.Test.YtfnjahjbpaoepaaGreatDoorStr2
import Derived.Test.YtfnjahjbpaoepaaGreatDoorStr4
import Derived.Test.YtfnjahjbpaoepaaGreatDoorStr5
import Derived.Test.YtfnjahjbpaoepaaGreatDoorStr6
import Derived.Test.YtfnjahjbpaoepaaGreatDoorStr7
import Derived.Test.YtfnjahjbpaoepaaGreatDoorBld
import Derived.Test.YtfnjahjbpaoepaaGreatDoorXRW1
set_option maxHeartbeats 8000000
set_option linter.all false
set_option maxRecDepth 100000
namespace Go.Proofs.YtfnjahjbpaoepaaGreatDoor
open Go.Gk
theorem Ldl{k:Nat}{text:Str}{r:(List Kzq)×Int×Int}(h:Lcq k text=some r):Pure Tryz.prog 12 [S text] (.tup [.d (Sl Lej r.1),I r.2.1,I r.2.2]):=by
 unfold Lcq at h
 refine QP Tryz.func12 E E E<|gA 15 E<|Kcm E (fun hb=>?_) (fun hb=>?_)
 ·have h1:=cT h hb
  exact gA 9 E<|oSi h1▸gP E E
 have h2:=cF h hb
 refine bK h2 fun y3 hy3 h4=>gA 5 E<|Kdq C (Lgw hy3) E Z E E E E E<|gO 9 E<|Kdn (t:=0) 43 6 E Z<|gO 10 E<|bK h4 fun q8 hq8 h9=>Kdc 5 E fun hb11=>Kgp (R:=fun a10=>q8=.go a10) (fun a10=>[(7,.sl 0 a10.length)]) (fun a10=>[rO 43 6 Lej a10]) ?_ ?_
 ·refine gA 1 E<|Kdb y3.1 hq8 (fun i5 s6=>[(5,.d (Sl eS y3.1)),(6,B y3.2),(7,.sl 0 s6.length),(21,.d (Sl eS y3.1)),(22,I (y3.1.length:Int)),(23,I (i5:Int))]) (fun s6=>[rO 43 6 Lej s6]) ⟨⟨E,E,E,E,E,E,tV⟩,[],E,.inl E⟩ (fun i5 x7 s6 y15 hx12 hlt hy13 hout14=>?_) (fun s6 hgo=>?_)
  ·refine gA 6 E<|Kcn E (dT (Int.ofNat_lt.2 hlt))<|gA 7 E<|eo_o E (Kdd hΓ (enc:=eS) (Kcw hx12) E E E E E (fun _=>E))<|bK hy13 fun y16 hy16 h17=>gO 8 E<|Kdq C (Lhh hy16) E Z E E E E E<|gO 3 E<|Kmp hΓ E E E Z<|Kmu hΓ E E E E E E E E Z<|Kdz [rO 43 6 Lej s6,.box 43 [B y16.1.Prefix.Addr.Six,U y16.1.Prefix.Addr.Hi,U y16.1.Prefix.Addr.Lo,I y16.1.Prefix.Bits,S y16.1.Node,I y16.1.Weight]] E<|gO 9 E<|Kcs 10 [(5,.d (Sl eS y3.1)),(6,B y3.2),(7,.sl 0 s6.length),(8,I (i5:Int)),(10,.ptr 1 0),(21,.d (Sl eS y3.1)),(22,I (y3.1.length:Int)),(23,I (i5:Int)),(45,B ((!y16.2)||((!y3.2)&&(((i5:Int):Int)==(wi ((y3.1.length:Int) - 1))))))] [rO 43 6 Lej s6,.box 43 [B y16.1.Prefix.Addr.Six,U y16.1.Prefix.Addr.Hi,U y16.1.Prefix.Addr.Lo,I y16.1.Prefix.Bits,S y16.1.Node,I y16.1.Weight]] ?_ ?_
   ·refine Klj E E (fun hb=>?_) (fun hb=>?_)
    ·exact gO 11 E<|⟨⟨E,E,E,E,E,E,E,E,Kbx E (or_t hb),tV⟩,[],E,.inl E⟩
    refine gO 3 E<|Kcs 6 [(5,.d (Sl eS y3.1)),(6,B y3.2),(7,.sl 0 s6.length),(8,I (i5:Int)),(10,.ptr 1 0),(21,.d (Sl eS y3.1)),(22,I (y3.1.length:Int)),(23,I (i5:Int)),(35,B false),(44,B ((!y3.2)&&(((i5:Int):Int)==(wi ((y3.1.length:Int) - 1)))))] [rO 43 6 Lej s6,.box 43 [B y16.1.Prefix.Addr.Six,U y16.1.Prefix.Addr.Hi,U y16.1.Prefix.Addr.Lo,I y16.1.Prefix.Bits,S y16.1.Node,I y16.1.Weight]] ?_ ?_
    ·refine Klj E E (fun hb=>?_) (fun hb=>?_)
     ·exact gO 7 E<|⟨⟨E,E,E,E,E,E,E,E,E,Kbx E (Kek hb),tV⟩,[],E,.inl E⟩
     exact gO 7 E<|⟨⟨E,E,E,E,E,E,E,E,E,Kbx E (Kel hb),tV⟩,[],E,.inl E⟩
    exact gO 2 E<|⟨⟨E,E,E,E,E,E,E,E,Kbx E (or_f hb),tV⟩,[],E,.inl E⟩
   refine gO 2 E<|jC E h17 (fun h18=>?_) fun h21=>gA 5 E<|Kdk hΓ (enc:=Lej) [y16.1] E E E E E E E E E E E E Z<|bK h21 fun y22 hy22 h23=>Kea hΓ (enc:=Lej) hy22 E E E E E E E E E (fun _=>E) E E E E<|gO 8 E ?_
   ·refine gA 12 E<|bK h18 fun v19 hv19 h20=>?_
    cases h20
    obtain rfl:=hout14 _ rfl
    cases h9
    exact gA 4 E<|oSi hv19▸gP E E
   cases h23
   exact⟨_,E,⟨⟨E,E,E,E,E,Kbw E (Kbv (nLl hlt hb11)),tV⟩,[_],E,.inr ⟨HB.mk E,FB.mk E,Z⟩⟩⟩
  subst hgo
  exact gA 6 E<|Kco E (dF (Int.lt_irrefl _))<|gA 4 E<|⟨_,E,⟨⟨E,tV⟩,[],E,.inl E⟩⟩
 intro a10 ha
 subst ha
 replace h9:=Kgk h9
 refine bK h9 fun y24 hy24 h25=>gA 5 E<|Kdt C (Lft hy24) E Z E E E E E<|gO 9 E<|jC E h25 (fun h26=>?_) fun h27=>gA 6 E<|Kdw 0 [2,7,52,57] _ [.dead] E E E Z<|gO 5 E<|oSi h27▸gP E E
 exact gA 10 E<|oSi h26▸gP E E
theorem Ldm{line:Str}{r:(List Str)×Bool}(h:Lcr line=some r):Pure Tryz.prog 71 [S line] (.tup [.d (Sl eS r.1),B r.2]):=by
 unfold Lcr at h
 exact QP Tryz.func71 E E E<|bK h fun y1 hy1 h2=>gA 9 E<|Kdq C (Pure.rows (Kur hy1) E E) E Z E E E E E<|bK h2 fun y3 hy3 h4=>gO 7 E<|Kdq C (Lgy hy3) E Z E E E E E<|gO 6 E<|oSi h4▸gP E E
theorem Ldn{s:Str}{r:Int×Bool}(h:Lcs s=some r):Pure Tryz.prog 306 [S s] (.tup [U r.1,B r.2]):=by
 unfold Lcs at h
 refine QP Tryz.func306 E E E<|bK h fun y1 hy1 h2=>gA 9 E<|Kdq C (Pure.rows (Kur hy1) E E) E Z E E E E E<|gO 11 E<|jC E h2 (fun h3=>?_) fun h4=>gA 15 E<|bK h4 fun q8 hq8 h9=>Kdc 15 E fun hb11=>Kgp (R:=fun a10=>q8=.go a10) (fun a10=>[(5,U a10)]) (fun a10=>[]) ?_ ?_
 ·exact gA 8 E<|oSi h3▸gP E E
 ·refine gA 1 E<|Kdb y1 hq8 (fun i5 s6=>[(5,U s6),(15,.d (Sl eS y1)),(16,I (y1.length:Int)),(17,I (i5:Int))]) (fun s6=>[]) ⟨⟨E,E,E,E,tV⟩,[],E,.inl E⟩ (fun i5 x7 s6 y15 hx12 hlt hy13 hout14=>?_) (fun s6 hgo=>?_)
  ·refine gA 6 E<|Kcn E (dT (Int.ofNat_lt.2 hlt))<|gA 6 E<|eo_o E (Kdd hΓ (enc:=eS) (Kcw hx12) E E E E E (fun _=>E))<|bK hy13 fun y16 hy16 h17=>gO 7 E ?_
   rcases y16 with⟨z18,_ | _⟩
   ·refine Kkb C (Kvs hy16) E Z E E E E fun et19 ex20=>gO 11 E<|eo_o E (Kjg hΓ E E E E)<|gO 24 E<|bK h17 fun v21 hv21 h22=>?_
    cases h22
    obtain rfl:=hout14 _ rfl
    cases h9
    exact gA 4 E<|oSi hv21▸gP E E
   refine Kdq C (Kvr hy16) E Z E E E E E<|gO 11 E<|eo_o E (Kji hΓ E E E E)<|bK h17 fun y23 hy23 h24=>gO 2 E<|Klh E<|Kdq C (Lgd hy23) E Z E E E E E<|gO 3 E<|bK h24 fun q25 hq25 h26=>Kcs 5 [(5,U s6),(8,I z18),(15,.d (Sl eS y1)),(16,I (y1.length:Int)),(17,I (i5:Int)),(38,B q25)] [] ?_ ?_
   ·refine Klj E E (fun hb=>?_) (fun hb=>?_)
    ·have h27:=cT hq25 hb
     exact gO 6 E<|oSi h27▸⟨⟨E,E,E,E,E,E,tV⟩,[],E,.inl E⟩
    have h28:=cF hq25 hb
    exact bK h28 fun y29 hy29 h30=>gO 1 E<|Klh E<|Kdq C (Kuw hy29) E Z E E E E E<|gO 4 E<|oSi h30▸⟨⟨E,E,E,E,E,E,tV⟩,[],E,.inl E⟩
   refine gO 2 E<|jC E h26 (fun h31=>?_) fun h34=>gA 16 E ?_
   ·refine gA 10 E<|bK h31 fun v32 hv32 h33=>?_
    cases h33
    obtain rfl:=hout14 _ rfl
    cases h9
    exact gA 4 E<|oSi hv32▸gP E E
   cases h34
   exact⟨_,E,⟨⟨E,E,E,Kbw E (Kbv (nLl hlt hb11)),tV⟩,[],E,.inl E⟩⟩
  subst hgo
  exact gA 6 E<|Kco E (dF (Int.lt_irrefl _))<|gA 4 E<|⟨_,E,⟨⟨E,tV⟩,[],E,.inl E⟩⟩
 intro a10 ha
 subst ha
 replace h9:=Kgk h9
 exact gA 9 E<|oSi h9▸gP E E
theorem Ldo{s:Str}{tail:Bool}{r:(List Int)×Bool}(h:Lct s tail=some r):Pure Tryz.prog 307 [S s,B tail] (.tup [.d (Sl (eN .u64) r.1),B r.2]):=by
 unfold Lct at h
 refine QP Tryz.func307 E E E<|gA 13 E<|Kcm E (fun hb=>?_) (fun hb=>?_)
 ·have h1:=cT h hb
  exact gA 8 E<|oSi h1▸gP E E
 have h2:=cF h hb
 refine bK h2 fun y3 hy3 h4=>gA 5 E<|Kdq C (Pure.rows (Kur hy3) E E) E Z E E E E E<|gO 5 E<|Kdn (t:=0) 37 1 E Z<|gO 10 E<|bK h4 fun q8 hq8 h9=>Kdc 6 E fun hb11=>Kgp (R:=fun a10=>q8=.go a10) (fun a10=>[(7,.sl 0 a10.length)]) (fun a10=>[rO 37 1 (eN .u64) a10]) ?_ ?_
 ·refine gA 1 E<|Kdb y3 hq8 (fun i5 s6=>[(1,B tail),(6,.d (Sl eS y3)),(7,.sl 0 s6.length),(18,.d (Sl eS y3)),(19,I (y3.length:Int)),(20,I (i5:Int))]) (fun s6=>[rO 37 1 (eN .u64) s6]) ⟨⟨E,E,E,E,E,E,tV⟩,[],E,.inl E⟩ (fun i5 x7 s6 y15 hx12 hlt hy13 hout14=>?_) (fun s6 hgo=>?_)
  ·refine gA 6 E<|Kcn E (dT (Int.ofNat_lt.2 hlt))<|gA 7 E<|eo_o E (Kdd hΓ (enc:=eS) (Kcw hx12) E E E E E (fun _=>E))<|bK hy13 fun y16 hy16 h17=>gO 9 E<|Kdq C (Ldn hy16) E Z E E E E E<|gO 11 E<|Kcs 2 [(1,B tail),(6,.d (Sl eS y3)),(7,.sl 0 s6.length),(8,I (i5:Int)),(9,S x7),(10,U y16.1),(18,.d (Sl eS y3)),(19,I (y3.length:Int)),(20,I (i5:Int)),(33,B (y16.2&&tail))] [rO 37 1 (eN .u64) s6] ?_ ?_
   ·refine Klj E E (fun hb=>?_) (fun hb=>?_)
    ·exact gO 3 E<|⟨⟨E,E,E,E,E,E,E,E,E,Kbx E (Kek hb),tV⟩,[],E,.inl E⟩
    exact gO 3 E<|⟨⟨E,E,E,E,E,E,E,E,E,Kbx E (Kel hb),tV⟩,[],E,.inl E⟩
   refine gO 1 E<|Kcs 6 [(1,B tail),(6,.d (Sl eS y3)),(7,.sl 0 s6.length),(9,S x7),(10,U y16.1),(18,.d (Sl eS y3)),(19,I (y3.length:Int)),(20,I (i5:Int)),(40,B ((y16.2&&tail)&&(((i5:Int):Int)==(wi ((y3.length:Int) - 1)))))] [rO 37 1 (eN .u64) s6] ?_ ?_
   ·refine Klj E E (fun hb=>?_) (fun hb=>?_)
    ·exact gO 7 E<|⟨⟨E,E,E,E,E,E,E,E,Kbx E (Kek hb),tV⟩,[],E,.inl E⟩
    exact gO 7 E<|⟨⟨E,E,E,E,E,E,E,E,Kbx E (Kel hb),tV⟩,[],E,.inl E⟩
   refine gO 2 E<|jC E h17 (fun h18=>?_) fun h21=>bK h21 fun y22 hy22 h23=>gA 7 E<|Kdq C (Lgd hy22) E Z E E E E E<|gO 2 E<|bK h23 fun q24 hq24 h25=>Kcs 4 [(1,B tail),(6,.d (Sl eS y3)),(7,.sl 0 s6.length),(9,S x7),(18,.d (Sl eS y3)),(19,I (y3.length:Int)),(20,I (i5:Int)),(56,B q24)] [rO 37 1 (eN .u64) s6] ?_ ?_
   ·refine gA 7 E<|Kdk hΓ (enc:=(eN .u64)) [shrV .u64 y16.1 16,bitsV .and .u64 y16.1 65535] E E E E E E E E E E E E Z<|bK h18 fun y19 hy19 h20=>Kea hΓ (enc:=(eN .u64)) hy19 E E E E E E E E E (fun _=>E) E E E E<|gO 11 E ?_
    cases h20
    exact⟨_,E,⟨⟨E,E,E,E,E,Kbw E (Kbv (nLl hlt hb11)),tV⟩,[],E,.inl E⟩⟩
   ·refine Klj E E (fun hb=>?_) (fun hb=>?_)
    ·have h26:=cT hq24 hb
     exact gO 5 E<|oSi h26▸⟨⟨E,E,E,E,E,E,E,E,tV⟩,[],E,.inl E⟩
    have h27:=cF hq24 hb
    exact bK h27 fun y28 hy28 h29=>gO 1 E<|Klh E<|Kdq C (Lgf hy28) E Z E E E E E<|gO 3 E<|oSi h29▸⟨⟨E,E,E,E,E,E,E,E,tV⟩,[],E,.inl E⟩
   refine gO 2 E<|jC E h25 (fun h30=>?_) fun h33=>bK h33 fun y34 hy34 h35=>gA 5 E ?_
   ·refine gA 10 E<|bK h30 fun v31 hv31 h32=>?_
    cases h32
    obtain rfl:=hout14 _ rfl
    cases h9
    exact gA 4 E<|oSi hv31▸gP E E
   rcases y34 with _ | z36
   ·refine Kjk C (Kvl hy34) E Z E E E E fun et37 ex38=>gO 11 E<|eo_o E (Kjg hΓ E E E E)<|gO 13 E<|bK h35 fun v39 hv39 h40=>?_
    cases h40
    obtain rfl:=hout14 _ rfl
    cases h9
    exact gA 4 E<|oSi hv39▸gP E E
   refine Kdq C (Kvk hy34) E Z E E E E E<|gO 11 E<|eo_o E (Kji hΓ E E E E)<|gO 8 E<|Kdk hΓ (enc:=(eN .u64)) [z36] E E E E E E E E E E E E Z<|bK h35 fun y41 hy41 h42=>Kea hΓ (enc:=(eN .u64)) hy41 E E E E E E E E E (fun _=>E) E E E E<|gO 8 E ?_
   cases h42
   exact⟨_,E,⟨⟨E,E,E,E,E,Kbw E (Kbv (nLl hlt hb11)),tV⟩,[],E,.inl E⟩⟩
  subst hgo
  exact gA 6 E<|Kco E (dF (Int.lt_irrefl _))<|gA 4 E<|⟨_,E,⟨⟨E,tV⟩,[],E,.inl E⟩⟩
 intro a10 ha
 subst ha
 replace h9:=Kgk h9
 exact gA 5 E<|Kdw 0 [4,7,69] _ [.dead] E E E Z<|gO 4 E<|oSi h9▸gP E E
theorem Ldp{k:Nat}{s:Str}{r:Kzo×Int}(h:Lcu k s=some r):Pure Tryz.prog 240 [S s] (.tup [.agg [B r.1.Six,U r.1.Hi,U r.1.Lo],I r.2]):=by
 unfold Lcu at h
 refine QP Tryz.func240 E E E<|gA 2 E<|Kmp hΓ E E E Z<|bK h fun y1 hy1 h2=>gO 7 E<|Kdq C (Ldn hy1) E Z E E E E E<|gO 12 E<|Kcm E (fun hb=>?_) (fun hb=>?_)
 ·have h3:=cT h2 hb
  exact gA 3 E<|Kav hΓ (gs:=[B false,U 0,U y1.1]) E E E E E E E<|Kmu hΓ E E E E E E E E Z<|Kdz [.box 39 [B false,U 0,U y1.1]] E<|gO 5 E<|oSi h3▸gP E E
 have h4:=cF h2 hb
 refine bK h4 fun y5 hy5 h6=>gA 5 E<|Kdq C (Kvt hy5) E Z E E E E E<|bK h6 fun y7 hy7 h8=>gO 14 E<|Kdq C (Ldo hy7) E Z E E E E E<|bK h8 fun y9 hy9 h10=>gO 10 E<|Kdq C (Ldo hy9) E Z E E E E E<|gO 13 E<|Kcs 3 [(0,S s),(2,.ptr 0 0),(8,B y5.2.2),(9,.d (Sl (eN .u64) y7.1)),(11,.d (Sl (eN .u64) y9.1)),(48,B ((!y7.2)||(!y9.2)))] [.box 39 [B false,U 0,U 0]] ?_ ?_
 ·refine Klj E E (fun hb=>?_) (fun hb=>?_)
  ·exact gO 4 E<|⟨⟨E,E,E,E,E,Kbx E (or_t hb),tV⟩,[],E,.inl E⟩
  exact gO 4 E<|⟨⟨E,E,E,E,E,Kbx E (or_f hb),tV⟩,[],E,.inl E⟩
 refine gO 1 E<|Kcs 10 [(0,S s),(2,.ptr 0 0),(8,B y5.2.2),(9,.d (Sl (eN .u64) y7.1)),(11,.d (Sl (eN .u64) y9.1)),(59,B (((!y7.2)||(!y9.2))||(y5.2.2&&(decide ((wi ((y7.1.length:Int)+(y9.1.length:Int)):Int)>7)))))] [.box 39 [B false,U 0,U 0]] ?_ ?_
 ·refine Klj E E (fun hb=>?_) (fun hb=>?_)
  ·exact gO 11 E<|⟨⟨E,E,E,E,E,Kbx E (or_t hb),tV⟩,[],E,.inl E⟩
  refine gO 2 E<|Kcs 7 [(0,S s),(2,.ptr 0 0),(8,B y5.2.2),(9,.d (Sl (eN .u64) y7.1)),(11,.d (Sl (eN .u64) y9.1)),(49,B false),(58,B (y5.2.2&&(decide ((wi ((y7.1.length:Int)+(y9.1.length:Int)):Int)>7))))] [.box 39 [B false,U 0,U 0]] ?_ ?_
  ·refine Klj E E (fun hb=>?_) (fun hb=>?_)
   ·exact gO 8 E<|⟨⟨E,E,E,E,E,E,Kbx E (Kek hb),tV⟩,[],E,.inl E⟩
   exact gO 8 E<|⟨⟨E,E,E,E,E,E,Kbx E (Kel hb),tV⟩,[],E,.inl E⟩
  exact gO 2 E<|⟨⟨E,E,E,E,E,Kbx E (or_f hb),tV⟩,[],E,.inl E⟩
 refine gO 1 E<|Kcs 12 [(2,.ptr 0 0),(8,B y5.2.2),(9,.d (Sl (eN .u64) y7.1)),(11,.d (Sl (eN .u64) y9.1)),(72,B ((((!y7.2)||(!y9.2))||(y5.2.2&&(decide ((wi ((y7.1.length:Int)+(y9.1.length:Int)):Int)>7))))||((!y5.2.2)&&((((y7.1.length:Int):Int) != 8)||((s:Str)==[])))))] [.box 39 [B false,U 0,U 0]] ?_ ?_
 ·refine Klj E E (fun hb=>?_) (fun hb=>?_)
  ·exact gO 13 E<|⟨⟨E,E,E,E,Kbx E (or_t hb),tV⟩,[],E,.inl E⟩
  refine gO 3 E<|Kcs 8 [(2,.ptr 0 0),(8,B y5.2.2),(9,.d (Sl (eN .u64) y7.1)),(11,.d (Sl (eN .u64) y9.1)),(60,B false),(71,B ((!y5.2.2)&&((((y7.1.length:Int):Int) != 8)||((s:Str)==[]))))] [.box 39 [B false,U 0,U 0]] ?_ ?_
  ·refine Klj E E (fun hb=>?_) (fun hb=>?_)
   ·refine gO 4 E<|Kcs 3 [(2,.ptr 0 0),(8,B y5.2.2),(9,.d (Sl (eN .u64) y7.1)),(11,.d (Sl (eN .u64) y9.1)),(60,B false),(63,B true),(70,B ((((y7.1.length:Int):Int) != 8)||((s:Str)==[])))] [.box 39 [B false,U 0,U 0]] ?_ ?_
    ·refine Klj E E (fun hb=>?_) (fun hb=>?_)
     ·exact gO 4 E<|⟨⟨E,E,E,E,E,E,Kbx E (or_t hb),tV⟩,[],E,.inl E⟩
     exact gO 4 E<|⟨⟨E,E,E,E,E,E,Kbx E (or_f hb),tV⟩,[],E,.inl E⟩
    exact gO 2 E<|⟨⟨E,E,E,E,E,Kbx E (Kek hb),tV⟩,[],E,.inl E⟩
   exact gO 9 E<|⟨⟨E,E,E,E,E,Kbx E (Kel hb),tV⟩,[],E,.inl E⟩
  exact gO 2 E<|⟨⟨E,E,E,E,Kbx E (or_f hb),tV⟩,[],E,.inl E⟩
 refine gO 2 E<|Kcm E (fun hb=>?_) (fun hb=>?_)
 ·have h11:=cT h10 hb
  exact gA 2 E<|Kav hΓ (gs:=[B false,U 0,U 0]) E E E E E E E<|Kmu hΓ E E E E E E E E Z<|Kdz [.box 39 [B false,U 0,U 0]] E<|gO 5 E<|oSi h11▸gP E E
 have h12:=cF h10 hb
 refine gA 4 E<|Kav hΓ (gs:=[B true,U 0,U 0]) E E E E E E E<|Kmp hΓ E E E Z<|Kmu hΓ E E E E E E E E Z<|Kdz [.box 39 [B false,U 0,U 0],.box 39 [B true,U 0,U 0]] E<|gO 8 E<|bK h12 fun q16 hq16 h17=>Kgq [(2,.ptr 0 0),(13,.ptr 1 0)] [.box 39 [B false,U 0,U 0],.box 39 [B q16.Six,U q16.Hi,U q16.Lo]] ?_ ?_
 ·refine gA 1 E<|Kcz hq16 (fun s14=>[(2,.ptr 0 0),(8,B y5.2.2),(9,.d (Sl (eN .u64) y7.1)),(11,.d (Sl (eN .u64) y9.1)),(13,.ptr 1 0),(75,I s14.2.2)]) (fun s14=>[.box 39 [B false,U 0,U 0],.box 39 [B true,U s14.1,U s14.2.1]]) ⟨⟨E,E,E,E,E,E,tV⟩,[],E,.inl E⟩ (fun s14 y22 hy20 hout21=>?_)
  refine gA 6 E<|Kcm E (fun hb=>?_) (fun hb=>?_)
  ·have h23:=cT hy20 hb
   refine bK h23 fun q24 hq24 h25=>gA 24 E<|Kgq [(2,.ptr 0 0),(8,B y5.2.2),(9,.d (Sl (eN .u64) y7.1)),(11,.d (Sl (eN .u64) y9.1)),(13,.ptr 1 0),(14,I s14.2.2),(15,U q24),(75,I s14.2.2)] [.box 39 [B false,U 0,U 0],.box 39 [B true,U s14.1,U s14.2.1]] ?_ ?_
   ·refine jC E hq24 (fun h26=>?_) fun h29=>gA 1 E<|oSi h29▸⟨⟨E,E,E,E,E,E,E,E,tV⟩,[],E,.inl E⟩
    exact bK h26 fun x27 hx27 h28=>gA 3 E<|eo_o E (Kdd hΓ (enc:=(eN .u64)) hx27 E E E E E (fun _=>E))<|gO 3 E<|oSi h28▸⟨⟨E,E,E,E,E,E,E,E,tV⟩,[],E,.inl E⟩
   refine gA 17 E<|Kcs 2 [(2,.ptr 0 0),(8,B y5.2.2),(9,.d (Sl (eN .u64) y7.1)),(11,.d (Sl (eN .u64) y9.1)),(13,.ptr 1 0),(14,I s14.2.2),(15,U q24),(16,I (wi (s14.2.2 - (wi (8 - (y9.1.length:Int)))))),(75,I s14.2.2),(95,B ((decide ((wi (s14.2.2 - (wi (8 - (y9.1.length:Int)))):Int)≥0))&&y5.2.2))] [.box 39 [B false,U 0,U 0],.box 39 [B true,U s14.1,U s14.2.1]] ?_ ?_
   ·refine Klj E E (fun hb=>?_) (fun hb=>?_)
    ·exact gO 3 E<|⟨⟨E,E,E,E,E,E,E,E,E,Kbx E (Kek hb),tV⟩,[],E,.inl E⟩
    exact gO 3 E<|⟨⟨E,E,E,E,E,E,E,E,E,Kbx E (Kel hb),tV⟩,[],E,.inl E⟩
   refine bK h25 fun q30 hq30 h31=>gO 2 E<|Kgq [(2,.ptr 0 0),(8,B y5.2.2),(9,.d (Sl (eN .u64) y7.1)),(11,.d (Sl (eN .u64) y9.1)),(13,.ptr 1 0),(14,I s14.2.2),(15,U q30),(75,I s14.2.2)] [.box 39 [B false,U 0,U 0],.box 39 [B true,U s14.1,U s14.2.1]] ?_ ?_
   ·refine jC E hq30 (fun h32=>?_) fun h35=>gA 1 E<|oSi h35▸⟨⟨E,E,E,E,E,E,E,E,tV⟩,[],E,.inl E⟩
    exact bK h32 fun x33 hx33 h34=>gA 3 E<|eo_o E (Kdd hΓ (enc:=(eN .u64)) hx33 E E E E E (fun _=>E))<|gO 3 E<|oSi h34▸⟨⟨E,E,E,E,E,E,E,E,tV⟩,[],E,.inl E⟩
   refine gA 7 E<|jC E h31 (fun h36=>?_) fun h37=>gA 7 E<|Kmu hΓ E E E E E E E E Z<|Kdz [.box 39 [B false,U 0,U 0],.box 39 [B true,U s14.1,U (bitsV .or .u64 (shlV .u64 s14.2.1 16) q30)]] E<|gO 7 E<|oSi h37▸⟨_,E,⟨⟨E,E,E,E,E,E,tV⟩,[],E,.inl E⟩⟩
   exact gA 7 E<|Kmu hΓ E E E E E E E E Z<|Kdz [.box 39 [B false,U 0,U 0],.box 39 [B true,U (bitsV .or .u64 (shlV .u64 s14.1 16) q30),U s14.2.1]] E<|gO 7 E<|oSi h36▸⟨_,E,⟨⟨E,E,E,E,E,E,tV⟩,[],E,.inl E⟩⟩
  have h38:=cF hy20 hb
  refine gA 4 E ?_
  cases h38
  obtain rfl:=hout21 _ rfl
  exact⟨⟨E,E,tV⟩,[],E,.inl E⟩
 exact gA 4 E<|Kmu hΓ E E E E E E E E Z<|Kdz [.box 39 [B q16.Six,U q16.Hi,U q16.Lo],.box 39 [B q16.Six,U q16.Hi,U q16.Lo]] E<|gO 4 E<|oSi h17▸gP E E
theorem Ldq{k:Nat}{s:Str}{r:Kzo×Int}(h:Lcv k s=some r):Pure Tryz.prog 167 [S s] (.tup [.agg [B r.1.Six,U r.1.Hi,U r.1.Lo],I r.2]):=by
 unfold Lcv at h
 refine QP Tryz.func167 E E E<|gA 2 E<|Kmp hΓ E E E Z<|bK h fun y1 hy1 h2=>gO 6 E<|Kdq C (Ldp hy1) E Z E E E E E<|gO 3 E<|Kmp hΓ E E E Z<|Kmu hΓ E E E E E E E E Z<|Kdz [.box 39 [B false,U 0,U 0],.box 39 [B y1.1.Six,U y1.1.Hi,U y1.1.Lo]] E<|gO 9 E<|bK h2 fun q3 hq3 h4=>Kcs 5 [(2,.ptr 0 0),(4,.ptr 1 0),(18,B q3)] [.box 39 [B false,U 0,U 0],.box 39 [B y1.1.Six,U y1.1.Hi,U y1.1.Lo]] ?_ ?_
 ·refine Klj E E (fun hb=>?_) (fun hb=>?_)
  ·have h5:=cT hq3 hb
   exact gO 6 E<|oSi h5▸⟨⟨E,E,E,tV⟩,[],E,.inl E⟩
  have h6:=cF hq3 hb
  exact bK h6 fun y7 hy7 h8=>gO 1 E<|Klh E<|Kdq C (Lgr hy7) E Z E E E E E<|gO 4 E<|oSi h8▸⟨⟨E,E,E,tV⟩,[],E,.inl E⟩
 refine gO 2 E<|jC E h4 (fun h9=>?_) fun h10=>gA 5 E<|Kmu hΓ E E E E E E E E Z<|Kdz [.box 39 [B y1.1.Six,U y1.1.Hi,U y1.1.Lo],.box 39 [B y1.1.Six,U y1.1.Hi,U y1.1.Lo]] E<|gO 4 E<|oSi h10▸gP E E
 exact gA 2 E<|Kav hΓ (gs:=[B false,U 0,U 0]) E E E E E E E<|Kmu hΓ E E E E E E E E Z<|Kdz [.box 39 [B false,U 0,U 0],.box 39 [B y1.1.Six,U y1.1.Hi,U y1.1.Lo]] E<|gO 5 E<|oSi h9▸gP E E
theorem Ldr{k:Nat}{s:Str}{r:Kzp×Int}(h:Lcw k s=some r):Pure Tryz.prog 72 [S s] (.tup [.agg [B r.1.Addr.Six,U r.1.Addr.Hi,U r.1.Addr.Lo,I r.1.Bits],I r.2]):=by
 unfold Lcw at h
 refine QP Tryz.func72 E E E<|gA 2 E<|Kmp hΓ E E E Z<|bK h fun y1 hy1 h2=>gO 6 E<|Kdq C (Kvt hy1) E Z E E E E E<|bK h2 fun y3 hy3 h4=>gO 12 E<|Kdq C (Ldq hy3) E Z E E E E E<|gO 3 E<|Kmp hΓ E E E Z<|Kmu hΓ E E E E E E E E Z<|Kdz [.box 41 [B false,U 0,U 0,I 0],.box 39 [B y3.1.Six,U y3.1.Hi,U y3.1.Lo]] E<|bK h4 fun y5 hy5 h6=>gO 6 E ?_
 rcases y5 with⟨z7,_ | _⟩
 ·refine Kkb C (Kvs hy5) E Z E E E E fun et8 ex9=>gO 11 E<|Kav hΓ (gs:=[B y3.1.Six,U y3.1.Hi,U y3.1.Lo,I z7]) E E E E E E E<|Kmp hΓ E E E Z<|Kmu hΓ E E E E E E E E Z<|Kdz [.box 41 [B false,U 0,U 0,I 0],.box 39 [B y3.1.Six,U y3.1.Hi,U y3.1.Lo],.box 41 [B y3.1.Six,U y3.1.Hi,U y3.1.Lo,I z7]] E<|gO 8 E<|Kcs 3 [(0,S s),(2,.ptr 0 0),(11,.ptr 2 0),(36,B true)] [.box 41 [B false,U 0,U 0,I 0],.box 39 [B y3.1.Six,U y3.1.Hi,U y3.1.Lo],.box 41 [B y3.1.Six,U y3.1.Hi,U y3.1.Lo,I z7]] ?_ ?_
  ·refine Klj E E (fun hb=>?_) (fun hb=>?_)
   ·exact gO 4 E<|⟨⟨E,E,E,E,tV⟩,[],E,.inl E⟩
   exact gO 1 E<|Klh E<|eo_o E (Kjg hΓ E E E E)<|gO 2 E<|⟨⟨E,E,E,E,tV⟩,[],E,.inl E⟩
  exact gO 16 E<|Kav hΓ (gs:=[B false,U 0,U 0,I 0]) E E E E E E E<|Kmu hΓ E E E E E E E E Z<|Kdz [.box 41 [B false,U 0,U 0,I 0],.box 39 [B y3.1.Six,U y3.1.Hi,U y3.1.Lo],.box 41 [B y3.1.Six,U y3.1.Hi,U y3.1.Lo,I z7]] E<|gO 5 E<|oSi h6▸gP E E
 refine Kdq C (Kvr hy5) E Z E E E E E<|gO 11 E<|Kav hΓ (gs:=[B y3.1.Six,U y3.1.Hi,U y3.1.Lo,I z7]) E E E E E E E<|Kmp hΓ E E E Z<|Kmu hΓ E E E E E E E E Z<|Kdz [.box 41 [B false,U 0,U 0,I 0],.box 39 [B y3.1.Six,U y3.1.Hi,U y3.1.Lo],.box 41 [B y3.1.Six,U y3.1.Hi,U y3.1.Lo,I z7]] E<|gO 8 E<|Kcs 3 [(0,S s),(2,.ptr 0 0),(11,.ptr 2 0),(36,B (((y3.2:Int) != 0)||false))] [.box 41 [B false,U 0,U 0,I 0],.box 39 [B y3.1.Six,U y3.1.Hi,U y3.1.Lo],.box 41 [B y3.1.Six,U y3.1.Hi,U y3.1.Lo,I z7]] ?_ ?_
 ·refine Klj E E (fun hb=>?_) (fun hb=>?_)
  ·exact gO 4 E<|⟨⟨E,E,E,Kbx E (or_t hb),tV⟩,[],E,.inl E⟩
  exact gO 1 E<|Klh E<|eo_o E (Kji hΓ E E E E)<|gO 2 E<|⟨⟨E,E,E,Kbx E (or_f hb),tV⟩,[],E,.inl E⟩
 refine gO 1 E<|bK h6 fun q10 hq10 h11=>Kcs 4 [(0,S s),(2,.ptr 0 0),(11,.ptr 2 0),(41,B q10)] [.box 41 [B false,U 0,U 0,I 0],.box 39 [B y3.1.Six,U y3.1.Hi,U y3.1.Lo],.box 41 [B y3.1.Six,U y3.1.Hi,U y3.1.Lo,I z7]] ?_ ?_
 ·refine Klj E E (fun hb=>?_) (fun hb=>?_)
  ·have h12:=cT hq10 hb
   exact gO 5 E<|oSi h12▸⟨⟨E,E,E,E,tV⟩,[],E,.inl E⟩
  have h13:=cF hq10 hb
  exact bK h13 fun y14 hy14 h15=>gO 1 E<|Klh E<|Kdq C (Lge hy14) E Z E E E E E<|gO 3 E<|oSi h15▸⟨⟨E,E,E,E,tV⟩,[],E,.inl E⟩
 refine gO 1 E<|bK h11 fun q16 hq16 h17=>Kcs 5 [(2,.ptr 0 0),(11,.ptr 2 0),(47,B q16)] [.box 41 [B false,U 0,U 0,I 0],.box 39 [B y3.1.Six,U y3.1.Hi,U y3.1.Lo],.box 41 [B y3.1.Six,U y3.1.Hi,U y3.1.Lo,I z7]] ?_ ?_
 ·refine Klj E E (fun hb=>?_) (fun hb=>?_)
  ·have h18:=cT hq16 hb
   exact gO 6 E<|oSi h18▸⟨⟨E,E,E,tV⟩,[],E,.inl E⟩
  have h19:=cF hq16 hb
  exact bK h19 fun y20 hy20 h21=>gO 1 E<|Klh E<|Kdq C (Lgs hy20) E Z E E E E E<|gO 4 E<|oSi h21▸⟨⟨E,E,E,tV⟩,[],E,.inl E⟩
 refine gO 2 E<|jC E h17 (fun h22=>?_) fun h23=>gA 5 E<|Kmu hΓ E E E E E E E E Z<|Kdz [.box 41 [B y3.1.Six,U y3.1.Hi,U y3.1.Lo,I z7],.box 39 [B y3.1.Six,U y3.1.Hi,U y3.1.Lo],.box 41 [B y3.1.Six,U y3.1.Hi,U y3.1.Lo,I z7]] E<|gO 4 E<|oSi h23▸gP E E
 exact gA 2 E<|Kav hΓ (gs:=[B false,U 0,U 0,I 0]) E E E E E E E<|Kmu hΓ E E E E E E E E Z<|Kdz [.box 41 [B false,U 0,U 0,I 0],.box 39 [B y3.1.Six,U y3.1.Hi,U y3.1.Lo],.box 41 [B y3.1.Six,U y3.1.Hi,U y3.1.Lo,I z7]] E<|gO 5 E<|oSi h22▸gP E E
theorem Lds{s:Str}{most:Int}{r:Int×Bool}(h:Lcx s most=some r):Pure Tryz.prog 73 [S s,I most] (.tup [I r.1,B r.2]):=by
 unfold Lcx at h
 refine QP Tryz.func73 E E E<|bK h fun y1 hy1 h2=>gA 9 E<|Kdq C (Kup hy1) E Z E E E E E<|gO 9 E<|Kcs 5 [(0,S s),(6,S y1),(18,B (((y1:Str)==[])||(decide (((y1.length:Int):Int)>most))))] [] ?_ ?_
 ·refine Klj E E (fun hb=>?_) (fun hb=>?_)
  ·exact gO 6 E<|⟨⟨E,E,Kbx E (or_t hb),tV⟩,[],E,.inl E⟩
  exact gO 6 E<|⟨⟨E,E,Kbx E (or_f hb),tV⟩,[],E,.inl E⟩
 refine gO 1 E<|bK h2 fun q3 hq3 h4=>Kcs 4 [(0,S s),(23,B q3)] [] ?_ ?_
 ·refine Klj E E (fun hb=>?_) (fun hb=>?_)
  ·have h5:=cT hq3 hb
   exact gO 5 E<|oSi h5▸⟨⟨E,E,tV⟩,[],E,.inl E⟩
  have h6:=cF hq3 hb
  exact bK h6 fun y7 hy7 h8=>gO 1 E<|Klh E<|Kdq C (Lgf hy7) E Z E E E E E<|gO 3 E<|oSi h8▸⟨⟨E,E,tV⟩,[],E,.inl E⟩
 refine gO 2 E<|jC E h4 (fun h9=>?_) fun h10=>bK h10 fun y11 hy11 h12=>gA 5 E<|Kdq C (Kvj hy11) E Z E E E E E<|gO 11 E<|eo_o E (Kjh hΓ E E E E)<|bK h12 fun y13 hy13 h14=>gO 2 E<|Klh E<|Kdq C (Kuw hy13) E Z E E E E E<|gO 8 E<|oSi h14▸gP E E
 exact gA 8 E<|oSi h9▸gP E E
theorem Ldt{k:Nat}{line:Str}{x:List Kzq}{r:Bool×(List Kzq)}(h:Lcy k line x=some r):EC Tryz.prog 70 [S line,.ptr 1 0] [rO 43 6 Lej x,.box 26 [.sl 0 x.length]] fun g hp'=>g=B r.1∧hp'=[.dead,.box 26 [.sl 2 r.2.length],rO 43 6 Lej r.2]:=by
 unfold Lcy at h
 refine QM Tryz.func70 E Z<|Kfn Z<|Kfl 0 2 [.dead,.box 26 [.sl 2 x.length],rO 43 6 Lej x] E E E E E E<|bK h fun y1 hy1 h2=>gA 8 E<|Kdq C (Ldm hy1) E Z E E E E E<|gO 13 E<|Kcs 4 [(1,.ptr 1 0),(4,.d (Sl eS y1.1)),(21,B ((!y1.2)||(((y1.1.length:Int):Int) != 3)))] [.dead,.box 26 [.sl 2 x.length],rO 43 6 Lej x] ?_ ?_
 ·refine Klj E E (fun hb=>?_) (fun hb=>?_)
  ·exact gO 5 E<|⟨⟨E,E,Kbx E (or_t hb),tV⟩,[],E,.inl E⟩
  exact gO 5 E<|⟨⟨E,E,Kbx E (or_f hb),tV⟩,[],E,.inl E⟩
 refine gO 2 E<|Kcm E (fun hb=>?_) (fun hb=>?_)
 ·have h3:=cT h2 hb
  exact gA 7 E<|Kgm<|oSi h3▸Keg hΓ [] (.inr E) E E E E (.inl E)
 have h4:=cF h2 hb
 refine bK h4 fun x5 hx5 h6=>gA 5 E<|eo_o E (Kdd hΓ (enc:=eS) hx5 E E E E E (fun _=>E))<|bK h6 fun y7 hy7 h8=>gO 1 E<|Kdq C (Ldr hy7) E Z E E E E E<|gO 3 E<|Kmp hΓ E E E Z<|Kmu hΓ E E E E E E E E Z<|Kdz [.dead,.box 26 [.sl 2 x.length],rO 43 6 Lej x,.box 41 [B y7.1.Addr.Six,U y7.1.Addr.Hi,U y7.1.Addr.Lo,I y7.1.Bits]] E<|bK h8 fun x9 hx9 h10=>gO 6 E<|eo_o E (Kdd hΓ (enc:=eS) hx9 E E E E E (fun _=>E))<|bK h10 fun y11 hy11 h12=>gO 1 E<|Kdq C (Lds hy11) E Z E E E E E<|gO 8 E<|Kfr [.dead,.box 26 [.sl 2 x.length],.dead,.box 41 [B y7.1.Addr.Six,U y7.1.Addr.Hi,U y7.1.Addr.Lo,I y7.1.Bits]] [0,1] [8,9] [8,9] hmix (by kernel_rfl) (by kernel_rfl) ⟨E,E,tV⟩ Z<|bK h12 fun x13 hx13 h14=>go_E hΓ 3 E<|ge_q E (.inl E) (fun _ _=>Kft (qt_p (Kdd hΓ (enc:=eS) hx13 E E E E E (fun _=>E))))<|go_E hΓ 2 E<|ge_q E (.inl E) (fun _ _=>Kft (qt_p (Kgh hΓ (gs:=[B y7.1.Addr.Six,U y7.1.Addr.Hi,U y7.1.Addr.Lo,I y7.1.Bits,S x13,I y11.1]) E E E E E E)))<|Kgg hΓ (enc:=Lej) [(⟨y7.1,x13,y11.1⟩:Kzq)] E E E E E E E E E E E E<|bK h14 fun y15 hy15 h16=>ge_h [.dead,.box 26 [.junk],.dead,.box 41 [B y7.1.Addr.Six,U y7.1.Addr.Hi,U y7.1.Addr.Lo,I y7.1.Bits],rO 43 6 Lej y15] E E E (Kfy E) (Kgc (Kha 2 (Kfh hΓ (enc:=Lej) (id:=2) (h2:=show Γ 43=some ⟨_,6,_,_⟩ from E) hy15 E E E E E E E E (fun _=>E) E)))<|Kfx [.dead,.box 26 [.sl 4 y15.length],.dead,.box 41 [B y7.1.Addr.Six,U y7.1.Addr.Hi,U y7.1.Addr.Lo,I y7.1.Bits],rO 43 6 Lej y15] E E (Kfy E) (Kgd (Kgu hΓ E E E E E E E E E))<|Kfs<|gA 1 E<|Kfl 4 2 [.dead,.box 26 [.sl 2 y15.length],rO 43 6 Lej y15,.box 41 [B y7.1.Addr.Six,U y7.1.Addr.Hi,U y7.1.Addr.Lo,I y7.1.Bits],.dead] E E E E E E<|gA 5 E<|Kcs 2 [(49,B (((y7.2:Int)==0)&&y11.2))] [.dead,.box 26 [.sl 2 y15.length],rO 43 6 Lej y15,.box 41 [B y7.1.Addr.Six,U y7.1.Addr.Hi,U y7.1.Addr.Lo,I y7.1.Bits],.dead] ?_ ?_
 ·refine Klj E E (fun hb=>?_) (fun hb=>?_)
  ·exact gO 3 E<|⟨⟨Kbx E (Kek hb),tV⟩,[],E,.inl E⟩
  exact gO 3 E<|⟨⟨Kbx E (Kel hb),tV⟩,[],E,.inl E⟩
 exact gO 4 E<|Kgm<|oSi h16▸Keg hΓ [_,_] (.inr E) E E E E (.inr ⟨HB.mk E,E⟩)
theorem Ldu{k:Nat}{text:Str}{f:List Kzq}{r:Int×Bool×(List Kzq)}(h:Lcz k text f=some r):EC Tryz.prog 69 [S text,.fn (.func 70) [] [.ptr 1 0]] [rO 43 6 Lej f,.box 26 [.sl 0 f.length]] fun g hp'=>g=.tup [I r.1,B r.2.1]∧hp'=[.dead,.box 26 [.sl 2 r.2.2.length],rO 43 6 Lej r.2.2]:=by
 unfold Lcz at h
 refine QM Tryz.func69 E Z<|Kfn Z<|Kfl 0 2 [.dead,.box 26 [.sl 2 f.length],rO 43 6 Lej f] E E E E E E<|gA 12 E<|bK h fun q4 hq4 h5=>Kgp (R:=fun a6=>q4=.inl a6) (fun a6=>[]) (fun a6=>[.dead,.box 26 [.sl 2 a6.length],rO 43 6 Lej a6]) ?_ ?_
 ·refine gA 1 E<|Kcz hq4 (fun s2=>[(0,S s2.2.1),(1,.fn (.func 70) [] [.ptr 1 0]),(6,I s2.2.2)]) (fun s2=>[.dead,.box 26 [.sl 2 s2.1.length],rO 43 6 Lej s2.1]) ⟨⟨E,E,E,tV⟩,[],E,.inl E⟩ (fun s2 y10 hy8 hout9=>?_)
  refine gA 7 E<|jC E hy8 (fun h11=>?_) fun h24=>gA 4 E ?_
  ·refine bK h11 fun y12 hy12 h13=>gA 7 E<|Kdq C (Kvt hy12) E Z E E E E E<|gO 15 E<|bK h13 fun q14 hq14 h15=>Kcs 5 [(1,.fn (.func 70) [] [.ptr 1 0]),(6,I s2.2.2),(8,S y12.2.1),(27,B q14.2)] [.dead,.box 26 [.sl 2 q14.1.length],rO 43 6 Lej q14.1] ?_ ?_
   ·refine Klj E E (fun hb=>?_) (fun hb=>?_)
    ·have h16:=cT hq14 hb
     exact gO 6 E<|oSi h16▸⟨⟨E,E,E,E,tV⟩,[],E,.inl E⟩
    have h17:=cF hq14 hb
    exact bK h17 fun y18 hy18 h19=>gO 2 E<|Klh E<|Kdp [2,1] (B y18.1) [.dead,.box 26 [.sl 3 y18.2.length],.dead,rO 43 6 Lej y18.2] C (Ldt hy18) E Z E E E E E E E E E E<|gO 2 E<|Kfj 3 2 [.dead,.box 26 [.sl 2 y18.2.length],rO 43 6 Lej y18.2,.dead] E E E E E E<|gO 1 E<|oSi h19▸⟨⟨E,E,E,E,tV⟩,[_],E,.inr ⟨HB.mk E,FB.mk E,Z⟩⟩
   refine gO 2 E<|jC E h15 (fun h20=>?_) fun h23=>gA 13 E<|oSi h23▸⟨_,E,⟨⟨E,E,E,tV⟩,[],E,.inl E⟩⟩
   refine gA 11 E<|bK h20 fun v21 hv21 h22=>?_
   cases h22
   obtain rfl:=hout9 _ rfl
   cases h5
   exact gA 4 E<|Kgm<|oSi hv21▸Keg hΓ [] (.inr E) E E E E (.inl E)
  cases h24
  obtain rfl:=hout9 _ rfl
  exact⟨_,E,⟨tV,[],E,.inl E⟩⟩
 intro a6 ha
 subst ha
 replace h5:=Kgj h5
 exact gA 8 E<|Kgm<|oSi h5▸Keg hΓ [] (.inr E) E E E E (.inl E)
theorem Ldv{k:Nat}{text:Str}{r:(List Kzq)×Int×Int}(h:Lda k text=some r):Pure Tryz.prog 13 [S text] (.tup [.d (Sl Lej r.1),I r.2.1,I r.2.2]):=by
 unfold Lda at h
 refine QP Tryz.func13 E E E<|gA 15 E<|jC E h (fun h1=>?_) fun h2=>gA 4 E<|eo_s Z (nblt.1 E) (Kir hΓ [0] [.d (.v (.slice none 0 0))] (hi:=show Γ 26=some ⟨_,_,_,_⟩ from E) E ⟨.refl _,tV⟩)<|Kdz [.box 26 [.d (.v (.slice none 0 0))]] E<|gO 2 E<|Kjb 0 0 43 6 [.box 26 [.sl 1 ([]:List Kzq).length],rO 43 6 Lej ([]:List Kzq)] E E E Z<|bK h2 fun y3 hy3 h4=>gA 4 E<|Kdp [1,0] (.tup [I y3.1,B y3.2.1]) [.box 26 [.sl 2 y3.2.2.length],.dead,rO 43 6 Lej y3.2.2] C (Ldu hy3) E Z E E E E E E E E E E<|gO 5 E<|Kfj 2 1 [.box 26 [.sl 1 y3.2.2.length],rO 43 6 Lej y3.2.2,.dead] E E E E E E<|gO 9 E<|jC E h4 (fun h5=>?_) fun h6=>?_
 ·exact gA 9 E<|oSi h1▸gP E E
 ·exact gA 10 E<|oSi h5▸gP E E
 refine bK h6 fun y7 hy7 h8=>gA 6 E<|Kdt C (Lgm hy7) E Z E E E E E<|gO 9 E<|jC E h8 (fun h9=>?_) fun h10=>gA 6 E<|Kdw 1 [2,21,26] _ [.box 26 [.d (Sl Lej y3.2.2)],.dead,.dead] E E E Z<|gO 5 E<|oSi h10▸gP E E
 exact gA 10 E<|oSi h9▸gP E E
theorem Ldw{s1:List Kzq}{s2:List Kzq}{r:Bool}(h:Ldb s1 s2=some r):Pure Tryz.prog 14 [.d (Sl Lej s1),.d (Sl Lej s2)] (B r):=by
 unfold Ldb at h
 refine QP Tryz.func14 E E E<|gA 15 E<|jC E h (fun h1=>?_) fun h2=>gA 10 E<|bK h2 fun q6 hq6 h7=>Kdc 0 E fun hb9=>Kgp (R:=fun a8=>q6=.go a8) (fun a8=>[]) (fun a8=>[]) ?_ ?_
 ·exact gA 7 E<|oSi h1▸gP E E
 ·refine gA 1 E<|Kdb s1 hq6 (fun i3 s4=>[(0,.d (Sl Lej s1)),(1,.d (Sl Lej s2)),(12,I (s1.length:Int)),(13,I (i3:Int))]) (fun s4=>[]) ⟨⟨E,E,E,E,tV⟩,[],E,.inl E⟩ (fun i3 x5 s4 y13 hx10 hlt hy11 hout12=>?_) (fun s4 hgo=>?_)
  ·refine gA 6 E<|Kcn E (dT (Int.ofNat_lt.2 hlt))<|gA 11 E<|jD<|gA 2 E<|gl_o E (Kdd hΓ (enc:=Lej) (Kcw hx10) E E E E E (fun _=>E))<|bK hy11 fun x14 hx14 h15=>Kck hΓ 3 E<|gl_o E (Kdd hΓ (enc:=Lej) hx14 E E E E E (fun _=>E))<|Kck hΓ 1 E<|gl_o E (Ken hΓ [43,41,39] (b:=(((((x5.Prefix.Addr.Six:Bool)==x14.Prefix.Addr.Six)&&(((x5.Prefix.Addr.Hi:Int)==x14.Prefix.Addr.Hi)&&(((x5.Prefix.Addr.Lo:Int)==x14.Prefix.Addr.Lo)&&true)))&&(((x5.Prefix.Bits:Int)==x14.Prefix.Bits)&&true))&&(((x5.Node:Str)==x14.Node)&&(((x5.Weight:Int)==x14.Weight)&&true)))) (by kernel_rfl) (by kernel_rfl) E E E)<|Kck hΓ 2 E<|jC E h15 (fun h16=>?_) fun h19=>gA 7 E ?_
   ·refine gA 8 E<|bK h16 fun v17 hv17 h18=>?_
    cases h18
    obtain rfl:=hout12 _ rfl
    cases h7
    exact gA 4 E<|oSi hv17▸gP E E
   cases h19
   exact⟨_,E,⟨⟨E,E,E,Kbw E (Kbv (nLl hlt hb9)),tV⟩,[],E,.inl E⟩⟩
  subst hgo
  exact gA 6 E<|Kco E (dF (Int.lt_irrefl _))<|gA 4 E<|⟨_,E,⟨tV,[],E,.inl E⟩⟩
 intro a8 ha
 subst ha
 replace h7:=Kgk h7
 exact gA 7 E<|oSi h7▸gP E E
theorem Ldx{k:Nat}{l:List Kzr}{r:Int}(h:Ldc k l=some r):Pure Tryz.prog 170 [.d (Sl Lek l)] (I r):=by
 unfold Ldc at h
 refine QP Tryz.func170 E E E<|gA 13 E<|jC E h (fun h1=>?_) fun h2=>gA 10 E<|bK h2 fun q6 hq6 h7=>Kdc 0 E fun hb9=>Kgp (R:=fun a8=>q6=.go a8) (fun a8=>[]) (fun a8=>[]) ?_ ?_
 ·exact gA 7 E<|oSi h1▸gP E E
 ·refine gA 1 E<|Kdb l hq6 (fun i3 s4=>[(0,.d (Sl Lek l)),(8,.d (Sl Lek l)),(9,I (l.length:Int)),(10,I (i3:Int))]) (fun s4=>[]) ⟨⟨E,E,E,E,tV⟩,[],E,.inl E⟩ (fun i3 x5 s4 y13 hx10 hlt hy11 hout12=>?_) (fun s4 hgo=>?_)
  ·refine gA 6 E<|Kcn E (dT (Int.ofNat_lt.2 hlt))<|gA 7 E<|eo_o E (Kdd hΓ (enc:=Lek) (Kcw hx10) E E E E E (fun _=>E))<|gO 1 E<|Kmp hΓ E E E Z<|gO 1 E<|Kmu hΓ E E E E E E E E Z<|Kdz [.box 117 [S x5.A,S x5.v_B,I x5.Millis]] E<|bK hy11 fun y14 hy14 h15=>gO 7 E<|Kdq C (Lfk hy14) E Z E E E E E<|gO 2 E<|bK h15 fun q16 hq16 h17=>Kcs 5 [(0,.d (Sl Lek l)),(3,I (i3:Int)),(4,.ptr 0 0),(8,.d (Sl Lek l)),(9,I (l.length:Int)),(10,I (i3:Int)),(25,B q16)] [.box 117 [S x5.A,S x5.v_B,I x5.Millis]] ?_ ?_
   ·refine Klj E E (fun hb=>?_) (fun hb=>?_)
    ·have h18:=cT hq16 hb
     exact gO 6 E<|oSi h18▸⟨⟨E,E,E,E,E,E,E,tV⟩,[],E,.inl E⟩
    have h19:=cF hq16 hb
    exact bK h19 fun y20 hy20 h21=>gO 2 E<|Klh E<|Kdq C (Lfk hy20) E Z E E E E E<|gO 3 E<|oSi h21▸⟨⟨E,E,E,E,E,E,E,tV⟩,[],E,.inl E⟩
   refine gO 3 E<|jC E h17 (fun h22=>?_) fun h25=>gA 10 E<|jC E h25 (fun h26=>?_) fun h29=>?_
   ·refine gA 9 E<|bK h22 fun v23 hv23 h24=>?_
    cases h24
    obtain rfl:=hout12 _ rfl
    cases h7
    exact gA 4 E<|oSi hv23▸gP E E
   ·refine gA 9 E<|bK h26 fun v27 hv27 h28=>?_
    cases h28
    obtain rfl:=hout12 _ rfl
    cases h7
    exact gA 4 E<|oSi hv27▸gP E E
   refine bK h29 fun y30 hy30 h31=>gA 4 E<|Kdq C (Lfg hy30) E Z E E E E E<|gO 3 E<|jC E h31 (fun h32=>?_) fun h35=>bK h35 fun q36 hq36 h37=>gA 1 E<|Kgq [(0,.d (Sl Lek l)),(8,.d (Sl Lek l)),(9,I (l.length:Int)),(10,I (i3:Int)),(36,B q36)] [.box 117 [S x5.A,S x5.v_B,I x5.Millis]] ?_ ?_
   ·refine gA 9 E<|bK h32 fun v33 hv33 h34=>?_
    cases h34
    obtain rfl:=hout12 _ rfl
    cases h7
    exact gA 4 E<|oSi hv33▸gP E E
   ·refine Kfr [.box 117 [S x5.A,S x5.v_B,I x5.Millis]] [10,19] [] [] hmix (by kernel_rfl) (by kernel_rfl) ⟨E,tV⟩ Z<|go_E hΓ 3 E<|Kfw E E (fun hb=>?_) (fun hb=>?_)
    ·have h38:=cT hq36 hb
     exact bK h38 fun x39 hx39 h40=>go_E hΓ 3 E<|ge_q E (.inr ⟨_,_,E,E⟩) (fun _ _=>Kft (qt_p (Kdd hΓ (enc:=Lek) hx39 E E E E E (fun _=>E))))<|bK h40 fun y41 hy41 h42=>go_E hΓ 4 E<|Kgs E C (Kuu hy41) E E E E E E<|bK h42 fun x43 hx43 h44=>go_E hΓ 3 E<|ge_q E (.inr ⟨_,_,E,E⟩) (fun _ _=>Kft (qt_p (Kdd hΓ (enc:=Lek) hx43 E E E E E (fun _=>E))))<|bK h44 fun y45 hy45 h46=>go_E hΓ 4 E<|Kgs E C (Kuu hy45) E E E E E E<|Kgt hΓ (enc:=(eN .i64)) [y41,y45] E E E E E E E E E E E E E<|bK h46 fun y47 hy47 h48=>Kgs E C (Lfn hy47) E E E E E E<|go_E hΓ 3 E<|Kfs<|oSi h48▸⟨⟨E,E,E,E,E,tV⟩,[],E,.inl E⟩
    have h49:=cF hq36 hb
    exact go_E hΓ 23 E<|Kfs<|oSi h49▸⟨⟨E,E,E,E,E,tV⟩,[],E,.inl E⟩
   refine gA 1 E<|jC E h37 (fun h50=>?_) fun h53=>gA 8 E ?_
   ·refine gA 9 E<|bK h50 fun v51 hv51 h52=>?_
    cases h52
    obtain rfl:=hout12 _ rfl
    cases h7
    exact gA 4 E<|oSi hv51▸gP E E
   cases h53
   exact⟨_,E,⟨⟨E,E,E,Kbw E (Kbv (nLl hlt hb9)),tV⟩,[_],E,.inr ⟨HB.mk E,FB.mk E,Z⟩⟩⟩
  subst hgo
  exact gA 6 E<|Kco E (dF (Int.lt_irrefl _))<|gA 4 E<|⟨_,E,⟨tV,[],E,.inl E⟩⟩
 intro a8 ha
 subst ha
 replace h7:=Kgk h7
 exact gA 7 E<|oSi h7▸gP E E
theorem Ldy{l:List Kzr}{r:List (Str×(List Kzs))}(h:Ldd l=some r):EC Tryz.prog 244 [.d (Sl Lek l)] [] fun g hp'=>g=.map 0∧hp'=[mOb kS false (eL Lel) r]:=by
 unfold Ldd at h
 refine QM Tryz.func244 E Z<|gA 7 E<|eo_s Z (nblt.1 E) (Khj false)<|Kdz [mOb kS false (eL Lel) ([]:List (Str×(List Kzs)))] E<|gO 11 E<|bK h fun q4 hq4 h5=>Kdc 7 E fun hb7=>Kgq [(3,.map 0)] [mOb kS false (eL Lel) q4] ?_ ?_
 ·refine gA 1 E<|Kei l hq4 (fun i1 s2=>[(3,.map 0),(7,.d (Sl Lek l)),(8,I (l.length:Int)),(9,I (i1:Int))]) (fun s2=>[mOb kS false (eL Lel) s2]) ⟨⟨E,E,E,E,tV⟩,[],E,.inl E⟩ (fun i1 x3 s2 y11 hx8 hlt hy9=>?_) (?_)
  ·refine gA 6 E<|Kcn E (dT (Int.ofNat_lt.2 hlt))<|gA 6 E<|eo_o E (Kdd hΓ (enc:=Lek) (Kcw hx8) E E E E E (fun _=>E))<|gO 1 E<|Kmp hΓ E E E Z<|Kmu hΓ E E E E E E E E Z<|Kdz [mOb kS false (eL Lel) s2,.box 117 [S x3.A,S x3.v_B,I x3.Millis]] E<|gO 3 E<|Kfr [.dead,.box 117 [S x3.A,S x3.v_B,I x3.Millis]] [2,5,8,10] [6,13,14] [] hmix (by kernel_rfl) (by kernel_rfl) ⟨E,tV⟩ Z<|gK hy9 fun hg13 h12=>go_E hΓ 6 E<|ge_h [mOb kS false (eL Lel) s2,.box 117 [S x3.A,S x3.v_B,I x3.Millis],rO 262 2 Lel ([]:List Kzs)] E E E (Kfz ⟨E,tV⟩) (Kgc (Kij 262 2 (Kig hΓ (kv:=kS) (agg:=false) (enc:=(eL Lel)) s2 x3.A E E E E Khe E E E E hg13)))<|go_E hΓ 4 E<|ge_q E (.inl E) (fun _ _=>Kft (qt_p (Kgh hΓ (gs:=[S x3.v_B,I x3.Millis]) E E E E E E)))<|Kgg hΓ (enc:=Lel) [(⟨x3.v_B,x3.Millis⟩:Kzs)] E E E E E E E E E E E E<|bK h12 fun y14 hy14 h15=>ge_h [mOb kS false (eL Lel) s2,.box 117 [S x3.A,S x3.v_B,I x3.Millis],.dead,rO 262 2 Lel y14] E E E (Kfz ⟨E,tV⟩) (Kgc (Kfh hΓ (enc:=Lel) (id:=2) (h2:=show Γ 262=some ⟨_,2,_,_⟩ from E) hy14 E E E E E E E E (fun _=>E) E))<|Kfx [mOb kS false (eL Lel) (mSet s2 x3.A y14),.box 117 [S x3.A,S x3.v_B,I x3.Millis],.dead,.dead] E E (Kfz ⟨E,tV⟩) (Kgd (Kik (Kdv 3 [26] E E) (Khr hΓ (kv:=kS) (agg:=false) (enc:=(eL Lel)) (id:=0) s2 x3.A y14 E E E Khe E E E E E) Z))<|Kfs<|gA 1 E<|Kfr [.dead,.box 117 [S x3.A,S x3.v_B,I x3.Millis]] [2,5,8,10] [6,13,14] [] hmix (by kernel_rfl) (by kernel_rfl) ⟨E,tV⟩ Z<|gK h15 fun hg17 h16=>go_E hΓ 6 E<|ge_h [mOb kS false (eL Lel) (mSet s2 x3.A y14),.box 117 [S x3.A,S x3.v_B,I x3.Millis],.dead,.dead,rO 262 2 Lel ([]:List Kzs)] E E E (Kfz ⟨E,tV⟩) (Kgc (Kij 262 2 (Kig hΓ (kv:=kS) (agg:=false) (enc:=(eL Lel)) (mSet s2 x3.A y14) x3.v_B E E E E Khe E E E E hg17)))<|go_E hΓ 4 E<|ge_q E (.inl E) (fun _ _=>Kft (qt_p (Kgh hΓ (gs:=[S x3.A,I x3.Millis]) E E E E E E)))<|Kgg hΓ (enc:=Lel) [(⟨x3.A,x3.Millis⟩:Kzs)] E E E E E E E E E E E E<|bK h16 fun y18 hy18 h19=>ge_h [mOb kS false (eL Lel) (mSet s2 x3.A y14),.box 117 [S x3.A,S x3.v_B,I x3.Millis],.dead,.dead,.dead,rO 262 2 Lel y18] E E E (Kfz ⟨E,tV⟩) (Kgc (Kfh hΓ (enc:=Lel) (id:=4) (h2:=show Γ 262=some ⟨_,2,_,_⟩ from E) hy18 E E E E E E E E (fun _=>E) E))<|Kfx [mOb kS false (eL Lel) (mSet (mSet s2 x3.A y14) x3.v_B y18),.box 117 [S x3.A,S x3.v_B,I x3.Millis],.dead,.dead,.dead,.dead] E E (Kfz ⟨E,tV⟩) (Kgd (Kik (Kdv 5 [40] E E) (Khr hΓ (kv:=kS) (agg:=false) (enc:=(eL Lel)) (id:=0) (mSet s2 x3.A y14) x3.v_B y18 E E E Khe E E E E E) Z))<|Kfs<|gA 2 E<|gA 4 E ?_
   cases h19
   exact⟨⟨E,E,E,Kbw E (Kbv (nLl hlt hb7)),tV⟩,[_,_,_,_,_],E,.inr ⟨HB.mk E,FB.mk E,Z⟩⟩
  exact gA 6 E<|Kco E (dF (Int.lt_irrefl _))<|gA 4 E<|⟨⟨E,tV⟩,[],E,.inl E⟩
 exact gA 8 E<|Kgm<|oSi h5▸Keg hΓ [] (.inr E) E E E E (.inl E)
theorem Ldz{a:Kzt}{b:Kzt}{r:Bool}(h:Lde a b=some r):Pure Tryz.prog 313 [.agg [I a.millis,I a.links],.agg [I b.millis,I b.links]] (B r):=by
 unfold Lde at h
 refine QP Tryz.func313 E E E<|gA 2 E<|Kmq E E E E Z<|Kmq E E E E Z<|gO 11 E<|Kcs 13 [(4,B false),(23,B ((decide ((a.millis:Int)<b.millis))||(((a.millis:Int)==b.millis)&&(decide ((a.links:Int)<b.links)))))] [.box 258 [I a.millis,I a.links],.box 258 [I b.millis,I b.links]] ?_ ?_
 ·refine Klj E E (fun hb=>?_) (fun hb=>?_)
  ·exact gO 14 E<|⟨⟨E,Kbx E (or_t hb),tV⟩,[],E,.inl E⟩
  refine gO 6 E<|Kcs 6 [(4,B false),(10,B false),(22,B (((a.millis:Int)==b.millis)&&(decide ((a.links:Int)<b.links))))] [.box 258 [I a.millis,I a.links],.box 258 [I b.millis,I b.links]] ?_ ?_
  ·refine Klj E E (fun hb=>?_) (fun hb=>?_)
   ·exact gO 7 E<|⟨⟨E,E,Kbx E (Kek hb),tV⟩,[],E,.inl E⟩
   exact gO 7 E<|⟨⟨E,E,Kbx E (Kel hb),tV⟩,[],E,.inl E⟩
  exact gO 2 E<|⟨⟨E,Kbx E (or_f hb),tV⟩,[],E,.inl E⟩
 exact gO 4 E<|oSi h▸gP E E
theorem Lea{k:Nat}{steps:List (Str×(List Kzs))}{v_from:Str}{r:List (Str×Kzt)}(h:Ldf k steps v_from=some r):EC Tryz.prog 245 [.map 0,S v_from] [mOb kS false (eL Lel) steps] fun g hp'=>g=.map 1∧hp'=[mOb kS false (eL Lel) steps,mOb kS true Lem r]:=by
 unfold Ldf at h
 refine QM Tryz.func245 E Z<|gA 7 E<|eo_s Z (nblt.1 E) (Khj true)<|Kdz [mOb kS false (eL Lel) steps,mOb kS true Lem ([]:List (Str×Kzt))] E<|gO 1 E<|Kav hΓ (gs:=[I 0,I 0]) E E E E E E E<|eo_u Z (Kif hΓ (kv:=kS) (agg:=true) (enc:=Lem) (id:=1) ([]:List (Str×Kzt)) v_from (⟨0,0⟩:Kzt) E E E Khe E E E E E)<|Kdz [mOb kS false (eL Lel) steps,mOb kS true Lem (mSet ([]:List (Str×Kzt)) v_from (⟨0,0⟩:Kzt))] E<|gO 6 E<|eo_s Z (nblt.1 E) (Khj false)<|Kdz [mOb kS false (eL Lel) steps,mOb kS true Lem (mSet ([]:List (Str×Kzt)) v_from (⟨0,0⟩:Kzt)),mObB ([]:List (Str×Bool))] E<|gO 3 E<|bK h fun q4 hq4 h5=>gA 1 E<|Kcz hq4 (fun s2=>[(0,.map 0),(5,.map 1),(6,.map 2)]) (fun s2=>[mOb kS false (eL Lel) steps,mOb kS true Lem s2.1,mObB s2.2]) ⟨⟨E,E,E,tV⟩,[],E,.inl E⟩ (fun s2 y10 hy8 hout9=>?_)
 refine gA 11 E<|Kib hΓ (kv:=kS) (agg:=true) (enc:=Lem) s2.1 E E E E E Z (fun mr11 bs12 cl13 hpm14 hbl15 hbn16=>?_)
 refine Kdz [mOb kS false (eL Lel) steps,mObS kS true Lem s2.1 (rawM kS Lem mr11 bs12 cl13),mObB s2.2,.iter 1 cl13 []] E<|gO 2 E<|bK hy8 fun q22 hq22 h23=>gA 1 E<|Kie hq22 hpm14 hbl15 hbn16 (fun s17=>[(0,.map 0),(5,.map 1),(6,.map 2),(7,S s17.1),(8,B s17.2),(22,.ptr 3 0)]) (fun sn19 s17=>[mOb kS false (eL Lel) steps,mObS kS true Lem s2.1 (rawM kS Lem mr11 bs12 cl13),mObB s2.2,.iter 1 cl13 sn19]) ⟨⟨E,E,E,E,E,E,tV⟩,[],E,.inl E⟩ (fun sn19 s17 hdone24 hstep25=>?_)
 refine gA 2 E<|Kic (kv:=kS) (agg:=true) (enc:=Lem) s2.1 mr11 bs12 cl13 sn19 [mOb kS false (eL Lel) steps,mOb kS true Lem s2.1,mObB s2.2,.dead] E E E E E Z (fun hdsn19=>?_) (fun j20 x18 b21 hjsn19 hbsn19 hnsn19=>?_)
 ·have hqsn19:=hdone24 hdsn19
  subst hqsn19
  refine gO 17 E<|jC E h23 (fun h26=>?_) fun h29=>gA 6 E<|eo_u Z (Khr hΓ (kv:=kS) (agg:=false) (enc:=eB) (id:=2) s2.2 q22.1 true E E E Khe E E E E E)<|Kdz [mOb kS false (eL Lel) steps,mOb kS true Lem s2.1,mObB (mSet s2.2 q22.1 true),.dead] E<|gO 6 E<|eo_o E (Khn hΓ (kv:=kS) (agg:=false) (enc:=(eL Lel)) steps q22.1 ([]:List Kzs) E E E E Khe E E E E E E E)<|gO 4 E<|bK h29 fun q33 hq33 h34=>Kdc 51 E fun hb36=>Kgq [(0,.map 0),(5,.map 1),(6,.map 2)] [mOb kS false (eL Lel) steps,mOb kS true Lem q33,mObB (mSet s2.2 q22.1 true),.dead] ?_ ?_
  ·refine gA 9 E<|bK h26 fun v27 hv27 h28=>?_
   cases h28
   obtain rfl:=hout9 _ rfl
   cases h5
   exact gA 2 E<|Kgm<|oSi hv27▸Keg hΓ [_,_] (.inr E) E E E E (.inr ⟨HB.mk E,E⟩)
  ·refine gA 1 E<|Kei ((mGet steps q22.1).getD []) hq33 (fun i30 s31=>[(0,.map 0),(5,.map 1),(6,.map 2),(7,S q22.1),(51,.d (Sl Lel ((mGet steps q22.1).getD []))),(52,I (((mGet steps q22.1).getD []).length:Int)),(53,I (i30:Int))]) (fun s31=>[mOb kS false (eL Lel) steps,mOb kS true Lem s31,mObB (mSet s2.2 q22.1 true),.dead]) ⟨⟨E,E,E,E,E,E,E,tV⟩,[],E,.inl E⟩ (fun i30 x32 s31 y40 hx37 hlt hy38=>?_) (?_)
   ·refine gA 6 E<|Kcn E (dT (Int.ofNat_lt.2 hlt))<|gA 6 E<|eo_o E (Kdd hΓ (enc:=Lel) (Kcw hx37) E E E E E (fun _=>E))<|gO 1 E<|Kmp hΓ E E E Z<|Kmu hΓ E E E E E E E E Z<|Kdz [mOb kS false (eL Lel) steps,mOb kS true Lem s31,mObB (mSet s2.2 q22.1 true),.dead,.box 262 [S x32.to,I x32.millis]] E<|gO 6 E<|eo_o E (Khn hΓ (kv:=kS) (agg:=true) (enc:=Lem) s31 q22.1 ((⟨0,0⟩:Kzt):Kzt) E E E E Khe E E E E E E E)<|gO 6 E<|eo_o E (Khn hΓ (kv:=kS) (agg:=true) (enc:=Lem) s31 q22.1 ((⟨0,0⟩:Kzt):Kzt) E E E E Khe E E E E E E E)<|gO 2 E<|Kav hΓ (gs:=[I (wi ((((mGet s31 q22.1).getD (⟨0,0⟩:Kzt)).millis)+x32.millis)),I (wi ((((mGet s31 q22.1).getD (⟨0,0⟩:Kzt)).links)+1))]) E E E E E E E<|Kmp hΓ E E E Z<|Kmu hΓ E E E E E E E E Z<|Kdz [mOb kS false (eL Lel) steps,mOb kS true Lem s31,mObB (mSet s2.2 q22.1 true),.dead,.box 262 [S x32.to,I x32.millis],.box 258 [I (wi ((((mGet s31 q22.1).getD (⟨0,0⟩:Kzt)).millis)+x32.millis)),I (wi ((((mGet s31 q22.1).getD (⟨0,0⟩:Kzt)).links)+1))]] E<|gO 7 E<|eo_o E (Kho hΓ (kv:=kS) (agg:=true) (enc:=Lem) s31 x32.to ((⟨0,0⟩:Kzt):Kzt) E E E E Khe E E E E E E E)<|gO 3 E<|Kmp hΓ E E E Z<|Kmu hΓ E E E E E E E E Z<|Kdz [mOb kS false (eL Lel) steps,mOb kS true Lem s31,mObB (mSet s2.2 q22.1 true),.dead,.box 262 [S x32.to,I x32.millis],.box 258 [I (wi ((((mGet s31 q22.1).getD (⟨0,0⟩:Kzt)).millis)+x32.millis)),I (wi ((((mGet s31 q22.1).getD (⟨0,0⟩:Kzt)).links)+1))],.box 258 [I (((mGet s31 x32.to).getD (⟨0,0⟩:Kzt)).millis),I (((mGet s31 x32.to).getD (⟨0,0⟩:Kzt)).links)]] E<|gO 8 E<|bK hy38 fun q41 hq41 h42=>Kcs 4 [(0,.map 0),(5,.map 1),(6,.map 2),(7,S q22.1),(12,.ptr 4 0),(13,.ptr 5 0),(51,.d (Sl Lel ((mGet steps q22.1).getD []))),(52,I (((mGet steps q22.1).getD []).length:Int)),(53,I (i30:Int)),(83,B q41)] [mOb kS false (eL Lel) steps,mOb kS true Lem s31,mObB (mSet s2.2 q22.1 true),.dead,.box 262 [S x32.to,I x32.millis],.box 258 [I (wi ((((mGet s31 q22.1).getD (⟨0,0⟩:Kzt)).millis)+x32.millis)),I (wi ((((mGet s31 q22.1).getD (⟨0,0⟩:Kzt)).links)+1))],.box 258 [I (((mGet s31 x32.to).getD (⟨0,0⟩:Kzt)).millis),I (((mGet s31 x32.to).getD (⟨0,0⟩:Kzt)).links)]] ?_ ?_
    ·refine Klj E E (fun hb=>?_) (fun hb=>?_)
     ·have h43:=cT hq41 hb
      exact gO 5 E<|oSi h43▸⟨⟨E,E,E,E,E,E,E,E,E,E,tV⟩,[],E,.inl E⟩
     have h44:=cF hq41 hb
     exact bK h44 fun y45 hy45 h46=>gO 2 E<|Klh E<|Kdq C (Ldz hy45) E Z E E E E E<|gO 2 E<|oSi h46▸⟨⟨E,E,E,E,E,E,E,E,E,E,tV⟩,[],E,.inl E⟩
    refine gO 2 E<|jC E h42 (fun h47=>?_) fun h48=>gA 7 E ?_
    ·refine gA 5 E<|eo_u Z (Khr hΓ (kv:=kS) (agg:=true) (enc:=Lem) (id:=1) s31 x32.to (⟨wi ((((mGet s31 q22.1).getD (⟨0,0⟩:Kzt)).millis)+x32.millis),wi ((((mGet s31 q22.1).getD (⟨0,0⟩:Kzt)).links)+1)⟩:Kzt) E E E Khe E E E E E)<|Kdz [mOb kS false (eL Lel) steps,mOb kS true Lem (mSet s31 x32.to (⟨wi ((((mGet s31 q22.1).getD (⟨0,0⟩:Kzt)).millis)+x32.millis),wi ((((mGet s31 q22.1).getD (⟨0,0⟩:Kzt)).links)+1)⟩:Kzt)),mObB (mSet s2.2 q22.1 true),.dead,.box 262 [S x32.to,I x32.millis],.box 258 [I (wi ((((mGet s31 q22.1).getD (⟨0,0⟩:Kzt)).millis)+x32.millis)),I (wi ((((mGet s31 q22.1).getD (⟨0,0⟩:Kzt)).links)+1))],.box 258 [I (((mGet s31 x32.to).getD (⟨0,0⟩:Kzt)).millis),I (((mGet s31 x32.to).getD (⟨0,0⟩:Kzt)).links)]] E<|gO 7 E ?_
     cases h47
     exact⟨⟨E,E,E,E,E,E,Kbw E (Kbv (nLl hlt hb36)),tV⟩,[_,_,_],E,.inr ⟨HB.mk E,FB.mk E,Z⟩⟩
    cases h48
    exact⟨⟨E,E,E,E,E,E,Kbw E (Kbv (nLl hlt hb36)),tV⟩,[_,_,_],E,.inr ⟨HB.mk E,FB.mk E,Z⟩⟩
   exact gA 6 E<|Kco E (dF (Int.lt_irrefl _))<|gA 4 E<|⟨⟨E,E,E,tV⟩,[],E,.inl E⟩
  exact gA 1 E<|oSi h34▸⟨_,E,⟨⟨E,E,E,tV⟩,[_],E,.inr ⟨HB.mk E,FB.mk E,Z⟩⟩⟩
 obtain⟨s49,h50⟩:=hstep25 j20 x18 b21 hjsn19 hbsn19 hnsn19
 have hssn19:=h50
 refine gO 10 E<|eo_o E (Kid (kv:=kS) (agg:=true) (enc:=Lem) s2.1 mr11 bs12 cl13 sn19 hjsn19 hbsn19 E E E E (fun _=>E))<|gO 2 E<|Kmp hΓ E E E Z<|gO 1 E<|Kmu hΓ E E E E E E E E Z<|Kdz [mOb kS false (eL Lel) steps,mObS kS true Lem s2.1 (rawM kS Lem mr11 bs12 cl13),mObB s2.2,.iter 1 cl13 (sn19++[b21]),.box 258 [I x18.2.millis,I x18.2.links]] E<|gO 6 E<|eo_o E (Khn hΓ (kv:=kS) (agg:=false) (enc:=eB) s2.2 x18.1 (false:Bool) E E E E Khe E E E E E E E)<|gO 2 E<|bK h50 fun q51 hq51 h52=>Kcs 10 [(0,.map 0),(5,.map 1),(6,.map 2),(7,S s17.1),(8,B s17.2),(9,S x18.1),(22,.ptr 3 0),(42,B q51)] [mOb kS false (eL Lel) steps,mObS kS true Lem s2.1 (rawM kS Lem mr11 bs12 cl13),mObB s2.2,.iter 1 cl13 (sn19++[b21]),.box 258 [I x18.2.millis,I x18.2.links]] ?_ ?_
 ·refine Klj E E (fun hb=>?_) (fun hb=>?_)
  ·have h53:=cT hq51 hb
   refine gO 3 E<|bK h53 fun q54 hq54 h55=>Kcs 6 [(0,.map 0),(5,.map 1),(6,.map 2),(7,S s17.1),(8,B s17.2),(9,S x18.1),(22,.ptr 3 0),(32,B true),(41,B q54)] [mOb kS false (eL Lel) steps,mObS kS true Lem s2.1 (rawM kS Lem mr11 bs12 cl13),mObB s2.2,.iter 1 cl13 (sn19++[b21]),.box 258 [I x18.2.millis,I x18.2.links]] ?_ ?_
   ·refine Klj E E (fun hb=>?_) (fun hb=>?_)
    ·have h56:=cT hq54 hb
     exact gO 7 E<|oSi h56▸⟨⟨E,E,E,E,E,E,E,E,E,tV⟩,[],E,.inl E⟩
    have h57:=cF hq54 hb
    exact gO 3 E<|Klh E<|eo_o E (Khn hΓ (kv:=kS) (agg:=true) (enc:=Lem) s2.1 s17.1 ((⟨0,0⟩:Kzt):Kzt) E E E E Khe E E E E E E E)<|bK h57 fun y58 hy58 h59=>Klh E<|Kdq C (Ldz hy58) E Z E E E E E<|gO 2 E<|oSi h59▸⟨⟨E,E,E,E,E,E,E,E,E,tV⟩,[],E,.inl E⟩
   exact gO 2 E<|oSi h55▸⟨⟨E,E,E,E,E,E,E,E,tV⟩,[],E,.inl E⟩
  have h60:=cF hq51 hb
  exact gO 11 E<|oSi h60▸⟨⟨E,E,E,E,E,E,E,E,tV⟩,[],E,.inl E⟩
 refine gO 2 E<|jC E h52 (fun h61=>?_) fun h62=>gA 2 E ?_
 ·refine gA 6 E ?_
  cases h61
  exact⟨j20,x18,b21,_,hjsn19,hbsn19,hnsn19,hssn19,⟨⟨E,E,E,E,E,E,tV⟩,[_],E,.inr ⟨HB.mk E,FB.mk E,Z⟩⟩⟩
 cases h62
 exact⟨j20,x18,b21,_,hjsn19,hbsn19,hnsn19,hssn19,⟨⟨E,E,E,E,E,E,tV⟩,[_],E,.inr ⟨HB.mk E,FB.mk E,Z⟩⟩⟩
theorem Leb{k:Nat}{l:List Kzr}{a:Str}{b:Str}{r:(List Str)×Int×Int}(h:Ldg k l a b=some r):Pure Tryz.prog 171 [.d (Sl Lek l),S a,S b] (.tup [.d (Sl eS r.1),I r.2.1,I r.2.2]):=by
 unfold Ldg at h
 refine QP Tryz.func171 E E E<|bK h fun y1 hy1 h2=>gA 10 E<|Kdp [] (.map 0) [mOb kS false (eL Lel) y1] C (Ldy hy1) E Z E E E E E E E E E E<|bK h2 fun y3 hy3 h4=>gO 7 E<|Kdp [0] (.map 1) [mOb kS false (eL Lel) y1,mOb kS true Lem y3] C (Lea hy3) E Z E E E E E E E E E E<|gO 8 E<|eo_o E (Kho hΓ (kv:=kS) (agg:=true) (enc:=Lem) y3 a ((⟨0,0⟩:Kzt):Kzt) E E E E Khe E E E E E E E)<|gO 3 E<|Kmp hΓ E E E Z<|Kmu hΓ E E E E E E E E Z<|Kdz [mOb kS false (eL Lel) y1,mOb kS true Lem y3,.box 258 [I (((mGet y3 a).getD (⟨0,0⟩:Kzt)).millis),I (((mGet y3 a).getD (⟨0,0⟩:Kzt)).links)]] E<|gO 9 E<|Kcm E (fun hb=>?_) (fun hb=>?_)
 ·have h5:=cT h4 hb
  exact gA 9 E<|oSi h5▸gP E E
 have h6:=cF h4 hb
 refine gA 5 E<|Kdm hΓ (enc:=eS) [a] E E E E E E E E E E E E Z<|gO 10 E<|bK h6 fun q10 hq10 h11=>Kgq [(1,S a),(10,.map 1),(13,.sl 3 q10.length)] [mOb kS false (eL Lel) y1,mOb kS true Lem y3,.box 258 [I (((mGet y3 a).getD (⟨0,0⟩:Kzt)).millis),I (((mGet y3 a).getD (⟨0,0⟩:Kzt)).links)],rO 9 1 eS q10] ?_ ?_
 ·refine gA 1 E<|Kcz hq10 (fun s8=>[(1,S a),(2,S b),(9,.map 0),(10,.map 1),(13,.sl 3 s8.1.length),(14,S s8.2)]) (fun s8=>[mOb kS false (eL Lel) y1,mOb kS true Lem y3,.box 258 [I (((mGet y3 a).getD (⟨0,0⟩:Kzt)).millis),I (((mGet y3 a).getD (⟨0,0⟩:Kzt)).links)],rO 9 1 eS s8.1]) ⟨⟨E,E,E,E,E,E,tV⟩,[],E,.inl E⟩ (fun s8 y16 hy14 hout15=>?_)
  refine gA 8 E<|Kcm E (fun hb=>?_) (fun hb=>?_)
  ·have h17:=cT hy14 hb
   refine gA 13 E<|eo_o E (Khn hΓ (kv:=kS) (agg:=false) (enc:=(eL Lel)) y1 s8.2 ([]:List Kzs) E E E E Khe E E E E E E E)<|gO 4 E<|bK h17 fun q21 hq21 h22=>Kdc 41 E fun hb24=>Kgq [(1,S a),(2,S b),(9,.map 0),(10,.map 1),(13,.sl 3 s8.1.length),(15,S q21)] [mOb kS false (eL Lel) y1,mOb kS true Lem y3,.box 258 [I (((mGet y3 a).getD (⟨0,0⟩:Kzt)).millis),I (((mGet y3 a).getD (⟨0,0⟩:Kzt)).links)],rO 9 1 eS s8.1] ?_ ?_
   ·refine gA 1 E<|Kei ((mGet y1 s8.2).getD []) hq21 (fun i18 s19=>[(1,S a),(2,S b),(9,.map 0),(10,.map 1),(13,.sl 3 s8.1.length),(14,S s8.2),(15,S s19),(41,.d (Sl Lel ((mGet y1 s8.2).getD []))),(42,I (((mGet y1 s8.2).getD []).length:Int)),(43,I (i18:Int))]) (fun s19=>[mOb kS false (eL Lel) y1,mOb kS true Lem y3,.box 258 [I (((mGet y3 a).getD (⟨0,0⟩:Kzt)).millis),I (((mGet y3 a).getD (⟨0,0⟩:Kzt)).links)],rO 9 1 eS s8.1]) ⟨⟨E,E,E,E,E,E,E,E,E,E,tV⟩,[],E,.inl E⟩ (fun i18 x20 s19 y28 hx25 hlt hy26=>?_) (?_)
    ·refine gA 6 E<|Kcn E (dT (Int.ofNat_lt.2 hlt))<|gA 6 E<|eo_o E (Kdd hΓ (enc:=Lel) (Kcw hx25) E E E E E (fun _=>E))<|gO 1 E<|Kmp hΓ E E E Z<|Kmu hΓ E E E E E E E E Z<|Kdz [mOb kS false (eL Lel) y1,mOb kS true Lem y3,.box 258 [I (((mGet y3 a).getD (⟨0,0⟩:Kzt)).millis),I (((mGet y3 a).getD (⟨0,0⟩:Kzt)).links)],rO 9 1 eS s8.1,.box 262 [S x20.to,I x20.millis]] E<|gO 7 E<|eo_o E (Kho hΓ (kv:=kS) (agg:=true) (enc:=Lem) y3 x20.to ((⟨0,0⟩:Kzt):Kzt) E E E E Khe E E E E E E E)<|gO 3 E<|Kmp hΓ E E E Z<|Kmu hΓ E E E E E E E E Z<|Kdz [mOb kS false (eL Lel) y1,mOb kS true Lem y3,.box 258 [I (((mGet y3 a).getD (⟨0,0⟩:Kzt)).millis),I (((mGet y3 a).getD (⟨0,0⟩:Kzt)).links)],rO 9 1 eS s8.1,.box 262 [S x20.to,I x20.millis],.box 258 [I (((mGet y3 x20.to).getD (⟨0,0⟩:Kzt)).millis),I (((mGet y3 x20.to).getD (⟨0,0⟩:Kzt)).links)]] E<|gO 7 E<|Kcs 11 [(1,S a),(2,S b),(9,.map 0),(10,.map 1),(13,.sl 3 s8.1.length),(14,S s8.2),(15,S s19),(17,.ptr 4 0),(18,.ptr 5 0),(41,.d (Sl Lel ((mGet y1 s8.2).getD []))),(42,I (((mGet y1 s8.2).getD []).length:Int)),(43,I (i18:Int)),(66,B (((mGet y3 x20.to).isSome)&&((wi ((((mGet y3 x20.to).getD (⟨0,0⟩:Kzt)).millis)+x20.millis):Int)==(((mGet y3 s8.2).getD (⟨0,0⟩:Kzt)).millis))))] [mOb kS false (eL Lel) y1,mOb kS true Lem y3,.box 258 [I (((mGet y3 a).getD (⟨0,0⟩:Kzt)).millis),I (((mGet y3 a).getD (⟨0,0⟩:Kzt)).links)],rO 9 1 eS s8.1,.box 262 [S x20.to,I x20.millis],.box 258 [I (((mGet y3 x20.to).getD (⟨0,0⟩:Kzt)).millis),I (((mGet y3 x20.to).getD (⟨0,0⟩:Kzt)).links)]] ?_ ?_
     ·refine Klj E E (fun hb=>?_) (fun hb=>?_)
      ·exact gO 7 E<|Klh E<|eo_o E (Khn hΓ (kv:=kS) (agg:=true) (enc:=Lem) y3 s8.2 ((⟨0,0⟩:Kzt):Kzt) E E E E Khe E E E E E E E)<|gO 4 E<|⟨⟨E,E,E,E,E,E,E,E,E,E,E,E,Kbx E (Kek hb),tV⟩,[],E,.inl E⟩
      exact gO 12 E<|⟨⟨E,E,E,E,E,E,E,E,E,E,E,E,Kbx E (Kel hb),tV⟩,[],E,.inl E⟩
     refine gO 1 E<|Kcs 9 [(1,S a),(2,S b),(9,.map 0),(10,.map 1),(13,.sl 3 s8.1.length),(14,S s8.2),(15,S s19),(17,.ptr 4 0),(41,.d (Sl Lel ((mGet y1 s8.2).getD []))),(42,I (((mGet y1 s8.2).getD []).length:Int)),(43,I (i18:Int)),(76,B ((((mGet y3 x20.to).isSome)&&((wi ((((mGet y3 x20.to).getD (⟨0,0⟩:Kzt)).millis)+x20.millis):Int)==(((mGet y3 s8.2).getD (⟨0,0⟩:Kzt)).millis)))&&((wi ((((mGet y3 x20.to).getD (⟨0,0⟩:Kzt)).links)+1):Int)==(((mGet y3 s8.2).getD (⟨0,0⟩:Kzt)).links))))] [mOb kS false (eL Lel) y1,mOb kS true Lem y3,.box 258 [I (((mGet y3 a).getD (⟨0,0⟩:Kzt)).millis),I (((mGet y3 a).getD (⟨0,0⟩:Kzt)).links)],rO 9 1 eS s8.1,.box 262 [S x20.to,I x20.millis],.box 258 [I (((mGet y3 x20.to).getD (⟨0,0⟩:Kzt)).millis),I (((mGet y3 x20.to).getD (⟨0,0⟩:Kzt)).links)]] ?_ ?_
     ·refine Klj E E (fun hb=>?_) (fun hb=>?_)
      ·exact gO 5 E<|Klh E<|eo_o E (Khn hΓ (kv:=kS) (agg:=true) (enc:=Lem) y3 s8.2 ((⟨0,0⟩:Kzt):Kzt) E E E E Khe E E E E E E E)<|gO 4 E<|⟨⟨E,E,E,E,E,E,E,E,E,E,E,Kbx E (Kek hb),tV⟩,[],E,.inl E⟩
      exact gO 10 E<|⟨⟨E,E,E,E,E,E,E,E,E,E,E,Kbx E (Kel hb),tV⟩,[],E,.inl E⟩
     refine gO 1 E<|Kcs 9 [(1,S a),(2,S b),(9,.map 0),(10,.map 1),(13,.sl 3 s8.1.length),(14,S s8.2),(15,S s19),(17,.ptr 4 0),(41,.d (Sl Lel ((mGet y1 s8.2).getD []))),(42,I (((mGet y1 s8.2).getD []).length:Int)),(43,I (i18:Int)),(86,B (((((mGet y3 x20.to).isSome)&&((wi ((((mGet y3 x20.to).getD (⟨0,0⟩:Kzt)).millis)+x20.millis):Int)==(((mGet y3 s8.2).getD (⟨0,0⟩:Kzt)).millis)))&&((wi ((((mGet y3 x20.to).getD (⟨0,0⟩:Kzt)).links)+1):Int)==(((mGet y3 s8.2).getD (⟨0,0⟩:Kzt)).links)))&&(((s19:Str)==[])||(Op.bytesLess x20.to s19))))] [mOb kS false (eL Lel) y1,mOb kS true Lem y3,.box 258 [I (((mGet y3 a).getD (⟨0,0⟩:Kzt)).millis),I (((mGet y3 a).getD (⟨0,0⟩:Kzt)).links)],rO 9 1 eS s8.1,.box 262 [S x20.to,I x20.millis],.box 258 [I (((mGet y3 x20.to).getD (⟨0,0⟩:Kzt)).millis),I (((mGet y3 x20.to).getD (⟨0,0⟩:Kzt)).links)]] ?_ ?_
     ·refine Klj E E (fun hb=>?_) (fun hb=>?_)
      ·refine gO 3 E<|Kcs 5 [(1,S a),(2,S b),(9,.map 0),(10,.map 1),(13,.sl 3 s8.1.length),(14,S s8.2),(15,S s19),(17,.ptr 4 0),(41,.d (Sl Lel ((mGet y1 s8.2).getD []))),(42,I (((mGet y1 s8.2).getD []).length:Int)),(43,I (i18:Int)),(77,B true),(85,B (((s19:Str)==[])||(Op.bytesLess x20.to s19)))] [mOb kS false (eL Lel) y1,mOb kS true Lem y3,.box 258 [I (((mGet y3 a).getD (⟨0,0⟩:Kzt)).millis),I (((mGet y3 a).getD (⟨0,0⟩:Kzt)).links)],rO 9 1 eS s8.1,.box 262 [S x20.to,I x20.millis],.box 258 [I (((mGet y3 x20.to).getD (⟨0,0⟩:Kzt)).millis),I (((mGet y3 x20.to).getD (⟨0,0⟩:Kzt)).links)]] ?_ ?_
       ·refine Klj E E (fun hb=>?_) (fun hb=>?_)
        ·exact gO 6 E<|⟨⟨E,E,E,E,E,E,E,E,E,E,E,E,Kbx E (or_t hb),tV⟩,[],E,.inl E⟩
        exact gO 6 E<|⟨⟨E,E,E,E,E,E,E,E,E,E,E,E,Kbx E (or_f hb),tV⟩,[],E,.inl E⟩
       exact gO 2 E<|⟨⟨E,E,E,E,E,E,E,E,E,E,E,Kbx E (Kek hb),tV⟩,[],E,.inl E⟩
      exact gO 10 E<|⟨⟨E,E,E,E,E,E,E,E,E,E,E,Kbx E (Kel hb),tV⟩,[],E,.inl E⟩
     refine gO 2 E<|jC E hy26 (fun h29=>?_) fun h30=>gA 7 E ?_
     ·refine gA 11 E ?_
      cases h29
      exact⟨⟨E,E,E,E,E,E,E,E,E,Kbw E (Kbv (nLl hlt hb24)),tV⟩,[_,_],E,.inr ⟨HB.mk E,FB.mk E,Z⟩⟩
     cases h30
     exact⟨⟨E,E,E,E,E,E,E,E,E,Kbw E (Kbv (nLl hlt hb24)),tV⟩,[_,_],E,.inr ⟨HB.mk E,FB.mk E,Z⟩⟩
    exact gA 6 E<|Kco E (dF (Int.lt_irrefl _))<|gA 4 E<|⟨⟨E,E,E,E,E,E,tV⟩,[],E,.inl E⟩
   exact gA 10 E<|Kdk hΓ (enc:=eS) [q21] E E E E E E E E E E E E Z<|bK h22 fun y31 hy31 h32=>Kea hΓ (enc:=eS) hy31 E E E E E E E E E (fun _=>E) E E E E<|gO 3 E<|oSi h32▸⟨_,E,⟨⟨E,E,E,E,E,E,tV⟩,[],E,.inl E⟩⟩
  have h33:=cF hy14 hb
  refine gA 4 E ?_
  cases h33
  obtain rfl:=hout15 _ rfl
  exact⟨⟨E,E,E,tV⟩,[],E,.inl E⟩
 exact gA 2 E<|jD<|gA 3 E<|gl_o E (Khn hΓ (kv:=kS) (agg:=true) (enc:=Lem) y3 a ((⟨0,0⟩:Kzt):Kzt) E E E E Khe E E E E E E E)<|Kck hΓ 6 E<|Kdy 3 [6,13,95] _ [mOb kS false (eL Lel) y1,mOb kS true Lem y3,.box 258 [I (((mGet y3 a).getD (⟨0,0⟩:Kzt)).millis),I (((mGet y3 a).getD (⟨0,0⟩:Kzt)).links)],.dead] E E E Z<|gA 1 E<|oSi h11▸gP E E
theorem Lec{k:Nat}{l:List Kzr}{a:Str}{b:Str}{r:(List Str)×Int×Int}(h:Ldh k l a b=some r):Pure Tryz.prog 74 [.d (Sl Lek l),S a,S b] (.tup [.d (Sl eS r.1),I r.2.1,I r.2.2]):=by
 unfold Ldh at h
 refine QP Tryz.func74 E E E<|bK h fun y1 hy1 h2=>gA 11 E<|Kdq C (Ldx hy1) E Z E E E E E<|gO 9 E<|jC E h2 (fun h3=>?_) fun h4=>bK h4 fun y5 hy5 h6=>gA 6 E<|Kdq C (Lfk hy5) E Z E E E E E<|gO 2 E<|bK h6 fun q7 hq7 h8=>Kcs 4 [(0,.d (Sl Lek l)),(1,S a),(2,S b),(22,B q7)] [] ?_ ?_
 ·exact gA 10 E<|oSi h3▸gP E E
 ·refine Klj E E (fun hb=>?_) (fun hb=>?_)
  ·have h9:=cT hq7 hb
   exact gO 5 E<|oSi h9▸⟨⟨E,E,E,E,tV⟩,[],E,.inl E⟩
  have h10:=cF hq7 hb
  exact bK h10 fun y11 hy11 h12=>gO 1 E<|Klh E<|Kdq C (Lfk hy11) E Z E E E E E<|gO 3 E<|oSi h12▸⟨⟨E,E,E,E,tV⟩,[],E,.inl E⟩
 refine gO 2 E<|jC E h8 (fun h13=>?_) fun h14=>bK h14 fun y15 hy15 h16=>gA 7 E<|Kdq C (Leb hy15) E Z E E E E E<|gO 9 E<|oSi h16▸gP E E
 exact gA 9 E<|oSi h13▸gP E E
theorem Led{s1:List Str}{s2:List Str}{r:Bool}(h:Ldi s1 s2=some r):Pure Tryz.prog 75 [.d (Sl eS s1),.d (Sl eS s2)] (B r):=by
 unfold Ldi at h
 refine QP Tryz.func75 E E E<|gA 15 E<|jC E h (fun h1=>?_) fun h2=>gA 10 E<|bK h2 fun q6 hq6 h7=>Kdc 0 E fun hb9=>Kgp (R:=fun a8=>q6=.go a8) (fun a8=>[]) (fun a8=>[]) ?_ ?_
 ·exact gA 7 E<|oSi h1▸gP E E
 ·refine gA 1 E<|Kdb s1 hq6 (fun i3 s4=>[(0,.d (Sl eS s1)),(1,.d (Sl eS s2)),(12,I (s1.length:Int)),(13,I (i3:Int))]) (fun s4=>[]) ⟨⟨E,E,E,E,tV⟩,[],E,.inl E⟩ (fun i3 x5 s4 y13 hx10 hlt hy11 hout12=>?_) (fun s4 hgo=>?_)
  ·refine gA 6 E<|Kcn E (dT (Int.ofNat_lt.2 hlt))<|gA 11 E<|jD<|gA 2 E<|gl_o E (Kdd hΓ (enc:=eS) (Kcw hx10) E E E E E (fun _=>E))<|bK hy11 fun x14 hx14 h15=>Kck hΓ 3 E<|gl_o E (Kdd hΓ (enc:=eS) hx14 E E E E E (fun _=>E))<|Kck hΓ 4 E<|jC E h15 (fun h16=>?_) fun h19=>gA 7 E ?_
   ·refine gA 8 E<|bK h16 fun v17 hv17 h18=>?_
    cases h18
    obtain rfl:=hout12 _ rfl
    cases h7
    exact gA 4 E<|oSi hv17▸gP E E
   cases h19
   exact⟨_,E,⟨⟨E,E,E,Kbw E (Kbv (nLl hlt hb9)),tV⟩,[],E,.inl E⟩⟩
  subst hgo
  exact gA 6 E<|Kco E (dF (Int.lt_irrefl _))<|gA 4 E<|⟨_,E,⟨tV,[],E,.inl E⟩⟩
 intro a8 ha
 subst ha
 replace h7:=Kgk h7
 exact gA 7 E<|oSi h7▸gP E E
theorem Lee{k:Nat}{r:Bool}(h:Ldj k=some r):Pure Tryz.prog 15 [] (B r):=by
 unfold Ldj at h
 refine QP Tryz.func15 E E E<|gA 7 E<|Kav hΓ (gs:=[S [97],S [98],I 3]) E E E E E E E<|Kdk hΓ (enc:=Lek) [(⟨[97],[98],3⟩:Kzr)] E E E E E E E E E E E E Z<|bK h fun y1 hy1 h2=>Kdq C (Lec hy1) E Z E E E E E<|gO 14 E<|Kcs 3 [(0,B false),(1,.d (Sl eS y1.1)),(16,B (((y1.2.2:Int)==0)&&((y1.2.1:Int)==3)))] [] ?_ ?_
 ·refine Klj E E (fun hb=>?_) (fun hb=>?_)
  ·exact gO 4 E<|⟨⟨E,E,Kbx E (Kek hb),tV⟩,[],E,.inl E⟩
  exact gO 4 E<|⟨⟨E,E,Kbx E (Kel hb),tV⟩,[],E,.inl E⟩
 refine gO 1 E<|bK h2 fun q3 hq3 h4=>Kcs 4 [(0,B false),(21,B q3)] [] ?_ ?_
 ·refine Klj E E (fun hb=>?_) (fun hb=>?_)
  ·have h5:=cT hq3 hb
   exact gO 1 E<|Klh E<|Kdk hΓ (enc:=eS) [[98],[97]] E E E E E E E E E E E E Z<|bK h5 fun y6 hy6 h7=>Klh E<|Kdq C (Led hy6) E Z E E E E E<|gO 2 E<|oSi h7▸⟨⟨E,E,tV⟩,[],E,.inl E⟩
  have h8:=cF hq3 hb
  exact gO 5 E<|oSi h8▸⟨⟨E,E,tV⟩,[],E,.inl E⟩
 exact gO 4 E<|oSi h4▸gP E E
theorem Lef{k:Nat}{l:List Int}{r:Bool}(h:Ldk k l=some r):Pure Tryz.prog 3 [.d (Sl (eN .i64) l)] (B r):=by
 unfold Ldk at h
 refine QP Tryz.func3 E E E<|gA 8 E<|Kav hΓ (gs:=[.d (Sl (eN .i64) l),I 0]) E E E E E E E<|Kmq E E E E Z<|bK h fun y1 hy1 h2=>gO 6 E<|Kdp [0] (.sl 1 y1.1.length) [.box 25 (fQ y1.2),rO 43 6 Lej y1.1] C (Lfd hy1) E Z E E E E E E E E E E<|Kdw 1 [19] _ [.box 25 (fQ y1.2),.dead] E E E Z<|bK h2 fun y3 hy3 h4=>gO 6 E<|Kdq C (Lgb hy3) E Z E E E E E<|bK h4 fun y5 hy5 h6=>gO 11 E<|Kdq C (Lgm hy5) E Z E E E E E<|gO 9 E<|bK h6 fun q7 hq7 h8=>Kcs 9 [(3,.ptr 0 0),(5,S y3.1),(7,I y5),(39,B q7)] [.box 25 (fQ y1.2),.dead] ?_ ?_
 ·refine Klj E E (fun hb=>?_) (fun hb=>?_)
  ·have h9:=cT hq7 hb
   exact gO 10 E<|oSi h9▸⟨⟨E,E,E,E,tV⟩,[],E,.inl E⟩
  have h10:=cF hq7 hb
  refine gO 3 E<|bK h10 fun q11 hq11 h12=>Kcs 5 [(3,.ptr 0 0),(5,S y3.1),(7,I y5),(30,B false),(38,B q11)] [.box 25 (fQ y1.2),.dead] ?_ ?_
  ·refine Klj E E (fun hb=>?_) (fun hb=>?_)
   ·have h13:=cT hq11 hb
    exact bK h13 fun y14 hy14 h15=>gO 2 E<|Klh E<|Kdq C (Lgt hy14) E Z E E E E E<|gO 3 E<|oSi h15▸⟨⟨E,E,E,E,E,tV⟩,[],E,.inl E⟩
   have h16:=cF hq11 hb
   exact gO 6 E<|oSi h16▸⟨⟨E,E,E,E,E,tV⟩,[],E,.inl E⟩
  exact gO 2 E<|oSi h12▸⟨⟨E,E,E,E,tV⟩,[],E,.inl E⟩
 refine gO 1 E<|Kcs 7 [(3,.ptr 0 0),(47,B (q7||(((y5:Int) != 0)&&(!((y3.1:Str)==[])))))] [.box 25 (fQ y1.2),.dead] ?_ ?_
 ·refine Klj E E (fun hb=>?_) (fun hb=>?_)
  ·exact gO 8 E<|⟨⟨E,Kbx E (or_t hb),tV⟩,[],E,.inl E⟩
  refine gO 3 E<|Kcs 3 [(3,.ptr 0 0),(40,B false),(46,B (((y5:Int) != 0)&&(!((y3.1:Str)==[]))))] [.box 25 (fQ y1.2),.dead] ?_ ?_
  ·refine Klj E E (fun hb=>?_) (fun hb=>?_)
   ·exact gO 4 E<|⟨⟨E,E,Kbx E (Kek hb),tV⟩,[],E,.inl E⟩
   exact gO 4 E<|⟨⟨E,E,Kbx E (Kel hb),tV⟩,[],E,.inl E⟩
  exact gO 2 E<|⟨⟨E,Kbx E (or_f hb),tV⟩,[],E,.inl E⟩
 refine gO 2 E<|Kcm E (fun hb=>?_) (fun hb=>?_)
 ·have h17:=cT h8 hb
  exact gA 7 E<|oSi h17▸gP E E
 have h18:=cF h8 hb
 refine bK h18 fun y19 hy19 h20=>gA 5 E<|Kdp [0] (S y19.1) [.box 25 (fQ y19.2),.dead] C (Lgv hy19) E Z E E E E E E E E E E<|bK h20 fun y21 hy21 h22=>gO 6 E<|Kdq C (Ldl hy21) E Z E E E E E<|bK h22 fun y23 hy23 h24=>gO 12 E<|Kdq C (Ldv hy23) E Z E E E E E<|gO 15 E<|Kcs 4 [(9,.d (Sl Lej y21.1)),(12,.d (Sl Lej y23.1)),(69,B (((y21.2.2:Int)==y23.2.2)&&((y21.2.1:Int)==y23.2.1)))] [.box 25 (fQ y19.2),.dead] ?_ ?_
 ·refine Klj E E (fun hb=>?_) (fun hb=>?_)
  ·exact gO 5 E<|⟨⟨E,E,Kbx E (Kek hb),tV⟩,[],E,.inl E⟩
  exact gO 5 E<|⟨⟨E,E,Kbx E (Kel hb),tV⟩,[],E,.inl E⟩
 refine gO 1 E<|bK h24 fun q25 hq25 h26=>Kcs 4 [(74,B q25)] [.box 25 (fQ y19.2),.dead] ?_ ?_
 ·refine Klj E E (fun hb=>?_) (fun hb=>?_)
  ·have h27:=cT hq25 hb
   exact bK h27 fun y28 hy28 h29=>gO 2 E<|Klh E<|Kdq C (Ldw hy28) E Z E E E E E<|gO 2 E<|oSi h29▸⟨⟨E,tV⟩,[],E,.inl E⟩
  have h30:=cF hq25 hb
  exact gO 5 E<|oSi h30▸⟨⟨E,tV⟩,[],E,.inl E⟩
 refine gO 1 E<|bK h26 fun q31 hq31 h32=>Kcs 2 [(77,B q31)] [.box 25 (fQ y19.2),.dead] ?_ ?_
 ·refine Klj E E (fun hb=>?_) (fun hb=>?_)
  ·have h33:=cT hq31 hb
   exact bK h33 fun y34 hy34 h35=>Klh E<|Kdq C (Lee hy34) E Z E E E E E<|gO 2 E<|oSi h35▸⟨⟨E,tV⟩,[],E,.inl E⟩
  have h36:=cF hq31 hb
  exact gO 3 E<|oSi h36▸⟨⟨E,tV⟩,[],E,.inl E⟩
 exact gO 4 E<|oSi h32▸gP E E
end Go.Proofs.YtfnjahjbpaoepaaGreatDoor
