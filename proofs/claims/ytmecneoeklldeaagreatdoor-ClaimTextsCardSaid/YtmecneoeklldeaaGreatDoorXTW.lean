import Derived.Test.YtmecneoeklldeaaGreatDoorXTM
import Derived.Test.YtmecneoeklldeaaGreatDoorGt
import Derived.Test.YtmecneoeklldeaaGreatDoorStr
import Derived.Test.YtmecneoeklldeaaGreatDoorStr9
import Derived.Test.YtmecneoeklldeaaGreatDoorStrC
import Derived.Test.YtmecneoeklldeaaGreatDoorStrN
import Derived.Test.YtmecneoeklldeaaGreatDoorBld
import Derived.Test.YtmecneoeklldeaaGreatDoorRpT
import Derived.Test.YtmecneoeklldeaaGreatDoorGk62
import Derived.Test.YtmecneoeklldeaaGreatDoorXTW1
set_option maxHeartbeats 8000000
set_option linter.all false
set_option maxRecDepth 100000
namespace Go.Proofs.YtmecneoeklldeaaGreatDoor
open Go.Gk
theorem Lat{s:Str}{i:Int}{r:Bool}(h:Kzr s i=some r):Pure Tryz.prog 130 [S s,I i] (B r):=by
 unfold Kzr at h
 refine QP Tryz.func130 E E E<|gA 12 E<|bK h fun q1 hq1 h2=>Kgf 6 [(4,B false),(15,B q1)] [] ?_ ?_
 ·refine Kno E E (fun hb=>?_) (fun hb=>?_)
  ·have h3:=cT hq1 hb
   exact bK h3 fun c4 hc4 h5=>gO 2 E<|Knm E<|eo_o E (Kgr hΓ hc4 E E E E)<|bK h5 fun y6 hy6 h7=>Knm E<|Khd C (Ksg hy6) E Z E E E E E<|gO 3 E<|oSi h7▸⟨⟨E,E,tV⟩,[],E,.inl E⟩
  have h8:=cF hq1 hb
  exact gO 7 E<|oSi h8▸⟨⟨E,E,tV⟩,[],E,.inl E⟩
 exact gO 4 E<|oSi h2▸gP E E
theorem Lau{s:Str}{r:Kxc×Int}(h:Kzs s=some r):Pure Tryz.prog 131 [S s] (.tup [.agg [I r.1.Kind,I r.1.Number,S r.1.Words,I r.1.Version.1,I r.1.Version.2.1,I r.1.Version.2.2.1,I r.1.Version.2.2.2],I r.2]):=by
 unfold Kzs at h
 refine QP Tryz.func131 E E E<|gA 2 E<|Kov hΓ E E E Z<|bK h fun z1 hz1 h2=>gO 6 E<|eo_o E (Kgs hΓ hz1 E E E E E)<|bK h2 fun y3 hy3 h4=>Khd C (Leg hy3) E Z E E E E E<|gO 6 E<|Keg hΓ (gs:=[I 4,I 0,S [],I 0,I 0,I 0,I 0]) E E E E E E E<|Kov hΓ E E E Z<|Kpa hΓ E E E E E E E E Z<|Khk [.box 40 [I 0,I 0,S [],I 0,I 0,I 0,I 0],.box 40 [I 4,I 0,S [],I 0,I 0,I 0,I 0]] E<|bK h4 fun z5 hz5 h6=>gO 6 E<|eo_o E (Kgs hΓ hz5 E E E E E)<|bK h6 fun y7 hy7 h8=>Khd C (Pure.rows (Ksb hy7) E E) E Z E E E E E<|gO 11 E<|jC E h8 (fun h9=>?_) fun h10=>gA 10 E<|bK h10 fun q14 hq14 h15=>Kgp 24 E fun hb17=>Kjx (R:=fun a16=>q14=.go a16) (fun a16=>[(2,.ptr 0 0),(4,I (wi (1+y3))),(5,.ptr 1 0)]) (fun a16=>[.box 40 [I 0,I 0,S [],I 0,I 0,I 0,I 0],.box 40 [I a16.Kind,I a16.Number,S a16.Words,I a16.Version.1,I a16.Version.2.1,I a16.Version.2.2.1,I a16.Version.2.2.2]]) ?_ ?_
 ·exact gA 2 E<|Keg hΓ (gs:=[I 0,I 0,S [],I 0,I 0,I 0,I 0]) E E E E E E E<|Kpa hΓ E E E E E E E E Z<|Khk [.box 40 [I 0,I 0,S [],I 0,I 0,I 0,I 0],.box 40 [I 4,I 0,S [],I 0,I 0,I 0,I 0]] E<|gO 5 E<|oSi h9▸gP E E
 ·refine gA 1 E<|Kgo y7 hq14 (fun i11 s12=>[(2,.ptr 0 0),(4,I (wi (1+y3))),(5,.ptr 1 0),(24,.d (Sl eS y7)),(25,I (y7.length:Int)),(26,I (i11:Int))]) (fun s12=>[.box 40 [I 0,I 0,S [],I 0,I 0,I 0,I 0],.box 40 [I s12.Kind,I s12.Number,S s12.Words,I s12.Version.1,I s12.Version.2.1,I s12.Version.2.2.1,I s12.Version.2.2.2]]) ⟨⟨E,E,E,E,E,E,tV⟩,[],E,.inl E⟩ (fun i11 x13 s12 y21 hx18 hlt hy19 hout20=>?_) (fun s12 hgo=>?_)
  ·refine gA 6 E<|Kga E (dT (Int.ofNat_lt.2 hlt))<|gA 7 E<|eo_o E (Kgq hΓ (enc:=eS) (Kgj hx18) E E E E E (fun _=>E))<|bK hy19 fun y22 hy22 h23=>gO 8 E<|Khd C (Lef hy22) E Z E E E E E<|gO 14 E<|jC E h23 (fun h24=>?_) fun h27=>bK h27 fun x28 hx28 h29=>gA 6 E<|eo_o E (Kkz hΓ hx28 E E E E E E)<|eo_u Z (Kmg hΓ (l:=([s12.Version.1,s12.Version.2.1,s12.Version.2.2.1,s12.Version.2.2.2]:List Int)) (v:=y22.1) (f:=fun z=>.d (.v (.int .i64 z))) (pre:=[I s12.Kind,I s12.Number,S s12.Words]) (post:=[]) hx28 E E E E E E E E E E E)<|Khk [.box 40 [I 0,I 0,S [],I 0,I 0,I 0,I 0],.box 40 [I s12.Kind,I s12.Number,S s12.Words,I (updA (i11:Int) 0 y22.1 s12.Version.1),I (updA (i11:Int) 1 y22.1 s12.Version.2.1),I (updA (i11:Int) 2 y22.1 s12.Version.2.2.1),I (updA (i11:Int) 3 y22.1 s12.Version.2.2.2)]] E<|gO 7 E ?_
   ·refine gA 2 E<|Keg hΓ (gs:=[I 0,I 0,S [],I 0,I 0,I 0,I 0]) E E E E E E E<|Kpa hΓ E E E E E E E E Z<|Khk [.box 40 [I 0,I 0,S [],I 0,I 0,I 0,I 0],.box 40 [I s12.Kind,I s12.Number,S s12.Words,I s12.Version.1,I s12.Version.2.1,I s12.Version.2.2.1,I s12.Version.2.2.2]] E<|gO 7 E<|bK h24 fun v25 hv25 h26=>?_
    cases h26
    obtain rfl:=hout20 _ rfl
    cases h15
    exact gA 4 E<|oSi hv25▸gP E E
   cases h29
   exact⟨_,E,⟨⟨E,E,E,E,E,Kfh E (Kfg (nLl hlt hb17)),tV⟩,[],E,.inl E⟩⟩
  subst hgo
  exact gA 6 E<|Kgb E (dF (Int.lt_irrefl _))<|gA 4 E<|⟨_,E,⟨⟨E,E,E,tV⟩,[],E,.inl E⟩⟩
 intro a16 ha
 subst ha
 replace h15:=Kju h15
 exact gA 5 E<|Kpa hΓ E E E E E E E E Z<|Khk [.box 40 [I a16.Kind,I a16.Number,S a16.Words,I a16.Version.1,I a16.Version.2.1,I a16.Version.2.2.1,I a16.Version.2.2.2],.box 40 [I a16.Kind,I a16.Number,S a16.Words,I a16.Version.1,I a16.Version.2.1,I a16.Version.2.2.1,I a16.Version.2.2.2]] E<|gO 4 E<|oSi h15▸gP E E
theorem Lav{k:Nat}{v_r:Kxg}{r:Kxg}(h:Kzt k v_r=some r):EC Tryz.prog 92 [.ptr 0 0] [.box 125 [S v_r.s,I v_r.v_at,S v_r.v_next.kind,I v_r.v_next.v_at,S v_r.v_next.name,I v_r.v_next.value.Kind,I v_r.v_next.value.Number,S v_r.v_next.value.Words,I v_r.v_next.value.Version.1,I v_r.v_next.value.Version.2.1,I v_r.v_next.value.Version.2.2.1,I v_r.v_next.value.Version.2.2.2,I v_r.fault]] fun g hp'=>g=.tup []∧hp'=[.box 125 [S r.s,I r.v_at,S r.v_next.kind,I r.v_next.v_at,S r.v_next.name,I r.v_next.value.Kind,I r.v_next.value.Number,S r.v_next.value.Words,I r.v_next.value.Version.1,I r.v_next.value.Version.2.1,I r.v_next.value.Version.2.2.1,I r.v_next.value.Version.2.2.2,I r.fault]]:=by
 unfold Kzt at h
 refine QN Tryz.func92 E Z<|gA 1 E<|Kjb [.box 125 [S v_r.s,I v_r.v_at,S v_r.v_next.kind,I v_r.v_next.v_at,S v_r.v_next.name,I v_r.v_next.value.Kind,I v_r.v_next.value.Number,S v_r.v_next.value.Words,I v_r.v_next.value.Version.1,I v_r.v_next.value.Version.2.1,I v_r.v_next.value.Version.2.2.1,I v_r.v_next.value.Version.2.2.2,I v_r.fault]] [3,7,11] [17] [17] hmix (by kernel_rfl) (by kernel_rfl) ⟨E,tV⟩ Z<|bK h fun z1 hz1 h2=>go_E hΓ 12 E<|ge_q E (.inl E) (fun _ _=>Kjd (qt_p (Kgs hΓ hz1 E E E E E)))<|bK h2 fun y3 hy3 h4=>Kjp C (Leg hy3) E E E E E E<|go_E hΓ 3 E<|Kjh [.box 125 [S v_r.s,I (wi (v_r.v_at+y3)),S v_r.v_next.kind,I v_r.v_next.v_at,S v_r.v_next.name,I v_r.v_next.value.Kind,I v_r.v_next.value.Number,S v_r.v_next.value.Words,I v_r.v_next.value.Version.1,I v_r.v_next.value.Version.2.1,I v_r.v_next.value.Version.2.2.1,I v_r.v_next.value.Version.2.2.2,I v_r.fault]] E E (Kji E) (Kjn (Kkb hΓ E E E E E E E E E))<|Kjc<|gA 2 E<|jD<|bK h4 fun z5 hz5 h6=>gA 8 E<|gl_o E (Kgs hΓ hz5 E E E E E)<|Kfx hΓ 9 E<|Keg hΓ (gs:=[S [],I (wi (v_r.v_at+y3)),S [],I 0,I 0,S [],I 0,I 0,I 0,I 0]) E E E E E E E<|Kov hΓ E E E Z<|Kpa hΓ E E E E E E E E Z<|Khk [.box 125 [S v_r.s,I (wi (v_r.v_at+y3)),S v_r.v_next.kind,I v_r.v_next.v_at,S v_r.v_next.name,I v_r.v_next.value.Kind,I v_r.v_next.value.Number,S v_r.v_next.value.Words,I v_r.v_next.value.Version.1,I v_r.v_next.value.Version.2.1,I v_r.v_next.value.Version.2.2.1,I v_r.v_next.value.Version.2.2.2,I v_r.fault],.box 123 [S [],I (wi (v_r.v_at+y3)),S [],I 0,I 0,S [],I 0,I 0,I 0,I 0]] E<|gO 10 E<|Kgx hΓ (enc:=eS) [[61,61],[33,61],[60,61],[62,61],[38,38],[124,124],[60],[62],[33],[40],[41]] E E E E E E E E E E E E Z<|gO 4 E<|bK h6 fun q10 hq10 h11=>Kgp 41 E fun hb13=>bK h11 fun q14 hq14 h15=>Kjy [(0,.ptr 0 0),(2,S z5),(3,.ptr 1 0),(4,I q14.2)] [.box 125 [S v_r.s,I (wi (v_r.v_at+y3)),S v_r.v_next.kind,I v_r.v_next.v_at,S v_r.v_next.name,I v_r.v_next.value.Kind,I v_r.v_next.value.Number,S v_r.v_next.value.Words,I v_r.v_next.value.Version.1,I v_r.v_next.value.Version.2.1,I v_r.v_next.value.Version.2.2.1,I v_r.v_next.value.Version.2.2.2,I v_r.fault],.box 123 [S q14.1,I (wi (v_r.v_at+y3)),S [],I 0,I 0,S [],I 0,I 0,I 0,I 0]] ?_ ?_
 ·refine gA 1 E<|Kgo [[61,61],[33,61],[60,61],[62,61],[38,38],[124,124],[60],[62],[33],[40],[41]] hq10 (fun i7 s8=>[(0,.ptr 0 0),(2,S z5),(3,.ptr 1 0),(4,I 0),(41,.d (Sl eS [[61,61],[33,61],[60,61],[62,61],[38,38],[124,124],[60],[62],[33],[40],[41]])),(42,I ([[61,61],[33,61],[60,61],[62,61],[38,38],[124,124],[60],[62],[33],[40],[41]].length:Int)),(43,I (i7:Int))]) (fun s8=>[.box 125 [S v_r.s,I (wi (v_r.v_at+y3)),S v_r.v_next.kind,I v_r.v_next.v_at,S v_r.v_next.name,I v_r.v_next.value.Kind,I v_r.v_next.value.Number,S v_r.v_next.value.Words,I v_r.v_next.value.Version.1,I v_r.v_next.value.Version.2.1,I v_r.v_next.value.Version.2.2.1,I v_r.v_next.value.Version.2.2.2,I v_r.fault],.box 123 [S [],I (wi (v_r.v_at+y3)),S [],I 0,I 0,S [],I 0,I 0,I 0,I 0]]) ⟨⟨E,E,E,E,E,E,E,tV⟩,[],E,.inl E⟩ (fun i7 x9 s8 y19 hx16 hlt hy17 hout18=>?_) (fun s8 hgo=>?_)
  ·refine gA 6 E<|Kga E (dT (Int.ofNat_lt.2 hlt))<|gA 6 E<|eo_o E (Kgq hΓ (enc:=eS) (Kgj hx16) E E E E E (fun _=>E))<|bK hy17 fun y20 hy20 h21=>gO 8 E<|Khd C (Kry hy20) E Z E E E E E<|gO 2 E<|jC E h21 (fun h22=>?_) fun h23=>gA 7 E ?_
   ·refine gA 6 E<|Kpa hΓ E E E E E E E E Z<|Khk [.box 125 [S v_r.s,I (wi (v_r.v_at+y3)),S v_r.v_next.kind,I v_r.v_next.v_at,S v_r.v_next.name,I v_r.v_next.value.Kind,I v_r.v_next.value.Number,S v_r.v_next.value.Words,I v_r.v_next.value.Version.1,I v_r.v_next.value.Version.2.1,I v_r.v_next.value.Version.2.2.1,I v_r.v_next.value.Version.2.2.2,I v_r.fault],.box 123 [S x9,I (wi (v_r.v_at+y3)),S [],I 0,I 0,S [],I 0,I 0,I 0,I 0]] E<|gO 8 E ?_
    cases h22
    obtain rfl:=hout18 _ rfl
    exact oSi hq14▸⟨⟨E,E,E,E,tV⟩,[],E,.inl E⟩
   cases h23
   exact⟨_,E,⟨⟨E,E,E,E,E,E,Kfh E (Kfg (nLl hlt hb13)),tV⟩,[],E,.inl E⟩⟩
  subst hgo
  exact gA 6 E<|Kgb E (dF (Int.lt_irrefl _))<|gA 4 E<|oSi hq14▸⟨⟨E,E,E,E,tV⟩,[],E,.inl E⟩
 refine bK h15 fun q24 hq24 h25=>gA 2 E<|Kjy [(0,.ptr 0 0),(3,.ptr 1 0),(4,I q24.2)] [.box 125 [S v_r.s,I (wi (v_r.v_at+y3)),S v_r.v_next.kind,I v_r.v_next.v_at,S v_r.v_next.name,I v_r.v_next.value.Kind,I v_r.v_next.value.Number,S v_r.v_next.value.Words,I v_r.v_next.value.Version.1,I v_r.v_next.value.Version.2.1,I v_r.v_next.value.Version.2.2.1,I v_r.v_next.value.Version.2.2.2,I v_r.fault],.box 123 [S q24.1.kind,I q24.1.v_at,S q24.1.name,I q24.1.value.Kind,I q24.1.value.Number,S q24.1.value.Words,I q24.1.value.Version.1,I q24.1.value.Version.2.1,I q24.1.value.Version.2.2.1,I q24.1.value.Version.2.2.2]] ?_ ?_
 ·refine gA 6 E<|Kgf 3 [(0,.ptr 0 0),(2,S z5),(3,.ptr 1 0),(4,I q14.2),(61,B ((decide ((q14.2:Int)>0))||((z5:Str)==[])))] [.box 125 [S v_r.s,I (wi (v_r.v_at+y3)),S v_r.v_next.kind,I v_r.v_next.v_at,S v_r.v_next.name,I v_r.v_next.value.Kind,I v_r.v_next.value.Number,S v_r.v_next.value.Words,I v_r.v_next.value.Version.1,I v_r.v_next.value.Version.2.1,I v_r.v_next.value.Version.2.2.1,I v_r.v_next.value.Version.2.2.2,I v_r.fault],.box 123 [S q14.1,I (wi (v_r.v_at+y3)),S [],I 0,I 0,S [],I 0,I 0,I 0,I 0]] ?_ ?_
  ·refine Kno E E (fun hb=>?_) (fun hb=>?_)
   ·exact gO 4 E<|⟨⟨E,E,E,E,Kfi E (or_t hb),tV⟩,[],E,.inl E⟩
   exact gO 4 E<|⟨⟨E,E,E,E,Kfi E (or_f hb),tV⟩,[],E,.inl E⟩
  refine gO 3 E<|jC E hq24 (fun h26=>?_) fun h27=>bK h27 fun c28 hc28 h29=>gA 3 E<|eo_o E (Kgr hΓ hc28 E E E E)<|gO 4 E<|jC E h29 (fun h30=>?_) fun h35=>?_
  ·exact gA 2 E<|oSi h26▸⟨⟨E,E,E,tV⟩,[],E,.inl E⟩
  ·refine gA 4 E<|Kpa hΓ E E E E E E E E Z<|Khk [.box 125 [S v_r.s,I (wi (v_r.v_at+y3)),S v_r.v_next.kind,I v_r.v_next.v_at,S v_r.v_next.name,I v_r.v_next.value.Kind,I v_r.v_next.value.Number,S v_r.v_next.value.Words,I v_r.v_next.value.Version.1,I v_r.v_next.value.Version.2.1,I v_r.v_next.value.Version.2.2.1,I v_r.v_next.value.Version.2.2.2,I v_r.fault],.box 123 [S q14.1,I (wi (v_r.v_at+y3)),S [],I 2,I 0,S [],I 0,I 0,I 0,I 0]] E<|bK h30 fun y31 hy31 h32=>gO 5 E<|Khd C (Leh hy31) E Z E E E E E<|gO 5 E<|Kpa hΓ E E E E E E E E Z<|Khk [.box 125 [S v_r.s,I (wi (v_r.v_at+y3)),S v_r.v_next.kind,I v_r.v_next.v_at,S v_r.v_next.name,I v_r.v_next.value.Kind,I v_r.v_next.value.Number,S v_r.v_next.value.Words,I v_r.v_next.value.Version.1,I v_r.v_next.value.Version.2.1,I v_r.v_next.value.Version.2.2.1,I v_r.v_next.value.Version.2.2.2,I v_r.fault],.box 123 [S q14.1,I (wi (v_r.v_at+y3)),S [],I 2,I 0,S y31.1,I 0,I 0,I 0,I 0]] E<|gO 9 E<|jC E h32 (fun h33=>?_) fun h34=>gA 2 E<|oSi h34▸⟨⟨E,E,E,tV⟩,[],E,.inl E⟩
   exact gA 2 E<|Kpa hΓ E E E E E E E E Z<|Khk [.box 125 [S v_r.s,I (wi (v_r.v_at+y3)),S v_r.v_next.kind,I v_r.v_next.v_at,S v_r.v_next.name,I v_r.v_next.value.Kind,I v_r.v_next.value.Number,S v_r.v_next.value.Words,I v_r.v_next.value.Version.1,I v_r.v_next.value.Version.2.1,I v_r.v_next.value.Version.2.2.1,I v_r.v_next.value.Version.2.2.2,I v_r.fault],.box 123 [S [118],I (wi (v_r.v_at+y3)),S [],I 2,I 0,S y31.1,I 0,I 0,I 0,I 0]] E<|gO 2 E<|oSi h33▸⟨⟨E,E,E,tV⟩,[],E,.inl E⟩
  refine bK h35 fun y36 hy36 h37=>gA 3 E<|Khd C (Lat hy36) E Z E E E E E<|gO 1 E<|bK h37 fun q38 hq38 h39=>Kgf 8 [(0,.ptr 0 0),(2,S z5),(3,.ptr 1 0),(4,I q14.2),(89,B q38)] [.box 125 [S v_r.s,I (wi (v_r.v_at+y3)),S v_r.v_next.kind,I v_r.v_next.v_at,S v_r.v_next.name,I v_r.v_next.value.Kind,I v_r.v_next.value.Number,S v_r.v_next.value.Words,I v_r.v_next.value.Version.1,I v_r.v_next.value.Version.2.1,I v_r.v_next.value.Version.2.2.1,I v_r.v_next.value.Version.2.2.2,I v_r.fault],.box 123 [S q14.1,I (wi (v_r.v_at+y3)),S [],I 0,I 0,S [],I 0,I 0,I 0,I 0]] ?_ ?_
  ·refine Kno E E (fun hb=>?_) (fun hb=>?_)
   ·have h40:=cT hq38 hb
    exact gO 9 E<|oSi h40▸⟨⟨E,E,E,E,E,tV⟩,[],E,.inl E⟩
   have h41:=cF hq38 hb
   refine bK h41 fun c42 hc42 h43=>gO 1 E<|Knm E<|eo_o E (Kgr hΓ hc42 E E E E)<|gO 2 E<|bK h43 fun q44 hq44 h45=>Kgf 3 [(0,.ptr 0 0),(2,S z5),(3,.ptr 1 0),(4,I q14.2),(81,B false),(88,B q44)] [.box 125 [S v_r.s,I (wi (v_r.v_at+y3)),S v_r.v_next.kind,I v_r.v_next.v_at,S v_r.v_next.name,I v_r.v_next.value.Kind,I v_r.v_next.value.Number,S v_r.v_next.value.Words,I v_r.v_next.value.Version.1,I v_r.v_next.value.Version.2.1,I v_r.v_next.value.Version.2.2.1,I v_r.v_next.value.Version.2.2.2,I v_r.fault],.box 123 [S q14.1,I (wi (v_r.v_at+y3)),S [],I 0,I 0,S [],I 0,I 0,I 0,I 0]] ?_ ?_
   ·refine Kno E E (fun hb=>?_) (fun hb=>?_)
    ·have h46:=cT hq44 hb
     exact bK h46 fun y47 hy47 h48=>gO 1 E<|Knm E<|Khd C (Lat hy47) E Z E E E E E<|gO 2 E<|oSi h48▸⟨⟨E,E,E,E,E,E,tV⟩,[],E,.inl E⟩
    have h49:=cF hq44 hb
    exact gO 4 E<|oSi h49▸⟨⟨E,E,E,E,E,E,tV⟩,[],E,.inl E⟩
   exact gO 2 E<|oSi h45▸⟨⟨E,E,E,E,E,tV⟩,[],E,.inl E⟩
  refine gO 3 E<|jC E h39 (fun h50=>?_) fun h61=>bK h61 fun c62 hc62 h63=>gA 3 E<|eo_o E (Kgr hΓ hc62 E E E E)<|gO 2 E<|bK h63 fun q64 hq64 h65=>Kgf 3 [(0,.ptr 0 0),(2,S z5),(3,.ptr 1 0),(4,I q14.2),(113,B q64)] [.box 125 [S v_r.s,I (wi (v_r.v_at+y3)),S v_r.v_next.kind,I v_r.v_next.v_at,S v_r.v_next.name,I v_r.v_next.value.Kind,I v_r.v_next.value.Number,S v_r.v_next.value.Words,I v_r.v_next.value.Version.1,I v_r.v_next.value.Version.2.1,I v_r.v_next.value.Version.2.2.1,I v_r.v_next.value.Version.2.2.2,I v_r.fault],.box 123 [S q14.1,I (wi (v_r.v_at+y3)),S [],I 0,I 0,S [],I 0,I 0,I 0,I 0]] ?_ ?_
  ·refine bK h50 fun z51 hz51 h52=>gA 3 E<|eo_o E (Kgs hΓ hz51 E E E E E)<|bK h52 fun y53 hy53 h54=>Khd C (Leg hy53) E Z E E E E E<|bK h54 fun z55 hz55 h56=>gO 8 E<|eo_o E (Kgs hΓ hz55 E E E E E)<|bK h56 fun y57 hy57 h58=>Khd C (Lef hy57) E Z E E E E E<|gO 12 E<|jC E h58 (fun h59=>?_) fun h60=>gA 2 E<|oSi h60▸⟨⟨E,E,E,tV⟩,[],E,.inl E⟩
   exact gA 2 E<|Keg hΓ (gs:=[I 1,I y57.1,S [],I 0,I 0,I 0,I 0]) E E E E E E E<|gO 1 E<|Kpa hΓ E E E E E E E E Z<|Khk [.box 125 [S v_r.s,I (wi (v_r.v_at+y3)),S v_r.v_next.kind,I v_r.v_next.v_at,S v_r.v_next.name,I v_r.v_next.value.Kind,I v_r.v_next.value.Number,S v_r.v_next.value.Words,I v_r.v_next.value.Version.1,I v_r.v_next.value.Version.2.1,I v_r.v_next.value.Version.2.2.1,I v_r.v_next.value.Version.2.2.2,I v_r.fault],.box 123 [S [118],I (wi (v_r.v_at+y3)),S [],I 0,I 0,S [],I 0,I 0,I 0,I 0]] E<|gO 1 E<|Kpa hΓ E E E E E E E E Z<|Khk [.box 125 [S v_r.s,I (wi (v_r.v_at+y3)),S v_r.v_next.kind,I v_r.v_next.v_at,S v_r.v_next.name,I v_r.v_next.value.Kind,I v_r.v_next.value.Number,S v_r.v_next.value.Words,I v_r.v_next.value.Version.1,I v_r.v_next.value.Version.2.1,I v_r.v_next.value.Version.2.2.1,I v_r.v_next.value.Version.2.2.2,I v_r.fault],.box 123 [S [118],I (wi (v_r.v_at+y3)),S [],I 1,I y57.1,S [],I 0,I 0,I 0,I 0]] E<|gO 2 E<|oSi h59▸⟨⟨E,E,E,tV⟩,[],E,.inl E⟩
  ·refine Kno E E (fun hb=>?_) (fun hb=>?_)
   ·have h66:=cT hq64 hb
    exact bK h66 fun y67 hy67 h68=>gO 1 E<|Knm E<|Khd C (Lat hy67) E Z E E E E E<|gO 2 E<|oSi h68▸⟨⟨E,E,E,E,E,tV⟩,[],E,.inl E⟩
   have h69:=cF hq64 hb
   exact gO 4 E<|oSi h69▸⟨⟨E,E,E,E,E,tV⟩,[],E,.inl E⟩
  refine gO 3 E<|jC E h65 (fun h70=>?_) fun h75=>bK h75 fun c76 hc76 h77=>gA 3 E<|eo_o E (Kgr hΓ hc76 E E E E)<|gO 2 E<|bK h77 fun q78 hq78 h79=>Kgf 4 [(0,.ptr 0 0),(2,S z5),(3,.ptr 1 0),(4,I q14.2),(131,B q78)] [.box 125 [S v_r.s,I (wi (v_r.v_at+y3)),S v_r.v_next.kind,I v_r.v_next.v_at,S v_r.v_next.name,I v_r.v_next.value.Kind,I v_r.v_next.value.Number,S v_r.v_next.value.Words,I v_r.v_next.value.Version.1,I v_r.v_next.value.Version.2.1,I v_r.v_next.value.Version.2.2.1,I v_r.v_next.value.Version.2.2.2,I v_r.fault],.box 123 [S q14.1,I (wi (v_r.v_at+y3)),S [],I 0,I 0,S [],I 0,I 0,I 0,I 0]] ?_ ?_
  ·refine bK h70 fun y71 hy71 h72=>gA 3 E<|Khd C (Lau hy71) E Z E E E E E<|gO 4 E<|Kpa hΓ E E E E E E E E Z<|Khk [.box 125 [S v_r.s,I (wi (v_r.v_at+y3)),S v_r.v_next.kind,I v_r.v_next.v_at,S v_r.v_next.name,I v_r.v_next.value.Kind,I v_r.v_next.value.Number,S v_r.v_next.value.Words,I v_r.v_next.value.Version.1,I v_r.v_next.value.Version.2.1,I v_r.v_next.value.Version.2.2.1,I v_r.v_next.value.Version.2.2.2,I v_r.fault],.box 123 [S q14.1,I (wi (v_r.v_at+y3)),S [],I y71.1.Kind,I y71.1.Number,S y71.1.Words,I y71.1.Version.1,I y71.1.Version.2.1,I y71.1.Version.2.2.1,I y71.1.Version.2.2.2]] E<|gO 9 E<|jC E h72 (fun h73=>?_) fun h74=>gA 2 E<|oSi h74▸⟨⟨E,E,E,tV⟩,[],E,.inl E⟩
   exact gA 2 E<|Kpa hΓ E E E E E E E E Z<|Khk [.box 125 [S v_r.s,I (wi (v_r.v_at+y3)),S v_r.v_next.kind,I v_r.v_next.v_at,S v_r.v_next.name,I v_r.v_next.value.Kind,I v_r.v_next.value.Number,S v_r.v_next.value.Words,I v_r.v_next.value.Version.1,I v_r.v_next.value.Version.2.1,I v_r.v_next.value.Version.2.2.1,I v_r.v_next.value.Version.2.2.2,I v_r.fault],.box 123 [S [118],I (wi (v_r.v_at+y3)),S [],I y71.1.Kind,I y71.1.Number,S y71.1.Words,I y71.1.Version.1,I y71.1.Version.2.1,I y71.1.Version.2.2.1,I y71.1.Version.2.2.2]] E<|gO 2 E<|oSi h73▸⟨⟨E,E,E,tV⟩,[],E,.inl E⟩
  ·refine Kno E E (fun hb=>?_) (fun hb=>?_)
   ·have h80:=cT hq78 hb
    exact bK h80 fun c81 hc81 h82=>gO 1 E<|Knm E<|eo_o E (Kgr hΓ hc81 E E E E)<|gO 3 E<|oSi h82▸⟨⟨E,E,E,E,E,tV⟩,[],E,.inl E⟩
   have h83:=cF hq78 hb
   exact gO 5 E<|oSi h83▸⟨⟨E,E,E,E,E,tV⟩,[],E,.inl E⟩
  refine gO 3 E<|jC E h79 (fun h84=>?_) fun h93=>gA 2 E<|oSi h93▸⟨⟨E,E,E,tV⟩,[],E,.inl E⟩
  refine bK h84 fun y85 hy85 h86=>gA 3 E<|Khd C (Leg hy85) E Z E E E E E<|gO 4 E<|Kjb [] [] [4,6] [] hmix (by kernel_rfl) (by kernel_rfl) trivial Z<|bK h86 fun z87 hz87 h88=>go_E hΓ 2 E<|ge_q E (.inl E) (fun _ _=>Kjd (qt_p (Kgs hΓ hz87 E E E E E)))<|go_E hΓ 1 E<|Kjh [.box 125 [S v_r.s,I (wi (v_r.v_at+y3)),S v_r.v_next.kind,I v_r.v_next.v_at,S v_r.v_next.name,I v_r.v_next.value.Kind,I v_r.v_next.value.Number,S v_r.v_next.value.Words,I v_r.v_next.value.Version.1,I v_r.v_next.value.Version.2.1,I v_r.v_next.value.Version.2.2.1,I v_r.v_next.value.Version.2.2.2,I v_r.fault],.box 123 [S [110],I (wi (v_r.v_at+y3)),S [],I 0,I 0,S [],I 0,I 0,I 0,I 0]] E E (Kjj tV) (Kjn (Kkb hΓ E E E E E E E E E))<|go_E hΓ 1 E<|Kjh [.box 125 [S v_r.s,I (wi (v_r.v_at+y3)),S v_r.v_next.kind,I v_r.v_next.v_at,S v_r.v_next.name,I v_r.v_next.value.Kind,I v_r.v_next.value.Number,S v_r.v_next.value.Words,I v_r.v_next.value.Version.1,I v_r.v_next.value.Version.2.1,I v_r.v_next.value.Version.2.2.1,I v_r.v_next.value.Version.2.2.2,I v_r.fault],.box 123 [S [110],I (wi (v_r.v_at+y3)),S z87,I 0,I 0,S [],I 0,I 0,I 0,I 0]] E E (Kjj tV) (Kjn (Kkb hΓ E E E E E E E E E))<|Kjc<|gA 3 E<|Kgx hΓ (enc:=eS) [[102,97,108,115,101],[116,114,117,101]] E E E E E E E E E E E E Z<|bK h88 fun y89 hy89 h90=>gO 2 E<|Khd C (Ldo hy89) E Z E E E E E<|gO 9 E<|jC E h90 (fun h91=>?_) fun h92=>gA 2 E<|oSi h92▸⟨⟨E,E,E,tV⟩,[],E,.inl E⟩
  exact gA 2 E<|Keg hΓ (gs:=[I 3,I y89,S [],I 0,I 0,I 0,I 0]) E E E E E E E<|gO 1 E<|Kpa hΓ E E E E E E E E Z<|Khk [.box 125 [S v_r.s,I (wi (v_r.v_at+y3)),S v_r.v_next.kind,I v_r.v_next.v_at,S v_r.v_next.name,I v_r.v_next.value.Kind,I v_r.v_next.value.Number,S v_r.v_next.value.Words,I v_r.v_next.value.Version.1,I v_r.v_next.value.Version.2.1,I v_r.v_next.value.Version.2.2.1,I v_r.v_next.value.Version.2.2.2,I v_r.fault],.box 123 [S [102],I (wi (v_r.v_at+y3)),S z87,I 0,I 0,S [],I 0,I 0,I 0,I 0]] E<|gO 1 E<|Kpa hΓ E E E E E E E E Z<|Khk [.box 125 [S v_r.s,I (wi (v_r.v_at+y3)),S v_r.v_next.kind,I v_r.v_next.v_at,S v_r.v_next.name,I v_r.v_next.value.Kind,I v_r.v_next.value.Number,S v_r.v_next.value.Words,I v_r.v_next.value.Version.1,I v_r.v_next.value.Version.2.1,I v_r.v_next.value.Version.2.2.1,I v_r.v_next.value.Version.2.2.2,I v_r.fault],.box 123 [S [102],I (wi (v_r.v_at+y3)),S z87,I 3,I y89,S [],I 0,I 0,I 0,I 0]] E<|gO 2 E<|oSi h91▸⟨⟨E,E,E,tV⟩,[],E,.inl E⟩
 exact gA 7 E<|Kpa hΓ E E E E E E E E Z<|Khk [.box 125 [S v_r.s,I (wi (v_r.v_at+y3)),S q24.1.kind,I q24.1.v_at,S q24.1.name,I q24.1.value.Kind,I q24.1.value.Number,S q24.1.value.Words,I q24.1.value.Version.1,I q24.1.value.Version.2.1,I q24.1.value.Version.2.2.1,I q24.1.value.Version.2.2.2,I v_r.fault],.box 123 [S q24.1.kind,I q24.1.v_at,S q24.1.name,I q24.1.value.Kind,I q24.1.value.Number,S q24.1.value.Words,I q24.1.value.Version.1,I q24.1.value.Version.2.1,I q24.1.value.Version.2.2.1,I q24.1.value.Version.2.2.2]] E<|gO 11 E<|Kpa hΓ E E E E E E E E Z<|Khk [.box 125 [S v_r.s,I (wi ((wi (v_r.v_at+y3))+q24.2)),S q24.1.kind,I q24.1.v_at,S q24.1.name,I q24.1.value.Kind,I q24.1.value.Number,S q24.1.value.Words,I q24.1.value.Version.1,I q24.1.value.Version.2.1,I q24.1.value.Version.2.2.1,I q24.1.value.Version.2.2.2,I v_r.fault],.box 123 [S q24.1.kind,I q24.1.v_at,S q24.1.name,I q24.1.value.Kind,I q24.1.value.Number,S q24.1.value.Words,I q24.1.value.Version.1,I q24.1.value.Version.2.1,I q24.1.value.Version.2.2.1,I q24.1.value.Version.2.2.2]] E<|gO 1 E<|oSi h25▸Khr hΓ [_] (.inl E) E E E E (.inr ⟨HB.mk E,E⟩)
theorem Law{k:Nat}{s:Str}{r:Kxc×Bool}(h:Kzu k s=some r):Pure Tryz.prog 48 [S s] (.tup [.agg [I r.1.Kind,I r.1.Number,S r.1.Words,I r.1.Version.1,I r.1.Version.2.1,I r.1.Version.2.2.1,I r.1.Version.2.2.2],B r.2]):=by
 unfold Kzu at h
 refine QP Tryz.func48 E E E<|gA 2 E<|Kov hΓ E E E Z<|gO 6 E<|Keg hΓ (gs:=[S s,I 0,S [],I 0,S [],I 0,I 0,S [],I 0,I 0,I 0,I 0,I (-1)]) E E E E E E E<|Kow E E E E Z<|bK h fun y1 hy1 h2=>gO 6 E<|Khc [1] (.tup []) [.box 40 [I 0,I 0,S [],I 0,I 0,I 0,I 0],.box 125 [S y1.s,I y1.v_at,S y1.v_next.kind,I y1.v_next.v_at,S y1.v_next.name,I y1.v_next.value.Kind,I y1.v_next.value.Number,S y1.v_next.value.Words,I y1.v_next.value.Version.1,I y1.v_next.value.Version.2.1,I y1.v_next.value.Version.2.2.1,I y1.v_next.value.Version.2.2.2,I y1.fault]] C (Lav hy1) E Z E E E E E E E E E E<|gO 9 E<|Kov hΓ E E E Z<|Kpa hΓ E E E E E E E E Z<|Khk [.box 40 [I 0,I 0,S [],I 0,I 0,I 0,I 0],.box 125 [S y1.s,I y1.v_at,S y1.v_next.kind,I y1.v_next.v_at,S y1.v_next.name,I y1.v_next.value.Kind,I y1.v_next.value.Number,S y1.v_next.value.Words,I y1.v_next.value.Version.1,I y1.v_next.value.Version.2.1,I y1.v_next.value.Version.2.2.1,I y1.v_next.value.Version.2.2.2,I y1.fault],.box 40 [I y1.v_next.value.Kind,I y1.v_next.value.Number,S y1.v_next.value.Words,I y1.v_next.value.Version.1,I y1.v_next.value.Version.2.1,I y1.v_next.value.Version.2.2.1,I y1.v_next.value.Version.2.2.2]] E<|bK h2 fun q3 hq3 h4=>gO 3 E<|Kjy [(2,.ptr 0 0),(3,B q3)] [.box 40 [I y1.v_next.value.Kind,I y1.v_next.value.Number,S y1.v_next.value.Words,I y1.v_next.value.Version.1,I y1.v_next.value.Version.2.1,I y1.v_next.value.Version.2.2.1,I y1.v_next.value.Version.2.2.2],.box 125 [S y1.s,I y1.v_at,S y1.v_next.kind,I y1.v_next.v_at,S y1.v_next.name,I y1.v_next.value.Kind,I y1.v_next.value.Number,S y1.v_next.value.Words,I y1.v_next.value.Version.1,I y1.v_next.value.Version.2.1,I y1.v_next.value.Version.2.2.1,I y1.v_next.value.Version.2.2.2,I y1.fault],.box 40 [I y1.v_next.value.Kind,I y1.v_next.value.Number,S y1.v_next.value.Words,I y1.v_next.value.Version.1,I y1.v_next.value.Version.2.1,I y1.v_next.value.Version.2.2.1,I y1.v_next.value.Version.2.2.2]] ?_ ?_
 ·refine Kjb [.dead,.box 125 [S y1.s,I y1.v_at,S y1.v_next.kind,I y1.v_next.v_at,S y1.v_next.name,I y1.v_next.value.Kind,I y1.v_next.value.Number,S y1.v_next.value.Words,I y1.v_next.value.Version.1,I y1.v_next.value.Version.2.1,I y1.v_next.value.Version.2.2.1,I y1.v_next.value.Version.2.2.2,I y1.fault],.box 40 [I y1.v_next.value.Kind,I y1.v_next.value.Number,S y1.v_next.value.Words,I y1.v_next.value.Version.1,I y1.v_next.value.Version.2.1,I y1.v_next.value.Version.2.2.1,I y1.v_next.value.Version.2.2.2]] [0,5,12,16] [21] [] hmix (by kernel_rfl) (by kernel_rfl) ⟨E,E,tV⟩ Z<|go_E hΓ 8 E<|Kjg E E (fun hb=>?_) (fun hb=>?_)
  ·have h5:=cT hq3 hb
   exact bK h5 fun y6 hy6 h7=>go_E hΓ 9 E<|Kka E C (Ldj hy6) E E E E E E<|go_E hΓ 3 E<|Kjh [.box 40 [I y1.v_next.value.Kind,I y1.v_next.value.Number,S y1.v_next.value.Words,I y1.v_next.value.Version.1,I y1.v_next.value.Version.2.1,I y1.v_next.value.Version.2.2.1,I y1.v_next.value.Version.2.2.2],.box 125 [S y1.s,I y1.v_at,S y1.v_next.kind,I y1.v_next.v_at,S y1.v_next.name,I y1.v_next.value.Kind,I y1.v_next.value.Number,S y1.v_next.value.Words,I y1.v_next.value.Version.1,I y1.v_next.value.Version.2.1,I y1.v_next.value.Version.2.2.1,I y1.v_next.value.Version.2.2.2,I y1.fault],.box 40 [I y1.v_next.value.Kind,I y1.v_next.value.Number,S y1.v_next.value.Words,I y1.v_next.value.Version.1,I y1.v_next.value.Version.2.1,I y1.v_next.value.Version.2.2.1,I y1.v_next.value.Version.2.2.2]] E E (Kjj ⟨E,E,tV⟩) (Kjn (Kkb hΓ E E E E E E E E E))<|go_E hΓ 1 E<|Kjc<|oSi h7▸⟨⟨E,E,tV⟩,[],E,.inl E⟩
  have h8:=cF hq3 hb
  refine go_E hΓ 8 E<|Kjg E E (fun hb=>?_) (fun hb=>?_)
  ·have h9:=cT h8 hb
   exact bK h9 fun y10 hy10 h11=>go_E hΓ 1 E<|Kka E C (Ldj hy10) E E E E E E<|go_E hΓ 3 E<|Kjh [.box 40 [I y1.v_next.value.Kind,I y1.v_next.value.Number,S y1.v_next.value.Words,I y1.v_next.value.Version.1,I y1.v_next.value.Version.2.1,I y1.v_next.value.Version.2.2.1,I y1.v_next.value.Version.2.2.2],.box 125 [S y1.s,I y1.v_at,S y1.v_next.kind,I y1.v_next.v_at,S y1.v_next.name,I y1.v_next.value.Kind,I y1.v_next.value.Number,S y1.v_next.value.Words,I y1.v_next.value.Version.1,I y1.v_next.value.Version.2.1,I y1.v_next.value.Version.2.2.1,I y1.v_next.value.Version.2.2.2,I y1.fault],.box 40 [I y1.v_next.value.Kind,I y1.v_next.value.Number,S y1.v_next.value.Words,I y1.v_next.value.Version.1,I y1.v_next.value.Version.2.1,I y1.v_next.value.Version.2.2.1,I y1.v_next.value.Version.2.2.2]] E E (Kjj ⟨E,E,tV⟩) (Kjn (Kkb hΓ E E E E E E E E E))<|go_E hΓ 1 E<|Kjc<|oSi h11▸⟨⟨E,E,tV⟩,[],E,.inl E⟩
  have h12:=cF h8 hb
  exact go_E hΓ 5 E<|Kjh [.box 40 [I y1.v_next.value.Kind,I y1.v_next.value.Number,S y1.v_next.value.Words,I y1.v_next.value.Version.1,I y1.v_next.value.Version.2.1,I y1.v_next.value.Version.2.2.1,I y1.v_next.value.Version.2.2.2],.box 125 [S y1.s,I y1.v_at,S y1.v_next.kind,I y1.v_next.v_at,S y1.v_next.name,I y1.v_next.value.Kind,I y1.v_next.value.Number,S y1.v_next.value.Words,I y1.v_next.value.Version.1,I y1.v_next.value.Version.2.1,I y1.v_next.value.Version.2.2.1,I y1.v_next.value.Version.2.2.2,I y1.fault],.box 40 [I y1.v_next.value.Kind,I y1.v_next.value.Number,S y1.v_next.value.Words,I y1.v_next.value.Version.1,I y1.v_next.value.Version.2.1,I y1.v_next.value.Version.2.2.1,I y1.v_next.value.Version.2.2.2]] E E (Kjj ⟨E,E,tV⟩) (Kjn (Kkb hΓ E E E E E E E E E))<|go_E hΓ 1 E<|Kjc<|oSi h12▸⟨⟨E,E,tV⟩,[],E,.inl E⟩
 exact gA 2 E<|oSi h4▸gP E E
theorem Lax{k:Nat}{line:Str}{x:List Kxd}{r:Bool×(List Kxd)}(h:Kzv k line x=some r):EC Tryz.prog 44 [S line,.ptr 1 0] [rO 42 10 Lbw x,.box 26 [.sl 0 x.length]] fun g hp'=>g=B r.1∧hp'=[.dead,.box 26 [.sl 2 r.2.length],rO 42 10 Lbw r.2]:=by
 unfold Kzv at h
 refine QM Tryz.func44 E Z<|Kix Z<|Kiv 0 2 [.dead,.box 26 [.sl 2 x.length],rO 42 10 Lbw x] E E E E E E<|bK h fun y1 hy1 h2=>gA 8 E<|Khd C (Pure.rows (Ksq hy1) E E) E Z E E E E E<|gO 10 E<|bK h2 fun q3 hq3 h4=>Kgf 4 [(1,.ptr 1 0),(4,.d (Sl eS y1)),(18,B q3)] [.dead,.box 26 [.sl 2 x.length],rO 42 10 Lbw x] ?_ ?_
 ·refine Kno E E (fun hb=>?_) (fun hb=>?_)
  ·have h5:=cT hq3 hb
   exact gO 5 E<|oSi h5▸⟨⟨E,E,E,tV⟩,[],E,.inl E⟩
  have h6:=cF hq3 hb
  exact bK h6 fun z7 hz7 h8=>gO 1 E<|Knm E<|eo_o E (Kgw hΓ (enc:=eS) hz7 E E E E E E (fun _=>E))<|bK h8 fun y9 hy9 h10=>Knm E<|Khd C (Ldp hy9) E Z E E E E E<|gO 2 E<|oSi h10▸⟨⟨E,E,E,tV⟩,[],E,.inl E⟩
 refine gO 2 E<|Kfz E (fun hb=>?_) (fun hb=>?_)
 ·have h11:=cT h4 hb
  exact gA 7 E<|Kjw<|oSi h11▸Khr hΓ [] (.inr E) E E E E (.inl E)
 have h12:=cF h4 hb
 refine bK h12 fun x13 hx13 h14=>gA 5 E<|eo_o E (Kgq hΓ (enc:=eS) hx13 E E E E E (fun _=>E))<|bK h14 fun y15 hy15 h16=>gO 1 E<|Khd C (Lef hy15) E Z E E E E E<|bK h16 fun x17 hx17 h18=>gO 10 E<|eo_o E (Kgq hΓ (enc:=eS) hx17 E E E E E (fun _=>E))<|bK h18 fun y19 hy19 h20=>gO 1 E<|Khd C (Law hy19) E Z E E E E E<|gO 3 E<|Kov hΓ E E E Z<|Kpa hΓ E E E E E E E E Z<|Khk [.dead,.box 26 [.sl 2 x.length],rO 42 10 Lbw x,.box 40 [I y19.1.Kind,I y19.1.Number,S y19.1.Words,I y19.1.Version.1,I y19.1.Version.2.1,I y19.1.Version.2.2.1,I y19.1.Version.2.2.2]] E<|gO 4 E<|Kjb [.dead,.box 26 [.sl 2 x.length],.dead,.box 40 [I y19.1.Kind,I y19.1.Number,S y19.1.Words,I y19.1.Version.1,I y19.1.Version.2.1,I y19.1.Version.2.2.1,I y19.1.Version.2.2.2]] [0,8] [11,12] [11,12] hmix (by kernel_rfl) (by kernel_rfl) ⟨E,E,tV⟩ Z<|bK h20 fun x21 hx21 h22=>go_E hΓ 3 E<|ge_q E (.inl E) (fun _ _=>Kjd (qt_p (Kgq hΓ (enc:=eS) hx21 E E E E E (fun _=>E))))<|bK h22 fun x23 hx23 h24=>go_E hΓ 2 E<|ge_q E (.inl E) (fun _ _=>Kjd (qt_p (Kgq hΓ (enc:=eS) hx23 E E E E E (fun _=>E))))<|go_E hΓ 2 E<|ge_q E (.inl E) (fun _ _=>Kjd (qt_p (Kjr hΓ (gs:=[I y15.1,S x21,S x23,I y19.1.Kind,I y19.1.Number,S y19.1.Words,I y19.1.Version.1,I y19.1.Version.2.1,I y19.1.Version.2.2.1,I y19.1.Version.2.2.2]) E E E E E E)))<|Kjq hΓ (enc:=Lbw) [(⟨y15.1,x21,x23,y19.1⟩:Kxd)] E E E E E E E E E E E E<|bK h24 fun y25 hy25 h26=>ge_h [.dead,.box 26 [.junk],.dead,.box 40 [I y19.1.Kind,I y19.1.Number,S y19.1.Words,I y19.1.Version.1,I y19.1.Version.2.1,I y19.1.Version.2.2.1,I y19.1.Version.2.2.2],rO 42 10 Lbw y25] E E E (Kji E) (Kjm (Kkj 2 (Kir hΓ (enc:=Lbw) (id:=2) (h2:=show Γ 42=some ⟨_,10,_,_⟩ from E) hy25 E E E E E E E E (fun _=>E) E)))<|Kjh [.dead,.box 26 [.sl 4 y25.length],.dead,.box 40 [I y19.1.Kind,I y19.1.Number,S y19.1.Words,I y19.1.Version.1,I y19.1.Version.2.1,I y19.1.Version.2.2.1,I y19.1.Version.2.2.2],rO 42 10 Lbw y25] E E (Kji E) (Kjn (Kkb hΓ E E E E E E E E E))<|Kjc<|gA 1 E<|Kiv 4 2 [.dead,.box 26 [.sl 2 y25.length],rO 42 10 Lbw y25,.box 40 [I y19.1.Kind,I y19.1.Number,S y19.1.Words,I y19.1.Version.1,I y19.1.Version.2.1,I y19.1.Version.2.2.1,I y19.1.Version.2.2.2],.dead] E E E E E E<|gA 4 E<|Kgf 2 [(48,B (y15.2&&y19.2))] [.dead,.box 26 [.sl 2 y25.length],rO 42 10 Lbw y25,.box 40 [I y19.1.Kind,I y19.1.Number,S y19.1.Words,I y19.1.Version.1,I y19.1.Version.2.1,I y19.1.Version.2.2.1,I y19.1.Version.2.2.2],.dead] ?_ ?_
 ·refine Kno E E (fun hb=>?_) (fun hb=>?_)
  ·exact gO 3 E<|⟨⟨Kfi E (Khw hb),tV⟩,[],E,.inl E⟩
  exact gO 3 E<|⟨⟨Kfi E (Khx hb),tV⟩,[],E,.inl E⟩
 exact gO 4 E<|Kjw<|oSi h26▸Khr hΓ [_,_] (.inr E) E E E E (.inr ⟨HB.mk E,E⟩)
theorem Laz{k:Nat}{text:Str}{f:List Kxd}{r:Int×Bool×(List Kxd)}(h:Kzw k text f=some r):EC Tryz.prog 43 [S text,.fn (.func 44) [] [.ptr 1 0]] [rO 42 10 Lbw f,.box 26 [.sl 0 f.length]] fun g hp'=>g=.tup [I r.1,B r.2.1]∧hp'=[.dead,.box 26 [.sl 2 r.2.2.length],rO 42 10 Lbw r.2.2]:=by
 unfold Kzw at h
 refine QM Tryz.func43 E Z<|Kix Z<|Kiv 0 2 [.dead,.box 26 [.sl 2 f.length],rO 42 10 Lbw f] E E E E E E<|gA 12 E<|bK h fun q4 hq4 h5=>Kjx (R:=fun a6=>q4=.inl a6) (fun a6=>[]) (fun a6=>[.dead,.box 26 [.sl 2 a6.length],rO 42 10 Lbw a6]) ?_ ?_
 ·refine gA 1 E<|Kgm hq4 (fun s2=>[(0,S s2.2.1),(1,.fn (.func 44) [] [.ptr 1 0]),(6,I s2.2.2)]) (fun s2=>[.dead,.box 26 [.sl 2 s2.1.length],rO 42 10 Lbw s2.1]) ⟨⟨E,E,E,tV⟩,[],E,.inl E⟩ (fun s2 y10 hy8 hout9=>?_)
  refine gA 7 E<|jC E hy8 (fun h11=>?_) fun h24=>gA 4 E ?_
  ·refine bK h11 fun y12 hy12 h13=>gA 7 E<|Khd C (Ksr hy12) E Z E E E E E<|gO 15 E<|bK h13 fun q14 hq14 h15=>Kgf 5 [(1,.fn (.func 44) [] [.ptr 1 0]),(6,I s2.2.2),(8,S y12.2.1),(27,B q14.2)] [.dead,.box 26 [.sl 2 q14.1.length],rO 42 10 Lbw q14.1] ?_ ?_
   ·refine Kno E E (fun hb=>?_) (fun hb=>?_)
    ·have h16:=cT hq14 hb
     exact gO 6 E<|oSi h16▸⟨⟨E,E,E,E,tV⟩,[],E,.inl E⟩
    have h17:=cF hq14 hb
    exact bK h17 fun y18 hy18 h19=>gO 2 E<|Knm E<|Khc [2,1] (B y18.1) [.dead,.box 26 [.sl 3 y18.2.length],.dead,rO 42 10 Lbw y18.2] C (Lax hy18) E Z E E E E E E E E E E<|gO 2 E<|Kit 3 2 [.dead,.box 26 [.sl 2 y18.2.length],rO 42 10 Lbw y18.2,.dead] E E E E E E<|gO 1 E<|oSi h19▸⟨⟨E,E,E,E,tV⟩,[_],E,.inr ⟨HB.mk E,FB.mk E,Z⟩⟩
   refine gO 2 E<|jC E h15 (fun h20=>?_) fun h23=>gA 13 E<|oSi h23▸⟨_,E,⟨⟨E,E,E,tV⟩,[],E,.inl E⟩⟩
   refine gA 11 E<|bK h20 fun v21 hv21 h22=>?_
   cases h22
   obtain rfl:=hout9 _ rfl
   cases h5
   exact gA 4 E<|Kjw<|oSi hv21▸Khr hΓ [] (.inr E) E E E E (.inl E)
  cases h24
  obtain rfl:=hout9 _ rfl
  exact⟨_,E,⟨tV,[],E,.inl E⟩⟩
 intro a6 ha
 subst ha
 replace h5:=Kjt h5
 exact gA 8 E<|Kjw<|oSi h5▸Khr hΓ [] (.inr E) E E E E (.inl E)
theorem Lba{k:Nat}{text:Str}{r:(List Kxd)×Int×Int}(h:Kzx k text=some r):Pure Tryz.prog 12 [S text] (.tup [.d (Sl Lbw r.1),I r.2.1,I r.2.2]):=by
 unfold Kzx at h
 refine QP Tryz.func12 E E E<|gA 15 E<|jC E h (fun h1=>?_) fun h2=>gA 4 E<|eo_s Z (nblt.1 E) (Kkw hΓ [0] [.d (.v (.slice none 0 0))] (hi:=show Γ 26=some ⟨_,_,_,_⟩ from E) E ⟨.refl _,tV⟩)<|Khk [.box 26 [.d (.v (.slice none 0 0))]] E<|gO 2 E<|Kle 0 0 42 10 [.box 26 [.sl 1 ([]:List Kxd).length],rO 42 10 Lbw ([]:List Kxd)] E E E Z<|bK h2 fun y3 hy3 h4=>gA 4 E<|Khc [1,0] (.tup [I y3.1,B y3.2.1]) [.box 26 [.sl 2 y3.2.2.length],.dead,rO 42 10 Lbw y3.2.2] C (Laz hy3) E Z E E E E E E E E E E<|gO 5 E<|Kit 2 1 [.box 26 [.sl 1 y3.2.2.length],rO 42 10 Lbw y3.2.2,.dead] E E E E E E<|gO 9 E<|jC E h4 (fun h5=>?_) fun h6=>?_
 ·exact gA 9 E<|oSi h1▸gP E E
 ·exact gA 10 E<|oSi h5▸gP E E
 refine bK h6 fun y7 hy7 h8=>gA 6 E<|Khg C (Ldi hy7) E Z E E E E E<|gO 9 E<|jC E h8 (fun h9=>?_) fun h10=>gA 6 E<|Khj 1 [2,21,26] _ [.box 26 [.d (Sl Lbw y3.2.2)],.dead,.dead] E E E Z<|gO 5 E<|oSi h10▸gP E E
 exact gA 10 E<|oSi h9▸gP E E
theorem Lbb{s1:List Kxd}{s2:List Kxd}{r:Bool}(h:Kzy s1 s2=some r):Pure Tryz.prog 13 [.d (Sl Lbw s1),.d (Sl Lbw s2)] (B r):=by
 unfold Kzy at h
 refine QP Tryz.func13 E E E<|gA 15 E<|jC E h (fun h1=>?_) fun h2=>gA 10 E<|bK h2 fun q6 hq6 h7=>Kgp 0 E fun hb9=>Kjx (R:=fun a8=>q6=.go a8) (fun a8=>[]) (fun a8=>[]) ?_ ?_
 ·exact gA 7 E<|oSi h1▸gP E E
 ·refine gA 1 E<|Kgo s1 hq6 (fun i3 s4=>[(0,.d (Sl Lbw s1)),(1,.d (Sl Lbw s2)),(12,I (s1.length:Int)),(13,I (i3:Int))]) (fun s4=>[]) ⟨⟨E,E,E,E,tV⟩,[],E,.inl E⟩ (fun i3 x5 s4 y13 hx10 hlt hy11 hout12=>?_) (fun s4 hgo=>?_)
  ·refine gA 6 E<|Kga E (dT (Int.ofNat_lt.2 hlt))<|gA 11 E<|jD<|gA 2 E<|gl_o E (Kgq hΓ (enc:=Lbw) (Kgj hx10) E E E E E (fun _=>E))<|bK hy11 fun x14 hx14 h15=>Kfx hΓ 3 E<|gl_o E (Kgq hΓ (enc:=Lbw) hx14 E E E E E (fun _=>E))<|Kfx hΓ 1 E<|gl_o E (Kmd hΓ [42,40] (b:=(((x5.At:Int)==x14.At)&&(((x5.Node:Str)==x14.Node)&&(((x5.Name:Str)==x14.Name)&&((((x5.Value.Kind:Int)==x14.Value.Kind)&&(((x5.Value.Number:Int)==x14.Value.Number)&&(((x5.Value.Words:Str)==x14.Value.Words)&&(decide (([x5.Value.Version.1,x5.Value.Version.2.1,x5.Value.Version.2.2.1,x5.Value.Version.2.2.2]:List Int)=[x14.Value.Version.1,x14.Value.Version.2.1,x14.Value.Version.2.2.1,x14.Value.Version.2.2.2])&&true))))&&true))))) (by kernel_rfl) (by kernel_rfl) E E E)<|Kfx hΓ 2 E<|jC E h15 (fun h16=>?_) fun h19=>gA 7 E ?_
   ·refine gA 8 E<|bK h16 fun v17 hv17 h18=>?_
    cases h18
    obtain rfl:=hout12 _ rfl
    cases h7
    exact gA 4 E<|oSi hv17▸gP E E
   cases h19
   exact⟨_,E,⟨⟨E,E,E,Kfh E (Kfg (nLl hlt hb9)),tV⟩,[],E,.inl E⟩⟩
  subst hgo
  exact gA 6 E<|Kgb E (dF (Int.lt_irrefl _))<|gA 4 E<|⟨_,E,⟨tV,[],E,.inl E⟩⟩
 intro a8 ha
 subst ha
 replace h7:=Kju h7
 exact gA 7 E<|oSi h7▸gP E E
theorem Lbc{k:Nat}{p:Kxh}{r:Kxh}(h:Kzz k p=some r):EC Tryz.prog 93 [.ptr 0 0] [.box 130 [S p.s,S p.tok.kind,I p.tok.v_at,I p.tok.v_end,S p.tok.name,I p.tok.value.Kind,I p.tok.value.Number,S p.tok.value.Words,I p.tok.value.Version.1,I p.tok.value.Version.2.1,I p.tok.value.Version.2.2.1,I p.tok.value.Version.2.2.2,B p.bad,I p.v_at]] fun g hp'=>g=.tup []∧hp'=[.box 130 [S r.s,S r.tok.kind,I r.tok.v_at,I r.tok.v_end,S r.tok.name,I r.tok.value.Kind,I r.tok.value.Number,S r.tok.value.Words,I r.tok.value.Version.1,I r.tok.value.Version.2.1,I r.tok.value.Version.2.2.1,I r.tok.value.Version.2.2.2,B r.bad,I r.v_at]]:=by
 unfold Kzz at h
 refine QN Tryz.func93 E Z<|gA 11 E<|bK h fun q4 hq4 h5=>Kjy [(0,.ptr 0 0),(2,I q4)] [.box 130 [S p.s,S p.tok.kind,I p.tok.v_at,I p.tok.v_end,S p.tok.name,I p.tok.value.Kind,I p.tok.value.Number,S p.tok.value.Words,I p.tok.value.Version.1,I p.tok.value.Version.2.1,I p.tok.value.Version.2.2.1,I p.tok.value.Version.2.2.2,B p.bad,I p.v_at]] ?_ ?_
 ·refine gA 1 E<|Kgm hq4 (fun s2=>[(0,.ptr 0 0),(2,I s2)]) (fun s2=>[.box 130 [S p.s,S p.tok.kind,I p.tok.v_at,I p.tok.v_end,S p.tok.name,I p.tok.value.Kind,I p.tok.value.Number,S p.tok.value.Words,I p.tok.value.Version.1,I p.tok.value.Version.2.1,I p.tok.value.Version.2.2.1,I p.tok.value.Version.2.2.2,B p.bad,I p.v_at]]) ⟨⟨E,E,tV⟩,[],E,.inl E⟩ (fun s2 y10 hy8 hout9=>?_)
  refine gA 11 E<|bK hy8 fun q11 hq11 h12=>Kgf 17 [(0,.ptr 0 0),(2,I s2),(32,B q11)] [.box 130 [S p.s,S p.tok.kind,I p.tok.v_at,I p.tok.v_end,S p.tok.name,I p.tok.value.Kind,I p.tok.value.Number,S p.tok.value.Words,I p.tok.value.Version.1,I p.tok.value.Version.2.1,I p.tok.value.Version.2.2.1,I p.tok.value.Version.2.2.2,B p.bad,I p.v_at]] ?_ ?_
  ·refine Kno E E (fun hb=>?_) (fun hb=>?_)
   ·have h13:=cT hq11 hb
    refine bK h13 fun c14 hc14 h15=>gO 5 E<|Knm E<|eo_o E (Kgr hΓ hc14 E E E E)<|gO 2 E<|bK h15 fun q16 hq16 h17=>Kgf 8 [(0,.ptr 0 0),(2,I s2),(15,B true),(31,B q16)] [.box 130 [S p.s,S p.tok.kind,I p.tok.v_at,I p.tok.v_end,S p.tok.name,I p.tok.value.Kind,I p.tok.value.Number,S p.tok.value.Words,I p.tok.value.Version.1,I p.tok.value.Version.2.1,I p.tok.value.Version.2.2.1,I p.tok.value.Version.2.2.2,B p.bad,I p.v_at]] ?_ ?_
    ·refine Kno E E (fun hb=>?_) (fun hb=>?_)
     ·have h18:=cT hq16 hb
      exact gO 9 E<|oSi h18▸⟨⟨E,E,E,E,tV⟩,[],E,.inl E⟩
     have h19:=cF hq16 hb
     exact bK h19 fun c20 hc20 h21=>gO 5 E<|Knm E<|eo_o E (Kgr hΓ hc20 E E E E)<|gO 3 E<|oSi h21▸⟨⟨E,E,E,E,tV⟩,[],E,.inl E⟩
    exact gO 2 E<|oSi h17▸⟨⟨E,E,E,tV⟩,[],E,.inl E⟩
   have h22:=cF hq11 hb
   exact gO 18 E<|oSi h22▸⟨⟨E,E,E,tV⟩,[],E,.inl E⟩
  refine gO 2 E<|jC E h12 (fun h23=>?_) fun h24=>gA 4 E ?_
  ·exact gA 9 E<|oSi h23▸⟨_,E,⟨⟨E,E,tV⟩,[],E,.inl E⟩⟩
  cases h24
  obtain rfl:=hout9 _ rfl
  exact⟨⟨E,E,tV⟩,[],E,.inl E⟩
 exact bK h5 fun y25 hy25 h26=>gA 8 E<|Khd C (Leb hy25) E Z E E E E E<|gO 2 E<|Kpa hΓ E E E E E E E E Z<|Khk [.box 130 [S p.s,S y25.kind,I y25.v_at,I y25.v_end,S y25.name,I y25.value.Kind,I y25.value.Number,S y25.value.Words,I y25.value.Version.1,I y25.value.Version.2.1,I y25.value.Version.2.2.1,I y25.value.Version.2.2.2,B p.bad,I p.v_at]] E<|gO 1 E<|oSi h26▸Khr hΓ [] (.inl E) E E E E (.inl E)
theorem Lbd{p:Kxh}{r:Kxi×Kxh}(h:Laa p=some r):EC Tryz.prog 95 [.ptr 0 0] [.box 130 [S p.s,S p.tok.kind,I p.tok.v_at,I p.tok.v_end,S p.tok.name,I p.tok.value.Kind,I p.tok.value.Number,S p.tok.value.Words,I p.tok.value.Version.1,I p.tok.value.Version.2.1,I p.tok.value.Version.2.2.1,I p.tok.value.Version.2.2.2,B p.bad,I p.v_at]] fun g hp'=>g=.agg [I r.1.Kind,S r.1.Name,S r.1.Op,I r.1.Value.Kind,I r.1.Value.Number,S r.1.Value.Words,I r.1.Value.Version.1,I r.1.Value.Version.2.1,I r.1.Value.Version.2.2.1,I r.1.Value.Version.2.2.2,.d (.ro r.1.Kids.n r.1.Kids.xs)]∧hp'=[.box 130 [S r.2.s,S r.2.tok.kind,I r.2.tok.v_at,I r.2.tok.v_end,S r.2.tok.name,I r.2.tok.value.Kind,I r.2.tok.value.Number,S r.2.tok.value.Words,I r.2.tok.value.Version.1,I r.2.tok.value.Version.2.1,I r.2.tok.value.Version.2.2.1,I r.2.tok.value.Version.2.2.2,B r.2.bad,I r.2.v_at]]:=by
 unfold Laa at h
 refine QN Tryz.func95 E Z<|gA 2 E<|Kov hΓ E E E Z<|bK h fun q1 hq1 h2=>gO 12 E<|Kjy [(2,.ptr 1 0)] [.box 130 [S q1.s,S q1.tok.kind,I q1.tok.v_at,I q1.tok.v_end,S q1.tok.name,I q1.tok.value.Kind,I q1.tok.value.Number,S q1.tok.value.Words,I q1.tok.value.Version.1,I q1.tok.value.Version.2.1,I q1.tok.value.Version.2.2.1,I q1.tok.value.Version.2.2.2,B q1.bad,I q1.v_at],.box 47 [I 0,S [],S [],I 0,I 0,S [],I 0,I 0,I 0,I 0,.d (.ro (KD.mk 0 []).n (KD.mk 0 []).xs)]] ?_ ?_
 ·refine jC E hq1 (fun h3=>?_) fun h4=>gA 1 E<|oSi h4▸⟨⟨E,tV⟩,[],E,.inl E⟩
  exact gA 10 E<|Kpa hΓ E E E E E E E E Z<|Khk [.box 130 [S p.s,S p.tok.kind,I p.tok.v_at,I p.tok.v_end,S p.tok.name,I p.tok.value.Kind,I p.tok.value.Number,S p.tok.value.Words,I p.tok.value.Version.1,I p.tok.value.Version.2.1,I p.tok.value.Version.2.2.1,I p.tok.value.Version.2.2.2,B true,I p.v_at],.box 47 [I 0,S [],S [],I 0,I 0,S [],I 0,I 0,I 0,I 0,.d (.ro (KD.mk 0 []).n (KD.mk 0 []).xs)]] E<|gO 2 E<|Kpa hΓ E E E E E E E E Z<|Khk [.box 130 [S p.s,S p.tok.kind,I p.tok.v_at,I p.tok.v_end,S p.tok.name,I p.tok.value.Kind,I p.tok.value.Number,S p.tok.value.Words,I p.tok.value.Version.1,I p.tok.value.Version.2.1,I p.tok.value.Version.2.2.1,I p.tok.value.Version.2.2.2,B true,I p.tok.v_at],.box 47 [I 0,S [],S [],I 0,I 0,S [],I 0,I 0,I 0,I 0,.d (.ro (KD.mk 0 []).n (KD.mk 0 []).xs)]] E<|gO 1 E<|oSi h3▸⟨⟨E,tV⟩,[],E,.inl E⟩
 exact gA 3 E<|Keg hΓ (gs:=[I 0,S [],S [],I 0,I 0,S [],I 0,I 0,I 0,I 0,.d (.ro (KD.mk 0 []).n (KD.mk 0 []).xs)]) E E E E E E E<|Kpa hΓ E E E E E E E E Z<|Khk [.box 130 [S q1.s,S q1.tok.kind,I q1.tok.v_at,I q1.tok.v_end,S q1.tok.name,I q1.tok.value.Kind,I q1.tok.value.Number,S q1.tok.value.Words,I q1.tok.value.Version.1,I q1.tok.value.Version.2.1,I q1.tok.value.Version.2.2.1,I q1.tok.value.Version.2.2.2,B q1.bad,I q1.v_at],.box 47 [I 0,S [],S [],I 0,I 0,S [],I 0,I 0,I 0,I 0,.d (.ro (KD.mk 0 []).n (KD.mk 0 []).xs)]] E<|gO 3 E<|oSi h2▸Khr hΓ [_] (.inr E) E E E E (.inr ⟨HB.mk E,E⟩)
theorem Lbe{op:Str}{r:Bool}(h:Lab op=some r):Pure Tryz.prog 103 [S op] (B r):=by
 unfold Lab at h
 exact QP Tryz.func103 E E E<|gA 7 E<|Kgx hΓ (enc:=eS) [[61,61],[33,61],[60],[60,61],[62],[62,61]] E E E E E E E E E E E E Z<|bK h fun y1 hy1 h2=>gO 1 E<|Khd C (Ldp hy1) E Z E E E E E<|gO 4 E<|oSi h2▸gP E E
theorem Lbf{k:Nat}{p:Kxh}{r:Kxi×Kxh}(h:Lac k p=some r):EC Tryz.prog 218 [.ptr 0 0] [.box 130 [S p.s,S p.tok.kind,I p.tok.v_at,I p.tok.v_end,S p.tok.name,I p.tok.value.Kind,I p.tok.value.Number,S p.tok.value.Words,I p.tok.value.Version.1,I p.tok.value.Version.2.1,I p.tok.value.Version.2.2.1,I p.tok.value.Version.2.2.2,B p.bad,I p.v_at]] fun g hp'=>g=.agg [I r.1.Kind,S r.1.Name,S r.1.Op,I r.1.Value.Kind,I r.1.Value.Number,S r.1.Value.Words,I r.1.Value.Version.1,I r.1.Value.Version.2.1,I r.1.Value.Version.2.2.1,I r.1.Value.Version.2.2.2,.d (.ro r.1.Kids.n r.1.Kids.xs)]∧hp'=[.box 130 [S r.2.s,S r.2.tok.kind,I r.2.tok.v_at,I r.2.tok.v_end,S r.2.tok.name,I r.2.tok.value.Kind,I r.2.tok.value.Number,S r.2.tok.value.Words,I r.2.tok.value.Version.1,I r.2.tok.value.Version.2.1,I r.2.tok.value.Version.2.2.1,I r.2.tok.value.Version.2.2.2,B r.2.bad,I r.2.v_at]]:=by
 unfold Lac at h
 refine QN Tryz.func218 E Z<|gA 2 E<|Kov hΓ E E E Z<|gO 9 E<|Keg hΓ (gs:=[I 3,I 1,S [],I 0,I 0,I 0,I 0]) E E E E E E E<|Keg hΓ (gs:=[I 1,S p.tok.name,S [61,61],I 3,I 1,S [],I 0,I 0,I 0,I 0,.d (.ro (KD.mk 0 []).n (KD.mk 0 []).xs)]) E E E E E E E<|Kov hΓ E E E Z<|Kpa hΓ E E E E E E E E Z<|Khk [.box 130 [S p.s,S p.tok.kind,I p.tok.v_at,I p.tok.v_end,S p.tok.name,I p.tok.value.Kind,I p.tok.value.Number,S p.tok.value.Words,I p.tok.value.Version.1,I p.tok.value.Version.2.1,I p.tok.value.Version.2.2.1,I p.tok.value.Version.2.2.2,B p.bad,I p.v_at],.box 47 [I 0,S [],S [],I 0,I 0,S [],I 0,I 0,I 0,I 0,.d (.ro (KD.mk 0 []).n (KD.mk 0 []).xs)],.box 47 [I 1,S p.tok.name,S [61,61],I 3,I 1,S [],I 0,I 0,I 0,I 0,.d (.ro (KD.mk 0 []).n (KD.mk 0 []).xs)]] E<|bK h fun y1 hy1 h2=>gO 5 E<|Khc [0] (.tup []) [.box 130 [S y1.s,S y1.tok.kind,I y1.tok.v_at,I y1.tok.v_end,S y1.tok.name,I y1.tok.value.Kind,I y1.tok.value.Number,S y1.tok.value.Words,I y1.tok.value.Version.1,I y1.tok.value.Version.2.1,I y1.tok.value.Version.2.2.1,I y1.tok.value.Version.2.2.2,B y1.bad,I y1.v_at],.box 47 [I 0,S [],S [],I 0,I 0,S [],I 0,I 0,I 0,I 0,.d (.ro (KD.mk 0 []).n (KD.mk 0 []).xs)],.box 47 [I 1,S p.tok.name,S [61,61],I 3,I 1,S [],I 0,I 0,I 0,I 0,.d (.ro (KD.mk 0 []).n (KD.mk 0 []).xs)]] C (Lbc hy1) E Z E E E E E E E E E E<|bK h2 fun y3 hy3 h4=>gO 10 E<|Khd C (Lbe hy3) E Z E E E E E<|gO 3 E<|jC E h4 (fun h5=>?_) fun h6=>gA 10 E<|Kpa hΓ E E E E E E E E Z<|Khk [.box 130 [S y1.s,S y1.tok.kind,I y1.tok.v_at,I y1.tok.v_end,S y1.tok.name,I y1.tok.value.Kind,I y1.tok.value.Number,S y1.tok.value.Words,I y1.tok.value.Version.1,I y1.tok.value.Version.2.1,I y1.tok.value.Version.2.2.1,I y1.tok.value.Version.2.2.2,B y1.bad,I y1.v_at],.box 47 [I 0,S [],S [],I 0,I 0,S [],I 0,I 0,I 0,I 0,.d (.ro (KD.mk 0 []).n (KD.mk 0 []).xs)],.box 47 [I 1,S p.tok.name,S y1.tok.kind,I 3,I 1,S [],I 0,I 0,I 0,I 0,.d (.ro (KD.mk 0 []).n (KD.mk 0 []).xs)]] E<|bK h6 fun y7 hy7 h8=>gO 5 E<|Khc [0] (.tup []) [.box 130 [S y7.s,S y7.tok.kind,I y7.tok.v_at,I y7.tok.v_end,S y7.tok.name,I y7.tok.value.Kind,I y7.tok.value.Number,S y7.tok.value.Words,I y7.tok.value.Version.1,I y7.tok.value.Version.2.1,I y7.tok.value.Version.2.2.1,I y7.tok.value.Version.2.2.2,B y7.bad,I y7.v_at],.box 47 [I 0,S [],S [],I 0,I 0,S [],I 0,I 0,I 0,I 0,.d (.ro (KD.mk 0 []).n (KD.mk 0 []).xs)],.box 47 [I 1,S p.tok.name,S y1.tok.kind,I 3,I 1,S [],I 0,I 0,I 0,I 0,.d (.ro (KD.mk 0 []).n (KD.mk 0 []).xs)]] C (Lbc hy7) E Z E E E E E E E E E E<|gO 13 E<|jC E h8 (fun h9=>?_) fun h12=>?_
 ·exact gA 3 E<|Kpa hΓ E E E E E E E E Z<|Khk [.box 130 [S y1.s,S y1.tok.kind,I y1.tok.v_at,I y1.tok.v_end,S y1.tok.name,I y1.tok.value.Kind,I y1.tok.value.Number,S y1.tok.value.Words,I y1.tok.value.Version.1,I y1.tok.value.Version.2.1,I y1.tok.value.Version.2.2.1,I y1.tok.value.Version.2.2.2,B y1.bad,I y1.v_at],.box 47 [I 1,S p.tok.name,S [61,61],I 3,I 1,S [],I 0,I 0,I 0,I 0,.d (.ro (KD.mk 0 []).n (KD.mk 0 []).xs)],.box 47 [I 1,S p.tok.name,S [61,61],I 3,I 1,S [],I 0,I 0,I 0,I 0,.d (.ro (KD.mk 0 []).n (KD.mk 0 []).xs)]] E<|gO 4 E<|oSi h5▸Khr hΓ [_,_] (.inr E) E E E E (.inr ⟨HB.mk E,E⟩)
 ·exact bK h9 fun y10 hy10 h11=>gA 3 E<|Khc [0] (.agg [I y10.1.Kind,S y10.1.Name,S y10.1.Op,I y10.1.Value.Kind,I y10.1.Value.Number,S y10.1.Value.Words,I y10.1.Value.Version.1,I y10.1.Value.Version.2.1,I y10.1.Value.Version.2.2.1,I y10.1.Value.Version.2.2.2,.d (.ro y10.1.Kids.n y10.1.Kids.xs)]) [.box 130 [S y10.2.s,S y10.2.tok.kind,I y10.2.tok.v_at,I y10.2.tok.v_end,S y10.2.tok.name,I y10.2.tok.value.Kind,I y10.2.tok.value.Number,S y10.2.tok.value.Words,I y10.2.tok.value.Version.1,I y10.2.tok.value.Version.2.1,I y10.2.tok.value.Version.2.2.1,I y10.2.tok.value.Version.2.2.2,B y10.2.bad,I y10.2.v_at],.box 47 [I 0,S [],S [],I 0,I 0,S [],I 0,I 0,I 0,I 0,.d (.ro (KD.mk 0 []).n (KD.mk 0 []).xs)],.box 47 [I 1,S p.tok.name,S y1.tok.kind,I 3,I 1,S [],I 0,I 0,I 0,I 0,.d (.ro (KD.mk 0 []).n (KD.mk 0 []).xs)]] C (Lbd hy10) E Z E E E E E E E E E E<|Kpa hΓ E E E E E E E E Z<|Khk [.box 130 [S y10.2.s,S y10.2.tok.kind,I y10.2.tok.v_at,I y10.2.tok.v_end,S y10.2.tok.name,I y10.2.tok.value.Kind,I y10.2.tok.value.Number,S y10.2.tok.value.Words,I y10.2.tok.value.Version.1,I y10.2.tok.value.Version.2.1,I y10.2.tok.value.Version.2.2.1,I y10.2.tok.value.Version.2.2.2,B y10.2.bad,I y10.2.v_at],.box 47 [I y10.1.Kind,S y10.1.Name,S y10.1.Op,I y10.1.Value.Kind,I y10.1.Value.Number,S y10.1.Value.Words,I y10.1.Value.Version.1,I y10.1.Value.Version.2.1,I y10.1.Value.Version.2.2.1,I y10.1.Value.Version.2.2.2,.d (.ro y10.1.Kids.n y10.1.Kids.xs)],.box 47 [I 1,S p.tok.name,S y1.tok.kind,I 3,I 1,S [],I 0,I 0,I 0,I 0,.d (.ro (KD.mk 0 []).n (KD.mk 0 []).xs)]] E<|gO 4 E<|oSi h11▸Khr hΓ [_,_] (.inr E) E E E E (.inr ⟨HB.mk E,E⟩)
 exact gA 10 E<|Kpa hΓ E E E E E E E E Z<|Khk [.box 130 [S y7.s,S y7.tok.kind,I y7.tok.v_at,I y7.tok.v_end,S y7.tok.name,I y7.tok.value.Kind,I y7.tok.value.Number,S y7.tok.value.Words,I y7.tok.value.Version.1,I y7.tok.value.Version.2.1,I y7.tok.value.Version.2.2.1,I y7.tok.value.Version.2.2.2,B y7.bad,I y7.v_at],.box 47 [I 0,S [],S [],I 0,I 0,S [],I 0,I 0,I 0,I 0,.d (.ro (KD.mk 0 []).n (KD.mk 0 []).xs)],.box 47 [I 1,S p.tok.name,S y1.tok.kind,I y7.tok.value.Kind,I y7.tok.value.Number,S y7.tok.value.Words,I y7.tok.value.Version.1,I y7.tok.value.Version.2.1,I y7.tok.value.Version.2.2.1,I y7.tok.value.Version.2.2.2,.d (.ro (KD.mk 0 []).n (KD.mk 0 []).xs)]] E<|bK h12 fun y13 hy13 h14=>gO 5 E<|Khc [0] (.tup []) [.box 130 [S y13.s,S y13.tok.kind,I y13.tok.v_at,I y13.tok.v_end,S y13.tok.name,I y13.tok.value.Kind,I y13.tok.value.Number,S y13.tok.value.Words,I y13.tok.value.Version.1,I y13.tok.value.Version.2.1,I y13.tok.value.Version.2.2.1,I y13.tok.value.Version.2.2.2,B y13.bad,I y13.v_at],.box 47 [I 0,S [],S [],I 0,I 0,S [],I 0,I 0,I 0,I 0,.d (.ro (KD.mk 0 []).n (KD.mk 0 []).xs)],.box 47 [I 1,S p.tok.name,S y1.tok.kind,I y7.tok.value.Kind,I y7.tok.value.Number,S y7.tok.value.Words,I y7.tok.value.Version.1,I y7.tok.value.Version.2.1,I y7.tok.value.Version.2.2.1,I y7.tok.value.Version.2.2.2,.d (.ro (KD.mk 0 []).n (KD.mk 0 []).xs)]] C (Lbc hy13) E Z E E E E E E E E E E<|gO 5 E<|Kpa hΓ E E E E E E E E Z<|Khk [.box 130 [S y13.s,S y13.tok.kind,I y13.tok.v_at,I y13.tok.v_end,S y13.tok.name,I y13.tok.value.Kind,I y13.tok.value.Number,S y13.tok.value.Words,I y13.tok.value.Version.1,I y13.tok.value.Version.2.1,I y13.tok.value.Version.2.2.1,I y13.tok.value.Version.2.2.2,B y13.bad,I y13.v_at],.box 47 [I 1,S p.tok.name,S y1.tok.kind,I y7.tok.value.Kind,I y7.tok.value.Number,S y7.tok.value.Words,I y7.tok.value.Version.1,I y7.tok.value.Version.2.1,I y7.tok.value.Version.2.2.1,I y7.tok.value.Version.2.2.2,.d (.ro (KD.mk 0 []).n (KD.mk 0 []).xs)],.box 47 [I 1,S p.tok.name,S y1.tok.kind,I y7.tok.value.Kind,I y7.tok.value.Number,S y7.tok.value.Words,I y7.tok.value.Version.1,I y7.tok.value.Version.2.1,I y7.tok.value.Version.2.2.1,I y7.tok.value.Version.2.2.2,.d (.ro (KD.mk 0 []).n (KD.mk 0 []).xs)]] E<|gO 3 E<|oSi h14▸Khr hΓ [_,_] (.inr E) E E E E (.inr ⟨HB.mk E,E⟩)
theorem Lbg{rc_posture_parser_cond:Kxh→Option (Kxi×Kxh)}(ih_posture_parser_cond:∀ {p:Kxh} {r:Kxi×Kxh},rc_posture_parser_cond p=some r→EC Tryz.prog 94 [.ptr 0 0] [.box 130 [S p.s,S p.tok.kind,I p.tok.v_at,I p.tok.v_end,S p.tok.name,I p.tok.value.Kind,I p.tok.value.Number,S p.tok.value.Words,I p.tok.value.Version.1,I p.tok.value.Version.2.1,I p.tok.value.Version.2.2.1,I p.tok.value.Version.2.2.2,B p.bad,I p.v_at]] fun g hp'=>g=.agg [I r.1.Kind,S r.1.Name,S r.1.Op,I r.1.Value.Kind,I r.1.Value.Number,S r.1.Value.Words,I r.1.Value.Version.1,I r.1.Value.Version.2.1,I r.1.Value.Version.2.2.1,I r.1.Value.Version.2.2.2,.d (.ro r.1.Kids.n r.1.Kids.xs)]∧hp'=[.box 130 [S r.2.s,S r.2.tok.kind,I r.2.tok.v_at,I r.2.tok.v_end,S r.2.tok.name,I r.2.tok.value.Kind,I r.2.tok.value.Number,S r.2.tok.value.Words,I r.2.tok.value.Version.1,I r.2.tok.value.Version.2.1,I r.2.tok.value.Version.2.2.1,I r.2.tok.value.Version.2.2.2,B r.2.bad,I r.2.v_at]]){k:Nat}{p:Kxh}{r:Kxi×Kxh}(h:Lad rc_posture_parser_cond k p=some r):EC Tryz.prog 185 [.ptr 0 0] [.box 130 [S p.s,S p.tok.kind,I p.tok.v_at,I p.tok.v_end,S p.tok.name,I p.tok.value.Kind,I p.tok.value.Number,S p.tok.value.Words,I p.tok.value.Version.1,I p.tok.value.Version.2.1,I p.tok.value.Version.2.2.1,I p.tok.value.Version.2.2.2,B p.bad,I p.v_at]] fun g hp'=>g=.agg [I r.1.Kind,S r.1.Name,S r.1.Op,I r.1.Value.Kind,I r.1.Value.Number,S r.1.Value.Words,I r.1.Value.Version.1,I r.1.Value.Version.2.1,I r.1.Value.Version.2.2.1,I r.1.Value.Version.2.2.2,.d (.ro r.1.Kids.n r.1.Kids.xs)]∧hp'=[.box 130 [S r.2.s,S r.2.tok.kind,I r.2.tok.v_at,I r.2.tok.v_end,S r.2.tok.name,I r.2.tok.value.Kind,I r.2.tok.value.Number,S r.2.tok.value.Words,I r.2.tok.value.Version.1,I r.2.tok.value.Version.2.1,I r.2.tok.value.Version.2.2.1,I r.2.tok.value.Version.2.2.2,B r.2.bad,I r.2.v_at]]:=by
 induction k generalizing p r with
 | zero=>unfold Lad at h;cases h
 | succ k ih0=>
  have ih:∀ {p:Kxh} {r:Kxi×Kxh},Lad rc_posture_parser_cond k p=some r→EC Tryz.prog 185 [.ptr 0 0] [.box 130 [S p.s,S p.tok.kind,I p.tok.v_at,I p.tok.v_end,S p.tok.name,I p.tok.value.Kind,I p.tok.value.Number,S p.tok.value.Words,I p.tok.value.Version.1,I p.tok.value.Version.2.1,I p.tok.value.Version.2.2.1,I p.tok.value.Version.2.2.2,B p.bad,I p.v_at]] fun g hp'=>g=.agg [I r.1.Kind,S r.1.Name,S r.1.Op,I r.1.Value.Kind,I r.1.Value.Number,S r.1.Value.Words,I r.1.Value.Version.1,I r.1.Value.Version.2.1,I r.1.Value.Version.2.2.1,I r.1.Value.Version.2.2.2,.d (.ro r.1.Kids.n r.1.Kids.xs)]∧hp'=[.box 130 [S r.2.s,S r.2.tok.kind,I r.2.tok.v_at,I r.2.tok.v_end,S r.2.tok.name,I r.2.tok.value.Kind,I r.2.tok.value.Number,S r.2.tok.value.Words,I r.2.tok.value.Version.1,I r.2.tok.value.Version.2.1,I r.2.tok.value.Version.2.2.1,I r.2.tok.value.Version.2.2.2,B r.2.bad,I r.2.v_at]]:=by intro p r h;first | exact ih0 h | exact ih0 _ _ h
  refine Kng (Fr.of 0 _) Tryz.func185 E (Fr.of_ok _) Z fun _=>?_
  refine Kfy ?_
  unfold Lad at h
  refine gA 2 E ?_
  refine Kov hΓ E E E Z ?_
  refine gO 19 E ?_
  refine Kfz E (fun hb=>?_) (fun hb=>?_)
  ·have h1:=cT h hb
   obtain⟨y2,hy2,h3⟩:=Kgg h1
   refine gA 3 E ?_
   refine Khc [0] (.tup []) [.box 130 [S y2.s,S y2.tok.kind,I y2.tok.v_at,I y2.tok.v_end,S y2.tok.name,I y2.tok.value.Kind,I y2.tok.value.Number,S y2.tok.value.Words,I y2.tok.value.Version.1,I y2.tok.value.Version.2.1,I y2.tok.value.Version.2.2.1,I y2.tok.value.Version.2.2.2,B y2.bad,I y2.v_at],.box 47 [I 0,S [],S [],I 0,I 0,S [],I 0,I 0,I 0,I 0,.d (.ro (KD.mk 0 []).n (KD.mk 0 []).xs)]] C (Lbc hy2) E Z E E E E E E E E E E ?_
   obtain⟨y4,hy4,h5⟩:=Kgg h3
   refine gO 5 E ?_
   refine Khc [0] (.agg [I y4.1.Kind,S y4.1.Name,S y4.1.Op,I y4.1.Value.Kind,I y4.1.Value.Number,S y4.1.Value.Words,I y4.1.Value.Version.1,I y4.1.Value.Version.2.1,I y4.1.Value.Version.2.2.1,I y4.1.Value.Version.2.2.2,.d (.ro y4.1.Kids.n y4.1.Kids.xs)]) [.box 130 [S y4.2.s,S y4.2.tok.kind,I y4.2.tok.v_at,I y4.2.tok.v_end,S y4.2.tok.name,I y4.2.tok.value.Kind,I y4.2.tok.value.Number,S y4.2.tok.value.Words,I y4.2.tok.value.Version.1,I y4.2.tok.value.Version.2.1,I y4.2.tok.value.Version.2.2.1,I y4.2.tok.value.Version.2.2.2,B y4.2.bad,I y4.2.v_at],.box 47 [I 0,S [],S [],I 0,I 0,S [],I 0,I 0,I 0,I 0,.d (.ro (KD.mk 0 []).n (KD.mk 0 []).xs)]] C (ih hy4) E Z E E E E E E E E E E ?_
   refine Kgx hΓ (enc:=Kxj) [y4.1] E E E E E E E E E E E E Z ?_
   refine Keg hΓ (gs:=[I 2,S [],S [],I 0,I 0,S [],I 0,I 0,I 0,I 0,.d (.ro (pk Kxj [y4.1]).n (pk Kxj [y4.1]).xs)]) E E E E E E E ?_
   refine Kpa hΓ E E E E E E E E Z ?_
   refine Khk [.box 130 [S y4.2.s,S y4.2.tok.kind,I y4.2.tok.v_at,I y4.2.tok.v_end,S y4.2.tok.name,I y4.2.tok.value.Kind,I y4.2.tok.value.Number,S y4.2.tok.value.Words,I y4.2.tok.value.Version.1,I y4.2.tok.value.Version.2.1,I y4.2.tok.value.Version.2.2.1,I y4.2.tok.value.Version.2.2.2,B y4.2.bad,I y4.2.v_at],.box 47 [I 2,S [],S [],I 0,I 0,S [],I 0,I 0,I 0,I 0,.d (.ro (pk Kxj [y4.1]).n (pk Kxj [y4.1]).xs)]] E ?_
   refine gO 5 E ?_
   obtain rfl:=oSi h5
   exact Khr hΓ [_] (.inr E) E E E E (.inr ⟨HB.mk E,E⟩)
  have h6:=cF h hb
  refine gA 6 E ?_
  refine Kfz E (fun hb=>?_) (fun hb=>?_)
  ·have h7:=cT h6 hb
   obtain⟨y8,hy8,h9⟩:=Kgg h7
   refine gA 3 E ?_
   refine Khc [0] (.tup []) [.box 130 [S y8.s,S y8.tok.kind,I y8.tok.v_at,I y8.tok.v_end,S y8.tok.name,I y8.tok.value.Kind,I y8.tok.value.Number,S y8.tok.value.Words,I y8.tok.value.Version.1,I y8.tok.value.Version.2.1,I y8.tok.value.Version.2.2.1,I y8.tok.value.Version.2.2.2,B y8.bad,I y8.v_at],.box 47 [I 0,S [],S [],I 0,I 0,S [],I 0,I 0,I 0,I 0,.d (.ro (KD.mk 0 []).n (KD.mk 0 []).xs)]] C (Lbc hy8) E Z E E E E E E E E E E ?_
   obtain⟨y10,hy10,h11⟩:=Kgg h9
   refine gO 5 E ?_
   refine Khc [0] (.agg [I y10.1.Kind,S y10.1.Name,S y10.1.Op,I y10.1.Value.Kind,I y10.1.Value.Number,S y10.1.Value.Words,I y10.1.Value.Version.1,I y10.1.Value.Version.2.1,I y10.1.Value.Version.2.2.1,I y10.1.Value.Version.2.2.2,.d (.ro y10.1.Kids.n y10.1.Kids.xs)]) [.box 130 [S y10.2.s,S y10.2.tok.kind,I y10.2.tok.v_at,I y10.2.tok.v_end,S y10.2.tok.name,I y10.2.tok.value.Kind,I y10.2.tok.value.Number,S y10.2.tok.value.Words,I y10.2.tok.value.Version.1,I y10.2.tok.value.Version.2.1,I y10.2.tok.value.Version.2.2.1,I y10.2.tok.value.Version.2.2.2,B y10.2.bad,I y10.2.v_at],.box 47 [I 0,S [],S [],I 0,I 0,S [],I 0,I 0,I 0,I 0,.d (.ro (KD.mk 0 []).n (KD.mk 0 []).xs)]] C (ih_posture_parser_cond hy10) E Z E E E E E E E E E E ?_
   refine Kov hΓ E E E Z ?_
   refine Kpa hΓ E E E E E E E E Z ?_
   refine Khk [.box 130 [S y10.2.s,S y10.2.tok.kind,I y10.2.tok.v_at,I y10.2.tok.v_end,S y10.2.tok.name,I y10.2.tok.value.Kind,I y10.2.tok.value.Number,S y10.2.tok.value.Words,I y10.2.tok.value.Version.1,I y10.2.tok.value.Version.2.1,I y10.2.tok.value.Version.2.2.1,I y10.2.tok.value.Version.2.2.2,B y10.2.bad,I y10.2.v_at],.box 47 [I 0,S [],S [],I 0,I 0,S [],I 0,I 0,I 0,I 0,.d (.ro (KD.mk 0 []).n (KD.mk 0 []).xs)],.box 47 [I y10.1.Kind,S y10.1.Name,S y10.1.Op,I y10.1.Value.Kind,I y10.1.Value.Number,S y10.1.Value.Words,I y10.1.Value.Version.1,I y10.1.Value.Version.2.1,I y10.1.Value.Version.2.2.1,I y10.1.Value.Version.2.2.2,.d (.ro y10.1.Kids.n y10.1.Kids.xs)]] E ?_
   refine gO 11 E ?_
   refine Kfz E (fun hb=>?_) (fun hb=>?_)
   ·have h12:=cT h11 hb
    refine gA 3 E ?_
    refine Kpa hΓ E E E E E E E E Z ?_
    refine Khk [.box 130 [S y10.2.s,S y10.2.tok.kind,I y10.2.tok.v_at,I y10.2.tok.v_end,S y10.2.tok.name,I y10.2.tok.value.Kind,I y10.2.tok.value.Number,S y10.2.tok.value.Words,I y10.2.tok.value.Version.1,I y10.2.tok.value.Version.2.1,I y10.2.tok.value.Version.2.2.1,I y10.2.tok.value.Version.2.2.2,B y10.2.bad,I y10.2.v_at],.box 47 [I y10.1.Kind,S y10.1.Name,S y10.1.Op,I y10.1.Value.Kind,I y10.1.Value.Number,S y10.1.Value.Words,I y10.1.Value.Version.1,I y10.1.Value.Version.2.1,I y10.1.Value.Version.2.2.1,I y10.1.Value.Version.2.2.2,.d (.ro y10.1.Kids.n y10.1.Kids.xs)],.box 47 [I y10.1.Kind,S y10.1.Name,S y10.1.Op,I y10.1.Value.Kind,I y10.1.Value.Number,S y10.1.Value.Words,I y10.1.Value.Version.1,I y10.1.Value.Version.2.1,I y10.1.Value.Version.2.2.1,I y10.1.Value.Version.2.2.2,.d (.ro y10.1.Kids.n y10.1.Kids.xs)]] E ?_
    refine gO 6 E ?_
    obtain rfl:=oSi h12
    exact Khr hΓ [_,_] (.inr E) E E E E (.inr ⟨HB.mk E,E⟩)
   have h13:=cF h11 hb
   refine gA 13 E ?_
   refine Kfz E (fun hb=>?_) (fun hb=>?_)
   ·have h14:=cT h13 hb
    obtain⟨y15,hy15,h16⟩:=Kgg h14
    refine gA 3 E ?_
    refine Khc [0] (.agg [I y15.1.Kind,S y15.1.Name,S y15.1.Op,I y15.1.Value.Kind,I y15.1.Value.Number,S y15.1.Value.Words,I y15.1.Value.Version.1,I y15.1.Value.Version.2.1,I y15.1.Value.Version.2.2.1,I y15.1.Value.Version.2.2.2,.d (.ro y15.1.Kids.n y15.1.Kids.xs)]) [.box 130 [S y15.2.s,S y15.2.tok.kind,I y15.2.tok.v_at,I y15.2.tok.v_end,S y15.2.tok.name,I y15.2.tok.value.Kind,I y15.2.tok.value.Number,S y15.2.tok.value.Words,I y15.2.tok.value.Version.1,I y15.2.tok.value.Version.2.1,I y15.2.tok.value.Version.2.2.1,I y15.2.tok.value.Version.2.2.2,B y15.2.bad,I y15.2.v_at],.box 47 [I 0,S [],S [],I 0,I 0,S [],I 0,I 0,I 0,I 0,.d (.ro (KD.mk 0 []).n (KD.mk 0 []).xs)],.box 47 [I y10.1.Kind,S y10.1.Name,S y10.1.Op,I y10.1.Value.Kind,I y10.1.Value.Number,S y10.1.Value.Words,I y10.1.Value.Version.1,I y10.1.Value.Version.2.1,I y10.1.Value.Version.2.2.1,I y10.1.Value.Version.2.2.2,.d (.ro y10.1.Kids.n y10.1.Kids.xs)]] C (Lbd hy15) E Z E E E E E E E E E E ?_
    refine Kpa hΓ E E E E E E E E Z ?_
    refine Khk [.box 130 [S y15.2.s,S y15.2.tok.kind,I y15.2.tok.v_at,I y15.2.tok.v_end,S y15.2.tok.name,I y15.2.tok.value.Kind,I y15.2.tok.value.Number,S y15.2.tok.value.Words,I y15.2.tok.value.Version.1,I y15.2.tok.value.Version.2.1,I y15.2.tok.value.Version.2.2.1,I y15.2.tok.value.Version.2.2.2,B y15.2.bad,I y15.2.v_at],.box 47 [I y15.1.Kind,S y15.1.Name,S y15.1.Op,I y15.1.Value.Kind,I y15.1.Value.Number,S y15.1.Value.Words,I y15.1.Value.Version.1,I y15.1.Value.Version.2.1,I y15.1.Value.Version.2.2.1,I y15.1.Value.Version.2.2.2,.d (.ro y15.1.Kids.n y15.1.Kids.xs)],.box 47 [I y10.1.Kind,S y10.1.Name,S y10.1.Op,I y10.1.Value.Kind,I y10.1.Value.Number,S y10.1.Value.Words,I y10.1.Value.Version.1,I y10.1.Value.Version.2.1,I y10.1.Value.Version.2.2.1,I y10.1.Value.Version.2.2.2,.d (.ro y10.1.Kids.n y10.1.Kids.xs)]] E ?_
    refine gO 6 E ?_
    obtain rfl:=oSi h16
    exact Khr hΓ [_,_] (.inr E) E E E E (.inr ⟨HB.mk E,E⟩)
   have h17:=cF h13 hb
   obtain⟨y18,hy18,h19⟩:=Kgg h17
   refine gA 5 E ?_
   refine Khc [0] (.tup []) [.box 130 [S y18.s,S y18.tok.kind,I y18.tok.v_at,I y18.tok.v_end,S y18.tok.name,I y18.tok.value.Kind,I y18.tok.value.Number,S y18.tok.value.Words,I y18.tok.value.Version.1,I y18.tok.value.Version.2.1,I y18.tok.value.Version.2.2.1,I y18.tok.value.Version.2.2.2,B y18.bad,I y18.v_at],.box 47 [I 0,S [],S [],I 0,I 0,S [],I 0,I 0,I 0,I 0,.d (.ro (KD.mk 0 []).n (KD.mk 0 []).xs)],.box 47 [I y10.1.Kind,S y10.1.Name,S y10.1.Op,I y10.1.Value.Kind,I y10.1.Value.Number,S y10.1.Value.Words,I y10.1.Value.Version.1,I y10.1.Value.Version.2.1,I y10.1.Value.Version.2.2.1,I y10.1.Value.Version.2.2.2,.d (.ro y10.1.Kids.n y10.1.Kids.xs)]] C (Lbc hy18) E Z E E E E E E E E E E ?_
   refine gO 5 E ?_
   refine Kpa hΓ E E E E E E E E Z ?_
   refine Khk [.box 130 [S y18.s,S y18.tok.kind,I y18.tok.v_at,I y18.tok.v_end,S y18.tok.name,I y18.tok.value.Kind,I y18.tok.value.Number,S y18.tok.value.Words,I y18.tok.value.Version.1,I y18.tok.value.Version.2.1,I y18.tok.value.Version.2.2.1,I y18.tok.value.Version.2.2.2,B y18.bad,I y18.v_at],.box 47 [I y10.1.Kind,S y10.1.Name,S y10.1.Op,I y10.1.Value.Kind,I y10.1.Value.Number,S y10.1.Value.Words,I y10.1.Value.Version.1,I y10.1.Value.Version.2.1,I y10.1.Value.Version.2.2.1,I y10.1.Value.Version.2.2.2,.d (.ro y10.1.Kids.n y10.1.Kids.xs)],.box 47 [I y10.1.Kind,S y10.1.Name,S y10.1.Op,I y10.1.Value.Kind,I y10.1.Value.Number,S y10.1.Value.Words,I y10.1.Value.Version.1,I y10.1.Value.Version.2.1,I y10.1.Value.Version.2.2.1,I y10.1.Value.Version.2.2.2,.d (.ro y10.1.Kids.n y10.1.Kids.xs)]] E ?_
   refine gO 5 E ?_
   obtain rfl:=oSi h19
   exact Khr hΓ [_,_] (.inr E) E E E E (.inr ⟨HB.mk E,E⟩)
  have h20:=cF h6 hb
  refine gA 6 E ?_
  refine Kfz E (fun hb=>?_) (fun hb=>?_)
  ·have h21:=cT h20 hb
   obtain⟨y22,hy22,h23⟩:=Kgg h21
   refine gA 3 E ?_
   refine Khc [0] (.agg [I y22.1.Kind,S y22.1.Name,S y22.1.Op,I y22.1.Value.Kind,I y22.1.Value.Number,S y22.1.Value.Words,I y22.1.Value.Version.1,I y22.1.Value.Version.2.1,I y22.1.Value.Version.2.2.1,I y22.1.Value.Version.2.2.2,.d (.ro y22.1.Kids.n y22.1.Kids.xs)]) [.box 130 [S y22.2.s,S y22.2.tok.kind,I y22.2.tok.v_at,I y22.2.tok.v_end,S y22.2.tok.name,I y22.2.tok.value.Kind,I y22.2.tok.value.Number,S y22.2.tok.value.Words,I y22.2.tok.value.Version.1,I y22.2.tok.value.Version.2.1,I y22.2.tok.value.Version.2.2.1,I y22.2.tok.value.Version.2.2.2,B y22.2.bad,I y22.2.v_at],.box 47 [I 0,S [],S [],I 0,I 0,S [],I 0,I 0,I 0,I 0,.d (.ro (KD.mk 0 []).n (KD.mk 0 []).xs)]] C (Lbf hy22) E Z E E E E E E E E E E ?_
   refine Kpa hΓ E E E E E E E E Z ?_
   refine Khk [.box 130 [S y22.2.s,S y22.2.tok.kind,I y22.2.tok.v_at,I y22.2.tok.v_end,S y22.2.tok.name,I y22.2.tok.value.Kind,I y22.2.tok.value.Number,S y22.2.tok.value.Words,I y22.2.tok.value.Version.1,I y22.2.tok.value.Version.2.1,I y22.2.tok.value.Version.2.2.1,I y22.2.tok.value.Version.2.2.2,B y22.2.bad,I y22.2.v_at],.box 47 [I y22.1.Kind,S y22.1.Name,S y22.1.Op,I y22.1.Value.Kind,I y22.1.Value.Number,S y22.1.Value.Words,I y22.1.Value.Version.1,I y22.1.Value.Version.2.1,I y22.1.Value.Version.2.2.1,I y22.1.Value.Version.2.2.2,.d (.ro y22.1.Kids.n y22.1.Kids.xs)]] E ?_
   refine gO 5 E ?_
   obtain rfl:=oSi h23
   exact Khr hΓ [_] (.inr E) E E E E (.inr ⟨HB.mk E,E⟩)
  have h24:=cF h20 hb
  obtain⟨y25,hy25,h26⟩:=Kgg h24
  refine gA 6 E ?_
  refine Khc [0] (.agg [I y25.1.Kind,S y25.1.Name,S y25.1.Op,I y25.1.Value.Kind,I y25.1.Value.Number,S y25.1.Value.Words,I y25.1.Value.Version.1,I y25.1.Value.Version.2.1,I y25.1.Value.Version.2.2.1,I y25.1.Value.Version.2.2.2,.d (.ro y25.1.Kids.n y25.1.Kids.xs)]) [.box 130 [S y25.2.s,S y25.2.tok.kind,I y25.2.tok.v_at,I y25.2.tok.v_end,S y25.2.tok.name,I y25.2.tok.value.Kind,I y25.2.tok.value.Number,S y25.2.tok.value.Words,I y25.2.tok.value.Version.1,I y25.2.tok.value.Version.2.1,I y25.2.tok.value.Version.2.2.1,I y25.2.tok.value.Version.2.2.2,B y25.2.bad,I y25.2.v_at],.box 47 [I 0,S [],S [],I 0,I 0,S [],I 0,I 0,I 0,I 0,.d (.ro (KD.mk 0 []).n (KD.mk 0 []).xs)]] C (Lbd hy25) E Z E E E E E E E E E E ?_
  refine Kpa hΓ E E E E E E E E Z ?_
  refine Khk [.box 130 [S y25.2.s,S y25.2.tok.kind,I y25.2.tok.v_at,I y25.2.tok.v_end,S y25.2.tok.name,I y25.2.tok.value.Kind,I y25.2.tok.value.Number,S y25.2.tok.value.Words,I y25.2.tok.value.Version.1,I y25.2.tok.value.Version.2.1,I y25.2.tok.value.Version.2.2.1,I y25.2.tok.value.Version.2.2.2,B y25.2.bad,I y25.2.v_at],.box 47 [I y25.1.Kind,S y25.1.Name,S y25.1.Op,I y25.1.Value.Kind,I y25.1.Value.Number,S y25.1.Value.Words,I y25.1.Value.Version.1,I y25.1.Value.Version.2.1,I y25.1.Value.Version.2.2.1,I y25.1.Value.Version.2.2.2,.d (.ro y25.1.Kids.n y25.1.Kids.xs)]] E ?_
  refine gO 3 E ?_
  obtain rfl:=oSi h26
  exact Khr hΓ [_] (.inr E) E E E E (.inr ⟨HB.mk E,E⟩)
theorem Lbh{kind:Int}{l:List Kxi}{r:Kxi}(h:Lae kind l=some r):Pure Tryz.prog 133 [I kind,.d (Sl Kxj l)] (.agg [I r.Kind,S r.Name,S r.Op,I r.Value.Kind,I r.Value.Number,S r.Value.Words,I r.Value.Version.1,I r.Value.Version.2.1,I r.Value.Version.2.2.1,I r.Value.Version.2.2.2,.d (.ro r.Kids.n r.Kids.xs)]):=by
 unfold Lae at h
 refine QP Tryz.func133 E E E<|gA 2 E<|Kov hΓ E E E Z<|gO 10 E<|jC E h (fun h1=>?_) fun h4=>gA 5 E<|eo_s Z (nblt.1 E) (Kkf 47 11 10 (OpP.s (Kkd hΓ [10] (gs:=[I kind,S [],S [],I 0,I 0,S [],I 0,I 0,I 0,I 0,.d (.v (.slice none 0 0))]) E E E E E E)) E)<|Kov hΓ E E E Z<|Kpa hΓ E E E E E E E E Z<|Khk [.box 47 [I 0,S [],S [],I 0,I 0,S [],I 0,I 0,I 0,I 0,.d (.ro (KD.mk 0 []).n (KD.mk 0 []).xs)],rO 47 11 Kxj ([]:List Kxi),.box 47 [I kind,S [],S [],I 0,I 0,S [],I 0,I 0,I 0,I 0,.sl 1 ([]:List Kxi).length]] E<|gO 10 E<|bK h4 fun q8 hq8 h9=>Kgp 16 E fun hb11=>Kjy [(4,.ptr 0 0),(5,.ptr 2 0)] [.box 47 [I 0,S [],S [],I 0,I 0,S [],I 0,I 0,I 0,I 0,.d (.ro (KD.mk 0 []).n (KD.mk 0 []).xs)],rO 47 11 Kxj q8,.box 47 [I kind,S [],S [],I 0,I 0,S [],I 0,I 0,I 0,I 0,.sl 1 q8.length]] ?_ ?_
 ·exact bK h1 fun x2 hx2 h3=>gA 3 E<|eo_o E (Kgq hΓ (enc:=Kxj) hx2 E E E E E (fun _=>E))<|gO 1 E<|Kpa hΓ E E E E E E E E Z<|Khk [.box 47 [I x2.Kind,S x2.Name,S x2.Op,I x2.Value.Kind,I x2.Value.Number,S x2.Value.Words,I x2.Value.Version.1,I x2.Value.Version.2.1,I x2.Value.Version.2.2.1,I x2.Value.Version.2.2.2,.d (.ro x2.Kids.n x2.Kids.xs)]] E<|gO 4 E<|oSi h3▸gP E E
 ·refine gA 1 E<|Kht l hq8 (fun i5 s6=>[(0,I kind),(4,.ptr 0 0),(5,.ptr 2 0),(16,.d (Sl Kxj l)),(17,I (l.length:Int)),(18,I (i5:Int))]) (fun s6=>[.box 47 [I 0,S [],S [],I 0,I 0,S [],I 0,I 0,I 0,I 0,.d (.ro (KD.mk 0 []).n (KD.mk 0 []).xs)],rO 47 11 Kxj s6,.box 47 [I kind,S [],S [],I 0,I 0,S [],I 0,I 0,I 0,I 0,.sl 1 s6.length]]) ⟨⟨E,E,E,E,E,E,tV⟩,[],E,.inl E⟩ (fun i5 x7 s6 y15 hx12 hlt hy13=>?_) (?_)
  ·refine gA 6 E<|Kga E (dT (Int.ofNat_lt.2 hlt))<|gA 6 E<|eo_o E (Kgq hΓ (enc:=Kxj) (Kgj hx12) E E E E E (fun _=>E))<|gO 1 E<|Kov hΓ E E E Z<|Kpa hΓ E E E E E E E E Z<|Khk [.box 47 [I 0,S [],S [],I 0,I 0,S [],I 0,I 0,I 0,I 0,.d (.ro (KD.mk 0 []).n (KD.mk 0 []).xs)],rO 47 11 Kxj s6,.box 47 [I kind,S [],S [],I 0,I 0,S [],I 0,I 0,I 0,I 0,.sl 1 s6.length],.box 47 [I x7.Kind,S x7.Name,S x7.Op,I x7.Value.Kind,I x7.Value.Number,S x7.Value.Words,I x7.Value.Version.1,I x7.Value.Version.2.1,I x7.Value.Version.2.2.1,I x7.Value.Version.2.2.2,.d (.ro x7.Kids.n x7.Kids.xs)]] E<|gO 10 E<|jC E hy13 (fun h16=>?_) fun h21=>gA 4 E<|Kgx hΓ (enc:=Kxj) [x7] E E E E E E E E E E E E Z<|bK h21 fun y22 hy22 h23=>Kki 1 [.box 47 [I 0,S [],S [],I 0,I 0,S [],I 0,I 0,I 0,I 0,.d (.ro (KD.mk 0 []).n (KD.mk 0 []).xs)],rO 47 11 Kxj s6,.box 47 [I kind,S [],S [],I 0,I 0,S [],I 0,I 0,I 0,I 0,.junk],.box 47 [I x7.Kind,S x7.Name,S x7.Op,I x7.Value.Kind,I x7.Value.Number,S x7.Value.Words,I x7.Value.Version.1,I x7.Value.Version.2.1,I x7.Value.Version.2.2.1,I x7.Value.Version.2.2.2,.d (.ro x7.Kids.n x7.Kids.xs)]] E Z<|Khl hΓ (enc:=Kxj) hy22 E E E E E E E E E (fun _=>E) E E E E<|gO 1 E<|Kpa hΓ E E E E E E E E Z<|Khk [.box 47 [I 0,S [],S [],I 0,I 0,S [],I 0,I 0,I 0,I 0,.d (.ro (KD.mk 0 []).n (KD.mk 0 []).xs)],rO 47 11 Kxj y22,.box 47 [I kind,S [],S [],I 0,I 0,S [],I 0,I 0,I 0,I 0,.sl 1 y22.length],.box 47 [I x7.Kind,S x7.Name,S x7.Op,I x7.Value.Kind,I x7.Value.Number,S x7.Value.Words,I x7.Value.Version.1,I x7.Value.Version.2.1,I x7.Value.Version.2.2.1,I x7.Value.Version.2.2.2,.d (.ro x7.Kids.n x7.Kids.xs)]] E<|gO 7 E ?_
   ·refine bK h16 fun l17 hl17 h18=>gA 4 E<|eo_o E (Kkv (Koi hΓ (g:=.d (.ro x7.Kids.n x7.Kids.xs)) E) (G.Le.unk Lar hl17))<|bK h18 fun y19 hy19 h20=>Kki 1 [.box 47 [I 0,S [],S [],I 0,I 0,S [],I 0,I 0,I 0,I 0,.d (.ro (KD.mk 0 []).n (KD.mk 0 []).xs)],rO 47 11 Kxj s6,.box 47 [I kind,S [],S [],I 0,I 0,S [],I 0,I 0,I 0,I 0,.junk],.box 47 [I x7.Kind,S x7.Name,S x7.Op,I x7.Value.Kind,I x7.Value.Number,S x7.Value.Words,I x7.Value.Version.1,I x7.Value.Version.2.1,I x7.Value.Version.2.2.1,I x7.Value.Version.2.2.2,.d (.ro x7.Kids.n x7.Kids.xs)]] E Z<|Khl hΓ (enc:=Kxj) hy19 E E E E E E E E E (fun _=>E) E E E E<|gO 1 E<|Kpa hΓ E E E E E E E E Z<|Khk [.box 47 [I 0,S [],S [],I 0,I 0,S [],I 0,I 0,I 0,I 0,.d (.ro (KD.mk 0 []).n (KD.mk 0 []).xs)],rO 47 11 Kxj y19,.box 47 [I kind,S [],S [],I 0,I 0,S [],I 0,I 0,I 0,I 0,.sl 1 y19.length],.box 47 [I x7.Kind,S x7.Name,S x7.Op,I x7.Value.Kind,I x7.Value.Number,S x7.Value.Words,I x7.Value.Version.1,I x7.Value.Version.2.1,I x7.Value.Version.2.2.1,I x7.Value.Version.2.2.2,.d (.ro x7.Kids.n x7.Kids.xs)]] E<|gO 7 E ?_
    cases h20
    exact⟨⟨E,E,E,E,E,Kfh E (Kfg (nLl hlt hb11)),tV⟩,[_],E,.inr ⟨HB.mk E,FB.mk E,Z⟩⟩
   cases h23
   exact⟨⟨E,E,E,E,E,Kfh E (Kfg (nLl hlt hb11)),tV⟩,[_],E,.inr ⟨HB.mk E,FB.mk E,Z⟩⟩
  exact gA 6 E<|Kgb E (dF (Int.lt_irrefl _))<|gA 4 E<|⟨⟨E,E,tV⟩,[],E,.inl E⟩
 exact gA 4 E<|Khj 1 [39] _ [.box 47 [I 0,S [],S [],I 0,I 0,S [],I 0,I 0,I 0,I 0,.d (.ro (KD.mk 0 []).n (KD.mk 0 []).xs)],.dead,.box 47 [I kind,S [],S [],I 0,I 0,S [],I 0,I 0,I 0,I 0,.d (.ro (pk Kxj q8).n (pk Kxj q8).xs)]] E E E Z<|Kpa hΓ E E E E E E E E Z<|Khk [.box 47 [I kind,S [],S [],I 0,I 0,S [],I 0,I 0,I 0,I 0,.d (.ro (pk Kxj q8).n (pk Kxj q8).xs)],.dead,.box 47 [I kind,S [],S [],I 0,I 0,S [],I 0,I 0,I 0,I 0,.d (.ro (pk Kxj q8).n (pk Kxj q8).xs)]] E<|gO 3 E<|oSi h9▸gP E E
theorem Lbi{rc_posture_parser_cond:Kxh→Option (Kxi×Kxh)}(ih_posture_parser_cond:∀ {p:Kxh} {r:Kxi×Kxh},rc_posture_parser_cond p=some r→EC Tryz.prog 94 [.ptr 0 0] [.box 130 [S p.s,S p.tok.kind,I p.tok.v_at,I p.tok.v_end,S p.tok.name,I p.tok.value.Kind,I p.tok.value.Number,S p.tok.value.Words,I p.tok.value.Version.1,I p.tok.value.Version.2.1,I p.tok.value.Version.2.2.1,I p.tok.value.Version.2.2.2,B p.bad,I p.v_at]] fun g hp'=>g=.agg [I r.1.Kind,S r.1.Name,S r.1.Op,I r.1.Value.Kind,I r.1.Value.Number,S r.1.Value.Words,I r.1.Value.Version.1,I r.1.Value.Version.2.1,I r.1.Value.Version.2.2.1,I r.1.Value.Version.2.2.2,.d (.ro r.1.Kids.n r.1.Kids.xs)]∧hp'=[.box 130 [S r.2.s,S r.2.tok.kind,I r.2.tok.v_at,I r.2.tok.v_end,S r.2.tok.name,I r.2.tok.value.Kind,I r.2.tok.value.Number,S r.2.tok.value.Words,I r.2.tok.value.Version.1,I r.2.tok.value.Version.2.1,I r.2.tok.value.Version.2.2.1,I r.2.tok.value.Version.2.2.2,B r.2.bad,I r.2.v_at]]){k:Nat}{p:Kxh}{r:Kxi×Kxh}(h:Laf rc_posture_parser_cond k p=some r):EC Tryz.prog 132 [.ptr 0 0] [.box 130 [S p.s,S p.tok.kind,I p.tok.v_at,I p.tok.v_end,S p.tok.name,I p.tok.value.Kind,I p.tok.value.Number,S p.tok.value.Words,I p.tok.value.Version.1,I p.tok.value.Version.2.1,I p.tok.value.Version.2.2.1,I p.tok.value.Version.2.2.2,B p.bad,I p.v_at]] fun g hp'=>g=.agg [I r.1.Kind,S r.1.Name,S r.1.Op,I r.1.Value.Kind,I r.1.Value.Number,S r.1.Value.Words,I r.1.Value.Version.1,I r.1.Value.Version.2.1,I r.1.Value.Version.2.2.1,I r.1.Value.Version.2.2.2,.d (.ro r.1.Kids.n r.1.Kids.xs)]∧hp'=[.box 130 [S r.2.s,S r.2.tok.kind,I r.2.tok.v_at,I r.2.tok.v_end,S r.2.tok.name,I r.2.tok.value.Kind,I r.2.tok.value.Number,S r.2.tok.value.Words,I r.2.tok.value.Version.1,I r.2.tok.value.Version.2.1,I r.2.tok.value.Version.2.2.1,I r.2.tok.value.Version.2.2.2,B r.2.bad,I r.2.v_at]]:=by
 unfold Laf at h
 refine QN Tryz.func132 E Z<|gA 2 E<|Kov hΓ E E E Z<|bK h fun y1 hy1 h2=>gO 5 E<|Khc [0] (.agg [I y1.1.Kind,S y1.1.Name,S y1.1.Op,I y1.1.Value.Kind,I y1.1.Value.Number,S y1.1.Value.Words,I y1.1.Value.Version.1,I y1.1.Value.Version.2.1,I y1.1.Value.Version.2.2.1,I y1.1.Value.Version.2.2.2,.d (.ro y1.1.Kids.n y1.1.Kids.xs)]) [.box 130 [S y1.2.s,S y1.2.tok.kind,I y1.2.tok.v_at,I y1.2.tok.v_end,S y1.2.tok.name,I y1.2.tok.value.Kind,I y1.2.tok.value.Number,S y1.2.tok.value.Words,I y1.2.tok.value.Version.1,I y1.2.tok.value.Version.2.1,I y1.2.tok.value.Version.2.2.1,I y1.2.tok.value.Version.2.2.2,B y1.2.bad,I y1.2.v_at],.box 47 [I 0,S [],S [],I 0,I 0,S [],I 0,I 0,I 0,I 0,.d (.ro (KD.mk 0 []).n (KD.mk 0 []).xs)]] C (Lbg ih_posture_parser_cond hy1) E Z E E E E E E E E E E<|Kgz hΓ (enc:=Kxj) [y1.1] E E E E E E E E E E E E Z<|gO 4 E<|bK h2 fun q6 hq6 h7=>Kjy [(2,.ptr 1 0),(3,.sl 2 q6.2.length)] [.box 130 [S q6.1.s,S q6.1.tok.kind,I q6.1.tok.v_at,I q6.1.tok.v_end,S q6.1.tok.name,I q6.1.tok.value.Kind,I q6.1.tok.value.Number,S q6.1.tok.value.Words,I q6.1.tok.value.Version.1,I q6.1.tok.value.Version.2.1,I q6.1.tok.value.Version.2.2.1,I q6.1.tok.value.Version.2.2.2,B q6.1.bad,I q6.1.v_at],.box 47 [I 0,S [],S [],I 0,I 0,S [],I 0,I 0,I 0,I 0,.d (.ro (KD.mk 0 []).n (KD.mk 0 []).xs)],rO 47 11 Kxj q6.2] ?_ ?_
 ·refine gA 1 E<|Kgm hq6 (fun s4=>[(0,.ptr 0 0),(2,.ptr 1 0),(3,.sl 2 s4.2.length)]) (fun s4=>[.box 130 [S s4.1.s,S s4.1.tok.kind,I s4.1.tok.v_at,I s4.1.tok.v_end,S s4.1.tok.name,I s4.1.tok.value.Kind,I s4.1.tok.value.Number,S s4.1.tok.value.Words,I s4.1.tok.value.Version.1,I s4.1.tok.value.Version.2.1,I s4.1.tok.value.Version.2.2.1,I s4.1.tok.value.Version.2.2.2,B s4.1.bad,I s4.1.v_at],.box 47 [I 0,S [],S [],I 0,I 0,S [],I 0,I 0,I 0,I 0,.d (.ro (KD.mk 0 []).n (KD.mk 0 []).xs)],rO 47 11 Kxj s4.2]) ⟨⟨E,E,E,tV⟩,[],E,.inl E⟩ (fun s4 y12 hy10 hout11=>?_)
  refine gA 9 E<|Kgf 7 [(0,.ptr 0 0),(2,.ptr 1 0),(3,.sl 2 s4.2.length),(19,B ((!s4.1.bad)&&((s4.1.tok.kind:Str)==[38,38])))] [.box 130 [S s4.1.s,S s4.1.tok.kind,I s4.1.tok.v_at,I s4.1.tok.v_end,S s4.1.tok.name,I s4.1.tok.value.Kind,I s4.1.tok.value.Number,S s4.1.tok.value.Words,I s4.1.tok.value.Version.1,I s4.1.tok.value.Version.2.1,I s4.1.tok.value.Version.2.2.1,I s4.1.tok.value.Version.2.2.2,B s4.1.bad,I s4.1.v_at],.box 47 [I 0,S [],S [],I 0,I 0,S [],I 0,I 0,I 0,I 0,.d (.ro (KD.mk 0 []).n (KD.mk 0 []).xs)],rO 47 11 Kxj s4.2] ?_ ?_
  ·refine Kno E E (fun hb=>?_) (fun hb=>?_)
   ·exact gO 8 E<|⟨⟨E,E,E,Kfi E (Khw hb),tV⟩,[],E,.inl E⟩
   exact gO 8 E<|⟨⟨E,E,E,Kfi E (Khx hb),tV⟩,[],E,.inl E⟩
  refine gO 2 E<|jC E hy10 (fun h13=>?_) fun h20=>gA 4 E ?_
  ·exact bK h13 fun y14 hy14 h15=>gA 6 E<|Khc [0] (.tup []) [.box 130 [S y14.s,S y14.tok.kind,I y14.tok.v_at,I y14.tok.v_end,S y14.tok.name,I y14.tok.value.Kind,I y14.tok.value.Number,S y14.tok.value.Words,I y14.tok.value.Version.1,I y14.tok.value.Version.2.1,I y14.tok.value.Version.2.2.1,I y14.tok.value.Version.2.2.2,B y14.bad,I y14.v_at],.box 47 [I 0,S [],S [],I 0,I 0,S [],I 0,I 0,I 0,I 0,.d (.ro (KD.mk 0 []).n (KD.mk 0 []).xs)],rO 47 11 Kxj s4.2] C (Lbc hy14) E Z E E E E E E E E E E<|bK h15 fun y16 hy16 h17=>gO 5 E<|Khc [0] (.agg [I y16.1.Kind,S y16.1.Name,S y16.1.Op,I y16.1.Value.Kind,I y16.1.Value.Number,S y16.1.Value.Words,I y16.1.Value.Version.1,I y16.1.Value.Version.2.1,I y16.1.Value.Version.2.2.1,I y16.1.Value.Version.2.2.2,.d (.ro y16.1.Kids.n y16.1.Kids.xs)]) [.box 130 [S y16.2.s,S y16.2.tok.kind,I y16.2.tok.v_at,I y16.2.tok.v_end,S y16.2.tok.name,I y16.2.tok.value.Kind,I y16.2.tok.value.Number,S y16.2.tok.value.Words,I y16.2.tok.value.Version.1,I y16.2.tok.value.Version.2.1,I y16.2.tok.value.Version.2.2.1,I y16.2.tok.value.Version.2.2.2,B y16.2.bad,I y16.2.v_at],.box 47 [I 0,S [],S [],I 0,I 0,S [],I 0,I 0,I 0,I 0,.d (.ro (KD.mk 0 []).n (KD.mk 0 []).xs)],rO 47 11 Kxj s4.2] C (Lbg ih_posture_parser_cond hy16) E Z E E E E E E E E E E<|Kgx hΓ (enc:=Kxj) [y16.1] E E E E E E E E E E E E Z<|bK h17 fun y18 hy18 h19=>Khl hΓ (enc:=Kxj) hy18 E E E E E E E E E (fun _=>E) E E E E<|gO 3 E<|oSi h19▸⟨_,E,⟨⟨E,E,E,tV⟩,[],E,.inl E⟩⟩
  cases h20
  obtain rfl:=hout11 _ rfl
  exact⟨⟨E,E,tV⟩,[],E,.inl E⟩
 exact bK h7 fun y21 hy21 h22=>gA 4 E<|Khj 2 [3,27] _ [.box 130 [S q6.1.s,S q6.1.tok.kind,I q6.1.tok.v_at,I q6.1.tok.v_end,S q6.1.tok.name,I q6.1.tok.value.Kind,I q6.1.tok.value.Number,S q6.1.tok.value.Words,I q6.1.tok.value.Version.1,I q6.1.tok.value.Version.2.1,I q6.1.tok.value.Version.2.2.1,I q6.1.tok.value.Version.2.2.2,B q6.1.bad,I q6.1.v_at],.box 47 [I 0,S [],S [],I 0,I 0,S [],I 0,I 0,I 0,I 0,.d (.ro (KD.mk 0 []).n (KD.mk 0 []).xs)],.dead] E E E Z<|Khd C (Lbh hy21) E Z E E E E E<|Kpa hΓ E E E E E E E E Z<|Khk [.box 130 [S q6.1.s,S q6.1.tok.kind,I q6.1.tok.v_at,I q6.1.tok.v_end,S q6.1.tok.name,I q6.1.tok.value.Kind,I q6.1.tok.value.Number,S q6.1.tok.value.Words,I q6.1.tok.value.Version.1,I q6.1.tok.value.Version.2.1,I q6.1.tok.value.Version.2.2.1,I q6.1.tok.value.Version.2.2.2,B q6.1.bad,I q6.1.v_at],.box 47 [I y21.Kind,S y21.Name,S y21.Op,I y21.Value.Kind,I y21.Value.Number,S y21.Value.Words,I y21.Value.Version.1,I y21.Value.Version.2.1,I y21.Value.Version.2.2.1,I y21.Value.Version.2.2.2,.d (.ro y21.Kids.n y21.Kids.xs)],.dead] E<|gO 3 E<|oSi h22▸Khr hΓ [_,_] (.inr E) E E E E (.inr ⟨HB.mk E,E⟩)
theorem Lbj{k:Nat}{p:Kxh}{r:Kxi×Kxh}(h:Lag k p=some r):EC Tryz.prog 94 [.ptr 0 0] [.box 130 [S p.s,S p.tok.kind,I p.tok.v_at,I p.tok.v_end,S p.tok.name,I p.tok.value.Kind,I p.tok.value.Number,S p.tok.value.Words,I p.tok.value.Version.1,I p.tok.value.Version.2.1,I p.tok.value.Version.2.2.1,I p.tok.value.Version.2.2.2,B p.bad,I p.v_at]] fun g hp'=>g=.agg [I r.1.Kind,S r.1.Name,S r.1.Op,I r.1.Value.Kind,I r.1.Value.Number,S r.1.Value.Words,I r.1.Value.Version.1,I r.1.Value.Version.2.1,I r.1.Value.Version.2.2.1,I r.1.Value.Version.2.2.2,.d (.ro r.1.Kids.n r.1.Kids.xs)]∧hp'=[.box 130 [S r.2.s,S r.2.tok.kind,I r.2.tok.v_at,I r.2.tok.v_end,S r.2.tok.name,I r.2.tok.value.Kind,I r.2.tok.value.Number,S r.2.tok.value.Words,I r.2.tok.value.Version.1,I r.2.tok.value.Version.2.1,I r.2.tok.value.Version.2.2.1,I r.2.tok.value.Version.2.2.2,B r.2.bad,I r.2.v_at]]:=by
 induction k generalizing p r with
 | zero=>unfold Lag at h;cases h
 | succ k ih0=>
  have ih:∀ {p:Kxh} {r:Kxi×Kxh},Lag k p=some r→EC Tryz.prog 94 [.ptr 0 0] [.box 130 [S p.s,S p.tok.kind,I p.tok.v_at,I p.tok.v_end,S p.tok.name,I p.tok.value.Kind,I p.tok.value.Number,S p.tok.value.Words,I p.tok.value.Version.1,I p.tok.value.Version.2.1,I p.tok.value.Version.2.2.1,I p.tok.value.Version.2.2.2,B p.bad,I p.v_at]] fun g hp'=>g=.agg [I r.1.Kind,S r.1.Name,S r.1.Op,I r.1.Value.Kind,I r.1.Value.Number,S r.1.Value.Words,I r.1.Value.Version.1,I r.1.Value.Version.2.1,I r.1.Value.Version.2.2.1,I r.1.Value.Version.2.2.2,.d (.ro r.1.Kids.n r.1.Kids.xs)]∧hp'=[.box 130 [S r.2.s,S r.2.tok.kind,I r.2.tok.v_at,I r.2.tok.v_end,S r.2.tok.name,I r.2.tok.value.Kind,I r.2.tok.value.Number,S r.2.tok.value.Words,I r.2.tok.value.Version.1,I r.2.tok.value.Version.2.1,I r.2.tok.value.Version.2.2.1,I r.2.tok.value.Version.2.2.2,B r.2.bad,I r.2.v_at]]:=by intro p r h;first | exact ih0 h | exact ih0 _ _ h
  refine Kng (Fr.of 0 _) Tryz.func94 E (Fr.of_ok _) Z fun _=>?_
  refine Kfy ?_
  unfold Lag at h
  refine gA 2 E ?_
  refine Kov hΓ E E E Z ?_
  obtain⟨y1,hy1,h2⟩:=Kgg h
  refine gO 5 E ?_
  refine Khc [0] (.agg [I y1.1.Kind,S y1.1.Name,S y1.1.Op,I y1.1.Value.Kind,I y1.1.Value.Number,S y1.1.Value.Words,I y1.1.Value.Version.1,I y1.1.Value.Version.2.1,I y1.1.Value.Version.2.2.1,I y1.1.Value.Version.2.2.2,.d (.ro y1.1.Kids.n y1.1.Kids.xs)]) [.box 130 [S y1.2.s,S y1.2.tok.kind,I y1.2.tok.v_at,I y1.2.tok.v_end,S y1.2.tok.name,I y1.2.tok.value.Kind,I y1.2.tok.value.Number,S y1.2.tok.value.Words,I y1.2.tok.value.Version.1,I y1.2.tok.value.Version.2.1,I y1.2.tok.value.Version.2.2.1,I y1.2.tok.value.Version.2.2.2,B y1.2.bad,I y1.2.v_at],.box 47 [I 0,S [],S [],I 0,I 0,S [],I 0,I 0,I 0,I 0,.d (.ro (KD.mk 0 []).n (KD.mk 0 []).xs)]] C (Lbi ih hy1) E Z E E E E E E E E E E ?_
  refine Kgz hΓ (enc:=Kxj) [y1.1] E E E E E E E E E E E E Z ?_
  refine gO 4 E ?_
  obtain⟨q6,hq6,h7⟩:=Kgg h2
  refine Kjy [(2,.ptr 1 0),(3,.sl 2 q6.2.length)] [.box 130 [S q6.1.s,S q6.1.tok.kind,I q6.1.tok.v_at,I q6.1.tok.v_end,S q6.1.tok.name,I q6.1.tok.value.Kind,I q6.1.tok.value.Number,S q6.1.tok.value.Words,I q6.1.tok.value.Version.1,I q6.1.tok.value.Version.2.1,I q6.1.tok.value.Version.2.2.1,I q6.1.tok.value.Version.2.2.2,B q6.1.bad,I q6.1.v_at],.box 47 [I 0,S [],S [],I 0,I 0,S [],I 0,I 0,I 0,I 0,.d (.ro (KD.mk 0 []).n (KD.mk 0 []).xs)],rO 47 11 Kxj q6.2] ?_ ?_
  ·refine gA 1 E ?_
   refine Kgm hq6 (fun s4=>[(0,.ptr 0 0),(2,.ptr 1 0),(3,.sl 2 s4.2.length)]) (fun s4=>[.box 130 [S s4.1.s,S s4.1.tok.kind,I s4.1.tok.v_at,I s4.1.tok.v_end,S s4.1.tok.name,I s4.1.tok.value.Kind,I s4.1.tok.value.Number,S s4.1.tok.value.Words,I s4.1.tok.value.Version.1,I s4.1.tok.value.Version.2.1,I s4.1.tok.value.Version.2.2.1,I s4.1.tok.value.Version.2.2.2,B s4.1.bad,I s4.1.v_at],.box 47 [I 0,S [],S [],I 0,I 0,S [],I 0,I 0,I 0,I 0,.d (.ro (KD.mk 0 []).n (KD.mk 0 []).xs)],rO 47 11 Kxj s4.2]) ⟨⟨E,E,E,tV⟩,[],E,.inl E⟩ (fun s4 y12 hy10 hout11=>?_)
   refine gA 9 E ?_
   refine Kgf 7 [(0,.ptr 0 0),(2,.ptr 1 0),(3,.sl 2 s4.2.length),(19,B ((!s4.1.bad)&&((s4.1.tok.kind:Str)==[124,124])))] [.box 130 [S s4.1.s,S s4.1.tok.kind,I s4.1.tok.v_at,I s4.1.tok.v_end,S s4.1.tok.name,I s4.1.tok.value.Kind,I s4.1.tok.value.Number,S s4.1.tok.value.Words,I s4.1.tok.value.Version.1,I s4.1.tok.value.Version.2.1,I s4.1.tok.value.Version.2.2.1,I s4.1.tok.value.Version.2.2.2,B s4.1.bad,I s4.1.v_at],.box 47 [I 0,S [],S [],I 0,I 0,S [],I 0,I 0,I 0,I 0,.d (.ro (KD.mk 0 []).n (KD.mk 0 []).xs)],rO 47 11 Kxj s4.2] ?_ ?_
   ·refine Kno E E (fun hb=>?_) (fun hb=>?_)
    ·refine gO 8 E ?_
     exact⟨⟨E,E,E,Kfi E (Khw hb),tV⟩,[],E,.inl E⟩
    refine gO 8 E ?_
    exact⟨⟨E,E,E,Kfi E (Khx hb),tV⟩,[],E,.inl E⟩
   refine gO 2 E ?_
   refine Kfz E (fun hb=>?_) (fun hb=>?_)
   ·have h13:=cT hy10 hb
    obtain⟨y14,hy14,h15⟩:=Kgg h13
    refine gA 6 E ?_
    refine Khc [0] (.tup []) [.box 130 [S y14.s,S y14.tok.kind,I y14.tok.v_at,I y14.tok.v_end,S y14.tok.name,I y14.tok.value.Kind,I y14.tok.value.Number,S y14.tok.value.Words,I y14.tok.value.Version.1,I y14.tok.value.Version.2.1,I y14.tok.value.Version.2.2.1,I y14.tok.value.Version.2.2.2,B y14.bad,I y14.v_at],.box 47 [I 0,S [],S [],I 0,I 0,S [],I 0,I 0,I 0,I 0,.d (.ro (KD.mk 0 []).n (KD.mk 0 []).xs)],rO 47 11 Kxj s4.2] C (Lbc hy14) E Z E E E E E E E E E E ?_
    obtain⟨y16,hy16,h17⟩:=Kgg h15
    refine gO 5 E ?_
    refine Khc [0] (.agg [I y16.1.Kind,S y16.1.Name,S y16.1.Op,I y16.1.Value.Kind,I y16.1.Value.Number,S y16.1.Value.Words,I y16.1.Value.Version.1,I y16.1.Value.Version.2.1,I y16.1.Value.Version.2.2.1,I y16.1.Value.Version.2.2.2,.d (.ro y16.1.Kids.n y16.1.Kids.xs)]) [.box 130 [S y16.2.s,S y16.2.tok.kind,I y16.2.tok.v_at,I y16.2.tok.v_end,S y16.2.tok.name,I y16.2.tok.value.Kind,I y16.2.tok.value.Number,S y16.2.tok.value.Words,I y16.2.tok.value.Version.1,I y16.2.tok.value.Version.2.1,I y16.2.tok.value.Version.2.2.1,I y16.2.tok.value.Version.2.2.2,B y16.2.bad,I y16.2.v_at],.box 47 [I 0,S [],S [],I 0,I 0,S [],I 0,I 0,I 0,I 0,.d (.ro (KD.mk 0 []).n (KD.mk 0 []).xs)],rO 47 11 Kxj s4.2] C (Lbi ih hy16) E Z E E E E E E E E E E ?_
    refine Kgx hΓ (enc:=Kxj) [y16.1] E E E E E E E E E E E E Z ?_
    obtain⟨y18,hy18,h19⟩:=Kgg h17
    refine Khl hΓ (enc:=Kxj) hy18 E E E E E E E E E (fun _=>E) E E E E ?_
    refine gO 3 E ?_
    obtain rfl:=oSi h19
    exact⟨_,E,⟨⟨E,E,E,tV⟩,[],E,.inl E⟩⟩
   have h20:=cF hy10 hb
   refine gA 4 E ?_
   obtain rfl:=oSi h20
   obtain rfl:=hout11 _ rfl
   exact⟨⟨E,E,tV⟩,[],E,.inl E⟩
  obtain⟨y21,hy21,h22⟩:=Kgg h7
  refine gA 4 E ?_
  refine Khj 2 [3,27] _ [.box 130 [S q6.1.s,S q6.1.tok.kind,I q6.1.tok.v_at,I q6.1.tok.v_end,S q6.1.tok.name,I q6.1.tok.value.Kind,I q6.1.tok.value.Number,S q6.1.tok.value.Words,I q6.1.tok.value.Version.1,I q6.1.tok.value.Version.2.1,I q6.1.tok.value.Version.2.2.1,I q6.1.tok.value.Version.2.2.2,B q6.1.bad,I q6.1.v_at],.box 47 [I 0,S [],S [],I 0,I 0,S [],I 0,I 0,I 0,I 0,.d (.ro (KD.mk 0 []).n (KD.mk 0 []).xs)],.dead] E E E Z ?_
  refine Khd C (Lbh hy21) E Z E E E E E ?_
  refine Kpa hΓ E E E E E E E E Z ?_
  refine Khk [.box 130 [S q6.1.s,S q6.1.tok.kind,I q6.1.tok.v_at,I q6.1.tok.v_end,S q6.1.tok.name,I q6.1.tok.value.Kind,I q6.1.tok.value.Number,S q6.1.tok.value.Words,I q6.1.tok.value.Version.1,I q6.1.tok.value.Version.2.1,I q6.1.tok.value.Version.2.2.1,I q6.1.tok.value.Version.2.2.2,B q6.1.bad,I q6.1.v_at],.box 47 [I y21.Kind,S y21.Name,S y21.Op,I y21.Value.Kind,I y21.Value.Number,S y21.Value.Words,I y21.Value.Version.1,I y21.Value.Version.2.1,I y21.Value.Version.2.2.1,I y21.Value.Version.2.2.2,.d (.ro y21.Kids.n y21.Kids.xs)],.dead] E ?_
  refine gO 3 E ?_
  obtain rfl:=oSi h22
  exact Khr hΓ [_,_] (.inr E) E E E E (.inr ⟨HB.mk E,E⟩)
theorem Lbk{k:Nat}{c:Kxi}{r:Int×Int}(h:Lah k c=some r):Pure Tryz.prog 59 [.agg [I c.Kind,S c.Name,S c.Op,I c.Value.Kind,I c.Value.Number,S c.Value.Words,I c.Value.Version.1,I c.Value.Version.2.1,I c.Value.Version.2.2.1,I c.Value.Version.2.2.2,.d (.ro c.Kids.n c.Kids.xs)]] (.tup [I r.1,I r.2]):=by
 induction k generalizing c r with
 | zero=>unfold Lah at h;cases h
 | succ k ih0=>
  have ih:∀ {c:Kxi} {r:Int×Int},Lah k c=some r→Pure Tryz.prog 59 [.agg [I c.Kind,S c.Name,S c.Op,I c.Value.Kind,I c.Value.Number,S c.Value.Words,I c.Value.Version.1,I c.Value.Version.2.1,I c.Value.Version.2.2.1,I c.Value.Version.2.2.2,.d (.ro c.Kids.n c.Kids.xs)]] (.tup [I r.1,I r.2]):=by intro c r h;first | exact ih0 h | exact ih0 _ _ h
  refine Pure.enter (Fr.of 0 _) Tryz.func59 E (Fr.of_ok _) E E ?_
  refine Kfy ?_
  unfold Lah at h
  refine gA 2 E ?_
  refine Kow E E E E Z ?_
  obtain⟨q1,hq1,h2⟩:=Kgg h
  refine gO 12 E ?_
  refine Kjy [(1,.ptr 0 0),(2,I q1),(3,I 0)] [.box 47 [I c.Kind,S c.Name,S c.Op,I c.Value.Kind,I c.Value.Number,S c.Value.Words,I c.Value.Version.1,I c.Value.Version.2.1,I c.Value.Version.2.2.1,I c.Value.Version.2.2.2,.d (.ro c.Kids.n c.Kids.xs)]] ?_ ?_
  ·refine Kfz E (fun hb=>?_) (fun hb=>?_)
   ·have h3:=cT hq1 hb
    refine gA 3 E ?_
    obtain rfl:=oSi h3
    exact⟨⟨E,E,E,tV⟩,[],E,.inl E⟩
   have h4:=cF hq1 hb
   refine gA 1 E ?_
   obtain rfl:=oSi h4
   exact⟨⟨E,E,E,tV⟩,[],E,.inl E⟩
  obtain⟨l5,hl5,h6⟩:=Kgg h2
  refine gA 5 E ?_
  refine eo_o E (Kkv (Koi hΓ (g:=.d (.ro c.Kids.n c.Kids.xs)) E) (G.Le.unk Lar hl5)) ?_
  refine gO 4 E ?_
  obtain⟨q10,hq10,h11⟩:=Kgg h6
  refine Kgp 12 E fun hb13=>?_
  refine Kjy [(2,I q10.1),(3,I q10.2)] [.box 47 [I c.Kind,S c.Name,S c.Op,I c.Value.Kind,I c.Value.Number,S c.Value.Words,I c.Value.Version.1,I c.Value.Version.2.1,I c.Value.Version.2.2.1,I c.Value.Version.2.2.2,.d (.ro c.Kids.n c.Kids.xs)]] ?_ ?_
  ·refine gA 1 E ?_
   refine Kht l5 hq10 (fun i7 s8=>[(2,I s8.1),(3,I s8.2),(12,.d (Sl Kxj l5)),(13,I (l5.length:Int)),(14,I (i7:Int))]) (fun s8=>[.box 47 [I c.Kind,S c.Name,S c.Op,I c.Value.Kind,I c.Value.Number,S c.Value.Words,I c.Value.Version.1,I c.Value.Version.2.1,I c.Value.Version.2.2.1,I c.Value.Version.2.2.2,.d (.ro c.Kids.n c.Kids.xs)]]) ⟨⟨E,E,E,E,E,tV⟩,[],E,.inl E⟩ (fun i7 x9 s8 y17 hx14 hlt hy15=>?_) (?_)
   ·refine gA 6 E ?_
    refine Kga E (dT (Int.ofNat_lt.2 hlt)) ?_
    refine gA 6 E ?_
    refine eo_o E (Kgq hΓ (enc:=Kxj) (Kgj hx14) E E E E E (fun _=>E)) ?_
    refine gO 1 E ?_
    refine Kov hΓ E E E Z ?_
    refine Kpa hΓ E E E E E E E E Z ?_
    refine Khk [.box 47 [I c.Kind,S c.Name,S c.Op,I c.Value.Kind,I c.Value.Number,S c.Value.Words,I c.Value.Version.1,I c.Value.Version.2.1,I c.Value.Version.2.2.1,I c.Value.Version.2.2.2,.d (.ro c.Kids.n c.Kids.xs)],.box 47 [I x9.Kind,S x9.Name,S x9.Op,I x9.Value.Kind,I x9.Value.Number,S x9.Value.Words,I x9.Value.Version.1,I x9.Value.Version.2.1,I x9.Value.Version.2.2.1,I x9.Value.Version.2.2.2,.d (.ro x9.Kids.n x9.Kids.xs)]] E ?_
    obtain⟨y18,hy18,h19⟩:=Kgg hy15
    refine gO 5 E ?_
    refine Khd C (ih hy18) E Z E E E E E ?_
    refine gO 23 E ?_
    obtain rfl:=oSi h19
    exact⟨⟨E,E,E,E,Kfh E (Kfg (nLl hlt hb13)),tV⟩,[_],E,.inr ⟨HB.mk E,FB.mk E,Z⟩⟩
   refine gA 6 E ?_
   refine Kgb E (dF (Int.lt_irrefl _)) ?_
   refine gA 4 E ?_
   exact⟨⟨E,E,tV⟩,[],E,.inl E⟩
  refine gA 11 E ?_
  obtain rfl:=oSi h11
  exact gP E E
theorem Lbl{v_k:Kxi}{x:Kxi}{r:Bool}(h:Lai v_k x=some r):EC Tryz.prog 138 [.agg [I v_k.Kind,S v_k.Name,S v_k.Op,I v_k.Value.Kind,I v_k.Value.Number,S v_k.Value.Words,I v_k.Value.Version.1,I v_k.Value.Version.2.1,I v_k.Value.Version.2.2.1,I v_k.Value.Version.2.2.2,.d (.ro v_k.Kids.n v_k.Kids.xs)],.ptr 0 0] [.box 47 [I x.Kind,S x.Name,S x.Op,I x.Value.Kind,I x.Value.Number,S x.Value.Words,I x.Value.Version.1,I x.Value.Version.2.1,I x.Value.Version.2.2.1,I x.Value.Version.2.2.2,.d (.ro x.Kids.n x.Kids.xs)]] fun g hp'=>g=B r∧hp'=[.box 47 [I x.Kind,S x.Name,S x.Op,I x.Value.Kind,I x.Value.Number,S x.Value.Words,I x.Value.Version.1,I x.Value.Version.2.1,I x.Value.Version.2.2.1,I x.Value.Version.2.2.2,.d (.ro x.Kids.n x.Kids.xs)]]:=by
 unfold Lai at h
 exact QN Tryz.func138 E Z<|gA 2 E<|Kow E E E E Z<|gO 14 E<|oSi h▸Khr hΓ [_] (.inr E) E E E E (.inr ⟨HB.mk E,E⟩)
theorem Lbm{s:List Kxi}{f:Kxi}{r:Int}(h:Laj s f=some r):EC Tryz.prog 186 [.d (Sl Kxj s),.fn (.func 138) [] [.ptr 0 0]] [.box 47 [I f.Kind,S f.Name,S f.Op,I f.Value.Kind,I f.Value.Number,S f.Value.Words,I f.Value.Version.1,I f.Value.Version.2.1,I f.Value.Version.2.2.1,I f.Value.Version.2.2.2,.d (.ro f.Kids.n f.Kids.xs)]] fun g hp'=>g=I r∧hp'=[.box 47 [I f.Kind,S f.Name,S f.Op,I f.Value.Kind,I f.Value.Number,S f.Value.Words,I f.Value.Version.1,I f.Value.Version.2.1,I f.Value.Version.2.2.1,I f.Value.Version.2.2.2,.d (.ro f.Kids.n f.Kids.xs)]]:=by
 unfold Laj at h
 refine QN Tryz.func186 E Z<|gA 13 E<|bK h fun q4 hq4 h5=>Kgp 0 E fun hb7=>Kjx (R:=fun a6=>q4=.go a6) (fun a6=>[]) (fun a6=>[.box 47 [I f.Kind,S f.Name,S f.Op,I f.Value.Kind,I f.Value.Number,S f.Value.Words,I f.Value.Version.1,I f.Value.Version.2.1,I f.Value.Version.2.2.1,I f.Value.Version.2.2.2,.d (.ro f.Kids.n f.Kids.xs)]]) ?_ ?_
 ·refine gA 1 E<|Kgo s hq4 (fun i1 s2=>[(0,.d (Sl Kxj s)),(1,.fn (.func 138) [] [.ptr 0 0]),(7,I (s.length:Int)),(8,I (i1:Int))]) (fun s2=>[.box 47 [I f.Kind,S f.Name,S f.Op,I f.Value.Kind,I f.Value.Number,S f.Value.Words,I f.Value.Version.1,I f.Value.Version.2.1,I f.Value.Version.2.2.1,I f.Value.Version.2.2.2,.d (.ro f.Kids.n f.Kids.xs)]]) ⟨⟨E,E,E,E,tV⟩,[],E,.inl E⟩ (fun i1 x3 s2 y11 hx8 hlt hy9 hout10=>?_) (fun s2 hgo=>?_)
  ·refine gA 6 E<|Kga E (dT (Int.ofNat_lt.2 hlt))<|gA 15 E<|eo_o E (Kgq hΓ (enc:=Kxj) (Kgj hx8) E E E E E (fun _=>E))<|bK hy9 fun y12 hy12 h13=>gO 1 E<|Khc [0] (B y12) [.box 47 [I f.Kind,S f.Name,S f.Op,I f.Value.Kind,I f.Value.Number,S f.Value.Words,I f.Value.Version.1,I f.Value.Version.2.1,I f.Value.Version.2.2.1,I f.Value.Version.2.2.2,.d (.ro f.Kids.n f.Kids.xs)]] C (Lbl hy12) E Z E E E E E E E E E E<|gO 2 E<|jC E h13 (fun h14=>?_) fun h17=>gA 7 E ?_
   ·refine gA 9 E<|bK h14 fun v15 hv15 h16=>?_
    cases h16
    obtain rfl:=hout10 _ rfl
    cases h5
    exact gA 4 E<|oSi hv15▸Khr hΓ [] (.inr E) E E E E (.inl E)
   cases h17
   exact⟨_,E,⟨⟨E,E,E,Kfh E (Kfg (nLl hlt hb7)),tV⟩,[],E,.inl E⟩⟩
  subst hgo
  exact gA 6 E<|Kgb E (dF (Int.lt_irrefl _))<|gA 4 E<|⟨_,E,⟨tV,[],E,.inl E⟩⟩
 intro a6 ha
 subst ha
 replace h5:=Kju h5
 exact gA 7 E<|oSi h5▸Khr hΓ [] (.inr E) E E E E (.inl E)
theorem Lbn{s:List Kxi}{f:Kxi}{r:Bool}(h:Lak s f=some r):EC Tryz.prog 135 [.d (Sl Kxj s),.fn (.func 138) [] [.ptr 0 0]] [.box 47 [I f.Kind,S f.Name,S f.Op,I f.Value.Kind,I f.Value.Number,S f.Value.Words,I f.Value.Version.1,I f.Value.Version.2.1,I f.Value.Version.2.2.1,I f.Value.Version.2.2.2,.d (.ro f.Kids.n f.Kids.xs)]] fun g hp'=>g=B r∧hp'=[.box 47 [I f.Kind,S f.Name,S f.Op,I f.Value.Kind,I f.Value.Number,S f.Value.Words,I f.Value.Version.1,I f.Value.Version.2.1,I f.Value.Version.2.2.1,I f.Value.Version.2.2.2,.d (.ro f.Kids.n f.Kids.xs)]]:=by
 unfold Lak at h
 exact QN Tryz.func135 E Z<|bK h fun y1 hy1 h2=>gA 9 E<|Khc [0] (I y1) [.box 47 [I f.Kind,S f.Name,S f.Op,I f.Value.Kind,I f.Value.Number,S f.Value.Words,I f.Value.Version.1,I f.Value.Version.2.1,I f.Value.Version.2.2.1,I f.Value.Version.2.2.2,.d (.ro f.Kids.n f.Kids.xs)]] C (Lbm hy1) E Z E E E E E E E E E E<|gO 5 E<|oSi h2▸Khr hΓ [] (.inr E) E E E E (.inl E)
theorem Lbo{c:Kxi}{r:Bool}(h:Lal c=some r):Pure Tryz.prog 101 [.agg [I c.Kind,S c.Name,S c.Op,I c.Value.Kind,I c.Value.Number,S c.Value.Words,I c.Value.Version.1,I c.Value.Version.2.1,I c.Value.Version.2.2.1,I c.Value.Version.2.2.2,.d (.ro c.Kids.n c.Kids.xs)]] (B r):=by
 unfold Lal at h
 refine QP Tryz.func101 E E E<|gA 2 E<|Kow E E E E Z<|bK h fun l1 hl1 h2=>gO 6 E<|eo_o E (Kkv (Koi hΓ (g:=.d (.ro c.Kids.n c.Kids.xs)) E) (G.Le.unk Lar hl1))<|bK h2 fun q3 hq3 h4=>gO 11 E<|Kjz (q:=q3) (fun a5=>[(1,.ptr 0 0)]) (fun a5=>[.box 47 [I c.Kind,S c.Name,S c.Op,I c.Value.Kind,I c.Value.Number,S c.Value.Words,I c.Value.Version.1,I c.Value.Version.2.1,I c.Value.Version.2.2.1,I c.Value.Version.2.2.2,.d (.ro c.Kids.n c.Kids.xs)]]) ?_ ?_
 ·refine gA 7 E<|jC E hq3 (fun h6=>?_) fun h9=>gA 6 E<|jC E h9 (fun h10=>?_) fun h15=>?_
  ·refine gA 9 E<|bK h6 fun v7 hv7 h8=>?_
   cases h8
   cases h4
   exact gA 2 E<|oSi hv7▸gP E E
  ·refine gA 6 E<|jC E h10 (fun h11=>?_) fun h14=>gA 2 E<|oSi h14▸⟨_,E,⟨⟨E,tV⟩,[],E,.inl E⟩⟩
   refine gA 7 E<|bK h11 fun v12 hv12 h13=>?_
   cases h13
   cases h4
   exact gA 2 E<|oSi hv12▸gP E E
  refine gA 5 E<|bK h15 fun q16 hq16 h17=>Kgf 5 [(1,.ptr 0 0),(16,B q16)] [.box 47 [I c.Kind,S c.Name,S c.Op,I c.Value.Kind,I c.Value.Number,S c.Value.Words,I c.Value.Version.1,I c.Value.Version.2.1,I c.Value.Version.2.2.1,I c.Value.Version.2.2.2,.d (.ro c.Kids.n c.Kids.xs)]] ?_ ?_
  ·refine Kno E E (fun hb=>?_) (fun hb=>?_)
   ·have h18:=cT hq16 hb
    exact gO 6 E<|oSi h18▸⟨⟨E,E,tV⟩,[],E,.inl E⟩
   have h19:=cF hq16 hb
   exact bK h19 fun l20 hl20 h21=>gO 1 E<|Knm E<|eo_o E (Kkv (Koi hΓ (g:=.d (.ro c.Kids.n c.Kids.xs)) E) (G.Le.unk Lar hl20))<|bK h21 fun y22 hy22 h23=>gO 1 E<|Knm E<|Khc [0] (B y22) [.box 47 [I c.Kind,S c.Name,S c.Op,I c.Value.Kind,I c.Value.Number,S c.Value.Words,I c.Value.Version.1,I c.Value.Version.2.1,I c.Value.Version.2.2.1,I c.Value.Version.2.2.2,.d (.ro c.Kids.n c.Kids.xs)]] C (Lbn hy22) E Z E E E E E E E E E E<|gO 2 E<|oSi h23▸⟨⟨E,E,tV⟩,[],E,.inl E⟩
  refine gO 2 E<|jC E h17 (fun h24=>?_) fun h27=>gA 2 E<|oSi h27▸⟨_,E,⟨⟨E,tV⟩,[],E,.inl E⟩⟩
  refine gA 7 E<|bK h24 fun v25 hv25 h26=>?_
  cases h26
  cases h4
  exact gA 2 E<|oSi hv25▸gP E E
 intro a5 ha
 subst ha
 replace h4:=Kjt h4
 refine gA 7 E<|Kgf 4 [(1,.ptr 0 0),(32,B (((c.Name:Str)==[])&&((c.Op:Str)==[])))] [.box 47 [I c.Kind,S c.Name,S c.Op,I c.Value.Kind,I c.Value.Number,S c.Value.Words,I c.Value.Version.1,I c.Value.Version.2.1,I c.Value.Version.2.2.1,I c.Value.Version.2.2.2,.d (.ro c.Kids.n c.Kids.xs)]] ?_ ?_
 ·refine Kno E E (fun hb=>?_) (fun hb=>?_)
  ·exact gO 5 E<|⟨⟨E,Kfi E (Khw hb),tV⟩,[],E,.inl E⟩
  exact gO 5 E<|⟨⟨E,Kfi E (Khx hb),tV⟩,[],E,.inl E⟩
 refine gO 1 E<|Kgf 5 [(38,B ((((c.Name:Str)==[])&&((c.Op:Str)==[]))&&(((c.Value.Kind:Int)==0)&&(((c.Value.Number:Int)==0)&&(((c.Value.Words:Str)==[])&&(decide (([c.Value.Version.1,c.Value.Version.2.1,c.Value.Version.2.2.1,c.Value.Version.2.2.2]:List Int)=[0,0,0,0])&&true))))))] [.box 47 [I c.Kind,S c.Name,S c.Op,I c.Value.Kind,I c.Value.Number,S c.Value.Words,I c.Value.Version.1,I c.Value.Version.2.1,I c.Value.Version.2.2.1,I c.Value.Version.2.2.2,.d (.ro c.Kids.n c.Kids.xs)]] ?_ ?_
 ·refine Kno E E (fun hb=>?_) (fun hb=>?_)
  ·exact gO 2 E<|Knm E<|Keg hΓ (gs:=[I 0,I 0,S [],I 0,I 0,I 0,I 0]) E E E E E E E<|Knm E<|eo_o E (Kmc hΓ [40] (b:=(((c.Value.Kind:Int)==0)&&(((c.Value.Number:Int)==0)&&(((c.Value.Words:Str)==[])&&(decide (([c.Value.Version.1,c.Value.Version.2.1,c.Value.Version.2.2.1,c.Value.Version.2.2.2]:List Int)=[0,0,0,0])&&true))))) (by kernel_rfl) (by kernel_rfl) E E E)<|gO 2 E<|⟨⟨Kfi E (Khw hb),tV⟩,[],E,.inl E⟩
  exact gO 6 E<|⟨⟨Kfi E (Khx hb),tV⟩,[],E,.inl E⟩
 exact gO 4 E<|oSi h4▸gP E E
theorem Lbp{k:Nat}{c:Kxi}{r:Int}(h:Lam k c=some r):Pure Tryz.prog 60 [.agg [I c.Kind,S c.Name,S c.Op,I c.Value.Kind,I c.Value.Number,S c.Value.Words,I c.Value.Version.1,I c.Value.Version.2.1,I c.Value.Version.2.2.1,I c.Value.Version.2.2.2,.d (.ro c.Kids.n c.Kids.xs)]] (I r):=by
 induction k generalizing c r with
 | zero=>unfold Lam at h;cases h
 | succ k ih0=>
  have ih:∀ {c:Kxi} {r:Int},Lam k c=some r→Pure Tryz.prog 60 [.agg [I c.Kind,S c.Name,S c.Op,I c.Value.Kind,I c.Value.Number,S c.Value.Words,I c.Value.Version.1,I c.Value.Version.2.1,I c.Value.Version.2.2.1,I c.Value.Version.2.2.2,.d (.ro c.Kids.n c.Kids.xs)]] (I r):=by intro c r h;first | exact ih0 h | exact ih0 _ _ h
  refine Pure.enter (Fr.of 0 _) Tryz.func60 E (Fr.of_ok _) E E ?_
  refine Kfy ?_
  unfold Lam at h
  refine gA 2 E ?_
  refine Kow E E E E Z ?_
  obtain⟨y1,hy1,h2⟩:=Kgg h
  refine gO 8 E ?_
  refine Khd C (Lcm hy1) E Z E E E E E ?_
  refine gO 2 E ?_
  refine Kfz E (fun hb=>?_) (fun hb=>?_)
  ·have h3:=cT h2 hb
   refine gA 7 E ?_
   obtain rfl:=oSi h3
   exact gP E E
  have h4:=cF h2 hb
  obtain⟨y5,hy5,h6⟩:=Kgg h4
  refine gA 6 E ?_
  refine Khd C (Lbo hy5) E Z E E E E E ?_
  refine gO 3 E ?_
  refine Kfz E (fun hb=>?_) (fun hb=>?_)
  ·have h7:=cT h6 hb
   refine gA 7 E ?_
   obtain rfl:=oSi h7
   exact gP E E
  have h8:=cF h6 hb
  obtain⟨q9,hq9,h10⟩:=Kgg h8
  refine gA 10 E ?_
  refine Kjz (q:=q9) (fun a11=>[(1,.ptr 0 0)]) (fun a11=>[.box 47 [I c.Kind,S c.Name,S c.Op,I c.Value.Kind,I c.Value.Number,S c.Value.Words,I c.Value.Version.1,I c.Value.Version.2.1,I c.Value.Version.2.2.1,I c.Value.Version.2.2.2,.d (.ro c.Kids.n c.Kids.xs)]]) ?_ ?_
  ·refine Kfz E (fun hb=>?_) (fun hb=>?_)
   ·have h12:=cT hq9 hb
    obtain⟨y13,hy13,h14⟩:=Kgg h12
    refine gA 6 E ?_
    refine Khd C (Lcl hy13) E Z E E E E E ?_
    refine gO 2 E ?_
    refine Kgf 4 [(1,.ptr 0 0),(25,B ((!y13)||((c.Name:Str)==[116,114,117,101])))] [.box 47 [I c.Kind,S c.Name,S c.Op,I c.Value.Kind,I c.Value.Number,S c.Value.Words,I c.Value.Version.1,I c.Value.Version.2.1,I c.Value.Version.2.2.1,I c.Value.Version.2.2.2,.d (.ro c.Kids.n c.Kids.xs)]] ?_ ?_
    ·refine Kno E E (fun hb=>?_) (fun hb=>?_)
     ·refine gO 5 E ?_
      exact⟨⟨E,Kfi E (or_t hb),tV⟩,[],E,.inl E⟩
     refine gO 5 E ?_
     exact⟨⟨E,Kfi E (or_f hb),tV⟩,[],E,.inl E⟩
    refine gO 1 E ?_
    refine Kgf 4 [(1,.ptr 0 0),(30,B (((!y13)||((c.Name:Str)==[116,114,117,101]))||((c.Name:Str)==[102,97,108,115,101])))] [.box 47 [I c.Kind,S c.Name,S c.Op,I c.Value.Kind,I c.Value.Number,S c.Value.Words,I c.Value.Version.1,I c.Value.Version.2.1,I c.Value.Version.2.2.1,I c.Value.Version.2.2.2,.d (.ro c.Kids.n c.Kids.xs)]] ?_ ?_
    ·refine Kno E E (fun hb=>?_) (fun hb=>?_)
     ·refine gO 5 E ?_
      exact⟨⟨E,Kfi E (or_t hb),tV⟩,[],E,.inl E⟩
     refine gO 5 E ?_
     exact⟨⟨E,Kfi E (or_f hb),tV⟩,[],E,.inl E⟩
    refine gO 1 E ?_
    obtain⟨q15,hq15,h16⟩:=Kgg h14
    refine Kgf 4 [(1,.ptr 0 0),(35,B q15)] [.box 47 [I c.Kind,S c.Name,S c.Op,I c.Value.Kind,I c.Value.Number,S c.Value.Words,I c.Value.Version.1,I c.Value.Version.2.1,I c.Value.Version.2.2.1,I c.Value.Version.2.2.2,.d (.ro c.Kids.n c.Kids.xs)]] ?_ ?_
    ·refine Kno E E (fun hb=>?_) (fun hb=>?_)
     ·have h17:=cT hq15 hb
      refine gO 5 E ?_
      obtain rfl:=oSi h17
      exact⟨⟨E,E,tV⟩,[],E,.inl E⟩
     have h18:=cF hq15 hb
     obtain⟨y19,hy19,h20⟩:=Kgg h18
     refine gO 2 E ?_
     refine Knm E ?_
     refine Khd C (Ldw hy19) E Z E E E E E ?_
     refine gO 2 E ?_
     obtain rfl:=oSi h20
     exact⟨⟨E,E,tV⟩,[],E,.inl E⟩
    refine gO 3 E ?_
    refine Kfz E (fun hb=>?_) (fun hb=>?_)
    ·have h21:=cT h16 hb
     refine gA 8 E ?_
     obtain⟨v22,hv22,h23⟩:=Kgg h21
     obtain rfl:=oSi h23
     obtain rfl:=oSi h10
     refine gA 2 E ?_
     obtain rfl:=oSi hv22
     exact gP E E
    have h24:=cF h16 hb
    obtain⟨y25,hy25,h26⟩:=Kgg h24
    refine gA 4 E ?_
    refine Khd C (Lbe hy25) E Z E E E E E ?_
    refine gO 4 E ?_
    refine Kfz E (fun hb=>?_) (fun hb=>?_)
    ·have h27:=cT h26 hb
     refine gA 8 E ?_
     obtain⟨v28,hv28,h29⟩:=Kgg h27
     obtain rfl:=oSi h29
     obtain rfl:=oSi h10
     refine gA 2 E ?_
     obtain rfl:=oSi hv28
     exact gP E E
    have h30:=cF h26 hb
    obtain⟨y31,hy31,h32⟩:=Kgg h30
    refine gA 8 E ?_
    refine Khd C (Lco hy31) E Z E E E E E ?_
    refine gO 9 E ?_
    refine Kfz E (fun hb=>?_) (fun hb=>?_)
    ·have h33:=cT h32 hb
     refine gA 8 E ?_
     obtain⟨v34,hv34,h35⟩:=Kgg h33
     obtain rfl:=oSi h35
     obtain rfl:=oSi h10
     refine gA 2 E ?_
     obtain rfl:=oSi hv34
     exact gP E E
    have h36:=cF h32 hb
    refine gA 9 E ?_
    refine Kgf 4 [(1,.ptr 0 0),(55,B (((c.Value.Kind:Int)==3)&&(!((c.Op:Str)==[61,61]))))] [.box 47 [I c.Kind,S c.Name,S c.Op,I c.Value.Kind,I c.Value.Number,S c.Value.Words,I c.Value.Version.1,I c.Value.Version.2.1,I c.Value.Version.2.2.1,I c.Value.Version.2.2.2,.d (.ro c.Kids.n c.Kids.xs)]] ?_ ?_
    ·refine Kno E E (fun hb=>?_) (fun hb=>?_)
     ·refine gO 5 E ?_
      exact⟨⟨E,Kfi E (Khw hb),tV⟩,[],E,.inl E⟩
     refine gO 5 E ?_
     exact⟨⟨E,Kfi E (Khx hb),tV⟩,[],E,.inl E⟩
    refine gO 1 E ?_
    refine Kgf 4 [(1,.ptr 0 0),(60,B ((((c.Value.Kind:Int)==3)&&(!((c.Op:Str)==[61,61])))&&(!((c.Op:Str)==[33,61]))))] [.box 47 [I c.Kind,S c.Name,S c.Op,I c.Value.Kind,I c.Value.Number,S c.Value.Words,I c.Value.Version.1,I c.Value.Version.2.1,I c.Value.Version.2.2.1,I c.Value.Version.2.2.2,.d (.ro c.Kids.n c.Kids.xs)]] ?_ ?_
    ·refine Kno E E (fun hb=>?_) (fun hb=>?_)
     ·refine gO 5 E ?_
      exact⟨⟨E,Kfi E (Khw hb),tV⟩,[],E,.inl E⟩
     refine gO 5 E ?_
     exact⟨⟨E,Kfi E (Khx hb),tV⟩,[],E,.inl E⟩
    refine gO 2 E ?_
    refine Kfz E (fun hb=>?_) (fun hb=>?_)
    ·have h37:=cT h36 hb
     refine gA 6 E ?_
     obtain⟨v38,hv38,h39⟩:=Kgg h37
     obtain rfl:=oSi h39
     obtain rfl:=oSi h10
     refine gA 2 E ?_
     obtain rfl:=oSi hv38
     exact gP E E
    have h40:=cF h36 hb
    refine gA 1 E ?_
    obtain rfl:=oSi h40
    exact⟨_,E,⟨⟨E,tV⟩,[],E,.inl E⟩⟩
   have h41:=cF hq9 hb
   refine gA 1 E ?_
   obtain rfl:=oSi h41
   exact⟨_,E,⟨⟨E,tV⟩,[],E,.inl E⟩⟩
  intro a11 ha
  subst ha
  replace h10:=Kjt h10
  obtain⟨l42,hl42,h43⟩:=Kgg h10
  refine gA 5 E ?_
  refine eo_o E (Kkv (Koi hΓ (g:=.d (.ro c.Kids.n c.Kids.xs)) E) (G.Le.unk Lar hl42)) ?_
  refine gO 4 E ?_
  obtain⟨q47,hq47,h48⟩:=Kgg h43
  refine Kgp 62 E fun hb50=>?_
  refine Kjx (R:=fun a49=>q47=.go a49) (fun a49=>[]) (fun a49=>[.box 47 [I c.Kind,S c.Name,S c.Op,I c.Value.Kind,I c.Value.Number,S c.Value.Words,I c.Value.Version.1,I c.Value.Version.2.1,I c.Value.Version.2.2.1,I c.Value.Version.2.2.2,.d (.ro c.Kids.n c.Kids.xs)]]) ?_ ?_
  ·refine gA 1 E ?_
   refine Kgo l42 hq47 (fun i44 s45=>[(62,.d (Sl Kxj l42)),(63,I (l42.length:Int)),(64,I (i44:Int))]) (fun s45=>[.box 47 [I c.Kind,S c.Name,S c.Op,I c.Value.Kind,I c.Value.Number,S c.Value.Words,I c.Value.Version.1,I c.Value.Version.2.1,I c.Value.Version.2.2.1,I c.Value.Version.2.2.2,.d (.ro c.Kids.n c.Kids.xs)]]) ⟨⟨E,E,E,tV⟩,[],E,.inl E⟩ (fun i44 x46 s45 y54 hx51 hlt hy52 hout53=>?_) (fun s45 hgo=>?_)
   ·refine gA 6 E ?_
    refine Kga E (dT (Int.ofNat_lt.2 hlt)) ?_
    refine gA 6 E ?_
    refine eo_o E (Kgq hΓ (enc:=Kxj) (Kgj hx51) E E E E E (fun _=>E)) ?_
    refine gO 1 E ?_
    refine Kov hΓ E E E Z ?_
    refine Kpa hΓ E E E E E E E E Z ?_
    refine Khk [.box 47 [I c.Kind,S c.Name,S c.Op,I c.Value.Kind,I c.Value.Number,S c.Value.Words,I c.Value.Version.1,I c.Value.Version.2.1,I c.Value.Version.2.2.1,I c.Value.Version.2.2.2,.d (.ro c.Kids.n c.Kids.xs)],.box 47 [I x46.Kind,S x46.Name,S x46.Op,I x46.Value.Kind,I x46.Value.Number,S x46.Value.Words,I x46.Value.Version.1,I x46.Value.Version.2.1,I x46.Value.Version.2.2.1,I x46.Value.Version.2.2.2,.d (.ro x46.Kids.n x46.Kids.xs)]] E ?_
    obtain⟨y55,hy55,h56⟩:=Kgg hy52
    refine gO 5 E ?_
    refine Khd C (ih hy55) E Z E E E E E ?_
    refine gO 9 E ?_
    refine Kfz E (fun hb=>?_) (fun hb=>?_)
    ·have h57:=cT h56 hb
     refine gA 9 E ?_
     obtain⟨v58,hv58,h59⟩:=Kgg h57
     obtain rfl:=oSi h59
     obtain rfl:=hout53 _ rfl
     obtain rfl:=oSi h48
     refine gA 4 E ?_
     obtain rfl:=oSi hv58
     exact gP E E
    have h60:=cF h56 hb
    refine gA 7 E ?_
    obtain rfl:=oSi h60
    exact⟨_,E,⟨⟨E,E,Kfh E (Kfg (nLl hlt hb50)),tV⟩,[_],E,.inr ⟨HB.mk E,FB.mk E,Z⟩⟩⟩
   subst hgo
   refine gA 6 E ?_
   refine Kgb E (dF (Int.lt_irrefl _)) ?_
   refine gA 4 E ?_
   exact⟨_,E,⟨tV,[],E,.inl E⟩⟩
  intro a49 ha
  subst ha
  replace h48:=Kju h48
  refine gA 7 E ?_
  obtain rfl:=oSi h48
  exact gP E E
theorem Lbq{k:Nat}{c:Kxi}{r:Int}(h:Lan k c=some r):Pure Tryz.prog 19 [.agg [I c.Kind,S c.Name,S c.Op,I c.Value.Kind,I c.Value.Number,S c.Value.Words,I c.Value.Version.1,I c.Value.Version.2.1,I c.Value.Version.2.2.1,I c.Value.Version.2.2.2,.d (.ro c.Kids.n c.Kids.xs)]] (I r):=by
 unfold Lan at h
 refine QP Tryz.func19 E E E<|gA 2 E<|Kow E E E E Z<|bK h fun y1 hy1 h2=>gO 7 E<|Khd C (Lbk hy1) E Z E E E E E<|gO 12 E<|Kgf 3 [(1,.ptr 0 0),(15,B ((decide ((y1.1:Int)>100))||(decide ((y1.2:Int)>30))))] [.box 47 [I c.Kind,S c.Name,S c.Op,I c.Value.Kind,I c.Value.Number,S c.Value.Words,I c.Value.Version.1,I c.Value.Version.2.1,I c.Value.Version.2.2.1,I c.Value.Version.2.2.2,.d (.ro c.Kids.n c.Kids.xs)]] ?_ ?_
 ·refine Kno E E (fun hb=>?_) (fun hb=>?_)
  ·exact gO 4 E<|⟨⟨E,Kfi E (or_t hb),tV⟩,[],E,.inl E⟩
  exact gO 4 E<|⟨⟨E,Kfi E (or_f hb),tV⟩,[],E,.inl E⟩
 refine gO 2 E<|jC E h2 (fun h3=>?_) fun h4=>bK h4 fun y5 hy5 h6=>gA 5 E<|Khd C (Lbp hy5) E Z E E E E E<|gO 4 E<|oSi h6▸gP E E
 exact gA 7 E<|oSi h3▸gP E E
theorem Lbr{k:Nat}{text:Str}{r:Kxi×Int×Int}(h:Lao k text=some r):Pure Tryz.prog 49 [S text] (.tup [.agg [I r.1.Kind,S r.1.Name,S r.1.Op,I r.1.Value.Kind,I r.1.Value.Number,S r.1.Value.Words,I r.1.Value.Version.1,I r.1.Value.Version.2.1,I r.1.Value.Version.2.2.1,I r.1.Value.Version.2.2.2,.d (.ro r.1.Kids.n r.1.Kids.xs)],I r.2.1,I r.2.2]):=by
 unfold Lao at h
 refine QP Tryz.func49 E E E<|gA 2 E<|Kov hΓ E E E Z<|gO 12 E<|Kfz E (fun hb=>?_) (fun hb=>?_)
 ·have h1:=cT h hb
  exact gA 2 E<|Keg hΓ (gs:=[I 0,S [],S [],I 0,I 0,S [],I 0,I 0,I 0,I 0,.d (.ro (KD.mk 0 []).n (KD.mk 0 []).xs)]) E E E E E E E<|Kpa hΓ E E E E E E E E Z<|Khk [.box 47 [I 0,S [],S [],I 0,I 0,S [],I 0,I 0,I 0,I 0,.d (.ro (KD.mk 0 []).n (KD.mk 0 []).xs)]] E<|gO 6 E<|oSi h1▸gP E E
 have h2:=cF h hb
 refine gA 5 E<|Keg hΓ (gs:=[S text,S [],I 0,I 0,S [],I 0,I 0,S [],I 0,I 0,I 0,I 0,B false,I 0]) E E E E E E E<|Kow E E E E Z<|bK h2 fun y3 hy3 h4=>gO 6 E<|Khc [1] (.tup []) [.box 47 [I 0,S [],S [],I 0,I 0,S [],I 0,I 0,I 0,I 0,.d (.ro (KD.mk 0 []).n (KD.mk 0 []).xs)],.box 130 [S y3.s,S y3.tok.kind,I y3.tok.v_at,I y3.tok.v_end,S y3.tok.name,I y3.tok.value.Kind,I y3.tok.value.Number,S y3.tok.value.Words,I y3.tok.value.Version.1,I y3.tok.value.Version.2.1,I y3.tok.value.Version.2.2.1,I y3.tok.value.Version.2.2.2,B y3.bad,I y3.v_at]] C (Lbc hy3) E Z E E E E E E E E E E<|bK h4 fun y5 hy5 h6=>gO 5 E<|Khc [1] (.agg [I y5.1.Kind,S y5.1.Name,S y5.1.Op,I y5.1.Value.Kind,I y5.1.Value.Number,S y5.1.Value.Words,I y5.1.Value.Version.1,I y5.1.Value.Version.2.1,I y5.1.Value.Version.2.2.1,I y5.1.Value.Version.2.2.2,.d (.ro y5.1.Kids.n y5.1.Kids.xs)]) [.box 47 [I 0,S [],S [],I 0,I 0,S [],I 0,I 0,I 0,I 0,.d (.ro (KD.mk 0 []).n (KD.mk 0 []).xs)],.box 130 [S y5.2.s,S y5.2.tok.kind,I y5.2.tok.v_at,I y5.2.tok.v_end,S y5.2.tok.name,I y5.2.tok.value.Kind,I y5.2.tok.value.Number,S y5.2.tok.value.Words,I y5.2.tok.value.Version.1,I y5.2.tok.value.Version.2.1,I y5.2.tok.value.Version.2.2.1,I y5.2.tok.value.Version.2.2.2,B y5.2.bad,I y5.2.v_at]] C (Lbj hy5) E Z E E E E E E E E E E<|Kov hΓ E E E Z<|Kpa hΓ E E E E E E E E Z<|Khk [.box 47 [I 0,S [],S [],I 0,I 0,S [],I 0,I 0,I 0,I 0,.d (.ro (KD.mk 0 []).n (KD.mk 0 []).xs)],.box 130 [S y5.2.s,S y5.2.tok.kind,I y5.2.tok.v_at,I y5.2.tok.v_end,S y5.2.tok.name,I y5.2.tok.value.Kind,I y5.2.tok.value.Number,S y5.2.tok.value.Words,I y5.2.tok.value.Version.1,I y5.2.tok.value.Version.2.1,I y5.2.tok.value.Version.2.2.1,I y5.2.tok.value.Version.2.2.2,B y5.2.bad,I y5.2.v_at],.box 47 [I y5.1.Kind,S y5.1.Name,S y5.1.Op,I y5.1.Value.Kind,I y5.1.Value.Number,S y5.1.Value.Words,I y5.1.Value.Version.1,I y5.1.Value.Version.2.1,I y5.1.Value.Version.2.2.1,I y5.1.Value.Version.2.2.2,.d (.ro y5.1.Kids.n y5.1.Kids.xs)]] E<|gO 11 E<|Kgf 7 [(2,.ptr 0 0),(5,.ptr 1 0),(6,.ptr 2 0),(31,B ((!y5.2.bad)&&(!((y5.2.tok.kind:Str)==[101,110,100]))))] [.box 47 [I 0,S [],S [],I 0,I 0,S [],I 0,I 0,I 0,I 0,.d (.ro (KD.mk 0 []).n (KD.mk 0 []).xs)],.box 130 [S y5.2.s,S y5.2.tok.kind,I y5.2.tok.v_at,I y5.2.tok.v_end,S y5.2.tok.name,I y5.2.tok.value.Kind,I y5.2.tok.value.Number,S y5.2.tok.value.Words,I y5.2.tok.value.Version.1,I y5.2.tok.value.Version.2.1,I y5.2.tok.value.Version.2.2.1,I y5.2.tok.value.Version.2.2.2,B y5.2.bad,I y5.2.v_at],.box 47 [I y5.1.Kind,S y5.1.Name,S y5.1.Op,I y5.1.Value.Kind,I y5.1.Value.Number,S y5.1.Value.Words,I y5.1.Value.Version.1,I y5.1.Value.Version.2.1,I y5.1.Value.Version.2.2.1,I y5.1.Value.Version.2.2.2,.d (.ro y5.1.Kids.n y5.1.Kids.xs)]] ?_ ?_
 ·refine Kno E E (fun hb=>?_) (fun hb=>?_)
  ·exact gO 8 E<|⟨⟨E,E,E,Kfi E (Khw hb),tV⟩,[],E,.inl E⟩
  exact gO 8 E<|⟨⟨E,E,E,Kfi E (Khx hb),tV⟩,[],E,.inl E⟩
 refine bK h6 fun q7 hq7 h8=>gO 2 E<|Kjy [(2,.ptr 0 0),(5,.ptr 1 0),(6,.ptr 2 0)] [.box 47 [I 0,S [],S [],I 0,I 0,S [],I 0,I 0,I 0,I 0,.d (.ro (KD.mk 0 []).n (KD.mk 0 []).xs)],.box 130 [S q7.s,S q7.tok.kind,I q7.tok.v_at,I q7.tok.v_end,S q7.tok.name,I q7.tok.value.Kind,I q7.tok.value.Number,S q7.tok.value.Words,I q7.tok.value.Version.1,I q7.tok.value.Version.2.1,I q7.tok.value.Version.2.2.1,I q7.tok.value.Version.2.2.2,B q7.bad,I q7.v_at],.box 47 [I y5.1.Kind,S y5.1.Name,S y5.1.Op,I y5.1.Value.Kind,I y5.1.Value.Number,S y5.1.Value.Words,I y5.1.Value.Version.1,I y5.1.Value.Version.2.1,I y5.1.Value.Version.2.2.1,I y5.1.Value.Version.2.2.2,.d (.ro y5.1.Kids.n y5.1.Kids.xs)]] ?_ ?_
 ·refine jC E hq7 (fun h9=>?_) fun h12=>gA 1 E<|oSi h12▸⟨⟨E,E,E,tV⟩,[],E,.inl E⟩
  exact bK h9 fun y10 hy10 h11=>gA 2 E<|Khc [1] (.agg [I y10.1.Kind,S y10.1.Name,S y10.1.Op,I y10.1.Value.Kind,I y10.1.Value.Number,S y10.1.Value.Words,I y10.1.Value.Version.1,I y10.1.Value.Version.2.1,I y10.1.Value.Version.2.2.1,I y10.1.Value.Version.2.2.2,.d (.ro y10.1.Kids.n y10.1.Kids.xs)]) [.box 47 [I 0,S [],S [],I 0,I 0,S [],I 0,I 0,I 0,I 0,.d (.ro (KD.mk 0 []).n (KD.mk 0 []).xs)],.box 130 [S y10.2.s,S y10.2.tok.kind,I y10.2.tok.v_at,I y10.2.tok.v_end,S y10.2.tok.name,I y10.2.tok.value.Kind,I y10.2.tok.value.Number,S y10.2.tok.value.Words,I y10.2.tok.value.Version.1,I y10.2.tok.value.Version.2.1,I y10.2.tok.value.Version.2.2.1,I y10.2.tok.value.Version.2.2.2,B y10.2.bad,I y10.2.v_at],.box 47 [I y5.1.Kind,S y5.1.Name,S y5.1.Op,I y5.1.Value.Kind,I y5.1.Value.Number,S y5.1.Value.Words,I y5.1.Value.Version.1,I y5.1.Value.Version.2.1,I y5.1.Value.Version.2.2.1,I y5.1.Value.Version.2.2.2,.d (.ro y5.1.Kids.n y5.1.Kids.xs)]] C (Lbd hy10) E Z E E E E E E E E E E<|gO 1 E<|oSi h11▸⟨⟨E,E,E,tV⟩,[],E,.inl E⟩
 refine gA 10 E<|jC E h8 (fun h13=>?_) fun h14=>bK h14 fun y15 hy15 h16=>gA 6 E<|Khd C (Lbq hy15) E Z E E E E E<|gO 9 E<|jC E h16 (fun h17=>?_) fun h18=>?_
 ·exact gA 1 E<|Kjb [.dead,.box 130 [S q7.s,S q7.tok.kind,I q7.tok.v_at,I q7.tok.v_end,S q7.tok.name,I q7.tok.value.Kind,I q7.tok.value.Number,S q7.tok.value.Words,I q7.tok.value.Version.1,I q7.tok.value.Version.2.1,I q7.tok.value.Version.2.2.1,I q7.tok.value.Version.2.2.2,B q7.bad,I q7.v_at]] [4] [5] [] hmix (by kernel_rfl) (by kernel_rfl) ⟨E,tV⟩ Z<|ge_q E (.inl E) (fun _ _=>Kjd (qt_p (Kjr hΓ (gs:=[I 0,S [],S [],I 0,I 0,S [],I 0,I 0,I 0,I 0,.d (.ro (KD.mk 0 []).n (KD.mk 0 []).xs)]) E E E E E E)))<|go_E hΓ 4 E<|Kjh [.box 47 [I 0,S [],S [],I 0,I 0,S [],I 0,I 0,I 0,I 0,.d (.ro (KD.mk 0 []).n (KD.mk 0 []).xs)],.box 130 [S q7.s,S q7.tok.kind,I q7.tok.v_at,I q7.tok.v_end,S q7.tok.name,I q7.tok.value.Kind,I q7.tok.value.Number,S q7.tok.value.Words,I q7.tok.value.Version.1,I q7.tok.value.Version.2.1,I q7.tok.value.Version.2.2.1,I q7.tok.value.Version.2.2.2,B q7.bad,I q7.v_at],.box 47 [I y5.1.Kind,S y5.1.Name,S y5.1.Op,I y5.1.Value.Kind,I y5.1.Value.Number,S y5.1.Value.Words,I y5.1.Value.Version.1,I y5.1.Value.Version.2.1,I y5.1.Value.Version.2.2.1,I y5.1.Value.Version.2.2.2,.d (.ro y5.1.Kids.n y5.1.Kids.xs)]] E E (Kjj ⟨E,tV⟩) (Kjn (Kkb hΓ E E E E E E E E E))<|go_E hΓ 2 E<|Kjc<|gA 3 E<|oSi h13▸gP E E
 ·exact gA 2 E<|Keg hΓ (gs:=[I 0,S [],S [],I 0,I 0,S [],I 0,I 0,I 0,I 0,.d (.ro (KD.mk 0 []).n (KD.mk 0 []).xs)]) E E E E E E E<|gO 1 E<|Kpa hΓ E E E E E E E E Z<|Khk [.box 47 [I 0,S [],S [],I 0,I 0,S [],I 0,I 0,I 0,I 0,.d (.ro (KD.mk 0 []).n (KD.mk 0 []).xs)],.box 130 [S q7.s,S q7.tok.kind,I q7.tok.v_at,I q7.tok.v_end,S q7.tok.name,I q7.tok.value.Kind,I q7.tok.value.Number,S q7.tok.value.Words,I q7.tok.value.Version.1,I q7.tok.value.Version.2.1,I q7.tok.value.Version.2.2.1,I q7.tok.value.Version.2.2.2,B q7.bad,I q7.v_at],.box 47 [I y5.1.Kind,S y5.1.Name,S y5.1.Op,I y5.1.Value.Kind,I y5.1.Value.Number,S y5.1.Value.Words,I y5.1.Value.Version.1,I y5.1.Value.Version.2.1,I y5.1.Value.Version.2.2.1,I y5.1.Value.Version.2.2.2,.d (.ro y5.1.Kids.n y5.1.Kids.xs)]] E<|gO 6 E<|oSi h17▸gP E E
 exact gA 5 E<|Kpa hΓ E E E E E E E E Z<|Khk [.box 47 [I y5.1.Kind,S y5.1.Name,S y5.1.Op,I y5.1.Value.Kind,I y5.1.Value.Number,S y5.1.Value.Words,I y5.1.Value.Version.1,I y5.1.Value.Version.2.1,I y5.1.Value.Version.2.2.1,I y5.1.Value.Version.2.2.2,.d (.ro y5.1.Kids.n y5.1.Kids.xs)],.box 130 [S q7.s,S q7.tok.kind,I q7.tok.v_at,I q7.tok.v_end,S q7.tok.name,I q7.tok.value.Kind,I q7.tok.value.Number,S q7.tok.value.Words,I q7.tok.value.Version.1,I q7.tok.value.Version.2.1,I q7.tok.value.Version.2.2.1,I q7.tok.value.Version.2.2.2,B q7.bad,I q7.v_at],.box 47 [I y5.1.Kind,S y5.1.Name,S y5.1.Op,I y5.1.Value.Kind,I y5.1.Value.Number,S y5.1.Value.Words,I y5.1.Value.Version.1,I y5.1.Value.Version.2.1,I y5.1.Value.Version.2.2.1,I y5.1.Value.Version.2.2.2,.d (.ro y5.1.Kids.n y5.1.Kids.xs)]] E<|gO 5 E<|oSi h18▸gP E E
theorem Lbs{k:Nat}{r:Bool}(h:Lap k=some r):Pure Tryz.prog 14 [] (B r):=by
 unfold Lap at h
 refine QP Tryz.func14 E E E<|bK h fun y1 hy1 h2=>gA 7 E<|Khd C (Lbr hy1) E Z E E E E E<|gO 4 E<|Kov hΓ E E E Z<|Kpa hΓ E E E E E E E E Z<|Khk [.box 47 [I y1.1.Kind,S y1.1.Name,S y1.1.Op,I y1.1.Value.Kind,I y1.1.Value.Number,S y1.1.Value.Words,I y1.1.Value.Version.1,I y1.1.Value.Version.2.1,I y1.1.Value.Version.2.2.1,I y1.1.Value.Version.2.2.2,.d (.ro y1.1.Kids.n y1.1.Kids.xs)]] E<|gO 9 E<|Kgf 4 [(0,B false),(1,.ptr 0 0),(15,B (((y1.2.2:Int)==0)&&((y1.1.Kind:Int)==1)))] [.box 47 [I y1.1.Kind,S y1.1.Name,S y1.1.Op,I y1.1.Value.Kind,I y1.1.Value.Number,S y1.1.Value.Words,I y1.1.Value.Version.1,I y1.1.Value.Version.2.1,I y1.1.Value.Version.2.2.1,I y1.1.Value.Version.2.2.2,.d (.ro y1.1.Kids.n y1.1.Kids.xs)]] ?_ ?_
 ·refine Kno E E (fun hb=>?_) (fun hb=>?_)
  ·exact gO 5 E<|⟨⟨E,E,Kfi E (Khw hb),tV⟩,[],E,.inl E⟩
  exact gO 5 E<|⟨⟨E,E,Kfi E (Khx hb),tV⟩,[],E,.inl E⟩
 refine gO 1 E<|Kgf 4 [(0,B false),(20,B ((((y1.2.2:Int)==0)&&((y1.1.Kind:Int)==1))&&((y1.1.Name:Str)==[97])))] [.box 47 [I y1.1.Kind,S y1.1.Name,S y1.1.Op,I y1.1.Value.Kind,I y1.1.Value.Number,S y1.1.Value.Words,I y1.1.Value.Version.1,I y1.1.Value.Version.2.1,I y1.1.Value.Version.2.2.1,I y1.1.Value.Version.2.2.2,.d (.ro y1.1.Kids.n y1.1.Kids.xs)]] ?_ ?_
 ·refine Kno E E (fun hb=>?_) (fun hb=>?_)
  ·exact gO 5 E<|⟨⟨E,Kfi E (Khw hb),tV⟩,[],E,.inl E⟩
  exact gO 5 E<|⟨⟨E,Kfi E (Khx hb),tV⟩,[],E,.inl E⟩
 exact gO 4 E<|oSi h2▸gP E E
theorem Lbt{k:Nat}{l:List Int}{r:Bool}(h:Laq k l=some r):Pure Tryz.prog 3 [.d (Sl (eN .i64) l)] (B r):=by
 unfold Laq at h
 refine QP Tryz.func3 E E E<|gA 8 E<|Keg hΓ (gs:=[.d (Sl (eN .i64) l),I 0]) E E E E E E E<|Kow E E E E Z<|bK h fun y1 hy1 h2=>gO 7 E<|Khc [0] (I y1.1) [.box 25 (fQ y1.2)] C (Lcd hy1) E Z E E E E E E E E E E<|bK h2 fun y3 hy3 h4=>Khc [0] (.sl 1 y3.1.length) [.box 25 (fQ y3.2),rO 42 10 Lbw y3.1] C (Lcj hy3) E Z E E E E E E E E E E<|Khj 1 [21] _ [.box 25 (fQ y3.2),.dead] E E E Z<|bK h4 fun y5 hy5 h6=>gO 6 E<|Khd C (Lda hy5) E Z E E E E E<|bK h6 fun y7 hy7 h8=>gO 11 E<|Khd C (Ldi hy7) E Z E E E E E<|gO 9 E<|bK h8 fun q9 hq9 h10=>Kgf 9 [(3,.ptr 0 0),(5,S y5.1),(7,I y7),(41,B q9)] [.box 25 (fQ y3.2),.dead] ?_ ?_
 ·refine Kno E E (fun hb=>?_) (fun hb=>?_)
  ·have h11:=cT hq9 hb
   exact gO 10 E<|oSi h11▸⟨⟨E,E,E,E,tV⟩,[],E,.inl E⟩
  have h12:=cF hq9 hb
  refine gO 3 E<|bK h12 fun q13 hq13 h14=>Kgf 5 [(3,.ptr 0 0),(5,S y5.1),(7,I y7),(32,B false),(40,B q13)] [.box 25 (fQ y3.2),.dead] ?_ ?_
  ·refine Kno E E (fun hb=>?_) (fun hb=>?_)
   ·have h15:=cT hq13 hb
    exact bK h15 fun y16 hy16 h17=>gO 2 E<|Knm E<|Khd C (Ldk hy16) E Z E E E E E<|gO 3 E<|oSi h17▸⟨⟨E,E,E,E,E,tV⟩,[],E,.inl E⟩
   have h18:=cF hq13 hb
   exact gO 6 E<|oSi h18▸⟨⟨E,E,E,E,E,tV⟩,[],E,.inl E⟩
  exact gO 2 E<|oSi h14▸⟨⟨E,E,E,E,tV⟩,[],E,.inl E⟩
 refine gO 1 E<|Kgf 7 [(3,.ptr 0 0),(49,B (q9||(((y7:Int) != 0)&&(!((y5.1:Str)==[])))))] [.box 25 (fQ y3.2),.dead] ?_ ?_
 ·refine Kno E E (fun hb=>?_) (fun hb=>?_)
  ·exact gO 8 E<|⟨⟨E,Kfi E (or_t hb),tV⟩,[],E,.inl E⟩
  refine gO 3 E<|Kgf 3 [(3,.ptr 0 0),(42,B false),(48,B (((y7:Int) != 0)&&(!((y5.1:Str)==[]))))] [.box 25 (fQ y3.2),.dead] ?_ ?_
  ·refine Kno E E (fun hb=>?_) (fun hb=>?_)
   ·exact gO 4 E<|⟨⟨E,E,Kfi E (Khw hb),tV⟩,[],E,.inl E⟩
   exact gO 4 E<|⟨⟨E,E,Kfi E (Khx hb),tV⟩,[],E,.inl E⟩
  exact gO 2 E<|⟨⟨E,Kfi E (or_f hb),tV⟩,[],E,.inl E⟩
 refine gO 2 E<|Kfz E (fun hb=>?_) (fun hb=>?_)
 ·have h19:=cT h10 hb
  exact gA 7 E<|oSi h19▸gP E E
 have h20:=cF h10 hb
 refine bK h20 fun y21 hy21 h22=>gA 5 E<|Khc [0] (S y21.1) [.box 25 (fQ y21.2),.dead] C (Ldm hy21) E Z E E E E E E E E E E<|bK h22 fun y23 hy23 h24=>gO 6 E<|Khd C (Lee hy23) E Z E E E E E<|bK h24 fun y25 hy25 h26=>gO 12 E<|Khd C (Lba hy25) E Z E E E E E<|gO 15 E<|Kgf 4 [(9,.d (Sl Lbw y23.1)),(12,.d (Sl Lbw y25.1)),(71,B (((y23.2.2:Int)==y25.2.2)&&((y23.2.1:Int)==y25.2.1)))] [.box 25 (fQ y21.2),.dead] ?_ ?_
 ·refine Kno E E (fun hb=>?_) (fun hb=>?_)
  ·exact gO 5 E<|⟨⟨E,E,Kfi E (Khw hb),tV⟩,[],E,.inl E⟩
  exact gO 5 E<|⟨⟨E,E,Kfi E (Khx hb),tV⟩,[],E,.inl E⟩
 refine gO 1 E<|bK h26 fun q27 hq27 h28=>Kgf 4 [(76,B q27)] [.box 25 (fQ y21.2),.dead] ?_ ?_
 ·refine Kno E E (fun hb=>?_) (fun hb=>?_)
  ·have h29:=cT hq27 hb
   exact bK h29 fun y30 hy30 h31=>gO 2 E<|Knm E<|Khd C (Lbb hy30) E Z E E E E E<|gO 2 E<|oSi h31▸⟨⟨E,tV⟩,[],E,.inl E⟩
  have h32:=cF hq27 hb
  exact gO 5 E<|oSi h32▸⟨⟨E,tV⟩,[],E,.inl E⟩
 refine gO 1 E<|bK h28 fun q33 hq33 h34=>Kgf 2 [(79,B q33)] [.box 25 (fQ y21.2),.dead] ?_ ?_
 ·refine Kno E E (fun hb=>?_) (fun hb=>?_)
  ·have h35:=cT hq33 hb
   exact bK h35 fun y36 hy36 h37=>Knm E<|Khd C (Lbs hy36) E Z E E E E E<|gO 2 E<|oSi h37▸⟨⟨E,tV⟩,[],E,.inl E⟩
  have h38:=cF hq33 hb
  exact gO 3 E<|oSi h38▸⟨⟨E,tV⟩,[],E,.inl E⟩
 exact gO 4 E<|oSi h34▸gP E E
end Go.Proofs.YtmecneoeklldeaaGreatDoor
