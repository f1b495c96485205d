import Derived.Test.YtjmlnnanfkiakaaGreatDoorXLM
import Derived.Test.YtjmlnnanfkiakaaGreatDoorGt
import Derived.Test.YtjmlnnanfkiakaaGreatDoorStrS
import Derived.Test.YtjmlnnanfkiakaaGreatDoorXLW1
set_option maxHeartbeats 8000000
set_option linter.all false
set_option maxRecDepth 100000
namespace Go.Proofs.YtjmlnnanfkiakaaGreatDoor
open Go.Gk
theorem Lnr{k:Nat}{d:Lex}{r:Int}(h:Lhd k d=some r):Pure Tryz.prog 29 [.agg (fD d)] (I r):=by
 unfold Lhd at h
 refine QP Tryz.func29 E E E<|gA 2 E<|Kqg E E E E Z<|gO 12 E<|jC E h (fun h1=>?_) fun h2=>bK h2 fun y3 hy3 h4=>gA 7 E<|Kdq C (Lno hy3) E Z E E E E E<|gO 9 E<|jC E h4 (fun h5=>?_) fun h6=>?_
 ·exact gA 7 E<|oSi h1▸gP E E
 ·exact gA 8 E<|oSi h5▸gP E E
 refine gA 11 E<|jC E h6 (fun h7=>?_) fun h8=>gA 11 E<|bK h8 fun q12 hq12 h13=>Kcy 23 E fun hb15=>Kgo (R:=fun a14=>q12=.go a14) (fun a14=>[(1,.ptr 0 0)]) (fun a14=>[.box 29 (fD d)]) ?_ ?_
 ·exact gA 7 E<|oSi h7▸gP E E
 ·refine gA 1 E<|Kcx d.Owners hq12 (fun i9 s10=>[(1,.ptr 0 0),(23,.d (Sl Lll d.Owners)),(24,I (d.Owners.length:Int)),(25,I (i9:Int))]) (fun s10=>[.box 29 (fD d)]) ⟨⟨E,E,E,E,tV⟩,[],E,.inl E⟩ (fun i9 x11 s10 y19 hx16 hlt hy17 hout18=>?_) (fun s10 hgo=>?_)
  ·refine gA 6 E<|Kcj E (dT (Int.ofNat_lt.2 hlt))<|gA 7 E<|eo_o E (Kcz hΓ (enc:=Lll) (Kcs hx16) E E E E E (fun _=>E))<|gO 1 E<|Kqf hΓ E E E Z<|gO 1 E<|Kqk hΓ E E E E E E E E Z<|Kdx [.box 29 (fD d),.box 155 [S x11.Tag,.d (Sl eS x11.Users)]] E<|bK hy17 fun y20 hy20 h21=>gO 7 E<|Kdq C (Lnn hy20) E Z E E E E E<|gO 3 E<|jC E h21 (fun h22=>?_) fun h25=>bK h25 fun q26 hq26 h27=>gA 4 E<|Kgp [(1,.ptr 0 0),(5,.ptr 1 0),(23,.d (Sl Lll d.Owners)),(24,I (d.Owners.length:Int)),(25,I (i9:Int)),(47,B q26)] [.box 29 (fD d),.box 155 [S x11.Tag,.d (Sl eS x11.Users)]] ?_ ?_
   ·refine gA 9 E<|bK h22 fun v23 hv23 h24=>?_
    cases h24
    obtain rfl:=hout18 _ rfl
    cases h13
    exact gA 4 E<|oSi hv23▸gP E E
   ·refine jD<|gA 3 E<|Kaw E E (fun hb=>?_) (fun hb=>?_)
    ·have h28:=cT hq26 hb
     exact bK h28 fun x29 hx29 h30=>Kcg hΓ 6 E<|Kbr E E (Kcz hΓ (enc:=Lll) hx29 E E E E E (fun _=>E))<|Kcg hΓ 5 E<|oSi h30▸⟨⟨E,E,E,E,E,E,tV⟩,[],E,.inl E⟩
    have h31:=cF hq26 hb
    exact Kcg hΓ 12 E<|oSi h31▸⟨⟨E,E,E,E,E,E,tV⟩,[],E,.inl E⟩
   refine gA 1 E<|jC E h27 (fun h32=>?_) fun h35=>gA 10 E<|bK h35 fun q39 hq39 h40=>Kcy 49 E fun hb42=>Kgo (R:=fun a41=>q39=.go a41) (fun a41=>[(1,.ptr 0 0),(23,.d (Sl Lll d.Owners)),(24,I (d.Owners.length:Int)),(25,I (i9:Int))]) (fun a41=>[.box 29 (fD d),.box 155 [S x11.Tag,.d (Sl eS x11.Users)]]) ?_ ?_
   ·refine gA 9 E<|bK h32 fun v33 hv33 h34=>?_
    cases h34
    obtain rfl:=hout18 _ rfl
    cases h13
    exact gA 4 E<|oSi hv33▸gP E E
   ·refine gA 1 E<|Kcx x11.Users hq39 (fun i36 s37=>[(1,.ptr 0 0),(5,.ptr 1 0),(23,.d (Sl Lll d.Owners)),(24,I (d.Owners.length:Int)),(25,I (i9:Int)),(49,.d (Sl eS x11.Users)),(50,I (x11.Users.length:Int)),(51,I (i36:Int))]) (fun s37=>[.box 29 (fD d),.box 155 [S x11.Tag,.d (Sl eS x11.Users)]]) ⟨⟨E,E,E,E,E,E,E,E,tV⟩,[],E,.inl E⟩ (fun i36 x38 s37 y46 hx43 hlt hy44 hout45=>?_) (fun s37 hgo=>?_)
    ·refine gA 6 E<|Kcj E (dT (Int.ofNat_lt.2 hlt))<|gA 7 E<|eo_o E (Kcz hΓ (enc:=eS) (Kcs hx43) E E E E E (fun _=>E))<|bK hy44 fun y47 hy47 h48=>gO 11 E<|Kdq C (Lmw hy47) E Z E E E E E<|gO 3 E<|jC E h48 (fun h49=>?_) fun h54=>gA 7 E<|bK h54 fun q55 hq55 h56=>Kco 9 [(1,.ptr 0 0),(5,.ptr 1 0),(23,.d (Sl Lll d.Owners)),(24,I (d.Owners.length:Int)),(25,I (i9:Int)),(49,.d (Sl eS x11.Users)),(50,I (x11.Users.length:Int)),(51,I (i36:Int)),(72,B q55)] [.box 29 (fD d),.box 155 [S x11.Tag,.d (Sl eS x11.Users)]] ?_ ?_
     ·refine gA 9 E<|bK h49 fun v50 hv50 h51=>?_
      cases h51
      obtain rfl:=hout45 _ rfl
      cases h40
      refine gA 5 E<|bK hv50 fun v52 hv52 h53=>?_
      cases h53
      obtain rfl:=hout18 _ rfl
      cases h13
      exact gA 4 E<|oSi hv52▸gP E E
     ·refine Koz E E (fun hb=>?_) (fun hb=>?_)
      ·have h57:=cT hq55 hb
       exact bK h57 fun x58 hx58 h59=>gO 5 E<|Kox E<|eo_o E (Kcz hΓ (enc:=eS) hx58 E E E E E (fun _=>E))<|gO 4 E<|oSi h59▸⟨⟨E,E,E,E,E,E,E,E,E,tV⟩,[],E,.inl E⟩
      have h60:=cF hq55 hb
      exact gO 10 E<|oSi h60▸⟨⟨E,E,E,E,E,E,E,E,E,tV⟩,[],E,.inl E⟩
     refine gO 2 E<|jC E h56 (fun h61=>?_) fun h66=>gA 7 E ?_
     ·refine gA 8 E<|bK h61 fun v62 hv62 h63=>?_
      cases h63
      obtain rfl:=hout45 _ rfl
      cases h40
      refine gA 5 E<|bK hv62 fun v64 hv64 h65=>?_
      cases h65
      obtain rfl:=hout18 _ rfl
      cases h13
      exact gA 4 E<|oSi hv64▸gP E E
     cases h66
     exact⟨_,E,⟨⟨E,E,E,E,E,E,E,Kbp E (Kbo (nLl hlt hb42)),tV⟩,[],E,.inl E⟩⟩
    subst hgo
    exact gA 6 E<|Kck E (dF (Int.lt_irrefl _))<|gA 4 E<|⟨_,E,⟨⟨E,E,E,E,tV⟩,[],E,.inl E⟩⟩
   intro a41 ha
   subst ha
   replace h40:=Kgi h40
   refine gA 6 E ?_
   cases h40
   exact⟨_,E,⟨⟨E,E,E,Kbp E (Kbo (nLl hlt hb15)),tV⟩,[_],E,.inr ⟨HB.mk E,FB.mk E,Z⟩⟩⟩
  subst hgo
  exact gA 6 E<|Kck E (dF (Int.lt_irrefl _))<|gA 4 E<|⟨_,E,⟨⟨E,tV⟩,[],E,.inl E⟩⟩
 intro a14 ha
 subst ha
 replace h13:=Kgi h13
 refine bK h13 fun y67 hy67 h68=>gA 6 E<|Kdq C (Lnp hy67) E Z E E E E E<|gO 2 E<|jC E h68 (fun h69=>?_) fun h70=>gA 8 E<|oSi h70▸gP E E
 exact gA 7 E<|oSi h69▸gP E E
theorem Lns{n:Int}{r:Bool}(h:Lhe n=some r):Pure Tryz.prog 138 [I n] (B r):=by
 unfold Lhe at h
 refine QP Tryz.func138 E E E<|gA 10 E<|Kco 3 [(2,B false),(8,B ((decide ((n:Int)≥0))&&(decide ((n:Int)<345686400))))] [] ?_ ?_
 ·refine Koz E E (fun hb=>?_) (fun hb=>?_)
  ·exact gO 4 E<|⟨⟨E,Kbq E (Kei hb),tV⟩,[],E,.inl E⟩
  exact gO 4 E<|⟨⟨E,Kbq E (Kej hb),tV⟩,[],E,.inl E⟩
 exact gO 4 E<|oSi h▸gP E E
theorem Lnt{kind:Int}{r:List Int}(h:Lhf kind=some r):Pure Tryz.prog 120 [I kind] (.d (Sl (eN .i64) r)):=by
 unfold Lhf at h
 refine QP Tryz.func120 E E E<|gA 18 E<|jC E h (fun h1=>?_) fun h2=>gA 6 E<|jC E h2 (fun h3=>?_) fun h4=>?_
 ·exact gA 2 E<|Kdk hΓ (enc:=(eN .i64)) [0,2,5,6,7,8] E E E E E E E E E E E E Z<|gO 6 E<|oSi h1▸gP E E
 ·exact gA 2 E<|Kdk hΓ (enc:=(eN .i64)) [0,2] E E E E E E E E E E E E Z<|gO 6 E<|oSi h3▸gP E E
 refine gA 6 E<|jC E h4 (fun h5=>?_) fun h6=>gA 6 E<|jC E h6 (fun h7=>?_) fun h8=>?_
 ·exact gA 2 E<|Kdk hΓ (enc:=(eN .i64)) [0,1,2,3,4] E E E E E E E E E E E E Z<|gO 6 E<|oSi h5▸gP E E
 ·exact gA 2 E<|Kdk hΓ (enc:=(eN .i64)) [0,1,3] E E E E E E E E E E E E Z<|gO 6 E<|oSi h7▸gP E E
 refine gA 6 E<|jC E h8 (fun h9=>?_) fun h10=>gA 6 E<|jC E h10 (fun h11=>?_) fun h12=>?_
 ·exact gA 2 E<|Kdk hΓ (enc:=(eN .i64)) [0,1,4] E E E E E E E E E E E E Z<|gO 6 E<|oSi h9▸gP E E
 ·exact gA 2 E<|Kdk hΓ (enc:=(eN .i64)) [0,1,5] E E E E E E E E E E E E Z<|gO 6 E<|oSi h11▸gP E E
 exact gA 5 E<|Kdk hΓ (enc:=(eN .i64)) [0,1] E E E E E E E E E E E E Z<|gO 4 E<|oSi h12▸gP E E
theorem Lnu{k:Nat}{s:Str}{empty:Bool}{r:Int}(h:Lhg k s empty=some r):Pure Tryz.prog 270 [S s,B empty] (I r):=by
 unfold Lhg at h
 refine QP Tryz.func270 E E E<|bK h fun y1 hy1 h2=>gA 9 E<|Kdq C (Lnn hy1) E Z E E E E E<|gO 2 E<|Kco 7 [(15,B ((!y1)&&(!(empty&&((s:Str)==[])))))] [] ?_ ?_
 ·refine Koz E E (fun hb=>?_) (fun hb=>?_)
  ·refine gO 2 E<|Kco 3 [(8,B true),(13,B (empty&&((s:Str)==[])))] [] ?_ ?_
   ·refine Koz E E (fun hb=>?_) (fun hb=>?_)
    ·exact gO 4 E<|⟨⟨E,Kbq E (Kei hb),tV⟩,[],E,.inl E⟩
    exact gO 4 E<|⟨⟨E,Kbq E (Kej hb),tV⟩,[],E,.inl E⟩
   exact gO 3 E<|⟨⟨Kbq E (Kei hb),tV⟩,[],E,.inl E⟩
  exact gO 8 E<|⟨⟨Kbq E (Kej hb),tV⟩,[],E,.inl E⟩
 refine gO 2 E<|jC E h2 (fun h3=>?_) fun h4=>gA 8 E<|oSi h4▸gP E E
 exact gA 7 E<|oSi h3▸gP E E
theorem Lnv{s:Str}{r:Bool}(h:Lhh s=some r):Pure Tryz.prog 151 [S s] (B r):=by
 unfold Lhh at h
 refine QP Tryz.func151 E E E<|gA 10 E<|Kco 4 [(0,S s),(2,B false),(9,B ((!((s:Str)==[]))&&(decide (((s.length:Int):Int)≤20))))] [] ?_ ?_
 ·refine Koz E E (fun hb=>?_) (fun hb=>?_)
  ·exact gO 5 E<|⟨⟨E,E,Kbq E (Kei hb),tV⟩,[],E,.inl E⟩
  exact gO 5 E<|⟨⟨E,E,Kbq E (Kej hb),tV⟩,[],E,.inl E⟩
 refine gO 1 E<|bK h fun q1 hq1 h2=>Kco 4 [(2,B false),(14,B q1)] [] ?_ ?_
 ·refine Koz E E (fun hb=>?_) (fun hb=>?_)
  ·have h3:=cT hq1 hb
   exact bK h3 fun y4 hy4 h5=>gO 1 E<|Kox E<|Kdq C (Lel hy4) E Z E E E E E<|gO 3 E<|oSi h5▸⟨⟨E,E,tV⟩,[],E,.inl E⟩
  have h6:=cF hq1 hb
  exact gO 5 E<|oSi h6▸⟨⟨E,E,tV⟩,[],E,.inl E⟩
 exact gO 4 E<|oSi h2▸gP E E
theorem Lnw{k:Nat}{l:List Str}{r:Int}(h:Lhi k l=some r):Pure Tryz.prog 271 [.d (Sl eS l)] (I r):=by
 unfold Lhi at h
 refine QP Tryz.func271 E E E<|gA 13 E<|jC E h (fun h1=>?_) fun h2=>bK h2 fun y3 hy3 h4=>gA 5 E<|Kdq C (Lno hy3) E Z E E E E E<|gO 4 E<|oSi h4▸gP E E
 exact gA 7 E<|oSi h1▸gP E E
theorem Lnx{n:Int}{r:Int}(h:Lhj n=some r):Pure Tryz.prog 272 [I n] (I r):=by
 unfold Lhj at h
 refine QP Tryz.func272 E E E<|bK h fun y1 hy1 h2=>gA 9 E<|Kdq C (Lnp hy1) E Z E E E E E<|gO 2 E<|jC E h2 (fun h3=>?_) fun h4=>gA 8 E<|oSi h4▸gP E E
 exact gA 7 E<|oSi h3▸gP E E
theorem Lny{k:Nat}{s:Ley}{field:Int}{r:Int}(h:Lhk k s field=some r):Pure Tryz.prog 193 [.agg (fS s),I field] (I r):=by
 unfold Lhk at h
 refine QP Tryz.func193 E E E<|gA 2 E<|Kqg E E E E Z<|bK h fun q1 hq1 h2=>gO 17 E<|Kgr (q:=q1) (fun a3=>[]) (fun a3=>[.box 37 (fS s)]) ?_ ?_
 ·refine gA 7 E<|jC E hq1 (fun h4=>?_) fun h9=>gA 6 E<|jC E h9 (fun h10=>?_) fun h15=>?_
  ·refine bK h4 fun y5 hy5 h6=>gA 5 E<|Kdq C (Lnu hy5) E Z E E E E E<|gO 5 E<|bK h6 fun v7 hv7 h8=>?_
   cases h8
   cases h2
   exact gA 2 E<|oSi hv7▸gP E E
  ·refine bK h10 fun y11 hy11 h12=>gA 4 E<|Kdq C (Lnu hy11) E Z E E E E E<|gO 5 E<|bK h12 fun v13 hv13 h14=>?_
   cases h14
   cases h2
   exact gA 2 E<|oSi hv13▸gP E E
  refine gA 6 E<|jC E h15 (fun h16=>?_) fun h21=>gA 6 E<|jC E h21 (fun h22=>?_) fun h29=>?_
  ·refine bK h16 fun y17 hy17 h18=>gA 5 E<|Kdq C (Lnu hy17) E Z E E E E E<|gO 5 E<|bK h18 fun v19 hv19 h20=>?_
   cases h20
   cases h2
   exact gA 2 E<|oSi hv19▸gP E E
  ·refine bK h22 fun y23 hy23 h24=>gA 4 E<|Kdq C (Lnv hy23) E Z E E E E E<|gO 3 E<|jC E h24 (fun h25=>?_) fun h28=>gA 2 E<|oSi h28▸⟨_,E,⟨tV,[],E,.inl E⟩⟩
   refine gA 7 E<|bK h25 fun v26 hv26 h27=>?_
   cases h27
   cases h2
   exact gA 2 E<|oSi hv26▸gP E E
  refine gA 6 E<|jC E h29 (fun h30=>?_) fun h35=>gA 6 E<|jC E h35 (fun h36=>?_) fun h41=>?_
  ·refine bK h30 fun y31 hy31 h32=>gA 4 E<|Kdq C (Lnu hy31) E Z E E E E E<|gO 5 E<|bK h32 fun v33 hv33 h34=>?_
   cases h34
   cases h2
   exact gA 2 E<|oSi hv33▸gP E E
  ·refine bK h36 fun y37 hy37 h38=>gA 4 E<|Kdq C (Lnw hy37) E Z E E E E E<|gO 5 E<|bK h38 fun v39 hv39 h40=>?_
   cases h40
   cases h2
   exact gA 2 E<|oSi hv39▸gP E E
  refine gA 6 E<|jC E h41 (fun h42=>?_) fun h47=>gA 6 E<|jC E h47 (fun h48=>?_) fun h53=>?_
  ·refine bK h42 fun y43 hy43 h44=>gA 4 E<|Kdq C (Lnx hy43) E Z E E E E E<|gO 5 E<|bK h44 fun v45 hv45 h46=>?_
   cases h46
   cases h2
   exact gA 2 E<|oSi hv45▸gP E E
  ·refine bK h48 fun y49 hy49 h50=>gA 4 E<|Kdq C (Lnx hy49) E Z E E E E E<|gO 5 E<|bK h50 fun v51 hv51 h52=>?_
   cases h52
   cases h2
   exact gA 2 E<|oSi hv51▸gP E E
  exact gA 2 E<|oSi h53▸⟨_,E,⟨tV,[],E,.inl E⟩⟩
 intro a3 ha
 subst ha
 replace h2:=Kgh h2
 exact gA 7 E<|oSi h2▸gP E E
theorem Lnz{s:List Int}{v:Int}{r:Int}(h:Lhl s v=some r):Pure Tryz.prog 273 [.d (Sl (eN .i64) s),I v] (I r):=by
 unfold Lhl at h
 refine QP Tryz.func273 E E E<|gA 13 E<|bK h fun q4 hq4 h5=>Kcy 0 E fun hb7=>Kgo (R:=fun a6=>q4=.go a6) (fun a6=>[]) (fun a6=>[]) ?_ ?_
 ·refine gA 1 E<|Kcx s hq4 (fun i1 s2=>[(0,.d (Sl (eN .i64) s)),(1,I v),(7,I (s.length:Int)),(8,I (i1:Int))]) (fun s2=>[]) ⟨⟨E,E,E,E,tV⟩,[],E,.inl E⟩ (fun i1 x3 s2 y11 hx8 hlt hy9 hout10=>?_) (fun s2 hgo=>?_)
  ·refine gA 6 E<|Kcj E (dT (Int.ofNat_lt.2 hlt))<|gA 15 E<|eo_o E (Kcz hΓ (enc:=(eN .i64)) (Kcs hx8) E E E E E (fun _=>E))<|gO 4 E<|jC E hy9 (fun h12=>?_) fun h15=>gA 7 E ?_
   ·refine gA 9 E<|bK h12 fun v13 hv13 h14=>?_
    cases h14
    obtain rfl:=hout10 _ rfl
    cases h5
    exact gA 4 E<|oSi hv13▸gP E E
   cases h15
   exact⟨_,E,⟨⟨E,E,E,Kbp E (Kbo (nLl hlt hb7)),tV⟩,[],E,.inl E⟩⟩
  subst hgo
  exact gA 6 E<|Kck E (dF (Int.lt_irrefl _))<|gA 4 E<|⟨_,E,⟨tV,[],E,.inl E⟩⟩
 intro a6 ha
 subst ha
 replace h5:=Kgi h5
 exact gA 7 E<|oSi h5▸gP E E
theorem Loa{s:List Int}{v:Int}{r:Bool}(h:Lhm s v=some r):Pure Tryz.prog 194 [.d (Sl (eN .i64) s),I v] (B r):=by
 unfold Lhm at h
 exact QP Tryz.func194 E E E<|bK h fun y1 hy1 h2=>gA 9 E<|Kdq C (Lnz hy1) E Z E E E E E<|gO 5 E<|oSi h2▸gP E E
theorem Lob{s:Ley}{field:Int}{r:Bool}(h:Lhn s field=some r):Pure Tryz.prog 195 [.agg (fS s),I field] (B r):=by
 unfold Lhn at h
 refine QP Tryz.func195 E E E<|gA 2 E<|Kqg E E E E Z<|gO 16 E<|jC E h (fun h1=>?_) fun h2=>gA 6 E<|jC E h2 (fun h3=>?_) fun h4=>?_
 ·exact gA 11 E<|oSi h1▸gP E E
 ·exact gA 11 E<|oSi h3▸gP E E
 refine gA 6 E<|jC E h4 (fun h5=>?_) fun h6=>gA 6 E<|jC E h6 (fun h7=>?_) fun h8=>?_
 ·exact gA 11 E<|oSi h5▸gP E E
 ·exact gA 11 E<|oSi h7▸gP E E
 refine gA 6 E<|jC E h8 (fun h9=>?_) fun h10=>gA 6 E<|jC E h10 (fun h11=>?_) fun h12=>?_
 ·exact gA 11 E<|oSi h9▸gP E E
 ·exact gA 12 E<|oSi h11▸gP E E
 refine gA 6 E<|jC E h12 (fun h13=>?_) fun h14=>gA 6 E<|jC E h14 (fun h15=>?_) fun h16=>?_
 ·exact gA 11 E<|oSi h13▸gP E E
 ·exact gA 11 E<|oSi h15▸gP E E
 exact gA 12 E<|oSi h16▸gP E E
theorem Loc{k:Nat}{s:Ley}{r:Int}(h:Lho k s=some r):Pure Tryz.prog 88 [.agg (fS s)] (I r):=by
 unfold Lho at h
 refine QP Tryz.func88 E E E<|gA 2 E<|Kqg E E E E Z<|bK h fun y1 hy1 h2=>gO 9 E<|Kdq C (Lns hy1) E Z E E E E E<|gO 4 E<|jC E h2 (fun h3=>?_) fun h4=>bK h4 fun y5 hy5 h6=>gA 4 E<|Kdq C (Lnn hy5) E Z E E E E E<|gO 4 E<|jC E h6 (fun h7=>?_) fun h8=>?_
 ·exact gA 8 E<|oSi h3▸gP E E
 ·exact gA 8 E<|oSi h7▸gP E E
 refine bK h8 fun y9 hy9 h10=>gA 4 E<|Kdq C (Lnp hy9) E Z E E E E E<|gO 3 E<|jC E h10 (fun h11=>?_) fun h12=>bK h12 fun y13 hy13 h14=>gA 4 E<|Kdq C (Lnp hy13) E Z E E E E E<|gO 3 E<|jC E h14 (fun h15=>?_) fun h16=>?_
 ·exact gA 8 E<|oSi h11▸gP E E
 ·exact gA 8 E<|oSi h15▸gP E E
 refine bK h16 fun y17 hy17 h18=>gA 7 E<|Kdq C (Lnt hy17) E Z E E E E E<|gO 11 E<|bK h18 fun q22 hq22 h23=>Kcy 3 E fun hb25=>Kgo (R:=fun a24=>q22=.go a24) (fun a24=>[(1,.ptr 0 0),(3,.d (Sl (eN .i64) y17))]) (fun a24=>[.box 37 (fS s)]) ?_ ?_
 ·refine gA 1 E<|Kcx y17 hq22 (fun i19 s20=>[(1,.ptr 0 0),(3,.d (Sl (eN .i64) y17)),(29,.d (Sl (eN .i64) y17)),(30,I (y17.length:Int)),(31,I (i19:Int))]) (fun s20=>[.box 37 (fS s)]) ⟨⟨E,E,E,E,E,tV⟩,[],E,.inl E⟩ (fun i19 x21 s20 y29 hx26 hlt hy27 hout28=>?_) (fun s20 hgo=>?_)
  ·refine gA 6 E<|Kcj E (dT (Int.ofNat_lt.2 hlt))<|gA 6 E<|eo_o E (Kcz hΓ (enc:=(eN .i64)) (Kcs hx26) E E E E E (fun _=>E))<|bK hy27 fun y30 hy30 h31=>gO 8 E<|Kdq C (Lny hy30) E Z E E E E E<|gO 9 E<|jC E h31 (fun h32=>?_) fun h35=>gA 7 E ?_
   ·refine gA 9 E<|bK h32 fun v33 hv33 h34=>?_
    cases h34
    obtain rfl:=hout28 _ rfl
    cases h23
    exact gA 4 E<|oSi hv33▸gP E E
   cases h35
   exact⟨_,E,⟨⟨E,E,E,E,Kbp E (Kbo (nLl hlt hb25)),tV⟩,[],E,.inl E⟩⟩
  subst hgo
  exact gA 6 E<|Kck E (dF (Int.lt_irrefl _))<|gA 4 E<|⟨_,E,⟨⟨E,E,tV⟩,[],E,.inl E⟩⟩
 intro a24 ha
 subst ha
 replace h23:=Kgi h23
 refine gA 7 E<|bK h23 fun q39 hq39 h40=>Kgo (R:=fun a41=>q39=.inl a41) (fun a41=>[]) (fun a41=>[.box 37 (fS s)]) ?_ ?_
 ·refine gA 1 E<|Kcv hq39 (fun s37=>[(1,.ptr 0 0),(3,.d (Sl (eN .i64) y17)),(42,I s37)]) (fun s37=>[.box 37 (fS s)]) ⟨⟨E,E,E,tV⟩,[],E,.inl E⟩ (fun s37 y45 hy43 hout44=>?_)
  refine gA 6 E<|jC E hy43 (fun h46=>?_) fun h59=>gA 4 E ?_
  ·refine bK h46 fun y47 hy47 h48=>gA 14 E<|Kdq C (Loa hy47) E Z E E E E E<|gO 2 E<|bK h48 fun q49 hq49 h50=>Kco 5 [(1,.ptr 0 0),(3,.d (Sl (eN .i64) y17)),(42,I s37),(54,B q49)] [.box 37 (fS s)] ?_ ?_
   ·refine Koz E E (fun hb=>?_) (fun hb=>?_)
    ·have h51:=cT hq49 hb
     exact bK h51 fun y52 hy52 h53=>gO 2 E<|Kox E<|Kdq C (Lob hy52) E Z E E E E E<|gO 3 E<|oSi h53▸⟨⟨E,E,E,E,tV⟩,[],E,.inl E⟩
    have h54:=cF hq49 hb
    exact gO 6 E<|oSi h54▸⟨⟨E,E,E,E,tV⟩,[],E,.inl E⟩
   refine gO 2 E<|jC E h50 (fun h55=>?_) fun h58=>gA 7 E<|oSi h58▸⟨_,E,⟨⟨E,E,E,tV⟩,[],E,.inl E⟩⟩
   refine gA 8 E<|bK h55 fun v56 hv56 h57=>?_
   cases h57
   obtain rfl:=hout44 _ rfl
   cases h40
   exact gA 4 E<|oSi hv56▸gP E E
  cases h59
  obtain rfl:=hout44 _ rfl
  exact⟨_,E,⟨tV,[],E,.inl E⟩⟩
 intro a41 ha
 subst ha
 replace h40:=Kgh h40
 exact gA 7 E<|oSi h40▸gP E E
theorem Lod{a:Ley}{b:Ley}{r:Int}(h:Lhp a b=some r):Pure Tryz.prog 89 [.agg (fS a),.agg (fS b)] (I r):=by
 unfold Lhp at h
 exact QP Tryz.func89 E E E<|gA 2 E<|Kqg E E E E Z<|Kqg E E E E Z<|gO 4 E<|jD<|bK h fun y1 hy1 h2=>gA 4 E<|Kdr C (Lmk hy1) E E E E E E<|bK h2 fun y3 hy3 h4=>Kcg hΓ 4 E<|Kdr C (Lem hy3) E E E E E E<|bK h4 fun y5 hy5 h6=>Kcg hΓ 4 E<|Kdr C (Lmk hy5) E E E E E E<|Kdl hΓ (enc:=(eN .i64)) [y1,y3,y5] E E E E E E E E E E E E<|bK h6 fun y7 hy7 h8=>Kdr C (Lml hy7) E E E E E E<|Kcg hΓ 4 E<|oSi h8▸gP E E
theorem Loe{s:Ley}{r:Lfb}(h:Lhq s=some r):Pure Tryz.prog 92 [.agg (fS s)] (.agg [S r.server,I r.no]):=by
 unfold Lhq at h
 exact QP Tryz.func92 E E E<|gA 2 E<|Kqg E E E E Z<|Kqf hΓ E E E Z<|gO 8 E<|Kam hΓ (gs:=[S s.Server,I s.No]) E E E E E E E<|Kqk hΓ E E E E E E E E Z<|Kdx [.box 37 (fS s),.box 150 [S s.Server,I s.No]] E<|gO 3 E<|oSi h▸gP E E
theorem Lof{k:Nat}{l:List Ley}{r:Int}(h:Lhr k l=some r):Pure Tryz.prog 33 [.d (Sl Lln l)] (I r):=by
 unfold Lhr at h
 refine QP Tryz.func33 E E E<|gA 13 E<|jC E h (fun h1=>?_) fun h2=>gA 4 E<|eo_s Z (nblt.1 E) (Khw false)<|Kdx [mOb (kD Llq) false eB ([]:List (Lfb×Bool))] E<|gO 11 E<|bK h2 fun q6 hq6 h7=>Kcy 0 E fun hb9=>Kgo (R:=fun a8=>q6=.go a8) (fun a8=>[]) (fun a8=>[mOb (kD Llq) false eB a8]) ?_ ?_
 ·exact gA 7 E<|oSi h1▸gP E E
 ·refine gA 1 E<|Kcx l hq6 (fun i3 s4=>[(0,.d (Sl Lln l)),(3,.map 0),(11,.d (Sl Lln l)),(12,I (l.length:Int)),(13,I (i3:Int))]) (fun s4=>[mOb (kD Llq) false eB s4]) ⟨⟨E,E,E,E,E,tV⟩,[],E,.inl E⟩ (fun i3 x5 s4 y13 hx10 hlt hy11 hout12=>?_) (fun s4 hgo=>?_)
  ·refine gA 6 E<|Kcj E (dT (Int.ofNat_lt.2 hlt))<|gA 7 E<|eo_o E (Kcz hΓ (enc:=Lln) (Kcs hx10) E E E E E (fun _=>E))<|gO 1 E<|Kqf hΓ E E E Z<|gO 1 E<|Kqk hΓ E E E E E E E E Z<|Kdx [mOb (kD Llq) false eB s4,.box 37 (fS x5)] E<|bK hy11 fun y14 hy14 h15=>gO 6 E<|Kdq C (Loc hy14) E Z E E E E E<|gO 9 E<|jC E h15 (fun h16=>?_) fun h19=>bK h19 fun q20 hq20 h21=>gA 4 E<|Kgp [(0,.d (Sl Lln l)),(3,.map 0),(5,.ptr 1 0),(11,.d (Sl Lln l)),(12,I (l.length:Int)),(13,I (i3:Int)),(34,B q20)] [mOb (kD Llq) false eB s4,.box 37 (fS x5)] ?_ ?_
   ·refine gA 10 E<|bK h16 fun v17 hv17 h18=>?_
    cases h18
    obtain rfl:=hout12 _ rfl
    cases h7
    exact gA 4 E<|oSi hv17▸gP E E
   ·refine jD<|gA 3 E<|Kaw E E (fun hb=>?_) (fun hb=>?_)
    ·have h22:=cT hq20 hb
     exact bK h22 fun x23 hx23 h24=>Kcg hΓ 3 E<|Kbr E E (Kcz hΓ (enc:=Lln) hx23 E E E E E (fun _=>E))<|bK h24 fun y25 hy25 h26=>Kcg hΓ 2 E<|Kds C (Lod hy25) E E E E E E E<|Kcg hΓ 3 E<|oSi h26▸⟨⟨E,E,E,E,E,E,E,tV⟩,[],E,.inl E⟩
    have h27:=cF hq20 hb
    exact Kcg hΓ 10 E<|oSi h27▸⟨⟨E,E,E,E,E,E,E,tV⟩,[],E,.inl E⟩
   refine gA 1 E<|jC E h21 (fun h28=>?_) fun h31=>bK h31 fun y32 hy32 h33=>gA 7 E<|Kdq C (Loe hy32) E Z E E E E E<|eo_o E (Kli hΓ (kenc:=Llq) (agg:=false) (enc:=eB) s4 y32 (false:Bool) E E E Lnq (fun _=>E) E E E E E E E)<|gO 2 E<|jC E h33 (fun h34=>?_) fun h37=>?_
   ·refine gA 9 E<|bK h28 fun v29 hv29 h30=>?_
    cases h30
    obtain rfl:=hout12 _ rfl
    cases h7
    exact gA 4 E<|oSi hv29▸gP E E
   ·refine gA 9 E<|bK h34 fun v35 hv35 h36=>?_
    cases h36
    obtain rfl:=hout12 _ rfl
    cases h7
    exact gA 4 E<|oSi hv35▸gP E E
   refine bK h37 fun y38 hy38 h39=>gA 5 E<|Kdq C (Loe hy38) E Z E E E E E<|eo_u Z (Klj hΓ (kenc:=Llq) (agg:=false) (enc:=eB) (id:=0) s4 y38 true E E Lnq (fun _=>E) E E E E E)<|Kdx [mOb (kD Llq) false eB (mSet s4 y38 true),.box 37 (fS x5)] E<|gO 7 E ?_
   cases h39
   exact⟨_,E,⟨⟨E,E,E,E,Kbp E (Kbo (nLl hlt hb9)),tV⟩,[_],E,.inr ⟨HB.mk E,FB.mk E,Z⟩⟩⟩
  subst hgo
  exact gA 6 E<|Kck E (dF (Int.lt_irrefl _))<|gA 4 E<|⟨_,E,⟨tV,[],E,.inl E⟩⟩
 intro a8 ha
 subst ha
 replace h7:=Kgi h7
 exact gA 7 E<|oSi h7▸gP E E
theorem Log{k:Nat}{d:Lex}{l:List Ley}{r:Int}(h:Lhs k d l=some r):Pure Tryz.prog 85 [.agg (fD d),.d (Sl Lln l)] (I r):=by
 unfold Lhs at h
 refine QP Tryz.func85 E E E<|gA 2 E<|Kqg E E E E Z<|bK h fun y1 hy1 h2=>gO 7 E<|Kdq C (Lnr hy1) E Z E E E E E<|gO 9 E<|jC E h2 (fun h3=>?_) fun h4=>bK h4 fun y5 hy5 h6=>gA 5 E<|Kdq C (Lof hy5) E Z E E E E E<|gO 4 E<|oSi h6▸gP E E
 exact gA 8 E<|oSi h3▸gP E E
theorem Loh{d:Lex}{r:Lfe}(h:Lht d=some r):EC Tryz.prog 86 [.agg (fD d)] [] fun g hp'=>g=.ptr 4 0∧hp'=(oN r 0 1 2 3 []):=by
 unfold Lht at h
 refine QM Tryz.func86 E Z<|gA 2 E<|Kqg E E E E Z<|gO 6 E<|eo_s Z (nblt.1 E) (Khw false)<|Kdx [.box 29 (fD d),mObB ([]:List (Str×Bool))] E<|eo_s Z (nblt.1 E) (Khw false)<|Kdx [.box 29 (fD d),mObB ([]:List (Str×Bool)),mObH ([]:List (Str×Nat))] E<|eo_s Z (nblt.1 E) (Khw true)<|Kdx [.box 29 (fD d),mObB ([]:List (Str×Bool)),mObH ([]:List (Str×Nat)),mObM ([]:List (Str×Lfc))] E<|eo_s Z (nblt.1 E) (Khw false)<|Kdx [.box 29 (fD d),mObB ([]:List (Str×Bool)),mObH ([]:List (Str×Nat)),mObM ([]:List (Str×Lfc)),mObT ([]:List (Str×(Tl Lfd)))] E<|Kam hΓ (gs:=[.d (Sl eS d.Users),.d (Sl Lll d.Owners),I d.Life,B d.Approve,.map 1,.map 2,.map 3,.map 4]) E E E E E E E<|Kqg E E E E Z<|gO 12 E<|bK h fun q4 hq4 h5=>Kcy 14 E fun hb7=>Kgp [(3,.ptr 5 0)] [.box 29 (fD d),mObB q4,mObH ([]:List (Str×Nat)),mObM ([]:List (Str×Lfc)),mObT ([]:List (Str×(Tl Lfd))),.box 206 [.d (Sl eS d.Users),.d (Sl Lll d.Owners),I d.Life,B d.Approve,.map 1,.map 2,.map 3,.map 4]] ?_ ?_
 ·refine gA 1 E<|Kee d.Users hq4 (fun i1 s2=>[(3,.ptr 5 0),(14,.d (Sl eS d.Users)),(15,I (d.Users.length:Int)),(16,I (i1:Int))]) (fun s2=>[.box 29 (fD d),mObB s2,mObH ([]:List (Str×Nat)),mObM ([]:List (Str×Lfc)),mObT ([]:List (Str×(Tl Lfd))),.box 206 [.d (Sl eS d.Users),.d (Sl Lll d.Owners),I d.Life,B d.Approve,.map 1,.map 2,.map 3,.map 4]]) ⟨⟨E,E,E,E,tV⟩,[],E,.inl E⟩ (fun i1 x3 s2 y11 hx8 hlt hy9=>?_) (?_)
  ·refine gA 6 E<|Kcj E (dT (Int.ofNat_lt.2 hlt))<|gA 6 E<|eo_o E (Kcz hΓ (enc:=eS) (Kcs hx8) E E E E E (fun _=>E))<|gO 10 E<|eo_u Z (Kie hΓ (kv:=kS) (agg:=false) (enc:=eB) (id:=1) s2 x3 true E E E Khq E E E E E)<|Kdx [.box 29 (fD d),mObB (mSet s2 x3 true),mObH ([]:List (Str×Nat)),mObM ([]:List (Str×Lfc)),mObT ([]:List (Str×(Tl Lfd))),.box 206 [.d (Sl eS d.Users),.d (Sl Lll d.Owners),I d.Life,B d.Approve,.map 1,.map 2,.map 3,.map 4]] E<|gO 7 E ?_
   cases hy9
   exact⟨⟨E,E,E,Kbp E (Kbo (nLl hlt hb7)),tV⟩,[],E,.inl E⟩
  exact gA 6 E<|Kck E (dF (Int.lt_irrefl _))<|gA 4 E<|⟨⟨E,tV⟩,[],E,.inl E⟩
 exact gA 8 E<|Kix 0 [.dead,mObB q4,mObH ([]:List (Str×Nat)),mObM ([]:List (Str×Lfc)),mObT ([]:List (Str×(Tl Lfd))),.box 206 [.d (Sl eS d.Users),.d (Sl Lll d.Owners),I d.Life,B d.Approve,.map 1,.map 2,.map 3,.map 4]] E Z<|Kgn 1 0 [mObB q4,.dead,mObH ([]:List (Str×Nat)),mObM ([]:List (Str×Lfc)),mObT ([]:List (Str×(Tl Lfd))),.box 206 [.d (Sl eS d.Users),.d (Sl Lll d.Owners),I d.Life,B d.Approve,.map 0,.map 2,.map 3,.map 4]] E E E E E E<|Kgn 2 1 [mObB q4,mObH ([]:List (Str×Nat)),.dead,mObM ([]:List (Str×Lfc)),mObT ([]:List (Str×(Tl Lfd))),.box 206 [.d (Sl eS d.Users),.d (Sl Lll d.Owners),I d.Life,B d.Approve,.map 0,.map 1,.map 3,.map 4]] E E E E E E<|Kgn 3 2 [mObB q4,mObH ([]:List (Str×Nat)),mObM ([]:List (Str×Lfc)),.dead,mObT ([]:List (Str×(Tl Lfd))),.box 206 [.d (Sl eS d.Users),.d (Sl Lll d.Owners),I d.Life,B d.Approve,.map 0,.map 1,.map 2,.map 4]] E E E E E E<|Kgn 4 3 [mObB q4,mObH ([]:List (Str×Nat)),mObM ([]:List (Str×Lfc)),mObT ([]:List (Str×(Tl Lfd))),.dead,.box 206 [.d (Sl eS d.Users),.d (Sl Lll d.Owners),I d.Life,B d.Approve,.map 0,.map 1,.map 2,.map 3]] E E E E E E<|Kgn 5 4 [mObB q4,mObH ([]:List (Str×Nat)),mObM ([]:List (Str×Lfc)),mObT ([]:List (Str×(Tl Lfd))),.box 206 [.d (Sl eS d.Users),.d (Sl Lll d.Owners),I d.Life,B d.Approve,.map 0,.map 1,.map 2,.map 3],.dead] E E E E E E<|Kgk<|oSi h5▸Kec hΓ [_] (.inr E) E E E E (.inr ⟨HB.mk E,E⟩)
theorem Loi{p:Nat}{v_at:Int}{al:BagT}{r:Int}(h:Lhu p v_at al=some r):EC Tryz.prog 264 [.d (.hd (some 0) p),I v_at] [bg al] fun g hp'=>g=I r∧hp'=[bg al]:=by
 unfold Lhu at h
 refine QN Tryz.func264 E Z<|gA 10 E<|eo_o E ((Kkz hΓ E E E E).1)<|gO 3 E<|jC E h (fun h1=>?_) fun h2=>gK h2 fun hg4 h3=>gA 3 E<|eo_o E (Kmi hg4 E)<|eo_o E (Kmj hΓ hg4 E E E E E E)<|bK h3 fun m5 hm5 h6=>eo_o E (Kmk hΓ (enc:=Llu) (bg:=0) m5 E E (ArU.l _ (Kko (fun _ _=>E) hm5 m5)) E (g:=B m5.revoked) E E)<|gO 1 E<|bK h6 fun q7 hq7 h8=>Kco 8 [(0,.d (.hd (some 0) p)),(21,B q7)] [bg al] ?_ ?_
 ·exact gA 8 E<|oSi h1▸Kec hΓ [] (.inr E) E E E E (.inl E)
 ·refine Koz E E (fun hb=>?_) (fun hb=>?_)
  ·have h9:=cT hq7 hb
   exact gO 9 E<|oSi h9▸⟨⟨E,E,tV⟩,[],E,.inl E⟩
  have h10:=cF hq7 hb
  exact gK h10 fun hg12 h11=>gO 2 E<|Kox E<|eo_o E (Kmi hg12 E)<|Kox E<|eo_o E (Kmj hΓ hg12 E E E E E E)<|Kox E<|eo_o E (Kmj hΓ hg12 E E E E E E)<|bK h11 fun m13 hm13 h14=>Kox E<|eo_o E (Kmk hΓ (enc:=Llu) (bg:=0) m13 E E (ArU.l _ (Kko (fun _ _=>E) hm13 m13)) E (g:=I m13.Join.Until) E E)<|gO 3 E<|oSi h14▸⟨⟨E,E,tV⟩,[],E,.inl E⟩
 refine gO 3 E<|jC E h8 (fun h15=>?_) fun h16=>gA 1 E<|jD<|gK h16 fun hg18 h17=>gA 1 E<|gl_o E (Kmi hg18 E)<|gl_o E (Kmj hΓ hg18 E E E E E E)<|bK h17 fun m19 hm19 h20=>gl_o E (Kmk hΓ (enc:=Llu) (bg:=0) m19 E E (ArU.l _ (Kko (fun _ _=>E) hm19 m19)) E (g:=I m19.used) E E)<|gK h20 fun hg22 h21=>Kcg hΓ 1 E<|gl_o E (Kmi hg22 E)<|gl_o E (Kmj hΓ hg22 E E E E E E)<|gl_o E (Kmj hΓ hg22 E E E E E E)<|bK h21 fun m23 hm23 h24=>gl_o E (Kmk hΓ (enc:=Llu) (bg:=0) m23 E E (ArU.l _ (Kko (fun _ _=>E) hm23 m23)) E (g:=I m23.Join.Left) E E)<|Kcg hΓ 4 E<|jC E h24 (fun h25=>?_) fun h26=>?_
 ·exact gA 8 E<|oSi h15▸Kec hΓ [] (.inr E) E E E E (.inl E)
 ·exact gA 8 E<|oSi h25▸Kec hΓ [] (.inr E) E E E E (.inl E)
 exact gA 9 E<|oSi h26▸Kec hΓ [] (.inr E) E E E E (.inl E)
theorem Loj{n:Lfe}{v_public:Str}{r:Bool}(h:Lhv n v_public=some r):EC Tryz.prog 265 [.ptr 4 0,S v_public] (oN n 0 1 2 3 []) fun g hp'=>g=B r∧hp'=(oN n 0 1 2 3 []):=by
 unfold Lhv at h
 refine QN Tryz.func265 E Z<|gA 12 E<|Kiq hΓ (kv:=kS) (agg:=true) (enc:=Llr) n.there E E E E E Z (fun mr1 bs2 cl3 hpm4 hbl5 hbn6=>?_)
 refine Kdx [mObB n.users,mObH n.passes,mObS kS true Llr n.there (rawM kS Llr mr1 bs2 cl3),mObT n.story,bN n 0 1 2 3,.iter 2 cl3 []] E<|gO 2 E<|bK h fun q12 hq12 h13=>gA 1 E<|Klm hq12 hpm4 hbl5 hbn6 (fun s7=>[(1,S v_public),(11,.ptr 5 0)]) (fun sn9 s7=>[mObB n.users,mObH n.passes,mObS kS true Llr n.there (rawM kS Llr mr1 bs2 cl3),mObT n.story,bN n 0 1 2 3,.iter 2 cl3 sn9]) ⟨⟨E,E,tV⟩,[],E,.inl E⟩ (fun sn9 s7 hdone14 hstep15=>?_)
 refine gA 2 E<|Kir (kv:=kS) (agg:=true) (enc:=Llr) n.there mr1 bs2 cl3 sn9 (oN n 0 1 2 3 [.dead]) E E E E E Z (fun hdsn9=>?_) (fun j10 x8 b11 hjsn9 hbsn9 hnsn9=>?_)
 ·have hqsn9:=hdone14 hdsn9
  subst hqsn9
  replace h13:=Kgi h13
  exact gO 16 E<|oSi h13▸Kec hΓ [_] (.inr E) E E E E (.inr ⟨HB.mk E,E⟩)
 obtain⟨s16,h17,houtsn9⟩:=hstep15 j10 x8 b11 hjsn9 hbsn9 hnsn9
 have hssn9:=h17
 refine gO 10 E<|eo_o E (Kis (kv:=kS) (agg:=true) (enc:=Llr) n.there mr1 bs2 cl3 sn9 hjsn9 hbsn9 E E E E (fun _=>E))<|gO 1 E<|Kqf hΓ E E E Z<|Kqk hΓ E E E E E E E E Z<|Kdx [mObB n.users,mObH n.passes,mObS kS true Llr n.there (rawM kS Llr mr1 bs2 cl3),mObT n.story,bN n 0 1 2 3,.iter 2 cl3 (sn9++[b11]),.box 77 (fM x8.2)] E<|gO 10 E<|jC E h17 (fun h18=>?_) fun h21=>gA 2 E ?_
 ·refine gA 5 E<|Kni (kv:=kS) (agg:=true) (enc:=Llr) (id:=2) n.there (oN n 0 1 2 3 [.iter 2 cl3 (sn9++[b11]),.box 77 (fM x8.2)]) E E Z<|gA 2 E<|bK h18 fun v19 hv19 h20=>?_
  cases h20
  obtain rfl:=houtsn9 _ rfl
  cases h13
  exact gA 3 E<|oSi hv19▸Kec hΓ [_,_] (.inr E) E E E E (.inr ⟨HB.mk E,E⟩)
 cases h21
 exact⟨j10,x8,b11,_,hjsn9,hbsn9,hnsn9,hssn9,⟨⟨E,E,tV⟩,[_],E,.inr ⟨HB.mk E,FB.mk E,Z⟩⟩⟩
theorem Lok{s:List Str}{r:List Str}(h:Lhw s=some r):EC Tryz.prog 213 [.d (Sl eS s)] [] fun g hp'=>g=.sl 0 r.length∧hp'=[rO 9 1 eS r]:=by
 unfold Lhw at h
 refine QM Tryz.func213 E Z<|gA 2 E<|Kdn (t:=0) 9 1 E Z<|gO 6 E<|Kbz hΓ E E E E E fun b hbn=>?_
 rcases b with _ | _
 ·exact gO 7 E<|Kdm hΓ (enc:=eS) ([]:List Str) E E E E E E E E E E E E Z<|bK h fun y1 hy1 h2=>gO 1 E<|Kdy hΓ (enc:=eS) hy1 E E E E E E E E E (fun _=>E) E E E E<|gO 3 E<|Kjb 0 [.dead,rO 9 1 eS y1] E Z<|Kfg 1 0 [rO 9 1 eS y1,.dead] E E E E E E<|gA 1 E<|Kgk<|oSi h2▸Kec hΓ [_] (.inr E) E E E E (.inr ⟨HB.mk E,E⟩)
 obtain rfl:=List.eq_nil_of_length_eq_zero (hbn rfl).1
 replace h:(some ([]:List Str):Option (List Str))=some r:=h
 exact gO 5 E<|Kdn (t:=0) 9 1 E Z<|gO 4 E<|Kix 0 [.dead,rO 9 1 eS ([]:List Str)] E Z<|Kgn 1 0 [rO 9 1 eS ([]:List Str),.dead] E E E E E E<|Kgk<|oSi h▸Kec hΓ [_] (.inr E) E E E E (.inr ⟨HB.mk E,E⟩)
theorem Lol{n:Lfe}{v_at:Int}{user:Str}{r:Int}(h:Lhx n v_at user=some r):EC Tryz.prog 266 [.ptr 4 0,I v_at,S user] (oN n 0 1 2 3 []) fun g hp'=>g=I r∧hp'=(oN n 0 1 2 3 []):=by
 unfold Lhx at h
 refine QN Tryz.func266 E Z<|gA 12 E<|jC E h (fun h1=>?_) fun h2=>gA 16 E<|oSi h2▸Kec hΓ [] (.inr E) E E E E (.inl E)
 exact gA 7 E<|oSi h1▸Kec hΓ [] (.inr E) E E E E (.inl E)
theorem Lom{n:Lfe}{v_at:Int}{m:Lfc}{key:Bool}{al:BagT}{r:Lfe×BagT}(h:Lhy n v_at m key al=some r):EC Tryz.prog 267 [.ptr 4 0,I v_at,.agg (fM m),B key] (oN n 0 1 2 3 [bg al]) fun g hp'=>g=.tup []∧hp'=(oN r.1 0 1 2 3 [bg r.2]):=by
 unfold Lhy at h
 exact QM Tryz.func267 E Z<|gA 2 E<|Kqg E E E E Z<|gO 3 E<|Kfl [.dead,.dead,.dead,.dead,bN n 0 1 2 3,.dead,.box 77 (fM m)] [3,5,6] [7] [] hmix (by kernel_rfl) (by kernel_rfl) ⟨E,E,tV⟩ Z<|go_E hΓ 7 E<|Kft [mObB n.users,mObH n.passes,mObM (mSet n.there m.Node m),mObT n.story,bN n 0 1 2 3,bg al,.box 77 (fM m)] E E (Kfv ⟨E,E,tV⟩) (Kfz (Kie hΓ (kv:=kS) (agg:=true) (enc:=Llr) (id:=2) n.there m.Node m E E E Khq E E E E E))<|Kfn<|gA 1 E<|Kfl [.dead,.dead,.dead,mObT n.story,bN n 0 1 2 3,.dead,.box 77 (fM m)] [3,5,9,11,12,14] [18,19] [19] hmix (by kernel_rfl) (by kernel_rfl) ⟨E,E,E,tV⟩ Z<|go_E hΓ 12 E<|ge_p E (fun hp hs=>Kkf hΓ (kv:=kS) (te:=233) (sz:=11) (enc:=Lls) n.story m.Node E E E E Khq E (hs 3 _ E E) E E E) E<|go_E hΓ 3 E<|ge_q E (.inl E) (fun _ _=>Kfo (qt_p (Kgf hΓ (gs:=[I v_at,S m.Node,S m.User,S m.Name,S m.Public,.d (Sl eS m.Tags),I m.Joined,I m.Expires,B m.Approved,B false,B key]) E E E E E E)))<|Kgc hΓ (enc:=Lls) [(⟨v_at,m,false,key⟩:Lfd)] E E E E E E E E E E E E<|bK h fun y1 hy1 h2=>ge_h [mObB n.users,mObH n.passes,mObM (mSet n.there m.Node m),mObT n.story,bN n 0 1 2 3,.bag y1.2 (arX al.2.1 al.2.2.1 al.2.2.2.1 al.2.2.2.2.1 al.2.2.2.2.2) [],.box 77 (fM m)] E E E (Kfv ⟨E,E,E,tV⟩) (Kfy (Kjm hΓ (enc:=Lls) (bg:=5) hy1 E E E E E E E E (fun _=>E) E E))<|Kft [mObB n.users,mObH n.passes,mObM (mSet n.there m.Node m),mObT (mSet n.story m.Node y1.1),bN n 0 1 2 3,.bag y1.2 (arX al.2.1 al.2.2.1 al.2.2.2.1 al.2.2.2.2.1 al.2.2.2.2.2) [],.box 77 (fM m)] E E (Kfu E) (Kfz (Kie hΓ (kv:=kS) (agg:=false) (enc:=(eT 233 11 Lls)) (id:=3) n.story m.Node y1.1 E E E Khq E E E E E))<|Kfn<|Kgk<|oSi h2▸Kec hΓ [_] (.inl E) E E E E (.inr ⟨HB.mk E,E⟩)
theorem Lon{n:Lfe}{s:Ley}{al:BagT}{r:Int×Lfe×BagT}(h:Lhz n s al=some r):EC Tryz.prog 188 [.ptr 4 0,.agg (fS s)] (oN n 0 1 2 3 [bg al]) fun g hp'=>g=I r.1∧hp'=(oN r.2.1 0 1 2 3 [bg r.2.2]):=by
 unfold Lhz at h
 refine QM Tryz.func188 E Z<|gA 2 E<|Kqg E E E E Z<|gO 15 E<|jC E h (fun h1=>?_) fun h2=>gA 3 E<|jD<|gA 6 E<|gl_o E (Kkv hΓ (kv:=kS) (agg:=false) (enc:=(eH (some 0))) n.passes s.Join (0:Nat) E E E E Khq E E E (Kku E) E)<|bK h2 fun q3 hq3 h4=>Kcg hΓ 5 E<|Kgp [(0,.ptr 4 0),(3,.ptr 6 0),(5,.d (.hd (some 0) ((mGet n.passes s.Join).getD 0))),(43,B q3)] (oN n 0 1 2 3 [bg al,.box 37 (fS s)]) ?_ ?_
 ·exact gA 7 E<|Kgk<|oSi h1▸Kec hΓ [_] (.inr E) E E E E (.inr ⟨HB.mk E,E⟩)
 ·refine jD<|gA 4 E<|Kaw E E (fun hb=>?_) (fun hb=>?_)
  ·have h5:=cT hq3 hb
   refine Kcg hΓ 6 E<|Kbr E E (Kia hΓ (kv:=kS) (agg:=false) (enc:=eB) n.users s.By (false:Bool) E E E E Khq E E E E E E E)<|Kcg hΓ 3 E<|Kaw E E (fun hb=>?_) (fun hb=>?_)
   ·have h6:=cT h5 hb
    exact Kcg hΓ 9 E<|oSi h6▸⟨⟨E,E,E,E,tV⟩,[],E,.inl E⟩
   have h7:=cF h5 hb
   refine Kcg hΓ 4 E<|Kaw E E (fun hb=>?_) (fun hb=>?_)
   ·have h8:=cT h7 hb
    exact Kcg hΓ 1 E<|Kbr E E ((Kkz hΓ E E E E).1)<|Kcg hΓ 3 E<|oSi h8▸⟨⟨E,E,E,E,tV⟩,[],E,.inl E⟩
   have h9:=cF h7 hb
   exact Kcg hΓ 5 E<|oSi h9▸⟨⟨E,E,E,E,tV⟩,[],E,.inl E⟩
  have h10:=cF hq3 hb
  refine Kcg hΓ 14 E<|Kaw E E (fun hb=>?_) (fun hb=>?_)
  ·have h11:=cT h10 hb
   exact Kcg hΓ 1 E<|Kbr E E ((Kkz hΓ E E E E).1)<|Kcg hΓ 3 E<|oSi h11▸⟨⟨E,E,E,E,tV⟩,[],E,.inl E⟩
  have h12:=cF h10 hb
  exact Kcg hΓ 5 E<|oSi h12▸⟨⟨E,E,E,E,tV⟩,[],E,.inl E⟩
 refine gA 1 E<|jC E h4 (fun h13=>?_) fun h14=>bK h14 fun y15 hy15 h16=>gA 8 E<|Kdp [5] (I y15) (oN n 0 1 2 3 [bg al,.box 37 (fS s)]) C (Loi hy15) E Z E E E E E E E E E E<|gO 9 E<|jC E h16 (fun h17=>?_) fun h18=>?_
 ·exact gA 7 E<|Kgk<|oSi h13▸Kec hΓ [_] (.inr E) E E E E (.inr ⟨HB.mk E,E⟩)
 ·exact gA 8 E<|Kgk<|oSi h17▸Kec hΓ [_] (.inr E) E E E E (.inr ⟨HB.mk E,E⟩)
 refine gA 5 E<|jD<|gA 6 E<|gl_o E (Kkf hΓ (kv:=kS) (te:=233) (sz:=11) (enc:=Lls) n.story s.Node E E E E Khq E E E E E)<|bK h18 fun b19 hb19 h20=>gl_o E ((Kmo hΓ hb19 E E E E).2)<|Kcg hΓ 3 E<|jC E h20 (fun h21=>?_) fun h22=>bK h22 fun y23 hy23 h24=>gA 5 E<|Kdp [0,1,2,3,4] (B y23) (oN n 0 1 2 3 [bg al,.box 37 (fS s)]) C (Loj hy23) E Z E E E E E E E E E E<|gO 3 E<|jC E h24 (fun h25=>?_) fun h26=>?_
 ·exact gA 8 E<|Kgk<|oSi h21▸Kec hΓ [_] (.inr E) E E E E (.inr ⟨HB.mk E,E⟩)
 ·exact gA 8 E<|Kgk<|oSi h25▸Kec hΓ [_] (.inr E) E E E E (.inr ⟨HB.mk E,E⟩)
 refine gA 6 E<|eo_o E (Kiu hΓ (kv:=kS) (agg:=true) (enc:=Llr) n.there E E E E)<|gO 4 E<|jC E h26 (fun h27=>?_) fun h28=>gA 4 E<|Kfl [.dead,.dead,.dead,.dead,bN n 0 1 2 3,.dead,.box 37 (fS s)] [1,3,5,7,9,14] [17,18] [] hmix (by kernel_rfl) (by kernel_rfl) ⟨E,E,tV⟩ Z<|go_E hΓ 16 E<|ge_q E (.inl E) (fun _ _=>Kfo (qt_p (Kgf hΓ (gs:=[S s.Node,S s.By,S s.Name,S s.Public,.d (Sl eS []),I s.At,I 0,B (!n.d.Approve)]) E E E E E E)))<|ge_h (oN n 0 1 2 3 [bg al,.box 37 (fS s),.box 77 [S [],S [],S [],S [],.d (Sl eS []),I 0,I 0,B false]]) E E E (Kfv ⟨E,E,tV⟩) (Kfy (Kgd hΓ (hi:=show Γ 77=some ⟨_,_,_,_⟩ from E) E))<|Kft (oN n 0 1 2 3 [bg al,.box 37 (fS s),.box 77 [S s.Node,S s.By,S s.Name,S s.Public,.d (Sl eS []),I s.At,I 0,B (!n.d.Approve)]]) E E (Kfv ⟨E,E,tV⟩) (Kfz (Khb hΓ E E E E E E E E E))<|Kfn<|gA 5 E<|eo_o E ((Kkz hΓ E E E E).2)<|bK h28 fun q29 hq29 h30=>gO 2 E<|Kgp [(0,.ptr 4 0),(3,.ptr 6 0),(7,.ptr 7 0)] (oN n 0 1 2 3 [bg q29.1,.box 37 (fS s),.box 77 (fM q29.2)]) ?_ ?_
 ·exact gA 8 E<|Kgk<|oSi h27▸Kec hΓ [_] (.inr E) E E E E (.inr ⟨HB.mk E,E⟩)
 ·refine jC E hq29 (fun h31=>?_) fun h66=>gA 1 E<|oSi h66▸⟨⟨E,E,E,tV⟩,[],E,.inl E⟩
  refine gK h31 fun hg33 h32=>gA 3 E<|eo_o E (Kmi hg33 E)<|eo_o E (Kmj hΓ hg33 E E E E E E)<|bK h32 fun m34 hm34 h35=>eo_o E (Kmk hΓ (enc:=Llu) (bg:=5) m34 E E (ArU.l _ (Kko (fun _ _=>E) hm34 m34)) E (g:=I m34.used) E E)<|gK h35 fun hg37 h36=>gO 1 E<|eo_o E (Kmi hg37 E)<|eo_o E (Kmj hΓ hg37 E E E E E E)<|bK h36 fun m38 hm38 h39=>eo_u Z (Kml hΓ (enc:=Llu) (bg:=5) m38 (⟨m38.Join,m38.revoked,wi (m34.used+1)⟩:Lfg) E E (ArU.l _ (Kko (fun _ _=>E) hm38 (⟨m38.Join,m38.revoked,wi (m34.used+1)⟩:Lfg))) E E (by intro e;cases e) E E E E E E E) ?_
  refine Kdx (oN n 0 1 2 3 [.bag al.1 (arX (hSet al.2.1 ((mGet n.passes s.Join).getD 0) (⟨m38.Join,m38.revoked,wi (m34.used+1)⟩:Lfg)) al.2.2.1 al.2.2.2.1 al.2.2.2.2.1 al.2.2.2.2.2) [],.box 37 (fS s),.box 77 [S s.Node,S s.By,S s.Name,S s.Public,.d (Sl eS []),I s.At,I 0,B (!n.d.Approve)]]) E<|gK h39 fun hg41 h40=>gO 5 E<|eo_o E (Kmi hg41 E)<|eo_o E (Kmj hΓ hg41 E E E E E E)<|eo_o E (Kmj hΓ hg41 E E E E E E)<|bK h40 fun m42 hm42 h43=>eo_o E (Kmk hΓ (enc:=Llu) (bg:=5) m42 E E (ArU.l _ (Kko (fun _ _=>E) hm42 m42)) E (g:=.d (Sl eS m42.Join.Tags)) E E)<|bK h43 fun y44 hy44 h45=>Kdq C (Pure.rows (Lok hy44) E E) E Z E E E E E<|gO 1 E<|Kqk hΓ E E E E E E E E Z<|Kdx (oN n 0 1 2 3 [.bag al.1 (arX (hSet al.2.1 ((mGet n.passes s.Join).getD 0) (⟨m38.Join,m38.revoked,wi (m34.used+1)⟩:Lfg)) al.2.2.1 al.2.2.2.1 al.2.2.2.2.1 al.2.2.2.2.2) [],.box 37 (fS s),.box 77 [S s.Node,S s.By,S s.Name,S s.Public,.d (Sl eS y44),I s.At,I 0,B (!n.d.Approve)]]) E<|gK h45 fun hg47 h46=>gO 6 E<|eo_o E (Kmi hg47 E)<|eo_o E (Kmj hΓ hg47 E E E E E E)<|eo_o E (Kmj hΓ hg47 E E E E E E)<|bK h46 fun m48 hm48 h49=>eo_o E (Kmk hΓ (enc:=Llu) (bg:=5) m48 E E (ArU.l _ (Kko (fun _ _=>E) hm48 m48)) E (g:=.d (Sl eS m48.Join.Tags)) E E)<|bK h49 fun q50 hq50 h51=>gO 4 E<|Kgp [(0,.ptr 4 0),(3,.ptr 6 0),(5,.d (.hd (some 0) ((mGet n.passes s.Join).getD 0))),(7,.ptr 7 0)] (oN n 0 1 2 3 [.bag al.1 (arX (hSet al.2.1 ((mGet n.passes s.Join).getD 0) (⟨m38.Join,m38.revoked,wi (m34.used+1)⟩:Lfg)) al.2.2.1 al.2.2.2.1 al.2.2.2.2.1 al.2.2.2.2.2) [],.box 37 (fS s),.box 77 [S s.Node,S q50,S s.Name,S s.Public,.d (Sl eS y44),I s.At,I 0,B (!n.d.Approve)]]) ?_ ?_
  ·refine jC E hq50 (fun h52=>?_) fun h57=>gA 1 E<|oSi h57▸⟨⟨E,E,E,E,tV⟩,[],E,.inl E⟩
   exact gK h52 fun hg54 h53=>gA 2 E<|eo_o E (Kmi hg54 E)<|eo_o E (Kmj hΓ hg54 E E E E E E)<|eo_o E (Kmj hΓ hg54 E E E E E E)<|bK h53 fun m55 hm55 h56=>eo_o E (Kmk hΓ (enc:=Llu) (bg:=5) m55 E E (ArU.l _ (Kko (fun _ _=>E) hm55 m55)) E (g:=S m55.Join.By) E E)<|gO 1 E<|Kqk hΓ E E E E E E E E Z<|Kdx (oN n 0 1 2 3 [.bag al.1 (arX (hSet al.2.1 ((mGet n.passes s.Join).getD 0) (⟨m38.Join,m38.revoked,wi (m34.used+1)⟩:Lfg)) al.2.2.1 al.2.2.2.1 al.2.2.2.2.1 al.2.2.2.2.2) [],.box 37 (fS s),.box 77 [S s.Node,S m55.Join.By,S s.Name,S s.Public,.d (Sl eS y44),I s.At,I 0,B (!n.d.Approve)]]) E<|gO 1 E<|oSi h56▸⟨⟨E,E,E,E,tV⟩,[],E,.inl E⟩
  refine gA 5 E<|bK h51 fun q58 hq58 h59=>Kco 6 [(0,.ptr 4 0),(3,.ptr 6 0),(7,.ptr 7 0),(126,B q58)] (oN n 0 1 2 3 [.bag al.1 (arX (hSet al.2.1 ((mGet n.passes s.Join).getD 0) (⟨m38.Join,m38.revoked,wi (m34.used+1)⟩:Lfg)) al.2.2.1 al.2.2.2.1 al.2.2.2.2.1 al.2.2.2.2.2) [],.box 37 (fS s),.box 77 [S s.Node,S q50,S s.Name,S s.Public,.d (Sl eS y44),I s.At,I 0,B (!n.d.Approve)]]) ?_ ?_
  ·refine Koz E E (fun hb=>?_) (fun hb=>?_)
   ·have h60:=cT hq58 hb
    exact gO 7 E<|oSi h60▸⟨⟨E,E,E,E,tV⟩,[],E,.inl E⟩
   have h61:=cF hq58 hb
   exact gK h61 fun hg63 h62=>gO 1 E<|Kox E<|eo_o E (Kmi hg63 E)<|Kox E<|eo_o E (Kmj hΓ hg63 E E E E E E)<|Kox E<|eo_o E (Kmj hΓ hg63 E E E E E E)<|bK h62 fun m64 hm64 h65=>Kox E<|eo_o E (Kmk hΓ (enc:=Llu) (bg:=5) m64 E E (ArU.l _ (Kko (fun _ _=>E) hm64 m64)) E (g:=B m64.Join.Ready) E E)<|gO 2 E<|oSi h65▸⟨⟨E,E,E,E,tV⟩,[],E,.inl E⟩
  exact gO 1 E<|Kqk hΓ E E E E E E E E Z<|Kdx (oN n 0 1 2 3 [.bag al.1 (arX (hSet al.2.1 ((mGet n.passes s.Join).getD 0) (⟨m38.Join,m38.revoked,wi (m34.used+1)⟩:Lfg)) al.2.2.1 al.2.2.2.1 al.2.2.2.2.1 al.2.2.2.2.2) [],.box 37 (fS s),.box 77 [S s.Node,S q50,S s.Name,S s.Public,.d (Sl eS y44),I s.At,I 0,B q58]]) E<|gO 1 E<|oSi h59▸⟨⟨E,E,E,tV⟩,[],E,.inl E⟩
 exact bK h30 fun y67 hy67 h68=>gA 8 E<|Kdp [0,1,2,3,4] (I y67) (oN n 0 1 2 3 [bg q29.1,.box 37 (fS s),.box 77 (fM q29.2)]) C (Lol hy67) E Z E E E E E E E E E E<|gO 1 E<|Kqk hΓ E E E E E E E E Z<|Kdx (oN n 0 1 2 3 [bg q29.1,.box 37 (fS s),.box 77 [S q29.2.Node,S q29.2.User,S q29.2.Name,S q29.2.Public,.d (Sl eS q29.2.Tags),I q29.2.Joined,I y67,B q29.2.Approved]]) E<|bK h68 fun y69 hy69 h70=>gO 8 E<|Kdp [0,1,2,3,4,5] (.tup []) (oN y69.1 0 1 2 3 [bg y69.2,.box 37 (fS s),.box 77 [S q29.2.Node,S q29.2.User,S q29.2.Name,S q29.2.Public,.d (Sl eS q29.2.Tags),I q29.2.Joined,I y67,B q29.2.Approved]]) C (Lom hy69) E Z E E E E E E E E E E<|gO 8 E<|Kgk<|oSi h70▸Kec hΓ [_,_] (.inr E) E E E E (.inr ⟨HB.mk E,E⟩)
theorem Loo{o:Lew}{x:Str}{r:Bool}(h:Lia o x=some r):EC Tryz.prog 210 [.agg [S o.Tag,.d (Sl eS o.Users)],.ptr 0 0] [.box 9 [S x]] fun g hp'=>g=B r∧hp'=[.box 9 [S x]]:=by
 unfold Lia at h
 exact QN Tryz.func210 E Z<|gA 2 E<|Kqg E E E E Z<|gO 13 E<|oSi h▸Kec hΓ [_] (.inr E) E E E E (.inr ⟨HB.mk E,E⟩)
theorem Lop{s:List Lew}{f:Str}{r:Int}(h:Lic s f=some r):EC Tryz.prog 209 [.d (Sl Lll s),.fn (.func 210) [] [.ptr 0 0]] [.box 9 [S f]] fun g hp'=>g=I r∧hp'=[.box 9 [S f]]:=by
 unfold Lic at h
 refine QN Tryz.func209 E Z<|gA 13 E<|bK h fun q4 hq4 h5=>Kcy 0 E fun hb7=>Kgo (R:=fun a6=>q4=.go a6) (fun a6=>[]) (fun a6=>[.box 9 [S f]]) ?_ ?_
 ·refine gA 1 E<|Kcx s hq4 (fun i1 s2=>[(0,.d (Sl Lll s)),(1,.fn (.func 210) [] [.ptr 0 0]),(7,I (s.length:Int)),(8,I (i1:Int))]) (fun s2=>[.box 9 [S f]]) ⟨⟨E,E,E,E,tV⟩,[],E,.inl E⟩ (fun i1 x3 s2 y11 hx8 hlt hy9 hout10=>?_) (fun s2 hgo=>?_)
  ·refine gA 6 E<|Kcj E (dT (Int.ofNat_lt.2 hlt))<|gA 15 E<|eo_o E (Kcz hΓ (enc:=Lll) (Kcs hx8) E E E E E (fun _=>E))<|bK hy9 fun y12 hy12 h13=>gO 1 E<|Kdp [0] (B y12) [.box 9 [S f]] C (Loo hy12) E Z E E E E E E E E E E<|gO 2 E<|jC E h13 (fun h14=>?_) fun h17=>gA 7 E ?_
   ·refine gA 9 E<|bK h14 fun v15 hv15 h16=>?_
    cases h16
    obtain rfl:=hout10 _ rfl
    cases h5
    exact gA 4 E<|oSi hv15▸Kec hΓ [] (.inr E) E E E E (.inl E)
   cases h17
   exact⟨_,E,⟨⟨E,E,E,Kbp E (Kbo (nLl hlt hb7)),tV⟩,[],E,.inl E⟩⟩
  subst hgo
  exact gA 6 E<|Kck E (dF (Int.lt_irrefl _))<|gA 4 E<|⟨_,E,⟨tV,[],E,.inl E⟩⟩
 intro a6 ha
 subst ha
 replace h5:=Kgi h5
 exact gA 7 E<|oSi h5▸Kec hΓ [] (.inr E) E E E E (.inl E)
theorem Loq{d:Lex}{user:Str}{tag:Str}{r:Bool×Bool}(h:Lid d user tag=some r):Pure Tryz.prog 102 [.agg (fD d),S user,S tag] (.tup [B r.1,B r.2]):=by
 unfold Lid at h
 refine QP Tryz.func102 E E E<|gA 2 E<|Kqg E E E E Z<|Kqg E E E E Z<|bK h fun y1 hy1 h2=>gO 9 E<|Kdp [1] (I y1) [.box 29 (fD d),.box 9 [S tag]] C (Lop hy1) E Z E E E E E E E E E E<|gO 8 E<|bK h2 fun q3 hq3 h4=>Kco 9 [(6,B false),(7,B false),(8,I y1),(24,B q3)] [.box 29 (fD d),.box 9 [S tag]] ?_ ?_
 ·refine Koz E E (fun hb=>?_) (fun hb=>?_)
  ·have h5:=cT hq3 hb
   exact bK h5 fun x6 hx6 h7=>gO 3 E<|Kox E<|eo_o E (Kcz hΓ (enc:=Lll) hx6 E E E E E (fun _=>E))<|bK h7 fun y8 hy8 h9=>gO 3 E<|Kox E<|Kdq C (Lmw hy8) E Z E E E E E<|gO 2 E<|oSi h9▸⟨⟨E,E,E,E,tV⟩,[],E,.inl E⟩
  have h10:=cF hq3 hb
  exact gO 10 E<|oSi h10▸⟨⟨E,E,E,E,tV⟩,[],E,.inl E⟩
 exact gO 7 E<|oSi h4▸gP E E
theorem Lor{n:Lfe}{user:Str}{tags:List Str}{r:Int}(h:Lie n user tags=some r):EC Tryz.prog 268 [.ptr 4 0,S user,.d (Sl eS tags)] (oN n 0 1 2 3 []) fun g hp'=>g=I r∧hp'=(oN n 0 1 2 3 []):=by
 unfold Lie at h
 refine QN Tryz.func268 E Z<|gA 13 E<|bK h fun q4 hq4 h5=>Kcy 11 E fun hb7=>Kgo (R:=fun a6=>q4=.go a6) (fun a6=>[]) (fun a6=>(oN n 0 1 2 3 [])) ?_ ?_
 ·refine gA 1 E<|Kcx tags hq4 (fun i1 s2=>[(0,.ptr 4 0),(1,S user),(11,.d (Sl eS tags)),(12,I (tags.length:Int)),(13,I (i1:Int))]) (fun s2=>(oN n 0 1 2 3 [])) ⟨⟨E,E,E,E,E,tV⟩,[],E,.inl E⟩ (fun i1 x3 s2 y11 hx8 hlt hy9 hout10=>?_) (fun s2 hgo=>?_)
  ·refine gA 6 E<|Kcj E (dT (Int.ofNat_lt.2 hlt))<|gA 6 E<|eo_o E (Kcz hΓ (enc:=eS) (Kcs hx8) E E E E E (fun _=>E))<|bK hy9 fun y12 hy12 h13=>gO 12 E<|Kdq C (Loq hy12) E Z E E E E E<|gO 14 E<|jC E h13 (fun h14=>?_) fun h17=>gA 8 E<|jC E h17 (fun h18=>?_) fun h21=>?_
   ·refine gA 9 E<|bK h14 fun v15 hv15 h16=>?_
    cases h16
    obtain rfl:=hout10 _ rfl
    cases h5
    exact gA 4 E<|oSi hv15▸Kec hΓ [] (.inr E) E E E E (.inl E)
   ·refine gA 8 E<|bK h18 fun v19 hv19 h20=>?_
    cases h20
    obtain rfl:=hout10 _ rfl
    cases h5
    exact gA 4 E<|oSi hv19▸Kec hΓ [] (.inr E) E E E E (.inl E)
   refine gA 7 E ?_
   cases h21
   exact⟨_,E,⟨⟨E,E,E,E,Kbp E (Kbo (nLl hlt hb7)),tV⟩,[],E,.inl E⟩⟩
  subst hgo
  exact gA 6 E<|Kck E (dF (Int.lt_irrefl _))<|gA 4 E<|⟨_,E,⟨tV,[],E,.inl E⟩⟩
 intro a6 ha
 subst ha
 replace h5:=Kgi h5
 exact gA 7 E<|oSi h5▸Kec hΓ [] (.inr E) E E E E (.inl E)
theorem Los{n:Lfe}{s:Ley}{al:BagT}{r:Int×Lfe×BagT}(h:Lif n s al=some r):EC Tryz.prog 189 [.ptr 4 0,.agg (fS s)] (oN n 0 1 2 3 [bg al]) fun g hp'=>g=I r.1∧hp'=(oN r.2.1 0 1 2 3 [bg r.2.2]):=by
 unfold Lif at h
 refine QM Tryz.func189 E Z<|gA 2 E<|Kqg E E E E Z<|gO 5 E<|jD<|gA 6 E<|gl_o E (Kkv hΓ (kv:=kS) (agg:=false) (enc:=(eH (some 0))) n.passes s.Join (0:Nat) E E E E Khq E E E (Kku E) E)<|gl_o E ((Kkz hΓ E E E E).2)<|Kcg hΓ 2 E<|jC E h (fun h1=>?_) fun h2=>bK h2 fun y3 hy3 h4=>gA 7 E<|Kdq C (Lnp hy3) E Z E E E E E<|gO 1 E<|bK h4 fun q5 hq5 h6=>Kco 7 [(0,.ptr 4 0),(3,.ptr 6 0),(24,B q5)] (oN n 0 1 2 3 [bg al,.box 37 (fS s)]) ?_ ?_
 ·exact gA 7 E<|Kgk<|oSi h1▸Kec hΓ [_] (.inr E) E E E E (.inr ⟨HB.mk E,E⟩)
 ·refine Koz E E (fun hb=>?_) (fun hb=>?_)
  ·have h7:=cT hq5 hb
   exact gO 8 E<|oSi h7▸⟨⟨E,E,E,tV⟩,[],E,.inl E⟩
  have h8:=cF hq5 hb
  exact bK h8 fun y9 hy9 h10=>gO 5 E<|Kox E<|Kdq C (Lnp hy9) E Z E E E E E<|gO 2 E<|oSi h10▸⟨⟨E,E,E,tV⟩,[],E,.inl E⟩
 refine gO 2 E<|jC E h6 (fun h11=>?_) fun h12=>bK h12 fun y13 hy13 h14=>gA 10 E<|Kdp [0,1,2,3,4] (I y13) (oN n 0 1 2 3 [bg al,.box 37 (fS s)]) C (Lor hy13) E Z E E E E E E E E E E<|gO 9 E<|jC E h14 (fun h15=>?_) fun h16=>?_
 ·exact gA 7 E<|Kgk<|oSi h11▸Kec hΓ [_] (.inr E) E E E E (.inr ⟨HB.mk E,E⟩)
 ·exact gA 8 E<|Kgk<|oSi h15▸Kec hΓ [_] (.inr E) E E E E (.inr ⟨HB.mk E,E⟩)
 exact gA 3 E<|Kfl [.dead,.dead,.dead,.dead,bN n 0 1 2 3,.dead,.box 37 (fS s)] [3,5,7,9,11,14,16,18] [21,22] [] hmix (by kernel_rfl) (by kernel_rfl) ⟨E,E,tV⟩ Z<|bK h16 fun y17 hy17 h18=>go_E hΓ 12 E<|Kgb C (Pure.rows (Lok hy17) E E) E E E E E E<|go_E hΓ 6 E<|ge_q E (.inl E) (fun _ _=>Kfo (qt_p (Kgf hΓ (gs:=[S s.Join,S s.By,.d (Sl eS y17),I s.Until,I s.Uses,B s.Ready]) E E E E E E)))<|ge_q E (.inl E) (fun _ _=>Kfo (qt_p (Kgf hΓ (gs:=[S s.Join,S s.By,.d (Sl eS y17),I s.Until,I s.Uses,B s.Ready,B false,I 0]) E E E E E E)))<|ge_h (oN n 0 1 2 3 [bg al,.box 37 (fS s),.box 215 [S s.Join,S s.By,.d (Sl eS y17),I s.Until,I s.Uses,B s.Ready,B false,I 0]]) E E E (Kfv ⟨E,E,tV⟩) (Kfy (Kge E E E))<|Kft [mObB n.users,mObH (mSet n.passes s.Join (al.1.length+1)),mObM n.there,mObT n.story,bN n 0 1 2 3,.bag (al.1++[false]) (arX ((al.1.length,(⟨(⟨s.Join,s.By,y17,s.Until,s.Uses,s.Ready⟩:Lff),false,0⟩:Lfg)) :: al.2.1) al.2.2.1 al.2.2.2.1 al.2.2.2.2.1 al.2.2.2.2.2) [],.box 37 (fS s),.dead] E E (Kfv ⟨E,E,tV⟩) (Kfz (Kiy (Kkm (hp2:=(oN n 0 1 2 3 [.bag (al.1++[false]) (arX ((al.1.length,(⟨(⟨s.Join,s.By,y17,s.Until,s.Uses,s.Ready⟩:Lff),false,0⟩:Lfg)) :: al.2.1) al.2.2.1 al.2.2.2.1 al.2.2.2.2.1 al.2.2.2.2.2) [],.box 37 (fS s),.dead])) (bg:=5) (id:=7) (a:=(fB 215 Llu) al.1.length (⟨(⟨s.Join,s.By,y17,s.Until,s.Uses,s.Ready⟩:Lff),false,0⟩:Lfg)) [(55,some 0)] ⟨E,tV⟩ E E ⟨E,E⟩ E E (Kkr _ Kkq) E E) (Kie hΓ (kv:=kS) (agg:=false) (enc:=(eH (some 0))) (id:=1) n.passes s.Join (al.1.length+1) E E E Khq E E E E E) Z))<|Kfn<|gA 7 E<|Kgk<|oSi h18▸Kec hΓ [_,_] (.inr E) E E E E (.inr ⟨HB.mk E,E⟩)
theorem Lot{n:Lfe}{s:Ley}{al:BagT}{r:Int×BagT}(h:Lig n s al=some r):EC Tryz.prog 190 [.ptr 4 0,.agg (fS s)] (oN n 0 1 2 3 [bg al]) fun g hp'=>g=I r.1∧hp'=(oN n 0 1 2 3 [bg r.2]):=by
 unfold Lig at h
 refine QN Tryz.func190 E Z<|gA 2 E<|Kqg E E E E Z<|gO 4 E<|jD<|gA 6 E<|gl_o E (Kkv hΓ (kv:=kS) (agg:=false) (enc:=(eH (some 0))) n.passes s.Join (0:Nat) E E E E Khq E E E (Kku E) E)<|Kcg hΓ 8 E<|eo_o E ((Kkz hΓ E E E E).1)<|gO 3 E<|jC E h (fun h1=>?_) fun h2=>gA 1 E<|jD<|gK h2 fun hg4 h3=>gA 1 E<|gl_o E (Kmi hg4 E)<|gl_o E (Kmj hΓ hg4 E E E E E E)<|gl_o E (Kmj hΓ hg4 E E E E E E)<|bK h3 fun m5 hm5 h6=>gl_o E (Kmk hΓ (enc:=Llu) (bg:=5) m5 E E (ArU.l _ (Kko (fun _ _=>E) hm5 m5)) E (g:=S m5.Join.By) E E)<|Kcg hΓ 6 E<|jC E h6 (fun h7=>?_) fun h8=>?_
 ·exact gA 8 E<|oSi h1▸Kec hΓ [_] (.inr E) E E E E (.inr ⟨HB.mk E,E⟩)
 ·exact gA 8 E<|oSi h7▸Kec hΓ [_] (.inr E) E E E E (.inr ⟨HB.mk E,E⟩)
 refine gK h8 fun hg10 h9=>gA 3 E<|eo_o E (Kmi hg10 E)<|eo_o E (Kmj hΓ hg10 E E E E E E)<|bK h9 fun m11 hm11 h12=>eo_o E (Kmk hΓ (enc:=Llu) (bg:=5) m11 E E (ArU.l _ (Kko (fun _ _=>E) hm11 m11)) E (g:=B m11.revoked) E E)<|gO 3 E<|jC E h12 (fun h13=>?_) fun h14=>gK h14 fun hg16 h15=>gA 6 E<|eo_o E (Kmi hg16 E)<|eo_o E (Kmj hΓ hg16 E E E E E E)<|bK h15 fun m17 hm17 h18=>eo_u Z (Kml hΓ (enc:=Llu) (bg:=5) m17 (⟨m17.Join,true,m17.used⟩:Lfg) E E (ArU.l _ (Kko (fun _ _=>E) hm17 (⟨m17.Join,true,m17.used⟩:Lfg))) E E (by intro e;cases e) E E E E E E E) ?_
 ·exact gA 8 E<|oSi h13▸Kec hΓ [_] (.inr E) E E E E (.inr ⟨HB.mk E,E⟩)
 exact Kdx (oN n 0 1 2 3 [.bag al.1 (arX (hSet al.2.1 ((mGet n.passes s.Join).getD 0) (⟨m17.Join,true,m17.used⟩:Lfg)) al.2.2.1 al.2.2.2.1 al.2.2.2.2.1 al.2.2.2.2.2) [],.box 37 (fS s)]) E<|gO 8 E<|oSi h18▸Kec hΓ [_] (.inr E) E E E E (.inr ⟨HB.mk E,E⟩)
theorem Lou{t:Str}{x:Lfe}{x2:Str}{r:Bool}(h:Lih t x x2=some r):EC Tryz.prog 269 [S t,.ptr 5 0,.ptr 6 0] (oN x 0 1 2 3 [.box 144 [.ptr 4 0],.box 9 [S x2]]) fun g hp'=>g=B r∧hp'=(oN x 0 1 2 3 [.box 144 [.ptr 4 0],.box 9 [S x2]]):=by
 unfold Lih at h
 exact QN Tryz.func269 E Z<|gA 6 E<|jD<|bK h fun y1 hy1 h2=>gA 6 E<|Kdr C (Loq hy1) E E E E E E<|Kcg hΓ 14 E<|oSi h2▸Kec hΓ [] (.inr E) E E E E (.inl E)
theorem Lov{s:List Str}{f:Lfe}{f2:Str}{r:Int}(h:Lii s f f2=some r):EC Tryz.prog 246 [.d (Sl eS s),.fn (.func 269) [] [.ptr 5 0,.ptr 6 0]] (oN f 0 1 2 3 [.box 144 [.ptr 4 0],.box 9 [S f2]]) fun g hp'=>g=I r∧hp'=(oN f 0 1 2 3 [.box 144 [.ptr 4 0],.box 9 [S f2]]):=by
 unfold Lii at h
 refine QN Tryz.func246 E Z<|gA 13 E<|bK h fun q4 hq4 h5=>Kcy 0 E fun hb7=>Kgo (R:=fun a6=>q4=.go a6) (fun a6=>[]) (fun a6=>(oN f 0 1 2 3 [.box 144 [.ptr 4 0],.box 9 [S f2]])) ?_ ?_
 ·refine gA 1 E<|Kcx s hq4 (fun i1 s2=>[(0,.d (Sl eS s)),(1,.fn (.func 269) [] [.ptr 5 0,.ptr 6 0]),(7,I (s.length:Int)),(8,I (i1:Int))]) (fun s2=>(oN f 0 1 2 3 [.box 144 [.ptr 4 0],.box 9 [S f2]])) ⟨⟨E,E,E,E,tV⟩,[],E,.inl E⟩ (fun i1 x3 s2 y11 hx8 hlt hy9 hout10=>?_) (fun s2 hgo=>?_)
  ·refine gA 6 E<|Kcj E (dT (Int.ofNat_lt.2 hlt))<|gA 15 E<|eo_o E (Kcz hΓ (enc:=eS) (Kcs hx8) E E E E E (fun _=>E))<|bK hy9 fun y12 hy12 h13=>gO 1 E<|Kdp [0,1,2,3,4,5,6] (B y12) (oN f 0 1 2 3 [.box 144 [.ptr 4 0],.box 9 [S f2]]) C (Lou hy12) E Z E E E E E E E E E E<|gO 2 E<|jC E h13 (fun h14=>?_) fun h17=>gA 7 E ?_
   ·refine gA 9 E<|bK h14 fun v15 hv15 h16=>?_
    cases h16
    obtain rfl:=hout10 _ rfl
    cases h5
    exact gA 4 E<|oSi hv15▸Kec hΓ [] (.inr E) E E E E (.inl E)
   cases h17
   exact⟨_,E,⟨⟨E,E,E,Kbp E (Kbo (nLl hlt hb7)),tV⟩,[],E,.inl E⟩⟩
  subst hgo
  exact gA 6 E<|Kck E (dF (Int.lt_irrefl _))<|gA 4 E<|⟨_,E,⟨tV,[],E,.inl E⟩⟩
 intro a6 ha
 subst ha
 replace h5:=Kgi h5
 exact gA 7 E<|oSi h5▸Kec hΓ [] (.inr E) E E E E (.inl E)
theorem Low{s:List Str}{f:Lfe}{f2:Str}{r:Bool}(h:Lij s f f2=some r):EC Tryz.prog 158 [.d (Sl eS s),.fn (.func 269) [] [.ptr 5 0,.ptr 6 0]] (oN f 0 1 2 3 [.box 144 [.ptr 4 0],.box 9 [S f2]]) fun g hp'=>g=B r∧hp'=(oN f 0 1 2 3 [.box 144 [.ptr 4 0],.box 9 [S f2]]):=by
 unfold Lij at h
 exact QN Tryz.func158 E Z<|bK h fun y1 hy1 h2=>gA 9 E<|Kdp [0,1,2,3,4,5,6] (I y1) (oN f 0 1 2 3 [.box 144 [.ptr 4 0],.box 9 [S f2]]) C (Lov hy1) E Z E E E E E E E E E E<|gO 5 E<|oSi h2▸Kec hΓ [] (.inr E) E E E E (.inl E)
theorem Lox{n:Lfe}{user:Str}{m:Lfc}{r:Bool}(h:Lik n user m=some r):EC Tryz.prog 191 [.ptr 4 0,S user,.agg (fM m)] (oN n 0 1 2 3 []) fun g hp'=>g=B r∧hp'=(oN n 0 1 2 3 []):=by
 unfold Lik at h
 refine QN Tryz.func191 E Z<|gA 2 E<|Kqg E E E E Z<|Kqg E E E E Z<|Kqg E E E E Z<|gO 12 E<|jC E h (fun h1=>?_) fun h2=>bK h2 fun y3 hy3 h4=>gA 7 E<|Kdp [0,1,2,3,4,5,6] (B y3) (oN n 0 1 2 3 [.box 144 [.ptr 4 0],.box 9 [S user],.box 77 (fM m)]) C (Low hy3) E Z E E E E E E E E E E<|gO 4 E<|oSi h4▸Kec hΓ [_,_,_] (.inr E) E E E E (.inr ⟨HB.mk E,E⟩)
 exact gA 7 E<|oSi h1▸Kec hΓ [_,_,_] (.inr E) E E E E (.inr ⟨HB.mk E,E⟩)
theorem Loy{n:Lfe}{s:Ley}{m:Lfc}{al:BagT}{r:Int×Lfe×BagT}(h:Lil n s m al=some r):EC Tryz.prog 192 [.ptr 4 0,.agg (fS s),.agg (fM m)] (oN n 0 1 2 3 [bg al]) fun g hp'=>g=I r.1∧hp'=(oN r.2.1 0 1 2 3 [bg r.2.2]):=by
 unfold Lil at h
 refine QM Tryz.func192 E Z<|gA 2 E<|Kqg E E E E Z<|Kqg E E E E Z<|bK h fun q1 hq1 h2=>gO 15 E<|Kgr (q:=q1) (fun a3=>[(0,.ptr 4 0),(4,.ptr 6 0),(5,.ptr 7 0),(7,B a3.2)]) (fun a3=>(oN n 0 1 2 3 [bg al,.box 37 (fS s),.box 77 (fM a3.1)])) ?_ ?_
 ·refine gA 7 E<|jC E hq1 (fun h4=>?_) fun h9=>gA 6 E<|jC E h9 (fun h10=>?_) fun h19=>?_
  ·refine gA 7 E<|jC E h4 (fun h5=>?_) fun h8=>gA 4 E<|Kqk hΓ E E E E E E E E Z<|Kdx (oN n 0 1 2 3 [bg al,.box 37 (fS s),.box 77 [S m.Node,S m.User,S m.Name,S m.Public,.d (Sl eS m.Tags),I m.Joined,I m.Expires,B true]]) E<|gO 2 E<|oSi h8▸⟨_,E,⟨⟨E,E,E,E,tV⟩,[],E,.inl E⟩⟩
   refine gA 8 E<|bK h5 fun v6 hv6 h7=>?_
   cases h7
   cases h2
   exact gA 2 E<|Kgk<|oSi hv6▸Kec hΓ [_,_] (.inr E) E E E E (.inr ⟨HB.mk E,E⟩)
  ·refine bK h10 fun y11 hy11 h12=>gA 6 E<|Kdp [0,1,2,3,4] (B y11) (oN n 0 1 2 3 [bg al,.box 37 (fS s),.box 77 (fM m)]) C (Loj hy11) E Z E E E E E E E E E E<|gO 2 E<|jC E h12 (fun h13=>?_) fun h16=>gA 2 E<|Kfl [.dead,.dead,.dead,.dead,.dead,.dead,.box 37 (fS s),.box 77 (fM m)] [1,4,6] [7,9,11] [9,11] hmix (by kernel_rfl) (by kernel_rfl) ⟨E,E,tV⟩ Z<|bK h16 fun y17 hy17 h18=>go_E hΓ 7 E<|ge_h (oN n 0 1 2 3 [bg al,.box 37 (fS s),.box 77 (fM m)]) E E E (Kfv ⟨E,E,tV⟩) (Kga [0,1,2,3,4] (I y17) (oN n 0 1 2 3 [bg al,.box 37 (fS s),.box 77 (fM m)]) C (Lol hy17) E E E E E E E E E E)<|go_E hΓ 1 E<|Kft (oN n 0 1 2 3 [bg al,.box 37 (fS s),.box 77 [S m.Node,S m.User,S m.Name,S s.Public,.d (Sl eS m.Tags),I m.Joined,I m.Expires,B m.Approved]]) E E (Kfu E) (Kfz (Khb hΓ E E E E E E E E E))<|go_E hΓ 1 E<|Kft (oN n 0 1 2 3 [bg al,.box 37 (fS s),.box 77 [S m.Node,S m.User,S m.Name,S s.Public,.d (Sl eS m.Tags),I m.Joined,I y17,B m.Approved]]) E E (Kfu E) (Kfz (Khb hΓ E E E E E E E E E))<|go_E hΓ 1 E<|Kfn<|gA 1 E<|oSi h18▸⟨_,E,⟨⟨E,E,E,E,tV⟩,[],E,.inl E⟩⟩
   refine gA 8 E<|bK h13 fun v14 hv14 h15=>?_
   cases h15
   cases h2
   exact gA 2 E<|Kgk<|oSi hv14▸Kec hΓ [_,_] (.inr E) E E E E (.inr ⟨HB.mk E,E⟩)
  refine gA 6 E<|jC E h19 (fun h20=>?_) fun h25=>gA 6 E<|jC E h25 (fun h26=>?_) fun h39=>?_
  ·refine gA 10 E<|jC E h20 (fun h21=>?_) fun h24=>gA 6 E<|Kqk hΓ E E E E E E E E Z<|Kdx (oN n 0 1 2 3 [bg al,.box 37 (fS s),.box 77 [S m.Node,S m.User,S s.Name,S m.Public,.d (Sl eS m.Tags),I m.Joined,I m.Expires,B m.Approved]]) E<|gO 2 E<|oSi h24▸⟨_,E,⟨⟨E,E,E,E,tV⟩,[],E,.inl E⟩⟩
   refine gA 8 E<|bK h21 fun v22 hv22 h23=>?_
   cases h23
   cases h2
   exact gA 2 E<|Kgk<|oSi hv22▸Kec hΓ [_,_] (.inr E) E E E E (.inr ⟨HB.mk E,E⟩)
  ·refine gA 9 E<|jC E h26 (fun h27=>?_) fun h30=>bK h30 fun y31 hy31 h32=>gA 10 E<|Kdp [0,1,2,3,4] (I y31) (oN n 0 1 2 3 [bg al,.box 37 (fS s),.box 77 (fM m)]) C (Lor hy31) E Z E E E E E E E E E E<|gO 9 E<|jC E h32 (fun h33=>?_) fun h36=>?_
   ·refine gA 8 E<|bK h27 fun v28 hv28 h29=>?_
    cases h29
    cases h2
    exact gA 2 E<|Kgk<|oSi hv28▸Kec hΓ [_,_] (.inr E) E E E E (.inr ⟨HB.mk E,E⟩)
   ·refine gA 9 E<|bK h33 fun v34 hv34 h35=>?_
    cases h35
    cases h2
    exact gA 2 E<|Kgk<|oSi hv34▸Kec hΓ [_,_] (.inr E) E E E E (.inr ⟨HB.mk E,E⟩)
   exact bK h36 fun y37 hy37 h38=>gA 5 E<|Kdq C (Pure.rows (Lok hy37) E E) E Z E E E E E<|gO 1 E<|Kqk hΓ E E E E E E E E Z<|Kdx (oN n 0 1 2 3 [bg al,.box 37 (fS s),.box 77 [S m.Node,S [],S m.Name,S m.Public,.d (Sl eS m.Tags),I m.Joined,I m.Expires,B m.Approved]]) E<|gO 1 E<|Kqk hΓ E E E E E E E E Z<|Kdx (oN n 0 1 2 3 [bg al,.box 37 (fS s),.box 77 [S m.Node,S [],S m.Name,S m.Public,.d (Sl eS y37),I m.Joined,I m.Expires,B m.Approved]]) E<|gO 1 E<|Kqk hΓ E E E E E E E E Z<|Kdx (oN n 0 1 2 3 [bg al,.box 37 (fS s),.box 77 [S m.Node,S [],S m.Name,S m.Public,.d (Sl eS y37),I m.Joined,I 345686400,B m.Approved]]) E<|gO 2 E<|oSi h38▸⟨_,E,⟨⟨E,E,E,E,tV⟩,[],E,.inl E⟩⟩
  refine gA 6 E<|jC E h39 (fun h40=>?_) fun h45=>gA 1 E<|Kfl [.dead,.dead,.dead,.dead,bN n 0 1 2 3,.dead,.box 37 (fS s)] [3,5] [6] [] hmix (by kernel_rfl) (by kernel_rfl) ⟨E,E,tV⟩ Z<|go_E hΓ 6 E<|Kft [mObB n.users,mObH n.passes,mObM (mDel n.there s.Node),mObT n.story,bN n 0 1 2 3,bg al,.box 37 (fS s),.box 77 (fM m)] E E (Kfv ⟨E,E,tV⟩) (Kfy (Knf hΓ (kv:=kS) (agg:=true) (enc:=Llr) (id:=2) n.there s.Node E E E Khq E E E E))<|Kfn<|gA 2 E<|Kfl [.dead,.dead,.dead,mObT n.story,bN n 0 1 2 3,.dead,.box 37 (fS s)] [3,5,9,11,12,14] [17,18] [18] hmix (by kernel_rfl) (by kernel_rfl) ⟨E,E,E,tV⟩ Z<|go_E hΓ 12 E<|ge_p E (fun hp hs=>Kkf hΓ (kv:=kS) (te:=233) (sz:=11) (enc:=Lls) n.story s.Node E E E E Khq E (hs 3 _ E E) E E E) E<|go_E hΓ 2 E<|ge_q E (.inl E) (fun _ _=>Kfo (qt_p (Kgf hΓ (gs:=[I s.At,S [],S [],S [],S [],.d (Sl eS []),I 0,I 0,B false,B true,B false]) E E E E E E)))<|Kgc hΓ (enc:=Lls) [(⟨s.At,(⟨[],[],[],[],[],0,0,false⟩:Lfc),true,false⟩:Lfd)] E E E E E E E E E E E E<|bK h45 fun y46 hy46 h47=>ge_h [mObB n.users,mObH n.passes,mObM (mDel n.there s.Node),mObT n.story,bN n 0 1 2 3,.bag y46.2 (arX al.2.1 al.2.2.1 al.2.2.2.1 al.2.2.2.2.1 al.2.2.2.2.2) [],.box 37 (fS s),.box 77 (fM m)] E E E (Kfv ⟨E,E,E,tV⟩) (Kfy (Kjm hΓ (enc:=Lls) (bg:=5) hy46 E E E E E E E E (fun _=>E) E E))<|Kft [mObB n.users,mObH n.passes,mObM (mDel n.there s.Node),mObT (mSet n.story s.Node y46.1),bN n 0 1 2 3,.bag y46.2 (arX al.2.1 al.2.2.1 al.2.2.2.1 al.2.2.2.2.1 al.2.2.2.2.2) [],.box 37 (fS s),.box 77 (fM m)] E E (Kfu E) (Kfz (Kie hΓ (kv:=kS) (agg:=false) (enc:=(eT 233 11 Lls)) (id:=3) n.story s.Node y46.1 E E E Khq E E E E E))<|Kfn<|gA 8 E<|bK h47 fun v48 hv48 h49=>?_
  ·refine gA 10 E<|jC E h40 (fun h41=>?_) fun h44=>gA 6 E<|Kqk hΓ E E E E E E E E Z<|Kdx (oN n 0 1 2 3 [bg al,.box 37 (fS s),.box 77 [S m.Node,S m.User,S m.Name,S m.Public,.d (Sl eS m.Tags),I m.Joined,I s.At,B m.Approved]]) E<|gO 2 E<|oSi h44▸⟨_,E,⟨⟨E,E,E,E,tV⟩,[],E,.inl E⟩⟩
   refine gA 8 E<|bK h41 fun v42 hv42 h43=>?_
   cases h43
   cases h2
   exact gA 2 E<|Kgk<|oSi hv42▸Kec hΓ [_,_] (.inr E) E E E E (.inr ⟨HB.mk E,E⟩)
  cases h49
  cases h2
  exact gA 2 E<|Kgk<|oSi hv48▸Kec hΓ [_,_] (.inr E) E E E E (.inr ⟨HB.mk E,E⟩)
 intro a3 ha
 subst ha
 replace h2:=Kgh h2
 exact bK h2 fun y50 hy50 h51=>gA 8 E<|Kdp [0,1,2,3,4,5] (.tup []) (oN y50.1 0 1 2 3 [bg y50.2,.box 37 (fS s),.box 77 (fM a3.1)]) C (Lom hy50) E Z E E E E E E E E E E<|gO 8 E<|Kgk<|oSi h51▸Kec hΓ [_,_] (.inr E) E E E E (.inr ⟨HB.mk E,E⟩)
theorem Loz{n:Lfe}{s:Ley}{al:BagT}{r:Int×Lfe×BagT}(h:Lim n s al=some r):EC Tryz.prog 87 [.ptr 4 0,.agg (fS s)] (oN n 0 1 2 3 [bg al]) fun g hp'=>g=I r.1∧hp'=(oN r.2.1 0 1 2 3 [bg r.2.2]):=by
 unfold Lim at h
 refine QM Tryz.func87 E Z<|gA 2 E<|Kqg E E E E Z<|gO 11 E<|jC E h (fun h1=>?_) fun h4=>gA 4 E<|jD<|gA 6 E<|gl_o E (Kia hΓ (kv:=kS) (agg:=false) (enc:=eB) n.users s.By (false:Bool) E E E E Khq E E E E E E E)<|Kcg hΓ 3 E<|jC E h4 (fun h5=>?_) fun h6=>?_
 ·exact bK h1 fun y2 hy2 h3=>gA 4 E<|Kdp [0,1,2,3,4,5] (I y2.1) (oN y2.2.1 0 1 2 3 [bg y2.2.2,.box 37 (fS s)]) C (Lon hy2) E Z E E E E E E E E E E<|gO 5 E<|Kgk<|oSi h3▸Kec hΓ [_] (.inr E) E E E E (.inr ⟨HB.mk E,E⟩)
 ·exact gA 7 E<|Kgk<|oSi h5▸Kec hΓ [_] (.inr E) E E E E (.inr ⟨HB.mk E,E⟩)
 refine gA 16 E<|jC E h6 (fun h7=>?_) fun h10=>gA 6 E<|jC E h10 (fun h11=>?_) fun h14=>?_
 ·exact bK h7 fun y8 hy8 h9=>gA 4 E<|Kdp [0,1,2,3,4,5] (I y8.1) (oN y8.2.1 0 1 2 3 [bg y8.2.2,.box 37 (fS s)]) C (Los hy8) E Z E E E E E E E E E E<|gO 6 E<|Kgk<|oSi h9▸Kec hΓ [_] (.inr E) E E E E (.inr ⟨HB.mk E,E⟩)
 ·exact bK h11 fun y12 hy12 h13=>gA 4 E<|Kdp [0,1,2,3,4,5] (I y12.1) (oN n 0 1 2 3 [bg y12.2,.box 37 (fS s)]) C (Lot hy12) E Z E E E E E E E E E E<|gO 6 E<|Kgk<|oSi h13▸Kec hΓ [_] (.inr E) E E E E (.inr ⟨HB.mk E,E⟩)
 refine gA 4 E<|Kfl [.dead,.dead,mObM n.there,.dead,bN n 0 1 2 3,.dead,.box 37 (fS s)] [3,5,6] [10,11] [] hmix (by kernel_rfl) (by kernel_rfl) ⟨E,E,E,tV⟩ Z<|go_E hΓ 6 E<|ge_p E (fun hp hs=>Kib hΓ (kv:=kS) (agg:=true) (enc:=Llr) n.there s.Node ((⟨[],[],[],[],[],0,0,false⟩:Lfc):Lfc) E E E E Khq E (hs 2 _ E E) E E E E E) E<|go_E hΓ 3 E<|ge_h (oN n 0 1 2 3 [bg al,.box 37 (fS s),.box 77 [S [],S [],S [],S [],.d (Sl eS []),I 0,I 0,B false]]) E E E (Kfv ⟨E,E,E,tV⟩) (Kfy (Kgd hΓ (hi:=show Γ 77=some ⟨_,_,_,_⟩ from E) E))<|Kft (oN n 0 1 2 3 [bg al,.box 37 (fS s),.box 77 [S (((mGet n.there s.Node).getD (⟨[],[],[],[],[],0,0,false⟩:Lfc)).Node),S (((mGet n.there s.Node).getD (⟨[],[],[],[],[],0,0,false⟩:Lfc)).User),S (((mGet n.there s.Node).getD (⟨[],[],[],[],[],0,0,false⟩:Lfc)).Name),S (((mGet n.there s.Node).getD (⟨[],[],[],[],[],0,0,false⟩:Lfc)).Public),.d (Sl eS (((mGet n.there s.Node).getD (⟨[],[],[],[],[],0,0,false⟩:Lfc)).Tags)),I (((mGet n.there s.Node).getD (⟨[],[],[],[],[],0,0,false⟩:Lfc)).Joined),I (((mGet n.there s.Node).getD (⟨[],[],[],[],[],0,0,false⟩:Lfc)).Expires),B (((mGet n.there s.Node).getD (⟨[],[],[],[],[],0,0,false⟩:Lfc)).Approved)]]) E E (Kfv ⟨E,E,E,tV⟩) (Kfz (Khb hΓ E E E E E E E E E))<|go_E hΓ 1 E<|Kfn<|gA 8 E<|jC E h14 (fun h15=>?_) fun h16=>gA 9 E<|bK h16 fun q17 hq17 h18=>Kco 7 [(0,.ptr 4 0),(3,.ptr 6 0),(5,.ptr 7 0),(55,B q17)] (oN n 0 1 2 3 [bg al,.box 37 (fS s),.box 77 [S (((mGet n.there s.Node).getD (⟨[],[],[],[],[],0,0,false⟩:Lfc)).Node),S (((mGet n.there s.Node).getD (⟨[],[],[],[],[],0,0,false⟩:Lfc)).User),S (((mGet n.there s.Node).getD (⟨[],[],[],[],[],0,0,false⟩:Lfc)).Name),S (((mGet n.there s.Node).getD (⟨[],[],[],[],[],0,0,false⟩:Lfc)).Public),.d (Sl eS (((mGet n.there s.Node).getD (⟨[],[],[],[],[],0,0,false⟩:Lfc)).Tags)),I (((mGet n.there s.Node).getD (⟨[],[],[],[],[],0,0,false⟩:Lfc)).Joined),I (((mGet n.there s.Node).getD (⟨[],[],[],[],[],0,0,false⟩:Lfc)).Expires),B (((mGet n.there s.Node).getD (⟨[],[],[],[],[],0,0,false⟩:Lfc)).Approved)]]) ?_ ?_
 ·exact gA 7 E<|Kgk<|oSi h15▸Kec hΓ [_,_] (.inr E) E E E E (.inr ⟨HB.mk E,E⟩)
 ·refine Koz E E (fun hb=>?_) (fun hb=>?_)
  ·have h19:=cT hq17 hb
   exact bK h19 fun y20 hy20 h21=>gO 4 E<|Kox E<|Kdp [0,1,2,3,4] (B y20) (oN n 0 1 2 3 [bg al,.box 37 (fS s),.box 77 [S (((mGet n.there s.Node).getD (⟨[],[],[],[],[],0,0,false⟩:Lfc)).Node),S (((mGet n.there s.Node).getD (⟨[],[],[],[],[],0,0,false⟩:Lfc)).User),S (((mGet n.there s.Node).getD (⟨[],[],[],[],[],0,0,false⟩:Lfc)).Name),S (((mGet n.there s.Node).getD (⟨[],[],[],[],[],0,0,false⟩:Lfc)).Public),.d (Sl eS (((mGet n.there s.Node).getD (⟨[],[],[],[],[],0,0,false⟩:Lfc)).Tags)),I (((mGet n.there s.Node).getD (⟨[],[],[],[],[],0,0,false⟩:Lfc)).Joined),I (((mGet n.there s.Node).getD (⟨[],[],[],[],[],0,0,false⟩:Lfc)).Expires),B (((mGet n.there s.Node).getD (⟨[],[],[],[],[],0,0,false⟩:Lfc)).Approved)]]) C (Lox hy20) E Z E E E E E E E E E E<|gO 3 E<|oSi h21▸⟨⟨E,E,E,E,tV⟩,[],E,.inl E⟩
  have h22:=cF hq17 hb
  exact gO 8 E<|oSi h22▸⟨⟨E,E,E,E,tV⟩,[],E,.inl E⟩
 refine gO 2 E<|jC E h18 (fun h23=>?_) fun h24=>bK h24 fun y25 hy25 h26=>gA 7 E<|Kdp [0,1,2,3,4,5] (I y25.1) (oN y25.2.1 0 1 2 3 [bg y25.2.2,.box 37 (fS s),.box 77 [S (((mGet n.there s.Node).getD (⟨[],[],[],[],[],0,0,false⟩:Lfc)).Node),S (((mGet n.there s.Node).getD (⟨[],[],[],[],[],0,0,false⟩:Lfc)).User),S (((mGet n.there s.Node).getD (⟨[],[],[],[],[],0,0,false⟩:Lfc)).Name),S (((mGet n.there s.Node).getD (⟨[],[],[],[],[],0,0,false⟩:Lfc)).Public),.d (Sl eS (((mGet n.there s.Node).getD (⟨[],[],[],[],[],0,0,false⟩:Lfc)).Tags)),I (((mGet n.there s.Node).getD (⟨[],[],[],[],[],0,0,false⟩:Lfc)).Joined),I (((mGet n.there s.Node).getD (⟨[],[],[],[],[],0,0,false⟩:Lfc)).Expires),B (((mGet n.there s.Node).getD (⟨[],[],[],[],[],0,0,false⟩:Lfc)).Approved)]]) C (Loy hy25) E Z E E E E E E E E E E<|gO 4 E<|Kgk<|oSi h26▸Kec hΓ [_,_] (.inr E) E E E E (.inr ⟨HB.mk E,E⟩)
 exact gA 7 E<|Kgk<|oSi h23▸Kec hΓ [_,_] (.inr E) E E E E (.inr ⟨HB.mk E,E⟩)
theorem Lpa{d:Lex}{l:List Ley}{v_at:Int}{al:BagT}{r:Lfe×BagT}(h:Lin d l v_at al=some r):EC Tryz.prog 139 [.agg (fD d),.d (Sl Lln l),I v_at] [bg al] fun g hp'=>g=.ptr 5 0∧hp'=(bg r.2::oN r.1 1 2 3 4 []):=by
 unfold Lin at h
 refine QM Tryz.func139 E Z<|gA 2 E<|Kqg E E E E Z<|bK h fun y1 hy1 h2=>gO 6 E<|Kdp [] (.ptr 6 0) (bg al::.box 29 (fD d)::oN y1 2 3 4 5 []) C (Loh hy1) E Z E E E E E E E E E E<|gO 11 E<|bK h2 fun q6 hq6 h7=>Kcy 12 E fun hb9=>Kgp [(7,.ptr 6 0)] [bg q6.1,.box 29 (fD d),mObB q6.2.1,mObH q6.2.2.1,mObM q6.2.2.2.1,mObT q6.2.2.2.2.1,.box 206 [.d (Sl eS q6.2.2.2.2.2.1),.d (Sl Lll q6.2.2.2.2.2.2.1),I q6.2.2.2.2.2.2.2.1,B q6.2.2.2.2.2.2.2.2,.map 2,.map 3,.map 4,.map 5]] ?_ ?_
 ·refine gA 1 E<|Kee l hq6 (fun i3 s4=>[(2,I v_at),(7,.ptr 6 0),(12,.d (Sl Lln l)),(13,I (l.length:Int)),(14,I (i3:Int))]) (fun s4=>[bg s4.1,.box 29 (fD d),mObB s4.2.1,mObH s4.2.2.1,mObM s4.2.2.2.1,mObT s4.2.2.2.2.1,.box 206 [.d (Sl eS s4.2.2.2.2.2.1),.d (Sl Lll s4.2.2.2.2.2.2.1),I s4.2.2.2.2.2.2.2.1,B s4.2.2.2.2.2.2.2.2,.map 2,.map 3,.map 4,.map 5]]) ⟨⟨E,E,E,E,E,tV⟩,[],E,.inl E⟩ (fun i3 x5 s4 y13 hx10 hlt hy11=>?_) (?_)
  ·refine gA 6 E<|Kcj E (dT (Int.ofNat_lt.2 hlt))<|gA 6 E<|eo_o E (Kcz hΓ (enc:=Lln) (Kcs hx10) E E E E E (fun _=>E))<|gO 1 E<|Kqf hΓ E E E Z<|Kqk hΓ E E E E E E E E Z<|Kdx [bg s4.1,.box 29 (fD d),mObB s4.2.1,mObH s4.2.2.1,mObM s4.2.2.2.1,mObT s4.2.2.2.2.1,.box 206 [.d (Sl eS s4.2.2.2.2.2.1),.d (Sl Lll s4.2.2.2.2.2.2.1),I s4.2.2.2.2.2.2.2.1,B s4.2.2.2.2.2.2.2.2,.map 2,.map 3,.map 4,.map 5],.box 37 (fS x5)] E<|gO 10 E<|jC E hy11 (fun h14=>?_) fun h17=>gA 7 E ?_
   ·refine bK h14 fun y15 hy15 h16=>gA 3 E<|Kdp [2,3,4,5,6,0] (I y15.1) (bg y15.2.2::.box 29 (fD d)::oN y15.2.1 2 3 4 5 [.box 37 (fS x5)]) C (Loz hy15) E Z E E E E E E E E E E<|gO 7 E ?_
    cases h16
    exact⟨⟨E,E,E,E,Kbp E (Kbo (nLl hlt hb9)),tV⟩,[_],E,.inr ⟨HB.mk E,FB.mk E,Z⟩⟩
   cases h17
   exact⟨⟨E,E,E,E,Kbp E (Kbo (nLl hlt hb9)),tV⟩,[_],E,.inr ⟨HB.mk E,FB.mk E,Z⟩⟩
  exact gA 6 E<|Kck E (dF (Int.lt_irrefl _))<|gA 4 E<|⟨⟨E,tV⟩,[],E,.inl E⟩
 exact gA 8 E<|Kix 1 [bg q6.1,.dead,mObB q6.2.1,mObH q6.2.2.1,mObM q6.2.2.2.1,mObT q6.2.2.2.2.1,.box 206 [.d (Sl eS q6.2.2.2.2.2.1),.d (Sl Lll q6.2.2.2.2.2.2.1),I q6.2.2.2.2.2.2.2.1,B q6.2.2.2.2.2.2.2.2,.map 2,.map 3,.map 4,.map 5]] E Z<|Kgn 2 1 [bg q6.1,mObB q6.2.1,.dead,mObH q6.2.2.1,mObM q6.2.2.2.1,mObT q6.2.2.2.2.1,.box 206 [.d (Sl eS q6.2.2.2.2.2.1),.d (Sl Lll q6.2.2.2.2.2.2.1),I q6.2.2.2.2.2.2.2.1,B q6.2.2.2.2.2.2.2.2,.map 1,.map 3,.map 4,.map 5]] E E E E E E<|Kgn 3 2 [bg q6.1,mObB q6.2.1,mObH q6.2.2.1,.dead,mObM q6.2.2.2.1,mObT q6.2.2.2.2.1,.box 206 [.d (Sl eS q6.2.2.2.2.2.1),.d (Sl Lll q6.2.2.2.2.2.2.1),I q6.2.2.2.2.2.2.2.1,B q6.2.2.2.2.2.2.2.2,.map 1,.map 2,.map 4,.map 5]] E E E E E E<|Kgn 4 3 [bg q6.1,mObB q6.2.1,mObH q6.2.2.1,mObM q6.2.2.2.1,.dead,mObT q6.2.2.2.2.1,.box 206 [.d (Sl eS q6.2.2.2.2.2.1),.d (Sl Lll q6.2.2.2.2.2.2.1),I q6.2.2.2.2.2.2.2.1,B q6.2.2.2.2.2.2.2.2,.map 1,.map 2,.map 3,.map 5]] E E E E E E<|Kgn 5 4 [bg q6.1,mObB q6.2.1,mObH q6.2.2.1,mObM q6.2.2.2.1,mObT q6.2.2.2.2.1,.dead,.box 206 [.d (Sl eS q6.2.2.2.2.2.1),.d (Sl Lll q6.2.2.2.2.2.2.1),I q6.2.2.2.2.2.2.2.1,B q6.2.2.2.2.2.2.2.2,.map 1,.map 2,.map 3,.map 4]] E E E E E E<|Kgn 6 5 [bg q6.1,mObB q6.2.1,mObH q6.2.2.1,mObM q6.2.2.2.1,mObT q6.2.2.2.2.1,.box 206 [.d (Sl eS q6.2.2.2.2.2.1),.d (Sl Lll q6.2.2.2.2.2.2.1),I q6.2.2.2.2.2.2.2.1,B q6.2.2.2.2.2.2.2.2,.map 1,.map 2,.map 3,.map 4],.dead] E E E E E E<|Kgk<|oSi h7▸Kec hΓ [_] (.inr E) E E E E (.inr ⟨HB.mk E,E⟩)
theorem Lpb{k:Nat}{d:Lex}{l:List Ley}{moment:Int}{al:BagT}{r2:Int}{r3:BagT}(h:Lio k d l moment al=some (none,r2,r3)):EC Tryz.prog 136 [.agg (fD d),.d (Sl Lln l),I moment] [bg al] fun g hp'=>g=.tup [.d (.v (.pointer none)),I r2]∧hp'=[bg r3]:=by
 unfold Lio at h
 refine QM Tryz.func136 E Z<|gA 2 E<|Kqg E E E E Z<|bK h fun y1 hy1 h2=>gO 9 E<|Kdq C (Log hy1) E Z E E E E E<|gO 9 E<|jC E h2 (fun h3=>?_) fun h4=>bK h4 fun y5 hy5 h6=>gA 6 E<|Kdq C (Lns hy5) E Z E E E E E<|gO 3 E<|jC E h6 (fun h7=>?_) fun h8=>?_
 ·refine gA 9 E<|Kgk ?_
  cases h3
  exact Kec hΓ [_] (.inr E) E E E E (.inr ⟨HB.mk E,E⟩)
 ·refine gA 8 E<|Kgk ?_
  cases h7
  exact Kec hΓ [_] (.inr E) E E E E (.inr ⟨HB.mk E,E⟩)
 refine bK h8 fun y9 hy9 h10=>gA 7 E<|Kdp [0] (.ptr 6 0) (bg y9.2::.box 29 (fD d)::oN y9.1 2 3 4 5 []) C (Lpa hy9) E Z E E E E E E E E E E<|gO 5 E<|Kix 1 (bg y9.2::.dead::oN y9.1 2 3 4 5 []) E Z<|Kgn 2 1 [bg y9.2,mObB y9.1.users,.dead,mObH y9.1.passes,mObM y9.1.there,mObT y9.1.story,bN y9.1 1 3 4 5] E E E E E E<|Kgn 3 2 [bg y9.2,mObB y9.1.users,mObH y9.1.passes,.dead,mObM y9.1.there,mObT y9.1.story,bN y9.1 1 2 4 5] E E E E E E<|Kgn 4 3 [bg y9.2,mObB y9.1.users,mObH y9.1.passes,mObM y9.1.there,.dead,mObT y9.1.story,bN y9.1 1 2 3 5] E E E E E E<|Kgn 5 4 [bg y9.2,mObB y9.1.users,mObH y9.1.passes,mObM y9.1.there,mObT y9.1.story,.dead,bN y9.1 1 2 3 4] E E E E E E<|Kgn 6 5 (bg y9.2::oN y9.1 1 2 3 4 [.dead]) E E E E E E<|Kgk ?_
 cases h10
theorem Lpc{k:Nat}{d:Lex}{l:List Ley}{moment:Int}{al:BagT}{r1:Lfe}{r2:Int}{r3:BagT}(h:Lio k d l moment al=some (some r1,r2,r3)):EC Tryz.prog 136 [.agg (fD d),.d (Sl Lln l),I moment] [bg al] fun g hp'=>g=.tup [.ptr 5 0,I r2]∧hp'=(bg r3::oN r1 1 2 3 4 []):=by
 unfold Lio at h
 refine QM Tryz.func136 E Z<|gA 2 E<|Kqg E E E E Z<|bK h fun y1 hy1 h2=>gO 9 E<|Kdq C (Log hy1) E Z E E E E E<|gO 9 E<|jC E h2 (fun h3=>?_) fun h4=>bK h4 fun y5 hy5 h6=>gA 6 E<|Kdq C (Lns hy5) E Z E E E E E<|gO 3 E<|jC E h6 (fun h7=>?_) fun h8=>?_
 ·refine gA 9 E<|Kgk ?_
  cases h3
 ·refine gA 8 E<|Kgk ?_
  cases h7
 refine bK h8 fun y9 hy9 h10=>gA 7 E<|Kdp [0] (.ptr 6 0) (bg y9.2::.box 29 (fD d)::oN y9.1 2 3 4 5 []) C (Lpa hy9) E Z E E E E E E E E E E<|gO 5 E<|Kix 1 (bg y9.2::.dead::oN y9.1 2 3 4 5 []) E Z<|Kgn 2 1 [bg y9.2,mObB y9.1.users,.dead,mObH y9.1.passes,mObM y9.1.there,mObT y9.1.story,bN y9.1 1 3 4 5] E E E E E E<|Kgn 3 2 [bg y9.2,mObB y9.1.users,mObH y9.1.passes,.dead,mObM y9.1.there,mObT y9.1.story,bN y9.1 1 2 4 5] E E E E E E<|Kgn 4 3 [bg y9.2,mObB y9.1.users,mObH y9.1.passes,mObM y9.1.there,.dead,mObT y9.1.story,bN y9.1 1 2 3 5] E E E E E E<|Kgn 5 4 [bg y9.2,mObB y9.1.users,mObH y9.1.passes,mObM y9.1.there,mObT y9.1.story,.dead,bN y9.1 1 2 3 4] E E E E E E<|Kgn 6 5 (bg y9.2::oN y9.1 1 2 3 4 [.dead]) E E E E E E<|Kgk ?_
 cases h10
 exact Kec hΓ [_] (.inr E) E E E E (.inr ⟨HB.mk E,E⟩)
theorem Lpd{m:Lfc}{r:Lfc}(h:Lip m=some r):Pure Tryz.prog 140 [.agg (fM m)] (.agg (fM r)):=by
 unfold Lip at h
 exact QP Tryz.func140 E E E<|gA 2 E<|Kqg E E E E Z<|Kqf hΓ E E E Z<|bK h fun y1 hy1 h2=>gO 6 E<|Kdq C (Pure.rows (Lok hy1) E E) E Z E E E E E<|gO 1 E<|Kqk hΓ E E E E E E E E Z<|Kdx [.box 77 [S m.Node,S m.User,S m.Name,S m.Public,.d (Sl eS y1),I m.Joined,I m.Expires,B m.Approved],.box 77 [S [],S [],S [],S [],.d (Sl eS []),I 0,I 0,B false]] E<|gO 5 E<|Kqk hΓ E E E E E E E E Z<|Kdx [.box 77 [S m.Node,S m.User,S m.Name,S m.Public,.d (Sl eS y1),I m.Joined,I m.Expires,B m.Approved],.box 77 [S m.Node,S m.User,S m.Name,S m.Public,.d (Sl eS y1),I m.Joined,I m.Expires,B m.Approved]] E<|gO 3 E<|oSi h2▸gP E E
theorem Lpe{n:Lfe}{r:List Lfc}(h:Liq n=some r):EC Tryz.prog 137 [.ptr 4 0] (oN n 0 1 2 3 []) fun g hp'=>g=.sl 5 r.length∧hp'=(oN n 0 1 2 3 [rO 77 8 Llr r]):=by
 unfold Liq at h
 refine QM Tryz.func137 E Z<|gA 2 E<|Kdn (t:=0) 77 8 E Z<|gO 4 E<|Kdn (t:=0) 77 8 E Z<|gO 9 E<|Kdp [2] (.fn (.func 305) [] [.ptr 7 0]) (oN n 0 1 2 3 [rO 77 8 Llr ([]:List Lfc),rO 77 8 Llr ([]:List Lfc),.box 203 [.map 2]]) C (EC.mapKeys (o:=mObM n.there) Lrl) E Z E E E E E E E E E E<|gK h fun hg2 h1=>Kdp [2,7] (.sl 8 (sortK n.there).length) (oN n 0 1 2 3 [rO 77 8 Llr ([]:List Lfc),rO 77 8 Llr ([]:List Lfc),.box 203 [.map 2],rO 9 1 eS (sortK n.there)]) C (EC.sortedKeys true Llr str9 (Knp hg2) (Knq hg2) Lrk) E Z E E E E E E E E E E<|Kdv 8 [11] _ (oN n 0 1 2 3 [rO 77 8 Llr ([]:List Lfc),rO 77 8 Llr ([]:List Lfc),.box 203 [.map 2],.dead]) E E E Z<|gO 4 E<|bK h1 fun q6 hq6 h7=>Kcy 11 E fun hb9=>Kgp [(3,.sl 6 q6.length)] (oN n 0 1 2 3 [rO 77 8 Llr ([]:List Lfc),rO 77 8 Llr q6,.box 203 [.map 2],.dead]) ?_ ?_
 ·refine gA 1 E<|Kee (sortK n.there) hq6 (fun i3 s4=>[(0,.ptr 4 0),(3,.sl 6 s4.length),(11,.d (Sl eS (sortK n.there))),(12,I ((sortK n.there).length:Int)),(13,I (i3:Int))]) (fun s4=>(oN n 0 1 2 3 [rO 77 8 Llr ([]:List Lfc),rO 77 8 Llr s4,.box 203 [.map 2],.dead])) ⟨⟨E,E,E,E,E,tV⟩,[],E,.inl E⟩ (fun i3 x5 s4 y13 hx10 hlt hy11=>?_) (?_)
  ·refine gA 6 E<|Kcj E (dT (Int.ofNat_lt.2 hlt))<|gA 6 E<|eo_o E (Kcz hΓ (enc:=eS) (Kcs hx10) E E E E E (fun _=>E))<|gO 11 E<|eo_o E (Kia hΓ (kv:=kS) (agg:=true) (enc:=Llr) n.there x5 ((⟨[],[],[],[],[],0,0,false⟩:Lfc):Lfc) E E E E Khq E E E E E E E)<|bK hy11 fun y14 hy14 h15=>Kdq C (Lpd hy14) E Z E E E E E<|Kdk hΓ (enc:=Llr) [y14] E E E E E E E E E E E E Z<|bK h15 fun y16 hy16 h17=>Kdy hΓ (enc:=Llr) hy16 E E E E E E E E E (fun _=>E) E E E E<|gO 8 E ?_
   cases h17
   exact⟨⟨E,E,E,E,Kbp E (Kbo (nLl hlt hb9)),tV⟩,[],E,.inl E⟩
  exact gA 6 E<|Kck E (dF (Int.lt_irrefl _))<|gA 4 E<|⟨⟨E,tV⟩,[],E,.inl E⟩
 exact gA 8 E<|Kix 5 (oN n 0 1 2 3 [.dead,rO 77 8 Llr q6,.box 203 [.map 2],.dead]) E Z<|Kgn 6 5 (oN n 0 1 2 3 [rO 77 8 Llr q6,.dead,.box 203 [.map 2],.dead]) E E E E E E<|Kgk<|oSi h7▸Kec hΓ [_,_,_] (.inr E) E E E E (.inr ⟨HB.mk E,E⟩)
theorem Lpf{m:Lfc}{x:Int}{r:Bool}(h:Lir m x=some r):EC Tryz.prog 248 [.agg (fM m),.ptr 0 0] [.box 3 [I x]] fun g hp'=>g=B r∧hp'=[.box 3 [I x]]:=by
 unfold Lir at h
 refine QN Tryz.func248 E Z<|gA 2 E<|Kqg E E E E Z<|gO 9 E<|Kco 5 [(3,B false),(12,B ((!m.Approved)||(decide ((x:Int)≥m.Expires))))] [.box 3 [I x],.box 77 (fM m)] ?_ ?_
 ·refine Koz E E (fun hb=>?_) (fun hb=>?_)
  ·exact gO 6 E<|⟨⟨E,Kbq E (or_t hb),tV⟩,[],E,.inl E⟩
  exact gO 6 E<|⟨⟨E,Kbq E (or_f hb),tV⟩,[],E,.inl E⟩
 exact gO 4 E<|oSi h▸Kec hΓ [_] (.inr E) E E E E (.inr ⟨HB.mk E,E⟩)
theorem Lpg{s:List Lfc}{f:Int}{r:Int}(h:Lis s f=some r):EC Tryz.prog 249 [.sl 0 s.length,.fn (.func 248) [] [.ptr 1 0]] [rO 77 8 Llr s,.box 3 [I f]] fun g hp'=>g=I r∧hp'=[rO 77 8 Llr s,.box 3 [I f]]:=by
 unfold Lis at h
 refine QN Tryz.func249 E Z<|gA 13 E<|bK h fun q4 hq4 h5=>gK hq4 fun hb7 h8=>?_
 replace hb7:=of_decide_eq_true hb7
 refine Kgo (R:=fun a6=>q4=.go a6) (fun a6=>[]) (fun a6=>[rO 77 8 Llr s,.box 3 [I f]]) ?_ ?_
 ·refine gA 1 E<|Kef h8 (fun i1 s2=>[(0,.sl 0 s.length),(1,.fn (.func 248) [] [.ptr 1 0]),(7,I (s.length:Int)),(8,I (i1:Int))]) (fun s2=>[rO 77 8 Llr s,.box 3 [I f]]) ⟨⟨E,E,E,E,tV⟩,[],E,.inl E⟩ (fun i1 s2 y12 hlt hy10 hout11=>?_) (fun s2 hgo hge=>?_)
  ·refine gA 6 E<|Kcj E (dT hlt)<|bK hy10 fun x13 hx13 h14=>?_
   have hj15:=Keh hx13
   refine gA 15 E<|eo_o E (Kdb hΓ hx13 E E E E E E)<|eo_o E (Kdh hΓ (enc:=Llr) ((i1:Int).toNat) 0 hj15 E E E E (fun _=>E) (g:=.agg (fM x13)) E)<|bK h14 fun y16 hy16 h17=>Kdp [1] (B y16) [rO 77 8 Llr s,.box 3 [I f]] C (Lpf hy16) E Z E E E E E E E E E E<|gO 2 E<|jC E h17 (fun h18=>?_) fun h21=>gA 7 E<|oSi h21▸⟨_,E,⟨⟨E,E,E,Kbp E (Kbo (by omega)),tV⟩,[],E,.inl E⟩⟩
   refine gA 9 E<|bK h18 fun v19 hv19 h20=>?_
   cases h20
   obtain rfl:=hout11 _ rfl
   cases h5
   exact gA 4 E<|oSi hv19▸Kec hΓ [] (.inr E) E E E E (.inl E)
  subst hgo
  exact gA 6 E<|Kck E (dF hge)<|gA 4 E<|⟨_,E,⟨tV,[],E,.inl E⟩⟩
 intro a6 ha
 subst ha
 replace h5:=Kgi h5
 exact gA 7 E<|oSi h5▸Kec hΓ [] (.inr E) E E E E (.inl E)
theorem Lph{k:Nat}{s:List Lfc}{f:Int}{r:List Lfc}(h:Liu k s f=some r):EC Tryz.prog 163 [.sl 0 s.length,.fn (.func 248) [] [.ptr 1 0]] [rO 77 8 Llr s,.box 3 [I f]] fun g hp'=>g=.sl 0 r.length∧hp'=[rO 77 8 Llr r,.box 3 [I f]]:=by
 unfold Liu at h
 refine QN Tryz.func163 E Z<|gA 2 E<|Kdn (t:=0) 77 8 E Z<|bK h fun y1 hy1 h2=>gO 6 E<|Kdp [0,1] (I y1) [rO 77 8 Llr s,.box 3 [I f],rO 77 8 Llr ([]:List Lfc)] C (Lpg hy1) E Z E E E E E E E E E E<|gO 10 E<|jC E h2 (fun h3=>?_) fun h4=>gA 10 E<|bK h4 fun q8 hq8 h9=>Kgp [(0,.sl 0 q8.1.length),(5,I q8.2)] [rO 77 8 Llr q8.1,.box 3 [I f],rO 77 8 Llr ([]:List Lfc)] ?_ ?_
 ·exact gA 8 E<|oSi h3▸Kec hΓ [_] (.inr E) E E E E (.inr ⟨HB.mk E,E⟩)
 ·refine gA 1 E<|Kcv hq8 (fun s6=>[(0,.sl 0 s6.1.length),(1,.fn (.func 248) [] [.ptr 1 0]),(5,I s6.2.1),(6,I s6.2.2)]) (fun s6=>[rO 77 8 Llr s6.1,.box 3 [I f],rO 77 8 Llr ([]:List Lfc)]) ⟨⟨E,E,E,E,tV⟩,[],E,.inl E⟩ (fun s6 y14 hy12 hout13=>?_)
  refine gA 9 E<|jC E hy12 (fun h15=>?_) fun h26=>gA 4 E ?_
  ·refine bK h15 fun x16 hx16 h17=>?_
   have hj18:=Keh hx16
   refine gA 8 E<|eo_o E (Kdb hΓ hx16 E E E E E E)<|eo_o E (Kdh hΓ (enc:=Llr) s6.2.2.toNat 0 hj18 E E E E (fun _=>E) (g:=.agg (fM x16)) E)<|Kqf hΓ E E E Z<|Kqk hΓ E E E E E E E E Z<|Kdx [rO 77 8 Llr s6.1,.box 3 [I f],rO 77 8 Llr ([]:List Lfc),.box 77 (fM x16)] E<|bK h17 fun y19 hy19 h20=>gO 6 E<|Kdp [1] (B y19) [rO 77 8 Llr s6.1,.box 3 [I f],rO 77 8 Llr ([]:List Lfc),.box 77 (fM x16)] C (Lpf hy19) E Z E E E E E E E E E E<|gO 3 E<|jC E h20 (fun h21=>?_) fun h25=>gA 8 E<|oSi h25▸⟨_,E,⟨⟨E,E,E,E,tV⟩,[_],E,.inr ⟨HB.mk E,FB.mk E,Z⟩⟩⟩
   refine bK h21 fun x22 hx22 h23=>?_
   have hj24:=Keh hx22
   exact gA 5 E<|eo_o E (Kdb hΓ hx22 E E E E E E)<|Kdj hΓ (enc:=Llr) (z':=x16) s6.2.1.toNat 0 hj24 E E E E (fun _=>E) E E E E E E Z<|Kdx [rO 77 8 Llr (s6.1.set s6.2.1.toNat x16),.box 3 [I f],rO 77 8 Llr ([]:List Lfc),.box 77 (fM x16)] E<|Kha 0 (n':=(s6.1.set s6.2.1.toNat x16).length) E List.length_set.symm<|gO 14 E<|oSi h23▸⟨_,E,⟨⟨E,E,E,E,tV⟩,[_],E,.inr ⟨HB.mk E,FB.mk E,Z⟩⟩⟩
  cases h26
  obtain rfl:=hout13 _ rfl
  exact⟨⟨E,E,tV⟩,[],E,.inl E⟩
 exact bK h9 fun z27 hz27 h28=>gA 5 E<|eo_o E (Kgy hΓ hz27 E E E E E E)<|Kgv Z (Kgx hΓ (enc:=Llr) (a:=q8.2) hz27 E E E E E E E E E E (fun _=>E))<|gO 6 E<|Kgz hΓ hz27 E E E E E E E E<|gO 4 E<|oSi h28▸Kec hΓ [_] (.inr E) E E E E (.inr ⟨HB.mk E,E⟩)
theorem Lpi{k:Nat}{n:Lfe}{moment:Int}{r:List Lfc}(h:Liv k n moment=some r):EC Tryz.prog 162 [.ptr 4 0,I moment] (oN n 0 1 2 3 []) fun g hp'=>g=.sl 5 r.length∧hp'=(oN n 0 1 2 3 [rO 77 8 Llr r]):=by
 unfold Liv at h
 exact QM Tryz.func162 E Z<|gA 2 E<|Kqg E E E E Z<|Kdn (t:=0) 77 8 E Z<|bK h fun y1 hy1 h2=>gO 5 E<|Kdp [0,1,2,3,4] (.sl 7 y1.length) (oN n 0 1 2 3 [.box 3 [I moment],rO 77 8 Llr ([]:List Lfc),rO 77 8 Llr y1]) C (Lpe hy1) E Z E E E E E E E E E E<|bK h2 fun y3 hy3 h4=>gO 1 E<|Kdp [7,5] (.sl 7 y3.length) (oN n 0 1 2 3 [.box 3 [I moment],rO 77 8 Llr ([]:List Lfc),rO 77 8 Llr y3]) C (Lph hy3) E Z E E E E E E E E E E<|gO 3 E<|Kjb 6 (oN n 0 1 2 3 [.box 3 [I moment],.dead,rO 77 8 Llr y3]) E Z<|Kfg 7 6 (oN n 0 1 2 3 [.box 3 [I moment],rO 77 8 Llr y3,.dead]) E E E E E E<|gA 1 E<|Kix 5 (oN n 0 1 2 3 [.dead,rO 77 8 Llr y3,.dead]) E Z<|Kgn 6 5 (oN n 0 1 2 3 [rO 77 8 Llr y3,.dead,.dead]) E E E E E E<|Kgk<|oSi h4▸Kec hΓ [_,_] (.inr E) E E E E (.inr ⟨HB.mk E,E⟩)
theorem Lpj{l:List Lfc}{r:List Str}(h:Liw l=some r):EC Tryz.prog 161 [.d (Sl Llr l)] [] fun g hp'=>g=.sl 0 r.length∧hp'=[rO 9 1 eS r]:=by
 unfold Liw at h
 refine QM Tryz.func161 E Z<|gA 7 E<|Kdn (t:=0) 9 1 E Z<|gO 10 E<|bK h fun q4 hq4 h5=>Kcy 6 E fun hb7=>Kgp [(3,.sl 0 q4.length)] [rO 9 1 eS q4] ?_ ?_
 ·refine gA 1 E<|Kee l hq4 (fun i1 s2=>[(3,.sl 0 s2.length),(6,.d (Sl Llr l)),(7,I (l.length:Int)),(8,I (i1:Int))]) (fun s2=>[rO 9 1 eS s2]) ⟨⟨E,E,E,E,tV⟩,[],E,.inl E⟩ (fun i1 x3 s2 y11 hx8 hlt hy9=>?_) (?_)
  ·refine gA 6 E<|Kcj E (dT (Int.ofNat_lt.2 hlt))<|gA 6 E<|eo_o E (Kcz hΓ (enc:=Llr) (Kcs hx8) E E E E E (fun _=>E))<|gO 1 E<|Kqf hΓ E E E Z<|Kqk hΓ E E E E E E E E Z<|Kdx [rO 9 1 eS s2,.box 77 (fM x3)] E<|gO 6 E<|Kdk hΓ (enc:=eS) [x3.Node] E E E E E E E E E E E E Z<|bK hy9 fun y12 hy12 h13=>Kdy hΓ (enc:=eS) hy12 E E E E E E E E E (fun _=>E) E E E E<|gO 8 E ?_
   cases h13
   exact⟨⟨E,E,E,Kbp E (Kbo (nLl hlt hb7)),tV⟩,[_],E,.inr ⟨HB.mk E,FB.mk E,Z⟩⟩
  exact gA 6 E<|Kck E (dF (Int.lt_irrefl _))<|gA 4 E<|⟨⟨E,tV⟩,[],E,.inl E⟩
 exact gA 8 E<|Kgk<|oSi h5▸Kec hΓ [] (.inr E) E E E E (.inl E)
theorem Lpk{k:Nat}{d:Lex}{l:List Ley}{moment:Int}{al:BagT}{r:(List Str)×Int×BagT}(h:Lix k d l moment al=some r):EC Tryz.prog 68 [.agg (fD d),.d (Sl Lln l),I moment] [bg al] fun g hp'=>g=.tup [.d (Sl eS r.1),I r.2.1]∧hp'=[bg r.2.2]:=by
 unfold Lix at h
 refine QN Tryz.func68 E Z<|gA 2 E<|Kqg E E E E Z<|bK h fun y1 hy1 h2=>gO 9 E ?_
 rcases y1 with⟨_ | z3,z4,z5⟩
 ·refine Kdp [0] (.tup [.d (.v (.pointer none)),I z4]) [bg z5,.box 29 (fD d)] C (Lpb hy1) E Z E E E E E E E E E E<|gO 14 E<|jC E h2 (fun h6=>?_) fun h7=>gA 6 E ?_
  ·exact gA 9 E<|oSi h6▸Kec hΓ [_] (.inr E) E E E E (.inr ⟨HB.mk E,E⟩)
  cases h7
 refine Kdp [0] (.tup [.ptr 6 0,I z4]) (bg z5::.box 29 (fD d)::oN z3 2 3 4 5 []) C (Lpc hy1) E Z E E E E E E E E E E<|gO 14 E<|jC E h2 (fun h8=>?_) fun h9=>bK h9 fun y10 hy10 h11=>gA 6 E<|Kdp [2,3,4,5,6] (.sl 7 y10.length) (bg z5::.box 29 (fD d)::oN z3 2 3 4 5 [rO 77 8 Llr y10]) C (Lpi hy10) E Z E E E E E E E E E E<|Kdv 7 [22] _ (bg z5::.box 29 (fD d)::oN z3 2 3 4 5 [.dead]) E E E Z<|bK h11 fun y12 hy12 h13=>Kdq C (Pure.rows (Lpj hy12) E E) E Z E E E E E<|gO 5 E<|oSi h13▸Kec hΓ [_,_,_,_,_,_,_] (.inr E) E E E E (.inr ⟨HB.mk E,E⟩)
 exact gA 9 E<|oSi h8▸Kec hΓ [_,_,_,_,_,_] (.inr E) E E E E (.inr ⟨HB.mk E,E⟩)
theorem Lpl{m:Lfc}{x:Int}{x2:Int}{r:Bool}(h:Liy m x x2=some r):EC Tryz.prog 164 [.agg (fM m),.ptr 0 0,.ptr 1 0] [.box 3 [I x],.box 3 [I x2]] fun g hp'=>g=B r∧hp'=[.box 3 [I x],.box 3 [I x2]]:=by
 unfold Liy at h
 exact QN Tryz.func164 E Z<|gA 2 E<|Kqg E E E E Z<|gO 15 E<|oSi h▸Kec hΓ [_] (.inr E) E E E E (.inr ⟨HB.mk E,E⟩)
theorem Lpm{s:List Lfc}{f:Int}{f2:Int}{r:Int}(h:Liz s f f2=some r):EC Tryz.prog 249 [.sl 0 s.length,.fn (.func 164) [] [.ptr 1 0,.ptr 2 0]] [rO 77 8 Llr s,.box 3 [I f],.box 3 [I f2]] fun g hp'=>g=I r∧hp'=[rO 77 8 Llr s,.box 3 [I f],.box 3 [I f2]]:=by
 unfold Liz at h
 refine QN Tryz.func249 E Z<|gA 13 E<|bK h fun q4 hq4 h5=>gK hq4 fun hb7 h8=>?_
 replace hb7:=of_decide_eq_true hb7
 refine Kgo (R:=fun a6=>q4=.go a6) (fun a6=>[]) (fun a6=>[rO 77 8 Llr s,.box 3 [I f],.box 3 [I f2]]) ?_ ?_
 ·refine gA 1 E<|Kef h8 (fun i1 s2=>[(0,.sl 0 s.length),(1,.fn (.func 164) [] [.ptr 1 0,.ptr 2 0]),(7,I (s.length:Int)),(8,I (i1:Int))]) (fun s2=>[rO 77 8 Llr s,.box 3 [I f],.box 3 [I f2]]) ⟨⟨E,E,E,E,tV⟩,[],E,.inl E⟩ (fun i1 s2 y12 hlt hy10 hout11=>?_) (fun s2 hgo hge=>?_)
  ·refine gA 6 E<|Kcj E (dT hlt)<|bK hy10 fun x13 hx13 h14=>?_
   have hj15:=Keh hx13
   refine gA 15 E<|eo_o E (Kdb hΓ hx13 E E E E E E)<|eo_o E (Kdh hΓ (enc:=Llr) ((i1:Int).toNat) 0 hj15 E E E E (fun _=>E) (g:=.agg (fM x13)) E)<|bK h14 fun y16 hy16 h17=>Kdp [1,2] (B y16) [rO 77 8 Llr s,.box 3 [I f],.box 3 [I f2]] C (Lpl hy16) E Z E E E E E E E E E E<|gO 2 E<|jC E h17 (fun h18=>?_) fun h21=>gA 7 E<|oSi h21▸⟨_,E,⟨⟨E,E,E,Kbp E (Kbo (by omega)),tV⟩,[],E,.inl E⟩⟩
   refine gA 9 E<|bK h18 fun v19 hv19 h20=>?_
   cases h20
   obtain rfl:=hout11 _ rfl
   cases h5
   exact gA 4 E<|oSi hv19▸Kec hΓ [] (.inr E) E E E E (.inl E)
  subst hgo
  exact gA 6 E<|Kck E (dF hge)<|gA 4 E<|⟨_,E,⟨tV,[],E,.inl E⟩⟩
 intro a6 ha
 subst ha
 replace h5:=Kgi h5
 exact gA 7 E<|oSi h5▸Kec hΓ [] (.inr E) E E E E (.inl E)
theorem Lpn{k:Nat}{s:List Lfc}{f:Int}{f2:Int}{r:List Lfc}(h:Lja k s f f2=some r):EC Tryz.prog 163 [.sl 0 s.length,.fn (.func 164) [] [.ptr 1 0,.ptr 2 0]] [rO 77 8 Llr s,.box 3 [I f],.box 3 [I f2]] fun g hp'=>g=.sl 0 r.length∧hp'=[rO 77 8 Llr r,.box 3 [I f],.box 3 [I f2]]:=by
 unfold Lja at h
 refine QN Tryz.func163 E Z<|gA 2 E<|Kdn (t:=0) 77 8 E Z<|bK h fun y1 hy1 h2=>gO 6 E<|Kdp [0,1,2] (I y1) [rO 77 8 Llr s,.box 3 [I f],.box 3 [I f2],rO 77 8 Llr ([]:List Lfc)] C (Lpm hy1) E Z E E E E E E E E E E<|gO 10 E<|jC E h2 (fun h3=>?_) fun h4=>gA 10 E<|bK h4 fun q8 hq8 h9=>Kgp [(0,.sl 0 q8.1.length),(5,I q8.2)] [rO 77 8 Llr q8.1,.box 3 [I f],.box 3 [I f2],rO 77 8 Llr ([]:List Lfc)] ?_ ?_
 ·exact gA 8 E<|oSi h3▸Kec hΓ [_] (.inr E) E E E E (.inr ⟨HB.mk E,E⟩)
 ·refine gA 1 E<|Kcv hq8 (fun s6=>[(0,.sl 0 s6.1.length),(1,.fn (.func 164) [] [.ptr 1 0,.ptr 2 0]),(5,I s6.2.1),(6,I s6.2.2)]) (fun s6=>[rO 77 8 Llr s6.1,.box 3 [I f],.box 3 [I f2],rO 77 8 Llr ([]:List Lfc)]) ⟨⟨E,E,E,E,tV⟩,[],E,.inl E⟩ (fun s6 y14 hy12 hout13=>?_)
  refine gA 9 E<|jC E hy12 (fun h15=>?_) fun h26=>gA 4 E ?_
  ·refine bK h15 fun x16 hx16 h17=>?_
   have hj18:=Keh hx16
   refine gA 8 E<|eo_o E (Kdb hΓ hx16 E E E E E E)<|eo_o E (Kdh hΓ (enc:=Llr) s6.2.2.toNat 0 hj18 E E E E (fun _=>E) (g:=.agg (fM x16)) E)<|Kqf hΓ E E E Z<|Kqk hΓ E E E E E E E E Z<|Kdx [rO 77 8 Llr s6.1,.box 3 [I f],.box 3 [I f2],rO 77 8 Llr ([]:List Lfc),.box 77 (fM x16)] E<|bK h17 fun y19 hy19 h20=>gO 6 E<|Kdp [1,2] (B y19) [rO 77 8 Llr s6.1,.box 3 [I f],.box 3 [I f2],rO 77 8 Llr ([]:List Lfc),.box 77 (fM x16)] C (Lpl hy19) E Z E E E E E E E E E E<|gO 3 E<|jC E h20 (fun h21=>?_) fun h25=>gA 8 E<|oSi h25▸⟨_,E,⟨⟨E,E,E,E,tV⟩,[_],E,.inr ⟨HB.mk E,FB.mk E,Z⟩⟩⟩
   refine bK h21 fun x22 hx22 h23=>?_
   have hj24:=Keh hx22
   exact gA 5 E<|eo_o E (Kdb hΓ hx22 E E E E E E)<|Kdj hΓ (enc:=Llr) (z':=x16) s6.2.1.toNat 0 hj24 E E E E (fun _=>E) E E E E E E Z<|Kdx [rO 77 8 Llr (s6.1.set s6.2.1.toNat x16),.box 3 [I f],.box 3 [I f2],rO 77 8 Llr ([]:List Lfc),.box 77 (fM x16)] E<|Kha 0 (n':=(s6.1.set s6.2.1.toNat x16).length) E List.length_set.symm<|gO 14 E<|oSi h23▸⟨_,E,⟨⟨E,E,E,E,tV⟩,[_],E,.inr ⟨HB.mk E,FB.mk E,Z⟩⟩⟩
  cases h26
  obtain rfl:=hout13 _ rfl
  exact⟨⟨E,E,tV⟩,[],E,.inl E⟩
 exact bK h9 fun z27 hz27 h28=>gA 5 E<|eo_o E (Kgy hΓ hz27 E E E E E E)<|Kgv Z (Kgx hΓ (enc:=Llr) (a:=q8.2) hz27 E E E E E E E E E E (fun _=>E))<|gO 6 E<|Kgz hΓ hz27 E E E E E E E E<|gO 4 E<|oSi h28▸Kec hΓ [_] (.inr E) E E E E (.inr ⟨HB.mk E,E⟩)
theorem Lpo{a:Lfc}{b:Lfc}{r:Int}(h:Ljb a b=some r):Pure Tryz.prog 166 [.agg (fM a),.agg (fM b)] (I r):=by
 unfold Ljb at h
 exact QP Tryz.func166 E E E<|gA 2 E<|Kqg E E E E Z<|Kqg E E E E Z<|bK h fun y1 hy1 h2=>gO 9 E<|Kdq C (Lmk hy1) E Z E E E E E<|gO 4 E<|oSi h2▸gP E E
end Go.Proofs.YtjmlnnanfkiakaaGreatDoor
