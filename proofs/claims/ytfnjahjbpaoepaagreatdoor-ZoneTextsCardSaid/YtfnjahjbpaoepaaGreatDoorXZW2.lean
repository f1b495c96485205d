import Derived.Test.YtfnjahjbpaoepaaGreatDoorXZM
import Derived.Test.YtfnjahjbpaoepaaGreatDoorGt
import Derived.Test.YtfnjahjbpaoepaaGreatDoorStr
import Derived.Test.YtfnjahjbpaoepaaGreatDoorStr2
import Derived.Test.YtfnjahjbpaoepaaGreatDoorStr4
import Derived.Test.YtfnjahjbpaoepaaGreatDoorStr5
import Derived.Test.YtfnjahjbpaoepaaGreatDoorStr6
import Derived.Test.YtfnjahjbpaoepaaGreatDoorStr7
import Derived.Test.YtfnjahjbpaoepaaGreatDoorStr8
import Derived.Test.YtfnjahjbpaoepaaGreatDoorBld
import Derived.Test.YtfnjahjbpaoepaaGreatDoorXZW1
set_option maxHeartbeats 8000000
set_option linter.all false
set_option maxRecDepth 100000
namespace Go.Proofs.YtfnjahjbpaoepaaGreatDoor
open Go.Gk
theorem Leo{s:Str}{r:Bool}(h:Lai s=some r):Pure Tryz.prog 180 [S s] (B r):=by
 unfold Lai at h
 refine QP Tryz.func180 E E E<|gA 13 E<|bK h fun q4 hq4 h5=>gK hq4 fun hb7 h8=>?_
 replace hb7:=of_decide_eq_true hb7
 refine Khd (R:=fun a6=>q4=.go a6) (fun a6=>[(0,S s)]) (fun a6=>[]) ?_ ?_
 ·refine gA 1 E<|Keq h8 (fun i1 s2=>[(0,S s),(5,I (s.length:Int)),(6,I (i1:Int))]) (fun s2=>[]) ⟨⟨E,E,E,tV⟩,[],E,.inl E⟩ (fun i1 s2 y12 hlt hy10 hout11=>?_) (fun s2 hgo hge=>?_)
  ·refine gA 6 E<|Kcs E (dT hlt)<|bK hy10 fun c13 hc13 h14=>gA 14 E<|eo_o E (Kdj hΓ hc13 E E E E)<|gO 2 E<|bK h14 fun q15 hq15 h16=>Kcx 5 [(0,S s),(5,I (s.length:Int)),(6,I (i1:Int)),(18,B q15)] [] ?_ ?_
   ·refine Klc E E (fun hb=>?_) (fun hb=>?_)
    ·have h17:=cT hq15 hb
     exact gO 6 E<|oSi h17▸⟨⟨E,E,E,E,tV⟩,[],E,.inl E⟩
    have h18:=cF hq15 hb
    exact bK h18 fun c19 hc19 h20=>gO 2 E<|Kla E<|eo_o E (Kdj hΓ hc19 E E E E)<|gO 3 E<|oSi h20▸⟨⟨E,E,E,E,tV⟩,[],E,.inl E⟩
   refine gO 2 E<|jC E h16 (fun h21=>?_) fun h24=>gA 7 E<|oSi h24▸⟨_,E,⟨⟨E,E,Kbx E (Kbw (by omega)),tV⟩,[],E,.inl E⟩⟩
   refine gA 8 E<|bK h21 fun v22 hv22 h23=>?_
   cases h23
   obtain rfl:=hout11 _ rfl
   cases h5
   exact gA 4 E<|oSi hv22▸gP E E
  subst hgo
  exact gA 6 E<|Kct E (dF hge)<|gA 4 E<|⟨_,E,⟨⟨E,tV⟩,[],E,.inl E⟩⟩
 intro a6 ha
 subst ha
 replace h5:=Kgy h5
 refine bK h5 fun y25 hy25 h26=>gA 4 E<|Kdy C (Kvj hy25) E Z E E E E E<|gO 1 E<|bK h26 fun q27 hq27 h28=>Kcx 5 [(0,S s),(27,B q27)] [] ?_ ?_
 ·refine Klc E E (fun hb=>?_) (fun hb=>?_)
  ·have h29:=cT hq27 hb
   exact bK h29 fun y30 hy30 h31=>gO 2 E<|Kla E<|Kdy C (Kvd hy30) E Z E E E E E<|gO 3 E<|oSi h31▸⟨⟨E,E,tV⟩,[],E,.inl E⟩
  have h32:=cF hq27 hb
  exact gO 6 E<|oSi h32▸⟨⟨E,E,tV⟩,[],E,.inl E⟩
 refine gO 1 E<|bK h28 fun q33 hq33 h34=>Kcx 4 [(32,B q33)] [] ?_ ?_
 ·refine Klc E E (fun hb=>?_) (fun hb=>?_)
  ·have h35:=cT hq33 hb
   exact bK h35 fun y36 hy36 h37=>gO 1 E<|Kla E<|Kdy C (Kvk hy36) E Z E E E E E<|gO 3 E<|oSi h37▸⟨⟨E,tV⟩,[],E,.inl E⟩
  have h38:=cF hq33 hb
  exact gO 5 E<|oSi h38▸⟨⟨E,tV⟩,[],E,.inl E⟩
 exact gO 4 E<|oSi h34▸gP E E
theorem Lep{n:Int}{low:Int}{high:Int}{r:Bool}(h:Laj n low high=some r):Pure Tryz.prog 61 [I n,I low,I high] (B r):=by
 unfold Laj at h
 refine QP Tryz.func61 E E E<|gA 11 E<|Kcx 4 [(6,B false),(14,B ((decide ((low:Int)≤n))&&(decide ((n:Int)≤high))))] [] ?_ ?_
 ·refine Klc E E (fun hb=>?_) (fun hb=>?_)
  ·exact gO 5 E<|⟨⟨E,Kby E (Ket hb),tV⟩,[],E,.inl E⟩
  exact gO 5 E<|⟨⟨E,Kby E (Keu hb),tV⟩,[],E,.inl E⟩
 exact gO 4 E<|oSi h▸gP E E
theorem Leq{v_r:Kyb}{r:Int}(h:Lak v_r=some r):Pure Tryz.prog 88 [.agg [S v_r.Name,I v_r.Kind,B v_r.Addr.Six,U v_r.Addr.Hi,U v_r.Addr.Lo,S v_r.To,S v_r.Words,I v_r.Life]] (I r):=by
 unfold Lak at h
 refine QP Tryz.func88 E E E<|gA 2 E<|Kmj E E E E Z<|gO 11 E<|bK h fun q1 hq1 h2=>Kcx 6 [(1,.ptr 0 0),(15,B q1)] [.box 80 [S v_r.Name,I v_r.Kind,B v_r.Addr.Six,U v_r.Addr.Hi,U v_r.Addr.Lo,S v_r.To,S v_r.Words,I v_r.Life]] ?_ ?_
 ·refine Klc E E (fun hb=>?_) (fun hb=>?_)
  ·have h3:=cT hq1 hb
   exact gO 7 E<|oSi h3▸⟨⟨E,E,tV⟩,[],E,.inl E⟩
  have h4:=cF hq1 hb
  exact bK h4 fun y5 hy5 h6=>gO 2 E<|Kla E<|Kdy C (Kva hy5) E Z E E E E E<|bK h6 fun y7 hy7 h8=>Kla E<|Kdy C (Lej hy7) E Z E E E E E<|gO 3 E<|oSi h8▸⟨⟨E,E,tV⟩,[],E,.inl E⟩
 refine gO 2 E<|Kcr E (fun hb=>?_) (fun hb=>?_)
 ·have h9:=cT h2 hb
  exact gA 7 E<|oSi h9▸gP E E
 have h10:=cF h2 hb
 refine gA 4 E<|jD<|bK h10 fun y11 hy11 h12=>Kdz C (Lek hy11) E E E E E E<|bK h12 fun y13 hy13 h14=>Kcp hΓ 2 E<|Kdz C (Lem hy13) E E E E E E<|Kcp hΓ 3 E<|Kcr E (fun hb=>?_) (fun hb=>?_)
 ·have h15:=cT h14 hb
  exact gA 7 E<|oSi h15▸gP E E
 have h16:=cF h14 hb
 refine bK h16 fun q17 hq17 h18=>gA 3 E<|Khe [(1,.ptr 0 0),(3,B q17),(4,B ((v_r.Kind:Int)==28))] [.box 80 [S v_r.Name,I v_r.Kind,B v_r.Addr.Six,U v_r.Addr.Hi,U v_r.Addr.Lo,S v_r.To,S v_r.Words,I v_r.Life]] ?_ ?_
 ·refine jD<|gA 4 E<|Kbe E E (fun hb=>?_) (fun hb=>?_)
  ·have h19:=cT hq17 hb
   exact Kcp hΓ 10 E<|oSi h19▸⟨⟨E,E,E,tV⟩,[],E,.inl E⟩
  have h20:=cF hq17 hb
  exact Kcp hΓ 10 E<|oSi h20▸⟨⟨E,E,E,tV⟩,[],E,.inl E⟩
 refine gA 6 E<|bK h18 fun q21 hq21 h22=>Kcx 12 [(1,.ptr 0 0),(3,B q17),(45,B q21)] [.box 80 [S v_r.Name,I v_r.Kind,B v_r.Addr.Six,U v_r.Addr.Hi,U v_r.Addr.Lo,S v_r.To,S v_r.Words,I v_r.Life]] ?_ ?_
 ·refine Klc E E (fun hb=>?_) (fun hb=>?_)
  ·have h23:=cT hq21 hb
   refine bK h23 fun y24 hy24 h25=>gO 2 E<|Kla E<|Kdy C (Len hy24) E Z E E E E E<|gO 2 E<|Kcx 6 [(1,.ptr 0 0),(3,B q17),(33,B true),(44,B (((y24:Int) != 0)||(!((v_r.Addr.Six:Bool)==((v_r.Kind:Int)==28)))))] [.box 80 [S v_r.Name,I v_r.Kind,B v_r.Addr.Six,U v_r.Addr.Hi,U v_r.Addr.Lo,S v_r.To,S v_r.Words,I v_r.Life]] ?_ ?_
   ·refine Klc E E (fun hb=>?_) (fun hb=>?_)
    ·exact gO 7 E<|⟨⟨E,E,E,Kby E (or_t hb),tV⟩,[],E,.inl E⟩
    exact gO 7 E<|⟨⟨E,E,E,Kby E (or_f hb),tV⟩,[],E,.inl E⟩
   exact gO 2 E<|oSi h25▸⟨⟨E,E,E,tV⟩,[],E,.inl E⟩
  have h26:=cF hq21 hb
  exact gO 13 E<|oSi h26▸⟨⟨E,E,E,tV⟩,[],E,.inl E⟩
 refine gO 1 E<|Kcx 9 [(1,.ptr 0 0),(55,B (q21||((!q17)&&(!(((v_r.Addr.Six:Bool)==false)&&(((v_r.Addr.Hi:Int)==0)&&(((v_r.Addr.Lo:Int)==0)&&true)))))))] [.box 80 [S v_r.Name,I v_r.Kind,B v_r.Addr.Six,U v_r.Addr.Hi,U v_r.Addr.Lo,S v_r.To,S v_r.Words,I v_r.Life]] ?_ ?_
 ·refine Klc E E (fun hb=>?_) (fun hb=>?_)
  ·exact gO 10 E<|⟨⟨E,Kby E (or_t hb),tV⟩,[],E,.inl E⟩
  refine gO 3 E<|Kcx 5 [(1,.ptr 0 0),(46,B false),(54,B ((!q17)&&(!(((v_r.Addr.Six:Bool)==false)&&(((v_r.Addr.Hi:Int)==0)&&(((v_r.Addr.Lo:Int)==0)&&true))))))] [.box 80 [S v_r.Name,I v_r.Kind,B v_r.Addr.Six,U v_r.Addr.Hi,U v_r.Addr.Lo,S v_r.To,S v_r.Words,I v_r.Life]] ?_ ?_
  ·refine Klc E E (fun hb=>?_) (fun hb=>?_)
   ·exact gO 2 E<|Kla E<|Kau hΓ (gs:=[B false,U 0,U 0]) E E E E E E E<|Kla E<|eo_o E (Key hΓ [39] (b:=(((v_r.Addr.Six:Bool)==false)&&(((v_r.Addr.Hi:Int)==0)&&(((v_r.Addr.Lo:Int)==0)&&true)))) (by kernel_rfl) (by kernel_rfl) E E E)<|gO 2 E<|⟨⟨E,E,Kby E (Ket hb),tV⟩,[],E,.inl E⟩
   exact gO 6 E<|⟨⟨E,E,Kby E (Keu hb),tV⟩,[],E,.inl E⟩
  exact gO 2 E<|⟨⟨E,Kby E (or_f hb),tV⟩,[],E,.inl E⟩
 refine gO 2 E<|Kcr E (fun hb=>?_) (fun hb=>?_)
 ·have h27:=cT h22 hb
  exact gA 7 E<|oSi h27▸gP E E
 have h28:=cF h22 hb
 refine gA 9 E<|Kcx 4 [(1,.ptr 0 0),(63,B (((v_r.Kind:Int)==5)||((v_r.Kind:Int)==12)))] [.box 80 [S v_r.Name,I v_r.Kind,B v_r.Addr.Six,U v_r.Addr.Hi,U v_r.Addr.Lo,S v_r.To,S v_r.Words,I v_r.Life]] ?_ ?_
 ·refine Klc E E (fun hb=>?_) (fun hb=>?_)
  ·exact gO 5 E<|⟨⟨E,Kby E (or_t hb),tV⟩,[],E,.inl E⟩
  exact gO 5 E<|⟨⟨E,Kby E (or_f hb),tV⟩,[],E,.inl E⟩
 refine bK h28 fun q29 hq29 h30=>gO 2 E<|Khf (q:=q29) (fun a31=>[(1,.ptr 0 0)]) (fun a31=>[.box 80 [S v_r.Name,I v_r.Kind,B v_r.Addr.Six,U v_r.Addr.Hi,U v_r.Addr.Lo,S v_r.To,S v_r.Words,I v_r.Life]]) ?_ ?_
 ·refine jC E hq29 (fun h32=>?_) fun h39=>gA 7 E<|jC E h39 (fun h40=>?_) fun h43=>?_
  ·refine bK h32 fun y33 hy33 h34=>gA 4 E<|Kdy C (Lej hy33) E Z E E E E E<|gO 3 E<|jC E h34 (fun h35=>?_) fun h38=>gA 1 E<|oSi h38▸⟨_,E,⟨⟨E,tV⟩,[],E,.inl E⟩⟩
   refine gA 6 E<|bK h35 fun v36 hv36 h37=>?_
   cases h37
   cases h30
   exact gA 2 E<|oSi hv36▸gP E E
  ·refine gA 6 E<|bK h40 fun v41 hv41 h42=>?_
   cases h42
   cases h30
   exact gA 2 E<|oSi hv41▸gP E E
  exact gA 1 E<|oSi h43▸⟨_,E,⟨⟨E,tV⟩,[],E,.inl E⟩⟩
 intro a31 ha
 subst ha
 replace h30:=Kgx h30
 refine gA 8 E<|Kcx 4 [(1,.ptr 0 0),(78,B (((v_r.Kind:Int) != 16)&&(!((v_r.Words:Str)==[]))))] [.box 80 [S v_r.Name,I v_r.Kind,B v_r.Addr.Six,U v_r.Addr.Hi,U v_r.Addr.Lo,S v_r.To,S v_r.Words,I v_r.Life]] ?_ ?_
 ·refine Klc E E (fun hb=>?_) (fun hb=>?_)
  ·exact gO 5 E<|⟨⟨E,Kby E (Ket hb),tV⟩,[],E,.inl E⟩
  exact gO 5 E<|⟨⟨E,Kby E (Keu hb),tV⟩,[],E,.inl E⟩
 refine gO 1 E<|bK h30 fun q44 hq44 h45=>Kcx 5 [(1,.ptr 0 0),(84,B q44)] [.box 80 [S v_r.Name,I v_r.Kind,B v_r.Addr.Six,U v_r.Addr.Hi,U v_r.Addr.Lo,S v_r.To,S v_r.Words,I v_r.Life]] ?_ ?_
 ·refine Klc E E (fun hb=>?_) (fun hb=>?_)
  ·have h46:=cT hq44 hb
   exact gO 6 E<|oSi h46▸⟨⟨E,E,tV⟩,[],E,.inl E⟩
  have h47:=cF hq44 hb
  exact bK h47 fun y48 hy48 h49=>gO 2 E<|Kla E<|Kdy C (Leo hy48) E Z E E E E E<|gO 3 E<|oSi h49▸⟨⟨E,E,tV⟩,[],E,.inl E⟩
 refine gO 1 E<|Kcx 5 [(1,.ptr 0 0),(90,B (q44||(decide (((v_r.Words.length:Int):Int)>200))))] [.box 80 [S v_r.Name,I v_r.Kind,B v_r.Addr.Six,U v_r.Addr.Hi,U v_r.Addr.Lo,S v_r.To,S v_r.Words,I v_r.Life]] ?_ ?_
 ·refine Klc E E (fun hb=>?_) (fun hb=>?_)
  ·exact gO 6 E<|⟨⟨E,Kby E (or_t hb),tV⟩,[],E,.inl E⟩
  exact gO 6 E<|⟨⟨E,Kby E (or_f hb),tV⟩,[],E,.inl E⟩
 refine gO 2 E<|jC E h45 (fun h50=>?_) fun h51=>bK h51 fun y52 hy52 h53=>gA 7 E<|Kdy C (Lep hy52) E Z E E E E E<|gO 3 E<|jC E h53 (fun h54=>?_) fun h55=>?_
 ·exact gA 7 E<|oSi h50▸gP E E
 ·exact gA 7 E<|oSi h54▸gP E E
 exact gA 8 E<|oSi h55▸gP E E
theorem Ler{s:Str}{r:Str}(h:Lal s=some r):Pure Tryz.prog 90 [S s] (S r):=by
 unfold Lal at h
 exact QP Tryz.func90 E E E<|bK h fun y1 hy1 h2=>gA 8 E<|Kdy C (Kva hy1) E Z E E E E E<|gO 4 E<|oSi h2▸gP E E
theorem Les{name:Str}{zone:Str}{r:Bool}(h:Lam name zone=some r):Pure Tryz.prog 89 [S name,S zone] (B r):=by
 unfold Lam at h
 refine QP Tryz.func89 E E E<|gA 11 E<|bK h fun q1 hq1 h2=>Kcx 5 [(4,B false),(13,B q1)] [] ?_ ?_
 ·refine Klc E E (fun hb=>?_) (fun hb=>?_)
  ·have h3:=cT hq1 hb
   exact gO 6 E<|oSi h3▸⟨⟨E,E,tV⟩,[],E,.inl E⟩
  have h4:=cF hq1 hb
  exact bK h4 fun y5 hy5 h6=>gO 2 E<|Kla E<|eo_o E (Kej hy5 E E)<|bK h6 fun y7 hy7 h8=>Kla E<|Kdy C (Kvc hy7) E Z E E E E E<|gO 2 E<|oSi h8▸⟨⟨E,E,tV⟩,[],E,.inl E⟩
 exact gO 4 E<|oSi h2▸gP E E
theorem Let{a:Kyb}{b:Kyb}{r:Int}(h:Lan a b=some r):Pure Tryz.prog 91 [.agg [S a.Name,I a.Kind,B a.Addr.Six,U a.Addr.Hi,U a.Addr.Lo,S a.To,S a.Words,I a.Life],.agg [S b.Name,I b.Kind,B b.Addr.Six,U b.Addr.Hi,U b.Addr.Lo,S b.To,S b.Words,I b.Life]] (I r):=by
 unfold Lan at h
 exact QP Tryz.func91 E E E<|gA 2 E<|Kmj E E E E Z<|Kmj E E E E Z<|gO 4 E<|jD<|bK h fun y1 hy1 h2=>gA 4 E<|Kdz C (Kvi hy1) E E E E E E<|bK h2 fun y3 hy3 h4=>Kcp hΓ 4 E<|Kdz C (Lcw hy3) E E E E E E<|bK h4 fun y5 hy5 h6=>Kcp hΓ 6 E<|Kdz C (Ldw hy5) E E E E E E<|bK h6 fun y7 hy7 h8=>Kcp hΓ 6 E<|Kdz C (Ldw hy7) E E E E E E<|bK h8 fun y9 hy9 h10=>Kcp hΓ 4 E<|Kdz C (Kvi hy9) E E E E E E<|bK h10 fun y11 hy11 h12=>Kcp hΓ 4 E<|Kdz C (Kvi hy11) E E E E E E<|Kdu hΓ (enc:=(eN .i64)) [y1,y3,y5,y7,y9,y11] E E E E E E E E E E E E<|bK h12 fun y13 hy13 h14=>Kdz C (Ldx hy13) E E E E E E<|Kcp hΓ 4 E<|oSi h14▸gP E E
theorem Leu{z:Kyc}{r:Int}(h:Lao z=some r):Pure Tryz.prog 18 [.agg [S z.Root,.d (Sl Lch z.Records)]] (I r):=by
 unfold Lao at h
 refine QP Tryz.func18 E E E<|gA 2 E<|Kmj E E E E Z<|bK h fun y1 hy1 h2=>gO 8 E<|Kdy C (Lej hy1) E Z E E E E E<|gO 9 E<|Kcr E (fun hb=>?_) (fun hb=>?_)
 ·have h3:=cT h2 hb
  exact gA 8 E<|oSi h3▸gP E E
 have h4:=cF h2 hb
 refine gA 11 E<|Kcr E (fun hb=>?_) (fun hb=>?_)
 ·have h5:=cT h4 hb
  exact gA 7 E<|oSi h5▸gP E E
 have h6:=cF h4 hb
 refine gA 11 E<|bK h6 fun q10 hq10 h11=>Kdh 21 E fun hb13=>Khd (R:=fun a12=>q10=.go a12) (fun a12=>[]) (fun a12=>[.box 48 [S z.Root,.d (Sl Lch z.Records)]]) ?_ ?_
 ·refine gA 1 E<|Kdg z.Records hq10 (fun i7 s8=>[(1,.ptr 0 0),(21,.d (Sl Lch z.Records)),(22,I (z.Records.length:Int)),(23,I (i7:Int))]) (fun s8=>[.box 48 [S z.Root,.d (Sl Lch z.Records)]]) ⟨⟨E,E,E,E,tV⟩,[],E,.inl E⟩ (fun i7 x9 s8 y17 hx14 hlt hy15 hout16=>?_) (fun s8 hgo=>?_)
  ·refine gA 6 E<|Kcs E (dT (Int.ofNat_lt.2 hlt))<|gA 7 E<|eo_o E (Kdi hΓ (enc:=Lch) (Kdb hx14) E E E E E (fun _=>E))<|gO 1 E<|Kmi hΓ E E E Z<|gO 1 E<|Kmn hΓ E E E E E E E E Z<|Keg [.box 48 [S z.Root,.d (Sl Lch z.Records)],.box 80 [S x9.Name,I x9.Kind,B x9.Addr.Six,U x9.Addr.Hi,U x9.Addr.Lo,S x9.To,S x9.Words,I x9.Life]] E<|bK hy15 fun y18 hy18 h19=>gO 6 E<|Kdy C (Leq hy18) E Z E E E E E<|gO 9 E<|Kcr E (fun hb=>?_) (fun hb=>?_)
   ·have h20:=cT h19 hb
    refine gA 10 E<|bK h20 fun v21 hv21 h22=>?_
    cases h22
    obtain rfl:=hout16 _ rfl
    cases h11
    exact gA 4 E<|oSi hv21▸gP E E
   have h23:=cF h19 hb
   refine gA 4 E<|jD<|bK h23 fun y24 hy24 h25=>gA 2 E<|Kdz C (Ler hy24) E E E E E E<|bK h25 fun y26 hy26 h27=>Kcp hΓ 2 E<|Kdz C (Les hy26) E E E E E E<|Kcp hΓ 3 E<|Kcr E (fun hb=>?_) (fun hb=>?_)
   ·have h28:=cT h27 hb
    refine gA 9 E<|bK h28 fun v29 hv29 h30=>?_
    cases h30
    obtain rfl:=hout16 _ rfl
    cases h11
    exact gA 4 E<|oSi hv29▸gP E E
   have h31:=cF h27 hb
   refine gA 9 E<|Kcr E (fun hb=>?_) (fun hb=>?_)
   ·have h32:=cT h31 hb
    refine gA 8 E ?_
    cases h32
    exact⟨_,E,⟨⟨E,E,E,Kbx E (Kbw (nLl hlt hb13)),tV⟩,[_],E,.inr ⟨HB.mk E,FB.mk E,Z⟩⟩⟩
   have h33:=cF h31 hb
   refine bK h33 fun x34 hx34 h35=>gA 8 E<|eo_o E (Kdi hΓ (enc:=Lch) hx34 E E E E E (fun _=>E))<|gO 1 E<|Kmi hΓ E E E Z<|Kmn hΓ E E E E E E E E Z<|Keg [.box 48 [S z.Root,.d (Sl Lch z.Records)],.box 80 [S x9.Name,I x9.Kind,B x9.Addr.Six,U x9.Addr.Hi,U x9.Addr.Lo,S x9.To,S x9.Words,I x9.Life],.box 80 [S x34.Name,I x34.Kind,B x34.Addr.Six,U x34.Addr.Hi,U x34.Addr.Lo,S x34.To,S x34.Words,I x34.Life]] E<|gO 8 E<|Kcx 4 [(1,.ptr 0 0),(5,.ptr 1 0),(7,.ptr 2 0),(21,.d (Sl Lch z.Records)),(22,I (z.Records.length:Int)),(23,I (i7:Int)),(55,B (((x9.Kind:Int)==5)||((x34.Kind:Int)==5)))] [.box 48 [S z.Root,.d (Sl Lch z.Records)],.box 80 [S x9.Name,I x9.Kind,B x9.Addr.Six,U x9.Addr.Hi,U x9.Addr.Lo,S x9.To,S x9.Words,I x9.Life],.box 80 [S x34.Name,I x34.Kind,B x34.Addr.Six,U x34.Addr.Hi,U x34.Addr.Lo,S x34.To,S x34.Words,I x34.Life]] ?_ ?_
   ·refine Klc E E (fun hb=>?_) (fun hb=>?_)
    ·exact gO 5 E<|⟨⟨E,E,E,E,E,E,Kby E (or_t hb),tV⟩,[],E,.inl E⟩
    exact gO 5 E<|⟨⟨E,E,E,E,E,E,Kby E (or_f hb),tV⟩,[],E,.inl E⟩
   refine bK h35 fun y36 hy36 h37=>gO 7 E<|Kdy C (Let hy36) E Z E E E E E<|gO 11 E<|Kcr E (fun hb=>?_) (fun hb=>?_)
   ·have h38:=cT h37 hb
    refine gA 9 E<|bK h38 fun v39 hv39 h40=>?_
    cases h40
    obtain rfl:=hout16 _ rfl
    cases h11
    exact gA 4 E<|oSi hv39▸gP E E
   have h41:=cF h37 hb
   refine gA 7 E<|Kcr E (fun hb=>?_) (fun hb=>?_)
   ·have h42:=cT h41 hb
    refine gA 9 E<|bK h42 fun v43 hv43 h44=>?_
    cases h44
    obtain rfl:=hout16 _ rfl
    cases h11
    exact gA 4 E<|oSi hv43▸gP E E
   have h45:=cF h41 hb
   refine gA 8 E<|Kcx 2 [(1,.ptr 0 0),(21,.d (Sl Lch z.Records)),(22,I (z.Records.length:Int)),(23,I (i7:Int)),(73,B (((x34.Name:Str)==x9.Name)&&(((x9.Kind:Int)==5)||((x34.Kind:Int)==5))))] [.box 48 [S z.Root,.d (Sl Lch z.Records)],.box 80 [S x9.Name,I x9.Kind,B x9.Addr.Six,U x9.Addr.Hi,U x9.Addr.Lo,S x9.To,S x9.Words,I x9.Life],.box 80 [S x34.Name,I x34.Kind,B x34.Addr.Six,U x34.Addr.Hi,U x34.Addr.Lo,S x34.To,S x34.Words,I x34.Life]] ?_ ?_
   ·refine Klc E E (fun hb=>?_) (fun hb=>?_)
    ·exact gO 3 E<|⟨⟨E,E,E,E,Kby E (Ket hb),tV⟩,[],E,.inl E⟩
    exact gO 3 E<|⟨⟨E,E,E,E,Kby E (Keu hb),tV⟩,[],E,.inl E⟩
   refine gO 3 E<|jC E h45 (fun h46=>?_) fun h49=>gA 8 E ?_
   ·refine gA 9 E<|bK h46 fun v47 hv47 h48=>?_
    cases h48
    obtain rfl:=hout16 _ rfl
    cases h11
    exact gA 4 E<|oSi hv47▸gP E E
   cases h49
   exact⟨_,E,⟨⟨E,E,E,Kbx E (Kbw (nLl hlt hb13)),tV⟩,[_,_],E,.inr ⟨HB.mk E,FB.mk E,Z⟩⟩⟩
  subst hgo
  exact gA 6 E<|Kct E (dF (Int.lt_irrefl _))<|gA 4 E<|⟨_,E,⟨tV,[],E,.inl E⟩⟩
 intro a12 ha
 subst ha
 replace h11:=Kgy h11
 exact gA 7 E<|oSi h11▸gP E E
theorem Lev{k:Nat}{a:Kya}{r:(Int×Int×Int×Int×Int×Int×Int×Int×Int)}(h:Lap k a=some r):Pure Tryz.prog 158 [.agg [B a.Six,U a.Hi,U a.Lo]] (.agg [I r.1,I r.2.1,I r.2.2.1,I r.2.2.2.1,I r.2.2.2.2.1,I r.2.2.2.2.2.1,I r.2.2.2.2.2.2.1,I r.2.2.2.2.2.2.2.1,I r.2.2.2.2.2.2.2.2]):=by
 unfold Lap at h
 refine QP Tryz.func158 E E E<|gA 2 E<|Kmj E E E E Z<|Kmi hΓ E E E Z<|gO 4 E<|Kmi hΓ E E E Z<|gO 8 E<|bK h fun q4 hq4 h5=>Khe [(1,.ptr 0 0),(2,.ptr 1 0),(3,.ptr 2 0)] [.box 39 [B a.Six,U a.Hi,U a.Lo],.box 198 [I 0,I 0,I 0,I 0,I 0,I 0,I 0,I 0,I 0],.box 198 [I q4.1,I q4.2.1,I q4.2.2.1,I q4.2.2.2.1,I q4.2.2.2.2.1,I q4.2.2.2.2.2.1,I q4.2.2.2.2.2.2.1,I q4.2.2.2.2.2.2.2.1,I q4.2.2.2.2.2.2.2.2]] ?_ ?_
 ·refine gA 1 E<|Kde hq4 (fun s2=>[(1,.ptr 0 0),(2,.ptr 1 0),(3,.ptr 2 0),(5,I s2.2.2.2.2.2.2.2.2.2)]) (fun s2=>[.box 39 [B a.Six,U a.Hi,U a.Lo],.box 198 [I 0,I 0,I 0,I 0,I 0,I 0,I 0,I 0,I 0],.box 198 [I s2.1,I s2.2.1,I s2.2.2.1,I s2.2.2.2.1,I s2.2.2.2.2.1,I s2.2.2.2.2.2.1,I s2.2.2.2.2.2.2.1,I s2.2.2.2.2.2.2.2.1,I s2.2.2.2.2.2.2.2.2.1]]) ⟨⟨E,E,E,E,tV⟩,[],E,.inl E⟩ (fun s2 y10 hy8 hout9=>?_)
  refine gA 6 E<|jC E hy8 (fun h11=>?_) fun h20=>gA 4 E ?_
  ·exact bK h11 fun y12 hy12 h13=>gA 17 E<|eo_o E (Kfa hy12 E E)<|bK h13 fun x14 hx14 h15=>gO 2 E<|eo_o E (Kiq hΓ hx14 E E E E E E)<|eo_u Z (Kis hΓ (l:=([s2.1,s2.2.1,s2.2.2.1,s2.2.2.2.1,s2.2.2.2.2.1,s2.2.2.2.2.2.1,s2.2.2.2.2.2.2.1,s2.2.2.2.2.2.2.2.1,s2.2.2.2.2.2.2.2.2.1]:List Int)) (v:=(wi (bitsV .and .u64 y12 65535))) (f:=fun z=>.d (.v (.int .i64 z))) hx14 E E E E E E E E E E)<|Keg [.box 39 [B a.Six,U a.Hi,U a.Lo],.box 198 [I 0,I 0,I 0,I 0,I 0,I 0,I 0,I 0,I 0],.box 198 [I (updA s2.2.2.2.2.2.2.2.2.2 0 (wi (bitsV .and .u64 y12 65535)) s2.1),I (updA s2.2.2.2.2.2.2.2.2.2 1 (wi (bitsV .and .u64 y12 65535)) s2.2.1),I (updA s2.2.2.2.2.2.2.2.2.2 2 (wi (bitsV .and .u64 y12 65535)) s2.2.2.1),I (updA s2.2.2.2.2.2.2.2.2.2 3 (wi (bitsV .and .u64 y12 65535)) s2.2.2.2.1),I (updA s2.2.2.2.2.2.2.2.2.2 4 (wi (bitsV .and .u64 y12 65535)) s2.2.2.2.2.1),I (updA s2.2.2.2.2.2.2.2.2.2 5 (wi (bitsV .and .u64 y12 65535)) s2.2.2.2.2.2.1),I (updA s2.2.2.2.2.2.2.2.2.2 6 (wi (bitsV .and .u64 y12 65535)) s2.2.2.2.2.2.2.1),I (updA s2.2.2.2.2.2.2.2.2.2 7 (wi (bitsV .and .u64 y12 65535)) s2.2.2.2.2.2.2.2.1),I (updA s2.2.2.2.2.2.2.2.2.2 8 (wi (bitsV .and .u64 y12 65535)) s2.2.2.2.2.2.2.2.2.1)]] E<|bK h15 fun y16 hy16 h17=>gO 9 E<|eo_o E (Kfa hy16 E E)<|bK h17 fun x18 hx18 h19=>gO 2 E<|eo_o E (Kiq hΓ hx18 E E E E E E)<|eo_u Z (Kis hΓ (l:=([updA s2.2.2.2.2.2.2.2.2.2 0 (wi (bitsV .and .u64 y12 65535)) s2.1,updA s2.2.2.2.2.2.2.2.2.2 1 (wi (bitsV .and .u64 y12 65535)) s2.2.1,updA s2.2.2.2.2.2.2.2.2.2 2 (wi (bitsV .and .u64 y12 65535)) s2.2.2.1,updA s2.2.2.2.2.2.2.2.2.2 3 (wi (bitsV .and .u64 y12 65535)) s2.2.2.2.1,updA s2.2.2.2.2.2.2.2.2.2 4 (wi (bitsV .and .u64 y12 65535)) s2.2.2.2.2.1,updA s2.2.2.2.2.2.2.2.2.2 5 (wi (bitsV .and .u64 y12 65535)) s2.2.2.2.2.2.1,updA s2.2.2.2.2.2.2.2.2.2 6 (wi (bitsV .and .u64 y12 65535)) s2.2.2.2.2.2.2.1,updA s2.2.2.2.2.2.2.2.2.2 7 (wi (bitsV .and .u64 y12 65535)) s2.2.2.2.2.2.2.2.1,updA s2.2.2.2.2.2.2.2.2.2 8 (wi (bitsV .and .u64 y12 65535)) s2.2.2.2.2.2.2.2.2.1]:List Int)) (v:=(wi (bitsV .and .u64 y16 65535))) (f:=fun z=>.d (.v (.int .i64 z))) hx18 E E E E E E E E E E)<|Keg [.box 39 [B a.Six,U a.Hi,U a.Lo],.box 198 [I 0,I 0,I 0,I 0,I 0,I 0,I 0,I 0,I 0],.box 198 [I (updA (wi (4+s2.2.2.2.2.2.2.2.2.2)) 0 (wi (bitsV .and .u64 y16 65535)) (updA s2.2.2.2.2.2.2.2.2.2 0 (wi (bitsV .and .u64 y12 65535)) s2.1)),I (updA (wi (4+s2.2.2.2.2.2.2.2.2.2)) 1 (wi (bitsV .and .u64 y16 65535)) (updA s2.2.2.2.2.2.2.2.2.2 1 (wi (bitsV .and .u64 y12 65535)) s2.2.1)),I (updA (wi (4+s2.2.2.2.2.2.2.2.2.2)) 2 (wi (bitsV .and .u64 y16 65535)) (updA s2.2.2.2.2.2.2.2.2.2 2 (wi (bitsV .and .u64 y12 65535)) s2.2.2.1)),I (updA (wi (4+s2.2.2.2.2.2.2.2.2.2)) 3 (wi (bitsV .and .u64 y16 65535)) (updA s2.2.2.2.2.2.2.2.2.2 3 (wi (bitsV .and .u64 y12 65535)) s2.2.2.2.1)),I (updA (wi (4+s2.2.2.2.2.2.2.2.2.2)) 4 (wi (bitsV .and .u64 y16 65535)) (updA s2.2.2.2.2.2.2.2.2.2 4 (wi (bitsV .and .u64 y12 65535)) s2.2.2.2.2.1)),I (updA (wi (4+s2.2.2.2.2.2.2.2.2.2)) 5 (wi (bitsV .and .u64 y16 65535)) (updA s2.2.2.2.2.2.2.2.2.2 5 (wi (bitsV .and .u64 y12 65535)) s2.2.2.2.2.2.1)),I (updA (wi (4+s2.2.2.2.2.2.2.2.2.2)) 6 (wi (bitsV .and .u64 y16 65535)) (updA s2.2.2.2.2.2.2.2.2.2 6 (wi (bitsV .and .u64 y12 65535)) s2.2.2.2.2.2.2.1)),I (updA (wi (4+s2.2.2.2.2.2.2.2.2.2)) 7 (wi (bitsV .and .u64 y16 65535)) (updA s2.2.2.2.2.2.2.2.2.2 7 (wi (bitsV .and .u64 y12 65535)) s2.2.2.2.2.2.2.2.1)),I (updA (wi (4+s2.2.2.2.2.2.2.2.2.2)) 8 (wi (bitsV .and .u64 y16 65535)) (updA s2.2.2.2.2.2.2.2.2.2 8 (wi (bitsV .and .u64 y12 65535)) s2.2.2.2.2.2.2.2.2.1))]] E<|gO 7 E<|oSi h19▸⟨_,E,⟨⟨E,E,E,E,tV⟩,[],E,.inl E⟩⟩
  cases h20
  obtain rfl:=hout9 _ rfl
  exact⟨⟨E,E,E,tV⟩,[],E,.inl E⟩
 refine bK h5 fun q21 hq21 h22=>gA 8 E<|Khe [(2,.ptr 1 0),(3,.ptr 2 0)] [.box 39 [B a.Six,U a.Hi,U a.Lo],.box 198 [I 0,I 0,I 0,I 0,I 0,I 0,I 0,I 0,I 0],.box 198 [I q4.1,I q4.2.1,I q4.2.2.1,I q4.2.2.2.1,I q4.2.2.2.2.1,I q4.2.2.2.2.2.1,I q4.2.2.2.2.2.2.1,I q4.2.2.2.2.2.2.2.1,I q21]] ?_ ?_
 ·refine jC E hq21 (fun h23=>?_) fun h24=>gA 1 E<|oSi h24▸⟨⟨E,E,tV⟩,[],E,.inl E⟩
  exact gA 1 E<|eo_o E (Kiq hΓ (l:=List.replicate 9 ()) (z:=()) E E E E E E E)<|Kmn hΓ E E E E E E E E Z<|Keg [.box 39 [B a.Six,U a.Hi,U a.Lo],.box 198 [I 0,I 0,I 0,I 0,I 0,I 0,I 0,I 0,I 0],.box 198 [I q4.1,I q4.2.1,I q4.2.2.1,I q4.2.2.2.1,I q4.2.2.2.2.1,I q4.2.2.2.2.2.1,I q4.2.2.2.2.2.2.1,I q4.2.2.2.2.2.2.2.1,I 1]] E<|gO 1 E<|oSi h23▸⟨⟨E,E,tV⟩,[],E,.inl E⟩
 exact gA 4 E<|Kmn hΓ E E E E E E E E Z<|Keg [.box 39 [B a.Six,U a.Hi,U a.Lo],.box 198 [I q4.1,I q4.2.1,I q4.2.2.1,I q4.2.2.2.1,I q4.2.2.2.2.1,I q4.2.2.2.2.2.1,I q4.2.2.2.2.2.2.1,I q4.2.2.2.2.2.2.2.1,I q21],.box 198 [I q4.1,I q4.2.1,I q4.2.2.1,I q4.2.2.2.1,I q4.2.2.2.2.1,I q4.2.2.2.2.2.1,I q4.2.2.2.2.2.2.1,I q4.2.2.2.2.2.2.2.1,I q21]] E<|gO 3 E<|oSi h22▸gP E E
theorem Lew{k:Nat}{a:Kya}{r:List Int}(h:Laq k a=some r):EC Tryz.prog 183 [.agg [B a.Six,U a.Hi,U a.Lo]] [] fun g hp'=>g=.sl 0 r.length∧hp'=[rO 3 1 (eN .i64) r]:=by
 unfold Laq at h
 refine QM Tryz.func183 E Z<|gA 2 E<|Kmj E E E E Z<|bK h fun y1 hy1 h2=>gO 6 E<|Kdy C (Lev hy1) E Z E E E E E<|Kmi hΓ E E E Z<|Kmn hΓ E E E E E E E E Z<|Keg [.box 39 [B a.Six,U a.Hi,U a.Lo],.box 198 [I y1.1,I y1.2.1,I y1.2.2.1,I y1.2.2.2.1,I y1.2.2.2.2.1,I y1.2.2.2.2.2.1,I y1.2.2.2.2.2.2.1,I y1.2.2.2.2.2.2.2.1,I y1.2.2.2.2.2.2.2.2]] E<|gO 4 E<|Kdv (t:=0) 3 1 E Z<|gO 8 E<|bK h2 fun q6 hq6 h7=>Khe [(4,.sl 2 q6.length)] [.box 39 [B a.Six,U a.Hi,U a.Lo],.box 198 [I y1.1,I y1.2.1,I y1.2.2.1,I y1.2.2.2.1,I y1.2.2.2.2.1,I y1.2.2.2.2.2.1,I y1.2.2.2.2.2.2.1,I y1.2.2.2.2.2.2.2.1,I y1.2.2.2.2.2.2.2.2],rO 3 1 (eN .i64) q6] ?_ ?_
 ·refine gA 1 E<|Kde hq6 (fun s4=>[(3,.ptr 1 0),(4,.sl 2 s4.1.length),(5,I s4.2)]) (fun s4=>[.box 39 [B a.Six,U a.Hi,U a.Lo],.box 198 [I y1.1,I y1.2.1,I y1.2.2.1,I y1.2.2.2.1,I y1.2.2.2.2.1,I y1.2.2.2.2.2.1,I y1.2.2.2.2.2.2.1,I y1.2.2.2.2.2.2.2.1,I y1.2.2.2.2.2.2.2.2],rO 3 1 (eN .i64) s4.1]) ⟨⟨E,E,E,tV⟩,[],E,.inl E⟩ (fun s4 y12 hy10 hout11=>?_)
  refine gA 7 E<|jC E hy10 (fun h13=>?_) fun h18=>gA 4 E ?_
  ·exact bK h13 fun x14 hx14 h15=>gA 7 E<|eo_o E (Kiq hΓ hx14 E E E E E E)<|eo_o E (Kir hΓ (f:=fun z=>.d (.v (.int .i64 z))) hx14 E E E E E E)<|Kdt hΓ (enc:=(eN .i64)) [x14] E E E E E E E E E E E E Z<|bK h15 fun y16 hy16 h17=>Keh hΓ (enc:=(eN .i64)) hy16 E E E E E E E E E (fun _=>E) E E E E<|gO 9 E<|oSi h17▸⟨_,E,⟨⟨E,E,E,tV⟩,[],E,.inl E⟩⟩
  cases h18
  obtain rfl:=hout11 _ rfl
  exact⟨⟨E,tV⟩,[],E,.inl E⟩
 exact gA 8 E<|Kig 0 [.dead,.box 198 [I y1.1,I y1.2.1,I y1.2.2.1,I y1.2.2.2.1,I y1.2.2.2.2.1,I y1.2.2.2.2.2.1,I y1.2.2.2.2.2.2.1,I y1.2.2.2.2.2.2.2.1,I y1.2.2.2.2.2.2.2.2],rO 3 1 (eN .i64) q6] E Z<|Khc 2 0 [rO 3 1 (eN .i64) q6,.box 198 [I y1.1,I y1.2.1,I y1.2.2.1,I y1.2.2.2.1,I y1.2.2.2.2.1,I y1.2.2.2.2.2.1,I y1.2.2.2.2.2.2.1,I y1.2.2.2.2.2.2.2.1,I y1.2.2.2.2.2.2.2.2],.dead] E E E E E E<|Kha<|oSi h7▸Ken hΓ [_,_] (.inr E) E E E E (.inr ⟨HB.mk E,E⟩)
theorem Lex{s:Str}{r:Bool}(h:Lar s=some r):Pure Tryz.prog 186 [S s] (B r):=by
 unfold Lar at h
 exact QP Tryz.func186 E E E<|gA 13 E<|oSi h▸gP E E
theorem Ley{s:List Str}{r:Int}(h:Las s=some r):Pure Tryz.prog 254 [.d (Sl eS s),.fn (.func 186) [] []] (I r):=by
 unfold Las at h
 refine QP Tryz.func254 E E E<|gA 13 E<|bK h fun q4 hq4 h5=>Kdh 0 E fun hb7=>Khd (R:=fun a6=>q4=.go a6) (fun a6=>[]) (fun a6=>[]) ?_ ?_
 ·refine gA 1 E<|Kdg s hq4 (fun i1 s2=>[(0,.d (Sl eS s)),(1,.fn (.func 186) [] []),(7,I (s.length:Int)),(8,I (i1:Int))]) (fun s2=>[]) ⟨⟨E,E,E,E,tV⟩,[],E,.inl E⟩ (fun i1 x3 s2 y11 hx8 hlt hy9 hout10=>?_) (fun s2 hgo=>?_)
  ·refine gA 6 E<|Kcs E (dT (Int.ofNat_lt.2 hlt))<|gA 15 E<|eo_o E (Kdi hΓ (enc:=eS) (Kdb hx8) E E E E E (fun _=>E))<|bK hy9 fun y12 hy12 h13=>gO 1 E<|Kdy C (Lex hy12) E Z E E E E E<|gO 2 E<|jC E h13 (fun h14=>?_) fun h17=>gA 7 E ?_
   ·refine gA 9 E<|bK h14 fun v15 hv15 h16=>?_
    cases h16
    obtain rfl:=hout10 _ rfl
    cases h5
    exact gA 4 E<|oSi hv15▸gP E E
   cases h17
   exact⟨_,E,⟨⟨E,E,E,Kbx E (Kbw (nLl hlt hb7)),tV⟩,[],E,.inl E⟩⟩
  subst hgo
  exact gA 6 E<|Kct E (dF (Int.lt_irrefl _))<|gA 4 E<|⟨_,E,⟨tV,[],E,.inl E⟩⟩
 intro a6 ha
 subst ha
 replace h5:=Kgy h5
 exact gA 7 E<|oSi h5▸gP E E
theorem Lez{s:List Str}{r:Bool}(h:Lat s=some r):Pure Tryz.prog 185 [.d (Sl eS s),.fn (.func 186) [] []] (B r):=by
 unfold Lat at h
 exact QP Tryz.func185 E E E<|bK h fun y1 hy1 h2=>gA 9 E<|Kdy C (Ley hy1) E Z E E E E E<|gO 5 E<|oSi h2▸gP E E
theorem Lfa{k:Nat}{a:Kya}{r:Str}(h:Lau k a=some r):Pure Tryz.prog 92 [.agg [B a.Six,U a.Hi,U a.Lo]] (S r):=by
 unfold Lau at h
 refine QP Tryz.func92 E E E<|gA 2 E<|Kmj E E E E Z<|gO 11 E<|jC E h (fun h1=>?_) fun h21=>gA 4 E<|Kdv (t:=0) 9 1 E Z<|bK h21 fun y22 hy22 h23=>gO 6 E<|Kdy C (Pure.rows (Lew hy22) E E) E Z E E E E E<|gO 4 E<|bK h23 fun q27 hq27 h28=>Kdh 44 E fun hb30=>Khe [(7,.sl 1 q27.length)] [.box 39 [B a.Six,U a.Hi,U a.Lo],rO 9 1 eS q27] ?_ ?_
 ·refine bK h1 fun y2 hy2 h3=>gA 3 E<|Kdy C (Lev hy2) E Z E E E E E<|Kmi hΓ E E E Z<|Kmn hΓ E E E E E E E E Z<|Keg [.box 39 [B a.Six,U a.Hi,U a.Lo],.box 198 [I y2.1,I y2.2.1,I y2.2.2.1,I y2.2.2.2.1,I y2.2.2.2.2.1,I y2.2.2.2.2.2.1,I y2.2.2.2.2.2.2.1,I y2.2.2.2.2.2.2.2.1,I y2.2.2.2.2.2.2.2.2]] E<|gO 4 E<|Kdv (t:=0) 9 1 E Z<|gO 5 E<|eo_o E (Kiq hΓ (l:=List.replicate 9 ()) (z:=()) E E E E E E E)<|gO 2 E<|eo_o E (Kiq hΓ (l:=List.replicate 9 ()) (z:=()) E E E E E E E)<|gO 2 E<|eo_o E (Kiq hΓ (l:=List.replicate 9 ()) (z:=()) E E E E E E E)<|gO 2 E<|eo_o E (Kiq hΓ (l:=List.replicate 9 ()) (z:=()) E E E E E E E)<|gO 2 E<|Kdt hΓ (enc:=(eN .i64)) [shrV .i64 y2.2.1 8,bitsV .and .i64 y2.2.1 255,shrV .i64 y2.1 8,bitsV .and .i64 y2.1 255] E E E E E E E E E E E E Z<|gO 4 E<|bK h3 fun q7 hq7 h8=>Kdh 29 E fun hb10=>Khe [(4,.sl 2 q7.length)] [.box 39 [B a.Six,U a.Hi,U a.Lo],.box 198 [I y2.1,I y2.2.1,I y2.2.2.1,I y2.2.2.2.1,I y2.2.2.2.2.1,I y2.2.2.2.2.2.1,I y2.2.2.2.2.2.2.1,I y2.2.2.2.2.2.2.2.1,I y2.2.2.2.2.2.2.2.2],rO 9 1 eS q7] ?_ ?_
  ·refine gA 1 E<|Kep [shrV .i64 y2.2.1 8,bitsV .and .i64 y2.2.1 255,shrV .i64 y2.1 8,bitsV .and .i64 y2.1 255] hq7 (fun i4 s5=>[(4,.sl 2 s5.length),(29,.d (Sl (eN .i64) [shrV .i64 y2.2.1 8,bitsV .and .i64 y2.2.1 255,shrV .i64 y2.1 8,bitsV .and .i64 y2.1 255])),(30,I ([shrV .i64 y2.2.1 8,bitsV .and .i64 y2.2.1 255,shrV .i64 y2.1 8,bitsV .and .i64 y2.1 255].length:Int)),(31,I (i4:Int))]) (fun s5=>[.box 39 [B a.Six,U a.Hi,U a.Lo],.box 198 [I y2.1,I y2.2.1,I y2.2.2.1,I y2.2.2.2.1,I y2.2.2.2.2.1,I y2.2.2.2.2.2.1,I y2.2.2.2.2.2.2.1,I y2.2.2.2.2.2.2.2.1,I y2.2.2.2.2.2.2.2.2],rO 9 1 eS s5]) ⟨⟨E,E,E,E,tV⟩,[],E,.inl E⟩ (fun i4 x6 s5 y14 hx11 hlt hy12=>?_) (?_)
   ·refine gA 6 E<|Kcs E (dT (Int.ofNat_lt.2 hlt))<|gA 6 E<|eo_o E (Kdi hΓ (enc:=(eN .i64)) (Kdb hx11) E E E E E (fun _=>E))<|bK hy12 fun y15 hy15 h16=>gO 7 E<|Kdy C (Kvl hy15) E Z E E E E E<|Kdt hΓ (enc:=eS) [y15] E E E E E E E E E E E E Z<|bK h16 fun y17 hy17 h18=>Keh hΓ (enc:=eS) hy17 E E E E E E E E E (fun _=>E) E E E E<|gO 8 E ?_
    cases h18
    exact⟨⟨E,E,E,Kbx E (Kbw (nLl hlt hb10)),tV⟩,[],E,.inl E⟩
   exact gA 6 E<|Kct E (dF (Int.lt_irrefl _))<|gA 4 E<|⟨⟨E,tV⟩,[],E,.inl E⟩
  exact gA 2 E<|Kef 2 [4] _ [.box 39 [B a.Six,U a.Hi,U a.Lo],.box 198 [I y2.1,I y2.2.1,I y2.2.2.1,I y2.2.2.2.1,I y2.2.2.2.2.1,I y2.2.2.2.2.2.1,I y2.2.2.2.2.2.2.1,I y2.2.2.2.2.2.2.2.1,I y2.2.2.2.2.2.2.2.2],.dead] E E E Z<|bK h8 fun y19 hy19 h20=>gA 2 E<|Kdy C (Kvv hy19) E Z E E E E E<|gO 5 E<|oSi h20▸gP E E
 ·refine gA 1 E<|Kep y22 hq27 (fun i24 s25=>[(7,.sl 1 s25.length),(44,.d (Sl (eN .i64) y22)),(45,I (y22.length:Int)),(46,I (i24:Int))]) (fun s25=>[.box 39 [B a.Six,U a.Hi,U a.Lo],rO 9 1 eS s25]) ⟨⟨E,E,E,E,tV⟩,[],E,.inl E⟩ (fun i24 x26 s25 y34 hx31 hlt hy32=>?_) (?_)
  ·refine gA 6 E<|Kcs E (dT (Int.ofNat_lt.2 hlt))<|gA 6 E<|eo_o E (Kdi hΓ (enc:=(eN .i64)) (Kdb hx31) E E E E E (fun _=>E))<|bK hy32 fun y35 hy35 h36=>gO 7 E<|Kdy C (Kvm hy35) E Z E E E E E<|Kdt hΓ (enc:=eS) [y35] E E E E E E E E E E E E Z<|bK h36 fun y37 hy37 h38=>Keh hΓ (enc:=eS) hy37 E E E E E E E E E (fun _=>E) E E E E<|gO 8 E ?_
   cases h38
   exact⟨⟨E,E,E,Kbx E (Kbw (nLl hlt hb30)),tV⟩,[],E,.inl E⟩
  exact gA 6 E<|Kct E (dF (Int.lt_irrefl _))<|gA 4 E<|⟨⟨E,tV⟩,[],E,.inl E⟩
 refine gA 3 E<|Kef 1 [7] _ [.box 39 [B a.Six,U a.Hi,U a.Lo],.dead] E E E Z<|gA 4 E<|bK h28 fun q42 hq42 h43=>Khd (R:=fun a44=>q42=.inl a44) (fun a44=>[(7,.d (Sl eS q27))]) (fun a44=>[.box 39 [B a.Six,U a.Hi,U a.Lo],.dead]) ?_ ?_
 ·refine gA 1 E<|Kde hq42 (fun s40=>[(7,.d (Sl eS q27)),(10,I s40)]) (fun s40=>[.box 39 [B a.Six,U a.Hi,U a.Lo],.dead]) ⟨⟨E,E,tV⟩,[],E,.inl E⟩ (fun s40 y48 hy46 hout47=>?_)
  refine gA 7 E<|jC E hy46 (fun h49=>?_) fun h84=>gA 4 E ?_
  ·refine gA 9 E<|bK h49 fun q53 hq53 h54=>Khd (R:=fun a55=>q53=.inl a55) (fun a55=>[(7,.d (Sl eS q27)),(10,I s40)]) (fun a55=>[.box 39 [B a.Six,U a.Hi,U a.Lo],.dead]) ?_ ?_
   ·refine gA 1 E<|Kde hq53 (fun s51=>[(7,.d (Sl eS q27)),(10,I s40),(11,I s51)]) (fun s51=>[.box 39 [B a.Six,U a.Hi,U a.Lo],.dead]) ⟨⟨E,E,E,tV⟩,[],E,.inl E⟩ (fun s51 y59 hy57 hout58=>?_)
    refine gA 9 E<|jC E hy57 (fun h60=>?_) fun h83=>gA 4 E ?_
    ·refine bK h60 fun z61 hz61 h62=>gA 11 E<|eo_o E (Kdp hΓ (enc:=eS) hz61 E E E E E E (fun _=>E))<|bK h62 fun y63 hy63 h64=>Kdy C (Lez hy63) E Z E E E E E<|gO 3 E<|jC E h64 (fun h65=>?_) fun h82=>gA 8 E<|oSi h82▸⟨_,E,⟨⟨E,E,E,tV⟩,[],E,.inl E⟩⟩
     refine gA 1 E<|jD<|bK h65 fun z66 hz66 h67=>gA 2 E<|gl_o E (Kdp hΓ (enc:=eS) hz66 E E E E E E (fun _=>E))<|bK h67 fun y68 hy68 h69=>Kdz C (Kvv hy68) E E E E E E<|bK h69 fun y70 hy70 h71=>gl_o E (Kej hy70 E E)<|bK h71 fun z72 hz72 h73=>Kcp hΓ 4 E<|gl_o E (Kdp hΓ (enc:=eS) hz72 E E E E E E (fun _=>E))<|bK h73 fun y74 hy74 h75=>Kdz C (Kvv hy74) E E E E E E<|bK h75 fun y76 hy76 h77=>gl_o E (Kej hy76 E E)<|Kcp hΓ 6 E<|bK h77 fun v78 hv78 h79=>?_
     cases h79
     obtain rfl:=hout58 _ rfl
     cases h54
     refine gA 5 E<|bK hv78 fun v80 hv80 h81=>?_
     cases h81
     obtain rfl:=hout47 _ rfl
     cases h43
     exact gA 4 E<|oSi hv80▸gP E E
    cases h83
    obtain rfl:=hout58 _ rfl
    exact⟨_,E,⟨⟨E,E,tV⟩,[],E,.inl E⟩⟩
   intro a55 ha
   subst ha
   replace h54:=Kgx h54
   exact gA 7 E<|oSi h54▸⟨_,E,⟨⟨E,E,tV⟩,[],E,.inl E⟩⟩
  cases h84
  obtain rfl:=hout47 _ rfl
  exact⟨_,E,⟨⟨E,tV⟩,[],E,.inl E⟩⟩
 intro a44 ha
 subst ha
 replace h43:=Kgx h43
 exact bK h43 fun y85 hy85 h86=>gA 4 E<|Kdy C (Kvv hy85) E Z E E E E E<|gO 4 E<|oSi h86▸gP E E
theorem Lfb{r:List Str}(h:Lav=some r):Pure Tryz.prog 93 [] (.d (Sl eS r)):=by
 unfold Lav at h
 exact QP Tryz.func93 E E E<|gA 7 E<|Kdt hΓ (enc:=eS) [[97],[97,108,105,97,115],[98,97,99,107],[119,111,114,100,115],[97,97,97,97]] E E E E E E E E E E E E Z<|gO 4 E<|oSi h▸gP E E
theorem Lfc{k:Nat}{z:Kyc}{r:Str}(h:Law k z=some r):Pure Tryz.prog 19 [.agg [S z.Root,.d (Sl Lch z.Records)]] (S r):=by
 unfold Law at h
 refine QP Tryz.func19 E E E<|gA 2 E<|Kmj E E E E Z<|gO 5 E<|eo_s Z (nblt.1 E) (Kin hΓ [1] [.d (.v (.pointer none)),.d (.v (.slice none 0 0))] (hi:=show Γ 90=some ⟨_,_,_,_⟩ from E) E ⟨.refl _,.refl _,tV⟩)<|Keg [.box 48 [S z.Root,.d (Sl Lch z.Records)],.box 90 [.d (.v (.pointer none)),.d (.v (.slice none 0 0))]] E<|gO 2 E<|Kjm 1 0 [.box 48 [S z.Root,.d (Sl Lch z.Records)],.box 90 [.pn 1,.d (.v (.slice none 0 0))]] E E E<|Kiu 1 1 5 1 [.box 48 [S z.Root,.d (Sl Lch z.Records)],.box 90 [.pn 1,.sl 2 ([]:Str).length],rO 5 1 eU ([]:Str)] E E E Z<|bK h fun y1 hy1 h2=>gA 4 E<|eo_o E (Kej hy1 E E)<|bK h2 fun y3 hy3 h4=>eo_o E (Kej hy3 E E)<|bK h4 fun y5 hy5 h6=>Kdx [2,1] (.tup [I y5.1,.d (.v .nilIface)]) [.box 48 [S z.Root,.d (Sl Lch z.Records)],.box 90 [.pn 1,.sl 3 y5.2.length],.dead,rO 5 1 eU y5.2] C (Lea hy5) E Z E E E E E E E E E E<|Kfw 3 2 [.box 48 [S z.Root,.d (Sl Lch z.Records)],.box 90 [.pn 1,.sl 2 y5.2.length],rO 5 1 eU y5.2,.dead] E E E E E E<|gO 11 E<|bK h6 fun q10 hq10 h11=>Kdh 13 E fun hb13=>Khe [(3,.ptr 1 0)] [.box 48 [S z.Root,.d (Sl Lch z.Records)],.box 90 [.pn 1,.sl 2 q10.length],rO 5 1 eU q10,.dead] ?_ ?_
 ·refine gA 1 E<|Kep z.Records hq10 (fun i7 s8=>[(3,.ptr 1 0),(13,.d (Sl Lch z.Records)),(14,I (z.Records.length:Int)),(15,I (i7:Int))]) (fun s8=>[.box 48 [S z.Root,.d (Sl Lch z.Records)],.box 90 [.pn 1,.sl 2 s8.length],rO 5 1 eU s8,.dead]) ⟨⟨E,E,E,E,tV⟩,[],E,.inl E⟩ (fun i7 x9 s8 y17 hx14 hlt hy15=>?_) (?_)
  ·refine gA 6 E<|Kcs E (dT (Int.ofNat_lt.2 hlt))<|gA 6 E<|eo_o E (Kdi hΓ (enc:=Lch) (Kdb hx14) E E E E E (fun _=>E))<|gO 1 E<|Kmi hΓ E E E Z<|Kmn hΓ E E E E E E E E Z<|Keg [.box 48 [S z.Root,.d (Sl Lch z.Records)],.box 90 [.pn 1,.sl 2 s8.length],rO 5 1 eU s8,.dead,.box 80 [S x9.Name,I x9.Kind,B x9.Addr.Six,U x9.Addr.Hi,U x9.Addr.Lo,S x9.To,S x9.Words,I x9.Life]] E<|bK hy15 fun y18 hy18 h19=>gO 8 E<|eo_o E (Kej hy18 E E)<|gO 10 E<|Kcx 4 [(3,.ptr 1 0),(5,.ptr 4 0),(6,S y18),(13,.d (Sl Lch z.Records)),(14,I (z.Records.length:Int)),(15,I (i7:Int)),(31,B (((x9.Kind:Int)==1)||((x9.Kind:Int)==28)))] [.box 48 [S z.Root,.d (Sl Lch z.Records)],.box 90 [.pn 1,.sl 2 s8.length],rO 5 1 eU s8,.dead,.box 80 [S x9.Name,I x9.Kind,B x9.Addr.Six,U x9.Addr.Hi,U x9.Addr.Lo,S x9.To,S x9.Words,I x9.Life]] ?_ ?_
   ·refine Klc E E (fun hb=>?_) (fun hb=>?_)
    ·exact gO 5 E<|⟨⟨E,E,E,E,E,E,Kby E (or_t hb),tV⟩,[],E,.inl E⟩
    exact gO 5 E<|⟨⟨E,E,E,E,E,E,Kby E (or_f hb),tV⟩,[],E,.inl E⟩
   refine bK h19 fun q20 hq20 h21=>gO 2 E<|Khe [(3,.ptr 1 0),(5,.ptr 4 0),(6,S q20),(13,.d (Sl Lch z.Records)),(14,I (z.Records.length:Int)),(15,I (i7:Int))] [.box 48 [S z.Root,.d (Sl Lch z.Records)],.box 90 [.pn 1,.sl 2 s8.length],rO 5 1 eU s8,.dead,.box 80 [S x9.Name,I x9.Kind,B x9.Addr.Six,U x9.Addr.Hi,U x9.Addr.Lo,S x9.To,S x9.Words,I x9.Life]] ?_ ?_
   ·refine jC E hq20 (fun h22=>?_) fun h25=>gA 1 E<|oSi h25▸⟨⟨E,E,E,E,E,E,tV⟩,[],E,.inl E⟩
    exact bK h22 fun y23 hy23 h24=>gA 3 E<|Kdy C (Lfa hy23) E Z E E E E E<|gO 2 E<|oSi h24▸⟨⟨E,E,E,E,E,E,tV⟩,[],E,.inl E⟩
   refine gA 1 E<|Kge [.dead,.dead,.dead,.dead,.box 80 [S x9.Name,I x9.Kind,B x9.Addr.Six,U x9.Addr.Hi,U x9.Addr.Lo,S x9.To,S x9.Words,I x9.Life]] [1,6,13] [20] [] hmix (by kernel_rfl) (by kernel_rfl) ⟨E,tV⟩ Z<|bK h21 fun y26 hy26 h27=>go_E hΓ 2 E<|ge_q E (.inl E) (fun _ _=>Kgg (qt_p (Kej hy26 E E)))<|bK h27 fun y28 hy28 h29=>Kgs C (Lfb hy28) E E E E E E<|bK h29 fun y30 hy30 h31=>Kgs C (Lek hy30) E E E E E E<|bK h31 fun y32 hy32 h33=>go_E hΓ 2 E<|Kgs C (Lel hy32) E E E E E E<|bK h33 fun x34 hx34 h35=>ge_q E (.inl E) (fun _ _=>Kgg (qt_p (Kdi hΓ (enc:=eS) hx34 E E E E E (fun _=>E))))<|bK h35 fun y36 hy36 h37=>go_E hΓ 1 E<|ge_q E (.inl E) (fun _ _=>Kgg (qt_p (Kej hy36 E E)))<|bK h37 fun y38 hy38 h39=>ge_q E (.inl E) (fun _ _=>Kgg (qt_p (Kej hy38 E E)))<|bK h39 fun y40 hy40 h41=>go_E hΓ 2 E<|Kgs C (Kvl hy40) E E E E E E<|bK h41 fun y42 hy42 h43=>ge_q E (.inl E) (fun _ _=>Kgg (qt_p (Kej hy42 E E)))<|bK h43 fun y44 hy44 h45=>ge_q E (.inl E) (fun _ _=>Kgg (qt_p (Kej hy44 E E)))<|bK h45 fun y46 hy46 h47=>go_E hΓ 1 E<|ge_q E (.inl E) (fun _ _=>Kgg (qt_p (Kej hy46 E E)))<|bK h47 fun y48 hy48 h49=>ge_q E (.inl E) (fun _ _=>Kgg (qt_p (Kej hy48 E E)))<|bK h49 fun y50 hy50 h51=>ge_h [.box 48 [S z.Root,.d (Sl Lch z.Records)],.box 90 [.pn 1,.sl 5 y50.2.length],.dead,.dead,.box 80 [S x9.Name,I x9.Kind,B x9.Addr.Six,U x9.Addr.Hi,U x9.Addr.Lo,S x9.To,S x9.Words,I x9.Life],rO 5 1 eU y50.2] E E E (Kgm ⟨E,tV⟩) (Kgr [2,1] (.tup [I y50.1,.d (.v .nilIface)]) [.box 48 [S z.Root,.d (Sl Lch z.Records)],.box 90 [.pn 1,.sl 5 y50.2.length],.dead,.dead,.box 80 [S x9.Name,I x9.Kind,B x9.Addr.Six,U x9.Addr.Hi,U x9.Addr.Lo,S x9.To,S x9.Words,I x9.Life],rO 5 1 eU y50.2] C (Lea hy50) E E E E E E E E E E)<|Kgf<|gA 2 E<|Kfy 5 2 [.box 48 [S z.Root,.d (Sl Lch z.Records)],.box 90 [.pn 1,.sl 2 y50.2.length],rO 5 1 eU y50.2,.dead,.box 80 [S x9.Name,I x9.Kind,B x9.Addr.Six,U x9.Addr.Hi,U x9.Addr.Lo,S x9.To,S x9.Words,I x9.Life],.dead] E E E E E E<|gA 4 E ?_
   cases h51
   exact⟨⟨E,E,E,Kbx E (Kbw (nLl hlt hb13)),tV⟩,[_,_],E,.inr ⟨HB.mk E,FB.mk E,Z⟩⟩
  exact gA 6 E<|Kct E (dF (Int.lt_irrefl _))<|gA 4 E<|⟨⟨E,tV⟩,[],E,.inl E⟩
 exact bK h11 fun y52 hy52 h53=>gA 3 E<|Kdx [2,1] (S y52) [.box 48 [S z.Root,.d (Sl Lch z.Records)],.dead,.dead,.dead] C (Kab hy52) E Z E E E E E E E E E E<|gO 4 E<|oSi h53▸gP E E
theorem Lfd{k:Nat}{s:Kxz}{r:Kyc×Kxz}(h:Lax k s=some r):EC Tryz.prog 96 [.ptr 0 0] [.box 25 (fQ s)] fun g hp'=>g=.agg [S r.1.Root,.d (Sl Lch r.1.Records)]∧hp'=[.box 25 (fQ r.2)]:=by
 unfold Lax at h
 refine QN Tryz.func96 E Z<|gA 2 E<|Kmi hΓ E E E Z<|gO 8 E<|bK h fun q4 hq4 h5=>Khd (R:=fun a6=>q4=.inl a6) (fun a6=>[(2,.ptr 1 0)]) (fun a6=>[.box 25 (fQ a6),.box 48 [S [],.d (Sl Lch [])]]) ?_ ?_
 ·refine gA 1 E<|Kde hq4 (fun s2=>[(0,.ptr 0 0),(2,.ptr 1 0),(4,I s2.2)]) (fun s2=>[.box 25 (fQ s2.1),.box 48 [S [],.d (Sl Lch [])]]) ⟨⟨E,E,E,tV⟩,[],E,.inl E⟩ (fun s2 y10 hy8 hout9=>?_)
  refine gA 6 E<|jC E hy8 (fun h11=>?_) fun h20=>gA 4 E ?_
  ·refine bK h11 fun y12 hy12 h13=>gA 7 E<|Kdx [0] (.agg [S y12.1.Root,.d (Sl Lch y12.1.Records)]) [.box 25 (fQ y12.2),.box 48 [S [],.d (Sl Lch [])]] C (Ldi hy12) E Z E E E E E E E E E E<|Kmi hΓ E E E Z<|Kmn hΓ E E E E E E E E Z<|Keg [.box 25 (fQ y12.2),.box 48 [S [],.d (Sl Lch [])],.box 48 [S y12.1.Root,.d (Sl Lch y12.1.Records)]] E<|bK h13 fun y14 hy14 h15=>gO 5 E<|Kdy C (Leu hy14) E Z E E E E E<|gO 3 E<|jC E h15 (fun h16=>?_) fun h19=>gA 7 E<|oSi h19▸⟨_,E,⟨⟨E,E,E,tV⟩,[_],E,.inr ⟨HB.mk E,FB.mk E,Z⟩⟩⟩
   refine gA 3 E<|Kmn hΓ E E E E E E E E Z<|Keg [.box 25 (fQ y12.2),.box 48 [S y12.1.Root,.d (Sl Lch y12.1.Records)],.box 48 [S y12.1.Root,.d (Sl Lch y12.1.Records)]] E<|gO 5 E<|bK h16 fun v17 hv17 h18=>?_
   cases h18
   obtain rfl:=hout9 _ rfl
   cases h5
   exact gA 4 E<|oSi hv17▸Ken hΓ [_,_] (.inr E) E E E E (.inr ⟨HB.mk E,E⟩)
  cases h20
  obtain rfl:=hout9 _ rfl
  exact⟨_,E,⟨⟨E,tV⟩,[],E,.inl E⟩⟩
 intro a6 ha
 subst ha
 replace h5:=Kgx h5
 exact gA 3 E<|Kau hΓ (gs:=[S [110,101,116,46,120],.d (Sl Lch [])]) E E E E E E E<|Kmn hΓ E E E E E E E E Z<|Keg [.box 25 (fQ a6),.box 48 [S [110,101,116,46,120],.d (Sl Lch [])]] E<|gO 3 E<|oSi h5▸Ken hΓ [_] (.inr E) E E E E (.inr ⟨HB.mk E,E⟩)
theorem Lfe{s:Kxz}{t:Str}{v_with:Str}{r:Str×Kxz}(h:Laz s t v_with=some r):EC Tryz.prog 66 [.ptr 0 0,S t,S v_with] [.box 25 (fQ s)] fun g hp'=>g=S r.1∧hp'=[.box 25 (fQ r.2)]:=by
 unfold Laz at h
 refine QN Tryz.func66 E Z<|gA 11 E<|Kcx 3 [(0,.ptr 0 0),(1,S t),(2,S v_with),(14,B (((t:Str)==[])||((v_with:Str)==[])))] [.box 25 (fQ s)] ?_ ?_
 ·refine Klc E E (fun hb=>?_) (fun hb=>?_)
  ·exact gO 4 E<|⟨⟨E,E,E,Kby E (or_t hb),tV⟩,[],E,.inl E⟩
  exact gO 4 E<|⟨⟨E,E,E,Kby E (or_f hb),tV⟩,[],E,.inl E⟩
 refine gO 2 E<|jC E h (fun h1=>?_) fun h2=>bK h2 fun y3 hy3 h4=>gA 7 E<|Kdx [0] (I y3.1) [.box 25 (fQ y3.2)] C (Lck hy3) E Z E E E E E E E E E E<|bK h4 fun y5 hy5 h6=>gO 9 E<|Kdx [0] (I y5.1) [.box 25 (fQ y5.2)] C (Lck hy5) E Z E E E E E E E E E E<|bK h6 fun c7 hc7 h8=>eo_o E (Kdj hΓ hc7 E E E E)<|bK h8 fun y9 hy9 h10=>gO 7 E<|Kdx [0] (I y9.1) [.box 25 (fQ y9.2)] C (Lck hy9) E Z E E E E E E E E E E<|gO 9 E<|jC E h10 (fun h11=>?_) fun h20=>?_
 ·exact gA 8 E<|oSi h1▸Ken hΓ [] (.inr E) E E E E (.inl E)
 ·exact gA 1 E<|jD<|bK h11 fun z12 hz12 h13=>gA 2 E<|gl_o E (Kdl hΓ hz12 E E E E E)<|Kcp hΓ 2 E<|gl_o E (Kid hΓ E E E E E)<|bK h13 fun y14 hy14 h15=>gl_o E (Kej hy14 E E)<|bK h15 fun z16 hz16 h17=>Kcp hΓ 3 E<|gl_o E (Kdl hΓ hz16 E E E E E)<|bK h17 fun y18 hy18 h19=>gl_o E (Kej hy18 E E)<|Kcp hΓ 6 E<|oSi h19▸Ken hΓ [] (.inr E) E E E E (.inl E)
 refine gA 6 E<|jC E h20 (fun h21=>?_) fun h30=>gA 4 E<|jD<|bK h30 fun z31 hz31 h32=>gA 2 E<|gl_o E (Kdl hΓ hz31 E E E E E)<|bK h32 fun z33 hz33 h34=>Kcp hΓ 3 E<|gl_o E (Kdl hΓ hz33 E E E E E)<|bK h34 fun y35 hy35 h36=>gl_o E (Kej hy35 E E)<|Kcp hΓ 4 E<|oSi h36▸Ken hΓ [] (.inr E) E E E E (.inl E)
 exact gA 1 E<|jD<|bK h21 fun z22 hz22 h23=>gA 2 E<|gl_o E (Kdl hΓ hz22 E E E E E)<|Kcp hΓ 2 E<|gl_o E (Kid hΓ E E E E E)<|bK h23 fun y24 hy24 h25=>gl_o E (Kej hy24 E E)<|bK h25 fun z26 hz26 h27=>Kcp hΓ 2 E<|gl_o E (Kdl hΓ hz26 E E E E E)<|bK h27 fun y28 hy28 h29=>gl_o E (Kej hy28 E E)<|Kcp hΓ 6 E<|oSi h29▸Ken hΓ [] (.inr E) E E E E (.inl E)
theorem Lff{k:Nat}{s:Kxz}{r:Str×Kxz}(h:Lba k s=some r):EC Tryz.prog 20 [.ptr 0 0] [.box 25 (fQ s)] fun g hp'=>g=S r.1∧hp'=[.box 25 (fQ r.2)]:=by
 unfold Lba at h
 refine QN Tryz.func20 E Z<|bK h fun y1 hy1 h2=>gA 8 E<|Kdx [0] (.agg [S y1.1.Root,.d (Sl Lch y1.1.Records)]) [.box 25 (fQ y1.2)] C (Lfd hy1) E Z E E E E E E E E E E<|bK h2 fun y3 hy3 h4=>Kdy C (Lfc hy3) E Z E E E E E<|gO 7 E<|Kdt hΓ (enc:=(eN .i64)) [0,0,1,2] E E E E E E E E E E E E Z<|bK h4 fun y5 hy5 h6=>Kdx [0] (I y5.1) [.box 25 (fQ y5.2)] C (Lcm hy5) E Z E E E E E E E E E E<|gO 3 E<|bK h6 fun q10 hq10 h11=>gK hq10 fun hb13 h14=>?_
 replace hb13:=of_decide_eq_true hb13
 refine Khe [(0,.ptr 0 0),(3,S q10.2)] [.box 25 (fQ q10.1)] ?_ ?_
 ·refine gA 1 E<|Ker h14 (fun i7 s8=>[(0,.ptr 0 0),(3,S s8.2),(9,I y5.1),(10,I (i7:Int))]) (fun s8=>[.box 25 (fQ s8.1)]) ⟨⟨E,E,E,E,tV⟩,[],E,.inl E⟩ (fun i7 s8 y18 hlt hy16=>?_) (fun hge=>?_)
  ·exact gA 6 E<|Kcs E (dT hlt)<|bK hy16 fun y19 hy19 h20=>gA 7 E<|Kdx [0] (S y19.1) [.box 25 (fQ y19.2)] C (Lfe hy19) E Z E E E E E E E E E E<|gO 8 E<|oSi h20▸⟨⟨E,E,E,Kbx E (Kbw (by omega)),tV⟩,[],E,.inl E⟩
  exact gA 6 E<|Kct E (dF hge)<|gA 4 E<|⟨⟨E,E,tV⟩,[],E,.inl E⟩
 refine bK h11 fun y21 hy21 h22=>gA 5 E<|Kdx [0] (B y21.1) [.box 25 (fQ y21.2)] C (Lcl hy21) E Z E E E E E E E E E E<|gO 2 E<|jC E h22 (fun h23=>?_) fun h24=>gA 9 E<|oSi h24▸Ken hΓ [] (.inr E) E E E E (.inl E)
 exact gA 7 E<|oSi h23▸Ken hΓ [] (.inr E) E E E E (.inl E)
theorem Lfg{s:Str}{r:(List Str)×Bool}(h:Lbb s=some r):Pure Tryz.prog 67 [S s] (.tup [.d (Sl eS r.1),B r.2]):=by
 unfold Lbb at h
 refine QP Tryz.func67 E E E<|bK h fun y1 hy1 h2=>gA 9 E<|Kdy C (Pure.rows (Kve hy1) E E) E Z E E E E E<|bK h2 fun x3 hx3 h4=>gO 16 E<|eo_o E (Kdi hΓ (enc:=eS) hx3 E E E E E (fun _=>E))<|gO 4 E<|jC E h4 (fun h5=>?_) fun h8=>gA 10 E<|oSi h8▸gP E E
 exact bK h5 fun z6 hz6 h7=>gA 4 E<|eo_o E (Kdp hΓ (enc:=eS) hz6 E E E E E E (fun _=>E))<|gO 6 E<|oSi h7▸gP E E
theorem Lfh{s:List Str}{v:Str}{r:Int}(h:Lbc s v=some r):Pure Tryz.prog 191 [.d (Sl eS s),S v] (I r):=by
 unfold Lbc at h
 refine QP Tryz.func191 E E E<|gA 13 E<|bK h fun q4 hq4 h5=>Kdh 0 E fun hb7=>Khd (R:=fun a6=>q4=.go a6) (fun a6=>[]) (fun a6=>[]) ?_ ?_
 ·refine gA 1 E<|Kdg s hq4 (fun i1 s2=>[(0,.d (Sl eS s)),(1,S v),(7,I (s.length:Int)),(8,I (i1:Int))]) (fun s2=>[]) ⟨⟨E,E,E,E,tV⟩,[],E,.inl E⟩ (fun i1 x3 s2 y11 hx8 hlt hy9 hout10=>?_) (fun s2 hgo=>?_)
  ·refine gA 6 E<|Kcs E (dT (Int.ofNat_lt.2 hlt))<|gA 15 E<|eo_o E (Kdi hΓ (enc:=eS) (Kdb hx8) E E E E E (fun _=>E))<|gO 4 E<|jC E hy9 (fun h12=>?_) fun h15=>gA 7 E ?_
   ·refine gA 9 E<|bK h12 fun v13 hv13 h14=>?_
    cases h14
    obtain rfl:=hout10 _ rfl
    cases h5
    exact gA 4 E<|oSi hv13▸gP E E
   cases h15
   exact⟨_,E,⟨⟨E,E,E,Kbx E (Kbw (nLl hlt hb7)),tV⟩,[],E,.inl E⟩⟩
  subst hgo
  exact gA 6 E<|Kct E (dF (Int.lt_irrefl _))<|gA 4 E<|⟨_,E,⟨tV,[],E,.inl E⟩⟩
 intro a6 ha
 subst ha
 replace h5:=Kgy h5
 exact gA 7 E<|oSi h5▸gP E E
theorem Lfi{s:List Str}{v:Str}{r:Bool}(h:Lbd s v=some r):Pure Tryz.prog 166 [.d (Sl eS s),S v] (B r):=by
 unfold Lbd at h
 exact QP Tryz.func166 E E E<|bK h fun y1 hy1 h2=>gA 9 E<|Kdy C (Lfh hy1) E Z E E E E E<|gO 5 E<|oSi h2▸gP E E
theorem Lfj{s:Str}{r:(List Str)×Bool}(h:Lbe s=some r):Pure Tryz.prog 97 [S s] (.tup [.d (Sl eS r.1),B r.2]):=by
 unfold Lbe at h
 exact QP Tryz.func97 E E E<|bK h fun y1 hy1 h2=>gA 9 E<|Kdy C (Pure.rows (Kve hy1) E E) E Z E E E E E<|bK h2 fun y3 hy3 h4=>gO 7 E<|Kdy C (Lfi hy3) E Z E E E E E<|gO 6 E<|oSi h4▸gP E E
theorem Lfk{k:Nat}{s:Str}{most:Int}{r:Int×Bool}(h:Lbf k s most=some r):Pure Tryz.prog 238 [S s,I most] (.tup [I r.1,B r.2]):=by
 unfold Lbf at h
 refine QP Tryz.func238 E E E<|bK h fun y1 hy1 h2=>gA 9 E<|Kdy C (Kva hy1) E Z E E E E E<|gO 9 E<|Kcx 5 [(0,S s),(6,S y1),(19,B (((y1:Str)==[])||(decide (((y1.length:Int):Int)>most))))] [] ?_ ?_
 ·refine Klc E E (fun hb=>?_) (fun hb=>?_)
  ·exact gO 6 E<|⟨⟨E,E,Kby E (or_t hb),tV⟩,[],E,.inl E⟩
  exact gO 6 E<|⟨⟨E,E,Kby E (or_f hb),tV⟩,[],E,.inl E⟩
 refine gO 1 E<|bK h2 fun q3 hq3 h4=>Kcx 8 [(0,S s),(6,S y1),(28,B q3)] [] ?_ ?_
 ·refine Klc E E (fun hb=>?_) (fun hb=>?_)
  ·have h5:=cT hq3 hb
   exact gO 9 E<|oSi h5▸⟨⟨E,E,E,tV⟩,[],E,.inl E⟩
  have h6:=cF hq3 hb
  refine bK h6 fun c7 hc7 h8=>gO 1 E<|Kla E<|eo_o E (Kdj hΓ hc7 E E E E)<|gO 2 E<|Kcx 3 [(0,S s),(6,S y1),(20,B false),(27,B ((((c7.toNat:Int):Int)==48)&&(!((s:Str)==[48]))))] [] ?_ ?_
  ·refine Klc E E (fun hb=>?_) (fun hb=>?_)
   ·exact gO 4 E<|⟨⟨E,E,E,Kby E (Ket hb),tV⟩,[],E,.inl E⟩
   exact gO 4 E<|⟨⟨E,E,E,Kby E (Keu hb),tV⟩,[],E,.inl E⟩
  exact gO 2 E<|oSi h8▸⟨⟨E,E,E,tV⟩,[],E,.inl E⟩
 refine gO 2 E<|jC E h4 (fun h9=>?_) fun h10=>gA 8 E<|bK h10 fun q14 hq14 h15=>Khd (R:=fun a16=>q14=.inl a16) (fun a16=>[(0,S s)]) (fun a16=>[]) ?_ ?_
 ·exact gA 8 E<|oSi h9▸gP E E
 ·refine gA 1 E<|Kde hq14 (fun s12=>[(0,S s),(6,S y1),(7,I s12)]) (fun s12=>[]) ⟨⟨E,E,E,tV⟩,[],E,.inl E⟩ (fun s12 y20 hy18 hout19=>?_)
  refine gA 9 E<|jC E hy18 (fun h21=>?_) fun h34=>gA 4 E ?_
  ·refine bK h21 fun c22 hc22 h23=>gA 8 E<|eo_o E (Kdj hΓ hc22 E E E E)<|gO 2 E<|bK h23 fun q24 hq24 h25=>Kcx 5 [(0,S s),(6,S y1),(7,I s12),(44,B q24)] [] ?_ ?_
   ·refine Klc E E (fun hb=>?_) (fun hb=>?_)
    ·have h26:=cT hq24 hb
     exact gO 6 E<|oSi h26▸⟨⟨E,E,E,E,tV⟩,[],E,.inl E⟩
    have h27:=cF hq24 hb
    exact bK h27 fun c28 hc28 h29=>gO 2 E<|Kla E<|eo_o E (Kdj hΓ hc28 E E E E)<|gO 3 E<|oSi h29▸⟨⟨E,E,E,E,tV⟩,[],E,.inl E⟩
   refine gO 2 E<|jC E h25 (fun h30=>?_) fun h33=>gA 8 E<|oSi h33▸⟨_,E,⟨⟨E,E,E,tV⟩,[],E,.inl E⟩⟩
   refine gA 9 E<|bK h30 fun v31 hv31 h32=>?_
   cases h32
   obtain rfl:=hout19 _ rfl
   cases h15
   exact gA 4 E<|oSi hv31▸gP E E
  cases h34
  obtain rfl:=hout19 _ rfl
  exact⟨_,E,⟨⟨E,tV⟩,[],E,.inl E⟩⟩
 intro a16 ha
 subst ha
 replace h15:=Kgx h15
 exact bK h15 fun y35 hy35 h36=>gA 4 E<|Kdy C (Kvy hy35) E Z E E E E E<|gO 8 E<|jD<|gA 2 E<|gl_o E (Kja hΓ E E E E)<|Kcp hΓ 5 E<|oSi h36▸gP E E
theorem Lfl{k:Nat}{s:Str}{r:Int×Bool}(h:Lbg k s=some r):Pure Tryz.prog 164 [S s] (.tup [I r.1,B r.2]):=by
 unfold Lbg at h
 exact QP Tryz.func164 E E E<|bK h fun y1 hy1 h2=>gA 9 E<|Kdy C (Lfk hy1) E Z E E E E E<|gO 7 E<|oSi h2▸gP E E
theorem Lfm{k:Nat}{s:Str}{r:Int×Bool}(h:Lbh k s=some r):Pure Tryz.prog 317 [S s] (.tup [U r.1,B r.2]):=by
 unfold Lbh at h
 refine QP Tryz.func317 E E E<|bK h fun y1 hy1 h2=>gA 9 E<|Kdy C (Pure.rows (Kve hy1) E E) E Z E E E E E<|gO 11 E<|Kcr E (fun hb=>?_) (fun hb=>?_)
 ·have h3:=cT h2 hb
  exact gA 8 E<|oSi h3▸gP E E
 have h4:=cF h2 hb
 refine gA 15 E<|bK h4 fun q8 hq8 h9=>Kdh 15 E fun hb11=>Khd (R:=fun a10=>q8=.go a10) (fun a10=>[(5,U a10)]) (fun a10=>[]) ?_ ?_
 ·refine gA 1 E<|Kdg y1 hq8 (fun i5 s6=>[(5,U s6),(15,.d (Sl eS y1)),(16,I (y1.length:Int)),(17,I (i5:Int))]) (fun s6=>[]) ⟨⟨E,E,E,E,tV⟩,[],E,.inl E⟩ (fun i5 x7 s6 y15 hx12 hlt hy13 hout14=>?_) (fun s6 hgo=>?_)
  ·refine gA 6 E<|Kcs E (dT (Int.ofNat_lt.2 hlt))<|gA 6 E<|eo_o E (Kdi hΓ (enc:=eS) (Kdb hx12) E E E E E (fun _=>E))<|bK hy13 fun y16 hy16 h17=>gO 7 E<|Kdy C (Lfk hy16) E Z E E E E E<|gO 13 E<|Kcx 3 [(5,U s6),(8,I y16.1),(15,.d (Sl eS y1)),(16,I (y1.length:Int)),(17,I (i5:Int)),(31,B ((!y16.2)||(decide ((y16.1:Int)<0))))] [] ?_ ?_
   ·refine Klc E E (fun hb=>?_) (fun hb=>?_)
    ·exact gO 4 E<|⟨⟨E,E,E,E,E,Kby E (or_t hb),tV⟩,[],E,.inl E⟩
    exact gO 4 E<|⟨⟨E,E,E,E,E,Kby E (or_f hb),tV⟩,[],E,.inl E⟩
   refine gO 1 E<|Kcx 3 [(5,U s6),(8,I y16.1),(15,.d (Sl eS y1)),(16,I (y1.length:Int)),(17,I (i5:Int)),(35,B (((!y16.2)||(decide ((y16.1:Int)<0)))||(decide ((y16.1:Int)>255))))] [] ?_ ?_
   ·refine Klc E E (fun hb=>?_) (fun hb=>?_)
    ·exact gO 4 E<|⟨⟨E,E,E,E,E,Kby E (or_t hb),tV⟩,[],E,.inl E⟩
    exact gO 4 E<|⟨⟨E,E,E,E,E,Kby E (or_f hb),tV⟩,[],E,.inl E⟩
   refine gO 2 E<|jC E h17 (fun h18=>?_) fun h21=>gA 16 E ?_
   ·refine gA 10 E<|bK h18 fun v19 hv19 h20=>?_
    cases h20
    obtain rfl:=hout14 _ rfl
    cases h9
    exact gA 4 E<|oSi hv19▸gP E E
   cases h21
   exact⟨_,E,⟨⟨E,E,E,Kbx E (Kbw (nLl hlt hb11)),tV⟩,[],E,.inl E⟩⟩
  subst hgo
  exact gA 6 E<|Kct E (dF (Int.lt_irrefl _))<|gA 4 E<|⟨_,E,⟨⟨E,tV⟩,[],E,.inl E⟩⟩
 intro a10 ha
 subst ha
 replace h9:=Kgy h9
 exact gA 9 E<|oSi h9▸gP E E
theorem Lfn{k:Nat}{s:Str}{last:Bool}{r:(List Int)×Bool}(h:Lbi k s last=some r):Pure Tryz.prog 318 [S s,B last] (.tup [.d (Sl (eN .u64) r.1),B r.2]):=by
 unfold Lbi at h
 refine QP Tryz.func318 E E E<|gA 13 E<|Kcr E (fun hb=>?_) (fun hb=>?_)
 ·have h1:=cT h hb
  exact gA 8 E<|oSi h1▸gP E E
 have h2:=cF h hb
 refine gA 4 E<|Kdv (t:=0) 37 1 E Z<|bK h2 fun y3 hy3 h4=>gO 5 E<|Kdy C (Pure.rows (Kve hy3) E E) E Z E E E E E<|gO 11 E<|bK h4 fun q8 hq8 h9=>Kdh 7 E fun hb11=>Khd (R:=fun a10=>q8=.go a10) (fun a10=>[(6,.sl 0 a10.length)]) (fun a10=>[rO 37 1 (eN .u64) a10]) ?_ ?_
 ·refine gA 1 E<|Kdg y3 hq8 (fun i5 s6=>[(1,B last),(6,.sl 0 s6.length),(7,.d (Sl eS y3)),(18,.d (Sl eS y3)),(19,I (y3.length:Int)),(20,I (i5:Int))]) (fun s6=>[rO 37 1 (eN .u64) s6]) ⟨⟨E,E,E,E,E,E,tV⟩,[],E,.inl E⟩ (fun i5 x7 s6 y15 hx12 hlt hy13 hout14=>?_) (fun s6 hgo=>?_)
  ·refine gA 6 E<|Kcs E (dT (Int.ofNat_lt.2 hlt))<|gA 7 E<|eo_o E (Kdi hΓ (enc:=eS) (Kdb hx12) E E E E E (fun _=>E))<|gO 10 E<|Kcx 6 [(1,B last),(6,.sl 0 s6.length),(7,.d (Sl eS y3)),(9,S x7),(18,.d (Sl eS y3)),(19,I (y3.length:Int)),(20,I (i5:Int)),(32,B (last&&(((i5:Int):Int)==(wi ((y3.length:Int) - 1)))))] [rO 37 1 (eN .u64) s6] ?_ ?_
   ·refine Klc E E (fun hb=>?_) (fun hb=>?_)
    ·exact gO 7 E<|⟨⟨E,E,E,E,E,E,E,Kby E (Ket hb),tV⟩,[],E,.inl E⟩
    exact gO 7 E<|⟨⟨E,E,E,E,E,E,E,Kby E (Keu hb),tV⟩,[],E,.inl E⟩
   refine gO 1 E<|bK hy13 fun q16 hq16 h17=>Kcx 3 [(1,B last),(6,.sl 0 s6.length),(7,.d (Sl eS y3)),(9,S x7),(18,.d (Sl eS y3)),(19,I (y3.length:Int)),(20,I (i5:Int)),(36,B q16)] [rO 37 1 (eN .u64) s6] ?_ ?_
   ·refine Klc E E (fun hb=>?_) (fun hb=>?_)
    ·have h18:=cT hq16 hb
     exact bK h18 fun y19 hy19 h20=>gO 1 E<|Kla E<|Kdy C (Kvk hy19) E Z E E E E E<|gO 2 E<|oSi h20▸⟨⟨E,E,E,E,E,E,E,E,tV⟩,[],E,.inl E⟩
    have h21:=cF hq16 hb
    exact gO 4 E<|oSi h21▸⟨⟨E,E,E,E,E,E,E,E,tV⟩,[],E,.inl E⟩
   refine gO 2 E<|Kcr E (fun hb=>?_) (fun hb=>?_)
   ·have h22:=cT h17 hb
    refine bK h22 fun y23 hy23 h24=>gA 3 E<|Kdy C (Lfm hy23) E Z E E E E E<|gO 14 E<|Kdt hΓ (enc:=(eN .u64)) [shrV .u64 y23.1 16,bitsV .and .u64 y23.1 65535] E E E E E E E E E E E E Z<|bK h24 fun y25 hy25 h26=>Keh hΓ (enc:=(eN .u64)) hy25 E E E E E E E E E (fun _=>E) E E E E<|gO 2 E<|Ked 0 [4,48] _ [.dead] E E E Z<|gO 7 E<|bK h26 fun v27 hv27 h28=>?_
    cases h28
    obtain rfl:=hout14 _ rfl
    cases h9
    exact gA 4 E<|oSi hv27▸gP E E
   have h29:=cF h17 hb
   refine gA 8 E<|Kcx 4 [(1,B last),(6,.sl 0 s6.length),(7,.d (Sl eS y3)),(9,S x7),(18,.d (Sl eS y3)),(19,I (y3.length:Int)),(20,I (i5:Int)),(56,B (((x7:Str)==[])||(decide (((x7.length:Int):Int)>4))))] [rO 37 1 (eN .u64) s6] ?_ ?_
   ·refine Klc E E (fun hb=>?_) (fun hb=>?_)
    ·exact gO 5 E<|⟨⟨E,E,E,E,E,E,E,Kby E (or_t hb),tV⟩,[],E,.inl E⟩
    exact gO 5 E<|⟨⟨E,E,E,E,E,E,E,Kby E (or_f hb),tV⟩,[],E,.inl E⟩
   refine gO 1 E<|bK h29 fun q30 hq30 h31=>Kcx 4 [(1,B last),(6,.sl 0 s6.length),(7,.d (Sl eS y3)),(9,S x7),(18,.d (Sl eS y3)),(19,I (y3.length:Int)),(20,I (i5:Int)),(61,B q30)] [rO 37 1 (eN .u64) s6] ?_ ?_
   ·refine Klc E E (fun hb=>?_) (fun hb=>?_)
    ·have h32:=cT hq30 hb
     exact gO 5 E<|oSi h32▸⟨⟨E,E,E,E,E,E,E,E,tV⟩,[],E,.inl E⟩
    have h33:=cF hq30 hb
    exact bK h33 fun y34 hy34 h35=>gO 1 E<|Kla E<|Kdy C (Kvd hy34) E Z E E E E E<|gO 3 E<|oSi h35▸⟨⟨E,E,E,E,E,E,E,E,tV⟩,[],E,.inl E⟩
   refine gO 2 E<|jC E h31 (fun h36=>?_) fun h39=>bK h39 fun y40 hy40 h41=>gA 5 E ?_
   ·refine gA 10 E<|bK h36 fun v37 hv37 h38=>?_
    cases h38
    obtain rfl:=hout14 _ rfl
    cases h9
    exact gA 4 E<|oSi hv37▸gP E E
   rcases y40 with _ | z42
   ·refine Kjd C (Kwa hy40) E Z E E E E fun et43 ex44=>gO 11 E<|eo_o E (Kiz hΓ E E E E)<|gO 13 E<|bK h41 fun v45 hv45 h46=>?_
    cases h46
    obtain rfl:=hout14 _ rfl
    cases h9
    exact gA 4 E<|oSi hv45▸gP E E
   refine Kdy C (Kvz hy40) E Z E E E E E<|gO 11 E<|eo_o E (Kjb hΓ E E E E)<|gO 8 E<|Kdt hΓ (enc:=(eN .u64)) [z42] E E E E E E E E E E E E Z<|bK h41 fun y47 hy47 h48=>Keh hΓ (enc:=(eN .u64)) hy47 E E E E E E E E E (fun _=>E) E E E E<|gO 8 E ?_
   cases h48
   exact⟨_,E,⟨⟨E,E,E,E,E,Kbx E (Kbw (nLl hlt hb11)),tV⟩,[],E,.inl E⟩⟩
  subst hgo
  exact gA 6 E<|Kct E (dF (Int.lt_irrefl _))<|gA 4 E<|⟨_,E,⟨⟨E,tV⟩,[],E,.inl E⟩⟩
 intro a10 ha
 subst ha
 replace h9:=Kgy h9
 exact gA 5 E<|Ked 0 [4,6,74] _ [.dead] E E E Z<|gO 4 E<|oSi h9▸gP E E
theorem Lfo{k:Nat}{s:Str}{r:Kya×Int}(h:Lbj k s=some r):Pure Tryz.prog 256 [S s] (.tup [.agg [B r.1.Six,U r.1.Hi,U r.1.Lo],I r.2]):=by
 unfold Lbj at h
 refine QP Tryz.func256 E E E<|gA 2 E<|Kmi hΓ E E E Z<|bK h fun y1 hy1 h2=>gO 7 E<|Kdy C (Kvk hy1) E Z E E E E E<|gO 3 E<|Kcr E (fun hb=>?_) (fun hb=>?_)
 ·have h3:=cT h2 hb
  refine bK h3 fun y4 hy4 h5=>gA 3 E<|Kdy C (Lfm hy4) E Z E E E E E<|gO 14 E<|jC E h5 (fun h6=>?_) fun h7=>gA 5 E<|Kau hΓ (gs:=[B false,U 0,U y4.1]) E E E E E E E<|Kmn hΓ E E E E E E E E Z<|Keg [.box 39 [B false,U 0,U y4.1]] E<|gO 5 E<|oSi h7▸gP E E
  exact gA 2 E<|Kau hΓ (gs:=[B false,U 0,U 0]) E E E E E E E<|Kmn hΓ E E E E E E E E Z<|Keg [.box 39 [B false,U 0,U 0]] E<|gO 6 E<|oSi h6▸gP E E
 have h8:=cF h2 hb
 refine bK h8 fun y9 hy9 h10=>gA 5 E<|Kdy C (Kwi hy9) E Z E E E E E<|bK h10 fun y11 hy11 h12=>gO 14 E<|Kdy C (Lfn hy11) E Z E E E E E<|bK h12 fun y13 hy13 h14=>gO 10 E<|Kdy C (Lfn hy13) E Z E E E E E<|gO 13 E<|Kcx 3 [(2,.ptr 0 0),(8,B y9.2.2),(9,.d (Sl (eN .u64) y11.1)),(11,.d (Sl (eN .u64) y13.1)),(52,B ((!y11.2)||(!y13.2)))] [.box 39 [B false,U 0,U 0]] ?_ ?_
 ·refine Klc E E (fun hb=>?_) (fun hb=>?_)
  ·exact gO 4 E<|⟨⟨E,E,E,E,Kby E (or_t hb),tV⟩,[],E,.inl E⟩
  exact gO 4 E<|⟨⟨E,E,E,E,Kby E (or_f hb),tV⟩,[],E,.inl E⟩
 refine gO 1 E<|Kcx 10 [(2,.ptr 0 0),(8,B y9.2.2),(9,.d (Sl (eN .u64) y11.1)),(11,.d (Sl (eN .u64) y13.1)),(63,B (((!y11.2)||(!y13.2))||(y9.2.2&&(decide ((wi ((y11.1.length:Int)+(y13.1.length:Int)):Int)>7)))))] [.box 39 [B false,U 0,U 0]] ?_ ?_
 ·refine Klc E E (fun hb=>?_) (fun hb=>?_)
  ·exact gO 11 E<|⟨⟨E,E,E,E,Kby E (or_t hb),tV⟩,[],E,.inl E⟩
  refine gO 2 E<|Kcx 7 [(2,.ptr 0 0),(8,B y9.2.2),(9,.d (Sl (eN .u64) y11.1)),(11,.d (Sl (eN .u64) y13.1)),(53,B false),(62,B (y9.2.2&&(decide ((wi ((y11.1.length:Int)+(y13.1.length:Int)):Int)>7))))] [.box 39 [B false,U 0,U 0]] ?_ ?_
  ·refine Klc E E (fun hb=>?_) (fun hb=>?_)
   ·exact gO 8 E<|⟨⟨E,E,E,E,E,Kby E (Ket hb),tV⟩,[],E,.inl E⟩
   exact gO 8 E<|⟨⟨E,E,E,E,E,Kby E (Keu hb),tV⟩,[],E,.inl E⟩
  exact gO 2 E<|⟨⟨E,E,E,E,Kby E (or_f hb),tV⟩,[],E,.inl E⟩
 refine gO 1 E<|Kcx 8 [(2,.ptr 0 0),(9,.d (Sl (eN .u64) y11.1)),(11,.d (Sl (eN .u64) y13.1)),(72,B ((((!y11.2)||(!y13.2))||(y9.2.2&&(decide ((wi ((y11.1.length:Int)+(y13.1.length:Int)):Int)>7))))||((!y9.2.2)&&(((y11.1.length:Int):Int) != 8))))] [.box 39 [B false,U 0,U 0]] ?_ ?_
 ·refine Klc E E (fun hb=>?_) (fun hb=>?_)
  ·exact gO 9 E<|⟨⟨E,E,E,Kby E (or_t hb),tV⟩,[],E,.inl E⟩
  refine gO 3 E<|Kcx 4 [(2,.ptr 0 0),(9,.d (Sl (eN .u64) y11.1)),(11,.d (Sl (eN .u64) y13.1)),(64,B false),(71,B ((!y9.2.2)&&(((y11.1.length:Int):Int) != 8)))] [.box 39 [B false,U 0,U 0]] ?_ ?_
  ·refine Klc E E (fun hb=>?_) (fun hb=>?_)
   ·exact gO 5 E<|⟨⟨E,E,E,E,Kby E (Ket hb),tV⟩,[],E,.inl E⟩
   exact gO 5 E<|⟨⟨E,E,E,E,Kby E (Keu hb),tV⟩,[],E,.inl E⟩
  exact gO 2 E<|⟨⟨E,E,E,Kby E (or_f hb),tV⟩,[],E,.inl E⟩
 refine gO 2 E<|jC E h14 (fun h15=>?_) fun h16=>gA 4 E<|Kmi hΓ E E E Z<|gO 4 E<|eo_o E (Kjk hΓ (n:=8) (a:=(0:Int)) E E E E E E E)<|gO 1 E<|eo_s Z (nblt.1 E) (Kjl hΓ (pre:=[]) (post:=[]) (l:=[0,0,0,0,0,0,0,0]) (xs:=y11.1) (k:=.u64) (p:=0) (o:=(0:Int).toNat) (n:=8 - (0:Int).toNat) (Kji (a:=0) (n:=8) E) E E E E E E E E E)<|Keg [.box 39 [B false,U 0,U 0],.box 266 [U (cpA (0:Int).toNat y11.1 0 0),U (cpA (0:Int).toNat y11.1 1 0),U (cpA (0:Int).toNat y11.1 2 0),U (cpA (0:Int).toNat y11.1 3 0),U (cpA (0:Int).toNat y11.1 4 0),U (cpA (0:Int).toNat y11.1 5 0),U (cpA (0:Int).toNat y11.1 6 0),U (cpA (0:Int).toNat y11.1 7 0)]] E<|gK h16 fun hg18 h17=>gO 7 E<|eo_o E (Kjk hΓ (n:=8) (a:=(wi (8 - (y13.1.length:Int)))) E E E E E E hg18)<|gO 1 E<|eo_s Z (nblt.1 E) (Kjl hΓ (pre:=[]) (post:=[]) (l:=[cpA (0:Int).toNat y11.1 0 0,cpA (0:Int).toNat y11.1 1 0,cpA (0:Int).toNat y11.1 2 0,cpA (0:Int).toNat y11.1 3 0,cpA (0:Int).toNat y11.1 4 0,cpA (0:Int).toNat y11.1 5 0,cpA (0:Int).toNat y11.1 6 0,cpA (0:Int).toNat y11.1 7 0]) (xs:=y13.1) (k:=.u64) (p:=0) (o:=(wi (8 - (y13.1.length:Int))).toNat) (n:=8 - (wi (8 - (y13.1.length:Int))).toNat) (Kji hg18) E E E E E E E E E)<|Keg [.box 39 [B false,U 0,U 0],.box 266 [U (cpA (wi (8 - (y13.1.length:Int))).toNat y13.1 0 (cpA (0:Int).toNat y11.1 0 0)),U (cpA (wi (8 - (y13.1.length:Int))).toNat y13.1 1 (cpA (0:Int).toNat y11.1 1 0)),U (cpA (wi (8 - (y13.1.length:Int))).toNat y13.1 2 (cpA (0:Int).toNat y11.1 2 0)),U (cpA (wi (8 - (y13.1.length:Int))).toNat y13.1 3 (cpA (0:Int).toNat y11.1 3 0)),U (cpA (wi (8 - (y13.1.length:Int))).toNat y13.1 4 (cpA (0:Int).toNat y11.1 4 0)),U (cpA (wi (8 - (y13.1.length:Int))).toNat y13.1 5 (cpA (0:Int).toNat y11.1 5 0)),U (cpA (wi (8 - (y13.1.length:Int))).toNat y13.1 6 (cpA (0:Int).toNat y11.1 6 0)),U (cpA (wi (8 - (y13.1.length:Int))).toNat y13.1 7 (cpA (0:Int).toNat y11.1 7 0))]] E<|gO 4 E<|Kau hΓ (gs:=[B true,U 0,U 0]) E E E E E E E<|Kmi hΓ E E E Z<|Kmn hΓ E E E E E E E E Z<|Keg [.box 39 [B false,U 0,U 0],.box 266 [U (cpA (wi (8 - (y13.1.length:Int))).toNat y13.1 0 (cpA (0:Int).toNat y11.1 0 0)),U (cpA (wi (8 - (y13.1.length:Int))).toNat y13.1 1 (cpA (0:Int).toNat y11.1 1 0)),U (cpA (wi (8 - (y13.1.length:Int))).toNat y13.1 2 (cpA (0:Int).toNat y11.1 2 0)),U (cpA (wi (8 - (y13.1.length:Int))).toNat y13.1 3 (cpA (0:Int).toNat y11.1 3 0)),U (cpA (wi (8 - (y13.1.length:Int))).toNat y13.1 4 (cpA (0:Int).toNat y11.1 4 0)),U (cpA (wi (8 - (y13.1.length:Int))).toNat y13.1 5 (cpA (0:Int).toNat y11.1 5 0)),U (cpA (wi (8 - (y13.1.length:Int))).toNat y13.1 6 (cpA (0:Int).toNat y11.1 6 0)),U (cpA (wi (8 - (y13.1.length:Int))).toNat y13.1 7 (cpA (0:Int).toNat y11.1 7 0))],.box 39 [B true,U 0,U 0]] E<|gO 8 E<|Kjs (ds:=[.v (.int .u64 (cpA (wi (8 - (y13.1.length:Int))).toNat y13.1 0 (cpA (0:Int).toNat y11.1 0 0))),.v (.int .u64 (cpA (wi (8 - (y13.1.length:Int))).toNat y13.1 1 (cpA (0:Int).toNat y11.1 1 0))),.v (.int .u64 (cpA (wi (8 - (y13.1.length:Int))).toNat y13.1 2 (cpA (0:Int).toNat y11.1 2 0))),.v (.int .u64 (cpA (wi (8 - (y13.1.length:Int))).toNat y13.1 3 (cpA (0:Int).toNat y11.1 3 0))),.v (.int .u64 (cpA (wi (8 - (y13.1.length:Int))).toNat y13.1 4 (cpA (0:Int).toNat y11.1 4 0))),.v (.int .u64 (cpA (wi (8 - (y13.1.length:Int))).toNat y13.1 5 (cpA (0:Int).toNat y11.1 5 0))),.v (.int .u64 (cpA (wi (8 - (y13.1.length:Int))).toNat y13.1 6 (cpA (0:Int).toNat y11.1 6 0))),.v (.int .u64 (cpA (wi (8 - (y13.1.length:Int))).toNat y13.1 7 (cpA (0:Int).toNat y11.1 7 0)))]) 1 13 [.box 39 [B false,U 0,U 0],.dead,.box 39 [B true,U 0,U 0]] E E E Z<|bK h17 fun q22 hq22 h23=>Khe [(2,.ptr 0 0),(14,.ptr 2 0)] [.box 39 [B false,U 0,U 0],.dead,.box 39 [B q22.Six,U q22.Hi,U q22.Lo]] ?_ ?_
 ·exact gA 2 E<|Kau hΓ (gs:=[B false,U 0,U 0]) E E E E E E E<|Kmn hΓ E E E E E E E E Z<|Keg [.box 39 [B false,U 0,U 0]] E<|gO 5 E<|oSi h15▸gP E E
 ·refine gA 1 E<|Kde hq22 (fun s20=>[(2,.ptr 0 0),(13,.rp [.v (.int .u64 (cpA (wi (8 - (y13.1.length:Int))).toNat y13.1 0 (cpA (0:Int).toNat y11.1 0 0))),.v (.int .u64 (cpA (wi (8 - (y13.1.length:Int))).toNat y13.1 1 (cpA (0:Int).toNat y11.1 1 0))),.v (.int .u64 (cpA (wi (8 - (y13.1.length:Int))).toNat y13.1 2 (cpA (0:Int).toNat y11.1 2 0))),.v (.int .u64 (cpA (wi (8 - (y13.1.length:Int))).toNat y13.1 3 (cpA (0:Int).toNat y11.1 3 0))),.v (.int .u64 (cpA (wi (8 - (y13.1.length:Int))).toNat y13.1 4 (cpA (0:Int).toNat y11.1 4 0))),.v (.int .u64 (cpA (wi (8 - (y13.1.length:Int))).toNat y13.1 5 (cpA (0:Int).toNat y11.1 5 0))),.v (.int .u64 (cpA (wi (8 - (y13.1.length:Int))).toNat y13.1 6 (cpA (0:Int).toNat y11.1 6 0))),.v (.int .u64 (cpA (wi (8 - (y13.1.length:Int))).toNat y13.1 7 (cpA (0:Int).toNat y11.1 7 0)))]),(14,.ptr 2 0),(84,I s20.2)]) (fun s20=>[.box 39 [B false,U 0,U 0],.dead,.box 39 [B s20.1.Six,U s20.1.Hi,U s20.1.Lo]]) ⟨⟨E,E,E,E,tV⟩,[],E,.inl E⟩ (fun s20 y28 hy26 hout27=>?_)
  refine gA 6 E<|jC E hy26 (fun h29=>?_) fun h34=>gA 4 E ?_
  ·exact gA 10 E<|Kge [.dead,.dead,.box 39 [B s20.1.Six,U s20.1.Hi,U s20.1.Lo]] [1,8] [16,18] [16,18] hmix (by kernel_rfl) (by kernel_rfl) ⟨E,tV⟩ Z<|bK h29 fun x30 hx30 h31=>go_E hΓ 4 E<|ge_q E (.inl E) (fun _ _=>Kgg (qt_p (Kjt hΓ (l:=[cpA (wi (8 - (y13.1.length:Int))).toNat y13.1 0 (cpA (0:Int).toNat y11.1 0 0),cpA (wi (8 - (y13.1.length:Int))).toNat y13.1 1 (cpA (0:Int).toNat y11.1 1 0),cpA (wi (8 - (y13.1.length:Int))).toNat y13.1 2 (cpA (0:Int).toNat y11.1 2 0),cpA (wi (8 - (y13.1.length:Int))).toNat y13.1 3 (cpA (0:Int).toNat y11.1 3 0),cpA (wi (8 - (y13.1.length:Int))).toNat y13.1 4 (cpA (0:Int).toNat y11.1 4 0),cpA (wi (8 - (y13.1.length:Int))).toNat y13.1 5 (cpA (0:Int).toNat y11.1 5 0),cpA (wi (8 - (y13.1.length:Int))).toNat y13.1 6 (cpA (0:Int).toNat y11.1 6 0),cpA (wi (8 - (y13.1.length:Int))).toNat y13.1 7 (cpA (0:Int).toNat y11.1 7 0)]) hx30 E E E E E E E)))<|bK h31 fun x32 hx32 h33=>go_E hΓ 7 E<|ge_q E (.inl E) (fun _ _=>Kgg (qt_p (Kjt hΓ (l:=[cpA (wi (8 - (y13.1.length:Int))).toNat y13.1 0 (cpA (0:Int).toNat y11.1 0 0),cpA (wi (8 - (y13.1.length:Int))).toNat y13.1 1 (cpA (0:Int).toNat y11.1 1 0),cpA (wi (8 - (y13.1.length:Int))).toNat y13.1 2 (cpA (0:Int).toNat y11.1 2 0),cpA (wi (8 - (y13.1.length:Int))).toNat y13.1 3 (cpA (0:Int).toNat y11.1 3 0),cpA (wi (8 - (y13.1.length:Int))).toNat y13.1 4 (cpA (0:Int).toNat y11.1 4 0),cpA (wi (8 - (y13.1.length:Int))).toNat y13.1 5 (cpA (0:Int).toNat y11.1 5 0),cpA (wi (8 - (y13.1.length:Int))).toNat y13.1 6 (cpA (0:Int).toNat y11.1 6 0),cpA (wi (8 - (y13.1.length:Int))).toNat y13.1 7 (cpA (0:Int).toNat y11.1 7 0)]) hx32 E E E E E E E)))<|go_E hΓ 3 E<|Kgk [.box 39 [B false,U 0,U 0],.dead,.box 39 [B s20.1.Six,U (bitsV .or .u64 (shlV .u64 s20.1.Hi 16) x30),U s20.1.Lo]] E E (Kgl E) (Kgq (Khp hΓ E E E E E E E E E))<|go_E hΓ 1 E<|Kgk [.box 39 [B false,U 0,U 0],.dead,.box 39 [B s20.1.Six,U (bitsV .or .u64 (shlV .u64 s20.1.Hi 16) x30),U (bitsV .or .u64 (shlV .u64 s20.1.Lo 16) x32)]] E E (Kgl E) (Kgq (Khp hΓ E E E E E E E E E))<|Kgf<|gA 6 E<|oSi h33▸⟨_,E,⟨⟨E,E,E,E,tV⟩,[],E,.inl E⟩⟩
  cases h34
  obtain rfl:=hout27 _ rfl
  exact⟨⟨E,E,tV⟩,[],E,.inl E⟩
 exact gA 4 E<|Kmn hΓ E E E E E E E E Z<|Keg [.box 39 [B q22.Six,U q22.Hi,U q22.Lo],.dead,.box 39 [B q22.Six,U q22.Hi,U q22.Lo]] E<|gO 4 E<|oSi h23▸gP E E
theorem Lfp{k:Nat}{s:Str}{r:Kya×Int}(h:Lbk k s=some r):Pure Tryz.prog 190 [S s] (.tup [.agg [B r.1.Six,U r.1.Hi,U r.1.Lo],I r.2]):=by
 unfold Lbk at h
 refine QP Tryz.func190 E E E<|gA 2 E<|Kmi hΓ E E E Z<|bK h fun y1 hy1 h2=>gO 6 E<|Kdy C (Lfo hy1) E Z E E E E E<|gO 3 E<|Kmi hΓ E E E Z<|Kmn hΓ E E E E E E E E Z<|Keg [.box 39 [B false,U 0,U 0],.box 39 [B y1.1.Six,U y1.1.Hi,U y1.1.Lo]] E<|gO 9 E<|bK h2 fun q3 hq3 h4=>Kcx 5 [(2,.ptr 0 0),(4,.ptr 1 0),(18,B q3)] [.box 39 [B false,U 0,U 0],.box 39 [B y1.1.Six,U y1.1.Hi,U y1.1.Lo]] ?_ ?_
 ·refine Klc E E (fun hb=>?_) (fun hb=>?_)
  ·have h5:=cT hq3 hb
   exact gO 6 E<|oSi h5▸⟨⟨E,E,E,tV⟩,[],E,.inl E⟩
  have h6:=cF hq3 hb
  exact bK h6 fun y7 hy7 h8=>gO 1 E<|Kla E<|Kdy C (Led hy7) E Z E E E E E<|gO 4 E<|oSi h8▸⟨⟨E,E,E,tV⟩,[],E,.inl E⟩
 refine gO 2 E<|jC E h4 (fun h9=>?_) fun h10=>gA 5 E<|Kmn hΓ E E E E E E E E Z<|Keg [.box 39 [B y1.1.Six,U y1.1.Hi,U y1.1.Lo],.box 39 [B y1.1.Six,U y1.1.Hi,U y1.1.Lo]] E<|gO 4 E<|oSi h10▸gP E E
 exact gA 2 E<|Kau hΓ (gs:=[B false,U 0,U 0]) E E E E E E E<|Kmn hΓ E E E E E E E E Z<|Keg [.box 39 [B false,U 0,U 0],.box 39 [B y1.1.Six,U y1.1.Hi,U y1.1.Lo]] E<|gO 5 E<|oSi h9▸gP E E
theorem Lfq{k:Nat}{line:Str}{r:Kyb×Bool}(h:Lbl k line=some r):Pure Tryz.prog 98 [S line] (.tup [.agg [S r.1.Name,I r.1.Kind,B r.1.Addr.Six,U r.1.Addr.Hi,U r.1.Addr.Lo,S r.1.To,S r.1.Words,I r.1.Life],B r.2]):=by
 unfold Lbl at h
 refine QP Tryz.func98 E E E<|gA 2 E<|Kmi hΓ E E E Z<|bK h fun y1 hy1 h2=>gO 6 E<|Kdy C (Pure.rows (Kwk hy1) E E) E Z E E E E E<|gO 10 E<|bK h2 fun q3 hq3 h4=>Kcx 5 [(2,.ptr 0 0),(4,.d (Sl eS y1)),(22,B q3)] [.box 80 [S [],I 0,B false,U 0,U 0,S [],S [],I 0]] ?_ ?_
 ·refine Klc E E (fun hb=>?_) (fun hb=>?_)
  ·have h5:=cT hq3 hb
   exact gO 6 E<|oSi h5▸⟨⟨E,E,E,tV⟩,[],E,.inl E⟩
  have h6:=cF hq3 hb
  exact bK h6 fun x7 hx7 h8=>gO 1 E<|Kla E<|eo_o E (Kdi hΓ (enc:=eS) hx7 E E E E E (fun _=>E))<|gO 4 E<|oSi h8▸⟨⟨E,E,E,tV⟩,[],E,.inl E⟩
 refine gO 2 E<|Kcr E (fun hb=>?_) (fun hb=>?_)
 ·have h9:=cT h4 hb
  exact gA 2 E<|Kau hΓ (gs:=[S [],I 0,B false,U 0,U 0,S [],S [],I 0]) E E E E E E E<|Kmn hΓ E E E E E E E E Z<|Keg [.box 80 [S [],I 0,B false,U 0,U 0,S [],S [],I 0]] E<|gO 5 E<|oSi h9▸gP E E
 have h10:=cF h4 hb
 refine bK h10 fun x11 hx11 h12=>gA 5 E<|eo_o E (Kdi hΓ (enc:=eS) hx11 E E E E E (fun _=>E))<|bK h12 fun y13 hy13 h14=>gO 1 E<|Kdy C (Lfl hy13) E Z E E E E E<|bK h14 fun x15 hx15 h16=>gO 10 E<|eo_o E (Kdi hΓ (enc:=eS) hx15 E E E E E (fun _=>E))<|gO 2 E<|Kau hΓ (gs:=[S x15,I 0,B false,U 0,U 0,S [],S [],I y13.1]) E E E E E E E<|Kmi hΓ E E E Z<|Kmn hΓ E E E E E E E E Z<|Keg [.box 80 [S [],I 0,B false,U 0,U 0,S [],S [],I 0],.box 80 [S x15,I 0,B false,U 0,U 0,S [],S [],I y13.1]] E<|gO 5 E<|Kdt hΓ (enc:=(eN .i64)) [1,5,12,16,28] E E E E E E E E E E E E Z<|gO 4 E<|bK h16 fun q20 hq20 h21=>Kdh 36 E fun hb23=>Khe [(2,.ptr 0 0),(4,.d (Sl eS y1)),(6,B y13.2),(7,.ptr 1 0)] [.box 80 [S [],I 0,B false,U 0,U 0,S [],S [],I 0],.box 80 [S x15,I q20,B false,U 0,U 0,S [],S [],I y13.1]] ?_ ?_
 ·refine gA 1 E<|Kep [1,5,12,16,28] hq20 (fun i17 s18=>[(2,.ptr 0 0),(4,.d (Sl eS y1)),(6,B y13.2),(7,.ptr 1 0),(36,.d (Sl (eN .i64) [1,5,12,16,28])),(37,I ([1,5,12,16,28].length:Int)),(38,I (i17:Int))]) (fun s18=>[.box 80 [S [],I 0,B false,U 0,U 0,S [],S [],I 0],.box 80 [S x15,I s18,B false,U 0,U 0,S [],S [],I y13.1]]) ⟨⟨E,E,E,E,E,E,E,tV⟩,[],E,.inl E⟩ (fun i17 x19 s18 y27 hx24 hlt hy25=>?_) (?_)
  ·refine gA 6 E<|Kcs E (dT (Int.ofNat_lt.2 hlt))<|gA 6 E<|eo_o E (Kdi hΓ (enc:=(eN .i64)) (Kdb hx24) E E E E E (fun _=>E))<|gO 5 E<|jD<|bK hy25 fun y28 hy28 h29=>gA 1 E<|Kdz C (Lef hy28) E E E E E E<|bK h29 fun x30 hx30 h31=>Kcp hΓ 1 E<|gl_o E (Kdi hΓ (enc:=eS) hx30 E E E E E (fun _=>E))<|Kcp hΓ 4 E<|jC E h31 (fun h32=>?_) fun h33=>gA 7 E ?_
   ·refine gA 3 E<|Kmn hΓ E E E E E E E E Z<|Keg [.box 80 [S [],I 0,B false,U 0,U 0,S [],S [],I 0],.box 80 [S x15,I x19,B false,U 0,U 0,S [],S [],I y13.1]] E<|gO 7 E ?_
    cases h32
    exact⟨⟨E,E,E,E,E,E,Kbx E (Kbw (nLl hlt hb23)),tV⟩,[],E,.inl E⟩
   cases h33
   exact⟨⟨E,E,E,E,E,E,Kbx E (Kbw (nLl hlt hb23)),tV⟩,[],E,.inl E⟩
  exact gA 6 E<|Kct E (dF (Int.lt_irrefl _))<|gA 4 E<|⟨⟨E,E,E,E,tV⟩,[],E,.inl E⟩
 refine gA 8 E<|Kcx 4 [(2,.ptr 0 0),(4,.d (Sl eS y1)),(7,.ptr 1 0),(70,B ((!y13.2)||((q20:Int)==0)))] [.box 80 [S [],I 0,B false,U 0,U 0,S [],S [],I 0],.box 80 [S x15,I q20,B false,U 0,U 0,S [],S [],I y13.1]] ?_ ?_
 ·refine Klc E E (fun hb=>?_) (fun hb=>?_)
  ·exact gO 5 E<|⟨⟨E,E,E,Kby E (or_t hb),tV⟩,[],E,.inl E⟩
  exact gO 5 E<|⟨⟨E,E,E,Kby E (or_f hb),tV⟩,[],E,.inl E⟩
 refine gO 3 E<|jC E h21 (fun h34=>?_) fun h35=>gA 8 E<|jC E h35 (fun h36=>?_) fun h39=>?_
 ·exact gA 3 E<|Kmn hΓ E E E E E E E E Z<|Keg [.box 80 [S x15,I q20,B false,U 0,U 0,S [],S [],I y13.1],.box 80 [S x15,I q20,B false,U 0,U 0,S [],S [],I y13.1]] E<|gO 6 E<|oSi h34▸gP E E
 ·exact bK h36 fun x37 hx37 h38=>gA 2 E<|eo_o E (Kdi hΓ (enc:=eS) hx37 E E E E E (fun _=>E))<|gO 2 E<|Kmn hΓ E E E E E E E E Z<|Keg [.box 80 [S [],I 0,B false,U 0,U 0,S [],S [],I 0],.box 80 [S x15,I q20,B false,U 0,U 0,S [],S x37,I y13.1]] E<|gO 6 E<|Kmn hΓ E E E E E E E E Z<|Keg [.box 80 [S x15,I q20,B false,U 0,U 0,S [],S x37,I y13.1],.box 80 [S x15,I q20,B false,U 0,U 0,S [],S x37,I y13.1]] E<|gO 4 E<|oSi h38▸gP E E
 refine bK h39 fun y40 hy40 h41=>gA 4 E<|Kdy C (Ldq hy40) E Z E E E E E<|gO 3 E<|jC E h41 (fun h42=>?_) fun h51=>bK h51 fun x52 hx52 h53=>gA 3 E<|eo_o E (Kdi hΓ (enc:=eS) hx52 E E E E E (fun _=>E))<|bK h53 fun y54 hy54 h55=>gO 1 E<|Kdy C (Lfp hy54) E Z E E E E E<|gO 3 E<|Kmi hΓ E E E Z<|Kmn hΓ E E E E E E E E Z<|Keg [.box 80 [S [],I 0,B false,U 0,U 0,S [],S [],I 0],.box 80 [S x15,I q20,B false,U 0,U 0,S [],S [],I y13.1],.box 39 [B y54.1.Six,U y54.1.Hi,U y54.1.Lo]] E<|gO 7 E<|Kmn hΓ E E E E E E E E Z<|Keg [.box 80 [S [],I 0,B false,U 0,U 0,S [],S [],I 0],.box 80 [S x15,I q20,B y54.1.Six,U y54.1.Hi,U y54.1.Lo,S [],S [],I y13.1],.box 39 [B y54.1.Six,U y54.1.Hi,U y54.1.Lo]] E<|gO 7 E<|Kmn hΓ E E E E E E E E Z<|Keg [.box 80 [S x15,I q20,B y54.1.Six,U y54.1.Hi,U y54.1.Lo,S [],S [],I y13.1],.box 80 [S x15,I q20,B y54.1.Six,U y54.1.Hi,U y54.1.Lo,S [],S [],I y13.1],.box 39 [B y54.1.Six,U y54.1.Hi,U y54.1.Lo]] E<|gO 6 E<|oSi h55▸gP E E
 refine bK h42 fun x43 hx43 h44=>gA 3 E<|eo_o E (Kdi hΓ (enc:=eS) hx43 E E E E E (fun _=>E))<|gO 2 E<|Kmn hΓ E E E E E E E E Z<|Keg [.box 80 [S [],I 0,B false,U 0,U 0,S [],S [],I 0],.box 80 [S x15,I q20,B false,U 0,U 0,S x43,S [],I y13.1]] E<|bK h44 fun q45 hq45 h46=>gO 3 E<|Khe [(2,.ptr 0 0),(3,B q45)] [.box 80 [S x15,I q20,B false,U 0,U 0,S x43,S [],I y13.1],.box 80 [S x15,I q20,B false,U 0,U 0,S x43,S [],I y13.1]] ?_ ?_
 ·refine Kge [.dead,.box 80 [S x15,I q20,B false,U 0,U 0,S x43,S [],I y13.1]] [0,2,6] [10] [] hmix (by kernel_rfl) (by kernel_rfl) ⟨E,tV⟩ Z<|go_E hΓ 5 E<|Kgj E E (fun hb=>?_) (fun hb=>?_)
  ·have h47:=cT hq45 hb
   exact bK h47 fun y48 hy48 h49=>go_E hΓ 2 E<|Khg E C (Kvk hy48) E E E E E E<|go_E hΓ 2 E<|Kgk [.box 80 [S x15,I q20,B false,U 0,U 0,S x43,S [],I y13.1],.box 80 [S x15,I q20,B false,U 0,U 0,S x43,S [],I y13.1]] E E (Kgm ⟨E,tV⟩) (Kgq (Khp hΓ E E E E E E E E E))<|go_E hΓ 1 E<|Kgf<|oSi h49▸⟨⟨E,E,tV⟩,[],E,.inl E⟩
  have h50:=cF hq45 hb
  exact go_E hΓ 5 E<|Kgk [.box 80 [S x15,I q20,B false,U 0,U 0,S x43,S [],I y13.1],.box 80 [S x15,I q20,B false,U 0,U 0,S x43,S [],I y13.1]] E E (Kgm ⟨E,tV⟩) (Kgq (Khp hΓ E E E E E E E E E))<|go_E hΓ 1 E<|Kgf<|oSi h50▸⟨⟨E,E,tV⟩,[],E,.inl E⟩
 exact gA 4 E<|oSi h46▸gP E E
theorem Lfr{k:Nat}{text:Str}{r:Kyc×Int×Int}(h:Lbm k text=some r):Pure Tryz.prog 21 [S text] (.tup [.agg [S r.1.Root,.d (Sl Lch r.1.Records)],I r.2.1,I r.2.2]):=by
 unfold Lbm at h
 refine QP Tryz.func21 E E E<|gA 2 E<|Kmi hΓ E E E Z<|gO 12 E<|Kcr E (fun hb=>?_) (fun hb=>?_)
 ·have h1:=cT h hb
  exact gA 2 E<|eo_s Z (nblt.1 E) (Khx 80 8 1 (OpP.s (Khv hΓ [1] (gs:=[S [],.d (.v (.slice none 0 0))]) E E E E E E)) E)<|Ked 1 [19] _ [.box 48 [S [],.d (Sl Lch [])],.dead] E E E Z<|Kmn hΓ E E E E E E E E Z<|Keg [.box 48 [S [],.d (Sl Lch ([]:List Kyb))],.dead] E<|gO 6 E<|oSi h1▸gP E E
 have h2:=cF h hb
 refine bK h2 fun y3 hy3 h4=>gA 5 E<|Kdy C (Lfg hy3) E Z E E E E E<|gO 9 E<|eo_s Z (nblt.1 E) (Khx 80 8 1 (OpP.s (Khv hΓ [1] (gs:=[S [],.d (.v (.slice none 0 0))]) E E E E E E)) E)<|Kmi hΓ E E E Z<|Kmn hΓ E E E E E E E E Z<|Keg [.box 48 [S [],.d (Sl Lch [])],rO 80 8 Lch ([]:List Kyb),.box 48 [S [],.sl 1 ([]:List Kyb).length]] E<|gO 10 E<|bK h4 fun q8 hq8 h9=>Kdh 5 E fun hb11=>Khd (R:=fun a10=>q8=.go a10) (fun a10=>[(2,.ptr 0 0),(5,.d (Sl eS y3.1)),(7,.ptr 2 0)]) (fun a10=>[.box 48 [S [],.d (Sl Lch [])],rO 80 8 Lch a10.1,.box 48 [S a10.2,.sl 1 a10.1.length]]) ?_ ?_
 ·refine gA 1 E<|Kdg y3.1 hq8 (fun i5 s6=>[(2,.ptr 0 0),(5,.d (Sl eS y3.1)),(6,B y3.2),(7,.ptr 2 0),(26,.d (Sl eS y3.1)),(27,I (y3.1.length:Int)),(28,I (i5:Int))]) (fun s6=>[.box 48 [S [],.d (Sl Lch [])],rO 80 8 Lch s6.1,.box 48 [S s6.2,.sl 1 s6.1.length]]) ⟨⟨E,E,E,E,E,E,E,tV⟩,[],E,.inl E⟩ (fun i5 x7 s6 y15 hx12 hlt hy13 hout14=>?_) (fun s6 hgo=>?_)
  ·refine gA 6 E<|Kcs E (dT (Int.ofNat_lt.2 hlt))<|gA 7 E<|eo_o E (Kdi hΓ (enc:=eS) (Kdb hx12) E E E E E (fun _=>E))<|gO 9 E<|Kcx 6 [(2,.ptr 0 0),(5,.d (Sl eS y3.1)),(6,B y3.2),(7,.ptr 2 0),(8,I (i5:Int)),(9,S x7),(26,.d (Sl eS y3.1)),(27,I (y3.1.length:Int)),(28,I (i5:Int)),(40,B (y3.2||(decide (((i5:Int):Int)<(wi ((y3.1.length:Int) - 1))))))] [.box 48 [S [],.d (Sl Lch [])],rO 80 8 Lch s6.1,.box 48 [S s6.2,.sl 1 s6.1.length]] ?_ ?_
   ·refine Klc E E (fun hb=>?_) (fun hb=>?_)
    ·exact gO 7 E<|⟨⟨E,E,E,E,E,E,E,E,E,Kby E (or_t hb),tV⟩,[],E,.inl E⟩
    exact gO 7 E<|⟨⟨E,E,E,E,E,E,E,E,E,Kby E (or_f hb),tV⟩,[],E,.inl E⟩
   refine bK hy13 fun q16 hq16 h17=>gO 10 E<|Khe [(2,.ptr 0 0),(5,.d (Sl eS y3.1)),(6,B y3.2),(7,.ptr 2 0),(8,I (i5:Int)),(10,B q16.2.2),(26,.d (Sl eS y3.1)),(27,I (y3.1.length:Int)),(28,I (i5:Int))] [.box 48 [S [],.d (Sl Lch [])],rO 80 8 Lch q16.1,.box 48 [S q16.2.1,.sl 1 q16.1.length]] ?_ ?_
   ·refine Kcr E (fun hb=>?_) (fun hb=>?_)
    ·have h18:=cT hq16 hb
     refine bK h18 fun y19 hy19 h20=>gA 3 E<|Kdy C (Lfj hy19) E Z E E E E E<|gO 11 E<|Kcx 2 [(2,.ptr 0 0),(5,.d (Sl eS y3.1)),(6,B y3.2),(7,.ptr 2 0),(8,I (i5:Int)),(10,B (y3.2||(decide (((i5:Int):Int)<(wi ((y3.1.length:Int) - 1)))))),(11,.d (Sl eS y19.1)),(26,.d (Sl eS y3.1)),(27,I (y3.1.length:Int)),(28,I (i5:Int)),(51,B ((y3.2||(decide (((i5:Int):Int)<(wi ((y3.1.length:Int) - 1)))))&&y19.2))] [.box 48 [S [],.d (Sl Lch [])],rO 80 8 Lch s6.1,.box 48 [S s6.2,.sl 1 s6.1.length]] ?_ ?_
     ·refine Klc E E (fun hb=>?_) (fun hb=>?_)
      ·exact gO 3 E<|⟨⟨E,E,E,E,E,E,E,E,E,E,Kby E (Ket hb),tV⟩,[],E,.inl E⟩
      exact gO 3 E<|⟨⟨E,E,E,E,E,E,E,E,E,E,Kby E (Keu hb),tV⟩,[],E,.inl E⟩
     refine gO 1 E<|Kcx 4 [(2,.ptr 0 0),(5,.d (Sl eS y3.1)),(6,B y3.2),(7,.ptr 2 0),(8,I (i5:Int)),(10,B (y3.2||(decide (((i5:Int):Int)<(wi ((y3.1.length:Int) - 1)))))),(11,.d (Sl eS y19.1)),(26,.d (Sl eS y3.1)),(27,I (y3.1.length:Int)),(28,I (i5:Int)),(56,B (((y3.2||(decide (((i5:Int):Int)<(wi ((y3.1.length:Int) - 1)))))&&y19.2)&&(((y19.1.length:Int):Int)==2)))] [.box 48 [S [],.d (Sl Lch [])],rO 80 8 Lch s6.1,.box 48 [S s6.2,.sl 1 s6.1.length]] ?_ ?_
     ·refine Klc E E (fun hb=>?_) (fun hb=>?_)
      ·exact gO 5 E<|⟨⟨E,E,E,E,E,E,E,E,E,E,Kby E (Ket hb),tV⟩,[],E,.inl E⟩
      exact gO 5 E<|⟨⟨E,E,E,E,E,E,E,E,E,E,Kby E (Keu hb),tV⟩,[],E,.inl E⟩
     refine gO 1 E<|bK h20 fun q21 hq21 h22=>Kcx 5 [(2,.ptr 0 0),(5,.d (Sl eS y3.1)),(6,B y3.2),(7,.ptr 2 0),(8,I (i5:Int)),(10,B (y3.2||(decide (((i5:Int):Int)<(wi ((y3.1.length:Int) - 1)))))),(11,.d (Sl eS y19.1)),(26,.d (Sl eS y3.1)),(27,I (y3.1.length:Int)),(28,I (i5:Int)),(62,B q21)] [.box 48 [S [],.d (Sl Lch [])],rO 80 8 Lch s6.1,.box 48 [S s6.2,.sl 1 s6.1.length]] ?_ ?_
     ·refine Klc E E (fun hb=>?_) (fun hb=>?_)
      ·have h23:=cT hq21 hb
       exact bK h23 fun x24 hx24 h25=>gO 1 E<|Kla E<|eo_o E (Kdi hΓ (enc:=eS) hx24 E E E E E (fun _=>E))<|gO 4 E<|oSi h25▸⟨⟨E,E,E,E,E,E,E,E,E,E,E,tV⟩,[],E,.inl E⟩
      have h26:=cF hq21 hb
      exact gO 6 E<|oSi h26▸⟨⟨E,E,E,E,E,E,E,E,E,E,E,tV⟩,[],E,.inl E⟩
     refine gO 8 E<|jC E h22 (fun h27=>?_) fun h30=>gA 1 E<|oSi h30▸⟨⟨E,E,E,E,E,E,E,E,E,tV⟩,[],E,.inl E⟩
     exact bK h27 fun x28 hx28 h29=>gA 2 E<|eo_o E (Kdi hΓ (enc:=eS) hx28 E E E E E (fun _=>E))<|gO 2 E<|Kmn hΓ E E E E E E E E Z<|Keg [.box 48 [S [],.d (Sl Lch [])],rO 80 8 Lch s6.1,.box 48 [S x28,.sl 1 s6.1.length]] E<|gO 1 E<|oSi h29▸⟨⟨E,E,E,E,E,E,E,E,E,tV⟩,[],E,.inl E⟩
    have h31:=cF hq16 hb
    refine bK h31 fun y32 hy32 h33=>gA 3 E<|Kdy C (Lfq hy32) E Z E E E E E<|gO 3 E<|Kmi hΓ E E E Z<|Kmn hΓ E E E E E E E E Z<|Keg [.box 48 [S [],.d (Sl Lch [])],rO 80 8 Lch s6.1,.box 48 [S s6.2,.sl 1 s6.1.length],.box 80 [S y32.1.Name,I y32.1.Kind,B y32.1.Addr.Six,U y32.1.Addr.Hi,U y32.1.Addr.Lo,S y32.1.To,S y32.1.Words,I y32.1.Life]] E<|gO 8 E<|Kdt hΓ (enc:=Lch) [y32.1] E E E E E E E E E E E E Z<|bK h33 fun y34 hy34 h35=>Kia 1 [.box 48 [S [],.d (Sl Lch [])],rO 80 8 Lch s6.1,.box 48 [S s6.2,.junk],.box 80 [S y32.1.Name,I y32.1.Kind,B y32.1.Addr.Six,U y32.1.Addr.Hi,U y32.1.Addr.Lo,S y32.1.To,S y32.1.Words,I y32.1.Life]] E Z<|Keh hΓ (enc:=Lch) hy34 E E E E E E E E E (fun _=>E) E E E E<|gO 1 E<|Kmn hΓ E E E E E E E E Z<|Keg [.box 48 [S [],.d (Sl Lch [])],rO 80 8 Lch y34,.box 48 [S s6.2,.sl 1 y34.length],.box 80 [S y32.1.Name,I y32.1.Kind,B y32.1.Addr.Six,U y32.1.Addr.Hi,U y32.1.Addr.Lo,S y32.1.To,S y32.1.Words,I y32.1.Life]] E<|gO 5 E<|Kcx 2 [(2,.ptr 0 0),(5,.d (Sl eS y3.1)),(6,B y3.2),(7,.ptr 2 0),(8,I (i5:Int)),(10,B (y3.2||(decide (((i5:Int):Int)<(wi ((y3.1.length:Int) - 1)))))),(26,.d (Sl eS y3.1)),(27,I (y3.1.length:Int)),(28,I (i5:Int)),(82,B ((y3.2||(decide (((i5:Int):Int)<(wi ((y3.1.length:Int) - 1)))))&&y32.2))] [.box 48 [S [],.d (Sl Lch [])],rO 80 8 Lch y34,.box 48 [S s6.2,.sl 1 y34.length],.box 80 [S y32.1.Name,I y32.1.Kind,B y32.1.Addr.Six,U y32.1.Addr.Hi,U y32.1.Addr.Lo,S y32.1.To,S y32.1.Words,I y32.1.Life]] ?_ ?_
    ·refine Klc E E (fun hb=>?_) (fun hb=>?_)
     ·exact gO 3 E<|⟨⟨E,E,E,E,E,E,E,E,E,Kby E (Ket hb),tV⟩,[],E,.inl E⟩
     exact gO 3 E<|⟨⟨E,E,E,E,E,E,E,E,E,Kby E (Keu hb),tV⟩,[],E,.inl E⟩
    exact gO 2 E<|oSi h35▸⟨⟨E,E,E,E,E,E,E,E,E,tV⟩,[_],E,.inr ⟨HB.mk E,FB.mk E,Z⟩⟩
   refine gA 7 E<|jC E h17 (fun h36=>?_) fun h39=>gA 7 E ?_
   ·refine gA 2 E<|eo_s Z (nblt.1 E) (Khx 80 8 1 (OpP.s (Khv hΓ [1] (gs:=[S [],.d (.v (.slice none 0 0))]) E E E E E E)) E)<|gO 1 E<|Ked 3 [85] _ [.box 48 [S [],.d (Sl Lch [])],rO 80 8 Lch q16.1,.box 48 [S q16.2.1,.sl 1 q16.1.length],.dead] E E E Z<|Kmn hΓ E E E E E E E E Z<|Keg [.box 48 [S [],.d (Sl Lch ([]:List Kyb))],rO 80 8 Lch q16.1,.box 48 [S q16.2.1,.sl 1 q16.1.length],.dead] E<|gO 7 E<|bK h36 fun v37 hv37 h38=>?_
    cases h38
    obtain rfl:=hout14 _ rfl
    cases h9
    exact gA 4 E<|oSi hv37▸gP E E
   cases h39
   exact⟨_,E,⟨⟨E,E,E,E,E,E,Kbx E (Kbw (nLl hlt hb11)),tV⟩,[],E,.inl E⟩⟩
  subst hgo
  exact gA 6 E<|Kct E (dF (Int.lt_irrefl _))<|gA 4 E<|⟨_,E,⟨⟨E,E,E,tV⟩,[],E,.inl E⟩⟩
 intro a10 ha
 subst ha
 replace h9:=Kgy h9
 refine gA 9 E<|jC E h9 (fun h40=>?_) fun h41=>gA 6 E<|Ked 1 [92] _ [.box 48 [S [],.d (Sl Lch [])],.dead,.box 48 [S a10.2,.d (Sl Lch a10.1)]] E E E Z<|bK h41 fun y42 hy42 h43=>Kdy C (Ldz hy42) E Z E E E E E<|gO 9 E<|jC E h43 (fun h44=>?_) fun h45=>?_
 ·exact gA 2 E<|eo_s Z (nblt.1 E) (Khx 80 8 1 (OpP.s (Khv hΓ [1] (gs:=[S [],.d (.v (.slice none 0 0))]) E E E E E E)) E)<|Ked 3 [91] _ [.box 48 [S [],.d (Sl Lch [])],rO 80 8 Lch a10.1,.box 48 [S a10.2,.sl 1 a10.1.length],.dead] E E E Z<|Kmn hΓ E E E E E E E E Z<|Keg [.box 48 [S [],.d (Sl Lch ([]:List Kyb))],rO 80 8 Lch a10.1,.box 48 [S a10.2,.sl 1 a10.1.length],.dead] E<|gO 6 E<|oSi h40▸gP E E
 ·exact gA 2 E<|eo_s Z (nblt.1 E) (Khx 80 8 1 (OpP.s (Khv hΓ [1] (gs:=[S [],.d (.v (.slice none 0 0))]) E E E E E E)) E)<|gO 1 E<|Ked 3 [96] _ [.box 48 [S [],.d (Sl Lch [])],.dead,.box 48 [S a10.2,.d (Sl Lch a10.1)],.dead] E E E Z<|Kmn hΓ E E E E E E E E Z<|Keg [.box 48 [S [],.d (Sl Lch ([]:List Kyb))],.dead,.box 48 [S a10.2,.d (Sl Lch a10.1)],.dead] E<|gO 6 E<|oSi h44▸gP E E
 exact gA 5 E<|Kmn hΓ E E E E E E E E Z<|Keg [.box 48 [S a10.2,.d (Sl Lch a10.1)],.dead,.box 48 [S a10.2,.d (Sl Lch a10.1)]] E<|gO 5 E<|oSi h45▸gP E E
theorem Lfs{line:Str}{r:(List Str)×Bool}(h:Lbn line=some r):Pure Tryz.prog 71 [S line] (.tup [.d (Sl eS r.1),B r.2]):=by
 unfold Lbn at h
 exact QP Tryz.func71 E E E<|bK h fun y1 hy1 h2=>gA 9 E<|Kdy C (Pure.rows (Kve hy1) E E) E Z E E E E E<|bK h2 fun y3 hy3 h4=>gO 7 E<|Kdy C (Lfi hy3) E Z E E E E E<|gO 6 E<|oSi h4▸gP E E
theorem Lft{s:Str}{v_some:Str}{r:Bool}(h:Lbo s v_some=some r):Pure Tryz.prog 159 [S s,S v_some] (B r):=by
 unfold Lbo at h
 exact QP Tryz.func159 E E E<|bK h fun y1 hy1 h2=>gA 9 E<|Kdy C (Kvd hy1) E Z E E E E E<|gO 5 E<|oSi h2▸gP E E
theorem Lfu{s:Str}{most:Int}{r:Int×Bool}(h:Lbp s most=some r):Pure Tryz.prog 73 [S s,I most] (.tup [I r.1,B r.2]):=by
 unfold Lbp at h
 refine QP Tryz.func73 E E E<|bK h fun y1 hy1 h2=>gA 9 E<|Kdy C (Kva hy1) E Z E E E E E<|gO 9 E<|Kcx 5 [(0,S s),(6,S y1),(18,B (((y1:Str)==[])||(decide (((y1.length:Int):Int)>most))))] [] ?_ ?_
 ·refine Klc E E (fun hb=>?_) (fun hb=>?_)
  ·exact gO 6 E<|⟨⟨E,E,Kby E (or_t hb),tV⟩,[],E,.inl E⟩
  exact gO 6 E<|⟨⟨E,E,Kby E (or_f hb),tV⟩,[],E,.inl E⟩
 refine gO 1 E<|bK h2 fun q3 hq3 h4=>Kcx 4 [(0,S s),(23,B q3)] [] ?_ ?_
 ·refine Klc E E (fun hb=>?_) (fun hb=>?_)
  ·have h5:=cT hq3 hb
   exact gO 5 E<|oSi h5▸⟨⟨E,E,tV⟩,[],E,.inl E⟩
  have h6:=cF hq3 hb
  exact bK h6 fun y7 hy7 h8=>gO 1 E<|Kla E<|Kdy C (Lft hy7) E Z E E E E E<|gO 3 E<|oSi h8▸⟨⟨E,E,tV⟩,[],E,.inl E⟩
 refine gO 2 E<|jC E h4 (fun h9=>?_) fun h10=>bK h10 fun y11 hy11 h12=>gA 5 E<|Kdy C (Kvy hy11) E Z E E E E E<|gO 11 E<|eo_o E (Kja hΓ E E E E)<|bK h12 fun y13 hy13 h14=>gO 2 E<|Kla E<|Kdy C (Kvl hy13) E Z E E E E E<|gO 8 E<|oSi h14▸gP E E
 exact gA 8 E<|oSi h9▸gP E E
theorem Lfv{n:Int}{low:Int}{high:Int}{r:Bool}(h:Lbq n low high=some r):Pure Tryz.prog 155 [I n,I low,I high] (B r):=by
 unfold Lbq at h
 refine QP Tryz.func155 E E E<|gA 11 E<|Kcx 4 [(6,B false),(14,B ((decide ((low:Int)≤n))&&(decide ((n:Int)≤high))))] [] ?_ ?_
 ·refine Klc E E (fun hb=>?_) (fun hb=>?_)
  ·exact gO 5 E<|⟨⟨E,Kby E (Ket hb),tV⟩,[],E,.inl E⟩
  exact gO 5 E<|⟨⟨E,Kby E (Keu hb),tV⟩,[],E,.inl E⟩
 exact gO 4 E<|oSi h▸gP E E
theorem Lfw{s:Str}{r:Int×Bool}(h:Lbr s=some r):Pure Tryz.prog 306 [S s] (.tup [U r.1,B r.2]):=by
 unfold Lbr at h
 refine QP Tryz.func306 E E E<|bK h fun y1 hy1 h2=>gA 9 E<|Kdy C (Pure.rows (Kve hy1) E E) E Z E E E E E<|gO 11 E<|jC E h2 (fun h3=>?_) fun h4=>gA 15 E<|bK h4 fun q8 hq8 h9=>Kdh 15 E fun hb11=>Khd (R:=fun a10=>q8=.go a10) (fun a10=>[(5,U a10)]) (fun a10=>[]) ?_ ?_
 ·exact gA 8 E<|oSi h3▸gP E E
 ·refine gA 1 E<|Kdg y1 hq8 (fun i5 s6=>[(5,U s6),(15,.d (Sl eS y1)),(16,I (y1.length:Int)),(17,I (i5:Int))]) (fun s6=>[]) ⟨⟨E,E,E,E,tV⟩,[],E,.inl E⟩ (fun i5 x7 s6 y15 hx12 hlt hy13 hout14=>?_) (fun s6 hgo=>?_)
  ·refine gA 6 E<|Kcs E (dT (Int.ofNat_lt.2 hlt))<|gA 6 E<|eo_o E (Kdi hΓ (enc:=eS) (Kdb hx12) E E E E E (fun _=>E))<|bK hy13 fun y16 hy16 h17=>gO 7 E ?_
   rcases y16 with⟨z18,_ | _⟩
   ·refine Kju C (Kwh hy16) E Z E E E E fun et19 ex20=>gO 11 E<|eo_o E (Kiz hΓ E E E E)<|gO 24 E<|bK h17 fun v21 hv21 h22=>?_
    cases h22
    obtain rfl:=hout14 _ rfl
    cases h9
    exact gA 4 E<|oSi hv21▸gP E E
   refine Kdy C (Kwg hy16) E Z E E E E E<|gO 11 E<|eo_o E (Kjb hΓ E E E E)<|bK h17 fun y23 hy23 h24=>gO 2 E<|Kla E<|Kdy C (Lfv hy23) E Z E E E E E<|gO 3 E<|bK h24 fun q25 hq25 h26=>Kcx 5 [(5,U s6),(8,I z18),(15,.d (Sl eS y1)),(16,I (y1.length:Int)),(17,I (i5:Int)),(38,B q25)] [] ?_ ?_
   ·refine Klc E E (fun hb=>?_) (fun hb=>?_)
    ·have h27:=cT hq25 hb
     exact gO 6 E<|oSi h27▸⟨⟨E,E,E,E,E,E,tV⟩,[],E,.inl E⟩
    have h28:=cF hq25 hb
    exact bK h28 fun y29 hy29 h30=>gO 1 E<|Kla E<|Kdy C (Kvl hy29) E Z E E E E E<|gO 4 E<|oSi h30▸⟨⟨E,E,E,E,E,E,tV⟩,[],E,.inl E⟩
   refine gO 2 E<|jC E h26 (fun h31=>?_) fun h34=>gA 16 E ?_
   ·refine gA 10 E<|bK h31 fun v32 hv32 h33=>?_
    cases h33
    obtain rfl:=hout14 _ rfl
    cases h9
    exact gA 4 E<|oSi hv32▸gP E E
   cases h34
   exact⟨_,E,⟨⟨E,E,E,Kbx E (Kbw (nLl hlt hb11)),tV⟩,[],E,.inl E⟩⟩
  subst hgo
  exact gA 6 E<|Kct E (dF (Int.lt_irrefl _))<|gA 4 E<|⟨_,E,⟨⟨E,tV⟩,[],E,.inl E⟩⟩
 intro a10 ha
 subst ha
 replace h9:=Kgy h9
 exact gA 9 E<|oSi h9▸gP E E
theorem Lfx{s:Str}{tail:Bool}{r:(List Int)×Bool}(h:Lbs s tail=some r):Pure Tryz.prog 307 [S s,B tail] (.tup [.d (Sl (eN .u64) r.1),B r.2]):=by
 unfold Lbs at h
 refine QP Tryz.func307 E E E<|gA 13 E<|Kcr E (fun hb=>?_) (fun hb=>?_)
 ·have h1:=cT h hb
  exact gA 8 E<|oSi h1▸gP E E
 have h2:=cF h hb
 refine bK h2 fun y3 hy3 h4=>gA 5 E<|Kdy C (Pure.rows (Kve hy3) E E) E Z E E E E E<|gO 5 E<|Kdv (t:=0) 37 1 E Z<|gO 10 E<|bK h4 fun q8 hq8 h9=>Kdh 6 E fun hb11=>Khd (R:=fun a10=>q8=.go a10) (fun a10=>[(7,.sl 0 a10.length)]) (fun a10=>[rO 37 1 (eN .u64) a10]) ?_ ?_
 ·refine gA 1 E<|Kdg y3 hq8 (fun i5 s6=>[(1,B tail),(6,.d (Sl eS y3)),(7,.sl 0 s6.length),(18,.d (Sl eS y3)),(19,I (y3.length:Int)),(20,I (i5:Int))]) (fun s6=>[rO 37 1 (eN .u64) s6]) ⟨⟨E,E,E,E,E,E,tV⟩,[],E,.inl E⟩ (fun i5 x7 s6 y15 hx12 hlt hy13 hout14=>?_) (fun s6 hgo=>?_)
  ·refine gA 6 E<|Kcs E (dT (Int.ofNat_lt.2 hlt))<|gA 7 E<|eo_o E (Kdi hΓ (enc:=eS) (Kdb hx12) E E E E E (fun _=>E))<|bK hy13 fun y16 hy16 h17=>gO 9 E<|Kdy C (Lfw hy16) E Z E E E E E<|gO 11 E<|Kcx 2 [(1,B tail),(6,.d (Sl eS y3)),(7,.sl 0 s6.length),(8,I (i5:Int)),(9,S x7),(10,U y16.1),(18,.d (Sl eS y3)),(19,I (y3.length:Int)),(20,I (i5:Int)),(33,B (y16.2&&tail))] [rO 37 1 (eN .u64) s6] ?_ ?_
   ·refine Klc E E (fun hb=>?_) (fun hb=>?_)
    ·exact gO 3 E<|⟨⟨E,E,E,E,E,E,E,E,E,Kby E (Ket hb),tV⟩,[],E,.inl E⟩
    exact gO 3 E<|⟨⟨E,E,E,E,E,E,E,E,E,Kby E (Keu hb),tV⟩,[],E,.inl E⟩
   refine gO 1 E<|Kcx 6 [(1,B tail),(6,.d (Sl eS y3)),(7,.sl 0 s6.length),(9,S x7),(10,U y16.1),(18,.d (Sl eS y3)),(19,I (y3.length:Int)),(20,I (i5:Int)),(40,B ((y16.2&&tail)&&(((i5:Int):Int)==(wi ((y3.length:Int) - 1)))))] [rO 37 1 (eN .u64) s6] ?_ ?_
   ·refine Klc E E (fun hb=>?_) (fun hb=>?_)
    ·exact gO 7 E<|⟨⟨E,E,E,E,E,E,E,E,Kby E (Ket hb),tV⟩,[],E,.inl E⟩
    exact gO 7 E<|⟨⟨E,E,E,E,E,E,E,E,Kby E (Keu hb),tV⟩,[],E,.inl E⟩
   refine gO 2 E<|jC E h17 (fun h18=>?_) fun h21=>bK h21 fun y22 hy22 h23=>gA 7 E<|Kdy C (Lfv hy22) E Z E E E E E<|gO 2 E<|bK h23 fun q24 hq24 h25=>Kcx 4 [(1,B tail),(6,.d (Sl eS y3)),(7,.sl 0 s6.length),(9,S x7),(18,.d (Sl eS y3)),(19,I (y3.length:Int)),(20,I (i5:Int)),(56,B q24)] [rO 37 1 (eN .u64) s6] ?_ ?_
   ·refine gA 7 E<|Kdt hΓ (enc:=(eN .u64)) [shrV .u64 y16.1 16,bitsV .and .u64 y16.1 65535] E E E E E E E E E E E E Z<|bK h18 fun y19 hy19 h20=>Keh hΓ (enc:=(eN .u64)) hy19 E E E E E E E E E (fun _=>E) E E E E<|gO 11 E ?_
    cases h20
    exact⟨_,E,⟨⟨E,E,E,E,E,Kbx E (Kbw (nLl hlt hb11)),tV⟩,[],E,.inl E⟩⟩
   ·refine Klc E E (fun hb=>?_) (fun hb=>?_)
    ·have h26:=cT hq24 hb
     exact gO 5 E<|oSi h26▸⟨⟨E,E,E,E,E,E,E,E,tV⟩,[],E,.inl E⟩
    have h27:=cF hq24 hb
    exact bK h27 fun y28 hy28 h29=>gO 1 E<|Kla E<|Kdy C (Lft hy28) E Z E E E E E<|gO 3 E<|oSi h29▸⟨⟨E,E,E,E,E,E,E,E,tV⟩,[],E,.inl E⟩
   refine gO 2 E<|jC E h25 (fun h30=>?_) fun h33=>bK h33 fun y34 hy34 h35=>gA 5 E ?_
   ·refine gA 10 E<|bK h30 fun v31 hv31 h32=>?_
    cases h32
    obtain rfl:=hout14 _ rfl
    cases h9
    exact gA 4 E<|oSi hv31▸gP E E
   rcases y34 with _ | z36
   ·refine Kjd C (Kwa hy34) E Z E E E E fun et37 ex38=>gO 11 E<|eo_o E (Kiz hΓ E E E E)<|gO 13 E<|bK h35 fun v39 hv39 h40=>?_
    cases h40
    obtain rfl:=hout14 _ rfl
    cases h9
    exact gA 4 E<|oSi hv39▸gP E E
   refine Kdy C (Kvz hy34) E Z E E E E E<|gO 11 E<|eo_o E (Kjb hΓ E E E E)<|gO 8 E<|Kdt hΓ (enc:=(eN .u64)) [z36] E E E E E E E E E E E E Z<|bK h35 fun y41 hy41 h42=>Keh hΓ (enc:=(eN .u64)) hy41 E E E E E E E E E (fun _=>E) E E E E<|gO 8 E ?_
   cases h42
   exact⟨_,E,⟨⟨E,E,E,E,E,Kbx E (Kbw (nLl hlt hb11)),tV⟩,[],E,.inl E⟩⟩
  subst hgo
  exact gA 6 E<|Kct E (dF (Int.lt_irrefl _))<|gA 4 E<|⟨_,E,⟨⟨E,tV⟩,[],E,.inl E⟩⟩
 intro a10 ha
 subst ha
 replace h9:=Kgy h9
 exact gA 5 E<|Ked 0 [4,7,69] _ [.dead] E E E Z<|gO 4 E<|oSi h9▸gP E E
theorem Lfy{k:Nat}{s:Str}{r:Kya×Int}(h:Lbt k s=some r):Pure Tryz.prog 240 [S s] (.tup [.agg [B r.1.Six,U r.1.Hi,U r.1.Lo],I r.2]):=by
 unfold Lbt at h
 refine QP Tryz.func240 E E E<|gA 2 E<|Kmi hΓ E E E Z<|bK h fun y1 hy1 h2=>gO 7 E<|Kdy C (Lfw hy1) E Z E E E E E<|gO 12 E<|Kcr E (fun hb=>?_) (fun hb=>?_)
 ·have h3:=cT h2 hb
  exact gA 3 E<|Kau hΓ (gs:=[B false,U 0,U y1.1]) E E E E E E E<|Kmn hΓ E E E E E E E E Z<|Keg [.box 39 [B false,U 0,U y1.1]] E<|gO 5 E<|oSi h3▸gP E E
 have h4:=cF h2 hb
 refine bK h4 fun y5 hy5 h6=>gA 5 E<|Kdy C (Kwi hy5) E Z E E E E E<|bK h6 fun y7 hy7 h8=>gO 14 E<|Kdy C (Lfx hy7) E Z E E E E E<|bK h8 fun y9 hy9 h10=>gO 10 E<|Kdy C (Lfx hy9) E Z E E E E E<|gO 13 E<|Kcx 3 [(0,S s),(2,.ptr 0 0),(8,B y5.2.2),(9,.d (Sl (eN .u64) y7.1)),(11,.d (Sl (eN .u64) y9.1)),(48,B ((!y7.2)||(!y9.2)))] [.box 39 [B false,U 0,U 0]] ?_ ?_
 ·refine Klc E E (fun hb=>?_) (fun hb=>?_)
  ·exact gO 4 E<|⟨⟨E,E,E,E,E,Kby E (or_t hb),tV⟩,[],E,.inl E⟩
  exact gO 4 E<|⟨⟨E,E,E,E,E,Kby E (or_f hb),tV⟩,[],E,.inl E⟩
 refine gO 1 E<|Kcx 10 [(0,S s),(2,.ptr 0 0),(8,B y5.2.2),(9,.d (Sl (eN .u64) y7.1)),(11,.d (Sl (eN .u64) y9.1)),(59,B (((!y7.2)||(!y9.2))||(y5.2.2&&(decide ((wi ((y7.1.length:Int)+(y9.1.length:Int)):Int)>7)))))] [.box 39 [B false,U 0,U 0]] ?_ ?_
 ·refine Klc E E (fun hb=>?_) (fun hb=>?_)
  ·exact gO 11 E<|⟨⟨E,E,E,E,E,Kby E (or_t hb),tV⟩,[],E,.inl E⟩
  refine gO 2 E<|Kcx 7 [(0,S s),(2,.ptr 0 0),(8,B y5.2.2),(9,.d (Sl (eN .u64) y7.1)),(11,.d (Sl (eN .u64) y9.1)),(49,B false),(58,B (y5.2.2&&(decide ((wi ((y7.1.length:Int)+(y9.1.length:Int)):Int)>7))))] [.box 39 [B false,U 0,U 0]] ?_ ?_
  ·refine Klc E E (fun hb=>?_) (fun hb=>?_)
   ·exact gO 8 E<|⟨⟨E,E,E,E,E,E,Kby E (Ket hb),tV⟩,[],E,.inl E⟩
   exact gO 8 E<|⟨⟨E,E,E,E,E,E,Kby E (Keu hb),tV⟩,[],E,.inl E⟩
  exact gO 2 E<|⟨⟨E,E,E,E,E,Kby E (or_f hb),tV⟩,[],E,.inl E⟩
 refine gO 1 E<|Kcx 12 [(2,.ptr 0 0),(8,B y5.2.2),(9,.d (Sl (eN .u64) y7.1)),(11,.d (Sl (eN .u64) y9.1)),(72,B ((((!y7.2)||(!y9.2))||(y5.2.2&&(decide ((wi ((y7.1.length:Int)+(y9.1.length:Int)):Int)>7))))||((!y5.2.2)&&((((y7.1.length:Int):Int) != 8)||((s:Str)==[])))))] [.box 39 [B false,U 0,U 0]] ?_ ?_
 ·refine Klc E E (fun hb=>?_) (fun hb=>?_)
  ·exact gO 13 E<|⟨⟨E,E,E,E,Kby E (or_t hb),tV⟩,[],E,.inl E⟩
  refine gO 3 E<|Kcx 8 [(2,.ptr 0 0),(8,B y5.2.2),(9,.d (Sl (eN .u64) y7.1)),(11,.d (Sl (eN .u64) y9.1)),(60,B false),(71,B ((!y5.2.2)&&((((y7.1.length:Int):Int) != 8)||((s:Str)==[]))))] [.box 39 [B false,U 0,U 0]] ?_ ?_
  ·refine Klc E E (fun hb=>?_) (fun hb=>?_)
   ·refine gO 4 E<|Kcx 3 [(2,.ptr 0 0),(8,B y5.2.2),(9,.d (Sl (eN .u64) y7.1)),(11,.d (Sl (eN .u64) y9.1)),(60,B false),(63,B true),(70,B ((((y7.1.length:Int):Int) != 8)||((s:Str)==[])))] [.box 39 [B false,U 0,U 0]] ?_ ?_
    ·refine Klc E E (fun hb=>?_) (fun hb=>?_)
     ·exact gO 4 E<|⟨⟨E,E,E,E,E,E,Kby E (or_t hb),tV⟩,[],E,.inl E⟩
     exact gO 4 E<|⟨⟨E,E,E,E,E,E,Kby E (or_f hb),tV⟩,[],E,.inl E⟩
    exact gO 2 E<|⟨⟨E,E,E,E,E,Kby E (Ket hb),tV⟩,[],E,.inl E⟩
   exact gO 9 E<|⟨⟨E,E,E,E,E,Kby E (Keu hb),tV⟩,[],E,.inl E⟩
  exact gO 2 E<|⟨⟨E,E,E,E,Kby E (or_f hb),tV⟩,[],E,.inl E⟩
 refine gO 2 E<|Kcr E (fun hb=>?_) (fun hb=>?_)
 ·have h11:=cT h10 hb
  exact gA 2 E<|Kau hΓ (gs:=[B false,U 0,U 0]) E E E E E E E<|Kmn hΓ E E E E E E E E Z<|Keg [.box 39 [B false,U 0,U 0]] E<|gO 5 E<|oSi h11▸gP E E
 have h12:=cF h10 hb
 refine gA 4 E<|Kau hΓ (gs:=[B true,U 0,U 0]) E E E E E E E<|Kmi hΓ E E E Z<|Kmn hΓ E E E E E E E E Z<|Keg [.box 39 [B false,U 0,U 0],.box 39 [B true,U 0,U 0]] E<|gO 8 E<|bK h12 fun q16 hq16 h17=>Khe [(2,.ptr 0 0),(13,.ptr 1 0)] [.box 39 [B false,U 0,U 0],.box 39 [B q16.Six,U q16.Hi,U q16.Lo]] ?_ ?_
 ·refine gA 1 E<|Kde hq16 (fun s14=>[(2,.ptr 0 0),(8,B y5.2.2),(9,.d (Sl (eN .u64) y7.1)),(11,.d (Sl (eN .u64) y9.1)),(13,.ptr 1 0),(75,I s14.2.2)]) (fun s14=>[.box 39 [B false,U 0,U 0],.box 39 [B true,U s14.1,U s14.2.1]]) ⟨⟨E,E,E,E,E,E,tV⟩,[],E,.inl E⟩ (fun s14 y22 hy20 hout21=>?_)
  refine gA 6 E<|Kcr E (fun hb=>?_) (fun hb=>?_)
  ·have h23:=cT hy20 hb
   refine bK h23 fun q24 hq24 h25=>gA 24 E<|Khe [(2,.ptr 0 0),(8,B y5.2.2),(9,.d (Sl (eN .u64) y7.1)),(11,.d (Sl (eN .u64) y9.1)),(13,.ptr 1 0),(14,I s14.2.2),(15,U q24),(75,I s14.2.2)] [.box 39 [B false,U 0,U 0],.box 39 [B true,U s14.1,U s14.2.1]] ?_ ?_
   ·refine jC E hq24 (fun h26=>?_) fun h29=>gA 1 E<|oSi h29▸⟨⟨E,E,E,E,E,E,E,E,tV⟩,[],E,.inl E⟩
    exact bK h26 fun x27 hx27 h28=>gA 3 E<|eo_o E (Kdi hΓ (enc:=(eN .u64)) hx27 E E E E E (fun _=>E))<|gO 3 E<|oSi h28▸⟨⟨E,E,E,E,E,E,E,E,tV⟩,[],E,.inl E⟩
   refine gA 17 E<|Kcx 2 [(2,.ptr 0 0),(8,B y5.2.2),(9,.d (Sl (eN .u64) y7.1)),(11,.d (Sl (eN .u64) y9.1)),(13,.ptr 1 0),(14,I s14.2.2),(15,U q24),(16,I (wi (s14.2.2 - (wi (8 - (y9.1.length:Int)))))),(75,I s14.2.2),(95,B ((decide ((wi (s14.2.2 - (wi (8 - (y9.1.length:Int)))):Int)≥0))&&y5.2.2))] [.box 39 [B false,U 0,U 0],.box 39 [B true,U s14.1,U s14.2.1]] ?_ ?_
   ·refine Klc E E (fun hb=>?_) (fun hb=>?_)
    ·exact gO 3 E<|⟨⟨E,E,E,E,E,E,E,E,E,Kby E (Ket hb),tV⟩,[],E,.inl E⟩
    exact gO 3 E<|⟨⟨E,E,E,E,E,E,E,E,E,Kby E (Keu hb),tV⟩,[],E,.inl E⟩
   refine bK h25 fun q30 hq30 h31=>gO 2 E<|Khe [(2,.ptr 0 0),(8,B y5.2.2),(9,.d (Sl (eN .u64) y7.1)),(11,.d (Sl (eN .u64) y9.1)),(13,.ptr 1 0),(14,I s14.2.2),(15,U q30),(75,I s14.2.2)] [.box 39 [B false,U 0,U 0],.box 39 [B true,U s14.1,U s14.2.1]] ?_ ?_
   ·refine jC E hq30 (fun h32=>?_) fun h35=>gA 1 E<|oSi h35▸⟨⟨E,E,E,E,E,E,E,E,tV⟩,[],E,.inl E⟩
    exact bK h32 fun x33 hx33 h34=>gA 3 E<|eo_o E (Kdi hΓ (enc:=(eN .u64)) hx33 E E E E E (fun _=>E))<|gO 3 E<|oSi h34▸⟨⟨E,E,E,E,E,E,E,E,tV⟩,[],E,.inl E⟩
   refine gA 7 E<|jC E h31 (fun h36=>?_) fun h37=>gA 7 E<|Kmn hΓ E E E E E E E E Z<|Keg [.box 39 [B false,U 0,U 0],.box 39 [B true,U s14.1,U (bitsV .or .u64 (shlV .u64 s14.2.1 16) q30)]] E<|gO 7 E<|oSi h37▸⟨_,E,⟨⟨E,E,E,E,E,E,tV⟩,[],E,.inl E⟩⟩
   exact gA 7 E<|Kmn hΓ E E E E E E E E Z<|Keg [.box 39 [B false,U 0,U 0],.box 39 [B true,U (bitsV .or .u64 (shlV .u64 s14.1 16) q30),U s14.2.1]] E<|gO 7 E<|oSi h36▸⟨_,E,⟨⟨E,E,E,E,E,E,tV⟩,[],E,.inl E⟩⟩
  have h38:=cF hy20 hb
  refine gA 4 E ?_
  cases h38
  obtain rfl:=hout21 _ rfl
  exact⟨⟨E,E,tV⟩,[],E,.inl E⟩
 exact gA 4 E<|Kmn hΓ E E E E E E E E Z<|Keg [.box 39 [B q16.Six,U q16.Hi,U q16.Lo],.box 39 [B q16.Six,U q16.Hi,U q16.Lo]] E<|gO 4 E<|oSi h17▸gP E E
theorem Lfz{k:Nat}{s:Str}{r:Kya×Int}(h:Lbu k s=some r):Pure Tryz.prog 167 [S s] (.tup [.agg [B r.1.Six,U r.1.Hi,U r.1.Lo],I r.2]):=by
 unfold Lbu at h
 refine QP Tryz.func167 E E E<|gA 2 E<|Kmi hΓ E E E Z<|bK h fun y1 hy1 h2=>gO 6 E<|Kdy C (Lfy hy1) E Z E E E E E<|gO 3 E<|Kmi hΓ E E E Z<|Kmn hΓ E E E E E E E E Z<|Keg [.box 39 [B false,U 0,U 0],.box 39 [B y1.1.Six,U y1.1.Hi,U y1.1.Lo]] E<|gO 9 E<|bK h2 fun q3 hq3 h4=>Kcx 5 [(2,.ptr 0 0),(4,.ptr 1 0),(18,B q3)] [.box 39 [B false,U 0,U 0],.box 39 [B y1.1.Six,U y1.1.Hi,U y1.1.Lo]] ?_ ?_
 ·refine Klc E E (fun hb=>?_) (fun hb=>?_)
  ·have h5:=cT hq3 hb
   exact gO 6 E<|oSi h5▸⟨⟨E,E,E,tV⟩,[],E,.inl E⟩
  have h6:=cF hq3 hb
  exact bK h6 fun y7 hy7 h8=>gO 1 E<|Kla E<|Kdy C (Lfa hy7) E Z E E E E E<|gO 4 E<|oSi h8▸⟨⟨E,E,E,tV⟩,[],E,.inl E⟩
 refine gO 2 E<|jC E h4 (fun h9=>?_) fun h10=>gA 5 E<|Kmn hΓ E E E E E E E E Z<|Keg [.box 39 [B y1.1.Six,U y1.1.Hi,U y1.1.Lo],.box 39 [B y1.1.Six,U y1.1.Hi,U y1.1.Lo]] E<|gO 4 E<|oSi h10▸gP E E
 exact gA 2 E<|Kau hΓ (gs:=[B false,U 0,U 0]) E E E E E E E<|Kmn hΓ E E E E E E E E Z<|Keg [.box 39 [B false,U 0,U 0],.box 39 [B y1.1.Six,U y1.1.Hi,U y1.1.Lo]] E<|gO 5 E<|oSi h9▸gP E E
theorem Lga{k:Nat}{line:Str}{r:Kyb×Bool}(h:Lbv k line=some r):Pure Tryz.prog 100 [S line] (.tup [.agg [S r.1.Name,I r.1.Kind,B r.1.Addr.Six,U r.1.Addr.Hi,U r.1.Addr.Lo,S r.1.To,S r.1.Words,I r.1.Life],B r.2]):=by
 unfold Lbv at h
 refine QP Tryz.func100 E E E<|gA 2 E<|Kmi hΓ E E E Z<|bK h fun y1 hy1 h2=>gO 6 E<|Kdy C (Pure.rows (Kwk hy1) E E) E Z E E E E E<|gO 10 E<|bK h2 fun q3 hq3 h4=>Kcx 5 [(2,.ptr 0 0),(4,.d (Sl eS y1)),(21,B q3)] [.box 80 [S [],I 0,B false,U 0,U 0,S [],S [],I 0]] ?_ ?_
 ·refine Klc E E (fun hb=>?_) (fun hb=>?_)
  ·have h5:=cT hq3 hb
   exact gO 6 E<|oSi h5▸⟨⟨E,E,E,tV⟩,[],E,.inl E⟩
  have h6:=cF hq3 hb
  exact bK h6 fun x7 hx7 h8=>gO 1 E<|Kla E<|eo_o E (Kdi hΓ (enc:=eS) hx7 E E E E E (fun _=>E))<|gO 4 E<|oSi h8▸⟨⟨E,E,E,tV⟩,[],E,.inl E⟩
 refine gO 2 E<|Kcr E (fun hb=>?_) (fun hb=>?_)
 ·have h9:=cT h4 hb
  exact gA 2 E<|Kau hΓ (gs:=[S [],I 0,B false,U 0,U 0,S [],S [],I 0]) E E E E E E E<|Kmn hΓ E E E E E E E E Z<|Keg [.box 80 [S [],I 0,B false,U 0,U 0,S [],S [],I 0]] E<|gO 5 E<|oSi h9▸gP E E
 have h10:=cF h4 hb
 refine gA 3 E<|jD<|bK h10 fun y11 hy11 h12=>Kdz C (Lfb hy11) E E E E E E<|bK h12 fun x13 hx13 h14=>Kcp hΓ 1 E<|gl_o E (Kdi hΓ (enc:=eS) hx13 E E E E E (fun _=>E))<|bK h14 fun y15 hy15 h16=>Kcp hΓ 1 E<|Kdz C (Lfh hy15) E E E E E E<|bK h16 fun x17 hx17 h18=>Kcp hΓ 6 E<|eo_o E (Kdi hΓ (enc:=eS) hx17 E E E E E (fun _=>E))<|bK h18 fun y19 hy19 h20=>gO 1 E<|Kdy C (Lfu hy19) E Z E E E E E<|gO 13 E<|Kcx 3 [(2,.ptr 0 0),(4,.d (Sl eS y1)),(5,I y15),(6,I y19.1),(40,B ((decide ((y15:Int)<0))||(!y19.2)))] [.box 80 [S [],I 0,B false,U 0,U 0,S [],S [],I 0]] ?_ ?_
 ·refine Klc E E (fun hb=>?_) (fun hb=>?_)
  ·exact gO 4 E<|⟨⟨E,E,E,E,Kby E (or_t hb),tV⟩,[],E,.inl E⟩
  exact gO 4 E<|⟨⟨E,E,E,E,Kby E (or_f hb),tV⟩,[],E,.inl E⟩
 refine gO 2 E<|jC E h20 (fun h21=>?_) fun h22=>gA 3 E<|Kge [] [] [9,10] [] hmix (by kernel_rfl) (by kernel_rfl) trivial Z<|bK h22 fun x23 hx23 h24=>go_E hΓ 1 E<|ge_q E (.inl E) (fun _ _=>Kgg (qt_p (Kdi hΓ (enc:=eS) hx23 E E E E E (fun _=>E))))<|bK h24 fun y25 hy25 h26=>go_E hΓ 1 E<|Kgs C (Lek hy25) E E E E E E<|bK h26 fun x27 hx27 h28=>go_E hΓ 1 E<|ge_q E (.inl E) (fun _ _=>Kgg (qt_p (Kdi hΓ (enc:=(eN .i64)) hx27 E E E E E (fun _=>E))))<|go_E hΓ 2 E<|ge_q E (.inl E) (fun _ _=>Kgg (qt_p (Kgv hΓ (gs:=[S x23,I x27,B false,U 0,U 0,S [],S [],I y19.1]) E E E E E E)))<|ge_h [.box 80 [S [],I 0,B false,U 0,U 0,S [],S [],I 0],.box 80 [S [],I 0,B false,U 0,U 0,S [],S [],I 0]] E E E (Kgm tV) (Kgp (Kgu hΓ (hi:=show Γ 80=some ⟨_,_,_,_⟩ from E) E))<|Kgk [.box 80 [S [],I 0,B false,U 0,U 0,S [],S [],I 0],.box 80 [S x23,I x27,B false,U 0,U 0,S [],S [],I y19.1]] E E (Kgm tV) (Kgq (Khp hΓ E E E E E E E E E))<|Kgf<|gA 15 E<|jC E h28 (fun h29=>?_) fun h32=>?_
 ·exact gA 2 E<|Kau hΓ (gs:=[S [],I 0,B false,U 0,U 0,S [],S [],I 0]) E E E E E E E<|Kmn hΓ E E E E E E E E Z<|Keg [.box 80 [S [],I 0,B false,U 0,U 0,S [],S [],I 0]] E<|gO 5 E<|oSi h21▸gP E E
 ·exact bK h29 fun x30 hx30 h31=>gA 2 E<|eo_o E (Kdi hΓ (enc:=eS) hx30 E E E E E (fun _=>E))<|gO 2 E<|Kmn hΓ E E E E E E E E Z<|Keg [.box 80 [S [],I 0,B false,U 0,U 0,S [],S [],I 0],.box 80 [S x23,I x27,B false,U 0,U 0,S [],S x30,I y19.1]] E<|gO 6 E<|Kmn hΓ E E E E E E E E Z<|Keg [.box 80 [S x23,I x27,B false,U 0,U 0,S [],S x30,I y19.1],.box 80 [S x23,I x27,B false,U 0,U 0,S [],S x30,I y19.1]] E<|gO 4 E<|oSi h31▸gP E E
 refine bK h32 fun q33 hq33 h34=>gA 7 E<|Khe [(2,.ptr 0 0),(4,.d (Sl eS y1)),(8,.ptr 1 0),(71,B q33)] [.box 80 [S [],I 0,B false,U 0,U 0,S [],S [],I 0],.box 80 [S x23,I x27,B false,U 0,U 0,S [],S [],I y19.1]] ?_ ?_
 ·refine jC E hq33 (fun h35=>?_) fun h36=>gA 4 E<|oSi h36▸⟨⟨E,E,E,E,tV⟩,[],E,.inl E⟩
  exact gA 1 E<|oSi h35▸⟨⟨E,E,E,E,tV⟩,[],E,.inl E⟩
 refine gA 1 E<|jC E h34 (fun h37=>?_) fun h50=>bK h50 fun x51 hx51 h52=>gA 3 E<|eo_o E (Kdi hΓ (enc:=eS) hx51 E E E E E (fun _=>E))<|bK h52 fun y53 hy53 h54=>gO 1 E<|Kdy C (Lfz hy53) E Z E E E E E<|gO 3 E<|Kmi hΓ E E E Z<|Kmn hΓ E E E E E E E E Z<|Keg [.box 80 [S [],I 0,B false,U 0,U 0,S [],S [],I 0],.box 80 [S x23,I x27,B false,U 0,U 0,S [],S [],I y19.1],.box 39 [B y53.1.Six,U y53.1.Hi,U y53.1.Lo]] E<|gO 7 E<|Kmn hΓ E E E E E E E E Z<|Keg [.box 80 [S [],I 0,B false,U 0,U 0,S [],S [],I 0],.box 80 [S x23,I x27,B y53.1.Six,U y53.1.Hi,U y53.1.Lo,S [],S [],I y19.1],.box 39 [B y53.1.Six,U y53.1.Hi,U y53.1.Lo]] E<|gO 7 E<|Kmn hΓ E E E E E E E E Z<|Keg [.box 80 [S x23,I x27,B y53.1.Six,U y53.1.Hi,U y53.1.Lo,S [],S [],I y19.1],.box 80 [S x23,I x27,B y53.1.Six,U y53.1.Hi,U y53.1.Lo,S [],S [],I y19.1],.box 39 [B y53.1.Six,U y53.1.Hi,U y53.1.Lo]] E<|gO 6 E<|oSi h54▸gP E E
 refine bK h37 fun x38 hx38 h39=>gA 3 E<|eo_o E (Kdi hΓ (enc:=eS) hx38 E E E E E (fun _=>E))<|gO 2 E<|Kmn hΓ E E E E E E E E Z<|Keg [.box 80 [S [],I 0,B false,U 0,U 0,S [],S [],I 0],.box 80 [S x23,I x27,B false,U 0,U 0,S x38,S [],I y19.1]] E<|bK h39 fun q40 hq40 h41=>gO 3 E<|Khe [(2,.ptr 0 0),(3,B q40)] [.box 80 [S x23,I x27,B false,U 0,U 0,S x38,S [],I y19.1],.box 80 [S x23,I x27,B false,U 0,U 0,S x38,S [],I y19.1]] ?_ ?_
 ·refine Kge [.dead,.box 80 [S x23,I x27,B false,U 0,U 0,S x38,S [],I y19.1]] [0] [12] [] hmix (by kernel_rfl) (by kernel_rfl) ⟨E,tV⟩ Z<|bK hq40 fun x42 hx42 h43=>go_E hΓ 2 E<|ge_q E (.inl E) (fun _ _=>Kgg (qt_p (Kdi hΓ (enc:=eS) hx42 E E E E E (fun _=>E))))<|go_E hΓ 3 E<|Kgj E E (fun hb=>?_) (fun hb=>?_)
  ·have h44:=cT h43 hb
   exact bK h44 fun x45 hx45 h46=>go_E hΓ 1 E<|ge_q E (.inr ⟨_,_,E,E⟩) (fun _ _=>Kgg (qt_p (Kdi hΓ (enc:=eS) hx45 E E E E E (fun _=>E))))<|bK h46 fun y47 hy47 h48=>go_E hΓ 1 E<|Khg E C (Kvk hy47) E E E E E E<|go_E hΓ 2 E<|Kgk [.box 80 [S x23,I x27,B false,U 0,U 0,S x38,S [],I y19.1],.box 80 [S x23,I x27,B false,U 0,U 0,S x38,S [],I y19.1]] E E (Kgm ⟨E,tV⟩) (Kgq (Khp hΓ E E E E E E E E E))<|go_E hΓ 1 E<|Kgf<|oSi h48▸⟨⟨E,E,tV⟩,[],E,.inl E⟩
  have h49:=cF h43 hb
  exact go_E hΓ 6 E<|Kgk [.box 80 [S x23,I x27,B false,U 0,U 0,S x38,S [],I y19.1],.box 80 [S x23,I x27,B false,U 0,U 0,S x38,S [],I y19.1]] E E (Kgm ⟨E,tV⟩) (Kgq (Khp hΓ E E E E E E E E E))<|go_E hΓ 1 E<|Kgf<|oSi h49▸⟨⟨E,E,tV⟩,[],E,.inl E⟩
 exact gA 4 E<|oSi h41▸gP E E
theorem Lgb{k:Nat}{line:Str}{x:Bool}{x2:Kyc}{r:Bool×Bool×Kyc}(h:Lbw k line x x2=some r):EC Tryz.prog 99 [S line,.ptr 0 0,.ptr 2 0] [.box 4 [B x],rO 80 8 Lch x2.Records,.box 48 [S x2.Root,.sl 1 x2.Records.length]] fun g hp'=>g=B r.1∧hp'=[.box 4 [B r.2.1],.dead,.box 48 [S r.2.2.Root,.sl 3 r.2.2.Records.length],rO 80 8 Lch r.2.2.Records]:=by
 unfold Lbw at h
 refine QM Tryz.func99 E Z<|Kga Z<|Kfy 1 3 [.box 4 [B x],.dead,.box 48 [S x2.Root,.sl 3 x2.Records.length],rO 80 8 Lch x2.Records] E E E E E E<|gA 11 E<|Kcr E (fun hb=>?_) (fun hb=>?_)
 ·have h1:=cT h hb
  refine gA 2 E<|Kmn hΓ E E E E E E E E Z<|Keg [.box 4 [B false],.dead,.box 48 [S x2.Root,.sl 3 x2.Records.length],rO 80 8 Lch x2.Records] E<|bK h1 fun y2 hy2 h3=>gO 5 E<|Kdy C (Lfs hy2) E Z E E E E E<|gO 13 E<|Kcx 4 [(2,.ptr 2 0),(5,.d (Sl eS y2.1)),(21,B ((!y2.2)||(((y2.1.length:Int):Int) != 2)))] [.box 4 [B false],.dead,.box 48 [S x2.Root,.sl 3 x2.Records.length],rO 80 8 Lch x2.Records] ?_ ?_
  ·refine Klc E E (fun hb=>?_) (fun hb=>?_)
   ·exact gO 5 E<|⟨⟨E,E,Kby E (or_t hb),tV⟩,[],E,.inl E⟩
   exact gO 5 E<|⟨⟨E,E,Kby E (or_f hb),tV⟩,[],E,.inl E⟩
  refine gO 1 E<|bK h3 fun q4 hq4 h5=>Kcx 5 [(2,.ptr 2 0),(5,.d (Sl eS y2.1)),(27,B q4)] [.box 4 [B false],.dead,.box 48 [S x2.Root,.sl 3 x2.Records.length],rO 80 8 Lch x2.Records] ?_ ?_
  ·refine Klc E E (fun hb=>?_) (fun hb=>?_)
   ·have h6:=cT hq4 hb
    exact gO 6 E<|oSi h6▸⟨⟨E,E,E,tV⟩,[],E,.inl E⟩
   have h7:=cF hq4 hb
   exact bK h7 fun x8 hx8 h9=>gO 1 E<|Kla E<|eo_o E (Kdi hΓ (enc:=eS) hx8 E E E E E (fun _=>E))<|gO 4 E<|oSi h9▸⟨⟨E,E,E,tV⟩,[],E,.inl E⟩
  refine gO 2 E<|jC E h5 (fun h10=>?_) fun h11=>bK h11 fun x12 hx12 h13=>gA 5 E<|eo_o E (Kdi hΓ (enc:=eS) hx12 E E E E E (fun _=>E))<|gO 2 E<|Kmn hΓ E E E E E E E E Z<|Keg [.box 4 [B false],.dead,.box 48 [S x12,.sl 3 x2.Records.length],rO 80 8 Lch x2.Records] E<|gO 9 E<|Kha<|oSi h13▸Ken hΓ [] (.inr E) E E E E (.inl E)
  exact gA 8 E<|Kha<|oSi h10▸Ken hΓ [] (.inr E) E E E E (.inl E)
 have h14:=cF h hb
 exact bK h14 fun y15 hy15 h16=>gA 5 E<|Kdy C (Lga hy15) E Z E E E E E<|gO 3 E<|Kmi hΓ E E E Z<|Kmn hΓ E E E E E E E E Z<|Keg [.box 4 [B x],.dead,.box 48 [S x2.Root,.sl 3 x2.Records.length],rO 80 8 Lch x2.Records,.box 80 [S y15.1.Name,I y15.1.Kind,B y15.1.Addr.Six,U y15.1.Addr.Hi,U y15.1.Addr.Lo,S y15.1.To,S y15.1.Words,I y15.1.Life]] E<|gO 8 E<|Kdt hΓ (enc:=Lch) [y15.1] E E E E E E E E E E E E Z<|bK h16 fun y17 hy17 h18=>Kia 3 [.box 4 [B x],.dead,.box 48 [S x2.Root,.junk],rO 80 8 Lch x2.Records,.box 80 [S y15.1.Name,I y15.1.Kind,B y15.1.Addr.Six,U y15.1.Addr.Hi,U y15.1.Addr.Lo,S y15.1.To,S y15.1.Words,I y15.1.Life]] E Z<|Keh hΓ (enc:=Lch) hy17 E E E E E E E E E (fun _=>E) E E E E<|gO 1 E<|Kmn hΓ E E E E E E E E Z<|Keg [.box 4 [B x],.dead,.box 48 [S x2.Root,.sl 3 y17.length],rO 80 8 Lch y17,.box 80 [S y15.1.Name,I y15.1.Kind,B y15.1.Addr.Six,U y15.1.Addr.Hi,U y15.1.Addr.Lo,S y15.1.To,S y15.1.Words,I y15.1.Life]] E<|gO 9 E<|Kha<|oSi h18▸Ken hΓ [_] (.inr E) E E E E (.inr ⟨HB.mk E,E⟩)
theorem Lgc{k:Nat}{text:Str}{f:Bool}{f2:Kyc}{r:Int×Bool×Bool×Kyc}(h:Lbx k text f f2=some r):EC Tryz.prog 69 [S text,.fn (.func 99) [] [.ptr 0 0,.ptr 2 0]] [.box 4 [B f],rO 80 8 Lch f2.Records,.box 48 [S f2.Root,.sl 1 f2.Records.length]] fun g hp'=>g=.tup [I r.1,B r.2.1]∧hp'=[.box 4 [B r.2.2.1],.dead,.box 48 [S r.2.2.2.Root,.sl 3 r.2.2.2.Records.length],rO 80 8 Lch r.2.2.2.Records]:=by
 unfold Lbx at h
 refine QM Tryz.func69 E Z<|Kga Z<|Kfy 1 3 [.box 4 [B f],.dead,.box 48 [S f2.Root,.sl 3 f2.Records.length],rO 80 8 Lch f2.Records] E E E E E E<|gA 12 E<|bK h fun q4 hq4 h5=>Khd (R:=fun a6=>q4=.inl a6) (fun a6=>[]) (fun a6=>[.box 4 [B a6.1],.dead,.box 48 [S a6.2.1,.sl 3 a6.2.2.length],rO 80 8 Lch a6.2.2]) ?_ ?_
 ·refine gA 1 E<|Kde hq4 (fun s2=>[(0,S s2.2.2.2.1),(1,.fn (.func 99) [] [.ptr 0 0,.ptr 2 0]),(6,I s2.2.2.2.2)]) (fun s2=>[.box 4 [B s2.1],.dead,.box 48 [S s2.2.1,.sl 3 s2.2.2.1.length],rO 80 8 Lch s2.2.2.1]) ⟨⟨E,E,E,tV⟩,[],E,.inl E⟩ (fun s2 y10 hy8 hout9=>?_)
  refine gA 7 E<|jC E hy8 (fun h11=>?_) fun h24=>gA 4 E ?_
  ·refine bK h11 fun y12 hy12 h13=>gA 7 E<|Kdy C (Kwi hy12) E Z E E E E E<|gO 15 E<|bK h13 fun q14 hq14 h15=>Kcx 5 [(1,.fn (.func 99) [] [.ptr 0 0,.ptr 2 0]),(6,I s2.2.2.2.2),(8,S y12.2.1),(27,B q14.2.2.2)] [.box 4 [B q14.1],.dead,.box 48 [S q14.2.1,.sl 3 q14.2.2.1.length],rO 80 8 Lch q14.2.2.1] ?_ ?_
   ·refine Klc E E (fun hb=>?_) (fun hb=>?_)
    ·have h16:=cT hq14 hb
     exact gO 6 E<|oSi h16▸⟨⟨E,E,E,E,tV⟩,[],E,.inl E⟩
    have h17:=cF hq14 hb
    exact bK h17 fun y18 hy18 h19=>gO 2 E<|Kla E<|Kdx [0,3,2] (B y18.1) [.box 4 [B y18.2.1],.dead,.box 48 [S y18.2.2.Root,.sl 4 y18.2.2.Records.length],.dead,rO 80 8 Lch y18.2.2.Records] C (Lgb hy18) E Z E E E E E E E E E E<|gO 2 E<|Kfw 4 3 [.box 4 [B y18.2.1],.dead,.box 48 [S y18.2.2.Root,.sl 3 y18.2.2.Records.length],rO 80 8 Lch y18.2.2.Records,.dead] E E E E E E<|gO 1 E<|oSi h19▸⟨⟨E,E,E,E,tV⟩,[_],E,.inr ⟨HB.mk E,FB.mk E,Z⟩⟩
   refine gO 2 E<|jC E h15 (fun h20=>?_) fun h23=>gA 13 E<|oSi h23▸⟨_,E,⟨⟨E,E,E,tV⟩,[],E,.inl E⟩⟩
   refine gA 11 E<|bK h20 fun v21 hv21 h22=>?_
   cases h22
   obtain rfl:=hout9 _ rfl
   cases h5
   exact gA 4 E<|Kha<|oSi hv21▸Ken hΓ [] (.inr E) E E E E (.inl E)
  cases h24
  obtain rfl:=hout9 _ rfl
  exact⟨_,E,⟨tV,[],E,.inl E⟩⟩
 intro a6 ha
 subst ha
 replace h5:=Kgx h5
 exact gA 8 E<|Kha<|oSi h5▸Ken hΓ [] (.inr E) E E E E (.inl E)
theorem Lgd{k:Nat}{text:Str}{r:Kyc×Int×Int}(h:Lby k text=some r):Pure Tryz.prog 22 [S text] (.tup [.agg [S r.1.Root,.d (Sl Lch r.1.Records)],I r.2.1,I r.2.2]):=by
 unfold Lby at h
 refine QP Tryz.func22 E E E<|gA 2 E<|Kmi hΓ E E E Z<|gO 12 E<|jC E h (fun h1=>?_) fun h2=>gA 9 E<|jC E h2 (fun h3=>?_) fun h4=>?_
 ·exact gA 2 E<|Kau hΓ (gs:=[S [],.d (Sl Lch [])]) E E E E E E E<|Kmn hΓ E E E E E E E E Z<|Keg [.box 48 [S [],.d (Sl Lch [])]] E<|gO 6 E<|oSi h1▸gP E E
 ·exact gA 2 E<|Kau hΓ (gs:=[S [],.d (Sl Lch [])]) E E E E E E E<|Kmn hΓ E E E E E E E E Z<|Keg [.box 48 [S [],.d (Sl Lch [])]] E<|gO 6 E<|oSi h3▸gP E E
 refine gA 4 E<|eo_s Z (nblt.1 E) (Kin hΓ [1] [S [],.d (.v (.slice none 0 0))] (hi:=show Γ 48=some ⟨_,_,_,_⟩ from E) E ⟨.refl _,.refl _,tV⟩)<|Keg [.box 48 [S [],.d (Sl Lch [])],.box 48 [S [],.d (.v (.slice none 0 0))]] E<|gO 2 E<|Kiu 1 1 80 8 [.box 48 [S [],.d (Sl Lch [])],.box 48 [S [],.sl 2 ([]:List Kyb).length],rO 80 8 Lch ([]:List Kyb)] E E E Z<|gA 2 E<|Kmi hΓ E E E Z<|Kmn hΓ E E E E E E E E Z<|Keg [.box 48 [S [],.d (Sl Lch [])],.box 48 [S [],.sl 2 ([]:List Kyb).length],rO 80 8 Lch ([]:List Kyb),.box 4 [B true]] E<|bK h4 fun y5 hy5 h6=>gO 6 E<|Kdx [3,2,1] (.tup [I y5.1,B y5.2.1]) [.box 48 [S [],.d (Sl Lch [])],.box 48 [S y5.2.2.2.Root,.sl 4 y5.2.2.2.Records.length],.dead,.box 4 [B y5.2.2.1],rO 80 8 Lch y5.2.2.2.Records] C (Lgc hy5) E Z E E E E E E E E E E<|gO 5 E<|Kfw 4 2 [.box 48 [S [],.d (Sl Lch [])],.box 48 [S y5.2.2.2.Root,.sl 2 y5.2.2.2.Records.length],rO 80 8 Lch y5.2.2.2.Records,.box 4 [B y5.2.2.1],.dead] E E E E E E<|gO 9 E<|jC E h6 (fun h7=>?_) fun h8=>gA 6 E<|Ked 2 [27] _ [.box 48 [S [],.d (Sl Lch [])],.box 48 [S y5.2.2.2.Root,.d (Sl Lch y5.2.2.2.Records)],.dead,.box 4 [B y5.2.2.1],.dead] E E E Z<|bK h8 fun y9 hy9 h10=>Kdy C (Leu hy9) E Z E E E E E<|gO 9 E<|jC E h10 (fun h11=>?_) fun h12=>?_
 ·exact gA 2 E<|Kau hΓ (gs:=[S [],.d (Sl Lch [])]) E E E E E E E<|gO 1 E<|Kmn hΓ E E E E E E E E Z<|Keg [.box 48 [S [],.d (Sl Lch [])],.box 48 [S y5.2.2.2.Root,.sl 2 y5.2.2.2.Records.length],rO 80 8 Lch y5.2.2.2.Records,.box 4 [B y5.2.2.1],.dead] E<|gO 6 E<|oSi h7▸gP E E
 ·exact gA 2 E<|Kau hΓ (gs:=[S [],.d (Sl Lch [])]) E E E E E E E<|gO 1 E<|Kmn hΓ E E E E E E E E Z<|Keg [.box 48 [S [],.d (Sl Lch [])],.box 48 [S y5.2.2.2.Root,.d (Sl Lch y5.2.2.2.Records)],.dead,.box 4 [B y5.2.2.1],.dead] E<|gO 6 E<|oSi h11▸gP E E
 exact gA 5 E<|Kmn hΓ E E E E E E E E Z<|Keg [.box 48 [S y5.2.2.2.Root,.d (Sl Lch y5.2.2.2.Records)],.box 48 [S y5.2.2.2.Root,.d (Sl Lch y5.2.2.2.Records)],.dead,.box 4 [B y5.2.2.1],.dead] E<|gO 5 E<|oSi h12▸gP E E
theorem Lge{s1:List Kyb}{s2:List Kyb}{r:Bool}(h:Lbz s1 s2=some r):Pure Tryz.prog 46 [.d (Sl Lch s1),.d (Sl Lch s2)] (B r):=by
 unfold Lbz at h
 refine QP Tryz.func46 E E E<|gA 15 E<|jC E h (fun h1=>?_) fun h2=>gA 10 E<|bK h2 fun q6 hq6 h7=>Kdh 0 E fun hb9=>Khd (R:=fun a8=>q6=.go a8) (fun a8=>[]) (fun a8=>[]) ?_ ?_
 ·exact gA 7 E<|oSi h1▸gP E E
 ·refine gA 1 E<|Kdg s1 hq6 (fun i3 s4=>[(0,.d (Sl Lch s1)),(1,.d (Sl Lch s2)),(12,I (s1.length:Int)),(13,I (i3:Int))]) (fun s4=>[]) ⟨⟨E,E,E,E,tV⟩,[],E,.inl E⟩ (fun i3 x5 s4 y13 hx10 hlt hy11 hout12=>?_) (fun s4 hgo=>?_)
  ·refine gA 6 E<|Kcs E (dT (Int.ofNat_lt.2 hlt))<|gA 11 E<|jD<|gA 2 E<|gl_o E (Kdi hΓ (enc:=Lch) (Kdb hx10) E E E E E (fun _=>E))<|bK hy11 fun x14 hx14 h15=>Kcp hΓ 3 E<|gl_o E (Kdi hΓ (enc:=Lch) hx14 E E E E E (fun _=>E))<|Kcp hΓ 1 E<|gl_o E (Key hΓ [80,39] (b:=(((x5.Name:Str)==x14.Name)&&(((x5.Kind:Int)==x14.Kind)&&((((x5.Addr.Six:Bool)==x14.Addr.Six)&&(((x5.Addr.Hi:Int)==x14.Addr.Hi)&&(((x5.Addr.Lo:Int)==x14.Addr.Lo)&&true)))&&(((x5.To:Str)==x14.To)&&(((x5.Words:Str)==x14.Words)&&(((x5.Life:Int)==x14.Life)&&true))))))) (by kernel_rfl) (by kernel_rfl) E E E)<|Kcp hΓ 2 E<|jC E h15 (fun h16=>?_) fun h19=>gA 7 E ?_
   ·refine gA 8 E<|bK h16 fun v17 hv17 h18=>?_
    cases h18
    obtain rfl:=hout12 _ rfl
    cases h7
    exact gA 4 E<|oSi hv17▸gP E E
   cases h19
   exact⟨_,E,⟨⟨E,E,E,Kbx E (Kbw (nLl hlt hb9)),tV⟩,[],E,.inl E⟩⟩
  subst hgo
  exact gA 6 E<|Kct E (dF (Int.lt_irrefl _))<|gA 4 E<|⟨_,E,⟨tV,[],E,.inl E⟩⟩
 intro a8 ha
 subst ha
 replace h7:=Kgy h7
 exact gA 7 E<|oSi h7▸gP E E
theorem Lgf{a:Kyc}{b:Kyc}{r:Bool}(h:Lca a b=some r):Pure Tryz.prog 23 [.agg [S a.Root,.d (Sl Lch a.Records)],.agg [S b.Root,.d (Sl Lch b.Records)]] (B r):=by
 unfold Lca at h
 refine QP Tryz.func23 E E E<|gA 2 E<|Kmj E E E E Z<|Kmj E E E E Z<|gO 11 E<|bK h fun q1 hq1 h2=>Kcx 6 [(4,B false),(16,B q1)] [.box 48 [S a.Root,.d (Sl Lch a.Records)],.box 48 [S b.Root,.d (Sl Lch b.Records)]] ?_ ?_
 ·refine Klc E E (fun hb=>?_) (fun hb=>?_)
  ·have h3:=cT hq1 hb
   exact bK h3 fun y4 hy4 h5=>gO 4 E<|Kla E<|Kdy C (Lge hy4) E Z E E E E E<|gO 2 E<|oSi h5▸⟨⟨E,E,tV⟩,[],E,.inl E⟩
  have h6:=cF hq1 hb
  exact gO 7 E<|oSi h6▸⟨⟨E,E,tV⟩,[],E,.inl E⟩
 exact gO 4 E<|oSi h2▸gP E E
theorem Lgg{s:Str}{r:Str}(h:Lcb s=some r):Pure Tryz.prog 101 [S s] (S r):=by
 unfold Lcb at h
 refine QP Tryz.func101 E E E<|gA 7 E<|Kdv (t:=0) 5 1 E Z<|gO 10 E<|bK h fun q4 hq4 h5=>gK hq4 fun hb7 h8=>?_
 replace hb7:=of_decide_eq_true hb7
 refine Khe [(3,.sl 0 q4.length)] [rO 5 1 (eN .u8) q4] ?_ ?_
 ·refine gA 1 E<|Ker h8 (fun i1 s2=>[(0,S s),(3,.sl 0 s2.length),(8,I (s.length:Int)),(9,I (i1:Int))]) (fun s2=>[rO 5 1 (eN .u8) s2]) ⟨⟨E,E,E,E,tV⟩,[],E,.inl E⟩ (fun i1 s2 y12 hlt hy10=>?_) (fun hge=>?_)
  ·refine gA 6 E<|Kcs E (dT hlt)<|bK hy10 fun c13 hc13 h14=>gA 14 E<|eo_o E (Kdj hΓ hc13 E E E E)<|gO 9 E<|Kcx 3 [(0,S s),(3,.sl 0 s2.length),(5,.d (.v (.int .u8 (c13.toNat:Int)))),(8,I (s.length:Int)),(9,I (i1:Int)),(20,B ((decide (((c13.toNat:Int):Int)≥65))&&(decide (((c13.toNat:Int):Int)≤90))))] [rO 5 1 (eN .u8) s2] ?_ ?_
   ·refine Klc E E (fun hb=>?_) (fun hb=>?_)
    ·exact gO 4 E<|⟨⟨E,E,E,E,E,Kby E (Ket hb),tV⟩,[],E,.inl E⟩
    exact gO 4 E<|⟨⟨E,E,E,E,E,Kby E (Keu hb),tV⟩,[],E,.inl E⟩
   refine bK h14 fun q15 hq15 h16=>gO 2 E<|Khe [(0,S s),(3,.sl 0 s2.length),(5,.d (.v (.int .u8 q15))),(8,I (s.length:Int)),(9,I (i1:Int))] [rO 5 1 (eN .u8) s2] ?_ ?_
   ·refine jC E hq15 (fun h17=>?_) fun h18=>gA 1 E<|oSi h18▸⟨⟨E,E,E,E,E,tV⟩,[],E,.inl E⟩
    exact gA 5 E<|oSi h17▸⟨⟨E,E,E,E,E,tV⟩,[],E,.inl E⟩
   refine bK h16 fun y19 hy19 h20=>gA 5 E<|Kdy C (Ldj hy19) E Z E E E E E<|gO 3 E<|jC E h20 (fun h21=>?_) fun h24=>gA 6 E<|bK h24 fun q25 hq25 h26=>Kcx 8 [(0,S s),(3,.sl 0 s2.length),(8,I (s.length:Int)),(9,I (i1:Int)),(42,B q25)] [rO 5 1 (eN .u8) s2] ?_ ?_
   ·exact gA 3 E<|Kdt hΓ (enc:=(eN .u8)) [q15] E E E E E E E E E E E E Z<|bK h21 fun y22 hy22 h23=>Keh hΓ (enc:=(eN .u8)) hy22 E E E E E E E E E (fun _=>E) E E E E<|gO 9 E<|oSi h23▸⟨⟨E,E,E,Kbx E (Kbw (by omega)),tV⟩,[],E,.inl E⟩
   ·refine Klc E E (fun hb=>?_) (fun hb=>?_)
    ·have h27:=cT hq25 hb
     exact gO 9 E<|oSi h27▸⟨⟨E,E,E,E,E,tV⟩,[],E,.inl E⟩
    have h28:=cF hq25 hb
    refine bK h28 fun x29 hx29 h30=>?_
    have hj31:=Kes hx29
    exact gO 4 E<|Kla E<|eo_o E (Kdk hΓ hx29 E E E E E E)<|Kla E<|eo_o E (Kdq hΓ (enc:=(eN .u8)) ((wi ((s2.length:Int) - 1)).toNat) 0 hj31 E E E E (fun _=>E) (g:=.d (.v (.int .u8 x29))) E)<|gO 3 E<|oSi h30▸⟨⟨E,E,E,E,E,tV⟩,[],E,.inl E⟩
   refine gO 3 E<|jC E h26 (fun h32=>?_) fun h35=>gA 8 E<|oSi h35▸⟨⟨E,E,E,Kbx E (Kbw (by omega)),tV⟩,[],E,.inl E⟩
   exact gA 2 E<|Kdt hΓ (enc:=(eN .u8)) [45] E E E E E E E E E E E E Z<|bK h32 fun y33 hy33 h34=>Keh hΓ (enc:=(eN .u8)) hy33 E E E E E E E E E (fun _=>E) E E E E<|gO 9 E<|oSi h34▸⟨⟨E,E,E,Kbx E (Kbw (by omega)),tV⟩,[],E,.inl E⟩
  exact gA 6 E<|Kct E (dF hge)<|gA 4 E<|⟨⟨E,tV⟩,[],E,.inl E⟩
 refine bK h5 fun z36 hz36 h37=>gA 7 E<|Kfc hΓ (enc:=(eN .u8)) hz36 E E E E E E E E (fun _=>E) E Z<|bK h37 fun y38 hy38 h39=>eo_o E (Kff hΓ hy38 E E E E E E E E E)<|bK h39 fun y40 hy40 h41=>Kdy C (Kvd hy40) E Z E E E E E<|gO 10 E<|jC E h41 (fun h42=>?_) fun h43=>gA 9 E<|oSi h43▸gP E E
 exact gA 7 E<|oSi h42▸gP E E
theorem Lgh{k:Nat}{r:Bool}(h:Lcc k=some r):Pure Tryz.prog 24 [] (B r):=by
 unfold Lcc at h
 refine QP Tryz.func24 E E E<|bK h fun y1 hy1 h2=>gA 7 E<|Kdy C (Lgg hy1) E Z E E E E E<|gO 2 E<|bK h2 fun q3 hq3 h4=>Kcx 3 [(0,B false),(6,B q3)] [] ?_ ?_
 ·refine Klc E E (fun hb=>?_) (fun hb=>?_)
  ·have h5:=cT hq3 hb
   exact bK h5 fun y6 hy6 h7=>Kla E<|Kdy C (Ldl hy6) E Z E E E E E<|gO 3 E<|oSi h7▸⟨⟨E,E,tV⟩,[],E,.inl E⟩
  have h8:=cF hq3 hb
  exact gO 4 E<|oSi h8▸⟨⟨E,E,tV⟩,[],E,.inl E⟩
 exact gO 4 E<|oSi h4▸gP E E
end Go.Proofs.YtfnjahjbpaoepaaGreatDoor
