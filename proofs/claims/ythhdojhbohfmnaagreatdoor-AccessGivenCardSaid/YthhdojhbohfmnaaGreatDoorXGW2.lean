import Derived.Test.YthhdojhbohfmnaaGreatDoorXGM
import Derived.Test.YthhdojhbohfmnaaGreatDoorGt
import Derived.Test.YthhdojhbohfmnaaGreatDoorStr
import Derived.Test.YthhdojhbohfmnaaGreatDoorStr9
import Derived.Test.YthhdojhbohfmnaaGreatDoorStrC
import Derived.Test.YthhdojhbohfmnaaGreatDoorStrI
import Derived.Test.YthhdojhbohfmnaaGreatDoorStrK
import Derived.Test.YthhdojhbohfmnaaGreatDoorGk57
import Derived.Test.YthhdojhbohfmnaaGreatDoorGk62
import Derived.Test.YthhdojhbohfmnaaGreatDoorGk66
import Derived.Test.YthhdojhbohfmnaaGreatDoorGk67
import Derived.Test.YthhdojhbohfmnaaGreatDoorSoALays
import Derived.Test.YthhdojhbohfmnaaGreatDoorStrK
import Derived.Test.YthhdojhbohfmnaaGreatDoorXGW1
set_option maxHeartbeats 8000000
set_option linter.all false
set_option maxRecDepth 100000
namespace Go.Proofs.YthhdojhbohfmnaaGreatDoor
open Go.Gk
theorem Leg{l:List Kwg}{r:Int}(h:Kyu l=some r):Pure Tryz.prog 66 [.d (Sl Lbv l)] (I r):=by
 unfold Kyu at h
 refine QP Tryz.func66 E E E<|gA 13 E<|Kfo E (fun hb=>?_) (fun hb=>?_)
 ·have h1:=cT h hb
  exact gA 7 E<|oSi h1▸gP E E
 have h2:=cF h hb
 refine gA 10 E<|bK h2 fun q6 hq6 h7=>Kge 0 E fun hb9=>Kjs (R:=fun a8=>q6=.go a8) (fun a8=>[]) (fun a8=>[]) ?_ ?_
 ·refine gA 1 E<|Kgd l hq6 (fun i3 s4=>[(0,.d (Sl Lbv l)),(9,.d (Sl Lbv l)),(10,I (l.length:Int)),(11,I (i3:Int))]) (fun s4=>[]) ⟨⟨E,E,E,E,tV⟩,[],E,.inl E⟩ (fun i3 x5 s4 y13 hx10 hlt hy11 hout12=>?_) (fun s4 hgo=>?_)
  ·refine gA 6 E<|Kfp E (dT (Int.ofNat_lt.2 hlt))<|gA 7 E<|eo_o E (Kgf hΓ (enc:=Lbv) (Kfy hx10) E E E E E (fun _=>E))<|gO 1 E<|Ksi hΓ E E E Z<|gO 1 E<|Ksn hΓ E E E E E E E E Z<|Khd [.box 180 [I x5.At,S x5.Key,S x5.By,I x5.Kind,S x5.Node,S x5.Posture,I x5.Long]] E<|bK hy11 fun y14 hy14 h15=>gO 15 E<|Kgv C (Lee hy14) E Z E E E E E<|gO 4 E<|Kfo E (fun hb=>?_) (fun hb=>?_)
   ·have h16:=cT h15 hb
    refine gA 9 E<|bK h16 fun v17 hv17 h18=>?_
    cases h18
    obtain rfl:=hout12 _ rfl
    cases h7
    exact gA 4 E<|oSi hv17▸gP E E
   have h19:=cF h15 hb
   refine bK h19 fun y20 hy20 h21=>gA 4 E<|Kgv C (Lea hy20) E Z E E E E E<|gO 2 E<|bK h21 fun q22 hq22 h23=>Kfu 5 [(0,.d (Sl Lbv l)),(3,I (i3:Int)),(4,.ptr 0 0),(5,B ((x5.Kind:Int)==1)),(9,.d (Sl Lbv l)),(10,I (l.length:Int)),(11,I (i3:Int)),(34,B q22)] [.box 180 [I x5.At,S x5.Key,S x5.By,I x5.Kind,S x5.Node,S x5.Posture,I x5.Long]] ?_ ?_
   ·refine Krc E E (fun hb=>?_) (fun hb=>?_)
    ·have h24:=cT hq22 hb
     exact gO 6 E<|oSi h24▸⟨⟨E,E,E,E,E,E,E,E,tV⟩,[],E,.inl E⟩
    have h25:=cF hq22 hb
    exact bK h25 fun y26 hy26 h27=>gO 2 E<|Kra E<|Kgv C (Lea hy26) E Z E E E E E<|gO 3 E<|oSi h27▸⟨⟨E,E,E,E,E,E,E,E,tV⟩,[],E,.inl E⟩
   refine gO 3 E<|Kfo E (fun hb=>?_) (fun hb=>?_)
   ·have h28:=cT h23 hb
    refine gA 9 E<|bK h28 fun v29 hv29 h30=>?_
    cases h30
    obtain rfl:=hout12 _ rfl
    cases h7
    exact gA 4 E<|oSi hv29▸gP E E
   have h31:=cF h23 hb
   refine bK h31 fun y32 hy32 h33=>gA 4 E<|Kgv C (Lec hy32) E Z E E E E E<|gO 4 E<|Kfo E (fun hb=>?_) (fun hb=>?_)
   ·have h34:=cT h33 hb
    refine gA 9 E<|bK h34 fun v35 hv35 h36=>?_
    cases h36
    obtain rfl:=hout12 _ rfl
    cases h7
    exact gA 4 E<|oSi hv35▸gP E E
   have h37:=cF h33 hb
   refine gA 4 E<|bK h37 fun q38 hq38 h39=>Kfu 11 [(0,.d (Sl Lbv l)),(3,I (i3:Int)),(4,.ptr 0 0),(5,B ((x5.Kind:Int)==1)),(9,.d (Sl Lbv l)),(10,I (l.length:Int)),(11,I (i3:Int)),(53,B q38)] [.box 180 [I x5.At,S x5.Key,S x5.By,I x5.Kind,S x5.Node,S x5.Posture,I x5.Long]] ?_ ?_
   ·refine Krc E E (fun hb=>?_) (fun hb=>?_)
    ·have h40:=cT hq38 hb
     refine bK h40 fun y41 hy41 h42=>gO 2 E<|Kra E<|Kgv C (Lea hy41) E Z E E E E E<|gO 2 E<|bK h42 fun q43 hq43 h44=>Kfu 5 [(0,.d (Sl Lbv l)),(3,I (i3:Int)),(4,.ptr 0 0),(5,B ((x5.Kind:Int)==1)),(9,.d (Sl Lbv l)),(10,I (l.length:Int)),(11,I (i3:Int)),(42,B true),(52,B q43)] [.box 180 [I x5.At,S x5.Key,S x5.By,I x5.Kind,S x5.Node,S x5.Posture,I x5.Long]] ?_ ?_
     ·refine Krc E E (fun hb=>?_) (fun hb=>?_)
      ·have h45:=cT hq43 hb
       exact gO 6 E<|oSi h45▸⟨⟨E,E,E,E,E,E,E,E,E,tV⟩,[],E,.inl E⟩
      have h46:=cF hq43 hb
      exact bK h46 fun y47 hy47 h48=>gO 2 E<|Kra E<|Kgv C (Lea hy47) E Z E E E E E<|gO 3 E<|oSi h48▸⟨⟨E,E,E,E,E,E,E,E,E,tV⟩,[],E,.inl E⟩
     exact gO 2 E<|oSi h44▸⟨⟨E,E,E,E,E,E,E,E,tV⟩,[],E,.inl E⟩
    have h49:=cF hq38 hb
    exact gO 12 E<|oSi h49▸⟨⟨E,E,E,E,E,E,E,E,tV⟩,[],E,.inl E⟩
   refine gO 3 E<|Kfo E (fun hb=>?_) (fun hb=>?_)
   ·have h50:=cT h39 hb
    refine gA 9 E<|bK h50 fun v51 hv51 h52=>?_
    cases h52
    obtain rfl:=hout12 _ rfl
    cases h7
    exact gA 4 E<|oSi hv51▸gP E E
   have h53:=cF h39 hb
   refine gA 4 E<|bK h53 fun q54 hq54 h55=>Kfu 5 [(0,.d (Sl Lbv l)),(3,I (i3:Int)),(4,.ptr 0 0),(5,B ((x5.Kind:Int)==1)),(9,.d (Sl Lbv l)),(10,I (l.length:Int)),(11,I (i3:Int)),(61,B q54)] [.box 180 [I x5.At,S x5.Key,S x5.By,I x5.Kind,S x5.Node,S x5.Posture,I x5.Long]] ?_ ?_
   ·refine Krc E E (fun hb=>?_) (fun hb=>?_)
    ·have h56:=cT hq54 hb
     exact bK h56 fun y57 hy57 h58=>gO 2 E<|Kra E<|Kgv C (Lec hy57) E Z E E E E E<|gO 3 E<|oSi h58▸⟨⟨E,E,E,E,E,E,E,E,tV⟩,[],E,.inl E⟩
    have h59:=cF hq54 hb
    exact gO 6 E<|oSi h59▸⟨⟨E,E,E,E,E,E,E,E,tV⟩,[],E,.inl E⟩
   refine gO 3 E<|Kfo E (fun hb=>?_) (fun hb=>?_)
   ·have h60:=cT h55 hb
    refine gA 9 E<|bK h60 fun v61 hv61 h62=>?_
    cases h62
    obtain rfl:=hout12 _ rfl
    cases h7
    exact gA 4 E<|oSi hv61▸gP E E
   have h63:=cF h55 hb
   refine gA 5 E<|Kfu 14 [(0,.d (Sl Lbv l)),(3,I (i3:Int)),(4,.ptr 0 0),(9,.d (Sl Lbv l)),(10,I (l.length:Int)),(11,I (i3:Int)),(79,B ((!((x5.Kind:Int)==1))&&(((!((x5.Node:Str)==[]))||(!((x5.Posture:Str)==[])))||((x5.Long:Int) != 0))))] [.box 180 [I x5.At,S x5.Key,S x5.By,I x5.Kind,S x5.Node,S x5.Posture,I x5.Long]] ?_ ?_
   ·refine Krc E E (fun hb=>?_) (fun hb=>?_)
    ·refine gO 4 E<|Kfu 4 [(0,.d (Sl Lbv l)),(3,I (i3:Int)),(4,.ptr 0 0),(9,.d (Sl Lbv l)),(10,I (l.length:Int)),(11,I (i3:Int)),(65,B true),(73,B ((!((x5.Node:Str)==[]))||(!((x5.Posture:Str)==[]))))] [.box 180 [I x5.At,S x5.Key,S x5.By,I x5.Kind,S x5.Node,S x5.Posture,I x5.Long]] ?_ ?_
     ·refine Krc E E (fun hb=>?_) (fun hb=>?_)
      ·exact gO 5 E<|⟨⟨E,E,E,E,E,E,E,Ker E (or_t hb),tV⟩,[],E,.inl E⟩
      exact gO 5 E<|⟨⟨E,E,E,E,E,E,E,Ker E (or_f hb),tV⟩,[],E,.inl E⟩
     refine gO 1 E<|Kfu 4 [(0,.d (Sl Lbv l)),(3,I (i3:Int)),(4,.ptr 0 0),(9,.d (Sl Lbv l)),(10,I (l.length:Int)),(11,I (i3:Int)),(65,B true),(78,B (((!((x5.Node:Str)==[]))||(!((x5.Posture:Str)==[])))||((x5.Long:Int) != 0)))] [.box 180 [I x5.At,S x5.Key,S x5.By,I x5.Kind,S x5.Node,S x5.Posture,I x5.Long]] ?_ ?_
     ·refine Krc E E (fun hb=>?_) (fun hb=>?_)
      ·exact gO 5 E<|⟨⟨E,E,E,E,E,E,E,Ker E (or_t hb),tV⟩,[],E,.inl E⟩
      exact gO 5 E<|⟨⟨E,E,E,E,E,E,E,Ker E (or_f hb),tV⟩,[],E,.inl E⟩
     exact gO 2 E<|⟨⟨E,E,E,E,E,E,Ker E (Kho hb),tV⟩,[],E,.inl E⟩
    exact gO 15 E<|⟨⟨E,E,E,E,E,E,Ker E (Khp hb),tV⟩,[],E,.inl E⟩
   refine gO 3 E<|jC E h63 (fun h64=>?_) fun h67=>bK h67 fun q68 hq68 h69=>gA 1 E<|Kjt [(0,.d (Sl Lbv l)),(9,.d (Sl Lbv l)),(10,I (l.length:Int)),(11,I (i3:Int)),(80,B q68)] [.box 180 [I x5.At,S x5.Key,S x5.By,I x5.Kind,S x5.Node,S x5.Posture,I x5.Long]] ?_ ?_
   ·refine gA 9 E<|bK h64 fun v65 hv65 h66=>?_
    cases h66
    obtain rfl:=hout12 _ rfl
    cases h7
    exact gA 4 E<|oSi hv65▸gP E E
   ·refine jD<|gA 3 E<|Kdy E E (fun hb=>?_) (fun hb=>?_)
    ·have h70:=cT hq68 hb
     exact bK h70 fun x71 hx71 h72=>Kfm hΓ 3 E<|Kes E E (Kgf hΓ (enc:=Lbv) hx71 E E E E E (fun _=>E))<|bK h72 fun y73 hy73 h74=>Kfm hΓ 2 E<|Kgx C (Lef hy73) E E E E E E E<|Kfm hΓ 4 E<|oSi h74▸⟨⟨E,E,E,E,E,tV⟩,[],E,.inl E⟩
    have h75:=cF hq68 hb
    exact Kfm hΓ 11 E<|oSi h75▸⟨⟨E,E,E,E,E,tV⟩,[],E,.inl E⟩
   refine gA 1 E<|jC E h69 (fun h76=>?_) fun h79=>gA 8 E ?_
   ·refine gA 9 E<|bK h76 fun v77 hv77 h78=>?_
    cases h78
    obtain rfl:=hout12 _ rfl
    cases h7
    exact gA 4 E<|oSi hv77▸gP E E
   cases h79
   exact⟨_,E,⟨⟨E,E,E,Keq E (Kep (nLl hlt hb9)),tV⟩,[_],E,.inr ⟨HB.mk E,FB.mk E,Z⟩⟩⟩
  subst hgo
  exact gA 6 E<|Kfq E (dF (Int.lt_irrefl _))<|gA 4 E<|⟨_,E,⟨tV,[],E,.inl E⟩⟩
 intro a8 ha
 subst ha
 replace h7:=Kjn h7
 exact gA 7 E<|oSi h7▸gP E E
theorem Leh{vals:List Int}{r:Int}(h:Kyv vals=some r):Pure Tryz.prog 23 [.d (Sl (eN .i64) vals)] (I r):=by
 unfold Kyv at h
 refine QP Tryz.func23 E E E<|gA 18 E<|bK h fun q4 hq4 h5=>Kge 6 E fun hb7=>Kjs (R:=fun a6=>q4=.go a6) (fun a6=>[(3,I 0)]) (fun a6=>[]) ?_ ?_
 ·refine gA 1 E<|Kgd vals hq4 (fun i1 s2=>[(3,I 0),(6,.d (Sl (eN .i64) vals)),(7,I (vals.length:Int)),(8,I (i1:Int))]) (fun s2=>[]) ⟨⟨E,E,E,E,tV⟩,[],E,.inl E⟩ (fun i1 x3 s2 y11 hx8 hlt hy9 hout10=>?_) (fun s2 hgo=>?_)
  ·refine gA 6 E<|Kfp E (dT (Int.ofNat_lt.2 hlt))<|gA 6 E<|eo_o E (Kgf hΓ (enc:=(eN .i64)) (Kfy hx8) E E E E E (fun _=>E))<|gO 11 E<|jC E hy9 (fun h12=>?_) fun h15=>gA 7 E ?_
   ·refine gA 9 E<|bK h12 fun v13 hv13 h14=>?_
    cases h14
    obtain rfl:=hout10 _ rfl
    cases h5
    exact gA 4 E<|oSi hv13▸gP E E
   cases h15
   exact⟨_,E,⟨⟨E,E,E,Keq E (Kep (nLl hlt hb7)),tV⟩,[],E,.inl E⟩⟩
  subst hgo
  exact gA 6 E<|Kfq E (dF (Int.lt_irrefl _))<|gA 4 E<|⟨_,E,⟨⟨E,tV⟩,[],E,.inl E⟩⟩
 intro a6 ha
 subst ha
 replace h5:=Kjn h5
 exact gA 8 E<|oSi h5▸gP E E
theorem Lei{v_at:Int}{r:Int}(h:Kyw v_at=some r):Pure Tryz.prog 28 [I v_at] (I r):=by
 unfold Kyw at h
 refine QP Tryz.func28 E E E<|bK h fun y1 hy1 h2=>gA 9 E<|Kgv C (Lee hy1) E Z E E E E E<|gO 3 E<|jC E h2 (fun h3=>?_) fun h4=>gA 8 E<|oSi h4▸gP E E
 exact gA 7 E<|oSi h3▸gP E E
theorem Lej{st:Option (List (Value×List D)×List Nat×Nat)}{d:Kwm}{posture:Str}{r:Kwf×Bool}(h:Kyx d posture=some r):EC Tryz.prog 148 [.ptr 1 0,S posture] [mObS kS false (eH (some 0)) d.l st,.box 205 [.d (Sl Lbu d.v_r),.map 0]] fun g hp'=>g=.tup [.agg [S r.1.Posture,.d (Sl eS r.1.Approvers),I r.1.Need,I r.1.Wait,I r.1.Most],B r.2]∧hp'=[mObS kS false (eH (some 0)) d.l st,.box 205 [.d (Sl Lbu d.v_r),.map 0]]:=by
 unfold Kyx at h
 refine QN Tryz.func148 E Z<|gA 2 E<|Ksi hΓ E E E Z<|gO 14 E<|bK h fun q4 hq4 h5=>Kge 11 E fun hb7=>Kjs (R:=fun a6=>q4=.go a6) (fun a6=>[(4,.ptr 2 0)]) (fun a6=>[mObS kS false (eH (some 0)) d.l st,.box 205 [.d (Sl Lbu d.v_r),.map 0],.box 178 [S [],.d (Sl eS []),I 0,I 0,I 0]]) ?_ ?_
 ·refine gA 1 E<|Kgd d.v_r hq4 (fun i1 s2=>[(1,S posture),(4,.ptr 2 0),(11,.d (Sl Lbu d.v_r)),(12,I (d.v_r.length:Int)),(13,I (i1:Int))]) (fun s2=>[mObS kS false (eH (some 0)) d.l st,.box 205 [.d (Sl Lbu d.v_r),.map 0],.box 178 [S [],.d (Sl eS []),I 0,I 0,I 0]]) ⟨⟨E,E,E,E,E,tV⟩,[],E,.inl E⟩ (fun i1 x3 s2 y11 hx8 hlt hy9 hout10=>?_) (fun s2 hgo=>?_)
  ·refine gA 6 E<|Kfp E (dT (Int.ofNat_lt.2 hlt))<|gA 6 E<|eo_o E (Kgf hΓ (enc:=Lbu) (Kfy hx8) E E E E E (fun _=>E))<|gO 1 E<|Ksi hΓ E E E Z<|Ksn hΓ E E E E E E E E Z<|Khd [mObS kS false (eH (some 0)) d.l st,.box 205 [.d (Sl Lbu d.v_r),.map 0],.box 178 [S [],.d (Sl eS []),I 0,I 0,I 0],.box 178 [S x3.Posture,.d (Sl eS x3.Approvers),I x3.Need,I x3.Wait,I x3.Most]] E<|gO 10 E<|jC E hy9 (fun h12=>?_) fun h15=>gA 7 E ?_
   ·refine gA 3 E<|Ksn hΓ E E E E E E E E Z<|Khd [mObS kS false (eH (some 0)) d.l st,.box 205 [.d (Sl Lbu d.v_r),.map 0],.box 178 [S x3.Posture,.d (Sl eS x3.Approvers),I x3.Need,I x3.Wait,I x3.Most],.box 178 [S x3.Posture,.d (Sl eS x3.Approvers),I x3.Need,I x3.Wait,I x3.Most]] E<|gO 6 E<|bK h12 fun v13 hv13 h14=>?_
    cases h14
    obtain rfl:=hout10 _ rfl
    cases h5
    exact gA 4 E<|oSi hv13▸Khi hΓ [_,_] (.inr E) E E E E (.inr ⟨HB.mk E,E⟩)
   cases h15
   exact⟨_,E,⟨⟨E,E,E,E,Keq E (Kep (nLl hlt hb7)),tV⟩,[_],E,.inr ⟨HB.mk E,FB.mk E,Z⟩⟩⟩
  subst hgo
  exact gA 6 E<|Kfq E (dF (Int.lt_irrefl _))<|gA 4 E<|⟨_,E,⟨⟨E,tV⟩,[],E,.inl E⟩⟩
 intro a6 ha
 subst ha
 replace h5:=Kjn h5
 exact gA 3 E<|Kdo hΓ (gs:=[S [],.d (Sl eS []),I 0,I 0,I 0]) E E E E E E E<|Ksn hΓ E E E E E E E E Z<|Khd [mObS kS false (eH (some 0)) d.l st,.box 205 [.d (Sl Lbu d.v_r),.map 0],.box 178 [S [],.d (Sl eS []),I 0,I 0,I 0]] E<|gO 4 E<|oSi h5▸Khi hΓ [_] (.inr E) E E E E (.inr ⟨HB.mk E,E⟩)
theorem Lek{d:Kwm}{a:Kwg}{al:BagT}{r:Int×Kwm×BagT}(h:Kyy d a al=some r):EC Tryz.prog 203 [.ptr 1 0,.agg [I a.At,S a.Key,S a.By,I a.Kind,S a.Node,S a.Posture,I a.Long]] [mObH d.l,.box 205 [.d (Sl Lbu d.v_r),.map 0],bg al] fun g hp'=>g=I r.1∧hp'=[mObH r.2.1.l,.box 205 [.d (Sl Lbu r.2.1.v_r),.map 0],bg r.2.2]:=by
 unfold Kyy at h
 refine QM Tryz.func203 E Z<|gA 2 E<|Ksj E E E E Z<|gO 4 E<|jD<|gA 6 E<|gl_o E (Kmu hΓ (kv:=kS) (agg:=false) (enc:=(eH (some 0))) d.l a.Key (0:Nat) E E E E Kks E E E (Kmt E) E)<|Kfm hΓ 11 E<|Kfo E (fun hb=>?_) (fun hb=>?_)
 ·have h1:=cT h hb
  refine bK h1 fun y2 hy2 h3=>gA 5 E<|Kgu [0,1] (.tup [.agg [S y2.1.Posture,.d (Sl eS y2.1.Approvers),I y2.1.Need,I y2.1.Wait,I y2.1.Most],B y2.2]) [mObH d.l,.box 205 [.d (Sl Lbu d.v_r),.map 0],bg al,.box 180 [I a.At,S a.Key,S a.By,I a.Kind,S a.Node,S a.Posture,I a.Long]] C (Lej hy2) E Z E E E E E E E E E E<|gO 3 E<|Ksi hΓ E E E Z<|Ksn hΓ E E E E E E E E Z<|Khd [mObH d.l,.box 205 [.d (Sl Lbu d.v_r),.map 0],bg al,.box 180 [I a.At,S a.Key,S a.By,I a.Kind,S a.Node,S a.Posture,I a.Long],.box 178 [S y2.1.Posture,.d (Sl eS y2.1.Approvers),I y2.1.Need,I y2.1.Wait,I y2.1.Most]] E<|gO 8 E<|eo_o E ((Kmy hΓ E E E E).2)<|gO 3 E<|jC E h3 (fun h4=>?_) fun h5=>gA 7 E<|jC E h5 (fun h6=>?_) fun h7=>?_
  ·exact gA 9 E<|Kjp<|oSi h4▸Khi hΓ [_,_] (.inr E) E E E E (.inr ⟨HB.mk E,E⟩)
  ·exact gA 9 E<|Kjp<|oSi h6▸Khi hΓ [_,_] (.inr E) E E E E (.inr ⟨HB.mk E,E⟩)
  refine gA 10 E<|jC E h7 (fun h8=>?_) fun h9=>gA 4 E<|Kit [.dead,.box 205 [.d (Sl Lbu d.v_r),.map 0],.dead,.box 180 [I a.At,S a.Key,S a.By,I a.Kind,S a.Node,S a.Posture,I a.Long]] [3,5,7,9,11,13,16,18] [20,21] [] hmix (by kernel_rfl) (by kernel_rfl) ⟨E,E,tV⟩ Z<|go_E hΓ 14 E<|ge_q E (.inl E) (fun _ _=>Kiv (qt_p (Kjk hΓ (gs:=[S a.Key,S a.By,S a.Node,S a.Posture,I 0,I 0,I 0,I 0]) E E E E E E)))<|go_E hΓ 4 E<|ge_q E (.inl E) (fun _ _=>Kiv (qt_p (Kme (Kkh hΓ [10] (gs:=[S a.Key,S a.By,S a.Node,S a.Posture,I 0,I 0,I 0,I 0,I a.At,I a.Long,.d (.v (.slice none 0 0)),B false,B false]) E E E E E E) (g':=.agg [S a.Key,S a.By,S a.Node,S a.Posture,I 0,I 0,I 0,I 0,I a.At,I a.Long,.d (Slt 9 1 eS (1,[])),B false,B false]) (G.Le.agg ⟨.refl _,.refl _,.refl _,.refl _,.refl _,.refl _,.refl _,.refl _,.refl _,.refl _,G.Le.tagN,.refl _,.refl _,tV⟩))))<|ge_h [mObH d.l,.box 205 [.d (Sl Lbu d.v_r),.map 0],bg al,.box 180 [I a.At,S a.Key,S a.By,I a.Kind,S a.Node,S a.Posture,I a.Long],.box 178 [S y2.1.Posture,.d (Sl eS y2.1.Approvers),I y2.1.Need,I y2.1.Wait,I y2.1.Most],.box 208 [S a.Key,S a.By,S a.Node,S a.Posture,I 0,I 0,I 0,I 0,I a.At,I a.Long,.d (Slt 9 1 eS (1,[])),B false,B false]] E E E (Kjc ⟨E,E,tV⟩) (Kjf (Kjj E E E))<|Kja [mObH (mSet d.l a.Key (al.1.length+1)),.box 205 [.d (Sl Lbu d.v_r),.map 0],.bag (al.1++[false]) (arX al.2.1 ((al.1.length,(⟨(⟨a.Key,a.By,a.Node,a.Posture,0,0,0,0⟩:Kwk),a.At,a.Long,(1,[]),false,false⟩:Kwn)) :: al.2.2)) [],.box 180 [I a.At,S a.Key,S a.By,I a.Kind,S a.Node,S a.Posture,I a.Long],.box 178 [S y2.1.Posture,.d (Sl eS y2.1.Approvers),I y2.1.Need,I y2.1.Wait,I y2.1.Most],.dead] E E (Kjc ⟨E,E,tV⟩) (Kjg (Klq (Kmn (hp2:=[mObH d.l,.box 205 [.d (Sl Lbu d.v_r),.map 0],.bag (al.1++[false]) (arX al.2.1 ((al.1.length,(⟨(⟨a.Key,a.By,a.Node,a.Posture,0,0,0,0⟩:Kwk),a.At,a.Long,(1,[]),false,false⟩:Kwn)) :: al.2.2)) [],.box 180 [I a.At,S a.Key,S a.By,I a.Kind,S a.Node,S a.Posture,I a.Long],.box 178 [S y2.1.Posture,.d (Sl eS y2.1.Approvers),I y2.1.Need,I y2.1.Wait,I y2.1.Most],.dead]) (bg:=2) (id:=5) (a:=(fB 208 Lca) al.1.length (⟨(⟨a.Key,a.By,a.Node,a.Posture,0,0,0,0⟩:Kwk),a.At,a.Long,(1,[]),false,false⟩:Kwn)) [(61,some 0)] ⟨E,tV⟩ E E ⟨E,E⟩ E E (Kms _ Kmq) E E) (Klc hΓ (kv:=kS) (agg:=false) (enc:=(eH (some 0))) (id:=0) d.l a.Key (al.1.length+1) E E E Kks E E E E E) Z))<|Kiu<|gA 8 E<|Kjp<|oSi h9▸Khi hΓ [_,_,_] (.inr E) E E E E (.inr ⟨HB.mk E,E⟩)
  exact gA 9 E<|Kjp<|oSi h8▸Khi hΓ [_,_] (.inr E) E E E E (.inr ⟨HB.mk E,E⟩)
 have h10:=cF h hb
 refine gA 6 E<|eo_o E ((Kmy hΓ E E E E).1)<|gO 2 E<|Kfo E (fun hb=>?_) (fun hb=>?_)
 ·have h11:=cT h10 hb
  exact gA 7 E<|Kjp<|oSi h11▸Khi hΓ [_] (.inr E) E E E E (.inr ⟨HB.mk E,E⟩)
 have h12:=cF h10 hb
 refine gK h12 fun hg14 h13=>gA 6 E<|eo_o E (Knc hg14 E)<|eo_o E (Knd hΓ hg14 E E E E E E)<|eo_o E (Knd hΓ hg14 E E E E E E)<|bK h13 fun m15 hm15 h16=>eo_o E (Kne hΓ (enc:=Lca) (bg:=2) m15 E E (ArU.r _ (Kmp (fun _ _=>E) hm15 m15)) E (g:=S m15.Request.Posture) E E)<|bK h16 fun y17 hy17 h18=>Kgu [0,1] (.tup [.agg [S y17.1.Posture,.d (Sl eS y17.1.Approvers),I y17.1.Need,I y17.1.Wait,I y17.1.Most],B y17.2]) [mObH d.l,.box 205 [.d (Sl Lbu d.v_r),.map 0],bg al,.box 180 [I a.At,S a.Key,S a.By,I a.Kind,S a.Node,S a.Posture,I a.Long]] C (Lej hy17) E Z E E E E E E E E E E<|gO 3 E<|Ksi hΓ E E E Z<|Ksn hΓ E E E E E E E E Z<|Khd [mObH d.l,.box 205 [.d (Sl Lbu d.v_r),.map 0],bg al,.box 180 [I a.At,S a.Key,S a.By,I a.Kind,S a.Node,S a.Posture,I a.Long],.box 178 [S y17.1.Posture,.d (Sl eS y17.1.Approvers),I y17.1.Need,I y17.1.Wait,I y17.1.Most]] E<|bK h18 fun y19 hy19 h20=>gO 9 E<|Kgv C (Lde hy19) E Z E E E E E<|bK h20 fun q21 hq21 h22=>gO 4 E<|Kjt [(3,.ptr 3 0),(5,.d (.hd (some 0) ((mGet d.l a.Key).getD 0))),(8,.ptr 4 0),(10,B y19),(11,B q21)] [mObH d.l,.box 205 [.d (Sl Lbu d.v_r),.map 0],bg al,.box 180 [I a.At,S a.Key,S a.By,I a.Kind,S a.Node,S a.Posture,I a.Long],.box 178 [S y17.1.Posture,.d (Sl eS y17.1.Approvers),I y17.1.Need,I y17.1.Wait,I y17.1.Most]] ?_ ?_
 ·refine jD<|gK hq21 fun hg24 h23=>gA 1 E<|gl_o E (Knc hg24 E)<|gl_o E (Knd hΓ hg24 E E E E E E)<|bK h23 fun m25 hm25 h26=>gl_o E (Kne hΓ (enc:=Lca) (bg:=2) m25 E E (ArU.r _ (Kmp (fun _ _=>E) hm25 m25)) E (g:=B m25.given) E E)<|Kfm hΓ 2 E<|Kdy E E (fun hb=>?_) (fun hb=>?_)
  ·have h27:=cT h26 hb
   refine gK h27 fun hg29 h28=>Kfm hΓ 1 E<|Kes E E (Knc hg29 E)<|Kes E E (Knd hΓ hg29 E E E E E E)<|bK h28 fun m30 hm30 h31=>Kes E E (Kne hΓ (enc:=Lca) (bg:=2) m30 E E (ArU.r _ (Kmp (fun _ _=>E) hm30 m30)) E (g:=B m30.denied) E E)<|Kfm hΓ 3 E<|Kdy E E (fun hb=>?_) (fun hb=>?_)
   ·have h32:=cT h31 hb
    exact gK h32 fun hg34 h33=>Kfm hΓ 3 E<|Kes E E (Knc hg34 E)<|Kes E E (Knd hΓ hg34 E E E E E E)<|bK h33 fun m35 hm35 h36=>Kes E E (Kne hΓ (enc:=Lca) (bg:=2) m35 E E (ArU.r _ (Kmp (fun _ _=>E) hm35 m35)) E (g:=I m35.asked) E E)<|Kfm hΓ 7 E<|oSi h36▸⟨⟨E,E,E,E,E,tV⟩,[],E,.inl E⟩
   have h37:=cF h31 hb
   exact Kfm hΓ 13 E<|oSi h37▸⟨⟨E,E,E,E,E,tV⟩,[],E,.inl E⟩
  have h38:=cF h26 hb
  exact Kfm hΓ 20 E<|oSi h38▸⟨⟨E,E,E,E,E,tV⟩,[],E,.inl E⟩
 refine bK h22 fun q39 hq39 h40=>gA 2 E<|Kjv (q:=q39) (fun a41=>[]) (fun a41=>[mObH d.l,.box 205 [.d (Sl Lbu d.v_r),.map 0],bg a41,.box 180 [I a.At,S a.Key,S a.By,I a.Kind,S a.Node,S a.Posture,I a.Long],.box 178 [S y17.1.Posture,.d (Sl eS y17.1.Approvers),I y17.1.Need,I y17.1.Wait,I y17.1.Most]]) ?_ ?_
 ·refine bK hq39 fun q42 hq42 h43=>gA 2 E<|Kjt [(3,.ptr 3 0),(5,.d (.hd (some 0) ((mGet d.l a.Key).getD 0))),(8,.ptr 4 0),(10,B y19),(11,B q21),(143,B q42)] [mObH d.l,.box 205 [.d (Sl Lbu d.v_r),.map 0],bg al,.box 180 [I a.At,S a.Key,S a.By,I a.Kind,S a.Node,S a.Posture,I a.Long],.box 178 [S y17.1.Posture,.d (Sl eS y17.1.Approvers),I y17.1.Need,I y17.1.Wait,I y17.1.Most]] ?_ ?_
  ·refine jD<|gA 4 E<|Kdy E E (fun hb=>?_) (fun hb=>?_)
   ·have h44:=cT hq42 hb
    refine gK h44 fun hg46 h45=>Kfm hΓ 1 E<|Kes E E (Knc hg46 E)<|Kes E E (Knd hΓ hg46 E E E E E E)<|bK h45 fun m47 hm47 h48=>Kes E E (Kne hΓ (enc:=Lca) (bg:=2) m47 E E (ArU.r _ (Kmp (fun _ _=>E) hm47 m47)) E (g:=B m47.given) E E)<|Kfm hΓ 2 E<|Kdy E E (fun hb=>?_) (fun hb=>?_)
    ·have h49:=cT h48 hb
     exact Kfm hΓ 12 E<|oSi h49▸⟨⟨E,E,E,E,E,E,tV⟩,[],E,.inl E⟩
    have h50:=cF h48 hb
    exact gK h50 fun hg52 h51=>Kfm hΓ 3 E<|Kes E E (Knc hg52 E)<|Kes E E (Knd hΓ hg52 E E E E E E)<|Kes E E (Knd hΓ hg52 E E E E E E)<|bK h51 fun m53 hm53 h54=>Kes E E (Kne hΓ (enc:=Lca) (bg:=2) m53 E E (ArU.r _ (Kmp (fun _ _=>E) hm53 m53)) E (g:=I m53.Request.To) E E)<|Kfm hΓ 5 E<|oSi h54▸⟨⟨E,E,E,E,E,E,tV⟩,[],E,.inl E⟩
   have h55:=cF hq42 hb
   exact Kfm hΓ 18 E<|oSi h55▸⟨⟨E,E,E,E,E,E,tV⟩,[],E,.inl E⟩
  refine gA 1 E<|Kfo E (fun hb=>?_) (fun hb=>?_)
  ·have h56:=cT h43 hb
   refine gA 7 E<|bK h56 fun v57 hv57 h58=>?_
   cases h58
   cases h40
   exact gA 2 E<|Kjp<|oSi hv57▸Khi hΓ [_,_] (.inr E) E E E E (.inr ⟨HB.mk E,E⟩)
  have h59:=cF h43 hb
  refine gA 6 E<|Kfu 3 [(3,.ptr 3 0),(5,.d (.hd (some 0) ((mGet d.l a.Key).getD 0))),(8,.ptr 4 0),(10,B y19),(171,B (((a.Kind:Int) != 4)&&(!q21)))] [mObH d.l,.box 205 [.d (Sl Lbu d.v_r),.map 0],bg al,.box 180 [I a.At,S a.Key,S a.By,I a.Kind,S a.Node,S a.Posture,I a.Long],.box 178 [S y17.1.Posture,.d (Sl eS y17.1.Approvers),I y17.1.Need,I y17.1.Wait,I y17.1.Most]] ?_ ?_
  ·refine Krc E E (fun hb=>?_) (fun hb=>?_)
   ·exact gO 4 E<|⟨⟨E,E,E,E,Ker E (Kho hb),tV⟩,[],E,.inl E⟩
   exact gO 4 E<|⟨⟨E,E,E,E,Ker E (Khp hb),tV⟩,[],E,.inl E⟩
  refine gO 3 E<|jC E h59 (fun h60=>?_) fun h63=>bK h63 fun q64 hq64 h65=>gA 1 E<|Kjt [(3,.ptr 3 0),(5,.d (.hd (some 0) ((mGet d.l a.Key).getD 0))),(8,.ptr 4 0),(172,B q64)] [mObH d.l,.box 205 [.d (Sl Lbu d.v_r),.map 0],bg al,.box 180 [I a.At,S a.Key,S a.By,I a.Kind,S a.Node,S a.Posture,I a.Long],.box 178 [S y17.1.Posture,.d (Sl eS y17.1.Approvers),I y17.1.Need,I y17.1.Wait,I y17.1.Most]] ?_ ?_
  ·refine gA 7 E<|bK h60 fun v61 hv61 h62=>?_
   cases h62
   cases h40
   exact gA 2 E<|Kjp<|oSi hv61▸Khi hΓ [_,_] (.inr E) E E E E (.inr ⟨HB.mk E,E⟩)
  ·refine jD<|gA 4 E<|Kdy E E (fun hb=>?_) (fun hb=>?_)
   ·have h66:=cT hq64 hb
    refine Kfm hΓ 3 E<|Kdy E E (fun hb=>?_) (fun hb=>?_)
    ·have h67:=cT h66 hb
     exact Kfm hΓ 31 E<|oSi h67▸⟨⟨E,E,E,E,tV⟩,[],E,.inl E⟩
    have h68:=cF h66 hb
    refine gK h68 fun hg70 h69=>Kfm hΓ 3 E<|Kes E E (Knc hg70 E)<|Kes E E (Knd hΓ hg70 E E E E E E)<|Kes E E (Knd hΓ hg70 E E E E E E)<|bK h69 fun m71 hm71 h72=>Kes E E (Kne hΓ (enc:=Lca) (bg:=2) m71 E E (ArU.r _ (Kmp (fun _ _=>E) hm71 m71)) E (g:=S m71.Request.By) E E)<|Kfm hΓ 4 E<|Kdy E E (fun hb=>?_) (fun hb=>?_)
    ·have h73:=cT h72 hb
     exact Kfm hΓ 20 E<|oSi h73▸⟨⟨E,E,E,E,tV⟩,[],E,.inl E⟩
    have h74:=cF h72 hb
    refine Kfm hΓ 4 E<|Kdy E E (fun hb=>?_) (fun hb=>?_)
    ·have h75:=cT h74 hb
     refine Kfm hΓ 4 E<|Kdy E E (fun hb=>?_) (fun hb=>?_)
     ·have h76:=cT h75 hb
      exact gK h76 fun hg78 h77=>Kfm hΓ 3 E<|Kes E E (Knc hg78 E)<|Kes E E (Knd hΓ hg78 E E E E E E)<|Kes E E (Knd hΓ hg78 E E E E E E)<|bK h77 fun m79 hm79 h80=>Kes E E (Kne hΓ (enc:=Lca) (bg:=2) m79 E E (ArU.r _ (Kmp (fun _ _=>E) hm79 m79)) E (g:=S m79.Request.By) E E)<|Kfm hΓ 5 E<|oSi h80▸⟨⟨E,E,E,E,tV⟩,[],E,.inl E⟩
     have h81:=cF h75 hb
     exact Kfm hΓ 12 E<|oSi h81▸⟨⟨E,E,E,E,tV⟩,[],E,.inl E⟩
    have h82:=cF h74 hb
    exact Kfm hΓ 16 E<|oSi h82▸⟨⟨E,E,E,E,tV⟩,[],E,.inl E⟩
   have h83:=cF hq64 hb
   refine Kfm hΓ 18 E<|Kdy E E (fun hb=>?_) (fun hb=>?_)
   ·have h84:=cT h83 hb
    refine Kfm hΓ 4 E<|Kdy E E (fun hb=>?_) (fun hb=>?_)
    ·have h85:=cT h84 hb
     exact gK h85 fun hg87 h86=>Kfm hΓ 3 E<|Kes E E (Knc hg87 E)<|Kes E E (Knd hΓ hg87 E E E E E E)<|Kes E E (Knd hΓ hg87 E E E E E E)<|bK h86 fun m88 hm88 h89=>Kes E E (Kne hΓ (enc:=Lca) (bg:=2) m88 E E (ArU.r _ (Kmp (fun _ _=>E) hm88 m88)) E (g:=S m88.Request.By) E E)<|Kfm hΓ 5 E<|oSi h89▸⟨⟨E,E,E,E,tV⟩,[],E,.inl E⟩
    have h90:=cF h84 hb
    exact Kfm hΓ 12 E<|oSi h90▸⟨⟨E,E,E,E,tV⟩,[],E,.inl E⟩
   have h91:=cF h83 hb
   exact Kfm hΓ 16 E<|oSi h91▸⟨⟨E,E,E,E,tV⟩,[],E,.inl E⟩
  refine gA 1 E<|jC E h65 (fun h92=>?_) fun h95=>gA 8 E<|jC E h95 (fun h96=>?_) fun h101=>?_
  ·refine gA 7 E<|bK h92 fun v93 hv93 h94=>?_
   cases h94
   cases h40
   exact gA 2 E<|Kjp<|oSi hv93▸Khi hΓ [_,_] (.inr E) E E E E (.inr ⟨HB.mk E,E⟩)
  ·refine gK h96 fun hg98 h97=>gA 4 E<|eo_o E (Knc hg98 E)<|eo_o E (Knd hΓ hg98 E E E E E E)<|eo_o E (Knd hΓ hg98 E E E E E E)<|bK h97 fun m99 hm99 h100=>eo_u Z (Knf hΓ (enc:=Lca) (bg:=2) m99 (⟨(⟨m99.Request.Key,m99.Request.By,m99.Request.Node,m99.Request.Posture,m99.Request.State,m99.Request.Yes,m99.Request.From,a.At⟩:Kwk),m99.asked,m99.long,m99.yes,m99.denied,m99.given⟩:Kwn) E E (ArU.r _ (Kmp (fun _ _=>E) hm99 (⟨(⟨m99.Request.Key,m99.Request.By,m99.Request.Node,m99.Request.Posture,m99.Request.State,m99.Request.Yes,m99.Request.From,a.At⟩:Kwk),m99.asked,m99.long,m99.yes,m99.denied,m99.given⟩:Kwn))) E E (by intro e;cases e) E E E E E E E) ?_
   exact Khd [mObH d.l,.box 205 [.d (Sl Lbu d.v_r),.map 0],.bag al.1 (arX al.2.1 (hSet al.2.2 ((mGet d.l a.Key).getD 0) (⟨(⟨m99.Request.Key,m99.Request.By,m99.Request.Node,m99.Request.Posture,m99.Request.State,m99.Request.Yes,m99.Request.From,a.At⟩:Kwk),m99.asked,m99.long,m99.yes,m99.denied,m99.given⟩:Kwn))) [],.box 180 [I a.At,S a.Key,S a.By,I a.Kind,S a.Node,S a.Posture,I a.Long],.box 178 [S y17.1.Posture,.d (Sl eS y17.1.Approvers),I y17.1.Need,I y17.1.Wait,I y17.1.Most]] E<|gO 2 E<|oSi h100▸⟨_,E,⟨tV,[],E,.inl E⟩⟩
  refine gA 8 E<|jC E h101 (fun h102=>?_) fun h107=>gA 1 E<|jD<|gK h107 fun hg109 h108=>gA 1 E<|gl_o E (Knc hg109 E)<|gl_o E (Knd hΓ hg109 E E E E E E)<|bK h108 fun m110 hm110 h111=>gl_o E (Kme (Kne hΓ (enc:=Lca) (bg:=2) m110 E E (ArU.r _ (Kmp (fun _ _=>E) hm110 m110)) E (g:=.d (Slt 9 1 eS m110.yes)) E E) G.Le.unt)<|bK h111 fun y112 hy112 h113=>Kfm hΓ 2 E<|Kgw C (Lde hy112) E E E E E E<|Kfm hΓ 3 E<|jC E h113 (fun h114=>?_) fun h117=>?_
  ·refine gK h102 fun hg104 h103=>gA 2 E<|eo_o E (Knc hg104 E)<|eo_o E (Knd hΓ hg104 E E E E E E)<|bK h103 fun m105 hm105 h106=>eo_u Z (Knf hΓ (enc:=Lca) (bg:=2) m105 (⟨m105.Request,m105.asked,m105.long,m105.yes,true,m105.given⟩:Kwn) E E (ArU.r _ (Kmp (fun _ _=>E) hm105 (⟨m105.Request,m105.asked,m105.long,m105.yes,true,m105.given⟩:Kwn))) E E (by intro e;cases e) E E E E E E E) ?_
   exact Khd [mObH d.l,.box 205 [.d (Sl Lbu d.v_r),.map 0],.bag al.1 (arX al.2.1 (hSet al.2.2 ((mGet d.l a.Key).getD 0) (⟨m105.Request,m105.asked,m105.long,m105.yes,true,m105.given⟩:Kwn))) [],.box 180 [I a.At,S a.Key,S a.By,I a.Kind,S a.Node,S a.Posture,I a.Long],.box 178 [S y17.1.Posture,.d (Sl eS y17.1.Approvers),I y17.1.Need,I y17.1.Wait,I y17.1.Most]] E<|gO 2 E<|oSi h106▸⟨_,E,⟨tV,[],E,.inl E⟩⟩
  ·refine gA 7 E<|bK h114 fun v115 hv115 h116=>?_
   cases h116
   cases h40
   exact gA 2 E<|Kjp<|oSi hv115▸Khi hΓ [_,_] (.inr E) E E E E (.inr ⟨HB.mk E,E⟩)
  refine gA 1 E<|Kit [.dead,.dead,bg al,.box 180 [I a.At,S a.Key,S a.By,I a.Kind,S a.Node,S a.Posture,I a.Long]] [4,6] [8,11] [8,11] hmix (by kernel_rfl) (by kernel_rfl) ⟨E,E,tV⟩ Z<|gK h117 fun hg119 h118=>go_E hΓ 2 E<|ge_q E (.inl E) (fun _ _=>Kiv (qt_p (Knc hg119 E)))<|ge_q E (.inl E) (fun _ _=>Kiv (qt_p (Knd hΓ hg119 E E E E E E)))<|bK h118 fun m120 hm120 h121=>ge_p E (fun hp hs=>Kne hΓ (enc:=Lca) (bg:=2) m120 E (hs 2 _ E E) (ArU.r _ (Kmp (fun _ _=>E) hm120 m120)) E (g:=.d (Slt 9 1 eS m120.yes)) E E) E<|go_E hΓ 2 E<|Kji hΓ (enc:=eS) [a.By] E E E E E E E E E E E E<|bK h121 fun y122 hy122 h123=>ge_h [mObH d.l,.box 205 [.d (Sl Lbu d.v_r),.map 0],.bag y122.2 (arX al.2.1 al.2.2) [],.box 180 [I a.At,S a.Key,S a.By,I a.Kind,S a.Node,S a.Posture,I a.Long],.box 178 [S y17.1.Posture,.d (Sl eS y17.1.Approvers),I y17.1.Need,I y17.1.Wait,I y17.1.Most]] E E E (Kjb E) (Kjf (Kmd hΓ (enc:=eS) (bg:=2) hy122 E E E E E E E E (fun _=>E) E E))<|gK h123 fun hg125 h124=>ge_q E (.inl E) (fun _ _=>Kiv (qt_p (Knc hg125 E)))<|ge_q E (.inl E) (fun _ _=>Kiv (qt_p (Knd hΓ hg125 E E E E E E)))<|bK h124 fun m126 hm126 h127=>Kja [mObH d.l,.box 205 [.d (Sl Lbu d.v_r),.map 0],.bag y122.2 (arX al.2.1 (hSet al.2.2 ((mGet d.l a.Key).getD 0) (⟨m126.Request,m126.asked,m126.long,y122.1,m126.denied,m126.given⟩:Kwn))) [],.box 180 [I a.At,S a.Key,S a.By,I a.Kind,S a.Node,S a.Posture,I a.Long],.box 178 [S y17.1.Posture,.d (Sl eS y17.1.Approvers),I y17.1.Need,I y17.1.Wait,I y17.1.Most]] E E (Kjb E) (Kjg (Knf hΓ (enc:=Lca) (bg:=2) m126 (⟨m126.Request,m126.asked,m126.long,y122.1,m126.denied,m126.given⟩:Kwn) E E (ArU.r _ (Kmp (fun _ _=>E) hm126 (⟨m126.Request,m126.asked,m126.long,y122.1,m126.denied,m126.given⟩:Kwn))) E E (by intro e;cases e) E E E E E E E)) ?_
  refine Kiu<|gA 2 E<|jD<|gK h127 fun hg129 h128=>gA 1 E<|gl_o E (Knc hg129 E)<|gl_o E (Knd hΓ hg129 E E E E E E)<|bK h128 fun m130 hm130 h131=>gl_o E (Kme (Kne hΓ (enc:=Lca) (bg:=2) m130 E E (ArU.r _ (Kmp (fun _ _=>E) hm130 m130)) E (g:=.d (Slt 9 1 eS m130.yes)) E E) G.Le.unt)<|Kfm hΓ 6 E<|jC E h131 (fun h132=>?_) fun h149=>gA 2 E<|oSi h149▸⟨_,E,⟨tV,[],E,.inl E⟩⟩
  refine Kit [.dead,.dead,.dead,.box 180 [I a.At,S a.Key,S a.By,I a.Kind,S a.Node,S a.Posture,I a.Long]] [4,6] [10,15,19,23] [] hmix (by kernel_rfl) (by kernel_rfl) ⟨E,tV⟩ Z<|gK h132 fun hg134 h133=>go_E hΓ 8 E<|ge_q E (.inl E) (fun _ _=>Kiv (qt_p (Knc hg134 E)))<|ge_q E (.inl E) (fun _ _=>Kiv (qt_p (Knd hΓ hg134 E E E E E E)))<|bK h133 fun m135 hm135 h136=>ge_h [mObH d.l,.box 205 [.d (Sl Lbu d.v_r),.map 0],.bag y122.2 (arX al.2.1 (hSet al.2.2 ((mGet d.l a.Key).getD 0) (⟨m126.Request,m126.asked,m126.long,y122.1,m126.denied,m126.given⟩:Kwn))) [],.box 180 [I a.At,S a.Key,S a.By,I a.Kind,S a.Node,S a.Posture,I a.Long],.box 178 [S y17.1.Posture,.d (Sl eS y17.1.Approvers),I y17.1.Need,I y17.1.Wait,I y17.1.Most]] E E E (Kjc ⟨E,tV⟩) (Kiv (qt_p (Kne hΓ (enc:=Lca) (bg:=2) m135 E E (ArU.r _ (Kmp (fun _ _=>E) hm135 m135)) E (g:=I m135.long) E E)))<|gK h136 fun hg138 h137=>go_E hΓ 2 E<|ge_q E (.inl E) (fun _ _=>Kiv (qt_p (Knc hg138 E)))<|ge_q E (.inl E) (fun _ _=>Kiv (qt_p (Knd hΓ hg138 E E E E E E)))<|bK h137 fun m139 hm139 h140=>Kja [mObH d.l,.box 205 [.d (Sl Lbu d.v_r),.map 0],.bag y122.2 (arX al.2.1 (hSet (hSet al.2.2 ((mGet d.l a.Key).getD 0) (⟨m126.Request,m126.asked,m126.long,y122.1,m126.denied,m126.given⟩:Kwn)) ((mGet d.l a.Key).getD 0) (⟨m139.Request,m139.asked,m139.long,m139.yes,m139.denied,true⟩:Kwn))) [],.box 180 [I a.At,S a.Key,S a.By,I a.Kind,S a.Node,S a.Posture,I a.Long],.box 178 [S y17.1.Posture,.d (Sl eS y17.1.Approvers),I y17.1.Need,I y17.1.Wait,I y17.1.Most]] E E (Kjc ⟨E,tV⟩) (Kjg (Knf hΓ (enc:=Lca) (bg:=2) m139 (⟨m139.Request,m139.asked,m139.long,m139.yes,m139.denied,true⟩:Kwn) E E (ArU.r _ (Kmp (fun _ _=>E) hm139 (⟨m139.Request,m139.asked,m139.long,m139.yes,m139.denied,true⟩:Kwn))) E E (by intro e;cases e) E E E E E E E)) ?_
  refine gK h140 fun hg142 h141=>ge_q E (.inl E) (fun _ _=>Kiv (qt_p (Knc hg142 E)))<|ge_q E (.inl E) (fun _ _=>Kiv (qt_p (Knd hΓ hg142 E E E E E E)))<|ge_q E (.inl E) (fun _ _=>Kiv (qt_p (Knd hΓ hg142 E E E E E E)))<|bK h141 fun m143 hm143 h144=>Kja [mObH d.l,.box 205 [.d (Sl Lbu d.v_r),.map 0],.bag y122.2 (arX al.2.1 (hSet (hSet (hSet al.2.2 ((mGet d.l a.Key).getD 0) (⟨m126.Request,m126.asked,m126.long,y122.1,m126.denied,m126.given⟩:Kwn)) ((mGet d.l a.Key).getD 0) (⟨m139.Request,m139.asked,m139.long,m139.yes,m139.denied,true⟩:Kwn)) ((mGet d.l a.Key).getD 0) (⟨(⟨m143.Request.Key,m143.Request.By,m143.Request.Node,m143.Request.Posture,m143.Request.State,m143.Request.Yes,a.At,m143.Request.To⟩:Kwk),m143.asked,m143.long,m143.yes,m143.denied,m143.given⟩:Kwn))) [],.box 180 [I a.At,S a.Key,S a.By,I a.Kind,S a.Node,S a.Posture,I a.Long],.box 178 [S y17.1.Posture,.d (Sl eS y17.1.Approvers),I y17.1.Need,I y17.1.Wait,I y17.1.Most]] E E (Kjc ⟨E,tV⟩) (Kjg (Knf hΓ (enc:=Lca) (bg:=2) m143 (⟨(⟨m143.Request.Key,m143.Request.By,m143.Request.Node,m143.Request.Posture,m143.Request.State,m143.Request.Yes,a.At,m143.Request.To⟩:Kwk),m143.asked,m143.long,m143.yes,m143.denied,m143.given⟩:Kwn) E E (ArU.r _ (Kmp (fun _ _=>E) hm143 (⟨(⟨m143.Request.Key,m143.Request.By,m143.Request.Node,m143.Request.Posture,m143.Request.State,m143.Request.Yes,a.At,m143.Request.To⟩:Kwk),m143.asked,m143.long,m143.yes,m143.denied,m143.given⟩:Kwn))) E E (by intro e;cases e) E E E E E E E)) ?_
  refine gK h144 fun hg146 h145=>ge_q E (.inl E) (fun _ _=>Kiv (qt_p (Knc hg146 E)))<|ge_q E (.inl E) (fun _ _=>Kiv (qt_p (Knd hΓ hg146 E E E E E E)))<|ge_q E (.inl E) (fun _ _=>Kiv (qt_p (Knd hΓ hg146 E E E E E E)))<|bK h145 fun m147 hm147 h148=>Kja [mObH d.l,.box 205 [.d (Sl Lbu d.v_r),.map 0],.bag y122.2 (arX al.2.1 (hSet (hSet (hSet (hSet al.2.2 ((mGet d.l a.Key).getD 0) (⟨m126.Request,m126.asked,m126.long,y122.1,m126.denied,m126.given⟩:Kwn)) ((mGet d.l a.Key).getD 0) (⟨m139.Request,m139.asked,m139.long,m139.yes,m139.denied,true⟩:Kwn)) ((mGet d.l a.Key).getD 0) (⟨(⟨m143.Request.Key,m143.Request.By,m143.Request.Node,m143.Request.Posture,m143.Request.State,m143.Request.Yes,a.At,m143.Request.To⟩:Kwk),m143.asked,m143.long,m143.yes,m143.denied,m143.given⟩:Kwn)) ((mGet d.l a.Key).getD 0) (⟨(⟨m147.Request.Key,m147.Request.By,m147.Request.Node,m147.Request.Posture,m147.Request.State,m147.Request.Yes,m147.Request.From,(if 345686400<(wi (a.At+m135.long)) then 345686400 else wi (a.At+m135.long))⟩:Kwk),m147.asked,m147.long,m147.yes,m147.denied,m147.given⟩:Kwn))) [],.box 180 [I a.At,S a.Key,S a.By,I a.Kind,S a.Node,S a.Posture,I a.Long],.box 178 [S y17.1.Posture,.d (Sl eS y17.1.Approvers),I y17.1.Need,I y17.1.Wait,I y17.1.Most]] E E (Kjc ⟨E,tV⟩) (Kjg (Knf hΓ (enc:=Lca) (bg:=2) m147 (⟨(⟨m147.Request.Key,m147.Request.By,m147.Request.Node,m147.Request.Posture,m147.Request.State,m147.Request.Yes,m147.Request.From,(if 345686400<(wi (a.At+m135.long)) then 345686400 else wi (a.At+m135.long))⟩:Kwk),m147.asked,m147.long,m147.yes,m147.denied,m147.given⟩:Kwn) E E (ArU.r _ (Kmp (fun _ _=>E) hm147 (⟨(⟨m147.Request.Key,m147.Request.By,m147.Request.Node,m147.Request.Posture,m147.Request.State,m147.Request.Yes,m147.Request.From,(if 345686400<(wi (a.At+m135.long)) then 345686400 else wi (a.At+m135.long))⟩:Kwk),m147.asked,m147.long,m147.yes,m147.denied,m147.given⟩:Kwn))) E E (by intro e;cases e) E E E E E E E)) ?_
  exact Kiu<|gA 1 E<|oSi h148▸⟨_,E,⟨tV,[],E,.inl E⟩⟩
 intro a41 ha
 subst ha
 replace h40:=Kjm h40
 exact gA 7 E<|Kjp<|oSi h40▸Khi hΓ [_,_] (.inr E) E E E E (.inr ⟨HB.mk E,E⟩)
theorem Lel{v_r:List Kwf}{l:List Kwg}{v_at:Int}{al:BagT}{r:Kwm×(List Kwh)×BagT}(h:Kyz v_r l v_at al=some r):EC Tryz.prog 146 [.d (Sl Lbu v_r),.d (Sl Lbv l),I v_at] [bg al] fun g hp'=>g=.tup [.ptr 2 0,.sl 3 r.2.1.length]∧hp'=[bg r.2.2,mObH r.1.l,.box 205 [.d (Sl Lbu r.1.v_r),.map 1],rO 112 2 Lbw r.2.1]:=by
 unfold Kyz at h
 refine QM Tryz.func146 E Z<|gA 9 E<|eo_s Z (nblt.1 E) (Kkw false)<|Khd [bg al,mObH ([]:List (Str×Nat))] E<|Kdo hΓ (gs:=[.d (Sl Lbu v_r),.map 1]) E E E E E E E<|Ksj E E E E Z<|gO 5 E<|Kgs (t:=0) 112 2 E Z<|gO 10 E<|bK h fun q4 hq4 h5=>Kge 17 E fun hb7=>bK h5 fun q8 hq8 h9=>Kjt [(8,.ptr 2 0),(9,.sl 3 q8.2.2.2.length)] [bg q8.1,mObH q8.2.1,.box 205 [.d (Sl Lbu q8.2.2.1),.map 1],rO 112 2 Lbw q8.2.2.2] ?_ ?_
 ·refine gA 1 E<|Kgd l hq4 (fun i1 s2=>[(2,I v_at),(8,.ptr 2 0),(9,.sl 3 s2.2.2.2.length),(17,.d (Sl Lbv l)),(18,I (l.length:Int)),(19,I (i1:Int))]) (fun s2=>[bg s2.1,mObH s2.2.1,.box 205 [.d (Sl Lbu s2.2.2.1),.map 1],rO 112 2 Lbw s2.2.2.2]) ⟨⟨E,E,E,E,E,E,tV⟩,[],E,.inl E⟩ (fun i1 x3 s2 y13 hx10 hlt hy11 hout12=>?_) (fun s2 hgo=>?_)
  ·refine gA 6 E<|Kfp E (dT (Int.ofNat_lt.2 hlt))<|gA 7 E<|eo_o E (Kgf hΓ (enc:=Lbv) (Kfy hx10) E E E E E (fun _=>E))<|gO 1 E<|Ksi hΓ E E E Z<|gO 1 E<|Ksn hΓ E E E E E E E E Z<|Khd [bg s2.1,mObH s2.2.1,.box 205 [.d (Sl Lbu s2.2.2.1),.map 1],rO 112 2 Lbw s2.2.2.2,.box 180 [I x3.At,S x3.Key,S x3.By,I x3.Kind,S x3.Node,S x3.Posture,I x3.Long]] E<|gO 11 E<|jC E hy11 (fun h14=>?_) fun h15=>bK h15 fun y16 hy16 h17=>gA 6 E<|Kgu [1,2,0] (I y16.1) [bg y16.2.2,mObH y16.2.1.l,.box 205 [.d (Sl Lbu y16.2.1.v_r),.map 1],rO 112 2 Lbw s2.2.2.2,.box 180 [I x3.At,S x3.Key,S x3.By,I x3.Kind,S x3.Node,S x3.Posture,I x3.Long]] C (Lek hy16) E Z E E E E E E E E E E<|gO 9 E<|jC E h17 (fun h18=>?_) fun h21=>?_
   ·refine gA 6 E ?_
    cases h14
    obtain rfl:=hout12 _ rfl
    exact oSi hq8▸⟨⟨E,E,tV⟩,[_],E,.inr ⟨HB.mk E,FB.mk E,Z⟩⟩
   ·refine gA 4 E<|Kdo hΓ (gs:=[I (i1:Int),I y16.1]) E E E E E E E<|Kgp hΓ (enc:=Lbw) [(⟨(i1:Int),y16.1⟩:Kwh)] E E E E E E E E E E E E Z<|bK h18 fun y19 hy19 h20=>Khe hΓ (enc:=Lbw) hy19 E E E E E E E E E (fun _=>E) E E E E<|gO 8 E ?_
    cases h20
    exact⟨_,E,⟨⟨E,E,E,E,E,Keq E (Kep (nLl hlt hb7)),tV⟩,[_],E,.inr ⟨HB.mk E,FB.mk E,Z⟩⟩⟩
   refine gA 7 E ?_
   cases h21
   exact⟨_,E,⟨⟨E,E,E,E,E,Keq E (Kep (nLl hlt hb7)),tV⟩,[_],E,.inr ⟨HB.mk E,FB.mk E,Z⟩⟩⟩
  subst hgo
  exact gA 6 E<|Kfq E (dF (Int.lt_irrefl _))<|gA 4 E<|oSi hq8▸⟨⟨E,E,tV⟩,[],E,.inl E⟩
 exact gA 10 E<|Kjp<|oSi h9▸Khi hΓ [] (.inr E) E E E E (.inl E)
theorem Lem{v_r:List Kwf}{l:List Kwg}{al:BagT}{r:(List Kwh)×BagT}(h:Kza v_r l al=some r):EC Tryz.prog 68 [.d (Sl Lbu v_r),.d (Sl Lbv l)] [bg al] fun g hp'=>g=.d (Sl Lbw r.1)∧hp'=[bg r.2]:=by
 unfold Kza at h
 exact QN Tryz.func68 E Z<|bK h fun y1 hy1 h2=>gA 9 E<|Kgu [0] (.tup [.ptr 2 0,.sl 3 y1.2.1.length]) [bg y1.2.2,mObH y1.1.l,.box 205 [.d (Sl Lbu y1.1.v_r),.map 1],rO 112 2 Lbw y1.2.1] C (Lel hy1) E Z E E E E E E E E E E<|Khb 3 [10] _ [bg y1.2.2,mObH y1.1.l,.box 205 [.d (Sl Lbu y1.1.v_r),.map 1],.dead] E E E Z<|gO 14 E<|oSi h2▸Khi hΓ [_,_,_] (.inr E) E E E E (.inr ⟨HB.mk E,E⟩)
theorem Len{s1:List Kwh}{s2:List Kwh}{r:Bool}(h:Kzb s1 s2=some r):Pure Tryz.prog 67 [.d (Sl Lbw s1),.d (Sl Lbw s2)] (B r):=by
 unfold Kzb at h
 refine QP Tryz.func67 E E E<|gA 15 E<|jC E h (fun h1=>?_) fun h2=>gA 10 E<|bK h2 fun q6 hq6 h7=>Kge 0 E fun hb9=>Kjs (R:=fun a8=>q6=.go a8) (fun a8=>[]) (fun a8=>[]) ?_ ?_
 ·exact gA 7 E<|oSi h1▸gP E E
 ·refine gA 1 E<|Kgd s1 hq6 (fun i3 s4=>[(0,.d (Sl Lbw s1)),(1,.d (Sl Lbw s2)),(12,I (s1.length:Int)),(13,I (i3:Int))]) (fun s4=>[]) ⟨⟨E,E,E,E,tV⟩,[],E,.inl E⟩ (fun i3 x5 s4 y13 hx10 hlt hy11 hout12=>?_) (fun s4 hgo=>?_)
  ·refine gA 6 E<|Kfp E (dT (Int.ofNat_lt.2 hlt))<|gA 11 E<|jD<|gA 2 E<|gl_o E (Kgf hΓ (enc:=Lbw) (Kfy hx10) E E E E E (fun _=>E))<|bK hy11 fun x14 hx14 h15=>Kfm hΓ 3 E<|gl_o E (Kgf hΓ (enc:=Lbw) hx14 E E E E E (fun _=>E))<|Kfm hΓ 1 E<|gl_o E (Khs hΓ [112] (b:=(((x5.Step:Int)==x14.Step)&&(((x5.Why:Int)==x14.Why)&&true))) (by kernel_rfl) (by kernel_rfl) E E E)<|Kfm hΓ 2 E<|jC E h15 (fun h16=>?_) fun h19=>gA 7 E ?_
   ·refine gA 8 E<|bK h16 fun v17 hv17 h18=>?_
    cases h18
    obtain rfl:=hout12 _ rfl
    cases h7
    exact gA 4 E<|oSi hv17▸gP E E
   cases h19
   exact⟨_,E,⟨⟨E,E,E,Keq E (Kep (nLl hlt hb9)),tV⟩,[],E,.inl E⟩⟩
  subst hgo
  exact gA 6 E<|Kfq E (dF (Int.lt_irrefl _))<|gA 4 E<|⟨_,E,⟨tV,[],E,.inl E⟩⟩
 intro a8 ha
 subst ha
 replace h7:=Kjn h7
 exact gA 7 E<|oSi h7▸gP E E
theorem Leo{a:Kwk}{b:Kwk}{r:Int}(h:Kzc a b=some r):Pure Tryz.prog 150 [.agg [S a.Key,S a.By,S a.Node,S a.Posture,I a.State,I a.Yes,I a.From,I a.To],.agg [S b.Key,S b.By,S b.Node,S b.Posture,I b.State,I b.Yes,I b.From,I b.To]] (I r):=by
 unfold Kzc at h
 exact QP Tryz.func150 E E E<|gA 2 E<|Ksj E E E E Z<|Ksj E E E E Z<|bK h fun y1 hy1 h2=>gO 9 E<|Kgv C (Kuo hy1) E Z E E E E E<|gO 4 E<|oSi h2▸gP E E
theorem Lep{x:List Kwk}(h:CmpT (fun a b=>Kzc a b)∧x.length<4611686018427387904):EC Tryz.prog 149 [.sl 0 x.length,.fn (.func 150) [] []] [rO 117 8 Lby x] fun g hp'=>∃ r,SrtP (fun a b=>Kzc a b) x r∧g=.tup []∧hp'=[rO 117 8 Lby r]:=
 haveI:Inhabited Kwk:=⟨(⟨[],[],[],[],0,0,0,0⟩:Kwk)⟩
 EC.sortFuncD Tryz.sortf149 hΓ (show Γ 117=some _ from E) E (fun x=>[(.string ⟨x.Key.toArray⟩),(.string ⟨x.By.toArray⟩),(.string ⟨x.Node.toArray⟩),(.string ⟨x.Posture.toArray⟩),(.int .i64 x.State),(.int .i64 x.Yes),(.int .i64 x.From),(.int .i64 x.To)]) Lby (fun _=>E) (fun _=>E) (fun _=>E) (enters_of Tryz.func150 (by kernel_rfl) E) (fun h=>Leo h) h.1 h.2
theorem Leq{v_r:List Kwf}{l:List Kwg}{v_at:Int}{al:BagT}{r:(List Kwk)×BagT}(h:Kzd v_r l v_at al=some r):EC Tryz.prog 71 [.d (Sl Lbu v_r),.d (Sl Lbv l),I v_at] [bg al] fun g hp'=>g=.sl 1 r.1.length∧hp'=[bg r.2,rO 117 8 Lby r.1]:=by
 unfold Kzd at h
 refine QM Tryz.func71 E Z<|bK h fun y1 hy1 h2=>gA 10 E<|Kgu [0] (.tup [.ptr 2 0,.sl 3 y1.2.1.length]) [bg y1.2.2,mObH y1.1.l,.box 205 [.d (Sl Lbu y1.1.v_r),.map 1],rO 112 2 Lbw y1.2.1] C (Lel hy1) E Z E E E E E E E E E E<|Khb 3 [19] _ [bg y1.2.2,mObH y1.1.l,.box 205 [.d (Sl Lbu y1.1.v_r),.map 1],.dead] E E E Z<|gO 9 E<|Kgs (t:=0) 117 8 E Z<|gO 9 E<|Kll hΓ (kv:=kS) (agg:=false) (enc:=(eH (some 0))) y1.1.l E E E E E Z (fun mr3 bs4 cl5 hpm6 hbl7 hbn8=>?_)
 refine Khd [bg y1.2.2,mObS kS false (eH (some 0)) y1.1.l (rawM kS (eH (some 0)) mr3 bs4 cl5),.box 205 [.d (Sl Lbu y1.1.v_r),.map 1],.dead,rO 117 8 Lby ([]:List Kwk),.iter 1 cl5 []] E<|gO 2 E<|gA 1 E<|Kna (Knh h2) hpm6 hbl7 hbn8 (fun s9=>[(2,I v_at),(7,.ptr 2 0),(9,.sl 4 s9.length),(26,.ptr 5 0)]) (fun sn11 s9=>[bg y1.2.2,mObS kS false (eH (some 0)) y1.1.l (rawM kS (eH (some 0)) mr3 bs4 cl5),.box 205 [.d (Sl Lbu y1.1.v_r),.map 1],.dead,rO 117 8 Lby s9,.iter 1 cl5 sn11]) ⟨⟨E,E,E,E,tV⟩,[],E,.inl E⟩ (fun sn11 s9 hdone14 hstep15=>?_)
 refine gA 2 E<|Klm (kv:=kS) (agg:=false) (enc:=(eH (some 0))) y1.1.l mr3 bs4 cl5 sn11 [bg y1.2.2,mObH y1.1.l,.box 205 [.d (Sl Lbu y1.1.v_r),.map 1],.dead,rO 117 8 Lby s9,.dead] E E E E E Z (fun hdsn11=>?_) (fun j12 x10 b13 hjsn11 hbsn11 hnsn11=>?_)
 ·have h16:=hdone14 hdsn11
  obtain⟨hok18,ha19⟩:=Kps h16
  refine gO 13 E<|Kpu [4] (.tup []) (fun y17=>[bg y1.2.2,mObH y1.1.l,.box 205 [.d (Sl Lbu y1.1.v_r),.map 1],.dead,rO 117 8 Lby y17,.dead]) C (Lep hok18) E Z E E E E E E E E E (fun _=>E)<|fun y17 hy17=>?_
  have h20:=ha19 y17 hy17
  exact gK h20 fun hg22 h21=>Kkd 9 E (of_decide_eq_true hg22).symm<|gO 9 E<|Klp 2 [bg y1.2.2,mObH y1.1.l,.dead,.dead,rO 117 8 Lby y17,.dead] E Z<|Klp 1 [bg y1.2.2,.dead,.dead,.dead,rO 117 8 Lby y17,.dead] E Z<|Kjr 4 1 [bg y1.2.2,rO 117 8 Lby y17,.dead,.dead,.dead,.dead] E E E E E E<|Kjp<|oSi h21▸Khi hΓ [_,_,_,_] (.inr E) E E E E (.inr ⟨HB.mk E,E⟩)
 obtain⟨s23,h24⟩:=hstep15 j12 x10 b13 hjsn11 hbsn11 hnsn11
 have hssn11:=h24
 refine gO 10 E<|eo_o E (Kln (kv:=kS) (agg:=false) (enc:=(eH (some 0))) y1.1.l mr3 bs4 cl5 sn11 hjsn11 hbsn11 E E E E (fun _=>E))<|gK h24 fun hg26 h25=>gO 7 E<|eo_o E (Knc hg26 E)<|eo_o E (Knd hΓ hg26 E E E E E E)<|bK h25 fun m27 hm27 h28=>eo_o E (Kne hΓ (enc:=Lca) (bg:=0) m27 E E (ArU.r _ (Kmp (fun _ _=>E) hm27 m27)) E (g:=.agg [S m27.Request.Key,S m27.Request.By,S m27.Request.Node,S m27.Request.Posture,I m27.Request.State,I m27.Request.Yes,I m27.Request.From,I m27.Request.To]) E E)<|Ksi hΓ E E E Z<|Ksn hΓ E E E E E E E E Z<|Khd [bg y1.2.2,mObS kS false (eH (some 0)) y1.1.l (rawM kS (eH (some 0)) mr3 bs4 cl5),.box 205 [.d (Sl Lbu y1.1.v_r),.map 1],.dead,rO 117 8 Lby s9,.iter 1 cl5 (sn11++[b13]),.box 117 [S m27.Request.Key,S m27.Request.By,S m27.Request.Node,S m27.Request.Posture,I m27.Request.State,I m27.Request.Yes,I m27.Request.From,I m27.Request.To]] E<|bK h28 fun y29 hy29 h30=>gO 7 E<|Kgu [1,2] (.tup [.agg [S y29.1.Posture,.d (Sl eS y29.1.Approvers),I y29.1.Need,I y29.1.Wait,I y29.1.Most],B y29.2]) [bg y1.2.2,mObS kS false (eH (some 0)) y1.1.l (rawM kS (eH (some 0)) mr3 bs4 cl5),.box 205 [.d (Sl Lbu y1.1.v_r),.map 1],.dead,rO 117 8 Lby s9,.iter 1 cl5 (sn11++[b13]),.box 117 [S m27.Request.Key,S m27.Request.By,S m27.Request.Node,S m27.Request.Posture,I m27.Request.State,I m27.Request.Yes,I m27.Request.From,I m27.Request.To]] C (Lej hy29) E Z E E E E E E E E E E<|gO 3 E<|Ksi hΓ E E E Z<|Ksn hΓ E E E E E E E E Z<|Khd [bg y1.2.2,mObS kS false (eH (some 0)) y1.1.l (rawM kS (eH (some 0)) mr3 bs4 cl5),.box 205 [.d (Sl Lbu y1.1.v_r),.map 1],.dead,rO 117 8 Lby s9,.iter 1 cl5 (sn11++[b13]),.box 117 [S m27.Request.Key,S m27.Request.By,S m27.Request.Node,S m27.Request.Posture,I m27.Request.State,I m27.Request.Yes,I m27.Request.From,I m27.Request.To],.box 178 [S y29.1.Posture,.d (Sl eS y29.1.Approvers),I y29.1.Need,I y29.1.Wait,I y29.1.Most]] E<|gK h30 fun hg32 h31=>gO 6 E<|eo_o E (Knc hg32 E)<|eo_o E (Knd hΓ hg32 E E E E E E)<|bK h31 fun m33 hm33 h34=>eo_o E (Kme (Kne hΓ (enc:=Lca) (bg:=0) m33 E E (ArU.r _ (Kmp (fun _ _=>E) hm33 m33)) E (g:=.d (Slt 9 1 eS m33.yes)) E E) G.Le.unt)<|gO 2 E<|Ksn hΓ E E E E E E E E Z<|Khd [bg y1.2.2,mObS kS false (eH (some 0)) y1.1.l (rawM kS (eH (some 0)) mr3 bs4 cl5),.box 205 [.d (Sl Lbu y1.1.v_r),.map 1],.dead,rO 117 8 Lby s9,.iter 1 cl5 (sn11++[b13]),.box 117 [S m27.Request.Key,S m27.Request.By,S m27.Request.Node,S m27.Request.Posture,I m27.Request.State,I (m33.yes.2.length:Int),I m27.Request.From,I m27.Request.To],.box 178 [S y29.1.Posture,.d (Sl eS y29.1.Approvers),I y29.1.Need,I y29.1.Wait,I y29.1.Most]] E<|bK h34 fun q35 hq35 h36=>gO 3 E<|Kjt [(2,I v_at),(7,.ptr 2 0),(9,.sl 4 s9.length),(12,.ptr 6 0),(26,.ptr 5 0)] [bg y1.2.2,mObS kS false (eH (some 0)) y1.1.l (rawM kS (eH (some 0)) mr3 bs4 cl5),.box 205 [.d (Sl Lbu y1.1.v_r),.map 1],.dead,rO 117 8 Lby s9,.iter 1 cl5 (sn11++[b13]),.box 117 [S m27.Request.Key,S m27.Request.By,S m27.Request.Node,S m27.Request.Posture,I q35,I (m33.yes.2.length:Int),I m27.Request.From,I m27.Request.To],.box 178 [S y29.1.Posture,.d (Sl eS y29.1.Approvers),I y29.1.Need,I y29.1.Wait,I y29.1.Most]] ?_ ?_
 ·refine gK hq35 fun hg38 h37=>gA 4 E<|eo_o E (Knc hg38 E)<|eo_o E (Knd hΓ hg38 E E E E E E)<|bK h37 fun m39 hm39 h40=>eo_o E (Kne hΓ (enc:=Lca) (bg:=0) m39 E E (ArU.r _ (Kmp (fun _ _=>E) hm39 m39)) E (g:=B m39.given) E E)<|gO 1 E<|bK h40 fun q41 hq41 h42=>Kfu 8 [(2,I v_at),(7,.ptr 2 0),(9,.sl 4 s9.length),(11,.d (.hd (some 0) x10.2)),(12,.ptr 6 0),(13,.ptr 7 0),(26,.ptr 5 0),(62,B q41)] [bg y1.2.2,mObS kS false (eH (some 0)) y1.1.l (rawM kS (eH (some 0)) mr3 bs4 cl5),.box 205 [.d (Sl Lbu y1.1.v_r),.map 1],.dead,rO 117 8 Lby s9,.iter 1 cl5 (sn11++[b13]),.box 117 [S m27.Request.Key,S m27.Request.By,S m27.Request.Node,S m27.Request.Posture,I m27.Request.State,I (m33.yes.2.length:Int),I m27.Request.From,I m27.Request.To],.box 178 [S y29.1.Posture,.d (Sl eS y29.1.Approvers),I y29.1.Need,I y29.1.Wait,I y29.1.Most]] ?_ ?_
  ·refine Krc E E (fun hb=>?_) (fun hb=>?_)
   ·have h43:=cT hq41 hb
    exact gK h43 fun hg45 h44=>gO 2 E<|Kra E<|eo_o E (Knc hg45 E)<|Kra E<|eo_o E (Knd hΓ hg45 E E E E E E)<|Kra E<|eo_o E (Knd hΓ hg45 E E E E E E)<|bK h44 fun m46 hm46 h47=>Kra E<|eo_o E (Kne hΓ (enc:=Lca) (bg:=0) m46 E E (ArU.r _ (Kmp (fun _ _=>E) hm46 m46)) E (g:=I m46.Request.To) E E)<|gO 3 E<|oSi h47▸⟨⟨E,E,E,E,E,E,E,E,tV⟩,[],E,.inl E⟩
   have h48:=cF hq41 hb
   exact gO 9 E<|oSi h48▸⟨⟨E,E,E,E,E,E,E,E,tV⟩,[],E,.inl E⟩
  refine gO 3 E<|jC E h42 (fun h49=>?_) fun h50=>gK h50 fun hg52 h51=>gA 3 E<|eo_o E (Knc hg52 E)<|eo_o E (Knd hΓ hg52 E E E E E E)<|bK h51 fun m53 hm53 h54=>eo_o E (Kne hΓ (enc:=Lca) (bg:=0) m53 E E (ArU.r _ (Kmp (fun _ _=>E) hm53 m53)) E (g:=B m53.given) E E)<|gO 3 E<|jC E h54 (fun h55=>?_) fun h56=>?_
  ·exact gA 2 E<|Ksn hΓ E E E E E E E E Z<|Khd [bg y1.2.2,mObS kS false (eH (some 0)) y1.1.l (rawM kS (eH (some 0)) mr3 bs4 cl5),.box 205 [.d (Sl Lbu y1.1.v_r),.map 1],.dead,rO 117 8 Lby s9,.iter 1 cl5 (sn11++[b13]),.box 117 [S m27.Request.Key,S m27.Request.By,S m27.Request.Node,S m27.Request.Posture,I 4,I (m33.yes.2.length:Int),I m27.Request.From,I m27.Request.To],.box 178 [S y29.1.Posture,.d (Sl eS y29.1.Approvers),I y29.1.Need,I y29.1.Wait,I y29.1.Most]] E<|gO 2 E<|oSi h49▸⟨⟨E,E,E,E,E,tV⟩,[],E,.inl E⟩
  ·exact gA 2 E<|Ksn hΓ E E E E E E E E Z<|Khd [bg y1.2.2,mObS kS false (eH (some 0)) y1.1.l (rawM kS (eH (some 0)) mr3 bs4 cl5),.box 205 [.d (Sl Lbu y1.1.v_r),.map 1],.dead,rO 117 8 Lby s9,.iter 1 cl5 (sn11++[b13]),.box 117 [S m27.Request.Key,S m27.Request.By,S m27.Request.Node,S m27.Request.Posture,I 5,I (m33.yes.2.length:Int),I m27.Request.From,I m27.Request.To],.box 178 [S y29.1.Posture,.d (Sl eS y29.1.Approvers),I y29.1.Need,I y29.1.Wait,I y29.1.Most]] E<|gO 2 E<|oSi h55▸⟨⟨E,E,E,E,E,tV⟩,[],E,.inl E⟩
  refine gK h56 fun hg58 h57=>gA 3 E<|eo_o E (Knc hg58 E)<|eo_o E (Knd hΓ hg58 E E E E E E)<|bK h57 fun m59 hm59 h60=>eo_o E (Kne hΓ (enc:=Lca) (bg:=0) m59 E E (ArU.r _ (Kmp (fun _ _=>E) hm59 m59)) E (g:=B m59.denied) E E)<|gO 3 E<|jC E h60 (fun h61=>?_) fun h62=>gA 1 E<|jD<|gK h62 fun hg64 h63=>gA 2 E<|gl_o E (Knc hg64 E)<|gl_o E (Knd hΓ hg64 E E E E E E)<|bK h63 fun m65 hm65 h66=>gl_o E (Kne hΓ (enc:=Lca) (bg:=0) m65 E E (ArU.r _ (Kmp (fun _ _=>E) hm65 m65)) E (g:=I m65.asked) E E)<|Kfm hΓ 7 E<|jC E h66 (fun h67=>?_) fun h68=>?_
  ·exact gA 2 E<|Ksn hΓ E E E E E E E E Z<|Khd [bg y1.2.2,mObS kS false (eH (some 0)) y1.1.l (rawM kS (eH (some 0)) mr3 bs4 cl5),.box 205 [.d (Sl Lbu y1.1.v_r),.map 1],.dead,rO 117 8 Lby s9,.iter 1 cl5 (sn11++[b13]),.box 117 [S m27.Request.Key,S m27.Request.By,S m27.Request.Node,S m27.Request.Posture,I 3,I (m33.yes.2.length:Int),I m27.Request.From,I m27.Request.To],.box 178 [S y29.1.Posture,.d (Sl eS y29.1.Approvers),I y29.1.Need,I y29.1.Wait,I y29.1.Most]] E<|gO 2 E<|oSi h61▸⟨⟨E,E,E,E,E,tV⟩,[],E,.inl E⟩
  ·exact gA 2 E<|Ksn hΓ E E E E E E E E Z<|Khd [bg y1.2.2,mObS kS false (eH (some 0)) y1.1.l (rawM kS (eH (some 0)) mr3 bs4 cl5),.box 205 [.d (Sl Lbu y1.1.v_r),.map 1],.dead,rO 117 8 Lby s9,.iter 1 cl5 (sn11++[b13]),.box 117 [S m27.Request.Key,S m27.Request.By,S m27.Request.Node,S m27.Request.Posture,I 1,I (m33.yes.2.length:Int),I m27.Request.From,I m27.Request.To],.box 178 [S y29.1.Posture,.d (Sl eS y29.1.Approvers),I y29.1.Need,I y29.1.Wait,I y29.1.Most]] E<|gO 2 E<|oSi h67▸⟨⟨E,E,E,E,E,tV⟩,[],E,.inl E⟩
  exact gA 2 E<|Ksn hΓ E E E E E E E E Z<|Khd [bg y1.2.2,mObS kS false (eH (some 0)) y1.1.l (rawM kS (eH (some 0)) mr3 bs4 cl5),.box 205 [.d (Sl Lbu y1.1.v_r),.map 1],.dead,rO 117 8 Lby s9,.iter 1 cl5 (sn11++[b13]),.box 117 [S m27.Request.Key,S m27.Request.By,S m27.Request.Node,S m27.Request.Posture,I 2,I (m33.yes.2.length:Int),I m27.Request.From,I m27.Request.To],.box 178 [S y29.1.Posture,.d (Sl eS y29.1.Approvers),I y29.1.Need,I y29.1.Wait,I y29.1.Most]] E<|gO 2 E<|oSi h68▸⟨⟨E,E,E,E,E,tV⟩,[],E,.inl E⟩
 refine gA 4 E<|Kgp hΓ (enc:=Lby) [(⟨m27.Request.Key,m27.Request.By,m27.Request.Node,m27.Request.Posture,q35,(m33.yes.2.length:Int),m27.Request.From,m27.Request.To⟩:Kwk)] E E E E E E E E E E E E Z<|bK h36 fun y69 hy69 h70=>Khe hΓ (enc:=Lby) hy69 E E E E E E E E E (fun _=>E) E E E E<|gO 3 E ?_
 cases h70
 exact⟨j12,x10,b13,_,hjsn11,hbsn11,hnsn11,hssn11,⟨⟨E,E,E,E,tV⟩,[_,_],E,.inr ⟨HB.mk E,FB.mk E,Z⟩⟩⟩
theorem Ler{k:Nat}{l:List Kwg}{v_r:List Kwf}{al:BagT}{r:(List Int)×BagT}(h:Kze k l v_r al=some r):EC Tryz.prog 147 [.d (Sl Lbv l),.d (Sl Lbu v_r)] [bg al] fun g hp'=>g=.sl 1 r.1.length∧hp'=[bg r.2,rO 3 1 (eN .i64) r.1]:=by
 unfold Kze at h
 refine QM Tryz.func147 E Z<|gA 7 E<|Kgs (t:=0) 3 1 E Z<|gO 10 E<|bK h fun q4 hq4 h5=>Kge 0 E fun hb7=>Kjt [(5,.sl 1 q4.2.length)] [bg q4.1,rO 3 1 (eN .i64) q4.2] ?_ ?_
 ·refine gA 1 E<|Khk l hq4 (fun i1 s2=>[(0,.d (Sl Lbv l)),(1,.d (Sl Lbu v_r)),(5,.sl 1 s2.2.length),(10,.d (Sl Lbv l)),(11,I (l.length:Int)),(12,I (i1:Int))]) (fun s2=>[bg s2.1,rO 3 1 (eN .i64) s2.2]) ⟨⟨E,E,E,E,E,E,tV⟩,[],E,.inl E⟩ (fun i1 x3 s2 y11 hx8 hlt hy9=>?_) (?_)
  ·refine gA 6 E<|Kfp E (dT (Int.ofNat_lt.2 hlt))<|gA 6 E<|eo_o E (Kgf hΓ (enc:=Lbv) (Kfy hx8) E E E E E (fun _=>E))<|gO 1 E<|Ksi hΓ E E E Z<|Ksn hΓ E E E E E E E E Z<|Khd [bg s2.1,rO 3 1 (eN .i64) s2.2,.box 180 [I x3.At,S x3.Key,S x3.By,I x3.Kind,S x3.Node,S x3.Posture,I x3.Long]] E<|gO 7 E<|Kgp hΓ (enc:=(eN .i64)) [x3.At] E E E E E E E E E E E E Z<|bK hy9 fun y12 hy12 h13=>Khe hΓ (enc:=(eN .i64)) hy12 E E E E E E E E E (fun _=>E) E E E E<|bK h13 fun y14 hy14 h15=>gO 9 E<|Kgu [0] (.sl 3 y14.1.length) [bg y14.2,rO 3 1 (eN .i64) y12,.box 180 [I x3.At,S x3.Key,S x3.By,I x3.Kind,S x3.Node,S x3.Posture,I x3.Long],rO 117 8 Lby y14.1] C (Leq hy14) E Z E E E E E E E E E E<|Khb 3 [25] _ [bg y14.2,rO 3 1 (eN .i64) y12,.box 180 [I x3.At,S x3.Key,S x3.By,I x3.Kind,S x3.Node,S x3.Posture,I x3.Long],.dead] E E E Z<|gO 4 E<|bK h15 fun q19 hq19 h20=>Kge 25 E fun hb22=>Kjt [(0,.d (Sl Lbv l)),(1,.d (Sl Lbu v_r)),(5,.sl 1 q19.length),(10,.d (Sl Lbv l)),(11,I (l.length:Int)),(12,I (i1:Int))] [bg y14.2,rO 3 1 (eN .i64) q19,.box 180 [I x3.At,S x3.Key,S x3.By,I x3.Kind,S x3.Node,S x3.Posture,I x3.Long],.dead] ?_ ?_
   ·refine gA 1 E<|Khk y14.1 hq19 (fun i16 s17=>[(0,.d (Sl Lbv l)),(1,.d (Sl Lbu v_r)),(5,.sl 1 s17.length),(10,.d (Sl Lbv l)),(11,I (l.length:Int)),(12,I (i1:Int)),(25,.d (Sl Lby y14.1)),(26,I (y14.1.length:Int)),(27,I (i16:Int))]) (fun s17=>[bg y14.2,rO 3 1 (eN .i64) s17,.box 180 [I x3.At,S x3.Key,S x3.By,I x3.Kind,S x3.Node,S x3.Posture,I x3.Long],.dead]) ⟨⟨E,E,E,E,E,E,E,E,E,tV⟩,[],E,.inl E⟩ (fun i16 x18 s17 y26 hx23 hlt hy24=>?_) (?_)
    ·refine gA 6 E<|Kfp E (dT (Int.ofNat_lt.2 hlt))<|gA 6 E<|eo_o E (Kgf hΓ (enc:=Lby) (Kfy hx23) E E E E E (fun _=>E))<|gO 1 E<|Ksi hΓ E E E Z<|Ksn hΓ E E E E E E E E Z<|Khd [bg y14.2,rO 3 1 (eN .i64) s17,.box 180 [I x3.At,S x3.Key,S x3.By,I x3.Kind,S x3.Node,S x3.Posture,I x3.Long],.dead,.box 117 [S x18.Key,S x18.By,S x18.Node,S x18.Posture,I x18.State,I x18.Yes,I x18.From,I x18.To]] E<|gO 8 E<|Kfu 4 [(0,.d (Sl Lbv l)),(1,.d (Sl Lbu v_r)),(5,.sl 1 s17.length),(9,.ptr 4 0),(10,.d (Sl Lbv l)),(11,I (l.length:Int)),(12,I (i1:Int)),(25,.d (Sl Lby y14.1)),(26,I (y14.1.length:Int)),(27,I (i16:Int)),(38,B ((decide ((x18.To:Int)>0))&&(decide ((x18.To:Int)<345686400))))] [bg y14.2,rO 3 1 (eN .i64) s17,.box 180 [I x3.At,S x3.Key,S x3.By,I x3.Kind,S x3.Node,S x3.Posture,I x3.Long],.dead,.box 117 [S x18.Key,S x18.By,S x18.Node,S x18.Posture,I x18.State,I x18.Yes,I x18.From,I x18.To]] ?_ ?_
     ·refine Krc E E (fun hb=>?_) (fun hb=>?_)
      ·exact gO 5 E<|⟨⟨E,E,E,E,E,E,E,E,E,E,Ker E (Kho hb),tV⟩,[],E,.inl E⟩
      exact gO 5 E<|⟨⟨E,E,E,E,E,E,E,E,E,E,Ker E (Khp hb),tV⟩,[],E,.inl E⟩
     refine gO 2 E<|jC E hy24 (fun h27=>?_) fun h30=>gA 7 E ?_
     ·refine gA 4 E<|Kgp hΓ (enc:=(eN .i64)) [x18.To] E E E E E E E E E E E E Z<|bK h27 fun y28 hy28 h29=>Khe hΓ (enc:=(eN .i64)) hy28 E E E E E E E E E (fun _=>E) E E E E<|gO 8 E ?_
      cases h29
      exact⟨⟨E,E,E,E,E,E,E,E,Keq E (Kep (nLl hlt hb22)),tV⟩,[_],E,.inr ⟨HB.mk E,FB.mk E,Z⟩⟩
     cases h30
     exact⟨⟨E,E,E,E,E,E,E,E,Keq E (Kep (nLl hlt hb22)),tV⟩,[_],E,.inr ⟨HB.mk E,FB.mk E,Z⟩⟩
    exact gA 6 E<|Kfq E (dF (Int.lt_irrefl _))<|gA 4 E<|⟨⟨E,E,E,E,E,E,tV⟩,[],E,.inl E⟩
   refine gA 6 E ?_
   cases h20
   exact⟨⟨E,E,E,E,E,Keq E (Kep (nLl hlt hb7)),tV⟩,[_,_],E,.inr ⟨HB.mk E,FB.mk E,Z⟩⟩
  exact gA 6 E<|Kfq E (dF (Int.lt_irrefl _))<|gA 4 E<|⟨⟨E,tV⟩,[],E,.inl E⟩
 exact bK h5 fun y31 hy31 h32=>gA 4 E<|Kgu [1] (.tup []) [bg q4.1,rO 3 1 (eN .i64) y31] C (Kup hy31) E Z E E E E E E E E E E<|gK h32 fun hg34 h33=>Kkd 5 E (of_decide_eq_true hg34).symm<|bK h33 fun y35 hy35 h36=>gO 5 E<|Kgu [1] (.sl 1 y35.length) [bg q4.1,rO 3 1 (eN .i64) y35] C (Ldv hy35) E Z E E E E E E E E E E<|gO 4 E<|Kjp<|oSi h36▸Khi hΓ [] (.inr E) E E E E (.inl E)
theorem Les{a:Kwl}{b:Kwl}{r:Int}(h:Kzf a b=some r):Pure Tryz.prog 152 [.agg [S a.Node,S a.Posture],.agg [S b.Node,S b.Posture]] (I r):=by
 unfold Kzf at h
 exact QP Tryz.func152 E E E<|gA 2 E<|Ksj E E E E Z<|Ksj E E E E Z<|gO 4 E<|jD<|bK h fun y1 hy1 h2=>gA 4 E<|Kgw C (Kuo hy1) E E E E E E<|bK h2 fun y3 hy3 h4=>Kfm hΓ 4 E<|Kgw C (Kuo hy3) E E E E E E<|Kgq hΓ (enc:=(eN .i64)) [y1,y3] E E E E E E E E E E E E<|bK h4 fun y5 hy5 h6=>Kgw C (Lcw hy5) E E E E E E<|Kfm hΓ 4 E<|oSi h6▸gP E E
theorem Let{x:List Kwl}(h:CmpT (fun a b=>Kzf a b)∧x.length<4611686018427387904):EC Tryz.prog 151 [.sl 0 x.length,.fn (.func 152) [] []] [rO 78 2 Lbz x] fun g hp'=>∃ r,SrtP (fun a b=>Kzf a b) x r∧g=.tup []∧hp'=[rO 78 2 Lbz r]:=
 haveI:Inhabited Kwl:=⟨(⟨[],[]⟩:Kwl)⟩
 EC.sortFuncD Tryz.sortf151 hΓ (show Γ 78=some _ from E) E (fun x=>[(.string ⟨x.Node.toArray⟩),(.string ⟨x.Posture.toArray⟩)]) Lbz (fun _=>E) (fun _=>E) (fun _=>E) (enters_of Tryz.func152 (by kernel_rfl) E) (fun h=>Les h) h.1 h.2
theorem Leu{k:Nat}{v_r:List Kwf}{l:List Kwg}{v_at:Int}{al:BagT}{r:(List Kwl)×BagT}(h:Kzg k v_r l v_at al=some r):EC Tryz.prog 72 [.d (Sl Lbu v_r),.d (Sl Lbv l),I v_at] [bg al] fun g hp'=>g=.sl 1 r.1.length∧hp'=[bg r.2,rO 78 2 Lbz r.1]:=by
 unfold Kzg at h
 refine QM Tryz.func72 E Z<|gA 7 E<|Kgs (t:=0) 78 2 E Z<|bK h fun y1 hy1 h2=>gO 8 E<|Kgu [0] (.sl 2 y1.1.length) [bg y1.2,rO 78 2 Lbz ([]:List Kwl),rO 117 8 Lby y1.1] C (Leq hy1) E Z E E E E E E E E E E<|Khb 2 [13] _ [bg y1.2,rO 78 2 Lbz ([]:List Kwl),.dead] E E E Z<|gO 4 E<|bK h2 fun q6 hq6 h7=>Kge 13 E fun hb9=>Kjt [(7,.sl 1 q6.length)] [bg y1.2,rO 78 2 Lbz q6,.dead] ?_ ?_
 ·refine gA 1 E<|Khk y1.1 hq6 (fun i3 s4=>[(7,.sl 1 s4.length),(13,.d (Sl Lby y1.1)),(14,I (y1.1.length:Int)),(15,I (i3:Int))]) (fun s4=>[bg y1.2,rO 78 2 Lbz s4,.dead]) ⟨⟨E,E,E,E,tV⟩,[],E,.inl E⟩ (fun i3 x5 s4 y13 hx10 hlt hy11=>?_) (?_)
  ·refine gA 6 E<|Kfp E (dT (Int.ofNat_lt.2 hlt))<|gA 6 E<|eo_o E (Kgf hΓ (enc:=Lby) (Kfy hx10) E E E E E (fun _=>E))<|gO 1 E<|Ksi hΓ E E E Z<|Ksn hΓ E E E E E E E E Z<|Khd [bg y1.2,rO 78 2 Lbz s4,.dead,.box 117 [S x5.Key,S x5.By,S x5.Node,S x5.Posture,I x5.State,I x5.Yes,I x5.From,I x5.To]] E<|gO 9 E<|jC E hy11 (fun h14=>?_) fun h17=>gA 7 E ?_
   ·refine gA 6 E<|Kdo hΓ (gs:=[S x5.Node,S x5.Posture]) E E E E E E E<|Kgp hΓ (enc:=Lbz) [(⟨x5.Node,x5.Posture⟩:Kwl)] E E E E E E E E E E E E Z<|bK h14 fun y15 hy15 h16=>Khe hΓ (enc:=Lbz) hy15 E E E E E E E E E (fun _=>E) E E E E<|gO 8 E ?_
    cases h16
    exact⟨⟨E,E,E,Keq E (Kep (nLl hlt hb9)),tV⟩,[_],E,.inr ⟨HB.mk E,FB.mk E,Z⟩⟩
   cases h17
   exact⟨⟨E,E,E,Keq E (Kep (nLl hlt hb9)),tV⟩,[_],E,.inr ⟨HB.mk E,FB.mk E,Z⟩⟩
  exact gA 6 E<|Kfq E (dF (Int.lt_irrefl _))<|gA 4 E<|⟨⟨E,tV⟩,[],E,.inl E⟩
 obtain⟨hok19,ha20⟩:=Kps h7
 refine gA 4 E<|Kpu [1] (.tup []) (fun y18=>[bg y1.2,rO 78 2 Lbz y18,.dead]) C (Let hok19) E Z E E E E E E E E E (fun _=>E)<|fun y18 hy18=>?_
 have h21:=ha20 y18 hy18
 exact gK h21 fun hg23 h22=>Kkd 7 E (of_decide_eq_true hg23).symm<|bK h22 fun y24 hy24 h25=>gO 5 E<|Kgu [1] (.sl 1 y24.length) [bg y1.2,rO 78 2 Lbz y24,.dead] C (Ldr hy24) E Z E E E E E E E E E E<|gO 4 E<|Kjp<|oSi h25▸Khi hΓ [_] (.inr E) E E E E (.inr ⟨HB.mk E,E⟩)
theorem Lev{k:Nat}{v_r:List Kwf}{l:List Kwg}{v_at:Int}{al:BagT}{r:Int×Bool×BagT}(h:Kzh k v_r l v_at al=some r):EC Tryz.prog 69 [.d (Sl Lbu v_r),.d (Sl Lbv l),I v_at] [bg al] fun g hp'=>g=.tup [I r.1,B r.2.1]∧hp'=[bg r.2.2]:=by
 unfold Kzh at h
 refine QN Tryz.func69 E Z<|bK h fun y1 hy1 h2=>gA 11 E<|Kgu [0] (.sl 1 y1.1.length) [bg y1.2,rO 3 1 (eN .i64) y1.1] C (Ler hy1) E Z E E E E E E E E E E<|Khb 1 [12] _ [bg y1.2,.dead] E E E Z<|gO 4 E<|bK h2 fun q6 hq6 h7=>Kge 12 E fun hb9=>Kjs (R:=fun a8=>q6=.go a8) (fun a8=>[]) (fun a8=>[bg a8,.dead]) ?_ ?_
 ·refine gA 1 E<|Kgd y1.1 hq6 (fun i3 s4=>[(0,.d (Sl Lbu v_r)),(1,.d (Sl Lbv l)),(2,I v_at),(12,.d (Sl (eN .i64) y1.1)),(13,I (y1.1.length:Int)),(14,I (i3:Int))]) (fun s4=>[bg s4,.dead]) ⟨⟨E,E,E,E,E,E,tV⟩,[],E,.inl E⟩ (fun i3 x5 s4 y13 hx10 hlt hy11 hout12=>?_) (fun s4 hgo=>?_)
  ·refine gA 6 E<|Kfp E (dT (Int.ofNat_lt.2 hlt))<|gA 6 E<|eo_o E (Kgf hΓ (enc:=(eN .i64)) (Kfy hx10) E E E E E (fun _=>E))<|gO 10 E<|bK hy11 fun q14 hq14 h15=>Kfu 12 [(0,.d (Sl Lbu v_r)),(1,.d (Sl Lbv l)),(2,I v_at),(9,I x5),(12,.d (Sl (eN .i64) y1.1)),(13,I (y1.1.length:Int)),(14,I (i3:Int)),(33,B q14.2)] [bg q14.1,.dead] ?_ ?_
   ·refine Krc E E (fun hb=>?_) (fun hb=>?_)
    ·have h16:=cT hq14 hb
     exact bK h16 fun y17 hy17 h18=>gO 3 E<|Kra E<|Kgu [0] (.sl 2 y17.1.length) [bg y17.2,.dead,rO 78 2 Lbz y17.1] C (Leu hy17) E Z E E E E E E E E E E<|Khb 2 [25] _ [bg y17.2,.dead,.dead] E E E Z<|bK h18 fun y19 hy19 h20=>gO 4 E<|Kra E<|Kgu [0] (.sl 3 y19.1.length) [bg y19.2,.dead,.dead,rO 78 2 Lbz y19.1] C (Leu hy19) E Z E E E E E E E E E E<|Khb 3 [30] _ [bg y19.2,.dead,.dead,.dead] E E E Z<|bK h20 fun y21 hy21 h22=>Kra E<|Kgv C (Ldw hy21) E Z E E E E E<|gO 3 E<|oSi h22▸⟨⟨E,E,E,E,E,E,E,E,tV⟩,[_,_],E,.inr ⟨HB.mk E,FB.mk E,Z⟩⟩
    have h23:=cF hq14 hb
    exact gO 13 E<|oSi h23▸⟨⟨E,E,E,E,E,E,E,E,tV⟩,[],E,.inl E⟩
   refine gO 2 E<|jC E h15 (fun h24=>?_) fun h27=>gA 7 E ?_
   ·refine gA 10 E<|bK h24 fun v25 hv25 h26=>?_
    cases h26
    obtain rfl:=hout12 _ rfl
    cases h7
    exact gA 4 E<|oSi hv25▸Khi hΓ [_] (.inr E) E E E E (.inr ⟨HB.mk E,E⟩)
   cases h27
   exact⟨_,E,⟨⟨E,E,E,E,E,Keq E (Kep (nLl hlt hb9)),tV⟩,[],E,.inl E⟩⟩
  subst hgo
  exact gA 6 E<|Kfq E (dF (Int.lt_irrefl _))<|gA 4 E<|⟨_,E,⟨tV,[],E,.inl E⟩⟩
 intro a8 ha
 subst ha
 replace h7:=Kjn h7
 exact gA 8 E<|oSi h7▸Khi hΓ [_] (.inr E) E E E E (.inr ⟨HB.mk E,E⟩)
theorem Lew{s1:List Kwk}{s2:List Kwk}{r:Bool}(h:Kzi s1 s2=some r):Pure Tryz.prog 70 [.d (Sl Lby s1),.d (Sl Lby s2)] (B r):=by
 unfold Kzi at h
 refine QP Tryz.func70 E E E<|gA 15 E<|jC E h (fun h1=>?_) fun h2=>gA 10 E<|bK h2 fun q6 hq6 h7=>Kge 0 E fun hb9=>Kjs (R:=fun a8=>q6=.go a8) (fun a8=>[]) (fun a8=>[]) ?_ ?_
 ·exact gA 7 E<|oSi h1▸gP E E
 ·refine gA 1 E<|Kgd s1 hq6 (fun i3 s4=>[(0,.d (Sl Lby s1)),(1,.d (Sl Lby s2)),(12,I (s1.length:Int)),(13,I (i3:Int))]) (fun s4=>[]) ⟨⟨E,E,E,E,tV⟩,[],E,.inl E⟩ (fun i3 x5 s4 y13 hx10 hlt hy11 hout12=>?_) (fun s4 hgo=>?_)
  ·refine gA 6 E<|Kfp E (dT (Int.ofNat_lt.2 hlt))<|gA 11 E<|jD<|gA 2 E<|gl_o E (Kgf hΓ (enc:=Lby) (Kfy hx10) E E E E E (fun _=>E))<|bK hy11 fun x14 hx14 h15=>Kfm hΓ 3 E<|gl_o E (Kgf hΓ (enc:=Lby) hx14 E E E E E (fun _=>E))<|Kfm hΓ 1 E<|gl_o E (Khs hΓ [117] (b:=(((x5.Key:Str)==x14.Key)&&(((x5.By:Str)==x14.By)&&(((x5.Node:Str)==x14.Node)&&(((x5.Posture:Str)==x14.Posture)&&(((x5.State:Int)==x14.State)&&(((x5.Yes:Int)==x14.Yes)&&(((x5.From:Int)==x14.From)&&(((x5.To:Int)==x14.To)&&true))))))))) (by kernel_rfl) (by kernel_rfl) E E E)<|Kfm hΓ 2 E<|jC E h15 (fun h16=>?_) fun h19=>gA 7 E ?_
   ·refine gA 8 E<|bK h16 fun v17 hv17 h18=>?_
    cases h18
    obtain rfl:=hout12 _ rfl
    cases h7
    exact gA 4 E<|oSi hv17▸gP E E
   cases h19
   exact⟨_,E,⟨⟨E,E,E,Keq E (Kep (nLl hlt hb9)),tV⟩,[],E,.inl E⟩⟩
  subst hgo
  exact gA 6 E<|Kfq E (dF (Int.lt_irrefl _))<|gA 4 E<|⟨_,E,⟨tV,[],E,.inl E⟩⟩
 intro a8 ha
 subst ha
 replace h7:=Kjn h7
 exact gA 7 E<|oSi h7▸gP E E
theorem Lex{s:Kwe}{r:(List Kwl)×Kwe}(h:Kzj s=some r):EC Tryz.prog 73 [.ptr 0 0] [.box 25 (fQ s)] fun g hp'=>g=.sl 1 r.1.length∧hp'=[.box 25 (fQ r.2),rO 78 2 Lbz r.1]:=by
 unfold Kzj at h
 refine QM Tryz.func73 E Z<|gA 7 E<|Kgs (t:=0) 78 2 E Z<|gO 5 E<|Kgp hΓ (enc:=eS) [[110,97],[110,98],[110,99]] E E E E E E E E E E E E Z<|gO 4 E<|bK h fun q4 hq4 h5=>Kge 8 E fun hb7=>Kjt [(0,.ptr 0 0),(3,.sl 1 q4.2.length)] [.box 25 (fQ q4.1),rO 78 2 Lbz q4.2] ?_ ?_
 ·refine gA 1 E<|Khk [[110,97],[110,98],[110,99]] hq4 (fun i1 s2=>[(0,.ptr 0 0),(3,.sl 1 s2.2.length),(8,.d (Sl eS [[110,97],[110,98],[110,99]])),(9,I ([[110,97],[110,98],[110,99]].length:Int)),(10,I (i1:Int))]) (fun s2=>[.box 25 (fQ s2.1),rO 78 2 Lbz s2.2]) ⟨⟨E,E,E,E,E,tV⟩,[],E,.inl E⟩ (fun i1 x3 s2 y11 hx8 hlt hy9=>?_) (?_)
  ·refine gA 6 E<|Kfp E (dT (Int.ofNat_lt.2 hlt))<|gA 6 E<|eo_o E (Kgf hΓ (enc:=eS) (Kfy hx8) E E E E E (fun _=>E))<|gO 6 E<|Kgp hΓ (enc:=eS) [[114,111,111,116],[115,97,102,101],[116,117,120]] E E E E E E E E E E E E Z<|gO 4 E<|bK hy9 fun q15 hq15 h16=>Kge 14 E fun hb18=>Kjt [(0,.ptr 0 0),(3,.sl 1 q15.2.length),(8,.d (Sl eS [[110,97],[110,98],[110,99]])),(9,I ([[110,97],[110,98],[110,99]].length:Int)),(10,I (i1:Int))] [.box 25 (fQ q15.1),rO 78 2 Lbz q15.2] ?_ ?_
   ·refine gA 1 E<|Khk [[114,111,111,116],[115,97,102,101],[116,117,120]] hq15 (fun i12 s13=>[(0,.ptr 0 0),(3,.sl 1 s13.2.length),(5,S x3),(8,.d (Sl eS [[110,97],[110,98],[110,99]])),(9,I ([[110,97],[110,98],[110,99]].length:Int)),(10,I (i1:Int)),(14,.d (Sl eS [[114,111,111,116],[115,97,102,101],[116,117,120]])),(15,I ([[114,111,111,116],[115,97,102,101],[116,117,120]].length:Int)),(16,I (i12:Int))]) (fun s13=>[.box 25 (fQ s13.1),rO 78 2 Lbz s13.2]) ⟨⟨E,E,E,E,E,E,E,E,E,tV⟩,[],E,.inl E⟩ (fun i12 x14 s13 y22 hx19 hlt hy20=>?_) (?_)
    ·refine gA 6 E<|Kfp E (dT (Int.ofNat_lt.2 hlt))<|gA 6 E<|eo_o E (Kgf hΓ (enc:=eS) (Kfy hx19) E E E E E (fun _=>E))<|bK hy20 fun y23 hy23 h24=>gO 7 E<|Kgu [0] (B y23.1) [.box 25 (fQ y23.2),rO 78 2 Lbz s13.2] C (Lcg hy23) E Z E E E E E E E E E E<|gO 2 E<|jC E h24 (fun h25=>?_) fun h28=>gA 7 E ?_
     ·refine gA 4 E<|Kdo hΓ (gs:=[S x3,S x14]) E E E E E E E<|Kgp hΓ (enc:=Lbz) [(⟨x3,x14⟩:Kwl)] E E E E E E E E E E E E Z<|bK h25 fun y26 hy26 h27=>Khe hΓ (enc:=Lbz) hy26 E E E E E E E E E (fun _=>E) E E E E<|gO 8 E ?_
      cases h27
      exact⟨⟨E,E,E,E,E,E,E,E,Keq E (Kep (nLl hlt hb18)),tV⟩,[],E,.inl E⟩
     cases h28
     exact⟨⟨E,E,E,E,E,E,E,E,Keq E (Kep (nLl hlt hb18)),tV⟩,[],E,.inl E⟩
    exact gA 6 E<|Kfq E (dF (Int.lt_irrefl _))<|gA 4 E<|⟨⟨E,E,E,E,E,tV⟩,[],E,.inl E⟩
   refine gA 6 E ?_
   cases h16
   exact⟨⟨E,E,E,E,Keq E (Kep (nLl hlt hb7)),tV⟩,[],E,.inl E⟩
  exact gA 6 E<|Kfq E (dF (Int.lt_irrefl _))<|gA 4 E<|⟨⟨E,E,tV⟩,[],E,.inl E⟩
 refine bK h5 fun y29 hy29 h30=>gA 5 E<|Kgu [0] (B y29.1) [.box 25 (fQ y29.2),rO 78 2 Lbz q4.2] C (Lcg hy29) E Z E E E E E E E E E E<|bK h30 fun q31 hq31 h32=>gO 2 E<|Kjt [(3,.sl 1 q31.2.length)] [.box 25 (fQ q31.1),rO 78 2 Lbz q31.2] ?_ ?_
 ·refine jC E hq31 (fun h33=>?_) fun h40=>gA 1 E<|oSi h40▸⟨⟨E,tV⟩,[],E,.inl E⟩
  exact gA 3 E<|Kgp hΓ (enc:=eS) [[],[110,97],[122,122]] E E E E E E E E E E E E Z<|bK h33 fun y34 hy34 h35=>Kgu [0] (S y34.1) [.box 25 (fQ y34.2),rO 78 2 Lbz q4.2] C (Lcj hy34) E Z E E E E E E E E E E<|gO 1 E<|Kgp hΓ (enc:=eS) [[],[116,117,120]] E E E E E E E E E E E E Z<|bK h35 fun y36 hy36 h37=>Kgu [0] (S y36.1) [.box 25 (fQ y36.2),rO 78 2 Lbz q4.2] C (Lcj hy36) E Z E E E E E E E E E E<|Kdo hΓ (gs:=[S y34.1,S y36.1]) E E E E E E E<|Kgp hΓ (enc:=Lbz) [(⟨y34.1,y36.1⟩:Kwl)] E E E E E E E E E E E E Z<|bK h37 fun y38 hy38 h39=>Khe hΓ (enc:=Lbz) hy38 E E E E E E E E E (fun _=>E) E E E E<|gO 2 E<|oSi h39▸⟨⟨E,tV⟩,[],E,.inl E⟩
 exact gA 8 E<|Kjp<|oSi h32▸Khi hΓ [] (.inr E) E E E E (.inl E)
theorem Ley{k:Nat}{a:List Kwl}{b:List Kwl}{r:(List Kwl)×Int}(h:Kzk k a b=some r):Pure Tryz.prog 74 [.d (Sl Lbz a),.d (Sl Lbz b)] (.tup [.d (Sl Lbz r.1),I r.2]):=by
 unfold Kzk at h
 refine QP Tryz.func74 E E E<|gA 11 E<|eo_o E (Kko hΓ (gs:=[.d (Sl Lbz a),.d (Sl Lbz b)]) E E E E E E)<|gO 3 E<|bK h fun q4 hq4 h5=>Kjs (R:=fun a6=>q4=.inl a6) (fun a6=>[(0,.d (Sl Lbz a)),(1,.d (Sl Lbz b))]) (fun a6=>[]) ?_ ?_
 ·refine gA 1 E<|Kgb hq4 (fun s2=>[(0,.d (Sl Lbz a)),(1,.d (Sl Lbz b)),(13,.agg [.d (Sl Lbz a),.d (Sl Lbz b)]),(14,I s2)]) (fun s2=>[]) ⟨⟨E,E,E,E,tV⟩,[],E,.inl E⟩ (fun s2 y10 hy8 hout9=>?_)
  refine gA 6 E<|jC E hy8 (fun h11=>?_) fun h57=>gA 4 E ?_
  ·refine bK h11 fun x12 hx12 h13=>gA 6 E<|eo_o E (Kkn hΓ (enc:=(eL Lbz)) [a,b] hx12 E E E E E E E (fun _=>E) E)<|gO 11 E<|jC E h13 (fun h14=>?_) fun h17=>gA 9 E<|bK h17 fun q21 hq21 h22=>Kge 7 E fun hb24=>Kjs (R:=fun a23=>q21=.go a23) (fun a23=>[(0,.d (Sl Lbz a)),(1,.d (Sl Lbz b)),(13,.agg [.d (Sl Lbz a),.d (Sl Lbz b)]),(14,I s2)]) (fun a23=>[]) ?_ ?_
   ·refine gA 10 E<|bK h14 fun v15 hv15 h16=>?_
    cases h16
    obtain rfl:=hout9 _ rfl
    cases h5
    exact gA 4 E<|oSi hv15▸gP E E
   ·refine gA 1 E<|Kgd x12 hq21 (fun i18 s19=>[(0,.d (Sl Lbz a)),(1,.d (Sl Lbz b)),(7,.d (Sl Lbz x12)),(13,.agg [.d (Sl Lbz a),.d (Sl Lbz b)]),(14,I s2),(20,.d (Sl Lbz x12)),(21,I (x12.length:Int)),(22,I (i18:Int))]) (fun s19=>[]) ⟨⟨E,E,E,E,E,E,E,E,tV⟩,[],E,.inl E⟩ (fun i18 x20 s19 y28 hx25 hlt hy26 hout27=>?_) (fun s19 hgo=>?_)
    ·refine gA 6 E<|Kfp E (dT (Int.ofNat_lt.2 hlt))<|gA 7 E<|eo_o E (Kgf hΓ (enc:=Lbz) (Kfy hx25) E E E E E (fun _=>E))<|gO 1 E<|Ksi hΓ E E E Z<|gO 1 E<|Ksn hΓ E E E E E E E E Z<|Khd [.box 78 [S x20.Node,S x20.Posture]] E<|bK hy26 fun y29 hy29 h30=>gO 7 E<|Kgv C (Lco hy29) E Z E E E E E<|gO 2 E<|bK h30 fun q31 hq31 h32=>Kfu 5 [(0,.d (Sl Lbz a)),(1,.d (Sl Lbz b)),(7,.d (Sl Lbz x12)),(8,I (i18:Int)),(9,.ptr 0 0),(13,.agg [.d (Sl Lbz a),.d (Sl Lbz b)]),(14,I s2),(20,.d (Sl Lbz x12)),(21,I (x12.length:Int)),(22,I (i18:Int)),(36,B q31)] [.box 78 [S x20.Node,S x20.Posture]] ?_ ?_
     ·refine Krc E E (fun hb=>?_) (fun hb=>?_)
      ·have h33:=cT hq31 hb
       exact gO 6 E<|oSi h33▸⟨⟨E,E,E,E,E,E,E,E,E,E,E,tV⟩,[],E,.inl E⟩
      have h34:=cF hq31 hb
      exact bK h34 fun y35 hy35 h36=>gO 2 E<|Kra E<|Kgv C (Lco hy35) E Z E E E E E<|gO 3 E<|oSi h36▸⟨⟨E,E,E,E,E,E,E,E,E,E,E,tV⟩,[],E,.inl E⟩
     refine gO 2 E<|jC E h32 (fun h37=>?_) fun h42=>bK h42 fun q43 hq43 h44=>gA 3 E<|Kjt [(0,.d (Sl Lbz a)),(1,.d (Sl Lbz b)),(7,.d (Sl Lbz x12)),(13,.agg [.d (Sl Lbz a),.d (Sl Lbz b)]),(14,I s2),(20,.d (Sl Lbz x12)),(21,I (x12.length:Int)),(22,I (i18:Int)),(48,B q43)] [.box 78 [S x20.Node,S x20.Posture]] ?_ ?_
     ·refine gA 10 E<|bK h37 fun v38 hv38 h39=>?_
      cases h39
      obtain rfl:=hout27 _ rfl
      cases h22
      refine gA 5 E<|bK hv38 fun v40 hv40 h41=>?_
      cases h41
      obtain rfl:=hout9 _ rfl
      cases h5
      exact gA 4 E<|oSi hv40▸gP E E
     ·refine jD<|gA 3 E<|Kdy E E (fun hb=>?_) (fun hb=>?_)
      ·have h45:=cT hq43 hb
       exact bK h45 fun x46 hx46 h47=>Kfm hΓ 3 E<|Kes E E (Kgf hΓ (enc:=Lbz) hx46 E E E E E (fun _=>E))<|bK h47 fun y48 hy48 h49=>Kfm hΓ 2 E<|Kgx C (Ldp hy48) E E E E E E E<|Kfm hΓ 3 E<|oSi h49▸⟨⟨E,E,E,E,E,E,E,E,E,tV⟩,[],E,.inl E⟩
      have h50:=cF hq43 hb
      exact Kfm hΓ 10 E<|oSi h50▸⟨⟨E,E,E,E,E,E,E,E,E,tV⟩,[],E,.inl E⟩
     refine gA 1 E<|jC E h44 (fun h51=>?_) fun h56=>gA 7 E ?_
     ·refine gA 9 E<|bK h51 fun v52 hv52 h53=>?_
      cases h53
      obtain rfl:=hout27 _ rfl
      cases h22
      refine gA 5 E<|bK hv52 fun v54 hv54 h55=>?_
      cases h55
      obtain rfl:=hout9 _ rfl
      cases h5
      exact gA 4 E<|oSi hv54▸gP E E
     cases h56
     exact⟨_,E,⟨⟨E,E,E,E,E,E,E,Keq E (Kep (nLl hlt hb24)),tV⟩,[_],E,.inr ⟨HB.mk E,FB.mk E,Z⟩⟩⟩
    subst hgo
    exact gA 6 E<|Kfq E (dF (Int.lt_irrefl _))<|gA 4 E<|⟨_,E,⟨⟨E,E,E,E,tV⟩,[],E,.inl E⟩⟩
   intro a23 ha
   subst ha
   replace h22:=Kjn h22
   exact gA 6 E<|oSi h22▸⟨_,E,⟨⟨E,E,E,E,tV⟩,[],E,.inl E⟩⟩
  cases h57
  obtain rfl:=hout9 _ rfl
  exact⟨_,E,⟨⟨E,E,tV⟩,[],E,.inl E⟩⟩
 intro a6 ha
 subst ha
 replace h5:=Kjm h5
 refine bK h5 fun y58 hy58 h59=>gA 4 E<|Kgu [] (.sl 0 y58.length) [rO 78 2 Lbz y58] C (Ldo hy58) E Z E E E E E E E E E E<|bK h59 fun y60 hy60 h61=>gO 1 E<|Khe hΓ (enc:=Lbz) hy60 E E E E E E E E E (fun _=>E) E E E E<|Khb 0 [54] _ [.dead] E E E Z<|bK h61 fun y62 hy62 h63=>Kgv C (Pure.rows (Lds hy62) E E) E Z E E E E E<|gO 11 E<|jC E h63 (fun h64=>?_) fun h65=>gA 10 E<|oSi h65▸gP E E
 exact gA 8 E<|oSi h64▸gP E E
theorem Lez{l:List Kwl}{r:Int}(h:Kzl l=some r):Pure Tryz.prog 75 [.d (Sl Lbz l)] (I r):=by
 unfold Kzl at h
 refine QP Tryz.func75 E E E<|gA 13 E<|jC E h (fun h1=>?_) fun h2=>gA 10 E<|bK h2 fun q6 hq6 h7=>Kge 0 E fun hb9=>Kjs (R:=fun a8=>q6=.go a8) (fun a8=>[]) (fun a8=>[]) ?_ ?_
 ·exact gA 7 E<|oSi h1▸gP E E
 ·refine gA 1 E<|Kgd l hq6 (fun i3 s4=>[(0,.d (Sl Lbz l)),(8,.d (Sl Lbz l)),(9,I (l.length:Int)),(10,I (i3:Int))]) (fun s4=>[]) ⟨⟨E,E,E,E,tV⟩,[],E,.inl E⟩ (fun i3 x5 s4 y13 hx10 hlt hy11 hout12=>?_) (fun s4 hgo=>?_)
  ·refine gA 6 E<|Kfp E (dT (Int.ofNat_lt.2 hlt))<|gA 7 E<|eo_o E (Kgf hΓ (enc:=Lbz) (Kfy hx10) E E E E E (fun _=>E))<|gO 1 E<|Ksi hΓ E E E Z<|gO 1 E<|Ksn hΓ E E E E E E E E Z<|Khd [.box 78 [S x5.Node,S x5.Posture]] E<|bK hy11 fun y14 hy14 h15=>gO 7 E<|Kgv C (Lea hy14) E Z E E E E E<|gO 2 E<|bK h15 fun q16 hq16 h17=>Kfu 5 [(0,.d (Sl Lbz l)),(3,I (i3:Int)),(4,.ptr 0 0),(8,.d (Sl Lbz l)),(9,I (l.length:Int)),(10,I (i3:Int)),(24,B q16)] [.box 78 [S x5.Node,S x5.Posture]] ?_ ?_
   ·refine Krc E E (fun hb=>?_) (fun hb=>?_)
    ·have h18:=cT hq16 hb
     exact gO 6 E<|oSi h18▸⟨⟨E,E,E,E,E,E,E,tV⟩,[],E,.inl E⟩
    have h19:=cF hq16 hb
    exact bK h19 fun y20 hy20 h21=>gO 2 E<|Kra E<|Kgv C (Lea hy20) E Z E E E E E<|gO 3 E<|oSi h21▸⟨⟨E,E,E,E,E,E,E,tV⟩,[],E,.inl E⟩
   refine gO 2 E<|jC E h17 (fun h22=>?_) fun h25=>bK h25 fun q26 hq26 h27=>gA 3 E<|Kjt [(0,.d (Sl Lbz l)),(8,.d (Sl Lbz l)),(9,I (l.length:Int)),(10,I (i3:Int)),(36,B q26)] [.box 78 [S x5.Node,S x5.Posture]] ?_ ?_
   ·refine gA 9 E<|bK h22 fun v23 hv23 h24=>?_
    cases h24
    obtain rfl:=hout12 _ rfl
    cases h7
    exact gA 4 E<|oSi hv23▸gP E E
   ·refine jD<|gA 3 E<|Kdy E E (fun hb=>?_) (fun hb=>?_)
    ·have h28:=cT hq26 hb
     exact bK h28 fun x29 hx29 h30=>Kfm hΓ 3 E<|Kes E E (Kgf hΓ (enc:=Lbz) hx29 E E E E E (fun _=>E))<|bK h30 fun y31 hy31 h32=>Kfm hΓ 2 E<|Kgx C (Les hy31) E E E E E E E<|Kfm hΓ 3 E<|oSi h32▸⟨⟨E,E,E,E,E,tV⟩,[],E,.inl E⟩
    have h33:=cF hq26 hb
    exact Kfm hΓ 10 E<|oSi h33▸⟨⟨E,E,E,E,E,tV⟩,[],E,.inl E⟩
   refine gA 1 E<|jC E h27 (fun h34=>?_) fun h37=>gA 7 E ?_
   ·refine gA 8 E<|bK h34 fun v35 hv35 h36=>?_
    cases h36
    obtain rfl:=hout12 _ rfl
    cases h7
    exact gA 4 E<|oSi hv35▸gP E E
   cases h37
   exact⟨_,E,⟨⟨E,E,E,Keq E (Kep (nLl hlt hb9)),tV⟩,[_],E,.inr ⟨HB.mk E,FB.mk E,Z⟩⟩⟩
  subst hgo
  exact gA 6 E<|Kfq E (dF (Int.lt_irrefl _))<|gA 4 E<|⟨_,E,⟨tV,[],E,.inl E⟩⟩
 intro a8 ha
 subst ha
 replace h7:=Kjn h7
 exact gA 7 E<|oSi h7▸gP E E
theorem Lfa{c:Int}{r:Bool}(h:Kzm c=some r):Pure Tryz.prog 212 [.d (.v (.int .u8 c))] (B r):=by
 unfold Kzm at h
 refine QP Tryz.func212 E E E<|gA 10 E<|Kfu 3 [(2,B false),(8,B ((decide ((c:Int)≥48))&&(decide ((c:Int)≤57))))] [] ?_ ?_
 ·refine Krc E E (fun hb=>?_) (fun hb=>?_)
  ·exact gO 4 E<|⟨⟨E,Ker E (Kho hb),tV⟩,[],E,.inl E⟩
  exact gO 4 E<|⟨⟨E,Ker E (Khp hb),tV⟩,[],E,.inl E⟩
 exact gO 4 E<|oSi h▸gP E E
theorem Lfb{k:Nat}{s:Str}{v_at:Int}{r:Int}(h:Kzn k s v_at=some r):Pure Tryz.prog 279 [S s,I v_at] (I r):=by
 unfold Kzn at h
 refine QP Tryz.func279 E E E<|gA 6 E<|bK h fun q4 hq4 h5=>Kjt [(1,I q4)] [] ?_ ?_
 ·refine gA 1 E<|Kgb hq4 (fun s2=>[(0,S s),(1,I s2)]) (fun s2=>[]) ⟨⟨E,E,tV⟩,[],E,.inl E⟩ (fun s2 y10 hy8 hout9=>?_)
  refine gA 8 E<|bK hy8 fun q11 hq11 h12=>Kfu 5 [(0,S s),(1,I s2),(14,B q11)] [] ?_ ?_
  ·refine Krc E E (fun hb=>?_) (fun hb=>?_)
   ·have h13:=cT hq11 hb
    exact bK h13 fun c14 hc14 h15=>gO 2 E<|Kra E<|eo_o E (Kgg hΓ hc14 E E E E)<|bK h15 fun y16 hy16 h17=>Kra E<|Kgv C (Lfa hy16) E Z E E E E E<|gO 2 E<|oSi h17▸⟨⟨E,E,E,tV⟩,[],E,.inl E⟩
   have h18:=cF hq11 hb
   exact gO 6 E<|oSi h18▸⟨⟨E,E,E,tV⟩,[],E,.inl E⟩
  refine gO 2 E<|jC E h12 (fun h19=>?_) fun h20=>gA 4 E ?_
  ·exact gA 9 E<|oSi h19▸⟨_,E,⟨⟨E,E,tV⟩,[],E,.inl E⟩⟩
  cases h20
  obtain rfl:=hout9 _ rfl
  exact⟨⟨E,tV⟩,[],E,.inl E⟩
 exact gA 8 E<|oSi h5▸gP E E
theorem Lfc{k:Nat}{s:Str}{most:Int}{r:Int×Bool}(h:Kzo k s most=some r):Pure Tryz.prog 335 [S s,I most] (.tup [I r.1,B r.2]):=by
 unfold Kzo at h
 refine QP Tryz.func335 E E E<|bK h fun y1 hy1 h2=>gA 9 E<|Kgv C (Kui hy1) E Z E E E E E<|gO 9 E<|Kfu 5 [(0,S s),(6,S y1),(19,B (((y1:Str)==[])||(decide (((y1.length:Int):Int)>most))))] [] ?_ ?_
 ·refine Krc E E (fun hb=>?_) (fun hb=>?_)
  ·exact gO 6 E<|⟨⟨E,E,Ker E (or_t hb),tV⟩,[],E,.inl E⟩
  exact gO 6 E<|⟨⟨E,E,Ker E (or_f hb),tV⟩,[],E,.inl E⟩
 refine gO 1 E<|bK h2 fun q3 hq3 h4=>Kfu 8 [(0,S s),(6,S y1),(28,B q3)] [] ?_ ?_
 ·refine Krc E E (fun hb=>?_) (fun hb=>?_)
  ·have h5:=cT hq3 hb
   exact gO 9 E<|oSi h5▸⟨⟨E,E,E,tV⟩,[],E,.inl E⟩
  have h6:=cF hq3 hb
  refine bK h6 fun c7 hc7 h8=>gO 1 E<|Kra E<|eo_o E (Kgg hΓ hc7 E E E E)<|gO 2 E<|Kfu 3 [(0,S s),(6,S y1),(20,B false),(27,B ((((c7.toNat:Int):Int)==48)&&(!((s:Str)==[48]))))] [] ?_ ?_
  ·refine Krc E E (fun hb=>?_) (fun hb=>?_)
   ·exact gO 4 E<|⟨⟨E,E,E,Ker E (Kho hb),tV⟩,[],E,.inl E⟩
   exact gO 4 E<|⟨⟨E,E,E,Ker E (Khp hb),tV⟩,[],E,.inl E⟩
  exact gO 2 E<|oSi h8▸⟨⟨E,E,E,tV⟩,[],E,.inl E⟩
 refine gO 2 E<|jC E h4 (fun h9=>?_) fun h10=>gA 8 E<|bK h10 fun q14 hq14 h15=>Kjs (R:=fun a16=>q14=.inl a16) (fun a16=>[(0,S s)]) (fun a16=>[]) ?_ ?_
 ·exact gA 8 E<|oSi h9▸gP E E
 ·refine gA 1 E<|Kgb hq14 (fun s12=>[(0,S s),(6,S y1),(7,I s12)]) (fun s12=>[]) ⟨⟨E,E,E,tV⟩,[],E,.inl E⟩ (fun s12 y20 hy18 hout19=>?_)
  refine gA 9 E<|jC E hy18 (fun h21=>?_) fun h34=>gA 4 E ?_
  ·refine bK h21 fun c22 hc22 h23=>gA 8 E<|eo_o E (Kgg hΓ hc22 E E E E)<|gO 2 E<|bK h23 fun q24 hq24 h25=>Kfu 5 [(0,S s),(6,S y1),(7,I s12),(44,B q24)] [] ?_ ?_
   ·refine Krc E E (fun hb=>?_) (fun hb=>?_)
    ·have h26:=cT hq24 hb
     exact gO 6 E<|oSi h26▸⟨⟨E,E,E,E,tV⟩,[],E,.inl E⟩
    have h27:=cF hq24 hb
    exact bK h27 fun c28 hc28 h29=>gO 2 E<|Kra E<|eo_o E (Kgg hΓ hc28 E E E E)<|gO 3 E<|oSi h29▸⟨⟨E,E,E,E,tV⟩,[],E,.inl E⟩
   refine gO 2 E<|jC E h25 (fun h30=>?_) fun h33=>gA 8 E<|oSi h33▸⟨_,E,⟨⟨E,E,E,tV⟩,[],E,.inl E⟩⟩
   refine gA 9 E<|bK h30 fun v31 hv31 h32=>?_
   cases h32
   obtain rfl:=hout19 _ rfl
   cases h15
   exact gA 4 E<|oSi hv31▸gP E E
  cases h34
  obtain rfl:=hout19 _ rfl
  exact⟨_,E,⟨⟨E,tV⟩,[],E,.inl E⟩⟩
 intro a16 ha
 subst ha
 replace h15:=Kjm h15
 exact bK h15 fun y35 hy35 h36=>gA 4 E<|Kgv C (Kum hy35) E Z E E E E E<|gO 8 E<|jD<|gA 2 E<|gl_o E (Kpa hΓ E E E E)<|Kfm hΓ 5 E<|oSi h36▸gP E E
theorem Lfd{k:Nat}{s:Str}{r:Int×Bool}(h:Kzp k s=some r):Pure Tryz.prog 280 [S s] (.tup [I r.1,B r.2]):=by
 unfold Kzp at h
 exact QP Tryz.func280 E E E<|bK h fun y1 hy1 h2=>gA 9 E<|Kgv C (Lfc hy1) E Z E E E E E<|gO 7 E<|oSi h2▸gP E E
theorem Lfe{k:Nat}{t:Kwp}{s:Str}{r:Kwp}(h:Kzq k t s=some r):EC Tryz.prog 213 [.ptr 0 0,S s] [.box 129 [S t.kind,I t.v_at,I t.v_end,S t.name,I t.value.Kind,I t.value.Number,S t.value.Words,I t.value.Version.1,I t.value.Version.2.1,I t.value.Version.2.2.1,I t.value.Version.2.2.2]] fun g hp'=>g=.tup []∧hp'=[.box 129 [S r.kind,I r.v_at,I r.v_end,S r.name,I r.value.Kind,I r.value.Number,S r.value.Words,I r.value.Version.1,I r.value.Version.2.1,I r.value.Version.2.2.1,I r.value.Version.2.2.2]]:=by
 unfold Kzq at h
 refine QN Tryz.func213 E Z<|bK h fun c1 hc1 h2=>gA 14 E<|eo_o E (Kgg hΓ hc1 E E E E)<|bK h2 fun q3 hq3 h4=>gO 3 E<|Kjt [(0,.ptr 0 0),(1,S s),(4,I q3)] [.box 129 [S t.kind,I t.v_at,I t.v_end,S t.name,I t.value.Kind,I t.value.Number,S t.value.Words,I t.value.Version.1,I t.value.Version.2.1,I t.value.Version.2.2.1,I t.value.Version.2.2.2]] ?_ ?_
 ·refine jC E hq3 (fun h5=>?_) fun h6=>gA 1 E<|oSi h6▸⟨⟨E,E,E,tV⟩,[],E,.inl E⟩
  exact gA 5 E<|oSi h5▸⟨⟨E,E,E,tV⟩,[],E,.inl E⟩
 refine bK h4 fun y7 hy7 h8=>gA 6 E<|Kgv C (Lfb hy7) E Z E E E E E<|gO 2 E<|Ksn hΓ E E E E E E E E Z<|Khd [.box 129 [S t.kind,I t.v_at,I y7,S t.name,I t.value.Kind,I t.value.Number,S t.value.Words,I t.value.Version.1,I t.value.Version.2.1,I t.value.Version.2.2.1,I t.value.Version.2.2.2]] E<|gO 3 E<|jD<|bK h8 fun z9 hz9 h10=>gA 9 E<|gl_o E (Kgi hΓ hz9 E E E E E)<|bK h10 fun y11 hy11 h12=>Kgw C (Lfd hy11) E E E E E E<|Kfm hΓ 12 E<|jC E h12 (fun h13=>?_) fun h14=>gA 1 E<|oSi h14▸Khi hΓ [] (.inl E) E E E E (.inl E)
 exact gA 4 E<|Kdo hΓ (gs:=[I 1,I y11.1,S [],I 0,I 0,I 0,I 0]) E E E E E E E<|gO 2 E<|Ksn hΓ E E E E E E E E Z<|Khd [.box 129 [S [118,97,108,117,101],I t.v_at,I y7,S t.name,I t.value.Kind,I t.value.Number,S t.value.Words,I t.value.Version.1,I t.value.Version.2.1,I t.value.Version.2.2.1,I t.value.Version.2.2.2]] E<|gO 2 E<|Ksn hΓ E E E E E E E E Z<|Khd [.box 129 [S [118,97,108,117,101],I t.v_at,I y7,S t.name,I 1,I y11.1,S [],I 0,I 0,I 0,I 0]] E<|gO 1 E<|oSi h13▸Khi hΓ [] (.inl E) E E E E (.inl E)
theorem Lff{k:Nat}{t:Kwp}{s:Str}{r:Kwp}(h:Kzr k t s=some r):EC Tryz.prog 214 [.ptr 0 0,S s] [.box 129 [S t.kind,I t.v_at,I t.v_end,S t.name,I t.value.Kind,I t.value.Number,S t.value.Words,I t.value.Version.1,I t.value.Version.2.1,I t.value.Version.2.2.1,I t.value.Version.2.2.2]] fun g hp'=>g=.tup []∧hp'=[.box 129 [S r.kind,I r.v_at,I r.v_end,S r.name,I r.value.Kind,I r.value.Number,S r.value.Words,I r.value.Version.1,I r.value.Version.2.1,I r.value.Version.2.2.1,I r.value.Version.2.2.2]]:=by
 unfold Kzr at h
 refine QN Tryz.func214 E Z<|gA 2 E<|Kgs (t:=0) 5 1 E Z<|gO 12 E<|bK h fun q4 hq4 h5=>Kjs (R:=fun a6=>q4=.inl a6) (fun a6=>[]) (fun a6=>[.box 129 [S t.kind,I t.v_at,I t.v_end,S t.name,I t.value.Kind,I t.value.Number,S t.value.Words,I t.value.Version.1,I t.value.Version.2.1,I t.value.Version.2.2.1,I t.value.Version.2.2.2],rO 5 1 (eN .u8) a6]) ?_ ?_
 ·refine gA 1 E<|Kgb hq4 (fun s2=>[(0,.ptr 0 0),(1,S s),(4,.sl 1 s2.1.length),(5,I s2.2)]) (fun s2=>[.box 129 [S t.kind,I t.v_at,I t.v_end,S t.name,I t.value.Kind,I t.value.Number,S t.value.Words,I t.value.Version.1,I t.value.Version.2.1,I t.value.Version.2.2.1,I t.value.Version.2.2.2],rO 5 1 (eN .u8) s2.1]) ⟨⟨E,E,E,E,tV⟩,[],E,.inl E⟩ (fun s2 y10 hy8 hout9=>?_)
  refine gA 9 E<|Kfo E (fun hb=>?_) (fun hb=>?_)
  ·have h11:=cT hy8 hb
   refine bK h11 fun c12 hc12 h13=>gA 8 E<|eo_o E (Kgg hΓ hc12 E E E E)<|bK h13 fun q14 hq14 h15=>gO 4 E<|Kjv (q:=q14) (fun a16=>[(0,.ptr 0 0),(1,S s),(4,.sl 1 s2.1.length),(5,I a16.1),(6,.d (.v (.int .u8 a16.2)))]) (fun a16=>[.box 129 [S t.kind,I t.v_at,I t.v_end,S t.name,I t.value.Kind,I t.value.Number,S t.value.Words,I t.value.Version.1,I t.value.Version.2.1,I t.value.Version.2.2.1,I t.value.Version.2.2.2],rO 5 1 (eN .u8) s2.1]) ?_ ?_
   ·refine gA 8 E<|Kfo E (fun hb=>?_) (fun hb=>?_)
    ·have h17:=cT hq14 hb
     refine bK h17 fun y18 hy18 h19=>gA 8 E<|eo_o E (Khv hΓ hy18 E E E E E E E E E)<|Kdo hΓ (gs:=[I 2,I 0,S y18,I 0,I 0,I 0,I 0]) E E E E E E E<|gO 2 E<|Ksn hΓ E E E E E E E E Z<|Khd [.box 129 [S [118,97,108,117,101],I t.v_at,I t.v_end,S t.name,I t.value.Kind,I t.value.Number,S t.value.Words,I t.value.Version.1,I t.value.Version.2.1,I t.value.Version.2.2.1,I t.value.Version.2.2.2],rO 5 1 (eN .u8) s2.1] E<|gO 2 E<|Ksn hΓ E E E E E E E E Z<|Khd [.box 129 [S [118,97,108,117,101],I t.v_at,I (wi (s2.2+1)),S t.name,I t.value.Kind,I t.value.Number,S t.value.Words,I t.value.Version.1,I t.value.Version.2.1,I t.value.Version.2.2.1,I t.value.Version.2.2.2],rO 5 1 (eN .u8) s2.1] E<|gO 2 E<|Ksn hΓ E E E E E E E E Z<|Khd [.box 129 [S [118,97,108,117,101],I t.v_at,I (wi (s2.2+1)),S t.name,I 2,I 0,S y18,I 0,I 0,I 0,I 0],rO 5 1 (eN .u8) s2.1] E<|gO 4 E<|bK h19 fun v20 hv20 h21=>?_
     cases h21
     cases h15
     refine gA 4 E<|bK hv20 fun v22 hv22 h23=>?_
     cases h23
     obtain rfl:=hout9 _ rfl
     cases h5
     exact gA 3 E<|oSi hv22▸Khi hΓ [_] (.inr E) E E E E (.inr ⟨HB.mk E,E⟩)
    have h24:=cF hq14 hb
    refine gA 5 E<|Kfu 3 [(0,.ptr 0 0),(1,S s),(4,.sl 1 s2.1.length),(5,I s2.2),(6,.d (.v (.int .u8 (c12.toNat:Int)))),(44,B ((decide (((c12.toNat:Int):Int)<32))||(decide (((c12.toNat:Int):Int)>126))))] [.box 129 [S t.kind,I t.v_at,I t.v_end,S t.name,I t.value.Kind,I t.value.Number,S t.value.Words,I t.value.Version.1,I t.value.Version.2.1,I t.value.Version.2.2.1,I t.value.Version.2.2.2],rO 5 1 (eN .u8) s2.1] ?_ ?_
    ·refine Krc E E (fun hb=>?_) (fun hb=>?_)
     ·exact gO 4 E<|⟨⟨E,E,E,E,E,Ker E (or_t hb),tV⟩,[],E,.inl E⟩
     exact gO 4 E<|⟨⟨E,E,E,E,E,Ker E (or_f hb),tV⟩,[],E,.inl E⟩
    refine gO 3 E<|jC E h24 (fun h25=>?_) fun h30=>gA 7 E<|jC E h30 (fun h31=>?_) fun h52=>?_
    ·refine gA 2 E<|bK h25 fun v26 hv26 h27=>?_
     cases h27
     cases h15
     refine gA 4 E<|bK hv26 fun v28 hv28 h29=>?_
     cases h29
     obtain rfl:=hout9 _ rfl
     cases h5
     exact gA 3 E<|oSi hv28▸Khi hΓ [_] (.inr E) E E E E (.inr ⟨HB.mk E,E⟩)
    ·refine gA 15 E<|bK h31 fun q32 hq32 h33=>Kfu 11 [(0,.ptr 0 0),(1,S s),(4,.sl 1 s2.1.length),(5,I (wi (s2.2+1))),(65,B q32)] [.box 129 [S t.kind,I t.v_at,I t.v_end,S t.name,I t.value.Kind,I t.value.Number,S t.value.Words,I t.value.Version.1,I t.value.Version.2.1,I t.value.Version.2.2.1,I t.value.Version.2.2.2],rO 5 1 (eN .u8) s2.1] ?_ ?_
     ·refine Krc E E (fun hb=>?_) (fun hb=>?_)
      ·have h34:=cT hq32 hb
       exact gO 12 E<|oSi h34▸⟨⟨E,E,E,E,E,tV⟩,[],E,.inl E⟩
      have h35:=cF hq32 hb
      refine bK h35 fun c36 hc36 h37=>gO 2 E<|Kra E<|eo_o E (Kgg hΓ hc36 E E E E)<|gO 2 E<|bK h37 fun q38 hq38 h39=>Kfu 5 [(0,.ptr 0 0),(1,S s),(4,.sl 1 s2.1.length),(5,I (wi (s2.2+1))),(54,B false),(64,B q38)] [.box 129 [S t.kind,I t.v_at,I t.v_end,S t.name,I t.value.Kind,I t.value.Number,S t.value.Words,I t.value.Version.1,I t.value.Version.2.1,I t.value.Version.2.2.1,I t.value.Version.2.2.2],rO 5 1 (eN .u8) s2.1] ?_ ?_
      ·refine Krc E E (fun hb=>?_) (fun hb=>?_)
       ·have h40:=cT hq38 hb
        exact bK h40 fun c41 hc41 h42=>gO 2 E<|Kra E<|eo_o E (Kgg hΓ hc41 E E E E)<|gO 3 E<|oSi h42▸⟨⟨E,E,E,E,E,E,tV⟩,[],E,.inl E⟩
       have h43:=cF hq38 hb
       exact gO 6 E<|oSi h43▸⟨⟨E,E,E,E,E,E,tV⟩,[],E,.inl E⟩
      exact gO 2 E<|oSi h39▸⟨⟨E,E,E,E,E,tV⟩,[],E,.inl E⟩
     refine gO 2 E<|jC E h33 (fun h44=>?_) fun h49=>bK h49 fun c50 hc50 h51=>gA 5 E<|eo_o E (Kgg hΓ hc50 E E E E)<|gO 3 E<|oSi h51▸⟨_,E,⟨⟨E,E,E,E,E,tV⟩,[],E,.inl E⟩⟩
     refine gA 3 E<|bK h44 fun v45 hv45 h46=>?_
     cases h46
     cases h15
     refine gA 4 E<|bK hv45 fun v47 hv47 h48=>?_
     cases h48
     obtain rfl:=hout9 _ rfl
     cases h5
     exact gA 3 E<|oSi hv47▸Khi hΓ [_] (.inr E) E E E E (.inr ⟨HB.mk E,E⟩)
    exact gA 2 E<|oSi h52▸⟨_,E,⟨⟨E,E,E,E,E,tV⟩,[],E,.inl E⟩⟩
   intro a16 ha
   subst ha
   replace h15:=Kjm h15
   exact gA 4 E<|Kgp hΓ (enc:=(eN .u8)) [a16.2] E E E E E E E E E E E E Z<|bK h15 fun y53 hy53 h54=>Khe hΓ (enc:=(eN .u8)) hy53 E E E E E E E E E (fun _=>E) E E E E<|gO 9 E<|oSi h54▸⟨_,E,⟨⟨E,E,E,E,tV⟩,[],E,.inl E⟩⟩
  have h55:=cF hy8 hb
  refine gA 4 E ?_
  cases h55
  obtain rfl:=hout9 _ rfl
  exact⟨_,E,⟨tV,[],E,.inl E⟩⟩
 intro a6 ha
 subst ha
 replace h5:=Kjm h5
 exact oSi h5▸Khi hΓ [_] (.inl E) E E E E (.inr ⟨HB.mk E,E⟩)
theorem Lfg{s:Str}{r:Bool}(h:Kzs s=some r):Pure Tryz.prog 215 [S s] (B r):=by
 unfold Kzs at h
 refine QP Tryz.func215 E E E<|gA 11 E<|bK h fun q1 hq1 h2=>Kfu 4 [(0,S s),(2,B false),(10,B q1)] [] ?_ ?_
 ·refine Krc E E (fun hb=>?_) (fun hb=>?_)
  ·have h3:=cT hq1 hb
   exact bK h3 fun c4 hc4 h5=>gO 1 E<|Kra E<|eo_o E (Kgg hΓ hc4 E E E E)<|gO 3 E<|oSi h5▸⟨⟨E,E,E,tV⟩,[],E,.inl E⟩
  have h6:=cF hq1 hb
  exact gO 5 E<|oSi h6▸⟨⟨E,E,E,tV⟩,[],E,.inl E⟩
 refine gO 1 E<|bK h2 fun q7 hq7 h8=>Kfu 4 [(2,B false),(15,B q7)] [] ?_ ?_
 ·refine Krc E E (fun hb=>?_) (fun hb=>?_)
  ·have h9:=cT hq7 hb
   exact bK h9 fun c10 hc10 h11=>gO 1 E<|Kra E<|eo_o E (Kgg hΓ hc10 E E E E)<|bK h11 fun y12 hy12 h13=>Kra E<|Kgv C (Lfa hy12) E Z E E E E E<|gO 2 E<|oSi h13▸⟨⟨E,E,tV⟩,[],E,.inl E⟩
  have h14:=cF hq7 hb
  exact gO 5 E<|oSi h14▸⟨⟨E,E,tV⟩,[],E,.inl E⟩
 exact gO 4 E<|oSi h8▸gP E E
theorem Lfh{k:Nat}{l:List Str}{r:(List Int)×Bool}(h:Kzt k l=some r):Pure Tryz.prog 281 [.d (Sl eS l)] (.tup [.d (Sl (eN .i64) r.1),B r.2]):=by
 unfold Kzt at h
 refine QP Tryz.func281 E E E<|gA 8 E<|Kgs (t:=0) 3 1 E Z<|gO 10 E<|bK h fun q4 hq4 h5=>Kge 9 E fun hb7=>Kjs (R:=fun a6=>q4=.go a6) (fun a6=>[(4,.sl 0 a6.length)]) (fun a6=>[rO 3 1 (eN .i64) a6]) ?_ ?_
 ·refine gA 1 E<|Kgd l hq4 (fun i1 s2=>[(4,.sl 0 s2.length),(9,.d (Sl eS l)),(10,I (l.length:Int)),(11,I (i1:Int))]) (fun s2=>[rO 3 1 (eN .i64) s2]) ⟨⟨E,E,E,E,tV⟩,[],E,.inl E⟩ (fun i1 x3 s2 y11 hx8 hlt hy9 hout10=>?_) (fun s2 hgo=>?_)
  ·refine gA 6 E<|Kfp E (dT (Int.ofNat_lt.2 hlt))<|gA 6 E<|eo_o E (Kgf hΓ (enc:=eS) (Kfy hx8) E E E E E (fun _=>E))<|bK hy9 fun y12 hy12 h13=>gO 7 E<|Kgv C (Lfd hy12) E Z E E E E E<|gO 14 E<|jC E h13 (fun h14=>?_) fun h17=>gA 5 E<|Kgp hΓ (enc:=(eN .i64)) [y12.1] E E E E E E E E E E E E Z<|bK h17 fun y18 hy18 h19=>Khe hΓ (enc:=(eN .i64)) hy18 E E E E E E E E E (fun _=>E) E E E E<|gO 8 E ?_
   ·refine gA 10 E<|bK h14 fun v15 hv15 h16=>?_
    cases h16
    obtain rfl:=hout10 _ rfl
    cases h5
    exact gA 4 E<|oSi hv15▸gP E E
   cases h19
   exact⟨_,E,⟨⟨E,E,E,Keq E (Kep (nLl hlt hb7)),tV⟩,[],E,.inl E⟩⟩
  subst hgo
  exact gA 6 E<|Kfq E (dF (Int.lt_irrefl _))<|gA 4 E<|⟨_,E,⟨⟨E,tV⟩,[],E,.inl E⟩⟩
 intro a6 ha
 subst ha
 replace h5:=Kjn h5
 exact gA 5 E<|Khb 0 [2,4,27] _ [.dead] E E E Z<|gO 4 E<|oSi h5▸gP E E
theorem Lfi{k:Nat}{t:Kwp}{s:Str}{r:Kwp}(h:Kzu k t s=some r):EC Tryz.prog 216 [.ptr 0 0,S s] [.box 129 [S t.kind,I t.v_at,I t.v_end,S t.name,I t.value.Kind,I t.value.Number,S t.value.Words,I t.value.Version.1,I t.value.Version.2.1,I t.value.Version.2.2.1,I t.value.Version.2.2.2]] fun g hp'=>g=.tup []∧hp'=[.box 129 [S r.kind,I r.v_at,I r.v_end,S r.name,I r.value.Kind,I r.value.Number,S r.value.Words,I r.value.Version.1,I r.value.Version.2.1,I r.value.Version.2.2.1,I r.value.Version.2.2.2]]:=by
 unfold Kzu at h
 refine QN Tryz.func216 E Z<|gA 10 E<|Ksn hΓ E E E E E E E E Z<|Khd [.box 129 [S t.kind,I t.v_at,I (wi (t.v_at+1)),S t.name,I t.value.Kind,I t.value.Number,S t.value.Words,I t.value.Version.1,I t.value.Version.2.1,I t.value.Version.2.2.1,I t.value.Version.2.2.2]] E<|gO 3 E<|bK h fun q4 hq4 h5=>Kjt [(0,.ptr 0 0),(1,S s)] [.box 129 [S t.kind,I t.v_at,I q4,S t.name,I t.value.Kind,I t.value.Number,S t.value.Words,I t.value.Version.1,I t.value.Version.2.1,I t.value.Version.2.2.1,I t.value.Version.2.2.2]] ?_ ?_
 ·refine gA 1 E<|Kgb hq4 (fun s2=>[(0,.ptr 0 0),(1,S s)]) (fun s2=>[.box 129 [S t.kind,I t.v_at,I s2,S t.name,I t.value.Kind,I t.value.Number,S t.value.Words,I t.value.Version.1,I t.value.Version.2.1,I t.value.Version.2.2.1,I t.value.Version.2.2.2]]) ⟨⟨E,E,tV⟩,[],E,.inl E⟩ (fun s2 y10 hy8 hout9=>?_)
  refine gA 11 E<|bK hy8 fun q11 hq11 h12=>Kfu 17 [(0,.ptr 0 0),(1,S s),(39,B q11)] [.box 129 [S t.kind,I t.v_at,I s2,S t.name,I t.value.Kind,I t.value.Number,S t.value.Words,I t.value.Version.1,I t.value.Version.2.1,I t.value.Version.2.2.1,I t.value.Version.2.2.2]] ?_ ?_
  ·refine Krc E E (fun hb=>?_) (fun hb=>?_)
   ·have h13:=cT hq11 hb
    refine bK h13 fun c14 hc14 h15=>gO 5 E<|Kra E<|eo_o E (Kgg hΓ hc14 E E E E)<|bK h15 fun y16 hy16 h17=>Kra E<|Kgv C (Lfa hy16) E Z E E E E E<|gO 1 E<|bK h17 fun q18 hq18 h19=>Kfu 8 [(0,.ptr 0 0),(1,S s),(22,B true),(38,B q18)] [.box 129 [S t.kind,I t.v_at,I s2,S t.name,I t.value.Kind,I t.value.Number,S t.value.Words,I t.value.Version.1,I t.value.Version.2.1,I t.value.Version.2.2.1,I t.value.Version.2.2.2]] ?_ ?_
    ·refine Krc E E (fun hb=>?_) (fun hb=>?_)
     ·have h20:=cT hq18 hb
      exact gO 9 E<|oSi h20▸⟨⟨E,E,E,E,tV⟩,[],E,.inl E⟩
     have h21:=cF hq18 hb
     exact bK h21 fun c22 hc22 h23=>gO 5 E<|Kra E<|eo_o E (Kgg hΓ hc22 E E E E)<|gO 3 E<|oSi h23▸⟨⟨E,E,E,E,tV⟩,[],E,.inl E⟩
    exact gO 2 E<|oSi h19▸⟨⟨E,E,E,tV⟩,[],E,.inl E⟩
   have h24:=cF hq11 hb
   exact gO 18 E<|oSi h24▸⟨⟨E,E,E,tV⟩,[],E,.inl E⟩
  refine gO 2 E<|jC E h12 (fun h25=>?_) fun h26=>gA 4 E ?_
  ·exact gA 11 E<|Ksn hΓ E E E E E E E E Z<|Khd [.box 129 [S t.kind,I t.v_at,I (wi (s2+1)),S t.name,I t.value.Kind,I t.value.Number,S t.value.Words,I t.value.Version.1,I t.value.Version.2.1,I t.value.Version.2.2.1,I t.value.Version.2.2.2]] E<|gO 2 E<|oSi h25▸⟨_,E,⟨⟨E,E,tV⟩,[],E,.inl E⟩⟩
  cases h26
  obtain rfl:=hout9 _ rfl
  exact⟨⟨E,E,tV⟩,[],E,.inl E⟩
 refine gA 2 E<|jD<|bK h5 fun z27 hz27 h28=>gA 10 E<|gl_o E (Kgi hΓ hz27 E E E E E)<|bK h28 fun y29 hy29 h30=>Kgw C (Pure.rows (Kuk hy29) E E) E E E E E E<|bK h30 fun y31 hy31 h32=>Kfm hΓ 6 E<|Kgv C (Lfh hy31) E Z E E E E E<|gO 13 E<|Kfu 4 [(0,.ptr 0 0),(5,.d (Sl (eN .i64) y31.1)),(70,B ((!y31.2)||(decide (((y29.length:Int):Int)>4))))] [.box 129 [S t.kind,I t.v_at,I q4,S t.name,I t.value.Kind,I t.value.Number,S t.value.Words,I t.value.Version.1,I t.value.Version.2.1,I t.value.Version.2.2.1,I t.value.Version.2.2.2]] ?_ ?_
 ·refine Krc E E (fun hb=>?_) (fun hb=>?_)
  ·exact gO 5 E<|⟨⟨E,E,Ker E (or_t hb),tV⟩,[],E,.inl E⟩
  exact gO 5 E<|⟨⟨E,E,Ker E (or_f hb),tV⟩,[],E,.inl E⟩
 refine gO 2 E<|jC E h32 (fun h33=>?_) fun h34=>gA 6 E<|Kdo hΓ (gs:=[I 4,I 0,S [],I 0,I 0,I 0,I 0]) E E E E E E E<|gO 2 E<|Ksn hΓ E E E E E E E E Z<|Khd [.box 129 [S [118,97,108,117,101],I t.v_at,I q4,S t.name,I t.value.Kind,I t.value.Number,S t.value.Words,I t.value.Version.1,I t.value.Version.2.1,I t.value.Version.2.2.1,I t.value.Version.2.2.2]] E<|gO 2 E<|Ksn hΓ E E E E E E E E Z<|Khd [.box 129 [S [118,97,108,117,101],I t.v_at,I q4,S t.name,I 4,I 0,S [],I 0,I 0,I 0,I 0]] E<|gO 7 E<|eo_o E (Kph hΓ (n:=4) (a:=(0:Int)) E E E E E E E)<|gO 1 E<|eo_s Z (nblt.1 E) (Kpi hΓ (pre:=[S [118,97,108,117,101],I t.v_at,I q4,S t.name,I 4,I 0,S []]) (post:=[]) (l:=[0,0,0,0]) (xs:=y31.1) (k:=.i64) (p:=7) (o:=(0:Int).toNat) (n:=4 - (0:Int).toNat) (Kpf (a:=0) (n:=4) E) E E E E E E E E E)<|Khd [.box 129 [S [118,97,108,117,101],I t.v_at,I q4,S t.name,I 4,I 0,S [],I (cpA (0:Int).toNat y31.1 0 0),I (cpA (0:Int).toNat y31.1 1 0),I (cpA (0:Int).toNat y31.1 2 0),I (cpA (0:Int).toNat y31.1 3 0)]] E<|gO 1 E<|oSi h34▸Khi hΓ [] (.inl E) E E E E (.inl E)
 exact gA 2 E<|oSi h33▸Khi hΓ [] (.inr E) E E E E (.inl E)
theorem Lfj{c:Int}{r:Bool}(h:Kzv c=some r):Pure Tryz.prog 282 [.d (.v (.int .u8 c))] (B r):=by
 unfold Kzv at h
 refine QP Tryz.func282 E E E<|gA 10 E<|Kfu 3 [(0,.d (.v (.int .u8 c))),(2,B false),(8,B ((decide ((c:Int)≥97))&&(decide ((c:Int)≤122))))] [] ?_ ?_
 ·refine Krc E E (fun hb=>?_) (fun hb=>?_)
  ·exact gO 4 E<|⟨⟨E,E,Ker E (Kho hb),tV⟩,[],E,.inl E⟩
  exact gO 4 E<|⟨⟨E,E,Ker E (Khp hb),tV⟩,[],E,.inl E⟩
 refine gO 1 E<|bK h fun q1 hq1 h2=>Kfu 3 [(0,.d (.v (.int .u8 c))),(2,B false),(12,B q1)] [] ?_ ?_
 ·refine Krc E E (fun hb=>?_) (fun hb=>?_)
  ·have h3:=cT hq1 hb
   exact gO 4 E<|oSi h3▸⟨⟨E,E,E,tV⟩,[],E,.inl E⟩
  have h4:=cF hq1 hb
  exact bK h4 fun y5 hy5 h6=>gO 1 E<|Kra E<|Kgv C (Lfa hy5) E Z E E E E E<|gO 2 E<|oSi h6▸⟨⟨E,E,E,tV⟩,[],E,.inl E⟩
 refine gO 1 E<|Kfu 3 [(0,.d (.v (.int .u8 c))),(2,B false),(16,B (q1||((c:Int)==45)))] [] ?_ ?_
 ·refine Krc E E (fun hb=>?_) (fun hb=>?_)
  ·exact gO 4 E<|⟨⟨E,E,Ker E (or_t hb),tV⟩,[],E,.inl E⟩
  exact gO 4 E<|⟨⟨E,E,Ker E (or_f hb),tV⟩,[],E,.inl E⟩
 refine gO 1 E<|Kfu 3 [(2,B false),(20,B ((q1||((c:Int)==45))||((c:Int)==95)))] [] ?_ ?_
 ·refine Krc E E (fun hb=>?_) (fun hb=>?_)
  ·exact gO 4 E<|⟨⟨E,Ker E (or_t hb),tV⟩,[],E,.inl E⟩
  exact gO 4 E<|⟨⟨E,Ker E (or_f hb),tV⟩,[],E,.inl E⟩
 exact gO 4 E<|oSi h2▸gP E E
theorem Lfk{k:Nat}{t:Kwp}{s:Str}{r:Kwp}(h:Kzw k t s=some r):EC Tryz.prog 217 [.ptr 0 0,S s] [.box 129 [S t.kind,I t.v_at,I t.v_end,S t.name,I t.value.Kind,I t.value.Number,S t.value.Words,I t.value.Version.1,I t.value.Version.2.1,I t.value.Version.2.2.1,I t.value.Version.2.2.2]] fun g hp'=>g=.tup []∧hp'=[.box 129 [S r.kind,I r.v_at,I r.v_end,S r.name,I r.value.Kind,I r.value.Number,S r.value.Words,I r.value.Version.1,I r.value.Version.2.1,I r.value.Version.2.2.1,I r.value.Version.2.2.2]]:=by
 unfold Kzw at h
 refine QN Tryz.func217 E Z<|gA 9 E<|Ksn hΓ E E E E E E E E Z<|Khd [.box 129 [S t.kind,I t.v_at,I t.v_at,S t.name,I t.value.Kind,I t.value.Number,S t.value.Words,I t.value.Version.1,I t.value.Version.2.1,I t.value.Version.2.2.1,I t.value.Version.2.2.2]] E<|gO 3 E<|bK h fun q4 hq4 h5=>Kjt [(0,.ptr 0 0),(1,S s)] [.box 129 [S t.kind,I t.v_at,I q4,S t.name,I t.value.Kind,I t.value.Number,S t.value.Words,I t.value.Version.1,I t.value.Version.2.1,I t.value.Version.2.2.1,I t.value.Version.2.2.2]] ?_ ?_
 ·refine gA 1 E<|Kgb hq4 (fun s2=>[(0,.ptr 0 0),(1,S s)]) (fun s2=>[.box 129 [S t.kind,I t.v_at,I s2,S t.name,I t.value.Kind,I t.value.Number,S t.value.Words,I t.value.Version.1,I t.value.Version.2.1,I t.value.Version.2.2.1,I t.value.Version.2.2.2]]) ⟨⟨E,E,tV⟩,[],E,.inl E⟩ (fun s2 y10 hy8 hout9=>?_)
  refine gA 11 E<|bK hy8 fun q11 hq11 h12=>Kfu 8 [(0,.ptr 0 0),(1,S s),(26,B q11)] [.box 129 [S t.kind,I t.v_at,I s2,S t.name,I t.value.Kind,I t.value.Number,S t.value.Words,I t.value.Version.1,I t.value.Version.2.1,I t.value.Version.2.2.1,I t.value.Version.2.2.2]] ?_ ?_
  ·refine Krc E E (fun hb=>?_) (fun hb=>?_)
   ·have h13:=cT hq11 hb
    exact bK h13 fun c14 hc14 h15=>gO 5 E<|Kra E<|eo_o E (Kgg hΓ hc14 E E E E)<|bK h15 fun y16 hy16 h17=>Kra E<|Kgv C (Lfj hy16) E Z E E E E E<|gO 2 E<|oSi h17▸⟨⟨E,E,E,tV⟩,[],E,.inl E⟩
   have h18:=cF hq11 hb
   exact gO 9 E<|oSi h18▸⟨⟨E,E,E,tV⟩,[],E,.inl E⟩
  refine gO 2 E<|jC E h12 (fun h19=>?_) fun h20=>gA 4 E ?_
  ·exact gA 11 E<|Ksn hΓ E E E E E E E E Z<|Khd [.box 129 [S t.kind,I t.v_at,I (wi (s2+1)),S t.name,I t.value.Kind,I t.value.Number,S t.value.Words,I t.value.Version.1,I t.value.Version.2.1,I t.value.Version.2.2.1,I t.value.Version.2.2.2]] E<|gO 2 E<|oSi h19▸⟨_,E,⟨⟨E,E,tV⟩,[],E,.inl E⟩⟩
  cases h20
  obtain rfl:=hout9 _ rfl
  exact⟨⟨E,E,tV⟩,[],E,.inl E⟩
 refine gA 2 E<|Kit [.box 129 [S t.kind,I t.v_at,I q4,S t.name,I t.value.Kind,I t.value.Number,S t.value.Words,I t.value.Version.1,I t.value.Version.2.1,I t.value.Version.2.2.1,I t.value.Version.2.2.2]] [6,10] [14,17] [14,17] hmix (by kernel_rfl) (by kernel_rfl) ⟨E,tV⟩ Z<|bK h5 fun z21 hz21 h22=>go_E hΓ 11 E<|ge_q E (.inl E) (fun _ _=>Kiv (qt_p (Kgi hΓ hz21 E E E E E)))<|go_E hΓ 2 E<|Kja [.box 129 [S [110,97,109,101],I t.v_at,I q4,S t.name,I t.value.Kind,I t.value.Number,S t.value.Words,I t.value.Version.1,I t.value.Version.2.1,I t.value.Version.2.2.1,I t.value.Version.2.2.2]] E E (Kjb E) (Kjg (Kke hΓ E E E E E E E E E))<|go_E hΓ 2 E<|Kja [.box 129 [S [110,97,109,101],I t.v_at,I q4,S z21,I t.value.Kind,I t.value.Number,S t.value.Words,I t.value.Version.1,I t.value.Version.2.1,I t.value.Version.2.2.1,I t.value.Version.2.2.2]] E E (Kjb E) (Kjg (Kke hΓ E E E E E E E E E))<|Kiu<|gA 9 E<|Kfu 6 [(0,.ptr 0 0),(61,B (((z21:Str)==[116,114,117,101])||((z21:Str)==[102,97,108,115,101])))] [.box 129 [S [110,97,109,101],I t.v_at,I q4,S z21,I t.value.Kind,I t.value.Number,S t.value.Words,I t.value.Version.1,I t.value.Version.2.1,I t.value.Version.2.2.1,I t.value.Version.2.2.2]] ?_ ?_
 ·refine Krc E E (fun hb=>?_) (fun hb=>?_)
  ·exact gO 7 E<|⟨⟨E,Ker E (or_t hb),tV⟩,[],E,.inl E⟩
  exact gO 7 E<|⟨⟨E,Ker E (or_f hb),tV⟩,[],E,.inl E⟩
 refine gO 2 E<|jC E h22 (fun h23=>?_) fun h26=>gA 1 E<|oSi h26▸Khi hΓ [] (.inl E) E E E E (.inl E)
 refine gA 4 E<|Kdo hΓ (gs:=[I 3,I 0,S [],I 0,I 0,I 0,I 0]) E E E E E E E<|gO 2 E<|Ksn hΓ E E E E E E E E Z<|Khd [.box 129 [S [118,97,108,117,101],I t.v_at,I q4,S z21,I t.value.Kind,I t.value.Number,S t.value.Words,I t.value.Version.1,I t.value.Version.2.1,I t.value.Version.2.2.1,I t.value.Version.2.2.2]] E<|gO 2 E<|Ksn hΓ E E E E E E E E Z<|Khd [.box 129 [S [118,97,108,117,101],I t.v_at,I q4,S z21,I 3,I 0,S [],I 0,I 0,I 0,I 0]] E<|gO 11 E<|jC E h23 (fun h24=>?_) fun h25=>gA 1 E<|oSi h25▸Khi hΓ [] (.inl E) E E E E (.inl E)
 exact gA 5 E<|Ksn hΓ E E E E E E E E Z<|Khd [.box 129 [S [118,97,108,117,101],I t.v_at,I q4,S z21,I 3,I 1,S [],I 0,I 0,I 0,I 0]] E<|gO 1 E<|oSi h24▸Khi hΓ [] (.inl E) E E E E (.inl E)
theorem Lfl{k:Nat}{s:Str}{v_at:Int}{r:Kwp}(h:Kzx k s v_at=some r):Pure Tryz.prog 161 [S s,I v_at] (.agg [S r.kind,I r.v_at,I r.v_end,S r.name,I r.value.Kind,I r.value.Number,S r.value.Words,I r.value.Version.1,I r.value.Version.2.1,I r.value.Version.2.2.1,I r.value.Version.2.2.2]):=by
 unfold Kzx at h
 refine QP Tryz.func161 E E E<|gA 2 E<|Ksi hΓ E E E Z<|gO 5 E<|Kdo hΓ (gs:=[S [98,97,100],I v_at,I 0,S [],I 0,I 0,S [],I 0,I 0,I 0,I 0]) E E E E E E E<|Ksi hΓ E E E Z<|Ksn hΓ E E E E E E E E Z<|Khd [.box 129 [S [],I 0,I 0,S [],I 0,I 0,S [],I 0,I 0,I 0,I 0],.box 129 [S [98,97,100],I v_at,I 0,S [],I 0,I 0,S [],I 0,I 0,I 0,I 0]] E<|gO 11 E<|Kfo E (fun hb=>?_) (fun hb=>?_)
 ·have h1:=cT h hb
  exact gA 3 E<|Ksn hΓ E E E E E E E E Z<|Khd [.box 129 [S [],I 0,I 0,S [],I 0,I 0,S [],I 0,I 0,I 0,I 0],.box 129 [S [101,110,100],I v_at,I 0,S [],I 0,I 0,S [],I 0,I 0,I 0,I 0]] E<|gO 5 E<|Ksn hΓ E E E E E E E E Z<|Khd [.box 129 [S [101,110,100],I v_at,I 0,S [],I 0,I 0,S [],I 0,I 0,I 0,I 0],.box 129 [S [101,110,100],I v_at,I 0,S [],I 0,I 0,S [],I 0,I 0,I 0,I 0]] E<|gO 4 E<|oSi h1▸gP E E
 have h2:=cF h hb
 refine gA 5 E<|Kgp hΓ (enc:=eS) [[61,61],[33,61],[60,61],[62,61],[38,38],[124,124],[60],[62],[33],[40],[41]] E E E E E E E E E E E E Z<|gO 4 E<|bK h2 fun q6 hq6 h7=>Kge 17 E fun hb9=>Kjs (R:=fun a8=>q6=.go a8) (fun a8=>[(0,S s),(1,I v_at),(4,.ptr 0 0),(5,.ptr 1 0)]) (fun a8=>[.box 129 [S [],I 0,I 0,S [],I 0,I 0,S [],I 0,I 0,I 0,I 0],.box 129 [S [98,97,100],I v_at,I 0,S [],I 0,I 0,S [],I 0,I 0,I 0,I 0]]) ?_ ?_
 ·refine gA 1 E<|Kgd [[61,61],[33,61],[60,61],[62,61],[38,38],[124,124],[60],[62],[33],[40],[41]] hq6 (fun i3 s4=>[(0,S s),(1,I v_at),(4,.ptr 0 0),(5,.ptr 1 0),(17,.d (Sl eS [[61,61],[33,61],[60,61],[62,61],[38,38],[124,124],[60],[62],[33],[40],[41]])),(18,I ([[61,61],[33,61],[60,61],[62,61],[38,38],[124,124],[60],[62],[33],[40],[41]].length:Int)),(19,I (i3:Int))]) (fun s4=>[.box 129 [S [],I 0,I 0,S [],I 0,I 0,S [],I 0,I 0,I 0,I 0],.box 129 [S [98,97,100],I v_at,I 0,S [],I 0,I 0,S [],I 0,I 0,I 0,I 0]]) ⟨⟨E,E,E,E,E,E,E,tV⟩,[],E,.inl E⟩ (fun i3 x5 s4 y13 hx10 hlt hy11 hout12=>?_) (fun s4 hgo=>?_)
  ·refine gA 6 E<|Kfp E (dT (Int.ofNat_lt.2 hlt))<|gA 6 E<|eo_o E (Kgf hΓ (enc:=eS) (Kfy hx10) E E E E E (fun _=>E))<|bK hy11 fun z14 hz14 h15=>gO 8 E<|eo_o E (Kgi hΓ hz14 E E E E E)<|bK h15 fun y16 hy16 h17=>gO 1 E<|Kgv C (Kuh hy16) E Z E E E E E<|gO 2 E<|jC E h17 (fun h18=>?_) fun h21=>gA 7 E ?_
   ·refine gA 8 E<|Ksn hΓ E E E E E E E E Z<|Khd [.box 129 [S [],I 0,I 0,S [],I 0,I 0,S [],I 0,I 0,I 0,I 0],.box 129 [S x5,I v_at,I 0,S [],I 0,I 0,S [],I 0,I 0,I 0,I 0]] E<|gO 1 E<|Ksn hΓ E E E E E E E E Z<|Khd [.box 129 [S [],I 0,I 0,S [],I 0,I 0,S [],I 0,I 0,I 0,I 0],.box 129 [S x5,I v_at,I (wi (v_at+(x5.length:Int))),S [],I 0,I 0,S [],I 0,I 0,I 0,I 0]] E<|gO 5 E<|Ksn hΓ E E E E E E E E Z<|Khd [.box 129 [S x5,I v_at,I (wi (v_at+(x5.length:Int))),S [],I 0,I 0,S [],I 0,I 0,I 0,I 0],.box 129 [S x5,I v_at,I (wi (v_at+(x5.length:Int))),S [],I 0,I 0,S [],I 0,I 0,I 0,I 0]] E<|gO 5 E<|bK h18 fun v19 hv19 h20=>?_
    cases h20
    obtain rfl:=hout12 _ rfl
    cases h7
    exact gA 4 E<|oSi hv19▸gP E E
   cases h21
   exact⟨_,E,⟨⟨E,E,E,E,E,E,Keq E (Kep (nLl hlt hb9)),tV⟩,[],E,.inl E⟩⟩
  subst hgo
  exact gA 6 E<|Kfq E (dF (Int.lt_irrefl _))<|gA 4 E<|⟨_,E,⟨⟨E,E,E,E,tV⟩,[],E,.inl E⟩⟩
 intro a8 ha
 subst ha
 replace h7:=Kjn h7
 refine bK h7 fun c22 hc22 h23=>gA 6 E<|eo_o E (Kgg hΓ hc22 E E E E)<|bK h23 fun q24 hq24 h25=>gO 3 E<|Kjt [(4,.ptr 0 0),(5,.ptr 1 0)] [.box 129 [S [],I 0,I 0,S [],I 0,I 0,S [],I 0,I 0,I 0,I 0],.box 129 [S q24.kind,I q24.v_at,I q24.v_end,S q24.name,I q24.value.Kind,I q24.value.Number,S q24.value.Words,I q24.value.Version.1,I q24.value.Version.2.1,I q24.value.Version.2.2.1,I q24.value.Version.2.2.2]] ?_ ?_
 ·refine bK hq24 fun y26 hy26 h27=>gA 4 E<|Kgv C (Lfa hy26) E Z E E E E E<|gO 1 E<|bK h27 fun q28 hq28 h29=>Kfu 17 [(0,S s),(1,I v_at),(4,.ptr 0 0),(5,.ptr 1 0),(8,.d (.v (.int .u8 (c22.toNat:Int)))),(60,B q28)] [.box 129 [S [],I 0,I 0,S [],I 0,I 0,S [],I 0,I 0,I 0,I 0],.box 129 [S [98,97,100],I v_at,I 0,S [],I 0,I 0,S [],I 0,I 0,I 0,I 0]] ?_ ?_
  ·refine Krc E E (fun hb=>?_) (fun hb=>?_)
   ·have h30:=cT hq28 hb
    exact gO 18 E<|oSi h30▸⟨⟨E,E,E,E,E,E,tV⟩,[],E,.inl E⟩
   have h31:=cF hq28 hb
   refine gO 3 E<|Kfu 6 [(0,S s),(1,I v_at),(4,.ptr 0 0),(5,.ptr 1 0),(8,.d (.v (.int .u8 (c22.toNat:Int)))),(43,B false),(52,B ((((c22.toNat:Int):Int)==45)&&(decide ((wi (v_at+1):Int)<(s.length:Int)))))] [.box 129 [S [],I 0,I 0,S [],I 0,I 0,S [],I 0,I 0,I 0,I 0],.box 129 [S [98,97,100],I v_at,I 0,S [],I 0,I 0,S [],I 0,I 0,I 0,I 0]] ?_ ?_
   ·refine Krc E E (fun hb=>?_) (fun hb=>?_)
    ·exact gO 7 E<|⟨⟨E,E,E,E,E,E,Ker E (Kho hb),tV⟩,[],E,.inl E⟩
    exact gO 7 E<|⟨⟨E,E,E,E,E,E,Ker E (Khp hb),tV⟩,[],E,.inl E⟩
   refine gO 1 E<|bK h31 fun q32 hq32 h33=>Kfu 6 [(0,S s),(1,I v_at),(4,.ptr 0 0),(5,.ptr 1 0),(8,.d (.v (.int .u8 (c22.toNat:Int)))),(43,B false),(59,B q32)] [.box 129 [S [],I 0,I 0,S [],I 0,I 0,S [],I 0,I 0,I 0,I 0],.box 129 [S [98,97,100],I v_at,I 0,S [],I 0,I 0,S [],I 0,I 0,I 0,I 0]] ?_ ?_
   ·refine Krc E E (fun hb=>?_) (fun hb=>?_)
    ·have h34:=cT hq32 hb
     exact bK h34 fun c35 hc35 h36=>gO 3 E<|Kra E<|eo_o E (Kgg hΓ hc35 E E E E)<|bK h36 fun y37 hy37 h38=>Kra E<|Kgv C (Lfa hy37) E Z E E E E E<|gO 2 E<|oSi h38▸⟨⟨E,E,E,E,E,E,E,tV⟩,[],E,.inl E⟩
    have h39:=cF hq32 hb
    exact gO 7 E<|oSi h39▸⟨⟨E,E,E,E,E,E,E,tV⟩,[],E,.inl E⟩
   exact gO 2 E<|oSi h33▸⟨⟨E,E,E,E,E,E,tV⟩,[],E,.inl E⟩
  refine gO 3 E<|Kfo E (fun hb=>?_) (fun hb=>?_)
  ·have h40:=cT h29 hb
   exact bK h40 fun y41 hy41 h42=>gA 2 E<|Kgu [1] (.tup []) [.box 129 [S [],I 0,I 0,S [],I 0,I 0,S [],I 0,I 0,I 0,I 0],.box 129 [S y41.kind,I y41.v_at,I y41.v_end,S y41.name,I y41.value.Kind,I y41.value.Number,S y41.value.Words,I y41.value.Version.1,I y41.value.Version.2.1,I y41.value.Version.2.2.1,I y41.value.Version.2.2.2]] C (Lfe hy41) E Z E E E E E E E E E E<|gO 2 E<|oSi h42▸⟨⟨E,E,tV⟩,[],E,.inl E⟩
  have h43:=cF h29 hb
  refine gA 7 E<|Kfo E (fun hb=>?_) (fun hb=>?_)
  ·have h44:=cT h43 hb
   exact bK h44 fun y45 hy45 h46=>gA 2 E<|Kgu [1] (.tup []) [.box 129 [S [],I 0,I 0,S [],I 0,I 0,S [],I 0,I 0,I 0,I 0],.box 129 [S y45.kind,I y45.v_at,I y45.v_end,S y45.name,I y45.value.Kind,I y45.value.Number,S y45.value.Words,I y45.value.Version.1,I y45.value.Version.2.1,I y45.value.Version.2.2.1,I y45.value.Version.2.2.2]] C (Lff hy45) E Z E E E E E E E E E E<|gO 2 E<|oSi h46▸⟨⟨E,E,tV⟩,[],E,.inl E⟩
  have h47:=cF h43 hb
  refine bK h47 fun z48 hz48 h49=>gA 4 E<|eo_o E (Kgi hΓ hz48 E E E E E)<|bK h49 fun y50 hy50 h51=>Kgv C (Lfg hy50) E Z E E E E E<|gO 3 E<|Kfo E (fun hb=>?_) (fun hb=>?_)
  ·have h52:=cT h51 hb
   exact bK h52 fun y53 hy53 h54=>gA 2 E<|Kgu [1] (.tup []) [.box 129 [S [],I 0,I 0,S [],I 0,I 0,S [],I 0,I 0,I 0,I 0],.box 129 [S y53.kind,I y53.v_at,I y53.v_end,S y53.name,I y53.value.Kind,I y53.value.Number,S y53.value.Words,I y53.value.Version.1,I y53.value.Version.2.1,I y53.value.Version.2.2.1,I y53.value.Version.2.2.2]] C (Lfi hy53) E Z E E E E E E E E E E<|gO 2 E<|oSi h54▸⟨⟨E,E,tV⟩,[],E,.inl E⟩
  have h55:=cF h51 hb
  refine gA 5 E<|Kfu 3 [(0,S s),(4,.ptr 0 0),(5,.ptr 1 0),(81,B ((decide (((c22.toNat:Int):Int)≥97))&&(decide (((c22.toNat:Int):Int)≤122))))] [.box 129 [S [],I 0,I 0,S [],I 0,I 0,S [],I 0,I 0,I 0,I 0],.box 129 [S [98,97,100],I v_at,I 0,S [],I 0,I 0,S [],I 0,I 0,I 0,I 0]] ?_ ?_
  ·refine Krc E E (fun hb=>?_) (fun hb=>?_)
   ·exact gO 4 E<|⟨⟨E,E,E,Ker E (Kho hb),tV⟩,[],E,.inl E⟩
   exact gO 4 E<|⟨⟨E,E,E,Ker E (Khp hb),tV⟩,[],E,.inl E⟩
  refine gO 3 E<|jC E h55 (fun h56=>?_) fun h59=>gA 2 E<|oSi h59▸⟨⟨E,E,tV⟩,[],E,.inl E⟩
  exact bK h56 fun y57 hy57 h58=>gA 2 E<|Kgu [1] (.tup []) [.box 129 [S [],I 0,I 0,S [],I 0,I 0,S [],I 0,I 0,I 0,I 0],.box 129 [S y57.kind,I y57.v_at,I y57.v_end,S y57.name,I y57.value.Kind,I y57.value.Number,S y57.value.Words,I y57.value.Version.1,I y57.value.Version.2.1,I y57.value.Version.2.2.1,I y57.value.Version.2.2.2]] C (Lfk hy57) E Z E E E E E E E E E E<|gO 2 E<|oSi h58▸⟨⟨E,E,tV⟩,[],E,.inl E⟩
 exact gA 4 E<|Ksn hΓ E E E E E E E E Z<|Khd [.box 129 [S q24.kind,I q24.v_at,I q24.v_end,S q24.name,I q24.value.Kind,I q24.value.Number,S q24.value.Words,I q24.value.Version.1,I q24.value.Version.2.1,I q24.value.Version.2.2.1,I q24.value.Version.2.2.2],.box 129 [S q24.kind,I q24.v_at,I q24.v_end,S q24.name,I q24.value.Kind,I q24.value.Number,S q24.value.Words,I q24.value.Version.1,I q24.value.Version.2.1,I q24.value.Version.2.2.1,I q24.value.Version.2.2.2]] E<|gO 3 E<|oSi h25▸gP E E
theorem Lfm{k:Nat}{p:Kwq}{r:Kwq}(h:Kzy k p=some r):EC Tryz.prog 81 [.ptr 0 0] [.box 131 [S p.s,S p.tok.kind,I p.tok.v_at,I p.tok.v_end,S p.tok.name,I p.tok.value.Kind,I p.tok.value.Number,S p.tok.value.Words,I p.tok.value.Version.1,I p.tok.value.Version.2.1,I p.tok.value.Version.2.2.1,I p.tok.value.Version.2.2.2,B p.bad,I p.v_at]] fun g hp'=>g=.tup []∧hp'=[.box 131 [S r.s,S r.tok.kind,I r.tok.v_at,I r.tok.v_end,S r.tok.name,I r.tok.value.Kind,I r.tok.value.Number,S r.tok.value.Words,I r.tok.value.Version.1,I r.tok.value.Version.2.1,I r.tok.value.Version.2.2.1,I r.tok.value.Version.2.2.2,B r.bad,I r.v_at]]:=by
 unfold Kzy at h
 refine QN Tryz.func81 E Z<|gA 11 E<|bK h fun q4 hq4 h5=>Kjt [(0,.ptr 0 0),(2,I q4)] [.box 131 [S p.s,S p.tok.kind,I p.tok.v_at,I p.tok.v_end,S p.tok.name,I p.tok.value.Kind,I p.tok.value.Number,S p.tok.value.Words,I p.tok.value.Version.1,I p.tok.value.Version.2.1,I p.tok.value.Version.2.2.1,I p.tok.value.Version.2.2.2,B p.bad,I p.v_at]] ?_ ?_
 ·refine gA 1 E<|Kgb hq4 (fun s2=>[(0,.ptr 0 0),(2,I s2)]) (fun s2=>[.box 131 [S p.s,S p.tok.kind,I p.tok.v_at,I p.tok.v_end,S p.tok.name,I p.tok.value.Kind,I p.tok.value.Number,S p.tok.value.Words,I p.tok.value.Version.1,I p.tok.value.Version.2.1,I p.tok.value.Version.2.2.1,I p.tok.value.Version.2.2.2,B p.bad,I p.v_at]]) ⟨⟨E,E,tV⟩,[],E,.inl E⟩ (fun s2 y10 hy8 hout9=>?_)
  refine gA 11 E<|bK hy8 fun q11 hq11 h12=>Kfu 17 [(0,.ptr 0 0),(2,I s2),(32,B q11)] [.box 131 [S p.s,S p.tok.kind,I p.tok.v_at,I p.tok.v_end,S p.tok.name,I p.tok.value.Kind,I p.tok.value.Number,S p.tok.value.Words,I p.tok.value.Version.1,I p.tok.value.Version.2.1,I p.tok.value.Version.2.2.1,I p.tok.value.Version.2.2.2,B p.bad,I p.v_at]] ?_ ?_
  ·refine Krc E E (fun hb=>?_) (fun hb=>?_)
   ·have h13:=cT hq11 hb
    refine bK h13 fun c14 hc14 h15=>gO 5 E<|Kra E<|eo_o E (Kgg hΓ hc14 E E E E)<|gO 2 E<|bK h15 fun q16 hq16 h17=>Kfu 8 [(0,.ptr 0 0),(2,I s2),(15,B true),(31,B q16)] [.box 131 [S p.s,S p.tok.kind,I p.tok.v_at,I p.tok.v_end,S p.tok.name,I p.tok.value.Kind,I p.tok.value.Number,S p.tok.value.Words,I p.tok.value.Version.1,I p.tok.value.Version.2.1,I p.tok.value.Version.2.2.1,I p.tok.value.Version.2.2.2,B p.bad,I p.v_at]] ?_ ?_
    ·refine Krc E E (fun hb=>?_) (fun hb=>?_)
     ·have h18:=cT hq16 hb
      exact gO 9 E<|oSi h18▸⟨⟨E,E,E,E,tV⟩,[],E,.inl E⟩
     have h19:=cF hq16 hb
     exact bK h19 fun c20 hc20 h21=>gO 5 E<|Kra E<|eo_o E (Kgg hΓ hc20 E E E E)<|gO 3 E<|oSi h21▸⟨⟨E,E,E,E,tV⟩,[],E,.inl E⟩
    exact gO 2 E<|oSi h17▸⟨⟨E,E,E,tV⟩,[],E,.inl E⟩
   have h22:=cF hq11 hb
   exact gO 18 E<|oSi h22▸⟨⟨E,E,E,tV⟩,[],E,.inl E⟩
  refine gO 2 E<|jC E h12 (fun h23=>?_) fun h24=>gA 4 E ?_
  ·exact gA 9 E<|oSi h23▸⟨_,E,⟨⟨E,E,tV⟩,[],E,.inl E⟩⟩
  cases h24
  obtain rfl:=hout9 _ rfl
  exact⟨⟨E,E,tV⟩,[],E,.inl E⟩
 exact bK h5 fun y25 hy25 h26=>gA 8 E<|Kgv C (Lfl hy25) E Z E E E E E<|gO 2 E<|Ksn hΓ E E E E E E E E Z<|Khd [.box 131 [S p.s,S y25.kind,I y25.v_at,I y25.v_end,S y25.name,I y25.value.Kind,I y25.value.Number,S y25.value.Words,I y25.value.Version.1,I y25.value.Version.2.1,I y25.value.Version.2.2.1,I y25.value.Version.2.2.2,B p.bad,I p.v_at]] E<|gO 1 E<|oSi h26▸Khi hΓ [] (.inl E) E E E E (.inl E)
theorem Lfn{p:Kwq}{r:Kwr×Kwq}(h:Kzz p=some r):EC Tryz.prog 83 [.ptr 0 0] [.box 131 [S p.s,S p.tok.kind,I p.tok.v_at,I p.tok.v_end,S p.tok.name,I p.tok.value.Kind,I p.tok.value.Number,S p.tok.value.Words,I p.tok.value.Version.1,I p.tok.value.Version.2.1,I p.tok.value.Version.2.2.1,I p.tok.value.Version.2.2.2,B p.bad,I p.v_at]] fun g hp'=>g=.agg [I r.1.Kind,S r.1.Name,S r.1.Op,I r.1.Value.Kind,I r.1.Value.Number,S r.1.Value.Words,I r.1.Value.Version.1,I r.1.Value.Version.2.1,I r.1.Value.Version.2.2.1,I r.1.Value.Version.2.2.2,.d (.ro r.1.Kids.n r.1.Kids.xs)]∧hp'=[.box 131 [S r.2.s,S r.2.tok.kind,I r.2.tok.v_at,I r.2.tok.v_end,S r.2.tok.name,I r.2.tok.value.Kind,I r.2.tok.value.Number,S r.2.tok.value.Words,I r.2.tok.value.Version.1,I r.2.tok.value.Version.2.1,I r.2.tok.value.Version.2.2.1,I r.2.tok.value.Version.2.2.2,B r.2.bad,I r.2.v_at]]:=by
 unfold Kzz at h
 refine QN Tryz.func83 E Z<|gA 2 E<|Ksi hΓ E E E Z<|bK h fun q1 hq1 h2=>gO 12 E<|Kjt [(2,.ptr 1 0)] [.box 131 [S q1.s,S q1.tok.kind,I q1.tok.v_at,I q1.tok.v_end,S q1.tok.name,I q1.tok.value.Kind,I q1.tok.value.Number,S q1.tok.value.Words,I q1.tok.value.Version.1,I q1.tok.value.Version.2.1,I q1.tok.value.Version.2.2.1,I q1.tok.value.Version.2.2.2,B q1.bad,I q1.v_at],.box 32 [I 0,S [],S [],I 0,I 0,S [],I 0,I 0,I 0,I 0,.d (.ro (KD.mk 0 []).n (KD.mk 0 []).xs)]] ?_ ?_
 ·refine jC E hq1 (fun h3=>?_) fun h4=>gA 1 E<|oSi h4▸⟨⟨E,tV⟩,[],E,.inl E⟩
  exact gA 10 E<|Ksn hΓ E E E E E E E E Z<|Khd [.box 131 [S p.s,S p.tok.kind,I p.tok.v_at,I p.tok.v_end,S p.tok.name,I p.tok.value.Kind,I p.tok.value.Number,S p.tok.value.Words,I p.tok.value.Version.1,I p.tok.value.Version.2.1,I p.tok.value.Version.2.2.1,I p.tok.value.Version.2.2.2,B true,I p.v_at],.box 32 [I 0,S [],S [],I 0,I 0,S [],I 0,I 0,I 0,I 0,.d (.ro (KD.mk 0 []).n (KD.mk 0 []).xs)]] E<|gO 2 E<|Ksn hΓ E E E E E E E E Z<|Khd [.box 131 [S p.s,S p.tok.kind,I p.tok.v_at,I p.tok.v_end,S p.tok.name,I p.tok.value.Kind,I p.tok.value.Number,S p.tok.value.Words,I p.tok.value.Version.1,I p.tok.value.Version.2.1,I p.tok.value.Version.2.2.1,I p.tok.value.Version.2.2.2,B true,I p.tok.v_at],.box 32 [I 0,S [],S [],I 0,I 0,S [],I 0,I 0,I 0,I 0,.d (.ro (KD.mk 0 []).n (KD.mk 0 []).xs)]] E<|gO 1 E<|oSi h3▸⟨⟨E,tV⟩,[],E,.inl E⟩
 exact gA 3 E<|Kdo hΓ (gs:=[I 0,S [],S [],I 0,I 0,S [],I 0,I 0,I 0,I 0,.d (.ro (KD.mk 0 []).n (KD.mk 0 []).xs)]) E E E E E E E<|Ksn hΓ E E E E E E E E Z<|Khd [.box 131 [S q1.s,S q1.tok.kind,I q1.tok.v_at,I q1.tok.v_end,S q1.tok.name,I q1.tok.value.Kind,I q1.tok.value.Number,S q1.tok.value.Words,I q1.tok.value.Version.1,I q1.tok.value.Version.2.1,I q1.tok.value.Version.2.2.1,I q1.tok.value.Version.2.2.2,B q1.bad,I q1.v_at],.box 32 [I 0,S [],S [],I 0,I 0,S [],I 0,I 0,I 0,I 0,.d (.ro (KD.mk 0 []).n (KD.mk 0 []).xs)]] E<|gO 3 E<|oSi h2▸Khi hΓ [_] (.inr E) E E E E (.inr ⟨HB.mk E,E⟩)
theorem Lfo{op:Str}{r:Bool}(h:Laa op=some r):Pure Tryz.prog 220 [S op] (B r):=by
 unfold Laa at h
 exact QP Tryz.func220 E E E<|gA 7 E<|Kgp hΓ (enc:=eS) [[61,61],[33,61],[60],[60,61],[62],[62,61]] E E E E E E E E E E E E Z<|bK h fun y1 hy1 h2=>gO 1 E<|Kgv C (Lde hy1) E Z E E E E E<|gO 4 E<|oSi h2▸gP E E
theorem Lfp{k:Nat}{p:Kwq}{r:Kwr×Kwq}(h:Lab k p=some r):EC Tryz.prog 283 [.ptr 0 0] [.box 131 [S p.s,S p.tok.kind,I p.tok.v_at,I p.tok.v_end,S p.tok.name,I p.tok.value.Kind,I p.tok.value.Number,S p.tok.value.Words,I p.tok.value.Version.1,I p.tok.value.Version.2.1,I p.tok.value.Version.2.2.1,I p.tok.value.Version.2.2.2,B p.bad,I p.v_at]] fun g hp'=>g=.agg [I r.1.Kind,S r.1.Name,S r.1.Op,I r.1.Value.Kind,I r.1.Value.Number,S r.1.Value.Words,I r.1.Value.Version.1,I r.1.Value.Version.2.1,I r.1.Value.Version.2.2.1,I r.1.Value.Version.2.2.2,.d (.ro r.1.Kids.n r.1.Kids.xs)]∧hp'=[.box 131 [S r.2.s,S r.2.tok.kind,I r.2.tok.v_at,I r.2.tok.v_end,S r.2.tok.name,I r.2.tok.value.Kind,I r.2.tok.value.Number,S r.2.tok.value.Words,I r.2.tok.value.Version.1,I r.2.tok.value.Version.2.1,I r.2.tok.value.Version.2.2.1,I r.2.tok.value.Version.2.2.2,B r.2.bad,I r.2.v_at]]:=by
 unfold Lab at h
 refine QN Tryz.func283 E Z<|gA 2 E<|Ksi hΓ E E E Z<|gO 9 E<|Kdo hΓ (gs:=[I 3,I 1,S [],I 0,I 0,I 0,I 0]) E E E E E E E<|Kdo hΓ (gs:=[I 1,S p.tok.name,S [61,61],I 3,I 1,S [],I 0,I 0,I 0,I 0,.d (.ro (KD.mk 0 []).n (KD.mk 0 []).xs)]) E E E E E E E<|Ksi hΓ E E E Z<|Ksn hΓ E E E E E E E E Z<|Khd [.box 131 [S p.s,S p.tok.kind,I p.tok.v_at,I p.tok.v_end,S p.tok.name,I p.tok.value.Kind,I p.tok.value.Number,S p.tok.value.Words,I p.tok.value.Version.1,I p.tok.value.Version.2.1,I p.tok.value.Version.2.2.1,I p.tok.value.Version.2.2.2,B p.bad,I p.v_at],.box 32 [I 0,S [],S [],I 0,I 0,S [],I 0,I 0,I 0,I 0,.d (.ro (KD.mk 0 []).n (KD.mk 0 []).xs)],.box 32 [I 1,S p.tok.name,S [61,61],I 3,I 1,S [],I 0,I 0,I 0,I 0,.d (.ro (KD.mk 0 []).n (KD.mk 0 []).xs)]] E<|bK h fun y1 hy1 h2=>gO 5 E<|Kgu [0] (.tup []) [.box 131 [S y1.s,S y1.tok.kind,I y1.tok.v_at,I y1.tok.v_end,S y1.tok.name,I y1.tok.value.Kind,I y1.tok.value.Number,S y1.tok.value.Words,I y1.tok.value.Version.1,I y1.tok.value.Version.2.1,I y1.tok.value.Version.2.2.1,I y1.tok.value.Version.2.2.2,B y1.bad,I y1.v_at],.box 32 [I 0,S [],S [],I 0,I 0,S [],I 0,I 0,I 0,I 0,.d (.ro (KD.mk 0 []).n (KD.mk 0 []).xs)],.box 32 [I 1,S p.tok.name,S [61,61],I 3,I 1,S [],I 0,I 0,I 0,I 0,.d (.ro (KD.mk 0 []).n (KD.mk 0 []).xs)]] C (Lfm hy1) E Z E E E E E E E E E E<|bK h2 fun y3 hy3 h4=>gO 10 E<|Kgv C (Lfo hy3) E Z E E E E E<|gO 3 E<|jC E h4 (fun h5=>?_) fun h6=>gA 10 E<|Ksn hΓ E E E E E E E E Z<|Khd [.box 131 [S y1.s,S y1.tok.kind,I y1.tok.v_at,I y1.tok.v_end,S y1.tok.name,I y1.tok.value.Kind,I y1.tok.value.Number,S y1.tok.value.Words,I y1.tok.value.Version.1,I y1.tok.value.Version.2.1,I y1.tok.value.Version.2.2.1,I y1.tok.value.Version.2.2.2,B y1.bad,I y1.v_at],.box 32 [I 0,S [],S [],I 0,I 0,S [],I 0,I 0,I 0,I 0,.d (.ro (KD.mk 0 []).n (KD.mk 0 []).xs)],.box 32 [I 1,S p.tok.name,S y1.tok.kind,I 3,I 1,S [],I 0,I 0,I 0,I 0,.d (.ro (KD.mk 0 []).n (KD.mk 0 []).xs)]] E<|bK h6 fun y7 hy7 h8=>gO 5 E<|Kgu [0] (.tup []) [.box 131 [S y7.s,S y7.tok.kind,I y7.tok.v_at,I y7.tok.v_end,S y7.tok.name,I y7.tok.value.Kind,I y7.tok.value.Number,S y7.tok.value.Words,I y7.tok.value.Version.1,I y7.tok.value.Version.2.1,I y7.tok.value.Version.2.2.1,I y7.tok.value.Version.2.2.2,B y7.bad,I y7.v_at],.box 32 [I 0,S [],S [],I 0,I 0,S [],I 0,I 0,I 0,I 0,.d (.ro (KD.mk 0 []).n (KD.mk 0 []).xs)],.box 32 [I 1,S p.tok.name,S y1.tok.kind,I 3,I 1,S [],I 0,I 0,I 0,I 0,.d (.ro (KD.mk 0 []).n (KD.mk 0 []).xs)]] C (Lfm hy7) E Z E E E E E E E E E E<|gO 13 E<|jC E h8 (fun h9=>?_) fun h12=>?_
 ·exact gA 3 E<|Ksn hΓ E E E E E E E E Z<|Khd [.box 131 [S y1.s,S y1.tok.kind,I y1.tok.v_at,I y1.tok.v_end,S y1.tok.name,I y1.tok.value.Kind,I y1.tok.value.Number,S y1.tok.value.Words,I y1.tok.value.Version.1,I y1.tok.value.Version.2.1,I y1.tok.value.Version.2.2.1,I y1.tok.value.Version.2.2.2,B y1.bad,I y1.v_at],.box 32 [I 1,S p.tok.name,S [61,61],I 3,I 1,S [],I 0,I 0,I 0,I 0,.d (.ro (KD.mk 0 []).n (KD.mk 0 []).xs)],.box 32 [I 1,S p.tok.name,S [61,61],I 3,I 1,S [],I 0,I 0,I 0,I 0,.d (.ro (KD.mk 0 []).n (KD.mk 0 []).xs)]] E<|gO 4 E<|oSi h5▸Khi hΓ [_,_] (.inr E) E E E E (.inr ⟨HB.mk E,E⟩)
 ·exact bK h9 fun y10 hy10 h11=>gA 3 E<|Kgu [0] (.agg [I y10.1.Kind,S y10.1.Name,S y10.1.Op,I y10.1.Value.Kind,I y10.1.Value.Number,S y10.1.Value.Words,I y10.1.Value.Version.1,I y10.1.Value.Version.2.1,I y10.1.Value.Version.2.2.1,I y10.1.Value.Version.2.2.2,.d (.ro y10.1.Kids.n y10.1.Kids.xs)]) [.box 131 [S y10.2.s,S y10.2.tok.kind,I y10.2.tok.v_at,I y10.2.tok.v_end,S y10.2.tok.name,I y10.2.tok.value.Kind,I y10.2.tok.value.Number,S y10.2.tok.value.Words,I y10.2.tok.value.Version.1,I y10.2.tok.value.Version.2.1,I y10.2.tok.value.Version.2.2.1,I y10.2.tok.value.Version.2.2.2,B y10.2.bad,I y10.2.v_at],.box 32 [I 0,S [],S [],I 0,I 0,S [],I 0,I 0,I 0,I 0,.d (.ro (KD.mk 0 []).n (KD.mk 0 []).xs)],.box 32 [I 1,S p.tok.name,S y1.tok.kind,I 3,I 1,S [],I 0,I 0,I 0,I 0,.d (.ro (KD.mk 0 []).n (KD.mk 0 []).xs)]] C (Lfn hy10) E Z E E E E E E E E E E<|Ksn hΓ E E E E E E E E Z<|Khd [.box 131 [S y10.2.s,S y10.2.tok.kind,I y10.2.tok.v_at,I y10.2.tok.v_end,S y10.2.tok.name,I y10.2.tok.value.Kind,I y10.2.tok.value.Number,S y10.2.tok.value.Words,I y10.2.tok.value.Version.1,I y10.2.tok.value.Version.2.1,I y10.2.tok.value.Version.2.2.1,I y10.2.tok.value.Version.2.2.2,B y10.2.bad,I y10.2.v_at],.box 32 [I y10.1.Kind,S y10.1.Name,S y10.1.Op,I y10.1.Value.Kind,I y10.1.Value.Number,S y10.1.Value.Words,I y10.1.Value.Version.1,I y10.1.Value.Version.2.1,I y10.1.Value.Version.2.2.1,I y10.1.Value.Version.2.2.2,.d (.ro y10.1.Kids.n y10.1.Kids.xs)],.box 32 [I 1,S p.tok.name,S y1.tok.kind,I 3,I 1,S [],I 0,I 0,I 0,I 0,.d (.ro (KD.mk 0 []).n (KD.mk 0 []).xs)]] E<|gO 4 E<|oSi h11▸Khi hΓ [_,_] (.inr E) E E E E (.inr ⟨HB.mk E,E⟩)
 exact gA 10 E<|Ksn hΓ E E E E E E E E Z<|Khd [.box 131 [S y7.s,S y7.tok.kind,I y7.tok.v_at,I y7.tok.v_end,S y7.tok.name,I y7.tok.value.Kind,I y7.tok.value.Number,S y7.tok.value.Words,I y7.tok.value.Version.1,I y7.tok.value.Version.2.1,I y7.tok.value.Version.2.2.1,I y7.tok.value.Version.2.2.2,B y7.bad,I y7.v_at],.box 32 [I 0,S [],S [],I 0,I 0,S [],I 0,I 0,I 0,I 0,.d (.ro (KD.mk 0 []).n (KD.mk 0 []).xs)],.box 32 [I 1,S p.tok.name,S y1.tok.kind,I y7.tok.value.Kind,I y7.tok.value.Number,S y7.tok.value.Words,I y7.tok.value.Version.1,I y7.tok.value.Version.2.1,I y7.tok.value.Version.2.2.1,I y7.tok.value.Version.2.2.2,.d (.ro (KD.mk 0 []).n (KD.mk 0 []).xs)]] E<|bK h12 fun y13 hy13 h14=>gO 5 E<|Kgu [0] (.tup []) [.box 131 [S y13.s,S y13.tok.kind,I y13.tok.v_at,I y13.tok.v_end,S y13.tok.name,I y13.tok.value.Kind,I y13.tok.value.Number,S y13.tok.value.Words,I y13.tok.value.Version.1,I y13.tok.value.Version.2.1,I y13.tok.value.Version.2.2.1,I y13.tok.value.Version.2.2.2,B y13.bad,I y13.v_at],.box 32 [I 0,S [],S [],I 0,I 0,S [],I 0,I 0,I 0,I 0,.d (.ro (KD.mk 0 []).n (KD.mk 0 []).xs)],.box 32 [I 1,S p.tok.name,S y1.tok.kind,I y7.tok.value.Kind,I y7.tok.value.Number,S y7.tok.value.Words,I y7.tok.value.Version.1,I y7.tok.value.Version.2.1,I y7.tok.value.Version.2.2.1,I y7.tok.value.Version.2.2.2,.d (.ro (KD.mk 0 []).n (KD.mk 0 []).xs)]] C (Lfm hy13) E Z E E E E E E E E E E<|gO 5 E<|Ksn hΓ E E E E E E E E Z<|Khd [.box 131 [S y13.s,S y13.tok.kind,I y13.tok.v_at,I y13.tok.v_end,S y13.tok.name,I y13.tok.value.Kind,I y13.tok.value.Number,S y13.tok.value.Words,I y13.tok.value.Version.1,I y13.tok.value.Version.2.1,I y13.tok.value.Version.2.2.1,I y13.tok.value.Version.2.2.2,B y13.bad,I y13.v_at],.box 32 [I 1,S p.tok.name,S y1.tok.kind,I y7.tok.value.Kind,I y7.tok.value.Number,S y7.tok.value.Words,I y7.tok.value.Version.1,I y7.tok.value.Version.2.1,I y7.tok.value.Version.2.2.1,I y7.tok.value.Version.2.2.2,.d (.ro (KD.mk 0 []).n (KD.mk 0 []).xs)],.box 32 [I 1,S p.tok.name,S y1.tok.kind,I y7.tok.value.Kind,I y7.tok.value.Number,S y7.tok.value.Words,I y7.tok.value.Version.1,I y7.tok.value.Version.2.1,I y7.tok.value.Version.2.2.1,I y7.tok.value.Version.2.2.2,.d (.ro (KD.mk 0 []).n (KD.mk 0 []).xs)]] E<|gO 3 E<|oSi h14▸Khi hΓ [_,_] (.inr E) E E E E (.inr ⟨HB.mk E,E⟩)
end Go.Proofs.YthhdojhbohfmnaaGreatDoor
