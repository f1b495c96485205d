import Derived.Test.YtcihhlhmkcaeeaaGreatDoorXPM
import Derived.Test.YtcihhlhmkcaeeaaGreatDoorGt
import Derived.Test.YtcihhlhmkcaeeaaGreatDoorStr
import Derived.Test.YtcihhlhmkcaeeaaGreatDoorStrC
import Derived.Test.YtcihhlhmkcaeeaaGreatDoorStrJ
import Derived.Test.YtcihhlhmkcaeeaaGreatDoorStr4
import Derived.Test.YtcihhlhmkcaeeaaGreatDoorStrSS
import Derived.Test.YtcihhlhmkcaeeaaGreatDoorStrB
import Derived.Test.YtcihhlhmkcaeeaaGreatDoorSoW
import Derived.Test.YtcihhlhmkcaeeaaGreatDoorGk49
import Derived.Test.YtcihhlhmkcaeeaaGreatDoorGk66
import Derived.Test.YtcihhlhmkcaeeaaGreatDoorGk68
import Derived.Test.YtcihhlhmkcaeeaaGreatDoorGk70
import Derived.Test.YtcihhlhmkcaeeaaGreatDoorGk53
import Derived.Test.YtcihhlhmkcaeeaaGreatDoorGk57
import Derived.Test.YtcihhlhmkcaeeaaGreatDoorSoLays
import Derived.Test.YtcihhlhmkcaeeaaGreatDoorXPW1
set_option maxHeartbeats 8000000
set_option linter.all false
set_option maxRecDepth 100000
namespace Go.Proofs.YtcihhlhmkcaeeaaGreatDoor
open Go.Gk
theorem Lhs{k:Nat}{a:Kxl}{b:Kxl}{r:Int}(h:Kzp k a b=some r):Pure Tryz.prog 54 [.agg (gu a),.agg (gu b)] (I r):=by
 unfold Kzp at h
 refine QP Tryz.func54 E E E<|gA 2 E<|Kqo E E E E Z<|Kqo E E E E Z<|gO 15 E<|jC E h (fun h1=>?_) fun h4=>gA 6 E<|eo_o E (Kga hΓ [46] (b:=(((a.From.Six:Bool)==b.From.Six)&&(((a.From.Hi:Int)==b.From.Hi)&&(((a.From.Lo:Int)==b.From.Lo)&&true)))) (by kernel_rfl) (by kernel_rfl) E E E)<|gO 3 E<|jC E h4 (fun h5=>?_) fun h8=>?_
 ·exact bK h1 fun y2 hy2 h3=>gA 7 E<|Kex C (Lhk hy2) E Z E E E E E<|gO 6 E<|oSi h3▸gP E E
 ·exact bK h5 fun y6 hy6 h7=>gA 6 E<|Kex C (Lhm hy6) E Z E E E E E<|gO 6 E<|oSi h7▸gP E E
 refine gA 6 E<|eo_o E (Kga hΓ [46] (b:=(((a.To.Six:Bool)==b.To.Six)&&(((a.To.Hi:Int)==b.To.Hi)&&(((a.To.Lo:Int)==b.To.Lo)&&true)))) (by kernel_rfl) (by kernel_rfl) E E E)<|gO 3 E<|jC E h8 (fun h9=>?_) fun h12=>gA 9 E<|Ker hΓ (enc:=(eN .i64)) [a.FromPort,a.ToPort] E E E E E E E E E E E E Z<|gO 4 E<|Ker hΓ (enc:=(eN .i64)) [b.FromPort,b.ToPort] E E E E E E E E E E E E Z<|bK h12 fun y13 hy13 h14=>Kex C (Lhp hy13) E Z E E E E E<|gO 4 E<|oSi h14▸gP E E
 exact bK h9 fun y10 hy10 h11=>gA 6 E<|Kex C (Lhm hy10) E Z E E E E E<|gO 6 E<|oSi h11▸gP E E
theorem Lht{k:Nat}{a:Kxr}{b:Kxr}{r:Int}(h:Kzq k a b=some r):Pure Tryz.prog 23 [.agg (gE a),.agg (gE b)] (I r):=by
 unfold Kzq at h
 refine QP Tryz.func23 E E E<|gA 2 E<|Kqo E E E E Z<|Kqo E E E E Z<|gO 15 E<|Kdn E (fun hb=>?_) (fun hb=>?_)
 ·have h1:=cT h hb
  exact bK h1 fun y2 hy2 h3=>gA 7 E<|Kex C (Lhk hy2) E Z E E E E E<|gO 6 E<|oSi h3▸gP E E
 have h4:=cF h hb
 refine gA 10 E<|Kdn E (fun hb=>?_) (fun hb=>?_)
 ·have h5:=cT h4 hb
  exact bK h5 fun y6 hy6 h7=>gA 6 E<|Kex C (Ktk hy6) E Z E E E E E<|gO 6 E<|oSi h7▸gP E E
 have h8:=cF h4 hb
 refine gA 8 E<|Kdt 3 [(2,.ptr 0 0),(3,.ptr 1 0),(37,B ((!((a.Out:Bool)==b.Out))&&b.Out))] [.box 50 (gE a),.box 50 (gE b)] ?_ ?_
 ·refine Kpg E E (fun hb=>?_) (fun hb=>?_)
  ·exact gO 4 E<|⟨⟨E,E,Kct E (Kft hb),tV⟩,[],E,.inl E⟩
  exact gO 4 E<|⟨⟨E,E,Kct E (Kfu hb),tV⟩,[],E,.inl E⟩
 refine gO 3 E<|jC E h8 (fun h9=>?_) fun h10=>gA 10 E<|jC E h10 (fun h11=>?_) fun h12=>?_
 ·exact gA 8 E<|oSi h9▸gP E E
 ·exact gA 8 E<|oSi h11▸gP E E
 exact bK h12 fun y13 hy13 h14=>gA 9 E<|Kex C (Lhs hy13) E Z E E E E E<|gO 4 E<|oSi h14▸gP E E
theorem Lhu{k:Nat}{data:List Kxr}{a:Int}{b:Int}{r:List Kxr}(h:Kzr k data a b=some r):EC Tryz.prog 79 [.sl 0 data.length,I a,I b,.fn (.func 23) [] []] [Q7 data] fun g hp'=>g=.tup []∧hp'=[Qjb r]:=by
 unfold Kzr at h
 refine QN Tryz.func79 E Z<|gA 7 E<|bK h fun q4 hq4 h5=>Kid [] [Qjb q4] ?_ ?_
 ·refine gA 1 E<|Kec hq4 (fun s2=>[(0,.sl 0 s2.1.length),(1,I a),(2,I b),(3,.fn (.func 23) [] []),(8,I s2.2)]) (fun s2=>[Qjb s2.1]) ⟨⟨E,E,E,E,E,tV⟩,[],E,.inl E⟩ (fun s2 y10 hy8 hout9=>?_)
  refine gA 8 E<|jC E hy8 (fun h11=>?_) fun h51=>gA 4 E ?_
  ·refine gA 10 E<|bK h11 fun q15 hq15 h16=>Kid [(0,.sl 0 q15.length),(1,I a),(2,I b),(3,.fn (.func 23) [] []),(8,I s2.2)] [Qjb q15] ?_ ?_
   ·refine gA 1 E<|Kec hq15 (fun s13=>[(0,.sl 0 s13.1.length),(1,I a),(2,I b),(3,.fn (.func 23) [] []),(8,I s2.2),(9,I s13.2)]) (fun s13=>[Qjb s13.1]) ⟨⟨E,E,E,E,E,E,tV⟩,[],E,.inl E⟩ (fun s13 y21 hy19 hout20=>?_)
    refine bK hy19 fun q22 hq22 h23=>gA 2 E<|Kid [(0,.sl 0 s13.1.length),(1,I a),(2,I b),(3,.fn (.func 23) [] []),(8,I s2.2),(9,I s13.2),(34,B q22)] [Qjb s13.1] ?_ ?_
    ·refine jD<|gA 4 E<|Kbx E E (fun hb=>?_) (fun hb=>?_)
     ·have h24:=cT hq22 hb
      refine bK h24 fun x25 hx25 h26=>?_
      have hj27:=Kfs hx25
      refine Kdl hΓ 3 E<|Kcu E E (Kei hΓ hx25 E E E E E E)<|Kcu E E (Keo hΓ (enc:=Lfu) s13.2.toNat 0 hj27 E E E E (fun _=>E) (g:=.agg (gE x25)) E)<|bK h26 fun x28 hx28 h29=>?_
      have hj30:=Kfs hx28
      exact Kdl hΓ 3 E<|Kcu E E (Kei hΓ hx28 E E E E E E)<|Kcu E E (Keo hΓ (enc:=Lfu) ((wi (s13.2 - 1)).toNat) 0 hj30 E E E E (fun _=>E) (g:=.agg (gE x28)) E)<|bK h29 fun y31 hy31 h32=>Kfa C (Lht hy31) E E E E E E E<|Kdl hΓ 3 E<|oSi h32▸⟨⟨E,E,E,E,E,E,E,tV⟩,[],E,.inl E⟩
     have h33:=cF hq22 hb
     exact Kdl hΓ 14 E<|oSi h33▸⟨⟨E,E,E,E,E,E,E,tV⟩,[],E,.inl E⟩
    refine gA 1 E<|jC E h23 (fun h34=>?_) fun h50=>gA 4 E ?_
    ·refine gA 4 E<|Khd [Qjb s13.1] [9,13] [15,17] [15,17] hmix (by kernel_rfl) (by kernel_rfl) ⟨E,tV⟩ Z<|bK h34 fun x35 hx35 h36=>?_
     have hj37:=Kfs hx35
     refine go_E hΓ 8 E<|ge_q E (.inl E) (fun _ _=>Khf (qt_p (Kei hΓ hx35 E E E E E E)))<|ge_p E (fun hp hs=>Keo hΓ (enc:=Lfu) ((wi (s13.2 - 1)).toNat) 0 hj37 E E E (hs 0 _ E E) (fun _=>E) (g:=.agg (gE x35)) E) E<|bK h36 fun x38 hx38 h39=>?_
     have hj40:=Kfs hx38
     refine go_E hΓ 2 E<|ge_q E (.inl E) (fun _ _=>Khf (qt_p (Kei hΓ hx38 E E E E E E)))<|ge_p E (fun hp hs=>Keo hΓ (enc:=Lfu) s13.2.toNat 0 hj40 E E E (hs 0 _ E E) (fun _=>E) (g:=.agg (gE x38)) E) E<|bK h39 fun x41 hx41 h42=>?_
     have hj43:=Kfs hx41
     refine ge_q E (.inl E) (fun _ _=>Khf (qt_p (Kei hΓ hx41 E E E E E E)))<|Khj [Qjb (s13.1.set s13.2.toNat x35)] E E (Khk E) (Khp (Kis hΓ (enc:=Lfu) (z':=x35) s13.2.toNat (by have:=(gEs.1 hj43).1;simpa using this) E E E E (fun _=>E) E E E E E)) ?_
     refine bK h42 fun x44 hx44 h45=>?_
     have hj46:=Kfs hx44
     refine ge_q E (.inl E) (fun _ _=>Khf (qt_p (Kei hΓ hx44 E E E E E E)))<|bK h45 fun x47 hx47 h48=>?_
     have hj49:(s13.1.set s13.2.toNat x35)[(wi (s13.2 - 1)).toNat]?=some x47:=hx47
     refine Khj [Qjb ((s13.1.set s13.2.toNat x35).set ((wi (s13.2 - 1)).toNat) x38)] E E (Khk E) (Khp (Kis hΓ (enc:=Lfu) (z':=x38) ((wi (s13.2 - 1)).toNat) (by have:=(gEs.1 hj49).1;simpa using this) E E E E (fun _=>E) E E E E E)) ?_
     refine Khe<|gA 2 E<|Kit 0 (n':=((s13.1.set s13.2.toNat x35).set ((wi (s13.2 - 1)).toNat) x38).length) E (by simp) ?_
     refine Kit 37 (n':=((s13.1.set s13.2.toNat x35).set ((wi (s13.2 - 1)).toNat) x38).length) E (by simp) ?_
     refine Kit 39 (n':=((s13.1.set s13.2.toNat x35).set ((wi (s13.2 - 1)).toNat) x38).length) E (by simp) ?_
     refine Kit 42 (n':=((s13.1.set s13.2.toNat x35).set ((wi (s13.2 - 1)).toNat) x38).length) E (by simp) ?_
     refine Kit 47 (n':=((s13.1.set s13.2.toNat x35).set ((wi (s13.2 - 1)).toNat) x38).length) E (by simp) ?_
     exact gA 5 E<|oSi h48▸⟨_,E,⟨⟨E,E,E,E,E,E,tV⟩,[],E,.inl E⟩⟩
    cases h50
    obtain rfl:=hout20 _ rfl
    exact⟨⟨E,E,E,E,E,tV⟩,[],E,.inl E⟩
   exact gA 7 E<|oSi h16▸⟨_,E,⟨⟨E,E,E,E,E,tV⟩,[],E,.inl E⟩⟩
  cases h51
  obtain rfl:=hout9 _ rfl
  exact⟨tV,[],E,.inl E⟩
 exact oSi h5▸Kfn hΓ [] (.inl E) E E E E (.inl E)
theorem Lhv{k:Nat}{data:List Kxr}{a:Int}{b:Int}{n:Int}{r:List Kxr}(h:Kzs k data a b n=some r):EC Tryz.prog 191 [.sl 0 data.length,I a,I b,I n,.fn (.func 23) [] []] [Q7 data] fun g hp'=>g=.tup []∧hp'=[Qjb r]:=by
 unfold Kzs at h
 refine QN Tryz.func191 E Z<|gA 5 E<|bK h fun q4 hq4 h5=>Kid [] [Qjb q4] ?_ ?_
 ·refine gA 1 E<|Kec hq4 (fun s2=>[(0,.sl 0 s2.1.length),(1,I a),(2,I b),(3,I n),(10,I s2.2)]) (fun s2=>[Qjb s2.1]) ⟨⟨E,E,E,E,E,tV⟩,[],E,.inl E⟩ (fun s2 y10 hy8 hout9=>?_)
  refine gA 8 E<|jC E hy8 (fun h11=>?_) fun h27=>gA 4 E ?_
  ·refine gA 4 E<|Khd [Qjb s2.1] [13,19] [21,23] [21,23] hmix (by kernel_rfl) (by kernel_rfl) ⟨E,tV⟩ Z<|bK h11 fun x12 hx12 h13=>?_
   have hj14:=Kfs hx12
   refine go_E hΓ 12 E<|ge_q E (.inl E) (fun _ _=>Khf (qt_p (Kei hΓ hx12 E E E E E E)))<|ge_p E (fun hp hs=>Keo hΓ (enc:=Lfu) ((wi (b+s2.2)).toNat) 0 hj14 E E E (hs 0 _ E E) (fun _=>E) (g:=.agg (gE x12)) E) E<|bK h13 fun x15 hx15 h16=>?_
   have hj17:=Kfs hx15
   refine go_E hΓ 4 E<|ge_q E (.inl E) (fun _ _=>Khf (qt_p (Kei hΓ hx15 E E E E E E)))<|ge_p E (fun hp hs=>Keo hΓ (enc:=Lfu) ((wi (a+s2.2)).toNat) 0 hj17 E E E (hs 0 _ E E) (fun _=>E) (g:=.agg (gE x15)) E) E<|bK h16 fun x18 hx18 h19=>?_
   have hj20:=Kfs hx18
   refine ge_q E (.inl E) (fun _ _=>Khf (qt_p (Kei hΓ hx18 E E E E E E)))<|Khj [Qjb (s2.1.set ((wi (a+s2.2)).toNat) x12)] E E (Khk E) (Khp (Kis hΓ (enc:=Lfu) (z':=x12) ((wi (a+s2.2)).toNat) (by have:=(gEs.1 hj20).1;simpa using this) E E E E (fun _=>E) E E E E E)) ?_
   refine bK h19 fun x21 hx21 h22=>?_
   have hj23:=Kfs hx21
   refine ge_q E (.inl E) (fun _ _=>Khf (qt_p (Kei hΓ hx21 E E E E E E)))<|bK h22 fun x24 hx24 h25=>?_
   have hj26:(s2.1.set ((wi (a+s2.2)).toNat) x12)[(wi (b+s2.2)).toNat]?=some x24:=hx24
   refine Khj [Qjb ((s2.1.set ((wi (a+s2.2)).toNat) x12).set ((wi (b+s2.2)).toNat) x15)] E E (Khk E) (Khp (Kis hΓ (enc:=Lfu) (z':=x15) ((wi (b+s2.2)).toNat) (by have:=(gEs.1 hj26).1;simpa using this) E E E E (fun _=>E) E E E E E)) ?_
   refine Khe<|gA 2 E<|Kit 0 (n':=((s2.1.set ((wi (a+s2.2)).toNat) x12).set ((wi (b+s2.2)).toNat) x15).length) E (by simp) ?_
   refine Kit 16 (n':=((s2.1.set ((wi (a+s2.2)).toNat) x12).set ((wi (b+s2.2)).toNat) x15).length) E (by simp) ?_
   refine Kit 20 (n':=((s2.1.set ((wi (a+s2.2)).toNat) x12).set ((wi (b+s2.2)).toNat) x15).length) E (by simp) ?_
   refine Kit 24 (n':=((s2.1.set ((wi (a+s2.2)).toNat) x12).set ((wi (b+s2.2)).toNat) x15).length) E (by simp) ?_
   refine Kit 30 (n':=((s2.1.set ((wi (a+s2.2)).toNat) x12).set ((wi (b+s2.2)).toNat) x15).length) E (by simp) ?_
   exact gA 5 E<|oSi h25▸⟨_,E,⟨⟨E,E,E,E,E,tV⟩,[],E,.inl E⟩⟩
  cases h27
  obtain rfl:=hout9 _ rfl
  exact⟨tV,[],E,.inl E⟩
 exact oSi h5▸Kfn hΓ [] (.inl E) E E E E (.inl E)
theorem Lhw{k:Nat}{data:List Kxr}{a:Int}{m:Int}{b:Int}{r:List Kxr}(h:Kzt k data a m b=some r):EC Tryz.prog 131 [.sl 0 data.length,I a,I m,I b,.fn (.func 23) [] []] [Q7 data] fun g hp'=>g=.tup []∧hp'=[Qjb r]:=by
 unfold Kzt at h
 refine QN Tryz.func131 E Z<|gA 17 E<|bK h fun q4 hq4 h5=>Kid [(0,.sl 0 q4.1.length),(2,I m),(4,.fn (.func 23) [] []),(10,I q4.2)] [Qjb q4.1] ?_ ?_
 ·refine gA 1 E<|Kec hq4 (fun s2=>[(0,.sl 0 s2.1.length),(2,I m),(4,.fn (.func 23) [] []),(10,I s2.2.1),(11,I s2.2.2)]) (fun s2=>[Qjb s2.1]) ⟨⟨E,E,E,E,E,tV⟩,[],E,.inl E⟩ (fun s2 y10 hy8 hout9=>?_)
  refine gA 8 E<|jC E hy8 (fun h11=>?_) fun h22=>gA 4 E ?_
  ·refine gA 10 E<|jC E h11 (fun h12=>?_) fun h17=>bK h17 fun y18 hy18 h19=>gA 13 E<|Kew [0] (.tup []) [Qjb y18] C (Lhv hy18) E Z E E E E E E E E E E<|gK h19 fun hg21 h20=>Kip 0 E (of_decide_eq_true hg21).symm<|gO 9 E<|oSi h20▸⟨_,E,⟨⟨E,E,E,E,E,tV⟩,[],E,.inl E⟩⟩
   exact bK h12 fun y13 hy13 h14=>gA 9 E<|Kew [0] (.tup []) [Qjb y13] C (Lhv hy13) E Z E E E E E E E E E E<|gK h14 fun hg16 h15=>Kip 0 E (of_decide_eq_true hg16).symm<|gO 9 E<|oSi h15▸⟨_,E,⟨⟨E,E,E,E,E,tV⟩,[],E,.inl E⟩⟩
  cases h22
  obtain rfl:=hout9 _ rfl
  exact⟨⟨E,E,E,E,tV⟩,[],E,.inl E⟩
 exact bK h5 fun y23 hy23 h24=>gA 9 E<|Kew [0] (.tup []) [Qjb y23] C (Lhv hy23) E Z E E E E E E E E E E<|gO 1 E<|oSi h24▸Kfn hΓ [] (.inl E) E E E E (.inl E)
theorem Lhx{k:Nat}{data:List Kxr}{a:Int}{m:Int}{b:Int}{r:List Kxr}(h:Kzu k data a m b=some r):EC Tryz.prog 80 [.sl 0 data.length,I a,I m,I b,.fn (.func 23) [] []] [Q7 data] fun g hp'=>g=.tup []∧hp'=[Qjb r]:=by
 induction k generalizing data a m b r with
 | zero=>unfold Kzu at h;cases h
 | succ k ih0=>
  have ih:∀ {data:List Kxr} {a:Int} {m:Int} {b:Int} {r:List Kxr},Kzu k data a m b=some r→EC Tryz.prog 80 [.sl 0 data.length,I a,I m,I b,.fn (.func 23) [] []] [Q7 data] fun g hp'=>g=.tup []∧hp'=[Qjb r]:=by intro data a m b r h;first | exact ih0 h | exact ih0 _ _ _ _ _ h
  refine Koy (Fr.of 0 _) Tryz.func80 E (Fr.of_ok _) Z fun _=>?_
  refine Kdm ?_
  unfold Kzu at h
  refine gA 9 E ?_
  refine Kdn E (fun hb=>?_) (fun hb=>?_)
  ·have h1:=cT h hb
   refine gA 13 E ?_
   obtain⟨q5,hq5,h6⟩:=Kdw h1
   refine Kid [(0,.sl 0 data.length),(1,I a),(10,I q5)] [Q7 data] ?_ ?_
   ·refine gA 1 E ?_
    refine Kec hq5 (fun s3=>[(0,.sl 0 data.length),(1,I a),(4,.fn (.func 23) [] []),(10,I s3.1),(11,I s3.2)]) (fun s3=>[Q7 data]) ⟨⟨E,E,E,E,E,tV⟩,[],E,.inl E⟩ (fun s3 y11 hy9 hout10=>?_)
    refine gA 8 E ?_
    refine Kdn E (fun hb=>?_) (fun hb=>?_)
    ·have h12:=cT hy9 hb
     refine gA 15 E ?_
     refine jD ?_
     obtain⟨x13,hx13,h14⟩:=Kdw h12
     have hj15:=Kfs hx13
     refine gA 3 E ?_
     refine gl_o E (Kei hΓ hx13 E E E E E E) ?_
     refine gl_o E (Keo hΓ (enc:=Lfu) ((wi (shrV .u64 (IntKind.u64.wrap (wi (s3.1+s3.2))) 1)).toNat) 0 hj15 E E E E (fun _=>E) (g:=.agg (gE x13)) E) ?_
     obtain⟨x16,hx16,h17⟩:=Kdw h14
     have hj18:=Kfs hx16
     refine Kdl hΓ 2 E ?_
     refine gl_o E (Kei hΓ hx16 E E E E E E) ?_
     refine gl_o E (Keo hΓ (enc:=Lfu) a.toNat 0 hj18 E E E E (fun _=>E) (g:=.agg (gE x16)) E) ?_
     obtain⟨y19,hy19,h20⟩:=Kdw h17
     refine Kez C (Lht hy19) E E E E E E ?_
     refine Kdl hΓ 3 E ?_
     refine Kdn E (fun hb=>?_) (fun hb=>?_)
     ·have h21:=cT h20 hb
      refine gA 6 E ?_
      obtain rfl:=oSi h21
      exact⟨_,E,⟨⟨E,E,E,E,E,tV⟩,[],E,.inl E⟩⟩
     have h22:=cF h20 hb
     refine gA 5 E ?_
     obtain rfl:=oSi h22
     exact⟨_,E,⟨⟨E,E,E,E,E,tV⟩,[],E,.inl E⟩⟩
    have h23:=cF hy9 hb
    refine gA 4 E ?_
    obtain rfl:=oSi h23
    obtain rfl:=hout10 _ rfl
    exact⟨⟨E,E,E,tV⟩,[],E,.inl E⟩
   refine gA 8 E ?_
   obtain⟨q27,hq27,h28⟩:=Kdw h6
   refine Kid [] [Qjb q27] ?_ ?_
   ·refine gA 1 E ?_
    refine Kec hq27 (fun s25=>[(0,.sl 0 s25.1.length),(10,I q5),(13,I s25.2)]) (fun s25=>[Qjb s25.1]) ⟨⟨E,E,E,tV⟩,[],E,.inl E⟩ (fun s25 y33 hy31 hout32=>?_)
    refine gA 9 E ?_
    refine Kdn E (fun hb=>?_) (fun hb=>?_)
    ·have h34:=cT hy31 hb
     refine gA 4 E ?_
     refine Khd [Qjb s25.1] [9,13] [15,17] [15,17] hmix (by kernel_rfl) (by kernel_rfl) ⟨E,tV⟩ Z ?_
     obtain⟨x35,hx35,h36⟩:=Kdw h34
     have hj37:=Kfs hx35
     refine go_E hΓ 8 E ?_
     refine ge_q E (.inl E) (fun _ _=>Khf (qt_p (Kei hΓ hx35 E E E E E E))) ?_
     refine ge_p E (fun hp hs=>Keo hΓ (enc:=Lfu) ((wi (s25.2+1)).toNat) 0 hj37 E E E (hs 0 _ E E) (fun _=>E) (g:=.agg (gE x35)) E) E ?_
     obtain⟨x38,hx38,h39⟩:=Kdw h36
     have hj40:=Kfs hx38
     refine go_E hΓ 2 E ?_
     refine ge_q E (.inl E) (fun _ _=>Khf (qt_p (Kei hΓ hx38 E E E E E E))) ?_
     refine ge_p E (fun hp hs=>Keo hΓ (enc:=Lfu) s25.2.toNat 0 hj40 E E E (hs 0 _ E E) (fun _=>E) (g:=.agg (gE x38)) E) E ?_
     obtain⟨x41,hx41,h42⟩:=Kdw h39
     have hj43:=Kfs hx41
     refine ge_q E (.inl E) (fun _ _=>Khf (qt_p (Kei hΓ hx41 E E E E E E))) ?_
     refine Khj [Qjb (s25.1.set s25.2.toNat x35)] E E (Khk E) (Khp (Kis hΓ (enc:=Lfu) (z':=x35) s25.2.toNat (by have:=(gEs.1 hj43).1;simpa using this) E E E E (fun _=>E) E E E E E)) ?_
     obtain⟨x44,hx44,h45⟩:=Kdw h42
     have hj46:=Kfs hx44
     refine ge_q E (.inl E) (fun _ _=>Khf (qt_p (Kei hΓ hx44 E E E E E E))) ?_
     obtain⟨x47,hx47,h48⟩:=Kdw h45
     have hj49:(s25.1.set s25.2.toNat x35)[(wi (s25.2+1)).toNat]?=some x47:=hx47
     refine Khj [Qjb ((s25.1.set s25.2.toNat x35).set ((wi (s25.2+1)).toNat) x38)] E E (Khk E) (Khp (Kis hΓ (enc:=Lfu) (z':=x38) ((wi (s25.2+1)).toNat) (by have:=(gEs.1 hj49).1;simpa using this) E E E E (fun _=>E) E E E E E)) ?_
     refine Khe ?_
     refine gA 2 E ?_
     refine Kit 0 (n':=((s25.1.set s25.2.toNat x35).set ((wi (s25.2+1)).toNat) x38).length) E (by simp) ?_
     refine Kit 61 (n':=((s25.1.set s25.2.toNat x35).set ((wi (s25.2+1)).toNat) x38).length) E (by simp) ?_
     refine Kit 63 (n':=((s25.1.set s25.2.toNat x35).set ((wi (s25.2+1)).toNat) x38).length) E (by simp) ?_
     refine Kit 66 (n':=((s25.1.set s25.2.toNat x35).set ((wi (s25.2+1)).toNat) x38).length) E (by simp) ?_
     refine Kit 71 (n':=((s25.1.set s25.2.toNat x35).set ((wi (s25.2+1)).toNat) x38).length) E (by simp) ?_
     refine gA 5 E ?_
     obtain rfl:=oSi h48
     exact⟨_,E,⟨⟨E,E,E,tV⟩,[],E,.inl E⟩⟩
    have h50:=cF hy31 hb
    refine gA 4 E ?_
    obtain rfl:=oSi h50
    obtain rfl:=hout32 _ rfl
    exact⟨tV,[],E,.inl E⟩
   refine gA 3 E ?_
   obtain rfl:=oSi h28
   exact Kfn hΓ [] (.inr E) E E E E (.inl E)
  have h51:=cF h hb
  refine gA 11 E ?_
  refine Kdn E (fun hb=>?_) (fun hb=>?_)
  ·have h52:=cT h51 hb
   refine gA 13 E ?_
   obtain⟨q56,hq56,h57⟩:=Kdw h52
   refine Kid [(0,.sl 0 data.length),(2,I m),(14,I q56)] [Q7 data] ?_ ?_
   ·refine gA 1 E ?_
    refine Kec hq56 (fun s54=>[(0,.sl 0 data.length),(2,I m),(4,.fn (.func 23) [] []),(14,I s54.1),(15,I s54.2)]) (fun s54=>[Q7 data]) ⟨⟨E,E,E,E,E,tV⟩,[],E,.inl E⟩ (fun s54 y62 hy60 hout61=>?_)
    refine gA 8 E ?_
    refine Kdn E (fun hb=>?_) (fun hb=>?_)
    ·have h63:=cT hy60 hb
     refine gA 15 E ?_
     refine jD ?_
     obtain⟨x64,hx64,h65⟩:=Kdw h63
     have hj66:=Kfs hx64
     refine gA 3 E ?_
     refine gl_o E (Kei hΓ hx64 E E E E E E) ?_
     refine gl_o E (Keo hΓ (enc:=Lfu) m.toNat 0 hj66 E E E E (fun _=>E) (g:=.agg (gE x64)) E) ?_
     obtain⟨x67,hx67,h68⟩:=Kdw h65
     have hj69:=Kfs hx67
     refine Kdl hΓ 2 E ?_
     refine gl_o E (Kei hΓ hx67 E E E E E E) ?_
     refine gl_o E (Keo hΓ (enc:=Lfu) ((wi (shrV .u64 (IntKind.u64.wrap (wi (s54.1+s54.2))) 1)).toNat) 0 hj69 E E E E (fun _=>E) (g:=.agg (gE x67)) E) ?_
     obtain⟨y70,hy70,h71⟩:=Kdw h68
     refine Kez C (Lht hy70) E E E E E E ?_
     refine Kdl hΓ 4 E ?_
     refine Kdn E (fun hb=>?_) (fun hb=>?_)
     ·have h72:=cT h71 hb
      refine gA 6 E ?_
      obtain rfl:=oSi h72
      exact⟨_,E,⟨⟨E,E,E,E,E,tV⟩,[],E,.inl E⟩⟩
     have h73:=cF h71 hb
     refine gA 5 E ?_
     obtain rfl:=oSi h73
     exact⟨_,E,⟨⟨E,E,E,E,E,tV⟩,[],E,.inl E⟩⟩
    have h74:=cF hy60 hb
    refine gA 4 E ?_
    obtain rfl:=oSi h74
    obtain rfl:=hout61 _ rfl
    exact⟨⟨E,E,E,tV⟩,[],E,.inl E⟩
   refine gA 8 E ?_
   obtain⟨q78,hq78,h79⟩:=Kdw h57
   refine Kid [] [Qjb q78] ?_ ?_
   ·refine gA 1 E ?_
    refine Kec hq78 (fun s76=>[(0,.sl 0 s76.1.length),(14,I q56),(17,I s76.2)]) (fun s76=>[Qjb s76.1]) ⟨⟨E,E,E,tV⟩,[],E,.inl E⟩ (fun s76 y84 hy82 hout83=>?_)
    refine gA 8 E ?_
    refine Kdn E (fun hb=>?_) (fun hb=>?_)
    ·have h85:=cT hy82 hb
     refine gA 4 E ?_
     refine Khd [Qjb s76.1] [9,13] [15,17] [15,17] hmix (by kernel_rfl) (by kernel_rfl) ⟨E,tV⟩ Z ?_
     obtain⟨x86,hx86,h87⟩:=Kdw h85
     have hj88:=Kfs hx86
     refine go_E hΓ 8 E ?_
     refine ge_q E (.inl E) (fun _ _=>Khf (qt_p (Kei hΓ hx86 E E E E E E))) ?_
     refine ge_p E (fun hp hs=>Keo hΓ (enc:=Lfu) ((wi (s76.2 - 1)).toNat) 0 hj88 E E E (hs 0 _ E E) (fun _=>E) (g:=.agg (gE x86)) E) E ?_
     obtain⟨x89,hx89,h90⟩:=Kdw h87
     have hj91:=Kfs hx89
     refine go_E hΓ 2 E ?_
     refine ge_q E (.inl E) (fun _ _=>Khf (qt_p (Kei hΓ hx89 E E E E E E))) ?_
     refine ge_p E (fun hp hs=>Keo hΓ (enc:=Lfu) s76.2.toNat 0 hj91 E E E (hs 0 _ E E) (fun _=>E) (g:=.agg (gE x89)) E) E ?_
     obtain⟨x92,hx92,h93⟩:=Kdw h90
     have hj94:=Kfs hx92
     refine ge_q E (.inl E) (fun _ _=>Khf (qt_p (Kei hΓ hx92 E E E E E E))) ?_
     refine Khj [Qjb (s76.1.set s76.2.toNat x86)] E E (Khk E) (Khp (Kis hΓ (enc:=Lfu) (z':=x86) s76.2.toNat (by have:=(gEs.1 hj94).1;simpa using this) E E E E (fun _=>E) E E E E E)) ?_
     obtain⟨x95,hx95,h96⟩:=Kdw h93
     have hj97:=Kfs hx95
     refine ge_q E (.inl E) (fun _ _=>Khf (qt_p (Kei hΓ hx95 E E E E E E))) ?_
     obtain⟨x98,hx98,h99⟩:=Kdw h96
     have hj100:(s76.1.set s76.2.toNat x86)[(wi (s76.2 - 1)).toNat]?=some x98:=hx98
     refine Khj [Qjb ((s76.1.set s76.2.toNat x86).set ((wi (s76.2 - 1)).toNat) x89)] E E (Khk E) (Khp (Kis hΓ (enc:=Lfu) (z':=x89) ((wi (s76.2 - 1)).toNat) (by have:=(gEs.1 hj100).1;simpa using this) E E E E (fun _=>E) E E E E E)) ?_
     refine Khe ?_
     refine gA 2 E ?_
     refine Kit 0 (n':=((s76.1.set s76.2.toNat x86).set ((wi (s76.2 - 1)).toNat) x89).length) E (by simp) ?_
     refine Kit 113 (n':=((s76.1.set s76.2.toNat x86).set ((wi (s76.2 - 1)).toNat) x89).length) E (by simp) ?_
     refine Kit 115 (n':=((s76.1.set s76.2.toNat x86).set ((wi (s76.2 - 1)).toNat) x89).length) E (by simp) ?_
     refine Kit 118 (n':=((s76.1.set s76.2.toNat x86).set ((wi (s76.2 - 1)).toNat) x89).length) E (by simp) ?_
     refine Kit 123 (n':=((s76.1.set s76.2.toNat x86).set ((wi (s76.2 - 1)).toNat) x89).length) E (by simp) ?_
     refine gA 5 E ?_
     obtain rfl:=oSi h99
     exact⟨_,E,⟨⟨E,E,E,tV⟩,[],E,.inl E⟩⟩
    have h101:=cF hy82 hb
    refine gA 4 E ?_
    obtain rfl:=oSi h101
    obtain rfl:=hout83 _ rfl
    exact⟨tV,[],E,.inl E⟩
   refine gA 3 E ?_
   obtain rfl:=oSi h79
   exact Kfn hΓ [] (.inr E) E E E E (.inl E)
  have h102:=cF h51 hb
  obtain⟨q103,hq103,h104⟩:=Kdw h102
  refine gA 35 E ?_
  refine Kid [(0,.sl 0 data.length),(1,I a),(2,I m),(3,I b),(4,.fn (.func 23) [] []),(18,I (wi (shrV .u64 (IntKind.u64.wrap (wi (a+b))) 1))),(19,I (wi ((wi (shrV .u64 (IntKind.u64.wrap (wi (a+b))) 1))+m))),(20,I q103.1),(21,I q103.2)] [Q7 data] ?_ ?_
  ·refine Kdn E (fun hb=>?_) (fun hb=>?_)
   ·have h105:=cT hq103 hb
    refine gA 12 E ?_
    obtain rfl:=oSi h105
    exact⟨⟨E,E,E,E,E,E,E,E,E,tV⟩,[],E,.inl E⟩
   have h106:=cF hq103 hb
   refine gA 10 E ?_
   obtain rfl:=oSi h106
   exact⟨⟨E,E,E,E,E,E,E,E,E,tV⟩,[],E,.inl E⟩
  refine gA 9 E ?_
  obtain⟨q110,hq110,h111⟩:=Kdw h104
  refine Kid [(0,.sl 0 data.length),(1,I a),(2,I m),(3,I b),(4,.fn (.func 23) [] []),(18,I (wi (shrV .u64 (IntKind.u64.wrap (wi (a+b))) 1))),(19,I (wi ((wi (shrV .u64 (IntKind.u64.wrap (wi (a+b))) 1))+m))),(20,I q110)] [Q7 data] ?_ ?_
  ·refine gA 1 E ?_
   refine Kec hq110 (fun s108=>[(0,.sl 0 data.length),(1,I a),(2,I m),(3,I b),(4,.fn (.func 23) [] []),(18,I (wi (shrV .u64 (IntKind.u64.wrap (wi (a+b))) 1))),(19,I (wi ((wi (shrV .u64 (IntKind.u64.wrap (wi (a+b))) 1))+m))),(20,I s108.1),(21,I s108.2),(22,I (wi ((wi ((wi (shrV .u64 (IntKind.u64.wrap (wi (a+b))) 1))+m)) - 1)))]) (fun s108=>[Q7 data]) ⟨⟨E,E,E,E,E,E,E,E,E,E,tV⟩,[],E,.inl E⟩ (fun s108 y116 hy114 hout115=>?_)
   refine gA 8 E ?_
   refine Kdn E (fun hb=>?_) (fun hb=>?_)
   ·have h117:=cT hy114 hb
    refine gA 15 E ?_
    refine jD ?_
    obtain⟨x118,hx118,h119⟩:=Kdw h117
    have hj120:=Kfs hx118
    refine gA 5 E ?_
    refine gl_o E (Kei hΓ hx118 E E E E E E) ?_
    refine gl_o E (Keo hΓ (enc:=Lfu) ((wi ((wi ((wi ((wi (shrV .u64 (IntKind.u64.wrap (wi (a+b))) 1))+m)) - 1)) - (wi (shrV .u64 (IntKind.u64.wrap (wi (s108.1+s108.2))) 1)))).toNat) 0 hj120 E E E E (fun _=>E) (g:=.agg (gE x118)) E) ?_
    obtain⟨x121,hx121,h122⟩:=Kdw h119
    have hj123:=Kfs hx121
    refine Kdl hΓ 2 E ?_
    refine gl_o E (Kei hΓ hx121 E E E E E E) ?_
    refine gl_o E (Keo hΓ (enc:=Lfu) ((wi (shrV .u64 (IntKind.u64.wrap (wi (s108.1+s108.2))) 1)).toNat) 0 hj123 E E E E (fun _=>E) (g:=.agg (gE x121)) E) ?_
    obtain⟨y124,hy124,h125⟩:=Kdw h122
    refine Kez C (Lht hy124) E E E E E E ?_
    refine Kdl hΓ 4 E ?_
    refine Kdn E (fun hb=>?_) (fun hb=>?_)
    ·have h126:=cT h125 hb
     refine gA 6 E ?_
     obtain rfl:=oSi h126
     exact⟨_,E,⟨⟨E,E,E,E,E,E,E,E,E,E,tV⟩,[],E,.inl E⟩⟩
    have h127:=cF h125 hb
    refine gA 5 E ?_
    obtain rfl:=oSi h127
    exact⟨_,E,⟨⟨E,E,E,E,E,E,E,E,E,E,tV⟩,[],E,.inl E⟩⟩
   have h128:=cF hy114 hb
   refine gA 4 E ?_
   obtain rfl:=oSi h128
   obtain rfl:=hout115 _ rfl
   exact⟨⟨E,E,E,E,E,E,E,E,tV⟩,[],E,.inl E⟩
  refine gA 16 E ?_
  refine Kdt 4 [(0,.sl 0 data.length),(1,I a),(2,I m),(3,I b),(4,.fn (.func 23) [] []),(18,I (wi (shrV .u64 (IntKind.u64.wrap (wi (a+b))) 1))),(20,I q110),(24,I (wi ((wi ((wi (shrV .u64 (IntKind.u64.wrap (wi (a+b))) 1))+m)) - q110))),(185,B ((decide ((q110:Int)<m))&&(decide ((m:Int)<(wi ((wi ((wi (shrV .u64 (IntKind.u64.wrap (wi (a+b))) 1))+m)) - q110))))))] [Q7 data] ?_ ?_
  ·refine Kpg E E (fun hb=>?_) (fun hb=>?_)
   ·refine gO 5 E ?_
    exact⟨⟨E,E,E,E,E,E,E,E,Kct E (Kft hb),tV⟩,[],E,.inl E⟩
   refine gO 5 E ?_
   exact⟨⟨E,E,E,E,E,E,E,E,Kct E (Kfu hb),tV⟩,[],E,.inl E⟩
  obtain⟨q129,hq129,h130⟩:=Kdw h111
  refine gO 2 E ?_
  refine Kid [(0,.sl 0 q129.length),(1,I a),(3,I b),(4,.fn (.func 23) [] []),(18,I (wi (shrV .u64 (IntKind.u64.wrap (wi (a+b))) 1))),(20,I q110),(24,I (wi ((wi ((wi (shrV .u64 (IntKind.u64.wrap (wi (a+b))) 1))+m)) - q110)))] [Qjb q129] ?_ ?_
  ·refine Kdn E (fun hb=>?_) (fun hb=>?_)
   ·have h131:=cT hq129 hb
    obtain⟨y132,hy132,h133⟩:=Kdw h131
    refine gA 6 E ?_
    refine Kew [0] (.tup []) [Qjb y132] C (Lhw hy132) E Z E E E E E E E E E E ?_
    obtain⟨hg135,h134⟩:=Kdx h133
    refine Kip 0 E (of_decide_eq_true hg135).symm ?_
    refine gO 1 E ?_
    obtain rfl:=oSi h134
    exact⟨⟨E,E,E,E,E,E,E,tV⟩,[],E,.inl E⟩
   have h136:=cF hq129 hb
   refine gA 1 E ?_
   obtain rfl:=oSi h136
   exact⟨⟨E,E,E,E,E,E,E,tV⟩,[],E,.inl E⟩
  refine gA 8 E ?_
  refine Kdt 4 [(0,.sl 0 q129.length),(1,I a),(3,I b),(4,.fn (.func 23) [] []),(18,I (wi (shrV .u64 (IntKind.u64.wrap (wi (a+b))) 1))),(20,I q110),(24,I (wi ((wi ((wi (shrV .u64 (IntKind.u64.wrap (wi (a+b))) 1))+m)) - q110))),(199,B ((decide ((a:Int)<q110))&&(decide ((q110:Int)<(wi (shrV .u64 (IntKind.u64.wrap (wi (a+b))) 1))))))] [Qjb q129] ?_ ?_
  ·refine Kpg E E (fun hb=>?_) (fun hb=>?_)
   ·refine gO 5 E ?_
    exact⟨⟨E,E,E,E,E,E,E,Kct E (Kft hb),tV⟩,[],E,.inl E⟩
   refine gO 5 E ?_
   exact⟨⟨E,E,E,E,E,E,E,Kct E (Kfu hb),tV⟩,[],E,.inl E⟩
  obtain⟨q137,hq137,h138⟩:=Kdw h130
  refine gO 2 E ?_
  refine Kid [(0,.sl 0 q137.length),(3,I b),(4,.fn (.func 23) [] []),(18,I (wi (shrV .u64 (IntKind.u64.wrap (wi (a+b))) 1))),(24,I (wi ((wi ((wi (shrV .u64 (IntKind.u64.wrap (wi (a+b))) 1))+m)) - q110)))] [Qjb q137] ?_ ?_
  ·refine Kdn E (fun hb=>?_) (fun hb=>?_)
   ·have h139:=cT hq137 hb
    obtain⟨y140,hy140,h141⟩:=Kdw h139
    refine gA 6 E ?_
    refine Kew [0] (.tup []) [Qjb y140] C (ih hy140) E Z E E E E E E E E E E ?_
    obtain⟨hg143,h142⟩:=Kdx h141
    refine Kip 0 E (of_decide_eq_true hg143).symm ?_
    refine gO 1 E ?_
    obtain rfl:=oSi h142
    exact⟨⟨E,E,E,E,E,tV⟩,[],E,.inl E⟩
   have h144:=cF hq137 hb
   refine gA 1 E ?_
   obtain rfl:=oSi h144
   exact⟨⟨E,E,E,E,E,tV⟩,[],E,.inl E⟩
  refine gA 7 E ?_
  refine Kdt 4 [(0,.sl 0 q137.length),(3,I b),(4,.fn (.func 23) [] []),(18,I (wi (shrV .u64 (IntKind.u64.wrap (wi (a+b))) 1))),(24,I (wi ((wi ((wi (shrV .u64 (IntKind.u64.wrap (wi (a+b))) 1))+m)) - q110))),(213,B ((decide ((wi (shrV .u64 (IntKind.u64.wrap (wi (a+b))) 1):Int)<(wi ((wi ((wi (shrV .u64 (IntKind.u64.wrap (wi (a+b))) 1))+m)) - q110))))&&(decide ((wi ((wi ((wi (shrV .u64 (IntKind.u64.wrap (wi (a+b))) 1))+m)) - q110):Int)<b))))] [Qjb q137] ?_ ?_
  ·refine Kpg E E (fun hb=>?_) (fun hb=>?_)
   ·refine gO 5 E ?_
    exact⟨⟨E,E,E,E,E,Kct E (Kft hb),tV⟩,[],E,.inl E⟩
   refine gO 5 E ?_
   exact⟨⟨E,E,E,E,E,Kct E (Kfu hb),tV⟩,[],E,.inl E⟩
  refine gO 2 E ?_
  refine Kdn E (fun hb=>?_) (fun hb=>?_)
  ·have h145:=cT h138 hb
   obtain⟨y146,hy146,h147⟩:=Kdw h145
   refine gA 6 E ?_
   refine Kew [0] (.tup []) [Qjb y146] C (ih hy146) E Z E E E E E E E E E E ?_
   refine gO 1 E ?_
   obtain rfl:=oSi h147
   exact Kfn hΓ [] (.inl E) E E E E (.inl E)
  have h148:=cF h138 hb
  refine gA 1 E ?_
  obtain rfl:=oSi h148
  exact Kfn hΓ [] (.inl E) E E E E (.inl E)
theorem Lhy{k:Nat}{data:List Kxr}{n:Int}{r:List Kxr}(h:Kzv k data n=some r):EC Tryz.prog 51 [.sl 0 data.length,I n,.fn (.func 23) [] []] [Q7 data] fun g hp'=>g=.tup []∧hp'=[Qjb r]:=by
 unfold Kzv at h
 refine QN Tryz.func51 E Z<|gA 13 E<|bK h fun q4 hq4 h5=>Kid [(0,.sl 0 q4.1.length),(1,I n),(2,.fn (.func 23) [] []),(6,I 20),(7,I q4.2)] [Qjb q4.1] ?_ ?_
 ·refine gA 1 E<|Kec hq4 (fun s2=>[(0,.sl 0 s2.1.length),(1,I n),(2,.fn (.func 23) [] []),(6,I 20),(7,I s2.2.1),(8,I s2.2.2)]) (fun s2=>[Qjb s2.1]) ⟨⟨E,E,E,E,E,E,tV⟩,[],E,.inl E⟩ (fun s2 y10 hy8 hout9=>?_)
  refine gA 8 E<|jC E hy8 (fun h11=>?_) fun h16=>gA 4 E ?_
  ·exact bK h11 fun y12 hy12 h13=>gA 9 E<|Kew [0] (.tup []) [Qjb y12] C (Lhu hy12) E Z E E E E E E E E E E<|gK h13 fun hg15 h14=>Kip 0 E (of_decide_eq_true hg15).symm<|gO 15 E<|oSi h14▸⟨_,E,⟨⟨E,E,E,E,E,E,tV⟩,[],E,.inl E⟩⟩
  cases h16
  obtain rfl:=hout9 _ rfl
  exact⟨⟨E,E,E,E,E,tV⟩,[],E,.inl E⟩
 refine bK h5 fun y17 hy17 h18=>gA 7 E<|Kew [0] (.tup []) [Qjb y17] C (Lhu hy17) E Z E E E E E E E E E E<|gK h18 fun hg20 h19=>Kip 0 E (of_decide_eq_true hg20).symm<|gO 2 E<|bK h19 fun q24 hq24 h25=>Kid [] [Qjb q24] ?_ ?_
 ·refine gA 1 E<|Kec hq24 (fun s22=>[(0,.sl 0 s22.1.length),(1,I n),(2,.fn (.func 23) [] []),(6,I s22.2)]) (fun s22=>[Qjb s22.1]) ⟨⟨E,E,E,E,tV⟩,[],E,.inl E⟩ (fun s22 y30 hy28 hout29=>?_)
  refine gA 8 E<|jC E hy28 (fun h31=>?_) fun h54=>gA 4 E ?_
  ·refine gA 12 E<|bK h31 fun q35 hq35 h36=>Kid [(0,.sl 0 q35.1.length),(1,I n),(2,.fn (.func 23) [] []),(6,I s22.2),(7,I q35.2)] [Qjb q35.1] ?_ ?_
   ·refine gA 1 E<|Kec hq35 (fun s33=>[(0,.sl 0 s33.1.length),(1,I n),(2,.fn (.func 23) [] []),(6,I s22.2),(7,I s33.2.1),(8,I s33.2.2)]) (fun s33=>[Qjb s33.1]) ⟨⟨E,E,E,E,E,E,tV⟩,[],E,.inl E⟩ (fun s33 y41 hy39 hout40=>?_)
    refine gA 8 E<|jC E hy39 (fun h42=>?_) fun h47=>gA 4 E ?_
    ·exact bK h42 fun y43 hy43 h44=>gA 12 E<|Kew [0] (.tup []) [Qjb y43] C (Lhx hy43) E Z E E E E E E E E E E<|gK h44 fun hg46 h45=>Kip 0 E (of_decide_eq_true hg46).symm<|gO 16 E<|oSi h45▸⟨_,E,⟨⟨E,E,E,E,E,E,tV⟩,[],E,.inl E⟩⟩
    cases h47
    obtain rfl:=hout40 _ rfl
    exact⟨⟨E,E,E,E,E,tV⟩,[],E,.inl E⟩
   refine gA 17 E<|jC E h36 (fun h48=>?_) fun h53=>gA 8 E<|oSi h53▸⟨_,E,⟨⟨E,E,E,E,tV⟩,[],E,.inl E⟩⟩
   exact bK h48 fun y49 hy49 h50=>gA 6 E<|Kew [0] (.tup []) [Qjb y49] C (Lhx hy49) E Z E E E E E E E E E E<|gK h50 fun hg52 h51=>Kip 0 E (of_decide_eq_true hg52).symm<|gO 8 E<|oSi h51▸⟨_,E,⟨⟨E,E,E,E,tV⟩,[],E,.inl E⟩⟩
  cases h54
  obtain rfl:=hout29 _ rfl
  exact⟨tV,[],E,.inl E⟩
 exact oSi h25▸Kfn hΓ [] (.inl E) E E E E (.inl E)
theorem Lhz{k:Nat}{x:List Kxr}{r:List Kxr}(h:Kzw k x=some r):EC Tryz.prog 22 [.sl 0 x.length,.fn (.func 23) [] []] [Qjb x] fun g hp'=>g=.tup []∧hp'=[Qjb r]:=by
 unfold Kzw at h
 exact QN Tryz.func22 E Z<|bK h fun y1 hy1 h2=>gA 5 E<|Kew [0] (.tup []) [Qjb y1] C (Lhy hy1) E Z E E E E E E E E E E<|gO 1 E<|oSi h2▸Kfn hΓ [] (.inl E) E E E E (.inl E)
theorem Lia{k:Nat}{a:Kxr}{b:Kxr}{r:Bool}(h:Kzx k a b=some r):Pure Tryz.prog 25 [.agg (gE a),.agg (gE b)] (B r):=by
 unfold Kzx at h
 exact QP Tryz.func25 E E E<|gA 2 E<|Kqo E E E E Z<|Kqo E E E E Z<|bK h fun y1 hy1 h2=>gO 7 E<|Kex C (Lht hy1) E Z E E E E E<|gO 5 E<|oSi h2▸gP E E
theorem Lic{k:Nat}{s:List Kxr}{r:List Kxr}(h:Kzy k s=some r):EC Tryz.prog 24 [.sl 0 s.length,.fn (.func 25) [] []] [Qjb s] fun g hp'=>g=.sl 0 r.length∧hp'=[Qjb r]:=by
 unfold Kzy at h
 refine QN Tryz.func24 E Z<|gA 2 E<|Keu (t:=0) 50 14 E Z<|gO 10 E<|jC E h (fun h1=>?_) fun h2=>gA 8 E<|bK h2 fun q6 hq6 h7=>Kic (R:=fun a8=>q6=.inl a8) (fun a8=>[(0,.sl 0 s.length)]) (fun a8=>[Qjb s,QT]) ?_ ?_
 ·exact gA 8 E<|oSi h1▸Kfn hΓ [_] (.inr E) E E E E (.inr ⟨HB.mk E,E⟩)
 ·refine gA 1 E<|Kec hq6 (fun s4=>[(0,.sl 0 s.length),(1,.fn (.func 25) [] []),(5,I s4)]) (fun s4=>[Qjb s,QT]) ⟨⟨E,E,E,tV⟩,[],E,.inl E⟩ (fun s4 y12 hy10 hout11=>?_)
  refine gA 9 E<|jC E hy10 (fun h13=>?_) fun h64=>gA 4 E ?_
  ·refine gA 5 E<|jD<|bK h13 fun x14 hx14 h15=>?_
   have hj16:=Kfs hx14
   refine gA 3 E<|gl_o E (Kei hΓ hx14 E E E E E E)<|gl_o E (Keo hΓ (enc:=Lfu) s4.toNat 0 hj16 E E E E (fun _=>E) (g:=.agg (gE x14)) E)<|bK h15 fun x17 hx17 h18=>?_
   have hj19:=Kfs hx17
   refine Kdl hΓ 3 E<|gl_o E (Kei hΓ hx17 E E E E E E)<|gl_o E (Keo hΓ (enc:=Lfu) ((wi (s4 - 1)).toNat) 0 hj19 E E E E (fun _=>E) (g:=.agg (gE x17)) E)<|bK h18 fun y20 hy20 h21=>Kez C (Lia hy20) E E E E E E<|Kdl hΓ 2 E<|jC E h21 (fun h22=>?_) fun h63=>gA 8 E<|oSi h63▸⟨_,E,⟨⟨E,E,E,tV⟩,[],E,.inl E⟩⟩
   refine bK h22 fun z23 hz23 h24=>gA 4 E<|eo_o E (Kin hΓ hz23 E E E E E E)<|gO 9 E<|bK h24 fun q28 hq28 h29=>Kid [(0,.sl 0 q28.1.length),(5,I q28.2)] [Qjb q28.1,QT] ?_ ?_
   ·refine gA 1 E<|Kec hq28 (fun s26=>[(0,.sl 0 s26.1.length),(1,.fn (.func 25) [] []),(5,I s26.2.1),(6,.slo 0 14 s4.toNat z23.length),(7,I s26.2.2)]) (fun s26=>[Qjb s26.1,QT]) ⟨⟨E,E,E,E,E,tV⟩,[],E,.inl E⟩ (fun s26 y34 hy32 hout33=>?_)
    refine gA 9 E<|jC E hy32 (fun h35=>?_) fun h58=>gA 4 E ?_
    ·refine gA 5 E<|jD<|bK h35 fun x36 hx36 h37=>bK h37 fun x38 hx38 h39=>?_
     have hj40:s26.1[(s4.toNat+s26.2.2.toNat)]?=some x38:=hx38
     refine gA 3 E<|gl_o E (Kiu hΓ hx36 E E E E E E E)<|gl_o E (Keo hΓ (enc:=Lfu) (s4.toNat+s26.2.2.toNat) 0 hj40 E E E E (fun _=>E) (g:=.agg (gE x38)) E)<|bK h39 fun x41 hx41 h42=>bK h42 fun x43 hx43 h44=>?_
     have hj45:s26.1[(s4.toNat+(wi (s26.2.2 - 1)).toNat)]?=some x43:=hx43
     refine Kdl hΓ 3 E<|gl_o E (Kiu hΓ hx41 E E E E E E E)<|gl_o E (Keo hΓ (enc:=Lfu) (s4.toNat+(wi (s26.2.2 - 1)).toNat) 0 hj45 E E E E (fun _=>E) (g:=.agg (gE x43)) E)<|bK h44 fun y46 hy46 h47=>Kez C (Lia hy46) E E E E E E<|Kdl hΓ 3 E<|jC E h47 (fun h48=>?_) fun h57=>gA 8 E<|oSi h57▸⟨_,E,⟨⟨E,E,E,E,E,tV⟩,[],E,.inl E⟩⟩
     refine bK h48 fun x49 hx49 h50=>bK h50 fun x51 hx51 h52=>?_
     have hj53:s26.1[(s4.toNat+s26.2.2.toNat)]?=some x51:=hx51
     refine gA 6 E<|eo_o E (Kiu hΓ hx49 E E E E E E E)<|eo_o E (Keo hΓ (enc:=Lfu) (s4.toNat+s26.2.2.toNat) 0 hj53 E E E E (fun _=>E) (g:=.agg (gE x51)) E)<|bK h52 fun x54 hx54 h55=>?_
     have hj56:=Kfs hx54
     exact eo_o E (Kei hΓ hx54 E E E E E E)<|Keq hΓ (enc:=Lfu) (z':=x51) s26.2.1.toNat 0 hj56 E E E E (fun _=>E) E E E E E E Z<|Kfg [Qjb (s26.1.set s26.2.1.toNat x51),QT] E<|Kip 0 (n':=(s26.1.set s26.2.1.toNat x51).length) E List.length_set.symm<|gO 14 E<|oSi h55▸⟨_,E,⟨⟨E,E,E,E,E,tV⟩,[],E,.inl E⟩⟩
    cases h58
    obtain rfl:=hout33 _ rfl
    exact⟨⟨E,E,tV⟩,[],E,.inl E⟩
   refine bK h29 fun z59 hz59 h60=>gA 5 E<|eo_o E (Kin hΓ hz59 E E E E E E)<|Kik Z (Kim hΓ (enc:=Lfu) (a:=q28.2) hz59 E E E E E E E E E E (fun _=>E))<|gO 6 E<|Kio hΓ hz59 E E E E E E E E<|gO 6 E<|bK h60 fun v61 hv61 h62=>?_
   cases h62
   obtain rfl:=hout11 _ rfl
   cases h7
   exact gA 4 E<|oSi hv61▸Kfn hΓ [_] (.inr E) E E E E (.inr ⟨HB.mk E,E⟩)
  cases h64
  obtain rfl:=hout11 _ rfl
  exact⟨_,E,⟨⟨E,tV⟩,[],E,.inl E⟩⟩
 intro a8 ha
 subst ha
 replace h7:=Khw h7
 exact gA 8 E<|oSi h7▸Kfn hΓ [_] (.inr E) E E E E (.inr ⟨HB.mk E,E⟩)
theorem Lid{s:Kxc}{low:Int}{high:Int}{r:Int×Kxc}(h:Kzz s low high=some r):EC Tryz.prog 27 [.ptr 0 0,I low,I high] [Q8 s] fun g hp'=>g=I r.1∧hp'=[.box 25 (fQ r.2)]:=by
 unfold Kzz at h
 refine QN Tryz.func27 E Z<|bK h fun y1 hy1 h2=>gA 9 E<|Kew [0] (B y1.1) [.box 25 (fQ y1.2)] C (Lfz hy1) E Z E E E E E E E E E E<|gO 2 E<|jC E h2 (fun h3=>?_) fun h6=>bK h6 fun y7 hy7 h8=>gA 7 E<|Kew [0] (I y7.1) [.box 25 (fQ y7.2)] C (Lgg hy7) E Z E E E E E E E E E E<|gO 4 E<|oSi h8▸Kfn hΓ [] (.inr E) E E E E (.inl E)
 exact gA 9 E<|Ker hΓ (enc:=(eN .i64)) [wi (low - 1),wi (high+1),low,high,-1099511627776,1099511627776] E E E E E E E E E E E E Z<|bK h3 fun y4 hy4 h5=>Kew [0] (I y4.1) [.box 25 (fQ y4.2)] C (Lgd hy4) E Z E E E E E E E E E E<|gO 5 E<|oSi h5▸Kfn hΓ [] (.inr E) E E E E (.inl E)
theorem Lie{s:Kxc}{r:Kxe×Kxc}(h:Laa s=some r):EC Tryz.prog 84 [.ptr 0 0] [Q8 s] fun g hp'=>g=.agg (gh r.1)∧hp'=[.box 25 (fQ r.2)]:=by
 unfold Laa at h
 refine QN Tryz.func84 E Z<|gA 2 E<|Kqn hΓ E E E Z<|bK h fun y1 hy1 h2=>gO 6 E<|Kew [0] (I y1.1) [.box 25 (fQ y1.2),QV] C (Lfy hy1) E Z E E E E E E E E E E<|gO 9 E<|jC E h2 (fun h3=>?_) fun h12=>gA 6 E<|jC E h12 (fun h13=>?_) fun h18=>?_
 ·exact gA 1 E<|Khd [] [] [2,7,11] [] hmix (by kernel_rfl) (by kernel_rfl) trivial Z<|Khs hΓ (enc:=(eN .u64)) [0,18230571291595767808,2306139568115548160,9223372036854775808,18446744073709551615] E E E E E E E E E E E E<|bK h3 fun y4 hy4 h5=>go_E hΓ 1 E<|ge_h [.box 25 (fQ y4.2),QV] E E E (Khl tV) (Khq [0] (I y4.1) [.box 25 (fQ y4.2),QV] C (Lfy hy4) E E E E E E E E E E)<|bK h5 fun x6 hx6 h7=>ge_q E (.inl E) (fun _ _=>Khf (qt_p (Keg hΓ (enc:=(eN .u64)) hx6 E E E E E (fun _=>E))))<|go_E hΓ 1 E<|Khs hΓ (enc:=(eN .u64)) [0,1,2,4294967296,18446744073709551615] E E E E E E E E E E E E<|bK h7 fun y8 hy8 h9=>go_E hΓ 1 E<|ge_h [.box 25 (fQ y8.2),QV] E E E (Khl tV) (Khq [0] (I y8.1) [.box 25 (fQ y8.2),QV] C (Lfy hy8) E E E E E E E E E E)<|bK h9 fun x10 hx10 h11=>ge_q E (.inl E) (fun _ _=>Khf (qt_p (Keg hΓ (enc:=(eN .u64)) hx10 E E E E E (fun _=>E))))<|go_E hΓ 1 E<|ge_q E (.inl E) (fun _ _=>Khf (qt_p (Khu hΓ (gs:=[B true,U x6,U x10]) E E E E E E)))<|Khj [.box 25 (fQ y8.2),.box 46 [B true,U x6,U x10]] E E (Khl tV) (Khp (Kiq hΓ E E E E E E E E E))<|Khe<|gA 4 E<|oSi h11▸Kfn hΓ [_] (.inr E) E E E E (.inr ⟨HB.mk E,E⟩)
 ·exact gA 2 E<|Ker hΓ (enc:=(eN .u64)) [0,1,4294967295,2130706433,3232235521] E E E E E E E E E E E E Z<|bK h13 fun y14 hy14 h15=>gO 1 E<|Kew [0] (I y14.1) [.box 25 (fQ y14.2),QV] C (Lfy hy14) E Z E E E E E E E E E E<|bK h15 fun x16 hx16 h17=>eo_o E (Keg hΓ (enc:=(eN .u64)) hx16 E E E E E (fun _=>E))<|gO 1 E<|Kbn hΓ (gs:=[B false,U 0,U x16]) E E E E E E E<|Kqs hΓ E E E E E E E E Z<|Kfg [.box 25 (fQ y14.2),.box 46 [B false,U 0,U x16]] E<|gO 5 E<|oSi h17▸Kfn hΓ [_] (.inr E) E E E E (.inr ⟨HB.mk E,E⟩)
 refine gA 6 E<|jC E h18 (fun h19=>?_) fun h24=>bK h24 fun y25 hy25 h26=>gA 6 E<|Kew [0] (I y25.1) [.box 25 (fQ y25.2),QV] C (Lgg hy25) E Z E E E E E E E E E E<|gO 2 E<|Kbn hΓ (gs:=[B false,U 0,U (IntKind.u64.wrap (167772160+(IntKind.u64.wrap (y25.1))))]) E E E E E E E<|Kqs hΓ E E E E E E E E Z<|Kfg [.box 25 (fQ y25.2),.box 46 [B false,U 0,U (IntKind.u64.wrap (167772160+(IntKind.u64.wrap (y25.1))))]] E<|gO 3 E<|oSi h26▸Kfn hΓ [_] (.inr E) E E E E (.inr ⟨HB.mk E,E⟩)
 exact bK h19 fun y20 hy20 h21=>gA 3 E<|Kew [0] (I y20.1) [.box 25 (fQ y20.2),QV] C (Lgg hy20) E Z E E E E E E E E E E<|bK h21 fun y22 hy22 h23=>gO 2 E<|eo_o E (Kfl hy22 E E)<|Kbn hΓ (gs:=[B false,U 0,U y22]) E E E E E E E<|Kqs hΓ E E E E E E E E Z<|Kfg [.box 25 (fQ y20.2),.box 46 [B false,U 0,U y22]] E<|gO 5 E<|oSi h23▸Kfn hΓ [_] (.inr E) E E E E (.inr ⟨HB.mk E,E⟩)
theorem Lif{s:Kxc}{r:Kxe×Kxc}(h:Lab s=some r):EC Tryz.prog 56 [.ptr 0 0] [Q8 s] fun g hp'=>g=.agg (gh r.1)∧hp'=[.box 25 (fQ r.2)]:=by
 unfold Lab at h
 refine QN Tryz.func56 E Z<|gA 2 E<|Kqn hΓ E E E Z<|bK h fun y1 hy1 h2=>gO 5 E<|Kew [0] (.agg (gh y1.1)) [.box 25 (fQ y1.2),QV] C (Lie hy1) E Z E E E E E E E E E E<|Kqn hΓ E E E Z<|Kqs hΓ E E E E E E E E Z<|Kfg [.box 25 (fQ y1.2),QV,.box 46 (gh y1.1)] E<|bK h2 fun y3 hy3 h4=>gO 6 E<|Kew [0] (B y3.1) [.box 25 (fQ y3.2),QV,.box 46 (gh y1.1)] C (Lfz hy3) E Z E E E E E E E E E E<|gO 2 E<|jC E h4 (fun h5=>?_) fun h12=>gA 5 E<|Kqs hΓ E E E E E E E E Z<|Kfg [.box 25 (fQ y3.2),.box 46 (gh y1.1),.box 46 (gh y1.1)] E<|gO 3 E<|oSi h12▸Kfn hΓ [_,_] (.inr E) E E E E (.inr ⟨HB.mk E,E⟩)
 exact bK h5 fun y6 hy6 h7=>gA 3 E<|Kew [0] (I y6.1) [.box 25 (fQ y6.2),QV,.box 46 (gh y1.1)] C (Lfy hy6) E Z E E E E E E E E E E<|gO 1 E<|Ker hΓ (enc:=(eN .u64)) [4294967296,5,1099511627776] E E E E E E E E E E E E Z<|bK h7 fun y8 hy8 h9=>gO 1 E<|Kew [0] (I y8.1) [.box 25 (fQ y8.2),QV,.box 46 (gh y1.1)] C (Lfy hy8) E Z E E E E E E E E E E<|bK h9 fun x10 hx10 h11=>eo_o E (Keg hΓ (enc:=(eN .u64)) hx10 E E E E E (fun _=>E))<|gO 1 E<|Kbn hΓ (gs:=[B false,U (IntKind.u64.wrap (y6.1)),U x10]) E E E E E E E<|Kqs hΓ E E E E E E E E Z<|Kfg [.box 25 (fQ y8.2),.box 46 [B false,U (IntKind.u64.wrap (y6.1)),U x10],.box 46 (gh y1.1)] E<|gO 4 E<|oSi h11▸Kfn hΓ [_,_] (.inr E) E E E E (.inr ⟨HB.mk E,E⟩)
theorem Lig{s:Kxc}{r:Kxl×Kxc}(h:Lac s=some r):EC Tryz.prog 28 [.ptr 0 0] [Q8 s] fun g hp'=>g=.agg (gu r.1)∧hp'=[.box 25 (fQ r.2)]:=by
 unfold Lac at h
 refine QN Tryz.func28 E Z<|gA 2 E<|Kqn hΓ E E E Z<|bK h fun y1 hy1 h2=>gO 5 E<|Kew [0] (.agg (gu y1.1)) [.box 25 (fQ y1.2),Qp] C (Lgp hy1) E Z E E E E E E E E E E<|Kqn hΓ E E E Z<|Kqs hΓ E E E E E E E E Z<|Kfg [.box 25 (fQ y1.2),Qp,.box 48 (gu y1.1)] E<|bK h2 fun y3 hy3 h4=>gO 6 E<|Kew [0] (B y3.1) [.box 25 (fQ y3.2),Qp,.box 48 (gu y1.1)] C (Lfz hy3) E Z E E E E E E E E E E<|bK h4 fun q5 hq5 h6=>gO 2 E<|Kid [(2,.ptr 1 0),(3,.ptr 2 0)] [.box 25 (fQ q5.1),Qp,.box 48 (gu q5.2)] ?_ ?_
 ·refine jC E hq5 (fun h7=>?_) fun h24=>gA 1 E<|oSi h24▸⟨⟨E,E,tV⟩,[],E,.inl E⟩
  refine bK h7 fun y8 hy8 h9=>gA 3 E<|Kew [0] (I y8.1) [.box 25 (fQ y8.2),Qp,.box 48 (gu y1.1)] C (Lfy hy8) E Z E E E E E E E E E E<|gO 9 E<|jC E h9 (fun h10=>?_) fun h13=>gA 6 E<|jC E h13 (fun h14=>?_) fun h17=>?_
  ·exact bK h10 fun y11 hy11 h12=>gA 2 E<|Kew [0] (I y11.1) [.box 25 (fQ y11.2),Qp,.box 48 (gu y1.1)] C (Lid hy11) E Z E E E E E E E E E E<|gO 1 E<|Kqs hΓ E E E E E E E E Z<|Kfg [.box 25 (fQ y11.2),Qp,.box 48 [I y11.1,B y1.1.From.Six,U y1.1.From.Hi,U y1.1.From.Lo,B y1.1.To.Six,U y1.1.To.Hi,U y1.1.To.Lo,I y1.1.FromPort,I y1.1.ToPort]] E<|gO 2 E<|oSi h12▸⟨⟨E,E,tV⟩,[],E,.inl E⟩
  ·exact bK h14 fun y15 hy15 h16=>gA 2 E<|Kew [0] (.agg (gh y15.1)) [.box 25 (fQ y15.2),Qp,.box 48 (gu y1.1)] C (Lif hy15) E Z E E E E E E E E E E<|gO 1 E<|Kqs hΓ E E E E E E E E Z<|Kfg [.box 25 (fQ y15.2),Qp,.box 48 [I y1.1.Proto,B y15.1.Six,U y15.1.Hi,U y15.1.Lo,B y1.1.To.Six,U y1.1.To.Hi,U y1.1.To.Lo,I y1.1.FromPort,I y1.1.ToPort]] E<|gO 2 E<|oSi h16▸⟨⟨E,E,tV⟩,[],E,.inl E⟩
  refine gA 6 E<|jC E h17 (fun h18=>?_) fun h21=>bK h21 fun y22 hy22 h23=>gA 2 E<|Kew [0] (I y22.1) [.box 25 (fQ y22.2),Qp,.box 48 (gu y1.1)] C (Lid hy22) E Z E E E E E E E E E E<|gO 1 E<|Kqs hΓ E E E E E E E E Z<|Kfg [.box 25 (fQ y22.2),Qp,.box 48 [I y1.1.Proto,B y1.1.From.Six,U y1.1.From.Hi,U y1.1.From.Lo,B y1.1.To.Six,U y1.1.To.Hi,U y1.1.To.Lo,I y22.1,I y1.1.ToPort]] E<|gO 2 E<|oSi h23▸⟨⟨E,E,tV⟩,[],E,.inl E⟩
  exact bK h18 fun y19 hy19 h20=>gA 2 E<|Kew [0] (I y19.1) [.box 25 (fQ y19.2),Qp,.box 48 (gu y1.1)] C (Lid hy19) E Z E E E E E E E E E E<|gO 1 E<|Kqs hΓ E E E E E E E E Z<|Kfg [.box 25 (fQ y19.2),Qp,.box 48 [I y1.1.Proto,B y1.1.From.Six,U y1.1.From.Hi,U y1.1.From.Lo,B y1.1.To.Six,U y1.1.To.Hi,U y1.1.To.Lo,I y1.1.FromPort,I y19.1]] E<|gO 2 E<|oSi h20▸⟨⟨E,E,tV⟩,[],E,.inl E⟩
 exact gA 4 E<|Kqs hΓ E E E E E E E E Z<|Kfg [.box 25 (fQ q5.1),.box 48 (gu q5.2),.box 48 (gu q5.2)] E<|gO 3 E<|oSi h6▸Kfn hΓ [_,_] (.inr E) E E E E (.inr ⟨HB.mk E,E⟩)
theorem Lih{k:Nat}{s:Kxc}{many:Int}{r:(List Kxr)×Kxc}(h:Lad k s many=some r):EC Tryz.prog 5 [.ptr 0 0,I many] [Q8 s] fun g hp'=>g=.sl 1 r.1.length∧hp'=[.box 25 (fQ r.2),Qjb r.1]:=by
 unfold Lad at h
 refine QM Tryz.func5 E Z<|gA 7 E<|Keu (t:=0) 50 14 E Z<|gO 9 E<|bK h fun q4 hq4 h5=>gK hq4 fun hb7 h8=>?_
 replace hb7:=of_decide_eq_true hb7
 refine Kid [(0,.ptr 0 0),(5,.sl 1 q4.2.length)] [.box 25 (fQ q4.1),Qjb q4.2] ?_ ?_
 ·refine gA 1 E<|Kfr h8 (fun i1 s2=>[(0,.ptr 0 0),(5,.sl 1 s2.2.length),(14,I many),(15,I (i1:Int))]) (fun s2=>[.box 25 (fQ s2.1),Qjb s2.2]) ⟨⟨E,E,E,E,tV⟩,[],E,.inl E⟩ (fun i1 s2 y12 hlt hy10=>?_) (fun hge=>?_)
  ·refine gA 6 E<|Kdo E (dT hlt)<|gA 7 E<|Ker hΓ (enc:=(eN .i64)) [6,6,6,17,1] E E E E E E E E E E E E Z<|bK hy10 fun y13 hy13 h14=>Kew [0] (I y13.1) [.box 25 (fQ y13.2),Qjb s2.2] C (Lgd hy13) E Z E E E E E E E E E E<|bK h14 fun y15 hy15 h16=>gO 1 E<|Kew [0] (I y15.1) [.box 25 (fQ y15.2),Qjb s2.2] C (Lgg hy15) E Z E E E E E E E E E E<|bK h16 fun y17 hy17 h18=>Kex C (Lgb hy17) E Z E E E E E<|bK h18 fun y19 hy19 h20=>gO 1 E<|Kew [0] (I y19.1) [.box 25 (fQ y19.2),Qjb s2.2] C (Lgg hy19) E Z E E E E E E E E E E<|bK h20 fun y21 hy21 h22=>Kex C (Lgb hy21) E Z E E E E E<|Kbn hΓ (gs:=[I y13.1,B y17.Six,U y17.Hi,U y17.Lo,B y21.Six,U y21.Hi,U y21.Lo,I 0,I 0]) E E E E E E E<|Kqn hΓ E E E Z<|Kqs hΓ E E E E E E E E Z<|Kfg [.box 25 (fQ y19.2),Qjb s2.2,.box 48 [I y13.1,B y17.Six,U y17.Hi,U y17.Lo,B y21.Six,U y21.Hi,U y21.Lo,I 0,I 0]] E<|bK h22 fun y23 hy23 h24=>gO 6 E<|Kew [0] (B y23.1) [.box 25 (fQ y23.2),Qjb s2.2,.box 48 [I y13.1,B y17.Six,U y17.Hi,U y17.Lo,B y21.Six,U y21.Hi,U y21.Lo,I 0,I 0]] C (Lfz hy23) E Z E E E E E E E E E E<|bK h24 fun q25 hq25 h26=>gO 2 E<|Kid [(0,.ptr 0 0),(5,.sl 1 s2.2.length),(6,.ptr 2 0),(14,I many),(15,I (i1:Int))] [.box 25 (fQ q25.1),Qjb s2.2,.box 48 (gu q25.2)] ?_ ?_
   ·refine jC E hq25 (fun h27=>?_) fun h30=>gA 1 E<|oSi h30▸⟨⟨E,E,E,E,E,tV⟩,[],E,.inl E⟩
    exact bK h27 fun y28 hy28 h29=>gA 2 E<|Kew [0] (I y28.1) [.box 25 (fQ y28.2),Qjb s2.2,.box 48 [I y13.1,B y17.Six,U y17.Hi,U y17.Lo,B y21.Six,U y21.Hi,U y21.Lo,I 0,I 0]] C (Lgg hy28) E Z E E E E E E E E E E<|gO 2 E<|Kbn hΓ (gs:=[B false,U 0,U (IntKind.u64.wrap (167772160+(IntKind.u64.wrap (y28.1))))]) E E E E E E E<|gO 1 E<|Kqs hΓ E E E E E E E E Z<|Kfg [.box 25 (fQ y28.2),Qjb s2.2,.box 48 [I y13.1,B y17.Six,U y17.Hi,U y17.Lo,B false,U 0,U (IntKind.u64.wrap (167772160+(IntKind.u64.wrap (y28.1)))),I 0,I 0]] E<|gO 1 E<|oSi h29▸⟨⟨E,E,E,E,E,tV⟩,[],E,.inl E⟩
   refine bK h26 fun q31 hq31 h32=>gA 9 E<|Kid [(0,.ptr 0 0),(5,.sl 1 s2.2.length),(6,.ptr 2 0),(14,I many),(15,I (i1:Int))] [.box 25 (fQ q31.1),Qjb s2.2,.box 48 (gu q31.2)] ?_ ?_
   ·refine jC E hq31 (fun h33=>?_) fun h38=>gA 1 E<|oSi h38▸⟨⟨E,E,E,E,E,tV⟩,[],E,.inl E⟩
    exact gA 2 E<|Ker hΓ (enc:=(eN .i64)) [9,9,10] E E E E E E E E E E E E Z<|bK h33 fun y34 hy34 h35=>Kew [0] (I y34.1) [.box 25 (fQ y34.2),Qjb s2.2,.box 48 (gu q25.2)] C (Lgd hy34) E Z E E E E E E E E E E<|gO 1 E<|Ker hΓ (enc:=(eN .i64)) [80,80,443,22,23] E E E E E E E E E E E E Z<|bK h35 fun y36 hy36 h37=>Kew [0] (I y36.1) [.box 25 (fQ y36.2),Qjb s2.2,.box 48 (gu q25.2)] C (Lgd hy36) E Z E E E E E E E E E E<|gO 1 E<|Kqs hΓ E E E E E E E E Z<|Kfg [.box 25 (fQ y36.2),Qjb s2.2,.box 48 [I q25.2.Proto,B q25.2.From.Six,U q25.2.From.Hi,U q25.2.From.Lo,B q25.2.To.Six,U q25.2.To.Hi,U q25.2.To.Lo,I y34.1,I q25.2.ToPort]] E<|gO 1 E<|Kqs hΓ E E E E E E E E Z<|Kfg [.box 25 (fQ y36.2),Qjb s2.2,.box 48 [I q25.2.Proto,B q25.2.From.Six,U q25.2.From.Hi,U q25.2.From.Lo,B q25.2.To.Six,U q25.2.To.Hi,U q25.2.To.Lo,I y34.1,I y36.1]] E<|gO 1 E<|oSi h37▸⟨⟨E,E,E,E,E,tV⟩,[],E,.inl E⟩
   refine gA 2 E<|Khd [.dead,.dead,.box 48 (gu q31.2)] [8] [2,5,7,11,14,17] [18016] hmix (by kernel_rfl) (by kernel_rfl) ⟨E,tV⟩ Z<|go_E hΓ 1 E<|Khs hΓ (enc:=eS) [[110,97],[110,98],[110,99],[110,100]] E E E E E E E E E E E E<|bK h32 fun y39 hy39 h40=>ge_h [.box 25 (fQ y39.2),Qjb s2.2,.box 48 (gu q31.2)] E E E (Khl ⟨E,tV⟩) (Khq [0] (S y39.1) [.box 25 (fQ y39.2),Qjb s2.2,.box 48 (gu q31.2)] C (Lga hy39) E E E E E E E E E E)<|go_E hΓ 1 E<|Khs hΓ (enc:=(eN .i64)) [0,0,1,1,2,5,23,24,30,50,720] E E E E E E E E E E E E<|bK h40 fun y41 hy41 h42=>ge_h [.box 25 (fQ y41.2),Qjb s2.2,.box 48 (gu q31.2)] E E E (Khl ⟨E,tV⟩) (Khq [0] (I y41.1) [.box 25 (fQ y41.2),Qjb s2.2,.box 48 (gu q31.2)] C (Lgd hy41) E E E E E E E E E E)<|bK h42 fun y43 hy43 h44=>go_E hΓ 1 E<|ge_h [.box 25 (fQ y43.2),Qjb s2.2,.box 48 (gu q31.2)] E E E (Khl ⟨E,tV⟩) (Khq [0] (B y43.1) [.box 25 (fQ y43.2),Qjb s2.2,.box 48 (gu q31.2)] C (Lfz hy43) E E E E E E E E E E)<|go_E hΓ 2 E<|Khs hΓ (enc:=(eN .i64)) [1,2,10,100] E E E E E E E E E E E E<|bK h44 fun y45 hy45 h46=>ge_h [.box 25 (fQ y45.2),Qjb s2.2,.box 48 (gu q31.2)] E E E (Khl ⟨E,tV⟩) (Khq [0] (I y45.1) [.box 25 (fQ y45.2),Qjb s2.2,.box 48 (gu q31.2)] C (Lgd hy45) E E E E E E E E E E)<|go_E hΓ 1 E<|Khs hΓ (enc:=(eN .i64)) [0,50,100,110,1000,1000000000,1000000001] E E E E E E E E E E E E<|bK h46 fun y47 hy47 h48=>ge_h [.box 25 (fQ y47.2),Qjb s2.2,.box 48 (gu q31.2)] E E E (Khl ⟨E,tV⟩) (Khq [0] (I y47.1) [.box 25 (fQ y47.2),Qjb s2.2,.box 48 (gu q31.2)] C (Lgd hy47) E E E E E E E E E E)<|ge_q E (.inl E) (fun _ _=>Khf (qt_p (Khu hΓ (gs:=[S y39.1,I y41.1,B y43.1,I q31.2.Proto,B q31.2.From.Six,U q31.2.From.Hi,U q31.2.From.Lo,B q31.2.To.Six,U q31.2.To.Hi,U q31.2.To.Lo,I q31.2.FromPort,I q31.2.ToPort,I y45.1,I y47.1]) E E E E E E)))<|Kky hΓ 17 (i:=_) E E E E<|Kkz hΓ 16 7 [] [S [],I 0,B false,I 0,B false,U 0,U 0,B false,U 0,U 0,I 0,I 0,I 0,I 0] [.box 25 (fQ y47.2),Qjb s2.2,.box 48 (gu q31.2),.box 50 [S y39.1,I y41.1,B y43.1,I q31.2.Proto,B q31.2.From.Six,U q31.2.From.Hi,U q31.2.From.Lo,B q31.2.To.Six,U q31.2.To.Hi,U q31.2.To.Lo,I q31.2.FromPort,I q31.2.ToPort,I y45.1,I y47.1]] E E E (show Γ 50=some ⟨_,_,_,_⟩ from E) E ⟨.refl _,.refl _,.refl _,.refl _,.refl _,.refl _,.refl _,.refl _,.refl _,.refl _,.refl _,.refl _,.refl _,.refl _,tV⟩ E E E E (Khl ⟨E,tV⟩) (Khp (Kiq hΓ E E E E E E E E E))<|Khe<|bK h48 fun y49 hy49 h50=>gA 5 E<|Kew [0] (B y49.1) [.box 25 (fQ y49.2),Qjb s2.2,.box 48 (gu q31.2),.box 50 [S y39.1,I y41.1,B y43.1,I q31.2.Proto,B q31.2.From.Six,U q31.2.From.Hi,U q31.2.From.Lo,B q31.2.To.Six,U q31.2.To.Hi,U q31.2.To.Lo,I q31.2.FromPort,I q31.2.ToPort,I y45.1,I y47.1]] C (Lfz hy49) E Z E E E E E E E E E E<|bK h50 fun q51 hq51 h52=>gO 3 E<|Kid [(0,.ptr 0 0),(5,.sl 1 s2.2.length),(6,.ptr 2 0),(7,.ptr 3 0),(14,I many),(15,I (i1:Int))] [.box 25 (fQ y49.2),Qjb s2.2,.box 48 (gu q31.2),.box 50 [S q51,I y41.1,B y43.1,I q31.2.Proto,B q31.2.From.Six,U q31.2.From.Hi,U q31.2.From.Lo,B q31.2.To.Six,U q31.2.To.Hi,U q31.2.To.Lo,I q31.2.FromPort,I q31.2.ToPort,I y45.1,I y47.1]] ?_ ?_
   ·refine Kdn E (fun hb=>?_) (fun hb=>?_)
    ·have h53:=cT hq51 hb
     refine gA 4 E<|Kqn hΓ E E E Z<|Kqs hΓ E E E E E E E E Z<|Kfg [.box 25 (fQ y49.2),Qjb s2.2,.box 48 (gu q31.2),.box 50 [S y39.1,I y41.1,B y43.1,I q31.2.Proto,B q31.2.From.Six,U q31.2.From.Hi,U q31.2.From.Lo,B q31.2.To.Six,U q31.2.To.Hi,U q31.2.To.Lo,I q31.2.FromPort,I q31.2.ToPort,I y45.1,I y47.1],.box 46 (gh q31.2.To)] E<|bK h53 fun q54 hq54 h55=>gO 9 E<|Kid [(0,.ptr 0 0),(5,.sl 1 s2.2.length),(6,.ptr 2 0),(7,.ptr 3 0),(8,.ptr 4 0),(14,I many),(15,I (i1:Int))] [.box 25 (fQ y49.2),Qjb s2.2,.box 48 (gu q31.2),.box 50 [S y39.1,I y41.1,B y43.1,I q31.2.Proto,B q31.2.From.Six,U q31.2.From.Hi,U q31.2.From.Lo,B q31.2.To.Six,U q31.2.To.Hi,U q31.2.To.Lo,I q31.2.FromPort,I q31.2.ToPort,I y45.1,I y47.1],.box 46 (gh q54)] ?_ ?_
     ·refine jC E hq54 (fun h56=>?_) fun h57=>gA 1 E<|oSi h57▸⟨⟨E,E,E,E,E,E,E,tV⟩,[],E,.inl E⟩
      exact gA 3 E<|Kqs hΓ E E E E E E E E Z<|Kfg [.box 25 (fQ y49.2),Qjb s2.2,.box 48 (gu q31.2),.box 50 [S y39.1,I y41.1,B y43.1,I q31.2.Proto,B q31.2.From.Six,U q31.2.From.Hi,U q31.2.From.Lo,B q31.2.To.Six,U q31.2.To.Hi,U q31.2.To.Lo,I q31.2.FromPort,I q31.2.ToPort,I y45.1,I y47.1],.box 46 (gh q31.2.From)] E<|gO 1 E<|oSi h56▸⟨⟨E,E,E,E,E,E,E,tV⟩,[],E,.inl E⟩
     refine gA 14 E<|Kdt 3 [(0,.ptr 0 0),(5,.sl 1 s2.2.length),(6,.ptr 2 0),(7,.ptr 3 0),(9,U (IntKind.u64.wrap (q54.Lo - 1681915904))),(14,I many),(15,I (i1:Int)),(79,B ((decide ((IntKind.u64.wrap (q54.Lo - 1681915904):Int)≥1))&&(decide ((IntKind.u64.wrap (q54.Lo - 1681915904):Int)≤4))))] [.box 25 (fQ y49.2),Qjb s2.2,.box 48 (gu q31.2),.box 50 [S y39.1,I y41.1,B y43.1,I q31.2.Proto,B q31.2.From.Six,U q31.2.From.Hi,U q31.2.From.Lo,B q31.2.To.Six,U q31.2.To.Hi,U q31.2.To.Lo,I q31.2.FromPort,I q31.2.ToPort,I y45.1,I y47.1],.box 46 (gh q54)] ?_ ?_
     ·refine Kpg E E (fun hb=>?_) (fun hb=>?_)
      ·exact gO 4 E<|⟨⟨E,E,E,E,E,E,E,Kct E (Kft hb),tV⟩,[],E,.inl E⟩
      exact gO 4 E<|⟨⟨E,E,E,E,E,E,E,Kct E (Kfu hb),tV⟩,[],E,.inl E⟩
     refine gO 2 E<|jC E h55 (fun h58=>?_) fun h61=>gA 1 E<|oSi h61▸⟨⟨E,E,E,E,E,E,tV⟩,[_],E,.inr ⟨HB.mk E,FB.mk E,Z⟩⟩
     exact gA 1 E<|Ker hΓ (enc:=eS) [[],[110,97],[110,98],[110,99],[110,100]] E E E E E E E E E E E E Z<|bK h58 fun x59 hx59 h60=>gO 1 E<|eo_o E (Keg hΓ (enc:=eS) hx59 E E E E E (fun _=>E))<|gO 2 E<|Kqs hΓ E E E E E E E E Z<|Kfg [.box 25 (fQ y49.2),Qjb s2.2,.box 48 (gu q31.2),.box 50 [S x59,I y41.1,B y43.1,I q31.2.Proto,B q31.2.From.Six,U q31.2.From.Hi,U q31.2.From.Lo,B q31.2.To.Six,U q31.2.To.Hi,U q31.2.To.Lo,I q31.2.FromPort,I q31.2.ToPort,I y45.1,I y47.1],.box 46 (gh q54)] E<|gO 1 E<|oSi h60▸⟨⟨E,E,E,E,E,E,tV⟩,[_],E,.inr ⟨HB.mk E,FB.mk E,Z⟩⟩
    have h62:=cF hq51 hb
    exact gA 1 E<|oSi h62▸⟨⟨E,E,E,E,E,E,tV⟩,[],E,.inl E⟩
   refine gA 5 E<|Ker hΓ (enc:=Lfu) [(⟨q51,y41.1,y43.1,q31.2,y45.1,y47.1⟩:Kxr)] E E E E E E E E E E E E Z<|bK h52 fun y63 hy63 h64=>Kfh hΓ (enc:=Lfu) hy63 E E E E E E E E E (fun _=>E) E E E E<|bK h64 fun y65 hy65 h66=>gO 6 E<|Kew [0] (B y65.1) [.box 25 (fQ y65.2),Qjb y63,.box 48 (gu q31.2),.box 50 [S q51,I y41.1,B y43.1,I q31.2.Proto,B q31.2.From.Six,U q31.2.From.Hi,U q31.2.From.Lo,B q31.2.To.Six,U q31.2.To.Hi,U q31.2.To.Lo,I q31.2.FromPort,I q31.2.ToPort,I y45.1,I y47.1]] C (Lfz hy65) E Z E E E E E E E E E E<|gO 2 E<|Kdn E (fun hb=>?_) (fun hb=>?_)
   ·have h67:=cT h66 hb
    refine gA 3 E<|Kqn hΓ E E E Z<|Kqs hΓ E E E E E E E E Z<|Kfg [.box 25 (fQ y65.2),Qjb y63,.box 48 (gu q31.2),.box 50 [S q51,I y41.1,B y43.1,I q31.2.Proto,B q31.2.From.Six,U q31.2.From.Hi,U q31.2.From.Lo,B q31.2.To.Six,U q31.2.To.Hi,U q31.2.To.Lo,I q31.2.FromPort,I q31.2.ToPort,I y45.1,I y47.1],.box 50 [S q51,I y41.1,B y43.1,I q31.2.Proto,B q31.2.From.Six,U q31.2.From.Hi,U q31.2.From.Lo,B q31.2.To.Six,U q31.2.To.Hi,U q31.2.To.Lo,I q31.2.FromPort,I q31.2.ToPort,I y45.1,I y47.1]] E<|gO 8 E<|Kqs hΓ E E E E E E E E Z<|Kfg [.box 25 (fQ y65.2),Qjb y63,.box 48 (gu q31.2),.box 50 [S q51,I y41.1,B y43.1,I q31.2.Proto,B q31.2.From.Six,U q31.2.From.Hi,U q31.2.From.Lo,B q31.2.To.Six,U q31.2.To.Hi,U q31.2.To.Lo,I q31.2.FromPort,I q31.2.ToPort,I y45.1,I y47.1],.box 50 [S q51,I y41.1,B (!y43.1),I q31.2.Proto,B q31.2.From.Six,U q31.2.From.Hi,U q31.2.From.Lo,B q31.2.To.Six,U q31.2.To.Hi,U q31.2.To.Lo,I q31.2.FromPort,I q31.2.ToPort,I y45.1,I y47.1]] E<|gO 6 E<|Kqn hΓ E E E Z<|Kqs hΓ E E E E E E E E Z<|Kfg [.box 25 (fQ y65.2),Qjb y63,.box 48 (gu q31.2),.box 50 [S q51,I y41.1,B y43.1,I q31.2.Proto,B q31.2.From.Six,U q31.2.From.Hi,U q31.2.From.Lo,B q31.2.To.Six,U q31.2.To.Hi,U q31.2.To.Lo,I q31.2.FromPort,I q31.2.ToPort,I y45.1,I y47.1],.box 50 [S q51,I y41.1,B (!y43.1),I q31.2.Proto,B q31.2.From.Six,U q31.2.From.Hi,U q31.2.From.Lo,B q31.2.To.Six,U q31.2.To.Hi,U q31.2.To.Lo,I q31.2.FromPort,I q31.2.ToPort,I y45.1,I y47.1],.box 46 (gh q31.2.To)] E<|bK h67 fun q68 hq68 h69=>gO 9 E<|Kid [(0,.ptr 0 0),(5,.sl 1 y63.length),(7,.ptr 3 0),(10,.ptr 4 0),(11,.ptr 5 0),(14,I many),(15,I (i1:Int))] [.box 25 (fQ y65.2),Qjb y63,.box 48 (gu q31.2),.box 50 [S q51,I y41.1,B y43.1,I q31.2.Proto,B q31.2.From.Six,U q31.2.From.Hi,U q31.2.From.Lo,B q31.2.To.Six,U q31.2.To.Hi,U q31.2.To.Lo,I q31.2.FromPort,I q31.2.ToPort,I y45.1,I y47.1],.box 50 [S q51,I y41.1,B (!y43.1),I q31.2.Proto,B q31.2.From.Six,U q31.2.From.Hi,U q31.2.From.Lo,B q31.2.To.Six,U q31.2.To.Hi,U q31.2.To.Lo,I q31.2.FromPort,I q31.2.ToPort,I y45.1,I y47.1],.box 46 (gh q68)] ?_ ?_
    ·refine jC E hq68 (fun h70=>?_) fun h71=>gA 1 E<|oSi h71▸⟨⟨E,E,E,E,E,E,E,tV⟩,[],E,.inl E⟩
     exact gA 3 E<|Kqs hΓ E E E E E E E E Z<|Kfg [.box 25 (fQ y65.2),Qjb y63,.box 48 (gu q31.2),.box 50 [S q51,I y41.1,B y43.1,I q31.2.Proto,B q31.2.From.Six,U q31.2.From.Hi,U q31.2.From.Lo,B q31.2.To.Six,U q31.2.To.Hi,U q31.2.To.Lo,I q31.2.FromPort,I q31.2.ToPort,I y45.1,I y47.1],.box 50 [S q51,I y41.1,B (!y43.1),I q31.2.Proto,B q31.2.From.Six,U q31.2.From.Hi,U q31.2.From.Lo,B q31.2.To.Six,U q31.2.To.Hi,U q31.2.To.Lo,I q31.2.FromPort,I q31.2.ToPort,I y45.1,I y47.1],.box 46 (gh q31.2.From)] E<|gO 1 E<|oSi h70▸⟨⟨E,E,E,E,E,E,E,tV⟩,[],E,.inl E⟩
    refine gA 15 E<|Kdt 3 [(0,.ptr 0 0),(5,.sl 1 y63.length),(7,.ptr 3 0),(10,.ptr 4 0),(12,U (IntKind.u64.wrap (q68.Lo - 1681915904))),(14,I many),(15,I (i1:Int)),(110,B ((decide ((IntKind.u64.wrap (q68.Lo - 1681915904):Int)≥1))&&(decide ((IntKind.u64.wrap (q68.Lo - 1681915904):Int)≤4))))] [.box 25 (fQ y65.2),Qjb y63,.box 48 (gu q31.2),.box 50 [S q51,I y41.1,B y43.1,I q31.2.Proto,B q31.2.From.Six,U q31.2.From.Hi,U q31.2.From.Lo,B q31.2.To.Six,U q31.2.To.Hi,U q31.2.To.Lo,I q31.2.FromPort,I q31.2.ToPort,I y45.1,I y47.1],.box 50 [S q51,I y41.1,B (!y43.1),I q31.2.Proto,B q31.2.From.Six,U q31.2.From.Hi,U q31.2.From.Lo,B q31.2.To.Six,U q31.2.To.Hi,U q31.2.To.Lo,I q31.2.FromPort,I q31.2.ToPort,I y45.1,I y47.1],.box 46 (gh q68)] ?_ ?_
    ·refine Kpg E E (fun hb=>?_) (fun hb=>?_)
     ·exact gO 4 E<|⟨⟨E,E,E,E,E,E,E,Kct E (Kft hb),tV⟩,[],E,.inl E⟩
     exact gO 4 E<|⟨⟨E,E,E,E,E,E,E,Kct E (Kfu hb),tV⟩,[],E,.inl E⟩
    refine bK h69 fun q72 hq72 h73=>gO 2 E<|Kid [(0,.ptr 0 0),(5,.sl 1 y63.length),(7,.ptr 3 0),(10,.ptr 4 0),(14,I many),(15,I (i1:Int))] [.box 25 (fQ y65.2),Qjb y63,.box 48 (gu q31.2),.box 50 [S q51,I y41.1,B y43.1,I q31.2.Proto,B q31.2.From.Six,U q31.2.From.Hi,U q31.2.From.Lo,B q31.2.To.Six,U q31.2.To.Hi,U q31.2.To.Lo,I q31.2.FromPort,I q31.2.ToPort,I y45.1,I y47.1],.box 50 [S q72,I y41.1,B (!y43.1),I q31.2.Proto,B q31.2.From.Six,U q31.2.From.Hi,U q31.2.From.Lo,B q31.2.To.Six,U q31.2.To.Hi,U q31.2.To.Lo,I q31.2.FromPort,I q31.2.ToPort,I y45.1,I y47.1],.box 46 (gh q68)] ?_ ?_
    ·refine jC E hq72 (fun h74=>?_) fun h77=>gA 1 E<|oSi h77▸⟨⟨E,E,E,E,E,E,tV⟩,[],E,.inl E⟩
     exact gA 1 E<|Ker hΓ (enc:=eS) [[],[110,97],[110,98],[110,99],[110,100]] E E E E E E E E E E E E Z<|bK h74 fun x75 hx75 h76=>gO 1 E<|eo_o E (Keg hΓ (enc:=eS) hx75 E E E E E (fun _=>E))<|gO 2 E<|Kqs hΓ E E E E E E E E Z<|Kfg [.box 25 (fQ y65.2),Qjb y63,.box 48 (gu q31.2),.box 50 [S q51,I y41.1,B y43.1,I q31.2.Proto,B q31.2.From.Six,U q31.2.From.Hi,U q31.2.From.Lo,B q31.2.To.Six,U q31.2.To.Hi,U q31.2.To.Lo,I q31.2.FromPort,I q31.2.ToPort,I y45.1,I y47.1],.box 50 [S x75,I y41.1,B (!y43.1),I q31.2.Proto,B q31.2.From.Six,U q31.2.From.Hi,U q31.2.From.Lo,B q31.2.To.Six,U q31.2.To.Hi,U q31.2.To.Lo,I q31.2.FromPort,I q31.2.ToPort,I y45.1,I y47.1],.box 46 (gh q68)] E<|gO 1 E<|oSi h76▸⟨⟨E,E,E,E,E,E,tV⟩,[],E,.inl E⟩
    exact gA 2 E<|Khd [.dead,.dead,.dead,.box 50 [S q51,I y41.1,B y43.1,I q31.2.Proto,B q31.2.From.Six,U q31.2.From.Hi,U q31.2.From.Lo,B q31.2.To.Six,U q31.2.To.Hi,U q31.2.To.Lo,I q31.2.FromPort,I q31.2.ToPort,I y45.1,I y47.1]] [1] [4,8] [] hmix (by kernel_rfl) (by kernel_rfl) ⟨E,tV⟩ Z<|go_E hΓ 3 E<|Khs hΓ (enc:=(eN .i64)) [0,0,-1,-5,1] E E E E E E E E E E E E<|bK h73 fun y78 hy78 h79=>ge_h [.box 25 (fQ y78.2),Qjb y63,.box 48 (gu q31.2),.box 50 [S q51,I y41.1,B y43.1,I q31.2.Proto,B q31.2.From.Six,U q31.2.From.Hi,U q31.2.From.Lo,B q31.2.To.Six,U q31.2.To.Hi,U q31.2.To.Lo,I q31.2.FromPort,I q31.2.ToPort,I y45.1,I y47.1],.box 50 [S q72,I y41.1,B (!y43.1),I q31.2.Proto,B q31.2.From.Six,U q31.2.From.Hi,U q31.2.From.Lo,B q31.2.To.Six,U q31.2.To.Hi,U q31.2.To.Lo,I q31.2.FromPort,I q31.2.ToPort,I y45.1,I y47.1],.box 46 (gh q68)] E E E (Khl ⟨E,tV⟩) (Khq [0] (I y78.1) [.box 25 (fQ y78.2),Qjb y63,.box 48 (gu q31.2),.box 50 [S q51,I y41.1,B y43.1,I q31.2.Proto,B q31.2.From.Six,U q31.2.From.Hi,U q31.2.From.Lo,B q31.2.To.Six,U q31.2.To.Hi,U q31.2.To.Lo,I q31.2.FromPort,I q31.2.ToPort,I y45.1,I y47.1],.box 50 [S q72,I y41.1,B (!y43.1),I q31.2.Proto,B q31.2.From.Six,U q31.2.From.Hi,U q31.2.From.Lo,B q31.2.To.Six,U q31.2.To.Hi,U q31.2.To.Lo,I q31.2.FromPort,I q31.2.ToPort,I y45.1,I y47.1],.box 46 (gh q68)] C (Lgd hy78) E E E E E E E E E E)<|go_E hΓ 3 E<|Khj [.box 25 (fQ y78.2),Qjb y63,.box 48 (gu q31.2),.box 50 [S q51,I y41.1,B y43.1,I q31.2.Proto,B q31.2.From.Six,U q31.2.From.Hi,U q31.2.From.Lo,B q31.2.To.Six,U q31.2.To.Hi,U q31.2.To.Lo,I q31.2.FromPort,I q31.2.ToPort,I y45.1,I y47.1],.box 50 [S q72,I y41.1,B (!y43.1),I q31.2.Proto,B q31.2.From.Six,U q31.2.From.Hi,U q31.2.From.Lo,B q31.2.To.Six,U q31.2.To.Hi,U q31.2.To.Lo,I q31.2.FromPort,I q31.2.ToPort,I (if (wi (y45.1+y78.1))>1 then wi (y45.1+y78.1) else 1),I y47.1],.box 46 (gh q68)] E E (Khl ⟨E,tV⟩) (Khp (Kiq hΓ E E E E E E E E E))<|Khe<|gA 2 E<|Khd [.dead,.dead,.dead,.box 50 [S q51,I y41.1,B y43.1,I q31.2.Proto,B q31.2.From.Six,U q31.2.From.Hi,U q31.2.From.Lo,B q31.2.To.Six,U q31.2.To.Hi,U q31.2.To.Lo,I q31.2.FromPort,I q31.2.ToPort,I y45.1,I y47.1]] [1] [4,8] [] hmix (by kernel_rfl) (by kernel_rfl) ⟨E,tV⟩ Z<|go_E hΓ 3 E<|Khs hΓ (enc:=(eN .i64)) [0,-50,-1,20] E E E E E E E E E E E E<|bK h79 fun y80 hy80 h81=>ge_h [.box 25 (fQ y80.2),Qjb y63,.box 48 (gu q31.2),.box 50 [S q51,I y41.1,B y43.1,I q31.2.Proto,B q31.2.From.Six,U q31.2.From.Hi,U q31.2.From.Lo,B q31.2.To.Six,U q31.2.To.Hi,U q31.2.To.Lo,I q31.2.FromPort,I q31.2.ToPort,I y45.1,I y47.1],.box 50 [S q72,I y41.1,B (!y43.1),I q31.2.Proto,B q31.2.From.Six,U q31.2.From.Hi,U q31.2.From.Lo,B q31.2.To.Six,U q31.2.To.Hi,U q31.2.To.Lo,I q31.2.FromPort,I q31.2.ToPort,I (if (wi (y45.1+y78.1))>1 then wi (y45.1+y78.1) else 1),I y47.1],.box 46 (gh q68)] E E E (Khl ⟨E,tV⟩) (Khq [0] (I y80.1) [.box 25 (fQ y80.2),Qjb y63,.box 48 (gu q31.2),.box 50 [S q51,I y41.1,B y43.1,I q31.2.Proto,B q31.2.From.Six,U q31.2.From.Hi,U q31.2.From.Lo,B q31.2.To.Six,U q31.2.To.Hi,U q31.2.To.Lo,I q31.2.FromPort,I q31.2.ToPort,I y45.1,I y47.1],.box 50 [S q72,I y41.1,B (!y43.1),I q31.2.Proto,B q31.2.From.Six,U q31.2.From.Hi,U q31.2.From.Lo,B q31.2.To.Six,U q31.2.To.Hi,U q31.2.To.Lo,I q31.2.FromPort,I q31.2.ToPort,I (if (wi (y45.1+y78.1))>1 then wi (y45.1+y78.1) else 1),I y47.1],.box 46 (gh q68)] C (Lgd hy80) E E E E E E E E E E)<|go_E hΓ 3 E<|Khj [.box 25 (fQ y80.2),Qjb y63,.box 48 (gu q31.2),.box 50 [S q51,I y41.1,B y43.1,I q31.2.Proto,B q31.2.From.Six,U q31.2.From.Hi,U q31.2.From.Lo,B q31.2.To.Six,U q31.2.To.Hi,U q31.2.To.Lo,I q31.2.FromPort,I q31.2.ToPort,I y45.1,I y47.1],.box 50 [S q72,I y41.1,B (!y43.1),I q31.2.Proto,B q31.2.From.Six,U q31.2.From.Hi,U q31.2.From.Lo,B q31.2.To.Six,U q31.2.To.Hi,U q31.2.To.Lo,I q31.2.FromPort,I q31.2.ToPort,I (if (wi (y45.1+y78.1))>1 then wi (y45.1+y78.1) else 1),I (if (wi (y47.1+y80.1))>0 then wi (y47.1+y80.1) else 0)],.box 46 (gh q68)] E E (Khl ⟨E,tV⟩) (Khp (Kiq hΓ E E E E E E E E E))<|Khe<|gA 4 E<|Ker hΓ (enc:=Lfu) [(⟨q72,y41.1,!y43.1,q31.2,(if (wi (y45.1+y78.1))>1 then wi (y45.1+y78.1) else 1),(if (wi (y47.1+y80.1))>0 then wi (y47.1+y80.1) else 0)⟩:Kxr)] E E E E E E E E E E E E Z<|bK h81 fun y82 hy82 h83=>Kfh hΓ (enc:=Lfu) hy82 E E E E E E E E E (fun _=>E) E E E E<|gO 8 E<|oSi h83▸⟨⟨E,E,E,Kcs E (Kcr (by omega)),tV⟩,[_,_,_,_],E,.inr ⟨HB.mk E,FB.mk E,Z⟩⟩
   have h84:=cF h66 hb
   exact gA 7 E<|oSi h84▸⟨⟨E,E,E,Kcs E (Kcr (by omega)),tV⟩,[_,_],E,.inr ⟨HB.mk E,FB.mk E,Z⟩⟩
  exact gA 6 E<|Kdp E (dF hge)<|gA 4 E<|⟨⟨E,E,tV⟩,[],E,.inl E⟩
 refine bK h5 fun y85 hy85 h86=>gA 4 E<|Kew [1] (.tup []) [.box 25 (fQ q4.1),Qjb y85] C (Lhz hy85) E Z E E E E E E E E E E<|gK h86 fun hg88 h87=>Kip 5 E (of_decide_eq_true hg88).symm<|bK h87 fun y89 hy89 h90=>gO 5 E<|Kew [1] (.sl 1 y89.length) [.box 25 (fQ q4.1),Qjb y89] C (Lic hy89) E Z E E E E E E E E E E<|gO 10 E<|bK h90 fun q91 hq91 h92=>Kdt 3 [(0,.ptr 0 0),(5,.sl 1 y89.length),(147,B q91.2)] [.box 25 (fQ q91.1),Qjb y89] ?_ ?_
 ·refine Kpg E E (fun hb=>?_) (fun hb=>?_)
  ·have h93:=cT hq91 hb
   exact bK h93 fun y94 hy94 h95=>gO 1 E<|Kpe E<|Kew [0] (B y94.1) [.box 25 (fQ y94.2),Qjb y89] C (Lfz hy94) E Z E E E E E E E E E E<|gO 2 E<|oSi h95▸⟨⟨E,E,E,tV⟩,[],E,.inl E⟩
  have h96:=cF hq91 hb
  exact gO 4 E<|oSi h96▸⟨⟨E,E,E,tV⟩,[],E,.inl E⟩
 refine bK h92 fun q97 hq97 h98=>gO 2 E<|Kid [(5,.sl 1 q97.2.length)] [.box 25 (fQ q97.1),Qjb q97.2] ?_ ?_
 ·refine jC E hq97 (fun h99=>?_) fun h125=>gA 1 E<|oSi h125▸⟨⟨E,tV⟩,[],E,.inl E⟩
  refine bK h99 fun y100 hy100 h101=>gA 6 E<|Kew [0] (I y100.1) [.box 25 (fQ y100.2),Qjb y89] C (Lfy hy100) E Z E E E E E E E E E E<|bK h101 fun x102 hx102 h103=>?_
  have hj104:=Kfs hx102
  refine eo_o E (Kei hΓ hx102 E E E E E E)<|bK h103 fun y105 hy105 h106=>gO 6 E<|Kew [0] (I y105.1) [.box 25 (fQ y105.2),Qjb y89] C (Lfy hy105) E Z E E E E E E E E E E<|gO 9 E<|jC E h106 (fun h107=>?_) fun h110=>gA 6 E<|jC E h110 (fun h111=>?_) fun h114=>?_
  ·exact gA 3 E<|Ker hΓ (enc:=eS) [[],[65],[110,97]] E E E E E E E E E E E E Z<|bK h107 fun y108 hy108 h109=>Kew [0] (S y108.1) [.box 25 (fQ y108.2),Qjb y89] C (Lga hy108) E Z E E E E E E E E E E<|gO 2 E<|Keq hΓ (enc:=Lfu) (z':=(⟨y108.1,x102.Hour,x102.Out,x102.Flow,x102.Packets,x102.Bytes⟩:Kxr)) y100.1.toNat 0 hj104 E E E E (fun _=>E) E E E E E E Z<|Kfg [.box 25 (fQ y108.2),Qjb (y89.set y100.1.toNat (⟨y108.1,x102.Hour,x102.Out,x102.Flow,x102.Packets,x102.Bytes⟩:Kxr))] E<|Kip 5 (n':=(y89.set y100.1.toNat (⟨y108.1,x102.Hour,x102.Out,x102.Flow,x102.Packets,x102.Bytes⟩:Kxr)).length) E List.length_set.symm<|gO 2 E<|oSi h109▸⟨⟨E,tV⟩,[],E,.inl E⟩
  ·exact bK h111 fun y112 hy112 h113=>gA 3 E<|Kew [0] (I y112.1) [.box 25 (fQ y112.2),Qjb y89] C (Lid hy112) E Z E E E E E E E E E E<|gO 2 E<|Keq hΓ (enc:=Lfu) (z':=(⟨x102.Node,y112.1,x102.Out,x102.Flow,x102.Packets,x102.Bytes⟩:Kxr)) y100.1.toNat 1 hj104 E E E E (fun _=>E) E E E E E E Z<|Kfg [.box 25 (fQ y112.2),Qjb (y89.set y100.1.toNat (⟨x102.Node,y112.1,x102.Out,x102.Flow,x102.Packets,x102.Bytes⟩:Kxr))] E<|Kip 5 (n':=(y89.set y100.1.toNat (⟨x102.Node,y112.1,x102.Out,x102.Flow,x102.Packets,x102.Bytes⟩:Kxr)).length) E List.length_set.symm<|gO 2 E<|oSi h113▸⟨⟨E,tV⟩,[],E,.inl E⟩
  refine gA 6 E<|jC E h114 (fun h115=>?_) fun h118=>gA 6 E<|jC E h118 (fun h119=>?_) fun h122=>?_
  ·exact bK h115 fun y116 hy116 h117=>gA 3 E<|Kew [0] (.agg (gu y116.1)) [.box 25 (fQ y116.2),Qjb y89] C (Lig hy116) E Z E E E E E E E E E E<|gO 2 E<|Keq hΓ (enc:=Lfu) (z':=(⟨x102.Node,x102.Hour,x102.Out,y116.1,x102.Packets,x102.Bytes⟩:Kxr)) y100.1.toNat 3 hj104 E E E E (fun _=>E) E E E E E E Z<|Kfg [.box 25 (fQ y116.2),Qjb (y89.set y100.1.toNat (⟨x102.Node,x102.Hour,x102.Out,y116.1,x102.Packets,x102.Bytes⟩:Kxr))] E<|Kip 5 (n':=(y89.set y100.1.toNat (⟨x102.Node,x102.Hour,x102.Out,y116.1,x102.Packets,x102.Bytes⟩:Kxr)).length) E List.length_set.symm<|gO 2 E<|oSi h117▸⟨⟨E,tV⟩,[],E,.inl E⟩
  ·exact bK h119 fun y120 hy120 h121=>gA 3 E<|Kew [0] (I y120.1) [.box 25 (fQ y120.2),Qjb y89] C (Lid hy120) E Z E E E E E E E E E E<|gO 2 E<|Keq hΓ (enc:=Lfu) (z':=(⟨x102.Node,x102.Hour,x102.Out,x102.Flow,y120.1,x102.Bytes⟩:Kxr)) y100.1.toNat 12 hj104 E E E E (fun _=>E) E E E E E E Z<|Kfg [.box 25 (fQ y120.2),Qjb (y89.set y100.1.toNat (⟨x102.Node,x102.Hour,x102.Out,x102.Flow,y120.1,x102.Bytes⟩:Kxr))] E<|Kip 5 (n':=(y89.set y100.1.toNat (⟨x102.Node,x102.Hour,x102.Out,x102.Flow,y120.1,x102.Bytes⟩:Kxr)).length) E List.length_set.symm<|gO 2 E<|oSi h121▸⟨⟨E,tV⟩,[],E,.inl E⟩
  exact bK h122 fun y123 hy123 h124=>gA 3 E<|Kew [0] (I y123.1) [.box 25 (fQ y123.2),Qjb y89] C (Lid hy123) E Z E E E E E E E E E E<|gO 2 E<|Keq hΓ (enc:=Lfu) (z':=(⟨x102.Node,x102.Hour,x102.Out,x102.Flow,x102.Packets,y123.1⟩:Kxr)) y100.1.toNat 13 hj104 E E E E (fun _=>E) E E E E E E Z<|Kfg [.box 25 (fQ y123.2),Qjb (y89.set y100.1.toNat (⟨x102.Node,x102.Hour,x102.Out,x102.Flow,x102.Packets,y123.1⟩:Kxr))] E<|Kip 5 (n':=(y89.set y100.1.toNat (⟨x102.Node,x102.Hour,x102.Out,x102.Flow,x102.Packets,y123.1⟩:Kxr)).length) E List.length_set.symm<|gO 2 E<|oSi h124▸⟨⟨E,tV⟩,[],E,.inl E⟩
 exact gA 8 E<|Khz<|oSi h98▸Kfn hΓ [] (.inr E) E E E E (.inl E)
theorem Lii{k:Nat}{s:Str}{r:Bool}(h:Lae k s=some r):Pure Tryz.prog 89 [S s] (B r):=by
 unfold Lae at h
 refine QP Tryz.func89 E E E<|gA 11 E<|bK h fun q4 hq4 h5=>Kic (R:=fun a6=>q4=.inl a6) (fun a6=>[(0,S s)]) (fun a6=>[]) ?_ ?_
 ·refine gA 1 E<|Kec hq4 (fun s2=>[(0,S s),(3,I s2)]) (fun s2=>[]) ⟨⟨E,E,tV⟩,[],E,.inl E⟩ (fun s2 y10 hy8 hout9=>?_)
  refine gA 9 E<|Kdn E (fun hb=>?_) (fun hb=>?_)
  ·have h11:=cT hy8 hb
   refine bK h11 fun c12 hc12 h13=>gA 8 E<|eo_o E (Keh hΓ hc12 E E E E)<|gO 8 E<|Kdt 3 [(0,S s),(3,I s2),(4,.d (.v (.int .u8 (c12.toNat:Int)))),(19,B ((decide (((c12.toNat:Int):Int)≥97))&&(decide (((c12.toNat:Int):Int)≤122))))] [] ?_ ?_
   ·refine Kpg E E (fun hb=>?_) (fun hb=>?_)
    ·exact gO 4 E<|⟨⟨E,E,E,Kct E (Kft hb),tV⟩,[],E,.inl E⟩
    exact gO 4 E<|⟨⟨E,E,E,Kct E (Kfu hb),tV⟩,[],E,.inl E⟩
   refine gO 1 E<|Kdt 19 [(0,S s),(3,I s2),(39,B (((decide (((c12.toNat:Int):Int)≥97))&&(decide (((c12.toNat:Int):Int)≤122)))||((decide ((s2:Int)>0))&&((((decide (((c12.toNat:Int):Int)≥48))&&(decide (((c12.toNat:Int):Int)≤57)))||(((c12.toNat:Int):Int)==45))||(((c12.toNat:Int):Int)==95)))))] [] ?_ ?_
   ·refine Kpg E E (fun hb=>?_) (fun hb=>?_)
    ·exact gO 20 E<|⟨⟨E,E,Kct E (or_t hb),tV⟩,[],E,.inl E⟩
    refine gO 3 E<|Kdt 15 [(0,S s),(3,I s2),(20,B false),(38,B ((decide ((s2:Int)>0))&&((((decide (((c12.toNat:Int):Int)≥48))&&(decide (((c12.toNat:Int):Int)≤57)))||(((c12.toNat:Int):Int)==45))||(((c12.toNat:Int):Int)==95))))] [] ?_ ?_
    ·refine Kpg E E (fun hb=>?_) (fun hb=>?_)
     ·refine gO 3 E<|Kdt 3 [(0,S s),(3,I s2),(4,.d (.v (.int .u8 (c12.toNat:Int)))),(20,B false),(23,B true),(29,B ((decide (((c12.toNat:Int):Int)≥48))&&(decide (((c12.toNat:Int):Int)≤57))))] [] ?_ ?_
      ·refine Kpg E E (fun hb=>?_) (fun hb=>?_)
       ·exact gO 4 E<|⟨⟨E,E,E,E,E,Kct E (Kft hb),tV⟩,[],E,.inl E⟩
       exact gO 4 E<|⟨⟨E,E,E,E,E,Kct E (Kfu hb),tV⟩,[],E,.inl E⟩
      refine gO 1 E<|Kdt 3 [(0,S s),(3,I s2),(4,.d (.v (.int .u8 (c12.toNat:Int)))),(20,B false),(23,B true),(33,B (((decide (((c12.toNat:Int):Int)≥48))&&(decide (((c12.toNat:Int):Int)≤57)))||(((c12.toNat:Int):Int)==45)))] [] ?_ ?_
      ·refine Kpg E E (fun hb=>?_) (fun hb=>?_)
       ·exact gO 4 E<|⟨⟨E,E,E,E,E,Kct E (or_t hb),tV⟩,[],E,.inl E⟩
       exact gO 4 E<|⟨⟨E,E,E,E,E,Kct E (or_f hb),tV⟩,[],E,.inl E⟩
      refine gO 1 E<|Kdt 3 [(0,S s),(3,I s2),(20,B false),(23,B true),(37,B ((((decide (((c12.toNat:Int):Int)≥48))&&(decide (((c12.toNat:Int):Int)≤57)))||(((c12.toNat:Int):Int)==45))||(((c12.toNat:Int):Int)==95)))] [] ?_ ?_
      ·refine Kpg E E (fun hb=>?_) (fun hb=>?_)
       ·exact gO 4 E<|⟨⟨E,E,E,E,Kct E (or_t hb),tV⟩,[],E,.inl E⟩
       exact gO 4 E<|⟨⟨E,E,E,E,Kct E (or_f hb),tV⟩,[],E,.inl E⟩
      exact gO 2 E<|⟨⟨E,E,E,Kct E (Kft hb),tV⟩,[],E,.inl E⟩
     exact gO 16 E<|⟨⟨E,E,E,Kct E (Kfu hb),tV⟩,[],E,.inl E⟩
    exact gO 2 E<|⟨⟨E,E,Kct E (or_f hb),tV⟩,[],E,.inl E⟩
   refine gO 3 E<|jC E h13 (fun h14=>?_) fun h17=>gA 8 E<|oSi h17▸⟨_,E,⟨⟨E,E,tV⟩,[],E,.inl E⟩⟩
   refine gA 8 E<|bK h14 fun v15 hv15 h16=>?_
   cases h16
   obtain rfl:=hout9 _ rfl
   cases h5
   exact gA 4 E<|oSi hv15▸gP E E
  have h18:=cF hy8 hb
  refine gA 4 E ?_
  cases h18
  obtain rfl:=hout9 _ rfl
  exact⟨_,E,⟨⟨E,tV⟩,[],E,.inl E⟩⟩
 intro a6 ha
 subst ha
 replace h5:=Khw h5
 refine gA 6 E<|Kdt 4 [(47,B ((!((s:Str)==[]))&&(decide (((s.length:Int):Int)≤40))))] [] ?_ ?_
 ·refine Kpg E E (fun hb=>?_) (fun hb=>?_)
  ·exact gO 5 E<|⟨⟨Kct E (Kft hb),tV⟩,[],E,.inl E⟩
  exact gO 5 E<|⟨⟨Kct E (Kfu hb),tV⟩,[],E,.inl E⟩
 exact gO 4 E<|oSi h5▸gP E E
theorem Lij{s:List Str}{v:Str}{r:Int}(h:Laf s v=some r):Pure Tryz.prog 121 [.d (Sl eS s),S v] (I r):=by
 unfold Laf at h
 refine QP Tryz.func121 E E E<|gA 13 E<|bK h fun q4 hq4 h5=>Kef 0 E fun hb7=>Kic (R:=fun a6=>q4=.go a6) (fun a6=>[]) (fun a6=>[]) ?_ ?_
 ·refine gA 1 E<|Kee s hq4 (fun i1 s2=>[(0,.d (Sl eS s)),(1,S v),(7,I (s.length:Int)),(8,I (i1:Int))]) (fun s2=>[]) ⟨⟨E,E,E,E,tV⟩,[],E,.inl E⟩ (fun i1 x3 s2 y11 hx8 hlt hy9 hout10=>?_) (fun s2 hgo=>?_)
  ·refine gA 6 E<|Kdo E (dT (Int.ofNat_lt.2 hlt))<|gA 15 E<|eo_o E (Keg hΓ (enc:=eS) (Kdz hx8) E E E E E (fun _=>E))<|gO 4 E<|jC E hy9 (fun h12=>?_) fun h15=>gA 7 E ?_
   ·refine gA 9 E<|bK h12 fun v13 hv13 h14=>?_
    cases h14
    obtain rfl:=hout10 _ rfl
    cases h5
    exact gA 4 E<|oSi hv13▸gP E E
   cases h15
   exact⟨_,E,⟨⟨E,E,E,Kcs E (Kcr (nLl hlt hb7)),tV⟩,[],E,.inl E⟩⟩
  subst hgo
  exact gA 6 E<|Kdp E (dF (Int.lt_irrefl _))<|gA 4 E<|⟨_,E,⟨tV,[],E,.inl E⟩⟩
 intro a6 ha
 subst ha
 replace h5:=Khx h5
 exact gA 7 E<|oSi h5▸gP E E
theorem Lik{s:List Str}{v:Str}{r:Bool}(h:Lag s v=some r):Pure Tryz.prog 104 [.d (Sl eS s),S v] (B r):=by
 unfold Lag at h
 exact QP Tryz.func104 E E E<|bK h fun y1 hy1 h2=>gA 9 E<|Kex C (Lij hy1) E Z E E E E E<|gO 5 E<|oSi h2▸gP E E
theorem Lil{v_g:Kxd}{n:Str}{r:Int}(h:Lah v_g n=some r):Pure Tryz.prog 158 [.agg (gf v_g),S n] (I r):=by
 unfold Lah at h
 exact QP Tryz.func158 E E E<|gA 2 E<|Kqo E E E E Z<|bK h fun y1 hy1 h2=>gO 8 E<|Kex C (Ktk hy1) E Z E E E E E<|gO 4 E<|oSi h2▸gP E E
theorem Lim{k:Nat}{x:List Kxd}{target:Str}{r:Int×Bool}(h:Lai k x target=some r):Pure Tryz.prog 157 [.d (Sl Lfg x),S target,.fn (.func 158) [] []] (.tup [I r.1,B r.2]):=by
 unfold Lai at h
 refine QP Tryz.func157 E E E<|gA 21 E<|bK h fun q4 hq4 h5=>Kid [(0,.d (Sl Lfg x)),(1,S target),(2,.fn (.func 158) [] []),(8,I (x.length:Int)),(9,I q4)] [] ?_ ?_
 ·refine gA 1 E<|Kec hq4 (fun s2=>[(0,.d (Sl Lfg x)),(1,S target),(2,.fn (.func 158) [] []),(8,I (x.length:Int)),(9,I s2.1),(10,I s2.2)]) (fun s2=>[]) ⟨⟨E,E,E,E,E,E,tV⟩,[],E,.inl E⟩ (fun s2 y10 hy8 hout9=>?_)
  refine gA 8 E<|jC E hy8 (fun h11=>?_) fun h18=>gA 4 E ?_
  ·refine bK h11 fun x12 hx12 h13=>gA 19 E<|eo_o E (Keg hΓ (enc:=Lfg) hx12 E E E E E (fun _=>E))<|bK h13 fun y14 hy14 h15=>gO 2 E<|Kex C (Lil hy14) E Z E E E E E<|gO 3 E<|jC E h15 (fun h16=>?_) fun h17=>gA 5 E<|oSi h17▸⟨_,E,⟨⟨E,E,E,E,E,E,tV⟩,[],E,.inl E⟩⟩
   exact gA 6 E<|oSi h16▸⟨_,E,⟨⟨E,E,E,E,E,E,tV⟩,[],E,.inl E⟩⟩
  cases h18
  obtain rfl:=hout9 _ rfl
  exact⟨⟨E,E,E,E,E,tV⟩,[],E,.inl E⟩
 refine gA 8 E<|bK h5 fun q19 hq19 h20=>Kdt 9 [(35,I q4),(48,B q19)] [] ?_ ?_
 ·refine Kpg E E (fun hb=>?_) (fun hb=>?_)
  ·have h21:=cT hq19 hb
   exact bK h21 fun x22 hx22 h23=>gO 3 E<|Kpe E<|eo_o E (Keg hΓ (enc:=Lfg) hx22 E E E E E (fun _=>E))<|bK h23 fun y24 hy24 h25=>gO 2 E<|Kpe E<|Kex C (Lil hy24) E Z E E E E E<|gO 3 E<|oSi h25▸⟨⟨E,E,tV⟩,[],E,.inl E⟩
  have h26:=cF hq19 hb
  exact gO 10 E<|oSi h26▸⟨⟨E,E,tV⟩,[],E,.inl E⟩
 exact gO 5 E<|oSi h20▸gP E E
theorem Lin{k:Nat}{p:Kxn}{name:Str}{r:Int×Bool}(h:Laj k p name=some r):Pure Tryz.prog 101 [.agg (gy p),S name] (.tup [I r.1,B r.2]):=by
 unfold Laj at h
 exact QP Tryz.func101 E E E<|gA 2 E<|Kqo E E E E Z<|bK h fun y1 hy1 h2=>gO 9 E<|Kex C (Lim hy1) E Z E E E E E<|gO 7 E<|oSi h2▸gP E E
theorem Lio{k:Nat}{p:Kxn}{i:Int}{r:List Int}(h:Lak k p i=some r):EC Tryz.prog 195 [.agg (gy p),I i] [] fun g hp'=>g=.sl 0 r.length∧hp'=[Qkb r]:=by
 unfold Lak at h
 refine QM Tryz.func195 E Z<|gA 2 E<|Kqo E E E E Z<|gO 5 E<|Keu (t:=0) 3 1 E Z<|bK h fun x1 hx1 h2=>gO 8 E<|eo_o E (Keg hΓ (enc:=Lfg) hx1 E E E E E (fun _=>E))<|gO 6 E<|bK h2 fun q6 hq6 h7=>Kef 17 E fun hb9=>Kid [(5,.sl 1 q6.length)] [.box 32 (gy p),Qkb q6] ?_ ?_
 ·refine gA 1 E<|Kfp x1.Members hq6 (fun i3 s4=>[(2,.ptr 0 0),(5,.sl 1 s4.length),(17,.d (Sl eS x1.Members)),(18,I (x1.Members.length:Int)),(19,I (i3:Int))]) (fun s4=>[.box 32 (gy p),Qkb s4]) ⟨⟨E,E,E,E,E,tV⟩,[],E,.inl E⟩ (fun i3 x5 s4 y13 hx10 hlt hy11=>?_) (?_)
  ·refine gA 6 E<|Kdo E (dT (Int.ofNat_lt.2 hlt))<|gA 6 E<|eo_o E (Keg hΓ (enc:=eS) (Kdz hx10) E E E E E (fun _=>E))<|bK hy11 fun y14 hy14 h15=>gO 7 E<|Kex C (Kss hy14) E Z E E E E E<|gO 12 E<|jC E h15 (fun h16=>?_) fun h23=>gA 7 E ?_
   ·refine bK h16 fun y17 hy17 h18=>gA 4 E<|Kex C (Lin hy17) E Z E E E E E<|gO 12 E<|jC E h18 (fun h19=>?_) fun h22=>gA 7 E ?_
    ·refine gA 3 E<|Ker hΓ (enc:=(eN .i64)) [y17.1] E E E E E E E E E E E E Z<|bK h19 fun y20 hy20 h21=>Kfh hΓ (enc:=(eN .i64)) hy20 E E E E E E E E E (fun _=>E) E E E E<|gO 8 E ?_
     cases h21
     exact⟨⟨E,E,E,E,Kcs E (Kcr (nLl hlt hb9)),tV⟩,[],E,.inl E⟩
    cases h22
    exact⟨⟨E,E,E,E,Kcs E (Kcr (nLl hlt hb9)),tV⟩,[],E,.inl E⟩
   cases h23
   exact⟨⟨E,E,E,E,Kcs E (Kcr (nLl hlt hb9)),tV⟩,[],E,.inl E⟩
  exact gA 6 E<|Kdp E (dF (Int.lt_irrefl _))<|gA 4 E<|⟨⟨E,tV⟩,[],E,.inl E⟩
 exact gA 8 E<|Kki 0 [.dead,Qkb q6] E Z<|Kib 1 0 [Qkb q6,.dead] E E E E E E<|Khz<|oSi h7▸Kfn hΓ [_] (.inr E) E E E E (.inr ⟨HB.mk E,E⟩)
theorem Lip{k:Nat}{p:Kxn}{i:Int}{r:List (Int×Bool)}(h:Lal k p i=some r):EC Tryz.prog 138 [.agg (gy p),I i] [] fun g hp'=>g=.map 0∧hp'=[Qlb r]:=by
 unfold Lal at h
 refine QM Tryz.func138 E Z<|gA 2 E<|Kqo E E E E Z<|gO 5 E<|eo_s Z (nblt.1 E) (Kjn false)<|Kfg [.box 32 (gy p),Qlb ([]:List (Int×Bool))] E<|gO 7 E<|Kqw hΓ (enc:=(eN .i64)) [i] E E E E E E E E E E E E Z<|gO 3 E<|bK h fun q4 hq4 h5=>Kid [(5,.map 1)] [.box 32 (gy p),Qlb q4.1,.rowv 3 1 q4.2.length (q4.2.flatMap (eN .i64))] ?_ ?_
 ·refine gA 1 E<|Kec hq4 (fun s2=>[(2,.ptr 0 0),(5,.map 1),(6,.sv 2 s2.2.length)]) (fun s2=>[.box 32 (gy p),Qlb s2.1,.rowv 3 1 s2.2.length (s2.2.flatMap (eN .i64))]) ⟨⟨E,E,E,tV⟩,[],E,.inl E⟩ (fun s2 y10 hy8 hout9=>?_)
  refine gA 8 E<|jC E hy8 (fun h11=>?_) fun h34=>gA 4 E ?_
  ·refine gA 5 E<|jD<|bK h11 fun x12 hx12 h13=>?_
   have hj14:=Kfs hx12
   refine gA 2 E<|gl_o E (Kno hΓ hx12 E E E E E E)<|gl_o E (Knq hΓ (sz:=1) (enc:=(eN .i64)) ((0:Int).toNat) 0 hj14 E E E E (fun _=>E) (g:=I x12) E)<|bK h13 fun y15 hy15 h16=>Kez C (Pure.rows (Lio hy15) E E) E E E E E E<|Kdl hΓ 4 E<|bK h16 fun q20 hq20 h21=>Kef 21 E fun hb23=>Kid [(2,.ptr 0 0),(5,.map 1),(6,.sv 2 q20.2.length)] [.box 32 (gy p),Qlb q20.1,.rowv 3 1 q20.2.length (q20.2.flatMap (eN .i64))] ?_ ?_
   ·refine gA 1 E<|Kfp y15 hq20 (fun i17 s18=>[(2,.ptr 0 0),(5,.map 1),(6,.sv 2 s18.2.length),(21,.d (Sl (eN .i64) y15)),(22,I (y15.length:Int)),(23,I (i17:Int))]) (fun s18=>[.box 32 (gy p),Qlb s18.1,.rowv 3 1 s18.2.length (s18.2.flatMap (eN .i64))]) ⟨⟨E,E,E,E,E,E,tV⟩,[],E,.inl E⟩ (fun i17 x19 s18 y27 hx24 hlt hy25=>?_) (?_)
    ·refine gA 6 E<|Kdo E (dT (Int.ofNat_lt.2 hlt))<|gA 6 E<|eo_o E (Keg hΓ (enc:=(eN .i64)) (Kdz hx24) E E E E E (fun _=>E))<|gO 8 E<|eo_o E (Kjr hΓ (kv:=(kI .i64)) (agg:=false) (enc:=eB) s18.1 x19 (false:Bool) E E E E (Kji .i64) E E E E E E E)<|gO 3 E<|jC E hy25 (fun h28=>?_) fun h31=>gA 7 E ?_
     ·refine gA 4 E<|eo_u Z (Kju hΓ (kv:=(kI .i64)) (agg:=false) (enc:=eB) (id:=1) s18.1 x19 true E E E (Kji .i64) E E E E E)<|Kfg [.box 32 (gy p),Qlb (mSet s18.1 x19 true),.rowv 3 1 s18.2.length (s18.2.flatMap (eN .i64))] E<|gO 5 E<|Ker hΓ (enc:=(eN .i64)) [x19] E E E E E E E E E E E E Z<|bK h28 fun y29 hy29 h30=>eo_s Z (nblt.1 E) (Knw hΓ (enc:=(eN .i64)) (id:=2) (h2:=show Γ 3=some ⟨_,1,_,_⟩ from E) hy29 E E E E E E E E (fun _=>E) E)<|gO 1 E<|Kgv 3 2 [.box 32 (gy p),Qlb (mSet s18.1 x19 true),.rowv 3 1 y29.length (y29.flatMap (eN .i64)),.dead] E E E E E E<|gO 7 E ?_
      cases h30
      exact⟨⟨E,E,E,E,E,Kcs E (Kcr (nLl hlt hb23)),tV⟩,[_],E,.inr ⟨HB.mk E,FB.mk E,Z⟩⟩
     cases h31
     exact⟨⟨E,E,E,E,E,Kcs E (Kcr (nLl hlt hb23)),tV⟩,[],E,.inl E⟩
    exact gA 6 E<|Kdp E (dF (Int.lt_irrefl _))<|gA 4 E<|⟨⟨E,E,E,tV⟩,[],E,.inl E⟩
   exact bK h21 fun z32 hz32 h33=>gA 4 E<|eo_s Z (nblt.1 E) (Kns hΓ (enc:=(eN .i64)) hz32 E E E E E E E (fun _=>E))<|Kfg [.box 32 (gy p),Qlb q20.1,.dead,.rowv 3 1 z32.length (z32.flatMap (eN .i64))] E<|gO 1 E<|Kgv 3 2 [.box 32 (gy p),Qlb q20.1,.rowv 3 1 z32.length (z32.flatMap (eN .i64)),.dead] E E E E E E<|gO 1 E<|oSi h33▸⟨_,E,⟨⟨E,E,E,tV⟩,[_],E,.inr ⟨HB.mk E,FB.mk E,Z⟩⟩⟩
  cases h34
  obtain rfl:=hout9 _ rfl
  exact⟨⟨E,tV⟩,[],E,.inl E⟩
 exact gA 8 E<|Kki 0 [.dead,Qlb q4.1,.rowv 3 1 q4.2.length (q4.2.flatMap (eN .i64))] E Z<|Kib 1 0 [Qlb q4.1,.dead,.rowv 3 1 q4.2.length (q4.2.flatMap (eN .i64))] E E E E E E<|Khz<|oSi h5▸Kfn hΓ [_,_] (.inr E) E E E E (.inr ⟨HB.mk E,E⟩)
theorem Liq{k:Nat}{p:Kxn}{r:Int}(h:Lam k p=some r):Pure Tryz.prog 85 [.agg (gy p)] (I r):=by
 unfold Lam at h
 refine QP Tryz.func85 E E E<|gA 2 E<|Kqo E E E E Z<|gO 12 E<|jC E h (fun h1=>?_) fun h2=>gA 11 E<|bK h2 fun q6 hq6 h7=>Kef 21 E fun hb9=>Kic (R:=fun a8=>q6=.go a8) (fun a8=>[(1,.ptr 0 0)]) (fun a8=>[.box 32 (gy p)]) ?_ ?_
 ·exact gA 7 E<|oSi h1▸gP E E
 ·refine gA 1 E<|Kee p.Groups hq6 (fun i3 s4=>[(1,.ptr 0 0),(21,.d (Sl Lfg p.Groups)),(22,I (p.Groups.length:Int)),(23,I (i3:Int))]) (fun s4=>[.box 32 (gy p)]) ⟨⟨E,E,E,E,tV⟩,[],E,.inl E⟩ (fun i3 x5 s4 y13 hx10 hlt hy11 hout12=>?_) (fun s4 hgo=>?_)
  ·refine gA 6 E<|Kdo E (dT (Int.ofNat_lt.2 hlt))<|gA 7 E<|eo_o E (Keg hΓ (enc:=Lfg) (Kdz hx10) E E E E E (fun _=>E))<|gO 1 E<|Kqn hΓ E E E Z<|gO 1 E<|Kqs hΓ E E E E E E E E Z<|Kfg [.box 32 (gy p),.box 109 (gf x5)] E<|bK hy11 fun y14 hy14 h15=>gO 8 E<|Kex C (Lii hy14) E Z E E E E E<|gO 4 E<|jC E h15 (fun h16=>?_) fun h19=>bK h19 fun q20 hq20 h21=>gA 1 E<|Kid [(1,.ptr 0 0),(4,.ptr 1 0),(21,.d (Sl Lfg p.Groups)),(22,I (p.Groups.length:Int)),(23,I (i3:Int)),(33,B q20)] [.box 32 (gy p),.box 109 (gf x5)] ?_ ?_
   ·refine gA 10 E<|bK h16 fun v17 hv17 h18=>?_
    cases h18
    obtain rfl:=hout12 _ rfl
    cases h7
    exact gA 4 E<|oSi hv17▸gP E E
   ·refine jD<|gA 3 E<|Kbx E E (fun hb=>?_) (fun hb=>?_)
    ·have h22:=cT hq20 hb
     exact bK h22 fun x23 hx23 h24=>Kdl hΓ 6 E<|Kcu E E (Keg hΓ (enc:=Lfg) hx23 E E E E E (fun _=>E))<|Kdl hΓ 6 E<|oSi h24▸⟨⟨E,E,E,E,E,E,tV⟩,[],E,.inl E⟩
    have h25:=cF hq20 hb
    exact Kdl hΓ 13 E<|oSi h25▸⟨⟨E,E,E,E,E,E,tV⟩,[],E,.inl E⟩
   refine gA 1 E<|jC E h21 (fun h26=>?_) fun h29=>gA 9 E<|jC E h29 (fun h30=>?_) fun h33=>?_
   ·refine gA 10 E<|bK h26 fun v27 hv27 h28=>?_
    cases h28
    obtain rfl:=hout12 _ rfl
    cases h7
    exact gA 4 E<|oSi hv27▸gP E E
   ·refine gA 10 E<|bK h30 fun v31 hv31 h32=>?_
    cases h32
    obtain rfl:=hout12 _ rfl
    cases h7
    exact gA 4 E<|oSi hv31▸gP E E
   refine gA 11 E<|bK h33 fun q37 hq37 h38=>Kef 54 E fun hb40=>Kic (R:=fun a39=>q37=.go a39) (fun a39=>[(1,.ptr 0 0),(21,.d (Sl Lfg p.Groups)),(22,I (p.Groups.length:Int)),(23,I (i3:Int))]) (fun a39=>[.box 32 (gy p),.box 109 (gf x5)]) ?_ ?_
   ·refine gA 1 E<|Kee x5.Members hq37 (fun i34 s35=>[(1,.ptr 0 0),(4,.ptr 1 0),(21,.d (Sl Lfg p.Groups)),(22,I (p.Groups.length:Int)),(23,I (i3:Int)),(54,.d (Sl eS x5.Members)),(55,I (x5.Members.length:Int)),(56,I (i34:Int))]) (fun s35=>[.box 32 (gy p),.box 109 (gf x5)]) ⟨⟨E,E,E,E,E,E,E,E,tV⟩,[],E,.inl E⟩ (fun i34 x36 s35 y44 hx41 hlt hy42 hout43=>?_) (fun s35 hgo=>?_)
    ·refine gA 6 E<|Kdo E (dT (Int.ofNat_lt.2 hlt))<|gA 7 E<|eo_o E (Keg hΓ (enc:=eS) (Kdz hx41) E E E E E (fun _=>E))<|bK hy42 fun y45 hy45 h46=>gO 9 E<|Kex C (Ksr hy45) E Z E E E E E<|bK h46 fun y47 hy47 h48=>Kex C (Lii hy47) E Z E E E E E<|gO 3 E<|jC E h48 (fun h49=>?_) fun h54=>bK h54 fun z55 hz55 h56=>gA 7 E<|eo_o E (Ken hΓ (enc:=eS) hz55 E E E E E E (fun _=>E))<|bK h56 fun y57 hy57 h58=>gO 1 E<|Kex C (Lik hy57) E Z E E E E E<|gO 2 E<|jC E h58 (fun h59=>?_) fun h64=>?_
     ·refine gA 9 E<|bK h49 fun v50 hv50 h51=>?_
      cases h51
      obtain rfl:=hout43 _ rfl
      cases h38
      refine gA 5 E<|bK hv50 fun v52 hv52 h53=>?_
      cases h53
      obtain rfl:=hout12 _ rfl
      cases h7
      exact gA 4 E<|oSi hv52▸gP E E
     ·refine gA 8 E<|bK h59 fun v60 hv60 h61=>?_
      cases h61
      obtain rfl:=hout43 _ rfl
      cases h38
      refine gA 5 E<|bK hv60 fun v62 hv62 h63=>?_
      cases h63
      obtain rfl:=hout12 _ rfl
      cases h7
      exact gA 4 E<|oSi hv62▸gP E E
     refine gA 7 E ?_
     cases h64
     exact⟨_,E,⟨⟨E,E,E,E,E,E,E,Kcs E (Kcr (nLl hlt hb40)),tV⟩,[],E,.inl E⟩⟩
    subst hgo
    exact gA 6 E<|Kdp E (dF (Int.lt_irrefl _))<|gA 4 E<|⟨_,E,⟨⟨E,E,E,E,tV⟩,[],E,.inl E⟩⟩
   intro a39 ha
   subst ha
   replace h38:=Khx h38
   refine gA 6 E ?_
   cases h38
   exact⟨_,E,⟨⟨E,E,E,Kcs E (Kcr (nLl hlt hb9)),tV⟩,[_],E,.inr ⟨HB.mk E,FB.mk E,Z⟩⟩⟩
  subst hgo
  exact gA 6 E<|Kdp E (dF (Int.lt_irrefl _))<|gA 4 E<|⟨_,E,⟨⟨E,tV⟩,[],E,.inl E⟩⟩
 intro a8 ha
 subst ha
 replace h7:=Khx h7
 refine gA 10 E<|bK h7 fun q68 hq68 h69=>Kef 74 E fun hb71=>Kic (R:=fun a70=>q68=.go a70) (fun a70=>[(1,.ptr 0 0)]) (fun a70=>[.box 32 (gy p)]) ?_ ?_
 ·refine gA 1 E<|Kee p.Groups hq68 (fun i65 s66=>[(1,.ptr 0 0),(74,.d (Sl Lfg p.Groups)),(75,I (p.Groups.length:Int)),(76,I (i65:Int))]) (fun s66=>[.box 32 (gy p)]) ⟨⟨E,E,E,E,tV⟩,[],E,.inl E⟩ (fun i65 x67 s66 y75 hx72 hlt hy73 hout74=>?_) (fun s66 hgo=>?_)
  ·refine gA 6 E<|Kdo E (dT (Int.ofNat_lt.2 hlt))<|gA 6 E<|eo_o E (Keg hΓ (enc:=Lfg) (Kdz hx72) E E E E E (fun _=>E))<|gO 1 E<|Kqn hΓ E E E Z<|Kqs hΓ E E E E E E E E Z<|Kfg [.box 32 (gy p),.box 109 (gf x67)] E<|gO 10 E<|bK hy73 fun q79 hq79 h80=>Kef 81 E fun hb82=>Kic (R:=fun a81=>q79=.go a81) (fun a81=>[(1,.ptr 0 0),(74,.d (Sl Lfg p.Groups)),(75,I (p.Groups.length:Int)),(76,I (i65:Int))]) (fun a81=>[.box 32 (gy p),.box 109 (gf x67)]) ?_ ?_
   ·refine gA 1 E<|Kee x67.Members hq79 (fun i76 s77=>[(1,.ptr 0 0),(74,.d (Sl Lfg p.Groups)),(75,I (p.Groups.length:Int)),(76,I (i65:Int)),(81,.d (Sl eS x67.Members)),(82,I (x67.Members.length:Int)),(83,I (i76:Int))]) (fun s77=>[.box 32 (gy p),.box 109 (gf x67)]) ⟨⟨E,E,E,E,E,E,E,tV⟩,[],E,.inl E⟩ (fun i76 x78 s77 y86 hx83 hlt hy84 hout85=>?_) (fun s77 hgo=>?_)
    ·refine gA 6 E<|Kdo E (dT (Int.ofNat_lt.2 hlt))<|gA 6 E<|eo_o E (Keg hΓ (enc:=eS) (Kdz hx83) E E E E E (fun _=>E))<|bK hy84 fun y87 hy87 h88=>gO 7 E<|Kex C (Kss hy87) E Z E E E E E<|gO 12 E<|jC E h88 (fun h89=>?_) fun h98=>gA 7 E ?_
     ·refine bK h89 fun y90 hy90 h91=>gA 4 E<|Kex C (Lin hy90) E Z E E E E E<|gO 13 E<|jC E h91 (fun h92=>?_) fun h97=>gA 7 E ?_
      ·refine gA 8 E<|bK h92 fun v93 hv93 h94=>?_
       cases h94
       obtain rfl:=hout85 _ rfl
       cases h80
       refine gA 5 E<|bK hv93 fun v95 hv95 h96=>?_
       cases h96
       obtain rfl:=hout74 _ rfl
       cases h69
       exact gA 4 E<|oSi hv95▸gP E E
      cases h97
      exact⟨_,E,⟨⟨E,E,E,E,E,E,Kcs E (Kcr (nLl hlt hb82)),tV⟩,[],E,.inl E⟩⟩
     cases h98
     exact⟨_,E,⟨⟨E,E,E,E,E,E,Kcs E (Kcr (nLl hlt hb82)),tV⟩,[],E,.inl E⟩⟩
    subst hgo
    exact gA 6 E<|Kdp E (dF (Int.lt_irrefl _))<|gA 4 E<|⟨_,E,⟨⟨E,E,E,E,tV⟩,[],E,.inl E⟩⟩
   intro a81 ha
   subst ha
   replace h80:=Khx h80
   refine gA 6 E ?_
   cases h80
   exact⟨_,E,⟨⟨E,E,E,Kcs E (Kcr (nLl hlt hb71)),tV⟩,[_],E,.inr ⟨HB.mk E,FB.mk E,Z⟩⟩⟩
  subst hgo
  exact gA 6 E<|Kdp E (dF (Int.lt_irrefl _))<|gA 4 E<|⟨_,E,⟨⟨E,tV⟩,[],E,.inl E⟩⟩
 intro a70 ha
 subst ha
 replace h69:=Khx h69
 refine gA 10 E<|bK h69 fun q102 hq102 h103=>gK hq102 fun hb105 h106=>?_
 replace hb105:=of_decide_eq_true hb105
 refine Kic (R:=fun a104=>q102=.go a104) (fun a104=>[]) (fun a104=>[.box 32 (gy p)]) ?_ ?_
 ·refine gA 1 E<|Kfq h106 (fun i99 s100=>[(1,.ptr 0 0),(105,I (p.Groups.length:Int)),(106,I (i99:Int))]) (fun s100=>[.box 32 (gy p)]) ⟨⟨E,E,E,tV⟩,[],E,.inl E⟩ (fun i99 s100 y110 hlt hy108 hout109=>?_) (fun s100 hgo hge=>?_)
  ·refine gA 6 E<|Kdo E (dT hlt)<|bK hy108 fun y111 hy111 h112=>gA 14 E<|Kew [] (.map 1) [.box 32 (gy p),Qlb y111] C (Lip hy111) E Z E E E E E E E E E E<|gO 1 E<|eo_o E (Kjr hΓ (kv:=(kI .i64)) (agg:=false) (enc:=eB) y111 (i99:Int) (false:Bool) E E E E (Kji .i64) E E E E E E E)<|gO 2 E<|jC E h112 (fun h113=>?_) fun h116=>gA 7 E<|oSi h116▸⟨_,E,⟨⟨E,E,Kcs E (Kcr (by omega)),tV⟩,[_],E,.inr ⟨HB.mk E,FB.mk E,Z⟩⟩⟩
   refine gA 8 E<|bK h113 fun v114 hv114 h115=>?_
   cases h115
   obtain rfl:=hout109 _ rfl
   cases h103
   exact gA 4 E<|oSi hv114▸gP E E
  subst hgo
  exact gA 6 E<|Kdp E (dF hge)<|gA 4 E<|⟨_,E,⟨tV,[],E,.inl E⟩⟩
 intro a104 ha
 subst ha
 replace h103:=Khx h103
 exact gA 7 E<|oSi h103▸gP E E
theorem Lir{a:Kxe}{r:Int}(h:Lan a=some r):Pure Tryz.prog 41 [.agg (gh a)] (I r):=by
 unfold Lan at h
 refine QP Tryz.func41 E E E<|gA 2 E<|Kqo E E E E Z<|gO 10 E<|Kdt 9 [(15,B ((!a.Six)&&(((a.Hi:Int) != 0)||(decide ((a.Lo:Int)≥4294967296)))))] [.box 46 (gh a)] ?_ ?_
 ·refine Kpg E E (fun hb=>?_) (fun hb=>?_)
  ·refine gO 4 E<|Kdt 4 [(6,B true),(14,B (((a.Hi:Int) != 0)||(decide ((a.Lo:Int)≥4294967296))))] [.box 46 (gh a)] ?_ ?_
   ·refine Kpg E E (fun hb=>?_) (fun hb=>?_)
    ·exact gO 5 E<|⟨⟨E,Kct E (or_t hb),tV⟩,[],E,.inl E⟩
    exact gO 5 E<|⟨⟨E,Kct E (or_f hb),tV⟩,[],E,.inl E⟩
   exact gO 2 E<|⟨⟨Kct E (Kft hb),tV⟩,[],E,.inl E⟩
  exact gO 10 E<|⟨⟨Kct E (Kfu hb),tV⟩,[],E,.inl E⟩
 refine gO 2 E<|jC E h (fun h1=>?_) fun h2=>gA 8 E<|oSi h2▸gP E E
 exact gA 7 E<|oSi h1▸gP E E
theorem Lis{a:Kxe}{r:Int}(h:Lao a=some r):Pure Tryz.prog 196 [.agg (gh a)] (I r):=by
 unfold Lao at h
 refine QP Tryz.func196 E E E<|gA 2 E<|Kqo E E E E Z<|gO 10 E<|jC E h (fun h1=>?_) fun h2=>gA 8 E<|oSi h2▸gP E E
 exact gA 7 E<|oSi h1▸gP E E
theorem Lit{n:Int}{low:Int}{high:Int}{r:Bool}(h:Lap n low high=some r):Pure Tryz.prog 69 [I n,I low,I high] (B r):=by
 unfold Lap at h
 refine QP Tryz.func69 E E E<|gA 11 E<|Kdt 4 [(6,B false),(14,B ((decide ((n:Int)<low))||(decide ((n:Int)>high))))] [] ?_ ?_
 ·refine Kpg E E (fun hb=>?_) (fun hb=>?_)
  ·exact gO 5 E<|⟨⟨E,Kct E (or_t hb),tV⟩,[],E,.inl E⟩
  exact gO 5 E<|⟨⟨E,Kct E (or_f hb),tV⟩,[],E,.inl E⟩
 exact gO 4 E<|oSi h▸gP E E
theorem Liu{n:Int}{r:Int×Int}(h:Laq n=some r):Pure Tryz.prog 227 [I n] (.tup [U r.1,U r.2]):=by
 unfold Laq at h
 refine QP Tryz.func227 E E E<|gA 15 E<|jC E h (fun h1=>?_) fun h2=>gA 7 E<|jC E h2 (fun h3=>?_) fun h6=>?_
 ·exact gA 9 E<|oSi h1▸gP E E
 ·exact bK h3 fun y4 hy4 h5=>gA 4 E<|eo_o E (Kgb hy4 E E)<|gO 8 E<|oSi h5▸gP E E
 refine gA 7 E<|jC E h6 (fun h7=>?_) fun h8=>gA 4 E<|jD<|bK h8 fun y9 hy9 h10=>gA 1 E<|gl_o E (Kgb hy9 E E)<|Kdl hΓ 6 E<|oSi h10▸gP E E
 exact gA 9 E<|oSi h7▸gP E E
theorem Liv{a:Kxe}{n:Int}{r:Kxe}(h:Lar a n=some r):Pure Tryz.prog 197 [.agg (gh a),I n] (.agg (gh r)):=by
 unfold Lar at h
 exact QP Tryz.func197 E E E<|gA 2 E<|Kqo E E E E Z<|Kqn hΓ E E E Z<|bK h fun y1 hy1 h2=>gO 5 E<|Kex C (Lis hy1) E Z E E E E E<|bK h2 fun y3 hy3 h4=>gO 2 E<|Kex C (Liu hy3) E Z E E E E E<|gO 14 E<|Kqs hΓ E E E E E E E E Z<|Kfg [.box 46 [B a.Six,U (bitsV .andNot .u64 a.Hi y3.1),U a.Lo],QV] E<|gO 9 E<|Kqs hΓ E E E E E E E E Z<|Kfg [.box 46 [B a.Six,U (bitsV .andNot .u64 a.Hi y3.1),U (bitsV .andNot .u64 a.Lo y3.2)],QV] E<|gO 5 E<|Kqs hΓ E E E E E E E E Z<|Kfg [.box 46 [B a.Six,U (bitsV .andNot .u64 a.Hi y3.1),U (bitsV .andNot .u64 a.Lo y3.2)],.box 46 [B a.Six,U (bitsV .andNot .u64 a.Hi y3.1),U (bitsV .andNot .u64 a.Lo y3.2)]] E<|gO 3 E<|oSi h4▸gP E E
theorem Liw{p:Kxf}{r:Int}(h:Las p=some r):Pure Tryz.prog 139 [.agg (gk p)] (I r):=by
 unfold Las at h
 refine QP Tryz.func139 E E E<|gA 2 E<|Kqo E E E E Z<|bK h fun y1 hy1 h2=>gO 9 E<|Kex C (Lir hy1) E Z E E E E E<|gO 4 E<|jC E h2 (fun h3=>?_) fun h4=>gA 1 E<|jD<|bK h4 fun y5 hy5 h6=>gA 4 E<|Kez C (Lis hy5) E E E E E E<|bK h6 fun y7 hy7 h8=>Kez C (Lit hy7) E E E E E E<|Kdl hΓ 3 E<|jC E h8 (fun h9=>?_) fun h10=>?_
 ·exact gA 8 E<|oSi h3▸gP E E
 ·exact gA 8 E<|oSi h9▸gP E E
 refine gA 1 E<|jD<|bK h10 fun y11 hy11 h12=>gA 4 E<|Kez C (Liv hy11) E E E E E E<|Kdl hΓ 2 E<|gl_o E (Kga hΓ [46] (b:=(((y11.Six:Bool)==p.Addr.Six)&&(((y11.Hi:Int)==p.Addr.Hi)&&(((y11.Lo:Int)==p.Addr.Lo)&&true)))) (by kernel_rfl) (by kernel_rfl) E E E)<|Kdl hΓ 3 E<|jC E h12 (fun h13=>?_) fun h14=>gA 9 E<|oSi h14▸gP E E
 exact gA 8 E<|oSi h13▸gP E E
theorem Lix{k:Nat}{l:List Kxg}{r:Int}(h:Lat k l=some r):Pure Tryz.prog 86 [.d (Sl Lfj l)] (I r):=by
 unfold Lat at h
 refine QP Tryz.func86 E E E<|gA 13 E<|jC E h (fun h1=>?_) fun h2=>gA 10 E<|bK h2 fun q6 hq6 h7=>Kef 0 E fun hb9=>Kic (R:=fun a8=>q6=.go a8) (fun a8=>[]) (fun a8=>[]) ?_ ?_
 ·exact gA 7 E<|oSi h1▸gP E E
 ·refine gA 1 E<|Kee l hq6 (fun i3 s4=>[(0,.d (Sl Lfj l)),(9,.d (Sl Lfj l)),(10,I (l.length:Int)),(11,I (i3:Int))]) (fun s4=>[]) ⟨⟨E,E,E,E,tV⟩,[],E,.inl E⟩ (fun i3 x5 s4 y13 hx10 hlt hy11 hout12=>?_) (fun s4 hgo=>?_)
  ·refine gA 6 E<|Kdo E (dT (Int.ofNat_lt.2 hlt))<|gA 7 E<|eo_o E (Keg hΓ (enc:=Lfj) (Kdz hx10) E E E E E (fun _=>E))<|gO 1 E<|Kqn hΓ E E E Z<|gO 1 E<|Kqs hΓ E E E E E E E E Z<|Kfg [.box 111 (gl x5)] E<|bK hy11 fun y14 hy14 h15=>gO 7 E<|Kex C (Lii hy14) E Z E E E E E<|gO 3 E<|jC E h15 (fun h16=>?_) fun h19=>bK h19 fun q20 hq20 h21=>gA 4 E<|Kid [(0,.d (Sl Lfj l)),(4,.ptr 0 0),(9,.d (Sl Lfj l)),(10,I (l.length:Int)),(11,I (i3:Int)),(32,B q20)] [.box 111 (gl x5)] ?_ ?_
   ·refine gA 9 E<|bK h16 fun v17 hv17 h18=>?_
    cases h18
    obtain rfl:=hout12 _ rfl
    cases h7
    exact gA 4 E<|oSi hv17▸gP E E
   ·refine jD<|gA 3 E<|Kbx E E (fun hb=>?_) (fun hb=>?_)
    ·have h22:=cT hq20 hb
     exact bK h22 fun x23 hx23 h24=>Kdl hΓ 5 E<|Kcu E E (Keg hΓ (enc:=Lfj) hx23 E E E E E (fun _=>E))<|Kdl hΓ 5 E<|oSi h24▸⟨⟨E,E,E,E,E,E,tV⟩,[],E,.inl E⟩
    have h25:=cF hq20 hb
    exact Kdl hΓ 11 E<|oSi h25▸⟨⟨E,E,E,E,E,E,tV⟩,[],E,.inl E⟩
   refine gA 1 E<|jC E h21 (fun h26=>?_) fun h29=>bK h29 fun y30 hy30 h31=>gA 6 E<|Kex C (Liw hy30) E Z E E E E E<|gO 9 E<|jC E h31 (fun h32=>?_) fun h35=>?_
   ·refine gA 9 E<|bK h26 fun v27 hv27 h28=>?_
    cases h28
    obtain rfl:=hout12 _ rfl
    cases h7
    exact gA 4 E<|oSi hv27▸gP E E
   ·refine gA 9 E<|bK h32 fun v33 hv33 h34=>?_
    cases h34
    obtain rfl:=hout12 _ rfl
    cases h7
    exact gA 4 E<|oSi hv33▸gP E E
   refine gA 7 E ?_
   cases h35
   exact⟨_,E,⟨⟨E,E,E,Kcs E (Kcr (nLl hlt hb9)),tV⟩,[_],E,.inr ⟨HB.mk E,FB.mk E,Z⟩⟩⟩
  subst hgo
  exact gA 6 E<|Kdp E (dF (Int.lt_irrefl _))<|gA 4 E<|⟨_,E,⟨tV,[],E,.inl E⟩⟩
 intro a8 ha
 subst ha
 replace h7:=Khx h7
 exact gA 7 E<|oSi h7▸gP E E
theorem Liy{v_h:Kxg}{n:Str}{r:Int}(h:Lau v_h n=some r):Pure Tryz.prog 162 [.agg (gl v_h),S n] (I r):=by
 unfold Lau at h
 exact QP Tryz.func162 E E E<|gA 2 E<|Kqo E E E E Z<|bK h fun y1 hy1 h2=>gO 8 E<|Kex C (Ktk hy1) E Z E E E E E<|gO 4 E<|oSi h2▸gP E E
theorem Liz{k:Nat}{x:List Kxg}{target:Str}{r:Int×Bool}(h:Lav k x target=some r):Pure Tryz.prog 161 [.d (Sl Lfj x),S target,.fn (.func 162) [] []] (.tup [I r.1,B r.2]):=by
 unfold Lav at h
 refine QP Tryz.func161 E E E<|gA 21 E<|bK h fun q4 hq4 h5=>Kid [(0,.d (Sl Lfj x)),(1,S target),(2,.fn (.func 162) [] []),(8,I (x.length:Int)),(9,I q4)] [] ?_ ?_
 ·refine gA 1 E<|Kec hq4 (fun s2=>[(0,.d (Sl Lfj x)),(1,S target),(2,.fn (.func 162) [] []),(8,I (x.length:Int)),(9,I s2.1),(10,I s2.2)]) (fun s2=>[]) ⟨⟨E,E,E,E,E,E,tV⟩,[],E,.inl E⟩ (fun s2 y10 hy8 hout9=>?_)
  refine gA 8 E<|jC E hy8 (fun h11=>?_) fun h18=>gA 4 E ?_
  ·refine bK h11 fun x12 hx12 h13=>gA 19 E<|eo_o E (Keg hΓ (enc:=Lfj) hx12 E E E E E (fun _=>E))<|bK h13 fun y14 hy14 h15=>gO 2 E<|Kex C (Liy hy14) E Z E E E E E<|gO 3 E<|jC E h15 (fun h16=>?_) fun h17=>gA 5 E<|oSi h17▸⟨_,E,⟨⟨E,E,E,E,E,E,tV⟩,[],E,.inl E⟩⟩
   exact gA 6 E<|oSi h16▸⟨_,E,⟨⟨E,E,E,E,E,E,tV⟩,[],E,.inl E⟩⟩
  cases h18
  obtain rfl:=hout9 _ rfl
  exact⟨⟨E,E,E,E,E,tV⟩,[],E,.inl E⟩
 refine gA 8 E<|bK h5 fun q19 hq19 h20=>Kdt 9 [(35,I q4),(48,B q19)] [] ?_ ?_
 ·refine Kpg E E (fun hb=>?_) (fun hb=>?_)
  ·have h21:=cT hq19 hb
   exact bK h21 fun x22 hx22 h23=>gO 3 E<|Kpe E<|eo_o E (Keg hΓ (enc:=Lfj) hx22 E E E E E (fun _=>E))<|bK h23 fun y24 hy24 h25=>gO 2 E<|Kpe E<|Kex C (Liy hy24) E Z E E E E E<|gO 3 E<|oSi h25▸⟨⟨E,E,tV⟩,[],E,.inl E⟩
  have h26:=cF hq19 hb
  exact gO 10 E<|oSi h26▸⟨⟨E,E,tV⟩,[],E,.inl E⟩
 exact gO 5 E<|oSi h20▸gP E E
theorem Lja{k:Nat}{p:Kxn}{name:Str}{r:Int×Bool}(h:Law k p name=some r):Pure Tryz.prog 107 [.agg (gy p),S name] (.tup [I r.1,B r.2]):=by
 unfold Law at h
 exact QP Tryz.func107 E E E<|gA 2 E<|Kqo E E E E Z<|bK h fun y1 hy1 h2=>gO 9 E<|Kex C (Liz hy1) E Z E E E E E<|gO 7 E<|oSi h2▸gP E E
theorem Ljb{k:Nat}{p:Kxn}{w:Kxh}{r:Int}(h:Lax k p w=some r):Pure Tryz.prog 140 [.agg (gy p),.agg (gm w)] (I r):=by
 unfold Lax at h
 refine QP Tryz.func140 E E E<|gA 2 E<|Kqo E E E E Z<|Kqo E E E E Z<|bK h fun y1 hy1 h2=>gO 7 E<|Kex C (Lit hy1) E Z E E E E E<|bK h2 fun y3 hy3 h4=>gO 10 E<|Kex C (Lit hy3) E Z E E E E E<|gO 3 E<|Kdn E (fun hb=>?_) (fun hb=>?_)
 ·have h5:=cT h4 hb
  exact gA 8 E<|oSi h5▸gP E E
 have h6:=cF h4 hb
 refine gA 5 E<|Kdt 4 [(2,.ptr 0 0),(3,.ptr 1 0),(5,B (!y1)),(22,B ((!(!y1))&&(!((w.Name:Str)==[]))))] [.box 32 (gy p),.box 146 (gm w)] ?_ ?_
 ·refine Kpg E E (fun hb=>?_) (fun hb=>?_)
  ·exact gO 5 E<|⟨⟨E,E,E,Kct E (Kft hb),tV⟩,[],E,.inl E⟩
  exact gO 5 E<|⟨⟨E,E,E,Kct E (Kfu hb),tV⟩,[],E,.inl E⟩
 refine gO 1 E<|Kdt 10 [(2,.ptr 0 0),(3,.ptr 1 0),(5,B (!y1)),(33,B (((!(!y1))&&(!((w.Name:Str)==[])))||(((w.Kind:Int) != 7)&&(!((((w.Net.Addr.Six:Bool)==false)&&(((w.Net.Addr.Hi:Int)==0)&&(((w.Net.Addr.Lo:Int)==0)&&true)))&&(((w.Net.Bits:Int)==0)&&true))))))] [.box 32 (gy p),.box 146 (gm w)] ?_ ?_
 ·refine Kpg E E (fun hb=>?_) (fun hb=>?_)
  ·exact gO 11 E<|⟨⟨E,E,E,Kct E (or_t hb),tV⟩,[],E,.inl E⟩
  refine gO 4 E<|Kdt 5 [(2,.ptr 0 0),(3,.ptr 1 0),(5,B (!y1)),(23,B false),(32,B (((w.Kind:Int) != 7)&&(!((((w.Net.Addr.Six:Bool)==false)&&(((w.Net.Addr.Hi:Int)==0)&&(((w.Net.Addr.Lo:Int)==0)&&true)))&&(((w.Net.Bits:Int)==0)&&true)))))] [.box 32 (gy p),.box 146 (gm w)] ?_ ?_
  ·refine Kpg E E (fun hb=>?_) (fun hb=>?_)
   ·exact gO 2 E<|Kpe E<|Kbn hΓ (gs:=[B false,U 0,U 0,I 0]) E E E E E E E<|Kpe E<|eo_o E (Kga hΓ [106,46] (b:=((((w.Net.Addr.Six:Bool)==false)&&(((w.Net.Addr.Hi:Int)==0)&&(((w.Net.Addr.Lo:Int)==0)&&true)))&&(((w.Net.Bits:Int)==0)&&true))) (by kernel_rfl) (by kernel_rfl) E E E)<|gO 2 E<|⟨⟨E,E,E,E,Kct E (Kft hb),tV⟩,[],E,.inl E⟩
   exact gO 6 E<|⟨⟨E,E,E,E,Kct E (Kfu hb),tV⟩,[],E,.inl E⟩
  exact gO 2 E<|⟨⟨E,E,E,Kct E (or_f hb),tV⟩,[],E,.inl E⟩
 refine gO 3 E<|jC E h6 (fun h7=>?_) fun h8=>gA 4 E<|bK h8 fun q9 hq9 h10=>Kdt 5 [(2,.ptr 0 0),(3,.ptr 1 0),(41,B q9)] [.box 32 (gy p),.box 146 (gm w)] ?_ ?_
 ·exact gA 8 E<|oSi h7▸gP E E
 ·refine Kpg E E (fun hb=>?_) (fun hb=>?_)
  ·have h11:=cT hq9 hb
   exact bK h11 fun y12 hy12 h13=>gO 2 E<|Kpe E<|Kex C (Lii hy12) E Z E E E E E<|gO 3 E<|oSi h13▸⟨⟨E,E,E,tV⟩,[],E,.inl E⟩
  have h14:=cF hq9 hb
  exact gO 6 E<|oSi h14▸⟨⟨E,E,E,tV⟩,[],E,.inl E⟩
 refine gO 3 E<|jC E h10 (fun h15=>?_) fun h16=>bK h16 fun q17 hq17 h18=>gA 15 E<|Kif (q:=q17) (fun a19=>[(6,B a19)]) (fun a19=>[.box 32 (gy p),.box 146 (gm w)]) ?_ ?_
 ·exact gA 8 E<|oSi h15▸gP E E
 ·refine gA 7 E<|jC E hq17 (fun h20=>?_) fun h23=>gA 6 E<|jC E h23 (fun h24=>?_) fun h27=>?_
  ·exact bK h20 fun y21 hy21 h22=>gA 4 E<|Kex C (Lin hy21) E Z E E E E E<|gO 6 E<|oSi h22▸⟨_,E,⟨⟨E,tV⟩,[],E,.inl E⟩⟩
  ·exact bK h24 fun y25 hy25 h26=>gA 4 E<|Kex C (Lja hy25) E Z E E E E E<|gO 6 E<|oSi h26▸⟨_,E,⟨⟨E,tV⟩,[],E,.inl E⟩⟩
  refine gA 6 E<|jC E h27 (fun h28=>?_) fun h33=>gA 2 E<|oSi h33▸⟨_,E,⟨⟨E,tV⟩,[],E,.inl E⟩⟩
  refine bK h28 fun y29 hy29 h30=>gA 4 E<|Kex C (Liw hy29) E Z E E E E E<|gO 5 E<|bK h30 fun v31 hv31 h32=>?_
  cases h32
  cases h18
  exact gA 2 E<|oSi hv31▸gP E E
 intro a19 ha
 subst ha
 replace h18:=Khw h18
 refine gA 8 E<|jC E h18 (fun h34=>?_) fun h35=>gA 8 E<|oSi h35▸gP E E
 exact gA 7 E<|oSi h34▸gP E E
theorem Ljc{r:Kxi}(h:Laz=some r):Pure Tryz.prog 141 [] (.agg (gn r)):=by
 unfold Laz at h
 exact QP Tryz.func141 E E E<|gA 2 E<|Kqn hΓ E E E Z<|gO 4 E<|Kbn hΓ (gs:=[I 0,I 65535]) E E E E E E E<|Kqs hΓ E E E E E E E E Z<|Kfg [.box 148 [I 0,I 65535]] E<|gO 3 E<|oSi h▸gP E E
theorem Ljd{proto:Int}{r:Bool}(h:Lba proto=some r):Pure Tryz.prog 70 [I proto] (B r):=by
 unfold Lba at h
 refine QP Tryz.func70 E E E<|gA 10 E<|Kdt 3 [(2,B false),(8,B (((proto:Int)==6)||((proto:Int)==17)))] [] ?_ ?_
 ·refine Kpg E E (fun hb=>?_) (fun hb=>?_)
  ·exact gO 4 E<|⟨⟨E,Kct E (or_t hb),tV⟩,[],E,.inl E⟩
  exact gO 4 E<|⟨⟨E,Kct E (or_f hb),tV⟩,[],E,.inl E⟩
 exact gO 4 E<|oSi h▸gP E E
theorem Lje{k:Nat}{l:List Str}{r:Int}(h:Lbb k l=some r):Pure Tryz.prog 142 [.d (Sl eS l)] (I r):=by
 unfold Lbb at h
 refine QP Tryz.func142 E E E<|gA 13 E<|bK h fun q4 hq4 h5=>Kef 0 E fun hb7=>Kic (R:=fun a6=>q4=.go a6) (fun a6=>[]) (fun a6=>[]) ?_ ?_
 ·refine gA 1 E<|Kee l hq4 (fun i1 s2=>[(0,.d (Sl eS l)),(5,.d (Sl eS l)),(6,I (l.length:Int)),(7,I (i1:Int))]) (fun s2=>[]) ⟨⟨E,E,E,E,tV⟩,[],E,.inl E⟩ (fun i1 x3 s2 y11 hx8 hlt hy9 hout10=>?_) (fun s2 hgo=>?_)
  ·refine gA 6 E<|Kdo E (dT (Int.ofNat_lt.2 hlt))<|gA 7 E<|eo_o E (Keg hΓ (enc:=eS) (Kdz hx8) E E E E E (fun _=>E))<|bK hy9 fun y12 hy12 h13=>gO 9 E<|Kex C (Lii hy12) E Z E E E E E<|gO 3 E<|jC E h13 (fun h14=>?_) fun h17=>gA 7 E<|bK h17 fun q18 hq18 h19=>Kdt 8 [(0,.d (Sl eS l)),(5,.d (Sl eS l)),(6,I (l.length:Int)),(7,I (i1:Int)),(25,B q18)] [] ?_ ?_
   ·refine gA 9 E<|bK h14 fun v15 hv15 h16=>?_
    cases h16
    obtain rfl:=hout10 _ rfl
    cases h5
    exact gA 4 E<|oSi hv15▸gP E E
   ·refine Kpg E E (fun hb=>?_) (fun hb=>?_)
    ·have h20:=cT hq18 hb
     exact bK h20 fun x21 hx21 h22=>gO 4 E<|Kpe E<|eo_o E (Keg hΓ (enc:=eS) hx21 E E E E E (fun _=>E))<|gO 4 E<|oSi h22▸⟨⟨E,E,E,E,E,tV⟩,[],E,.inl E⟩
    have h23:=cF hq18 hb
    exact gO 9 E<|oSi h23▸⟨⟨E,E,E,E,E,tV⟩,[],E,.inl E⟩
   refine gO 2 E<|jC E h19 (fun h24=>?_) fun h27=>gA 7 E ?_
   ·refine gA 8 E<|bK h24 fun v25 hv25 h26=>?_
    cases h26
    obtain rfl:=hout10 _ rfl
    cases h5
    exact gA 4 E<|oSi hv25▸gP E E
   cases h27
   exact⟨_,E,⟨⟨E,E,E,Kcs E (Kcr (nLl hlt hb7)),tV⟩,[],E,.inl E⟩⟩
  subst hgo
  exact gA 6 E<|Kdp E (dF (Int.lt_irrefl _))<|gA 4 E<|⟨_,E,⟨tV,[],E,.inl E⟩⟩
 intro a6 ha
 subst ha
 replace h5:=Khx h5
 exact gA 7 E<|oSi h5▸gP E E
theorem Ljf{k:Nat}{p:Kxn}{v_g:Kxk}{r:Int}(h:Lbc k p v_g=some r):Pure Tryz.prog 87 [.agg (gy p),.agg (gt v_g)] (I r):=by
 unfold Lbc at h
 refine QP Tryz.func87 E E E<|gA 2 E<|Kqo E E E E Z<|Kqo E E E E Z<|gO 11 E<|Kdt 5 [(2,.ptr 0 0),(3,.ptr 1 0),(22,B ((((v_g.Src.length:Int):Int)==0)||(((v_g.Dst.length:Int):Int)==0)))] [.box 32 (gy p),.box 115 (gt v_g)] ?_ ?_
 ·refine Kpg E E (fun hb=>?_) (fun hb=>?_)
  ·exact gO 6 E<|⟨⟨E,E,Kct E (or_t hb),tV⟩,[],E,.inl E⟩
  exact gO 6 E<|⟨⟨E,E,Kct E (or_f hb),tV⟩,[],E,.inl E⟩
 refine gO 2 E<|Kdn E (fun hb=>?_) (fun hb=>?_)
 ·have h1:=cT h hb
  exact gA 7 E<|oSi h1▸gP E E
 have h2:=cF h hb
 refine gA 10 E<|Kdt 5 [(2,.ptr 0 0),(3,.ptr 1 0),(32,B ((decide (((v_g.Src.length:Int):Int)>20))||(decide (((v_g.Dst.length:Int):Int)>20))))] [.box 32 (gy p),.box 115 (gt v_g)] ?_ ?_
 ·refine Kpg E E (fun hb=>?_) (fun hb=>?_)
  ·exact gO 6 E<|⟨⟨E,E,Kct E (or_t hb),tV⟩,[],E,.inl E⟩
  exact gO 6 E<|⟨⟨E,E,Kct E (or_f hb),tV⟩,[],E,.inl E⟩
 refine gO 2 E<|Kdn E (fun hb=>?_) (fun hb=>?_)
 ·have h3:=cT h2 hb
  exact gA 7 E<|oSi h3▸gP E E
 have h4:=cF h2 hb
 refine gA 11 E<|bK h4 fun q8 hq8 h9=>Kef 34 E fun hb11=>Kic (R:=fun a10=>q8=.go a10) (fun a10=>[(2,.ptr 0 0),(3,.ptr 1 0)]) (fun a10=>[.box 32 (gy p),.box 115 (gt v_g)]) ?_ ?_
 ·refine gA 1 E<|Kee v_g.Src hq8 (fun i5 s6=>[(2,.ptr 0 0),(3,.ptr 1 0),(34,.d (Sl Lfk v_g.Src)),(35,I (v_g.Src.length:Int)),(36,I (i5:Int))]) (fun s6=>[.box 32 (gy p),.box 115 (gt v_g)]) ⟨⟨E,E,E,E,E,tV⟩,[],E,.inl E⟩ (fun i5 x7 s6 y15 hx12 hlt hy13 hout14=>?_) (fun s6 hgo=>?_)
  ·refine gA 6 E<|Kdo E (dT (Int.ofNat_lt.2 hlt))<|gA 6 E<|eo_o E (Keg hΓ (enc:=Lfk) (Kdz hx12) E E E E E (fun _=>E))<|gO 1 E<|Kqn hΓ E E E Z<|Kqs hΓ E E E E E E E E Z<|Kfg [.box 32 (gy p),.box 115 (gt v_g),.box 146 (gm x7)] E<|bK hy13 fun y16 hy16 h17=>gO 7 E<|Kex C (Ljb hy16) E Z E E E E E<|gO 9 E<|jC E h17 (fun h18=>?_) fun h21=>gA 9 E<|jC E h21 (fun h22=>?_) fun h25=>?_
   ·refine gA 10 E<|bK h18 fun v19 hv19 h20=>?_
    cases h20
    obtain rfl:=hout14 _ rfl
    cases h9
    exact gA 4 E<|oSi hv19▸gP E E
   ·refine gA 8 E<|bK h22 fun v23 hv23 h24=>?_
    cases h24
    obtain rfl:=hout14 _ rfl
    cases h9
    exact gA 4 E<|oSi hv23▸gP E E
   refine gA 7 E ?_
   cases h25
   exact⟨_,E,⟨⟨E,E,E,E,Kcs E (Kcr (nLl hlt hb11)),tV⟩,[_],E,.inr ⟨HB.mk E,FB.mk E,Z⟩⟩⟩
  subst hgo
  exact gA 6 E<|Kdp E (dF (Int.lt_irrefl _))<|gA 4 E<|⟨_,E,⟨⟨E,E,tV⟩,[],E,.inl E⟩⟩
 intro a10 ha
 subst ha
 replace h9:=Khx h9
 refine gA 15 E<|bK h9 fun q29 hq29 h30=>Kef 51 E fun hb32=>Kic (R:=fun a31=>q29=.go a31) (fun a31=>[(3,.ptr 1 0),(8,B a31)]) (fun a31=>[.box 32 (gy p),.box 115 (gt v_g)]) ?_ ?_
 ·refine gA 1 E<|Kee v_g.Dst hq29 (fun i26 s27=>[(2,.ptr 0 0),(3,.ptr 1 0),(8,B s27),(51,.d (Sl Lfm v_g.Dst)),(52,I (v_g.Dst.length:Int)),(53,I (i26:Int))]) (fun s27=>[.box 32 (gy p),.box 115 (gt v_g)]) ⟨⟨E,E,E,E,E,E,tV⟩,[],E,.inl E⟩ (fun i26 x28 s27 y36 hx33 hlt hy34 hout35=>?_) (fun s27 hgo=>?_)
  ·refine gA 6 E<|Kdo E (dT (Int.ofNat_lt.2 hlt))<|gA 6 E<|eo_o E (Keg hΓ (enc:=Lfm) (Kdz hx33) E E E E E (fun _=>E))<|gO 1 E<|Kqn hΓ E E E Z<|Kqs hΓ E E E E E E E E Z<|Kfg [.box 32 (gy p),.box 115 (gt v_g),.box 150 (gp x28)] E<|bK hy34 fun y37 hy37 h38=>gO 8 E<|Kex C (Ljb hy37) E Z E E E E E<|gO 9 E<|Kdn E (fun hb=>?_) (fun hb=>?_)
   ·have h39:=cT h38 hb
    refine gA 10 E<|bK h39 fun v40 hv40 h41=>?_
    cases h41
    obtain rfl:=hout35 _ rfl
    cases h30
    exact gA 4 E<|oSi hv40▸gP E E
   have h42:=cF h38 hb
   refine bK h42 fun y43 hy43 h44=>gA 11 E<|Kex C (Lit hy43) E Z E E E E E<|gO 1 E<|Kdt 5 [(2,.ptr 0 0),(3,.ptr 1 0),(8,B s27),(10,.ptr 2 0),(51,.d (Sl Lfm v_g.Dst)),(52,I (v_g.Dst.length:Int)),(53,I (i26:Int)),(76,B (y43||(decide ((x28.Ports.To:Int)>65535))))] [.box 32 (gy p),.box 115 (gt v_g),.box 150 (gp x28)] ?_ ?_
   ·refine Kpg E E (fun hb=>?_) (fun hb=>?_)
    ·exact gO 6 E<|⟨⟨E,E,E,E,E,E,E,Kct E (or_t hb),tV⟩,[],E,.inl E⟩
    exact gO 6 E<|⟨⟨E,E,E,E,E,E,E,Kct E (or_f hb),tV⟩,[],E,.inl E⟩
   refine gO 2 E<|jC E h44 (fun h45=>?_) fun h48=>gA 2 E<|jD<|gA 2 E<|bK h48 fun q49 hq49 h50=>Kfx 5 [(2,.ptr 0 0),(3,.ptr 1 0),(8,B s27),(51,.d (Sl Lfm v_g.Dst)),(52,I (v_g.Dst.length:Int)),(53,I (i26:Int)),(83,B q49)] E ?_ ?_
   ·refine gA 9 E<|bK h45 fun v46 hv46 h47=>?_
    cases h47
    obtain rfl:=hout35 _ rfl
    cases h30
    exact gA 4 E<|oSi hv46▸gP E E
   ·refine Kbx E E (fun hb=>?_) (fun hb=>?_)
    ·have h51:=cT hq49 hb
     exact bK h51 fun y52 hy52 h53=>Kdl hΓ 2 E<|Kfa C (Ljc hy52) E E E E E E E<|Kcu E E (Kfz hΓ [148] (b:=(((x28.Ports.From:Int)==y52.From)&&(((x28.Ports.To:Int)==y52.To)&&true))) (by kernel_rfl) (by kernel_rfl) E E E)<|Kdl hΓ 2 E<|oSi h53▸⟨⟨E,E,E,E,E,E,E,tV⟩,[],E,.inl E⟩
    have h54:=cF hq49 hb
    exact Kdl hΓ 6 E<|oSi h54▸⟨⟨E,E,E,E,E,E,E,tV⟩,[],E,.inl E⟩
   refine Kdl hΓ 8 E ?_
   cases h50
   exact⟨_,E,⟨⟨E,E,E,E,E,Kcs E (Kcr (nLl hlt hb32)),tV⟩,[_],E,.inr ⟨HB.mk E,FB.mk E,Z⟩⟩⟩
  subst hgo
  exact gA 6 E<|Kdp E (dF (Int.lt_irrefl _))<|gA 4 E<|⟨_,E,⟨⟨E,E,tV⟩,[],E,.inl E⟩⟩
 intro a31 ha
 subst ha
 replace h30:=Khx h30
 refine bK h30 fun y55 hy55 h56=>gA 6 E<|Kex C (Lit hy55) E Z E E E E E<|gO 2 E<|Kdn E (fun hb=>?_) (fun hb=>?_)
 ·have h57:=cT h56 hb
  exact gA 7 E<|oSi h57▸gP E E
 have h58:=cF h56 hb
 refine gA 9 E<|bK h58 fun q59 hq59 h60=>Kdt 5 [(3,.ptr 1 0),(8,B a31),(96,B q59)] [.box 32 (gy p),.box 115 (gt v_g)] ?_ ?_
 ·refine Kpg E E (fun hb=>?_) (fun hb=>?_)
  ·have h61:=cT hq59 hb
   exact bK h61 fun y62 hy62 h63=>gO 2 E<|Kpe E<|Kex C (Ljd hy62) E Z E E E E E<|gO 3 E<|oSi h63▸⟨⟨E,E,E,tV⟩,[],E,.inl E⟩
  have h64:=cF hq59 hb
  exact gO 6 E<|oSi h64▸⟨⟨E,E,E,tV⟩,[],E,.inl E⟩
 refine gO 1 E<|Kdt 3 [(3,.ptr 1 0),(100,B (q59&&(!a31)))] [.box 32 (gy p),.box 115 (gt v_g)] ?_ ?_
 ·refine Kpg E E (fun hb=>?_) (fun hb=>?_)
  ·exact gO 4 E<|⟨⟨E,Kct E (Kft hb),tV⟩,[],E,.inl E⟩
  exact gO 4 E<|⟨⟨E,Kct E (Kfu hb),tV⟩,[],E,.inl E⟩
 refine gO 2 E<|jC E h60 (fun h65=>?_) fun h66=>bK h66 fun y67 hy67 h68=>gA 7 E<|Kex C (Lje hy67) E Z E E E E E<|gO 9 E<|jC E h68 (fun h69=>?_) fun h70=>?_
 ·exact gA 7 E<|oSi h65▸gP E E
 ·exact gA 8 E<|oSi h69▸gP E E
 refine gA 11 E<|jC E h70 (fun h71=>?_) fun h72=>gA 8 E<|oSi h72▸gP E E
 exact gA 7 E<|oSi h71▸gP E E
end Go.Proofs.YtcihhlhmkcaeeaaGreatDoor
