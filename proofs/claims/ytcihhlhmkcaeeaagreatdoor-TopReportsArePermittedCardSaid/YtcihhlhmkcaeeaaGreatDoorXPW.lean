import Derived.Test.YtcihhlhmkcaeeaaGreatDoorXPM
import Derived.Test.YtcihhlhmkcaeeaaGreatDoorGt
import Derived.Test.YtcihhlhmkcaeeaaGreatDoorStr
import Derived.Test.YtcihhlhmkcaeeaaGreatDoorStrC
import Derived.Test.YtcihhlhmkcaeeaaGreatDoorStrJ
import Derived.Test.YtcihhlhmkcaeeaaGreatDoorStr4
import Derived.Test.YtcihhlhmkcaeeaaGreatDoorStrSS
import Derived.Test.YtcihhlhmkcaeeaaGreatDoorStrB
import Derived.Test.YtcihhlhmkcaeeaaGreatDoorSoW
import Derived.Test.YtcihhlhmkcaeeaaGreatDoorGk49
import Derived.Test.YtcihhlhmkcaeeaaGreatDoorGk66
import Derived.Test.YtcihhlhmkcaeeaaGreatDoorGk68
import Derived.Test.YtcihhlhmkcaeeaaGreatDoorGk70
import Derived.Test.YtcihhlhmkcaeeaaGreatDoorGk53
import Derived.Test.YtcihhlhmkcaeeaaGreatDoorGk57
import Derived.Test.YtcihhlhmkcaeeaaGreatDoorSoLays
import Derived.Test.YtcihhlhmkcaeeaaGreatDoorXPW4
set_option maxHeartbeats 8000000
set_option linter.all false
set_option maxRecDepth 100000
namespace Go.Proofs.YtcihhlhmkcaeeaaGreatDoor
open Go.Gk
theorem Les{k:Nat}{text:Str}{r:Kxn×Int×Int}(h:Leg k text=some r):Pure Tryz.prog 35 [S text] (.tup [.agg (gy r.1),I r.2.1,I r.2.2]):=by
 unfold Leg at h
 refine QP Tryz.func35 E E E<|gA 2 E<|Kqn hΓ E E E Z<|gO 12 E<|Kdn E (fun hb=>?_) (fun hb=>?_)
 ·have h1:=cT h hb
  exact gA 2 E<|eo_s Z (nblt.1 E) (Kiy 118 10 3 (Kiy 115 4 2 (Kiy 111 5 1 (Kiy 109 2 0 (OpP.s (Kiw hΓ [0,1,2,3] (gs:=[.d (.v (.slice none 0 0)),.d (.v (.slice none 0 0)),.d (.v (.slice none 0 0)),.d (.v (.slice none 0 0))]) E E E E E E)) E) E) E) E)<|Kfd 1 [14] _ [Qn,.dead,Qxb ([]:List Kxg),QS,QJ] E E E Z<|Kfd 2 [14] _ [Qn,.dead,.dead,QS,QJ] E E E Z<|Kfd 3 [14] _ [Qn,.dead,.dead,.dead,QJ] E E E Z<|Kfd 4 [14] _ [Qn,.dead,.dead,.dead,.dead] E E E Z<|Kqs hΓ E E E E E E E E Z<|Kfg [Qi,.dead,.dead,.dead,.dead] E<|gO 6 E<|oSi h1▸gP E E
 have h2:=cF h hb
 refine bK h2 fun y3 hy3 h4=>gA 5 E<|Kex C (Lme hy3) E Z E E E E E<|gO 9 E<|eo_s Z (nblt.1 E) (Kiy 118 10 3 (Kiy 115 4 2 (Kiy 111 5 1 (Kiy 109 2 0 (OpP.s (Kiw hΓ [0,1,2,3] (gs:=[.d (.v (.slice none 0 0)),.d (.v (.slice none 0 0)),.d (.v (.slice none 0 0)),.d (.v (.slice none 0 0)),I 0]) E E E E E E)) E) E) E) E)<|Kqo E E E E Z<|gO 11 E<|bK h4 fun q8 hq8 h9=>Kef 5 E fun hb11=>Kic (R:=fun a10=>q8=.go a10) (fun a10=>[(2,.ptr 0 0),(7,.ptr 5 0)]) (fun a10=>[Qn,Qwb a10.1,Qxb a10.2.1,Qfb a10.2.2.1,Qgb a10.2.2.2.1,.box 158 [.sl 1 a10.1.length,.sl 2 a10.2.1.length,.sl 3 a10.2.2.1.length,.sl 4 a10.2.2.2.1.length,I a10.2.2.2.2]]) ?_ ?_
 ·refine gA 1 E<|Kee y3.1 hq8 (fun i5 s6=>[(2,.ptr 0 0),(5,.d (Sl eS y3.1)),(6,B y3.2),(7,.ptr 5 0),(22,.d (Sl eS y3.1)),(23,I (y3.1.length:Int)),(24,I (i5:Int))]) (fun s6=>[Qn,Qwb s6.1,Qxb s6.2.1,Qfb s6.2.2.1,Qgb s6.2.2.2.1,.box 158 [.sl 1 s6.1.length,.sl 2 s6.2.1.length,.sl 3 s6.2.2.1.length,.sl 4 s6.2.2.2.1.length,I s6.2.2.2.2]]) ⟨⟨E,E,E,E,E,E,E,tV⟩,[],E,.inl E⟩ (fun i5 x7 s6 y15 hx12 hlt hy13 hout14=>?_) (fun s6 hgo=>?_)
  ·refine gA 6 E<|Kdo E (dT (Int.ofNat_lt.2 hlt))<|gA 7 E<|eo_o E (Keg hΓ (enc:=eS) (Kdz hx12) E E E E E (fun _=>E))<|bK hy13 fun y16 hy16 h17=>gO 9 E<|Kew [1,2,3,4,5] (B y16.1) [Qn,.dead,.dead,.dead,.dead,.box 158 [.sl 6 y16.2.p.Groups.length,.sl 7 y16.2.p.Hosts.length,.sl 8 y16.2.p.Grants.length,.sl 9 y16.2.p.Tests.length,I y16.2.kind],Qwb y16.2.p.Groups,Qxb y16.2.p.Hosts,Qfb y16.2.p.Grants,Qgb y16.2.p.Tests] C (Lmk hy16) E Z E E E E E E E E E E<|gO 2 E<|Kdt 10 [(2,.ptr 0 0),(5,.d (Sl eS y3.1)),(6,B y3.2),(7,.ptr 5 0),(8,I (i5:Int)),(22,.d (Sl eS y3.1)),(23,I (y3.1.length:Int)),(24,I (i5:Int)),(43,B ((!y16.1)||((!y3.2)&&(((i5:Int):Int)==(wi ((y3.1.length:Int) - 1))))))] [Qn,Qwb y16.2.p.Groups,Qxb y16.2.p.Hosts,Qfb y16.2.p.Grants,Qgb y16.2.p.Tests,.box 158 [.sl 1 y16.2.p.Groups.length,.sl 2 y16.2.p.Hosts.length,.sl 3 y16.2.p.Grants.length,.sl 4 y16.2.p.Tests.length,I y16.2.kind],.dead,.dead,.dead,.dead] ?_ ?_
   ·refine Kpg E E (fun hb=>?_) (fun hb=>?_)
    ·exact gO 10 E<|Kgv 6 1 [Qn,Qwb y16.2.p.Groups,.dead,.dead,.dead,.box 158 [.sl 1 y16.2.p.Groups.length,.sl 7 y16.2.p.Hosts.length,.sl 8 y16.2.p.Grants.length,.sl 9 y16.2.p.Tests.length,I y16.2.kind],.dead,Qxb y16.2.p.Hosts,Qfb y16.2.p.Grants,Qgb y16.2.p.Tests] E E E E E E<|Kgv 7 2 [Qn,Qwb y16.2.p.Groups,Qxb y16.2.p.Hosts,.dead,.dead,.box 158 [.sl 1 y16.2.p.Groups.length,.sl 2 y16.2.p.Hosts.length,.sl 8 y16.2.p.Grants.length,.sl 9 y16.2.p.Tests.length,I y16.2.kind],.dead,.dead,Qfb y16.2.p.Grants,Qgb y16.2.p.Tests] E E E E E E<|Kgv 8 3 [Qn,Qwb y16.2.p.Groups,Qxb y16.2.p.Hosts,Qfb y16.2.p.Grants,.dead,.box 158 [.sl 1 y16.2.p.Groups.length,.sl 2 y16.2.p.Hosts.length,.sl 3 y16.2.p.Grants.length,.sl 9 y16.2.p.Tests.length,I y16.2.kind],.dead,.dead,.dead,Qgb y16.2.p.Tests] E E E E E E<|Kgv 9 4 [Qn,Qwb y16.2.p.Groups,Qxb y16.2.p.Hosts,Qfb y16.2.p.Grants,Qgb y16.2.p.Tests,.box 158 [.sl 1 y16.2.p.Groups.length,.sl 2 y16.2.p.Hosts.length,.sl 3 y16.2.p.Grants.length,.sl 4 y16.2.p.Tests.length,I y16.2.kind],.dead,.dead,.dead,.dead] E E E E E E<|gO 1 E<|⟨⟨E,E,E,E,E,E,E,E,Kct E (or_t hb),tV⟩,[],E,.inl E⟩
    refine gO 3 E<|Kdt 6 [(2,.ptr 0 0),(5,.d (Sl eS y3.1)),(6,B y3.2),(7,.ptr 5 0),(8,I (i5:Int)),(22,.d (Sl eS y3.1)),(23,I (y3.1.length:Int)),(24,I (i5:Int)),(33,B false),(42,B ((!y3.2)&&(((i5:Int):Int)==(wi ((y3.1.length:Int) - 1)))))] [Qn,Qwb y16.2.p.Groups,Qxb y16.2.p.Hosts,Qfb y16.2.p.Grants,Qgb y16.2.p.Tests,.box 158 [.sl 1 y16.2.p.Groups.length,.sl 2 y16.2.p.Hosts.length,.sl 3 y16.2.p.Grants.length,.sl 4 y16.2.p.Tests.length,I y16.2.kind],.dead,.dead,.dead,.dead] ?_ ?_
    ·refine Kpg E E (fun hb=>?_) (fun hb=>?_)
     ·exact gO 6 E<|Kgv 6 1 [Qn,Qwb y16.2.p.Groups,.dead,.dead,.dead,.box 158 [.sl 1 y16.2.p.Groups.length,.sl 7 y16.2.p.Hosts.length,.sl 8 y16.2.p.Grants.length,.sl 9 y16.2.p.Tests.length,I y16.2.kind],.dead,Qxb y16.2.p.Hosts,Qfb y16.2.p.Grants,Qgb y16.2.p.Tests] E E E E E E<|Kgv 7 2 [Qn,Qwb y16.2.p.Groups,Qxb y16.2.p.Hosts,.dead,.dead,.box 158 [.sl 1 y16.2.p.Groups.length,.sl 2 y16.2.p.Hosts.length,.sl 8 y16.2.p.Grants.length,.sl 9 y16.2.p.Tests.length,I y16.2.kind],.dead,.dead,Qfb y16.2.p.Grants,Qgb y16.2.p.Tests] E E E E E E<|Kgv 8 3 [Qn,Qwb y16.2.p.Groups,Qxb y16.2.p.Hosts,Qfb y16.2.p.Grants,.dead,.box 158 [.sl 1 y16.2.p.Groups.length,.sl 2 y16.2.p.Hosts.length,.sl 3 y16.2.p.Grants.length,.sl 9 y16.2.p.Tests.length,I y16.2.kind],.dead,.dead,.dead,Qgb y16.2.p.Tests] E E E E E E<|Kgv 9 4 [Qn,Qwb y16.2.p.Groups,Qxb y16.2.p.Hosts,Qfb y16.2.p.Grants,Qgb y16.2.p.Tests,.box 158 [.sl 1 y16.2.p.Groups.length,.sl 2 y16.2.p.Hosts.length,.sl 3 y16.2.p.Grants.length,.sl 4 y16.2.p.Tests.length,I y16.2.kind],.dead,.dead,.dead,.dead] E E E E E E<|gO 1 E<|⟨⟨E,E,E,E,E,E,E,E,E,Kct E (Kft hb),tV⟩,[],E,.inl E⟩
     exact gO 6 E<|Kgv 6 1 [Qn,Qwb y16.2.p.Groups,.dead,.dead,.dead,.box 158 [.sl 1 y16.2.p.Groups.length,.sl 7 y16.2.p.Hosts.length,.sl 8 y16.2.p.Grants.length,.sl 9 y16.2.p.Tests.length,I y16.2.kind],.dead,Qxb y16.2.p.Hosts,Qfb y16.2.p.Grants,Qgb y16.2.p.Tests] E E E E E E<|Kgv 7 2 [Qn,Qwb y16.2.p.Groups,Qxb y16.2.p.Hosts,.dead,.dead,.box 158 [.sl 1 y16.2.p.Groups.length,.sl 2 y16.2.p.Hosts.length,.sl 8 y16.2.p.Grants.length,.sl 9 y16.2.p.Tests.length,I y16.2.kind],.dead,.dead,Qfb y16.2.p.Grants,Qgb y16.2.p.Tests] E E E E E E<|Kgv 8 3 [Qn,Qwb y16.2.p.Groups,Qxb y16.2.p.Hosts,Qfb y16.2.p.Grants,.dead,.box 158 [.sl 1 y16.2.p.Groups.length,.sl 2 y16.2.p.Hosts.length,.sl 3 y16.2.p.Grants.length,.sl 9 y16.2.p.Tests.length,I y16.2.kind],.dead,.dead,.dead,Qgb y16.2.p.Tests] E E E E E E<|Kgv 9 4 [Qn,Qwb y16.2.p.Groups,Qxb y16.2.p.Hosts,Qfb y16.2.p.Grants,Qgb y16.2.p.Tests,.box 158 [.sl 1 y16.2.p.Groups.length,.sl 2 y16.2.p.Hosts.length,.sl 3 y16.2.p.Grants.length,.sl 4 y16.2.p.Tests.length,I y16.2.kind],.dead,.dead,.dead,.dead] E E E E E E<|gO 1 E<|⟨⟨E,E,E,E,E,E,E,E,E,Kct E (Kfu hb),tV⟩,[],E,.inl E⟩
    exact gO 1 E<|gO 1 E<|⟨⟨E,E,E,E,E,E,E,E,Kct E (or_f hb),tV⟩,[],E,.inl E⟩
   refine gO 2 E<|jC E h17 (fun h18=>?_) fun h21=>gA 7 E ?_
   ·refine gA 2 E<|eo_s Z (nblt.1 E) (Kiy 118 10 3 (Kiy 115 4 2 (Kiy 111 5 1 (Kiy 109 2 0 (OpP.s (Kiw hΓ [0,1,2,3] (gs:=[.d (.v (.slice none 0 0)),.d (.v (.slice none 0 0)),.d (.v (.slice none 0 0)),.d (.v (.slice none 0 0))]) E E E E E E)) E) E) E) E)<|gO 1 E<|Kfd 10 [44] _ [Qn,Qwb y16.2.p.Groups,Qxb y16.2.p.Hosts,Qfb y16.2.p.Grants,Qgb y16.2.p.Tests,.box 158 [.sl 1 y16.2.p.Groups.length,.sl 2 y16.2.p.Hosts.length,.sl 3 y16.2.p.Grants.length,.sl 4 y16.2.p.Tests.length,I y16.2.kind],.dead,.dead,.dead,.dead,.dead,Qxb ([]:List Kxg),QS,QJ] E E E Z<|Kfd 11 [44] _ [Qn,Qwb y16.2.p.Groups,Qxb y16.2.p.Hosts,Qfb y16.2.p.Grants,Qgb y16.2.p.Tests,.box 158 [.sl 1 y16.2.p.Groups.length,.sl 2 y16.2.p.Hosts.length,.sl 3 y16.2.p.Grants.length,.sl 4 y16.2.p.Tests.length,I y16.2.kind],.dead,.dead,.dead,.dead,.dead,.dead,QS,QJ] E E E Z<|Kfd 12 [44] _ [Qn,Qwb y16.2.p.Groups,Qxb y16.2.p.Hosts,Qfb y16.2.p.Grants,Qgb y16.2.p.Tests,.box 158 [.sl 1 y16.2.p.Groups.length,.sl 2 y16.2.p.Hosts.length,.sl 3 y16.2.p.Grants.length,.sl 4 y16.2.p.Tests.length,I y16.2.kind],.dead,.dead,.dead,.dead,.dead,.dead,.dead,QJ] E E E Z<|Kfd 13 [44] _ [Qn,Qwb y16.2.p.Groups,Qxb y16.2.p.Hosts,Qfb y16.2.p.Grants,Qgb y16.2.p.Tests,.box 158 [.sl 1 y16.2.p.Groups.length,.sl 2 y16.2.p.Hosts.length,.sl 3 y16.2.p.Grants.length,.sl 4 y16.2.p.Tests.length,I y16.2.kind],.dead,.dead,.dead,.dead,.dead,.dead,.dead,.dead] E E E Z<|Kqs hΓ E E E E E E E E Z<|Kfg [Qi,Qwb y16.2.p.Groups,Qxb y16.2.p.Hosts,Qfb y16.2.p.Grants,Qgb y16.2.p.Tests,.box 158 [.sl 1 y16.2.p.Groups.length,.sl 2 y16.2.p.Hosts.length,.sl 3 y16.2.p.Grants.length,.sl 4 y16.2.p.Tests.length,I y16.2.kind],.dead,.dead,.dead,.dead,.dead,.dead,.dead,.dead] E<|gO 7 E<|bK h18 fun v19 hv19 h20=>?_
    cases h20
    obtain rfl:=hout14 _ rfl
    cases h9
    exact gA 4 E<|oSi hv19▸gP E E
   cases h21
   exact⟨_,E,⟨⟨E,E,E,E,E,E,Kcs E (Kcr (nLl hlt hb11)),tV⟩,[_,_,_,_],E,.inr ⟨HB.mk E,FB.mk E,Z⟩⟩⟩
  subst hgo
  exact gA 6 E<|Kdp E (dF (Int.lt_irrefl _))<|gA 4 E<|⟨_,E,⟨⟨E,E,tV⟩,[],E,.inl E⟩⟩
 intro a10 ha
 subst ha
 replace h9:=Khx h9
 refine gA 8 E<|Kfd 1 [50] _ [Qn,.dead,Qxb a10.2.1,Qfb a10.2.2.1,Qgb a10.2.2.2.1,.box 158 [.d (Sl Lfg a10.1),.sl 2 a10.2.1.length,.sl 3 a10.2.2.1.length,.sl 4 a10.2.2.2.1.length,I a10.2.2.2.2]] E E E Z<|Kfd 2 [50] _ [Qn,.dead,.dead,Qfb a10.2.2.1,Qgb a10.2.2.2.1,.box 158 [.d (Sl Lfg a10.1),.d (Sl Lfj a10.2.1),.sl 3 a10.2.2.1.length,.sl 4 a10.2.2.2.1.length,I a10.2.2.2.2]] E E E Z<|Kfd 3 [50] _ [Qn,.dead,.dead,.dead,Qgb a10.2.2.2.1,.box 158 [.d (Sl Lfg a10.1),.d (Sl Lfj a10.2.1),.d (Sl Lfn a10.2.2.1),.sl 4 a10.2.2.2.1.length,I a10.2.2.2.2]] E E E Z<|Kfd 4 [50] _ [Qn,.dead,.dead,.dead,.dead,.box 158 [.d (Sl Lfg a10.1),.d (Sl Lfj a10.2.1),.d (Sl Lfn a10.2.2.1),.d (Sl Lfp a10.2.2.2.1),I a10.2.2.2.2]] E E E Z<|bK h9 fun y22 hy22 h23=>Kex C (Ljh hy22) E Z E E E E E<|gO 9 E<|jC E h23 (fun h24=>?_) fun h25=>gA 8 E<|Kqs hΓ E E E E E E E E Z<|Kfg [.box 32 [.d (Sl Lfg a10.1),.d (Sl Lfj a10.2.1),.d (Sl Lfn a10.2.2.1),.d (Sl Lfp a10.2.2.2.1)],.dead,.dead,.dead,.dead,.box 158 [.d (Sl Lfg a10.1),.d (Sl Lfj a10.2.1),.d (Sl Lfn a10.2.2.1),.d (Sl Lfp a10.2.2.2.1),I a10.2.2.2.2]] E<|gO 5 E<|oSi h25▸gP E E
 exact gA 2 E<|eo_s Z (nblt.1 E) (Kiy 118 10 3 (Kiy 115 4 2 (Kiy 111 5 1 (Kiy 109 2 0 (OpP.s (Kiw hΓ [0,1,2,3] (gs:=[.d (.v (.slice none 0 0)),.d (.v (.slice none 0 0)),.d (.v (.slice none 0 0)),.d (.v (.slice none 0 0))]) E E E E E E)) E) E) E) E)<|gO 1 E<|Kfd 6 [54] _ [Qn,.dead,.dead,.dead,.dead,.box 158 [.d (Sl Lfg a10.1),.d (Sl Lfj a10.2.1),.d (Sl Lfn a10.2.2.1),.d (Sl Lfp a10.2.2.2.1),I a10.2.2.2.2],.dead,Qxb ([]:List Kxg),QS,QJ] E E E Z<|Kfd 7 [54] _ [Qn,.dead,.dead,.dead,.dead,.box 158 [.d (Sl Lfg a10.1),.d (Sl Lfj a10.2.1),.d (Sl Lfn a10.2.2.1),.d (Sl Lfp a10.2.2.2.1),I a10.2.2.2.2],.dead,.dead,QS,QJ] E E E Z<|Kfd 8 [54] _ [Qn,.dead,.dead,.dead,.dead,.box 158 [.d (Sl Lfg a10.1),.d (Sl Lfj a10.2.1),.d (Sl Lfn a10.2.2.1),.d (Sl Lfp a10.2.2.2.1),I a10.2.2.2.2],.dead,.dead,.dead,QJ] E E E Z<|Kfd 9 [54] _ [Qn,.dead,.dead,.dead,.dead,.box 158 [.d (Sl Lfg a10.1),.d (Sl Lfj a10.2.1),.d (Sl Lfn a10.2.2.1),.d (Sl Lfp a10.2.2.2.1),I a10.2.2.2.2],.dead,.dead,.dead,.dead] E E E Z<|Kqs hΓ E E E E E E E E Z<|Kfg [Qi,.dead,.dead,.dead,.dead,.box 158 [.d (Sl Lfg a10.1),.d (Sl Lfj a10.2.1),.d (Sl Lfn a10.2.2.1),.d (Sl Lfp a10.2.2.2.1),I a10.2.2.2.2],.dead,.dead,.dead,.dead] E<|gO 6 E<|oSi h24▸gP E E
theorem Let{k:Nat}{b:List Int}{r:Int}(h:Leh k b=some r):Pure Tryz.prog 36 [.d (Sl (eN .u8) b)] (I r):=by
 unfold Leh at h
 refine QP Tryz.func36 E E E<|gA 18 E<|bK h fun q4 hq4 h5=>Kef 6 E fun hb7=>Kid [(3,I q4)] [] ?_ ?_
 ·refine gA 1 E<|Kfp b hq4 (fun i1 s2=>[(3,I s2),(6,.d (Sl (eN .u8) b)),(7,I (b.length:Int)),(8,I (i1:Int))]) (fun s2=>[]) ⟨⟨E,E,E,E,tV⟩,[],E,.inl E⟩ (fun i1 x3 s2 y11 hx8 hlt hy9=>?_) (?_)
  ·refine gA 6 E<|Kdo E (dT (Int.ofNat_lt.2 hlt))<|gA 7 E<|eo_o E (Keg hΓ (enc:=(eN .u8)) (Kdz hx8) E E E E E (fun _=>E))<|bK hy9 fun y12 hy12 h13=>gO 8 E<|eo_o E (Kfl hy12 E E)<|gO 3 E<|jC E h13 (fun h14=>?_) fun h15=>gA 13 E ?_
   ·refine gA 14 E ?_
    cases h14
    exact⟨⟨E,E,E,Kcs E (Kcr (nLl hlt hb7)),tV⟩,[],E,.inl E⟩
   cases h15
   exact⟨⟨E,E,E,Kcs E (Kcr (nLl hlt hb7)),tV⟩,[],E,.inl E⟩
  exact gA 6 E<|Kdp E (dF (Int.lt_irrefl _))<|gA 4 E<|⟨⟨E,tV⟩,[],E,.inl E⟩
 refine gA 2 E<|bK h5 fun q19 hq19 h20=>Kid [(3,I q19)] [] ?_ ?_
 ·refine gA 1 E<|Kec hq19 (fun s17=>[(3,I s17)]) (fun s17=>[]) ⟨⟨E,tV⟩,[],E,.inl E⟩ (fun s17 y25 hy23 hout24=>?_)
  refine gA 7 E<|jC E hy23 (fun h26=>?_) fun h27=>gA 4 E ?_
  ·exact gA 12 E<|oSi h26▸⟨_,E,⟨⟨E,tV⟩,[],E,.inl E⟩⟩
  cases h27
  obtain rfl:=hout24 _ rfl
  exact⟨⟨E,tV⟩,[],E,.inl E⟩
 exact gA 9 E<|oSi h20▸gP E E
theorem Leu{k:Nat}{r:Bool}(h:Lei k=some r):Pure Tryz.prog 8 [] (B r):=by
 unfold Lei at h
 refine QP Tryz.func8 E E E<|gA 7 E<|Kbn hΓ (gs:=[B false,U 0,U 1]) E E E E E E E<|bK h fun y1 hy1 h2=>Kex C (Lmd hy1) E Z E E E E E<|bK h2 fun y3 hy3 h4=>gO 9 E<|Kex C (Les hy3) E Z E E E E E<|gO 4 E<|Kqn hΓ E E E Z<|Kqs hΓ E E E E E E E E Z<|Kfg [.box 32 (gy y3.1)] E<|gO 9 E<|Kdt 3 [(0,B false),(3,.ptr 0 0),(5,I y3.2.2),(21,B (((y1.2:Int)==0)&&((y1.1:Str)==[48,46,48,46,48,46,49])))] [.box 32 (gy y3.1)] ?_ ?_
 ·refine Kpg E E (fun hb=>?_) (fun hb=>?_)
  ·exact gO 4 E<|⟨⟨E,E,E,Kct E (Kft hb),tV⟩,[],E,.inl E⟩
  exact gO 4 E<|⟨⟨E,E,E,Kct E (Kfu hb),tV⟩,[],E,.inl E⟩
 refine gO 1 E<|Kdt 3 [(0,B false),(3,.ptr 0 0),(25,B ((((y1.2:Int)==0)&&((y1.1:Str)==[48,46,48,46,48,46,49]))&&((y3.2.2:Int)==0)))] [.box 32 (gy y3.1)] ?_ ?_
 ·refine Kpg E E (fun hb=>?_) (fun hb=>?_)
  ·exact gO 4 E<|⟨⟨E,E,Kct E (Kft hb),tV⟩,[],E,.inl E⟩
  exact gO 4 E<|⟨⟨E,E,Kct E (Kfu hb),tV⟩,[],E,.inl E⟩
 refine gO 1 E<|Kdt 5 [(0,B false),(31,B (((((y1.2:Int)==0)&&((y1.1:Str)==[48,46,48,46,48,46,49]))&&((y3.2.2:Int)==0))&&(((y3.1.Grants.length:Int):Int)==1)))] [.box 32 (gy y3.1)] ?_ ?_
 ·refine Kpg E E (fun hb=>?_) (fun hb=>?_)
  ·exact gO 6 E<|⟨⟨E,Kct E (Kft hb),tV⟩,[],E,.inl E⟩
  exact gO 6 E<|⟨⟨E,Kct E (Kfu hb),tV⟩,[],E,.inl E⟩
 refine gO 1 E<|bK h4 fun q5 hq5 h6=>Kdt 4 [(0,B false),(36,B q5)] [.box 32 (gy y3.1)] ?_ ?_
 ·refine Kpg E E (fun hb=>?_) (fun hb=>?_)
  ·have h7:=cT hq5 hb
   exact Kpe E<|Ker hΓ (enc:=(eN .u8)) [0,1] E E E E E E E E E E E E Z<|bK h7 fun y8 hy8 h9=>Kpe E<|Kex C (Let hy8) E Z E E E E E<|gO 3 E<|oSi h9▸⟨⟨E,E,tV⟩,[],E,.inl E⟩
  have h10:=cF hq5 hb
  exact gO 5 E<|oSi h10▸⟨⟨E,E,tV⟩,[],E,.inl E⟩
 exact gO 4 E<|oSi h6▸gP E E
theorem Lev{f:Kxl}{r:Kxl}(h:Lej f=some r):Pure Tryz.prog 38 [.agg (gu f)] (.agg (gu r)):=by
 unfold Lej at h
 exact QP Tryz.func38 E E E<|gA 2 E<|Kqo E E E E Z<|Kqn hΓ E E E Z<|gO 13 E<|Kqs hΓ E E E E E E E E Z<|Kfg [.box 48 [I f.Proto,B f.To.Six,U f.To.Hi,U f.To.Lo,B f.To.Six,U f.To.Hi,U f.To.Lo,I f.FromPort,I f.ToPort],Qp] E<|gO 1 E<|Kqs hΓ E E E E E E E E Z<|Kfg [.box 48 [I f.Proto,B f.To.Six,U f.To.Hi,U f.To.Lo,B f.From.Six,U f.From.Hi,U f.From.Lo,I f.FromPort,I f.ToPort],Qp] E<|gO 1 E<|Kqs hΓ E E E E E E E E Z<|Kfg [.box 48 [I f.Proto,B f.To.Six,U f.To.Hi,U f.To.Lo,B f.From.Six,U f.From.Hi,U f.From.Lo,I f.ToPort,I f.ToPort],Qp] E<|gO 1 E<|Kqs hΓ E E E E E E E E Z<|Kfg [Qj f,Qp] E<|gO 5 E<|Kqs hΓ E E E E E E E E Z<|Kfg [Qj f,Qj f] E<|gO 3 E<|oSi h▸gP E E
theorem Lew{k:Nat}{f:Kxl}{r:Kxl×Int}(h:Lek k f=some r):Pure Tryz.prog 9 [.agg (gu f)] (.tup [.agg (gu r.1),I r.2]):=by
 unfold Lek at h
 refine QP Tryz.func9 E E E<|gA 2 E<|Kqo E E E E Z<|Kqn hΓ E E E Z<|bK h fun y1 hy1 h2=>gO 7 E<|Kex C (Ljg hy1) E Z E E E E E<|gO 9 E<|jC E h2 (fun h3=>?_) fun h4=>bK h4 fun y5 hy5 h6=>gA 5 E<|Kex C (Lev hy5) E Z E E E E E<|Kqs hΓ E E E E E E E E Z<|Kfg [.box 48 (gu f),.box 48 (gu y5)] E<|gO 4 E<|oSi h6▸gP E E
 exact gA 2 E<|Kbn hΓ (gs:=[I 0,B false,U 0,U 0,B false,U 0,U 0,I 0,I 0]) E E E E E E E<|gO 1 E<|Kqs hΓ E E E E E E E E Z<|Kfg [.box 48 (gu f),Qp] E<|gO 5 E<|oSi h3▸gP E E
theorem Lex{k:Nat}{s:Kxq}{f:Kxl}{al:List Bool}{r2:Int}{r3:List Bool}(h:Lel k s f al=some (none,r2,r3)):EC Tryz.prog 39 [.agg (gD s),.agg (gu f)] [.bag al [] []] fun g hp'=>g=.tup [.d (.v (.pointer none)),I r2]∧hp'=[.bag r3 [] []]:=by
 unfold Lel at h
 refine QM Tryz.func39 E Z<|gA 2 E<|Kqo E E E E Z<|Kqo E E E E Z<|bK h fun y1 hy1 h2=>gO 8 E<|Kex C (Ljo hy1) E Z E E E E E<|gO 9 E<|jC E h2 (fun h3=>?_) fun h4=>bK h4 fun y5 hy5 h6=>gA 6 E<|Kex C (Ljg hy5) E Z E E E E E<|gO 9 E<|jC E h6 (fun h7=>?_) fun h8=>?_
 ·refine gA 9 E<|Khz ?_
  cases h3
  exact Kfn hΓ [_,_] (.inr E) E E E E (.inr ⟨HB.mk E,E⟩)
 ·refine gA 9 E<|Khz ?_
  cases h7
  exact Kfn hΓ [_,_] (.inr E) E E E E (.inr ⟨HB.mk E,E⟩)
 refine bK h8 fun y9 hy9 h10=>gA 5 E<|Kew [0] (.ptr 8 0) [.bag y9.2 [] [],.box 35 (gD s),.box 48 (gu f),Qpb y9.1.owners,Qqb y9.1.meets,Qrb y9.1.src,Qsb y9.1.dst,Qtb y9.1.own,.box 139 [.d (Sl Lfr y9.1.s.Nodes),.d (Sl Lfg y9.1.s.Policy.Groups),.d (Sl Lfj y9.1.s.Policy.Hosts),.d (Sl Lfn y9.1.s.Policy.Grants),.d (Sl Lfp y9.1.s.Policy.Tests),.d (Sl Lfs y9.1.s.Facts),.map 3,.map 4,.sl 5 y9.1.src.length,.sl 6 y9.1.dst.length,.map 7]] C (Llo hy9) E Z E E E E E E E E E E<|gO 5 E<|Kki 1 [.bag y9.2 [] [],.dead,.box 48 (gu f),Qpb y9.1.owners,Qqb y9.1.meets,Qrb y9.1.src,Qsb y9.1.dst,Qtb y9.1.own,.box 139 [.d (Sl Lfr y9.1.s.Nodes),.d (Sl Lfg y9.1.s.Policy.Groups),.d (Sl Lfj y9.1.s.Policy.Hosts),.d (Sl Lfn y9.1.s.Policy.Grants),.d (Sl Lfp y9.1.s.Policy.Tests),.d (Sl Lfs y9.1.s.Facts),.map 3,.map 4,.sl 5 y9.1.src.length,.sl 6 y9.1.dst.length,.map 7]] E Z<|Kib 3 1 [.bag y9.2 [] [],Qpb y9.1.owners,.box 48 (gu f),.dead,Qqb y9.1.meets,Qrb y9.1.src,Qsb y9.1.dst,Qtb y9.1.own,.box 139 [.d (Sl Lfr y9.1.s.Nodes),.d (Sl Lfg y9.1.s.Policy.Groups),.d (Sl Lfj y9.1.s.Policy.Hosts),.d (Sl Lfn y9.1.s.Policy.Grants),.d (Sl Lfp y9.1.s.Policy.Tests),.d (Sl Lfs y9.1.s.Facts),.map 1,.map 4,.sl 5 y9.1.src.length,.sl 6 y9.1.dst.length,.map 7]] E E E E E E<|Kki 2 [.bag y9.2 [] [],Qpb y9.1.owners,.dead,.dead,Qqb y9.1.meets,Qrb y9.1.src,Qsb y9.1.dst,Qtb y9.1.own,.box 139 [.d (Sl Lfr y9.1.s.Nodes),.d (Sl Lfg y9.1.s.Policy.Groups),.d (Sl Lfj y9.1.s.Policy.Hosts),.d (Sl Lfn y9.1.s.Policy.Grants),.d (Sl Lfp y9.1.s.Policy.Tests),.d (Sl Lfs y9.1.s.Facts),.map 1,.map 4,.sl 5 y9.1.src.length,.sl 6 y9.1.dst.length,.map 7]] E Z<|Kib 4 2 [.bag y9.2 [] [],Qpb y9.1.owners,Qqb y9.1.meets,.dead,.dead,Qrb y9.1.src,Qsb y9.1.dst,Qtb y9.1.own,.box 139 [.d (Sl Lfr y9.1.s.Nodes),.d (Sl Lfg y9.1.s.Policy.Groups),.d (Sl Lfj y9.1.s.Policy.Hosts),.d (Sl Lfn y9.1.s.Policy.Grants),.d (Sl Lfp y9.1.s.Policy.Tests),.d (Sl Lfs y9.1.s.Facts),.map 1,.map 2,.sl 5 y9.1.src.length,.sl 6 y9.1.dst.length,.map 7]] E E E E E E<|Kib 5 3 [.bag y9.2 [] [],Qpb y9.1.owners,Qqb y9.1.meets,Qrb y9.1.src,.dead,.dead,Qsb y9.1.dst,Qtb y9.1.own,.box 139 [.d (Sl Lfr y9.1.s.Nodes),.d (Sl Lfg y9.1.s.Policy.Groups),.d (Sl Lfj y9.1.s.Policy.Hosts),.d (Sl Lfn y9.1.s.Policy.Grants),.d (Sl Lfp y9.1.s.Policy.Tests),.d (Sl Lfs y9.1.s.Facts),.map 1,.map 2,.sl 3 y9.1.src.length,.sl 6 y9.1.dst.length,.map 7]] E E E E E E<|Kib 6 4 [.bag y9.2 [] [],Qpb y9.1.owners,Qqb y9.1.meets,Qrb y9.1.src,Qsb y9.1.dst,.dead,.dead,Qtb y9.1.own,.box 139 [.d (Sl Lfr y9.1.s.Nodes),.d (Sl Lfg y9.1.s.Policy.Groups),.d (Sl Lfj y9.1.s.Policy.Hosts),.d (Sl Lfn y9.1.s.Policy.Grants),.d (Sl Lfp y9.1.s.Policy.Tests),.d (Sl Lfs y9.1.s.Facts),.map 1,.map 2,.sl 3 y9.1.src.length,.sl 4 y9.1.dst.length,.map 7]] E E E E E E<|Kib 7 5 [.bag y9.2 [] [],Qpb y9.1.owners,Qqb y9.1.meets,Qrb y9.1.src,Qsb y9.1.dst,Qtb y9.1.own,.dead,.dead,.box 139 [.d (Sl Lfr y9.1.s.Nodes),.d (Sl Lfg y9.1.s.Policy.Groups),.d (Sl Lfj y9.1.s.Policy.Hosts),.d (Sl Lfn y9.1.s.Policy.Grants),.d (Sl Lfp y9.1.s.Policy.Tests),.d (Sl Lfs y9.1.s.Facts),.map 1,.map 2,.sl 3 y9.1.src.length,.sl 4 y9.1.dst.length,.map 5]] E E E E E E<|Kib 8 6 [.bag y9.2 [] [],Qpb y9.1.owners,Qqb y9.1.meets,Qrb y9.1.src,Qsb y9.1.dst,Qtb y9.1.own,.box 139 [.d (Sl Lfr y9.1.s.Nodes),.d (Sl Lfg y9.1.s.Policy.Groups),.d (Sl Lfj y9.1.s.Policy.Hosts),.d (Sl Lfn y9.1.s.Policy.Grants),.d (Sl Lfp y9.1.s.Policy.Tests),.d (Sl Lfs y9.1.s.Facts),.map 1,.map 2,.sl 3 y9.1.src.length,.sl 4 y9.1.dst.length,.map 5],.dead,.dead] E E E E E E<|Khz ?_
 cases h10
theorem Ley{k:Nat}{s:Kxq}{f:Kxl}{al:List Bool}{r1:Kxu}{r2:Int}{r3:List Bool}(h:Lel k s f al=some (some r1,r2,r3)):EC Tryz.prog 39 [.agg (gD s),.agg (gu f)] [.bag al [] []] fun g hp'=>g=.tup [.ptr 6 0,I r2]∧hp'=[.bag r3 [] [],Qpb r1.owners,Qqb r1.meets,Qrb r1.src,Qsb r1.dst,Qtb r1.own,.box 139 [.d (Sl Lfr r1.s.Nodes),.d (Sl Lfg r1.s.Policy.Groups),.d (Sl Lfj r1.s.Policy.Hosts),.d (Sl Lfn r1.s.Policy.Grants),.d (Sl Lfp r1.s.Policy.Tests),.d (Sl Lfs r1.s.Facts),.map 1,.map 2,.sl 3 r1.src.length,.sl 4 r1.dst.length,.map 5]]:=by
 unfold Lel at h
 refine QM Tryz.func39 E Z<|gA 2 E<|Kqo E E E E Z<|Kqo E E E E Z<|bK h fun y1 hy1 h2=>gO 8 E<|Kex C (Ljo hy1) E Z E E E E E<|gO 9 E<|jC E h2 (fun h3=>?_) fun h4=>bK h4 fun y5 hy5 h6=>gA 6 E<|Kex C (Ljg hy5) E Z E E E E E<|gO 9 E<|jC E h6 (fun h7=>?_) fun h8=>?_
 ·refine gA 9 E<|Khz ?_
  cases h3
 ·refine gA 9 E<|Khz ?_
  cases h7
 refine bK h8 fun y9 hy9 h10=>gA 5 E<|Kew [0] (.ptr 8 0) [.bag y9.2 [] [],.box 35 (gD s),.box 48 (gu f),Qpb y9.1.owners,Qqb y9.1.meets,Qrb y9.1.src,Qsb y9.1.dst,Qtb y9.1.own,.box 139 [.d (Sl Lfr y9.1.s.Nodes),.d (Sl Lfg y9.1.s.Policy.Groups),.d (Sl Lfj y9.1.s.Policy.Hosts),.d (Sl Lfn y9.1.s.Policy.Grants),.d (Sl Lfp y9.1.s.Policy.Tests),.d (Sl Lfs y9.1.s.Facts),.map 3,.map 4,.sl 5 y9.1.src.length,.sl 6 y9.1.dst.length,.map 7]] C (Llo hy9) E Z E E E E E E E E E E<|gO 5 E<|Kki 1 [.bag y9.2 [] [],.dead,.box 48 (gu f),Qpb y9.1.owners,Qqb y9.1.meets,Qrb y9.1.src,Qsb y9.1.dst,Qtb y9.1.own,.box 139 [.d (Sl Lfr y9.1.s.Nodes),.d (Sl Lfg y9.1.s.Policy.Groups),.d (Sl Lfj y9.1.s.Policy.Hosts),.d (Sl Lfn y9.1.s.Policy.Grants),.d (Sl Lfp y9.1.s.Policy.Tests),.d (Sl Lfs y9.1.s.Facts),.map 3,.map 4,.sl 5 y9.1.src.length,.sl 6 y9.1.dst.length,.map 7]] E Z<|Kib 3 1 [.bag y9.2 [] [],Qpb y9.1.owners,.box 48 (gu f),.dead,Qqb y9.1.meets,Qrb y9.1.src,Qsb y9.1.dst,Qtb y9.1.own,.box 139 [.d (Sl Lfr y9.1.s.Nodes),.d (Sl Lfg y9.1.s.Policy.Groups),.d (Sl Lfj y9.1.s.Policy.Hosts),.d (Sl Lfn y9.1.s.Policy.Grants),.d (Sl Lfp y9.1.s.Policy.Tests),.d (Sl Lfs y9.1.s.Facts),.map 1,.map 4,.sl 5 y9.1.src.length,.sl 6 y9.1.dst.length,.map 7]] E E E E E E<|Kki 2 [.bag y9.2 [] [],Qpb y9.1.owners,.dead,.dead,Qqb y9.1.meets,Qrb y9.1.src,Qsb y9.1.dst,Qtb y9.1.own,.box 139 [.d (Sl Lfr y9.1.s.Nodes),.d (Sl Lfg y9.1.s.Policy.Groups),.d (Sl Lfj y9.1.s.Policy.Hosts),.d (Sl Lfn y9.1.s.Policy.Grants),.d (Sl Lfp y9.1.s.Policy.Tests),.d (Sl Lfs y9.1.s.Facts),.map 1,.map 4,.sl 5 y9.1.src.length,.sl 6 y9.1.dst.length,.map 7]] E Z<|Kib 4 2 [.bag y9.2 [] [],Qpb y9.1.owners,Qqb y9.1.meets,.dead,.dead,Qrb y9.1.src,Qsb y9.1.dst,Qtb y9.1.own,.box 139 [.d (Sl Lfr y9.1.s.Nodes),.d (Sl Lfg y9.1.s.Policy.Groups),.d (Sl Lfj y9.1.s.Policy.Hosts),.d (Sl Lfn y9.1.s.Policy.Grants),.d (Sl Lfp y9.1.s.Policy.Tests),.d (Sl Lfs y9.1.s.Facts),.map 1,.map 2,.sl 5 y9.1.src.length,.sl 6 y9.1.dst.length,.map 7]] E E E E E E<|Kib 5 3 [.bag y9.2 [] [],Qpb y9.1.owners,Qqb y9.1.meets,Qrb y9.1.src,.dead,.dead,Qsb y9.1.dst,Qtb y9.1.own,.box 139 [.d (Sl Lfr y9.1.s.Nodes),.d (Sl Lfg y9.1.s.Policy.Groups),.d (Sl Lfj y9.1.s.Policy.Hosts),.d (Sl Lfn y9.1.s.Policy.Grants),.d (Sl Lfp y9.1.s.Policy.Tests),.d (Sl Lfs y9.1.s.Facts),.map 1,.map 2,.sl 3 y9.1.src.length,.sl 6 y9.1.dst.length,.map 7]] E E E E E E<|Kib 6 4 [.bag y9.2 [] [],Qpb y9.1.owners,Qqb y9.1.meets,Qrb y9.1.src,Qsb y9.1.dst,.dead,.dead,Qtb y9.1.own,.box 139 [.d (Sl Lfr y9.1.s.Nodes),.d (Sl Lfg y9.1.s.Policy.Groups),.d (Sl Lfj y9.1.s.Policy.Hosts),.d (Sl Lfn y9.1.s.Policy.Grants),.d (Sl Lfp y9.1.s.Policy.Tests),.d (Sl Lfs y9.1.s.Facts),.map 1,.map 2,.sl 3 y9.1.src.length,.sl 4 y9.1.dst.length,.map 7]] E E E E E E<|Kib 7 5 [.bag y9.2 [] [],Qpb y9.1.owners,Qqb y9.1.meets,Qrb y9.1.src,Qsb y9.1.dst,Qtb y9.1.own,.dead,.dead,.box 139 [.d (Sl Lfr y9.1.s.Nodes),.d (Sl Lfg y9.1.s.Policy.Groups),.d (Sl Lfj y9.1.s.Policy.Hosts),.d (Sl Lfn y9.1.s.Policy.Grants),.d (Sl Lfp y9.1.s.Policy.Tests),.d (Sl Lfs y9.1.s.Facts),.map 1,.map 2,.sl 3 y9.1.src.length,.sl 4 y9.1.dst.length,.map 5]] E E E E E E<|Kib 8 6 [.bag y9.2 [] [],Qpb y9.1.owners,Qqb y9.1.meets,Qrb y9.1.src,Qsb y9.1.dst,Qtb y9.1.own,.box 139 [.d (Sl Lfr y9.1.s.Nodes),.d (Sl Lfg y9.1.s.Policy.Groups),.d (Sl Lfj y9.1.s.Policy.Hosts),.d (Sl Lfn y9.1.s.Policy.Grants),.d (Sl Lfp y9.1.s.Policy.Tests),.d (Sl Lfs y9.1.s.Facts),.map 1,.map 2,.sl 3 y9.1.src.length,.sl 4 y9.1.dst.length,.map 5],.dead,.dead] E E E E E E<|Khz ?_
 cases h10
 exact Kfn hΓ [_,_] (.inr E) E E E E (.inr ⟨HB.mk E,E⟩)
theorem Lez{k:Nat}{s:Kxq}{f:Kxl}{al:List Bool}{r:Bool×Int×(List Bool)}(h:Lem k s f al=some r):EC Tryz.prog 10 [.agg (gD s),.agg (gu f)] [.bag al [] []] fun g hp'=>g=.tup [B r.1,I r.2.1]∧hp'=[.bag r.2.2 [] []]:=by
 unfold Lem at h
 refine QN Tryz.func10 E Z<|gA 2 E<|Kqo E E E E Z<|Kqo E E E E Z<|bK h fun y1 hy1 h2=>gO 8 E ?_
 rcases y1 with⟨_ | z3,z4,z5⟩
 ·refine Kew [0] (.tup [.d (.v (.pointer none)),I z4]) [.bag z5 [] [],.box 35 (gD s),.box 48 (gu f)] C (Lex hy1) E Z E E E E E E E E E E<|gO 14 E<|jC E h2 (fun h6=>?_) fun h7=>gA 6 E ?_
  ·exact gA 9 E<|oSi h6▸Kfn hΓ [_,_] (.inr E) E E E E (.inr ⟨HB.mk E,E⟩)
  cases h7
 refine Kew [0] (.tup [.ptr 8 0,I z4]) [.bag z5 [] [],.box 35 (gD s),.box 48 (gu f),Qpb z3.owners,Qqb z3.meets,Qrb z3.src,Qsb z3.dst,Qtb z3.own,.box 139 [.d (Sl Lfr z3.s.Nodes),.d (Sl Lfg z3.s.Policy.Groups),.d (Sl Lfj z3.s.Policy.Hosts),.d (Sl Lfn z3.s.Policy.Grants),.d (Sl Lfp z3.s.Policy.Tests),.d (Sl Lfs z3.s.Facts),.map 3,.map 4,.sl 5 z3.src.length,.sl 6 z3.dst.length,.map 7]] C (Ley hy1) E Z E E E E E E E E E E<|gO 14 E<|jC E h2 (fun h8=>?_) fun h9=>bK h9 fun y10 hy10 h11=>gA 6 E<|Kew [3,4,5,6,7,8] (B y10) [.bag z5 [] [],.box 35 (gD s),.box 48 (gu f),Qpb z3.owners,Qqb z3.meets,Qrb z3.src,Qsb z3.dst,Qtb z3.own,.box 139 [.d (Sl Lfr z3.s.Nodes),.d (Sl Lfg z3.s.Policy.Groups),.d (Sl Lfj z3.s.Policy.Hosts),.d (Sl Lfn z3.s.Policy.Grants),.d (Sl Lfp z3.s.Policy.Tests),.d (Sl Lfs z3.s.Facts),.map 3,.map 4,.sl 5 z3.src.length,.sl 6 z3.dst.length,.map 7]] C (Lly hy10) E Z E E E E E E E E E E<|gO 5 E<|oSi h11▸Kfn hΓ [_,_,_,_,_,_,_,_] (.inr E) E E E E (.inr ⟨HB.mk E,E⟩)
 exact gA 9 E<|oSi h8▸Kfn hΓ [_,_,_,_,_,_,_,_] (.inr E) E E E E (.inr ⟨HB.mk E,E⟩)
theorem Lfa{s:List Int}{v:Int}{r:Int}(h:Len s v=some r):Pure Tryz.prog 40 [.d (Sl (eN .i64) s),I v] (I r):=by
 unfold Len at h
 refine QP Tryz.func40 E E E<|gA 13 E<|bK h fun q4 hq4 h5=>Kef 0 E fun hb7=>Kic (R:=fun a6=>q4=.go a6) (fun a6=>[]) (fun a6=>[]) ?_ ?_
 ·refine gA 1 E<|Kee s hq4 (fun i1 s2=>[(0,.d (Sl (eN .i64) s)),(1,I v),(7,I (s.length:Int)),(8,I (i1:Int))]) (fun s2=>[]) ⟨⟨E,E,E,E,tV⟩,[],E,.inl E⟩ (fun i1 x3 s2 y11 hx8 hlt hy9 hout10=>?_) (fun s2 hgo=>?_)
  ·refine gA 6 E<|Kdo E (dT (Int.ofNat_lt.2 hlt))<|gA 15 E<|eo_o E (Keg hΓ (enc:=(eN .i64)) (Kdz hx8) E E E E E (fun _=>E))<|gO 4 E<|jC E hy9 (fun h12=>?_) fun h15=>gA 7 E ?_
   ·refine gA 9 E<|bK h12 fun v13 hv13 h14=>?_
    cases h14
    obtain rfl:=hout10 _ rfl
    cases h5
    exact gA 4 E<|oSi hv13▸gP E E
   cases h15
   exact⟨_,E,⟨⟨E,E,E,Kcs E (Kcr (nLl hlt hb7)),tV⟩,[],E,.inl E⟩⟩
  subst hgo
  exact gA 6 E<|Kdp E (dF (Int.lt_irrefl _))<|gA 4 E<|⟨_,E,⟨tV,[],E,.inl E⟩⟩
 intro a6 ha
 subst ha
 replace h5:=Khx h5
 exact gA 7 E<|oSi h5▸gP E E
theorem Lfb{s:List Int}{v:Int}{r:Bool}(h:Leo s v=some r):Pure Tryz.prog 11 [.d (Sl (eN .i64) s),I v] (B r):=by
 unfold Leo at h
 exact QP Tryz.func11 E E E<|bK h fun y1 hy1 h2=>gA 9 E<|Kex C (Lfa hy1) E Z E E E E E<|gO 5 E<|oSi h2▸gP E E
theorem Lfc{v:Kxu}{a:Kxe}{r:Int×Bool}(h:Lep v a=some r):EC Tryz.prog 42 [.ptr 5 0,.agg (gh a)] [QB v,QE v,Q2 v,QH v,QK v,Qc v] fun g hp'=>g=.tup [I r.1,B r.2]∧hp'=[QB v,QE v,Q2 v,QH v,QK v,Qc v]:=by
 unfold Lep at h
 exact QN Tryz.func42 E Z<|gA 2 E<|Kqo E E E E Z<|gO 5 E<|jD<|gA 5 E<|gl_o E (Klt hΓ (kenc:=Lfh) (agg:=false) (enc:=(eN .i64)) v.owners a (0:Int) E E E Lhq (fun _=>E) E E E E E E E)<|Kdl hΓ 16 E<|oSi h▸Kfn hΓ [_] (.inr E) E E E E (.inr ⟨HB.mk E,E⟩)
theorem Lfd{k:Nat}{s:Kxq}{a:Kxe}{al:List Bool}{r:Str×Bool×Int×(List Bool)}(h:Leq k s a al=some r):EC Tryz.prog 12 [.agg (gD s),.agg (gh a)] [.bag al [] []] fun g hp'=>g=.tup [S r.1,B r.2.1,I r.2.2.1]∧hp'=[.bag r.2.2.2 [] []]:=by
 unfold Leq at h
 refine QN Tryz.func12 E Z<|gA 2 E<|Kqo E E E E Z<|Kqo E E E E Z<|bK h fun y1 hy1 h2=>gO 9 E<|Kex C (Ljo hy1) E Z E E E E E<|gO 9 E<|jC E h2 (fun h3=>?_) fun h4=>bK h4 fun y5 hy5 h6=>gA 6 E<|Kex C (Lir hy5) E Z E E E E E<|gO 9 E<|jC E h6 (fun h7=>?_) fun h8=>?_
 ·exact gA 10 E<|oSi h3▸Kfn hΓ [_,_] (.inr E) E E E E (.inr ⟨HB.mk E,E⟩)
 ·exact gA 10 E<|oSi h7▸Kfn hΓ [_,_] (.inr E) E E E E (.inr ⟨HB.mk E,E⟩)
 refine gA 3 E<|Khd [.dead,.box 35 (gD s),.box 46 (gh a)] [0,2] [1,3] [] hmix (by kernel_rfl) (by kernel_rfl) ⟨E,E,tV⟩ Z<|bK h8 fun y9 hy9 h10=>go_E hΓ 1 E<|ge_h [.bag y9.2 [] [],.box 35 (gD s),.box 46 (gh a),Qpb y9.1.owners,Qqb y9.1.meets,Qrb y9.1.src,Qsb y9.1.dst,Qtb y9.1.own,.box 139 [.d (Sl Lfr y9.1.s.Nodes),.d (Sl Lfg y9.1.s.Policy.Groups),.d (Sl Lfj y9.1.s.Policy.Hosts),.d (Sl Lfn y9.1.s.Policy.Grants),.d (Sl Lfp y9.1.s.Policy.Tests),.d (Sl Lfs y9.1.s.Facts),.map 3,.map 4,.sl 5 y9.1.src.length,.sl 6 y9.1.dst.length,.map 7]] E E E (Khl ⟨E,E,tV⟩) (Khq [0] (.ptr 8 0) [.bag y9.2 [] [],.box 35 (gD s),.box 46 (gh a),Qpb y9.1.owners,Qqb y9.1.meets,Qrb y9.1.src,Qsb y9.1.dst,Qtb y9.1.own,.box 139 [.d (Sl Lfr y9.1.s.Nodes),.d (Sl Lfg y9.1.s.Policy.Groups),.d (Sl Lfj y9.1.s.Policy.Hosts),.d (Sl Lfn y9.1.s.Policy.Grants),.d (Sl Lfp y9.1.s.Policy.Tests),.d (Sl Lfs y9.1.s.Facts),.map 3,.map 4,.sl 5 y9.1.src.length,.sl 6 y9.1.dst.length,.map 7]] C (Llo hy9) E E E E E E E E E E)<|bK h10 fun y11 hy11 h12=>go_E hΓ 1 E<|ge_h [.bag y9.2 [] [],.box 35 (gD s),.box 46 (gh a),Qpb y9.1.owners,Qqb y9.1.meets,Qrb y9.1.src,Qsb y9.1.dst,Qtb y9.1.own,.box 139 [.d (Sl Lfr y9.1.s.Nodes),.d (Sl Lfg y9.1.s.Policy.Groups),.d (Sl Lfj y9.1.s.Policy.Hosts),.d (Sl Lfn y9.1.s.Policy.Grants),.d (Sl Lfp y9.1.s.Policy.Tests),.d (Sl Lfs y9.1.s.Facts),.map 3,.map 4,.sl 5 y9.1.src.length,.sl 6 y9.1.dst.length,.map 7]] E E E (Khl ⟨E,E,tV⟩) (Khq [3,4,5,6,7,8] (.tup [I y11.1,B y11.2]) [.bag y9.2 [] [],.box 35 (gD s),.box 46 (gh a),Qpb y9.1.owners,Qqb y9.1.meets,Qrb y9.1.src,Qsb y9.1.dst,Qtb y9.1.own,.box 139 [.d (Sl Lfr y9.1.s.Nodes),.d (Sl Lfg y9.1.s.Policy.Groups),.d (Sl Lfj y9.1.s.Policy.Hosts),.d (Sl Lfn y9.1.s.Policy.Grants),.d (Sl Lfp y9.1.s.Policy.Tests),.d (Sl Lfs y9.1.s.Facts),.map 3,.map 4,.sl 5 y9.1.src.length,.sl 6 y9.1.dst.length,.map 7]] C (Lfc hy11) E E E E E E E E E E)<|go_E hΓ 5 E<|Khe<|gA 8 E<|jC E h12 (fun h13=>?_) fun h14=>bK h14 fun x15 hx15 h16=>gA 7 E<|eo_o E (Keg hΓ (enc:=Lfr) hx15 E E E E E (fun _=>E))<|gO 8 E<|oSi h16▸Kfn hΓ [_,_,_,_,_,_,_,_] (.inr E) E E E E (.inr ⟨HB.mk E,E⟩)
 exact gA 9 E<|oSi h13▸Kfn hΓ [_,_,_,_,_,_,_,_] (.inr E) E E E E (.inr ⟨HB.mk E,E⟩)
theorem Lfe{k:Nat}{l:List Int}{al:List Bool}{r:Bool×(List Bool)}(h:Ler k l al=some r):EC Tryz.prog 3 [.d (Sl (eN .i64) l)] [.bag al [] []] fun g hp'=>g=B r.1∧hp'=[.bag r.2 [] []]:=by
 unfold Ler at h
 refine QN Tryz.func3 E Z<|gA 8 E<|Kbn hΓ (gs:=[.d (Sl (eN .i64) l),I 0]) E E E E E E E<|Kqo E E E E Z<|bK h fun y1 hy1 h2=>gO 6 E<|Kew [1] (.agg (gD y1.1)) [.bag al [] [],.box 25 (fQ y1.2)] C (Lhj hy1) E Z E E E E E E E E E E<|bK h2 fun y3 hy3 h4=>gO 2 E<|Kew [1] (I y3.1) [.bag al [] [],.box 25 (fQ y3.2)] C (Lgg hy3) E Z E E E E E E E E E E<|bK h4 fun y5 hy5 h6=>Kew [1] (.sl 2 y5.1.length) [.bag al [] [],.box 25 (fQ y5.2),Qjb y5.1] C (Lih hy5) E Z E E E E E E E E E E<|Kfd 2 [27] _ [.bag al [] [],.box 25 (fQ y5.2),.dead] E E E Z<|Kqn hΓ E E E Z<|Kqs hΓ E E E E E E E E Z<|Kfg [.bag al [] [],.box 25 (fQ y5.2),.dead,.box 35 (gD y1.1)] E<|bK h6 fun y7 hy7 h8=>gO 7 E<|Kew [0] (.tup [.d (Sl (eN .i64) y7.1),I y7.2.1]) [.bag y7.2.2 [] [],.box 25 (fQ y5.2),.dead,.box 35 (gD y1.1)] C (Llz hy7) E Z E E E E E E E E E E<|gO 14 E<|Kdn E (fun hb=>?_) (fun hb=>?_)
 ·have h9:=cT h8 hb
  refine gA 6 E<|bK h9 fun q10 hq10 h11=>Kdt 2 [(2,B false),(41,B q10)] [.bag y7.2.2 [] [],.box 25 (fQ y5.2),.dead,.box 35 (gD y1.1)] ?_ ?_
  ·refine Kpg E E (fun hb=>?_) (fun hb=>?_)
   ·have h12:=cT hq10 hb
    exact bK h12 fun y13 hy13 h14=>Kpe E<|Kex C (Leu hy13) E Z E E E E E<|gO 2 E<|oSi h14▸⟨⟨E,E,tV⟩,[],E,.inl E⟩
   have h15:=cF hq10 hb
   exact gO 3 E<|oSi h15▸⟨⟨E,E,tV⟩,[],E,.inl E⟩
  exact gO 5 E<|oSi h11▸Kfn hΓ [_,_,_] (.inr E) E E E E (.inr ⟨HB.mk E,E⟩)
 have h16:=cF h8 hb
 refine gA 10 E<|bK h16 fun q20 hq20 h21=>Kef 42 E fun hb23=>Kic (R:=fun a22=>q20=.go a22) (fun a22=>[]) (fun a22=>[.bag a22 [] [],.box 25 (fQ y5.2),.dead,.box 35 (gD y1.1)]) ?_ ?_
 ·refine gA 1 E<|Kee y5.1 hq20 (fun i17 s18=>[(4,.ptr 3 0),(6,.d (Sl (eN .i64) y7.1)),(42,.d (Sl Lfu y5.1)),(43,I (y5.1.length:Int)),(44,I (i17:Int))]) (fun s18=>[.bag s18 [] [],.box 25 (fQ y5.2),.dead,.box 35 (gD y1.1)]) ⟨⟨E,E,E,E,E,tV⟩,[],E,.inl E⟩ (fun i17 x19 s18 y27 hx24 hlt hy25 hout26=>?_) (fun s18 hgo=>?_)
  ·refine gA 6 E<|Kdo E (dT (Int.ofNat_lt.2 hlt))<|gA 7 E<|eo_o E (Keg hΓ (enc:=Lfu) (Kdz hx24) E E E E E (fun _=>E))<|gO 1 E<|Kqn hΓ E E E Z<|gO 1 E<|Kqs hΓ E E E E E E E E Z<|Kfg [.bag s18 [] [],.box 25 (fQ y5.2),.dead,.box 35 (gD y1.1),.box 50 (gE x19)] E<|bK hy25 fun y28 hy28 h29=>gO 6 E<|Kex C (Lew hy28) E Z E E E E E<|gO 3 E<|Kqn hΓ E E E Z<|Kqs hΓ E E E E E E E E Z<|Kfg [.bag s18 [] [],.box 25 (fQ y5.2),.dead,.box 35 (gD y1.1),.box 50 (gE x19),.box 48 (gu y28.1)] E<|bK h29 fun y30 hy30 h31=>gO 8 E<|Kew [0] (.tup [B y30.1,I y30.2.1]) [.bag y30.2.2 [] [],.box 25 (fQ y5.2),.dead,.box 35 (gD y1.1),.box 50 (gE x19),.box 48 (gu y28.1)] C (Lez hy30) E Z E E E E E E E E E E<|bK h31 fun y32 hy32 h33=>gO 11 E<|Kew [0] (.tup [B y32.1,I y32.2.1]) [.bag y32.2.2 [] [],.box 25 (fQ y5.2),.dead,.box 35 (gD y1.1),.box 50 (gE x19),.box 48 (gu y28.1)] C (Lez hy32) E Z E E E E E E E E E E<|gO 13 E<|Kdt 3 [(4,.ptr 3 0),(6,.d (Sl (eN .i64) y7.1)),(8,I (i17:Int)),(9,.ptr 4 0),(12,B y30.1),(14,B y32.1),(15,I y32.2.1),(42,.d (Sl Lfu y5.1)),(43,I (y5.1.length:Int)),(44,I (i17:Int)),(73,B (((y28.2:Int) != 0)||((y30.2.1:Int) != 0)))] [.bag y32.2.2 [] [],.box 25 (fQ y5.2),.dead,.box 35 (gD y1.1),.box 50 (gE x19),.box 48 (gu y28.1)] ?_ ?_
   ·refine Kpg E E (fun hb=>?_) (fun hb=>?_)
    ·exact gO 4 E<|⟨⟨E,E,E,E,E,E,E,E,E,E,Kct E (or_t hb),tV⟩,[],E,.inl E⟩
    exact gO 4 E<|⟨⟨E,E,E,E,E,E,E,E,E,E,Kct E (or_f hb),tV⟩,[],E,.inl E⟩
   refine gO 1 E<|Kdt 3 [(4,.ptr 3 0),(6,.d (Sl (eN .i64) y7.1)),(8,I (i17:Int)),(9,.ptr 4 0),(12,B y30.1),(14,B y32.1),(42,.d (Sl Lfu y5.1)),(43,I (y5.1.length:Int)),(44,I (i17:Int)),(77,B ((((y28.2:Int) != 0)||((y30.2.1:Int) != 0))||((y32.2.1:Int) != 0)))] [.bag y32.2.2 [] [],.box 25 (fQ y5.2),.dead,.box 35 (gD y1.1),.box 50 (gE x19),.box 48 (gu y28.1)] ?_ ?_
   ·refine Kpg E E (fun hb=>?_) (fun hb=>?_)
    ·exact gO 4 E<|⟨⟨E,E,E,E,E,E,E,E,E,Kct E (or_t hb),tV⟩,[],E,.inl E⟩
    exact gO 4 E<|⟨⟨E,E,E,E,E,E,E,E,E,Kct E (or_f hb),tV⟩,[],E,.inl E⟩
   refine gO 1 E<|bK h33 fun q34 hq34 h35=>Kdt 14 [(4,.ptr 3 0),(6,.d (Sl (eN .i64) y7.1)),(8,I (i17:Int)),(9,.ptr 4 0),(12,B y30.1),(14,B y32.1),(42,.d (Sl Lfu y5.1)),(43,I (y5.1.length:Int)),(44,I (i17:Int)),(92,B q34)] [.bag y32.2.2 [] [],.box 25 (fQ y5.2),.dead,.box 35 (gD y1.1),.box 50 (gE x19),.box 48 (gu y28.1)] ?_ ?_
   ·refine Kpg E E (fun hb=>?_) (fun hb=>?_)
    ·have h36:=cT hq34 hb
     exact gO 15 E<|oSi h36▸⟨⟨E,E,E,E,E,E,E,E,E,E,tV⟩,[],E,.inl E⟩
    have h37:=cF hq34 hb
    refine bK h37 fun y38 hy38 h39=>gO 2 E<|Kpe E<|Kex C (Lfb hy38) E Z E E E E E<|gO 1 E<|Kdt 9 [(4,.ptr 3 0),(6,.d (Sl (eN .i64) y7.1)),(8,I (i17:Int)),(9,.ptr 4 0),(12,B y30.1),(14,B y32.1),(42,.d (Sl Lfu y5.1)),(43,I (y5.1.length:Int)),(44,I (i17:Int)),(78,B false),(91,B (y38&&((y30.1||y32.1)||x19.Out)))] [.bag y32.2.2 [] [],.box 25 (fQ y5.2),.dead,.box 35 (gD y1.1),.box 50 (gE x19),.box 48 (gu y28.1)] ?_ ?_
    ·refine Kpg E E (fun hb=>?_) (fun hb=>?_)
     ·refine gO 2 E<|Kdt 2 [(4,.ptr 3 0),(6,.d (Sl (eN .i64) y7.1)),(8,I (i17:Int)),(9,.ptr 4 0),(12,B y30.1),(14,B y32.1),(42,.d (Sl Lfu y5.1)),(43,I (y5.1.length:Int)),(44,I (i17:Int)),(78,B false),(82,B true),(86,B (y30.1||y32.1))] [.bag y32.2.2 [] [],.box 25 (fQ y5.2),.dead,.box 35 (gD y1.1),.box 50 (gE x19),.box 48 (gu y28.1)] ?_ ?_
      ·refine Kpg E E (fun hb=>?_) (fun hb=>?_)
       ·exact gO 3 E<|⟨⟨E,E,E,E,E,E,E,E,E,E,E,Kct E (or_t hb),tV⟩,[],E,.inl E⟩
       exact gO 3 E<|⟨⟨E,E,E,E,E,E,E,E,E,E,E,Kct E (or_f hb),tV⟩,[],E,.inl E⟩
      refine gO 1 E<|Kdt 3 [(4,.ptr 3 0),(6,.d (Sl (eN .i64) y7.1)),(8,I (i17:Int)),(9,.ptr 4 0),(12,B y30.1),(14,B y32.1),(42,.d (Sl Lfu y5.1)),(43,I (y5.1.length:Int)),(44,I (i17:Int)),(78,B false),(82,B true),(90,B ((y30.1||y32.1)||x19.Out))] [.bag y32.2.2 [] [],.box 25 (fQ y5.2),.dead,.box 35 (gD y1.1),.box 50 (gE x19),.box 48 (gu y28.1)] ?_ ?_
      ·refine Kpg E E (fun hb=>?_) (fun hb=>?_)
       ·exact gO 4 E<|⟨⟨E,E,E,E,E,E,E,E,E,E,E,Kct E (or_t hb),tV⟩,[],E,.inl E⟩
       exact gO 4 E<|⟨⟨E,E,E,E,E,E,E,E,E,E,E,Kct E (or_f hb),tV⟩,[],E,.inl E⟩
      exact gO 2 E<|⟨⟨E,E,E,E,E,E,E,E,E,E,Kct E (Kft hb),tV⟩,[],E,.inl E⟩
     exact gO 10 E<|⟨⟨E,E,E,E,E,E,E,E,E,E,Kct E (Kfu hb),tV⟩,[],E,.inl E⟩
    exact gO 2 E<|oSi h39▸⟨⟨E,E,E,E,E,E,E,E,E,E,tV⟩,[],E,.inl E⟩
   refine gO 2 E<|Kdn E (fun hb=>?_) (fun hb=>?_)
   ·have h40:=cT h35 hb
    refine gA 9 E<|bK h40 fun v41 hv41 h42=>?_
    cases h42
    obtain rfl:=hout26 _ rfl
    cases h21
    exact gA 4 E<|oSi hv41▸Kfn hΓ [_,_,_,_,_] (.inr E) E E E E (.inr ⟨HB.mk E,E⟩)
   have h43:=cF h35 hb
   refine bK h43 fun y44 hy44 h45=>gA 8 E<|Kew [0] (.tup [S y44.1,B y44.2.1,I y44.2.2.1]) [.bag y44.2.2.2 [] [],.box 25 (fQ y5.2),.dead,.box 35 (gD y1.1),.box 50 (gE x19),.box 48 (gu y28.1)] C (Lfd hy44) E Z E E E E E E E E E E<|gO 15 E<|Kdt 5 [(4,.ptr 3 0),(6,.d (Sl (eN .i64) y7.1)),(8,I (i17:Int)),(12,B y30.1),(14,B y32.1),(42,.d (Sl Lfu y5.1)),(43,I (y5.1.length:Int)),(44,I (i17:Int)),(110,B ((!x19.Out)&&((y44.1:Str)==x19.Node)))] [.bag y44.2.2.2 [] [],.box 25 (fQ y5.2),.dead,.box 35 (gD y1.1),.box 50 (gE x19),.box 48 (gu y28.1)] ?_ ?_
   ·refine Kpg E E (fun hb=>?_) (fun hb=>?_)
    ·exact gO 6 E<|⟨⟨E,E,E,E,E,E,E,E,Kct E (Kft hb),tV⟩,[],E,.inl E⟩
    exact gO 6 E<|⟨⟨E,E,E,E,E,E,E,E,Kct E (Kfu hb),tV⟩,[],E,.inl E⟩
   refine gO 1 E<|Kdt 3 [(4,.ptr 3 0),(6,.d (Sl (eN .i64) y7.1)),(8,I (i17:Int)),(14,B y32.1),(42,.d (Sl Lfu y5.1)),(43,I (y5.1.length:Int)),(44,I (i17:Int)),(114,B (((!x19.Out)&&((y44.1:Str)==x19.Node))&&(!y30.1)))] [.bag y44.2.2.2 [] [],.box 25 (fQ y5.2),.dead,.box 35 (gD y1.1),.box 50 (gE x19),.box 48 (gu y28.1)] ?_ ?_
   ·refine Kpg E E (fun hb=>?_) (fun hb=>?_)
    ·exact gO 4 E<|⟨⟨E,E,E,E,E,E,E,Kct E (Kft hb),tV⟩,[],E,.inl E⟩
    exact gO 4 E<|⟨⟨E,E,E,E,E,E,E,Kct E (Kfu hb),tV⟩,[],E,.inl E⟩
   refine gO 1 E<|Kdt 3 [(4,.ptr 3 0),(6,.d (Sl (eN .i64) y7.1)),(8,I (i17:Int)),(42,.d (Sl Lfu y5.1)),(43,I (y5.1.length:Int)),(44,I (i17:Int)),(118,B ((((!x19.Out)&&((y44.1:Str)==x19.Node))&&(!y30.1))&&(!y32.1)))] [.bag y44.2.2.2 [] [],.box 25 (fQ y5.2),.dead,.box 35 (gD y1.1),.box 50 (gE x19),.box 48 (gu y28.1)] ?_ ?_
   ·refine Kpg E E (fun hb=>?_) (fun hb=>?_)
    ·exact gO 4 E<|⟨⟨E,E,E,E,E,E,Kct E (Kft hb),tV⟩,[],E,.inl E⟩
    exact gO 4 E<|⟨⟨E,E,E,E,E,E,Kct E (Kfu hb),tV⟩,[],E,.inl E⟩
   refine gO 1 E<|bK h45 fun q46 hq46 h47=>Kdt 5 [(4,.ptr 3 0),(6,.d (Sl (eN .i64) y7.1)),(42,.d (Sl Lfu y5.1)),(43,I (y5.1.length:Int)),(44,I (i17:Int)),(124,B q46)] [.bag y44.2.2.2 [] [],.box 25 (fQ y5.2),.dead,.box 35 (gD y1.1),.box 50 (gE x19),.box 48 (gu y28.1)] ?_ ?_
   ·refine Kpg E E (fun hb=>?_) (fun hb=>?_)
    ·have h48:=cT hq46 hb
     exact bK h48 fun y49 hy49 h50=>gO 2 E<|Kpe E<|Kex C (Lfb hy49) E Z E E E E E<|gO 3 E<|oSi h50▸⟨⟨E,E,E,E,E,E,tV⟩,[],E,.inl E⟩
    have h51:=cF hq46 hb
    exact gO 6 E<|oSi h51▸⟨⟨E,E,E,E,E,E,tV⟩,[],E,.inl E⟩
   refine gO 2 E<|jC E h47 (fun h52=>?_) fun h55=>gA 7 E ?_
   ·refine gA 8 E<|bK h52 fun v53 hv53 h54=>?_
    cases h54
    obtain rfl:=hout26 _ rfl
    cases h21
    exact gA 4 E<|oSi hv53▸Kfn hΓ [_,_,_,_,_] (.inr E) E E E E (.inr ⟨HB.mk E,E⟩)
   cases h55
   exact⟨_,E,⟨⟨E,E,E,E,Kcs E (Kcr (nLl hlt hb23)),tV⟩,[_,_],E,.inr ⟨HB.mk E,FB.mk E,Z⟩⟩⟩
  subst hgo
  exact gA 6 E<|Kdp E (dF (Int.lt_irrefl _))<|gA 4 E<|⟨_,E,⟨tV,[],E,.inl E⟩⟩
 intro a22 ha
 subst ha
 replace h21:=Khx h21
 exact bK h21 fun y56 hy56 h57=>gA 3 E<|Kex C (Leu hy56) E Z E E E E E<|gO 4 E<|oSi h57▸Kfn hΓ [_,_,_] (.inr E) E E E E (.inr ⟨HB.mk E,E⟩)
end Go.Proofs.YtcihhlhmkcaeeaaGreatDoor
