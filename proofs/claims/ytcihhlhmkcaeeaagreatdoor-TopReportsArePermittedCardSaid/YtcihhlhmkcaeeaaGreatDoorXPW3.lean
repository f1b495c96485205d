import Derived.Test.YtcihhlhmkcaeeaaGreatDoorXPM
import Derived.Test.YtcihhlhmkcaeeaaGreatDoorGt
import Derived.Test.YtcihhlhmkcaeeaaGreatDoorStr
import Derived.Test.YtcihhlhmkcaeeaaGreatDoorStrC
import Derived.Test.YtcihhlhmkcaeeaaGreatDoorStrJ
import Derived.Test.YtcihhlhmkcaeeaaGreatDoorStr4
import Derived.Test.YtcihhlhmkcaeeaaGreatDoorStrSS
import Derived.Test.YtcihhlhmkcaeeaaGreatDoorStrB
import Derived.Test.YtcihhlhmkcaeeaaGreatDoorSoW
import Derived.Test.YtcihhlhmkcaeeaaGreatDoorGk49
import Derived.Test.YtcihhlhmkcaeeaaGreatDoorGk66
import Derived.Test.YtcihhlhmkcaeeaaGreatDoorGk68
import Derived.Test.YtcihhlhmkcaeeaaGreatDoorGk70
import Derived.Test.YtcihhlhmkcaeeaaGreatDoorGk53
import Derived.Test.YtcihhlhmkcaeeaaGreatDoorGk57
import Derived.Test.YtcihhlhmkcaeeaaGreatDoorSoLays
import Derived.Test.YtcihhlhmkcaeeaaGreatDoorXPW2
set_option maxHeartbeats 8000000
set_option linter.all false
set_option maxRecDepth 100000
namespace Go.Proofs.YtcihhlhmkcaeeaaGreatDoor
open Go.Gk
theorem Ljg{k:Nat}{f:Kxl}{r:Int}(h:Lbd k f=some r):Pure Tryz.prog 37 [.agg (gu f)] (I r):=by
 unfold Lbd at h
 refine QP Tryz.func37 E E E<|gA 2 E<|Kqo E E E E Z<|bK h fun y1 hy1 h2=>gO 8 E<|Kex C (Lit hy1) E Z E E E E E<|gO 2 E<|jC E h2 (fun h3=>?_) fun h4=>gA 9 E<|eo_o E (Kje hΓ (gs:=[B f.From.Six,U f.From.Hi,U f.From.Lo,B f.To.Six,U f.To.Hi,U f.To.Lo]) E E E E E E)<|gO 3 E<|bK h4 fun q8 hq8 h9=>Kic (R:=fun a10=>q8=.inl a10) (fun a10=>[(1,.ptr 0 0)]) (fun a10=>[.box 48 (gu f)]) ?_ ?_
 ·exact gA 7 E<|oSi h3▸gP E E
 ·refine gA 1 E<|Kec hq8 (fun s6=>[(1,.ptr 0 0),(15,.agg [B f.From.Six,U f.From.Hi,U f.From.Lo,B f.To.Six,U f.To.Hi,U f.To.Lo]),(16,I s6)]) (fun s6=>[.box 48 (gu f)]) ⟨⟨E,E,E,tV⟩,[],E,.inl E⟩ (fun s6 y14 hy12 hout13=>?_)
  refine gA 6 E<|jC E hy12 (fun h15=>?_) fun h24=>gA 4 E ?_
  ·refine bK h15 fun x16 hx16 h17=>gA 6 E<|eo_o E (Kjd hΓ (enc:=Lfh) [f.From,f.To] hx16 E E E E E E E (fun _=>E) E)<|Kqn hΓ E E E Z<|Kqs hΓ E E E E E E E E Z<|Kfg [.box 48 (gu f),.box 46 (gh x16)] E<|bK h17 fun y18 hy18 h19=>gO 5 E<|Kex C (Lir hy18) E Z E E E E E<|gO 9 E<|jC E h19 (fun h20=>?_) fun h23=>gA 7 E<|oSi h23▸⟨_,E,⟨⟨E,E,E,tV⟩,[_],E,.inr ⟨HB.mk E,FB.mk E,Z⟩⟩⟩
   refine gA 9 E<|bK h20 fun v21 hv21 h22=>?_
   cases h22
   obtain rfl:=hout13 _ rfl
   cases h9
   exact gA 4 E<|oSi hv21▸gP E E
  cases h24
  obtain rfl:=hout13 _ rfl
  exact⟨_,E,⟨⟨E,tV⟩,[],E,.inl E⟩⟩
 intro a10 ha
 subst ha
 replace h9:=Khw h9
 refine gA 13 E<|jC E h9 (fun h25=>?_) fun h26=>gA 9 E<|eo_o E (Kje hΓ (gs:=[I f.FromPort,I f.ToPort]) E E E E E E)<|gO 3 E<|bK h26 fun q30 hq30 h31=>Kic (R:=fun a32=>q30=.inl a32) (fun a32=>[]) (fun a32=>[.box 48 (gu f)]) ?_ ?_
 ·exact gA 7 E<|oSi h25▸gP E E
 ·refine gA 1 E<|Kec hq30 (fun s28=>[(1,.ptr 0 0),(36,.agg [I f.FromPort,I f.ToPort]),(37,I s28)]) (fun s28=>[.box 48 (gu f)]) ⟨⟨E,E,E,tV⟩,[],E,.inl E⟩ (fun s28 y36 hy34 hout35=>?_)
  refine gA 6 E<|jC E hy34 (fun h37=>?_) fun h56=>gA 4 E ?_
  ·refine bK h37 fun x38 hx38 h39=>gA 6 E<|eo_o E (Kjd hΓ (enc:=(eN .i64)) [f.FromPort,f.ToPort] hx38 E E E E E E E (fun _=>E) E)<|bK h39 fun y40 hy40 h41=>gO 6 E<|Kex C (Lit hy40) E Z E E E E E<|gO 1 E<|bK h41 fun q42 hq42 h43=>Kdt 9 [(1,.ptr 0 0),(36,.agg [I f.FromPort,I f.ToPort]),(37,I s28),(51,B q42)] [.box 48 (gu f)] ?_ ?_
   ·refine Kpg E E (fun hb=>?_) (fun hb=>?_)
    ·have h44:=cT hq42 hb
     exact gO 10 E<|oSi h44▸⟨⟨E,E,E,E,tV⟩,[],E,.inl E⟩
    have h45:=cF hq42 hb
    refine gO 3 E<|bK h45 fun q46 hq46 h47=>Kdt 5 [(1,.ptr 0 0),(36,.agg [I f.FromPort,I f.ToPort]),(37,I s28),(42,B false),(50,B q46)] [.box 48 (gu f)] ?_ ?_
    ·refine Kpg E E (fun hb=>?_) (fun hb=>?_)
     ·have h48:=cT hq46 hb
      exact bK h48 fun y49 hy49 h50=>gO 2 E<|Kpe E<|Kex C (Ljd hy49) E Z E E E E E<|gO 3 E<|oSi h50▸⟨⟨E,E,E,E,E,tV⟩,[],E,.inl E⟩
     have h51:=cF hq46 hb
     exact gO 6 E<|oSi h51▸⟨⟨E,E,E,E,E,tV⟩,[],E,.inl E⟩
    exact gO 2 E<|oSi h47▸⟨⟨E,E,E,E,tV⟩,[],E,.inl E⟩
   refine gO 2 E<|jC E h43 (fun h52=>?_) fun h55=>gA 7 E<|oSi h55▸⟨_,E,⟨⟨E,E,E,tV⟩,[],E,.inl E⟩⟩
   refine gA 8 E<|bK h52 fun v53 hv53 h54=>?_
   cases h54
   obtain rfl:=hout35 _ rfl
   cases h31
   exact gA 4 E<|oSi hv53▸gP E E
  cases h56
  obtain rfl:=hout35 _ rfl
  exact⟨_,E,⟨tV,[],E,.inl E⟩⟩
 intro a32 ha
 subst ha
 replace h31:=Khw h31
 exact gA 7 E<|oSi h31▸gP E E
theorem Ljh{k:Nat}{p:Kxn}{r:Int}(h:Lbe k p=some r):Pure Tryz.prog 57 [.agg (gy p)] (I r):=by
 unfold Lbe at h
 refine QP Tryz.func57 E E E<|gA 2 E<|Kqo E E E E Z<|bK h fun y1 hy1 h2=>gO 7 E<|Kex C (Liq hy1) E Z E E E E E<|gO 9 E<|jC E h2 (fun h3=>?_) fun h4=>bK h4 fun y5 hy5 h6=>gA 7 E<|Kex C (Lix hy5) E Z E E E E E<|gO 9 E<|jC E h6 (fun h7=>?_) fun h8=>?_
 ·exact gA 8 E<|oSi h3▸gP E E
 ·exact gA 8 E<|oSi h7▸gP E E
 refine gA 11 E<|jC E h8 (fun h9=>?_) fun h10=>gA 11 E<|bK h10 fun q14 hq14 h15=>Kef 27 E fun hb17=>Kic (R:=fun a16=>q14=.go a16) (fun a16=>[(1,.ptr 0 0)]) (fun a16=>[.box 32 (gy p)]) ?_ ?_
 ·exact gA 7 E<|oSi h9▸gP E E
 ·refine gA 1 E<|Kee p.Grants hq14 (fun i11 s12=>[(1,.ptr 0 0),(27,.d (Sl Lfn p.Grants)),(28,I (p.Grants.length:Int)),(29,I (i11:Int))]) (fun s12=>[.box 32 (gy p)]) ⟨⟨E,E,E,E,tV⟩,[],E,.inl E⟩ (fun i11 x13 s12 y21 hx18 hlt hy19 hout20=>?_) (fun s12 hgo=>?_)
  ·refine gA 6 E<|Kdo E (dT (Int.ofNat_lt.2 hlt))<|gA 6 E<|eo_o E (Keg hΓ (enc:=Lfn) (Kdz hx18) E E E E E (fun _=>E))<|gO 1 E<|Kqn hΓ E E E Z<|Kqs hΓ E E E E E E E E Z<|Kfg [.box 32 (gy p),.box 115 (gt x13)] E<|bK hy19 fun y22 hy22 h23=>gO 6 E<|Kex C (Ljf hy22) E Z E E E E E<|gO 9 E<|jC E h23 (fun h24=>?_) fun h27=>gA 7 E ?_
   ·refine gA 9 E<|bK h24 fun v25 hv25 h26=>?_
    cases h26
    obtain rfl:=hout20 _ rfl
    cases h15
    exact gA 4 E<|oSi hv25▸gP E E
   cases h27
   exact⟨_,E,⟨⟨E,E,E,Kcs E (Kcr (nLl hlt hb17)),tV⟩,[_],E,.inr ⟨HB.mk E,FB.mk E,Z⟩⟩⟩
  subst hgo
  exact gA 6 E<|Kdp E (dF (Int.lt_irrefl _))<|gA 4 E<|⟨_,E,⟨⟨E,tV⟩,[],E,.inl E⟩⟩
 intro a16 ha
 subst ha
 replace h15:=Khx h15
 refine gA 10 E<|jC E h15 (fun h28=>?_) fun h29=>gA 11 E<|bK h29 fun q33 hq33 h34=>Kef 45 E fun hb36=>Kic (R:=fun a35=>q33=.go a35) (fun a35=>[]) (fun a35=>[.box 32 (gy p)]) ?_ ?_
 ·exact gA 7 E<|oSi h28▸gP E E
 ·refine gA 1 E<|Kee p.Tests hq33 (fun i30 s31=>[(45,.d (Sl Lfp p.Tests)),(46,I (p.Tests.length:Int)),(47,I (i30:Int))]) (fun s31=>[.box 32 (gy p)]) ⟨⟨E,E,E,tV⟩,[],E,.inl E⟩ (fun i30 x32 s31 y40 hx37 hlt hy38 hout39=>?_) (fun s31 hgo=>?_)
  ·refine gA 6 E<|Kdo E (dT (Int.ofNat_lt.2 hlt))<|gA 6 E<|eo_o E (Keg hΓ (enc:=Lfp) (Kdz hx37) E E E E E (fun _=>E))<|gO 1 E<|Kqn hΓ E E E Z<|Kqs hΓ E E E E E E E E Z<|Kfg [.box 32 (gy p),.box 118 [I x32.Flow.Proto,B x32.Flow.From.Six,U x32.Flow.From.Hi,U x32.Flow.From.Lo,B x32.Flow.To.Six,U x32.Flow.To.Hi,U x32.Flow.To.Lo,I x32.Flow.FromPort,I x32.Flow.ToPort,B x32.Accept]] E<|bK hy38 fun y41 hy41 h42=>gO 6 E<|Kex C (Ljg hy41) E Z E E E E E<|gO 9 E<|jC E h42 (fun h43=>?_) fun h46=>gA 7 E ?_
   ·refine gA 9 E<|bK h43 fun v44 hv44 h45=>?_
    cases h45
    obtain rfl:=hout39 _ rfl
    cases h34
    exact gA 4 E<|oSi hv44▸gP E E
   cases h46
   exact⟨_,E,⟨⟨E,E,Kcs E (Kcr (nLl hlt hb36)),tV⟩,[_],E,.inr ⟨HB.mk E,FB.mk E,Z⟩⟩⟩
  subst hgo
  exact gA 6 E<|Kdp E (dF (Int.lt_irrefl _))<|gA 4 E<|⟨_,E,⟨tV,[],E,.inl E⟩⟩
 intro a35 ha
 subst ha
 replace h34:=Khx h34
 exact gA 7 E<|oSi h34▸gP E E
theorem Lji{k:Nat}{n:Kxo}{seen:List (Kxe×Bool)}{r:Int×(List (Kxe×Bool))}(h:Lbf k n seen=some r):EC Tryz.prog 90 [.agg (gB n),.map 0] [Qib seen] fun g hp'=>g=I r.1∧hp'=[Qib r.2]:=by
 unfold Lbf at h
 refine QN Tryz.func90 E Z<|gA 2 E<|Kqo E E E E Z<|gO 10 E<|bK h fun q1 hq1 h2=>Kdt 5 [(1,.map 0),(2,.ptr 1 0),(20,B q1)] [Qib seen,.box 103 (gB n)] ?_ ?_
 ·refine Kpg E E (fun hb=>?_) (fun hb=>?_)
  ·have h3:=cT hq1 hb
   exact bK h3 fun y4 hy4 h5=>gO 2 E<|Kpe E<|Kex C (Lii hy4) E Z E E E E E<|gO 3 E<|oSi h5▸⟨⟨E,E,E,tV⟩,[],E,.inl E⟩
  have h6:=cF hq1 hb
  exact gO 6 E<|oSi h6▸⟨⟨E,E,E,tV⟩,[],E,.inl E⟩
 refine gO 2 E<|jC E h2 (fun h7=>?_) fun h8=>gA 11 E<|jC E h8 (fun h9=>?_) fun h10=>?_
 ·exact gA 7 E<|oSi h7▸Kfn hΓ [_] (.inr E) E E E E (.inr ⟨HB.mk E,E⟩)
 ·exact gA 7 E<|oSi h9▸Kfn hΓ [_] (.inr E) E E E E (.inr ⟨HB.mk E,E⟩)
 refine bK h10 fun y11 hy11 h12=>gA 7 E<|Kex C (Lje hy11) E Z E E E E E<|gO 9 E<|jC E h12 (fun h13=>?_) fun h14=>gA 15 E<|jC E h14 (fun h15=>?_) fun h16=>?_
 ·exact gA 8 E<|oSi h13▸Kfn hΓ [_] (.inr E) E E E E (.inr ⟨HB.mk E,E⟩)
 ·exact gA 7 E<|oSi h15▸Kfn hΓ [_] (.inr E) E E E E (.inr ⟨HB.mk E,E⟩)
 refine gA 11 E<|jC E h16 (fun h17=>?_) fun h18=>gA 11 E<|bK h18 fun q22 hq22 h23=>Kef 44 E fun hb25=>Kic (R:=fun a24=>q22=.go a24) (fun a24=>[(2,.ptr 1 0)]) (fun a24=>[Qib a24,.box 103 (gB n)]) ?_ ?_
 ·exact gA 7 E<|oSi h17▸Kfn hΓ [_] (.inr E) E E E E (.inr ⟨HB.mk E,E⟩)
 ·refine gA 1 E<|Kee n.Addrs hq22 (fun i19 s20=>[(1,.map 0),(2,.ptr 1 0),(44,.d (Sl Lfh n.Addrs)),(45,I (n.Addrs.length:Int)),(46,I (i19:Int))]) (fun s20=>[Qib s20,.box 103 (gB n)]) ⟨⟨E,E,E,E,E,tV⟩,[],E,.inl E⟩ (fun i19 x21 s20 y29 hx26 hlt hy27 hout28=>?_) (fun s20 hgo=>?_)
  ·refine gA 6 E<|Kdo E (dT (Int.ofNat_lt.2 hlt))<|gA 6 E<|eo_o E (Keg hΓ (enc:=Lfh) (Kdz hx26) E E E E E (fun _=>E))<|gO 1 E<|Kqn hΓ E E E Z<|Kqs hΓ E E E E E E E E Z<|Kfg [Qib s20,.box 103 (gB n),.box 46 (gh x21)] E<|bK hy27 fun y30 hy30 h31=>gO 6 E<|Kex C (Lir hy30) E Z E E E E E<|gO 9 E<|jC E h31 (fun h32=>?_) fun h35=>gA 7 E<|eo_o E (Kls hΓ (kenc:=Lfh) (agg:=false) (enc:=eB) s20 x21 (false:Bool) E E E Lhq (fun _=>E) E E E E E E E)<|gO 2 E<|jC E h35 (fun h36=>?_) fun h39=>?_
   ·refine gA 10 E<|bK h32 fun v33 hv33 h34=>?_
    cases h34
    obtain rfl:=hout28 _ rfl
    cases h23
    exact gA 4 E<|oSi hv33▸Kfn hΓ [_,_] (.inr E) E E E E (.inr ⟨HB.mk E,E⟩)
   ·refine gA 9 E<|bK h36 fun v37 hv37 h38=>?_
    cases h38
    obtain rfl:=hout28 _ rfl
    cases h23
    exact gA 4 E<|oSi hv37▸Kfn hΓ [_,_] (.inr E) E E E E (.inr ⟨HB.mk E,E⟩)
   refine gA 5 E<|eo_u Z (Klu hΓ (kenc:=Lfh) (agg:=false) (enc:=eB) (id:=0) s20 x21 true E E Lhq (fun _=>E) E E E E E)<|Kfg [Qib (mSet s20 x21 true),.box 103 (gB n),.box 46 (gh x21)] E<|gO 7 E ?_
   cases h39
   exact⟨_,E,⟨⟨E,E,E,E,Kcs E (Kcr (nLl hlt hb25)),tV⟩,[_],E,.inr ⟨HB.mk E,FB.mk E,Z⟩⟩⟩
  subst hgo
  exact gA 6 E<|Kdp E (dF (Int.lt_irrefl _))<|gA 4 E<|⟨_,E,⟨⟨E,tV⟩,[],E,.inl E⟩⟩
 intro a24 ha
 subst ha
 replace h23:=Khx h23
 refine gA 10 E<|jC E h23 (fun h40=>?_) fun h41=>gA 11 E<|bK h41 fun q45 hq45 h46=>Kef 66 E fun hb48=>Kic (R:=fun a47=>q45=.go a47) (fun a47=>[]) (fun a47=>[Qib a24,.box 103 (gB n)]) ?_ ?_
 ·exact gA 7 E<|oSi h40▸Kfn hΓ [_] (.inr E) E E E E (.inr ⟨HB.mk E,E⟩)
 ·refine gA 1 E<|Kee n.Routes hq45 (fun i42 s43=>[(2,.ptr 1 0),(66,.d (Sl Lfi n.Routes)),(67,I (n.Routes.length:Int)),(68,I (i42:Int))]) (fun s43=>[Qib a24,.box 103 (gB n)]) ⟨⟨E,E,E,E,tV⟩,[],E,.inl E⟩ (fun i42 x44 s43 y52 hx49 hlt hy50 hout51=>?_) (fun s43 hgo=>?_)
  ·refine gA 6 E<|Kdo E (dT (Int.ofNat_lt.2 hlt))<|gA 7 E<|eo_o E (Keg hΓ (enc:=Lfi) (Kdz hx49) E E E E E (fun _=>E))<|gO 1 E<|Kqn hΓ E E E Z<|gO 1 E<|Kqs hΓ E E E E E E E E Z<|Kfg [Qib a24,.box 103 (gB n),.box 106 (gk x44)] E<|bK hy50 fun y53 hy53 h54=>gO 6 E<|Kex C (Liw hy53) E Z E E E E E<|gO 9 E<|jC E h54 (fun h55=>?_) fun h58=>gA 3 E<|jD<|bK h58 fun z59 hz59 h60=>gA 3 E<|gl_o E (Ken hΓ (enc:=Lfi) hz59 E E E E E E (fun _=>E))<|bK h60 fun y61 hy61 h62=>Kdl hΓ 1 E<|Kez C (Lgz hy61) E E E E E E<|Kdl hΓ 2 E<|jC E h62 (fun h63=>?_) fun h66=>?_
   ·refine gA 10 E<|bK h55 fun v56 hv56 h57=>?_
    cases h57
    obtain rfl:=hout51 _ rfl
    cases h46
    exact gA 4 E<|oSi hv56▸Kfn hΓ [_,_] (.inr E) E E E E (.inr ⟨HB.mk E,E⟩)
   ·refine gA 8 E<|bK h63 fun v64 hv64 h65=>?_
    cases h65
    obtain rfl:=hout51 _ rfl
    cases h46
    exact gA 4 E<|oSi hv64▸Kfn hΓ [_,_] (.inr E) E E E E (.inr ⟨HB.mk E,E⟩)
   refine gA 7 E ?_
   cases h66
   exact⟨_,E,⟨⟨E,E,E,Kcs E (Kcr (nLl hlt hb48)),tV⟩,[_],E,.inr ⟨HB.mk E,FB.mk E,Z⟩⟩⟩
  subst hgo
  exact gA 6 E<|Kdp E (dF (Int.lt_irrefl _))<|gA 4 E<|⟨_,E,⟨tV,[],E,.inl E⟩⟩
 intro a47 ha
 subst ha
 replace h46:=Khx h46
 exact gA 7 E<|oSi h46▸Kfn hΓ [_] (.inr E) E E E E (.inr ⟨HB.mk E,E⟩)
theorem Ljj{k:Nat}{l:List Kxo}{r:Int}(h:Lbg k l=some r):Pure Tryz.prog 59 [.d (Sl Lfr l)] (I r):=by
 unfold Lbg at h
 refine QP Tryz.func59 E E E<|gA 13 E<|jC E h (fun h1=>?_) fun h2=>gA 4 E<|eo_s Z (nblt.1 E) (Kjn false)<|Kfg [Qib ([]:List (Kxe×Bool))] E<|gO 11 E<|bK h2 fun q6 hq6 h7=>Kef 0 E fun hb9=>Kic (R:=fun a8=>q6=.go a8) (fun a8=>[]) (fun a8=>[Qib a8]) ?_ ?_
 ·exact gA 7 E<|oSi h1▸gP E E
 ·refine gA 1 E<|Kee l hq6 (fun i3 s4=>[(0,.d (Sl Lfr l)),(3,.map 0),(11,.d (Sl Lfr l)),(12,I (l.length:Int)),(13,I (i3:Int))]) (fun s4=>[Qib s4]) ⟨⟨E,E,E,E,E,tV⟩,[],E,.inl E⟩ (fun i3 x5 s4 y13 hx10 hlt hy11 hout12=>?_) (fun s4 hgo=>?_)
  ·refine gA 6 E<|Kdo E (dT (Int.ofNat_lt.2 hlt))<|gA 7 E<|eo_o E (Keg hΓ (enc:=Lfr) (Kdz hx10) E E E E E (fun _=>E))<|gO 1 E<|Kqn hΓ E E E Z<|gO 1 E<|Kqs hΓ E E E E E E E E Z<|Kfg [Qib s4,.box 103 (gB x5)] E<|bK hy11 fun y14 hy14 h15=>gO 8 E<|Kex C (Lii hy14) E Z E E E E E<|gO 2 E<|bK h15 fun q16 hq16 h17=>Kdt 5 [(0,.d (Sl Lfr l)),(3,.map 0),(4,I (i3:Int)),(5,.ptr 1 0),(11,.d (Sl Lfr l)),(12,I (l.length:Int)),(13,I (i3:Int)),(28,B q16)] [Qib s4,.box 103 (gB x5)] ?_ ?_
   ·refine Kpg E E (fun hb=>?_) (fun hb=>?_)
    ·have h18:=cT hq16 hb
     exact gO 6 E<|oSi h18▸⟨⟨E,E,E,E,E,E,E,E,tV⟩,[],E,.inl E⟩
    have h19:=cF hq16 hb
    exact bK h19 fun y20 hy20 h21=>gO 2 E<|Kpe E<|Kex C (Lii hy20) E Z E E E E E<|gO 3 E<|oSi h21▸⟨⟨E,E,E,E,E,E,E,E,tV⟩,[],E,.inl E⟩
   refine gO 3 E<|jC E h17 (fun h22=>?_) fun h25=>bK h25 fun q26 hq26 h27=>gA 1 E<|Kid [(0,.d (Sl Lfr l)),(3,.map 0),(5,.ptr 1 0),(11,.d (Sl Lfr l)),(12,I (l.length:Int)),(13,I (i3:Int)),(29,B q26)] [Qib s4,.box 103 (gB x5)] ?_ ?_
   ·refine gA 10 E<|bK h22 fun v23 hv23 h24=>?_
    cases h24
    obtain rfl:=hout12 _ rfl
    cases h7
    exact gA 4 E<|oSi hv23▸gP E E
   ·refine jD<|gA 3 E<|Kbx E E (fun hb=>?_) (fun hb=>?_)
    ·have h28:=cT hq26 hb
     exact bK h28 fun x29 hx29 h30=>Kdl hΓ 5 E<|Kcu E E (Keg hΓ (enc:=Lfr) hx29 E E E E E (fun _=>E))<|Kdl hΓ 6 E<|oSi h30▸⟨⟨E,E,E,E,E,E,E,tV⟩,[],E,.inl E⟩
    have h31:=cF hq26 hb
    exact Kdl hΓ 12 E<|oSi h31▸⟨⟨E,E,E,E,E,E,E,tV⟩,[],E,.inl E⟩
   refine gA 1 E<|jC E h27 (fun h32=>?_) fun h35=>bK h35 fun y36 hy36 h37=>gA 7 E<|Kew [0] (I y36.1) [Qib y36.2,.box 103 (gB x5)] C (Lji hy36) E Z E E E E E E E E E E<|gO 9 E<|jC E h37 (fun h38=>?_) fun h41=>?_
   ·refine gA 10 E<|bK h32 fun v33 hv33 h34=>?_
    cases h34
    obtain rfl:=hout12 _ rfl
    cases h7
    exact gA 4 E<|oSi hv33▸gP E E
   ·refine gA 9 E<|bK h38 fun v39 hv39 h40=>?_
    cases h40
    obtain rfl:=hout12 _ rfl
    cases h7
    exact gA 4 E<|oSi hv39▸gP E E
   refine gA 7 E ?_
   cases h41
   exact⟨_,E,⟨⟨E,E,E,E,Kcs E (Kcr (nLl hlt hb9)),tV⟩,[_],E,.inr ⟨HB.mk E,FB.mk E,Z⟩⟩⟩
  subst hgo
  exact gA 6 E<|Kdp E (dF (Int.lt_irrefl _))<|gA 4 E<|⟨_,E,⟨tV,[],E,.inl E⟩⟩
 intro a8 ha
 subst ha
 replace h7:=Khx h7
 exact gA 7 E<|oSi h7▸gP E E
theorem Ljk{n:Kxo}{v_k:Str}{r:Int}(h:Lbh n v_k=some r):Pure Tryz.prog 144 [.agg (gB n),S v_k] (I r):=by
 unfold Lbh at h
 exact QP Tryz.func144 E E E<|gA 2 E<|Kqo E E E E Z<|bK h fun y1 hy1 h2=>gO 8 E<|Kex C (Ktk hy1) E Z E E E E E<|gO 4 E<|oSi h2▸gP E E
theorem Ljl{k:Nat}{x:List Kxo}{target:Str}{r:Int×Bool}(h:Lbi k x target=some r):Pure Tryz.prog 143 [.d (Sl Lfr x),S target,.fn (.func 144) [] []] (.tup [I r.1,B r.2]):=by
 unfold Lbi at h
 refine QP Tryz.func143 E E E<|gA 21 E<|bK h fun q4 hq4 h5=>Kid [(0,.d (Sl Lfr x)),(1,S target),(2,.fn (.func 144) [] []),(8,I (x.length:Int)),(9,I q4)] [] ?_ ?_
 ·refine gA 1 E<|Kec hq4 (fun s2=>[(0,.d (Sl Lfr x)),(1,S target),(2,.fn (.func 144) [] []),(8,I (x.length:Int)),(9,I s2.1),(10,I s2.2)]) (fun s2=>[]) ⟨⟨E,E,E,E,E,E,tV⟩,[],E,.inl E⟩ (fun s2 y10 hy8 hout9=>?_)
  refine gA 8 E<|jC E hy8 (fun h11=>?_) fun h18=>gA 4 E ?_
  ·refine bK h11 fun x12 hx12 h13=>gA 19 E<|eo_o E (Keg hΓ (enc:=Lfr) hx12 E E E E E (fun _=>E))<|bK h13 fun y14 hy14 h15=>gO 2 E<|Kex C (Ljk hy14) E Z E E E E E<|gO 3 E<|jC E h15 (fun h16=>?_) fun h17=>gA 5 E<|oSi h17▸⟨_,E,⟨⟨E,E,E,E,E,E,tV⟩,[],E,.inl E⟩⟩
   exact gA 6 E<|oSi h16▸⟨_,E,⟨⟨E,E,E,E,E,E,tV⟩,[],E,.inl E⟩⟩
  cases h18
  obtain rfl:=hout9 _ rfl
  exact⟨⟨E,E,E,E,E,tV⟩,[],E,.inl E⟩
 refine gA 8 E<|bK h5 fun q19 hq19 h20=>Kdt 9 [(35,I q4),(48,B q19)] [] ?_ ?_
 ·refine Kpg E E (fun hb=>?_) (fun hb=>?_)
  ·have h21:=cT hq19 hb
   exact bK h21 fun x22 hx22 h23=>gO 3 E<|Kpe E<|eo_o E (Keg hΓ (enc:=Lfr) hx22 E E E E E (fun _=>E))<|bK h23 fun y24 hy24 h25=>gO 2 E<|Kpe E<|Kex C (Ljk hy24) E Z E E E E E<|gO 3 E<|oSi h25▸⟨⟨E,E,tV⟩,[],E,.inl E⟩
  have h26:=cF hq19 hb
  exact gO 10 E<|oSi h26▸⟨⟨E,E,tV⟩,[],E,.inl E⟩
 exact gO 5 E<|oSi h20▸gP E E
theorem Ljm{k:Nat}{l:List Kxo}{key:Str}{r:Int×Bool}(h:Lbj k l key=some r):Pure Tryz.prog 88 [.d (Sl Lfr l),S key] (.tup [I r.1,B r.2]):=by
 unfold Lbj at h
 exact QP Tryz.func88 E E E<|bK h fun y1 hy1 h2=>gA 10 E<|Kex C (Ljl hy1) E Z E E E E E<|gO 7 E<|oSi h2▸gP E E
theorem Ljn{k:Nat}{nodes:List Kxo}{l:List Kxp}{r:Int}(h:Lbk k nodes l=some r):Pure Tryz.prog 58 [.d (Sl Lfr nodes),.d (Sl Lfs l)] (I r):=by
 unfold Lbk at h
 refine QP Tryz.func58 E E E<|bK h fun y1 hy1 h2=>gA 9 E<|Kex C (Ljj hy1) E Z E E E E E<|gO 9 E<|jC E h2 (fun h3=>?_) fun h4=>gA 10 E<|jC E h4 (fun h5=>?_) fun h6=>?_
 ·exact gA 8 E<|oSi h3▸gP E E
 ·exact gA 7 E<|oSi h5▸gP E E
 refine gA 10 E<|bK h6 fun q10 hq10 h11=>Kef 1 E fun hb13=>Kic (R:=fun a12=>q10=.go a12) (fun a12=>[]) (fun a12=>[]) ?_ ?_
 ·refine gA 1 E<|Kee l hq10 (fun i7 s8=>[(0,.d (Sl Lfr nodes)),(1,.d (Sl Lfs l)),(18,.d (Sl Lfs l)),(19,I (l.length:Int)),(20,I (i7:Int))]) (fun s8=>[]) ⟨⟨E,E,E,E,E,tV⟩,[],E,.inl E⟩ (fun i7 x9 s8 y17 hx14 hlt hy15 hout16=>?_) (fun s8 hgo=>?_)
  ·refine gA 6 E<|Kdo E (dT (Int.ofNat_lt.2 hlt))<|gA 7 E<|eo_o E (Keg hΓ (enc:=Lfs) (Kdz hx14) E E E E E (fun _=>E))<|gO 1 E<|Kqn hΓ E E E Z<|gO 1 E<|Kqs hΓ E E E E E E E E Z<|Kfg [.box 63 (gC x9)] E<|bK hy15 fun y18 hy18 h19=>gO 8 E<|Kex C (Ljm hy18) E Z E E E E E<|gO 13 E<|jC E h19 (fun h20=>?_) fun h23=>bK h23 fun y24 hy24 h25=>gA 7 E<|Kex C (Lii hy24) E Z E E E E E<|gO 3 E<|jC E h25 (fun h26=>?_) fun h29=>?_
   ·refine gA 9 E<|bK h20 fun v21 hv21 h22=>?_
    cases h22
    obtain rfl:=hout16 _ rfl
    cases h11
    exact gA 4 E<|oSi hv21▸gP E E
   ·refine gA 9 E<|bK h26 fun v27 hv27 h28=>?_
    cases h28
    obtain rfl:=hout16 _ rfl
    cases h11
    exact gA 4 E<|oSi hv27▸gP E E
   refine bK h29 fun q30 hq30 h31=>gA 3 E<|Kid [(0,.d (Sl Lfr nodes)),(1,.d (Sl Lfs l)),(18,.d (Sl Lfs l)),(19,I (l.length:Int)),(20,I (i7:Int)),(72,B q30)] [.box 63 (gC x9)] ?_ ?_
   ·refine jD<|gA 3 E<|Kbx E E (fun hb=>?_) (fun hb=>?_)
    ·have h32:=cT hq30 hb
     refine bK h32 fun x33 hx33 h34=>Kdl hΓ 5 E<|Kcu E E (Keg hΓ (enc:=Lfs) hx33 E E E E E (fun _=>E))<|Kdl hΓ 4 E<|Kbx E E (fun hb=>?_) (fun hb=>?_)
     ·have h35:=cT h34 hb
      exact Kdl hΓ 23 E<|oSi h35▸⟨⟨E,E,E,E,E,E,tV⟩,[],E,.inl E⟩
     have h36:=cF h34 hb
     refine bK h36 fun x37 hx37 h38=>Kdl hΓ 5 E<|Kcu E E (Keg hΓ (enc:=Lfs) hx37 E E E E E (fun _=>E))<|Kdl hΓ 4 E<|Kbx E E (fun hb=>?_) (fun hb=>?_)
     ·have h39:=cT h38 hb
      exact bK h39 fun x40 hx40 h41=>Kdl hΓ 5 E<|Kcu E E (Keg hΓ (enc:=Lfs) hx40 E E E E E (fun _=>E))<|Kdl hΓ 7 E<|oSi h41▸⟨⟨E,E,E,E,E,E,tV⟩,[],E,.inl E⟩
     have h42:=cF h38 hb
     exact Kdl hΓ 13 E<|oSi h42▸⟨⟨E,E,E,E,E,E,tV⟩,[],E,.inl E⟩
    have h43:=cF hq30 hb
    exact Kdl hΓ 33 E<|oSi h43▸⟨⟨E,E,E,E,E,E,tV⟩,[],E,.inl E⟩
   refine gA 1 E<|jC E h31 (fun h44=>?_) fun h47=>gA 7 E ?_
   ·refine gA 8 E<|bK h44 fun v45 hv45 h46=>?_
    cases h46
    obtain rfl:=hout16 _ rfl
    cases h11
    exact gA 4 E<|oSi hv45▸gP E E
   cases h47
   exact⟨_,E,⟨⟨E,E,E,E,Kcs E (Kcr (nLl hlt hb13)),tV⟩,[_],E,.inr ⟨HB.mk E,FB.mk E,Z⟩⟩⟩
  subst hgo
  exact gA 6 E<|Kdp E (dF (Int.lt_irrefl _))<|gA 4 E<|⟨_,E,⟨tV,[],E,.inl E⟩⟩
 intro a12 ha
 subst ha
 replace h11:=Khx h11
 exact gA 7 E<|oSi h11▸gP E E
theorem Ljo{k:Nat}{s:Kxq}{r:Int}(h:Lbl k s=some r):Pure Tryz.prog 29 [.agg (gD s)] (I r):=by
 unfold Lbl at h
 refine QP Tryz.func29 E E E<|gA 2 E<|Kqo E E E E Z<|bK h fun y1 hy1 h2=>gO 8 E<|Kex C (Ljh hy1) E Z E E E E E<|gO 9 E<|jC E h2 (fun h3=>?_) fun h4=>bK h4 fun y5 hy5 h6=>gA 8 E<|Kex C (Ljn hy5) E Z E E E E E<|gO 4 E<|oSi h6▸gP E E
 exact gA 8 E<|oSi h3▸gP E E
theorem Ljp{a:Bool}{b:Bool}{r:Int}(h:Lbm a b=some r):Pure Tryz.prog 146 [B a,B b] (I r):=by
 unfold Lbm at h
 refine QP Tryz.func146 E E E<|gA 15 E<|jC E h (fun h1=>?_) fun h2=>gA 6 E<|jC E h2 (fun h3=>?_) fun h4=>?_
 ·exact gA 8 E<|oSi h1▸gP E E
 ·exact gA 8 E<|oSi h3▸gP E E
 exact gA 9 E<|oSi h4▸gP E E
theorem Ljq{x:Int}{r:Bool}(h:Lbn x=some r):Pure Tryz.prog 238 [U x] (B r):=by
 unfold Lbn at h
 exact QP Tryz.func238 E E E<|gA 14 E<|oSi h▸gP E E
theorem Ljr{x:Int}{y:Int}{r:Int}(h:Lbo x y=some r):Pure Tryz.prog 200 [U x,U y] (I r):=by
 unfold Lbo at h
 refine QP Tryz.func200 E E E<|bK h fun y1 hy1 h2=>gA 8 E<|Kex C (Ljq hy1) E Z E E E E E<|bK h2 fun y3 hy3 h4=>gO 6 E<|Kex C (Ljq hy3) E Z E E E E E<|gO 9 E<|jC E h4 (fun h5=>?_) fun h8=>gA 8 E<|jC E h8 (fun h9=>?_) fun h10=>?_
 ·refine gA 6 E<|jC E h5 (fun h6=>?_) fun h7=>gA 9 E<|oSi h7▸gP E E
  exact gA 8 E<|oSi h6▸gP E E
 ·exact gA 7 E<|oSi h9▸gP E E
 refine gA 10 E<|jC E h10 (fun h11=>?_) fun h12=>gA 10 E<|jC E h12 (fun h13=>?_) fun h14=>?_
 ·exact gA 7 E<|oSi h11▸gP E E
 ·exact gA 7 E<|oSi h13▸gP E E
 exact gA 8 E<|oSi h14▸gP E E
theorem Ljs{vals:List Int}{r:Int}(h:Lbp vals=some r):Pure Tryz.prog 145 [.d (Sl (eN .i64) vals)] (I r):=by
 unfold Lbp at h
 refine QP Tryz.func145 E E E<|gA 18 E<|bK h fun q4 hq4 h5=>Kef 6 E fun hb7=>Kic (R:=fun a6=>q4=.go a6) (fun a6=>[(3,I 0)]) (fun a6=>[]) ?_ ?_
 ·refine gA 1 E<|Kee vals hq4 (fun i1 s2=>[(3,I 0),(6,.d (Sl (eN .i64) vals)),(7,I (vals.length:Int)),(8,I (i1:Int))]) (fun s2=>[]) ⟨⟨E,E,E,E,tV⟩,[],E,.inl E⟩ (fun i1 x3 s2 y11 hx8 hlt hy9 hout10=>?_) (fun s2 hgo=>?_)
  ·refine gA 6 E<|Kdo E (dT (Int.ofNat_lt.2 hlt))<|gA 6 E<|eo_o E (Keg hΓ (enc:=(eN .i64)) (Kdz hx8) E E E E E (fun _=>E))<|gO 11 E<|jC E hy9 (fun h12=>?_) fun h15=>gA 7 E ?_
   ·refine gA 9 E<|bK h12 fun v13 hv13 h14=>?_
    cases h14
    obtain rfl:=hout10 _ rfl
    cases h5
    exact gA 4 E<|oSi hv13▸gP E E
   cases h15
   exact⟨_,E,⟨⟨E,E,E,Kcs E (Kcr (nLl hlt hb7)),tV⟩,[],E,.inl E⟩⟩
  subst hgo
  exact gA 6 E<|Kdp E (dF (Int.lt_irrefl _))<|gA 4 E<|⟨_,E,⟨⟨E,tV⟩,[],E,.inl E⟩⟩
 intro a6 ha
 subst ha
 replace h5:=Khx h5
 exact gA 8 E<|oSi h5▸gP E E
theorem Ljt{a:Kxe}{b:Kxe}{r:Int}(h:Lbq a b=some r):Pure Tryz.prog 151 [.agg (gh a),.agg (gh b)] (I r):=by
 unfold Lbq at h
 refine QP Tryz.func151 E E E<|gA 2 E<|Kqo E E E E Z<|Kqo E E E E Z<|gO 13 E<|jC E h (fun h1=>?_) fun h4=>gA 3 E<|jD<|bK h4 fun y5 hy5 h6=>gA 4 E<|Kez C (Ljr hy5) E E E E E E<|bK h6 fun y7 hy7 h8=>Kdl hΓ 4 E<|Kez C (Ljr hy7) E E E E E E<|Kes hΓ (enc:=(eN .i64)) [y5,y7] E E E E E E E E E E E E<|bK h8 fun y9 hy9 h10=>Kez C (Ljs hy9) E E E E E E<|Kdl hΓ 4 E<|oSi h10▸gP E E
 refine gA 7 E<|jC E h1 (fun h2=>?_) fun h3=>gA 9 E<|oSi h3▸gP E E
 exact gA 8 E<|oSi h2▸gP E E
theorem Lju{a:Kxl}{b:Kxl}{r:Int}(h:Lbr a b=some r):Pure Tryz.prog 147 [.agg (gu a),.agg (gu b)] (I r):=by
 unfold Lbr at h
 exact QP Tryz.func147 E E E<|gA 2 E<|Kqo E E E E Z<|Kqo E E E E Z<|gO 4 E<|jD<|bK h fun y1 hy1 h2=>gA 4 E<|Kez C (Lho hy1) E E E E E E<|bK h2 fun y3 hy3 h4=>Kdl hΓ 4 E<|Kez C (Ljt hy3) E E E E E E<|bK h4 fun y5 hy5 h6=>Kdl hΓ 4 E<|Kez C (Ljt hy5) E E E E E E<|bK h6 fun y7 hy7 h8=>Kdl hΓ 4 E<|Kez C (Lho hy7) E E E E E E<|bK h8 fun y9 hy9 h10=>Kdl hΓ 4 E<|Kez C (Lho hy9) E E E E E E<|Kes hΓ (enc:=(eN .i64)) [y1,y3,y5,y7,y9] E E E E E E E E E E E E<|bK h10 fun y11 hy11 h12=>Kez C (Ljs hy11) E E E E E E<|Kdl hΓ 4 E<|oSi h12▸gP E E
theorem Ljv{a:Kxr}{b:Kxr}{r:Int}(h:Lbs a b=some r):Pure Tryz.prog 91 [.agg (gE a),.agg (gE b)] (I r):=by
 unfold Lbs at h
 exact QP Tryz.func91 E E E<|gA 2 E<|Kqo E E E E Z<|Kqo E E E E Z<|gO 4 E<|jD<|bK h fun y1 hy1 h2=>gA 4 E<|Kez C (Lho hy1) E E E E E E<|bK h2 fun y3 hy3 h4=>Kdl hΓ 4 E<|Kez C (Ktk hy3) E E E E E E<|bK h4 fun y5 hy5 h6=>Kdl hΓ 4 E<|Kez C (Ljp hy5) E E E E E E<|bK h6 fun y7 hy7 h8=>Kdl hΓ 4 E<|Kez C (Lju hy7) E E E E E E<|Kes hΓ (enc:=(eN .i64)) [y1,y3,y5,y7] E E E E E E E E E E E E<|bK h8 fun y9 hy9 h10=>Kez C (Ljs hy9) E E E E E E<|Kdl hΓ 4 E<|oSi h10▸gP E E
theorem Ljw{k:Nat}{l:List Kxr}{r:Int}(h:Lbt k l=some r):Pure Tryz.prog 60 [.d (Sl Lfu l)] (I r):=by
 unfold Lbt at h
 refine QP Tryz.func60 E E E<|gA 13 E<|jC E h (fun h1=>?_) fun h2=>gA 10 E<|bK h2 fun q6 hq6 h7=>Kef 0 E fun hb9=>Kic (R:=fun a8=>q6=.go a8) (fun a8=>[]) (fun a8=>[]) ?_ ?_
 ·exact gA 7 E<|oSi h1▸gP E E
 ·refine gA 1 E<|Kee l hq6 (fun i3 s4=>[(0,.d (Sl Lfu l)),(9,.d (Sl Lfu l)),(10,I (l.length:Int)),(11,I (i3:Int))]) (fun s4=>[]) ⟨⟨E,E,E,E,tV⟩,[],E,.inl E⟩ (fun i3 x5 s4 y13 hx10 hlt hy11 hout12=>?_) (fun s4 hgo=>?_)
  ·refine gA 6 E<|Kdo E (dT (Int.ofNat_lt.2 hlt))<|gA 7 E<|eo_o E (Keg hΓ (enc:=Lfu) (Kdz hx10) E E E E E (fun _=>E))<|gO 1 E<|Kqn hΓ E E E Z<|gO 1 E<|Kqs hΓ E E E E E E E E Z<|Kfg [.box 50 (gE x5)] E<|bK hy11 fun y14 hy14 h15=>gO 8 E<|Kex C (Lii hy14) E Z E E E E E<|gO 4 E<|jC E h15 (fun h16=>?_) fun h19=>bK h19 fun y20 hy20 h21=>gA 4 E<|Kex C (Lit hy20) E Z E E E E E<|gO 3 E<|jC E h21 (fun h22=>?_) fun h25=>?_
   ·refine gA 10 E<|bK h16 fun v17 hv17 h18=>?_
    cases h18
    obtain rfl:=hout12 _ rfl
    cases h7
    exact gA 4 E<|oSi hv17▸gP E E
   ·refine gA 10 E<|bK h22 fun v23 hv23 h24=>?_
    cases h24
    obtain rfl:=hout12 _ rfl
    cases h7
    exact gA 4 E<|oSi hv23▸gP E E
   refine bK h25 fun y26 hy26 h27=>gA 8 E<|Kex C (Ljg hy26) E Z E E E E E<|gO 9 E<|jC E h27 (fun h28=>?_) fun h31=>bK h31 fun y32 hy32 h33=>gA 7 E<|Kex C (Lit hy32) E Z E E E E E<|gO 1 E<|bK h33 fun q34 hq34 h35=>Kdt 4 [(0,.d (Sl Lfu l)),(3,I (i3:Int)),(4,.ptr 0 0),(9,.d (Sl Lfu l)),(10,I (l.length:Int)),(11,I (i3:Int)),(38,B q34)] [.box 50 (gE x5)] ?_ ?_
   ·refine gA 10 E<|bK h28 fun v29 hv29 h30=>?_
    cases h30
    obtain rfl:=hout12 _ rfl
    cases h7
    exact gA 4 E<|oSi hv29▸gP E E
   ·refine Kpg E E (fun hb=>?_) (fun hb=>?_)
    ·have h36:=cT hq34 hb
     exact gO 5 E<|oSi h36▸⟨⟨E,E,E,E,E,E,E,tV⟩,[],E,.inl E⟩
    have h37:=cF hq34 hb
    exact bK h37 fun y38 hy38 h39=>gO 2 E<|Kpe E<|Kex C (Lit hy38) E Z E E E E E<|gO 2 E<|oSi h39▸⟨⟨E,E,E,E,E,E,E,tV⟩,[],E,.inl E⟩
   refine gO 2 E<|jC E h35 (fun h40=>?_) fun h43=>bK h43 fun q44 hq44 h45=>gA 3 E<|Kid [(0,.d (Sl Lfu l)),(9,.d (Sl Lfu l)),(10,I (l.length:Int)),(11,I (i3:Int)),(50,B q44)] [.box 50 (gE x5)] ?_ ?_
   ·refine gA 9 E<|bK h40 fun v41 hv41 h42=>?_
    cases h42
    obtain rfl:=hout12 _ rfl
    cases h7
    exact gA 4 E<|oSi hv41▸gP E E
   ·refine jD<|gA 3 E<|Kbx E E (fun hb=>?_) (fun hb=>?_)
    ·have h46:=cT hq44 hb
     exact bK h46 fun x47 hx47 h48=>Kdl hΓ 3 E<|Kcu E E (Keg hΓ (enc:=Lfu) hx47 E E E E E (fun _=>E))<|bK h48 fun y49 hy49 h50=>Kdl hΓ 2 E<|Kfa C (Ljv hy49) E E E E E E E<|Kdl hΓ 3 E<|oSi h50▸⟨⟨E,E,E,E,E,tV⟩,[],E,.inl E⟩
    have h51:=cF hq44 hb
    exact Kdl hΓ 10 E<|oSi h51▸⟨⟨E,E,E,E,E,tV⟩,[],E,.inl E⟩
   refine gA 1 E<|jC E h45 (fun h52=>?_) fun h55=>gA 7 E ?_
   ·refine gA 8 E<|bK h52 fun v53 hv53 h54=>?_
    cases h54
    obtain rfl:=hout12 _ rfl
    cases h7
    exact gA 4 E<|oSi hv53▸gP E E
   cases h55
   exact⟨_,E,⟨⟨E,E,E,Kcs E (Kcr (nLl hlt hb9)),tV⟩,[_],E,.inr ⟨HB.mk E,FB.mk E,Z⟩⟩⟩
  subst hgo
  exact gA 6 E<|Kdp E (dF (Int.lt_irrefl _))<|gA 4 E<|⟨_,E,⟨tV,[],E,.inl E⟩⟩
 intro a8 ha
 subst ha
 replace h7:=Khx h7
 exact gA 7 E<|oSi h7▸gP E E
theorem Ljx{l:List Kxo}{r:List (Kxe×Str)}(h:Lbu l=some r):EC Tryz.prog 61 [.d (Sl Lfr l)] [] fun g hp'=>g=.map 0∧hp'=[Qmb r]:=by
 unfold Lbu at h
 refine QM Tryz.func61 E Z<|gA 7 E<|eo_s Z (nblt.1 E) (Kjn false)<|Kfg [Qmb ([]:List (Kxe×Str))] E<|gO 11 E<|bK h fun q4 hq4 h5=>Kef 9 E fun hb7=>Kid [(3,.map 0)] [Qmb q4] ?_ ?_
 ·refine gA 1 E<|Kfp l hq4 (fun i1 s2=>[(3,.map 0),(9,.d (Sl Lfr l)),(10,I (l.length:Int)),(11,I (i1:Int))]) (fun s2=>[Qmb s2]) ⟨⟨E,E,E,E,tV⟩,[],E,.inl E⟩ (fun i1 x3 s2 y11 hx8 hlt hy9=>?_) (?_)
  ·refine gA 6 E<|Kdo E (dT (Int.ofNat_lt.2 hlt))<|gA 6 E<|eo_o E (Keg hΓ (enc:=Lfr) (Kdz hx8) E E E E E (fun _=>E))<|gO 1 E<|Kqn hΓ E E E Z<|Kqs hΓ E E E E E E E E Z<|Kfg [Qmb s2,.box 103 (gB x3)] E<|gO 10 E<|bK hy9 fun q15 hq15 h16=>Kef 16 E fun hb18=>Kid [(3,.map 0),(9,.d (Sl Lfr l)),(10,I (l.length:Int)),(11,I (i1:Int))] [Qmb q15,.box 103 (gB x3)] ?_ ?_
   ·refine gA 1 E<|Kfp x3.Addrs hq15 (fun i12 s13=>[(3,.map 0),(5,.ptr 1 0),(9,.d (Sl Lfr l)),(10,I (l.length:Int)),(11,I (i1:Int)),(16,.d (Sl Lfh x3.Addrs)),(17,I (x3.Addrs.length:Int)),(18,I (i12:Int))]) (fun s13=>[Qmb s13,.box 103 (gB x3)]) ⟨⟨E,E,E,E,E,E,E,E,tV⟩,[],E,.inl E⟩ (fun i12 x14 s13 y22 hx19 hlt hy20=>?_) (?_)
    ·refine gA 6 E<|Kdo E (dT (Int.ofNat_lt.2 hlt))<|gA 6 E<|eo_o E (Keg hΓ (enc:=Lfh) (Kdz hx19) E E E E E (fun _=>E))<|gO 1 E<|Kqn hΓ E E E Z<|Kqs hΓ E E E E E E E E Z<|Kfg [Qmb s13,.box 103 (gB x3),.box 46 (gh x14)] E<|gO 7 E<|eo_u Z (Klu hΓ (kenc:=Lfh) (agg:=false) (enc:=eS) (id:=0) s13 x14 x3.Key E E Lhq (fun _=>E) E E E E E)<|Kfg [Qmb (mSet s13 x14 x3.Key),.box 103 (gB x3),.box 46 (gh x14)] E<|gO 7 E ?_
     cases hy20
     exact⟨⟨E,E,E,E,E,E,E,Kcs E (Kcr (nLl hlt hb18)),tV⟩,[_],E,.inr ⟨HB.mk E,FB.mk E,Z⟩⟩
    exact gA 6 E<|Kdp E (dF (Int.lt_irrefl _))<|gA 4 E<|⟨⟨E,E,E,E,tV⟩,[],E,.inl E⟩
   refine gA 6 E ?_
   cases h16
   exact⟨⟨E,E,E,Kcs E (Kcr (nLl hlt hb7)),tV⟩,[_],E,.inr ⟨HB.mk E,FB.mk E,Z⟩⟩
  exact gA 6 E<|Kdp E (dF (Int.lt_irrefl _))<|gA 4 E<|⟨⟨E,tV⟩,[],E,.inl E⟩
 exact gA 8 E<|Khz<|oSi h5▸Kfn hΓ [] (.inr E) E E E E (.inl E)
theorem Ljy{k:Nat}{nodes:List Kxo}{l:List Kxr}{r2:Int}(h:Lbv k nodes l=some (none,r2)):EC Tryz.prog 30 [.d (Sl Lfr nodes),.d (Sl Lfu l)] [] fun g hp'=>g=.tup [.d (.v (.pointer none)),I r2]∧hp'=[]:=by
 unfold Lbv at h
 refine QM Tryz.func30 E Z<|bK h fun y1 hy1 h2=>gA 10 E<|Kex C (Ljj hy1) E Z E E E E E<|gO 9 E<|jC E h2 (fun h3=>?_) fun h4=>bK h4 fun y5 hy5 h6=>gA 6 E<|Kex C (Ljw hy5) E Z E E E E E<|gO 9 E<|jC E h6 (fun h7=>?_) fun h8=>?_
 ·refine gA 9 E<|Khz ?_
  cases h3
  exact Kfn hΓ [] (.inr E) E E E E (.inl E)
 ·refine gA 9 E<|Khz ?_
  cases h7
  exact Kfn hΓ [] (.inr E) E E E E (.inl E)
 refine bK h8 fun y9 hy9 h10=>gA 7 E<|Kew [] (.map 0) [Qmb y9] C (Ljx hy9) E Z E E E E E E E E E E<|Kbn hΓ (gs:=[.d (Sl Lfr nodes),.d (Sl Lfu l),.map 0]) E E E E E E E<|Kqo E E E E Z<|gO 5 E<|Khz ?_
 cases h10
theorem Ljz{k:Nat}{nodes:List Kxo}{l:List Kxr}{r1:Kxs}{r2:Int}(h:Lbv k nodes l=some (some r1,r2)):EC Tryz.prog 30 [.d (Sl Lfr nodes),.d (Sl Lfu l)] [] fun g hp'=>g=.tup [.ptr 1 0,I r2]∧hp'=[Qmb r1.owners,.box 132 [.d (Sl Lfr r1.nodes),.d (Sl Lfu r1.list),.map 0]]:=by
 unfold Lbv at h
 refine QM Tryz.func30 E Z<|bK h fun y1 hy1 h2=>gA 10 E<|Kex C (Ljj hy1) E Z E E E E E<|gO 9 E<|jC E h2 (fun h3=>?_) fun h4=>bK h4 fun y5 hy5 h6=>gA 6 E<|Kex C (Ljw hy5) E Z E E E E E<|gO 9 E<|jC E h6 (fun h7=>?_) fun h8=>?_
 ·refine gA 9 E<|Khz ?_
  cases h3
 ·refine gA 9 E<|Khz ?_
  cases h7
 refine bK h8 fun y9 hy9 h10=>gA 7 E<|Kew [] (.map 0) [Qmb y9] C (Ljx hy9) E Z E E E E E E E E E E<|Kbn hΓ (gs:=[.d (Sl Lfr nodes),.d (Sl Lfu l),.map 0]) E E E E E E E<|Kqo E E E E Z<|gO 5 E<|Khz ?_
 cases h10
 exact Kfn hΓ [] (.inr E) E E E E (.inl E)
theorem Lka{s:List Kxt}{r:List Kxt}(h:Lbw s=some r):EC Tryz.prog 148 [.d (Sl Lfv s)] [] fun g hp'=>g=.sl 0 r.length∧hp'=[Qnb r]:=by
 unfold Lbw at h
 refine QM Tryz.func148 E Z<|gA 2 E<|Keu (t:=0) 180 6 E Z<|gO 6 E<|Kde hΓ E E E E E fun b hbn=>?_
 rcases b with _ | _
 ·exact gO 7 E<|Ket hΓ (enc:=Lfv) ([]:List Kxt) E E E E E E E E E E E E Z<|bK h fun y1 hy1 h2=>gO 1 E<|Kfh hΓ (enc:=Lfv) hy1 E E E E E E E E E (fun _=>E) E E E E<|gO 3 E<|Kkk 0 [.dead,Qnb y1] E Z<|Kgx 1 0 [Qnb y1,.dead] E E E E E E<|gA 1 E<|Khz<|oSi h2▸Kfn hΓ [_] (.inr E) E E E E (.inr ⟨HB.mk E,E⟩)
 obtain rfl:=List.eq_nil_of_length_eq_zero (hbn rfl).1
 replace h:(some ([]:List Kxt):Option (List Kxt))=some r:=h
 exact gO 5 E<|Keu (t:=0) 180 6 E Z<|gO 4 E<|Kki 0 [.dead,Qnb ([]:List Kxt)] E Z<|Kib 1 0 [Qnb ([]:List Kxt),.dead] E E E E E E<|Khz<|oSi h▸Kfn hΓ [_] (.inr E) E E E E (.inr ⟨HB.mk E,E⟩)
theorem Lkb{a:Kxt}{b:Kxt}{r:Int}(h:Lbx a b=some r):Pure Tryz.prog 150 [.agg (gF a),.agg (gF b)] (I r):=by
 unfold Lbx at h
 exact QP Tryz.func150 E E E<|gA 2 E<|Kqo E E E E Z<|Kqo E E E E Z<|bK h fun y1 hy1 h2=>gO 9 E<|Kex C (Ljt hy1) E Z E E E E E<|gO 4 E<|oSi h2▸gP E E
theorem Lkc{x:List Kxt}(h:CmpT (fun a b=>Lbx a b)∧x.length<4611686018427387904):EC Tryz.prog 149 [.sl 0 x.length,.fn (.func 150) [] []] [Qnb x] fun g hp'=>∃ r,SrtP (fun a b=>Lbx a b) x r∧g=.tup []∧hp'=[Qnb r]:=
 haveI:Inhabited Kxt:=⟨(⟨(⟨false,0,0⟩:Kxe),(⟨false,0,0⟩:Kxe)⟩:Kxt)⟩
 EC.sortFuncDX Ksg hΓ (show Γ 180=some _ from E) (fun x=>[(.bool x.First.Six),(.int .u64 x.First.Hi),(.int .u64 x.First.Lo),(.bool x.Last.Six),(.int .u64 x.Last.Hi),(.int .u64 x.Last.Lo)]) Lfv (fun _=>E) (fun _=>E) (fun _=>E) (fun cf hO g blk off cap d w eg hcmp hH hblk hsz=>Ksh _ Tryz.isAgg180 Tryz.sizeOf180 _ (fun _=>E) (fun x=>lAe.1 E) cf hO g blk off cap d w eg hcmp hH hblk hsz) (enters_of Tryz.func150 (by kernel_rfl) E) (fun h=>Lkb h) h.1 h.2
theorem Lkd{a:Kxe}{n:Int}{r:Kxe}(h:Lby a n=some r):Pure Tryz.prog 203 [.agg (gh a),I n] (.agg (gh r)):=by
 unfold Lby at h
 exact QP Tryz.func203 E E E<|gA 2 E<|Kqo E E E E Z<|Kqn hΓ E E E Z<|bK h fun y1 hy1 h2=>gO 5 E<|Kex C (Lis hy1) E Z E E E E E<|bK h2 fun y3 hy3 h4=>gO 2 E<|Kex C (Liu hy3) E Z E E E E E<|gO 14 E<|Kqs hΓ E E E E E E E E Z<|Kfg [.box 46 [B a.Six,U (bitsV .or .u64 a.Hi y3.1),U a.Lo],QV] E<|gO 9 E<|Kqs hΓ E E E E E E E E Z<|Kfg [.box 46 [B a.Six,U (bitsV .or .u64 a.Hi y3.1),U (bitsV .or .u64 a.Lo y3.2)],QV] E<|gO 5 E<|Kqs hΓ E E E E E E E E Z<|Kfg [.box 46 [B a.Six,U (bitsV .or .u64 a.Hi y3.1),U (bitsV .or .u64 a.Lo y3.2)],.box 46 [B a.Six,U (bitsV .or .u64 a.Hi y3.1),U (bitsV .or .u64 a.Lo y3.2)]] E<|gO 3 E<|oSi h4▸gP E E
theorem Lke{a:Kxe}{r:Kxe×Bool}(h:Lbz a=some r):Pure Tryz.prog 201 [.agg (gh a)] (.tup [.agg (gh r.1),B r.2]):=by
 unfold Lbz at h
 refine QP Tryz.func201 E E E<|gA 2 E<|Kqo E E E E Z<|Kqn hΓ E E E Z<|gO 5 E<|jD<|bK h fun y1 hy1 h2=>gA 2 E<|Kez C (Lkd hy1) E E E E E E<|gl_o E (Kfz hΓ [46] (b:=(((a.Six:Bool)==y1.Six)&&(((a.Hi:Int)==y1.Hi)&&(((a.Lo:Int)==y1.Lo)&&true)))) (by kernel_rfl) (by kernel_rfl) E E E)<|Kdl hΓ 2 E<|jC E h2 (fun h3=>?_) fun h4=>bK h4 fun y5 hy5 h6=>gA 6 E<|Kti E E E (Ktf hy5)<|gO 15 E<|Kqs hΓ E E E E E E E E Z<|Kfg [.box 46 [B a.Six,U a.Hi,U y5.1],QV] E<|gO 1 E<|Kqs hΓ E E E E E E E E Z<|Kfg [.box 46 [B a.Six,U (IntKind.u64.wrap (a.Hi+y5.2)),U y5.1],QV] E<|gO 5 E<|Kqs hΓ E E E E E E E E Z<|Kfg [.box 46 [B a.Six,U (IntKind.u64.wrap (a.Hi+y5.2)),U y5.1],.box 46 [B a.Six,U (IntKind.u64.wrap (a.Hi+y5.2)),U y5.1]] E<|gO 4 E<|oSi h6▸gP E E
 exact gA 3 E<|Kqs hΓ E E E E E E E E Z<|Kfg [.box 46 (gh a),.box 46 (gh a)] E<|gO 5 E<|oSi h3▸gP E E
theorem Lkf{a:Kxt}{b:Kxt}{r:Bool}(h:Lca a b=some r):Pure Tryz.prog 152 [.agg (gF a),.agg (gF b)] (B r):=by
 unfold Lca at h
 refine QP Tryz.func152 E E E<|gA 2 E<|Kqo E E E E Z<|Kqo E E E E Z<|gO 15 E<|jC E h (fun h1=>?_) fun h2=>bK h2 fun y3 hy3 h4=>gA 6 E<|Kex C (Lke hy3) E Z E E E E E<|gO 3 E<|Kqn hΓ E E E Z<|Kqs hΓ E E E E E E E E Z<|Kfg [.box 180 (gF a),.box 180 (gF b),.box 46 (gh y3.1)] E<|gO 8 E<|bK h4 fun q5 hq5 h6=>Kdt 6 [(4,B false),(28,B q5)] [.box 180 (gF a),.box 180 (gF b),.box 46 (gh y3.1)] ?_ ?_
 ·exact gA 7 E<|oSi h1▸gP E E
 ·refine Kpg E E (fun hb=>?_) (fun hb=>?_)
  ·have h7:=cT hq5 hb
   exact gO 7 E<|oSi h7▸⟨⟨E,E,tV⟩,[],E,.inl E⟩
  have h8:=cF hq5 hb
  exact bK h8 fun y9 hy9 h10=>gO 3 E<|Kpe E<|Kex C (Ljt hy9) E Z E E E E E<|gO 3 E<|oSi h10▸⟨⟨E,E,tV⟩,[],E,.inl E⟩
 exact gO 4 E<|oSi h6▸gP E E
theorem Lkg{v_all:List Kxt}{r:List Kxt}(h:Lcb v_all=some r):EC Tryz.prog 92 [.d (Sl Lfv v_all)] [] fun g hp'=>g=.sl 0 r.length∧hp'=[Qnb r]:=by
 unfold Lcb at h
 refine QM Tryz.func92 E Z<|bK h fun y1 hy1 h2=>gA 8 E<|Kew [] (.sl 0 y1.length) [Qnb y1] C (Lka hy1) E Z E E E E E E E E E E ?_
 obtain⟨hok4,ha5⟩:=Knl h2
 refine gO 6 E<|Knn [0] (.tup []) (fun y3=>[Qnb y3]) C (Lkc hok4) E Z E E E E E E E E E (fun _=>E)<|fun y3 hy3=>?_
 have h6:=ha5 y3 hy3
 refine gK h6 fun hg8 h7=>Kip 0 E (of_decide_eq_true hg8).symm<|gO 4 E<|Keu (t:=0) 180 6 E Z<|gO 10 E<|bK h7 fun q12 hq12 h13=>gK hq12 fun hb15 h16=>?_
 replace hb15:=of_decide_eq_true hb15
 refine Kid [(3,.sl 1 q12.length)] [Qnb y3,Qnb q12] ?_ ?_
 ·refine gA 1 E<|Kfr h16 (fun i9 s10=>[(3,.sl 1 s10.length),(11,.sl 0 y3.length),(12,I (y3.length:Int)),(13,I (i9:Int))]) (fun s10=>[Qnb y3,Qnb s10]) ⟨⟨E,E,E,E,tV⟩,[],E,.inl E⟩ (fun i9 s10 y20 hlt hy18=>?_) (fun hge=>?_)
  ·refine gA 6 E<|Kdo E (dT hlt)<|bK hy18 fun x21 hx21 h22=>?_
   have hj23:=Kfs hx21
   refine gA 6 E<|eo_o E (Kei hΓ hx21 E E E E E E)<|eo_o E (Keo hΓ (enc:=Lfv) ((i9:Int).toNat) 0 hj23 E E E E (fun _=>E) (g:=.agg (gF x21)) E)<|Kqn hΓ E E E Z<|Kqs hΓ E E E E E E E E Z<|Kfg [Qnb y3,Qnb s10,.box 180 (gF x21)] E<|bK h22 fun q24 hq24 h25=>gO 12 E<|Kid [(3,.sl 1 s10.length),(5,.ptr 2 0),(6,I (wi ((s10.length:Int) - 1))),(11,.sl 0 y3.length),(12,I (y3.length:Int)),(13,I (i9:Int)),(29,B q24)] [Qnb y3,Qnb s10,.box 180 (gF x21)] ?_ ?_
   ·refine jD<|gA 3 E<|Kbx E E (fun hb=>?_) (fun hb=>?_)
    ·have h26:=cT hq24 hb
     refine bK h26 fun x27 hx27 h28=>?_
     have hj29:=Kfs hx27
     exact Kdl hΓ 2 E<|Kcu E E (Kei hΓ hx27 E E E E E E)<|Kcu E E (Keo hΓ (enc:=Lfv) ((wi ((s10.length:Int) - 1)).toNat) 0 hj29 E E E E (fun _=>E) (g:=.agg (gF x27)) E)<|bK h28 fun y30 hy30 h31=>Kdl hΓ 1 E<|Kfa C (Lkf hy30) E E E E E E E<|Kdl hΓ 2 E<|oSi h31▸⟨⟨E,E,E,E,E,E,E,tV⟩,[],E,.inl E⟩
    have h32:=cF hq24 hb
    exact Kdl hΓ 8 E<|oSi h32▸⟨⟨E,E,E,E,E,E,E,tV⟩,[],E,.inl E⟩
   refine gA 1 E<|jC E h25 (fun h33=>?_) fun h46=>gA 5 E<|Ker hΓ (enc:=Lfv) [x21] E E E E E E E E E E E E Z<|bK h46 fun y47 hy47 h48=>Kfh hΓ (enc:=Lfv) hy47 E E E E E E E E E (fun _=>E) E E E E<|gO 8 E<|oSi h48▸⟨⟨E,E,E,Kcs E (Kcr (by omega)),tV⟩,[_],E,.inr ⟨HB.mk E,FB.mk E,Z⟩⟩
   refine gA 2 E<|jD<|bK h33 fun x34 hx34 h35=>?_
   have hj36:=Kfs hx34
   refine gA 2 E<|gl_o E (Kei hΓ hx34 E E E E E E)<|Kdl hΓ 1 E<|gl_o E (Keo hΓ (enc:=Lfv) ((wi ((s10.length:Int) - 1)).toNat) 3 hj36 E E E E (fun _=>E) (g:=.agg (gh x34.Last)) E)<|bK h35 fun y37 hy37 h38=>Kdl hΓ 2 E<|Kez C (Ljt hy37) E E E E E E<|bK h38 fun q39 hq39 h40=>Kdl hΓ 3 E<|Kid [(3,.sl 1 q39.length),(11,.sl 0 y3.length),(12,I (y3.length:Int)),(13,I (i9:Int))] [Qnb y3,Qnb q39,.box 180 (gF x21)] ?_ ?_
   ·refine jC E hq39 (fun h41=>?_) fun h45=>gA 1 E<|oSi h45▸⟨⟨E,E,E,E,tV⟩,[],E,.inl E⟩
    refine bK h41 fun x42 hx42 h43=>?_
    have hj44:=Kfs hx42
    exact gA 5 E<|eo_o E (Kei hΓ hx42 E E E E E E)<|gO 1 E<|Keq hΓ (enc:=Lfv) (z':=(⟨x42.First,x21.Last⟩:Kxt)) ((wi ((s10.length:Int) - 1)).toNat) 3 hj44 E E E E (fun _=>E) E E E E E E Z<|Kfg [Qnb y3,Qnb (s10.set ((wi ((s10.length:Int) - 1)).toNat) (⟨x42.First,x21.Last⟩:Kxt)),.box 180 (gF x21)] E<|Kip 3 (n':=(s10.set ((wi ((s10.length:Int) - 1)).toNat) (⟨x42.First,x21.Last⟩:Kxt)).length) E List.length_set.symm<|gO 1 E<|oSi h43▸⟨⟨E,E,E,E,tV⟩,[],E,.inl E⟩
   exact gA 9 E<|oSi h40▸⟨⟨E,E,E,Kcs E (Kcr (by omega)),tV⟩,[_],E,.inr ⟨HB.mk E,FB.mk E,Z⟩⟩
  exact gA 6 E<|Kdp E (dF hge)<|gA 4 E<|⟨⟨E,tV⟩,[],E,.inl E⟩
 exact gA 8 E<|Kki 0 [.dead,Qnb q12] E Z<|Kib 1 0 [Qnb q12,.dead] E E E E E E<|Khz<|oSi h13▸Kfn hΓ [_] (.inr E) E E E E (.inr ⟨HB.mk E,E⟩)
theorem Lkh{l:List Kxe}{r:List Kxt}(h:Lcc l=some r):Pure Tryz.prog 62 [.d (Sl Lfh l)] (.d (Sl Lfv r)):=by
 unfold Lcc at h
 refine QP Tryz.func62 E E E<|gA 7 E<|Keu (t:=0) 180 6 E Z<|gO 10 E<|bK h fun q4 hq4 h5=>Kef 6 E fun hb7=>Kid [(3,.sl 0 q4.length)] [Qnb q4] ?_ ?_
 ·refine gA 1 E<|Kfp l hq4 (fun i1 s2=>[(3,.sl 0 s2.length),(6,.d (Sl Lfh l)),(7,I (l.length:Int)),(8,I (i1:Int))]) (fun s2=>[Qnb s2]) ⟨⟨E,E,E,E,tV⟩,[],E,.inl E⟩ (fun i1 x3 s2 y11 hx8 hlt hy9=>?_) (?_)
  ·refine gA 6 E<|Kdo E (dT (Int.ofNat_lt.2 hlt))<|gA 6 E<|eo_o E (Keg hΓ (enc:=Lfh) (Kdz hx8) E E E E E (fun _=>E))<|gO 1 E<|Kqn hΓ E E E Z<|Kqs hΓ E E E E E E E E Z<|Kfg [Qnb s2,.box 46 (gh x3)] E<|gO 6 E<|Kbn hΓ (gs:=[B x3.Six,U x3.Hi,U x3.Lo,B x3.Six,U x3.Hi,U x3.Lo]) E E E E E E E<|Ker hΓ (enc:=Lfv) [(⟨x3,x3⟩:Kxt)] E E E E E E E E E E E E Z<|bK hy9 fun y12 hy12 h13=>Kfh hΓ (enc:=Lfv) hy12 E E E E E E E E E (fun _=>E) E E E E<|gO 8 E ?_
   cases h13
   exact⟨⟨E,E,E,Kcs E (Kcr (nLl hlt hb7)),tV⟩,[_],E,.inr ⟨HB.mk E,FB.mk E,Z⟩⟩
  exact gA 6 E<|Kdp E (dF (Int.lt_irrefl _))<|gA 4 E<|⟨⟨E,tV⟩,[],E,.inl E⟩
 exact bK h5 fun y14 hy14 h15=>gA 4 E<|Klj C (Lkg hy14) (Kli (fun _=>E) _) E Z E E E E<|Kfg [Qnb q4,Qnb y14] E<|Kfd 1 [20] _ [Qnb q4,.dead] E E E Z<|gO 4 E<|oSi h15▸gP E E
theorem Lki{a:Kxe}{r:Kxe}(h:Lcd a=some r):Pure Tryz.prog 202 [.agg (gh a)] (.agg (gh r)):=by
 unfold Lcd at h
 exact QP Tryz.func202 E E E<|gA 2 E<|Kqo E E E E Z<|Kqn hΓ E E E Z<|bK h fun y1 hy1 h2=>gO 6 E<|Kti E E E (Ktg hy1)<|gO 15 E<|Kqs hΓ E E E E E E E E Z<|Kfg [.box 46 [B a.Six,U a.Hi,U y1.1],QV] E<|gO 1 E<|Kqs hΓ E E E E E E E E Z<|Kfg [.box 46 [B a.Six,U (IntKind.u64.wrap (a.Hi - y1.2)),U y1.1],QV] E<|gO 5 E<|Kqs hΓ E E E E E E E E Z<|Kfg [.box 46 [B a.Six,U (IntKind.u64.wrap (a.Hi - y1.2)),U y1.1],.box 46 [B a.Six,U (IntKind.u64.wrap (a.Hi - y1.2)),U y1.1]] E<|gO 3 E<|oSi h2▸gP E E
theorem Lkj{a:List Kxt}{r:List Kxt}(h:Lce a=some r):EC Tryz.prog 156 [.d (Sl Lfv a)] [] fun g hp'=>g=.sl 0 r.length∧hp'=[Qnb r]:=by
 unfold Lce at h
 refine QM Tryz.func156 E Z<|gA 7 E<|Keu (t:=0) 180 6 E Z<|gO 5 E<|Ker hΓ (enc:=eB) [false,true] E E E E E E E E E E E E Z<|gO 4 E<|bK h fun q4 hq4 h5=>Kef 10 E fun hb7=>Kid [(3,.sl 0 q4.length)] [Qnb q4] ?_ ?_
 ·refine gA 1 E<|Kfp [false,true] hq4 (fun i1 s2=>[(0,.d (Sl Lfv a)),(3,.sl 0 s2.length),(10,.d (Sl eB [false,true])),(11,I ([false,true].length:Int)),(12,I (i1:Int))]) (fun s2=>[Qnb s2]) ⟨⟨E,E,E,E,E,tV⟩,[],E,.inl E⟩ (fun i1 x3 s2 y11 hx8 hlt hy9=>?_) (?_)
  ·refine gA 6 E<|Kdo E (dT (Int.ofNat_lt.2 hlt))<|gA 6 E<|eo_o E (Keg hΓ (enc:=eB) (Kdz hx8) E E E E E (fun _=>E))<|gO 7 E<|Kbn hΓ (gs:=[B x3,U 0,U 0]) E E E E E E E<|Kqn hΓ E E E Z<|Kqs hΓ E E E E E E E E Z<|Kfg [Qnb s2,.box 46 [B x3,U 0,U 0]] E<|gO 11 E<|bK hy9 fun q15 hq15 h16=>Kef 0 E fun hb18=>Kid [(0,.d (Sl Lfv a)),(3,.sl 0 q15.1.length),(6,.ptr 1 0),(7,B q15.2.2),(10,.d (Sl eB [false,true])),(11,I ([false,true].length:Int)),(12,I (i1:Int))] [Qnb q15.1,.box 46 (gh q15.2.1)] ?_ ?_
   ·refine gA 1 E<|Kfp a hq15 (fun i12 s13=>[(0,.d (Sl Lfv a)),(3,.sl 0 s13.1.length),(5,B x3),(6,.ptr 1 0),(7,B s13.2.2),(10,.d (Sl eB [false,true])),(11,I ([false,true].length:Int)),(12,I (i1:Int)),(18,.d (Sl Lfv a)),(19,I (a.length:Int)),(20,I (i12:Int))]) (fun s13=>[Qnb s13.1,.box 46 (gh s13.2.1)]) ⟨⟨E,E,E,E,E,E,E,E,E,E,E,tV⟩,[],E,.inl E⟩ (fun i12 x14 s13 y22 hx19 hlt hy20=>?_) (?_)
    ·refine gA 6 E<|Kdo E (dT (Int.ofNat_lt.2 hlt))<|gA 6 E<|eo_o E (Keg hΓ (enc:=Lfv) (Kdz hx19) E E E E E (fun _=>E))<|gO 1 E<|Kqn hΓ E E E Z<|Kqs hΓ E E E E E E E E Z<|Kfg [Qnb s13.1,.box 46 (gh s13.2.1),.box 180 (gF x14)] E<|gO 12 E<|jC E hy20 (fun h23=>?_) fun h24=>bK h24 fun y25 hy25 h26=>gA 8 E<|Kex C (Ljt hy25) E Z E E E E E<|bK h26 fun q27 hq27 h28=>gO 3 E<|Kie [(0,.d (Sl Lfv a)),(3,.sl 0 q27.length),(5,B x3),(6,.ptr 1 0),(9,.ptr 2 0),(10,.d (Sl eB [false,true])),(11,I ([false,true].length:Int)),(12,I (i1:Int)),(18,.d (Sl Lfv a)),(19,I (a.length:Int)),(20,I (i12:Int))] [Qnb q27,.box 46 (gh s13.2.1),.box 180 (gF x14)] ?_ ?_
     ·refine gA 8 E ?_
      cases h23
      exact⟨⟨E,E,E,E,E,E,E,E,E,E,Kcs E (Kcr (nLl hlt hb18)),tV⟩,[_],E,.inr ⟨HB.mk E,FB.mk E,Z⟩⟩
     ·refine jC E hq27 (fun h29=>?_) fun h34=>gA 1 E<|Khz<|oSi h34▸⟨⟨E,E,E,E,E,E,E,E,E,E,E,tV⟩,[],E,.inl E⟩
      exact Khd [.dead,.box 46 (gh s13.2.1),.box 180 (gF x14)] [1,3] [7] [] hmix (by kernel_rfl) (by kernel_rfl) ⟨E,E,tV⟩ Z<|bK h29 fun y30 hy30 h31=>go_E hΓ 4 E<|Khr C (Lki hy30) E E E E E E<|ge_q E (.inl E) (fun _ _=>Khf (qt_p (Khu hΓ (gs:=[B s13.2.1.Six,U s13.2.1.Hi,U s13.2.1.Lo,B y30.Six,U y30.Hi,U y30.Lo]) E E E E E E)))<|Khs hΓ (enc:=Lfv) [(⟨s13.2.1,y30⟩:Kxt)] E E E E E E E E E E E E<|bK h31 fun y32 hy32 h33=>ge_h [.dead,.box 46 (gh s13.2.1),.box 180 (gF x14),Qnb y32] E E E (Khl ⟨E,E,tV⟩) (Kho (Kgt hΓ (enc:=Lfv) (id:=0) (h2:=show Γ 180=some ⟨_,6,_,_⟩ from E) hy32 E E E E E E E E (fun _=>E) E))<|go_E hΓ 1 E<|Khe<|Kib 3 0 [Qnb y32,.box 46 (gh s13.2.1),.box 180 (gF x14),.dead] E E E E E E<|Khz<|oSi h33▸⟨⟨E,E,E,E,E,E,E,E,E,E,E,tV⟩,[_],E,.inr ⟨HB.mk E,FB.mk E,Z⟩⟩
     refine bK h28 fun y35 hy35 h36=>gA 4 E<|Kex C (Lke hy35) E Z E E E E E<|gO 3 E<|Kqs hΓ E E E E E E E E Z<|Kfg [Qnb q27,.box 46 (gh y35.1),.box 180 (gF x14)] E<|gO 8 E ?_
     cases h36
     exact⟨⟨E,E,E,E,E,E,E,E,E,E,Kcs E (Kcr (nLl hlt hb18)),tV⟩,[_],E,.inr ⟨HB.mk E,FB.mk E,Z⟩⟩
    exact gA 6 E<|Kdp E (dF (Int.lt_irrefl _))<|gA 4 E<|⟨⟨E,E,E,E,E,E,E,tV⟩,[],E,.inl E⟩
   refine gA 6 E<|jC E h16 (fun h37=>?_) fun h42=>gA 7 E ?_
   ·refine Khd [.dead,.box 46 (gh q15.2.1)] [1,2] [6] [] hmix (by kernel_rfl) (by kernel_rfl) ⟨E,tV⟩ Z<|bK h37 fun y38 hy38 h39=>go_E hΓ 3 E<|Khr C (Lkd hy38) E E E E E E<|ge_q E (.inl E) (fun _ _=>Khf (qt_p (Khu hΓ (gs:=[B q15.2.1.Six,U q15.2.1.Hi,U q15.2.1.Lo,B y38.Six,U y38.Hi,U y38.Lo]) E E E E E E)))<|Khs hΓ (enc:=Lfv) [(⟨q15.2.1,y38⟩:Kxt)] E E E E E E E E E E E E<|bK h39 fun y40 hy40 h41=>ge_h [.dead,.box 46 (gh q15.2.1),Qnb y40] E E E (Khl ⟨E,tV⟩) (Kho (Kgt hΓ (enc:=Lfv) (id:=0) (h2:=show Γ 180=some ⟨_,6,_,_⟩ from E) hy40 E E E E E E E E (fun _=>E) E))<|go_E hΓ 1 E<|Khe<|gA 2 E<|Kgx 2 0 [Qnb y40,.box 46 (gh q15.2.1),.dead] E E E E E E<|gA 4 E ?_
    cases h41
    exact⟨⟨E,E,E,E,Kcs E (Kcr (nLl hlt hb7)),tV⟩,[_,_],E,.inr ⟨HB.mk E,FB.mk E,Z⟩⟩
   cases h42
   exact⟨⟨E,E,E,E,Kcs E (Kcr (nLl hlt hb7)),tV⟩,[_],E,.inr ⟨HB.mk E,FB.mk E,Z⟩⟩
  exact gA 6 E<|Kdp E (dF (Int.lt_irrefl _))<|gA 4 E<|⟨⟨E,tV⟩,[],E,.inl E⟩
 exact gA 8 E<|Khz<|oSi h5▸Kfn hΓ [] (.inr E) E E E E (.inl E)
theorem Lkk{r:List Kxt}(h:Lcf=some r):Pure Tryz.prog 99 [] (.d (Sl Lfv r)):=by
 unfold Lcf at h
 exact QP Tryz.func99 E E E<|bK h fun y1 hy1 h2=>gA 7 E<|Kex C (Pure.rows (Lkj hy1) E E) E Z E E E E E<|gO 4 E<|oSi h2▸gP E E
theorem Lkl{n:Kxo}{x:Kxh}{r:Bool}(h:Lcg n x=some r):EC Tryz.prog 100 [.agg (gB n),.ptr 0 0] [.box 146 (gm x)] fun g hp'=>g=B r∧hp'=[.box 146 (gm x)]:=by
 unfold Lcg at h
 exact QN Tryz.func100 E Z<|gA 2 E<|Kqo E E E E Z<|gO 14 E<|oSi h▸Kfn hΓ [_] (.inr E) E E E E (.inr ⟨HB.mk E,E⟩)
theorem Lkm{v:Kxu}{f:Kxh}{r:List Kxt}(h:Lch v f=some r):EC Tryz.prog 95 [.ptr 5 0,.fn (.func 100) [] [.ptr 6 0]] [QB v,QE v,Q2 v,QH v,QK v,Qc v,.box 146 (gm f)] fun g hp'=>g=.d (Sl Lfv r)∧hp'=[QB v,QE v,Q2 v,QH v,QK v,Qc v,.box 146 (gm f)]:=by
 unfold Lch at h
 refine QN Tryz.func95 E Z<|gA 7 E<|Keu (t:=0) 46 3 E Z<|gO 14 E<|bK h fun q4 hq4 h5=>Kef 12 E fun hb7=>Kid [(5,.sl 7 q4.length)] [QB v,QE v,Q2 v,QH v,QK v,Qc v,.box 146 (gm f),Qab q4] ?_ ?_
 ·refine gA 1 E<|Kfp v.s.Nodes hq4 (fun i1 s2=>[(1,.fn (.func 100) [] [.ptr 6 0]),(5,.sl 7 s2.length),(12,.d (Sl Lfr v.s.Nodes)),(13,I (v.s.Nodes.length:Int)),(14,I (i1:Int))]) (fun s2=>[QB v,QE v,Q2 v,QH v,QK v,Qc v,.box 146 (gm f),Qab s2]) ⟨⟨E,E,E,E,E,tV⟩,[],E,.inl E⟩ (fun i1 x3 s2 y11 hx8 hlt hy9=>?_) (?_)
  ·refine gA 6 E<|Kdo E (dT (Int.ofNat_lt.2 hlt))<|gA 6 E<|eo_o E (Keg hΓ (enc:=Lfr) (Kdz hx8) E E E E E (fun _=>E))<|gO 1 E<|Kqn hΓ E E E Z<|Kqs hΓ E E E E E E E E Z<|Kfg [QB v,QE v,Q2 v,QH v,QK v,Qc v,.box 146 (gm f),Qab s2,.box 103 (gB x3)] E<|bK hy9 fun y12 hy12 h13=>gO 6 E<|Kew [6] (B y12) [QB v,QE v,Q2 v,QH v,QK v,Qc v,.box 146 (gm f),Qab s2,.box 103 (gB x3)] C (Lkl hy12) E Z E E E E E E E E E E<|gO 2 E<|jC E h13 (fun h14=>?_) fun h17=>gA 7 E ?_
   ·refine bK h14 fun y15 hy15 h16=>gA 4 E<|Kfh hΓ (enc:=Lfh) hy15 E E E E E E E E E (fun _=>E) E E E E<|gO 8 E ?_
    cases h16
    exact⟨⟨E,E,E,E,Kcs E (Kcr (nLl hlt hb7)),tV⟩,[_],E,.inr ⟨HB.mk E,FB.mk E,Z⟩⟩
   cases h17
   exact⟨⟨E,E,E,E,Kcs E (Kcr (nLl hlt hb7)),tV⟩,[_],E,.inr ⟨HB.mk E,FB.mk E,Z⟩⟩
  exact gA 6 E<|Kdp E (dF (Int.lt_irrefl _))<|gA 4 E<|⟨⟨E,tV⟩,[],E,.inl E⟩
 exact bK h5 fun y18 hy18 h19=>gA 4 E<|Kfd 7 [5,26] _ [QB v,QE v,Q2 v,QH v,QK v,Qc v,.box 146 (gm f),.dead] E E E Z<|Kex C (Lkh hy18) E Z E E E E E<|gO 4 E<|oSi h19▸Kfn hΓ [_] (.inr E) E E E E (.inr ⟨HB.mk E,E⟩)
theorem Lkn{s:List Str}{r:List Str}(h:Lci s=some r):EC Tryz.prog 205 [.d (Sl eS s)] [] fun g hp'=>g=.sl 0 r.length∧hp'=[Qcb r]:=by
 unfold Lci at h
 refine QM Tryz.func205 E Z<|gA 2 E<|Keu (t:=0) 9 1 E Z<|gO 6 E<|Kde hΓ E E E E E fun b hbn=>?_
 rcases b with _ | _
 ·exact gO 7 E<|Ket hΓ (enc:=eS) ([]:List Str) E E E E E E E E E E E E Z<|bK h fun y1 hy1 h2=>gO 1 E<|Kfh hΓ (enc:=eS) hy1 E E E E E E E E E (fun _=>E) E E E E<|gO 3 E<|Kkk 0 [.dead,Qcb y1] E Z<|Kgx 1 0 [Qcb y1,.dead] E E E E E E<|gA 1 E<|Khz<|oSi h2▸Kfn hΓ [_] (.inr E) E E E E (.inr ⟨HB.mk E,E⟩)
 obtain rfl:=List.eq_nil_of_length_eq_zero (hbn rfl).1
 replace h:(some ([]:List Str):Option (List Str))=some r:=h
 exact gO 5 E<|Keu (t:=0) 9 1 E Z<|gO 4 E<|Kki 0 [.dead,Qcb ([]:List Str)] E Z<|Kib 1 0 [Qcb ([]:List Str),.dead] E E E E E E<|Khz<|oSi h▸Kfn hΓ [_] (.inr E) E E E E (.inr ⟨HB.mk E,E⟩)
theorem Lko{k:Nat}{s:List Str}{r:List Str}(h:Lcj k s=some r):EC Tryz.prog 207 [.sl 0 s.length] [Qcb s] fun g hp'=>g=.sl 0 r.length∧hp'=[Qcb r]:=by
 unfold Lcj at h
 refine QN Tryz.func207 E Z<|gA 13 E<|jC E h (fun h1=>?_) fun h2=>gA 8 E<|bK h2 fun q6 hq6 h7=>Kic (R:=fun a8=>q6=.inl a8) (fun a8=>[(0,.sl 0 s.length)]) (fun a8=>[Qcb s]) ?_ ?_
 ·exact gA 8 E<|oSi h1▸Kfn hΓ [] (.inr E) E E E E (.inl E)
 ·refine gA 1 E<|Kec hq6 (fun s4=>[(0,.sl 0 s.length),(3,I s4)]) (fun s4=>[Qcb s]) ⟨⟨E,E,tV⟩,[],E,.inl E⟩ (fun s4 y12 hy10 hout11=>?_)
  refine gA 9 E<|jC E hy10 (fun h13=>?_) fun h60=>gA 4 E ?_
  ·refine gA 5 E<|jD<|bK h13 fun x14 hx14 h15=>?_
   have hj16:=Kfs hx14
   refine gA 2 E<|gl_o E (Kei hΓ hx14 E E E E E E)<|gl_o E (Keo hΓ (enc:=eS) s4.toNat 0 hj16 E E E E (fun _=>E) (g:=S x14) E)<|bK h15 fun x17 hx17 h18=>?_
   have hj19:=Kfs hx17
   refine Kdl hΓ 3 E<|gl_o E (Kei hΓ hx17 E E E E E E)<|gl_o E (Keo hΓ (enc:=eS) ((wi (s4 - 1)).toNat) 0 hj19 E E E E (fun _=>E) (g:=S x17) E)<|Kdl hΓ 3 E<|jC E h18 (fun h20=>?_) fun h59=>gA 8 E<|oSi h59▸⟨_,E,⟨⟨E,E,tV⟩,[],E,.inl E⟩⟩
   refine bK h20 fun z21 hz21 h22=>gA 4 E<|eo_o E (Kin hΓ hz21 E E E E E E)<|gO 9 E<|bK h22 fun q26 hq26 h27=>Kid [(0,.sl 0 q26.1.length),(3,I q26.2)] [Qcb q26.1] ?_ ?_
   ·refine gA 1 E<|Kec hq26 (fun s24=>[(0,.sl 0 s24.1.length),(3,I s24.2.1),(4,.slo 0 1 s4.toNat z21.length),(5,I s24.2.2)]) (fun s24=>[Qcb s24.1]) ⟨⟨E,E,E,E,tV⟩,[],E,.inl E⟩ (fun s24 y32 hy30 hout31=>?_)
    refine gA 9 E<|jC E hy30 (fun h33=>?_) fun h54=>gA 4 E ?_
    ·refine gA 5 E<|jD<|bK h33 fun x34 hx34 h35=>bK h35 fun x36 hx36 h37=>?_
     have hj38:s24.1[(s4.toNat+s24.2.2.toNat)]?=some x36:=hx36
     refine gA 2 E<|gl_o E (Kiu hΓ hx34 E E E E E E E)<|gl_o E (Keo hΓ (enc:=eS) (s4.toNat+s24.2.2.toNat) 0 hj38 E E E E (fun _=>E) (g:=S x36) E)<|bK h37 fun x39 hx39 h40=>bK h40 fun x41 hx41 h42=>?_
     have hj43:s24.1[(s4.toNat+(wi (s24.2.2 - 1)).toNat)]?=some x41:=hx41
     refine Kdl hΓ 3 E<|gl_o E (Kiu hΓ hx39 E E E E E E E)<|gl_o E (Keo hΓ (enc:=eS) (s4.toNat+(wi (s24.2.2 - 1)).toNat) 0 hj43 E E E E (fun _=>E) (g:=S x41) E)<|Kdl hΓ 3 E<|jC E h42 (fun h44=>?_) fun h53=>gA 8 E<|oSi h53▸⟨_,E,⟨⟨E,E,E,E,tV⟩,[],E,.inl E⟩⟩
     refine bK h44 fun x45 hx45 h46=>bK h46 fun x47 hx47 h48=>?_
     have hj49:s24.1[(s4.toNat+s24.2.2.toNat)]?=some x47:=hx47
     refine gA 6 E<|eo_o E (Kiu hΓ hx45 E E E E E E E)<|eo_o E (Keo hΓ (enc:=eS) (s4.toNat+s24.2.2.toNat) 0 hj49 E E E E (fun _=>E) (g:=S x47) E)<|bK h48 fun x50 hx50 h51=>?_
     have hj52:=Kfs hx50
     exact eo_o E (Kei hΓ hx50 E E E E E E)<|Keq hΓ (enc:=eS) (z':=x47) s24.2.1.toNat 0 hj52 E E E E (fun _=>E) E E E E E E Z<|Kfg [Qcb (s24.1.set s24.2.1.toNat x47)] E<|Kip 0 (n':=(s24.1.set s24.2.1.toNat x47).length) E List.length_set.symm<|gO 14 E<|oSi h51▸⟨_,E,⟨⟨E,E,E,E,tV⟩,[],E,.inl E⟩⟩
    cases h54
    obtain rfl:=hout31 _ rfl
    exact⟨⟨E,E,tV⟩,[],E,.inl E⟩
   refine bK h27 fun z55 hz55 h56=>gA 5 E<|eo_o E (Kin hΓ hz55 E E E E E E)<|Kik Z (Kim hΓ (enc:=eS) (a:=q26.2) hz55 E E E E E E E E E E (fun _=>E))<|gO 6 E<|Kio hΓ hz55 E E E E E E E E<|gO 6 E<|bK h56 fun v57 hv57 h58=>?_
   cases h58
   obtain rfl:=hout11 _ rfl
   cases h7
   exact gA 4 E<|oSi hv57▸Kfn hΓ [] (.inr E) E E E E (.inl E)
  cases h60
  obtain rfl:=hout11 _ rfl
  exact⟨_,E,⟨⟨E,tV⟩,[],E,.inl E⟩⟩
 intro a8 ha
 subst ha
 replace h7:=Khw h7
 exact gA 8 E<|oSi h7▸Kfn hΓ [] (.inr E) E E E E (.inl E)
theorem Lkp{k:Nat}{l:List Str}{r:List Str}(h:Lck k l=some r):EC Tryz.prog 160 [.d (Sl eS l)] [] fun g hp'=>g=.sl 0 r.length∧hp'=[Qcb r]:=by
 unfold Lck at h
 exact QM Tryz.func160 E Z<|bK h fun y1 hy1 h2=>gA 8 E<|Kew [] (.sl 0 y1.length) [Qcb y1] C (Lkn hy1) E Z E E E E E E E E E E<|bK h2 fun y3 hy3 h4=>gO 6 E<|Kew [0] (.tup []) [Qcb y3] C (Ktp hy3) E Z E E E E E E E E E E<|gK h4 fun hg6 h5=>Kip 0 E (of_decide_eq_true hg6).symm<|bK h5 fun y7 hy7 h8=>gO 5 E<|Kew [0] (.sl 0 y7.length) [Qcb y7] C (Lko hy7) E Z E E E E E E E E E E<|gO 4 E<|Khz<|oSi h8▸Kfn hΓ [] (.inr E) E E E E (.inl E)
theorem Lkq{k:Nat}{p:Kxn}{i:Int}{r:List Str}(h:Lcl k p i=some r):Pure Tryz.prog 102 [.agg (gy p),I i] (.d (Sl eS r)):=by
 unfold Lcl at h
 refine QP Tryz.func102 E E E<|gA 2 E<|Kqo E E E E Z<|bK h fun y1 hy1 h2=>gO 7 E<|Kew [] (.map 1) [.box 32 (gy p),Qlb y1] C (Lip hy1) E Z E E E E E E E E E E<|gO 7 E<|eo_u Z (Kju hΓ (kv:=(kI .i64)) (agg:=false) (enc:=eB) (id:=1) y1 i true E E E (Kji .i64) E E E E E)<|Kfg [.box 32 (gy p),Qlb (mSet y1 i true)] E<|gO 4 E<|Keu (t:=0) 9 1 E Z<|gO 6 E<|Kkd hΓ (kv:=(kI .i64)) (agg:=false) (enc:=eB) (mSet y1 i true) E E E E E Z (fun mr3 bs4 cl5 hpm6 hbl7 hbn8=>?_)
 refine Kfg [.box 32 (gy p),Qob (mSet y1 i true) (rawM (kI .i64) eB mr3 bs4 cl5),Qcb ([]:List Str),.iter 1 cl5 []] E<|gO 2 E<|gA 1 E<|Kll (Klv h2) hpm6 hbl7 hbn8 (fun s9=>[(2,.ptr 0 0),(6,.sl 2 s9.length),(16,.ptr 3 0)]) (fun sn11 s9=>[.box 32 (gy p),Qob (mSet y1 i true) (rawM (kI .i64) eB mr3 bs4 cl5),Qcb s9,.iter 1 cl5 sn11]) ⟨⟨E,E,E,tV⟩,[],E,.inl E⟩ (fun sn11 s9 hdone14 hstep15=>?_)
 refine gA 2 E<|Kke (kv:=(kI .i64)) (agg:=false) (enc:=eB) (mSet y1 i true) mr3 bs4 cl5 sn11 [.box 32 (gy p),Qlb (mSet y1 i true),Qcb s9,.dead] E E E E E Z (fun hdsn11=>?_) (fun j12 x10 b13 hjsn11 hbsn11 hnsn11=>?_)
 ·have h16:=hdone14 hdsn11
  exact bK h16 fun y17 hy17 h18=>gO 13 E<|Klj C (Lkp hy17) (Kli (fun _=>E) _) E Z E E E E<|Kfg [.box 32 (gy p),Qlb (mSet y1 i true),Qcb s9,.dead,Qcb y17] E<|Kfd 4 [41] _ [.box 32 (gy p),Qlb (mSet y1 i true),Qcb s9,.dead,.dead] E E E Z<|gO 4 E<|oSi h18▸gP E E
 obtain⟨s19,h20⟩:=hstep15 j12 x10 b13 hjsn11 hbsn11 hnsn11
 have hssn11:=h20
 refine gO 10 E<|eo_o E (Kkf (kv:=(kI .i64)) (agg:=false) (enc:=eB) (mSet y1 i true) mr3 bs4 cl5 sn11 hjsn11 hbsn11 E E E E (fun _=>E))<|bK h20 fun x21 hx21 h22=>gO 9 E<|eo_o E (Keg hΓ (enc:=Lfg) hx21 E E E E E (fun _=>E))<|gO 6 E<|bK h22 fun q26 hq26 h27=>Kef 26 E fun hb29=>Kid [(2,.ptr 0 0),(6,.sl 2 q26.length),(16,.ptr 3 0)] [.box 32 (gy p),Qob (mSet y1 i true) (rawM (kI .i64) eB mr3 bs4 cl5),Qcb q26,.iter 1 cl5 (sn11++[b13])] ?_ ?_
 ·refine gA 1 E<|Kfp x21.Members hq26 (fun i23 s24=>[(2,.ptr 0 0),(6,.sl 2 s24.length),(16,.ptr 3 0),(26,.d (Sl eS x21.Members)),(27,I (x21.Members.length:Int)),(28,I (i23:Int))]) (fun s24=>[.box 32 (gy p),Qob (mSet y1 i true) (rawM (kI .i64) eB mr3 bs4 cl5),Qcb s24,.iter 1 cl5 (sn11++[b13])]) ⟨⟨E,E,E,E,E,E,tV⟩,[],E,.inl E⟩ (fun i23 x25 s24 y33 hx30 hlt hy31=>?_) (?_)
  ·refine gA 6 E<|Kdo E (dT (Int.ofNat_lt.2 hlt))<|gA 6 E<|eo_o E (Keg hΓ (enc:=eS) (Kdz hx30) E E E E E (fun _=>E))<|bK hy31 fun y34 hy34 h35=>gO 7 E<|Kex C (Ksq hy34) E Z E E E E E<|gO 3 E<|jC E h35 (fun h36=>?_) fun h39=>gA 7 E ?_
   ·refine gA 3 E<|Ker hΓ (enc:=eS) [x25] E E E E E E E E E E E E Z<|bK h36 fun y37 hy37 h38=>Kfh hΓ (enc:=eS) hy37 E E E E E E E E E (fun _=>E) E E E E<|gO 8 E ?_
    cases h38
    exact⟨⟨E,E,E,E,E,Kcs E (Kcr (nLl hlt hb29)),tV⟩,[],E,.inl E⟩
   cases h39
   exact⟨⟨E,E,E,E,E,Kcs E (Kcr (nLl hlt hb29)),tV⟩,[],E,.inl E⟩
  exact gA 6 E<|Kdp E (dF (Int.lt_irrefl _))<|gA 4 E<|⟨⟨E,E,E,tV⟩,[],E,.inl E⟩
 refine gA 1 E ?_
 cases h27
 exact⟨j12,x10,b13,_,hjsn11,hbsn11,hnsn11,hssn11,⟨⟨E,E,E,tV⟩,[],E,.inl E⟩⟩
theorem Lkr{n:Kxo}{x:List Str}{r:Bool}(h:Lcm n x=some r):EC Tryz.prog 103 [.agg (gB n),.ptr 0 0] [.box 70 [.d (Sl eS x)]] fun g hp'=>g=B r∧hp'=[.box 70 [.d (Sl eS x)]]:=by
 unfold Lcm at h
 exact QN Tryz.func103 E Z<|gA 2 E<|Kqo E E E E Z<|bK h fun y1 hy1 h2=>gO 8 E<|Kex C (Lik hy1) E Z E E E E E<|gO 4 E<|oSi h2▸Kfn hΓ [_] (.inr E) E E E E (.inr ⟨HB.mk E,E⟩)
theorem Lks{v:Kxu}{f:List Str}{r:List Kxt}(h:Lcn v f=some r):EC Tryz.prog 95 [.ptr 5 0,.fn (.func 103) [] [.ptr 6 0]] [QB v,QE v,Q2 v,QH v,QK v,Qc v,Q4 f] fun g hp'=>g=.d (Sl Lfv r)∧hp'=[QB v,QE v,Q2 v,QH v,QK v,Qc v,Q4 f]:=by
 unfold Lcn at h
 refine QN Tryz.func95 E Z<|gA 7 E<|Keu (t:=0) 46 3 E Z<|gO 14 E<|bK h fun q4 hq4 h5=>Kef 12 E fun hb7=>Kid [(5,.sl 7 q4.length)] [QB v,QE v,Q2 v,QH v,QK v,Qc v,Q4 f,Qab q4] ?_ ?_
 ·refine gA 1 E<|Kfp v.s.Nodes hq4 (fun i1 s2=>[(1,.fn (.func 103) [] [.ptr 6 0]),(5,.sl 7 s2.length),(12,.d (Sl Lfr v.s.Nodes)),(13,I (v.s.Nodes.length:Int)),(14,I (i1:Int))]) (fun s2=>[QB v,QE v,Q2 v,QH v,QK v,Qc v,Q4 f,Qab s2]) ⟨⟨E,E,E,E,E,tV⟩,[],E,.inl E⟩ (fun i1 x3 s2 y11 hx8 hlt hy9=>?_) (?_)
  ·refine gA 6 E<|Kdo E (dT (Int.ofNat_lt.2 hlt))<|gA 6 E<|eo_o E (Keg hΓ (enc:=Lfr) (Kdz hx8) E E E E E (fun _=>E))<|gO 1 E<|Kqn hΓ E E E Z<|Kqs hΓ E E E E E E E E Z<|Kfg [QB v,QE v,Q2 v,QH v,QK v,Qc v,Q4 f,Qab s2,.box 103 (gB x3)] E<|bK hy9 fun y12 hy12 h13=>gO 6 E<|Kew [6] (B y12) [QB v,QE v,Q2 v,QH v,QK v,Qc v,Q4 f,Qab s2,.box 103 (gB x3)] C (Lkr hy12) E Z E E E E E E E E E E<|gO 2 E<|jC E h13 (fun h14=>?_) fun h17=>gA 7 E ?_
   ·refine bK h14 fun y15 hy15 h16=>gA 4 E<|Kfh hΓ (enc:=Lfh) hy15 E E E E E E E E E (fun _=>E) E E E E<|gO 8 E ?_
    cases h16
    exact⟨⟨E,E,E,E,Kcs E (Kcr (nLl hlt hb7)),tV⟩,[_],E,.inr ⟨HB.mk E,FB.mk E,Z⟩⟩
   cases h17
   exact⟨⟨E,E,E,E,Kcs E (Kcr (nLl hlt hb7)),tV⟩,[_],E,.inr ⟨HB.mk E,FB.mk E,Z⟩⟩
  exact gA 6 E<|Kdp E (dF (Int.lt_irrefl _))<|gA 4 E<|⟨⟨E,tV⟩,[],E,.inl E⟩
 exact bK h5 fun y18 hy18 h19=>gA 4 E<|Kfd 7 [5,26] _ [QB v,QE v,Q2 v,QH v,QK v,Qc v,Q4 f,.dead] E E E Z<|Kex C (Lkh hy18) E Z E E E E E<|gO 4 E<|oSi h19▸Kfn hΓ [_] (.inr E) E E E E (.inr ⟨HB.mk E,E⟩)
theorem Lkt{n:Kxo}{x:Kxh}{r:Bool}(h:Lco n x=some r):EC Tryz.prog 105 [.agg (gB n),.ptr 0 0] [.box 146 (gm x)] fun g hp'=>g=B r∧hp'=[.box 146 (gm x)]:=by
 unfold Lco at h
 exact QN Tryz.func105 E Z<|gA 2 E<|Kqo E E E E Z<|bK h fun y1 hy1 h2=>gO 9 E<|Kex C (Lik hy1) E Z E E E E E<|gO 4 E<|oSi h2▸Kfn hΓ [_] (.inr E) E E E E (.inr ⟨HB.mk E,E⟩)
theorem Lku{v:Kxu}{f:Kxh}{r:List Kxt}(h:Lcp v f=some r):EC Tryz.prog 95 [.ptr 5 0,.fn (.func 105) [] [.ptr 6 0]] [QB v,QE v,Q2 v,QH v,QK v,Qc v,.box 146 (gm f)] fun g hp'=>g=.d (Sl Lfv r)∧hp'=[QB v,QE v,Q2 v,QH v,QK v,Qc v,.box 146 (gm f)]:=by
 unfold Lcp at h
 refine QN Tryz.func95 E Z<|gA 7 E<|Keu (t:=0) 46 3 E Z<|gO 14 E<|bK h fun q4 hq4 h5=>Kef 12 E fun hb7=>Kid [(5,.sl 7 q4.length)] [QB v,QE v,Q2 v,QH v,QK v,Qc v,.box 146 (gm f),Qab q4] ?_ ?_
 ·refine gA 1 E<|Kfp v.s.Nodes hq4 (fun i1 s2=>[(1,.fn (.func 105) [] [.ptr 6 0]),(5,.sl 7 s2.length),(12,.d (Sl Lfr v.s.Nodes)),(13,I (v.s.Nodes.length:Int)),(14,I (i1:Int))]) (fun s2=>[QB v,QE v,Q2 v,QH v,QK v,Qc v,.box 146 (gm f),Qab s2]) ⟨⟨E,E,E,E,E,tV⟩,[],E,.inl E⟩ (fun i1 x3 s2 y11 hx8 hlt hy9=>?_) (?_)
  ·refine gA 6 E<|Kdo E (dT (Int.ofNat_lt.2 hlt))<|gA 6 E<|eo_o E (Keg hΓ (enc:=Lfr) (Kdz hx8) E E E E E (fun _=>E))<|gO 1 E<|Kqn hΓ E E E Z<|Kqs hΓ E E E E E E E E Z<|Kfg [QB v,QE v,Q2 v,QH v,QK v,Qc v,.box 146 (gm f),Qab s2,.box 103 (gB x3)] E<|bK hy9 fun y12 hy12 h13=>gO 6 E<|Kew [6] (B y12) [QB v,QE v,Q2 v,QH v,QK v,Qc v,.box 146 (gm f),Qab s2,.box 103 (gB x3)] C (Lkt hy12) E Z E E E E E E E E E E<|gO 2 E<|jC E h13 (fun h14=>?_) fun h17=>gA 7 E ?_
   ·refine bK h14 fun y15 hy15 h16=>gA 4 E<|Kfh hΓ (enc:=Lfh) hy15 E E E E E E E E E (fun _=>E) E E E E<|gO 8 E ?_
    cases h16
    exact⟨⟨E,E,E,E,Kcs E (Kcr (nLl hlt hb7)),tV⟩,[_],E,.inr ⟨HB.mk E,FB.mk E,Z⟩⟩
   cases h17
   exact⟨⟨E,E,E,E,Kcs E (Kcr (nLl hlt hb7)),tV⟩,[_],E,.inr ⟨HB.mk E,FB.mk E,Z⟩⟩
  exact gA 6 E<|Kdp E (dF (Int.lt_irrefl _))<|gA 4 E<|⟨⟨E,tV⟩,[],E,.inl E⟩
 exact bK h5 fun y18 hy18 h19=>gA 4 E<|Kfd 7 [5,26] _ [QB v,QE v,Q2 v,QH v,QK v,Qc v,.box 146 (gm f),.dead] E E E Z<|Kex C (Lkh hy18) E Z E E E E E<|gO 4 E<|oSi h19▸Kfn hΓ [_] (.inr E) E E E E (.inr ⟨HB.mk E,E⟩)
theorem Lkv{n:Kxo}{x:Kxh}{r:Bool}(h:Lcq n x=some r):EC Tryz.prog 106 [.agg (gB n),.ptr 0 0] [.box 146 (gm x)] fun g hp'=>g=B r∧hp'=[.box 146 (gm x)]:=by
 unfold Lcq at h
 exact QN Tryz.func106 E Z<|gA 2 E<|Kqo E E E E Z<|gO 14 E<|oSi h▸Kfn hΓ [_] (.inr E) E E E E (.inr ⟨HB.mk E,E⟩)
theorem Lkw{v:Kxu}{f:Kxh}{r:List Kxt}(h:Lcr v f=some r):EC Tryz.prog 95 [.ptr 5 0,.fn (.func 106) [] [.ptr 6 0]] [QB v,QE v,Q2 v,QH v,QK v,Qc v,.box 146 (gm f)] fun g hp'=>g=.d (Sl Lfv r)∧hp'=[QB v,QE v,Q2 v,QH v,QK v,Qc v,.box 146 (gm f)]:=by
 unfold Lcr at h
 refine QN Tryz.func95 E Z<|gA 7 E<|Keu (t:=0) 46 3 E Z<|gO 14 E<|bK h fun q4 hq4 h5=>Kef 12 E fun hb7=>Kid [(5,.sl 7 q4.length)] [QB v,QE v,Q2 v,QH v,QK v,Qc v,.box 146 (gm f),Qab q4] ?_ ?_
 ·refine gA 1 E<|Kfp v.s.Nodes hq4 (fun i1 s2=>[(1,.fn (.func 106) [] [.ptr 6 0]),(5,.sl 7 s2.length),(12,.d (Sl Lfr v.s.Nodes)),(13,I (v.s.Nodes.length:Int)),(14,I (i1:Int))]) (fun s2=>[QB v,QE v,Q2 v,QH v,QK v,Qc v,.box 146 (gm f),Qab s2]) ⟨⟨E,E,E,E,E,tV⟩,[],E,.inl E⟩ (fun i1 x3 s2 y11 hx8 hlt hy9=>?_) (?_)
  ·refine gA 6 E<|Kdo E (dT (Int.ofNat_lt.2 hlt))<|gA 6 E<|eo_o E (Keg hΓ (enc:=Lfr) (Kdz hx8) E E E E E (fun _=>E))<|gO 1 E<|Kqn hΓ E E E Z<|Kqs hΓ E E E E E E E E Z<|Kfg [QB v,QE v,Q2 v,QH v,QK v,Qc v,.box 146 (gm f),Qab s2,.box 103 (gB x3)] E<|bK hy9 fun y12 hy12 h13=>gO 6 E<|Kew [6] (B y12) [QB v,QE v,Q2 v,QH v,QK v,Qc v,.box 146 (gm f),Qab s2,.box 103 (gB x3)] C (Lkv hy12) E Z E E E E E E E E E E<|gO 2 E<|jC E h13 (fun h14=>?_) fun h17=>gA 7 E ?_
   ·refine bK h14 fun y15 hy15 h16=>gA 4 E<|Kfh hΓ (enc:=Lfh) hy15 E E E E E E E E E (fun _=>E) E E E E<|gO 8 E ?_
    cases h16
    exact⟨⟨E,E,E,E,Kcs E (Kcr (nLl hlt hb7)),tV⟩,[_],E,.inr ⟨HB.mk E,FB.mk E,Z⟩⟩
   cases h17
   exact⟨⟨E,E,E,E,Kcs E (Kcr (nLl hlt hb7)),tV⟩,[_],E,.inr ⟨HB.mk E,FB.mk E,Z⟩⟩
  exact gA 6 E<|Kdp E (dF (Int.lt_irrefl _))<|gA 4 E<|⟨⟨E,tV⟩,[],E,.inl E⟩
 exact bK h5 fun y18 hy18 h19=>gA 4 E<|Kfd 7 [5,26] _ [QB v,QE v,Q2 v,QH v,QK v,Qc v,.box 146 (gm f),.dead] E E E Z<|Kex C (Lkh hy18) E Z E E E E E<|gO 4 E<|oSi h19▸Kfn hΓ [_] (.inr E) E E E E (.inr ⟨HB.mk E,E⟩)
theorem Lkx{p:Kxf}{r:Kxe}(h:Lcs p=some r):Pure Tryz.prog 163 [.agg (gk p)] (.agg (gh r)):=by
 unfold Lcs at h
 exact QP Tryz.func163 E E E<|gA 2 E<|Kqo E E E E Z<|Kqn hΓ E E E Z<|bK h fun y1 hy1 h2=>gO 8 E<|Kex C (Lkd hy1) E Z E E E E E<|Kqs hΓ E E E E E E E E Z<|Kfg [.box 106 (gk p),.box 46 (gh y1)] E<|gO 3 E<|oSi h2▸gP E E
theorem Lky{l:List Kxf}{r:List Kxt}(h:Lct l=some r):Pure Tryz.prog 108 [.d (Sl Lfi l)] (.d (Sl Lfv r)):=by
 unfold Lct at h
 refine QP Tryz.func108 E E E<|gA 7 E<|Keu (t:=0) 180 6 E Z<|gO 10 E<|bK h fun q4 hq4 h5=>Kef 6 E fun hb7=>Kid [(3,.sl 0 q4.length)] [Qnb q4] ?_ ?_
 ·refine gA 1 E<|Kfp l hq4 (fun i1 s2=>[(3,.sl 0 s2.length),(6,.d (Sl Lfi l)),(7,I (l.length:Int)),(8,I (i1:Int))]) (fun s2=>[Qnb s2]) ⟨⟨E,E,E,E,tV⟩,[],E,.inl E⟩ (fun i1 x3 s2 y11 hx8 hlt hy9=>?_) (?_)
  ·refine gA 6 E<|Kdo E (dT (Int.ofNat_lt.2 hlt))<|gA 6 E<|eo_o E (Keg hΓ (enc:=Lfi) (Kdz hx8) E E E E E (fun _=>E))<|gO 1 E<|Kqn hΓ E E E Z<|Kqs hΓ E E E E E E E E Z<|Kfg [Qnb s2,.box 106 (gk x3)] E<|gO 2 E<|Khd [.dead,.box 106 (gk x3)] [2,3] [7] [] hmix (by kernel_rfl) (by kernel_rfl) ⟨E,tV⟩ Z<|bK hy9 fun y12 hy12 h13=>go_E hΓ 4 E<|Khr C (Lkx hy12) E E E E E E<|ge_q E (.inl E) (fun _ _=>Khf (qt_p (Khu hΓ (gs:=[B x3.Addr.Six,U x3.Addr.Hi,U x3.Addr.Lo,B y12.Six,U y12.Hi,U y12.Lo]) E E E E E E)))<|Khs hΓ (enc:=Lfv) [(⟨x3.Addr,y12⟩:Kxt)] E E E E E E E E E E E E<|bK h13 fun y14 hy14 h15=>ge_h [.dead,.box 106 (gk x3),Qnb y14] E E E (Khl ⟨E,tV⟩) (Kho (Kgt hΓ (enc:=Lfv) (id:=0) (h2:=show Γ 180=some ⟨_,6,_,_⟩ from E) hy14 E E E E E E E E (fun _=>E) E))<|go_E hΓ 1 E<|Khe<|gA 2 E<|Kgx 2 0 [Qnb y14,.box 106 (gk x3),.dead] E E E E E E<|gA 4 E ?_
   cases h15
   exact⟨⟨E,E,E,Kcs E (Kcr (nLl hlt hb7)),tV⟩,[_,_],E,.inr ⟨HB.mk E,FB.mk E,Z⟩⟩
  exact gA 6 E<|Kdp E (dF (Int.lt_irrefl _))<|gA 4 E<|⟨⟨E,tV⟩,[],E,.inl E⟩
 exact bK h5 fun y16 hy16 h17=>gA 4 E<|Klj C (Lkg hy16) (Kli (fun _=>E) _) E Z E E E E<|Kfg [Qnb q4,Qnb y16] E<|Kfd 1 [22] _ [Qnb q4,.dead] E E E Z<|gO 4 E<|oSi h17▸gP E E
theorem Lkz{n:Kxo}{r:Bool}(h:Lcu n=some r):Pure Tryz.prog 109 [.agg (gB n)] (B r):=by
 unfold Lcu at h
 exact QP Tryz.func109 E E E<|gA 2 E<|Kqo E E E E Z<|gO 12 E<|oSi h▸gP E E
theorem Lla{v:Kxu}{r:List Kxt}(h:Lcv v=some r):EC Tryz.prog 95 [.ptr 5 0,.fn (.func 109) [] []] [QB v,QE v,Q2 v,QH v,QK v,Qc v] fun g hp'=>g=.d (Sl Lfv r)∧hp'=[QB v,QE v,Q2 v,QH v,QK v,Qc v]:=by
 unfold Lcv at h
 refine QN Tryz.func95 E Z<|gA 7 E<|Keu (t:=0) 46 3 E Z<|gO 14 E<|bK h fun q4 hq4 h5=>Kef 12 E fun hb7=>Kid [(5,.sl 6 q4.length)] [QB v,QE v,Q2 v,QH v,QK v,Qc v,Qab q4] ?_ ?_
 ·refine gA 1 E<|Kfp v.s.Nodes hq4 (fun i1 s2=>[(1,.fn (.func 109) [] []),(5,.sl 6 s2.length),(12,.d (Sl Lfr v.s.Nodes)),(13,I (v.s.Nodes.length:Int)),(14,I (i1:Int))]) (fun s2=>[QB v,QE v,Q2 v,QH v,QK v,Qc v,Qab s2]) ⟨⟨E,E,E,E,E,tV⟩,[],E,.inl E⟩ (fun i1 x3 s2 y11 hx8 hlt hy9=>?_) (?_)
  ·refine gA 6 E<|Kdo E (dT (Int.ofNat_lt.2 hlt))<|gA 6 E<|eo_o E (Keg hΓ (enc:=Lfr) (Kdz hx8) E E E E E (fun _=>E))<|gO 1 E<|Kqn hΓ E E E Z<|Kqs hΓ E E E E E E E E Z<|Kfg [QB v,QE v,Q2 v,QH v,QK v,Qc v,Qab s2,.box 103 (gB x3)] E<|bK hy9 fun y12 hy12 h13=>gO 6 E<|Kex C (Lkz hy12) E Z E E E E E<|gO 2 E<|jC E h13 (fun h14=>?_) fun h17=>gA 7 E ?_
   ·refine bK h14 fun y15 hy15 h16=>gA 4 E<|Kfh hΓ (enc:=Lfh) hy15 E E E E E E E E E (fun _=>E) E E E E<|gO 8 E ?_
    cases h16
    exact⟨⟨E,E,E,E,Kcs E (Kcr (nLl hlt hb7)),tV⟩,[_],E,.inr ⟨HB.mk E,FB.mk E,Z⟩⟩
   cases h17
   exact⟨⟨E,E,E,E,Kcs E (Kcr (nLl hlt hb7)),tV⟩,[_],E,.inr ⟨HB.mk E,FB.mk E,Z⟩⟩
  exact gA 6 E<|Kdp E (dF (Int.lt_irrefl _))<|gA 4 E<|⟨⟨E,tV⟩,[],E,.inl E⟩
 exact bK h5 fun y18 hy18 h19=>gA 4 E<|Kfd 6 [5,26] _ [QB v,QE v,Q2 v,QH v,QK v,Qc v,.dead] E E E Z<|Kex C (Lkh hy18) E Z E E E E E<|gO 4 E<|oSi h19▸Kfn hΓ [_] (.inr E) E E E E (.inr ⟨HB.mk E,E⟩)
theorem Llb{n:Kxo}{r:Bool}(h:Lcw n=some r):Pure Tryz.prog 110 [.agg (gB n)] (B r):=by
 unfold Lcw at h
 exact QP Tryz.func110 E E E<|gA 2 E<|Kqo E E E E Z<|gO 13 E<|oSi h▸gP E E
theorem Llc{v:Kxu}{r:List Kxt}(h:Lcx v=some r):EC Tryz.prog 95 [.ptr 5 0,.fn (.func 110) [] []] [QB v,QE v,Q2 v,QH v,QK v,Qc v] fun g hp'=>g=.d (Sl Lfv r)∧hp'=[QB v,QE v,Q2 v,QH v,QK v,Qc v]:=by
 unfold Lcx at h
 refine QN Tryz.func95 E Z<|gA 7 E<|Keu (t:=0) 46 3 E Z<|gO 14 E<|bK h fun q4 hq4 h5=>Kef 12 E fun hb7=>Kid [(5,.sl 6 q4.length)] [QB v,QE v,Q2 v,QH v,QK v,Qc v,Qab q4] ?_ ?_
 ·refine gA 1 E<|Kfp v.s.Nodes hq4 (fun i1 s2=>[(1,.fn (.func 110) [] []),(5,.sl 6 s2.length),(12,.d (Sl Lfr v.s.Nodes)),(13,I (v.s.Nodes.length:Int)),(14,I (i1:Int))]) (fun s2=>[QB v,QE v,Q2 v,QH v,QK v,Qc v,Qab s2]) ⟨⟨E,E,E,E,E,tV⟩,[],E,.inl E⟩ (fun i1 x3 s2 y11 hx8 hlt hy9=>?_) (?_)
  ·refine gA 6 E<|Kdo E (dT (Int.ofNat_lt.2 hlt))<|gA 6 E<|eo_o E (Keg hΓ (enc:=Lfr) (Kdz hx8) E E E E E (fun _=>E))<|gO 1 E<|Kqn hΓ E E E Z<|Kqs hΓ E E E E E E E E Z<|Kfg [QB v,QE v,Q2 v,QH v,QK v,Qc v,Qab s2,.box 103 (gB x3)] E<|bK hy9 fun y12 hy12 h13=>gO 6 E<|Kex C (Llb hy12) E Z E E E E E<|gO 2 E<|jC E h13 (fun h14=>?_) fun h17=>gA 7 E ?_
   ·refine bK h14 fun y15 hy15 h16=>gA 4 E<|Kfh hΓ (enc:=Lfh) hy15 E E E E E E E E E (fun _=>E) E E E E<|gO 8 E ?_
    cases h16
    exact⟨⟨E,E,E,E,Kcs E (Kcr (nLl hlt hb7)),tV⟩,[_],E,.inr ⟨HB.mk E,FB.mk E,Z⟩⟩
   cases h17
   exact⟨⟨E,E,E,E,Kcs E (Kcr (nLl hlt hb7)),tV⟩,[_],E,.inr ⟨HB.mk E,FB.mk E,Z⟩⟩
  exact gA 6 E<|Kdp E (dF (Int.lt_irrefl _))<|gA 4 E<|⟨⟨E,tV⟩,[],E,.inl E⟩
 exact bK h5 fun y18 hy18 h19=>gA 4 E<|Kfd 6 [5,26] _ [QB v,QE v,Q2 v,QH v,QK v,Qc v,.dead] E E E Z<|Kex C (Lkh hy18) E Z E E E E E<|gO 4 E<|oSi h19▸Kfn hΓ [_] (.inr E) E E E E (.inr ⟨HB.mk E,E⟩)
theorem Lld{k:Nat}{v:Kxu}{w:Kxh}{r:List Kxt}(h:Lcy k v w=some r):EC Tryz.prog 64 [.ptr 5 0,.agg (gm w)] [QB v,QE v,Q2 v,QH v,QK v,Qc v] fun g hp'=>g=.d (Sl Lfv r)∧hp'=[QB v,QE v,Q2 v,QH v,QK v,Qc v]:=by
 unfold Lcy at h
 refine QN Tryz.func64 E Z<|gA 2 E<|Kqo E E E E Z<|gO 17 E<|jC E h (fun h1=>?_) fun h4=>gA 6 E<|jC E h4 (fun h5=>?_) fun h8=>?_
 ·exact bK h1 fun y2 hy2 h3=>gA 2 E<|Kex C (Lkk hy2) E Z E E E E E<|gO 6 E<|oSi h3▸Kfn hΓ [_] (.inr E) E E E E (.inr ⟨HB.mk E,E⟩)
 ·exact bK h5 fun y6 hy6 h7=>gA 4 E<|Kew [0,1,2,3,4,5,6] (.d (Sl Lfv y6)) [QB v,QE v,Q2 v,QH v,QK v,Qc v,.box 146 (gm w)] C (Lkm hy6) E Z E E E E E E E E E E<|gO 6 E<|oSi h7▸Kfn hΓ [_] (.inr E) E E E E (.inr ⟨HB.mk E,E⟩)
 refine gA 6 E<|jC E h8 (fun h9=>?_) fun h16=>gA 6 E<|jC E h16 (fun h17=>?_) fun h20=>?_
 ·exact gA 1 E<|jD<|bK h9 fun y10 hy10 h11=>gA 7 E<|Kez C (Lin hy10) E E E E E E<|bK h11 fun y12 hy12 h13=>Kdl hΓ 15 E<|Kex C (Lkq hy12) E Z E E E E E<|Kqn hΓ E E E Z<|Kqs hΓ E E E E E E E E Z<|Kfg [QB v,QE v,Q2 v,QH v,QK v,Qc v,.box 146 (gm w),.box 70 [.d (Sl eS y12)]] E<|bK h13 fun y14 hy14 h15=>gO 6 E<|Kew [0,1,2,3,4,5,7] (.d (Sl Lfv y14)) [QB v,QE v,Q2 v,QH v,QK v,Qc v,.box 146 (gm w),.box 70 [.d (Sl eS y12)]] C (Lks hy14) E Z E E E E E E E E E E<|gO 6 E<|oSi h15▸Kfn hΓ [_,_] (.inr E) E E E E (.inr ⟨HB.mk E,E⟩)
 ·exact bK h17 fun y18 hy18 h19=>gA 4 E<|Kew [0,1,2,3,4,5,6] (.d (Sl Lfv y18)) [QB v,QE v,Q2 v,QH v,QK v,Qc v,.box 146 (gm w)] C (Lku hy18) E Z E E E E E E E E E E<|gO 6 E<|oSi h19▸Kfn hΓ [_] (.inr E) E E E E (.inr ⟨HB.mk E,E⟩)
 refine gA 6 E<|jC E h20 (fun h21=>?_) fun h24=>gA 6 E<|jC E h24 (fun h25=>?_) fun h32=>?_
 ·exact bK h21 fun y22 hy22 h23=>gA 4 E<|Kew [0,1,2,3,4,5,6] (.d (Sl Lfv y22)) [QB v,QE v,Q2 v,QH v,QK v,Qc v,.box 146 (gm w)] C (Lkw hy22) E Z E E E E E E E E E E<|gO 6 E<|oSi h23▸Kfn hΓ [_] (.inr E) E E E E (.inr ⟨HB.mk E,E⟩)
 ·exact gA 1 E<|jD<|bK h25 fun y26 hy26 h27=>gA 7 E<|Kez C (Lja hy26) E E E E E E<|bK h27 fun x28 hx28 h29=>Kdl hΓ 16 E<|eo_o E (Keg hΓ (enc:=Lfj) hx28 E E E E E (fun _=>E))<|gO 2 E<|Ker hΓ (enc:=Lfi) [x28.Net] E E E E E E E E E E E E Z<|bK h29 fun y30 hy30 h31=>Kex C (Lky hy30) E Z E E E E E<|gO 6 E<|oSi h31▸Kfn hΓ [_] (.inr E) E E E E (.inr ⟨HB.mk E,E⟩)
 refine gA 6 E<|jC E h32 (fun h33=>?_) fun h36=>gA 6 E<|jC E h36 (fun h37=>?_) fun h40=>?_
 ·exact gA 4 E<|Ker hΓ (enc:=Lfi) [w.Net] E E E E E E E E E E E E Z<|bK h33 fun y34 hy34 h35=>Kex C (Lky hy34) E Z E E E E E<|gO 6 E<|oSi h35▸Kfn hΓ [_] (.inr E) E E E E (.inr ⟨HB.mk E,E⟩)
 ·exact bK h37 fun y38 hy38 h39=>gA 3 E<|Kew [0,1,2,3,4,5] (.d (Sl Lfv y38)) [QB v,QE v,Q2 v,QH v,QK v,Qc v,.box 146 (gm w)] C (Lla hy38) E Z E E E E E E E E E E<|gO 6 E<|oSi h39▸Kfn hΓ [_] (.inr E) E E E E (.inr ⟨HB.mk E,E⟩)
 refine gA 6 E<|jC E h40 (fun h41=>?_) fun h44=>gA 9 E<|oSi h44▸Kfn hΓ [_] (.inr E) E E E E (.inr ⟨HB.mk E,E⟩)
 exact bK h41 fun y42 hy42 h43=>gA 3 E<|Kew [0,1,2,3,4,5] (.d (Sl Lfv y42)) [QB v,QE v,Q2 v,QH v,QK v,Qc v,.box 146 (gm w)] C (Llc hy42) E Z E E E E E E E E E E<|gO 6 E<|oSi h43▸Kfn hΓ [_] (.inr E) E E E E (.inr ⟨HB.mk E,E⟩)
theorem Lle{a:List Kxt}{b:List Kxt}{r:List Kxt}(h:Lcz a b=some r):Pure Tryz.prog 93 [.d (Sl Lfv a),.d (Sl Lfv b)] (.d (Sl Lfv r)):=by
 unfold Lcz at h
 exact QP Tryz.func93 E E E<|bK h fun y1 hy1 h2=>gA 8 E<|Kew [] (.sl 0 y1.length) [Qnb y1] C (Lka hy1) E Z E E E E E E E E E E<|bK h2 fun y3 hy3 h4=>gO 1 E<|Kfh hΓ (enc:=Lfv) hy3 E E E E E E E E E (fun _=>E) E E E E<|bK h4 fun y5 hy5 h6=>Klj C (Lkg hy5) (Kli (fun _=>E) _) E Z E E E E<|Kfg [Qnb y3,Qnb y5] E<|Kfd 1 [9] _ [Qnb y3,.dead] E E E Z<|gO 4 E<|oSi h6▸gP E E
theorem Llf{p:Str}{x:Kxu}{x2:Kxo}{r:Bool}(h:Lda p x x2=some r):EC Tryz.prog 98 [S p,.ptr 6 0,.ptr 7 0] [Qpb x.owners,Qqb x.meets,Qrb x.src,Qsb x.dst,Qtb x.own,Qd x,Q6,.box 103 (gB x2)] fun g hp'=>g=B r∧hp'=[Qpb x.owners,Qqb x.meets,Qrb x.src,Qsb x.dst,Qtb x.own,Qd x,Q6,.box 103 (gB x2)]:=by
 unfold Lda at h
 exact QN Tryz.func98 E Z<|gA 6 E<|jD<|gA 7 E<|gl_o E (Khu hΓ (gs:=[S x2.Key,S p]) E E E E E E)<|gl_o E (Kls hΓ (kenc:=Lfs) (agg:=false) (enc:=eB) x.meets (⟨x2.Key,p⟩:Kxp) (false:Bool) E E E Lhr (fun _=>E) E E E E E E E)<|Kdl hΓ 4 E<|oSi h▸Kfn hΓ [] (.inr E) E E E E (.inl E)
theorem Llg{s:List Str}{f:Kxu}{f2:Kxo}{r:Int}(h:Ldb s f f2=some r):EC Tryz.prog 155 [.d (Sl eS s),.fn (.func 98) [] [.ptr 6 0,.ptr 7 0]] [QC f,QG f,Q3 f,QI f,QL f,Qe f,Q6,.box 103 (gB f2)] fun g hp'=>g=I r∧hp'=[QC f,QG f,Q3 f,QI f,QL f,Qe f,Q6,.box 103 (gB f2)]:=by
 unfold Ldb at h
 refine QN Tryz.func155 E Z<|gA 13 E<|bK h fun q4 hq4 h5=>Kef 0 E fun hb7=>Kic (R:=fun a6=>q4=.go a6) (fun a6=>[]) (fun a6=>[QC f,QG f,Q3 f,QI f,QL f,Qe f,Q6,.box 103 (gB f2)]) ?_ ?_
 ·refine gA 1 E<|Kee s hq4 (fun i1 s2=>[(0,.d (Sl eS s)),(1,.fn (.func 98) [] [.ptr 6 0,.ptr 7 0]),(7,I (s.length:Int)),(8,I (i1:Int))]) (fun s2=>[QC f,QG f,Q3 f,QI f,QL f,Qe f,Q6,.box 103 (gB f2)]) ⟨⟨E,E,E,E,tV⟩,[],E,.inl E⟩ (fun i1 x3 s2 y11 hx8 hlt hy9 hout10=>?_) (fun s2 hgo=>?_)
  ·refine gA 6 E<|Kdo E (dT (Int.ofNat_lt.2 hlt))<|gA 15 E<|eo_o E (Keg hΓ (enc:=eS) (Kdz hx8) E E E E E (fun _=>E))<|bK hy9 fun y12 hy12 h13=>gO 1 E<|Kew [0,1,2,3,4,5,6,7] (B y12) [QC f,QG f,Q3 f,QI f,QL f,Qe f,Q6,.box 103 (gB f2)] C (Llf hy12) E Z E E E E E E E E E E<|gO 2 E<|jC E h13 (fun h14=>?_) fun h17=>gA 7 E ?_
   ·refine gA 9 E<|bK h14 fun v15 hv15 h16=>?_
    cases h16
    obtain rfl:=hout10 _ rfl
    cases h5
    exact gA 4 E<|oSi hv15▸Kfn hΓ [] (.inr E) E E E E (.inl E)
   cases h17
   exact⟨_,E,⟨⟨E,E,E,Kcs E (Kcr (nLl hlt hb7)),tV⟩,[],E,.inl E⟩⟩
  subst hgo
  exact gA 6 E<|Kdp E (dF (Int.lt_irrefl _))<|gA 4 E<|⟨_,E,⟨tV,[],E,.inl E⟩⟩
 intro a6 ha
 subst ha
 replace h5:=Khx h5
 exact gA 7 E<|oSi h5▸Kfn hΓ [] (.inr E) E E E E (.inl E)
theorem Llh{s:List Str}{f:Kxu}{f2:Kxo}{r:Bool}(h:Ldc s f f2=some r):EC Tryz.prog 97 [.d (Sl eS s),.fn (.func 98) [] [.ptr 6 0,.ptr 7 0]] [QC f,QG f,Q3 f,QI f,QL f,Qe f,Q6,.box 103 (gB f2)] fun g hp'=>g=B r∧hp'=[QC f,QG f,Q3 f,QI f,QL f,Qe f,Q6,.box 103 (gB f2)]:=by
 unfold Ldc at h
 exact QN Tryz.func97 E Z<|bK h fun y1 hy1 h2=>gA 9 E<|Kew [0,1,2,3,4,5,6,7] (I y1) [QC f,QG f,Q3 f,QI f,QL f,Qe f,Q6,.box 103 (gB f2)] C (Llg hy1) E Z E E E E E E E E E E<|gO 5 E<|oSi h2▸Kfn hΓ [] (.inr E) E E E E (.inl E)
theorem Lli{n:Kxo}{x:Kxk}{x2:Kxu}{r:Bool}(h:Ldd n x x2=some r):EC Tryz.prog 96 [.agg (gB n),.ptr 0 0,.ptr 7 0] [.box 115 (gt x),Qz x2,Qqb x2.meets,Qrb x2.src,Qsb x2.dst,Qtb x2.own,Qb x2,.box 82 [.ptr 6 0]] fun g hp'=>g=B r∧hp'=[.box 115 (gt x),Qz x2,Qqb x2.meets,Qrb x2.src,Qsb x2.dst,Qtb x2.own,Qb x2,.box 82 [.ptr 6 0]]:=by
 unfold Ldd at h
 exact QN Tryz.func96 E Z<|gA 2 E<|Kqo E E E E Z<|bK h fun y1 hy1 h2=>gO 8 E<|Kew [1,2,3,4,5,6,7,8] (B y1) [.box 115 (gt x),Qz x2,Qqb x2.meets,Qrb x2.src,Qsb x2.dst,Qtb x2.own,Qb x2,.box 82 [.ptr 6 0],.box 103 (gB n)] C (Llh hy1) E Z E E E E E E E E E E<|gO 4 E<|oSi h2▸Kfn hΓ [_] (.inr E) E E E E (.inr ⟨HB.mk E,E⟩)
theorem Llj{v:Kxu}{f:Kxk}{r:List Kxt}(h:Lde v f=some r):EC Tryz.prog 95 [.ptr 5 0,.fn (.func 96) [] [.ptr 6 0,.ptr 7 0]] [QB v,QE v,Q2 v,QH v,QK v,Qc v,.box 115 (gt f),Q6] fun g hp'=>g=.d (Sl Lfv r)∧hp'=[QB v,QE v,Q2 v,QH v,QK v,Qc v,.box 115 (gt f),Q6]:=by
 unfold Lde at h
 refine QN Tryz.func95 E Z<|gA 7 E<|Keu (t:=0) 46 3 E Z<|gO 14 E<|bK h fun q4 hq4 h5=>Kef 12 E fun hb7=>Kid [(5,.sl 8 q4.length)] [QB v,QE v,Q2 v,QH v,QK v,Qc v,.box 115 (gt f),Q6,Qab q4] ?_ ?_
 ·refine gA 1 E<|Kfp v.s.Nodes hq4 (fun i1 s2=>[(1,.fn (.func 96) [] [.ptr 6 0,.ptr 7 0]),(5,.sl 8 s2.length),(12,.d (Sl Lfr v.s.Nodes)),(13,I (v.s.Nodes.length:Int)),(14,I (i1:Int))]) (fun s2=>[QB v,QE v,Q2 v,QH v,QK v,Qc v,.box 115 (gt f),Q6,Qab s2]) ⟨⟨E,E,E,E,E,tV⟩,[],E,.inl E⟩ (fun i1 x3 s2 y11 hx8 hlt hy9=>?_) (?_)
  ·refine gA 6 E<|Kdo E (dT (Int.ofNat_lt.2 hlt))<|gA 6 E<|eo_o E (Keg hΓ (enc:=Lfr) (Kdz hx8) E E E E E (fun _=>E))<|gO 1 E<|Kqn hΓ E E E Z<|Kqs hΓ E E E E E E E E Z<|Kfg [QB v,QE v,Q2 v,QH v,QK v,Qc v,.box 115 (gt f),Q6,Qab s2,.box 103 (gB x3)] E<|bK hy9 fun y12 hy12 h13=>gO 6 E<|Kew [6,0,1,2,3,4,5,7] (B y12) [QB v,QE v,Q2 v,QH v,QK v,Qc v,.box 115 (gt f),Q6,Qab s2,.box 103 (gB x3)] C (Lli hy12) E Z E E E E E E E E E E<|gO 2 E<|jC E h13 (fun h14=>?_) fun h17=>gA 7 E ?_
   ·refine bK h14 fun y15 hy15 h16=>gA 4 E<|Kfh hΓ (enc:=Lfh) hy15 E E E E E E E E E (fun _=>E) E E E E<|gO 8 E ?_
    cases h16
    exact⟨⟨E,E,E,E,Kcs E (Kcr (nLl hlt hb7)),tV⟩,[_],E,.inr ⟨HB.mk E,FB.mk E,Z⟩⟩
   cases h17
   exact⟨⟨E,E,E,E,Kcs E (Kcr (nLl hlt hb7)),tV⟩,[_],E,.inr ⟨HB.mk E,FB.mk E,Z⟩⟩
  exact gA 6 E<|Kdp E (dF (Int.lt_irrefl _))<|gA 4 E<|⟨⟨E,tV⟩,[],E,.inl E⟩
 exact bK h5 fun y18 hy18 h19=>gA 4 E<|Kfd 8 [5,26] _ [QB v,QE v,Q2 v,QH v,QK v,Qc v,.box 115 (gt f),Q6,.dead] E E E Z<|Kex C (Lkh hy18) E Z E E E E E<|gO 4 E<|oSi h19▸Kfn hΓ [_] (.inr E) E E E E (.inr ⟨HB.mk E,E⟩)
theorem Llk{a:Kxe}{b:Kxe}{r:Kxe}(h:Ldf a b=some r):Pure Tryz.prog 153 [.agg (gh a),.agg (gh b)] (.agg (gh r)):=by
 unfold Ldf at h
 refine QP Tryz.func153 E E E<|gA 2 E<|Kqo E E E E Z<|Kqo E E E E Z<|Kqn hΓ E E E Z<|bK h fun y1 hy1 h2=>gO 7 E<|Kex C (Ljt hy1) E Z E E E E E<|gO 3 E<|jC E h2 (fun h3=>?_) fun h4=>gA 5 E<|Kqs hΓ E E E E E E E E Z<|Kfg [.box 46 (gh a),.box 46 (gh b),.box 46 (gh b)] E<|gO 3 E<|oSi h4▸gP E E
 exact gA 3 E<|Kqs hΓ E E E E E E E E Z<|Kfg [.box 46 (gh a),.box 46 (gh b),.box 46 (gh a)] E<|gO 4 E<|oSi h3▸gP E E
theorem Lll{a:Kxe}{b:Kxe}{r:Kxe}(h:Ldg a b=some r):Pure Tryz.prog 154 [.agg (gh a),.agg (gh b)] (.agg (gh r)):=by
 unfold Ldg at h
 refine QP Tryz.func154 E E E<|gA 2 E<|Kqo E E E E Z<|Kqo E E E E Z<|Kqn hΓ E E E Z<|bK h fun y1 hy1 h2=>gO 7 E<|Kex C (Ljt hy1) E Z E E E E E<|gO 3 E<|jC E h2 (fun h3=>?_) fun h4=>gA 5 E<|Kqs hΓ E E E E E E E E Z<|Kfg [.box 46 (gh a),.box 46 (gh b),.box 46 (gh b)] E<|gO 3 E<|oSi h4▸gP E E
 exact gA 3 E<|Kqs hΓ E E E E E E E E Z<|Kfg [.box 46 (gh a),.box 46 (gh b),.box 46 (gh a)] E<|gO 4 E<|oSi h3▸gP E E
theorem Llm{k:Nat}{a:List Kxt}{b:List Kxt}{r:List Kxt}(h:Ldh k a b=some r):Pure Tryz.prog 94 [.d (Sl Lfv a),.d (Sl Lfv b)] (.d (Sl Lfv r)):=by
 unfold Ldh at h
 refine QP Tryz.func94 E E E<|gA 7 E<|Keu (t:=0) 180 6 E Z<|gO 9 E<|bK h fun q4 hq4 h5=>Kid [(5,.sl 0 q4.length)] [Qnb q4] ?_ ?_
 ·refine gA 1 E<|Kec hq4 (fun s2=>[(0,.d (Sl Lfv a)),(1,.d (Sl Lfv b)),(5,.sl 0 s2.1.length),(6,I s2.2.1),(7,I s2.2.2)]) (fun s2=>[Qnb s2.1]) ⟨⟨E,E,E,E,E,tV⟩,[],E,.inl E⟩ (fun s2 y10 hy8 hout9=>?_)
  refine gA 8 E<|Kdt 5 [(0,.d (Sl Lfv a)),(1,.d (Sl Lfv b)),(5,.sl 0 s2.1.length),(6,I s2.2.1),(7,I s2.2.2),(18,B ((decide ((s2.2.1:Int)<(a.length:Int)))&&(decide ((s2.2.2:Int)<(b.length:Int)))))] [Qnb s2.1] ?_ ?_
  ·refine Kpg E E (fun hb=>?_) (fun hb=>?_)
   ·exact gO 6 E<|⟨⟨E,E,E,E,E,Kct E (Kft hb),tV⟩,[],E,.inl E⟩
   exact gO 6 E<|⟨⟨E,E,E,E,E,Kct E (Kfu hb),tV⟩,[],E,.inl E⟩
  refine gO 2 E<|jC E hy8 (fun h11=>?_) fun h40=>gA 4 E ?_
  ·refine gA 4 E<|Khd [] [] [23,24] [] hmix (by kernel_rfl) (by kernel_rfl) trivial Z<|bK h11 fun x12 hx12 h13=>go_E hΓ 2 E<|ge_q E (.inl E) (fun _ _=>Khf (qt_p (Keg hΓ (enc:=Lfv) hx12 E E E E E (fun _=>E))))<|bK h13 fun x14 hx14 h15=>go_E hΓ 4 E<|ge_q E (.inl E) (fun _ _=>Khf (qt_p (Keg hΓ (enc:=Lfv) hx14 E E E E E (fun _=>E))))<|bK h15 fun y16 hy16 h17=>go_E hΓ 2 E<|Khr C (Llk hy16) E E E E E E<|bK h17 fun x18 hx18 h19=>go_E hΓ 2 E<|ge_q E (.inl E) (fun _ _=>Khf (qt_p (Keg hΓ (enc:=Lfv) hx18 E E E E E (fun _=>E))))<|bK h19 fun x20 hx20 h21=>go_E hΓ 4 E<|ge_q E (.inl E) (fun _ _=>Khf (qt_p (Keg hΓ (enc:=Lfv) hx20 E E E E E (fun _=>E))))<|bK h21 fun y22 hy22 h23=>go_E hΓ 2 E<|Khr C (Lll hy22) E E E E E E<|ge_q E (.inl E) (fun _ _=>Khf (qt_p (Khu hΓ (gs:=[B y16.Six,U y16.Hi,U y16.Lo,B y22.Six,U y22.Hi,U y22.Lo]) E E E E E E)))<|ge_h [Qnb s2.1,.box 180 [B false,U 0,U 0,B false,U 0,U 0]] E E E (Khl tV) (Kho (Kht hΓ (hi:=show Γ 180=some ⟨_,_,_,_⟩ from E) E))<|Khj [Qnb s2.1,.box 180 [B y16.Six,U y16.Hi,U y16.Lo,B y22.Six,U y22.Hi,U y22.Lo]] E E (Khl tV) (Khp (Kiq hΓ E E E E E E E E E))<|Khe<|bK h23 fun y24 hy24 h25=>gA 8 E<|Kex C (Ljt hy24) E Z E E E E E<|bK h25 fun q26 hq26 h27=>gO 3 E<|Kid [(0,.d (Sl Lfv a)),(1,.d (Sl Lfv b)),(5,.sl 0 q26.length),(6,I s2.2.1),(7,I s2.2.2)] [Qnb q26,.box 180 [B y16.Six,U y16.Hi,U y16.Lo,B y22.Six,U y22.Hi,U y22.Lo]] ?_ ?_
   ·refine jC E hq26 (fun h28=>?_) fun h31=>gA 1 E<|oSi h31▸⟨⟨E,E,E,E,E,tV⟩,[],E,.inl E⟩
    exact gA 3 E<|Ker hΓ (enc:=Lfv) [(⟨y16,y22⟩:Kxt)] E E E E E E E E E E E E Z<|bK h28 fun y29 hy29 h30=>Kfh hΓ (enc:=Lfv) hy29 E E E E E E E E E (fun _=>E) E E E E<|gO 2 E<|oSi h30▸⟨⟨E,E,E,E,E,tV⟩,[],E,.inl E⟩
   refine gA 2 E<|jD<|bK h27 fun x32 hx32 h33=>gA 2 E<|gl_o E (Keg hΓ (enc:=Lfv) hx32 E E E E E (fun _=>E))<|bK h33 fun x34 hx34 h35=>Kdl hΓ 4 E<|gl_o E (Keg hΓ (enc:=Lfv) hx34 E E E E E (fun _=>E))<|bK h35 fun y36 hy36 h37=>Kdl hΓ 2 E<|Kez C (Ljt hy36) E E E E E E<|Kdl hΓ 3 E<|jC E h37 (fun h38=>?_) fun h39=>gA 6 E<|oSi h39▸⟨_,E,⟨⟨E,E,E,E,E,tV⟩,[_],E,.inr ⟨HB.mk E,FB.mk E,Z⟩⟩⟩
   exact gA 6 E<|oSi h38▸⟨_,E,⟨⟨E,E,E,E,E,tV⟩,[_],E,.inr ⟨HB.mk E,FB.mk E,Z⟩⟩⟩
  cases h40
  obtain rfl:=hout9 _ rfl
  exact⟨⟨E,tV⟩,[],E,.inl E⟩
 exact bK h5 fun y41 hy41 h42=>gA 4 E<|Klj C (Lkg hy41) (Kli (fun _=>E) _) E Z E E E E<|Kfg [Qnb q4,Qnb y41] E<|Kfd 1 [69] _ [Qnb q4,.dead] E E E Z<|gO 4 E<|oSi h42▸gP E E
end Go.Proofs.YtcihhlhmkcaeeaaGreatDoor
