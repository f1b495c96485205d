import Derived.Test.YtfnjahjbpaoepaaGreatDoorXSM
import Derived.Test.YtfnjahjbpaoepaaGreatDoorGt
import Derived.Test.YtfnjahjbpaoepaaGreatDoorStr
import Derived.Test.YtfnjahjbpaoepaaGreatDoorStr2
import Derived.Test.YtfnjahjbpaoepaaGreatDoorStr4
import Derived.Test.YtfnjahjbpaoepaaGreatDoorStr5
import Derived.Test.YtfnjahjbpaoepaaGreatDoorStr6
import Derived.Test.YtfnjahjbpaoepaaGreatDoorStr7
import Derived.Test.YtfnjahjbpaoepaaGreatDoorStrL
import Derived.Test.YtfnjahjbpaoepaaGreatDoorBld
import Derived.Test.YtfnjahjbpaoepaaGreatDoorXSW1
set_option maxHeartbeats 8000000
set_option linter.all false
set_option maxRecDepth 100000
namespace Go.Proofs.YtfnjahjbpaoepaaGreatDoor
open Go.Gk
theorem Lbu{s:Kxx}{r:Int}(h:Lad s=some r):Pure Tryz.prog 112 [.agg (fS s)] (I r):=by
 unfold Lad at h
 refine QP Tryz.func112 E E E<|gA 2 E<|Krp E E E E Z<|bK h fun y1 hy1 h2=>gO 9 E<|Khq C (Lfi hy1) E Z E E E E E<|gO 4 E<|jC E h2 (fun h3=>?_) fun h4=>bK h4 fun y5 hy5 h6=>gA 4 E<|Khq C (Lfk hy5) E Z E E E E E<|gO 4 E<|jC E h6 (fun h7=>?_) fun h8=>?_
 ·exact gA 8 E<|oSi h3▸gP E E
 ·exact gA 8 E<|oSi h7▸gP E E
 refine bK h8 fun y9 hy9 h10=>gA 4 E<|Khq C (Lfl hy9) E Z E E E E E<|gO 4 E<|jC E h10 (fun h11=>?_) fun h12=>bK h12 fun y13 hy13 h14=>gA 4 E<|Khq C (Lfl hy13) E Z E E E E E<|gO 4 E<|jC E h14 (fun h15=>?_) fun h16=>?_
 ·exact gA 8 E<|oSi h11▸gP E E
 ·exact gA 8 E<|oSi h15▸gP E E
 refine bK h16 fun y17 hy17 h18=>gA 8 E<|Khq C (Lfm hy17) E Z E E E E E<|gK h18 fun hg20 h19=>Knm hΓ y17 E E E E Z<|gO 2 E<|bK h19 fun q26 hq26 h27=>gA 1 E<|Kno y17 hq26 (fun sn23 s21=>[(1,.ptr 0 0),(33,.ptr 1 0)]) (fun sn23 s21=>[.box 139 (fS s),.siter y17 sn23]) ⟨⟨E,E,tV⟩,[],E,.inl E⟩ (fun sn23 s21 hdone28 hstep29=>?_)
 refine gA 2 E<|Knn y17 sn23 [.box 139 (fS s),.dead] E E E E Z hg20 (fun hdsn23=>?_) (fun x22 hjsn23=>?_)
 ·have hqsn23:=hdone28 hdsn23
  subst hqsn23
  replace h27:=Kkf h27
  refine bK h27 fun y30 hy30 h31=>gO 14 E<|Khq C (Lfm hy30) E Z E E E E E<|bK h31 fun y32 hy32 h33=>Khq C (Kxo hy32) E Z E E E E E<|gO 5 E<|eo_s Z (nblt.1 E) (Klf false)<|Khx [.box 139 (fS s),.dead,mOb (kI .u8) false eB ([]:List (Int×Bool))] E<|gO 3 E<|eo_u Z (Kly hΓ (kv:=(kI .u8)) (agg:=false) (enc:=eB) (id:=2) ([]:List (Int×Bool)) 98 ((s.By:Str)==[]) E E E (Kla .u8) E E E E E)<|Khx [.box 139 (fS s),.dead,mOb (kI .u8) false eB (mSet ([]:List (Int×Bool)) 98 ((s.By:Str)==[]))] E<|gO 3 E<|eo_u Z (Kly hΓ (kv:=(kI .u8)) (agg:=false) (enc:=eB) (id:=2) (mSet ([]:List (Int×Bool)) 98 ((s.By:Str)==[])) 110 ((s.Node:Str)==[]) E E E (Kla .u8) E E E E E)<|Khx [.box 139 (fS s),.dead,mOb (kI .u8) false eB (mSet (mSet ([]:List (Int×Bool)) 98 ((s.By:Str)==[])) 110 ((s.Node:Str)==[]))] E<|gO 3 E<|eo_u Z (Kly hΓ (kv:=(kI .u8)) (agg:=false) (enc:=eB) (id:=2) (mSet (mSet ([]:List (Int×Bool)) 98 ((s.By:Str)==[])) 110 ((s.Node:Str)==[])) 106 ((s.Join:Str)==[]) E E E (Kla .u8) E E E E E)<|Khx [.box 139 (fS s),.dead,mOb (kI .u8) false eB (mSet (mSet (mSet ([]:List (Int×Bool)) 98 ((s.By:Str)==[])) 110 ((s.Node:Str)==[])) 106 ((s.Join:Str)==[]))] E<|gO 3 E<|eo_u Z (Kly hΓ (kv:=(kI .u8)) (agg:=false) (enc:=eB) (id:=2) (mSet (mSet (mSet ([]:List (Int×Bool)) 98 ((s.By:Str)==[])) 110 ((s.Node:Str)==[])) 106 ((s.Join:Str)==[])) 112 ((s.Public:Str)==[]) E E E (Kla .u8) E E E E E)<|Khx [.box 139 (fS s),.dead,mOb (kI .u8) false eB (mSet (mSet (mSet (mSet ([]:List (Int×Bool)) 98 ((s.By:Str)==[])) 110 ((s.Node:Str)==[])) 106 ((s.Join:Str)==[])) 112 ((s.Public:Str)==[]))] E<|gO 3 E<|eo_u Z (Kly hΓ (kv:=(kI .u8)) (agg:=false) (enc:=eB) (id:=2) (mSet (mSet (mSet (mSet ([]:List (Int×Bool)) 98 ((s.By:Str)==[])) 110 ((s.Node:Str)==[])) 106 ((s.Join:Str)==[])) 112 ((s.Public:Str)==[])) 109 ((s.Name:Str)==[]) E E E (Kla .u8) E E E E E)<|Khx [.box 139 (fS s),.dead,mOb (kI .u8) false eB (mSet (mSet (mSet (mSet (mSet ([]:List (Int×Bool)) 98 ((s.By:Str)==[])) 110 ((s.Node:Str)==[])) 106 ((s.Join:Str)==[])) 112 ((s.Public:Str)==[])) 109 ((s.Name:Str)==[]))] E<|gO 4 E<|eo_u Z (Kly hΓ (kv:=(kI .u8)) (agg:=false) (enc:=eB) (id:=2) (mSet (mSet (mSet (mSet (mSet ([]:List (Int×Bool)) 98 ((s.By:Str)==[])) 110 ((s.Node:Str)==[])) 106 ((s.Join:Str)==[])) 112 ((s.Public:Str)==[])) 109 ((s.Name:Str)==[])) 116 (((s.Tags.length:Int):Int)==0) E E E (Kla .u8) E E E E E)<|Khx [.box 139 (fS s),.dead,mOb (kI .u8) false eB (mSet (mSet (mSet (mSet (mSet (mSet ([]:List (Int×Bool)) 98 ((s.By:Str)==[])) 110 ((s.Node:Str)==[])) 106 ((s.Join:Str)==[])) 112 ((s.Public:Str)==[])) 109 ((s.Name:Str)==[])) 116 (((s.Tags.length:Int):Int)==0))] E<|gO 3 E<|eo_u Z (Kly hΓ (kv:=(kI .u8)) (agg:=false) (enc:=eB) (id:=2) (mSet (mSet (mSet (mSet (mSet (mSet ([]:List (Int×Bool)) 98 ((s.By:Str)==[])) 110 ((s.Node:Str)==[])) 106 ((s.Join:Str)==[])) 112 ((s.Public:Str)==[])) 109 ((s.Name:Str)==[])) 116 (((s.Tags.length:Int):Int)==0)) 117 ((s.Until:Int)==0) E E E (Kla .u8) E E E E E)<|Khx [.box 139 (fS s),.dead,mOb (kI .u8) false eB (mSet (mSet (mSet (mSet (mSet (mSet (mSet ([]:List (Int×Bool)) 98 ((s.By:Str)==[])) 110 ((s.Node:Str)==[])) 106 ((s.Join:Str)==[])) 112 ((s.Public:Str)==[])) 109 ((s.Name:Str)==[])) 116 (((s.Tags.length:Int):Int)==0)) 117 ((s.Until:Int)==0))] E<|gO 3 E<|eo_u Z (Kly hΓ (kv:=(kI .u8)) (agg:=false) (enc:=eB) (id:=2) (mSet (mSet (mSet (mSet (mSet (mSet (mSet ([]:List (Int×Bool)) 98 ((s.By:Str)==[])) 110 ((s.Node:Str)==[])) 106 ((s.Join:Str)==[])) 112 ((s.Public:Str)==[])) 109 ((s.Name:Str)==[])) 116 (((s.Tags.length:Int):Int)==0)) 117 ((s.Until:Int)==0)) 115 ((s.Uses:Int)==0) E E E (Kla .u8) E E E E E)<|Khx [.box 139 (fS s),.dead,mOb (kI .u8) false eB (mSet (mSet (mSet (mSet (mSet (mSet (mSet (mSet ([]:List (Int×Bool)) 98 ((s.By:Str)==[])) 110 ((s.Node:Str)==[])) 106 ((s.Join:Str)==[])) 112 ((s.Public:Str)==[])) 109 ((s.Name:Str)==[])) 116 (((s.Tags.length:Int):Int)==0)) 117 ((s.Until:Int)==0)) 115 ((s.Uses:Int)==0))] E<|gO 3 E<|eo_u Z (Kly hΓ (kv:=(kI .u8)) (agg:=false) (enc:=eB) (id:=2) (mSet (mSet (mSet (mSet (mSet (mSet (mSet (mSet ([]:List (Int×Bool)) 98 ((s.By:Str)==[])) 110 ((s.Node:Str)==[])) 106 ((s.Join:Str)==[])) 112 ((s.Public:Str)==[])) 109 ((s.Name:Str)==[])) 116 (((s.Tags.length:Int):Int)==0)) 117 ((s.Until:Int)==0)) 115 ((s.Uses:Int)==0)) 114 (!s.Ready) E E E (Kla .u8) E E E E E)<|Khx [.box 139 (fS s),.dead,mOb (kI .u8) false eB (mSet (mSet (mSet (mSet (mSet (mSet (mSet (mSet (mSet ([]:List (Int×Bool)) 98 ((s.By:Str)==[])) 110 ((s.Node:Str)==[])) 106 ((s.Join:Str)==[])) 112 ((s.Public:Str)==[])) 109 ((s.Name:Str)==[])) 116 (((s.Tags.length:Int):Int)==0)) 117 ((s.Until:Int)==0)) 115 ((s.Uses:Int)==0)) 114 (!s.Ready))] E<|gO 8 E<|Klv hΓ (kv:=(kI .u8)) (agg:=false) (enc:=eB) (mSet (mSet (mSet (mSet (mSet (mSet (mSet (mSet (mSet ([]:List (Int×Bool)) 98 ((s.By:Str)==[])) 110 ((s.Node:Str)==[])) 106 ((s.Join:Str)==[])) 112 ((s.Public:Str)==[])) 109 ((s.Name:Str)==[])) 116 (((s.Tags.length:Int):Int)==0)) 117 ((s.Until:Int)==0)) 115 ((s.Uses:Int)==0)) 114 (!s.Ready)) E E E E E Z (fun mr34 bs35 cl36 hpm37 hbl38 hbn39=>?_)
  refine Khx [.box 139 (fS s),.dead,mObS (kI .u8) false eB (mSet (mSet (mSet (mSet (mSet (mSet (mSet (mSet (mSet ([]:List (Int×Bool)) 98 ((s.By:Str)==[])) 110 ((s.Node:Str)==[])) 106 ((s.Join:Str)==[])) 112 ((s.Public:Str)==[])) 109 ((s.Name:Str)==[])) 116 (((s.Tags.length:Int):Int)==0)) 117 ((s.Until:Int)==0)) 115 ((s.Uses:Int)==0)) 114 (!s.Ready)) (rawM (kI .u8) eB mr34 bs35 cl36),.iter 2 cl36 []] E<|gO 2 E<|bK h33 fun q45 hq45 h46=>gA 1 E<|Knl hq45 hpm37 hbl38 hbn39 (fun s40=>[(6,S y32),(78,.ptr 3 0)]) (fun sn42 s40=>[.box 139 (fS s),.dead,mObS (kI .u8) false eB (mSet (mSet (mSet (mSet (mSet (mSet (mSet (mSet (mSet ([]:List (Int×Bool)) 98 ((s.By:Str)==[])) 110 ((s.Node:Str)==[])) 106 ((s.Join:Str)==[])) 112 ((s.Public:Str)==[])) 109 ((s.Name:Str)==[])) 116 (((s.Tags.length:Int):Int)==0)) 117 ((s.Until:Int)==0)) 115 ((s.Uses:Int)==0)) 114 (!s.Ready)) (rawM (kI .u8) eB mr34 bs35 cl36),.iter 2 cl36 sn42]) ⟨⟨E,E,tV⟩,[],E,.inl E⟩ (fun sn42 s40 hdone47 hstep48=>?_)
  refine gA 2 E<|Klw (kv:=(kI .u8)) (agg:=false) (enc:=eB) (mSet (mSet (mSet (mSet (mSet (mSet (mSet (mSet (mSet ([]:List (Int×Bool)) 98 ((s.By:Str)==[])) 110 ((s.Node:Str)==[])) 106 ((s.Join:Str)==[])) 112 ((s.Public:Str)==[])) 109 ((s.Name:Str)==[])) 116 (((s.Tags.length:Int):Int)==0)) 117 ((s.Until:Int)==0)) 115 ((s.Uses:Int)==0)) 114 (!s.Ready)) mr34 bs35 cl36 sn42 [.box 139 (fS s),.dead,mOb (kI .u8) false eB (mSet (mSet (mSet (mSet (mSet (mSet (mSet (mSet (mSet ([]:List (Int×Bool)) 98 ((s.By:Str)==[])) 110 ((s.Node:Str)==[])) 106 ((s.Join:Str)==[])) 112 ((s.Public:Str)==[])) 109 ((s.Name:Str)==[])) 116 (((s.Tags.length:Int):Int)==0)) 117 ((s.Until:Int)==0)) 115 ((s.Uses:Int)==0)) 114 (!s.Ready)),.dead] E E E E E Z (fun hdsn42=>?_) (fun j43 x41 b44 hjsn42 hbsn42 hnsn42=>?_)
  ·have hqsn42:=hdone47 hdsn42
   subst hqsn42
   replace h46:=Kkf h46
   exact gO 16 E<|oSi h46▸gP E E
  obtain⟨s49,h50,houtsn42⟩:=hstep48 j43 x41 b44 hjsn42 hbsn42 hnsn42
  have hssn42:=h50
  refine gO 10 E<|eo_o E (Klx (kv:=(kI .u8)) (agg:=false) (enc:=eB) (mSet (mSet (mSet (mSet (mSet (mSet (mSet (mSet (mSet ([]:List (Int×Bool)) 98 ((s.By:Str)==[])) 110 ((s.Node:Str)==[])) 106 ((s.Join:Str)==[])) 112 ((s.Public:Str)==[])) 109 ((s.Name:Str)==[])) 116 (((s.Tags.length:Int):Int)==0)) 117 ((s.Until:Int)==0)) 115 ((s.Uses:Int)==0)) 114 (!s.Ready)) mr34 bs35 cl36 sn42 hjsn42 hbsn42 E E E E (fun _=>E))<|gO 11 E<|bK h50 fun q51 hq51 h52=>Kgp 5 [(6,S y32),(78,.ptr 3 0),(91,B q51)] [.box 139 (fS s),.dead,mObS (kI .u8) false eB (mSet (mSet (mSet (mSet (mSet (mSet (mSet (mSet (mSet ([]:List (Int×Bool)) 98 ((s.By:Str)==[])) 110 ((s.Node:Str)==[])) 106 ((s.Join:Str)==[])) 112 ((s.Public:Str)==[])) 109 ((s.Name:Str)==[])) 116 (((s.Tags.length:Int):Int)==0)) 117 ((s.Until:Int)==0)) 115 ((s.Uses:Int)==0)) 114 (!s.Ready)) (rawM (kI .u8) eB mr34 bs35 cl36),.iter 2 cl36 (sn42++[b44])] ?_ ?_
  ·refine Kqh E E (fun hb=>?_) (fun hb=>?_)
   ·have h53:=cT hq51 hb
    exact bK h53 fun y54 hy54 h55=>gO 2 E<|Kqf E<|Khq C (Kxn hy54) E Z E E E E E<|gO 3 E<|oSi h55▸⟨⟨E,E,E,tV⟩,[],E,.inl E⟩
   have h56:=cF hq51 hb
   exact gO 6 E<|oSi h56▸⟨⟨E,E,E,tV⟩,[],E,.inl E⟩
  refine gO 2 E<|jC E h52 (fun h57=>?_) fun h60=>gA 2 E ?_
  ·refine gA 5 E<|Kod (kv:=(kI .u8)) (agg:=false) (enc:=eB) (id:=2) (mSet (mSet (mSet (mSet (mSet (mSet (mSet (mSet (mSet ([]:List (Int×Bool)) 98 ((s.By:Str)==[])) 110 ((s.Node:Str)==[])) 106 ((s.Join:Str)==[])) 112 ((s.Public:Str)==[])) 109 ((s.Name:Str)==[])) 116 (((s.Tags.length:Int):Int)==0)) 117 ((s.Until:Int)==0)) 115 ((s.Uses:Int)==0)) 114 (!s.Ready)) [.box 139 (fS s),.dead,mOb (kI .u8) false eB (mSet (mSet (mSet (mSet (mSet (mSet (mSet (mSet (mSet ([]:List (Int×Bool)) 98 ((s.By:Str)==[])) 110 ((s.Node:Str)==[])) 106 ((s.Join:Str)==[])) 112 ((s.Public:Str)==[])) 109 ((s.Name:Str)==[])) 116 (((s.Tags.length:Int):Int)==0)) 117 ((s.Until:Int)==0)) 115 ((s.Uses:Int)==0)) 114 (!s.Ready)),.iter 2 cl36 (sn42++[b44])] E E Z<|gA 2 E<|bK h57 fun v58 hv58 h59=>?_
   cases h59
   obtain rfl:=houtsn42 _ rfl
   cases h46
   exact gA 3 E<|oSi hv58▸gP E E
  cases h60
  exact⟨j43,x41,b44,_,hjsn42,hbsn42,hnsn42,hssn42,⟨⟨E,E,tV⟩,[],E,.inl E⟩⟩
 obtain⟨s61,h62,houtsn23⟩:=hstep29 x22 hjsn23
 have hssn23:=h62
 refine bK h62 fun y63 hy63 h64=>gO 18 E<|Khq C (Lfq hy63) E Z E E E E E<|gO 9 E<|jC E h64 (fun h65=>?_) fun h68=>gA 2 E ?_
 ·refine gA 8 E<|bK h65 fun v66 hv66 h67=>?_
  cases h67
  obtain rfl:=houtsn23 _ rfl
  cases h27
  exact gA 3 E<|oSi hv66▸gP E E
 cases h68
 exact⟨x22,_,hjsn23,hssn23,⟨⟨E,E,tV⟩,[],E,.inl E⟩⟩
theorem Lbv{x:Kxx}{x2:Kxx}{r:Bool}(h:Lae x x2=some r):EC Tryz.prog 114 [.agg (fS x),.ptr 0 0] [.box 139 (fS x2)] fun g hp'=>g=B r∧hp'=[.box 139 (fS x2)]:=by
 unfold Lae at h
 refine QN Tryz.func114 E Z<|gA 2 E<|Krp E E E E Z<|gO 11 E<|Kgp 6 [(3,B false),(15,B (((x.Server:Str)==x2.Server)&&((x.No:Int)==x2.No)))] [.box 139 (fS x2),.box 139 (fS x)] ?_ ?_
 ·refine Kqh E E (fun hb=>?_) (fun hb=>?_)
  ·exact gO 7 E<|⟨⟨E,Kfs E (Kij hb),tV⟩,[],E,.inl E⟩
  exact gO 7 E<|⟨⟨E,Kfs E (Kik hb),tV⟩,[],E,.inl E⟩
 exact gO 4 E<|oSi h▸Kie hΓ [_] (.inr E) E E E E (.inr ⟨HB.mk E,E⟩)
theorem Lbw{s:List Kxx}{f:Kxx}{r:Int}(h:Laf s f=some r):EC Tryz.prog 211 [.d (Sl Ldl s),.fn (.func 114) [] [.ptr 0 0]] [.box 139 (fS f)] fun g hp'=>g=I r∧hp'=[.box 139 (fS f)]:=by
 unfold Laf at h
 refine QN Tryz.func211 E Z<|gA 13 E<|bK h fun q4 hq4 h5=>Kgz 0 E fun hb7=>Kki (R:=fun a6=>q4=.go a6) (fun a6=>[]) (fun a6=>[.box 139 (fS f)]) ?_ ?_
 ·refine gA 1 E<|Kgy s hq4 (fun i1 s2=>[(0,.d (Sl Ldl s)),(1,.fn (.func 114) [] [.ptr 0 0]),(7,I (s.length:Int)),(8,I (i1:Int))]) (fun s2=>[.box 139 (fS f)]) ⟨⟨E,E,E,E,tV⟩,[],E,.inl E⟩ (fun i1 x3 s2 y11 hx8 hlt hy9 hout10=>?_) (fun s2 hgo=>?_)
  ·refine gA 6 E<|Kgk E (dT (Int.ofNat_lt.2 hlt))<|gA 15 E<|eo_o E (Kha hΓ (enc:=Ldl) (Kgt hx8) E E E E E (fun _=>E))<|bK hy9 fun y12 hy12 h13=>gO 1 E<|Khp [0] (B y12) [.box 139 (fS f)] C (Lbv hy12) E Z E E E E E E E E E E<|gO 2 E<|jC E h13 (fun h14=>?_) fun h17=>gA 7 E ?_
   ·refine gA 9 E<|bK h14 fun v15 hv15 h16=>?_
    cases h16
    obtain rfl:=hout10 _ rfl
    cases h5
    exact gA 4 E<|oSi hv15▸Kie hΓ [] (.inr E) E E E E (.inl E)
   cases h17
   exact⟨_,E,⟨⟨E,E,E,Kfr E (Kfq (nLl hlt hb7)),tV⟩,[],E,.inl E⟩⟩
  subst hgo
  exact gA 6 E<|Kgl E (dF (Int.lt_irrefl _))<|gA 4 E<|⟨_,E,⟨tV,[],E,.inl E⟩⟩
 intro a6 ha
 subst ha
 replace h5:=Kkf h5
 exact gA 7 E<|oSi h5▸Kie hΓ [] (.inr E) E E E E (.inl E)
theorem Lbx{s:List Kxx}{f:Kxx}{r:Bool}(h:Lag s f=some r):EC Tryz.prog 113 [.d (Sl Ldl s),.fn (.func 114) [] [.ptr 0 0]] [.box 139 (fS f)] fun g hp'=>g=B r∧hp'=[.box 139 (fS f)]:=by
 unfold Lag at h
 exact QN Tryz.func113 E Z<|bK h fun y1 hy1 h2=>gA 9 E<|Khp [0] (I y1) [.box 139 (fS f)] C (Lbw hy1) E Z E E E E E E E E E E<|gO 5 E<|oSi h2▸Kie hΓ [] (.inr E) E E E E (.inl E)
theorem Lby{l:List Kxx}{r:Int}(h:Lah l=some r):Pure Tryz.prog 28 [.d (Sl Ldl l)] (I r):=by
 unfold Lah at h
 refine QP Tryz.func28 E E E<|gA 13 E<|jC E h (fun h1=>?_) fun h2=>gA 10 E<|bK h2 fun q6 hq6 h7=>Kgz 0 E fun hb9=>Kki (R:=fun a8=>q6=.go a8) (fun a8=>[]) (fun a8=>[]) ?_ ?_
 ·exact gA 7 E<|oSi h1▸gP E E
 ·refine gA 1 E<|Kgy l hq6 (fun i3 s4=>[(0,.d (Sl Ldl l)),(9,.d (Sl Ldl l)),(10,I (l.length:Int)),(11,I (i3:Int))]) (fun s4=>[]) ⟨⟨E,E,E,E,tV⟩,[],E,.inl E⟩ (fun i3 x5 s4 y13 hx10 hlt hy11 hout12=>?_) (fun s4 hgo=>?_)
  ·refine gA 6 E<|Kgk E (dT (Int.ofNat_lt.2 hlt))<|gA 7 E<|eo_o E (Kha hΓ (enc:=Ldl) (Kgt hx10) E E E E E (fun _=>E))<|gO 1 E<|Kro hΓ E E E Z<|gO 1 E<|Krt hΓ E E E E E E E E Z<|Khx [.box 139 (fS x5)] E<|bK hy11 fun y14 hy14 h15=>gO 6 E<|Khq C (Lbu hy14) E Z E E E E E<|gO 9 E<|jC E h15 (fun h16=>?_) fun h19=>bK h19 fun q20 hq20 h21=>gA 4 E<|Kkj [(0,.d (Sl Ldl l)),(3,I (i3:Int)),(4,.ptr 0 0),(9,.d (Sl Ldl l)),(10,I (l.length:Int)),(11,I (i3:Int)),(32,B q20)] [.box 139 (fS x5)] ?_ ?_
   ·refine gA 10 E<|bK h16 fun v17 hv17 h18=>?_
    cases h18
    obtain rfl:=hout12 _ rfl
    cases h7
    exact gA 4 E<|oSi hv17▸gP E E
   ·refine jD<|gA 3 E<|Kez E E (fun hb=>?_) (fun hb=>?_)
    ·have h22:=cT hq20 hb
     exact bK h22 fun x23 hx23 h24=>Kgh hΓ 3 E<|Kft E E (Kha hΓ (enc:=Ldl) hx23 E E E E E (fun _=>E))<|bK h24 fun y25 hy25 h26=>Kgh hΓ 2 E<|Khs C (Leb hy25) E E E E E E E<|Kgh hΓ 3 E<|oSi h26▸⟨⟨E,E,E,E,E,E,E,tV⟩,[],E,.inl E⟩
    have h27:=cF hq20 hb
    exact Kgh hΓ 10 E<|oSi h27▸⟨⟨E,E,E,E,E,E,E,tV⟩,[],E,.inl E⟩
   refine gA 1 E<|jC E h21 (fun h28=>?_) fun h31=>bK h31 fun z32 hz32 h33=>gA 6 E<|eo_o E (Khh hΓ (enc:=Ldl) hz32 E E E E E E (fun _=>E))<|bK h33 fun y34 hy34 h35=>gO 1 E<|Khp [0] (B y34) [.box 139 (fS x5)] C (Lbx hy34) E Z E E E E E E E E E E<|gO 2 E<|jC E h35 (fun h36=>?_) fun h39=>?_
   ·refine gA 9 E<|bK h28 fun v29 hv29 h30=>?_
    cases h30
    obtain rfl:=hout12 _ rfl
    cases h7
    exact gA 4 E<|oSi hv29▸gP E E
   ·refine gA 8 E<|bK h36 fun v37 hv37 h38=>?_
    cases h38
    obtain rfl:=hout12 _ rfl
    cases h7
    exact gA 4 E<|oSi hv37▸gP E E
   refine gA 7 E ?_
   cases h39
   exact⟨_,E,⟨⟨E,E,E,Kfr E (Kfq (nLl hlt hb9)),tV⟩,[_],E,.inr ⟨HB.mk E,FB.mk E,Z⟩⟩⟩
  subst hgo
  exact gA 6 E<|Kgl E (dF (Int.lt_irrefl _))<|gA 4 E<|⟨_,E,⟨tV,[],E,.inl E⟩⟩
 intro a8 ha
 subst ha
 replace h7:=Kkf h7
 exact gA 7 E<|oSi h7▸gP E E
theorem Lbz{r:List Str}(h:Lai=some r):Pure Tryz.prog 212 [] (.d (Sl eS r)):=by
 unfold Lai at h
 exact QP Tryz.func212 E E E<|gA 7 E<|Khl hΓ (enc:=eS) [[],[107,101,121],[114,101,118,111,107,101],[106,111,105,110],[97,112,112,114,111,118,101],[114,101,110,101,119],[110,97,109,101],[116,97,103],[101,120,112,105,114,101],[103,111,110,101]] E E E E E E E E E E E E Z<|gO 4 E<|oSi h▸gP E E
theorem Lca{s:Str}{r:Str}(h:Laj s=some r):Pure Tryz.prog 213 [S s] (S r):=by
 unfold Laj at h
 refine QP Tryz.func213 E E E<|gA 12 E<|jC E h (fun h1=>?_) fun h2=>gA 9 E<|oSi h2▸gP E E
 exact gA 7 E<|oSi h1▸gP E E
theorem Lcb{s:Kxx}{r:Str}(h:Lak s=some r):Pure Tryz.prog 115 [.agg (fS s)] (S r):=by
 unfold Lak at h
 refine QP Tryz.func115 E E E<|gA 2 E<|Krp E E E E Z<|gO 4 E<|Kjm [.box 139 (fS s)] [2] [5] [] hmix (by kernel_rfl) (by kernel_rfl) ⟨E,tV⟩ Z<|bK h fun y1 hy1 h2=>Kjz C (Lbz hy1) E E E E E E<|bK h2 fun x3 hx3 h4=>go_E hΓ 2 E<|ge_q E (.inl E) (fun _ _=>Kjp (qt_p (Kha hΓ (enc:=eS) hx3 E E E E E (fun _=>E))))<|go_E hΓ 1 E<|ge_h [.box 139 (fS s),rO 9 1 eS [x3]] E E E (Kjt ⟨E,tV⟩) (Kjw (Koe hΓ (enc:=eS) [x3] E E E E E E E E E E E E E E))<|go_E hΓ 1 E<|Kjo<|bK h4 fun y5 hy5 h6=>gA 6 E<|Khq C (Lfm hy5) E Z E E E E E<|bK h6 fun y7 hy7 h8=>Khq C (Kxo hy7) E Z E E E E E<|gK h8 fun hg10 h9=>Knm hΓ y7 E E E E Z<|gO 2 E<|bK h9 fun q16 hq16 h17=>gA 1 E<|Kno y7 hq16 (fun sn13 s11=>[(1,.ptr 0 0),(3,.sl 1 s11.length),(16,.ptr 2 0)]) (fun sn13 s11=>[.box 139 (fS s),rO 9 1 eS s11,.siter y7 sn13]) ⟨⟨E,E,E,tV⟩,[],E,.inl E⟩ (fun sn13 s11 hdone18 hstep19=>?_)
 refine gA 2 E<|Knn y7 sn13 [.box 139 (fS s),rO 9 1 eS s11,.dead] E E E E Z hg10 (fun hdsn13=>?_) (fun x12 hjsn13=>?_)
 ·have hqsn13:=hdone18 hdsn13
  subst hqsn13
  replace h17:=Kkf h17
  exact bK h17 fun y20 hy20 h21=>gO 13 E<|Kht C (Kxh hy20) E Z E E E E E<|gO 4 E<|oSi h21▸gP E E
 obtain⟨s22,h23,houtsn13⟩:=hstep19 x12 hjsn13
 have hssn13:=h23
 refine bK h23 fun q24 hq24 h25=>gO 27 E<|Kkj [(1,.ptr 0 0),(3,.sl 1 s11.length),(5,.d (.v (.int .i32 (x12.toNat:Int)))),(16,.ptr 2 0),(20,.d (.v (.int .i32 (x12.toNat:Int)))),(39,B q24)] [.box 139 (fS s),rO 9 1 eS s11,.siter y7 (sn13+1)] ?_ ?_
 ·refine jC E hq24 (fun h26=>?_) fun h27=>gA 4 E<|oSi h27▸⟨⟨E,E,E,E,E,E,tV⟩,[],E,.inl E⟩
  exact gA 1 E<|oSi h26▸⟨⟨E,E,E,E,E,E,tV⟩,[],E,.inl E⟩
 refine gA 1 E<|jC E h25 (fun h28=>?_) fun h33=>gA 6 E<|jC E h33 (fun h34=>?_) fun h37=>?_
 ·refine gA 2 E<|eo_s Z (nblt.1 E) (Klf false)<|Khx [.box 139 (fS s),rO 9 1 eS s11,.siter y7 (sn13+1),mOb (kI .i32) false (eN .i64) ([]:List (Int×Int))] E<|gO 2 E<|eo_u Z (Kly hΓ (kv:=(kI .i32)) (agg:=false) (enc:=(eN .i64)) (id:=3) ([]:List (Int×Int)) 117 s.Until E E E (Kla .i32) E E E E E)<|Khx [.box 139 (fS s),rO 9 1 eS s11,.siter y7 (sn13+1),mOb (kI .i32) false (eN .i64) (mSet ([]:List (Int×Int)) 117 s.Until)] E<|gO 2 E<|eo_u Z (Kly hΓ (kv:=(kI .i32)) (agg:=false) (enc:=(eN .i64)) (id:=3) (mSet ([]:List (Int×Int)) 117 s.Until) 115 s.Uses E E E (Kla .i32) E E E E E)<|Khx [.box 139 (fS s),rO 9 1 eS s11,.siter y7 (sn13+1),mOb (kI .i32) false (eN .i64) (mSet (mSet ([]:List (Int×Int)) 117 s.Until) 115 s.Uses)] E<|gO 2 E<|eo_o E (Klj hΓ (kv:=(kI .i32)) (agg:=false) (enc:=(eN .i64)) (mSet (mSet ([]:List (Int×Int)) 117 s.Until) 115 s.Uses) (x12.toNat:Int) (0:Int) E E E E (Kla .i32) E E E E E E E)<|bK h28 fun y29 hy29 h30=>Khq C (Kxg hy29) E Z E E E E E<|Khl hΓ (enc:=eS) [y29] E E E E E E E E E E E E Z<|bK h30 fun y31 hy31 h32=>Khy hΓ (enc:=eS) hy31 E E E E E E E E E (fun _=>E) E E E E<|gO 4 E ?_
  cases h32
  exact⟨x12,_,hjsn13,hssn13,⟨⟨E,E,E,tV⟩,[_],E,.inr ⟨HB.mk E,FB.mk E,Z⟩⟩⟩
 ·refine gA 2 E<|eo_s Z (nblt.1 E) (Klf false)<|Khx [.box 139 (fS s),rO 9 1 eS s11,.siter y7 (sn13+1),mOb kBo false eS ([]:List (Bool×Str))] E<|eo_u Z (Kly hΓ (kv:=kBo) (agg:=false) (enc:=eS) (id:=3) ([]:List (Bool×Str)) true [121,101,115] E E E Ksq E E E E E)<|Khx [.box 139 (fS s),rO 9 1 eS s11,.siter y7 (sn13+1),mOb kBo false eS (mSet ([]:List (Bool×Str)) true [121,101,115])] E<|eo_u Z (Kly hΓ (kv:=kBo) (agg:=false) (enc:=eS) (id:=3) (mSet ([]:List (Bool×Str)) true [121,101,115]) false [110,111] E E E Ksq E E E E E)<|Khx [.box 139 (fS s),rO 9 1 eS s11,.siter y7 (sn13+1),mOb kBo false eS (mSet (mSet ([]:List (Bool×Str)) true [121,101,115]) false [110,111])] E<|gO 3 E<|eo_o E (Klj hΓ (kv:=kBo) (agg:=false) (enc:=eS) (mSet (mSet ([]:List (Bool×Str)) true [121,101,115]) false [110,111]) s.Ready ([]:Str) E E E E Ksq E E E E E E E)<|Khl hΓ (enc:=eS) [((mGet (mSet (mSet ([]:List (Bool×Str)) true [121,101,115]) false [110,111]) s.Ready).getD [])] E E E E E E E E E E E E Z<|bK h34 fun y35 hy35 h36=>Khy hΓ (enc:=eS) hy35 E E E E E E E E E (fun _=>E) E E E E<|gO 4 E ?_
  cases h36
  exact⟨x12,_,hjsn13,hssn13,⟨⟨E,E,E,tV⟩,[_],E,.inr ⟨HB.mk E,FB.mk E,Z⟩⟩⟩
 refine gA 6 E<|jC E h37 (fun h38=>?_) fun h45=>gA 2 E<|eo_s Z (nblt.1 E) (Klf false)<|Khx [.box 139 (fS s),rO 9 1 eS s11,.siter y7 (sn13+1),mOb (kI .i32) false eS ([]:List (Int×Str))] E<|gO 2 E<|eo_u Z (Kly hΓ (kv:=(kI .i32)) (agg:=false) (enc:=eS) (id:=3) ([]:List (Int×Str)) 98 s.By E E E (Kla .i32) E E E E E)<|Khx [.box 139 (fS s),rO 9 1 eS s11,.siter y7 (sn13+1),mOb (kI .i32) false eS (mSet ([]:List (Int×Str)) 98 s.By)] E<|gO 2 E<|eo_u Z (Kly hΓ (kv:=(kI .i32)) (agg:=false) (enc:=eS) (id:=3) (mSet ([]:List (Int×Str)) 98 s.By) 110 s.Node E E E (Kla .i32) E E E E E)<|Khx [.box 139 (fS s),rO 9 1 eS s11,.siter y7 (sn13+1),mOb (kI .i32) false eS (mSet (mSet ([]:List (Int×Str)) 98 s.By) 110 s.Node)] E<|gO 2 E<|eo_u Z (Kly hΓ (kv:=(kI .i32)) (agg:=false) (enc:=eS) (id:=3) (mSet (mSet ([]:List (Int×Str)) 98 s.By) 110 s.Node) 106 s.Join E E E (Kla .i32) E E E E E)<|Khx [.box 139 (fS s),rO 9 1 eS s11,.siter y7 (sn13+1),mOb (kI .i32) false eS (mSet (mSet (mSet ([]:List (Int×Str)) 98 s.By) 110 s.Node) 106 s.Join)] E<|gO 2 E<|eo_u Z (Kly hΓ (kv:=(kI .i32)) (agg:=false) (enc:=eS) (id:=3) (mSet (mSet (mSet ([]:List (Int×Str)) 98 s.By) 110 s.Node) 106 s.Join) 112 s.Public E E E (Kla .i32) E E E E E)<|Khx [.box 139 (fS s),rO 9 1 eS s11,.siter y7 (sn13+1),mOb (kI .i32) false eS (mSet (mSet (mSet (mSet ([]:List (Int×Str)) 98 s.By) 110 s.Node) 106 s.Join) 112 s.Public)] E<|gO 2 E<|eo_u Z (Kly hΓ (kv:=(kI .i32)) (agg:=false) (enc:=eS) (id:=3) (mSet (mSet (mSet (mSet ([]:List (Int×Str)) 98 s.By) 110 s.Node) 106 s.Join) 112 s.Public) 109 s.Name E E E (Kla .i32) E E E E E)<|Khx [.box 139 (fS s),rO 9 1 eS s11,.siter y7 (sn13+1),mOb (kI .i32) false eS (mSet (mSet (mSet (mSet (mSet ([]:List (Int×Str)) 98 s.By) 110 s.Node) 106 s.Join) 112 s.Public) 109 s.Name)] E<|gO 2 E<|eo_o E (Klj hΓ (kv:=(kI .i32)) (agg:=false) (enc:=eS) (mSet (mSet (mSet (mSet (mSet ([]:List (Int×Str)) 98 s.By) 110 s.Node) 106 s.Join) 112 s.Public) 109 s.Name) (x12.toNat:Int) ([]:Str) E E E E (Kla .i32) E E E E E E E)<|bK h45 fun y46 hy46 h47=>Khq C (Lca hy46) E Z E E E E E<|Khl hΓ (enc:=eS) [y46] E E E E E E E E E E E E Z<|bK h47 fun y48 hy48 h49=>Khy hΓ (enc:=eS) hy48 E E E E E E E E E (fun _=>E) E E E E<|gO 4 E ?_
 ·refine bK h38 fun y39 hy39 h40=>gA 4 E<|Khq C (Kxh hy39) E Z E E E E E<|bK h40 fun y41 hy41 h42=>Khq C (Lca hy41) E Z E E E E E<|Khl hΓ (enc:=eS) [y41] E E E E E E E E E E E E Z<|bK h42 fun y43 hy43 h44=>Khy hΓ (enc:=eS) hy43 E E E E E E E E E (fun _=>E) E E E E<|gO 4 E ?_
  cases h44
  exact⟨x12,_,hjsn13,hssn13,⟨⟨E,E,E,tV⟩,[],E,.inl E⟩⟩
 cases h49
 exact⟨x12,_,hjsn13,hssn13,⟨⟨E,E,E,tV⟩,[_],E,.inr ⟨HB.mk E,FB.mk E,Z⟩⟩⟩
theorem Lcc{l:List Kxx}{r:Str}(h:Lal l=some r):Pure Tryz.prog 29 [.d (Sl Ldl l)] (S r):=by
 unfold Lal at h
 refine QP Tryz.func29 E E E<|gA 7 E<|eo_s Z (nblt.1 E) (Kmf hΓ [1] [.d (.v (.pointer none)),.d (.v (.slice none 0 0))] (hi:=show Γ 90=some ⟨_,_,_,_⟩ from E) E ⟨.refl _,.refl _,tV⟩)<|Khx [.box 90 [.d (.v (.pointer none)),.d (.v (.slice none 0 0))]] E<|gO 2 E<|Kok 0 0 [.box 90 [.pn 0,.d (.v (.slice none 0 0))]] E E E<|Kna 0 1 5 1 [.box 90 [.pn 0,.sl 1 ([]:Str).length],rO 5 1 eU ([]:Str)] E E E Z<|gA 8 E<|bK h fun q4 hq4 h5=>Kgz 6 E fun hb7=>Kkj [(3,.ptr 0 0)] [.box 90 [.pn 0,.sl 1 q4.length],rO 5 1 eU q4] ?_ ?_
 ·refine gA 1 E<|Kig l hq4 (fun i1 s2=>[(3,.ptr 0 0),(6,.d (Sl Ldl l)),(7,I (l.length:Int)),(8,I (i1:Int))]) (fun s2=>[.box 90 [.pn 0,.sl 1 s2.length],rO 5 1 eU s2]) ⟨⟨E,E,E,E,tV⟩,[],E,.inl E⟩ (fun i1 x3 s2 y11 hx8 hlt hy9=>?_) (?_)
  ·refine gA 6 E<|Kgk E (dT (Int.ofNat_lt.2 hlt))<|gA 6 E<|eo_o E (Kha hΓ (enc:=Ldl) (Kgt hx8) E E E E E (fun _=>E))<|gO 1 E<|Kro hΓ E E E Z<|Krt hΓ E E E E E E E E Z<|Khx [.box 90 [.pn 0,.sl 1 s2.length],rO 5 1 eU s2,.box 139 (fS x3)] E<|gO 2 E<|Kjm [.dead,.dead,.box 139 (fS x3)] [1,5,9,13] [17] [] hmix (by kernel_rfl) (by kernel_rfl) ⟨E,tV⟩ Z<|bK hy9 fun y12 hy12 h13=>go_E hΓ 2 E<|Kjz C (Kxg hy12) E E E E E E<|bK h13 fun y14 hy14 h15=>ge_q E (.inl E) (fun _ _=>Kjp (qt_p (Kia hy14 E E)))<|bK h15 fun y16 hy16 h17=>go_E hΓ 2 E<|ge_q E (.inl E) (fun _ _=>Kjp (qt_p (Kia hy16 E E)))<|bK h17 fun y18 hy18 h19=>ge_q E (.inl E) (fun _ _=>Kjp (qt_p (Kia hy18 E E)))<|bK h19 fun y20 hy20 h21=>go_E hΓ 2 E<|Kjz C (Kxg hy20) E E E E E E<|bK h21 fun y22 hy22 h23=>ge_q E (.inl E) (fun _ _=>Kjp (qt_p (Kia hy22 E E)))<|bK h23 fun y24 hy24 h25=>ge_q E (.inl E) (fun _ _=>Kjp (qt_p (Kia hy24 E E)))<|bK h25 fun y26 hy26 h27=>go_E hΓ 1 E<|Kjz C (Lcb hy26) E E E E E E<|bK h27 fun y28 hy28 h29=>ge_q E (.inl E) (fun _ _=>Kjp (qt_p (Kia hy28 E E)))<|bK h29 fun y30 hy30 h31=>ge_q E (.inl E) (fun _ _=>Kjp (qt_p (Kia hy30 E E)))<|bK h31 fun y32 hy32 h33=>ge_h [.box 90 [.pn 0,.sl 3 y32.2.length],.dead,.box 139 (fS x3),rO 5 1 eU y32.2] E E E (Kjt ⟨E,tV⟩) (Kjy [1,0] (.tup [I y32.1,.d (.v .nilIface)]) [.box 90 [.pn 0,.sl 3 y32.2.length],.dead,.box 139 (fS x3),rO 5 1 eU y32.2] C (Lfe hy32) E E E E E E E E E E)<|Kjo<|gA 2 E<|Kjg 3 1 [.box 90 [.pn 0,.sl 1 y32.2.length],rO 5 1 eU y32.2,.box 139 (fS x3),.dead] E E E E E E<|gA 4 E ?_
   cases h33
   exact⟨⟨E,E,E,Kfr E (Kfq (nLl hlt hb7)),tV⟩,[_,_],E,.inr ⟨HB.mk E,FB.mk E,Z⟩⟩
  exact gA 6 E<|Kgl E (dF (Int.lt_irrefl _))<|gA 4 E<|⟨⟨E,tV⟩,[],E,.inl E⟩
 exact bK h5 fun y34 hy34 h35=>gA 3 E<|Khp [1,0] (S y34) [.dead,.dead] C (Kdw hy34) E Z E E E E E E E E E E<|gO 4 E<|oSi h35▸gP E E
theorem Lcd{k:Nat}{s:Kxw}{many:Int}{r:(List Kxx)×Kxw}(h:Lam k s many=some r):EC Tryz.prog 116 [.ptr 0 0,I many] [.box 25 (fQ s)] fun g hp'=>g=.d (Sl Ldl r.1)∧hp'=[.box 25 (fQ r.2)]:=by
 unfold Lam at h
 refine QN Tryz.func116 E Z<|gA 11 E<|bK h fun q4 hq4 h5=>Kki (R:=fun a6=>q4=.inl a6) (fun a6=>[]) (fun a6=>[.box 25 (fQ a6)]) ?_ ?_
 ·refine gA 1 E<|Kgw hq4 (fun s2=>[(0,.ptr 0 0),(1,I many),(6,I s2.2)]) (fun s2=>[.box 25 (fQ s2.1)]) ⟨⟨E,E,E,tV⟩,[],E,.inl E⟩ (fun s2 y10 hy8 hout9=>?_)
  refine gA 6 E<|jC E hy8 (fun h11=>?_) fun h20=>gA 4 E ?_
  ·refine bK h11 fun y12 hy12 h13=>gA 8 E<|Khp [0] (.sl 1 y12.1.length) [.box 25 (fQ y12.2),rO 139 13 Ldl y12.1] C (Lei hy12) E Z E E E E E E E E E E<|Khw 1 [10] _ [.box 25 (fQ y12.2),.dead] E E E Z<|bK h13 fun y14 hy14 h15=>gO 6 E<|Khq C (Lby hy14) E Z E E E E E<|gO 3 E<|jC E h15 (fun h16=>?_) fun h19=>gA 7 E<|oSi h19▸⟨_,E,⟨⟨E,E,E,tV⟩,[_],E,.inr ⟨HB.mk E,FB.mk E,Z⟩⟩⟩
   refine gA 9 E<|bK h16 fun v17 hv17 h18=>?_
   cases h18
   obtain rfl:=hout9 _ rfl
   cases h5
   exact gA 4 E<|oSi hv17▸Kie hΓ [_] (.inr E) E E E E (.inr ⟨HB.mk E,E⟩)
  cases h20
  obtain rfl:=hout9 _ rfl
  exact⟨_,E,⟨tV,[],E,.inl E⟩⟩
 intro a6 ha
 subst ha
 replace h5:=Kke h5
 exact gA 7 E<|oSi h5▸Kie hΓ [] (.inr E) E E E E (.inl E)
theorem Lce{s:Kxw}{t:Str}{v_with:Str}{r:Str×Kxw}(h:Lan s t v_with=some r):EC Tryz.prog 66 [.ptr 0 0,S t,S v_with] [.box 25 (fQ s)] fun g hp'=>g=S r.1∧hp'=[.box 25 (fQ r.2)]:=by
 unfold Lan at h
 refine QN Tryz.func66 E Z<|gA 11 E<|Kgp 3 [(0,.ptr 0 0),(1,S t),(2,S v_with),(14,B (((t:Str)==[])||((v_with:Str)==[])))] [.box 25 (fQ s)] ?_ ?_
 ·refine Kqh E E (fun hb=>?_) (fun hb=>?_)
  ·exact gO 4 E<|⟨⟨E,E,E,Kfs E (or_t hb),tV⟩,[],E,.inl E⟩
  exact gO 4 E<|⟨⟨E,E,E,Kfs E (or_f hb),tV⟩,[],E,.inl E⟩
 refine gO 2 E<|jC E h (fun h1=>?_) fun h2=>bK h2 fun y3 hy3 h4=>gA 7 E<|Khp [0] (I y3.1) [.box 25 (fQ y3.2)] C (Ldq hy3) E Z E E E E E E E E E E<|bK h4 fun y5 hy5 h6=>gO 9 E<|Khp [0] (I y5.1) [.box 25 (fQ y5.2)] C (Ldq hy5) E Z E E E E E E E E E E<|bK h6 fun c7 hc7 h8=>eo_o E (Khb hΓ hc7 E E E E)<|bK h8 fun y9 hy9 h10=>gO 7 E<|Khp [0] (I y9.1) [.box 25 (fQ y9.2)] C (Ldq hy9) E Z E E E E E E E E E E<|gO 9 E<|jC E h10 (fun h11=>?_) fun h20=>?_
 ·exact gA 8 E<|oSi h1▸Kie hΓ [] (.inr E) E E E E (.inl E)
 ·exact gA 1 E<|jD<|bK h11 fun z12 hz12 h13=>gA 2 E<|gl_o E (Khd hΓ hz12 E E E E E)<|Kgh hΓ 2 E<|gl_o E (Kln hΓ E E E E E)<|bK h13 fun y14 hy14 h15=>gl_o E (Kia hy14 E E)<|bK h15 fun z16 hz16 h17=>Kgh hΓ 3 E<|gl_o E (Khd hΓ hz16 E E E E E)<|bK h17 fun y18 hy18 h19=>gl_o E (Kia hy18 E E)<|Kgh hΓ 6 E<|oSi h19▸Kie hΓ [] (.inr E) E E E E (.inl E)
 refine gA 6 E<|jC E h20 (fun h21=>?_) fun h30=>gA 4 E<|jD<|bK h30 fun z31 hz31 h32=>gA 2 E<|gl_o E (Khd hΓ hz31 E E E E E)<|bK h32 fun z33 hz33 h34=>Kgh hΓ 3 E<|gl_o E (Khd hΓ hz33 E E E E E)<|bK h34 fun y35 hy35 h36=>gl_o E (Kia hy35 E E)<|Kgh hΓ 4 E<|oSi h36▸Kie hΓ [] (.inr E) E E E E (.inl E)
 exact gA 1 E<|jD<|bK h21 fun z22 hz22 h23=>gA 2 E<|gl_o E (Khd hΓ hz22 E E E E E)<|Kgh hΓ 2 E<|gl_o E (Kln hΓ E E E E E)<|bK h23 fun y24 hy24 h25=>gl_o E (Kia hy24 E E)<|bK h25 fun z26 hz26 h27=>Kgh hΓ 2 E<|gl_o E (Khd hΓ hz26 E E E E E)<|bK h27 fun y28 hy28 h29=>gl_o E (Kia hy28 E E)<|Kgh hΓ 6 E<|oSi h29▸Kie hΓ [] (.inr E) E E E E (.inl E)
theorem Lcf{k:Nat}{s:Kxw}{r:Str×Kxw}(h:Lao k s=some r):EC Tryz.prog 30 [.ptr 0 0] [.box 25 (fQ s)] fun g hp'=>g=S r.1∧hp'=[.box 25 (fQ r.2)]:=by
 unfold Lao at h
 refine QN Tryz.func30 E Z<|bK h fun y1 hy1 h2=>gA 9 E<|Khp [0] (I y1.1) [.box 25 (fQ y1.2)] C (Ldr hy1) E Z E E E E E E E E E E<|bK h2 fun y3 hy3 h4=>Khp [0] (.d (Sl Ldl y3.1)) [.box 25 (fQ y3.2)] C (Lcd hy3) E Z E E E E E E E E E E<|bK h4 fun y5 hy5 h6=>Khq C (Lcc hy5) E Z E E E E E<|gO 7 E<|Khl hΓ (enc:=(eN .i64)) [0,0,1,2] E E E E E E E E E E E E Z<|bK h6 fun y7 hy7 h8=>Khp [0] (I y7.1) [.box 25 (fQ y7.2)] C (Ldt hy7) E Z E E E E E E E E E E<|gO 3 E<|bK h8 fun q12 hq12 h13=>gK hq12 fun hb15 h16=>?_
 replace hb15:=of_decide_eq_true hb15
 refine Kkj [(3,S q12.2)] [.box 25 (fQ q12.1)] ?_ ?_
 ·refine gA 1 E<|Kih h16 (fun i9 s10=>[(0,.ptr 0 0),(3,S s10.2),(11,I y7.1),(12,I (i9:Int))]) (fun s10=>[.box 25 (fQ s10.1)]) ⟨⟨E,E,E,E,tV⟩,[],E,.inl E⟩ (fun i9 s10 y20 hlt hy18=>?_) (fun hge=>?_)
  ·exact gA 6 E<|Kgk E (dT hlt)<|bK hy18 fun y21 hy21 h22=>gA 7 E<|Khp [0] (S y21.1) [.box 25 (fQ y21.2)] C (Lce hy21) E Z E E E E E E E E E E<|gO 8 E<|oSi h22▸⟨⟨E,E,E,Kfr E (Kfq (by omega)),tV⟩,[],E,.inl E⟩
  exact gA 6 E<|Kgl E (dF hge)<|gA 4 E<|⟨⟨E,tV⟩,[],E,.inl E⟩
 exact gA 8 E<|oSi h13▸Kie hΓ [] (.inr E) E E E E (.inl E)
theorem Lcg{s:Str}{r:(List Str)×Bool}(h:Lap s=some r):Pure Tryz.prog 67 [S s] (.tup [.d (Sl eS r.1),B r.2]):=by
 unfold Lap at h
 refine QP Tryz.func67 E E E<|bK h fun y1 hy1 h2=>gA 9 E<|Khq C (Pure.rows (Kxb hy1) E E) E Z E E E E E<|bK h2 fun x3 hx3 h4=>gO 16 E<|eo_o E (Kha hΓ (enc:=eS) hx3 E E E E E (fun _=>E))<|gO 4 E<|jC E h4 (fun h5=>?_) fun h8=>gA 10 E<|oSi h8▸gP E E
 exact bK h5 fun z6 hz6 h7=>gA 4 E<|eo_o E (Khh hΓ (enc:=eS) hz6 E E E E E E (fun _=>E))<|gO 6 E<|oSi h7▸gP E E
theorem Lch{s:List Str}{v:Str}{r:Int}(h:Laq s v=some r):Pure Tryz.prog 191 [.d (Sl eS s),S v] (I r):=by
 unfold Laq at h
 refine QP Tryz.func191 E E E<|gA 13 E<|bK h fun q4 hq4 h5=>Kgz 0 E fun hb7=>Kki (R:=fun a6=>q4=.go a6) (fun a6=>[]) (fun a6=>[]) ?_ ?_
 ·refine gA 1 E<|Kgy s hq4 (fun i1 s2=>[(0,.d (Sl eS s)),(1,S v),(7,I (s.length:Int)),(8,I (i1:Int))]) (fun s2=>[]) ⟨⟨E,E,E,E,tV⟩,[],E,.inl E⟩ (fun i1 x3 s2 y11 hx8 hlt hy9 hout10=>?_) (fun s2 hgo=>?_)
  ·refine gA 6 E<|Kgk E (dT (Int.ofNat_lt.2 hlt))<|gA 15 E<|eo_o E (Kha hΓ (enc:=eS) (Kgt hx8) E E E E E (fun _=>E))<|gO 4 E<|jC E hy9 (fun h12=>?_) fun h15=>gA 7 E ?_
   ·refine gA 9 E<|bK h12 fun v13 hv13 h14=>?_
    cases h14
    obtain rfl:=hout10 _ rfl
    cases h5
    exact gA 4 E<|oSi hv13▸gP E E
   cases h15
   exact⟨_,E,⟨⟨E,E,E,Kfr E (Kfq (nLl hlt hb7)),tV⟩,[],E,.inl E⟩⟩
  subst hgo
  exact gA 6 E<|Kgl E (dF (Int.lt_irrefl _))<|gA 4 E<|⟨_,E,⟨tV,[],E,.inl E⟩⟩
 intro a6 ha
 subst ha
 replace h5:=Kkf h5
 exact gA 7 E<|oSi h5▸gP E E
theorem Lci{s:List Str}{v:Str}{r:Bool}(h:Lar s v=some r):Pure Tryz.prog 166 [.d (Sl eS s),S v] (B r):=by
 unfold Lar at h
 exact QP Tryz.func166 E E E<|bK h fun y1 hy1 h2=>gA 9 E<|Khq C (Lch hy1) E Z E E E E E<|gO 5 E<|oSi h2▸gP E E
theorem Lcj{s:Str}{r:(List Str)×Bool}(h:Las s=some r):Pure Tryz.prog 97 [S s] (.tup [.d (Sl eS r.1),B r.2]):=by
 unfold Las at h
 exact QP Tryz.func97 E E E<|bK h fun y1 hy1 h2=>gA 9 E<|Khq C (Pure.rows (Kxb hy1) E E) E Z E E E E E<|bK h2 fun y3 hy3 h4=>gO 7 E<|Khq C (Lci hy3) E Z E E E E E<|gO 6 E<|oSi h4▸gP E E
theorem Lck{k:Nat}{s:Str}{most:Int}{r:Int×Bool}(h:Lat k s most=some r):Pure Tryz.prog 238 [S s,I most] (.tup [I r.1,B r.2]):=by
 unfold Lat at h
 refine QP Tryz.func238 E E E<|bK h fun y1 hy1 h2=>gA 9 E<|Khq C (Kwz hy1) E Z E E E E E<|gO 9 E<|Kgp 5 [(0,S s),(6,S y1),(19,B (((y1:Str)==[])||(decide (((y1.length:Int):Int)>most))))] [] ?_ ?_
 ·refine Kqh E E (fun hb=>?_) (fun hb=>?_)
  ·exact gO 6 E<|⟨⟨E,E,Kfs E (or_t hb),tV⟩,[],E,.inl E⟩
  exact gO 6 E<|⟨⟨E,E,Kfs E (or_f hb),tV⟩,[],E,.inl E⟩
 refine gO 1 E<|bK h2 fun q3 hq3 h4=>Kgp 8 [(0,S s),(6,S y1),(28,B q3)] [] ?_ ?_
 ·refine Kqh E E (fun hb=>?_) (fun hb=>?_)
  ·have h5:=cT hq3 hb
   exact gO 9 E<|oSi h5▸⟨⟨E,E,E,tV⟩,[],E,.inl E⟩
  have h6:=cF hq3 hb
  refine bK h6 fun c7 hc7 h8=>gO 1 E<|Kqf E<|eo_o E (Khb hΓ hc7 E E E E)<|gO 2 E<|Kgp 3 [(0,S s),(6,S y1),(20,B false),(27,B ((((c7.toNat:Int):Int)==48)&&(!((s:Str)==[48]))))] [] ?_ ?_
  ·refine Kqh E E (fun hb=>?_) (fun hb=>?_)
   ·exact gO 4 E<|⟨⟨E,E,E,Kfs E (Kij hb),tV⟩,[],E,.inl E⟩
   exact gO 4 E<|⟨⟨E,E,E,Kfs E (Kik hb),tV⟩,[],E,.inl E⟩
  exact gO 2 E<|oSi h8▸⟨⟨E,E,E,tV⟩,[],E,.inl E⟩
 refine gO 2 E<|jC E h4 (fun h9=>?_) fun h10=>gA 8 E<|bK h10 fun q14 hq14 h15=>Kki (R:=fun a16=>q14=.inl a16) (fun a16=>[(0,S s)]) (fun a16=>[]) ?_ ?_
 ·exact gA 8 E<|oSi h9▸gP E E
 ·refine gA 1 E<|Kgw hq14 (fun s12=>[(0,S s),(6,S y1),(7,I s12)]) (fun s12=>[]) ⟨⟨E,E,E,tV⟩,[],E,.inl E⟩ (fun s12 y20 hy18 hout19=>?_)
  refine gA 9 E<|jC E hy18 (fun h21=>?_) fun h34=>gA 4 E ?_
  ·refine bK h21 fun c22 hc22 h23=>gA 8 E<|eo_o E (Khb hΓ hc22 E E E E)<|gO 2 E<|bK h23 fun q24 hq24 h25=>Kgp 5 [(0,S s),(6,S y1),(7,I s12),(44,B q24)] [] ?_ ?_
   ·refine Kqh E E (fun hb=>?_) (fun hb=>?_)
    ·have h26:=cT hq24 hb
     exact gO 6 E<|oSi h26▸⟨⟨E,E,E,E,tV⟩,[],E,.inl E⟩
    have h27:=cF hq24 hb
    exact bK h27 fun c28 hc28 h29=>gO 2 E<|Kqf E<|eo_o E (Khb hΓ hc28 E E E E)<|gO 3 E<|oSi h29▸⟨⟨E,E,E,E,tV⟩,[],E,.inl E⟩
   refine gO 2 E<|jC E h25 (fun h30=>?_) fun h33=>gA 8 E<|oSi h33▸⟨_,E,⟨⟨E,E,E,tV⟩,[],E,.inl E⟩⟩
   refine gA 9 E<|bK h30 fun v31 hv31 h32=>?_
   cases h32
   obtain rfl:=hout19 _ rfl
   cases h15
   exact gA 4 E<|oSi hv31▸gP E E
  cases h34
  obtain rfl:=hout19 _ rfl
  exact⟨_,E,⟨⟨E,tV⟩,[],E,.inl E⟩⟩
 intro a16 ha
 subst ha
 replace h15:=Kke h15
 exact bK h15 fun y35 hy35 h36=>gA 4 E<|Khq C (Kxk hy35) E Z E E E E E<|gO 8 E<|jD<|gA 2 E<|gl_o E (Koh hΓ E E E E)<|Kgh hΓ 5 E<|oSi h36▸gP E E
theorem Lcl{k:Nat}{s:Str}{r:Int×Bool}(h:Lau k s=some r):Pure Tryz.prog 164 [S s] (.tup [I r.1,B r.2]):=by
 unfold Lau at h
 exact QP Tryz.func164 E E E<|bK h fun y1 hy1 h2=>gA 9 E<|Khq C (Lck hy1) E Z E E E E E<|gO 7 E<|oSi h2▸gP E E
theorem Lcm{k:Nat}{l:List Str}{r:(List Int)×Bool}(h:Lav k l=some r):Pure Tryz.prog 214 [.d (Sl eS l)] (.tup [.d (Sl (eN .i64) r.1),B r.2]):=by
 unfold Lav at h
 refine QP Tryz.func214 E E E<|gA 8 E<|Khn (t:=0) 3 1 E Z<|gO 10 E<|bK h fun q4 hq4 h5=>Kgz 9 E fun hb7=>Kki (R:=fun a6=>q4=.go a6) (fun a6=>[(4,.sl 0 a6.length)]) (fun a6=>[rO 3 1 (eN .i64) a6]) ?_ ?_
 ·refine gA 1 E<|Kgy l hq4 (fun i1 s2=>[(4,.sl 0 s2.length),(9,.d (Sl eS l)),(10,I (l.length:Int)),(11,I (i1:Int))]) (fun s2=>[rO 3 1 (eN .i64) s2]) ⟨⟨E,E,E,E,tV⟩,[],E,.inl E⟩ (fun i1 x3 s2 y11 hx8 hlt hy9 hout10=>?_) (fun s2 hgo=>?_)
  ·refine gA 6 E<|Kgk E (dT (Int.ofNat_lt.2 hlt))<|gA 6 E<|eo_o E (Kha hΓ (enc:=eS) (Kgt hx8) E E E E E (fun _=>E))<|bK hy9 fun y12 hy12 h13=>gO 7 E<|Khq C (Lcl hy12) E Z E E E E E<|gO 14 E<|jC E h13 (fun h14=>?_) fun h17=>gA 5 E<|Khl hΓ (enc:=(eN .i64)) [y12.1] E E E E E E E E E E E E Z<|bK h17 fun y18 hy18 h19=>Khy hΓ (enc:=(eN .i64)) hy18 E E E E E E E E E (fun _=>E) E E E E<|gO 8 E ?_
   ·refine gA 10 E<|bK h14 fun v15 hv15 h16=>?_
    cases h16
    obtain rfl:=hout10 _ rfl
    cases h5
    exact gA 4 E<|oSi hv15▸gP E E
   cases h19
   exact⟨_,E,⟨⟨E,E,E,Kfr E (Kfq (nLl hlt hb7)),tV⟩,[],E,.inl E⟩⟩
  subst hgo
  exact gA 6 E<|Kgl E (dF (Int.lt_irrefl _))<|gA 4 E<|⟨_,E,⟨⟨E,tV⟩,[],E,.inl E⟩⟩
 intro a6 ha
 subst ha
 replace h5:=Kkf h5
 exact gA 5 E<|Khw 0 [2,4,27] _ [.dead] E E E Z<|gO 4 E<|oSi h5▸gP E E
theorem Lcn{s:Str}{r:Str}(h:Law s=some r):Pure Tryz.prog 280 [S s] (S r):=by
 unfold Law at h
 refine QP Tryz.func280 E E E<|gA 12 E<|jC E h (fun h1=>?_) fun h2=>gA 9 E<|oSi h2▸gP E E
 exact gA 7 E<|oSi h1▸gP E E
theorem Lco{k:Nat}{s:Kxx}{field:Int}{w:Str}{r:Bool×Kxx}(h:Lax k s field w=some r):EC Tryz.prog 215 [.ptr 0 0,I field,S w] [.box 139 (fS s)] fun g hp'=>g=B r.1∧hp'=[.box 139 (fS r.2)]:=by
 unfold Lax at h
 refine QN Tryz.func215 E Z<|bK h fun q1 hq1 h2=>gA 16 E<|Kkj [(7,B q1.2)] [.box 139 (fS q1.1)] ?_ ?_
 ·refine gA 7 E<|Kgj E (fun hb=>?_) (fun hb=>?_)
  ·have h3:=cT hq1 hb
   exact bK h3 fun y4 hy4 h5=>gA 3 E<|Khq C (Lcn hy4) E Z E E E E E<|gO 2 E<|Krt hΓ E E E E E E E E Z<|Khx [.box 139 [I s.At,S s.Server,I s.No,I s.Kind,S y4,S s.Node,S s.Join,S s.Public,S s.Name,.d (Sl eS s.Tags),I s.Until,I s.Uses,B s.Ready]] E<|gO 2 E<|oSi h5▸⟨⟨E,tV⟩,[],E,.inl E⟩
  have h6:=cF hq1 hb
  refine gA 6 E<|Kgj E (fun hb=>?_) (fun hb=>?_)
  ·have h7:=cT h6 hb
   exact bK h7 fun y8 hy8 h9=>gA 3 E<|Khq C (Lcn hy8) E Z E E E E E<|gO 2 E<|Krt hΓ E E E E E E E E Z<|Khx [.box 139 [I s.At,S s.Server,I s.No,I s.Kind,S s.By,S y8,S s.Join,S s.Public,S s.Name,.d (Sl eS s.Tags),I s.Until,I s.Uses,B s.Ready]] E<|gO 2 E<|oSi h9▸⟨⟨E,tV⟩,[],E,.inl E⟩
  have h10:=cF h6 hb
  refine gA 6 E<|Kgj E (fun hb=>?_) (fun hb=>?_)
  ·have h11:=cT h10 hb
   exact bK h11 fun y12 hy12 h13=>gA 3 E<|Khq C (Lcn hy12) E Z E E E E E<|gO 2 E<|Krt hΓ E E E E E E E E Z<|Khx [.box 139 [I s.At,S s.Server,I s.No,I s.Kind,S s.By,S s.Node,S y12,S s.Public,S s.Name,.d (Sl eS s.Tags),I s.Until,I s.Uses,B s.Ready]] E<|gO 2 E<|oSi h13▸⟨⟨E,tV⟩,[],E,.inl E⟩
  have h14:=cF h10 hb
  refine gA 6 E<|Kgj E (fun hb=>?_) (fun hb=>?_)
  ·have h15:=cT h14 hb
   exact bK h15 fun y16 hy16 h17=>gA 3 E<|Khq C (Lcn hy16) E Z E E E E E<|gO 2 E<|Krt hΓ E E E E E E E E Z<|Khx [.box 139 [I s.At,S s.Server,I s.No,I s.Kind,S s.By,S s.Node,S s.Join,S y16,S s.Name,.d (Sl eS s.Tags),I s.Until,I s.Uses,B s.Ready]] E<|gO 2 E<|oSi h17▸⟨⟨E,tV⟩,[],E,.inl E⟩
  have h18:=cF h14 hb
  refine gA 6 E<|Kgj E (fun hb=>?_) (fun hb=>?_)
  ·have h19:=cT h18 hb
   exact bK h19 fun y20 hy20 h21=>gA 3 E<|Khq C (Lcn hy20) E Z E E E E E<|gO 2 E<|Krt hΓ E E E E E E E E Z<|Khx [.box 139 [I s.At,S s.Server,I s.No,I s.Kind,S s.By,S s.Node,S s.Join,S s.Public,S y20,.d (Sl eS s.Tags),I s.Until,I s.Uses,B s.Ready]] E<|gO 2 E<|oSi h21▸⟨⟨E,tV⟩,[],E,.inl E⟩
  have h22:=cF h18 hb
  refine gA 6 E<|Kgj E (fun hb=>?_) (fun hb=>?_)
  ·have h23:=cT h22 hb
   refine bK h23 fun q24 hq24 h25=>gA 7 E<|Kkj [(0,.ptr 0 0)] [.box 139 [I s.At,S s.Server,I s.No,I s.Kind,S s.By,S s.Node,S s.Join,S s.Public,S s.Name,.d (Sl eS q24),I s.Until,I s.Uses,B s.Ready]] ?_ ?_
   ·refine jC E hq24 (fun h26=>?_) fun h29=>gA 1 E<|oSi h29▸⟨⟨E,tV⟩,[],E,.inl E⟩
    exact bK h26 fun y27 hy27 h28=>gA 3 E<|Khq C (Pure.rows (Kxb hy27) E E) E Z E E E E E<|gO 2 E<|Krt hΓ E E E E E E E E Z<|Khx [.box 139 [I s.At,S s.Server,I s.No,I s.Kind,S s.By,S s.Node,S s.Join,S s.Public,S s.Name,.d (Sl eS y27),I s.Until,I s.Uses,B s.Ready]] E<|gO 1 E<|oSi h28▸⟨⟨E,tV⟩,[],E,.inl E⟩
   exact bK h25 fun y30 hy30 h31=>gA 6 E<|Khq C (Lci hy30) E Z E E E E E<|gO 4 E<|oSi h31▸⟨⟨E,tV⟩,[],E,.inl E⟩
  have h32:=cF h22 hb
  refine gA 6 E<|Kgj E (fun hb=>?_) (fun hb=>?_)
  ·have h33:=cT h32 hb
   exact bK h33 fun y34 hy34 h35=>gA 3 E<|Khq C (Lcl hy34) E Z E E E E E<|gO 5 E<|Krt hΓ E E E E E E E E Z<|Khx [.box 139 [I s.At,S s.Server,I s.No,I s.Kind,S s.By,S s.Node,S s.Join,S s.Public,S s.Name,.d (Sl eS s.Tags),I y34.1,I s.Uses,B s.Ready]] E<|gO 3 E<|oSi h35▸⟨⟨E,tV⟩,[],E,.inl E⟩
  have h36:=cF h32 hb
  refine gA 6 E<|Kgj E (fun hb=>?_) (fun hb=>?_)
  ·have h37:=cT h36 hb
   exact bK h37 fun y38 hy38 h39=>gA 3 E<|Khq C (Lcl hy38) E Z E E E E E<|gO 5 E<|Krt hΓ E E E E E E E E Z<|Khx [.box 139 [I s.At,S s.Server,I s.No,I s.Kind,S s.By,S s.Node,S s.Join,S s.Public,S s.Name,.d (Sl eS s.Tags),I s.Until,I y38.1,B s.Ready]] E<|gO 3 E<|oSi h39▸⟨⟨E,tV⟩,[],E,.inl E⟩
  have h40:=cF h36 hb
  refine gA 7 E<|Krt hΓ E E E E E E E E Z<|Khx [.box 139 [I s.At,S s.Server,I s.No,I s.Kind,S s.By,S s.Node,S s.Join,S s.Public,S s.Name,.d (Sl eS s.Tags),I s.Until,I s.Uses,B ((w:Str)==[121,101,115])]] E<|gO 6 E<|Kgp 3 [(7,B true),(19,B (((w:Str)==[121,101,115])||((w:Str)==[110,111])))] [.box 139 [I s.At,S s.Server,I s.No,I s.Kind,S s.By,S s.Node,S s.Join,S s.Public,S s.Name,.d (Sl eS s.Tags),I s.Until,I s.Uses,B ((w:Str)==[121,101,115])]] ?_ ?_
  ·refine Kqh E E (fun hb=>?_) (fun hb=>?_)
   ·exact gO 4 E<|⟨⟨E,Kfs E (or_t hb),tV⟩,[],E,.inl E⟩
   exact gO 4 E<|⟨⟨E,Kfs E (or_f hb),tV⟩,[],E,.inl E⟩
  exact gO 3 E<|oSi h40▸⟨⟨E,tV⟩,[],E,.inl E⟩
 exact gA 8 E<|oSi h2▸Kie hΓ [] (.inr E) E E E E (.inl E)
theorem Lcp{k:Nat}{line:Str}{r:Kxx×Bool}(h:Laz k line=some r):Pure Tryz.prog 117 [S line] (.tup [.agg (fS r.1),B r.2]):=by
 unfold Laz at h
 refine QP Tryz.func117 E E E<|gA 2 E<|Kro hΓ E E E Z<|bK h fun y1 hy1 h2=>gO 6 E<|Khq C (Lcj hy1) E Z E E E E E<|gO 13 E<|Kgp 4 [(2,.ptr 0 0),(4,.d (Sl eS y1.1)),(23,B ((!y1.2)||(decide (((y1.1.length:Int):Int)<5))))] [.box 139 [I 0,S [],I 0,I 0,S [],S [],S [],S [],S [],.d (Sl eS []),I 0,I 0,B false]] ?_ ?_
 ·refine Kqh E E (fun hb=>?_) (fun hb=>?_)
  ·exact gO 5 E<|⟨⟨E,E,Kfs E (or_t hb),tV⟩,[],E,.inl E⟩
  exact gO 5 E<|⟨⟨E,E,Kfs E (or_f hb),tV⟩,[],E,.inl E⟩
 refine gO 2 E<|Kgj E (fun hb=>?_) (fun hb=>?_)
 ·have h3:=cT h2 hb
  exact gA 2 E<|Kep hΓ (gs:=[I 0,S [],I 0,I 0,S [],S [],S [],S [],S [],.d (Sl eS []),I 0,I 0,B false]) E E E E E E E<|Krt hΓ E E E E E E E E Z<|Khx [.box 139 [I 0,S [],I 0,I 0,S [],S [],S [],S [],S [],.d (Sl eS []),I 0,I 0,B false]] E<|gO 5 E<|oSi h3▸gP E E
 have h4:=cF h2 hb
 refine gA 3 E<|jD<|bK h4 fun x5 hx5 h6=>gA 1 E<|gl_o E (Kha hΓ (enc:=eS) hx5 E E E E E (fun _=>E))<|bK h6 fun x7 hx7 h8=>Kgh hΓ 2 E<|gl_o E (Kha hΓ (enc:=eS) hx7 E E E E E (fun _=>E))<|Kgh hΓ 1 E<|Khm hΓ (enc:=eS) [x5,x7] E E E E E E E E E E E E<|bK h8 fun y9 hy9 h10=>Khr C (Lcm hy9) E E E E E E<|Kgh hΓ 8 E<|jD<|bK h10 fun y11 hy11 h12=>Khr C (Lfa hy11) E E E E E E<|bK h12 fun x13 hx13 h14=>Kgh hΓ 1 E<|gl_o E (Kha hΓ (enc:=eS) hx13 E E E E E (fun _=>E))<|bK h14 fun y15 hy15 h16=>Kgh hΓ 1 E<|Khr C (Lch hy15) E E E E E E<|Kgh hΓ 9 E<|Kgp 3 [(2,.ptr 0 0),(4,.d (Sl eS y1.1)),(6,.d (Sl (eN .i64) y9.1)),(7,I y15),(46,B ((!y9.2)||(decide ((y15:Int)<1))))] [.box 139 [I 0,S [],I 0,I 0,S [],S [],S [],S [],S [],.d (Sl eS []),I 0,I 0,B false]] ?_ ?_
 ·refine Kqh E E (fun hb=>?_) (fun hb=>?_)
  ·exact gO 4 E<|⟨⟨E,E,E,E,Kfs E (or_t hb),tV⟩,[],E,.inl E⟩
  exact gO 4 E<|⟨⟨E,E,E,E,Kfs E (or_f hb),tV⟩,[],E,.inl E⟩
 refine gO 2 E<|jC E h16 (fun h17=>?_) fun h18=>gA 3 E<|Kjm [] [] [11,12] [] hmix (by kernel_rfl) (by kernel_rfl) trivial Z<|bK h18 fun x19 hx19 h20=>go_E hΓ 1 E<|ge_q E (.inl E) (fun _ _=>Kjp (qt_p (Kha hΓ (enc:=(eN .i64)) hx19 E E E E E (fun _=>E))))<|bK h20 fun x21 hx21 h22=>go_E hΓ 2 E<|ge_q E (.inl E) (fun _ _=>Kjp (qt_p (Kha hΓ (enc:=eS) hx21 E E E E E (fun _=>E))))<|bK h22 fun x23 hx23 h24=>go_E hΓ 2 E<|ge_q E (.inl E) (fun _ _=>Kjp (qt_p (Kha hΓ (enc:=(eN .i64)) hx23 E E E E E (fun _=>E))))<|go_E hΓ 2 E<|ge_q E (.inl E) (fun _ _=>Kjp (qt_p (Kkc hΓ (gs:=[I x19,S x21,I x23,I y15,S [],S [],S [],S [],S [],.d (Sl eS []),I 0,I 0,B false]) E E E E E E)))<|ge_h [.box 139 [I 0,S [],I 0,I 0,S [],S [],S [],S [],S [],.d (Sl eS []),I 0,I 0,B false],.box 139 [I 0,S [],I 0,I 0,S [],S [],S [],S [],S [],.d (Sl eS []),I 0,I 0,B false]] E E E (Kjt tV) (Kjw (Kka hΓ (hi:=show Γ 139=some ⟨_,_,_,_⟩ from E) E))<|Kjr [.box 139 [I 0,S [],I 0,I 0,S [],S [],S [],S [],S [],.d (Sl eS []),I 0,I 0,B false],.box 139 [I x19,S x21,I x23,I y15,S [],S [],S [],S [],S [],.d (Sl eS []),I 0,I 0,B false]] E E (Kjt tV) (Kjx (Kkm hΓ E E E E E E E E E))<|Kjo<|bK h24 fun y25 hy25 h26=>gA 4 E<|Khq C (Lem hy25) E Z E E E E E<|gO 14 E<|jC E h26 (fun h27=>?_) fun h28=>?_
 ·exact gA 2 E<|Kep hΓ (gs:=[I 0,S [],I 0,I 0,S [],S [],S [],S [],S [],.d (Sl eS []),I 0,I 0,B false]) E E E E E E E<|Krt hΓ E E E E E E E E Z<|Khx [.box 139 [I 0,S [],I 0,I 0,S [],S [],S [],S [],S [],.d (Sl eS []),I 0,I 0,B false]] E<|gO 5 E<|oSi h17▸gP E E
 ·exact gA 2 E<|Kep hΓ (gs:=[I 0,S [],I 0,I 0,S [],S [],S [],S [],S [],.d (Sl eS []),I 0,I 0,B false]) E E E E E E E<|Krt hΓ E E E E E E E E Z<|Khx [.box 139 [I 0,S [],I 0,I 0,S [],S [],S [],S [],S [],.d (Sl eS []),I 0,I 0,B false],.box 139 [I x19,S x21,I x23,I y15,S [],S [],S [],S [],S [],.d (Sl eS []),I 0,I 0,B false]] E<|gO 5 E<|oSi h27▸gP E E
 refine gA 10 E<|bK h28 fun q32 hq32 h33=>Kgz 68 E fun hb35=>Kki (R:=fun a34=>q32=.go a34) (fun a34=>[(2,.ptr 0 0),(8,.ptr 1 0)]) (fun a34=>[.box 139 [I 0,S [],I 0,I 0,S [],S [],S [],S [],S [],.d (Sl eS []),I 0,I 0,B false],.box 139 (fS a34)]) ?_ ?_
 ·refine gA 1 E<|Kgy y25 hq32 (fun i29 s30=>[(2,.ptr 0 0),(4,.d (Sl eS y1.1)),(8,.ptr 1 0),(68,.d (Sl (eN .i64) y25)),(69,I (y25.length:Int)),(70,I (i29:Int))]) (fun s30=>[.box 139 [I 0,S [],I 0,I 0,S [],S [],S [],S [],S [],.d (Sl eS []),I 0,I 0,B false],.box 139 (fS s30)]) ⟨⟨E,E,E,E,E,E,tV⟩,[],E,.inl E⟩ (fun i29 x31 s30 y39 hx36 hlt hy37 hout38=>?_) (fun s30 hgo=>?_)
  ·refine gA 6 E<|Kgk E (dT (Int.ofNat_lt.2 hlt))<|gA 7 E<|eo_o E (Kha hΓ (enc:=(eN .i64)) (Kgt hx36) E E E E E (fun _=>E))<|bK hy37 fun x40 hx40 h41=>gO 11 E<|eo_o E (Kha hΓ (enc:=eS) hx40 E E E E E (fun _=>E))<|bK h41 fun y42 hy42 h43=>gO 1 E<|Khp [1] (B y42.1) [.box 139 [I 0,S [],I 0,I 0,S [],S [],S [],S [],S [],.d (Sl eS []),I 0,I 0,B false],.box 139 (fS y42.2)] C (Lco hy42) E Z E E E E E E E E E E<|gO 3 E<|jC E h43 (fun h44=>?_) fun h47=>gA 7 E ?_
   ·refine gA 2 E<|Kep hΓ (gs:=[I 0,S [],I 0,I 0,S [],S [],S [],S [],S [],.d (Sl eS []),I 0,I 0,B false]) E E E E E E E<|Krt hΓ E E E E E E E E Z<|Khx [.box 139 [I 0,S [],I 0,I 0,S [],S [],S [],S [],S [],.d (Sl eS []),I 0,I 0,B false],.box 139 (fS y42.2)] E<|gO 6 E<|bK h44 fun v45 hv45 h46=>?_
    cases h46
    obtain rfl:=hout38 _ rfl
    cases h33
    exact gA 4 E<|oSi hv45▸gP E E
   cases h47
   exact⟨_,E,⟨⟨E,E,E,E,E,Kfr E (Kfq (nLl hlt hb35)),tV⟩,[],E,.inl E⟩⟩
  subst hgo
  exact gA 6 E<|Kgl E (dF (Int.lt_irrefl _))<|gA 4 E<|⟨_,E,⟨⟨E,E,tV⟩,[],E,.inl E⟩⟩
 intro a34 ha
 subst ha
 replace h33:=Kkf h33
 exact gA 4 E<|Krt hΓ E E E E E E E E Z<|Khx [.box 139 (fS a34),.box 139 (fS a34)] E<|gO 4 E<|oSi h33▸gP E E
theorem Lcq{k:Nat}{text:Str}{r:(List Kxx)×Int×Int}(h:Lba k text=some r):Pure Tryz.prog 31 [S text] (.tup [.d (Sl Ldl r.1),I r.2.1,I r.2.2]):=by
 unfold Lba at h
 refine QP Tryz.func31 E E E<|gA 15 E<|Kgj E (fun hb=>?_) (fun hb=>?_)
 ·have h1:=cT h hb
  exact gA 9 E<|oSi h1▸gP E E
 have h2:=cF h hb
 refine bK h2 fun y3 hy3 h4=>gA 5 E<|Khq C (Lcg hy3) E Z E E E E E<|gO 9 E<|Khn (t:=0) 139 13 E Z<|gO 10 E<|bK h4 fun q8 hq8 h9=>Kgz 5 E fun hb11=>Kki (R:=fun a10=>q8=.go a10) (fun a10=>[(7,.sl 0 a10.length)]) (fun a10=>[rO 139 13 Ldl a10]) ?_ ?_
 ·refine gA 1 E<|Kgy y3.1 hq8 (fun i5 s6=>[(5,.d (Sl eS y3.1)),(6,B y3.2),(7,.sl 0 s6.length),(21,.d (Sl eS y3.1)),(22,I (y3.1.length:Int)),(23,I (i5:Int))]) (fun s6=>[rO 139 13 Ldl s6]) ⟨⟨E,E,E,E,E,E,tV⟩,[],E,.inl E⟩ (fun i5 x7 s6 y15 hx12 hlt hy13 hout14=>?_) (fun s6 hgo=>?_)
  ·refine gA 6 E<|Kgk E (dT (Int.ofNat_lt.2 hlt))<|gA 7 E<|eo_o E (Kha hΓ (enc:=eS) (Kgt hx12) E E E E E (fun _=>E))<|bK hy13 fun y16 hy16 h17=>gO 8 E<|Khq C (Lcp hy16) E Z E E E E E<|gO 3 E<|Kro hΓ E E E Z<|Krt hΓ E E E E E E E E Z<|Khx [rO 139 13 Ldl s6,.box 139 (fS y16.1)] E<|gO 9 E<|Kgp 10 [(5,.d (Sl eS y3.1)),(6,B y3.2),(7,.sl 0 s6.length),(8,I (i5:Int)),(10,.ptr 1 0),(21,.d (Sl eS y3.1)),(22,I (y3.1.length:Int)),(23,I (i5:Int)),(45,B ((!y16.2)||((!y3.2)&&(((i5:Int):Int)==(wi ((y3.1.length:Int) - 1))))))] [rO 139 13 Ldl s6,.box 139 (fS y16.1)] ?_ ?_
   ·refine Kqh E E (fun hb=>?_) (fun hb=>?_)
    ·exact gO 11 E<|⟨⟨E,E,E,E,E,E,E,E,Kfs E (or_t hb),tV⟩,[],E,.inl E⟩
    refine gO 3 E<|Kgp 6 [(5,.d (Sl eS y3.1)),(6,B y3.2),(7,.sl 0 s6.length),(8,I (i5:Int)),(10,.ptr 1 0),(21,.d (Sl eS y3.1)),(22,I (y3.1.length:Int)),(23,I (i5:Int)),(35,B false),(44,B ((!y3.2)&&(((i5:Int):Int)==(wi ((y3.1.length:Int) - 1)))))] [rO 139 13 Ldl s6,.box 139 (fS y16.1)] ?_ ?_
    ·refine Kqh E E (fun hb=>?_) (fun hb=>?_)
     ·exact gO 7 E<|⟨⟨E,E,E,E,E,E,E,E,E,Kfs E (Kij hb),tV⟩,[],E,.inl E⟩
     exact gO 7 E<|⟨⟨E,E,E,E,E,E,E,E,E,Kfs E (Kik hb),tV⟩,[],E,.inl E⟩
    exact gO 2 E<|⟨⟨E,E,E,E,E,E,E,E,Kfs E (or_f hb),tV⟩,[],E,.inl E⟩
   refine gO 2 E<|jC E h17 (fun h18=>?_) fun h21=>gA 5 E<|Khl hΓ (enc:=Ldl) [y16.1] E E E E E E E E E E E E Z<|bK h21 fun y22 hy22 h23=>Khy hΓ (enc:=Ldl) hy22 E E E E E E E E E (fun _=>E) E E E E<|gO 8 E ?_
   ·refine gA 12 E<|bK h18 fun v19 hv19 h20=>?_
    cases h20
    obtain rfl:=hout14 _ rfl
    cases h9
    exact gA 4 E<|oSi hv19▸gP E E
   cases h23
   exact⟨_,E,⟨⟨E,E,E,E,E,Kfr E (Kfq (nLl hlt hb11)),tV⟩,[_],E,.inr ⟨HB.mk E,FB.mk E,Z⟩⟩⟩
  subst hgo
  exact gA 6 E<|Kgl E (dF (Int.lt_irrefl _))<|gA 4 E<|⟨_,E,⟨⟨E,tV⟩,[],E,.inl E⟩⟩
 intro a10 ha
 subst ha
 replace h9:=Kkf h9
 refine bK h9 fun y24 hy24 h25=>gA 5 E<|Kht C (Lez hy24) E Z E E E E E<|gO 9 E<|jC E h25 (fun h26=>?_) fun h27=>gA 6 E<|Khw 0 [2,7,52,57] _ [.dead] E E E Z<|gO 5 E<|oSi h27▸gP E E
 exact gA 10 E<|oSi h26▸gP E E
theorem Lcr{line:Str}{r:(List Str)×Bool}(h:Lbb line=some r):Pure Tryz.prog 71 [S line] (.tup [.d (Sl eS r.1),B r.2]):=by
 unfold Lbb at h
 exact QP Tryz.func71 E E E<|bK h fun y1 hy1 h2=>gA 9 E<|Khq C (Pure.rows (Kxb hy1) E E) E Z E E E E E<|bK h2 fun y3 hy3 h4=>gO 7 E<|Khq C (Lci hy3) E Z E E E E E<|gO 6 E<|oSi h4▸gP E E
theorem Lcs{s:Str}{most:Int}{r:Int×Bool}(h:Lbc s most=some r):Pure Tryz.prog 73 [S s,I most] (.tup [I r.1,B r.2]):=by
 unfold Lbc at h
 refine QP Tryz.func73 E E E<|bK h fun y1 hy1 h2=>gA 9 E<|Khq C (Kwz hy1) E Z E E E E E<|gO 9 E<|Kgp 5 [(0,S s),(6,S y1),(18,B (((y1:Str)==[])||(decide (((y1.length:Int):Int)>most))))] [] ?_ ?_
 ·refine Kqh E E (fun hb=>?_) (fun hb=>?_)
  ·exact gO 6 E<|⟨⟨E,E,Kfs E (or_t hb),tV⟩,[],E,.inl E⟩
  exact gO 6 E<|⟨⟨E,E,Kfs E (or_f hb),tV⟩,[],E,.inl E⟩
 refine gO 1 E<|bK h2 fun q3 hq3 h4=>Kgp 4 [(0,S s),(23,B q3)] [] ?_ ?_
 ·refine Kqh E E (fun hb=>?_) (fun hb=>?_)
  ·have h5:=cT hq3 hb
   exact gO 5 E<|oSi h5▸⟨⟨E,E,tV⟩,[],E,.inl E⟩
  have h6:=cF hq3 hb
  exact bK h6 fun y7 hy7 h8=>gO 1 E<|Kqf E<|Khq C (Lfj hy7) E Z E E E E E<|gO 3 E<|oSi h8▸⟨⟨E,E,tV⟩,[],E,.inl E⟩
 refine gO 2 E<|jC E h4 (fun h9=>?_) fun h10=>bK h10 fun y11 hy11 h12=>gA 5 E<|Khq C (Kxk hy11) E Z E E E E E<|gO 11 E<|eo_o E (Koh hΓ E E E E)<|bK h12 fun y13 hy13 h14=>gO 2 E<|Kqf E<|Khq C (Kxg hy13) E Z E E E E E<|gO 8 E<|oSi h14▸gP E E
 exact gA 8 E<|oSi h9▸gP E E
theorem Lct{s:Str}{r:Str}(h:Lbd s=some r):Pure Tryz.prog 281 [S s] (S r):=by
 unfold Lbd at h
 refine QP Tryz.func281 E E E<|gA 12 E<|jC E h (fun h1=>?_) fun h2=>gA 9 E<|oSi h2▸gP E E
 exact gA 7 E<|oSi h1▸gP E E
theorem Lcu{s:Kxx}{c:Int}{w:Str}{r:Bool×Kxx}(h:Lbe s c w=some r):EC Tryz.prog 216 [.ptr 0 0,.d (.v (.int .i32 c)),S w] [.box 139 (fS s)] fun g hp'=>g=B r.1∧hp'=[.box 139 (fS r.2)]:=by
 unfold Lbe at h
 refine QN Tryz.func216 E Z<|bK h fun q1 hq1 h2=>gA 19 E<|Kkj [(0,.ptr 0 0),(1,.d (.v (.int .i32 c))),(2,S w),(9,.d (.v (.int .i32 c))),(10,B q1)] [.box 139 (fS s)] ?_ ?_
 ·refine jC E hq1 (fun h3=>?_) fun h4=>gA 4 E<|oSi h4▸⟨⟨E,E,E,E,E,tV⟩,[],E,.inl E⟩
  exact gA 1 E<|oSi h3▸⟨⟨E,E,E,E,E,tV⟩,[],E,.inl E⟩
 refine gA 1 E<|Kgj E (fun hb=>?_) (fun hb=>?_)
 ·have h5:=cT h2 hb
  refine bK h5 fun y6 hy6 h7=>gA 3 E<|Khq C (Lcs hy6) E Z E E E E E<|bK h7 fun q8 hq8 h9=>gO 14 E<|Kkj [(8,B y6.2)] [.box 139 (fS q8)] ?_ ?_
  ·refine jC E hq8 (fun h10=>?_) fun h11=>gA 5 E<|Krt hΓ E E E E E E E E Z<|Khx [.box 139 [I s.At,S s.Server,I s.No,I s.Kind,S s.By,S s.Node,S s.Join,S s.Public,S s.Name,.d (Sl eS s.Tags),I s.Until,I y6.1,B s.Ready]] E<|gO 1 E<|oSi h11▸⟨⟨E,tV⟩,[],E,.inl E⟩
   exact gA 5 E<|Krt hΓ E E E E E E E E Z<|Khx [.box 139 [I s.At,S s.Server,I s.No,I s.Kind,S s.By,S s.Node,S s.Join,S s.Public,S s.Name,.d (Sl eS s.Tags),I y6.1,I s.Uses,B s.Ready]] E<|gO 1 E<|oSi h10▸⟨⟨E,tV⟩,[],E,.inl E⟩
  exact gA 10 E<|oSi h9▸Kie hΓ [] (.inr E) E E E E (.inl E)
 have h12:=cF h2 hb
 refine gA 6 E<|Kgj E (fun hb=>?_) (fun hb=>?_)
 ·have h13:=cT h12 hb
  refine gA 7 E<|Krt hΓ E E E E E E E E Z<|Khx [.box 139 [I s.At,S s.Server,I s.No,I s.Kind,S s.By,S s.Node,S s.Join,S s.Public,S s.Name,.d (Sl eS s.Tags),I s.Until,I s.Uses,B ((w:Str)==[121,101,115])]] E<|gO 9 E<|Kgp 3 [(43,B (((w:Str)==[121,101,115])||((w:Str)==[110,111])))] [.box 139 [I s.At,S s.Server,I s.No,I s.Kind,S s.By,S s.Node,S s.Join,S s.Public,S s.Name,.d (Sl eS s.Tags),I s.Until,I s.Uses,B ((w:Str)==[121,101,115])]] ?_ ?_
  ·refine Kqh E E (fun hb=>?_) (fun hb=>?_)
   ·exact gO 4 E<|⟨⟨Kfs E (or_t hb),tV⟩,[],E,.inl E⟩
   exact gO 4 E<|⟨⟨Kfs E (or_f hb),tV⟩,[],E,.inl E⟩
  exact gO 6 E<|oSi h13▸Kie hΓ [] (.inr E) E E E E (.inl E)
 have h14:=cF h12 hb
 refine gA 6 E<|Kgj E (fun hb=>?_) (fun hb=>?_)
 ·have h15:=cT h14 hb
  refine gA 7 E<|jC E h15 (fun h16=>?_) fun h17=>bK h17 fun y18 hy18 h19=>gA 6 E<|Khq C (Pure.rows (Kxb hy18) E E) E Z E E E E E<|gO 2 E<|Krt hΓ E E E E E E E E Z<|Khx [.box 139 [I s.At,S s.Server,I s.No,I s.Kind,S s.By,S s.Node,S s.Join,S s.Public,S s.Name,.d (Sl eS y18),I s.Until,I s.Uses,B s.Ready]] E<|bK h19 fun y20 hy20 h21=>gO 8 E<|Khq C (Lci hy20) E Z E E E E E<|gO 7 E<|oSi h21▸Kie hΓ [] (.inr E) E E E E (.inl E)
  exact gA 9 E<|oSi h16▸Kie hΓ [] (.inr E) E E E E (.inl E)
 have h22:=cF h14 hb
 refine gA 4 E ?_
 rcases Bool.eq_false_or_eq_true ((c:Int)==98) with hb | hb
 ·have h23:=cT h22 hb
  obtain rfl:=eq_of_beq hb
  refine bK h23 fun y24 hy24 h25=>Koz hΓ [] [] [0,4,8,12,16,20,23,27] [] [⟨25,[(78,S w)],S y24,none⟩] 120 [(0,0),(1,0),(2,2),(3,4),(4,9),(5,0),(6,32),(7,64),(8,129),(9,0),(10,512),(11,1024),(12,2049),(13,0),(14,8192),(15,16384),(16,32769),(17,0),(18,131072),(19,262144),(20,524289),(21,2097151),(22,0),(23,6291456),(24,0),(25,16777216),(26,67108863),(27,134217727)] 28 ([0,1],[0,1]) [] [.box 139 [I s.At,S s.Server,I s.No,I s.Kind,S y24,S s.Node,S s.Join,S s.Public,S s.Name,.d (Sl eS s.Tags),I s.Until,I s.Uses,B s.Ready],.pm [(.int .i32 98,.ptr 0 4),(.int .i32 106,.ptr 0 6),(.int .i32 109,.ptr 0 8),(.int .i32 110,.ptr 0 5),(.int .i32 112,.ptr 0 7)]] hmix (by as_aux_lemma=>kernel_rfl) E (by as_aux_lemma=>kernel_rfl) (by as_aux_lemma=>kernel_rfl) (Knp ⟨Koc E E E C (Lct hy24) E E E E E,tV⟩) trivial Z ?_
  exact gA 7 E<|oSi h25▸Kie hΓ [_] (.inr E) E E E E (.inr ⟨HB.mk E,E⟩)
 have h26:=cF h22 hb
 rcases Bool.eq_false_or_eq_true ((c:Int)==110) with hb | hb
 ·have h27:=cT h26 hb
  obtain rfl:=eq_of_beq hb
  refine bK h27 fun y28 hy28 h29=>Koz hΓ [] [] [0,4,8,12,16,20,23,27] [] [⟨25,[(78,S w)],S y28,none⟩] 120 [(0,0),(1,0),(2,2),(3,4),(4,9),(5,0),(6,32),(7,64),(8,129),(9,0),(10,512),(11,1024),(12,2049),(13,0),(14,8192),(15,16384),(16,32769),(17,0),(18,131072),(19,262144),(20,524289),(21,2097151),(22,0),(23,6291456),(24,0),(25,16777216),(26,67108863),(27,134217727)] 28 ([0,1],[0,1]) [] [.box 139 [I s.At,S s.Server,I s.No,I s.Kind,S s.By,S y28,S s.Join,S s.Public,S s.Name,.d (Sl eS s.Tags),I s.Until,I s.Uses,B s.Ready],.pm [(.int .i32 98,.ptr 0 4),(.int .i32 106,.ptr 0 6),(.int .i32 109,.ptr 0 8),(.int .i32 110,.ptr 0 5),(.int .i32 112,.ptr 0 7)]] hmix (by as_aux_lemma=>kernel_rfl) E (by as_aux_lemma=>kernel_rfl) (by as_aux_lemma=>kernel_rfl) (Knp ⟨Koc E E E C (Lct hy28) E E E E E,tV⟩) trivial Z ?_
  exact gA 7 E<|oSi h29▸Kie hΓ [_] (.inr E) E E E E (.inr ⟨HB.mk E,E⟩)
 have h30:=cF h26 hb
 rcases Bool.eq_false_or_eq_true ((c:Int)==106) with hb | hb
 ·have h31:=cT h30 hb
  obtain rfl:=eq_of_beq hb
  refine bK h31 fun y32 hy32 h33=>Koz hΓ [] [] [0,4,8,12,16,20,23,27] [] [⟨25,[(78,S w)],S y32,none⟩] 120 [(0,0),(1,0),(2,2),(3,4),(4,9),(5,0),(6,32),(7,64),(8,129),(9,0),(10,512),(11,1024),(12,2049),(13,0),(14,8192),(15,16384),(16,32769),(17,0),(18,131072),(19,262144),(20,524289),(21,2097151),(22,0),(23,6291456),(24,0),(25,16777216),(26,67108863),(27,134217727)] 28 ([0,1],[0,1]) [] [.box 139 [I s.At,S s.Server,I s.No,I s.Kind,S s.By,S s.Node,S y32,S s.Public,S s.Name,.d (Sl eS s.Tags),I s.Until,I s.Uses,B s.Ready],.pm [(.int .i32 98,.ptr 0 4),(.int .i32 106,.ptr 0 6),(.int .i32 109,.ptr 0 8),(.int .i32 110,.ptr 0 5),(.int .i32 112,.ptr 0 7)]] hmix (by as_aux_lemma=>kernel_rfl) E (by as_aux_lemma=>kernel_rfl) (by as_aux_lemma=>kernel_rfl) (Knp ⟨Koc E E E C (Lct hy32) E E E E E,tV⟩) trivial Z ?_
  exact gA 7 E<|oSi h33▸Kie hΓ [_] (.inr E) E E E E (.inr ⟨HB.mk E,E⟩)
 have h34:=cF h30 hb
 rcases Bool.eq_false_or_eq_true ((c:Int)==112) with hb | hb
 ·have h35:=cT h34 hb
  obtain rfl:=eq_of_beq hb
  refine bK h35 fun y36 hy36 h37=>Koz hΓ [] [] [0,4,8,12,16,20,23,27] [] [⟨25,[(78,S w)],S y36,none⟩] 120 [(0,0),(1,0),(2,2),(3,4),(4,9),(5,0),(6,32),(7,64),(8,129),(9,0),(10,512),(11,1024),(12,2049),(13,0),(14,8192),(15,16384),(16,32769),(17,0),(18,131072),(19,262144),(20,524289),(21,2097151),(22,0),(23,6291456),(24,0),(25,16777216),(26,67108863),(27,134217727)] 28 ([0,1],[0,1]) [] [.box 139 [I s.At,S s.Server,I s.No,I s.Kind,S s.By,S s.Node,S s.Join,S y36,S s.Name,.d (Sl eS s.Tags),I s.Until,I s.Uses,B s.Ready],.pm [(.int .i32 98,.ptr 0 4),(.int .i32 106,.ptr 0 6),(.int .i32 109,.ptr 0 8),(.int .i32 110,.ptr 0 5),(.int .i32 112,.ptr 0 7)]] hmix (by as_aux_lemma=>kernel_rfl) E (by as_aux_lemma=>kernel_rfl) (by as_aux_lemma=>kernel_rfl) (Knp ⟨Koc E E E C (Lct hy36) E E E E E,tV⟩) trivial Z ?_
  exact gA 7 E<|oSi h37▸Kie hΓ [_] (.inr E) E E E E (.inr ⟨HB.mk E,E⟩)
 have h38:=cF h34 hb
 rcases Bool.eq_false_or_eq_true ((c:Int)==109) with hb | hb
 ·have h39:=cT h38 hb
  obtain rfl:=eq_of_beq hb
  refine bK h39 fun y40 hy40 h41=>Koz hΓ [] [] [0,4,8,12,16,20,23,27] [] [⟨25,[(78,S w)],S y40,none⟩] 120 [(0,0),(1,0),(2,2),(3,4),(4,9),(5,0),(6,32),(7,64),(8,129),(9,0),(10,512),(11,1024),(12,2049),(13,0),(14,8192),(15,16384),(16,32769),(17,0),(18,131072),(19,262144),(20,524289),(21,2097151),(22,0),(23,6291456),(24,0),(25,16777216),(26,67108863),(27,134217727)] 28 ([0,1],[0,1]) [] [.box 139 [I s.At,S s.Server,I s.No,I s.Kind,S s.By,S s.Node,S s.Join,S s.Public,S y40,.d (Sl eS s.Tags),I s.Until,I s.Uses,B s.Ready],.pm [(.int .i32 98,.ptr 0 4),(.int .i32 106,.ptr 0 6),(.int .i32 109,.ptr 0 8),(.int .i32 110,.ptr 0 5),(.int .i32 112,.ptr 0 7)]] hmix (by as_aux_lemma=>kernel_rfl) E (by as_aux_lemma=>kernel_rfl) (by as_aux_lemma=>kernel_rfl) (Knp ⟨Koc E E E C (Lct hy40) E E E E E,tV⟩) trivial Z ?_
  exact gA 7 E<|oSi h41▸Kie hΓ [_] (.inr E) E E E E (.inr ⟨HB.mk E,E⟩)
 have h42:=cF h38 hb
 cases h42
theorem Lcv{w:List Str}{r:Kxx×Bool}(h:Lbf w=some r):Pure Tryz.prog 119 [.d (Sl eS w)] (.tup [.agg (fS r.1),B r.2]):=by
 unfold Lbf at h
 refine QP Tryz.func119 E E E<|gA 2 E<|Kro hΓ E E E Z<|gO 4 E<|jD<|bK h fun y1 hy1 h2=>Khr C (Lbz hy1) E E E E E E<|bK h2 fun x3 hx3 h4=>Kgh hΓ 1 E<|gl_o E (Kha hΓ (enc:=eS) hx3 E E E E E (fun _=>E))<|bK h4 fun y5 hy5 h6=>Kgh hΓ 1 E<|Khr C (Lch hy5) E E E E E E<|Kgh hΓ 10 E<|jC E h6 (fun h7=>?_) fun h8=>gA 5 E<|Kep hΓ (gs:=[I 0,S [],I 0,I y5,S [],S [],S [],S [],S [],.d (Sl eS []),I 0,I 0,B false]) E E E E E E E<|Kro hΓ E E E Z<|Krt hΓ E E E E E E E E Z<|Khx [.box 139 [I 0,S [],I 0,I 0,S [],S [],S [],S [],S [],.d (Sl eS []),I 0,I 0,B false],.box 139 [I 0,S [],I 0,I y5,S [],S [],S [],S [],S [],.d (Sl eS []),I 0,I 0,B false]] E<|bK h8 fun y9 hy9 h10=>gO 5 E<|Khq C (Lfm hy9) E Z E E E E E<|bK h10 fun y11 hy11 h12=>Khq C (Kxo hy11) E Z E E E E E<|gO 14 E<|jC E h12 (fun h13=>?_) fun h14=>?_
 ·exact gA 2 E<|Kep hΓ (gs:=[I 0,S [],I 0,I 0,S [],S [],S [],S [],S [],.d (Sl eS []),I 0,I 0,B false]) E E E E E E E<|Krt hΓ E E E E E E E E Z<|Khx [.box 139 [I 0,S [],I 0,I 0,S [],S [],S [],S [],S [],.d (Sl eS []),I 0,I 0,B false]] E<|gO 5 E<|oSi h7▸gP E E
 ·exact gA 2 E<|Kep hΓ (gs:=[I 0,S [],I 0,I 0,S [],S [],S [],S [],S [],.d (Sl eS []),I 0,I 0,B false]) E E E E E E E<|Krt hΓ E E E E E E E E Z<|Khx [.box 139 [I 0,S [],I 0,I 0,S [],S [],S [],S [],S [],.d (Sl eS []),I 0,I 0,B false],.box 139 [I 0,S [],I 0,I y5,S [],S [],S [],S [],S [],.d (Sl eS []),I 0,I 0,B false]] E<|gO 5 E<|oSi h13▸gP E E
 refine gK h14 fun hg16 h15=>gA 6 E<|Knm hΓ y11 E E E E Z<|gO 2 E<|bK h15 fun q22 hq22 h23=>gA 1 E<|Kno y11 hq22 (fun sn19 s17=>[(0,.d (Sl eS w)),(2,.ptr 0 0),(5,.ptr 1 0),(30,.ptr 2 0)]) (fun sn19 s17=>[.box 139 [I 0,S [],I 0,I 0,S [],S [],S [],S [],S [],.d (Sl eS []),I 0,I 0,B false],.box 139 (fS s17),.siter y11 sn19]) ⟨⟨E,E,E,E,tV⟩,[],E,.inl E⟩ (fun sn19 s17 hdone24 hstep25=>?_)
 refine gA 2 E<|Knn y11 sn19 [.box 139 [I 0,S [],I 0,I 0,S [],S [],S [],S [],S [],.d (Sl eS []),I 0,I 0,B false],.box 139 (fS s17),.dead] E E E E Z hg16 (fun hdsn19=>?_) (fun x18 hjsn19=>?_)
 ·have hqsn19:=hdone24 hdsn19
  subst hqsn19
  replace h23:=Kkf h23
  exact gO 13 E<|Krt hΓ E E E E E E E E Z<|Khx [.box 139 (fS s17),.box 139 (fS s17),.dead] E<|gO 4 E<|oSi h23▸gP E E
 obtain⟨s26,h27,houtsn19⟩:=hstep25 x18 hjsn19
 have hssn19:=h27
 refine bK h27 fun x28 hx28 h29=>gO 22 E<|eo_o E (Kha hΓ (enc:=eS) hx28 E E E E E (fun _=>E))<|bK h29 fun y30 hy30 h31=>gO 1 E<|Khp [1] (B y30.1) [.box 139 [I 0,S [],I 0,I 0,S [],S [],S [],S [],S [],.d (Sl eS []),I 0,I 0,B false],.box 139 (fS y30.2),.siter y11 (sn19+1)] C (Lcu hy30) E Z E E E E E E E E E E<|gO 3 E<|jC E h31 (fun h32=>?_) fun h35=>gA 2 E ?_
 ·refine gA 2 E<|Kep hΓ (gs:=[I 0,S [],I 0,I 0,S [],S [],S [],S [],S [],.d (Sl eS []),I 0,I 0,B false]) E E E E E E E<|Krt hΓ E E E E E E E E Z<|Khx [.box 139 [I 0,S [],I 0,I 0,S [],S [],S [],S [],S [],.d (Sl eS []),I 0,I 0,B false],.box 139 (fS y30.2),.siter y11 (sn19+1)] E<|gO 5 E<|bK h32 fun v33 hv33 h34=>?_
  cases h34
  obtain rfl:=houtsn19 _ rfl
  cases h23
  exact gA 3 E<|oSi hv33▸gP E E
 cases h35
 exact⟨x18,_,hjsn19,hssn19,⟨⟨E,E,E,E,tV⟩,[],E,.inl E⟩⟩
theorem Lcw{line:Str}{x:List Kxx}{r:Bool×(List Kxx)}(h:Lbg line x=some r):EC Tryz.prog 118 [S line,.ptr 1 0] [rO 139 13 Ldl x,.box 56 [.sl 0 x.length]] fun g hp'=>g=B r.1∧hp'=[.dead,.box 56 [.sl 2 r.2.length],rO 139 13 Ldl r.2]:=by
 unfold Lbg at h
 refine QM Tryz.func118 E Z<|Kji Z<|Kjg 0 2 [.dead,.box 56 [.sl 2 x.length],rO 139 13 Ldl x] E E E E E E<|bK h fun y1 hy1 h2=>gA 8 E<|Khq C (Lcr hy1) E Z E E E E E<|gO 13 E<|Kgp 4 [(1,.ptr 1 0),(4,.d (Sl eS y1.1)),(23,B ((!y1.2)||(decide (((y1.1.length:Int):Int)<4))))] [.dead,.box 56 [.sl 2 x.length],rO 139 13 Ldl x] ?_ ?_
 ·refine Kqh E E (fun hb=>?_) (fun hb=>?_)
  ·exact gO 5 E<|⟨⟨E,E,Kfs E (or_t hb),tV⟩,[],E,.inl E⟩
  exact gO 5 E<|⟨⟨E,E,Kfs E (or_f hb),tV⟩,[],E,.inl E⟩
 refine gO 2 E<|Kgj E (fun hb=>?_) (fun hb=>?_)
 ·have h3:=cT h2 hb
  exact gA 7 E<|Kkh<|oSi h3▸Kie hΓ [] (.inr E) E E E E (.inl E)
 have h4:=cF h2 hb
 refine bK h4 fun x5 hx5 h6=>gA 5 E<|eo_o E (Kha hΓ (enc:=eS) hx5 E E E E E (fun _=>E))<|bK h6 fun y7 hy7 h8=>gO 1 E<|Khq C (Lcs hy7) E Z E E E E E<|bK h8 fun x9 hx9 h10=>gO 10 E<|eo_o E (Kha hΓ (enc:=eS) hx9 E E E E E (fun _=>E))<|bK h10 fun y11 hy11 h12=>gO 1 E<|Khq C (Lcs hy11) E Z E E E E E<|bK h12 fun z13 hz13 h14=>gO 10 E<|eo_o E (Khh hΓ (enc:=eS) hz13 E E E E E E (fun _=>E))<|bK h14 fun y15 hy15 h16=>Khq C (Lcv hy15) E Z E E E E E<|gO 3 E<|Kro hΓ E E E Z<|Krt hΓ E E E E E E E E Z<|Khx [.dead,.box 56 [.sl 2 x.length],rO 139 13 Ldl x,.box 139 (fS y15.1)] E<|gO 4 E<|Kjm [] [] [6,8,10] [] hmix (by kernel_rfl) (by kernel_rfl) trivial Z<|bK h16 fun x17 hx17 h18=>go_E hΓ 2 E<|ge_q E (.inl E) (fun _ _=>Kjp (qt_p (Kha hΓ (enc:=eS) hx17 E E E E E (fun _=>E))))<|go_E hΓ 3 E<|Kjr [.dead,.box 56 [.sl 2 x.length],rO 139 13 Ldl x,.box 139 [I y7.1,S y15.1.Server,I y15.1.No,I y15.1.Kind,S y15.1.By,S y15.1.Node,S y15.1.Join,S y15.1.Public,S y15.1.Name,.d (Sl eS y15.1.Tags),I y15.1.Until,I y15.1.Uses,B y15.1.Ready]] E E (Kjt tV) (Kjx (Kkm hΓ E E E E E E E E E))<|go_E hΓ 1 E<|Kjr [.dead,.box 56 [.sl 2 x.length],rO 139 13 Ldl x,.box 139 [I y7.1,S x17,I y15.1.No,I y15.1.Kind,S y15.1.By,S y15.1.Node,S y15.1.Join,S y15.1.Public,S y15.1.Name,.d (Sl eS y15.1.Tags),I y15.1.Until,I y15.1.Uses,B y15.1.Ready]] E E (Kjt tV) (Kjx (Kkm hΓ E E E E E E E E E))<|go_E hΓ 1 E<|Kjr [.dead,.box 56 [.sl 2 x.length],rO 139 13 Ldl x,.box 139 [I y7.1,S x17,I y11.1,I y15.1.Kind,S y15.1.By,S y15.1.Node,S y15.1.Join,S y15.1.Public,S y15.1.Name,.d (Sl eS y15.1.Tags),I y15.1.Until,I y15.1.Uses,B y15.1.Ready]] E E (Kjt tV) (Kjx (Kkm hΓ E E E E E E E E E))<|Kjo<|gA 5 E<|Khl hΓ (enc:=Ldl) [(⟨y7.1,x17,y11.1,y15.1.Kind,y15.1.By,y15.1.Node,y15.1.Join,y15.1.Public,y15.1.Name,y15.1.Tags,y15.1.Until,y15.1.Uses,y15.1.Ready⟩:Kxx)] E E E E E E E E E E E E Z<|bK h18 fun y19 hy19 h20=>Kkv 2 [.dead,.box 56 [.junk],rO 139 13 Ldl x,.box 139 [I y7.1,S x17,I y11.1,I y15.1.Kind,S y15.1.By,S y15.1.Node,S y15.1.Join,S y15.1.Public,S y15.1.Name,.d (Sl eS y15.1.Tags),I y15.1.Until,I y15.1.Uses,B y15.1.Ready]] E Z<|Khy hΓ (enc:=Ldl) hy19 E E E E E E E E E (fun _=>E) E E E E<|Krt hΓ E E E E E E E E Z<|Khx [.dead,.box 56 [.sl 2 y19.length],rO 139 13 Ldl y19,.box 139 [I y7.1,S x17,I y11.1,I y15.1.Kind,S y15.1.By,S y15.1.Node,S y15.1.Join,S y15.1.Public,S y15.1.Name,.d (Sl eS y15.1.Tags),I y15.1.Until,I y15.1.Uses,B y15.1.Ready]] E<|gO 6 E<|Kgp 2 [(11,B y15.2),(59,B (y7.2&&y11.2))] [.dead,.box 56 [.sl 2 y19.length],rO 139 13 Ldl y19,.box 139 [I y7.1,S x17,I y11.1,I y15.1.Kind,S y15.1.By,S y15.1.Node,S y15.1.Join,S y15.1.Public,S y15.1.Name,.d (Sl eS y15.1.Tags),I y15.1.Until,I y15.1.Uses,B y15.1.Ready]] ?_ ?_
 ·refine Kqh E E (fun hb=>?_) (fun hb=>?_)
  ·exact gO 3 E<|⟨⟨E,Kfs E (Kij hb),tV⟩,[],E,.inl E⟩
  exact gO 3 E<|⟨⟨E,Kfs E (Kik hb),tV⟩,[],E,.inl E⟩
 refine gO 1 E<|Kgp 2 [(62,B ((y7.2&&y11.2)&&y15.2))] [.dead,.box 56 [.sl 2 y19.length],rO 139 13 Ldl y19,.box 139 [I y7.1,S x17,I y11.1,I y15.1.Kind,S y15.1.By,S y15.1.Node,S y15.1.Join,S y15.1.Public,S y15.1.Name,.d (Sl eS y15.1.Tags),I y15.1.Until,I y15.1.Uses,B y15.1.Ready]] ?_ ?_
 ·refine Kqh E E (fun hb=>?_) (fun hb=>?_)
  ·exact gO 3 E<|⟨⟨Kfs E (Kij hb),tV⟩,[],E,.inl E⟩
  exact gO 3 E<|⟨⟨Kfs E (Kik hb),tV⟩,[],E,.inl E⟩
 exact gO 4 E<|Kkh<|oSi h20▸Kie hΓ [_] (.inr E) E E E E (.inr ⟨HB.mk E,E⟩)
theorem Lcx{k:Nat}{text:Str}{f:List Kxx}{r:Int×Bool×(List Kxx)}(h:Lbh k text f=some r):EC Tryz.prog 69 [S text,.fn (.func 118) [] [.ptr 1 0]] [rO 139 13 Ldl f,.box 56 [.sl 0 f.length]] fun g hp'=>g=.tup [I r.1,B r.2.1]∧hp'=[.dead,.box 56 [.sl 2 r.2.2.length],rO 139 13 Ldl r.2.2]:=by
 unfold Lbh at h
 refine QM Tryz.func69 E Z<|Kji Z<|Kjg 0 2 [.dead,.box 56 [.sl 2 f.length],rO 139 13 Ldl f] E E E E E E<|gA 12 E<|bK h fun q4 hq4 h5=>Kki (R:=fun a6=>q4=.inl a6) (fun a6=>[]) (fun a6=>[.dead,.box 56 [.sl 2 a6.length],rO 139 13 Ldl a6]) ?_ ?_
 ·refine gA 1 E<|Kgw hq4 (fun s2=>[(0,S s2.2.1),(1,.fn (.func 118) [] [.ptr 1 0]),(6,I s2.2.2)]) (fun s2=>[.dead,.box 56 [.sl 2 s2.1.length],rO 139 13 Ldl s2.1]) ⟨⟨E,E,E,tV⟩,[],E,.inl E⟩ (fun s2 y10 hy8 hout9=>?_)
  refine gA 7 E<|jC E hy8 (fun h11=>?_) fun h24=>gA 4 E ?_
  ·refine bK h11 fun y12 hy12 h13=>gA 7 E<|Khq C (Kxm hy12) E Z E E E E E<|gO 15 E<|bK h13 fun q14 hq14 h15=>Kgp 5 [(1,.fn (.func 118) [] [.ptr 1 0]),(6,I s2.2.2),(8,S y12.2.1),(27,B q14.2)] [.dead,.box 56 [.sl 2 q14.1.length],rO 139 13 Ldl q14.1] ?_ ?_
   ·refine Kqh E E (fun hb=>?_) (fun hb=>?_)
    ·have h16:=cT hq14 hb
     exact gO 6 E<|oSi h16▸⟨⟨E,E,E,E,tV⟩,[],E,.inl E⟩
    have h17:=cF hq14 hb
    exact bK h17 fun y18 hy18 h19=>gO 2 E<|Kqf E<|Khp [2,1] (B y18.1) [.dead,.box 56 [.sl 3 y18.2.length],.dead,rO 139 13 Ldl y18.2] C (Lcw hy18) E Z E E E E E E E E E E<|gO 2 E<|Kje 3 2 [.dead,.box 56 [.sl 2 y18.2.length],rO 139 13 Ldl y18.2,.dead] E E E E E E<|gO 1 E<|oSi h19▸⟨⟨E,E,E,E,tV⟩,[_],E,.inr ⟨HB.mk E,FB.mk E,Z⟩⟩
   refine gO 2 E<|jC E h15 (fun h20=>?_) fun h23=>gA 13 E<|oSi h23▸⟨_,E,⟨⟨E,E,E,tV⟩,[],E,.inl E⟩⟩
   refine gA 11 E<|bK h20 fun v21 hv21 h22=>?_
   cases h22
   obtain rfl:=hout9 _ rfl
   cases h5
   exact gA 4 E<|Kkh<|oSi hv21▸Kie hΓ [] (.inr E) E E E E (.inl E)
  cases h24
  obtain rfl:=hout9 _ rfl
  exact⟨_,E,⟨tV,[],E,.inl E⟩⟩
 intro a6 ha
 subst ha
 replace h5:=Kke h5
 exact gA 8 E<|Kkh<|oSi h5▸Kie hΓ [] (.inr E) E E E E (.inl E)
theorem Lcy{k:Nat}{text:Str}{r:(List Kxx)×Int×Int}(h:Lbi k text=some r):Pure Tryz.prog 32 [S text] (.tup [.d (Sl Ldl r.1),I r.2.1,I r.2.2]):=by
 unfold Lbi at h
 refine QP Tryz.func32 E E E<|gA 15 E<|jC E h (fun h1=>?_) fun h2=>gA 4 E<|eo_s Z (nblt.1 E) (Kmf hΓ [0] [.d (.v (.slice none 0 0))] (hi:=show Γ 56=some ⟨_,_,_,_⟩ from E) E ⟨.refl _,tV⟩)<|Khx [.box 56 [.d (.v (.slice none 0 0))]] E<|gO 2 E<|Kna 0 0 139 13 [.box 56 [.sl 1 ([]:List Kxx).length],rO 139 13 Ldl ([]:List Kxx)] E E E Z<|bK h2 fun y3 hy3 h4=>gA 4 E<|Khp [1,0] (.tup [I y3.1,B y3.2.1]) [.box 56 [.sl 2 y3.2.2.length],.dead,rO 139 13 Ldl y3.2.2] C (Lcx hy3) E Z E E E E E E E E E E<|gO 5 E<|Kje 2 1 [.box 56 [.sl 1 y3.2.2.length],rO 139 13 Ldl y3.2.2,.dead] E E E E E E<|gO 9 E<|jC E h4 (fun h5=>?_) fun h6=>?_
 ·exact gA 9 E<|oSi h1▸gP E E
 ·exact gA 10 E<|oSi h5▸gP E E
 refine bK h6 fun y7 hy7 h8=>gA 6 E<|Kht C (Lby hy7) E Z E E E E E<|gO 9 E<|jC E h8 (fun h9=>?_) fun h10=>gA 6 E<|Khw 1 [2,21,26] _ [.box 56 [.d (Sl Ldl y3.2.2)],.dead,.dead] E E E Z<|gO 5 E<|oSi h10▸gP E E
 exact gA 10 E<|oSi h9▸gP E E
theorem Lcz{s1:List Str}{s2:List Str}{r:Bool}(h:Lbj s1 s2=some r):Pure Tryz.prog 75 [.d (Sl eS s1),.d (Sl eS s2)] (B r):=by
 unfold Lbj at h
 refine QP Tryz.func75 E E E<|gA 15 E<|jC E h (fun h1=>?_) fun h2=>gA 10 E<|bK h2 fun q6 hq6 h7=>Kgz 0 E fun hb9=>Kki (R:=fun a8=>q6=.go a8) (fun a8=>[]) (fun a8=>[]) ?_ ?_
 ·exact gA 7 E<|oSi h1▸gP E E
 ·refine gA 1 E<|Kgy s1 hq6 (fun i3 s4=>[(0,.d (Sl eS s1)),(1,.d (Sl eS s2)),(12,I (s1.length:Int)),(13,I (i3:Int))]) (fun s4=>[]) ⟨⟨E,E,E,E,tV⟩,[],E,.inl E⟩ (fun i3 x5 s4 y13 hx10 hlt hy11 hout12=>?_) (fun s4 hgo=>?_)
  ·refine gA 6 E<|Kgk E (dT (Int.ofNat_lt.2 hlt))<|gA 11 E<|jD<|gA 2 E<|gl_o E (Kha hΓ (enc:=eS) (Kgt hx10) E E E E E (fun _=>E))<|bK hy11 fun x14 hx14 h15=>Kgh hΓ 3 E<|gl_o E (Kha hΓ (enc:=eS) hx14 E E E E E (fun _=>E))<|Kgh hΓ 4 E<|jC E h15 (fun h16=>?_) fun h19=>gA 7 E ?_
   ·refine gA 8 E<|bK h16 fun v17 hv17 h18=>?_
    cases h18
    obtain rfl:=hout12 _ rfl
    cases h7
    exact gA 4 E<|oSi hv17▸gP E E
   cases h19
   exact⟨_,E,⟨⟨E,E,E,Kfr E (Kfq (nLl hlt hb9)),tV⟩,[],E,.inl E⟩⟩
  subst hgo
  exact gA 6 E<|Kgl E (dF (Int.lt_irrefl _))<|gA 4 E<|⟨_,E,⟨tV,[],E,.inl E⟩⟩
 intro a8 ha
 subst ha
 replace h7:=Kkf h7
 exact gA 7 E<|oSi h7▸gP E E
theorem Lda{a:Kxx}{b:Kxx}{r:Bool}(h:Lbk a b=some r):Pure Tryz.prog 121 [.agg (fS a),.agg (fS b)] (B r):=by
 unfold Lbk at h
 refine QP Tryz.func121 E E E<|gA 2 E<|Krp E E E E Z<|Krp E E E E Z<|bK h fun y1 hy1 h2=>gO 10 E<|Khq C (Lcz hy1) E Z E E E E E<|gO 3 E<|Kgj E (fun hb=>?_) (fun hb=>?_)
 ·have h3:=cT h2 hb
  exact gA 7 E<|oSi h3▸gP E E
 have h4:=cF h2 hb
 refine gA 10 E<|Kgp 6 [(2,.ptr 0 0),(3,.ptr 1 0),(4,B false),(22,B (((a.At:Int)==b.At)&&((a.Server:Str)==b.Server)))] [.box 139 (fS a),.box 139 (fS b)] ?_ ?_
 ·refine Kqh E E (fun hb=>?_) (fun hb=>?_)
  ·exact gO 7 E<|⟨⟨E,E,E,Kfs E (Kij hb),tV⟩,[],E,.inl E⟩
  exact gO 7 E<|⟨⟨E,E,E,Kfs E (Kik hb),tV⟩,[],E,.inl E⟩
 refine gO 1 E<|Kgp 6 [(2,.ptr 0 0),(3,.ptr 1 0),(4,B false),(29,B ((((a.At:Int)==b.At)&&((a.Server:Str)==b.Server))&&((a.No:Int)==b.No)))] [.box 139 (fS a),.box 139 (fS b)] ?_ ?_
 ·refine Kqh E E (fun hb=>?_) (fun hb=>?_)
  ·exact gO 7 E<|⟨⟨E,E,E,Kfs E (Kij hb),tV⟩,[],E,.inl E⟩
  exact gO 7 E<|⟨⟨E,E,E,Kfs E (Kik hb),tV⟩,[],E,.inl E⟩
 refine gO 1 E<|Kgp 6 [(2,.ptr 0 0),(3,.ptr 1 0),(4,B false),(36,B (((((a.At:Int)==b.At)&&((a.Server:Str)==b.Server))&&((a.No:Int)==b.No))&&((a.Kind:Int)==b.Kind)))] [.box 139 (fS a),.box 139 (fS b)] ?_ ?_
 ·refine Kqh E E (fun hb=>?_) (fun hb=>?_)
  ·exact gO 7 E<|⟨⟨E,E,E,Kfs E (Kij hb),tV⟩,[],E,.inl E⟩
  exact gO 7 E<|⟨⟨E,E,E,Kfs E (Kik hb),tV⟩,[],E,.inl E⟩
 refine gO 1 E<|Kgp 6 [(2,.ptr 0 0),(3,.ptr 1 0),(4,B false),(43,B ((((((a.At:Int)==b.At)&&((a.Server:Str)==b.Server))&&((a.No:Int)==b.No))&&((a.Kind:Int)==b.Kind))&&((a.By:Str)==b.By)))] [.box 139 (fS a),.box 139 (fS b)] ?_ ?_
 ·refine Kqh E E (fun hb=>?_) (fun hb=>?_)
  ·exact gO 7 E<|⟨⟨E,E,E,Kfs E (Kij hb),tV⟩,[],E,.inl E⟩
  exact gO 7 E<|⟨⟨E,E,E,Kfs E (Kik hb),tV⟩,[],E,.inl E⟩
 refine gO 1 E<|Kgp 6 [(2,.ptr 0 0),(3,.ptr 1 0),(4,B false),(50,B (((((((a.At:Int)==b.At)&&((a.Server:Str)==b.Server))&&((a.No:Int)==b.No))&&((a.Kind:Int)==b.Kind))&&((a.By:Str)==b.By))&&((a.Node:Str)==b.Node)))] [.box 139 (fS a),.box 139 (fS b)] ?_ ?_
 ·refine Kqh E E (fun hb=>?_) (fun hb=>?_)
  ·exact gO 7 E<|⟨⟨E,E,E,Kfs E (Kij hb),tV⟩,[],E,.inl E⟩
  exact gO 7 E<|⟨⟨E,E,E,Kfs E (Kik hb),tV⟩,[],E,.inl E⟩
 refine gO 1 E<|Kgp 6 [(2,.ptr 0 0),(3,.ptr 1 0),(4,B false),(57,B ((((((((a.At:Int)==b.At)&&((a.Server:Str)==b.Server))&&((a.No:Int)==b.No))&&((a.Kind:Int)==b.Kind))&&((a.By:Str)==b.By))&&((a.Node:Str)==b.Node))&&((a.Join:Str)==b.Join)))] [.box 139 (fS a),.box 139 (fS b)] ?_ ?_
 ·refine Kqh E E (fun hb=>?_) (fun hb=>?_)
  ·exact gO 7 E<|⟨⟨E,E,E,Kfs E (Kij hb),tV⟩,[],E,.inl E⟩
  exact gO 7 E<|⟨⟨E,E,E,Kfs E (Kik hb),tV⟩,[],E,.inl E⟩
 refine gO 1 E<|Kgp 6 [(2,.ptr 0 0),(3,.ptr 1 0),(4,B false),(64,B (((((((((a.At:Int)==b.At)&&((a.Server:Str)==b.Server))&&((a.No:Int)==b.No))&&((a.Kind:Int)==b.Kind))&&((a.By:Str)==b.By))&&((a.Node:Str)==b.Node))&&((a.Join:Str)==b.Join))&&((a.Public:Str)==b.Public)))] [.box 139 (fS a),.box 139 (fS b)] ?_ ?_
 ·refine Kqh E E (fun hb=>?_) (fun hb=>?_)
  ·exact gO 7 E<|⟨⟨E,E,E,Kfs E (Kij hb),tV⟩,[],E,.inl E⟩
  exact gO 7 E<|⟨⟨E,E,E,Kfs E (Kik hb),tV⟩,[],E,.inl E⟩
 refine gO 1 E<|Kgp 6 [(2,.ptr 0 0),(3,.ptr 1 0),(4,B false),(71,B ((((((((((a.At:Int)==b.At)&&((a.Server:Str)==b.Server))&&((a.No:Int)==b.No))&&((a.Kind:Int)==b.Kind))&&((a.By:Str)==b.By))&&((a.Node:Str)==b.Node))&&((a.Join:Str)==b.Join))&&((a.Public:Str)==b.Public))&&((a.Name:Str)==b.Name)))] [.box 139 (fS a),.box 139 (fS b)] ?_ ?_
 ·refine Kqh E E (fun hb=>?_) (fun hb=>?_)
  ·exact gO 7 E<|⟨⟨E,E,E,Kfs E (Kij hb),tV⟩,[],E,.inl E⟩
  exact gO 7 E<|⟨⟨E,E,E,Kfs E (Kik hb),tV⟩,[],E,.inl E⟩
 refine gO 1 E<|Kgp 6 [(2,.ptr 0 0),(3,.ptr 1 0),(4,B false),(78,B (((((((((((a.At:Int)==b.At)&&((a.Server:Str)==b.Server))&&((a.No:Int)==b.No))&&((a.Kind:Int)==b.Kind))&&((a.By:Str)==b.By))&&((a.Node:Str)==b.Node))&&((a.Join:Str)==b.Join))&&((a.Public:Str)==b.Public))&&((a.Name:Str)==b.Name))&&((a.Until:Int)==b.Until)))] [.box 139 (fS a),.box 139 (fS b)] ?_ ?_
 ·refine Kqh E E (fun hb=>?_) (fun hb=>?_)
  ·exact gO 7 E<|⟨⟨E,E,E,Kfs E (Kij hb),tV⟩,[],E,.inl E⟩
  exact gO 7 E<|⟨⟨E,E,E,Kfs E (Kik hb),tV⟩,[],E,.inl E⟩
 refine gO 1 E<|Kgp 6 [(2,.ptr 0 0),(3,.ptr 1 0),(4,B false),(85,B ((((((((((((a.At:Int)==b.At)&&((a.Server:Str)==b.Server))&&((a.No:Int)==b.No))&&((a.Kind:Int)==b.Kind))&&((a.By:Str)==b.By))&&((a.Node:Str)==b.Node))&&((a.Join:Str)==b.Join))&&((a.Public:Str)==b.Public))&&((a.Name:Str)==b.Name))&&((a.Until:Int)==b.Until))&&((a.Uses:Int)==b.Uses)))] [.box 139 (fS a),.box 139 (fS b)] ?_ ?_
 ·refine Kqh E E (fun hb=>?_) (fun hb=>?_)
  ·exact gO 7 E<|⟨⟨E,E,E,Kfs E (Kij hb),tV⟩,[],E,.inl E⟩
  exact gO 7 E<|⟨⟨E,E,E,Kfs E (Kik hb),tV⟩,[],E,.inl E⟩
 refine gO 1 E<|Kgp 6 [(4,B false),(92,B (((((((((((((a.At:Int)==b.At)&&((a.Server:Str)==b.Server))&&((a.No:Int)==b.No))&&((a.Kind:Int)==b.Kind))&&((a.By:Str)==b.By))&&((a.Node:Str)==b.Node))&&((a.Join:Str)==b.Join))&&((a.Public:Str)==b.Public))&&((a.Name:Str)==b.Name))&&((a.Until:Int)==b.Until))&&((a.Uses:Int)==b.Uses))&&((a.Ready:Bool)==b.Ready)))] [.box 139 (fS a),.box 139 (fS b)] ?_ ?_
 ·refine Kqh E E (fun hb=>?_) (fun hb=>?_)
  ·exact gO 7 E<|⟨⟨E,Kfs E (Kij hb),tV⟩,[],E,.inl E⟩
  exact gO 7 E<|⟨⟨E,Kfs E (Kik hb),tV⟩,[],E,.inl E⟩
 exact gO 4 E<|oSi h4▸gP E E
theorem Ldb{s1:List Kxx}{s2:List Kxx}{r:Bool}(h:Lbl s1 s2=some r):Pure Tryz.prog 120 [.d (Sl Ldl s1),.d (Sl Ldl s2),.fn (.func 121) [] []] (B r):=by
 unfold Lbl at h
 refine QP Tryz.func120 E E E<|gA 15 E<|jC E h (fun h1=>?_) fun h2=>gA 10 E<|bK h2 fun q6 hq6 h7=>Kgz 15 E fun hb9=>Kki (R:=fun a8=>q6=.go a8) (fun a8=>[]) (fun a8=>[]) ?_ ?_
 ·exact gA 7 E<|oSi h1▸gP E E
 ·refine gA 1 E<|Kgy s1 hq6 (fun i3 s4=>[(1,.d (Sl Ldl s2)),(2,.fn (.func 121) [] []),(15,.d (Sl Ldl s1)),(16,I (s1.length:Int)),(17,I (i3:Int))]) (fun s4=>[]) ⟨⟨E,E,E,E,E,tV⟩,[],E,.inl E⟩ (fun i3 x5 s4 y13 hx10 hlt hy11 hout12=>?_) (fun s4 hgo=>?_)
  ·refine gA 6 E<|Kgk E (dT (Int.ofNat_lt.2 hlt))<|gA 7 E<|eo_o E (Kha hΓ (enc:=Ldl) (Kgt hx10) E E E E E (fun _=>E))<|gO 1 E<|Kro hΓ E E E Z<|gO 1 E<|Krt hΓ E E E E E E E E Z<|Khx [.box 139 (fS x5)] E<|bK hy11 fun x14 hx14 h15=>gO 6 E<|eo_o E (Kha hΓ (enc:=Ldl) hx14 E E E E E (fun _=>E))<|gO 1 E<|Kro hΓ E E E Z<|Krt hΓ E E E E E E E E Z<|Khx [.box 139 (fS x5),.box 139 (fS x14)] E<|bK h15 fun y16 hy16 h17=>gO 7 E<|Khq C (Lda hy16) E Z E E E E E<|gO 3 E<|jC E h17 (fun h18=>?_) fun h21=>gA 7 E ?_
   ·refine gA 8 E<|bK h18 fun v19 hv19 h20=>?_
    cases h20
    obtain rfl:=hout12 _ rfl
    cases h7
    exact gA 4 E<|oSi hv19▸gP E E
   cases h21
   exact⟨_,E,⟨⟨E,E,E,E,Kfr E (Kfq (nLl hlt hb9)),tV⟩,[_,_],E,.inr ⟨HB.mk E,FB.mk E,Z⟩⟩⟩
  subst hgo
  exact gA 6 E<|Kgl E (dF (Int.lt_irrefl _))<|gA 4 E<|⟨_,E,⟨tV,[],E,.inl E⟩⟩
 intro a8 ha
 subst ha
 replace h7:=Kkf h7
 exact gA 7 E<|oSi h7▸gP E E
theorem Ldc{a:List Kxx}{b:List Kxx}{r:Bool}(h:Lbm a b=some r):Pure Tryz.prog 33 [.d (Sl Ldl a),.d (Sl Ldl b)] (B r):=by
 unfold Lbm at h
 exact QP Tryz.func33 E E E<|bK h fun y1 hy1 h2=>gA 9 E<|Khq C (Ldb hy1) E Z E E E E E<|gO 4 E<|oSi h2▸gP E E
theorem Ldd{k:Nat}{d:Kya}{r:Int}(h:Lbn k d=some r):Pure Tryz.prog 217 [.agg (fD d)] (I r):=by
 unfold Lbn at h
 refine QP Tryz.func217 E E E<|gA 2 E<|Krp E E E E Z<|gO 12 E<|jC E h (fun h1=>?_) fun h2=>bK h2 fun y3 hy3 h4=>gA 7 E<|Khq C (Lep hy3) E Z E E E E E<|gO 9 E<|jC E h4 (fun h5=>?_) fun h6=>?_
 ·exact gA 7 E<|oSi h1▸gP E E
 ·exact gA 8 E<|oSi h5▸gP E E
 refine gA 11 E<|jC E h6 (fun h7=>?_) fun h8=>gA 11 E<|bK h8 fun q12 hq12 h13=>Kgz 23 E fun hb15=>Kki (R:=fun a14=>q12=.go a14) (fun a14=>[(1,.ptr 0 0)]) (fun a14=>[.box 164 (fD d)]) ?_ ?_
 ·exact gA 7 E<|oSi h7▸gP E E
 ·refine gA 1 E<|Kgy d.Owners hq12 (fun i9 s10=>[(1,.ptr 0 0),(23,.d (Sl Ldn d.Owners)),(24,I (d.Owners.length:Int)),(25,I (i9:Int))]) (fun s10=>[.box 164 (fD d)]) ⟨⟨E,E,E,E,tV⟩,[],E,.inl E⟩ (fun i9 x11 s10 y19 hx16 hlt hy17 hout18=>?_) (fun s10 hgo=>?_)
  ·refine gA 6 E<|Kgk E (dT (Int.ofNat_lt.2 hlt))<|gA 7 E<|eo_o E (Kha hΓ (enc:=Ldn) (Kgt hx16) E E E E E (fun _=>E))<|gO 1 E<|Kro hΓ E E E Z<|gO 1 E<|Krt hΓ E E E E E E E E Z<|Khx [.box 164 (fD d),.box 161 [S x11.Tag,.d (Sl eS x11.Users)]] E<|bK hy17 fun y20 hy20 h21=>gO 7 E<|Khq C (Lek hy20) E Z E E E E E<|gO 3 E<|jC E h21 (fun h22=>?_) fun h25=>bK h25 fun q26 hq26 h27=>gA 4 E<|Kkj [(1,.ptr 0 0),(5,.ptr 1 0),(23,.d (Sl Ldn d.Owners)),(24,I (d.Owners.length:Int)),(25,I (i9:Int)),(47,B q26)] [.box 164 (fD d),.box 161 [S x11.Tag,.d (Sl eS x11.Users)]] ?_ ?_
   ·refine gA 9 E<|bK h22 fun v23 hv23 h24=>?_
    cases h24
    obtain rfl:=hout18 _ rfl
    cases h13
    exact gA 4 E<|oSi hv23▸gP E E
   ·refine jD<|gA 3 E<|Kez E E (fun hb=>?_) (fun hb=>?_)
    ·have h28:=cT hq26 hb
     exact bK h28 fun x29 hx29 h30=>Kgh hΓ 6 E<|Kft E E (Kha hΓ (enc:=Ldn) hx29 E E E E E (fun _=>E))<|Kgh hΓ 5 E<|oSi h30▸⟨⟨E,E,E,E,E,E,tV⟩,[],E,.inl E⟩
    have h31:=cF hq26 hb
    exact Kgh hΓ 12 E<|oSi h31▸⟨⟨E,E,E,E,E,E,tV⟩,[],E,.inl E⟩
   refine gA 1 E<|jC E h27 (fun h32=>?_) fun h35=>gA 10 E<|bK h35 fun q39 hq39 h40=>Kgz 49 E fun hb42=>Kki (R:=fun a41=>q39=.go a41) (fun a41=>[(1,.ptr 0 0),(23,.d (Sl Ldn d.Owners)),(24,I (d.Owners.length:Int)),(25,I (i9:Int))]) (fun a41=>[.box 164 (fD d),.box 161 [S x11.Tag,.d (Sl eS x11.Users)]]) ?_ ?_
   ·refine gA 9 E<|bK h32 fun v33 hv33 h34=>?_
    cases h34
    obtain rfl:=hout18 _ rfl
    cases h13
    exact gA 4 E<|oSi hv33▸gP E E
   ·refine gA 1 E<|Kgy x11.Users hq39 (fun i36 s37=>[(1,.ptr 0 0),(5,.ptr 1 0),(23,.d (Sl Ldn d.Owners)),(24,I (d.Owners.length:Int)),(25,I (i9:Int)),(49,.d (Sl eS x11.Users)),(50,I (x11.Users.length:Int)),(51,I (i36:Int))]) (fun s37=>[.box 164 (fD d),.box 161 [S x11.Tag,.d (Sl eS x11.Users)]]) ⟨⟨E,E,E,E,E,E,E,E,tV⟩,[],E,.inl E⟩ (fun i36 x38 s37 y46 hx43 hlt hy44 hout45=>?_) (fun s37 hgo=>?_)
    ·refine gA 6 E<|Kgk E (dT (Int.ofNat_lt.2 hlt))<|gA 7 E<|eo_o E (Kha hΓ (enc:=eS) (Kgt hx43) E E E E E (fun _=>E))<|bK hy44 fun y47 hy47 h48=>gO 11 E<|Khq C (Lci hy47) E Z E E E E E<|gO 3 E<|jC E h48 (fun h49=>?_) fun h54=>gA 7 E<|bK h54 fun q55 hq55 h56=>Kgp 9 [(1,.ptr 0 0),(5,.ptr 1 0),(23,.d (Sl Ldn d.Owners)),(24,I (d.Owners.length:Int)),(25,I (i9:Int)),(49,.d (Sl eS x11.Users)),(50,I (x11.Users.length:Int)),(51,I (i36:Int)),(72,B q55)] [.box 164 (fD d),.box 161 [S x11.Tag,.d (Sl eS x11.Users)]] ?_ ?_
     ·refine gA 9 E<|bK h49 fun v50 hv50 h51=>?_
      cases h51
      obtain rfl:=hout45 _ rfl
      cases h40
      refine gA 5 E<|bK hv50 fun v52 hv52 h53=>?_
      cases h53
      obtain rfl:=hout18 _ rfl
      cases h13
      exact gA 4 E<|oSi hv52▸gP E E
     ·refine Kqh E E (fun hb=>?_) (fun hb=>?_)
      ·have h57:=cT hq55 hb
       exact bK h57 fun x58 hx58 h59=>gO 5 E<|Kqf E<|eo_o E (Kha hΓ (enc:=eS) hx58 E E E E E (fun _=>E))<|gO 4 E<|oSi h59▸⟨⟨E,E,E,E,E,E,E,E,E,tV⟩,[],E,.inl E⟩
      have h60:=cF hq55 hb
      exact gO 10 E<|oSi h60▸⟨⟨E,E,E,E,E,E,E,E,E,tV⟩,[],E,.inl E⟩
     refine gO 2 E<|jC E h56 (fun h61=>?_) fun h66=>gA 7 E ?_
     ·refine gA 8 E<|bK h61 fun v62 hv62 h63=>?_
      cases h63
      obtain rfl:=hout45 _ rfl
      cases h40
      refine gA 5 E<|bK hv62 fun v64 hv64 h65=>?_
      cases h65
      obtain rfl:=hout18 _ rfl
      cases h13
      exact gA 4 E<|oSi hv64▸gP E E
     cases h66
     exact⟨_,E,⟨⟨E,E,E,E,E,E,E,Kfr E (Kfq (nLl hlt hb42)),tV⟩,[],E,.inl E⟩⟩
    subst hgo
    exact gA 6 E<|Kgl E (dF (Int.lt_irrefl _))<|gA 4 E<|⟨_,E,⟨⟨E,E,E,E,tV⟩,[],E,.inl E⟩⟩
   intro a41 ha
   subst ha
   replace h40:=Kkf h40
   refine gA 6 E ?_
   cases h40
   exact⟨_,E,⟨⟨E,E,E,Kfr E (Kfq (nLl hlt hb15)),tV⟩,[_],E,.inr ⟨HB.mk E,FB.mk E,Z⟩⟩⟩
  subst hgo
  exact gA 6 E<|Kgl E (dF (Int.lt_irrefl _))<|gA 4 E<|⟨_,E,⟨⟨E,tV⟩,[],E,.inl E⟩⟩
 intro a14 ha
 subst ha
 replace h13:=Kkf h13
 refine bK h13 fun y67 hy67 h68=>gA 6 E<|Khq C (Lel hy67) E Z E E E E E<|gO 2 E<|jC E h68 (fun h69=>?_) fun h70=>gA 8 E<|oSi h70▸gP E E
 exact gA 7 E<|oSi h69▸gP E E
theorem Lde{o:Kxz}{x:Str}{r:Bool}(h:Lbo o x=some r):EC Tryz.prog 284 [.agg [S o.Tag,.d (Sl eS o.Users)],.ptr 0 0] [.box 9 [S x]] fun g hp'=>g=B r∧hp'=[.box 9 [S x]]:=by
 unfold Lbo at h
 exact QN Tryz.func284 E Z<|gA 2 E<|Krp E E E E Z<|gO 13 E<|oSi h▸Kie hΓ [_] (.inr E) E E E E (.inr ⟨HB.mk E,E⟩)
theorem Ldf{s:List Kxz}{f:Str}{r:Int}(h:Lbp s f=some r):EC Tryz.prog 283 [.d (Sl Ldn s),.fn (.func 284) [] [.ptr 0 0]] [.box 9 [S f]] fun g hp'=>g=I r∧hp'=[.box 9 [S f]]:=by
 unfold Lbp at h
 refine QN Tryz.func283 E Z<|gA 13 E<|bK h fun q4 hq4 h5=>Kgz 0 E fun hb7=>Kki (R:=fun a6=>q4=.go a6) (fun a6=>[]) (fun a6=>[.box 9 [S f]]) ?_ ?_
 ·refine gA 1 E<|Kgy s hq4 (fun i1 s2=>[(0,.d (Sl Ldn s)),(1,.fn (.func 284) [] [.ptr 0 0]),(7,I (s.length:Int)),(8,I (i1:Int))]) (fun s2=>[.box 9 [S f]]) ⟨⟨E,E,E,E,tV⟩,[],E,.inl E⟩ (fun i1 x3 s2 y11 hx8 hlt hy9 hout10=>?_) (fun s2 hgo=>?_)
  ·refine gA 6 E<|Kgk E (dT (Int.ofNat_lt.2 hlt))<|gA 15 E<|eo_o E (Kha hΓ (enc:=Ldn) (Kgt hx8) E E E E E (fun _=>E))<|bK hy9 fun y12 hy12 h13=>gO 1 E<|Khp [0] (B y12) [.box 9 [S f]] C (Lde hy12) E Z E E E E E E E E E E<|gO 2 E<|jC E h13 (fun h14=>?_) fun h17=>gA 7 E ?_
   ·refine gA 9 E<|bK h14 fun v15 hv15 h16=>?_
    cases h16
    obtain rfl:=hout10 _ rfl
    cases h5
    exact gA 4 E<|oSi hv15▸Kie hΓ [] (.inr E) E E E E (.inl E)
   cases h17
   exact⟨_,E,⟨⟨E,E,E,Kfr E (Kfq (nLl hlt hb7)),tV⟩,[],E,.inl E⟩⟩
  subst hgo
  exact gA 6 E<|Kgl E (dF (Int.lt_irrefl _))<|gA 4 E<|⟨_,E,⟨tV,[],E,.inl E⟩⟩
 intro a6 ha
 subst ha
 replace h5:=Kkf h5
 exact gA 7 E<|oSi h5▸Kie hΓ [] (.inr E) E E E E (.inl E)
theorem Ldg{d:Kya}{user:Str}{tag:Str}{r:Bool×Bool}(h:Lbq d user tag=some r):Pure Tryz.prog 218 [.agg (fD d),S user,S tag] (.tup [B r.1,B r.2]):=by
 unfold Lbq at h
 refine QP Tryz.func218 E E E<|gA 2 E<|Krp E E E E Z<|Krp E E E E Z<|bK h fun y1 hy1 h2=>gO 9 E<|Khp [1] (I y1) [.box 164 (fD d),.box 9 [S tag]] C (Ldf hy1) E Z E E E E E E E E E E<|gO 8 E<|bK h2 fun q3 hq3 h4=>Kgp 9 [(6,B false),(7,B false),(8,I y1),(24,B q3)] [.box 164 (fD d),.box 9 [S tag]] ?_ ?_
 ·refine Kqh E E (fun hb=>?_) (fun hb=>?_)
  ·have h5:=cT hq3 hb
   exact bK h5 fun x6 hx6 h7=>gO 3 E<|Kqf E<|eo_o E (Kha hΓ (enc:=Ldn) hx6 E E E E E (fun _=>E))<|bK h7 fun y8 hy8 h9=>gO 3 E<|Kqf E<|Khq C (Lci hy8) E Z E E E E E<|gO 2 E<|oSi h9▸⟨⟨E,E,E,E,tV⟩,[],E,.inl E⟩
  have h10:=cF hq3 hb
  exact gO 10 E<|oSi h10▸⟨⟨E,E,E,E,tV⟩,[],E,.inl E⟩
 exact gO 7 E<|oSi h4▸gP E E
theorem Ldh{k:Nat}{d:Kya}{user:Str}{tag:Str}{r:Bool×Int}(h:Lbr k d user tag=some r):Pure Tryz.prog 122 [.agg (fD d),S user,S tag] (.tup [B r.1,I r.2]):=by
 unfold Lbr at h
 refine QP Tryz.func122 E E E<|gA 2 E<|Krp E E E E Z<|bK h fun y1 hy1 h2=>gO 8 E<|Khq C (Ldd hy1) E Z E E E E E<|gO 9 E<|Kgj E (fun hb=>?_) (fun hb=>?_)
 ·have h3:=cT h2 hb
  exact gA 9 E<|oSi h3▸gP E E
 have h4:=cF h2 hb
 refine bK h4 fun y5 hy5 h6=>gA 7 E<|Khq C (Ldg hy5) E Z E E E E E<|bK h6 fun y7 hy7 h8=>gO 13 E<|Khq C (Lci hy7) E Z E E E E E<|gO 2 E<|Kgp 3 [(9,B y5.1),(31,B ((!y7)||(!y5.2)))] [.box 164 (fD d)] ?_ ?_
 ·refine Kqh E E (fun hb=>?_) (fun hb=>?_)
  ·exact gO 4 E<|⟨⟨E,Kfs E (or_t hb),tV⟩,[],E,.inl E⟩
  exact gO 4 E<|⟨⟨E,Kfs E (or_f hb),tV⟩,[],E,.inl E⟩
 refine gO 2 E<|jC E h8 (fun h9=>?_) fun h10=>gA 10 E<|oSi h10▸gP E E
 exact gA 8 E<|oSi h9▸gP E E
theorem Ldi{k:Nat}{r:Bool}(h:Lbs k=some r):Pure Tryz.prog 34 [] (B r):=by
 unfold Lbs at h
 refine QP Tryz.func34 E E E<|gA 7 E<|Khl hΓ (enc:=eS) [[97]] E E E E E E E E E E E E Z<|Khl hΓ (enc:=eS) [[97]] E E E E E E E E E E E E Z<|Kep hΓ (gs:=[S [116],.d (Sl eS [[97]])]) E E E E E E E<|Khl hΓ (enc:=Ldn) [(⟨[116],[[97]]⟩:Kxz)] E E E E E E E E E E E E Z<|Kep hΓ (gs:=[.d (Sl eS [[97]]),.d (Sl Ldn [(⟨[116],[[97]]⟩:Kxz)]),I 1,B false]) E E E E E E E<|bK h fun y1 hy1 h2=>Khq C (Ldh hy1) E Z E E E E E<|gO 12 E<|Kgp 2 [(0,B false),(16,B (((y1.2:Int)==0)&&y1.1))] [] ?_ ?_
 ·refine Kqh E E (fun hb=>?_) (fun hb=>?_)
  ·exact gO 3 E<|⟨⟨E,Kfs E (Kij hb),tV⟩,[],E,.inl E⟩
  exact gO 3 E<|⟨⟨E,Kfs E (Kik hb),tV⟩,[],E,.inl E⟩
 exact gO 4 E<|oSi h2▸gP E E
theorem Ldj{k:Nat}{l:List Int}{r:Bool}(h:Lbt k l=some r):Pure Tryz.prog 5 [.d (Sl (eN .i64) l)] (B r):=by
 unfold Lbt at h
 refine QP Tryz.func5 E E E<|gA 8 E<|Kep hΓ (gs:=[.d (Sl (eN .i64) l),I 0]) E E E E E E E<|Krp E E E E Z<|bK h fun y1 hy1 h2=>gO 7 E<|Khp [0] (I y1.1) [.box 25 (fQ y1.2)] C (Ldr hy1) E Z E E E E E E E E E E<|bK h2 fun y3 hy3 h4=>Khp [0] (.sl 1 y3.1.length) [.box 25 (fQ y3.2),rO 139 13 Ldl y3.1] C (Lei hy3) E Z E E E E E E E E E E<|Khw 1 [21] _ [.box 25 (fQ y3.2),.dead] E E E Z<|bK h4 fun y5 hy5 h6=>gO 6 E<|Khq C (Lfg hy5) E Z E E E E E<|bK h6 fun y7 hy7 h8=>gO 11 E<|Khq C (Lby hy7) E Z E E E E E<|gO 9 E<|bK h8 fun q9 hq9 h10=>Kgp 9 [(3,.ptr 0 0),(5,S y5.1),(7,I y7),(41,B q9)] [.box 25 (fQ y3.2),.dead] ?_ ?_
 ·refine Kqh E E (fun hb=>?_) (fun hb=>?_)
  ·have h11:=cT hq9 hb
   exact gO 10 E<|oSi h11▸⟨⟨E,E,E,E,tV⟩,[],E,.inl E⟩
  have h12:=cF hq9 hb
  refine gO 3 E<|bK h12 fun q13 hq13 h14=>Kgp 5 [(3,.ptr 0 0),(5,S y5.1),(7,I y7),(32,B false),(40,B q13)] [.box 25 (fQ y3.2),.dead] ?_ ?_
  ·refine Kqh E E (fun hb=>?_) (fun hb=>?_)
   ·have h15:=cT hq13 hb
    exact bK h15 fun y16 hy16 h17=>gO 2 E<|Kqf E<|Khq C (Lcc hy16) E Z E E E E E<|gO 3 E<|oSi h17▸⟨⟨E,E,E,E,E,tV⟩,[],E,.inl E⟩
   have h18:=cF hq13 hb
   exact gO 6 E<|oSi h18▸⟨⟨E,E,E,E,E,tV⟩,[],E,.inl E⟩
  exact gO 2 E<|oSi h14▸⟨⟨E,E,E,E,tV⟩,[],E,.inl E⟩
 refine gO 1 E<|Kgp 7 [(3,.ptr 0 0),(49,B (q9||(((y7:Int) != 0)&&(!((y5.1:Str)==[])))))] [.box 25 (fQ y3.2),.dead] ?_ ?_
 ·refine Kqh E E (fun hb=>?_) (fun hb=>?_)
  ·exact gO 8 E<|⟨⟨E,Kfs E (or_t hb),tV⟩,[],E,.inl E⟩
  refine gO 3 E<|Kgp 3 [(3,.ptr 0 0),(42,B false),(48,B (((y7:Int) != 0)&&(!((y5.1:Str)==[]))))] [.box 25 (fQ y3.2),.dead] ?_ ?_
  ·refine Kqh E E (fun hb=>?_) (fun hb=>?_)
   ·exact gO 4 E<|⟨⟨E,E,Kfs E (Kij hb),tV⟩,[],E,.inl E⟩
   exact gO 4 E<|⟨⟨E,E,Kfs E (Kik hb),tV⟩,[],E,.inl E⟩
  exact gO 2 E<|⟨⟨E,Kfs E (or_f hb),tV⟩,[],E,.inl E⟩
 refine gO 2 E<|Kgj E (fun hb=>?_) (fun hb=>?_)
 ·have h19:=cT h10 hb
  exact gA 7 E<|oSi h19▸gP E E
 have h20:=cF h10 hb
 refine bK h20 fun y21 hy21 h22=>gA 5 E<|Khp [0] (S y21.1) [.box 25 (fQ y21.2),.dead] C (Lcf hy21) E Z E E E E E E E E E E<|bK h22 fun y23 hy23 h24=>gO 6 E<|Khq C (Lcq hy23) E Z E E E E E<|bK h24 fun y25 hy25 h26=>gO 12 E<|Khq C (Lcy hy25) E Z E E E E E<|gO 15 E<|Kgp 4 [(9,.d (Sl Ldl y23.1)),(12,.d (Sl Ldl y25.1)),(71,B (((y23.2.2:Int)==y25.2.2)&&((y23.2.1:Int)==y25.2.1)))] [.box 25 (fQ y21.2),.dead] ?_ ?_
 ·refine Kqh E E (fun hb=>?_) (fun hb=>?_)
  ·exact gO 5 E<|⟨⟨E,E,Kfs E (Kij hb),tV⟩,[],E,.inl E⟩
  exact gO 5 E<|⟨⟨E,E,Kfs E (Kik hb),tV⟩,[],E,.inl E⟩
 refine gO 1 E<|bK h26 fun q27 hq27 h28=>Kgp 4 [(76,B q27)] [.box 25 (fQ y21.2),.dead] ?_ ?_
 ·refine Kqh E E (fun hb=>?_) (fun hb=>?_)
  ·have h29:=cT hq27 hb
   exact bK h29 fun y30 hy30 h31=>gO 2 E<|Kqf E<|Khq C (Ldc hy30) E Z E E E E E<|gO 2 E<|oSi h31▸⟨⟨E,tV⟩,[],E,.inl E⟩
  have h32:=cF hq27 hb
  exact gO 5 E<|oSi h32▸⟨⟨E,tV⟩,[],E,.inl E⟩
 refine gO 1 E<|bK h28 fun q33 hq33 h34=>Kgp 2 [(79,B q33)] [.box 25 (fQ y21.2),.dead] ?_ ?_
 ·refine Kqh E E (fun hb=>?_) (fun hb=>?_)
  ·have h35:=cT hq33 hb
   exact bK h35 fun y36 hy36 h37=>Kqf E<|Khq C (Ldi hy36) E Z E E E E E<|gO 2 E<|oSi h37▸⟨⟨E,tV⟩,[],E,.inl E⟩
  have h38:=cF hq33 hb
  exact gO 3 E<|oSi h38▸⟨⟨E,tV⟩,[],E,.inl E⟩
 exact gO 4 E<|oSi h34▸gP E E
end Go.Proofs.YtfnjahjbpaoepaaGreatDoor
