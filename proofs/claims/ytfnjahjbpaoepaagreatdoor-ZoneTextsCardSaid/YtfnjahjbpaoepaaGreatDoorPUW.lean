import Derived.Test.YtfnjahjbpaoepaaGreatDoorPUM
import Derived.Test.YtfnjahjbpaoepaaGreatDoorGt
import Derived.Test.YtfnjahjbpaoepaaGreatDoorGk58
set_option maxHeartbeats 8000000
set_option linter.all false
set_option maxRecDepth 100000
namespace Go.Proofs.YtfnjahjbpaoepaaGreatDoor
open Go.Gk
theorem Kum{c:Int}{r:Int}(h:Kuj c=some r):Pure Tryz.prog 364 [.d (.v (.int .u8 c))] (.d (.v (.int .u8 r))):=by
 refine Pure.enter (Fr.of 0 _) Tryz.func364 rfl (Fr.of_ok _) rfl rfl ?_
 refine Kcq ?_
 unfold Kuj at h
 refine go hΓ 13 rfl ?_
 obtain rfl:=Option.some.inj h
 exact Kem hΓ (.inr rfl) rfl rfl
theorem Kun{k:Nat}{s:Str}{r:Bool}(h:Kuk k s=some r):Pure Tryz.prog 365 [S s] (B r):=by
 refine Pure.enter (Fr.of 0 _) Tryz.func365 rfl (Fr.of_ok _) rfl rfl ?_
 refine Kcq ?_
 unfold Kuk at h
 refine go hΓ 22 rfl ?_
 obtain⟨q1,hq1,h2⟩:=Kcy h
 refine Kcx 9 [(0,S s),(3,.d (.v (.int .i32 94))),(4,I 0),(18,B q1)] [] ?_ ?_
 ·refine Klc rfl rfl (fun hb=>?_) (fun hb=>?_)
  ·have h3:=cT hq1 hb
   obtain⟨c4,hc4,h5⟩:=Kcy h3
   refine Kco hΓ 1 rfl ?_
   refine Kla rfl ?_
   refine eo_o rfl (Kdj hΓ hc4 rfl rfl rfl rfl) ?_
   refine Kco hΓ 2 rfl ?_
   obtain⟨q6,hq6,h7⟩:=Kcy h5
   refine Kcx 4 [(0,S s),(3,.d (.v (.int .i32 94))),(4,I 0),(9,B true),(17,B q6)] [] ?_ ?_
   ·refine Klc rfl rfl (fun hb=>?_) (fun hb=>?_)
    ·have h8:=cT hq6 hb
     refine Kco hΓ 5 rfl ?_
     obtain rfl:=Option.some.inj h8
     exact⟨⟨rfl,rfl,rfl,rfl,rfl,trivial⟩,[],rfl,.inl rfl⟩
    have h9:=cF hq6 hb
    obtain⟨c10,hc10,h11⟩:=Kcy h9
    refine Kco hΓ 1 rfl ?_
    refine Kla rfl ?_
    refine eo_o rfl (Kdj hΓ hc10 rfl rfl rfl rfl) ?_
    refine Kco hΓ 3 rfl ?_
    obtain rfl:=Option.some.inj h11
    exact⟨⟨rfl,rfl,rfl,rfl,rfl,trivial⟩,[],rfl,.inl rfl⟩
   refine Kco hΓ 2 rfl ?_
   obtain rfl:=Option.some.inj h7
   exact⟨⟨rfl,rfl,rfl,rfl,trivial⟩,[],rfl,.inl rfl⟩
  have h12:=cF hq1 hb
  refine Kco hΓ 10 rfl ?_
  obtain rfl:=Option.some.inj h12
  exact⟨⟨rfl,rfl,rfl,rfl,trivial⟩,[],rfl,.inl rfl⟩
 obtain⟨q13,hq13,h14⟩:=Kcy h2
 refine Kco hΓ 2 rfl ?_
 refine Khe [(0,S q13),(3,.d (.v (.int .i32 94))),(4,I 0)] [] ?_ ?_
 ·refine Kcr rfl (fun hb=>?_) (fun hb=>?_)
  ·have h15:=cT hq13 hb
   obtain⟨z16,hz16,h17⟩:=Kcy h15
   refine go hΓ 2 rfl ?_
   refine eo_o rfl (Kdl hΓ hz16 rfl rfl rfl rfl rfl) ?_
   refine Kco hΓ 2 rfl ?_
   obtain rfl:=Option.some.inj h17
   exact⟨⟨rfl,rfl,rfl,trivial⟩,[],rfl,.inl rfl⟩
  have h18:=cF hq13 hb
  refine go hΓ 1 rfl ?_
  obtain rfl:=Option.some.inj h18
  exact⟨⟨rfl,rfl,rfl,trivial⟩,[],rfl,.inl rfl⟩
 refine go hΓ 13 rfl ?_
 obtain⟨q19,hq19,h20⟩:=Kcy h14
 refine Kcx 4 [(0,S q13),(3,.d (.v (.int .i32 94))),(4,I 0),(5,B false),(28,B q19)] [] ?_ ?_
 ·refine Klc rfl rfl (fun hb=>?_) (fun hb=>?_)
  ·have h21:=cT hq19 hb
   obtain⟨c22,hc22,h23⟩:=Kcy h21
   refine Kco hΓ 1 rfl ?_
   refine Kla rfl ?_
   refine eo_o rfl (Kdj hΓ hc22 rfl rfl rfl rfl) ?_
   refine Kco hΓ 3 rfl ?_
   obtain rfl:=Option.some.inj h23
   exact⟨⟨rfl,rfl,rfl,rfl,rfl,trivial⟩,[],rfl,.inl rfl⟩
  have h24:=cF hq19 hb
  refine Kco hΓ 5 rfl ?_
  obtain rfl:=Option.some.inj h24
  exact⟨⟨rfl,rfl,rfl,rfl,rfl,trivial⟩,[],rfl,.inl rfl⟩
 refine Kco hΓ 1 rfl ?_
 obtain⟨q25,hq25,h26⟩:=Kcy h20
 refine Kcx 17 [(0,S q13),(3,.d (.v (.int .i32 94))),(4,I 0),(5,B false),(46,B q25)] [] ?_ ?_
 ·refine Klc rfl rfl (fun hb=>?_) (fun hb=>?_)
  ·have h27:=cT hq25 hb
   obtain⟨c28,hc28,h29⟩:=Kcy h27
   refine Kco hΓ 1 rfl ?_
   refine Kla rfl ?_
   refine eo_o rfl (Kdj hΓ hc28 rfl rfl rfl rfl) ?_
   obtain⟨y30,hy30,h31⟩:=Kcy h29
   refine Kla rfl ?_
   refine Kdy (Lhm Tryz.func364 rfl rfl) (Kum hy30) rfl (Nat.le_of_ble_eq_true rfl) rfl rfl rfl rfl rfl ?_
   refine Kco hΓ 2 rfl ?_
   obtain⟨q32,hq32,h33⟩:=Kcy h31
   refine Kcx 5 [(0,S q13),(3,.d (.v (.int .i32 94))),(4,I 0),(5,B false),(29,B true),(39,B q32)] [] ?_ ?_
   ·refine Klc rfl rfl (fun hb=>?_) (fun hb=>?_)
    ·have h34:=cT hq32 hb
     refine Kco hΓ 6 rfl ?_
     obtain rfl:=Option.some.inj h34
     exact⟨⟨rfl,rfl,rfl,rfl,rfl,rfl,trivial⟩,[],rfl,.inl rfl⟩
    have h35:=cF hq32 hb
    obtain⟨c36,hc36,h37⟩:=Kcy h35
    refine Kco hΓ 1 rfl ?_
    refine Kla rfl ?_
    refine eo_o rfl (Kdj hΓ hc36 rfl rfl rfl rfl) ?_
    obtain⟨y38,hy38,h39⟩:=Kcy h37
    refine Kla rfl ?_
    refine Kdy (Lhm Tryz.func364 rfl rfl) (Kum hy38) rfl (Nat.le_of_ble_eq_true rfl) rfl rfl rfl rfl rfl ?_
    refine Kco hΓ 3 rfl ?_
    obtain rfl:=Option.some.inj h39
    exact⟨⟨rfl,rfl,rfl,rfl,rfl,rfl,trivial⟩,[],rfl,.inl rfl⟩
   refine Kco hΓ 1 rfl ?_
   obtain⟨q40,hq40,h41⟩:=Kcy h33
   refine Kcx 5 [(0,S q13),(3,.d (.v (.int .i32 94))),(4,I 0),(5,B false),(29,B true),(45,B q40)] [] ?_ ?_
   ·refine Klc rfl rfl (fun hb=>?_) (fun hb=>?_)
    ·have h42:=cT hq40 hb
     refine Kco hΓ 6 rfl ?_
     obtain rfl:=Option.some.inj h42
     exact⟨⟨rfl,rfl,rfl,rfl,rfl,rfl,trivial⟩,[],rfl,.inl rfl⟩
    have h43:=cF hq40 hb
    obtain⟨c44,hc44,h45⟩:=Kcy h43
    refine Kco hΓ 1 rfl ?_
    refine Kla rfl ?_
    refine eo_o rfl (Kdj hΓ hc44 rfl rfl rfl rfl) ?_
    obtain⟨y46,hy46,h47⟩:=Kcy h45
    refine Kla rfl ?_
    refine Kdy (Lhm Tryz.func364 rfl rfl) (Kum hy46) rfl (Nat.le_of_ble_eq_true rfl) rfl rfl rfl rfl rfl ?_
    refine Kco hΓ 3 rfl ?_
    obtain rfl:=Option.some.inj h47
    exact⟨⟨rfl,rfl,rfl,rfl,rfl,rfl,trivial⟩,[],rfl,.inl rfl⟩
   refine Kco hΓ 2 rfl ?_
   obtain rfl:=Option.some.inj h41
   exact⟨⟨rfl,rfl,rfl,rfl,rfl,trivial⟩,[],rfl,.inl rfl⟩
  have h48:=cF hq25 hb
  refine Kco hΓ 18 rfl ?_
  obtain rfl:=Option.some.inj h48
  exact⟨⟨rfl,rfl,rfl,rfl,rfl,trivial⟩,[],rfl,.inl rfl⟩
 obtain⟨q49,hq49,h50⟩:=Kcy h26
 refine Kco hΓ 2 rfl ?_
 refine Khe [(0,S q13),(3,.d (.v (.int .i32 q49.1))),(4,I q49.2.1),(5,B q49.2.2)] [] ?_ ?_
 ·refine Kcr rfl (fun hb=>?_) (fun hb=>?_)
  ·have h51:=cT hq49 hb
   obtain⟨c52,hc52,h53⟩:=Kcy h51
   refine go hΓ 12 rfl ?_
   refine eo_o rfl (Kdj hΓ hc52 rfl rfl rfl rfl) ?_
   obtain⟨y54,hy54,h55⟩:=Kcy h53
   refine Kdy (Lhm Tryz.func364 rfl rfl) (Kum hy54) rfl (Nat.le_of_ble_eq_true rfl) rfl rfl rfl rfl rfl ?_
   refine Kco hΓ 3 rfl ?_
   obtain rfl:=Option.some.inj h55
   exact⟨⟨rfl,rfl,rfl,rfl,trivial⟩,[],rfl,.inl rfl⟩
  have h56:=cF hq49 hb
  refine go hΓ 1 rfl ?_
  obtain rfl:=Option.some.inj h56
  exact⟨⟨rfl,rfl,rfl,rfl,trivial⟩,[],rfl,.inl rfl⟩
 refine go hΓ 2 rfl ?_
 obtain⟨q60,hq60,h61⟩:=Kcy h50
 refine Khd (R:=fun a62=>q60=.inl a62) (fun a62=>[(3,.d (.v (.int .i32 a62)))]) (fun a62=>[]) ?_ ?_
 ·refine go hΓ 1 rfl ?_
  refine Kde hq60 (fun s58=>[(0,S q13),(3,.d (.v (.int .i32 s58.1))),(4,I s58.2),(5,B q49.2.2)]) (fun s58=>[]) ⟨⟨rfl,rfl,rfl,rfl,trivial⟩,[],rfl,.inl rfl⟩ (fun s58 y66 hy64 hout65=>?_)
  refine go hΓ 9 rfl ?_
  refine Kcr rfl (fun hb=>?_) (fun hb=>?_)
  ·have h67:=cT hy64 hb
   obtain⟨c68,hc68,h69⟩:=Kcy h67
   refine go hΓ 9 rfl ?_
   refine eo_o rfl (Kdj hΓ hc68 rfl rfl rfl rfl) ?_
   refine Kco hΓ 2 rfl ?_
   obtain⟨q70,hq70,h71⟩:=Kcy h69
   refine Kcx 5 [(0,S q13),(3,.d (.v (.int .i32 s58.1))),(4,I s58.2),(5,B q49.2.2),(66,B q70)] [] ?_ ?_
   ·refine Klc rfl rfl (fun hb=>?_) (fun hb=>?_)
    ·have h72:=cT hq70 hb
     obtain⟨c73,hc73,h74⟩:=Kcy h72
     refine Kco hΓ 2 rfl ?_
     refine Kla rfl ?_
     refine eo_o rfl (Kdj hΓ hc73 rfl rfl rfl rfl) ?_
     refine Kco hΓ 3 rfl ?_
     obtain rfl:=Option.some.inj h74
     exact⟨⟨rfl,rfl,rfl,rfl,rfl,trivial⟩,[],rfl,.inl rfl⟩
    have h75:=cF hq70 hb
    refine Kco hΓ 6 rfl ?_
    obtain rfl:=Option.some.inj h75
    exact⟨⟨rfl,rfl,rfl,rfl,rfl,trivial⟩,[],rfl,.inl rfl⟩
   refine Kco hΓ 1 rfl ?_
   obtain⟨q76,hq76,h77⟩:=Kcy h71
   refine Kcx 16 [(0,S q13),(3,.d (.v (.int .i32 s58.1))),(4,I s58.2),(5,B q49.2.2),(83,B q76)] [] ?_ ?_
   ·refine Klc rfl rfl (fun hb=>?_) (fun hb=>?_)
    ·have h78:=cT hq76 hb
     refine Kco hΓ 17 rfl ?_
     obtain rfl:=Option.some.inj h78
     exact⟨⟨rfl,rfl,rfl,rfl,rfl,trivial⟩,[],rfl,.inl rfl⟩
    have h79:=cF hq76 hb
    refine Kco hΓ 2 rfl ?_
    obtain⟨q80,hq80,h81⟩:=Kcy h79
    refine Kcx 6 [(0,S q13),(3,.d (.v (.int .i32 s58.1))),(4,I s58.2),(5,B q49.2.2),(67,B false),(75,B q80)] [] ?_ ?_
    ·refine Klc rfl rfl (fun hb=>?_) (fun hb=>?_)
     ·have h82:=cT hq80 hb
      obtain⟨c83,hc83,h84⟩:=Kcy h82
      refine Kco hΓ 2 rfl ?_
      refine Kla rfl ?_
      refine eo_o rfl (Kdj hΓ hc83 rfl rfl rfl rfl) ?_
      obtain⟨y85,hy85,h86⟩:=Kcy h84
      refine Kla rfl ?_
      refine Kdy (Lhm Tryz.func364 rfl rfl) (Kum hy85) rfl (Nat.le_of_ble_eq_true rfl) rfl rfl rfl rfl rfl ?_
      refine Kco hΓ 3 rfl ?_
      obtain rfl:=Option.some.inj h86
      exact⟨⟨rfl,rfl,rfl,rfl,rfl,rfl,trivial⟩,[],rfl,.inl rfl⟩
     have h87:=cF hq80 hb
     refine Kco hΓ 7 rfl ?_
     obtain rfl:=Option.some.inj h87
     exact⟨⟨rfl,rfl,rfl,rfl,rfl,rfl,trivial⟩,[],rfl,.inl rfl⟩
    refine Kco hΓ 1 rfl ?_
    obtain⟨q88,hq88,h89⟩:=Kcy h81
    refine Kcx 6 [(0,S q13),(3,.d (.v (.int .i32 s58.1))),(4,I s58.2),(5,B q49.2.2),(67,B false),(82,B q88)] [] ?_ ?_
    ·refine Klc rfl rfl (fun hb=>?_) (fun hb=>?_)
     ·have h90:=cT hq88 hb
      obtain⟨c91,hc91,h92⟩:=Kcy h90
      refine Kco hΓ 2 rfl ?_
      refine Kla rfl ?_
      refine eo_o rfl (Kdj hΓ hc91 rfl rfl rfl rfl) ?_
      obtain⟨y93,hy93,h94⟩:=Kcy h92
      refine Kla rfl ?_
      refine Kdy (Lhm Tryz.func364 rfl rfl) (Kum hy93) rfl (Nat.le_of_ble_eq_true rfl) rfl rfl rfl rfl rfl ?_
      refine Kco hΓ 3 rfl ?_
      obtain rfl:=Option.some.inj h94
      exact⟨⟨rfl,rfl,rfl,rfl,rfl,rfl,trivial⟩,[],rfl,.inl rfl⟩
     have h95:=cF hq88 hb
     refine Kco hΓ 7 rfl ?_
     obtain rfl:=Option.some.inj h95
     exact⟨⟨rfl,rfl,rfl,rfl,rfl,rfl,trivial⟩,[],rfl,.inl rfl⟩
    refine Kco hΓ 2 rfl ?_
    obtain rfl:=Option.some.inj h89
    exact⟨⟨rfl,rfl,rfl,rfl,rfl,trivial⟩,[],rfl,.inl rfl⟩
   refine Kco hΓ 2 rfl ?_
   refine Kcr rfl (fun hb=>?_) (fun hb=>?_)
   ·have h96:=cT h77 hb
    refine go hΓ 14 rfl ?_
    obtain rfl:=Option.some.inj h96
    exact⟨_,rfl,⟨⟨rfl,rfl,rfl,rfl,trivial⟩,[],rfl,.inl rfl⟩⟩
   have h97:=cF h77 hb
   obtain⟨c98,hc98,h99⟩:=Kcy h97
   refine go hΓ 7 rfl ?_
   refine eo_o rfl (Kdj hΓ hc98 rfl rfl rfl rfl) ?_
   refine Kco hΓ 3 rfl ?_
   refine Kcr rfl (fun hb=>?_) (fun hb=>?_)
   ·have h100:=cT h99 hb
    refine go hΓ 7 rfl ?_
    refine Kcr rfl (fun hb=>?_) (fun hb=>?_)
    ·have h101:=cT h100 hb
     refine go hΓ 10 rfl ?_
     obtain⟨v102,hv102,h103⟩:=Kcy h101
     obtain rfl:=Option.some.inj h103
     obtain rfl:=hout65 _ rfl
     obtain rfl:=Option.some.inj h61
     refine go hΓ 4 rfl ?_
     obtain rfl:=Option.some.inj hv102
     exact Kem hΓ (.inr rfl) rfl rfl
    have h104:=cF h100 hb
    refine go hΓ 16 rfl ?_
    obtain rfl:=Option.some.inj h104
    exact⟨_,rfl,⟨⟨rfl,rfl,rfl,rfl,trivial⟩,[],rfl,.inl rfl⟩⟩
   have h105:=cF h99 hb
   refine go hΓ 9 rfl ?_
   refine Kcr rfl (fun hb=>?_) (fun hb=>?_)
   ·have h106:=cT h105 hb
    refine go hΓ 9 rfl ?_
    obtain⟨v107,hv107,h108⟩:=Kcy h106
    obtain rfl:=Option.some.inj h108
    obtain rfl:=hout65 _ rfl
    obtain rfl:=Option.some.inj h61
    refine go hΓ 4 rfl ?_
    obtain rfl:=Option.some.inj hv107
    exact Kem hΓ (.inr rfl) rfl rfl
   have h109:=cF h105 hb
   refine go hΓ 12 rfl ?_
   obtain rfl:=Option.some.inj h109
   exact⟨_,rfl,⟨⟨rfl,rfl,rfl,rfl,trivial⟩,[],rfl,.inl rfl⟩⟩
  have h110:=cF hy64 hb
  refine go hΓ 4 rfl ?_
  obtain rfl:=Option.some.inj h110
  obtain rfl:=hout65 _ rfl
  exact⟨_,rfl,⟨⟨rfl,trivial⟩,[],rfl,.inl rfl⟩⟩
 intro a62 ha
 subst ha
 replace h61:=Kgx h61
 refine go hΓ 9 rfl ?_
 obtain rfl:=Option.some.inj h61
 exact Kem hΓ (.inr rfl) rfl rfl
theorem Kuo{k:Nat}{s:Str}{base:Int}{bitSize:Int}{r:Int×Value}(h:Kul k s base bitSize=some r):Pure Tryz.prog 350 [S s,I base,I bitSize] (.tup [U r.1,.d (.v r.2)]):=by
 refine Pure.enter (Fr.of 0 _) Tryz.func350 rfl (Fr.of_ok _) rfl rfl ?_
 refine Kcq ?_
 unfold Kul at h
 refine go hΓ 13 rfl ?_
 refine Kcr rfl (fun hb=>?_) (fun hb=>?_)
 ·have h1:=cT h hb
  refine go hΓ 2 rfl ?_
  refine eo_o rfl (Kiw hΓ rfl rfl rfl) ?_
  refine Kco hΓ 6 rfl ?_
  obtain rfl:=Option.some.inj h1
  exact Kem hΓ (.inr rfl) rfl rfl
 have h2:=cF h hb
 obtain⟨q3,hq3,h4⟩:=Kcy h2
 refine go hΓ 16 rfl ?_
 refine Khf (q:=q3) (fun a5=>[(0,S a5.1),(1,I a5.2),(2,I bitSize),(8,B ((base:Int)==0)),(9,S s)]) (fun a5=>[]) ?_ ?_
 ·refine go hΓ 6 rfl ?_
  refine Kcx 3 [(0,S s),(1,I base),(2,I bitSize),(8,B ((base:Int)==0)),(9,S s),(31,B ((decide ((2:Int)≤base))&&(decide ((base:Int)≤36))))] [] ?_ ?_
  ·refine Klc rfl rfl (fun hb=>?_) (fun hb=>?_)
   ·refine Kco hΓ 4 rfl ?_
    exact⟨⟨rfl,rfl,rfl,rfl,rfl,Kby rfl (Ket hb),trivial⟩,[],rfl,.inl rfl⟩
   refine Kco hΓ 4 rfl ?_
   exact⟨⟨rfl,rfl,rfl,rfl,rfl,Kby rfl (Keu hb),trivial⟩,[],rfl,.inl rfl⟩
  refine Kco hΓ 3 rfl ?_
  refine Kcr rfl (fun hb=>?_) (fun hb=>?_)
  ·have h6:=cT hq3 hb
   refine go hΓ 2 rfl ?_
   obtain rfl:=Option.some.inj h6
   exact⟨_,rfl,⟨⟨rfl,rfl,rfl,rfl,rfl,trivial⟩,[],rfl,.inl rfl⟩⟩
  have h7:=cF hq3 hb
  refine go hΓ 7 rfl ?_
  refine Kcr rfl (fun hb=>?_) (fun hb=>?_)
  ·have h8:=cT h7 hb
   obtain⟨c9,hc9,h10⟩:=Kcy h8
   refine go hΓ 8 rfl ?_
   refine eo_o rfl (Kdj hΓ hc9 rfl rfl rfl rfl) ?_
   refine Kco hΓ 3 rfl ?_
   refine Kcr rfl (fun hb=>?_) (fun hb=>?_)
   ·have h11:=cT h10 hb
    refine go hΓ 7 rfl ?_
    obtain⟨q12,hq12,h13⟩:=Kcy h11
    refine Kcx 5 [(0,S s),(2,I bitSize),(8,B ((base:Int)==0)),(9,S s),(49,B q12)] [] ?_ ?_
    ·refine Klc rfl rfl (fun hb=>?_) (fun hb=>?_)
     ·have h14:=cT hq12 hb
      obtain⟨c15,hc15,h16⟩:=Kcy h14
      refine Kco hΓ 1 rfl ?_
      refine Kla rfl ?_
      refine eo_o rfl (Kdj hΓ hc15 rfl rfl rfl rfl) ?_
      obtain⟨y17,hy17,h18⟩:=Kcy h16
      refine Kla rfl ?_
      refine Kdy (Lhm Tryz.func364 rfl rfl) (Kum hy17) rfl (Nat.le_of_ble_eq_true rfl) rfl rfl rfl rfl rfl ?_
      refine Kco hΓ 3 rfl ?_
      obtain rfl:=Option.some.inj h18
      exact⟨⟨rfl,rfl,rfl,rfl,rfl,trivial⟩,[],rfl,.inl rfl⟩
     have h19:=cF hq12 hb
     refine Kco hΓ 6 rfl ?_
     obtain rfl:=Option.some.inj h19
     exact⟨⟨rfl,rfl,rfl,rfl,rfl,trivial⟩,[],rfl,.inl rfl⟩
    refine Kco hΓ 3 rfl ?_
    refine Kcr rfl (fun hb=>?_) (fun hb=>?_)
    ·have h20:=cT h13 hb
     obtain⟨z21,hz21,h22⟩:=Kcy h20
     refine go hΓ 7 rfl ?_
     refine eo_o rfl (Kdl hΓ hz21 rfl rfl rfl rfl rfl) ?_
     refine Kco hΓ 4 rfl ?_
     obtain rfl:=Option.some.inj h22
     exact⟨_,rfl,⟨⟨rfl,rfl,rfl,rfl,rfl,trivial⟩,[],rfl,.inl rfl⟩⟩
    have h23:=cF h13 hb
    refine go hΓ 6 rfl ?_
    obtain⟨q24,hq24,h25⟩:=Kcy h23
    refine Kcx 5 [(0,S s),(2,I bitSize),(8,B ((base:Int)==0)),(9,S s),(61,B q24)] [] ?_ ?_
    ·refine Klc rfl rfl (fun hb=>?_) (fun hb=>?_)
     ·have h26:=cT hq24 hb
      obtain⟨c27,hc27,h28⟩:=Kcy h26
      refine Kco hΓ 1 rfl ?_
      refine Kla rfl ?_
      refine eo_o rfl (Kdj hΓ hc27 rfl rfl rfl rfl) ?_
      obtain⟨y29,hy29,h30⟩:=Kcy h28
      refine Kla rfl ?_
      refine Kdy (Lhm Tryz.func364 rfl rfl) (Kum hy29) rfl (Nat.le_of_ble_eq_true rfl) rfl rfl rfl rfl rfl ?_
      refine Kco hΓ 3 rfl ?_
      obtain rfl:=Option.some.inj h30
      exact⟨⟨rfl,rfl,rfl,rfl,rfl,trivial⟩,[],rfl,.inl rfl⟩
     have h31:=cF hq24 hb
     refine Kco hΓ 6 rfl ?_
     obtain rfl:=Option.some.inj h31
     exact⟨⟨rfl,rfl,rfl,rfl,rfl,trivial⟩,[],rfl,.inl rfl⟩
    refine Kco hΓ 3 rfl ?_
    refine Kcr rfl (fun hb=>?_) (fun hb=>?_)
    ·have h32:=cT h25 hb
     obtain⟨z33,hz33,h34⟩:=Kcy h32
     refine go hΓ 7 rfl ?_
     refine eo_o rfl (Kdl hΓ hz33 rfl rfl rfl rfl rfl) ?_
     refine Kco hΓ 4 rfl ?_
     obtain rfl:=Option.some.inj h34
     exact⟨_,rfl,⟨⟨rfl,rfl,rfl,rfl,rfl,trivial⟩,[],rfl,.inl rfl⟩⟩
    have h35:=cF h25 hb
    refine go hΓ 6 rfl ?_
    obtain⟨q36,hq36,h37⟩:=Kcy h35
    refine Kcx 5 [(0,S s),(2,I bitSize),(8,B ((base:Int)==0)),(9,S s),(73,B q36)] [] ?_ ?_
    ·refine Klc rfl rfl (fun hb=>?_) (fun hb=>?_)
     ·have h38:=cT hq36 hb
      obtain⟨c39,hc39,h40⟩:=Kcy h38
      refine Kco hΓ 1 rfl ?_
      refine Kla rfl ?_
      refine eo_o rfl (Kdj hΓ hc39 rfl rfl rfl rfl) ?_
      obtain⟨y41,hy41,h42⟩:=Kcy h40
      refine Kla rfl ?_
      refine Kdy (Lhm Tryz.func364 rfl rfl) (Kum hy41) rfl (Nat.le_of_ble_eq_true rfl) rfl rfl rfl rfl rfl ?_
      refine Kco hΓ 3 rfl ?_
      obtain rfl:=Option.some.inj h42
      exact⟨⟨rfl,rfl,rfl,rfl,rfl,trivial⟩,[],rfl,.inl rfl⟩
     have h43:=cF hq36 hb
     refine Kco hΓ 6 rfl ?_
     obtain rfl:=Option.some.inj h43
     exact⟨⟨rfl,rfl,rfl,rfl,rfl,trivial⟩,[],rfl,.inl rfl⟩
    refine Kco hΓ 3 rfl ?_
    refine Kcr rfl (fun hb=>?_) (fun hb=>?_)
    ·have h44:=cT h37 hb
     obtain⟨z45,hz45,h46⟩:=Kcy h44
     refine go hΓ 7 rfl ?_
     refine eo_o rfl (Kdl hΓ hz45 rfl rfl rfl rfl rfl) ?_
     refine Kco hΓ 4 rfl ?_
     obtain rfl:=Option.some.inj h46
     exact⟨_,rfl,⟨⟨rfl,rfl,rfl,rfl,rfl,trivial⟩,[],rfl,.inl rfl⟩⟩
    have h47:=cF h37 hb
    obtain⟨z48,hz48,h49⟩:=Kcy h47
    refine go hΓ 7 rfl ?_
    refine eo_o rfl (Kdl hΓ hz48 rfl rfl rfl rfl rfl) ?_
    refine Kco hΓ 4 rfl ?_
    obtain rfl:=Option.some.inj h49
    exact⟨_,rfl,⟨⟨rfl,rfl,rfl,rfl,rfl,trivial⟩,[],rfl,.inl rfl⟩⟩
   have h50:=cF h10 hb
   refine go hΓ 2 rfl ?_
   obtain rfl:=Option.some.inj h50
   exact⟨_,rfl,⟨⟨rfl,rfl,rfl,rfl,rfl,trivial⟩,[],rfl,.inl rfl⟩⟩
  have h51:=cF h7 hb
  refine go hΓ 2 rfl ?_
  refine eo_o rfl (Kiw hΓ rfl rfl rfl) ?_
  refine Kco hΓ 6 rfl ?_
  obtain⟨v52,hv52,h53⟩:=Kcy h51
  obtain rfl:=Option.some.inj h53
  obtain rfl:=Option.some.inj h4
  refine go hΓ 2 rfl ?_
  obtain rfl:=Option.some.inj hv52
  exact Kem hΓ (.inr rfl) rfl rfl
 intro a5 ha
 subst ha
 replace h4:=Kgx h4
 obtain⟨q54,hq54,h55⟩:=Kcy h4
 refine go hΓ 8 rfl ?_
 refine Khf (q:=q54) (fun a56=>[(0,S a5.1),(1,I a5.2),(2,I a56),(8,B ((base:Int)==0)),(9,S s)]) (fun a56=>[]) ?_ ?_
 ·refine Kcr rfl (fun hb=>?_) (fun hb=>?_)
  ·have h57:=cT hq54 hb
   refine go hΓ 3 rfl ?_
   obtain rfl:=Option.some.inj h57
   exact⟨_,rfl,⟨⟨rfl,rfl,rfl,rfl,rfl,trivial⟩,[],rfl,.inl rfl⟩⟩
  have h58:=cF hq54 hb
  refine go hΓ 5 rfl ?_
  refine Kcx 3 [(0,S a5.1),(1,I a5.2),(2,I bitSize),(8,B ((base:Int)==0)),(9,S s),(83,B ((decide ((bitSize:Int)<0))||(decide ((bitSize:Int)>64))))] [] ?_ ?_
  ·refine Klc rfl rfl (fun hb=>?_) (fun hb=>?_)
   ·refine Kco hΓ 4 rfl ?_
    exact⟨⟨rfl,rfl,rfl,rfl,rfl,Kby rfl (or_t hb),trivial⟩,[],rfl,.inl rfl⟩
   refine Kco hΓ 4 rfl ?_
   exact⟨⟨rfl,rfl,rfl,rfl,rfl,Kby rfl (or_f hb),trivial⟩,[],rfl,.inl rfl⟩
  refine Kco hΓ 2 rfl ?_
  refine Kcr rfl (fun hb=>?_) (fun hb=>?_)
  ·have h59:=cT h58 hb
   refine go hΓ 2 rfl ?_
   refine eo_o rfl (Kiw hΓ rfl rfl rfl) ?_
   refine Kco hΓ 5 rfl ?_
   obtain⟨v60,hv60,h61⟩:=Kcy h59
   obtain rfl:=Option.some.inj h61
   obtain rfl:=Option.some.inj h55
   refine go hΓ 2 rfl ?_
   obtain rfl:=Option.some.inj hv60
   exact Kem hΓ (.inr rfl) rfl rfl
  have h62:=cF h58 hb
  refine go hΓ 1 rfl ?_
  obtain rfl:=Option.some.inj h62
  exact⟨_,rfl,⟨⟨rfl,rfl,rfl,rfl,rfl,trivial⟩,[],rfl,.inl rfl⟩⟩
 intro a56 ha
 subst ha
 replace h55:=Kgx h55
 obtain⟨q63,hq63,h64⟩:=Kcy h55
 refine go hΓ 12 rfl ?_
 refine Khe [(0,S a5.1),(1,I a5.2),(2,I a56),(8,B ((base:Int)==0)),(9,S s),(10,U q63)] [] ?_ ?_
 ·refine go hΓ 7 rfl ?_
  refine Kcr rfl (fun hb=>?_) (fun hb=>?_)
  ·have h65:=cT hq63 hb
   refine go hΓ 4 rfl ?_
   obtain rfl:=Option.some.inj h65
   exact⟨⟨rfl,rfl,rfl,rfl,rfl,rfl,trivial⟩,[],rfl,.inl rfl⟩
  have h66:=cF hq63 hb
  refine go hΓ 6 rfl ?_
  refine Kcr rfl (fun hb=>?_) (fun hb=>?_)
  ·have h67:=cT h66 hb
   refine go hΓ 4 rfl ?_
   obtain rfl:=Option.some.inj h67
   exact⟨⟨rfl,rfl,rfl,rfl,rfl,rfl,trivial⟩,[],rfl,.inl rfl⟩
  have h68:=cF h66 hb
  obtain⟨y69,hy69,h70⟩:=Kcy h68
  refine go hΓ 3 rfl ?_
  refine eo_o rfl (Kek hy69 rfl rfl) ?_
  refine Kco hΓ 4 rfl ?_
  obtain rfl:=Option.some.inj h70
  exact⟨⟨rfl,rfl,rfl,rfl,rfl,rfl,trivial⟩,[],rfl,.inl rfl⟩
 obtain⟨y71,hy71,h72⟩:=Kcy h64
 refine go hΓ 5 rfl ?_
 refine eo_o rfl (Kez hy71 rfl rfl) ?_
 obtain⟨y73,hy73,h74⟩:=Kcy h72
 refine Kco hΓ 18 rfl ?_
 refine eo_s (Nat.le_of_ble_eq_true rfl) (nblt.1 rfl) (Kjc hΓ hy73 rfl rfl rfl rfl rfl rfl rfl) ?_
 refine Kco hΓ 4 rfl ?_
 obtain⟨q78,hq78,h79⟩:=Kcy h74
 refine Kdh 99 rfl fun hb81=>?_
 refine Khd (R:=fun a80=>q78=.go a80) (fun a80=>[(9,S s),(12,B a80.1),(13,U a80.2)]) (fun a80=>[]) ?_ ?_
 ·refine go hΓ 1 rfl ?_
  refine Kdg y73 hq78 (fun i75 s76=>[(1,I a5.2),(8,B ((base:Int)==0)),(9,S s),(10,U q63),(11,U (IntKind.u64.wrap (y71 - 1))),(12,B s76.1),(13,U s76.2),(99,.d (Sl (eN .u8) y73)),(100,I (y73.length:Int)),(101,I (i75:Int))]) (fun s76=>[]) ⟨⟨rfl,rfl,rfl,rfl,rfl,rfl,rfl,rfl,rfl,rfl,trivial⟩,[],rfl,.inl rfl⟩ (fun i75 x77 s76 y85 hx82 hlt hy83 hout84=>?_) (fun s76 hgo=>?_)
  ·refine go hΓ 6 rfl ?_
   refine Kcs rfl (decide_eq_true (Int.ofNat_lt.2 hlt)) ?_
   refine go hΓ 6 rfl ?_
   refine eo_o rfl (Kdi hΓ (enc:=(eN .u8)) (Kdb hx82) rfl rfl rfl rfl rfl (fun _=>rfl)) ?_
   obtain⟨q86,hq86,h87⟩:=Kcy hy83
   refine Kco hΓ 10 rfl ?_
   refine Khf (q:=q86) (fun a88=>[(1,I a5.2),(8,B ((base:Int)==0)),(9,S s),(10,U q63),(11,U (IntKind.u64.wrap (y71 - 1))),(12,B s76.1),(13,U s76.2),(16,.d (.v (.int .u8 a88))),(99,.d (Sl (eN .u8) y73)),(100,I (y73.length:Int)),(101,I (i75:Int))]) (fun a88=>[]) ?_ ?_
   ·refine go hΓ 6 rfl ?_
    refine Kcx 2 [(1,I a5.2),(8,B ((base:Int)==0)),(9,S s),(10,U q63),(11,U (IntKind.u64.wrap (y71 - 1))),(12,B s76.1),(13,U s76.2),(15,.d (.v (.int .u8 x77))),(99,.d (Sl (eN .u8) y73)),(100,I (y73.length:Int)),(101,I (i75:Int)),(111,B (((x77:Int)==95)&&((base:Int)==0)))] [] ?_ ?_
    ·refine Klc rfl rfl (fun hb=>?_) (fun hb=>?_)
     ·refine Kco hΓ 3 rfl ?_
      exact⟨⟨rfl,rfl,rfl,rfl,rfl,rfl,rfl,rfl,rfl,rfl,rfl,Kby rfl (Ket hb),trivial⟩,[],rfl,.inl rfl⟩
     refine Kco hΓ 3 rfl ?_
     exact⟨⟨rfl,rfl,rfl,rfl,rfl,rfl,rfl,rfl,rfl,rfl,rfl,Kby rfl (Keu hb),trivial⟩,[],rfl,.inl rfl⟩
    refine Kco hΓ 3 rfl ?_
    refine Kcr rfl (fun hb=>?_) (fun hb=>?_)
    ·have h89:=cT hq86 hb
     refine go hΓ 7 rfl ?_
     obtain⟨v90,hv90,h91⟩:=Kcy h89
     obtain rfl:=Option.some.inj h91
     obtain rfl:=Option.some.inj h87
     refine go hΓ 8 rfl ?_
     obtain rfl:=Option.some.inj hv90
     exact⟨_,rfl,⟨⟨rfl,rfl,rfl,rfl,rfl,rfl,rfl,rfl,rfl,Kbx rfl (Kbw (Nat.lt_of_lt_of_le hlt hb81)),trivial⟩,[],rfl,.inl rfl⟩⟩
    have h92:=cF hq86 hb
    refine go hΓ 5 rfl ?_
    refine Kcx 3 [(1,I a5.2),(8,B ((base:Int)==0)),(9,S s),(10,U q63),(11,U (IntKind.u64.wrap (y71 - 1))),(12,B s76.1),(13,U s76.2),(15,.d (.v (.int .u8 x77))),(99,.d (Sl (eN .u8) y73)),(100,I (y73.length:Int)),(101,I (i75:Int)),(118,B ((decide ((48:Int)≤x77))&&(decide ((x77:Int)≤57))))] [] ?_ ?_
    ·refine Klc rfl rfl (fun hb=>?_) (fun hb=>?_)
     ·refine Kco hΓ 4 rfl ?_
      exact⟨⟨rfl,rfl,rfl,rfl,rfl,rfl,rfl,rfl,rfl,rfl,rfl,Kby rfl (Ket hb),trivial⟩,[],rfl,.inl rfl⟩
     refine Kco hΓ 4 rfl ?_
     exact⟨⟨rfl,rfl,rfl,rfl,rfl,rfl,rfl,rfl,rfl,rfl,rfl,Kby rfl (Keu hb),trivial⟩,[],rfl,.inl rfl⟩
    refine Kco hΓ 3 rfl ?_
    refine Kcr rfl (fun hb=>?_) (fun hb=>?_)
    ·have h93:=cT h92 hb
     refine go hΓ 6 rfl ?_
     obtain rfl:=Option.some.inj h93
     exact⟨_,rfl,⟨⟨rfl,rfl,rfl,rfl,rfl,rfl,rfl,rfl,rfl,rfl,rfl,trivial⟩,[],rfl,.inl rfl⟩⟩
    have h94:=cF h92 hb
    obtain⟨y95,hy95,h96⟩:=Kcy h94
    refine go hΓ 3 rfl ?_
    refine Kdy (Lhm Tryz.func364 rfl rfl) (Kum hy95) rfl (Nat.le_of_ble_eq_true rfl) rfl rfl rfl rfl rfl ?_
    refine Kco hΓ 2 rfl ?_
    obtain⟨q97,hq97,h98⟩:=Kcy h96
    refine Kcx 4 [(1,I a5.2),(8,B ((base:Int)==0)),(9,S s),(10,U q63),(11,U (IntKind.u64.wrap (y71 - 1))),(12,B s76.1),(13,U s76.2),(15,.d (.v (.int .u8 x77))),(99,.d (Sl (eN .u8) y73)),(100,I (y73.length:Int)),(101,I (i75:Int)),(129,B q97)] [] ?_ ?_
    ·refine Klc rfl rfl (fun hb=>?_) (fun hb=>?_)
     ·have h99:=cT hq97 hb
      obtain⟨y100,hy100,h101⟩:=Kcy h99
      refine Kco hΓ 1 rfl ?_
      refine Kla rfl ?_
      refine Kdy (Lhm Tryz.func364 rfl rfl) (Kum hy100) rfl (Nat.le_of_ble_eq_true rfl) rfl rfl rfl rfl rfl ?_
      refine Kco hΓ 3 rfl ?_
      obtain rfl:=Option.some.inj h101
      exact⟨⟨rfl,rfl,rfl,rfl,rfl,rfl,rfl,rfl,rfl,rfl,rfl,rfl,trivial⟩,[],rfl,.inl rfl⟩
     have h102:=cF hq97 hb
     refine Kco hΓ 5 rfl ?_
     obtain rfl:=Option.some.inj h102
     exact⟨⟨rfl,rfl,rfl,rfl,rfl,rfl,rfl,rfl,rfl,rfl,rfl,rfl,trivial⟩,[],rfl,.inl rfl⟩
    refine Kco hΓ 3 rfl ?_
    refine Kcr rfl (fun hb=>?_) (fun hb=>?_)
    ·have h103:=cT h98 hb
     obtain⟨y104,hy104,h105⟩:=Kcy h103
     refine go hΓ 2 rfl ?_
     refine Kdy (Lhm Tryz.func364 rfl rfl) (Kum hy104) rfl (Nat.le_of_ble_eq_true rfl) rfl rfl rfl rfl rfl ?_
     refine Kco hΓ 5 rfl ?_
     obtain rfl:=Option.some.inj h105
     exact⟨_,rfl,⟨⟨rfl,rfl,rfl,rfl,rfl,rfl,rfl,rfl,rfl,rfl,rfl,trivial⟩,[],rfl,.inl rfl⟩⟩
    have h106:=cF h98 hb
    refine go hΓ 2 rfl ?_
    refine eo_o rfl (Kiw hΓ rfl rfl rfl) ?_
    refine Kco hΓ 6 rfl ?_
    obtain⟨v107,hv107,h108⟩:=Kcy h106
    obtain rfl:=Option.some.inj h108
    obtain rfl:=Option.some.inj h87
    refine go hΓ 4 rfl ?_
    obtain⟨v109,hv109,h110⟩:=Kcy hv107
    obtain rfl:=Option.some.inj h110
    obtain rfl:=hout84 _ rfl
    obtain rfl:=Option.some.inj h79
    refine go hΓ 4 rfl ?_
    obtain rfl:=Option.some.inj hv109
    exact Kem hΓ (.inr rfl) rfl rfl
   intro a88 ha
   subst ha
   replace h87:=Kgx h87
   refine go hΓ 10 rfl ?_
   refine Kcr rfl (fun hb=>?_) (fun hb=>?_)
   ·have h111:=cT h87 hb
    refine go hΓ 2 rfl ?_
    refine eo_o rfl (Kiw hΓ rfl rfl rfl) ?_
    refine Kco hΓ 8 rfl ?_
    obtain⟨v112,hv112,h113⟩:=Kcy h111
    obtain rfl:=Option.some.inj h113
    obtain rfl:=hout84 _ rfl
    obtain rfl:=Option.some.inj h79
    refine go hΓ 4 rfl ?_
    obtain rfl:=Option.some.inj hv112
    exact Kem hΓ (.inr rfl) rfl rfl
   have h114:=cF h87 hb
   refine go hΓ 10 rfl ?_
   refine Kcr rfl (fun hb=>?_) (fun hb=>?_)
   ·have h115:=cT h114 hb
    refine go hΓ 3 rfl ?_
    refine eo_o rfl (Kiw hΓ rfl rfl rfl) ?_
    refine Kco hΓ 8 rfl ?_
    obtain⟨v116,hv116,h117⟩:=Kcy h115
    obtain rfl:=Option.some.inj h117
    obtain rfl:=hout84 _ rfl
    obtain rfl:=Option.some.inj h79
    refine go hΓ 4 rfl ?_
    obtain rfl:=Option.some.inj hv116
    exact Kem hΓ (.inr rfl) rfl rfl
   have h118:=cF h114 hb
   refine go hΓ 27 rfl ?_
   refine Kcx 4 [(1,I a5.2),(8,B ((base:Int)==0)),(9,S s),(10,U q63),(11,U (IntKind.u64.wrap (y71 - 1))),(12,B s76.1),(17,U (IntKind.u64.wrap ((IntKind.u64.wrap (s76.2 * (IntKind.u64.wrap (a5.2))))+(IntKind.u64.wrap (a88))))),(99,.d (Sl (eN .u8) y73)),(100,I (y73.length:Int)),(101,I (i75:Int)),(159,B ((decide ((IntKind.u64.wrap ((IntKind.u64.wrap (s76.2 * (IntKind.u64.wrap (a5.2))))+(IntKind.u64.wrap (a88))):Int)<(IntKind.u64.wrap (s76.2 * (IntKind.u64.wrap (a5.2))))))||(decide ((IntKind.u64.wrap ((IntKind.u64.wrap (s76.2 * (IntKind.u64.wrap (a5.2))))+(IntKind.u64.wrap (a88))):Int)>(IntKind.u64.wrap (y71 - 1))))))] [] ?_ ?_
   ·refine Klc rfl rfl (fun hb=>?_) (fun hb=>?_)
    ·refine Kco hΓ 5 rfl ?_
     exact⟨⟨rfl,rfl,rfl,rfl,rfl,rfl,rfl,rfl,rfl,rfl,Kby rfl (or_t hb),trivial⟩,[],rfl,.inl rfl⟩
    refine Kco hΓ 5 rfl ?_
    exact⟨⟨rfl,rfl,rfl,rfl,rfl,rfl,rfl,rfl,rfl,rfl,Kby rfl (or_f hb),trivial⟩,[],rfl,.inl rfl⟩
   refine Kco hΓ 2 rfl ?_
   refine Kcr rfl (fun hb=>?_) (fun hb=>?_)
   ·have h119:=cT h118 hb
    refine go hΓ 3 rfl ?_
    refine eo_o rfl (Kiw hΓ rfl rfl rfl) ?_
    refine Kco hΓ 8 rfl ?_
    obtain⟨v120,hv120,h121⟩:=Kcy h119
    obtain rfl:=Option.some.inj h121
    obtain rfl:=hout84 _ rfl
    obtain rfl:=Option.some.inj h79
    refine go hΓ 4 rfl ?_
    obtain rfl:=Option.some.inj hv120
    exact Kem hΓ (.inr rfl) rfl rfl
   have h122:=cF h118 hb
   refine go hΓ 12 rfl ?_
   obtain rfl:=Option.some.inj h122
   exact⟨_,rfl,⟨⟨rfl,rfl,rfl,rfl,rfl,rfl,rfl,rfl,rfl,Kbx rfl (Kbw (Nat.lt_of_lt_of_le hlt hb81)),trivial⟩,[],rfl,.inl rfl⟩⟩
  subst hgo
  refine go hΓ 6 rfl ?_
  refine Kct rfl (decide_eq_false (Int.lt_irrefl _)) ?_
  refine go hΓ 4 rfl ?_
  exact⟨_,rfl,⟨⟨rfl,rfl,rfl,trivial⟩,[],rfl,.inl rfl⟩⟩
 intro a80 ha
 subst ha
 replace h79:=Kgy h79
 refine go hΓ 6 rfl ?_
 obtain⟨q123,hq123,h124⟩:=Kcy h79
 refine Kcx 4 [(13,U a80.2),(169,B q123)] [] ?_ ?_
 ·refine Klc rfl rfl (fun hb=>?_) (fun hb=>?_)
  ·have h125:=cT hq123 hb
   obtain⟨y126,hy126,h127⟩:=Kcy h125
   refine Kco hΓ 1 rfl ?_
   refine Kla rfl ?_
   refine Kdy (Lhm Tryz.func365 rfl rfl) (Kun hy126) rfl (Nat.le_of_ble_eq_true rfl) rfl rfl rfl rfl rfl ?_
   refine Kco hΓ 3 rfl ?_
   obtain rfl:=Option.some.inj h127
   exact⟨⟨rfl,rfl,trivial⟩,[],rfl,.inl rfl⟩
  have h128:=cF hq123 hb
  refine Kco hΓ 5 rfl ?_
  obtain rfl:=Option.some.inj h128
  exact⟨⟨rfl,rfl,trivial⟩,[],rfl,.inl rfl⟩
 refine Kco hΓ 2 rfl ?_
 refine Kcr rfl (fun hb=>?_) (fun hb=>?_)
 ·have h129:=cT h124 hb
  refine go hΓ 2 rfl ?_
  refine eo_o rfl (Kiw hΓ rfl rfl rfl) ?_
  refine Kco hΓ 6 rfl ?_
  obtain rfl:=Option.some.inj h129
  exact Kem hΓ (.inr rfl) rfl rfl
 have h130:=cF h124 hb
 refine go hΓ 10 rfl ?_
 obtain rfl:=Option.some.inj h130
 exact Kem hΓ (.inr rfl) rfl rfl
end Go.Proofs.YtfnjahjbpaoepaaGreatDoor
