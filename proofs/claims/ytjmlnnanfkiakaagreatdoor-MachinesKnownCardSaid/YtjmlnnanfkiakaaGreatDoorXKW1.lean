import Derived.Test.YtjmlnnanfkiakaaGreatDoorXKM
import Derived.Test.YtjmlnnanfkiakaaGreatDoorGt
import Derived.Test.YtjmlnnanfkiakaaGreatDoorStrS
import Derived.Test.YtjmlnnanfkiakaaGreatDoorStrK
set_option maxHeartbeats 8000000
set_option linter.all false
set_option maxRecDepth 100000
namespace Go.Proofs.YtjmlnnanfkiakaaGreatDoor
open Go.Gk
abbrev Lii(x:Lbv):List D:=[Sl (eN .i64) x.L,.v (.int .i64 x.v_at)]
abbrev Lij(x:Lbw):List D:=[.v (.string ⟨x.Tag.toArray⟩),Sl eS x.Users]
abbrev Lik(x:Lbx):List D:=[Sl eS x.Users,Sl Lij x.Owners,.v (.int .i64 x.Life),.v (.bool x.Approve)]
abbrev Lil(x:Lby):List D:=[.v (.int .i64 x.At),.v (.string ⟨x.Server.toArray⟩),.v (.int .i64 x.No),.v (.int .i64 x.Kind),.v (.string ⟨x.By.toArray⟩),.v (.string ⟨x.Node.toArray⟩),.v (.string ⟨x.Join.toArray⟩),.v (.string ⟨x.Public.toArray⟩),.v (.string ⟨x.Name.toArray⟩),Sl eS x.Tags,.v (.int .i64 x.Until),.v (.int .i64 x.Uses),.v (.bool x.Ready)]
abbrev Lim(x:Lbz):List D:=[Sl eS x.d.Users,Sl Lij x.d.Owners,.v (.int .i64 x.d.Life),.v (.bool x.d.Approve),Sl Lil x.l,.v (.int .i64 x.fault)]
abbrev Lin(x:Lca):List D:=[.v (.string ⟨x.server.toArray⟩),.v (.int .i64 x.no)]
abbrev Lio(x:Lcb):List D:=[.v (.string ⟨x.Node.toArray⟩),.v (.string ⟨x.User.toArray⟩),.v (.string ⟨x.Name.toArray⟩),.v (.string ⟨x.Public.toArray⟩),Sl eS x.Tags,.v (.int .i64 x.Joined),.v (.int .i64 x.Expires),.v (.bool x.Approved)]
abbrev Lip(x:Lcc):List D:=[.v (.int .i64 x.v_at),.v (.string ⟨x.is.Node.toArray⟩),.v (.string ⟨x.is.User.toArray⟩),.v (.string ⟨x.is.Name.toArray⟩),.v (.string ⟨x.is.Public.toArray⟩),Sl eS x.is.Tags,.v (.int .i64 x.is.Joined),.v (.int .i64 x.is.Expires),.v (.bool x.is.Approved),.v (.bool x.gone),.v (.bool x.key)]
abbrev Liq(x:Lce):List D:=[.v (.string ⟨x.Key.toArray⟩),.v (.string ⟨x.By.toArray⟩),Sl eS x.Tags,.v (.int .i64 x.Until),.v (.int .i64 x.Left),.v (.bool x.Ready)]
abbrev Lir(x:Lcf):List D:=[.v (.string ⟨x.Join.Key.toArray⟩),.v (.string ⟨x.Join.By.toArray⟩),Sl eS x.Join.Tags,.v (.int .i64 x.Join.Until),.v (.int .i64 x.Join.Left),.v (.bool x.Join.Ready),.v (.bool x.revoked),.v (.int .i64 x.used)]
abbrev Lis(x:Lch):List D:=[.v (.int .i64 x.Step),.v (.int .i64 x.Why)]
abbrev Liu(x:Lci):List D:=[.v (.string ⟨x.Join.Key.toArray⟩),.v (.string ⟨x.Join.By.toArray⟩),Sl eS x.Join.Tags,.v (.int .i64 x.Join.Until),.v (.int .i64 x.Join.Left),.v (.bool x.Join.Ready),.v (.bool x.revoked),.v (.int .i64 x.used)]
abbrev Liv(x:Lcj):List D:=[.v (.string ⟨x.Public.toArray⟩),.v (.int .i64 x.From),.v (.int .i64 x.To)]
abbrev arX(l0:List (Nat×Lcf))(l1:List (Nat×(List Lcj)))(l2:List (Nat×Lcb))(l3:List (Nat×Lci))(l4:List (Nat×Str)):List Ar:=arG (fB 215 Lir) l0++(arG (fR 107 3 Liv) l1++(arG (fB 77 Lio) l2++(arG (fB 227 Liu) l3++(arG (fB 9 eS) l4))))
abbrev mObH(m:List (Str×Nat)):Ob:=mOb kS false (eH (some 0)) m
abbrev mObM(m:List (Str×Lcb)):Ob:=mOb kS true Lio m
abbrev mObT(m:List (Str×Tl Lcc)):Ob:=mOb kS false (eT 233 11 Lip) m
abbrev mObB(m:List (Str×Bool)):Ob:=mOb kS false eB m
abbrev mObV(m:List (Str×Vl)):Ob:=mOb kS false (eV 107 3) m
abbrev fM(m:Lcb):List G:=[S m.Node,S m.User,S m.Name,S m.Public,.d (Sl eS m.Tags),I m.Joined,I m.Expires,B m.Approved]
abbrev rO{α:Type}(t:TypeId)(z:Nat)(e:α→List D)(l:List α):Ob:=.row t z l.length (l.flatMap e)
abbrev fS(s:Lby):List G:=[I s.At,S s.Server,I s.No,I s.Kind,S s.By,S s.Node,S s.Join,S s.Public,S s.Name,.d (Sl eS s.Tags),I s.Until,I s.Uses,B s.Ready]
abbrev fD(d:Lbx):List G:=[.d (Sl eS d.Users),.d (Sl Lij d.Owners),I d.Life,B d.Approve]
abbrev fQ(s:Lbv):List G:=[.d (Sl (eN .i64) s.L),I s.v_at]
abbrev bg(al:BagT):Ob:=.bag al.1 (arX al.2.1 al.2.2.1 al.2.2.2.1 al.2.2.2.2.1 al.2.2.2.2.2) []
theorem Lkp:KeyP Tryz.prog 150 (kD Lin):=Knq hΓ [150] Lin (show Γ 150=some ⟨.struct _,_,_,_⟩ from rfl) (by kernel_rfl) (fun _=>rfl) (fun _=>rfl) (fun a b=>by
  show some (((a.server==b.server)&&((a.no==b.no)&&true)))=some (a==b)
  refine congrArg some ?_
  rw[Bool.eq_iff_iff]
  cases a;cases b;simp[Bool.and_eq_true]) (fun a b h=>by simpa using h) (fun a=>by simp) (fun a=>by simp[Instr.sameBits,kD,Lin,Knm])
theorem Liw{x:Int}{n:Int}{r:Int}(h:Lck x n=some r):Pure Tryz.prog 101 [I x,I n] (I r):=by
 refine Pure.enter (Fr.of 0 _) Tryz.func101 rfl (Fr.of_ok _) rfl rfl ?_
 refine Kfo ?_
 unfold Lck at h
 refine go hΓ 12 rfl ?_
 refine Kfp rfl (fun hb=>?_) (fun hb=>?_)
 ·have h1:=cT h hb
  refine go hΓ 7 rfl ?_
  obtain rfl:=oSi h1
  exact Khi hΓ (.inr rfl) rfl rfl
 have h2:=cF h hb
 obtain⟨y3,hy3,h4⟩:=Kfw h2
 refine go hΓ 6 rfl ?_
 refine eo_o rfl (Khh hy3 rfl rfl) ?_
 obtain⟨q5,hq5,h6⟩:=Kfw h4
 refine Kfm hΓ 10 rfl ?_
 refine Kjr [(0,I q5)] [] ?_ ?_
 ·refine Kfp rfl (fun hb=>?_) (fun hb=>?_)
  ·have h7:=cT hq5 hb
   refine go hΓ 6 rfl ?_
   obtain rfl:=oSi h7
   exact⟨⟨rfl,tV⟩,[],rfl,.inl rfl⟩
  have h8:=cF hq5 hb
  refine go hΓ 1 rfl ?_
  obtain rfl:=oSi h8
  exact⟨⟨rfl,tV⟩,[],rfl,.inl rfl⟩
 refine go hΓ 8 rfl ?_
 obtain rfl:=oSi h6
 exact Khi hΓ (.inr rfl) rfl rfl
theorem Lix{s:Lbv}{n:Int}{r:Int×Lbv}(h:Lcl s n=some r):EC Tryz.prog 26 [.ptr 0 0,I n] [.box 25 (fQ s)] fun g hp'=>g=I r.1∧hp'=[.box 25 (fQ r.2)]:=by
 refine Krb (Fr.of 0 _) Tryz.func26 rfl (Fr.of_ok _) (nBe rfl) fun _=>?_
 refine Kfo ?_
 unfold Lcl at h
 refine go hΓ 14 rfl ?_
 refine Ksu hΓ rfl rfl rfl rfl rfl rfl rfl rfl (nBe rfl) ?_
 refine Khe [.box 25 [.d (Sl (eN .i64) s.L),I (wi (s.v_at+1))]] rfl ?_
 refine Kfm hΓ 13 rfl ?_
 refine Kfp rfl (fun hb=>?_) (fun hb=>?_)
 ·have h1:=cT h hb
  obtain⟨y2,hy2,h3⟩:=Kfw h1
  refine go hΓ 8 rfl ?_
  refine Kgx (Lml Tryz.func101 rfl rfl) (Liw hy2) rfl (nBe rfl) rfl rfl rfl rfl rfl ?_
  refine Kfm hΓ 5 rfl ?_
  obtain rfl:=oSi h3
  exact Khj hΓ [] (.inr rfl) rfl rfl rfl rfl (.inl rfl)
 have h4:=cF h hb
 refine go hΓ 3 rfl ?_
 refine Kfs hmix (by kernel_rfl) ?_
 obtain⟨y5,hy5,h6⟩:=Kfw h4
 refine go hΓ 10 rfl ?_
 refine gl_o rfl (Khh hy5 rfl rfl) ?_
 refine Kfn hΓ 4 rfl ?_
 refine Kfs hmix (by kernel_rfl) ?_
 obtain⟨y7,hy7,h8⟩:=Kfw h6
 refine go hΓ 10 rfl ?_
 refine gl_o rfl (Khg hy7 rfl rfl) ?_
 obtain⟨x9,hx9,h10⟩:=Kfw h8
 refine Kfn hΓ 10 rfl ?_
 refine eo_o rfl (Kgg hΓ (enc:=(eN .i64)) hx9 rfl rfl rfl rfl rfl (fun _=>rfl)) ?_
 obtain⟨y11,hy11,h12⟩:=Kfw h10
 refine Kfm hΓ 1 rfl ?_
 refine Kgx (Lml Tryz.func101 rfl rfl) (Liw hy11) rfl (nBe rfl) rfl rfl rfl rfl rfl ?_
 obtain⟨y13,hy13,h14⟩:=Kfw h12
 refine Kfm hΓ 6 rfl ?_
 refine Kgx (Lml Tryz.func101 rfl rfl) (Liw hy13) rfl (nBe rfl) rfl rfl rfl rfl rfl ?_
 refine Kfm hΓ 4 rfl ?_
 obtain rfl:=oSi h14
 exact Khj hΓ [] (.inr rfl) rfl rfl rfl rfl (.inl rfl)
theorem Liy{s:Lbv}{low:Int}{high:Int}{r:Int×Lbv}(h:Lcm s low high=some r):EC Tryz.prog 11 [.ptr 0 0,I low,I high] [.box 25 (fQ s)] fun g hp'=>g=I r.1∧hp'=[.box 25 (fQ r.2)]:=by
 refine Krb (Fr.of 0 _) Tryz.func11 rfl (Fr.of_ok _) (nBe rfl) fun _=>?_
 refine Kfo ?_
 unfold Lcm at h
 refine go hΓ 13 rfl ?_
 refine Kfp rfl (fun hb=>?_) (fun hb=>?_)
 ·have h1:=cT h hb
  refine go hΓ 8 rfl ?_
  obtain rfl:=oSi h1
  exact Khj hΓ [] (.inr rfl) rfl rfl rfl rfl (.inl rfl)
 have h2:=cF h hb
 obtain⟨y3,hy3,h4⟩:=Kfw h2
 refine go hΓ 10 rfl ?_
 refine Kgw [0] (I y3.1) [.box 25 (fQ y3.2)] (Lml Tryz.func26 rfl rfl) (Lix hy3) rfl (nBe rfl) rfl rfl rfl rfl rfl rfl rfl rfl rfl rfl ?_
 refine Kfm hΓ 5 rfl ?_
 obtain rfl:=oSi h4
 exact Khj hΓ [] (.inr rfl) rfl rfl rfl rfl (.inl rfl)
theorem Liz{s:Lbv}{l:List Int}{r:Int×Lbv}(h:Lcn s l=some r):EC Tryz.prog 13 [.ptr 0 0,.d (Sl (eN .i64) l)] [.box 25 (fQ s)] fun g hp'=>g=I r.1∧hp'=[.box 25 (fQ r.2)]:=by
 refine Krb (Fr.of 0 _) Tryz.func13 rfl (Fr.of_ok _) (nBe rfl) fun _=>?_
 refine Kfo ?_
 unfold Lcn at h
 obtain⟨y1,hy1,h2⟩:=Kfw h
 refine go hΓ 11 rfl ?_
 refine Kgw [0] (I y1.1) [.box 25 (fQ y1.2)] (Lml Tryz.func26 rfl rfl) (Lix hy1) rfl (nBe rfl) rfl rfl rfl rfl rfl rfl rfl rfl rfl rfl ?_
 obtain⟨x3,hx3,h4⟩:=Kfw h2
 refine eo_o rfl (Kgg hΓ (enc:=(eN .i64)) hx3 rfl rfl rfl rfl rfl (fun _=>rfl)) ?_
 refine Kfm hΓ 5 rfl ?_
 obtain rfl:=oSi h4
 exact Khj hΓ [] (.inr rfl) rfl rfl rfl rfl (.inl rfl)
theorem Lja{s:Lbv}{n:Int}{r:Bool×Lbv}(h:Lco s n=some r):EC Tryz.prog 24 [.ptr 0 0,I n] [.box 25 (fQ s)] fun g hp'=>g=B r.1∧hp'=[.box 25 (fQ r.2)]:=by
 refine Krb (Fr.of 0 _) Tryz.func24 rfl (Fr.of_ok _) (nBe rfl) fun _=>?_
 refine Kfo ?_
 unfold Lco at h
 obtain⟨y1,hy1,h2⟩:=Kfw h
 refine go hΓ 9 rfl ?_
 refine Kgw [0] (I y1.1) [.box 25 (fQ y1.2)] (Lml Tryz.func26 rfl rfl) (Lix hy1) rfl (nBe rfl) rfl rfl rfl rfl rfl rfl rfl rfl rfl rfl ?_
 refine Kfm hΓ 5 rfl ?_
 obtain rfl:=oSi h2
 exact Khj hΓ [] (.inr rfl) rfl rfl rfl rfl (.inl rfl)
theorem Ljb{s:Lbv}{r:Lbx×Lbv}(h:Lcp s=some r):EC Tryz.prog 187 [.ptr 0 0] [.box 25 (fQ s)] fun g hp'=>g=.agg [.sl 1 r.1.Users.length,.sl 2 r.1.Owners.length,I r.1.Life,B r.1.Approve]∧hp'=[.box 25 (fQ r.2),rO 9 1 eS r.1.Users,rO 155 2 Lij r.1.Owners]:=by
 refine Klr (Fr.of 0 _) Tryz.func187 rfl (Fr.of_ok _) (nBe rfl) fun _=>?_
 refine Kfo ?_
 unfold Lcp at h
 refine go hΓ 2 rfl ?_
 refine Ksp hΓ rfl rfl rfl (nBe rfl) ?_
 refine Kfm hΓ 3 rfl ?_
 obtain⟨y1,hy1,h2⟩:=Kfw h
 obtain⟨x3,hx3,h4⟩:=Kfw h2
 obtain⟨y5,hy5,h6⟩:=Kfw h4
 obtain⟨x7,hx7,h8⟩:=Kfw h6
 obtain⟨y9,hy9,h10⟩:=Kfw h8
 obtain⟨y11,hy11,h12⟩:=Kfw h10
 refine Kol hΓ [] [] [0,5,13,17,20,22,24] [] [⟨1,[],.d (Sl eS [[97,110,110],[98,111,98]]),none⟩,⟨2,[],.d (Sl eS [[98,111,98]]),none⟩,⟨3,[(4,.d (Sl eS [[97,110,110],[98,111,98]])),(5,.d (Sl eS [[98,111,98]]))],.d (Sl (eL eS) [[[97,110,110],[98,111,98]],[[98,111,98]],[]]),none⟩,⟨5,[(7,.ptr 0 0)],I y1.1,some (0,.box 25 (fQ s),.box 25 (fQ y1.2))⟩,⟨6,[(6,.d (Sl (eL eS) [[[97,110,110],[98,111,98]],[[98,111,98]],[]])),(8,I y1.1)],.rp [Sl eS x3],none⟩,⟨9,[],.d (Sl eS [[97,110,110]]),none⟩,⟨10,[],.d (Sl eS [[97,110,110],[99,105,100]]),none⟩,⟨11,[(12,.d (Sl eS [[97,110,110]])),(13,.d (Sl eS [[97,110,110],[99,105,100]]))],.d (Sl (eL eS) [[[97,110,110]],[[97,110,110],[99,105,100]]]),none⟩,⟨13,[(15,.ptr 0 0)],I y5.1,some (0,.box 25 (fQ y1.2),.box 25 (fQ y5.2))⟩,⟨14,[(14,.d (Sl (eL eS) [[[97,110,110]],[[97,110,110],[99,105,100]]])),(16,I y5.1)],.rp [Sl eS x7],none⟩,⟨19,[],.d (Sl (eN .i64) [20,60,100,1000]),none⟩,⟨20,[(21,.ptr 0 0),(22,.d (Sl (eN .i64) [20,60,100,1000]))],I y9.1,some (0,.box 25 (fQ y5.2),.box 25 (fQ y9.2))⟩,⟨22,[(24,.ptr 0 0)],B y11.1,some (0,.box 25 (fQ y9.2),.box 25 (fQ y11.2))⟩] [([0,1,2,3],[0,1,2,3]),([0,1,2,3],[0,1,2,3]),([0,1,2,3],[0,1,2,3]),([0,1,2,3],[0,1,2,3]),([0,1,2,3],[0,1,2,3]),([0,1,2,3],[0,1,2,3]),([0,1,2,3],[0,1,2,3]),([0,1,2,3],[0,1,2,3]),([0,1,2,3],[0,1,2,3]),([0,1,3,2],[0,1,3,2]),([0,1,3,2],[0,1,3,2]),([0,1,3,2],[0,1,3,2]),([0,1,2,3],[0,1,2,3]),([0,1,2,3],[0,1,2,3]),([0,1,3,2],[0,1,3,2]),([0,1,3,2],[0,1,3,2]),([0,1,2,3],[0,1,2,3]),([0,1,3,2],[0,1,3,2])] [(2,.ptr 1 0)] [.box 25 (fQ y11.2),.box 29 [.sl 2 [[97,110,110],[98,111,98],[99,105,100]].length,.sl 3 [(⟨[100,98],x3⟩:Lbw),(⟨[119,101,98],x7⟩:Lbw)].length,I y9.1,B y11.1],rO 9 1 eS [[97,110,110],[98,111,98],[99,105,100]],rO 155 2 Lij [(⟨[100,98],x3⟩:Lbw),(⟨[119,101,98],x7⟩:Lbw)]] hmix (by kernel_rfl) (by kernel_rfl) (Koa ⟨Koq hΓ (enc:=eS) [[97,110,110],[98,111,98]] rfl rfl rfl rfl rfl rfl rfl rfl rfl rfl rfl rfl rfl rfl,Koq hΓ (enc:=eS) [[98,111,98]] rfl rfl rfl rfl rfl rfl rfl rfl rfl rfl rfl rfl rfl rfl,Koq hΓ (enc:=(eL eS)) [[[97,110,110],[98,111,98]],[[98,111,98]],[]] rfl rfl rfl rfl rfl rfl rfl rfl rfl rfl rfl rfl rfl rfl,Kop 0 rfl rfl rfl (Lml Tryz.func26 rfl rfl) (Lix hy1) rfl rfl (fun _=>rfl) (fun _=>rfl) rfl rfl (fun _=>rfl) (fun _=>rfl),Kon rfl rfl rfl (fun hp=>Kgg hΓ (enc:=(eL eS)) hx3 rfl rfl rfl rfl rfl (fun _=>rfl)),Koq hΓ (enc:=eS) [[97,110,110]] rfl rfl rfl rfl rfl rfl rfl rfl rfl rfl rfl rfl rfl rfl,Koq hΓ (enc:=eS) [[97,110,110],[99,105,100]] rfl rfl rfl rfl rfl rfl rfl rfl rfl rfl rfl rfl rfl rfl,Koq hΓ (enc:=(eL eS)) [[[97,110,110]],[[97,110,110],[99,105,100]]] rfl rfl rfl rfl rfl rfl rfl rfl rfl rfl rfl rfl rfl rfl,Kop 0 rfl rfl rfl (Lml Tryz.func26 rfl rfl) (Lix hy5) rfl rfl (fun _=>rfl) (fun _=>rfl) rfl rfl (fun _=>rfl) (fun _=>rfl),Kon rfl rfl rfl (fun hp=>Kgg hΓ (enc:=(eL eS)) hx7 rfl rfl rfl rfl rfl (fun _=>rfl)),Koq hΓ (enc:=(eN .i64)) [20,60,100,1000] rfl rfl rfl rfl rfl rfl rfl rfl rfl rfl rfl rfl rfl rfl,Kop 0 rfl rfl rfl (Lml Tryz.func13 rfl rfl) (Liz hy9) rfl rfl (fun _=>rfl) (fun _=>rfl) rfl rfl (fun _=>rfl) (fun _=>rfl),Kop 0 rfl rfl rfl (Lml Tryz.func24 rfl rfl) (Lja hy11) rfl rfl (fun _=>rfl) (fun _=>rfl) rfl rfl (fun _=>rfl) (fun _=>rfl),tV⟩) trivial (nBe rfl) ?_
 refine go hΓ 2 rfl ?_
 refine Klq (nBe rfl) ?_
 refine Kjp 1 4 [.box 25 (fQ y11.2),.dead,rO 9 1 eS [[97,110,110],[98,111,98],[99,105,100]],rO 155 2 Lij [(⟨[100,98],x3⟩:Lbw),(⟨[119,101,98],x7⟩:Lbw)],.box 29 [.sl 2 [[97,110,110],[98,111,98],[99,105,100]].length,.sl 3 [(⟨[100,98],x3⟩:Lbw),(⟨[119,101,98],x7⟩:Lbw)].length,I y9.1,B y11.1]] rfl rfl rfl rfl rfl rfl ?_
 refine Kjp 2 1 [.box 25 (fQ y11.2),rO 9 1 eS [[97,110,110],[98,111,98],[99,105,100]],.dead,rO 155 2 Lij [(⟨[100,98],x3⟩:Lbw),(⟨[119,101,98],x7⟩:Lbw)],.box 29 [.sl 1 [[97,110,110],[98,111,98],[99,105,100]].length,.sl 3 [(⟨[100,98],x3⟩:Lbw),(⟨[119,101,98],x7⟩:Lbw)].length,I y9.1,B y11.1]] rfl rfl rfl rfl rfl rfl ?_
 refine Kjp 3 2 [.box 25 (fQ y11.2),rO 9 1 eS [[97,110,110],[98,111,98],[99,105,100]],rO 155 2 Lij [(⟨[100,98],x3⟩:Lbw),(⟨[119,101,98],x7⟩:Lbw)],.dead,.box 29 [.sl 1 [[97,110,110],[98,111,98],[99,105,100]].length,.sl 2 [(⟨[100,98],x3⟩:Lbw),(⟨[119,101,98],x7⟩:Lbw)].length,I y9.1,B y11.1]] rfl rfl rfl rfl rfl rfl ?_
 refine Kjn ?_
 obtain rfl:=oSi h12
 exact Khj hΓ [_,_] (.inr rfl) rfl rfl rfl rfl (.inr ⟨HB.mk rfl,rfl⟩)
theorem Ljc{s:Lbv}{l:List Str}{r:Str×Lbv}(h:Lcq s l=some r):EC Tryz.prog 22 [.ptr 0 0,.d (Sl eS l)] [.box 25 (fQ s)] fun g hp'=>g=S r.1∧hp'=[.box 25 (fQ r.2)]:=by
 refine Krb (Fr.of 0 _) Tryz.func22 rfl (Fr.of_ok _) (nBe rfl) fun _=>?_
 refine Kfo ?_
 unfold Lcq at h
 obtain⟨y1,hy1,h2⟩:=Kfw h
 refine go hΓ 11 rfl ?_
 refine Kgw [0] (I y1.1) [.box 25 (fQ y1.2)] (Lml Tryz.func26 rfl rfl) (Lix hy1) rfl (nBe rfl) rfl rfl rfl rfl rfl rfl rfl rfl rfl rfl ?_
 obtain⟨x3,hx3,h4⟩:=Kfw h2
 refine eo_o rfl (Kgg hΓ (enc:=eS) hx3 rfl rfl rfl rfl rfl (fun _=>rfl)) ?_
 refine Kfm hΓ 5 rfl ?_
 obtain rfl:=oSi h4
 exact Khj hΓ [] (.inr rfl) rfl rfl rfl rfl (.inl rfl)
theorem Ljd{s:Lbv}{r:Lbx×Lbv}(h:Lcr s=some r):EC Tryz.prog 83 [.ptr 0 0] [.box 25 (fQ s)] fun g hp'=>g=.agg (fD r.1)∧hp'=[.box 25 (fQ r.2)]:=by
 refine Krb (Fr.of 0 _) Tryz.func83 rfl (Fr.of_ok _) (nBe rfl) fun _=>?_
 refine Kfo ?_
 unfold Lcr at h
 refine go hΓ 2 rfl ?_
 refine Ksp hΓ rfl rfl rfl (nBe rfl) ?_
 obtain⟨y1,hy1,h2⟩:=Kfw h
 refine Kfm hΓ 5 rfl ?_
 refine Kgw [0] (.agg [.sl 2 y1.1.Users.length,.sl 3 y1.1.Owners.length,I y1.1.Life,B y1.1.Approve]) [.box 25 (fQ y1.2),.box 29 [.d (Sl eS []),.d (Sl Lij []),I 0,B false],rO 9 1 eS y1.1.Users,rO 155 2 Lij y1.1.Owners] (Lml Tryz.func187 rfl rfl) (Ljb hy1) rfl (nBe rfl) rfl rfl rfl rfl rfl rfl rfl rfl rfl rfl ?_
 refine Ksp hΓ rfl rfl rfl (nBe rfl) ?_
 refine Ksu hΓ rfl rfl rfl rfl rfl rfl rfl rfl (nBe rfl) ?_
 refine Khe [.box 25 (fQ y1.2),.box 29 [.d (Sl eS []),.d (Sl Lij []),I 0,B false],rO 9 1 eS y1.1.Users,rO 155 2 Lij y1.1.Owners,.box 29 [.sl 2 y1.1.Users.length,.sl 3 y1.1.Owners.length,I y1.1.Life,B y1.1.Approve]] rfl ?_
 obtain⟨y3,hy3,h4⟩:=Kfw h2
 refine Kfm hΓ 6 rfl ?_
 refine Kgw [0] (B y3.1) [.box 25 (fQ y3.2),.box 29 [.d (Sl eS []),.d (Sl Lij []),I 0,B false],rO 9 1 eS y1.1.Users,rO 155 2 Lij y1.1.Owners,.box 29 [.sl 2 y1.1.Users.length,.sl 3 y1.1.Owners.length,I y1.1.Life,B y1.1.Approve]] (Lml Tryz.func24 rfl rfl) (Lja hy3) rfl (nBe rfl) rfl rfl rfl rfl rfl rfl rfl rfl rfl rfl ?_
 obtain⟨q5,hq5,h6⟩:=Kfw h4
 refine Kfm hΓ 2 rfl ?_
 refine Kjs [(2,.ptr 1 0),(3,.ptr 4 0)] [.box 25 (fQ q5.1),.box 29 [.d (Sl eS []),.d (Sl Lij []),I 0,B false],rO 9 1 eS q5.2.1,rO 155 2 Lij q5.2.2.1,.box 29 [.sl 2 q5.2.1.length,.sl 3 q5.2.2.1.length,I q5.2.2.2,B y1.1.Approve]] ?_ ?_
 ·refine Kfp rfl (fun hb=>?_) (fun hb=>?_)
  ·have h7:=cT hq5 hb
   obtain⟨y8,hy8,h9⟩:=Kfw h7
   refine go hΓ 3 rfl ?_
   refine Kgw [0] (I y8.1) [.box 25 (fQ y8.2),.box 29 [.d (Sl eS []),.d (Sl Lij []),I 0,B false],rO 9 1 eS y1.1.Users,rO 155 2 Lij y1.1.Owners,.box 29 [.sl 2 y1.1.Users.length,.sl 3 y1.1.Owners.length,I y1.1.Life,B y1.1.Approve]] (Lml Tryz.func26 rfl rfl) (Lix hy8) rfl (nBe rfl) rfl rfl rfl rfl rfl rfl rfl rfl rfl rfl ?_
   refine Kfm hΓ 9 rfl ?_
   refine Kfp rfl (fun hb=>?_) (fun hb=>?_)
   ·have h10:=cT h9 hb
    refine Kir [.dead,.dead,.dead,.dead,.box 29 [.sl 2 y1.1.Users.length,.sl 3 y1.1.Owners.length,I y1.1.Life,B y1.1.Approve]] [1] [4,6,8] [6,8] hmix (by kernel_rfl) (by kernel_rfl) ⟨rfl,tV⟩ (nBe rfl) ?_
    refine go_E hΓ 3 rfl ?_
    refine Kjf hΓ (enc:=eS) [[],[97,110,110],[65]] rfl rfl rfl rfl rfl rfl rfl rfl rfl rfl rfl rfl ?_
    obtain⟨y11,hy11,h12⟩:=Kfw h10
    refine ge_h [.box 25 (fQ y11.2),.box 29 [.d (Sl eS []),.d (Sl Lij []),I 0,B false],rO 9 1 eS y1.1.Users,rO 155 2 Lij y1.1.Owners,.box 29 [.sl 2 y1.1.Users.length,.sl 3 y1.1.Owners.length,I y1.1.Life,B y1.1.Approve]] rfl rfl rfl (Kiy ⟨rfl,tV⟩) (Kjd [0] (S y11.1) [.box 25 (fQ y11.2),.box 29 [.d (Sl eS []),.d (Sl Lij []),I 0,B false],rO 9 1 eS y1.1.Users,rO 155 2 Lij y1.1.Owners,.box 29 [.sl 2 y1.1.Users.length,.sl 3 y1.1.Owners.length,I y1.1.Life,B y1.1.Approve]] (Lml Tryz.func22 rfl rfl) (Ljc hy11) rfl rfl rfl rfl rfl rfl rfl rfl rfl rfl) ?_
    refine Kjf hΓ (enc:=eS) [y11.1] rfl rfl rfl rfl rfl rfl rfl rfl rfl rfl rfl rfl ?_
    obtain⟨y13,hy13,h14⟩:=Kfw h12
    refine ge_h [.box 25 (fQ y11.2),.box 29 [.d (Sl eS []),.d (Sl Lij []),I 0,B false],.dead,rO 155 2 Lij y1.1.Owners,.box 29 [.junk,.sl 3 y1.1.Owners.length,I y1.1.Life,B y1.1.Approve],rO 9 1 eS y13] rfl rfl rfl (Kix rfl) (Kjb (Kkd 2 (Kii hΓ (enc:=eS) (id:=2) (h2:=show Γ 9=some ⟨_,1,_,_⟩ from rfl) hy13 rfl rfl rfl rfl rfl rfl rfl rfl (fun _=>rfl) rfl))) ?_
    refine go_E hΓ 1 rfl ?_
    refine Kiw [.box 25 (fQ y11.2),.box 29 [.d (Sl eS []),.d (Sl Lij []),I 0,B false],.dead,rO 155 2 Lij y1.1.Owners,.box 29 [.sl 5 y13.length,.sl 3 y1.1.Owners.length,I y1.1.Life,B y1.1.Approve],rO 9 1 eS y13] rfl rfl (Kix rfl) (Kjc (Kjv hΓ rfl rfl rfl rfl rfl rfl rfl rfl rfl)) ?_
    refine Kit ?_
    refine go hΓ 1 rfl ?_
    refine Kjp 5 2 [.box 25 (fQ y11.2),.box 29 [.d (Sl eS []),.d (Sl Lij []),I 0,B false],rO 9 1 eS y13,rO 155 2 Lij y1.1.Owners,.box 29 [.sl 2 y13.length,.sl 3 y1.1.Owners.length,I y1.1.Life,B y1.1.Approve],.dead] rfl rfl rfl rfl rfl rfl ?_
    refine Kjn ?_
    obtain rfl:=oSi h14
    exact⟨⟨rfl,rfl,tV⟩,[_],rfl,.inr ⟨HB.mk rfl,FB.mk rfl,(nBe rfl)⟩⟩
   have h15:=cF h9 hb
   refine go hΓ 6 rfl ?_
   refine Kfp rfl (fun hb=>?_) (fun hb=>?_)
   ·have h16:=cT h15 hb
    refine Kir [.dead,.dead,.dead,.dead,.box 29 [.sl 2 y1.1.Users.length,.sl 3 y1.1.Owners.length,I y1.1.Life,B y1.1.Approve]] [1] [4,7,11,13] [11,13] hmix (by kernel_rfl) (by kernel_rfl) ⟨rfl,tV⟩ (nBe rfl) ?_
    refine go_E hΓ 3 rfl ?_
    refine Kjf hΓ (enc:=eS) [[],[100,98],[122,122]] rfl rfl rfl rfl rfl rfl rfl rfl rfl rfl rfl rfl ?_
    obtain⟨y17,hy17,h18⟩:=Kfw h16
    refine ge_h [.box 25 (fQ y17.2),.box 29 [.d (Sl eS []),.d (Sl Lij []),I 0,B false],rO 9 1 eS y1.1.Users,rO 155 2 Lij y1.1.Owners,.box 29 [.sl 2 y1.1.Users.length,.sl 3 y1.1.Owners.length,I y1.1.Life,B y1.1.Approve]] rfl rfl rfl (Kiy ⟨rfl,tV⟩) (Kjd [0] (S y17.1) [.box 25 (fQ y17.2),.box 29 [.d (Sl eS []),.d (Sl Lij []),I 0,B false],rO 9 1 eS y1.1.Users,rO 155 2 Lij y1.1.Owners,.box 29 [.sl 2 y1.1.Users.length,.sl 3 y1.1.Owners.length,I y1.1.Life,B y1.1.Approve]] (Lml Tryz.func22 rfl rfl) (Ljc hy17) rfl rfl rfl rfl rfl rfl rfl rfl rfl rfl) ?_
    refine go_E hΓ 1 rfl ?_
    refine Kjf hΓ (enc:=eS) [[97,110,110],[110,111,110,101]] rfl rfl rfl rfl rfl rfl rfl rfl rfl rfl rfl rfl ?_
    obtain⟨y19,hy19,h20⟩:=Kfw h18
    refine ge_h [.box 25 (fQ y19.2),.box 29 [.d (Sl eS []),.d (Sl Lij []),I 0,B false],rO 9 1 eS y1.1.Users,rO 155 2 Lij y1.1.Owners,.box 29 [.sl 2 y1.1.Users.length,.sl 3 y1.1.Owners.length,I y1.1.Life,B y1.1.Approve]] rfl rfl rfl (Kiy ⟨rfl,tV⟩) (Kjd [0] (S y19.1) [.box 25 (fQ y19.2),.box 29 [.d (Sl eS []),.d (Sl Lij []),I 0,B false],rO 9 1 eS y1.1.Users,rO 155 2 Lij y1.1.Owners,.box 29 [.sl 2 y1.1.Users.length,.sl 3 y1.1.Owners.length,I y1.1.Life,B y1.1.Approve]] (Lml Tryz.func22 rfl rfl) (Ljc hy19) rfl rfl rfl rfl rfl rfl rfl rfl rfl rfl) ?_
    refine Kjf hΓ (enc:=eS) [y19.1] rfl rfl rfl rfl rfl rfl rfl rfl rfl rfl rfl rfl ?_
    refine ge_q rfl (.inl rfl) (fun _ _=>Kiu (qt_p (Kji hΓ (gs:=[S y17.1,.d (Sl eS [y19.1])]) rfl rfl rfl rfl rfl rfl))) ?_
    refine Kjf hΓ (enc:=Lij) [(⟨y17.1,[y19.1]⟩:Lbw)] rfl rfl rfl rfl rfl rfl rfl rfl rfl rfl rfl rfl ?_
    obtain⟨y21,hy21,h22⟩:=Kfw h20
    refine ge_h [.box 25 (fQ y19.2),.box 29 [.d (Sl eS []),.d (Sl Lij []),I 0,B false],rO 9 1 eS y1.1.Users,.dead,.box 29 [.sl 2 y1.1.Users.length,.junk,I y1.1.Life,B y1.1.Approve],rO 155 2 Lij y21] rfl rfl rfl (Kix rfl) (Kjb (Kkd 3 (Kii hΓ (enc:=Lij) (id:=3) (h2:=show Γ 155=some ⟨_,2,_,_⟩ from rfl) hy21 rfl rfl rfl rfl rfl rfl rfl rfl (fun _=>rfl) rfl))) ?_
    refine go_E hΓ 1 rfl ?_
    refine Kiw [.box 25 (fQ y19.2),.box 29 [.d (Sl eS []),.d (Sl Lij []),I 0,B false],rO 9 1 eS y1.1.Users,.dead,.box 29 [.sl 2 y1.1.Users.length,.sl 5 y21.length,I y1.1.Life,B y1.1.Approve],rO 155 2 Lij y21] rfl rfl (Kix rfl) (Kjc (Kjv hΓ rfl rfl rfl rfl rfl rfl rfl rfl rfl)) ?_
    refine Kit ?_
    refine go hΓ 1 rfl ?_
    refine Kjp 5 3 [.box 25 (fQ y19.2),.box 29 [.d (Sl eS []),.d (Sl Lij []),I 0,B false],rO 9 1 eS y1.1.Users,rO 155 2 Lij y21,.box 29 [.sl 2 y1.1.Users.length,.sl 3 y21.length,I y1.1.Life,B y1.1.Approve],.dead] rfl rfl rfl rfl rfl rfl ?_
    refine Kjn ?_
    obtain rfl:=oSi h22
    exact⟨⟨rfl,rfl,tV⟩,[_],rfl,.inr ⟨HB.mk rfl,FB.mk rfl,(nBe rfl)⟩⟩
   have h23:=cF h15 hb
   refine go hΓ 6 rfl ?_
   refine Kfp rfl (fun hb=>?_) (fun hb=>?_)
   ·have h24:=cT h23 hb
    refine Kir [.dead,.dead,.dead,.dead,.box 29 [.sl 2 y1.1.Users.length,.sl 3 y1.1.Owners.length,I y1.1.Life,B y1.1.Approve]] [1] [4,8] [] hmix (by kernel_rfl) (by kernel_rfl) ⟨rfl,tV⟩ (nBe rfl) ?_
    refine go_E hΓ 3 rfl ?_
    refine Kjf hΓ (enc:=eS) [[97,110,110],[98,111,98]] rfl rfl rfl rfl rfl rfl rfl rfl rfl rfl rfl rfl ?_
    obtain⟨y25,hy25,h26⟩:=Kfw h24
    refine ge_h [.box 25 (fQ y25.2),.box 29 [.d (Sl eS []),.d (Sl Lij []),I 0,B false],rO 9 1 eS y1.1.Users,rO 155 2 Lij y1.1.Owners,.box 29 [.sl 2 y1.1.Users.length,.sl 3 y1.1.Owners.length,I y1.1.Life,B y1.1.Approve]] rfl rfl rfl (Kiy ⟨rfl,tV⟩) (Kjd [0] (S y25.1) [.box 25 (fQ y25.2),.box 29 [.d (Sl eS []),.d (Sl Lij []),I 0,B false],rO 9 1 eS y1.1.Users,rO 155 2 Lij y1.1.Owners,.box 29 [.sl 2 y1.1.Users.length,.sl 3 y1.1.Owners.length,I y1.1.Life,B y1.1.Approve]] (Lml Tryz.func22 rfl rfl) (Ljc hy25) rfl rfl rfl rfl rfl rfl rfl rfl rfl rfl) ?_
    refine Kjf hΓ (enc:=eS) [[98,111,98],y25.1] rfl rfl rfl rfl rfl rfl rfl rfl rfl rfl rfl rfl ?_
    obtain⟨x27,hx27,h28⟩:=Kfw h26
    have hj29:=Khn hx27
    refine ge_q rfl (.inl rfl) (fun _ _=>Kiu (qt_p (Kgi hΓ hx27 rfl rfl rfl rfl rfl rfl))) ?_
    refine go_E hΓ 1 rfl ?_
    refine Kiw [.box 25 (fQ y25.2),.box 29 [.d (Sl eS []),.d (Sl Lij []),I 0,B false],rO 9 1 eS y1.1.Users,rO 155 2 Lij (y1.1.Owners.set ((0:Int).toNat) (⟨x27.Tag,[[98,111,98],y25.1]⟩:Lbw)),.box 29 [.sl 2 y1.1.Users.length,.sl 3 y1.1.Owners.length,I y1.1.Life,B y1.1.Approve]] rfl rfl (Kiy ⟨rfl,tV⟩) (Kjc (Kkx hΓ (enc:=Lij) (z':=(⟨x27.Tag,[[98,111,98],y25.1]⟩:Lbw)) ((0:Int).toNat) 1 hj29 rfl rfl rfl rfl (fun _=>rfl) rfl rfl rfl rfl rfl rfl rfl)) ?_
    refine Kit ?_
    refine go hΓ 1 rfl ?_
    refine Kmb [.box 25 (fQ y25.2),.box 29 [.d (Sl eS []),.d (Sl Lij []),I 0,B false],rO 9 1 eS y1.1.Users,rO 155 2 Lij (y1.1.Owners.set ((0:Int).toNat) (⟨x27.Tag,[[98,111,98],y25.1]⟩:Lbw)),.box 29 [.sl 2 y1.1.Users.length,.sl 3 (y1.1.Owners.set ((0:Int).toNat) (⟨x27.Tag,[[98,111,98],y25.1]⟩:Lbw)).length,I y1.1.Life,B y1.1.Approve]] (by simp only[List.length_set]) ?_
    refine Kjn ?_
    obtain rfl:=oSi h28
    exact⟨⟨rfl,rfl,tV⟩,[],rfl,.inl rfl⟩
   have h30:=cF h23 hb
   refine go hΓ 2 rfl ?_
   refine Kgr hΓ (enc:=(eN .i64)) [0,345686400,345686401] rfl rfl rfl rfl rfl rfl rfl rfl rfl rfl rfl rfl (nBe rfl) ?_
   obtain⟨y31,hy31,h32⟩:=Kfw h30
   refine Kgw [0] (I y31.1) [.box 25 (fQ y31.2),.box 29 [.d (Sl eS []),.d (Sl Lij []),I 0,B false],rO 9 1 eS y1.1.Users,rO 155 2 Lij y1.1.Owners,.box 29 [.sl 2 y1.1.Users.length,.sl 3 y1.1.Owners.length,I y1.1.Life,B y1.1.Approve]] (Lml Tryz.func13 rfl rfl) (Liz hy31) rfl (nBe rfl) rfl rfl rfl rfl rfl rfl rfl rfl rfl rfl ?_
   refine Kfm hΓ 1 rfl ?_
   refine Ksu hΓ rfl rfl rfl rfl rfl rfl rfl rfl (nBe rfl) ?_
   refine Khe [.box 25 (fQ y31.2),.box 29 [.d (Sl eS []),.d (Sl Lij []),I 0,B false],rO 9 1 eS y1.1.Users,rO 155 2 Lij y1.1.Owners,.box 29 [.sl 2 y1.1.Users.length,.sl 3 y1.1.Owners.length,I y31.1,B y1.1.Approve]] rfl ?_
   refine Kfm hΓ 2 rfl ?_
   refine Kjn ?_
   obtain rfl:=oSi h32
   exact⟨⟨rfl,rfl,tV⟩,[],rfl,.inl rfl⟩
  have h33:=cF hq5 hb
  refine go hΓ 1 rfl ?_
  refine Kjn ?_
  obtain rfl:=oSi h33
  exact⟨⟨rfl,rfl,tV⟩,[],rfl,.inl rfl⟩
 refine go hΓ 4 rfl ?_
 refine Khc 2 [49] _ [.box 25 (fQ q5.1),.box 29 [.d (Sl eS []),.d (Sl Lij []),I 0,B false],.dead,rO 155 2 Lij q5.2.2.1,.box 29 [.d (Sl eS q5.2.1),.sl 3 q5.2.2.1.length,I q5.2.2.2,B y1.1.Approve]] rfl rfl rfl (nBe rfl) ?_
 refine Khc 3 [49] _ [.box 25 (fQ q5.1),.box 29 [.d (Sl eS []),.d (Sl Lij []),I 0,B false],.dead,.dead,.box 29 [.d (Sl eS q5.2.1),.d (Sl Lij q5.2.2.1),I q5.2.2.2,B y1.1.Approve]] rfl rfl rfl (nBe rfl) ?_
 refine Ksu hΓ rfl rfl rfl rfl rfl rfl rfl rfl (nBe rfl) ?_
 refine Khe [.box 25 (fQ q5.1),.box 29 [.d (Sl eS q5.2.1),.d (Sl Lij q5.2.2.1),I q5.2.2.2,B y1.1.Approve],.dead,.dead,.box 29 [.d (Sl eS q5.2.1),.d (Sl Lij q5.2.2.1),I q5.2.2.2,B y1.1.Approve]] rfl ?_
 refine Kfm hΓ 3 rfl ?_
 obtain rfl:=oSi h6
 exact Khj hΓ [_,_,_,_] (.inr rfl) rfl rfl rfl rfl (.inr ⟨HB.mk rfl,rfl⟩)
theorem Lje{s:Lbv}{r:Str×Lbv}(h:Lcs s=some r):EC Tryz.prog 21 [.ptr 0 0] [.box 25 (fQ s)] fun g hp'=>g=S r.1∧hp'=[.box 25 (fQ r.2)]:=by
 refine Krb (Fr.of 0 _) Tryz.func21 rfl (Fr.of_ok _) (nBe rfl) fun _=>?_
 refine Kfo ?_
 unfold Lcs at h
 refine go hΓ 8 rfl ?_
 refine Kgr hΓ (enc:=eS) [[97,110,110],[97,110,110],[97,110,110],[98,111,98],[99,105,100],[122,101,100]] rfl rfl rfl rfl rfl rfl rfl rfl rfl rfl rfl rfl (nBe rfl) ?_
 obtain⟨y1,hy1,h2⟩:=Kfw h
 refine Kgw [0] (S y1.1) [.box 25 (fQ y1.2)] (Lml Tryz.func22 rfl rfl) (Ljc hy1) rfl (nBe rfl) rfl rfl rfl rfl rfl rfl rfl rfl rfl rfl ?_
 refine Kfm hΓ 4 rfl ?_
 obtain rfl:=oSi h2
 exact Khj hΓ [] (.inr rfl) rfl rfl rfl rfl (.inl rfl)
theorem Ljf{s:Lbv}{r:(List Str)×Lbv}(h:Lct s=some r):EC Tryz.prog 84 [.ptr 0 0] [.box 25 (fQ s)] fun g hp'=>g=.d (Sl eS r.1)∧hp'=[.box 25 (fQ r.2)]:=by
 refine Krb (Fr.of 0 _) Tryz.func84 rfl (Fr.of_ok _) (nBe rfl) fun _=>?_
 refine Kfo ?_
 unfold Lct at h
 refine go hΓ 7 rfl ?_
 refine Kgr hΓ (enc:=eS) [[119,101,98]] rfl rfl rfl rfl rfl rfl rfl rfl rfl rfl rfl rfl (nBe rfl) ?_
 refine Kgr hΓ (enc:=eS) [[119,101,98]] rfl rfl rfl rfl rfl rfl rfl rfl rfl rfl rfl rfl (nBe rfl) ?_
 refine Kgr hΓ (enc:=eS) [[100,98]] rfl rfl rfl rfl rfl rfl rfl rfl rfl rfl rfl rfl (nBe rfl) ?_
 refine Kgr hΓ (enc:=eS) [[100,98],[119,101,98]] rfl rfl rfl rfl rfl rfl rfl rfl rfl rfl rfl rfl (nBe rfl) ?_
 refine Kgr hΓ (enc:=eS) [[110,111,110,101]] rfl rfl rfl rfl rfl rfl rfl rfl rfl rfl rfl rfl (nBe rfl) ?_
 refine Kgr hΓ (enc:=(eL eS)) [[],[[119,101,98]],[[119,101,98]],[[100,98]],[[100,98],[119,101,98]],[[110,111,110,101]]] rfl rfl rfl rfl rfl rfl rfl rfl rfl rfl rfl rfl (nBe rfl) ?_
 obtain⟨y1,hy1,h2⟩:=Kfw h
 refine Kfm hΓ 1 rfl ?_
 refine Kgw [0] (I y1.1) [.box 25 (fQ y1.2)] (Lml Tryz.func26 rfl rfl) (Lix hy1) rfl (nBe rfl) rfl rfl rfl rfl rfl rfl rfl rfl rfl rfl ?_
 obtain⟨x3,hx3,h4⟩:=Kfw h2
 refine eo_o rfl (Kgg hΓ (enc:=(eL eS)) hx3 rfl rfl rfl rfl rfl (fun _=>rfl)) ?_
 refine Kfm hΓ 5 rfl ?_
 obtain rfl:=oSi h4
 exact Khj hΓ [] (.inr rfl) rfl rfl rfl rfl (.inl rfl)
theorem Ljg{s:Lbv}{v_at:Int}{r:Lby×Lbv}(h:Lcu s v_at=some r):EC Tryz.prog 12 [.ptr 0 0,I v_at] [.box 25 (fQ s)] fun g hp'=>g=.agg (fS r.1)∧hp'=[.box 25 (fQ r.2)]:=by
 refine Krb (Fr.of 0 _) Tryz.func12 rfl (Fr.of_ok _) (nBe rfl) fun _=>?_
 refine Kfo ?_
 unfold Lcu at h
 refine go hΓ 2 rfl ?_
 refine Ksp hΓ rfl rfl rfl (nBe rfl) ?_
 refine Kfm hΓ 6 rfl ?_
 refine Kgr hΓ (enc:=eS) [[115,49],[115,49],[115,50]] rfl rfl rfl rfl rfl rfl rfl rfl rfl rfl rfl rfl (nBe rfl) ?_
 obtain⟨y1,hy1,h2⟩:=Kfw h
 refine Kgw [0] (S y1.1) [.box 25 (fQ y1.2),.box 37 [I 0,S [],I 0,I 0,S [],S [],S [],S [],S [],.d (Sl eS []),I 0,I 0,B false]] (Lml Tryz.func22 rfl rfl) (Ljc hy1) rfl (nBe rfl) rfl rfl rfl rfl rfl rfl rfl rfl rfl rfl ?_
 refine Kfm hΓ 1 rfl ?_
 refine Kgr hΓ (enc:=(eN .i64)) [1,2,3,3,3,3,3,4,5,5,6,7,7,8,9] rfl rfl rfl rfl rfl rfl rfl rfl rfl rfl rfl rfl (nBe rfl) ?_
 obtain⟨y3,hy3,h4⟩:=Kfw h2
 refine Kgw [0] (I y3.1) [.box 25 (fQ y3.2),.box 37 [I 0,S [],I 0,I 0,S [],S [],S [],S [],S [],.d (Sl eS []),I 0,I 0,B false]] (Lml Tryz.func13 rfl rfl) (Liz hy3) rfl (nBe rfl) rfl rfl rfl rfl rfl rfl rfl rfl rfl rfl ?_
 obtain⟨y5,hy5,h6⟩:=Kfw h4
 refine Kfm hΓ 1 rfl ?_
 refine Kgw [0] (S y5.1) [.box 25 (fQ y5.2),.box 37 [I 0,S [],I 0,I 0,S [],S [],S [],S [],S [],.d (Sl eS []),I 0,I 0,B false]] (Lml Tryz.func21 rfl rfl) (Lje hy5) rfl (nBe rfl) rfl rfl rfl rfl rfl rfl rfl rfl rfl rfl ?_
 refine Kdu hΓ (gs:=[I v_at,S y1.1,I 0,I y3.1,S y5.1,S [],S [],S [],S [],.d (Sl eS []),I 0,I 0,B false]) rfl rfl rfl rfl rfl rfl rfl ?_
 refine Ksp hΓ rfl rfl rfl (nBe rfl) ?_
 refine Ksu hΓ rfl rfl rfl rfl rfl rfl rfl rfl (nBe rfl) ?_
 refine Khe [.box 25 (fQ y5.2),.box 37 [I 0,S [],I 0,I 0,S [],S [],S [],S [],S [],.d (Sl eS []),I 0,I 0,B false],.box 37 [I v_at,S y1.1,I 0,I y3.1,S y5.1,S [],S [],S [],S [],.d (Sl eS []),I 0,I 0,B false]] rfl ?_
 refine Kfm hΓ 5 rfl ?_
 refine Kgr hΓ (enc:=eS) [[110,97],[110,97],[110,98],[110,98],[110,99],[110,100]] rfl rfl rfl rfl rfl rfl rfl rfl rfl rfl rfl rfl (nBe rfl) ?_
 obtain⟨y7,hy7,h8⟩:=Kfw h6
 refine Kgw [0] (S y7.1) [.box 25 (fQ y7.2),.box 37 [I 0,S [],I 0,I 0,S [],S [],S [],S [],S [],.d (Sl eS []),I 0,I 0,B false],.box 37 [I v_at,S y1.1,I 0,I y3.1,S y5.1,S [],S [],S [],S [],.d (Sl eS []),I 0,I 0,B false]] (Lml Tryz.func22 rfl rfl) (Ljc hy7) rfl (nBe rfl) rfl rfl rfl rfl rfl rfl rfl rfl rfl rfl ?_
 refine Kfm hΓ 6 rfl ?_
 refine Kgr hΓ (enc:=eS) [[107,49],[107,49],[107,50]] rfl rfl rfl rfl rfl rfl rfl rfl rfl rfl rfl rfl (nBe rfl) ?_
 obtain⟨y9,hy9,h10⟩:=Kfw h8
 refine Kgw [0] (S y9.1) [.box 25 (fQ y9.2),.box 37 [I 0,S [],I 0,I 0,S [],S [],S [],S [],S [],.d (Sl eS []),I 0,I 0,B false],.box 37 [I v_at,S y1.1,I 0,I y3.1,S y5.1,S [],S [],S [],S [],.d (Sl eS []),I 0,I 0,B false]] (Lml Tryz.func22 rfl rfl) (Ljc hy9) rfl (nBe rfl) rfl rfl rfl rfl rfl rfl rfl rfl rfl rfl ?_
 refine Kfm hΓ 6 rfl ?_
 refine Kgr hΓ (enc:=eS) [[48,97],[48,98],[48,99],[48,100],[48,101],[49,97],[49,98]] rfl rfl rfl rfl rfl rfl rfl rfl rfl rfl rfl rfl (nBe rfl) ?_
 obtain⟨y11,hy11,h12⟩:=Kfw h10
 refine Kgw [0] (S y11.1) [.box 25 (fQ y11.2),.box 37 [I 0,S [],I 0,I 0,S [],S [],S [],S [],S [],.d (Sl eS []),I 0,I 0,B false],.box 37 [I v_at,S y1.1,I 0,I y3.1,S y5.1,S [],S [],S [],S [],.d (Sl eS []),I 0,I 0,B false]] (Lml Tryz.func22 rfl rfl) (Ljc hy11) rfl (nBe rfl) rfl rfl rfl rfl rfl rfl rfl rfl rfl rfl ?_
 obtain⟨q13,hq13,h14⟩:=Kfw h12
 refine Kfm hΓ 10 rfl ?_
 refine Kjr [(4,.ptr 1 0),(5,.ptr 2 0)] [.box 25 (fQ q13.1),.box 37 [I 0,S [],I 0,I 0,S [],S [],S [],S [],S [],.d (Sl eS []),I 0,I 0,B false],.box 37 (fS q13.2)] ?_ ?_
 ·refine go hΓ 7 rfl ?_
  refine Kfp rfl (fun hb=>?_) (fun hb=>?_)
  ·have h15:=cT hq13 hb
   obtain⟨y16,hy16,h17⟩:=Kfw h15
   refine go hΓ 3 rfl ?_
   refine Kgw [0] (.d (Sl eS y16.1)) [.box 25 (fQ y16.2),.box 37 [I 0,S [],I 0,I 0,S [],S [],S [],S [],S [],.d (Sl eS []),I 0,I 0,B false],.box 37 [I v_at,S y1.1,I 0,I y3.1,S y5.1,S [],S [],S [],S [],.d (Sl eS []),I 0,I 0,B false]] (Lml Tryz.func84 rfl rfl) (Ljf hy16) rfl (nBe rfl) rfl rfl rfl rfl rfl rfl rfl rfl rfl rfl ?_
   refine Kfm hΓ 2 rfl ?_
   refine Kgr hΓ (enc:=(eN .i64)) [0,5,50,200] rfl rfl rfl rfl rfl rfl rfl rfl rfl rfl rfl rfl (nBe rfl) ?_
   obtain⟨y18,hy18,h19⟩:=Kfw h17
   refine Kgw [0] (I y18.1) [.box 25 (fQ y18.2),.box 37 [I 0,S [],I 0,I 0,S [],S [],S [],S [],S [],.d (Sl eS []),I 0,I 0,B false],.box 37 [I v_at,S y1.1,I 0,I y3.1,S y5.1,S [],S [],S [],S [],.d (Sl eS []),I 0,I 0,B false]] (Lml Tryz.func13 rfl rfl) (Liz hy18) rfl (nBe rfl) rfl rfl rfl rfl rfl rfl rfl rfl rfl rfl ?_
   refine Kfm hΓ 2 rfl ?_
   refine Kgr hΓ (enc:=(eN .i64)) [0,1,2,1000,1001] rfl rfl rfl rfl rfl rfl rfl rfl rfl rfl rfl rfl (nBe rfl) ?_
   obtain⟨y20,hy20,h21⟩:=Kfw h19
   refine Kgw [0] (I y20.1) [.box 25 (fQ y20.2),.box 37 [I 0,S [],I 0,I 0,S [],S [],S [],S [],S [],.d (Sl eS []),I 0,I 0,B false],.box 37 [I v_at,S y1.1,I 0,I y3.1,S y5.1,S [],S [],S [],S [],.d (Sl eS []),I 0,I 0,B false]] (Lml Tryz.func13 rfl rfl) (Liz hy20) rfl (nBe rfl) rfl rfl rfl rfl rfl rfl rfl rfl rfl rfl ?_
   obtain⟨y22,hy22,h23⟩:=Kfw h21
   refine Kfm hΓ 1 rfl ?_
   refine Kgw [0] (B y22.1) [.box 25 (fQ y22.2),.box 37 [I 0,S [],I 0,I 0,S [],S [],S [],S [],S [],.d (Sl eS []),I 0,I 0,B false],.box 37 [I v_at,S y1.1,I 0,I y3.1,S y5.1,S [],S [],S [],S [],.d (Sl eS []),I 0,I 0,B false]] (Lml Tryz.func24 rfl rfl) (Lja hy22) rfl (nBe rfl) rfl rfl rfl rfl rfl rfl rfl rfl rfl rfl ?_
   refine Kfm hΓ 1 rfl ?_
   refine Ksu hΓ rfl rfl rfl rfl rfl rfl rfl rfl (nBe rfl) ?_
   refine Khe [.box 25 (fQ y22.2),.box 37 [I 0,S [],I 0,I 0,S [],S [],S [],S [],S [],.d (Sl eS []),I 0,I 0,B false],.box 37 [I v_at,S y1.1,I 0,I y3.1,S y5.1,S [],S y9.1,S [],S [],.d (Sl eS []),I 0,I 0,B false]] rfl ?_
   refine Kfm hΓ 1 rfl ?_
   refine Ksu hΓ rfl rfl rfl rfl rfl rfl rfl rfl (nBe rfl) ?_
   refine Khe [.box 25 (fQ y22.2),.box 37 [I 0,S [],I 0,I 0,S [],S [],S [],S [],S [],.d (Sl eS []),I 0,I 0,B false],.box 37 [I v_at,S y1.1,I 0,I y3.1,S y5.1,S [],S y9.1,S [],S [],.d (Sl eS y16.1),I 0,I 0,B false]] rfl ?_
   refine Kfm hΓ 1 rfl ?_
   refine Ksu hΓ rfl rfl rfl rfl rfl rfl rfl rfl (nBe rfl) ?_
   refine Khe [.box 25 (fQ y22.2),.box 37 [I 0,S [],I 0,I 0,S [],S [],S [],S [],S [],.d (Sl eS []),I 0,I 0,B false],.box 37 [I v_at,S y1.1,I 0,I y3.1,S y5.1,S [],S y9.1,S [],S [],.d (Sl eS y16.1),I (wi (v_at+y18.1)),I 0,B false]] rfl ?_
   refine Kfm hΓ 1 rfl ?_
   refine Ksu hΓ rfl rfl rfl rfl rfl rfl rfl rfl (nBe rfl) ?_
   refine Khe [.box 25 (fQ y22.2),.box 37 [I 0,S [],I 0,I 0,S [],S [],S [],S [],S [],.d (Sl eS []),I 0,I 0,B false],.box 37 [I v_at,S y1.1,I 0,I y3.1,S y5.1,S [],S y9.1,S [],S [],.d (Sl eS y16.1),I (wi (v_at+y18.1)),I y20.1,B false]] rfl ?_
   refine Kfm hΓ 1 rfl ?_
   refine Ksu hΓ rfl rfl rfl rfl rfl rfl rfl rfl (nBe rfl) ?_
   refine Khe [.box 25 (fQ y22.2),.box 37 [I 0,S [],I 0,I 0,S [],S [],S [],S [],S [],.d (Sl eS []),I 0,I 0,B false],.box 37 [I v_at,S y1.1,I 0,I y3.1,S y5.1,S [],S y9.1,S [],S [],.d (Sl eS y16.1),I (wi (v_at+y18.1)),I y20.1,B y22.1]] rfl ?_
   refine Kfm hΓ 2 rfl ?_
   obtain rfl:=oSi h23
   exact⟨⟨rfl,rfl,tV⟩,[],rfl,.inl rfl⟩
  have h24:=cF hq13 hb
  refine go hΓ 6 rfl ?_
  refine Kfp rfl (fun hb=>?_) (fun hb=>?_)
  ·have h25:=cT h24 hb
   refine go hΓ 3 rfl ?_
   refine Ksu hΓ rfl rfl rfl rfl rfl rfl rfl rfl (nBe rfl) ?_
   refine Khe [.box 25 (fQ y11.2),.box 37 [I 0,S [],I 0,I 0,S [],S [],S [],S [],S [],.d (Sl eS []),I 0,I 0,B false],.box 37 [I v_at,S y1.1,I 0,I y3.1,S y5.1,S [],S y9.1,S [],S [],.d (Sl eS []),I 0,I 0,B false]] rfl ?_
   refine Kfm hΓ 2 rfl ?_
   obtain rfl:=oSi h25
   exact⟨⟨rfl,rfl,tV⟩,[],rfl,.inl rfl⟩
  have h26:=cF h24 hb
  refine go hΓ 6 rfl ?_
  refine Kfp rfl (fun hb=>?_) (fun hb=>?_)
  ·have h27:=cT h26 hb
   refine go hΓ 6 rfl ?_
   refine Kgr hΓ (enc:=eS) [y7.1,[98,111,120],[98,111,120],[119,101,98]] rfl rfl rfl rfl rfl rfl rfl rfl rfl rfl rfl rfl (nBe rfl) ?_
   obtain⟨y28,hy28,h29⟩:=Kfw h27
   refine Kgw [0] (S y28.1) [.box 25 (fQ y28.2),.box 37 [I 0,S [],I 0,I 0,S [],S [],S [],S [],S [],.d (Sl eS []),I 0,I 0,B false],.box 37 [I v_at,S y1.1,I 0,I y3.1,S y5.1,S [],S [],S [],S [],.d (Sl eS []),I 0,I 0,B false]] (Lml Tryz.func22 rfl rfl) (Ljc hy28) rfl (nBe rfl) rfl rfl rfl rfl rfl rfl rfl rfl rfl rfl ?_
   refine Kfm hΓ 1 rfl ?_
   refine Ksu hΓ rfl rfl rfl rfl rfl rfl rfl rfl (nBe rfl) ?_
   refine Khe [.box 25 (fQ y28.2),.box 37 [I 0,S [],I 0,I 0,S [],S [],S [],S [],S [],.d (Sl eS []),I 0,I 0,B false],.box 37 [I v_at,S y1.1,I 0,I y3.1,S y5.1,S y7.1,S [],S [],S [],.d (Sl eS []),I 0,I 0,B false]] rfl ?_
   refine Kfm hΓ 1 rfl ?_
   refine Ksu hΓ rfl rfl rfl rfl rfl rfl rfl rfl (nBe rfl) ?_
   refine Khe [.box 25 (fQ y28.2),.box 37 [I 0,S [],I 0,I 0,S [],S [],S [],S [],S [],.d (Sl eS []),I 0,I 0,B false],.box 37 [I v_at,S y1.1,I 0,I y3.1,S y5.1,S y7.1,S [],S y11.1,S [],.d (Sl eS []),I 0,I 0,B false]] rfl ?_
   refine Kfm hΓ 1 rfl ?_
   refine Ksu hΓ rfl rfl rfl rfl rfl rfl rfl rfl (nBe rfl) ?_
   refine Khe [.box 25 (fQ y28.2),.box 37 [I 0,S [],I 0,I 0,S [],S [],S [],S [],S [],.d (Sl eS []),I 0,I 0,B false],.box 37 [I v_at,S y1.1,I 0,I y3.1,S y5.1,S y7.1,S [],S y11.1,S y28.1,.d (Sl eS []),I 0,I 0,B false]] rfl ?_
   obtain⟨y30,hy30,h31⟩:=Kfw h29
   refine Kfm hΓ 5 rfl ?_
   refine Kgw [0] (B y30.1) [.box 25 (fQ y30.2),.box 37 [I 0,S [],I 0,I 0,S [],S [],S [],S [],S [],.d (Sl eS []),I 0,I 0,B false],.box 37 [I v_at,S y1.1,I 0,I y3.1,S y5.1,S y7.1,S [],S y11.1,S y28.1,.d (Sl eS []),I 0,I 0,B false]] (Lml Tryz.func24 rfl rfl) (Lja hy30) rfl (nBe rfl) rfl rfl rfl rfl rfl rfl rfl rfl rfl rfl ?_
   refine Kfm hΓ 2 rfl ?_
   refine Kfp rfl (fun hb=>?_) (fun hb=>?_)
   ·have h32:=cT h31 hb
    refine go hΓ 4 rfl ?_
    refine Ksu hΓ rfl rfl rfl rfl rfl rfl rfl rfl (nBe rfl) ?_
    refine Khe [.box 25 (fQ y30.2),.box 37 [I 0,S [],I 0,I 0,S [],S [],S [],S [],S [],.d (Sl eS []),I 0,I 0,B false],.box 37 [I v_at,S y1.1,I 0,I y3.1,S y5.1,S y7.1,S y9.1,S y11.1,S y28.1,.d (Sl eS []),I 0,I 0,B false]] rfl ?_
    obtain⟨y33,hy33,h34⟩:=Kfw h32
    refine Kfm hΓ 5 rfl ?_
    refine Kgw [0] (B y33.1) [.box 25 (fQ y33.2),.box 37 [I 0,S [],I 0,I 0,S [],S [],S [],S [],S [],.d (Sl eS []),I 0,I 0,B false],.box 37 [I v_at,S y1.1,I 0,I y3.1,S y5.1,S y7.1,S y9.1,S y11.1,S y28.1,.d (Sl eS []),I 0,I 0,B false]] (Lml Tryz.func24 rfl rfl) (Lja hy33) rfl (nBe rfl) rfl rfl rfl rfl rfl rfl rfl rfl rfl rfl ?_
    refine Kfm hΓ 3 rfl ?_
    refine Kfp rfl (fun hb=>?_) (fun hb=>?_)
    ·have h35:=cT h34 hb
     refine go hΓ 2 rfl ?_
     refine Ksu hΓ rfl rfl rfl rfl rfl rfl rfl rfl (nBe rfl) ?_
     refine Khe [.box 25 (fQ y33.2),.box 37 [I 0,S [],I 0,I 0,S [],S [],S [],S [],S [],.d (Sl eS []),I 0,I 0,B false],.box 37 [I v_at,S y1.1,I 0,I y3.1,S [],S y7.1,S y9.1,S y11.1,S y28.1,.d (Sl eS []),I 0,I 0,B false]] rfl ?_
     refine Kfm hΓ 2 rfl ?_
     obtain rfl:=oSi h35
     exact⟨⟨rfl,rfl,tV⟩,[],rfl,.inl rfl⟩
    have h36:=cF h34 hb
    refine go hΓ 2 rfl ?_
    obtain rfl:=oSi h36
    exact⟨⟨rfl,rfl,tV⟩,[],rfl,.inl rfl⟩
   have h37:=cF h31 hb
   refine go hΓ 2 rfl ?_
   obtain rfl:=oSi h37
   exact⟨⟨rfl,rfl,tV⟩,[],rfl,.inl rfl⟩
  have h38:=cF h26 hb
  refine go hΓ 6 rfl ?_
  refine Kfp rfl (fun hb=>?_) (fun hb=>?_)
  ·have h39:=cT h38 hb
   refine go hΓ 4 rfl ?_
   refine Ksu hΓ rfl rfl rfl rfl rfl rfl rfl rfl (nBe rfl) ?_
   refine Khe [.box 25 (fQ y11.2),.box 37 [I 0,S [],I 0,I 0,S [],S [],S [],S [],S [],.d (Sl eS []),I 0,I 0,B false],.box 37 [I v_at,S y1.1,I 0,I y3.1,S y5.1,S y7.1,S [],S [],S [],.d (Sl eS []),I 0,I 0,B false]] rfl ?_
   refine Kfm hΓ 1 rfl ?_
   refine Ksu hΓ rfl rfl rfl rfl rfl rfl rfl rfl (nBe rfl) ?_
   refine Khe [.box 25 (fQ y11.2),.box 37 [I 0,S [],I 0,I 0,S [],S [],S [],S [],S [],.d (Sl eS []),I 0,I 0,B false],.box 37 [I v_at,S y1.1,I 0,I y3.1,S y5.1,S y7.1,S [],S y11.1,S [],.d (Sl eS []),I 0,I 0,B false]] rfl ?_
   refine Kfm hΓ 2 rfl ?_
   obtain rfl:=oSi h39
   exact⟨⟨rfl,rfl,tV⟩,[],rfl,.inl rfl⟩
  have h40:=cF h38 hb
  refine go hΓ 6 rfl ?_
  refine Kfp rfl (fun hb=>?_) (fun hb=>?_)
  ·have h41:=cT h40 hb
   refine go hΓ 3 rfl ?_
   refine Kgr hΓ (enc:=eS) [[98,111,120],[119,101,98],[109,97,99]] rfl rfl rfl rfl rfl rfl rfl rfl rfl rfl rfl rfl (nBe rfl) ?_
   obtain⟨y42,hy42,h43⟩:=Kfw h41
   refine Kgw [0] (S y42.1) [.box 25 (fQ y42.2),.box 37 [I 0,S [],I 0,I 0,S [],S [],S [],S [],S [],.d (Sl eS []),I 0,I 0,B false],.box 37 [I v_at,S y1.1,I 0,I y3.1,S y5.1,S [],S [],S [],S [],.d (Sl eS []),I 0,I 0,B false]] (Lml Tryz.func22 rfl rfl) (Ljc hy42) rfl (nBe rfl) rfl rfl rfl rfl rfl rfl rfl rfl rfl rfl ?_
   refine Kfm hΓ 1 rfl ?_
   refine Ksu hΓ rfl rfl rfl rfl rfl rfl rfl rfl (nBe rfl) ?_
   refine Khe [.box 25 (fQ y42.2),.box 37 [I 0,S [],I 0,I 0,S [],S [],S [],S [],S [],.d (Sl eS []),I 0,I 0,B false],.box 37 [I v_at,S y1.1,I 0,I y3.1,S y5.1,S y7.1,S [],S [],S [],.d (Sl eS []),I 0,I 0,B false]] rfl ?_
   refine Kfm hΓ 1 rfl ?_
   refine Ksu hΓ rfl rfl rfl rfl rfl rfl rfl rfl (nBe rfl) ?_
   refine Khe [.box 25 (fQ y42.2),.box 37 [I 0,S [],I 0,I 0,S [],S [],S [],S [],S [],.d (Sl eS []),I 0,I 0,B false],.box 37 [I v_at,S y1.1,I 0,I y3.1,S y5.1,S y7.1,S [],S [],S y42.1,.d (Sl eS []),I 0,I 0,B false]] rfl ?_
   refine Kfm hΓ 2 rfl ?_
   obtain rfl:=oSi h43
   exact⟨⟨rfl,rfl,tV⟩,[],rfl,.inl rfl⟩
  have h44:=cF h40 hb
  refine go hΓ 6 rfl ?_
  refine Kfp rfl (fun hb=>?_) (fun hb=>?_)
  ·have h45:=cT h44 hb
   obtain⟨y46,hy46,h47⟩:=Kfw h45
   refine go hΓ 3 rfl ?_
   refine Kgw [0] (.d (Sl eS y46.1)) [.box 25 (fQ y46.2),.box 37 [I 0,S [],I 0,I 0,S [],S [],S [],S [],S [],.d (Sl eS []),I 0,I 0,B false],.box 37 [I v_at,S y1.1,I 0,I y3.1,S y5.1,S [],S [],S [],S [],.d (Sl eS []),I 0,I 0,B false]] (Lml Tryz.func84 rfl rfl) (Ljf hy46) rfl (nBe rfl) rfl rfl rfl rfl rfl rfl rfl rfl rfl rfl ?_
   refine Kfm hΓ 1 rfl ?_
   refine Ksu hΓ rfl rfl rfl rfl rfl rfl rfl rfl (nBe rfl) ?_
   refine Khe [.box 25 (fQ y46.2),.box 37 [I 0,S [],I 0,I 0,S [],S [],S [],S [],S [],.d (Sl eS []),I 0,I 0,B false],.box 37 [I v_at,S y1.1,I 0,I y3.1,S y5.1,S y7.1,S [],S [],S [],.d (Sl eS []),I 0,I 0,B false]] rfl ?_
   refine Kfm hΓ 1 rfl ?_
   refine Ksu hΓ rfl rfl rfl rfl rfl rfl rfl rfl (nBe rfl) ?_
   refine Khe [.box 25 (fQ y46.2),.box 37 [I 0,S [],I 0,I 0,S [],S [],S [],S [],S [],.d (Sl eS []),I 0,I 0,B false],.box 37 [I v_at,S y1.1,I 0,I y3.1,S y5.1,S y7.1,S [],S [],S [],.d (Sl eS y46.1),I 0,I 0,B false]] rfl ?_
   refine Kfm hΓ 2 rfl ?_
   obtain rfl:=oSi h47
   exact⟨⟨rfl,rfl,tV⟩,[],rfl,.inl rfl⟩
  have h48:=cF h44 hb
  refine go hΓ 3 rfl ?_
  refine Ksu hΓ rfl rfl rfl rfl rfl rfl rfl rfl (nBe rfl) ?_
  refine Khe [.box 25 (fQ y11.2),.box 37 [I 0,S [],I 0,I 0,S [],S [],S [],S [],S [],.d (Sl eS []),I 0,I 0,B false],.box 37 [I v_at,S y1.1,I 0,I y3.1,S y5.1,S y7.1,S [],S [],S [],.d (Sl eS []),I 0,I 0,B false]] rfl ?_
  refine Kfm hΓ 2 rfl ?_
  obtain rfl:=oSi h48
  exact⟨⟨rfl,rfl,tV⟩,[],rfl,.inl rfl⟩
 refine go hΓ 4 rfl ?_
 refine Ksu hΓ rfl rfl rfl rfl rfl rfl rfl rfl (nBe rfl) ?_
 refine Khe [.box 25 (fQ q13.1),.box 37 (fS q13.2),.box 37 (fS q13.2)] rfl ?_
 refine Kfm hΓ 3 rfl ?_
 obtain rfl:=oSi h14
 exact Khj hΓ [_,_] (.inr rfl) rfl rfl rfl rfl (.inr ⟨HB.mk rfl,rfl⟩)
theorem Ljh{x:Int}{r:Bool}(h:Lcv x=some r):Pure Tryz.prog 251 [I x] (B r):=by
 refine Pure.enter (Fr.of 0 _) Tryz.func251 rfl (Fr.of_ok _) rfl rfl ?_
 refine Kfo ?_
 unfold Lcv at h
 refine go hΓ 14 rfl ?_
 obtain rfl:=oSi h
 exact Khi hΓ (.inr rfl) rfl rfl
theorem Lji{x:Int}{y:Int}{r:Int}(h:Lcw x y=some r):Pure Tryz.prog 167 [I x,I y] (I r):=by
 refine Pure.enter (Fr.of 0 _) Tryz.func167 rfl (Fr.of_ok _) rfl rfl ?_
 refine Kfo ?_
 unfold Lcw at h
 obtain⟨y1,hy1,h2⟩:=Kfw h
 refine go hΓ 8 rfl ?_
 refine Kgx (Lml Tryz.func251 rfl rfl) (Ljh hy1) rfl (nBe rfl) rfl rfl rfl rfl rfl ?_
 obtain⟨y3,hy3,h4⟩:=Kfw h2
 refine Kfm hΓ 6 rfl ?_
 refine Kgx (Lml Tryz.func251 rfl rfl) (Ljh hy3) rfl (nBe rfl) rfl rfl rfl rfl rfl ?_
 refine Kfm hΓ 9 rfl ?_
 refine Kfp rfl (fun hb=>?_) (fun hb=>?_)
 ·have h5:=cT h4 hb
  refine go hΓ 6 rfl ?_
  refine Kfp rfl (fun hb=>?_) (fun hb=>?_)
  ·have h6:=cT h5 hb
   refine go hΓ 8 rfl ?_
   obtain rfl:=oSi h6
   exact Khi hΓ (.inr rfl) rfl rfl
  have h7:=cF h5 hb
  refine go hΓ 9 rfl ?_
  obtain rfl:=oSi h7
  exact Khi hΓ (.inr rfl) rfl rfl
 have h8:=cF h4 hb
 refine go hΓ 8 rfl ?_
 refine Kfp rfl (fun hb=>?_) (fun hb=>?_)
 ·have h9:=cT h8 hb
  refine go hΓ 7 rfl ?_
  obtain rfl:=oSi h9
  exact Khi hΓ (.inr rfl) rfl rfl
 have h10:=cF h8 hb
 refine go hΓ 10 rfl ?_
 refine Kfp rfl (fun hb=>?_) (fun hb=>?_)
 ·have h11:=cT h10 hb
  refine go hΓ 7 rfl ?_
  obtain rfl:=oSi h11
  exact Khi hΓ (.inr rfl) rfl rfl
 have h12:=cF h10 hb
 refine go hΓ 10 rfl ?_
 refine Kfp rfl (fun hb=>?_) (fun hb=>?_)
 ·have h13:=cT h12 hb
  refine go hΓ 7 rfl ?_
  obtain rfl:=oSi h13
  exact Khi hΓ (.inr rfl) rfl rfl
 have h14:=cF h12 hb
 refine go hΓ 8 rfl ?_
 obtain rfl:=oSi h14
 exact Khi hΓ (.inr rfl) rfl rfl
theorem Ljj{vals:List Int}{r:Int}(h:Lcx vals=some r):Pure Tryz.prog 196 [.d (Sl (eN .i64) vals)] (I r):=by
 refine Pure.enter (Fr.of 0 _) Tryz.func196 rfl (Fr.of_ok _) rfl rfl ?_
 refine Kfo ?_
 unfold Lcx at h
 refine go hΓ 18 rfl ?_
 obtain⟨q4,hq4,h5⟩:=Kfw h
 refine Kgf 6 rfl fun hb7=>?_
 refine Kjq (R:=fun a6=>q4=.go a6) (fun a6=>[(3,I 0)]) (fun a6=>[]) ?_ ?_
 ·refine go hΓ 1 rfl ?_
  refine Kge vals hq4 (fun i1 s2=>[(3,I 0),(6,.d (Sl (eN .i64) vals)),(7,I (vals.length:Int)),(8,I (i1:Int))]) (fun s2=>[]) ⟨⟨rfl,rfl,rfl,rfl,tV⟩,[],rfl,.inl rfl⟩ (fun i1 x3 s2 y11 hx8 hlt hy9 hout10=>?_) (fun s2 hgo=>?_)
  ·refine go hΓ 6 rfl ?_
   refine Kfq rfl (decide_eq_true (Int.ofNat_lt.2 hlt)) ?_
   refine go hΓ 6 rfl ?_
   refine eo_o rfl (Kgg hΓ (enc:=(eN .i64)) (Kfz hx8) rfl rfl rfl rfl rfl (fun _=>rfl)) ?_
   refine Kfm hΓ 11 rfl ?_
   refine Kfp rfl (fun hb=>?_) (fun hb=>?_)
   ·have h12:=cT hy9 hb
    refine go hΓ 9 rfl ?_
    obtain⟨v13,hv13,h14⟩:=Kfw h12
    obtain rfl:=oSi h14
    obtain rfl:=hout10 _ rfl
    obtain rfl:=oSi h5
    refine go hΓ 4 rfl ?_
    obtain rfl:=oSi hv13
    exact Khi hΓ (.inr rfl) rfl rfl
   have h15:=cF hy9 hb
   refine go hΓ 7 rfl ?_
   obtain rfl:=oSi h15
   exact⟨_,rfl,⟨⟨rfl,rfl,rfl,Kew rfl (Kev (nLl hlt hb7)),tV⟩,[],rfl,.inl rfl⟩⟩
  subst hgo
  refine go hΓ 6 rfl ?_
  refine Kfr rfl (decide_eq_false (Int.lt_irrefl _)) ?_
  refine go hΓ 4 rfl ?_
  exact⟨_,rfl,⟨⟨rfl,tV⟩,[],rfl,.inl rfl⟩⟩
 intro a6 ha
 subst ha
 replace h5:=Kjl h5
 refine go hΓ 8 rfl ?_
 obtain rfl:=oSi h5
 exact Khi hΓ (.inr rfl) rfl rfl
theorem Ljk{a:Lby}{b:Lby}{r:Int}(h:Lcy a b=some r):Pure Tryz.prog 96 [.agg (fS a),.agg (fS b)] (I r):=by
 refine Pure.enter (Fr.of 0 _) Tryz.func96 rfl (Fr.of_ok _) rfl rfl ?_
 refine Kfo ?_
 unfold Lcy at h
 refine go hΓ 2 rfl ?_
 refine Ksq rfl rfl rfl rfl (nBe rfl) ?_
 refine Ksq rfl rfl rfl rfl (nBe rfl) ?_
 refine Kfm hΓ 4 rfl ?_
 refine Kfs hmix (by kernel_rfl) ?_
 obtain⟨y1,hy1,h2⟩:=Kfw h
 refine go hΓ 4 rfl ?_
 refine Kgy (Lml Tryz.func167 rfl rfl) (Lji hy1) rfl rfl rfl rfl rfl rfl ?_
 obtain⟨y3,hy3,h4⟩:=Kfw h2
 refine Kfn hΓ 4 rfl ?_
 refine Kgy (Lml Tryz.func147 rfl rfl) (Lbm hy3) rfl rfl rfl rfl rfl rfl ?_
 obtain⟨y5,hy5,h6⟩:=Kfw h4
 refine Kfn hΓ 4 rfl ?_
 refine Kgy (Lml Tryz.func167 rfl rfl) (Lji hy5) rfl rfl rfl rfl rfl rfl ?_
 refine Kgs hΓ (enc:=(eN .i64)) [y1,y3,y5] rfl rfl rfl rfl rfl rfl rfl rfl rfl rfl rfl rfl ?_
 obtain⟨y7,hy7,h8⟩:=Kfw h6
 refine Kgy (Lml Tryz.func196 rfl rfl) (Ljj hy7) rfl rfl rfl rfl rfl rfl ?_
 refine Kfn hΓ 4 rfl ?_
 obtain rfl:=oSi h8
 exact Khi hΓ (.inr rfl) rfl rfl
theorem Ljl{k:Nat}{data:List Lby}{a:Int}{b:Int}{r:List Lby}(h:Lcz k data a b=some r):EC Tryz.prog 280 [.sl 0 data.length,I a,I b,.fn (.func 96) [] []] [rO 37 13 Lil data] fun g hp'=>g=.tup []∧hp'=[rO 37 13 Lil r]:=by
 refine Krb (Fr.of 0 _) Tryz.func280 rfl (Fr.of_ok _) (nBe rfl) fun _=>?_
 refine Kfo ?_
 unfold Lcz at h
 refine go hΓ 7 rfl ?_
 obtain⟨q4,hq4,h5⟩:=Kfw h
 refine Kjr [] [rO 37 13 Lil q4] ?_ ?_
 ·refine go hΓ 1 rfl ?_
  refine Kgc hq4 (fun s2=>[(0,.sl 0 s2.1.length),(1,I a),(2,I b),(3,.fn (.func 96) [] []),(8,I s2.2)]) (fun s2=>[rO 37 13 Lil s2.1]) ⟨⟨rfl,rfl,rfl,rfl,rfl,tV⟩,[],rfl,.inl rfl⟩ (fun s2 y10 hy8 hout9=>?_)
  refine go hΓ 8 rfl ?_
  refine Kfp rfl (fun hb=>?_) (fun hb=>?_)
  ·have h11:=cT hy8 hb
   refine go hΓ 10 rfl ?_
   obtain⟨q15,hq15,h16⟩:=Kfw h11
   refine Kjr [(0,.sl 0 q15.length),(1,I a),(2,I b),(3,.fn (.func 96) [] []),(8,I s2.2)] [rO 37 13 Lil q15] ?_ ?_
   ·refine go hΓ 1 rfl ?_
    refine Kgc hq15 (fun s13=>[(0,.sl 0 s13.1.length),(1,I a),(2,I b),(3,.fn (.func 96) [] []),(8,I s2.2),(9,I s13.2)]) (fun s13=>[rO 37 13 Lil s13.1]) ⟨⟨rfl,rfl,rfl,rfl,rfl,rfl,tV⟩,[],rfl,.inl rfl⟩ (fun s13 y21 hy19 hout20=>?_)
    obtain⟨q22,hq22,h23⟩:=Kfw hy19
    refine go hΓ 2 rfl ?_
    refine Kjr [(0,.sl 0 s13.1.length),(1,I a),(2,I b),(3,.fn (.func 96) [] []),(8,I s2.2),(9,I s13.2),(34,B q22)] [rO 37 13 Lil s13.1] ?_ ?_
    ·refine Kfs hmix (by kernel_rfl) ?_
     refine go hΓ 4 rfl ?_
     refine Kee rfl rfl (fun hb=>?_) (fun hb=>?_)
     ·have h24:=cT hq22 hb
      obtain⟨x25,hx25,h26⟩:=Kfw h24
      have hj27:=Khn hx25
      refine Kfn hΓ 3 rfl ?_
      refine Kez rfl rfl (Kgi hΓ hx25 rfl rfl rfl rfl rfl rfl) ?_
      refine Kez rfl rfl (Kgo hΓ (enc:=Lil) s13.2.toNat 0 hj27 rfl rfl rfl rfl (fun _=>rfl) (g:=.agg (fS x25)) rfl) ?_
      obtain⟨x28,hx28,h29⟩:=Kfw h26
      have hj30:=Khn hx28
      refine Kfn hΓ 3 rfl ?_
      refine Kez rfl rfl (Kgi hΓ hx28 rfl rfl rfl rfl rfl rfl) ?_
      refine Kez rfl rfl (Kgo hΓ (enc:=Lil) ((wi (s13.2 - 1)).toNat) 0 hj30 rfl rfl rfl rfl (fun _=>rfl) (g:=.agg (fS x28)) rfl) ?_
      obtain⟨y31,hy31,h32⟩:=Kfw h29
      refine Kgz (Lml Tryz.func96 rfl rfl) (Ljk hy31) rfl rfl rfl rfl rfl rfl rfl ?_
      refine Kfn hΓ 3 rfl ?_
      obtain rfl:=oSi h32
      exact⟨⟨rfl,rfl,rfl,rfl,rfl,rfl,rfl,tV⟩,[],rfl,.inl rfl⟩
     have h33:=cF hq22 hb
     refine Kfn hΓ 14 rfl ?_
     obtain rfl:=oSi h33
     exact⟨⟨rfl,rfl,rfl,rfl,rfl,rfl,rfl,tV⟩,[],rfl,.inl rfl⟩
    refine go hΓ 1 rfl ?_
    refine Kfp rfl (fun hb=>?_) (fun hb=>?_)
    ·have h34:=cT h23 hb
     refine go hΓ 4 rfl ?_
     refine Kir [rO 37 13 Lil s13.1] [9,13] [15,17] [15,17] hmix (by kernel_rfl) (by kernel_rfl) ⟨rfl,tV⟩ (nBe rfl) ?_
     obtain⟨x35,hx35,h36⟩:=Kfw h34
     have hj37:=Khn hx35
     refine go_E hΓ 8 rfl ?_
     refine ge_q rfl (.inl rfl) (fun _ _=>Kiu (qt_p (Kgi hΓ hx35 rfl rfl rfl rfl rfl rfl))) ?_
     refine ge_p rfl (fun hp hs=>Kgo hΓ (enc:=Lil) ((wi (s13.2 - 1)).toNat) 0 hj37 rfl rfl rfl (hs 0 _ rfl rfl) (fun _=>rfl) (g:=.agg (fS x35)) rfl) rfl ?_
     obtain⟨x38,hx38,h39⟩:=Kfw h36
     have hj40:=Khn hx38
     refine go_E hΓ 2 rfl ?_
     refine ge_q rfl (.inl rfl) (fun _ _=>Kiu (qt_p (Kgi hΓ hx38 rfl rfl rfl rfl rfl rfl))) ?_
     refine ge_p rfl (fun hp hs=>Kgo hΓ (enc:=Lil) s13.2.toNat 0 hj40 rfl rfl rfl (hs 0 _ rfl rfl) (fun _=>rfl) (g:=.agg (fS x38)) rfl) rfl ?_
     obtain⟨x41,hx41,h42⟩:=Kfw h39
     have hj43:=Khn hx41
     refine ge_q rfl (.inl rfl) (fun _ _=>Kiu (qt_p (Kgi hΓ hx41 rfl rfl rfl rfl rfl rfl))) ?_
     refine Kiw [rO 37 13 Lil (s13.1.set s13.2.toNat x35)] rfl rfl (Kix rfl) (Kjc (Kjx hΓ (enc:=Lil) (z':=x35) s13.2.toNat (by have:=(gEs.1 hj43).1;simpa using this) rfl rfl rfl rfl (fun _=>rfl) rfl rfl rfl rfl rfl)) ?_
     obtain⟨x44,hx44,h45⟩:=Kfw h42
     have hj46:=Khn hx44
     refine ge_q rfl (.inl rfl) (fun _ _=>Kiu (qt_p (Kgi hΓ hx44 rfl rfl rfl rfl rfl rfl))) ?_
     obtain⟨x47,hx47,h48⟩:=Kfw h45
     have hj49:(s13.1.set s13.2.toNat x35)[(wi (s13.2 - 1)).toNat]?=some x47:=hx47
     refine Kiw [rO 37 13 Lil ((s13.1.set s13.2.toNat x35).set ((wi (s13.2 - 1)).toNat) x38)] rfl rfl (Kix rfl) (Kjc (Kjx hΓ (enc:=Lil) (z':=x38) ((wi (s13.2 - 1)).toNat) (by have:=(gEs.1 hj49).1;simpa using this) rfl rfl rfl rfl (fun _=>rfl) rfl rfl rfl rfl rfl)) ?_
     refine Kit ?_
     refine go hΓ 2 rfl ?_
     refine Kjy 0 (n':=((s13.1.set s13.2.toNat x35).set ((wi (s13.2 - 1)).toNat) x38).length) rfl (by simp) ?_
     refine Kjy 37 (n':=((s13.1.set s13.2.toNat x35).set ((wi (s13.2 - 1)).toNat) x38).length) rfl (by simp) ?_
     refine Kjy 39 (n':=((s13.1.set s13.2.toNat x35).set ((wi (s13.2 - 1)).toNat) x38).length) rfl (by simp) ?_
     refine Kjy 42 (n':=((s13.1.set s13.2.toNat x35).set ((wi (s13.2 - 1)).toNat) x38).length) rfl (by simp) ?_
     refine Kjy 47 (n':=((s13.1.set s13.2.toNat x35).set ((wi (s13.2 - 1)).toNat) x38).length) rfl (by simp) ?_
     refine go hΓ 5 rfl ?_
     obtain rfl:=oSi h48
     exact⟨_,rfl,⟨⟨rfl,rfl,rfl,rfl,rfl,rfl,tV⟩,[],rfl,.inl rfl⟩⟩
    have h50:=cF h23 hb
    refine go hΓ 4 rfl ?_
    obtain rfl:=oSi h50
    obtain rfl:=hout20 _ rfl
    exact⟨⟨rfl,rfl,rfl,rfl,rfl,tV⟩,[],rfl,.inl rfl⟩
   refine go hΓ 7 rfl ?_
   obtain rfl:=oSi h16
   exact⟨_,rfl,⟨⟨rfl,rfl,rfl,rfl,rfl,tV⟩,[],rfl,.inl rfl⟩⟩
  have h51:=cF hy8 hb
  refine go hΓ 4 rfl ?_
  obtain rfl:=oSi h51
  obtain rfl:=hout9 _ rfl
  exact⟨tV,[],rfl,.inl rfl⟩
 obtain rfl:=oSi h5
 exact Khj hΓ [] (.inl rfl) rfl rfl rfl rfl (.inl rfl)
theorem Ljm{k:Nat}{data:List Lby}{n:Int}{r:List Lby}(h:Lda k data n=some r):EC Tryz.prog 205 [.sl 0 data.length,I n,.fn (.func 96) [] []] [rO 37 13 Lil data] fun g hp'=>g=.tup []∧hp'=[rO 37 13 Lil r]:=by
 refine Krb (Fr.of 0 _) Tryz.func205 rfl (Fr.of_ok _) (nBe rfl) fun _=>?_
 refine Kfo ?_
 unfold Lda at h
 refine go hΓ 13 rfl ?_
 obtain⟨q4,hq4,h5⟩:=Kfw h
 refine Kjr [(0,.sl 0 q4.1.length),(1,I n),(2,.fn (.func 96) [] []),(6,I 20),(7,I q4.2)] [rO 37 13 Lil q4.1] ?_ ?_
 ·refine go hΓ 1 rfl ?_
  refine Kgc hq4 (fun s2=>[(0,.sl 0 s2.1.length),(1,I n),(2,.fn (.func 96) [] []),(6,I 20),(7,I s2.2.1),(8,I s2.2.2)]) (fun s2=>[rO 37 13 Lil s2.1]) ⟨⟨rfl,rfl,rfl,rfl,rfl,rfl,tV⟩,[],rfl,.inl rfl⟩ (fun s2 y10 hy8 hout9=>?_)
  refine go hΓ 8 rfl ?_
  refine Kfp rfl (fun hb=>?_) (fun hb=>?_)
  ·have h11:=cT hy8 hb
   obtain⟨y12,hy12,h13⟩:=Kfw h11
   refine go hΓ 9 rfl ?_
   refine Kgw [0] (.tup []) [rO 37 13 Lil y12] (Lml Tryz.func280 rfl rfl) (Ljl hy12) rfl (nBe rfl) rfl rfl rfl rfl rfl rfl rfl rfl rfl rfl ?_
   obtain⟨hg15,h14⟩:=Kfx h13
   refine Kju 0 rfl (of_decide_eq_true hg15).symm ?_
   refine Kfm hΓ 15 rfl ?_
   obtain rfl:=oSi h14
   exact⟨_,rfl,⟨⟨rfl,rfl,rfl,rfl,rfl,rfl,tV⟩,[],rfl,.inl rfl⟩⟩
  have h16:=cF hy8 hb
  refine go hΓ 4 rfl ?_
  obtain rfl:=oSi h16
  obtain rfl:=hout9 _ rfl
  exact⟨⟨rfl,rfl,rfl,rfl,rfl,tV⟩,[],rfl,.inl rfl⟩
 obtain⟨y17,hy17,h18⟩:=Kfw h5
 refine go hΓ 7 rfl ?_
 refine Kgw [0] (.tup []) [rO 37 13 Lil y17] (Lml Tryz.func280 rfl rfl) (Ljl hy17) rfl (nBe rfl) rfl rfl rfl rfl rfl rfl rfl rfl rfl rfl ?_
 obtain⟨hg20,h19⟩:=Kfx h18
 refine Kju 0 rfl (of_decide_eq_true hg20).symm ?_
 refine Kfm hΓ 2 rfl ?_
 obtain⟨q24,hq24,h25⟩:=Kfw h19
 refine Kjr [] [rO 37 13 Lil y17] ?_ ?_
 ·refine go hΓ 1 rfl ?_
  refine Kgc hq24 (fun s22=>[(0,.sl 0 y17.length),(1,I n),(2,.fn (.func 96) [] []),(6,I s22)]) (fun s22=>[rO 37 13 Lil y17]) ⟨⟨rfl,rfl,rfl,rfl,tV⟩,[],rfl,.inl rfl⟩ (fun s22 y30 hy28 hout29=>?_)
  refine go hΓ 8 rfl ?_
  refine Kfp rfl (fun hb=>?_) (fun hb=>?_)
  ·have h31:=cT hy28 hb
   refine go hΓ 12 rfl ?_
   obtain⟨q35,hq35,h36⟩:=Kfw h31
   refine Kjr [(0,.sl 0 y17.length),(1,I n),(2,.fn (.func 96) [] []),(6,I s22),(7,I 0)] [rO 37 13 Lil y17] ?_ ?_
   ·refine go hΓ 1 rfl ?_
    refine Kgc hq35 (fun s33=>[(0,.sl 0 y17.length),(1,I n),(2,.fn (.func 96) [] []),(6,I s22),(7,I 0),(8,I (wi (2 * s22)))]) (fun s33=>[rO 37 13 Lil y17]) ⟨⟨rfl,rfl,rfl,rfl,rfl,rfl,tV⟩,[],rfl,.inl rfl⟩ (fun s33 y41 hy39 hout40=>?_)
    refine go hΓ 8 rfl ?_
    refine Kfp rfl (fun hb=>?_) (fun hb=>?_)
    ·have h42:=cT hy39 hb
     refine go hΓ 12 rfl ?_
     cases h42
    have h43:=cF hy39 hb
    refine go hΓ 4 rfl ?_
    obtain rfl:=oSi h43
    obtain rfl:=hout40 _ rfl
    exact⟨⟨rfl,rfl,rfl,rfl,rfl,tV⟩,[],rfl,.inl rfl⟩
   refine go hΓ 17 rfl ?_
   refine Kfp rfl (fun hb=>?_) (fun hb=>?_)
   ·have h44:=cT h36 hb
    refine go hΓ 6 rfl ?_
    cases h44
   have h45:=cF h36 hb
   refine go hΓ 8 rfl ?_
   obtain rfl:=oSi h45
   exact⟨_,rfl,⟨⟨rfl,rfl,rfl,rfl,tV⟩,[],rfl,.inl rfl⟩⟩
  have h46:=cF hy28 hb
  refine go hΓ 4 rfl ?_
  obtain rfl:=oSi h46
  obtain rfl:=hout29 _ rfl
  exact⟨tV,[],rfl,.inl rfl⟩
 obtain rfl:=oSi h25
 exact Khj hΓ [] (.inl rfl) rfl rfl rfl rfl (.inl rfl)
theorem Ljn{k:Nat}{x:List Lby}{r:List Lby}(h:Ldb k x=some r):EC Tryz.prog 99 [.sl 0 x.length,.fn (.func 96) [] []] [rO 37 13 Lil x] fun g hp'=>g=.tup []∧hp'=[rO 37 13 Lil r]:=by
 refine Krb (Fr.of 0 _) Tryz.func99 rfl (Fr.of_ok _) (nBe rfl) fun _=>?_
 refine Kfo ?_
 unfold Ldb at h
 obtain⟨y1,hy1,h2⟩:=Kfw h
 refine go hΓ 5 rfl ?_
 refine Kgw [0] (.tup []) [rO 37 13 Lil y1] (Lml Tryz.func205 rfl rfl) (Ljm hy1) rfl (nBe rfl) rfl rfl rfl rfl rfl rfl rfl rfl rfl rfl ?_
 refine Kfm hΓ 1 rfl ?_
 obtain rfl:=oSi h2
 exact Khj hΓ [] (.inl rfl) rfl rfl rfl rfl (.inl rfl)
theorem Ljo{k:Nat}{s:Lbv}{many:Int}{r:(List Lby)×Lbv}(h:Ldc k s many=some r):EC Tryz.prog 23 [.ptr 0 0,I many] [.box 25 (fQ s)] fun g hp'=>g=.sl 1 r.1.length∧hp'=[.box 25 (fQ r.2),rO 37 13 Lil r.1]:=by
 refine Klr (Fr.of 0 _) Tryz.func23 rfl (Fr.of_ok _) (nBe rfl) fun _=>?_
 refine Kfo ?_
 unfold Ldc at h
 refine go hΓ 2 rfl ?_
 refine Kgu (t:=0) 37 13 rfl (nBe rfl) ?_
 refine Kfm hΓ 4 rfl ?_
 refine Kgu (t:=0) 37 13 rfl (nBe rfl) ?_
 refine Kfm hΓ 4 rfl ?_
 refine eo_s (nBe rfl) (nblt.1 rfl) (Kkn false) ?_
 refine Khe [.box 25 (fQ s),rO 37 13 Lil ([]:List Lby),rO 37 13 Lil ([]:List Lby),mOb kS false (eN .i64) ([]:List (Str×Int))] rfl ?_
 obtain⟨y1,hy1,h2⟩:=Kfw h
 refine Kfm hΓ 6 rfl ?_
 refine Kgw [0] (I y1.1) [.box 25 (fQ y1.2),rO 37 13 Lil ([]:List Lby),rO 37 13 Lil ([]:List Lby),mOb kS false (eN .i64) ([]:List (Str×Int))] (Lml Tryz.func26 rfl rfl) (Lix hy1) rfl (nBe rfl) rfl rfl rfl rfl rfl rfl rfl rfl rfl rfl ?_
 refine Kfm hΓ 10 rfl ?_
 obtain⟨q6,hq6,h7⟩:=Kfw h2
 obtain⟨hb9,h10⟩:=Kfx hq6
 replace hb9:=of_decide_eq_true hb9
 refine Kjr [(0,.ptr 0 0),(5,.sl 2 q6.2.1.length)] [.box 25 (fQ q6.1),rO 37 13 Lil ([]:List Lby),rO 37 13 Lil q6.2.1,mOb kS false (eN .i64) q6.2.2.1] ?_ ?_
 ·refine go hΓ 1 rfl ?_
  refine Khm h10 (fun i3 s4=>[(0,.ptr 0 0),(5,.sl 2 s4.2.1.length),(6,.map 3),(7,I s4.2.2.2),(13,I many),(14,I (i3:Int))]) (fun s4=>[.box 25 (fQ s4.1),rO 37 13 Lil ([]:List Lby),rO 37 13 Lil s4.2.1,mOb kS false (eN .i64) s4.2.2.1]) ⟨⟨rfl,rfl,rfl,rfl,rfl,rfl,tV⟩,[],rfl,.inl rfl⟩ (fun i3 s4 y14 hlt hy12=>?_) (fun hge=>?_)
  ·refine go hΓ 6 rfl ?_
   refine Kfq rfl (decide_eq_true hlt) ?_
   obtain⟨y15,hy15,h16⟩:=Kfw hy12
   refine go hΓ 8 rfl ?_
   refine Kgw [0] (.agg (fS y15.1)) [.box 25 (fQ y15.2),rO 37 13 Lil ([]:List Lby),rO 37 13 Lil s4.2.1,mOb kS false (eN .i64) s4.2.2.1] (Lml Tryz.func12 rfl rfl) (Ljg hy15) rfl (nBe rfl) rfl rfl rfl rfl rfl rfl rfl rfl rfl rfl ?_
   refine Ksp hΓ rfl rfl rfl (nBe rfl) ?_
   refine Ksu hΓ rfl rfl rfl rfl rfl rfl rfl rfl (nBe rfl) ?_
   refine Khe [.box 25 (fQ y15.2),rO 37 13 Lil ([]:List Lby),rO 37 13 Lil s4.2.1,mOb kS false (eN .i64) s4.2.2.1,.box 37 (fS y15.1)] rfl ?_
   refine Kfm hΓ 7 rfl ?_
   refine eo_o rfl (Kkr hΓ (kv:=kS) (agg:=false) (enc:=(eN .i64)) s4.2.2.1 y15.1.Server (0:Int) rfl rfl rfl rfl Kkh rfl rfl rfl rfl rfl rfl rfl) ?_
   refine Kfm hΓ 1 rfl ?_
   refine eo_u (nBe rfl) (Kkv hΓ (kv:=kS) (agg:=false) (enc:=(eN .i64)) (id:=3) s4.2.2.1 y15.1.Server (wi (((mGet s4.2.2.1 y15.1.Server).getD 0)+1)) rfl rfl rfl Kkh rfl rfl rfl rfl rfl) ?_
   refine Khe [.box 25 (fQ y15.2),rO 37 13 Lil ([]:List Lby),rO 37 13 Lil s4.2.1,mOb kS false (eN .i64) (mSet s4.2.2.1 y15.1.Server (wi (((mGet s4.2.2.1 y15.1.Server).getD 0)+1))),.box 37 (fS y15.1)] rfl ?_
   refine Kfm hΓ 7 rfl ?_
   refine eo_o rfl (Kkr hΓ (kv:=kS) (agg:=false) (enc:=(eN .i64)) (mSet s4.2.2.1 y15.1.Server (wi (((mGet s4.2.2.1 y15.1.Server).getD 0)+1))) y15.1.Server (0:Int) rfl rfl rfl rfl Kkh rfl rfl rfl rfl rfl rfl rfl) ?_
   refine Kfm hΓ 1 rfl ?_
   refine Ksu hΓ rfl rfl rfl rfl rfl rfl rfl rfl (nBe rfl) ?_
   refine Khe [.box 25 (fQ y15.2),rO 37 13 Lil ([]:List Lby),rO 37 13 Lil s4.2.1,mOb kS false (eN .i64) (mSet s4.2.2.1 y15.1.Server (wi (((mGet s4.2.2.1 y15.1.Server).getD 0)+1))),.box 37 [I y15.1.At,S y15.1.Server,I ((mGet (mSet s4.2.2.1 y15.1.Server (wi (((mGet s4.2.2.1 y15.1.Server).getD 0)+1))) y15.1.Server).getD 0),I y15.1.Kind,S y15.1.By,S y15.1.Node,S y15.1.Join,S y15.1.Public,S y15.1.Name,.d (Sl eS y15.1.Tags),I y15.1.Until,I y15.1.Uses,B y15.1.Ready]] rfl ?_
   refine Kfm hΓ 6 rfl ?_
   refine Kgr hΓ (enc:=Lil) [(⟨y15.1.At,y15.1.Server,((mGet (mSet s4.2.2.1 y15.1.Server (wi (((mGet s4.2.2.1 y15.1.Server).getD 0)+1))) y15.1.Server).getD 0),y15.1.Kind,y15.1.By,y15.1.Node,y15.1.Join,y15.1.Public,y15.1.Name,y15.1.Tags,y15.1.Until,y15.1.Uses,y15.1.Ready⟩:Lby)] rfl rfl rfl rfl rfl rfl rfl rfl rfl rfl rfl rfl (nBe rfl) ?_
   obtain⟨y17,hy17,h18⟩:=Kfw h16
   refine Khf hΓ (enc:=Lil) hy17 rfl rfl rfl rfl rfl rfl rfl rfl rfl (fun _=>rfl) rfl rfl rfl rfl ?_
   refine Kfm hΓ 6 rfl ?_
   refine Kgr hΓ (enc:=(eN .i64)) [0,1,1,5,20,60] rfl rfl rfl rfl rfl rfl rfl rfl rfl rfl rfl rfl (nBe rfl) ?_
   obtain⟨y19,hy19,h20⟩:=Kfw h18
   refine Kgw [0] (I y19.1) [.box 25 (fQ y19.2),rO 37 13 Lil ([]:List Lby),rO 37 13 Lil y17,mOb kS false (eN .i64) (mSet s4.2.2.1 y15.1.Server (wi (((mGet s4.2.2.1 y15.1.Server).getD 0)+1))),.box 37 [I y15.1.At,S y15.1.Server,I ((mGet (mSet s4.2.2.1 y15.1.Server (wi (((mGet s4.2.2.1 y15.1.Server).getD 0)+1))) y15.1.Server).getD 0),I y15.1.Kind,S y15.1.By,S y15.1.Node,S y15.1.Join,S y15.1.Public,S y15.1.Name,.d (Sl eS y15.1.Tags),I y15.1.Until,I y15.1.Uses,B y15.1.Ready]] (Lml Tryz.func13 rfl rfl) (Liz hy19) rfl (nBe rfl) rfl rfl rfl rfl rfl rfl rfl rfl rfl rfl ?_
   refine Kfm hΓ 9 rfl ?_
   obtain rfl:=oSi h20
   exact⟨⟨rfl,rfl,rfl,rfl,rfl,Kew rfl (Kev (by omega)),tV⟩,[_],rfl,.inr ⟨HB.mk rfl,FB.mk rfl,(nBe rfl)⟩⟩
  refine go hΓ 6 rfl ?_
  refine Kfr rfl (decide_eq_false hge) ?_
  refine go hΓ 4 rfl ?_
  exact⟨⟨rfl,rfl,tV⟩,[],rfl,.inl rfl⟩
 obtain⟨y21,hy21,h22⟩:=Kfw h7
 refine go hΓ 4 rfl ?_
 refine Kgw [2] (.tup []) [.box 25 (fQ q6.1),rO 37 13 Lil ([]:List Lby),rO 37 13 Lil y21,mOb kS false (eN .i64) q6.2.2.1] (Lml Tryz.func99 rfl rfl) (Ljn hy21) rfl (nBe rfl) rfl rfl rfl rfl rfl rfl rfl rfl rfl rfl ?_
 obtain⟨hg24,h23⟩:=Kfx h22
 refine Kju 5 rfl (of_decide_eq_true hg24).symm ?_
 refine Kfm hΓ 9 rfl ?_
 obtain⟨q25,hq25,h26⟩:=Kfw h23
 refine Kfv 3 [(0,.ptr 0 0),(5,.sl 2 y21.length),(47,B q25.2)] [.box 25 (fQ q25.1),rO 37 13 Lil ([]:List Lby),rO 37 13 Lil y21,mOb kS false (eN .i64) q6.2.2.1] ?_ ?_
 ·refine Krj rfl rfl (fun hb=>?_) (fun hb=>?_)
  ·have h27:=cT hq25 hb
   obtain⟨y28,hy28,h29⟩:=Kfw h27
   refine Kfm hΓ 1 rfl ?_
   refine Krh rfl ?_
   refine Kgw [0] (B y28.1) [.box 25 (fQ y28.2),rO 37 13 Lil ([]:List Lby),rO 37 13 Lil y21,mOb kS false (eN .i64) q6.2.2.1] (Lml Tryz.func24 rfl rfl) (Lja hy28) rfl (nBe rfl) rfl rfl rfl rfl rfl rfl rfl rfl rfl rfl ?_
   refine Kfm hΓ 2 rfl ?_
   obtain rfl:=oSi h29
   exact⟨⟨rfl,rfl,rfl,tV⟩,[],rfl,.inl rfl⟩
  have h30:=cF hq25 hb
  refine Kfm hΓ 4 rfl ?_
  obtain rfl:=oSi h30
  exact⟨⟨rfl,rfl,rfl,tV⟩,[],rfl,.inl rfl⟩
 obtain⟨q31,hq31,h32⟩:=Kfw h26
 refine Kfm hΓ 2 rfl ?_
 refine Kjr [(5,.sl 2 q31.2.length)] [.box 25 (fQ q31.1),rO 37 13 Lil ([]:List Lby),rO 37 13 Lil q31.2,mOb kS false (eN .i64) q6.2.2.1] ?_ ?_
 ·refine Kfp rfl (fun hb=>?_) (fun hb=>?_)
  ·have h33:=cT hq31 hb
   obtain⟨y34,hy34,h35⟩:=Kfw h33
   refine go hΓ 6 rfl ?_
   refine Kgw [0] (I y34.1) [.box 25 (fQ y34.2),rO 37 13 Lil ([]:List Lby),rO 37 13 Lil y21,mOb kS false (eN .i64) q6.2.2.1] (Lml Tryz.func26 rfl rfl) (Lix hy34) rfl (nBe rfl) rfl rfl rfl rfl rfl rfl rfl rfl rfl rfl ?_
   obtain⟨x36,hx36,h37⟩:=Kfw h35
   have hj38:=Khn hx36
   refine eo_o rfl (Kgi hΓ hx36 rfl rfl rfl rfl rfl rfl) ?_
   obtain⟨y39,hy39,h40⟩:=Kfw h37
   refine Kfm hΓ 6 rfl ?_
   refine Kgw [0] (I y39.1) [.box 25 (fQ y39.2),rO 37 13 Lil ([]:List Lby),rO 37 13 Lil y21,mOb kS false (eN .i64) q6.2.2.1] (Lml Tryz.func26 rfl rfl) (Lix hy39) rfl (nBe rfl) rfl rfl rfl rfl rfl rfl rfl rfl rfl rfl ?_
   refine Kfm hΓ 9 rfl ?_
   refine Kfp rfl (fun hb=>?_) (fun hb=>?_)
   ·have h41:=cT h40 hb
    refine go hΓ 3 rfl ?_
    refine Kgr hΓ (enc:=(eN .i64)) [-1,0,345686400] rfl rfl rfl rfl rfl rfl rfl rfl rfl rfl rfl rfl (nBe rfl) ?_
    obtain⟨y42,hy42,h43⟩:=Kfw h41
    refine Kgw [0] (I y42.1) [.box 25 (fQ y42.2),rO 37 13 Lil ([]:List Lby),rO 37 13 Lil y21,mOb kS false (eN .i64) q6.2.2.1] (Lml Tryz.func13 rfl rfl) (Liz hy42) rfl (nBe rfl) rfl rfl rfl rfl rfl rfl rfl rfl rfl rfl ?_
    refine Kfm hΓ 2 rfl ?_
    refine Kgq hΓ (enc:=Lil) (z':=(⟨y42.1,x36.Server,x36.No,x36.Kind,x36.By,x36.Node,x36.Join,x36.Public,x36.Name,x36.Tags,x36.Until,x36.Uses,x36.Ready⟩:Lby)) y34.1.toNat 0 hj38 rfl rfl rfl rfl (fun _=>rfl) rfl rfl rfl rfl rfl rfl (nBe rfl) ?_
    refine Khe [.box 25 (fQ y42.2),rO 37 13 Lil ([]:List Lby),rO 37 13 Lil (y21.set y34.1.toNat (⟨y42.1,x36.Server,x36.No,x36.Kind,x36.By,x36.Node,x36.Join,x36.Public,x36.Name,x36.Tags,x36.Until,x36.Uses,x36.Ready⟩:Lby)),mOb kS false (eN .i64) q6.2.2.1] rfl ?_
    refine Kju 5 (n':=(y21.set y34.1.toNat (⟨y42.1,x36.Server,x36.No,x36.Kind,x36.By,x36.Node,x36.Join,x36.Public,x36.Name,x36.Tags,x36.Until,x36.Uses,x36.Ready⟩:Lby)).length) rfl List.length_set.symm ?_
    refine Kfm hΓ 2 rfl ?_
    obtain rfl:=oSi h43
    exact⟨⟨rfl,tV⟩,[],rfl,.inl rfl⟩
   have h44:=cF h40 hb
   refine go hΓ 6 rfl ?_
   refine Kfp rfl (fun hb=>?_) (fun hb=>?_)
   ·have h45:=cT h44 hb
    refine go hΓ 4 rfl ?_
    refine Kgr hΓ (enc:=eS) [[],[115,49]] rfl rfl rfl rfl rfl rfl rfl rfl rfl rfl rfl rfl (nBe rfl) ?_
    obtain⟨y46,hy46,h47⟩:=Kfw h45
    refine Kgw [0] (S y46.1) [.box 25 (fQ y46.2),rO 37 13 Lil ([]:List Lby),rO 37 13 Lil y21,mOb kS false (eN .i64) q6.2.2.1] (Lml Tryz.func22 rfl rfl) (Ljc hy46) rfl (nBe rfl) rfl rfl rfl rfl rfl rfl rfl rfl rfl rfl ?_
    refine Kfm hΓ 1 rfl ?_
    refine Kgr hΓ (enc:=(eN .i64)) [0,1,1000001] rfl rfl rfl rfl rfl rfl rfl rfl rfl rfl rfl rfl (nBe rfl) ?_
    obtain⟨y48,hy48,h49⟩:=Kfw h47
    refine Kgw [0] (I y48.1) [.box 25 (fQ y48.2),rO 37 13 Lil ([]:List Lby),rO 37 13 Lil y21,mOb kS false (eN .i64) q6.2.2.1] (Lml Tryz.func13 rfl rfl) (Liz hy48) rfl (nBe rfl) rfl rfl rfl rfl rfl rfl rfl rfl rfl rfl ?_
    refine Kfm hΓ 2 rfl ?_
    refine Kgq hΓ (enc:=Lil) (z':=(⟨x36.At,y46.1,x36.No,x36.Kind,x36.By,x36.Node,x36.Join,x36.Public,x36.Name,x36.Tags,x36.Until,x36.Uses,x36.Ready⟩:Lby)) y34.1.toNat 1 hj38 rfl rfl rfl rfl (fun _=>rfl) rfl rfl rfl rfl rfl rfl (nBe rfl) ?_
    refine Khe [.box 25 (fQ y48.2),rO 37 13 Lil ([]:List Lby),rO 37 13 Lil (y21.set y34.1.toNat (⟨x36.At,y46.1,x36.No,x36.Kind,x36.By,x36.Node,x36.Join,x36.Public,x36.Name,x36.Tags,x36.Until,x36.Uses,x36.Ready⟩:Lby)),mOb kS false (eN .i64) q6.2.2.1] rfl ?_
    have hj50:=Kke (y:=(⟨x36.At,y46.1,x36.No,x36.Kind,x36.By,x36.Node,x36.Join,x36.Public,x36.Name,x36.Tags,x36.Until,x36.Uses,x36.Ready⟩:Lby)) hj38
    refine Kju 5 (n':=(y21.set y34.1.toNat (⟨x36.At,y46.1,x36.No,x36.Kind,x36.By,x36.Node,x36.Join,x36.Public,x36.Name,x36.Tags,x36.Until,x36.Uses,x36.Ready⟩:Lby)).length) rfl List.length_set.symm ?_
    refine Kfm hΓ 2 rfl ?_
    refine Kgq hΓ (enc:=Lil) (z':=(⟨x36.At,y46.1,y48.1,x36.Kind,x36.By,x36.Node,x36.Join,x36.Public,x36.Name,x36.Tags,x36.Until,x36.Uses,x36.Ready⟩:Lby)) y34.1.toNat 2 hj50 rfl rfl rfl rfl (fun _=>rfl) rfl rfl rfl rfl rfl rfl (nBe rfl) ?_
    refine Khe [.box 25 (fQ y48.2),rO 37 13 Lil ([]:List Lby),rO 37 13 Lil ((y21.set y34.1.toNat (⟨x36.At,y46.1,x36.No,x36.Kind,x36.By,x36.Node,x36.Join,x36.Public,x36.Name,x36.Tags,x36.Until,x36.Uses,x36.Ready⟩:Lby)).set y34.1.toNat (⟨x36.At,y46.1,y48.1,x36.Kind,x36.By,x36.Node,x36.Join,x36.Public,x36.Name,x36.Tags,x36.Until,x36.Uses,x36.Ready⟩:Lby)),mOb kS false (eN .i64) q6.2.2.1] rfl ?_
    refine Kju 5 (n':=((y21.set y34.1.toNat (⟨x36.At,y46.1,x36.No,x36.Kind,x36.By,x36.Node,x36.Join,x36.Public,x36.Name,x36.Tags,x36.Until,x36.Uses,x36.Ready⟩:Lby)).set y34.1.toNat (⟨x36.At,y46.1,y48.1,x36.Kind,x36.By,x36.Node,x36.Join,x36.Public,x36.Name,x36.Tags,x36.Until,x36.Uses,x36.Ready⟩:Lby)).length) rfl List.length_set.symm ?_
    refine Kfm hΓ 2 rfl ?_
    obtain rfl:=oSi h49
    exact⟨⟨rfl,tV⟩,[],rfl,.inl rfl⟩
   have h51:=cF h44 hb
   refine go hΓ 6 rfl ?_
   refine Kfp rfl (fun hb=>?_) (fun hb=>?_)
   ·have h52:=cT h51 hb
    refine go hΓ 3 rfl ?_
    refine Kgr hΓ (enc:=(eN .i64)) [0,10,3] rfl rfl rfl rfl rfl rfl rfl rfl rfl rfl rfl rfl (nBe rfl) ?_
    obtain⟨y53,hy53,h54⟩:=Kfw h52
    refine Kgw [0] (I y53.1) [.box 25 (fQ y53.2),rO 37 13 Lil ([]:List Lby),rO 37 13 Lil y21,mOb kS false (eN .i64) q6.2.2.1] (Lml Tryz.func13 rfl rfl) (Liz hy53) rfl (nBe rfl) rfl rfl rfl rfl rfl rfl rfl rfl rfl rfl ?_
    refine Kfm hΓ 2 rfl ?_
    refine Kgq hΓ (enc:=Lil) (z':=(⟨x36.At,x36.Server,x36.No,y53.1,x36.By,x36.Node,x36.Join,x36.Public,x36.Name,x36.Tags,x36.Until,x36.Uses,x36.Ready⟩:Lby)) y34.1.toNat 3 hj38 rfl rfl rfl rfl (fun _=>rfl) rfl rfl rfl rfl rfl rfl (nBe rfl) ?_
    refine Khe [.box 25 (fQ y53.2),rO 37 13 Lil ([]:List Lby),rO 37 13 Lil (y21.set y34.1.toNat (⟨x36.At,x36.Server,x36.No,y53.1,x36.By,x36.Node,x36.Join,x36.Public,x36.Name,x36.Tags,x36.Until,x36.Uses,x36.Ready⟩:Lby)),mOb kS false (eN .i64) q6.2.2.1] rfl ?_
    refine Kju 5 (n':=(y21.set y34.1.toNat (⟨x36.At,x36.Server,x36.No,y53.1,x36.By,x36.Node,x36.Join,x36.Public,x36.Name,x36.Tags,x36.Until,x36.Uses,x36.Ready⟩:Lby)).length) rfl List.length_set.symm ?_
    refine Kfm hΓ 2 rfl ?_
    obtain rfl:=oSi h54
    exact⟨⟨rfl,tV⟩,[],rfl,.inl rfl⟩
   have h55:=cF h51 hb
   refine go hΓ 6 rfl ?_
   refine Kfp rfl (fun hb=>?_) (fun hb=>?_)
   ·have h56:=cT h55 hb
    refine go hΓ 4 rfl ?_
    refine Kgr hΓ (enc:=eS) [[],[65],[97,110,110]] rfl rfl rfl rfl rfl rfl rfl rfl rfl rfl rfl rfl (nBe rfl) ?_
    obtain⟨y57,hy57,h58⟩:=Kfw h56
    refine Kgw [0] (S y57.1) [.box 25 (fQ y57.2),rO 37 13 Lil ([]:List Lby),rO 37 13 Lil y21,mOb kS false (eN .i64) q6.2.2.1] (Lml Tryz.func22 rfl rfl) (Ljc hy57) rfl (nBe rfl) rfl rfl rfl rfl rfl rfl rfl rfl rfl rfl ?_
    refine Kfm hΓ 1 rfl ?_
    refine Kgr hΓ (enc:=eS) [[],[110,97]] rfl rfl rfl rfl rfl rfl rfl rfl rfl rfl rfl rfl (nBe rfl) ?_
    obtain⟨y59,hy59,h60⟩:=Kfw h58
    refine Kgw [0] (S y59.1) [.box 25 (fQ y59.2),rO 37 13 Lil ([]:List Lby),rO 37 13 Lil y21,mOb kS false (eN .i64) q6.2.2.1] (Lml Tryz.func22 rfl rfl) (Ljc hy59) rfl (nBe rfl) rfl rfl rfl rfl rfl rfl rfl rfl rfl rfl ?_
    refine Kfm hΓ 2 rfl ?_
    refine Kgq hΓ (enc:=Lil) (z':=(⟨x36.At,x36.Server,x36.No,x36.Kind,y57.1,x36.Node,x36.Join,x36.Public,x36.Name,x36.Tags,x36.Until,x36.Uses,x36.Ready⟩:Lby)) y34.1.toNat 4 hj38 rfl rfl rfl rfl (fun _=>rfl) rfl rfl rfl rfl rfl rfl (nBe rfl) ?_
    refine Khe [.box 25 (fQ y59.2),rO 37 13 Lil ([]:List Lby),rO 37 13 Lil (y21.set y34.1.toNat (⟨x36.At,x36.Server,x36.No,x36.Kind,y57.1,x36.Node,x36.Join,x36.Public,x36.Name,x36.Tags,x36.Until,x36.Uses,x36.Ready⟩:Lby)),mOb kS false (eN .i64) q6.2.2.1] rfl ?_
    have hj61:=Kke (y:=(⟨x36.At,x36.Server,x36.No,x36.Kind,y57.1,x36.Node,x36.Join,x36.Public,x36.Name,x36.Tags,x36.Until,x36.Uses,x36.Ready⟩:Lby)) hj38
    refine Kju 5 (n':=(y21.set y34.1.toNat (⟨x36.At,x36.Server,x36.No,x36.Kind,y57.1,x36.Node,x36.Join,x36.Public,x36.Name,x36.Tags,x36.Until,x36.Uses,x36.Ready⟩:Lby)).length) rfl List.length_set.symm ?_
    refine Kfm hΓ 2 rfl ?_
    refine Kgq hΓ (enc:=Lil) (z':=(⟨x36.At,x36.Server,x36.No,x36.Kind,y57.1,y59.1,x36.Join,x36.Public,x36.Name,x36.Tags,x36.Until,x36.Uses,x36.Ready⟩:Lby)) y34.1.toNat 5 hj61 rfl rfl rfl rfl (fun _=>rfl) rfl rfl rfl rfl rfl rfl (nBe rfl) ?_
    refine Khe [.box 25 (fQ y59.2),rO 37 13 Lil ([]:List Lby),rO 37 13 Lil ((y21.set y34.1.toNat (⟨x36.At,x36.Server,x36.No,x36.Kind,y57.1,x36.Node,x36.Join,x36.Public,x36.Name,x36.Tags,x36.Until,x36.Uses,x36.Ready⟩:Lby)).set y34.1.toNat (⟨x36.At,x36.Server,x36.No,x36.Kind,y57.1,y59.1,x36.Join,x36.Public,x36.Name,x36.Tags,x36.Until,x36.Uses,x36.Ready⟩:Lby)),mOb kS false (eN .i64) q6.2.2.1] rfl ?_
    refine Kju 5 (n':=((y21.set y34.1.toNat (⟨x36.At,x36.Server,x36.No,x36.Kind,y57.1,x36.Node,x36.Join,x36.Public,x36.Name,x36.Tags,x36.Until,x36.Uses,x36.Ready⟩:Lby)).set y34.1.toNat (⟨x36.At,x36.Server,x36.No,x36.Kind,y57.1,y59.1,x36.Join,x36.Public,x36.Name,x36.Tags,x36.Until,x36.Uses,x36.Ready⟩:Lby)).length) rfl List.length_set.symm ?_
    refine Kfm hΓ 2 rfl ?_
    obtain rfl:=oSi h60
    exact⟨⟨rfl,tV⟩,[],rfl,.inl rfl⟩
   have h62:=cF h55 hb
   refine go hΓ 6 rfl ?_
   refine Kfp rfl (fun hb=>?_) (fun hb=>?_)
   ·have h63:=cT h62 hb
    obtain⟨y64,hy64,h65⟩:=Kfw h63
    refine go hΓ 4 rfl ?_
    refine Kgx (Lml Tryz.func100 rfl rfl) (Lbo hy64) rfl (nBe rfl) rfl rfl rfl rfl rfl ?_
    refine Kgr hΓ (enc:=eS) [[],[120,121,122],[48,65],y64] rfl rfl rfl rfl rfl rfl rfl rfl rfl rfl rfl rfl (nBe rfl) ?_
    obtain⟨y66,hy66,h67⟩:=Kfw h65
    refine Kgw [0] (S y66.1) [.box 25 (fQ y66.2),rO 37 13 Lil ([]:List Lby),rO 37 13 Lil y21,mOb kS false (eN .i64) q6.2.2.1] (Lml Tryz.func22 rfl rfl) (Ljc hy66) rfl (nBe rfl) rfl rfl rfl rfl rfl rfl rfl rfl rfl rfl ?_
    refine Kfm hΓ 1 rfl ?_
    refine Kgr hΓ (enc:=(eN .i64)) [0,-1,1000000000] rfl rfl rfl rfl rfl rfl rfl rfl rfl rfl rfl rfl (nBe rfl) ?_
    obtain⟨y68,hy68,h69⟩:=Kfw h67
    refine Kgw [0] (I y68.1) [.box 25 (fQ y68.2),rO 37 13 Lil ([]:List Lby),rO 37 13 Lil y21,mOb kS false (eN .i64) q6.2.2.1] (Lml Tryz.func13 rfl rfl) (Liz hy68) rfl (nBe rfl) rfl rfl rfl rfl rfl rfl rfl rfl rfl rfl ?_
    refine Kfm hΓ 2 rfl ?_
    refine Kgq hΓ (enc:=Lil) (z':=(⟨x36.At,x36.Server,x36.No,x36.Kind,x36.By,x36.Node,x36.Join,y66.1,x36.Name,x36.Tags,x36.Until,x36.Uses,x36.Ready⟩:Lby)) y34.1.toNat 7 hj38 rfl rfl rfl rfl (fun _=>rfl) rfl rfl rfl rfl rfl rfl (nBe rfl) ?_
    refine Khe [.box 25 (fQ y68.2),rO 37 13 Lil ([]:List Lby),rO 37 13 Lil (y21.set y34.1.toNat (⟨x36.At,x36.Server,x36.No,x36.Kind,x36.By,x36.Node,x36.Join,y66.1,x36.Name,x36.Tags,x36.Until,x36.Uses,x36.Ready⟩:Lby)),mOb kS false (eN .i64) q6.2.2.1] rfl ?_
    have hj70:=Kke (y:=(⟨x36.At,x36.Server,x36.No,x36.Kind,x36.By,x36.Node,x36.Join,y66.1,x36.Name,x36.Tags,x36.Until,x36.Uses,x36.Ready⟩:Lby)) hj38
    refine Kju 5 (n':=(y21.set y34.1.toNat (⟨x36.At,x36.Server,x36.No,x36.Kind,x36.By,x36.Node,x36.Join,y66.1,x36.Name,x36.Tags,x36.Until,x36.Uses,x36.Ready⟩:Lby)).length) rfl List.length_set.symm ?_
    refine Kfm hΓ 2 rfl ?_
    refine Kgq hΓ (enc:=Lil) (z':=(⟨x36.At,x36.Server,x36.No,x36.Kind,x36.By,x36.Node,x36.Join,y66.1,x36.Name,x36.Tags,y68.1,x36.Uses,x36.Ready⟩:Lby)) y34.1.toNat 10 hj70 rfl rfl rfl rfl (fun _=>rfl) rfl rfl rfl rfl rfl rfl (nBe rfl) ?_
    refine Khe [.box 25 (fQ y68.2),rO 37 13 Lil ([]:List Lby),rO 37 13 Lil ((y21.set y34.1.toNat (⟨x36.At,x36.Server,x36.No,x36.Kind,x36.By,x36.Node,x36.Join,y66.1,x36.Name,x36.Tags,x36.Until,x36.Uses,x36.Ready⟩:Lby)).set y34.1.toNat (⟨x36.At,x36.Server,x36.No,x36.Kind,x36.By,x36.Node,x36.Join,y66.1,x36.Name,x36.Tags,y68.1,x36.Uses,x36.Ready⟩:Lby)),mOb kS false (eN .i64) q6.2.2.1] rfl ?_
    refine Kju 5 (n':=((y21.set y34.1.toNat (⟨x36.At,x36.Server,x36.No,x36.Kind,x36.By,x36.Node,x36.Join,y66.1,x36.Name,x36.Tags,x36.Until,x36.Uses,x36.Ready⟩:Lby)).set y34.1.toNat (⟨x36.At,x36.Server,x36.No,x36.Kind,x36.By,x36.Node,x36.Join,y66.1,x36.Name,x36.Tags,y68.1,x36.Uses,x36.Ready⟩:Lby)).length) rfl List.length_set.symm ?_
    refine Kfm hΓ 2 rfl ?_
    obtain rfl:=oSi h69
    exact⟨⟨rfl,tV⟩,[],rfl,.inl rfl⟩
   have h71:=cF h62 hb
   refine go hΓ 2 rfl ?_
   refine Kgr hΓ (enc:=eS) [[119,101,98],[100,98]] rfl rfl rfl rfl rfl rfl rfl rfl rfl rfl rfl rfl (nBe rfl) ?_
   refine Kgr hΓ (enc:=eS) [[]] rfl rfl rfl rfl rfl rfl rfl rfl rfl rfl rfl rfl (nBe rfl) ?_
   refine Kgr hΓ (enc:=eS) [[97],[98]] rfl rfl rfl rfl rfl rfl rfl rfl rfl rfl rfl rfl (nBe rfl) ?_
   refine Kgr hΓ (enc:=(eL eS)) [[[119,101,98],[100,98]],[[]],[[97],[98]]] rfl rfl rfl rfl rfl rfl rfl rfl rfl rfl rfl rfl (nBe rfl) ?_
   obtain⟨y72,hy72,h73⟩:=Kfw h71
   refine Kfm hΓ 1 rfl ?_
   refine Kgw [0] (I y72.1) [.box 25 (fQ y72.2),rO 37 13 Lil ([]:List Lby),rO 37 13 Lil y21,mOb kS false (eN .i64) q6.2.2.1] (Lml Tryz.func26 rfl rfl) (Lix hy72) rfl (nBe rfl) rfl rfl rfl rfl rfl rfl rfl rfl rfl rfl ?_
   obtain⟨x74,hx74,h75⟩:=Kfw h73
   refine eo_o rfl (Kgg hΓ (enc:=(eL eS)) hx74 rfl rfl rfl rfl rfl (fun _=>rfl)) ?_
   refine Kfm hΓ 3 rfl ?_
   refine Kgq hΓ (enc:=Lil) (z':=(⟨x36.At,x36.Server,x36.No,x36.Kind,x36.By,x36.Node,x36.Join,x36.Public,x36.Name,x74,x36.Until,x36.Uses,x36.Ready⟩:Lby)) y34.1.toNat 9 hj38 rfl rfl rfl rfl (fun _=>rfl) rfl rfl rfl rfl rfl rfl (nBe rfl) ?_
   refine Khe [.box 25 (fQ y72.2),rO 37 13 Lil ([]:List Lby),rO 37 13 Lil (y21.set y34.1.toNat (⟨x36.At,x36.Server,x36.No,x36.Kind,x36.By,x36.Node,x36.Join,x36.Public,x36.Name,x74,x36.Until,x36.Uses,x36.Ready⟩:Lby)),mOb kS false (eN .i64) q6.2.2.1] rfl ?_
   refine Kju 5 (n':=(y21.set y34.1.toNat (⟨x36.At,x36.Server,x36.No,x36.Kind,x36.By,x36.Node,x36.Join,x36.Public,x36.Name,x74,x36.Until,x36.Uses,x36.Ready⟩:Lby)).length) rfl List.length_set.symm ?_
   refine Kfm hΓ 2 rfl ?_
   obtain rfl:=oSi h75
   exact⟨⟨rfl,tV⟩,[],rfl,.inl rfl⟩
  have h76:=cF hq31 hb
  refine go hΓ 1 rfl ?_
  obtain rfl:=oSi h76
  exact⟨⟨rfl,tV⟩,[],rfl,.inl rfl⟩
 refine go hΓ 8 rfl ?_
 refine Klm 1 [.box 25 (fQ q31.1),.dead,rO 37 13 Lil q31.2,mOb kS false (eN .i64) q6.2.2.1] rfl (nBe rfl) ?_
 refine Kjp 2 1 [.box 25 (fQ q31.1),rO 37 13 Lil q31.2,.dead,mOb kS false (eN .i64) q6.2.2.1] rfl rfl rfl rfl rfl rfl ?_
 refine Kjn ?_
 obtain rfl:=oSi h32
 exact Khj hΓ [_,_] (.inr rfl) rfl rfl rfl rfl (.inr ⟨HB.mk rfl,rfl⟩)
theorem Ljp{n:Int}{low:Int}{high:Int}{r:Bool}(h:Ldd n low high=some r):Pure Tryz.prog 211 [I n,I low,I high] (B r):=by
 refine Pure.enter (Fr.of 0 _) Tryz.func211 rfl (Fr.of_ok _) rfl rfl ?_
 refine Kfo ?_
 unfold Ldd at h
 refine go hΓ 11 rfl ?_
 refine Kfv 4 [(6,B false),(14,B ((decide ((low:Int)≤n))&&(decide ((n:Int)≤high))))] [] ?_ ?_
 ·refine Krj rfl rfl (fun hb=>?_) (fun hb=>?_)
  ·refine Kfm hΓ 5 rfl ?_
   exact⟨⟨rfl,Kex rfl (Kho hb),tV⟩,[],rfl,.inl rfl⟩
  refine Kfm hΓ 5 rfl ?_
  exact⟨⟨rfl,Kex rfl (Khp hb),tV⟩,[],rfl,.inl rfl⟩
 refine Kfm hΓ 4 rfl ?_
 obtain rfl:=oSi h
 exact Khi hΓ (.inr rfl) rfl rfl
theorem Ljq{s:Str}{v_some:Str}{r:Bool}(h:Lde s v_some=some r):Pure Tryz.prog 212 [S s,S v_some] (B r):=by
 refine Pure.enter (Fr.of 0 _) Tryz.func212 rfl (Fr.of_ok _) rfl rfl ?_
 refine Kfo ?_
 unfold Lde at h
 obtain⟨y1,hy1,h2⟩:=Kfw h
 refine go hΓ 9 rfl ?_
 refine Kgx (Lml Tryz.func153 rfl rfl) (Lbl hy1) rfl (nBe rfl) rfl rfl rfl rfl rfl ?_
 refine Kfm hΓ 5 rfl ?_
 obtain rfl:=oSi h2
 exact Khi hΓ (.inr rfl) rfl rfl
theorem Ljr{s:Str}{r:Bool}(h:Ldf s=some r):Pure Tryz.prog 104 [S s] (B r):=by
 refine Pure.enter (Fr.of 0 _) Tryz.func104 rfl (Fr.of_ok _) rfl rfl ?_
 refine Kfo ?_
 unfold Ldf at h
 obtain⟨y1,hy1,h2⟩:=Kfw h
 refine go hΓ 9 rfl ?_
 refine Kgx (Lml Tryz.func211 rfl rfl) (Ljp hy1) rfl (nBe rfl) rfl rfl rfl rfl rfl ?_
 refine Kfm hΓ 1 rfl ?_
 obtain⟨q3,hq3,h4⟩:=Kfw h2
 refine Kfv 4 [(0,S s),(2,B false),(10,B q3)] [] ?_ ?_
 ·refine Krj rfl rfl (fun hb=>?_) (fun hb=>?_)
  ·have h5:=cT hq3 hb
   obtain⟨z6,hz6,h7⟩:=Kfw h5
   refine Kfm hΓ 1 rfl ?_
   refine Krh rfl ?_
   refine eo_o rfl (Kgj hΓ hz6 rfl rfl rfl rfl rfl) ?_
   obtain⟨y8,hy8,h9⟩:=Kfw h7
   refine Krh rfl ?_
   refine Kgx (Lml Tryz.func212 rfl rfl) (Ljq hy8) rfl (nBe rfl) rfl rfl rfl rfl rfl ?_
   refine Kfm hΓ 2 rfl ?_
   obtain rfl:=oSi h9
   exact⟨⟨rfl,rfl,rfl,tV⟩,[],rfl,.inl rfl⟩
  have h10:=cF hq3 hb
  refine Kfm hΓ 5 rfl ?_
  obtain rfl:=oSi h10
  exact⟨⟨rfl,rfl,rfl,tV⟩,[],rfl,.inl rfl⟩
 refine Kfm hΓ 1 rfl ?_
 obtain⟨q11,hq11,h12⟩:=Kfw h4
 refine Kfv 3 [(2,B false),(14,B q11)] [] ?_ ?_
 ·refine Krj rfl rfl (fun hb=>?_) (fun hb=>?_)
  ·have h13:=cT hq11 hb
   obtain⟨y14,hy14,h15⟩:=Kfw h13
   refine Kfm hΓ 1 rfl ?_
   refine Krh rfl ?_
   refine Kgx (Lml Tryz.func212 rfl rfl) (Ljq hy14) rfl (nBe rfl) rfl rfl rfl rfl rfl ?_
   refine Kfm hΓ 2 rfl ?_
   obtain rfl:=oSi h15
   exact⟨⟨rfl,rfl,tV⟩,[],rfl,.inl rfl⟩
  have h16:=cF hq11 hb
  refine Kfm hΓ 4 rfl ?_
  obtain rfl:=oSi h16
  exact⟨⟨rfl,rfl,tV⟩,[],rfl,.inl rfl⟩
 refine Kfm hΓ 4 rfl ?_
 obtain rfl:=oSi h12
 exact Khi hΓ (.inr rfl) rfl rfl
theorem Ljs{l:List Str}{r:Int}(h:Ldg l=some r):Pure Tryz.prog 103 [.d (Sl eS l)] (I r):=by
 refine Pure.enter (Fr.of 0 _) Tryz.func103 rfl (Fr.of_ok _) rfl rfl ?_
 refine Kfo ?_
 unfold Ldg at h
 refine go hΓ 13 rfl ?_
 obtain⟨q4,hq4,h5⟩:=Kfw h
 refine Kgf 0 rfl fun hb7=>?_
 refine Kjq (R:=fun a6=>q4=.go a6) (fun a6=>[]) (fun a6=>[]) ?_ ?_
 ·refine go hΓ 1 rfl ?_
  refine Kge l hq4 (fun i1 s2=>[(0,.d (Sl eS l)),(5,.d (Sl eS l)),(6,I (l.length:Int)),(7,I (i1:Int))]) (fun s2=>[]) ⟨⟨rfl,rfl,rfl,rfl,tV⟩,[],rfl,.inl rfl⟩ (fun i1 x3 s2 y11 hx8 hlt hy9 hout10=>?_) (fun s2 hgo=>?_)
  ·refine go hΓ 6 rfl ?_
   refine Kfq rfl (decide_eq_true (Int.ofNat_lt.2 hlt)) ?_
   refine go hΓ 7 rfl ?_
   refine eo_o rfl (Kgg hΓ (enc:=eS) (Kfz hx8) rfl rfl rfl rfl rfl (fun _=>rfl)) ?_
   obtain⟨y12,hy12,h13⟩:=Kfw hy9
   refine Kfm hΓ 9 rfl ?_
   refine Kgx (Lml Tryz.func104 rfl rfl) (Ljr hy12) rfl (nBe rfl) rfl rfl rfl rfl rfl ?_
   refine Kfm hΓ 3 rfl ?_
   refine Kfp rfl (fun hb=>?_) (fun hb=>?_)
   ·have h14:=cT h13 hb
    refine go hΓ 9 rfl ?_
    obtain⟨v15,hv15,h16⟩:=Kfw h14
    obtain rfl:=oSi h16
    obtain rfl:=hout10 _ rfl
    obtain rfl:=oSi h5
    refine go hΓ 4 rfl ?_
    obtain rfl:=oSi hv15
    exact Khi hΓ (.inr rfl) rfl rfl
   have h17:=cF h13 hb
   refine go hΓ 7 rfl ?_
   obtain⟨q18,hq18,h19⟩:=Kfw h17
   refine Kfv 8 [(0,.d (Sl eS l)),(5,.d (Sl eS l)),(6,I (l.length:Int)),(7,I (i1:Int)),(25,B q18)] [] ?_ ?_
   ·refine Krj rfl rfl (fun hb=>?_) (fun hb=>?_)
    ·have h20:=cT hq18 hb
     obtain⟨x21,hx21,h22⟩:=Kfw h20
     refine Kfm hΓ 4 rfl ?_
     refine Krh rfl ?_
     refine eo_o rfl (Kgg hΓ (enc:=eS) hx21 rfl rfl rfl rfl rfl (fun _=>rfl)) ?_
     refine Kfm hΓ 4 rfl ?_
     obtain rfl:=oSi h22
     exact⟨⟨rfl,rfl,rfl,rfl,rfl,tV⟩,[],rfl,.inl rfl⟩
    have h23:=cF hq18 hb
    refine Kfm hΓ 9 rfl ?_
    obtain rfl:=oSi h23
    exact⟨⟨rfl,rfl,rfl,rfl,rfl,tV⟩,[],rfl,.inl rfl⟩
   refine Kfm hΓ 2 rfl ?_
   refine Kfp rfl (fun hb=>?_) (fun hb=>?_)
   ·have h24:=cT h19 hb
    refine go hΓ 8 rfl ?_
    obtain⟨v25,hv25,h26⟩:=Kfw h24
    obtain rfl:=oSi h26
    obtain rfl:=hout10 _ rfl
    obtain rfl:=oSi h5
    refine go hΓ 4 rfl ?_
    obtain rfl:=oSi hv25
    exact Khi hΓ (.inr rfl) rfl rfl
   have h27:=cF h19 hb
   refine go hΓ 7 rfl ?_
   obtain rfl:=oSi h27
   exact⟨_,rfl,⟨⟨rfl,rfl,rfl,Kew rfl (Kev (nLl hlt hb7)),tV⟩,[],rfl,.inl rfl⟩⟩
  subst hgo
  refine go hΓ 6 rfl ?_
  refine Kfr rfl (decide_eq_false (Int.lt_irrefl _)) ?_
  refine go hΓ 4 rfl ?_
  exact⟨_,rfl,⟨tV,[],rfl,.inl rfl⟩⟩
 intro a6 ha
 subst ha
 replace h5:=Kjl h5
 refine go hΓ 7 rfl ?_
 obtain rfl:=oSi h5
 exact Khi hΓ (.inr rfl) rfl rfl
theorem Ljt{s:List Str}{v:Str}{r:Int}(h:Ldh s v=some r):Pure Tryz.prog 154 [.d (Sl eS s),S v] (I r):=by
 refine Pure.enter (Fr.of 0 _) Tryz.func154 rfl (Fr.of_ok _) rfl rfl ?_
 refine Kfo ?_
 unfold Ldh at h
 refine go hΓ 13 rfl ?_
 obtain⟨q4,hq4,h5⟩:=Kfw h
 refine Kgf 0 rfl fun hb7=>?_
 refine Kjq (R:=fun a6=>q4=.go a6) (fun a6=>[]) (fun a6=>[]) ?_ ?_
 ·refine go hΓ 1 rfl ?_
  refine Kge s hq4 (fun i1 s2=>[(0,.d (Sl eS s)),(1,S v),(7,I (s.length:Int)),(8,I (i1:Int))]) (fun s2=>[]) ⟨⟨rfl,rfl,rfl,rfl,tV⟩,[],rfl,.inl rfl⟩ (fun i1 x3 s2 y11 hx8 hlt hy9 hout10=>?_) (fun s2 hgo=>?_)
  ·refine go hΓ 6 rfl ?_
   refine Kfq rfl (decide_eq_true (Int.ofNat_lt.2 hlt)) ?_
   refine go hΓ 15 rfl ?_
   refine eo_o rfl (Kgg hΓ (enc:=eS) (Kfz hx8) rfl rfl rfl rfl rfl (fun _=>rfl)) ?_
   refine Kfm hΓ 4 rfl ?_
   refine Kfp rfl (fun hb=>?_) (fun hb=>?_)
   ·have h12:=cT hy9 hb
    refine go hΓ 9 rfl ?_
    obtain⟨v13,hv13,h14⟩:=Kfw h12
    obtain rfl:=oSi h14
    obtain rfl:=hout10 _ rfl
    obtain rfl:=oSi h5
    refine go hΓ 4 rfl ?_
    obtain rfl:=oSi hv13
    exact Khi hΓ (.inr rfl) rfl rfl
   have h15:=cF hy9 hb
   refine go hΓ 7 rfl ?_
   obtain rfl:=oSi h15
   exact⟨_,rfl,⟨⟨rfl,rfl,rfl,Kew rfl (Kev (nLl hlt hb7)),tV⟩,[],rfl,.inl rfl⟩⟩
  subst hgo
  refine go hΓ 6 rfl ?_
  refine Kfr rfl (decide_eq_false (Int.lt_irrefl _)) ?_
  refine go hΓ 4 rfl ?_
  exact⟨_,rfl,⟨tV,[],rfl,.inl rfl⟩⟩
 intro a6 ha
 subst ha
 replace h5:=Kjl h5
 refine go hΓ 7 rfl ?_
 obtain rfl:=oSi h5
 exact Khi hΓ (.inr rfl) rfl rfl
theorem Lju{s:List Str}{v:Str}{r:Bool}(h:Ldi s v=some r):Pure Tryz.prog 61 [.d (Sl eS s),S v] (B r):=by
 refine Pure.enter (Fr.of 0 _) Tryz.func61 rfl (Fr.of_ok _) rfl rfl ?_
 refine Kfo ?_
 unfold Ldi at h
 obtain⟨y1,hy1,h2⟩:=Kfw h
 refine go hΓ 9 rfl ?_
 refine Kgx (Lml Tryz.func154 rfl rfl) (Ljt hy1) rfl (nBe rfl) rfl rfl rfl rfl rfl ?_
 refine Kfm hΓ 5 rfl ?_
 obtain rfl:=oSi h2
 exact Khi hΓ (.inr rfl) rfl rfl
theorem Ljv{n:Int}{low:Int}{high:Int}{r:Bool}(h:Ldj n low high=some r):Pure Tryz.prog 105 [I n,I low,I high] (B r):=by
 refine Pure.enter (Fr.of 0 _) Tryz.func105 rfl (Fr.of_ok _) rfl rfl ?_
 refine Kfo ?_
 unfold Ldj at h
 refine go hΓ 11 rfl ?_
 refine Kfv 4 [(6,B false),(14,B ((decide ((low:Int)≤n))&&(decide ((n:Int)≤high))))] [] ?_ ?_
 ·refine Krj rfl rfl (fun hb=>?_) (fun hb=>?_)
  ·refine Kfm hΓ 5 rfl ?_
   exact⟨⟨rfl,Kex rfl (Kho hb),tV⟩,[],rfl,.inl rfl⟩
  refine Kfm hΓ 5 rfl ?_
  exact⟨⟨rfl,Kex rfl (Khp hb),tV⟩,[],rfl,.inl rfl⟩
 refine Kfm hΓ 4 rfl ?_
 obtain rfl:=oSi h
 exact Khi hΓ (.inr rfl) rfl rfl
theorem Ljw{d:Lbx}{r:Int}(h:Ldk d=some r):Pure Tryz.prog 28 [.agg (fD d)] (I r):=by
 refine Pure.enter (Fr.of 0 _) Tryz.func28 rfl (Fr.of_ok _) rfl rfl ?_
 refine Kfo ?_
 unfold Ldk at h
 refine go hΓ 2 rfl ?_
 refine Ksq rfl rfl rfl rfl (nBe rfl) ?_
 refine Kfm hΓ 12 rfl ?_
 refine Kfp rfl (fun hb=>?_) (fun hb=>?_)
 ·have h1:=cT h hb
  refine go hΓ 7 rfl ?_
  obtain rfl:=oSi h1
  exact Khi hΓ (.inr rfl) rfl rfl
 have h2:=cF h hb
 obtain⟨y3,hy3,h4⟩:=Kfw h2
 refine go hΓ 7 rfl ?_
 refine Kgx (Lml Tryz.func103 rfl rfl) (Ljs hy3) rfl (nBe rfl) rfl rfl rfl rfl rfl ?_
 refine Kfm hΓ 9 rfl ?_
 refine Kfp rfl (fun hb=>?_) (fun hb=>?_)
 ·have h5:=cT h4 hb
  refine go hΓ 8 rfl ?_
  obtain rfl:=oSi h5
  exact Khi hΓ (.inr rfl) rfl rfl
 have h6:=cF h4 hb
 refine go hΓ 11 rfl ?_
 refine Kfp rfl (fun hb=>?_) (fun hb=>?_)
 ·have h7:=cT h6 hb
  refine go hΓ 7 rfl ?_
  obtain rfl:=oSi h7
  exact Khi hΓ (.inr rfl) rfl rfl
 have h8:=cF h6 hb
 refine go hΓ 11 rfl ?_
 obtain⟨q12,hq12,h13⟩:=Kfw h8
 refine Kgf 23 rfl fun hb15=>?_
 refine Kjq (R:=fun a14=>q12=.go a14) (fun a14=>[(1,.ptr 0 0)]) (fun a14=>[.box 29 (fD d)]) ?_ ?_
 ·refine go hΓ 1 rfl ?_
  refine Kge d.Owners hq12 (fun i9 s10=>[(1,.ptr 0 0),(23,.d (Sl Lij d.Owners)),(24,I (d.Owners.length:Int)),(25,I (i9:Int))]) (fun s10=>[.box 29 (fD d)]) ⟨⟨rfl,rfl,rfl,rfl,tV⟩,[],rfl,.inl rfl⟩ (fun i9 x11 s10 y19 hx16 hlt hy17 hout18=>?_) (fun s10 hgo=>?_)
  ·refine go hΓ 6 rfl ?_
   refine Kfq rfl (decide_eq_true (Int.ofNat_lt.2 hlt)) ?_
   refine go hΓ 7 rfl ?_
   refine eo_o rfl (Kgg hΓ (enc:=Lij) (Kfz hx16) rfl rfl rfl rfl rfl (fun _=>rfl)) ?_
   refine Kfm hΓ 1 rfl ?_
   refine Ksp hΓ rfl rfl rfl (nBe rfl) ?_
   refine Kfm hΓ 1 rfl ?_
   refine Ksu hΓ rfl rfl rfl rfl rfl rfl rfl rfl (nBe rfl) ?_
   refine Khe [.box 29 (fD d),.box 155 [S x11.Tag,.d (Sl eS x11.Users)]] rfl ?_
   obtain⟨y20,hy20,h21⟩:=Kfw hy17
   refine Kfm hΓ 7 rfl ?_
   refine Kgx (Lml Tryz.func104 rfl rfl) (Ljr hy20) rfl (nBe rfl) rfl rfl rfl rfl rfl ?_
   refine Kfm hΓ 3 rfl ?_
   refine Kfp rfl (fun hb=>?_) (fun hb=>?_)
   ·have h22:=cT h21 hb
    refine go hΓ 9 rfl ?_
    obtain⟨v23,hv23,h24⟩:=Kfw h22
    obtain rfl:=oSi h24
    obtain rfl:=hout18 _ rfl
    obtain rfl:=oSi h13
    refine go hΓ 4 rfl ?_
    obtain rfl:=oSi hv23
    exact Khi hΓ (.inr rfl) rfl rfl
   have h25:=cF h21 hb
   obtain⟨q26,hq26,h27⟩:=Kfw h25
   refine go hΓ 4 rfl ?_
   refine Kjr [(1,.ptr 0 0),(5,.ptr 1 0),(23,.d (Sl Lij d.Owners)),(24,I (d.Owners.length:Int)),(25,I (i9:Int)),(47,B q26)] [.box 29 (fD d),.box 155 [S x11.Tag,.d (Sl eS x11.Users)]] ?_ ?_
   ·refine Kfs hmix (by kernel_rfl) ?_
    refine go hΓ 3 rfl ?_
    refine Kee rfl rfl (fun hb=>?_) (fun hb=>?_)
    ·have h28:=cT hq26 hb
     obtain⟨x29,hx29,h30⟩:=Kfw h28
     refine Kfn hΓ 6 rfl ?_
     refine Kez rfl rfl (Kgg hΓ (enc:=Lij) hx29 rfl rfl rfl rfl rfl (fun _=>rfl)) ?_
     refine Kfn hΓ 5 rfl ?_
     obtain rfl:=oSi h30
     exact⟨⟨rfl,rfl,rfl,rfl,rfl,rfl,tV⟩,[],rfl,.inl rfl⟩
    have h31:=cF hq26 hb
    refine Kfn hΓ 12 rfl ?_
    obtain rfl:=oSi h31
    exact⟨⟨rfl,rfl,rfl,rfl,rfl,rfl,tV⟩,[],rfl,.inl rfl⟩
   refine go hΓ 1 rfl ?_
   refine Kfp rfl (fun hb=>?_) (fun hb=>?_)
   ·have h32:=cT h27 hb
    refine go hΓ 9 rfl ?_
    obtain⟨v33,hv33,h34⟩:=Kfw h32
    obtain rfl:=oSi h34
    obtain rfl:=hout18 _ rfl
    obtain rfl:=oSi h13
    refine go hΓ 4 rfl ?_
    obtain rfl:=oSi hv33
    exact Khi hΓ (.inr rfl) rfl rfl
   have h35:=cF h27 hb
   refine go hΓ 10 rfl ?_
   obtain⟨q39,hq39,h40⟩:=Kfw h35
   refine Kgf 49 rfl fun hb42=>?_
   refine Kjq (R:=fun a41=>q39=.go a41) (fun a41=>[(1,.ptr 0 0),(23,.d (Sl Lij d.Owners)),(24,I (d.Owners.length:Int)),(25,I (i9:Int))]) (fun a41=>[.box 29 (fD d),.box 155 [S x11.Tag,.d (Sl eS x11.Users)]]) ?_ ?_
   ·refine go hΓ 1 rfl ?_
    refine Kge x11.Users hq39 (fun i36 s37=>[(1,.ptr 0 0),(5,.ptr 1 0),(23,.d (Sl Lij d.Owners)),(24,I (d.Owners.length:Int)),(25,I (i9:Int)),(49,.d (Sl eS x11.Users)),(50,I (x11.Users.length:Int)),(51,I (i36:Int))]) (fun s37=>[.box 29 (fD d),.box 155 [S x11.Tag,.d (Sl eS x11.Users)]]) ⟨⟨rfl,rfl,rfl,rfl,rfl,rfl,rfl,rfl,tV⟩,[],rfl,.inl rfl⟩ (fun i36 x38 s37 y46 hx43 hlt hy44 hout45=>?_) (fun s37 hgo=>?_)
    ·refine go hΓ 6 rfl ?_
     refine Kfq rfl (decide_eq_true (Int.ofNat_lt.2 hlt)) ?_
     refine go hΓ 7 rfl ?_
     refine eo_o rfl (Kgg hΓ (enc:=eS) (Kfz hx43) rfl rfl rfl rfl rfl (fun _=>rfl)) ?_
     obtain⟨y47,hy47,h48⟩:=Kfw hy44
     refine Kfm hΓ 11 rfl ?_
     refine Kgx (Lml Tryz.func61 rfl rfl) (Lju hy47) rfl (nBe rfl) rfl rfl rfl rfl rfl ?_
     refine Kfm hΓ 3 rfl ?_
     refine Kfp rfl (fun hb=>?_) (fun hb=>?_)
     ·have h49:=cT h48 hb
      refine go hΓ 9 rfl ?_
      obtain⟨v50,hv50,h51⟩:=Kfw h49
      obtain rfl:=oSi h51
      obtain rfl:=hout45 _ rfl
      obtain rfl:=oSi h40
      refine go hΓ 5 rfl ?_
      obtain⟨v52,hv52,h53⟩:=Kfw hv50
      obtain rfl:=oSi h53
      obtain rfl:=hout18 _ rfl
      obtain rfl:=oSi h13
      refine go hΓ 4 rfl ?_
      obtain rfl:=oSi hv52
      exact Khi hΓ (.inr rfl) rfl rfl
     have h54:=cF h48 hb
     refine go hΓ 7 rfl ?_
     obtain⟨q55,hq55,h56⟩:=Kfw h54
     refine Kfv 9 [(1,.ptr 0 0),(5,.ptr 1 0),(23,.d (Sl Lij d.Owners)),(24,I (d.Owners.length:Int)),(25,I (i9:Int)),(49,.d (Sl eS x11.Users)),(50,I (x11.Users.length:Int)),(51,I (i36:Int)),(72,B q55)] [.box 29 (fD d),.box 155 [S x11.Tag,.d (Sl eS x11.Users)]] ?_ ?_
     ·refine Krj rfl rfl (fun hb=>?_) (fun hb=>?_)
      ·have h57:=cT hq55 hb
       obtain⟨x58,hx58,h59⟩:=Kfw h57
       refine Kfm hΓ 5 rfl ?_
       refine Krh rfl ?_
       refine eo_o rfl (Kgg hΓ (enc:=eS) hx58 rfl rfl rfl rfl rfl (fun _=>rfl)) ?_
       refine Kfm hΓ 4 rfl ?_
       obtain rfl:=oSi h59
       exact⟨⟨rfl,rfl,rfl,rfl,rfl,rfl,rfl,rfl,rfl,tV⟩,[],rfl,.inl rfl⟩
      have h60:=cF hq55 hb
      refine Kfm hΓ 10 rfl ?_
      obtain rfl:=oSi h60
      exact⟨⟨rfl,rfl,rfl,rfl,rfl,rfl,rfl,rfl,rfl,tV⟩,[],rfl,.inl rfl⟩
     refine Kfm hΓ 2 rfl ?_
     refine Kfp rfl (fun hb=>?_) (fun hb=>?_)
     ·have h61:=cT h56 hb
      refine go hΓ 8 rfl ?_
      obtain⟨v62,hv62,h63⟩:=Kfw h61
      obtain rfl:=oSi h63
      obtain rfl:=hout45 _ rfl
      obtain rfl:=oSi h40
      refine go hΓ 5 rfl ?_
      obtain⟨v64,hv64,h65⟩:=Kfw hv62
      obtain rfl:=oSi h65
      obtain rfl:=hout18 _ rfl
      obtain rfl:=oSi h13
      refine go hΓ 4 rfl ?_
      obtain rfl:=oSi hv64
      exact Khi hΓ (.inr rfl) rfl rfl
     have h66:=cF h56 hb
     refine go hΓ 7 rfl ?_
     obtain rfl:=oSi h66
     exact⟨_,rfl,⟨⟨rfl,rfl,rfl,rfl,rfl,rfl,rfl,Kew rfl (Kev (nLl hlt hb42)),tV⟩,[],rfl,.inl rfl⟩⟩
    subst hgo
    refine go hΓ 6 rfl ?_
    refine Kfr rfl (decide_eq_false (Int.lt_irrefl _)) ?_
    refine go hΓ 4 rfl ?_
    exact⟨_,rfl,⟨⟨rfl,rfl,rfl,rfl,tV⟩,[],rfl,.inl rfl⟩⟩
   intro a41 ha
   subst ha
   replace h40:=Kjl h40
   refine go hΓ 6 rfl ?_
   obtain rfl:=oSi h40
   exact⟨_,rfl,⟨⟨rfl,rfl,rfl,Kew rfl (Kev (nLl hlt hb15)),tV⟩,[_],rfl,.inr ⟨HB.mk rfl,FB.mk rfl,(nBe rfl)⟩⟩⟩
  subst hgo
  refine go hΓ 6 rfl ?_
  refine Kfr rfl (decide_eq_false (Int.lt_irrefl _)) ?_
  refine go hΓ 4 rfl ?_
  exact⟨_,rfl,⟨⟨rfl,tV⟩,[],rfl,.inl rfl⟩⟩
 intro a14 ha
 subst ha
 replace h13:=Kjl h13
 obtain⟨y67,hy67,h68⟩:=Kfw h13
 refine go hΓ 6 rfl ?_
 refine Kgx (Lml Tryz.func105 rfl rfl) (Ljv hy67) rfl (nBe rfl) rfl rfl rfl rfl rfl ?_
 refine Kfm hΓ 3 rfl ?_
 refine Kfp rfl (fun hb=>?_) (fun hb=>?_)
 ·have h69:=cT h68 hb
  refine go hΓ 7 rfl ?_
  obtain rfl:=oSi h69
  exact Khi hΓ (.inr rfl) rfl rfl
 have h70:=cF h68 hb
 refine go hΓ 8 rfl ?_
 obtain rfl:=oSi h70
 exact Khi hΓ (.inr rfl) rfl rfl
theorem Ljx{v_at:Int}{r:Bool}(h:Ldl v_at=some r):Pure Tryz.prog 143 [I v_at] (B r):=by
 refine Pure.enter (Fr.of 0 _) Tryz.func143 rfl (Fr.of_ok _) rfl rfl ?_
 refine Kfo ?_
 unfold Ldl at h
 obtain⟨y1,hy1,h2⟩:=Kfw h
 refine go hΓ 8 rfl ?_
 refine Kgx (Lml Tryz.func211 rfl rfl) (Ljp hy1) rfl (nBe rfl) rfl rfl rfl rfl rfl ?_
 refine Kfm hΓ 4 rfl ?_
 obtain rfl:=oSi h2
 exact Khi hΓ (.inr rfl) rfl rfl
theorem Ljy{kind:Int}{r:Str}(h:Ldm kind=some r):Pure Tryz.prog 198 [I kind] (S r):=by
 refine Pure.enter (Fr.of 0 _) Tryz.func198 rfl (Fr.of_ok _) rfl rfl ?_
 refine Kfo ?_
 unfold Ldm at h
 refine go hΓ 7 rfl ?_
 refine Kgr hΓ (enc:=eS) [[],[98,106,116,117,115,114],[98,106],[66,110,74,112,109],[98,110],[98,110,112],[98,110,109],[98,110,116],[98,110],[98,110]] rfl rfl rfl rfl rfl rfl rfl rfl rfl rfl rfl rfl (nBe rfl) ?_
 obtain⟨x1,hx1,h2⟩:=Kfw h
 refine Kfm hΓ 1 rfl ?_
 refine eo_o rfl (Kgg hΓ (enc:=eS) hx1 rfl rfl rfl rfl rfl (fun _=>rfl)) ?_
 refine Kfm hΓ 5 rfl ?_
 obtain rfl:=oSi h2
 exact Khi hΓ (.inr rfl) rfl rfl
theorem Ljz{s:Str}{r:Int}(h:Ldn s=some r):Pure Tryz.prog 144 [S s] (I r):=by
 refine Pure.enter (Fr.of 0 _) Tryz.func144 rfl (Fr.of_ok _) rfl rfl ?_
 refine Kfo ?_
 unfold Ldn at h
 obtain⟨y1,hy1,h2⟩:=Kfw h
 refine go hΓ 9 rfl ?_
 refine Kgx (Lml Tryz.func104 rfl rfl) (Ljr hy1) rfl (nBe rfl) rfl rfl rfl rfl rfl ?_
 refine Kfm hΓ 3 rfl ?_
 refine Kfp rfl (fun hb=>?_) (fun hb=>?_)
 ·have h3:=cT h2 hb
  refine go hΓ 7 rfl ?_
  obtain rfl:=oSi h3
  exact Khi hΓ (.inr rfl) rfl rfl
 have h4:=cF h2 hb
 refine go hΓ 8 rfl ?_
 obtain rfl:=oSi h4
 exact Khi hΓ (.inr rfl) rfl rfl
theorem Lka{s:Str}{r:Bool}(h:Ldo s=some r):Pure Tryz.prog 60 [S s] (B r):=by
 refine Pure.enter (Fr.of 0 _) Tryz.func60 rfl (Fr.of_ok _) rfl rfl ?_
 refine Kfo ?_
 unfold Ldo at h
 obtain⟨y1,hy1,h2⟩:=Kfw h
 refine go hΓ 9 rfl ?_
 refine Kgx (Lml Tryz.func105 rfl rfl) (Ljv hy1) rfl (nBe rfl) rfl rfl rfl rfl rfl ?_
 refine Kfm hΓ 1 rfl ?_
 obtain⟨q3,hq3,h4⟩:=Kfw h2
 refine Kfv 4 [(2,B false),(10,B q3)] [] ?_ ?_
 ·refine Krj rfl rfl (fun hb=>?_) (fun hb=>?_)
  ·have h5:=cT hq3 hb
   obtain⟨y6,hy6,h7⟩:=Kfw h5
   refine Kfm hΓ 1 rfl ?_
   refine Krh rfl ?_
   refine Kgx (Lml Tryz.func153 rfl rfl) (Lbl hy6) rfl (nBe rfl) rfl rfl rfl rfl rfl ?_
   refine Kfm hΓ 3 rfl ?_
   obtain rfl:=oSi h7
   exact⟨⟨rfl,rfl,tV⟩,[],rfl,.inl rfl⟩
  have h8:=cF hq3 hb
  refine Kfm hΓ 5 rfl ?_
  obtain rfl:=oSi h8
  exact⟨⟨rfl,rfl,tV⟩,[],rfl,.inl rfl⟩
 refine Kfm hΓ 4 rfl ?_
 obtain rfl:=oSi h4
 exact Khi hΓ (.inr rfl) rfl rfl
theorem Lkb{s:Lby}{c:Int}{r:Int}(h:Ldp s c=some r):Pure Tryz.prog 199 [.agg (fS s),.d (.v (.int .i32 c))] (I r):=by
 refine Pure.enter (Fr.of 0 _) Tryz.func199 rfl (Fr.of_ok _) rfl rfl ?_
 refine Kfo ?_
 unfold Ldp at h
 refine go hΓ 2 rfl ?_
 refine Ksq rfl rfl rfl rfl (nBe rfl) ?_
 obtain⟨q1,hq1,h2⟩:=Kfw h
 refine Kfm hΓ 9 rfl ?_
 refine Kjt (q:=q1) (fun a3=>[]) (fun a3=>[.box 37 (fS s)]) ?_ ?_
 ·obtain⟨q4,hq4,h5⟩:=Kfw hq1
  refine go hΓ 8 rfl ?_
  refine Kjr [(1,.d (.v (.int .i32 c))),(2,.ptr 0 0),(6,.d (.v (.int .i32 c))),(7,B q4)] [.box 37 (fS s)] ?_ ?_
  ·refine Kfp rfl (fun hb=>?_) (fun hb=>?_)
   ·have h6:=cT hq4 hb
    refine go hΓ 1 rfl ?_
    obtain rfl:=oSi h6
    exact⟨⟨rfl,rfl,rfl,rfl,tV⟩,[],rfl,.inl rfl⟩
   have h7:=cF hq4 hb
   refine go hΓ 6 rfl ?_
   refine Kfp rfl (fun hb=>?_) (fun hb=>?_)
   ·have h8:=cT h7 hb
    refine go hΓ 1 rfl ?_
    obtain rfl:=oSi h8
    exact⟨⟨rfl,rfl,rfl,rfl,tV⟩,[],rfl,.inl rfl⟩
   have h9:=cF h7 hb
   refine go hΓ 6 rfl ?_
   refine Kfp rfl (fun hb=>?_) (fun hb=>?_)
   ·have h10:=cT h9 hb
    refine go hΓ 1 rfl ?_
    obtain rfl:=oSi h10
    exact⟨⟨rfl,rfl,rfl,rfl,tV⟩,[],rfl,.inl rfl⟩
   have h11:=cF h9 hb
   refine go hΓ 4 rfl ?_
   obtain rfl:=oSi h11
   exact⟨⟨rfl,rfl,rfl,rfl,tV⟩,[],rfl,.inl rfl⟩
  refine go hΓ 1 rfl ?_
  refine Kfp rfl (fun hb=>?_) (fun hb=>?_)
  ·have h12:=cT h5 hb
   refine go hΓ 2 rfl ?_
   refine eo_s (nBe rfl) (nblt.1 rfl) (Kkn false) ?_
   refine Khe [.box 37 (fS s),mOb (kI .i32) false eS ([]:List (Int×Str))] rfl ?_
   refine Kfm hΓ 2 rfl ?_
   refine eo_u (nBe rfl) (Klk hΓ (kv:=(kI .i32)) (agg:=false) (enc:=eS) (id:=1) ([]:List (Int×Str)) 98 s.By rfl rfl rfl (Kki .i32) rfl rfl rfl rfl rfl) ?_
   refine Khe [.box 37 (fS s),mOb (kI .i32) false eS (mSet ([]:List (Int×Str)) 98 s.By)] rfl ?_
   refine Kfm hΓ 2 rfl ?_
   refine eo_u (nBe rfl) (Klk hΓ (kv:=(kI .i32)) (agg:=false) (enc:=eS) (id:=1) (mSet ([]:List (Int×Str)) 98 s.By) 110 s.Node rfl rfl rfl (Kki .i32) rfl rfl rfl rfl rfl) ?_
   refine Khe [.box 37 (fS s),mOb (kI .i32) false eS (mSet (mSet ([]:List (Int×Str)) 98 s.By) 110 s.Node)] rfl ?_
   refine Kfm hΓ 2 rfl ?_
   refine eo_u (nBe rfl) (Klk hΓ (kv:=(kI .i32)) (agg:=false) (enc:=eS) (id:=1) (mSet (mSet ([]:List (Int×Str)) 98 s.By) 110 s.Node) 106 s.Join rfl rfl rfl (Kki .i32) rfl rfl rfl rfl rfl) ?_
   refine Khe [.box 37 (fS s),mOb (kI .i32) false eS (mSet (mSet (mSet ([]:List (Int×Str)) 98 s.By) 110 s.Node) 106 s.Join)] rfl ?_
   refine Kfm hΓ 2 rfl ?_
   refine eo_u (nBe rfl) (Klk hΓ (kv:=(kI .i32)) (agg:=false) (enc:=eS) (id:=1) (mSet (mSet (mSet ([]:List (Int×Str)) 98 s.By) 110 s.Node) 106 s.Join) 109 s.Name rfl rfl rfl (Kki .i32) rfl rfl rfl rfl rfl) ?_
   refine Khe [.box 37 (fS s),mOb (kI .i32) false eS (mSet (mSet (mSet (mSet ([]:List (Int×Str)) 98 s.By) 110 s.Node) 106 s.Join) 109 s.Name)] rfl ?_
   refine Kfm hΓ 2 rfl ?_
   refine eo_o rfl (Kkr hΓ (kv:=(kI .i32)) (agg:=false) (enc:=eS) (mSet (mSet (mSet (mSet ([]:List (Int×Str)) 98 s.By) 110 s.Node) 106 s.Join) 109 s.Name) c ([]:Str) rfl rfl rfl rfl (Kki .i32) rfl rfl rfl rfl rfl rfl rfl) ?_
   obtain⟨y13,hy13,h14⟩:=Kfw h12
   refine Kgx (Lml Tryz.func144 rfl rfl) (Ljz hy13) rfl (nBe rfl) rfl rfl rfl rfl rfl ?_
   refine Kfm hΓ 5 rfl ?_
   obtain⟨v15,hv15,h16⟩:=Kfw h14
   obtain rfl:=oSi h16
   obtain rfl:=oSi h2
   refine go hΓ 2 rfl ?_
   obtain rfl:=oSi hv15
   exact Khi hΓ (.inr rfl) rfl rfl
  have h17:=cF h5 hb
  obtain⟨q18,hq18,h19⟩:=Kfw h17
  refine go hΓ 7 rfl ?_
  refine Kjr [(1,.d (.v (.int .i32 c))),(2,.ptr 0 0),(6,.d (.v (.int .i32 c))),(25,B q18)] [.box 37 (fS s)] ?_ ?_
  ·refine Kfp rfl (fun hb=>?_) (fun hb=>?_)
   ·have h20:=cT hq18 hb
    refine go hΓ 1 rfl ?_
    obtain rfl:=oSi h20
    exact⟨⟨rfl,rfl,rfl,rfl,tV⟩,[],rfl,.inl rfl⟩
   have h21:=cF hq18 hb
   refine go hΓ 4 rfl ?_
   obtain rfl:=oSi h21
   exact⟨⟨rfl,rfl,rfl,rfl,tV⟩,[],rfl,.inl rfl⟩
  refine go hΓ 1 rfl ?_
  refine Kfp rfl (fun hb=>?_) (fun hb=>?_)
  ·have h22:=cT h19 hb
   refine go hΓ 2 rfl ?_
   refine eo_s (nBe rfl) (nblt.1 rfl) (Kkn false) ?_
   refine Khe [.box 37 (fS s),mOb (kI .i32) false eS ([]:List (Int×Str))] rfl ?_
   refine Kfm hΓ 2 rfl ?_
   refine eo_u (nBe rfl) (Klk hΓ (kv:=(kI .i32)) (agg:=false) (enc:=eS) (id:=1) ([]:List (Int×Str)) 66 s.By rfl rfl rfl (Kki .i32) rfl rfl rfl rfl rfl) ?_
   refine Khe [.box 37 (fS s),mOb (kI .i32) false eS (mSet ([]:List (Int×Str)) 66 s.By)] rfl ?_
   refine Kfm hΓ 2 rfl ?_
   refine eo_u (nBe rfl) (Klk hΓ (kv:=(kI .i32)) (agg:=false) (enc:=eS) (id:=1) (mSet ([]:List (Int×Str)) 66 s.By) 74 s.Join rfl rfl rfl (Kki .i32) rfl rfl rfl rfl rfl) ?_
   refine Khe [.box 37 (fS s),mOb (kI .i32) false eS (mSet (mSet ([]:List (Int×Str)) 66 s.By) 74 s.Join)] rfl ?_
   refine Kfm hΓ 2 rfl ?_
   refine eo_o rfl (Kkr hΓ (kv:=(kI .i32)) (agg:=false) (enc:=eS) (mSet (mSet ([]:List (Int×Str)) 66 s.By) 74 s.Join) c ([]:Str) rfl rfl rfl rfl (Kki .i32) rfl rfl rfl rfl rfl rfl rfl) ?_
   refine Kfm hΓ 9 rfl ?_
   refine Kfp rfl (fun hb=>?_) (fun hb=>?_)
   ·have h23:=cT h22 hb
    obtain⟨y24,hy24,h25⟩:=Kfw h23
    refine go hΓ 3 rfl ?_
    refine Kgx (Lml Tryz.func144 rfl rfl) (Ljz hy24) rfl (nBe rfl) rfl rfl rfl rfl rfl ?_
    refine Kfm hΓ 5 rfl ?_
    obtain⟨v26,hv26,h27⟩:=Kfw h25
    obtain rfl:=oSi h27
    obtain rfl:=oSi h2
    refine go hΓ 2 rfl ?_
    obtain rfl:=oSi hv26
    exact Khi hΓ (.inr rfl) rfl rfl
   have h28:=cF h22 hb
   refine go hΓ 2 rfl ?_
   obtain rfl:=oSi h28
   exact⟨_,rfl,⟨tV,[_],rfl,.inr ⟨HB.mk rfl,FB.mk rfl,(nBe rfl)⟩⟩⟩
  have h29:=cF h19 hb
  refine go hΓ 6 rfl ?_
  refine Kfp rfl (fun hb=>?_) (fun hb=>?_)
  ·have h30:=cT h29 hb
   obtain⟨y31,hy31,h32⟩:=Kfw h30
   refine go hΓ 4 rfl ?_
   refine Kgx (Lml Tryz.func60 rfl rfl) (Lka hy31) rfl (nBe rfl) rfl rfl rfl rfl rfl ?_
   refine Kfm hΓ 3 rfl ?_
   refine Kfp rfl (fun hb=>?_) (fun hb=>?_)
   ·have h33:=cT h32 hb
    refine go hΓ 7 rfl ?_
    obtain⟨v34,hv34,h35⟩:=Kfw h33
    obtain rfl:=oSi h35
    obtain rfl:=oSi h2
    refine go hΓ 2 rfl ?_
    obtain rfl:=oSi hv34
    exact Khi hΓ (.inr rfl) rfl rfl
   have h36:=cF h32 hb
   refine go hΓ 2 rfl ?_
   obtain rfl:=oSi h36
   exact⟨_,rfl,⟨tV,[],rfl,.inl rfl⟩⟩
  have h37:=cF h29 hb
  refine go hΓ 6 rfl ?_
  refine Kfp rfl (fun hb=>?_) (fun hb=>?_)
  ·have h38:=cT h37 hb
   refine go hΓ 9 rfl ?_
   refine Kfp rfl (fun hb=>?_) (fun hb=>?_)
   ·have h39:=cT h38 hb
    refine go hΓ 8 rfl ?_
    obtain⟨v40,hv40,h41⟩:=Kfw h39
    obtain rfl:=oSi h41
    obtain rfl:=oSi h2
    refine go hΓ 2 rfl ?_
    obtain rfl:=oSi hv40
    exact Khi hΓ (.inr rfl) rfl rfl
   have h42:=cF h38 hb
   obtain⟨y43,hy43,h44⟩:=Kfw h42
   refine go hΓ 6 rfl ?_
   refine Kgx (Lml Tryz.func103 rfl rfl) (Ljs hy43) rfl (nBe rfl) rfl rfl rfl rfl rfl ?_
   refine Kfm hΓ 5 rfl ?_
   obtain⟨v45,hv45,h46⟩:=Kfw h44
   obtain rfl:=oSi h46
   obtain rfl:=oSi h2
   refine go hΓ 2 rfl ?_
   obtain rfl:=oSi hv45
   exact Khi hΓ (.inr rfl) rfl rfl
  have h47:=cF h37 hb
  obtain⟨q48,hq48,h49⟩:=Kfw h47
  refine go hΓ 7 rfl ?_
  refine Kjr [(1,.d (.v (.int .i32 c))),(2,.ptr 0 0),(55,B q48)] [.box 37 (fS s)] ?_ ?_
  ·refine Kfp rfl (fun hb=>?_) (fun hb=>?_)
   ·have h50:=cT hq48 hb
    refine go hΓ 1 rfl ?_
    obtain rfl:=oSi h50
    exact⟨⟨rfl,rfl,rfl,tV⟩,[],rfl,.inl rfl⟩
   have h51:=cF hq48 hb
   refine go hΓ 4 rfl ?_
   obtain rfl:=oSi h51
   exact⟨⟨rfl,rfl,rfl,tV⟩,[],rfl,.inl rfl⟩
  refine go hΓ 1 rfl ?_
  refine Kfp rfl (fun hb=>?_) (fun hb=>?_)
  ·have h52:=cT h49 hb
   refine go hΓ 2 rfl ?_
   refine eo_s (nBe rfl) (nblt.1 rfl) (Kkn false) ?_
   refine Khe [.box 37 (fS s),mOb (kI .i32) false (eN .i64) ([]:List (Int×Int))] rfl ?_
   refine Kfm hΓ 2 rfl ?_
   refine eo_u (nBe rfl) (Klk hΓ (kv:=(kI .i32)) (agg:=false) (enc:=(eN .i64)) (id:=1) ([]:List (Int×Int)) 117 s.Until rfl rfl rfl (Kki .i32) rfl rfl rfl rfl rfl) ?_
   refine Khe [.box 37 (fS s),mOb (kI .i32) false (eN .i64) (mSet ([]:List (Int×Int)) 117 s.Until)] rfl ?_
   refine Kfm hΓ 2 rfl ?_
   refine eo_u (nBe rfl) (Klk hΓ (kv:=(kI .i32)) (agg:=false) (enc:=(eN .i64)) (id:=1) (mSet ([]:List (Int×Int)) 117 s.Until) 115 s.Uses rfl rfl rfl (Kki .i32) rfl rfl rfl rfl rfl) ?_
   refine Khe [.box 37 (fS s),mOb (kI .i32) false (eN .i64) (mSet (mSet ([]:List (Int×Int)) 117 s.Until) 115 s.Uses)] rfl ?_
   refine Kfm hΓ 2 rfl ?_
   refine eo_o rfl (Kkr hΓ (kv:=(kI .i32)) (agg:=false) (enc:=(eN .i64)) (mSet (mSet ([]:List (Int×Int)) 117 s.Until) 115 s.Uses) c (0:Int) rfl rfl rfl rfl (Kki .i32) rfl rfl rfl rfl rfl rfl rfl) ?_
   obtain⟨y53,hy53,h54⟩:=Kfw h52
   refine Kgx (Lml Tryz.func105 rfl rfl) (Ljv hy53) rfl (nBe rfl) rfl rfl rfl rfl rfl ?_
   refine Kfm hΓ 3 rfl ?_
   refine Kfp rfl (fun hb=>?_) (fun hb=>?_)
   ·have h55:=cT h54 hb
    refine go hΓ 7 rfl ?_
    obtain⟨v56,hv56,h57⟩:=Kfw h55
    obtain rfl:=oSi h57
    obtain rfl:=oSi h2
    refine go hΓ 2 rfl ?_
    obtain rfl:=oSi hv56
    exact Khi hΓ (.inr rfl) rfl rfl
   have h58:=cF h54 hb
   refine go hΓ 2 rfl ?_
   obtain rfl:=oSi h58
   exact⟨_,rfl,⟨tV,[_],rfl,.inr ⟨HB.mk rfl,FB.mk rfl,(nBe rfl)⟩⟩⟩
  have h59:=cF h49 hb
  refine go hΓ 2 rfl ?_
  obtain rfl:=oSi h59
  exact⟨_,rfl,⟨tV,[],rfl,.inl rfl⟩⟩
 intro a3 ha
 subst ha
 replace h2:=Kjk h2
 refine go hΓ 7 rfl ?_
 obtain rfl:=oSi h2
 exact Khi hΓ (.inr rfl) rfl rfl
theorem Lkc{s:Lby}{r:Int}(h:Ldq s=some r):Pure Tryz.prog 95 [.agg (fS s)] (I r):=by
 refine Pure.enter (Fr.of 0 _) Tryz.func95 rfl (Fr.of_ok _) rfl rfl ?_
 refine Kfo ?_
 unfold Ldq at h
 refine go hΓ 2 rfl ?_
 refine Ksq rfl rfl rfl rfl (nBe rfl) ?_
 obtain⟨y1,hy1,h2⟩:=Kfw h
 refine Kfm hΓ 9 rfl ?_
 refine Kgx (Lml Tryz.func143 rfl rfl) (Ljx hy1) rfl (nBe rfl) rfl rfl rfl rfl rfl ?_
 refine Kfm hΓ 4 rfl ?_
 refine Kfp rfl (fun hb=>?_) (fun hb=>?_)
 ·have h3:=cT h2 hb
  refine go hΓ 8 rfl ?_
  obtain rfl:=oSi h3
  exact Khi hΓ (.inr rfl) rfl rfl
 have h4:=cF h2 hb
 obtain⟨y5,hy5,h6⟩:=Kfw h4
 refine go hΓ 4 rfl ?_
 refine Kgx (Lml Tryz.func104 rfl rfl) (Ljr hy5) rfl (nBe rfl) rfl rfl rfl rfl rfl ?_
 refine Kfm hΓ 4 rfl ?_
 refine Kfp rfl (fun hb=>?_) (fun hb=>?_)
 ·have h7:=cT h6 hb
  refine go hΓ 8 rfl ?_
  obtain rfl:=oSi h7
  exact Khi hΓ (.inr rfl) rfl rfl
 have h8:=cF h6 hb
 obtain⟨y9,hy9,h10⟩:=Kfw h8
 refine go hΓ 4 rfl ?_
 refine Kgx (Lml Tryz.func105 rfl rfl) (Ljv hy9) rfl (nBe rfl) rfl rfl rfl rfl rfl ?_
 refine Kfm hΓ 4 rfl ?_
 refine Kfp rfl (fun hb=>?_) (fun hb=>?_)
 ·have h11:=cT h10 hb
  refine go hΓ 8 rfl ?_
  obtain rfl:=oSi h11
  exact Khi hΓ (.inr rfl) rfl rfl
 have h12:=cF h10 hb
 obtain⟨y13,hy13,h14⟩:=Kfw h12
 refine go hΓ 4 rfl ?_
 refine Kgx (Lml Tryz.func105 rfl rfl) (Ljv hy13) rfl (nBe rfl) rfl rfl rfl rfl rfl ?_
 refine Kfm hΓ 4 rfl ?_
 refine Kfp rfl (fun hb=>?_) (fun hb=>?_)
 ·have h15:=cT h14 hb
  refine go hΓ 8 rfl ?_
  obtain rfl:=oSi h15
  exact Khi hΓ (.inr rfl) rfl rfl
 have h16:=cF h14 hb
 obtain⟨y17,hy17,h18⟩:=Kfw h16
 refine go hΓ 8 rfl ?_
 refine Kgx (Lml Tryz.func198 rfl rfl) (Ljy hy17) rfl (nBe rfl) rfl rfl rfl rfl rfl ?_
 obtain⟨hg20,h19⟩:=Kfx h18
 refine Knx hΓ y17 rfl rfl rfl rfl (nBe rfl) ?_
 refine Kfm hΓ 2 rfl ?_
 obtain⟨q26,hq26,h27⟩:=Kfw h19
 refine go hΓ 1 rfl ?_
 refine Knz y17 hq26 (fun sn23 s21=>[(1,.ptr 0 0),(33,.ptr 1 0)]) (fun sn23 s21=>[.box 37 (fS s),.siter y17 sn23]) ⟨⟨rfl,rfl,tV⟩,[],rfl,.inl rfl⟩ (fun sn23 s21 hdone28 hstep29=>?_)
 refine go hΓ 2 rfl ?_
 refine Kny y17 sn23 [.box 37 (fS s),.dead] rfl rfl rfl rfl (nBe rfl) hg20 (fun hdsn23=>?_) (fun x22 hjsn23=>?_)
 ·have hqsn23:=hdone28 hdsn23
  subst hqsn23
  replace h27:=Kjl h27
  obtain⟨y30,hy30,h31⟩:=Kfw h27
  refine Kfm hΓ 14 rfl ?_
  refine Kgx (Lml Tryz.func198 rfl rfl) (Ljy hy30) rfl (nBe rfl) rfl rfl rfl rfl rfl ?_
  obtain⟨y32,hy32,h33⟩:=Kfw h31
  refine Kgx (Lml Tryz.func200 rfl rfl) (Lbq hy32) rfl (nBe rfl) rfl rfl rfl rfl rfl ?_
  refine Kfm hΓ 5 rfl ?_
  refine eo_s (nBe rfl) (nblt.1 rfl) (Kkn false) ?_
  refine Khe [.box 37 (fS s),.dead,mOb (kI .u8) false eB ([]:List (Int×Bool))] rfl ?_
  refine Kfm hΓ 3 rfl ?_
  refine eo_u (nBe rfl) (Klk hΓ (kv:=(kI .u8)) (agg:=false) (enc:=eB) (id:=2) ([]:List (Int×Bool)) 98 ((s.By:Str)==[]) rfl rfl rfl (Kki .u8) rfl rfl rfl rfl rfl) ?_
  refine Khe [.box 37 (fS s),.dead,mOb (kI .u8) false eB (mSet ([]:List (Int×Bool)) 98 ((s.By:Str)==[]))] rfl ?_
  refine Kfm hΓ 3 rfl ?_
  refine eo_u (nBe rfl) (Klk hΓ (kv:=(kI .u8)) (agg:=false) (enc:=eB) (id:=2) (mSet ([]:List (Int×Bool)) 98 ((s.By:Str)==[])) 110 ((s.Node:Str)==[]) rfl rfl rfl (Kki .u8) rfl rfl rfl rfl rfl) ?_
  refine Khe [.box 37 (fS s),.dead,mOb (kI .u8) false eB (mSet (mSet ([]:List (Int×Bool)) 98 ((s.By:Str)==[])) 110 ((s.Node:Str)==[]))] rfl ?_
  refine Kfm hΓ 3 rfl ?_
  refine eo_u (nBe rfl) (Klk hΓ (kv:=(kI .u8)) (agg:=false) (enc:=eB) (id:=2) (mSet (mSet ([]:List (Int×Bool)) 98 ((s.By:Str)==[])) 110 ((s.Node:Str)==[])) 106 ((s.Join:Str)==[]) rfl rfl rfl (Kki .u8) rfl rfl rfl rfl rfl) ?_
  refine Khe [.box 37 (fS s),.dead,mOb (kI .u8) false eB (mSet (mSet (mSet ([]:List (Int×Bool)) 98 ((s.By:Str)==[])) 110 ((s.Node:Str)==[])) 106 ((s.Join:Str)==[]))] rfl ?_
  refine Kfm hΓ 3 rfl ?_
  refine eo_u (nBe rfl) (Klk hΓ (kv:=(kI .u8)) (agg:=false) (enc:=eB) (id:=2) (mSet (mSet (mSet ([]:List (Int×Bool)) 98 ((s.By:Str)==[])) 110 ((s.Node:Str)==[])) 106 ((s.Join:Str)==[])) 112 ((s.Public:Str)==[]) rfl rfl rfl (Kki .u8) rfl rfl rfl rfl rfl) ?_
  refine Khe [.box 37 (fS s),.dead,mOb (kI .u8) false eB (mSet (mSet (mSet (mSet ([]:List (Int×Bool)) 98 ((s.By:Str)==[])) 110 ((s.Node:Str)==[])) 106 ((s.Join:Str)==[])) 112 ((s.Public:Str)==[]))] rfl ?_
  refine Kfm hΓ 3 rfl ?_
  refine eo_u (nBe rfl) (Klk hΓ (kv:=(kI .u8)) (agg:=false) (enc:=eB) (id:=2) (mSet (mSet (mSet (mSet ([]:List (Int×Bool)) 98 ((s.By:Str)==[])) 110 ((s.Node:Str)==[])) 106 ((s.Join:Str)==[])) 112 ((s.Public:Str)==[])) 109 ((s.Name:Str)==[]) rfl rfl rfl (Kki .u8) rfl rfl rfl rfl rfl) ?_
  refine Khe [.box 37 (fS s),.dead,mOb (kI .u8) false eB (mSet (mSet (mSet (mSet (mSet ([]:List (Int×Bool)) 98 ((s.By:Str)==[])) 110 ((s.Node:Str)==[])) 106 ((s.Join:Str)==[])) 112 ((s.Public:Str)==[])) 109 ((s.Name:Str)==[]))] rfl ?_
  refine Kfm hΓ 4 rfl ?_
  refine eo_u (nBe rfl) (Klk hΓ (kv:=(kI .u8)) (agg:=false) (enc:=eB) (id:=2) (mSet (mSet (mSet (mSet (mSet ([]:List (Int×Bool)) 98 ((s.By:Str)==[])) 110 ((s.Node:Str)==[])) 106 ((s.Join:Str)==[])) 112 ((s.Public:Str)==[])) 109 ((s.Name:Str)==[])) 116 (((s.Tags.length:Int):Int)==0) rfl rfl rfl (Kki .u8) rfl rfl rfl rfl rfl) ?_
  refine Khe [.box 37 (fS s),.dead,mOb (kI .u8) false eB (mSet (mSet (mSet (mSet (mSet (mSet ([]:List (Int×Bool)) 98 ((s.By:Str)==[])) 110 ((s.Node:Str)==[])) 106 ((s.Join:Str)==[])) 112 ((s.Public:Str)==[])) 109 ((s.Name:Str)==[])) 116 (((s.Tags.length:Int):Int)==0))] rfl ?_
  refine Kfm hΓ 3 rfl ?_
  refine eo_u (nBe rfl) (Klk hΓ (kv:=(kI .u8)) (agg:=false) (enc:=eB) (id:=2) (mSet (mSet (mSet (mSet (mSet (mSet ([]:List (Int×Bool)) 98 ((s.By:Str)==[])) 110 ((s.Node:Str)==[])) 106 ((s.Join:Str)==[])) 112 ((s.Public:Str)==[])) 109 ((s.Name:Str)==[])) 116 (((s.Tags.length:Int):Int)==0)) 117 ((s.Until:Int)==0) rfl rfl rfl (Kki .u8) rfl rfl rfl rfl rfl) ?_
  refine Khe [.box 37 (fS s),.dead,mOb (kI .u8) false eB (mSet (mSet (mSet (mSet (mSet (mSet (mSet ([]:List (Int×Bool)) 98 ((s.By:Str)==[])) 110 ((s.Node:Str)==[])) 106 ((s.Join:Str)==[])) 112 ((s.Public:Str)==[])) 109 ((s.Name:Str)==[])) 116 (((s.Tags.length:Int):Int)==0)) 117 ((s.Until:Int)==0))] rfl ?_
  refine Kfm hΓ 3 rfl ?_
  refine eo_u (nBe rfl) (Klk hΓ (kv:=(kI .u8)) (agg:=false) (enc:=eB) (id:=2) (mSet (mSet (mSet (mSet (mSet (mSet (mSet ([]:List (Int×Bool)) 98 ((s.By:Str)==[])) 110 ((s.Node:Str)==[])) 106 ((s.Join:Str)==[])) 112 ((s.Public:Str)==[])) 109 ((s.Name:Str)==[])) 116 (((s.Tags.length:Int):Int)==0)) 117 ((s.Until:Int)==0)) 115 ((s.Uses:Int)==0) rfl rfl rfl (Kki .u8) rfl rfl rfl rfl rfl) ?_
  refine Khe [.box 37 (fS s),.dead,mOb (kI .u8) false eB (mSet (mSet (mSet (mSet (mSet (mSet (mSet (mSet ([]:List (Int×Bool)) 98 ((s.By:Str)==[])) 110 ((s.Node:Str)==[])) 106 ((s.Join:Str)==[])) 112 ((s.Public:Str)==[])) 109 ((s.Name:Str)==[])) 116 (((s.Tags.length:Int):Int)==0)) 117 ((s.Until:Int)==0)) 115 ((s.Uses:Int)==0))] rfl ?_
  refine Kfm hΓ 3 rfl ?_
  refine eo_u (nBe rfl) (Klk hΓ (kv:=(kI .u8)) (agg:=false) (enc:=eB) (id:=2) (mSet (mSet (mSet (mSet (mSet (mSet (mSet (mSet ([]:List (Int×Bool)) 98 ((s.By:Str)==[])) 110 ((s.Node:Str)==[])) 106 ((s.Join:Str)==[])) 112 ((s.Public:Str)==[])) 109 ((s.Name:Str)==[])) 116 (((s.Tags.length:Int):Int)==0)) 117 ((s.Until:Int)==0)) 115 ((s.Uses:Int)==0)) 114 (!s.Ready) rfl rfl rfl (Kki .u8) rfl rfl rfl rfl rfl) ?_
  refine Khe [.box 37 (fS s),.dead,mOb (kI .u8) false eB (mSet (mSet (mSet (mSet (mSet (mSet (mSet (mSet (mSet ([]:List (Int×Bool)) 98 ((s.By:Str)==[])) 110 ((s.Node:Str)==[])) 106 ((s.Join:Str)==[])) 112 ((s.Public:Str)==[])) 109 ((s.Name:Str)==[])) 116 (((s.Tags.length:Int):Int)==0)) 117 ((s.Until:Int)==0)) 115 ((s.Uses:Int)==0)) 114 (!s.Ready))] rfl ?_
  refine Kfm hΓ 8 rfl ?_
  refine Klg hΓ (kv:=(kI .u8)) (agg:=false) (enc:=eB) (mSet (mSet (mSet (mSet (mSet (mSet (mSet (mSet (mSet ([]:List (Int×Bool)) 98 ((s.By:Str)==[])) 110 ((s.Node:Str)==[])) 106 ((s.Join:Str)==[])) 112 ((s.Public:Str)==[])) 109 ((s.Name:Str)==[])) 116 (((s.Tags.length:Int):Int)==0)) 117 ((s.Until:Int)==0)) 115 ((s.Uses:Int)==0)) 114 (!s.Ready)) rfl rfl rfl rfl rfl (nBe rfl) (fun mr34 bs35 cl36 hpm37 hbl38 hbn39=>?_)
  refine Khe [.box 37 (fS s),.dead,mObS (kI .u8) false eB (mSet (mSet (mSet (mSet (mSet (mSet (mSet (mSet (mSet ([]:List (Int×Bool)) 98 ((s.By:Str)==[])) 110 ((s.Node:Str)==[])) 106 ((s.Join:Str)==[])) 112 ((s.Public:Str)==[])) 109 ((s.Name:Str)==[])) 116 (((s.Tags.length:Int):Int)==0)) 117 ((s.Until:Int)==0)) 115 ((s.Uses:Int)==0)) 114 (!s.Ready)) (rawM (kI .u8) eB mr34 bs35 cl36),.iter 2 cl36 []] rfl ?_
  refine Kfm hΓ 2 rfl ?_
  obtain⟨q45,hq45,h46⟩:=Kfw h33
  refine go hΓ 1 rfl ?_
  refine Knw hq45 hpm37 hbl38 hbn39 (fun s40=>[(6,S y32),(78,.ptr 3 0)]) (fun sn42 s40=>[.box 37 (fS s),.dead,mObS (kI .u8) false eB (mSet (mSet (mSet (mSet (mSet (mSet (mSet (mSet (mSet ([]:List (Int×Bool)) 98 ((s.By:Str)==[])) 110 ((s.Node:Str)==[])) 106 ((s.Join:Str)==[])) 112 ((s.Public:Str)==[])) 109 ((s.Name:Str)==[])) 116 (((s.Tags.length:Int):Int)==0)) 117 ((s.Until:Int)==0)) 115 ((s.Uses:Int)==0)) 114 (!s.Ready)) (rawM (kI .u8) eB mr34 bs35 cl36),.iter 2 cl36 sn42]) ⟨⟨rfl,rfl,tV⟩,[],rfl,.inl rfl⟩ (fun sn42 s40 hdone47 hstep48=>?_)
  refine go hΓ 2 rfl ?_
  refine Klh (kv:=(kI .u8)) (agg:=false) (enc:=eB) (mSet (mSet (mSet (mSet (mSet (mSet (mSet (mSet (mSet ([]:List (Int×Bool)) 98 ((s.By:Str)==[])) 110 ((s.Node:Str)==[])) 106 ((s.Join:Str)==[])) 112 ((s.Public:Str)==[])) 109 ((s.Name:Str)==[])) 116 (((s.Tags.length:Int):Int)==0)) 117 ((s.Until:Int)==0)) 115 ((s.Uses:Int)==0)) 114 (!s.Ready)) mr34 bs35 cl36 sn42 [.box 37 (fS s),.dead,mOb (kI .u8) false eB (mSet (mSet (mSet (mSet (mSet (mSet (mSet (mSet (mSet ([]:List (Int×Bool)) 98 ((s.By:Str)==[])) 110 ((s.Node:Str)==[])) 106 ((s.Join:Str)==[])) 112 ((s.Public:Str)==[])) 109 ((s.Name:Str)==[])) 116 (((s.Tags.length:Int):Int)==0)) 117 ((s.Until:Int)==0)) 115 ((s.Uses:Int)==0)) 114 (!s.Ready)),.dead] rfl rfl rfl rfl rfl (nBe rfl) (fun hdsn42=>?_) (fun j43 x41 b44 hjsn42 hbsn42 hnsn42=>?_)
  ·have hqsn42:=hdone47 hdsn42
   subst hqsn42
   replace h46:=Kjl h46
   refine Kfm hΓ 16 rfl ?_
   obtain rfl:=oSi h46
   exact Khi hΓ (.inr rfl) rfl rfl
  obtain⟨s49,h50,houtsn42⟩:=hstep48 j43 x41 b44 hjsn42 hbsn42 hnsn42
  have hssn42:=h50
  refine Kfm hΓ 10 rfl ?_
  refine eo_o rfl (Kli (kv:=(kI .u8)) (agg:=false) (enc:=eB) (mSet (mSet (mSet (mSet (mSet (mSet (mSet (mSet (mSet ([]:List (Int×Bool)) 98 ((s.By:Str)==[])) 110 ((s.Node:Str)==[])) 106 ((s.Join:Str)==[])) 112 ((s.Public:Str)==[])) 109 ((s.Name:Str)==[])) 116 (((s.Tags.length:Int):Int)==0)) 117 ((s.Until:Int)==0)) 115 ((s.Uses:Int)==0)) 114 (!s.Ready)) mr34 bs35 cl36 sn42 hjsn42 hbsn42 rfl rfl rfl rfl (fun _=>rfl)) ?_
  refine Kfm hΓ 11 rfl ?_
  obtain⟨q51,hq51,h52⟩:=Kfw h50
  refine Kfv 5 [(6,S y32),(78,.ptr 3 0),(91,B q51)] [.box 37 (fS s),.dead,mObS (kI .u8) false eB (mSet (mSet (mSet (mSet (mSet (mSet (mSet (mSet (mSet ([]:List (Int×Bool)) 98 ((s.By:Str)==[])) 110 ((s.Node:Str)==[])) 106 ((s.Join:Str)==[])) 112 ((s.Public:Str)==[])) 109 ((s.Name:Str)==[])) 116 (((s.Tags.length:Int):Int)==0)) 117 ((s.Until:Int)==0)) 115 ((s.Uses:Int)==0)) 114 (!s.Ready)) (rawM (kI .u8) eB mr34 bs35 cl36),.iter 2 cl36 (sn42++[b44])] ?_ ?_
  ·refine Krj rfl rfl (fun hb=>?_) (fun hb=>?_)
   ·have h53:=cT hq51 hb
    obtain⟨y54,hy54,h55⟩:=Kfw h53
    refine Kfm hΓ 2 rfl ?_
    refine Krh rfl ?_
    refine Kgx (Lml Tryz.func201 rfl rfl) (Lbp hy54) rfl (nBe rfl) rfl rfl rfl rfl rfl ?_
    refine Kfm hΓ 3 rfl ?_
    obtain rfl:=oSi h55
    exact⟨⟨rfl,rfl,rfl,tV⟩,[],rfl,.inl rfl⟩
   have h56:=cF hq51 hb
   refine Kfm hΓ 6 rfl ?_
   obtain rfl:=oSi h56
   exact⟨⟨rfl,rfl,rfl,tV⟩,[],rfl,.inl rfl⟩
  refine Kfm hΓ 2 rfl ?_
  refine Kfp rfl (fun hb=>?_) (fun hb=>?_)
  ·have h57:=cT h52 hb
   refine go hΓ 5 rfl ?_
   refine Kps (kv:=(kI .u8)) (agg:=false) (enc:=eB) (id:=2) (mSet (mSet (mSet (mSet (mSet (mSet (mSet (mSet (mSet ([]:List (Int×Bool)) 98 ((s.By:Str)==[])) 110 ((s.Node:Str)==[])) 106 ((s.Join:Str)==[])) 112 ((s.Public:Str)==[])) 109 ((s.Name:Str)==[])) 116 (((s.Tags.length:Int):Int)==0)) 117 ((s.Until:Int)==0)) 115 ((s.Uses:Int)==0)) 114 (!s.Ready)) [.box 37 (fS s),.dead,mOb (kI .u8) false eB (mSet (mSet (mSet (mSet (mSet (mSet (mSet (mSet (mSet ([]:List (Int×Bool)) 98 ((s.By:Str)==[])) 110 ((s.Node:Str)==[])) 106 ((s.Join:Str)==[])) 112 ((s.Public:Str)==[])) 109 ((s.Name:Str)==[])) 116 (((s.Tags.length:Int):Int)==0)) 117 ((s.Until:Int)==0)) 115 ((s.Uses:Int)==0)) 114 (!s.Ready)),.iter 2 cl36 (sn42++[b44])] rfl rfl (nBe rfl) ?_
   refine go hΓ 2 rfl ?_
   obtain⟨v58,hv58,h59⟩:=Kfw h57
   obtain rfl:=oSi h59
   obtain rfl:=houtsn42 _ rfl
   obtain rfl:=oSi h46
   refine go hΓ 3 rfl ?_
   obtain rfl:=oSi hv58
   exact Khi hΓ (.inr rfl) rfl rfl
  have h60:=cF h52 hb
  refine go hΓ 2 rfl ?_
  obtain rfl:=oSi h60
  exact⟨j43,x41,b44,_,hjsn42,hbsn42,hnsn42,hssn42,⟨⟨rfl,rfl,tV⟩,[],rfl,.inl rfl⟩⟩
 obtain⟨s61,h62,houtsn23⟩:=hstep29 x22 hjsn23
 have hssn23:=h62
 obtain⟨y63,hy63,h64⟩:=Kfw h62
 refine Kfm hΓ 18 rfl ?_
 refine Kgx (Lml Tryz.func199 rfl rfl) (Lkb hy63) rfl (nBe rfl) rfl rfl rfl rfl rfl ?_
 refine Kfm hΓ 9 rfl ?_
 refine Kfp rfl (fun hb=>?_) (fun hb=>?_)
 ·have h65:=cT h64 hb
  refine go hΓ 8 rfl ?_
  obtain⟨v66,hv66,h67⟩:=Kfw h65
  obtain rfl:=oSi h67
  obtain rfl:=houtsn23 _ rfl
  obtain rfl:=oSi h27
  refine go hΓ 3 rfl ?_
  obtain rfl:=oSi hv66
  exact Khi hΓ (.inr rfl) rfl rfl
 have h68:=cF h64 hb
 refine go hΓ 2 rfl ?_
 obtain rfl:=oSi h68
 exact⟨x22,_,hjsn23,hssn23,⟨⟨rfl,rfl,tV⟩,[],rfl,.inl rfl⟩⟩
theorem Lkd{x:Lby}{x2:Lby}{r:Bool}(h:Ldr x x2=some r):EC Tryz.prog 113 [.agg (fS x),.ptr 0 0] [.box 37 (fS x2)] fun g hp'=>g=B r∧hp'=[.box 37 (fS x2)]:=by
 refine Krb (Fr.of 0 _) Tryz.func113 rfl (Fr.of_ok _) (nBe rfl) fun _=>?_
 refine Kfo ?_
 unfold Ldr at h
 refine go hΓ 2 rfl ?_
 refine Ksq rfl rfl rfl rfl (nBe rfl) ?_
 refine Kfm hΓ 11 rfl ?_
 refine Kfv 6 [(3,B false),(15,B (((x.Server:Str)==x2.Server)&&((x.No:Int)==x2.No)))] [.box 37 (fS x2),.box 37 (fS x)] ?_ ?_
 ·refine Krj rfl rfl (fun hb=>?_) (fun hb=>?_)
  ·refine Kfm hΓ 7 rfl ?_
   exact⟨⟨rfl,Kex rfl (Kho hb),tV⟩,[],rfl,.inl rfl⟩
  refine Kfm hΓ 7 rfl ?_
  exact⟨⟨rfl,Kex rfl (Khp hb),tV⟩,[],rfl,.inl rfl⟩
 refine Kfm hΓ 4 rfl ?_
 obtain rfl:=oSi h
 exact Khj hΓ [_] (.inr rfl) rfl rfl rfl rfl (.inr ⟨HB.mk rfl,rfl⟩)
theorem Lke{s:List Lby}{f:Lby}{r:Int}(h:Lds s f=some r):EC Tryz.prog 114 [.d (Sl Lil s),.fn (.func 113) [] [.ptr 0 0]] [.box 37 (fS f)] fun g hp'=>g=I r∧hp'=[.box 37 (fS f)]:=by
 refine Krb (Fr.of 0 _) Tryz.func114 rfl (Fr.of_ok _) (nBe rfl) fun _=>?_
 refine Kfo ?_
 unfold Lds at h
 refine go hΓ 13 rfl ?_
 obtain⟨q4,hq4,h5⟩:=Kfw h
 refine Kgf 0 rfl fun hb7=>?_
 refine Kjq (R:=fun a6=>q4=.go a6) (fun a6=>[]) (fun a6=>[.box 37 (fS f)]) ?_ ?_
 ·refine go hΓ 1 rfl ?_
  refine Kge s hq4 (fun i1 s2=>[(0,.d (Sl Lil s)),(1,.fn (.func 113) [] [.ptr 0 0]),(7,I (s.length:Int)),(8,I (i1:Int))]) (fun s2=>[.box 37 (fS f)]) ⟨⟨rfl,rfl,rfl,rfl,tV⟩,[],rfl,.inl rfl⟩ (fun i1 x3 s2 y11 hx8 hlt hy9 hout10=>?_) (fun s2 hgo=>?_)
  ·refine go hΓ 6 rfl ?_
   refine Kfq rfl (decide_eq_true (Int.ofNat_lt.2 hlt)) ?_
   refine go hΓ 15 rfl ?_
   refine eo_o rfl (Kgg hΓ (enc:=Lil) (Kfz hx8) rfl rfl rfl rfl rfl (fun _=>rfl)) ?_
   obtain⟨y12,hy12,h13⟩:=Kfw hy9
   refine Kfm hΓ 1 rfl ?_
   refine Kgw [0] (B y12) [.box 37 (fS f)] (Lml Tryz.func113 rfl rfl) (Lkd hy12) rfl (nBe rfl) rfl rfl rfl rfl rfl rfl rfl rfl rfl rfl ?_
   refine Kfm hΓ 2 rfl ?_
   refine Kfp rfl (fun hb=>?_) (fun hb=>?_)
   ·have h14:=cT h13 hb
    refine go hΓ 9 rfl ?_
    obtain⟨v15,hv15,h16⟩:=Kfw h14
    obtain rfl:=oSi h16
    obtain rfl:=hout10 _ rfl
    obtain rfl:=oSi h5
    refine go hΓ 4 rfl ?_
    obtain rfl:=oSi hv15
    exact Khj hΓ [] (.inr rfl) rfl rfl rfl rfl (.inl rfl)
   have h17:=cF h13 hb
   refine go hΓ 7 rfl ?_
   obtain rfl:=oSi h17
   exact⟨_,rfl,⟨⟨rfl,rfl,rfl,Kew rfl (Kev (nLl hlt hb7)),tV⟩,[],rfl,.inl rfl⟩⟩
  subst hgo
  refine go hΓ 6 rfl ?_
  refine Kfr rfl (decide_eq_false (Int.lt_irrefl _)) ?_
  refine go hΓ 4 rfl ?_
  exact⟨_,rfl,⟨tV,[],rfl,.inl rfl⟩⟩
 intro a6 ha
 subst ha
 replace h5:=Kjl h5
 refine go hΓ 7 rfl ?_
 obtain rfl:=oSi h5
 exact Khj hΓ [] (.inr rfl) rfl rfl rfl rfl (.inl rfl)
theorem Lkf{s:List Lby}{f:Lby}{r:Bool}(h:Ldt s f=some r):EC Tryz.prog 90 [.d (Sl Lil s),.fn (.func 113) [] [.ptr 0 0]] [.box 37 (fS f)] fun g hp'=>g=B r∧hp'=[.box 37 (fS f)]:=by
 refine Krb (Fr.of 0 _) Tryz.func90 rfl (Fr.of_ok _) (nBe rfl) fun _=>?_
 refine Kfo ?_
 unfold Ldt at h
 obtain⟨y1,hy1,h2⟩:=Kfw h
 refine go hΓ 9 rfl ?_
 refine Kgw [0] (I y1) [.box 37 (fS f)] (Lml Tryz.func114 rfl rfl) (Lke hy1) rfl (nBe rfl) rfl rfl rfl rfl rfl rfl rfl rfl rfl rfl ?_
 refine Kfm hΓ 5 rfl ?_
 obtain rfl:=oSi h2
 exact Khj hΓ [] (.inr rfl) rfl rfl rfl rfl (.inl rfl)
theorem Lkg{l:List Lby}{r:Int}(h:Ldu l=some r):Pure Tryz.prog 32 [.d (Sl Lil l)] (I r):=by
 refine Pure.enter (Fr.of 0 _) Tryz.func32 rfl (Fr.of_ok _) rfl rfl ?_
 refine Kfo ?_
 unfold Ldu at h
 refine go hΓ 13 rfl ?_
 refine Kfp rfl (fun hb=>?_) (fun hb=>?_)
 ·have h1:=cT h hb
  refine go hΓ 7 rfl ?_
  obtain rfl:=oSi h1
  exact Khi hΓ (.inr rfl) rfl rfl
 have h2:=cF h hb
 refine go hΓ 10 rfl ?_
 obtain⟨q6,hq6,h7⟩:=Kfw h2
 refine Kgf 0 rfl fun hb9=>?_
 refine Kjq (R:=fun a8=>q6=.go a8) (fun a8=>[]) (fun a8=>[]) ?_ ?_
 ·refine go hΓ 1 rfl ?_
  refine Kge l hq6 (fun i3 s4=>[(0,.d (Sl Lil l)),(9,.d (Sl Lil l)),(10,I (l.length:Int)),(11,I (i3:Int))]) (fun s4=>[]) ⟨⟨rfl,rfl,rfl,rfl,tV⟩,[],rfl,.inl rfl⟩ (fun i3 x5 s4 y13 hx10 hlt hy11 hout12=>?_) (fun s4 hgo=>?_)
  ·refine go hΓ 6 rfl ?_
   refine Kfq rfl (decide_eq_true (Int.ofNat_lt.2 hlt)) ?_
   refine go hΓ 7 rfl ?_
   refine eo_o rfl (Kgg hΓ (enc:=Lil) (Kfz hx10) rfl rfl rfl rfl rfl (fun _=>rfl)) ?_
   refine Kfm hΓ 1 rfl ?_
   refine Ksp hΓ rfl rfl rfl (nBe rfl) ?_
   refine Kfm hΓ 1 rfl ?_
   refine Ksu hΓ rfl rfl rfl rfl rfl rfl rfl rfl (nBe rfl) ?_
   refine Khe [.box 37 (fS x5)] rfl ?_
   obtain⟨y14,hy14,h15⟩:=Kfw hy11
   refine Kfm hΓ 6 rfl ?_
   refine Kgx (Lml Tryz.func95 rfl rfl) (Lkc hy14) rfl (nBe rfl) rfl rfl rfl rfl rfl ?_
   refine Kfm hΓ 9 rfl ?_
   refine Kfp rfl (fun hb=>?_) (fun hb=>?_)
   ·have h16:=cT h15 hb
    refine go hΓ 10 rfl ?_
    obtain⟨v17,hv17,h18⟩:=Kfw h16
    obtain rfl:=oSi h18
    obtain rfl:=hout12 _ rfl
    obtain rfl:=oSi h7
    refine go hΓ 4 rfl ?_
    obtain rfl:=oSi hv17
    exact Khi hΓ (.inr rfl) rfl rfl
   have h19:=cF h15 hb
   obtain⟨q20,hq20,h21⟩:=Kfw h19
   refine go hΓ 4 rfl ?_
   refine Kjr [(0,.d (Sl Lil l)),(3,I (i3:Int)),(4,.ptr 0 0),(9,.d (Sl Lil l)),(10,I (l.length:Int)),(11,I (i3:Int)),(32,B q20)] [.box 37 (fS x5)] ?_ ?_
   ·refine Kfs hmix (by kernel_rfl) ?_
    refine go hΓ 3 rfl ?_
    refine Kee rfl rfl (fun hb=>?_) (fun hb=>?_)
    ·have h22:=cT hq20 hb
     obtain⟨x23,hx23,h24⟩:=Kfw h22
     refine Kfn hΓ 3 rfl ?_
     refine Kez rfl rfl (Kgg hΓ (enc:=Lil) hx23 rfl rfl rfl rfl rfl (fun _=>rfl)) ?_
     obtain⟨y25,hy25,h26⟩:=Kfw h24
     refine Kfn hΓ 2 rfl ?_
     refine Kgz (Lml Tryz.func96 rfl rfl) (Ljk hy25) rfl rfl rfl rfl rfl rfl rfl ?_
     refine Kfn hΓ 3 rfl ?_
     obtain rfl:=oSi h26
     exact⟨⟨rfl,rfl,rfl,rfl,rfl,rfl,rfl,tV⟩,[],rfl,.inl rfl⟩
    have h27:=cF hq20 hb
    refine Kfn hΓ 10 rfl ?_
    obtain rfl:=oSi h27
    exact⟨⟨rfl,rfl,rfl,rfl,rfl,rfl,rfl,tV⟩,[],rfl,.inl rfl⟩
   refine go hΓ 1 rfl ?_
   refine Kfp rfl (fun hb=>?_) (fun hb=>?_)
   ·have h28:=cT h21 hb
    refine go hΓ 9 rfl ?_
    obtain⟨v29,hv29,h30⟩:=Kfw h28
    obtain rfl:=oSi h30
    obtain rfl:=hout12 _ rfl
    obtain rfl:=oSi h7
    refine go hΓ 4 rfl ?_
    obtain rfl:=oSi hv29
    exact Khi hΓ (.inr rfl) rfl rfl
   have h31:=cF h21 hb
   obtain⟨z32,hz32,h33⟩:=Kfw h31
   refine go hΓ 6 rfl ?_
   refine eo_o rfl (Kgn hΓ (enc:=Lil) hz32 rfl rfl rfl rfl rfl rfl (fun _=>rfl)) ?_
   obtain⟨y34,hy34,h35⟩:=Kfw h33
   refine Kfm hΓ 1 rfl ?_
   refine Kgw [0] (B y34) [.box 37 (fS x5)] (Lml Tryz.func90 rfl rfl) (Lkf hy34) rfl (nBe rfl) rfl rfl rfl rfl rfl rfl rfl rfl rfl rfl ?_
   refine Kfm hΓ 2 rfl ?_
   refine Kfp rfl (fun hb=>?_) (fun hb=>?_)
   ·have h36:=cT h35 hb
    refine go hΓ 8 rfl ?_
    obtain⟨v37,hv37,h38⟩:=Kfw h36
    obtain rfl:=oSi h38
    obtain rfl:=hout12 _ rfl
    obtain rfl:=oSi h7
    refine go hΓ 4 rfl ?_
    obtain rfl:=oSi hv37
    exact Khi hΓ (.inr rfl) rfl rfl
   have h39:=cF h35 hb
   refine go hΓ 7 rfl ?_
   obtain rfl:=oSi h39
   exact⟨_,rfl,⟨⟨rfl,rfl,rfl,Kew rfl (Kev (nLl hlt hb9)),tV⟩,[_],rfl,.inr ⟨HB.mk rfl,FB.mk rfl,(nBe rfl)⟩⟩⟩
  subst hgo
  refine go hΓ 6 rfl ?_
  refine Kfr rfl (decide_eq_false (Int.lt_irrefl _)) ?_
  refine go hΓ 4 rfl ?_
  exact⟨_,rfl,⟨tV,[],rfl,.inl rfl⟩⟩
 intro a8 ha
 subst ha
 replace h7:=Kjl h7
 refine go hΓ 7 rfl ?_
 obtain rfl:=oSi h7
 exact Khi hΓ (.inr rfl) rfl rfl
theorem Lkh{vals:List Int}{r:Int}(h:Ldv vals=some r):Pure Tryz.prog 34 [.d (Sl (eN .i64) vals)] (I r):=by
 refine Pure.enter (Fr.of 0 _) Tryz.func34 rfl (Fr.of_ok _) rfl rfl ?_
 refine Kfo ?_
 unfold Ldv at h
 refine go hΓ 18 rfl ?_
 obtain⟨q4,hq4,h5⟩:=Kfw h
 refine Kgf 6 rfl fun hb7=>?_
 refine Kjq (R:=fun a6=>q4=.go a6) (fun a6=>[(3,I 0)]) (fun a6=>[]) ?_ ?_
 ·refine go hΓ 1 rfl ?_
  refine Kge vals hq4 (fun i1 s2=>[(3,I 0),(6,.d (Sl (eN .i64) vals)),(7,I (vals.length:Int)),(8,I (i1:Int))]) (fun s2=>[]) ⟨⟨rfl,rfl,rfl,rfl,tV⟩,[],rfl,.inl rfl⟩ (fun i1 x3 s2 y11 hx8 hlt hy9 hout10=>?_) (fun s2 hgo=>?_)
  ·refine go hΓ 6 rfl ?_
   refine Kfq rfl (decide_eq_true (Int.ofNat_lt.2 hlt)) ?_
   refine go hΓ 6 rfl ?_
   refine eo_o rfl (Kgg hΓ (enc:=(eN .i64)) (Kfz hx8) rfl rfl rfl rfl rfl (fun _=>rfl)) ?_
   refine Kfm hΓ 11 rfl ?_
   refine Kfp rfl (fun hb=>?_) (fun hb=>?_)
   ·have h12:=cT hy9 hb
    refine go hΓ 9 rfl ?_
    obtain⟨v13,hv13,h14⟩:=Kfw h12
    obtain rfl:=oSi h14
    obtain rfl:=hout10 _ rfl
    obtain rfl:=oSi h5
    refine go hΓ 4 rfl ?_
    obtain rfl:=oSi hv13
    exact Khi hΓ (.inr rfl) rfl rfl
   have h15:=cF hy9 hb
   refine go hΓ 7 rfl ?_
   obtain rfl:=oSi h15
   exact⟨_,rfl,⟨⟨rfl,rfl,rfl,Kew rfl (Kev (nLl hlt hb7)),tV⟩,[],rfl,.inl rfl⟩⟩
  subst hgo
  refine go hΓ 6 rfl ?_
  refine Kfr rfl (decide_eq_false (Int.lt_irrefl _)) ?_
  refine go hΓ 4 rfl ?_
  exact⟨_,rfl,⟨⟨rfl,tV⟩,[],rfl,.inl rfl⟩⟩
 intro a6 ha
 subst ha
 replace h5:=Kjl h5
 refine go hΓ 8 rfl ?_
 obtain rfl:=oSi h5
 exact Khi hΓ (.inr rfl) rfl rfl
theorem Lki{k:Nat}{s:Lbv}{many:Int}{r:Lbz×Lbv}(h:Ldw k s many=some r):EC Tryz.prog 10 [.ptr 0 0,I many] [.box 25 (fQ s)] fun g hp'=>g=.agg [.d (Sl eS r.1.d.Users),.d (Sl Lij r.1.d.Owners),I r.1.d.Life,B r.1.d.Approve,.d (Sl Lil r.1.l),I r.1.fault]∧hp'=[.box 25 (fQ r.2)]:=by
 refine Krb (Fr.of 0 _) Tryz.func10 rfl (Fr.of_ok _) (nBe rfl) fun _=>?_
 refine Kfo ?_
 unfold Ldw at h
 refine go hΓ 2 rfl ?_
 refine Ksp hΓ rfl rfl rfl (nBe rfl) ?_
 obtain⟨y1,hy1,h2⟩:=Kfw h
 refine Kfm hΓ 5 rfl ?_
 refine Kgw [0] (.agg (fD y1.1)) [.box 25 (fQ y1.2),.box 33 [.d (Sl eS []),.d (Sl Lij []),I 0,B false,.d (Sl Lil []),I 0]] (Lml Tryz.func83 rfl rfl) (Ljd hy1) rfl (nBe rfl) rfl rfl rfl rfl rfl rfl rfl rfl rfl rfl ?_
 obtain⟨y3,hy3,h4⟩:=Kfw h2
 refine Kfm hΓ 2 rfl ?_
 refine Kgw [0] (.sl 2 y3.1.length) [.box 25 (fQ y3.2),.box 33 [.d (Sl eS []),.d (Sl Lij []),I 0,B false,.d (Sl Lil []),I 0],rO 37 13 Lil y3.1] (Lml Tryz.func23 rfl rfl) (Ljo hy3) rfl (nBe rfl) rfl rfl rfl rfl rfl rfl rfl rfl rfl rfl ?_
 refine Khc 2 [10] _ [.box 25 (fQ y3.2),.box 33 [.d (Sl eS []),.d (Sl Lij []),I 0,B false,.d (Sl Lil []),I 0],.dead] rfl rfl rfl (nBe rfl) ?_
 refine Kdu hΓ (gs:=[.d (Sl eS y1.1.Users),.d (Sl Lij y1.1.Owners),I y1.1.Life,B y1.1.Approve,.d (Sl Lil y3.1),I 0]) rfl rfl rfl rfl rfl rfl rfl ?_
 refine Ksp hΓ rfl rfl rfl (nBe rfl) ?_
 refine Ksu hΓ rfl rfl rfl rfl rfl rfl rfl rfl (nBe rfl) ?_
 refine Khe [.box 25 (fQ y3.2),.box 33 [.d (Sl eS []),.d (Sl Lij []),I 0,B false,.d (Sl Lil []),I 0],.dead,.box 33 [.d (Sl eS y1.1.Users),.d (Sl Lij y1.1.Owners),I y1.1.Life,B y1.1.Approve,.d (Sl Lil y3.1),I 0]] rfl ?_
 refine Kfm hΓ 3 rfl ?_
 refine Kir [.dead,.dead,.dead,.box 33 [.d (Sl eS y1.1.Users),.d (Sl Lij y1.1.Owners),I y1.1.Life,B y1.1.Approve,.d (Sl Lil y3.1),I 0]] [1,4] [9] [9] hmix (by kernel_rfl) (by kernel_rfl) ⟨rfl,tV⟩ (nBe rfl) ?_
 obtain⟨y5,hy5,h6⟩:=Kfw h4
 refine go_E hΓ 2 rfl ?_
 refine Kje (Lml Tryz.func28 rfl rfl) (Ljw hy5) rfl rfl rfl rfl rfl rfl ?_
 obtain⟨y7,hy7,h8⟩:=Kfw h6
 refine go_E hΓ 2 rfl ?_
 refine Kje (Lml Tryz.func32 rfl rfl) (Lkg hy7) rfl rfl rfl rfl rfl rfl ?_
 refine Kjf hΓ (enc:=(eN .i64)) [y5,y7] rfl rfl rfl rfl rfl rfl rfl rfl rfl rfl rfl rfl ?_
 obtain⟨y9,hy9,h10⟩:=Kfw h8
 refine Kje (Lml Tryz.func34 rfl rfl) (Lkh hy9) rfl rfl rfl rfl rfl rfl ?_
 refine go_E hΓ 1 rfl ?_
 refine Kiw [.box 25 (fQ y3.2),.box 33 [.d (Sl eS []),.d (Sl Lij []),I 0,B false,.d (Sl Lil []),I 0],.dead,.box 33 [.d (Sl eS y1.1.Users),.d (Sl Lij y1.1.Owners),I y1.1.Life,B y1.1.Approve,.d (Sl Lil y3.1),I y9]] rfl rfl (Kix rfl) (Kjc (Kjv hΓ rfl rfl rfl rfl rfl rfl rfl rfl rfl)) ?_
 refine Kit ?_
 refine go hΓ 4 rfl ?_
 refine Ksu hΓ rfl rfl rfl rfl rfl rfl rfl rfl (nBe rfl) ?_
 refine Khe [.box 25 (fQ y3.2),.box 33 [.d (Sl eS y1.1.Users),.d (Sl Lij y1.1.Owners),I y1.1.Life,B y1.1.Approve,.d (Sl Lil y3.1),I y9],.dead,.box 33 [.d (Sl eS y1.1.Users),.d (Sl Lij y1.1.Owners),I y1.1.Life,B y1.1.Approve,.d (Sl Lil y3.1),I y9]] rfl ?_
 refine Kfm hΓ 3 rfl ?_
 obtain rfl:=oSi h10
 exact Khj hΓ [_,_,_] (.inr rfl) rfl rfl rfl rfl (.inr ⟨HB.mk rfl,rfl⟩)
theorem Lkj{s:Lbv}{r:Int×Lbv}(h:Ldx s=some r):EC Tryz.prog 42 [.ptr 0 0] [.box 25 (fQ s)] fun g hp'=>g=I r.1∧hp'=[.box 25 (fQ r.2)]:=by
 refine Krb (Fr.of 0 _) Tryz.func42 rfl (Fr.of_ok _) (nBe rfl) fun _=>?_
 refine Kfo ?_
 unfold Ldx at h
 obtain⟨y1,hy1,h2⟩:=Kfw h
 refine go hΓ 9 rfl ?_
 refine Kgw [0] (I y1.1) [.box 25 (fQ y1.2)] (Lml Tryz.func26 rfl rfl) (Lix hy1) rfl (nBe rfl) rfl rfl rfl rfl rfl rfl rfl rfl rfl rfl ?_
 obtain⟨y3,hy3,h4⟩:=Kfw h2
 refine Kfm hΓ 1 rfl ?_
 refine Kgw [0] (I y3.1) [.box 25 (fQ y3.2)] (Lml Tryz.func26 rfl rfl) (Lix hy3) rfl (nBe rfl) rfl rfl rfl rfl rfl rfl rfl rfl rfl rfl ?_
 refine Kfm hΓ 1 rfl ?_
 refine Kgr hΓ (enc:=(eN .i64)) [345686399,-1,345686400] rfl rfl rfl rfl rfl rfl rfl rfl rfl rfl rfl rfl (nBe rfl) ?_
 obtain⟨y5,hy5,h6⟩:=Kfw h4
 refine Kgw [0] (I y5.1) [.box 25 (fQ y5.2)] (Lml Tryz.func13 rfl rfl) (Liz hy5) rfl (nBe rfl) rfl rfl rfl rfl rfl rfl rfl rfl rfl rfl ?_
 refine Kgr hΓ (enc:=(eN .i64)) [0,5,20,40,60,80,120,y1.1,y3.1,y5.1] rfl rfl rfl rfl rfl rfl rfl rfl rfl rfl rfl rfl (nBe rfl) ?_
 obtain⟨y7,hy7,h8⟩:=Kfw h6
 refine Kgw [0] (I y7.1) [.box 25 (fQ y7.2)] (Lml Tryz.func13 rfl rfl) (Liz hy7) rfl (nBe rfl) rfl rfl rfl rfl rfl rfl rfl rfl rfl rfl ?_
 refine Kfm hΓ 4 rfl ?_
 obtain rfl:=oSi h8
 exact Khj hΓ [] (.inr rfl) rfl rfl rfl rfl (.inl rfl)
theorem Lkk{k:Nat}{s:Str}{r:Bool}(h:Ldy k s=some r):Pure Tryz.prog 107 [S s] (B r):=by
 refine Pure.enter (Fr.of 0 _) Tryz.func107 rfl (Fr.of_ok _) rfl rfl ?_
 refine Kfo ?_
 unfold Ldy at h
 refine go hΓ 11 rfl ?_
 obtain⟨q4,hq4,h5⟩:=Kfw h
 refine Kjq (R:=fun a6=>q4=.inl a6) (fun a6=>[(0,S s)]) (fun a6=>[]) ?_ ?_
 ·refine go hΓ 1 rfl ?_
  refine Kgc hq4 (fun s2=>[(0,S s),(3,I s2)]) (fun s2=>[]) ⟨⟨rfl,rfl,tV⟩,[],rfl,.inl rfl⟩ (fun s2 y10 hy8 hout9=>?_)
  refine go hΓ 9 rfl ?_
  refine Kfp rfl (fun hb=>?_) (fun hb=>?_)
  ·have h11:=cT hy8 hb
   obtain⟨c12,hc12,h13⟩:=Kfw h11
   refine go hΓ 8 rfl ?_
   refine eo_o rfl (Kgh hΓ hc12 rfl rfl rfl rfl) ?_
   refine Kfm hΓ 8 rfl ?_
   refine Kfv 3 [(0,S s),(3,I s2),(4,.d (.v (.int .u8 (c12.toNat:Int)))),(19,B ((decide (((c12.toNat:Int):Int)≥97))&&(decide (((c12.toNat:Int):Int)≤122))))] [] ?_ ?_
   ·refine Krj rfl rfl (fun hb=>?_) (fun hb=>?_)
    ·refine Kfm hΓ 4 rfl ?_
     exact⟨⟨rfl,rfl,rfl,Kex rfl (Kho hb),tV⟩,[],rfl,.inl rfl⟩
    refine Kfm hΓ 4 rfl ?_
    exact⟨⟨rfl,rfl,rfl,Kex rfl (Khp hb),tV⟩,[],rfl,.inl rfl⟩
   refine Kfm hΓ 1 rfl ?_
   refine Kfv 19 [(0,S s),(3,I s2),(39,B (((decide (((c12.toNat:Int):Int)≥97))&&(decide (((c12.toNat:Int):Int)≤122)))||((decide ((s2:Int)>0))&&((((decide (((c12.toNat:Int):Int)≥48))&&(decide (((c12.toNat:Int):Int)≤57)))||(((c12.toNat:Int):Int)==45))||(((c12.toNat:Int):Int)==95)))))] [] ?_ ?_
   ·refine Krj rfl rfl (fun hb=>?_) (fun hb=>?_)
    ·refine Kfm hΓ 20 rfl ?_
     exact⟨⟨rfl,rfl,Kex rfl (or_t hb),tV⟩,[],rfl,.inl rfl⟩
    refine Kfm hΓ 3 rfl ?_
    refine Kfv 15 [(0,S s),(3,I s2),(20,B false),(38,B ((decide ((s2:Int)>0))&&((((decide (((c12.toNat:Int):Int)≥48))&&(decide (((c12.toNat:Int):Int)≤57)))||(((c12.toNat:Int):Int)==45))||(((c12.toNat:Int):Int)==95))))] [] ?_ ?_
    ·refine Krj rfl rfl (fun hb=>?_) (fun hb=>?_)
     ·refine Kfm hΓ 3 rfl ?_
      refine Kfv 3 [(0,S s),(3,I s2),(4,.d (.v (.int .u8 (c12.toNat:Int)))),(20,B false),(23,B true),(29,B ((decide (((c12.toNat:Int):Int)≥48))&&(decide (((c12.toNat:Int):Int)≤57))))] [] ?_ ?_
      ·refine Krj rfl rfl (fun hb=>?_) (fun hb=>?_)
       ·refine Kfm hΓ 4 rfl ?_
        exact⟨⟨rfl,rfl,rfl,rfl,rfl,Kex rfl (Kho hb),tV⟩,[],rfl,.inl rfl⟩
       refine Kfm hΓ 4 rfl ?_
       exact⟨⟨rfl,rfl,rfl,rfl,rfl,Kex rfl (Khp hb),tV⟩,[],rfl,.inl rfl⟩
      refine Kfm hΓ 1 rfl ?_
      refine Kfv 3 [(0,S s),(3,I s2),(4,.d (.v (.int .u8 (c12.toNat:Int)))),(20,B false),(23,B true),(33,B (((decide (((c12.toNat:Int):Int)≥48))&&(decide (((c12.toNat:Int):Int)≤57)))||(((c12.toNat:Int):Int)==45)))] [] ?_ ?_
      ·refine Krj rfl rfl (fun hb=>?_) (fun hb=>?_)
       ·refine Kfm hΓ 4 rfl ?_
        exact⟨⟨rfl,rfl,rfl,rfl,rfl,Kex rfl (or_t hb),tV⟩,[],rfl,.inl rfl⟩
       refine Kfm hΓ 4 rfl ?_
       exact⟨⟨rfl,rfl,rfl,rfl,rfl,Kex rfl (or_f hb),tV⟩,[],rfl,.inl rfl⟩
      refine Kfm hΓ 1 rfl ?_
      refine Kfv 3 [(0,S s),(3,I s2),(20,B false),(23,B true),(37,B ((((decide (((c12.toNat:Int):Int)≥48))&&(decide (((c12.toNat:Int):Int)≤57)))||(((c12.toNat:Int):Int)==45))||(((c12.toNat:Int):Int)==95)))] [] ?_ ?_
      ·refine Krj rfl rfl (fun hb=>?_) (fun hb=>?_)
       ·refine Kfm hΓ 4 rfl ?_
        exact⟨⟨rfl,rfl,rfl,rfl,Kex rfl (or_t hb),tV⟩,[],rfl,.inl rfl⟩
       refine Kfm hΓ 4 rfl ?_
       exact⟨⟨rfl,rfl,rfl,rfl,Kex rfl (or_f hb),tV⟩,[],rfl,.inl rfl⟩
      refine Kfm hΓ 2 rfl ?_
      exact⟨⟨rfl,rfl,rfl,Kex rfl (Kho hb),tV⟩,[],rfl,.inl rfl⟩
     refine Kfm hΓ 16 rfl ?_
     exact⟨⟨rfl,rfl,rfl,Kex rfl (Khp hb),tV⟩,[],rfl,.inl rfl⟩
    refine Kfm hΓ 2 rfl ?_
    exact⟨⟨rfl,rfl,Kex rfl (or_f hb),tV⟩,[],rfl,.inl rfl⟩
   refine Kfm hΓ 3 rfl ?_
   refine Kfp rfl (fun hb=>?_) (fun hb=>?_)
   ·have h14:=cT h13 hb
    refine go hΓ 8 rfl ?_
    obtain⟨v15,hv15,h16⟩:=Kfw h14
    obtain rfl:=oSi h16
    obtain rfl:=hout9 _ rfl
    obtain rfl:=oSi h5
    refine go hΓ 4 rfl ?_
    obtain rfl:=oSi hv15
    exact Khi hΓ (.inr rfl) rfl rfl
   have h17:=cF h13 hb
   refine go hΓ 8 rfl ?_
   obtain rfl:=oSi h17
   exact⟨_,rfl,⟨⟨rfl,rfl,tV⟩,[],rfl,.inl rfl⟩⟩
  have h18:=cF hy8 hb
  refine go hΓ 4 rfl ?_
  obtain rfl:=oSi h18
  obtain rfl:=hout9 _ rfl
  exact⟨_,rfl,⟨⟨rfl,tV⟩,[],rfl,.inl rfl⟩⟩
 intro a6 ha
 subst ha
 replace h5:=Kjk h5
 refine go hΓ 6 rfl ?_
 refine Kfv 4 [(47,B ((!((s:Str)==[]))&&(decide (((s.length:Int):Int)≤40))))] [] ?_ ?_
 ·refine Krj rfl rfl (fun hb=>?_) (fun hb=>?_)
  ·refine Kfm hΓ 5 rfl ?_
   exact⟨⟨Kex rfl (Kho hb),tV⟩,[],rfl,.inl rfl⟩
  refine Kfm hΓ 5 rfl ?_
  exact⟨⟨Kex rfl (Khp hb),tV⟩,[],rfl,.inl rfl⟩
 refine Kfm hΓ 4 rfl ?_
 obtain rfl:=oSi h5
 exact Khi hΓ (.inr rfl) rfl rfl
theorem Lkl{k:Nat}{l:List Str}{r:Int}(h:Ldz k l=some r):Pure Tryz.prog 106 [.d (Sl eS l)] (I r):=by
 refine Pure.enter (Fr.of 0 _) Tryz.func106 rfl (Fr.of_ok _) rfl rfl ?_
 refine Kfo ?_
 unfold Ldz at h
 refine go hΓ 13 rfl ?_
 obtain⟨q4,hq4,h5⟩:=Kfw h
 refine Kgf 0 rfl fun hb7=>?_
 refine Kjq (R:=fun a6=>q4=.go a6) (fun a6=>[]) (fun a6=>[]) ?_ ?_
 ·refine go hΓ 1 rfl ?_
  refine Kge l hq4 (fun i1 s2=>[(0,.d (Sl eS l)),(5,.d (Sl eS l)),(6,I (l.length:Int)),(7,I (i1:Int))]) (fun s2=>[]) ⟨⟨rfl,rfl,rfl,rfl,tV⟩,[],rfl,.inl rfl⟩ (fun i1 x3 s2 y11 hx8 hlt hy9 hout10=>?_) (fun s2 hgo=>?_)
  ·refine go hΓ 6 rfl ?_
   refine Kfq rfl (decide_eq_true (Int.ofNat_lt.2 hlt)) ?_
   refine go hΓ 7 rfl ?_
   refine eo_o rfl (Kgg hΓ (enc:=eS) (Kfz hx8) rfl rfl rfl rfl rfl (fun _=>rfl)) ?_
   obtain⟨y12,hy12,h13⟩:=Kfw hy9
   refine Kfm hΓ 9 rfl ?_
   refine Kgx (Lml Tryz.func107 rfl rfl) (Lkk hy12) rfl (nBe rfl) rfl rfl rfl rfl rfl ?_
   refine Kfm hΓ 3 rfl ?_
   refine Kfp rfl (fun hb=>?_) (fun hb=>?_)
   ·have h14:=cT h13 hb
    refine go hΓ 9 rfl ?_
    obtain⟨v15,hv15,h16⟩:=Kfw h14
    obtain rfl:=oSi h16
    obtain rfl:=hout10 _ rfl
    obtain rfl:=oSi h5
    refine go hΓ 4 rfl ?_
    obtain rfl:=oSi hv15
    exact Khi hΓ (.inr rfl) rfl rfl
   have h17:=cF h13 hb
   refine go hΓ 7 rfl ?_
   obtain⟨q18,hq18,h19⟩:=Kfw h17
   refine Kfv 8 [(0,.d (Sl eS l)),(5,.d (Sl eS l)),(6,I (l.length:Int)),(7,I (i1:Int)),(25,B q18)] [] ?_ ?_
   ·refine Krj rfl rfl (fun hb=>?_) (fun hb=>?_)
    ·have h20:=cT hq18 hb
     obtain⟨x21,hx21,h22⟩:=Kfw h20
     refine Kfm hΓ 4 rfl ?_
     refine Krh rfl ?_
     refine eo_o rfl (Kgg hΓ (enc:=eS) hx21 rfl rfl rfl rfl rfl (fun _=>rfl)) ?_
     refine Kfm hΓ 4 rfl ?_
     obtain rfl:=oSi h22
     exact⟨⟨rfl,rfl,rfl,rfl,rfl,tV⟩,[],rfl,.inl rfl⟩
    have h23:=cF hq18 hb
    refine Kfm hΓ 9 rfl ?_
    obtain rfl:=oSi h23
    exact⟨⟨rfl,rfl,rfl,rfl,rfl,tV⟩,[],rfl,.inl rfl⟩
   refine Kfm hΓ 2 rfl ?_
   refine Kfp rfl (fun hb=>?_) (fun hb=>?_)
   ·have h24:=cT h19 hb
    refine go hΓ 8 rfl ?_
    obtain⟨v25,hv25,h26⟩:=Kfw h24
    obtain rfl:=oSi h26
    obtain rfl:=hout10 _ rfl
    obtain rfl:=oSi h5
    refine go hΓ 4 rfl ?_
    obtain rfl:=oSi hv25
    exact Khi hΓ (.inr rfl) rfl rfl
   have h27:=cF h19 hb
   refine go hΓ 7 rfl ?_
   obtain rfl:=oSi h27
   exact⟨_,rfl,⟨⟨rfl,rfl,rfl,Kew rfl (Kev (nLl hlt hb7)),tV⟩,[],rfl,.inl rfl⟩⟩
  subst hgo
  refine go hΓ 6 rfl ?_
  refine Kfr rfl (decide_eq_false (Int.lt_irrefl _)) ?_
  refine go hΓ 4 rfl ?_
  exact⟨_,rfl,⟨tV,[],rfl,.inl rfl⟩⟩
 intro a6 ha
 subst ha
 replace h5:=Kjl h5
 refine go hΓ 7 rfl ?_
 obtain rfl:=oSi h5
 exact Khi hΓ (.inr rfl) rfl rfl
theorem Lkm{n:Int}{low:Int}{high:Int}{r:Bool}(h:Lea n low high=some r):Pure Tryz.prog 108 [I n,I low,I high] (B r):=by
 refine Pure.enter (Fr.of 0 _) Tryz.func108 rfl (Fr.of_ok _) rfl rfl ?_
 refine Kfo ?_
 unfold Lea at h
 refine go hΓ 11 rfl ?_
 refine Kfv 4 [(6,B false),(14,B ((decide ((n:Int)<low))||(decide ((n:Int)>high))))] [] ?_ ?_
 ·refine Krj rfl rfl (fun hb=>?_) (fun hb=>?_)
  ·refine Kfm hΓ 5 rfl ?_
   exact⟨⟨rfl,Kex rfl (or_t hb),tV⟩,[],rfl,.inl rfl⟩
  refine Kfm hΓ 5 rfl ?_
  exact⟨⟨rfl,Kex rfl (or_f hb),tV⟩,[],rfl,.inl rfl⟩
 refine Kfm hΓ 4 rfl ?_
 obtain rfl:=oSi h
 exact Khi hΓ (.inr rfl) rfl rfl
theorem Lkn{k:Nat}{d:Lbx}{r:Int}(h:Leb k d=some r):Pure Tryz.prog 29 [.agg (fD d)] (I r):=by
 refine Pure.enter (Fr.of 0 _) Tryz.func29 rfl (Fr.of_ok _) rfl rfl ?_
 refine Kfo ?_
 unfold Leb at h
 refine go hΓ 2 rfl ?_
 refine Ksq rfl rfl rfl rfl (nBe rfl) ?_
 refine Kfm hΓ 12 rfl ?_
 refine Kfp rfl (fun hb=>?_) (fun hb=>?_)
 ·have h1:=cT h hb
  refine go hΓ 7 rfl ?_
  obtain rfl:=oSi h1
  exact Khi hΓ (.inr rfl) rfl rfl
 have h2:=cF h hb
 obtain⟨y3,hy3,h4⟩:=Kfw h2
 refine go hΓ 7 rfl ?_
 refine Kgx (Lml Tryz.func106 rfl rfl) (Lkl hy3) rfl (nBe rfl) rfl rfl rfl rfl rfl ?_
 refine Kfm hΓ 9 rfl ?_
 refine Kfp rfl (fun hb=>?_) (fun hb=>?_)
 ·have h5:=cT h4 hb
  refine go hΓ 8 rfl ?_
  obtain rfl:=oSi h5
  exact Khi hΓ (.inr rfl) rfl rfl
 have h6:=cF h4 hb
 refine go hΓ 11 rfl ?_
 refine Kfp rfl (fun hb=>?_) (fun hb=>?_)
 ·have h7:=cT h6 hb
  refine go hΓ 7 rfl ?_
  obtain rfl:=oSi h7
  exact Khi hΓ (.inr rfl) rfl rfl
 have h8:=cF h6 hb
 refine go hΓ 11 rfl ?_
 obtain⟨q12,hq12,h13⟩:=Kfw h8
 refine Kgf 23 rfl fun hb15=>?_
 refine Kjq (R:=fun a14=>q12=.go a14) (fun a14=>[(1,.ptr 0 0)]) (fun a14=>[.box 29 (fD d)]) ?_ ?_
 ·refine go hΓ 1 rfl ?_
  refine Kge d.Owners hq12 (fun i9 s10=>[(1,.ptr 0 0),(23,.d (Sl Lij d.Owners)),(24,I (d.Owners.length:Int)),(25,I (i9:Int))]) (fun s10=>[.box 29 (fD d)]) ⟨⟨rfl,rfl,rfl,rfl,tV⟩,[],rfl,.inl rfl⟩ (fun i9 x11 s10 y19 hx16 hlt hy17 hout18=>?_) (fun s10 hgo=>?_)
  ·refine go hΓ 6 rfl ?_
   refine Kfq rfl (decide_eq_true (Int.ofNat_lt.2 hlt)) ?_
   refine go hΓ 7 rfl ?_
   refine eo_o rfl (Kgg hΓ (enc:=Lij) (Kfz hx16) rfl rfl rfl rfl rfl (fun _=>rfl)) ?_
   refine Kfm hΓ 1 rfl ?_
   refine Ksp hΓ rfl rfl rfl (nBe rfl) ?_
   refine Kfm hΓ 1 rfl ?_
   refine Ksu hΓ rfl rfl rfl rfl rfl rfl rfl rfl (nBe rfl) ?_
   refine Khe [.box 29 (fD d),.box 155 [S x11.Tag,.d (Sl eS x11.Users)]] rfl ?_
   obtain⟨y20,hy20,h21⟩:=Kfw hy17
   refine Kfm hΓ 7 rfl ?_
   refine Kgx (Lml Tryz.func107 rfl rfl) (Lkk hy20) rfl (nBe rfl) rfl rfl rfl rfl rfl ?_
   refine Kfm hΓ 3 rfl ?_
   refine Kfp rfl (fun hb=>?_) (fun hb=>?_)
   ·have h22:=cT h21 hb
    refine go hΓ 9 rfl ?_
    obtain⟨v23,hv23,h24⟩:=Kfw h22
    obtain rfl:=oSi h24
    obtain rfl:=hout18 _ rfl
    obtain rfl:=oSi h13
    refine go hΓ 4 rfl ?_
    obtain rfl:=oSi hv23
    exact Khi hΓ (.inr rfl) rfl rfl
   have h25:=cF h21 hb
   obtain⟨q26,hq26,h27⟩:=Kfw h25
   refine go hΓ 4 rfl ?_
   refine Kjr [(1,.ptr 0 0),(5,.ptr 1 0),(23,.d (Sl Lij d.Owners)),(24,I (d.Owners.length:Int)),(25,I (i9:Int)),(47,B q26)] [.box 29 (fD d),.box 155 [S x11.Tag,.d (Sl eS x11.Users)]] ?_ ?_
   ·refine Kfs hmix (by kernel_rfl) ?_
    refine go hΓ 3 rfl ?_
    refine Kee rfl rfl (fun hb=>?_) (fun hb=>?_)
    ·have h28:=cT hq26 hb
     obtain⟨x29,hx29,h30⟩:=Kfw h28
     refine Kfn hΓ 6 rfl ?_
     refine Kez rfl rfl (Kgg hΓ (enc:=Lij) hx29 rfl rfl rfl rfl rfl (fun _=>rfl)) ?_
     refine Kfn hΓ 5 rfl ?_
     obtain rfl:=oSi h30
     exact⟨⟨rfl,rfl,rfl,rfl,rfl,rfl,tV⟩,[],rfl,.inl rfl⟩
    have h31:=cF hq26 hb
    refine Kfn hΓ 12 rfl ?_
    obtain rfl:=oSi h31
    exact⟨⟨rfl,rfl,rfl,rfl,rfl,rfl,tV⟩,[],rfl,.inl rfl⟩
   refine go hΓ 1 rfl ?_
   refine Kfp rfl (fun hb=>?_) (fun hb=>?_)
   ·have h32:=cT h27 hb
    refine go hΓ 9 rfl ?_
    obtain⟨v33,hv33,h34⟩:=Kfw h32
    obtain rfl:=oSi h34
    obtain rfl:=hout18 _ rfl
    obtain rfl:=oSi h13
    refine go hΓ 4 rfl ?_
    obtain rfl:=oSi hv33
    exact Khi hΓ (.inr rfl) rfl rfl
   have h35:=cF h27 hb
   refine go hΓ 10 rfl ?_
   obtain⟨q39,hq39,h40⟩:=Kfw h35
   refine Kgf 49 rfl fun hb42=>?_
   refine Kjq (R:=fun a41=>q39=.go a41) (fun a41=>[(1,.ptr 0 0),(23,.d (Sl Lij d.Owners)),(24,I (d.Owners.length:Int)),(25,I (i9:Int))]) (fun a41=>[.box 29 (fD d),.box 155 [S x11.Tag,.d (Sl eS x11.Users)]]) ?_ ?_
   ·refine go hΓ 1 rfl ?_
    refine Kge x11.Users hq39 (fun i36 s37=>[(1,.ptr 0 0),(5,.ptr 1 0),(23,.d (Sl Lij d.Owners)),(24,I (d.Owners.length:Int)),(25,I (i9:Int)),(49,.d (Sl eS x11.Users)),(50,I (x11.Users.length:Int)),(51,I (i36:Int))]) (fun s37=>[.box 29 (fD d),.box 155 [S x11.Tag,.d (Sl eS x11.Users)]]) ⟨⟨rfl,rfl,rfl,rfl,rfl,rfl,rfl,rfl,tV⟩,[],rfl,.inl rfl⟩ (fun i36 x38 s37 y46 hx43 hlt hy44 hout45=>?_) (fun s37 hgo=>?_)
    ·refine go hΓ 6 rfl ?_
     refine Kfq rfl (decide_eq_true (Int.ofNat_lt.2 hlt)) ?_
     refine go hΓ 7 rfl ?_
     refine eo_o rfl (Kgg hΓ (enc:=eS) (Kfz hx43) rfl rfl rfl rfl rfl (fun _=>rfl)) ?_
     obtain⟨y47,hy47,h48⟩:=Kfw hy44
     refine Kfm hΓ 11 rfl ?_
     refine Kgx (Lml Tryz.func61 rfl rfl) (Lju hy47) rfl (nBe rfl) rfl rfl rfl rfl rfl ?_
     refine Kfm hΓ 3 rfl ?_
     refine Kfp rfl (fun hb=>?_) (fun hb=>?_)
     ·have h49:=cT h48 hb
      refine go hΓ 9 rfl ?_
      obtain⟨v50,hv50,h51⟩:=Kfw h49
      obtain rfl:=oSi h51
      obtain rfl:=hout45 _ rfl
      obtain rfl:=oSi h40
      refine go hΓ 5 rfl ?_
      obtain⟨v52,hv52,h53⟩:=Kfw hv50
      obtain rfl:=oSi h53
      obtain rfl:=hout18 _ rfl
      obtain rfl:=oSi h13
      refine go hΓ 4 rfl ?_
      obtain rfl:=oSi hv52
      exact Khi hΓ (.inr rfl) rfl rfl
     have h54:=cF h48 hb
     refine go hΓ 7 rfl ?_
     obtain⟨q55,hq55,h56⟩:=Kfw h54
     refine Kfv 9 [(1,.ptr 0 0),(5,.ptr 1 0),(23,.d (Sl Lij d.Owners)),(24,I (d.Owners.length:Int)),(25,I (i9:Int)),(49,.d (Sl eS x11.Users)),(50,I (x11.Users.length:Int)),(51,I (i36:Int)),(72,B q55)] [.box 29 (fD d),.box 155 [S x11.Tag,.d (Sl eS x11.Users)]] ?_ ?_
     ·refine Krj rfl rfl (fun hb=>?_) (fun hb=>?_)
      ·have h57:=cT hq55 hb
       obtain⟨x58,hx58,h59⟩:=Kfw h57
       refine Kfm hΓ 5 rfl ?_
       refine Krh rfl ?_
       refine eo_o rfl (Kgg hΓ (enc:=eS) hx58 rfl rfl rfl rfl rfl (fun _=>rfl)) ?_
       refine Kfm hΓ 4 rfl ?_
       obtain rfl:=oSi h59
       exact⟨⟨rfl,rfl,rfl,rfl,rfl,rfl,rfl,rfl,rfl,tV⟩,[],rfl,.inl rfl⟩
      have h60:=cF hq55 hb
      refine Kfm hΓ 10 rfl ?_
      obtain rfl:=oSi h60
      exact⟨⟨rfl,rfl,rfl,rfl,rfl,rfl,rfl,rfl,rfl,tV⟩,[],rfl,.inl rfl⟩
     refine Kfm hΓ 2 rfl ?_
     refine Kfp rfl (fun hb=>?_) (fun hb=>?_)
     ·have h61:=cT h56 hb
      refine go hΓ 8 rfl ?_
      obtain⟨v62,hv62,h63⟩:=Kfw h61
      obtain rfl:=oSi h63
      obtain rfl:=hout45 _ rfl
      obtain rfl:=oSi h40
      refine go hΓ 5 rfl ?_
      obtain⟨v64,hv64,h65⟩:=Kfw hv62
      obtain rfl:=oSi h65
      obtain rfl:=hout18 _ rfl
      obtain rfl:=oSi h13
      refine go hΓ 4 rfl ?_
      obtain rfl:=oSi hv64
      exact Khi hΓ (.inr rfl) rfl rfl
     have h66:=cF h56 hb
     refine go hΓ 7 rfl ?_
     obtain rfl:=oSi h66
     exact⟨_,rfl,⟨⟨rfl,rfl,rfl,rfl,rfl,rfl,rfl,Kew rfl (Kev (nLl hlt hb42)),tV⟩,[],rfl,.inl rfl⟩⟩
    subst hgo
    refine go hΓ 6 rfl ?_
    refine Kfr rfl (decide_eq_false (Int.lt_irrefl _)) ?_
    refine go hΓ 4 rfl ?_
    exact⟨_,rfl,⟨⟨rfl,rfl,rfl,rfl,tV⟩,[],rfl,.inl rfl⟩⟩
   intro a41 ha
   subst ha
   replace h40:=Kjl h40
   refine go hΓ 6 rfl ?_
   obtain rfl:=oSi h40
   exact⟨_,rfl,⟨⟨rfl,rfl,rfl,Kew rfl (Kev (nLl hlt hb15)),tV⟩,[_],rfl,.inr ⟨HB.mk rfl,FB.mk rfl,(nBe rfl)⟩⟩⟩
  subst hgo
  refine go hΓ 6 rfl ?_
  refine Kfr rfl (decide_eq_false (Int.lt_irrefl _)) ?_
  refine go hΓ 4 rfl ?_
  exact⟨_,rfl,⟨⟨rfl,tV⟩,[],rfl,.inl rfl⟩⟩
 intro a14 ha
 subst ha
 replace h13:=Kjl h13
 obtain⟨y67,hy67,h68⟩:=Kfw h13
 refine go hΓ 6 rfl ?_
 refine Kgx (Lml Tryz.func108 rfl rfl) (Lkm hy67) rfl (nBe rfl) rfl rfl rfl rfl rfl ?_
 refine Kfm hΓ 2 rfl ?_
 refine Kfp rfl (fun hb=>?_) (fun hb=>?_)
 ·have h69:=cT h68 hb
  refine go hΓ 7 rfl ?_
  obtain rfl:=oSi h69
  exact Khi hΓ (.inr rfl) rfl rfl
 have h70:=cF h68 hb
 refine go hΓ 8 rfl ?_
 obtain rfl:=oSi h70
 exact Khi hΓ (.inr rfl) rfl rfl
theorem Lko{n:Int}{r:Bool}(h:Lec n=some r):Pure Tryz.prog 138 [I n] (B r):=by
 refine Pure.enter (Fr.of 0 _) Tryz.func138 rfl (Fr.of_ok _) rfl rfl ?_
 refine Kfo ?_
 unfold Lec at h
 refine go hΓ 10 rfl ?_
 refine Kfv 3 [(2,B false),(8,B ((decide ((n:Int)≥0))&&(decide ((n:Int)<345686400))))] [] ?_ ?_
 ·refine Krj rfl rfl (fun hb=>?_) (fun hb=>?_)
  ·refine Kfm hΓ 4 rfl ?_
   exact⟨⟨rfl,Kex rfl (Kho hb),tV⟩,[],rfl,.inl rfl⟩
  refine Kfm hΓ 4 rfl ?_
  exact⟨⟨rfl,Kex rfl (Khp hb),tV⟩,[],rfl,.inl rfl⟩
 refine Kfm hΓ 4 rfl ?_
 obtain rfl:=oSi h
 exact Khi hΓ (.inr rfl) rfl rfl
end Go.Proofs.YtjmlnnanfkiakaaGreatDoor
