import Derived.Test.YtjmlnnanfkiakaaGreatDoorXFM
import Derived.Test.YtjmlnnanfkiakaaGreatDoorGt
import Derived.Test.YtjmlnnanfkiakaaGreatDoorStrS
set_option linter.unusedVariables false
set_option linter.unusedSimpArgs false
set_option maxRecDepth 100000
namespace Go.Proofs.YtjmlnnanfkiakaaGreatDoor
open Go.Gk
abbrev Kgi (x:Kay):List D:=[Sl (eN .i64) x.L,.v (.int .i64 x.v_at)]
abbrev Kgj (x:Kaz):List D:=[.v (.string ⟨x.Tag.toArray⟩),Sl eS x.Users]
abbrev Kgk (x:Kba):List D:=[Sl eS x.Users,Sl Kgj x.Owners,.v (.int .i64 x.Life),.v (.bool x.Approve)]
abbrev Kgl (x:Kbb):List D:=[.v (.int .i64 x.At),.v (.string ⟨x.Server.toArray⟩),.v (.int .i64 x.No),.v (.int .i64 x.Kind),.v (.string ⟨x.By.toArray⟩),.v (.string ⟨x.Node.toArray⟩),.v (.string ⟨x.Join.toArray⟩),.v (.string ⟨x.Public.toArray⟩),.v (.string ⟨x.Name.toArray⟩),Sl eS x.Tags,.v (.int .i64 x.Until),.v (.int .i64 x.Uses),.v (.bool x.Ready)]
abbrev Kgm (x:Kbc):List D:=[Sl eS x.d.Users,Sl Kgj x.d.Owners,.v (.int .i64 x.d.Life),.v (.bool x.d.Approve),Sl Kgl x.l,.v (.int .i64 x.fault)]
abbrev Kgn (x:Kbd):List D:=[.v (.string ⟨x.server.toArray⟩),.v (.int .i64 x.no)]
abbrev Kgo (x:Kbe):List D:=[.v (.string ⟨x.Node.toArray⟩),.v (.string ⟨x.User.toArray⟩),.v (.string ⟨x.Name.toArray⟩),.v (.string ⟨x.Public.toArray⟩),Sl eS x.Tags,.v (.int .i64 x.Joined),.v (.int .i64 x.Expires),.v (.bool x.Approved)]
abbrev Kgp (x:Kbf):List D:=[.v (.int .i64 x.v_at),.v (.string ⟨x.is.Node.toArray⟩),.v (.string ⟨x.is.User.toArray⟩),.v (.string ⟨x.is.Name.toArray⟩),.v (.string ⟨x.is.Public.toArray⟩),Sl eS x.is.Tags,.v (.int .i64 x.is.Joined),.v (.int .i64 x.is.Expires),.v (.bool x.is.Approved),.v (.bool x.gone),.v (.bool x.key)]
abbrev Kgq (x:Kbh):List D:=[.v (.int .i64 x.Step),.v (.int .i64 x.Why)]
abbrev Kgr (x:Kbi):List D:=[.v (.string ⟨x.Key.toArray⟩),.v (.string ⟨x.By.toArray⟩),Sl eS x.Tags,.v (.int .i64 x.Until),.v (.int .i64 x.Left),.v (.bool x.Ready)]
abbrev Kgs (x:Kbj):List D:=[.v (.string ⟨x.Join.Key.toArray⟩),.v (.string ⟨x.Join.By.toArray⟩),Sl eS x.Join.Tags,.v (.int .i64 x.Join.Until),.v (.int .i64 x.Join.Left),.v (.bool x.Join.Ready),.v (.bool x.revoked),.v (.int .i64 x.used)]
abbrev Kgt (x:Kbl):List D:=[.v (.string ⟨x.Join.Key.toArray⟩),.v (.string ⟨x.Join.By.toArray⟩),Sl eS x.Join.Tags,.v (.int .i64 x.Join.Until),.v (.int .i64 x.Join.Left),.v (.bool x.Join.Ready),.v (.bool x.revoked),.v (.int .i64 x.used)]
abbrev Kgu (x:Kbm):List D:=[.v (.string ⟨x.Public.toArray⟩),.v (.int .i64 x.From),.v (.int .i64 x.To)]
abbrev arX (l0:List (Nat×Kbj)) (l1:List (Nat×(List Kbm))) (l2:List (Nat×Kbe)) (l3:List (Nat×Kbl)) (l4:List (Nat×Str)):List Ar:=arG (fB 215 Kgs) l0++(arG (fR 107 3 Kgu) l1++(arG (fB 77 Kgo) l2++(arG (fB 227 Kgt) l3++(arG (fB 9 eS) l4))))
abbrev rO {α:Type} (t:TypeId) (z:Nat) (e:α→List D) (l:List α):Ob:=.row t z l.length (l.flatMap e)
abbrev fS (s:Kbb):List G:=[I s.At,S s.Server,I s.No,I s.Kind,S s.By,S s.Node,S s.Join,S s.Public,S s.Name,.d (Sl eS s.Tags),I s.Until,I s.Uses,B s.Ready]
abbrev fD (d:Kba):List G:=[.d (Sl eS d.Users),.d (Sl Kgj d.Owners),I d.Life,B d.Approve]
abbrev fQ (s:Kay):List G:=[.d (Sl (eN .i64) s.L),I s.v_at]
abbrev bg (al:BagT):Ob:=.bag al.1 (arX al.2.1 al.2.2.1 al.2.2.2.1 al.2.2.2.2.1 al.2.2.2.2.2) []
theorem ks_node_origin:KeyP Tryz.prog 150 (kD Kgn):=key_struct hΓ [150] Kgn (show Γ 150=some ⟨.struct _,_,_,_⟩ from rfl) (by kernel_rfl) (fun _=>rfl) (fun _=>rfl) (fun a b=>by
  show some (((a.server==b.server)&&((a.no==b.no)&&true)))=some (a==b)
  refine congrArg some ?_
  rw [Bool.eq_iff_iff]
  cases a; cases b; simp [Bool.and_eq_true]) (fun a b h=>by simpa using h) (fun a=>by simp) (fun a=>by simp [Instr.sameBits,kD,Kgn,ba_refl])
theorem Kgv {x:Int} {n:Int} {r:Int} (h:Kbn x n=some r):Pure Tryz.prog 101 [I x,I n] (I r):=by
 refine Pure.enter (Fr.of 0 _) Tryz.func101 rfl (Fr.of_ok _) rfl rfl ?_
 refine go_in ?_
 unfold Kbn at h
 refine go hΓ 12 rfl ?_
 refine j_cond rfl (fun hb=>?_) (fun hb=>?_)
 ·have h1:=cT h hb
  refine go hΓ 7 rfl ?_
  obtain rfl:=oSi h1
  exact fin_pure hΓ (.inr rfl) rfl rfl
 ·have h2:=cF h hb
  obtain ⟨y3,hy3,h4⟩:=bi_ok h2
  refine go hΓ 6 rfl ?_
  refine eo_o rfl (op_remZ hy3 rfl rfl) ?_
  obtain ⟨q5,hq5,h6⟩:=bi_ok h4
  refine go_ops hΓ 10 rfl ?_
  refine j_cutNZ [(0,I q5)] [] ?_ ?_
  ·refine j_cond rfl (fun hb=>?_) (fun hb=>?_)
   ·have h7:=cT hq5 hb
    refine go hΓ 6 rfl ?_
    obtain rfl:=oSi h7
    exact ⟨⟨rfl,trivial⟩,[],rfl,.inl rfl⟩
   ·have h8:=cF hq5 hb
    refine go hΓ 1 rfl ?_
    obtain rfl:=oSi h8
    exact ⟨⟨rfl,trivial⟩,[],rfl,.inl rfl⟩
  ·refine go hΓ 8 rfl ?_
   obtain rfl:=oSi h6
   exact fin_pure hΓ (.inr rfl) rfl rfl
theorem Kgw {s:Kay} {n:Int} {r:Int×Kay} (h:Kbo s n=some r):EC Tryz.prog 26 [.ptr 0 0,I n] [.box 25 (fQ s)] fun g hp'=>g=I r.1∧hp'=[.box 25 (fQ r.2)]:=by
 refine ec_enter (Fr.of 0 _) Tryz.func26 rfl (Fr.of_ok _) (nBe rfl) fun _=>?_
 refine go_in ?_
 unfold Kbo at h
 refine go hΓ 14 rfl ?_
 refine eo_store hΓ rfl rfl rfl rfl rfl rfl rfl rfl (nBe rfl) ?_
 refine eo_hp [.box 25 [.d (Sl (eN .i64) s.L),I (wi (s.v_at+1))]] rfl ?_
 refine go_ops hΓ 13 rfl ?_
 refine j_cond rfl (fun hb=>?_) (fun hb=>?_)
 ·have h1:=cT h hb
  obtain ⟨y2,hy2,h3⟩:=bi_ok h1
  refine go hΓ 8 rfl ?_
  refine eo_callP (callable Tryz.func101 rfl rfl) (Kgv hy2) rfl (nBe rfl) rfl rfl rfl rfl rfl ?_
  refine go_ops hΓ 5 rfl ?_
  obtain rfl:=oSi h3
  exact fin_objs hΓ [] (.inr rfl) rfl rfl rfl rfl (.inl rfl)
 ·have h4:=cF h hb
  refine go hΓ 3 rfl ?_
  refine j_draw hmix (by kernel_rfl) ?_
  obtain ⟨y5,hy5,h6⟩:=bi_ok h4
  refine go hΓ 10 rfl ?_
  refine gl_o rfl (op_remZ hy5 rfl rfl) ?_
  refine go_draw hΓ 4 rfl ?_
  refine j_draw hmix (by kernel_rfl) ?_
  obtain ⟨y7,hy7,h8⟩:=bi_ok h6
  refine go hΓ 10 rfl ?_
  refine gl_o rfl (op_quoZ hy7 rfl rfl) ?_
  obtain ⟨x9,hx9,h10⟩:=bi_ok h8
  refine go_draw hΓ 10 rfl ?_
  refine eo_o rfl (op_elemZ hΓ (enc:=(eN .i64)) hx9 rfl rfl rfl rfl rfl (fun _=>rfl)) ?_
  obtain ⟨y11,hy11,h12⟩:=bi_ok h10
  refine go_ops hΓ 1 rfl ?_
  refine eo_callP (callable Tryz.func101 rfl rfl) (Kgv hy11) rfl (nBe rfl) rfl rfl rfl rfl rfl ?_
  obtain ⟨y13,hy13,h14⟩:=bi_ok h12
  refine go_ops hΓ 6 rfl ?_
  refine eo_callP (callable Tryz.func101 rfl rfl) (Kgv hy13) rfl (nBe rfl) rfl rfl rfl rfl rfl ?_
  refine go_ops hΓ 4 rfl ?_
  obtain rfl:=oSi h14
  exact fin_objs hΓ [] (.inr rfl) rfl rfl rfl rfl (.inl rfl)
theorem Kgx {s:Kay} {low:Int} {high:Int} {r:Int×Kay} (h:Kbp s low high=some r):EC Tryz.prog 11 [.ptr 0 0,I low,I high] [.box 25 (fQ s)] fun g hp'=>g=I r.1∧hp'=[.box 25 (fQ r.2)]:=by
 refine ec_enter (Fr.of 0 _) Tryz.func11 rfl (Fr.of_ok _) (nBe rfl) fun _=>?_
 refine go_in ?_
 unfold Kbp at h
 refine go hΓ 13 rfl ?_
 refine j_cond rfl (fun hb=>?_) (fun hb=>?_)
 ·have h1:=cT h hb
  refine go hΓ 8 rfl ?_
  obtain rfl:=oSi h1
  exact fin_objs hΓ [] (.inr rfl) rfl rfl rfl rfl (.inl rfl)
 ·have h2:=cF h hb
  obtain ⟨y3,hy3,h4⟩:=bi_ok h2
  refine go hΓ 10 rfl ?_
  refine eo_callF [0] (I y3.1) [.box 25 (fQ y3.2)] (callable Tryz.func26 rfl rfl) (Kgw hy3) rfl (nBe rfl) rfl rfl rfl rfl rfl rfl rfl rfl rfl rfl ?_
  refine go_ops hΓ 5 rfl ?_
  obtain rfl:=oSi h4
  exact fin_objs hΓ [] (.inr rfl) rfl rfl rfl rfl (.inl rfl)
theorem Kgy {s:Kay} {l:List Int} {r:Int×Kay} (h:Kbq s l=some r):EC Tryz.prog 13 [.ptr 0 0,.d (Sl (eN .i64) l)] [.box 25 (fQ s)] fun g hp'=>g=I r.1∧hp'=[.box 25 (fQ r.2)]:=by
 refine ec_enter (Fr.of 0 _) Tryz.func13 rfl (Fr.of_ok _) (nBe rfl) fun _=>?_
 refine go_in ?_
 unfold Kbq at h
 obtain ⟨y1,hy1,h2⟩:=bi_ok h
 refine go hΓ 11 rfl ?_
 refine eo_callF [0] (I y1.1) [.box 25 (fQ y1.2)] (callable Tryz.func26 rfl rfl) (Kgw hy1) rfl (nBe rfl) rfl rfl rfl rfl rfl rfl rfl rfl rfl rfl ?_
 obtain ⟨x3,hx3,h4⟩:=bi_ok h2
 refine eo_o rfl (op_elemZ hΓ (enc:=(eN .i64)) hx3 rfl rfl rfl rfl rfl (fun _=>rfl)) ?_
 refine go_ops hΓ 5 rfl ?_
 obtain rfl:=oSi h4
 exact fin_objs hΓ [] (.inr rfl) rfl rfl rfl rfl (.inl rfl)
theorem Kgz {s:Kay} {n:Int} {r:Bool×Kay} (h:Kbr s n=some r):EC Tryz.prog 24 [.ptr 0 0,I n] [.box 25 (fQ s)] fun g hp'=>g=B r.1∧hp'=[.box 25 (fQ r.2)]:=by
 refine ec_enter (Fr.of 0 _) Tryz.func24 rfl (Fr.of_ok _) (nBe rfl) fun _=>?_
 refine go_in ?_
 unfold Kbr at h
 obtain ⟨y1,hy1,h2⟩:=bi_ok h
 refine go hΓ 9 rfl ?_
 refine eo_callF [0] (I y1.1) [.box 25 (fQ y1.2)] (callable Tryz.func26 rfl rfl) (Kgw hy1) rfl (nBe rfl) rfl rfl rfl rfl rfl rfl rfl rfl rfl rfl ?_
 refine go_ops hΓ 5 rfl ?_
 obtain rfl:=oSi h2
 exact fin_objs hΓ [] (.inr rfl) rfl rfl rfl rfl (.inl rfl)
theorem Kha {s:Kay} {r:Kba×Kay} (h:Kbs s=some r):EC Tryz.prog 187 [.ptr 0 0] [.box 25 (fQ s)] fun g hp'=>g=.agg [.sl 1 r.1.Users.length,.sl 2 r.1.Owners.length,I r.1.Life,B r.1.Approve]∧hp'=[.box 25 (fQ r.2),rO 9 1 eS r.1.Users,rO 155 2 Kgj r.1.Owners]:=by
 refine ec_enterC (Fr.of 0 _) Tryz.func187 rfl (Fr.of_ok _) (nBe rfl) fun _=>?_
 refine go_in ?_
 unfold Kbs at h
 refine go hΓ 2 rfl ?_
 refine eo_alloc hΓ rfl rfl rfl (nBe rfl) ?_
 refine go_ops hΓ 3 rfl ?_
 obtain ⟨y1,hy1,h2⟩:=bi_ok h
 obtain ⟨x3,hx3,h4⟩:=bi_ok h2
 obtain ⟨y5,hy5,h6⟩:=bi_ok h4
 obtain ⟨x7,hx7,h8⟩:=bi_ok h6
 obtain ⟨y9,hy9,h10⟩:=bi_ok h8
 obtain ⟨y11,hy11,h12⟩:=bi_ok h10
 refine j_drawC hΓ [] [] [0,5,13,17,20,22,24] [] [⟨1,[],.d (Sl eS [[97,110,110],[98,111,98]]),none⟩,⟨2,[],.d (Sl eS [[98,111,98]]),none⟩,⟨3,[(4,.d (Sl eS [[97,110,110],[98,111,98]])),(5,.d (Sl eS [[98,111,98]]))],.d (Sl (eL eS) [[[97,110,110],[98,111,98]],[[98,111,98]],[]]),none⟩,⟨5,[(7,.ptr 0 0)],I y1.1,some (0,.box 25 (fQ s),.box 25 (fQ y1.2))⟩,⟨6,[(6,.d (Sl (eL eS) [[[97,110,110],[98,111,98]],[[98,111,98]],[]])),(8,I y1.1)],.rp [Sl eS x3],none⟩,⟨9,[],.d (Sl eS [[97,110,110]]),none⟩,⟨10,[],.d (Sl eS [[97,110,110],[99,105,100]]),none⟩,⟨11,[(12,.d (Sl eS [[97,110,110]])),(13,.d (Sl eS [[97,110,110],[99,105,100]]))],.d (Sl (eL eS) [[[97,110,110]],[[97,110,110],[99,105,100]]]),none⟩,⟨13,[(15,.ptr 0 0)],I y5.1,some (0,.box 25 (fQ y1.2),.box 25 (fQ y5.2))⟩,⟨14,[(14,.d (Sl (eL eS) [[[97,110,110]],[[97,110,110],[99,105,100]]])),(16,I y5.1)],.rp [Sl eS x7],none⟩,⟨19,[],.d (Sl (eN .i64) [20,60,100,1000]),none⟩,⟨20,[(21,.ptr 0 0),(22,.d (Sl (eN .i64) [20,60,100,1000]))],I y9.1,some (0,.box 25 (fQ y5.2),.box 25 (fQ y9.2))⟩,⟨22,[(24,.ptr 0 0)],B y11.1,some (0,.box 25 (fQ y9.2),.box 25 (fQ y11.2))⟩] [([0,1,2,3],[0,1,2,3]),([0,1,2,3],[0,1,2,3]),([0,1,2,3],[0,1,2,3]),([0,1,2,3],[0,1,2,3]),([0,1,2,3],[0,1,2,3]),([0,1,2,3],[0,1,2,3]),([0,1,2,3],[0,1,2,3]),([0,1,2,3],[0,1,2,3]),([0,1,2,3],[0,1,2,3]),([0,1,3,2],[0,1,3,2]),([0,1,3,2],[0,1,3,2]),([0,1,3,2],[0,1,3,2]),([0,1,2,3],[0,1,2,3]),([0,1,2,3],[0,1,2,3]),([0,1,3,2],[0,1,3,2]),([0,1,3,2],[0,1,3,2]),([0,1,2,3],[0,1,2,3]),([0,1,3,2],[0,1,3,2])] [(2,.ptr 1 0)] [.box 25 (fQ y11.2),.box 29 [.sl 2 [[97,110,110],[98,111,98],[99,105,100]].length,.sl 3 [(⟨[100,98],x3⟩:Kaz),(⟨[119,101,98],x7⟩:Kaz)].length,I y9.1,B y11.1],rO 9 1 eS [[97,110,110],[98,111,98],[99,105,100]],rO 155 2 Kgj [(⟨[100,98],x3⟩:Kaz),(⟨[119,101,98],x7⟩:Kaz)]] hmix (by kernel_rfl) (by kernel_rfl) (specs_ok ⟨spec_lit hΓ (enc:=eS) [[97,110,110],[98,111,98]] rfl rfl rfl rfl rfl rfl rfl rfl rfl rfl rfl rfl rfl rfl,spec_lit hΓ (enc:=eS) [[98,111,98]] rfl rfl rfl rfl rfl rfl rfl rfl rfl rfl rfl rfl rfl rfl,spec_lit hΓ (enc:=(eL eS)) [[[97,110,110],[98,111,98]],[[98,111,98]],[]] rfl rfl rfl rfl rfl rfl rfl rfl rfl rfl rfl rfl rfl rfl,spec_c 0 rfl rfl rfl (callable Tryz.func26 rfl rfl) (Kgw hy1) rfl rfl (fun _=>rfl) (fun _=>rfl) rfl rfl (fun _=>rfl) (fun _=>rfl),spec_p rfl rfl rfl (fun hp=>op_elemZ hΓ (enc:=(eL eS)) hx3 rfl rfl rfl rfl rfl (fun _=>rfl)),spec_lit hΓ (enc:=eS) [[97,110,110]] rfl rfl rfl rfl rfl rfl rfl rfl rfl rfl rfl rfl rfl rfl,spec_lit hΓ (enc:=eS) [[97,110,110],[99,105,100]] rfl rfl rfl rfl rfl rfl rfl rfl rfl rfl rfl rfl rfl rfl,spec_lit hΓ (enc:=(eL eS)) [[[97,110,110]],[[97,110,110],[99,105,100]]] rfl rfl rfl rfl rfl rfl rfl rfl rfl rfl rfl rfl rfl rfl,spec_c 0 rfl rfl rfl (callable Tryz.func26 rfl rfl) (Kgw hy5) rfl rfl (fun _=>rfl) (fun _=>rfl) rfl rfl (fun _=>rfl) (fun _=>rfl),spec_p rfl rfl rfl (fun hp=>op_elemZ hΓ (enc:=(eL eS)) hx7 rfl rfl rfl rfl rfl (fun _=>rfl)),spec_lit hΓ (enc:=(eN .i64)) [20,60,100,1000] rfl rfl rfl rfl rfl rfl rfl rfl rfl rfl rfl rfl rfl rfl,spec_c 0 rfl rfl rfl (callable Tryz.func13 rfl rfl) (Kgy hy9) rfl rfl (fun _=>rfl) (fun _=>rfl) rfl rfl (fun _=>rfl) (fun _=>rfl),spec_c 0 rfl rfl rfl (callable Tryz.func24 rfl rfl) (Kgz hy11) rfl rfl (fun _=>rfl) (fun _=>rfl) rfl rfl (fun _=>rfl) (fun _=>rfl),trivial⟩) trivial (nBe rfl) ?_
 refine go hΓ 2 rfl ?_
 refine cv_name (nBe rfl) ?_
 refine cv_move 1 4 [.box 25 (fQ y11.2),.dead,rO 9 1 eS [[97,110,110],[98,111,98],[99,105,100]],rO 155 2 Kgj [(⟨[100,98],x3⟩:Kaz),(⟨[119,101,98],x7⟩:Kaz)],.box 29 [.sl 2 [[97,110,110],[98,111,98],[99,105,100]].length,.sl 3 [(⟨[100,98],x3⟩:Kaz),(⟨[119,101,98],x7⟩:Kaz)].length,I y9.1,B y11.1]] rfl rfl rfl rfl rfl rfl ?_
 refine cv_move 2 1 [.box 25 (fQ y11.2),rO 9 1 eS [[97,110,110],[98,111,98],[99,105,100]],.dead,rO 155 2 Kgj [(⟨[100,98],x3⟩:Kaz),(⟨[119,101,98],x7⟩:Kaz)],.box 29 [.sl 1 [[97,110,110],[98,111,98],[99,105,100]].length,.sl 3 [(⟨[100,98],x3⟩:Kaz),(⟨[119,101,98],x7⟩:Kaz)].length,I y9.1,B y11.1]] rfl rfl rfl rfl rfl rfl ?_
 refine cv_move 3 2 [.box 25 (fQ y11.2),rO 9 1 eS [[97,110,110],[98,111,98],[99,105,100]],rO 155 2 Kgj [(⟨[100,98],x3⟩:Kaz),(⟨[119,101,98],x7⟩:Kaz)],.dead,.box 29 [.sl 1 [[97,110,110],[98,111,98],[99,105,100]].length,.sl 2 [(⟨[100,98],x3⟩:Kaz),(⟨[119,101,98],x7⟩:Kaz)].length,I y9.1,B y11.1]] rfl rfl rfl rfl rfl rfl ?_
 refine cv_here ?_
 obtain rfl:=oSi h12
 exact fin_objs hΓ [_,_] (.inr rfl) rfl rfl rfl rfl (.inr ⟨HB.mk rfl,rfl⟩)
theorem Khb {s:Kay} {l:List Str} {r:Str×Kay} (h:Kbt s l=some r):EC Tryz.prog 22 [.ptr 0 0,.d (Sl eS l)] [.box 25 (fQ s)] fun g hp'=>g=S r.1∧hp'=[.box 25 (fQ r.2)]:=by
 refine ec_enter (Fr.of 0 _) Tryz.func22 rfl (Fr.of_ok _) (nBe rfl) fun _=>?_
 refine go_in ?_
 unfold Kbt at h
 obtain ⟨y1,hy1,h2⟩:=bi_ok h
 refine go hΓ 11 rfl ?_
 refine eo_callF [0] (I y1.1) [.box 25 (fQ y1.2)] (callable Tryz.func26 rfl rfl) (Kgw hy1) rfl (nBe rfl) rfl rfl rfl rfl rfl rfl rfl rfl rfl rfl ?_
 obtain ⟨x3,hx3,h4⟩:=bi_ok h2
 refine eo_o rfl (op_elemZ hΓ (enc:=eS) hx3 rfl rfl rfl rfl rfl (fun _=>rfl)) ?_
 refine go_ops hΓ 5 rfl ?_
 obtain rfl:=oSi h4
 exact fin_objs hΓ [] (.inr rfl) rfl rfl rfl rfl (.inl rfl)
set_option maxHeartbeats 8000000 in
theorem Khc {s:Kay} {r:Kba×Kay} (h:Kbu s=some r):EC Tryz.prog 83 [.ptr 0 0] [.box 25 (fQ s)] fun g hp'=>g=.agg (fD r.1)∧hp'=[.box 25 (fQ r.2)]:=by
 refine ec_enter (Fr.of 0 _) Tryz.func83 rfl (Fr.of_ok _) (nBe rfl) fun _=>?_
 refine go_in ?_
 unfold Kbu at h
 refine go hΓ 2 rfl ?_
 refine eo_alloc hΓ rfl rfl rfl (nBe rfl) ?_
 obtain ⟨y1,hy1,h2⟩:=bi_ok h
 refine go_ops hΓ 5 rfl ?_
 refine eo_callF [0] (.agg [.sl 2 y1.1.Users.length,.sl 3 y1.1.Owners.length,I y1.1.Life,B y1.1.Approve]) [.box 25 (fQ y1.2),.box 29 [.d (Sl eS []),.d (Sl Kgj []),I 0,B false],rO 9 1 eS y1.1.Users,rO 155 2 Kgj y1.1.Owners] (callable Tryz.func187 rfl rfl) (Kha hy1) rfl (nBe rfl) rfl rfl rfl rfl rfl rfl rfl rfl rfl rfl ?_
 refine eo_alloc hΓ rfl rfl rfl (nBe rfl) ?_
 refine eo_store hΓ rfl rfl rfl rfl rfl rfl rfl rfl (nBe rfl) ?_
 refine eo_hp [.box 25 (fQ y1.2),.box 29 [.d (Sl eS []),.d (Sl Kgj []),I 0,B false],rO 9 1 eS y1.1.Users,rO 155 2 Kgj y1.1.Owners,.box 29 [.sl 2 y1.1.Users.length,.sl 3 y1.1.Owners.length,I y1.1.Life,B y1.1.Approve]] rfl ?_
 obtain ⟨y3,hy3,h4⟩:=bi_ok h2
 refine go_ops hΓ 6 rfl ?_
 refine eo_callF [0] (B y3.1) [.box 25 (fQ y3.2),.box 29 [.d (Sl eS []),.d (Sl Kgj []),I 0,B false],rO 9 1 eS y1.1.Users,rO 155 2 Kgj y1.1.Owners,.box 29 [.sl 2 y1.1.Users.length,.sl 3 y1.1.Owners.length,I y1.1.Life,B y1.1.Approve]] (callable Tryz.func24 rfl rfl) (Kgz hy3) rfl (nBe rfl) rfl rfl rfl rfl rfl rfl rfl rfl rfl rfl ?_
 obtain ⟨q5,hq5,h6⟩:=bi_ok h4
 refine go_ops hΓ 2 rfl ?_
 refine j_cutNC [(2,.ptr 1 0),(3,.ptr 4 0)] [.box 25 (fQ q5.1),.box 29 [.d (Sl eS []),.d (Sl Kgj []),I 0,B false],rO 9 1 eS q5.2.1,rO 155 2 Kgj q5.2.2.1,.box 29 [.sl 2 q5.2.1.length,.sl 3 q5.2.2.1.length,I q5.2.2.2,B y1.1.Approve]] ?_ ?_
 ·refine j_cond rfl (fun hb=>?_) (fun hb=>?_)
  ·have h7:=cT hq5 hb
   obtain ⟨y8,hy8,h9⟩:=bi_ok h7
   refine go hΓ 3 rfl ?_
   refine eo_callF [0] (I y8.1) [.box 25 (fQ y8.2),.box 29 [.d (Sl eS []),.d (Sl Kgj []),I 0,B false],rO 9 1 eS y1.1.Users,rO 155 2 Kgj y1.1.Owners,.box 29 [.sl 2 y1.1.Users.length,.sl 3 y1.1.Owners.length,I y1.1.Life,B y1.1.Approve]] (callable Tryz.func26 rfl rfl) (Kgw hy8) rfl (nBe rfl) rfl rfl rfl rfl rfl rfl rfl rfl rfl rfl ?_
   refine go_ops hΓ 9 rfl ?_
   refine j_cond rfl (fun hb=>?_) (fun hb=>?_)
   ·have h10:=cT h9 hb
    refine j_drawE [.dead,.dead,.dead,.dead,.box 29 [.sl 2 y1.1.Users.length,.sl 3 y1.1.Owners.length,I y1.1.Life,B y1.1.Approve]] [1] [4,6,8] [6,8] hmix (by kernel_rfl) (by kernel_rfl) ⟨rfl,trivial⟩ (nBe rfl) ?_
    refine go_E hΓ 3 rfl ?_
    refine ge_litT hΓ (enc:=eS) [[],[97,110,110],[65]] rfl rfl rfl rfl rfl rfl rfl rfl rfl rfl rfl rfl ?_
    obtain ⟨y11,hy11,h12⟩:=bi_ok h10
    refine ge_h [.box 25 (fQ y11.2),.box 29 [.d (Sl eS []),.d (Sl Kgj []),I 0,B false],rO 9 1 eS y1.1.Users,rO 155 2 Kgj y1.1.Owners,.box 29 [.sl 2 y1.1.Users.length,.sl 3 y1.1.Owners.length,I y1.1.Life,B y1.1.Approve]] rfl rfl rfl (st_st ⟨rfl,trivial⟩) (qte_callF [0] (S y11.1) [.box 25 (fQ y11.2),.box 29 [.d (Sl eS []),.d (Sl Kgj []),I 0,B false],rO 9 1 eS y1.1.Users,rO 155 2 Kgj y1.1.Owners,.box 29 [.sl 2 y1.1.Users.length,.sl 3 y1.1.Owners.length,I y1.1.Life,B y1.1.Approve]] (callable Tryz.func22 rfl rfl) (Khb hy11) rfl rfl rfl rfl rfl rfl rfl rfl rfl rfl) ?_
    refine ge_litT hΓ (enc:=eS) [y11.1] rfl rfl rfl rfl rfl rfl rfl rfl rfl rfl rfl rfl ?_
    obtain ⟨y13,hy13,h14⟩:=bi_ok h12
    refine ge_h [.box 25 (fQ y11.2),.box 29 [.d (Sl eS []),.d (Sl Kgj []),I 0,B false],.dead,rO 155 2 Kgj y1.1.Owners,.box 29 [.junk,.sl 3 y1.1.Owners.length,I y1.1.Life,B y1.1.Approve],rO 9 1 eS y13] rfl rfl rfl (brk_st rfl) (qte_s (ops_forg 2 (ops_appendT hΓ (enc:=eS) (id:=2) (h2:=show Γ 9=some ⟨_,1,_,_⟩ from rfl) hy13 rfl rfl rfl rfl rfl rfl rfl rfl (fun _=>rfl) rfl))) ?_
    refine go_E hΓ 1 rfl ?_
    refine ge_h0 [.box 25 (fQ y11.2),.box 29 [.d (Sl eS []),.d (Sl Kgj []),I 0,B false],.dead,rO 155 2 Kgj y1.1.Owners,.box 29 [.sl 5 y13.length,.sl 3 y1.1.Owners.length,I y1.1.Life,B y1.1.Approve],rO 9 1 eS y13] rfl rfl (brk_st rfl) (qte_u (opu_store2 hΓ rfl rfl rfl rfl rfl rfl rfl rfl rfl)) ?_
    refine ge_fin ?_
    refine go hΓ 1 rfl ?_
    refine cv_move 5 2 [.box 25 (fQ y11.2),.box 29 [.d (Sl eS []),.d (Sl Kgj []),I 0,B false],rO 9 1 eS y13,rO 155 2 Kgj y1.1.Owners,.box 29 [.sl 2 y13.length,.sl 3 y1.1.Owners.length,I y1.1.Life,B y1.1.Approve],.dead] rfl rfl rfl rfl rfl rfl ?_
    refine cv_here ?_
    obtain rfl:=oSi h14
    exact ⟨⟨rfl,rfl,trivial⟩,[_],rfl,.inr ⟨HB.mk rfl,FB.mk rfl,(nBe rfl)⟩⟩
   ·have h15:=cF h9 hb
    refine go hΓ 6 rfl ?_
    refine j_cond rfl (fun hb=>?_) (fun hb=>?_)
    ·have h16:=cT h15 hb
     refine j_drawE [.dead,.dead,.dead,.dead,.box 29 [.sl 2 y1.1.Users.length,.sl 3 y1.1.Owners.length,I y1.1.Life,B y1.1.Approve]] [1] [4,7,11,13] [11,13] hmix (by kernel_rfl) (by kernel_rfl) ⟨rfl,trivial⟩ (nBe rfl) ?_
     refine go_E hΓ 3 rfl ?_
     refine ge_litT hΓ (enc:=eS) [[],[100,98],[122,122]] rfl rfl rfl rfl rfl rfl rfl rfl rfl rfl rfl rfl ?_
     obtain ⟨y17,hy17,h18⟩:=bi_ok h16
     refine ge_h [.box 25 (fQ y17.2),.box 29 [.d (Sl eS []),.d (Sl Kgj []),I 0,B false],rO 9 1 eS y1.1.Users,rO 155 2 Kgj y1.1.Owners,.box 29 [.sl 2 y1.1.Users.length,.sl 3 y1.1.Owners.length,I y1.1.Life,B y1.1.Approve]] rfl rfl rfl (st_st ⟨rfl,trivial⟩) (qte_callF [0] (S y17.1) [.box 25 (fQ y17.2),.box 29 [.d (Sl eS []),.d (Sl Kgj []),I 0,B false],rO 9 1 eS y1.1.Users,rO 155 2 Kgj y1.1.Owners,.box 29 [.sl 2 y1.1.Users.length,.sl 3 y1.1.Owners.length,I y1.1.Life,B y1.1.Approve]] (callable Tryz.func22 rfl rfl) (Khb hy17) rfl rfl rfl rfl rfl rfl rfl rfl rfl rfl) ?_
     refine go_E hΓ 1 rfl ?_
     refine ge_litT hΓ (enc:=eS) [[97,110,110],[110,111,110,101]] rfl rfl rfl rfl rfl rfl rfl rfl rfl rfl rfl rfl ?_
     obtain ⟨y19,hy19,h20⟩:=bi_ok h18
     refine ge_h [.box 25 (fQ y19.2),.box 29 [.d (Sl eS []),.d (Sl Kgj []),I 0,B false],rO 9 1 eS y1.1.Users,rO 155 2 Kgj y1.1.Owners,.box 29 [.sl 2 y1.1.Users.length,.sl 3 y1.1.Owners.length,I y1.1.Life,B y1.1.Approve]] rfl rfl rfl (st_st ⟨rfl,trivial⟩) (qte_callF [0] (S y19.1) [.box 25 (fQ y19.2),.box 29 [.d (Sl eS []),.d (Sl Kgj []),I 0,B false],rO 9 1 eS y1.1.Users,rO 155 2 Kgj y1.1.Owners,.box 29 [.sl 2 y1.1.Users.length,.sl 3 y1.1.Owners.length,I y1.1.Life,B y1.1.Approve]] (callable Tryz.func22 rfl rfl) (Khb hy19) rfl rfl rfl rfl rfl rfl rfl rfl rfl rfl) ?_
     refine ge_litT hΓ (enc:=eS) [y19.1] rfl rfl rfl rfl rfl rfl rfl rfl rfl rfl rfl rfl ?_
     refine ge_q rfl (.inl rfl) (fun _ _=>qte_of_qt (qt_p (op_build hΓ (gs:=[S y17.1,.d (Sl eS [y19.1])]) rfl rfl rfl rfl rfl rfl))) ?_
     refine ge_litT hΓ (enc:=Kgj) [(⟨y17.1,[y19.1]⟩:Kaz)] rfl rfl rfl rfl rfl rfl rfl rfl rfl rfl rfl rfl ?_
     obtain ⟨y21,hy21,h22⟩:=bi_ok h20
     refine ge_h [.box 25 (fQ y19.2),.box 29 [.d (Sl eS []),.d (Sl Kgj []),I 0,B false],rO 9 1 eS y1.1.Users,.dead,.box 29 [.sl 2 y1.1.Users.length,.junk,I y1.1.Life,B y1.1.Approve],rO 155 2 Kgj y21] rfl rfl rfl (brk_st rfl) (qte_s (ops_forg 3 (ops_appendT hΓ (enc:=Kgj) (id:=3) (h2:=show Γ 155=some ⟨_,2,_,_⟩ from rfl) hy21 rfl rfl rfl rfl rfl rfl rfl rfl (fun _=>rfl) rfl))) ?_
     refine go_E hΓ 1 rfl ?_
     refine ge_h0 [.box 25 (fQ y19.2),.box 29 [.d (Sl eS []),.d (Sl Kgj []),I 0,B false],rO 9 1 eS y1.1.Users,.dead,.box 29 [.sl 2 y1.1.Users.length,.sl 5 y21.length,I y1.1.Life,B y1.1.Approve],rO 155 2 Kgj y21] rfl rfl (brk_st rfl) (qte_u (opu_store2 hΓ rfl rfl rfl rfl rfl rfl rfl rfl rfl)) ?_
     refine ge_fin ?_
     refine go hΓ 1 rfl ?_
     refine cv_move 5 3 [.box 25 (fQ y19.2),.box 29 [.d (Sl eS []),.d (Sl Kgj []),I 0,B false],rO 9 1 eS y1.1.Users,rO 155 2 Kgj y21,.box 29 [.sl 2 y1.1.Users.length,.sl 3 y21.length,I y1.1.Life,B y1.1.Approve],.dead] rfl rfl rfl rfl rfl rfl ?_
     refine cv_here ?_
     obtain rfl:=oSi h22
     exact ⟨⟨rfl,rfl,trivial⟩,[_],rfl,.inr ⟨HB.mk rfl,FB.mk rfl,(nBe rfl)⟩⟩
    ·have h23:=cF h15 hb
     refine go hΓ 6 rfl ?_
     refine j_cond rfl (fun hb=>?_) (fun hb=>?_)
     ·have h24:=cT h23 hb
      refine j_drawE [.dead,.dead,.dead,.dead,.box 29 [.sl 2 y1.1.Users.length,.sl 3 y1.1.Owners.length,I y1.1.Life,B y1.1.Approve]] [1] [4,8] [] hmix (by kernel_rfl) (by kernel_rfl) ⟨rfl,trivial⟩ (nBe rfl) ?_
      refine go_E hΓ 3 rfl ?_
      refine ge_litT hΓ (enc:=eS) [[97,110,110],[98,111,98]] rfl rfl rfl rfl rfl rfl rfl rfl rfl rfl rfl rfl ?_
      obtain ⟨y25,hy25,h26⟩:=bi_ok h24
      refine ge_h [.box 25 (fQ y25.2),.box 29 [.d (Sl eS []),.d (Sl Kgj []),I 0,B false],rO 9 1 eS y1.1.Users,rO 155 2 Kgj y1.1.Owners,.box 29 [.sl 2 y1.1.Users.length,.sl 3 y1.1.Owners.length,I y1.1.Life,B y1.1.Approve]] rfl rfl rfl (st_st ⟨rfl,trivial⟩) (qte_callF [0] (S y25.1) [.box 25 (fQ y25.2),.box 29 [.d (Sl eS []),.d (Sl Kgj []),I 0,B false],rO 9 1 eS y1.1.Users,rO 155 2 Kgj y1.1.Owners,.box 29 [.sl 2 y1.1.Users.length,.sl 3 y1.1.Owners.length,I y1.1.Life,B y1.1.Approve]] (callable Tryz.func22 rfl rfl) (Khb hy25) rfl rfl rfl rfl rfl rfl rfl rfl rfl rfl) ?_
      refine ge_litT hΓ (enc:=eS) [[98,111,98],y25.1] rfl rfl rfl rfl rfl rfl rfl rfl rfl rfl rfl rfl ?_
      obtain ⟨x27,hx27,h28⟩:=bi_ok h26
      have hj29:=getZ_at hx27
      refine ge_q rfl (.inl rfl) (fun _ _=>qte_of_qt (qt_p (op_elemRowZ hΓ hx27 rfl rfl rfl rfl rfl rfl))) ?_
      refine go_E hΓ 1 rfl ?_
      refine ge_h0 [.box 25 (fQ y25.2),.box 29 [.d (Sl eS []),.d (Sl Kgj []),I 0,B false],rO 9 1 eS y1.1.Users,rO 155 2 Kgj (y1.1.Owners.set ((0:Int).toNat) (⟨x27.Tag,[[98,111,98],y25.1]⟩:Kaz)),.box 29 [.sl 2 y1.1.Users.length,.sl 3 y1.1.Owners.length,I y1.1.Life,B y1.1.Approve]] rfl rfl (st_st ⟨rfl,trivial⟩) (qte_u (opu_storeRowZ hΓ (enc:=Kgj) (z':=(⟨x27.Tag,[[98,111,98],y25.1]⟩:Kaz)) ((0:Int).toNat) 1 hj29 rfl rfl rfl rfl (fun _=>rfl) rfl rfl rfl rfl rfl rfl rfl)) ?_
      refine ge_fin ?_
      refine go hΓ 1 rfl ?_
      refine cv_hp [.box 25 (fQ y25.2),.box 29 [.d (Sl eS []),.d (Sl Kgj []),I 0,B false],rO 9 1 eS y1.1.Users,rO 155 2 Kgj (y1.1.Owners.set ((0:Int).toNat) (⟨x27.Tag,[[98,111,98],y25.1]⟩:Kaz)),.box 29 [.sl 2 y1.1.Users.length,.sl 3 (y1.1.Owners.set ((0:Int).toNat) (⟨x27.Tag,[[98,111,98],y25.1]⟩:Kaz)).length,I y1.1.Life,B y1.1.Approve]] (by simp only [List.length_set]) ?_
      refine cv_here ?_
      obtain rfl:=oSi h28
      exact ⟨⟨rfl,rfl,trivial⟩,[],rfl,.inl rfl⟩
     ·have h30:=cF h23 hb
      refine go hΓ 2 rfl ?_
      refine eo_litT hΓ (enc:=(eN .i64)) [0,345686400,345686401] rfl rfl rfl rfl rfl rfl rfl rfl rfl rfl rfl rfl (nBe rfl) ?_
      obtain ⟨y31,hy31,h32⟩:=bi_ok h30
      refine eo_callF [0] (I y31.1) [.box 25 (fQ y31.2),.box 29 [.d (Sl eS []),.d (Sl Kgj []),I 0,B false],rO 9 1 eS y1.1.Users,rO 155 2 Kgj y1.1.Owners,.box 29 [.sl 2 y1.1.Users.length,.sl 3 y1.1.Owners.length,I y1.1.Life,B y1.1.Approve]] (callable Tryz.func13 rfl rfl) (Kgy hy31) rfl (nBe rfl) rfl rfl rfl rfl rfl rfl rfl rfl rfl rfl ?_
      refine go_ops hΓ 1 rfl ?_
      refine eo_store hΓ rfl rfl rfl rfl rfl rfl rfl rfl (nBe rfl) ?_
      refine eo_hp [.box 25 (fQ y31.2),.box 29 [.d (Sl eS []),.d (Sl Kgj []),I 0,B false],rO 9 1 eS y1.1.Users,rO 155 2 Kgj y1.1.Owners,.box 29 [.sl 2 y1.1.Users.length,.sl 3 y1.1.Owners.length,I y31.1,B y1.1.Approve]] rfl ?_
      refine go_ops hΓ 2 rfl ?_
      refine cv_here ?_
      obtain rfl:=oSi h32
      exact ⟨⟨rfl,rfl,trivial⟩,[],rfl,.inl rfl⟩
  ·have h33:=cF hq5 hb
   refine go hΓ 1 rfl ?_
   refine cv_here ?_
   obtain rfl:=oSi h33
   exact ⟨⟨rfl,rfl,trivial⟩,[],rfl,.inl rfl⟩
 ·refine go hΓ 4 rfl ?_
  refine eo_shr 2 [49] _ [.box 25 (fQ q5.1),.box 29 [.d (Sl eS []),.d (Sl Kgj []),I 0,B false],.dead,rO 155 2 Kgj q5.2.2.1,.box 29 [.d (Sl eS q5.2.1),.sl 3 q5.2.2.1.length,I q5.2.2.2,B y1.1.Approve]] rfl rfl rfl (nBe rfl) ?_
  refine eo_shr 3 [49] _ [.box 25 (fQ q5.1),.box 29 [.d (Sl eS []),.d (Sl Kgj []),I 0,B false],.dead,.dead,.box 29 [.d (Sl eS q5.2.1),.d (Sl Kgj q5.2.2.1),I q5.2.2.2,B y1.1.Approve]] rfl rfl rfl (nBe rfl) ?_
  refine eo_store hΓ rfl rfl rfl rfl rfl rfl rfl rfl (nBe rfl) ?_
  refine eo_hp [.box 25 (fQ q5.1),.box 29 [.d (Sl eS q5.2.1),.d (Sl Kgj q5.2.2.1),I q5.2.2.2,B y1.1.Approve],.dead,.dead,.box 29 [.d (Sl eS q5.2.1),.d (Sl Kgj q5.2.2.1),I q5.2.2.2,B y1.1.Approve]] rfl ?_
  refine go_ops hΓ 3 rfl ?_
  obtain rfl:=oSi h6
  exact fin_objs hΓ [_,_,_,_] (.inr rfl) rfl rfl rfl rfl (.inr ⟨HB.mk rfl,rfl⟩)
theorem Khd {s:Kay} {r:Str×Kay} (h:Kbv s=some r):EC Tryz.prog 21 [.ptr 0 0] [.box 25 (fQ s)] fun g hp'=>g=S r.1∧hp'=[.box 25 (fQ r.2)]:=by
 refine ec_enter (Fr.of 0 _) Tryz.func21 rfl (Fr.of_ok _) (nBe rfl) fun _=>?_
 refine go_in ?_
 unfold Kbv at h
 refine go hΓ 8 rfl ?_
 refine eo_litT hΓ (enc:=eS) [[97,110,110],[97,110,110],[97,110,110],[98,111,98],[99,105,100],[122,101,100]] rfl rfl rfl rfl rfl rfl rfl rfl rfl rfl rfl rfl (nBe rfl) ?_
 obtain ⟨y1,hy1,h2⟩:=bi_ok h
 refine eo_callF [0] (S y1.1) [.box 25 (fQ y1.2)] (callable Tryz.func22 rfl rfl) (Khb hy1) rfl (nBe rfl) rfl rfl rfl rfl rfl rfl rfl rfl rfl rfl ?_
 refine go_ops hΓ 4 rfl ?_
 obtain rfl:=oSi h2
 exact fin_objs hΓ [] (.inr rfl) rfl rfl rfl rfl (.inl rfl)
theorem Khe {s:Kay} {r:(List Str)×Kay} (h:Kbw s=some r):EC Tryz.prog 84 [.ptr 0 0] [.box 25 (fQ s)] fun g hp'=>g=.d (Sl eS r.1)∧hp'=[.box 25 (fQ r.2)]:=by
 refine ec_enter (Fr.of 0 _) Tryz.func84 rfl (Fr.of_ok _) (nBe rfl) fun _=>?_
 refine go_in ?_
 unfold Kbw at h
 refine go hΓ 7 rfl ?_
 refine eo_litT hΓ (enc:=eS) [[119,101,98]] rfl rfl rfl rfl rfl rfl rfl rfl rfl rfl rfl rfl (nBe rfl) ?_
 refine eo_litT hΓ (enc:=eS) [[119,101,98]] rfl rfl rfl rfl rfl rfl rfl rfl rfl rfl rfl rfl (nBe rfl) ?_
 refine eo_litT hΓ (enc:=eS) [[100,98]] rfl rfl rfl rfl rfl rfl rfl rfl rfl rfl rfl rfl (nBe rfl) ?_
 refine eo_litT hΓ (enc:=eS) [[100,98],[119,101,98]] rfl rfl rfl rfl rfl rfl rfl rfl rfl rfl rfl rfl (nBe rfl) ?_
 refine eo_litT hΓ (enc:=eS) [[110,111,110,101]] rfl rfl rfl rfl rfl rfl rfl rfl rfl rfl rfl rfl (nBe rfl) ?_
 refine eo_litT hΓ (enc:=(eL eS)) [[],[[119,101,98]],[[119,101,98]],[[100,98]],[[100,98],[119,101,98]],[[110,111,110,101]]] rfl rfl rfl rfl rfl rfl rfl rfl rfl rfl rfl rfl (nBe rfl) ?_
 obtain ⟨y1,hy1,h2⟩:=bi_ok h
 refine go_ops hΓ 1 rfl ?_
 refine eo_callF [0] (I y1.1) [.box 25 (fQ y1.2)] (callable Tryz.func26 rfl rfl) (Kgw hy1) rfl (nBe rfl) rfl rfl rfl rfl rfl rfl rfl rfl rfl rfl ?_
 obtain ⟨x3,hx3,h4⟩:=bi_ok h2
 refine eo_o rfl (op_elemZ hΓ (enc:=(eL eS)) hx3 rfl rfl rfl rfl rfl (fun _=>rfl)) ?_
 refine go_ops hΓ 5 rfl ?_
 obtain rfl:=oSi h4
 exact fin_objs hΓ [] (.inr rfl) rfl rfl rfl rfl (.inl rfl)
set_option maxHeartbeats 8000000 in
theorem Khf {s:Kay} {v_at:Int} {r:Kbb×Kay} (h:Kbx s v_at=some r):EC Tryz.prog 12 [.ptr 0 0,I v_at] [.box 25 (fQ s)] fun g hp'=>g=.agg (fS r.1)∧hp'=[.box 25 (fQ r.2)]:=by
 refine ec_enter (Fr.of 0 _) Tryz.func12 rfl (Fr.of_ok _) (nBe rfl) fun _=>?_
 refine go_in ?_
 unfold Kbx at h
 refine go hΓ 2 rfl ?_
 refine eo_alloc hΓ rfl rfl rfl (nBe rfl) ?_
 refine go_ops hΓ 6 rfl ?_
 refine eo_litT hΓ (enc:=eS) [[115,49],[115,49],[115,50]] rfl rfl rfl rfl rfl rfl rfl rfl rfl rfl rfl rfl (nBe rfl) ?_
 obtain ⟨y1,hy1,h2⟩:=bi_ok h
 refine eo_callF [0] (S y1.1) [.box 25 (fQ y1.2),.box 37 [I 0,S [],I 0,I 0,S [],S [],S [],S [],S [],.d (Sl eS []),I 0,I 0,B false]] (callable Tryz.func22 rfl rfl) (Khb hy1) rfl (nBe rfl) rfl rfl rfl rfl rfl rfl rfl rfl rfl rfl ?_
 refine go_ops hΓ 1 rfl ?_
 refine eo_litT hΓ (enc:=(eN .i64)) [1,2,3,3,3,3,3,4,5,5,6,7,7,8,9] rfl rfl rfl rfl rfl rfl rfl rfl rfl rfl rfl rfl (nBe rfl) ?_
 obtain ⟨y3,hy3,h4⟩:=bi_ok h2
 refine eo_callF [0] (I y3.1) [.box 25 (fQ y3.2),.box 37 [I 0,S [],I 0,I 0,S [],S [],S [],S [],S [],.d (Sl eS []),I 0,I 0,B false]] (callable Tryz.func13 rfl rfl) (Kgy hy3) rfl (nBe rfl) rfl rfl rfl rfl rfl rfl rfl rfl rfl rfl ?_
 obtain ⟨y5,hy5,h6⟩:=bi_ok h4
 refine go_ops hΓ 1 rfl ?_
 refine eo_callF [0] (S y5.1) [.box 25 (fQ y5.2),.box 37 [I 0,S [],I 0,I 0,S [],S [],S [],S [],S [],.d (Sl eS []),I 0,I 0,B false]] (callable Tryz.func21 rfl rfl) (Khd hy5) rfl (nBe rfl) rfl rfl rfl rfl rfl rfl rfl rfl rfl rfl ?_
 refine eo_build hΓ (gs:=[I v_at,S y1.1,I 0,I y3.1,S y5.1,S [],S [],S [],S [],.d (Sl eS []),I 0,I 0,B false]) rfl rfl rfl rfl rfl rfl rfl ?_
 refine eo_alloc hΓ rfl rfl rfl (nBe rfl) ?_
 refine eo_store hΓ rfl rfl rfl rfl rfl rfl rfl rfl (nBe rfl) ?_
 refine eo_hp [.box 25 (fQ y5.2),.box 37 [I 0,S [],I 0,I 0,S [],S [],S [],S [],S [],.d (Sl eS []),I 0,I 0,B false],.box 37 [I v_at,S y1.1,I 0,I y3.1,S y5.1,S [],S [],S [],S [],.d (Sl eS []),I 0,I 0,B false]] rfl ?_
 refine go_ops hΓ 5 rfl ?_
 refine eo_litT hΓ (enc:=eS) [[110,97],[110,97],[110,98],[110,98],[110,99],[110,100]] rfl rfl rfl rfl rfl rfl rfl rfl rfl rfl rfl rfl (nBe rfl) ?_
 obtain ⟨y7,hy7,h8⟩:=bi_ok h6
 refine eo_callF [0] (S y7.1) [.box 25 (fQ y7.2),.box 37 [I 0,S [],I 0,I 0,S [],S [],S [],S [],S [],.d (Sl eS []),I 0,I 0,B false],.box 37 [I v_at,S y1.1,I 0,I y3.1,S y5.1,S [],S [],S [],S [],.d (Sl eS []),I 0,I 0,B false]] (callable Tryz.func22 rfl rfl) (Khb hy7) rfl (nBe rfl) rfl rfl rfl rfl rfl rfl rfl rfl rfl rfl ?_
 refine go_ops hΓ 6 rfl ?_
 refine eo_litT hΓ (enc:=eS) [[107,49],[107,49],[107,50]] rfl rfl rfl rfl rfl rfl rfl rfl rfl rfl rfl rfl (nBe rfl) ?_
 obtain ⟨y9,hy9,h10⟩:=bi_ok h8
 refine eo_callF [0] (S y9.1) [.box 25 (fQ y9.2),.box 37 [I 0,S [],I 0,I 0,S [],S [],S [],S [],S [],.d (Sl eS []),I 0,I 0,B false],.box 37 [I v_at,S y1.1,I 0,I y3.1,S y5.1,S [],S [],S [],S [],.d (Sl eS []),I 0,I 0,B false]] (callable Tryz.func22 rfl rfl) (Khb hy9) rfl (nBe rfl) rfl rfl rfl rfl rfl rfl rfl rfl rfl rfl ?_
 refine go_ops hΓ 6 rfl ?_
 refine eo_litT hΓ (enc:=eS) [[48,97],[48,98],[48,99],[48,100],[48,101],[49,97],[49,98]] rfl rfl rfl rfl rfl rfl rfl rfl rfl rfl rfl rfl (nBe rfl) ?_
 obtain ⟨y11,hy11,h12⟩:=bi_ok h10
 refine eo_callF [0] (S y11.1) [.box 25 (fQ y11.2),.box 37 [I 0,S [],I 0,I 0,S [],S [],S [],S [],S [],.d (Sl eS []),I 0,I 0,B false],.box 37 [I v_at,S y1.1,I 0,I y3.1,S y5.1,S [],S [],S [],S [],.d (Sl eS []),I 0,I 0,B false]] (callable Tryz.func22 rfl rfl) (Khb hy11) rfl (nBe rfl) rfl rfl rfl rfl rfl rfl rfl rfl rfl rfl ?_
 obtain ⟨q13,hq13,h14⟩:=bi_ok h12
 refine go_ops hΓ 10 rfl ?_
 refine j_cutNZ [(4,.ptr 1 0),(5,.ptr 2 0)] [.box 25 (fQ q13.1),.box 37 [I 0,S [],I 0,I 0,S [],S [],S [],S [],S [],.d (Sl eS []),I 0,I 0,B false],.box 37 (fS q13.2)] ?_ ?_
 ·refine go hΓ 7 rfl ?_
  refine j_cond rfl (fun hb=>?_) (fun hb=>?_)
  ·have h15:=cT hq13 hb
   obtain ⟨y16,hy16,h17⟩:=bi_ok h15
   refine go hΓ 3 rfl ?_
   refine eo_callF [0] (.d (Sl eS y16.1)) [.box 25 (fQ y16.2),.box 37 [I 0,S [],I 0,I 0,S [],S [],S [],S [],S [],.d (Sl eS []),I 0,I 0,B false],.box 37 [I v_at,S y1.1,I 0,I y3.1,S y5.1,S [],S [],S [],S [],.d (Sl eS []),I 0,I 0,B false]] (callable Tryz.func84 rfl rfl) (Khe hy16) rfl (nBe rfl) rfl rfl rfl rfl rfl rfl rfl rfl rfl rfl ?_
   refine go_ops hΓ 2 rfl ?_
   refine eo_litT hΓ (enc:=(eN .i64)) [0,5,50,200] rfl rfl rfl rfl rfl rfl rfl rfl rfl rfl rfl rfl (nBe rfl) ?_
   obtain ⟨y18,hy18,h19⟩:=bi_ok h17
   refine eo_callF [0] (I y18.1) [.box 25 (fQ y18.2),.box 37 [I 0,S [],I 0,I 0,S [],S [],S [],S [],S [],.d (Sl eS []),I 0,I 0,B false],.box 37 [I v_at,S y1.1,I 0,I y3.1,S y5.1,S [],S [],S [],S [],.d (Sl eS []),I 0,I 0,B false]] (callable Tryz.func13 rfl rfl) (Kgy hy18) rfl (nBe rfl) rfl rfl rfl rfl rfl rfl rfl rfl rfl rfl ?_
   refine go_ops hΓ 2 rfl ?_
   refine eo_litT hΓ (enc:=(eN .i64)) [0,1,2,1000,1001] rfl rfl rfl rfl rfl rfl rfl rfl rfl rfl rfl rfl (nBe rfl) ?_
   obtain ⟨y20,hy20,h21⟩:=bi_ok h19
   refine eo_callF [0] (I y20.1) [.box 25 (fQ y20.2),.box 37 [I 0,S [],I 0,I 0,S [],S [],S [],S [],S [],.d (Sl eS []),I 0,I 0,B false],.box 37 [I v_at,S y1.1,I 0,I y3.1,S y5.1,S [],S [],S [],S [],.d (Sl eS []),I 0,I 0,B false]] (callable Tryz.func13 rfl rfl) (Kgy hy20) rfl (nBe rfl) rfl rfl rfl rfl rfl rfl rfl rfl rfl rfl ?_
   obtain ⟨y22,hy22,h23⟩:=bi_ok h21
   refine go_ops hΓ 1 rfl ?_
   refine eo_callF [0] (B y22.1) [.box 25 (fQ y22.2),.box 37 [I 0,S [],I 0,I 0,S [],S [],S [],S [],S [],.d (Sl eS []),I 0,I 0,B false],.box 37 [I v_at,S y1.1,I 0,I y3.1,S y5.1,S [],S [],S [],S [],.d (Sl eS []),I 0,I 0,B false]] (callable Tryz.func24 rfl rfl) (Kgz hy22) rfl (nBe rfl) rfl rfl rfl rfl rfl rfl rfl rfl rfl rfl ?_
   refine go_ops hΓ 1 rfl ?_
   refine eo_store hΓ rfl rfl rfl rfl rfl rfl rfl rfl (nBe rfl) ?_
   refine eo_hp [.box 25 (fQ y22.2),.box 37 [I 0,S [],I 0,I 0,S [],S [],S [],S [],S [],.d (Sl eS []),I 0,I 0,B false],.box 37 [I v_at,S y1.1,I 0,I y3.1,S y5.1,S [],S y9.1,S [],S [],.d (Sl eS []),I 0,I 0,B false]] rfl ?_
   refine go_ops hΓ 1 rfl ?_
   refine eo_store hΓ rfl rfl rfl rfl rfl rfl rfl rfl (nBe rfl) ?_
   refine eo_hp [.box 25 (fQ y22.2),.box 37 [I 0,S [],I 0,I 0,S [],S [],S [],S [],S [],.d (Sl eS []),I 0,I 0,B false],.box 37 [I v_at,S y1.1,I 0,I y3.1,S y5.1,S [],S y9.1,S [],S [],.d (Sl eS y16.1),I 0,I 0,B false]] rfl ?_
   refine go_ops hΓ 1 rfl ?_
   refine eo_store hΓ rfl rfl rfl rfl rfl rfl rfl rfl (nBe rfl) ?_
   refine eo_hp [.box 25 (fQ y22.2),.box 37 [I 0,S [],I 0,I 0,S [],S [],S [],S [],S [],.d (Sl eS []),I 0,I 0,B false],.box 37 [I v_at,S y1.1,I 0,I y3.1,S y5.1,S [],S y9.1,S [],S [],.d (Sl eS y16.1),I (wi (v_at+y18.1)),I 0,B false]] rfl ?_
   refine go_ops hΓ 1 rfl ?_
   refine eo_store hΓ rfl rfl rfl rfl rfl rfl rfl rfl (nBe rfl) ?_
   refine eo_hp [.box 25 (fQ y22.2),.box 37 [I 0,S [],I 0,I 0,S [],S [],S [],S [],S [],.d (Sl eS []),I 0,I 0,B false],.box 37 [I v_at,S y1.1,I 0,I y3.1,S y5.1,S [],S y9.1,S [],S [],.d (Sl eS y16.1),I (wi (v_at+y18.1)),I y20.1,B false]] rfl ?_
   refine go_ops hΓ 1 rfl ?_
   refine eo_store hΓ rfl rfl rfl rfl rfl rfl rfl rfl (nBe rfl) ?_
   refine eo_hp [.box 25 (fQ y22.2),.box 37 [I 0,S [],I 0,I 0,S [],S [],S [],S [],S [],.d (Sl eS []),I 0,I 0,B false],.box 37 [I v_at,S y1.1,I 0,I y3.1,S y5.1,S [],S y9.1,S [],S [],.d (Sl eS y16.1),I (wi (v_at+y18.1)),I y20.1,B y22.1]] rfl ?_
   refine go_ops hΓ 2 rfl ?_
   obtain rfl:=oSi h23
   exact ⟨⟨rfl,rfl,trivial⟩,[],rfl,.inl rfl⟩
  ·have h24:=cF hq13 hb
   refine go hΓ 6 rfl ?_
   refine j_cond rfl (fun hb=>?_) (fun hb=>?_)
   ·have h25:=cT h24 hb
    refine go hΓ 3 rfl ?_
    refine eo_store hΓ rfl rfl rfl rfl rfl rfl rfl rfl (nBe rfl) ?_
    refine eo_hp [.box 25 (fQ y11.2),.box 37 [I 0,S [],I 0,I 0,S [],S [],S [],S [],S [],.d (Sl eS []),I 0,I 0,B false],.box 37 [I v_at,S y1.1,I 0,I y3.1,S y5.1,S [],S y9.1,S [],S [],.d (Sl eS []),I 0,I 0,B false]] rfl ?_
    refine go_ops hΓ 2 rfl ?_
    obtain rfl:=oSi h25
    exact ⟨⟨rfl,rfl,trivial⟩,[],rfl,.inl rfl⟩
   ·have h26:=cF h24 hb
    refine go hΓ 6 rfl ?_
    refine j_cond rfl (fun hb=>?_) (fun hb=>?_)
    ·have h27:=cT h26 hb
     refine go hΓ 6 rfl ?_
     refine eo_litT hΓ (enc:=eS) [y7.1,[98,111,120],[98,111,120],[119,101,98]] rfl rfl rfl rfl rfl rfl rfl rfl rfl rfl rfl rfl (nBe rfl) ?_
     obtain ⟨y28,hy28,h29⟩:=bi_ok h27
     refine eo_callF [0] (S y28.1) [.box 25 (fQ y28.2),.box 37 [I 0,S [],I 0,I 0,S [],S [],S [],S [],S [],.d (Sl eS []),I 0,I 0,B false],.box 37 [I v_at,S y1.1,I 0,I y3.1,S y5.1,S [],S [],S [],S [],.d (Sl eS []),I 0,I 0,B false]] (callable Tryz.func22 rfl rfl) (Khb hy28) rfl (nBe rfl) rfl rfl rfl rfl rfl rfl rfl rfl rfl rfl ?_
     refine go_ops hΓ 1 rfl ?_
     refine eo_store hΓ rfl rfl rfl rfl rfl rfl rfl rfl (nBe rfl) ?_
     refine eo_hp [.box 25 (fQ y28.2),.box 37 [I 0,S [],I 0,I 0,S [],S [],S [],S [],S [],.d (Sl eS []),I 0,I 0,B false],.box 37 [I v_at,S y1.1,I 0,I y3.1,S y5.1,S y7.1,S [],S [],S [],.d (Sl eS []),I 0,I 0,B false]] rfl ?_
     refine go_ops hΓ 1 rfl ?_
     refine eo_store hΓ rfl rfl rfl rfl rfl rfl rfl rfl (nBe rfl) ?_
     refine eo_hp [.box 25 (fQ y28.2),.box 37 [I 0,S [],I 0,I 0,S [],S [],S [],S [],S [],.d (Sl eS []),I 0,I 0,B false],.box 37 [I v_at,S y1.1,I 0,I y3.1,S y5.1,S y7.1,S [],S y11.1,S [],.d (Sl eS []),I 0,I 0,B false]] rfl ?_
     refine go_ops hΓ 1 rfl ?_
     refine eo_store hΓ rfl rfl rfl rfl rfl rfl rfl rfl (nBe rfl) ?_
     refine eo_hp [.box 25 (fQ y28.2),.box 37 [I 0,S [],I 0,I 0,S [],S [],S [],S [],S [],.d (Sl eS []),I 0,I 0,B false],.box 37 [I v_at,S y1.1,I 0,I y3.1,S y5.1,S y7.1,S [],S y11.1,S y28.1,.d (Sl eS []),I 0,I 0,B false]] rfl ?_
     obtain ⟨y30,hy30,h31⟩:=bi_ok h29
     refine go_ops hΓ 5 rfl ?_
     refine eo_callF [0] (B y30.1) [.box 25 (fQ y30.2),.box 37 [I 0,S [],I 0,I 0,S [],S [],S [],S [],S [],.d (Sl eS []),I 0,I 0,B false],.box 37 [I v_at,S y1.1,I 0,I y3.1,S y5.1,S y7.1,S [],S y11.1,S y28.1,.d (Sl eS []),I 0,I 0,B false]] (callable Tryz.func24 rfl rfl) (Kgz hy30) rfl (nBe rfl) rfl rfl rfl rfl rfl rfl rfl rfl rfl rfl ?_
     refine go_ops hΓ 2 rfl ?_
     refine j_cond rfl (fun hb=>?_) (fun hb=>?_)
     ·have h32:=cT h31 hb
      refine go hΓ 4 rfl ?_
      refine eo_store hΓ rfl rfl rfl rfl rfl rfl rfl rfl (nBe rfl) ?_
      refine eo_hp [.box 25 (fQ y30.2),.box 37 [I 0,S [],I 0,I 0,S [],S [],S [],S [],S [],.d (Sl eS []),I 0,I 0,B false],.box 37 [I v_at,S y1.1,I 0,I y3.1,S y5.1,S y7.1,S y9.1,S y11.1,S y28.1,.d (Sl eS []),I 0,I 0,B false]] rfl ?_
      obtain ⟨y33,hy33,h34⟩:=bi_ok h32
      refine go_ops hΓ 5 rfl ?_
      refine eo_callF [0] (B y33.1) [.box 25 (fQ y33.2),.box 37 [I 0,S [],I 0,I 0,S [],S [],S [],S [],S [],.d (Sl eS []),I 0,I 0,B false],.box 37 [I v_at,S y1.1,I 0,I y3.1,S y5.1,S y7.1,S y9.1,S y11.1,S y28.1,.d (Sl eS []),I 0,I 0,B false]] (callable Tryz.func24 rfl rfl) (Kgz hy33) rfl (nBe rfl) rfl rfl rfl rfl rfl rfl rfl rfl rfl rfl ?_
      refine go_ops hΓ 3 rfl ?_
      refine j_cond rfl (fun hb=>?_) (fun hb=>?_)
      ·have h35:=cT h34 hb
       refine go hΓ 2 rfl ?_
       refine eo_store hΓ rfl rfl rfl rfl rfl rfl rfl rfl (nBe rfl) ?_
       refine eo_hp [.box 25 (fQ y33.2),.box 37 [I 0,S [],I 0,I 0,S [],S [],S [],S [],S [],.d (Sl eS []),I 0,I 0,B false],.box 37 [I v_at,S y1.1,I 0,I y3.1,S [],S y7.1,S y9.1,S y11.1,S y28.1,.d (Sl eS []),I 0,I 0,B false]] rfl ?_
       refine go_ops hΓ 2 rfl ?_
       obtain rfl:=oSi h35
       exact ⟨⟨rfl,rfl,trivial⟩,[],rfl,.inl rfl⟩
      ·have h36:=cF h34 hb
       refine go hΓ 2 rfl ?_
       obtain rfl:=oSi h36
       exact ⟨⟨rfl,rfl,trivial⟩,[],rfl,.inl rfl⟩
     ·have h37:=cF h31 hb
      refine go hΓ 2 rfl ?_
      obtain rfl:=oSi h37
      exact ⟨⟨rfl,rfl,trivial⟩,[],rfl,.inl rfl⟩
    ·have h38:=cF h26 hb
     refine go hΓ 6 rfl ?_
     refine j_cond rfl (fun hb=>?_) (fun hb=>?_)
     ·have h39:=cT h38 hb
      refine go hΓ 4 rfl ?_
      refine eo_store hΓ rfl rfl rfl rfl rfl rfl rfl rfl (nBe rfl) ?_
      refine eo_hp [.box 25 (fQ y11.2),.box 37 [I 0,S [],I 0,I 0,S [],S [],S [],S [],S [],.d (Sl eS []),I 0,I 0,B false],.box 37 [I v_at,S y1.1,I 0,I y3.1,S y5.1,S y7.1,S [],S [],S [],.d (Sl eS []),I 0,I 0,B false]] rfl ?_
      refine go_ops hΓ 1 rfl ?_
      refine eo_store hΓ rfl rfl rfl rfl rfl rfl rfl rfl (nBe rfl) ?_
      refine eo_hp [.box 25 (fQ y11.2),.box 37 [I 0,S [],I 0,I 0,S [],S [],S [],S [],S [],.d (Sl eS []),I 0,I 0,B false],.box 37 [I v_at,S y1.1,I 0,I y3.1,S y5.1,S y7.1,S [],S y11.1,S [],.d (Sl eS []),I 0,I 0,B false]] rfl ?_
      refine go_ops hΓ 2 rfl ?_
      obtain rfl:=oSi h39
      exact ⟨⟨rfl,rfl,trivial⟩,[],rfl,.inl rfl⟩
     ·have h40:=cF h38 hb
      refine go hΓ 6 rfl ?_
      refine j_cond rfl (fun hb=>?_) (fun hb=>?_)
      ·have h41:=cT h40 hb
       refine go hΓ 3 rfl ?_
       refine eo_litT hΓ (enc:=eS) [[98,111,120],[119,101,98],[109,97,99]] rfl rfl rfl rfl rfl rfl rfl rfl rfl rfl rfl rfl (nBe rfl) ?_
       obtain ⟨y42,hy42,h43⟩:=bi_ok h41
       refine eo_callF [0] (S y42.1) [.box 25 (fQ y42.2),.box 37 [I 0,S [],I 0,I 0,S [],S [],S [],S [],S [],.d (Sl eS []),I 0,I 0,B false],.box 37 [I v_at,S y1.1,I 0,I y3.1,S y5.1,S [],S [],S [],S [],.d (Sl eS []),I 0,I 0,B false]] (callable Tryz.func22 rfl rfl) (Khb hy42) rfl (nBe rfl) rfl rfl rfl rfl rfl rfl rfl rfl rfl rfl ?_
       refine go_ops hΓ 1 rfl ?_
       refine eo_store hΓ rfl rfl rfl rfl rfl rfl rfl rfl (nBe rfl) ?_
       refine eo_hp [.box 25 (fQ y42.2),.box 37 [I 0,S [],I 0,I 0,S [],S [],S [],S [],S [],.d (Sl eS []),I 0,I 0,B false],.box 37 [I v_at,S y1.1,I 0,I y3.1,S y5.1,S y7.1,S [],S [],S [],.d (Sl eS []),I 0,I 0,B false]] rfl ?_
       refine go_ops hΓ 1 rfl ?_
       refine eo_store hΓ rfl rfl rfl rfl rfl rfl rfl rfl (nBe rfl) ?_
       refine eo_hp [.box 25 (fQ y42.2),.box 37 [I 0,S [],I 0,I 0,S [],S [],S [],S [],S [],.d (Sl eS []),I 0,I 0,B false],.box 37 [I v_at,S y1.1,I 0,I y3.1,S y5.1,S y7.1,S [],S [],S y42.1,.d (Sl eS []),I 0,I 0,B false]] rfl ?_
       refine go_ops hΓ 2 rfl ?_
       obtain rfl:=oSi h43
       exact ⟨⟨rfl,rfl,trivial⟩,[],rfl,.inl rfl⟩
      ·have h44:=cF h40 hb
       refine go hΓ 6 rfl ?_
       refine j_cond rfl (fun hb=>?_) (fun hb=>?_)
       ·have h45:=cT h44 hb
        obtain ⟨y46,hy46,h47⟩:=bi_ok h45
        refine go hΓ 3 rfl ?_
        refine eo_callF [0] (.d (Sl eS y46.1)) [.box 25 (fQ y46.2),.box 37 [I 0,S [],I 0,I 0,S [],S [],S [],S [],S [],.d (Sl eS []),I 0,I 0,B false],.box 37 [I v_at,S y1.1,I 0,I y3.1,S y5.1,S [],S [],S [],S [],.d (Sl eS []),I 0,I 0,B false]] (callable Tryz.func84 rfl rfl) (Khe hy46) rfl (nBe rfl) rfl rfl rfl rfl rfl rfl rfl rfl rfl rfl ?_
        refine go_ops hΓ 1 rfl ?_
        refine eo_store hΓ rfl rfl rfl rfl rfl rfl rfl rfl (nBe rfl) ?_
        refine eo_hp [.box 25 (fQ y46.2),.box 37 [I 0,S [],I 0,I 0,S [],S [],S [],S [],S [],.d (Sl eS []),I 0,I 0,B false],.box 37 [I v_at,S y1.1,I 0,I y3.1,S y5.1,S y7.1,S [],S [],S [],.d (Sl eS []),I 0,I 0,B false]] rfl ?_
        refine go_ops hΓ 1 rfl ?_
        refine eo_store hΓ rfl rfl rfl rfl rfl rfl rfl rfl (nBe rfl) ?_
        refine eo_hp [.box 25 (fQ y46.2),.box 37 [I 0,S [],I 0,I 0,S [],S [],S [],S [],S [],.d (Sl eS []),I 0,I 0,B false],.box 37 [I v_at,S y1.1,I 0,I y3.1,S y5.1,S y7.1,S [],S [],S [],.d (Sl eS y46.1),I 0,I 0,B false]] rfl ?_
        refine go_ops hΓ 2 rfl ?_
        obtain rfl:=oSi h47
        exact ⟨⟨rfl,rfl,trivial⟩,[],rfl,.inl rfl⟩
       ·have h48:=cF h44 hb
        refine go hΓ 3 rfl ?_
        refine eo_store hΓ rfl rfl rfl rfl rfl rfl rfl rfl (nBe rfl) ?_
        refine eo_hp [.box 25 (fQ y11.2),.box 37 [I 0,S [],I 0,I 0,S [],S [],S [],S [],S [],.d (Sl eS []),I 0,I 0,B false],.box 37 [I v_at,S y1.1,I 0,I y3.1,S y5.1,S y7.1,S [],S [],S [],.d (Sl eS []),I 0,I 0,B false]] rfl ?_
        refine go_ops hΓ 2 rfl ?_
        obtain rfl:=oSi h48
        exact ⟨⟨rfl,rfl,trivial⟩,[],rfl,.inl rfl⟩
 ·refine go hΓ 4 rfl ?_
  refine eo_store hΓ rfl rfl rfl rfl rfl rfl rfl rfl (nBe rfl) ?_
  refine eo_hp [.box 25 (fQ q13.1),.box 37 (fS q13.2),.box 37 (fS q13.2)] rfl ?_
  refine go_ops hΓ 3 rfl ?_
  obtain rfl:=oSi h14
  exact fin_objs hΓ [_,_] (.inr rfl) rfl rfl rfl rfl (.inr ⟨HB.mk rfl,rfl⟩)
theorem Khg {x:Int} {r:Bool} (h:Kby x=some r):Pure Tryz.prog 251 [I x] (B r):=by
 refine Pure.enter (Fr.of 0 _) Tryz.func251 rfl (Fr.of_ok _) rfl rfl ?_
 refine go_in ?_
 unfold Kby at h
 refine go hΓ 14 rfl ?_
 obtain rfl:=oSi h
 exact fin_pure hΓ (.inr rfl) rfl rfl
theorem Khh {x:Int} {y:Int} {r:Int} (h:Kbz x y=some r):Pure Tryz.prog 167 [I x,I y] (I r):=by
 refine Pure.enter (Fr.of 0 _) Tryz.func167 rfl (Fr.of_ok _) rfl rfl ?_
 refine go_in ?_
 unfold Kbz at h
 obtain ⟨y1,hy1,h2⟩:=bi_ok h
 refine go hΓ 8 rfl ?_
 refine eo_callP (callable Tryz.func251 rfl rfl) (Khg hy1) rfl (nBe rfl) rfl rfl rfl rfl rfl ?_
 obtain ⟨y3,hy3,h4⟩:=bi_ok h2
 refine go_ops hΓ 6 rfl ?_
 refine eo_callP (callable Tryz.func251 rfl rfl) (Khg hy3) rfl (nBe rfl) rfl rfl rfl rfl rfl ?_
 refine go_ops hΓ 9 rfl ?_
 refine j_cond rfl (fun hb=>?_) (fun hb=>?_)
 ·have h5:=cT h4 hb
  refine go hΓ 6 rfl ?_
  refine j_cond rfl (fun hb=>?_) (fun hb=>?_)
  ·have h6:=cT h5 hb
   refine go hΓ 8 rfl ?_
   obtain rfl:=oSi h6
   exact fin_pure hΓ (.inr rfl) rfl rfl
  ·have h7:=cF h5 hb
   refine go hΓ 9 rfl ?_
   obtain rfl:=oSi h7
   exact fin_pure hΓ (.inr rfl) rfl rfl
 ·have h8:=cF h4 hb
  refine go hΓ 8 rfl ?_
  refine j_cond rfl (fun hb=>?_) (fun hb=>?_)
  ·have h9:=cT h8 hb
   refine go hΓ 7 rfl ?_
   obtain rfl:=oSi h9
   exact fin_pure hΓ (.inr rfl) rfl rfl
  ·have h10:=cF h8 hb
   refine go hΓ 10 rfl ?_
   refine j_cond rfl (fun hb=>?_) (fun hb=>?_)
   ·have h11:=cT h10 hb
    refine go hΓ 7 rfl ?_
    obtain rfl:=oSi h11
    exact fin_pure hΓ (.inr rfl) rfl rfl
   ·have h12:=cF h10 hb
    refine go hΓ 10 rfl ?_
    refine j_cond rfl (fun hb=>?_) (fun hb=>?_)
    ·have h13:=cT h12 hb
     refine go hΓ 7 rfl ?_
     obtain rfl:=oSi h13
     exact fin_pure hΓ (.inr rfl) rfl rfl
    ·have h14:=cF h12 hb
     refine go hΓ 8 rfl ?_
     obtain rfl:=oSi h14
     exact fin_pure hΓ (.inr rfl) rfl rfl
theorem Khi {vals:List Int} {r:Int} (h:Kca vals=some r):Pure Tryz.prog 196 [.d (Sl (eN .i64) vals)] (I r):=by
 refine Pure.enter (Fr.of 0 _) Tryz.func196 rfl (Fr.of_ok _) rfl rfl ?_
 refine go_in ?_
 unfold Kca at h
 refine go hΓ 18 rfl ?_
 obtain ⟨q4,hq4,h5⟩:=bi_ok h
 refine j_bound 6 rfl fun hb7=>?_
 refine j_cutEZ (R:=fun a6=>q4=.go a6) (fun a6=>[(3,I 0)]) (fun a6=>[]) ?_ ?_
 ·refine go hΓ 1 rfl ?_
  refine j_range vals hq4 (fun i1 s2=>[(3,I 0),(6,.d (Sl (eN .i64) vals)),(7,I (vals.length:Int)),(8,I (i1:Int))]) (fun s2=>[]) ⟨⟨rfl,rfl,rfl,rfl,trivial⟩,[],rfl,.inl rfl⟩ (fun i1 x3 s2 y11 hx8 hlt hy9 hout10=>?_) (fun s2 hgo=>?_)
  ·refine go hΓ 6 rfl ?_
   refine j_condT rfl (decide_eq_true (Int.ofNat_lt.2 hlt)) ?_
   refine go hΓ 6 rfl ?_
   refine eo_o rfl (op_elemZ hΓ (enc:=(eN .i64)) (getZ_nat hx8) rfl rfl rfl rfl rfl (fun _=>rfl)) ?_
   refine go_ops hΓ 11 rfl ?_
   refine j_cond rfl (fun hb=>?_) (fun hb=>?_)
   ·have h12:=cT hy9 hb
    refine go hΓ 9 rfl ?_
    obtain ⟨v13,hv13,h14⟩:=bi_ok h12
    obtain rfl:=oSi h14
    obtain rfl:=hout10 _ rfl
    obtain rfl:=oSi h5
    refine go hΓ 4 rfl ?_
    obtain rfl:=oSi hv13
    exact fin_pure hΓ (.inr rfl) rfl rfl
   ·have h15:=cF hy9 hb
    refine go hΓ 7 rfl ?_
    obtain rfl:=oSi h15
    exact ⟨_,rfl,⟨⟨rfl,rfl,rfl,get_eq rfl (w64_succ (Nat.lt_of_lt_of_le hlt hb7)),trivial⟩,[],rfl,.inl rfl⟩⟩
  ·subst hgo
   refine go hΓ 6 rfl ?_
   refine j_condF rfl (decide_eq_false (Int.lt_irrefl _)) ?_
   refine go hΓ 4 rfl ?_
   exact ⟨_,rfl,⟨⟨rfl,trivial⟩,[],rfl,.inl rfl⟩⟩
 ·intro a6 ha
  subst ha
  replace h5:=goI_l h5
  refine go hΓ 8 rfl ?_
  obtain rfl:=oSi h5
  exact fin_pure hΓ (.inr rfl) rfl rfl
theorem Khj {a:Kbb} {b:Kbb} {r:Int} (h:Kcb a b=some r):Pure Tryz.prog 96 [.agg (fS a),.agg (fS b)] (I r):=by
 refine Pure.enter (Fr.of 0 _) Tryz.func96 rfl (Fr.of_ok _) rfl rfl ?_
 refine go_in ?_
 unfold Kcb at h
 refine go hΓ 2 rfl ?_
 refine eo_box rfl rfl rfl rfl (nBe rfl) ?_
 refine eo_box rfl rfl rfl rfl (nBe rfl) ?_
 refine go_ops hΓ 4 rfl ?_
 refine j_draw hmix (by kernel_rfl) ?_
 obtain ⟨y1,hy1,h2⟩:=bi_ok h
 refine go hΓ 4 rfl ?_
 refine gl_callP (callable Tryz.func167 rfl rfl) (Khh hy1) rfl rfl rfl rfl rfl rfl ?_
 obtain ⟨y3,hy3,h4⟩:=bi_ok h2
 refine go_draw hΓ 4 rfl ?_
 refine gl_callP (callable Tryz.func147 rfl rfl) (Kat hy3) rfl rfl rfl rfl rfl rfl ?_
 obtain ⟨y5,hy5,h6⟩:=bi_ok h4
 refine go_draw hΓ 4 rfl ?_
 refine gl_callP (callable Tryz.func167 rfl rfl) (Khh hy5) rfl rfl rfl rfl rfl rfl ?_
 refine gl_litT hΓ (enc:=(eN .i64)) [y1,y3,y5] rfl rfl rfl rfl rfl rfl rfl rfl rfl rfl rfl rfl ?_
 obtain ⟨y7,hy7,h8⟩:=bi_ok h6
 refine gl_callP (callable Tryz.func196 rfl rfl) (Khi hy7) rfl rfl rfl rfl rfl rfl ?_
 refine go_draw hΓ 4 rfl ?_
 obtain rfl:=oSi h8
 exact fin_pure hΓ (.inr rfl) rfl rfl
set_option maxHeartbeats 8000000 in
theorem Khk {k:Nat} {data:List Kbb} {a:Int} {b:Int} {r:List Kbb} (h:Kcc k data a b=some r):EC Tryz.prog 280 [.sl 0 data.length,I a,I b,.fn (.func 96) [] []] [rO 37 13 Kgl data] fun g hp'=>g=.tup []∧hp'=[rO 37 13 Kgl r]:=by
 refine ec_enter (Fr.of 0 _) Tryz.func280 rfl (Fr.of_ok _) (nBe rfl) fun _=>?_
 refine go_in ?_
 unfold Kcc at h
 refine go hΓ 7 rfl ?_
 obtain ⟨q4,hq4,h5⟩:=bi_ok h
 refine j_cutNZ [] [rO 37 13 Kgl q4] ?_ ?_
 ·refine go hΓ 1 rfl ?_
  refine j_loop hq4 (fun s2=>[(0,.sl 0 s2.1.length),(1,I a),(2,I b),(3,.fn (.func 96) [] []),(8,I s2.2)]) (fun s2=>[rO 37 13 Kgl s2.1]) ⟨⟨rfl,rfl,rfl,rfl,rfl,trivial⟩,[],rfl,.inl rfl⟩ (fun s2 y10 hy8 hout9=>?_)
  refine go hΓ 8 rfl ?_
  refine j_cond rfl (fun hb=>?_) (fun hb=>?_)
  ·have h11:=cT hy8 hb
   refine go hΓ 10 rfl ?_
   obtain ⟨q15,hq15,h16⟩:=bi_ok h11
   refine j_cutNZ [(0,.sl 0 q15.length),(1,I a),(2,I b),(3,.fn (.func 96) [] []),(8,I s2.2)] [rO 37 13 Kgl q15] ?_ ?_
   ·refine go hΓ 1 rfl ?_
    refine j_loop hq15 (fun s13=>[(0,.sl 0 s13.1.length),(1,I a),(2,I b),(3,.fn (.func 96) [] []),(8,I s2.2),(9,I s13.2)]) (fun s13=>[rO 37 13 Kgl s13.1]) ⟨⟨rfl,rfl,rfl,rfl,rfl,rfl,trivial⟩,[],rfl,.inl rfl⟩ (fun s13 y21 hy19 hout20=>?_)
    obtain ⟨q22,hq22,h23⟩:=bi_ok hy19
    refine go hΓ 2 rfl ?_
    refine j_cutNZ [(0,.sl 0 s13.1.length),(1,I a),(2,I b),(3,.fn (.func 96) [] []),(8,I s2.2),(9,I s13.2),(34,B q22)] [rO 37 13 Kgl s13.1] ?_ ?_
    ·refine j_draw hmix (by kernel_rfl) ?_
     refine go hΓ 4 rfl ?_
     refine gl_gsplit rfl rfl (fun hb=>?_) (fun hb=>?_)
     ·have h24:=cT hq22 hb
      obtain ⟨x25,hx25,h26⟩:=bi_ok h24
      have hj27:=getZ_at hx25
      refine go_draw hΓ 3 rfl ?_
      refine gl_og rfl rfl (op_elemRowZ hΓ hx25 rfl rfl rfl rfl rfl rfl) ?_
      refine gl_og rfl rfl (op_loadRowZ hΓ (enc:=Kgl) s13.2.toNat 0 hj27 rfl rfl rfl rfl (fun _=>rfl) (g:=.agg (fS x25)) rfl) ?_
      obtain ⟨x28,hx28,h29⟩:=bi_ok h26
      have hj30:=getZ_at hx28
      refine go_draw hΓ 3 rfl ?_
      refine gl_og rfl rfl (op_elemRowZ hΓ hx28 rfl rfl rfl rfl rfl rfl) ?_
      refine gl_og rfl rfl (op_loadRowZ hΓ (enc:=Kgl) ((wi (s13.2 - 1)).toNat) 0 hj30 rfl rfl rfl rfl (fun _=>rfl) (g:=.agg (fS x28)) rfl) ?_
      obtain ⟨y31,hy31,h32⟩:=bi_ok h29
      refine gl_callPg (callable Tryz.func96 rfl rfl) (Khj hy31) rfl rfl rfl rfl rfl rfl rfl ?_
      refine go_draw hΓ 3 rfl ?_
      obtain rfl:=oSi h32
      exact ⟨⟨rfl,rfl,rfl,rfl,rfl,rfl,rfl,trivial⟩,[],rfl,.inl rfl⟩
     ·have h33:=cF hq22 hb
      refine go_draw hΓ 14 rfl ?_
      obtain rfl:=oSi h33
      exact ⟨⟨rfl,rfl,rfl,rfl,rfl,rfl,rfl,trivial⟩,[],rfl,.inl rfl⟩
    ·refine go hΓ 1 rfl ?_
     refine j_cond rfl (fun hb=>?_) (fun hb=>?_)
     ·have h34:=cT h23 hb
      refine go hΓ 4 rfl ?_
      refine j_drawE [rO 37 13 Kgl s13.1] [9,13] [15,17] [15,17] hmix (by kernel_rfl) (by kernel_rfl) ⟨rfl,trivial⟩ (nBe rfl) ?_
      obtain ⟨x35,hx35,h36⟩:=bi_ok h34
      have hj37:=getZ_at hx35
      refine go_E hΓ 8 rfl ?_
      refine ge_q rfl (.inl rfl) (fun _ _=>qte_of_qt (qt_p (op_elemRowZ hΓ hx35 rfl rfl rfl rfl rfl rfl))) ?_
      refine ge_p rfl (fun hp hs=>op_loadRowZ hΓ (enc:=Kgl) ((wi (s13.2 - 1)).toNat) 0 hj37 rfl rfl rfl (hs 0 _ rfl rfl) (fun _=>rfl) (g:=.agg (fS x35)) rfl) rfl ?_
      obtain ⟨x38,hx38,h39⟩:=bi_ok h36
      have hj40:=getZ_at hx38
      refine go_E hΓ 2 rfl ?_
      refine ge_q rfl (.inl rfl) (fun _ _=>qte_of_qt (qt_p (op_elemRowZ hΓ hx38 rfl rfl rfl rfl rfl rfl))) ?_
      refine ge_p rfl (fun hp hs=>op_loadRowZ hΓ (enc:=Kgl) s13.2.toNat 0 hj40 rfl rfl rfl (hs 0 _ rfl rfl) (fun _=>rfl) (g:=.agg (fS x38)) rfl) rfl ?_
      obtain ⟨x41,hx41,h42⟩:=bi_ok h39
      have hj43:=getZ_at hx41
      refine ge_q rfl (.inl rfl) (fun _ _=>qte_of_qt (qt_p (op_elemRowZ hΓ hx41 rfl rfl rfl rfl rfl rfl))) ?_
      refine ge_h0 [rO 37 13 Kgl (s13.1.set s13.2.toNat x35)] rfl rfl (brk_st rfl) (qte_u (opu_setRowZ hΓ (enc:=Kgl) (z':=x35) s13.2.toNat (by have:=(List.getElem?_eq_some_iff.1 hj43).1; simpa using this) rfl rfl rfl rfl (fun _=>rfl) rfl rfl rfl rfl rfl)) ?_
      obtain ⟨x44,hx44,h45⟩:=bi_ok h42
      have hj46:=getZ_at hx44
      refine ge_q rfl (.inl rfl) (fun _ _=>qte_of_qt (qt_p (op_elemRowZ hΓ hx44 rfl rfl rfl rfl rfl rfl))) ?_
      obtain ⟨x47,hx47,h48⟩:=bi_ok h45
      have hj49:(s13.1.set s13.2.toNat x35)[(wi (s13.2 - 1)).toNat]?=some x47:=hx47
      refine ge_h0 [rO 37 13 Kgl ((s13.1.set s13.2.toNat x35).set ((wi (s13.2 - 1)).toNat) x38)] rfl rfl (brk_st rfl) (qte_u (opu_setRowZ hΓ (enc:=Kgl) (z':=x38) ((wi (s13.2 - 1)).toNat) (by have:=(List.getElem?_eq_some_iff.1 hj49).1; simpa using this) rfl rfl rfl rfl (fun _=>rfl) rfl rfl rfl rfl rfl)) ?_
      refine ge_fin ?_
      refine go hΓ 2 rfl ?_
      refine j_relen 0 (n':=((s13.1.set s13.2.toNat x35).set ((wi (s13.2 - 1)).toNat) x38).length) rfl (by simp) ?_
      refine j_relen 37 (n':=((s13.1.set s13.2.toNat x35).set ((wi (s13.2 - 1)).toNat) x38).length) rfl (by simp) ?_
      refine j_relen 39 (n':=((s13.1.set s13.2.toNat x35).set ((wi (s13.2 - 1)).toNat) x38).length) rfl (by simp) ?_
      refine j_relen 42 (n':=((s13.1.set s13.2.toNat x35).set ((wi (s13.2 - 1)).toNat) x38).length) rfl (by simp) ?_
      refine j_relen 47 (n':=((s13.1.set s13.2.toNat x35).set ((wi (s13.2 - 1)).toNat) x38).length) rfl (by simp) ?_
      refine go hΓ 5 rfl ?_
      obtain rfl:=oSi h48
      exact ⟨_,rfl,⟨⟨rfl,rfl,rfl,rfl,rfl,rfl,trivial⟩,[],rfl,.inl rfl⟩⟩
     ·have h50:=cF h23 hb
      refine go hΓ 4 rfl ?_
      obtain rfl:=oSi h50
      obtain rfl:=hout20 _ rfl
      exact ⟨⟨rfl,rfl,rfl,rfl,rfl,trivial⟩,[],rfl,.inl rfl⟩
   ·refine go hΓ 7 rfl ?_
    obtain rfl:=oSi h16
    exact ⟨_,rfl,⟨⟨rfl,rfl,rfl,rfl,rfl,trivial⟩,[],rfl,.inl rfl⟩⟩
  ·have h51:=cF hy8 hb
   refine go hΓ 4 rfl ?_
   obtain rfl:=oSi h51
   obtain rfl:=hout9 _ rfl
   exact ⟨trivial,[],rfl,.inl rfl⟩
 ·obtain rfl:=oSi h5
  exact fin_objs hΓ [] (.inl rfl) rfl rfl rfl rfl (.inl rfl)
set_option maxHeartbeats 8000000 in
theorem Khl {k:Nat} {data:List Kbb} {n:Int} {r:List Kbb} (h:Kcd k data n=some r):EC Tryz.prog 205 [.sl 0 data.length,I n,.fn (.func 96) [] []] [rO 37 13 Kgl data] fun g hp'=>g=.tup []∧hp'=[rO 37 13 Kgl r]:=by
 refine ec_enter (Fr.of 0 _) Tryz.func205 rfl (Fr.of_ok _) (nBe rfl) fun _=>?_
 refine go_in ?_
 unfold Kcd at h
 refine go hΓ 13 rfl ?_
 obtain ⟨q4,hq4,h5⟩:=bi_ok h
 refine j_cutNZ [(0,.sl 0 q4.1.length),(1,I n),(2,.fn (.func 96) [] []),(6,I 20),(7,I q4.2)] [rO 37 13 Kgl q4.1] ?_ ?_
 ·refine go hΓ 1 rfl ?_
  refine j_loop hq4 (fun s2=>[(0,.sl 0 s2.1.length),(1,I n),(2,.fn (.func 96) [] []),(6,I 20),(7,I s2.2.1),(8,I s2.2.2)]) (fun s2=>[rO 37 13 Kgl s2.1]) ⟨⟨rfl,rfl,rfl,rfl,rfl,rfl,trivial⟩,[],rfl,.inl rfl⟩ (fun s2 y10 hy8 hout9=>?_)
  refine go hΓ 8 rfl ?_
  refine j_cond rfl (fun hb=>?_) (fun hb=>?_)
  ·have h11:=cT hy8 hb
   obtain ⟨y12,hy12,h13⟩:=bi_ok h11
   refine go hΓ 9 rfl ?_
   refine eo_callF [0] (.tup []) [rO 37 13 Kgl y12] (callable Tryz.func280 rfl rfl) (Khk hy12) rfl (nBe rfl) rfl rfl rfl rfl rfl rfl rfl rfl rfl rfl ?_
   obtain ⟨hg15,h14⟩:=gd_ok h13
   refine eo_relen 0 rfl (of_decide_eq_true hg15).symm ?_
   refine go_ops hΓ 15 rfl ?_
   obtain rfl:=oSi h14
   exact ⟨_,rfl,⟨⟨rfl,rfl,rfl,rfl,rfl,rfl,trivial⟩,[],rfl,.inl rfl⟩⟩
  ·have h16:=cF hy8 hb
   refine go hΓ 4 rfl ?_
   obtain rfl:=oSi h16
   obtain rfl:=hout9 _ rfl
   exact ⟨⟨rfl,rfl,rfl,rfl,rfl,trivial⟩,[],rfl,.inl rfl⟩
 ·obtain ⟨y17,hy17,h18⟩:=bi_ok h5
  refine go hΓ 7 rfl ?_
  refine eo_callF [0] (.tup []) [rO 37 13 Kgl y17] (callable Tryz.func280 rfl rfl) (Khk hy17) rfl (nBe rfl) rfl rfl rfl rfl rfl rfl rfl rfl rfl rfl ?_
  obtain ⟨hg20,h19⟩:=gd_ok h18
  refine eo_relen 0 rfl (of_decide_eq_true hg20).symm ?_
  refine go_ops hΓ 2 rfl ?_
  obtain ⟨q24,hq24,h25⟩:=bi_ok h19
  refine j_cutNZ [] [rO 37 13 Kgl y17] ?_ ?_
  ·refine go hΓ 1 rfl ?_
   refine j_loop hq24 (fun s22=>[(0,.sl 0 y17.length),(1,I n),(2,.fn (.func 96) [] []),(6,I s22)]) (fun s22=>[rO 37 13 Kgl y17]) ⟨⟨rfl,rfl,rfl,rfl,trivial⟩,[],rfl,.inl rfl⟩ (fun s22 y30 hy28 hout29=>?_)
   refine go hΓ 8 rfl ?_
   refine j_cond rfl (fun hb=>?_) (fun hb=>?_)
   ·have h31:=cT hy28 hb
    refine go hΓ 12 rfl ?_
    obtain ⟨q35,hq35,h36⟩:=bi_ok h31
    refine j_cutNZ [(0,.sl 0 y17.length),(1,I n),(2,.fn (.func 96) [] []),(6,I s22),(7,I 0)] [rO 37 13 Kgl y17] ?_ ?_
    ·refine go hΓ 1 rfl ?_
     refine j_loop hq35 (fun s33=>[(0,.sl 0 y17.length),(1,I n),(2,.fn (.func 96) [] []),(6,I s22),(7,I 0),(8,I (wi (2 * s22)))]) (fun s33=>[rO 37 13 Kgl y17]) ⟨⟨rfl,rfl,rfl,rfl,rfl,rfl,trivial⟩,[],rfl,.inl rfl⟩ (fun s33 y41 hy39 hout40=>?_)
     refine go hΓ 8 rfl ?_
     refine j_cond rfl (fun hb=>?_) (fun hb=>?_)
     ·have h42:=cT hy39 hb
      refine go hΓ 12 rfl ?_
      cases h42
     ·have h43:=cF hy39 hb
      refine go hΓ 4 rfl ?_
      obtain rfl:=oSi h43
      obtain rfl:=hout40 _ rfl
      exact ⟨⟨rfl,rfl,rfl,rfl,rfl,trivial⟩,[],rfl,.inl rfl⟩
    ·refine go hΓ 17 rfl ?_
     refine j_cond rfl (fun hb=>?_) (fun hb=>?_)
     ·have h44:=cT h36 hb
      refine go hΓ 6 rfl ?_
      cases h44
     ·have h45:=cF h36 hb
      refine go hΓ 8 rfl ?_
      obtain rfl:=oSi h45
      exact ⟨_,rfl,⟨⟨rfl,rfl,rfl,rfl,trivial⟩,[],rfl,.inl rfl⟩⟩
   ·have h46:=cF hy28 hb
    refine go hΓ 4 rfl ?_
    obtain rfl:=oSi h46
    obtain rfl:=hout29 _ rfl
    exact ⟨trivial,[],rfl,.inl rfl⟩
  ·obtain rfl:=oSi h25
   exact fin_objs hΓ [] (.inl rfl) rfl rfl rfl rfl (.inl rfl)
theorem Khm {k:Nat} {x:List Kbb} {r:List Kbb} (h:Kce k x=some r):EC Tryz.prog 99 [.sl 0 x.length,.fn (.func 96) [] []] [rO 37 13 Kgl x] fun g hp'=>g=.tup []∧hp'=[rO 37 13 Kgl r]:=by
 refine ec_enter (Fr.of 0 _) Tryz.func99 rfl (Fr.of_ok _) (nBe rfl) fun _=>?_
 refine go_in ?_
 unfold Kce at h
 obtain ⟨y1,hy1,h2⟩:=bi_ok h
 refine go hΓ 5 rfl ?_
 refine eo_callF [0] (.tup []) [rO 37 13 Kgl y1] (callable Tryz.func205 rfl rfl) (Khl hy1) rfl (nBe rfl) rfl rfl rfl rfl rfl rfl rfl rfl rfl rfl ?_
 refine go_ops hΓ 1 rfl ?_
 obtain rfl:=oSi h2
 exact fin_objs hΓ [] (.inl rfl) rfl rfl rfl rfl (.inl rfl)
set_option maxHeartbeats 8000000 in
theorem Khn {k:Nat} {s:Kay} {many:Int} {r:(List Kbb)×Kay} (h:Kcf k s many=some r):EC Tryz.prog 23 [.ptr 0 0,I many] [.box 25 (fQ s)] fun g hp'=>g=.sl 1 r.1.length∧hp'=[.box 25 (fQ r.2),rO 37 13 Kgl r.1]:=by
 refine ec_enterC (Fr.of 0 _) Tryz.func23 rfl (Fr.of_ok _) (nBe rfl) fun _=>?_
 refine go_in ?_
 unfold Kcf at h
 refine go hΓ 2 rfl ?_
 refine eo_nilOwn (t:=0) 37 13 rfl (nBe rfl) ?_
 refine go_ops hΓ 4 rfl ?_
 refine eo_nilOwn (t:=0) 37 13 rfl (nBe rfl) ?_
 refine go_ops hΓ 4 rfl ?_
 refine eo_s (nBe rfl) (nblt.1 rfl) (ops_makeMap false) ?_
 refine eo_hp [.box 25 (fQ s),rO 37 13 Kgl ([]:List Kbb),rO 37 13 Kgl ([]:List Kbb),mOb kS false (eN .i64) ([]:List (Str×Int))] rfl ?_
 obtain ⟨y1,hy1,h2⟩:=bi_ok h
 refine go_ops hΓ 6 rfl ?_
 refine eo_callF [0] (I y1.1) [.box 25 (fQ y1.2),rO 37 13 Kgl ([]:List Kbb),rO 37 13 Kgl ([]:List Kbb),mOb kS false (eN .i64) ([]:List (Str×Int))] (callable Tryz.func26 rfl rfl) (Kgw hy1) rfl (nBe rfl) rfl rfl rfl rfl rfl rfl rfl rfl rfl rfl ?_
 refine go_ops hΓ 10 rfl ?_
 obtain ⟨q6,hq6,h7⟩:=bi_ok h2
 obtain ⟨hb9,h10⟩:=gd_ok hq6
 replace hb9:=of_decide_eq_true hb9
 refine j_cutNZ [(0,.ptr 0 0),(5,.sl 2 q6.2.1.length)] [.box 25 (fQ q6.1),rO 37 13 Kgl ([]:List Kbb),rO 37 13 Kgl q6.2.1,mOb kS false (eN .i64) q6.2.2.1] ?_ ?_
 ·refine go hΓ 1 rfl ?_
  refine j_rangeG h10 (fun i3 s4=>[(0,.ptr 0 0),(5,.sl 2 s4.2.1.length),(6,.map 3),(7,I s4.2.2.2),(13,I many),(14,I (i3:Int))]) (fun s4=>[.box 25 (fQ s4.1),rO 37 13 Kgl ([]:List Kbb),rO 37 13 Kgl s4.2.1,mOb kS false (eN .i64) s4.2.2.1]) ⟨⟨rfl,rfl,rfl,rfl,rfl,rfl,trivial⟩,[],rfl,.inl rfl⟩ (fun i3 s4 y14 hlt hy12=>?_) (fun hge=>?_)
  ·refine go hΓ 6 rfl ?_
   refine j_condT rfl (decide_eq_true hlt) ?_
   obtain ⟨y15,hy15,h16⟩:=bi_ok hy12
   refine go hΓ 8 rfl ?_
   refine eo_callF [0] (.agg (fS y15.1)) [.box 25 (fQ y15.2),rO 37 13 Kgl ([]:List Kbb),rO 37 13 Kgl s4.2.1,mOb kS false (eN .i64) s4.2.2.1] (callable Tryz.func12 rfl rfl) (Khf hy15) rfl (nBe rfl) rfl rfl rfl rfl rfl rfl rfl rfl rfl rfl ?_
   refine eo_alloc hΓ rfl rfl rfl (nBe rfl) ?_
   refine eo_store hΓ rfl rfl rfl rfl rfl rfl rfl rfl (nBe rfl) ?_
   refine eo_hp [.box 25 (fQ y15.2),rO 37 13 Kgl ([]:List Kbb),rO 37 13 Kgl s4.2.1,mOb kS false (eN .i64) s4.2.2.1,.box 37 (fS y15.1)] rfl ?_
   refine go_ops hΓ 7 rfl ?_
   refine eo_o rfl (op_lookup hΓ (kv:=kS) (agg:=false) (enc:=(eN .i64)) s4.2.2.1 y15.1.Server (0:Int) rfl rfl rfl rfl key_str rfl rfl rfl rfl rfl rfl rfl) ?_
   refine go_ops hΓ 1 rfl ?_
   refine eo_u (nBe rfl) (opu_mapUpdate hΓ (kv:=kS) (agg:=false) (enc:=(eN .i64)) (id:=3) s4.2.2.1 y15.1.Server (wi (((mGet s4.2.2.1 y15.1.Server).getD 0)+1)) rfl rfl rfl key_str rfl rfl rfl rfl rfl) ?_
   refine eo_hp [.box 25 (fQ y15.2),rO 37 13 Kgl ([]:List Kbb),rO 37 13 Kgl s4.2.1,mOb kS false (eN .i64) (mSet s4.2.2.1 y15.1.Server (wi (((mGet s4.2.2.1 y15.1.Server).getD 0)+1))),.box 37 (fS y15.1)] rfl ?_
   refine go_ops hΓ 7 rfl ?_
   refine eo_o rfl (op_lookup hΓ (kv:=kS) (agg:=false) (enc:=(eN .i64)) (mSet s4.2.2.1 y15.1.Server (wi (((mGet s4.2.2.1 y15.1.Server).getD 0)+1))) y15.1.Server (0:Int) rfl rfl rfl rfl key_str rfl rfl rfl rfl rfl rfl rfl) ?_
   refine go_ops hΓ 1 rfl ?_
   refine eo_store hΓ rfl rfl rfl rfl rfl rfl rfl rfl (nBe rfl) ?_
   refine eo_hp [.box 25 (fQ y15.2),rO 37 13 Kgl ([]:List Kbb),rO 37 13 Kgl s4.2.1,mOb kS false (eN .i64) (mSet s4.2.2.1 y15.1.Server (wi (((mGet s4.2.2.1 y15.1.Server).getD 0)+1))),.box 37 [I y15.1.At,S y15.1.Server,I ((mGet (mSet s4.2.2.1 y15.1.Server (wi (((mGet s4.2.2.1 y15.1.Server).getD 0)+1))) y15.1.Server).getD 0),I y15.1.Kind,S y15.1.By,S y15.1.Node,S y15.1.Join,S y15.1.Public,S y15.1.Name,.d (Sl eS y15.1.Tags),I y15.1.Until,I y15.1.Uses,B y15.1.Ready]] rfl ?_
   refine go_ops hΓ 6 rfl ?_
   refine eo_litT hΓ (enc:=Kgl) [(⟨y15.1.At,y15.1.Server,((mGet (mSet s4.2.2.1 y15.1.Server (wi (((mGet s4.2.2.1 y15.1.Server).getD 0)+1))) y15.1.Server).getD 0),y15.1.Kind,y15.1.By,y15.1.Node,y15.1.Join,y15.1.Public,y15.1.Name,y15.1.Tags,y15.1.Until,y15.1.Uses,y15.1.Ready⟩:Kbb)] rfl rfl rfl rfl rfl rfl rfl rfl rfl rfl rfl rfl (nBe rfl) ?_
   obtain ⟨y17,hy17,h18⟩:=bi_ok h16
   refine eo_appendT hΓ (enc:=Kgl) hy17 rfl rfl rfl rfl rfl rfl rfl rfl rfl (fun _=>rfl) rfl rfl rfl rfl ?_
   refine go_ops hΓ 6 rfl ?_
   refine eo_litT hΓ (enc:=(eN .i64)) [0,1,1,5,20,60] rfl rfl rfl rfl rfl rfl rfl rfl rfl rfl rfl rfl (nBe rfl) ?_
   obtain ⟨y19,hy19,h20⟩:=bi_ok h18
   refine eo_callF [0] (I y19.1) [.box 25 (fQ y19.2),rO 37 13 Kgl ([]:List Kbb),rO 37 13 Kgl y17,mOb kS false (eN .i64) (mSet s4.2.2.1 y15.1.Server (wi (((mGet s4.2.2.1 y15.1.Server).getD 0)+1))),.box 37 [I y15.1.At,S y15.1.Server,I ((mGet (mSet s4.2.2.1 y15.1.Server (wi (((mGet s4.2.2.1 y15.1.Server).getD 0)+1))) y15.1.Server).getD 0),I y15.1.Kind,S y15.1.By,S y15.1.Node,S y15.1.Join,S y15.1.Public,S y15.1.Name,.d (Sl eS y15.1.Tags),I y15.1.Until,I y15.1.Uses,B y15.1.Ready]] (callable Tryz.func13 rfl rfl) (Kgy hy19) rfl (nBe rfl) rfl rfl rfl rfl rfl rfl rfl rfl rfl rfl ?_
   refine go_ops hΓ 9 rfl ?_
   obtain rfl:=oSi h20
   exact ⟨⟨rfl,rfl,rfl,rfl,rfl,get_eq rfl (w64_succ (by omega)),trivial⟩,[_],rfl,.inr ⟨HB.mk rfl,FB.mk rfl,(nBe rfl)⟩⟩
  ·refine go hΓ 6 rfl ?_
   refine j_condF rfl (decide_eq_false hge) ?_
   refine go hΓ 4 rfl ?_
   exact ⟨⟨rfl,rfl,trivial⟩,[],rfl,.inl rfl⟩
 ·obtain ⟨y21,hy21,h22⟩:=bi_ok h7
  refine go hΓ 4 rfl ?_
  refine eo_callF [2] (.tup []) [.box 25 (fQ q6.1),rO 37 13 Kgl ([]:List Kbb),rO 37 13 Kgl y21,mOb kS false (eN .i64) q6.2.2.1] (callable Tryz.func99 rfl rfl) (Khm hy21) rfl (nBe rfl) rfl rfl rfl rfl rfl rfl rfl rfl rfl rfl ?_
  obtain ⟨hg24,h23⟩:=gd_ok h22
  refine eo_relen 5 rfl (of_decide_eq_true hg24).symm ?_
  refine go_ops hΓ 9 rfl ?_
  obtain ⟨q25,hq25,h26⟩:=bi_ok h23
  refine o_cut 3 [(0,.ptr 0 0),(5,.sl 2 y21.length),(47,B q25.2)] [.box 25 (fQ q25.1),rO 37 13 Kgl ([]:List Kbb),rO 37 13 Kgl y21,mOb kS false (eN .i64) q6.2.2.1] ?_ ?_
  ·refine eo_gsplit rfl rfl (fun hb=>?_) (fun hb=>?_)
   ·have h27:=cT hq25 hb
    obtain ⟨y28,hy28,h29⟩:=bi_ok h27
    refine go_ops hΓ 1 rfl ?_
    refine eo_guard rfl ?_
    refine eo_callF [0] (B y28.1) [.box 25 (fQ y28.2),rO 37 13 Kgl ([]:List Kbb),rO 37 13 Kgl y21,mOb kS false (eN .i64) q6.2.2.1] (callable Tryz.func24 rfl rfl) (Kgz hy28) rfl (nBe rfl) rfl rfl rfl rfl rfl rfl rfl rfl rfl rfl ?_
    refine go_ops hΓ 2 rfl ?_
    obtain rfl:=oSi h29
    exact ⟨⟨rfl,rfl,rfl,trivial⟩,[],rfl,.inl rfl⟩
   ·have h30:=cF hq25 hb
    refine go_ops hΓ 4 rfl ?_
    obtain rfl:=oSi h30
    exact ⟨⟨rfl,rfl,rfl,trivial⟩,[],rfl,.inl rfl⟩
  ·obtain ⟨q31,hq31,h32⟩:=bi_ok h26
   refine go_ops hΓ 2 rfl ?_
   refine j_cutNZ [(5,.sl 2 q31.2.length)] [.box 25 (fQ q31.1),rO 37 13 Kgl ([]:List Kbb),rO 37 13 Kgl q31.2,mOb kS false (eN .i64) q6.2.2.1] ?_ ?_
   ·refine j_cond rfl (fun hb=>?_) (fun hb=>?_)
    ·have h33:=cT hq31 hb
     obtain ⟨y34,hy34,h35⟩:=bi_ok h33
     refine go hΓ 6 rfl ?_
     refine eo_callF [0] (I y34.1) [.box 25 (fQ y34.2),rO 37 13 Kgl ([]:List Kbb),rO 37 13 Kgl y21,mOb kS false (eN .i64) q6.2.2.1] (callable Tryz.func26 rfl rfl) (Kgw hy34) rfl (nBe rfl) rfl rfl rfl rfl rfl rfl rfl rfl rfl rfl ?_
     obtain ⟨x36,hx36,h37⟩:=bi_ok h35
     have hj38:=getZ_at hx36
     refine eo_o rfl (op_elemRowZ hΓ hx36 rfl rfl rfl rfl rfl rfl) ?_
     obtain ⟨y39,hy39,h40⟩:=bi_ok h37
     refine go_ops hΓ 6 rfl ?_
     refine eo_callF [0] (I y39.1) [.box 25 (fQ y39.2),rO 37 13 Kgl ([]:List Kbb),rO 37 13 Kgl y21,mOb kS false (eN .i64) q6.2.2.1] (callable Tryz.func26 rfl rfl) (Kgw hy39) rfl (nBe rfl) rfl rfl rfl rfl rfl rfl rfl rfl rfl rfl ?_
     refine go_ops hΓ 9 rfl ?_
     refine j_cond rfl (fun hb=>?_) (fun hb=>?_)
     ·have h41:=cT h40 hb
      refine go hΓ 3 rfl ?_
      refine eo_litT hΓ (enc:=(eN .i64)) [-1,0,345686400] rfl rfl rfl rfl rfl rfl rfl rfl rfl rfl rfl rfl (nBe rfl) ?_
      obtain ⟨y42,hy42,h43⟩:=bi_ok h41
      refine eo_callF [0] (I y42.1) [.box 25 (fQ y42.2),rO 37 13 Kgl ([]:List Kbb),rO 37 13 Kgl y21,mOb kS false (eN .i64) q6.2.2.1] (callable Tryz.func13 rfl rfl) (Kgy hy42) rfl (nBe rfl) rfl rfl rfl rfl rfl rfl rfl rfl rfl rfl ?_
      refine go_ops hΓ 2 rfl ?_
      refine eo_storeRowZ hΓ (enc:=Kgl) (z':=(⟨y42.1,x36.Server,x36.No,x36.Kind,x36.By,x36.Node,x36.Join,x36.Public,x36.Name,x36.Tags,x36.Until,x36.Uses,x36.Ready⟩:Kbb)) y34.1.toNat 0 hj38 rfl rfl rfl rfl (fun _=>rfl) rfl rfl rfl rfl rfl rfl (nBe rfl) ?_
      refine eo_hp [.box 25 (fQ y42.2),rO 37 13 Kgl ([]:List Kbb),rO 37 13 Kgl (y21.set y34.1.toNat (⟨y42.1,x36.Server,x36.No,x36.Kind,x36.By,x36.Node,x36.Join,x36.Public,x36.Name,x36.Tags,x36.Until,x36.Uses,x36.Ready⟩:Kbb)),mOb kS false (eN .i64) q6.2.2.1] rfl ?_
      refine eo_relen 5 (n':=(y21.set y34.1.toNat (⟨y42.1,x36.Server,x36.No,x36.Kind,x36.By,x36.Node,x36.Join,x36.Public,x36.Name,x36.Tags,x36.Until,x36.Uses,x36.Ready⟩:Kbb)).length) rfl List.length_set.symm ?_
      refine go_ops hΓ 2 rfl ?_
      obtain rfl:=oSi h43
      exact ⟨⟨rfl,trivial⟩,[],rfl,.inl rfl⟩
     ·have h44:=cF h40 hb
      refine go hΓ 6 rfl ?_
      refine j_cond rfl (fun hb=>?_) (fun hb=>?_)
      ·have h45:=cT h44 hb
       refine go hΓ 4 rfl ?_
       refine eo_litT hΓ (enc:=eS) [[],[115,49]] rfl rfl rfl rfl rfl rfl rfl rfl rfl rfl rfl rfl (nBe rfl) ?_
       obtain ⟨y46,hy46,h47⟩:=bi_ok h45
       refine eo_callF [0] (S y46.1) [.box 25 (fQ y46.2),rO 37 13 Kgl ([]:List Kbb),rO 37 13 Kgl y21,mOb kS false (eN .i64) q6.2.2.1] (callable Tryz.func22 rfl rfl) (Khb hy46) rfl (nBe rfl) rfl rfl rfl rfl rfl rfl rfl rfl rfl rfl ?_
       refine go_ops hΓ 1 rfl ?_
       refine eo_litT hΓ (enc:=(eN .i64)) [0,1,1000001] rfl rfl rfl rfl rfl rfl rfl rfl rfl rfl rfl rfl (nBe rfl) ?_
       obtain ⟨y48,hy48,h49⟩:=bi_ok h47
       refine eo_callF [0] (I y48.1) [.box 25 (fQ y48.2),rO 37 13 Kgl ([]:List Kbb),rO 37 13 Kgl y21,mOb kS false (eN .i64) q6.2.2.1] (callable Tryz.func13 rfl rfl) (Kgy hy48) rfl (nBe rfl) rfl rfl rfl rfl rfl rfl rfl rfl rfl rfl ?_
       refine go_ops hΓ 2 rfl ?_
       refine eo_storeRowZ hΓ (enc:=Kgl) (z':=(⟨x36.At,y46.1,x36.No,x36.Kind,x36.By,x36.Node,x36.Join,x36.Public,x36.Name,x36.Tags,x36.Until,x36.Uses,x36.Ready⟩:Kbb)) y34.1.toNat 1 hj38 rfl rfl rfl rfl (fun _=>rfl) rfl rfl rfl rfl rfl rfl (nBe rfl) ?_
       refine eo_hp [.box 25 (fQ y48.2),rO 37 13 Kgl ([]:List Kbb),rO 37 13 Kgl (y21.set y34.1.toNat (⟨x36.At,y46.1,x36.No,x36.Kind,x36.By,x36.Node,x36.Join,x36.Public,x36.Name,x36.Tags,x36.Until,x36.Uses,x36.Ready⟩:Kbb)),mOb kS false (eN .i64) q6.2.2.1] rfl ?_
       have hj50:=set_at (y:=(⟨x36.At,y46.1,x36.No,x36.Kind,x36.By,x36.Node,x36.Join,x36.Public,x36.Name,x36.Tags,x36.Until,x36.Uses,x36.Ready⟩:Kbb)) hj38
       refine eo_relen 5 (n':=(y21.set y34.1.toNat (⟨x36.At,y46.1,x36.No,x36.Kind,x36.By,x36.Node,x36.Join,x36.Public,x36.Name,x36.Tags,x36.Until,x36.Uses,x36.Ready⟩:Kbb)).length) rfl List.length_set.symm ?_
       refine go_ops hΓ 2 rfl ?_
       refine eo_storeRowZ hΓ (enc:=Kgl) (z':=(⟨x36.At,y46.1,y48.1,x36.Kind,x36.By,x36.Node,x36.Join,x36.Public,x36.Name,x36.Tags,x36.Until,x36.Uses,x36.Ready⟩:Kbb)) y34.1.toNat 2 hj50 rfl rfl rfl rfl (fun _=>rfl) rfl rfl rfl rfl rfl rfl (nBe rfl) ?_
       refine eo_hp [.box 25 (fQ y48.2),rO 37 13 Kgl ([]:List Kbb),rO 37 13 Kgl ((y21.set y34.1.toNat (⟨x36.At,y46.1,x36.No,x36.Kind,x36.By,x36.Node,x36.Join,x36.Public,x36.Name,x36.Tags,x36.Until,x36.Uses,x36.Ready⟩:Kbb)).set y34.1.toNat (⟨x36.At,y46.1,y48.1,x36.Kind,x36.By,x36.Node,x36.Join,x36.Public,x36.Name,x36.Tags,x36.Until,x36.Uses,x36.Ready⟩:Kbb)),mOb kS false (eN .i64) q6.2.2.1] rfl ?_
       refine eo_relen 5 (n':=((y21.set y34.1.toNat (⟨x36.At,y46.1,x36.No,x36.Kind,x36.By,x36.Node,x36.Join,x36.Public,x36.Name,x36.Tags,x36.Until,x36.Uses,x36.Ready⟩:Kbb)).set y34.1.toNat (⟨x36.At,y46.1,y48.1,x36.Kind,x36.By,x36.Node,x36.Join,x36.Public,x36.Name,x36.Tags,x36.Until,x36.Uses,x36.Ready⟩:Kbb)).length) rfl List.length_set.symm ?_
       refine go_ops hΓ 2 rfl ?_
       obtain rfl:=oSi h49
       exact ⟨⟨rfl,trivial⟩,[],rfl,.inl rfl⟩
      ·have h51:=cF h44 hb
       refine go hΓ 6 rfl ?_
       refine j_cond rfl (fun hb=>?_) (fun hb=>?_)
       ·have h52:=cT h51 hb
        refine go hΓ 3 rfl ?_
        refine eo_litT hΓ (enc:=(eN .i64)) [0,10,3] rfl rfl rfl rfl rfl rfl rfl rfl rfl rfl rfl rfl (nBe rfl) ?_
        obtain ⟨y53,hy53,h54⟩:=bi_ok h52
        refine eo_callF [0] (I y53.1) [.box 25 (fQ y53.2),rO 37 13 Kgl ([]:List Kbb),rO 37 13 Kgl y21,mOb kS false (eN .i64) q6.2.2.1] (callable Tryz.func13 rfl rfl) (Kgy hy53) rfl (nBe rfl) rfl rfl rfl rfl rfl rfl rfl rfl rfl rfl ?_
        refine go_ops hΓ 2 rfl ?_
        refine eo_storeRowZ hΓ (enc:=Kgl) (z':=(⟨x36.At,x36.Server,x36.No,y53.1,x36.By,x36.Node,x36.Join,x36.Public,x36.Name,x36.Tags,x36.Until,x36.Uses,x36.Ready⟩:Kbb)) y34.1.toNat 3 hj38 rfl rfl rfl rfl (fun _=>rfl) rfl rfl rfl rfl rfl rfl (nBe rfl) ?_
        refine eo_hp [.box 25 (fQ y53.2),rO 37 13 Kgl ([]:List Kbb),rO 37 13 Kgl (y21.set y34.1.toNat (⟨x36.At,x36.Server,x36.No,y53.1,x36.By,x36.Node,x36.Join,x36.Public,x36.Name,x36.Tags,x36.Until,x36.Uses,x36.Ready⟩:Kbb)),mOb kS false (eN .i64) q6.2.2.1] rfl ?_
        refine eo_relen 5 (n':=(y21.set y34.1.toNat (⟨x36.At,x36.Server,x36.No,y53.1,x36.By,x36.Node,x36.Join,x36.Public,x36.Name,x36.Tags,x36.Until,x36.Uses,x36.Ready⟩:Kbb)).length) rfl List.length_set.symm ?_
        refine go_ops hΓ 2 rfl ?_
        obtain rfl:=oSi h54
        exact ⟨⟨rfl,trivial⟩,[],rfl,.inl rfl⟩
       ·have h55:=cF h51 hb
        refine go hΓ 6 rfl ?_
        refine j_cond rfl (fun hb=>?_) (fun hb=>?_)
        ·have h56:=cT h55 hb
         refine go hΓ 4 rfl ?_
         refine eo_litT hΓ (enc:=eS) [[],[65],[97,110,110]] rfl rfl rfl rfl rfl rfl rfl rfl rfl rfl rfl rfl (nBe rfl) ?_
         obtain ⟨y57,hy57,h58⟩:=bi_ok h56
         refine eo_callF [0] (S y57.1) [.box 25 (fQ y57.2),rO 37 13 Kgl ([]:List Kbb),rO 37 13 Kgl y21,mOb kS false (eN .i64) q6.2.2.1] (callable Tryz.func22 rfl rfl) (Khb hy57) rfl (nBe rfl) rfl rfl rfl rfl rfl rfl rfl rfl rfl rfl ?_
         refine go_ops hΓ 1 rfl ?_
         refine eo_litT hΓ (enc:=eS) [[],[110,97]] rfl rfl rfl rfl rfl rfl rfl rfl rfl rfl rfl rfl (nBe rfl) ?_
         obtain ⟨y59,hy59,h60⟩:=bi_ok h58
         refine eo_callF [0] (S y59.1) [.box 25 (fQ y59.2),rO 37 13 Kgl ([]:List Kbb),rO 37 13 Kgl y21,mOb kS false (eN .i64) q6.2.2.1] (callable Tryz.func22 rfl rfl) (Khb hy59) rfl (nBe rfl) rfl rfl rfl rfl rfl rfl rfl rfl rfl rfl ?_
         refine go_ops hΓ 2 rfl ?_
         refine eo_storeRowZ hΓ (enc:=Kgl) (z':=(⟨x36.At,x36.Server,x36.No,x36.Kind,y57.1,x36.Node,x36.Join,x36.Public,x36.Name,x36.Tags,x36.Until,x36.Uses,x36.Ready⟩:Kbb)) y34.1.toNat 4 hj38 rfl rfl rfl rfl (fun _=>rfl) rfl rfl rfl rfl rfl rfl (nBe rfl) ?_
         refine eo_hp [.box 25 (fQ y59.2),rO 37 13 Kgl ([]:List Kbb),rO 37 13 Kgl (y21.set y34.1.toNat (⟨x36.At,x36.Server,x36.No,x36.Kind,y57.1,x36.Node,x36.Join,x36.Public,x36.Name,x36.Tags,x36.Until,x36.Uses,x36.Ready⟩:Kbb)),mOb kS false (eN .i64) q6.2.2.1] rfl ?_
         have hj61:=set_at (y:=(⟨x36.At,x36.Server,x36.No,x36.Kind,y57.1,x36.Node,x36.Join,x36.Public,x36.Name,x36.Tags,x36.Until,x36.Uses,x36.Ready⟩:Kbb)) hj38
         refine eo_relen 5 (n':=(y21.set y34.1.toNat (⟨x36.At,x36.Server,x36.No,x36.Kind,y57.1,x36.Node,x36.Join,x36.Public,x36.Name,x36.Tags,x36.Until,x36.Uses,x36.Ready⟩:Kbb)).length) rfl List.length_set.symm ?_
         refine go_ops hΓ 2 rfl ?_
         refine eo_storeRowZ hΓ (enc:=Kgl) (z':=(⟨x36.At,x36.Server,x36.No,x36.Kind,y57.1,y59.1,x36.Join,x36.Public,x36.Name,x36.Tags,x36.Until,x36.Uses,x36.Ready⟩:Kbb)) y34.1.toNat 5 hj61 rfl rfl rfl rfl (fun _=>rfl) rfl rfl rfl rfl rfl rfl (nBe rfl) ?_
         refine eo_hp [.box 25 (fQ y59.2),rO 37 13 Kgl ([]:List Kbb),rO 37 13 Kgl ((y21.set y34.1.toNat (⟨x36.At,x36.Server,x36.No,x36.Kind,y57.1,x36.Node,x36.Join,x36.Public,x36.Name,x36.Tags,x36.Until,x36.Uses,x36.Ready⟩:Kbb)).set y34.1.toNat (⟨x36.At,x36.Server,x36.No,x36.Kind,y57.1,y59.1,x36.Join,x36.Public,x36.Name,x36.Tags,x36.Until,x36.Uses,x36.Ready⟩:Kbb)),mOb kS false (eN .i64) q6.2.2.1] rfl ?_
         refine eo_relen 5 (n':=((y21.set y34.1.toNat (⟨x36.At,x36.Server,x36.No,x36.Kind,y57.1,x36.Node,x36.Join,x36.Public,x36.Name,x36.Tags,x36.Until,x36.Uses,x36.Ready⟩:Kbb)).set y34.1.toNat (⟨x36.At,x36.Server,x36.No,x36.Kind,y57.1,y59.1,x36.Join,x36.Public,x36.Name,x36.Tags,x36.Until,x36.Uses,x36.Ready⟩:Kbb)).length) rfl List.length_set.symm ?_
         refine go_ops hΓ 2 rfl ?_
         obtain rfl:=oSi h60
         exact ⟨⟨rfl,trivial⟩,[],rfl,.inl rfl⟩
        ·have h62:=cF h55 hb
         refine go hΓ 6 rfl ?_
         refine j_cond rfl (fun hb=>?_) (fun hb=>?_)
         ·have h63:=cT h62 hb
          obtain ⟨y64,hy64,h65⟩:=bi_ok h63
          refine go hΓ 4 rfl ?_
          refine eo_callP (callable Tryz.func100 rfl rfl) (Kav hy64) rfl (nBe rfl) rfl rfl rfl rfl rfl ?_
          refine eo_litT hΓ (enc:=eS) [[],[120,121,122],[48,65],y64] rfl rfl rfl rfl rfl rfl rfl rfl rfl rfl rfl rfl (nBe rfl) ?_
          obtain ⟨y66,hy66,h67⟩:=bi_ok h65
          refine eo_callF [0] (S y66.1) [.box 25 (fQ y66.2),rO 37 13 Kgl ([]:List Kbb),rO 37 13 Kgl y21,mOb kS false (eN .i64) q6.2.2.1] (callable Tryz.func22 rfl rfl) (Khb hy66) rfl (nBe rfl) rfl rfl rfl rfl rfl rfl rfl rfl rfl rfl ?_
          refine go_ops hΓ 1 rfl ?_
          refine eo_litT hΓ (enc:=(eN .i64)) [0,-1,1000000000] rfl rfl rfl rfl rfl rfl rfl rfl rfl rfl rfl rfl (nBe rfl) ?_
          obtain ⟨y68,hy68,h69⟩:=bi_ok h67
          refine eo_callF [0] (I y68.1) [.box 25 (fQ y68.2),rO 37 13 Kgl ([]:List Kbb),rO 37 13 Kgl y21,mOb kS false (eN .i64) q6.2.2.1] (callable Tryz.func13 rfl rfl) (Kgy hy68) rfl (nBe rfl) rfl rfl rfl rfl rfl rfl rfl rfl rfl rfl ?_
          refine go_ops hΓ 2 rfl ?_
          refine eo_storeRowZ hΓ (enc:=Kgl) (z':=(⟨x36.At,x36.Server,x36.No,x36.Kind,x36.By,x36.Node,x36.Join,y66.1,x36.Name,x36.Tags,x36.Until,x36.Uses,x36.Ready⟩:Kbb)) y34.1.toNat 7 hj38 rfl rfl rfl rfl (fun _=>rfl) rfl rfl rfl rfl rfl rfl (nBe rfl) ?_
          refine eo_hp [.box 25 (fQ y68.2),rO 37 13 Kgl ([]:List Kbb),rO 37 13 Kgl (y21.set y34.1.toNat (⟨x36.At,x36.Server,x36.No,x36.Kind,x36.By,x36.Node,x36.Join,y66.1,x36.Name,x36.Tags,x36.Until,x36.Uses,x36.Ready⟩:Kbb)),mOb kS false (eN .i64) q6.2.2.1] rfl ?_
          have hj70:=set_at (y:=(⟨x36.At,x36.Server,x36.No,x36.Kind,x36.By,x36.Node,x36.Join,y66.1,x36.Name,x36.Tags,x36.Until,x36.Uses,x36.Ready⟩:Kbb)) hj38
          refine eo_relen 5 (n':=(y21.set y34.1.toNat (⟨x36.At,x36.Server,x36.No,x36.Kind,x36.By,x36.Node,x36.Join,y66.1,x36.Name,x36.Tags,x36.Until,x36.Uses,x36.Ready⟩:Kbb)).length) rfl List.length_set.symm ?_
          refine go_ops hΓ 2 rfl ?_
          refine eo_storeRowZ hΓ (enc:=Kgl) (z':=(⟨x36.At,x36.Server,x36.No,x36.Kind,x36.By,x36.Node,x36.Join,y66.1,x36.Name,x36.Tags,y68.1,x36.Uses,x36.Ready⟩:Kbb)) y34.1.toNat 10 hj70 rfl rfl rfl rfl (fun _=>rfl) rfl rfl rfl rfl rfl rfl (nBe rfl) ?_
          refine eo_hp [.box 25 (fQ y68.2),rO 37 13 Kgl ([]:List Kbb),rO 37 13 Kgl ((y21.set y34.1.toNat (⟨x36.At,x36.Server,x36.No,x36.Kind,x36.By,x36.Node,x36.Join,y66.1,x36.Name,x36.Tags,x36.Until,x36.Uses,x36.Ready⟩:Kbb)).set y34.1.toNat (⟨x36.At,x36.Server,x36.No,x36.Kind,x36.By,x36.Node,x36.Join,y66.1,x36.Name,x36.Tags,y68.1,x36.Uses,x36.Ready⟩:Kbb)),mOb kS false (eN .i64) q6.2.2.1] rfl ?_
          refine eo_relen 5 (n':=((y21.set y34.1.toNat (⟨x36.At,x36.Server,x36.No,x36.Kind,x36.By,x36.Node,x36.Join,y66.1,x36.Name,x36.Tags,x36.Until,x36.Uses,x36.Ready⟩:Kbb)).set y34.1.toNat (⟨x36.At,x36.Server,x36.No,x36.Kind,x36.By,x36.Node,x36.Join,y66.1,x36.Name,x36.Tags,y68.1,x36.Uses,x36.Ready⟩:Kbb)).length) rfl List.length_set.symm ?_
          refine go_ops hΓ 2 rfl ?_
          obtain rfl:=oSi h69
          exact ⟨⟨rfl,trivial⟩,[],rfl,.inl rfl⟩
         ·have h71:=cF h62 hb
          refine go hΓ 2 rfl ?_
          refine eo_litT hΓ (enc:=eS) [[119,101,98],[100,98]] rfl rfl rfl rfl rfl rfl rfl rfl rfl rfl rfl rfl (nBe rfl) ?_
          refine eo_litT hΓ (enc:=eS) [[]] rfl rfl rfl rfl rfl rfl rfl rfl rfl rfl rfl rfl (nBe rfl) ?_
          refine eo_litT hΓ (enc:=eS) [[97],[98]] rfl rfl rfl rfl rfl rfl rfl rfl rfl rfl rfl rfl (nBe rfl) ?_
          refine eo_litT hΓ (enc:=(eL eS)) [[[119,101,98],[100,98]],[[]],[[97],[98]]] rfl rfl rfl rfl rfl rfl rfl rfl rfl rfl rfl rfl (nBe rfl) ?_
          obtain ⟨y72,hy72,h73⟩:=bi_ok h71
          refine go_ops hΓ 1 rfl ?_
          refine eo_callF [0] (I y72.1) [.box 25 (fQ y72.2),rO 37 13 Kgl ([]:List Kbb),rO 37 13 Kgl y21,mOb kS false (eN .i64) q6.2.2.1] (callable Tryz.func26 rfl rfl) (Kgw hy72) rfl (nBe rfl) rfl rfl rfl rfl rfl rfl rfl rfl rfl rfl ?_
          obtain ⟨x74,hx74,h75⟩:=bi_ok h73
          refine eo_o rfl (op_elemZ hΓ (enc:=(eL eS)) hx74 rfl rfl rfl rfl rfl (fun _=>rfl)) ?_
          refine go_ops hΓ 3 rfl ?_
          refine eo_storeRowZ hΓ (enc:=Kgl) (z':=(⟨x36.At,x36.Server,x36.No,x36.Kind,x36.By,x36.Node,x36.Join,x36.Public,x36.Name,x74,x36.Until,x36.Uses,x36.Ready⟩:Kbb)) y34.1.toNat 9 hj38 rfl rfl rfl rfl (fun _=>rfl) rfl rfl rfl rfl rfl rfl (nBe rfl) ?_
          refine eo_hp [.box 25 (fQ y72.2),rO 37 13 Kgl ([]:List Kbb),rO 37 13 Kgl (y21.set y34.1.toNat (⟨x36.At,x36.Server,x36.No,x36.Kind,x36.By,x36.Node,x36.Join,x36.Public,x36.Name,x74,x36.Until,x36.Uses,x36.Ready⟩:Kbb)),mOb kS false (eN .i64) q6.2.2.1] rfl ?_
          refine eo_relen 5 (n':=(y21.set y34.1.toNat (⟨x36.At,x36.Server,x36.No,x36.Kind,x36.By,x36.Node,x36.Join,x36.Public,x36.Name,x74,x36.Until,x36.Uses,x36.Ready⟩:Kbb)).length) rfl List.length_set.symm ?_
          refine go_ops hΓ 2 rfl ?_
          obtain rfl:=oSi h75
          exact ⟨⟨rfl,trivial⟩,[],rfl,.inl rfl⟩
    ·have h76:=cF hq31 hb
     refine go hΓ 1 rfl ?_
     obtain rfl:=oSi h76
     exact ⟨⟨rfl,trivial⟩,[],rfl,.inl rfl⟩
   ·refine go hΓ 8 rfl ?_
    refine cv_kill 1 [.box 25 (fQ q31.1),.dead,rO 37 13 Kgl q31.2,mOb kS false (eN .i64) q6.2.2.1] rfl (nBe rfl) ?_
    refine cv_move 2 1 [.box 25 (fQ q31.1),rO 37 13 Kgl q31.2,.dead,mOb kS false (eN .i64) q6.2.2.1] rfl rfl rfl rfl rfl rfl ?_
    refine cv_here ?_
    obtain rfl:=oSi h32
    exact fin_objs hΓ [_,_] (.inr rfl) rfl rfl rfl rfl (.inr ⟨HB.mk rfl,rfl⟩)
theorem Kho {n:Int} {low:Int} {high:Int} {r:Bool} (h:Kcg n low high=some r):Pure Tryz.prog 211 [I n,I low,I high] (B r):=by
 refine Pure.enter (Fr.of 0 _) Tryz.func211 rfl (Fr.of_ok _) rfl rfl ?_
 refine go_in ?_
 unfold Kcg at h
 refine go hΓ 11 rfl ?_
 refine o_cut 4 [(6,B false),(14,B ((decide ((low:Int)≤n))&&(decide ((n:Int)≤high))))] [] ?_ ?_
 ·refine eo_gsplit rfl rfl (fun hb=>?_) (fun hb=>?_)
  ·refine go_ops hΓ 5 rfl ?_
   exact ⟨⟨rfl,get_b rfl (and_t hb),trivial⟩,[],rfl,.inl rfl⟩
  ·refine go_ops hΓ 5 rfl ?_
   exact ⟨⟨rfl,get_b rfl (and_f hb),trivial⟩,[],rfl,.inl rfl⟩
 ·refine go_ops hΓ 4 rfl ?_
  obtain rfl:=oSi h
  exact fin_pure hΓ (.inr rfl) rfl rfl
theorem Khp {s:Str} {v_some:Str} {r:Bool} (h:Kch s v_some=some r):Pure Tryz.prog 212 [S s,S v_some] (B r):=by
 refine Pure.enter (Fr.of 0 _) Tryz.func212 rfl (Fr.of_ok _) rfl rfl ?_
 refine go_in ?_
 unfold Kch at h
 obtain ⟨y1,hy1,h2⟩:=bi_ok h
 refine go hΓ 9 rfl ?_
 refine eo_callP (callable Tryz.func153 rfl rfl) (Kas hy1) rfl (nBe rfl) rfl rfl rfl rfl rfl ?_
 refine go_ops hΓ 5 rfl ?_
 obtain rfl:=oSi h2
 exact fin_pure hΓ (.inr rfl) rfl rfl
theorem Khq {s:Str} {r:Bool} (h:Kci s=some r):Pure Tryz.prog 104 [S s] (B r):=by
 refine Pure.enter (Fr.of 0 _) Tryz.func104 rfl (Fr.of_ok _) rfl rfl ?_
 refine go_in ?_
 unfold Kci at h
 obtain ⟨y1,hy1,h2⟩:=bi_ok h
 refine go hΓ 9 rfl ?_
 refine eo_callP (callable Tryz.func211 rfl rfl) (Kho hy1) rfl (nBe rfl) rfl rfl rfl rfl rfl ?_
 refine go_ops hΓ 1 rfl ?_
 obtain ⟨q3,hq3,h4⟩:=bi_ok h2
 refine o_cut 4 [(0,S s),(2,B false),(10,B q3)] [] ?_ ?_
 ·refine eo_gsplit rfl rfl (fun hb=>?_) (fun hb=>?_)
  ·have h5:=cT hq3 hb
   obtain ⟨z6,hz6,h7⟩:=bi_ok h5
   refine go_ops hΓ 1 rfl ?_
   refine eo_guard rfl ?_
   refine eo_o rfl (op_subZ hΓ hz6 rfl rfl rfl rfl rfl) ?_
   obtain ⟨y8,hy8,h9⟩:=bi_ok h7
   refine eo_guard rfl ?_
   refine eo_callP (callable Tryz.func212 rfl rfl) (Khp hy8) rfl (nBe rfl) rfl rfl rfl rfl rfl ?_
   refine go_ops hΓ 2 rfl ?_
   obtain rfl:=oSi h9
   exact ⟨⟨rfl,rfl,rfl,trivial⟩,[],rfl,.inl rfl⟩
  ·have h10:=cF hq3 hb
   refine go_ops hΓ 5 rfl ?_
   obtain rfl:=oSi h10
   exact ⟨⟨rfl,rfl,rfl,trivial⟩,[],rfl,.inl rfl⟩
 ·refine go_ops hΓ 1 rfl ?_
  obtain ⟨q11,hq11,h12⟩:=bi_ok h4
  refine o_cut 3 [(2,B false),(14,B q11)] [] ?_ ?_
  ·refine eo_gsplit rfl rfl (fun hb=>?_) (fun hb=>?_)
   ·have h13:=cT hq11 hb
    obtain ⟨y14,hy14,h15⟩:=bi_ok h13
    refine go_ops hΓ 1 rfl ?_
    refine eo_guard rfl ?_
    refine eo_callP (callable Tryz.func212 rfl rfl) (Khp hy14) rfl (nBe rfl) rfl rfl rfl rfl rfl ?_
    refine go_ops hΓ 2 rfl ?_
    obtain rfl:=oSi h15
    exact ⟨⟨rfl,rfl,trivial⟩,[],rfl,.inl rfl⟩
   ·have h16:=cF hq11 hb
    refine go_ops hΓ 4 rfl ?_
    obtain rfl:=oSi h16
    exact ⟨⟨rfl,rfl,trivial⟩,[],rfl,.inl rfl⟩
  ·refine go_ops hΓ 4 rfl ?_
   obtain rfl:=oSi h12
   exact fin_pure hΓ (.inr rfl) rfl rfl
set_option maxHeartbeats 8000000 in
theorem Khr {l:List Str} {r:Int} (h:Kcj l=some r):Pure Tryz.prog 103 [.d (Sl eS l)] (I r):=by
 refine Pure.enter (Fr.of 0 _) Tryz.func103 rfl (Fr.of_ok _) rfl rfl ?_
 refine go_in ?_
 unfold Kcj at h
 refine go hΓ 13 rfl ?_
 obtain ⟨q4,hq4,h5⟩:=bi_ok h
 refine j_bound 0 rfl fun hb7=>?_
 refine j_cutEZ (R:=fun a6=>q4=.go a6) (fun a6=>[]) (fun a6=>[]) ?_ ?_
 ·refine go hΓ 1 rfl ?_
  refine j_range l hq4 (fun i1 s2=>[(0,.d (Sl eS l)),(5,.d (Sl eS l)),(6,I (l.length:Int)),(7,I (i1:Int))]) (fun s2=>[]) ⟨⟨rfl,rfl,rfl,rfl,trivial⟩,[],rfl,.inl rfl⟩ (fun i1 x3 s2 y11 hx8 hlt hy9 hout10=>?_) (fun s2 hgo=>?_)
  ·refine go hΓ 6 rfl ?_
   refine j_condT rfl (decide_eq_true (Int.ofNat_lt.2 hlt)) ?_
   refine go hΓ 7 rfl ?_
   refine eo_o rfl (op_elemZ hΓ (enc:=eS) (getZ_nat hx8) rfl rfl rfl rfl rfl (fun _=>rfl)) ?_
   obtain ⟨y12,hy12,h13⟩:=bi_ok hy9
   refine go_ops hΓ 9 rfl ?_
   refine eo_callP (callable Tryz.func104 rfl rfl) (Khq hy12) rfl (nBe rfl) rfl rfl rfl rfl rfl ?_
   refine go_ops hΓ 3 rfl ?_
   refine j_cond rfl (fun hb=>?_) (fun hb=>?_)
   ·have h14:=cT h13 hb
    refine go hΓ 9 rfl ?_
    obtain ⟨v15,hv15,h16⟩:=bi_ok h14
    obtain rfl:=oSi h16
    obtain rfl:=hout10 _ rfl
    obtain rfl:=oSi h5
    refine go hΓ 4 rfl ?_
    obtain rfl:=oSi hv15
    exact fin_pure hΓ (.inr rfl) rfl rfl
   ·have h17:=cF h13 hb
    refine go hΓ 7 rfl ?_
    obtain ⟨q18,hq18,h19⟩:=bi_ok h17
    refine o_cut 8 [(0,.d (Sl eS l)),(5,.d (Sl eS l)),(6,I (l.length:Int)),(7,I (i1:Int)),(25,B q18)] [] ?_ ?_
    ·refine eo_gsplit rfl rfl (fun hb=>?_) (fun hb=>?_)
     ·have h20:=cT hq18 hb
      obtain ⟨x21,hx21,h22⟩:=bi_ok h20
      refine go_ops hΓ 4 rfl ?_
      refine eo_guard rfl ?_
      refine eo_o rfl (op_elemZ hΓ (enc:=eS) hx21 rfl rfl rfl rfl rfl (fun _=>rfl)) ?_
      refine go_ops hΓ 4 rfl ?_
      obtain rfl:=oSi h22
      exact ⟨⟨rfl,rfl,rfl,rfl,rfl,trivial⟩,[],rfl,.inl rfl⟩
     ·have h23:=cF hq18 hb
      refine go_ops hΓ 9 rfl ?_
      obtain rfl:=oSi h23
      exact ⟨⟨rfl,rfl,rfl,rfl,rfl,trivial⟩,[],rfl,.inl rfl⟩
    ·refine go_ops hΓ 2 rfl ?_
     refine j_cond rfl (fun hb=>?_) (fun hb=>?_)
     ·have h24:=cT h19 hb
      refine go hΓ 8 rfl ?_
      obtain ⟨v25,hv25,h26⟩:=bi_ok h24
      obtain rfl:=oSi h26
      obtain rfl:=hout10 _ rfl
      obtain rfl:=oSi h5
      refine go hΓ 4 rfl ?_
      obtain rfl:=oSi hv25
      exact fin_pure hΓ (.inr rfl) rfl rfl
     ·have h27:=cF h19 hb
      refine go hΓ 7 rfl ?_
      obtain rfl:=oSi h27
      exact ⟨_,rfl,⟨⟨rfl,rfl,rfl,get_eq rfl (w64_succ (Nat.lt_of_lt_of_le hlt hb7)),trivial⟩,[],rfl,.inl rfl⟩⟩
  ·subst hgo
   refine go hΓ 6 rfl ?_
   refine j_condF rfl (decide_eq_false (Int.lt_irrefl _)) ?_
   refine go hΓ 4 rfl ?_
   exact ⟨_,rfl,⟨trivial,[],rfl,.inl rfl⟩⟩
 ·intro a6 ha
  subst ha
  replace h5:=goI_l h5
  refine go hΓ 7 rfl ?_
  obtain rfl:=oSi h5
  exact fin_pure hΓ (.inr rfl) rfl rfl
theorem Khs {s:List Str} {v:Str} {r:Int} (h:Kck s v=some r):Pure Tryz.prog 154 [.d (Sl eS s),S v] (I r):=by
 refine Pure.enter (Fr.of 0 _) Tryz.func154 rfl (Fr.of_ok _) rfl rfl ?_
 refine go_in ?_
 unfold Kck at h
 refine go hΓ 13 rfl ?_
 obtain ⟨q4,hq4,h5⟩:=bi_ok h
 refine j_bound 0 rfl fun hb7=>?_
 refine j_cutEZ (R:=fun a6=>q4=.go a6) (fun a6=>[]) (fun a6=>[]) ?_ ?_
 ·refine go hΓ 1 rfl ?_
  refine j_range s hq4 (fun i1 s2=>[(0,.d (Sl eS s)),(1,S v),(7,I (s.length:Int)),(8,I (i1:Int))]) (fun s2=>[]) ⟨⟨rfl,rfl,rfl,rfl,trivial⟩,[],rfl,.inl rfl⟩ (fun i1 x3 s2 y11 hx8 hlt hy9 hout10=>?_) (fun s2 hgo=>?_)
  ·refine go hΓ 6 rfl ?_
   refine j_condT rfl (decide_eq_true (Int.ofNat_lt.2 hlt)) ?_
   refine go hΓ 15 rfl ?_
   refine eo_o rfl (op_elemZ hΓ (enc:=eS) (getZ_nat hx8) rfl rfl rfl rfl rfl (fun _=>rfl)) ?_
   refine go_ops hΓ 4 rfl ?_
   refine j_cond rfl (fun hb=>?_) (fun hb=>?_)
   ·have h12:=cT hy9 hb
    refine go hΓ 9 rfl ?_
    obtain ⟨v13,hv13,h14⟩:=bi_ok h12
    obtain rfl:=oSi h14
    obtain rfl:=hout10 _ rfl
    obtain rfl:=oSi h5
    refine go hΓ 4 rfl ?_
    obtain rfl:=oSi hv13
    exact fin_pure hΓ (.inr rfl) rfl rfl
   ·have h15:=cF hy9 hb
    refine go hΓ 7 rfl ?_
    obtain rfl:=oSi h15
    exact ⟨_,rfl,⟨⟨rfl,rfl,rfl,get_eq rfl (w64_succ (Nat.lt_of_lt_of_le hlt hb7)),trivial⟩,[],rfl,.inl rfl⟩⟩
  ·subst hgo
   refine go hΓ 6 rfl ?_
   refine j_condF rfl (decide_eq_false (Int.lt_irrefl _)) ?_
   refine go hΓ 4 rfl ?_
   exact ⟨_,rfl,⟨trivial,[],rfl,.inl rfl⟩⟩
 ·intro a6 ha
  subst ha
  replace h5:=goI_l h5
  refine go hΓ 7 rfl ?_
  obtain rfl:=oSi h5
  exact fin_pure hΓ (.inr rfl) rfl rfl
theorem Kht {s:List Str} {v:Str} {r:Bool} (h:Kcl s v=some r):Pure Tryz.prog 61 [.d (Sl eS s),S v] (B r):=by
 refine Pure.enter (Fr.of 0 _) Tryz.func61 rfl (Fr.of_ok _) rfl rfl ?_
 refine go_in ?_
 unfold Kcl at h
 obtain ⟨y1,hy1,h2⟩:=bi_ok h
 refine go hΓ 9 rfl ?_
 refine eo_callP (callable Tryz.func154 rfl rfl) (Khs hy1) rfl (nBe rfl) rfl rfl rfl rfl rfl ?_
 refine go_ops hΓ 5 rfl ?_
 obtain rfl:=oSi h2
 exact fin_pure hΓ (.inr rfl) rfl rfl
theorem Khu {n:Int} {low:Int} {high:Int} {r:Bool} (h:Kcm n low high=some r):Pure Tryz.prog 105 [I n,I low,I high] (B r):=by
 refine Pure.enter (Fr.of 0 _) Tryz.func105 rfl (Fr.of_ok _) rfl rfl ?_
 refine go_in ?_
 unfold Kcm at h
 refine go hΓ 11 rfl ?_
 refine o_cut 4 [(6,B false),(14,B ((decide ((low:Int)≤n))&&(decide ((n:Int)≤high))))] [] ?_ ?_
 ·refine eo_gsplit rfl rfl (fun hb=>?_) (fun hb=>?_)
  ·refine go_ops hΓ 5 rfl ?_
   exact ⟨⟨rfl,get_b rfl (and_t hb),trivial⟩,[],rfl,.inl rfl⟩
  ·refine go_ops hΓ 5 rfl ?_
   exact ⟨⟨rfl,get_b rfl (and_f hb),trivial⟩,[],rfl,.inl rfl⟩
 ·refine go_ops hΓ 4 rfl ?_
  obtain rfl:=oSi h
  exact fin_pure hΓ (.inr rfl) rfl rfl
set_option maxHeartbeats 8000000 in
theorem Khv {d:Kba} {r:Int} (h:Kcn d=some r):Pure Tryz.prog 28 [.agg (fD d)] (I r):=by
 refine Pure.enter (Fr.of 0 _) Tryz.func28 rfl (Fr.of_ok _) rfl rfl ?_
 refine go_in ?_
 unfold Kcn at h
 refine go hΓ 2 rfl ?_
 refine eo_box rfl rfl rfl rfl (nBe rfl) ?_
 refine go_ops hΓ 12 rfl ?_
 refine j_cond rfl (fun hb=>?_) (fun hb=>?_)
 ·have h1:=cT h hb
  refine go hΓ 7 rfl ?_
  obtain rfl:=oSi h1
  exact fin_pure hΓ (.inr rfl) rfl rfl
 ·have h2:=cF h hb
  obtain ⟨y3,hy3,h4⟩:=bi_ok h2
  refine go hΓ 7 rfl ?_
  refine eo_callP (callable Tryz.func103 rfl rfl) (Khr hy3) rfl (nBe rfl) rfl rfl rfl rfl rfl ?_
  refine go_ops hΓ 9 rfl ?_
  refine j_cond rfl (fun hb=>?_) (fun hb=>?_)
  ·have h5:=cT h4 hb
   refine go hΓ 8 rfl ?_
   obtain rfl:=oSi h5
   exact fin_pure hΓ (.inr rfl) rfl rfl
  ·have h6:=cF h4 hb
   refine go hΓ 11 rfl ?_
   refine j_cond rfl (fun hb=>?_) (fun hb=>?_)
   ·have h7:=cT h6 hb
    refine go hΓ 7 rfl ?_
    obtain rfl:=oSi h7
    exact fin_pure hΓ (.inr rfl) rfl rfl
   ·have h8:=cF h6 hb
    refine go hΓ 11 rfl ?_
    obtain ⟨q12,hq12,h13⟩:=bi_ok h8
    refine j_bound 23 rfl fun hb15=>?_
    refine j_cutEZ (R:=fun a14=>q12=.go a14) (fun a14=>[(1,.ptr 0 0)]) (fun a14=>[.box 29 (fD d)]) ?_ ?_
    ·refine go hΓ 1 rfl ?_
     refine j_range d.Owners hq12 (fun i9 s10=>[(1,.ptr 0 0),(23,.d (Sl Kgj d.Owners)),(24,I (d.Owners.length:Int)),(25,I (i9:Int))]) (fun s10=>[.box 29 (fD d)]) ⟨⟨rfl,rfl,rfl,rfl,trivial⟩,[],rfl,.inl rfl⟩ (fun i9 x11 s10 y19 hx16 hlt hy17 hout18=>?_) (fun s10 hgo=>?_)
     ·refine go hΓ 6 rfl ?_
      refine j_condT rfl (decide_eq_true (Int.ofNat_lt.2 hlt)) ?_
      refine go hΓ 7 rfl ?_
      refine eo_o rfl (op_elemZ hΓ (enc:=Kgj) (getZ_nat hx16) rfl rfl rfl rfl rfl (fun _=>rfl)) ?_
      refine go_ops hΓ 1 rfl ?_
      refine eo_alloc hΓ rfl rfl rfl (nBe rfl) ?_
      refine go_ops hΓ 1 rfl ?_
      refine eo_store hΓ rfl rfl rfl rfl rfl rfl rfl rfl (nBe rfl) ?_
      refine eo_hp [.box 29 (fD d),.box 155 [S x11.Tag,.d (Sl eS x11.Users)]] rfl ?_
      obtain ⟨y20,hy20,h21⟩:=bi_ok hy17
      refine go_ops hΓ 7 rfl ?_
      refine eo_callP (callable Tryz.func104 rfl rfl) (Khq hy20) rfl (nBe rfl) rfl rfl rfl rfl rfl ?_
      refine go_ops hΓ 3 rfl ?_
      refine j_cond rfl (fun hb=>?_) (fun hb=>?_)
      ·have h22:=cT h21 hb
       refine go hΓ 9 rfl ?_
       obtain ⟨v23,hv23,h24⟩:=bi_ok h22
       obtain rfl:=oSi h24
       obtain rfl:=hout18 _ rfl
       obtain rfl:=oSi h13
       refine go hΓ 4 rfl ?_
       obtain rfl:=oSi hv23
       exact fin_pure hΓ (.inr rfl) rfl rfl
      ·have h25:=cF h21 hb
       obtain ⟨q26,hq26,h27⟩:=bi_ok h25
       refine go hΓ 4 rfl ?_
       refine j_cutNZ [(1,.ptr 0 0),(5,.ptr 1 0),(23,.d (Sl Kgj d.Owners)),(24,I (d.Owners.length:Int)),(25,I (i9:Int)),(47,B q26)] [.box 29 (fD d),.box 155 [S x11.Tag,.d (Sl eS x11.Users)]] ?_ ?_
       ·refine j_draw hmix (by kernel_rfl) ?_
        refine go hΓ 3 rfl ?_
        refine gl_gsplit rfl rfl (fun hb=>?_) (fun hb=>?_)
        ·have h28:=cT hq26 hb
         obtain ⟨x29,hx29,h30⟩:=bi_ok h28
         refine go_draw hΓ 6 rfl ?_
         refine gl_og rfl rfl (op_elemZ hΓ (enc:=Kgj) hx29 rfl rfl rfl rfl rfl (fun _=>rfl)) ?_
         refine go_draw hΓ 5 rfl ?_
         obtain rfl:=oSi h30
         exact ⟨⟨rfl,rfl,rfl,rfl,rfl,rfl,trivial⟩,[],rfl,.inl rfl⟩
        ·have h31:=cF hq26 hb
         refine go_draw hΓ 12 rfl ?_
         obtain rfl:=oSi h31
         exact ⟨⟨rfl,rfl,rfl,rfl,rfl,rfl,trivial⟩,[],rfl,.inl rfl⟩
       ·refine go hΓ 1 rfl ?_
        refine j_cond rfl (fun hb=>?_) (fun hb=>?_)
        ·have h32:=cT h27 hb
         refine go hΓ 9 rfl ?_
         obtain ⟨v33,hv33,h34⟩:=bi_ok h32
         obtain rfl:=oSi h34
         obtain rfl:=hout18 _ rfl
         obtain rfl:=oSi h13
         refine go hΓ 4 rfl ?_
         obtain rfl:=oSi hv33
         exact fin_pure hΓ (.inr rfl) rfl rfl
        ·have h35:=cF h27 hb
         refine go hΓ 10 rfl ?_
         obtain ⟨q39,hq39,h40⟩:=bi_ok h35
         refine j_bound 49 rfl fun hb42=>?_
         refine j_cutEZ (R:=fun a41=>q39=.go a41) (fun a41=>[(1,.ptr 0 0),(23,.d (Sl Kgj d.Owners)),(24,I (d.Owners.length:Int)),(25,I (i9:Int))]) (fun a41=>[.box 29 (fD d),.box 155 [S x11.Tag,.d (Sl eS x11.Users)]]) ?_ ?_
         ·refine go hΓ 1 rfl ?_
          refine j_range x11.Users hq39 (fun i36 s37=>[(1,.ptr 0 0),(5,.ptr 1 0),(23,.d (Sl Kgj d.Owners)),(24,I (d.Owners.length:Int)),(25,I (i9:Int)),(49,.d (Sl eS x11.Users)),(50,I (x11.Users.length:Int)),(51,I (i36:Int))]) (fun s37=>[.box 29 (fD d),.box 155 [S x11.Tag,.d (Sl eS x11.Users)]]) ⟨⟨rfl,rfl,rfl,rfl,rfl,rfl,rfl,rfl,trivial⟩,[],rfl,.inl rfl⟩ (fun i36 x38 s37 y46 hx43 hlt hy44 hout45=>?_) (fun s37 hgo=>?_)
          ·refine go hΓ 6 rfl ?_
           refine j_condT rfl (decide_eq_true (Int.ofNat_lt.2 hlt)) ?_
           refine go hΓ 7 rfl ?_
           refine eo_o rfl (op_elemZ hΓ (enc:=eS) (getZ_nat hx43) rfl rfl rfl rfl rfl (fun _=>rfl)) ?_
           obtain ⟨y47,hy47,h48⟩:=bi_ok hy44
           refine go_ops hΓ 11 rfl ?_
           refine eo_callP (callable Tryz.func61 rfl rfl) (Kht hy47) rfl (nBe rfl) rfl rfl rfl rfl rfl ?_
           refine go_ops hΓ 3 rfl ?_
           refine j_cond rfl (fun hb=>?_) (fun hb=>?_)
           ·have h49:=cT h48 hb
            refine go hΓ 9 rfl ?_
            obtain ⟨v50,hv50,h51⟩:=bi_ok h49
            obtain rfl:=oSi h51
            obtain rfl:=hout45 _ rfl
            obtain rfl:=oSi h40
            refine go hΓ 5 rfl ?_
            obtain ⟨v52,hv52,h53⟩:=bi_ok hv50
            obtain rfl:=oSi h53
            obtain rfl:=hout18 _ rfl
            obtain rfl:=oSi h13
            refine go hΓ 4 rfl ?_
            obtain rfl:=oSi hv52
            exact fin_pure hΓ (.inr rfl) rfl rfl
           ·have h54:=cF h48 hb
            refine go hΓ 7 rfl ?_
            obtain ⟨q55,hq55,h56⟩:=bi_ok h54
            refine o_cut 9 [(1,.ptr 0 0),(5,.ptr 1 0),(23,.d (Sl Kgj d.Owners)),(24,I (d.Owners.length:Int)),(25,I (i9:Int)),(49,.d (Sl eS x11.Users)),(50,I (x11.Users.length:Int)),(51,I (i36:Int)),(72,B q55)] [.box 29 (fD d),.box 155 [S x11.Tag,.d (Sl eS x11.Users)]] ?_ ?_
            ·refine eo_gsplit rfl rfl (fun hb=>?_) (fun hb=>?_)
             ·have h57:=cT hq55 hb
              obtain ⟨x58,hx58,h59⟩:=bi_ok h57
              refine go_ops hΓ 5 rfl ?_
              refine eo_guard rfl ?_
              refine eo_o rfl (op_elemZ hΓ (enc:=eS) hx58 rfl rfl rfl rfl rfl (fun _=>rfl)) ?_
              refine go_ops hΓ 4 rfl ?_
              obtain rfl:=oSi h59
              exact ⟨⟨rfl,rfl,rfl,rfl,rfl,rfl,rfl,rfl,rfl,trivial⟩,[],rfl,.inl rfl⟩
             ·have h60:=cF hq55 hb
              refine go_ops hΓ 10 rfl ?_
              obtain rfl:=oSi h60
              exact ⟨⟨rfl,rfl,rfl,rfl,rfl,rfl,rfl,rfl,rfl,trivial⟩,[],rfl,.inl rfl⟩
            ·refine go_ops hΓ 2 rfl ?_
             refine j_cond rfl (fun hb=>?_) (fun hb=>?_)
             ·have h61:=cT h56 hb
              refine go hΓ 8 rfl ?_
              obtain ⟨v62,hv62,h63⟩:=bi_ok h61
              obtain rfl:=oSi h63
              obtain rfl:=hout45 _ rfl
              obtain rfl:=oSi h40
              refine go hΓ 5 rfl ?_
              obtain ⟨v64,hv64,h65⟩:=bi_ok hv62
              obtain rfl:=oSi h65
              obtain rfl:=hout18 _ rfl
              obtain rfl:=oSi h13
              refine go hΓ 4 rfl ?_
              obtain rfl:=oSi hv64
              exact fin_pure hΓ (.inr rfl) rfl rfl
             ·have h66:=cF h56 hb
              refine go hΓ 7 rfl ?_
              obtain rfl:=oSi h66
              exact ⟨_,rfl,⟨⟨rfl,rfl,rfl,rfl,rfl,rfl,rfl,get_eq rfl (w64_succ (Nat.lt_of_lt_of_le hlt hb42)),trivial⟩,[],rfl,.inl rfl⟩⟩
          ·subst hgo
           refine go hΓ 6 rfl ?_
           refine j_condF rfl (decide_eq_false (Int.lt_irrefl _)) ?_
           refine go hΓ 4 rfl ?_
           exact ⟨_,rfl,⟨⟨rfl,rfl,rfl,rfl,trivial⟩,[],rfl,.inl rfl⟩⟩
         ·intro a41 ha
          subst ha
          replace h40:=goI_l h40
          refine go hΓ 6 rfl ?_
          obtain rfl:=oSi h40
          exact ⟨_,rfl,⟨⟨rfl,rfl,rfl,get_eq rfl (w64_succ (Nat.lt_of_lt_of_le hlt hb15)),trivial⟩,[_],rfl,.inr ⟨HB.mk rfl,FB.mk rfl,(nBe rfl)⟩⟩⟩
     ·subst hgo
      refine go hΓ 6 rfl ?_
      refine j_condF rfl (decide_eq_false (Int.lt_irrefl _)) ?_
      refine go hΓ 4 rfl ?_
      exact ⟨_,rfl,⟨⟨rfl,trivial⟩,[],rfl,.inl rfl⟩⟩
    ·intro a14 ha
     subst ha
     replace h13:=goI_l h13
     obtain ⟨y67,hy67,h68⟩:=bi_ok h13
     refine go hΓ 6 rfl ?_
     refine eo_callP (callable Tryz.func105 rfl rfl) (Khu hy67) rfl (nBe rfl) rfl rfl rfl rfl rfl ?_
     refine go_ops hΓ 3 rfl ?_
     refine j_cond rfl (fun hb=>?_) (fun hb=>?_)
     ·have h69:=cT h68 hb
      refine go hΓ 7 rfl ?_
      obtain rfl:=oSi h69
      exact fin_pure hΓ (.inr rfl) rfl rfl
     ·have h70:=cF h68 hb
      refine go hΓ 8 rfl ?_
      obtain rfl:=oSi h70
      exact fin_pure hΓ (.inr rfl) rfl rfl
theorem Khw {v_at:Int} {r:Bool} (h:Kco v_at=some r):Pure Tryz.prog 143 [I v_at] (B r):=by
 refine Pure.enter (Fr.of 0 _) Tryz.func143 rfl (Fr.of_ok _) rfl rfl ?_
 refine go_in ?_
 unfold Kco at h
 obtain ⟨y1,hy1,h2⟩:=bi_ok h
 refine go hΓ 8 rfl ?_
 refine eo_callP (callable Tryz.func211 rfl rfl) (Kho hy1) rfl (nBe rfl) rfl rfl rfl rfl rfl ?_
 refine go_ops hΓ 4 rfl ?_
 obtain rfl:=oSi h2
 exact fin_pure hΓ (.inr rfl) rfl rfl
theorem Khx {kind:Int} {r:Str} (h:Kcp kind=some r):Pure Tryz.prog 198 [I kind] (S r):=by
 refine Pure.enter (Fr.of 0 _) Tryz.func198 rfl (Fr.of_ok _) rfl rfl ?_
 refine go_in ?_
 unfold Kcp at h
 refine go hΓ 7 rfl ?_
 refine eo_litT hΓ (enc:=eS) [[],[98,106,116,117,115,114],[98,106],[66,110,74,112,109],[98,110],[98,110,112],[98,110,109],[98,110,116],[98,110],[98,110]] rfl rfl rfl rfl rfl rfl rfl rfl rfl rfl rfl rfl (nBe rfl) ?_
 obtain ⟨x1,hx1,h2⟩:=bi_ok h
 refine go_ops hΓ 1 rfl ?_
 refine eo_o rfl (op_elemZ hΓ (enc:=eS) hx1 rfl rfl rfl rfl rfl (fun _=>rfl)) ?_
 refine go_ops hΓ 5 rfl ?_
 obtain rfl:=oSi h2
 exact fin_pure hΓ (.inr rfl) rfl rfl
theorem Khy {s:Str} {r:Int} (h:Kcq s=some r):Pure Tryz.prog 144 [S s] (I r):=by
 refine Pure.enter (Fr.of 0 _) Tryz.func144 rfl (Fr.of_ok _) rfl rfl ?_
 refine go_in ?_
 unfold Kcq at h
 obtain ⟨y1,hy1,h2⟩:=bi_ok h
 refine go hΓ 9 rfl ?_
 refine eo_callP (callable Tryz.func104 rfl rfl) (Khq hy1) rfl (nBe rfl) rfl rfl rfl rfl rfl ?_
 refine go_ops hΓ 3 rfl ?_
 refine j_cond rfl (fun hb=>?_) (fun hb=>?_)
 ·have h3:=cT h2 hb
  refine go hΓ 7 rfl ?_
  obtain rfl:=oSi h3
  exact fin_pure hΓ (.inr rfl) rfl rfl
 ·have h4:=cF h2 hb
  refine go hΓ 8 rfl ?_
  obtain rfl:=oSi h4
  exact fin_pure hΓ (.inr rfl) rfl rfl
theorem Khz {s:Str} {r:Bool} (h:Kcr s=some r):Pure Tryz.prog 60 [S s] (B r):=by
 refine Pure.enter (Fr.of 0 _) Tryz.func60 rfl (Fr.of_ok _) rfl rfl ?_
 refine go_in ?_
 unfold Kcr at h
 obtain ⟨y1,hy1,h2⟩:=bi_ok h
 refine go hΓ 9 rfl ?_
 refine eo_callP (callable Tryz.func105 rfl rfl) (Khu hy1) rfl (nBe rfl) rfl rfl rfl rfl rfl ?_
 refine go_ops hΓ 1 rfl ?_
 obtain ⟨q3,hq3,h4⟩:=bi_ok h2
 refine o_cut 4 [(2,B false),(10,B q3)] [] ?_ ?_
 ·refine eo_gsplit rfl rfl (fun hb=>?_) (fun hb=>?_)
  ·have h5:=cT hq3 hb
   obtain ⟨y6,hy6,h7⟩:=bi_ok h5
   refine go_ops hΓ 1 rfl ?_
   refine eo_guard rfl ?_
   refine eo_callP (callable Tryz.func153 rfl rfl) (Kas hy6) rfl (nBe rfl) rfl rfl rfl rfl rfl ?_
   refine go_ops hΓ 3 rfl ?_
   obtain rfl:=oSi h7
   exact ⟨⟨rfl,rfl,trivial⟩,[],rfl,.inl rfl⟩
  ·have h8:=cF hq3 hb
   refine go_ops hΓ 5 rfl ?_
   obtain rfl:=oSi h8
   exact ⟨⟨rfl,rfl,trivial⟩,[],rfl,.inl rfl⟩
 ·refine go_ops hΓ 4 rfl ?_
  obtain rfl:=oSi h4
  exact fin_pure hΓ (.inr rfl) rfl rfl
set_option maxHeartbeats 8000000 in
theorem Kia {s:Kbb} {c:Int} {r:Int} (h:Kcs s c=some r):Pure Tryz.prog 199 [.agg (fS s),.d (.v (.int .i32 c))] (I r):=by
 refine Pure.enter (Fr.of 0 _) Tryz.func199 rfl (Fr.of_ok _) rfl rfl ?_
 refine go_in ?_
 unfold Kcs at h
 refine go hΓ 2 rfl ?_
 refine eo_box rfl rfl rfl rfl (nBe rfl) ?_
 obtain ⟨q1,hq1,h2⟩:=bi_ok h
 refine go_ops hΓ 9 rfl ?_
 refine j_cutSZ (q:=q1) (fun a3=>[]) (fun a3=>[.box 37 (fS s)]) ?_ ?_
 ·obtain ⟨q4,hq4,h5⟩:=bi_ok hq1
  refine go hΓ 8 rfl ?_
  refine j_cutNZ [(1,.d (.v (.int .i32 c))),(2,.ptr 0 0),(6,.d (.v (.int .i32 c))),(7,B q4)] [.box 37 (fS s)] ?_ ?_
  ·refine j_cond rfl (fun hb=>?_) (fun hb=>?_)
   ·have h6:=cT hq4 hb
    refine go hΓ 1 rfl ?_
    obtain rfl:=oSi h6
    exact ⟨⟨rfl,rfl,rfl,rfl,trivial⟩,[],rfl,.inl rfl⟩
   ·have h7:=cF hq4 hb
    refine go hΓ 6 rfl ?_
    refine j_cond rfl (fun hb=>?_) (fun hb=>?_)
    ·have h8:=cT h7 hb
     refine go hΓ 1 rfl ?_
     obtain rfl:=oSi h8
     exact ⟨⟨rfl,rfl,rfl,rfl,trivial⟩,[],rfl,.inl rfl⟩
    ·have h9:=cF h7 hb
     refine go hΓ 6 rfl ?_
     refine j_cond rfl (fun hb=>?_) (fun hb=>?_)
     ·have h10:=cT h9 hb
      refine go hΓ 1 rfl ?_
      obtain rfl:=oSi h10
      exact ⟨⟨rfl,rfl,rfl,rfl,trivial⟩,[],rfl,.inl rfl⟩
     ·have h11:=cF h9 hb
      refine go hΓ 4 rfl ?_
      obtain rfl:=oSi h11
      exact ⟨⟨rfl,rfl,rfl,rfl,trivial⟩,[],rfl,.inl rfl⟩
  ·refine go hΓ 1 rfl ?_
   refine j_cond rfl (fun hb=>?_) (fun hb=>?_)
   ·have h12:=cT h5 hb
    refine go hΓ 2 rfl ?_
    refine eo_s (nBe rfl) (nblt.1 rfl) (ops_makeMap false) ?_
    refine eo_hp [.box 37 (fS s),mOb (kI .i32) false eS ([]:List (Int×Str))] rfl ?_
    refine go_ops hΓ 2 rfl ?_
    refine eo_u (nBe rfl) (opu_insert hΓ (kv:=(kI .i32)) (agg:=false) (enc:=eS) (id:=1) ([]:List (Int×Str)) 98 s.By rfl rfl rfl (key_int .i32) rfl rfl rfl rfl rfl) ?_
    refine eo_hp [.box 37 (fS s),mOb (kI .i32) false eS (mSet ([]:List (Int×Str)) 98 s.By)] rfl ?_
    refine go_ops hΓ 2 rfl ?_
    refine eo_u (nBe rfl) (opu_insert hΓ (kv:=(kI .i32)) (agg:=false) (enc:=eS) (id:=1) (mSet ([]:List (Int×Str)) 98 s.By) 110 s.Node rfl rfl rfl (key_int .i32) rfl rfl rfl rfl rfl) ?_
    refine eo_hp [.box 37 (fS s),mOb (kI .i32) false eS (mSet (mSet ([]:List (Int×Str)) 98 s.By) 110 s.Node)] rfl ?_
    refine go_ops hΓ 2 rfl ?_
    refine eo_u (nBe rfl) (opu_insert hΓ (kv:=(kI .i32)) (agg:=false) (enc:=eS) (id:=1) (mSet (mSet ([]:List (Int×Str)) 98 s.By) 110 s.Node) 106 s.Join rfl rfl rfl (key_int .i32) rfl rfl rfl rfl rfl) ?_
    refine eo_hp [.box 37 (fS s),mOb (kI .i32) false eS (mSet (mSet (mSet ([]:List (Int×Str)) 98 s.By) 110 s.Node) 106 s.Join)] rfl ?_
    refine go_ops hΓ 2 rfl ?_
    refine eo_u (nBe rfl) (opu_insert hΓ (kv:=(kI .i32)) (agg:=false) (enc:=eS) (id:=1) (mSet (mSet (mSet ([]:List (Int×Str)) 98 s.By) 110 s.Node) 106 s.Join) 109 s.Name rfl rfl rfl (key_int .i32) rfl rfl rfl rfl rfl) ?_
    refine eo_hp [.box 37 (fS s),mOb (kI .i32) false eS (mSet (mSet (mSet (mSet ([]:List (Int×Str)) 98 s.By) 110 s.Node) 106 s.Join) 109 s.Name)] rfl ?_
    refine go_ops hΓ 2 rfl ?_
    refine eo_o rfl (op_lookup hΓ (kv:=(kI .i32)) (agg:=false) (enc:=eS) (mSet (mSet (mSet (mSet ([]:List (Int×Str)) 98 s.By) 110 s.Node) 106 s.Join) 109 s.Name) c ([]:Str) rfl rfl rfl rfl (key_int .i32) rfl rfl rfl rfl rfl rfl rfl) ?_
    obtain ⟨y13,hy13,h14⟩:=bi_ok h12
    refine eo_callP (callable Tryz.func144 rfl rfl) (Khy hy13) rfl (nBe rfl) rfl rfl rfl rfl rfl ?_
    refine go_ops hΓ 5 rfl ?_
    obtain ⟨v15,hv15,h16⟩:=bi_ok h14
    obtain rfl:=oSi h16
    obtain rfl:=oSi h2
    refine go hΓ 2 rfl ?_
    obtain rfl:=oSi hv15
    exact fin_pure hΓ (.inr rfl) rfl rfl
   ·have h17:=cF h5 hb
    obtain ⟨q18,hq18,h19⟩:=bi_ok h17
    refine go hΓ 7 rfl ?_
    refine j_cutNZ [(1,.d (.v (.int .i32 c))),(2,.ptr 0 0),(6,.d (.v (.int .i32 c))),(25,B q18)] [.box 37 (fS s)] ?_ ?_
    ·refine j_cond rfl (fun hb=>?_) (fun hb=>?_)
     ·have h20:=cT hq18 hb
      refine go hΓ 1 rfl ?_
      obtain rfl:=oSi h20
      exact ⟨⟨rfl,rfl,rfl,rfl,trivial⟩,[],rfl,.inl rfl⟩
     ·have h21:=cF hq18 hb
      refine go hΓ 4 rfl ?_
      obtain rfl:=oSi h21
      exact ⟨⟨rfl,rfl,rfl,rfl,trivial⟩,[],rfl,.inl rfl⟩
    ·refine go hΓ 1 rfl ?_
     refine j_cond rfl (fun hb=>?_) (fun hb=>?_)
     ·have h22:=cT h19 hb
      refine go hΓ 2 rfl ?_
      refine eo_s (nBe rfl) (nblt.1 rfl) (ops_makeMap false) ?_
      refine eo_hp [.box 37 (fS s),mOb (kI .i32) false eS ([]:List (Int×Str))] rfl ?_
      refine go_ops hΓ 2 rfl ?_
      refine eo_u (nBe rfl) (opu_insert hΓ (kv:=(kI .i32)) (agg:=false) (enc:=eS) (id:=1) ([]:List (Int×Str)) 66 s.By rfl rfl rfl (key_int .i32) rfl rfl rfl rfl rfl) ?_
      refine eo_hp [.box 37 (fS s),mOb (kI .i32) false eS (mSet ([]:List (Int×Str)) 66 s.By)] rfl ?_
      refine go_ops hΓ 2 rfl ?_
      refine eo_u (nBe rfl) (opu_insert hΓ (kv:=(kI .i32)) (agg:=false) (enc:=eS) (id:=1) (mSet ([]:List (Int×Str)) 66 s.By) 74 s.Join rfl rfl rfl (key_int .i32) rfl rfl rfl rfl rfl) ?_
      refine eo_hp [.box 37 (fS s),mOb (kI .i32) false eS (mSet (mSet ([]:List (Int×Str)) 66 s.By) 74 s.Join)] rfl ?_
      refine go_ops hΓ 2 rfl ?_
      refine eo_o rfl (op_lookup hΓ (kv:=(kI .i32)) (agg:=false) (enc:=eS) (mSet (mSet ([]:List (Int×Str)) 66 s.By) 74 s.Join) c ([]:Str) rfl rfl rfl rfl (key_int .i32) rfl rfl rfl rfl rfl rfl rfl) ?_
      refine go_ops hΓ 9 rfl ?_
      refine j_cond rfl (fun hb=>?_) (fun hb=>?_)
      ·have h23:=cT h22 hb
       obtain ⟨y24,hy24,h25⟩:=bi_ok h23
       refine go hΓ 3 rfl ?_
       refine eo_callP (callable Tryz.func144 rfl rfl) (Khy hy24) rfl (nBe rfl) rfl rfl rfl rfl rfl ?_
       refine go_ops hΓ 5 rfl ?_
       obtain ⟨v26,hv26,h27⟩:=bi_ok h25
       obtain rfl:=oSi h27
       obtain rfl:=oSi h2
       refine go hΓ 2 rfl ?_
       obtain rfl:=oSi hv26
       exact fin_pure hΓ (.inr rfl) rfl rfl
      ·have h28:=cF h22 hb
       refine go hΓ 2 rfl ?_
       obtain rfl:=oSi h28
       exact ⟨_,rfl,⟨trivial,[_],rfl,.inr ⟨HB.mk rfl,FB.mk rfl,(nBe rfl)⟩⟩⟩
     ·have h29:=cF h19 hb
      refine go hΓ 6 rfl ?_
      refine j_cond rfl (fun hb=>?_) (fun hb=>?_)
      ·have h30:=cT h29 hb
       obtain ⟨y31,hy31,h32⟩:=bi_ok h30
       refine go hΓ 4 rfl ?_
       refine eo_callP (callable Tryz.func60 rfl rfl) (Khz hy31) rfl (nBe rfl) rfl rfl rfl rfl rfl ?_
       refine go_ops hΓ 3 rfl ?_
       refine j_cond rfl (fun hb=>?_) (fun hb=>?_)
       ·have h33:=cT h32 hb
        refine go hΓ 7 rfl ?_
        obtain ⟨v34,hv34,h35⟩:=bi_ok h33
        obtain rfl:=oSi h35
        obtain rfl:=oSi h2
        refine go hΓ 2 rfl ?_
        obtain rfl:=oSi hv34
        exact fin_pure hΓ (.inr rfl) rfl rfl
       ·have h36:=cF h32 hb
        refine go hΓ 2 rfl ?_
        obtain rfl:=oSi h36
        exact ⟨_,rfl,⟨trivial,[],rfl,.inl rfl⟩⟩
      ·have h37:=cF h29 hb
       refine go hΓ 6 rfl ?_
       refine j_cond rfl (fun hb=>?_) (fun hb=>?_)
       ·have h38:=cT h37 hb
        refine go hΓ 9 rfl ?_
        refine j_cond rfl (fun hb=>?_) (fun hb=>?_)
        ·have h39:=cT h38 hb
         refine go hΓ 8 rfl ?_
         obtain ⟨v40,hv40,h41⟩:=bi_ok h39
         obtain rfl:=oSi h41
         obtain rfl:=oSi h2
         refine go hΓ 2 rfl ?_
         obtain rfl:=oSi hv40
         exact fin_pure hΓ (.inr rfl) rfl rfl
        ·have h42:=cF h38 hb
         obtain ⟨y43,hy43,h44⟩:=bi_ok h42
         refine go hΓ 6 rfl ?_
         refine eo_callP (callable Tryz.func103 rfl rfl) (Khr hy43) rfl (nBe rfl) rfl rfl rfl rfl rfl ?_
         refine go_ops hΓ 5 rfl ?_
         obtain ⟨v45,hv45,h46⟩:=bi_ok h44
         obtain rfl:=oSi h46
         obtain rfl:=oSi h2
         refine go hΓ 2 rfl ?_
         obtain rfl:=oSi hv45
         exact fin_pure hΓ (.inr rfl) rfl rfl
       ·have h47:=cF h37 hb
        obtain ⟨q48,hq48,h49⟩:=bi_ok h47
        refine go hΓ 7 rfl ?_
        refine j_cutNZ [(1,.d (.v (.int .i32 c))),(2,.ptr 0 0),(55,B q48)] [.box 37 (fS s)] ?_ ?_
        ·refine j_cond rfl (fun hb=>?_) (fun hb=>?_)
         ·have h50:=cT hq48 hb
          refine go hΓ 1 rfl ?_
          obtain rfl:=oSi h50
          exact ⟨⟨rfl,rfl,rfl,trivial⟩,[],rfl,.inl rfl⟩
         ·have h51:=cF hq48 hb
          refine go hΓ 4 rfl ?_
          obtain rfl:=oSi h51
          exact ⟨⟨rfl,rfl,rfl,trivial⟩,[],rfl,.inl rfl⟩
        ·refine go hΓ 1 rfl ?_
         refine j_cond rfl (fun hb=>?_) (fun hb=>?_)
         ·have h52:=cT h49 hb
          refine go hΓ 2 rfl ?_
          refine eo_s (nBe rfl) (nblt.1 rfl) (ops_makeMap false) ?_
          refine eo_hp [.box 37 (fS s),mOb (kI .i32) false (eN .i64) ([]:List (Int×Int))] rfl ?_
          refine go_ops hΓ 2 rfl ?_
          refine eo_u (nBe rfl) (opu_insert hΓ (kv:=(kI .i32)) (agg:=false) (enc:=(eN .i64)) (id:=1) ([]:List (Int×Int)) 117 s.Until rfl rfl rfl (key_int .i32) rfl rfl rfl rfl rfl) ?_
          refine eo_hp [.box 37 (fS s),mOb (kI .i32) false (eN .i64) (mSet ([]:List (Int×Int)) 117 s.Until)] rfl ?_
          refine go_ops hΓ 2 rfl ?_
          refine eo_u (nBe rfl) (opu_insert hΓ (kv:=(kI .i32)) (agg:=false) (enc:=(eN .i64)) (id:=1) (mSet ([]:List (Int×Int)) 117 s.Until) 115 s.Uses rfl rfl rfl (key_int .i32) rfl rfl rfl rfl rfl) ?_
          refine eo_hp [.box 37 (fS s),mOb (kI .i32) false (eN .i64) (mSet (mSet ([]:List (Int×Int)) 117 s.Until) 115 s.Uses)] rfl ?_
          refine go_ops hΓ 2 rfl ?_
          refine eo_o rfl (op_lookup hΓ (kv:=(kI .i32)) (agg:=false) (enc:=(eN .i64)) (mSet (mSet ([]:List (Int×Int)) 117 s.Until) 115 s.Uses) c (0:Int) rfl rfl rfl rfl (key_int .i32) rfl rfl rfl rfl rfl rfl rfl) ?_
          obtain ⟨y53,hy53,h54⟩:=bi_ok h52
          refine eo_callP (callable Tryz.func105 rfl rfl) (Khu hy53) rfl (nBe rfl) rfl rfl rfl rfl rfl ?_
          refine go_ops hΓ 3 rfl ?_
          refine j_cond rfl (fun hb=>?_) (fun hb=>?_)
          ·have h55:=cT h54 hb
           refine go hΓ 7 rfl ?_
           obtain ⟨v56,hv56,h57⟩:=bi_ok h55
           obtain rfl:=oSi h57
           obtain rfl:=oSi h2
           refine go hΓ 2 rfl ?_
           obtain rfl:=oSi hv56
           exact fin_pure hΓ (.inr rfl) rfl rfl
          ·have h58:=cF h54 hb
           refine go hΓ 2 rfl ?_
           obtain rfl:=oSi h58
           exact ⟨_,rfl,⟨trivial,[_],rfl,.inr ⟨HB.mk rfl,FB.mk rfl,(nBe rfl)⟩⟩⟩
         ·have h59:=cF h49 hb
          refine go hΓ 2 rfl ?_
          obtain rfl:=oSi h59
          exact ⟨_,rfl,⟨trivial,[],rfl,.inl rfl⟩⟩
 ·intro a3 ha
  subst ha
  replace h2:=orI_l h2
  refine go hΓ 7 rfl ?_
  obtain rfl:=oSi h2
  exact fin_pure hΓ (.inr rfl) rfl rfl
set_option maxHeartbeats 8000000 in
theorem Kib {s:Kbb} {r:Int} (h:Kct s=some r):Pure Tryz.prog 95 [.agg (fS s)] (I r):=by
 refine Pure.enter (Fr.of 0 _) Tryz.func95 rfl (Fr.of_ok _) rfl rfl ?_
 refine go_in ?_
 unfold Kct at h
 refine go hΓ 2 rfl ?_
 refine eo_box rfl rfl rfl rfl (nBe rfl) ?_
 obtain ⟨y1,hy1,h2⟩:=bi_ok h
 refine go_ops hΓ 9 rfl ?_
 refine eo_callP (callable Tryz.func143 rfl rfl) (Khw hy1) rfl (nBe rfl) rfl rfl rfl rfl rfl ?_
 refine go_ops hΓ 4 rfl ?_
 refine j_cond rfl (fun hb=>?_) (fun hb=>?_)
 ·have h3:=cT h2 hb
  refine go hΓ 8 rfl ?_
  obtain rfl:=oSi h3
  exact fin_pure hΓ (.inr rfl) rfl rfl
 ·have h4:=cF h2 hb
  obtain ⟨y5,hy5,h6⟩:=bi_ok h4
  refine go hΓ 4 rfl ?_
  refine eo_callP (callable Tryz.func104 rfl rfl) (Khq hy5) rfl (nBe rfl) rfl rfl rfl rfl rfl ?_
  refine go_ops hΓ 4 rfl ?_
  refine j_cond rfl (fun hb=>?_) (fun hb=>?_)
  ·have h7:=cT h6 hb
   refine go hΓ 8 rfl ?_
   obtain rfl:=oSi h7
   exact fin_pure hΓ (.inr rfl) rfl rfl
  ·have h8:=cF h6 hb
   obtain ⟨y9,hy9,h10⟩:=bi_ok h8
   refine go hΓ 4 rfl ?_
   refine eo_callP (callable Tryz.func105 rfl rfl) (Khu hy9) rfl (nBe rfl) rfl rfl rfl rfl rfl ?_
   refine go_ops hΓ 4 rfl ?_
   refine j_cond rfl (fun hb=>?_) (fun hb=>?_)
   ·have h11:=cT h10 hb
    refine go hΓ 8 rfl ?_
    obtain rfl:=oSi h11
    exact fin_pure hΓ (.inr rfl) rfl rfl
   ·have h12:=cF h10 hb
    obtain ⟨y13,hy13,h14⟩:=bi_ok h12
    refine go hΓ 4 rfl ?_
    refine eo_callP (callable Tryz.func105 rfl rfl) (Khu hy13) rfl (nBe rfl) rfl rfl rfl rfl rfl ?_
    refine go_ops hΓ 4 rfl ?_
    refine j_cond rfl (fun hb=>?_) (fun hb=>?_)
    ·have h15:=cT h14 hb
     refine go hΓ 8 rfl ?_
     obtain rfl:=oSi h15
     exact fin_pure hΓ (.inr rfl) rfl rfl
    ·have h16:=cF h14 hb
     obtain ⟨y17,hy17,h18⟩:=bi_ok h16
     refine go hΓ 8 rfl ?_
     refine eo_callP (callable Tryz.func198 rfl rfl) (Khx hy17) rfl (nBe rfl) rfl rfl rfl rfl rfl ?_
     obtain ⟨hg20,h19⟩:=gd_ok h18
     refine eo_rangeS hΓ y17 rfl rfl rfl rfl (nBe rfl) ?_
     refine go_ops hΓ 2 rfl ?_
     obtain ⟨q26,hq26,h27⟩:=bi_ok h19
     refine go hΓ 1 rfl ?_
     refine j_rangeS y17 hq26 (fun sn23 s21=>[(1,.ptr 0 0),(33,.ptr 1 0)]) (fun sn23 s21=>[.box 37 (fS s),.siter y17 sn23]) ⟨⟨rfl,rfl,trivial⟩,[],rfl,.inl rfl⟩ (fun sn23 s21 hdone28 hstep29=>?_)
     refine go hΓ 2 rfl ?_
     refine eo_nextS y17 sn23 [.box 37 (fS s),.dead] rfl rfl rfl rfl (nBe rfl) hg20 (fun hdsn23=>?_) (fun x22 hjsn23=>?_)
     ·have hqsn23:=hdone28 hdsn23
      subst hqsn23
      replace h27:=goI_l h27
      obtain ⟨y30,hy30,h31⟩:=bi_ok h27
      refine go_ops hΓ 14 rfl ?_
      refine eo_callP (callable Tryz.func198 rfl rfl) (Khx hy30) rfl (nBe rfl) rfl rfl rfl rfl rfl ?_
      obtain ⟨y32,hy32,h33⟩:=bi_ok h31
      refine eo_callP (callable Tryz.func200 rfl rfl) (Kax hy32) rfl (nBe rfl) rfl rfl rfl rfl rfl ?_
      refine go_ops hΓ 5 rfl ?_
      refine eo_s (nBe rfl) (nblt.1 rfl) (ops_makeMap false) ?_
      refine eo_hp [.box 37 (fS s),.dead,mOb (kI .u8) false eB ([]:List (Int×Bool))] rfl ?_
      refine go_ops hΓ 3 rfl ?_
      refine eo_u (nBe rfl) (opu_insert hΓ (kv:=(kI .u8)) (agg:=false) (enc:=eB) (id:=2) ([]:List (Int×Bool)) 98 ((s.By:Str)==[]) rfl rfl rfl (key_int .u8) rfl rfl rfl rfl rfl) ?_
      refine eo_hp [.box 37 (fS s),.dead,mOb (kI .u8) false eB (mSet ([]:List (Int×Bool)) 98 ((s.By:Str)==[]))] rfl ?_
      refine go_ops hΓ 3 rfl ?_
      refine eo_u (nBe rfl) (opu_insert hΓ (kv:=(kI .u8)) (agg:=false) (enc:=eB) (id:=2) (mSet ([]:List (Int×Bool)) 98 ((s.By:Str)==[])) 110 ((s.Node:Str)==[]) rfl rfl rfl (key_int .u8) rfl rfl rfl rfl rfl) ?_
      refine eo_hp [.box 37 (fS s),.dead,mOb (kI .u8) false eB (mSet (mSet ([]:List (Int×Bool)) 98 ((s.By:Str)==[])) 110 ((s.Node:Str)==[]))] rfl ?_
      refine go_ops hΓ 3 rfl ?_
      refine eo_u (nBe rfl) (opu_insert hΓ (kv:=(kI .u8)) (agg:=false) (enc:=eB) (id:=2) (mSet (mSet ([]:List (Int×Bool)) 98 ((s.By:Str)==[])) 110 ((s.Node:Str)==[])) 106 ((s.Join:Str)==[]) rfl rfl rfl (key_int .u8) rfl rfl rfl rfl rfl) ?_
      refine eo_hp [.box 37 (fS s),.dead,mOb (kI .u8) false eB (mSet (mSet (mSet ([]:List (Int×Bool)) 98 ((s.By:Str)==[])) 110 ((s.Node:Str)==[])) 106 ((s.Join:Str)==[]))] rfl ?_
      refine go_ops hΓ 3 rfl ?_
      refine eo_u (nBe rfl) (opu_insert hΓ (kv:=(kI .u8)) (agg:=false) (enc:=eB) (id:=2) (mSet (mSet (mSet ([]:List (Int×Bool)) 98 ((s.By:Str)==[])) 110 ((s.Node:Str)==[])) 106 ((s.Join:Str)==[])) 112 ((s.Public:Str)==[]) rfl rfl rfl (key_int .u8) rfl rfl rfl rfl rfl) ?_
      refine eo_hp [.box 37 (fS s),.dead,mOb (kI .u8) false eB (mSet (mSet (mSet (mSet ([]:List (Int×Bool)) 98 ((s.By:Str)==[])) 110 ((s.Node:Str)==[])) 106 ((s.Join:Str)==[])) 112 ((s.Public:Str)==[]))] rfl ?_
      refine go_ops hΓ 3 rfl ?_
      refine eo_u (nBe rfl) (opu_insert hΓ (kv:=(kI .u8)) (agg:=false) (enc:=eB) (id:=2) (mSet (mSet (mSet (mSet ([]:List (Int×Bool)) 98 ((s.By:Str)==[])) 110 ((s.Node:Str)==[])) 106 ((s.Join:Str)==[])) 112 ((s.Public:Str)==[])) 109 ((s.Name:Str)==[]) rfl rfl rfl (key_int .u8) rfl rfl rfl rfl rfl) ?_
      refine eo_hp [.box 37 (fS s),.dead,mOb (kI .u8) false eB (mSet (mSet (mSet (mSet (mSet ([]:List (Int×Bool)) 98 ((s.By:Str)==[])) 110 ((s.Node:Str)==[])) 106 ((s.Join:Str)==[])) 112 ((s.Public:Str)==[])) 109 ((s.Name:Str)==[]))] rfl ?_
      refine go_ops hΓ 4 rfl ?_
      refine eo_u (nBe rfl) (opu_insert hΓ (kv:=(kI .u8)) (agg:=false) (enc:=eB) (id:=2) (mSet (mSet (mSet (mSet (mSet ([]:List (Int×Bool)) 98 ((s.By:Str)==[])) 110 ((s.Node:Str)==[])) 106 ((s.Join:Str)==[])) 112 ((s.Public:Str)==[])) 109 ((s.Name:Str)==[])) 116 (((s.Tags.length:Int):Int)==0) rfl rfl rfl (key_int .u8) rfl rfl rfl rfl rfl) ?_
      refine eo_hp [.box 37 (fS s),.dead,mOb (kI .u8) false eB (mSet (mSet (mSet (mSet (mSet (mSet ([]:List (Int×Bool)) 98 ((s.By:Str)==[])) 110 ((s.Node:Str)==[])) 106 ((s.Join:Str)==[])) 112 ((s.Public:Str)==[])) 109 ((s.Name:Str)==[])) 116 (((s.Tags.length:Int):Int)==0))] rfl ?_
      refine go_ops hΓ 3 rfl ?_
      refine eo_u (nBe rfl) (opu_insert hΓ (kv:=(kI .u8)) (agg:=false) (enc:=eB) (id:=2) (mSet (mSet (mSet (mSet (mSet (mSet ([]:List (Int×Bool)) 98 ((s.By:Str)==[])) 110 ((s.Node:Str)==[])) 106 ((s.Join:Str)==[])) 112 ((s.Public:Str)==[])) 109 ((s.Name:Str)==[])) 116 (((s.Tags.length:Int):Int)==0)) 117 ((s.Until:Int)==0) rfl rfl rfl (key_int .u8) rfl rfl rfl rfl rfl) ?_
      refine eo_hp [.box 37 (fS s),.dead,mOb (kI .u8) false eB (mSet (mSet (mSet (mSet (mSet (mSet (mSet ([]:List (Int×Bool)) 98 ((s.By:Str)==[])) 110 ((s.Node:Str)==[])) 106 ((s.Join:Str)==[])) 112 ((s.Public:Str)==[])) 109 ((s.Name:Str)==[])) 116 (((s.Tags.length:Int):Int)==0)) 117 ((s.Until:Int)==0))] rfl ?_
      refine go_ops hΓ 3 rfl ?_
      refine eo_u (nBe rfl) (opu_insert hΓ (kv:=(kI .u8)) (agg:=false) (enc:=eB) (id:=2) (mSet (mSet (mSet (mSet (mSet (mSet (mSet ([]:List (Int×Bool)) 98 ((s.By:Str)==[])) 110 ((s.Node:Str)==[])) 106 ((s.Join:Str)==[])) 112 ((s.Public:Str)==[])) 109 ((s.Name:Str)==[])) 116 (((s.Tags.length:Int):Int)==0)) 117 ((s.Until:Int)==0)) 115 ((s.Uses:Int)==0) rfl rfl rfl (key_int .u8) rfl rfl rfl rfl rfl) ?_
      refine eo_hp [.box 37 (fS s),.dead,mOb (kI .u8) false eB (mSet (mSet (mSet (mSet (mSet (mSet (mSet (mSet ([]:List (Int×Bool)) 98 ((s.By:Str)==[])) 110 ((s.Node:Str)==[])) 106 ((s.Join:Str)==[])) 112 ((s.Public:Str)==[])) 109 ((s.Name:Str)==[])) 116 (((s.Tags.length:Int):Int)==0)) 117 ((s.Until:Int)==0)) 115 ((s.Uses:Int)==0))] rfl ?_
      refine go_ops hΓ 3 rfl ?_
      refine eo_u (nBe rfl) (opu_insert hΓ (kv:=(kI .u8)) (agg:=false) (enc:=eB) (id:=2) (mSet (mSet (mSet (mSet (mSet (mSet (mSet (mSet ([]:List (Int×Bool)) 98 ((s.By:Str)==[])) 110 ((s.Node:Str)==[])) 106 ((s.Join:Str)==[])) 112 ((s.Public:Str)==[])) 109 ((s.Name:Str)==[])) 116 (((s.Tags.length:Int):Int)==0)) 117 ((s.Until:Int)==0)) 115 ((s.Uses:Int)==0)) 114 (!s.Ready) rfl rfl rfl (key_int .u8) rfl rfl rfl rfl rfl) ?_
      refine eo_hp [.box 37 (fS s),.dead,mOb (kI .u8) false eB (mSet (mSet (mSet (mSet (mSet (mSet (mSet (mSet (mSet ([]:List (Int×Bool)) 98 ((s.By:Str)==[])) 110 ((s.Node:Str)==[])) 106 ((s.Join:Str)==[])) 112 ((s.Public:Str)==[])) 109 ((s.Name:Str)==[])) 116 (((s.Tags.length:Int):Int)==0)) 117 ((s.Until:Int)==0)) 115 ((s.Uses:Int)==0)) 114 (!s.Ready))] rfl ?_
      refine go_ops hΓ 8 rfl ?_
      refine eo_range hΓ (kv:=(kI .u8)) (agg:=false) (enc:=eB) (mSet (mSet (mSet (mSet (mSet (mSet (mSet (mSet (mSet ([]:List (Int×Bool)) 98 ((s.By:Str)==[])) 110 ((s.Node:Str)==[])) 106 ((s.Join:Str)==[])) 112 ((s.Public:Str)==[])) 109 ((s.Name:Str)==[])) 116 (((s.Tags.length:Int):Int)==0)) 117 ((s.Until:Int)==0)) 115 ((s.Uses:Int)==0)) 114 (!s.Ready)) rfl rfl rfl rfl rfl (nBe rfl) (fun mr34 bs35 cl36 hpm37 hbl38 hbn39=>?_)
      refine eo_hp [.box 37 (fS s),.dead,mObS (kI .u8) false eB (mSet (mSet (mSet (mSet (mSet (mSet (mSet (mSet (mSet ([]:List (Int×Bool)) 98 ((s.By:Str)==[])) 110 ((s.Node:Str)==[])) 106 ((s.Join:Str)==[])) 112 ((s.Public:Str)==[])) 109 ((s.Name:Str)==[])) 116 (((s.Tags.length:Int):Int)==0)) 117 ((s.Until:Int)==0)) 115 ((s.Uses:Int)==0)) 114 (!s.Ready)) (rawM (kI .u8) eB mr34 bs35 cl36),.iter 2 cl36 []] rfl ?_
      refine go_ops hΓ 2 rfl ?_
      obtain ⟨q45,hq45,h46⟩:=bi_ok h33
      refine go hΓ 1 rfl ?_
      refine j_rangePM hq45 hpm37 hbl38 hbn39 (fun s40=>[(6,S y32),(78,.ptr 3 0)]) (fun sn42 s40=>[.box 37 (fS s),.dead,mObS (kI .u8) false eB (mSet (mSet (mSet (mSet (mSet (mSet (mSet (mSet (mSet ([]:List (Int×Bool)) 98 ((s.By:Str)==[])) 110 ((s.Node:Str)==[])) 106 ((s.Join:Str)==[])) 112 ((s.Public:Str)==[])) 109 ((s.Name:Str)==[])) 116 (((s.Tags.length:Int):Int)==0)) 117 ((s.Until:Int)==0)) 115 ((s.Uses:Int)==0)) 114 (!s.Ready)) (rawM (kI .u8) eB mr34 bs35 cl36),.iter 2 cl36 sn42]) ⟨⟨rfl,rfl,trivial⟩,[],rfl,.inl rfl⟩ (fun sn42 s40 hdone47 hstep48=>?_)
      refine go hΓ 2 rfl ?_
      refine eo_next (kv:=(kI .u8)) (agg:=false) (enc:=eB) (mSet (mSet (mSet (mSet (mSet (mSet (mSet (mSet (mSet ([]:List (Int×Bool)) 98 ((s.By:Str)==[])) 110 ((s.Node:Str)==[])) 106 ((s.Join:Str)==[])) 112 ((s.Public:Str)==[])) 109 ((s.Name:Str)==[])) 116 (((s.Tags.length:Int):Int)==0)) 117 ((s.Until:Int)==0)) 115 ((s.Uses:Int)==0)) 114 (!s.Ready)) mr34 bs35 cl36 sn42 [.box 37 (fS s),.dead,mOb (kI .u8) false eB (mSet (mSet (mSet (mSet (mSet (mSet (mSet (mSet (mSet ([]:List (Int×Bool)) 98 ((s.By:Str)==[])) 110 ((s.Node:Str)==[])) 106 ((s.Join:Str)==[])) 112 ((s.Public:Str)==[])) 109 ((s.Name:Str)==[])) 116 (((s.Tags.length:Int):Int)==0)) 117 ((s.Until:Int)==0)) 115 ((s.Uses:Int)==0)) 114 (!s.Ready)),.dead] rfl rfl rfl rfl rfl (nBe rfl) (fun hdsn42=>?_) (fun j43 x41 b44 hjsn42 hbsn42 hnsn42=>?_)
      ·have hqsn42:=hdone47 hdsn42
       subst hqsn42
       replace h46:=goI_l h46
       refine go_ops hΓ 16 rfl ?_
       obtain rfl:=oSi h46
       exact fin_pure hΓ (.inr rfl) rfl rfl
      ·obtain ⟨s49,h50,houtsn42⟩:=hstep48 j43 x41 b44 hjsn42 hbsn42 hnsn42
       have hssn42:=h50
       refine go_ops hΓ 10 rfl ?_
       refine eo_o rfl (op_entry (kv:=(kI .u8)) (agg:=false) (enc:=eB) (mSet (mSet (mSet (mSet (mSet (mSet (mSet (mSet (mSet ([]:List (Int×Bool)) 98 ((s.By:Str)==[])) 110 ((s.Node:Str)==[])) 106 ((s.Join:Str)==[])) 112 ((s.Public:Str)==[])) 109 ((s.Name:Str)==[])) 116 (((s.Tags.length:Int):Int)==0)) 117 ((s.Until:Int)==0)) 115 ((s.Uses:Int)==0)) 114 (!s.Ready)) mr34 bs35 cl36 sn42 hjsn42 hbsn42 rfl rfl rfl rfl (fun _=>rfl)) ?_
       refine go_ops hΓ 11 rfl ?_
       obtain ⟨q51,hq51,h52⟩:=bi_ok h50
       refine o_cut 5 [(6,S y32),(78,.ptr 3 0),(91,B q51)] [.box 37 (fS s),.dead,mObS (kI .u8) false eB (mSet (mSet (mSet (mSet (mSet (mSet (mSet (mSet (mSet ([]:List (Int×Bool)) 98 ((s.By:Str)==[])) 110 ((s.Node:Str)==[])) 106 ((s.Join:Str)==[])) 112 ((s.Public:Str)==[])) 109 ((s.Name:Str)==[])) 116 (((s.Tags.length:Int):Int)==0)) 117 ((s.Until:Int)==0)) 115 ((s.Uses:Int)==0)) 114 (!s.Ready)) (rawM (kI .u8) eB mr34 bs35 cl36),.iter 2 cl36 (sn42++[b44])] ?_ ?_
       ·refine eo_gsplit rfl rfl (fun hb=>?_) (fun hb=>?_)
        ·have h53:=cT hq51 hb
         obtain ⟨y54,hy54,h55⟩:=bi_ok h53
         refine go_ops hΓ 2 rfl ?_
         refine eo_guard rfl ?_
         refine eo_callP (callable Tryz.func201 rfl rfl) (Kaw hy54) rfl (nBe rfl) rfl rfl rfl rfl rfl ?_
         refine go_ops hΓ 3 rfl ?_
         obtain rfl:=oSi h55
         exact ⟨⟨rfl,rfl,rfl,trivial⟩,[],rfl,.inl rfl⟩
        ·have h56:=cF hq51 hb
         refine go_ops hΓ 6 rfl ?_
         obtain rfl:=oSi h56
         exact ⟨⟨rfl,rfl,rfl,trivial⟩,[],rfl,.inl rfl⟩
       ·refine go_ops hΓ 2 rfl ?_
        refine j_cond rfl (fun hb=>?_) (fun hb=>?_)
        ·have h57:=cT h52 hb
         refine go hΓ 5 rfl ?_
         refine j_unraw (kv:=(kI .u8)) (agg:=false) (enc:=eB) (id:=2) (mSet (mSet (mSet (mSet (mSet (mSet (mSet (mSet (mSet ([]:List (Int×Bool)) 98 ((s.By:Str)==[])) 110 ((s.Node:Str)==[])) 106 ((s.Join:Str)==[])) 112 ((s.Public:Str)==[])) 109 ((s.Name:Str)==[])) 116 (((s.Tags.length:Int):Int)==0)) 117 ((s.Until:Int)==0)) 115 ((s.Uses:Int)==0)) 114 (!s.Ready)) [.box 37 (fS s),.dead,mOb (kI .u8) false eB (mSet (mSet (mSet (mSet (mSet (mSet (mSet (mSet (mSet ([]:List (Int×Bool)) 98 ((s.By:Str)==[])) 110 ((s.Node:Str)==[])) 106 ((s.Join:Str)==[])) 112 ((s.Public:Str)==[])) 109 ((s.Name:Str)==[])) 116 (((s.Tags.length:Int):Int)==0)) 117 ((s.Until:Int)==0)) 115 ((s.Uses:Int)==0)) 114 (!s.Ready)),.iter 2 cl36 (sn42++[b44])] rfl rfl (nBe rfl) ?_
         refine go hΓ 2 rfl ?_
         obtain ⟨v58,hv58,h59⟩:=bi_ok h57
         obtain rfl:=oSi h59
         obtain rfl:=houtsn42 _ rfl
         obtain rfl:=oSi h46
         refine go hΓ 3 rfl ?_
         obtain rfl:=oSi hv58
         exact fin_pure hΓ (.inr rfl) rfl rfl
        ·have h60:=cF h52 hb
         refine go hΓ 2 rfl ?_
         obtain rfl:=oSi h60
         exact ⟨j43,x41,b44,_,hjsn42,hbsn42,hnsn42,hssn42,⟨⟨rfl,rfl,trivial⟩,[],rfl,.inl rfl⟩⟩
     ·obtain ⟨s61,h62,houtsn23⟩:=hstep29 x22 hjsn23
      have hssn23:=h62
      obtain ⟨y63,hy63,h64⟩:=bi_ok h62
      refine go_ops hΓ 18 rfl ?_
      refine eo_callP (callable Tryz.func199 rfl rfl) (Kia hy63) rfl (nBe rfl) rfl rfl rfl rfl rfl ?_
      refine go_ops hΓ 9 rfl ?_
      refine j_cond rfl (fun hb=>?_) (fun hb=>?_)
      ·have h65:=cT h64 hb
       refine go hΓ 8 rfl ?_
       obtain ⟨v66,hv66,h67⟩:=bi_ok h65
       obtain rfl:=oSi h67
       obtain rfl:=houtsn23 _ rfl
       obtain rfl:=oSi h27
       refine go hΓ 3 rfl ?_
       obtain rfl:=oSi hv66
       exact fin_pure hΓ (.inr rfl) rfl rfl
      ·have h68:=cF h64 hb
       refine go hΓ 2 rfl ?_
       obtain rfl:=oSi h68
       exact ⟨x22,_,hjsn23,hssn23,⟨⟨rfl,rfl,trivial⟩,[],rfl,.inl rfl⟩⟩
theorem Kic {x:Kbb} {x2:Kbb} {r:Bool} (h:Kcu x x2=some r):EC Tryz.prog 113 [.agg (fS x),.ptr 0 0] [.box 37 (fS x2)] fun g hp'=>g=B r∧hp'=[.box 37 (fS x2)]:=by
 refine ec_enter (Fr.of 0 _) Tryz.func113 rfl (Fr.of_ok _) (nBe rfl) fun _=>?_
 refine go_in ?_
 unfold Kcu at h
 refine go hΓ 2 rfl ?_
 refine eo_box rfl rfl rfl rfl (nBe rfl) ?_
 refine go_ops hΓ 11 rfl ?_
 refine o_cut 6 [(3,B false),(15,B (((x.Server:Str)==x2.Server)&&((x.No:Int)==x2.No)))] [.box 37 (fS x2),.box 37 (fS x)] ?_ ?_
 ·refine eo_gsplit rfl rfl (fun hb=>?_) (fun hb=>?_)
  ·refine go_ops hΓ 7 rfl ?_
   exact ⟨⟨rfl,get_b rfl (and_t hb),trivial⟩,[],rfl,.inl rfl⟩
  ·refine go_ops hΓ 7 rfl ?_
   exact ⟨⟨rfl,get_b rfl (and_f hb),trivial⟩,[],rfl,.inl rfl⟩
 ·refine go_ops hΓ 4 rfl ?_
  obtain rfl:=oSi h
  exact fin_objs hΓ [_] (.inr rfl) rfl rfl rfl rfl (.inr ⟨HB.mk rfl,rfl⟩)
theorem Kid {s:List Kbb} {f:Kbb} {r:Int} (h:Kcv s f=some r):EC Tryz.prog 114 [.d (Sl Kgl s),.fn (.func 113) [] [.ptr 0 0]] [.box 37 (fS f)] fun g hp'=>g=I r∧hp'=[.box 37 (fS f)]:=by
 refine ec_enter (Fr.of 0 _) Tryz.func114 rfl (Fr.of_ok _) (nBe rfl) fun _=>?_
 refine go_in ?_
 unfold Kcv at h
 refine go hΓ 13 rfl ?_
 obtain ⟨q4,hq4,h5⟩:=bi_ok h
 refine j_bound 0 rfl fun hb7=>?_
 refine j_cutEZ (R:=fun a6=>q4=.go a6) (fun a6=>[]) (fun a6=>[.box 37 (fS f)]) ?_ ?_
 ·refine go hΓ 1 rfl ?_
  refine j_range s hq4 (fun i1 s2=>[(0,.d (Sl Kgl s)),(1,.fn (.func 113) [] [.ptr 0 0]),(7,I (s.length:Int)),(8,I (i1:Int))]) (fun s2=>[.box 37 (fS f)]) ⟨⟨rfl,rfl,rfl,rfl,trivial⟩,[],rfl,.inl rfl⟩ (fun i1 x3 s2 y11 hx8 hlt hy9 hout10=>?_) (fun s2 hgo=>?_)
  ·refine go hΓ 6 rfl ?_
   refine j_condT rfl (decide_eq_true (Int.ofNat_lt.2 hlt)) ?_
   refine go hΓ 15 rfl ?_
   refine eo_o rfl (op_elemZ hΓ (enc:=Kgl) (getZ_nat hx8) rfl rfl rfl rfl rfl (fun _=>rfl)) ?_
   obtain ⟨y12,hy12,h13⟩:=bi_ok hy9
   refine go_ops hΓ 1 rfl ?_
   refine eo_callF [0] (B y12) [.box 37 (fS f)] (callable Tryz.func113 rfl rfl) (Kic hy12) rfl (nBe rfl) rfl rfl rfl rfl rfl rfl rfl rfl rfl rfl ?_
   refine go_ops hΓ 2 rfl ?_
   refine j_cond rfl (fun hb=>?_) (fun hb=>?_)
   ·have h14:=cT h13 hb
    refine go hΓ 9 rfl ?_
    obtain ⟨v15,hv15,h16⟩:=bi_ok h14
    obtain rfl:=oSi h16
    obtain rfl:=hout10 _ rfl
    obtain rfl:=oSi h5
    refine go hΓ 4 rfl ?_
    obtain rfl:=oSi hv15
    exact fin_objs hΓ [] (.inr rfl) rfl rfl rfl rfl (.inl rfl)
   ·have h17:=cF h13 hb
    refine go hΓ 7 rfl ?_
    obtain rfl:=oSi h17
    exact ⟨_,rfl,⟨⟨rfl,rfl,rfl,get_eq rfl (w64_succ (Nat.lt_of_lt_of_le hlt hb7)),trivial⟩,[],rfl,.inl rfl⟩⟩
  ·subst hgo
   refine go hΓ 6 rfl ?_
   refine j_condF rfl (decide_eq_false (Int.lt_irrefl _)) ?_
   refine go hΓ 4 rfl ?_
   exact ⟨_,rfl,⟨trivial,[],rfl,.inl rfl⟩⟩
 ·intro a6 ha
  subst ha
  replace h5:=goI_l h5
  refine go hΓ 7 rfl ?_
  obtain rfl:=oSi h5
  exact fin_objs hΓ [] (.inr rfl) rfl rfl rfl rfl (.inl rfl)
theorem Kie {s:List Kbb} {f:Kbb} {r:Bool} (h:Kcw s f=some r):EC Tryz.prog 90 [.d (Sl Kgl s),.fn (.func 113) [] [.ptr 0 0]] [.box 37 (fS f)] fun g hp'=>g=B r∧hp'=[.box 37 (fS f)]:=by
 refine ec_enter (Fr.of 0 _) Tryz.func90 rfl (Fr.of_ok _) (nBe rfl) fun _=>?_
 refine go_in ?_
 unfold Kcw at h
 obtain ⟨y1,hy1,h2⟩:=bi_ok h
 refine go hΓ 9 rfl ?_
 refine eo_callF [0] (I y1) [.box 37 (fS f)] (callable Tryz.func114 rfl rfl) (Kid hy1) rfl (nBe rfl) rfl rfl rfl rfl rfl rfl rfl rfl rfl rfl ?_
 refine go_ops hΓ 5 rfl ?_
 obtain rfl:=oSi h2
 exact fin_objs hΓ [] (.inr rfl) rfl rfl rfl rfl (.inl rfl)
set_option maxHeartbeats 8000000 in
theorem Kif {l:List Kbb} {r:Int} (h:Kcx l=some r):Pure Tryz.prog 32 [.d (Sl Kgl l)] (I r):=by
 refine Pure.enter (Fr.of 0 _) Tryz.func32 rfl (Fr.of_ok _) rfl rfl ?_
 refine go_in ?_
 unfold Kcx at h
 refine go hΓ 13 rfl ?_
 refine j_cond rfl (fun hb=>?_) (fun hb=>?_)
 ·have h1:=cT h hb
  refine go hΓ 7 rfl ?_
  obtain rfl:=oSi h1
  exact fin_pure hΓ (.inr rfl) rfl rfl
 ·have h2:=cF h hb
  refine go hΓ 10 rfl ?_
  obtain ⟨q6,hq6,h7⟩:=bi_ok h2
  refine j_bound 0 rfl fun hb9=>?_
  refine j_cutEZ (R:=fun a8=>q6=.go a8) (fun a8=>[]) (fun a8=>[]) ?_ ?_
  ·refine go hΓ 1 rfl ?_
   refine j_range l hq6 (fun i3 s4=>[(0,.d (Sl Kgl l)),(9,.d (Sl Kgl l)),(10,I (l.length:Int)),(11,I (i3:Int))]) (fun s4=>[]) ⟨⟨rfl,rfl,rfl,rfl,trivial⟩,[],rfl,.inl rfl⟩ (fun i3 x5 s4 y13 hx10 hlt hy11 hout12=>?_) (fun s4 hgo=>?_)
   ·refine go hΓ 6 rfl ?_
    refine j_condT rfl (decide_eq_true (Int.ofNat_lt.2 hlt)) ?_
    refine go hΓ 7 rfl ?_
    refine eo_o rfl (op_elemZ hΓ (enc:=Kgl) (getZ_nat hx10) rfl rfl rfl rfl rfl (fun _=>rfl)) ?_
    refine go_ops hΓ 1 rfl ?_
    refine eo_alloc hΓ rfl rfl rfl (nBe rfl) ?_
    refine go_ops hΓ 1 rfl ?_
    refine eo_store hΓ rfl rfl rfl rfl rfl rfl rfl rfl (nBe rfl) ?_
    refine eo_hp [.box 37 (fS x5)] rfl ?_
    obtain ⟨y14,hy14,h15⟩:=bi_ok hy11
    refine go_ops hΓ 6 rfl ?_
    refine eo_callP (callable Tryz.func95 rfl rfl) (Kib hy14) rfl (nBe rfl) rfl rfl rfl rfl rfl ?_
    refine go_ops hΓ 9 rfl ?_
    refine j_cond rfl (fun hb=>?_) (fun hb=>?_)
    ·have h16:=cT h15 hb
     refine go hΓ 10 rfl ?_
     obtain ⟨v17,hv17,h18⟩:=bi_ok h16
     obtain rfl:=oSi h18
     obtain rfl:=hout12 _ rfl
     obtain rfl:=oSi h7
     refine go hΓ 4 rfl ?_
     obtain rfl:=oSi hv17
     exact fin_pure hΓ (.inr rfl) rfl rfl
    ·have h19:=cF h15 hb
     obtain ⟨q20,hq20,h21⟩:=bi_ok h19
     refine go hΓ 4 rfl ?_
     refine j_cutNZ [(0,.d (Sl Kgl l)),(3,I (i3:Int)),(4,.ptr 0 0),(9,.d (Sl Kgl l)),(10,I (l.length:Int)),(11,I (i3:Int)),(32,B q20)] [.box 37 (fS x5)] ?_ ?_
     ·refine j_draw hmix (by kernel_rfl) ?_
      refine go hΓ 3 rfl ?_
      refine gl_gsplit rfl rfl (fun hb=>?_) (fun hb=>?_)
      ·have h22:=cT hq20 hb
       obtain ⟨x23,hx23,h24⟩:=bi_ok h22
       refine go_draw hΓ 3 rfl ?_
       refine gl_og rfl rfl (op_elemZ hΓ (enc:=Kgl) hx23 rfl rfl rfl rfl rfl (fun _=>rfl)) ?_
       obtain ⟨y25,hy25,h26⟩:=bi_ok h24
       refine go_draw hΓ 2 rfl ?_
       refine gl_callPg (callable Tryz.func96 rfl rfl) (Khj hy25) rfl rfl rfl rfl rfl rfl rfl ?_
       refine go_draw hΓ 3 rfl ?_
       obtain rfl:=oSi h26
       exact ⟨⟨rfl,rfl,rfl,rfl,rfl,rfl,rfl,trivial⟩,[],rfl,.inl rfl⟩
      ·have h27:=cF hq20 hb
       refine go_draw hΓ 10 rfl ?_
       obtain rfl:=oSi h27
       exact ⟨⟨rfl,rfl,rfl,rfl,rfl,rfl,rfl,trivial⟩,[],rfl,.inl rfl⟩
     ·refine go hΓ 1 rfl ?_
      refine j_cond rfl (fun hb=>?_) (fun hb=>?_)
      ·have h28:=cT h21 hb
       refine go hΓ 9 rfl ?_
       obtain ⟨v29,hv29,h30⟩:=bi_ok h28
       obtain rfl:=oSi h30
       obtain rfl:=hout12 _ rfl
       obtain rfl:=oSi h7
       refine go hΓ 4 rfl ?_
       obtain rfl:=oSi hv29
       exact fin_pure hΓ (.inr rfl) rfl rfl
      ·have h31:=cF h21 hb
       obtain ⟨z32,hz32,h33⟩:=bi_ok h31
       refine go hΓ 6 rfl ?_
       refine eo_o rfl (op_subRoZ hΓ (enc:=Kgl) hz32 rfl rfl rfl rfl rfl rfl (fun _=>rfl)) ?_
       obtain ⟨y34,hy34,h35⟩:=bi_ok h33
       refine go_ops hΓ 1 rfl ?_
       refine eo_callF [0] (B y34) [.box 37 (fS x5)] (callable Tryz.func90 rfl rfl) (Kie hy34) rfl (nBe rfl) rfl rfl rfl rfl rfl rfl rfl rfl rfl rfl ?_
       refine go_ops hΓ 2 rfl ?_
       refine j_cond rfl (fun hb=>?_) (fun hb=>?_)
       ·have h36:=cT h35 hb
        refine go hΓ 8 rfl ?_
        obtain ⟨v37,hv37,h38⟩:=bi_ok h36
        obtain rfl:=oSi h38
        obtain rfl:=hout12 _ rfl
        obtain rfl:=oSi h7
        refine go hΓ 4 rfl ?_
        obtain rfl:=oSi hv37
        exact fin_pure hΓ (.inr rfl) rfl rfl
       ·have h39:=cF h35 hb
        refine go hΓ 7 rfl ?_
        obtain rfl:=oSi h39
        exact ⟨_,rfl,⟨⟨rfl,rfl,rfl,get_eq rfl (w64_succ (Nat.lt_of_lt_of_le hlt hb9)),trivial⟩,[_],rfl,.inr ⟨HB.mk rfl,FB.mk rfl,(nBe rfl)⟩⟩⟩
   ·subst hgo
    refine go hΓ 6 rfl ?_
    refine j_condF rfl (decide_eq_false (Int.lt_irrefl _)) ?_
    refine go hΓ 4 rfl ?_
    exact ⟨_,rfl,⟨trivial,[],rfl,.inl rfl⟩⟩
  ·intro a8 ha
   subst ha
   replace h7:=goI_l h7
   refine go hΓ 7 rfl ?_
   obtain rfl:=oSi h7
   exact fin_pure hΓ (.inr rfl) rfl rfl
theorem Kig {vals:List Int} {r:Int} (h:Kcy vals=some r):Pure Tryz.prog 34 [.d (Sl (eN .i64) vals)] (I r):=by
 refine Pure.enter (Fr.of 0 _) Tryz.func34 rfl (Fr.of_ok _) rfl rfl ?_
 refine go_in ?_
 unfold Kcy at h
 refine go hΓ 18 rfl ?_
 obtain ⟨q4,hq4,h5⟩:=bi_ok h
 refine j_bound 6 rfl fun hb7=>?_
 refine j_cutEZ (R:=fun a6=>q4=.go a6) (fun a6=>[(3,I 0)]) (fun a6=>[]) ?_ ?_
 ·refine go hΓ 1 rfl ?_
  refine j_range vals hq4 (fun i1 s2=>[(3,I 0),(6,.d (Sl (eN .i64) vals)),(7,I (vals.length:Int)),(8,I (i1:Int))]) (fun s2=>[]) ⟨⟨rfl,rfl,rfl,rfl,trivial⟩,[],rfl,.inl rfl⟩ (fun i1 x3 s2 y11 hx8 hlt hy9 hout10=>?_) (fun s2 hgo=>?_)
  ·refine go hΓ 6 rfl ?_
   refine j_condT rfl (decide_eq_true (Int.ofNat_lt.2 hlt)) ?_
   refine go hΓ 6 rfl ?_
   refine eo_o rfl (op_elemZ hΓ (enc:=(eN .i64)) (getZ_nat hx8) rfl rfl rfl rfl rfl (fun _=>rfl)) ?_
   refine go_ops hΓ 11 rfl ?_
   refine j_cond rfl (fun hb=>?_) (fun hb=>?_)
   ·have h12:=cT hy9 hb
    refine go hΓ 9 rfl ?_
    obtain ⟨v13,hv13,h14⟩:=bi_ok h12
    obtain rfl:=oSi h14
    obtain rfl:=hout10 _ rfl
    obtain rfl:=oSi h5
    refine go hΓ 4 rfl ?_
    obtain rfl:=oSi hv13
    exact fin_pure hΓ (.inr rfl) rfl rfl
   ·have h15:=cF hy9 hb
    refine go hΓ 7 rfl ?_
    obtain rfl:=oSi h15
    exact ⟨_,rfl,⟨⟨rfl,rfl,rfl,get_eq rfl (w64_succ (Nat.lt_of_lt_of_le hlt hb7)),trivial⟩,[],rfl,.inl rfl⟩⟩
  ·subst hgo
   refine go hΓ 6 rfl ?_
   refine j_condF rfl (decide_eq_false (Int.lt_irrefl _)) ?_
   refine go hΓ 4 rfl ?_
   exact ⟨_,rfl,⟨⟨rfl,trivial⟩,[],rfl,.inl rfl⟩⟩
 ·intro a6 ha
  subst ha
  replace h5:=goI_l h5
  refine go hΓ 8 rfl ?_
  obtain rfl:=oSi h5
  exact fin_pure hΓ (.inr rfl) rfl rfl
theorem Kih {k:Nat} {s:Kay} {many:Int} {r:Kbc×Kay} (h:Kcz k s many=some r):EC Tryz.prog 10 [.ptr 0 0,I many] [.box 25 (fQ s)] fun g hp'=>g=.agg [.d (Sl eS r.1.d.Users),.d (Sl Kgj r.1.d.Owners),I r.1.d.Life,B r.1.d.Approve,.d (Sl Kgl r.1.l),I r.1.fault]∧hp'=[.box 25 (fQ r.2)]:=by
 refine ec_enter (Fr.of 0 _) Tryz.func10 rfl (Fr.of_ok _) (nBe rfl) fun _=>?_
 refine go_in ?_
 unfold Kcz at h
 refine go hΓ 2 rfl ?_
 refine eo_alloc hΓ rfl rfl rfl (nBe rfl) ?_
 obtain ⟨y1,hy1,h2⟩:=bi_ok h
 refine go_ops hΓ 5 rfl ?_
 refine eo_callF [0] (.agg (fD y1.1)) [.box 25 (fQ y1.2),.box 33 [.d (Sl eS []),.d (Sl Kgj []),I 0,B false,.d (Sl Kgl []),I 0]] (callable Tryz.func83 rfl rfl) (Khc hy1) rfl (nBe rfl) rfl rfl rfl rfl rfl rfl rfl rfl rfl rfl ?_
 obtain ⟨y3,hy3,h4⟩:=bi_ok h2
 refine go_ops hΓ 2 rfl ?_
 refine eo_callF [0] (.sl 2 y3.1.length) [.box 25 (fQ y3.2),.box 33 [.d (Sl eS []),.d (Sl Kgj []),I 0,B false,.d (Sl Kgl []),I 0],rO 37 13 Kgl y3.1] (callable Tryz.func23 rfl rfl) (Khn hy3) rfl (nBe rfl) rfl rfl rfl rfl rfl rfl rfl rfl rfl rfl ?_
 refine eo_shr 2 [10] _ [.box 25 (fQ y3.2),.box 33 [.d (Sl eS []),.d (Sl Kgj []),I 0,B false,.d (Sl Kgl []),I 0],.dead] rfl rfl rfl (nBe rfl) ?_
 refine eo_build hΓ (gs:=[.d (Sl eS y1.1.Users),.d (Sl Kgj y1.1.Owners),I y1.1.Life,B y1.1.Approve,.d (Sl Kgl y3.1),I 0]) rfl rfl rfl rfl rfl rfl rfl ?_
 refine eo_alloc hΓ rfl rfl rfl (nBe rfl) ?_
 refine eo_store hΓ rfl rfl rfl rfl rfl rfl rfl rfl (nBe rfl) ?_
 refine eo_hp [.box 25 (fQ y3.2),.box 33 [.d (Sl eS []),.d (Sl Kgj []),I 0,B false,.d (Sl Kgl []),I 0],.dead,.box 33 [.d (Sl eS y1.1.Users),.d (Sl Kgj y1.1.Owners),I y1.1.Life,B y1.1.Approve,.d (Sl Kgl y3.1),I 0]] rfl ?_
 refine go_ops hΓ 3 rfl ?_
 refine j_drawE [.dead,.dead,.dead,.box 33 [.d (Sl eS y1.1.Users),.d (Sl Kgj y1.1.Owners),I y1.1.Life,B y1.1.Approve,.d (Sl Kgl y3.1),I 0]] [1,4] [9] [9] hmix (by kernel_rfl) (by kernel_rfl) ⟨rfl,trivial⟩ (nBe rfl) ?_
 obtain ⟨y5,hy5,h6⟩:=bi_ok h4
 refine go_E hΓ 2 rfl ?_
 refine ge_callP (callable Tryz.func28 rfl rfl) (Khv hy5) rfl rfl rfl rfl rfl rfl ?_
 obtain ⟨y7,hy7,h8⟩:=bi_ok h6
 refine go_E hΓ 2 rfl ?_
 refine ge_callP (callable Tryz.func32 rfl rfl) (Kif hy7) rfl rfl rfl rfl rfl rfl ?_
 refine ge_litT hΓ (enc:=(eN .i64)) [y5,y7] rfl rfl rfl rfl rfl rfl rfl rfl rfl rfl rfl rfl ?_
 obtain ⟨y9,hy9,h10⟩:=bi_ok h8
 refine ge_callP (callable Tryz.func34 rfl rfl) (Kig hy9) rfl rfl rfl rfl rfl rfl ?_
 refine go_E hΓ 1 rfl ?_
 refine ge_h0 [.box 25 (fQ y3.2),.box 33 [.d (Sl eS []),.d (Sl Kgj []),I 0,B false,.d (Sl Kgl []),I 0],.dead,.box 33 [.d (Sl eS y1.1.Users),.d (Sl Kgj y1.1.Owners),I y1.1.Life,B y1.1.Approve,.d (Sl Kgl y3.1),I y9]] rfl rfl (brk_st rfl) (qte_u (opu_store2 hΓ rfl rfl rfl rfl rfl rfl rfl rfl rfl)) ?_
 refine ge_fin ?_
 refine go hΓ 4 rfl ?_
 refine eo_store hΓ rfl rfl rfl rfl rfl rfl rfl rfl (nBe rfl) ?_
 refine eo_hp [.box 25 (fQ y3.2),.box 33 [.d (Sl eS y1.1.Users),.d (Sl Kgj y1.1.Owners),I y1.1.Life,B y1.1.Approve,.d (Sl Kgl y3.1),I y9],.dead,.box 33 [.d (Sl eS y1.1.Users),.d (Sl Kgj y1.1.Owners),I y1.1.Life,B y1.1.Approve,.d (Sl Kgl y3.1),I y9]] rfl ?_
 refine go_ops hΓ 3 rfl ?_
 obtain rfl:=oSi h10
 exact fin_objs hΓ [_,_,_] (.inr rfl) rfl rfl rfl rfl (.inr ⟨HB.mk rfl,rfl⟩)
set_option maxHeartbeats 8000000 in
theorem Kii {k:Nat} {s:Str} {r:Bool} (h:Kda k s=some r):Pure Tryz.prog 107 [S s] (B r):=by
 refine Pure.enter (Fr.of 0 _) Tryz.func107 rfl (Fr.of_ok _) rfl rfl ?_
 refine go_in ?_
 unfold Kda at h
 refine go hΓ 11 rfl ?_
 obtain ⟨q4,hq4,h5⟩:=bi_ok h
 refine j_cutEZ (R:=fun a6=>q4=.inl a6) (fun a6=>[(0,S s)]) (fun a6=>[]) ?_ ?_
 ·refine go hΓ 1 rfl ?_
  refine j_loop hq4 (fun s2=>[(0,S s),(3,I s2)]) (fun s2=>[]) ⟨⟨rfl,rfl,trivial⟩,[],rfl,.inl rfl⟩ (fun s2 y10 hy8 hout9=>?_)
  refine go hΓ 9 rfl ?_
  refine j_cond rfl (fun hb=>?_) (fun hb=>?_)
  ·have h11:=cT hy8 hb
   obtain ⟨c12,hc12,h13⟩:=bi_ok h11
   refine go hΓ 8 rfl ?_
   refine eo_o rfl (op_byteZ hΓ hc12 rfl rfl rfl rfl) ?_
   refine go_ops hΓ 8 rfl ?_
   refine o_cut 3 [(0,S s),(3,I s2),(4,.d (.v (.int .u8 (c12.toNat:Int)))),(19,B ((decide (((c12.toNat:Int):Int)≥97))&&(decide (((c12.toNat:Int):Int)≤122))))] [] ?_ ?_
   ·refine eo_gsplit rfl rfl (fun hb=>?_) (fun hb=>?_)
    ·refine go_ops hΓ 4 rfl ?_
     exact ⟨⟨rfl,rfl,rfl,get_b rfl (and_t hb),trivial⟩,[],rfl,.inl rfl⟩
    ·refine go_ops hΓ 4 rfl ?_
     exact ⟨⟨rfl,rfl,rfl,get_b rfl (and_f hb),trivial⟩,[],rfl,.inl rfl⟩
   ·refine go_ops hΓ 1 rfl ?_
    refine o_cut 19 [(0,S s),(3,I s2),(39,B (((decide (((c12.toNat:Int):Int)≥97))&&(decide (((c12.toNat:Int):Int)≤122)))||((decide ((s2:Int)>0))&&((((decide (((c12.toNat:Int):Int)≥48))&&(decide (((c12.toNat:Int):Int)≤57)))||(((c12.toNat:Int):Int)==45))||(((c12.toNat:Int):Int)==95)))))] [] ?_ ?_
    ·refine eo_gsplit rfl rfl (fun hb=>?_) (fun hb=>?_)
     ·refine go_ops hΓ 20 rfl ?_
      exact ⟨⟨rfl,rfl,get_b rfl (or_t hb),trivial⟩,[],rfl,.inl rfl⟩
     ·refine go_ops hΓ 3 rfl ?_
      refine o_cut 15 [(0,S s),(3,I s2),(20,B false),(38,B ((decide ((s2:Int)>0))&&((((decide (((c12.toNat:Int):Int)≥48))&&(decide (((c12.toNat:Int):Int)≤57)))||(((c12.toNat:Int):Int)==45))||(((c12.toNat:Int):Int)==95))))] [] ?_ ?_
      ·refine eo_gsplit rfl rfl (fun hb=>?_) (fun hb=>?_)
       ·refine go_ops hΓ 3 rfl ?_
        refine o_cut 3 [(0,S s),(3,I s2),(4,.d (.v (.int .u8 (c12.toNat:Int)))),(20,B false),(23,B true),(29,B ((decide (((c12.toNat:Int):Int)≥48))&&(decide (((c12.toNat:Int):Int)≤57))))] [] ?_ ?_
        ·refine eo_gsplit rfl rfl (fun hb=>?_) (fun hb=>?_)
         ·refine go_ops hΓ 4 rfl ?_
          exact ⟨⟨rfl,rfl,rfl,rfl,rfl,get_b rfl (and_t hb),trivial⟩,[],rfl,.inl rfl⟩
         ·refine go_ops hΓ 4 rfl ?_
          exact ⟨⟨rfl,rfl,rfl,rfl,rfl,get_b rfl (and_f hb),trivial⟩,[],rfl,.inl rfl⟩
        ·refine go_ops hΓ 1 rfl ?_
         refine o_cut 3 [(0,S s),(3,I s2),(4,.d (.v (.int .u8 (c12.toNat:Int)))),(20,B false),(23,B true),(33,B (((decide (((c12.toNat:Int):Int)≥48))&&(decide (((c12.toNat:Int):Int)≤57)))||(((c12.toNat:Int):Int)==45)))] [] ?_ ?_
         ·refine eo_gsplit rfl rfl (fun hb=>?_) (fun hb=>?_)
          ·refine go_ops hΓ 4 rfl ?_
           exact ⟨⟨rfl,rfl,rfl,rfl,rfl,get_b rfl (or_t hb),trivial⟩,[],rfl,.inl rfl⟩
          ·refine go_ops hΓ 4 rfl ?_
           exact ⟨⟨rfl,rfl,rfl,rfl,rfl,get_b rfl (or_f hb),trivial⟩,[],rfl,.inl rfl⟩
         ·refine go_ops hΓ 1 rfl ?_
          refine o_cut 3 [(0,S s),(3,I s2),(20,B false),(23,B true),(37,B ((((decide (((c12.toNat:Int):Int)≥48))&&(decide (((c12.toNat:Int):Int)≤57)))||(((c12.toNat:Int):Int)==45))||(((c12.toNat:Int):Int)==95)))] [] ?_ ?_
          ·refine eo_gsplit rfl rfl (fun hb=>?_) (fun hb=>?_)
           ·refine go_ops hΓ 4 rfl ?_
            exact ⟨⟨rfl,rfl,rfl,rfl,get_b rfl (or_t hb),trivial⟩,[],rfl,.inl rfl⟩
           ·refine go_ops hΓ 4 rfl ?_
            exact ⟨⟨rfl,rfl,rfl,rfl,get_b rfl (or_f hb),trivial⟩,[],rfl,.inl rfl⟩
          ·refine go_ops hΓ 2 rfl ?_
           exact ⟨⟨rfl,rfl,rfl,get_b rfl (and_t hb),trivial⟩,[],rfl,.inl rfl⟩
       ·refine go_ops hΓ 16 rfl ?_
        exact ⟨⟨rfl,rfl,rfl,get_b rfl (and_f hb),trivial⟩,[],rfl,.inl rfl⟩
      ·refine go_ops hΓ 2 rfl ?_
       exact ⟨⟨rfl,rfl,get_b rfl (or_f hb),trivial⟩,[],rfl,.inl rfl⟩
    ·refine go_ops hΓ 3 rfl ?_
     refine j_cond rfl (fun hb=>?_) (fun hb=>?_)
     ·have h14:=cT h13 hb
      refine go hΓ 8 rfl ?_
      obtain ⟨v15,hv15,h16⟩:=bi_ok h14
      obtain rfl:=oSi h16
      obtain rfl:=hout9 _ rfl
      obtain rfl:=oSi h5
      refine go hΓ 4 rfl ?_
      obtain rfl:=oSi hv15
      exact fin_pure hΓ (.inr rfl) rfl rfl
     ·have h17:=cF h13 hb
      refine go hΓ 8 rfl ?_
      obtain rfl:=oSi h17
      exact ⟨_,rfl,⟨⟨rfl,rfl,trivial⟩,[],rfl,.inl rfl⟩⟩
  ·have h18:=cF hy8 hb
   refine go hΓ 4 rfl ?_
   obtain rfl:=oSi h18
   obtain rfl:=hout9 _ rfl
   exact ⟨_,rfl,⟨⟨rfl,trivial⟩,[],rfl,.inl rfl⟩⟩
 ·intro a6 ha
  subst ha
  replace h5:=orI_l h5
  refine go hΓ 6 rfl ?_
  refine o_cut 4 [(47,B ((!((s:Str)==[]))&&(decide (((s.length:Int):Int)≤40))))] [] ?_ ?_
  ·refine eo_gsplit rfl rfl (fun hb=>?_) (fun hb=>?_)
   ·refine go_ops hΓ 5 rfl ?_
    exact ⟨⟨get_b rfl (and_t hb),trivial⟩,[],rfl,.inl rfl⟩
   ·refine go_ops hΓ 5 rfl ?_
    exact ⟨⟨get_b rfl (and_f hb),trivial⟩,[],rfl,.inl rfl⟩
  ·refine go_ops hΓ 4 rfl ?_
   obtain rfl:=oSi h5
   exact fin_pure hΓ (.inr rfl) rfl rfl
set_option maxHeartbeats 8000000 in
theorem Kij {k:Nat} {l:List Str} {r:Int} (h:Kdb k l=some r):Pure Tryz.prog 106 [.d (Sl eS l)] (I r):=by
 refine Pure.enter (Fr.of 0 _) Tryz.func106 rfl (Fr.of_ok _) rfl rfl ?_
 refine go_in ?_
 unfold Kdb at h
 refine go hΓ 13 rfl ?_
 obtain ⟨q4,hq4,h5⟩:=bi_ok h
 refine j_bound 0 rfl fun hb7=>?_
 refine j_cutEZ (R:=fun a6=>q4=.go a6) (fun a6=>[]) (fun a6=>[]) ?_ ?_
 ·refine go hΓ 1 rfl ?_
  refine j_range l hq4 (fun i1 s2=>[(0,.d (Sl eS l)),(5,.d (Sl eS l)),(6,I (l.length:Int)),(7,I (i1:Int))]) (fun s2=>[]) ⟨⟨rfl,rfl,rfl,rfl,trivial⟩,[],rfl,.inl rfl⟩ (fun i1 x3 s2 y11 hx8 hlt hy9 hout10=>?_) (fun s2 hgo=>?_)
  ·refine go hΓ 6 rfl ?_
   refine j_condT rfl (decide_eq_true (Int.ofNat_lt.2 hlt)) ?_
   refine go hΓ 7 rfl ?_
   refine eo_o rfl (op_elemZ hΓ (enc:=eS) (getZ_nat hx8) rfl rfl rfl rfl rfl (fun _=>rfl)) ?_
   obtain ⟨y12,hy12,h13⟩:=bi_ok hy9
   refine go_ops hΓ 9 rfl ?_
   refine eo_callP (callable Tryz.func107 rfl rfl) (Kii hy12) rfl (nBe rfl) rfl rfl rfl rfl rfl ?_
   refine go_ops hΓ 3 rfl ?_
   refine j_cond rfl (fun hb=>?_) (fun hb=>?_)
   ·have h14:=cT h13 hb
    refine go hΓ 9 rfl ?_
    obtain ⟨v15,hv15,h16⟩:=bi_ok h14
    obtain rfl:=oSi h16
    obtain rfl:=hout10 _ rfl
    obtain rfl:=oSi h5
    refine go hΓ 4 rfl ?_
    obtain rfl:=oSi hv15
    exact fin_pure hΓ (.inr rfl) rfl rfl
   ·have h17:=cF h13 hb
    refine go hΓ 7 rfl ?_
    obtain ⟨q18,hq18,h19⟩:=bi_ok h17
    refine o_cut 8 [(0,.d (Sl eS l)),(5,.d (Sl eS l)),(6,I (l.length:Int)),(7,I (i1:Int)),(25,B q18)] [] ?_ ?_
    ·refine eo_gsplit rfl rfl (fun hb=>?_) (fun hb=>?_)
     ·have h20:=cT hq18 hb
      obtain ⟨x21,hx21,h22⟩:=bi_ok h20
      refine go_ops hΓ 4 rfl ?_
      refine eo_guard rfl ?_
      refine eo_o rfl (op_elemZ hΓ (enc:=eS) hx21 rfl rfl rfl rfl rfl (fun _=>rfl)) ?_
      refine go_ops hΓ 4 rfl ?_
      obtain rfl:=oSi h22
      exact ⟨⟨rfl,rfl,rfl,rfl,rfl,trivial⟩,[],rfl,.inl rfl⟩
     ·have h23:=cF hq18 hb
      refine go_ops hΓ 9 rfl ?_
      obtain rfl:=oSi h23
      exact ⟨⟨rfl,rfl,rfl,rfl,rfl,trivial⟩,[],rfl,.inl rfl⟩
    ·refine go_ops hΓ 2 rfl ?_
     refine j_cond rfl (fun hb=>?_) (fun hb=>?_)
     ·have h24:=cT h19 hb
      refine go hΓ 8 rfl ?_
      obtain ⟨v25,hv25,h26⟩:=bi_ok h24
      obtain rfl:=oSi h26
      obtain rfl:=hout10 _ rfl
      obtain rfl:=oSi h5
      refine go hΓ 4 rfl ?_
      obtain rfl:=oSi hv25
      exact fin_pure hΓ (.inr rfl) rfl rfl
     ·have h27:=cF h19 hb
      refine go hΓ 7 rfl ?_
      obtain rfl:=oSi h27
      exact ⟨_,rfl,⟨⟨rfl,rfl,rfl,get_eq rfl (w64_succ (Nat.lt_of_lt_of_le hlt hb7)),trivial⟩,[],rfl,.inl rfl⟩⟩
  ·subst hgo
   refine go hΓ 6 rfl ?_
   refine j_condF rfl (decide_eq_false (Int.lt_irrefl _)) ?_
   refine go hΓ 4 rfl ?_
   exact ⟨_,rfl,⟨trivial,[],rfl,.inl rfl⟩⟩
 ·intro a6 ha
  subst ha
  replace h5:=goI_l h5
  refine go hΓ 7 rfl ?_
  obtain rfl:=oSi h5
  exact fin_pure hΓ (.inr rfl) rfl rfl
theorem Kik {n:Int} {low:Int} {high:Int} {r:Bool} (h:Kdc n low high=some r):Pure Tryz.prog 108 [I n,I low,I high] (B r):=by
 refine Pure.enter (Fr.of 0 _) Tryz.func108 rfl (Fr.of_ok _) rfl rfl ?_
 refine go_in ?_
 unfold Kdc at h
 refine go hΓ 11 rfl ?_
 refine o_cut 4 [(6,B false),(14,B ((decide ((n:Int)<low))||(decide ((n:Int)>high))))] [] ?_ ?_
 ·refine eo_gsplit rfl rfl (fun hb=>?_) (fun hb=>?_)
  ·refine go_ops hΓ 5 rfl ?_
   exact ⟨⟨rfl,get_b rfl (or_t hb),trivial⟩,[],rfl,.inl rfl⟩
  ·refine go_ops hΓ 5 rfl ?_
   exact ⟨⟨rfl,get_b rfl (or_f hb),trivial⟩,[],rfl,.inl rfl⟩
 ·refine go_ops hΓ 4 rfl ?_
  obtain rfl:=oSi h
  exact fin_pure hΓ (.inr rfl) rfl rfl
set_option maxHeartbeats 8000000 in
theorem Kil {k:Nat} {d:Kba} {r:Int} (h:Kdd k d=some r):Pure Tryz.prog 29 [.agg (fD d)] (I r):=by
 refine Pure.enter (Fr.of 0 _) Tryz.func29 rfl (Fr.of_ok _) rfl rfl ?_
 refine go_in ?_
 unfold Kdd at h
 refine go hΓ 2 rfl ?_
 refine eo_box rfl rfl rfl rfl (nBe rfl) ?_
 refine go_ops hΓ 12 rfl ?_
 refine j_cond rfl (fun hb=>?_) (fun hb=>?_)
 ·have h1:=cT h hb
  refine go hΓ 7 rfl ?_
  obtain rfl:=oSi h1
  exact fin_pure hΓ (.inr rfl) rfl rfl
 ·have h2:=cF h hb
  obtain ⟨y3,hy3,h4⟩:=bi_ok h2
  refine go hΓ 7 rfl ?_
  refine eo_callP (callable Tryz.func106 rfl rfl) (Kij hy3) rfl (nBe rfl) rfl rfl rfl rfl rfl ?_
  refine go_ops hΓ 9 rfl ?_
  refine j_cond rfl (fun hb=>?_) (fun hb=>?_)
  ·have h5:=cT h4 hb
   refine go hΓ 8 rfl ?_
   obtain rfl:=oSi h5
   exact fin_pure hΓ (.inr rfl) rfl rfl
  ·have h6:=cF h4 hb
   refine go hΓ 11 rfl ?_
   refine j_cond rfl (fun hb=>?_) (fun hb=>?_)
   ·have h7:=cT h6 hb
    refine go hΓ 7 rfl ?_
    obtain rfl:=oSi h7
    exact fin_pure hΓ (.inr rfl) rfl rfl
   ·have h8:=cF h6 hb
    refine go hΓ 11 rfl ?_
    obtain ⟨q12,hq12,h13⟩:=bi_ok h8
    refine j_bound 23 rfl fun hb15=>?_
    refine j_cutEZ (R:=fun a14=>q12=.go a14) (fun a14=>[(1,.ptr 0 0)]) (fun a14=>[.box 29 (fD d)]) ?_ ?_
    ·refine go hΓ 1 rfl ?_
     refine j_range d.Owners hq12 (fun i9 s10=>[(1,.ptr 0 0),(23,.d (Sl Kgj d.Owners)),(24,I (d.Owners.length:Int)),(25,I (i9:Int))]) (fun s10=>[.box 29 (fD d)]) ⟨⟨rfl,rfl,rfl,rfl,trivial⟩,[],rfl,.inl rfl⟩ (fun i9 x11 s10 y19 hx16 hlt hy17 hout18=>?_) (fun s10 hgo=>?_)
     ·refine go hΓ 6 rfl ?_
      refine j_condT rfl (decide_eq_true (Int.ofNat_lt.2 hlt)) ?_
      refine go hΓ 7 rfl ?_
      refine eo_o rfl (op_elemZ hΓ (enc:=Kgj) (getZ_nat hx16) rfl rfl rfl rfl rfl (fun _=>rfl)) ?_
      refine go_ops hΓ 1 rfl ?_
      refine eo_alloc hΓ rfl rfl rfl (nBe rfl) ?_
      refine go_ops hΓ 1 rfl ?_
      refine eo_store hΓ rfl rfl rfl rfl rfl rfl rfl rfl (nBe rfl) ?_
      refine eo_hp [.box 29 (fD d),.box 155 [S x11.Tag,.d (Sl eS x11.Users)]] rfl ?_
      obtain ⟨y20,hy20,h21⟩:=bi_ok hy17
      refine go_ops hΓ 7 rfl ?_
      refine eo_callP (callable Tryz.func107 rfl rfl) (Kii hy20) rfl (nBe rfl) rfl rfl rfl rfl rfl ?_
      refine go_ops hΓ 3 rfl ?_
      refine j_cond rfl (fun hb=>?_) (fun hb=>?_)
      ·have h22:=cT h21 hb
       refine go hΓ 9 rfl ?_
       obtain ⟨v23,hv23,h24⟩:=bi_ok h22
       obtain rfl:=oSi h24
       obtain rfl:=hout18 _ rfl
       obtain rfl:=oSi h13
       refine go hΓ 4 rfl ?_
       obtain rfl:=oSi hv23
       exact fin_pure hΓ (.inr rfl) rfl rfl
      ·have h25:=cF h21 hb
       obtain ⟨q26,hq26,h27⟩:=bi_ok h25
       refine go hΓ 4 rfl ?_
       refine j_cutNZ [(1,.ptr 0 0),(5,.ptr 1 0),(23,.d (Sl Kgj d.Owners)),(24,I (d.Owners.length:Int)),(25,I (i9:Int)),(47,B q26)] [.box 29 (fD d),.box 155 [S x11.Tag,.d (Sl eS x11.Users)]] ?_ ?_
       ·refine j_draw hmix (by kernel_rfl) ?_
        refine go hΓ 3 rfl ?_
        refine gl_gsplit rfl rfl (fun hb=>?_) (fun hb=>?_)
        ·have h28:=cT hq26 hb
         obtain ⟨x29,hx29,h30⟩:=bi_ok h28
         refine go_draw hΓ 6 rfl ?_
         refine gl_og rfl rfl (op_elemZ hΓ (enc:=Kgj) hx29 rfl rfl rfl rfl rfl (fun _=>rfl)) ?_
         refine go_draw hΓ 5 rfl ?_
         obtain rfl:=oSi h30
         exact ⟨⟨rfl,rfl,rfl,rfl,rfl,rfl,trivial⟩,[],rfl,.inl rfl⟩
        ·have h31:=cF hq26 hb
         refine go_draw hΓ 12 rfl ?_
         obtain rfl:=oSi h31
         exact ⟨⟨rfl,rfl,rfl,rfl,rfl,rfl,trivial⟩,[],rfl,.inl rfl⟩
       ·refine go hΓ 1 rfl ?_
        refine j_cond rfl (fun hb=>?_) (fun hb=>?_)
        ·have h32:=cT h27 hb
         refine go hΓ 9 rfl ?_
         obtain ⟨v33,hv33,h34⟩:=bi_ok h32
         obtain rfl:=oSi h34
         obtain rfl:=hout18 _ rfl
         obtain rfl:=oSi h13
         refine go hΓ 4 rfl ?_
         obtain rfl:=oSi hv33
         exact fin_pure hΓ (.inr rfl) rfl rfl
        ·have h35:=cF h27 hb
         refine go hΓ 10 rfl ?_
         obtain ⟨q39,hq39,h40⟩:=bi_ok h35
         refine j_bound 49 rfl fun hb42=>?_
         refine j_cutEZ (R:=fun a41=>q39=.go a41) (fun a41=>[(1,.ptr 0 0),(23,.d (Sl Kgj d.Owners)),(24,I (d.Owners.length:Int)),(25,I (i9:Int))]) (fun a41=>[.box 29 (fD d),.box 155 [S x11.Tag,.d (Sl eS x11.Users)]]) ?_ ?_
         ·refine go hΓ 1 rfl ?_
          refine j_range x11.Users hq39 (fun i36 s37=>[(1,.ptr 0 0),(5,.ptr 1 0),(23,.d (Sl Kgj d.Owners)),(24,I (d.Owners.length:Int)),(25,I (i9:Int)),(49,.d (Sl eS x11.Users)),(50,I (x11.Users.length:Int)),(51,I (i36:Int))]) (fun s37=>[.box 29 (fD d),.box 155 [S x11.Tag,.d (Sl eS x11.Users)]]) ⟨⟨rfl,rfl,rfl,rfl,rfl,rfl,rfl,rfl,trivial⟩,[],rfl,.inl rfl⟩ (fun i36 x38 s37 y46 hx43 hlt hy44 hout45=>?_) (fun s37 hgo=>?_)
          ·refine go hΓ 6 rfl ?_
           refine j_condT rfl (decide_eq_true (Int.ofNat_lt.2 hlt)) ?_
           refine go hΓ 7 rfl ?_
           refine eo_o rfl (op_elemZ hΓ (enc:=eS) (getZ_nat hx43) rfl rfl rfl rfl rfl (fun _=>rfl)) ?_
           obtain ⟨y47,hy47,h48⟩:=bi_ok hy44
           refine go_ops hΓ 11 rfl ?_
           refine eo_callP (callable Tryz.func61 rfl rfl) (Kht hy47) rfl (nBe rfl) rfl rfl rfl rfl rfl ?_
           refine go_ops hΓ 3 rfl ?_
           refine j_cond rfl (fun hb=>?_) (fun hb=>?_)
           ·have h49:=cT h48 hb
            refine go hΓ 9 rfl ?_
            obtain ⟨v50,hv50,h51⟩:=bi_ok h49
            obtain rfl:=oSi h51
            obtain rfl:=hout45 _ rfl
            obtain rfl:=oSi h40
            refine go hΓ 5 rfl ?_
            obtain ⟨v52,hv52,h53⟩:=bi_ok hv50
            obtain rfl:=oSi h53
            obtain rfl:=hout18 _ rfl
            obtain rfl:=oSi h13
            refine go hΓ 4 rfl ?_
            obtain rfl:=oSi hv52
            exact fin_pure hΓ (.inr rfl) rfl rfl
           ·have h54:=cF h48 hb
            refine go hΓ 7 rfl ?_
            obtain ⟨q55,hq55,h56⟩:=bi_ok h54
            refine o_cut 9 [(1,.ptr 0 0),(5,.ptr 1 0),(23,.d (Sl Kgj d.Owners)),(24,I (d.Owners.length:Int)),(25,I (i9:Int)),(49,.d (Sl eS x11.Users)),(50,I (x11.Users.length:Int)),(51,I (i36:Int)),(72,B q55)] [.box 29 (fD d),.box 155 [S x11.Tag,.d (Sl eS x11.Users)]] ?_ ?_
            ·refine eo_gsplit rfl rfl (fun hb=>?_) (fun hb=>?_)
             ·have h57:=cT hq55 hb
              obtain ⟨x58,hx58,h59⟩:=bi_ok h57
              refine go_ops hΓ 5 rfl ?_
              refine eo_guard rfl ?_
              refine eo_o rfl (op_elemZ hΓ (enc:=eS) hx58 rfl rfl rfl rfl rfl (fun _=>rfl)) ?_
              refine go_ops hΓ 4 rfl ?_
              obtain rfl:=oSi h59
              exact ⟨⟨rfl,rfl,rfl,rfl,rfl,rfl,rfl,rfl,rfl,trivial⟩,[],rfl,.inl rfl⟩
             ·have h60:=cF hq55 hb
              refine go_ops hΓ 10 rfl ?_
              obtain rfl:=oSi h60
              exact ⟨⟨rfl,rfl,rfl,rfl,rfl,rfl,rfl,rfl,rfl,trivial⟩,[],rfl,.inl rfl⟩
            ·refine go_ops hΓ 2 rfl ?_
             refine j_cond rfl (fun hb=>?_) (fun hb=>?_)
             ·have h61:=cT h56 hb
              refine go hΓ 8 rfl ?_
              obtain ⟨v62,hv62,h63⟩:=bi_ok h61
              obtain rfl:=oSi h63
              obtain rfl:=hout45 _ rfl
              obtain rfl:=oSi h40
              refine go hΓ 5 rfl ?_
              obtain ⟨v64,hv64,h65⟩:=bi_ok hv62
              obtain rfl:=oSi h65
              obtain rfl:=hout18 _ rfl
              obtain rfl:=oSi h13
              refine go hΓ 4 rfl ?_
              obtain rfl:=oSi hv64
              exact fin_pure hΓ (.inr rfl) rfl rfl
             ·have h66:=cF h56 hb
              refine go hΓ 7 rfl ?_
              obtain rfl:=oSi h66
              exact ⟨_,rfl,⟨⟨rfl,rfl,rfl,rfl,rfl,rfl,rfl,get_eq rfl (w64_succ (Nat.lt_of_lt_of_le hlt hb42)),trivial⟩,[],rfl,.inl rfl⟩⟩
          ·subst hgo
           refine go hΓ 6 rfl ?_
           refine j_condF rfl (decide_eq_false (Int.lt_irrefl _)) ?_
           refine go hΓ 4 rfl ?_
           exact ⟨_,rfl,⟨⟨rfl,rfl,rfl,rfl,trivial⟩,[],rfl,.inl rfl⟩⟩
         ·intro a41 ha
          subst ha
          replace h40:=goI_l h40
          refine go hΓ 6 rfl ?_
          obtain rfl:=oSi h40
          exact ⟨_,rfl,⟨⟨rfl,rfl,rfl,get_eq rfl (w64_succ (Nat.lt_of_lt_of_le hlt hb15)),trivial⟩,[_],rfl,.inr ⟨HB.mk rfl,FB.mk rfl,(nBe rfl)⟩⟩⟩
     ·subst hgo
      refine go hΓ 6 rfl ?_
      refine j_condF rfl (decide_eq_false (Int.lt_irrefl _)) ?_
      refine go hΓ 4 rfl ?_
      exact ⟨_,rfl,⟨⟨rfl,trivial⟩,[],rfl,.inl rfl⟩⟩
    ·intro a14 ha
     subst ha
     replace h13:=goI_l h13
     obtain ⟨y67,hy67,h68⟩:=bi_ok h13
     refine go hΓ 6 rfl ?_
     refine eo_callP (callable Tryz.func108 rfl rfl) (Kik hy67) rfl (nBe rfl) rfl rfl rfl rfl rfl ?_
     refine go_ops hΓ 2 rfl ?_
     refine j_cond rfl (fun hb=>?_) (fun hb=>?_)
     ·have h69:=cT h68 hb
      refine go hΓ 7 rfl ?_
      obtain rfl:=oSi h69
      exact fin_pure hΓ (.inr rfl) rfl rfl
     ·have h70:=cF h68 hb
      refine go hΓ 8 rfl ?_
      obtain rfl:=oSi h70
      exact fin_pure hΓ (.inr rfl) rfl rfl
theorem Kim {n:Int} {r:Bool} (h:Kde n=some r):Pure Tryz.prog 138 [I n] (B r):=by
 refine Pure.enter (Fr.of 0 _) Tryz.func138 rfl (Fr.of_ok _) rfl rfl ?_
 refine go_in ?_
 unfold Kde at h
 refine go hΓ 10 rfl ?_
 refine o_cut 3 [(2,B false),(8,B ((decide ((n:Int)≥0))&&(decide ((n:Int)<345686400))))] [] ?_ ?_
 ·refine eo_gsplit rfl rfl (fun hb=>?_) (fun hb=>?_)
  ·refine go_ops hΓ 4 rfl ?_
   exact ⟨⟨rfl,get_b rfl (and_t hb),trivial⟩,[],rfl,.inl rfl⟩
  ·refine go_ops hΓ 4 rfl ?_
   exact ⟨⟨rfl,get_b rfl (and_f hb),trivial⟩,[],rfl,.inl rfl⟩
 ·refine go_ops hΓ 4 rfl ?_
  obtain rfl:=oSi h
  exact fin_pure hΓ (.inr rfl) rfl rfl
theorem Kio {kind:Int} {r:List Int} (h:Kdf kind=some r):Pure Tryz.prog 120 [I kind] (.d (Sl (eN .i64) r)):=by
 refine Pure.enter (Fr.of 0 _) Tryz.func120 rfl (Fr.of_ok _) rfl rfl ?_
 refine go_in ?_
 unfold Kdf at h
 refine go hΓ 18 rfl ?_
 refine j_cond rfl (fun hb=>?_) (fun hb=>?_)
 ·have h1:=cT h hb
  refine go hΓ 2 rfl ?_
  refine eo_litT hΓ (enc:=(eN .i64)) [0,2,5,6,7,8] rfl rfl rfl rfl rfl rfl rfl rfl rfl rfl rfl rfl (nBe rfl) ?_
  refine go_ops hΓ 6 rfl ?_
  obtain rfl:=oSi h1
  exact fin_pure hΓ (.inr rfl) rfl rfl
 ·have h2:=cF h hb
  refine go hΓ 6 rfl ?_
  refine j_cond rfl (fun hb=>?_) (fun hb=>?_)
  ·have h3:=cT h2 hb
   refine go hΓ 2 rfl ?_
   refine eo_litT hΓ (enc:=(eN .i64)) [0,2] rfl rfl rfl rfl rfl rfl rfl rfl rfl rfl rfl rfl (nBe rfl) ?_
   refine go_ops hΓ 6 rfl ?_
   obtain rfl:=oSi h3
   exact fin_pure hΓ (.inr rfl) rfl rfl
  ·have h4:=cF h2 hb
   refine go hΓ 6 rfl ?_
   refine j_cond rfl (fun hb=>?_) (fun hb=>?_)
   ·have h5:=cT h4 hb
    refine go hΓ 2 rfl ?_
    refine eo_litT hΓ (enc:=(eN .i64)) [0,1,2,3,4] rfl rfl rfl rfl rfl rfl rfl rfl rfl rfl rfl rfl (nBe rfl) ?_
    refine go_ops hΓ 6 rfl ?_
    obtain rfl:=oSi h5
    exact fin_pure hΓ (.inr rfl) rfl rfl
   ·have h6:=cF h4 hb
    refine go hΓ 6 rfl ?_
    refine j_cond rfl (fun hb=>?_) (fun hb=>?_)
    ·have h7:=cT h6 hb
     refine go hΓ 2 rfl ?_
     refine eo_litT hΓ (enc:=(eN .i64)) [0,1,3] rfl rfl rfl rfl rfl rfl rfl rfl rfl rfl rfl rfl (nBe rfl) ?_
     refine go_ops hΓ 6 rfl ?_
     obtain rfl:=oSi h7
     exact fin_pure hΓ (.inr rfl) rfl rfl
    ·have h8:=cF h6 hb
     refine go hΓ 6 rfl ?_
     refine j_cond rfl (fun hb=>?_) (fun hb=>?_)
     ·have h9:=cT h8 hb
      refine go hΓ 2 rfl ?_
      refine eo_litT hΓ (enc:=(eN .i64)) [0,1,4] rfl rfl rfl rfl rfl rfl rfl rfl rfl rfl rfl rfl (nBe rfl) ?_
      refine go_ops hΓ 6 rfl ?_
      obtain rfl:=oSi h9
      exact fin_pure hΓ (.inr rfl) rfl rfl
     ·have h10:=cF h8 hb
      refine go hΓ 6 rfl ?_
      refine j_cond rfl (fun hb=>?_) (fun hb=>?_)
      ·have h11:=cT h10 hb
       refine go hΓ 2 rfl ?_
       refine eo_litT hΓ (enc:=(eN .i64)) [0,1,5] rfl rfl rfl rfl rfl rfl rfl rfl rfl rfl rfl rfl (nBe rfl) ?_
       refine go_ops hΓ 6 rfl ?_
       obtain rfl:=oSi h11
       exact fin_pure hΓ (.inr rfl) rfl rfl
      ·have h12:=cF h10 hb
       refine go hΓ 5 rfl ?_
       refine eo_litT hΓ (enc:=(eN .i64)) [0,1] rfl rfl rfl rfl rfl rfl rfl rfl rfl rfl rfl rfl (nBe rfl) ?_
       refine go_ops hΓ 4 rfl ?_
       obtain rfl:=oSi h12
       exact fin_pure hΓ (.inr rfl) rfl rfl
end Go.Proofs.YtjmlnnanfkiakaaGreatDoor
