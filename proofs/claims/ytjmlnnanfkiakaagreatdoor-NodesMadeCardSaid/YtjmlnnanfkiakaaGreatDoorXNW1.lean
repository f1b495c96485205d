import Derived.Test.YtjmlnnanfkiakaaGreatDoorXNM
import Derived.Test.YtjmlnnanfkiakaaGreatDoorGt
import Derived.Test.YtjmlnnanfkiakaaGreatDoorStrS
import Derived.Test.YtjmlnnanfkiakaaGreatDoorStrK
set_option maxHeartbeats 8000000
set_option linter.all false
set_option maxRecDepth 100000
namespace Go.Proofs.YtjmlnnanfkiakaaGreatDoor
open Go.Gk
theorem E.{u}{α:Sort u}{a:α}:a=a:=rfl
theorem Z{n m:Nat}(h:Nat.ble n m=true:=by exact rfl):n≤m:=nBe h
theorem C{f:FuncId}{fn:Func}(h:Tryz.prog.funcs[f]?=some fn:=by exact rfl)(h1:fn.body.isNone=false:=by exact rfl)(h2:(fn.name== "runtime.NumGoroutine")=false:=by exact rfl):Callable Tryz.prog f:=Lth h h1 h2
theorem bK{α β:Type}{x:Option α}{f:α→Option β}{r:β}{G:Prop}(h:bi x f=some r)(k:∀ a,x=some a→f a=some r→G):G:=let⟨a,b,c⟩:=Kju h;k a b c
theorem gK{α:Type}{c:Bool}{x:Option α}{r:α}{G:Prop}(h:gd c x=some r)(k:c=true→x=some r→G):G:=let⟨a,b⟩:=Kjv h;k a b
section
variable{F N:Nat}{Q:GPost}{fr fr':Fr}{hp:List Ob}{ks:List Kt}
theorem jC{P:Program}{t:Tmp}{x y:Code}{b:Bool}{α:Type}{u v r:α}(hb:fr.get t=some (.d (.v (.bool b))))(h:(bif b then u else v)=r)(h1:u=r→St.holds P F N Q (.code x ks) fr hp)(h2:v=r→St.holds P F N Q (.code y ks) fr hp):St.holds P F N Q (.code (.cond (.tmp t) x y) ks) fr hp:=Kjn hb (fun e=>h1 (cT h e)) fun e=>h2 (cF h e)
theorem gA(n:Nat){st st':St}(h:mrun Γ N hp n st fr=(st',fr'))(k:St.holds Tryz.prog F N Q st' fr' hp):St.holds Tryz.prog F N Q st fr hp:=go hΓ n h k
theorem gO(n:Nat){full:Array Oper}{l:List Oper}{st':St}(h:mrun Γ N hp n (.ops full l ks) fr=(st',fr'))(k:St.holds Tryz.prog F N Q st' fr' hp):EO Tryz.prog F N full l (stk Tryz.prog F N Q ks) fr hp:=Kjk hΓ n h k
theorem gP{fn:Func}{gs:List G}{g:G}(h:resAll Γ fr hp fn.results.toList=some gs)(hg:retG gs=g):(Exit.ret=.normal∨Exit.ret=.ret)∧Res Tryz.prog fn fr hp g:=Klh hΓ (.inr rfl) h hg
end
abbrev Lnj(x:Lgd):List D:=[Sl (eN .i64) x.L,.v (.int .i64 x.v_at)]
abbrev Lnk(x:Lge):List D:=[.v (.string ⟨x.Tag.toArray⟩),Sl eS x.Users]
abbrev Lnl(x:Lgf):List D:=[Sl eS x.Users,Sl Lnk x.Owners,.v (.int .i64 x.Life),.v (.bool x.Approve)]
abbrev Lnm(x:Lgg):List D:=[.v (.int .i64 x.At),.v (.string ⟨x.Server.toArray⟩),.v (.int .i64 x.No),.v (.int .i64 x.Kind),.v (.string ⟨x.By.toArray⟩),.v (.string ⟨x.Node.toArray⟩),.v (.string ⟨x.Join.toArray⟩),.v (.string ⟨x.Public.toArray⟩),.v (.string ⟨x.Name.toArray⟩),Sl eS x.Tags,.v (.int .i64 x.Until),.v (.int .i64 x.Uses),.v (.bool x.Ready)]
abbrev Lnn(x:Lgh):List D:=[Sl eS x.d.Users,Sl Lnk x.d.Owners,.v (.int .i64 x.d.Life),.v (.bool x.d.Approve),Sl Lnm x.l,.v (.int .i64 x.fault)]
abbrev Lno(x:Lgi):List D:=[.v (.bool x.Six),.v (.int .u64 x.Hi),.v (.int .u64 x.Lo)]
abbrev Lnp(x:Lgj):List D:=[.v (.bool x.Addr.Six),.v (.int .u64 x.Addr.Hi),.v (.int .u64 x.Addr.Lo),.v (.int .i64 x.Bits)]
abbrev Lnq(x:Lgk):List D:=[.v (.string ⟨x.Node.toArray⟩),Slt 252 3 Lno x.Addrs,Slt 257 4 Lnp x.Routes]
abbrev Lnr(x:Lgl):List D:=[.v (.string ⟨x.server.toArray⟩),.v (.int .i64 x.no)]
abbrev Lns(x:Lgm):List D:=[.v (.string ⟨x.Key.toArray⟩),.v (.string ⟨x.User.toArray⟩),.v (.string ⟨x.Name.toArray⟩),Sl eS x.Tags,Sl Lno x.Addrs,Sl Lnp x.Routes]
abbrev Lnt(x:Lgn):List D:=[.v (.string ⟨x.Node.toArray⟩),.v (.string ⟨x.User.toArray⟩),.v (.string ⟨x.Name.toArray⟩),.v (.string ⟨x.Public.toArray⟩),Sl eS x.Tags,.v (.int .i64 x.Joined),.v (.int .i64 x.Expires),.v (.bool x.Approved)]
abbrev Lnu(x:Lgo):List D:=[.v (.int .i64 x.v_at),.v (.string ⟨x.is.Node.toArray⟩),.v (.string ⟨x.is.User.toArray⟩),.v (.string ⟨x.is.Name.toArray⟩),.v (.string ⟨x.is.Public.toArray⟩),Sl eS x.is.Tags,.v (.int .i64 x.is.Joined),.v (.int .i64 x.is.Expires),.v (.bool x.is.Approved),.v (.bool x.gone),.v (.bool x.key)]
abbrev Lnv(x:Lgq):List D:=[.v (.string ⟨x.Key.toArray⟩),.v (.string ⟨x.By.toArray⟩),Sl eS x.Tags,.v (.int .i64 x.Until),.v (.int .i64 x.Left),.v (.bool x.Ready)]
abbrev Lnw(x:Lgr):List D:=[.v (.string ⟨x.Join.Key.toArray⟩),.v (.string ⟨x.Join.By.toArray⟩),Sl eS x.Join.Tags,.v (.int .i64 x.Join.Until),.v (.int .i64 x.Join.Left),.v (.bool x.Join.Ready),.v (.bool x.revoked),.v (.int .i64 x.used)]
abbrev Lnx(x:Lgt):List D:=[.v (.int .i64 x.Step),.v (.int .i64 x.Why)]
abbrev Lny(x:Lgu):List D:=[.v (.string ⟨x.Join.Key.toArray⟩),.v (.string ⟨x.Join.By.toArray⟩),Sl eS x.Join.Tags,.v (.int .i64 x.Join.Until),.v (.int .i64 x.Join.Left),.v (.bool x.Join.Ready),.v (.bool x.revoked),.v (.int .i64 x.used)]
abbrev Lnz(x:Lgv):List D:=[.v (.string ⟨x.Public.toArray⟩),.v (.int .i64 x.From),.v (.int .i64 x.To)]
abbrev arX(l0:List (Nat×Lgr))(l1:List (Nat×(List Lgv)))(l2:List (Nat×Lgn))(l3:List (Nat×Lgu))(l4:List (Nat×Str)):List Ar:=arG (fB 215 Lnw) l0++(arG (fR 107 3 Lnz) l1++(arG (fB 77 Lnt) l2++(arG (fB 227 Lny) l3++(arG (fB 9 eS) l4))))
abbrev mObH(m:List (Str×Nat)):Ob:=mOb kS false (eH (some 0)) m
abbrev mObM(m:List (Str×Lgn)):Ob:=mOb kS true Lnt m
abbrev mObT(m:List (Str×Tl Lgo)):Ob:=mOb kS false (eT 233 11 Lnu) m
abbrev mObB(m:List (Str×Bool)):Ob:=mOb kS false eB m
abbrev mObV(m:List (Str×Vl)):Ob:=mOb kS false (eV 107 3) m
abbrev fM(m:Lgn):List G:=[S m.Node,S m.User,S m.Name,S m.Public,.d (Sl eS m.Tags),I m.Joined,I m.Expires,B m.Approved]
abbrev rO{α:Type}(t:TypeId)(z:Nat)(e:α→List D)(l:List α):Ob:=.row t z l.length (l.flatMap e)
abbrev fS(s:Lgg):List G:=[I s.At,S s.Server,I s.No,I s.Kind,S s.By,S s.Node,S s.Join,S s.Public,S s.Name,.d (Sl eS s.Tags),I s.Until,I s.Uses,B s.Ready]
abbrev fD(d:Lgf):List G:=[.d (Sl eS d.Users),.d (Sl Lnk d.Owners),I d.Life,B d.Approve]
abbrev fQ(s:Lgd):List G:=[.d (Sl (eN .i64) s.L),I s.v_at]
abbrev bg(al:BagT):Ob:=.bag al.1 (arX al.2.1 al.2.2.1 al.2.2.2.1 al.2.2.2.2.1 al.2.2.2.2.2) []
abbrev fW(d:Lgf)(a b c e:Nat):List G:=[.d (Sl eS d.Users),.d (Sl Lnk d.Owners),I d.Life,B d.Approve,.map a,.map b,.map c,.map e]
abbrev bH(h:Lgs)(a b c e:Nat):Ob:=.box 220 (fW h.d a b c e)
abbrev bN(h:Lgp)(a b c e:Nat):Ob:=.box 206 (fW h.d a b c e)
abbrev oH(h:Lgs)(a b c e:Nat)(l:List Ob):List Ob:=mObH h.keys::mObH h.nodes::mObB h.ever::mObV h.History::bH h a b c e::l
abbrev oN(h:Lgp)(a b c e:Nat)(l:List Ob):List Ob:=mObB h.users::mObH h.passes::mObM h.there::mObT h.story::bN h a b c e::l
abbrev bZ:Ob:=.box 37 [I 0,S [],I 0,I 0,S [],S [],S [],S [],S [],.d (Sl eS []),I 0,I 0,B false]
theorem Lpu:KeyP Tryz.prog 150 (kD Lnr):=Ksm hΓ [150] Lnr (show Γ 150=some ⟨.struct _,_,_,_⟩ from rfl) (by kernel_rfl) (fun _=>rfl) (fun _=>rfl) (fun a b=>by
  show some (((a.server==b.server)&&((a.no==b.no)&&true)))=some (a==b)
  refine congrArg some ?_
  rw[Bool.eq_iff_iff]
  cases a;cases b;simp[Bool.and_eq_true]) (fun a b h=>by simpa using h) (fun a=>by simp) (fun a=>by simp[Instr.sameBits,kD,Lnr,Ksi])
theorem Lpv:KeyP Tryz.prog 252 (kD Lno):=Ksm hΓ [252] Lno (show Γ 252=some ⟨.struct _,_,_,_⟩ from rfl) (by kernel_rfl) (fun _=>rfl) (fun _=>rfl) (fun a b=>by
  show some (((a.Six==b.Six)&&((a.Hi==b.Hi)&&((a.Lo==b.Lo)&&true))))=some (a==b)
  refine congrArg some ?_
  rw[Bool.eq_iff_iff]
  cases a;cases b;simp[Bool.and_eq_true]) (fun a b h=>by simpa using h) (fun a=>by simp) (fun a=>by simp[Instr.sameBits,kD,Lno,Ksi])
theorem Loa{x:Int}{n:Int}{r:Int}(h:Lgw x n=some r):Pure Tryz.prog 101 [I x,I n] (I r):=by
 unfold Lgw at h
 refine Pure.enter (Fr.of 0 _) Tryz.func101 E (Fr.of_ok _) E E<|Kjm<|gA 12 E<|jC E h (fun h1=>?_) fun h2=>bK h2 fun y3 hy3 h4=>gA 6 E<|eo_o E (Klg hy3 E E)<|bK h4 fun q5 hq5 h6=>gO 10 E<|Knu [(0,I q5)] [] ?_ ?_
 ·exact gA 7 E<|oSi h1▸gP E E
 ·refine jC E hq5 (fun h7=>?_) fun h8=>gA 1 E<|oSi h8▸⟨⟨E,tV⟩,[],E,.inl E⟩
  exact gA 6 E<|oSi h7▸⟨⟨E,tV⟩,[],E,.inl E⟩
 exact gA 8 E<|oSi h6▸gP E E
theorem Lob{s:Lgd}{n:Int}{r:Int×Lgd}(h:Lgx s n=some r):EC Tryz.prog 26 [.ptr 0 0,I n] [.box 25 (fQ s)] fun g hp'=>g=I r.1∧hp'=[.box 25 (fQ r.2)]:=by
 unfold Lgx at h
 refine Kvz (Fr.of 0 _) Tryz.func26 E (Fr.of_ok _) Z fun _=>Kjm<|gA 14 E<|Kxs hΓ E E E E E E E E Z<|Kld [.box 25 [.d (Sl (eN .i64) s.L),I (wi (s.v_at+1))]] E<|gO 13 E<|jC E h (fun h1=>?_) fun h4=>gA 3 E<|Kjq hmix (by kernel_rfl)<|bK h4 fun y5 hy5 h6=>gA 10 E<|gl_o E (Klg hy5 E E)<|Kjl hΓ 4 E<|Kjq hmix (by kernel_rfl)<|bK h6 fun y7 hy7 h8=>gA 10 E<|gl_o E (Klf hy7 E E)<|bK h8 fun x9 hx9 h10=>Kjl hΓ 10 E<|eo_o E (Kke hΓ (enc:=(eN .i64)) hx9 E E E E E (fun _=>E))<|bK h10 fun y11 hy11 h12=>gO 1 E<|Kkv C (Loa hy11) E Z E E E E E<|bK h12 fun y13 hy13 h14=>gO 6 E<|Kkv C (Loa hy13) E Z E E E E E<|gO 4 E<|oSi h14▸Kli hΓ [] (.inr E) E E E E (.inl E)
 exact bK h1 fun y2 hy2 h3=>gA 8 E<|Kkv C (Loa hy2) E Z E E E E E<|gO 5 E<|oSi h3▸Kli hΓ [] (.inr E) E E E E (.inl E)
theorem Loc{s:Lgd}{low:Int}{high:Int}{r:Int×Lgd}(h:Lgy s low high=some r):EC Tryz.prog 11 [.ptr 0 0,I low,I high] [.box 25 (fQ s)] fun g hp'=>g=I r.1∧hp'=[.box 25 (fQ r.2)]:=by
 unfold Lgy at h
 refine Kvz (Fr.of 0 _) Tryz.func11 E (Fr.of_ok _) Z fun _=>Kjm<|gA 13 E<|jC E h (fun h1=>?_) fun h2=>bK h2 fun y3 hy3 h4=>gA 10 E<|Kku [0] (I y3.1) [.box 25 (fQ y3.2)] C (Lob hy3) E Z E E E E E E E E E E<|gO 5 E<|oSi h4▸Kli hΓ [] (.inr E) E E E E (.inl E)
 exact gA 8 E<|oSi h1▸Kli hΓ [] (.inr E) E E E E (.inl E)
theorem Lod{s:Lgd}{l:List Int}{r:Int×Lgd}(h:Lgz s l=some r):EC Tryz.prog 13 [.ptr 0 0,.d (Sl (eN .i64) l)] [.box 25 (fQ s)] fun g hp'=>g=I r.1∧hp'=[.box 25 (fQ r.2)]:=by
 unfold Lgz at h
 exact Kvz (Fr.of 0 _) Tryz.func13 E (Fr.of_ok _) Z fun _=>Kjm<|bK h fun y1 hy1 h2=>gA 11 E<|Kku [0] (I y1.1) [.box 25 (fQ y1.2)] C (Lob hy1) E Z E E E E E E E E E E<|bK h2 fun x3 hx3 h4=>eo_o E (Kke hΓ (enc:=(eN .i64)) hx3 E E E E E (fun _=>E))<|gO 5 E<|oSi h4▸Kli hΓ [] (.inr E) E E E E (.inl E)
theorem Loe{s:Lgd}{n:Int}{r:Bool×Lgd}(h:Lha s n=some r):EC Tryz.prog 24 [.ptr 0 0,I n] [.box 25 (fQ s)] fun g hp'=>g=B r.1∧hp'=[.box 25 (fQ r.2)]:=by
 unfold Lha at h
 exact Kvz (Fr.of 0 _) Tryz.func24 E (Fr.of_ok _) Z fun _=>Kjm<|bK h fun y1 hy1 h2=>gA 9 E<|Kku [0] (I y1.1) [.box 25 (fQ y1.2)] C (Lob hy1) E Z E E E E E E E E E E<|gO 5 E<|oSi h2▸Kli hΓ [] (.inr E) E E E E (.inl E)
theorem Lof{s:Lgd}{r:Lgf×Lgd}(h:Lhb s=some r):EC Tryz.prog 187 [.ptr 0 0] [.box 25 (fQ s)] fun g hp'=>g=.agg [.sl 1 r.1.Users.length,.sl 2 r.1.Owners.length,I r.1.Life,B r.1.Approve]∧hp'=[.box 25 (fQ r.2),rO 9 1 eS r.1.Users,rO 155 2 Lnk r.1.Owners]:=by
 unfold Lhb at h
 exact Kqd (Fr.of 0 _) Tryz.func187 E (Fr.of_ok _) Z fun _=>Kjm<|gA 2 E<|Kxn hΓ E E E Z<|gO 3 E<|bK h fun y1 hy1 h2=>bK h2 fun x3 hx3 h4=>bK h4 fun y5 hy5 h6=>bK h6 fun x7 hx7 h8=>bK h8 fun y9 hy9 h10=>bK h10 fun y11 hy11 h12=>Kth hΓ [] [] [0,5,13,17,20,22,24] [] [⟨1,[],.d (Sl eS [[97,110,110],[98,111,98]]),none⟩,⟨2,[],.d (Sl eS [[98,111,98]]),none⟩,⟨3,[(4,.d (Sl eS [[97,110,110],[98,111,98]])),(5,.d (Sl eS [[98,111,98]]))],.d (Sl (eL eS) [[[97,110,110],[98,111,98]],[[98,111,98]],[]]),none⟩,⟨5,[(7,.ptr 0 0)],I y1.1,some (0,.box 25 (fQ s),.box 25 (fQ y1.2))⟩,⟨6,[(6,.d (Sl (eL eS) [[[97,110,110],[98,111,98]],[[98,111,98]],[]])),(8,I y1.1)],.rp [Sl eS x3],none⟩,⟨9,[],.d (Sl eS [[97,110,110]]),none⟩,⟨10,[],.d (Sl eS [[97,110,110],[99,105,100]]),none⟩,⟨11,[(12,.d (Sl eS [[97,110,110]])),(13,.d (Sl eS [[97,110,110],[99,105,100]]))],.d (Sl (eL eS) [[[97,110,110]],[[97,110,110],[99,105,100]]]),none⟩,⟨13,[(15,.ptr 0 0)],I y5.1,some (0,.box 25 (fQ y1.2),.box 25 (fQ y5.2))⟩,⟨14,[(14,.d (Sl (eL eS) [[[97,110,110]],[[97,110,110],[99,105,100]]])),(16,I y5.1)],.rp [Sl eS x7],none⟩,⟨19,[],.d (Sl (eN .i64) [20,60,100,1000]),none⟩,⟨20,[(21,.ptr 0 0),(22,.d (Sl (eN .i64) [20,60,100,1000]))],I y9.1,some (0,.box 25 (fQ y5.2),.box 25 (fQ y9.2))⟩,⟨22,[(24,.ptr 0 0)],B y11.1,some (0,.box 25 (fQ y9.2),.box 25 (fQ y11.2))⟩] [([0,1,2,3],[0,1,2,3]),([0,1,2,3],[0,1,2,3]),([0,1,2,3],[0,1,2,3]),([0,1,2,3],[0,1,2,3]),([0,1,2,3],[0,1,2,3]),([0,1,2,3],[0,1,2,3]),([0,1,2,3],[0,1,2,3]),([0,1,2,3],[0,1,2,3]),([0,1,2,3],[0,1,2,3]),([0,1,3,2],[0,1,3,2]),([0,1,3,2],[0,1,3,2]),([0,1,3,2],[0,1,3,2]),([0,1,2,3],[0,1,2,3]),([0,1,2,3],[0,1,2,3]),([0,1,3,2],[0,1,3,2]),([0,1,3,2],[0,1,3,2]),([0,1,2,3],[0,1,2,3]),([0,1,3,2],[0,1,3,2])] [(2,.ptr 1 0)] [.box 25 (fQ y11.2),.box 29 [.sl 2 [[97,110,110],[98,111,98],[99,105,100]].length,.sl 3 [(⟨[100,98],x3⟩:Lge),(⟨[119,101,98],x7⟩:Lge)].length,I y9.1,B y11.1],rO 9 1 eS [[97,110,110],[98,111,98],[99,105,100]],rO 155 2 Lnk [(⟨[100,98],x3⟩:Lge),(⟨[119,101,98],x7⟩:Lge)]] hmix (by kernel_rfl) (by kernel_rfl) (Ksw ⟨Ktm hΓ (enc:=eS) [[97,110,110],[98,111,98]] E E E E E E E E E E E E E E,Ktm hΓ (enc:=eS) [[98,111,98]] E E E E E E E E E E E E E E,Ktm hΓ (enc:=(eL eS)) [[[97,110,110],[98,111,98]],[[98,111,98]],[]] E E E E E E E E E E E E E E,Ktl 0 E E E C (Lob hy1) E E (fun _=>E) (fun _=>E) E E (fun _=>E) (fun _=>E),Ktj E E E (fun hp=>Kke hΓ (enc:=(eL eS)) hx3 E E E E E (fun _=>E)),Ktm hΓ (enc:=eS) [[97,110,110]] E E E E E E E E E E E E E E,Ktm hΓ (enc:=eS) [[97,110,110],[99,105,100]] E E E E E E E E E E E E E E,Ktm hΓ (enc:=(eL eS)) [[[97,110,110]],[[97,110,110],[99,105,100]]] E E E E E E E E E E E E E E,Ktl 0 E E E C (Lob hy5) E E (fun _=>E) (fun _=>E) E E (fun _=>E) (fun _=>E),Ktj E E E (fun hp=>Kke hΓ (enc:=(eL eS)) hx7 E E E E E (fun _=>E)),Ktm hΓ (enc:=(eN .i64)) [20,60,100,1000] E E E E E E E E E E E E E E,Ktl 0 E E E C (Lod hy9) E E (fun _=>E) (fun _=>E) E E (fun _=>E) (fun _=>E),Ktl 0 E E E C (Loe hy11) E E (fun _=>E) (fun _=>E) E E (fun _=>E) (fun _=>E),tV⟩) trivial Z<|gA 2 E<|Kqc Z<|Kns 1 4 [.box 25 (fQ y11.2),.dead,rO 9 1 eS [[97,110,110],[98,111,98],[99,105,100]],rO 155 2 Lnk [(⟨[100,98],x3⟩:Lge),(⟨[119,101,98],x7⟩:Lge)],.box 29 [.sl 2 [[97,110,110],[98,111,98],[99,105,100]].length,.sl 3 [(⟨[100,98],x3⟩:Lge),(⟨[119,101,98],x7⟩:Lge)].length,I y9.1,B y11.1]] E E E E E E<|Kns 2 1 [.box 25 (fQ y11.2),rO 9 1 eS [[97,110,110],[98,111,98],[99,105,100]],.dead,rO 155 2 Lnk [(⟨[100,98],x3⟩:Lge),(⟨[119,101,98],x7⟩:Lge)],.box 29 [.sl 1 [[97,110,110],[98,111,98],[99,105,100]].length,.sl 3 [(⟨[100,98],x3⟩:Lge),(⟨[119,101,98],x7⟩:Lge)].length,I y9.1,B y11.1]] E E E E E E<|Kns 3 2 [.box 25 (fQ y11.2),rO 9 1 eS [[97,110,110],[98,111,98],[99,105,100]],rO 155 2 Lnk [(⟨[100,98],x3⟩:Lge),(⟨[119,101,98],x7⟩:Lge)],.dead,.box 29 [.sl 1 [[97,110,110],[98,111,98],[99,105,100]].length,.sl 2 [(⟨[100,98],x3⟩:Lge),(⟨[119,101,98],x7⟩:Lge)].length,I y9.1,B y11.1]] E E E E E E<|Knq<|oSi h12▸Kli hΓ [_,_] (.inr E) E E E E (.inr ⟨HB.mk E,E⟩)
theorem Log{s:Lgd}{l:List Str}{r:Str×Lgd}(h:Lhc s l=some r):EC Tryz.prog 22 [.ptr 0 0,.d (Sl eS l)] [.box 25 (fQ s)] fun g hp'=>g=S r.1∧hp'=[.box 25 (fQ r.2)]:=by
 unfold Lhc at h
 exact Kvz (Fr.of 0 _) Tryz.func22 E (Fr.of_ok _) Z fun _=>Kjm<|bK h fun y1 hy1 h2=>gA 11 E<|Kku [0] (I y1.1) [.box 25 (fQ y1.2)] C (Lob hy1) E Z E E E E E E E E E E<|bK h2 fun x3 hx3 h4=>eo_o E (Kke hΓ (enc:=eS) hx3 E E E E E (fun _=>E))<|gO 5 E<|oSi h4▸Kli hΓ [] (.inr E) E E E E (.inl E)
theorem Loh{s:Lgd}{r:Lgf×Lgd}(h:Lhd s=some r):EC Tryz.prog 83 [.ptr 0 0] [.box 25 (fQ s)] fun g hp'=>g=.agg (fD r.1)∧hp'=[.box 25 (fQ r.2)]:=by
 unfold Lhd at h
 refine Kvz (Fr.of 0 _) Tryz.func83 E (Fr.of_ok _) Z fun _=>Kjm<|gA 2 E<|Kxn hΓ E E E Z<|bK h fun y1 hy1 h2=>gO 5 E<|Kku [0] (.agg [.sl 2 y1.1.Users.length,.sl 3 y1.1.Owners.length,I y1.1.Life,B y1.1.Approve]) [.box 25 (fQ y1.2),.box 29 [.d (Sl eS []),.d (Sl Lnk []),I 0,B false],rO 9 1 eS y1.1.Users,rO 155 2 Lnk y1.1.Owners] C (Lof hy1) E Z E E E E E E E E E E<|Kxn hΓ E E E Z<|Kxs hΓ E E E E E E E E Z<|Kld [.box 25 (fQ y1.2),.box 29 [.d (Sl eS []),.d (Sl Lnk []),I 0,B false],rO 9 1 eS y1.1.Users,rO 155 2 Lnk y1.1.Owners,.box 29 [.sl 2 y1.1.Users.length,.sl 3 y1.1.Owners.length,I y1.1.Life,B y1.1.Approve]] E<|bK h2 fun y3 hy3 h4=>gO 6 E<|Kku [0] (B y3.1) [.box 25 (fQ y3.2),.box 29 [.d (Sl eS []),.d (Sl Lnk []),I 0,B false],rO 9 1 eS y1.1.Users,rO 155 2 Lnk y1.1.Owners,.box 29 [.sl 2 y1.1.Users.length,.sl 3 y1.1.Owners.length,I y1.1.Life,B y1.1.Approve]] C (Loe hy3) E Z E E E E E E E E E E<|bK h4 fun q5 hq5 h6=>gO 2 E<|Knv [(2,.ptr 1 0),(3,.ptr 4 0)] [.box 25 (fQ q5.1),.box 29 [.d (Sl eS []),.d (Sl Lnk []),I 0,B false],rO 9 1 eS q5.2.1,rO 155 2 Lnk q5.2.2.1,.box 29 [.sl 2 q5.2.1.length,.sl 3 q5.2.2.1.length,I q5.2.2.2,B y1.1.Approve]] ?_ ?_
 ·refine jC E hq5 (fun h7=>?_) fun h33=>gA 1 E<|Knq<|oSi h33▸⟨⟨E,E,tV⟩,[],E,.inl E⟩
  refine bK h7 fun y8 hy8 h9=>gA 3 E<|Kku [0] (I y8.1) [.box 25 (fQ y8.2),.box 29 [.d (Sl eS []),.d (Sl Lnk []),I 0,B false],rO 9 1 eS y1.1.Users,rO 155 2 Lnk y1.1.Owners,.box 29 [.sl 2 y1.1.Users.length,.sl 3 y1.1.Owners.length,I y1.1.Life,B y1.1.Approve]] C (Lob hy8) E Z E E E E E E E E E E<|gO 9 E<|jC E h9 (fun h10=>?_) fun h15=>gA 6 E<|jC E h15 (fun h16=>?_) fun h23=>?_
  ·exact Kmu [.dead,.dead,.dead,.dead,.box 29 [.sl 2 y1.1.Users.length,.sl 3 y1.1.Owners.length,I y1.1.Life,B y1.1.Approve]] [1] [4,6,8] [6,8] hmix (by kernel_rfl) (by kernel_rfl) ⟨E,tV⟩ Z<|go_E hΓ 3 E<|Kni hΓ (enc:=eS) [[],[97,110,110],[65]] E E E E E E E E E E E E<|bK h10 fun y11 hy11 h12=>ge_h [.box 25 (fQ y11.2),.box 29 [.d (Sl eS []),.d (Sl Lnk []),I 0,B false],rO 9 1 eS y1.1.Users,rO 155 2 Lnk y1.1.Owners,.box 29 [.sl 2 y1.1.Users.length,.sl 3 y1.1.Owners.length,I y1.1.Life,B y1.1.Approve]] E E E (Knb ⟨E,tV⟩) (Kng [0] (S y11.1) [.box 25 (fQ y11.2),.box 29 [.d (Sl eS []),.d (Sl Lnk []),I 0,B false],rO 9 1 eS y1.1.Users,rO 155 2 Lnk y1.1.Owners,.box 29 [.sl 2 y1.1.Users.length,.sl 3 y1.1.Owners.length,I y1.1.Life,B y1.1.Approve]] C (Log hy11) E E E E E E E E E E)<|Kni hΓ (enc:=eS) [y11.1] E E E E E E E E E E E E<|bK h12 fun y13 hy13 h14=>ge_h [.box 25 (fQ y11.2),.box 29 [.d (Sl eS []),.d (Sl Lnk []),I 0,B false],.dead,rO 155 2 Lnk y1.1.Owners,.box 29 [.junk,.sl 3 y1.1.Owners.length,I y1.1.Life,B y1.1.Approve],rO 9 1 eS y13] E E E (Kna E) (Kne (Kon 2 (Kmm hΓ (enc:=eS) (id:=2) (h2:=show Γ 9=some ⟨_,1,_,_⟩ from E) hy13 E E E E E E E E (fun _=>E) E)))<|go_E hΓ 1 E<|Kmz [.box 25 (fQ y11.2),.box 29 [.d (Sl eS []),.d (Sl Lnk []),I 0,B false],.dead,rO 155 2 Lnk y1.1.Owners,.box 29 [.sl 5 y13.length,.sl 3 y1.1.Owners.length,I y1.1.Life,B y1.1.Approve],rO 9 1 eS y13] E E (Kna E) (Knf (Kof hΓ E E E E E E E E E))<|Kmw<|gA 1 E<|Kns 5 2 [.box 25 (fQ y11.2),.box 29 [.d (Sl eS []),.d (Sl Lnk []),I 0,B false],rO 9 1 eS y13,rO 155 2 Lnk y1.1.Owners,.box 29 [.sl 2 y13.length,.sl 3 y1.1.Owners.length,I y1.1.Life,B y1.1.Approve],.dead] E E E E E E<|Knq<|oSi h14▸⟨⟨E,E,tV⟩,[_],E,.inr ⟨HB.mk E,FB.mk E,Z⟩⟩
  ·exact Kmu [.dead,.dead,.dead,.dead,.box 29 [.sl 2 y1.1.Users.length,.sl 3 y1.1.Owners.length,I y1.1.Life,B y1.1.Approve]] [1] [4,7,11,13] [11,13] hmix (by kernel_rfl) (by kernel_rfl) ⟨E,tV⟩ Z<|go_E hΓ 3 E<|Kni hΓ (enc:=eS) [[],[100,98],[122,122]] E E E E E E E E E E E E<|bK h16 fun y17 hy17 h18=>ge_h [.box 25 (fQ y17.2),.box 29 [.d (Sl eS []),.d (Sl Lnk []),I 0,B false],rO 9 1 eS y1.1.Users,rO 155 2 Lnk y1.1.Owners,.box 29 [.sl 2 y1.1.Users.length,.sl 3 y1.1.Owners.length,I y1.1.Life,B y1.1.Approve]] E E E (Knb ⟨E,tV⟩) (Kng [0] (S y17.1) [.box 25 (fQ y17.2),.box 29 [.d (Sl eS []),.d (Sl Lnk []),I 0,B false],rO 9 1 eS y1.1.Users,rO 155 2 Lnk y1.1.Owners,.box 29 [.sl 2 y1.1.Users.length,.sl 3 y1.1.Owners.length,I y1.1.Life,B y1.1.Approve]] C (Log hy17) E E E E E E E E E E)<|go_E hΓ 1 E<|Kni hΓ (enc:=eS) [[97,110,110],[110,111,110,101]] E E E E E E E E E E E E<|bK h18 fun y19 hy19 h20=>ge_h [.box 25 (fQ y19.2),.box 29 [.d (Sl eS []),.d (Sl Lnk []),I 0,B false],rO 9 1 eS y1.1.Users,rO 155 2 Lnk y1.1.Owners,.box 29 [.sl 2 y1.1.Users.length,.sl 3 y1.1.Owners.length,I y1.1.Life,B y1.1.Approve]] E E E (Knb ⟨E,tV⟩) (Kng [0] (S y19.1) [.box 25 (fQ y19.2),.box 29 [.d (Sl eS []),.d (Sl Lnk []),I 0,B false],rO 9 1 eS y1.1.Users,rO 155 2 Lnk y1.1.Owners,.box 29 [.sl 2 y1.1.Users.length,.sl 3 y1.1.Owners.length,I y1.1.Life,B y1.1.Approve]] C (Log hy19) E E E E E E E E E E)<|Kni hΓ (enc:=eS) [y19.1] E E E E E E E E E E E E<|ge_q E (.inl E) (fun _ _=>Kmx (qt_p (Knl hΓ (gs:=[S y17.1,.d (Sl eS [y19.1])]) E E E E E E)))<|Kni hΓ (enc:=Lnk) [(⟨y17.1,[y19.1]⟩:Lge)] E E E E E E E E E E E E<|bK h20 fun y21 hy21 h22=>ge_h [.box 25 (fQ y19.2),.box 29 [.d (Sl eS []),.d (Sl Lnk []),I 0,B false],rO 9 1 eS y1.1.Users,.dead,.box 29 [.sl 2 y1.1.Users.length,.junk,I y1.1.Life,B y1.1.Approve],rO 155 2 Lnk y21] E E E (Kna E) (Kne (Kon 3 (Kmm hΓ (enc:=Lnk) (id:=3) (h2:=show Γ 155=some ⟨_,2,_,_⟩ from E) hy21 E E E E E E E E (fun _=>E) E)))<|go_E hΓ 1 E<|Kmz [.box 25 (fQ y19.2),.box 29 [.d (Sl eS []),.d (Sl Lnk []),I 0,B false],rO 9 1 eS y1.1.Users,.dead,.box 29 [.sl 2 y1.1.Users.length,.sl 5 y21.length,I y1.1.Life,B y1.1.Approve],rO 155 2 Lnk y21] E E (Kna E) (Knf (Kof hΓ E E E E E E E E E))<|Kmw<|gA 1 E<|Kns 5 3 [.box 25 (fQ y19.2),.box 29 [.d (Sl eS []),.d (Sl Lnk []),I 0,B false],rO 9 1 eS y1.1.Users,rO 155 2 Lnk y21,.box 29 [.sl 2 y1.1.Users.length,.sl 3 y21.length,I y1.1.Life,B y1.1.Approve],.dead] E E E E E E<|Knq<|oSi h22▸⟨⟨E,E,tV⟩,[_],E,.inr ⟨HB.mk E,FB.mk E,Z⟩⟩
  refine gA 6 E<|jC E h23 (fun h24=>?_) fun h30=>gA 2 E<|Kkp hΓ (enc:=(eN .i64)) [0,345686400,345686401] E E E E E E E E E E E E Z<|bK h30 fun y31 hy31 h32=>Kku [0] (I y31.1) [.box 25 (fQ y31.2),.box 29 [.d (Sl eS []),.d (Sl Lnk []),I 0,B false],rO 9 1 eS y1.1.Users,rO 155 2 Lnk y1.1.Owners,.box 29 [.sl 2 y1.1.Users.length,.sl 3 y1.1.Owners.length,I y1.1.Life,B y1.1.Approve]] C (Lod hy31) E Z E E E E E E E E E E<|gO 1 E<|Kxs hΓ E E E E E E E E Z<|Kld [.box 25 (fQ y31.2),.box 29 [.d (Sl eS []),.d (Sl Lnk []),I 0,B false],rO 9 1 eS y1.1.Users,rO 155 2 Lnk y1.1.Owners,.box 29 [.sl 2 y1.1.Users.length,.sl 3 y1.1.Owners.length,I y31.1,B y1.1.Approve]] E<|gO 2 E<|Knq<|oSi h32▸⟨⟨E,E,tV⟩,[],E,.inl E⟩
  refine Kmu [.dead,.dead,.dead,.dead,.box 29 [.sl 2 y1.1.Users.length,.sl 3 y1.1.Owners.length,I y1.1.Life,B y1.1.Approve]] [1] [4,8] [] hmix (by kernel_rfl) (by kernel_rfl) ⟨E,tV⟩ Z<|go_E hΓ 3 E<|Kni hΓ (enc:=eS) [[97,110,110],[98,111,98]] E E E E E E E E E E E E<|bK h24 fun y25 hy25 h26=>ge_h [.box 25 (fQ y25.2),.box 29 [.d (Sl eS []),.d (Sl Lnk []),I 0,B false],rO 9 1 eS y1.1.Users,rO 155 2 Lnk y1.1.Owners,.box 29 [.sl 2 y1.1.Users.length,.sl 3 y1.1.Owners.length,I y1.1.Life,B y1.1.Approve]] E E E (Knb ⟨E,tV⟩) (Kng [0] (S y25.1) [.box 25 (fQ y25.2),.box 29 [.d (Sl eS []),.d (Sl Lnk []),I 0,B false],rO 9 1 eS y1.1.Users,rO 155 2 Lnk y1.1.Owners,.box 29 [.sl 2 y1.1.Users.length,.sl 3 y1.1.Owners.length,I y1.1.Life,B y1.1.Approve]] C (Log hy25) E E E E E E E E E E)<|Kni hΓ (enc:=eS) [[98,111,98],y25.1] E E E E E E E E E E E E<|bK h26 fun x27 hx27 h28=>?_
  have hj29:=Kln hx27
  refine ge_q E (.inl E) (fun _ _=>Kmx (qt_p (Kkg hΓ hx27 E E E E E E)))<|go_E hΓ 1 E<|Kmz [.box 25 (fQ y25.2),.box 29 [.d (Sl eS []),.d (Sl Lnk []),I 0,B false],rO 9 1 eS y1.1.Users,rO 155 2 Lnk (y1.1.Owners.set ((0:Int).toNat) (⟨x27.Tag,[[98,111,98],y25.1]⟩:Lge)),.box 29 [.sl 2 y1.1.Users.length,.sl 3 y1.1.Owners.length,I y1.1.Life,B y1.1.Approve]] E E (Knb ⟨E,tV⟩) (Knf (Kpj hΓ (enc:=Lnk) (z':=(⟨x27.Tag,[[98,111,98],y25.1]⟩:Lge)) ((0:Int).toNat) 1 hj29 E E E E (fun _=>E) E E E E E E E))<|Kmw<|gA 1 E<|Kqp [.box 25 (fQ y25.2),.box 29 [.d (Sl eS []),.d (Sl Lnk []),I 0,B false],rO 9 1 eS y1.1.Users,rO 155 2 Lnk (y1.1.Owners.set ((0:Int).toNat) (⟨x27.Tag,[[98,111,98],y25.1]⟩:Lge)),.box 29 [.sl 2 y1.1.Users.length,.sl 3 (y1.1.Owners.set ((0:Int).toNat) (⟨x27.Tag,[[98,111,98],y25.1]⟩:Lge)).length,I y1.1.Life,B y1.1.Approve]] (by simp only[List.length_set]) ?_
  exact Knq<|oSi h28▸⟨⟨E,E,tV⟩,[],E,.inl E⟩
 exact gA 4 E<|Klb 2 [49] _ [.box 25 (fQ q5.1),.box 29 [.d (Sl eS []),.d (Sl Lnk []),I 0,B false],.dead,rO 155 2 Lnk q5.2.2.1,.box 29 [.d (Sl eS q5.2.1),.sl 3 q5.2.2.1.length,I q5.2.2.2,B y1.1.Approve]] E E E Z<|Klb 3 [49] _ [.box 25 (fQ q5.1),.box 29 [.d (Sl eS []),.d (Sl Lnk []),I 0,B false],.dead,.dead,.box 29 [.d (Sl eS q5.2.1),.d (Sl Lnk q5.2.2.1),I q5.2.2.2,B y1.1.Approve]] E E E Z<|Kxs hΓ E E E E E E E E Z<|Kld [.box 25 (fQ q5.1),.box 29 [.d (Sl eS q5.2.1),.d (Sl Lnk q5.2.2.1),I q5.2.2.2,B y1.1.Approve],.dead,.dead,.box 29 [.d (Sl eS q5.2.1),.d (Sl Lnk q5.2.2.1),I q5.2.2.2,B y1.1.Approve]] E<|gO 3 E<|oSi h6▸Kli hΓ [_,_,_,_] (.inr E) E E E E (.inr ⟨HB.mk E,E⟩)
theorem Loi{s:Lgd}{r:Str×Lgd}(h:Lhe s=some r):EC Tryz.prog 21 [.ptr 0 0] [.box 25 (fQ s)] fun g hp'=>g=S r.1∧hp'=[.box 25 (fQ r.2)]:=by
 unfold Lhe at h
 exact Kvz (Fr.of 0 _) Tryz.func21 E (Fr.of_ok _) Z fun _=>Kjm<|gA 8 E<|Kkp hΓ (enc:=eS) [[97,110,110],[97,110,110],[97,110,110],[98,111,98],[99,105,100],[122,101,100]] E E E E E E E E E E E E Z<|bK h fun y1 hy1 h2=>Kku [0] (S y1.1) [.box 25 (fQ y1.2)] C (Log hy1) E Z E E E E E E E E E E<|gO 4 E<|oSi h2▸Kli hΓ [] (.inr E) E E E E (.inl E)
theorem Loj{s:Lgd}{r:(List Str)×Lgd}(h:Lhf s=some r):EC Tryz.prog 84 [.ptr 0 0] [.box 25 (fQ s)] fun g hp'=>g=.d (Sl eS r.1)∧hp'=[.box 25 (fQ r.2)]:=by
 unfold Lhf at h
 exact Kvz (Fr.of 0 _) Tryz.func84 E (Fr.of_ok _) Z fun _=>Kjm<|gA 7 E<|Kkp hΓ (enc:=eS) [[119,101,98]] E E E E E E E E E E E E Z<|Kkp hΓ (enc:=eS) [[119,101,98]] E E E E E E E E E E E E Z<|Kkp hΓ (enc:=eS) [[100,98]] E E E E E E E E E E E E Z<|Kkp hΓ (enc:=eS) [[100,98],[119,101,98]] E E E E E E E E E E E E Z<|Kkp hΓ (enc:=eS) [[110,111,110,101]] E E E E E E E E E E E E Z<|Kkp hΓ (enc:=(eL eS)) [[],[[119,101,98]],[[119,101,98]],[[100,98]],[[100,98],[119,101,98]],[[110,111,110,101]]] E E E E E E E E E E E E Z<|bK h fun y1 hy1 h2=>gO 1 E<|Kku [0] (I y1.1) [.box 25 (fQ y1.2)] C (Lob hy1) E Z E E E E E E E E E E<|bK h2 fun x3 hx3 h4=>eo_o E (Kke hΓ (enc:=(eL eS)) hx3 E E E E E (fun _=>E))<|gO 5 E<|oSi h4▸Kli hΓ [] (.inr E) E E E E (.inl E)
theorem Lok{s:Lgd}{v_at:Int}{r:Lgg×Lgd}(h:Lhg s v_at=some r):EC Tryz.prog 12 [.ptr 0 0,I v_at] [.box 25 (fQ s)] fun g hp'=>g=.agg (fS r.1)∧hp'=[.box 25 (fQ r.2)]:=by
 unfold Lhg at h
 refine Kvz (Fr.of 0 _) Tryz.func12 E (Fr.of_ok _) Z fun _=>Kjm<|gA 2 E<|Kxn hΓ E E E Z<|gO 6 E<|Kkp hΓ (enc:=eS) [[115,49],[115,49],[115,50]] E E E E E E E E E E E E Z<|bK h fun y1 hy1 h2=>Kku [0] (S y1.1) [.box 25 (fQ y1.2),bZ] C (Log hy1) E Z E E E E E E E E E E<|gO 1 E<|Kkp hΓ (enc:=(eN .i64)) [1,2,3,3,3,3,3,4,5,5,6,7,7,8,9] E E E E E E E E E E E E Z<|bK h2 fun y3 hy3 h4=>Kku [0] (I y3.1) [.box 25 (fQ y3.2),bZ] C (Lod hy3) E Z E E E E E E E E E E<|bK h4 fun y5 hy5 h6=>gO 1 E<|Kku [0] (S y5.1) [.box 25 (fQ y5.2),bZ] C (Loi hy5) E Z E E E E E E E E E E<|Khr hΓ (gs:=[I v_at,S y1.1,I 0,I y3.1,S y5.1,S [],S [],S [],S [],.d (Sl eS []),I 0,I 0,B false]) E E E E E E E<|Kxn hΓ E E E Z<|Kxs hΓ E E E E E E E E Z<|Kld [.box 25 (fQ y5.2),bZ,.box 37 [I v_at,S y1.1,I 0,I y3.1,S y5.1,S [],S [],S [],S [],.d (Sl eS []),I 0,I 0,B false]] E<|gO 5 E<|Kkp hΓ (enc:=eS) [[110,97],[110,97],[110,98],[110,98],[110,99],[110,100]] E E E E E E E E E E E E Z<|bK h6 fun y7 hy7 h8=>Kku [0] (S y7.1) [.box 25 (fQ y7.2),bZ,.box 37 [I v_at,S y1.1,I 0,I y3.1,S y5.1,S [],S [],S [],S [],.d (Sl eS []),I 0,I 0,B false]] C (Log hy7) E Z E E E E E E E E E E<|gO 6 E<|Kkp hΓ (enc:=eS) [[107,49],[107,49],[107,50]] E E E E E E E E E E E E Z<|bK h8 fun y9 hy9 h10=>Kku [0] (S y9.1) [.box 25 (fQ y9.2),bZ,.box 37 [I v_at,S y1.1,I 0,I y3.1,S y5.1,S [],S [],S [],S [],.d (Sl eS []),I 0,I 0,B false]] C (Log hy9) E Z E E E E E E E E E E<|gO 6 E<|Kkp hΓ (enc:=eS) [[48,97],[48,98],[48,99],[48,100],[48,101],[49,97],[49,98]] E E E E E E E E E E E E Z<|bK h10 fun y11 hy11 h12=>Kku [0] (S y11.1) [.box 25 (fQ y11.2),bZ,.box 37 [I v_at,S y1.1,I 0,I y3.1,S y5.1,S [],S [],S [],S [],.d (Sl eS []),I 0,I 0,B false]] C (Log hy11) E Z E E E E E E E E E E<|bK h12 fun q13 hq13 h14=>gO 10 E<|Knu [(4,.ptr 1 0),(5,.ptr 2 0)] [.box 25 (fQ q13.1),bZ,.box 37 (fS q13.2)] ?_ ?_
 ·refine gA 7 E<|jC E hq13 (fun h15=>?_) fun h24=>gA 6 E<|jC E h24 (fun h25=>?_) fun h26=>?_
  ·exact bK h15 fun y16 hy16 h17=>gA 3 E<|Kku [0] (.d (Sl eS y16.1)) [.box 25 (fQ y16.2),bZ,.box 37 [I v_at,S y1.1,I 0,I y3.1,S y5.1,S [],S [],S [],S [],.d (Sl eS []),I 0,I 0,B false]] C (Loj hy16) E Z E E E E E E E E E E<|gO 2 E<|Kkp hΓ (enc:=(eN .i64)) [0,5,50,200] E E E E E E E E E E E E Z<|bK h17 fun y18 hy18 h19=>Kku [0] (I y18.1) [.box 25 (fQ y18.2),bZ,.box 37 [I v_at,S y1.1,I 0,I y3.1,S y5.1,S [],S [],S [],S [],.d (Sl eS []),I 0,I 0,B false]] C (Lod hy18) E Z E E E E E E E E E E<|gO 2 E<|Kkp hΓ (enc:=(eN .i64)) [0,1,2,1000,1001] E E E E E E E E E E E E Z<|bK h19 fun y20 hy20 h21=>Kku [0] (I y20.1) [.box 25 (fQ y20.2),bZ,.box 37 [I v_at,S y1.1,I 0,I y3.1,S y5.1,S [],S [],S [],S [],.d (Sl eS []),I 0,I 0,B false]] C (Lod hy20) E Z E E E E E E E E E E<|bK h21 fun y22 hy22 h23=>gO 1 E<|Kku [0] (B y22.1) [.box 25 (fQ y22.2),bZ,.box 37 [I v_at,S y1.1,I 0,I y3.1,S y5.1,S [],S [],S [],S [],.d (Sl eS []),I 0,I 0,B false]] C (Loe hy22) E Z E E E E E E E E E E<|gO 1 E<|Kxs hΓ E E E E E E E E Z<|Kld [.box 25 (fQ y22.2),bZ,.box 37 [I v_at,S y1.1,I 0,I y3.1,S y5.1,S [],S y9.1,S [],S [],.d (Sl eS []),I 0,I 0,B false]] E<|gO 1 E<|Kxs hΓ E E E E E E E E Z<|Kld [.box 25 (fQ y22.2),bZ,.box 37 [I v_at,S y1.1,I 0,I y3.1,S y5.1,S [],S y9.1,S [],S [],.d (Sl eS y16.1),I 0,I 0,B false]] E<|gO 1 E<|Kxs hΓ E E E E E E E E Z<|Kld [.box 25 (fQ y22.2),bZ,.box 37 [I v_at,S y1.1,I 0,I y3.1,S y5.1,S [],S y9.1,S [],S [],.d (Sl eS y16.1),I (wi (v_at+y18.1)),I 0,B false]] E<|gO 1 E<|Kxs hΓ E E E E E E E E Z<|Kld [.box 25 (fQ y22.2),bZ,.box 37 [I v_at,S y1.1,I 0,I y3.1,S y5.1,S [],S y9.1,S [],S [],.d (Sl eS y16.1),I (wi (v_at+y18.1)),I y20.1,B false]] E<|gO 1 E<|Kxs hΓ E E E E E E E E Z<|Kld [.box 25 (fQ y22.2),bZ,.box 37 [I v_at,S y1.1,I 0,I y3.1,S y5.1,S [],S y9.1,S [],S [],.d (Sl eS y16.1),I (wi (v_at+y18.1)),I y20.1,B y22.1]] E<|gO 2 E<|oSi h23▸⟨⟨E,E,tV⟩,[],E,.inl E⟩
  ·exact gA 3 E<|Kxs hΓ E E E E E E E E Z<|Kld [.box 25 (fQ y11.2),bZ,.box 37 [I v_at,S y1.1,I 0,I y3.1,S y5.1,S [],S y9.1,S [],S [],.d (Sl eS []),I 0,I 0,B false]] E<|gO 2 E<|oSi h25▸⟨⟨E,E,tV⟩,[],E,.inl E⟩
  refine gA 6 E<|jC E h26 (fun h27=>?_) fun h38=>gA 6 E<|jC E h38 (fun h39=>?_) fun h40=>?_
  ·refine gA 6 E<|Kkp hΓ (enc:=eS) [y7.1,[98,111,120],[98,111,120],[119,101,98]] E E E E E E E E E E E E Z<|bK h27 fun y28 hy28 h29=>Kku [0] (S y28.1) [.box 25 (fQ y28.2),bZ,.box 37 [I v_at,S y1.1,I 0,I y3.1,S y5.1,S [],S [],S [],S [],.d (Sl eS []),I 0,I 0,B false]] C (Log hy28) E Z E E E E E E E E E E<|gO 1 E<|Kxs hΓ E E E E E E E E Z<|Kld [.box 25 (fQ y28.2),bZ,.box 37 [I v_at,S y1.1,I 0,I y3.1,S y5.1,S y7.1,S [],S [],S [],.d (Sl eS []),I 0,I 0,B false]] E<|gO 1 E<|Kxs hΓ E E E E E E E E Z<|Kld [.box 25 (fQ y28.2),bZ,.box 37 [I v_at,S y1.1,I 0,I y3.1,S y5.1,S y7.1,S [],S y11.1,S [],.d (Sl eS []),I 0,I 0,B false]] E<|gO 1 E<|Kxs hΓ E E E E E E E E Z<|Kld [.box 25 (fQ y28.2),bZ,.box 37 [I v_at,S y1.1,I 0,I y3.1,S y5.1,S y7.1,S [],S y11.1,S y28.1,.d (Sl eS []),I 0,I 0,B false]] E<|bK h29 fun y30 hy30 h31=>gO 5 E<|Kku [0] (B y30.1) [.box 25 (fQ y30.2),bZ,.box 37 [I v_at,S y1.1,I 0,I y3.1,S y5.1,S y7.1,S [],S y11.1,S y28.1,.d (Sl eS []),I 0,I 0,B false]] C (Loe hy30) E Z E E E E E E E E E E<|gO 2 E<|jC E h31 (fun h32=>?_) fun h37=>gA 2 E<|oSi h37▸⟨⟨E,E,tV⟩,[],E,.inl E⟩
   refine gA 4 E<|Kxs hΓ E E E E E E E E Z<|Kld [.box 25 (fQ y30.2),bZ,.box 37 [I v_at,S y1.1,I 0,I y3.1,S y5.1,S y7.1,S y9.1,S y11.1,S y28.1,.d (Sl eS []),I 0,I 0,B false]] E<|bK h32 fun y33 hy33 h34=>gO 5 E<|Kku [0] (B y33.1) [.box 25 (fQ y33.2),bZ,.box 37 [I v_at,S y1.1,I 0,I y3.1,S y5.1,S y7.1,S y9.1,S y11.1,S y28.1,.d (Sl eS []),I 0,I 0,B false]] C (Loe hy33) E Z E E E E E E E E E E<|gO 3 E<|jC E h34 (fun h35=>?_) fun h36=>gA 2 E<|oSi h36▸⟨⟨E,E,tV⟩,[],E,.inl E⟩
   exact gA 2 E<|Kxs hΓ E E E E E E E E Z<|Kld [.box 25 (fQ y33.2),bZ,.box 37 [I v_at,S y1.1,I 0,I y3.1,S [],S y7.1,S y9.1,S y11.1,S y28.1,.d (Sl eS []),I 0,I 0,B false]] E<|gO 2 E<|oSi h35▸⟨⟨E,E,tV⟩,[],E,.inl E⟩
  ·exact gA 4 E<|Kxs hΓ E E E E E E E E Z<|Kld [.box 25 (fQ y11.2),bZ,.box 37 [I v_at,S y1.1,I 0,I y3.1,S y5.1,S y7.1,S [],S [],S [],.d (Sl eS []),I 0,I 0,B false]] E<|gO 1 E<|Kxs hΓ E E E E E E E E Z<|Kld [.box 25 (fQ y11.2),bZ,.box 37 [I v_at,S y1.1,I 0,I y3.1,S y5.1,S y7.1,S [],S y11.1,S [],.d (Sl eS []),I 0,I 0,B false]] E<|gO 2 E<|oSi h39▸⟨⟨E,E,tV⟩,[],E,.inl E⟩
  refine gA 6 E<|jC E h40 (fun h41=>?_) fun h44=>gA 6 E<|jC E h44 (fun h45=>?_) fun h48=>?_
  ·exact gA 3 E<|Kkp hΓ (enc:=eS) [[98,111,120],[119,101,98],[109,97,99]] E E E E E E E E E E E E Z<|bK h41 fun y42 hy42 h43=>Kku [0] (S y42.1) [.box 25 (fQ y42.2),bZ,.box 37 [I v_at,S y1.1,I 0,I y3.1,S y5.1,S [],S [],S [],S [],.d (Sl eS []),I 0,I 0,B false]] C (Log hy42) E Z E E E E E E E E E E<|gO 1 E<|Kxs hΓ E E E E E E E E Z<|Kld [.box 25 (fQ y42.2),bZ,.box 37 [I v_at,S y1.1,I 0,I y3.1,S y5.1,S y7.1,S [],S [],S [],.d (Sl eS []),I 0,I 0,B false]] E<|gO 1 E<|Kxs hΓ E E E E E E E E Z<|Kld [.box 25 (fQ y42.2),bZ,.box 37 [I v_at,S y1.1,I 0,I y3.1,S y5.1,S y7.1,S [],S [],S y42.1,.d (Sl eS []),I 0,I 0,B false]] E<|gO 2 E<|oSi h43▸⟨⟨E,E,tV⟩,[],E,.inl E⟩
  ·exact bK h45 fun y46 hy46 h47=>gA 3 E<|Kku [0] (.d (Sl eS y46.1)) [.box 25 (fQ y46.2),bZ,.box 37 [I v_at,S y1.1,I 0,I y3.1,S y5.1,S [],S [],S [],S [],.d (Sl eS []),I 0,I 0,B false]] C (Loj hy46) E Z E E E E E E E E E E<|gO 1 E<|Kxs hΓ E E E E E E E E Z<|Kld [.box 25 (fQ y46.2),bZ,.box 37 [I v_at,S y1.1,I 0,I y3.1,S y5.1,S y7.1,S [],S [],S [],.d (Sl eS []),I 0,I 0,B false]] E<|gO 1 E<|Kxs hΓ E E E E E E E E Z<|Kld [.box 25 (fQ y46.2),bZ,.box 37 [I v_at,S y1.1,I 0,I y3.1,S y5.1,S y7.1,S [],S [],S [],.d (Sl eS y46.1),I 0,I 0,B false]] E<|gO 2 E<|oSi h47▸⟨⟨E,E,tV⟩,[],E,.inl E⟩
  exact gA 3 E<|Kxs hΓ E E E E E E E E Z<|Kld [.box 25 (fQ y11.2),bZ,.box 37 [I v_at,S y1.1,I 0,I y3.1,S y5.1,S y7.1,S [],S [],S [],.d (Sl eS []),I 0,I 0,B false]] E<|gO 2 E<|oSi h48▸⟨⟨E,E,tV⟩,[],E,.inl E⟩
 exact gA 4 E<|Kxs hΓ E E E E E E E E Z<|Kld [.box 25 (fQ q13.1),.box 37 (fS q13.2),.box 37 (fS q13.2)] E<|gO 3 E<|oSi h14▸Kli hΓ [_,_] (.inr E) E E E E (.inr ⟨HB.mk E,E⟩)
theorem Lol{x:Int}{r:Bool}(h:Lhh x=some r):Pure Tryz.prog 251 [I x] (B r):=by
 unfold Lhh at h
 exact Pure.enter (Fr.of 0 _) Tryz.func251 E (Fr.of_ok _) E E<|Kjm<|gA 14 E<|oSi h▸gP E E
theorem Lom{x:Int}{y:Int}{r:Int}(h:Lhi x y=some r):Pure Tryz.prog 167 [I x,I y] (I r):=by
 unfold Lhi at h
 refine Pure.enter (Fr.of 0 _) Tryz.func167 E (Fr.of_ok _) E E<|Kjm<|bK h fun y1 hy1 h2=>gA 8 E<|Kkv C (Lol hy1) E Z E E E E E<|bK h2 fun y3 hy3 h4=>gO 6 E<|Kkv C (Lol hy3) E Z E E E E E<|gO 9 E<|jC E h4 (fun h5=>?_) fun h8=>gA 8 E<|jC E h8 (fun h9=>?_) fun h10=>?_
 ·refine gA 6 E<|jC E h5 (fun h6=>?_) fun h7=>gA 9 E<|oSi h7▸gP E E
  exact gA 8 E<|oSi h6▸gP E E
 ·exact gA 7 E<|oSi h9▸gP E E
 refine gA 10 E<|jC E h10 (fun h11=>?_) fun h12=>gA 10 E<|jC E h12 (fun h13=>?_) fun h14=>?_
 ·exact gA 7 E<|oSi h11▸gP E E
 ·exact gA 7 E<|oSi h13▸gP E E
 exact gA 8 E<|oSi h14▸gP E E
theorem Lon{vals:List Int}{r:Int}(h:Lhj vals=some r):Pure Tryz.prog 196 [.d (Sl (eN .i64) vals)] (I r):=by
 unfold Lhj at h
 refine Pure.enter (Fr.of 0 _) Tryz.func196 E (Fr.of_ok _) E E<|Kjm<|gA 18 E<|bK h fun q4 hq4 h5=>Kkd 6 E fun hb7=>Knt (R:=fun a6=>q4=.go a6) (fun a6=>[(3,I 0)]) (fun a6=>[]) ?_ ?_
 ·refine gA 1 E<|Kkc vals hq4 (fun i1 s2=>[(3,I 0),(6,.d (Sl (eN .i64) vals)),(7,I (vals.length:Int)),(8,I (i1:Int))]) (fun s2=>[]) ⟨⟨E,E,E,E,tV⟩,[],E,.inl E⟩ (fun i1 x3 s2 y11 hx8 hlt hy9 hout10=>?_) (fun s2 hgo=>?_)
  ·refine gA 6 E<|Kjo E (decide_eq_true (Int.ofNat_lt.2 hlt))<|gA 6 E<|eo_o E (Kke hΓ (enc:=(eN .i64)) (Kjx hx8) E E E E E (fun _=>E))<|gO 11 E<|jC E hy9 (fun h12=>?_) fun h15=>gA 7 E ?_
   ·refine gA 9 E<|bK h12 fun v13 hv13 h14=>?_
    cases h14
    obtain rfl:=hout10 _ rfl
    cases h5
    exact gA 4 E<|oSi hv13▸gP E E
   cases h15
   exact⟨_,E,⟨⟨E,E,E,Kiv E (Kiu (nLl hlt hb7)),tV⟩,[],E,.inl E⟩⟩
  subst hgo
  exact gA 6 E<|Kjp E (decide_eq_false (Int.lt_irrefl _))<|gA 4 E<|⟨_,E,⟨⟨E,tV⟩,[],E,.inl E⟩⟩
 intro a6 ha
 subst ha
 replace h5:=Kno h5
 exact gA 8 E<|oSi h5▸gP E E
theorem Loo{a:Lgg}{b:Lgg}{r:Int}(h:Lhk a b=some r):Pure Tryz.prog 96 [.agg (fS a),.agg (fS b)] (I r):=by
 unfold Lhk at h
 exact Pure.enter (Fr.of 0 _) Tryz.func96 E (Fr.of_ok _) E E<|Kjm<|gA 2 E<|Kxo E E E E Z<|Kxo E E E E Z<|gO 4 E<|Kjq hmix (by kernel_rfl)<|bK h fun y1 hy1 h2=>gA 4 E<|Kkw C (Lom hy1) E E E E E E<|bK h2 fun y3 hy3 h4=>Kjl hΓ 4 E<|Kkw C (Lfu hy3) E E E E E E<|bK h4 fun y5 hy5 h6=>Kjl hΓ 4 E<|Kkw C (Lom hy5) E E E E E E<|Kkq hΓ (enc:=(eN .i64)) [y1,y3,y5] E E E E E E E E E E E E<|bK h6 fun y7 hy7 h8=>Kkw C (Lon hy7) E E E E E E<|Kjl hΓ 4 E<|oSi h8▸gP E E
theorem Lop{k:Nat}{data:List Lgg}{a:Int}{b:Int}{r:List Lgg}(h:Lhl k data a b=some r):EC Tryz.prog 280 [.sl 0 data.length,I a,I b,.fn (.func 96) [] []] [rO 37 13 Lnm data] fun g hp'=>g=.tup []∧hp'=[rO 37 13 Lnm r]:=by
 unfold Lhl at h
 refine Kvz (Fr.of 0 _) Tryz.func280 E (Fr.of_ok _) Z fun _=>Kjm<|gA 7 E<|bK h fun q4 hq4 h5=>Knu [] [rO 37 13 Lnm q4] ?_ ?_
 ·refine gA 1 E<|Kka hq4 (fun s2=>[(0,.sl 0 s2.1.length),(1,I a),(2,I b),(3,.fn (.func 96) [] []),(8,I s2.2)]) (fun s2=>[rO 37 13 Lnm s2.1]) ⟨⟨E,E,E,E,E,tV⟩,[],E,.inl E⟩ (fun s2 y10 hy8 hout9=>?_)
  refine gA 8 E<|jC E hy8 (fun h11=>?_) fun h51=>gA 4 E ?_
  ·refine gA 10 E<|bK h11 fun q15 hq15 h16=>Knu [(0,.sl 0 q15.length),(1,I a),(2,I b),(3,.fn (.func 96) [] []),(8,I s2.2)] [rO 37 13 Lnm q15] ?_ ?_
   ·refine gA 1 E<|Kka hq15 (fun s13=>[(0,.sl 0 s13.1.length),(1,I a),(2,I b),(3,.fn (.func 96) [] []),(8,I s2.2),(9,I s13.2)]) (fun s13=>[rO 37 13 Lnm s13.1]) ⟨⟨E,E,E,E,E,E,tV⟩,[],E,.inl E⟩ (fun s13 y21 hy19 hout20=>?_)
    refine bK hy19 fun q22 hq22 h23=>gA 2 E<|Knu [(0,.sl 0 s13.1.length),(1,I a),(2,I b),(3,.fn (.func 96) [] []),(8,I s2.2),(9,I s13.2),(34,B q22)] [rO 37 13 Lnm s13.1] ?_ ?_
    ·refine Kjq hmix (by kernel_rfl)<|gA 4 E<|Kib E E (fun hb=>?_) (fun hb=>?_)
     ·have h24:=cT hq22 hb
      refine bK h24 fun x25 hx25 h26=>?_
      have hj27:=Kln hx25
      refine Kjl hΓ 3 E<|Kix E E (Kkg hΓ hx25 E E E E E E)<|Kix E E (Kkm hΓ (enc:=Lnm) s13.2.toNat 0 hj27 E E E E (fun _=>E) (g:=.agg (fS x25)) E)<|bK h26 fun x28 hx28 h29=>?_
      have hj30:=Kln hx28
      exact Kjl hΓ 3 E<|Kix E E (Kkg hΓ hx28 E E E E E E)<|Kix E E (Kkm hΓ (enc:=Lnm) ((wi (s13.2 - 1)).toNat) 0 hj30 E E E E (fun _=>E) (g:=.agg (fS x28)) E)<|bK h29 fun y31 hy31 h32=>Kkx C (Loo hy31) E E E E E E E<|Kjl hΓ 3 E<|oSi h32▸⟨⟨E,E,E,E,E,E,E,tV⟩,[],E,.inl E⟩
     have h33:=cF hq22 hb
     exact Kjl hΓ 14 E<|oSi h33▸⟨⟨E,E,E,E,E,E,E,tV⟩,[],E,.inl E⟩
    refine gA 1 E<|jC E h23 (fun h34=>?_) fun h50=>gA 4 E ?_
    ·refine gA 4 E<|Kmu [rO 37 13 Lnm s13.1] [9,13] [15,17] [15,17] hmix (by kernel_rfl) (by kernel_rfl) ⟨E,tV⟩ Z<|bK h34 fun x35 hx35 h36=>?_
     have hj37:=Kln hx35
     refine go_E hΓ 8 E<|ge_q E (.inl E) (fun _ _=>Kmx (qt_p (Kkg hΓ hx35 E E E E E E)))<|ge_p E (fun hp hs=>Kkm hΓ (enc:=Lnm) ((wi (s13.2 - 1)).toNat) 0 hj37 E E E (hs 0 _ E E) (fun _=>E) (g:=.agg (fS x35)) E) E<|bK h36 fun x38 hx38 h39=>?_
     have hj40:=Kln hx38
     refine go_E hΓ 2 E<|ge_q E (.inl E) (fun _ _=>Kmx (qt_p (Kkg hΓ hx38 E E E E E E)))<|ge_p E (fun hp hs=>Kkm hΓ (enc:=Lnm) s13.2.toNat 0 hj40 E E E (hs 0 _ E E) (fun _=>E) (g:=.agg (fS x38)) E) E<|bK h39 fun x41 hx41 h42=>?_
     have hj43:=Kln hx41
     refine ge_q E (.inl E) (fun _ _=>Kmx (qt_p (Kkg hΓ hx41 E E E E E E)))<|Kmz [rO 37 13 Lnm (s13.1.set s13.2.toNat x35)] E E (Kna E) (Knf (Koh hΓ (enc:=Lnm) (z':=x35) s13.2.toNat (by have:=(gEs.1 hj43).1;simpa using this) E E E E (fun _=>E) E E E E E)) ?_
     refine bK h42 fun x44 hx44 h45=>?_
     have hj46:=Kln hx44
     refine ge_q E (.inl E) (fun _ _=>Kmx (qt_p (Kkg hΓ hx44 E E E E E E)))<|bK h45 fun x47 hx47 h48=>?_
     have hj49:(s13.1.set s13.2.toNat x35)[(wi (s13.2 - 1)).toNat]?=some x47:=hx47
     refine Kmz [rO 37 13 Lnm ((s13.1.set s13.2.toNat x35).set ((wi (s13.2 - 1)).toNat) x38)] E E (Kna E) (Knf (Koh hΓ (enc:=Lnm) (z':=x38) ((wi (s13.2 - 1)).toNat) (by have:=(gEs.1 hj49).1;simpa using this) E E E E (fun _=>E) E E E E E)) ?_
     refine Kmw<|gA 2 E<|Koi 0 (n':=((s13.1.set s13.2.toNat x35).set ((wi (s13.2 - 1)).toNat) x38).length) E (by simp) ?_
     refine Koi 37 (n':=((s13.1.set s13.2.toNat x35).set ((wi (s13.2 - 1)).toNat) x38).length) E (by simp) ?_
     refine Koi 39 (n':=((s13.1.set s13.2.toNat x35).set ((wi (s13.2 - 1)).toNat) x38).length) E (by simp) ?_
     refine Koi 42 (n':=((s13.1.set s13.2.toNat x35).set ((wi (s13.2 - 1)).toNat) x38).length) E (by simp) ?_
     refine Koi 47 (n':=((s13.1.set s13.2.toNat x35).set ((wi (s13.2 - 1)).toNat) x38).length) E (by simp) ?_
     exact gA 5 E<|oSi h48▸⟨_,E,⟨⟨E,E,E,E,E,E,tV⟩,[],E,.inl E⟩⟩
    cases h50
    obtain rfl:=hout20 _ rfl
    exact⟨⟨E,E,E,E,E,tV⟩,[],E,.inl E⟩
   exact gA 7 E<|oSi h16▸⟨_,E,⟨⟨E,E,E,E,E,tV⟩,[],E,.inl E⟩⟩
  cases h51
  obtain rfl:=hout9 _ rfl
  exact⟨tV,[],E,.inl E⟩
 exact oSi h5▸Kli hΓ [] (.inl E) E E E E (.inl E)
theorem Loq{k:Nat}{data:List Lgg}{n:Int}{r:List Lgg}(h:Lhm k data n=some r):EC Tryz.prog 205 [.sl 0 data.length,I n,.fn (.func 96) [] []] [rO 37 13 Lnm data] fun g hp'=>g=.tup []∧hp'=[rO 37 13 Lnm r]:=by
 unfold Lhm at h
 refine Kvz (Fr.of 0 _) Tryz.func205 E (Fr.of_ok _) Z fun _=>Kjm<|gA 13 E<|bK h fun q4 hq4 h5=>Knu [(0,.sl 0 q4.1.length),(1,I n),(2,.fn (.func 96) [] []),(6,I 20),(7,I q4.2)] [rO 37 13 Lnm q4.1] ?_ ?_
 ·refine gA 1 E<|Kka hq4 (fun s2=>[(0,.sl 0 s2.1.length),(1,I n),(2,.fn (.func 96) [] []),(6,I 20),(7,I s2.2.1),(8,I s2.2.2)]) (fun s2=>[rO 37 13 Lnm s2.1]) ⟨⟨E,E,E,E,E,E,tV⟩,[],E,.inl E⟩ (fun s2 y10 hy8 hout9=>?_)
  refine gA 8 E<|jC E hy8 (fun h11=>?_) fun h16=>gA 4 E ?_
  ·exact bK h11 fun y12 hy12 h13=>gA 9 E<|Kku [0] (.tup []) [rO 37 13 Lnm y12] C (Lop hy12) E Z E E E E E E E E E E<|gK h13 fun hg15 h14=>Koe 0 E (of_decide_eq_true hg15).symm<|gO 15 E<|oSi h14▸⟨_,E,⟨⟨E,E,E,E,E,E,tV⟩,[],E,.inl E⟩⟩
  cases h16
  obtain rfl:=hout9 _ rfl
  exact⟨⟨E,E,E,E,E,tV⟩,[],E,.inl E⟩
 refine bK h5 fun y17 hy17 h18=>gA 7 E<|Kku [0] (.tup []) [rO 37 13 Lnm y17] C (Lop hy17) E Z E E E E E E E E E E<|gK h18 fun hg20 h19=>Koe 0 E (of_decide_eq_true hg20).symm<|gO 2 E<|bK h19 fun q24 hq24 h25=>Knu [] [rO 37 13 Lnm y17] ?_ ?_
 ·refine gA 1 E<|Kka hq24 (fun s22=>[(0,.sl 0 y17.length),(1,I n),(2,.fn (.func 96) [] []),(6,I s22)]) (fun s22=>[rO 37 13 Lnm y17]) ⟨⟨E,E,E,E,tV⟩,[],E,.inl E⟩ (fun s22 y30 hy28 hout29=>?_)
  refine gA 8 E<|jC E hy28 (fun h31=>?_) fun h46=>gA 4 E ?_
  ·refine gA 12 E<|bK h31 fun q35 hq35 h36=>Knu [(0,.sl 0 y17.length),(1,I n),(2,.fn (.func 96) [] []),(6,I s22),(7,I 0)] [rO 37 13 Lnm y17] ?_ ?_
   ·refine gA 1 E<|Kka hq35 (fun s33=>[(0,.sl 0 y17.length),(1,I n),(2,.fn (.func 96) [] []),(6,I s22),(7,I 0),(8,I (wi (2 * s22)))]) (fun s33=>[rO 37 13 Lnm y17]) ⟨⟨E,E,E,E,E,E,tV⟩,[],E,.inl E⟩ (fun s33 y41 hy39 hout40=>?_)
    refine gA 8 E<|jC E hy39 (fun h42=>?_) fun h43=>gA 4 E ?_
    ·refine gA 12 E ?_
     cases h42
    cases h43
    obtain rfl:=hout40 _ rfl
    exact⟨⟨E,E,E,E,E,tV⟩,[],E,.inl E⟩
   refine gA 17 E<|jC E h36 (fun h44=>?_) fun h45=>gA 8 E<|oSi h45▸⟨_,E,⟨⟨E,E,E,E,tV⟩,[],E,.inl E⟩⟩
   refine gA 6 E ?_
   cases h44
  cases h46
  obtain rfl:=hout29 _ rfl
  exact⟨tV,[],E,.inl E⟩
 exact oSi h25▸Kli hΓ [] (.inl E) E E E E (.inl E)
theorem Lor{k:Nat}{x:List Lgg}{r:List Lgg}(h:Lhn k x=some r):EC Tryz.prog 99 [.sl 0 x.length,.fn (.func 96) [] []] [rO 37 13 Lnm x] fun g hp'=>g=.tup []∧hp'=[rO 37 13 Lnm r]:=by
 unfold Lhn at h
 exact Kvz (Fr.of 0 _) Tryz.func99 E (Fr.of_ok _) Z fun _=>Kjm<|bK h fun y1 hy1 h2=>gA 5 E<|Kku [0] (.tup []) [rO 37 13 Lnm y1] C (Loq hy1) E Z E E E E E E E E E E<|gO 1 E<|oSi h2▸Kli hΓ [] (.inl E) E E E E (.inl E)
theorem Los{k:Nat}{s:Lgd}{many:Int}{r:(List Lgg)×Lgd}(h:Lho k s many=some r):EC Tryz.prog 23 [.ptr 0 0,I many] [.box 25 (fQ s)] fun g hp'=>g=.sl 1 r.1.length∧hp'=[.box 25 (fQ r.2),rO 37 13 Lnm r.1]:=by
 unfold Lho at h
 refine Kqd (Fr.of 0 _) Tryz.func23 E (Fr.of_ok _) Z fun _=>Kjm<|gA 2 E<|Kks (t:=0) 37 13 E Z<|gO 4 E<|Kks (t:=0) 37 13 E Z<|gO 4 E<|eo_s Z (nblt.1 E) (Kox false)<|Kld [.box 25 (fQ s),rO 37 13 Lnm ([]:List Lgg),rO 37 13 Lnm ([]:List Lgg),mOb kS false (eN .i64) ([]:List (Str×Int))] E<|bK h fun y1 hy1 h2=>gO 6 E<|Kku [0] (I y1.1) [.box 25 (fQ y1.2),rO 37 13 Lnm ([]:List Lgg),rO 37 13 Lnm ([]:List Lgg),mOb kS false (eN .i64) ([]:List (Str×Int))] C (Lob hy1) E Z E E E E E E E E E E<|gO 10 E<|bK h2 fun q6 hq6 h7=>gK hq6 fun hb9 h10=>?_
 replace hb9:=of_decide_eq_true hb9
 refine Knu [(0,.ptr 0 0),(5,.sl 2 q6.2.1.length)] [.box 25 (fQ q6.1),rO 37 13 Lnm ([]:List Lgg),rO 37 13 Lnm q6.2.1,mOb kS false (eN .i64) q6.2.2.1] ?_ ?_
 ·refine gA 1 E<|Klm h10 (fun i3 s4=>[(0,.ptr 0 0),(5,.sl 2 s4.2.1.length),(6,.map 3),(7,I s4.2.2.2),(13,I many),(14,I (i3:Int))]) (fun s4=>[.box 25 (fQ s4.1),rO 37 13 Lnm ([]:List Lgg),rO 37 13 Lnm s4.2.1,mOb kS false (eN .i64) s4.2.2.1]) ⟨⟨E,E,E,E,E,E,tV⟩,[],E,.inl E⟩ (fun i3 s4 y14 hlt hy12=>?_) (fun hge=>?_)
  ·exact gA 6 E<|Kjo E (decide_eq_true hlt)<|bK hy12 fun y15 hy15 h16=>gA 8 E<|Kku [0] (.agg (fS y15.1)) [.box 25 (fQ y15.2),rO 37 13 Lnm ([]:List Lgg),rO 37 13 Lnm s4.2.1,mOb kS false (eN .i64) s4.2.2.1] C (Lok hy15) E Z E E E E E E E E E E<|Kxn hΓ E E E Z<|Kxs hΓ E E E E E E E E Z<|Kld [.box 25 (fQ y15.2),rO 37 13 Lnm ([]:List Lgg),rO 37 13 Lnm s4.2.1,mOb kS false (eN .i64) s4.2.2.1,.box 37 (fS y15.1)] E<|gO 7 E<|eo_o E (Kpb hΓ (kv:=kS) (agg:=false) (enc:=(eN .i64)) s4.2.2.1 y15.1.Server (0:Int) E E E E Kor E E E E E E E)<|gO 1 E<|eo_u Z (Kpf hΓ (kv:=kS) (agg:=false) (enc:=(eN .i64)) (id:=3) s4.2.2.1 y15.1.Server (wi (((mGet s4.2.2.1 y15.1.Server).getD 0)+1)) E E E Kor E E E E E)<|Kld [.box 25 (fQ y15.2),rO 37 13 Lnm ([]:List Lgg),rO 37 13 Lnm s4.2.1,mOb kS false (eN .i64) (mSet s4.2.2.1 y15.1.Server (wi (((mGet s4.2.2.1 y15.1.Server).getD 0)+1))),.box 37 (fS y15.1)] E<|gO 7 E<|eo_o E (Kpb hΓ (kv:=kS) (agg:=false) (enc:=(eN .i64)) (mSet s4.2.2.1 y15.1.Server (wi (((mGet s4.2.2.1 y15.1.Server).getD 0)+1))) y15.1.Server (0:Int) E E E E Kor E E E E E E E)<|gO 1 E<|Kxs hΓ E E E E E E E E Z<|Kld [.box 25 (fQ y15.2),rO 37 13 Lnm ([]:List Lgg),rO 37 13 Lnm s4.2.1,mOb kS false (eN .i64) (mSet s4.2.2.1 y15.1.Server (wi (((mGet s4.2.2.1 y15.1.Server).getD 0)+1))),.box 37 [I y15.1.At,S y15.1.Server,I ((mGet (mSet s4.2.2.1 y15.1.Server (wi (((mGet s4.2.2.1 y15.1.Server).getD 0)+1))) y15.1.Server).getD 0),I y15.1.Kind,S y15.1.By,S y15.1.Node,S y15.1.Join,S y15.1.Public,S y15.1.Name,.d (Sl eS y15.1.Tags),I y15.1.Until,I y15.1.Uses,B y15.1.Ready]] E<|gO 6 E<|Kkp hΓ (enc:=Lnm) [(⟨y15.1.At,y15.1.Server,((mGet (mSet s4.2.2.1 y15.1.Server (wi (((mGet s4.2.2.1 y15.1.Server).getD 0)+1))) y15.1.Server).getD 0),y15.1.Kind,y15.1.By,y15.1.Node,y15.1.Join,y15.1.Public,y15.1.Name,y15.1.Tags,y15.1.Until,y15.1.Uses,y15.1.Ready⟩:Lgg)] E E E E E E E E E E E E Z<|bK h16 fun y17 hy17 h18=>Kle hΓ (enc:=Lnm) hy17 E E E E E E E E E (fun _=>E) E E E E<|gO 6 E<|Kkp hΓ (enc:=(eN .i64)) [0,1,1,5,20,60] E E E E E E E E E E E E Z<|bK h18 fun y19 hy19 h20=>Kku [0] (I y19.1) [.box 25 (fQ y19.2),rO 37 13 Lnm ([]:List Lgg),rO 37 13 Lnm y17,mOb kS false (eN .i64) (mSet s4.2.2.1 y15.1.Server (wi (((mGet s4.2.2.1 y15.1.Server).getD 0)+1))),.box 37 [I y15.1.At,S y15.1.Server,I ((mGet (mSet s4.2.2.1 y15.1.Server (wi (((mGet s4.2.2.1 y15.1.Server).getD 0)+1))) y15.1.Server).getD 0),I y15.1.Kind,S y15.1.By,S y15.1.Node,S y15.1.Join,S y15.1.Public,S y15.1.Name,.d (Sl eS y15.1.Tags),I y15.1.Until,I y15.1.Uses,B y15.1.Ready]] C (Lod hy19) E Z E E E E E E E E E E<|gO 9 E<|oSi h20▸⟨⟨E,E,E,E,E,Kiv E (Kiu (by omega)),tV⟩,[_],E,.inr ⟨HB.mk E,FB.mk E,Z⟩⟩
  exact gA 6 E<|Kjp E (decide_eq_false hge)<|gA 4 E<|⟨⟨E,E,tV⟩,[],E,.inl E⟩
 refine bK h7 fun y21 hy21 h22=>gA 4 E<|Kku [2] (.tup []) [.box 25 (fQ q6.1),rO 37 13 Lnm ([]:List Lgg),rO 37 13 Lnm y21,mOb kS false (eN .i64) q6.2.2.1] C (Lor hy21) E Z E E E E E E E E E E<|gK h22 fun hg24 h23=>Koe 5 E (of_decide_eq_true hg24).symm<|gO 9 E<|bK h23 fun q25 hq25 h26=>Kjt 3 [(0,.ptr 0 0),(5,.sl 2 y21.length),(47,B q25.2)] [.box 25 (fQ q25.1),rO 37 13 Lnm ([]:List Lgg),rO 37 13 Lnm y21,mOb kS false (eN .i64) q6.2.2.1] ?_ ?_
 ·refine Kwh E E (fun hb=>?_) (fun hb=>?_)
  ·have h27:=cT hq25 hb
   exact bK h27 fun y28 hy28 h29=>gO 1 E<|Kwf E<|Kku [0] (B y28.1) [.box 25 (fQ y28.2),rO 37 13 Lnm ([]:List Lgg),rO 37 13 Lnm y21,mOb kS false (eN .i64) q6.2.2.1] C (Loe hy28) E Z E E E E E E E E E E<|gO 2 E<|oSi h29▸⟨⟨E,E,E,tV⟩,[],E,.inl E⟩
  have h30:=cF hq25 hb
  exact gO 4 E<|oSi h30▸⟨⟨E,E,E,tV⟩,[],E,.inl E⟩
 refine bK h26 fun q31 hq31 h32=>gO 2 E<|Knu [(5,.sl 2 q31.2.length)] [.box 25 (fQ q31.1),rO 37 13 Lnm ([]:List Lgg),rO 37 13 Lnm q31.2,mOb kS false (eN .i64) q6.2.2.1] ?_ ?_
 ·refine jC E hq31 (fun h33=>?_) fun h76=>gA 1 E<|oSi h76▸⟨⟨E,tV⟩,[],E,.inl E⟩
  refine bK h33 fun y34 hy34 h35=>gA 6 E<|Kku [0] (I y34.1) [.box 25 (fQ y34.2),rO 37 13 Lnm ([]:List Lgg),rO 37 13 Lnm y21,mOb kS false (eN .i64) q6.2.2.1] C (Lob hy34) E Z E E E E E E E E E E<|bK h35 fun x36 hx36 h37=>?_
  have hj38:=Kln hx36
  refine eo_o E (Kkg hΓ hx36 E E E E E E)<|bK h37 fun y39 hy39 h40=>gO 6 E<|Kku [0] (I y39.1) [.box 25 (fQ y39.2),rO 37 13 Lnm ([]:List Lgg),rO 37 13 Lnm y21,mOb kS false (eN .i64) q6.2.2.1] C (Lob hy39) E Z E E E E E E E E E E<|gO 9 E<|jC E h40 (fun h41=>?_) fun h44=>gA 6 E<|jC E h44 (fun h45=>?_) fun h51=>?_
  ·exact gA 3 E<|Kkp hΓ (enc:=(eN .i64)) [-1,0,345686400] E E E E E E E E E E E E Z<|bK h41 fun y42 hy42 h43=>Kku [0] (I y42.1) [.box 25 (fQ y42.2),rO 37 13 Lnm ([]:List Lgg),rO 37 13 Lnm y21,mOb kS false (eN .i64) q6.2.2.1] C (Lod hy42) E Z E E E E E E E E E E<|gO 2 E<|Kko hΓ (enc:=Lnm) (z':=(⟨y42.1,x36.Server,x36.No,x36.Kind,x36.By,x36.Node,x36.Join,x36.Public,x36.Name,x36.Tags,x36.Until,x36.Uses,x36.Ready⟩:Lgg)) y34.1.toNat 0 hj38 E E E E (fun _=>E) E E E E E E Z<|Kld [.box 25 (fQ y42.2),rO 37 13 Lnm ([]:List Lgg),rO 37 13 Lnm (y21.set y34.1.toNat (⟨y42.1,x36.Server,x36.No,x36.Kind,x36.By,x36.Node,x36.Join,x36.Public,x36.Name,x36.Tags,x36.Until,x36.Uses,x36.Ready⟩:Lgg)),mOb kS false (eN .i64) q6.2.2.1] E<|Koe 5 (n':=(y21.set y34.1.toNat (⟨y42.1,x36.Server,x36.No,x36.Kind,x36.By,x36.Node,x36.Join,x36.Public,x36.Name,x36.Tags,x36.Until,x36.Uses,x36.Ready⟩:Lgg)).length) E List.length_set.symm<|gO 2 E<|oSi h43▸⟨⟨E,tV⟩,[],E,.inl E⟩
  ·refine gA 4 E<|Kkp hΓ (enc:=eS) [[],[115,49]] E E E E E E E E E E E E Z<|bK h45 fun y46 hy46 h47=>Kku [0] (S y46.1) [.box 25 (fQ y46.2),rO 37 13 Lnm ([]:List Lgg),rO 37 13 Lnm y21,mOb kS false (eN .i64) q6.2.2.1] C (Log hy46) E Z E E E E E E E E E E<|gO 1 E<|Kkp hΓ (enc:=(eN .i64)) [0,1,1000001] E E E E E E E E E E E E Z<|bK h47 fun y48 hy48 h49=>Kku [0] (I y48.1) [.box 25 (fQ y48.2),rO 37 13 Lnm ([]:List Lgg),rO 37 13 Lnm y21,mOb kS false (eN .i64) q6.2.2.1] C (Lod hy48) E Z E E E E E E E E E E<|gO 2 E<|Kko hΓ (enc:=Lnm) (z':=(⟨x36.At,y46.1,x36.No,x36.Kind,x36.By,x36.Node,x36.Join,x36.Public,x36.Name,x36.Tags,x36.Until,x36.Uses,x36.Ready⟩:Lgg)) y34.1.toNat 1 hj38 E E E E (fun _=>E) E E E E E E Z<|Kld [.box 25 (fQ y48.2),rO 37 13 Lnm ([]:List Lgg),rO 37 13 Lnm (y21.set y34.1.toNat (⟨x36.At,y46.1,x36.No,x36.Kind,x36.By,x36.Node,x36.Join,x36.Public,x36.Name,x36.Tags,x36.Until,x36.Uses,x36.Ready⟩:Lgg)),mOb kS false (eN .i64) q6.2.2.1] E ?_
   have hj50:=Koo (y:=(⟨x36.At,y46.1,x36.No,x36.Kind,x36.By,x36.Node,x36.Join,x36.Public,x36.Name,x36.Tags,x36.Until,x36.Uses,x36.Ready⟩:Lgg)) hj38
   exact Koe 5 (n':=(y21.set y34.1.toNat (⟨x36.At,y46.1,x36.No,x36.Kind,x36.By,x36.Node,x36.Join,x36.Public,x36.Name,x36.Tags,x36.Until,x36.Uses,x36.Ready⟩:Lgg)).length) E List.length_set.symm<|gO 2 E<|Kko hΓ (enc:=Lnm) (z':=(⟨x36.At,y46.1,y48.1,x36.Kind,x36.By,x36.Node,x36.Join,x36.Public,x36.Name,x36.Tags,x36.Until,x36.Uses,x36.Ready⟩:Lgg)) y34.1.toNat 2 hj50 E E E E (fun _=>E) E E E E E E Z<|Kld [.box 25 (fQ y48.2),rO 37 13 Lnm ([]:List Lgg),rO 37 13 Lnm ((y21.set y34.1.toNat (⟨x36.At,y46.1,x36.No,x36.Kind,x36.By,x36.Node,x36.Join,x36.Public,x36.Name,x36.Tags,x36.Until,x36.Uses,x36.Ready⟩:Lgg)).set y34.1.toNat (⟨x36.At,y46.1,y48.1,x36.Kind,x36.By,x36.Node,x36.Join,x36.Public,x36.Name,x36.Tags,x36.Until,x36.Uses,x36.Ready⟩:Lgg)),mOb kS false (eN .i64) q6.2.2.1] E<|Koe 5 (n':=((y21.set y34.1.toNat (⟨x36.At,y46.1,x36.No,x36.Kind,x36.By,x36.Node,x36.Join,x36.Public,x36.Name,x36.Tags,x36.Until,x36.Uses,x36.Ready⟩:Lgg)).set y34.1.toNat (⟨x36.At,y46.1,y48.1,x36.Kind,x36.By,x36.Node,x36.Join,x36.Public,x36.Name,x36.Tags,x36.Until,x36.Uses,x36.Ready⟩:Lgg)).length) E List.length_set.symm<|gO 2 E<|oSi h49▸⟨⟨E,tV⟩,[],E,.inl E⟩
  refine gA 6 E<|jC E h51 (fun h52=>?_) fun h55=>gA 6 E<|jC E h55 (fun h56=>?_) fun h62=>?_
  ·exact gA 3 E<|Kkp hΓ (enc:=(eN .i64)) [0,10,3] E E E E E E E E E E E E Z<|bK h52 fun y53 hy53 h54=>Kku [0] (I y53.1) [.box 25 (fQ y53.2),rO 37 13 Lnm ([]:List Lgg),rO 37 13 Lnm y21,mOb kS false (eN .i64) q6.2.2.1] C (Lod hy53) E Z E E E E E E E E E E<|gO 2 E<|Kko hΓ (enc:=Lnm) (z':=(⟨x36.At,x36.Server,x36.No,y53.1,x36.By,x36.Node,x36.Join,x36.Public,x36.Name,x36.Tags,x36.Until,x36.Uses,x36.Ready⟩:Lgg)) y34.1.toNat 3 hj38 E E E E (fun _=>E) E E E E E E Z<|Kld [.box 25 (fQ y53.2),rO 37 13 Lnm ([]:List Lgg),rO 37 13 Lnm (y21.set y34.1.toNat (⟨x36.At,x36.Server,x36.No,y53.1,x36.By,x36.Node,x36.Join,x36.Public,x36.Name,x36.Tags,x36.Until,x36.Uses,x36.Ready⟩:Lgg)),mOb kS false (eN .i64) q6.2.2.1] E<|Koe 5 (n':=(y21.set y34.1.toNat (⟨x36.At,x36.Server,x36.No,y53.1,x36.By,x36.Node,x36.Join,x36.Public,x36.Name,x36.Tags,x36.Until,x36.Uses,x36.Ready⟩:Lgg)).length) E List.length_set.symm<|gO 2 E<|oSi h54▸⟨⟨E,tV⟩,[],E,.inl E⟩
  ·refine gA 4 E<|Kkp hΓ (enc:=eS) [[],[65],[97,110,110]] E E E E E E E E E E E E Z<|bK h56 fun y57 hy57 h58=>Kku [0] (S y57.1) [.box 25 (fQ y57.2),rO 37 13 Lnm ([]:List Lgg),rO 37 13 Lnm y21,mOb kS false (eN .i64) q6.2.2.1] C (Log hy57) E Z E E E E E E E E E E<|gO 1 E<|Kkp hΓ (enc:=eS) [[],[110,97]] E E E E E E E E E E E E Z<|bK h58 fun y59 hy59 h60=>Kku [0] (S y59.1) [.box 25 (fQ y59.2),rO 37 13 Lnm ([]:List Lgg),rO 37 13 Lnm y21,mOb kS false (eN .i64) q6.2.2.1] C (Log hy59) E Z E E E E E E E E E E<|gO 2 E<|Kko hΓ (enc:=Lnm) (z':=(⟨x36.At,x36.Server,x36.No,x36.Kind,y57.1,x36.Node,x36.Join,x36.Public,x36.Name,x36.Tags,x36.Until,x36.Uses,x36.Ready⟩:Lgg)) y34.1.toNat 4 hj38 E E E E (fun _=>E) E E E E E E Z<|Kld [.box 25 (fQ y59.2),rO 37 13 Lnm ([]:List Lgg),rO 37 13 Lnm (y21.set y34.1.toNat (⟨x36.At,x36.Server,x36.No,x36.Kind,y57.1,x36.Node,x36.Join,x36.Public,x36.Name,x36.Tags,x36.Until,x36.Uses,x36.Ready⟩:Lgg)),mOb kS false (eN .i64) q6.2.2.1] E ?_
   have hj61:=Koo (y:=(⟨x36.At,x36.Server,x36.No,x36.Kind,y57.1,x36.Node,x36.Join,x36.Public,x36.Name,x36.Tags,x36.Until,x36.Uses,x36.Ready⟩:Lgg)) hj38
   exact Koe 5 (n':=(y21.set y34.1.toNat (⟨x36.At,x36.Server,x36.No,x36.Kind,y57.1,x36.Node,x36.Join,x36.Public,x36.Name,x36.Tags,x36.Until,x36.Uses,x36.Ready⟩:Lgg)).length) E List.length_set.symm<|gO 2 E<|Kko hΓ (enc:=Lnm) (z':=(⟨x36.At,x36.Server,x36.No,x36.Kind,y57.1,y59.1,x36.Join,x36.Public,x36.Name,x36.Tags,x36.Until,x36.Uses,x36.Ready⟩:Lgg)) y34.1.toNat 5 hj61 E E E E (fun _=>E) E E E E E E Z<|Kld [.box 25 (fQ y59.2),rO 37 13 Lnm ([]:List Lgg),rO 37 13 Lnm ((y21.set y34.1.toNat (⟨x36.At,x36.Server,x36.No,x36.Kind,y57.1,x36.Node,x36.Join,x36.Public,x36.Name,x36.Tags,x36.Until,x36.Uses,x36.Ready⟩:Lgg)).set y34.1.toNat (⟨x36.At,x36.Server,x36.No,x36.Kind,y57.1,y59.1,x36.Join,x36.Public,x36.Name,x36.Tags,x36.Until,x36.Uses,x36.Ready⟩:Lgg)),mOb kS false (eN .i64) q6.2.2.1] E<|Koe 5 (n':=((y21.set y34.1.toNat (⟨x36.At,x36.Server,x36.No,x36.Kind,y57.1,x36.Node,x36.Join,x36.Public,x36.Name,x36.Tags,x36.Until,x36.Uses,x36.Ready⟩:Lgg)).set y34.1.toNat (⟨x36.At,x36.Server,x36.No,x36.Kind,y57.1,y59.1,x36.Join,x36.Public,x36.Name,x36.Tags,x36.Until,x36.Uses,x36.Ready⟩:Lgg)).length) E List.length_set.symm<|gO 2 E<|oSi h60▸⟨⟨E,tV⟩,[],E,.inl E⟩
  refine gA 6 E<|jC E h62 (fun h63=>?_) fun h71=>gA 2 E<|Kkp hΓ (enc:=eS) [[119,101,98],[100,98]] E E E E E E E E E E E E Z<|Kkp hΓ (enc:=eS) [[]] E E E E E E E E E E E E Z<|Kkp hΓ (enc:=eS) [[97],[98]] E E E E E E E E E E E E Z<|Kkp hΓ (enc:=(eL eS)) [[[119,101,98],[100,98]],[[]],[[97],[98]]] E E E E E E E E E E E E Z<|bK h71 fun y72 hy72 h73=>gO 1 E<|Kku [0] (I y72.1) [.box 25 (fQ y72.2),rO 37 13 Lnm ([]:List Lgg),rO 37 13 Lnm y21,mOb kS false (eN .i64) q6.2.2.1] C (Lob hy72) E Z E E E E E E E E E E<|bK h73 fun x74 hx74 h75=>eo_o E (Kke hΓ (enc:=(eL eS)) hx74 E E E E E (fun _=>E))<|gO 3 E<|Kko hΓ (enc:=Lnm) (z':=(⟨x36.At,x36.Server,x36.No,x36.Kind,x36.By,x36.Node,x36.Join,x36.Public,x36.Name,x74,x36.Until,x36.Uses,x36.Ready⟩:Lgg)) y34.1.toNat 9 hj38 E E E E (fun _=>E) E E E E E E Z<|Kld [.box 25 (fQ y72.2),rO 37 13 Lnm ([]:List Lgg),rO 37 13 Lnm (y21.set y34.1.toNat (⟨x36.At,x36.Server,x36.No,x36.Kind,x36.By,x36.Node,x36.Join,x36.Public,x36.Name,x74,x36.Until,x36.Uses,x36.Ready⟩:Lgg)),mOb kS false (eN .i64) q6.2.2.1] E<|Koe 5 (n':=(y21.set y34.1.toNat (⟨x36.At,x36.Server,x36.No,x36.Kind,x36.By,x36.Node,x36.Join,x36.Public,x36.Name,x74,x36.Until,x36.Uses,x36.Ready⟩:Lgg)).length) E List.length_set.symm<|gO 2 E<|oSi h75▸⟨⟨E,tV⟩,[],E,.inl E⟩
  refine bK h63 fun y64 hy64 h65=>gA 4 E<|Kkv C (Lfw hy64) E Z E E E E E<|Kkp hΓ (enc:=eS) [[],[120,121,122],[48,65],y64] E E E E E E E E E E E E Z<|bK h65 fun y66 hy66 h67=>Kku [0] (S y66.1) [.box 25 (fQ y66.2),rO 37 13 Lnm ([]:List Lgg),rO 37 13 Lnm y21,mOb kS false (eN .i64) q6.2.2.1] C (Log hy66) E Z E E E E E E E E E E<|gO 1 E<|Kkp hΓ (enc:=(eN .i64)) [0,-1,1000000000] E E E E E E E E E E E E Z<|bK h67 fun y68 hy68 h69=>Kku [0] (I y68.1) [.box 25 (fQ y68.2),rO 37 13 Lnm ([]:List Lgg),rO 37 13 Lnm y21,mOb kS false (eN .i64) q6.2.2.1] C (Lod hy68) E Z E E E E E E E E E E<|gO 2 E<|Kko hΓ (enc:=Lnm) (z':=(⟨x36.At,x36.Server,x36.No,x36.Kind,x36.By,x36.Node,x36.Join,y66.1,x36.Name,x36.Tags,x36.Until,x36.Uses,x36.Ready⟩:Lgg)) y34.1.toNat 7 hj38 E E E E (fun _=>E) E E E E E E Z<|Kld [.box 25 (fQ y68.2),rO 37 13 Lnm ([]:List Lgg),rO 37 13 Lnm (y21.set y34.1.toNat (⟨x36.At,x36.Server,x36.No,x36.Kind,x36.By,x36.Node,x36.Join,y66.1,x36.Name,x36.Tags,x36.Until,x36.Uses,x36.Ready⟩:Lgg)),mOb kS false (eN .i64) q6.2.2.1] E ?_
  have hj70:=Koo (y:=(⟨x36.At,x36.Server,x36.No,x36.Kind,x36.By,x36.Node,x36.Join,y66.1,x36.Name,x36.Tags,x36.Until,x36.Uses,x36.Ready⟩:Lgg)) hj38
  exact Koe 5 (n':=(y21.set y34.1.toNat (⟨x36.At,x36.Server,x36.No,x36.Kind,x36.By,x36.Node,x36.Join,y66.1,x36.Name,x36.Tags,x36.Until,x36.Uses,x36.Ready⟩:Lgg)).length) E List.length_set.symm<|gO 2 E<|Kko hΓ (enc:=Lnm) (z':=(⟨x36.At,x36.Server,x36.No,x36.Kind,x36.By,x36.Node,x36.Join,y66.1,x36.Name,x36.Tags,y68.1,x36.Uses,x36.Ready⟩:Lgg)) y34.1.toNat 10 hj70 E E E E (fun _=>E) E E E E E E Z<|Kld [.box 25 (fQ y68.2),rO 37 13 Lnm ([]:List Lgg),rO 37 13 Lnm ((y21.set y34.1.toNat (⟨x36.At,x36.Server,x36.No,x36.Kind,x36.By,x36.Node,x36.Join,y66.1,x36.Name,x36.Tags,x36.Until,x36.Uses,x36.Ready⟩:Lgg)).set y34.1.toNat (⟨x36.At,x36.Server,x36.No,x36.Kind,x36.By,x36.Node,x36.Join,y66.1,x36.Name,x36.Tags,y68.1,x36.Uses,x36.Ready⟩:Lgg)),mOb kS false (eN .i64) q6.2.2.1] E<|Koe 5 (n':=((y21.set y34.1.toNat (⟨x36.At,x36.Server,x36.No,x36.Kind,x36.By,x36.Node,x36.Join,y66.1,x36.Name,x36.Tags,x36.Until,x36.Uses,x36.Ready⟩:Lgg)).set y34.1.toNat (⟨x36.At,x36.Server,x36.No,x36.Kind,x36.By,x36.Node,x36.Join,y66.1,x36.Name,x36.Tags,y68.1,x36.Uses,x36.Ready⟩:Lgg)).length) E List.length_set.symm<|gO 2 E<|oSi h69▸⟨⟨E,tV⟩,[],E,.inl E⟩
 exact gA 8 E<|Kpy 1 [.box 25 (fQ q31.1),.dead,rO 37 13 Lnm q31.2,mOb kS false (eN .i64) q6.2.2.1] E Z<|Kns 2 1 [.box 25 (fQ q31.1),rO 37 13 Lnm q31.2,.dead,mOb kS false (eN .i64) q6.2.2.1] E E E E E E<|Knq<|oSi h32▸Kli hΓ [_,_] (.inr E) E E E E (.inr ⟨HB.mk E,E⟩)
theorem Lot{n:Int}{low:Int}{high:Int}{r:Bool}(h:Lhp n low high=some r):Pure Tryz.prog 211 [I n,I low,I high] (B r):=by
 unfold Lhp at h
 refine Pure.enter (Fr.of 0 _) Tryz.func211 E (Fr.of_ok _) E E<|Kjm<|gA 11 E<|Kjt 4 [(6,B false),(14,B ((decide ((low:Int)≤n))&&(decide ((n:Int)≤high))))] [] ?_ ?_
 ·refine Kwh E E (fun hb=>?_) (fun hb=>?_)
  ·exact gO 5 E<|⟨⟨E,Kiw E (Klo hb),tV⟩,[],E,.inl E⟩
  exact gO 5 E<|⟨⟨E,Kiw E (Klp hb),tV⟩,[],E,.inl E⟩
 exact gO 4 E<|oSi h▸gP E E
theorem Lou{s:Str}{v_some:Str}{r:Bool}(h:Lhq s v_some=some r):Pure Tryz.prog 212 [S s,S v_some] (B r):=by
 unfold Lhq at h
 exact Pure.enter (Fr.of 0 _) Tryz.func212 E (Fr.of_ok _) E E<|Kjm<|bK h fun y1 hy1 h2=>gA 9 E<|Kkv C (Lft hy1) E Z E E E E E<|gO 5 E<|oSi h2▸gP E E
theorem Lov{s:Str}{r:Bool}(h:Lhr s=some r):Pure Tryz.prog 104 [S s] (B r):=by
 unfold Lhr at h
 refine Pure.enter (Fr.of 0 _) Tryz.func104 E (Fr.of_ok _) E E<|Kjm<|bK h fun y1 hy1 h2=>gA 9 E<|Kkv C (Lot hy1) E Z E E E E E<|gO 1 E<|bK h2 fun q3 hq3 h4=>Kjt 4 [(0,S s),(2,B false),(10,B q3)] [] ?_ ?_
 ·refine Kwh E E (fun hb=>?_) (fun hb=>?_)
  ·have h5:=cT hq3 hb
   exact bK h5 fun z6 hz6 h7=>gO 1 E<|Kwf E<|eo_o E (Kkh hΓ hz6 E E E E E)<|bK h7 fun y8 hy8 h9=>Kwf E<|Kkv C (Lou hy8) E Z E E E E E<|gO 2 E<|oSi h9▸⟨⟨E,E,E,tV⟩,[],E,.inl E⟩
  have h10:=cF hq3 hb
  exact gO 5 E<|oSi h10▸⟨⟨E,E,E,tV⟩,[],E,.inl E⟩
 refine gO 1 E<|bK h4 fun q11 hq11 h12=>Kjt 3 [(2,B false),(14,B q11)] [] ?_ ?_
 ·refine Kwh E E (fun hb=>?_) (fun hb=>?_)
  ·have h13:=cT hq11 hb
   exact bK h13 fun y14 hy14 h15=>gO 1 E<|Kwf E<|Kkv C (Lou hy14) E Z E E E E E<|gO 2 E<|oSi h15▸⟨⟨E,E,tV⟩,[],E,.inl E⟩
  have h16:=cF hq11 hb
  exact gO 4 E<|oSi h16▸⟨⟨E,E,tV⟩,[],E,.inl E⟩
 exact gO 4 E<|oSi h12▸gP E E
theorem Low{l:List Str}{r:Int}(h:Lhs l=some r):Pure Tryz.prog 103 [.d (Sl eS l)] (I r):=by
 unfold Lhs at h
 refine Pure.enter (Fr.of 0 _) Tryz.func103 E (Fr.of_ok _) E E<|Kjm<|gA 13 E<|bK h fun q4 hq4 h5=>Kkd 0 E fun hb7=>Knt (R:=fun a6=>q4=.go a6) (fun a6=>[]) (fun a6=>[]) ?_ ?_
 ·refine gA 1 E<|Kkc l hq4 (fun i1 s2=>[(0,.d (Sl eS l)),(5,.d (Sl eS l)),(6,I (l.length:Int)),(7,I (i1:Int))]) (fun s2=>[]) ⟨⟨E,E,E,E,tV⟩,[],E,.inl E⟩ (fun i1 x3 s2 y11 hx8 hlt hy9 hout10=>?_) (fun s2 hgo=>?_)
  ·refine gA 6 E<|Kjo E (decide_eq_true (Int.ofNat_lt.2 hlt))<|gA 7 E<|eo_o E (Kke hΓ (enc:=eS) (Kjx hx8) E E E E E (fun _=>E))<|bK hy9 fun y12 hy12 h13=>gO 9 E<|Kkv C (Lov hy12) E Z E E E E E<|gO 3 E<|jC E h13 (fun h14=>?_) fun h17=>gA 7 E<|bK h17 fun q18 hq18 h19=>Kjt 8 [(0,.d (Sl eS l)),(5,.d (Sl eS l)),(6,I (l.length:Int)),(7,I (i1:Int)),(25,B q18)] [] ?_ ?_
   ·refine gA 9 E<|bK h14 fun v15 hv15 h16=>?_
    cases h16
    obtain rfl:=hout10 _ rfl
    cases h5
    exact gA 4 E<|oSi hv15▸gP E E
   ·refine Kwh E E (fun hb=>?_) (fun hb=>?_)
    ·have h20:=cT hq18 hb
     exact bK h20 fun x21 hx21 h22=>gO 4 E<|Kwf E<|eo_o E (Kke hΓ (enc:=eS) hx21 E E E E E (fun _=>E))<|gO 4 E<|oSi h22▸⟨⟨E,E,E,E,E,tV⟩,[],E,.inl E⟩
    have h23:=cF hq18 hb
    exact gO 9 E<|oSi h23▸⟨⟨E,E,E,E,E,tV⟩,[],E,.inl E⟩
   refine gO 2 E<|jC E h19 (fun h24=>?_) fun h27=>gA 7 E ?_
   ·refine gA 8 E<|bK h24 fun v25 hv25 h26=>?_
    cases h26
    obtain rfl:=hout10 _ rfl
    cases h5
    exact gA 4 E<|oSi hv25▸gP E E
   cases h27
   exact⟨_,E,⟨⟨E,E,E,Kiv E (Kiu (nLl hlt hb7)),tV⟩,[],E,.inl E⟩⟩
  subst hgo
  exact gA 6 E<|Kjp E (decide_eq_false (Int.lt_irrefl _))<|gA 4 E<|⟨_,E,⟨tV,[],E,.inl E⟩⟩
 intro a6 ha
 subst ha
 replace h5:=Kno h5
 exact gA 7 E<|oSi h5▸gP E E
theorem Lox{s:List Str}{v:Str}{r:Int}(h:Lht s v=some r):Pure Tryz.prog 154 [.d (Sl eS s),S v] (I r):=by
 unfold Lht at h
 refine Pure.enter (Fr.of 0 _) Tryz.func154 E (Fr.of_ok _) E E<|Kjm<|gA 13 E<|bK h fun q4 hq4 h5=>Kkd 0 E fun hb7=>Knt (R:=fun a6=>q4=.go a6) (fun a6=>[]) (fun a6=>[]) ?_ ?_
 ·refine gA 1 E<|Kkc s hq4 (fun i1 s2=>[(0,.d (Sl eS s)),(1,S v),(7,I (s.length:Int)),(8,I (i1:Int))]) (fun s2=>[]) ⟨⟨E,E,E,E,tV⟩,[],E,.inl E⟩ (fun i1 x3 s2 y11 hx8 hlt hy9 hout10=>?_) (fun s2 hgo=>?_)
  ·refine gA 6 E<|Kjo E (decide_eq_true (Int.ofNat_lt.2 hlt))<|gA 15 E<|eo_o E (Kke hΓ (enc:=eS) (Kjx hx8) E E E E E (fun _=>E))<|gO 4 E<|jC E hy9 (fun h12=>?_) fun h15=>gA 7 E ?_
   ·refine gA 9 E<|bK h12 fun v13 hv13 h14=>?_
    cases h14
    obtain rfl:=hout10 _ rfl
    cases h5
    exact gA 4 E<|oSi hv13▸gP E E
   cases h15
   exact⟨_,E,⟨⟨E,E,E,Kiv E (Kiu (nLl hlt hb7)),tV⟩,[],E,.inl E⟩⟩
  subst hgo
  exact gA 6 E<|Kjp E (decide_eq_false (Int.lt_irrefl _))<|gA 4 E<|⟨_,E,⟨tV,[],E,.inl E⟩⟩
 intro a6 ha
 subst ha
 replace h5:=Kno h5
 exact gA 7 E<|oSi h5▸gP E E
theorem Loy{s:List Str}{v:Str}{r:Bool}(h:Lhu s v=some r):Pure Tryz.prog 61 [.d (Sl eS s),S v] (B r):=by
 unfold Lhu at h
 exact Pure.enter (Fr.of 0 _) Tryz.func61 E (Fr.of_ok _) E E<|Kjm<|bK h fun y1 hy1 h2=>gA 9 E<|Kkv C (Lox hy1) E Z E E E E E<|gO 5 E<|oSi h2▸gP E E
theorem Loz{n:Int}{low:Int}{high:Int}{r:Bool}(h:Lhv n low high=some r):Pure Tryz.prog 105 [I n,I low,I high] (B r):=by
 unfold Lhv at h
 refine Pure.enter (Fr.of 0 _) Tryz.func105 E (Fr.of_ok _) E E<|Kjm<|gA 11 E<|Kjt 4 [(6,B false),(14,B ((decide ((low:Int)≤n))&&(decide ((n:Int)≤high))))] [] ?_ ?_
 ·refine Kwh E E (fun hb=>?_) (fun hb=>?_)
  ·exact gO 5 E<|⟨⟨E,Kiw E (Klo hb),tV⟩,[],E,.inl E⟩
  exact gO 5 E<|⟨⟨E,Kiw E (Klp hb),tV⟩,[],E,.inl E⟩
 exact gO 4 E<|oSi h▸gP E E
theorem Lpa{d:Lgf}{r:Int}(h:Lhw d=some r):Pure Tryz.prog 28 [.agg (fD d)] (I r):=by
 unfold Lhw at h
 refine Pure.enter (Fr.of 0 _) Tryz.func28 E (Fr.of_ok _) E E<|Kjm<|gA 2 E<|Kxo E E E E Z<|gO 12 E<|jC E h (fun h1=>?_) fun h2=>bK h2 fun y3 hy3 h4=>gA 7 E<|Kkv C (Low hy3) E Z E E E E E<|gO 9 E<|jC E h4 (fun h5=>?_) fun h6=>?_
 ·exact gA 7 E<|oSi h1▸gP E E
 ·exact gA 8 E<|oSi h5▸gP E E
 refine gA 11 E<|jC E h6 (fun h7=>?_) fun h8=>gA 11 E<|bK h8 fun q12 hq12 h13=>Kkd 23 E fun hb15=>Knt (R:=fun a14=>q12=.go a14) (fun a14=>[(1,.ptr 0 0)]) (fun a14=>[.box 29 (fD d)]) ?_ ?_
 ·exact gA 7 E<|oSi h7▸gP E E
 ·refine gA 1 E<|Kkc d.Owners hq12 (fun i9 s10=>[(1,.ptr 0 0),(23,.d (Sl Lnk d.Owners)),(24,I (d.Owners.length:Int)),(25,I (i9:Int))]) (fun s10=>[.box 29 (fD d)]) ⟨⟨E,E,E,E,tV⟩,[],E,.inl E⟩ (fun i9 x11 s10 y19 hx16 hlt hy17 hout18=>?_) (fun s10 hgo=>?_)
  ·refine gA 6 E<|Kjo E (decide_eq_true (Int.ofNat_lt.2 hlt))<|gA 7 E<|eo_o E (Kke hΓ (enc:=Lnk) (Kjx hx16) E E E E E (fun _=>E))<|gO 1 E<|Kxn hΓ E E E Z<|gO 1 E<|Kxs hΓ E E E E E E E E Z<|Kld [.box 29 (fD d),.box 155 [S x11.Tag,.d (Sl eS x11.Users)]] E<|bK hy17 fun y20 hy20 h21=>gO 7 E<|Kkv C (Lov hy20) E Z E E E E E<|gO 3 E<|jC E h21 (fun h22=>?_) fun h25=>bK h25 fun q26 hq26 h27=>gA 4 E<|Knu [(1,.ptr 0 0),(5,.ptr 1 0),(23,.d (Sl Lnk d.Owners)),(24,I (d.Owners.length:Int)),(25,I (i9:Int)),(47,B q26)] [.box 29 (fD d),.box 155 [S x11.Tag,.d (Sl eS x11.Users)]] ?_ ?_
   ·refine gA 9 E<|bK h22 fun v23 hv23 h24=>?_
    cases h24
    obtain rfl:=hout18 _ rfl
    cases h13
    exact gA 4 E<|oSi hv23▸gP E E
   ·refine Kjq hmix (by kernel_rfl)<|gA 3 E<|Kib E E (fun hb=>?_) (fun hb=>?_)
    ·have h28:=cT hq26 hb
     exact bK h28 fun x29 hx29 h30=>Kjl hΓ 6 E<|Kix E E (Kke hΓ (enc:=Lnk) hx29 E E E E E (fun _=>E))<|Kjl hΓ 5 E<|oSi h30▸⟨⟨E,E,E,E,E,E,tV⟩,[],E,.inl E⟩
    have h31:=cF hq26 hb
    exact Kjl hΓ 12 E<|oSi h31▸⟨⟨E,E,E,E,E,E,tV⟩,[],E,.inl E⟩
   refine gA 1 E<|jC E h27 (fun h32=>?_) fun h35=>gA 10 E<|bK h35 fun q39 hq39 h40=>Kkd 49 E fun hb42=>Knt (R:=fun a41=>q39=.go a41) (fun a41=>[(1,.ptr 0 0),(23,.d (Sl Lnk d.Owners)),(24,I (d.Owners.length:Int)),(25,I (i9:Int))]) (fun a41=>[.box 29 (fD d),.box 155 [S x11.Tag,.d (Sl eS x11.Users)]]) ?_ ?_
   ·refine gA 9 E<|bK h32 fun v33 hv33 h34=>?_
    cases h34
    obtain rfl:=hout18 _ rfl
    cases h13
    exact gA 4 E<|oSi hv33▸gP E E
   ·refine gA 1 E<|Kkc x11.Users hq39 (fun i36 s37=>[(1,.ptr 0 0),(5,.ptr 1 0),(23,.d (Sl Lnk d.Owners)),(24,I (d.Owners.length:Int)),(25,I (i9:Int)),(49,.d (Sl eS x11.Users)),(50,I (x11.Users.length:Int)),(51,I (i36:Int))]) (fun s37=>[.box 29 (fD d),.box 155 [S x11.Tag,.d (Sl eS x11.Users)]]) ⟨⟨E,E,E,E,E,E,E,E,tV⟩,[],E,.inl E⟩ (fun i36 x38 s37 y46 hx43 hlt hy44 hout45=>?_) (fun s37 hgo=>?_)
    ·refine gA 6 E<|Kjo E (decide_eq_true (Int.ofNat_lt.2 hlt))<|gA 7 E<|eo_o E (Kke hΓ (enc:=eS) (Kjx hx43) E E E E E (fun _=>E))<|bK hy44 fun y47 hy47 h48=>gO 11 E<|Kkv C (Loy hy47) E Z E E E E E<|gO 3 E<|jC E h48 (fun h49=>?_) fun h54=>gA 7 E<|bK h54 fun q55 hq55 h56=>Kjt 9 [(1,.ptr 0 0),(5,.ptr 1 0),(23,.d (Sl Lnk d.Owners)),(24,I (d.Owners.length:Int)),(25,I (i9:Int)),(49,.d (Sl eS x11.Users)),(50,I (x11.Users.length:Int)),(51,I (i36:Int)),(72,B q55)] [.box 29 (fD d),.box 155 [S x11.Tag,.d (Sl eS x11.Users)]] ?_ ?_
     ·refine gA 9 E<|bK h49 fun v50 hv50 h51=>?_
      cases h51
      obtain rfl:=hout45 _ rfl
      cases h40
      refine gA 5 E<|bK hv50 fun v52 hv52 h53=>?_
      cases h53
      obtain rfl:=hout18 _ rfl
      cases h13
      exact gA 4 E<|oSi hv52▸gP E E
     ·refine Kwh E E (fun hb=>?_) (fun hb=>?_)
      ·have h57:=cT hq55 hb
       exact bK h57 fun x58 hx58 h59=>gO 5 E<|Kwf E<|eo_o E (Kke hΓ (enc:=eS) hx58 E E E E E (fun _=>E))<|gO 4 E<|oSi h59▸⟨⟨E,E,E,E,E,E,E,E,E,tV⟩,[],E,.inl E⟩
      have h60:=cF hq55 hb
      exact gO 10 E<|oSi h60▸⟨⟨E,E,E,E,E,E,E,E,E,tV⟩,[],E,.inl E⟩
     refine gO 2 E<|jC E h56 (fun h61=>?_) fun h66=>gA 7 E ?_
     ·refine gA 8 E<|bK h61 fun v62 hv62 h63=>?_
      cases h63
      obtain rfl:=hout45 _ rfl
      cases h40
      refine gA 5 E<|bK hv62 fun v64 hv64 h65=>?_
      cases h65
      obtain rfl:=hout18 _ rfl
      cases h13
      exact gA 4 E<|oSi hv64▸gP E E
     cases h66
     exact⟨_,E,⟨⟨E,E,E,E,E,E,E,Kiv E (Kiu (nLl hlt hb42)),tV⟩,[],E,.inl E⟩⟩
    subst hgo
    exact gA 6 E<|Kjp E (decide_eq_false (Int.lt_irrefl _))<|gA 4 E<|⟨_,E,⟨⟨E,E,E,E,tV⟩,[],E,.inl E⟩⟩
   intro a41 ha
   subst ha
   replace h40:=Kno h40
   refine gA 6 E ?_
   cases h40
   exact⟨_,E,⟨⟨E,E,E,Kiv E (Kiu (nLl hlt hb15)),tV⟩,[_],E,.inr ⟨HB.mk E,FB.mk E,Z⟩⟩⟩
  subst hgo
  exact gA 6 E<|Kjp E (decide_eq_false (Int.lt_irrefl _))<|gA 4 E<|⟨_,E,⟨⟨E,tV⟩,[],E,.inl E⟩⟩
 intro a14 ha
 subst ha
 replace h13:=Kno h13
 refine bK h13 fun y67 hy67 h68=>gA 6 E<|Kkv C (Loz hy67) E Z E E E E E<|gO 3 E<|jC E h68 (fun h69=>?_) fun h70=>gA 8 E<|oSi h70▸gP E E
 exact gA 7 E<|oSi h69▸gP E E
theorem Lpb{v_at:Int}{r:Bool}(h:Lhx v_at=some r):Pure Tryz.prog 143 [I v_at] (B r):=by
 unfold Lhx at h
 exact Pure.enter (Fr.of 0 _) Tryz.func143 E (Fr.of_ok _) E E<|Kjm<|bK h fun y1 hy1 h2=>gA 8 E<|Kkv C (Lot hy1) E Z E E E E E<|gO 4 E<|oSi h2▸gP E E
theorem Lpc{kind:Int}{r:Str}(h:Lhy kind=some r):Pure Tryz.prog 198 [I kind] (S r):=by
 unfold Lhy at h
 exact Pure.enter (Fr.of 0 _) Tryz.func198 E (Fr.of_ok _) E E<|Kjm<|gA 7 E<|Kkp hΓ (enc:=eS) [[],[98,106,116,117,115,114],[98,106],[66,110,74,112,109],[98,110],[98,110,112],[98,110,109],[98,110,116],[98,110],[98,110]] E E E E E E E E E E E E Z<|bK h fun x1 hx1 h2=>gO 1 E<|eo_o E (Kke hΓ (enc:=eS) hx1 E E E E E (fun _=>E))<|gO 5 E<|oSi h2▸gP E E
theorem Lpd{s:Str}{r:Int}(h:Lhz s=some r):Pure Tryz.prog 144 [S s] (I r):=by
 unfold Lhz at h
 refine Pure.enter (Fr.of 0 _) Tryz.func144 E (Fr.of_ok _) E E<|Kjm<|bK h fun y1 hy1 h2=>gA 9 E<|Kkv C (Lov hy1) E Z E E E E E<|gO 3 E<|jC E h2 (fun h3=>?_) fun h4=>gA 8 E<|oSi h4▸gP E E
 exact gA 7 E<|oSi h3▸gP E E
theorem Lpe{s:Str}{r:Bool}(h:Lia s=some r):Pure Tryz.prog 60 [S s] (B r):=by
 unfold Lia at h
 refine Pure.enter (Fr.of 0 _) Tryz.func60 E (Fr.of_ok _) E E<|Kjm<|bK h fun y1 hy1 h2=>gA 9 E<|Kkv C (Loz hy1) E Z E E E E E<|gO 1 E<|bK h2 fun q3 hq3 h4=>Kjt 4 [(2,B false),(10,B q3)] [] ?_ ?_
 ·refine Kwh E E (fun hb=>?_) (fun hb=>?_)
  ·have h5:=cT hq3 hb
   exact bK h5 fun y6 hy6 h7=>gO 1 E<|Kwf E<|Kkv C (Lft hy6) E Z E E E E E<|gO 3 E<|oSi h7▸⟨⟨E,E,tV⟩,[],E,.inl E⟩
  have h8:=cF hq3 hb
  exact gO 5 E<|oSi h8▸⟨⟨E,E,tV⟩,[],E,.inl E⟩
 exact gO 4 E<|oSi h4▸gP E E
theorem Lpf{s:Lgg}{c:Int}{r:Int}(h:Lic s c=some r):Pure Tryz.prog 199 [.agg (fS s),.d (.v (.int .i32 c))] (I r):=by
 unfold Lic at h
 refine Pure.enter (Fr.of 0 _) Tryz.func199 E (Fr.of_ok _) E E<|Kjm<|gA 2 E<|Kxo E E E E Z<|bK h fun q1 hq1 h2=>gO 9 E<|Knw (q:=q1) (fun a3=>[]) (fun a3=>[.box 37 (fS s)]) ?_ ?_
 ·refine bK hq1 fun q4 hq4 h5=>gA 8 E<|Knu [(1,.d (.v (.int .i32 c))),(2,.ptr 0 0),(6,.d (.v (.int .i32 c))),(7,B q4)] [.box 37 (fS s)] ?_ ?_
  ·refine jC E hq4 (fun h6=>?_) fun h7=>gA 6 E<|jC E h7 (fun h8=>?_) fun h9=>?_
   ·exact gA 1 E<|oSi h6▸⟨⟨E,E,E,E,tV⟩,[],E,.inl E⟩
   ·exact gA 1 E<|oSi h8▸⟨⟨E,E,E,E,tV⟩,[],E,.inl E⟩
   refine gA 6 E<|jC E h9 (fun h10=>?_) fun h11=>gA 4 E<|oSi h11▸⟨⟨E,E,E,E,tV⟩,[],E,.inl E⟩
   exact gA 1 E<|oSi h10▸⟨⟨E,E,E,E,tV⟩,[],E,.inl E⟩
  refine gA 1 E<|jC E h5 (fun h12=>?_) fun h17=>bK h17 fun q18 hq18 h19=>gA 7 E<|Knu [(1,.d (.v (.int .i32 c))),(2,.ptr 0 0),(6,.d (.v (.int .i32 c))),(25,B q18)] [.box 37 (fS s)] ?_ ?_
  ·refine gA 2 E<|eo_s Z (nblt.1 E) (Kox false)<|Kld [.box 37 (fS s),mOb (kI .i32) false eS ([]:List (Int×Str))] E<|gO 2 E<|eo_u Z (Kpw hΓ (kv:=(kI .i32)) (agg:=false) (enc:=eS) (id:=1) ([]:List (Int×Str)) 98 s.By E E E (Kos .i32) E E E E E)<|Kld [.box 37 (fS s),mOb (kI .i32) false eS (mSet ([]:List (Int×Str)) 98 s.By)] E<|gO 2 E<|eo_u Z (Kpw hΓ (kv:=(kI .i32)) (agg:=false) (enc:=eS) (id:=1) (mSet ([]:List (Int×Str)) 98 s.By) 110 s.Node E E E (Kos .i32) E E E E E)<|Kld [.box 37 (fS s),mOb (kI .i32) false eS (mSet (mSet ([]:List (Int×Str)) 98 s.By) 110 s.Node)] E<|gO 2 E<|eo_u Z (Kpw hΓ (kv:=(kI .i32)) (agg:=false) (enc:=eS) (id:=1) (mSet (mSet ([]:List (Int×Str)) 98 s.By) 110 s.Node) 106 s.Join E E E (Kos .i32) E E E E E)<|Kld [.box 37 (fS s),mOb (kI .i32) false eS (mSet (mSet (mSet ([]:List (Int×Str)) 98 s.By) 110 s.Node) 106 s.Join)] E<|gO 2 E<|eo_u Z (Kpw hΓ (kv:=(kI .i32)) (agg:=false) (enc:=eS) (id:=1) (mSet (mSet (mSet ([]:List (Int×Str)) 98 s.By) 110 s.Node) 106 s.Join) 109 s.Name E E E (Kos .i32) E E E E E)<|Kld [.box 37 (fS s),mOb (kI .i32) false eS (mSet (mSet (mSet (mSet ([]:List (Int×Str)) 98 s.By) 110 s.Node) 106 s.Join) 109 s.Name)] E<|gO 2 E<|eo_o E (Kpb hΓ (kv:=(kI .i32)) (agg:=false) (enc:=eS) (mSet (mSet (mSet (mSet ([]:List (Int×Str)) 98 s.By) 110 s.Node) 106 s.Join) 109 s.Name) c ([]:Str) E E E E (Kos .i32) E E E E E E E)<|bK h12 fun y13 hy13 h14=>Kkv C (Lpd hy13) E Z E E E E E<|gO 5 E<|bK h14 fun v15 hv15 h16=>?_
   cases h16
   cases h2
   exact gA 2 E<|oSi hv15▸gP E E
  ·refine jC E hq18 (fun h20=>?_) fun h21=>gA 4 E<|oSi h21▸⟨⟨E,E,E,E,tV⟩,[],E,.inl E⟩
   exact gA 1 E<|oSi h20▸⟨⟨E,E,E,E,tV⟩,[],E,.inl E⟩
  refine gA 1 E<|jC E h19 (fun h22=>?_) fun h29=>gA 6 E<|jC E h29 (fun h30=>?_) fun h37=>?_
  ·refine gA 2 E<|eo_s Z (nblt.1 E) (Kox false)<|Kld [.box 37 (fS s),mOb (kI .i32) false eS ([]:List (Int×Str))] E<|gO 2 E<|eo_u Z (Kpw hΓ (kv:=(kI .i32)) (agg:=false) (enc:=eS) (id:=1) ([]:List (Int×Str)) 66 s.By E E E (Kos .i32) E E E E E)<|Kld [.box 37 (fS s),mOb (kI .i32) false eS (mSet ([]:List (Int×Str)) 66 s.By)] E<|gO 2 E<|eo_u Z (Kpw hΓ (kv:=(kI .i32)) (agg:=false) (enc:=eS) (id:=1) (mSet ([]:List (Int×Str)) 66 s.By) 74 s.Join E E E (Kos .i32) E E E E E)<|Kld [.box 37 (fS s),mOb (kI .i32) false eS (mSet (mSet ([]:List (Int×Str)) 66 s.By) 74 s.Join)] E<|gO 2 E<|eo_o E (Kpb hΓ (kv:=(kI .i32)) (agg:=false) (enc:=eS) (mSet (mSet ([]:List (Int×Str)) 66 s.By) 74 s.Join) c ([]:Str) E E E E (Kos .i32) E E E E E E E)<|gO 9 E<|jC E h22 (fun h23=>?_) fun h28=>gA 2 E<|oSi h28▸⟨_,E,⟨tV,[_],E,.inr ⟨HB.mk E,FB.mk E,Z⟩⟩⟩
   refine bK h23 fun y24 hy24 h25=>gA 3 E<|Kkv C (Lpd hy24) E Z E E E E E<|gO 5 E<|bK h25 fun v26 hv26 h27=>?_
   cases h27
   cases h2
   exact gA 2 E<|oSi hv26▸gP E E
  ·refine bK h30 fun y31 hy31 h32=>gA 4 E<|Kkv C (Lpe hy31) E Z E E E E E<|gO 3 E<|jC E h32 (fun h33=>?_) fun h36=>gA 2 E<|oSi h36▸⟨_,E,⟨tV,[],E,.inl E⟩⟩
   refine gA 7 E<|bK h33 fun v34 hv34 h35=>?_
   cases h35
   cases h2
   exact gA 2 E<|oSi hv34▸gP E E
  refine gA 6 E<|jC E h37 (fun h38=>?_) fun h47=>bK h47 fun q48 hq48 h49=>gA 7 E<|Knu [(1,.d (.v (.int .i32 c))),(2,.ptr 0 0),(55,B q48)] [.box 37 (fS s)] ?_ ?_
  ·refine gA 9 E<|jC E h38 (fun h39=>?_) fun h42=>bK h42 fun y43 hy43 h44=>gA 6 E<|Kkv C (Low hy43) E Z E E E E E<|gO 5 E<|bK h44 fun v45 hv45 h46=>?_
   ·refine gA 8 E<|bK h39 fun v40 hv40 h41=>?_
    cases h41
    cases h2
    exact gA 2 E<|oSi hv40▸gP E E
   cases h46
   cases h2
   exact gA 2 E<|oSi hv45▸gP E E
  ·refine jC E hq48 (fun h50=>?_) fun h51=>gA 4 E<|oSi h51▸⟨⟨E,E,E,tV⟩,[],E,.inl E⟩
   exact gA 1 E<|oSi h50▸⟨⟨E,E,E,tV⟩,[],E,.inl E⟩
  refine gA 1 E<|jC E h49 (fun h52=>?_) fun h59=>gA 2 E<|oSi h59▸⟨_,E,⟨tV,[],E,.inl E⟩⟩
  refine gA 2 E<|eo_s Z (nblt.1 E) (Kox false)<|Kld [.box 37 (fS s),mOb (kI .i32) false (eN .i64) ([]:List (Int×Int))] E<|gO 2 E<|eo_u Z (Kpw hΓ (kv:=(kI .i32)) (agg:=false) (enc:=(eN .i64)) (id:=1) ([]:List (Int×Int)) 117 s.Until E E E (Kos .i32) E E E E E)<|Kld [.box 37 (fS s),mOb (kI .i32) false (eN .i64) (mSet ([]:List (Int×Int)) 117 s.Until)] E<|gO 2 E<|eo_u Z (Kpw hΓ (kv:=(kI .i32)) (agg:=false) (enc:=(eN .i64)) (id:=1) (mSet ([]:List (Int×Int)) 117 s.Until) 115 s.Uses E E E (Kos .i32) E E E E E)<|Kld [.box 37 (fS s),mOb (kI .i32) false (eN .i64) (mSet (mSet ([]:List (Int×Int)) 117 s.Until) 115 s.Uses)] E<|gO 2 E<|eo_o E (Kpb hΓ (kv:=(kI .i32)) (agg:=false) (enc:=(eN .i64)) (mSet (mSet ([]:List (Int×Int)) 117 s.Until) 115 s.Uses) c (0:Int) E E E E (Kos .i32) E E E E E E E)<|bK h52 fun y53 hy53 h54=>Kkv C (Loz hy53) E Z E E E E E<|gO 3 E<|jC E h54 (fun h55=>?_) fun h58=>gA 2 E<|oSi h58▸⟨_,E,⟨tV,[_],E,.inr ⟨HB.mk E,FB.mk E,Z⟩⟩⟩
  refine gA 7 E<|bK h55 fun v56 hv56 h57=>?_
  cases h57
  cases h2
  exact gA 2 E<|oSi hv56▸gP E E
 intro a3 ha
 subst ha
 replace h2:=Knn h2
 exact gA 7 E<|oSi h2▸gP E E
theorem Lpg{s:Lgg}{r:Int}(h:Lid s=some r):Pure Tryz.prog 95 [.agg (fS s)] (I r):=by
 unfold Lid at h
 refine Pure.enter (Fr.of 0 _) Tryz.func95 E (Fr.of_ok _) E E<|Kjm<|gA 2 E<|Kxo E E E E Z<|bK h fun y1 hy1 h2=>gO 9 E<|Kkv C (Lpb hy1) E Z E E E E E<|gO 4 E<|jC E h2 (fun h3=>?_) fun h4=>bK h4 fun y5 hy5 h6=>gA 4 E<|Kkv C (Lov hy5) E Z E E E E E<|gO 4 E<|jC E h6 (fun h7=>?_) fun h8=>?_
 ·exact gA 8 E<|oSi h3▸gP E E
 ·exact gA 8 E<|oSi h7▸gP E E
 refine bK h8 fun y9 hy9 h10=>gA 4 E<|Kkv C (Loz hy9) E Z E E E E E<|gO 4 E<|jC E h10 (fun h11=>?_) fun h12=>bK h12 fun y13 hy13 h14=>gA 4 E<|Kkv C (Loz hy13) E Z E E E E E<|gO 4 E<|jC E h14 (fun h15=>?_) fun h16=>?_
 ·exact gA 8 E<|oSi h11▸gP E E
 ·exact gA 8 E<|oSi h15▸gP E E
 refine bK h16 fun y17 hy17 h18=>gA 8 E<|Kkv C (Lpc hy17) E Z E E E E E<|gK h18 fun hg20 h19=>Kst hΓ y17 E E E E Z<|gO 2 E<|bK h19 fun q26 hq26 h27=>gA 1 E<|Ksv y17 hq26 (fun sn23 s21=>[(1,.ptr 0 0),(33,.ptr 1 0)]) (fun sn23 s21=>[.box 37 (fS s),.siter y17 sn23]) ⟨⟨E,E,tV⟩,[],E,.inl E⟩ (fun sn23 s21 hdone28 hstep29=>?_)
 refine gA 2 E<|Ksu y17 sn23 [.box 37 (fS s),.dead] E E E E Z hg20 (fun hdsn23=>?_) (fun x22 hjsn23=>?_)
 ·have hqsn23:=hdone28 hdsn23
  subst hqsn23
  replace h27:=Kno h27
  refine bK h27 fun y30 hy30 h31=>gO 14 E<|Kkv C (Lpc hy30) E Z E E E E E<|bK h31 fun y32 hy32 h33=>Kkv C (Lfy hy32) E Z E E E E E<|gO 5 E<|eo_s Z (nblt.1 E) (Kox false)<|Kld [.box 37 (fS s),.dead,mOb (kI .u8) false eB ([]:List (Int×Bool))] E<|gO 3 E<|eo_u Z (Kpw hΓ (kv:=(kI .u8)) (agg:=false) (enc:=eB) (id:=2) ([]:List (Int×Bool)) 98 ((s.By:Str)==[]) E E E (Kos .u8) E E E E E)<|Kld [.box 37 (fS s),.dead,mOb (kI .u8) false eB (mSet ([]:List (Int×Bool)) 98 ((s.By:Str)==[]))] E<|gO 3 E<|eo_u Z (Kpw hΓ (kv:=(kI .u8)) (agg:=false) (enc:=eB) (id:=2) (mSet ([]:List (Int×Bool)) 98 ((s.By:Str)==[])) 110 ((s.Node:Str)==[]) E E E (Kos .u8) E E E E E)<|Kld [.box 37 (fS s),.dead,mOb (kI .u8) false eB (mSet (mSet ([]:List (Int×Bool)) 98 ((s.By:Str)==[])) 110 ((s.Node:Str)==[]))] E<|gO 3 E<|eo_u Z (Kpw hΓ (kv:=(kI .u8)) (agg:=false) (enc:=eB) (id:=2) (mSet (mSet ([]:List (Int×Bool)) 98 ((s.By:Str)==[])) 110 ((s.Node:Str)==[])) 106 ((s.Join:Str)==[]) E E E (Kos .u8) E E E E E)<|Kld [.box 37 (fS s),.dead,mOb (kI .u8) false eB (mSet (mSet (mSet ([]:List (Int×Bool)) 98 ((s.By:Str)==[])) 110 ((s.Node:Str)==[])) 106 ((s.Join:Str)==[]))] E<|gO 3 E<|eo_u Z (Kpw hΓ (kv:=(kI .u8)) (agg:=false) (enc:=eB) (id:=2) (mSet (mSet (mSet ([]:List (Int×Bool)) 98 ((s.By:Str)==[])) 110 ((s.Node:Str)==[])) 106 ((s.Join:Str)==[])) 112 ((s.Public:Str)==[]) E E E (Kos .u8) E E E E E)<|Kld [.box 37 (fS s),.dead,mOb (kI .u8) false eB (mSet (mSet (mSet (mSet ([]:List (Int×Bool)) 98 ((s.By:Str)==[])) 110 ((s.Node:Str)==[])) 106 ((s.Join:Str)==[])) 112 ((s.Public:Str)==[]))] E<|gO 3 E<|eo_u Z (Kpw hΓ (kv:=(kI .u8)) (agg:=false) (enc:=eB) (id:=2) (mSet (mSet (mSet (mSet ([]:List (Int×Bool)) 98 ((s.By:Str)==[])) 110 ((s.Node:Str)==[])) 106 ((s.Join:Str)==[])) 112 ((s.Public:Str)==[])) 109 ((s.Name:Str)==[]) E E E (Kos .u8) E E E E E)<|Kld [.box 37 (fS s),.dead,mOb (kI .u8) false eB (mSet (mSet (mSet (mSet (mSet ([]:List (Int×Bool)) 98 ((s.By:Str)==[])) 110 ((s.Node:Str)==[])) 106 ((s.Join:Str)==[])) 112 ((s.Public:Str)==[])) 109 ((s.Name:Str)==[]))] E<|gO 4 E<|eo_u Z (Kpw hΓ (kv:=(kI .u8)) (agg:=false) (enc:=eB) (id:=2) (mSet (mSet (mSet (mSet (mSet ([]:List (Int×Bool)) 98 ((s.By:Str)==[])) 110 ((s.Node:Str)==[])) 106 ((s.Join:Str)==[])) 112 ((s.Public:Str)==[])) 109 ((s.Name:Str)==[])) 116 (((s.Tags.length:Int):Int)==0) E E E (Kos .u8) E E E E E)<|Kld [.box 37 (fS s),.dead,mOb (kI .u8) false eB (mSet (mSet (mSet (mSet (mSet (mSet ([]:List (Int×Bool)) 98 ((s.By:Str)==[])) 110 ((s.Node:Str)==[])) 106 ((s.Join:Str)==[])) 112 ((s.Public:Str)==[])) 109 ((s.Name:Str)==[])) 116 (((s.Tags.length:Int):Int)==0))] E<|gO 3 E<|eo_u Z (Kpw hΓ (kv:=(kI .u8)) (agg:=false) (enc:=eB) (id:=2) (mSet (mSet (mSet (mSet (mSet (mSet ([]:List (Int×Bool)) 98 ((s.By:Str)==[])) 110 ((s.Node:Str)==[])) 106 ((s.Join:Str)==[])) 112 ((s.Public:Str)==[])) 109 ((s.Name:Str)==[])) 116 (((s.Tags.length:Int):Int)==0)) 117 ((s.Until:Int)==0) E E E (Kos .u8) E E E E E)<|Kld [.box 37 (fS s),.dead,mOb (kI .u8) false eB (mSet (mSet (mSet (mSet (mSet (mSet (mSet ([]:List (Int×Bool)) 98 ((s.By:Str)==[])) 110 ((s.Node:Str)==[])) 106 ((s.Join:Str)==[])) 112 ((s.Public:Str)==[])) 109 ((s.Name:Str)==[])) 116 (((s.Tags.length:Int):Int)==0)) 117 ((s.Until:Int)==0))] E<|gO 3 E<|eo_u Z (Kpw hΓ (kv:=(kI .u8)) (agg:=false) (enc:=eB) (id:=2) (mSet (mSet (mSet (mSet (mSet (mSet (mSet ([]:List (Int×Bool)) 98 ((s.By:Str)==[])) 110 ((s.Node:Str)==[])) 106 ((s.Join:Str)==[])) 112 ((s.Public:Str)==[])) 109 ((s.Name:Str)==[])) 116 (((s.Tags.length:Int):Int)==0)) 117 ((s.Until:Int)==0)) 115 ((s.Uses:Int)==0) E E E (Kos .u8) E E E E E)<|Kld [.box 37 (fS s),.dead,mOb (kI .u8) false eB (mSet (mSet (mSet (mSet (mSet (mSet (mSet (mSet ([]:List (Int×Bool)) 98 ((s.By:Str)==[])) 110 ((s.Node:Str)==[])) 106 ((s.Join:Str)==[])) 112 ((s.Public:Str)==[])) 109 ((s.Name:Str)==[])) 116 (((s.Tags.length:Int):Int)==0)) 117 ((s.Until:Int)==0)) 115 ((s.Uses:Int)==0))] E<|gO 3 E<|eo_u Z (Kpw hΓ (kv:=(kI .u8)) (agg:=false) (enc:=eB) (id:=2) (mSet (mSet (mSet (mSet (mSet (mSet (mSet (mSet ([]:List (Int×Bool)) 98 ((s.By:Str)==[])) 110 ((s.Node:Str)==[])) 106 ((s.Join:Str)==[])) 112 ((s.Public:Str)==[])) 109 ((s.Name:Str)==[])) 116 (((s.Tags.length:Int):Int)==0)) 117 ((s.Until:Int)==0)) 115 ((s.Uses:Int)==0)) 114 (!s.Ready) E E E (Kos .u8) E E E E E)<|Kld [.box 37 (fS s),.dead,mOb (kI .u8) false eB (mSet (mSet (mSet (mSet (mSet (mSet (mSet (mSet (mSet ([]:List (Int×Bool)) 98 ((s.By:Str)==[])) 110 ((s.Node:Str)==[])) 106 ((s.Join:Str)==[])) 112 ((s.Public:Str)==[])) 109 ((s.Name:Str)==[])) 116 (((s.Tags.length:Int):Int)==0)) 117 ((s.Until:Int)==0)) 115 ((s.Uses:Int)==0)) 114 (!s.Ready))] E<|gO 8 E<|Kps hΓ (kv:=(kI .u8)) (agg:=false) (enc:=eB) (mSet (mSet (mSet (mSet (mSet (mSet (mSet (mSet (mSet ([]:List (Int×Bool)) 98 ((s.By:Str)==[])) 110 ((s.Node:Str)==[])) 106 ((s.Join:Str)==[])) 112 ((s.Public:Str)==[])) 109 ((s.Name:Str)==[])) 116 (((s.Tags.length:Int):Int)==0)) 117 ((s.Until:Int)==0)) 115 ((s.Uses:Int)==0)) 114 (!s.Ready)) E E E E E Z (fun mr34 bs35 cl36 hpm37 hbl38 hbn39=>?_)
  refine Kld [.box 37 (fS s),.dead,mObS (kI .u8) false eB (mSet (mSet (mSet (mSet (mSet (mSet (mSet (mSet (mSet ([]:List (Int×Bool)) 98 ((s.By:Str)==[])) 110 ((s.Node:Str)==[])) 106 ((s.Join:Str)==[])) 112 ((s.Public:Str)==[])) 109 ((s.Name:Str)==[])) 116 (((s.Tags.length:Int):Int)==0)) 117 ((s.Until:Int)==0)) 115 ((s.Uses:Int)==0)) 114 (!s.Ready)) (rawM (kI .u8) eB mr34 bs35 cl36),.iter 2 cl36 []] E<|gO 2 E<|bK h33 fun q45 hq45 h46=>gA 1 E<|Kss hq45 hpm37 hbl38 hbn39 (fun s40=>[(6,S y32),(78,.ptr 3 0)]) (fun sn42 s40=>[.box 37 (fS s),.dead,mObS (kI .u8) false eB (mSet (mSet (mSet (mSet (mSet (mSet (mSet (mSet (mSet ([]:List (Int×Bool)) 98 ((s.By:Str)==[])) 110 ((s.Node:Str)==[])) 106 ((s.Join:Str)==[])) 112 ((s.Public:Str)==[])) 109 ((s.Name:Str)==[])) 116 (((s.Tags.length:Int):Int)==0)) 117 ((s.Until:Int)==0)) 115 ((s.Uses:Int)==0)) 114 (!s.Ready)) (rawM (kI .u8) eB mr34 bs35 cl36),.iter 2 cl36 sn42]) ⟨⟨E,E,tV⟩,[],E,.inl E⟩ (fun sn42 s40 hdone47 hstep48=>?_)
  refine gA 2 E<|Kpt (kv:=(kI .u8)) (agg:=false) (enc:=eB) (mSet (mSet (mSet (mSet (mSet (mSet (mSet (mSet (mSet ([]:List (Int×Bool)) 98 ((s.By:Str)==[])) 110 ((s.Node:Str)==[])) 106 ((s.Join:Str)==[])) 112 ((s.Public:Str)==[])) 109 ((s.Name:Str)==[])) 116 (((s.Tags.length:Int):Int)==0)) 117 ((s.Until:Int)==0)) 115 ((s.Uses:Int)==0)) 114 (!s.Ready)) mr34 bs35 cl36 sn42 [.box 37 (fS s),.dead,mOb (kI .u8) false eB (mSet (mSet (mSet (mSet (mSet (mSet (mSet (mSet (mSet ([]:List (Int×Bool)) 98 ((s.By:Str)==[])) 110 ((s.Node:Str)==[])) 106 ((s.Join:Str)==[])) 112 ((s.Public:Str)==[])) 109 ((s.Name:Str)==[])) 116 (((s.Tags.length:Int):Int)==0)) 117 ((s.Until:Int)==0)) 115 ((s.Uses:Int)==0)) 114 (!s.Ready)),.dead] E E E E E Z (fun hdsn42=>?_) (fun j43 x41 b44 hjsn42 hbsn42 hnsn42=>?_)
  ·have hqsn42:=hdone47 hdsn42
   subst hqsn42
   replace h46:=Kno h46
   exact gO 16 E<|oSi h46▸gP E E
  obtain⟨s49,h50,houtsn42⟩:=hstep48 j43 x41 b44 hjsn42 hbsn42 hnsn42
  have hssn42:=h50
  refine gO 10 E<|eo_o E (Kpu (kv:=(kI .u8)) (agg:=false) (enc:=eB) (mSet (mSet (mSet (mSet (mSet (mSet (mSet (mSet (mSet ([]:List (Int×Bool)) 98 ((s.By:Str)==[])) 110 ((s.Node:Str)==[])) 106 ((s.Join:Str)==[])) 112 ((s.Public:Str)==[])) 109 ((s.Name:Str)==[])) 116 (((s.Tags.length:Int):Int)==0)) 117 ((s.Until:Int)==0)) 115 ((s.Uses:Int)==0)) 114 (!s.Ready)) mr34 bs35 cl36 sn42 hjsn42 hbsn42 E E E E (fun _=>E))<|gO 11 E<|bK h50 fun q51 hq51 h52=>Kjt 5 [(6,S y32),(78,.ptr 3 0),(91,B q51)] [.box 37 (fS s),.dead,mObS (kI .u8) false eB (mSet (mSet (mSet (mSet (mSet (mSet (mSet (mSet (mSet ([]:List (Int×Bool)) 98 ((s.By:Str)==[])) 110 ((s.Node:Str)==[])) 106 ((s.Join:Str)==[])) 112 ((s.Public:Str)==[])) 109 ((s.Name:Str)==[])) 116 (((s.Tags.length:Int):Int)==0)) 117 ((s.Until:Int)==0)) 115 ((s.Uses:Int)==0)) 114 (!s.Ready)) (rawM (kI .u8) eB mr34 bs35 cl36),.iter 2 cl36 (sn42++[b44])] ?_ ?_
  ·refine Kwh E E (fun hb=>?_) (fun hb=>?_)
   ·have h53:=cT hq51 hb
    exact bK h53 fun y54 hy54 h55=>gO 2 E<|Kwf E<|Kkv C (Lfx hy54) E Z E E E E E<|gO 3 E<|oSi h55▸⟨⟨E,E,E,tV⟩,[],E,.inl E⟩
   have h56:=cF hq51 hb
   exact gO 6 E<|oSi h56▸⟨⟨E,E,E,tV⟩,[],E,.inl E⟩
  refine gO 2 E<|jC E h52 (fun h57=>?_) fun h60=>gA 2 E ?_
  ·refine gA 5 E<|Kuo (kv:=(kI .u8)) (agg:=false) (enc:=eB) (id:=2) (mSet (mSet (mSet (mSet (mSet (mSet (mSet (mSet (mSet ([]:List (Int×Bool)) 98 ((s.By:Str)==[])) 110 ((s.Node:Str)==[])) 106 ((s.Join:Str)==[])) 112 ((s.Public:Str)==[])) 109 ((s.Name:Str)==[])) 116 (((s.Tags.length:Int):Int)==0)) 117 ((s.Until:Int)==0)) 115 ((s.Uses:Int)==0)) 114 (!s.Ready)) [.box 37 (fS s),.dead,mOb (kI .u8) false eB (mSet (mSet (mSet (mSet (mSet (mSet (mSet (mSet (mSet ([]:List (Int×Bool)) 98 ((s.By:Str)==[])) 110 ((s.Node:Str)==[])) 106 ((s.Join:Str)==[])) 112 ((s.Public:Str)==[])) 109 ((s.Name:Str)==[])) 116 (((s.Tags.length:Int):Int)==0)) 117 ((s.Until:Int)==0)) 115 ((s.Uses:Int)==0)) 114 (!s.Ready)),.iter 2 cl36 (sn42++[b44])] E E Z<|gA 2 E<|bK h57 fun v58 hv58 h59=>?_
   cases h59
   obtain rfl:=houtsn42 _ rfl
   cases h46
   exact gA 3 E<|oSi hv58▸gP E E
  cases h60
  exact⟨j43,x41,b44,_,hjsn42,hbsn42,hnsn42,hssn42,⟨⟨E,E,tV⟩,[],E,.inl E⟩⟩
 obtain⟨s61,h62,houtsn23⟩:=hstep29 x22 hjsn23
 have hssn23:=h62
 refine bK h62 fun y63 hy63 h64=>gO 18 E<|Kkv C (Lpf hy63) E Z E E E E E<|gO 9 E<|jC E h64 (fun h65=>?_) fun h68=>gA 2 E ?_
 ·refine gA 8 E<|bK h65 fun v66 hv66 h67=>?_
  cases h67
  obtain rfl:=houtsn23 _ rfl
  cases h27
  exact gA 3 E<|oSi hv66▸gP E E
 cases h68
 exact⟨x22,_,hjsn23,hssn23,⟨⟨E,E,tV⟩,[],E,.inl E⟩⟩
theorem Lph{x:Lgg}{x2:Lgg}{r:Bool}(h:Lie x x2=some r):EC Tryz.prog 113 [.agg (fS x),.ptr 0 0] [.box 37 (fS x2)] fun g hp'=>g=B r∧hp'=[.box 37 (fS x2)]:=by
 unfold Lie at h
 refine Kvz (Fr.of 0 _) Tryz.func113 E (Fr.of_ok _) Z fun _=>Kjm<|gA 2 E<|Kxo E E E E Z<|gO 11 E<|Kjt 6 [(3,B false),(15,B (((x.Server:Str)==x2.Server)&&((x.No:Int)==x2.No)))] [.box 37 (fS x2),.box 37 (fS x)] ?_ ?_
 ·refine Kwh E E (fun hb=>?_) (fun hb=>?_)
  ·exact gO 7 E<|⟨⟨E,Kiw E (Klo hb),tV⟩,[],E,.inl E⟩
  exact gO 7 E<|⟨⟨E,Kiw E (Klp hb),tV⟩,[],E,.inl E⟩
 exact gO 4 E<|oSi h▸Kli hΓ [_] (.inr E) E E E E (.inr ⟨HB.mk E,E⟩)
theorem Lpi{s:List Lgg}{f:Lgg}{r:Int}(h:Lif s f=some r):EC Tryz.prog 114 [.d (Sl Lnm s),.fn (.func 113) [] [.ptr 0 0]] [.box 37 (fS f)] fun g hp'=>g=I r∧hp'=[.box 37 (fS f)]:=by
 unfold Lif at h
 refine Kvz (Fr.of 0 _) Tryz.func114 E (Fr.of_ok _) Z fun _=>Kjm<|gA 13 E<|bK h fun q4 hq4 h5=>Kkd 0 E fun hb7=>Knt (R:=fun a6=>q4=.go a6) (fun a6=>[]) (fun a6=>[.box 37 (fS f)]) ?_ ?_
 ·refine gA 1 E<|Kkc s hq4 (fun i1 s2=>[(0,.d (Sl Lnm s)),(1,.fn (.func 113) [] [.ptr 0 0]),(7,I (s.length:Int)),(8,I (i1:Int))]) (fun s2=>[.box 37 (fS f)]) ⟨⟨E,E,E,E,tV⟩,[],E,.inl E⟩ (fun i1 x3 s2 y11 hx8 hlt hy9 hout10=>?_) (fun s2 hgo=>?_)
  ·refine gA 6 E<|Kjo E (decide_eq_true (Int.ofNat_lt.2 hlt))<|gA 15 E<|eo_o E (Kke hΓ (enc:=Lnm) (Kjx hx8) E E E E E (fun _=>E))<|bK hy9 fun y12 hy12 h13=>gO 1 E<|Kku [0] (B y12) [.box 37 (fS f)] C (Lph hy12) E Z E E E E E E E E E E<|gO 2 E<|jC E h13 (fun h14=>?_) fun h17=>gA 7 E ?_
   ·refine gA 9 E<|bK h14 fun v15 hv15 h16=>?_
    cases h16
    obtain rfl:=hout10 _ rfl
    cases h5
    exact gA 4 E<|oSi hv15▸Kli hΓ [] (.inr E) E E E E (.inl E)
   cases h17
   exact⟨_,E,⟨⟨E,E,E,Kiv E (Kiu (nLl hlt hb7)),tV⟩,[],E,.inl E⟩⟩
  subst hgo
  exact gA 6 E<|Kjp E (decide_eq_false (Int.lt_irrefl _))<|gA 4 E<|⟨_,E,⟨tV,[],E,.inl E⟩⟩
 intro a6 ha
 subst ha
 replace h5:=Kno h5
 exact gA 7 E<|oSi h5▸Kli hΓ [] (.inr E) E E E E (.inl E)
theorem Lpj{s:List Lgg}{f:Lgg}{r:Bool}(h:Lig s f=some r):EC Tryz.prog 90 [.d (Sl Lnm s),.fn (.func 113) [] [.ptr 0 0]] [.box 37 (fS f)] fun g hp'=>g=B r∧hp'=[.box 37 (fS f)]:=by
 unfold Lig at h
 exact Kvz (Fr.of 0 _) Tryz.func90 E (Fr.of_ok _) Z fun _=>Kjm<|bK h fun y1 hy1 h2=>gA 9 E<|Kku [0] (I y1) [.box 37 (fS f)] C (Lpi hy1) E Z E E E E E E E E E E<|gO 5 E<|oSi h2▸Kli hΓ [] (.inr E) E E E E (.inl E)
theorem Lpk{l:List Lgg}{r:Int}(h:Lih l=some r):Pure Tryz.prog 32 [.d (Sl Lnm l)] (I r):=by
 unfold Lih at h
 refine Pure.enter (Fr.of 0 _) Tryz.func32 E (Fr.of_ok _) E E<|Kjm<|gA 13 E<|jC E h (fun h1=>?_) fun h2=>gA 10 E<|bK h2 fun q6 hq6 h7=>Kkd 0 E fun hb9=>Knt (R:=fun a8=>q6=.go a8) (fun a8=>[]) (fun a8=>[]) ?_ ?_
 ·exact gA 7 E<|oSi h1▸gP E E
 ·refine gA 1 E<|Kkc l hq6 (fun i3 s4=>[(0,.d (Sl Lnm l)),(9,.d (Sl Lnm l)),(10,I (l.length:Int)),(11,I (i3:Int))]) (fun s4=>[]) ⟨⟨E,E,E,E,tV⟩,[],E,.inl E⟩ (fun i3 x5 s4 y13 hx10 hlt hy11 hout12=>?_) (fun s4 hgo=>?_)
  ·refine gA 6 E<|Kjo E (decide_eq_true (Int.ofNat_lt.2 hlt))<|gA 7 E<|eo_o E (Kke hΓ (enc:=Lnm) (Kjx hx10) E E E E E (fun _=>E))<|gO 1 E<|Kxn hΓ E E E Z<|gO 1 E<|Kxs hΓ E E E E E E E E Z<|Kld [.box 37 (fS x5)] E<|bK hy11 fun y14 hy14 h15=>gO 6 E<|Kkv C (Lpg hy14) E Z E E E E E<|gO 9 E<|jC E h15 (fun h16=>?_) fun h19=>bK h19 fun q20 hq20 h21=>gA 4 E<|Knu [(0,.d (Sl Lnm l)),(3,I (i3:Int)),(4,.ptr 0 0),(9,.d (Sl Lnm l)),(10,I (l.length:Int)),(11,I (i3:Int)),(32,B q20)] [.box 37 (fS x5)] ?_ ?_
   ·refine gA 10 E<|bK h16 fun v17 hv17 h18=>?_
    cases h18
    obtain rfl:=hout12 _ rfl
    cases h7
    exact gA 4 E<|oSi hv17▸gP E E
   ·refine Kjq hmix (by kernel_rfl)<|gA 3 E<|Kib E E (fun hb=>?_) (fun hb=>?_)
    ·have h22:=cT hq20 hb
     exact bK h22 fun x23 hx23 h24=>Kjl hΓ 3 E<|Kix E E (Kke hΓ (enc:=Lnm) hx23 E E E E E (fun _=>E))<|bK h24 fun y25 hy25 h26=>Kjl hΓ 2 E<|Kkx C (Loo hy25) E E E E E E E<|Kjl hΓ 3 E<|oSi h26▸⟨⟨E,E,E,E,E,E,E,tV⟩,[],E,.inl E⟩
    have h27:=cF hq20 hb
    exact Kjl hΓ 10 E<|oSi h27▸⟨⟨E,E,E,E,E,E,E,tV⟩,[],E,.inl E⟩
   refine gA 1 E<|jC E h21 (fun h28=>?_) fun h31=>bK h31 fun z32 hz32 h33=>gA 6 E<|eo_o E (Kkl hΓ (enc:=Lnm) hz32 E E E E E E (fun _=>E))<|bK h33 fun y34 hy34 h35=>gO 1 E<|Kku [0] (B y34) [.box 37 (fS x5)] C (Lpj hy34) E Z E E E E E E E E E E<|gO 2 E<|jC E h35 (fun h36=>?_) fun h39=>?_
   ·refine gA 9 E<|bK h28 fun v29 hv29 h30=>?_
    cases h30
    obtain rfl:=hout12 _ rfl
    cases h7
    exact gA 4 E<|oSi hv29▸gP E E
   ·refine gA 8 E<|bK h36 fun v37 hv37 h38=>?_
    cases h38
    obtain rfl:=hout12 _ rfl
    cases h7
    exact gA 4 E<|oSi hv37▸gP E E
   refine gA 7 E ?_
   cases h39
   exact⟨_,E,⟨⟨E,E,E,Kiv E (Kiu (nLl hlt hb9)),tV⟩,[_],E,.inr ⟨HB.mk E,FB.mk E,Z⟩⟩⟩
  subst hgo
  exact gA 6 E<|Kjp E (decide_eq_false (Int.lt_irrefl _))<|gA 4 E<|⟨_,E,⟨tV,[],E,.inl E⟩⟩
 intro a8 ha
 subst ha
 replace h7:=Kno h7
 exact gA 7 E<|oSi h7▸gP E E
theorem Lpl{vals:List Int}{r:Int}(h:Lii vals=some r):Pure Tryz.prog 34 [.d (Sl (eN .i64) vals)] (I r):=by
 unfold Lii at h
 refine Pure.enter (Fr.of 0 _) Tryz.func34 E (Fr.of_ok _) E E<|Kjm<|gA 18 E<|bK h fun q4 hq4 h5=>Kkd 6 E fun hb7=>Knt (R:=fun a6=>q4=.go a6) (fun a6=>[(3,I 0)]) (fun a6=>[]) ?_ ?_
 ·refine gA 1 E<|Kkc vals hq4 (fun i1 s2=>[(3,I 0),(6,.d (Sl (eN .i64) vals)),(7,I (vals.length:Int)),(8,I (i1:Int))]) (fun s2=>[]) ⟨⟨E,E,E,E,tV⟩,[],E,.inl E⟩ (fun i1 x3 s2 y11 hx8 hlt hy9 hout10=>?_) (fun s2 hgo=>?_)
  ·refine gA 6 E<|Kjo E (decide_eq_true (Int.ofNat_lt.2 hlt))<|gA 6 E<|eo_o E (Kke hΓ (enc:=(eN .i64)) (Kjx hx8) E E E E E (fun _=>E))<|gO 11 E<|jC E hy9 (fun h12=>?_) fun h15=>gA 7 E ?_
   ·refine gA 9 E<|bK h12 fun v13 hv13 h14=>?_
    cases h14
    obtain rfl:=hout10 _ rfl
    cases h5
    exact gA 4 E<|oSi hv13▸gP E E
   cases h15
   exact⟨_,E,⟨⟨E,E,E,Kiv E (Kiu (nLl hlt hb7)),tV⟩,[],E,.inl E⟩⟩
  subst hgo
  exact gA 6 E<|Kjp E (decide_eq_false (Int.lt_irrefl _))<|gA 4 E<|⟨_,E,⟨⟨E,tV⟩,[],E,.inl E⟩⟩
 intro a6 ha
 subst ha
 replace h5:=Kno h5
 exact gA 8 E<|oSi h5▸gP E E
theorem Lpm{k:Nat}{s:Lgd}{many:Int}{r:Lgh×Lgd}(h:Lij k s many=some r):EC Tryz.prog 10 [.ptr 0 0,I many] [.box 25 (fQ s)] fun g hp'=>g=.agg [.d (Sl eS r.1.d.Users),.d (Sl Lnk r.1.d.Owners),I r.1.d.Life,B r.1.d.Approve,.d (Sl Lnm r.1.l),I r.1.fault]∧hp'=[.box 25 (fQ r.2)]:=by
 unfold Lij at h
 exact Kvz (Fr.of 0 _) Tryz.func10 E (Fr.of_ok _) Z fun _=>Kjm<|gA 2 E<|Kxn hΓ E E E Z<|bK h fun y1 hy1 h2=>gO 5 E<|Kku [0] (.agg (fD y1.1)) [.box 25 (fQ y1.2),.box 33 [.d (Sl eS []),.d (Sl Lnk []),I 0,B false,.d (Sl Lnm []),I 0]] C (Loh hy1) E Z E E E E E E E E E E<|bK h2 fun y3 hy3 h4=>gO 2 E<|Kku [0] (.sl 2 y3.1.length) [.box 25 (fQ y3.2),.box 33 [.d (Sl eS []),.d (Sl Lnk []),I 0,B false,.d (Sl Lnm []),I 0],rO 37 13 Lnm y3.1] C (Los hy3) E Z E E E E E E E E E E<|Klb 2 [10] _ [.box 25 (fQ y3.2),.box 33 [.d (Sl eS []),.d (Sl Lnk []),I 0,B false,.d (Sl Lnm []),I 0],.dead] E E E Z<|Khr hΓ (gs:=[.d (Sl eS y1.1.Users),.d (Sl Lnk y1.1.Owners),I y1.1.Life,B y1.1.Approve,.d (Sl Lnm y3.1),I 0]) E E E E E E E<|Kxn hΓ E E E Z<|Kxs hΓ E E E E E E E E Z<|Kld [.box 25 (fQ y3.2),.box 33 [.d (Sl eS []),.d (Sl Lnk []),I 0,B false,.d (Sl Lnm []),I 0],.dead,.box 33 [.d (Sl eS y1.1.Users),.d (Sl Lnk y1.1.Owners),I y1.1.Life,B y1.1.Approve,.d (Sl Lnm y3.1),I 0]] E<|gO 3 E<|Kmu [.dead,.dead,.dead,.box 33 [.d (Sl eS y1.1.Users),.d (Sl Lnk y1.1.Owners),I y1.1.Life,B y1.1.Approve,.d (Sl Lnm y3.1),I 0]] [1,4] [9] [9] hmix (by kernel_rfl) (by kernel_rfl) ⟨E,tV⟩ Z<|bK h4 fun y5 hy5 h6=>go_E hΓ 2 E<|Knh C (Lpa hy5) E E E E E E<|bK h6 fun y7 hy7 h8=>go_E hΓ 2 E<|Knh C (Lpk hy7) E E E E E E<|Kni hΓ (enc:=(eN .i64)) [y5,y7] E E E E E E E E E E E E<|bK h8 fun y9 hy9 h10=>Knh C (Lpl hy9) E E E E E E<|go_E hΓ 1 E<|Kmz [.box 25 (fQ y3.2),.box 33 [.d (Sl eS []),.d (Sl Lnk []),I 0,B false,.d (Sl Lnm []),I 0],.dead,.box 33 [.d (Sl eS y1.1.Users),.d (Sl Lnk y1.1.Owners),I y1.1.Life,B y1.1.Approve,.d (Sl Lnm y3.1),I y9]] E E (Kna E) (Knf (Kof hΓ E E E E E E E E E))<|Kmw<|gA 4 E<|Kxs hΓ E E E E E E E E Z<|Kld [.box 25 (fQ y3.2),.box 33 [.d (Sl eS y1.1.Users),.d (Sl Lnk y1.1.Owners),I y1.1.Life,B y1.1.Approve,.d (Sl Lnm y3.1),I y9],.dead,.box 33 [.d (Sl eS y1.1.Users),.d (Sl Lnk y1.1.Owners),I y1.1.Life,B y1.1.Approve,.d (Sl Lnm y3.1),I y9]] E<|gO 3 E<|oSi h10▸Kli hΓ [_,_,_] (.inr E) E E E E (.inr ⟨HB.mk E,E⟩)
theorem Lpn{n:Int}{r:Lgi}(h:Lik n=some r):Pure Tryz.prog 172 [I n] (.agg [B r.Six,U r.Hi,U r.Lo]):=by
 unfold Lik at h
 exact Pure.enter (Fr.of 0 _) Tryz.func172 E (Fr.of_ok _) E E<|Kjm<|gA 2 E<|Kxn hΓ E E E Z<|gO 7 E<|Khr hΓ (gs:=[B false,U 0,U (IntKind.u64.wrap (1681915904+(IntKind.u64.wrap (n))))]) E E E E E E E<|Kxs hΓ E E E E E E E E Z<|Kld [.box 252 [B false,U 0,U (IntKind.u64.wrap (1681915904+(IntKind.u64.wrap (n))))]] E<|gO 3 E<|oSi h▸gP E E
theorem Lpo{n:Int}{r:Lgi}(h:Lil n=some r):Pure Tryz.prog 173 [I n] (.agg [B r.Six,U r.Hi,U r.Lo]):=by
 unfold Lil at h
 exact Pure.enter (Fr.of 0 _) Tryz.func173 E (Fr.of_ok _) E E<|Kjm<|gA 2 E<|Kxn hΓ E E E Z<|gO 6 E<|Khr hΓ (gs:=[B true,U 18230571291595767808,U (IntKind.u64.wrap (n))]) E E E E E E E<|Kxs hΓ E E E E E E E E Z<|Kld [.box 252 [B true,U 18230571291595767808,U (IntKind.u64.wrap (n))]] E<|gO 3 E<|oSi h▸gP E E
theorem Lpp{s:Lgd}{r:Lgi×Lgd}(h:Lim s=some r):EC Tryz.prog 254 [.ptr 0 0] [.box 25 (fQ s)] fun g hp'=>g=.agg [B r.1.Six,U r.1.Hi,U r.1.Lo]∧hp'=[.box 25 (fQ r.2)]:=by
 unfold Lim at h
 refine Kvz (Fr.of 0 _) Tryz.func254 E (Fr.of_ok _) Z fun _=>Kjm<|gA 2 E<|Kxn hΓ E E E Z<|bK h fun y1 hy1 h2=>gO 6 E<|Kku [0] (I y1.1) [.box 25 (fQ y1.2),.box 252 [B false,U 0,U 0]] C (Lob hy1) E Z E E E E E E E E E E<|gO 9 E<|jC E h2 (fun h3=>?_) fun h12=>gA 6 E<|jC E h12 (fun h13=>?_) fun h18=>?_
 ·exact gA 1 E<|Kmu [] [] [2,7,11] [] hmix (by kernel_rfl) (by kernel_rfl) trivial Z<|Kni hΓ (enc:=(eN .u64)) [0,18230571291595767808,2306139568115548160,9223372036854775808,18446744073709551615] E E E E E E E E E E E E<|bK h3 fun y4 hy4 h5=>go_E hΓ 1 E<|ge_h [.box 25 (fQ y4.2),.box 252 [B false,U 0,U 0]] E E E (Knb tV) (Kng [0] (I y4.1) [.box 25 (fQ y4.2),.box 252 [B false,U 0,U 0]] C (Lob hy4) E E E E E E E E E E)<|bK h5 fun x6 hx6 h7=>ge_q E (.inl E) (fun _ _=>Kmx (qt_p (Kke hΓ (enc:=(eN .u64)) hx6 E E E E E (fun _=>E))))<|go_E hΓ 1 E<|Kni hΓ (enc:=(eN .u64)) [0,1,2,4294967296,18446744073709551615] E E E E E E E E E E E E<|bK h7 fun y8 hy8 h9=>go_E hΓ 1 E<|ge_h [.box 25 (fQ y8.2),.box 252 [B false,U 0,U 0]] E E E (Knb tV) (Kng [0] (I y8.1) [.box 25 (fQ y8.2),.box 252 [B false,U 0,U 0]] C (Lob hy8) E E E E E E E E E E)<|bK h9 fun x10 hx10 h11=>ge_q E (.inl E) (fun _ _=>Kmx (qt_p (Kke hΓ (enc:=(eN .u64)) hx10 E E E E E (fun _=>E))))<|go_E hΓ 1 E<|ge_q E (.inl E) (fun _ _=>Kmx (qt_p (Knl hΓ (gs:=[B true,U x6,U x10]) E E E E E E)))<|Kmz [.box 25 (fQ y8.2),.box 252 [B true,U x6,U x10]] E E (Knb tV) (Knf (Kof hΓ E E E E E E E E E))<|Kmw<|gA 4 E<|oSi h11▸Kli hΓ [_] (.inr E) E E E E (.inr ⟨HB.mk E,E⟩)
 ·exact gA 2 E<|Kkp hΓ (enc:=(eN .u64)) [0,1,4294967295,2130706433,3232235521] E E E E E E E E E E E E Z<|bK h13 fun y14 hy14 h15=>gO 1 E<|Kku [0] (I y14.1) [.box 25 (fQ y14.2),.box 252 [B false,U 0,U 0]] C (Lob hy14) E Z E E E E E E E E E E<|bK h15 fun x16 hx16 h17=>eo_o E (Kke hΓ (enc:=(eN .u64)) hx16 E E E E E (fun _=>E))<|gO 1 E<|Khr hΓ (gs:=[B false,U 0,U x16]) E E E E E E E<|Kxs hΓ E E E E E E E E Z<|Kld [.box 25 (fQ y14.2),.box 252 [B false,U 0,U x16]] E<|gO 5 E<|oSi h17▸Kli hΓ [_] (.inr E) E E E E (.inr ⟨HB.mk E,E⟩)
 refine gA 6 E<|jC E h18 (fun h19=>?_) fun h24=>bK h24 fun y25 hy25 h26=>gA 6 E<|Kku [0] (I y25.1) [.box 25 (fQ y25.2),.box 252 [B false,U 0,U 0]] C (Loc hy25) E Z E E E E E E E E E E<|gO 2 E<|Khr hΓ (gs:=[B false,U 0,U (IntKind.u64.wrap (167772160+(IntKind.u64.wrap (y25.1))))]) E E E E E E E<|Kxs hΓ E E E E E E E E Z<|Kld [.box 25 (fQ y25.2),.box 252 [B false,U 0,U (IntKind.u64.wrap (167772160+(IntKind.u64.wrap (y25.1))))]] E<|gO 3 E<|oSi h26▸Kli hΓ [_] (.inr E) E E E E (.inr ⟨HB.mk E,E⟩)
 exact bK h19 fun y20 hy20 h21=>gA 3 E<|Kku [0] (I y20.1) [.box 25 (fQ y20.2),.box 252 [B false,U 0,U 0]] C (Loc hy20) E Z E E E E E E E E E E<|bK h21 fun y22 hy22 h23=>gO 2 E<|eo_o E (Klg hy22 E E)<|Khr hΓ (gs:=[B false,U 0,U y22]) E E E E E E E<|Kxs hΓ E E E E E E E E Z<|Kld [.box 25 (fQ y20.2),.box 252 [B false,U 0,U y22]] E<|gO 5 E<|oSi h23▸Kli hΓ [_] (.inr E) E E E E (.inr ⟨HB.mk E,E⟩)
theorem Lpq{s:Lgd}{r:Lgi×Lgd}(h:Lin s=some r):EC Tryz.prog 174 [.ptr 0 0] [.box 25 (fQ s)] fun g hp'=>g=.agg [B r.1.Six,U r.1.Hi,U r.1.Lo]∧hp'=[.box 25 (fQ r.2)]:=by
 unfold Lin at h
 refine Kvz (Fr.of 0 _) Tryz.func174 E (Fr.of_ok _) Z fun _=>Kjm<|gA 2 E<|Kxn hΓ E E E Z<|bK h fun y1 hy1 h2=>gO 5 E<|Kku [0] (.agg [B y1.1.Six,U y1.1.Hi,U y1.1.Lo]) [.box 25 (fQ y1.2),.box 252 [B false,U 0,U 0]] C (Lpp hy1) E Z E E E E E E E E E E<|Kxn hΓ E E E Z<|Kxs hΓ E E E E E E E E Z<|Kld [.box 25 (fQ y1.2),.box 252 [B false,U 0,U 0],.box 252 [B y1.1.Six,U y1.1.Hi,U y1.1.Lo]] E<|bK h2 fun y3 hy3 h4=>gO 6 E<|Kku [0] (B y3.1) [.box 25 (fQ y3.2),.box 252 [B false,U 0,U 0],.box 252 [B y1.1.Six,U y1.1.Hi,U y1.1.Lo]] C (Loe hy3) E Z E E E E E E E E E E<|gO 2 E<|jC E h4 (fun h5=>?_) fun h12=>gA 5 E<|Kxs hΓ E E E E E E E E Z<|Kld [.box 25 (fQ y3.2),.box 252 [B y1.1.Six,U y1.1.Hi,U y1.1.Lo],.box 252 [B y1.1.Six,U y1.1.Hi,U y1.1.Lo]] E<|gO 3 E<|oSi h12▸Kli hΓ [_,_] (.inr E) E E E E (.inr ⟨HB.mk E,E⟩)
 exact bK h5 fun y6 hy6 h7=>gA 3 E<|Kku [0] (I y6.1) [.box 25 (fQ y6.2),.box 252 [B false,U 0,U 0],.box 252 [B y1.1.Six,U y1.1.Hi,U y1.1.Lo]] C (Lob hy6) E Z E E E E E E E E E E<|gO 1 E<|Kkp hΓ (enc:=(eN .u64)) [4294967296,5,1099511627776] E E E E E E E E E E E E Z<|bK h7 fun y8 hy8 h9=>gO 1 E<|Kku [0] (I y8.1) [.box 25 (fQ y8.2),.box 252 [B false,U 0,U 0],.box 252 [B y1.1.Six,U y1.1.Hi,U y1.1.Lo]] C (Lob hy8) E Z E E E E E E E E E E<|bK h9 fun x10 hx10 h11=>eo_o E (Kke hΓ (enc:=(eN .u64)) hx10 E E E E E (fun _=>E))<|gO 1 E<|Khr hΓ (gs:=[B false,U (IntKind.u64.wrap (y6.1)),U x10]) E E E E E E E<|Kxs hΓ E E E E E E E E Z<|Kld [.box 25 (fQ y8.2),.box 252 [B false,U (IntKind.u64.wrap (y6.1)),U x10],.box 252 [B y1.1.Six,U y1.1.Hi,U y1.1.Lo]] E<|gO 4 E<|oSi h11▸Kli hΓ [_,_] (.inr E) E E E E (.inr ⟨HB.mk E,E⟩)
theorem Lpr{k:Nat}{a:Lgi}{r:(Int×Int×Int×Int×Int×Int×Int×Int×Int)}(h:Lio k a=some r):Pure Tryz.prog 262 [.agg [B a.Six,U a.Hi,U a.Lo]] (.agg [I r.1,I r.2.1,I r.2.2.1,I r.2.2.2.1,I r.2.2.2.2.1,I r.2.2.2.2.2.1,I r.2.2.2.2.2.2.1,I r.2.2.2.2.2.2.2.1,I r.2.2.2.2.2.2.2.2]):=by
 unfold Lio at h
 refine Pure.enter (Fr.of 0 _) Tryz.func262 E (Fr.of_ok _) E E<|Kjm<|gA 2 E<|Kxo E E E E Z<|Kxn hΓ E E E Z<|gO 4 E<|Kxn hΓ E E E Z<|gO 8 E<|bK h fun q4 hq4 h5=>Knu [(1,.ptr 0 0),(2,.ptr 1 0),(3,.ptr 2 0)] [.box 252 [B a.Six,U a.Hi,U a.Lo],.box 326 [I 0,I 0,I 0,I 0,I 0,I 0,I 0,I 0,I 0],.box 326 [I q4.1,I q4.2.1,I q4.2.2.1,I q4.2.2.2.1,I q4.2.2.2.2.1,I q4.2.2.2.2.2.1,I q4.2.2.2.2.2.2.1,I q4.2.2.2.2.2.2.2.1,I q4.2.2.2.2.2.2.2.2]] ?_ ?_
 ·refine gA 1 E<|Kka hq4 (fun s2=>[(1,.ptr 0 0),(2,.ptr 1 0),(3,.ptr 2 0),(5,I s2.2.2.2.2.2.2.2.2.2)]) (fun s2=>[.box 252 [B a.Six,U a.Hi,U a.Lo],.box 326 [I 0,I 0,I 0,I 0,I 0,I 0,I 0,I 0,I 0],.box 326 [I s2.1,I s2.2.1,I s2.2.2.1,I s2.2.2.2.1,I s2.2.2.2.2.1,I s2.2.2.2.2.2.1,I s2.2.2.2.2.2.2.1,I s2.2.2.2.2.2.2.2.1,I s2.2.2.2.2.2.2.2.2.1]]) ⟨⟨E,E,E,E,tV⟩,[],E,.inl E⟩ (fun s2 y10 hy8 hout9=>?_)
  refine gA 6 E<|jC E hy8 (fun h11=>?_) fun h20=>gA 4 E ?_
  ·exact bK h11 fun y12 hy12 h13=>gA 17 E<|eo_o E (Klv hy12 E E)<|bK h13 fun x14 hx14 h15=>gO 2 E<|eo_o E (Kqs hΓ hx14 E E E E E E)<|eo_u Z (Kqu hΓ (l:=([s2.1,s2.2.1,s2.2.2.1,s2.2.2.2.1,s2.2.2.2.2.1,s2.2.2.2.2.2.1,s2.2.2.2.2.2.2.1,s2.2.2.2.2.2.2.2.1,s2.2.2.2.2.2.2.2.2.1]:List Int)) (v:=(wi (bitsV .and .u64 y12 65535))) (f:=fun z=>.d (.v (.int .i64 z))) hx14 E E E E E E E E E E)<|Kld [.box 252 [B a.Six,U a.Hi,U a.Lo],.box 326 [I 0,I 0,I 0,I 0,I 0,I 0,I 0,I 0,I 0],.box 326 [I (updA s2.2.2.2.2.2.2.2.2.2 0 (wi (bitsV .and .u64 y12 65535)) s2.1),I (updA s2.2.2.2.2.2.2.2.2.2 1 (wi (bitsV .and .u64 y12 65535)) s2.2.1),I (updA s2.2.2.2.2.2.2.2.2.2 2 (wi (bitsV .and .u64 y12 65535)) s2.2.2.1),I (updA s2.2.2.2.2.2.2.2.2.2 3 (wi (bitsV .and .u64 y12 65535)) s2.2.2.2.1),I (updA s2.2.2.2.2.2.2.2.2.2 4 (wi (bitsV .and .u64 y12 65535)) s2.2.2.2.2.1),I (updA s2.2.2.2.2.2.2.2.2.2 5 (wi (bitsV .and .u64 y12 65535)) s2.2.2.2.2.2.1),I (updA s2.2.2.2.2.2.2.2.2.2 6 (wi (bitsV .and .u64 y12 65535)) s2.2.2.2.2.2.2.1),I (updA s2.2.2.2.2.2.2.2.2.2 7 (wi (bitsV .and .u64 y12 65535)) s2.2.2.2.2.2.2.2.1),I (updA s2.2.2.2.2.2.2.2.2.2 8 (wi (bitsV .and .u64 y12 65535)) s2.2.2.2.2.2.2.2.2.1)]] E<|bK h15 fun y16 hy16 h17=>gO 9 E<|eo_o E (Klv hy16 E E)<|bK h17 fun x18 hx18 h19=>gO 2 E<|eo_o E (Kqs hΓ hx18 E E E E E E)<|eo_u Z (Kqu hΓ (l:=([updA s2.2.2.2.2.2.2.2.2.2 0 (wi (bitsV .and .u64 y12 65535)) s2.1,updA s2.2.2.2.2.2.2.2.2.2 1 (wi (bitsV .and .u64 y12 65535)) s2.2.1,updA s2.2.2.2.2.2.2.2.2.2 2 (wi (bitsV .and .u64 y12 65535)) s2.2.2.1,updA s2.2.2.2.2.2.2.2.2.2 3 (wi (bitsV .and .u64 y12 65535)) s2.2.2.2.1,updA s2.2.2.2.2.2.2.2.2.2 4 (wi (bitsV .and .u64 y12 65535)) s2.2.2.2.2.1,updA s2.2.2.2.2.2.2.2.2.2 5 (wi (bitsV .and .u64 y12 65535)) s2.2.2.2.2.2.1,updA s2.2.2.2.2.2.2.2.2.2 6 (wi (bitsV .and .u64 y12 65535)) s2.2.2.2.2.2.2.1,updA s2.2.2.2.2.2.2.2.2.2 7 (wi (bitsV .and .u64 y12 65535)) s2.2.2.2.2.2.2.2.1,updA s2.2.2.2.2.2.2.2.2.2 8 (wi (bitsV .and .u64 y12 65535)) s2.2.2.2.2.2.2.2.2.1]:List Int)) (v:=(wi (bitsV .and .u64 y16 65535))) (f:=fun z=>.d (.v (.int .i64 z))) hx18 E E E E E E E E E E)<|Kld [.box 252 [B a.Six,U a.Hi,U a.Lo],.box 326 [I 0,I 0,I 0,I 0,I 0,I 0,I 0,I 0,I 0],.box 326 [I (updA (wi (4+s2.2.2.2.2.2.2.2.2.2)) 0 (wi (bitsV .and .u64 y16 65535)) (updA s2.2.2.2.2.2.2.2.2.2 0 (wi (bitsV .and .u64 y12 65535)) s2.1)),I (updA (wi (4+s2.2.2.2.2.2.2.2.2.2)) 1 (wi (bitsV .and .u64 y16 65535)) (updA s2.2.2.2.2.2.2.2.2.2 1 (wi (bitsV .and .u64 y12 65535)) s2.2.1)),I (updA (wi (4+s2.2.2.2.2.2.2.2.2.2)) 2 (wi (bitsV .and .u64 y16 65535)) (updA s2.2.2.2.2.2.2.2.2.2 2 (wi (bitsV .and .u64 y12 65535)) s2.2.2.1)),I (updA (wi (4+s2.2.2.2.2.2.2.2.2.2)) 3 (wi (bitsV .and .u64 y16 65535)) (updA s2.2.2.2.2.2.2.2.2.2 3 (wi (bitsV .and .u64 y12 65535)) s2.2.2.2.1)),I (updA (wi (4+s2.2.2.2.2.2.2.2.2.2)) 4 (wi (bitsV .and .u64 y16 65535)) (updA s2.2.2.2.2.2.2.2.2.2 4 (wi (bitsV .and .u64 y12 65535)) s2.2.2.2.2.1)),I (updA (wi (4+s2.2.2.2.2.2.2.2.2.2)) 5 (wi (bitsV .and .u64 y16 65535)) (updA s2.2.2.2.2.2.2.2.2.2 5 (wi (bitsV .and .u64 y12 65535)) s2.2.2.2.2.2.1)),I (updA (wi (4+s2.2.2.2.2.2.2.2.2.2)) 6 (wi (bitsV .and .u64 y16 65535)) (updA s2.2.2.2.2.2.2.2.2.2 6 (wi (bitsV .and .u64 y12 65535)) s2.2.2.2.2.2.2.1)),I (updA (wi (4+s2.2.2.2.2.2.2.2.2.2)) 7 (wi (bitsV .and .u64 y16 65535)) (updA s2.2.2.2.2.2.2.2.2.2 7 (wi (bitsV .and .u64 y12 65535)) s2.2.2.2.2.2.2.2.1)),I (updA (wi (4+s2.2.2.2.2.2.2.2.2.2)) 8 (wi (bitsV .and .u64 y16 65535)) (updA s2.2.2.2.2.2.2.2.2.2 8 (wi (bitsV .and .u64 y12 65535)) s2.2.2.2.2.2.2.2.2.1))]] E<|gO 7 E<|oSi h19▸⟨_,E,⟨⟨E,E,E,E,tV⟩,[],E,.inl E⟩⟩
  cases h20
  obtain rfl:=hout9 _ rfl
  exact⟨⟨E,E,E,tV⟩,[],E,.inl E⟩
 refine bK h5 fun q21 hq21 h22=>gA 8 E<|Knu [(2,.ptr 1 0),(3,.ptr 2 0)] [.box 252 [B a.Six,U a.Hi,U a.Lo],.box 326 [I 0,I 0,I 0,I 0,I 0,I 0,I 0,I 0,I 0],.box 326 [I q4.1,I q4.2.1,I q4.2.2.1,I q4.2.2.2.1,I q4.2.2.2.2.1,I q4.2.2.2.2.2.1,I q4.2.2.2.2.2.2.1,I q4.2.2.2.2.2.2.2.1,I q21]] ?_ ?_
 ·refine jC E hq21 (fun h23=>?_) fun h24=>gA 1 E<|oSi h24▸⟨⟨E,E,tV⟩,[],E,.inl E⟩
  exact gA 1 E<|eo_o E (Kqs hΓ (l:=List.replicate 9 ()) (z:=()) E E E E E E E)<|Kxs hΓ E E E E E E E E Z<|Kld [.box 252 [B a.Six,U a.Hi,U a.Lo],.box 326 [I 0,I 0,I 0,I 0,I 0,I 0,I 0,I 0,I 0],.box 326 [I q4.1,I q4.2.1,I q4.2.2.1,I q4.2.2.2.1,I q4.2.2.2.2.1,I q4.2.2.2.2.2.1,I q4.2.2.2.2.2.2.1,I q4.2.2.2.2.2.2.2.1,I 1]] E<|gO 1 E<|oSi h23▸⟨⟨E,E,tV⟩,[],E,.inl E⟩
 exact gA 4 E<|Kxs hΓ E E E E E E E E Z<|Kld [.box 252 [B a.Six,U a.Hi,U a.Lo],.box 326 [I q4.1,I q4.2.1,I q4.2.2.1,I q4.2.2.2.1,I q4.2.2.2.2.1,I q4.2.2.2.2.2.1,I q4.2.2.2.2.2.2.1,I q4.2.2.2.2.2.2.2.1,I q21],.box 326 [I q4.1,I q4.2.1,I q4.2.2.1,I q4.2.2.2.1,I q4.2.2.2.2.1,I q4.2.2.2.2.2.1,I q4.2.2.2.2.2.2.1,I q4.2.2.2.2.2.2.2.1,I q21]] E<|gO 3 E<|oSi h22▸gP E E
theorem Lps{a:Lgi}{r:Int}(h:Lip a=some r):Pure Tryz.prog 260 [.agg [B a.Six,U a.Hi,U a.Lo]] (I r):=by
 unfold Lip at h
 refine Pure.enter (Fr.of 0 _) Tryz.func260 E (Fr.of_ok _) E E<|Kjm<|gA 2 E<|Kxo E E E E Z<|gO 10 E<|jC E h (fun h1=>?_) fun h2=>gA 8 E<|oSi h2▸gP E E
 exact gA 7 E<|oSi h1▸gP E E
theorem Lpt{k:Nat}{a:Lgi}{bits:Int}{r:(Int×Int×Int×Int×Int×Int×Int×Int×Int)}(h:Liq k a bits=some r):Pure Tryz.prog 261 [.agg [B a.Six,U a.Hi,U a.Lo],I bits] (.agg [I r.1,I r.2.1,I r.2.2.1,I r.2.2.2.1,I r.2.2.2.2.1,I r.2.2.2.2.2.1,I r.2.2.2.2.2.2.1,I r.2.2.2.2.2.2.2.1,I r.2.2.2.2.2.2.2.2]):=by
 unfold Liq at h
 refine Pure.enter (Fr.of 0 _) Tryz.func261 E (Fr.of_ok _) E E<|Kjm<|gA 2 E<|Kxo E E E E Z<|Kxn hΓ E E E Z<|bK h fun y1 hy1 h2=>gO 5 E<|Kkv C (Lpr hy1) E Z E E E E E<|Kxn hΓ E E E Z<|Kxs hΓ E E E E E E E E Z<|Kld [.box 252 [B a.Six,U a.Hi,U a.Lo],.box 326 [I 0,I 0,I 0,I 0,I 0,I 0,I 0,I 0,I 0],.box 326 [I y1.1,I y1.2.1,I y1.2.2.1,I y1.2.2.2.1,I y1.2.2.2.2.1,I y1.2.2.2.2.2.1,I y1.2.2.2.2.2.2.1,I y1.2.2.2.2.2.2.2.1,I y1.2.2.2.2.2.2.2.2]] E<|bK h2 fun y3 hy3 h4=>gO 6 E<|Kkv C (Lps hy3) E Z E E E E E<|gO 5 E<|bK h4 fun q8 hq8 h9=>gK hq8 fun hb11 h12=>?_
 replace hb11:=of_decide_eq_true hb11
 refine Knu [(4,.ptr 1 0),(5,.ptr 2 0)] [.box 252 [B a.Six,U a.Hi,U a.Lo],.box 326 [I 0,I 0,I 0,I 0,I 0,I 0,I 0,I 0,I 0],.box 326 [I q8.1,I q8.2.1,I q8.2.2.1,I q8.2.2.2.1,I q8.2.2.2.2.1,I q8.2.2.2.2.2.1,I q8.2.2.2.2.2.2.1,I q8.2.2.2.2.2.2.2.1,I q8.2.2.2.2.2.2.2.2]] ?_ ?_
 ·refine gA 1 E<|Klm h12 (fun i5 s6=>[(4,.ptr 1 0),(5,.ptr 2 0),(12,I (wi (y3 - bits))),(13,I (i5:Int))]) (fun s6=>[.box 252 [B a.Six,U a.Hi,U a.Lo],.box 326 [I 0,I 0,I 0,I 0,I 0,I 0,I 0,I 0,I 0],.box 326 [I s6.1,I s6.2.1,I s6.2.2.1,I s6.2.2.2.1,I s6.2.2.2.2.1,I s6.2.2.2.2.2.1,I s6.2.2.2.2.2.2.1,I s6.2.2.2.2.2.2.2.1,I s6.2.2.2.2.2.2.2.2]]) ⟨⟨E,E,E,E,tV⟩,[],E,.inl E⟩ (fun i5 s6 y16 hlt hy14=>?_) (fun hge=>?_)
  ·exact gA 6 E<|Kjo E (decide_eq_true hlt)<|gA 10 E<|Kmu [.dead,.dead,.box 326 [I s6.1,I s6.2.1,I s6.2.2.1,I s6.2.2.2.1,I s6.2.2.2.2.1,I s6.2.2.2.2.2.1,I s6.2.2.2.2.2.2.1,I s6.2.2.2.2.2.2.2.1,I s6.2.2.2.2.2.2.2.2]] [3] [9] [9] hmix (by kernel_rfl) (by kernel_rfl) ⟨E,tV⟩ Z<|bK hy14 fun y17 hy17 h18=>go_E hΓ 1 E<|ge_q E (.inl E) (fun _ _=>Kmx (qt_p (Klf hy17 E E)))<|bK h18 fun x19 hx19 h20=>ge_q E (.inl E) (fun _ _=>Kmx (qt_p (Kqs hΓ hx19 E E E E E E)))<|ge_p E (fun hp hs=>Kqt hΓ (f:=fun z=>.d (.v (.int .i64 z))) hx19 E E E E (hs 2 _ E E) E) E<|bK h20 fun y21 hy21 h22=>go_E hΓ 1 E<|ge_q E (.inl E) (fun _ _=>Kmx (qt_p (Klg hy21 E E)))<|bK h22 fun y23 hy23 h24=>ge_q E (.inl E) (fun _ _=>Kmx (qt_p (Klu hy23 E E)))<|bK h24 fun x25 hx25 h26=>go_E hΓ 1 E<|ge_q E (.inl E) (fun _ _=>Kmx (qt_p (Kqs hΓ hx25 E E E E E E)))<|Kmz [.box 252 [B a.Six,U a.Hi,U a.Lo],.box 326 [I 0,I 0,I 0,I 0,I 0,I 0,I 0,I 0,I 0],.box 326 [I (updA y17 0 (bitsV .andNot .i64 x19 y23) s6.1),I (updA y17 1 (bitsV .andNot .i64 x19 y23) s6.2.1),I (updA y17 2 (bitsV .andNot .i64 x19 y23) s6.2.2.1),I (updA y17 3 (bitsV .andNot .i64 x19 y23) s6.2.2.2.1),I (updA y17 4 (bitsV .andNot .i64 x19 y23) s6.2.2.2.2.1),I (updA y17 5 (bitsV .andNot .i64 x19 y23) s6.2.2.2.2.2.1),I (updA y17 6 (bitsV .andNot .i64 x19 y23) s6.2.2.2.2.2.2.1),I (updA y17 7 (bitsV .andNot .i64 x19 y23) s6.2.2.2.2.2.2.2.1),I (updA y17 8 (bitsV .andNot .i64 x19 y23) s6.2.2.2.2.2.2.2.2)]] E E (Kna E) (Knf (Kqu hΓ (l:=([s6.1,s6.2.1,s6.2.2.1,s6.2.2.2.1,s6.2.2.2.2.1,s6.2.2.2.2.2.1,s6.2.2.2.2.2.2.1,s6.2.2.2.2.2.2.2.1,s6.2.2.2.2.2.2.2.2]:List Int)) (v:=(bitsV .andNot .i64 x19 y23)) (f:=fun z=>.d (.v (.int .i64 z))) hx25 E E E E E E E E E E))<|Kmw<|gA 6 E<|oSi h26▸⟨⟨E,E,E,Kiv E (Kiu (by omega)),tV⟩,[],E,.inl E⟩
  exact gA 6 E<|Kjp E (decide_eq_false hge)<|gA 4 E<|⟨⟨E,E,tV⟩,[],E,.inl E⟩
 exact gA 4 E<|Kxs hΓ E E E E E E E E Z<|Kld [.box 252 [B a.Six,U a.Hi,U a.Lo],.box 326 [I q8.1,I q8.2.1,I q8.2.2.1,I q8.2.2.2.1,I q8.2.2.2.2.1,I q8.2.2.2.2.2.1,I q8.2.2.2.2.2.2.1,I q8.2.2.2.2.2.2.2.1,I q8.2.2.2.2.2.2.2.2],.box 326 [I q8.1,I q8.2.1,I q8.2.2.1,I q8.2.2.2.1,I q8.2.2.2.2.1,I q8.2.2.2.2.2.1,I q8.2.2.2.2.2.2.1,I q8.2.2.2.2.2.2.2.1,I q8.2.2.2.2.2.2.2.2]] E<|gO 3 E<|oSi h9▸gP E E
end Go.Proofs.YtjmlnnanfkiakaaGreatDoor
