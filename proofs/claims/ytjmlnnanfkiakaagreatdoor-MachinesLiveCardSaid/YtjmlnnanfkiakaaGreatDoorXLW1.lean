import Derived.Test.YtjmlnnanfkiakaaGreatDoorXLM
import Derived.Test.YtjmlnnanfkiakaaGreatDoorGt
import Derived.Test.YtjmlnnanfkiakaaGreatDoorStrS
set_option maxHeartbeats 8000000
set_option linter.all false
set_option maxRecDepth 100000
namespace Go.Proofs.YtjmlnnanfkiakaaGreatDoor
open Go.Gk
theorem E.{u}{α:Sort u}{a:α}:a=a:=rfl
theorem Z{n m:Nat}(h:Nat.ble n m=true:=by exact rfl):n≤m:=nBe h
theorem C{f:FuncId}{fn:Func}(h:Tryz.prog.funcs[f]?=some fn:=by exact rfl)(h1:fn.body.isNone=false:=by exact rfl)(h2:(fn.name== "runtime.NumGoroutine")=false:=by exact rfl):Callable Tryz.prog f:=Lqw h h1 h2
theorem bK{α β:Type}{x:Option α}{f:α→Option β}{r:β}{G:Prop}(h:bi x f=some r)(k:∀ a,x=some a→f a=some r→G):G:=let⟨a,b,c⟩:=Kcp h;k a b c
theorem gK{α:Type}{c:Bool}{x:Option α}{r:α}{G:Prop}(h:gd c x=some r)(k:c=true→x=some r→G):G:=let⟨a,b⟩:=Kcq h;k a b
section
variable{F N:Nat}{Q:GPost}{fr fr':Fr}{hp:List Ob}{ks:List Kt}
theorem jC{P:Program}{t:Tmp}{x y:Code}{b:Bool}{α:Type}{u v r:α}(hb:fr.get t=some (.d (.v (.bool b))))(h:(bif b then u else v)=r)(h1:u=r→St.holds P F N Q (.code x ks) fr hp)(h2:v=r→St.holds P F N Q (.code y ks) fr hp):St.holds P F N Q (.code (.cond (.tmp t) x y) ks) fr hp:=Kci hb (fun e=>h1 (cT h e)) fun e=>h2 (cF h e)
theorem gA(n:Nat){st st':St}(h:mrun Γ N hp n st fr=(st',fr'))(k:St.holds Tryz.prog F N Q st' fr' hp):St.holds Tryz.prog F N Q st fr hp:=go hΓ n h k
theorem gO(n:Nat){full:Array Oper}{l:List Oper}{st':St}(h:mrun Γ N hp n (.ops full l ks) fr=(st',fr'))(k:St.holds Tryz.prog F N Q st' fr' hp):EO Tryz.prog F N full l (stk Tryz.prog F N Q ks) fr hp:=Kcf hΓ n h k
theorem jD{id:Nat}{ops:Array Oper}(h:St.holds Tryz.prog F N Q (.draw ops ops.toList ks) fr hp)(hB:Region.lexB .any ops=true:=by kernel_rfl):St.holds Tryz.prog F N Q (.code (.region id ops true) ks) fr hp:=Kcl hmix hB h
theorem QN{f:FuncId}{fn:Func}{c:Code}{gs:List G}{R:G→List Ob→Prop}(hf:Tryz.prog.funcs[f]?=some fn)(hb:fn.body=some c)(hN:gs.length≤fn.ntmps)(h:St.holds Tryz.prog hp.length fn.ntmps (Ret Tryz.prog fn hp.length R) (.code c []) (Fr.of 0 gs) hp):EC Tryz.prog f gs hp R:=Kor (Fr.of 0 gs) hf hb (Fr.of_ok gs) hN fun _=>Kch h
theorem QM{f:FuncId}{fn:Func}{c:Code}{gs:List G}{R:G→List Ob→Prop}(hf:Tryz.prog.funcs[f]?=some fn)(hb:fn.body=some c)(hN:gs.length≤fn.ntmps)(h:St.holds Tryz.prog hp.length fn.ntmps (fun e fr hp'=>Cv hp.length fn.ntmps (fun fr2 hp2=>Ret Tryz.prog fn hp.length R e fr2 hp2) fr hp') (.code c []) (Fr.of 0 gs) hp):EC Tryz.prog f gs hp R:=Kjd (Fr.of 0 gs) hf hb (Fr.of_ok gs) hN fun _=>Kch h
theorem QP{f:FuncId}{fn:Func}{c:Code}{gs:List G}{r:G}(hf:Tryz.prog.funcs[f]?=some fn)(hb:fn.body=some c)(hN:Nat.ble gs.length fn.ntmps=true)(hr:r.bel 0=true)(h:St.holds Tryz.prog 0 fn.ntmps (fun e fr hp=>(e=.normal∨e=.ret)∧Res Tryz.prog fn fr hp r) (.code c []) (Fr.of 0 gs) []):Pure Tryz.prog f gs r:=Pure.enter (Fr.of 0 gs) hf hb (Fr.of_ok gs) hN hr (Kch h)
theorem gP{fn:Func}{gs:List G}{g:G}(h:resAll Γ fr hp fn.results.toList=some gs)(hg:retG gs=g):(Exit.ret=.normal∨Exit.ret=.ret)∧Res Tryz.prog fn fr hp g:=Keb hΓ (.inr rfl) h hg
end
abbrev Llk(x:Lev):List D:=[Sl (eN .i64) x.L,.v (.int .i64 x.v_at)]
abbrev Lll(x:Lew):List D:=[.v (.string ⟨x.Tag.toArray⟩),Sl eS x.Users]
abbrev Llm(x:Lex):List D:=[Sl eS x.Users,Sl Lll x.Owners,.v (.int .i64 x.Life),.v (.bool x.Approve)]
abbrev Lln(x:Ley):List D:=[.v (.int .i64 x.At),.v (.string ⟨x.Server.toArray⟩),.v (.int .i64 x.No),.v (.int .i64 x.Kind),.v (.string ⟨x.By.toArray⟩),.v (.string ⟨x.Node.toArray⟩),.v (.string ⟨x.Join.toArray⟩),.v (.string ⟨x.Public.toArray⟩),.v (.string ⟨x.Name.toArray⟩),Sl eS x.Tags,.v (.int .i64 x.Until),.v (.int .i64 x.Uses),.v (.bool x.Ready)]
abbrev Llo(x:Lez):List D:=[Sl eS x.d.Users,Sl Lll x.d.Owners,.v (.int .i64 x.d.Life),.v (.bool x.d.Approve),Sl Lln x.l,.v (.int .i64 x.fault)]
abbrev Llp(x:Lfa):List D:=[.v (.int .i64 x.From),.v (.int .i64 x.To)]
abbrev Llq(x:Lfb):List D:=[.v (.string ⟨x.server.toArray⟩),.v (.int .i64 x.no)]
abbrev Llr(x:Lfc):List D:=[.v (.string ⟨x.Node.toArray⟩),.v (.string ⟨x.User.toArray⟩),.v (.string ⟨x.Name.toArray⟩),.v (.string ⟨x.Public.toArray⟩),Sl eS x.Tags,.v (.int .i64 x.Joined),.v (.int .i64 x.Expires),.v (.bool x.Approved)]
abbrev Lls(x:Lfd):List D:=[.v (.int .i64 x.v_at),.v (.string ⟨x.is.Node.toArray⟩),.v (.string ⟨x.is.User.toArray⟩),.v (.string ⟨x.is.Name.toArray⟩),.v (.string ⟨x.is.Public.toArray⟩),Sl eS x.is.Tags,.v (.int .i64 x.is.Joined),.v (.int .i64 x.is.Expires),.v (.bool x.is.Approved),.v (.bool x.gone),.v (.bool x.key)]
abbrev Llt(x:Lff):List D:=[.v (.string ⟨x.Key.toArray⟩),.v (.string ⟨x.By.toArray⟩),Sl eS x.Tags,.v (.int .i64 x.Until),.v (.int .i64 x.Left),.v (.bool x.Ready)]
abbrev Llu(x:Lfg):List D:=[.v (.string ⟨x.Join.Key.toArray⟩),.v (.string ⟨x.Join.By.toArray⟩),Sl eS x.Join.Tags,.v (.int .i64 x.Join.Until),.v (.int .i64 x.Join.Left),.v (.bool x.Join.Ready),.v (.bool x.revoked),.v (.int .i64 x.used)]
abbrev Llv(x:Lfi):List D:=[.v (.int .i64 x.Step),.v (.int .i64 x.Why)]
abbrev Llw(x:Lfj):List D:=[.v (.string ⟨x.Join.Key.toArray⟩),.v (.string ⟨x.Join.By.toArray⟩),Sl eS x.Join.Tags,.v (.int .i64 x.Join.Until),.v (.int .i64 x.Join.Left),.v (.bool x.Join.Ready),.v (.bool x.revoked),.v (.int .i64 x.used)]
abbrev Llx(x:Lfk):List D:=[.v (.string ⟨x.Public.toArray⟩),.v (.int .i64 x.From),.v (.int .i64 x.To)]
abbrev arX(l0:List (Nat×Lfg))(l1:List (Nat×(List Lfk)))(l2:List (Nat×Lfc))(l3:List (Nat×Lfj))(l4:List (Nat×Str)):List Ar:=arG (fB 215 Llu) l0++(arG (fR 107 3 Llx) l1++(arG (fB 77 Llr) l2++(arG (fB 227 Llw) l3++(arG (fB 9 eS) l4))))
abbrev mObH(m:List (Str×Nat)):Ob:=mOb kS false (eH (some 0)) m
abbrev mObM(m:List (Str×Lfc)):Ob:=mOb kS true Llr m
abbrev mObT(m:List (Str×Tl Lfd)):Ob:=mOb kS false (eT 233 11 Lls) m
abbrev mObB(m:List (Str×Bool)):Ob:=mOb kS false eB m
abbrev mObV(m:List (Str×Vl)):Ob:=mOb kS false (eV 107 3) m
abbrev fM(m:Lfc):List G:=[S m.Node,S m.User,S m.Name,S m.Public,.d (Sl eS m.Tags),I m.Joined,I m.Expires,B m.Approved]
abbrev rO{α:Type}(t:TypeId)(z:Nat)(e:α→List D)(l:List α):Ob:=.row t z l.length (l.flatMap e)
abbrev fS(s:Ley):List G:=[I s.At,S s.Server,I s.No,I s.Kind,S s.By,S s.Node,S s.Join,S s.Public,S s.Name,.d (Sl eS s.Tags),I s.Until,I s.Uses,B s.Ready]
abbrev fD(d:Lex):List G:=[.d (Sl eS d.Users),.d (Sl Lll d.Owners),I d.Life,B d.Approve]
abbrev fQ(s:Lev):List G:=[.d (Sl (eN .i64) s.L),I s.v_at]
abbrev bg(al:BagT):Ob:=.bag al.1 (arX al.2.1 al.2.2.1 al.2.2.2.1 al.2.2.2.2.1 al.2.2.2.2.2) []
abbrev fW(d:Lex)(a b c e:Nat):List G:=[.d (Sl eS d.Users),.d (Sl Lll d.Owners),I d.Life,B d.Approve,.map a,.map b,.map c,.map e]
abbrev bH(h:Lfh)(a b c e:Nat):Ob:=.box 220 (fW h.d a b c e)
abbrev bN(h:Lfe)(a b c e:Nat):Ob:=.box 206 (fW h.d a b c e)
abbrev oH(h:Lfh)(a b c e:Nat)(l:List Ob):List Ob:=mObH h.keys::mObH h.nodes::mObB h.ever::mObV h.History::bH h a b c e::l
abbrev oN(h:Lfe)(a b c e:Nat)(l:List Ob):List Ob:=mObB h.users::mObH h.passes::mObM h.there::mObT h.story::bN h a b c e::l
abbrev bZ:Ob:=.box 37 [I 0,S [],I 0,I 0,S [],S [],S [],S [],S [],.d (Sl eS []),I 0,I 0,B false]
theorem Lnq:KeyP Tryz.prog 150 (kD Llq):=Klg hΓ [150] Llq (show Γ 150=some ⟨.struct _,_,_,_⟩ from rfl) (by kernel_rfl) (fun _=>rfl) (fun _=>rfl) (fun a b=>by
  show some (((a.server==b.server)&&((a.no==b.no)&&true)))=some (a==b)
  refine congrArg some ?_
  rw[Bool.eq_iff_iff]
  cases a;cases b;simp[Bool.and_eq_true]) (fun a b h=>by simpa using h) (fun a=>by simp) (fun a=>by simp[Instr.sameBits,kD,Llq,Klc])
theorem Lly{x:Int}{n:Int}{r:Int}(h:Lfl x n=some r):Pure Tryz.prog 101 [I x,I n] (I r):=by
 unfold Lfl at h
 refine QP Tryz.func101 E E E<|gA 12 E<|jC E h (fun h1=>?_) fun h2=>bK h2 fun y3 hy3 h4=>gA 6 E<|eo_o E (Kea hy3 E E)<|bK h4 fun q5 hq5 h6=>gO 10 E<|Kgp [(0,I q5)] [] ?_ ?_
 ·exact gA 7 E<|oSi h1▸gP E E
 ·refine jC E hq5 (fun h7=>?_) fun h8=>gA 1 E<|oSi h8▸⟨⟨E,tV⟩,[],E,.inl E⟩
  exact gA 6 E<|oSi h7▸⟨⟨E,tV⟩,[],E,.inl E⟩
 exact gA 8 E<|oSi h6▸gP E E
theorem Llz{s:Lev}{n:Int}{r:Int×Lev}(h:Lfm s n=some r):EC Tryz.prog 26 [.ptr 0 0,I n] [.box 25 (fQ s)] fun g hp'=>g=I r.1∧hp'=[.box 25 (fQ r.2)]:=by
 unfold Lfm at h
 refine QN Tryz.func26 E Z<|gA 14 E<|Kqk hΓ E E E E E E E E Z<|Kdx [.box 25 [.d (Sl (eN .i64) s.L),I (wi (s.v_at+1))]] E<|gO 13 E<|jC E h (fun h1=>?_) fun h4=>gA 3 E<|jD<|bK h4 fun y5 hy5 h6=>gA 10 E<|gl_o E (Kea hy5 E E)<|Kcg hΓ 4 E<|jD<|bK h6 fun y7 hy7 h8=>gA 10 E<|gl_o E (Kdz hy7 E E)<|bK h8 fun x9 hx9 h10=>Kcg hΓ 10 E<|eo_o E (Kcz hΓ (enc:=(eN .i64)) hx9 E E E E E (fun _=>E))<|bK h10 fun y11 hy11 h12=>gO 1 E<|Kdq C (Lly hy11) E Z E E E E E<|bK h12 fun y13 hy13 h14=>gO 6 E<|Kdq C (Lly hy13) E Z E E E E E<|gO 4 E<|oSi h14▸Kec hΓ [] (.inr E) E E E E (.inl E)
 exact bK h1 fun y2 hy2 h3=>gA 8 E<|Kdq C (Lly hy2) E Z E E E E E<|gO 5 E<|oSi h3▸Kec hΓ [] (.inr E) E E E E (.inl E)
theorem Lma{s:Lev}{low:Int}{high:Int}{r:Int×Lev}(h:Lfn s low high=some r):EC Tryz.prog 11 [.ptr 0 0,I low,I high] [.box 25 (fQ s)] fun g hp'=>g=I r.1∧hp'=[.box 25 (fQ r.2)]:=by
 unfold Lfn at h
 refine QN Tryz.func11 E Z<|gA 13 E<|jC E h (fun h1=>?_) fun h2=>bK h2 fun y3 hy3 h4=>gA 10 E<|Kdp [0] (I y3.1) [.box 25 (fQ y3.2)] C (Llz hy3) E Z E E E E E E E E E E<|gO 5 E<|oSi h4▸Kec hΓ [] (.inr E) E E E E (.inl E)
 exact gA 8 E<|oSi h1▸Kec hΓ [] (.inr E) E E E E (.inl E)
theorem Lmb{s:Lev}{l:List Int}{r:Int×Lev}(h:Lfo s l=some r):EC Tryz.prog 13 [.ptr 0 0,.d (Sl (eN .i64) l)] [.box 25 (fQ s)] fun g hp'=>g=I r.1∧hp'=[.box 25 (fQ r.2)]:=by
 unfold Lfo at h
 exact QN Tryz.func13 E Z<|bK h fun y1 hy1 h2=>gA 11 E<|Kdp [0] (I y1.1) [.box 25 (fQ y1.2)] C (Llz hy1) E Z E E E E E E E E E E<|bK h2 fun x3 hx3 h4=>eo_o E (Kcz hΓ (enc:=(eN .i64)) hx3 E E E E E (fun _=>E))<|gO 5 E<|oSi h4▸Kec hΓ [] (.inr E) E E E E (.inl E)
theorem Lmc{s:Lev}{n:Int}{r:Bool×Lev}(h:Lfp s n=some r):EC Tryz.prog 24 [.ptr 0 0,I n] [.box 25 (fQ s)] fun g hp'=>g=B r.1∧hp'=[.box 25 (fQ r.2)]:=by
 unfold Lfp at h
 exact QN Tryz.func24 E Z<|bK h fun y1 hy1 h2=>gA 9 E<|Kdp [0] (I y1.1) [.box 25 (fQ y1.2)] C (Llz hy1) E Z E E E E E E E E E E<|gO 5 E<|oSi h2▸Kec hΓ [] (.inr E) E E E E (.inl E)
theorem Lmd{s:Lev}{r:Lex×Lev}(h:Lfq s=some r):EC Tryz.prog 187 [.ptr 0 0] [.box 25 (fQ s)] fun g hp'=>g=.agg [.sl 1 r.1.Users.length,.sl 2 r.1.Owners.length,I r.1.Life,B r.1.Approve]∧hp'=[.box 25 (fQ r.2),rO 9 1 eS r.1.Users,rO 155 2 Lll r.1.Owners]:=by
 unfold Lfq at h
 exact QM Tryz.func187 E Z<|gA 2 E<|Kqf hΓ E E E Z<|gO 3 E<|bK h fun y1 hy1 h2=>bK h2 fun x3 hx3 h4=>bK h4 fun y5 hy5 h6=>bK h6 fun x7 hx7 h8=>bK h8 fun y9 hy9 h10=>bK h10 fun y11 hy11 h12=>Kmb hΓ [] [] [0,5,13,17,20,22,24] [] [⟨1,[],.d (Sl eS [[97,110,110],[98,111,98]]),none⟩,⟨2,[],.d (Sl eS [[98,111,98]]),none⟩,⟨3,[(4,.d (Sl eS [[97,110,110],[98,111,98]])),(5,.d (Sl eS [[98,111,98]]))],.d (Sl (eL eS) [[[97,110,110],[98,111,98]],[[98,111,98]],[]]),none⟩,⟨5,[(7,.ptr 0 0)],I y1.1,some (0,.box 25 (fQ s),.box 25 (fQ y1.2))⟩,⟨6,[(6,.d (Sl (eL eS) [[[97,110,110],[98,111,98]],[[98,111,98]],[]])),(8,I y1.1)],.rp [Sl eS x3],none⟩,⟨9,[],.d (Sl eS [[97,110,110]]),none⟩,⟨10,[],.d (Sl eS [[97,110,110],[99,105,100]]),none⟩,⟨11,[(12,.d (Sl eS [[97,110,110]])),(13,.d (Sl eS [[97,110,110],[99,105,100]]))],.d (Sl (eL eS) [[[97,110,110]],[[97,110,110],[99,105,100]]]),none⟩,⟨13,[(15,.ptr 0 0)],I y5.1,some (0,.box 25 (fQ y1.2),.box 25 (fQ y5.2))⟩,⟨14,[(14,.d (Sl (eL eS) [[[97,110,110]],[[97,110,110],[99,105,100]]])),(16,I y5.1)],.rp [Sl eS x7],none⟩,⟨19,[],.d (Sl (eN .i64) [20,60,100,1000]),none⟩,⟨20,[(21,.ptr 0 0),(22,.d (Sl (eN .i64) [20,60,100,1000]))],I y9.1,some (0,.box 25 (fQ y5.2),.box 25 (fQ y9.2))⟩,⟨22,[(24,.ptr 0 0)],B y11.1,some (0,.box 25 (fQ y9.2),.box 25 (fQ y11.2))⟩] [([0,1,2,3],[0,1,2,3]),([0,1,2,3],[0,1,2,3]),([0,1,2,3],[0,1,2,3]),([0,1,2,3],[0,1,2,3]),([0,1,2,3],[0,1,2,3]),([0,1,2,3],[0,1,2,3]),([0,1,2,3],[0,1,2,3]),([0,1,2,3],[0,1,2,3]),([0,1,2,3],[0,1,2,3]),([0,1,3,2],[0,1,3,2]),([0,1,3,2],[0,1,3,2]),([0,1,3,2],[0,1,3,2]),([0,1,2,3],[0,1,2,3]),([0,1,2,3],[0,1,2,3]),([0,1,3,2],[0,1,3,2]),([0,1,3,2],[0,1,3,2]),([0,1,2,3],[0,1,2,3]),([0,1,3,2],[0,1,3,2])] [(2,.ptr 1 0)] [.box 25 (fQ y11.2),.box 29 [.sl 2 [[97,110,110],[98,111,98],[99,105,100]].length,.sl 3 [(⟨[100,98],x3⟩:Lew),(⟨[119,101,98],x7⟩:Lew)].length,I y9.1,B y11.1],rO 9 1 eS [[97,110,110],[98,111,98],[99,105,100]],rO 155 2 Lll [(⟨[100,98],x3⟩:Lew),(⟨[119,101,98],x7⟩:Lew)]] hmix (by kernel_rfl) (by kernel_rfl) (Klq ⟨Kmg hΓ (enc:=eS) [[97,110,110],[98,111,98]] E E E E E E E E E E E E E E,Kmg hΓ (enc:=eS) [[98,111,98]] E E E E E E E E E E E E E E,Kmg hΓ (enc:=(eL eS)) [[[97,110,110],[98,111,98]],[[98,111,98]],[]] E E E E E E E E E E E E E E,Kmf 0 E E E C (Llz hy1) E E (fun _=>E) (fun _=>E) E E (fun _=>E) (fun _=>E),Kmd E E E (fun hp=>Kcz hΓ (enc:=(eL eS)) hx3 E E E E E (fun _=>E)),Kmg hΓ (enc:=eS) [[97,110,110]] E E E E E E E E E E E E E E,Kmg hΓ (enc:=eS) [[97,110,110],[99,105,100]] E E E E E E E E E E E E E E,Kmg hΓ (enc:=(eL eS)) [[[97,110,110]],[[97,110,110],[99,105,100]]] E E E E E E E E E E E E E E,Kmf 0 E E E C (Llz hy5) E E (fun _=>E) (fun _=>E) E E (fun _=>E) (fun _=>E),Kmd E E E (fun hp=>Kcz hΓ (enc:=(eL eS)) hx7 E E E E E (fun _=>E)),Kmg hΓ (enc:=(eN .i64)) [20,60,100,1000] E E E E E E E E E E E E E E,Kmf 0 E E E C (Lmb hy9) E E (fun _=>E) (fun _=>E) E E (fun _=>E) (fun _=>E),Kmf 0 E E E C (Lmc hy11) E E (fun _=>E) (fun _=>E) E E (fun _=>E) (fun _=>E),tV⟩) trivial Z<|gA 2 E<|Kjc Z<|Kgn 1 4 [.box 25 (fQ y11.2),.dead,rO 9 1 eS [[97,110,110],[98,111,98],[99,105,100]],rO 155 2 Lll [(⟨[100,98],x3⟩:Lew),(⟨[119,101,98],x7⟩:Lew)],.box 29 [.sl 2 [[97,110,110],[98,111,98],[99,105,100]].length,.sl 3 [(⟨[100,98],x3⟩:Lew),(⟨[119,101,98],x7⟩:Lew)].length,I y9.1,B y11.1]] E E E E E E<|Kgn 2 1 [.box 25 (fQ y11.2),rO 9 1 eS [[97,110,110],[98,111,98],[99,105,100]],.dead,rO 155 2 Lll [(⟨[100,98],x3⟩:Lew),(⟨[119,101,98],x7⟩:Lew)],.box 29 [.sl 1 [[97,110,110],[98,111,98],[99,105,100]].length,.sl 3 [(⟨[100,98],x3⟩:Lew),(⟨[119,101,98],x7⟩:Lew)].length,I y9.1,B y11.1]] E E E E E E<|Kgn 3 2 [.box 25 (fQ y11.2),rO 9 1 eS [[97,110,110],[98,111,98],[99,105,100]],rO 155 2 Lll [(⟨[100,98],x3⟩:Lew),(⟨[119,101,98],x7⟩:Lew)],.dead,.box 29 [.sl 1 [[97,110,110],[98,111,98],[99,105,100]].length,.sl 2 [(⟨[100,98],x3⟩:Lew),(⟨[119,101,98],x7⟩:Lew)].length,I y9.1,B y11.1]] E E E E E E<|Kgk<|oSi h12▸Kec hΓ [_,_] (.inr E) E E E E (.inr ⟨HB.mk E,E⟩)
theorem Lme{s:Lev}{l:List Str}{r:Str×Lev}(h:Lfr s l=some r):EC Tryz.prog 22 [.ptr 0 0,.d (Sl eS l)] [.box 25 (fQ s)] fun g hp'=>g=S r.1∧hp'=[.box 25 (fQ r.2)]:=by
 unfold Lfr at h
 exact QN Tryz.func22 E Z<|bK h fun y1 hy1 h2=>gA 11 E<|Kdp [0] (I y1.1) [.box 25 (fQ y1.2)] C (Llz hy1) E Z E E E E E E E E E E<|bK h2 fun x3 hx3 h4=>eo_o E (Kcz hΓ (enc:=eS) hx3 E E E E E (fun _=>E))<|gO 5 E<|oSi h4▸Kec hΓ [] (.inr E) E E E E (.inl E)
theorem Lmf{s:Lev}{r:Lex×Lev}(h:Lfs s=some r):EC Tryz.prog 83 [.ptr 0 0] [.box 25 (fQ s)] fun g hp'=>g=.agg (fD r.1)∧hp'=[.box 25 (fQ r.2)]:=by
 unfold Lfs at h
 refine QN Tryz.func83 E Z<|gA 2 E<|Kqf hΓ E E E Z<|bK h fun y1 hy1 h2=>gO 5 E<|Kdp [0] (.agg [.sl 2 y1.1.Users.length,.sl 3 y1.1.Owners.length,I y1.1.Life,B y1.1.Approve]) [.box 25 (fQ y1.2),.box 29 [.d (Sl eS []),.d (Sl Lll []),I 0,B false],rO 9 1 eS y1.1.Users,rO 155 2 Lll y1.1.Owners] C (Lmd hy1) E Z E E E E E E E E E E<|Kqf hΓ E E E Z<|Kqk hΓ E E E E E E E E Z<|Kdx [.box 25 (fQ y1.2),.box 29 [.d (Sl eS []),.d (Sl Lll []),I 0,B false],rO 9 1 eS y1.1.Users,rO 155 2 Lll y1.1.Owners,.box 29 [.sl 2 y1.1.Users.length,.sl 3 y1.1.Owners.length,I y1.1.Life,B y1.1.Approve]] E<|bK h2 fun y3 hy3 h4=>gO 6 E<|Kdp [0] (B y3.1) [.box 25 (fQ y3.2),.box 29 [.d (Sl eS []),.d (Sl Lll []),I 0,B false],rO 9 1 eS y1.1.Users,rO 155 2 Lll y1.1.Owners,.box 29 [.sl 2 y1.1.Users.length,.sl 3 y1.1.Owners.length,I y1.1.Life,B y1.1.Approve]] C (Lmc hy3) E Z E E E E E E E E E E<|bK h4 fun q5 hq5 h6=>gO 2 E<|Kgq [(2,.ptr 1 0),(3,.ptr 4 0)] [.box 25 (fQ q5.1),.box 29 [.d (Sl eS []),.d (Sl Lll []),I 0,B false],rO 9 1 eS q5.2.1,rO 155 2 Lll q5.2.2.1,.box 29 [.sl 2 q5.2.1.length,.sl 3 q5.2.2.1.length,I q5.2.2.2,B y1.1.Approve]] ?_ ?_
 ·refine jC E hq5 (fun h7=>?_) fun h33=>gA 1 E<|Kgk<|oSi h33▸⟨⟨E,E,tV⟩,[],E,.inl E⟩
  refine bK h7 fun y8 hy8 h9=>gA 3 E<|Kdp [0] (I y8.1) [.box 25 (fQ y8.2),.box 29 [.d (Sl eS []),.d (Sl Lll []),I 0,B false],rO 9 1 eS y1.1.Users,rO 155 2 Lll y1.1.Owners,.box 29 [.sl 2 y1.1.Users.length,.sl 3 y1.1.Owners.length,I y1.1.Life,B y1.1.Approve]] C (Llz hy8) E Z E E E E E E E E E E<|gO 9 E<|jC E h9 (fun h10=>?_) fun h15=>gA 6 E<|jC E h15 (fun h16=>?_) fun h23=>?_
  ·exact Kfl [.dead,.dead,.dead,.dead,.box 29 [.sl 2 y1.1.Users.length,.sl 3 y1.1.Owners.length,I y1.1.Life,B y1.1.Approve]] [1] [4,6,8] [6,8] hmix (by kernel_rfl) (by kernel_rfl) ⟨E,tV⟩ Z<|go_E hΓ 3 E<|Kgc hΓ (enc:=eS) [[],[97,110,110],[65]] E E E E E E E E E E E E<|bK h10 fun y11 hy11 h12=>ge_h [.box 25 (fQ y11.2),.box 29 [.d (Sl eS []),.d (Sl Lll []),I 0,B false],rO 9 1 eS y1.1.Users,rO 155 2 Lll y1.1.Owners,.box 29 [.sl 2 y1.1.Users.length,.sl 3 y1.1.Owners.length,I y1.1.Life,B y1.1.Approve]] E E E (Kfv ⟨E,tV⟩) (Kga [0] (S y11.1) [.box 25 (fQ y11.2),.box 29 [.d (Sl eS []),.d (Sl Lll []),I 0,B false],rO 9 1 eS y1.1.Users,rO 155 2 Lll y1.1.Owners,.box 29 [.sl 2 y1.1.Users.length,.sl 3 y1.1.Owners.length,I y1.1.Life,B y1.1.Approve]] C (Lme hy11) E E E E E E E E E E)<|Kgc hΓ (enc:=eS) [y11.1] E E E E E E E E E E E E<|bK h12 fun y13 hy13 h14=>ge_h [.box 25 (fQ y11.2),.box 29 [.d (Sl eS []),.d (Sl Lll []),I 0,B false],.dead,rO 155 2 Lll y1.1.Owners,.box 29 [.junk,.sl 3 y1.1.Owners.length,I y1.1.Life,B y1.1.Approve],rO 9 1 eS y13] E E E (Kfu E) (Kfy (Khk 2 (Kfd hΓ (enc:=eS) (id:=2) (h2:=show Γ 9=some ⟨_,1,_,_⟩ from E) hy13 E E E E E E E E (fun _=>E) E)))<|go_E hΓ 1 E<|Kft [.box 25 (fQ y11.2),.box 29 [.d (Sl eS []),.d (Sl Lll []),I 0,B false],.dead,rO 155 2 Lll y1.1.Owners,.box 29 [.sl 5 y13.length,.sl 3 y1.1.Owners.length,I y1.1.Life,B y1.1.Approve],rO 9 1 eS y13] E E (Kfu E) (Kfz (Khb hΓ E E E E E E E E E))<|Kfn<|gA 1 E<|Kgn 5 2 [.box 25 (fQ y11.2),.box 29 [.d (Sl eS []),.d (Sl Lll []),I 0,B false],rO 9 1 eS y13,rO 155 2 Lll y1.1.Owners,.box 29 [.sl 2 y13.length,.sl 3 y1.1.Owners.length,I y1.1.Life,B y1.1.Approve],.dead] E E E E E E<|Kgk<|oSi h14▸⟨⟨E,E,tV⟩,[_],E,.inr ⟨HB.mk E,FB.mk E,Z⟩⟩
  ·exact Kfl [.dead,.dead,.dead,.dead,.box 29 [.sl 2 y1.1.Users.length,.sl 3 y1.1.Owners.length,I y1.1.Life,B y1.1.Approve]] [1] [4,7,11,13] [11,13] hmix (by kernel_rfl) (by kernel_rfl) ⟨E,tV⟩ Z<|go_E hΓ 3 E<|Kgc hΓ (enc:=eS) [[],[100,98],[122,122]] E E E E E E E E E E E E<|bK h16 fun y17 hy17 h18=>ge_h [.box 25 (fQ y17.2),.box 29 [.d (Sl eS []),.d (Sl Lll []),I 0,B false],rO 9 1 eS y1.1.Users,rO 155 2 Lll y1.1.Owners,.box 29 [.sl 2 y1.1.Users.length,.sl 3 y1.1.Owners.length,I y1.1.Life,B y1.1.Approve]] E E E (Kfv ⟨E,tV⟩) (Kga [0] (S y17.1) [.box 25 (fQ y17.2),.box 29 [.d (Sl eS []),.d (Sl Lll []),I 0,B false],rO 9 1 eS y1.1.Users,rO 155 2 Lll y1.1.Owners,.box 29 [.sl 2 y1.1.Users.length,.sl 3 y1.1.Owners.length,I y1.1.Life,B y1.1.Approve]] C (Lme hy17) E E E E E E E E E E)<|go_E hΓ 1 E<|Kgc hΓ (enc:=eS) [[97,110,110],[110,111,110,101]] E E E E E E E E E E E E<|bK h18 fun y19 hy19 h20=>ge_h [.box 25 (fQ y19.2),.box 29 [.d (Sl eS []),.d (Sl Lll []),I 0,B false],rO 9 1 eS y1.1.Users,rO 155 2 Lll y1.1.Owners,.box 29 [.sl 2 y1.1.Users.length,.sl 3 y1.1.Owners.length,I y1.1.Life,B y1.1.Approve]] E E E (Kfv ⟨E,tV⟩) (Kga [0] (S y19.1) [.box 25 (fQ y19.2),.box 29 [.d (Sl eS []),.d (Sl Lll []),I 0,B false],rO 9 1 eS y1.1.Users,rO 155 2 Lll y1.1.Owners,.box 29 [.sl 2 y1.1.Users.length,.sl 3 y1.1.Owners.length,I y1.1.Life,B y1.1.Approve]] C (Lme hy19) E E E E E E E E E E)<|Kgc hΓ (enc:=eS) [y19.1] E E E E E E E E E E E E<|ge_q E (.inl E) (fun _ _=>Kfo (qt_p (Kgf hΓ (gs:=[S y17.1,.d (Sl eS [y19.1])]) E E E E E E)))<|Kgc hΓ (enc:=Lll) [(⟨y17.1,[y19.1]⟩:Lew)] E E E E E E E E E E E E<|bK h20 fun y21 hy21 h22=>ge_h [.box 25 (fQ y19.2),.box 29 [.d (Sl eS []),.d (Sl Lll []),I 0,B false],rO 9 1 eS y1.1.Users,.dead,.box 29 [.sl 2 y1.1.Users.length,.junk,I y1.1.Life,B y1.1.Approve],rO 155 2 Lll y21] E E E (Kfu E) (Kfy (Khk 3 (Kfd hΓ (enc:=Lll) (id:=3) (h2:=show Γ 155=some ⟨_,2,_,_⟩ from E) hy21 E E E E E E E E (fun _=>E) E)))<|go_E hΓ 1 E<|Kft [.box 25 (fQ y19.2),.box 29 [.d (Sl eS []),.d (Sl Lll []),I 0,B false],rO 9 1 eS y1.1.Users,.dead,.box 29 [.sl 2 y1.1.Users.length,.sl 5 y21.length,I y1.1.Life,B y1.1.Approve],rO 155 2 Lll y21] E E (Kfu E) (Kfz (Khb hΓ E E E E E E E E E))<|Kfn<|gA 1 E<|Kgn 5 3 [.box 25 (fQ y19.2),.box 29 [.d (Sl eS []),.d (Sl Lll []),I 0,B false],rO 9 1 eS y1.1.Users,rO 155 2 Lll y21,.box 29 [.sl 2 y1.1.Users.length,.sl 3 y21.length,I y1.1.Life,B y1.1.Approve],.dead] E E E E E E<|Kgk<|oSi h22▸⟨⟨E,E,tV⟩,[_],E,.inr ⟨HB.mk E,FB.mk E,Z⟩⟩
  refine gA 6 E<|jC E h23 (fun h24=>?_) fun h30=>gA 2 E<|Kdk hΓ (enc:=(eN .i64)) [0,345686400,345686401] E E E E E E E E E E E E Z<|bK h30 fun y31 hy31 h32=>Kdp [0] (I y31.1) [.box 25 (fQ y31.2),.box 29 [.d (Sl eS []),.d (Sl Lll []),I 0,B false],rO 9 1 eS y1.1.Users,rO 155 2 Lll y1.1.Owners,.box 29 [.sl 2 y1.1.Users.length,.sl 3 y1.1.Owners.length,I y1.1.Life,B y1.1.Approve]] C (Lmb hy31) E Z E E E E E E E E E E<|gO 1 E<|Kqk hΓ E E E E E E E E Z<|Kdx [.box 25 (fQ y31.2),.box 29 [.d (Sl eS []),.d (Sl Lll []),I 0,B false],rO 9 1 eS y1.1.Users,rO 155 2 Lll y1.1.Owners,.box 29 [.sl 2 y1.1.Users.length,.sl 3 y1.1.Owners.length,I y31.1,B y1.1.Approve]] E<|gO 2 E<|Kgk<|oSi h32▸⟨⟨E,E,tV⟩,[],E,.inl E⟩
  refine Kfl [.dead,.dead,.dead,.dead,.box 29 [.sl 2 y1.1.Users.length,.sl 3 y1.1.Owners.length,I y1.1.Life,B y1.1.Approve]] [1] [4,8] [] hmix (by kernel_rfl) (by kernel_rfl) ⟨E,tV⟩ Z<|go_E hΓ 3 E<|Kgc hΓ (enc:=eS) [[97,110,110],[98,111,98]] E E E E E E E E E E E E<|bK h24 fun y25 hy25 h26=>ge_h [.box 25 (fQ y25.2),.box 29 [.d (Sl eS []),.d (Sl Lll []),I 0,B false],rO 9 1 eS y1.1.Users,rO 155 2 Lll y1.1.Owners,.box 29 [.sl 2 y1.1.Users.length,.sl 3 y1.1.Owners.length,I y1.1.Life,B y1.1.Approve]] E E E (Kfv ⟨E,tV⟩) (Kga [0] (S y25.1) [.box 25 (fQ y25.2),.box 29 [.d (Sl eS []),.d (Sl Lll []),I 0,B false],rO 9 1 eS y1.1.Users,rO 155 2 Lll y1.1.Owners,.box 29 [.sl 2 y1.1.Users.length,.sl 3 y1.1.Owners.length,I y1.1.Life,B y1.1.Approve]] C (Lme hy25) E E E E E E E E E E)<|Kgc hΓ (enc:=eS) [[98,111,98],y25.1] E E E E E E E E E E E E<|bK h26 fun x27 hx27 h28=>?_
  have hj29:=Keh hx27
  refine ge_q E (.inl E) (fun _ _=>Kfo (qt_p (Kdb hΓ hx27 E E E E E E)))<|go_E hΓ 1 E<|Kft [.box 25 (fQ y25.2),.box 29 [.d (Sl eS []),.d (Sl Lll []),I 0,B false],rO 9 1 eS y1.1.Users,rO 155 2 Lll (y1.1.Owners.set ((0:Int).toNat) (⟨x27.Tag,[[98,111,98],y25.1]⟩:Lew)),.box 29 [.sl 2 y1.1.Users.length,.sl 3 y1.1.Owners.length,I y1.1.Life,B y1.1.Approve]] E E (Kfv ⟨E,tV⟩) (Kfz (Kig hΓ (enc:=Lll) (z':=(⟨x27.Tag,[[98,111,98],y25.1]⟩:Lew)) ((0:Int).toNat) 1 hj29 E E E E (fun _=>E) E E E E E E E))<|Kfn<|gA 1 E<|Kjo [.box 25 (fQ y25.2),.box 29 [.d (Sl eS []),.d (Sl Lll []),I 0,B false],rO 9 1 eS y1.1.Users,rO 155 2 Lll (y1.1.Owners.set ((0:Int).toNat) (⟨x27.Tag,[[98,111,98],y25.1]⟩:Lew)),.box 29 [.sl 2 y1.1.Users.length,.sl 3 (y1.1.Owners.set ((0:Int).toNat) (⟨x27.Tag,[[98,111,98],y25.1]⟩:Lew)).length,I y1.1.Life,B y1.1.Approve]] (by simp only[List.length_set]) ?_
  exact Kgk<|oSi h28▸⟨⟨E,E,tV⟩,[],E,.inl E⟩
 exact gA 4 E<|Kdv 2 [49] _ [.box 25 (fQ q5.1),.box 29 [.d (Sl eS []),.d (Sl Lll []),I 0,B false],.dead,rO 155 2 Lll q5.2.2.1,.box 29 [.d (Sl eS q5.2.1),.sl 3 q5.2.2.1.length,I q5.2.2.2,B y1.1.Approve]] E E E Z<|Kdv 3 [49] _ [.box 25 (fQ q5.1),.box 29 [.d (Sl eS []),.d (Sl Lll []),I 0,B false],.dead,.dead,.box 29 [.d (Sl eS q5.2.1),.d (Sl Lll q5.2.2.1),I q5.2.2.2,B y1.1.Approve]] E E E Z<|Kqk hΓ E E E E E E E E Z<|Kdx [.box 25 (fQ q5.1),.box 29 [.d (Sl eS q5.2.1),.d (Sl Lll q5.2.2.1),I q5.2.2.2,B y1.1.Approve],.dead,.dead,.box 29 [.d (Sl eS q5.2.1),.d (Sl Lll q5.2.2.1),I q5.2.2.2,B y1.1.Approve]] E<|gO 3 E<|oSi h6▸Kec hΓ [_,_,_,_] (.inr E) E E E E (.inr ⟨HB.mk E,E⟩)
theorem Lmg{s:Lev}{r:Str×Lev}(h:Lft s=some r):EC Tryz.prog 21 [.ptr 0 0] [.box 25 (fQ s)] fun g hp'=>g=S r.1∧hp'=[.box 25 (fQ r.2)]:=by
 unfold Lft at h
 exact QN Tryz.func21 E Z<|gA 8 E<|Kdk hΓ (enc:=eS) [[97,110,110],[97,110,110],[97,110,110],[98,111,98],[99,105,100],[122,101,100]] E E E E E E E E E E E E Z<|bK h fun y1 hy1 h2=>Kdp [0] (S y1.1) [.box 25 (fQ y1.2)] C (Lme hy1) E Z E E E E E E E E E E<|gO 4 E<|oSi h2▸Kec hΓ [] (.inr E) E E E E (.inl E)
theorem Lmh{s:Lev}{r:(List Str)×Lev}(h:Lfu s=some r):EC Tryz.prog 84 [.ptr 0 0] [.box 25 (fQ s)] fun g hp'=>g=.d (Sl eS r.1)∧hp'=[.box 25 (fQ r.2)]:=by
 unfold Lfu at h
 exact QN Tryz.func84 E Z<|gA 7 E<|Kdk hΓ (enc:=eS) [[119,101,98]] E E E E E E E E E E E E Z<|Kdk hΓ (enc:=eS) [[119,101,98]] E E E E E E E E E E E E Z<|Kdk hΓ (enc:=eS) [[100,98]] E E E E E E E E E E E E Z<|Kdk hΓ (enc:=eS) [[100,98],[119,101,98]] E E E E E E E E E E E E Z<|Kdk hΓ (enc:=eS) [[110,111,110,101]] E E E E E E E E E E E E Z<|Kdk hΓ (enc:=(eL eS)) [[],[[119,101,98]],[[119,101,98]],[[100,98]],[[100,98],[119,101,98]],[[110,111,110,101]]] E E E E E E E E E E E E Z<|bK h fun y1 hy1 h2=>gO 1 E<|Kdp [0] (I y1.1) [.box 25 (fQ y1.2)] C (Llz hy1) E Z E E E E E E E E E E<|bK h2 fun x3 hx3 h4=>eo_o E (Kcz hΓ (enc:=(eL eS)) hx3 E E E E E (fun _=>E))<|gO 5 E<|oSi h4▸Kec hΓ [] (.inr E) E E E E (.inl E)
theorem Lmi{s:Lev}{v_at:Int}{r:Ley×Lev}(h:Lfv s v_at=some r):EC Tryz.prog 12 [.ptr 0 0,I v_at] [.box 25 (fQ s)] fun g hp'=>g=.agg (fS r.1)∧hp'=[.box 25 (fQ r.2)]:=by
 unfold Lfv at h
 refine QN Tryz.func12 E Z<|gA 2 E<|Kqf hΓ E E E Z<|gO 6 E<|Kdk hΓ (enc:=eS) [[115,49],[115,49],[115,50]] E E E E E E E E E E E E Z<|bK h fun y1 hy1 h2=>Kdp [0] (S y1.1) [.box 25 (fQ y1.2),bZ] C (Lme hy1) E Z E E E E E E E E E E<|gO 1 E<|Kdk hΓ (enc:=(eN .i64)) [1,2,3,3,3,3,3,4,5,5,6,7,7,8,9] E E E E E E E E E E E E Z<|bK h2 fun y3 hy3 h4=>Kdp [0] (I y3.1) [.box 25 (fQ y3.2),bZ] C (Lmb hy3) E Z E E E E E E E E E E<|bK h4 fun y5 hy5 h6=>gO 1 E<|Kdp [0] (S y5.1) [.box 25 (fQ y5.2),bZ] C (Lmg hy5) E Z E E E E E E E E E E<|Kam hΓ (gs:=[I v_at,S y1.1,I 0,I y3.1,S y5.1,S [],S [],S [],S [],.d (Sl eS []),I 0,I 0,B false]) E E E E E E E<|Kqf hΓ E E E Z<|Kqk hΓ E E E E E E E E Z<|Kdx [.box 25 (fQ y5.2),bZ,.box 37 [I v_at,S y1.1,I 0,I y3.1,S y5.1,S [],S [],S [],S [],.d (Sl eS []),I 0,I 0,B false]] E<|gO 5 E<|Kdk hΓ (enc:=eS) [[110,97],[110,97],[110,98],[110,98],[110,99],[110,100]] E E E E E E E E E E E E Z<|bK h6 fun y7 hy7 h8=>Kdp [0] (S y7.1) [.box 25 (fQ y7.2),bZ,.box 37 [I v_at,S y1.1,I 0,I y3.1,S y5.1,S [],S [],S [],S [],.d (Sl eS []),I 0,I 0,B false]] C (Lme hy7) E Z E E E E E E E E E E<|gO 6 E<|Kdk hΓ (enc:=eS) [[107,49],[107,49],[107,50]] E E E E E E E E E E E E Z<|bK h8 fun y9 hy9 h10=>Kdp [0] (S y9.1) [.box 25 (fQ y9.2),bZ,.box 37 [I v_at,S y1.1,I 0,I y3.1,S y5.1,S [],S [],S [],S [],.d (Sl eS []),I 0,I 0,B false]] C (Lme hy9) E Z E E E E E E E E E E<|gO 6 E<|Kdk hΓ (enc:=eS) [[48,97],[48,98],[48,99],[48,100],[48,101],[49,97],[49,98]] E E E E E E E E E E E E Z<|bK h10 fun y11 hy11 h12=>Kdp [0] (S y11.1) [.box 25 (fQ y11.2),bZ,.box 37 [I v_at,S y1.1,I 0,I y3.1,S y5.1,S [],S [],S [],S [],.d (Sl eS []),I 0,I 0,B false]] C (Lme hy11) E Z E E E E E E E E E E<|bK h12 fun q13 hq13 h14=>gO 10 E<|Kgp [(4,.ptr 1 0),(5,.ptr 2 0)] [.box 25 (fQ q13.1),bZ,.box 37 (fS q13.2)] ?_ ?_
 ·refine gA 7 E<|jC E hq13 (fun h15=>?_) fun h24=>gA 6 E<|jC E h24 (fun h25=>?_) fun h26=>?_
  ·exact bK h15 fun y16 hy16 h17=>gA 3 E<|Kdp [0] (.d (Sl eS y16.1)) [.box 25 (fQ y16.2),bZ,.box 37 [I v_at,S y1.1,I 0,I y3.1,S y5.1,S [],S [],S [],S [],.d (Sl eS []),I 0,I 0,B false]] C (Lmh hy16) E Z E E E E E E E E E E<|gO 2 E<|Kdk hΓ (enc:=(eN .i64)) [0,5,50,200] E E E E E E E E E E E E Z<|bK h17 fun y18 hy18 h19=>Kdp [0] (I y18.1) [.box 25 (fQ y18.2),bZ,.box 37 [I v_at,S y1.1,I 0,I y3.1,S y5.1,S [],S [],S [],S [],.d (Sl eS []),I 0,I 0,B false]] C (Lmb hy18) E Z E E E E E E E E E E<|gO 2 E<|Kdk hΓ (enc:=(eN .i64)) [0,1,2,1000,1001] E E E E E E E E E E E E Z<|bK h19 fun y20 hy20 h21=>Kdp [0] (I y20.1) [.box 25 (fQ y20.2),bZ,.box 37 [I v_at,S y1.1,I 0,I y3.1,S y5.1,S [],S [],S [],S [],.d (Sl eS []),I 0,I 0,B false]] C (Lmb hy20) E Z E E E E E E E E E E<|bK h21 fun y22 hy22 h23=>gO 1 E<|Kdp [0] (B y22.1) [.box 25 (fQ y22.2),bZ,.box 37 [I v_at,S y1.1,I 0,I y3.1,S y5.1,S [],S [],S [],S [],.d (Sl eS []),I 0,I 0,B false]] C (Lmc hy22) E Z E E E E E E E E E E<|gO 1 E<|Kqk hΓ E E E E E E E E Z<|Kdx [.box 25 (fQ y22.2),bZ,.box 37 [I v_at,S y1.1,I 0,I y3.1,S y5.1,S [],S y9.1,S [],S [],.d (Sl eS []),I 0,I 0,B false]] E<|gO 1 E<|Kqk hΓ E E E E E E E E Z<|Kdx [.box 25 (fQ y22.2),bZ,.box 37 [I v_at,S y1.1,I 0,I y3.1,S y5.1,S [],S y9.1,S [],S [],.d (Sl eS y16.1),I 0,I 0,B false]] E<|gO 1 E<|Kqk hΓ E E E E E E E E Z<|Kdx [.box 25 (fQ y22.2),bZ,.box 37 [I v_at,S y1.1,I 0,I y3.1,S y5.1,S [],S y9.1,S [],S [],.d (Sl eS y16.1),I (wi (v_at+y18.1)),I 0,B false]] E<|gO 1 E<|Kqk hΓ E E E E E E E E Z<|Kdx [.box 25 (fQ y22.2),bZ,.box 37 [I v_at,S y1.1,I 0,I y3.1,S y5.1,S [],S y9.1,S [],S [],.d (Sl eS y16.1),I (wi (v_at+y18.1)),I y20.1,B false]] E<|gO 1 E<|Kqk hΓ E E E E E E E E Z<|Kdx [.box 25 (fQ y22.2),bZ,.box 37 [I v_at,S y1.1,I 0,I y3.1,S y5.1,S [],S y9.1,S [],S [],.d (Sl eS y16.1),I (wi (v_at+y18.1)),I y20.1,B y22.1]] E<|gO 2 E<|oSi h23▸⟨⟨E,E,tV⟩,[],E,.inl E⟩
  ·exact gA 3 E<|Kqk hΓ E E E E E E E E Z<|Kdx [.box 25 (fQ y11.2),bZ,.box 37 [I v_at,S y1.1,I 0,I y3.1,S y5.1,S [],S y9.1,S [],S [],.d (Sl eS []),I 0,I 0,B false]] E<|gO 2 E<|oSi h25▸⟨⟨E,E,tV⟩,[],E,.inl E⟩
  refine gA 6 E<|jC E h26 (fun h27=>?_) fun h38=>gA 6 E<|jC E h38 (fun h39=>?_) fun h40=>?_
  ·refine gA 6 E<|Kdk hΓ (enc:=eS) [y7.1,[98,111,120],[98,111,120],[119,101,98]] E E E E E E E E E E E E Z<|bK h27 fun y28 hy28 h29=>Kdp [0] (S y28.1) [.box 25 (fQ y28.2),bZ,.box 37 [I v_at,S y1.1,I 0,I y3.1,S y5.1,S [],S [],S [],S [],.d (Sl eS []),I 0,I 0,B false]] C (Lme hy28) E Z E E E E E E E E E E<|gO 1 E<|Kqk hΓ E E E E E E E E Z<|Kdx [.box 25 (fQ y28.2),bZ,.box 37 [I v_at,S y1.1,I 0,I y3.1,S y5.1,S y7.1,S [],S [],S [],.d (Sl eS []),I 0,I 0,B false]] E<|gO 1 E<|Kqk hΓ E E E E E E E E Z<|Kdx [.box 25 (fQ y28.2),bZ,.box 37 [I v_at,S y1.1,I 0,I y3.1,S y5.1,S y7.1,S [],S y11.1,S [],.d (Sl eS []),I 0,I 0,B false]] E<|gO 1 E<|Kqk hΓ E E E E E E E E Z<|Kdx [.box 25 (fQ y28.2),bZ,.box 37 [I v_at,S y1.1,I 0,I y3.1,S y5.1,S y7.1,S [],S y11.1,S y28.1,.d (Sl eS []),I 0,I 0,B false]] E<|bK h29 fun y30 hy30 h31=>gO 5 E<|Kdp [0] (B y30.1) [.box 25 (fQ y30.2),bZ,.box 37 [I v_at,S y1.1,I 0,I y3.1,S y5.1,S y7.1,S [],S y11.1,S y28.1,.d (Sl eS []),I 0,I 0,B false]] C (Lmc hy30) E Z E E E E E E E E E E<|gO 2 E<|jC E h31 (fun h32=>?_) fun h37=>gA 2 E<|oSi h37▸⟨⟨E,E,tV⟩,[],E,.inl E⟩
   refine gA 4 E<|Kqk hΓ E E E E E E E E Z<|Kdx [.box 25 (fQ y30.2),bZ,.box 37 [I v_at,S y1.1,I 0,I y3.1,S y5.1,S y7.1,S y9.1,S y11.1,S y28.1,.d (Sl eS []),I 0,I 0,B false]] E<|bK h32 fun y33 hy33 h34=>gO 5 E<|Kdp [0] (B y33.1) [.box 25 (fQ y33.2),bZ,.box 37 [I v_at,S y1.1,I 0,I y3.1,S y5.1,S y7.1,S y9.1,S y11.1,S y28.1,.d (Sl eS []),I 0,I 0,B false]] C (Lmc hy33) E Z E E E E E E E E E E<|gO 3 E<|jC E h34 (fun h35=>?_) fun h36=>gA 2 E<|oSi h36▸⟨⟨E,E,tV⟩,[],E,.inl E⟩
   exact gA 2 E<|Kqk hΓ E E E E E E E E Z<|Kdx [.box 25 (fQ y33.2),bZ,.box 37 [I v_at,S y1.1,I 0,I y3.1,S [],S y7.1,S y9.1,S y11.1,S y28.1,.d (Sl eS []),I 0,I 0,B false]] E<|gO 2 E<|oSi h35▸⟨⟨E,E,tV⟩,[],E,.inl E⟩
  ·exact gA 4 E<|Kqk hΓ E E E E E E E E Z<|Kdx [.box 25 (fQ y11.2),bZ,.box 37 [I v_at,S y1.1,I 0,I y3.1,S y5.1,S y7.1,S [],S [],S [],.d (Sl eS []),I 0,I 0,B false]] E<|gO 1 E<|Kqk hΓ E E E E E E E E Z<|Kdx [.box 25 (fQ y11.2),bZ,.box 37 [I v_at,S y1.1,I 0,I y3.1,S y5.1,S y7.1,S [],S y11.1,S [],.d (Sl eS []),I 0,I 0,B false]] E<|gO 2 E<|oSi h39▸⟨⟨E,E,tV⟩,[],E,.inl E⟩
  refine gA 6 E<|jC E h40 (fun h41=>?_) fun h44=>gA 6 E<|jC E h44 (fun h45=>?_) fun h48=>?_
  ·exact gA 3 E<|Kdk hΓ (enc:=eS) [[98,111,120],[119,101,98],[109,97,99]] E E E E E E E E E E E E Z<|bK h41 fun y42 hy42 h43=>Kdp [0] (S y42.1) [.box 25 (fQ y42.2),bZ,.box 37 [I v_at,S y1.1,I 0,I y3.1,S y5.1,S [],S [],S [],S [],.d (Sl eS []),I 0,I 0,B false]] C (Lme hy42) E Z E E E E E E E E E E<|gO 1 E<|Kqk hΓ E E E E E E E E Z<|Kdx [.box 25 (fQ y42.2),bZ,.box 37 [I v_at,S y1.1,I 0,I y3.1,S y5.1,S y7.1,S [],S [],S [],.d (Sl eS []),I 0,I 0,B false]] E<|gO 1 E<|Kqk hΓ E E E E E E E E Z<|Kdx [.box 25 (fQ y42.2),bZ,.box 37 [I v_at,S y1.1,I 0,I y3.1,S y5.1,S y7.1,S [],S [],S y42.1,.d (Sl eS []),I 0,I 0,B false]] E<|gO 2 E<|oSi h43▸⟨⟨E,E,tV⟩,[],E,.inl E⟩
  ·exact bK h45 fun y46 hy46 h47=>gA 3 E<|Kdp [0] (.d (Sl eS y46.1)) [.box 25 (fQ y46.2),bZ,.box 37 [I v_at,S y1.1,I 0,I y3.1,S y5.1,S [],S [],S [],S [],.d (Sl eS []),I 0,I 0,B false]] C (Lmh hy46) E Z E E E E E E E E E E<|gO 1 E<|Kqk hΓ E E E E E E E E Z<|Kdx [.box 25 (fQ y46.2),bZ,.box 37 [I v_at,S y1.1,I 0,I y3.1,S y5.1,S y7.1,S [],S [],S [],.d (Sl eS []),I 0,I 0,B false]] E<|gO 1 E<|Kqk hΓ E E E E E E E E Z<|Kdx [.box 25 (fQ y46.2),bZ,.box 37 [I v_at,S y1.1,I 0,I y3.1,S y5.1,S y7.1,S [],S [],S [],.d (Sl eS y46.1),I 0,I 0,B false]] E<|gO 2 E<|oSi h47▸⟨⟨E,E,tV⟩,[],E,.inl E⟩
  exact gA 3 E<|Kqk hΓ E E E E E E E E Z<|Kdx [.box 25 (fQ y11.2),bZ,.box 37 [I v_at,S y1.1,I 0,I y3.1,S y5.1,S y7.1,S [],S [],S [],.d (Sl eS []),I 0,I 0,B false]] E<|gO 2 E<|oSi h48▸⟨⟨E,E,tV⟩,[],E,.inl E⟩
 exact gA 4 E<|Kqk hΓ E E E E E E E E Z<|Kdx [.box 25 (fQ q13.1),.box 37 (fS q13.2),.box 37 (fS q13.2)] E<|gO 3 E<|oSi h14▸Kec hΓ [_,_] (.inr E) E E E E (.inr ⟨HB.mk E,E⟩)
theorem Lmj{x:Int}{r:Bool}(h:Lfw x=some r):Pure Tryz.prog 251 [I x] (B r):=by
 unfold Lfw at h
 exact QP Tryz.func251 E E E<|gA 14 E<|oSi h▸gP E E
theorem Lmk{x:Int}{y:Int}{r:Int}(h:Lfx x y=some r):Pure Tryz.prog 167 [I x,I y] (I r):=by
 unfold Lfx at h
 refine QP Tryz.func167 E E E<|bK h fun y1 hy1 h2=>gA 8 E<|Kdq C (Lmj hy1) E Z E E E E E<|bK h2 fun y3 hy3 h4=>gO 6 E<|Kdq C (Lmj hy3) E Z E E E E E<|gO 9 E<|jC E h4 (fun h5=>?_) fun h8=>gA 8 E<|jC E h8 (fun h9=>?_) fun h10=>?_
 ·refine gA 6 E<|jC E h5 (fun h6=>?_) fun h7=>gA 9 E<|oSi h7▸gP E E
  exact gA 8 E<|oSi h6▸gP E E
 ·exact gA 7 E<|oSi h9▸gP E E
 refine gA 10 E<|jC E h10 (fun h11=>?_) fun h12=>gA 10 E<|jC E h12 (fun h13=>?_) fun h14=>?_
 ·exact gA 7 E<|oSi h11▸gP E E
 ·exact gA 7 E<|oSi h13▸gP E E
 exact gA 8 E<|oSi h14▸gP E E
theorem Lml{vals:List Int}{r:Int}(h:Lfy vals=some r):Pure Tryz.prog 196 [.d (Sl (eN .i64) vals)] (I r):=by
 unfold Lfy at h
 refine QP Tryz.func196 E E E<|gA 18 E<|bK h fun q4 hq4 h5=>Kcy 6 E fun hb7=>Kgo (R:=fun a6=>q4=.go a6) (fun a6=>[(3,I 0)]) (fun a6=>[]) ?_ ?_
 ·refine gA 1 E<|Kcx vals hq4 (fun i1 s2=>[(3,I 0),(6,.d (Sl (eN .i64) vals)),(7,I (vals.length:Int)),(8,I (i1:Int))]) (fun s2=>[]) ⟨⟨E,E,E,E,tV⟩,[],E,.inl E⟩ (fun i1 x3 s2 y11 hx8 hlt hy9 hout10=>?_) (fun s2 hgo=>?_)
  ·refine gA 6 E<|Kcj E (dT (Int.ofNat_lt.2 hlt))<|gA 6 E<|eo_o E (Kcz hΓ (enc:=(eN .i64)) (Kcs hx8) E E E E E (fun _=>E))<|gO 11 E<|jC E hy9 (fun h12=>?_) fun h15=>gA 7 E ?_
   ·refine gA 9 E<|bK h12 fun v13 hv13 h14=>?_
    cases h14
    obtain rfl:=hout10 _ rfl
    cases h5
    exact gA 4 E<|oSi hv13▸gP E E
   cases h15
   exact⟨_,E,⟨⟨E,E,E,Kbp E (Kbo (nLl hlt hb7)),tV⟩,[],E,.inl E⟩⟩
  subst hgo
  exact gA 6 E<|Kck E (dF (Int.lt_irrefl _))<|gA 4 E<|⟨_,E,⟨⟨E,tV⟩,[],E,.inl E⟩⟩
 intro a6 ha
 subst ha
 replace h5:=Kgi h5
 exact gA 8 E<|oSi h5▸gP E E
theorem Lmm{a:Ley}{b:Ley}{r:Int}(h:Lfz a b=some r):Pure Tryz.prog 96 [.agg (fS a),.agg (fS b)] (I r):=by
 unfold Lfz at h
 exact QP Tryz.func96 E E E<|gA 2 E<|Kqg E E E E Z<|Kqg E E E E Z<|gO 4 E<|jD<|bK h fun y1 hy1 h2=>gA 4 E<|Kdr C (Lmk hy1) E E E E E E<|bK h2 fun y3 hy3 h4=>Kcg hΓ 4 E<|Kdr C (Lem hy3) E E E E E E<|bK h4 fun y5 hy5 h6=>Kcg hΓ 4 E<|Kdr C (Lmk hy5) E E E E E E<|Kdl hΓ (enc:=(eN .i64)) [y1,y3,y5] E E E E E E E E E E E E<|bK h6 fun y7 hy7 h8=>Kdr C (Lml hy7) E E E E E E<|Kcg hΓ 4 E<|oSi h8▸gP E E
theorem Lmn{k:Nat}{data:List Ley}{a:Int}{b:Int}{r:List Ley}(h:Lga k data a b=some r):EC Tryz.prog 280 [.sl 0 data.length,I a,I b,.fn (.func 96) [] []] [rO 37 13 Lln data] fun g hp'=>g=.tup []∧hp'=[rO 37 13 Lln r]:=by
 unfold Lga at h
 refine QN Tryz.func280 E Z<|gA 7 E<|bK h fun q4 hq4 h5=>Kgp [] [rO 37 13 Lln q4] ?_ ?_
 ·refine gA 1 E<|Kcv hq4 (fun s2=>[(0,.sl 0 s2.1.length),(1,I a),(2,I b),(3,.fn (.func 96) [] []),(8,I s2.2)]) (fun s2=>[rO 37 13 Lln s2.1]) ⟨⟨E,E,E,E,E,tV⟩,[],E,.inl E⟩ (fun s2 y10 hy8 hout9=>?_)
  refine gA 8 E<|jC E hy8 (fun h11=>?_) fun h51=>gA 4 E ?_
  ·refine gA 10 E<|bK h11 fun q15 hq15 h16=>Kgp [(0,.sl 0 q15.length),(1,I a),(2,I b),(3,.fn (.func 96) [] []),(8,I s2.2)] [rO 37 13 Lln q15] ?_ ?_
   ·refine gA 1 E<|Kcv hq15 (fun s13=>[(0,.sl 0 s13.1.length),(1,I a),(2,I b),(3,.fn (.func 96) [] []),(8,I s2.2),(9,I s13.2)]) (fun s13=>[rO 37 13 Lln s13.1]) ⟨⟨E,E,E,E,E,E,tV⟩,[],E,.inl E⟩ (fun s13 y21 hy19 hout20=>?_)
    refine bK hy19 fun q22 hq22 h23=>gA 2 E<|Kgp [(0,.sl 0 s13.1.length),(1,I a),(2,I b),(3,.fn (.func 96) [] []),(8,I s2.2),(9,I s13.2),(34,B q22)] [rO 37 13 Lln s13.1] ?_ ?_
    ·refine jD<|gA 4 E<|Kaw E E (fun hb=>?_) (fun hb=>?_)
     ·have h24:=cT hq22 hb
      refine bK h24 fun x25 hx25 h26=>?_
      have hj27:=Keh hx25
      refine Kcg hΓ 3 E<|Kbr E E (Kdb hΓ hx25 E E E E E E)<|Kbr E E (Kdh hΓ (enc:=Lln) s13.2.toNat 0 hj27 E E E E (fun _=>E) (g:=.agg (fS x25)) E)<|bK h26 fun x28 hx28 h29=>?_
      have hj30:=Keh hx28
      exact Kcg hΓ 3 E<|Kbr E E (Kdb hΓ hx28 E E E E E E)<|Kbr E E (Kdh hΓ (enc:=Lln) ((wi (s13.2 - 1)).toNat) 0 hj30 E E E E (fun _=>E) (g:=.agg (fS x28)) E)<|bK h29 fun y31 hy31 h32=>Kds C (Lmm hy31) E E E E E E E<|Kcg hΓ 3 E<|oSi h32▸⟨⟨E,E,E,E,E,E,E,tV⟩,[],E,.inl E⟩
     have h33:=cF hq22 hb
     exact Kcg hΓ 14 E<|oSi h33▸⟨⟨E,E,E,E,E,E,E,tV⟩,[],E,.inl E⟩
    refine gA 1 E<|jC E h23 (fun h34=>?_) fun h50=>gA 4 E ?_
    ·refine gA 4 E<|Kfl [rO 37 13 Lln s13.1] [9,13] [15,17] [15,17] hmix (by kernel_rfl) (by kernel_rfl) ⟨E,tV⟩ Z<|bK h34 fun x35 hx35 h36=>?_
     have hj37:=Keh hx35
     refine go_E hΓ 8 E<|ge_q E (.inl E) (fun _ _=>Kfo (qt_p (Kdb hΓ hx35 E E E E E E)))<|ge_p E (fun hp hs=>Kdh hΓ (enc:=Lln) ((wi (s13.2 - 1)).toNat) 0 hj37 E E E (hs 0 _ E E) (fun _=>E) (g:=.agg (fS x35)) E) E<|bK h36 fun x38 hx38 h39=>?_
     have hj40:=Keh hx38
     refine go_E hΓ 2 E<|ge_q E (.inl E) (fun _ _=>Kfo (qt_p (Kdb hΓ hx38 E E E E E E)))<|ge_p E (fun hp hs=>Kdh hΓ (enc:=Lln) s13.2.toNat 0 hj40 E E E (hs 0 _ E E) (fun _=>E) (g:=.agg (fS x38)) E) E<|bK h39 fun x41 hx41 h42=>?_
     have hj43:=Keh hx41
     refine ge_q E (.inl E) (fun _ _=>Kfo (qt_p (Kdb hΓ hx41 E E E E E E)))<|Kft [rO 37 13 Lln (s13.1.set s13.2.toNat x35)] E E (Kfu E) (Kfz (Khd hΓ (enc:=Lln) (z':=x35) s13.2.toNat (by have:=(gEs.1 hj43).1;simpa using this) E E E E (fun _=>E) E E E E E)) ?_
     refine bK h42 fun x44 hx44 h45=>?_
     have hj46:=Keh hx44
     refine ge_q E (.inl E) (fun _ _=>Kfo (qt_p (Kdb hΓ hx44 E E E E E E)))<|bK h45 fun x47 hx47 h48=>?_
     have hj49:(s13.1.set s13.2.toNat x35)[(wi (s13.2 - 1)).toNat]?=some x47:=hx47
     refine Kft [rO 37 13 Lln ((s13.1.set s13.2.toNat x35).set ((wi (s13.2 - 1)).toNat) x38)] E E (Kfu E) (Kfz (Khd hΓ (enc:=Lln) (z':=x38) ((wi (s13.2 - 1)).toNat) (by have:=(gEs.1 hj49).1;simpa using this) E E E E (fun _=>E) E E E E E)) ?_
     refine Kfn<|gA 2 E<|Khe 0 (n':=((s13.1.set s13.2.toNat x35).set ((wi (s13.2 - 1)).toNat) x38).length) E (by simp) ?_
     refine Khe 37 (n':=((s13.1.set s13.2.toNat x35).set ((wi (s13.2 - 1)).toNat) x38).length) E (by simp) ?_
     refine Khe 39 (n':=((s13.1.set s13.2.toNat x35).set ((wi (s13.2 - 1)).toNat) x38).length) E (by simp) ?_
     refine Khe 42 (n':=((s13.1.set s13.2.toNat x35).set ((wi (s13.2 - 1)).toNat) x38).length) E (by simp) ?_
     refine Khe 47 (n':=((s13.1.set s13.2.toNat x35).set ((wi (s13.2 - 1)).toNat) x38).length) E (by simp) ?_
     exact gA 5 E<|oSi h48▸⟨_,E,⟨⟨E,E,E,E,E,E,tV⟩,[],E,.inl E⟩⟩
    cases h50
    obtain rfl:=hout20 _ rfl
    exact⟨⟨E,E,E,E,E,tV⟩,[],E,.inl E⟩
   exact gA 7 E<|oSi h16▸⟨_,E,⟨⟨E,E,E,E,E,tV⟩,[],E,.inl E⟩⟩
  cases h51
  obtain rfl:=hout9 _ rfl
  exact⟨tV,[],E,.inl E⟩
 exact oSi h5▸Kec hΓ [] (.inl E) E E E E (.inl E)
theorem Lmo{k:Nat}{data:List Ley}{n:Int}{r:List Ley}(h:Lgb k data n=some r):EC Tryz.prog 205 [.sl 0 data.length,I n,.fn (.func 96) [] []] [rO 37 13 Lln data] fun g hp'=>g=.tup []∧hp'=[rO 37 13 Lln r]:=by
 unfold Lgb at h
 refine QN Tryz.func205 E Z<|gA 13 E<|bK h fun q4 hq4 h5=>Kgp [(0,.sl 0 q4.1.length),(1,I n),(2,.fn (.func 96) [] []),(6,I 20),(7,I q4.2)] [rO 37 13 Lln q4.1] ?_ ?_
 ·refine gA 1 E<|Kcv hq4 (fun s2=>[(0,.sl 0 s2.1.length),(1,I n),(2,.fn (.func 96) [] []),(6,I 20),(7,I s2.2.1),(8,I s2.2.2)]) (fun s2=>[rO 37 13 Lln s2.1]) ⟨⟨E,E,E,E,E,E,tV⟩,[],E,.inl E⟩ (fun s2 y10 hy8 hout9=>?_)
  refine gA 8 E<|jC E hy8 (fun h11=>?_) fun h16=>gA 4 E ?_
  ·exact bK h11 fun y12 hy12 h13=>gA 9 E<|Kdp [0] (.tup []) [rO 37 13 Lln y12] C (Lmn hy12) E Z E E E E E E E E E E<|gK h13 fun hg15 h14=>Kha 0 E (of_decide_eq_true hg15).symm<|gO 15 E<|oSi h14▸⟨_,E,⟨⟨E,E,E,E,E,E,tV⟩,[],E,.inl E⟩⟩
  cases h16
  obtain rfl:=hout9 _ rfl
  exact⟨⟨E,E,E,E,E,tV⟩,[],E,.inl E⟩
 refine bK h5 fun y17 hy17 h18=>gA 7 E<|Kdp [0] (.tup []) [rO 37 13 Lln y17] C (Lmn hy17) E Z E E E E E E E E E E<|gK h18 fun hg20 h19=>Kha 0 E (of_decide_eq_true hg20).symm<|gO 2 E<|bK h19 fun q24 hq24 h25=>Kgp [] [rO 37 13 Lln y17] ?_ ?_
 ·refine gA 1 E<|Kcv hq24 (fun s22=>[(0,.sl 0 y17.length),(1,I n),(2,.fn (.func 96) [] []),(6,I s22)]) (fun s22=>[rO 37 13 Lln y17]) ⟨⟨E,E,E,E,tV⟩,[],E,.inl E⟩ (fun s22 y30 hy28 hout29=>?_)
  refine gA 8 E<|jC E hy28 (fun h31=>?_) fun h46=>gA 4 E ?_
  ·refine gA 12 E<|bK h31 fun q35 hq35 h36=>Kgp [(0,.sl 0 y17.length),(1,I n),(2,.fn (.func 96) [] []),(6,I s22),(7,I 0)] [rO 37 13 Lln y17] ?_ ?_
   ·refine gA 1 E<|Kcv hq35 (fun s33=>[(0,.sl 0 y17.length),(1,I n),(2,.fn (.func 96) [] []),(6,I s22),(7,I 0),(8,I (wi (2 * s22)))]) (fun s33=>[rO 37 13 Lln y17]) ⟨⟨E,E,E,E,E,E,tV⟩,[],E,.inl E⟩ (fun s33 y41 hy39 hout40=>?_)
    refine gA 8 E<|jC E hy39 (fun h42=>?_) fun h43=>gA 4 E ?_
    ·refine gA 12 E ?_
     cases h42
    cases h43
    obtain rfl:=hout40 _ rfl
    exact⟨⟨E,E,E,E,E,tV⟩,[],E,.inl E⟩
   refine gA 17 E<|jC E h36 (fun h44=>?_) fun h45=>gA 8 E<|oSi h45▸⟨_,E,⟨⟨E,E,E,E,tV⟩,[],E,.inl E⟩⟩
   refine gA 6 E ?_
   cases h44
  cases h46
  obtain rfl:=hout29 _ rfl
  exact⟨tV,[],E,.inl E⟩
 exact oSi h25▸Kec hΓ [] (.inl E) E E E E (.inl E)
theorem Lmp{k:Nat}{x:List Ley}{r:List Ley}(h:Lgc k x=some r):EC Tryz.prog 99 [.sl 0 x.length,.fn (.func 96) [] []] [rO 37 13 Lln x] fun g hp'=>g=.tup []∧hp'=[rO 37 13 Lln r]:=by
 unfold Lgc at h
 exact QN Tryz.func99 E Z<|bK h fun y1 hy1 h2=>gA 5 E<|Kdp [0] (.tup []) [rO 37 13 Lln y1] C (Lmo hy1) E Z E E E E E E E E E E<|gO 1 E<|oSi h2▸Kec hΓ [] (.inl E) E E E E (.inl E)
theorem Lmq{k:Nat}{s:Lev}{many:Int}{r:(List Ley)×Lev}(h:Lgd k s many=some r):EC Tryz.prog 23 [.ptr 0 0,I many] [.box 25 (fQ s)] fun g hp'=>g=.sl 1 r.1.length∧hp'=[.box 25 (fQ r.2),rO 37 13 Lln r.1]:=by
 unfold Lgd at h
 refine QM Tryz.func23 E Z<|gA 2 E<|Kdn (t:=0) 37 13 E Z<|gO 4 E<|Kdn (t:=0) 37 13 E Z<|gO 4 E<|eo_s Z (nblt.1 E) (Khw false)<|Kdx [.box 25 (fQ s),rO 37 13 Lln ([]:List Ley),rO 37 13 Lln ([]:List Ley),mOb kS false (eN .i64) ([]:List (Str×Int))] E<|bK h fun y1 hy1 h2=>gO 6 E<|Kdp [0] (I y1.1) [.box 25 (fQ y1.2),rO 37 13 Lln ([]:List Ley),rO 37 13 Lln ([]:List Ley),mOb kS false (eN .i64) ([]:List (Str×Int))] C (Llz hy1) E Z E E E E E E E E E E<|gO 10 E<|bK h2 fun q6 hq6 h7=>gK hq6 fun hb9 h10=>?_
 replace hb9:=of_decide_eq_true hb9
 refine Kgp [(0,.ptr 0 0),(5,.sl 2 q6.2.1.length)] [.box 25 (fQ q6.1),rO 37 13 Lln ([]:List Ley),rO 37 13 Lln q6.2.1,mOb kS false (eN .i64) q6.2.2.1] ?_ ?_
 ·refine gA 1 E<|Keg h10 (fun i3 s4=>[(0,.ptr 0 0),(5,.sl 2 s4.2.1.length),(6,.map 3),(7,I s4.2.2.2),(13,I many),(14,I (i3:Int))]) (fun s4=>[.box 25 (fQ s4.1),rO 37 13 Lln ([]:List Ley),rO 37 13 Lln s4.2.1,mOb kS false (eN .i64) s4.2.2.1]) ⟨⟨E,E,E,E,E,E,tV⟩,[],E,.inl E⟩ (fun i3 s4 y14 hlt hy12=>?_) (fun hge=>?_)
  ·exact gA 6 E<|Kcj E (dT hlt)<|bK hy12 fun y15 hy15 h16=>gA 8 E<|Kdp [0] (.agg (fS y15.1)) [.box 25 (fQ y15.2),rO 37 13 Lln ([]:List Ley),rO 37 13 Lln s4.2.1,mOb kS false (eN .i64) s4.2.2.1] C (Lmi hy15) E Z E E E E E E E E E E<|Kqf hΓ E E E Z<|Kqk hΓ E E E E E E E E Z<|Kdx [.box 25 (fQ y15.2),rO 37 13 Lln ([]:List Ley),rO 37 13 Lln s4.2.1,mOb kS false (eN .i64) s4.2.2.1,.box 37 (fS y15.1)] E<|gO 7 E<|eo_o E (Kia hΓ (kv:=kS) (agg:=false) (enc:=(eN .i64)) s4.2.2.1 y15.1.Server (0:Int) E E E E Khq E E E E E E E)<|gO 1 E<|eo_u Z (Kie hΓ (kv:=kS) (agg:=false) (enc:=(eN .i64)) (id:=3) s4.2.2.1 y15.1.Server (wi (((mGet s4.2.2.1 y15.1.Server).getD 0)+1)) E E E Khq E E E E E)<|Kdx [.box 25 (fQ y15.2),rO 37 13 Lln ([]:List Ley),rO 37 13 Lln s4.2.1,mOb kS false (eN .i64) (mSet s4.2.2.1 y15.1.Server (wi (((mGet s4.2.2.1 y15.1.Server).getD 0)+1))),.box 37 (fS y15.1)] E<|gO 7 E<|eo_o E (Kia hΓ (kv:=kS) (agg:=false) (enc:=(eN .i64)) (mSet s4.2.2.1 y15.1.Server (wi (((mGet s4.2.2.1 y15.1.Server).getD 0)+1))) y15.1.Server (0:Int) E E E E Khq E E E E E E E)<|gO 1 E<|Kqk hΓ E E E E E E E E Z<|Kdx [.box 25 (fQ y15.2),rO 37 13 Lln ([]:List Ley),rO 37 13 Lln s4.2.1,mOb kS false (eN .i64) (mSet s4.2.2.1 y15.1.Server (wi (((mGet s4.2.2.1 y15.1.Server).getD 0)+1))),.box 37 [I y15.1.At,S y15.1.Server,I ((mGet (mSet s4.2.2.1 y15.1.Server (wi (((mGet s4.2.2.1 y15.1.Server).getD 0)+1))) y15.1.Server).getD 0),I y15.1.Kind,S y15.1.By,S y15.1.Node,S y15.1.Join,S y15.1.Public,S y15.1.Name,.d (Sl eS y15.1.Tags),I y15.1.Until,I y15.1.Uses,B y15.1.Ready]] E<|gO 6 E<|Kdk hΓ (enc:=Lln) [(⟨y15.1.At,y15.1.Server,((mGet (mSet s4.2.2.1 y15.1.Server (wi (((mGet s4.2.2.1 y15.1.Server).getD 0)+1))) y15.1.Server).getD 0),y15.1.Kind,y15.1.By,y15.1.Node,y15.1.Join,y15.1.Public,y15.1.Name,y15.1.Tags,y15.1.Until,y15.1.Uses,y15.1.Ready⟩:Ley)] E E E E E E E E E E E E Z<|bK h16 fun y17 hy17 h18=>Kdy hΓ (enc:=Lln) hy17 E E E E E E E E E (fun _=>E) E E E E<|gO 6 E<|Kdk hΓ (enc:=(eN .i64)) [0,1,1,5,20,60] E E E E E E E E E E E E Z<|bK h18 fun y19 hy19 h20=>Kdp [0] (I y19.1) [.box 25 (fQ y19.2),rO 37 13 Lln ([]:List Ley),rO 37 13 Lln y17,mOb kS false (eN .i64) (mSet s4.2.2.1 y15.1.Server (wi (((mGet s4.2.2.1 y15.1.Server).getD 0)+1))),.box 37 [I y15.1.At,S y15.1.Server,I ((mGet (mSet s4.2.2.1 y15.1.Server (wi (((mGet s4.2.2.1 y15.1.Server).getD 0)+1))) y15.1.Server).getD 0),I y15.1.Kind,S y15.1.By,S y15.1.Node,S y15.1.Join,S y15.1.Public,S y15.1.Name,.d (Sl eS y15.1.Tags),I y15.1.Until,I y15.1.Uses,B y15.1.Ready]] C (Lmb hy19) E Z E E E E E E E E E E<|gO 9 E<|oSi h20▸⟨⟨E,E,E,E,E,Kbp E (Kbo (by omega)),tV⟩,[_],E,.inr ⟨HB.mk E,FB.mk E,Z⟩⟩
  exact gA 6 E<|Kck E (dF hge)<|gA 4 E<|⟨⟨E,E,tV⟩,[],E,.inl E⟩
 refine bK h7 fun y21 hy21 h22=>gA 4 E<|Kdp [2] (.tup []) [.box 25 (fQ q6.1),rO 37 13 Lln ([]:List Ley),rO 37 13 Lln y21,mOb kS false (eN .i64) q6.2.2.1] C (Lmp hy21) E Z E E E E E E E E E E<|gK h22 fun hg24 h23=>Kha 5 E (of_decide_eq_true hg24).symm<|gO 9 E<|bK h23 fun q25 hq25 h26=>Kco 3 [(0,.ptr 0 0),(5,.sl 2 y21.length),(47,B q25.2)] [.box 25 (fQ q25.1),rO 37 13 Lln ([]:List Ley),rO 37 13 Lln y21,mOb kS false (eN .i64) q6.2.2.1] ?_ ?_
 ·refine Koz E E (fun hb=>?_) (fun hb=>?_)
  ·have h27:=cT hq25 hb
   exact bK h27 fun y28 hy28 h29=>gO 1 E<|Kox E<|Kdp [0] (B y28.1) [.box 25 (fQ y28.2),rO 37 13 Lln ([]:List Ley),rO 37 13 Lln y21,mOb kS false (eN .i64) q6.2.2.1] C (Lmc hy28) E Z E E E E E E E E E E<|gO 2 E<|oSi h29▸⟨⟨E,E,E,tV⟩,[],E,.inl E⟩
  have h30:=cF hq25 hb
  exact gO 4 E<|oSi h30▸⟨⟨E,E,E,tV⟩,[],E,.inl E⟩
 refine bK h26 fun q31 hq31 h32=>gO 2 E<|Kgp [(5,.sl 2 q31.2.length)] [.box 25 (fQ q31.1),rO 37 13 Lln ([]:List Ley),rO 37 13 Lln q31.2,mOb kS false (eN .i64) q6.2.2.1] ?_ ?_
 ·refine jC E hq31 (fun h33=>?_) fun h76=>gA 1 E<|oSi h76▸⟨⟨E,tV⟩,[],E,.inl E⟩
  refine bK h33 fun y34 hy34 h35=>gA 6 E<|Kdp [0] (I y34.1) [.box 25 (fQ y34.2),rO 37 13 Lln ([]:List Ley),rO 37 13 Lln y21,mOb kS false (eN .i64) q6.2.2.1] C (Llz hy34) E Z E E E E E E E E E E<|bK h35 fun x36 hx36 h37=>?_
  have hj38:=Keh hx36
  refine eo_o E (Kdb hΓ hx36 E E E E E E)<|bK h37 fun y39 hy39 h40=>gO 6 E<|Kdp [0] (I y39.1) [.box 25 (fQ y39.2),rO 37 13 Lln ([]:List Ley),rO 37 13 Lln y21,mOb kS false (eN .i64) q6.2.2.1] C (Llz hy39) E Z E E E E E E E E E E<|gO 9 E<|jC E h40 (fun h41=>?_) fun h44=>gA 6 E<|jC E h44 (fun h45=>?_) fun h51=>?_
  ·exact gA 3 E<|Kdk hΓ (enc:=(eN .i64)) [-1,0,345686400] E E E E E E E E E E E E Z<|bK h41 fun y42 hy42 h43=>Kdp [0] (I y42.1) [.box 25 (fQ y42.2),rO 37 13 Lln ([]:List Ley),rO 37 13 Lln y21,mOb kS false (eN .i64) q6.2.2.1] C (Lmb hy42) E Z E E E E E E E E E E<|gO 2 E<|Kdj hΓ (enc:=Lln) (z':=(⟨y42.1,x36.Server,x36.No,x36.Kind,x36.By,x36.Node,x36.Join,x36.Public,x36.Name,x36.Tags,x36.Until,x36.Uses,x36.Ready⟩:Ley)) y34.1.toNat 0 hj38 E E E E (fun _=>E) E E E E E E Z<|Kdx [.box 25 (fQ y42.2),rO 37 13 Lln ([]:List Ley),rO 37 13 Lln (y21.set y34.1.toNat (⟨y42.1,x36.Server,x36.No,x36.Kind,x36.By,x36.Node,x36.Join,x36.Public,x36.Name,x36.Tags,x36.Until,x36.Uses,x36.Ready⟩:Ley)),mOb kS false (eN .i64) q6.2.2.1] E<|Kha 5 (n':=(y21.set y34.1.toNat (⟨y42.1,x36.Server,x36.No,x36.Kind,x36.By,x36.Node,x36.Join,x36.Public,x36.Name,x36.Tags,x36.Until,x36.Uses,x36.Ready⟩:Ley)).length) E List.length_set.symm<|gO 2 E<|oSi h43▸⟨⟨E,tV⟩,[],E,.inl E⟩
  ·refine gA 4 E<|Kdk hΓ (enc:=eS) [[],[115,49]] E E E E E E E E E E E E Z<|bK h45 fun y46 hy46 h47=>Kdp [0] (S y46.1) [.box 25 (fQ y46.2),rO 37 13 Lln ([]:List Ley),rO 37 13 Lln y21,mOb kS false (eN .i64) q6.2.2.1] C (Lme hy46) E Z E E E E E E E E E E<|gO 1 E<|Kdk hΓ (enc:=(eN .i64)) [0,1,1000001] E E E E E E E E E E E E Z<|bK h47 fun y48 hy48 h49=>Kdp [0] (I y48.1) [.box 25 (fQ y48.2),rO 37 13 Lln ([]:List Ley),rO 37 13 Lln y21,mOb kS false (eN .i64) q6.2.2.1] C (Lmb hy48) E Z E E E E E E E E E E<|gO 2 E<|Kdj hΓ (enc:=Lln) (z':=(⟨x36.At,y46.1,x36.No,x36.Kind,x36.By,x36.Node,x36.Join,x36.Public,x36.Name,x36.Tags,x36.Until,x36.Uses,x36.Ready⟩:Ley)) y34.1.toNat 1 hj38 E E E E (fun _=>E) E E E E E E Z<|Kdx [.box 25 (fQ y48.2),rO 37 13 Lln ([]:List Ley),rO 37 13 Lln (y21.set y34.1.toNat (⟨x36.At,y46.1,x36.No,x36.Kind,x36.By,x36.Node,x36.Join,x36.Public,x36.Name,x36.Tags,x36.Until,x36.Uses,x36.Ready⟩:Ley)),mOb kS false (eN .i64) q6.2.2.1] E ?_
   have hj50:=Khn (y:=(⟨x36.At,y46.1,x36.No,x36.Kind,x36.By,x36.Node,x36.Join,x36.Public,x36.Name,x36.Tags,x36.Until,x36.Uses,x36.Ready⟩:Ley)) hj38
   exact Kha 5 (n':=(y21.set y34.1.toNat (⟨x36.At,y46.1,x36.No,x36.Kind,x36.By,x36.Node,x36.Join,x36.Public,x36.Name,x36.Tags,x36.Until,x36.Uses,x36.Ready⟩:Ley)).length) E List.length_set.symm<|gO 2 E<|Kdj hΓ (enc:=Lln) (z':=(⟨x36.At,y46.1,y48.1,x36.Kind,x36.By,x36.Node,x36.Join,x36.Public,x36.Name,x36.Tags,x36.Until,x36.Uses,x36.Ready⟩:Ley)) y34.1.toNat 2 hj50 E E E E (fun _=>E) E E E E E E Z<|Kdx [.box 25 (fQ y48.2),rO 37 13 Lln ([]:List Ley),rO 37 13 Lln ((y21.set y34.1.toNat (⟨x36.At,y46.1,x36.No,x36.Kind,x36.By,x36.Node,x36.Join,x36.Public,x36.Name,x36.Tags,x36.Until,x36.Uses,x36.Ready⟩:Ley)).set y34.1.toNat (⟨x36.At,y46.1,y48.1,x36.Kind,x36.By,x36.Node,x36.Join,x36.Public,x36.Name,x36.Tags,x36.Until,x36.Uses,x36.Ready⟩:Ley)),mOb kS false (eN .i64) q6.2.2.1] E<|Kha 5 (n':=((y21.set y34.1.toNat (⟨x36.At,y46.1,x36.No,x36.Kind,x36.By,x36.Node,x36.Join,x36.Public,x36.Name,x36.Tags,x36.Until,x36.Uses,x36.Ready⟩:Ley)).set y34.1.toNat (⟨x36.At,y46.1,y48.1,x36.Kind,x36.By,x36.Node,x36.Join,x36.Public,x36.Name,x36.Tags,x36.Until,x36.Uses,x36.Ready⟩:Ley)).length) E List.length_set.symm<|gO 2 E<|oSi h49▸⟨⟨E,tV⟩,[],E,.inl E⟩
  refine gA 6 E<|jC E h51 (fun h52=>?_) fun h55=>gA 6 E<|jC E h55 (fun h56=>?_) fun h62=>?_
  ·exact gA 3 E<|Kdk hΓ (enc:=(eN .i64)) [0,10,3] E E E E E E E E E E E E Z<|bK h52 fun y53 hy53 h54=>Kdp [0] (I y53.1) [.box 25 (fQ y53.2),rO 37 13 Lln ([]:List Ley),rO 37 13 Lln y21,mOb kS false (eN .i64) q6.2.2.1] C (Lmb hy53) E Z E E E E E E E E E E<|gO 2 E<|Kdj hΓ (enc:=Lln) (z':=(⟨x36.At,x36.Server,x36.No,y53.1,x36.By,x36.Node,x36.Join,x36.Public,x36.Name,x36.Tags,x36.Until,x36.Uses,x36.Ready⟩:Ley)) y34.1.toNat 3 hj38 E E E E (fun _=>E) E E E E E E Z<|Kdx [.box 25 (fQ y53.2),rO 37 13 Lln ([]:List Ley),rO 37 13 Lln (y21.set y34.1.toNat (⟨x36.At,x36.Server,x36.No,y53.1,x36.By,x36.Node,x36.Join,x36.Public,x36.Name,x36.Tags,x36.Until,x36.Uses,x36.Ready⟩:Ley)),mOb kS false (eN .i64) q6.2.2.1] E<|Kha 5 (n':=(y21.set y34.1.toNat (⟨x36.At,x36.Server,x36.No,y53.1,x36.By,x36.Node,x36.Join,x36.Public,x36.Name,x36.Tags,x36.Until,x36.Uses,x36.Ready⟩:Ley)).length) E List.length_set.symm<|gO 2 E<|oSi h54▸⟨⟨E,tV⟩,[],E,.inl E⟩
  ·refine gA 4 E<|Kdk hΓ (enc:=eS) [[],[65],[97,110,110]] E E E E E E E E E E E E Z<|bK h56 fun y57 hy57 h58=>Kdp [0] (S y57.1) [.box 25 (fQ y57.2),rO 37 13 Lln ([]:List Ley),rO 37 13 Lln y21,mOb kS false (eN .i64) q6.2.2.1] C (Lme hy57) E Z E E E E E E E E E E<|gO 1 E<|Kdk hΓ (enc:=eS) [[],[110,97]] E E E E E E E E E E E E Z<|bK h58 fun y59 hy59 h60=>Kdp [0] (S y59.1) [.box 25 (fQ y59.2),rO 37 13 Lln ([]:List Ley),rO 37 13 Lln y21,mOb kS false (eN .i64) q6.2.2.1] C (Lme hy59) E Z E E E E E E E E E E<|gO 2 E<|Kdj hΓ (enc:=Lln) (z':=(⟨x36.At,x36.Server,x36.No,x36.Kind,y57.1,x36.Node,x36.Join,x36.Public,x36.Name,x36.Tags,x36.Until,x36.Uses,x36.Ready⟩:Ley)) y34.1.toNat 4 hj38 E E E E (fun _=>E) E E E E E E Z<|Kdx [.box 25 (fQ y59.2),rO 37 13 Lln ([]:List Ley),rO 37 13 Lln (y21.set y34.1.toNat (⟨x36.At,x36.Server,x36.No,x36.Kind,y57.1,x36.Node,x36.Join,x36.Public,x36.Name,x36.Tags,x36.Until,x36.Uses,x36.Ready⟩:Ley)),mOb kS false (eN .i64) q6.2.2.1] E ?_
   have hj61:=Khn (y:=(⟨x36.At,x36.Server,x36.No,x36.Kind,y57.1,x36.Node,x36.Join,x36.Public,x36.Name,x36.Tags,x36.Until,x36.Uses,x36.Ready⟩:Ley)) hj38
   exact Kha 5 (n':=(y21.set y34.1.toNat (⟨x36.At,x36.Server,x36.No,x36.Kind,y57.1,x36.Node,x36.Join,x36.Public,x36.Name,x36.Tags,x36.Until,x36.Uses,x36.Ready⟩:Ley)).length) E List.length_set.symm<|gO 2 E<|Kdj hΓ (enc:=Lln) (z':=(⟨x36.At,x36.Server,x36.No,x36.Kind,y57.1,y59.1,x36.Join,x36.Public,x36.Name,x36.Tags,x36.Until,x36.Uses,x36.Ready⟩:Ley)) y34.1.toNat 5 hj61 E E E E (fun _=>E) E E E E E E Z<|Kdx [.box 25 (fQ y59.2),rO 37 13 Lln ([]:List Ley),rO 37 13 Lln ((y21.set y34.1.toNat (⟨x36.At,x36.Server,x36.No,x36.Kind,y57.1,x36.Node,x36.Join,x36.Public,x36.Name,x36.Tags,x36.Until,x36.Uses,x36.Ready⟩:Ley)).set y34.1.toNat (⟨x36.At,x36.Server,x36.No,x36.Kind,y57.1,y59.1,x36.Join,x36.Public,x36.Name,x36.Tags,x36.Until,x36.Uses,x36.Ready⟩:Ley)),mOb kS false (eN .i64) q6.2.2.1] E<|Kha 5 (n':=((y21.set y34.1.toNat (⟨x36.At,x36.Server,x36.No,x36.Kind,y57.1,x36.Node,x36.Join,x36.Public,x36.Name,x36.Tags,x36.Until,x36.Uses,x36.Ready⟩:Ley)).set y34.1.toNat (⟨x36.At,x36.Server,x36.No,x36.Kind,y57.1,y59.1,x36.Join,x36.Public,x36.Name,x36.Tags,x36.Until,x36.Uses,x36.Ready⟩:Ley)).length) E List.length_set.symm<|gO 2 E<|oSi h60▸⟨⟨E,tV⟩,[],E,.inl E⟩
  refine gA 6 E<|jC E h62 (fun h63=>?_) fun h71=>gA 2 E<|Kdk hΓ (enc:=eS) [[119,101,98],[100,98]] E E E E E E E E E E E E Z<|Kdk hΓ (enc:=eS) [[]] E E E E E E E E E E E E Z<|Kdk hΓ (enc:=eS) [[97],[98]] E E E E E E E E E E E E Z<|Kdk hΓ (enc:=(eL eS)) [[[119,101,98],[100,98]],[[]],[[97],[98]]] E E E E E E E E E E E E Z<|bK h71 fun y72 hy72 h73=>gO 1 E<|Kdp [0] (I y72.1) [.box 25 (fQ y72.2),rO 37 13 Lln ([]:List Ley),rO 37 13 Lln y21,mOb kS false (eN .i64) q6.2.2.1] C (Llz hy72) E Z E E E E E E E E E E<|bK h73 fun x74 hx74 h75=>eo_o E (Kcz hΓ (enc:=(eL eS)) hx74 E E E E E (fun _=>E))<|gO 3 E<|Kdj hΓ (enc:=Lln) (z':=(⟨x36.At,x36.Server,x36.No,x36.Kind,x36.By,x36.Node,x36.Join,x36.Public,x36.Name,x74,x36.Until,x36.Uses,x36.Ready⟩:Ley)) y34.1.toNat 9 hj38 E E E E (fun _=>E) E E E E E E Z<|Kdx [.box 25 (fQ y72.2),rO 37 13 Lln ([]:List Ley),rO 37 13 Lln (y21.set y34.1.toNat (⟨x36.At,x36.Server,x36.No,x36.Kind,x36.By,x36.Node,x36.Join,x36.Public,x36.Name,x74,x36.Until,x36.Uses,x36.Ready⟩:Ley)),mOb kS false (eN .i64) q6.2.2.1] E<|Kha 5 (n':=(y21.set y34.1.toNat (⟨x36.At,x36.Server,x36.No,x36.Kind,x36.By,x36.Node,x36.Join,x36.Public,x36.Name,x74,x36.Until,x36.Uses,x36.Ready⟩:Ley)).length) E List.length_set.symm<|gO 2 E<|oSi h75▸⟨⟨E,tV⟩,[],E,.inl E⟩
  refine bK h63 fun y64 hy64 h65=>gA 4 E<|Kdq C (Leo hy64) E Z E E E E E<|Kdk hΓ (enc:=eS) [[],[120,121,122],[48,65],y64] E E E E E E E E E E E E Z<|bK h65 fun y66 hy66 h67=>Kdp [0] (S y66.1) [.box 25 (fQ y66.2),rO 37 13 Lln ([]:List Ley),rO 37 13 Lln y21,mOb kS false (eN .i64) q6.2.2.1] C (Lme hy66) E Z E E E E E E E E E E<|gO 1 E<|Kdk hΓ (enc:=(eN .i64)) [0,-1,1000000000] E E E E E E E E E E E E Z<|bK h67 fun y68 hy68 h69=>Kdp [0] (I y68.1) [.box 25 (fQ y68.2),rO 37 13 Lln ([]:List Ley),rO 37 13 Lln y21,mOb kS false (eN .i64) q6.2.2.1] C (Lmb hy68) E Z E E E E E E E E E E<|gO 2 E<|Kdj hΓ (enc:=Lln) (z':=(⟨x36.At,x36.Server,x36.No,x36.Kind,x36.By,x36.Node,x36.Join,y66.1,x36.Name,x36.Tags,x36.Until,x36.Uses,x36.Ready⟩:Ley)) y34.1.toNat 7 hj38 E E E E (fun _=>E) E E E E E E Z<|Kdx [.box 25 (fQ y68.2),rO 37 13 Lln ([]:List Ley),rO 37 13 Lln (y21.set y34.1.toNat (⟨x36.At,x36.Server,x36.No,x36.Kind,x36.By,x36.Node,x36.Join,y66.1,x36.Name,x36.Tags,x36.Until,x36.Uses,x36.Ready⟩:Ley)),mOb kS false (eN .i64) q6.2.2.1] E ?_
  have hj70:=Khn (y:=(⟨x36.At,x36.Server,x36.No,x36.Kind,x36.By,x36.Node,x36.Join,y66.1,x36.Name,x36.Tags,x36.Until,x36.Uses,x36.Ready⟩:Ley)) hj38
  exact Kha 5 (n':=(y21.set y34.1.toNat (⟨x36.At,x36.Server,x36.No,x36.Kind,x36.By,x36.Node,x36.Join,y66.1,x36.Name,x36.Tags,x36.Until,x36.Uses,x36.Ready⟩:Ley)).length) E List.length_set.symm<|gO 2 E<|Kdj hΓ (enc:=Lln) (z':=(⟨x36.At,x36.Server,x36.No,x36.Kind,x36.By,x36.Node,x36.Join,y66.1,x36.Name,x36.Tags,y68.1,x36.Uses,x36.Ready⟩:Ley)) y34.1.toNat 10 hj70 E E E E (fun _=>E) E E E E E E Z<|Kdx [.box 25 (fQ y68.2),rO 37 13 Lln ([]:List Ley),rO 37 13 Lln ((y21.set y34.1.toNat (⟨x36.At,x36.Server,x36.No,x36.Kind,x36.By,x36.Node,x36.Join,y66.1,x36.Name,x36.Tags,x36.Until,x36.Uses,x36.Ready⟩:Ley)).set y34.1.toNat (⟨x36.At,x36.Server,x36.No,x36.Kind,x36.By,x36.Node,x36.Join,y66.1,x36.Name,x36.Tags,y68.1,x36.Uses,x36.Ready⟩:Ley)),mOb kS false (eN .i64) q6.2.2.1] E<|Kha 5 (n':=((y21.set y34.1.toNat (⟨x36.At,x36.Server,x36.No,x36.Kind,x36.By,x36.Node,x36.Join,y66.1,x36.Name,x36.Tags,x36.Until,x36.Uses,x36.Ready⟩:Ley)).set y34.1.toNat (⟨x36.At,x36.Server,x36.No,x36.Kind,x36.By,x36.Node,x36.Join,y66.1,x36.Name,x36.Tags,y68.1,x36.Uses,x36.Ready⟩:Ley)).length) E List.length_set.symm<|gO 2 E<|oSi h69▸⟨⟨E,tV⟩,[],E,.inl E⟩
 exact gA 8 E<|Kix 1 [.box 25 (fQ q31.1),.dead,rO 37 13 Lln q31.2,mOb kS false (eN .i64) q6.2.2.1] E Z<|Kgn 2 1 [.box 25 (fQ q31.1),rO 37 13 Lln q31.2,.dead,mOb kS false (eN .i64) q6.2.2.1] E E E E E E<|Kgk<|oSi h32▸Kec hΓ [_,_] (.inr E) E E E E (.inr ⟨HB.mk E,E⟩)
theorem Lmr{n:Int}{low:Int}{high:Int}{r:Bool}(h:Lge n low high=some r):Pure Tryz.prog 211 [I n,I low,I high] (B r):=by
 unfold Lge at h
 refine QP Tryz.func211 E E E<|gA 11 E<|Kco 4 [(6,B false),(14,B ((decide ((low:Int)≤n))&&(decide ((n:Int)≤high))))] [] ?_ ?_
 ·refine Koz E E (fun hb=>?_) (fun hb=>?_)
  ·exact gO 5 E<|⟨⟨E,Kbq E (Kei hb),tV⟩,[],E,.inl E⟩
  exact gO 5 E<|⟨⟨E,Kbq E (Kej hb),tV⟩,[],E,.inl E⟩
 exact gO 4 E<|oSi h▸gP E E
theorem Lms{s:Str}{v_some:Str}{r:Bool}(h:Lgf s v_some=some r):Pure Tryz.prog 212 [S s,S v_some] (B r):=by
 unfold Lgf at h
 exact QP Tryz.func212 E E E<|bK h fun y1 hy1 h2=>gA 9 E<|Kdq C (Lel hy1) E Z E E E E E<|gO 5 E<|oSi h2▸gP E E
theorem Lmt{s:Str}{r:Bool}(h:Lgg s=some r):Pure Tryz.prog 104 [S s] (B r):=by
 unfold Lgg at h
 refine QP Tryz.func104 E E E<|bK h fun y1 hy1 h2=>gA 9 E<|Kdq C (Lmr hy1) E Z E E E E E<|gO 1 E<|bK h2 fun q3 hq3 h4=>Kco 4 [(0,S s),(2,B false),(10,B q3)] [] ?_ ?_
 ·refine Koz E E (fun hb=>?_) (fun hb=>?_)
  ·have h5:=cT hq3 hb
   exact bK h5 fun z6 hz6 h7=>gO 1 E<|Kox E<|eo_o E (Kdc hΓ hz6 E E E E E)<|bK h7 fun y8 hy8 h9=>Kox E<|Kdq C (Lms hy8) E Z E E E E E<|gO 2 E<|oSi h9▸⟨⟨E,E,E,tV⟩,[],E,.inl E⟩
  have h10:=cF hq3 hb
  exact gO 5 E<|oSi h10▸⟨⟨E,E,E,tV⟩,[],E,.inl E⟩
 refine gO 1 E<|bK h4 fun q11 hq11 h12=>Kco 3 [(2,B false),(14,B q11)] [] ?_ ?_
 ·refine Koz E E (fun hb=>?_) (fun hb=>?_)
  ·have h13:=cT hq11 hb
   exact bK h13 fun y14 hy14 h15=>gO 1 E<|Kox E<|Kdq C (Lms hy14) E Z E E E E E<|gO 2 E<|oSi h15▸⟨⟨E,E,tV⟩,[],E,.inl E⟩
  have h16:=cF hq11 hb
  exact gO 4 E<|oSi h16▸⟨⟨E,E,tV⟩,[],E,.inl E⟩
 exact gO 4 E<|oSi h12▸gP E E
theorem Lmu{l:List Str}{r:Int}(h:Lgh l=some r):Pure Tryz.prog 103 [.d (Sl eS l)] (I r):=by
 unfold Lgh at h
 refine QP Tryz.func103 E E E<|gA 13 E<|bK h fun q4 hq4 h5=>Kcy 0 E fun hb7=>Kgo (R:=fun a6=>q4=.go a6) (fun a6=>[]) (fun a6=>[]) ?_ ?_
 ·refine gA 1 E<|Kcx l hq4 (fun i1 s2=>[(0,.d (Sl eS l)),(5,.d (Sl eS l)),(6,I (l.length:Int)),(7,I (i1:Int))]) (fun s2=>[]) ⟨⟨E,E,E,E,tV⟩,[],E,.inl E⟩ (fun i1 x3 s2 y11 hx8 hlt hy9 hout10=>?_) (fun s2 hgo=>?_)
  ·refine gA 6 E<|Kcj E (dT (Int.ofNat_lt.2 hlt))<|gA 7 E<|eo_o E (Kcz hΓ (enc:=eS) (Kcs hx8) E E E E E (fun _=>E))<|bK hy9 fun y12 hy12 h13=>gO 9 E<|Kdq C (Lmt hy12) E Z E E E E E<|gO 3 E<|jC E h13 (fun h14=>?_) fun h17=>gA 7 E<|bK h17 fun q18 hq18 h19=>Kco 8 [(0,.d (Sl eS l)),(5,.d (Sl eS l)),(6,I (l.length:Int)),(7,I (i1:Int)),(25,B q18)] [] ?_ ?_
   ·refine gA 9 E<|bK h14 fun v15 hv15 h16=>?_
    cases h16
    obtain rfl:=hout10 _ rfl
    cases h5
    exact gA 4 E<|oSi hv15▸gP E E
   ·refine Koz E E (fun hb=>?_) (fun hb=>?_)
    ·have h20:=cT hq18 hb
     exact bK h20 fun x21 hx21 h22=>gO 4 E<|Kox E<|eo_o E (Kcz hΓ (enc:=eS) hx21 E E E E E (fun _=>E))<|gO 4 E<|oSi h22▸⟨⟨E,E,E,E,E,tV⟩,[],E,.inl E⟩
    have h23:=cF hq18 hb
    exact gO 9 E<|oSi h23▸⟨⟨E,E,E,E,E,tV⟩,[],E,.inl E⟩
   refine gO 2 E<|jC E h19 (fun h24=>?_) fun h27=>gA 7 E ?_
   ·refine gA 8 E<|bK h24 fun v25 hv25 h26=>?_
    cases h26
    obtain rfl:=hout10 _ rfl
    cases h5
    exact gA 4 E<|oSi hv25▸gP E E
   cases h27
   exact⟨_,E,⟨⟨E,E,E,Kbp E (Kbo (nLl hlt hb7)),tV⟩,[],E,.inl E⟩⟩
  subst hgo
  exact gA 6 E<|Kck E (dF (Int.lt_irrefl _))<|gA 4 E<|⟨_,E,⟨tV,[],E,.inl E⟩⟩
 intro a6 ha
 subst ha
 replace h5:=Kgi h5
 exact gA 7 E<|oSi h5▸gP E E
theorem Lmv{s:List Str}{v:Str}{r:Int}(h:Lgi s v=some r):Pure Tryz.prog 154 [.d (Sl eS s),S v] (I r):=by
 unfold Lgi at h
 refine QP Tryz.func154 E E E<|gA 13 E<|bK h fun q4 hq4 h5=>Kcy 0 E fun hb7=>Kgo (R:=fun a6=>q4=.go a6) (fun a6=>[]) (fun a6=>[]) ?_ ?_
 ·refine gA 1 E<|Kcx s hq4 (fun i1 s2=>[(0,.d (Sl eS s)),(1,S v),(7,I (s.length:Int)),(8,I (i1:Int))]) (fun s2=>[]) ⟨⟨E,E,E,E,tV⟩,[],E,.inl E⟩ (fun i1 x3 s2 y11 hx8 hlt hy9 hout10=>?_) (fun s2 hgo=>?_)
  ·refine gA 6 E<|Kcj E (dT (Int.ofNat_lt.2 hlt))<|gA 15 E<|eo_o E (Kcz hΓ (enc:=eS) (Kcs hx8) E E E E E (fun _=>E))<|gO 4 E<|jC E hy9 (fun h12=>?_) fun h15=>gA 7 E ?_
   ·refine gA 9 E<|bK h12 fun v13 hv13 h14=>?_
    cases h14
    obtain rfl:=hout10 _ rfl
    cases h5
    exact gA 4 E<|oSi hv13▸gP E E
   cases h15
   exact⟨_,E,⟨⟨E,E,E,Kbp E (Kbo (nLl hlt hb7)),tV⟩,[],E,.inl E⟩⟩
  subst hgo
  exact gA 6 E<|Kck E (dF (Int.lt_irrefl _))<|gA 4 E<|⟨_,E,⟨tV,[],E,.inl E⟩⟩
 intro a6 ha
 subst ha
 replace h5:=Kgi h5
 exact gA 7 E<|oSi h5▸gP E E
theorem Lmw{s:List Str}{v:Str}{r:Bool}(h:Lgj s v=some r):Pure Tryz.prog 61 [.d (Sl eS s),S v] (B r):=by
 unfold Lgj at h
 exact QP Tryz.func61 E E E<|bK h fun y1 hy1 h2=>gA 9 E<|Kdq C (Lmv hy1) E Z E E E E E<|gO 5 E<|oSi h2▸gP E E
theorem Lmx{n:Int}{low:Int}{high:Int}{r:Bool}(h:Lgk n low high=some r):Pure Tryz.prog 105 [I n,I low,I high] (B r):=by
 unfold Lgk at h
 refine QP Tryz.func105 E E E<|gA 11 E<|Kco 4 [(6,B false),(14,B ((decide ((low:Int)≤n))&&(decide ((n:Int)≤high))))] [] ?_ ?_
 ·refine Koz E E (fun hb=>?_) (fun hb=>?_)
  ·exact gO 5 E<|⟨⟨E,Kbq E (Kei hb),tV⟩,[],E,.inl E⟩
  exact gO 5 E<|⟨⟨E,Kbq E (Kej hb),tV⟩,[],E,.inl E⟩
 exact gO 4 E<|oSi h▸gP E E
theorem Lmy{d:Lex}{r:Int}(h:Lgl d=some r):Pure Tryz.prog 28 [.agg (fD d)] (I r):=by
 unfold Lgl at h
 refine QP Tryz.func28 E E E<|gA 2 E<|Kqg E E E E Z<|gO 12 E<|jC E h (fun h1=>?_) fun h2=>bK h2 fun y3 hy3 h4=>gA 7 E<|Kdq C (Lmu hy3) E Z E E E E E<|gO 9 E<|jC E h4 (fun h5=>?_) fun h6=>?_
 ·exact gA 7 E<|oSi h1▸gP E E
 ·exact gA 8 E<|oSi h5▸gP E E
 refine gA 11 E<|jC E h6 (fun h7=>?_) fun h8=>gA 11 E<|bK h8 fun q12 hq12 h13=>Kcy 23 E fun hb15=>Kgo (R:=fun a14=>q12=.go a14) (fun a14=>[(1,.ptr 0 0)]) (fun a14=>[.box 29 (fD d)]) ?_ ?_
 ·exact gA 7 E<|oSi h7▸gP E E
 ·refine gA 1 E<|Kcx d.Owners hq12 (fun i9 s10=>[(1,.ptr 0 0),(23,.d (Sl Lll d.Owners)),(24,I (d.Owners.length:Int)),(25,I (i9:Int))]) (fun s10=>[.box 29 (fD d)]) ⟨⟨E,E,E,E,tV⟩,[],E,.inl E⟩ (fun i9 x11 s10 y19 hx16 hlt hy17 hout18=>?_) (fun s10 hgo=>?_)
  ·refine gA 6 E<|Kcj E (dT (Int.ofNat_lt.2 hlt))<|gA 7 E<|eo_o E (Kcz hΓ (enc:=Lll) (Kcs hx16) E E E E E (fun _=>E))<|gO 1 E<|Kqf hΓ E E E Z<|gO 1 E<|Kqk hΓ E E E E E E E E Z<|Kdx [.box 29 (fD d),.box 155 [S x11.Tag,.d (Sl eS x11.Users)]] E<|bK hy17 fun y20 hy20 h21=>gO 7 E<|Kdq C (Lmt hy20) E Z E E E E E<|gO 3 E<|jC E h21 (fun h22=>?_) fun h25=>bK h25 fun q26 hq26 h27=>gA 4 E<|Kgp [(1,.ptr 0 0),(5,.ptr 1 0),(23,.d (Sl Lll d.Owners)),(24,I (d.Owners.length:Int)),(25,I (i9:Int)),(47,B q26)] [.box 29 (fD d),.box 155 [S x11.Tag,.d (Sl eS x11.Users)]] ?_ ?_
   ·refine gA 9 E<|bK h22 fun v23 hv23 h24=>?_
    cases h24
    obtain rfl:=hout18 _ rfl
    cases h13
    exact gA 4 E<|oSi hv23▸gP E E
   ·refine jD<|gA 3 E<|Kaw E E (fun hb=>?_) (fun hb=>?_)
    ·have h28:=cT hq26 hb
     exact bK h28 fun x29 hx29 h30=>Kcg hΓ 6 E<|Kbr E E (Kcz hΓ (enc:=Lll) hx29 E E E E E (fun _=>E))<|Kcg hΓ 5 E<|oSi h30▸⟨⟨E,E,E,E,E,E,tV⟩,[],E,.inl E⟩
    have h31:=cF hq26 hb
    exact Kcg hΓ 12 E<|oSi h31▸⟨⟨E,E,E,E,E,E,tV⟩,[],E,.inl E⟩
   refine gA 1 E<|jC E h27 (fun h32=>?_) fun h35=>gA 10 E<|bK h35 fun q39 hq39 h40=>Kcy 49 E fun hb42=>Kgo (R:=fun a41=>q39=.go a41) (fun a41=>[(1,.ptr 0 0),(23,.d (Sl Lll d.Owners)),(24,I (d.Owners.length:Int)),(25,I (i9:Int))]) (fun a41=>[.box 29 (fD d),.box 155 [S x11.Tag,.d (Sl eS x11.Users)]]) ?_ ?_
   ·refine gA 9 E<|bK h32 fun v33 hv33 h34=>?_
    cases h34
    obtain rfl:=hout18 _ rfl
    cases h13
    exact gA 4 E<|oSi hv33▸gP E E
   ·refine gA 1 E<|Kcx x11.Users hq39 (fun i36 s37=>[(1,.ptr 0 0),(5,.ptr 1 0),(23,.d (Sl Lll d.Owners)),(24,I (d.Owners.length:Int)),(25,I (i9:Int)),(49,.d (Sl eS x11.Users)),(50,I (x11.Users.length:Int)),(51,I (i36:Int))]) (fun s37=>[.box 29 (fD d),.box 155 [S x11.Tag,.d (Sl eS x11.Users)]]) ⟨⟨E,E,E,E,E,E,E,E,tV⟩,[],E,.inl E⟩ (fun i36 x38 s37 y46 hx43 hlt hy44 hout45=>?_) (fun s37 hgo=>?_)
    ·refine gA 6 E<|Kcj E (dT (Int.ofNat_lt.2 hlt))<|gA 7 E<|eo_o E (Kcz hΓ (enc:=eS) (Kcs hx43) E E E E E (fun _=>E))<|bK hy44 fun y47 hy47 h48=>gO 11 E<|Kdq C (Lmw hy47) E Z E E E E E<|gO 3 E<|jC E h48 (fun h49=>?_) fun h54=>gA 7 E<|bK h54 fun q55 hq55 h56=>Kco 9 [(1,.ptr 0 0),(5,.ptr 1 0),(23,.d (Sl Lll d.Owners)),(24,I (d.Owners.length:Int)),(25,I (i9:Int)),(49,.d (Sl eS x11.Users)),(50,I (x11.Users.length:Int)),(51,I (i36:Int)),(72,B q55)] [.box 29 (fD d),.box 155 [S x11.Tag,.d (Sl eS x11.Users)]] ?_ ?_
     ·refine gA 9 E<|bK h49 fun v50 hv50 h51=>?_
      cases h51
      obtain rfl:=hout45 _ rfl
      cases h40
      refine gA 5 E<|bK hv50 fun v52 hv52 h53=>?_
      cases h53
      obtain rfl:=hout18 _ rfl
      cases h13
      exact gA 4 E<|oSi hv52▸gP E E
     ·refine Koz E E (fun hb=>?_) (fun hb=>?_)
      ·have h57:=cT hq55 hb
       exact bK h57 fun x58 hx58 h59=>gO 5 E<|Kox E<|eo_o E (Kcz hΓ (enc:=eS) hx58 E E E E E (fun _=>E))<|gO 4 E<|oSi h59▸⟨⟨E,E,E,E,E,E,E,E,E,tV⟩,[],E,.inl E⟩
      have h60:=cF hq55 hb
      exact gO 10 E<|oSi h60▸⟨⟨E,E,E,E,E,E,E,E,E,tV⟩,[],E,.inl E⟩
     refine gO 2 E<|jC E h56 (fun h61=>?_) fun h66=>gA 7 E ?_
     ·refine gA 8 E<|bK h61 fun v62 hv62 h63=>?_
      cases h63
      obtain rfl:=hout45 _ rfl
      cases h40
      refine gA 5 E<|bK hv62 fun v64 hv64 h65=>?_
      cases h65
      obtain rfl:=hout18 _ rfl
      cases h13
      exact gA 4 E<|oSi hv64▸gP E E
     cases h66
     exact⟨_,E,⟨⟨E,E,E,E,E,E,E,Kbp E (Kbo (nLl hlt hb42)),tV⟩,[],E,.inl E⟩⟩
    subst hgo
    exact gA 6 E<|Kck E (dF (Int.lt_irrefl _))<|gA 4 E<|⟨_,E,⟨⟨E,E,E,E,tV⟩,[],E,.inl E⟩⟩
   intro a41 ha
   subst ha
   replace h40:=Kgi h40
   refine gA 6 E ?_
   cases h40
   exact⟨_,E,⟨⟨E,E,E,Kbp E (Kbo (nLl hlt hb15)),tV⟩,[_],E,.inr ⟨HB.mk E,FB.mk E,Z⟩⟩⟩
  subst hgo
  exact gA 6 E<|Kck E (dF (Int.lt_irrefl _))<|gA 4 E<|⟨_,E,⟨⟨E,tV⟩,[],E,.inl E⟩⟩
 intro a14 ha
 subst ha
 replace h13:=Kgi h13
 refine bK h13 fun y67 hy67 h68=>gA 6 E<|Kdq C (Lmx hy67) E Z E E E E E<|gO 3 E<|jC E h68 (fun h69=>?_) fun h70=>gA 8 E<|oSi h70▸gP E E
 exact gA 7 E<|oSi h69▸gP E E
theorem Lmz{v_at:Int}{r:Bool}(h:Lgm v_at=some r):Pure Tryz.prog 143 [I v_at] (B r):=by
 unfold Lgm at h
 exact QP Tryz.func143 E E E<|bK h fun y1 hy1 h2=>gA 8 E<|Kdq C (Lmr hy1) E Z E E E E E<|gO 4 E<|oSi h2▸gP E E
theorem Lna{kind:Int}{r:Str}(h:Lgn kind=some r):Pure Tryz.prog 198 [I kind] (S r):=by
 unfold Lgn at h
 exact QP Tryz.func198 E E E<|gA 7 E<|Kdk hΓ (enc:=eS) [[],[98,106,116,117,115,114],[98,106],[66,110,74,112,109],[98,110],[98,110,112],[98,110,109],[98,110,116],[98,110],[98,110]] E E E E E E E E E E E E Z<|bK h fun x1 hx1 h2=>gO 1 E<|eo_o E (Kcz hΓ (enc:=eS) hx1 E E E E E (fun _=>E))<|gO 5 E<|oSi h2▸gP E E
theorem Lnb{s:Str}{r:Int}(h:Lgo s=some r):Pure Tryz.prog 144 [S s] (I r):=by
 unfold Lgo at h
 refine QP Tryz.func144 E E E<|bK h fun y1 hy1 h2=>gA 9 E<|Kdq C (Lmt hy1) E Z E E E E E<|gO 3 E<|jC E h2 (fun h3=>?_) fun h4=>gA 8 E<|oSi h4▸gP E E
 exact gA 7 E<|oSi h3▸gP E E
theorem Lnc{s:Str}{r:Bool}(h:Lgp s=some r):Pure Tryz.prog 60 [S s] (B r):=by
 unfold Lgp at h
 refine QP Tryz.func60 E E E<|bK h fun y1 hy1 h2=>gA 9 E<|Kdq C (Lmx hy1) E Z E E E E E<|gO 1 E<|bK h2 fun q3 hq3 h4=>Kco 4 [(2,B false),(10,B q3)] [] ?_ ?_
 ·refine Koz E E (fun hb=>?_) (fun hb=>?_)
  ·have h5:=cT hq3 hb
   exact bK h5 fun y6 hy6 h7=>gO 1 E<|Kox E<|Kdq C (Lel hy6) E Z E E E E E<|gO 3 E<|oSi h7▸⟨⟨E,E,tV⟩,[],E,.inl E⟩
  have h8:=cF hq3 hb
  exact gO 5 E<|oSi h8▸⟨⟨E,E,tV⟩,[],E,.inl E⟩
 exact gO 4 E<|oSi h4▸gP E E
theorem Lnd{s:Ley}{c:Int}{r:Int}(h:Lgq s c=some r):Pure Tryz.prog 199 [.agg (fS s),.d (.v (.int .i32 c))] (I r):=by
 unfold Lgq at h
 refine QP Tryz.func199 E E E<|gA 2 E<|Kqg E E E E Z<|bK h fun q1 hq1 h2=>gO 9 E<|Kgr (q:=q1) (fun a3=>[]) (fun a3=>[.box 37 (fS s)]) ?_ ?_
 ·refine bK hq1 fun q4 hq4 h5=>gA 8 E<|Kgp [(1,.d (.v (.int .i32 c))),(2,.ptr 0 0),(6,.d (.v (.int .i32 c))),(7,B q4)] [.box 37 (fS s)] ?_ ?_
  ·refine jC E hq4 (fun h6=>?_) fun h7=>gA 6 E<|jC E h7 (fun h8=>?_) fun h9=>?_
   ·exact gA 1 E<|oSi h6▸⟨⟨E,E,E,E,tV⟩,[],E,.inl E⟩
   ·exact gA 1 E<|oSi h8▸⟨⟨E,E,E,E,tV⟩,[],E,.inl E⟩
   refine gA 6 E<|jC E h9 (fun h10=>?_) fun h11=>gA 4 E<|oSi h11▸⟨⟨E,E,E,E,tV⟩,[],E,.inl E⟩
   exact gA 1 E<|oSi h10▸⟨⟨E,E,E,E,tV⟩,[],E,.inl E⟩
  refine gA 1 E<|jC E h5 (fun h12=>?_) fun h17=>bK h17 fun q18 hq18 h19=>gA 7 E<|Kgp [(1,.d (.v (.int .i32 c))),(2,.ptr 0 0),(6,.d (.v (.int .i32 c))),(25,B q18)] [.box 37 (fS s)] ?_ ?_
  ·refine gA 2 E<|eo_s Z (nblt.1 E) (Khw false)<|Kdx [.box 37 (fS s),mOb (kI .i32) false eS ([]:List (Int×Str))] E<|gO 2 E<|eo_u Z (Kiv hΓ (kv:=(kI .i32)) (agg:=false) (enc:=eS) (id:=1) ([]:List (Int×Str)) 98 s.By E E E (Khr .i32) E E E E E)<|Kdx [.box 37 (fS s),mOb (kI .i32) false eS (mSet ([]:List (Int×Str)) 98 s.By)] E<|gO 2 E<|eo_u Z (Kiv hΓ (kv:=(kI .i32)) (agg:=false) (enc:=eS) (id:=1) (mSet ([]:List (Int×Str)) 98 s.By) 110 s.Node E E E (Khr .i32) E E E E E)<|Kdx [.box 37 (fS s),mOb (kI .i32) false eS (mSet (mSet ([]:List (Int×Str)) 98 s.By) 110 s.Node)] E<|gO 2 E<|eo_u Z (Kiv hΓ (kv:=(kI .i32)) (agg:=false) (enc:=eS) (id:=1) (mSet (mSet ([]:List (Int×Str)) 98 s.By) 110 s.Node) 106 s.Join E E E (Khr .i32) E E E E E)<|Kdx [.box 37 (fS s),mOb (kI .i32) false eS (mSet (mSet (mSet ([]:List (Int×Str)) 98 s.By) 110 s.Node) 106 s.Join)] E<|gO 2 E<|eo_u Z (Kiv hΓ (kv:=(kI .i32)) (agg:=false) (enc:=eS) (id:=1) (mSet (mSet (mSet ([]:List (Int×Str)) 98 s.By) 110 s.Node) 106 s.Join) 109 s.Name E E E (Khr .i32) E E E E E)<|Kdx [.box 37 (fS s),mOb (kI .i32) false eS (mSet (mSet (mSet (mSet ([]:List (Int×Str)) 98 s.By) 110 s.Node) 106 s.Join) 109 s.Name)] E<|gO 2 E<|eo_o E (Kia hΓ (kv:=(kI .i32)) (agg:=false) (enc:=eS) (mSet (mSet (mSet (mSet ([]:List (Int×Str)) 98 s.By) 110 s.Node) 106 s.Join) 109 s.Name) c ([]:Str) E E E E (Khr .i32) E E E E E E E)<|bK h12 fun y13 hy13 h14=>Kdq C (Lnb hy13) E Z E E E E E<|gO 5 E<|bK h14 fun v15 hv15 h16=>?_
   cases h16
   cases h2
   exact gA 2 E<|oSi hv15▸gP E E
  ·refine jC E hq18 (fun h20=>?_) fun h21=>gA 4 E<|oSi h21▸⟨⟨E,E,E,E,tV⟩,[],E,.inl E⟩
   exact gA 1 E<|oSi h20▸⟨⟨E,E,E,E,tV⟩,[],E,.inl E⟩
  refine gA 1 E<|jC E h19 (fun h22=>?_) fun h29=>gA 6 E<|jC E h29 (fun h30=>?_) fun h37=>?_
  ·refine gA 2 E<|eo_s Z (nblt.1 E) (Khw false)<|Kdx [.box 37 (fS s),mOb (kI .i32) false eS ([]:List (Int×Str))] E<|gO 2 E<|eo_u Z (Kiv hΓ (kv:=(kI .i32)) (agg:=false) (enc:=eS) (id:=1) ([]:List (Int×Str)) 66 s.By E E E (Khr .i32) E E E E E)<|Kdx [.box 37 (fS s),mOb (kI .i32) false eS (mSet ([]:List (Int×Str)) 66 s.By)] E<|gO 2 E<|eo_u Z (Kiv hΓ (kv:=(kI .i32)) (agg:=false) (enc:=eS) (id:=1) (mSet ([]:List (Int×Str)) 66 s.By) 74 s.Join E E E (Khr .i32) E E E E E)<|Kdx [.box 37 (fS s),mOb (kI .i32) false eS (mSet (mSet ([]:List (Int×Str)) 66 s.By) 74 s.Join)] E<|gO 2 E<|eo_o E (Kia hΓ (kv:=(kI .i32)) (agg:=false) (enc:=eS) (mSet (mSet ([]:List (Int×Str)) 66 s.By) 74 s.Join) c ([]:Str) E E E E (Khr .i32) E E E E E E E)<|gO 9 E<|jC E h22 (fun h23=>?_) fun h28=>gA 2 E<|oSi h28▸⟨_,E,⟨tV,[_],E,.inr ⟨HB.mk E,FB.mk E,Z⟩⟩⟩
   refine bK h23 fun y24 hy24 h25=>gA 3 E<|Kdq C (Lnb hy24) E Z E E E E E<|gO 5 E<|bK h25 fun v26 hv26 h27=>?_
   cases h27
   cases h2
   exact gA 2 E<|oSi hv26▸gP E E
  ·refine bK h30 fun y31 hy31 h32=>gA 4 E<|Kdq C (Lnc hy31) E Z E E E E E<|gO 3 E<|jC E h32 (fun h33=>?_) fun h36=>gA 2 E<|oSi h36▸⟨_,E,⟨tV,[],E,.inl E⟩⟩
   refine gA 7 E<|bK h33 fun v34 hv34 h35=>?_
   cases h35
   cases h2
   exact gA 2 E<|oSi hv34▸gP E E
  refine gA 6 E<|jC E h37 (fun h38=>?_) fun h47=>bK h47 fun q48 hq48 h49=>gA 7 E<|Kgp [(1,.d (.v (.int .i32 c))),(2,.ptr 0 0),(55,B q48)] [.box 37 (fS s)] ?_ ?_
  ·refine gA 9 E<|jC E h38 (fun h39=>?_) fun h42=>bK h42 fun y43 hy43 h44=>gA 6 E<|Kdq C (Lmu hy43) E Z E E E E E<|gO 5 E<|bK h44 fun v45 hv45 h46=>?_
   ·refine gA 8 E<|bK h39 fun v40 hv40 h41=>?_
    cases h41
    cases h2
    exact gA 2 E<|oSi hv40▸gP E E
   cases h46
   cases h2
   exact gA 2 E<|oSi hv45▸gP E E
  ·refine jC E hq48 (fun h50=>?_) fun h51=>gA 4 E<|oSi h51▸⟨⟨E,E,E,tV⟩,[],E,.inl E⟩
   exact gA 1 E<|oSi h50▸⟨⟨E,E,E,tV⟩,[],E,.inl E⟩
  refine gA 1 E<|jC E h49 (fun h52=>?_) fun h59=>gA 2 E<|oSi h59▸⟨_,E,⟨tV,[],E,.inl E⟩⟩
  refine gA 2 E<|eo_s Z (nblt.1 E) (Khw false)<|Kdx [.box 37 (fS s),mOb (kI .i32) false (eN .i64) ([]:List (Int×Int))] E<|gO 2 E<|eo_u Z (Kiv hΓ (kv:=(kI .i32)) (agg:=false) (enc:=(eN .i64)) (id:=1) ([]:List (Int×Int)) 117 s.Until E E E (Khr .i32) E E E E E)<|Kdx [.box 37 (fS s),mOb (kI .i32) false (eN .i64) (mSet ([]:List (Int×Int)) 117 s.Until)] E<|gO 2 E<|eo_u Z (Kiv hΓ (kv:=(kI .i32)) (agg:=false) (enc:=(eN .i64)) (id:=1) (mSet ([]:List (Int×Int)) 117 s.Until) 115 s.Uses E E E (Khr .i32) E E E E E)<|Kdx [.box 37 (fS s),mOb (kI .i32) false (eN .i64) (mSet (mSet ([]:List (Int×Int)) 117 s.Until) 115 s.Uses)] E<|gO 2 E<|eo_o E (Kia hΓ (kv:=(kI .i32)) (agg:=false) (enc:=(eN .i64)) (mSet (mSet ([]:List (Int×Int)) 117 s.Until) 115 s.Uses) c (0:Int) E E E E (Khr .i32) E E E E E E E)<|bK h52 fun y53 hy53 h54=>Kdq C (Lmx hy53) E Z E E E E E<|gO 3 E<|jC E h54 (fun h55=>?_) fun h58=>gA 2 E<|oSi h58▸⟨_,E,⟨tV,[_],E,.inr ⟨HB.mk E,FB.mk E,Z⟩⟩⟩
  refine gA 7 E<|bK h55 fun v56 hv56 h57=>?_
  cases h57
  cases h2
  exact gA 2 E<|oSi hv56▸gP E E
 intro a3 ha
 subst ha
 replace h2:=Kgh h2
 exact gA 7 E<|oSi h2▸gP E E
theorem Lne{s:Ley}{r:Int}(h:Lgr s=some r):Pure Tryz.prog 95 [.agg (fS s)] (I r):=by
 unfold Lgr at h
 refine QP Tryz.func95 E E E<|gA 2 E<|Kqg E E E E Z<|bK h fun y1 hy1 h2=>gO 9 E<|Kdq C (Lmz hy1) E Z E E E E E<|gO 4 E<|jC E h2 (fun h3=>?_) fun h4=>bK h4 fun y5 hy5 h6=>gA 4 E<|Kdq C (Lmt hy5) E Z E E E E E<|gO 4 E<|jC E h6 (fun h7=>?_) fun h8=>?_
 ·exact gA 8 E<|oSi h3▸gP E E
 ·exact gA 8 E<|oSi h7▸gP E E
 refine bK h8 fun y9 hy9 h10=>gA 4 E<|Kdq C (Lmx hy9) E Z E E E E E<|gO 4 E<|jC E h10 (fun h11=>?_) fun h12=>bK h12 fun y13 hy13 h14=>gA 4 E<|Kdq C (Lmx hy13) E Z E E E E E<|gO 4 E<|jC E h14 (fun h15=>?_) fun h16=>?_
 ·exact gA 8 E<|oSi h11▸gP E E
 ·exact gA 8 E<|oSi h15▸gP E E
 refine bK h16 fun y17 hy17 h18=>gA 8 E<|Kdq C (Lna hy17) E Z E E E E E<|gK h18 fun hg20 h19=>Kln hΓ y17 E E E E Z<|gO 2 E<|bK h19 fun q26 hq26 h27=>gA 1 E<|Klp y17 hq26 (fun sn23 s21=>[(1,.ptr 0 0),(33,.ptr 1 0)]) (fun sn23 s21=>[.box 37 (fS s),.siter y17 sn23]) ⟨⟨E,E,tV⟩,[],E,.inl E⟩ (fun sn23 s21 hdone28 hstep29=>?_)
 refine gA 2 E<|Klo y17 sn23 [.box 37 (fS s),.dead] E E E E Z hg20 (fun hdsn23=>?_) (fun x22 hjsn23=>?_)
 ·have hqsn23:=hdone28 hdsn23
  subst hqsn23
  replace h27:=Kgi h27
  refine bK h27 fun y30 hy30 h31=>gO 14 E<|Kdq C (Lna hy30) E Z E E E E E<|bK h31 fun y32 hy32 h33=>Kdq C (Leq hy32) E Z E E E E E<|gO 5 E<|eo_s Z (nblt.1 E) (Khw false)<|Kdx [.box 37 (fS s),.dead,mOb (kI .u8) false eB ([]:List (Int×Bool))] E<|gO 3 E<|eo_u Z (Kiv hΓ (kv:=(kI .u8)) (agg:=false) (enc:=eB) (id:=2) ([]:List (Int×Bool)) 98 ((s.By:Str)==[]) E E E (Khr .u8) E E E E E)<|Kdx [.box 37 (fS s),.dead,mOb (kI .u8) false eB (mSet ([]:List (Int×Bool)) 98 ((s.By:Str)==[]))] E<|gO 3 E<|eo_u Z (Kiv hΓ (kv:=(kI .u8)) (agg:=false) (enc:=eB) (id:=2) (mSet ([]:List (Int×Bool)) 98 ((s.By:Str)==[])) 110 ((s.Node:Str)==[]) E E E (Khr .u8) E E E E E)<|Kdx [.box 37 (fS s),.dead,mOb (kI .u8) false eB (mSet (mSet ([]:List (Int×Bool)) 98 ((s.By:Str)==[])) 110 ((s.Node:Str)==[]))] E<|gO 3 E<|eo_u Z (Kiv hΓ (kv:=(kI .u8)) (agg:=false) (enc:=eB) (id:=2) (mSet (mSet ([]:List (Int×Bool)) 98 ((s.By:Str)==[])) 110 ((s.Node:Str)==[])) 106 ((s.Join:Str)==[]) E E E (Khr .u8) E E E E E)<|Kdx [.box 37 (fS s),.dead,mOb (kI .u8) false eB (mSet (mSet (mSet ([]:List (Int×Bool)) 98 ((s.By:Str)==[])) 110 ((s.Node:Str)==[])) 106 ((s.Join:Str)==[]))] E<|gO 3 E<|eo_u Z (Kiv hΓ (kv:=(kI .u8)) (agg:=false) (enc:=eB) (id:=2) (mSet (mSet (mSet ([]:List (Int×Bool)) 98 ((s.By:Str)==[])) 110 ((s.Node:Str)==[])) 106 ((s.Join:Str)==[])) 112 ((s.Public:Str)==[]) E E E (Khr .u8) E E E E E)<|Kdx [.box 37 (fS s),.dead,mOb (kI .u8) false eB (mSet (mSet (mSet (mSet ([]:List (Int×Bool)) 98 ((s.By:Str)==[])) 110 ((s.Node:Str)==[])) 106 ((s.Join:Str)==[])) 112 ((s.Public:Str)==[]))] E<|gO 3 E<|eo_u Z (Kiv hΓ (kv:=(kI .u8)) (agg:=false) (enc:=eB) (id:=2) (mSet (mSet (mSet (mSet ([]:List (Int×Bool)) 98 ((s.By:Str)==[])) 110 ((s.Node:Str)==[])) 106 ((s.Join:Str)==[])) 112 ((s.Public:Str)==[])) 109 ((s.Name:Str)==[]) E E E (Khr .u8) E E E E E)<|Kdx [.box 37 (fS s),.dead,mOb (kI .u8) false eB (mSet (mSet (mSet (mSet (mSet ([]:List (Int×Bool)) 98 ((s.By:Str)==[])) 110 ((s.Node:Str)==[])) 106 ((s.Join:Str)==[])) 112 ((s.Public:Str)==[])) 109 ((s.Name:Str)==[]))] E<|gO 4 E<|eo_u Z (Kiv hΓ (kv:=(kI .u8)) (agg:=false) (enc:=eB) (id:=2) (mSet (mSet (mSet (mSet (mSet ([]:List (Int×Bool)) 98 ((s.By:Str)==[])) 110 ((s.Node:Str)==[])) 106 ((s.Join:Str)==[])) 112 ((s.Public:Str)==[])) 109 ((s.Name:Str)==[])) 116 (((s.Tags.length:Int):Int)==0) E E E (Khr .u8) E E E E E)<|Kdx [.box 37 (fS s),.dead,mOb (kI .u8) false eB (mSet (mSet (mSet (mSet (mSet (mSet ([]:List (Int×Bool)) 98 ((s.By:Str)==[])) 110 ((s.Node:Str)==[])) 106 ((s.Join:Str)==[])) 112 ((s.Public:Str)==[])) 109 ((s.Name:Str)==[])) 116 (((s.Tags.length:Int):Int)==0))] E<|gO 3 E<|eo_u Z (Kiv hΓ (kv:=(kI .u8)) (agg:=false) (enc:=eB) (id:=2) (mSet (mSet (mSet (mSet (mSet (mSet ([]:List (Int×Bool)) 98 ((s.By:Str)==[])) 110 ((s.Node:Str)==[])) 106 ((s.Join:Str)==[])) 112 ((s.Public:Str)==[])) 109 ((s.Name:Str)==[])) 116 (((s.Tags.length:Int):Int)==0)) 117 ((s.Until:Int)==0) E E E (Khr .u8) E E E E E)<|Kdx [.box 37 (fS s),.dead,mOb (kI .u8) false eB (mSet (mSet (mSet (mSet (mSet (mSet (mSet ([]:List (Int×Bool)) 98 ((s.By:Str)==[])) 110 ((s.Node:Str)==[])) 106 ((s.Join:Str)==[])) 112 ((s.Public:Str)==[])) 109 ((s.Name:Str)==[])) 116 (((s.Tags.length:Int):Int)==0)) 117 ((s.Until:Int)==0))] E<|gO 3 E<|eo_u Z (Kiv hΓ (kv:=(kI .u8)) (agg:=false) (enc:=eB) (id:=2) (mSet (mSet (mSet (mSet (mSet (mSet (mSet ([]:List (Int×Bool)) 98 ((s.By:Str)==[])) 110 ((s.Node:Str)==[])) 106 ((s.Join:Str)==[])) 112 ((s.Public:Str)==[])) 109 ((s.Name:Str)==[])) 116 (((s.Tags.length:Int):Int)==0)) 117 ((s.Until:Int)==0)) 115 ((s.Uses:Int)==0) E E E (Khr .u8) E E E E E)<|Kdx [.box 37 (fS s),.dead,mOb (kI .u8) false eB (mSet (mSet (mSet (mSet (mSet (mSet (mSet (mSet ([]:List (Int×Bool)) 98 ((s.By:Str)==[])) 110 ((s.Node:Str)==[])) 106 ((s.Join:Str)==[])) 112 ((s.Public:Str)==[])) 109 ((s.Name:Str)==[])) 116 (((s.Tags.length:Int):Int)==0)) 117 ((s.Until:Int)==0)) 115 ((s.Uses:Int)==0))] E<|gO 3 E<|eo_u Z (Kiv hΓ (kv:=(kI .u8)) (agg:=false) (enc:=eB) (id:=2) (mSet (mSet (mSet (mSet (mSet (mSet (mSet (mSet ([]:List (Int×Bool)) 98 ((s.By:Str)==[])) 110 ((s.Node:Str)==[])) 106 ((s.Join:Str)==[])) 112 ((s.Public:Str)==[])) 109 ((s.Name:Str)==[])) 116 (((s.Tags.length:Int):Int)==0)) 117 ((s.Until:Int)==0)) 115 ((s.Uses:Int)==0)) 114 (!s.Ready) E E E (Khr .u8) E E E E E)<|Kdx [.box 37 (fS s),.dead,mOb (kI .u8) false eB (mSet (mSet (mSet (mSet (mSet (mSet (mSet (mSet (mSet ([]:List (Int×Bool)) 98 ((s.By:Str)==[])) 110 ((s.Node:Str)==[])) 106 ((s.Join:Str)==[])) 112 ((s.Public:Str)==[])) 109 ((s.Name:Str)==[])) 116 (((s.Tags.length:Int):Int)==0)) 117 ((s.Until:Int)==0)) 115 ((s.Uses:Int)==0)) 114 (!s.Ready))] E<|gO 8 E<|Kiq hΓ (kv:=(kI .u8)) (agg:=false) (enc:=eB) (mSet (mSet (mSet (mSet (mSet (mSet (mSet (mSet (mSet ([]:List (Int×Bool)) 98 ((s.By:Str)==[])) 110 ((s.Node:Str)==[])) 106 ((s.Join:Str)==[])) 112 ((s.Public:Str)==[])) 109 ((s.Name:Str)==[])) 116 (((s.Tags.length:Int):Int)==0)) 117 ((s.Until:Int)==0)) 115 ((s.Uses:Int)==0)) 114 (!s.Ready)) E E E E E Z (fun mr34 bs35 cl36 hpm37 hbl38 hbn39=>?_)
  refine Kdx [.box 37 (fS s),.dead,mObS (kI .u8) false eB (mSet (mSet (mSet (mSet (mSet (mSet (mSet (mSet (mSet ([]:List (Int×Bool)) 98 ((s.By:Str)==[])) 110 ((s.Node:Str)==[])) 106 ((s.Join:Str)==[])) 112 ((s.Public:Str)==[])) 109 ((s.Name:Str)==[])) 116 (((s.Tags.length:Int):Int)==0)) 117 ((s.Until:Int)==0)) 115 ((s.Uses:Int)==0)) 114 (!s.Ready)) (rawM (kI .u8) eB mr34 bs35 cl36),.iter 2 cl36 []] E<|gO 2 E<|bK h33 fun q45 hq45 h46=>gA 1 E<|Klm hq45 hpm37 hbl38 hbn39 (fun s40=>[(6,S y32),(78,.ptr 3 0)]) (fun sn42 s40=>[.box 37 (fS s),.dead,mObS (kI .u8) false eB (mSet (mSet (mSet (mSet (mSet (mSet (mSet (mSet (mSet ([]:List (Int×Bool)) 98 ((s.By:Str)==[])) 110 ((s.Node:Str)==[])) 106 ((s.Join:Str)==[])) 112 ((s.Public:Str)==[])) 109 ((s.Name:Str)==[])) 116 (((s.Tags.length:Int):Int)==0)) 117 ((s.Until:Int)==0)) 115 ((s.Uses:Int)==0)) 114 (!s.Ready)) (rawM (kI .u8) eB mr34 bs35 cl36),.iter 2 cl36 sn42]) ⟨⟨E,E,tV⟩,[],E,.inl E⟩ (fun sn42 s40 hdone47 hstep48=>?_)
  refine gA 2 E<|Kir (kv:=(kI .u8)) (agg:=false) (enc:=eB) (mSet (mSet (mSet (mSet (mSet (mSet (mSet (mSet (mSet ([]:List (Int×Bool)) 98 ((s.By:Str)==[])) 110 ((s.Node:Str)==[])) 106 ((s.Join:Str)==[])) 112 ((s.Public:Str)==[])) 109 ((s.Name:Str)==[])) 116 (((s.Tags.length:Int):Int)==0)) 117 ((s.Until:Int)==0)) 115 ((s.Uses:Int)==0)) 114 (!s.Ready)) mr34 bs35 cl36 sn42 [.box 37 (fS s),.dead,mOb (kI .u8) false eB (mSet (mSet (mSet (mSet (mSet (mSet (mSet (mSet (mSet ([]:List (Int×Bool)) 98 ((s.By:Str)==[])) 110 ((s.Node:Str)==[])) 106 ((s.Join:Str)==[])) 112 ((s.Public:Str)==[])) 109 ((s.Name:Str)==[])) 116 (((s.Tags.length:Int):Int)==0)) 117 ((s.Until:Int)==0)) 115 ((s.Uses:Int)==0)) 114 (!s.Ready)),.dead] E E E E E Z (fun hdsn42=>?_) (fun j43 x41 b44 hjsn42 hbsn42 hnsn42=>?_)
  ·have hqsn42:=hdone47 hdsn42
   subst hqsn42
   replace h46:=Kgi h46
   exact gO 16 E<|oSi h46▸gP E E
  obtain⟨s49,h50,houtsn42⟩:=hstep48 j43 x41 b44 hjsn42 hbsn42 hnsn42
  have hssn42:=h50
  refine gO 10 E<|eo_o E (Kis (kv:=(kI .u8)) (agg:=false) (enc:=eB) (mSet (mSet (mSet (mSet (mSet (mSet (mSet (mSet (mSet ([]:List (Int×Bool)) 98 ((s.By:Str)==[])) 110 ((s.Node:Str)==[])) 106 ((s.Join:Str)==[])) 112 ((s.Public:Str)==[])) 109 ((s.Name:Str)==[])) 116 (((s.Tags.length:Int):Int)==0)) 117 ((s.Until:Int)==0)) 115 ((s.Uses:Int)==0)) 114 (!s.Ready)) mr34 bs35 cl36 sn42 hjsn42 hbsn42 E E E E (fun _=>E))<|gO 11 E<|bK h50 fun q51 hq51 h52=>Kco 5 [(6,S y32),(78,.ptr 3 0),(91,B q51)] [.box 37 (fS s),.dead,mObS (kI .u8) false eB (mSet (mSet (mSet (mSet (mSet (mSet (mSet (mSet (mSet ([]:List (Int×Bool)) 98 ((s.By:Str)==[])) 110 ((s.Node:Str)==[])) 106 ((s.Join:Str)==[])) 112 ((s.Public:Str)==[])) 109 ((s.Name:Str)==[])) 116 (((s.Tags.length:Int):Int)==0)) 117 ((s.Until:Int)==0)) 115 ((s.Uses:Int)==0)) 114 (!s.Ready)) (rawM (kI .u8) eB mr34 bs35 cl36),.iter 2 cl36 (sn42++[b44])] ?_ ?_
  ·refine Koz E E (fun hb=>?_) (fun hb=>?_)
   ·have h53:=cT hq51 hb
    exact bK h53 fun y54 hy54 h55=>gO 2 E<|Kox E<|Kdq C (Lep hy54) E Z E E E E E<|gO 3 E<|oSi h55▸⟨⟨E,E,E,tV⟩,[],E,.inl E⟩
   have h56:=cF hq51 hb
   exact gO 6 E<|oSi h56▸⟨⟨E,E,E,tV⟩,[],E,.inl E⟩
  refine gO 2 E<|jC E h52 (fun h57=>?_) fun h60=>gA 2 E ?_
  ·refine gA 5 E<|Kni (kv:=(kI .u8)) (agg:=false) (enc:=eB) (id:=2) (mSet (mSet (mSet (mSet (mSet (mSet (mSet (mSet (mSet ([]:List (Int×Bool)) 98 ((s.By:Str)==[])) 110 ((s.Node:Str)==[])) 106 ((s.Join:Str)==[])) 112 ((s.Public:Str)==[])) 109 ((s.Name:Str)==[])) 116 (((s.Tags.length:Int):Int)==0)) 117 ((s.Until:Int)==0)) 115 ((s.Uses:Int)==0)) 114 (!s.Ready)) [.box 37 (fS s),.dead,mOb (kI .u8) false eB (mSet (mSet (mSet (mSet (mSet (mSet (mSet (mSet (mSet ([]:List (Int×Bool)) 98 ((s.By:Str)==[])) 110 ((s.Node:Str)==[])) 106 ((s.Join:Str)==[])) 112 ((s.Public:Str)==[])) 109 ((s.Name:Str)==[])) 116 (((s.Tags.length:Int):Int)==0)) 117 ((s.Until:Int)==0)) 115 ((s.Uses:Int)==0)) 114 (!s.Ready)),.iter 2 cl36 (sn42++[b44])] E E Z<|gA 2 E<|bK h57 fun v58 hv58 h59=>?_
   cases h59
   obtain rfl:=houtsn42 _ rfl
   cases h46
   exact gA 3 E<|oSi hv58▸gP E E
  cases h60
  exact⟨j43,x41,b44,_,hjsn42,hbsn42,hnsn42,hssn42,⟨⟨E,E,tV⟩,[],E,.inl E⟩⟩
 obtain⟨s61,h62,houtsn23⟩:=hstep29 x22 hjsn23
 have hssn23:=h62
 refine bK h62 fun y63 hy63 h64=>gO 18 E<|Kdq C (Lnd hy63) E Z E E E E E<|gO 9 E<|jC E h64 (fun h65=>?_) fun h68=>gA 2 E ?_
 ·refine gA 8 E<|bK h65 fun v66 hv66 h67=>?_
  cases h67
  obtain rfl:=houtsn23 _ rfl
  cases h27
  exact gA 3 E<|oSi hv66▸gP E E
 cases h68
 exact⟨x22,_,hjsn23,hssn23,⟨⟨E,E,tV⟩,[],E,.inl E⟩⟩
theorem Lnf{x:Ley}{x2:Ley}{r:Bool}(h:Lgs x x2=some r):EC Tryz.prog 113 [.agg (fS x),.ptr 0 0] [.box 37 (fS x2)] fun g hp'=>g=B r∧hp'=[.box 37 (fS x2)]:=by
 unfold Lgs at h
 refine QN Tryz.func113 E Z<|gA 2 E<|Kqg E E E E Z<|gO 11 E<|Kco 6 [(3,B false),(15,B (((x.Server:Str)==x2.Server)&&((x.No:Int)==x2.No)))] [.box 37 (fS x2),.box 37 (fS x)] ?_ ?_
 ·refine Koz E E (fun hb=>?_) (fun hb=>?_)
  ·exact gO 7 E<|⟨⟨E,Kbq E (Kei hb),tV⟩,[],E,.inl E⟩
  exact gO 7 E<|⟨⟨E,Kbq E (Kej hb),tV⟩,[],E,.inl E⟩
 exact gO 4 E<|oSi h▸Kec hΓ [_] (.inr E) E E E E (.inr ⟨HB.mk E,E⟩)
theorem Lng{s:List Ley}{f:Ley}{r:Int}(h:Lgt s f=some r):EC Tryz.prog 114 [.d (Sl Lln s),.fn (.func 113) [] [.ptr 0 0]] [.box 37 (fS f)] fun g hp'=>g=I r∧hp'=[.box 37 (fS f)]:=by
 unfold Lgt at h
 refine QN Tryz.func114 E Z<|gA 13 E<|bK h fun q4 hq4 h5=>Kcy 0 E fun hb7=>Kgo (R:=fun a6=>q4=.go a6) (fun a6=>[]) (fun a6=>[.box 37 (fS f)]) ?_ ?_
 ·refine gA 1 E<|Kcx s hq4 (fun i1 s2=>[(0,.d (Sl Lln s)),(1,.fn (.func 113) [] [.ptr 0 0]),(7,I (s.length:Int)),(8,I (i1:Int))]) (fun s2=>[.box 37 (fS f)]) ⟨⟨E,E,E,E,tV⟩,[],E,.inl E⟩ (fun i1 x3 s2 y11 hx8 hlt hy9 hout10=>?_) (fun s2 hgo=>?_)
  ·refine gA 6 E<|Kcj E (dT (Int.ofNat_lt.2 hlt))<|gA 15 E<|eo_o E (Kcz hΓ (enc:=Lln) (Kcs hx8) E E E E E (fun _=>E))<|bK hy9 fun y12 hy12 h13=>gO 1 E<|Kdp [0] (B y12) [.box 37 (fS f)] C (Lnf hy12) E Z E E E E E E E E E E<|gO 2 E<|jC E h13 (fun h14=>?_) fun h17=>gA 7 E ?_
   ·refine gA 9 E<|bK h14 fun v15 hv15 h16=>?_
    cases h16
    obtain rfl:=hout10 _ rfl
    cases h5
    exact gA 4 E<|oSi hv15▸Kec hΓ [] (.inr E) E E E E (.inl E)
   cases h17
   exact⟨_,E,⟨⟨E,E,E,Kbp E (Kbo (nLl hlt hb7)),tV⟩,[],E,.inl E⟩⟩
  subst hgo
  exact gA 6 E<|Kck E (dF (Int.lt_irrefl _))<|gA 4 E<|⟨_,E,⟨tV,[],E,.inl E⟩⟩
 intro a6 ha
 subst ha
 replace h5:=Kgi h5
 exact gA 7 E<|oSi h5▸Kec hΓ [] (.inr E) E E E E (.inl E)
theorem Lnh{s:List Ley}{f:Ley}{r:Bool}(h:Lgu s f=some r):EC Tryz.prog 90 [.d (Sl Lln s),.fn (.func 113) [] [.ptr 0 0]] [.box 37 (fS f)] fun g hp'=>g=B r∧hp'=[.box 37 (fS f)]:=by
 unfold Lgu at h
 exact QN Tryz.func90 E Z<|bK h fun y1 hy1 h2=>gA 9 E<|Kdp [0] (I y1) [.box 37 (fS f)] C (Lng hy1) E Z E E E E E E E E E E<|gO 5 E<|oSi h2▸Kec hΓ [] (.inr E) E E E E (.inl E)
theorem Lni{l:List Ley}{r:Int}(h:Lgv l=some r):Pure Tryz.prog 32 [.d (Sl Lln l)] (I r):=by
 unfold Lgv at h
 refine QP Tryz.func32 E E E<|gA 13 E<|jC E h (fun h1=>?_) fun h2=>gA 10 E<|bK h2 fun q6 hq6 h7=>Kcy 0 E fun hb9=>Kgo (R:=fun a8=>q6=.go a8) (fun a8=>[]) (fun a8=>[]) ?_ ?_
 ·exact gA 7 E<|oSi h1▸gP E E
 ·refine gA 1 E<|Kcx l hq6 (fun i3 s4=>[(0,.d (Sl Lln l)),(9,.d (Sl Lln l)),(10,I (l.length:Int)),(11,I (i3:Int))]) (fun s4=>[]) ⟨⟨E,E,E,E,tV⟩,[],E,.inl E⟩ (fun i3 x5 s4 y13 hx10 hlt hy11 hout12=>?_) (fun s4 hgo=>?_)
  ·refine gA 6 E<|Kcj E (dT (Int.ofNat_lt.2 hlt))<|gA 7 E<|eo_o E (Kcz hΓ (enc:=Lln) (Kcs hx10) E E E E E (fun _=>E))<|gO 1 E<|Kqf hΓ E E E Z<|gO 1 E<|Kqk hΓ E E E E E E E E Z<|Kdx [.box 37 (fS x5)] E<|bK hy11 fun y14 hy14 h15=>gO 6 E<|Kdq C (Lne hy14) E Z E E E E E<|gO 9 E<|jC E h15 (fun h16=>?_) fun h19=>bK h19 fun q20 hq20 h21=>gA 4 E<|Kgp [(0,.d (Sl Lln l)),(3,I (i3:Int)),(4,.ptr 0 0),(9,.d (Sl Lln l)),(10,I (l.length:Int)),(11,I (i3:Int)),(32,B q20)] [.box 37 (fS x5)] ?_ ?_
   ·refine gA 10 E<|bK h16 fun v17 hv17 h18=>?_
    cases h18
    obtain rfl:=hout12 _ rfl
    cases h7
    exact gA 4 E<|oSi hv17▸gP E E
   ·refine jD<|gA 3 E<|Kaw E E (fun hb=>?_) (fun hb=>?_)
    ·have h22:=cT hq20 hb
     exact bK h22 fun x23 hx23 h24=>Kcg hΓ 3 E<|Kbr E E (Kcz hΓ (enc:=Lln) hx23 E E E E E (fun _=>E))<|bK h24 fun y25 hy25 h26=>Kcg hΓ 2 E<|Kds C (Lmm hy25) E E E E E E E<|Kcg hΓ 3 E<|oSi h26▸⟨⟨E,E,E,E,E,E,E,tV⟩,[],E,.inl E⟩
    have h27:=cF hq20 hb
    exact Kcg hΓ 10 E<|oSi h27▸⟨⟨E,E,E,E,E,E,E,tV⟩,[],E,.inl E⟩
   refine gA 1 E<|jC E h21 (fun h28=>?_) fun h31=>bK h31 fun z32 hz32 h33=>gA 6 E<|eo_o E (Kdg hΓ (enc:=Lln) hz32 E E E E E E (fun _=>E))<|bK h33 fun y34 hy34 h35=>gO 1 E<|Kdp [0] (B y34) [.box 37 (fS x5)] C (Lnh hy34) E Z E E E E E E E E E E<|gO 2 E<|jC E h35 (fun h36=>?_) fun h39=>?_
   ·refine gA 9 E<|bK h28 fun v29 hv29 h30=>?_
    cases h30
    obtain rfl:=hout12 _ rfl
    cases h7
    exact gA 4 E<|oSi hv29▸gP E E
   ·refine gA 8 E<|bK h36 fun v37 hv37 h38=>?_
    cases h38
    obtain rfl:=hout12 _ rfl
    cases h7
    exact gA 4 E<|oSi hv37▸gP E E
   refine gA 7 E ?_
   cases h39
   exact⟨_,E,⟨⟨E,E,E,Kbp E (Kbo (nLl hlt hb9)),tV⟩,[_],E,.inr ⟨HB.mk E,FB.mk E,Z⟩⟩⟩
  subst hgo
  exact gA 6 E<|Kck E (dF (Int.lt_irrefl _))<|gA 4 E<|⟨_,E,⟨tV,[],E,.inl E⟩⟩
 intro a8 ha
 subst ha
 replace h7:=Kgi h7
 exact gA 7 E<|oSi h7▸gP E E
theorem Lnj{vals:List Int}{r:Int}(h:Lgw vals=some r):Pure Tryz.prog 34 [.d (Sl (eN .i64) vals)] (I r):=by
 unfold Lgw at h
 refine QP Tryz.func34 E E E<|gA 18 E<|bK h fun q4 hq4 h5=>Kcy 6 E fun hb7=>Kgo (R:=fun a6=>q4=.go a6) (fun a6=>[(3,I 0)]) (fun a6=>[]) ?_ ?_
 ·refine gA 1 E<|Kcx vals hq4 (fun i1 s2=>[(3,I 0),(6,.d (Sl (eN .i64) vals)),(7,I (vals.length:Int)),(8,I (i1:Int))]) (fun s2=>[]) ⟨⟨E,E,E,E,tV⟩,[],E,.inl E⟩ (fun i1 x3 s2 y11 hx8 hlt hy9 hout10=>?_) (fun s2 hgo=>?_)
  ·refine gA 6 E<|Kcj E (dT (Int.ofNat_lt.2 hlt))<|gA 6 E<|eo_o E (Kcz hΓ (enc:=(eN .i64)) (Kcs hx8) E E E E E (fun _=>E))<|gO 11 E<|jC E hy9 (fun h12=>?_) fun h15=>gA 7 E ?_
   ·refine gA 9 E<|bK h12 fun v13 hv13 h14=>?_
    cases h14
    obtain rfl:=hout10 _ rfl
    cases h5
    exact gA 4 E<|oSi hv13▸gP E E
   cases h15
   exact⟨_,E,⟨⟨E,E,E,Kbp E (Kbo (nLl hlt hb7)),tV⟩,[],E,.inl E⟩⟩
  subst hgo
  exact gA 6 E<|Kck E (dF (Int.lt_irrefl _))<|gA 4 E<|⟨_,E,⟨⟨E,tV⟩,[],E,.inl E⟩⟩
 intro a6 ha
 subst ha
 replace h5:=Kgi h5
 exact gA 8 E<|oSi h5▸gP E E
theorem Lnk{k:Nat}{s:Lev}{many:Int}{r:Lez×Lev}(h:Lgx k s many=some r):EC Tryz.prog 10 [.ptr 0 0,I many] [.box 25 (fQ s)] fun g hp'=>g=.agg [.d (Sl eS r.1.d.Users),.d (Sl Lll r.1.d.Owners),I r.1.d.Life,B r.1.d.Approve,.d (Sl Lln r.1.l),I r.1.fault]∧hp'=[.box 25 (fQ r.2)]:=by
 unfold Lgx at h
 exact QN Tryz.func10 E Z<|gA 2 E<|Kqf hΓ E E E Z<|bK h fun y1 hy1 h2=>gO 5 E<|Kdp [0] (.agg (fD y1.1)) [.box 25 (fQ y1.2),.box 33 [.d (Sl eS []),.d (Sl Lll []),I 0,B false,.d (Sl Lln []),I 0]] C (Lmf hy1) E Z E E E E E E E E E E<|bK h2 fun y3 hy3 h4=>gO 2 E<|Kdp [0] (.sl 2 y3.1.length) [.box 25 (fQ y3.2),.box 33 [.d (Sl eS []),.d (Sl Lll []),I 0,B false,.d (Sl Lln []),I 0],rO 37 13 Lln y3.1] C (Lmq hy3) E Z E E E E E E E E E E<|Kdv 2 [10] _ [.box 25 (fQ y3.2),.box 33 [.d (Sl eS []),.d (Sl Lll []),I 0,B false,.d (Sl Lln []),I 0],.dead] E E E Z<|Kam hΓ (gs:=[.d (Sl eS y1.1.Users),.d (Sl Lll y1.1.Owners),I y1.1.Life,B y1.1.Approve,.d (Sl Lln y3.1),I 0]) E E E E E E E<|Kqf hΓ E E E Z<|Kqk hΓ E E E E E E E E Z<|Kdx [.box 25 (fQ y3.2),.box 33 [.d (Sl eS []),.d (Sl Lll []),I 0,B false,.d (Sl Lln []),I 0],.dead,.box 33 [.d (Sl eS y1.1.Users),.d (Sl Lll y1.1.Owners),I y1.1.Life,B y1.1.Approve,.d (Sl Lln y3.1),I 0]] E<|gO 3 E<|Kfl [.dead,.dead,.dead,.box 33 [.d (Sl eS y1.1.Users),.d (Sl Lll y1.1.Owners),I y1.1.Life,B y1.1.Approve,.d (Sl Lln y3.1),I 0]] [1,4] [9] [9] hmix (by kernel_rfl) (by kernel_rfl) ⟨E,tV⟩ Z<|bK h4 fun y5 hy5 h6=>go_E hΓ 2 E<|Kgb C (Lmy hy5) E E E E E E<|bK h6 fun y7 hy7 h8=>go_E hΓ 2 E<|Kgb C (Lni hy7) E E E E E E<|Kgc hΓ (enc:=(eN .i64)) [y5,y7] E E E E E E E E E E E E<|bK h8 fun y9 hy9 h10=>Kgb C (Lnj hy9) E E E E E E<|go_E hΓ 1 E<|Kft [.box 25 (fQ y3.2),.box 33 [.d (Sl eS []),.d (Sl Lll []),I 0,B false,.d (Sl Lln []),I 0],.dead,.box 33 [.d (Sl eS y1.1.Users),.d (Sl Lll y1.1.Owners),I y1.1.Life,B y1.1.Approve,.d (Sl Lln y3.1),I y9]] E E (Kfu E) (Kfz (Khb hΓ E E E E E E E E E))<|Kfn<|gA 4 E<|Kqk hΓ E E E E E E E E Z<|Kdx [.box 25 (fQ y3.2),.box 33 [.d (Sl eS y1.1.Users),.d (Sl Lll y1.1.Owners),I y1.1.Life,B y1.1.Approve,.d (Sl Lln y3.1),I y9],.dead,.box 33 [.d (Sl eS y1.1.Users),.d (Sl Lll y1.1.Owners),I y1.1.Life,B y1.1.Approve,.d (Sl Lln y3.1),I y9]] E<|gO 3 E<|oSi h10▸Kec hΓ [_,_,_] (.inr E) E E E E (.inr ⟨HB.mk E,E⟩)
theorem Lnl{s:Lev}{r:Int×Lev}(h:Lgy s=some r):EC Tryz.prog 42 [.ptr 0 0] [.box 25 (fQ s)] fun g hp'=>g=I r.1∧hp'=[.box 25 (fQ r.2)]:=by
 unfold Lgy at h
 exact QN Tryz.func42 E Z<|bK h fun y1 hy1 h2=>gA 9 E<|Kdp [0] (I y1.1) [.box 25 (fQ y1.2)] C (Llz hy1) E Z E E E E E E E E E E<|bK h2 fun y3 hy3 h4=>gO 1 E<|Kdp [0] (I y3.1) [.box 25 (fQ y3.2)] C (Llz hy3) E Z E E E E E E E E E E<|gO 1 E<|Kdk hΓ (enc:=(eN .i64)) [345686399,-1,345686400] E E E E E E E E E E E E Z<|bK h4 fun y5 hy5 h6=>Kdp [0] (I y5.1) [.box 25 (fQ y5.2)] C (Lmb hy5) E Z E E E E E E E E E E<|Kdk hΓ (enc:=(eN .i64)) [0,5,20,40,60,80,120,y1.1,y3.1,y5.1] E E E E E E E E E E E E Z<|bK h6 fun y7 hy7 h8=>Kdp [0] (I y7.1) [.box 25 (fQ y7.2)] C (Lmb hy7) E Z E E E E E E E E E E<|gO 4 E<|oSi h8▸Kec hΓ [] (.inr E) E E E E (.inl E)
theorem Lnm{s:Lev}{r:Lfa×Lev}(h:Lgz s=some r):EC Tryz.prog 67 [.ptr 0 0] [.box 25 (fQ s)] fun g hp'=>g=.agg [I r.1.From,I r.1.To]∧hp'=[.box 25 (fQ r.2)]:=by
 unfold Lgz at h
 refine QN Tryz.func67 E Z<|gA 2 E<|Kqf hΓ E E E Z<|gO 5 E<|Kdk hΓ (enc:=(eN .i64)) [0,5,30,100] E E E E E E E E E E E E Z<|bK h fun y1 hy1 h2=>Kdp [0] (I y1.1) [.box 25 (fQ y1.2),.box 114 [I 0,I 0]] C (Lmb hy1) E Z E E E E E E E E E E<|gO 1 E<|Kdk hΓ (enc:=(eN .i64)) [30,100,250,1000,345686400] E E E E E E E E E E E E Z<|bK h2 fun y3 hy3 h4=>Kdp [0] (I y3.1) [.box 25 (fQ y3.2),.box 114 [I 0,I 0]] C (Lmb hy3) E Z E E E E E E E E E E<|Kam hΓ (gs:=[I y1.1,I y3.1]) E E E E E E E<|Kqf hΓ E E E Z<|Kqk hΓ E E E E E E E E Z<|Kdx [.box 25 (fQ y3.2),.box 114 [I 0,I 0],.box 114 [I y1.1,I y3.1]] E<|bK h4 fun y5 hy5 h6=>gO 6 E<|Kdp [0] (B y5.1) [.box 25 (fQ y5.2),.box 114 [I 0,I 0],.box 114 [I y1.1,I y3.1]] C (Lmc hy5) E Z E E E E E E E E E E<|bK h6 fun q7 hq7 h8=>gO 2 E<|Kgp [(2,.ptr 1 0),(3,.ptr 2 0)] [.box 25 (fQ q7.1),.box 114 [I 0,I 0],.box 114 [I q7.2.From,I q7.2.To]] ?_ ?_
 ·refine jC E hq7 (fun h9=>?_) fun h14=>gA 1 E<|oSi h14▸⟨⟨E,E,tV⟩,[],E,.inl E⟩
  exact gA 2 E<|Kdk hΓ (enc:=(eN .i64)) [-1,10] E E E E E E E E E E E E Z<|bK h9 fun y10 hy10 h11=>Kdp [0] (I y10.1) [.box 25 (fQ y10.2),.box 114 [I 0,I 0],.box 114 [I y1.1,I y3.1]] C (Lmb hy10) E Z E E E E E E E E E E<|gO 1 E<|Kdk hΓ (enc:=(eN .i64)) [9,345686401] E E E E E E E E E E E E Z<|bK h11 fun y12 hy12 h13=>Kdp [0] (I y12.1) [.box 25 (fQ y12.2),.box 114 [I 0,I 0],.box 114 [I y1.1,I y3.1]] C (Lmb hy12) E Z E E E E E E E E E E<|Kam hΓ (gs:=[I y10.1,I y12.1]) E E E E E E E<|Kqk hΓ E E E E E E E E Z<|Kdx [.box 25 (fQ y12.2),.box 114 [I 0,I 0],.box 114 [I y10.1,I y12.1]] E<|gO 1 E<|oSi h13▸⟨⟨E,E,tV⟩,[],E,.inl E⟩
 exact gA 4 E<|Kqk hΓ E E E E E E E E Z<|Kdx [.box 25 (fQ q7.1),.box 114 [I q7.2.From,I q7.2.To],.box 114 [I q7.2.From,I q7.2.To]] E<|gO 3 E<|oSi h8▸Kec hΓ [_,_] (.inr E) E E E E (.inr ⟨HB.mk E,E⟩)
theorem Lnn{k:Nat}{s:Str}{r:Bool}(h:Lha k s=some r):Pure Tryz.prog 107 [S s] (B r):=by
 unfold Lha at h
 refine QP Tryz.func107 E E E<|gA 11 E<|bK h fun q4 hq4 h5=>Kgo (R:=fun a6=>q4=.inl a6) (fun a6=>[(0,S s)]) (fun a6=>[]) ?_ ?_
 ·refine gA 1 E<|Kcv hq4 (fun s2=>[(0,S s),(3,I s2)]) (fun s2=>[]) ⟨⟨E,E,tV⟩,[],E,.inl E⟩ (fun s2 y10 hy8 hout9=>?_)
  refine gA 9 E<|Kci E (fun hb=>?_) (fun hb=>?_)
  ·have h11:=cT hy8 hb
   refine bK h11 fun c12 hc12 h13=>gA 8 E<|eo_o E (Kda hΓ hc12 E E E E)<|gO 8 E<|Kco 3 [(0,S s),(3,I s2),(4,.d (.v (.int .u8 (c12.toNat:Int)))),(19,B ((decide (((c12.toNat:Int):Int)≥97))&&(decide (((c12.toNat:Int):Int)≤122))))] [] ?_ ?_
   ·refine Koz E E (fun hb=>?_) (fun hb=>?_)
    ·exact gO 4 E<|⟨⟨E,E,E,Kbq E (Kei hb),tV⟩,[],E,.inl E⟩
    exact gO 4 E<|⟨⟨E,E,E,Kbq E (Kej hb),tV⟩,[],E,.inl E⟩
   refine gO 1 E<|Kco 19 [(0,S s),(3,I s2),(39,B (((decide (((c12.toNat:Int):Int)≥97))&&(decide (((c12.toNat:Int):Int)≤122)))||((decide ((s2:Int)>0))&&((((decide (((c12.toNat:Int):Int)≥48))&&(decide (((c12.toNat:Int):Int)≤57)))||(((c12.toNat:Int):Int)==45))||(((c12.toNat:Int):Int)==95)))))] [] ?_ ?_
   ·refine Koz E E (fun hb=>?_) (fun hb=>?_)
    ·exact gO 20 E<|⟨⟨E,E,Kbq E (or_t hb),tV⟩,[],E,.inl E⟩
    refine gO 3 E<|Kco 15 [(0,S s),(3,I s2),(20,B false),(38,B ((decide ((s2:Int)>0))&&((((decide (((c12.toNat:Int):Int)≥48))&&(decide (((c12.toNat:Int):Int)≤57)))||(((c12.toNat:Int):Int)==45))||(((c12.toNat:Int):Int)==95))))] [] ?_ ?_
    ·refine Koz E E (fun hb=>?_) (fun hb=>?_)
     ·refine gO 3 E<|Kco 3 [(0,S s),(3,I s2),(4,.d (.v (.int .u8 (c12.toNat:Int)))),(20,B false),(23,B true),(29,B ((decide (((c12.toNat:Int):Int)≥48))&&(decide (((c12.toNat:Int):Int)≤57))))] [] ?_ ?_
      ·refine Koz E E (fun hb=>?_) (fun hb=>?_)
       ·exact gO 4 E<|⟨⟨E,E,E,E,E,Kbq E (Kei hb),tV⟩,[],E,.inl E⟩
       exact gO 4 E<|⟨⟨E,E,E,E,E,Kbq E (Kej hb),tV⟩,[],E,.inl E⟩
      refine gO 1 E<|Kco 3 [(0,S s),(3,I s2),(4,.d (.v (.int .u8 (c12.toNat:Int)))),(20,B false),(23,B true),(33,B (((decide (((c12.toNat:Int):Int)≥48))&&(decide (((c12.toNat:Int):Int)≤57)))||(((c12.toNat:Int):Int)==45)))] [] ?_ ?_
      ·refine Koz E E (fun hb=>?_) (fun hb=>?_)
       ·exact gO 4 E<|⟨⟨E,E,E,E,E,Kbq E (or_t hb),tV⟩,[],E,.inl E⟩
       exact gO 4 E<|⟨⟨E,E,E,E,E,Kbq E (or_f hb),tV⟩,[],E,.inl E⟩
      refine gO 1 E<|Kco 3 [(0,S s),(3,I s2),(20,B false),(23,B true),(37,B ((((decide (((c12.toNat:Int):Int)≥48))&&(decide (((c12.toNat:Int):Int)≤57)))||(((c12.toNat:Int):Int)==45))||(((c12.toNat:Int):Int)==95)))] [] ?_ ?_
      ·refine Koz E E (fun hb=>?_) (fun hb=>?_)
       ·exact gO 4 E<|⟨⟨E,E,E,E,Kbq E (or_t hb),tV⟩,[],E,.inl E⟩
       exact gO 4 E<|⟨⟨E,E,E,E,Kbq E (or_f hb),tV⟩,[],E,.inl E⟩
      exact gO 2 E<|⟨⟨E,E,E,Kbq E (Kei hb),tV⟩,[],E,.inl E⟩
     exact gO 16 E<|⟨⟨E,E,E,Kbq E (Kej hb),tV⟩,[],E,.inl E⟩
    exact gO 2 E<|⟨⟨E,E,Kbq E (or_f hb),tV⟩,[],E,.inl E⟩
   refine gO 3 E<|jC E h13 (fun h14=>?_) fun h17=>gA 8 E<|oSi h17▸⟨_,E,⟨⟨E,E,tV⟩,[],E,.inl E⟩⟩
   refine gA 8 E<|bK h14 fun v15 hv15 h16=>?_
   cases h16
   obtain rfl:=hout9 _ rfl
   cases h5
   exact gA 4 E<|oSi hv15▸gP E E
  have h18:=cF hy8 hb
  refine gA 4 E ?_
  cases h18
  obtain rfl:=hout9 _ rfl
  exact⟨_,E,⟨⟨E,tV⟩,[],E,.inl E⟩⟩
 intro a6 ha
 subst ha
 replace h5:=Kgh h5
 refine gA 6 E<|Kco 4 [(47,B ((!((s:Str)==[]))&&(decide (((s.length:Int):Int)≤40))))] [] ?_ ?_
 ·refine Koz E E (fun hb=>?_) (fun hb=>?_)
  ·exact gO 5 E<|⟨⟨Kbq E (Kei hb),tV⟩,[],E,.inl E⟩
  exact gO 5 E<|⟨⟨Kbq E (Kej hb),tV⟩,[],E,.inl E⟩
 exact gO 4 E<|oSi h5▸gP E E
theorem Lno{k:Nat}{l:List Str}{r:Int}(h:Lhb k l=some r):Pure Tryz.prog 106 [.d (Sl eS l)] (I r):=by
 unfold Lhb at h
 refine QP Tryz.func106 E E E<|gA 13 E<|bK h fun q4 hq4 h5=>Kcy 0 E fun hb7=>Kgo (R:=fun a6=>q4=.go a6) (fun a6=>[]) (fun a6=>[]) ?_ ?_
 ·refine gA 1 E<|Kcx l hq4 (fun i1 s2=>[(0,.d (Sl eS l)),(5,.d (Sl eS l)),(6,I (l.length:Int)),(7,I (i1:Int))]) (fun s2=>[]) ⟨⟨E,E,E,E,tV⟩,[],E,.inl E⟩ (fun i1 x3 s2 y11 hx8 hlt hy9 hout10=>?_) (fun s2 hgo=>?_)
  ·refine gA 6 E<|Kcj E (dT (Int.ofNat_lt.2 hlt))<|gA 7 E<|eo_o E (Kcz hΓ (enc:=eS) (Kcs hx8) E E E E E (fun _=>E))<|bK hy9 fun y12 hy12 h13=>gO 9 E<|Kdq C (Lnn hy12) E Z E E E E E<|gO 3 E<|jC E h13 (fun h14=>?_) fun h17=>gA 7 E<|bK h17 fun q18 hq18 h19=>Kco 8 [(0,.d (Sl eS l)),(5,.d (Sl eS l)),(6,I (l.length:Int)),(7,I (i1:Int)),(25,B q18)] [] ?_ ?_
   ·refine gA 9 E<|bK h14 fun v15 hv15 h16=>?_
    cases h16
    obtain rfl:=hout10 _ rfl
    cases h5
    exact gA 4 E<|oSi hv15▸gP E E
   ·refine Koz E E (fun hb=>?_) (fun hb=>?_)
    ·have h20:=cT hq18 hb
     exact bK h20 fun x21 hx21 h22=>gO 4 E<|Kox E<|eo_o E (Kcz hΓ (enc:=eS) hx21 E E E E E (fun _=>E))<|gO 4 E<|oSi h22▸⟨⟨E,E,E,E,E,tV⟩,[],E,.inl E⟩
    have h23:=cF hq18 hb
    exact gO 9 E<|oSi h23▸⟨⟨E,E,E,E,E,tV⟩,[],E,.inl E⟩
   refine gO 2 E<|jC E h19 (fun h24=>?_) fun h27=>gA 7 E ?_
   ·refine gA 8 E<|bK h24 fun v25 hv25 h26=>?_
    cases h26
    obtain rfl:=hout10 _ rfl
    cases h5
    exact gA 4 E<|oSi hv25▸gP E E
   cases h27
   exact⟨_,E,⟨⟨E,E,E,Kbp E (Kbo (nLl hlt hb7)),tV⟩,[],E,.inl E⟩⟩
  subst hgo
  exact gA 6 E<|Kck E (dF (Int.lt_irrefl _))<|gA 4 E<|⟨_,E,⟨tV,[],E,.inl E⟩⟩
 intro a6 ha
 subst ha
 replace h5:=Kgi h5
 exact gA 7 E<|oSi h5▸gP E E
theorem Lnp{n:Int}{low:Int}{high:Int}{r:Bool}(h:Lhc n low high=some r):Pure Tryz.prog 108 [I n,I low,I high] (B r):=by
 unfold Lhc at h
 refine QP Tryz.func108 E E E<|gA 11 E<|Kco 4 [(6,B false),(14,B ((decide ((n:Int)<low))||(decide ((n:Int)>high))))] [] ?_ ?_
 ·refine Koz E E (fun hb=>?_) (fun hb=>?_)
  ·exact gO 5 E<|⟨⟨E,Kbq E (or_t hb),tV⟩,[],E,.inl E⟩
  exact gO 5 E<|⟨⟨E,Kbq E (or_f hb),tV⟩,[],E,.inl E⟩
 exact gO 4 E<|oSi h▸gP E E
end Go.Proofs.YtjmlnnanfkiakaaGreatDoor
