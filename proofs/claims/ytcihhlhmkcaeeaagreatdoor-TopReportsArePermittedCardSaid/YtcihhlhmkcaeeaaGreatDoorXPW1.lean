import Derived.Test.YtcihhlhmkcaeeaaGreatDoorXPM
import Derived.Test.YtcihhlhmkcaeeaaGreatDoorGt
import Derived.Test.YtcihhlhmkcaeeaaGreatDoorStr
import Derived.Test.YtcihhlhmkcaeeaaGreatDoorStrC
import Derived.Test.YtcihhlhmkcaeeaaGreatDoorStrJ
import Derived.Test.YtcihhlhmkcaeeaaGreatDoorStr4
import Derived.Test.YtcihhlhmkcaeeaaGreatDoorStrSS
import Derived.Test.YtcihhlhmkcaeeaaGreatDoorStrB
import Derived.Test.YtcihhlhmkcaeeaaGreatDoorSoW
import Derived.Test.YtcihhlhmkcaeeaaGreatDoorGk49
import Derived.Test.YtcihhlhmkcaeeaaGreatDoorGk66
import Derived.Test.YtcihhlhmkcaeeaaGreatDoorGk68
import Derived.Test.YtcihhlhmkcaeeaaGreatDoorGk70
import Derived.Test.YtcihhlhmkcaeeaaGreatDoorGk53
import Derived.Test.YtcihhlhmkcaeeaaGreatDoorGk57
import Derived.Test.YtcihhlhmkcaeeaaGreatDoorSoLays
set_option maxHeartbeats 8000000
set_option linter.all false
set_option maxRecDepth 100000
namespace Go.Proofs.YtcihhlhmkcaeeaaGreatDoor
open Go.Gk
theorem E.{u}{α:Sort u}{a:α}:a=a:=rfl
theorem Z{n m:Nat}(h:Nat.ble n m=true:=by exact rfl):n≤m:=nBe h
theorem C{f:FuncId}{fn:Func}(h:Tryz.prog.funcs[f]?=some fn:=by exact rfl)(h1:fn.body.isNone=false:=by exact rfl)(h2:(fn.name== "runtime.NumGoroutine")=false:=by exact rfl):Callable Tryz.prog f:=Lqk h h1 h2
theorem bK{α β:Type}{x:Option α}{f:α→Option β}{r:β}{G:Prop}(h:bi x f=some r)(k:∀ a,x=some a→f a=some r→G):G:=let⟨a,b,c⟩:=Kdw h;k a b c
theorem gK{α:Type}{c:Bool}{x:Option α}{r:α}{G:Prop}(h:gd c x=some r)(k:c=true→x=some r→G):G:=let⟨a,b⟩:=Kdx h;k a b
section
variable{F N:Nat}{Q:GPost}{fr fr':Fr}{hp:List Ob}{ks:List Kt}
theorem jC{P:Program}{t:Tmp}{x y:Code}{b:Bool}{α:Type}{u v r:α}(hb:fr.get t=some (.d (.v (.bool b))))(h:(bif b then u else v)=r)(h1:u=r→St.holds P F N Q (.code x ks) fr hp)(h2:v=r→St.holds P F N Q (.code y ks) fr hp):St.holds P F N Q (.code (.cond (.tmp t) x y) ks) fr hp:=Kdn hb (fun e=>h1 (cT h e)) fun e=>h2 (cF h e)
theorem gA(n:Nat){st st':St}(h:mrun Γ N hp n st fr=(st',fr'))(k:St.holds Tryz.prog F N Q st' fr' hp):St.holds Tryz.prog F N Q st fr hp:=go hΓ n h k
theorem gO(n:Nat){full:Array Oper}{l:List Oper}{st':St}(h:mrun Γ N hp n (.ops full l ks) fr=(st',fr'))(k:St.holds Tryz.prog F N Q st' fr' hp):EO Tryz.prog F N full l (stk Tryz.prog F N Q ks) fr hp:=Kdk hΓ n h k
theorem jD{id:Nat}{ops:Array Oper}(h:St.holds Tryz.prog F N Q (.draw ops ops.toList ks) fr hp)(hB:Region.lexB .any ops=true:=by kernel_rfl):St.holds Tryz.prog F N Q (.code (.region id ops true) ks) fr hp:=Kdq hmix hB h
theorem QN{f:FuncId}{fn:Func}{c:Code}{gs:List G}{R:G→List Ob→Prop}(hf:Tryz.prog.funcs[f]?=some fn)(hb:fn.body=some c)(hN:gs.length≤fn.ntmps)(h:St.holds Tryz.prog hp.length fn.ntmps (Ret Tryz.prog fn hp.length R) (.code c []) (Fr.of 0 gs) hp):EC Tryz.prog f gs hp R:=Koy (Fr.of 0 gs) hf hb (Fr.of_ok gs) hN fun _=>Kdm h
theorem QM{f:FuncId}{fn:Func}{c:Code}{gs:List G}{R:G→List Ob→Prop}(hf:Tryz.prog.funcs[f]?=some fn)(hb:fn.body=some c)(hN:gs.length≤fn.ntmps)(h:St.holds Tryz.prog hp.length fn.ntmps (fun e fr hp'=>Cv hp.length fn.ntmps (fun fr2 hp2=>Ret Tryz.prog fn hp.length R e fr2 hp2) fr hp') (.code c []) (Fr.of 0 gs) hp):EC Tryz.prog f gs hp R:=Kkm (Fr.of 0 gs) hf hb (Fr.of_ok gs) hN fun _=>Kdm h
theorem QP{f:FuncId}{fn:Func}{c:Code}{gs:List G}{r:G}(hf:Tryz.prog.funcs[f]?=some fn)(hb:fn.body=some c)(hN:Nat.ble gs.length fn.ntmps=true)(hr:r.bel 0=true)(h:St.holds Tryz.prog 0 fn.ntmps (fun e fr hp=>(e=.normal∨e=.ret)∧Res Tryz.prog fn fr hp r) (.code c []) (Fr.of 0 gs) []):Pure Tryz.prog f gs r:=Pure.enter (Fr.of 0 gs) hf hb (Fr.of_ok gs) hN hr (Kdm h)
theorem gP{fn:Func}{gs:List G}{g:G}(h:resAll Γ fr hp fn.results.toList=some gs)(hg:retG gs=g):(Exit.ret=.normal∨Exit.ret=.ret)∧Res Tryz.prog fn fr hp g:=Kfm hΓ (.inr rfl) h hg
end
abbrev Lff(x:Kxc):List D:=[Sl (eN .i64) x.L,.v (.int .i64 x.v_at)]
abbrev Lfg(x:Kxd):List D:=[.v (.string ⟨x.Name.toArray⟩),Sl eS x.Members]
abbrev Lfh(x:Kxe):List D:=[.v (.bool x.Six),.v (.int .u64 x.Hi),.v (.int .u64 x.Lo)]
abbrev Lfi(x:Kxf):List D:=[.v (.bool x.Addr.Six),.v (.int .u64 x.Addr.Hi),.v (.int .u64 x.Addr.Lo),.v (.int .i64 x.Bits)]
abbrev Lfj(x:Kxg):List D:=[.v (.string ⟨x.Name.toArray⟩),.v (.bool x.Net.Addr.Six),.v (.int .u64 x.Net.Addr.Hi),.v (.int .u64 x.Net.Addr.Lo),.v (.int .i64 x.Net.Bits)]
abbrev Lfk(x:Kxh):List D:=[.v (.int .i64 x.Kind),.v (.string ⟨x.Name.toArray⟩),.v (.bool x.Net.Addr.Six),.v (.int .u64 x.Net.Addr.Hi),.v (.int .u64 x.Net.Addr.Lo),.v (.int .i64 x.Net.Bits)]
abbrev Lfl(x:Kxi):List D:=[.v (.int .i64 x.From),.v (.int .i64 x.To)]
abbrev Lfm(x:Kxj):List D:=[.v (.int .i64 x.What.Kind),.v (.string ⟨x.What.Name.toArray⟩),.v (.bool x.What.Net.Addr.Six),.v (.int .u64 x.What.Net.Addr.Hi),.v (.int .u64 x.What.Net.Addr.Lo),.v (.int .i64 x.What.Net.Bits),.v (.int .i64 x.Ports.From),.v (.int .i64 x.Ports.To)]
abbrev Lfn(x:Kxk):List D:=[Sl Lfk x.Src,Sl Lfm x.Dst,.v (.int .i64 x.Proto),Sl eS x.Postures]
abbrev Lfo(x:Kxl):List D:=[.v (.int .i64 x.Proto),.v (.bool x.From.Six),.v (.int .u64 x.From.Hi),.v (.int .u64 x.From.Lo),.v (.bool x.To.Six),.v (.int .u64 x.To.Hi),.v (.int .u64 x.To.Lo),.v (.int .i64 x.FromPort),.v (.int .i64 x.ToPort)]
abbrev Lfp(x:Kxm):List D:=[.v (.int .i64 x.Flow.Proto),.v (.bool x.Flow.From.Six),.v (.int .u64 x.Flow.From.Hi),.v (.int .u64 x.Flow.From.Lo),.v (.bool x.Flow.To.Six),.v (.int .u64 x.Flow.To.Hi),.v (.int .u64 x.Flow.To.Lo),.v (.int .i64 x.Flow.FromPort),.v (.int .i64 x.Flow.ToPort),.v (.bool x.Accept)]
abbrev Lfq(x:Kxn):List D:=[Sl Lfg x.Groups,Sl Lfj x.Hosts,Sl Lfn x.Grants,Sl Lfp x.Tests]
abbrev Lfr(x:Kxo):List D:=[.v (.string ⟨x.Key.toArray⟩),.v (.string ⟨x.User.toArray⟩),.v (.string ⟨x.Name.toArray⟩),Sl eS x.Tags,Sl Lfh x.Addrs,Sl Lfi x.Routes]
abbrev Lfs(x:Kxp):List D:=[.v (.string ⟨x.Node.toArray⟩),.v (.string ⟨x.Posture.toArray⟩)]
abbrev Lft(x:Kxq):List D:=[Sl Lfr x.Nodes,Sl Lfg x.Policy.Groups,Sl Lfj x.Policy.Hosts,Sl Lfn x.Policy.Grants,Sl Lfp x.Policy.Tests,Sl Lfs x.Facts]
abbrev Lfu(x:Kxr):List D:=[.v (.string ⟨x.Node.toArray⟩),.v (.int .i64 x.Hour),.v (.bool x.Out),.v (.int .i64 x.Flow.Proto),.v (.bool x.Flow.From.Six),.v (.int .u64 x.Flow.From.Hi),.v (.int .u64 x.Flow.From.Lo),.v (.bool x.Flow.To.Six),.v (.int .u64 x.Flow.To.Hi),.v (.int .u64 x.Flow.To.Lo),.v (.int .i64 x.Flow.FromPort),.v (.int .i64 x.Flow.ToPort),.v (.int .i64 x.Packets),.v (.int .i64 x.Bytes)]
abbrev Lfv(x:Kxt):List D:=[.v (.bool x.First.Six),.v (.int .u64 x.First.Hi),.v (.int .u64 x.First.Lo),.v (.bool x.Last.Six),.v (.int .u64 x.Last.Hi),.v (.int .u64 x.Last.Lo)]
abbrev Lfw(x:Kxv):List D:=[Sl Lfg x.p.Groups,Sl Lfj x.p.Hosts,Sl Lfn x.p.Grants,Sl Lfp x.p.Tests,.v (.int .i64 x.kind)]
abbrev rO{α:Type}(t:TypeId)(z:Nat)(e:α→List D)(l:List α):Ob:=.row t z l.length (l.flatMap e)
abbrev fQ(s:Kxc):List G:=[.d (Sl (eN .i64) s.L),I s.v_at]
abbrev gf(x:Kxd):List G:=[S x.Name,.d (Sl eS x.Members)]
abbrev gh(x:Kxe):List G:=[B x.Six,U x.Hi,U x.Lo]
abbrev gk(x:Kxf):List G:=[B x.Addr.Six,U x.Addr.Hi,U x.Addr.Lo,I x.Bits]
abbrev gl(x:Kxg):List G:=[S x.Name,B x.Net.Addr.Six,U x.Net.Addr.Hi,U x.Net.Addr.Lo,I x.Net.Bits]
abbrev gm(x:Kxh):List G:=[I x.Kind,S x.Name,B x.Net.Addr.Six,U x.Net.Addr.Hi,U x.Net.Addr.Lo,I x.Net.Bits]
abbrev gn(x:Kxi):List G:=[I x.From,I x.To]
abbrev gp(x:Kxj):List G:=[I x.What.Kind,S x.What.Name,B x.What.Net.Addr.Six,U x.What.Net.Addr.Hi,U x.What.Net.Addr.Lo,I x.What.Net.Bits,I x.Ports.From,I x.Ports.To]
abbrev gt(x:Kxk):List G:=[.d (Sl Lfk x.Src),.d (Sl Lfm x.Dst),I x.Proto,.d (Sl eS x.Postures)]
abbrev gu(x:Kxl):List G:=[I x.Proto,B x.From.Six,U x.From.Hi,U x.From.Lo,B x.To.Six,U x.To.Hi,U x.To.Lo,I x.FromPort,I x.ToPort]
abbrev gy(x:Kxn):List G:=[.d (Sl Lfg x.Groups),.d (Sl Lfj x.Hosts),.d (Sl Lfn x.Grants),.d (Sl Lfp x.Tests)]
abbrev gB(x:Kxo):List G:=[S x.Key,S x.User,S x.Name,.d (Sl eS x.Tags),.d (Sl Lfh x.Addrs),.d (Sl Lfi x.Routes)]
abbrev gC(x:Kxp):List G:=[S x.Node,S x.Posture]
abbrev gD(x:Kxq):List G:=[.d (Sl Lfr x.Nodes),.d (Sl Lfg x.Policy.Groups),.d (Sl Lfj x.Policy.Hosts),.d (Sl Lfn x.Policy.Grants),.d (Sl Lfp x.Policy.Tests),.d (Sl Lfs x.Facts)]
abbrev gE(x:Kxr):List G:=[S x.Node,I x.Hour,B x.Out,I x.Flow.Proto,B x.Flow.From.Six,U x.Flow.From.Hi,U x.Flow.From.Lo,B x.Flow.To.Six,U x.Flow.To.Hi,U x.Flow.To.Lo,I x.Flow.FromPort,I x.Flow.ToPort,I x.Packets,I x.Bytes]
abbrev gF(x:Kxt):List G:=[B x.First.Six,U x.First.Hi,U x.First.Lo,B x.Last.Six,U x.Last.Hi,U x.Last.Lo]
abbrev Q9:=rO 103 6 Lfr
abbrev Qab:=rO 46 3 Lfh
abbrev Qbb:=rO 106 4 Lfi
abbrev Qcb:=rO 9 1 eS
abbrev Qdb:=rO 146 6 Lfk
abbrev Qeb:=rO 150 8 Lfm
abbrev Qfb:=rO 115 4 Lfn
abbrev Qgb:=rO 118 10 Lfp
abbrev Qhb:=rO 63 2 Lfs
abbrev Qib:=mOb (kD Lfh) false eB
abbrev Qjb:=rO 50 14 Lfu
abbrev Qkb:=rO 3 1 (eN .i64)
abbrev Qlb:=mOb (kI .i64) false eB
abbrev Qmb:=mOb (kD Lfh) false eS
abbrev Qnb:=rO 180 6 Lfv
abbrev Qob:=mObS (kI .i64) false eB
abbrev Qpb:=mOb (kD Lfh) false (eN .i64)
abbrev Qqb:=mOb (kD Lfs) false eB
abbrev Qrb:=rO 142 1 (eL Lfv)
abbrev Qsb:=rO 136 1 (eL (eL Lfv))
abbrev Qtb:=mOb kS false (eL Lfv)
abbrev Qub:=mOb kS false (eT 46 3 Lfh)
abbrev Qvb:=mObS kS false (eT 46 3 Lfh)
abbrev Qwb:=rO 109 2 Lfg
abbrev Qxb:=rO 111 5 Lfj
abbrev Qa(s:Kxq):Ob:=.box 139 [.d (Sl Lfr s.Nodes),.d (Sl Lfg s.Policy.Groups),.d (Sl Lfj s.Policy.Hosts),.d (Sl Lfn s.Policy.Grants),.d (Sl Lfp s.Policy.Tests),.d (Sl Lfs s.Facts),.map 2,.map 3,.sl 5 ([]:List (List Kxt)).length,.sl 6 ([]:List (List (List Kxt))).length,.map 4]
abbrev Qb(x2:Kxu):Ob:=.box 139 [.d (Sl Lfr x2.s.Nodes),.d (Sl Lfg x2.s.Policy.Groups),.d (Sl Lfj x2.s.Policy.Hosts),.d (Sl Lfn x2.s.Policy.Grants),.d (Sl Lfp x2.s.Policy.Tests),.d (Sl Lfs x2.s.Facts),.map 1,.map 2,.sl 3 x2.src.length,.sl 4 x2.dst.length,.map 5]
abbrev Qc(v:Kxu):Ob:=.box 139 [.d (Sl Lfr v.s.Nodes),.d (Sl Lfg v.s.Policy.Groups),.d (Sl Lfj v.s.Policy.Hosts),.d (Sl Lfn v.s.Policy.Grants),.d (Sl Lfp v.s.Policy.Tests),.d (Sl Lfs v.s.Facts),.map 0,.map 1,.sl 2 v.src.length,.sl 3 v.dst.length,.map 4]
abbrev Qd(x:Kxu):Ob:=.box 139 [.d (Sl Lfr x.s.Nodes),.d (Sl Lfg x.s.Policy.Groups),.d (Sl Lfj x.s.Policy.Hosts),.d (Sl Lfn x.s.Policy.Grants),.d (Sl Lfp x.s.Policy.Tests),.d (Sl Lfs x.s.Facts),.map 0,.map 1,.sl 2 x.src.length,.sl 3 x.dst.length,.map 4]
abbrev Qe(f:Kxu):Ob:=.box 139 [.d (Sl Lfr f.s.Nodes),.d (Sl Lfg f.s.Policy.Groups),.d (Sl Lfj f.s.Policy.Hosts),.d (Sl Lfn f.s.Policy.Grants),.d (Sl Lfp f.s.Policy.Tests),.d (Sl Lfs f.s.Facts),.map 0,.map 1,.sl 2 f.src.length,.sl 3 f.dst.length,.map 4]
abbrev Qf(w:(Int×Int×Int×Int×Int×Int×Int×Int×Int)):Ob:=.box 212 [I w.1,I w.2.1,I w.2.2.1,I w.2.2.2.1,I w.2.2.2.2.1,I w.2.2.2.2.2.1,I w.2.2.2.2.2.2.1,I w.2.2.2.2.2.2.2.1,I w.2.2.2.2.2.2.2.2]
abbrev Qg(v:(Int×Int×Int×Int×Int×Int×Int×Int×Int)):Ob:=.box 212 [I v.1,I v.2.1,I v.2.2.1,I v.2.2.2.1,I v.2.2.2.2.1,I v.2.2.2.2.2.1,I v.2.2.2.2.2.2.1,I v.2.2.2.2.2.2.2.1,I v.2.2.2.2.2.2.2.2]
abbrev Qh(v_g:(Int×Int×Int×Int×Int×Int×Int×Int)):Ob:=.box 195 [U v_g.1,U v_g.2.1,U v_g.2.2.1,U v_g.2.2.2.1,U v_g.2.2.2.2.1,U v_g.2.2.2.2.2.1,U v_g.2.2.2.2.2.2.1,U v_g.2.2.2.2.2.2.2]
abbrev Qi:Ob:=.box 32 [.d (Sl Lfg ([]:List Kxd)),.d (Sl Lfj ([]:List Kxg)),.d (Sl Lfn ([]:List Kxk)),.d (Sl Lfp ([]:List Kxm))]
abbrev Qj(f:Kxl):Ob:=.box 48 [I f.Proto,B f.To.Six,U f.To.Hi,U f.To.Lo,B f.From.Six,U f.From.Hi,U f.From.Lo,I f.ToPort,I f.FromPort]
abbrev Qk:Ob:=.box 35 [.d (Sl Lfr []),.d (Sl Lfg []),.d (Sl Lfj []),.d (Sl Lfn []),.d (Sl Lfp []),.d (Sl Lfs [])]
abbrev Ql:Ob:=.box 115 [.sl 1 ([]:List Kxh).length,.sl 2 ([]:List Kxj).length,I 0,.d (Sl eS [])]
abbrev Qm:Ob:=.box 115 [.d (Sl Lfk ([]:List Kxh)),.d (Sl Lfm ([]:List Kxj)),I 0,.d (Sl eS [])]
abbrev Qn:Ob:=.box 32 [.d (Sl Lfg []),.d (Sl Lfj []),.d (Sl Lfn []),.d (Sl Lfp [])]
abbrev Qo:Ob:=.box 115 [.d (Sl Lfk []),.d (Sl Lfm []),I 0,.d (Sl eS [])]
abbrev Qp:Ob:=.box 48 [I 0,B false,U 0,U 0,B false,U 0,U 0,I 0,I 0]
abbrev Qq:Ob:=rO 136 1 (eL (eL Lfv)) ([]:List (List (List Kxt)))
abbrev Qr:Ob:=mOb (kD Lfh) false (eN .i64) ([]:List (Kxe×Int))
abbrev Qs:Ob:=mOb kS false (eL Lfv) ([]:List (Str×(List Kxt)))
abbrev Qu:Ob:=.box 150 [I 0,S [],B false,U 0,U 0,I 0,I 0,I 0]
abbrev Qv:Ob:=.box 212 [I 0,I 0,I 0,I 0,I 0,I 0,I 0,I 0,I 0]
abbrev Qw:Ob:=mOb (kD Lfs) false eB ([]:List (Kxp×Bool))
abbrev Qx:Ob:=.box 195 [U 0,U 0,U 0,U 0,U 0,U 0,U 0,U 0]
abbrev Qy:Ob:=.box 146 [I 0,S [],B false,U 0,U 0,I 0]
abbrev Qz(x2:Kxu):Ob:=mOb (kD Lfh) false (eN .i64) x2.owners
abbrev QA:Ob:=rO 142 1 (eL Lfv) ([]:List (List Kxt))
abbrev QB(v:Kxu):Ob:=mOb (kD Lfh) false (eN .i64) v.owners
abbrev QC(f:Kxu):Ob:=mOb (kD Lfh) false (eN .i64) f.owners
abbrev QD:Ob:=rO 3 1 (eN .i64) ([]:List Int)
abbrev QE(v:Kxu):Ob:=mOb (kD Lfs) false eB v.meets
abbrev QG(f:Kxu):Ob:=mOb (kD Lfs) false eB f.meets
abbrev QH(v:Kxu):Ob:=rO 136 1 (eL (eL Lfv)) v.dst
abbrev QI(f:Kxu):Ob:=rO 136 1 (eL (eL Lfv)) f.dst
abbrev QJ:Ob:=rO 118 10 Lfp ([]:List Kxm)
abbrev QK(v:Kxu):Ob:=mOb kS false (eL Lfv) v.own
abbrev QL(f:Kxu):Ob:=mOb kS false (eL Lfv) f.own
abbrev QO:Ob:=rO 106 4 Lfi ([]:List Kxf)
abbrev QQ:Ob:=rO 146 6 Lfk ([]:List Kxh)
abbrev QR:Ob:=rO 150 8 Lfm ([]:List Kxj)
abbrev QS:Ob:=rO 115 4 Lfn ([]:List Kxk)
abbrev QT:Ob:=rO 50 14 Lfu ([]:List Kxr)
abbrev QU:Ob:=rO 46 3 Lfh ([]:List Kxe)
abbrev QV:Ob:=.box 46 [B false,U 0,U 0]
abbrev QW(had:List (Kxe×Bool)):Ob:=mOb (kD Lfh) false eB had
abbrev QX(v_r:Kxv):Ob:=rO 109 2 Lfg v_r.p.Groups
abbrev QY(v_r:Kxv):Ob:=rO 115 4 Lfn v_r.p.Grants
abbrev QZ(v_r:Kxv):Ob:=rO 118 10 Lfp v_r.p.Tests
abbrev Q0(v_r:Kxv):Ob:=rO 111 5 Lfj v_r.p.Hosts
abbrev Q2(v:Kxu):Ob:=rO 142 1 (eL Lfv) v.src
abbrev Q3(f:Kxu):Ob:=rO 142 1 (eL Lfv) f.src
abbrev Q4(f:List Str):Ob:=.box 70 [.d (Sl eS f)]
abbrev Q5:Ob:=.box 148 [I 0,I 0]
abbrev Q6:Ob:=.box 82 [.ptr 5 0]
abbrev Q7(data:List Kxr):Ob:=rO 50 14 Lfu data
abbrev Q8(s:Kxc):Ob:=.box 25 (fQ s)
theorem Lhq:KeyP Tryz.prog 46 (kD Lfh):=Klq hΓ [46] Lfh (show Γ 46=some ⟨.struct _,_,_,_⟩ from rfl) (by kernel_rfl) (fun _=>rfl) (fun _=>rfl) (fun a b=>by
  show some (((a.Six==b.Six)&&((a.Hi==b.Hi)&&((a.Lo==b.Lo)&&true))))=some (a==b)
  refine congrArg some ?_
  rw[Bool.eq_iff_iff]
  cases a;cases b;simp[Bool.and_eq_true]) (fun a b h=>by simpa using h) (fun a=>by simp) (fun a=>by simp[Instr.sameBits,kD,Lfh,Klm])
theorem Lhr:KeyP Tryz.prog 63 (kD Lfs):=Klq hΓ [63] Lfs (show Γ 63=some ⟨.struct _,_,_,_⟩ from rfl) (by kernel_rfl) (fun _=>rfl) (fun _=>rfl) (fun a b=>by
  show some (((a.Node==b.Node)&&((a.Posture==b.Posture)&&true)))=some (a==b)
  refine congrArg some ?_
  rw[Bool.eq_iff_iff]
  cases a;cases b;simp[Bool.and_eq_true]) (fun a b h=>by simpa using h) (fun a=>by simp) (fun a=>by simp[Instr.sameBits,kD,Lfs,Klm])
theorem Lfx{x:Int}{n:Int}{r:Int}(h:Kxw x n=some r):Pure Tryz.prog 55 [I x,I n] (I r):=by
 unfold Kxw at h
 refine QP Tryz.func55 E E E<|gA 12 E<|jC E h (fun h1=>?_) fun h2=>bK h2 fun y3 hy3 h4=>gA 6 E<|eo_o E (Kfl hy3 E E)<|bK h4 fun q5 hq5 h6=>gO 10 E<|Kid [(0,I q5)] [] ?_ ?_
 ·exact gA 7 E<|oSi h1▸gP E E
 ·refine jC E hq5 (fun h7=>?_) fun h8=>gA 1 E<|oSi h8▸⟨⟨E,tV⟩,[],E,.inl E⟩
  exact gA 6 E<|oSi h7▸⟨⟨E,tV⟩,[],E,.inl E⟩
 exact gA 8 E<|oSi h6▸gP E E
theorem Lfy{s:Kxc}{n:Int}{r:Int×Kxc}(h:Kxx s n=some r):EC Tryz.prog 26 [.ptr 0 0,I n] [Q8 s] fun g hp'=>g=I r.1∧hp'=[.box 25 (fQ r.2)]:=by
 unfold Kxx at h
 refine QN Tryz.func26 E Z<|gA 14 E<|Kqs hΓ E E E E E E E E Z<|Kfg [.box 25 [.d (Sl (eN .i64) s.L),I (wi (s.v_at+1))]] E<|gO 13 E<|jC E h (fun h1=>?_) fun h4=>gA 3 E<|jD<|bK h4 fun y5 hy5 h6=>gA 10 E<|gl_o E (Kfl hy5 E E)<|Kdl hΓ 4 E<|jD<|bK h6 fun y7 hy7 h8=>gA 10 E<|gl_o E (Kfk hy7 E E)<|bK h8 fun x9 hx9 h10=>Kdl hΓ 10 E<|eo_o E (Keg hΓ (enc:=(eN .i64)) hx9 E E E E E (fun _=>E))<|bK h10 fun y11 hy11 h12=>gO 1 E<|Kex C (Lfx hy11) E Z E E E E E<|bK h12 fun y13 hy13 h14=>gO 6 E<|Kex C (Lfx hy13) E Z E E E E E<|gO 4 E<|oSi h14▸Kfn hΓ [] (.inr E) E E E E (.inl E)
 exact bK h1 fun y2 hy2 h3=>gA 8 E<|Kex C (Lfx hy2) E Z E E E E E<|gO 5 E<|oSi h3▸Kfn hΓ [] (.inr E) E E E E (.inl E)
theorem Lfz{s:Kxc}{n:Int}{r:Bool×Kxc}(h:Kxy s n=some r):EC Tryz.prog 20 [.ptr 0 0,I n] [Q8 s] fun g hp'=>g=B r.1∧hp'=[.box 25 (fQ r.2)]:=by
 unfold Kxy at h
 exact QN Tryz.func20 E Z<|bK h fun y1 hy1 h2=>gA 9 E<|Kew [0] (I y1.1) [.box 25 (fQ y1.2)] C (Lfy hy1) E Z E E E E E E E E E E<|gO 5 E<|oSi h2▸Kfn hΓ [] (.inr E) E E E E (.inl E)
theorem Lga{s:Kxc}{l:List Str}{r:Str×Kxc}(h:Kxz s l=some r):EC Tryz.prog 21 [.ptr 0 0,.d (Sl eS l)] [Q8 s] fun g hp'=>g=S r.1∧hp'=[.box 25 (fQ r.2)]:=by
 unfold Kxz at h
 exact QN Tryz.func21 E Z<|bK h fun y1 hy1 h2=>gA 11 E<|Kew [0] (I y1.1) [.box 25 (fQ y1.2)] C (Lfy hy1) E Z E E E E E E E E E E<|bK h2 fun x3 hx3 h4=>eo_o E (Keg hΓ (enc:=eS) hx3 E E E E E (fun _=>E))<|gO 5 E<|oSi h4▸Kfn hΓ [] (.inr E) E E E E (.inl E)
theorem Lgb{n:Int}{r:Kxe}(h:Kya n=some r):Pure Tryz.prog 19 [I n] (.agg (gh r)):=by
 unfold Kya at h
 exact QP Tryz.func19 E E E<|gA 2 E<|Kqn hΓ E E E Z<|gO 7 E<|Kbn hΓ (gs:=[B false,U 0,U (IntKind.u64.wrap (1681915904+(IntKind.u64.wrap (n))))]) E E E E E E E<|Kqs hΓ E E E E E E E E Z<|Kfg [.box 46 [B false,U 0,U (IntKind.u64.wrap (1681915904+(IntKind.u64.wrap (n))))]] E<|gO 3 E<|oSi h▸gP E E
theorem Lgc{n:Int}{r:Kxe}(h:Kyb n=some r):Pure Tryz.prog 43 [I n] (.agg (gh r)):=by
 unfold Kyb at h
 exact QP Tryz.func43 E E E<|gA 2 E<|Kqn hΓ E E E Z<|gO 6 E<|Kbn hΓ (gs:=[B true,U 18230571291595767808,U (IntKind.u64.wrap (n))]) E E E E E E E<|Kqs hΓ E E E E E E E E Z<|Kfg [.box 46 [B true,U 18230571291595767808,U (IntKind.u64.wrap (n))]] E<|gO 3 E<|oSi h▸gP E E
theorem Lgd{s:Kxc}{l:List Int}{r:Int×Kxc}(h:Kyc s l=some r):EC Tryz.prog 18 [.ptr 0 0,.d (Sl (eN .i64) l)] [Q8 s] fun g hp'=>g=I r.1∧hp'=[.box 25 (fQ r.2)]:=by
 unfold Kyc at h
 exact QN Tryz.func18 E Z<|bK h fun y1 hy1 h2=>gA 11 E<|Kew [0] (I y1.1) [.box 25 (fQ y1.2)] C (Lfy hy1) E Z E E E E E E E E E E<|bK h2 fun x3 hx3 h4=>eo_o E (Keg hΓ (enc:=(eN .i64)) hx3 E E E E E (fun _=>E))<|gO 5 E<|oSi h4▸Kfn hΓ [] (.inr E) E E E E (.inl E)
theorem Lge{s:Kxc}{most:Int}{r:(List Kxo)×Kxc}(h:Kyd s most=some r):EC Tryz.prog 13 [.ptr 0 0,I most] [Q8 s] fun g hp'=>g=.sl 1 r.1.length∧hp'=[.box 25 (fQ r.2),Q9 r.1]:=by
 unfold Kyd at h
 refine QM Tryz.func13 E Z<|gA 7 E<|Keu (t:=0) 103 6 E Z<|gO 5 E<|Ker hΓ (enc:=eS) [[110,97],[110,98],[110,99],[110,100],[110,101]] E E E E E E E E E E E E Z<|bK h fun z1 hz1 h2=>gO 2 E<|eo_o E (Ken hΓ (enc:=eS) hz1 E E E E E E (fun _=>E))<|gO 4 E<|bK h2 fun q6 hq6 h7=>Kef 12 E fun hb9=>Kid [(5,.sl 1 q6.2.length)] [.box 25 (fQ q6.1),Q9 q6.2] ?_ ?_
 ·refine gA 1 E<|Kfp z1 hq6 (fun i3 s4=>[(0,.ptr 0 0),(5,.sl 1 s4.2.length),(12,.d (Sl eS z1)),(13,I (z1.length:Int)),(14,I (i3:Int))]) (fun s4=>[.box 25 (fQ s4.1),Q9 s4.2]) ⟨⟨E,E,E,E,E,tV⟩,[],E,.inl E⟩ (fun i3 x5 s4 y13 hx10 hlt hy11=>?_) (?_)
  ·refine gA 6 E<|Kdo E (dT (Int.ofNat_lt.2 hlt))<|gA 7 E<|eo_o E (Keg hΓ (enc:=eS) (Kdz hx10) E E E E E (fun _=>E))<|bK hy11 fun y14 hy14 h15=>gO 9 E<|Kew [0] (B y14.1) [.box 25 (fQ y14.2),Q9 s4.2] C (Lfz hy14) E Z E E E E E E E E E E<|gO 2 E<|jC E h15 (fun h16=>?_) fun h17=>gA 7 E<|Ker hΓ (enc:=eS) [x5,[98,111,120],[98,111,120],[119,101,98]] E E E E E E E E E E E E Z<|bK h17 fun y18 hy18 h19=>Kew [0] (S y18.1) [.box 25 (fQ y18.2),Q9 s4.2] C (Lga hy18) E Z E E E E E E E E E E<|gO 1 E<|Ker hΓ (enc:=eS) [[97,110,110],[97,110,110],[98,111,98],[99,105,100],[]] E E E E E E E E E E E E Z<|bK h19 fun y20 hy20 h21=>Kew [0] (S y20.1) [.box 25 (fQ y20.2),Q9 s4.2] C (Lga hy20) E Z E E E E E E E E E E<|eo_s Z (nblt.1 E) (Kiy 106 4 5 (Kiy 46 3 4 (OpP.s (Kiw hΓ [4,5] (gs:=[S x5,S y20.1,S y18.1,.d (Sl eS []),.d (.v (.slice none 0 0)),.d (.v (.slice none 0 0))]) E E E E E E)) E) E)<|Kqn hΓ E E E Z<|Kqs hΓ E E E E E E E E Z<|Kfg [.box 25 (fQ y20.2),Q9 s4.2,QU,QO,.box 103 [S x5,S y20.1,S y18.1,.d (Sl eS []),.sl 2 ([]:List Kxe).length,.sl 3 ([]:List Kxf).length]] E<|bK h21 fun q22 hq22 h23=>gO 10 E<|Kid [(0,.ptr 0 0),(5,.sl 1 s4.2.length),(6,I (i3:Int)),(8,.ptr 4 0),(12,.d (Sl eS z1)),(13,I (z1.length:Int)),(14,I (i3:Int))] [.box 25 (fQ q22.1),Q9 s4.2,QU,QO,.box 103 [S x5,S y20.1,S y18.1,.d (Sl eS q22.2),.sl 2 ([]:List Kxe).length,.sl 3 ([]:List Kxf).length]] ?_ ?_
   ·refine gA 8 E ?_
    cases h16
    exact⟨⟨E,E,E,E,Kcs E (Kcr (nLl hlt hb9)),tV⟩,[],E,.inl E⟩
   ·refine jC E hq22 (fun h24=>?_) fun h29=>gA 1 E<|oSi h29▸⟨⟨E,E,E,E,E,E,E,tV⟩,[],E,.inl E⟩
    exact gA 1 E<|Ker hΓ (enc:=eS) [[119,101,98]] E E E E E E E E E E E E Z<|Ker hΓ (enc:=eS) [[100,98]] E E E E E E E E E E E E Z<|Ker hΓ (enc:=eS) [[100,98],[119,101,98]] E E E E E E E E E E E E Z<|Ker hΓ (enc:=(eL eS)) [[[119,101,98]],[[100,98]],[[100,98],[119,101,98]]] E E E E E E E E E E E E Z<|bK h24 fun y25 hy25 h26=>gO 1 E<|Kew [0] (I y25.1) [.box 25 (fQ y25.2),Q9 s4.2,QU,QO,.box 103 [S x5,S y20.1,S y18.1,.d (Sl eS []),.sl 2 ([]:List Kxe).length,.sl 3 ([]:List Kxf).length]] C (Lfy hy25) E Z E E E E E E E E E E<|bK h26 fun x27 hx27 h28=>eo_o E (Keg hΓ (enc:=(eL eS)) hx27 E E E E E (fun _=>E))<|gO 2 E<|Kqs hΓ E E E E E E E E Z<|Kfg [.box 25 (fQ y25.2),Q9 s4.2,QU,QO,.box 103 [S x5,S y20.1,S y18.1,.d (Sl eS x27),.sl 2 ([]:List Kxe).length,.sl 3 ([]:List Kxf).length]] E<|gO 1 E<|oSi h28▸⟨⟨E,E,E,E,E,E,E,tV⟩,[],E,.inl E⟩
   refine bK h23 fun y30 hy30 h31=>gA 5 E<|Kew [0] (B y30.1) [.box 25 (fQ y30.2),Q9 s4.2,QU,QO,.box 103 [S x5,S y20.1,S y18.1,.d (Sl eS q22.2),.sl 2 ([]:List Kxe).length,.sl 3 ([]:List Kxf).length]] C (Lfz hy30) E Z E E E E E E E E E E<|bK h31 fun q32 hq32 h33=>gO 3 E<|Kie [(0,.ptr 0 0),(5,.sl 1 s4.2.length),(6,I (i3:Int)),(8,.ptr 4 0),(12,.d (Sl eS z1)),(13,I (z1.length:Int)),(14,I (i3:Int))] [.box 25 (fQ y30.2),Q9 s4.2,Qab q32,QO,.box 103 [S x5,S y20.1,S y18.1,.d (Sl eS q22.2),.sl 2 q32.length,.sl 3 ([]:List Kxf).length]] ?_ ?_
   ·refine jC E hq32 (fun h34=>?_) fun h39=>gA 1 E<|Khz<|oSi h39▸⟨⟨E,E,E,E,E,E,E,tV⟩,[],E,.inl E⟩
    exact Khd [.dead,.dead,.dead,.dead,.box 103 [S x5,S y20.1,S y18.1,.d (Sl eS q22.2),.sl 2 ([]:List Kxe).length,.sl 3 ([]:List Kxf).length]] [1] [6,8] [6,8] hmix (by kernel_rfl) (by kernel_rfl) ⟨E,tV⟩ Z<|bK h34 fun y35 hy35 h36=>go_E hΓ 4 E<|Khr C (Lgb hy35) E E E E E E<|Khs hΓ (enc:=Lfh) [y35] E E E E E E E E E E E E<|bK h36 fun y37 hy37 h38=>ge_h [.box 25 (fQ y30.2),Q9 s4.2,.dead,QO,.box 103 [S x5,S y20.1,S y18.1,.d (Sl eS q22.2),.junk,.sl 3 ([]:List Kxf).length],Qab y37] E E E (Khk E) (Kho (Kjc 2 (Kgt hΓ (enc:=Lfh) (id:=2) (h2:=show Γ 46=some ⟨_,3,_,_⟩ from E) hy37 E E E E E E E E (fun _=>E) E)))<|go_E hΓ 1 E<|Khj [.box 25 (fQ y30.2),Q9 s4.2,.dead,QO,.box 103 [S x5,S y20.1,S y18.1,.d (Sl eS q22.2),.sl 5 y37.length,.sl 3 ([]:List Kxf).length],Qab y37] E E (Khk E) (Khp (Kiq hΓ E E E E E E E E E))<|Khe<|Kib 5 2 [.box 25 (fQ y30.2),Q9 s4.2,Qab y37,QO,.box 103 [S x5,S y20.1,S y18.1,.d (Sl eS q22.2),.sl 2 y37.length,.sl 3 ([]:List Kxf).length],.dead] E E E E E E<|Khz<|oSi h38▸⟨⟨E,E,E,E,E,E,E,tV⟩,[_],E,.inr ⟨HB.mk E,FB.mk E,Z⟩⟩
   refine bK h33 fun y40 hy40 h41=>gA 5 E<|Kew [0] (B y40.1) [.box 25 (fQ y40.2),Q9 s4.2,Qab q32,QO,.box 103 [S x5,S y20.1,S y18.1,.d (Sl eS q22.2),.sl 2 q32.length,.sl 3 ([]:List Kxf).length]] C (Lfz hy40) E Z E E E E E E E E E E<|bK h41 fun q42 hq42 h43=>gO 2 E<|Kie [(0,.ptr 0 0),(5,.sl 1 s4.2.length),(8,.ptr 4 0),(12,.d (Sl eS z1)),(13,I (z1.length:Int)),(14,I (i3:Int))] [.box 25 (fQ y40.2),Q9 s4.2,Qab q42,QO,.box 103 [S x5,S y20.1,S y18.1,.d (Sl eS q22.2),.sl 2 q42.length,.sl 3 ([]:List Kxf).length]] ?_ ?_
   ·refine jC E hq42 (fun h44=>?_) fun h49=>gA 1 E<|Khz<|oSi h49▸⟨⟨E,E,E,E,E,E,tV⟩,[],E,.inl E⟩
    exact Khd [.dead,.dead,.dead,.dead,.box 103 [S x5,S y20.1,S y18.1,.d (Sl eS q22.2),.sl 2 q32.length,.sl 3 ([]:List Kxf).length]] [1] [6,8] [6,8] hmix (by kernel_rfl) (by kernel_rfl) ⟨E,tV⟩ Z<|bK h44 fun y45 hy45 h46=>go_E hΓ 4 E<|Khr C (Lgc hy45) E E E E E E<|Khs hΓ (enc:=Lfh) [y45] E E E E E E E E E E E E<|bK h46 fun y47 hy47 h48=>ge_h [.box 25 (fQ y40.2),Q9 s4.2,.dead,QO,.box 103 [S x5,S y20.1,S y18.1,.d (Sl eS q22.2),.junk,.sl 3 ([]:List Kxf).length],Qab y47] E E E (Khk E) (Kho (Kjc 2 (Kgt hΓ (enc:=Lfh) (id:=2) (h2:=show Γ 46=some ⟨_,3,_,_⟩ from E) hy47 E E E E E E E E (fun _=>E) E)))<|go_E hΓ 1 E<|Khj [.box 25 (fQ y40.2),Q9 s4.2,.dead,QO,.box 103 [S x5,S y20.1,S y18.1,.d (Sl eS q22.2),.sl 5 y47.length,.sl 3 ([]:List Kxf).length],Qab y47] E E (Khk E) (Khp (Kiq hΓ E E E E E E E E E))<|Khe<|Kib 5 2 [.box 25 (fQ y40.2),Q9 s4.2,Qab y47,QO,.box 103 [S x5,S y20.1,S y18.1,.d (Sl eS q22.2),.sl 2 y47.length,.sl 3 ([]:List Kxf).length],.dead] E E E E E E<|Khz<|oSi h48▸⟨⟨E,E,E,E,E,E,tV⟩,[_],E,.inr ⟨HB.mk E,FB.mk E,Z⟩⟩
   refine bK h43 fun y50 hy50 h51=>gA 5 E<|Kew [0] (B y50.1) [.box 25 (fQ y50.2),Q9 s4.2,Qab q42,QO,.box 103 [S x5,S y20.1,S y18.1,.d (Sl eS q22.2),.sl 2 q42.length,.sl 3 ([]:List Kxf).length]] C (Lfz hy50) E Z E E E E E E E E E E<|bK h51 fun q52 hq52 h53=>gO 2 E<|Kie [(0,.ptr 0 0),(5,.sl 1 s4.2.length),(8,.ptr 4 0),(12,.d (Sl eS z1)),(13,I (z1.length:Int)),(14,I (i3:Int))] [.box 25 (fQ q52.1),Q9 s4.2,Qab q42,Qbb q52.2,.box 103 [S x5,S y20.1,S y18.1,.d (Sl eS q22.2),.sl 2 q42.length,.sl 3 q52.2.length]] ?_ ?_
   ·refine jC E hq52 (fun h54=>?_) fun h59=>gA 1 E<|Khz<|oSi h59▸⟨⟨E,E,E,E,E,E,tV⟩,[],E,.inl E⟩
    exact Khd [.dead,.dead,.dead,.dead,.box 103 [S x5,S y20.1,S y18.1,.d (Sl eS q22.2),.sl 2 q42.length,.sl 3 ([]:List Kxf).length]] [1] [5,8,10] [8,10] hmix (by kernel_rfl) (by kernel_rfl) ⟨E,tV⟩ Z<|go_E hΓ 2 E<|ge_q E (.inl E) (fun _ _=>Khf (qt_p (Khu hΓ (gs:=[B false,U 0,U 167772160]) E E E E E E)))<|go_E hΓ 1 E<|Khs hΓ (enc:=(eN .i64)) [8,16,24] E E E E E E E E E E E E<|bK h54 fun y55 hy55 h56=>ge_h [.box 25 (fQ y55.2),Q9 s4.2,Qab q42,QO,.box 103 [S x5,S y20.1,S y18.1,.d (Sl eS q22.2),.sl 2 q42.length,.sl 3 ([]:List Kxf).length]] E E E (Khl ⟨E,tV⟩) (Khq [0] (I y55.1) [.box 25 (fQ y55.2),Q9 s4.2,Qab q42,QO,.box 103 [S x5,S y20.1,S y18.1,.d (Sl eS q22.2),.sl 2 q42.length,.sl 3 ([]:List Kxf).length]] C (Lgd hy55) E E E E E E E E E E)<|ge_q E (.inl E) (fun _ _=>Khf (qt_p (Khu hΓ (gs:=[B false,U 0,U 167772160,I y55.1]) E E E E E E)))<|Khs hΓ (enc:=Lfi) [(⟨(⟨false,0,167772160⟩:Kxe),y55.1⟩:Kxf)] E E E E E E E E E E E E<|bK h56 fun y57 hy57 h58=>ge_h [.box 25 (fQ y55.2),Q9 s4.2,Qab q42,.dead,.box 103 [S x5,S y20.1,S y18.1,.d (Sl eS q22.2),.sl 2 q42.length,.junk],Qbb y57] E E E (Khk E) (Kho (Kjc 3 (Kgt hΓ (enc:=Lfi) (id:=3) (h2:=show Γ 106=some ⟨_,4,_,_⟩ from E) hy57 E E E E E E E E (fun _=>E) E)))<|go_E hΓ 1 E<|Khj [.box 25 (fQ y55.2),Q9 s4.2,Qab q42,.dead,.box 103 [S x5,S y20.1,S y18.1,.d (Sl eS q22.2),.sl 2 q42.length,.sl 5 y57.length],Qbb y57] E E (Khk E) (Khp (Kiq hΓ E E E E E E E E E))<|Khe<|Kib 5 3 [.box 25 (fQ y55.2),Q9 s4.2,Qab q42,Qbb y57,.box 103 [S x5,S y20.1,S y18.1,.d (Sl eS q22.2),.sl 2 q42.length,.sl 3 y57.length],.dead] E E E E E E<|Khz<|oSi h58▸⟨⟨E,E,E,E,E,E,tV⟩,[_],E,.inr ⟨HB.mk E,FB.mk E,Z⟩⟩
   refine bK h53 fun y60 hy60 h61=>gA 5 E<|Kew [0] (B y60.1) [.box 25 (fQ y60.2),Q9 s4.2,Qab q42,Qbb q52.2,.box 103 [S x5,S y20.1,S y18.1,.d (Sl eS q22.2),.sl 2 q42.length,.sl 3 q52.2.length]] C (Lfz hy60) E Z E E E E E E E E E E<|bK h61 fun q62 hq62 h63=>gO 2 E<|Kie [(0,.ptr 0 0),(5,.sl 1 s4.2.length),(8,.ptr 4 0),(12,.d (Sl eS z1)),(13,I (z1.length:Int)),(14,I (i3:Int))] [.box 25 (fQ q62.1),Q9 s4.2,Qab q42,Qbb q62.2,.box 103 [S x5,S y20.1,S y18.1,.d (Sl eS q22.2),.sl 2 q42.length,.sl 3 q62.2.length]] ?_ ?_
   ·refine jC E hq62 (fun h64=>?_) fun h69=>gA 1 E<|Khz<|oSi h69▸⟨⟨E,E,E,E,E,E,tV⟩,[],E,.inl E⟩
    exact Khd [.dead,.dead,.dead,.dead,.box 103 [S x5,S y20.1,S y18.1,.d (Sl eS q22.2),.sl 2 q42.length,.sl 3 q52.2.length]] [1] [3,7,9] [7,9] hmix (by kernel_rfl) (by kernel_rfl) ⟨E,tV⟩ Z<|bK h64 fun y65 hy65 h66=>go_E hΓ 3 E<|ge_h [.box 25 (fQ y65.2),Q9 s4.2,Qab q42,Qbb q52.2,.box 103 [S x5,S y20.1,S y18.1,.d (Sl eS q22.2),.sl 2 q42.length,.sl 3 q52.2.length]] E E E (Khl ⟨E,tV⟩) (Khq [0] (B y65.1) [.box 25 (fQ y65.2),Q9 s4.2,Qab q42,Qbb q52.2,.box 103 [S x5,S y20.1,S y18.1,.d (Sl eS q22.2),.sl 2 q42.length,.sl 3 q52.2.length]] C (Lfz hy65) E E E E E E E E E E)<|ge_q E (.inl E) (fun _ _=>Khf (qt_p (Khu hΓ (gs:=[B y65.1,U 0,U 0]) E E E E E E)))<|ge_q E (.inl E) (fun _ _=>Khf (qt_p (Khu hΓ (gs:=[B y65.1,U 0,U 0,I 0]) E E E E E E)))<|Khs hΓ (enc:=Lfi) [(⟨(⟨y65.1,0,0⟩:Kxe),0⟩:Kxf)] E E E E E E E E E E E E<|bK h66 fun y67 hy67 h68=>ge_h [.box 25 (fQ y65.2),Q9 s4.2,Qab q42,.dead,.box 103 [S x5,S y20.1,S y18.1,.d (Sl eS q22.2),.sl 2 q42.length,.junk],Qbb y67] E E E (Khk E) (Kho (Kjc 3 (Kgt hΓ (enc:=Lfi) (id:=3) (h2:=show Γ 106=some ⟨_,4,_,_⟩ from E) hy67 E E E E E E E E (fun _=>E) E)))<|go_E hΓ 1 E<|Khj [.box 25 (fQ y65.2),Q9 s4.2,Qab q42,.dead,.box 103 [S x5,S y20.1,S y18.1,.d (Sl eS q22.2),.sl 2 q42.length,.sl 5 y67.length],Qbb y67] E E (Khk E) (Khp (Kiq hΓ E E E E E E E E E))<|Khe<|Kib 5 3 [.box 25 (fQ y65.2),Q9 s4.2,Qab q42,Qbb y67,.box 103 [S x5,S y20.1,S y18.1,.d (Sl eS q22.2),.sl 2 q42.length,.sl 3 y67.length],.dead] E E E E E E<|Khz<|oSi h68▸⟨⟨E,E,E,E,E,E,tV⟩,[_],E,.inr ⟨HB.mk E,FB.mk E,Z⟩⟩
   refine gA 4 E<|Kfd 2 [87] _ [.box 25 (fQ q62.1),Q9 s4.2,.dead,Qbb q62.2,.box 103 [S x5,S y20.1,S y18.1,.d (Sl eS q22.2),.d (Sl Lfh q42),.sl 3 q62.2.length]] E E E Z<|Kfd 3 [87] _ [.box 25 (fQ q62.1),Q9 s4.2,.dead,.dead,.box 103 [S x5,S y20.1,S y18.1,.d (Sl eS q22.2),.d (Sl Lfh q42),.d (Sl Lfi q62.2)]] E E E Z<|Ker hΓ (enc:=Lfr) [(⟨x5,y20.1,y18.1,q22.2,q42,q62.2⟩:Kxo)] E E E E E E E E E E E E Z<|bK h63 fun y70 hy70 h71=>Kfh hΓ (enc:=Lfr) hy70 E E E E E E E E E (fun _=>E) E E E E<|gO 8 E ?_
   cases h71
   exact⟨⟨E,E,E,E,Kcs E (Kcr (nLl hlt hb9)),tV⟩,[_,_,_],E,.inr ⟨HB.mk E,FB.mk E,Z⟩⟩
  exact gA 6 E<|Kdp E (dF (Int.lt_irrefl _))<|gA 4 E<|⟨⟨E,tV⟩,[],E,.inl E⟩
 exact gA 8 E<|Khz<|oSi h7▸Kfn hΓ [] (.inr E) E E E E (.inl E)
theorem Lgf{s:Kxc}{more:Str}{r:(List Str)×Kxc}(h:Kye s more=some r):EC Tryz.prog 44 [.ptr 0 0,S more] [Q8 s] fun g hp'=>g=.sl 1 r.1.length∧hp'=[.box 25 (fQ r.2),Qcb r.1]:=by
 unfold Kye at h
 refine QM Tryz.func44 E Z<|gA 7 E<|Keu (t:=0) 9 1 E Z<|gO 6 E<|Ker hΓ (enc:=eS) [[97,110,110],[99,105,100],more] E E E E E E E E E E E E Z<|gO 4 E<|bK h fun q4 hq4 h5=>Kef 9 E fun hb7=>Kid [(5,.sl 1 q4.2.length)] [.box 25 (fQ q4.1),Qcb q4.2] ?_ ?_
 ·refine gA 1 E<|Kfp [[97,110,110],[99,105,100],more] hq4 (fun i1 s2=>[(0,.ptr 0 0),(5,.sl 1 s2.2.length),(9,.d (Sl eS [[97,110,110],[99,105,100],more])),(10,I ([[97,110,110],[99,105,100],more].length:Int)),(11,I (i1:Int))]) (fun s2=>[.box 25 (fQ s2.1),Qcb s2.2]) ⟨⟨E,E,E,E,E,tV⟩,[],E,.inl E⟩ (fun i1 x3 s2 y11 hx8 hlt hy9=>?_) (?_)
  ·refine gA 6 E<|Kdo E (dT (Int.ofNat_lt.2 hlt))<|gA 6 E<|eo_o E (Keg hΓ (enc:=eS) (Kdz hx8) E E E E E (fun _=>E))<|bK hy9 fun y12 hy12 h13=>gO 7 E<|Kew [0] (B y12.1) [.box 25 (fQ y12.2),Qcb s2.2] C (Lfz hy12) E Z E E E E E E E E E E<|gO 2 E<|jC E h13 (fun h14=>?_) fun h17=>gA 7 E ?_
   ·refine gA 3 E<|Ker hΓ (enc:=eS) [x3] E E E E E E E E E E E E Z<|bK h14 fun y15 hy15 h16=>Kfh hΓ (enc:=eS) hy15 E E E E E E E E E (fun _=>E) E E E E<|gO 8 E ?_
    cases h16
    exact⟨⟨E,E,E,E,Kcs E (Kcr (nLl hlt hb7)),tV⟩,[],E,.inl E⟩
   cases h17
   exact⟨⟨E,E,E,E,Kcs E (Kcr (nLl hlt hb7)),tV⟩,[],E,.inl E⟩
  exact gA 6 E<|Kdp E (dF (Int.lt_irrefl _))<|gA 4 E<|⟨⟨E,tV⟩,[],E,.inl E⟩
 exact gA 8 E<|Khz<|oSi h5▸Kfn hΓ [] (.inr E) E E E E (.inl E)
theorem Lgg{s:Kxc}{low:Int}{high:Int}{r:Int×Kxc}(h:Kyf s low high=some r):EC Tryz.prog 6 [.ptr 0 0,I low,I high] [Q8 s] fun g hp'=>g=I r.1∧hp'=[.box 25 (fQ r.2)]:=by
 unfold Kyf at h
 refine QN Tryz.func6 E Z<|gA 13 E<|jC E h (fun h1=>?_) fun h2=>bK h2 fun y3 hy3 h4=>gA 10 E<|Kew [0] (I y3.1) [.box 25 (fQ y3.2)] C (Lfy hy3) E Z E E E E E E E E E E<|gO 5 E<|oSi h4▸Kfn hΓ [] (.inr E) E E E E (.inl E)
 exact gA 8 E<|oSi h1▸Kfn hΓ [] (.inr E) E E E E (.inl E)
theorem Lgh{k:Nat}{a:Kxe}{r:(Int×Int×Int×Int×Int×Int×Int×Int×Int)}(h:Kyg k a=some r):Pure Tryz.prog 133 [.agg (gh a)] (.agg [I r.1,I r.2.1,I r.2.2.1,I r.2.2.2.1,I r.2.2.2.2.1,I r.2.2.2.2.2.1,I r.2.2.2.2.2.2.1,I r.2.2.2.2.2.2.2.1,I r.2.2.2.2.2.2.2.2]):=by
 unfold Kyg at h
 refine QP Tryz.func133 E E E<|gA 2 E<|Kqo E E E E Z<|Kqn hΓ E E E Z<|gO 4 E<|Kqn hΓ E E E Z<|gO 8 E<|bK h fun q4 hq4 h5=>Kid [(1,.ptr 0 0),(2,.ptr 1 0),(3,.ptr 2 0)] [.box 46 (gh a),Qv,.box 212 [I q4.1,I q4.2.1,I q4.2.2.1,I q4.2.2.2.1,I q4.2.2.2.2.1,I q4.2.2.2.2.2.1,I q4.2.2.2.2.2.2.1,I q4.2.2.2.2.2.2.2.1,I q4.2.2.2.2.2.2.2.2]] ?_ ?_
 ·refine gA 1 E<|Kec hq4 (fun s2=>[(1,.ptr 0 0),(2,.ptr 1 0),(3,.ptr 2 0),(5,I s2.2.2.2.2.2.2.2.2.2)]) (fun s2=>[.box 46 (gh a),Qv,.box 212 [I s2.1,I s2.2.1,I s2.2.2.1,I s2.2.2.2.1,I s2.2.2.2.2.1,I s2.2.2.2.2.2.1,I s2.2.2.2.2.2.2.1,I s2.2.2.2.2.2.2.2.1,I s2.2.2.2.2.2.2.2.2.1]]) ⟨⟨E,E,E,E,tV⟩,[],E,.inl E⟩ (fun s2 y10 hy8 hout9=>?_)
  refine gA 6 E<|jC E hy8 (fun h11=>?_) fun h20=>gA 4 E ?_
  ·exact bK h11 fun y12 hy12 h13=>gA 17 E<|eo_o E (Kgc hy12 E E)<|bK h13 fun x14 hx14 h15=>gO 2 E<|eo_o E (Klc hΓ hx14 E E E E E E)<|eo_u Z (Kle hΓ (l:=([s2.1,s2.2.1,s2.2.2.1,s2.2.2.2.1,s2.2.2.2.2.1,s2.2.2.2.2.2.1,s2.2.2.2.2.2.2.1,s2.2.2.2.2.2.2.2.1,s2.2.2.2.2.2.2.2.2.1]:List Int)) (v:=(wi (bitsV .and .u64 y12 65535))) (f:=fun z=>.d (.v (.int .i64 z))) hx14 E E E E E E E E E E)<|Kfg [.box 46 (gh a),Qv,.box 212 [I (updA s2.2.2.2.2.2.2.2.2.2 0 (wi (bitsV .and .u64 y12 65535)) s2.1),I (updA s2.2.2.2.2.2.2.2.2.2 1 (wi (bitsV .and .u64 y12 65535)) s2.2.1),I (updA s2.2.2.2.2.2.2.2.2.2 2 (wi (bitsV .and .u64 y12 65535)) s2.2.2.1),I (updA s2.2.2.2.2.2.2.2.2.2 3 (wi (bitsV .and .u64 y12 65535)) s2.2.2.2.1),I (updA s2.2.2.2.2.2.2.2.2.2 4 (wi (bitsV .and .u64 y12 65535)) s2.2.2.2.2.1),I (updA s2.2.2.2.2.2.2.2.2.2 5 (wi (bitsV .and .u64 y12 65535)) s2.2.2.2.2.2.1),I (updA s2.2.2.2.2.2.2.2.2.2 6 (wi (bitsV .and .u64 y12 65535)) s2.2.2.2.2.2.2.1),I (updA s2.2.2.2.2.2.2.2.2.2 7 (wi (bitsV .and .u64 y12 65535)) s2.2.2.2.2.2.2.2.1),I (updA s2.2.2.2.2.2.2.2.2.2 8 (wi (bitsV .and .u64 y12 65535)) s2.2.2.2.2.2.2.2.2.1)]] E<|bK h15 fun y16 hy16 h17=>gO 9 E<|eo_o E (Kgc hy16 E E)<|bK h17 fun x18 hx18 h19=>gO 2 E<|eo_o E (Klc hΓ hx18 E E E E E E)<|eo_u Z (Kle hΓ (l:=([updA s2.2.2.2.2.2.2.2.2.2 0 (wi (bitsV .and .u64 y12 65535)) s2.1,updA s2.2.2.2.2.2.2.2.2.2 1 (wi (bitsV .and .u64 y12 65535)) s2.2.1,updA s2.2.2.2.2.2.2.2.2.2 2 (wi (bitsV .and .u64 y12 65535)) s2.2.2.1,updA s2.2.2.2.2.2.2.2.2.2 3 (wi (bitsV .and .u64 y12 65535)) s2.2.2.2.1,updA s2.2.2.2.2.2.2.2.2.2 4 (wi (bitsV .and .u64 y12 65535)) s2.2.2.2.2.1,updA s2.2.2.2.2.2.2.2.2.2 5 (wi (bitsV .and .u64 y12 65535)) s2.2.2.2.2.2.1,updA s2.2.2.2.2.2.2.2.2.2 6 (wi (bitsV .and .u64 y12 65535)) s2.2.2.2.2.2.2.1,updA s2.2.2.2.2.2.2.2.2.2 7 (wi (bitsV .and .u64 y12 65535)) s2.2.2.2.2.2.2.2.1,updA s2.2.2.2.2.2.2.2.2.2 8 (wi (bitsV .and .u64 y12 65535)) s2.2.2.2.2.2.2.2.2.1]:List Int)) (v:=(wi (bitsV .and .u64 y16 65535))) (f:=fun z=>.d (.v (.int .i64 z))) hx18 E E E E E E E E E E)<|Kfg [.box 46 (gh a),Qv,.box 212 [I (updA (wi (4+s2.2.2.2.2.2.2.2.2.2)) 0 (wi (bitsV .and .u64 y16 65535)) (updA s2.2.2.2.2.2.2.2.2.2 0 (wi (bitsV .and .u64 y12 65535)) s2.1)),I (updA (wi (4+s2.2.2.2.2.2.2.2.2.2)) 1 (wi (bitsV .and .u64 y16 65535)) (updA s2.2.2.2.2.2.2.2.2.2 1 (wi (bitsV .and .u64 y12 65535)) s2.2.1)),I (updA (wi (4+s2.2.2.2.2.2.2.2.2.2)) 2 (wi (bitsV .and .u64 y16 65535)) (updA s2.2.2.2.2.2.2.2.2.2 2 (wi (bitsV .and .u64 y12 65535)) s2.2.2.1)),I (updA (wi (4+s2.2.2.2.2.2.2.2.2.2)) 3 (wi (bitsV .and .u64 y16 65535)) (updA s2.2.2.2.2.2.2.2.2.2 3 (wi (bitsV .and .u64 y12 65535)) s2.2.2.2.1)),I (updA (wi (4+s2.2.2.2.2.2.2.2.2.2)) 4 (wi (bitsV .and .u64 y16 65535)) (updA s2.2.2.2.2.2.2.2.2.2 4 (wi (bitsV .and .u64 y12 65535)) s2.2.2.2.2.1)),I (updA (wi (4+s2.2.2.2.2.2.2.2.2.2)) 5 (wi (bitsV .and .u64 y16 65535)) (updA s2.2.2.2.2.2.2.2.2.2 5 (wi (bitsV .and .u64 y12 65535)) s2.2.2.2.2.2.1)),I (updA (wi (4+s2.2.2.2.2.2.2.2.2.2)) 6 (wi (bitsV .and .u64 y16 65535)) (updA s2.2.2.2.2.2.2.2.2.2 6 (wi (bitsV .and .u64 y12 65535)) s2.2.2.2.2.2.2.1)),I (updA (wi (4+s2.2.2.2.2.2.2.2.2.2)) 7 (wi (bitsV .and .u64 y16 65535)) (updA s2.2.2.2.2.2.2.2.2.2 7 (wi (bitsV .and .u64 y12 65535)) s2.2.2.2.2.2.2.2.1)),I (updA (wi (4+s2.2.2.2.2.2.2.2.2.2)) 8 (wi (bitsV .and .u64 y16 65535)) (updA s2.2.2.2.2.2.2.2.2.2 8 (wi (bitsV .and .u64 y12 65535)) s2.2.2.2.2.2.2.2.2.1))]] E<|gO 7 E<|oSi h19▸⟨_,E,⟨⟨E,E,E,E,tV⟩,[],E,.inl E⟩⟩
  cases h20
  obtain rfl:=hout9 _ rfl
  exact⟨⟨E,E,E,tV⟩,[],E,.inl E⟩
 refine bK h5 fun q21 hq21 h22=>gA 8 E<|Kid [(2,.ptr 1 0),(3,.ptr 2 0)] [.box 46 (gh a),Qv,.box 212 [I q4.1,I q4.2.1,I q4.2.2.1,I q4.2.2.2.1,I q4.2.2.2.2.1,I q4.2.2.2.2.2.1,I q4.2.2.2.2.2.2.1,I q4.2.2.2.2.2.2.2.1,I q21]] ?_ ?_
 ·refine jC E hq21 (fun h23=>?_) fun h24=>gA 1 E<|oSi h24▸⟨⟨E,E,tV⟩,[],E,.inl E⟩
  exact gA 1 E<|eo_o E (Klc hΓ (l:=List.replicate 9 ()) (z:=()) E E E E E E E)<|Kqs hΓ E E E E E E E E Z<|Kfg [.box 46 (gh a),Qv,.box 212 [I q4.1,I q4.2.1,I q4.2.2.1,I q4.2.2.2.1,I q4.2.2.2.2.1,I q4.2.2.2.2.2.1,I q4.2.2.2.2.2.2.1,I q4.2.2.2.2.2.2.2.1,I 1]] E<|gO 1 E<|oSi h23▸⟨⟨E,E,tV⟩,[],E,.inl E⟩
 exact gA 4 E<|Kqs hΓ E E E E E E E E Z<|Kfg [.box 46 (gh a),.box 212 [I q4.1,I q4.2.1,I q4.2.2.1,I q4.2.2.2.1,I q4.2.2.2.2.1,I q4.2.2.2.2.2.1,I q4.2.2.2.2.2.2.1,I q4.2.2.2.2.2.2.2.1,I q21],.box 212 [I q4.1,I q4.2.1,I q4.2.2.1,I q4.2.2.2.1,I q4.2.2.2.2.1,I q4.2.2.2.2.2.1,I q4.2.2.2.2.2.2.1,I q4.2.2.2.2.2.2.2.1,I q21]] E<|gO 3 E<|oSi h22▸gP E E
theorem Lgi{a:Kxe}{r:Int}(h:Kyh a=some r):Pure Tryz.prog 182 [.agg (gh a)] (I r):=by
 unfold Kyh at h
 refine QP Tryz.func182 E E E<|gA 2 E<|Kqo E E E E Z<|gO 10 E<|jC E h (fun h1=>?_) fun h2=>gA 8 E<|oSi h2▸gP E E
 exact gA 7 E<|oSi h1▸gP E E
theorem Lgj{k:Nat}{a:Kxe}{bits:Int}{r:(Int×Int×Int×Int×Int×Int×Int×Int×Int)}(h:Kyi k a bits=some r):Pure Tryz.prog 180 [.agg (gh a),I bits] (.agg [I r.1,I r.2.1,I r.2.2.1,I r.2.2.2.1,I r.2.2.2.2.1,I r.2.2.2.2.2.1,I r.2.2.2.2.2.2.1,I r.2.2.2.2.2.2.2.1,I r.2.2.2.2.2.2.2.2]):=by
 unfold Kyi at h
 refine QP Tryz.func180 E E E<|gA 2 E<|Kqo E E E E Z<|Kqn hΓ E E E Z<|bK h fun y1 hy1 h2=>gO 5 E<|Kex C (Lgh hy1) E Z E E E E E<|Kqn hΓ E E E Z<|Kqs hΓ E E E E E E E E Z<|Kfg [.box 46 (gh a),Qv,.box 212 [I y1.1,I y1.2.1,I y1.2.2.1,I y1.2.2.2.1,I y1.2.2.2.2.1,I y1.2.2.2.2.2.1,I y1.2.2.2.2.2.2.1,I y1.2.2.2.2.2.2.2.1,I y1.2.2.2.2.2.2.2.2]] E<|bK h2 fun y3 hy3 h4=>gO 6 E<|Kex C (Lgi hy3) E Z E E E E E<|gO 5 E<|bK h4 fun q8 hq8 h9=>gK hq8 fun hb11 h12=>?_
 replace hb11:=of_decide_eq_true hb11
 refine Kid [(4,.ptr 1 0),(5,.ptr 2 0)] [.box 46 (gh a),Qv,.box 212 [I q8.1,I q8.2.1,I q8.2.2.1,I q8.2.2.2.1,I q8.2.2.2.2.1,I q8.2.2.2.2.2.1,I q8.2.2.2.2.2.2.1,I q8.2.2.2.2.2.2.2.1,I q8.2.2.2.2.2.2.2.2]] ?_ ?_
 ·refine gA 1 E<|Kfr h12 (fun i5 s6=>[(4,.ptr 1 0),(5,.ptr 2 0),(12,I (wi (y3 - bits))),(13,I (i5:Int))]) (fun s6=>[.box 46 (gh a),Qv,.box 212 [I s6.1,I s6.2.1,I s6.2.2.1,I s6.2.2.2.1,I s6.2.2.2.2.1,I s6.2.2.2.2.2.1,I s6.2.2.2.2.2.2.1,I s6.2.2.2.2.2.2.2.1,I s6.2.2.2.2.2.2.2.2]]) ⟨⟨E,E,E,E,tV⟩,[],E,.inl E⟩ (fun i5 s6 y16 hlt hy14=>?_) (fun hge=>?_)
  ·exact gA 6 E<|Kdo E (dT hlt)<|gA 10 E<|Khd [.dead,.dead,.box 212 [I s6.1,I s6.2.1,I s6.2.2.1,I s6.2.2.2.1,I s6.2.2.2.2.1,I s6.2.2.2.2.2.1,I s6.2.2.2.2.2.2.1,I s6.2.2.2.2.2.2.2.1,I s6.2.2.2.2.2.2.2.2]] [3] [9] [9] hmix (by kernel_rfl) (by kernel_rfl) ⟨E,tV⟩ Z<|bK hy14 fun y17 hy17 h18=>go_E hΓ 1 E<|ge_q E (.inl E) (fun _ _=>Khf (qt_p (Kfk hy17 E E)))<|bK h18 fun x19 hx19 h20=>ge_q E (.inl E) (fun _ _=>Khf (qt_p (Klc hΓ hx19 E E E E E E)))<|ge_p E (fun hp hs=>Kld hΓ (f:=fun z=>.d (.v (.int .i64 z))) hx19 E E E E (hs 2 _ E E) E) E<|bK h20 fun y21 hy21 h22=>go_E hΓ 1 E<|ge_q E (.inl E) (fun _ _=>Khf (qt_p (Kfl hy21 E E)))<|bK h22 fun y23 hy23 h24=>ge_q E (.inl E) (fun _ _=>Khf (qt_p (Kgb hy23 E E)))<|bK h24 fun x25 hx25 h26=>go_E hΓ 1 E<|ge_q E (.inl E) (fun _ _=>Khf (qt_p (Klc hΓ hx25 E E E E E E)))<|Khj [.box 46 (gh a),Qv,.box 212 [I (updA y17 0 (bitsV .andNot .i64 x19 y23) s6.1),I (updA y17 1 (bitsV .andNot .i64 x19 y23) s6.2.1),I (updA y17 2 (bitsV .andNot .i64 x19 y23) s6.2.2.1),I (updA y17 3 (bitsV .andNot .i64 x19 y23) s6.2.2.2.1),I (updA y17 4 (bitsV .andNot .i64 x19 y23) s6.2.2.2.2.1),I (updA y17 5 (bitsV .andNot .i64 x19 y23) s6.2.2.2.2.2.1),I (updA y17 6 (bitsV .andNot .i64 x19 y23) s6.2.2.2.2.2.2.1),I (updA y17 7 (bitsV .andNot .i64 x19 y23) s6.2.2.2.2.2.2.2.1),I (updA y17 8 (bitsV .andNot .i64 x19 y23) s6.2.2.2.2.2.2.2.2)]] E E (Khk E) (Khp (Kle hΓ (l:=([s6.1,s6.2.1,s6.2.2.1,s6.2.2.2.1,s6.2.2.2.2.1,s6.2.2.2.2.2.1,s6.2.2.2.2.2.2.1,s6.2.2.2.2.2.2.2.1,s6.2.2.2.2.2.2.2.2]:List Int)) (v:=(bitsV .andNot .i64 x19 y23)) (f:=fun z=>.d (.v (.int .i64 z))) hx25 E E E E E E E E E E))<|Khe<|gA 6 E<|oSi h26▸⟨⟨E,E,E,Kcs E (Kcr (by omega)),tV⟩,[],E,.inl E⟩
  exact gA 6 E<|Kdp E (dF hge)<|gA 4 E<|⟨⟨E,E,tV⟩,[],E,.inl E⟩
 exact gA 4 E<|Kqs hΓ E E E E E E E E Z<|Kfg [.box 46 (gh a),.box 212 [I q8.1,I q8.2.1,I q8.2.2.1,I q8.2.2.2.1,I q8.2.2.2.2.1,I q8.2.2.2.2.2.1,I q8.2.2.2.2.2.2.1,I q8.2.2.2.2.2.2.2.1,I q8.2.2.2.2.2.2.2.2],.box 212 [I q8.1,I q8.2.1,I q8.2.2.1,I q8.2.2.2.1,I q8.2.2.2.2.1,I q8.2.2.2.2.2.1,I q8.2.2.2.2.2.2.1,I q8.2.2.2.2.2.2.2.1,I q8.2.2.2.2.2.2.2.2]] E<|gO 3 E<|oSi h9▸gP E E
theorem Lgk{k:Nat}{w:(Int×Int×Int×Int×Int×Int×Int×Int×Int)}{r:Kxe}(h:Kyj k w=some r):Pure Tryz.prog 181 [.agg [I w.1,I w.2.1,I w.2.2.1,I w.2.2.2.1,I w.2.2.2.2.1,I w.2.2.2.2.2.1,I w.2.2.2.2.2.2.1,I w.2.2.2.2.2.2.2.1,I w.2.2.2.2.2.2.2.2]] (.agg (gh r)):=by
 unfold Kyj at h
 refine QP Tryz.func181 E E E<|gA 2 E<|Kqo E E E E Z<|Kqn hΓ E E E Z<|gO 4 E<|Kqn hΓ E E E Z<|gO 8 E<|bK h fun q4 hq4 h5=>Kid [(1,.ptr 0 0),(2,.ptr 1 0),(3,.ptr 2 0)] [Qf w,QV,.box 46 (gh q4)] ?_ ?_
 ·refine gA 1 E<|Kec hq4 (fun s2=>[(1,.ptr 0 0),(2,.ptr 1 0),(3,.ptr 2 0),(5,I s2.2)]) (fun s2=>[Qf w,QV,.box 46 (gh s2.1)]) ⟨⟨E,E,E,E,tV⟩,[],E,.inl E⟩ (fun s2 y10 hy8 hout9=>?_)
  refine gA 6 E<|jC E hy8 (fun h11=>?_) fun h20=>gA 4 E ?_
  ·exact gA 11 E<|Khd [Qf w,.dead,.box 46 (gh s2.1)] [1,4] [11] [11] hmix (by kernel_rfl) (by kernel_rfl) ⟨E,E,tV⟩ Z<|bK h11 fun x12 hx12 h13=>go_E hΓ 3 E<|ge_q E (.inl E) (fun _ _=>Khf (qt_p (Klc hΓ hx12 E E E E E E)))<|ge_p E (fun hp hs=>Kld hΓ (f:=fun z=>.d (.v (.int .i64 z))) hx12 E E E E (hs 0 _ E E) E) E<|bK h13 fun y14 hy14 h15=>go_E hΓ 3 E<|ge_q E (.inl E) (fun _ _=>Khf (qt_p (Kgb hy14 E E)))<|go_E hΓ 2 E<|Khj [Qf w,QV,.box 46 [B s2.1.Six,U s2.1.Hi,U (bitsV .or .u64 s2.1.Lo y14)]] E E (Khk E) (Khp (Kiq hΓ E E E E E E E E E))<|Khe<|gA 1 E<|Khd [Qf w,.dead,.box 46 [B s2.1.Six,U s2.1.Hi,U (bitsV .or .u64 s2.1.Lo y14)]] [1,5] [12] [12] hmix (by kernel_rfl) (by kernel_rfl) ⟨E,E,tV⟩ Z<|bK h15 fun x16 hx16 h17=>go_E hΓ 4 E<|ge_q E (.inl E) (fun _ _=>Khf (qt_p (Klc hΓ hx16 E E E E E E)))<|ge_p E (fun hp hs=>Kld hΓ (f:=fun z=>.d (.v (.int .i64 z))) hx16 E E E E (hs 0 _ E E) E) E<|bK h17 fun y18 hy18 h19=>go_E hΓ 3 E<|ge_q E (.inl E) (fun _ _=>Khf (qt_p (Kgb hy18 E E)))<|go_E hΓ 2 E<|Khj [Qf w,QV,.box 46 [B s2.1.Six,U (bitsV .or .u64 s2.1.Hi y18),U (bitsV .or .u64 s2.1.Lo y14)]] E E (Khk E) (Khp (Kiq hΓ E E E E E E E E E))<|Khe<|gA 6 E<|oSi h19▸⟨_,E,⟨⟨E,E,E,E,tV⟩,[],E,.inl E⟩⟩
  cases h20
  obtain rfl:=hout9 _ rfl
  exact⟨⟨E,E,E,tV⟩,[],E,.inl E⟩
 exact gA 3 E<|eo_o E (Klc hΓ (l:=List.replicate 9 ()) (z:=()) E E E E E E E)<|gO 3 E<|Kqs hΓ E E E E E E E E Z<|Kfg [Qf w,QV,.box 46 [B (decide ((w.2.2.2.2.2.2.2.2:Int)>0)),U q4.Hi,U q4.Lo]] E<|gO 5 E<|Kqs hΓ E E E E E E E E Z<|Kfg [Qf w,.box 46 [B (decide ((w.2.2.2.2.2.2.2.2:Int)>0)),U q4.Hi,U q4.Lo],.box 46 [B (decide ((w.2.2.2.2.2.2.2.2:Int)>0)),U q4.Hi,U q4.Lo]] E<|gO 3 E<|oSi h5▸gP E E
theorem Lgl{k:Nat}{a:Kxe}{bits:Int}{r:Kxf}(h:Kyk k a bits=some r):Pure Tryz.prog 125 [.agg (gh a),I bits] (.agg (gk r)):=by
 unfold Kyk at h
 exact QP Tryz.func125 E E E<|gA 2 E<|Kqo E E E E Z<|Kqn hΓ E E E Z<|bK h fun y1 hy1 h2=>gO 6 E<|Kex C (Lgj hy1) E Z E E E E E<|bK h2 fun y3 hy3 h4=>Kex C (Lgk hy3) E Z E E E E E<|gO 1 E<|Kbn hΓ (gs:=[B y3.Six,U y3.Hi,U y3.Lo,I bits]) E E E E E E E<|Kqs hΓ E E E E E E E E Z<|Kfg [.box 46 (gh a),.box 106 [B y3.Six,U y3.Hi,U y3.Lo,I bits]] E<|gO 3 E<|oSi h4▸gP E E
theorem Lgm{k:Nat}{s:Kxc}{self:Bool}{r:Kxh×Kxc}(h:Kyl k s self=some r):EC Tryz.prog 71 [.ptr 0 0,B self] [Q8 s] fun g hp'=>g=.agg (gm r.1)∧hp'=[.box 25 (fQ r.2)]:=by
 unfold Kyl at h
 refine QN Tryz.func71 E Z<|gA 2 E<|Kqn hΓ E E E Z<|gO 5 E<|Ker hΓ (enc:=(eN .i64)) [1,2,2,3,3,4,4,5,6,7,8,9] E E E E E E E E E E E E Z<|bK h fun y1 hy1 h2=>Kew [0] (I y1.1) [.box 25 (fQ y1.2),Qy] C (Lgd hy1) E Z E E E E E E E E E E<|Kbn hΓ (gs:=[I y1.1,S [],B false,U 0,U 0,I 0]) E E E E E E E<|Kqn hΓ E E E Z<|Kqs hΓ E E E E E E E E Z<|Kfg [.box 25 (fQ y1.2),Qy,.box 146 [I y1.1,S [],B false,U 0,U 0,I 0]] E<|gO 7 E<|bK h2 fun q3 hq3 h4=>Kdt 3 [(0,.ptr 0 0),(4,.ptr 1 0),(5,.ptr 2 0),(14,B q3.2)] [.box 25 (fQ q3.1),Qy,.box 146 [I y1.1,S [],B false,U 0,U 0,I 0]] ?_ ?_
 ·refine Kpg E E (fun hb=>?_) (fun hb=>?_)
  ·have h5:=cT hq3 hb
   exact bK h5 fun y6 hy6 h7=>gO 1 E<|Kpe E<|Kew [0] (B y6.1) [.box 25 (fQ y6.2),Qy,.box 146 [I y1.1,S [],B false,U 0,U 0,I 0]] C (Lfz hy6) E Z E E E E E E E E E E<|gO 2 E<|oSi h7▸⟨⟨E,E,E,E,tV⟩,[],E,.inl E⟩
  have h8:=cF hq3 hb
  exact gO 4 E<|oSi h8▸⟨⟨E,E,E,E,tV⟩,[],E,.inl E⟩
 refine gO 2 E<|jC E h4 (fun h9=>?_) fun h10=>bK h10 fun q11 hq11 h12=>gA 9 E<|Kid [(4,.ptr 1 0),(5,.ptr 2 0)] [.box 25 (fQ q11.1),Qy,.box 146 (gm q11.2)] ?_ ?_
 ·exact gA 2 E<|Kbn hΓ (gs:=[I 10,S [],B false,U 0,U 0,I 0]) E E E E E E E<|Kqs hΓ E E E E E E E E Z<|Kfg [.box 25 (fQ q3.1),.box 146 [I 10,S [],B false,U 0,U 0,I 0],.box 146 [I y1.1,S [],B false,U 0,U 0,I 0]] E<|gO 4 E<|oSi h9▸Kfn hΓ [_,_] (.inr E) E E E E (.inr ⟨HB.mk E,E⟩)
 ·refine gA 7 E<|jC E hq11 (fun h13=>?_) fun h16=>gA 6 E<|jC E h16 (fun h17=>?_) fun h20=>?_
  ·exact gA 2 E<|Ker hΓ (enc:=eS) [[97,110,110],[98,111,98],[122,101,100]] E E E E E E E E E E E E Z<|bK h13 fun y14 hy14 h15=>Kew [0] (S y14.1) [.box 25 (fQ y14.2),Qy,.box 146 [I y1.1,S [],B false,U 0,U 0,I 0]] C (Lga hy14) E Z E E E E E E E E E E<|gO 1 E<|Kqs hΓ E E E E E E E E Z<|Kfg [.box 25 (fQ y14.2),Qy,.box 146 [I y1.1,S y14.1,B false,U 0,U 0,I 0]] E<|gO 2 E<|oSi h15▸⟨⟨E,E,tV⟩,[],E,.inl E⟩
  ·exact gA 2 E<|Ker hΓ (enc:=eS) [[100,101,118],[101,110,103],[111,112,115]] E E E E E E E E E E E E Z<|bK h17 fun y18 hy18 h19=>Kew [0] (S y18.1) [.box 25 (fQ y18.2),Qy,.box 146 [I y1.1,S [],B false,U 0,U 0,I 0]] C (Lga hy18) E Z E E E E E E E E E E<|gO 1 E<|Kqs hΓ E E E E E E E E Z<|Kfg [.box 25 (fQ y18.2),Qy,.box 146 [I y1.1,S y18.1,B false,U 0,U 0,I 0]] E<|gO 2 E<|oSi h19▸⟨⟨E,E,tV⟩,[],E,.inl E⟩
  refine gA 6 E<|jC E h20 (fun h21=>?_) fun h24=>gA 6 E<|jC E h24 (fun h25=>?_) fun h28=>?_
  ·exact gA 2 E<|Ker hΓ (enc:=eS) [[119,101,98],[100,98],[110,111,110,101]] E E E E E E E E E E E E Z<|bK h21 fun y22 hy22 h23=>Kew [0] (S y22.1) [.box 25 (fQ y22.2),Qy,.box 146 [I y1.1,S [],B false,U 0,U 0,I 0]] C (Lga hy22) E Z E E E E E E E E E E<|gO 1 E<|Kqs hΓ E E E E E E E E Z<|Kfg [.box 25 (fQ y22.2),Qy,.box 146 [I y1.1,S y22.1,B false,U 0,U 0,I 0]] E<|gO 2 E<|oSi h23▸⟨⟨E,E,tV⟩,[],E,.inl E⟩
  ·exact gA 2 E<|Ker hΓ (enc:=eS) [[110,97],[110,98],[110,122]] E E E E E E E E E E E E Z<|bK h25 fun y26 hy26 h27=>Kew [0] (S y26.1) [.box 25 (fQ y26.2),Qy,.box 146 [I y1.1,S [],B false,U 0,U 0,I 0]] C (Lga hy26) E Z E E E E E E E E E E<|gO 1 E<|Kqs hΓ E E E E E E E E Z<|Kfg [.box 25 (fQ y26.2),Qy,.box 146 [I y1.1,S y26.1,B false,U 0,U 0,I 0]] E<|gO 2 E<|oSi h27▸⟨⟨E,E,tV⟩,[],E,.inl E⟩
  refine gA 6 E<|jC E h28 (fun h29=>?_) fun h32=>gA 6 E<|jC E h32 (fun h33=>?_) fun h46=>?_
  ·exact gA 2 E<|Ker hΓ (enc:=eS) [[108,97,98],[110,101,116,54]] E E E E E E E E E E E E Z<|bK h29 fun y30 hy30 h31=>Kew [0] (S y30.1) [.box 25 (fQ y30.2),Qy,.box 146 [I y1.1,S [],B false,U 0,U 0,I 0]] C (Lga hy30) E Z E E E E E E E E E E<|gO 1 E<|Kqs hΓ E E E E E E E E Z<|Kfg [.box 25 (fQ y30.2),Qy,.box 146 [I y1.1,S y30.1,B false,U 0,U 0,I 0]] E<|gO 2 E<|oSi h31▸⟨⟨E,E,tV⟩,[],E,.inl E⟩
  ·refine gA 2 E<|Kbn hΓ (gs:=[B false,U 0,U 167772160]) E E E E E E E<|gO 1 E<|Ker hΓ (enc:=(eN .i64)) [8,12,24] E E E E E E E E E E E E Z<|bK h33 fun y34 hy34 h35=>Kew [0] (I y34.1) [.box 25 (fQ y34.2),Qy,.box 146 [I y1.1,S [],B false,U 0,U 0,I 0]] C (Lgd hy34) E Z E E E E E E E E E E<|Kbn hΓ (gs:=[B false,U 0,U 167772160,I y34.1]) E E E E E E E<|gO 1 E<|Kqs hΓ E E E E E E E E Z<|Kfg [.box 25 (fQ y34.2),Qy,.box 146 [I y1.1,S [],B false,U 0,U 167772160,I y34.1]] E<|bK h35 fun y36 hy36 h37=>gO 5 E<|Kew [0] (B y36.1) [.box 25 (fQ y36.2),Qy,.box 146 [I y1.1,S [],B false,U 0,U 167772160,I y34.1]] C (Lfz hy36) E Z E E E E E E E E E E<|gO 2 E<|jC E h37 (fun h38=>?_) fun h45=>gA 2 E<|oSi h45▸⟨⟨E,E,tV⟩,[],E,.inl E⟩
   exact bK h38 fun y39 hy39 h40=>gA 2 E<|Kex C (Lgb hy39) E Z E E E E E<|gO 1 E<|Ker hΓ (enc:=(eN .i64)) [10,30,31] E E E E E E E E E E E E Z<|bK h40 fun y41 hy41 h42=>Kew [0] (I y41.1) [.box 25 (fQ y41.2),Qy,.box 146 [I y1.1,S [],B false,U 0,U 167772160,I y34.1]] C (Lgd hy41) E Z E E E E E E E E E E<|Kbn hΓ (gs:=[B y39.Six,U y39.Hi,U y39.Lo,I y41.1]) E E E E E E E<|gO 1 E<|Kqs hΓ E E E E E E E E Z<|Kfg [.box 25 (fQ y41.2),Qy,.box 146 [I y1.1,S [],B y39.Six,U y39.Hi,U y39.Lo,I y41.1]] E<|bK h42 fun y43 hy43 h44=>gO 9 E<|Kex C (Lgl hy43) E Z E E E E E<|gO 1 E<|Kqs hΓ E E E E E E E E Z<|Kfg [.box 25 (fQ y41.2),Qy,.box 146 [I y1.1,S [],B y43.Addr.Six,U y43.Addr.Hi,U y43.Addr.Lo,I y43.Bits]] E<|gO 2 E<|oSi h44▸⟨⟨E,E,tV⟩,[],E,.inl E⟩
  exact gA 2 E<|oSi h46▸⟨⟨E,E,tV⟩,[],E,.inl E⟩
 exact gA 4 E<|Kqs hΓ E E E E E E E E Z<|Kfg [.box 25 (fQ q11.1),.box 146 (gm q11.2),.box 146 (gm q11.2)] E<|gO 3 E<|oSi h12▸Kfn hΓ [_,_] (.inr E) E E E E (.inr ⟨HB.mk E,E⟩)
theorem Lgn{s:Kxc}{r:Kxi×Kxc}(h:Kym s=some r):EC Tryz.prog 72 [.ptr 0 0] [Q8 s] fun g hp'=>g=.agg (gn r.1)∧hp'=[.box 25 (fQ r.2)]:=by
 unfold Kym at h
 refine QN Tryz.func72 E Z<|gA 2 E<|Kqn hΓ E E E Z<|bK h fun y1 hy1 h2=>gO 6 E<|Kew [0] (I y1.1) [.box 25 (fQ y1.2),Q5] C (Lfy hy1) E Z E E E E E E E E E E<|bK h2 fun q3 hq3 h4=>gO 10 E<|Kid [(0,.ptr 0 0),(2,.ptr 1 0),(6,I y1.1),(7,B q3)] [.box 25 (fQ y1.2),Q5] ?_ ?_
 ·refine jC E hq3 (fun h5=>?_) fun h6=>gA 4 E<|oSi h6▸⟨⟨E,E,E,E,tV⟩,[],E,.inl E⟩
  exact gA 1 E<|oSi h5▸⟨⟨E,E,E,E,tV⟩,[],E,.inl E⟩
 refine gA 1 E<|jC E h4 (fun h7=>?_) fun h8=>gA 6 E<|jC E h8 (fun h9=>?_) fun h12=>?_
 ·exact gA 2 E<|Kbn hΓ (gs:=[I 0,I 65535]) E E E E E E E<|Kqs hΓ E E E E E E E E Z<|Kfg [.box 25 (fQ y1.2),.box 148 [I 0,I 65535]] E<|gO 5 E<|oSi h7▸Kfn hΓ [_] (.inr E) E E E E (.inr ⟨HB.mk E,E⟩)
 ·exact gA 3 E<|Ker hΓ (enc:=(eN .i64)) [80,90,443] E E E E E E E E E E E E Z<|bK h9 fun y10 hy10 h11=>Kew [0] (I y10.1) [.box 25 (fQ y10.2),Q5] C (Lgd hy10) E Z E E E E E E E E E E<|Kbn hΓ (gs:=[I 80,I y10.1]) E E E E E E E<|Kqs hΓ E E E E E E E E Z<|Kfg [.box 25 (fQ y10.2),.box 148 [I 80,I y10.1]] E<|gO 5 E<|oSi h11▸Kfn hΓ [_] (.inr E) E E E E (.inr ⟨HB.mk E,E⟩)
 refine gA 6 E<|jC E h12 (fun h13=>?_) fun h16=>gA 6 E<|Ker hΓ (enc:=(eN .i64)) [0,81,100] E E E E E E E E E E E E Z<|bK h16 fun y17 hy17 h18=>Kew [0] (I y17.1) [.box 25 (fQ y17.2),Q5] C (Lgd hy17) E Z E E E E E E E E E E<|bK h18 fun y19 hy19 h20=>gO 8 E<|Kew [0] (I y19.1) [.box 25 (fQ y19.2),Q5] C (Lgg hy19) E Z E E E E E E E E E E<|Kbn hΓ (gs:=[I y17.1,I y19.1]) E E E E E E E<|Kqs hΓ E E E E E E E E Z<|Kfg [.box 25 (fQ y19.2),.box 148 [I y17.1,I y19.1]] E<|gO 3 E<|oSi h20▸Kfn hΓ [_] (.inr E) E E E E (.inr ⟨HB.mk E,E⟩)
 exact gA 3 E<|Ker hΓ (enc:=(eN .i64)) [22,443,65535,0] E E E E E E E E E E E E Z<|bK h13 fun y14 hy14 h15=>Kew [0] (I y14.1) [.box 25 (fQ y14.2),Q5] C (Lgd hy14) E Z E E E E E E E E E E<|gO 7 E<|Kbn hΓ (gs:=[I y14.1,I y14.1]) E E E E E E E<|Kqs hΓ E E E E E E E E Z<|Kfg [.box 25 (fQ y14.2),.box 148 [I y14.1,I y14.1]] E<|gO 5 E<|oSi h15▸Kfn hΓ [_] (.inr E) E E E E (.inr ⟨HB.mk E,E⟩)
theorem Lgo{k:Nat}{s:Kxc}{r:Kxk×Kxc}(h:Kyn k s=some r):EC Tryz.prog 45 [.ptr 0 0] [Q8 s] fun g hp'=>g=.agg (gt r.1)∧hp'=[.box 25 (fQ r.2)]:=by
 unfold Kyn at h
 refine QN Tryz.func45 E Z<|gA 2 E<|Kqn hΓ E E E Z<|gO 5 E<|Ker hΓ (enc:=(eN .i64)) [0,0,6,6,17,1,47] E E E E E E E E E E E E Z<|bK h fun y1 hy1 h2=>Kew [0] (I y1.1) [.box 25 (fQ y1.2),Qo] C (Lgd hy1) E Z E E E E E E E E E E<|eo_s Z (nblt.1 E) (Kiy 150 8 1 (Kiy 146 6 0 (OpP.s (Kiw hΓ [0,1] (gs:=[.d (.v (.slice none 0 0)),.d (.v (.slice none 0 0)),I y1.1,.d (Sl eS [])]) E E E E E E)) E) E)<|Kqn hΓ E E E Z<|Kqs hΓ E E E E E E E E Z<|Kfg [.box 25 (fQ y1.2),Qo,QQ,QR,.box 115 [.sl 2 ([]:List Kxh).length,.sl 3 ([]:List Kxj).length,I y1.1,.d (Sl eS [])]] E<|gO 6 E<|Ker hΓ (enc:=(eN .i64)) [1,1,2] E E E E E E E E E E E E Z<|bK h2 fun y3 hy3 h4=>Kew [0] (I y3.1) [.box 25 (fQ y3.2),Qo,QQ,QR,.box 115 [.sl 2 ([]:List Kxh).length,.sl 3 ([]:List Kxj).length,I y1.1,.d (Sl eS [])]] C (Lgd hy3) E Z E E E E E E E E E E<|gO 3 E<|bK h4 fun q8 hq8 h9=>gK hq8 fun hb11 h12=>?_
 replace hb11:=of_decide_eq_true hb11
 refine Kid [(0,.ptr 0 0),(2,.ptr 1 0),(3,.ptr 4 0)] [.box 25 (fQ q8.1),Qo,Qdb q8.2,QR,.box 115 [.sl 2 q8.2.length,.sl 3 ([]:List Kxj).length,I y1.1,.d (Sl eS [])]] ?_ ?_
 ·refine gA 1 E<|Kfr h12 (fun i5 s6=>[(0,.ptr 0 0),(2,.ptr 1 0),(3,.ptr 4 0),(11,I y3.1),(12,I (i5:Int))]) (fun s6=>[.box 25 (fQ s6.1),Qo,Qdb s6.2,QR,.box 115 [.sl 2 s6.2.length,.sl 3 ([]:List Kxj).length,I y1.1,.d (Sl eS [])]]) ⟨⟨E,E,E,E,E,tV⟩,[],E,.inl E⟩ (fun i5 s6 y16 hlt hy14=>?_) (fun hge=>?_)
  ·exact gA 6 E<|Kdo E (dT hlt)<|gA 4 E<|Khd [.dead,.dead,.dead,.dead,.box 115 [.sl 2 s6.2.length,.sl 3 ([]:List Kxj).length,I y1.1,.d (Sl eS [])]] [1] [3,5,7] [5,7] hmix (by kernel_rfl) (by kernel_rfl) ⟨E,tV⟩ Z<|bK hy14 fun y17 hy17 h18=>go_E hΓ 3 E<|ge_h [.box 25 (fQ y17.2),Qo,Qdb s6.2,QR,.box 115 [.sl 2 s6.2.length,.sl 3 ([]:List Kxj).length,I y1.1,.d (Sl eS [])]] E E E (Khl ⟨E,tV⟩) (Khq [0] (.agg (gm y17.1)) [.box 25 (fQ y17.2),Qo,Qdb s6.2,QR,.box 115 [.sl 2 s6.2.length,.sl 3 ([]:List Kxj).length,I y1.1,.d (Sl eS [])]] C (Lgm hy17) E E E E E E E E E E)<|Khs hΓ (enc:=Lfk) [y17.1] E E E E E E E E E E E E<|bK h18 fun y19 hy19 h20=>ge_h [.box 25 (fQ y17.2),Qo,.dead,QR,.box 115 [.junk,.sl 3 ([]:List Kxj).length,I y1.1,.d (Sl eS [])],Qdb y19] E E E (Khk E) (Kho (Kjc 2 (Kgt hΓ (enc:=Lfk) (id:=2) (h2:=show Γ 146=some ⟨_,6,_,_⟩ from E) hy19 E E E E E E E E (fun _=>E) E)))<|go_E hΓ 1 E<|Khj [.box 25 (fQ y17.2),Qo,.dead,QR,.box 115 [.sl 5 y19.length,.sl 3 ([]:List Kxj).length,I y1.1,.d (Sl eS [])],Qdb y19] E E (Khk E) (Khp (Kiq hΓ E E E E E E E E E))<|Khe<|gA 2 E<|Kgx 5 2 [.box 25 (fQ y17.2),Qo,Qdb y19,QR,.box 115 [.sl 2 y19.length,.sl 3 ([]:List Kxj).length,I y1.1,.d (Sl eS [])],.dead] E E E E E E<|gA 4 E<|oSi h20▸⟨⟨E,E,E,E,Kcs E (Kcr (by omega)),tV⟩,[_],E,.inr ⟨HB.mk E,FB.mk E,Z⟩⟩
  exact gA 6 E<|Kdp E (dF hge)<|gA 4 E<|⟨⟨E,E,E,tV⟩,[],E,.inl E⟩
 refine gA 5 E<|Ker hΓ (enc:=(eN .i64)) [1,1,2] E E E E E E E E E E E E Z<|bK h9 fun y21 hy21 h22=>Kew [0] (I y21.1) [.box 25 (fQ y21.2),Qo,Qdb q8.2,QR,.box 115 [.sl 2 q8.2.length,.sl 3 ([]:List Kxj).length,I y1.1,.d (Sl eS [])]] C (Lgd hy21) E Z E E E E E E E E E E<|gO 3 E<|bK h22 fun q26 hq26 h27=>gK hq26 fun hb29 h30=>?_
 replace hb29:=of_decide_eq_true hb29
 refine Kid [(0,.ptr 0 0),(2,.ptr 1 0),(3,.ptr 4 0)] [.box 25 (fQ q26.1),Qo,Qdb q8.2,Qeb q26.2,.box 115 [.sl 2 q8.2.length,.sl 3 q26.2.length,I y1.1,.d (Sl eS [])]] ?_ ?_
 ·refine gA 1 E<|Kfr h30 (fun i23 s24=>[(0,.ptr 0 0),(2,.ptr 1 0),(3,.ptr 4 0),(24,I y21.1),(25,I (i23:Int))]) (fun s24=>[.box 25 (fQ s24.1),Qo,Qdb q8.2,Qeb s24.2,.box 115 [.sl 2 q8.2.length,.sl 3 s24.2.length,I y1.1,.d (Sl eS [])]]) ⟨⟨E,E,E,E,E,tV⟩,[],E,.inl E⟩ (fun i23 s24 y34 hlt hy32=>?_) (fun hge=>?_)
  ·refine gA 6 E<|Kdo E (dT hlt)<|bK hy32 fun y35 hy35 h36=>gA 7 E<|Kew [0] (.agg (gm y35.1)) [.box 25 (fQ y35.2),Qo,Qdb q8.2,Qeb s24.2,.box 115 [.sl 2 q8.2.length,.sl 3 s24.2.length,I y1.1,.d (Sl eS [])]] C (Lgm hy35) E Z E E E E E E E E E E<|bK h36 fun y37 hy37 h38=>gO 1 E<|Kew [0] (.agg (gn y37.1)) [.box 25 (fQ y37.2),Qo,Qdb q8.2,Qeb s24.2,.box 115 [.sl 2 q8.2.length,.sl 3 s24.2.length,I y1.1,.d (Sl eS [])]] C (Lgn hy37) E Z E E E E E E E E E E<|Kbn hΓ (gs:=[I y35.1.Kind,S y35.1.Name,B y35.1.Net.Addr.Six,U y35.1.Net.Addr.Hi,U y35.1.Net.Addr.Lo,I y35.1.Net.Bits,I y37.1.From,I y37.1.To]) E E E E E E E<|Kqn hΓ E E E Z<|Kqs hΓ E E E E E E E E Z<|Kfg [.box 25 (fQ y37.2),Qo,Qdb q8.2,Qeb s24.2,.box 115 [.sl 2 q8.2.length,.sl 3 s24.2.length,I y1.1,.d (Sl eS [])],.box 150 [I y35.1.Kind,S y35.1.Name,B y35.1.Net.Addr.Six,U y35.1.Net.Addr.Hi,U y35.1.Net.Addr.Lo,I y35.1.Net.Bits,I y37.1.From,I y37.1.To]] E<|gO 9 E<|Kdt 4 [(0,.ptr 0 0),(2,.ptr 1 0),(3,.ptr 4 0),(4,.ptr 5 0),(24,I y21.1),(25,I (i23:Int)),(39,B (((y1.1:Int) != 0)&&((y1.1:Int) != 6)))] [.box 25 (fQ y37.2),Qo,Qdb q8.2,Qeb s24.2,.box 115 [.sl 2 q8.2.length,.sl 3 s24.2.length,I y1.1,.d (Sl eS [])],.box 150 [I y35.1.Kind,S y35.1.Name,B y35.1.Net.Addr.Six,U y35.1.Net.Addr.Hi,U y35.1.Net.Addr.Lo,I y35.1.Net.Bits,I y37.1.From,I y37.1.To]] ?_ ?_
   ·refine Kpg E E (fun hb=>?_) (fun hb=>?_)
    ·exact gO 5 E<|⟨⟨E,E,E,E,E,E,Kct E (Kft hb),tV⟩,[],E,.inl E⟩
    exact gO 5 E<|⟨⟨E,E,E,E,E,E,Kct E (Kfu hb),tV⟩,[],E,.inl E⟩
   refine gO 1 E<|Kdt 4 [(0,.ptr 0 0),(2,.ptr 1 0),(3,.ptr 4 0),(4,.ptr 5 0),(24,I y21.1),(25,I (i23:Int)),(44,B ((((y1.1:Int) != 0)&&((y1.1:Int) != 6))&&((y1.1:Int) != 17)))] [.box 25 (fQ y37.2),Qo,Qdb q8.2,Qeb s24.2,.box 115 [.sl 2 q8.2.length,.sl 3 s24.2.length,I y1.1,.d (Sl eS [])],.box 150 [I y35.1.Kind,S y35.1.Name,B y35.1.Net.Addr.Six,U y35.1.Net.Addr.Hi,U y35.1.Net.Addr.Lo,I y35.1.Net.Bits,I y37.1.From,I y37.1.To]] ?_ ?_
   ·refine Kpg E E (fun hb=>?_) (fun hb=>?_)
    ·exact gO 5 E<|⟨⟨E,E,E,E,E,E,Kct E (Kft hb),tV⟩,[],E,.inl E⟩
    exact gO 5 E<|⟨⟨E,E,E,E,E,E,Kct E (Kfu hb),tV⟩,[],E,.inl E⟩
   refine bK h38 fun q39 hq39 h40=>gO 2 E<|Kid [(0,.ptr 0 0),(2,.ptr 1 0),(3,.ptr 4 0),(4,.ptr 5 0),(24,I y21.1),(25,I (i23:Int))] [.box 25 (fQ y37.2),Qo,Qdb q8.2,Qeb s24.2,.box 115 [.sl 2 q8.2.length,.sl 3 s24.2.length,I y1.1,.d (Sl eS [])],.box 150 (gp q39)] ?_ ?_
   ·refine jC E hq39 (fun h41=>?_) fun h42=>gA 1 E<|oSi h42▸⟨⟨E,E,E,E,E,E,tV⟩,[],E,.inl E⟩
    exact gA 1 E<|Kbn hΓ (gs:=[I 0,I 65535]) E E E E E E E<|gO 1 E<|Kqs hΓ E E E E E E E E Z<|Kfg [.box 25 (fQ y37.2),Qo,Qdb q8.2,Qeb s24.2,.box 115 [.sl 2 q8.2.length,.sl 3 s24.2.length,I y1.1,.d (Sl eS [])],.box 150 [I y35.1.Kind,S y35.1.Name,B y35.1.Net.Addr.Six,U y35.1.Net.Addr.Hi,U y35.1.Net.Addr.Lo,I y35.1.Net.Bits,I 0,I 65535]] E<|gO 1 E<|oSi h41▸⟨⟨E,E,E,E,E,E,tV⟩,[],E,.inl E⟩
   exact gA 5 E<|Ker hΓ (enc:=Lfm) [q39] E E E E E E E E E E E E Z<|bK h40 fun y43 hy43 h44=>Kjb 3 [.box 25 (fQ y37.2),Qo,Qdb q8.2,Qeb s24.2,.box 115 [.sl 2 q8.2.length,.junk,I y1.1,.d (Sl eS [])],.box 150 (gp q39)] E Z<|Kfh hΓ (enc:=Lfm) hy43 E E E E E E E E E (fun _=>E) E E E E<|gO 1 E<|Kqs hΓ E E E E E E E E Z<|Kfg [.box 25 (fQ y37.2),Qo,Qdb q8.2,Qeb y43,.box 115 [.sl 2 q8.2.length,.sl 3 y43.length,I y1.1,.d (Sl eS [])],.box 150 (gp q39)] E<|gO 7 E<|oSi h44▸⟨⟨E,E,E,E,Kcs E (Kcr (by omega)),tV⟩,[_],E,.inr ⟨HB.mk E,FB.mk E,Z⟩⟩
  exact gA 6 E<|Kdp E (dF hge)<|gA 4 E<|⟨⟨E,E,E,tV⟩,[],E,.inl E⟩
 refine bK h27 fun y45 hy45 h46=>gA 5 E<|Kew [0] (B y45.1) [.box 25 (fQ y45.2),Qo,Qdb q8.2,Qeb q26.2,.box 115 [.sl 2 q8.2.length,.sl 3 q26.2.length,I y1.1,.d (Sl eS [])]] C (Lfz hy45) E Z E E E E E E E E E E<|bK h46 fun q47 hq47 h48=>gO 2 E<|Kid [(2,.ptr 1 0),(3,.ptr 4 0)] [.box 25 (fQ q47.1),Qo,Qdb q8.2,Qeb q26.2,.box 115 [.sl 2 q8.2.length,.sl 3 q26.2.length,I y1.1,.d (Sl eS q47.2)]] ?_ ?_
 ·refine jC E hq47 (fun h49=>?_) fun h54=>gA 1 E<|oSi h54▸⟨⟨E,E,tV⟩,[],E,.inl E⟩
  exact gA 1 E<|Ker hΓ (enc:=eS) [[102,114,101,115,104]] E E E E E E E E E E E E Z<|Ker hΓ (enc:=eS) [[115,101,97,108,101,100]] E E E E E E E E E E E E Z<|Ker hΓ (enc:=eS) [[102,114,101,115,104],[115,101,97,108,101,100]] E E E E E E E E E E E E Z<|Ker hΓ (enc:=(eL eS)) [[[102,114,101,115,104]],[[115,101,97,108,101,100]],[[102,114,101,115,104],[115,101,97,108,101,100]]] E E E E E E E E E E E E Z<|bK h49 fun y50 hy50 h51=>gO 1 E<|Kew [0] (I y50.1) [.box 25 (fQ y50.2),Qo,Qdb q8.2,Qeb q26.2,.box 115 [.sl 2 q8.2.length,.sl 3 q26.2.length,I y1.1,.d (Sl eS [])]] C (Lfy hy50) E Z E E E E E E E E E E<|bK h51 fun x52 hx52 h53=>eo_o E (Keg hΓ (enc:=(eL eS)) hx52 E E E E E (fun _=>E))<|gO 2 E<|Kqs hΓ E E E E E E E E Z<|Kfg [.box 25 (fQ y50.2),Qo,Qdb q8.2,Qeb q26.2,.box 115 [.sl 2 q8.2.length,.sl 3 q26.2.length,I y1.1,.d (Sl eS x52)]] E<|gO 1 E<|oSi h53▸⟨⟨E,E,tV⟩,[],E,.inl E⟩
 exact gA 4 E<|Kfd 2 [65] _ [.box 25 (fQ q47.1),Qo,.dead,Qeb q26.2,.box 115 [.d (Sl Lfk q8.2),.sl 3 q26.2.length,I y1.1,.d (Sl eS q47.2)]] E E E Z<|Kfd 3 [65] _ [.box 25 (fQ q47.1),Qo,.dead,.dead,.box 115 [.d (Sl Lfk q8.2),.d (Sl Lfm q26.2),I y1.1,.d (Sl eS q47.2)]] E E E Z<|Kqs hΓ E E E E E E E E Z<|Kfg [.box 25 (fQ q47.1),.box 115 [.d (Sl Lfk q8.2),.d (Sl Lfm q26.2),I y1.1,.d (Sl eS q47.2)],.dead,.dead,.box 115 [.d (Sl Lfk q8.2),.d (Sl Lfm q26.2),I y1.1,.d (Sl eS q47.2)]] E<|gO 3 E<|oSi h48▸Kfn hΓ [_,_,_,_] (.inr E) E E E E (.inr ⟨HB.mk E,E⟩)
theorem Lgp{s:Kxc}{r:Kxl×Kxc}(h:Kyo s=some r):EC Tryz.prog 46 [.ptr 0 0] [Q8 s] fun g hp'=>g=.agg (gu r.1)∧hp'=[.box 25 (fQ r.2)]:=by
 unfold Kyo at h
 refine QN Tryz.func46 E Z<|gA 2 E<|Kqn hΓ E E E Z<|gO 5 E<|Ker hΓ (enc:=(eN .i64)) [6,6,6,17,1,47] E E E E E E E E E E E E Z<|bK h fun y1 hy1 h2=>Kew [0] (I y1.1) [.box 25 (fQ y1.2),Qp] C (Lgd hy1) E Z E E E E E E E E E E<|bK h2 fun y3 hy3 h4=>gO 1 E<|Kew [0] (I y3.1) [.box 25 (fQ y3.2),Qp] C (Lgg hy3) E Z E E E E E E E E E E<|bK h4 fun y5 hy5 h6=>Kex C (Lgb hy5) E Z E E E E E<|bK h6 fun y7 hy7 h8=>gO 1 E<|Kew [0] (I y7.1) [.box 25 (fQ y7.2),Qp] C (Lgg hy7) E Z E E E E E E E E E E<|bK h8 fun y9 hy9 h10=>Kex C (Lgb hy9) E Z E E E E E<|Kbn hΓ (gs:=[I y1.1,B y5.Six,U y5.Hi,U y5.Lo,B y9.Six,U y9.Hi,U y9.Lo,I 0,I 0]) E E E E E E E<|Kqn hΓ E E E Z<|Kqs hΓ E E E E E E E E Z<|Kfg [.box 25 (fQ y7.2),Qp,.box 48 [I y1.1,B y5.Six,U y5.Hi,U y5.Lo,B y9.Six,U y9.Hi,U y9.Lo,I 0,I 0]] E<|bK h10 fun y11 hy11 h12=>gO 6 E<|Kew [0] (B y11.1) [.box 25 (fQ y11.2),Qp,.box 48 [I y1.1,B y5.Six,U y5.Hi,U y5.Lo,B y9.Six,U y9.Hi,U y9.Lo,I 0,I 0]] C (Lfz hy11) E Z E E E E E E E E E E<|bK h12 fun q13 hq13 h14=>gO 2 E<|Kid [(0,.ptr 0 0),(2,.ptr 1 0),(3,.ptr 2 0)] [.box 25 (fQ q13.1),Qp,.box 48 (gu q13.2)] ?_ ?_
 ·refine jC E hq13 (fun h15=>?_) fun h18=>gA 1 E<|oSi h18▸⟨⟨E,E,E,tV⟩,[],E,.inl E⟩
  exact gA 2 E<|Ker hΓ (enc:=(eN .i64)) [0,5,65536] E E E E E E E E E E E E Z<|bK h15 fun y16 hy16 h17=>Kew [0] (I y16.1) [.box 25 (fQ y16.2),Qp,.box 48 [I y1.1,B y5.Six,U y5.Hi,U y5.Lo,B y9.Six,U y9.Hi,U y9.Lo,I 0,I 0]] C (Lgd hy16) E Z E E E E E E E E E E<|gO 2 E<|Kbn hΓ (gs:=[B false,U 0,U (IntKind.u64.wrap (167772160+(IntKind.u64.wrap (y16.1))))]) E E E E E E E<|gO 1 E<|Kqs hΓ E E E E E E E E Z<|Kfg [.box 25 (fQ y16.2),Qp,.box 48 [I y1.1,B y5.Six,U y5.Hi,U y5.Lo,B false,U 0,U (IntKind.u64.wrap (167772160+(IntKind.u64.wrap (y16.1)))),I 0,I 0]] E<|gO 1 E<|oSi h17▸⟨⟨E,E,E,tV⟩,[],E,.inl E⟩
 refine bK h14 fun y19 hy19 h20=>gA 5 E<|Kew [0] (B y19.1) [.box 25 (fQ y19.2),Qp,.box 48 (gu q13.2)] C (Lfz hy19) E Z E E E E E E E E E E<|bK h20 fun q21 hq21 h22=>gO 2 E<|Kid [(0,.ptr 0 0),(2,.ptr 1 0),(3,.ptr 2 0)] [.box 25 (fQ q21.1),Qp,.box 48 (gu q21.2)] ?_ ?_
 ·refine jC E hq21 (fun h23=>?_) fun h32=>gA 1 E<|oSi h32▸⟨⟨E,E,E,tV⟩,[],E,.inl E⟩
  exact bK h23 fun y24 hy24 h25=>gA 2 E<|Kew [0] (I y24.1) [.box 25 (fQ y24.2),Qp,.box 48 (gu q13.2)] C (Lgg hy24) E Z E E E E E E E E E E<|bK h25 fun y26 hy26 h27=>Kex C (Lgc hy26) E Z E E E E E<|bK h27 fun y28 hy28 h29=>gO 1 E<|Kew [0] (I y28.1) [.box 25 (fQ y28.2),Qp,.box 48 (gu q13.2)] C (Lgg hy28) E Z E E E E E E E E E E<|bK h29 fun y30 hy30 h31=>Kex C (Lgc hy30) E Z E E E E E<|gO 1 E<|Kqs hΓ E E E E E E E E Z<|Kfg [.box 25 (fQ y28.2),Qp,.box 48 [I q13.2.Proto,B y26.Six,U y26.Hi,U y26.Lo,B q13.2.To.Six,U q13.2.To.Hi,U q13.2.To.Lo,I q13.2.FromPort,I q13.2.ToPort]] E<|gO 1 E<|Kqs hΓ E E E E E E E E Z<|Kfg [.box 25 (fQ y28.2),Qp,.box 48 [I q13.2.Proto,B y26.Six,U y26.Hi,U y26.Lo,B y30.Six,U y30.Hi,U y30.Lo,I q13.2.FromPort,I q13.2.ToPort]] E<|gO 1 E<|oSi h31▸⟨⟨E,E,E,tV⟩,[],E,.inl E⟩
 refine gA 8 E<|Kdt 4 [(0,.ptr 0 0),(2,.ptr 1 0),(3,.ptr 2 0),(40,B (((q21.2.Proto:Int)==6)||((q21.2.Proto:Int)==17)))] [.box 25 (fQ q21.1),Qp,.box 48 (gu q21.2)] ?_ ?_
 ·refine Kpg E E (fun hb=>?_) (fun hb=>?_)
  ·exact gO 5 E<|⟨⟨E,E,E,Kct E (or_t hb),tV⟩,[],E,.inl E⟩
  exact gO 5 E<|⟨⟨E,E,E,Kct E (or_f hb),tV⟩,[],E,.inl E⟩
 refine bK h22 fun q33 hq33 h34=>gO 2 E<|Kid [(2,.ptr 1 0),(3,.ptr 2 0)] [.box 25 (fQ q33.1),Qp,.box 48 (gu q33.2)] ?_ ?_
 ·refine jC E hq33 (fun h35=>?_) fun h40=>gA 1 E<|oSi h40▸⟨⟨E,E,tV⟩,[],E,.inl E⟩
  exact gA 2 E<|Ker hΓ (enc:=(eN .i64)) [0,5000] E E E E E E E E E E E E Z<|bK h35 fun y36 hy36 h37=>Kew [0] (I y36.1) [.box 25 (fQ y36.2),Qp,.box 48 (gu q21.2)] C (Lgd hy36) E Z E E E E E E E E E E<|gO 1 E<|Ker hΓ (enc:=(eN .i64)) [0,22,79,80,85,90,91,100,443,65535] E E E E E E E E E E E E Z<|bK h37 fun y38 hy38 h39=>Kew [0] (I y38.1) [.box 25 (fQ y38.2),Qp,.box 48 (gu q21.2)] C (Lgd hy38) E Z E E E E E E E E E E<|gO 1 E<|Kqs hΓ E E E E E E E E Z<|Kfg [.box 25 (fQ y38.2),Qp,.box 48 [I q21.2.Proto,B q21.2.From.Six,U q21.2.From.Hi,U q21.2.From.Lo,B q21.2.To.Six,U q21.2.To.Hi,U q21.2.To.Lo,I y36.1,I q21.2.ToPort]] E<|gO 1 E<|Kqs hΓ E E E E E E E E Z<|Kfg [.box 25 (fQ y38.2),Qp,.box 48 [I q21.2.Proto,B q21.2.From.Six,U q21.2.From.Hi,U q21.2.From.Lo,B q21.2.To.Six,U q21.2.To.Hi,U q21.2.To.Lo,I y36.1,I y38.1]] E<|gO 1 E<|oSi h39▸⟨⟨E,E,tV⟩,[],E,.inl E⟩
 exact gA 4 E<|Kqs hΓ E E E E E E E E Z<|Kfg [.box 25 (fQ q33.1),.box 48 (gu q33.2),.box 48 (gu q33.2)] E<|gO 3 E<|oSi h34▸Kfn hΓ [_,_] (.inr E) E E E E (.inr ⟨HB.mk E,E⟩)
theorem Lgq{k:Nat}{s:Kxc}{most:Int}{r:Kxn×Kxc}(h:Kyp k s most=some r):EC Tryz.prog 14 [.ptr 0 0,I most] [Q8 s] fun g hp'=>g=.agg (gy r.1)∧hp'=[.box 25 (fQ r.2)]:=by
 unfold Kyp at h
 refine QN Tryz.func14 E Z<|gA 2 E<|Kqn hΓ E E E Z<|bK h fun y1 hy1 h2=>gO 5 E<|Kew [0] (.sl 2 y1.1.length) [.box 25 (fQ y1.2),Qn,Qcb y1.1] C (Lgf hy1) E Z E E E E E E E E E E<|Kfd 2 [7] _ [.box 25 (fQ y1.2),Qn,.dead] E E E Z<|Kbn hΓ (gs:=[S [100,101,118],.d (Sl eS y1.1)]) E E E E E E E<|bK h2 fun y3 hy3 h4=>gO 1 E<|Kew [0] (.sl 3 y3.1.length) [.box 25 (fQ y3.2),Qn,.dead,Qcb y3.1] C (Lgf hy3) E Z E E E E E E E E E E<|Kfd 3 [10] _ [.box 25 (fQ y3.2),Qn,.dead,.dead] E E E Z<|Kbn hΓ (gs:=[S [101,110,103],.d (Sl eS y3.1)]) E E E E E E E<|bK h4 fun y5 hy5 h6=>gO 1 E<|Kew [0] (.sl 4 y5.1.length) [.box 25 (fQ y5.2),Qn,.dead,.dead,Qcb y5.1] C (Lgf hy5) E Z E E E E E E E E E E<|Kfd 4 [13] _ [.box 25 (fQ y5.2),Qn,.dead,.dead,.dead] E E E Z<|Kbn hΓ (gs:=[S [111,112,115],.d (Sl eS y5.1)]) E E E E E E E<|Ker hΓ (enc:=Lfg) [(⟨[100,101,118],y1.1⟩:Kxd),(⟨[101,110,103],y3.1⟩:Kxd),(⟨[111,112,115],y5.1⟩:Kxd)] E E E E E E E E E E E E Z<|eo_s Z (nblt.1 E) (Kiy 118 10 3 (Kiy 115 4 2 (OpP.s (Kiw hΓ [2,3] (gs:=[.d (Sl Lfg [(⟨[100,101,118],y1.1⟩:Kxd),(⟨[101,110,103],y3.1⟩:Kxd),(⟨[111,112,115],y5.1⟩:Kxd)]),.d (Sl Lfj []),.d (.v (.slice none 0 0)),.d (.v (.slice none 0 0))]) E E E E E E)) E) E)<|Kqn hΓ E E E Z<|Kqs hΓ E E E E E E E E Z<|Kfg [.box 25 (fQ y5.2),Qn,.dead,.dead,.dead,QS,QJ,.box 32 [.d (Sl Lfg [(⟨[100,101,118],y1.1⟩:Kxd),(⟨[101,110,103],y3.1⟩:Kxd),(⟨[111,112,115],y5.1⟩:Kxd)]),.d (Sl Lfj []),.sl 5 ([]:List Kxk).length,.sl 6 ([]:List Kxm).length]] E<|gO 4 E<|Kbn hΓ (gs:=[B false,U 0,U 167772160]) E E E E E E E<|gO 1 E<|Ker hΓ (enc:=(eN .i64)) [8,16,31] E E E E E E E E E E E E Z<|bK h6 fun y7 hy7 h8=>Kew [0] (I y7.1) [.box 25 (fQ y7.2),Qn,.dead,.dead,.dead,QS,QJ,.box 32 [.d (Sl Lfg [(⟨[100,101,118],y1.1⟩:Kxd),(⟨[101,110,103],y3.1⟩:Kxd),(⟨[111,112,115],y5.1⟩:Kxd)]),.d (Sl Lfj []),.sl 5 ([]:List Kxk).length,.sl 6 ([]:List Kxm).length]] C (Lgd hy7) E Z E E E E E E E E E E<|Kbn hΓ (gs:=[B false,U 0,U 167772160,I y7.1]) E E E E E E E<|Kbn hΓ (gs:=[S [108,97,98],B false,U 0,U 167772160,I y7.1]) E E E E E E E<|Kbn hΓ (gs:=[B true,U 18230571291595767808,U 0]) E E E E E E E<|gO 1 E<|Ker hΓ (enc:=(eN .i64)) [8,64,127] E E E E E E E E E E E E Z<|bK h8 fun y9 hy9 h10=>Kew [0] (I y9.1) [.box 25 (fQ y9.2),Qn,.dead,.dead,.dead,QS,QJ,.box 32 [.d (Sl Lfg [(⟨[100,101,118],y1.1⟩:Kxd),(⟨[101,110,103],y3.1⟩:Kxd),(⟨[111,112,115],y5.1⟩:Kxd)]),.d (Sl Lfj []),.sl 5 ([]:List Kxk).length,.sl 6 ([]:List Kxm).length]] C (Lgd hy9) E Z E E E E E E E E E E<|Kbn hΓ (gs:=[B true,U 18230571291595767808,U 0,I y9.1]) E E E E E E E<|Kbn hΓ (gs:=[S [110,101,116,54],B true,U 18230571291595767808,U 0,I y9.1]) E E E E E E E<|Ker hΓ (enc:=Lfj) [(⟨[108,97,98],(⟨(⟨false,0,167772160⟩:Kxe),y7.1⟩:Kxf)⟩:Kxg),(⟨[110,101,116,54],(⟨(⟨true,18230571291595767808,0⟩:Kxe),y9.1⟩:Kxf)⟩:Kxg)] E E E E E E E E E E E E Z<|gO 1 E<|Kqs hΓ E E E E E E E E Z<|Kfg [.box 25 (fQ y9.2),Qn,.dead,.dead,.dead,QS,QJ,.box 32 [.d (Sl Lfg [(⟨[100,101,118],y1.1⟩:Kxd),(⟨[101,110,103],y3.1⟩:Kxd),(⟨[111,112,115],y5.1⟩:Kxd)]),.d (Sl Lfj [(⟨[108,97,98],(⟨(⟨false,0,167772160⟩:Kxe),y7.1⟩:Kxf)⟩:Kxg),(⟨[110,101,116,54],(⟨(⟨true,18230571291595767808,0⟩:Kxe),y9.1⟩:Kxf)⟩:Kxg)]),.sl 5 ([]:List Kxk).length,.sl 6 ([]:List Kxm).length]] E<|bK h10 fun y11 hy11 h12=>gO 7 E<|Kew [0] (I y11.1) [.box 25 (fQ y11.2),Qn,.dead,.dead,.dead,QS,QJ,.box 32 [.d (Sl Lfg [(⟨[100,101,118],y1.1⟩:Kxd),(⟨[101,110,103],y3.1⟩:Kxd),(⟨[111,112,115],y5.1⟩:Kxd)]),.d (Sl Lfj [(⟨[108,97,98],(⟨(⟨false,0,167772160⟩:Kxe),y7.1⟩:Kxf)⟩:Kxg),(⟨[110,101,116,54],(⟨(⟨true,18230571291595767808,0⟩:Kxe),y9.1⟩:Kxf)⟩:Kxg)]),.sl 5 ([]:List Kxk).length,.sl 6 ([]:List Kxm).length]] C (Lgg hy11) E Z E E E E E E E E E E<|gO 3 E<|bK h12 fun q16 hq16 h17=>gK hq16 fun hb19 h20=>?_
 replace hb19:=of_decide_eq_true hb19
 refine Kid [(0,.ptr 0 0),(4,.ptr 1 0),(5,.ptr 7 0)] [.box 25 (fQ q16.1),Qn,.dead,.dead,.dead,Qfb q16.2,QJ,.box 32 [.d (Sl Lfg [(⟨[100,101,118],y1.1⟩:Kxd),(⟨[101,110,103],y3.1⟩:Kxd),(⟨[111,112,115],y5.1⟩:Kxd)]),.d (Sl Lfj [(⟨[108,97,98],(⟨(⟨false,0,167772160⟩:Kxe),y7.1⟩:Kxf)⟩:Kxg),(⟨[110,101,116,54],(⟨(⟨true,18230571291595767808,0⟩:Kxe),y9.1⟩:Kxf)⟩:Kxg)]),.sl 5 q16.2.length,.sl 6 ([]:List Kxm).length]] ?_ ?_
 ·refine gA 1 E<|Kfr h20 (fun i13 s14=>[(0,.ptr 0 0),(4,.ptr 1 0),(5,.ptr 7 0),(33,I y11.1),(34,I (i13:Int))]) (fun s14=>[.box 25 (fQ s14.1),Qn,.dead,.dead,.dead,Qfb s14.2,QJ,.box 32 [.d (Sl Lfg [(⟨[100,101,118],y1.1⟩:Kxd),(⟨[101,110,103],y3.1⟩:Kxd),(⟨[111,112,115],y5.1⟩:Kxd)]),.d (Sl Lfj [(⟨[108,97,98],(⟨(⟨false,0,167772160⟩:Kxe),y7.1⟩:Kxf)⟩:Kxg),(⟨[110,101,116,54],(⟨(⟨true,18230571291595767808,0⟩:Kxe),y9.1⟩:Kxf)⟩:Kxg)]),.sl 5 s14.2.length,.sl 6 ([]:List Kxm).length]]) ⟨⟨E,E,E,E,E,tV⟩,[],E,.inl E⟩ (fun i13 s14 y24 hlt hy22=>?_) (fun hge=>?_)
  ·exact gA 6 E<|Kdo E (dT hlt)<|gA 4 E<|Khd [.dead,.dead,.dead,.dead,.dead,.dead,.dead,.box 32 [.d (Sl Lfg [(⟨[100,101,118],y1.1⟩:Kxd),(⟨[101,110,103],y3.1⟩:Kxd),(⟨[111,112,115],y5.1⟩:Kxd)]),.d (Sl Lfj [(⟨[108,97,98],(⟨(⟨false,0,167772160⟩:Kxe),y7.1⟩:Kxf)⟩:Kxg),(⟨[110,101,116,54],(⟨(⟨true,18230571291595767808,0⟩:Kxe),y9.1⟩:Kxf)⟩:Kxg)]),.sl 5 s14.2.length,.sl 6 ([]:List Kxm).length]] [1] [3,5,7] [5,7] hmix (by kernel_rfl) (by kernel_rfl) ⟨E,tV⟩ Z<|bK hy22 fun y25 hy25 h26=>go_E hΓ 3 E<|ge_h [.box 25 (fQ y25.2),Qn,.dead,.dead,.dead,Qfb s14.2,QJ,.box 32 [.d (Sl Lfg [(⟨[100,101,118],y1.1⟩:Kxd),(⟨[101,110,103],y3.1⟩:Kxd),(⟨[111,112,115],y5.1⟩:Kxd)]),.d (Sl Lfj [(⟨[108,97,98],(⟨(⟨false,0,167772160⟩:Kxe),y7.1⟩:Kxf)⟩:Kxg),(⟨[110,101,116,54],(⟨(⟨true,18230571291595767808,0⟩:Kxe),y9.1⟩:Kxf)⟩:Kxg)]),.sl 5 s14.2.length,.sl 6 ([]:List Kxm).length]] E E E (Khl ⟨E,tV⟩) (Khq [0] (.agg (gt y25.1)) [.box 25 (fQ y25.2),Qn,.dead,.dead,.dead,Qfb s14.2,QJ,.box 32 [.d (Sl Lfg [(⟨[100,101,118],y1.1⟩:Kxd),(⟨[101,110,103],y3.1⟩:Kxd),(⟨[111,112,115],y5.1⟩:Kxd)]),.d (Sl Lfj [(⟨[108,97,98],(⟨(⟨false,0,167772160⟩:Kxe),y7.1⟩:Kxf)⟩:Kxg),(⟨[110,101,116,54],(⟨(⟨true,18230571291595767808,0⟩:Kxe),y9.1⟩:Kxf)⟩:Kxg)]),.sl 5 s14.2.length,.sl 6 ([]:List Kxm).length]] C (Lgo hy25) E E E E E E E E E E)<|Khs hΓ (enc:=Lfn) [y25.1] E E E E E E E E E E E E<|bK h26 fun y27 hy27 h28=>ge_h [.box 25 (fQ y25.2),Qn,.dead,.dead,.dead,.dead,QJ,.box 32 [.d (Sl Lfg [(⟨[100,101,118],y1.1⟩:Kxd),(⟨[101,110,103],y3.1⟩:Kxd),(⟨[111,112,115],y5.1⟩:Kxd)]),.d (Sl Lfj [(⟨[108,97,98],(⟨(⟨false,0,167772160⟩:Kxe),y7.1⟩:Kxf)⟩:Kxg),(⟨[110,101,116,54],(⟨(⟨true,18230571291595767808,0⟩:Kxe),y9.1⟩:Kxf)⟩:Kxg)]),.junk,.sl 6 ([]:List Kxm).length],Qfb y27] E E E (Khk E) (Kho (Kjc 5 (Kgt hΓ (enc:=Lfn) (id:=5) (h2:=show Γ 115=some ⟨_,4,_,_⟩ from E) hy27 E E E E E E E E (fun _=>E) E)))<|go_E hΓ 1 E<|Khj [.box 25 (fQ y25.2),Qn,.dead,.dead,.dead,.dead,QJ,.box 32 [.d (Sl Lfg [(⟨[100,101,118],y1.1⟩:Kxd),(⟨[101,110,103],y3.1⟩:Kxd),(⟨[111,112,115],y5.1⟩:Kxd)]),.d (Sl Lfj [(⟨[108,97,98],(⟨(⟨false,0,167772160⟩:Kxe),y7.1⟩:Kxf)⟩:Kxg),(⟨[110,101,116,54],(⟨(⟨true,18230571291595767808,0⟩:Kxe),y9.1⟩:Kxf)⟩:Kxg)]),.sl 8 y27.length,.sl 6 ([]:List Kxm).length],Qfb y27] E E (Khk E) (Khp (Kiq hΓ E E E E E E E E E))<|Khe<|gA 2 E<|Kgx 8 5 [.box 25 (fQ y25.2),Qn,.dead,.dead,.dead,Qfb y27,QJ,.box 32 [.d (Sl Lfg [(⟨[100,101,118],y1.1⟩:Kxd),(⟨[101,110,103],y3.1⟩:Kxd),(⟨[111,112,115],y5.1⟩:Kxd)]),.d (Sl Lfj [(⟨[108,97,98],(⟨(⟨false,0,167772160⟩:Kxe),y7.1⟩:Kxf)⟩:Kxg),(⟨[110,101,116,54],(⟨(⟨true,18230571291595767808,0⟩:Kxe),y9.1⟩:Kxf)⟩:Kxg)]),.sl 5 y27.length,.sl 6 ([]:List Kxm).length],.dead] E E E E E E<|gA 4 E<|oSi h28▸⟨⟨E,E,E,E,Kcs E (Kcr (by omega)),tV⟩,[_],E,.inr ⟨HB.mk E,FB.mk E,Z⟩⟩
  exact gA 6 E<|Kdp E (dF hge)<|gA 4 E<|⟨⟨E,E,E,tV⟩,[],E,.inl E⟩
 refine gA 5 E<|Ker hΓ (enc:=(eN .i64)) [0,0,1,2] E E E E E E E E E E E E Z<|bK h17 fun y29 hy29 h30=>Kew [0] (I y29.1) [.box 25 (fQ y29.2),Qn,.dead,.dead,.dead,Qfb q16.2,QJ,.box 32 [.d (Sl Lfg [(⟨[100,101,118],y1.1⟩:Kxd),(⟨[101,110,103],y3.1⟩:Kxd),(⟨[111,112,115],y5.1⟩:Kxd)]),.d (Sl Lfj [(⟨[108,97,98],(⟨(⟨false,0,167772160⟩:Kxe),y7.1⟩:Kxf)⟩:Kxg),(⟨[110,101,116,54],(⟨(⟨true,18230571291595767808,0⟩:Kxe),y9.1⟩:Kxf)⟩:Kxg)]),.sl 5 q16.2.length,.sl 6 ([]:List Kxm).length]] C (Lgd hy29) E Z E E E E E E E E E E<|gO 3 E<|bK h30 fun q34 hq34 h35=>gK hq34 fun hb37 h38=>?_
 replace hb37:=of_decide_eq_true hb37
 refine Kid [(4,.ptr 1 0),(5,.ptr 7 0)] [.box 25 (fQ q34.1),Qn,.dead,.dead,.dead,Qfb q16.2,Qgb q34.2,.box 32 [.d (Sl Lfg [(⟨[100,101,118],y1.1⟩:Kxd),(⟨[101,110,103],y3.1⟩:Kxd),(⟨[111,112,115],y5.1⟩:Kxd)]),.d (Sl Lfj [(⟨[108,97,98],(⟨(⟨false,0,167772160⟩:Kxe),y7.1⟩:Kxf)⟩:Kxg),(⟨[110,101,116,54],(⟨(⟨true,18230571291595767808,0⟩:Kxe),y9.1⟩:Kxf)⟩:Kxg)]),.sl 5 q16.2.length,.sl 6 q34.2.length]] ?_ ?_
 ·refine gA 1 E<|Kfr h38 (fun i31 s32=>[(0,.ptr 0 0),(4,.ptr 1 0),(5,.ptr 7 0),(46,I y29.1),(47,I (i31:Int))]) (fun s32=>[.box 25 (fQ s32.1),Qn,.dead,.dead,.dead,Qfb q16.2,Qgb s32.2,.box 32 [.d (Sl Lfg [(⟨[100,101,118],y1.1⟩:Kxd),(⟨[101,110,103],y3.1⟩:Kxd),(⟨[111,112,115],y5.1⟩:Kxd)]),.d (Sl Lfj [(⟨[108,97,98],(⟨(⟨false,0,167772160⟩:Kxe),y7.1⟩:Kxf)⟩:Kxg),(⟨[110,101,116,54],(⟨(⟨true,18230571291595767808,0⟩:Kxe),y9.1⟩:Kxf)⟩:Kxg)]),.sl 5 q16.2.length,.sl 6 s32.2.length]]) ⟨⟨E,E,E,E,E,tV⟩,[],E,.inl E⟩ (fun i31 s32 y42 hlt hy40=>?_) (fun hge=>?_)
  ·exact gA 6 E<|Kdo E (dT hlt)<|gA 4 E<|Khd [.dead,.dead,.dead,.dead,.dead,.dead,.dead,.box 32 [.d (Sl Lfg [(⟨[100,101,118],y1.1⟩:Kxd),(⟨[101,110,103],y3.1⟩:Kxd),(⟨[111,112,115],y5.1⟩:Kxd)]),.d (Sl Lfj [(⟨[108,97,98],(⟨(⟨false,0,167772160⟩:Kxe),y7.1⟩:Kxf)⟩:Kxg),(⟨[110,101,116,54],(⟨(⟨true,18230571291595767808,0⟩:Kxe),y9.1⟩:Kxf)⟩:Kxg)]),.sl 5 q16.2.length,.sl 6 s32.2.length]] [1] [3,5,8,10] [8,10] hmix (by kernel_rfl) (by kernel_rfl) ⟨E,tV⟩ Z<|bK hy40 fun y43 hy43 h44=>go_E hΓ 3 E<|ge_h [.box 25 (fQ y43.2),Qn,.dead,.dead,.dead,Qfb q16.2,Qgb s32.2,.box 32 [.d (Sl Lfg [(⟨[100,101,118],y1.1⟩:Kxd),(⟨[101,110,103],y3.1⟩:Kxd),(⟨[111,112,115],y5.1⟩:Kxd)]),.d (Sl Lfj [(⟨[108,97,98],(⟨(⟨false,0,167772160⟩:Kxe),y7.1⟩:Kxf)⟩:Kxg),(⟨[110,101,116,54],(⟨(⟨true,18230571291595767808,0⟩:Kxe),y9.1⟩:Kxf)⟩:Kxg)]),.sl 5 q16.2.length,.sl 6 s32.2.length]] E E E (Khl ⟨E,tV⟩) (Khq [0] (.agg (gu y43.1)) [.box 25 (fQ y43.2),Qn,.dead,.dead,.dead,Qfb q16.2,Qgb s32.2,.box 32 [.d (Sl Lfg [(⟨[100,101,118],y1.1⟩:Kxd),(⟨[101,110,103],y3.1⟩:Kxd),(⟨[111,112,115],y5.1⟩:Kxd)]),.d (Sl Lfj [(⟨[108,97,98],(⟨(⟨false,0,167772160⟩:Kxe),y7.1⟩:Kxf)⟩:Kxg),(⟨[110,101,116,54],(⟨(⟨true,18230571291595767808,0⟩:Kxe),y9.1⟩:Kxf)⟩:Kxg)]),.sl 5 q16.2.length,.sl 6 s32.2.length]] C (Lgp hy43) E E E E E E E E E E)<|bK h44 fun y45 hy45 h46=>go_E hΓ 1 E<|ge_h [.box 25 (fQ y45.2),Qn,.dead,.dead,.dead,Qfb q16.2,Qgb s32.2,.box 32 [.d (Sl Lfg [(⟨[100,101,118],y1.1⟩:Kxd),(⟨[101,110,103],y3.1⟩:Kxd),(⟨[111,112,115],y5.1⟩:Kxd)]),.d (Sl Lfj [(⟨[108,97,98],(⟨(⟨false,0,167772160⟩:Kxe),y7.1⟩:Kxf)⟩:Kxg),(⟨[110,101,116,54],(⟨(⟨true,18230571291595767808,0⟩:Kxe),y9.1⟩:Kxf)⟩:Kxg)]),.sl 5 q16.2.length,.sl 6 s32.2.length]] E E E (Khl ⟨E,tV⟩) (Khq [0] (B y45.1) [.box 25 (fQ y45.2),Qn,.dead,.dead,.dead,Qfb q16.2,Qgb s32.2,.box 32 [.d (Sl Lfg [(⟨[100,101,118],y1.1⟩:Kxd),(⟨[101,110,103],y3.1⟩:Kxd),(⟨[111,112,115],y5.1⟩:Kxd)]),.d (Sl Lfj [(⟨[108,97,98],(⟨(⟨false,0,167772160⟩:Kxe),y7.1⟩:Kxf)⟩:Kxg),(⟨[110,101,116,54],(⟨(⟨true,18230571291595767808,0⟩:Kxe),y9.1⟩:Kxf)⟩:Kxg)]),.sl 5 q16.2.length,.sl 6 s32.2.length]] C (Lfz hy45) E E E E E E E E E E)<|ge_q E (.inl E) (fun _ _=>Khf (qt_p (Khu hΓ (gs:=[I y43.1.Proto,B y43.1.From.Six,U y43.1.From.Hi,U y43.1.From.Lo,B y43.1.To.Six,U y43.1.To.Hi,U y43.1.To.Lo,I y43.1.FromPort,I y43.1.ToPort,B y45.1]) E E E E E E)))<|Khs hΓ (enc:=Lfp) [(⟨y43.1,y45.1⟩:Kxm)] E E E E E E E E E E E E<|bK h46 fun y47 hy47 h48=>ge_h [.box 25 (fQ y45.2),Qn,.dead,.dead,.dead,Qfb q16.2,.dead,.box 32 [.d (Sl Lfg [(⟨[100,101,118],y1.1⟩:Kxd),(⟨[101,110,103],y3.1⟩:Kxd),(⟨[111,112,115],y5.1⟩:Kxd)]),.d (Sl Lfj [(⟨[108,97,98],(⟨(⟨false,0,167772160⟩:Kxe),y7.1⟩:Kxf)⟩:Kxg),(⟨[110,101,116,54],(⟨(⟨true,18230571291595767808,0⟩:Kxe),y9.1⟩:Kxf)⟩:Kxg)]),.sl 5 q16.2.length,.junk],Qgb y47] E E E (Khk E) (Kho (Kjc 6 (Kgt hΓ (enc:=Lfp) (id:=6) (h2:=show Γ 118=some ⟨_,10,_,_⟩ from E) hy47 E E E E E E E E (fun _=>E) E)))<|go_E hΓ 1 E<|Khj [.box 25 (fQ y45.2),Qn,.dead,.dead,.dead,Qfb q16.2,.dead,.box 32 [.d (Sl Lfg [(⟨[100,101,118],y1.1⟩:Kxd),(⟨[101,110,103],y3.1⟩:Kxd),(⟨[111,112,115],y5.1⟩:Kxd)]),.d (Sl Lfj [(⟨[108,97,98],(⟨(⟨false,0,167772160⟩:Kxe),y7.1⟩:Kxf)⟩:Kxg),(⟨[110,101,116,54],(⟨(⟨true,18230571291595767808,0⟩:Kxe),y9.1⟩:Kxf)⟩:Kxg)]),.sl 5 q16.2.length,.sl 8 y47.length],Qgb y47] E E (Khk E) (Khp (Kiq hΓ E E E E E E E E E))<|Khe<|gA 2 E<|Kgx 8 6 [.box 25 (fQ y45.2),Qn,.dead,.dead,.dead,Qfb q16.2,Qgb y47,.box 32 [.d (Sl Lfg [(⟨[100,101,118],y1.1⟩:Kxd),(⟨[101,110,103],y3.1⟩:Kxd),(⟨[111,112,115],y5.1⟩:Kxd)]),.d (Sl Lfj [(⟨[108,97,98],(⟨(⟨false,0,167772160⟩:Kxe),y7.1⟩:Kxf)⟩:Kxg),(⟨[110,101,116,54],(⟨(⟨true,18230571291595767808,0⟩:Kxe),y9.1⟩:Kxf)⟩:Kxg)]),.sl 5 q16.2.length,.sl 6 y47.length],.dead] E E E E E E<|gA 4 E<|oSi h48▸⟨⟨E,E,E,E,Kcs E (Kcr (by omega)),tV⟩,[_],E,.inr ⟨HB.mk E,FB.mk E,Z⟩⟩
  exact gA 6 E<|Kdp E (dF hge)<|gA 4 E<|⟨⟨E,E,tV⟩,[],E,.inl E⟩
 exact gA 4 E<|Kfd 5 [60] _ [.box 25 (fQ q34.1),Qn,.dead,.dead,.dead,.dead,Qgb q34.2,.box 32 [.d (Sl Lfg [(⟨[100,101,118],y1.1⟩:Kxd),(⟨[101,110,103],y3.1⟩:Kxd),(⟨[111,112,115],y5.1⟩:Kxd)]),.d (Sl Lfj [(⟨[108,97,98],(⟨(⟨false,0,167772160⟩:Kxe),y7.1⟩:Kxf)⟩:Kxg),(⟨[110,101,116,54],(⟨(⟨true,18230571291595767808,0⟩:Kxe),y9.1⟩:Kxf)⟩:Kxg)]),.d (Sl Lfn q16.2),.sl 6 q34.2.length]] E E E Z<|Kfd 6 [60] _ [.box 25 (fQ q34.1),Qn,.dead,.dead,.dead,.dead,.dead,.box 32 [.d (Sl Lfg [(⟨[100,101,118],y1.1⟩:Kxd),(⟨[101,110,103],y3.1⟩:Kxd),(⟨[111,112,115],y5.1⟩:Kxd)]),.d (Sl Lfj [(⟨[108,97,98],(⟨(⟨false,0,167772160⟩:Kxe),y7.1⟩:Kxf)⟩:Kxg),(⟨[110,101,116,54],(⟨(⟨true,18230571291595767808,0⟩:Kxe),y9.1⟩:Kxf)⟩:Kxg)]),.d (Sl Lfn q16.2),.d (Sl Lfp q34.2)]] E E E Z<|Kqs hΓ E E E E E E E E Z<|Kfg [.box 25 (fQ q34.1),.box 32 [.d (Sl Lfg [(⟨[100,101,118],y1.1⟩:Kxd),(⟨[101,110,103],y3.1⟩:Kxd),(⟨[111,112,115],y5.1⟩:Kxd)]),.d (Sl Lfj [(⟨[108,97,98],(⟨(⟨false,0,167772160⟩:Kxe),y7.1⟩:Kxf)⟩:Kxg),(⟨[110,101,116,54],(⟨(⟨true,18230571291595767808,0⟩:Kxe),y9.1⟩:Kxf)⟩:Kxg)]),.d (Sl Lfn q16.2),.d (Sl Lfp q34.2)],.dead,.dead,.dead,.dead,.dead,.box 32 [.d (Sl Lfg [(⟨[100,101,118],y1.1⟩:Kxd),(⟨[101,110,103],y3.1⟩:Kxd),(⟨[111,112,115],y5.1⟩:Kxd)]),.d (Sl Lfj [(⟨[108,97,98],(⟨(⟨false,0,167772160⟩:Kxe),y7.1⟩:Kxf)⟩:Kxg),(⟨[110,101,116,54],(⟨(⟨true,18230571291595767808,0⟩:Kxe),y9.1⟩:Kxf)⟩:Kxg)]),.d (Sl Lfn q16.2),.d (Sl Lfp q34.2)]] E<|gO 3 E<|oSi h35▸Kfn hΓ [_,_,_,_,_,_,_] (.inr E) E E E E (.inr ⟨HB.mk E,E⟩)
theorem Lgr{s:Kxc}{nodes:List Kxo}{r:(List Kxp)×Kxc}(h:Kyq s nodes=some r):EC Tryz.prog 15 [.ptr 0 0,.d (Sl Lfr nodes)] [Q8 s] fun g hp'=>g=.sl 1 r.1.length∧hp'=[.box 25 (fQ r.2),Qhb r.1]:=by
 unfold Kyq at h
 refine QM Tryz.func15 E Z<|gA 7 E<|Keu (t:=0) 63 2 E Z<|gO 10 E<|bK h fun q4 hq4 h5=>Kef 10 E fun hb7=>Kid [(0,.ptr 0 0),(5,.sl 1 q4.2.length)] [.box 25 (fQ q4.1),Qhb q4.2] ?_ ?_
 ·refine gA 1 E<|Kfp nodes hq4 (fun i1 s2=>[(0,.ptr 0 0),(5,.sl 1 s2.2.length),(10,.d (Sl Lfr nodes)),(11,I (nodes.length:Int)),(12,I (i1:Int))]) (fun s2=>[.box 25 (fQ s2.1),Qhb s2.2]) ⟨⟨E,E,E,E,E,tV⟩,[],E,.inl E⟩ (fun i1 x3 s2 y11 hx8 hlt hy9=>?_) (?_)
  ·refine gA 6 E<|Kdo E (dT (Int.ofNat_lt.2 hlt))<|gA 6 E<|eo_o E (Keg hΓ (enc:=Lfr) (Kdz hx8) E E E E E (fun _=>E))<|gO 1 E<|Kqn hΓ E E E Z<|Kqs hΓ E E E E E E E E Z<|Kfg [.box 25 (fQ s2.1),Qhb s2.2,.box 103 (gB x3)] E<|gO 4 E<|Ker hΓ (enc:=eS) [[102,114,101,115,104],[115,101,97,108,101,100]] E E E E E E E E E E E E Z<|gO 4 E<|bK hy9 fun q15 hq15 h16=>Kef 16 E fun hb18=>Kid [(0,.ptr 0 0),(5,.sl 1 q15.2.length),(10,.d (Sl Lfr nodes)),(11,I (nodes.length:Int)),(12,I (i1:Int))] [.box 25 (fQ q15.1),Qhb q15.2,.box 103 (gB x3)] ?_ ?_
   ·refine gA 1 E<|Kfp [[102,114,101,115,104],[115,101,97,108,101,100]] hq15 (fun i12 s13=>[(0,.ptr 0 0),(5,.sl 1 s13.2.length),(7,.ptr 2 0),(10,.d (Sl Lfr nodes)),(11,I (nodes.length:Int)),(12,I (i1:Int)),(16,.d (Sl eS [[102,114,101,115,104],[115,101,97,108,101,100]])),(17,I ([[102,114,101,115,104],[115,101,97,108,101,100]].length:Int)),(18,I (i12:Int))]) (fun s13=>[.box 25 (fQ s13.1),Qhb s13.2,.box 103 (gB x3)]) ⟨⟨E,E,E,E,E,E,E,E,E,tV⟩,[],E,.inl E⟩ (fun i12 x14 s13 y22 hx19 hlt hy20=>?_) (?_)
    ·refine gA 6 E<|Kdo E (dT (Int.ofNat_lt.2 hlt))<|gA 6 E<|eo_o E (Keg hΓ (enc:=eS) (Kdz hx19) E E E E E (fun _=>E))<|bK hy20 fun y23 hy23 h24=>gO 7 E<|Kew [0] (B y23.1) [.box 25 (fQ y23.2),Qhb s13.2,.box 103 (gB x3)] C (Lfz hy23) E Z E E E E E E E E E E<|gO 2 E<|jC E h24 (fun h25=>?_) fun h28=>gA 7 E ?_
     ·refine gA 5 E<|Kbn hΓ (gs:=[S x3.Key,S x14]) E E E E E E E<|Ker hΓ (enc:=Lfs) [(⟨x3.Key,x14⟩:Kxp)] E E E E E E E E E E E E Z<|bK h25 fun y26 hy26 h27=>Kfh hΓ (enc:=Lfs) hy26 E E E E E E E E E (fun _=>E) E E E E<|gO 8 E ?_
      cases h27
      exact⟨⟨E,E,E,E,E,E,E,E,Kcs E (Kcr (nLl hlt hb18)),tV⟩,[],E,.inl E⟩
     cases h28
     exact⟨⟨E,E,E,E,E,E,E,E,Kcs E (Kcr (nLl hlt hb18)),tV⟩,[],E,.inl E⟩
    exact gA 6 E<|Kdp E (dF (Int.lt_irrefl _))<|gA 4 E<|⟨⟨E,E,E,E,E,tV⟩,[],E,.inl E⟩
   refine gA 6 E ?_
   cases h16
   exact⟨⟨E,E,E,E,Kcs E (Kcr (nLl hlt hb7)),tV⟩,[_],E,.inr ⟨HB.mk E,FB.mk E,Z⟩⟩
  exact gA 6 E<|Kdp E (dF (Int.lt_irrefl _))<|gA 4 E<|⟨⟨E,E,tV⟩,[],E,.inl E⟩
 refine bK h5 fun y29 hy29 h30=>gA 5 E<|Kew [0] (B y29.1) [.box 25 (fQ y29.2),Qhb q4.2] C (Lfz hy29) E Z E E E E E E E E E E<|bK h30 fun q31 hq31 h32=>gO 2 E<|Kid [(5,.sl 1 q31.2.length)] [.box 25 (fQ q31.1),Qhb q31.2] ?_ ?_
 ·refine jC E hq31 (fun h33=>?_) fun h40=>gA 1 E<|oSi h40▸⟨⟨E,tV⟩,[],E,.inl E⟩
  exact gA 3 E<|Ker hΓ (enc:=eS) [[110,97],[110,111,110,101]] E E E E E E E E E E E E Z<|bK h33 fun y34 hy34 h35=>Kew [0] (S y34.1) [.box 25 (fQ y34.2),Qhb q4.2] C (Lga hy34) E Z E E E E E E E E E E<|gO 1 E<|Ker hΓ (enc:=eS) [[102,114,101,115,104],[],[65]] E E E E E E E E E E E E Z<|bK h35 fun y36 hy36 h37=>Kew [0] (S y36.1) [.box 25 (fQ y36.2),Qhb q4.2] C (Lga hy36) E Z E E E E E E E E E E<|Kbn hΓ (gs:=[S y34.1,S y36.1]) E E E E E E E<|Ker hΓ (enc:=Lfs) [(⟨y34.1,y36.1⟩:Kxp)] E E E E E E E E E E E E Z<|bK h37 fun y38 hy38 h39=>Kfh hΓ (enc:=Lfs) hy38 E E E E E E E E E (fun _=>E) E E E E<|gO 2 E<|oSi h39▸⟨⟨E,tV⟩,[],E,.inl E⟩
 exact gA 8 E<|Khz<|oSi h32▸Kfn hΓ [] (.inr E) E E E E (.inl E)
theorem Lgs{s:List Kxp}{r:List Kxp}(h:Kyr s=some r):EC Tryz.prog 16 [.d (Sl Lfs s)] [] fun g hp'=>g=.sl 0 r.length∧hp'=[Qhb r]:=by
 unfold Kyr at h
 refine QM Tryz.func16 E Z<|gA 2 E<|Keu (t:=0) 63 2 E Z<|gO 6 E<|Kde hΓ E E E E E fun b hbn=>?_
 rcases b with _ | _
 ·exact gO 7 E<|Ket hΓ (enc:=Lfs) ([]:List Kxp) E E E E E E E E E E E E Z<|bK h fun y1 hy1 h2=>gO 1 E<|Kfh hΓ (enc:=Lfs) hy1 E E E E E E E E E (fun _=>E) E E E E<|gO 3 E<|Kkk 0 [.dead,Qhb y1] E Z<|Kgx 1 0 [Qhb y1,.dead] E E E E E E<|gA 1 E<|Khz<|oSi h2▸Kfn hΓ [_] (.inr E) E E E E (.inr ⟨HB.mk E,E⟩)
 obtain rfl:=List.eq_nil_of_length_eq_zero (hbn rfl).1
 replace h:(some ([]:List Kxp):Option (List Kxp))=some r:=h
 exact gO 5 E<|Keu (t:=0) 63 2 E Z<|gO 4 E<|Kki 0 [.dead,Qhb ([]:List Kxp)] E Z<|Kib 1 0 [Qhb ([]:List Kxp),.dead] E E E E E E<|Khz<|oSi h▸Kfn hΓ [_] (.inr E) E E E E (.inr ⟨HB.mk E,E⟩)
theorem Lgt{n:Int}{low:Int}{high:Int}{r:Bool}(h:Kys n low high=some r):Pure Tryz.prog 76 [I n,I low,I high] (B r):=by
 unfold Kys at h
 refine QP Tryz.func76 E E E<|gA 11 E<|Kdt 4 [(6,B false),(14,B ((decide ((low:Int)≤n))&&(decide ((n:Int)≤high))))] [] ?_ ?_
 ·refine Kpg E E (fun hb=>?_) (fun hb=>?_)
  ·exact gO 5 E<|⟨⟨E,Kct E (Kft hb),tV⟩,[],E,.inl E⟩
  exact gO 5 E<|⟨⟨E,Kct E (Kfu hb),tV⟩,[],E,.inl E⟩
 exact gO 4 E<|oSi h▸gP E E
theorem Lgu{s:Str}{v_some:Str}{r:Bool}(h:Kyt s v_some=some r):Pure Tryz.prog 77 [S s,S v_some] (B r):=by
 unfold Kyt at h
 exact QP Tryz.func77 E E E<|bK h fun y1 hy1 h2=>gA 9 E<|Kex C (Kst hy1) E Z E E E E E<|gO 5 E<|oSi h2▸gP E E
theorem Lgv{s:Str}{r:Bool}(h:Kyu s=some r):Pure Tryz.prog 49 [S s] (B r):=by
 unfold Kyu at h
 refine QP Tryz.func49 E E E<|bK h fun y1 hy1 h2=>gA 9 E<|Kex C (Lgt hy1) E Z E E E E E<|gO 1 E<|bK h2 fun q3 hq3 h4=>Kdt 4 [(0,S s),(2,B false),(10,B q3)] [] ?_ ?_
 ·refine Kpg E E (fun hb=>?_) (fun hb=>?_)
  ·have h5:=cT hq3 hb
   exact bK h5 fun z6 hz6 h7=>gO 1 E<|Kpe E<|eo_o E (Kej hΓ hz6 E E E E E)<|bK h7 fun y8 hy8 h9=>Kpe E<|Kex C (Lgu hy8) E Z E E E E E<|gO 2 E<|oSi h9▸⟨⟨E,E,E,tV⟩,[],E,.inl E⟩
  have h10:=cF hq3 hb
  exact gO 5 E<|oSi h10▸⟨⟨E,E,E,tV⟩,[],E,.inl E⟩
 refine gO 1 E<|bK h4 fun q11 hq11 h12=>Kdt 3 [(2,B false),(14,B q11)] [] ?_ ?_
 ·refine Kpg E E (fun hb=>?_) (fun hb=>?_)
  ·have h13:=cT hq11 hb
   exact bK h13 fun y14 hy14 h15=>gO 1 E<|Kpe E<|Kex C (Lgu hy14) E Z E E E E E<|gO 2 E<|oSi h15▸⟨⟨E,E,tV⟩,[],E,.inl E⟩
  have h16:=cF hq11 hb
  exact gO 4 E<|oSi h16▸⟨⟨E,E,tV⟩,[],E,.inl E⟩
 exact gO 4 E<|oSi h12▸gP E E
theorem Lgw{a:Kxe}{r:Int}(h:Kyv a=some r):Pure Tryz.prog 126 [.agg (gh a)] (I r):=by
 unfold Kyv at h
 refine QP Tryz.func126 E E E<|gA 2 E<|Kqo E E E E Z<|gO 10 E<|Kdt 9 [(15,B ((!a.Six)&&((decide ((a.Hi:Int)>0))||(decide ((a.Lo:Int)>4294967295)))))] [.box 46 (gh a)] ?_ ?_
 ·refine Kpg E E (fun hb=>?_) (fun hb=>?_)
  ·refine gO 4 E<|Kdt 4 [(6,B true),(14,B ((decide ((a.Hi:Int)>0))||(decide ((a.Lo:Int)>4294967295))))] [.box 46 (gh a)] ?_ ?_
   ·refine Kpg E E (fun hb=>?_) (fun hb=>?_)
    ·exact gO 5 E<|⟨⟨E,Kct E (or_t hb),tV⟩,[],E,.inl E⟩
    exact gO 5 E<|⟨⟨E,Kct E (or_f hb),tV⟩,[],E,.inl E⟩
   exact gO 2 E<|⟨⟨Kct E (Kft hb),tV⟩,[],E,.inl E⟩
  exact gO 10 E<|⟨⟨Kct E (Kfu hb),tV⟩,[],E,.inl E⟩
 refine gO 2 E<|jC E h (fun h1=>?_) fun h2=>gA 8 E<|oSi h2▸gP E E
 exact gA 7 E<|oSi h1▸gP E E
theorem Lgx{k:Nat}{p:Kxf}{r:Int}(h:Kyw k p=some r):Pure Tryz.prog 127 [.agg (gk p)] (I r):=by
 unfold Kyw at h
 refine QP Tryz.func127 E E E<|gA 2 E<|Kqo E E E E Z<|bK h fun y1 hy1 h2=>gO 8 E<|Kex C (Lgw hy1) E Z E E E E E<|gO 9 E<|jC E h2 (fun h3=>?_) fun h4=>gA 4 E<|jD<|bK h4 fun y5 hy5 h6=>gA 4 E<|Kez C (Lgi hy5) E E E E E E<|bK h6 fun y7 hy7 h8=>Kez C (Lgt hy7) E E E E E E<|Kdl hΓ 3 E<|jC E h8 (fun h9=>?_) fun h10=>?_
 ·exact gA 8 E<|oSi h3▸gP E E
 ·exact gA 7 E<|oSi h9▸gP E E
 refine gA 4 E<|jD<|bK h10 fun y11 hy11 h12=>gA 4 E<|Kez C (Lgj hy11) E E E E E E<|bK h12 fun y13 hy13 h14=>Kdl hΓ 2 E<|Kez C (Lgh hy13) E E E E E E<|gl_o E (Klh hΓ (l1:=([y11.1,y11.2.1,y11.2.2.1,y11.2.2.2.1,y11.2.2.2.2.1,y11.2.2.2.2.2.1,y11.2.2.2.2.2.2.1,y11.2.2.2.2.2.2.2.1,y11.2.2.2.2.2.2.2.2]:List Int)) (l2:=([y13.1,y13.2.1,y13.2.2.1,y13.2.2.2.1,y13.2.2.2.2.1,y13.2.2.2.2.2.1,y13.2.2.2.2.2.2.1,y13.2.2.2.2.2.2.2.1,y13.2.2.2.2.2.2.2.2]:List Int)) E E E E E (by kernel_rfl) E E E E E E)<|Kdl hΓ 2 E<|jC E h14 (fun h15=>?_) fun h16=>gA 8 E<|oSi h16▸gP E E
 exact gA 7 E<|oSi h15▸gP E E
theorem Lgy{s:List Kxf}{v:Kxf}{r:Int}(h:Kyx s v=some r):Pure Tryz.prog 183 [.d (Sl Lfi s),.agg (gk v)] (I r):=by
 unfold Kyx at h
 refine QP Tryz.func183 E E E<|gA 2 E<|Kqo E E E E Z<|gO 11 E<|bK h fun q4 hq4 h5=>Kef 0 E fun hb7=>Kic (R:=fun a6=>q4=.go a6) (fun a6=>[]) (fun a6=>[.box 106 (gk v)]) ?_ ?_
 ·refine gA 1 E<|Kee s hq4 (fun i1 s2=>[(0,.d (Sl Lfi s)),(3,.ptr 0 0),(7,I (s.length:Int)),(8,I (i1:Int))]) (fun s2=>[.box 106 (gk v)]) ⟨⟨E,E,E,E,tV⟩,[],E,.inl E⟩ (fun i1 x3 s2 y11 hx8 hlt hy9 hout10=>?_) (fun s2 hgo=>?_)
  ·refine gA 6 E<|Kdo E (dT (Int.ofNat_lt.2 hlt))<|gA 11 E<|jD<|gA 3 E<|gl_o E (Keg hΓ (enc:=Lfi) (Kdz hx8) E E E E E (fun _=>E))<|Kdl hΓ 1 E<|gl_o E (Kfz hΓ [106,46] (b:=((((v.Addr.Six:Bool)==x3.Addr.Six)&&(((v.Addr.Hi:Int)==x3.Addr.Hi)&&(((v.Addr.Lo:Int)==x3.Addr.Lo)&&true)))&&(((v.Bits:Int)==x3.Bits)&&true))) (by kernel_rfl) (by kernel_rfl) E E E)<|Kdl hΓ 2 E<|jC E hy9 (fun h12=>?_) fun h15=>gA 7 E ?_
   ·refine gA 9 E<|bK h12 fun v13 hv13 h14=>?_
    cases h14
    obtain rfl:=hout10 _ rfl
    cases h5
    exact gA 4 E<|oSi hv13▸gP E E
   cases h15
   exact⟨_,E,⟨⟨E,E,E,Kcs E (Kcr (nLl hlt hb7)),tV⟩,[],E,.inl E⟩⟩
  subst hgo
  exact gA 6 E<|Kdp E (dF (Int.lt_irrefl _))<|gA 4 E<|⟨_,E,⟨tV,[],E,.inl E⟩⟩
 intro a6 ha
 subst ha
 replace h5:=Khx h5
 exact gA 7 E<|oSi h5▸gP E E
theorem Lgz{s:List Kxf}{v:Kxf}{r:Bool}(h:Kyy s v=some r):Pure Tryz.prog 128 [.d (Sl Lfi s),.agg (gk v)] (B r):=by
 unfold Kyy at h
 exact QP Tryz.func128 E E E<|gA 2 E<|Kqo E E E E Z<|bK h fun y1 hy1 h2=>gO 7 E<|Kex C (Lgy hy1) E Z E E E E E<|gO 5 E<|oSi h2▸gP E E
theorem Lha{k:Nat}{n:Kxo}{last:Str}{had:List (Kxe×Bool)}{r:Int×(List (Kxe×Bool))}(h:Kyz k n last had=some r):EC Tryz.prog 73 [.agg (gB n),S last,.map 0] [QW had] fun g hp'=>g=I r.1∧hp'=[Qib r.2]:=by
 unfold Kyz at h
 refine QN Tryz.func73 E Z<|gA 2 E<|Kqo E E E E Z<|bK h fun y1 hy1 h2=>gO 9 E<|Kex C (Lgv hy1) E Z E E E E E<|gO 2 E<|bK h2 fun q3 hq3 h4=>Kdt 5 [(1,S last),(2,.map 0),(3,.ptr 1 0),(25,B q3)] [QW had,.box 103 (gB n)] ?_ ?_
 ·refine Kpg E E (fun hb=>?_) (fun hb=>?_)
  ·have h5:=cT hq3 hb
   exact gO 6 E<|oSi h5▸⟨⟨E,E,E,E,tV⟩,[],E,.inl E⟩
  have h6:=cF hq3 hb
  exact bK h6 fun y7 hy7 h8=>gO 2 E<|Kpe E<|Kex C (Lgv hy7) E Z E E E E E<|gO 3 E<|oSi h8▸⟨⟨E,E,E,E,tV⟩,[],E,.inl E⟩
 refine gO 3 E<|jC E h4 (fun h9=>?_) fun h10=>gA 9 E<|jC E h10 (fun h11=>?_) fun h12=>?_
 ·exact gA 8 E<|oSi h9▸Kfn hΓ [_] (.inr E) E E E E (.inr ⟨HB.mk E,E⟩)
 ·exact gA 8 E<|oSi h11▸Kfn hΓ [_] (.inr E) E E E E (.inr ⟨HB.mk E,E⟩)
 refine gA 6 E<|bK h12 fun q13 hq13 h14=>Kdt 5 [(2,.map 0),(3,.ptr 1 0),(40,B q13)] [QW had,.box 103 (gB n)] ?_ ?_
 ·refine Kpg E E (fun hb=>?_) (fun hb=>?_)
  ·have h15:=cT hq13 hb
   exact bK h15 fun y16 hy16 h17=>gO 2 E<|Kpe E<|Kex C (Lgv hy16) E Z E E E E E<|gO 3 E<|oSi h17▸⟨⟨E,E,E,tV⟩,[],E,.inl E⟩
  have h18:=cF hq13 hb
  exact gO 6 E<|oSi h18▸⟨⟨E,E,E,tV⟩,[],E,.inl E⟩
 refine gO 3 E<|jC E h14 (fun h19=>?_) fun h20=>gA 9 E<|jC E h20 (fun h21=>?_) fun h22=>?_
 ·exact gA 8 E<|oSi h19▸Kfn hΓ [_] (.inr E) E E E E (.inr ⟨HB.mk E,E⟩)
 ·exact gA 8 E<|oSi h21▸Kfn hΓ [_] (.inr E) E E E E (.inr ⟨HB.mk E,E⟩)
 refine gA 12 E<|bK h22 fun q26 hq26 h27=>Kef 47 E fun hb29=>Kic (R:=fun a28=>q26=.go a28) (fun a28=>[(2,.map 0),(3,.ptr 1 0)]) (fun a28=>[QW had,.box 103 (gB n)]) ?_ ?_
 ·refine gA 1 E<|Kee n.Tags hq26 (fun i23 s24=>[(2,.map 0),(3,.ptr 1 0),(47,.d (Sl eS n.Tags)),(48,I (n.Tags.length:Int)),(49,I (i23:Int))]) (fun s24=>[QW had,.box 103 (gB n)]) ⟨⟨E,E,E,E,E,tV⟩,[],E,.inl E⟩ (fun i23 x25 s24 y33 hx30 hlt hy31 hout32=>?_) (fun s24 hgo=>?_)
  ·refine gA 6 E<|Kdo E (dT (Int.ofNat_lt.2 hlt))<|gA 7 E<|eo_o E (Keg hΓ (enc:=eS) (Kdz hx30) E E E E E (fun _=>E))<|bK hy31 fun y34 hy34 h35=>gO 9 E<|Kex C (Lgv hy34) E Z E E E E E<|gO 3 E<|jC E h35 (fun h36=>?_) fun h39=>gA 7 E<|bK h39 fun q40 hq40 h41=>Kdt 9 [(2,.map 0),(3,.ptr 1 0),(47,.d (Sl eS n.Tags)),(48,I (n.Tags.length:Int)),(49,I (i23:Int)),(68,B q40)] [QW had,.box 103 (gB n)] ?_ ?_
   ·refine gA 9 E<|bK h36 fun v37 hv37 h38=>?_
    cases h38
    obtain rfl:=hout32 _ rfl
    cases h27
    exact gA 4 E<|oSi hv37▸Kfn hΓ [_] (.inr E) E E E E (.inr ⟨HB.mk E,E⟩)
   ·refine Kpg E E (fun hb=>?_) (fun hb=>?_)
    ·have h42:=cT hq40 hb
     exact bK h42 fun x43 hx43 h44=>gO 5 E<|Kpe E<|eo_o E (Keg hΓ (enc:=eS) hx43 E E E E E (fun _=>E))<|gO 4 E<|oSi h44▸⟨⟨E,E,E,E,E,E,tV⟩,[],E,.inl E⟩
    have h45:=cF hq40 hb
    exact gO 10 E<|oSi h45▸⟨⟨E,E,E,E,E,E,tV⟩,[],E,.inl E⟩
   refine gO 2 E<|jC E h41 (fun h46=>?_) fun h49=>gA 7 E ?_
   ·refine gA 8 E<|bK h46 fun v47 hv47 h48=>?_
    cases h48
    obtain rfl:=hout32 _ rfl
    cases h27
    exact gA 4 E<|oSi hv47▸Kfn hΓ [_] (.inr E) E E E E (.inr ⟨HB.mk E,E⟩)
   cases h49
   exact⟨_,E,⟨⟨E,E,E,E,Kcs E (Kcr (nLl hlt hb29)),tV⟩,[],E,.inl E⟩⟩
  subst hgo
  exact gA 6 E<|Kdp E (dF (Int.lt_irrefl _))<|gA 4 E<|⟨_,E,⟨⟨E,E,tV⟩,[],E,.inl E⟩⟩
 intro a28 ha
 subst ha
 replace h27:=Khx h27
 refine gA 16 E<|jC E h27 (fun h50=>?_) fun h51=>gA 9 E<|jC E h51 (fun h52=>?_) fun h53=>?_
 ·exact gA 8 E<|oSi h50▸Kfn hΓ [_] (.inr E) E E E E (.inr ⟨HB.mk E,E⟩)
 ·exact gA 8 E<|oSi h52▸Kfn hΓ [_] (.inr E) E E E E (.inr ⟨HB.mk E,E⟩)
 refine gA 12 E<|bK h53 fun q57 hq57 h58=>Kef 85 E fun hb60=>Kic (R:=fun a59=>q57=.go a59) (fun a59=>[(3,.ptr 1 0)]) (fun a59=>[Qib a59,.box 103 (gB n)]) ?_ ?_
 ·refine gA 1 E<|Kee n.Addrs hq57 (fun i54 s55=>[(2,.map 0),(3,.ptr 1 0),(85,.d (Sl Lfh n.Addrs)),(86,I (n.Addrs.length:Int)),(87,I (i54:Int))]) (fun s55=>[Qib s55,.box 103 (gB n)]) ⟨⟨E,E,E,E,E,tV⟩,[],E,.inl E⟩ (fun i54 x56 s55 y64 hx61 hlt hy62 hout63=>?_) (fun s55 hgo=>?_)
  ·refine gA 6 E<|Kdo E (dT (Int.ofNat_lt.2 hlt))<|gA 6 E<|eo_o E (Keg hΓ (enc:=Lfh) (Kdz hx61) E E E E E (fun _=>E))<|gO 1 E<|Kqn hΓ E E E Z<|Kqs hΓ E E E E E E E E Z<|Kfg [Qib s55,.box 103 (gB n),.box 46 (gh x56)] E<|bK hy62 fun y65 hy65 h66=>gO 6 E<|Kex C (Lgw hy65) E Z E E E E E<|gO 9 E<|jC E h66 (fun h67=>?_) fun h70=>gA 7 E<|eo_o E (Kls hΓ (kenc:=Lfh) (agg:=false) (enc:=eB) s55 x56 (false:Bool) E E E Lhq (fun _=>E) E E E E E E E)<|gO 2 E<|jC E h70 (fun h71=>?_) fun h74=>?_
   ·refine gA 10 E<|bK h67 fun v68 hv68 h69=>?_
    cases h69
    obtain rfl:=hout63 _ rfl
    cases h58
    exact gA 4 E<|oSi hv68▸Kfn hΓ [_,_] (.inr E) E E E E (.inr ⟨HB.mk E,E⟩)
   ·refine gA 9 E<|bK h71 fun v72 hv72 h73=>?_
    cases h73
    obtain rfl:=hout63 _ rfl
    cases h58
    exact gA 4 E<|oSi hv72▸Kfn hΓ [_,_] (.inr E) E E E E (.inr ⟨HB.mk E,E⟩)
   refine gA 5 E<|eo_u Z (Klu hΓ (kenc:=Lfh) (agg:=false) (enc:=eB) (id:=0) s55 x56 true E E Lhq (fun _=>E) E E E E E)<|Kfg [Qib (mSet s55 x56 true),.box 103 (gB n),.box 46 (gh x56)] E<|gO 7 E ?_
   cases h74
   exact⟨_,E,⟨⟨E,E,E,E,Kcs E (Kcr (nLl hlt hb60)),tV⟩,[_],E,.inr ⟨HB.mk E,FB.mk E,Z⟩⟩⟩
  subst hgo
  exact gA 6 E<|Kdp E (dF (Int.lt_irrefl _))<|gA 4 E<|⟨_,E,⟨⟨E,tV⟩,[],E,.inl E⟩⟩
 intro a59 ha
 subst ha
 replace h58:=Khx h58
 refine gA 10 E<|jC E h58 (fun h75=>?_) fun h76=>gA 11 E<|bK h76 fun q80 hq80 h81=>Kef 107 E fun hb83=>Kic (R:=fun a82=>q80=.go a82) (fun a82=>[]) (fun a82=>[Qib a59,.box 103 (gB n)]) ?_ ?_
 ·exact gA 7 E<|oSi h75▸Kfn hΓ [_] (.inr E) E E E E (.inr ⟨HB.mk E,E⟩)
 ·refine gA 1 E<|Kee n.Routes hq80 (fun i77 s78=>[(3,.ptr 1 0),(107,.d (Sl Lfi n.Routes)),(108,I (n.Routes.length:Int)),(109,I (i77:Int))]) (fun s78=>[Qib a59,.box 103 (gB n)]) ⟨⟨E,E,E,E,tV⟩,[],E,.inl E⟩ (fun i77 x79 s78 y87 hx84 hlt hy85 hout86=>?_) (fun s78 hgo=>?_)
  ·refine gA 6 E<|Kdo E (dT (Int.ofNat_lt.2 hlt))<|gA 7 E<|eo_o E (Keg hΓ (enc:=Lfi) (Kdz hx84) E E E E E (fun _=>E))<|gO 1 E<|Kqn hΓ E E E Z<|gO 1 E<|Kqs hΓ E E E E E E E E Z<|Kfg [Qib a59,.box 103 (gB n),.box 106 (gk x79)] E<|bK hy85 fun y88 hy88 h89=>gO 6 E<|Kex C (Lgx hy88) E Z E E E E E<|gO 9 E<|jC E h89 (fun h90=>?_) fun h93=>gA 3 E<|jD<|bK h93 fun z94 hz94 h95=>gA 3 E<|gl_o E (Ken hΓ (enc:=Lfi) hz94 E E E E E E (fun _=>E))<|bK h95 fun y96 hy96 h97=>Kdl hΓ 1 E<|Kez C (Lgz hy96) E E E E E E<|Kdl hΓ 2 E<|jC E h97 (fun h98=>?_) fun h101=>?_
   ·refine gA 10 E<|bK h90 fun v91 hv91 h92=>?_
    cases h92
    obtain rfl:=hout86 _ rfl
    cases h81
    exact gA 4 E<|oSi hv91▸Kfn hΓ [_,_] (.inr E) E E E E (.inr ⟨HB.mk E,E⟩)
   ·refine gA 8 E<|bK h98 fun v99 hv99 h100=>?_
    cases h100
    obtain rfl:=hout86 _ rfl
    cases h81
    exact gA 4 E<|oSi hv99▸Kfn hΓ [_,_] (.inr E) E E E E (.inr ⟨HB.mk E,E⟩)
   refine gA 7 E ?_
   cases h101
   exact⟨_,E,⟨⟨E,E,E,Kcs E (Kcr (nLl hlt hb83)),tV⟩,[_],E,.inr ⟨HB.mk E,FB.mk E,Z⟩⟩⟩
  subst hgo
  exact gA 6 E<|Kdp E (dF (Int.lt_irrefl _))<|gA 4 E<|⟨_,E,⟨tV,[],E,.inl E⟩⟩
 intro a82 ha
 subst ha
 replace h81:=Khx h81
 exact gA 7 E<|oSi h81▸Kfn hΓ [_] (.inr E) E E E E (.inr ⟨HB.mk E,E⟩)
theorem Lhb{k:Nat}{l:List Kxo}{r:Int}(h:Kza k l=some r):Pure Tryz.prog 47 [.d (Sl Lfr l)] (I r):=by
 unfold Kza at h
 refine QP Tryz.func47 E E E<|gA 13 E<|jC E h (fun h1=>?_) fun h2=>gA 4 E<|eo_s Z (nblt.1 E) (Kjn false)<|Kfg [Qib ([]:List (Kxe×Bool))] E<|gO 16 E<|bK h2 fun q6 hq6 h7=>Kef 12 E fun hb9=>Kic (R:=fun a8=>q6=.go a8) (fun a8=>[]) (fun a8=>[Qib a8.1]) ?_ ?_
 ·exact gA 7 E<|oSi h1▸gP E E
 ·refine gA 1 E<|Kee l hq6 (fun i3 s4=>[(3,.map 0),(4,S s4.2),(12,.d (Sl Lfr l)),(13,I (l.length:Int)),(14,I (i3:Int))]) (fun s4=>[Qib s4.1]) ⟨⟨E,E,E,E,E,tV⟩,[],E,.inl E⟩ (fun i3 x5 s4 y13 hx10 hlt hy11 hout12=>?_) (fun s4 hgo=>?_)
  ·refine gA 6 E<|Kdo E (dT (Int.ofNat_lt.2 hlt))<|gA 6 E<|eo_o E (Keg hΓ (enc:=Lfr) (Kdz hx10) E E E E E (fun _=>E))<|gO 1 E<|Kqn hΓ E E E Z<|Kqs hΓ E E E E E E E E Z<|Kfg [Qib s4.1,.box 103 (gB x5)] E<|bK hy11 fun y14 hy14 h15=>gO 8 E<|Kew [0] (I y14.1) [Qib y14.2,.box 103 (gB x5)] C (Lha hy14) E Z E E E E E E E E E E<|gO 9 E<|jC E h15 (fun h16=>?_) fun h19=>gA 13 E ?_
   ·refine gA 10 E<|bK h16 fun v17 hv17 h18=>?_
    cases h18
    obtain rfl:=hout12 _ rfl
    cases h7
    exact gA 4 E<|oSi hv17▸gP E E
   cases h19
   exact⟨_,E,⟨⟨E,E,E,E,Kcs E (Kcr (nLl hlt hb9)),tV⟩,[_],E,.inr ⟨HB.mk E,FB.mk E,Z⟩⟩⟩
  subst hgo
  exact gA 6 E<|Kdp E (dF (Int.lt_irrefl _))<|gA 4 E<|⟨_,E,⟨tV,[],E,.inl E⟩⟩
 intro a8 ha
 subst ha
 replace h7:=Khx h7
 exact gA 7 E<|oSi h7▸gP E E
theorem Lhc{n:Kxo}{x:Str}{r:Bool}(h:Kzb n x=some r):EC Tryz.prog 75 [.agg (gB n),.ptr 0 0] [.box 9 [S x]] fun g hp'=>g=B r∧hp'=[.box 9 [S x]]:=by
 unfold Kzb at h
 exact QN Tryz.func75 E Z<|gA 2 E<|Kqo E E E E Z<|gO 13 E<|oSi h▸Kfn hΓ [_] (.inr E) E E E E (.inr ⟨HB.mk E,E⟩)
theorem Lhd{s:List Kxo}{f:Str}{r:Int}(h:Kzc s f=some r):EC Tryz.prog 74 [.d (Sl Lfr s),.fn (.func 75) [] [.ptr 0 0]] [.box 9 [S f]] fun g hp'=>g=I r∧hp'=[.box 9 [S f]]:=by
 unfold Kzc at h
 refine QN Tryz.func74 E Z<|gA 13 E<|bK h fun q4 hq4 h5=>Kef 0 E fun hb7=>Kic (R:=fun a6=>q4=.go a6) (fun a6=>[]) (fun a6=>[.box 9 [S f]]) ?_ ?_
 ·refine gA 1 E<|Kee s hq4 (fun i1 s2=>[(0,.d (Sl Lfr s)),(1,.fn (.func 75) [] [.ptr 0 0]),(7,I (s.length:Int)),(8,I (i1:Int))]) (fun s2=>[.box 9 [S f]]) ⟨⟨E,E,E,E,tV⟩,[],E,.inl E⟩ (fun i1 x3 s2 y11 hx8 hlt hy9 hout10=>?_) (fun s2 hgo=>?_)
  ·refine gA 6 E<|Kdo E (dT (Int.ofNat_lt.2 hlt))<|gA 15 E<|eo_o E (Keg hΓ (enc:=Lfr) (Kdz hx8) E E E E E (fun _=>E))<|bK hy9 fun y12 hy12 h13=>gO 1 E<|Kew [0] (B y12) [.box 9 [S f]] C (Lhc hy12) E Z E E E E E E E E E E<|gO 2 E<|jC E h13 (fun h14=>?_) fun h17=>gA 7 E ?_
   ·refine gA 9 E<|bK h14 fun v15 hv15 h16=>?_
    cases h16
    obtain rfl:=hout10 _ rfl
    cases h5
    exact gA 4 E<|oSi hv15▸Kfn hΓ [] (.inr E) E E E E (.inl E)
   cases h17
   exact⟨_,E,⟨⟨E,E,E,Kcs E (Kcr (nLl hlt hb7)),tV⟩,[],E,.inl E⟩⟩
  subst hgo
  exact gA 6 E<|Kdp E (dF (Int.lt_irrefl _))<|gA 4 E<|⟨_,E,⟨tV,[],E,.inl E⟩⟩
 intro a6 ha
 subst ha
 replace h5:=Khx h5
 exact gA 7 E<|oSi h5▸Kfn hΓ [] (.inr E) E E E E (.inl E)
theorem Lhe{l:List Kxo}{key:Str}{r:Int}(h:Kzd l key=some r):Pure Tryz.prog 48 [.d (Sl Lfr l),S key] (I r):=by
 unfold Kzd at h
 exact QP Tryz.func48 E E E<|gA 2 E<|Kqo E E E E Z<|bK h fun y1 hy1 h2=>gO 7 E<|Kew [0] (I y1) [.box 9 [S key]] C (Lhd hy1) E Z E E E E E E E E E E<|gO 4 E<|oSi h2▸gP E E
theorem Lhf{x:Str}{r:Bool}(h:Kze x=some r):Pure Tryz.prog 130 [S x] (B r):=by
 unfold Kze at h
 exact QP Tryz.func130 E E E<|gA 14 E<|oSi h▸gP E E
theorem Lhg{x:Str}{y:Str}{r:Int}(h:Kzf x y=some r):Pure Tryz.prog 78 [S x,S y] (I r):=by
 unfold Kzf at h
 refine QP Tryz.func78 E E E<|bK h fun y1 hy1 h2=>gA 8 E<|Kex C (Lhf hy1) E Z E E E E E<|bK h2 fun y3 hy3 h4=>gO 6 E<|Kex C (Lhf hy3) E Z E E E E E<|gO 9 E<|jC E h4 (fun h5=>?_) fun h8=>gA 8 E<|jC E h8 (fun h9=>?_) fun h10=>?_
 ·refine gA 6 E<|jC E h5 (fun h6=>?_) fun h7=>gA 9 E<|oSi h7▸gP E E
  exact gA 8 E<|oSi h6▸gP E E
 ·exact gA 7 E<|oSi h9▸gP E E
 refine gA 10 E<|jC E h10 (fun h11=>?_) fun h12=>gA 10 E<|jC E h12 (fun h13=>?_) fun h14=>?_
 ·exact gA 7 E<|oSi h11▸gP E E
 ·exact gA 7 E<|oSi h13▸gP E E
 exact gA 8 E<|oSi h14▸gP E E
theorem Lhh{s1:List Str}{s2:List Str}{r:Int}(h:Kzg s1 s2=some r):Pure Tryz.prog 50 [.d (Sl eS s1),.d (Sl eS s2)] (I r):=by
 unfold Kzg at h
 refine QP Tryz.func50 E E E<|gA 13 E<|bK h fun q5 hq5 h6=>Kef 0 E fun hb8=>Kic (R:=fun a7=>q5=.go a7) (fun a7=>[(0,.d (Sl eS s1)),(1,.d (Sl eS s2))]) (fun a7=>[]) ?_ ?_
 ·refine gA 1 E<|Kee s1 hq5 (fun i1 s3=>[(0,.d (Sl eS s1)),(1,.d (Sl eS s2)),(9,.d (Sl eS s1)),(10,I (s1.length:Int)),(11,I (i1:Int))]) (fun s3=>[]) ⟨⟨E,E,E,E,E,tV⟩,[],E,.inl E⟩ (fun i1 x4 s3 y12 hx9 hlt hy10 hout11=>?_) (fun s3 hgo=>?_)
  ·refine gA 6 E<|Kdo E (dT (Int.ofNat_lt.2 hlt))<|gA 7 E<|eo_o E (Keg hΓ (enc:=eS) (Kdz hx9) E E E E E (fun _=>E))<|gO 14 E<|jC E hy10 (fun h13=>?_) fun h16=>bK h16 fun x17 hx17 h18=>gA 6 E<|eo_o E (Keg hΓ (enc:=eS) hx17 E E E E E (fun _=>E))<|bK h18 fun y19 hy19 h20=>gO 8 E<|Kex C (Lhg hy19) E Z E E E E E<|gO 9 E<|jC E h20 (fun h21=>?_) fun h24=>?_
   ·refine gA 9 E<|bK h13 fun v14 hv14 h15=>?_
    cases h15
    obtain rfl:=hout11 _ rfl
    cases h6
    exact gA 4 E<|oSi hv14▸gP E E
   ·refine gA 9 E<|bK h21 fun v22 hv22 h23=>?_
    cases h23
    obtain rfl:=hout11 _ rfl
    cases h6
    exact gA 4 E<|oSi hv22▸gP E E
   refine gA 7 E ?_
   cases h24
   exact⟨_,E,⟨⟨E,E,E,E,Kcs E (Kcr (nLl hlt hb8)),tV⟩,[],E,.inl E⟩⟩
  subst hgo
  exact gA 6 E<|Kdp E (dF (Int.lt_irrefl _))<|gA 4 E<|⟨_,E,⟨⟨E,E,tV⟩,[],E,.inl E⟩⟩
 intro a7 ha
 subst ha
 replace h6:=Khx h6
 refine gA 11 E<|jC E h6 (fun h25=>?_) fun h26=>gA 8 E<|oSi h26▸gP E E
 exact gA 7 E<|oSi h25▸gP E E
theorem Lhi{k:Nat}{nodes:List Kxo}{l:List Kxp}{r:Int}(h:Kzh k nodes l=some r):Pure Tryz.prog 17 [.d (Sl Lfr nodes),.d (Sl Lfs l)] (I r):=by
 unfold Kzh at h
 refine QP Tryz.func17 E E E<|bK h fun y1 hy1 h2=>gA 9 E<|Kex C (Lhb hy1) E Z E E E E E<|gO 9 E<|jC E h2 (fun h3=>?_) fun h4=>gA 10 E<|jC E h4 (fun h5=>?_) fun h6=>?_
 ·exact gA 8 E<|oSi h3▸gP E E
 ·exact gA 7 E<|oSi h5▸gP E E
 refine gA 10 E<|bK h6 fun q10 hq10 h11=>Kef 1 E fun hb13=>Kic (R:=fun a12=>q10=.go a12) (fun a12=>[]) (fun a12=>[]) ?_ ?_
 ·refine gA 1 E<|Kee l hq10 (fun i7 s8=>[(0,.d (Sl Lfr nodes)),(1,.d (Sl Lfs l)),(16,.d (Sl Lfs l)),(17,I (l.length:Int)),(18,I (i7:Int))]) (fun s8=>[]) ⟨⟨E,E,E,E,E,tV⟩,[],E,.inl E⟩ (fun i7 x9 s8 y17 hx14 hlt hy15 hout16=>?_) (fun s8 hgo=>?_)
  ·refine gA 6 E<|Kdo E (dT (Int.ofNat_lt.2 hlt))<|gA 7 E<|eo_o E (Keg hΓ (enc:=Lfs) (Kdz hx14) E E E E E (fun _=>E))<|gO 1 E<|Kqn hΓ E E E Z<|gO 1 E<|Kqs hΓ E E E E E E E E Z<|Kfg [.box 63 (gC x9)] E<|bK hy15 fun y18 hy18 h19=>gO 8 E<|Kex C (Lhe hy18) E Z E E E E E<|gO 4 E<|jC E h19 (fun h20=>?_) fun h23=>bK h23 fun y24 hy24 h25=>gA 4 E<|Kex C (Lgv hy24) E Z E E E E E<|gO 4 E<|jC E h25 (fun h26=>?_) fun h29=>?_
   ·refine gA 9 E<|bK h20 fun v21 hv21 h22=>?_
    cases h22
    obtain rfl:=hout16 _ rfl
    cases h11
    exact gA 4 E<|oSi hv21▸gP E E
   ·refine gA 9 E<|bK h26 fun v27 hv27 h28=>?_
    cases h28
    obtain rfl:=hout16 _ rfl
    cases h11
    exact gA 4 E<|oSi hv27▸gP E E
   refine bK h29 fun q30 hq30 h31=>gA 1 E<|Kid [(0,.d (Sl Lfr nodes)),(1,.d (Sl Lfs l)),(16,.d (Sl Lfs l)),(17,I (l.length:Int)),(18,I (i7:Int)),(34,B q30)] [.box 63 (gC x9)] ?_ ?_
   ·refine Khd [.box 63 (gC x9)] [17,19] [] [] hmix (by kernel_rfl) (by kernel_rfl) ⟨E,tV⟩ Z<|go_E hΓ 3 E<|Khi E E (fun hb=>?_) (fun hb=>?_)
    ·have h32:=cT hq30 hb
     exact bK h32 fun x33 hx33 h34=>go_E hΓ 3 E<|ge_q E (.inr ⟨_,_,E,E⟩) (fun _ _=>Khf (qt_p (Keg hΓ (enc:=Lfs) hx33 E E E E E (fun _=>E))))<|bK h34 fun x35 hx35 h36=>go_E hΓ 5 E<|ge_q E (.inr ⟨_,_,E,E⟩) (fun _ _=>Khf (qt_p (Keg hΓ (enc:=Lfs) hx35 E E E E E (fun _=>E))))<|go_E hΓ 2 E<|Kih hΓ (enc:=eS) [x33.Node,x35.Posture] E E E E E E E E E E E E E<|go_E hΓ 4 E<|Kih hΓ (enc:=eS) [x9.Node,x9.Posture] E E E E E E E E E E E E E<|bK h36 fun y37 hy37 h38=>Kig E C (Lhh hy37) E E E E E E<|go_E hΓ 3 E<|Khe<|oSi h38▸⟨⟨E,E,E,E,E,E,tV⟩,[],E,.inl E⟩
    have h39:=cF hq30 hb
    exact go_E hΓ 22 E<|Khe<|oSi h39▸⟨⟨E,E,E,E,E,E,tV⟩,[],E,.inl E⟩
   refine gA 1 E<|jC E h31 (fun h40=>?_) fun h43=>gA 8 E ?_
   ·refine gA 9 E<|bK h40 fun v41 hv41 h42=>?_
    cases h42
    obtain rfl:=hout16 _ rfl
    cases h11
    exact gA 4 E<|oSi hv41▸gP E E
   cases h43
   exact⟨_,E,⟨⟨E,E,E,E,Kcs E (Kcr (nLl hlt hb13)),tV⟩,[_],E,.inr ⟨HB.mk E,FB.mk E,Z⟩⟩⟩
  subst hgo
  exact gA 6 E<|Kdp E (dF (Int.lt_irrefl _))<|gA 4 E<|⟨_,E,⟨tV,[],E,.inl E⟩⟩
 intro a12 ha
 subst ha
 replace h11:=Khx h11
 exact gA 7 E<|oSi h11▸gP E E
theorem Lhj{k:Nat}{s:Kxc}{nodes:Int}{grants:Int}{r:Kxq×Kxc}(h:Kzi k s nodes grants=some r):EC Tryz.prog 4 [.ptr 0 0,I nodes,I grants] [Q8 s] fun g hp'=>g=.agg (gD r.1)∧hp'=[.box 25 (fQ r.2)]:=by
 unfold Kzi at h
 refine QN Tryz.func4 E Z<|gA 2 E<|Kqn hΓ E E E Z<|bK h fun y1 hy1 h2=>gO 6 E<|Kew [0] (.sl 2 y1.1.length) [.box 25 (fQ y1.2),Qk,Q9 y1.1] C (Lge hy1) E Z E E E E E E E E E E<|Kfd 2 [13] _ [.box 25 (fQ y1.2),Qk,.dead] E E E Z<|bK h2 fun y3 hy3 h4=>gO 2 E<|Kew [0] (.agg (gy y3.1)) [.box 25 (fQ y3.2),Qk,.dead] C (Lgq hy3) E Z E E E E E E E E E E<|Kbn hΓ (gs:=[.d (Sl Lfr y1.1),.d (Sl Lfg y3.1.Groups),.d (Sl Lfj y3.1.Hosts),.d (Sl Lfn y3.1.Grants),.d (Sl Lfp y3.1.Tests),.d (Sl Lfs [])]) E E E E E E E<|Kqn hΓ E E E Z<|Kqs hΓ E E E E E E E E Z<|Kfg [.box 25 (fQ y3.2),Qk,.dead,.box 35 [.d (Sl Lfr y1.1),.d (Sl Lfg y3.1.Groups),.d (Sl Lfj y3.1.Hosts),.d (Sl Lfn y3.1.Grants),.d (Sl Lfp y3.1.Tests),.d (Sl Lfs [])]] E<|bK h4 fun y5 hy5 h6=>gO 8 E<|Kew [0] (.sl 4 y5.1.length) [.box 25 (fQ y5.2),Qk,.dead,.box 35 [.d (Sl Lfr y1.1),.d (Sl Lfg y3.1.Groups),.d (Sl Lfj y3.1.Hosts),.d (Sl Lfn y3.1.Grants),.d (Sl Lfp y3.1.Tests),.d (Sl Lfs [])],Qhb y5.1] C (Lgr hy5) E Z E E E E E E E E E E<|Kfd 4 [21] _ [.box 25 (fQ y5.2),Qk,.dead,.box 35 [.d (Sl Lfr y1.1),.d (Sl Lfg y3.1.Groups),.d (Sl Lfj y3.1.Hosts),.d (Sl Lfn y3.1.Grants),.d (Sl Lfp y3.1.Tests),.d (Sl Lfs [])],.dead] E E E Z<|gO 4 E<|bK h6 fun q10 hq10 h11=>Kef 21 E fun hb13=>Kid [(6,.ptr 1 0),(7,.ptr 3 0)] [.box 25 (fQ y5.2),Qk,.dead,.box 35 [.d (Sl Lfr y1.1),.d (Sl Lfg y3.1.Groups),.d (Sl Lfj y3.1.Hosts),.d (Sl Lfn y3.1.Grants),.d (Sl Lfp y3.1.Tests),.d (Sl Lfs q10)],.dead] ?_ ?_
 ·refine gA 1 E<|Kfp y5.1 hq10 (fun i7 s8=>[(6,.ptr 1 0),(7,.ptr 3 0),(21,.d (Sl Lfs y5.1)),(22,I (y5.1.length:Int)),(23,I (i7:Int))]) (fun s8=>[.box 25 (fQ y5.2),Qk,.dead,.box 35 [.d (Sl Lfr y1.1),.d (Sl Lfg y3.1.Groups),.d (Sl Lfj y3.1.Hosts),.d (Sl Lfn y3.1.Grants),.d (Sl Lfp y3.1.Tests),.d (Sl Lfs s8)],.dead]) ⟨⟨E,E,E,E,E,tV⟩,[],E,.inl E⟩ (fun i7 x9 s8 y17 hx14 hlt hy15=>?_) (?_)
  ·refine gA 6 E<|Kdo E (dT (Int.ofNat_lt.2 hlt))<|gA 6 E<|eo_o E (Keg hΓ (enc:=Lfs) (Kdz hx14) E E E E E (fun _=>E))<|gO 1 E<|Kqn hΓ E E E Z<|Kqs hΓ E E E E E E E E Z<|Kfg [.box 25 (fQ y5.2),Qk,.dead,.box 35 [.d (Sl Lfr y1.1),.d (Sl Lfg y3.1.Groups),.d (Sl Lfj y3.1.Hosts),.d (Sl Lfn y3.1.Grants),.d (Sl Lfp y3.1.Tests),.d (Sl Lfs s8)],.dead,.box 63 (gC x9)] E<|gO 5 E<|Kqn hΓ E E E Z<|Kqs hΓ E E E E E E E E Z<|Kfg [.box 25 (fQ y5.2),Qk,.dead,.box 35 [.d (Sl Lfr y1.1),.d (Sl Lfg y3.1.Groups),.d (Sl Lfj y3.1.Hosts),.d (Sl Lfn y3.1.Grants),.d (Sl Lfp y3.1.Tests),.d (Sl Lfs s8)],.dead,.box 63 (gC x9),.box 35 [.d (Sl Lfr y1.1),.d (Sl Lfg y3.1.Groups),.d (Sl Lfj y3.1.Hosts),.d (Sl Lfn y3.1.Grants),.d (Sl Lfp y3.1.Tests),.d (Sl Lfs s8)]] E<|gO 3 E<|Khd [.dead,.dead,.dead,.box 35 [.d (Sl Lfr y1.1),.d (Sl Lfg y3.1.Groups),.d (Sl Lfj y3.1.Hosts),.d (Sl Lfn y3.1.Grants),.d (Sl Lfp y3.1.Tests),.d (Sl Lfs s8)],.dead,.box 63 (gC x9)] [1,3] [2,5,7] [] hmix (by kernel_rfl) (by kernel_rfl) ⟨E,E,tV⟩ Z<|bK hy15 fun y18 hy18 h19=>go_E hΓ 2 E<|ge_h [.box 25 (fQ y5.2),Qk,.dead,.box 35 [.d (Sl Lfr y1.1),.d (Sl Lfg y3.1.Groups),.d (Sl Lfj y3.1.Hosts),.d (Sl Lfn y3.1.Grants),.d (Sl Lfp y3.1.Tests),.d (Sl Lfs s8)],.dead,.box 63 (gC x9),.box 35 [.d (Sl Lfr y1.1),.d (Sl Lfg y3.1.Groups),.d (Sl Lfj y3.1.Hosts),.d (Sl Lfn y3.1.Grants),.d (Sl Lfp y3.1.Tests),.d (Sl Lfs s8)],Qhb y18] E E E (Khl ⟨E,E,tV⟩) (Khq [] (.sl 7 y18.length) [.box 25 (fQ y5.2),Qk,.dead,.box 35 [.d (Sl Lfr y1.1),.d (Sl Lfg y3.1.Groups),.d (Sl Lfj y3.1.Hosts),.d (Sl Lfn y3.1.Grants),.d (Sl Lfp y3.1.Tests),.d (Sl Lfs s8)],.dead,.box 63 (gC x9),.box 35 [.d (Sl Lfr y1.1),.d (Sl Lfg y3.1.Groups),.d (Sl Lfj y3.1.Hosts),.d (Sl Lfn y3.1.Grants),.d (Sl Lfp y3.1.Tests),.d (Sl Lfs s8)],Qhb y18] C (Lgs hy18) E E E E E E E E E E)<|go_E hΓ 1 E<|Khs hΓ (enc:=Lfs) [x9] E E E E E E E E E E E E<|bK h19 fun y20 hy20 h21=>ge_h [.box 25 (fQ y5.2),Qk,.dead,.box 35 [.d (Sl Lfr y1.1),.d (Sl Lfg y3.1.Groups),.d (Sl Lfj y3.1.Hosts),.d (Sl Lfn y3.1.Grants),.d (Sl Lfp y3.1.Tests),.d (Sl Lfs s8)],.dead,.box 63 (gC x9),.box 35 [.d (Sl Lfr y1.1),.d (Sl Lfg y3.1.Groups),.d (Sl Lfj y3.1.Hosts),.d (Sl Lfn y3.1.Grants),.d (Sl Lfp y3.1.Tests),.d (Sl Lfs s8)],.dead,Qhb y20] E E E (Khl ⟨E,E,tV⟩) (Kho (Kgt hΓ (enc:=Lfs) (id:=7) (h2:=show Γ 63=some ⟨_,2,_,_⟩ from E) hy20 E E E E E E E E (fun _=>E) E))<|go_E hΓ 1 E<|Khj [.box 25 (fQ y5.2),Qk,.dead,.box 35 [.d (Sl Lfr y1.1),.d (Sl Lfg y3.1.Groups),.d (Sl Lfj y3.1.Hosts),.d (Sl Lfn y3.1.Grants),.d (Sl Lfp y3.1.Tests),.d (Sl Lfs s8)],.dead,.box 63 (gC x9),.box 35 [.d (Sl Lfr y1.1),.d (Sl Lfg y3.1.Groups),.d (Sl Lfj y3.1.Hosts),.d (Sl Lfn y3.1.Grants),.d (Sl Lfp y3.1.Tests),.sl 8 y20.length],.dead,Qhb y20] E E (Khl ⟨E,E,tV⟩) (Khp (Kiq hΓ E E E E E E E E E))<|Khe<|gA 1 E<|Kff 8 [33] _ [.box 25 (fQ y5.2),Qk,.dead,.box 35 [.d (Sl Lfr y1.1),.d (Sl Lfg y3.1.Groups),.d (Sl Lfj y3.1.Hosts),.d (Sl Lfn y3.1.Grants),.d (Sl Lfp y3.1.Tests),.d (Sl Lfs s8)],.dead,.box 63 (gC x9),.box 35 [.d (Sl Lfr y1.1),.d (Sl Lfg y3.1.Groups),.d (Sl Lfj y3.1.Hosts),.d (Sl Lfn y3.1.Grants),.d (Sl Lfp y3.1.Tests),.d (Sl Lfs y20)],.dead,.dead] E E E Z<|bK h21 fun y22 hy22 h23=>gA 6 E<|Kex C (Lhi hy22) E Z E E E E E<|gO 3 E<|jC E h23 (fun h24=>?_) fun h25=>gA 7 E ?_
   ·refine gA 2 E<|Kqs hΓ E E E E E E E E Z<|Kfg [.box 25 (fQ y5.2),Qk,.dead,.box 35 [.d (Sl Lfr y1.1),.d (Sl Lfg y3.1.Groups),.d (Sl Lfj y3.1.Hosts),.d (Sl Lfn y3.1.Grants),.d (Sl Lfp y3.1.Tests),.d (Sl Lfs y20)],.dead,.box 63 (gC x9),.box 35 [.d (Sl Lfr y1.1),.d (Sl Lfg y3.1.Groups),.d (Sl Lfj y3.1.Hosts),.d (Sl Lfn y3.1.Grants),.d (Sl Lfp y3.1.Tests),.d (Sl Lfs y20)],.dead,.dead] E<|gO 7 E ?_
    cases h24
    exact⟨⟨E,E,E,E,Kcs E (Kcr (nLl hlt hb13)),tV⟩,[_,_,_,_],E,.inr ⟨HB.mk E,FB.mk E,Z⟩⟩
   cases h25
   exact⟨⟨E,E,E,E,Kcs E (Kcr (nLl hlt hb13)),tV⟩,[_,_,_,_],E,.inr ⟨HB.mk E,FB.mk E,Z⟩⟩
  exact gA 6 E<|Kdp E (dF (Int.lt_irrefl _))<|gA 4 E<|⟨⟨E,E,tV⟩,[],E,.inl E⟩
 exact gA 4 E<|Kqs hΓ E E E E E E E E Z<|Kfg [.box 25 (fQ y5.2),.box 35 [.d (Sl Lfr y1.1),.d (Sl Lfg y3.1.Groups),.d (Sl Lfj y3.1.Hosts),.d (Sl Lfn y3.1.Grants),.d (Sl Lfp y3.1.Tests),.d (Sl Lfs q10)],.dead,.box 35 [.d (Sl Lfr y1.1),.d (Sl Lfg y3.1.Groups),.d (Sl Lfj y3.1.Hosts),.d (Sl Lfn y3.1.Grants),.d (Sl Lfp y3.1.Tests),.d (Sl Lfs q10)],.dead] E<|gO 3 E<|oSi h11▸Kfn hΓ [_,_,_,_] (.inr E) E E E E (.inr ⟨HB.mk E,E⟩)
theorem Lhk{n:Int}{r:Int}(h:Kzj n=some r):Pure Tryz.prog 52 [I n] (I r):=by
 unfold Kzj at h
 refine QP Tryz.func52 E E E<|gA 14 E<|jC E h (fun h1=>?_) fun h2=>gA 7 E<|jC E h2 (fun h3=>?_) fun h4=>?_
 ·exact gA 8 E<|oSi h1▸gP E E
 ·exact gA 8 E<|oSi h3▸gP E E
 exact gA 9 E<|oSi h4▸gP E E
theorem Lhl{k:Nat}{w:(Int×Int×Int×Int×Int×Int×Int×Int×Int)}{v:(Int×Int×Int×Int×Int×Int×Int×Int×Int)}{r:Int}(h:Kzk k w v=some r):Pure Tryz.prog 134 [.agg [I w.1,I w.2.1,I w.2.2.1,I w.2.2.2.1,I w.2.2.2.2.1,I w.2.2.2.2.2.1,I w.2.2.2.2.2.2.1,I w.2.2.2.2.2.2.2.1,I w.2.2.2.2.2.2.2.2],.agg [I v.1,I v.2.1,I v.2.2.1,I v.2.2.2.1,I v.2.2.2.2.1,I v.2.2.2.2.2.1,I v.2.2.2.2.2.2.1,I v.2.2.2.2.2.2.2.1,I v.2.2.2.2.2.2.2.2]] (I r):=by
 unfold Kzk at h
 refine QP Tryz.func134 E E E<|gA 2 E<|Kqo E E E E Z<|Kqo E E E E Z<|gO 9 E<|bK h fun q4 hq4 h5=>Kic (R:=fun a6=>q4=.inl a6) (fun a6=>[]) (fun a6=>[Qf w,Qg v]) ?_ ?_
 ·refine gA 1 E<|Kec hq4 (fun s2=>[(2,.ptr 0 0),(3,.ptr 1 0),(5,I s2)]) (fun s2=>[Qf w,Qg v]) ⟨⟨E,E,E,tV⟩,[],E,.inl E⟩ (fun s2 y10 hy8 hout9=>?_)
  refine gA 7 E<|jC E hy8 (fun h11=>?_) fun h26=>gA 4 E ?_
  ·refine gA 5 E<|jD<|bK h11 fun x12 hx12 h13=>gA 1 E<|gl_o E (Klc hΓ hx12 E E E E E E)<|gl_o E (Kld hΓ (f:=fun z=>.d (.v (.int .i64 z))) hx12 E E E E E E)<|bK h13 fun x14 hx14 h15=>Kdl hΓ 1 E<|gl_o E (Klc hΓ hx14 E E E E E E)<|gl_o E (Kld hΓ (f:=fun z=>.d (.v (.int .i64 z))) hx14 E E E E E E)<|Kdl hΓ 3 E<|jC E h15 (fun h16=>?_) fun h25=>gA 8 E<|oSi h25▸⟨_,E,⟨⟨E,E,E,tV⟩,[],E,.inl E⟩⟩
   refine gA 1 E<|jD<|bK h16 fun x17 hx17 h18=>gA 1 E<|gl_o E (Klc hΓ hx17 E E E E E E)<|gl_o E (Kld hΓ (f:=fun z=>.d (.v (.int .i64 z))) hx17 E E E E E E)<|bK h18 fun x19 hx19 h20=>Kdl hΓ 1 E<|gl_o E (Klc hΓ hx19 E E E E E E)<|gl_o E (Kld hΓ (f:=fun z=>.d (.v (.int .i64 z))) hx19 E E E E E E)<|bK h20 fun y21 hy21 h22=>Kdl hΓ 1 E<|Kez C (Lhk hy21) E E E E E E<|Kdl hΓ 6 E<|bK h22 fun v23 hv23 h24=>?_
   cases h24
   obtain rfl:=hout9 _ rfl
   cases h5
   exact gA 4 E<|oSi hv23▸gP E E
  cases h26
  obtain rfl:=hout9 _ rfl
  exact⟨_,E,⟨tV,[],E,.inl E⟩⟩
 intro a6 ha
 subst ha
 replace h5:=Khw h5
 exact gA 7 E<|oSi h5▸gP E E
theorem Lhm{k:Nat}{a:Kxe}{b:Kxe}{r:Int}(h:Kzl k a b=some r):Pure Tryz.prog 82 [.agg (gh a),.agg (gh b)] (I r):=by
 unfold Kzl at h
 exact QP Tryz.func82 E E E<|gA 2 E<|Kqo E E E E Z<|Kqo E E E E Z<|gO 4 E<|jD<|bK h fun y1 hy1 h2=>gA 1 E<|Kez C (Lgh hy1) E E E E E E<|bK h2 fun y3 hy3 h4=>Kdl hΓ 1 E<|Kez C (Lgh hy3) E E E E E E<|bK h4 fun y5 hy5 h6=>Kez C (Lhl hy5) E E E E E E<|Kdl hΓ 4 E<|oSi h6▸gP E E
theorem Lhn{x:Int}{r:Bool}(h:Kzm x=some r):Pure Tryz.prog 192 [I x] (B r):=by
 unfold Kzm at h
 exact QP Tryz.func192 E E E<|gA 14 E<|oSi h▸gP E E
theorem Lho{x:Int}{y:Int}{r:Int}(h:Kzn x y=some r):Pure Tryz.prog 135 [I x,I y] (I r):=by
 unfold Kzn at h
 refine QP Tryz.func135 E E E<|bK h fun y1 hy1 h2=>gA 8 E<|Kex C (Lhn hy1) E Z E E E E E<|bK h2 fun y3 hy3 h4=>gO 6 E<|Kex C (Lhn hy3) E Z E E E E E<|gO 9 E<|jC E h4 (fun h5=>?_) fun h8=>gA 8 E<|jC E h8 (fun h9=>?_) fun h10=>?_
 ·refine gA 6 E<|jC E h5 (fun h6=>?_) fun h7=>gA 9 E<|oSi h7▸gP E E
  exact gA 8 E<|oSi h6▸gP E E
 ·exact gA 7 E<|oSi h9▸gP E E
 refine gA 10 E<|jC E h10 (fun h11=>?_) fun h12=>gA 10 E<|jC E h12 (fun h13=>?_) fun h14=>?_
 ·exact gA 7 E<|oSi h11▸gP E E
 ·exact gA 7 E<|oSi h13▸gP E E
 exact gA 8 E<|oSi h14▸gP E E
theorem Lhp{s1:List Int}{s2:List Int}{r:Int}(h:Kzo s1 s2=some r):Pure Tryz.prog 83 [.d (Sl (eN .i64) s1),.d (Sl (eN .i64) s2)] (I r):=by
 unfold Kzo at h
 refine QP Tryz.func83 E E E<|gA 13 E<|bK h fun q5 hq5 h6=>Kef 0 E fun hb8=>Kic (R:=fun a7=>q5=.go a7) (fun a7=>[(0,.d (Sl (eN .i64) s1)),(1,.d (Sl (eN .i64) s2))]) (fun a7=>[]) ?_ ?_
 ·refine gA 1 E<|Kee s1 hq5 (fun i1 s3=>[(0,.d (Sl (eN .i64) s1)),(1,.d (Sl (eN .i64) s2)),(9,.d (Sl (eN .i64) s1)),(10,I (s1.length:Int)),(11,I (i1:Int))]) (fun s3=>[]) ⟨⟨E,E,E,E,E,tV⟩,[],E,.inl E⟩ (fun i1 x4 s3 y12 hx9 hlt hy10 hout11=>?_) (fun s3 hgo=>?_)
  ·refine gA 6 E<|Kdo E (dT (Int.ofNat_lt.2 hlt))<|gA 7 E<|eo_o E (Keg hΓ (enc:=(eN .i64)) (Kdz hx9) E E E E E (fun _=>E))<|gO 14 E<|jC E hy10 (fun h13=>?_) fun h16=>bK h16 fun x17 hx17 h18=>gA 6 E<|eo_o E (Keg hΓ (enc:=(eN .i64)) hx17 E E E E E (fun _=>E))<|bK h18 fun y19 hy19 h20=>gO 8 E<|Kex C (Lho hy19) E Z E E E E E<|gO 9 E<|jC E h20 (fun h21=>?_) fun h24=>?_
   ·refine gA 9 E<|bK h13 fun v14 hv14 h15=>?_
    cases h15
    obtain rfl:=hout11 _ rfl
    cases h6
    exact gA 4 E<|oSi hv14▸gP E E
   ·refine gA 9 E<|bK h21 fun v22 hv22 h23=>?_
    cases h23
    obtain rfl:=hout11 _ rfl
    cases h6
    exact gA 4 E<|oSi hv22▸gP E E
   refine gA 7 E ?_
   cases h24
   exact⟨_,E,⟨⟨E,E,E,E,Kcs E (Kcr (nLl hlt hb8)),tV⟩,[],E,.inl E⟩⟩
  subst hgo
  exact gA 6 E<|Kdp E (dF (Int.lt_irrefl _))<|gA 4 E<|⟨_,E,⟨⟨E,E,tV⟩,[],E,.inl E⟩⟩
 intro a7 ha
 subst ha
 replace h6:=Khx h6
 refine gA 11 E<|jC E h6 (fun h25=>?_) fun h26=>gA 8 E<|oSi h26▸gP E E
 exact gA 7 E<|oSi h25▸gP E E
end Go.Proofs.YtcihhlhmkcaeeaaGreatDoor
