import Derived.Test.YtmecneoeklldeaaGreatDoorXTM
import Derived.Test.YtmecneoeklldeaaGreatDoorGt
import Derived.Test.YtmecneoeklldeaaGreatDoorStr
import Derived.Test.YtmecneoeklldeaaGreatDoorStr9
import Derived.Test.YtmecneoeklldeaaGreatDoorStrC
import Derived.Test.YtmecneoeklldeaaGreatDoorStrN
import Derived.Test.YtmecneoeklldeaaGreatDoorBld
import Derived.Test.YtmecneoeklldeaaGreatDoorRpT
import Derived.Test.YtmecneoeklldeaaGreatDoorGk62
set_option maxHeartbeats 8000000
set_option linter.all false
set_option maxRecDepth 100000
namespace Go.Proofs.YtmecneoeklldeaaGreatDoor
open Go.Gk
theorem E.{u}{α:Sort u}{a:α}:a=a:=rfl
theorem Z{n m:Nat}(h:Nat.ble n m=true:=by exact rfl):n≤m:=nBe h
theorem C{f:FuncId}{fn:Func}(h:Tryz.prog.funcs[f]?=some fn:=by exact rfl)(h1:fn.body.isNone=false:=by exact rfl)(h2:(fn.name== "runtime.NumGoroutine")=false:=by exact rfl):Callable Tryz.prog f:=Leo h h1 h2
theorem bK{α β:Type}{x:Option α}{f:α→Option β}{r:β}{G:Prop}(h:bi x f=some r)(k:∀ a,x=some a→f a=some r→G):G:=let⟨a,b,c⟩:=Kgg h;k a b c
theorem gK{α:Type}{c:Bool}{x:Option α}{r:α}{G:Prop}(h:gd c x=some r)(k:c=true→x=some r→G):G:=let⟨a,b⟩:=Kgh h;k a b
section
variable{F N:Nat}{Q:GPost}{fr fr':Fr}{hp:List Ob}{ks:List Kt}
theorem jC{P:Program}{t:Tmp}{x y:Code}{b:Bool}{α:Type}{u v r:α}(hb:fr.get t=some (.d (.v (.bool b))))(h:(bif b then u else v)=r)(h1:u=r→St.holds P F N Q (.code x ks) fr hp)(h2:v=r→St.holds P F N Q (.code y ks) fr hp):St.holds P F N Q (.code (.cond (.tmp t) x y) ks) fr hp:=Kfz hb (fun e=>h1 (cT h e)) fun e=>h2 (cF h e)
theorem gA(n:Nat){st st':St}(h:mrun Γ N hp n st fr=(st',fr'))(k:St.holds Tryz.prog F N Q st' fr' hp):St.holds Tryz.prog F N Q st fr hp:=go hΓ n h k
theorem gO(n:Nat){full:Array Oper}{l:List Oper}{st':St}(h:mrun Γ N hp n (.ops full l ks) fr=(st',fr'))(k:St.holds Tryz.prog F N Q st' fr' hp):EO Tryz.prog F N full l (stk Tryz.prog F N Q ks) fr hp:=Kfw hΓ n h k
theorem jD{id:Nat}{ops:Array Oper}(h:St.holds Tryz.prog F N Q (.draw ops ops.toList ks) fr hp)(hB:Region.lexB .any ops=true:=by kernel_rfl):St.holds Tryz.prog F N Q (.code (.region id ops true) ks) fr hp:=Kgc hmix hB h
theorem QN{f:FuncId}{fn:Func}{c:Code}{gs:List G}{R:G→List Ob→Prop}(hf:Tryz.prog.funcs[f]?=some fn)(hb:fn.body=some c)(hN:gs.length≤fn.ntmps)(h:St.holds Tryz.prog hp.length fn.ntmps (Ret Tryz.prog fn hp.length R) (.code c []) (Fr.of 0 gs) hp):EC Tryz.prog f gs hp R:=Kng (Fr.of 0 gs) hf hb (Fr.of_ok gs) hN fun _=>Kfy h
theorem QM{f:FuncId}{fn:Func}{c:Code}{gs:List G}{R:G→List Ob→Prop}(hf:Tryz.prog.funcs[f]?=some fn)(hb:fn.body=some c)(hN:gs.length≤fn.ntmps)(h:St.holds Tryz.prog hp.length fn.ntmps (fun e fr hp'=>Cv hp.length fn.ntmps (fun fr2 hp2=>Ret Tryz.prog fn hp.length R e fr2 hp2) fr hp') (.code c []) (Fr.of 0 gs) hp):EC Tryz.prog f gs hp R:=Kku (Fr.of 0 gs) hf hb (Fr.of_ok gs) hN fun _=>Kfy h
theorem QP{f:FuncId}{fn:Func}{c:Code}{gs:List G}{r:G}(hf:Tryz.prog.funcs[f]?=some fn)(hb:fn.body=some c)(hN:Nat.ble gs.length fn.ntmps=true)(hr:r.bel 0=true)(h:St.holds Tryz.prog 0 fn.ntmps (fun e fr hp=>(e=.normal∨e=.ret)∧Res Tryz.prog fn fr hp r) (.code c []) (Fr.of 0 gs) []):Pure Tryz.prog f gs r:=Pure.enter (Fr.of 0 gs) hf hb (Fr.of_ok gs) hN hr (Kfy h)
theorem gP{fn:Func}{gs:List G}{g:G}(h:resAll Γ fr hp fn.results.toList=some gs)(hg:retG gs=g):(Exit.ret=.normal∨Exit.ret=.ret)∧Res Tryz.prog fn fr hp g:=Khq hΓ (.inr rfl) h hg
end
abbrev Lbu(x:Kxb):List D:=[Sl (eN .i64) x.L,.v (.int .i64 x.v_at)]
abbrev Lbv(x:Kxc):List D:=[.v (.int .i64 x.Kind),.v (.int .i64 x.Number),.v (.string ⟨x.Words.toArray⟩),.v (.int .i64 x.Version.1),.v (.int .i64 x.Version.2.1),.v (.int .i64 x.Version.2.2.1),.v (.int .i64 x.Version.2.2.2)]
abbrev Lbw(x:Kxd):List D:=[.v (.int .i64 x.At),.v (.string ⟨x.Node.toArray⟩),.v (.string ⟨x.Name.toArray⟩),.v (.int .i64 x.Value.Kind),.v (.int .i64 x.Value.Number),.v (.string ⟨x.Value.Words.toArray⟩),.v (.int .i64 x.Value.Version.1),.v (.int .i64 x.Value.Version.2.1),.v (.int .i64 x.Value.Version.2.2.1),.v (.int .i64 x.Value.Version.2.2.2)]
abbrev Lbx(x:Kxe):List D:=[.v (.string ⟨x.kind.toArray⟩),.v (.int .i64 x.v_at),.v (.int .i64 x.v_end),.v (.string ⟨x.name.toArray⟩),.v (.int .i64 x.value.Kind),.v (.int .i64 x.value.Number),.v (.string ⟨x.value.Words.toArray⟩),.v (.int .i64 x.value.Version.1),.v (.int .i64 x.value.Version.2.1),.v (.int .i64 x.value.Version.2.2.1),.v (.int .i64 x.value.Version.2.2.2)]
abbrev Lby(x:Kxf):List D:=[.v (.string ⟨x.kind.toArray⟩),.v (.int .i64 x.v_at),.v (.string ⟨x.name.toArray⟩),.v (.int .i64 x.value.Kind),.v (.int .i64 x.value.Number),.v (.string ⟨x.value.Words.toArray⟩),.v (.int .i64 x.value.Version.1),.v (.int .i64 x.value.Version.2.1),.v (.int .i64 x.value.Version.2.2.1),.v (.int .i64 x.value.Version.2.2.2)]
abbrev Lbz(x:Kxg):List D:=[.v (.string ⟨x.s.toArray⟩),.v (.int .i64 x.v_at),.v (.string ⟨x.v_next.kind.toArray⟩),.v (.int .i64 x.v_next.v_at),.v (.string ⟨x.v_next.name.toArray⟩),.v (.int .i64 x.v_next.value.Kind),.v (.int .i64 x.v_next.value.Number),.v (.string ⟨x.v_next.value.Words.toArray⟩),.v (.int .i64 x.v_next.value.Version.1),.v (.int .i64 x.v_next.value.Version.2.1),.v (.int .i64 x.v_next.value.Version.2.2.1),.v (.int .i64 x.v_next.value.Version.2.2.2),.v (.int .i64 x.fault)]
abbrev Lca(x:Kxh):List D:=[.v (.string ⟨x.s.toArray⟩),.v (.string ⟨x.tok.kind.toArray⟩),.v (.int .i64 x.tok.v_at),.v (.int .i64 x.tok.v_end),.v (.string ⟨x.tok.name.toArray⟩),.v (.int .i64 x.tok.value.Kind),.v (.int .i64 x.tok.value.Number),.v (.string ⟨x.tok.value.Words.toArray⟩),.v (.int .i64 x.tok.value.Version.1),.v (.int .i64 x.tok.value.Version.2.1),.v (.int .i64 x.tok.value.Version.2.2.1),.v (.int .i64 x.tok.value.Version.2.2.2),.v (.bool x.bad),.v (.int .i64 x.v_at)]
abbrev rO{α:Type}(t:TypeId)(z:Nat)(e:α→List D)(l:List α):Ob:=.row t z l.length (l.flatMap e)
abbrev fQ(s:Kxb):List G:=[.d (Sl (eN .i64) s.L),I s.v_at]
theorem Lcb{x:Int}{n:Int}{r:Int}(h:Kxk x n=some r):Pure Tryz.prog 65 [I x,I n] (I r):=by
 unfold Kxk at h
 refine QP Tryz.func65 E E E<|gA 12 E<|jC E h (fun h1=>?_) fun h2=>bK h2 fun y3 hy3 h4=>gA 6 E<|eo_o E (Khp hy3 E E)<|bK h4 fun q5 hq5 h6=>gO 10 E<|Kjy [(0,I q5)] [] ?_ ?_
 ·exact gA 7 E<|oSi h1▸gP E E
 ·refine jC E hq5 (fun h7=>?_) fun h8=>gA 1 E<|oSi h8▸⟨⟨E,tV⟩,[],E,.inl E⟩
  exact gA 6 E<|oSi h7▸⟨⟨E,tV⟩,[],E,.inl E⟩
 exact gA 8 E<|oSi h6▸gP E E
theorem Lcc{s:Kxb}{n:Int}{r:Int×Kxb}(h:Kxl s n=some r):EC Tryz.prog 23 [.ptr 0 0,I n] [.box 25 (fQ s)] fun g hp'=>g=I r.1∧hp'=[.box 25 (fQ r.2)]:=by
 unfold Kxl at h
 refine QN Tryz.func23 E Z<|gA 14 E<|Kpa hΓ E E E E E E E E Z<|Khk [.box 25 [.d (Sl (eN .i64) s.L),I (wi (s.v_at+1))]] E<|gO 13 E<|jC E h (fun h1=>?_) fun h4=>gA 3 E<|jD<|bK h4 fun y5 hy5 h6=>gA 10 E<|gl_o E (Khp hy5 E E)<|Kfx hΓ 4 E<|jD<|bK h6 fun y7 hy7 h8=>gA 10 E<|gl_o E (Kho hy7 E E)<|bK h8 fun x9 hx9 h10=>Kfx hΓ 10 E<|eo_o E (Kgq hΓ (enc:=(eN .i64)) hx9 E E E E E (fun _=>E))<|bK h10 fun y11 hy11 h12=>gO 1 E<|Khd C (Lcb hy11) E Z E E E E E<|bK h12 fun y13 hy13 h14=>gO 6 E<|Khd C (Lcb hy13) E Z E E E E E<|gO 4 E<|oSi h14▸Khr hΓ [] (.inr E) E E E E (.inl E)
 exact bK h1 fun y2 hy2 h3=>gA 8 E<|Khd C (Lcb hy2) E Z E E E E E<|gO 5 E<|oSi h3▸Khr hΓ [] (.inr E) E E E E (.inl E)
theorem Lcd{s:Kxb}{low:Int}{high:Int}{r:Int×Kxb}(h:Kxm s low high=some r):EC Tryz.prog 6 [.ptr 0 0,I low,I high] [.box 25 (fQ s)] fun g hp'=>g=I r.1∧hp'=[.box 25 (fQ r.2)]:=by
 unfold Kxm at h
 refine QN Tryz.func6 E Z<|gA 13 E<|jC E h (fun h1=>?_) fun h2=>bK h2 fun y3 hy3 h4=>gA 10 E<|Khc [0] (I y3.1) [.box 25 (fQ y3.2)] C (Lcc hy3) E Z E E E E E E E E E E<|gO 5 E<|oSi h4▸Khr hΓ [] (.inr E) E E E E (.inl E)
 exact gA 8 E<|oSi h1▸Khr hΓ [] (.inr E) E E E E (.inl E)
theorem Lce{s:Kxb}{n:Int}{r:Bool×Kxb}(h:Kxn s n=some r):EC Tryz.prog 24 [.ptr 0 0,I n] [.box 25 (fQ s)] fun g hp'=>g=B r.1∧hp'=[.box 25 (fQ r.2)]:=by
 unfold Kxn at h
 exact QN Tryz.func24 E Z<|bK h fun y1 hy1 h2=>gA 9 E<|Khc [0] (I y1.1) [.box 25 (fQ y1.2)] C (Lcc hy1) E Z E E E E E E E E E E<|gO 5 E<|oSi h2▸Khr hΓ [] (.inr E) E E E E (.inl E)
theorem Lcf{s:Kxb}{l:List Str}{r:Str×Kxb}(h:Kxo s l=some r):EC Tryz.prog 25 [.ptr 0 0,.d (Sl eS l)] [.box 25 (fQ s)] fun g hp'=>g=S r.1∧hp'=[.box 25 (fQ r.2)]:=by
 unfold Kxo at h
 exact QN Tryz.func25 E Z<|bK h fun y1 hy1 h2=>gA 11 E<|Khc [0] (I y1.1) [.box 25 (fQ y1.2)] C (Lcc hy1) E Z E E E E E E E E E E<|bK h2 fun x3 hx3 h4=>eo_o E (Kgq hΓ (enc:=eS) hx3 E E E E E (fun _=>E))<|gO 5 E<|oSi h4▸Khr hΓ [] (.inr E) E E E E (.inl E)
theorem Lcg{s:Kxb}{l:List Int}{r:Int×Kxb}(h:Kxp s l=some r):EC Tryz.prog 26 [.ptr 0 0,.d (Sl (eN .i64) l)] [.box 25 (fQ s)] fun g hp'=>g=I r.1∧hp'=[.box 25 (fQ r.2)]:=by
 unfold Kxp at h
 exact QN Tryz.func26 E Z<|bK h fun y1 hy1 h2=>gA 11 E<|Khc [0] (I y1.1) [.box 25 (fQ y1.2)] C (Lcc hy1) E Z E E E E E E E E E E<|bK h2 fun x3 hx3 h4=>eo_o E (Kgq hΓ (enc:=(eN .i64)) hx3 E E E E E (fun _=>E))<|gO 5 E<|oSi h4▸Khr hΓ [] (.inr E) E E E E (.inl E)
theorem Lch{s:Kxb}{low:Int}{high:Int}{r:Int×Kxb}(h:Kxq s low high=some r):EC Tryz.prog 28 [.ptr 0 0,I low,I high] [.box 25 (fQ s)] fun g hp'=>g=I r.1∧hp'=[.box 25 (fQ r.2)]:=by
 unfold Kxq at h
 refine QN Tryz.func28 E Z<|bK h fun y1 hy1 h2=>gA 9 E<|Khc [0] (B y1.1) [.box 25 (fQ y1.2)] C (Lce hy1) E Z E E E E E E E E E E<|gO 2 E<|jC E h2 (fun h3=>?_) fun h6=>bK h6 fun y7 hy7 h8=>gA 7 E<|Khc [0] (I y7.1) [.box 25 (fQ y7.2)] C (Lcd hy7) E Z E E E E E E E E E E<|gO 4 E<|oSi h8▸Khr hΓ [] (.inr E) E E E E (.inl E)
 exact gA 9 E<|Kgx hΓ (enc:=(eN .i64)) [wi (low - 1),wi (high+1),low,high,-1099511627776,1099511627776] E E E E E E E E E E E E Z<|bK h3 fun y4 hy4 h5=>Khc [0] (I y4.1) [.box 25 (fQ y4.2)] C (Lcg hy4) E Z E E E E E E E E E E<|gO 5 E<|oSi h5▸Khr hΓ [] (.inr E) E E E E (.inl E)
theorem Lci{s:Kxb}{r:Kxc×Kxb}(h:Kxr s=some r):EC Tryz.prog 27 [.ptr 0 0] [.box 25 (fQ s)] fun g hp'=>g=.agg [I r.1.Kind,I r.1.Number,S r.1.Words,I r.1.Version.1,I r.1.Version.2.1,I r.1.Version.2.2.1,I r.1.Version.2.2.2]∧hp'=[.box 25 (fQ r.2)]:=by
 unfold Kxr at h
 refine QN Tryz.func27 E Z<|gA 2 E<|Kov hΓ E E E Z<|gO 5 E<|Kgx hΓ (enc:=(eN .i64)) [1,1,2,2,3,4] E E E E E E E E E E E E Z<|bK h fun y1 hy1 h2=>Khc [0] (I y1.1) [.box 25 (fQ y1.2),.box 40 [I 0,I 0,S [],I 0,I 0,I 0,I 0]] C (Lcg hy1) E Z E E E E E E E E E E<|Keg hΓ (gs:=[I y1.1,I 0,S [],I 0,I 0,I 0,I 0]) E E E E E E E<|Kov hΓ E E E Z<|Kpa hΓ E E E E E E E E Z<|Khk [.box 25 (fQ y1.2),.box 40 [I 0,I 0,S [],I 0,I 0,I 0,I 0],.box 40 [I y1.1,I 0,S [],I 0,I 0,I 0,I 0]] E<|bK h2 fun q3 hq3 h4=>gO 9 E<|Kjy [(0,.ptr 0 0),(2,.ptr 1 0),(3,.ptr 2 0)] [.box 25 (fQ q3.1),.box 40 [I 0,I 0,S [],I 0,I 0,I 0,I 0],.box 40 [I q3.2.Kind,I q3.2.Number,S q3.2.Words,I q3.2.Version.1,I q3.2.Version.2.1,I q3.2.Version.2.2.1,I q3.2.Version.2.2.2]] ?_ ?_
 ·refine gA 7 E<|jC E hq3 (fun h5=>?_) fun h8=>gA 6 E<|jC E h8 (fun h9=>?_) fun h12=>?_
  ·exact gA 2 E<|Kgx hΓ (enc:=(eN .i64)) [0,5,12,-3,100000000] E E E E E E E E E E E E Z<|bK h5 fun y6 hy6 h7=>Khc [0] (I y6.1) [.box 25 (fQ y6.2),.box 40 [I 0,I 0,S [],I 0,I 0,I 0,I 0],.box 40 [I y1.1,I 0,S [],I 0,I 0,I 0,I 0]] C (Lcg hy6) E Z E E E E E E E E E E<|gO 1 E<|Kpa hΓ E E E E E E E E Z<|Khk [.box 25 (fQ y6.2),.box 40 [I 0,I 0,S [],I 0,I 0,I 0,I 0],.box 40 [I y1.1,I y6.1,S [],I 0,I 0,I 0,I 0]] E<|gO 2 E<|oSi h7▸⟨⟨E,E,E,tV⟩,[],E,.inl E⟩
  ·exact gA 2 E<|Kgx hΓ (enc:=eS) [[108,105,110,117,120],[109,97,99],[],[97,32,34,98,92],[119,105,110]] E E E E E E E E E E E E Z<|bK h9 fun y10 hy10 h11=>Khc [0] (S y10.1) [.box 25 (fQ y10.2),.box 40 [I 0,I 0,S [],I 0,I 0,I 0,I 0],.box 40 [I y1.1,I 0,S [],I 0,I 0,I 0,I 0]] C (Lcf hy10) E Z E E E E E E E E E E<|gO 1 E<|Kpa hΓ E E E E E E E E Z<|Khk [.box 25 (fQ y10.2),.box 40 [I 0,I 0,S [],I 0,I 0,I 0,I 0],.box 40 [I y1.1,I 0,S y10.1,I 0,I 0,I 0,I 0]] E<|gO 2 E<|oSi h11▸⟨⟨E,E,E,tV⟩,[],E,.inl E⟩
  refine gA 6 E<|jC E h12 (fun h13=>?_) fun h16=>gA 2 E<|Kgx hΓ (enc:=(eN .i64)) [0,2,12] E E E E E E E E E E E E Z<|bK h16 fun y17 hy17 h18=>Khc [0] (I y17.1) [.box 25 (fQ y17.2),.box 40 [I 0,I 0,S [],I 0,I 0,I 0,I 0],.box 40 [I y1.1,I 0,S [],I 0,I 0,I 0,I 0]] C (Lcg hy17) E Z E E E E E E E E E E<|gO 1 E<|Kgx hΓ (enc:=(eN .i64)) [0,3] E E E E E E E E E E E E Z<|bK h18 fun y19 hy19 h20=>Khc [0] (I y19.1) [.box 25 (fQ y19.2),.box 40 [I 0,I 0,S [],I 0,I 0,I 0,I 0],.box 40 [I y1.1,I 0,S [],I 0,I 0,I 0,I 0]] C (Lcg hy19) E Z E E E E E E E E E E<|eo_o E (Kkl hΓ (gs:=[I 1,I y17.1,I y19.1,I 0]) E E E E E E)<|gO 1 E<|Kpa hΓ E E E E E E E E Z<|Khk [.box 25 (fQ y19.2),.box 40 [I 0,I 0,S [],I 0,I 0,I 0,I 0],.box 40 [I y1.1,I 0,S [],I 1,I y17.1,I y19.1,I 0]] E<|gO 2 E<|oSi h20▸⟨⟨E,E,E,tV⟩,[],E,.inl E⟩
  exact bK h13 fun y14 hy14 h15=>gA 2 E<|Khc [0] (I y14.1) [.box 25 (fQ y14.2),.box 40 [I 0,I 0,S [],I 0,I 0,I 0,I 0],.box 40 [I y1.1,I 0,S [],I 0,I 0,I 0,I 0]] C (Lcc hy14) E Z E E E E E E E E E E<|gO 1 E<|Kpa hΓ E E E E E E E E Z<|Khk [.box 25 (fQ y14.2),.box 40 [I 0,I 0,S [],I 0,I 0,I 0,I 0],.box 40 [I y1.1,I y14.1,S [],I 0,I 0,I 0,I 0]] E<|gO 2 E<|oSi h15▸⟨⟨E,E,E,tV⟩,[],E,.inl E⟩
 refine bK h4 fun y21 hy21 h22=>gA 5 E<|Khc [0] (B y21.1) [.box 25 (fQ y21.2),.box 40 [I 0,I 0,S [],I 0,I 0,I 0,I 0],.box 40 [I q3.2.Kind,I q3.2.Number,S q3.2.Words,I q3.2.Version.1,I q3.2.Version.2.1,I q3.2.Version.2.2.1,I q3.2.Version.2.2.2]] C (Lce hy21) E Z E E E E E E E E E E<|bK h22 fun q23 hq23 h24=>gO 2 E<|Kjy [(2,.ptr 1 0),(3,.ptr 2 0)] [.box 25 (fQ q23.1),.box 40 [I 0,I 0,S [],I 0,I 0,I 0,I 0],.box 40 [I q23.2.Kind,I q23.2.Number,S q23.2.Words,I q23.2.Version.1,I q23.2.Version.2.1,I q23.2.Version.2.2.1,I q23.2.Version.2.2.2]] ?_ ?_
 ·refine jC E hq23 (fun h25=>?_) fun h32=>gA 1 E<|oSi h32▸⟨⟨E,E,tV⟩,[],E,.inl E⟩
  exact bK h25 fun y26 hy26 h27=>gA 2 E<|Khc [0] (I y26.1) [.box 25 (fQ y26.2),.box 40 [I 0,I 0,S [],I 0,I 0,I 0,I 0],.box 40 [I q3.2.Kind,I q3.2.Number,S q3.2.Words,I q3.2.Version.1,I q3.2.Version.2.1,I q3.2.Version.2.2.1,I q3.2.Version.2.2.2]] C (Lch hy26) E Z E E E E E E E E E E<|bK h27 fun y28 hy28 h29=>gO 1 E<|Khd C (Ksc hy28) E Z E E E E E<|Kgx hΓ (enc:=eS) [[],[120],[195,169],y28] E E E E E E E E E E E E Z<|bK h29 fun y30 hy30 h31=>Khc [0] (S y30.1) [.box 25 (fQ y30.2),.box 40 [I 0,I 0,S [],I 0,I 0,I 0,I 0],.box 40 [I q3.2.Kind,I q3.2.Number,S q3.2.Words,I q3.2.Version.1,I q3.2.Version.2.1,I q3.2.Version.2.2.1,I q3.2.Version.2.2.2]] C (Lcf hy30) E Z E E E E E E E E E E<|gO 1 E<|Kpa hΓ E E E E E E E E Z<|Khk [.box 25 (fQ y30.2),.box 40 [I 0,I 0,S [],I 0,I 0,I 0,I 0],.box 40 [I q3.2.Kind,I y26.1,S q3.2.Words,I q3.2.Version.1,I q3.2.Version.2.1,I q3.2.Version.2.2.1,I q3.2.Version.2.2.2]] E<|gO 1 E<|Kpa hΓ E E E E E E E E Z<|Khk [.box 25 (fQ y30.2),.box 40 [I 0,I 0,S [],I 0,I 0,I 0,I 0],.box 40 [I q3.2.Kind,I y26.1,S y30.1,I q3.2.Version.1,I q3.2.Version.2.1,I q3.2.Version.2.2.1,I q3.2.Version.2.2.2]] E<|gO 1 E<|oSi h31▸⟨⟨E,E,tV⟩,[],E,.inl E⟩
 exact gA 4 E<|Kpa hΓ E E E E E E E E Z<|Khk [.box 25 (fQ q23.1),.box 40 [I q23.2.Kind,I q23.2.Number,S q23.2.Words,I q23.2.Version.1,I q23.2.Version.2.1,I q23.2.Version.2.2.1,I q23.2.Version.2.2.2],.box 40 [I q23.2.Kind,I q23.2.Number,S q23.2.Words,I q23.2.Version.1,I q23.2.Version.2.1,I q23.2.Version.2.2.1,I q23.2.Version.2.2.2]] E<|gO 3 E<|oSi h24▸Khr hΓ [_,_] (.inr E) E E E E (.inr ⟨HB.mk E,E⟩)
theorem Lcj{s:Kxb}{many:Int}{r:(List Kxd)×Kxb}(h:Kxs s many=some r):EC Tryz.prog 5 [.ptr 0 0,I many] [.box 25 (fQ s)] fun g hp'=>g=.sl 1 r.1.length∧hp'=[.box 25 (fQ r.2),rO 42 10 Lbw r.1]:=by
 unfold Kxs at h
 refine QM Tryz.func5 E Z<|gA 7 E<|Kha (t:=0) 42 10 E Z<|bK h fun y1 hy1 h2=>gO 5 E<|Khc [0] (I y1.1) [.box 25 (fQ y1.2),rO 42 10 Lbw ([]:List Kxd)] C (Lcc hy1) E Z E E E E E E E E E E<|gO 10 E<|bK h2 fun q6 hq6 h7=>gK hq6 fun hb9 h10=>?_
 replace hb9:=of_decide_eq_true hb9
 refine Kjy [(0,.ptr 0 0),(5,.sl 1 q6.2.1.length)] [.box 25 (fQ q6.1),rO 42 10 Lbw q6.2.1] ?_ ?_
 ·refine gA 1 E<|Khv h10 (fun i3 s4=>[(0,.ptr 0 0),(5,.sl 1 s4.2.1.length),(6,I s4.2.2),(14,I many),(15,I (i3:Int))]) (fun s4=>[.box 25 (fQ s4.1),rO 42 10 Lbw s4.2.1]) ⟨⟨E,E,E,E,E,tV⟩,[],E,.inl E⟩ (fun i3 s4 y14 hlt hy12=>?_) (fun hge=>?_)
  ·refine gA 6 E<|Kga E (dT hlt)<|gA 7 E<|Kgx hΓ (enc:=eS) [[110,97],[110,98]] E E E E E E E E E E E E Z<|gO 4 E<|bK hy12 fun q18 hq18 h19=>Kgp 17 E fun hb21=>Kjy [(0,.ptr 0 0),(5,.sl 1 q18.2.length),(6,I s4.2.2),(14,I many),(15,I (i3:Int))] [.box 25 (fQ q18.1),rO 42 10 Lbw q18.2] ?_ ?_
   ·refine gA 1 E<|Kht [[110,97],[110,98]] hq18 (fun i15 s16=>[(0,.ptr 0 0),(5,.sl 1 s16.2.length),(6,I s4.2.2),(14,I many),(15,I (i3:Int)),(17,.d (Sl eS [[110,97],[110,98]])),(18,I ([[110,97],[110,98]].length:Int)),(19,I (i15:Int))]) (fun s16=>[.box 25 (fQ s16.1),rO 42 10 Lbw s16.2]) ⟨⟨E,E,E,E,E,E,E,E,tV⟩,[],E,.inl E⟩ (fun i15 x17 s16 y25 hx22 hlt hy23=>?_) (?_)
    ·refine gA 6 E<|Kga E (dT (Int.ofNat_lt.2 hlt))<|gA 6 E<|eo_o E (Kgq hΓ (enc:=eS) (Kgj hx22) E E E E E (fun _=>E))<|gO 6 E<|Kgx hΓ (enc:=eS) [[100,105,115,107],[111,115],[118,101,114,115,105,111,110]] E E E E E E E E E E E E Z<|gO 4 E<|bK hy23 fun q29 hq29 h30=>Kgp 23 E fun hb32=>Kjy [(0,.ptr 0 0),(5,.sl 1 q29.2.length),(6,I s4.2.2),(14,I many),(15,I (i3:Int)),(17,.d (Sl eS [[110,97],[110,98]])),(18,I ([[110,97],[110,98]].length:Int)),(19,I (i15:Int))] [.box 25 (fQ q29.1),rO 42 10 Lbw q29.2] ?_ ?_
     ·refine gA 1 E<|Kht [[100,105,115,107],[111,115],[118,101,114,115,105,111,110]] hq29 (fun i26 s27=>[(0,.ptr 0 0),(5,.sl 1 s27.2.length),(6,I s4.2.2),(8,S x17),(14,I many),(15,I (i3:Int)),(17,.d (Sl eS [[110,97],[110,98]])),(18,I ([[110,97],[110,98]].length:Int)),(19,I (i15:Int)),(23,.d (Sl eS [[100,105,115,107],[111,115],[118,101,114,115,105,111,110]])),(24,I ([[100,105,115,107],[111,115],[118,101,114,115,105,111,110]].length:Int)),(25,I (i26:Int))]) (fun s27=>[.box 25 (fQ s27.1),rO 42 10 Lbw s27.2]) ⟨⟨E,E,E,E,E,E,E,E,E,E,E,E,tV⟩,[],E,.inl E⟩ (fun i26 x28 s27 y36 hx33 hlt hy34=>?_) (?_)
      ·refine gA 6 E<|Kga E (dT (Int.ofNat_lt.2 hlt))<|gA 6 E<|eo_o E (Kgq hΓ (enc:=eS) (Kgj hx33) E E E E E (fun _=>E))<|bK hy34 fun y37 hy37 h38=>gO 8 E<|Khc [0] (B y37.1) [.box 25 (fQ y37.2),rO 42 10 Lbw s27.2] C (Lce hy37) E Z E E E E E E E E E E<|gO 3 E<|jC E h38 (fun h39=>?_) fun h40=>gA 7 E<|Keg hΓ (gs:=[I s4.2.2,S x17,S x28,I 0,I 0,S [],I 0,I 0,I 0,I 0]) E E E E E E E<|Kov hΓ E E E Z<|Kpa hΓ E E E E E E E E Z<|Khk [.box 25 (fQ y37.2),rO 42 10 Lbw s27.2,.box 42 [I s4.2.2,S x17,S x28,I 0,I 0,S [],I 0,I 0,I 0,I 0]] E<|bK h40 fun q41 hq41 h42=>gO 8 E<|Kjy [(0,.ptr 0 0),(5,.sl 1 s27.2.length),(6,I s4.2.2),(8,S x17),(11,.ptr 2 0),(14,I many),(15,I (i3:Int)),(17,.d (Sl eS [[110,97],[110,98]])),(18,I ([[110,97],[110,98]].length:Int)),(19,I (i15:Int)),(23,.d (Sl eS [[100,105,115,107],[111,115],[118,101,114,115,105,111,110]])),(24,I ([[100,105,115,107],[111,115],[118,101,114,115,105,111,110]].length:Int)),(25,I (i26:Int))] [.box 25 (fQ q41.1),rO 42 10 Lbw s27.2,.box 42 [I q41.2.At,S q41.2.Node,S q41.2.Name,I q41.2.Value.Kind,I q41.2.Value.Number,S q41.2.Value.Words,I q41.2.Value.Version.1,I q41.2.Value.Version.2.1,I q41.2.Value.Version.2.2.1,I q41.2.Value.Version.2.2.2]] ?_ ?_
       ·refine gA 8 E ?_
        cases h39
        exact⟨⟨E,E,E,E,E,E,E,E,E,E,E,Kfh E (Kfg (nLl hlt hb32)),tV⟩,[],E,.inl E⟩
       ·refine gA 7 E<|jC E hq41 (fun h43=>?_) fun h46=>gA 6 E<|jC E h46 (fun h47=>?_) fun h50=>?_
        ·exact bK h43 fun y44 hy44 h45=>gA 2 E<|Khc [0] (I y44.1) [.box 25 (fQ y44.2),rO 42 10 Lbw s27.2,.box 42 [I s4.2.2,S x17,S x28,I 0,I 0,S [],I 0,I 0,I 0,I 0]] C (Lcc hy44) E Z E E E E E E E E E E<|Keg hΓ (gs:=[I 3,I y44.1,S [],I 0,I 0,I 0,I 0]) E E E E E E E<|gO 1 E<|Kpa hΓ E E E E E E E E Z<|Khk [.box 25 (fQ y44.2),rO 42 10 Lbw s27.2,.box 42 [I s4.2.2,S x17,S x28,I 3,I y44.1,S [],I 0,I 0,I 0,I 0]] E<|gO 2 E<|oSi h45▸⟨⟨E,E,E,E,E,E,E,E,E,E,E,E,E,tV⟩,[],E,.inl E⟩
        ·exact gA 2 E<|Kgx hΓ (enc:=eS) [[108,105,110,117,120],[108,105,110,117,120],[109,97,99]] E E E E E E E E E E E E Z<|bK h47 fun y48 hy48 h49=>Khc [0] (S y48.1) [.box 25 (fQ y48.2),rO 42 10 Lbw s27.2,.box 42 [I s4.2.2,S x17,S x28,I 0,I 0,S [],I 0,I 0,I 0,I 0]] C (Lcf hy48) E Z E E E E E E E E E E<|Keg hΓ (gs:=[I 2,I 0,S y48.1,I 0,I 0,I 0,I 0]) E E E E E E E<|gO 1 E<|Kpa hΓ E E E E E E E E Z<|Khk [.box 25 (fQ y48.2),rO 42 10 Lbw s27.2,.box 42 [I s4.2.2,S x17,S x28,I 2,I 0,S y48.1,I 0,I 0,I 0,I 0]] E<|gO 2 E<|oSi h49▸⟨⟨E,E,E,E,E,E,E,E,E,E,E,E,E,tV⟩,[],E,.inl E⟩
        exact gA 2 E<|Kgx hΓ (enc:=(eN .i64)) [2,12] E E E E E E E E E E E E Z<|bK h50 fun y51 hy51 h52=>Khc [0] (I y51.1) [.box 25 (fQ y51.2),rO 42 10 Lbw s27.2,.box 42 [I s4.2.2,S x17,S x28,I 0,I 0,S [],I 0,I 0,I 0,I 0]] C (Lcg hy51) E Z E E E E E E E E E E<|eo_o E (Kkl hΓ (gs:=[I 1,I y51.1,I 0,I 0]) E E E E E E)<|Keg hΓ (gs:=[I 4,I 0,S [],I 1,I y51.1,I 0,I 0]) E E E E E E E<|gO 1 E<|Kpa hΓ E E E E E E E E Z<|Khk [.box 25 (fQ y51.2),rO 42 10 Lbw s27.2,.box 42 [I s4.2.2,S x17,S x28,I 4,I 0,S [],I 1,I y51.1,I 0,I 0]] E<|gO 2 E<|oSi h52▸⟨⟨E,E,E,E,E,E,E,E,E,E,E,E,E,tV⟩,[],E,.inl E⟩
       refine bK h42 fun y53 hy53 h54=>gA 5 E<|Khc [0] (B y53.1) [.box 25 (fQ y53.2),rO 42 10 Lbw s27.2,.box 42 [I q41.2.At,S q41.2.Node,S q41.2.Name,I q41.2.Value.Kind,I q41.2.Value.Number,S q41.2.Value.Words,I q41.2.Value.Version.1,I q41.2.Value.Version.2.1,I q41.2.Value.Version.2.2.1,I q41.2.Value.Version.2.2.2]] C (Lce hy53) E Z E E E E E E E E E E<|bK h54 fun q55 hq55 h56=>gO 2 E<|Kjy [(0,.ptr 0 0),(5,.sl 1 s27.2.length),(6,I s4.2.2),(8,S x17),(11,.ptr 2 0),(14,I many),(15,I (i3:Int)),(17,.d (Sl eS [[110,97],[110,98]])),(18,I ([[110,97],[110,98]].length:Int)),(19,I (i15:Int)),(23,.d (Sl eS [[100,105,115,107],[111,115],[118,101,114,115,105,111,110]])),(24,I ([[100,105,115,107],[111,115],[118,101,114,115,105,111,110]].length:Int)),(25,I (i26:Int))] [.box 25 (fQ q55.1),rO 42 10 Lbw s27.2,.box 42 [I q55.2.At,S q55.2.Node,S q55.2.Name,I q55.2.Value.Kind,I q55.2.Value.Number,S q55.2.Value.Words,I q55.2.Value.Version.1,I q55.2.Value.Version.2.1,I q55.2.Value.Version.2.2.1,I q55.2.Value.Version.2.2.2]] ?_ ?_
       ·refine jC E hq55 (fun h57=>?_) fun h60=>gA 1 E<|oSi h60▸⟨⟨E,E,E,E,E,E,E,E,E,E,E,E,E,tV⟩,[],E,.inl E⟩
        exact bK h57 fun y58 hy58 h59=>gA 2 E<|Khc [0] (.agg [I y58.1.Kind,I y58.1.Number,S y58.1.Words,I y58.1.Version.1,I y58.1.Version.2.1,I y58.1.Version.2.2.1,I y58.1.Version.2.2.2]) [.box 25 (fQ y58.2),rO 42 10 Lbw s27.2,.box 42 [I q41.2.At,S q41.2.Node,S q41.2.Name,I q41.2.Value.Kind,I q41.2.Value.Number,S q41.2.Value.Words,I q41.2.Value.Version.1,I q41.2.Value.Version.2.1,I q41.2.Value.Version.2.2.1,I q41.2.Value.Version.2.2.2]] C (Lci hy58) E Z E E E E E E E E E E<|gO 1 E<|Kpa hΓ E E E E E E E E Z<|Khk [.box 25 (fQ y58.2),rO 42 10 Lbw s27.2,.box 42 [I q41.2.At,S q41.2.Node,S q41.2.Name,I y58.1.Kind,I y58.1.Number,S y58.1.Words,I y58.1.Version.1,I y58.1.Version.2.1,I y58.1.Version.2.2.1,I y58.1.Version.2.2.2]] E<|gO 1 E<|oSi h59▸⟨⟨E,E,E,E,E,E,E,E,E,E,E,E,E,tV⟩,[],E,.inl E⟩
       refine gA 4 E<|Kgx hΓ (enc:=Lbw) [q55.2] E E E E E E E E E E E E Z<|bK h56 fun y61 hy61 h62=>Khl hΓ (enc:=Lbw) hy61 E E E E E E E E E (fun _=>E) E E E E<|gO 8 E ?_
       cases h62
       exact⟨⟨E,E,E,E,E,E,E,E,E,E,E,Kfh E (Kfg (nLl hlt hb32)),tV⟩,[_],E,.inr ⟨HB.mk E,FB.mk E,Z⟩⟩
      exact gA 6 E<|Kgb E (dF (Int.lt_irrefl _))<|gA 4 E<|⟨⟨E,E,E,E,E,E,E,E,tV⟩,[],E,.inl E⟩
     refine gA 6 E ?_
     cases h30
     exact⟨⟨E,E,E,E,E,E,E,Kfh E (Kfg (nLl hlt hb21)),tV⟩,[],E,.inl E⟩
    exact gA 6 E<|Kgb E (dF (Int.lt_irrefl _))<|gA 4 E<|⟨⟨E,E,E,E,E,tV⟩,[],E,.inl E⟩
   exact gA 4 E<|Kgx hΓ (enc:=(eN .i64)) [1,5,20,60] E E E E E E E E E E E E Z<|bK h19 fun y63 hy63 h64=>Khc [0] (I y63.1) [.box 25 (fQ y63.2),rO 42 10 Lbw q18.2] C (Lcg hy63) E Z E E E E E E E E E E<|gO 9 E<|oSi h64▸⟨⟨E,E,E,E,Kfh E (Kfg (by omega)),tV⟩,[],E,.inl E⟩
  exact gA 6 E<|Kgb E (dF hge)<|gA 4 E<|⟨⟨E,E,tV⟩,[],E,.inl E⟩
 refine bK h7 fun y65 hy65 h66=>gA 5 E<|Khc [0] (B y65.1) [.box 25 (fQ y65.2),rO 42 10 Lbw q6.2.1] C (Lce hy65) E Z E E E E E E E E E E<|bK h66 fun q67 hq67 h68=>gO 2 E<|Kjy [(5,.sl 1 q67.2.length)] [.box 25 (fQ q67.1),rO 42 10 Lbw q67.2] ?_ ?_
 ·refine jC E hq67 (fun h69=>?_) fun h80=>gA 1 E<|oSi h80▸⟨⟨E,tV⟩,[],E,.inl E⟩
  exact bK h69 fun y70 hy70 h71=>gA 3 E<|Khc [0] (I y70.1) [.box 25 (fQ y70.2),rO 42 10 Lbw q6.2.1] C (Lch hy70) E Z E E E E E E E E E E<|gO 1 E<|Kgx hΓ (enc:=eS) [[],[110,97]] E E E E E E E E E E E E Z<|bK h71 fun y72 hy72 h73=>Khc [0] (S y72.1) [.box 25 (fQ y72.2),rO 42 10 Lbw q6.2.1] C (Lcf hy72) E Z E E E E E E E E E E<|gO 1 E<|Kgx hΓ (enc:=eS) [[111,115],[65]] E E E E E E E E E E E E Z<|bK h73 fun y74 hy74 h75=>Khc [0] (S y74.1) [.box 25 (fQ y74.2),rO 42 10 Lbw q6.2.1] C (Lcf hy74) E Z E E E E E E E E E E<|bK h75 fun y76 hy76 h77=>gO 1 E<|Khc [0] (.agg [I y76.1.Kind,I y76.1.Number,S y76.1.Words,I y76.1.Version.1,I y76.1.Version.2.1,I y76.1.Version.2.2.1,I y76.1.Version.2.2.2]) [.box 25 (fQ y76.2),rO 42 10 Lbw q6.2.1] C (Lci hy76) E Z E E E E E E E E E E<|Keg hΓ (gs:=[I y70.1,S y72.1,S y74.1,I y76.1.Kind,I y76.1.Number,S y76.1.Words,I y76.1.Version.1,I y76.1.Version.2.1,I y76.1.Version.2.2.1,I y76.1.Version.2.2.2]) E E E E E E E<|Kgx hΓ (enc:=Lbw) [(⟨y70.1,y72.1,y74.1,y76.1⟩:Kxd)] E E E E E E E E E E E E Z<|bK h77 fun y78 hy78 h79=>Khl hΓ (enc:=Lbw) hy78 E E E E E E E E E (fun _=>E) E E E E<|gO 2 E<|oSi h79▸⟨⟨E,tV⟩,[],E,.inl E⟩
 exact gA 8 E<|Kjw<|oSi h68▸Khr hΓ [] (.inr E) E E E E (.inl E)
theorem Lck{n:Int}{r:Bool}(h:Kxt n=some r):Pure Tryz.prog 67 [I n] (B r):=by
 unfold Kxt at h
 refine QP Tryz.func67 E E E<|gA 10 E<|Kgf 3 [(2,B false),(8,B ((decide ((n:Int)≥0))&&(decide ((n:Int)<345686400))))] [] ?_ ?_
 ·refine Kno E E (fun hb=>?_) (fun hb=>?_)
  ·exact gO 4 E<|⟨⟨E,Kfi E (Khw hb),tV⟩,[],E,.inl E⟩
  exact gO 4 E<|⟨⟨E,Kfi E (Khx hb),tV⟩,[],E,.inl E⟩
 exact gO 4 E<|oSi h▸gP E E
theorem Lcl{k:Nat}{s:Str}{r:Bool}(h:Kxu k s=some r):Pure Tryz.prog 68 [S s] (B r):=by
 unfold Kxu at h
 refine QP Tryz.func68 E E E<|gA 11 E<|bK h fun q4 hq4 h5=>Kjx (R:=fun a6=>q4=.inl a6) (fun a6=>[(0,S s)]) (fun a6=>[]) ?_ ?_
 ·refine gA 1 E<|Kgm hq4 (fun s2=>[(0,S s),(3,I s2)]) (fun s2=>[]) ⟨⟨E,E,tV⟩,[],E,.inl E⟩ (fun s2 y10 hy8 hout9=>?_)
  refine gA 9 E<|Kfz E (fun hb=>?_) (fun hb=>?_)
  ·have h11:=cT hy8 hb
   refine bK h11 fun c12 hc12 h13=>gA 8 E<|eo_o E (Kgr hΓ hc12 E E E E)<|gO 8 E<|Kgf 3 [(0,S s),(3,I s2),(4,.d (.v (.int .u8 (c12.toNat:Int)))),(19,B ((decide (((c12.toNat:Int):Int)≥97))&&(decide (((c12.toNat:Int):Int)≤122))))] [] ?_ ?_
   ·refine Kno E E (fun hb=>?_) (fun hb=>?_)
    ·exact gO 4 E<|⟨⟨E,E,E,Kfi E (Khw hb),tV⟩,[],E,.inl E⟩
    exact gO 4 E<|⟨⟨E,E,E,Kfi E (Khx hb),tV⟩,[],E,.inl E⟩
   refine gO 1 E<|Kgf 19 [(0,S s),(3,I s2),(39,B (((decide (((c12.toNat:Int):Int)≥97))&&(decide (((c12.toNat:Int):Int)≤122)))||((decide ((s2:Int)>0))&&((((decide (((c12.toNat:Int):Int)≥48))&&(decide (((c12.toNat:Int):Int)≤57)))||(((c12.toNat:Int):Int)==45))||(((c12.toNat:Int):Int)==95)))))] [] ?_ ?_
   ·refine Kno E E (fun hb=>?_) (fun hb=>?_)
    ·exact gO 20 E<|⟨⟨E,E,Kfi E (or_t hb),tV⟩,[],E,.inl E⟩
    refine gO 3 E<|Kgf 15 [(0,S s),(3,I s2),(20,B false),(38,B ((decide ((s2:Int)>0))&&((((decide (((c12.toNat:Int):Int)≥48))&&(decide (((c12.toNat:Int):Int)≤57)))||(((c12.toNat:Int):Int)==45))||(((c12.toNat:Int):Int)==95))))] [] ?_ ?_
    ·refine Kno E E (fun hb=>?_) (fun hb=>?_)
     ·refine gO 3 E<|Kgf 3 [(0,S s),(3,I s2),(4,.d (.v (.int .u8 (c12.toNat:Int)))),(20,B false),(23,B true),(29,B ((decide (((c12.toNat:Int):Int)≥48))&&(decide (((c12.toNat:Int):Int)≤57))))] [] ?_ ?_
      ·refine Kno E E (fun hb=>?_) (fun hb=>?_)
       ·exact gO 4 E<|⟨⟨E,E,E,E,E,Kfi E (Khw hb),tV⟩,[],E,.inl E⟩
       exact gO 4 E<|⟨⟨E,E,E,E,E,Kfi E (Khx hb),tV⟩,[],E,.inl E⟩
      refine gO 1 E<|Kgf 3 [(0,S s),(3,I s2),(4,.d (.v (.int .u8 (c12.toNat:Int)))),(20,B false),(23,B true),(33,B (((decide (((c12.toNat:Int):Int)≥48))&&(decide (((c12.toNat:Int):Int)≤57)))||(((c12.toNat:Int):Int)==45)))] [] ?_ ?_
      ·refine Kno E E (fun hb=>?_) (fun hb=>?_)
       ·exact gO 4 E<|⟨⟨E,E,E,E,E,Kfi E (or_t hb),tV⟩,[],E,.inl E⟩
       exact gO 4 E<|⟨⟨E,E,E,E,E,Kfi E (or_f hb),tV⟩,[],E,.inl E⟩
      refine gO 1 E<|Kgf 3 [(0,S s),(3,I s2),(20,B false),(23,B true),(37,B ((((decide (((c12.toNat:Int):Int)≥48))&&(decide (((c12.toNat:Int):Int)≤57)))||(((c12.toNat:Int):Int)==45))||(((c12.toNat:Int):Int)==95)))] [] ?_ ?_
      ·refine Kno E E (fun hb=>?_) (fun hb=>?_)
       ·exact gO 4 E<|⟨⟨E,E,E,E,Kfi E (or_t hb),tV⟩,[],E,.inl E⟩
       exact gO 4 E<|⟨⟨E,E,E,E,Kfi E (or_f hb),tV⟩,[],E,.inl E⟩
      exact gO 2 E<|⟨⟨E,E,E,Kfi E (Khw hb),tV⟩,[],E,.inl E⟩
     exact gO 16 E<|⟨⟨E,E,E,Kfi E (Khx hb),tV⟩,[],E,.inl E⟩
    exact gO 2 E<|⟨⟨E,E,Kfi E (or_f hb),tV⟩,[],E,.inl E⟩
   refine gO 3 E<|jC E h13 (fun h14=>?_) fun h17=>gA 8 E<|oSi h17▸⟨_,E,⟨⟨E,E,tV⟩,[],E,.inl E⟩⟩
   refine gA 8 E<|bK h14 fun v15 hv15 h16=>?_
   cases h16
   obtain rfl:=hout9 _ rfl
   cases h5
   exact gA 4 E<|oSi hv15▸gP E E
  have h18:=cF hy8 hb
  refine gA 4 E ?_
  cases h18
  obtain rfl:=hout9 _ rfl
  exact⟨_,E,⟨⟨E,tV⟩,[],E,.inl E⟩⟩
 intro a6 ha
 subst ha
 replace h5:=Kjt h5
 refine gA 6 E<|Kgf 4 [(47,B ((!((s:Str)==[]))&&(decide (((s.length:Int):Int)≤40))))] [] ?_ ?_
 ·refine Kno E E (fun hb=>?_) (fun hb=>?_)
  ·exact gO 5 E<|⟨⟨Kfi E (Khw hb),tV⟩,[],E,.inl E⟩
  exact gO 5 E<|⟨⟨Kfi E (Khx hb),tV⟩,[],E,.inl E⟩
 exact gO 4 E<|oSi h5▸gP E E
theorem Lcm{n:Int}{low:Int}{high:Int}{r:Bool}(h:Kxv n low high=some r):Pure Tryz.prog 100 [I n,I low,I high] (B r):=by
 unfold Kxv at h
 refine QP Tryz.func100 E E E<|gA 11 E<|Kgf 4 [(6,B false),(14,B ((decide ((n:Int)<low))||(decide ((n:Int)>high))))] [] ?_ ?_
 ·refine Kno E E (fun hb=>?_) (fun hb=>?_)
  ·exact gO 5 E<|⟨⟨E,Kfi E (or_t hb),tV⟩,[],E,.inl E⟩
  exact gO 5 E<|⟨⟨E,Kfi E (or_f hb),tV⟩,[],E,.inl E⟩
 exact gO 4 E<|oSi h▸gP E E
theorem Lcn{s:Str}{r:Bool}(h:Kxw s=some r):Pure Tryz.prog 109 [S s] (B r):=by
 unfold Kxw at h
 refine QP Tryz.func109 E E E<|gA 13 E<|bK h fun q4 hq4 h5=>gK hq4 fun hb7 h8=>?_
 replace hb7:=of_decide_eq_true hb7
 refine Kjx (R:=fun a6=>q4=.go a6) (fun a6=>[(0,S s)]) (fun a6=>[]) ?_ ?_
 ·refine gA 1 E<|Khu h8 (fun i1 s2=>[(0,S s),(5,I (s.length:Int)),(6,I (i1:Int))]) (fun s2=>[]) ⟨⟨E,E,E,tV⟩,[],E,.inl E⟩ (fun i1 s2 y12 hlt hy10 hout11=>?_) (fun s2 hgo hge=>?_)
  ·refine gA 6 E<|Kga E (dT hlt)<|bK hy10 fun c13 hc13 h14=>gA 14 E<|eo_o E (Kgr hΓ hc13 E E E E)<|gO 2 E<|bK h14 fun q15 hq15 h16=>Kgf 5 [(0,S s),(5,I (s.length:Int)),(6,I (i1:Int)),(18,B q15)] [] ?_ ?_
   ·refine Kno E E (fun hb=>?_) (fun hb=>?_)
    ·have h17:=cT hq15 hb
     exact gO 6 E<|oSi h17▸⟨⟨E,E,E,E,tV⟩,[],E,.inl E⟩
    have h18:=cF hq15 hb
    exact bK h18 fun c19 hc19 h20=>gO 2 E<|Knm E<|eo_o E (Kgr hΓ hc19 E E E E)<|gO 3 E<|oSi h20▸⟨⟨E,E,E,E,tV⟩,[],E,.inl E⟩
   refine gO 2 E<|jC E h16 (fun h21=>?_) fun h24=>gA 7 E<|oSi h24▸⟨_,E,⟨⟨E,E,Kfh E (Kfg (by omega)),tV⟩,[],E,.inl E⟩⟩
   refine gA 8 E<|bK h21 fun v22 hv22 h23=>?_
   cases h23
   obtain rfl:=hout11 _ rfl
   cases h5
   exact gA 4 E<|oSi hv22▸gP E E
  subst hgo
  exact gA 6 E<|Kgb E (dF hge)<|gA 4 E<|⟨_,E,⟨⟨E,tV⟩,[],E,.inl E⟩⟩
 intro a6 ha
 subst ha
 replace h5:=Kju h5
 exact gA 10 E<|oSi h5▸gP E E
theorem Lco{k:Nat}{a:Kxc}{r:Int}(h:Kxx k a=some r):Pure Tryz.prog 69 [.agg [I a.Kind,I a.Number,S a.Words,I a.Version.1,I a.Version.2.1,I a.Version.2.2.1,I a.Version.2.2.2]] (I r):=by
 unfold Kxx at h
 refine QP Tryz.func69 E E E<|gA 2 E<|Kow E E E E Z<|bK h fun y1 hy1 h2=>gO 9 E<|Khd C (Lcm hy1) E Z E E E E E<|gO 3 E<|Kfz E (fun hb=>?_) (fun hb=>?_)
 ·have h3:=cT h2 hb
  exact gA 8 E<|oSi h3▸gP E E
 have h4:=cF h2 hb
 refine gA 6 E<|bK h4 fun q5 hq5 h6=>Kgf 4 [(1,.ptr 0 0),(17,B q5)] [.box 40 [I a.Kind,I a.Number,S a.Words,I a.Version.1,I a.Version.2.1,I a.Version.2.2.1,I a.Version.2.2.2]] ?_ ?_
 ·refine Kno E E (fun hb=>?_) (fun hb=>?_)
  ·have h7:=cT hq5 hb
   exact bK h7 fun y8 hy8 h9=>gO 2 E<|Knm E<|Khd C (Lcm hy8) E Z E E E E E<|gO 2 E<|oSi h9▸⟨⟨E,E,tV⟩,[],E,.inl E⟩
  have h10:=cF hq5 hb
  exact gO 5 E<|oSi h10▸⟨⟨E,E,tV⟩,[],E,.inl E⟩
 refine gO 1 E<|bK h6 fun q11 hq11 h12=>Kgf 9 [(1,.ptr 0 0),(27,B q11)] [.box 40 [I a.Kind,I a.Number,S a.Words,I a.Version.1,I a.Version.2.1,I a.Version.2.2.1,I a.Version.2.2.2]] ?_ ?_
 ·refine Kno E E (fun hb=>?_) (fun hb=>?_)
  ·have h13:=cT hq11 hb
   exact gO 10 E<|oSi h13▸⟨⟨E,E,tV⟩,[],E,.inl E⟩
  have h14:=cF hq11 hb
  refine gO 4 E<|bK h14 fun q15 hq15 h16=>Kgf 4 [(1,.ptr 0 0),(18,B false),(26,B q15)] [.box 40 [I a.Kind,I a.Number,S a.Words,I a.Version.1,I a.Version.2.1,I a.Version.2.2.1,I a.Version.2.2.2]] ?_ ?_
  ·refine Kno E E (fun hb=>?_) (fun hb=>?_)
   ·have h17:=cT hq15 hb
    exact bK h17 fun y18 hy18 h19=>gO 2 E<|Knm E<|Khd C (Lcm hy18) E Z E E E E E<|gO 2 E<|oSi h19▸⟨⟨E,E,E,tV⟩,[],E,.inl E⟩
   have h20:=cF hq15 hb
   exact gO 5 E<|oSi h20▸⟨⟨E,E,E,tV⟩,[],E,.inl E⟩
  exact gO 2 E<|oSi h16▸⟨⟨E,E,tV⟩,[],E,.inl E⟩
 refine gO 3 E<|Kfz E (fun hb=>?_) (fun hb=>?_)
 ·have h21:=cT h12 hb
  exact gA 8 E<|oSi h21▸gP E E
 have h22:=cF h12 hb
 refine gA 6 E<|Kgf 4 [(1,.ptr 0 0),(36,B (((a.Kind:Int) != 1)&&((a.Kind:Int) != 3)))] [.box 40 [I a.Kind,I a.Number,S a.Words,I a.Version.1,I a.Version.2.1,I a.Version.2.2.1,I a.Version.2.2.2]] ?_ ?_
 ·refine Kno E E (fun hb=>?_) (fun hb=>?_)
  ·exact gO 5 E<|⟨⟨E,Kfi E (Khw hb),tV⟩,[],E,.inl E⟩
  exact gO 5 E<|⟨⟨E,Kfi E (Khx hb),tV⟩,[],E,.inl E⟩
 refine gO 1 E<|Kgf 4 [(1,.ptr 0 0),(41,B ((((a.Kind:Int) != 1)&&((a.Kind:Int) != 3))&&((a.Number:Int) != 0)))] [.box 40 [I a.Kind,I a.Number,S a.Words,I a.Version.1,I a.Version.2.1,I a.Version.2.2.1,I a.Version.2.2.2]] ?_ ?_
 ·refine Kno E E (fun hb=>?_) (fun hb=>?_)
  ·exact gO 5 E<|⟨⟨E,Kfi E (Khw hb),tV⟩,[],E,.inl E⟩
  exact gO 5 E<|⟨⟨E,Kfi E (Khx hb),tV⟩,[],E,.inl E⟩
 refine gO 3 E<|Kfz E (fun hb=>?_) (fun hb=>?_)
 ·have h23:=cT h22 hb
  exact gA 8 E<|oSi h23▸gP E E
 have h24:=cF h22 hb
 refine gA 6 E<|bK h24 fun q25 hq25 h26=>Kgf 5 [(1,.ptr 0 0),(51,B q25)] [.box 40 [I a.Kind,I a.Number,S a.Words,I a.Version.1,I a.Version.2.1,I a.Version.2.2.1,I a.Version.2.2.2]] ?_ ?_
 ·refine Kno E E (fun hb=>?_) (fun hb=>?_)
  ·have h27:=cT hq25 hb
   exact bK h27 fun y28 hy28 h29=>gO 2 E<|Knm E<|Khd C (Lcn hy28) E Z E E E E E<|gO 3 E<|oSi h29▸⟨⟨E,E,tV⟩,[],E,.inl E⟩
  have h30:=cF hq25 hb
  exact gO 6 E<|oSi h30▸⟨⟨E,E,tV⟩,[],E,.inl E⟩
 refine gO 1 E<|Kgf 9 [(1,.ptr 0 0),(61,B (q25||(((a.Kind:Int) != 2)&&(!((a.Words:Str)==[])))))] [.box 40 [I a.Kind,I a.Number,S a.Words,I a.Version.1,I a.Version.2.1,I a.Version.2.2.1,I a.Version.2.2.2]] ?_ ?_
 ·refine Kno E E (fun hb=>?_) (fun hb=>?_)
  ·exact gO 10 E<|⟨⟨E,Kfi E (or_t hb),tV⟩,[],E,.inl E⟩
  refine gO 4 E<|Kgf 4 [(1,.ptr 0 0),(52,B false),(60,B (((a.Kind:Int) != 2)&&(!((a.Words:Str)==[]))))] [.box 40 [I a.Kind,I a.Number,S a.Words,I a.Version.1,I a.Version.2.1,I a.Version.2.2.1,I a.Version.2.2.2]] ?_ ?_
  ·refine Kno E E (fun hb=>?_) (fun hb=>?_)
   ·exact gO 5 E<|⟨⟨E,E,Kfi E (Khw hb),tV⟩,[],E,.inl E⟩
   exact gO 5 E<|⟨⟨E,E,Kfi E (Khx hb),tV⟩,[],E,.inl E⟩
  exact gO 2 E<|⟨⟨E,Kfi E (or_f hb),tV⟩,[],E,.inl E⟩
 refine gO 3 E<|Kfz E (fun hb=>?_) (fun hb=>?_)
 ·have h31:=cT h26 hb
  exact gA 8 E<|oSi h31▸gP E E
 have h32:=cF h26 hb
 refine gA 11 E<|bK h32 fun q36 hq36 h37=>Kjx (R:=fun a38=>q36=.inl a38) (fun a38=>[]) (fun a38=>[.box 40 [I a.Kind,I a.Number,S a.Words,I a.Version.1,I a.Version.2.1,I a.Version.2.2.1,I a.Version.2.2.2]]) ?_ ?_
 ·refine gA 1 E<|Kgm hq36 (fun s34=>[(1,.ptr 0 0),(63,.agg [I a.Version.1,I a.Version.2.1,I a.Version.2.2.1,I a.Version.2.2.2]),(64,I s34)]) (fun s34=>[.box 40 [I a.Kind,I a.Number,S a.Words,I a.Version.1,I a.Version.2.1,I a.Version.2.2.1,I a.Version.2.2.2]]) ⟨⟨E,E,E,tV⟩,[],E,.inl E⟩ (fun s34 y42 hy40 hout41=>?_)
  refine gA 6 E<|Kfz E (fun hb=>?_) (fun hb=>?_)
  ·have h43:=cT hy40 hb
   refine bK h43 fun x44 hx44 h45=>gA 6 E<|eo_o E (Kkk hΓ (enc:=(eN .i64)) [a.Version.1,a.Version.2.1,a.Version.2.2.1,a.Version.2.2.2] hx44 E E E E E E E (fun _=>E) E)<|gO 10 E<|bK h45 fun q46 hq46 h47=>Kgf 3 [(1,.ptr 0 0),(4,I x44),(63,.agg [I a.Version.1,I a.Version.2.1,I a.Version.2.2.1,I a.Version.2.2.2]),(64,I s34),(73,B q46)] [.box 40 [I a.Kind,I a.Number,S a.Words,I a.Version.1,I a.Version.2.1,I a.Version.2.2.1,I a.Version.2.2.2]] ?_ ?_
   ·refine Kno E E (fun hb=>?_) (fun hb=>?_)
    ·have h48:=cT hq46 hb
     exact bK h48 fun y49 hy49 h50=>gO 1 E<|Knm E<|Khd C (Lcm hy49) E Z E E E E E<|gO 2 E<|oSi h50▸⟨⟨E,E,E,E,E,tV⟩,[],E,.inl E⟩
    have h51:=cF hq46 hb
    exact gO 4 E<|oSi h51▸⟨⟨E,E,E,E,E,tV⟩,[],E,.inl E⟩
   refine gO 2 E<|Kfz E (fun hb=>?_) (fun hb=>?_)
   ·have h52:=cT h47 hb
    refine gA 9 E<|bK h52 fun v53 hv53 h54=>?_
    cases h54
    obtain rfl:=hout41 _ rfl
    cases h37
    exact gA 4 E<|oSi hv53▸gP E E
   have h55:=cF h47 hb
   refine gA 8 E<|Kgf 3 [(1,.ptr 0 0),(63,.agg [I a.Version.1,I a.Version.2.1,I a.Version.2.2.1,I a.Version.2.2.2]),(64,I s34),(80,B (((a.Kind:Int) != 4)&&((x44:Int) != 0)))] [.box 40 [I a.Kind,I a.Number,S a.Words,I a.Version.1,I a.Version.2.1,I a.Version.2.2.1,I a.Version.2.2.2]] ?_ ?_
   ·refine Kno E E (fun hb=>?_) (fun hb=>?_)
    ·exact gO 4 E<|⟨⟨E,E,E,Kfi E (Khw hb),tV⟩,[],E,.inl E⟩
    exact gO 4 E<|⟨⟨E,E,E,Kfi E (Khx hb),tV⟩,[],E,.inl E⟩
   refine gO 2 E<|jC E h55 (fun h56=>?_) fun h59=>gA 7 E<|oSi h59▸⟨_,E,⟨⟨E,E,E,tV⟩,[],E,.inl E⟩⟩
   refine gA 8 E<|bK h56 fun v57 hv57 h58=>?_
   cases h58
   obtain rfl:=hout41 _ rfl
   cases h37
   exact gA 4 E<|oSi hv57▸gP E E
  have h60:=cF hy40 hb
  refine gA 4 E ?_
  cases h60
  obtain rfl:=hout41 _ rfl
  exact⟨_,E,⟨tV,[],E,.inl E⟩⟩
 intro a38 ha
 subst ha
 replace h37:=Kjt h37
 exact gA 7 E<|oSi h37▸gP E E
theorem Lcp{x:Int}{r:Bool}(h:Kxy x=some r):Pure Tryz.prog 116 [I x] (B r):=by
 unfold Kxy at h
 exact QP Tryz.func116 E E E<|gA 14 E<|oSi h▸gP E E
theorem Lcq{x:Int}{y:Int}{r:Int}(h:Kxz x y=some r):Pure Tryz.prog 81 [I x,I y] (I r):=by
 unfold Kxz at h
 refine QP Tryz.func81 E E E<|bK h fun y1 hy1 h2=>gA 8 E<|Khd C (Lcp hy1) E Z E E E E E<|bK h2 fun y3 hy3 h4=>gO 6 E<|Khd C (Lcp hy3) E Z E E E E E<|gO 9 E<|jC E h4 (fun h5=>?_) fun h8=>gA 8 E<|jC E h8 (fun h9=>?_) fun h10=>?_
 ·refine gA 6 E<|jC E h5 (fun h6=>?_) fun h7=>gA 9 E<|oSi h7▸gP E E
  exact gA 8 E<|oSi h6▸gP E E
 ·exact gA 7 E<|oSi h9▸gP E E
 refine gA 10 E<|jC E h10 (fun h11=>?_) fun h12=>gA 10 E<|jC E h12 (fun h13=>?_) fun h14=>?_
 ·exact gA 7 E<|oSi h11▸gP E E
 ·exact gA 7 E<|oSi h13▸gP E E
 exact gA 8 E<|oSi h14▸gP E E
theorem Lcr{vals:List Int}{r:Int}(h:Kya vals=some r):Pure Tryz.prog 80 [.d (Sl (eN .i64) vals)] (I r):=by
 unfold Kya at h
 refine QP Tryz.func80 E E E<|gA 18 E<|bK h fun q4 hq4 h5=>Kgp 6 E fun hb7=>Kjx (R:=fun a6=>q4=.go a6) (fun a6=>[(3,I 0)]) (fun a6=>[]) ?_ ?_
 ·refine gA 1 E<|Kgo vals hq4 (fun i1 s2=>[(3,I 0),(6,.d (Sl (eN .i64) vals)),(7,I (vals.length:Int)),(8,I (i1:Int))]) (fun s2=>[]) ⟨⟨E,E,E,E,tV⟩,[],E,.inl E⟩ (fun i1 x3 s2 y11 hx8 hlt hy9 hout10=>?_) (fun s2 hgo=>?_)
  ·refine gA 6 E<|Kga E (dT (Int.ofNat_lt.2 hlt))<|gA 6 E<|eo_o E (Kgq hΓ (enc:=(eN .i64)) (Kgj hx8) E E E E E (fun _=>E))<|gO 11 E<|jC E hy9 (fun h12=>?_) fun h15=>gA 7 E ?_
   ·refine gA 9 E<|bK h12 fun v13 hv13 h14=>?_
    cases h14
    obtain rfl:=hout10 _ rfl
    cases h5
    exact gA 4 E<|oSi hv13▸gP E E
   cases h15
   exact⟨_,E,⟨⟨E,E,E,Kfh E (Kfg (nLl hlt hb7)),tV⟩,[],E,.inl E⟩⟩
  subst hgo
  exact gA 6 E<|Kgb E (dF (Int.lt_irrefl _))<|gA 4 E<|⟨_,E,⟨⟨E,tV⟩,[],E,.inl E⟩⟩
 intro a6 ha
 subst ha
 replace h5:=Kju h5
 exact gA 8 E<|oSi h5▸gP E E
theorem Lcs{a:Kxd}{b:Kxd}{r:Int}(h:Kyb a b=some r):Pure Tryz.prog 70 [.agg [I a.At,S a.Node,S a.Name,I a.Value.Kind,I a.Value.Number,S a.Value.Words,I a.Value.Version.1,I a.Value.Version.2.1,I a.Value.Version.2.2.1,I a.Value.Version.2.2.2],.agg [I b.At,S b.Node,S b.Name,I b.Value.Kind,I b.Value.Number,S b.Value.Words,I b.Value.Version.1,I b.Value.Version.2.1,I b.Value.Version.2.2.1,I b.Value.Version.2.2.2]] (I r):=by
 unfold Kyb at h
 exact QP Tryz.func70 E E E<|gA 2 E<|Kow E E E E Z<|Kow E E E E Z<|gO 4 E<|jD<|bK h fun y1 hy1 h2=>gA 4 E<|Khe C (Lcq hy1) E E E E E E<|bK h2 fun y3 hy3 h4=>Kfx hΓ 4 E<|Khe C (Kso hy3) E E E E E E<|bK h4 fun y5 hy5 h6=>Kfx hΓ 4 E<|Khe C (Kso hy5) E E E E E E<|Kgy hΓ (enc:=(eN .i64)) [y1,y3,y5] E E E E E E E E E E E E<|bK h6 fun y7 hy7 h8=>Khe C (Lcr hy7) E E E E E E<|Kfx hΓ 4 E<|oSi h8▸gP E E
theorem Lct{k:Nat}{l:List Kxd}{r:Int}(h:Kyc k l=some r):Pure Tryz.prog 29 [.d (Sl Lbw l)] (I r):=by
 unfold Kyc at h
 refine QP Tryz.func29 E E E<|gA 13 E<|jC E h (fun h1=>?_) fun h2=>gA 10 E<|bK h2 fun q6 hq6 h7=>Kgp 0 E fun hb9=>Kjx (R:=fun a8=>q6=.go a8) (fun a8=>[]) (fun a8=>[]) ?_ ?_
 ·exact gA 7 E<|oSi h1▸gP E E
 ·refine gA 1 E<|Kgo l hq6 (fun i3 s4=>[(0,.d (Sl Lbw l)),(9,.d (Sl Lbw l)),(10,I (l.length:Int)),(11,I (i3:Int))]) (fun s4=>[]) ⟨⟨E,E,E,E,tV⟩,[],E,.inl E⟩ (fun i3 x5 s4 y13 hx10 hlt hy11 hout12=>?_) (fun s4 hgo=>?_)
  ·refine gA 6 E<|Kga E (dT (Int.ofNat_lt.2 hlt))<|gA 7 E<|eo_o E (Kgq hΓ (enc:=Lbw) (Kgj hx10) E E E E E (fun _=>E))<|gO 1 E<|Kov hΓ E E E Z<|gO 1 E<|Kpa hΓ E E E E E E E E Z<|Khk [.box 42 [I x5.At,S x5.Node,S x5.Name,I x5.Value.Kind,I x5.Value.Number,S x5.Value.Words,I x5.Value.Version.1,I x5.Value.Version.2.1,I x5.Value.Version.2.2.1,I x5.Value.Version.2.2.2]] E<|bK hy11 fun y14 hy14 h15=>gO 7 E<|Khd C (Lck hy14) E Z E E E E E<|gO 3 E<|jC E h15 (fun h16=>?_) fun h19=>bK h19 fun y20 hy20 h21=>gA 7 E<|Khd C (Lcl hy20) E Z E E E E E<|gO 2 E<|bK h21 fun q22 hq22 h23=>Kgf 5 [(0,.d (Sl Lbw l)),(3,I (i3:Int)),(4,.ptr 0 0),(9,.d (Sl Lbw l)),(10,I (l.length:Int)),(11,I (i3:Int)),(29,B q22)] [.box 42 [I x5.At,S x5.Node,S x5.Name,I x5.Value.Kind,I x5.Value.Number,S x5.Value.Words,I x5.Value.Version.1,I x5.Value.Version.2.1,I x5.Value.Version.2.2.1,I x5.Value.Version.2.2.2]] ?_ ?_
   ·refine gA 9 E<|bK h16 fun v17 hv17 h18=>?_
    cases h18
    obtain rfl:=hout12 _ rfl
    cases h7
    exact gA 4 E<|oSi hv17▸gP E E
   ·refine Kno E E (fun hb=>?_) (fun hb=>?_)
    ·have h24:=cT hq22 hb
     exact gO 6 E<|oSi h24▸⟨⟨E,E,E,E,E,E,E,tV⟩,[],E,.inl E⟩
    have h25:=cF hq22 hb
    exact bK h25 fun y26 hy26 h27=>gO 2 E<|Knm E<|Khd C (Lcl hy26) E Z E E E E E<|gO 3 E<|oSi h27▸⟨⟨E,E,E,E,E,E,E,tV⟩,[],E,.inl E⟩
   refine gO 2 E<|jC E h23 (fun h28=>?_) fun h31=>bK h31 fun y32 hy32 h33=>gA 7 E<|Khd C (Lco hy32) E Z E E E E E<|gO 9 E<|jC E h33 (fun h34=>?_) fun h37=>?_
   ·refine gA 9 E<|bK h28 fun v29 hv29 h30=>?_
    cases h30
    obtain rfl:=hout12 _ rfl
    cases h7
    exact gA 4 E<|oSi hv29▸gP E E
   ·refine gA 10 E<|bK h34 fun v35 hv35 h36=>?_
    cases h36
    obtain rfl:=hout12 _ rfl
    cases h7
    exact gA 4 E<|oSi hv35▸gP E E
   refine bK h37 fun q38 hq38 h39=>gA 3 E<|Kjy [(0,.d (Sl Lbw l)),(9,.d (Sl Lbw l)),(10,I (l.length:Int)),(11,I (i3:Int)),(47,B q38)] [.box 42 [I x5.At,S x5.Node,S x5.Name,I x5.Value.Kind,I x5.Value.Number,S x5.Value.Words,I x5.Value.Version.1,I x5.Value.Version.2.1,I x5.Value.Version.2.2.1,I x5.Value.Version.2.2.2]] ?_ ?_
   ·refine jD<|gA 3 E<|Keq E E (fun hb=>?_) (fun hb=>?_)
    ·have h40:=cT hq38 hb
     exact bK h40 fun x41 hx41 h42=>Kfx hΓ 3 E<|Kfj E E (Kgq hΓ (enc:=Lbw) hx41 E E E E E (fun _=>E))<|bK h42 fun y43 hy43 h44=>Kfx hΓ 2 E<|Khf C (Lcs hy43) E E E E E E E<|Kfx hΓ 3 E<|oSi h44▸⟨⟨E,E,E,E,E,tV⟩,[],E,.inl E⟩
    have h45:=cF hq38 hb
    exact Kfx hΓ 10 E<|oSi h45▸⟨⟨E,E,E,E,E,tV⟩,[],E,.inl E⟩
   refine gA 1 E<|jC E h39 (fun h46=>?_) fun h49=>gA 7 E ?_
   ·refine gA 8 E<|bK h46 fun v47 hv47 h48=>?_
    cases h48
    obtain rfl:=hout12 _ rfl
    cases h7
    exact gA 4 E<|oSi hv47▸gP E E
   cases h49
   exact⟨_,E,⟨⟨E,E,E,Kfh E (Kfg (nLl hlt hb9)),tV⟩,[_],E,.inr ⟨HB.mk E,FB.mk E,Z⟩⟩⟩
  subst hgo
  exact gA 6 E<|Kgb E (dF (Int.lt_irrefl _))<|gA 4 E<|⟨_,E,⟨tV,[],E,.inl E⟩⟩
 intro a8 ha
 subst ha
 replace h7:=Kju h7
 exact gA 7 E<|oSi h7▸gP E E
theorem Lcu{b:Bool}{r:Str}(h:Kyd b=some r):Pure Tryz.prog 114 [B b] (S r):=by
 unfold Kyd at h
 refine QP Tryz.func114 E E E<|gA 11 E<|jC E h (fun h1=>?_) fun h2=>gA 8 E<|oSi h2▸gP E E
 exact gA 7 E<|oSi h1▸gP E E
theorem Lcv{b:Bool}{r:Str}(h:Kye b=some r):Pure Tryz.prog 75 [B b] (S r):=by
 unfold Kye at h
 exact QP Tryz.func75 E E E<|bK h fun y1 hy1 h2=>gA 8 E<|Khd C (Lcu hy1) E Z E E E E E<|gO 4 E<|oSi h2▸gP E E
theorem Lcw{k:Nat}{a:Kxc}{r:Str}(h:Kyf k a=some r):Pure Tryz.prog 32 [.agg [I a.Kind,I a.Number,S a.Words,I a.Version.1,I a.Version.2.1,I a.Version.2.2.1,I a.Version.2.2.2]] (S r):=by
 unfold Kyf at h
 refine QP Tryz.func32 E E E<|gA 2 E<|Kow E E E E Z<|gO 17 E<|jC E h (fun h1=>?_) fun h4=>gA 6 E<|jC E h4 (fun h5=>?_) fun h6=>?_
 ·exact bK h1 fun y2 hy2 h3=>gA 4 E<|Khd C (Ksf hy2) E Z E E E E E<|gO 6 E<|oSi h3▸gP E E
 ·refine gA 1 E ?_
  cases h5
 refine gA 6 E<|jC E h6 (fun h7=>?_) fun h10=>gA 5 E<|Kha (t:=0) 9 1 E Z<|gO 10 E<|bK h10 fun q14 hq14 h15=>Kjy [(3,.sl 1 q14.length)] [.box 40 [I a.Kind,I a.Number,S a.Words,I a.Version.1,I a.Version.2.1,I a.Version.2.2.1,I a.Version.2.2.2],rO 9 1 eS q14] ?_ ?_
 ·exact bK h7 fun y8 hy8 h9=>gA 5 E<|Khd C (Lcv hy8) E Z E E E E E<|gO 6 E<|oSi h9▸gP E E
 ·refine gA 1 E<|Kgm hq14 (fun s12=>[(3,.sl 1 s12.1.length),(29,.agg [I a.Version.1,I a.Version.2.1,I a.Version.2.2.1,I a.Version.2.2.2]),(30,I s12.2)]) (fun s12=>[.box 40 [I a.Kind,I a.Number,S a.Words,I a.Version.1,I a.Version.2.1,I a.Version.2.2.1,I a.Version.2.2.2],rO 9 1 eS s12.1]) ⟨⟨E,E,E,tV⟩,[],E,.inl E⟩ (fun s12 y20 hy18 hout19=>?_)
  refine gA 6 E<|jC E hy18 (fun h21=>?_) fun h28=>gA 4 E ?_
  ·exact bK h21 fun x22 hx22 h23=>gA 6 E<|eo_o E (Kkk hΓ (enc:=(eN .i64)) [a.Version.1,a.Version.2.1,a.Version.2.2.1,a.Version.2.2.2] hx22 E E E E E E E (fun _=>E) E)<|bK h23 fun y24 hy24 h25=>gO 6 E<|Khd C (Ksf hy24) E Z E E E E E<|Kgx hΓ (enc:=eS) [y24] E E E E E E E E E E E E Z<|bK h25 fun y26 hy26 h27=>Khl hΓ (enc:=eS) hy26 E E E E E E E E E (fun _=>E) E E E E<|gO 8 E<|oSi h27▸⟨_,E,⟨⟨E,E,E,tV⟩,[],E,.inl E⟩⟩
  cases h28
  obtain rfl:=hout19 _ rfl
  exact⟨⟨E,tV⟩,[],E,.inl E⟩
 exact bK h15 fun y29 hy29 h30=>gA 4 E<|Khg C (Ksk hy29) E Z E E E E E<|bK h30 fun y31 hy31 h32=>eo_o E (Khn hy31 E E)<|gO 4 E<|oSi h32▸gP E E
theorem Lcx{k:Nat}{a:Kxc}{r:Str}(h:Kyg k a=some r):Pure Tryz.prog 32 [.agg [I a.Kind,I a.Number,S a.Words,I a.Version.1,I a.Version.2.1,I a.Version.2.2.1,I a.Version.2.2.2]] (S r):=by
 cases hb:(a.Kind:Int)==2 with
 | true=>
  have h1:=cT h hb
  obtain⟨h2,h3⟩:=Kgh h1
  cases h3
  have hk:a.Kind=2:=eq_of_beq hb
  rw[hk]
  exact Krp a.Words (nBe h2) _ _ _ _ _
 | false=>exact Lcw (cF h hb)
theorem Lcy{b:Str}{s:Str}{r:Int×Str}(h:Kyh b s=some r):EC Tryz.prog 30 [.ptr 1 0,S s] [rO 5 1 eU b,.box 64 [.pn 1,.sl 0 b.length]] fun g hp'=>g=.tup [I r.1,.d (.v .nilIface)]∧hp'=[.dead,.box 64 [.pn 1,.sl 2 r.2.length],rO 5 1 eU r.2]:=by
 unfold Kyh at h
 exact QM Tryz.func30 E Z<|Kix Z<|Kiv 0 2 [.dead,.box 64 [.pn 1,.sl 2 b.length],rO 5 1 eU b] E E E E E E<|bK h fun y1 hy1 h2=>gA 9 E<|Khc [2,1] (.tup []) [.dead,.box 64 [.pn 1,.sl 2 b.length],rO 5 1 eU b] C (Kaa hy1) E Z E E E E E E E E E E<|bK h2 fun y3 hy3 h4=>gO 10 E<|Kki 2 [.dead,.box 64 [.pn 1,.junk],rO 5 1 eU b] E Z<|eo_s Z (nblt.1 E) (Klu hΓ (id:=2) (h2:=show Γ 5=some ⟨_,1,_,_⟩ from E) hy3 E E E E E E E E E E E)<|gO 2 E<|Kpa hΓ E E E E E E E E Z<|Khk [.dead,.box 64 [.pn 1,.sl 3 y3.length],.dead,rO 5 1 eU y3] E<|Kit 3 2 [.dead,.box 64 [.pn 1,.sl 2 y3.length],rO 5 1 eU y3,.dead] E E E E E E<|gO 11 E<|Kjw<|oSi h4▸Khr hΓ [_] (.inr E) E E E E (.inr ⟨HB.mk E,E⟩)
theorem Lcz{b:Str}{r:Int}(h:Kyi b=some r):EC Tryz.prog 33 [.ptr 1 0] [rO 5 1 eU b,.box 64 [.pn 1,.sl 0 b.length]] fun g hp'=>g=I r∧hp'=[rO 5 1 eU b,.box 64 [.pn 1,.sl 0 b.length]]:=by
 unfold Kyi at h
 exact QN Tryz.func33 E Z<|gA 16 E<|oSi h▸Khr hΓ [] (.inr E) E E E E (.inl E)
theorem Lda{k:Nat}{l:List Kxd}{r:Str×Int}(h:Kyj k l=some r):Pure Tryz.prog 7 [.d (Sl Lbw l)] (.tup [S r.1,I r.2]):=by
 unfold Kyj at h
 refine QP Tryz.func7 E E E<|bK h fun y1 hy1 h2=>gA 10 E<|Khd C (Lct hy1) E Z E E E E E<|gO 9 E<|jC E h2 (fun h3=>?_) fun h4=>gA 4 E<|eo_s Z (nblt.1 E) (Kkw hΓ [1] [.d (.v (.pointer none)),.d (.v (.slice none 0 0))] (hi:=show Γ 64=some ⟨_,_,_,_⟩ from E) E ⟨.refl _,.refl _,tV⟩)<|Khk [.box 64 [.d (.v (.pointer none)),.d (.v (.slice none 0 0))]] E<|gO 2 E<|Klq 0 0 [.box 64 [.pn 0,.d (.v (.slice none 0 0))]] E E E<|Kle 0 1 5 1 [.box 64 [.pn 0,.sl 1 ([]:Str).length],rO 5 1 eU ([]:Str)] E E E Z<|gA 8 E<|bK h4 fun q8 hq8 h9=>Kgp 13 E fun hb11=>Kjy [(5,.ptr 0 0)] [.box 64 [.pn 0,.sl 1 q8.length],rO 5 1 eU q8] ?_ ?_
 ·exact gA 9 E<|oSi h3▸gP E E
 ·refine gA 1 E<|Kht l hq8 (fun i5 s6=>[(5,.ptr 0 0),(13,.d (Sl Lbw l)),(14,I (l.length:Int)),(15,I (i5:Int))]) (fun s6=>[.box 64 [.pn 0,.sl 1 s6.length],rO 5 1 eU s6]) ⟨⟨E,E,E,E,tV⟩,[],E,.inl E⟩ (fun i5 x7 s6 y15 hx12 hlt hy13=>?_) (?_)
  ·refine gA 6 E<|Kga E (dT (Int.ofNat_lt.2 hlt))<|gA 6 E<|eo_o E (Kgq hΓ (enc:=Lbw) (Kgj hx12) E E E E E (fun _=>E))<|gO 1 E<|Kov hΓ E E E Z<|Kpa hΓ E E E E E E E E Z<|Khk [.box 64 [.pn 0,.sl 1 s6.length],rO 5 1 eU s6,.box 42 [I x7.At,S x7.Node,S x7.Name,I x7.Value.Kind,I x7.Value.Number,S x7.Value.Words,I x7.Value.Version.1,I x7.Value.Version.2.1,I x7.Value.Version.2.2.1,I x7.Value.Version.2.2.2]] E<|gO 2 E<|Kjb [.dead,.dead,.box 42 [I x7.At,S x7.Node,S x7.Name,I x7.Value.Kind,I x7.Value.Number,S x7.Value.Words,I x7.Value.Version.1,I x7.Value.Version.2.1,I x7.Value.Version.2.2.1,I x7.Value.Version.2.2.2]] [1,5,9,13] [17] [] hmix (by kernel_rfl) (by kernel_rfl) ⟨E,tV⟩ Z<|bK hy13 fun y16 hy16 h17=>go_E hΓ 2 E<|Kjp C (Ksf hy16) E E E E E E<|bK h17 fun y18 hy18 h19=>ge_q E (.inl E) (fun _ _=>Kjd (qt_p (Khn hy18 E E)))<|bK h19 fun y20 hy20 h21=>go_E hΓ 2 E<|ge_q E (.inl E) (fun _ _=>Kjd (qt_p (Khn hy20 E E)))<|bK h21 fun y22 hy22 h23=>ge_q E (.inl E) (fun _ _=>Kjd (qt_p (Khn hy22 E E)))<|bK h23 fun y24 hy24 h25=>go_E hΓ 2 E<|ge_q E (.inl E) (fun _ _=>Kjd (qt_p (Khn hy24 E E)))<|bK h25 fun y26 hy26 h27=>ge_q E (.inl E) (fun _ _=>Kjd (qt_p (Khn hy26 E E)))<|bK h27 fun y28 hy28 h29=>go_E hΓ 2 E<|Kjp C (Lcx hy28) E E E E E E<|bK h29 fun y30 hy30 h31=>ge_q E (.inl E) (fun _ _=>Kjd (qt_p (Khn hy30 E E)))<|bK h31 fun y32 hy32 h33=>ge_q E (.inl E) (fun _ _=>Kjd (qt_p (Khn hy32 E E)))<|bK h33 fun y34 hy34 h35=>ge_h [.box 64 [.pn 0,.sl 3 y34.2.length],.dead,.box 42 [I x7.At,S x7.Node,S x7.Name,I x7.Value.Kind,I x7.Value.Number,S x7.Value.Words,I x7.Value.Version.1,I x7.Value.Version.2.1,I x7.Value.Version.2.2.1,I x7.Value.Version.2.2.2],rO 5 1 eU y34.2] E E E (Kjj ⟨E,tV⟩) (Kjo [1,0] (.tup [I y34.1,.d (.v .nilIface)]) [.box 64 [.pn 0,.sl 3 y34.2.length],.dead,.box 42 [I x7.At,S x7.Node,S x7.Name,I x7.Value.Kind,I x7.Value.Number,S x7.Value.Words,I x7.Value.Version.1,I x7.Value.Version.2.1,I x7.Value.Version.2.2.1,I x7.Value.Version.2.2.2],rO 5 1 eU y34.2] C (Lcy hy34) E E E E E E E E E E)<|Kjc<|gA 2 E<|Kiv 3 1 [.box 64 [.pn 0,.sl 1 y34.2.length],rO 5 1 eU y34.2,.box 42 [I x7.At,S x7.Node,S x7.Name,I x7.Value.Kind,I x7.Value.Number,S x7.Value.Words,I x7.Value.Version.1,I x7.Value.Version.2.1,I x7.Value.Version.2.2.1,I x7.Value.Version.2.2.2],.dead] E E E E E E<|gA 4 E ?_
   cases h35
   exact⟨⟨E,E,E,Kfh E (Kfg (nLl hlt hb11)),tV⟩,[_,_],E,.inr ⟨HB.mk E,FB.mk E,Z⟩⟩
  exact gA 6 E<|Kgb E (dF (Int.lt_irrefl _))<|gA 4 E<|⟨⟨E,tV⟩,[],E,.inl E⟩
 refine bK h9 fun y36 hy36 h37=>gA 4 E<|Khc [1,0] (I y36) [.box 64 [.pn 0,.sl 1 q8.length],rO 5 1 eU q8] C (Lcz hy36) E Z E E E E E E E E E E<|gO 3 E<|jC E h37 (fun h38=>?_) fun h39=>bK h39 fun y40 hy40 h41=>gA 4 E<|Khc [1,0] (S y40) [.dead,.dead] C (Kab hy40) E Z E E E E E E E E E E<|gO 5 E<|oSi h41▸gP E E
 exact gA 8 E<|oSi h38▸gP E E
theorem Ldb{n:Int}{low:Int}{high:Int}{r:Bool}(h:Kyk n low high=some r):Pure Tryz.prog 77 [I n,I low,I high] (B r):=by
 unfold Kyk at h
 refine QP Tryz.func77 E E E<|gA 11 E<|Kgf 4 [(6,B false),(14,B ((decide ((low:Int)≤n))&&(decide ((n:Int)≤high))))] [] ?_ ?_
 ·refine Kno E E (fun hb=>?_) (fun hb=>?_)
  ·exact gO 5 E<|⟨⟨E,Kfi E (Khw hb),tV⟩,[],E,.inl E⟩
  exact gO 5 E<|⟨⟨E,Kfi E (Khx hb),tV⟩,[],E,.inl E⟩
 exact gO 4 E<|oSi h▸gP E E
theorem Ldc{v_at:Int}{r:Bool}(h:Kyl v_at=some r):Pure Tryz.prog 35 [I v_at] (B r):=by
 unfold Kyl at h
 exact QP Tryz.func35 E E E<|bK h fun y1 hy1 h2=>gA 8 E<|Khd C (Ldb hy1) E Z E E E E E<|gO 4 E<|oSi h2▸gP E E
theorem Ldd{s:Str}{v_some:Str}{r:Bool}(h:Kym s v_some=some r):Pure Tryz.prog 78 [S s,S v_some] (B r):=by
 unfold Kym at h
 exact QP Tryz.func78 E E E<|bK h fun y1 hy1 h2=>gA 9 E<|Khd C (Ksa hy1) E Z E E E E E<|gO 5 E<|oSi h2▸gP E E
theorem Lde{s:Str}{r:Bool}(h:Kyn s=some r):Pure Tryz.prog 36 [S s] (B r):=by
 unfold Kyn at h
 refine QP Tryz.func36 E E E<|bK h fun y1 hy1 h2=>gA 9 E<|Khd C (Ldb hy1) E Z E E E E E<|gO 1 E<|bK h2 fun q3 hq3 h4=>Kgf 4 [(0,S s),(2,B false),(10,B q3)] [] ?_ ?_
 ·refine Kno E E (fun hb=>?_) (fun hb=>?_)
  ·have h5:=cT hq3 hb
   exact bK h5 fun z6 hz6 h7=>gO 1 E<|Knm E<|eo_o E (Kgs hΓ hz6 E E E E E)<|bK h7 fun y8 hy8 h9=>Knm E<|Khd C (Ldd hy8) E Z E E E E E<|gO 2 E<|oSi h9▸⟨⟨E,E,E,tV⟩,[],E,.inl E⟩
  have h10:=cF hq3 hb
  exact gO 5 E<|oSi h10▸⟨⟨E,E,E,tV⟩,[],E,.inl E⟩
 refine gO 1 E<|bK h4 fun q11 hq11 h12=>Kgf 3 [(2,B false),(14,B q11)] [] ?_ ?_
 ·refine Kno E E (fun hb=>?_) (fun hb=>?_)
  ·have h13:=cT hq11 hb
   exact bK h13 fun y14 hy14 h15=>gO 1 E<|Knm E<|Khd C (Ldd hy14) E Z E E E E E<|gO 2 E<|oSi h15▸⟨⟨E,E,tV⟩,[],E,.inl E⟩
  have h16:=cF hq11 hb
  exact gO 4 E<|oSi h16▸⟨⟨E,E,tV⟩,[],E,.inl E⟩
 exact gO 4 E<|oSi h12▸gP E E
theorem Ldf{n:Int}{low:Int}{high:Int}{r:Bool}(h:Kyo n low high=some r):Pure Tryz.prog 79 [I n,I low,I high] (B r):=by
 unfold Kyo at h
 refine QP Tryz.func79 E E E<|gA 11 E<|Kgf 4 [(6,B false),(14,B ((decide ((low:Int)≤n))&&(decide ((n:Int)≤high))))] [] ?_ ?_
 ·refine Kno E E (fun hb=>?_) (fun hb=>?_)
  ·exact gO 5 E<|⟨⟨E,Kfi E (Khw hb),tV⟩,[],E,.inl E⟩
  exact gO 5 E<|⟨⟨E,Kfi E (Khx hb),tV⟩,[],E,.inl E⟩
 exact gO 4 E<|oSi h▸gP E E
theorem Ldg{k:Nat}{a:Kxc}{r:Int}(h:Kyp k a=some r):Pure Tryz.prog 37 [.agg [I a.Kind,I a.Number,S a.Words,I a.Version.1,I a.Version.2.1,I a.Version.2.2.1,I a.Version.2.2.2]] (I r):=by
 unfold Kyp at h
 refine QP Tryz.func37 E E E<|gA 2 E<|Kow E E E E Z<|bK h fun y1 hy1 h2=>gO 9 E<|Khd C (Ldf hy1) E Z E E E E E<|gO 4 E<|Kfz E (fun hb=>?_) (fun hb=>?_)
 ·have h3:=cT h2 hb
  exact gA 8 E<|oSi h3▸gP E E
 have h4:=cF h2 hb
 refine gA 6 E<|bK h4 fun q5 hq5 h6=>Kgf 5 [(1,.ptr 0 0),(20,B q5)] [.box 40 [I a.Kind,I a.Number,S a.Words,I a.Version.1,I a.Version.2.1,I a.Version.2.2.1,I a.Version.2.2.2]] ?_ ?_
 ·refine Kno E E (fun hb=>?_) (fun hb=>?_)
  ·have h7:=cT hq5 hb
   exact bK h7 fun y8 hy8 h9=>gO 2 E<|Knm E<|Khd C (Ldf hy8) E Z E E E E E<|gO 3 E<|oSi h9▸⟨⟨E,E,tV⟩,[],E,.inl E⟩
  have h10:=cF hq5 hb
  exact gO 6 E<|oSi h10▸⟨⟨E,E,tV⟩,[],E,.inl E⟩
 refine gO 1 E<|bK h6 fun q11 hq11 h12=>Kgf 10 [(1,.ptr 0 0),(31,B q11)] [.box 40 [I a.Kind,I a.Number,S a.Words,I a.Version.1,I a.Version.2.1,I a.Version.2.2.1,I a.Version.2.2.2]] ?_ ?_
 ·refine Kno E E (fun hb=>?_) (fun hb=>?_)
  ·have h13:=cT hq11 hb
   exact gO 11 E<|oSi h13▸⟨⟨E,E,tV⟩,[],E,.inl E⟩
  have h14:=cF hq11 hb
  refine gO 4 E<|bK h14 fun q15 hq15 h16=>Kgf 5 [(1,.ptr 0 0),(21,B false),(30,B q15)] [.box 40 [I a.Kind,I a.Number,S a.Words,I a.Version.1,I a.Version.2.1,I a.Version.2.2.1,I a.Version.2.2.2]] ?_ ?_
  ·refine Kno E E (fun hb=>?_) (fun hb=>?_)
   ·have h17:=cT hq15 hb
    exact bK h17 fun y18 hy18 h19=>gO 2 E<|Knm E<|Khd C (Ldf hy18) E Z E E E E E<|gO 3 E<|oSi h19▸⟨⟨E,E,E,tV⟩,[],E,.inl E⟩
   have h20:=cF hq15 hb
   exact gO 6 E<|oSi h20▸⟨⟨E,E,E,tV⟩,[],E,.inl E⟩
  exact gO 2 E<|oSi h16▸⟨⟨E,E,tV⟩,[],E,.inl E⟩
 refine gO 3 E<|Kfz E (fun hb=>?_) (fun hb=>?_)
 ·have h21:=cT h12 hb
  exact gA 8 E<|oSi h21▸gP E E
 have h22:=cF h12 hb
 refine gA 6 E<|Kgf 4 [(1,.ptr 0 0),(40,B (((a.Kind:Int) != 1)&&((a.Kind:Int) != 3)))] [.box 40 [I a.Kind,I a.Number,S a.Words,I a.Version.1,I a.Version.2.1,I a.Version.2.2.1,I a.Version.2.2.2]] ?_ ?_
 ·refine Kno E E (fun hb=>?_) (fun hb=>?_)
  ·exact gO 5 E<|⟨⟨E,Kfi E (Khw hb),tV⟩,[],E,.inl E⟩
  exact gO 5 E<|⟨⟨E,Kfi E (Khx hb),tV⟩,[],E,.inl E⟩
 refine gO 1 E<|Kgf 4 [(1,.ptr 0 0),(45,B ((((a.Kind:Int) != 1)&&((a.Kind:Int) != 3))&&((a.Number:Int) != 0)))] [.box 40 [I a.Kind,I a.Number,S a.Words,I a.Version.1,I a.Version.2.1,I a.Version.2.2.1,I a.Version.2.2.2]] ?_ ?_
 ·refine Kno E E (fun hb=>?_) (fun hb=>?_)
  ·exact gO 5 E<|⟨⟨E,Kfi E (Khw hb),tV⟩,[],E,.inl E⟩
  exact gO 5 E<|⟨⟨E,Kfi E (Khx hb),tV⟩,[],E,.inl E⟩
 refine gO 3 E<|Kfz E (fun hb=>?_) (fun hb=>?_)
 ·have h23:=cT h22 hb
  exact gA 8 E<|oSi h23▸gP E E
 have h24:=cF h22 hb
 refine gA 6 E<|Kgf 4 [(1,.ptr 0 0),(54,B (((a.Kind:Int) != 2)&&(!((a.Words:Str)==[]))))] [.box 40 [I a.Kind,I a.Number,S a.Words,I a.Version.1,I a.Version.2.1,I a.Version.2.2.1,I a.Version.2.2.2]] ?_ ?_
 ·refine Kno E E (fun hb=>?_) (fun hb=>?_)
  ·exact gO 5 E<|⟨⟨E,Kfi E (Khw hb),tV⟩,[],E,.inl E⟩
  exact gO 5 E<|⟨⟨E,Kfi E (Khx hb),tV⟩,[],E,.inl E⟩
 refine gO 1 E<|Kgf 5 [(1,.ptr 0 0),(60,B ((((a.Kind:Int) != 2)&&(!((a.Words:Str)==[])))||(decide (((a.Words.length:Int):Int)>100))))] [.box 40 [I a.Kind,I a.Number,S a.Words,I a.Version.1,I a.Version.2.1,I a.Version.2.2.1,I a.Version.2.2.2]] ?_ ?_
 ·refine Kno E E (fun hb=>?_) (fun hb=>?_)
  ·exact gO 6 E<|⟨⟨E,Kfi E (or_t hb),tV⟩,[],E,.inl E⟩
  exact gO 6 E<|⟨⟨E,Kfi E (or_f hb),tV⟩,[],E,.inl E⟩
 refine gO 3 E<|Kfz E (fun hb=>?_) (fun hb=>?_)
 ·have h25:=cT h24 hb
  exact gA 8 E<|oSi h25▸gP E E
 have h26:=cF h24 hb
 refine gA 12 E<|bK h26 fun q30 hq30 h31=>gK hq30 fun hb33 h34=>?_
 replace hb33:=of_decide_eq_true hb33
 refine Kjx (R:=fun a32=>q30=.go a32) (fun a32=>[(1,.ptr 0 0)]) (fun a32=>[.box 40 [I a.Kind,I a.Number,S a.Words,I a.Version.1,I a.Version.2.1,I a.Version.2.2.1,I a.Version.2.2.2]]) ?_ ?_
 ·refine gA 1 E<|Khu h34 (fun i27 s28=>[(1,.ptr 0 0),(63,I (a.Words.length:Int)),(64,I (i27:Int))]) (fun s28=>[.box 40 [I a.Kind,I a.Number,S a.Words,I a.Version.1,I a.Version.2.1,I a.Version.2.2.1,I a.Version.2.2.2]]) ⟨⟨E,E,E,tV⟩,[],E,.inl E⟩ (fun i27 s28 y38 hlt hy36 hout37=>?_) (fun s28 hgo hge=>?_)
  ·refine gA 6 E<|Kga E (dT hlt)<|bK hy36 fun c39 hc39 h40=>gA 15 E<|eo_o E (Kgr hΓ hc39 E E E E)<|bK h40 fun y41 hy41 h42=>gO 1 E<|Khd C (Ldf hy41) E Z E E E E E<|gO 3 E<|jC E h42 (fun h43=>?_) fun h46=>gA 7 E<|oSi h46▸⟨_,E,⟨⟨E,E,Kfh E (Kfg (by omega)),tV⟩,[],E,.inl E⟩⟩
   refine gA 8 E<|bK h43 fun v44 hv44 h45=>?_
   cases h45
   obtain rfl:=hout37 _ rfl
   cases h31
   exact gA 4 E<|oSi hv44▸gP E E
  subst hgo
  exact gA 6 E<|Kgb E (dF hge)<|gA 4 E<|⟨_,E,⟨⟨E,tV⟩,[],E,.inl E⟩⟩
 intro a32 ha
 subst ha
 replace h31:=Kju h31
 refine gA 9 E<|bK h31 fun q50 hq50 h51=>Kjx (R:=fun a52=>q50=.inl a52) (fun a52=>[(1,.ptr 0 0)]) (fun a52=>[.box 40 [I a.Kind,I a.Number,S a.Words,I a.Version.1,I a.Version.2.1,I a.Version.2.2.1,I a.Version.2.2.2]]) ?_ ?_
 ·refine gA 1 E<|Kgm hq50 (fun s48=>[(1,.ptr 0 0),(76,.agg [I a.Version.1,I a.Version.2.1,I a.Version.2.2.1,I a.Version.2.2.2]),(77,I s48)]) (fun s48=>[.box 40 [I a.Kind,I a.Number,S a.Words,I a.Version.1,I a.Version.2.1,I a.Version.2.2.1,I a.Version.2.2.2]]) ⟨⟨E,E,E,tV⟩,[],E,.inl E⟩ (fun s48 y56 hy54 hout55=>?_)
  refine gA 6 E<|jC E hy54 (fun h57=>?_) fun h70=>gA 4 E ?_
  ·refine bK h57 fun x58 hx58 h59=>gA 6 E<|eo_o E (Kkk hΓ (enc:=(eN .i64)) [a.Version.1,a.Version.2.1,a.Version.2.2.1,a.Version.2.2.2] hx58 E E E E E E E (fun _=>E) E)<|gO 9 E<|bK h59 fun q60 hq60 h61=>Kgf 4 [(1,.ptr 0 0),(76,.agg [I a.Version.1,I a.Version.2.1,I a.Version.2.2.1,I a.Version.2.2.2]),(77,I s48),(87,B q60)] [.box 40 [I a.Kind,I a.Number,S a.Words,I a.Version.1,I a.Version.2.1,I a.Version.2.2.1,I a.Version.2.2.2]] ?_ ?_
   ·refine Kno E E (fun hb=>?_) (fun hb=>?_)
    ·have h62:=cT hq60 hb
     exact bK h62 fun y63 hy63 h64=>gO 1 E<|Knm E<|Khd C (Ldf hy63) E Z E E E E E<|gO 3 E<|oSi h64▸⟨⟨E,E,E,E,tV⟩,[],E,.inl E⟩
    have h65:=cF hq60 hb
    exact gO 5 E<|oSi h65▸⟨⟨E,E,E,E,tV⟩,[],E,.inl E⟩
   refine gO 2 E<|jC E h61 (fun h66=>?_) fun h69=>gA 7 E<|oSi h69▸⟨_,E,⟨⟨E,E,E,tV⟩,[],E,.inl E⟩⟩
   refine gA 8 E<|bK h66 fun v67 hv67 h68=>?_
   cases h68
   obtain rfl:=hout55 _ rfl
   cases h51
   exact gA 4 E<|oSi hv67▸gP E E
  cases h70
  obtain rfl:=hout55 _ rfl
  exact⟨_,E,⟨⟨E,tV⟩,[],E,.inl E⟩⟩
 intro a52 ha
 subst ha
 replace h51:=Kjt h51
 refine gA 8 E<|Kgf 5 [(97,B (((a.Kind:Int) != 4)&&(!decide (([a.Version.1,a.Version.2.1,a.Version.2.2.1,a.Version.2.2.2]:List Int)=([0,0,0,0]:List Int)))))] [.box 40 [I a.Kind,I a.Number,S a.Words,I a.Version.1,I a.Version.2.1,I a.Version.2.2.1,I a.Version.2.2.2]] ?_ ?_
 ·refine Kno E E (fun hb=>?_) (fun hb=>?_)
  ·exact gO 2 E<|Knm E<|eo_o E (Kkl hΓ (gs:=[I 0,I 0,I 0,I 0]) E E E E E E)<|Knm E<|eo_o E (Klc hΓ (l1:=([a.Version.1,a.Version.2.1,a.Version.2.2.1,a.Version.2.2.2]:List Int)) (l2:=([0,0,0,0]:List Int)) E E E E E (by kernel_rfl) E E E E E E)<|gO 2 E<|⟨⟨Kfi E (Khw hb),tV⟩,[],E,.inl E⟩
  exact gO 6 E<|⟨⟨Kfi E (Khx hb),tV⟩,[],E,.inl E⟩
 refine gO 2 E<|jC E h51 (fun h71=>?_) fun h72=>gA 8 E<|oSi h72▸gP E E
 exact gA 7 E<|oSi h71▸gP E E
theorem Ldh{a:Kxd}{b:Kxd}{r:Int}(h:Kyq a b=some r):Pure Tryz.prog 38 [.agg [I a.At,S a.Node,S a.Name,I a.Value.Kind,I a.Value.Number,S a.Value.Words,I a.Value.Version.1,I a.Value.Version.2.1,I a.Value.Version.2.2.1,I a.Value.Version.2.2.2],.agg [I b.At,S b.Node,S b.Name,I b.Value.Kind,I b.Value.Number,S b.Value.Words,I b.Value.Version.1,I b.Value.Version.2.1,I b.Value.Version.2.2.1,I b.Value.Version.2.2.2]] (I r):=by
 unfold Kyq at h
 exact QP Tryz.func38 E E E<|gA 2 E<|Kow E E E E Z<|Kow E E E E Z<|gO 4 E<|jD<|bK h fun y1 hy1 h2=>gA 4 E<|Khe C (Lcq hy1) E E E E E E<|bK h2 fun y3 hy3 h4=>Kfx hΓ 4 E<|Khe C (Kso hy3) E E E E E E<|bK h4 fun y5 hy5 h6=>Kfx hΓ 4 E<|Khe C (Kso hy5) E E E E E E<|Kgy hΓ (enc:=(eN .i64)) [y1,y3,y5] E E E E E E E E E E E E<|bK h6 fun y7 hy7 h8=>Khe C (Lcr hy7) E E E E E E<|Kfx hΓ 4 E<|oSi h8▸gP E E
theorem Ldi{k:Nat}{l:List Kxd}{r:Int}(h:Kyr k l=some r):Pure Tryz.prog 8 [.d (Sl Lbw l)] (I r):=by
 unfold Kyr at h
 refine QP Tryz.func8 E E E<|gA 13 E<|jC E h (fun h1=>?_) fun h2=>gA 10 E<|bK h2 fun q6 hq6 h7=>Kgp 0 E fun hb9=>Kjx (R:=fun a8=>q6=.go a8) (fun a8=>[]) (fun a8=>[]) ?_ ?_
 ·exact gA 7 E<|oSi h1▸gP E E
 ·refine gA 1 E<|Kgo l hq6 (fun i3 s4=>[(0,.d (Sl Lbw l)),(9,.d (Sl Lbw l)),(10,I (l.length:Int)),(11,I (i3:Int))]) (fun s4=>[]) ⟨⟨E,E,E,E,tV⟩,[],E,.inl E⟩ (fun i3 x5 s4 y13 hx10 hlt hy11 hout12=>?_) (fun s4 hgo=>?_)
  ·refine gA 6 E<|Kga E (dT (Int.ofNat_lt.2 hlt))<|gA 7 E<|eo_o E (Kgq hΓ (enc:=Lbw) (Kgj hx10) E E E E E (fun _=>E))<|gO 1 E<|Kov hΓ E E E Z<|gO 1 E<|Kpa hΓ E E E E E E E E Z<|Khk [.box 42 [I x5.At,S x5.Node,S x5.Name,I x5.Value.Kind,I x5.Value.Number,S x5.Value.Words,I x5.Value.Version.1,I x5.Value.Version.2.1,I x5.Value.Version.2.2.1,I x5.Value.Version.2.2.2]] E<|bK hy11 fun y14 hy14 h15=>gO 8 E<|Khd C (Ldc hy14) E Z E E E E E<|gO 4 E<|jC E h15 (fun h16=>?_) fun h19=>bK h19 fun y20 hy20 h21=>gA 4 E<|Khd C (Lde hy20) E Z E E E E E<|gO 2 E<|bK h21 fun q22 hq22 h23=>Kgf 5 [(0,.d (Sl Lbw l)),(3,I (i3:Int)),(4,.ptr 0 0),(9,.d (Sl Lbw l)),(10,I (l.length:Int)),(11,I (i3:Int)),(31,B q22)] [.box 42 [I x5.At,S x5.Node,S x5.Name,I x5.Value.Kind,I x5.Value.Number,S x5.Value.Words,I x5.Value.Version.1,I x5.Value.Version.2.1,I x5.Value.Version.2.2.1,I x5.Value.Version.2.2.2]] ?_ ?_
   ·refine gA 10 E<|bK h16 fun v17 hv17 h18=>?_
    cases h18
    obtain rfl:=hout12 _ rfl
    cases h7
    exact gA 4 E<|oSi hv17▸gP E E
   ·refine Kno E E (fun hb=>?_) (fun hb=>?_)
    ·have h24:=cT hq22 hb
     exact gO 6 E<|oSi h24▸⟨⟨E,E,E,E,E,E,E,tV⟩,[],E,.inl E⟩
    have h25:=cF hq22 hb
    exact bK h25 fun y26 hy26 h27=>gO 2 E<|Knm E<|Khd C (Lde hy26) E Z E E E E E<|gO 3 E<|oSi h27▸⟨⟨E,E,E,E,E,E,E,tV⟩,[],E,.inl E⟩
   refine gO 3 E<|jC E h23 (fun h28=>?_) fun h31=>bK h31 fun y32 hy32 h33=>gA 8 E<|Khd C (Ldg hy32) E Z E E E E E<|gO 9 E<|jC E h33 (fun h34=>?_) fun h37=>?_
   ·refine gA 10 E<|bK h28 fun v29 hv29 h30=>?_
    cases h30
    obtain rfl:=hout12 _ rfl
    cases h7
    exact gA 4 E<|oSi hv29▸gP E E
   ·refine gA 10 E<|bK h34 fun v35 hv35 h36=>?_
    cases h36
    obtain rfl:=hout12 _ rfl
    cases h7
    exact gA 4 E<|oSi hv35▸gP E E
   refine bK h37 fun q38 hq38 h39=>gA 3 E<|Kjy [(0,.d (Sl Lbw l)),(9,.d (Sl Lbw l)),(10,I (l.length:Int)),(11,I (i3:Int)),(49,B q38)] [.box 42 [I x5.At,S x5.Node,S x5.Name,I x5.Value.Kind,I x5.Value.Number,S x5.Value.Words,I x5.Value.Version.1,I x5.Value.Version.2.1,I x5.Value.Version.2.2.1,I x5.Value.Version.2.2.2]] ?_ ?_
   ·refine jD<|gA 3 E<|Keq E E (fun hb=>?_) (fun hb=>?_)
    ·have h40:=cT hq38 hb
     exact bK h40 fun x41 hx41 h42=>Kfx hΓ 3 E<|Kfj E E (Kgq hΓ (enc:=Lbw) hx41 E E E E E (fun _=>E))<|bK h42 fun y43 hy43 h44=>Kfx hΓ 2 E<|Khf C (Ldh hy43) E E E E E E E<|Kfx hΓ 3 E<|oSi h44▸⟨⟨E,E,E,E,E,tV⟩,[],E,.inl E⟩
    have h45:=cF hq38 hb
    exact Kfx hΓ 10 E<|oSi h45▸⟨⟨E,E,E,E,E,tV⟩,[],E,.inl E⟩
   refine gA 1 E<|jC E h39 (fun h46=>?_) fun h49=>gA 7 E ?_
   ·refine gA 8 E<|bK h46 fun v47 hv47 h48=>?_
    cases h48
    obtain rfl:=hout12 _ rfl
    cases h7
    exact gA 4 E<|oSi hv47▸gP E E
   cases h49
   exact⟨_,E,⟨⟨E,E,E,Kfh E (Kfg (nLl hlt hb9)),tV⟩,[_],E,.inr ⟨HB.mk E,FB.mk E,Z⟩⟩⟩
  subst hgo
  exact gA 6 E<|Kgb E (dF (Int.lt_irrefl _))<|gA 4 E<|⟨_,E,⟨tV,[],E,.inl E⟩⟩
 intro a8 ha
 subst ha
 replace h7:=Kju h7
 exact gA 7 E<|oSi h7▸gP E E
theorem Ldj{k:Nat}{a:Kxc}{r:Str}(h:Kys k a=some r):Pure Tryz.prog 39 [.agg [I a.Kind,I a.Number,S a.Words,I a.Version.1,I a.Version.2.1,I a.Version.2.2.1,I a.Version.2.2.2]] (S r):=by
 unfold Kys at h
 refine QP Tryz.func39 E E E<|gA 2 E<|Kow E E E E Z<|gO 17 E<|jC E h (fun h1=>?_) fun h4=>gA 6 E<|jC E h4 (fun h5=>?_) fun h8=>?_
 ·exact bK h1 fun y2 hy2 h3=>gA 4 E<|Khd C (Ksf hy2) E Z E E E E E<|gO 6 E<|oSi h3▸gP E E
 ·exact gA 2 E<|Kgx hΓ (enc:=eS) [[102,97,108,115,101],[116,114,117,101]] E E E E E E E E E E E E Z<|bK h5 fun x6 hx6 h7=>gO 2 E<|eo_o E (Kgq hΓ (enc:=eS) hx6 E E E E E (fun _=>E))<|gO 7 E<|oSi h7▸gP E E
 refine gA 6 E<|jC E h8 (fun h9=>?_) fun h32=>bK h32 fun y33 hy33 h34=>gA 7 E<|Khd C (Ksj hy33) E Z E E E E E<|bK h34 fun y35 hy35 h36=>Khd C (Ksj hy35) E Z E E E E E<|bK h36 fun y37 hy37 h38=>eo_o E (Khn hy37 E E)<|bK h38 fun y39 hy39 h40=>eo_o E (Khn hy39 E E)<|gO 4 E<|oSi h40▸gP E E
 refine gA 2 E<|Kha (t:=0) 9 1 E Z<|gO 10 E<|bK h9 fun q13 hq13 h14=>Kjy [(3,.sl 1 q13.length)] [.box 40 [I a.Kind,I a.Number,S a.Words,I a.Version.1,I a.Version.2.1,I a.Version.2.2.1,I a.Version.2.2.2],rO 9 1 eS q13] ?_ ?_
 ·refine gA 1 E<|Kgm hq13 (fun s11=>[(3,.sl 1 s11.1.length),(23,.agg [I a.Version.1,I a.Version.2.1,I a.Version.2.2.1,I a.Version.2.2.2]),(24,I s11.2)]) (fun s11=>[.box 40 [I a.Kind,I a.Number,S a.Words,I a.Version.1,I a.Version.2.1,I a.Version.2.2.1,I a.Version.2.2.2],rO 9 1 eS s11.1]) ⟨⟨E,E,E,tV⟩,[],E,.inl E⟩ (fun s11 y19 hy17 hout18=>?_)
  refine gA 6 E<|jC E hy17 (fun h20=>?_) fun h27=>gA 4 E ?_
  ·exact bK h20 fun x21 hx21 h22=>gA 6 E<|eo_o E (Kkk hΓ (enc:=(eN .i64)) [a.Version.1,a.Version.2.1,a.Version.2.2.1,a.Version.2.2.2] hx21 E E E E E E E (fun _=>E) E)<|bK h22 fun y23 hy23 h24=>gO 6 E<|Khd C (Ksf hy23) E Z E E E E E<|Kgx hΓ (enc:=eS) [y23] E E E E E E E E E E E E Z<|bK h24 fun y25 hy25 h26=>Khl hΓ (enc:=eS) hy25 E E E E E E E E E (fun _=>E) E E E E<|gO 8 E<|oSi h26▸⟨_,E,⟨⟨E,E,E,tV⟩,[],E,.inl E⟩⟩
  cases h27
  obtain rfl:=hout18 _ rfl
  exact⟨⟨E,tV⟩,[],E,.inl E⟩
 exact bK h14 fun y28 hy28 h29=>gA 4 E<|Khg C (Ksk hy28) E Z E E E E E<|bK h29 fun y30 hy30 h31=>eo_o E (Khn hy30 E E)<|gO 6 E<|oSi h31▸gP E E
theorem Ldk{k:Nat}{l:List Kxd}{r:Str}(h:Kyt k l=some r):Pure Tryz.prog 9 [.d (Sl Lbw l)] (S r):=by
 unfold Kyt at h
 refine QP Tryz.func9 E E E<|gA 7 E<|eo_s Z (nblt.1 E) (Kkw hΓ [1] [.d (.v (.pointer none)),.d (.v (.slice none 0 0))] (hi:=show Γ 64=some ⟨_,_,_,_⟩ from E) E ⟨.refl _,.refl _,tV⟩)<|Khk [.box 64 [.d (.v (.pointer none)),.d (.v (.slice none 0 0))]] E<|gO 2 E<|Klq 0 0 [.box 64 [.pn 0,.d (.v (.slice none 0 0))]] E E E<|Kle 0 1 5 1 [.box 64 [.pn 0,.sl 1 ([]:Str).length],rO 5 1 eU ([]:Str)] E E E Z<|gA 8 E<|bK h fun q4 hq4 h5=>Kgp 6 E fun hb7=>Kjy [(3,.ptr 0 0)] [.box 64 [.pn 0,.sl 1 q4.length],rO 5 1 eU q4] ?_ ?_
 ·refine gA 1 E<|Kht l hq4 (fun i1 s2=>[(3,.ptr 0 0),(6,.d (Sl Lbw l)),(7,I (l.length:Int)),(8,I (i1:Int))]) (fun s2=>[.box 64 [.pn 0,.sl 1 s2.length],rO 5 1 eU s2]) ⟨⟨E,E,E,E,tV⟩,[],E,.inl E⟩ (fun i1 x3 s2 y11 hx8 hlt hy9=>?_) (?_)
  ·refine gA 6 E<|Kga E (dT (Int.ofNat_lt.2 hlt))<|gA 6 E<|eo_o E (Kgq hΓ (enc:=Lbw) (Kgj hx8) E E E E E (fun _=>E))<|gO 1 E<|Kov hΓ E E E Z<|Kpa hΓ E E E E E E E E Z<|Khk [.box 64 [.pn 0,.sl 1 s2.length],rO 5 1 eU s2,.box 42 [I x3.At,S x3.Node,S x3.Name,I x3.Value.Kind,I x3.Value.Number,S x3.Value.Words,I x3.Value.Version.1,I x3.Value.Version.2.1,I x3.Value.Version.2.2.1,I x3.Value.Version.2.2.2]] E<|gO 2 E<|Kjb [.dead,.dead,.box 42 [I x3.At,S x3.Node,S x3.Name,I x3.Value.Kind,I x3.Value.Number,S x3.Value.Words,I x3.Value.Version.1,I x3.Value.Version.2.1,I x3.Value.Version.2.2.1,I x3.Value.Version.2.2.2]] [1,5,9,13] [17] [] hmix (by kernel_rfl) (by kernel_rfl) ⟨E,tV⟩ Z<|bK hy9 fun y12 hy12 h13=>go_E hΓ 2 E<|Kjp C (Ksf hy12) E E E E E E<|bK h13 fun y14 hy14 h15=>ge_q E (.inl E) (fun _ _=>Kjd (qt_p (Khn hy14 E E)))<|bK h15 fun y16 hy16 h17=>go_E hΓ 2 E<|ge_q E (.inl E) (fun _ _=>Kjd (qt_p (Khn hy16 E E)))<|bK h17 fun y18 hy18 h19=>ge_q E (.inl E) (fun _ _=>Kjd (qt_p (Khn hy18 E E)))<|bK h19 fun y20 hy20 h21=>go_E hΓ 2 E<|ge_q E (.inl E) (fun _ _=>Kjd (qt_p (Khn hy20 E E)))<|bK h21 fun y22 hy22 h23=>ge_q E (.inl E) (fun _ _=>Kjd (qt_p (Khn hy22 E E)))<|bK h23 fun y24 hy24 h25=>go_E hΓ 2 E<|Kjp C (Ldj hy24) E E E E E E<|bK h25 fun y26 hy26 h27=>ge_q E (.inl E) (fun _ _=>Kjd (qt_p (Khn hy26 E E)))<|bK h27 fun y28 hy28 h29=>ge_q E (.inl E) (fun _ _=>Kjd (qt_p (Khn hy28 E E)))<|bK h29 fun y30 hy30 h31=>ge_h [.box 64 [.pn 0,.sl 3 y30.2.length],.dead,.box 42 [I x3.At,S x3.Node,S x3.Name,I x3.Value.Kind,I x3.Value.Number,S x3.Value.Words,I x3.Value.Version.1,I x3.Value.Version.2.1,I x3.Value.Version.2.2.1,I x3.Value.Version.2.2.2],rO 5 1 eU y30.2] E E E (Kjj ⟨E,tV⟩) (Kjo [1,0] (.tup [I y30.1,.d (.v .nilIface)]) [.box 64 [.pn 0,.sl 3 y30.2.length],.dead,.box 42 [I x3.At,S x3.Node,S x3.Name,I x3.Value.Kind,I x3.Value.Number,S x3.Value.Words,I x3.Value.Version.1,I x3.Value.Version.2.1,I x3.Value.Version.2.2.1,I x3.Value.Version.2.2.2],rO 5 1 eU y30.2] C (Lcy hy30) E E E E E E E E E E)<|Kjc<|gA 2 E<|Kiv 3 1 [.box 64 [.pn 0,.sl 1 y30.2.length],rO 5 1 eU y30.2,.box 42 [I x3.At,S x3.Node,S x3.Name,I x3.Value.Kind,I x3.Value.Number,S x3.Value.Words,I x3.Value.Version.1,I x3.Value.Version.2.1,I x3.Value.Version.2.2.1,I x3.Value.Version.2.2.2],.dead] E E E E E E<|gA 4 E ?_
   cases h31
   exact⟨⟨E,E,E,Kfh E (Kfg (nLl hlt hb7)),tV⟩,[_,_],E,.inr ⟨HB.mk E,FB.mk E,Z⟩⟩
  exact gA 6 E<|Kgb E (dF (Int.lt_irrefl _))<|gA 4 E<|⟨⟨E,tV⟩,[],E,.inl E⟩
 exact bK h5 fun y32 hy32 h33=>gA 3 E<|Khc [1,0] (S y32) [.dead,.dead] C (Kab hy32) E Z E E E E E E E E E E<|gO 4 E<|oSi h33▸gP E E
theorem Ldl{s:Kxb}{t:Str}{v_with:Str}{r:Str×Kxb}(h:Kyu s t v_with=some r):EC Tryz.prog 40 [.ptr 0 0,S t,S v_with] [.box 25 (fQ s)] fun g hp'=>g=S r.1∧hp'=[.box 25 (fQ r.2)]:=by
 unfold Kyu at h
 refine QN Tryz.func40 E Z<|gA 11 E<|Kgf 3 [(0,.ptr 0 0),(1,S t),(2,S v_with),(14,B (((t:Str)==[])||((v_with:Str)==[])))] [.box 25 (fQ s)] ?_ ?_
 ·refine Kno E E (fun hb=>?_) (fun hb=>?_)
  ·exact gO 4 E<|⟨⟨E,E,E,Kfi E (or_t hb),tV⟩,[],E,.inl E⟩
  exact gO 4 E<|⟨⟨E,E,E,Kfi E (or_f hb),tV⟩,[],E,.inl E⟩
 refine gO 2 E<|jC E h (fun h1=>?_) fun h2=>bK h2 fun y3 hy3 h4=>gA 7 E<|Khc [0] (I y3.1) [.box 25 (fQ y3.2)] C (Lcc hy3) E Z E E E E E E E E E E<|bK h4 fun y5 hy5 h6=>gO 9 E<|Khc [0] (I y5.1) [.box 25 (fQ y5.2)] C (Lcc hy5) E Z E E E E E E E E E E<|bK h6 fun c7 hc7 h8=>eo_o E (Kgr hΓ hc7 E E E E)<|bK h8 fun y9 hy9 h10=>gO 7 E<|Khc [0] (I y9.1) [.box 25 (fQ y9.2)] C (Lcc hy9) E Z E E E E E E E E E E<|gO 9 E<|jC E h10 (fun h11=>?_) fun h20=>?_
 ·exact gA 8 E<|oSi h1▸Khr hΓ [] (.inr E) E E E E (.inl E)
 ·exact gA 1 E<|jD<|bK h11 fun z12 hz12 h13=>gA 2 E<|gl_o E (Kgs hΓ hz12 E E E E E)<|Kfx hΓ 2 E<|gl_o E (Kko hΓ E E E E E)<|bK h13 fun y14 hy14 h15=>gl_o E (Khn hy14 E E)<|bK h15 fun z16 hz16 h17=>Kfx hΓ 3 E<|gl_o E (Kgs hΓ hz16 E E E E E)<|bK h17 fun y18 hy18 h19=>gl_o E (Khn hy18 E E)<|Kfx hΓ 6 E<|oSi h19▸Khr hΓ [] (.inr E) E E E E (.inl E)
 refine gA 6 E<|jC E h20 (fun h21=>?_) fun h30=>gA 4 E<|jD<|bK h30 fun z31 hz31 h32=>gA 2 E<|gl_o E (Kgs hΓ hz31 E E E E E)<|bK h32 fun z33 hz33 h34=>Kfx hΓ 3 E<|gl_o E (Kgs hΓ hz33 E E E E E)<|bK h34 fun y35 hy35 h36=>gl_o E (Khn hy35 E E)<|Kfx hΓ 4 E<|oSi h36▸Khr hΓ [] (.inr E) E E E E (.inl E)
 exact gA 1 E<|jD<|bK h21 fun z22 hz22 h23=>gA 2 E<|gl_o E (Kgs hΓ hz22 E E E E E)<|Kfx hΓ 2 E<|gl_o E (Kko hΓ E E E E E)<|bK h23 fun y24 hy24 h25=>gl_o E (Khn hy24 E E)<|bK h25 fun z26 hz26 h27=>Kfx hΓ 2 E<|gl_o E (Kgs hΓ hz26 E E E E E)<|bK h27 fun y28 hy28 h29=>gl_o E (Khn hy28 E E)<|Kfx hΓ 6 E<|oSi h29▸Khr hΓ [] (.inr E) E E E E (.inl E)
theorem Ldm{k:Nat}{s:Kxb}{r:Str×Kxb}(h:Kyv k s=some r):EC Tryz.prog 10 [.ptr 0 0] [.box 25 (fQ s)] fun g hp'=>g=S r.1∧hp'=[.box 25 (fQ r.2)]:=by
 unfold Kyv at h
 refine QN Tryz.func10 E Z<|bK h fun y1 hy1 h2=>gA 9 E<|Khc [0] (I y1.1) [.box 25 (fQ y1.2)] C (Lcd hy1) E Z E E E E E E E E E E<|bK h2 fun y3 hy3 h4=>Khc [0] (.sl 1 y3.1.length) [.box 25 (fQ y3.2),rO 42 10 Lbw y3.1] C (Lcj hy3) E Z E E E E E E E E E E<|Khj 1 [8] _ [.box 25 (fQ y3.2),.dead] E E E Z<|bK h4 fun y5 hy5 h6=>gO 12 E<|Khd C (Ldi hy5) E Z E E E E E<|bK h6 fun q7 hq7 h8=>gO 3 E<|Kjy [(0,.ptr 0 0),(4,S q7)] [.box 25 (fQ y3.2),.dead] ?_ ?_
 ·refine jC E hq7 (fun h9=>?_) fun h12=>gA 1 E<|oSi h12▸⟨⟨E,E,tV⟩,[],E,.inl E⟩
  exact bK h9 fun y10 hy10 h11=>gA 2 E<|Khd C (Ldk hy10) E Z E E E E E<|gO 2 E<|oSi h11▸⟨⟨E,E,tV⟩,[],E,.inl E⟩
 refine gA 5 E<|Kgx hΓ (enc:=(eN .i64)) [0,0,1,2] E E E E E E E E E E E E Z<|bK h8 fun y13 hy13 h14=>Khc [0] (I y13.1) [.box 25 (fQ y13.2),.dead] C (Lcg hy13) E Z E E E E E E E E E E<|gO 3 E<|bK h14 fun q18 hq18 h19=>gK hq18 fun hb21 h22=>?_
 replace hb21:=of_decide_eq_true hb21
 refine Kjy [(4,S q18.2)] [.box 25 (fQ q18.1),.dead] ?_ ?_
 ·refine gA 1 E<|Khv h22 (fun i15 s16=>[(0,.ptr 0 0),(4,S s16.2),(16,I y13.1),(17,I (i15:Int))]) (fun s16=>[.box 25 (fQ s16.1),.dead]) ⟨⟨E,E,E,E,tV⟩,[],E,.inl E⟩ (fun i15 s16 y26 hlt hy24=>?_) (fun hge=>?_)
  ·exact gA 6 E<|Kga E (dT hlt)<|bK hy24 fun y27 hy27 h28=>gA 7 E<|Khc [0] (S y27.1) [.box 25 (fQ y27.2),.dead] C (Ldl hy27) E Z E E E E E E E E E E<|gO 8 E<|oSi h28▸⟨⟨E,E,E,Kfh E (Kfg (by omega)),tV⟩,[],E,.inl E⟩
  exact gA 6 E<|Kgb E (dF hge)<|gA 4 E<|⟨⟨E,tV⟩,[],E,.inl E⟩
 exact gA 8 E<|oSi h19▸Khr hΓ [_] (.inr E) E E E E (.inr ⟨HB.mk E,E⟩)
theorem Ldn{s:Str}{r:(List Str)×Bool}(h:Kyw s=some r):Pure Tryz.prog 41 [S s] (.tup [.d (Sl eS r.1),B r.2]):=by
 unfold Kyw at h
 refine QP Tryz.func41 E E E<|bK h fun y1 hy1 h2=>gA 9 E<|Khd C (Pure.rows (Ksb hy1) E E) E Z E E E E E<|bK h2 fun x3 hx3 h4=>gO 16 E<|eo_o E (Kgq hΓ (enc:=eS) hx3 E E E E E (fun _=>E))<|gO 4 E<|jC E h4 (fun h5=>?_) fun h8=>gA 10 E<|oSi h8▸gP E E
 exact bK h5 fun z6 hz6 h7=>gA 4 E<|eo_o E (Kgw hΓ (enc:=eS) hz6 E E E E E E (fun _=>E))<|gO 6 E<|oSi h7▸gP E E
theorem Ldo{s:List Str}{v:Str}{r:Int}(h:Kyx s v=some r):Pure Tryz.prog 89 [.d (Sl eS s),S v] (I r):=by
 unfold Kyx at h
 refine QP Tryz.func89 E E E<|gA 13 E<|bK h fun q4 hq4 h5=>Kgp 0 E fun hb7=>Kjx (R:=fun a6=>q4=.go a6) (fun a6=>[]) (fun a6=>[]) ?_ ?_
 ·refine gA 1 E<|Kgo s hq4 (fun i1 s2=>[(0,.d (Sl eS s)),(1,S v),(7,I (s.length:Int)),(8,I (i1:Int))]) (fun s2=>[]) ⟨⟨E,E,E,E,tV⟩,[],E,.inl E⟩ (fun i1 x3 s2 y11 hx8 hlt hy9 hout10=>?_) (fun s2 hgo=>?_)
  ·refine gA 6 E<|Kga E (dT (Int.ofNat_lt.2 hlt))<|gA 15 E<|eo_o E (Kgq hΓ (enc:=eS) (Kgj hx8) E E E E E (fun _=>E))<|gO 4 E<|jC E hy9 (fun h12=>?_) fun h15=>gA 7 E ?_
   ·refine gA 9 E<|bK h12 fun v13 hv13 h14=>?_
    cases h14
    obtain rfl:=hout10 _ rfl
    cases h5
    exact gA 4 E<|oSi hv13▸gP E E
   cases h15
   exact⟨_,E,⟨⟨E,E,E,Kfh E (Kfg (nLl hlt hb7)),tV⟩,[],E,.inl E⟩⟩
  subst hgo
  exact gA 6 E<|Kgb E (dF (Int.lt_irrefl _))<|gA 4 E<|⟨_,E,⟨tV,[],E,.inl E⟩⟩
 intro a6 ha
 subst ha
 replace h5:=Kju h5
 exact gA 7 E<|oSi h5▸gP E E
theorem Ldp{s:List Str}{v:Str}{r:Bool}(h:Kyy s v=some r):Pure Tryz.prog 46 [.d (Sl eS s),S v] (B r):=by
 unfold Kyy at h
 exact QP Tryz.func46 E E E<|bK h fun y1 hy1 h2=>gA 9 E<|Khd C (Ldo hy1) E Z E E E E E<|gO 5 E<|oSi h2▸gP E E
theorem Ldq{k:Nat}{s:Str}{most:Int}{r:Int×Bool}(h:Kyz k s most=some r):Pure Tryz.prog 119 [S s,I most] (.tup [I r.1,B r.2]):=by
 unfold Kyz at h
 refine QP Tryz.func119 E E E<|bK h fun y1 hy1 h2=>gA 9 E<|Khd C (Krz hy1) E Z E E E E E<|gO 9 E<|Kgf 5 [(0,S s),(6,S y1),(19,B (((y1:Str)==[])||(decide (((y1.length:Int):Int)>most))))] [] ?_ ?_
 ·refine Kno E E (fun hb=>?_) (fun hb=>?_)
  ·exact gO 6 E<|⟨⟨E,E,Kfi E (or_t hb),tV⟩,[],E,.inl E⟩
  exact gO 6 E<|⟨⟨E,E,Kfi E (or_f hb),tV⟩,[],E,.inl E⟩
 refine gO 1 E<|bK h2 fun q3 hq3 h4=>Kgf 8 [(0,S s),(6,S y1),(28,B q3)] [] ?_ ?_
 ·refine Kno E E (fun hb=>?_) (fun hb=>?_)
  ·have h5:=cT hq3 hb
   exact gO 9 E<|oSi h5▸⟨⟨E,E,E,tV⟩,[],E,.inl E⟩
  have h6:=cF hq3 hb
  refine bK h6 fun c7 hc7 h8=>gO 1 E<|Knm E<|eo_o E (Kgr hΓ hc7 E E E E)<|gO 2 E<|Kgf 3 [(0,S s),(6,S y1),(20,B false),(27,B ((((c7.toNat:Int):Int)==48)&&(!((s:Str)==[48]))))] [] ?_ ?_
  ·refine Kno E E (fun hb=>?_) (fun hb=>?_)
   ·exact gO 4 E<|⟨⟨E,E,E,Kfi E (Khw hb),tV⟩,[],E,.inl E⟩
   exact gO 4 E<|⟨⟨E,E,E,Kfi E (Khx hb),tV⟩,[],E,.inl E⟩
  exact gO 2 E<|oSi h8▸⟨⟨E,E,E,tV⟩,[],E,.inl E⟩
 refine gO 2 E<|jC E h4 (fun h9=>?_) fun h10=>gA 8 E<|bK h10 fun q14 hq14 h15=>Kjx (R:=fun a16=>q14=.inl a16) (fun a16=>[(0,S s)]) (fun a16=>[]) ?_ ?_
 ·exact gA 8 E<|oSi h9▸gP E E
 ·refine gA 1 E<|Kgm hq14 (fun s12=>[(0,S s),(6,S y1),(7,I s12)]) (fun s12=>[]) ⟨⟨E,E,E,tV⟩,[],E,.inl E⟩ (fun s12 y20 hy18 hout19=>?_)
  refine gA 9 E<|jC E hy18 (fun h21=>?_) fun h34=>gA 4 E ?_
  ·refine bK h21 fun c22 hc22 h23=>gA 8 E<|eo_o E (Kgr hΓ hc22 E E E E)<|gO 2 E<|bK h23 fun q24 hq24 h25=>Kgf 5 [(0,S s),(6,S y1),(7,I s12),(44,B q24)] [] ?_ ?_
   ·refine Kno E E (fun hb=>?_) (fun hb=>?_)
    ·have h26:=cT hq24 hb
     exact gO 6 E<|oSi h26▸⟨⟨E,E,E,E,tV⟩,[],E,.inl E⟩
    have h27:=cF hq24 hb
    exact bK h27 fun c28 hc28 h29=>gO 2 E<|Knm E<|eo_o E (Kgr hΓ hc28 E E E E)<|gO 3 E<|oSi h29▸⟨⟨E,E,E,E,tV⟩,[],E,.inl E⟩
   refine gO 2 E<|jC E h25 (fun h30=>?_) fun h33=>gA 8 E<|oSi h33▸⟨_,E,⟨⟨E,E,E,tV⟩,[],E,.inl E⟩⟩
   refine gA 9 E<|bK h30 fun v31 hv31 h32=>?_
   cases h32
   obtain rfl:=hout19 _ rfl
   cases h15
   exact gA 4 E<|oSi hv31▸gP E E
  cases h34
  obtain rfl:=hout19 _ rfl
  exact⟨_,E,⟨⟨E,tV⟩,[],E,.inl E⟩⟩
 intro a16 ha
 subst ha
 replace h15:=Kjt h15
 exact bK h15 fun y35 hy35 h36=>gA 4 E<|Khd C (Ksh hy35) E Z E E E E E<|gO 8 E<|jD<|gA 2 E<|gl_o E (Klh hΓ E E E E)<|Kfx hΓ 5 E<|oSi h36▸gP E E
theorem Ldr{k:Nat}{s:Str}{r:Int×Bool}(h:Kza k s=some r):Pure Tryz.prog 85 [S s] (.tup [I r.1,B r.2]):=by
 unfold Kza at h
 exact QP Tryz.func85 E E E<|bK h fun y1 hy1 h2=>gA 9 E<|Khd C (Ldq hy1) E Z E E E E E<|gO 7 E<|oSi h2▸gP E E
theorem Lds{c:Int}{r:Bool}(h:Kzb c=some r):Pure Tryz.prog 139 [.d (.v (.int .u8 c))] (B r):=by
 unfold Kzb at h
 refine QP Tryz.func139 E E E<|gA 10 E<|Kgf 3 [(2,B false),(8,B ((decide ((c:Int)≥48))&&(decide ((c:Int)≤57))))] [] ?_ ?_
 ·refine Kno E E (fun hb=>?_) (fun hb=>?_)
  ·exact gO 4 E<|⟨⟨E,Kfi E (Khw hb),tV⟩,[],E,.inl E⟩
  exact gO 4 E<|⟨⟨E,Kfi E (Khx hb),tV⟩,[],E,.inl E⟩
 exact gO 4 E<|oSi h▸gP E E
theorem Ldt{k:Nat}{s:Str}{v_at:Int}{r:Int}(h:Kzc k s v_at=some r):Pure Tryz.prog 208 [S s,I v_at] (I r):=by
 unfold Kzc at h
 refine QP Tryz.func208 E E E<|gA 6 E<|bK h fun q4 hq4 h5=>Kjy [(1,I q4)] [] ?_ ?_
 ·refine gA 1 E<|Kgm hq4 (fun s2=>[(0,S s),(1,I s2)]) (fun s2=>[]) ⟨⟨E,E,tV⟩,[],E,.inl E⟩ (fun s2 y10 hy8 hout9=>?_)
  refine gA 8 E<|bK hy8 fun q11 hq11 h12=>Kgf 5 [(0,S s),(1,I s2),(14,B q11)] [] ?_ ?_
  ·refine Kno E E (fun hb=>?_) (fun hb=>?_)
   ·have h13:=cT hq11 hb
    exact bK h13 fun c14 hc14 h15=>gO 2 E<|Knm E<|eo_o E (Kgr hΓ hc14 E E E E)<|bK h15 fun y16 hy16 h17=>Knm E<|Khd C (Lds hy16) E Z E E E E E<|gO 2 E<|oSi h17▸⟨⟨E,E,E,tV⟩,[],E,.inl E⟩
   have h18:=cF hq11 hb
   exact gO 6 E<|oSi h18▸⟨⟨E,E,E,tV⟩,[],E,.inl E⟩
  refine gO 2 E<|jC E h12 (fun h19=>?_) fun h20=>gA 4 E ?_
  ·exact gA 9 E<|oSi h19▸⟨_,E,⟨⟨E,E,tV⟩,[],E,.inl E⟩⟩
  cases h20
  obtain rfl:=hout9 _ rfl
  exact⟨⟨E,tV⟩,[],E,.inl E⟩
 exact gA 8 E<|oSi h5▸gP E E
theorem Ldu{k:Nat}{t:Kxe}{s:Str}{r:Kxe}(h:Kzd k t s=some r):EC Tryz.prog 171 [.ptr 0 0,S s] [.box 128 [S t.kind,I t.v_at,I t.v_end,S t.name,I t.value.Kind,I t.value.Number,S t.value.Words,I t.value.Version.1,I t.value.Version.2.1,I t.value.Version.2.2.1,I t.value.Version.2.2.2]] fun g hp'=>g=.tup []∧hp'=[.box 128 [S r.kind,I r.v_at,I r.v_end,S r.name,I r.value.Kind,I r.value.Number,S r.value.Words,I r.value.Version.1,I r.value.Version.2.1,I r.value.Version.2.2.1,I r.value.Version.2.2.2]]:=by
 unfold Kzd at h
 refine QN Tryz.func171 E Z<|bK h fun c1 hc1 h2=>gA 14 E<|eo_o E (Kgr hΓ hc1 E E E E)<|bK h2 fun q3 hq3 h4=>gO 3 E<|Kjy [(0,.ptr 0 0),(1,S s),(4,I q3)] [.box 128 [S t.kind,I t.v_at,I t.v_end,S t.name,I t.value.Kind,I t.value.Number,S t.value.Words,I t.value.Version.1,I t.value.Version.2.1,I t.value.Version.2.2.1,I t.value.Version.2.2.2]] ?_ ?_
 ·refine jC E hq3 (fun h5=>?_) fun h6=>gA 1 E<|oSi h6▸⟨⟨E,E,E,tV⟩,[],E,.inl E⟩
  exact gA 5 E<|oSi h5▸⟨⟨E,E,E,tV⟩,[],E,.inl E⟩
 refine bK h4 fun y7 hy7 h8=>gA 6 E<|Khd C (Ldt hy7) E Z E E E E E<|gO 2 E<|Kpa hΓ E E E E E E E E Z<|Khk [.box 128 [S t.kind,I t.v_at,I y7,S t.name,I t.value.Kind,I t.value.Number,S t.value.Words,I t.value.Version.1,I t.value.Version.2.1,I t.value.Version.2.2.1,I t.value.Version.2.2.2]] E<|gO 3 E<|jD<|bK h8 fun z9 hz9 h10=>gA 9 E<|gl_o E (Kgs hΓ hz9 E E E E E)<|bK h10 fun y11 hy11 h12=>Khe C (Ldr hy11) E E E E E E<|Kfx hΓ 12 E<|jC E h12 (fun h13=>?_) fun h14=>gA 1 E<|oSi h14▸Khr hΓ [] (.inl E) E E E E (.inl E)
 exact gA 4 E<|Keg hΓ (gs:=[I 1,I y11.1,S [],I 0,I 0,I 0,I 0]) E E E E E E E<|gO 2 E<|Kpa hΓ E E E E E E E E Z<|Khk [.box 128 [S [118,97,108,117,101],I t.v_at,I y7,S t.name,I t.value.Kind,I t.value.Number,S t.value.Words,I t.value.Version.1,I t.value.Version.2.1,I t.value.Version.2.2.1,I t.value.Version.2.2.2]] E<|gO 2 E<|Kpa hΓ E E E E E E E E Z<|Khk [.box 128 [S [118,97,108,117,101],I t.v_at,I y7,S t.name,I 1,I y11.1,S [],I 0,I 0,I 0,I 0]] E<|gO 1 E<|oSi h13▸Khr hΓ [] (.inl E) E E E E (.inl E)
theorem Ldv{k:Nat}{t:Kxe}{s:Str}{r:Kxe}(h:Kze k t s=some r):EC Tryz.prog 172 [.ptr 0 0,S s] [.box 128 [S t.kind,I t.v_at,I t.v_end,S t.name,I t.value.Kind,I t.value.Number,S t.value.Words,I t.value.Version.1,I t.value.Version.2.1,I t.value.Version.2.2.1,I t.value.Version.2.2.2]] fun g hp'=>g=.tup []∧hp'=[.box 128 [S r.kind,I r.v_at,I r.v_end,S r.name,I r.value.Kind,I r.value.Number,S r.value.Words,I r.value.Version.1,I r.value.Version.2.1,I r.value.Version.2.2.1,I r.value.Version.2.2.2]]:=by
 unfold Kze at h
 refine QN Tryz.func172 E Z<|gA 2 E<|Kha (t:=0) 5 1 E Z<|gO 12 E<|bK h fun q4 hq4 h5=>Kjx (R:=fun a6=>q4=.inl a6) (fun a6=>[]) (fun a6=>[.box 128 [S t.kind,I t.v_at,I t.v_end,S t.name,I t.value.Kind,I t.value.Number,S t.value.Words,I t.value.Version.1,I t.value.Version.2.1,I t.value.Version.2.2.1,I t.value.Version.2.2.2],rO 5 1 (eN .u8) a6]) ?_ ?_
 ·refine gA 1 E<|Kgm hq4 (fun s2=>[(0,.ptr 0 0),(1,S s),(4,.sl 1 s2.1.length),(5,I s2.2)]) (fun s2=>[.box 128 [S t.kind,I t.v_at,I t.v_end,S t.name,I t.value.Kind,I t.value.Number,S t.value.Words,I t.value.Version.1,I t.value.Version.2.1,I t.value.Version.2.2.1,I t.value.Version.2.2.2],rO 5 1 (eN .u8) s2.1]) ⟨⟨E,E,E,E,tV⟩,[],E,.inl E⟩ (fun s2 y10 hy8 hout9=>?_)
  refine gA 9 E<|Kfz E (fun hb=>?_) (fun hb=>?_)
  ·have h11:=cT hy8 hb
   refine bK h11 fun c12 hc12 h13=>gA 8 E<|eo_o E (Kgr hΓ hc12 E E E E)<|bK h13 fun q14 hq14 h15=>gO 4 E<|Kjz (q:=q14) (fun a16=>[(0,.ptr 0 0),(1,S s),(4,.sl 1 s2.1.length),(5,I a16.1),(6,.d (.v (.int .u8 a16.2)))]) (fun a16=>[.box 128 [S t.kind,I t.v_at,I t.v_end,S t.name,I t.value.Kind,I t.value.Number,S t.value.Words,I t.value.Version.1,I t.value.Version.2.1,I t.value.Version.2.2.1,I t.value.Version.2.2.2],rO 5 1 (eN .u8) s2.1]) ?_ ?_
   ·refine gA 8 E<|Kfz E (fun hb=>?_) (fun hb=>?_)
    ·have h17:=cT hq14 hb
     refine bK h17 fun y18 hy18 h19=>gA 8 E<|eo_o E (Kia hΓ hy18 E E E E E E E E E)<|Keg hΓ (gs:=[I 2,I 0,S y18,I 0,I 0,I 0,I 0]) E E E E E E E<|gO 2 E<|Kpa hΓ E E E E E E E E Z<|Khk [.box 128 [S [118,97,108,117,101],I t.v_at,I t.v_end,S t.name,I t.value.Kind,I t.value.Number,S t.value.Words,I t.value.Version.1,I t.value.Version.2.1,I t.value.Version.2.2.1,I t.value.Version.2.2.2],rO 5 1 (eN .u8) s2.1] E<|gO 2 E<|Kpa hΓ E E E E E E E E Z<|Khk [.box 128 [S [118,97,108,117,101],I t.v_at,I (wi (s2.2+1)),S t.name,I t.value.Kind,I t.value.Number,S t.value.Words,I t.value.Version.1,I t.value.Version.2.1,I t.value.Version.2.2.1,I t.value.Version.2.2.2],rO 5 1 (eN .u8) s2.1] E<|gO 2 E<|Kpa hΓ E E E E E E E E Z<|Khk [.box 128 [S [118,97,108,117,101],I t.v_at,I (wi (s2.2+1)),S t.name,I 2,I 0,S y18,I 0,I 0,I 0,I 0],rO 5 1 (eN .u8) s2.1] E<|gO 4 E<|bK h19 fun v20 hv20 h21=>?_
     cases h21
     cases h15
     refine gA 4 E<|bK hv20 fun v22 hv22 h23=>?_
     cases h23
     obtain rfl:=hout9 _ rfl
     cases h5
     exact gA 3 E<|oSi hv22▸Khr hΓ [_] (.inr E) E E E E (.inr ⟨HB.mk E,E⟩)
    have h24:=cF hq14 hb
    refine gA 5 E<|Kgf 3 [(0,.ptr 0 0),(1,S s),(4,.sl 1 s2.1.length),(5,I s2.2),(6,.d (.v (.int .u8 (c12.toNat:Int)))),(44,B ((decide (((c12.toNat:Int):Int)<32))||(decide (((c12.toNat:Int):Int)>126))))] [.box 128 [S t.kind,I t.v_at,I t.v_end,S t.name,I t.value.Kind,I t.value.Number,S t.value.Words,I t.value.Version.1,I t.value.Version.2.1,I t.value.Version.2.2.1,I t.value.Version.2.2.2],rO 5 1 (eN .u8) s2.1] ?_ ?_
    ·refine Kno E E (fun hb=>?_) (fun hb=>?_)
     ·exact gO 4 E<|⟨⟨E,E,E,E,E,Kfi E (or_t hb),tV⟩,[],E,.inl E⟩
     exact gO 4 E<|⟨⟨E,E,E,E,E,Kfi E (or_f hb),tV⟩,[],E,.inl E⟩
    refine gO 3 E<|jC E h24 (fun h25=>?_) fun h30=>gA 7 E<|jC E h30 (fun h31=>?_) fun h52=>?_
    ·refine gA 2 E<|bK h25 fun v26 hv26 h27=>?_
     cases h27
     cases h15
     refine gA 4 E<|bK hv26 fun v28 hv28 h29=>?_
     cases h29
     obtain rfl:=hout9 _ rfl
     cases h5
     exact gA 3 E<|oSi hv28▸Khr hΓ [_] (.inr E) E E E E (.inr ⟨HB.mk E,E⟩)
    ·refine gA 15 E<|bK h31 fun q32 hq32 h33=>Kgf 11 [(0,.ptr 0 0),(1,S s),(4,.sl 1 s2.1.length),(5,I (wi (s2.2+1))),(65,B q32)] [.box 128 [S t.kind,I t.v_at,I t.v_end,S t.name,I t.value.Kind,I t.value.Number,S t.value.Words,I t.value.Version.1,I t.value.Version.2.1,I t.value.Version.2.2.1,I t.value.Version.2.2.2],rO 5 1 (eN .u8) s2.1] ?_ ?_
     ·refine Kno E E (fun hb=>?_) (fun hb=>?_)
      ·have h34:=cT hq32 hb
       exact gO 12 E<|oSi h34▸⟨⟨E,E,E,E,E,tV⟩,[],E,.inl E⟩
      have h35:=cF hq32 hb
      refine bK h35 fun c36 hc36 h37=>gO 2 E<|Knm E<|eo_o E (Kgr hΓ hc36 E E E E)<|gO 2 E<|bK h37 fun q38 hq38 h39=>Kgf 5 [(0,.ptr 0 0),(1,S s),(4,.sl 1 s2.1.length),(5,I (wi (s2.2+1))),(54,B false),(64,B q38)] [.box 128 [S t.kind,I t.v_at,I t.v_end,S t.name,I t.value.Kind,I t.value.Number,S t.value.Words,I t.value.Version.1,I t.value.Version.2.1,I t.value.Version.2.2.1,I t.value.Version.2.2.2],rO 5 1 (eN .u8) s2.1] ?_ ?_
      ·refine Kno E E (fun hb=>?_) (fun hb=>?_)
       ·have h40:=cT hq38 hb
        exact bK h40 fun c41 hc41 h42=>gO 2 E<|Knm E<|eo_o E (Kgr hΓ hc41 E E E E)<|gO 3 E<|oSi h42▸⟨⟨E,E,E,E,E,E,tV⟩,[],E,.inl E⟩
       have h43:=cF hq38 hb
       exact gO 6 E<|oSi h43▸⟨⟨E,E,E,E,E,E,tV⟩,[],E,.inl E⟩
      exact gO 2 E<|oSi h39▸⟨⟨E,E,E,E,E,tV⟩,[],E,.inl E⟩
     refine gO 2 E<|jC E h33 (fun h44=>?_) fun h49=>bK h49 fun c50 hc50 h51=>gA 5 E<|eo_o E (Kgr hΓ hc50 E E E E)<|gO 3 E<|oSi h51▸⟨_,E,⟨⟨E,E,E,E,E,tV⟩,[],E,.inl E⟩⟩
     refine gA 3 E<|bK h44 fun v45 hv45 h46=>?_
     cases h46
     cases h15
     refine gA 4 E<|bK hv45 fun v47 hv47 h48=>?_
     cases h48
     obtain rfl:=hout9 _ rfl
     cases h5
     exact gA 3 E<|oSi hv47▸Khr hΓ [_] (.inr E) E E E E (.inr ⟨HB.mk E,E⟩)
    exact gA 2 E<|oSi h52▸⟨_,E,⟨⟨E,E,E,E,E,tV⟩,[],E,.inl E⟩⟩
   intro a16 ha
   subst ha
   replace h15:=Kjt h15
   exact gA 4 E<|Kgx hΓ (enc:=(eN .u8)) [a16.2] E E E E E E E E E E E E Z<|bK h15 fun y53 hy53 h54=>Khl hΓ (enc:=(eN .u8)) hy53 E E E E E E E E E (fun _=>E) E E E E<|gO 9 E<|oSi h54▸⟨_,E,⟨⟨E,E,E,E,tV⟩,[],E,.inl E⟩⟩
  have h55:=cF hy8 hb
  refine gA 4 E ?_
  cases h55
  obtain rfl:=hout9 _ rfl
  exact⟨_,E,⟨tV,[],E,.inl E⟩⟩
 intro a6 ha
 subst ha
 replace h5:=Kjt h5
 exact oSi h5▸Khr hΓ [_] (.inl E) E E E E (.inr ⟨HB.mk E,E⟩)
theorem Ldw{s:Str}{r:Bool}(h:Kzf s=some r):Pure Tryz.prog 102 [S s] (B r):=by
 unfold Kzf at h
 refine QP Tryz.func102 E E E<|gA 11 E<|bK h fun q1 hq1 h2=>Kgf 4 [(0,S s),(2,B false),(10,B q1)] [] ?_ ?_
 ·refine Kno E E (fun hb=>?_) (fun hb=>?_)
  ·have h3:=cT hq1 hb
   exact bK h3 fun c4 hc4 h5=>gO 1 E<|Knm E<|eo_o E (Kgr hΓ hc4 E E E E)<|gO 3 E<|oSi h5▸⟨⟨E,E,E,tV⟩,[],E,.inl E⟩
  have h6:=cF hq1 hb
  exact gO 5 E<|oSi h6▸⟨⟨E,E,E,tV⟩,[],E,.inl E⟩
 refine gO 1 E<|bK h2 fun q7 hq7 h8=>Kgf 4 [(2,B false),(15,B q7)] [] ?_ ?_
 ·refine Kno E E (fun hb=>?_) (fun hb=>?_)
  ·have h9:=cT hq7 hb
   exact bK h9 fun c10 hc10 h11=>gO 1 E<|Knm E<|eo_o E (Kgr hΓ hc10 E E E E)<|bK h11 fun y12 hy12 h13=>Knm E<|Khd C (Lds hy12) E Z E E E E E<|gO 2 E<|oSi h13▸⟨⟨E,E,tV⟩,[],E,.inl E⟩
  have h14:=cF hq7 hb
  exact gO 5 E<|oSi h14▸⟨⟨E,E,tV⟩,[],E,.inl E⟩
 exact gO 4 E<|oSi h8▸gP E E
theorem Ldx{k:Nat}{l:List Str}{r:(List Int)×Bool}(h:Kzg k l=some r):Pure Tryz.prog 209 [.d (Sl eS l)] (.tup [.d (Sl (eN .i64) r.1),B r.2]):=by
 unfold Kzg at h
 refine QP Tryz.func209 E E E<|gA 8 E<|Kha (t:=0) 3 1 E Z<|gO 10 E<|bK h fun q4 hq4 h5=>Kgp 9 E fun hb7=>Kjx (R:=fun a6=>q4=.go a6) (fun a6=>[(4,.sl 0 a6.length)]) (fun a6=>[rO 3 1 (eN .i64) a6]) ?_ ?_
 ·refine gA 1 E<|Kgo l hq4 (fun i1 s2=>[(4,.sl 0 s2.length),(9,.d (Sl eS l)),(10,I (l.length:Int)),(11,I (i1:Int))]) (fun s2=>[rO 3 1 (eN .i64) s2]) ⟨⟨E,E,E,E,tV⟩,[],E,.inl E⟩ (fun i1 x3 s2 y11 hx8 hlt hy9 hout10=>?_) (fun s2 hgo=>?_)
  ·refine gA 6 E<|Kga E (dT (Int.ofNat_lt.2 hlt))<|gA 6 E<|eo_o E (Kgq hΓ (enc:=eS) (Kgj hx8) E E E E E (fun _=>E))<|bK hy9 fun y12 hy12 h13=>gO 7 E<|Khd C (Ldr hy12) E Z E E E E E<|gO 14 E<|jC E h13 (fun h14=>?_) fun h17=>gA 5 E<|Kgx hΓ (enc:=(eN .i64)) [y12.1] E E E E E E E E E E E E Z<|bK h17 fun y18 hy18 h19=>Khl hΓ (enc:=(eN .i64)) hy18 E E E E E E E E E (fun _=>E) E E E E<|gO 8 E ?_
   ·refine gA 10 E<|bK h14 fun v15 hv15 h16=>?_
    cases h16
    obtain rfl:=hout10 _ rfl
    cases h5
    exact gA 4 E<|oSi hv15▸gP E E
   cases h19
   exact⟨_,E,⟨⟨E,E,E,Kfh E (Kfg (nLl hlt hb7)),tV⟩,[],E,.inl E⟩⟩
  subst hgo
  exact gA 6 E<|Kgb E (dF (Int.lt_irrefl _))<|gA 4 E<|⟨_,E,⟨⟨E,tV⟩,[],E,.inl E⟩⟩
 intro a6 ha
 subst ha
 replace h5:=Kju h5
 exact gA 5 E<|Khj 0 [2,4,27] _ [.dead] E E E Z<|gO 4 E<|oSi h5▸gP E E
theorem Ldy{k:Nat}{t:Kxe}{s:Str}{r:Kxe}(h:Kzh k t s=some r):EC Tryz.prog 173 [.ptr 0 0,S s] [.box 128 [S t.kind,I t.v_at,I t.v_end,S t.name,I t.value.Kind,I t.value.Number,S t.value.Words,I t.value.Version.1,I t.value.Version.2.1,I t.value.Version.2.2.1,I t.value.Version.2.2.2]] fun g hp'=>g=.tup []∧hp'=[.box 128 [S r.kind,I r.v_at,I r.v_end,S r.name,I r.value.Kind,I r.value.Number,S r.value.Words,I r.value.Version.1,I r.value.Version.2.1,I r.value.Version.2.2.1,I r.value.Version.2.2.2]]:=by
 unfold Kzh at h
 refine QN Tryz.func173 E Z<|gA 10 E<|Kpa hΓ E E E E E E E E Z<|Khk [.box 128 [S t.kind,I t.v_at,I (wi (t.v_at+1)),S t.name,I t.value.Kind,I t.value.Number,S t.value.Words,I t.value.Version.1,I t.value.Version.2.1,I t.value.Version.2.2.1,I t.value.Version.2.2.2]] E<|gO 3 E<|bK h fun q4 hq4 h5=>Kjy [(0,.ptr 0 0),(1,S s)] [.box 128 [S t.kind,I t.v_at,I q4,S t.name,I t.value.Kind,I t.value.Number,S t.value.Words,I t.value.Version.1,I t.value.Version.2.1,I t.value.Version.2.2.1,I t.value.Version.2.2.2]] ?_ ?_
 ·refine gA 1 E<|Kgm hq4 (fun s2=>[(0,.ptr 0 0),(1,S s)]) (fun s2=>[.box 128 [S t.kind,I t.v_at,I s2,S t.name,I t.value.Kind,I t.value.Number,S t.value.Words,I t.value.Version.1,I t.value.Version.2.1,I t.value.Version.2.2.1,I t.value.Version.2.2.2]]) ⟨⟨E,E,tV⟩,[],E,.inl E⟩ (fun s2 y10 hy8 hout9=>?_)
  refine gA 11 E<|bK hy8 fun q11 hq11 h12=>Kgf 17 [(0,.ptr 0 0),(1,S s),(39,B q11)] [.box 128 [S t.kind,I t.v_at,I s2,S t.name,I t.value.Kind,I t.value.Number,S t.value.Words,I t.value.Version.1,I t.value.Version.2.1,I t.value.Version.2.2.1,I t.value.Version.2.2.2]] ?_ ?_
  ·refine Kno E E (fun hb=>?_) (fun hb=>?_)
   ·have h13:=cT hq11 hb
    refine bK h13 fun c14 hc14 h15=>gO 5 E<|Knm E<|eo_o E (Kgr hΓ hc14 E E E E)<|bK h15 fun y16 hy16 h17=>Knm E<|Khd C (Lds hy16) E Z E E E E E<|gO 1 E<|bK h17 fun q18 hq18 h19=>Kgf 8 [(0,.ptr 0 0),(1,S s),(22,B true),(38,B q18)] [.box 128 [S t.kind,I t.v_at,I s2,S t.name,I t.value.Kind,I t.value.Number,S t.value.Words,I t.value.Version.1,I t.value.Version.2.1,I t.value.Version.2.2.1,I t.value.Version.2.2.2]] ?_ ?_
    ·refine Kno E E (fun hb=>?_) (fun hb=>?_)
     ·have h20:=cT hq18 hb
      exact gO 9 E<|oSi h20▸⟨⟨E,E,E,E,tV⟩,[],E,.inl E⟩
     have h21:=cF hq18 hb
     exact bK h21 fun c22 hc22 h23=>gO 5 E<|Knm E<|eo_o E (Kgr hΓ hc22 E E E E)<|gO 3 E<|oSi h23▸⟨⟨E,E,E,E,tV⟩,[],E,.inl E⟩
    exact gO 2 E<|oSi h19▸⟨⟨E,E,E,tV⟩,[],E,.inl E⟩
   have h24:=cF hq11 hb
   exact gO 18 E<|oSi h24▸⟨⟨E,E,E,tV⟩,[],E,.inl E⟩
  refine gO 2 E<|jC E h12 (fun h25=>?_) fun h26=>gA 4 E ?_
  ·exact gA 11 E<|Kpa hΓ E E E E E E E E Z<|Khk [.box 128 [S t.kind,I t.v_at,I (wi (s2+1)),S t.name,I t.value.Kind,I t.value.Number,S t.value.Words,I t.value.Version.1,I t.value.Version.2.1,I t.value.Version.2.2.1,I t.value.Version.2.2.2]] E<|gO 2 E<|oSi h25▸⟨_,E,⟨⟨E,E,tV⟩,[],E,.inl E⟩⟩
  cases h26
  obtain rfl:=hout9 _ rfl
  exact⟨⟨E,E,tV⟩,[],E,.inl E⟩
 refine gA 2 E<|jD<|bK h5 fun z27 hz27 h28=>gA 10 E<|gl_o E (Kgs hΓ hz27 E E E E E)<|bK h28 fun y29 hy29 h30=>Khe C (Pure.rows (Ksb hy29) E E) E E E E E E<|bK h30 fun y31 hy31 h32=>Kfx hΓ 6 E<|Khd C (Ldx hy31) E Z E E E E E<|gO 13 E<|Kgf 4 [(0,.ptr 0 0),(5,.d (Sl (eN .i64) y31.1)),(70,B ((!y31.2)||(decide (((y29.length:Int):Int)>4))))] [.box 128 [S t.kind,I t.v_at,I q4,S t.name,I t.value.Kind,I t.value.Number,S t.value.Words,I t.value.Version.1,I t.value.Version.2.1,I t.value.Version.2.2.1,I t.value.Version.2.2.2]] ?_ ?_
 ·refine Kno E E (fun hb=>?_) (fun hb=>?_)
  ·exact gO 5 E<|⟨⟨E,E,Kfi E (or_t hb),tV⟩,[],E,.inl E⟩
  exact gO 5 E<|⟨⟨E,E,Kfi E (or_f hb),tV⟩,[],E,.inl E⟩
 refine gO 2 E<|jC E h32 (fun h33=>?_) fun h34=>gA 6 E<|Keg hΓ (gs:=[I 4,I 0,S [],I 0,I 0,I 0,I 0]) E E E E E E E<|gO 2 E<|Kpa hΓ E E E E E E E E Z<|Khk [.box 128 [S [118,97,108,117,101],I t.v_at,I q4,S t.name,I t.value.Kind,I t.value.Number,S t.value.Words,I t.value.Version.1,I t.value.Version.2.1,I t.value.Version.2.2.1,I t.value.Version.2.2.2]] E<|gO 2 E<|Kpa hΓ E E E E E E E E Z<|Khk [.box 128 [S [118,97,108,117,101],I t.v_at,I q4,S t.name,I 4,I 0,S [],I 0,I 0,I 0,I 0]] E<|gO 7 E<|eo_o E (Klo hΓ (n:=4) (a:=(0:Int)) E E E E E E E)<|gO 1 E<|eo_s Z (nblt.1 E) (Klp hΓ (pre:=[S [118,97,108,117,101],I t.v_at,I q4,S t.name,I 4,I 0,S []]) (post:=[]) (l:=[0,0,0,0]) (xs:=y31.1) (k:=.i64) (p:=7) (o:=(0:Int).toNat) (n:=4 - (0:Int).toNat) (Klm (a:=0) (n:=4) E) E E E E E E E E E)<|Khk [.box 128 [S [118,97,108,117,101],I t.v_at,I q4,S t.name,I 4,I 0,S [],I (cpA (0:Int).toNat y31.1 0 0),I (cpA (0:Int).toNat y31.1 1 0),I (cpA (0:Int).toNat y31.1 2 0),I (cpA (0:Int).toNat y31.1 3 0)]] E<|gO 1 E<|oSi h34▸Khr hΓ [] (.inl E) E E E E (.inl E)
 exact gA 2 E<|oSi h33▸Khr hΓ [] (.inr E) E E E E (.inl E)
theorem Ldz{c:Int}{r:Bool}(h:Kzi c=some r):Pure Tryz.prog 210 [.d (.v (.int .u8 c))] (B r):=by
 unfold Kzi at h
 refine QP Tryz.func210 E E E<|gA 10 E<|Kgf 3 [(0,.d (.v (.int .u8 c))),(2,B false),(8,B ((decide ((c:Int)≥97))&&(decide ((c:Int)≤122))))] [] ?_ ?_
 ·refine Kno E E (fun hb=>?_) (fun hb=>?_)
  ·exact gO 4 E<|⟨⟨E,E,Kfi E (Khw hb),tV⟩,[],E,.inl E⟩
  exact gO 4 E<|⟨⟨E,E,Kfi E (Khx hb),tV⟩,[],E,.inl E⟩
 refine gO 1 E<|bK h fun q1 hq1 h2=>Kgf 3 [(0,.d (.v (.int .u8 c))),(2,B false),(12,B q1)] [] ?_ ?_
 ·refine Kno E E (fun hb=>?_) (fun hb=>?_)
  ·have h3:=cT hq1 hb
   exact gO 4 E<|oSi h3▸⟨⟨E,E,E,tV⟩,[],E,.inl E⟩
  have h4:=cF hq1 hb
  exact bK h4 fun y5 hy5 h6=>gO 1 E<|Knm E<|Khd C (Lds hy5) E Z E E E E E<|gO 2 E<|oSi h6▸⟨⟨E,E,E,tV⟩,[],E,.inl E⟩
 refine gO 1 E<|Kgf 3 [(0,.d (.v (.int .u8 c))),(2,B false),(16,B (q1||((c:Int)==45)))] [] ?_ ?_
 ·refine Kno E E (fun hb=>?_) (fun hb=>?_)
  ·exact gO 4 E<|⟨⟨E,E,Kfi E (or_t hb),tV⟩,[],E,.inl E⟩
  exact gO 4 E<|⟨⟨E,E,Kfi E (or_f hb),tV⟩,[],E,.inl E⟩
 refine gO 1 E<|Kgf 3 [(2,B false),(20,B ((q1||((c:Int)==45))||((c:Int)==95)))] [] ?_ ?_
 ·refine Kno E E (fun hb=>?_) (fun hb=>?_)
  ·exact gO 4 E<|⟨⟨E,Kfi E (or_t hb),tV⟩,[],E,.inl E⟩
  exact gO 4 E<|⟨⟨E,Kfi E (or_f hb),tV⟩,[],E,.inl E⟩
 exact gO 4 E<|oSi h2▸gP E E
theorem Lea{k:Nat}{t:Kxe}{s:Str}{r:Kxe}(h:Kzj k t s=some r):EC Tryz.prog 174 [.ptr 0 0,S s] [.box 128 [S t.kind,I t.v_at,I t.v_end,S t.name,I t.value.Kind,I t.value.Number,S t.value.Words,I t.value.Version.1,I t.value.Version.2.1,I t.value.Version.2.2.1,I t.value.Version.2.2.2]] fun g hp'=>g=.tup []∧hp'=[.box 128 [S r.kind,I r.v_at,I r.v_end,S r.name,I r.value.Kind,I r.value.Number,S r.value.Words,I r.value.Version.1,I r.value.Version.2.1,I r.value.Version.2.2.1,I r.value.Version.2.2.2]]:=by
 unfold Kzj at h
 refine QN Tryz.func174 E Z<|gA 9 E<|Kpa hΓ E E E E E E E E Z<|Khk [.box 128 [S t.kind,I t.v_at,I t.v_at,S t.name,I t.value.Kind,I t.value.Number,S t.value.Words,I t.value.Version.1,I t.value.Version.2.1,I t.value.Version.2.2.1,I t.value.Version.2.2.2]] E<|gO 3 E<|bK h fun q4 hq4 h5=>Kjy [(0,.ptr 0 0),(1,S s)] [.box 128 [S t.kind,I t.v_at,I q4,S t.name,I t.value.Kind,I t.value.Number,S t.value.Words,I t.value.Version.1,I t.value.Version.2.1,I t.value.Version.2.2.1,I t.value.Version.2.2.2]] ?_ ?_
 ·refine gA 1 E<|Kgm hq4 (fun s2=>[(0,.ptr 0 0),(1,S s)]) (fun s2=>[.box 128 [S t.kind,I t.v_at,I s2,S t.name,I t.value.Kind,I t.value.Number,S t.value.Words,I t.value.Version.1,I t.value.Version.2.1,I t.value.Version.2.2.1,I t.value.Version.2.2.2]]) ⟨⟨E,E,tV⟩,[],E,.inl E⟩ (fun s2 y10 hy8 hout9=>?_)
  refine gA 11 E<|bK hy8 fun q11 hq11 h12=>Kgf 8 [(0,.ptr 0 0),(1,S s),(26,B q11)] [.box 128 [S t.kind,I t.v_at,I s2,S t.name,I t.value.Kind,I t.value.Number,S t.value.Words,I t.value.Version.1,I t.value.Version.2.1,I t.value.Version.2.2.1,I t.value.Version.2.2.2]] ?_ ?_
  ·refine Kno E E (fun hb=>?_) (fun hb=>?_)
   ·have h13:=cT hq11 hb
    exact bK h13 fun c14 hc14 h15=>gO 5 E<|Knm E<|eo_o E (Kgr hΓ hc14 E E E E)<|bK h15 fun y16 hy16 h17=>Knm E<|Khd C (Ldz hy16) E Z E E E E E<|gO 2 E<|oSi h17▸⟨⟨E,E,E,tV⟩,[],E,.inl E⟩
   have h18:=cF hq11 hb
   exact gO 9 E<|oSi h18▸⟨⟨E,E,E,tV⟩,[],E,.inl E⟩
  refine gO 2 E<|jC E h12 (fun h19=>?_) fun h20=>gA 4 E ?_
  ·exact gA 11 E<|Kpa hΓ E E E E E E E E Z<|Khk [.box 128 [S t.kind,I t.v_at,I (wi (s2+1)),S t.name,I t.value.Kind,I t.value.Number,S t.value.Words,I t.value.Version.1,I t.value.Version.2.1,I t.value.Version.2.2.1,I t.value.Version.2.2.2]] E<|gO 2 E<|oSi h19▸⟨_,E,⟨⟨E,E,tV⟩,[],E,.inl E⟩⟩
  cases h20
  obtain rfl:=hout9 _ rfl
  exact⟨⟨E,E,tV⟩,[],E,.inl E⟩
 refine gA 2 E<|Kjb [.box 128 [S t.kind,I t.v_at,I q4,S t.name,I t.value.Kind,I t.value.Number,S t.value.Words,I t.value.Version.1,I t.value.Version.2.1,I t.value.Version.2.2.1,I t.value.Version.2.2.2]] [6,10] [14,17] [14,17] hmix (by kernel_rfl) (by kernel_rfl) ⟨E,tV⟩ Z<|bK h5 fun z21 hz21 h22=>go_E hΓ 11 E<|ge_q E (.inl E) (fun _ _=>Kjd (qt_p (Kgs hΓ hz21 E E E E E)))<|go_E hΓ 2 E<|Kjh [.box 128 [S [110,97,109,101],I t.v_at,I q4,S t.name,I t.value.Kind,I t.value.Number,S t.value.Words,I t.value.Version.1,I t.value.Version.2.1,I t.value.Version.2.2.1,I t.value.Version.2.2.2]] E E (Kji E) (Kjn (Kkb hΓ E E E E E E E E E))<|go_E hΓ 2 E<|Kjh [.box 128 [S [110,97,109,101],I t.v_at,I q4,S z21,I t.value.Kind,I t.value.Number,S t.value.Words,I t.value.Version.1,I t.value.Version.2.1,I t.value.Version.2.2.1,I t.value.Version.2.2.2]] E E (Kji E) (Kjn (Kkb hΓ E E E E E E E E E))<|Kjc<|gA 9 E<|Kgf 6 [(0,.ptr 0 0),(61,B (((z21:Str)==[116,114,117,101])||((z21:Str)==[102,97,108,115,101])))] [.box 128 [S [110,97,109,101],I t.v_at,I q4,S z21,I t.value.Kind,I t.value.Number,S t.value.Words,I t.value.Version.1,I t.value.Version.2.1,I t.value.Version.2.2.1,I t.value.Version.2.2.2]] ?_ ?_
 ·refine Kno E E (fun hb=>?_) (fun hb=>?_)
  ·exact gO 7 E<|⟨⟨E,Kfi E (or_t hb),tV⟩,[],E,.inl E⟩
  exact gO 7 E<|⟨⟨E,Kfi E (or_f hb),tV⟩,[],E,.inl E⟩
 refine gO 2 E<|jC E h22 (fun h23=>?_) fun h26=>gA 1 E<|oSi h26▸Khr hΓ [] (.inl E) E E E E (.inl E)
 refine gA 4 E<|Keg hΓ (gs:=[I 3,I 0,S [],I 0,I 0,I 0,I 0]) E E E E E E E<|gO 2 E<|Kpa hΓ E E E E E E E E Z<|Khk [.box 128 [S [118,97,108,117,101],I t.v_at,I q4,S z21,I t.value.Kind,I t.value.Number,S t.value.Words,I t.value.Version.1,I t.value.Version.2.1,I t.value.Version.2.2.1,I t.value.Version.2.2.2]] E<|gO 2 E<|Kpa hΓ E E E E E E E E Z<|Khk [.box 128 [S [118,97,108,117,101],I t.v_at,I q4,S z21,I 3,I 0,S [],I 0,I 0,I 0,I 0]] E<|gO 11 E<|jC E h23 (fun h24=>?_) fun h25=>gA 1 E<|oSi h25▸Khr hΓ [] (.inl E) E E E E (.inl E)
 exact gA 5 E<|Kpa hΓ E E E E E E E E Z<|Khk [.box 128 [S [118,97,108,117,101],I t.v_at,I q4,S z21,I 3,I 1,S [],I 0,I 0,I 0,I 0]] E<|gO 1 E<|oSi h24▸Khr hΓ [] (.inl E) E E E E (.inl E)
theorem Leb{k:Nat}{s:Str}{v_at:Int}{r:Kxe}(h:Kzk k s v_at=some r):Pure Tryz.prog 120 [S s,I v_at] (.agg [S r.kind,I r.v_at,I r.v_end,S r.name,I r.value.Kind,I r.value.Number,S r.value.Words,I r.value.Version.1,I r.value.Version.2.1,I r.value.Version.2.2.1,I r.value.Version.2.2.2]):=by
 unfold Kzk at h
 refine QP Tryz.func120 E E E<|gA 2 E<|Kov hΓ E E E Z<|gO 5 E<|Keg hΓ (gs:=[S [98,97,100],I v_at,I 0,S [],I 0,I 0,S [],I 0,I 0,I 0,I 0]) E E E E E E E<|Kov hΓ E E E Z<|Kpa hΓ E E E E E E E E Z<|Khk [.box 128 [S [],I 0,I 0,S [],I 0,I 0,S [],I 0,I 0,I 0,I 0],.box 128 [S [98,97,100],I v_at,I 0,S [],I 0,I 0,S [],I 0,I 0,I 0,I 0]] E<|gO 11 E<|Kfz E (fun hb=>?_) (fun hb=>?_)
 ·have h1:=cT h hb
  exact gA 3 E<|Kpa hΓ E E E E E E E E Z<|Khk [.box 128 [S [],I 0,I 0,S [],I 0,I 0,S [],I 0,I 0,I 0,I 0],.box 128 [S [101,110,100],I v_at,I 0,S [],I 0,I 0,S [],I 0,I 0,I 0,I 0]] E<|gO 5 E<|Kpa hΓ E E E E E E E E Z<|Khk [.box 128 [S [101,110,100],I v_at,I 0,S [],I 0,I 0,S [],I 0,I 0,I 0,I 0],.box 128 [S [101,110,100],I v_at,I 0,S [],I 0,I 0,S [],I 0,I 0,I 0,I 0]] E<|gO 4 E<|oSi h1▸gP E E
 have h2:=cF h hb
 refine gA 5 E<|Kgx hΓ (enc:=eS) [[61,61],[33,61],[60,61],[62,61],[38,38],[124,124],[60],[62],[33],[40],[41]] E E E E E E E E E E E E Z<|gO 4 E<|bK h2 fun q6 hq6 h7=>Kgp 17 E fun hb9=>Kjx (R:=fun a8=>q6=.go a8) (fun a8=>[(0,S s),(1,I v_at),(4,.ptr 0 0),(5,.ptr 1 0)]) (fun a8=>[.box 128 [S [],I 0,I 0,S [],I 0,I 0,S [],I 0,I 0,I 0,I 0],.box 128 [S [98,97,100],I v_at,I 0,S [],I 0,I 0,S [],I 0,I 0,I 0,I 0]]) ?_ ?_
 ·refine gA 1 E<|Kgo [[61,61],[33,61],[60,61],[62,61],[38,38],[124,124],[60],[62],[33],[40],[41]] hq6 (fun i3 s4=>[(0,S s),(1,I v_at),(4,.ptr 0 0),(5,.ptr 1 0),(17,.d (Sl eS [[61,61],[33,61],[60,61],[62,61],[38,38],[124,124],[60],[62],[33],[40],[41]])),(18,I ([[61,61],[33,61],[60,61],[62,61],[38,38],[124,124],[60],[62],[33],[40],[41]].length:Int)),(19,I (i3:Int))]) (fun s4=>[.box 128 [S [],I 0,I 0,S [],I 0,I 0,S [],I 0,I 0,I 0,I 0],.box 128 [S [98,97,100],I v_at,I 0,S [],I 0,I 0,S [],I 0,I 0,I 0,I 0]]) ⟨⟨E,E,E,E,E,E,E,tV⟩,[],E,.inl E⟩ (fun i3 x5 s4 y13 hx10 hlt hy11 hout12=>?_) (fun s4 hgo=>?_)
  ·refine gA 6 E<|Kga E (dT (Int.ofNat_lt.2 hlt))<|gA 6 E<|eo_o E (Kgq hΓ (enc:=eS) (Kgj hx10) E E E E E (fun _=>E))<|bK hy11 fun z14 hz14 h15=>gO 8 E<|eo_o E (Kgs hΓ hz14 E E E E E)<|bK h15 fun y16 hy16 h17=>gO 1 E<|Khd C (Kry hy16) E Z E E E E E<|gO 2 E<|jC E h17 (fun h18=>?_) fun h21=>gA 7 E ?_
   ·refine gA 8 E<|Kpa hΓ E E E E E E E E Z<|Khk [.box 128 [S [],I 0,I 0,S [],I 0,I 0,S [],I 0,I 0,I 0,I 0],.box 128 [S x5,I v_at,I 0,S [],I 0,I 0,S [],I 0,I 0,I 0,I 0]] E<|gO 1 E<|Kpa hΓ E E E E E E E E Z<|Khk [.box 128 [S [],I 0,I 0,S [],I 0,I 0,S [],I 0,I 0,I 0,I 0],.box 128 [S x5,I v_at,I (wi (v_at+(x5.length:Int))),S [],I 0,I 0,S [],I 0,I 0,I 0,I 0]] E<|gO 5 E<|Kpa hΓ E E E E E E E E Z<|Khk [.box 128 [S x5,I v_at,I (wi (v_at+(x5.length:Int))),S [],I 0,I 0,S [],I 0,I 0,I 0,I 0],.box 128 [S x5,I v_at,I (wi (v_at+(x5.length:Int))),S [],I 0,I 0,S [],I 0,I 0,I 0,I 0]] E<|gO 5 E<|bK h18 fun v19 hv19 h20=>?_
    cases h20
    obtain rfl:=hout12 _ rfl
    cases h7
    exact gA 4 E<|oSi hv19▸gP E E
   cases h21
   exact⟨_,E,⟨⟨E,E,E,E,E,E,Kfh E (Kfg (nLl hlt hb9)),tV⟩,[],E,.inl E⟩⟩
  subst hgo
  exact gA 6 E<|Kgb E (dF (Int.lt_irrefl _))<|gA 4 E<|⟨_,E,⟨⟨E,E,E,E,tV⟩,[],E,.inl E⟩⟩
 intro a8 ha
 subst ha
 replace h7:=Kju h7
 refine bK h7 fun c22 hc22 h23=>gA 6 E<|eo_o E (Kgr hΓ hc22 E E E E)<|bK h23 fun q24 hq24 h25=>gO 3 E<|Kjy [(4,.ptr 0 0),(5,.ptr 1 0)] [.box 128 [S [],I 0,I 0,S [],I 0,I 0,S [],I 0,I 0,I 0,I 0],.box 128 [S q24.kind,I q24.v_at,I q24.v_end,S q24.name,I q24.value.Kind,I q24.value.Number,S q24.value.Words,I q24.value.Version.1,I q24.value.Version.2.1,I q24.value.Version.2.2.1,I q24.value.Version.2.2.2]] ?_ ?_
 ·refine bK hq24 fun y26 hy26 h27=>gA 4 E<|Khd C (Lds hy26) E Z E E E E E<|gO 1 E<|bK h27 fun q28 hq28 h29=>Kgf 17 [(0,S s),(1,I v_at),(4,.ptr 0 0),(5,.ptr 1 0),(8,.d (.v (.int .u8 (c22.toNat:Int)))),(60,B q28)] [.box 128 [S [],I 0,I 0,S [],I 0,I 0,S [],I 0,I 0,I 0,I 0],.box 128 [S [98,97,100],I v_at,I 0,S [],I 0,I 0,S [],I 0,I 0,I 0,I 0]] ?_ ?_
  ·refine Kno E E (fun hb=>?_) (fun hb=>?_)
   ·have h30:=cT hq28 hb
    exact gO 18 E<|oSi h30▸⟨⟨E,E,E,E,E,E,tV⟩,[],E,.inl E⟩
   have h31:=cF hq28 hb
   refine gO 3 E<|Kgf 6 [(0,S s),(1,I v_at),(4,.ptr 0 0),(5,.ptr 1 0),(8,.d (.v (.int .u8 (c22.toNat:Int)))),(43,B false),(52,B ((((c22.toNat:Int):Int)==45)&&(decide ((wi (v_at+1):Int)<(s.length:Int)))))] [.box 128 [S [],I 0,I 0,S [],I 0,I 0,S [],I 0,I 0,I 0,I 0],.box 128 [S [98,97,100],I v_at,I 0,S [],I 0,I 0,S [],I 0,I 0,I 0,I 0]] ?_ ?_
   ·refine Kno E E (fun hb=>?_) (fun hb=>?_)
    ·exact gO 7 E<|⟨⟨E,E,E,E,E,E,Kfi E (Khw hb),tV⟩,[],E,.inl E⟩
    exact gO 7 E<|⟨⟨E,E,E,E,E,E,Kfi E (Khx hb),tV⟩,[],E,.inl E⟩
   refine gO 1 E<|bK h31 fun q32 hq32 h33=>Kgf 6 [(0,S s),(1,I v_at),(4,.ptr 0 0),(5,.ptr 1 0),(8,.d (.v (.int .u8 (c22.toNat:Int)))),(43,B false),(59,B q32)] [.box 128 [S [],I 0,I 0,S [],I 0,I 0,S [],I 0,I 0,I 0,I 0],.box 128 [S [98,97,100],I v_at,I 0,S [],I 0,I 0,S [],I 0,I 0,I 0,I 0]] ?_ ?_
   ·refine Kno E E (fun hb=>?_) (fun hb=>?_)
    ·have h34:=cT hq32 hb
     exact bK h34 fun c35 hc35 h36=>gO 3 E<|Knm E<|eo_o E (Kgr hΓ hc35 E E E E)<|bK h36 fun y37 hy37 h38=>Knm E<|Khd C (Lds hy37) E Z E E E E E<|gO 2 E<|oSi h38▸⟨⟨E,E,E,E,E,E,E,tV⟩,[],E,.inl E⟩
    have h39:=cF hq32 hb
    exact gO 7 E<|oSi h39▸⟨⟨E,E,E,E,E,E,E,tV⟩,[],E,.inl E⟩
   exact gO 2 E<|oSi h33▸⟨⟨E,E,E,E,E,E,tV⟩,[],E,.inl E⟩
  refine gO 3 E<|Kfz E (fun hb=>?_) (fun hb=>?_)
  ·have h40:=cT h29 hb
   exact bK h40 fun y41 hy41 h42=>gA 2 E<|Khc [1] (.tup []) [.box 128 [S [],I 0,I 0,S [],I 0,I 0,S [],I 0,I 0,I 0,I 0],.box 128 [S y41.kind,I y41.v_at,I y41.v_end,S y41.name,I y41.value.Kind,I y41.value.Number,S y41.value.Words,I y41.value.Version.1,I y41.value.Version.2.1,I y41.value.Version.2.2.1,I y41.value.Version.2.2.2]] C (Ldu hy41) E Z E E E E E E E E E E<|gO 2 E<|oSi h42▸⟨⟨E,E,tV⟩,[],E,.inl E⟩
  have h43:=cF h29 hb
  refine gA 7 E<|Kfz E (fun hb=>?_) (fun hb=>?_)
  ·have h44:=cT h43 hb
   exact bK h44 fun y45 hy45 h46=>gA 2 E<|Khc [1] (.tup []) [.box 128 [S [],I 0,I 0,S [],I 0,I 0,S [],I 0,I 0,I 0,I 0],.box 128 [S y45.kind,I y45.v_at,I y45.v_end,S y45.name,I y45.value.Kind,I y45.value.Number,S y45.value.Words,I y45.value.Version.1,I y45.value.Version.2.1,I y45.value.Version.2.2.1,I y45.value.Version.2.2.2]] C (Ldv hy45) E Z E E E E E E E E E E<|gO 2 E<|oSi h46▸⟨⟨E,E,tV⟩,[],E,.inl E⟩
  have h47:=cF h43 hb
  refine bK h47 fun z48 hz48 h49=>gA 4 E<|eo_o E (Kgs hΓ hz48 E E E E E)<|bK h49 fun y50 hy50 h51=>Khd C (Ldw hy50) E Z E E E E E<|gO 3 E<|Kfz E (fun hb=>?_) (fun hb=>?_)
  ·have h52:=cT h51 hb
   exact bK h52 fun y53 hy53 h54=>gA 2 E<|Khc [1] (.tup []) [.box 128 [S [],I 0,I 0,S [],I 0,I 0,S [],I 0,I 0,I 0,I 0],.box 128 [S y53.kind,I y53.v_at,I y53.v_end,S y53.name,I y53.value.Kind,I y53.value.Number,S y53.value.Words,I y53.value.Version.1,I y53.value.Version.2.1,I y53.value.Version.2.2.1,I y53.value.Version.2.2.2]] C (Ldy hy53) E Z E E E E E E E E E E<|gO 2 E<|oSi h54▸⟨⟨E,E,tV⟩,[],E,.inl E⟩
  have h55:=cF h51 hb
  refine gA 5 E<|Kgf 3 [(0,S s),(4,.ptr 0 0),(5,.ptr 1 0),(81,B ((decide (((c22.toNat:Int):Int)≥97))&&(decide (((c22.toNat:Int):Int)≤122))))] [.box 128 [S [],I 0,I 0,S [],I 0,I 0,S [],I 0,I 0,I 0,I 0],.box 128 [S [98,97,100],I v_at,I 0,S [],I 0,I 0,S [],I 0,I 0,I 0,I 0]] ?_ ?_
  ·refine Kno E E (fun hb=>?_) (fun hb=>?_)
   ·exact gO 4 E<|⟨⟨E,E,E,Kfi E (Khw hb),tV⟩,[],E,.inl E⟩
   exact gO 4 E<|⟨⟨E,E,E,Kfi E (Khx hb),tV⟩,[],E,.inl E⟩
  refine gO 3 E<|jC E h55 (fun h56=>?_) fun h59=>gA 2 E<|oSi h59▸⟨⟨E,E,tV⟩,[],E,.inl E⟩
  exact bK h56 fun y57 hy57 h58=>gA 2 E<|Khc [1] (.tup []) [.box 128 [S [],I 0,I 0,S [],I 0,I 0,S [],I 0,I 0,I 0,I 0],.box 128 [S y57.kind,I y57.v_at,I y57.v_end,S y57.name,I y57.value.Kind,I y57.value.Number,S y57.value.Words,I y57.value.Version.1,I y57.value.Version.2.1,I y57.value.Version.2.2.1,I y57.value.Version.2.2.2]] C (Lea hy57) E Z E E E E E E E E E E<|gO 2 E<|oSi h58▸⟨⟨E,E,tV⟩,[],E,.inl E⟩
 exact gA 4 E<|Kpa hΓ E E E E E E E E Z<|Khk [.box 128 [S q24.kind,I q24.v_at,I q24.v_end,S q24.name,I q24.value.Kind,I q24.value.Number,S q24.value.Words,I q24.value.Version.1,I q24.value.Version.2.1,I q24.value.Version.2.2.1,I q24.value.Version.2.2.2],.box 128 [S q24.kind,I q24.v_at,I q24.v_end,S q24.name,I q24.value.Kind,I q24.value.Number,S q24.value.Words,I q24.value.Version.1,I q24.value.Version.2.1,I q24.value.Version.2.2.1,I q24.value.Version.2.2.2]] E<|gO 3 E<|oSi h25▸gP E E
theorem Lec{k:Nat}{s:Str}{r:Kxc×Bool}(h:Kzl k s=some r):Pure Tryz.prog 86 [S s] (.tup [.agg [I r.1.Kind,I r.1.Number,S r.1.Words,I r.1.Version.1,I r.1.Version.2.1,I r.1.Version.2.2.1,I r.1.Version.2.2.2],B r.2]):=by
 unfold Kzl at h
 refine QP Tryz.func86 E E E<|gA 2 E<|Kov hΓ E E E Z<|gO 10 E<|jC E h (fun h1=>?_) fun h2=>bK h2 fun y3 hy3 h4=>gA 5 E<|Khd C (Leb hy3) E Z E E E E E<|Kov hΓ E E E Z<|Kpa hΓ E E E E E E E E Z<|Khk [.box 40 [I 0,I 0,S [],I 0,I 0,I 0,I 0],.box 128 [S y3.kind,I y3.v_at,I y3.v_end,S y3.name,I y3.value.Kind,I y3.value.Number,S y3.value.Words,I y3.value.Version.1,I y3.value.Version.2.1,I y3.value.Version.2.2.1,I y3.value.Version.2.2.2]] E<|bK h4 fun q5 hq5 h6=>gO 3 E<|Kjy [(2,.ptr 0 0),(3,B q5)] [.box 40 [I y3.value.Kind,I y3.value.Number,S y3.value.Words,I y3.value.Version.1,I y3.value.Version.2.1,I y3.value.Version.2.2.1,I y3.value.Version.2.2.2],.box 128 [S y3.kind,I y3.v_at,I y3.v_end,S y3.name,I y3.value.Kind,I y3.value.Number,S y3.value.Words,I y3.value.Version.1,I y3.value.Version.2.1,I y3.value.Version.2.2.1,I y3.value.Version.2.2.2]] ?_ ?_
 ·exact gA 2 E<|Keg hΓ (gs:=[I 0,I 0,S [],I 0,I 0,I 0,I 0]) E E E E E E E<|Kpa hΓ E E E E E E E E Z<|Khk [.box 40 [I 0,I 0,S [],I 0,I 0,I 0,I 0]] E<|gO 5 E<|oSi h1▸gP E E
 ·refine Kjb [.dead,.box 128 [S y3.kind,I y3.v_at,I y3.v_end,S y3.name,I y3.value.Kind,I y3.value.Number,S y3.value.Words,I y3.value.Version.1,I y3.value.Version.2.1,I y3.value.Version.2.2.1,I y3.value.Version.2.2.2]] [1,3,7,14] [19] [] hmix (by kernel_rfl) (by kernel_rfl) ⟨E,tV⟩ Z<|go_E hΓ 6 E<|Kjg E E (fun hb=>?_) (fun hb=>?_)
  ·have h7:=cT hq5 hb
   refine go_E hΓ 7 E<|Kjg E E (fun hb=>?_) (fun hb=>?_)
   ·have h8:=cT h7 hb
    exact bK h8 fun y9 hy9 h10=>go_E hΓ 2 E<|Kka E C (Lcx hy9) E E E E E E<|go_E hΓ 3 E<|Kjh [.box 40 [I y3.value.Kind,I y3.value.Number,S y3.value.Words,I y3.value.Version.1,I y3.value.Version.2.1,I y3.value.Version.2.2.1,I y3.value.Version.2.2.2],.box 128 [S y3.kind,I y3.v_at,I y3.v_end,S y3.name,I y3.value.Kind,I y3.value.Number,S y3.value.Words,I y3.value.Version.1,I y3.value.Version.2.1,I y3.value.Version.2.2.1,I y3.value.Version.2.2.2]] E E (Kjj ⟨E,tV⟩) (Kjn (Kkb hΓ E E E E E E E E E))<|go_E hΓ 1 E<|Kjc<|oSi h10▸⟨⟨E,E,tV⟩,[],E,.inl E⟩
   have h11:=cF h7 hb
   exact go_E hΓ 6 E<|Kjh [.box 40 [I y3.value.Kind,I y3.value.Number,S y3.value.Words,I y3.value.Version.1,I y3.value.Version.2.1,I y3.value.Version.2.2.1,I y3.value.Version.2.2.2],.box 128 [S y3.kind,I y3.v_at,I y3.v_end,S y3.name,I y3.value.Kind,I y3.value.Number,S y3.value.Words,I y3.value.Version.1,I y3.value.Version.2.1,I y3.value.Version.2.2.1,I y3.value.Version.2.2.2]] E E (Kjj ⟨E,tV⟩) (Kjn (Kkb hΓ E E E E E E E E E))<|go_E hΓ 1 E<|Kjc<|oSi h11▸⟨⟨E,E,tV⟩,[],E,.inl E⟩
  have h12:=cF hq5 hb
  exact go_E hΓ 13 E<|Kjh [.box 40 [I y3.value.Kind,I y3.value.Number,S y3.value.Words,I y3.value.Version.1,I y3.value.Version.2.1,I y3.value.Version.2.2.1,I y3.value.Version.2.2.2],.box 128 [S y3.kind,I y3.v_at,I y3.v_end,S y3.name,I y3.value.Kind,I y3.value.Number,S y3.value.Words,I y3.value.Version.1,I y3.value.Version.2.1,I y3.value.Version.2.2.1,I y3.value.Version.2.2.2]] E E (Kjj ⟨E,tV⟩) (Kjn (Kkb hΓ E E E E E E E E E))<|go_E hΓ 1 E<|Kjc<|oSi h12▸⟨⟨E,E,tV⟩,[],E,.inl E⟩
 exact gA 2 E<|oSi h6▸gP E E
theorem Led{k:Nat}{line:Str}{r:Kxd×Bool}(h:Kzm k line=some r):Pure Tryz.prog 42 [S line] (.tup [.agg [I r.1.At,S r.1.Node,S r.1.Name,I r.1.Value.Kind,I r.1.Value.Number,S r.1.Value.Words,I r.1.Value.Version.1,I r.1.Value.Version.2.1,I r.1.Value.Version.2.2.1,I r.1.Value.Version.2.2.2],B r.2]):=by
 unfold Kzm at h
 refine QP Tryz.func42 E E E<|gA 2 E<|Kov hΓ E E E Z<|bK h fun y1 hy1 h2=>gO 6 E<|Khd C (Pure.rows (Ksq hy1) E E) E Z E E E E E<|gO 10 E<|bK h2 fun q3 hq3 h4=>Kgf 3 [(2,.ptr 0 0),(4,.d (Sl eS y1)),(17,B q3)] [.box 42 [I 0,S [],S [],I 0,I 0,S [],I 0,I 0,I 0,I 0]] ?_ ?_
 ·refine Kno E E (fun hb=>?_) (fun hb=>?_)
  ·have h5:=cT hq3 hb
   exact gO 4 E<|oSi h5▸⟨⟨E,E,E,tV⟩,[],E,.inl E⟩
  have h6:=cF hq3 hb
  exact bK h6 fun y7 hy7 h8=>gO 1 E<|Knm E<|Khd C (Ldp hy7) E Z E E E E E<|gO 2 E<|oSi h8▸⟨⟨E,E,E,tV⟩,[],E,.inl E⟩
 refine gO 2 E<|jC E h4 (fun h9=>?_) fun h10=>bK h10 fun x11 hx11 h12=>gA 5 E<|eo_o E (Kgq hΓ (enc:=eS) hx11 E E E E E (fun _=>E))<|bK h12 fun y13 hy13 h14=>gO 1 E<|Khd C (Ldr hy13) E Z E E E E E<|bK h14 fun x15 hx15 h16=>gO 10 E<|eo_o E (Kgq hΓ (enc:=eS) hx15 E E E E E (fun _=>E))<|bK h16 fun y17 hy17 h18=>gO 1 E<|Khd C (Lec hy17) E Z E E E E E<|gO 3 E<|Kov hΓ E E E Z<|Kpa hΓ E E E E E E E E Z<|Khk [.box 42 [I 0,S [],S [],I 0,I 0,S [],I 0,I 0,I 0,I 0],.box 40 [I y17.1.Kind,I y17.1.Number,S y17.1.Words,I y17.1.Version.1,I y17.1.Version.2.1,I y17.1.Version.2.2.1,I y17.1.Version.2.2.2]] E<|bK h18 fun q19 hq19 h20=>gO 4 E<|Kjy [(2,.ptr 0 0),(3,B q19.2)] [.box 42 [I q19.1.At,S q19.1.Node,S q19.1.Name,I q19.1.Value.Kind,I q19.1.Value.Number,S q19.1.Value.Words,I q19.1.Value.Version.1,I q19.1.Value.Version.2.1,I q19.1.Value.Version.2.2.1,I q19.1.Value.Version.2.2.2],.box 40 [I y17.1.Kind,I y17.1.Number,S y17.1.Words,I y17.1.Version.1,I y17.1.Version.2.1,I y17.1.Version.2.2.1,I y17.1.Version.2.2.2]] ?_ ?_
 ·exact gA 2 E<|Keg hΓ (gs:=[I 0,S [],S [],I 0,I 0,S [],I 0,I 0,I 0,I 0]) E E E E E E E<|Kpa hΓ E E E E E E E E Z<|Khk [.box 42 [I 0,S [],S [],I 0,I 0,S [],I 0,I 0,I 0,I 0]] E<|gO 5 E<|oSi h9▸gP E E
 ·refine Kjb [.dead,.box 40 [I y17.1.Kind,I y17.1.Number,S y17.1.Words,I y17.1.Version.1,I y17.1.Version.2.1,I y17.1.Version.2.2.1,I y17.1.Version.2.2.2]] [7] [13] [] hmix (by kernel_rfl) (by kernel_rfl) ⟨E,tV⟩ Z<|bK hq19 fun x21 hx21 h22=>go_E hΓ 2 E<|ge_q E (.inl E) (fun _ _=>Kjd (qt_p (Kgq hΓ (enc:=eS) hx21 E E E E E (fun _=>E))))<|bK h22 fun x23 hx23 h24=>go_E hΓ 2 E<|ge_q E (.inl E) (fun _ _=>Kjd (qt_p (Kgq hΓ (enc:=eS) hx23 E E E E E (fun _=>E))))<|go_E hΓ 2 E<|ge_q E (.inl E) (fun _ _=>Kjd (qt_p (Kjr hΓ (gs:=[I y13.1,S x21,S x23,I y17.1.Kind,I y17.1.Number,S y17.1.Words,I y17.1.Version.1,I y17.1.Version.2.1,I y17.1.Version.2.2.1,I y17.1.Version.2.2.2]) E E E E E E)))<|go_E hΓ 2 E<|Kjg E E (fun hb=>?_) (fun hb=>?_)
  ·have h25:=cT h24 hb
   exact go_E hΓ 2 E<|Kjh [.box 42 [I y13.1,S x21,S x23,I y17.1.Kind,I y17.1.Number,S y17.1.Words,I y17.1.Version.1,I y17.1.Version.2.1,I y17.1.Version.2.2.1,I y17.1.Version.2.2.2],.box 40 [I y17.1.Kind,I y17.1.Number,S y17.1.Words,I y17.1.Version.1,I y17.1.Version.2.1,I y17.1.Version.2.2.1,I y17.1.Version.2.2.2]] E E (Kjj ⟨E,tV⟩) (Kjn (Kkb hΓ E E E E E E E E E))<|go_E hΓ 1 E<|Kjc<|oSi h25▸⟨⟨E,E,tV⟩,[],E,.inl E⟩
  have h26:=cF h24 hb
  exact go_E hΓ 2 E<|Kjh [.box 42 [I y13.1,S x21,S x23,I y17.1.Kind,I y17.1.Number,S y17.1.Words,I y17.1.Version.1,I y17.1.Version.2.1,I y17.1.Version.2.2.1,I y17.1.Version.2.2.2],.box 40 [I y17.1.Kind,I y17.1.Number,S y17.1.Words,I y17.1.Version.1,I y17.1.Version.2.1,I y17.1.Version.2.2.1,I y17.1.Version.2.2.2]] E E (Kjj ⟨E,tV⟩) (Kjn (Kkb hΓ E E E E E E E E E))<|go_E hΓ 1 E<|Kjc<|oSi h26▸⟨⟨E,E,tV⟩,[],E,.inl E⟩
 exact gA 2 E<|oSi h20▸gP E E
theorem Lee{k:Nat}{text:Str}{r:(List Kxd)×Int×Int}(h:Kzn k text=some r):Pure Tryz.prog 11 [S text] (.tup [.d (Sl Lbw r.1),I r.2.1,I r.2.2]):=by
 unfold Kzn at h
 refine QP Tryz.func11 E E E<|gA 15 E<|Kfz E (fun hb=>?_) (fun hb=>?_)
 ·have h1:=cT h hb
  exact gA 9 E<|oSi h1▸gP E E
 have h2:=cF h hb
 refine bK h2 fun y3 hy3 h4=>gA 5 E<|Khd C (Ldn hy3) E Z E E E E E<|gO 9 E<|Kha (t:=0) 42 10 E Z<|gO 10 E<|bK h4 fun q8 hq8 h9=>Kgp 5 E fun hb11=>Kjx (R:=fun a10=>q8=.go a10) (fun a10=>[(7,.sl 0 a10.length)]) (fun a10=>[rO 42 10 Lbw a10]) ?_ ?_
 ·refine gA 1 E<|Kgo y3.1 hq8 (fun i5 s6=>[(5,.d (Sl eS y3.1)),(6,B y3.2),(7,.sl 0 s6.length),(21,.d (Sl eS y3.1)),(22,I (y3.1.length:Int)),(23,I (i5:Int))]) (fun s6=>[rO 42 10 Lbw s6]) ⟨⟨E,E,E,E,E,E,tV⟩,[],E,.inl E⟩ (fun i5 x7 s6 y15 hx12 hlt hy13 hout14=>?_) (fun s6 hgo=>?_)
  ·refine gA 6 E<|Kga E (dT (Int.ofNat_lt.2 hlt))<|gA 7 E<|eo_o E (Kgq hΓ (enc:=eS) (Kgj hx12) E E E E E (fun _=>E))<|bK hy13 fun y16 hy16 h17=>gO 8 E<|Khd C (Led hy16) E Z E E E E E<|gO 3 E<|Kov hΓ E E E Z<|Kpa hΓ E E E E E E E E Z<|Khk [rO 42 10 Lbw s6,.box 42 [I y16.1.At,S y16.1.Node,S y16.1.Name,I y16.1.Value.Kind,I y16.1.Value.Number,S y16.1.Value.Words,I y16.1.Value.Version.1,I y16.1.Value.Version.2.1,I y16.1.Value.Version.2.2.1,I y16.1.Value.Version.2.2.2]] E<|gO 9 E<|Kgf 10 [(5,.d (Sl eS y3.1)),(6,B y3.2),(7,.sl 0 s6.length),(8,I (i5:Int)),(10,.ptr 1 0),(21,.d (Sl eS y3.1)),(22,I (y3.1.length:Int)),(23,I (i5:Int)),(45,B ((!y16.2)||((!y3.2)&&(((i5:Int):Int)==(wi ((y3.1.length:Int) - 1))))))] [rO 42 10 Lbw s6,.box 42 [I y16.1.At,S y16.1.Node,S y16.1.Name,I y16.1.Value.Kind,I y16.1.Value.Number,S y16.1.Value.Words,I y16.1.Value.Version.1,I y16.1.Value.Version.2.1,I y16.1.Value.Version.2.2.1,I y16.1.Value.Version.2.2.2]] ?_ ?_
   ·refine Kno E E (fun hb=>?_) (fun hb=>?_)
    ·exact gO 11 E<|⟨⟨E,E,E,E,E,E,E,E,Kfi E (or_t hb),tV⟩,[],E,.inl E⟩
    refine gO 3 E<|Kgf 6 [(5,.d (Sl eS y3.1)),(6,B y3.2),(7,.sl 0 s6.length),(8,I (i5:Int)),(10,.ptr 1 0),(21,.d (Sl eS y3.1)),(22,I (y3.1.length:Int)),(23,I (i5:Int)),(35,B false),(44,B ((!y3.2)&&(((i5:Int):Int)==(wi ((y3.1.length:Int) - 1)))))] [rO 42 10 Lbw s6,.box 42 [I y16.1.At,S y16.1.Node,S y16.1.Name,I y16.1.Value.Kind,I y16.1.Value.Number,S y16.1.Value.Words,I y16.1.Value.Version.1,I y16.1.Value.Version.2.1,I y16.1.Value.Version.2.2.1,I y16.1.Value.Version.2.2.2]] ?_ ?_
    ·refine Kno E E (fun hb=>?_) (fun hb=>?_)
     ·exact gO 7 E<|⟨⟨E,E,E,E,E,E,E,E,E,Kfi E (Khw hb),tV⟩,[],E,.inl E⟩
     exact gO 7 E<|⟨⟨E,E,E,E,E,E,E,E,E,Kfi E (Khx hb),tV⟩,[],E,.inl E⟩
    exact gO 2 E<|⟨⟨E,E,E,E,E,E,E,E,Kfi E (or_f hb),tV⟩,[],E,.inl E⟩
   refine gO 2 E<|jC E h17 (fun h18=>?_) fun h21=>gA 5 E<|Kgx hΓ (enc:=Lbw) [y16.1] E E E E E E E E E E E E Z<|bK h21 fun y22 hy22 h23=>Khl hΓ (enc:=Lbw) hy22 E E E E E E E E E (fun _=>E) E E E E<|gO 8 E ?_
   ·refine gA 12 E<|bK h18 fun v19 hv19 h20=>?_
    cases h20
    obtain rfl:=hout14 _ rfl
    cases h9
    exact gA 4 E<|oSi hv19▸gP E E
   cases h23
   exact⟨_,E,⟨⟨E,E,E,E,E,Kfh E (Kfg (nLl hlt hb11)),tV⟩,[_],E,.inr ⟨HB.mk E,FB.mk E,Z⟩⟩⟩
  subst hgo
  exact gA 6 E<|Kgb E (dF (Int.lt_irrefl _))<|gA 4 E<|⟨_,E,⟨⟨E,tV⟩,[],E,.inl E⟩⟩
 intro a10 ha
 subst ha
 replace h9:=Kju h9
 refine bK h9 fun y24 hy24 h25=>gA 5 E<|Khg C (Lct hy24) E Z E E E E E<|gO 9 E<|jC E h25 (fun h26=>?_) fun h27=>gA 6 E<|Khj 0 [2,7,52,57] _ [.dead] E E E Z<|gO 5 E<|oSi h27▸gP E E
 exact gA 10 E<|oSi h26▸gP E E
theorem Lef{s:Str}{most:Int}{r:Int×Bool}(h:Kzo s most=some r):Pure Tryz.prog 47 [S s,I most] (.tup [I r.1,B r.2]):=by
 unfold Kzo at h
 refine QP Tryz.func47 E E E<|bK h fun y1 hy1 h2=>gA 9 E<|Khd C (Krz hy1) E Z E E E E E<|gO 9 E<|Kgf 5 [(0,S s),(6,S y1),(18,B (((y1:Str)==[])||(decide (((y1.length:Int):Int)>most))))] [] ?_ ?_
 ·refine Kno E E (fun hb=>?_) (fun hb=>?_)
  ·exact gO 6 E<|⟨⟨E,E,Kfi E (or_t hb),tV⟩,[],E,.inl E⟩
  exact gO 6 E<|⟨⟨E,E,Kfi E (or_f hb),tV⟩,[],E,.inl E⟩
 refine gO 1 E<|bK h2 fun q3 hq3 h4=>Kgf 4 [(0,S s),(23,B q3)] [] ?_ ?_
 ·refine Kno E E (fun hb=>?_) (fun hb=>?_)
  ·have h5:=cT hq3 hb
   exact gO 5 E<|oSi h5▸⟨⟨E,E,tV⟩,[],E,.inl E⟩
  have h6:=cF hq3 hb
  exact bK h6 fun y7 hy7 h8=>gO 1 E<|Knm E<|Khd C (Ldd hy7) E Z E E E E E<|gO 3 E<|oSi h8▸⟨⟨E,E,tV⟩,[],E,.inl E⟩
 refine gO 2 E<|jC E h4 (fun h9=>?_) fun h10=>bK h10 fun y11 hy11 h12=>gA 5 E<|Khd C (Ksh hy11) E Z E E E E E<|gO 11 E<|eo_o E (Klh hΓ E E E E)<|bK h12 fun y13 hy13 h14=>gO 2 E<|Knm E<|Khd C (Ksf hy13) E Z E E E E E<|gO 8 E<|oSi h14▸gP E E
 exact gA 8 E<|oSi h9▸gP E E
theorem Leg{s:Str}{v_some:Str}{r:Int}(h:Kzp s v_some=some r):Pure Tryz.prog 128 [S s,S v_some] (I r):=by
 unfold Kzp at h
 exact QP Tryz.func128 E E E<|bK h fun y1 hy1 h2=>gA 11 E<|Khd C (Ksi hy1) E Z E E E E E<|gO 6 E<|oSi h2▸gP E E
theorem Leh{k:Nat}{s:Str}{r:Str×Int}(h:Kzq k s=some r):Pure Tryz.prog 129 [S s] (.tup [S r.1,I r.2]):=by
 unfold Kzq at h
 refine QP Tryz.func129 E E E<|gA 17 E<|bK h fun q4 hq4 h5=>Kjx (R:=fun a6=>q4=.inl a6) (fun a6=>[]) (fun a6=>[]) ?_ ?_
 ·refine gA 1 E<|Kgm hq4 (fun s2=>[(0,S s),(4,S s2.1),(5,I s2.2)]) (fun s2=>[]) ⟨⟨E,E,E,tV⟩,[],E,.inl E⟩ (fun s2 y10 hy8 hout9=>?_)
  refine gA 9 E<|jC E hy8 (fun h11=>?_) fun h50=>gA 4 E ?_
  ·refine bK h11 fun c12 hc12 h13=>gA 8 E<|eo_o E (Kgr hΓ hc12 E E E E)<|gO 11 E<|jC E h13 (fun h14=>?_) fun h17=>gA 7 E<|jC E h17 (fun h18=>?_) fun h39=>?_
   ·refine gA 13 E<|bK h14 fun v15 hv15 h16=>?_
    cases h16
    obtain rfl:=hout9 _ rfl
    cases h5
    exact gA 4 E<|oSi hv15▸gP E E
   ·refine gA 15 E<|bK h18 fun q19 hq19 h20=>Kgf 11 [(0,S s),(4,S s2.1),(5,I (wi (s2.2+1))),(49,B q19)] [] ?_ ?_
    ·refine Kno E E (fun hb=>?_) (fun hb=>?_)
     ·have h21:=cT hq19 hb
      exact gO 12 E<|oSi h21▸⟨⟨E,E,E,E,tV⟩,[],E,.inl E⟩
     have h22:=cF hq19 hb
     refine bK h22 fun c23 hc23 h24=>gO 2 E<|Knm E<|eo_o E (Kgr hΓ hc23 E E E E)<|gO 2 E<|bK h24 fun q25 hq25 h26=>Kgf 5 [(0,S s),(4,S s2.1),(5,I (wi (s2.2+1))),(38,B false),(48,B q25)] [] ?_ ?_
     ·refine Kno E E (fun hb=>?_) (fun hb=>?_)
      ·have h27:=cT hq25 hb
       exact bK h27 fun c28 hc28 h29=>gO 2 E<|Knm E<|eo_o E (Kgr hΓ hc28 E E E E)<|gO 3 E<|oSi h29▸⟨⟨E,E,E,E,E,tV⟩,[],E,.inl E⟩
      have h30:=cF hq25 hb
      exact gO 6 E<|oSi h30▸⟨⟨E,E,E,E,E,tV⟩,[],E,.inl E⟩
     exact gO 2 E<|oSi h26▸⟨⟨E,E,E,E,tV⟩,[],E,.inl E⟩
    refine gO 2 E<|jC E h20 (fun h31=>?_) fun h34=>bK h34 fun z35 hz35 h36=>gA 8 E<|eo_o E (Kgs hΓ hz35 E E E E E)<|bK h36 fun y37 hy37 h38=>eo_o E (Khn hy37 E E)<|gO 10 E<|oSi h38▸⟨_,E,⟨⟨E,E,E,tV⟩,[],E,.inl E⟩⟩
    refine gA 11 E<|bK h31 fun v32 hv32 h33=>?_
    cases h33
    obtain rfl:=hout9 _ rfl
    cases h5
    exact gA 4 E<|oSi hv32▸gP E E
   refine bK h39 fun y40 hy40 h41=>gA 4 E<|Khd C (Ldf hy40) E Z E E E E E<|gO 4 E<|jC E h41 (fun h42=>?_) fun h45=>bK h45 fun z46 hz46 h47=>gA 6 E<|eo_o E (Kgs hΓ hz46 E E E E E)<|bK h47 fun y48 hy48 h49=>eo_o E (Khn hy48 E E)<|gO 10 E<|oSi h49▸⟨_,E,⟨⟨E,E,E,tV⟩,[],E,.inl E⟩⟩
   refine gA 10 E<|bK h42 fun v43 hv43 h44=>?_
   cases h44
   obtain rfl:=hout9 _ rfl
   cases h5
   exact gA 4 E<|oSi hv43▸gP E E
  cases h50
  obtain rfl:=hout9 _ rfl
  exact⟨_,E,⟨tV,[],E,.inl E⟩⟩
 intro a6 ha
 subst ha
 replace h5:=Kjt h5
 exact gA 8 E<|oSi h5▸gP E E
end Go.Proofs.YtmecneoeklldeaaGreatDoor
