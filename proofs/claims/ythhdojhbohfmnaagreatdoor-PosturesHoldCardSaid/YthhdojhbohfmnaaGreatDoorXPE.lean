import Derived.Test.YthhdojhbohfmnaaGreatDoorXPM
import Derived.Test.YthhdojhbohfmnaaGreatDoorGt
import Derived.Test.YthhdojhbohfmnaaGreatDoorGk64
set_option linter.all false
set_option maxRecDepth 100000
namespace Go.Proofs.YthhdojhbohfmnaaGreatDoor
open Go.Gk
theorem E.{u}{α:Sort u}{a:α}:a=a:=rfl
theorem Z{n m:Nat}(h:Nat.ble n m=true:=by exact rfl):n≤m:=nBe h
theorem C{f:FuncId}{fn:Func}(h:Tryz.prog.funcs[f]?=some fn:=by exact rfl)(h1:fn.body.isNone=false:=by exact rfl)(h2:(fn.name== "runtime.NumGoroutine")=false:=by exact rfl):Callable Tryz.prog f:=Lie h h1 h2
theorem bK{α β:Type}{x:Option α}{f:α→Option β}{r:β}{G:Prop}(h:bi x f=some r)(k:∀ a,x=some a→f a=some r→G):G:=let⟨a,b,c⟩:=Kfx h;k a b c
theorem gK{α:Type}{c:Bool}{x:Option α}{r:α}{G:Prop}(h:gd c x=some r)(k:c=true→x=some r→G):G:=let⟨a,b⟩:=Kfy h;k a b
section
variable{F N:Nat}{Q:GPost}{fr fr':Fr}{hp:List Ob}{ks:List Kt}
theorem jC{P:Program}{t:Tmp}{x y:Code}{b:Bool}{α:Type}{u v r:α}(hb:fr.get t=some (.d (.v (.bool b))))(h:(bif b then u else v)=r)(h1:u=r→St.holds P F N Q (.code x ks) fr hp)(h2:v=r→St.holds P F N Q (.code y ks) fr hp):St.holds P F N Q (.code (.cond (.tmp t) x y) ks) fr hp:=Kfq hb (fun e=>h1 (cT h e)) fun e=>h2 (cF h e)
theorem gA(n:Nat){st st':St}(h:mrun Γ N hp n st fr=(st',fr'))(k:St.holds Tryz.prog F N Q st' fr' hp):St.holds Tryz.prog F N Q st fr hp:=go hΓ n h k
theorem gO(n:Nat){full:Array Oper}{l:List Oper}{st':St}(h:mrun Γ N hp n (.ops full l ks) fr=(st',fr'))(k:St.holds Tryz.prog F N Q st' fr' hp):EO Tryz.prog F N full l (stk Tryz.prog F N Q ks) fr hp:=Kfn hΓ n h k
theorem jD{id:Nat}{ops:Array Oper}(h:St.holds Tryz.prog F N Q (.draw ops ops.toList ks) fr hp)(hB:Region.lexB .any ops=true:=by kernel_rfl):St.holds Tryz.prog F N Q (.code (.region id ops true) ks) fr hp:=Kft hmix hB h
theorem QN{f:FuncId}{fn:Func}{c:Code}{gs:List G}{R:G→List Ob→Prop}(hf:Tryz.prog.funcs[f]?=some fn)(hb:fn.body=some c)(hN:gs.length≤fn.ntmps)(h:St.holds Tryz.prog hp.length fn.ntmps (Ret Tryz.prog fn hp.length R) (.code c []) (Fr.of 0 gs) hp):EC Tryz.prog f gs hp R:=Kog (Fr.of 0 gs) hf hb (Fr.of_ok gs) hN fun _=>Kfp h
theorem QM{f:FuncId}{fn:Func}{c:Code}{gs:List G}{R:G→List Ob→Prop}(hf:Tryz.prog.funcs[f]?=some fn)(hb:fn.body=some c)(hN:gs.length≤fn.ntmps)(h:St.holds Tryz.prog hp.length fn.ntmps (fun e fr hp'=>Cv hp.length fn.ntmps (fun fr2 hp2=>Ret Tryz.prog fn hp.length R e fr2 hp2) fr hp') (.code c []) (Fr.of 0 gs) hp):EC Tryz.prog f gs hp R:=Klk (Fr.of 0 gs) hf hb (Fr.of_ok gs) hN fun _=>Kfp h
theorem QP{f:FuncId}{fn:Func}{c:Code}{gs:List G}{r:G}(hf:Tryz.prog.funcs[f]?=some fn)(hb:fn.body=some c)(hN:Nat.ble gs.length fn.ntmps=true)(hr:r.bel 0=true)(h:St.holds Tryz.prog 0 fn.ntmps (fun e fr hp=>(e=.normal∨e=.ret)∧Res Tryz.prog fn fr hp r) (.code c []) (Fr.of 0 gs) []):Pure Tryz.prog f gs r:=Pure.enter (Fr.of 0 gs) hf hb (Fr.of_ok gs) hN hr (Kfp h)
theorem gP{fn:Func}{gs:List G}{g:G}(h:resAll Γ fr hp fn.results.toList=some gs)(hg:retG gs=g):(Exit.ret=.normal∨Exit.ret=.ret)∧Res Tryz.prog fn fr hp g:=Khk hΓ (.inr rfl) h hg
end
abbrev Kxs(x:Kyc):List D:=[Sl (eN .i64) x.L,.v (.int .i64 x.v_at)]
abbrev Kxt(x:Kyd):List D:=[.v (.int .i64 x.Kind),.v (.int .i64 x.Number),.v (.string ⟨x.Words.toArray⟩),.v (.int .i64 x.Version.1),.v (.int .i64 x.Version.2.1),.v (.int .i64 x.Version.2.2.1),.v (.int .i64 x.Version.2.2.2)]
abbrev Kxu(x:Kyg):List D:=[.v (.string ⟨x.Key.toArray⟩),.v (.int .i64 x.Cond.Kind),.v (.string ⟨x.Cond.Name.toArray⟩),.v (.string ⟨x.Cond.Op.toArray⟩),.v (.int .i64 x.Cond.Value.Kind),.v (.int .i64 x.Cond.Value.Number),.v (.string ⟨x.Cond.Value.Words.toArray⟩),.v (.int .i64 x.Cond.Value.Version.1),.v (.int .i64 x.Cond.Value.Version.2.1),.v (.int .i64 x.Cond.Value.Version.2.2.1),.v (.int .i64 x.Cond.Value.Version.2.2.2),.ro x.Cond.Kids.n x.Cond.Kids.xs]
abbrev Kxv(x:Kyh):List D:=[.v (.int .i64 x.At),.v (.string ⟨x.Node.toArray⟩),.v (.string ⟨x.Name.toArray⟩),.v (.int .i64 x.Value.Kind),.v (.int .i64 x.Value.Number),.v (.string ⟨x.Value.Words.toArray⟩),.v (.int .i64 x.Value.Version.1),.v (.int .i64 x.Value.Version.2.1),.v (.int .i64 x.Value.Version.2.2.1),.v (.int .i64 x.Value.Version.2.2.2)]
abbrev Kxw(x:Kyi):List D:=[.v (.string ⟨x.node.toArray⟩),.v (.string ⟨x.name.toArray⟩)]
abbrev Kxx(x:Kyk):List D:=[.v (.string ⟨x.Node.toArray⟩),.v (.string ⟨x.Posture.toArray⟩)]
abbrev Kxy(x:Kyl):List D:=[.v (.int .i64 x.is),Sl (eN .i64) x.proof]
abbrev Kxz(x:Kym):List D:=[.v (.string ⟨x.kind.toArray⟩),.v (.int .i64 x.v_at),.v (.int .i64 x.v_end),.v (.string ⟨x.name.toArray⟩),.v (.int .i64 x.value.Kind),.v (.int .i64 x.value.Number),.v (.string ⟨x.value.Words.toArray⟩),.v (.int .i64 x.value.Version.1),.v (.int .i64 x.value.Version.2.1),.v (.int .i64 x.value.Version.2.2.1),.v (.int .i64 x.value.Version.2.2.2)]
abbrev Kya(x:Kyn):List D:=[.v (.string ⟨x.s.toArray⟩),.v (.string ⟨x.tok.kind.toArray⟩),.v (.int .i64 x.tok.v_at),.v (.int .i64 x.tok.v_end),.v (.string ⟨x.tok.name.toArray⟩),.v (.int .i64 x.tok.value.Kind),.v (.int .i64 x.tok.value.Number),.v (.string ⟨x.tok.value.Words.toArray⟩),.v (.int .i64 x.tok.value.Version.1),.v (.int .i64 x.tok.value.Version.2.1),.v (.int .i64 x.tok.value.Version.2.2.1),.v (.int .i64 x.tok.value.Version.2.2.2),.v (.bool x.bad),.v (.int .i64 x.v_at)]
abbrev mObB(m:List (Str×Bool)):Ob:=mOb kS false eB m
abbrev rO{α:Type}(t:TypeId)(z:Nat)(e:α→List D)(l:List α):Ob:=.row t z l.length (l.flatMap e)
abbrev fQ(s:Kyc):List G:=[.d (Sl (eN .i64) s.L),I s.v_at]
theorem Kyb:KeyP Tryz.prog 242 (kD Kxw):=Kmc hΓ [242] Kxw (show Γ 242=some ⟨.struct _,_,_,_⟩ from rfl) (by kernel_rfl) (fun _=>rfl) (fun _=>rfl) (fun a b=>by
  show some (((a.node==b.node)&&((a.name==b.name)&&true)))=some (a==b)
  refine congrArg some ?_
  rw[Bool.eq_iff_iff]
  cases a;cases b;simp[Bool.and_eq_true]) (fun a b h=>by simpa using h) (fun a=>by simp) (fun a=>by simp[Instr.sameBits,kD,Kxw,Kly])
end Go.Proofs.YthhdojhbohfmnaaGreatDoor
