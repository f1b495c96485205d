import Derived.Test.YtfnjahjbpaoepaaGreatDoorXSM
import Derived.Test.YtfnjahjbpaoepaaGreatDoorGt
import Derived.Test.YtfnjahjbpaoepaaGreatDoorStr
import Derived.Test.YtfnjahjbpaoepaaGreatDoorStr2
import Derived.Test.YtfnjahjbpaoepaaGreatDoorStr4
import Derived.Test.YtfnjahjbpaoepaaGreatDoorStr5
import Derived.Test.YtfnjahjbpaoepaaGreatDoorStr6
import Derived.Test.YtfnjahjbpaoepaaGreatDoorStr7
import Derived.Test.YtfnjahjbpaoepaaGreatDoorStrL
import Derived.Test.YtfnjahjbpaoepaaGreatDoorBld
set_option maxHeartbeats 8000000
set_option linter.all false
set_option maxRecDepth 100000
namespace Go.Proofs.YtfnjahjbpaoepaaGreatDoor
open Go.Gk
theorem E.{u}{α:Sort u}{a:α}:a=a:=rfl
theorem Z{n m:Nat}(h:Nat.ble n m=true:=by exact rfl):n≤m:=nBe h
theorem C{f:FuncId}{fn:Func}(h:Tryz.prog.funcs[f]?=some fn:=by exact rfl)(h1:fn.body.isNone=false:=by exact rfl)(h2:(fn.name== "runtime.NumGoroutine")=false:=by exact rfl):Callable Tryz.prog f:=Lga h h1 h2
theorem bK{α β:Type}{x:Option α}{f:α→Option β}{r:β}{G:Prop}(h:bi x f=some r)(k:∀ a,x=some a→f a=some r→G):G:=let⟨a,b,c⟩:=Kgq h;k a b c
theorem gK{α:Type}{c:Bool}{x:Option α}{r:α}{G:Prop}(h:gd c x=some r)(k:c=true→x=some r→G):G:=let⟨a,b⟩:=Kgr h;k a b
section
variable{F N:Nat}{Q:GPost}{fr fr':Fr}{hp:List Ob}{ks:List Kt}
theorem jC{P:Program}{t:Tmp}{x y:Code}{b:Bool}{α:Type}{u v r:α}(hb:fr.get t=some (.d (.v (.bool b))))(h:(bif b then u else v)=r)(h1:u=r→St.holds P F N Q (.code x ks) fr hp)(h2:v=r→St.holds P F N Q (.code y ks) fr hp):St.holds P F N Q (.code (.cond (.tmp t) x y) ks) fr hp:=Kgj hb (fun e=>h1 (cT h e)) fun e=>h2 (cF h e)
theorem gA(n:Nat){st st':St}(h:mrun Γ N hp n st fr=(st',fr'))(k:St.holds Tryz.prog F N Q st' fr' hp):St.holds Tryz.prog F N Q st fr hp:=go hΓ n h k
theorem gO(n:Nat){full:Array Oper}{l:List Oper}{st':St}(h:mrun Γ N hp n (.ops full l ks) fr=(st',fr'))(k:St.holds Tryz.prog F N Q st' fr' hp):EO Tryz.prog F N full l (stk Tryz.prog F N Q ks) fr hp:=Kgg hΓ n h k
theorem jD{id:Nat}{ops:Array Oper}(h:St.holds Tryz.prog F N Q (.draw ops ops.toList ks) fr hp)(hB:Region.lexB .any ops=true:=by kernel_rfl):St.holds Tryz.prog F N Q (.code (.region id ops true) ks) fr hp:=Kgm hmix hB h
theorem QN{f:FuncId}{fn:Func}{c:Code}{gs:List G}{R:G→List Ob→Prop}(hf:Tryz.prog.funcs[f]?=some fn)(hb:fn.body=some c)(hN:gs.length≤fn.ntmps)(h:St.holds Tryz.prog hp.length fn.ntmps (Ret Tryz.prog fn hp.length R) (.code c []) (Fr.of 0 gs) hp):EC Tryz.prog f gs hp R:=Kpz (Fr.of 0 gs) hf hb (Fr.of_ok gs) hN fun _=>Kgi h
theorem QM{f:FuncId}{fn:Func}{c:Code}{gs:List G}{R:G→List Ob→Prop}(hf:Tryz.prog.funcs[f]?=some fn)(hb:fn.body=some c)(hN:gs.length≤fn.ntmps)(h:St.holds Tryz.prog hp.length fn.ntmps (fun e fr hp'=>Cv hp.length fn.ntmps (fun fr2 hp2=>Ret Tryz.prog fn hp.length R e fr2 hp2) fr hp') (.code c []) (Fr.of 0 gs) hp):EC Tryz.prog f gs hp R:=Kme (Fr.of 0 gs) hf hb (Fr.of_ok gs) hN fun _=>Kgi h
theorem QP{f:FuncId}{fn:Func}{c:Code}{gs:List G}{r:G}(hf:Tryz.prog.funcs[f]?=some fn)(hb:fn.body=some c)(hN:Nat.ble gs.length fn.ntmps=true)(hr:r.bel 0=true)(h:St.holds Tryz.prog 0 fn.ntmps (fun e fr hp=>(e=.normal∨e=.ret)∧Res Tryz.prog fn fr hp r) (.code c []) (Fr.of 0 gs) []):Pure Tryz.prog f gs r:=Pure.enter (Fr.of 0 gs) hf hb (Fr.of_ok gs) hN hr (Kgi h)
theorem gP{fn:Func}{gs:List G}{g:G}(h:resAll Γ fr hp fn.results.toList=some gs)(hg:retG gs=g):(Exit.ret=.normal∨Exit.ret=.ret)∧Res Tryz.prog fn fr hp g:=Kid hΓ (.inr rfl) h hg
end
abbrev Ldk(x:Kxw):List D:=[Sl (eN .i64) x.L,.v (.int .i64 x.v_at)]
abbrev Ldl(x:Kxx):List D:=[.v (.int .i64 x.At),.v (.string ⟨x.Server.toArray⟩),.v (.int .i64 x.No),.v (.int .i64 x.Kind),.v (.string ⟨x.By.toArray⟩),.v (.string ⟨x.Node.toArray⟩),.v (.string ⟨x.Join.toArray⟩),.v (.string ⟨x.Public.toArray⟩),.v (.string ⟨x.Name.toArray⟩),Sl eS x.Tags,.v (.int .i64 x.Until),.v (.int .i64 x.Uses),.v (.bool x.Ready)]
abbrev Ldm(x:Kxy):List D:=[.v (.string ⟨x.server.toArray⟩),.v (.int .i64 x.no)]
abbrev Ldn(x:Kxz):List D:=[.v (.string ⟨x.Tag.toArray⟩),Sl eS x.Users]
abbrev Ldo(x:Kya):List D:=[Sl eS x.Users,Sl Ldn x.Owners,.v (.int .i64 x.Life),.v (.bool x.Approve)]
abbrev rO{α:Type}(t:TypeId)(z:Nat)(e:α→List D)(l:List α):Ob:=.row t z l.length (l.flatMap e)
abbrev fS(s:Kxx):List G:=[I s.At,S s.Server,I s.No,I s.Kind,S s.By,S s.Node,S s.Join,S s.Public,S s.Name,.d (Sl eS s.Tags),I s.Until,I s.Uses,B s.Ready]
abbrev fD(d:Kya):List G:=[.d (Sl eS d.Users),.d (Sl Ldn d.Owners),I d.Life,B d.Approve]
abbrev fQ(s:Kxw):List G:=[.d (Sl (eN .i64) s.L),I s.v_at]
theorem Lfr:KeyP Tryz.prog 225 (kD Ldm):=Knf hΓ [225] Ldm (show Γ 225=some ⟨.struct _,_,_,_⟩ from rfl) (by kernel_rfl) (fun _=>rfl) (fun _=>rfl) (fun a b=>by
  show some (((a.server==b.server)&&((a.no==b.no)&&true)))=some (a==b)
  refine congrArg some ?_
  rw[Bool.eq_iff_iff]
  cases a;cases b;simp[Bool.and_eq_true]) (fun a b h=>by simpa using h) (fun a=>by simp) (fun a=>by simp[Instr.sameBits,kD,Ldm,Knb])
theorem Ldp{x:Int}{n:Int}{r:Int}(h:Kyb x n=some r):Pure Tryz.prog 124 [I x,I n] (I r):=by
 unfold Kyb at h
 refine QP Tryz.func124 E E E<|gA 12 E<|jC E h (fun h1=>?_) fun h2=>bK h2 fun y3 hy3 h4=>gA 6 E<|eo_o E (Kic hy3 E E)<|bK h4 fun q5 hq5 h6=>gO 10 E<|Kkj [(0,I q5)] [] ?_ ?_
 ·exact gA 7 E<|oSi h1▸gP E E
 ·refine jC E hq5 (fun h7=>?_) fun h8=>gA 1 E<|oSi h8▸⟨⟨E,tV⟩,[],E,.inl E⟩
  exact gA 6 E<|oSi h7▸⟨⟨E,tV⟩,[],E,.inl E⟩
 exact gA 8 E<|oSi h6▸gP E E
theorem Ldq{s:Kxw}{n:Int}{r:Int×Kxw}(h:Kyc s n=some r):EC Tryz.prog 38 [.ptr 0 0,I n] [.box 25 (fQ s)] fun g hp'=>g=I r.1∧hp'=[.box 25 (fQ r.2)]:=by
 unfold Kyc at h
 refine QN Tryz.func38 E Z<|gA 14 E<|Krt hΓ E E E E E E E E Z<|Khx [.box 25 [.d (Sl (eN .i64) s.L),I (wi (s.v_at+1))]] E<|gO 13 E<|jC E h (fun h1=>?_) fun h4=>gA 3 E<|jD<|bK h4 fun y5 hy5 h6=>gA 10 E<|gl_o E (Kic hy5 E E)<|Kgh hΓ 4 E<|jD<|bK h6 fun y7 hy7 h8=>gA 10 E<|gl_o E (Kib hy7 E E)<|bK h8 fun x9 hx9 h10=>Kgh hΓ 10 E<|eo_o E (Kha hΓ (enc:=(eN .i64)) hx9 E E E E E (fun _=>E))<|bK h10 fun y11 hy11 h12=>gO 1 E<|Khq C (Ldp hy11) E Z E E E E E<|bK h12 fun y13 hy13 h14=>gO 6 E<|Khq C (Ldp hy13) E Z E E E E E<|gO 4 E<|oSi h14▸Kie hΓ [] (.inr E) E E E E (.inl E)
 exact bK h1 fun y2 hy2 h3=>gA 8 E<|Khq C (Ldp hy2) E Z E E E E E<|gO 5 E<|oSi h3▸Kie hΓ [] (.inr E) E E E E (.inl E)
theorem Ldr{s:Kxw}{low:Int}{high:Int}{r:Int×Kxw}(h:Kyd s low high=some r):EC Tryz.prog 26 [.ptr 0 0,I low,I high] [.box 25 (fQ s)] fun g hp'=>g=I r.1∧hp'=[.box 25 (fQ r.2)]:=by
 unfold Kyd at h
 refine QN Tryz.func26 E Z<|gA 13 E<|jC E h (fun h1=>?_) fun h2=>bK h2 fun y3 hy3 h4=>gA 10 E<|Khp [0] (I y3.1) [.box 25 (fQ y3.2)] C (Ldq hy3) E Z E E E E E E E E E E<|gO 5 E<|oSi h4▸Kie hΓ [] (.inr E) E E E E (.inl E)
 exact gA 8 E<|oSi h1▸Kie hΓ [] (.inr E) E E E E (.inl E)
theorem Lds{s:Kxw}{l:List Str}{r:Str×Kxw}(h:Kye s l=some r):EC Tryz.prog 40 [.ptr 0 0,.d (Sl eS l)] [.box 25 (fQ s)] fun g hp'=>g=S r.1∧hp'=[.box 25 (fQ r.2)]:=by
 unfold Kye at h
 exact QN Tryz.func40 E Z<|bK h fun y1 hy1 h2=>gA 11 E<|Khp [0] (I y1.1) [.box 25 (fQ y1.2)] C (Ldq hy1) E Z E E E E E E E E E E<|bK h2 fun x3 hx3 h4=>eo_o E (Kha hΓ (enc:=eS) hx3 E E E E E (fun _=>E))<|gO 5 E<|oSi h4▸Kie hΓ [] (.inr E) E E E E (.inl E)
theorem Ldt{s:Kxw}{l:List Int}{r:Int×Kxw}(h:Kyf s l=some r):EC Tryz.prog 35 [.ptr 0 0,.d (Sl (eN .i64) l)] [.box 25 (fQ s)] fun g hp'=>g=I r.1∧hp'=[.box 25 (fQ r.2)]:=by
 unfold Kyf at h
 exact QN Tryz.func35 E Z<|bK h fun y1 hy1 h2=>gA 11 E<|Khp [0] (I y1.1) [.box 25 (fQ y1.2)] C (Ldq hy1) E Z E E E E E E E E E E<|bK h2 fun x3 hx3 h4=>eo_o E (Kha hΓ (enc:=(eN .i64)) hx3 E E E E E (fun _=>E))<|gO 5 E<|oSi h4▸Kie hΓ [] (.inr E) E E E E (.inl E)
theorem Ldu{s:Kxw}{r:Str×Kxw}(h:Kyg s=some r):EC Tryz.prog 195 [.ptr 0 0] [.box 25 (fQ s)] fun g hp'=>g=S r.1∧hp'=[.box 25 (fQ r.2)]:=by
 unfold Kyg at h
 exact QN Tryz.func195 E Z<|gA 8 E<|Khl hΓ (enc:=eS) [[97,110,110],[97,110,110],[97,110,110],[98,111,98],[99,105,100],[122,101,100]] E E E E E E E E E E E E Z<|bK h fun y1 hy1 h2=>Khp [0] (S y1.1) [.box 25 (fQ y1.2)] C (Lds hy1) E Z E E E E E E E E E E<|gO 4 E<|oSi h2▸Kie hΓ [] (.inr E) E E E E (.inl E)
theorem Ldv{s:Kxw}{r:(List Str)×Kxw}(h:Kyh s=some r):EC Tryz.prog 196 [.ptr 0 0] [.box 25 (fQ s)] fun g hp'=>g=.d (Sl eS r.1)∧hp'=[.box 25 (fQ r.2)]:=by
 unfold Kyh at h
 exact QN Tryz.func196 E Z<|gA 7 E<|Khl hΓ (enc:=eS) [[119,101,98]] E E E E E E E E E E E E Z<|Khl hΓ (enc:=eS) [[119,101,98]] E E E E E E E E E E E E Z<|Khl hΓ (enc:=eS) [[100,98]] E E E E E E E E E E E E Z<|Khl hΓ (enc:=eS) [[100,98],[119,101,98]] E E E E E E E E E E E E Z<|Khl hΓ (enc:=eS) [[110,111,110,101]] E E E E E E E E E E E E Z<|Khl hΓ (enc:=(eL eS)) [[],[[119,101,98]],[[119,101,98]],[[100,98]],[[100,98],[119,101,98]],[[110,111,110,101]]] E E E E E E E E E E E E Z<|bK h fun y1 hy1 h2=>gO 1 E<|Khp [0] (I y1.1) [.box 25 (fQ y1.2)] C (Ldq hy1) E Z E E E E E E E E E E<|bK h2 fun x3 hx3 h4=>eo_o E (Kha hΓ (enc:=(eL eS)) hx3 E E E E E (fun _=>E))<|gO 5 E<|oSi h4▸Kie hΓ [] (.inr E) E E E E (.inl E)
theorem Ldw{s:Kxw}{n:Int}{r:Bool×Kxw}(h:Kyi s n=some r):EC Tryz.prog 39 [.ptr 0 0,I n] [.box 25 (fQ s)] fun g hp'=>g=B r.1∧hp'=[.box 25 (fQ r.2)]:=by
 unfold Kyi at h
 exact QN Tryz.func39 E Z<|bK h fun y1 hy1 h2=>gA 9 E<|Khp [0] (I y1.1) [.box 25 (fQ y1.2)] C (Ldq hy1) E Z E E E E E E E E E E<|gO 5 E<|oSi h2▸Kie hΓ [] (.inr E) E E E E (.inl E)
theorem Ldx{s:Kxw}{v_at:Int}{r:Kxx×Kxw}(h:Kyj s v_at=some r):EC Tryz.prog 103 [.ptr 0 0,I v_at] [.box 25 (fQ s)] fun g hp'=>g=.agg (fS r.1)∧hp'=[.box 25 (fQ r.2)]:=by
 unfold Kyj at h
 refine QN Tryz.func103 E Z<|gA 2 E<|Kro hΓ E E E Z<|gO 6 E<|Khl hΓ (enc:=eS) [[115,49],[115,49],[115,50]] E E E E E E E E E E E E Z<|bK h fun y1 hy1 h2=>Khp [0] (S y1.1) [.box 25 (fQ y1.2),.box 139 [I 0,S [],I 0,I 0,S [],S [],S [],S [],S [],.d (Sl eS []),I 0,I 0,B false]] C (Lds hy1) E Z E E E E E E E E E E<|gO 1 E<|Khl hΓ (enc:=(eN .i64)) [1,2,3,3,3,3,3,4,5,5,6,7,7,8,9] E E E E E E E E E E E E Z<|bK h2 fun y3 hy3 h4=>Khp [0] (I y3.1) [.box 25 (fQ y3.2),.box 139 [I 0,S [],I 0,I 0,S [],S [],S [],S [],S [],.d (Sl eS []),I 0,I 0,B false]] C (Ldt hy3) E Z E E E E E E E E E E<|bK h4 fun y5 hy5 h6=>gO 1 E<|Khp [0] (S y5.1) [.box 25 (fQ y5.2),.box 139 [I 0,S [],I 0,I 0,S [],S [],S [],S [],S [],.d (Sl eS []),I 0,I 0,B false]] C (Ldu hy5) E Z E E E E E E E E E E<|Kep hΓ (gs:=[I v_at,S y1.1,I 0,I y3.1,S y5.1,S [],S [],S [],S [],.d (Sl eS []),I 0,I 0,B false]) E E E E E E E<|Kro hΓ E E E Z<|Krt hΓ E E E E E E E E Z<|Khx [.box 25 (fQ y5.2),.box 139 [I 0,S [],I 0,I 0,S [],S [],S [],S [],S [],.d (Sl eS []),I 0,I 0,B false],.box 139 [I v_at,S y1.1,I 0,I y3.1,S y5.1,S [],S [],S [],S [],.d (Sl eS []),I 0,I 0,B false]] E<|gO 5 E<|Khl hΓ (enc:=eS) [[110,97],[110,97],[110,98],[110,98],[110,99],[110,100]] E E E E E E E E E E E E Z<|bK h6 fun y7 hy7 h8=>Khp [0] (S y7.1) [.box 25 (fQ y7.2),.box 139 [I 0,S [],I 0,I 0,S [],S [],S [],S [],S [],.d (Sl eS []),I 0,I 0,B false],.box 139 [I v_at,S y1.1,I 0,I y3.1,S y5.1,S [],S [],S [],S [],.d (Sl eS []),I 0,I 0,B false]] C (Lds hy7) E Z E E E E E E E E E E<|gO 6 E<|Khl hΓ (enc:=eS) [[107,49],[107,49],[107,50]] E E E E E E E E E E E E Z<|bK h8 fun y9 hy9 h10=>Khp [0] (S y9.1) [.box 25 (fQ y9.2),.box 139 [I 0,S [],I 0,I 0,S [],S [],S [],S [],S [],.d (Sl eS []),I 0,I 0,B false],.box 139 [I v_at,S y1.1,I 0,I y3.1,S y5.1,S [],S [],S [],S [],.d (Sl eS []),I 0,I 0,B false]] C (Lds hy9) E Z E E E E E E E E E E<|gO 6 E<|Khl hΓ (enc:=eS) [[48,97],[48,98],[48,99],[48,100],[48,101],[49,97],[49,98]] E E E E E E E E E E E E Z<|bK h10 fun y11 hy11 h12=>Khp [0] (S y11.1) [.box 25 (fQ y11.2),.box 139 [I 0,S [],I 0,I 0,S [],S [],S [],S [],S [],.d (Sl eS []),I 0,I 0,B false],.box 139 [I v_at,S y1.1,I 0,I y3.1,S y5.1,S [],S [],S [],S [],.d (Sl eS []),I 0,I 0,B false]] C (Lds hy11) E Z E E E E E E E E E E<|bK h12 fun q13 hq13 h14=>gO 10 E<|Kkj [(4,.ptr 1 0),(5,.ptr 2 0)] [.box 25 (fQ q13.1),.box 139 [I 0,S [],I 0,I 0,S [],S [],S [],S [],S [],.d (Sl eS []),I 0,I 0,B false],.box 139 (fS q13.2)] ?_ ?_
 ·refine gA 7 E<|jC E hq13 (fun h15=>?_) fun h24=>gA 6 E<|jC E h24 (fun h25=>?_) fun h26=>?_
  ·exact bK h15 fun y16 hy16 h17=>gA 3 E<|Khp [0] (.d (Sl eS y16.1)) [.box 25 (fQ y16.2),.box 139 [I 0,S [],I 0,I 0,S [],S [],S [],S [],S [],.d (Sl eS []),I 0,I 0,B false],.box 139 [I v_at,S y1.1,I 0,I y3.1,S y5.1,S [],S [],S [],S [],.d (Sl eS []),I 0,I 0,B false]] C (Ldv hy16) E Z E E E E E E E E E E<|gO 2 E<|Khl hΓ (enc:=(eN .i64)) [0,5,50,200] E E E E E E E E E E E E Z<|bK h17 fun y18 hy18 h19=>Khp [0] (I y18.1) [.box 25 (fQ y18.2),.box 139 [I 0,S [],I 0,I 0,S [],S [],S [],S [],S [],.d (Sl eS []),I 0,I 0,B false],.box 139 [I v_at,S y1.1,I 0,I y3.1,S y5.1,S [],S [],S [],S [],.d (Sl eS []),I 0,I 0,B false]] C (Ldt hy18) E Z E E E E E E E E E E<|gO 2 E<|Khl hΓ (enc:=(eN .i64)) [0,1,2,1000,1001] E E E E E E E E E E E E Z<|bK h19 fun y20 hy20 h21=>Khp [0] (I y20.1) [.box 25 (fQ y20.2),.box 139 [I 0,S [],I 0,I 0,S [],S [],S [],S [],S [],.d (Sl eS []),I 0,I 0,B false],.box 139 [I v_at,S y1.1,I 0,I y3.1,S y5.1,S [],S [],S [],S [],.d (Sl eS []),I 0,I 0,B false]] C (Ldt hy20) E Z E E E E E E E E E E<|bK h21 fun y22 hy22 h23=>gO 1 E<|Khp [0] (B y22.1) [.box 25 (fQ y22.2),.box 139 [I 0,S [],I 0,I 0,S [],S [],S [],S [],S [],.d (Sl eS []),I 0,I 0,B false],.box 139 [I v_at,S y1.1,I 0,I y3.1,S y5.1,S [],S [],S [],S [],.d (Sl eS []),I 0,I 0,B false]] C (Ldw hy22) E Z E E E E E E E E E E<|gO 1 E<|Krt hΓ E E E E E E E E Z<|Khx [.box 25 (fQ y22.2),.box 139 [I 0,S [],I 0,I 0,S [],S [],S [],S [],S [],.d (Sl eS []),I 0,I 0,B false],.box 139 [I v_at,S y1.1,I 0,I y3.1,S y5.1,S [],S y9.1,S [],S [],.d (Sl eS []),I 0,I 0,B false]] E<|gO 1 E<|Krt hΓ E E E E E E E E Z<|Khx [.box 25 (fQ y22.2),.box 139 [I 0,S [],I 0,I 0,S [],S [],S [],S [],S [],.d (Sl eS []),I 0,I 0,B false],.box 139 [I v_at,S y1.1,I 0,I y3.1,S y5.1,S [],S y9.1,S [],S [],.d (Sl eS y16.1),I 0,I 0,B false]] E<|gO 1 E<|Krt hΓ E E E E E E E E Z<|Khx [.box 25 (fQ y22.2),.box 139 [I 0,S [],I 0,I 0,S [],S [],S [],S [],S [],.d (Sl eS []),I 0,I 0,B false],.box 139 [I v_at,S y1.1,I 0,I y3.1,S y5.1,S [],S y9.1,S [],S [],.d (Sl eS y16.1),I (wi (v_at+y18.1)),I 0,B false]] E<|gO 1 E<|Krt hΓ E E E E E E E E Z<|Khx [.box 25 (fQ y22.2),.box 139 [I 0,S [],I 0,I 0,S [],S [],S [],S [],S [],.d (Sl eS []),I 0,I 0,B false],.box 139 [I v_at,S y1.1,I 0,I y3.1,S y5.1,S [],S y9.1,S [],S [],.d (Sl eS y16.1),I (wi (v_at+y18.1)),I y20.1,B false]] E<|gO 1 E<|Krt hΓ E E E E E E E E Z<|Khx [.box 25 (fQ y22.2),.box 139 [I 0,S [],I 0,I 0,S [],S [],S [],S [],S [],.d (Sl eS []),I 0,I 0,B false],.box 139 [I v_at,S y1.1,I 0,I y3.1,S y5.1,S [],S y9.1,S [],S [],.d (Sl eS y16.1),I (wi (v_at+y18.1)),I y20.1,B y22.1]] E<|gO 2 E<|oSi h23▸⟨⟨E,E,tV⟩,[],E,.inl E⟩
  ·exact gA 3 E<|Krt hΓ E E E E E E E E Z<|Khx [.box 25 (fQ y11.2),.box 139 [I 0,S [],I 0,I 0,S [],S [],S [],S [],S [],.d (Sl eS []),I 0,I 0,B false],.box 139 [I v_at,S y1.1,I 0,I y3.1,S y5.1,S [],S y9.1,S [],S [],.d (Sl eS []),I 0,I 0,B false]] E<|gO 2 E<|oSi h25▸⟨⟨E,E,tV⟩,[],E,.inl E⟩
  refine gA 6 E<|jC E h26 (fun h27=>?_) fun h38=>gA 6 E<|jC E h38 (fun h39=>?_) fun h40=>?_
  ·refine gA 6 E<|Khl hΓ (enc:=eS) [y7.1,[98,111,120],[98,111,120],[119,101,98]] E E E E E E E E E E E E Z<|bK h27 fun y28 hy28 h29=>Khp [0] (S y28.1) [.box 25 (fQ y28.2),.box 139 [I 0,S [],I 0,I 0,S [],S [],S [],S [],S [],.d (Sl eS []),I 0,I 0,B false],.box 139 [I v_at,S y1.1,I 0,I y3.1,S y5.1,S [],S [],S [],S [],.d (Sl eS []),I 0,I 0,B false]] C (Lds hy28) E Z E E E E E E E E E E<|gO 1 E<|Krt hΓ E E E E E E E E Z<|Khx [.box 25 (fQ y28.2),.box 139 [I 0,S [],I 0,I 0,S [],S [],S [],S [],S [],.d (Sl eS []),I 0,I 0,B false],.box 139 [I v_at,S y1.1,I 0,I y3.1,S y5.1,S y7.1,S [],S [],S [],.d (Sl eS []),I 0,I 0,B false]] E<|gO 1 E<|Krt hΓ E E E E E E E E Z<|Khx [.box 25 (fQ y28.2),.box 139 [I 0,S [],I 0,I 0,S [],S [],S [],S [],S [],.d (Sl eS []),I 0,I 0,B false],.box 139 [I v_at,S y1.1,I 0,I y3.1,S y5.1,S y7.1,S [],S y11.1,S [],.d (Sl eS []),I 0,I 0,B false]] E<|gO 1 E<|Krt hΓ E E E E E E E E Z<|Khx [.box 25 (fQ y28.2),.box 139 [I 0,S [],I 0,I 0,S [],S [],S [],S [],S [],.d (Sl eS []),I 0,I 0,B false],.box 139 [I v_at,S y1.1,I 0,I y3.1,S y5.1,S y7.1,S [],S y11.1,S y28.1,.d (Sl eS []),I 0,I 0,B false]] E<|bK h29 fun y30 hy30 h31=>gO 5 E<|Khp [0] (B y30.1) [.box 25 (fQ y30.2),.box 139 [I 0,S [],I 0,I 0,S [],S [],S [],S [],S [],.d (Sl eS []),I 0,I 0,B false],.box 139 [I v_at,S y1.1,I 0,I y3.1,S y5.1,S y7.1,S [],S y11.1,S y28.1,.d (Sl eS []),I 0,I 0,B false]] C (Ldw hy30) E Z E E E E E E E E E E<|gO 2 E<|jC E h31 (fun h32=>?_) fun h37=>gA 2 E<|oSi h37▸⟨⟨E,E,tV⟩,[],E,.inl E⟩
   refine gA 4 E<|Krt hΓ E E E E E E E E Z<|Khx [.box 25 (fQ y30.2),.box 139 [I 0,S [],I 0,I 0,S [],S [],S [],S [],S [],.d (Sl eS []),I 0,I 0,B false],.box 139 [I v_at,S y1.1,I 0,I y3.1,S y5.1,S y7.1,S y9.1,S y11.1,S y28.1,.d (Sl eS []),I 0,I 0,B false]] E<|bK h32 fun y33 hy33 h34=>gO 5 E<|Khp [0] (B y33.1) [.box 25 (fQ y33.2),.box 139 [I 0,S [],I 0,I 0,S [],S [],S [],S [],S [],.d (Sl eS []),I 0,I 0,B false],.box 139 [I v_at,S y1.1,I 0,I y3.1,S y5.1,S y7.1,S y9.1,S y11.1,S y28.1,.d (Sl eS []),I 0,I 0,B false]] C (Ldw hy33) E Z E E E E E E E E E E<|gO 3 E<|jC E h34 (fun h35=>?_) fun h36=>gA 2 E<|oSi h36▸⟨⟨E,E,tV⟩,[],E,.inl E⟩
   exact gA 2 E<|Krt hΓ E E E E E E E E Z<|Khx [.box 25 (fQ y33.2),.box 139 [I 0,S [],I 0,I 0,S [],S [],S [],S [],S [],.d (Sl eS []),I 0,I 0,B false],.box 139 [I v_at,S y1.1,I 0,I y3.1,S [],S y7.1,S y9.1,S y11.1,S y28.1,.d (Sl eS []),I 0,I 0,B false]] E<|gO 2 E<|oSi h35▸⟨⟨E,E,tV⟩,[],E,.inl E⟩
  ·exact gA 4 E<|Krt hΓ E E E E E E E E Z<|Khx [.box 25 (fQ y11.2),.box 139 [I 0,S [],I 0,I 0,S [],S [],S [],S [],S [],.d (Sl eS []),I 0,I 0,B false],.box 139 [I v_at,S y1.1,I 0,I y3.1,S y5.1,S y7.1,S [],S [],S [],.d (Sl eS []),I 0,I 0,B false]] E<|gO 1 E<|Krt hΓ E E E E E E E E Z<|Khx [.box 25 (fQ y11.2),.box 139 [I 0,S [],I 0,I 0,S [],S [],S [],S [],S [],.d (Sl eS []),I 0,I 0,B false],.box 139 [I v_at,S y1.1,I 0,I y3.1,S y5.1,S y7.1,S [],S y11.1,S [],.d (Sl eS []),I 0,I 0,B false]] E<|gO 2 E<|oSi h39▸⟨⟨E,E,tV⟩,[],E,.inl E⟩
  refine gA 6 E<|jC E h40 (fun h41=>?_) fun h44=>gA 6 E<|jC E h44 (fun h45=>?_) fun h48=>?_
  ·exact gA 3 E<|Khl hΓ (enc:=eS) [[98,111,120],[119,101,98],[109,97,99]] E E E E E E E E E E E E Z<|bK h41 fun y42 hy42 h43=>Khp [0] (S y42.1) [.box 25 (fQ y42.2),.box 139 [I 0,S [],I 0,I 0,S [],S [],S [],S [],S [],.d (Sl eS []),I 0,I 0,B false],.box 139 [I v_at,S y1.1,I 0,I y3.1,S y5.1,S [],S [],S [],S [],.d (Sl eS []),I 0,I 0,B false]] C (Lds hy42) E Z E E E E E E E E E E<|gO 1 E<|Krt hΓ E E E E E E E E Z<|Khx [.box 25 (fQ y42.2),.box 139 [I 0,S [],I 0,I 0,S [],S [],S [],S [],S [],.d (Sl eS []),I 0,I 0,B false],.box 139 [I v_at,S y1.1,I 0,I y3.1,S y5.1,S y7.1,S [],S [],S [],.d (Sl eS []),I 0,I 0,B false]] E<|gO 1 E<|Krt hΓ E E E E E E E E Z<|Khx [.box 25 (fQ y42.2),.box 139 [I 0,S [],I 0,I 0,S [],S [],S [],S [],S [],.d (Sl eS []),I 0,I 0,B false],.box 139 [I v_at,S y1.1,I 0,I y3.1,S y5.1,S y7.1,S [],S [],S y42.1,.d (Sl eS []),I 0,I 0,B false]] E<|gO 2 E<|oSi h43▸⟨⟨E,E,tV⟩,[],E,.inl E⟩
  ·exact bK h45 fun y46 hy46 h47=>gA 3 E<|Khp [0] (.d (Sl eS y46.1)) [.box 25 (fQ y46.2),.box 139 [I 0,S [],I 0,I 0,S [],S [],S [],S [],S [],.d (Sl eS []),I 0,I 0,B false],.box 139 [I v_at,S y1.1,I 0,I y3.1,S y5.1,S [],S [],S [],S [],.d (Sl eS []),I 0,I 0,B false]] C (Ldv hy46) E Z E E E E E E E E E E<|gO 1 E<|Krt hΓ E E E E E E E E Z<|Khx [.box 25 (fQ y46.2),.box 139 [I 0,S [],I 0,I 0,S [],S [],S [],S [],S [],.d (Sl eS []),I 0,I 0,B false],.box 139 [I v_at,S y1.1,I 0,I y3.1,S y5.1,S y7.1,S [],S [],S [],.d (Sl eS []),I 0,I 0,B false]] E<|gO 1 E<|Krt hΓ E E E E E E E E Z<|Khx [.box 25 (fQ y46.2),.box 139 [I 0,S [],I 0,I 0,S [],S [],S [],S [],S [],.d (Sl eS []),I 0,I 0,B false],.box 139 [I v_at,S y1.1,I 0,I y3.1,S y5.1,S y7.1,S [],S [],S [],.d (Sl eS y46.1),I 0,I 0,B false]] E<|gO 2 E<|oSi h47▸⟨⟨E,E,tV⟩,[],E,.inl E⟩
  exact gA 3 E<|Krt hΓ E E E E E E E E Z<|Khx [.box 25 (fQ y11.2),.box 139 [I 0,S [],I 0,I 0,S [],S [],S [],S [],S [],.d (Sl eS []),I 0,I 0,B false],.box 139 [I v_at,S y1.1,I 0,I y3.1,S y5.1,S y7.1,S [],S [],S [],.d (Sl eS []),I 0,I 0,B false]] E<|gO 2 E<|oSi h48▸⟨⟨E,E,tV⟩,[],E,.inl E⟩
 exact gA 4 E<|Krt hΓ E E E E E E E E Z<|Khx [.box 25 (fQ q13.1),.box 139 (fS q13.2),.box 139 (fS q13.2)] E<|gO 3 E<|oSi h14▸Kie hΓ [_,_] (.inr E) E E E E (.inr ⟨HB.mk E,E⟩)
theorem Ldy{x:Int}{r:Bool}(h:Kyk x=some r):Pure Tryz.prog 226 [I x] (B r):=by
 unfold Kyk at h
 exact QP Tryz.func226 E E E<|gA 14 E<|oSi h▸gP E E
theorem Ldz{x:Int}{y:Int}{r:Int}(h:Kyl x y=some r):Pure Tryz.prog 139 [I x,I y] (I r):=by
 unfold Kyl at h
 refine QP Tryz.func139 E E E<|bK h fun y1 hy1 h2=>gA 8 E<|Khq C (Ldy hy1) E Z E E E E E<|bK h2 fun y3 hy3 h4=>gO 6 E<|Khq C (Ldy hy3) E Z E E E E E<|gO 9 E<|jC E h4 (fun h5=>?_) fun h8=>gA 8 E<|jC E h8 (fun h9=>?_) fun h10=>?_
 ·refine gA 6 E<|jC E h5 (fun h6=>?_) fun h7=>gA 9 E<|oSi h7▸gP E E
  exact gA 8 E<|oSi h6▸gP E E
 ·exact gA 7 E<|oSi h9▸gP E E
 refine gA 10 E<|jC E h10 (fun h11=>?_) fun h12=>gA 10 E<|jC E h12 (fun h13=>?_) fun h14=>?_
 ·exact gA 7 E<|oSi h11▸gP E E
 ·exact gA 7 E<|oSi h13▸gP E E
 exact gA 8 E<|oSi h14▸gP E E
theorem Lea{vals:List Int}{r:Int}(h:Kym vals=some r):Pure Tryz.prog 62 [.d (Sl (eN .i64) vals)] (I r):=by
 unfold Kym at h
 refine QP Tryz.func62 E E E<|gA 18 E<|bK h fun q4 hq4 h5=>Kgz 6 E fun hb7=>Kki (R:=fun a6=>q4=.go a6) (fun a6=>[(3,I 0)]) (fun a6=>[]) ?_ ?_
 ·refine gA 1 E<|Kgy vals hq4 (fun i1 s2=>[(3,I 0),(6,.d (Sl (eN .i64) vals)),(7,I (vals.length:Int)),(8,I (i1:Int))]) (fun s2=>[]) ⟨⟨E,E,E,E,tV⟩,[],E,.inl E⟩ (fun i1 x3 s2 y11 hx8 hlt hy9 hout10=>?_) (fun s2 hgo=>?_)
  ·refine gA 6 E<|Kgk E (dT (Int.ofNat_lt.2 hlt))<|gA 6 E<|eo_o E (Kha hΓ (enc:=(eN .i64)) (Kgt hx8) E E E E E (fun _=>E))<|gO 11 E<|jC E hy9 (fun h12=>?_) fun h15=>gA 7 E ?_
   ·refine gA 9 E<|bK h12 fun v13 hv13 h14=>?_
    cases h14
    obtain rfl:=hout10 _ rfl
    cases h5
    exact gA 4 E<|oSi hv13▸gP E E
   cases h15
   exact⟨_,E,⟨⟨E,E,E,Kfr E (Kfq (nLl hlt hb7)),tV⟩,[],E,.inl E⟩⟩
  subst hgo
  exact gA 6 E<|Kgl E (dF (Int.lt_irrefl _))<|gA 4 E<|⟨_,E,⟨⟨E,tV⟩,[],E,.inl E⟩⟩
 intro a6 ha
 subst ha
 replace h5:=Kkf h5
 exact gA 8 E<|oSi h5▸gP E E
theorem Leb{a:Kxx}{b:Kxx}{r:Int}(h:Kyn a b=some r):Pure Tryz.prog 105 [.agg (fS a),.agg (fS b)] (I r):=by
 unfold Kyn at h
 exact QP Tryz.func105 E E E<|gA 2 E<|Krp E E E E Z<|Krp E E E E Z<|gO 4 E<|jD<|bK h fun y1 hy1 h2=>gA 4 E<|Khr C (Ldz hy1) E E E E E E<|bK h2 fun y3 hy3 h4=>Kgh hΓ 4 E<|Khr C (Kxf hy3) E E E E E E<|bK h4 fun y5 hy5 h6=>Kgh hΓ 4 E<|Khr C (Ldz hy5) E E E E E E<|Khm hΓ (enc:=(eN .i64)) [y1,y3,y5] E E E E E E E E E E E E<|bK h6 fun y7 hy7 h8=>Khr C (Lea hy7) E E E E E E<|Kgh hΓ 4 E<|oSi h8▸gP E E
theorem Lec{k:Nat}{data:List Kxx}{a:Int}{b:Int}{r:List Kxx}(h:Kyo k data a b=some r):EC Tryz.prog 265 [.sl 0 data.length,I a,I b,.fn (.func 105) [] []] [rO 139 13 Ldl data] fun g hp'=>g=.tup []∧hp'=[rO 139 13 Ldl r]:=by
 unfold Kyo at h
 refine QN Tryz.func265 E Z<|gA 7 E<|bK h fun q4 hq4 h5=>Kkj [] [rO 139 13 Ldl q4] ?_ ?_
 ·refine gA 1 E<|Kgw hq4 (fun s2=>[(0,.sl 0 s2.1.length),(1,I a),(2,I b),(3,.fn (.func 105) [] []),(8,I s2.2)]) (fun s2=>[rO 139 13 Ldl s2.1]) ⟨⟨E,E,E,E,E,tV⟩,[],E,.inl E⟩ (fun s2 y10 hy8 hout9=>?_)
  refine gA 8 E<|jC E hy8 (fun h11=>?_) fun h51=>gA 4 E ?_
  ·refine gA 10 E<|bK h11 fun q15 hq15 h16=>Kkj [(0,.sl 0 q15.length),(1,I a),(2,I b),(3,.fn (.func 105) [] []),(8,I s2.2)] [rO 139 13 Ldl q15] ?_ ?_
   ·refine gA 1 E<|Kgw hq15 (fun s13=>[(0,.sl 0 s13.1.length),(1,I a),(2,I b),(3,.fn (.func 105) [] []),(8,I s2.2),(9,I s13.2)]) (fun s13=>[rO 139 13 Ldl s13.1]) ⟨⟨E,E,E,E,E,E,tV⟩,[],E,.inl E⟩ (fun s13 y21 hy19 hout20=>?_)
    refine bK hy19 fun q22 hq22 h23=>gA 2 E<|Kkj [(0,.sl 0 s13.1.length),(1,I a),(2,I b),(3,.fn (.func 105) [] []),(8,I s2.2),(9,I s13.2),(34,B q22)] [rO 139 13 Ldl s13.1] ?_ ?_
    ·refine jD<|gA 4 E<|Kez E E (fun hb=>?_) (fun hb=>?_)
     ·have h24:=cT hq22 hb
      refine bK h24 fun x25 hx25 h26=>?_
      have hj27:=Kii hx25
      refine Kgh hΓ 3 E<|Kft E E (Khc hΓ hx25 E E E E E E)<|Kft E E (Khi hΓ (enc:=Ldl) s13.2.toNat 0 hj27 E E E E (fun _=>E) (g:=.agg (fS x25)) E)<|bK h26 fun x28 hx28 h29=>?_
      have hj30:=Kii hx28
      exact Kgh hΓ 3 E<|Kft E E (Khc hΓ hx28 E E E E E E)<|Kft E E (Khi hΓ (enc:=Ldl) ((wi (s13.2 - 1)).toNat) 0 hj30 E E E E (fun _=>E) (g:=.agg (fS x28)) E)<|bK h29 fun y31 hy31 h32=>Khs C (Leb hy31) E E E E E E E<|Kgh hΓ 3 E<|oSi h32▸⟨⟨E,E,E,E,E,E,E,tV⟩,[],E,.inl E⟩
     have h33:=cF hq22 hb
     exact Kgh hΓ 14 E<|oSi h33▸⟨⟨E,E,E,E,E,E,E,tV⟩,[],E,.inl E⟩
    refine gA 1 E<|jC E h23 (fun h34=>?_) fun h50=>gA 4 E ?_
    ·refine gA 4 E<|Kjm [rO 139 13 Ldl s13.1] [9,13] [15,17] [15,17] hmix (by kernel_rfl) (by kernel_rfl) ⟨E,tV⟩ Z<|bK h34 fun x35 hx35 h36=>?_
     have hj37:=Kii hx35
     refine go_E hΓ 8 E<|ge_q E (.inl E) (fun _ _=>Kjp (qt_p (Khc hΓ hx35 E E E E E E)))<|ge_p E (fun hp hs=>Khi hΓ (enc:=Ldl) ((wi (s13.2 - 1)).toNat) 0 hj37 E E E (hs 0 _ E E) (fun _=>E) (g:=.agg (fS x35)) E) E<|bK h36 fun x38 hx38 h39=>?_
     have hj40:=Kii hx38
     refine go_E hΓ 2 E<|ge_q E (.inl E) (fun _ _=>Kjp (qt_p (Khc hΓ hx38 E E E E E E)))<|ge_p E (fun hp hs=>Khi hΓ (enc:=Ldl) s13.2.toNat 0 hj40 E E E (hs 0 _ E E) (fun _=>E) (g:=.agg (fS x38)) E) E<|bK h39 fun x41 hx41 h42=>?_
     have hj43:=Kii hx41
     refine ge_q E (.inl E) (fun _ _=>Kjp (qt_p (Khc hΓ hx41 E E E E E E)))<|Kjr [rO 139 13 Ldl (s13.1.set s13.2.toNat x35)] E E (Kjs E) (Kjx (Kko hΓ (enc:=Ldl) (z':=x35) s13.2.toNat (by have:=(gEs.1 hj43).1;simpa using this) E E E E (fun _=>E) E E E E E)) ?_
     refine bK h42 fun x44 hx44 h45=>?_
     have hj46:=Kii hx44
     refine ge_q E (.inl E) (fun _ _=>Kjp (qt_p (Khc hΓ hx44 E E E E E E)))<|bK h45 fun x47 hx47 h48=>?_
     have hj49:(s13.1.set s13.2.toNat x35)[(wi (s13.2 - 1)).toNat]?=some x47:=hx47
     refine Kjr [rO 139 13 Ldl ((s13.1.set s13.2.toNat x35).set ((wi (s13.2 - 1)).toNat) x38)] E E (Kjs E) (Kjx (Kko hΓ (enc:=Ldl) (z':=x38) ((wi (s13.2 - 1)).toNat) (by have:=(gEs.1 hj49).1;simpa using this) E E E E (fun _=>E) E E E E E)) ?_
     refine Kjo<|gA 2 E<|Kkp 0 (n':=((s13.1.set s13.2.toNat x35).set ((wi (s13.2 - 1)).toNat) x38).length) E (by simp) ?_
     refine Kkp 37 (n':=((s13.1.set s13.2.toNat x35).set ((wi (s13.2 - 1)).toNat) x38).length) E (by simp) ?_
     refine Kkp 39 (n':=((s13.1.set s13.2.toNat x35).set ((wi (s13.2 - 1)).toNat) x38).length) E (by simp) ?_
     refine Kkp 42 (n':=((s13.1.set s13.2.toNat x35).set ((wi (s13.2 - 1)).toNat) x38).length) E (by simp) ?_
     refine Kkp 47 (n':=((s13.1.set s13.2.toNat x35).set ((wi (s13.2 - 1)).toNat) x38).length) E (by simp) ?_
     exact gA 5 E<|oSi h48▸⟨_,E,⟨⟨E,E,E,E,E,E,tV⟩,[],E,.inl E⟩⟩
    cases h50
    obtain rfl:=hout20 _ rfl
    exact⟨⟨E,E,E,E,E,tV⟩,[],E,.inl E⟩
   exact gA 7 E<|oSi h16▸⟨_,E,⟨⟨E,E,E,E,E,tV⟩,[],E,.inl E⟩⟩
  cases h51
  obtain rfl:=hout9 _ rfl
  exact⟨tV,[],E,.inl E⟩
 exact oSi h5▸Kie hΓ [] (.inl E) E E E E (.inl E)
theorem Led{k:Nat}{data:List Kxx}{a:Int}{b:Int}{n:Int}{r:List Kxx}(h:Kyp k data a b n=some r):EC Tryz.prog 357 [.sl 0 data.length,I a,I b,I n,.fn (.func 105) [] []] [rO 139 13 Ldl data] fun g hp'=>g=.tup []∧hp'=[rO 139 13 Ldl r]:=by
 unfold Kyp at h
 refine QN Tryz.func357 E Z<|gA 5 E<|bK h fun q4 hq4 h5=>Kkj [] [rO 139 13 Ldl q4] ?_ ?_
 ·refine gA 1 E<|Kgw hq4 (fun s2=>[(0,.sl 0 s2.1.length),(1,I a),(2,I b),(3,I n),(10,I s2.2)]) (fun s2=>[rO 139 13 Ldl s2.1]) ⟨⟨E,E,E,E,E,tV⟩,[],E,.inl E⟩ (fun s2 y10 hy8 hout9=>?_)
  refine gA 8 E<|jC E hy8 (fun h11=>?_) fun h27=>gA 4 E ?_
  ·refine gA 4 E<|Kjm [rO 139 13 Ldl s2.1] [13,19] [21,23] [21,23] hmix (by kernel_rfl) (by kernel_rfl) ⟨E,tV⟩ Z<|bK h11 fun x12 hx12 h13=>?_
   have hj14:=Kii hx12
   refine go_E hΓ 12 E<|ge_q E (.inl E) (fun _ _=>Kjp (qt_p (Khc hΓ hx12 E E E E E E)))<|ge_p E (fun hp hs=>Khi hΓ (enc:=Ldl) ((wi (b+s2.2)).toNat) 0 hj14 E E E (hs 0 _ E E) (fun _=>E) (g:=.agg (fS x12)) E) E<|bK h13 fun x15 hx15 h16=>?_
   have hj17:=Kii hx15
   refine go_E hΓ 4 E<|ge_q E (.inl E) (fun _ _=>Kjp (qt_p (Khc hΓ hx15 E E E E E E)))<|ge_p E (fun hp hs=>Khi hΓ (enc:=Ldl) ((wi (a+s2.2)).toNat) 0 hj17 E E E (hs 0 _ E E) (fun _=>E) (g:=.agg (fS x15)) E) E<|bK h16 fun x18 hx18 h19=>?_
   have hj20:=Kii hx18
   refine ge_q E (.inl E) (fun _ _=>Kjp (qt_p (Khc hΓ hx18 E E E E E E)))<|Kjr [rO 139 13 Ldl (s2.1.set ((wi (a+s2.2)).toNat) x12)] E E (Kjs E) (Kjx (Kko hΓ (enc:=Ldl) (z':=x12) ((wi (a+s2.2)).toNat) (by have:=(gEs.1 hj20).1;simpa using this) E E E E (fun _=>E) E E E E E)) ?_
   refine bK h19 fun x21 hx21 h22=>?_
   have hj23:=Kii hx21
   refine ge_q E (.inl E) (fun _ _=>Kjp (qt_p (Khc hΓ hx21 E E E E E E)))<|bK h22 fun x24 hx24 h25=>?_
   have hj26:(s2.1.set ((wi (a+s2.2)).toNat) x12)[(wi (b+s2.2)).toNat]?=some x24:=hx24
   refine Kjr [rO 139 13 Ldl ((s2.1.set ((wi (a+s2.2)).toNat) x12).set ((wi (b+s2.2)).toNat) x15)] E E (Kjs E) (Kjx (Kko hΓ (enc:=Ldl) (z':=x15) ((wi (b+s2.2)).toNat) (by have:=(gEs.1 hj26).1;simpa using this) E E E E (fun _=>E) E E E E E)) ?_
   refine Kjo<|gA 2 E<|Kkp 0 (n':=((s2.1.set ((wi (a+s2.2)).toNat) x12).set ((wi (b+s2.2)).toNat) x15).length) E (by simp) ?_
   refine Kkp 16 (n':=((s2.1.set ((wi (a+s2.2)).toNat) x12).set ((wi (b+s2.2)).toNat) x15).length) E (by simp) ?_
   refine Kkp 20 (n':=((s2.1.set ((wi (a+s2.2)).toNat) x12).set ((wi (b+s2.2)).toNat) x15).length) E (by simp) ?_
   refine Kkp 24 (n':=((s2.1.set ((wi (a+s2.2)).toNat) x12).set ((wi (b+s2.2)).toNat) x15).length) E (by simp) ?_
   refine Kkp 30 (n':=((s2.1.set ((wi (a+s2.2)).toNat) x12).set ((wi (b+s2.2)).toNat) x15).length) E (by simp) ?_
   exact gA 5 E<|oSi h25▸⟨_,E,⟨⟨E,E,E,E,E,tV⟩,[],E,.inl E⟩⟩
  cases h27
  obtain rfl:=hout9 _ rfl
  exact⟨tV,[],E,.inl E⟩
 exact oSi h5▸Kie hΓ [] (.inl E) E E E E (.inl E)
theorem Lee{k:Nat}{data:List Kxx}{a:Int}{m:Int}{b:Int}{r:List Kxx}(h:Kyq k data a m b=some r):EC Tryz.prog 324 [.sl 0 data.length,I a,I m,I b,.fn (.func 105) [] []] [rO 139 13 Ldl data] fun g hp'=>g=.tup []∧hp'=[rO 139 13 Ldl r]:=by
 unfold Kyq at h
 refine QN Tryz.func324 E Z<|gA 17 E<|bK h fun q4 hq4 h5=>Kkj [(0,.sl 0 q4.1.length),(2,I m),(4,.fn (.func 105) [] []),(10,I q4.2)] [rO 139 13 Ldl q4.1] ?_ ?_
 ·refine gA 1 E<|Kgw hq4 (fun s2=>[(0,.sl 0 s2.1.length),(2,I m),(4,.fn (.func 105) [] []),(10,I s2.2.1),(11,I s2.2.2)]) (fun s2=>[rO 139 13 Ldl s2.1]) ⟨⟨E,E,E,E,E,tV⟩,[],E,.inl E⟩ (fun s2 y10 hy8 hout9=>?_)
  refine gA 8 E<|jC E hy8 (fun h11=>?_) fun h22=>gA 4 E ?_
  ·refine gA 10 E<|jC E h11 (fun h12=>?_) fun h17=>bK h17 fun y18 hy18 h19=>gA 13 E<|Khp [0] (.tup []) [rO 139 13 Ldl y18] C (Led hy18) E Z E E E E E E E E E E<|gK h19 fun hg21 h20=>Kkl 0 E (of_decide_eq_true hg21).symm<|gO 9 E<|oSi h20▸⟨_,E,⟨⟨E,E,E,E,E,tV⟩,[],E,.inl E⟩⟩
   exact bK h12 fun y13 hy13 h14=>gA 9 E<|Khp [0] (.tup []) [rO 139 13 Ldl y13] C (Led hy13) E Z E E E E E E E E E E<|gK h14 fun hg16 h15=>Kkl 0 E (of_decide_eq_true hg16).symm<|gO 9 E<|oSi h15▸⟨_,E,⟨⟨E,E,E,E,E,tV⟩,[],E,.inl E⟩⟩
  cases h22
  obtain rfl:=hout9 _ rfl
  exact⟨⟨E,E,E,E,tV⟩,[],E,.inl E⟩
 exact bK h5 fun y23 hy23 h24=>gA 9 E<|Khp [0] (.tup []) [rO 139 13 Ldl y23] C (Led hy23) E Z E E E E E E E E E E<|gO 1 E<|oSi h24▸Kie hΓ [] (.inl E) E E E E (.inl E)
theorem Lef{k:Nat}{data:List Kxx}{a:Int}{m:Int}{b:Int}{r:List Kxx}(h:Kyr k data a m b=some r):EC Tryz.prog 266 [.sl 0 data.length,I a,I m,I b,.fn (.func 105) [] []] [rO 139 13 Ldl data] fun g hp'=>g=.tup []∧hp'=[rO 139 13 Ldl r]:=by
 induction k generalizing data a m b r with
 | zero=>unfold Kyr at h;cases h
 | succ k ih0=>
  have ih:∀ {data:List Kxx} {a:Int} {m:Int} {b:Int} {r:List Kxx},Kyr k data a m b=some r→EC Tryz.prog 266 [.sl 0 data.length,I a,I m,I b,.fn (.func 105) [] []] [rO 139 13 Ldl data] fun g hp'=>g=.tup []∧hp'=[rO 139 13 Ldl r]:=by intro data a m b r h;first | exact ih0 h | exact ih0 _ _ _ _ _ h
  refine Kpz (Fr.of 0 _) Tryz.func266 E (Fr.of_ok _) Z fun _=>?_
  refine Kgi ?_
  unfold Kyr at h
  refine gA 9 E ?_
  refine Kgj E (fun hb=>?_) (fun hb=>?_)
  ·have h1:=cT h hb
   refine gA 13 E ?_
   obtain⟨q5,hq5,h6⟩:=Kgq h1
   refine Kkj [(0,.sl 0 data.length),(1,I a),(10,I q5)] [rO 139 13 Ldl data] ?_ ?_
   ·refine gA 1 E ?_
    refine Kgw hq5 (fun s3=>[(0,.sl 0 data.length),(1,I a),(4,.fn (.func 105) [] []),(10,I s3.1),(11,I s3.2)]) (fun s3=>[rO 139 13 Ldl data]) ⟨⟨E,E,E,E,E,tV⟩,[],E,.inl E⟩ (fun s3 y11 hy9 hout10=>?_)
    refine gA 8 E ?_
    refine Kgj E (fun hb=>?_) (fun hb=>?_)
    ·have h12:=cT hy9 hb
     refine gA 15 E ?_
     refine jD ?_
     obtain⟨x13,hx13,h14⟩:=Kgq h12
     have hj15:=Kii hx13
     refine gA 3 E ?_
     refine gl_o E (Khc hΓ hx13 E E E E E E) ?_
     refine gl_o E (Khi hΓ (enc:=Ldl) ((wi (shrV .u64 (IntKind.u64.wrap (wi (s3.1+s3.2))) 1)).toNat) 0 hj15 E E E E (fun _=>E) (g:=.agg (fS x13)) E) ?_
     obtain⟨x16,hx16,h17⟩:=Kgq h14
     have hj18:=Kii hx16
     refine Kgh hΓ 2 E ?_
     refine gl_o E (Khc hΓ hx16 E E E E E E) ?_
     refine gl_o E (Khi hΓ (enc:=Ldl) a.toNat 0 hj18 E E E E (fun _=>E) (g:=.agg (fS x16)) E) ?_
     obtain⟨y19,hy19,h20⟩:=Kgq h17
     refine Khr C (Leb hy19) E E E E E E ?_
     refine Kgh hΓ 3 E ?_
     refine Kgj E (fun hb=>?_) (fun hb=>?_)
     ·have h21:=cT h20 hb
      refine gA 6 E ?_
      obtain rfl:=oSi h21
      exact⟨_,E,⟨⟨E,E,E,E,E,tV⟩,[],E,.inl E⟩⟩
     have h22:=cF h20 hb
     refine gA 5 E ?_
     obtain rfl:=oSi h22
     exact⟨_,E,⟨⟨E,E,E,E,E,tV⟩,[],E,.inl E⟩⟩
    have h23:=cF hy9 hb
    refine gA 4 E ?_
    obtain rfl:=oSi h23
    obtain rfl:=hout10 _ rfl
    exact⟨⟨E,E,E,tV⟩,[],E,.inl E⟩
   refine gA 8 E ?_
   obtain⟨q27,hq27,h28⟩:=Kgq h6
   refine Kkj [] [rO 139 13 Ldl q27] ?_ ?_
   ·refine gA 1 E ?_
    refine Kgw hq27 (fun s25=>[(0,.sl 0 s25.1.length),(10,I q5),(13,I s25.2)]) (fun s25=>[rO 139 13 Ldl s25.1]) ⟨⟨E,E,E,tV⟩,[],E,.inl E⟩ (fun s25 y33 hy31 hout32=>?_)
    refine gA 9 E ?_
    refine Kgj E (fun hb=>?_) (fun hb=>?_)
    ·have h34:=cT hy31 hb
     refine gA 4 E ?_
     refine Kjm [rO 139 13 Ldl s25.1] [9,13] [15,17] [15,17] hmix (by kernel_rfl) (by kernel_rfl) ⟨E,tV⟩ Z ?_
     obtain⟨x35,hx35,h36⟩:=Kgq h34
     have hj37:=Kii hx35
     refine go_E hΓ 8 E ?_
     refine ge_q E (.inl E) (fun _ _=>Kjp (qt_p (Khc hΓ hx35 E E E E E E))) ?_
     refine ge_p E (fun hp hs=>Khi hΓ (enc:=Ldl) ((wi (s25.2+1)).toNat) 0 hj37 E E E (hs 0 _ E E) (fun _=>E) (g:=.agg (fS x35)) E) E ?_
     obtain⟨x38,hx38,h39⟩:=Kgq h36
     have hj40:=Kii hx38
     refine go_E hΓ 2 E ?_
     refine ge_q E (.inl E) (fun _ _=>Kjp (qt_p (Khc hΓ hx38 E E E E E E))) ?_
     refine ge_p E (fun hp hs=>Khi hΓ (enc:=Ldl) s25.2.toNat 0 hj40 E E E (hs 0 _ E E) (fun _=>E) (g:=.agg (fS x38)) E) E ?_
     obtain⟨x41,hx41,h42⟩:=Kgq h39
     have hj43:=Kii hx41
     refine ge_q E (.inl E) (fun _ _=>Kjp (qt_p (Khc hΓ hx41 E E E E E E))) ?_
     refine Kjr [rO 139 13 Ldl (s25.1.set s25.2.toNat x35)] E E (Kjs E) (Kjx (Kko hΓ (enc:=Ldl) (z':=x35) s25.2.toNat (by have:=(gEs.1 hj43).1;simpa using this) E E E E (fun _=>E) E E E E E)) ?_
     obtain⟨x44,hx44,h45⟩:=Kgq h42
     have hj46:=Kii hx44
     refine ge_q E (.inl E) (fun _ _=>Kjp (qt_p (Khc hΓ hx44 E E E E E E))) ?_
     obtain⟨x47,hx47,h48⟩:=Kgq h45
     have hj49:(s25.1.set s25.2.toNat x35)[(wi (s25.2+1)).toNat]?=some x47:=hx47
     refine Kjr [rO 139 13 Ldl ((s25.1.set s25.2.toNat x35).set ((wi (s25.2+1)).toNat) x38)] E E (Kjs E) (Kjx (Kko hΓ (enc:=Ldl) (z':=x38) ((wi (s25.2+1)).toNat) (by have:=(gEs.1 hj49).1;simpa using this) E E E E (fun _=>E) E E E E E)) ?_
     refine Kjo ?_
     refine gA 2 E ?_
     refine Kkp 0 (n':=((s25.1.set s25.2.toNat x35).set ((wi (s25.2+1)).toNat) x38).length) E (by simp) ?_
     refine Kkp 61 (n':=((s25.1.set s25.2.toNat x35).set ((wi (s25.2+1)).toNat) x38).length) E (by simp) ?_
     refine Kkp 63 (n':=((s25.1.set s25.2.toNat x35).set ((wi (s25.2+1)).toNat) x38).length) E (by simp) ?_
     refine Kkp 66 (n':=((s25.1.set s25.2.toNat x35).set ((wi (s25.2+1)).toNat) x38).length) E (by simp) ?_
     refine Kkp 71 (n':=((s25.1.set s25.2.toNat x35).set ((wi (s25.2+1)).toNat) x38).length) E (by simp) ?_
     refine gA 5 E ?_
     obtain rfl:=oSi h48
     exact⟨_,E,⟨⟨E,E,E,tV⟩,[],E,.inl E⟩⟩
    have h50:=cF hy31 hb
    refine gA 4 E ?_
    obtain rfl:=oSi h50
    obtain rfl:=hout32 _ rfl
    exact⟨tV,[],E,.inl E⟩
   refine gA 3 E ?_
   obtain rfl:=oSi h28
   exact Kie hΓ [] (.inr E) E E E E (.inl E)
  have h51:=cF h hb
  refine gA 11 E ?_
  refine Kgj E (fun hb=>?_) (fun hb=>?_)
  ·have h52:=cT h51 hb
   refine gA 13 E ?_
   obtain⟨q56,hq56,h57⟩:=Kgq h52
   refine Kkj [(0,.sl 0 data.length),(2,I m),(14,I q56)] [rO 139 13 Ldl data] ?_ ?_
   ·refine gA 1 E ?_
    refine Kgw hq56 (fun s54=>[(0,.sl 0 data.length),(2,I m),(4,.fn (.func 105) [] []),(14,I s54.1),(15,I s54.2)]) (fun s54=>[rO 139 13 Ldl data]) ⟨⟨E,E,E,E,E,tV⟩,[],E,.inl E⟩ (fun s54 y62 hy60 hout61=>?_)
    refine gA 8 E ?_
    refine Kgj E (fun hb=>?_) (fun hb=>?_)
    ·have h63:=cT hy60 hb
     refine gA 15 E ?_
     refine jD ?_
     obtain⟨x64,hx64,h65⟩:=Kgq h63
     have hj66:=Kii hx64
     refine gA 3 E ?_
     refine gl_o E (Khc hΓ hx64 E E E E E E) ?_
     refine gl_o E (Khi hΓ (enc:=Ldl) m.toNat 0 hj66 E E E E (fun _=>E) (g:=.agg (fS x64)) E) ?_
     obtain⟨x67,hx67,h68⟩:=Kgq h65
     have hj69:=Kii hx67
     refine Kgh hΓ 2 E ?_
     refine gl_o E (Khc hΓ hx67 E E E E E E) ?_
     refine gl_o E (Khi hΓ (enc:=Ldl) ((wi (shrV .u64 (IntKind.u64.wrap (wi (s54.1+s54.2))) 1)).toNat) 0 hj69 E E E E (fun _=>E) (g:=.agg (fS x67)) E) ?_
     obtain⟨y70,hy70,h71⟩:=Kgq h68
     refine Khr C (Leb hy70) E E E E E E ?_
     refine Kgh hΓ 4 E ?_
     refine Kgj E (fun hb=>?_) (fun hb=>?_)
     ·have h72:=cT h71 hb
      refine gA 6 E ?_
      obtain rfl:=oSi h72
      exact⟨_,E,⟨⟨E,E,E,E,E,tV⟩,[],E,.inl E⟩⟩
     have h73:=cF h71 hb
     refine gA 5 E ?_
     obtain rfl:=oSi h73
     exact⟨_,E,⟨⟨E,E,E,E,E,tV⟩,[],E,.inl E⟩⟩
    have h74:=cF hy60 hb
    refine gA 4 E ?_
    obtain rfl:=oSi h74
    obtain rfl:=hout61 _ rfl
    exact⟨⟨E,E,E,tV⟩,[],E,.inl E⟩
   refine gA 8 E ?_
   obtain⟨q78,hq78,h79⟩:=Kgq h57
   refine Kkj [] [rO 139 13 Ldl q78] ?_ ?_
   ·refine gA 1 E ?_
    refine Kgw hq78 (fun s76=>[(0,.sl 0 s76.1.length),(14,I q56),(17,I s76.2)]) (fun s76=>[rO 139 13 Ldl s76.1]) ⟨⟨E,E,E,tV⟩,[],E,.inl E⟩ (fun s76 y84 hy82 hout83=>?_)
    refine gA 8 E ?_
    refine Kgj E (fun hb=>?_) (fun hb=>?_)
    ·have h85:=cT hy82 hb
     refine gA 4 E ?_
     refine Kjm [rO 139 13 Ldl s76.1] [9,13] [15,17] [15,17] hmix (by kernel_rfl) (by kernel_rfl) ⟨E,tV⟩ Z ?_
     obtain⟨x86,hx86,h87⟩:=Kgq h85
     have hj88:=Kii hx86
     refine go_E hΓ 8 E ?_
     refine ge_q E (.inl E) (fun _ _=>Kjp (qt_p (Khc hΓ hx86 E E E E E E))) ?_
     refine ge_p E (fun hp hs=>Khi hΓ (enc:=Ldl) ((wi (s76.2 - 1)).toNat) 0 hj88 E E E (hs 0 _ E E) (fun _=>E) (g:=.agg (fS x86)) E) E ?_
     obtain⟨x89,hx89,h90⟩:=Kgq h87
     have hj91:=Kii hx89
     refine go_E hΓ 2 E ?_
     refine ge_q E (.inl E) (fun _ _=>Kjp (qt_p (Khc hΓ hx89 E E E E E E))) ?_
     refine ge_p E (fun hp hs=>Khi hΓ (enc:=Ldl) s76.2.toNat 0 hj91 E E E (hs 0 _ E E) (fun _=>E) (g:=.agg (fS x89)) E) E ?_
     obtain⟨x92,hx92,h93⟩:=Kgq h90
     have hj94:=Kii hx92
     refine ge_q E (.inl E) (fun _ _=>Kjp (qt_p (Khc hΓ hx92 E E E E E E))) ?_
     refine Kjr [rO 139 13 Ldl (s76.1.set s76.2.toNat x86)] E E (Kjs E) (Kjx (Kko hΓ (enc:=Ldl) (z':=x86) s76.2.toNat (by have:=(gEs.1 hj94).1;simpa using this) E E E E (fun _=>E) E E E E E)) ?_
     obtain⟨x95,hx95,h96⟩:=Kgq h93
     have hj97:=Kii hx95
     refine ge_q E (.inl E) (fun _ _=>Kjp (qt_p (Khc hΓ hx95 E E E E E E))) ?_
     obtain⟨x98,hx98,h99⟩:=Kgq h96
     have hj100:(s76.1.set s76.2.toNat x86)[(wi (s76.2 - 1)).toNat]?=some x98:=hx98
     refine Kjr [rO 139 13 Ldl ((s76.1.set s76.2.toNat x86).set ((wi (s76.2 - 1)).toNat) x89)] E E (Kjs E) (Kjx (Kko hΓ (enc:=Ldl) (z':=x89) ((wi (s76.2 - 1)).toNat) (by have:=(gEs.1 hj100).1;simpa using this) E E E E (fun _=>E) E E E E E)) ?_
     refine Kjo ?_
     refine gA 2 E ?_
     refine Kkp 0 (n':=((s76.1.set s76.2.toNat x86).set ((wi (s76.2 - 1)).toNat) x89).length) E (by simp) ?_
     refine Kkp 113 (n':=((s76.1.set s76.2.toNat x86).set ((wi (s76.2 - 1)).toNat) x89).length) E (by simp) ?_
     refine Kkp 115 (n':=((s76.1.set s76.2.toNat x86).set ((wi (s76.2 - 1)).toNat) x89).length) E (by simp) ?_
     refine Kkp 118 (n':=((s76.1.set s76.2.toNat x86).set ((wi (s76.2 - 1)).toNat) x89).length) E (by simp) ?_
     refine Kkp 123 (n':=((s76.1.set s76.2.toNat x86).set ((wi (s76.2 - 1)).toNat) x89).length) E (by simp) ?_
     refine gA 5 E ?_
     obtain rfl:=oSi h99
     exact⟨_,E,⟨⟨E,E,E,tV⟩,[],E,.inl E⟩⟩
    have h101:=cF hy82 hb
    refine gA 4 E ?_
    obtain rfl:=oSi h101
    obtain rfl:=hout83 _ rfl
    exact⟨tV,[],E,.inl E⟩
   refine gA 3 E ?_
   obtain rfl:=oSi h79
   exact Kie hΓ [] (.inr E) E E E E (.inl E)
  have h102:=cF h51 hb
  obtain⟨q103,hq103,h104⟩:=Kgq h102
  refine gA 35 E ?_
  refine Kkj [(0,.sl 0 data.length),(1,I a),(2,I m),(3,I b),(4,.fn (.func 105) [] []),(18,I (wi (shrV .u64 (IntKind.u64.wrap (wi (a+b))) 1))),(19,I (wi ((wi (shrV .u64 (IntKind.u64.wrap (wi (a+b))) 1))+m))),(20,I q103.1),(21,I q103.2)] [rO 139 13 Ldl data] ?_ ?_
  ·refine Kgj E (fun hb=>?_) (fun hb=>?_)
   ·have h105:=cT hq103 hb
    refine gA 12 E ?_
    obtain rfl:=oSi h105
    exact⟨⟨E,E,E,E,E,E,E,E,E,tV⟩,[],E,.inl E⟩
   have h106:=cF hq103 hb
   refine gA 10 E ?_
   obtain rfl:=oSi h106
   exact⟨⟨E,E,E,E,E,E,E,E,E,tV⟩,[],E,.inl E⟩
  refine gA 9 E ?_
  obtain⟨q110,hq110,h111⟩:=Kgq h104
  refine Kkj [(0,.sl 0 data.length),(1,I a),(2,I m),(3,I b),(4,.fn (.func 105) [] []),(18,I (wi (shrV .u64 (IntKind.u64.wrap (wi (a+b))) 1))),(19,I (wi ((wi (shrV .u64 (IntKind.u64.wrap (wi (a+b))) 1))+m))),(20,I q110)] [rO 139 13 Ldl data] ?_ ?_
  ·refine gA 1 E ?_
   refine Kgw hq110 (fun s108=>[(0,.sl 0 data.length),(1,I a),(2,I m),(3,I b),(4,.fn (.func 105) [] []),(18,I (wi (shrV .u64 (IntKind.u64.wrap (wi (a+b))) 1))),(19,I (wi ((wi (shrV .u64 (IntKind.u64.wrap (wi (a+b))) 1))+m))),(20,I s108.1),(21,I s108.2),(22,I (wi ((wi ((wi (shrV .u64 (IntKind.u64.wrap (wi (a+b))) 1))+m)) - 1)))]) (fun s108=>[rO 139 13 Ldl data]) ⟨⟨E,E,E,E,E,E,E,E,E,E,tV⟩,[],E,.inl E⟩ (fun s108 y116 hy114 hout115=>?_)
   refine gA 8 E ?_
   refine Kgj E (fun hb=>?_) (fun hb=>?_)
   ·have h117:=cT hy114 hb
    refine gA 15 E ?_
    refine jD ?_
    obtain⟨x118,hx118,h119⟩:=Kgq h117
    have hj120:=Kii hx118
    refine gA 5 E ?_
    refine gl_o E (Khc hΓ hx118 E E E E E E) ?_
    refine gl_o E (Khi hΓ (enc:=Ldl) ((wi ((wi ((wi ((wi (shrV .u64 (IntKind.u64.wrap (wi (a+b))) 1))+m)) - 1)) - (wi (shrV .u64 (IntKind.u64.wrap (wi (s108.1+s108.2))) 1)))).toNat) 0 hj120 E E E E (fun _=>E) (g:=.agg (fS x118)) E) ?_
    obtain⟨x121,hx121,h122⟩:=Kgq h119
    have hj123:=Kii hx121
    refine Kgh hΓ 2 E ?_
    refine gl_o E (Khc hΓ hx121 E E E E E E) ?_
    refine gl_o E (Khi hΓ (enc:=Ldl) ((wi (shrV .u64 (IntKind.u64.wrap (wi (s108.1+s108.2))) 1)).toNat) 0 hj123 E E E E (fun _=>E) (g:=.agg (fS x121)) E) ?_
    obtain⟨y124,hy124,h125⟩:=Kgq h122
    refine Khr C (Leb hy124) E E E E E E ?_
    refine Kgh hΓ 4 E ?_
    refine Kgj E (fun hb=>?_) (fun hb=>?_)
    ·have h126:=cT h125 hb
     refine gA 6 E ?_
     obtain rfl:=oSi h126
     exact⟨_,E,⟨⟨E,E,E,E,E,E,E,E,E,E,tV⟩,[],E,.inl E⟩⟩
    have h127:=cF h125 hb
    refine gA 5 E ?_
    obtain rfl:=oSi h127
    exact⟨_,E,⟨⟨E,E,E,E,E,E,E,E,E,E,tV⟩,[],E,.inl E⟩⟩
   have h128:=cF hy114 hb
   refine gA 4 E ?_
   obtain rfl:=oSi h128
   obtain rfl:=hout115 _ rfl
   exact⟨⟨E,E,E,E,E,E,E,E,tV⟩,[],E,.inl E⟩
  refine gA 16 E ?_
  refine Kgp 4 [(0,.sl 0 data.length),(1,I a),(2,I m),(3,I b),(4,.fn (.func 105) [] []),(18,I (wi (shrV .u64 (IntKind.u64.wrap (wi (a+b))) 1))),(20,I q110),(24,I (wi ((wi ((wi (shrV .u64 (IntKind.u64.wrap (wi (a+b))) 1))+m)) - q110))),(185,B ((decide ((q110:Int)<m))&&(decide ((m:Int)<(wi ((wi ((wi (shrV .u64 (IntKind.u64.wrap (wi (a+b))) 1))+m)) - q110))))))] [rO 139 13 Ldl data] ?_ ?_
  ·refine Kqh E E (fun hb=>?_) (fun hb=>?_)
   ·refine gO 5 E ?_
    exact⟨⟨E,E,E,E,E,E,E,E,Kfs E (Kij hb),tV⟩,[],E,.inl E⟩
   refine gO 5 E ?_
   exact⟨⟨E,E,E,E,E,E,E,E,Kfs E (Kik hb),tV⟩,[],E,.inl E⟩
  obtain⟨q129,hq129,h130⟩:=Kgq h111
  refine gO 2 E ?_
  refine Kkj [(0,.sl 0 q129.length),(1,I a),(3,I b),(4,.fn (.func 105) [] []),(18,I (wi (shrV .u64 (IntKind.u64.wrap (wi (a+b))) 1))),(20,I q110),(24,I (wi ((wi ((wi (shrV .u64 (IntKind.u64.wrap (wi (a+b))) 1))+m)) - q110)))] [rO 139 13 Ldl q129] ?_ ?_
  ·refine Kgj E (fun hb=>?_) (fun hb=>?_)
   ·have h131:=cT hq129 hb
    obtain⟨y132,hy132,h133⟩:=Kgq h131
    refine gA 6 E ?_
    refine Khp [0] (.tup []) [rO 139 13 Ldl y132] C (Lee hy132) E Z E E E E E E E E E E ?_
    obtain⟨hg135,h134⟩:=Kgr h133
    refine Kkl 0 E (of_decide_eq_true hg135).symm ?_
    refine gO 1 E ?_
    obtain rfl:=oSi h134
    exact⟨⟨E,E,E,E,E,E,E,tV⟩,[],E,.inl E⟩
   have h136:=cF hq129 hb
   refine gA 1 E ?_
   obtain rfl:=oSi h136
   exact⟨⟨E,E,E,E,E,E,E,tV⟩,[],E,.inl E⟩
  refine gA 8 E ?_
  refine Kgp 4 [(0,.sl 0 q129.length),(1,I a),(3,I b),(4,.fn (.func 105) [] []),(18,I (wi (shrV .u64 (IntKind.u64.wrap (wi (a+b))) 1))),(20,I q110),(24,I (wi ((wi ((wi (shrV .u64 (IntKind.u64.wrap (wi (a+b))) 1))+m)) - q110))),(199,B ((decide ((a:Int)<q110))&&(decide ((q110:Int)<(wi (shrV .u64 (IntKind.u64.wrap (wi (a+b))) 1))))))] [rO 139 13 Ldl q129] ?_ ?_
  ·refine Kqh E E (fun hb=>?_) (fun hb=>?_)
   ·refine gO 5 E ?_
    exact⟨⟨E,E,E,E,E,E,E,Kfs E (Kij hb),tV⟩,[],E,.inl E⟩
   refine gO 5 E ?_
   exact⟨⟨E,E,E,E,E,E,E,Kfs E (Kik hb),tV⟩,[],E,.inl E⟩
  obtain⟨q137,hq137,h138⟩:=Kgq h130
  refine gO 2 E ?_
  refine Kkj [(0,.sl 0 q137.length),(3,I b),(4,.fn (.func 105) [] []),(18,I (wi (shrV .u64 (IntKind.u64.wrap (wi (a+b))) 1))),(24,I (wi ((wi ((wi (shrV .u64 (IntKind.u64.wrap (wi (a+b))) 1))+m)) - q110)))] [rO 139 13 Ldl q137] ?_ ?_
  ·refine Kgj E (fun hb=>?_) (fun hb=>?_)
   ·have h139:=cT hq137 hb
    obtain⟨y140,hy140,h141⟩:=Kgq h139
    refine gA 6 E ?_
    refine Khp [0] (.tup []) [rO 139 13 Ldl y140] C (ih hy140) E Z E E E E E E E E E E ?_
    obtain⟨hg143,h142⟩:=Kgr h141
    refine Kkl 0 E (of_decide_eq_true hg143).symm ?_
    refine gO 1 E ?_
    obtain rfl:=oSi h142
    exact⟨⟨E,E,E,E,E,tV⟩,[],E,.inl E⟩
   have h144:=cF hq137 hb
   refine gA 1 E ?_
   obtain rfl:=oSi h144
   exact⟨⟨E,E,E,E,E,tV⟩,[],E,.inl E⟩
  refine gA 7 E ?_
  refine Kgp 4 [(0,.sl 0 q137.length),(3,I b),(4,.fn (.func 105) [] []),(18,I (wi (shrV .u64 (IntKind.u64.wrap (wi (a+b))) 1))),(24,I (wi ((wi ((wi (shrV .u64 (IntKind.u64.wrap (wi (a+b))) 1))+m)) - q110))),(213,B ((decide ((wi (shrV .u64 (IntKind.u64.wrap (wi (a+b))) 1):Int)<(wi ((wi ((wi (shrV .u64 (IntKind.u64.wrap (wi (a+b))) 1))+m)) - q110))))&&(decide ((wi ((wi ((wi (shrV .u64 (IntKind.u64.wrap (wi (a+b))) 1))+m)) - q110):Int)<b))))] [rO 139 13 Ldl q137] ?_ ?_
  ·refine Kqh E E (fun hb=>?_) (fun hb=>?_)
   ·refine gO 5 E ?_
    exact⟨⟨E,E,E,E,E,Kfs E (Kij hb),tV⟩,[],E,.inl E⟩
   refine gO 5 E ?_
   exact⟨⟨E,E,E,E,E,Kfs E (Kik hb),tV⟩,[],E,.inl E⟩
  refine gO 2 E ?_
  refine Kgj E (fun hb=>?_) (fun hb=>?_)
  ·have h145:=cT h138 hb
   obtain⟨y146,hy146,h147⟩:=Kgq h145
   refine gA 6 E ?_
   refine Khp [0] (.tup []) [rO 139 13 Ldl y146] C (ih hy146) E Z E E E E E E E E E E ?_
   refine gO 1 E ?_
   obtain rfl:=oSi h147
   exact Kie hΓ [] (.inl E) E E E E (.inl E)
  have h148:=cF h138 hb
  refine gA 1 E ?_
  obtain rfl:=oSi h148
  exact Kie hΓ [] (.inl E) E E E E (.inl E)
theorem Leg{k:Nat}{data:List Kxx}{n:Int}{r:List Kxx}(h:Kys k data n=some r):EC Tryz.prog 197 [.sl 0 data.length,I n,.fn (.func 105) [] []] [rO 139 13 Ldl data] fun g hp'=>g=.tup []∧hp'=[rO 139 13 Ldl r]:=by
 unfold Kys at h
 refine QN Tryz.func197 E Z<|gA 13 E<|bK h fun q4 hq4 h5=>Kkj [(0,.sl 0 q4.1.length),(1,I n),(2,.fn (.func 105) [] []),(6,I 20),(7,I q4.2)] [rO 139 13 Ldl q4.1] ?_ ?_
 ·refine gA 1 E<|Kgw hq4 (fun s2=>[(0,.sl 0 s2.1.length),(1,I n),(2,.fn (.func 105) [] []),(6,I 20),(7,I s2.2.1),(8,I s2.2.2)]) (fun s2=>[rO 139 13 Ldl s2.1]) ⟨⟨E,E,E,E,E,E,tV⟩,[],E,.inl E⟩ (fun s2 y10 hy8 hout9=>?_)
  refine gA 8 E<|jC E hy8 (fun h11=>?_) fun h16=>gA 4 E ?_
  ·exact bK h11 fun y12 hy12 h13=>gA 9 E<|Khp [0] (.tup []) [rO 139 13 Ldl y12] C (Lec hy12) E Z E E E E E E E E E E<|gK h13 fun hg15 h14=>Kkl 0 E (of_decide_eq_true hg15).symm<|gO 15 E<|oSi h14▸⟨_,E,⟨⟨E,E,E,E,E,E,tV⟩,[],E,.inl E⟩⟩
  cases h16
  obtain rfl:=hout9 _ rfl
  exact⟨⟨E,E,E,E,E,tV⟩,[],E,.inl E⟩
 refine bK h5 fun y17 hy17 h18=>gA 7 E<|Khp [0] (.tup []) [rO 139 13 Ldl y17] C (Lec hy17) E Z E E E E E E E E E E<|gK h18 fun hg20 h19=>Kkl 0 E (of_decide_eq_true hg20).symm<|gO 2 E<|bK h19 fun q24 hq24 h25=>Kkj [] [rO 139 13 Ldl q24] ?_ ?_
 ·refine gA 1 E<|Kgw hq24 (fun s22=>[(0,.sl 0 s22.1.length),(1,I n),(2,.fn (.func 105) [] []),(6,I s22.2)]) (fun s22=>[rO 139 13 Ldl s22.1]) ⟨⟨E,E,E,E,tV⟩,[],E,.inl E⟩ (fun s22 y30 hy28 hout29=>?_)
  refine gA 8 E<|jC E hy28 (fun h31=>?_) fun h54=>gA 4 E ?_
  ·refine gA 12 E<|bK h31 fun q35 hq35 h36=>Kkj [(0,.sl 0 q35.1.length),(1,I n),(2,.fn (.func 105) [] []),(6,I s22.2),(7,I q35.2)] [rO 139 13 Ldl q35.1] ?_ ?_
   ·refine gA 1 E<|Kgw hq35 (fun s33=>[(0,.sl 0 s33.1.length),(1,I n),(2,.fn (.func 105) [] []),(6,I s22.2),(7,I s33.2.1),(8,I s33.2.2)]) (fun s33=>[rO 139 13 Ldl s33.1]) ⟨⟨E,E,E,E,E,E,tV⟩,[],E,.inl E⟩ (fun s33 y41 hy39 hout40=>?_)
    refine gA 8 E<|jC E hy39 (fun h42=>?_) fun h47=>gA 4 E ?_
    ·exact bK h42 fun y43 hy43 h44=>gA 12 E<|Khp [0] (.tup []) [rO 139 13 Ldl y43] C (Lef hy43) E Z E E E E E E E E E E<|gK h44 fun hg46 h45=>Kkl 0 E (of_decide_eq_true hg46).symm<|gO 16 E<|oSi h45▸⟨_,E,⟨⟨E,E,E,E,E,E,tV⟩,[],E,.inl E⟩⟩
    cases h47
    obtain rfl:=hout40 _ rfl
    exact⟨⟨E,E,E,E,E,tV⟩,[],E,.inl E⟩
   refine gA 17 E<|jC E h36 (fun h48=>?_) fun h53=>gA 8 E<|oSi h53▸⟨_,E,⟨⟨E,E,E,E,tV⟩,[],E,.inl E⟩⟩
   exact bK h48 fun y49 hy49 h50=>gA 6 E<|Khp [0] (.tup []) [rO 139 13 Ldl y49] C (Lef hy49) E Z E E E E E E E E E E<|gK h50 fun hg52 h51=>Kkl 0 E (of_decide_eq_true hg52).symm<|gO 8 E<|oSi h51▸⟨_,E,⟨⟨E,E,E,E,tV⟩,[],E,.inl E⟩⟩
  cases h54
  obtain rfl:=hout29 _ rfl
  exact⟨tV,[],E,.inl E⟩
 exact oSi h25▸Kie hΓ [] (.inl E) E E E E (.inl E)
theorem Leh{k:Nat}{x:List Kxx}{r:List Kxx}(h:Kyt k x=some r):EC Tryz.prog 104 [.sl 0 x.length,.fn (.func 105) [] []] [rO 139 13 Ldl x] fun g hp'=>g=.tup []∧hp'=[rO 139 13 Ldl r]:=by
 unfold Kyt at h
 exact QN Tryz.func104 E Z<|bK h fun y1 hy1 h2=>gA 5 E<|Khp [0] (.tup []) [rO 139 13 Ldl y1] C (Leg hy1) E Z E E E E E E E E E E<|gO 1 E<|oSi h2▸Kie hΓ [] (.inl E) E E E E (.inl E)
theorem Lei{k:Nat}{s:Kxw}{many:Int}{r:(List Kxx)×Kxw}(h:Kyu k s many=some r):EC Tryz.prog 25 [.ptr 0 0,I many] [.box 25 (fQ s)] fun g hp'=>g=.sl 1 r.1.length∧hp'=[.box 25 (fQ r.2),rO 139 13 Ldl r.1]:=by
 unfold Kyu at h
 refine QM Tryz.func25 E Z<|gA 7 E<|Khn (t:=0) 139 13 E Z<|gO 4 E<|eo_s Z (nblt.1 E) (Klf false)<|Khx [.box 25 (fQ s),rO 139 13 Ldl ([]:List Kxx),mOb kS false (eN .i64) ([]:List (Str×Int))] E<|bK h fun y1 hy1 h2=>gO 6 E<|Khp [0] (I y1.1) [.box 25 (fQ y1.2),rO 139 13 Ldl ([]:List Kxx),mOb kS false (eN .i64) ([]:List (Str×Int))] C (Ldq hy1) E Z E E E E E E E E E E<|gO 10 E<|bK h2 fun q6 hq6 h7=>gK hq6 fun hb9 h10=>?_
 replace hb9:=of_decide_eq_true hb9
 refine Kkj [(0,.ptr 0 0),(5,.sl 1 q6.2.1.length)] [.box 25 (fQ q6.1),rO 139 13 Ldl q6.2.1,mOb kS false (eN .i64) q6.2.2.1] ?_ ?_
 ·refine gA 1 E<|Kih h10 (fun i3 s4=>[(0,.ptr 0 0),(5,.sl 1 s4.2.1.length),(6,.map 2),(7,I s4.2.2.2),(13,I many),(14,I (i3:Int))]) (fun s4=>[.box 25 (fQ s4.1),rO 139 13 Ldl s4.2.1,mOb kS false (eN .i64) s4.2.2.1]) ⟨⟨E,E,E,E,E,E,tV⟩,[],E,.inl E⟩ (fun i3 s4 y14 hlt hy12=>?_) (fun hge=>?_)
  ·exact gA 6 E<|Kgk E (dT hlt)<|bK hy12 fun y15 hy15 h16=>gA 8 E<|Khp [0] (.agg (fS y15.1)) [.box 25 (fQ y15.2),rO 139 13 Ldl s4.2.1,mOb kS false (eN .i64) s4.2.2.1] C (Ldx hy15) E Z E E E E E E E E E E<|Kro hΓ E E E Z<|Krt hΓ E E E E E E E E Z<|Khx [.box 25 (fQ y15.2),rO 139 13 Ldl s4.2.1,mOb kS false (eN .i64) s4.2.2.1,.box 139 (fS y15.1)] E<|gO 7 E<|eo_o E (Klj hΓ (kv:=kS) (agg:=false) (enc:=(eN .i64)) s4.2.2.1 y15.1.Server (0:Int) E E E E Kkz E E E E E E E)<|gO 1 E<|eo_u Z (Klm hΓ (kv:=kS) (agg:=false) (enc:=(eN .i64)) (id:=2) s4.2.2.1 y15.1.Server (wi (((mGet s4.2.2.1 y15.1.Server).getD 0)+1)) E E E Kkz E E E E E)<|Khx [.box 25 (fQ y15.2),rO 139 13 Ldl s4.2.1,mOb kS false (eN .i64) (mSet s4.2.2.1 y15.1.Server (wi (((mGet s4.2.2.1 y15.1.Server).getD 0)+1))),.box 139 (fS y15.1)] E<|gO 7 E<|eo_o E (Klj hΓ (kv:=kS) (agg:=false) (enc:=(eN .i64)) (mSet s4.2.2.1 y15.1.Server (wi (((mGet s4.2.2.1 y15.1.Server).getD 0)+1))) y15.1.Server (0:Int) E E E E Kkz E E E E E E E)<|gO 1 E<|Krt hΓ E E E E E E E E Z<|Khx [.box 25 (fQ y15.2),rO 139 13 Ldl s4.2.1,mOb kS false (eN .i64) (mSet s4.2.2.1 y15.1.Server (wi (((mGet s4.2.2.1 y15.1.Server).getD 0)+1))),.box 139 [I y15.1.At,S y15.1.Server,I ((mGet (mSet s4.2.2.1 y15.1.Server (wi (((mGet s4.2.2.1 y15.1.Server).getD 0)+1))) y15.1.Server).getD 0),I y15.1.Kind,S y15.1.By,S y15.1.Node,S y15.1.Join,S y15.1.Public,S y15.1.Name,.d (Sl eS y15.1.Tags),I y15.1.Until,I y15.1.Uses,B y15.1.Ready]] E<|gO 6 E<|Khl hΓ (enc:=Ldl) [(⟨y15.1.At,y15.1.Server,((mGet (mSet s4.2.2.1 y15.1.Server (wi (((mGet s4.2.2.1 y15.1.Server).getD 0)+1))) y15.1.Server).getD 0),y15.1.Kind,y15.1.By,y15.1.Node,y15.1.Join,y15.1.Public,y15.1.Name,y15.1.Tags,y15.1.Until,y15.1.Uses,y15.1.Ready⟩:Kxx)] E E E E E E E E E E E E Z<|bK h16 fun y17 hy17 h18=>Khy hΓ (enc:=Ldl) hy17 E E E E E E E E E (fun _=>E) E E E E<|gO 6 E<|Khl hΓ (enc:=(eN .i64)) [0,1,1,5,20,60] E E E E E E E E E E E E Z<|bK h18 fun y19 hy19 h20=>Khp [0] (I y19.1) [.box 25 (fQ y19.2),rO 139 13 Ldl y17,mOb kS false (eN .i64) (mSet s4.2.2.1 y15.1.Server (wi (((mGet s4.2.2.1 y15.1.Server).getD 0)+1))),.box 139 [I y15.1.At,S y15.1.Server,I ((mGet (mSet s4.2.2.1 y15.1.Server (wi (((mGet s4.2.2.1 y15.1.Server).getD 0)+1))) y15.1.Server).getD 0),I y15.1.Kind,S y15.1.By,S y15.1.Node,S y15.1.Join,S y15.1.Public,S y15.1.Name,.d (Sl eS y15.1.Tags),I y15.1.Until,I y15.1.Uses,B y15.1.Ready]] C (Ldt hy19) E Z E E E E E E E E E E<|gO 9 E<|oSi h20▸⟨⟨E,E,E,E,E,Kfr E (Kfq (by omega)),tV⟩,[_],E,.inr ⟨HB.mk E,FB.mk E,Z⟩⟩
  exact gA 6 E<|Kgl E (dF hge)<|gA 4 E<|⟨⟨E,E,tV⟩,[],E,.inl E⟩
 refine bK h7 fun y21 hy21 h22=>gA 4 E<|Khp [1] (.tup []) [.box 25 (fQ q6.1),rO 139 13 Ldl y21,mOb kS false (eN .i64) q6.2.2.1] C (Leh hy21) E Z E E E E E E E E E E<|gK h22 fun hg24 h23=>Kkl 5 E (of_decide_eq_true hg24).symm<|gO 9 E<|bK h23 fun q25 hq25 h26=>Kgp 3 [(0,.ptr 0 0),(5,.sl 1 y21.length),(47,B q25.2)] [.box 25 (fQ q25.1),rO 139 13 Ldl y21,mOb kS false (eN .i64) q6.2.2.1] ?_ ?_
 ·refine Kqh E E (fun hb=>?_) (fun hb=>?_)
  ·have h27:=cT hq25 hb
   exact bK h27 fun y28 hy28 h29=>gO 1 E<|Kqf E<|Khp [0] (B y28.1) [.box 25 (fQ y28.2),rO 139 13 Ldl y21,mOb kS false (eN .i64) q6.2.2.1] C (Ldw hy28) E Z E E E E E E E E E E<|gO 2 E<|oSi h29▸⟨⟨E,E,E,tV⟩,[],E,.inl E⟩
  have h30:=cF hq25 hb
  exact gO 4 E<|oSi h30▸⟨⟨E,E,E,tV⟩,[],E,.inl E⟩
 refine bK h26 fun q31 hq31 h32=>gO 2 E<|Kkj [(5,.sl 1 q31.2.length)] [.box 25 (fQ q31.1),rO 139 13 Ldl q31.2,mOb kS false (eN .i64) q6.2.2.1] ?_ ?_
 ·refine jC E hq31 (fun h33=>?_) fun h76=>gA 1 E<|oSi h76▸⟨⟨E,tV⟩,[],E,.inl E⟩
  refine bK h33 fun y34 hy34 h35=>gA 6 E<|Khp [0] (I y34.1) [.box 25 (fQ y34.2),rO 139 13 Ldl y21,mOb kS false (eN .i64) q6.2.2.1] C (Ldq hy34) E Z E E E E E E E E E E<|bK h35 fun x36 hx36 h37=>?_
  have hj38:=Kii hx36
  refine eo_o E (Khc hΓ hx36 E E E E E E)<|bK h37 fun y39 hy39 h40=>gO 6 E<|Khp [0] (I y39.1) [.box 25 (fQ y39.2),rO 139 13 Ldl y21,mOb kS false (eN .i64) q6.2.2.1] C (Ldq hy39) E Z E E E E E E E E E E<|gO 9 E<|jC E h40 (fun h41=>?_) fun h44=>gA 6 E<|jC E h44 (fun h45=>?_) fun h51=>?_
  ·exact gA 3 E<|Khl hΓ (enc:=(eN .i64)) [-1,0,345686400] E E E E E E E E E E E E Z<|bK h41 fun y42 hy42 h43=>Khp [0] (I y42.1) [.box 25 (fQ y42.2),rO 139 13 Ldl y21,mOb kS false (eN .i64) q6.2.2.1] C (Ldt hy42) E Z E E E E E E E E E E<|gO 2 E<|Khk hΓ (enc:=Ldl) (z':=(⟨y42.1,x36.Server,x36.No,x36.Kind,x36.By,x36.Node,x36.Join,x36.Public,x36.Name,x36.Tags,x36.Until,x36.Uses,x36.Ready⟩:Kxx)) y34.1.toNat 0 hj38 E E E E (fun _=>E) E E E E E E Z<|Khx [.box 25 (fQ y42.2),rO 139 13 Ldl (y21.set y34.1.toNat (⟨y42.1,x36.Server,x36.No,x36.Kind,x36.By,x36.Node,x36.Join,x36.Public,x36.Name,x36.Tags,x36.Until,x36.Uses,x36.Ready⟩:Kxx)),mOb kS false (eN .i64) q6.2.2.1] E<|Kkl 5 (n':=(y21.set y34.1.toNat (⟨y42.1,x36.Server,x36.No,x36.Kind,x36.By,x36.Node,x36.Join,x36.Public,x36.Name,x36.Tags,x36.Until,x36.Uses,x36.Ready⟩:Kxx)).length) E List.length_set.symm<|gO 2 E<|oSi h43▸⟨⟨E,tV⟩,[],E,.inl E⟩
  ·refine gA 4 E<|Khl hΓ (enc:=eS) [[],[115,49]] E E E E E E E E E E E E Z<|bK h45 fun y46 hy46 h47=>Khp [0] (S y46.1) [.box 25 (fQ y46.2),rO 139 13 Ldl y21,mOb kS false (eN .i64) q6.2.2.1] C (Lds hy46) E Z E E E E E E E E E E<|gO 1 E<|Khl hΓ (enc:=(eN .i64)) [0,1,1000001] E E E E E E E E E E E E Z<|bK h47 fun y48 hy48 h49=>Khp [0] (I y48.1) [.box 25 (fQ y48.2),rO 139 13 Ldl y21,mOb kS false (eN .i64) q6.2.2.1] C (Ldt hy48) E Z E E E E E E E E E E<|gO 2 E<|Khk hΓ (enc:=Ldl) (z':=(⟨x36.At,y46.1,x36.No,x36.Kind,x36.By,x36.Node,x36.Join,x36.Public,x36.Name,x36.Tags,x36.Until,x36.Uses,x36.Ready⟩:Kxx)) y34.1.toNat 1 hj38 E E E E (fun _=>E) E E E E E E Z<|Khx [.box 25 (fQ y48.2),rO 139 13 Ldl (y21.set y34.1.toNat (⟨x36.At,y46.1,x36.No,x36.Kind,x36.By,x36.Node,x36.Join,x36.Public,x36.Name,x36.Tags,x36.Until,x36.Uses,x36.Ready⟩:Kxx)),mOb kS false (eN .i64) q6.2.2.1] E ?_
   have hj50:=Kkw (y:=(⟨x36.At,y46.1,x36.No,x36.Kind,x36.By,x36.Node,x36.Join,x36.Public,x36.Name,x36.Tags,x36.Until,x36.Uses,x36.Ready⟩:Kxx)) hj38
   exact Kkl 5 (n':=(y21.set y34.1.toNat (⟨x36.At,y46.1,x36.No,x36.Kind,x36.By,x36.Node,x36.Join,x36.Public,x36.Name,x36.Tags,x36.Until,x36.Uses,x36.Ready⟩:Kxx)).length) E List.length_set.symm<|gO 2 E<|Khk hΓ (enc:=Ldl) (z':=(⟨x36.At,y46.1,y48.1,x36.Kind,x36.By,x36.Node,x36.Join,x36.Public,x36.Name,x36.Tags,x36.Until,x36.Uses,x36.Ready⟩:Kxx)) y34.1.toNat 2 hj50 E E E E (fun _=>E) E E E E E E Z<|Khx [.box 25 (fQ y48.2),rO 139 13 Ldl ((y21.set y34.1.toNat (⟨x36.At,y46.1,x36.No,x36.Kind,x36.By,x36.Node,x36.Join,x36.Public,x36.Name,x36.Tags,x36.Until,x36.Uses,x36.Ready⟩:Kxx)).set y34.1.toNat (⟨x36.At,y46.1,y48.1,x36.Kind,x36.By,x36.Node,x36.Join,x36.Public,x36.Name,x36.Tags,x36.Until,x36.Uses,x36.Ready⟩:Kxx)),mOb kS false (eN .i64) q6.2.2.1] E<|Kkl 5 (n':=((y21.set y34.1.toNat (⟨x36.At,y46.1,x36.No,x36.Kind,x36.By,x36.Node,x36.Join,x36.Public,x36.Name,x36.Tags,x36.Until,x36.Uses,x36.Ready⟩:Kxx)).set y34.1.toNat (⟨x36.At,y46.1,y48.1,x36.Kind,x36.By,x36.Node,x36.Join,x36.Public,x36.Name,x36.Tags,x36.Until,x36.Uses,x36.Ready⟩:Kxx)).length) E List.length_set.symm<|gO 2 E<|oSi h49▸⟨⟨E,tV⟩,[],E,.inl E⟩
  refine gA 6 E<|jC E h51 (fun h52=>?_) fun h55=>gA 6 E<|jC E h55 (fun h56=>?_) fun h62=>?_
  ·exact gA 3 E<|Khl hΓ (enc:=(eN .i64)) [0,10,3] E E E E E E E E E E E E Z<|bK h52 fun y53 hy53 h54=>Khp [0] (I y53.1) [.box 25 (fQ y53.2),rO 139 13 Ldl y21,mOb kS false (eN .i64) q6.2.2.1] C (Ldt hy53) E Z E E E E E E E E E E<|gO 2 E<|Khk hΓ (enc:=Ldl) (z':=(⟨x36.At,x36.Server,x36.No,y53.1,x36.By,x36.Node,x36.Join,x36.Public,x36.Name,x36.Tags,x36.Until,x36.Uses,x36.Ready⟩:Kxx)) y34.1.toNat 3 hj38 E E E E (fun _=>E) E E E E E E Z<|Khx [.box 25 (fQ y53.2),rO 139 13 Ldl (y21.set y34.1.toNat (⟨x36.At,x36.Server,x36.No,y53.1,x36.By,x36.Node,x36.Join,x36.Public,x36.Name,x36.Tags,x36.Until,x36.Uses,x36.Ready⟩:Kxx)),mOb kS false (eN .i64) q6.2.2.1] E<|Kkl 5 (n':=(y21.set y34.1.toNat (⟨x36.At,x36.Server,x36.No,y53.1,x36.By,x36.Node,x36.Join,x36.Public,x36.Name,x36.Tags,x36.Until,x36.Uses,x36.Ready⟩:Kxx)).length) E List.length_set.symm<|gO 2 E<|oSi h54▸⟨⟨E,tV⟩,[],E,.inl E⟩
  ·refine gA 4 E<|Khl hΓ (enc:=eS) [[],[65],[97,110,110]] E E E E E E E E E E E E Z<|bK h56 fun y57 hy57 h58=>Khp [0] (S y57.1) [.box 25 (fQ y57.2),rO 139 13 Ldl y21,mOb kS false (eN .i64) q6.2.2.1] C (Lds hy57) E Z E E E E E E E E E E<|gO 1 E<|Khl hΓ (enc:=eS) [[],[110,97]] E E E E E E E E E E E E Z<|bK h58 fun y59 hy59 h60=>Khp [0] (S y59.1) [.box 25 (fQ y59.2),rO 139 13 Ldl y21,mOb kS false (eN .i64) q6.2.2.1] C (Lds hy59) E Z E E E E E E E E E E<|gO 2 E<|Khk hΓ (enc:=Ldl) (z':=(⟨x36.At,x36.Server,x36.No,x36.Kind,y57.1,x36.Node,x36.Join,x36.Public,x36.Name,x36.Tags,x36.Until,x36.Uses,x36.Ready⟩:Kxx)) y34.1.toNat 4 hj38 E E E E (fun _=>E) E E E E E E Z<|Khx [.box 25 (fQ y59.2),rO 139 13 Ldl (y21.set y34.1.toNat (⟨x36.At,x36.Server,x36.No,x36.Kind,y57.1,x36.Node,x36.Join,x36.Public,x36.Name,x36.Tags,x36.Until,x36.Uses,x36.Ready⟩:Kxx)),mOb kS false (eN .i64) q6.2.2.1] E ?_
   have hj61:=Kkw (y:=(⟨x36.At,x36.Server,x36.No,x36.Kind,y57.1,x36.Node,x36.Join,x36.Public,x36.Name,x36.Tags,x36.Until,x36.Uses,x36.Ready⟩:Kxx)) hj38
   exact Kkl 5 (n':=(y21.set y34.1.toNat (⟨x36.At,x36.Server,x36.No,x36.Kind,y57.1,x36.Node,x36.Join,x36.Public,x36.Name,x36.Tags,x36.Until,x36.Uses,x36.Ready⟩:Kxx)).length) E List.length_set.symm<|gO 2 E<|Khk hΓ (enc:=Ldl) (z':=(⟨x36.At,x36.Server,x36.No,x36.Kind,y57.1,y59.1,x36.Join,x36.Public,x36.Name,x36.Tags,x36.Until,x36.Uses,x36.Ready⟩:Kxx)) y34.1.toNat 5 hj61 E E E E (fun _=>E) E E E E E E Z<|Khx [.box 25 (fQ y59.2),rO 139 13 Ldl ((y21.set y34.1.toNat (⟨x36.At,x36.Server,x36.No,x36.Kind,y57.1,x36.Node,x36.Join,x36.Public,x36.Name,x36.Tags,x36.Until,x36.Uses,x36.Ready⟩:Kxx)).set y34.1.toNat (⟨x36.At,x36.Server,x36.No,x36.Kind,y57.1,y59.1,x36.Join,x36.Public,x36.Name,x36.Tags,x36.Until,x36.Uses,x36.Ready⟩:Kxx)),mOb kS false (eN .i64) q6.2.2.1] E<|Kkl 5 (n':=((y21.set y34.1.toNat (⟨x36.At,x36.Server,x36.No,x36.Kind,y57.1,x36.Node,x36.Join,x36.Public,x36.Name,x36.Tags,x36.Until,x36.Uses,x36.Ready⟩:Kxx)).set y34.1.toNat (⟨x36.At,x36.Server,x36.No,x36.Kind,y57.1,y59.1,x36.Join,x36.Public,x36.Name,x36.Tags,x36.Until,x36.Uses,x36.Ready⟩:Kxx)).length) E List.length_set.symm<|gO 2 E<|oSi h60▸⟨⟨E,tV⟩,[],E,.inl E⟩
  refine gA 6 E<|jC E h62 (fun h63=>?_) fun h71=>gA 2 E<|Khl hΓ (enc:=eS) [[119,101,98],[100,98]] E E E E E E E E E E E E Z<|Khl hΓ (enc:=eS) [[]] E E E E E E E E E E E E Z<|Khl hΓ (enc:=eS) [[97],[98]] E E E E E E E E E E E E Z<|Khl hΓ (enc:=(eL eS)) [[[119,101,98],[100,98]],[[]],[[97],[98]]] E E E E E E E E E E E E Z<|bK h71 fun y72 hy72 h73=>gO 1 E<|Khp [0] (I y72.1) [.box 25 (fQ y72.2),rO 139 13 Ldl y21,mOb kS false (eN .i64) q6.2.2.1] C (Ldq hy72) E Z E E E E E E E E E E<|bK h73 fun x74 hx74 h75=>eo_o E (Kha hΓ (enc:=(eL eS)) hx74 E E E E E (fun _=>E))<|gO 3 E<|Khk hΓ (enc:=Ldl) (z':=(⟨x36.At,x36.Server,x36.No,x36.Kind,x36.By,x36.Node,x36.Join,x36.Public,x36.Name,x74,x36.Until,x36.Uses,x36.Ready⟩:Kxx)) y34.1.toNat 9 hj38 E E E E (fun _=>E) E E E E E E Z<|Khx [.box 25 (fQ y72.2),rO 139 13 Ldl (y21.set y34.1.toNat (⟨x36.At,x36.Server,x36.No,x36.Kind,x36.By,x36.Node,x36.Join,x36.Public,x36.Name,x74,x36.Until,x36.Uses,x36.Ready⟩:Kxx)),mOb kS false (eN .i64) q6.2.2.1] E<|Kkl 5 (n':=(y21.set y34.1.toNat (⟨x36.At,x36.Server,x36.No,x36.Kind,x36.By,x36.Node,x36.Join,x36.Public,x36.Name,x74,x36.Until,x36.Uses,x36.Ready⟩:Kxx)).length) E List.length_set.symm<|gO 2 E<|oSi h75▸⟨⟨E,tV⟩,[],E,.inl E⟩
  refine bK h63 fun y64 hy64 h65=>gA 4 E<|Khq C (Kxc hy64) E Z E E E E E<|Khl hΓ (enc:=eS) [[],[120,121,122],[48,65],y64] E E E E E E E E E E E E Z<|bK h65 fun y66 hy66 h67=>Khp [0] (S y66.1) [.box 25 (fQ y66.2),rO 139 13 Ldl y21,mOb kS false (eN .i64) q6.2.2.1] C (Lds hy66) E Z E E E E E E E E E E<|gO 1 E<|Khl hΓ (enc:=(eN .i64)) [0,-1,1000000000] E E E E E E E E E E E E Z<|bK h67 fun y68 hy68 h69=>Khp [0] (I y68.1) [.box 25 (fQ y68.2),rO 139 13 Ldl y21,mOb kS false (eN .i64) q6.2.2.1] C (Ldt hy68) E Z E E E E E E E E E E<|gO 2 E<|Khk hΓ (enc:=Ldl) (z':=(⟨x36.At,x36.Server,x36.No,x36.Kind,x36.By,x36.Node,x36.Join,y66.1,x36.Name,x36.Tags,x36.Until,x36.Uses,x36.Ready⟩:Kxx)) y34.1.toNat 7 hj38 E E E E (fun _=>E) E E E E E E Z<|Khx [.box 25 (fQ y68.2),rO 139 13 Ldl (y21.set y34.1.toNat (⟨x36.At,x36.Server,x36.No,x36.Kind,x36.By,x36.Node,x36.Join,y66.1,x36.Name,x36.Tags,x36.Until,x36.Uses,x36.Ready⟩:Kxx)),mOb kS false (eN .i64) q6.2.2.1] E ?_
  have hj70:=Kkw (y:=(⟨x36.At,x36.Server,x36.No,x36.Kind,x36.By,x36.Node,x36.Join,y66.1,x36.Name,x36.Tags,x36.Until,x36.Uses,x36.Ready⟩:Kxx)) hj38
  exact Kkl 5 (n':=(y21.set y34.1.toNat (⟨x36.At,x36.Server,x36.No,x36.Kind,x36.By,x36.Node,x36.Join,y66.1,x36.Name,x36.Tags,x36.Until,x36.Uses,x36.Ready⟩:Kxx)).length) E List.length_set.symm<|gO 2 E<|Khk hΓ (enc:=Ldl) (z':=(⟨x36.At,x36.Server,x36.No,x36.Kind,x36.By,x36.Node,x36.Join,y66.1,x36.Name,x36.Tags,y68.1,x36.Uses,x36.Ready⟩:Kxx)) y34.1.toNat 10 hj70 E E E E (fun _=>E) E E E E E E Z<|Khx [.box 25 (fQ y68.2),rO 139 13 Ldl ((y21.set y34.1.toNat (⟨x36.At,x36.Server,x36.No,x36.Kind,x36.By,x36.Node,x36.Join,y66.1,x36.Name,x36.Tags,x36.Until,x36.Uses,x36.Ready⟩:Kxx)).set y34.1.toNat (⟨x36.At,x36.Server,x36.No,x36.Kind,x36.By,x36.Node,x36.Join,y66.1,x36.Name,x36.Tags,y68.1,x36.Uses,x36.Ready⟩:Kxx)),mOb kS false (eN .i64) q6.2.2.1] E<|Kkl 5 (n':=((y21.set y34.1.toNat (⟨x36.At,x36.Server,x36.No,x36.Kind,x36.By,x36.Node,x36.Join,y66.1,x36.Name,x36.Tags,x36.Until,x36.Uses,x36.Ready⟩:Kxx)).set y34.1.toNat (⟨x36.At,x36.Server,x36.No,x36.Kind,x36.By,x36.Node,x36.Join,y66.1,x36.Name,x36.Tags,y68.1,x36.Uses,x36.Ready⟩:Kxx)).length) E List.length_set.symm<|gO 2 E<|oSi h69▸⟨⟨E,tV⟩,[],E,.inl E⟩
 exact gA 8 E<|Kkh<|oSi h32▸Kie hΓ [_] (.inr E) E E E E (.inr ⟨HB.mk E,E⟩)
theorem Lej{n:Int}{r:Bool}(h:Kyv n=some r):Pure Tryz.prog 227 [I n] (B r):=by
 unfold Kyv at h
 refine QP Tryz.func227 E E E<|gA 10 E<|Kgp 3 [(2,B false),(8,B ((decide ((n:Int)≥0))&&(decide ((n:Int)<345686400))))] [] ?_ ?_
 ·refine Kqh E E (fun hb=>?_) (fun hb=>?_)
  ·exact gO 4 E<|⟨⟨E,Kfs E (Kij hb),tV⟩,[],E,.inl E⟩
  exact gO 4 E<|⟨⟨E,Kfs E (Kik hb),tV⟩,[],E,.inl E⟩
 exact gO 4 E<|oSi h▸gP E E
theorem Lek{k:Nat}{s:Str}{r:Bool}(h:Kyw k s=some r):Pure Tryz.prog 149 [S s] (B r):=by
 unfold Kyw at h
 refine QP Tryz.func149 E E E<|gA 11 E<|bK h fun q4 hq4 h5=>Kki (R:=fun a6=>q4=.inl a6) (fun a6=>[(0,S s)]) (fun a6=>[]) ?_ ?_
 ·refine gA 1 E<|Kgw hq4 (fun s2=>[(0,S s),(3,I s2)]) (fun s2=>[]) ⟨⟨E,E,tV⟩,[],E,.inl E⟩ (fun s2 y10 hy8 hout9=>?_)
  refine gA 9 E<|Kgj E (fun hb=>?_) (fun hb=>?_)
  ·have h11:=cT hy8 hb
   refine bK h11 fun c12 hc12 h13=>gA 8 E<|eo_o E (Khb hΓ hc12 E E E E)<|gO 8 E<|Kgp 3 [(0,S s),(3,I s2),(4,.d (.v (.int .u8 (c12.toNat:Int)))),(19,B ((decide (((c12.toNat:Int):Int)≥97))&&(decide (((c12.toNat:Int):Int)≤122))))] [] ?_ ?_
   ·refine Kqh E E (fun hb=>?_) (fun hb=>?_)
    ·exact gO 4 E<|⟨⟨E,E,E,Kfs E (Kij hb),tV⟩,[],E,.inl E⟩
    exact gO 4 E<|⟨⟨E,E,E,Kfs E (Kik hb),tV⟩,[],E,.inl E⟩
   refine gO 1 E<|Kgp 19 [(0,S s),(3,I s2),(39,B (((decide (((c12.toNat:Int):Int)≥97))&&(decide (((c12.toNat:Int):Int)≤122)))||((decide ((s2:Int)>0))&&((((decide (((c12.toNat:Int):Int)≥48))&&(decide (((c12.toNat:Int):Int)≤57)))||(((c12.toNat:Int):Int)==45))||(((c12.toNat:Int):Int)==95)))))] [] ?_ ?_
   ·refine Kqh E E (fun hb=>?_) (fun hb=>?_)
    ·exact gO 20 E<|⟨⟨E,E,Kfs E (or_t hb),tV⟩,[],E,.inl E⟩
    refine gO 3 E<|Kgp 15 [(0,S s),(3,I s2),(20,B false),(38,B ((decide ((s2:Int)>0))&&((((decide (((c12.toNat:Int):Int)≥48))&&(decide (((c12.toNat:Int):Int)≤57)))||(((c12.toNat:Int):Int)==45))||(((c12.toNat:Int):Int)==95))))] [] ?_ ?_
    ·refine Kqh E E (fun hb=>?_) (fun hb=>?_)
     ·refine gO 3 E<|Kgp 3 [(0,S s),(3,I s2),(4,.d (.v (.int .u8 (c12.toNat:Int)))),(20,B false),(23,B true),(29,B ((decide (((c12.toNat:Int):Int)≥48))&&(decide (((c12.toNat:Int):Int)≤57))))] [] ?_ ?_
      ·refine Kqh E E (fun hb=>?_) (fun hb=>?_)
       ·exact gO 4 E<|⟨⟨E,E,E,E,E,Kfs E (Kij hb),tV⟩,[],E,.inl E⟩
       exact gO 4 E<|⟨⟨E,E,E,E,E,Kfs E (Kik hb),tV⟩,[],E,.inl E⟩
      refine gO 1 E<|Kgp 3 [(0,S s),(3,I s2),(4,.d (.v (.int .u8 (c12.toNat:Int)))),(20,B false),(23,B true),(33,B (((decide (((c12.toNat:Int):Int)≥48))&&(decide (((c12.toNat:Int):Int)≤57)))||(((c12.toNat:Int):Int)==45)))] [] ?_ ?_
      ·refine Kqh E E (fun hb=>?_) (fun hb=>?_)
       ·exact gO 4 E<|⟨⟨E,E,E,E,E,Kfs E (or_t hb),tV⟩,[],E,.inl E⟩
       exact gO 4 E<|⟨⟨E,E,E,E,E,Kfs E (or_f hb),tV⟩,[],E,.inl E⟩
      refine gO 1 E<|Kgp 3 [(0,S s),(3,I s2),(20,B false),(23,B true),(37,B ((((decide (((c12.toNat:Int):Int)≥48))&&(decide (((c12.toNat:Int):Int)≤57)))||(((c12.toNat:Int):Int)==45))||(((c12.toNat:Int):Int)==95)))] [] ?_ ?_
      ·refine Kqh E E (fun hb=>?_) (fun hb=>?_)
       ·exact gO 4 E<|⟨⟨E,E,E,E,Kfs E (or_t hb),tV⟩,[],E,.inl E⟩
       exact gO 4 E<|⟨⟨E,E,E,E,Kfs E (or_f hb),tV⟩,[],E,.inl E⟩
      exact gO 2 E<|⟨⟨E,E,E,Kfs E (Kij hb),tV⟩,[],E,.inl E⟩
     exact gO 16 E<|⟨⟨E,E,E,Kfs E (Kik hb),tV⟩,[],E,.inl E⟩
    exact gO 2 E<|⟨⟨E,E,Kfs E (or_f hb),tV⟩,[],E,.inl E⟩
   refine gO 3 E<|jC E h13 (fun h14=>?_) fun h17=>gA 8 E<|oSi h17▸⟨_,E,⟨⟨E,E,tV⟩,[],E,.inl E⟩⟩
   refine gA 8 E<|bK h14 fun v15 hv15 h16=>?_
   cases h16
   obtain rfl:=hout9 _ rfl
   cases h5
   exact gA 4 E<|oSi hv15▸gP E E
  have h18:=cF hy8 hb
  refine gA 4 E ?_
  cases h18
  obtain rfl:=hout9 _ rfl
  exact⟨_,E,⟨⟨E,tV⟩,[],E,.inl E⟩⟩
 intro a6 ha
 subst ha
 replace h5:=Kke h5
 refine gA 6 E<|Kgp 4 [(47,B ((!((s:Str)==[]))&&(decide (((s.length:Int):Int)≤40))))] [] ?_ ?_
 ·refine Kqh E E (fun hb=>?_) (fun hb=>?_)
  ·exact gO 5 E<|⟨⟨Kfs E (Kij hb),tV⟩,[],E,.inl E⟩
  exact gO 5 E<|⟨⟨Kfs E (Kik hb),tV⟩,[],E,.inl E⟩
 exact gO 4 E<|oSi h5▸gP E E
theorem Lel{n:Int}{low:Int}{high:Int}{r:Bool}(h:Kyx n low high=some r):Pure Tryz.prog 123 [I n,I low,I high] (B r):=by
 unfold Kyx at h
 refine QP Tryz.func123 E E E<|gA 11 E<|Kgp 4 [(6,B false),(14,B ((decide ((n:Int)<low))||(decide ((n:Int)>high))))] [] ?_ ?_
 ·refine Kqh E E (fun hb=>?_) (fun hb=>?_)
  ·exact gO 5 E<|⟨⟨E,Kfs E (or_t hb),tV⟩,[],E,.inl E⟩
  exact gO 5 E<|⟨⟨E,Kfs E (or_f hb),tV⟩,[],E,.inl E⟩
 exact gO 4 E<|oSi h▸gP E E
theorem Lem{kind:Int}{r:List Int}(h:Kyy kind=some r):Pure Tryz.prog 109 [I kind] (.d (Sl (eN .i64) r)):=by
 unfold Kyy at h
 refine QP Tryz.func109 E E E<|gA 18 E<|jC E h (fun h1=>?_) fun h2=>gA 6 E<|jC E h2 (fun h3=>?_) fun h4=>?_
 ·exact gA 2 E<|Khl hΓ (enc:=(eN .i64)) [0,2,5,6,7,8] E E E E E E E E E E E E Z<|gO 6 E<|oSi h1▸gP E E
 ·exact gA 2 E<|Khl hΓ (enc:=(eN .i64)) [0,2] E E E E E E E E E E E E Z<|gO 6 E<|oSi h3▸gP E E
 refine gA 6 E<|jC E h4 (fun h5=>?_) fun h6=>gA 6 E<|jC E h6 (fun h7=>?_) fun h8=>?_
 ·exact gA 2 E<|Khl hΓ (enc:=(eN .i64)) [0,1,2,3,4] E E E E E E E E E E E E Z<|gO 6 E<|oSi h5▸gP E E
 ·exact gA 2 E<|Khl hΓ (enc:=(eN .i64)) [0,1,3] E E E E E E E E E E E E Z<|gO 6 E<|oSi h7▸gP E E
 refine gA 6 E<|jC E h8 (fun h9=>?_) fun h10=>gA 6 E<|jC E h10 (fun h11=>?_) fun h12=>?_
 ·exact gA 2 E<|Khl hΓ (enc:=(eN .i64)) [0,1,4] E E E E E E E E E E E E Z<|gO 6 E<|oSi h9▸gP E E
 ·exact gA 2 E<|Khl hΓ (enc:=(eN .i64)) [0,1,5] E E E E E E E E E E E E Z<|gO 6 E<|oSi h11▸gP E E
 exact gA 5 E<|Khl hΓ (enc:=(eN .i64)) [0,1] E E E E E E E E E E E E Z<|gO 4 E<|oSi h12▸gP E E
theorem Len{k:Nat}{s:Str}{empty:Bool}{r:Int}(h:Kyz k s empty=some r):Pure Tryz.prog 326 [S s,B empty] (I r):=by
 unfold Kyz at h
 refine QP Tryz.func326 E E E<|bK h fun y1 hy1 h2=>gA 9 E<|Khq C (Lek hy1) E Z E E E E E<|gO 2 E<|Kgp 7 [(15,B ((!y1)&&(!(empty&&((s:Str)==[])))))] [] ?_ ?_
 ·refine Kqh E E (fun hb=>?_) (fun hb=>?_)
  ·refine gO 2 E<|Kgp 3 [(8,B true),(13,B (empty&&((s:Str)==[])))] [] ?_ ?_
   ·refine Kqh E E (fun hb=>?_) (fun hb=>?_)
    ·exact gO 4 E<|⟨⟨E,Kfs E (Kij hb),tV⟩,[],E,.inl E⟩
    exact gO 4 E<|⟨⟨E,Kfs E (Kik hb),tV⟩,[],E,.inl E⟩
   exact gO 3 E<|⟨⟨Kfs E (Kij hb),tV⟩,[],E,.inl E⟩
  exact gO 8 E<|⟨⟨Kfs E (Kik hb),tV⟩,[],E,.inl E⟩
 refine gO 2 E<|jC E h2 (fun h3=>?_) fun h4=>gA 8 E<|oSi h4▸gP E E
 exact gA 7 E<|oSi h3▸gP E E
theorem Leo{s:Str}{r:Bool}(h:Kza s=some r):Pure Tryz.prog 327 [S s] (B r):=by
 unfold Kza at h
 refine QP Tryz.func327 E E E<|gA 10 E<|Kgp 4 [(0,S s),(2,B false),(9,B ((!((s:Str)==[]))&&(decide (((s.length:Int):Int)≤20))))] [] ?_ ?_
 ·refine Kqh E E (fun hb=>?_) (fun hb=>?_)
  ·exact gO 5 E<|⟨⟨E,E,Kfs E (Kij hb),tV⟩,[],E,.inl E⟩
  exact gO 5 E<|⟨⟨E,E,Kfs E (Kik hb),tV⟩,[],E,.inl E⟩
 refine gO 1 E<|bK h fun q1 hq1 h2=>Kgp 4 [(2,B false),(14,B q1)] [] ?_ ?_
 ·refine Kqh E E (fun hb=>?_) (fun hb=>?_)
  ·have h3:=cT hq1 hb
   exact bK h3 fun y4 hy4 h5=>gO 1 E<|Kqf E<|Khq C (Kxa hy4) E Z E E E E E<|gO 3 E<|oSi h5▸⟨⟨E,E,tV⟩,[],E,.inl E⟩
  have h6:=cF hq1 hb
  exact gO 5 E<|oSi h6▸⟨⟨E,E,tV⟩,[],E,.inl E⟩
 exact gO 4 E<|oSi h2▸gP E E
theorem Lep{k:Nat}{l:List Str}{r:Int}(h:Kzb k l=some r):Pure Tryz.prog 282 [.d (Sl eS l)] (I r):=by
 unfold Kzb at h
 refine QP Tryz.func282 E E E<|gA 13 E<|bK h fun q4 hq4 h5=>Kgz 0 E fun hb7=>Kki (R:=fun a6=>q4=.go a6) (fun a6=>[]) (fun a6=>[]) ?_ ?_
 ·refine gA 1 E<|Kgy l hq4 (fun i1 s2=>[(0,.d (Sl eS l)),(5,.d (Sl eS l)),(6,I (l.length:Int)),(7,I (i1:Int))]) (fun s2=>[]) ⟨⟨E,E,E,E,tV⟩,[],E,.inl E⟩ (fun i1 x3 s2 y11 hx8 hlt hy9 hout10=>?_) (fun s2 hgo=>?_)
  ·refine gA 6 E<|Kgk E (dT (Int.ofNat_lt.2 hlt))<|gA 7 E<|eo_o E (Kha hΓ (enc:=eS) (Kgt hx8) E E E E E (fun _=>E))<|bK hy9 fun y12 hy12 h13=>gO 9 E<|Khq C (Lek hy12) E Z E E E E E<|gO 3 E<|jC E h13 (fun h14=>?_) fun h17=>gA 7 E<|bK h17 fun q18 hq18 h19=>Kgp 8 [(0,.d (Sl eS l)),(5,.d (Sl eS l)),(6,I (l.length:Int)),(7,I (i1:Int)),(25,B q18)] [] ?_ ?_
   ·refine gA 9 E<|bK h14 fun v15 hv15 h16=>?_
    cases h16
    obtain rfl:=hout10 _ rfl
    cases h5
    exact gA 4 E<|oSi hv15▸gP E E
   ·refine Kqh E E (fun hb=>?_) (fun hb=>?_)
    ·have h20:=cT hq18 hb
     exact bK h20 fun x21 hx21 h22=>gO 4 E<|Kqf E<|eo_o E (Kha hΓ (enc:=eS) hx21 E E E E E (fun _=>E))<|gO 4 E<|oSi h22▸⟨⟨E,E,E,E,E,tV⟩,[],E,.inl E⟩
    have h23:=cF hq18 hb
    exact gO 9 E<|oSi h23▸⟨⟨E,E,E,E,E,tV⟩,[],E,.inl E⟩
   refine gO 2 E<|jC E h19 (fun h24=>?_) fun h27=>gA 7 E ?_
   ·refine gA 8 E<|bK h24 fun v25 hv25 h26=>?_
    cases h26
    obtain rfl:=hout10 _ rfl
    cases h5
    exact gA 4 E<|oSi hv25▸gP E E
   cases h27
   exact⟨_,E,⟨⟨E,E,E,Kfr E (Kfq (nLl hlt hb7)),tV⟩,[],E,.inl E⟩⟩
  subst hgo
  exact gA 6 E<|Kgl E (dF (Int.lt_irrefl _))<|gA 4 E<|⟨_,E,⟨tV,[],E,.inl E⟩⟩
 intro a6 ha
 subst ha
 replace h5:=Kkf h5
 exact gA 7 E<|oSi h5▸gP E E
theorem Leq{k:Nat}{l:List Str}{r:Int}(h:Kzc k l=some r):Pure Tryz.prog 328 [.d (Sl eS l)] (I r):=by
 unfold Kzc at h
 refine QP Tryz.func328 E E E<|gA 13 E<|jC E h (fun h1=>?_) fun h2=>bK h2 fun y3 hy3 h4=>gA 5 E<|Khq C (Lep hy3) E Z E E E E E<|gO 4 E<|oSi h4▸gP E E
 exact gA 7 E<|oSi h1▸gP E E
theorem Ler{n:Int}{r:Int}(h:Kzd n=some r):Pure Tryz.prog 329 [I n] (I r):=by
 unfold Kzd at h
 refine QP Tryz.func329 E E E<|bK h fun y1 hy1 h2=>gA 9 E<|Khq C (Lel hy1) E Z E E E E E<|gO 2 E<|jC E h2 (fun h3=>?_) fun h4=>gA 8 E<|oSi h4▸gP E E
 exact gA 7 E<|oSi h3▸gP E E
theorem Les{k:Nat}{s:Kxx}{field:Int}{r:Int}(h:Kze k s field=some r):Pure Tryz.prog 271 [.agg (fS s),I field] (I r):=by
 unfold Kze at h
 refine QP Tryz.func271 E E E<|gA 2 E<|Krp E E E E Z<|bK h fun q1 hq1 h2=>gO 17 E<|Kkk (q:=q1) (fun a3=>[]) (fun a3=>[.box 139 (fS s)]) ?_ ?_
 ·refine gA 7 E<|jC E hq1 (fun h4=>?_) fun h9=>gA 6 E<|jC E h9 (fun h10=>?_) fun h15=>?_
  ·refine bK h4 fun y5 hy5 h6=>gA 5 E<|Khq C (Len hy5) E Z E E E E E<|gO 5 E<|bK h6 fun v7 hv7 h8=>?_
   cases h8
   cases h2
   exact gA 2 E<|oSi hv7▸gP E E
  ·refine bK h10 fun y11 hy11 h12=>gA 4 E<|Khq C (Len hy11) E Z E E E E E<|gO 5 E<|bK h12 fun v13 hv13 h14=>?_
   cases h14
   cases h2
   exact gA 2 E<|oSi hv13▸gP E E
  refine gA 6 E<|jC E h15 (fun h16=>?_) fun h21=>gA 6 E<|jC E h21 (fun h22=>?_) fun h29=>?_
  ·refine bK h16 fun y17 hy17 h18=>gA 5 E<|Khq C (Len hy17) E Z E E E E E<|gO 5 E<|bK h18 fun v19 hv19 h20=>?_
   cases h20
   cases h2
   exact gA 2 E<|oSi hv19▸gP E E
  ·refine bK h22 fun y23 hy23 h24=>gA 4 E<|Khq C (Leo hy23) E Z E E E E E<|gO 3 E<|jC E h24 (fun h25=>?_) fun h28=>gA 2 E<|oSi h28▸⟨_,E,⟨tV,[],E,.inl E⟩⟩
   refine gA 7 E<|bK h25 fun v26 hv26 h27=>?_
   cases h27
   cases h2
   exact gA 2 E<|oSi hv26▸gP E E
  refine gA 6 E<|jC E h29 (fun h30=>?_) fun h35=>gA 6 E<|jC E h35 (fun h36=>?_) fun h41=>?_
  ·refine bK h30 fun y31 hy31 h32=>gA 4 E<|Khq C (Len hy31) E Z E E E E E<|gO 5 E<|bK h32 fun v33 hv33 h34=>?_
   cases h34
   cases h2
   exact gA 2 E<|oSi hv33▸gP E E
  ·refine bK h36 fun y37 hy37 h38=>gA 4 E<|Khq C (Leq hy37) E Z E E E E E<|gO 5 E<|bK h38 fun v39 hv39 h40=>?_
   cases h40
   cases h2
   exact gA 2 E<|oSi hv39▸gP E E
  refine gA 6 E<|jC E h41 (fun h42=>?_) fun h47=>gA 6 E<|jC E h47 (fun h48=>?_) fun h53=>?_
  ·refine bK h42 fun y43 hy43 h44=>gA 4 E<|Khq C (Ler hy43) E Z E E E E E<|gO 5 E<|bK h44 fun v45 hv45 h46=>?_
   cases h46
   cases h2
   exact gA 2 E<|oSi hv45▸gP E E
  ·refine bK h48 fun y49 hy49 h50=>gA 4 E<|Khq C (Ler hy49) E Z E E E E E<|gO 5 E<|bK h50 fun v51 hv51 h52=>?_
   cases h52
   cases h2
   exact gA 2 E<|oSi hv51▸gP E E
  exact gA 2 E<|oSi h53▸⟨_,E,⟨tV,[],E,.inl E⟩⟩
 intro a3 ha
 subst ha
 replace h2:=Kke h2
 exact gA 7 E<|oSi h2▸gP E E
theorem Let{s:List Int}{v:Int}{r:Int}(h:Kzf s v=some r):Pure Tryz.prog 94 [.d (Sl (eN .i64) s),I v] (I r):=by
 unfold Kzf at h
 refine QP Tryz.func94 E E E<|gA 13 E<|bK h fun q4 hq4 h5=>Kgz 0 E fun hb7=>Kki (R:=fun a6=>q4=.go a6) (fun a6=>[]) (fun a6=>[]) ?_ ?_
 ·refine gA 1 E<|Kgy s hq4 (fun i1 s2=>[(0,.d (Sl (eN .i64) s)),(1,I v),(7,I (s.length:Int)),(8,I (i1:Int))]) (fun s2=>[]) ⟨⟨E,E,E,E,tV⟩,[],E,.inl E⟩ (fun i1 x3 s2 y11 hx8 hlt hy9 hout10=>?_) (fun s2 hgo=>?_)
  ·refine gA 6 E<|Kgk E (dT (Int.ofNat_lt.2 hlt))<|gA 15 E<|eo_o E (Kha hΓ (enc:=(eN .i64)) (Kgt hx8) E E E E E (fun _=>E))<|gO 4 E<|jC E hy9 (fun h12=>?_) fun h15=>gA 7 E ?_
   ·refine gA 9 E<|bK h12 fun v13 hv13 h14=>?_
    cases h14
    obtain rfl:=hout10 _ rfl
    cases h5
    exact gA 4 E<|oSi hv13▸gP E E
   cases h15
   exact⟨_,E,⟨⟨E,E,E,Kfr E (Kfq (nLl hlt hb7)),tV⟩,[],E,.inl E⟩⟩
  subst hgo
  exact gA 6 E<|Kgl E (dF (Int.lt_irrefl _))<|gA 4 E<|⟨_,E,⟨tV,[],E,.inl E⟩⟩
 intro a6 ha
 subst ha
 replace h5:=Kkf h5
 exact gA 7 E<|oSi h5▸gP E E
theorem Leu{s:List Int}{v:Int}{r:Bool}(h:Kzg s v=some r):Pure Tryz.prog 133 [.d (Sl (eN .i64) s),I v] (B r):=by
 unfold Kzg at h
 exact QP Tryz.func133 E E E<|bK h fun y1 hy1 h2=>gA 9 E<|Khq C (Let hy1) E Z E E E E E<|gO 5 E<|oSi h2▸gP E E
theorem Lev{s:Kxx}{field:Int}{r:Bool}(h:Kzh s field=some r):Pure Tryz.prog 272 [.agg (fS s),I field] (B r):=by
 unfold Kzh at h
 refine QP Tryz.func272 E E E<|gA 2 E<|Krp E E E E Z<|gO 16 E<|jC E h (fun h1=>?_) fun h2=>gA 6 E<|jC E h2 (fun h3=>?_) fun h4=>?_
 ·exact gA 11 E<|oSi h1▸gP E E
 ·exact gA 11 E<|oSi h3▸gP E E
 refine gA 6 E<|jC E h4 (fun h5=>?_) fun h6=>gA 6 E<|jC E h6 (fun h7=>?_) fun h8=>?_
 ·exact gA 11 E<|oSi h5▸gP E E
 ·exact gA 11 E<|oSi h7▸gP E E
 refine gA 6 E<|jC E h8 (fun h9=>?_) fun h10=>gA 6 E<|jC E h10 (fun h11=>?_) fun h12=>?_
 ·exact gA 11 E<|oSi h9▸gP E E
 ·exact gA 12 E<|oSi h11▸gP E E
 refine gA 6 E<|jC E h12 (fun h13=>?_) fun h14=>gA 6 E<|jC E h14 (fun h15=>?_) fun h16=>?_
 ·exact gA 11 E<|oSi h13▸gP E E
 ·exact gA 11 E<|oSi h15▸gP E E
 exact gA 12 E<|oSi h16▸gP E E
theorem Lew{k:Nat}{s:Kxx}{r:Int}(h:Kzi k s=some r):Pure Tryz.prog 201 [.agg (fS s)] (I r):=by
 unfold Kzi at h
 refine QP Tryz.func201 E E E<|gA 2 E<|Krp E E E E Z<|bK h fun y1 hy1 h2=>gO 9 E<|Khq C (Lej hy1) E Z E E E E E<|gO 4 E<|jC E h2 (fun h3=>?_) fun h4=>bK h4 fun y5 hy5 h6=>gA 4 E<|Khq C (Lek hy5) E Z E E E E E<|gO 4 E<|jC E h6 (fun h7=>?_) fun h8=>?_
 ·exact gA 8 E<|oSi h3▸gP E E
 ·exact gA 8 E<|oSi h7▸gP E E
 refine bK h8 fun y9 hy9 h10=>gA 4 E<|Khq C (Lel hy9) E Z E E E E E<|gO 3 E<|jC E h10 (fun h11=>?_) fun h12=>bK h12 fun y13 hy13 h14=>gA 4 E<|Khq C (Lel hy13) E Z E E E E E<|gO 3 E<|jC E h14 (fun h15=>?_) fun h16=>?_
 ·exact gA 8 E<|oSi h11▸gP E E
 ·exact gA 8 E<|oSi h15▸gP E E
 refine bK h16 fun y17 hy17 h18=>gA 7 E<|Khq C (Lem hy17) E Z E E E E E<|gO 11 E<|bK h18 fun q22 hq22 h23=>Kgz 3 E fun hb25=>Kki (R:=fun a24=>q22=.go a24) (fun a24=>[(1,.ptr 0 0),(3,.d (Sl (eN .i64) y17))]) (fun a24=>[.box 139 (fS s)]) ?_ ?_
 ·refine gA 1 E<|Kgy y17 hq22 (fun i19 s20=>[(1,.ptr 0 0),(3,.d (Sl (eN .i64) y17)),(29,.d (Sl (eN .i64) y17)),(30,I (y17.length:Int)),(31,I (i19:Int))]) (fun s20=>[.box 139 (fS s)]) ⟨⟨E,E,E,E,E,tV⟩,[],E,.inl E⟩ (fun i19 x21 s20 y29 hx26 hlt hy27 hout28=>?_) (fun s20 hgo=>?_)
  ·refine gA 6 E<|Kgk E (dT (Int.ofNat_lt.2 hlt))<|gA 6 E<|eo_o E (Kha hΓ (enc:=(eN .i64)) (Kgt hx26) E E E E E (fun _=>E))<|bK hy27 fun y30 hy30 h31=>gO 8 E<|Khq C (Les hy30) E Z E E E E E<|gO 9 E<|jC E h31 (fun h32=>?_) fun h35=>gA 7 E ?_
   ·refine gA 9 E<|bK h32 fun v33 hv33 h34=>?_
    cases h34
    obtain rfl:=hout28 _ rfl
    cases h23
    exact gA 4 E<|oSi hv33▸gP E E
   cases h35
   exact⟨_,E,⟨⟨E,E,E,E,Kfr E (Kfq (nLl hlt hb25)),tV⟩,[],E,.inl E⟩⟩
  subst hgo
  exact gA 6 E<|Kgl E (dF (Int.lt_irrefl _))<|gA 4 E<|⟨_,E,⟨⟨E,E,tV⟩,[],E,.inl E⟩⟩
 intro a24 ha
 subst ha
 replace h23:=Kkf h23
 refine gA 7 E<|bK h23 fun q39 hq39 h40=>Kki (R:=fun a41=>q39=.inl a41) (fun a41=>[]) (fun a41=>[.box 139 (fS s)]) ?_ ?_
 ·refine gA 1 E<|Kgw hq39 (fun s37=>[(1,.ptr 0 0),(3,.d (Sl (eN .i64) y17)),(42,I s37)]) (fun s37=>[.box 139 (fS s)]) ⟨⟨E,E,E,tV⟩,[],E,.inl E⟩ (fun s37 y45 hy43 hout44=>?_)
  refine gA 6 E<|jC E hy43 (fun h46=>?_) fun h59=>gA 4 E ?_
  ·refine bK h46 fun y47 hy47 h48=>gA 14 E<|Khq C (Leu hy47) E Z E E E E E<|gO 2 E<|bK h48 fun q49 hq49 h50=>Kgp 5 [(1,.ptr 0 0),(3,.d (Sl (eN .i64) y17)),(42,I s37),(54,B q49)] [.box 139 (fS s)] ?_ ?_
   ·refine Kqh E E (fun hb=>?_) (fun hb=>?_)
    ·have h51:=cT hq49 hb
     exact bK h51 fun y52 hy52 h53=>gO 2 E<|Kqf E<|Khq C (Lev hy52) E Z E E E E E<|gO 3 E<|oSi h53▸⟨⟨E,E,E,E,tV⟩,[],E,.inl E⟩
    have h54:=cF hq49 hb
    exact gO 6 E<|oSi h54▸⟨⟨E,E,E,E,tV⟩,[],E,.inl E⟩
   refine gO 2 E<|jC E h50 (fun h55=>?_) fun h58=>gA 7 E<|oSi h58▸⟨_,E,⟨⟨E,E,E,tV⟩,[],E,.inl E⟩⟩
   refine gA 8 E<|bK h55 fun v56 hv56 h57=>?_
   cases h57
   obtain rfl:=hout44 _ rfl
   cases h40
   exact gA 4 E<|oSi hv56▸gP E E
  cases h59
  obtain rfl:=hout44 _ rfl
  exact⟨_,E,⟨tV,[],E,.inl E⟩⟩
 intro a41 ha
 subst ha
 replace h40:=Kke h40
 exact gA 7 E<|oSi h40▸gP E E
theorem Lex{a:Kxx}{b:Kxx}{r:Int}(h:Kzj a b=some r):Pure Tryz.prog 202 [.agg (fS a),.agg (fS b)] (I r):=by
 unfold Kzj at h
 exact QP Tryz.func202 E E E<|gA 2 E<|Krp E E E E Z<|Krp E E E E Z<|gO 4 E<|jD<|bK h fun y1 hy1 h2=>gA 4 E<|Khr C (Ldz hy1) E E E E E E<|bK h2 fun y3 hy3 h4=>Kgh hΓ 4 E<|Khr C (Kxf hy3) E E E E E E<|bK h4 fun y5 hy5 h6=>Kgh hΓ 4 E<|Khr C (Ldz hy5) E E E E E E<|Khm hΓ (enc:=(eN .i64)) [y1,y3,y5] E E E E E E E E E E E E<|bK h6 fun y7 hy7 h8=>Khr C (Lea hy7) E E E E E E<|Kgh hΓ 4 E<|oSi h8▸gP E E
theorem Ley{s:Kxx}{r:Kxy}(h:Kzk s=some r):Pure Tryz.prog 203 [.agg (fS s)] (.agg [S r.server,I r.no]):=by
 unfold Kzk at h
 exact QP Tryz.func203 E E E<|gA 2 E<|Krp E E E E Z<|Kro hΓ E E E Z<|gO 8 E<|Kep hΓ (gs:=[S s.Server,I s.No]) E E E E E E E<|Krt hΓ E E E E E E E E Z<|Khx [.box 139 (fS s),.box 225 [S s.Server,I s.No]] E<|gO 3 E<|oSi h▸gP E E
theorem Lez{k:Nat}{l:List Kxx}{r:Int}(h:Kzl k l=some r):Pure Tryz.prog 107 [.d (Sl Ldl l)] (I r):=by
 unfold Kzl at h
 refine QP Tryz.func107 E E E<|gA 13 E<|jC E h (fun h1=>?_) fun h2=>gA 4 E<|eo_s Z (nblt.1 E) (Klf false)<|Khx [mOb (kD Ldm) false eB ([]:List (Kxy×Bool))] E<|gO 11 E<|bK h2 fun q6 hq6 h7=>Kgz 0 E fun hb9=>Kki (R:=fun a8=>q6=.go a8) (fun a8=>[]) (fun a8=>[mOb (kD Ldm) false eB a8]) ?_ ?_
 ·exact gA 7 E<|oSi h1▸gP E E
 ·refine gA 1 E<|Kgy l hq6 (fun i3 s4=>[(0,.d (Sl Ldl l)),(3,.map 0),(11,.d (Sl Ldl l)),(12,I (l.length:Int)),(13,I (i3:Int))]) (fun s4=>[mOb (kD Ldm) false eB s4]) ⟨⟨E,E,E,E,E,tV⟩,[],E,.inl E⟩ (fun i3 x5 s4 y13 hx10 hlt hy11 hout12=>?_) (fun s4 hgo=>?_)
  ·refine gA 6 E<|Kgk E (dT (Int.ofNat_lt.2 hlt))<|gA 7 E<|eo_o E (Kha hΓ (enc:=Ldl) (Kgt hx10) E E E E E (fun _=>E))<|gO 1 E<|Kro hΓ E E E Z<|gO 1 E<|Krt hΓ E E E E E E E E Z<|Khx [mOb (kD Ldm) false eB s4,.box 139 (fS x5)] E<|bK hy11 fun y14 hy14 h15=>gO 6 E<|Khq C (Lew hy14) E Z E E E E E<|gO 9 E<|jC E h15 (fun h16=>?_) fun h19=>bK h19 fun q20 hq20 h21=>gA 4 E<|Kkj [(0,.d (Sl Ldl l)),(3,.map 0),(5,.ptr 1 0),(11,.d (Sl Ldl l)),(12,I (l.length:Int)),(13,I (i3:Int)),(34,B q20)] [mOb (kD Ldm) false eB s4,.box 139 (fS x5)] ?_ ?_
   ·refine gA 10 E<|bK h16 fun v17 hv17 h18=>?_
    cases h18
    obtain rfl:=hout12 _ rfl
    cases h7
    exact gA 4 E<|oSi hv17▸gP E E
   ·refine jD<|gA 3 E<|Kez E E (fun hb=>?_) (fun hb=>?_)
    ·have h22:=cT hq20 hb
     exact bK h22 fun x23 hx23 h24=>Kgh hΓ 3 E<|Kft E E (Kha hΓ (enc:=Ldl) hx23 E E E E E (fun _=>E))<|bK h24 fun y25 hy25 h26=>Kgh hΓ 2 E<|Khs C (Lex hy25) E E E E E E E<|Kgh hΓ 3 E<|oSi h26▸⟨⟨E,E,E,E,E,E,E,tV⟩,[],E,.inl E⟩
    have h27:=cF hq20 hb
    exact Kgh hΓ 10 E<|oSi h27▸⟨⟨E,E,E,E,E,E,E,tV⟩,[],E,.inl E⟩
   refine gA 1 E<|jC E h21 (fun h28=>?_) fun h31=>bK h31 fun y32 hy32 h33=>gA 7 E<|Khq C (Ley hy32) E Z E E E E E<|eo_o E (Knh hΓ (kenc:=Ldm) (agg:=false) (enc:=eB) s4 y32 (false:Bool) E E E Lfr (fun _=>E) E E E E E E E)<|gO 2 E<|jC E h33 (fun h34=>?_) fun h37=>?_
   ·refine gA 9 E<|bK h28 fun v29 hv29 h30=>?_
    cases h30
    obtain rfl:=hout12 _ rfl
    cases h7
    exact gA 4 E<|oSi hv29▸gP E E
   ·refine gA 9 E<|bK h34 fun v35 hv35 h36=>?_
    cases h36
    obtain rfl:=hout12 _ rfl
    cases h7
    exact gA 4 E<|oSi hv35▸gP E E
   refine bK h37 fun y38 hy38 h39=>gA 5 E<|Khq C (Ley hy38) E Z E E E E E<|eo_u Z (Kni hΓ (kenc:=Ldm) (agg:=false) (enc:=eB) (id:=0) s4 y38 true E E Lfr (fun _=>E) E E E E E)<|Khx [mOb (kD Ldm) false eB (mSet s4 y38 true),.box 139 (fS x5)] E<|gO 7 E ?_
   cases h39
   exact⟨_,E,⟨⟨E,E,E,E,Kfr E (Kfq (nLl hlt hb9)),tV⟩,[_],E,.inr ⟨HB.mk E,FB.mk E,Z⟩⟩⟩
  subst hgo
  exact gA 6 E<|Kgl E (dF (Int.lt_irrefl _))<|gA 4 E<|⟨_,E,⟨tV,[],E,.inl E⟩⟩
 intro a8 ha
 subst ha
 replace h7:=Kkf h7
 exact gA 7 E<|oSi h7▸gP E E
theorem Lfa{r:List Str}(h:Kzm=some r):Pure Tryz.prog 108 [] (.d (Sl eS r)):=by
 unfold Kzm at h
 exact QP Tryz.func108 E E E<|gA 7 E<|Khl hΓ (enc:=eS) [[],[107,101,121],[114,101,118,111,107,101],[106,111,105,110],[97,112,112,114,111,118,101],[114,101,110,101,119],[110,97,109,101],[116,97,103],[101,120,112,105,114,101],[103,111,110,101]] E E E E E E E E E E E E Z<|gO 4 E<|oSi h▸gP E E
theorem Lfb{s:Str}{r:Str}(h:Kzn s=some r):Pure Tryz.prog 204 [S s] (S r):=by
 unfold Kzn at h
 refine QP Tryz.func204 E E E<|gA 12 E<|jC E h (fun h1=>?_) fun h2=>gA 9 E<|oSi h2▸gP E E
 exact gA 7 E<|oSi h1▸gP E E
theorem Lfc{b:Bool}{r:Str}(h:Kzo b=some r):Pure Tryz.prog 205 [B b] (S r):=by
 unfold Kzo at h
 refine QP Tryz.func205 E E E<|gA 11 E<|jC E h (fun h1=>?_) fun h2=>gA 8 E<|oSi h2▸gP E E
 exact gA 7 E<|oSi h1▸gP E E
theorem Lfd{s:Kxx}{field:Int}{r:Str}(h:Kzp s field=some r):Pure Tryz.prog 110 [.agg (fS s),I field] (S r):=by
 unfold Kzp at h
 refine QP Tryz.func110 E E E<|gA 2 E<|Krp E E E E Z<|gO 16 E<|jC E h (fun h1=>?_) fun h4=>gA 6 E<|jC E h4 (fun h5=>?_) fun h8=>?_
 ·exact bK h1 fun y2 hy2 h3=>gA 4 E<|Khq C (Lfb hy2) E Z E E E E E<|gO 6 E<|oSi h3▸gP E E
 ·exact bK h5 fun y6 hy6 h7=>gA 4 E<|Khq C (Lfb hy6) E Z E E E E E<|gO 6 E<|oSi h7▸gP E E
 refine gA 6 E<|jC E h8 (fun h9=>?_) fun h12=>gA 6 E<|jC E h12 (fun h13=>?_) fun h16=>?_
 ·exact bK h9 fun y10 hy10 h11=>gA 4 E<|Khq C (Lfb hy10) E Z E E E E E<|gO 6 E<|oSi h11▸gP E E
 ·exact bK h13 fun y14 hy14 h15=>gA 4 E<|Khq C (Lfb hy14) E Z E E E E E<|gO 6 E<|oSi h15▸gP E E
 refine gA 6 E<|jC E h16 (fun h17=>?_) fun h20=>gA 6 E<|jC E h20 (fun h21=>?_) fun h26=>?_
 ·exact bK h17 fun y18 hy18 h19=>gA 4 E<|Khq C (Lfb hy18) E Z E E E E E<|gO 6 E<|oSi h19▸gP E E
 ·exact bK h21 fun y22 hy22 h23=>gA 4 E<|Khq C (Kxh hy22) E Z E E E E E<|bK h23 fun y24 hy24 h25=>Khq C (Lfb hy24) E Z E E E E E<|gO 6 E<|oSi h25▸gP E E
 refine gA 6 E<|jC E h26 (fun h27=>?_) fun h30=>gA 6 E<|jC E h30 (fun h31=>?_) fun h34=>?_
 ·exact bK h27 fun y28 hy28 h29=>gA 4 E<|Khq C (Kxg hy28) E Z E E E E E<|gO 6 E<|oSi h29▸gP E E
 ·exact bK h31 fun y32 hy32 h33=>gA 4 E<|Khq C (Kxg hy32) E Z E E E E E<|gO 6 E<|oSi h33▸gP E E
 exact bK h34 fun y35 hy35 h36=>gA 7 E<|Khq C (Lfc hy35) E Z E E E E E<|gO 4 E<|oSi h36▸gP E E
theorem Lfe{b:Str}{s:Str}{r:Int×Str}(h:Kzq b s=some r):EC Tryz.prog 55 [.ptr 1 0,S s] [rO 5 1 eU b,.box 90 [.pn 1,.sl 0 b.length]] fun g hp'=>g=.tup [I r.1,.d (.v .nilIface)]∧hp'=[.dead,.box 90 [.pn 1,.sl 2 r.2.length],rO 5 1 eU r.2]:=by
 unfold Kzq at h
 exact QM Tryz.func55 E Z<|Kji Z<|Kjg 0 2 [.dead,.box 90 [.pn 1,.sl 2 b.length],rO 5 1 eU b] E E E E E E<|bK h fun y1 hy1 h2=>gA 9 E<|Khp [2,1] (.tup []) [.dead,.box 90 [.pn 1,.sl 2 b.length],rO 5 1 eU b] C (Kdv hy1) E Z E E E E E E E E E E<|bK h2 fun y3 hy3 h4=>gO 10 E<|Kkv 2 [.dead,.box 90 [.pn 1,.junk],rO 5 1 eU b] E Z<|eo_s Z (nblt.1 E) (Koo hΓ (id:=2) (h2:=show Γ 5=some ⟨_,1,_,_⟩ from E) hy3 E E E E E E E E E E E)<|gO 2 E<|Krt hΓ E E E E E E E E Z<|Khx [.dead,.box 90 [.pn 1,.sl 3 y3.length],.dead,rO 5 1 eU y3] E<|Kje 3 2 [.dead,.box 90 [.pn 1,.sl 2 y3.length],rO 5 1 eU y3,.dead] E E E E E E<|gO 11 E<|Kkh<|oSi h4▸Kie hΓ [_] (.inr E) E E E E (.inr ⟨HB.mk E,E⟩)
theorem Lff{b:Str}{r:Int}(h:Kzr b=some r):EC Tryz.prog 57 [.ptr 1 0] [rO 5 1 eU b,.box 90 [.pn 1,.sl 0 b.length]] fun g hp'=>g=I r∧hp'=[rO 5 1 eU b,.box 90 [.pn 1,.sl 0 b.length]]:=by
 unfold Kzr at h
 exact QN Tryz.func57 E Z<|gA 16 E<|oSi h▸Kie hΓ [] (.inr E) E E E E (.inl E)
theorem Lfg{k:Nat}{l:List Kxx}{r:Str×Int}(h:Kzs k l=some r):Pure Tryz.prog 27 [.d (Sl Ldl l)] (.tup [S r.1,I r.2]):=by
 unfold Kzs at h
 refine QP Tryz.func27 E E E<|bK h fun y1 hy1 h2=>gA 10 E<|Khq C (Lez hy1) E Z E E E E E<|gO 9 E<|jC E h2 (fun h3=>?_) fun h4=>gA 4 E<|eo_s Z (nblt.1 E) (Kmf hΓ [1] [.d (.v (.pointer none)),.d (.v (.slice none 0 0))] (hi:=show Γ 90=some ⟨_,_,_,_⟩ from E) E ⟨.refl _,.refl _,tV⟩)<|Khx [.box 90 [.d (.v (.pointer none)),.d (.v (.slice none 0 0))]] E<|gO 2 E<|Kok 0 0 [.box 90 [.pn 0,.d (.v (.slice none 0 0))]] E E E<|Kna 0 1 5 1 [.box 90 [.pn 0,.sl 1 ([]:Str).length],rO 5 1 eU ([]:Str)] E E E Z<|gA 8 E<|bK h4 fun q8 hq8 h9=>Kgz 16 E fun hb11=>Kkj [(5,.ptr 0 0)] [.box 90 [.pn 0,.sl 1 q8.length],rO 5 1 eU q8] ?_ ?_
 ·exact gA 9 E<|oSi h3▸gP E E
 ·refine gA 1 E<|Kig l hq8 (fun i5 s6=>[(5,.ptr 0 0),(16,.d (Sl Ldl l)),(17,I (l.length:Int)),(18,I (i5:Int))]) (fun s6=>[.box 90 [.pn 0,.sl 1 s6.length],rO 5 1 eU s6]) ⟨⟨E,E,E,E,tV⟩,[],E,.inl E⟩ (fun i5 x7 s6 y15 hx12 hlt hy13=>?_) (?_)
  ·refine gA 6 E<|Kgk E (dT (Int.ofNat_lt.2 hlt))<|gA 6 E<|eo_o E (Kha hΓ (enc:=Ldl) (Kgt hx12) E E E E E (fun _=>E))<|gO 1 E<|Kro hΓ E E E Z<|Krt hΓ E E E E E E E E Z<|Khx [.box 90 [.pn 0,.sl 1 s6.length],rO 5 1 eU s6,.box 139 (fS x7)] E<|gO 3 E<|Kjm [.dead,.dead,.box 139 (fS x7)] [1,4,6,10] [13] [] hmix (by kernel_rfl) (by kernel_rfl) ⟨E,tV⟩ Z<|bK hy13 fun y16 hy16 h17=>go_E hΓ 2 E<|Kjz C (Kxg hy16) E E E E E E<|bK h17 fun y18 hy18 h19=>go_E hΓ 4 E<|Kjz C (Kxg hy18) E E E E E E<|bK h19 fun y20 hy20 h21=>Kjz C (Lfa hy20) E E E E E E<|bK h21 fun x22 hx22 h23=>go_E hΓ 2 E<|ge_q E (.inl E) (fun _ _=>Kjp (qt_p (Kha hΓ (enc:=eS) hx22 E E E E E (fun _=>E))))<|go_E hΓ 1 E<|ge_h [.box 90 [.pn 0,.sl 1 s6.length],rO 5 1 eU s6,.box 139 (fS x7),rO 9 1 eS [y16,x7.Server,y18,x22]] E E E (Kjt ⟨E,tV⟩) (Kjw (Koe hΓ (enc:=eS) [y16,x7.Server,y18,x22] E E E E E E E E E E E E E E))<|go_E hΓ 1 E<|Kjo<|bK h23 fun y24 hy24 h25=>gA 6 E<|Khq C (Lem hy24) E Z E E E E E<|gO 4 E<|bK h25 fun q29 hq29 h30=>Kgz 38 E fun hb32=>Kkj [(5,.ptr 0 0),(8,.sl 3 q29.length),(16,.d (Sl Ldl l)),(17,I (l.length:Int)),(18,I (i5:Int))] [.box 90 [.pn 0,.sl 1 s6.length],rO 5 1 eU s6,.box 139 (fS x7),rO 9 1 eS q29] ?_ ?_
   ·refine gA 1 E<|Kig y24 hq29 (fun i26 s27=>[(5,.ptr 0 0),(7,.ptr 2 0),(8,.sl 3 s27.length),(16,.d (Sl Ldl l)),(17,I (l.length:Int)),(18,I (i5:Int)),(38,.d (Sl (eN .i64) y24)),(39,I (y24.length:Int)),(40,I (i26:Int))]) (fun s27=>[.box 90 [.pn 0,.sl 1 s6.length],rO 5 1 eU s6,.box 139 (fS x7),rO 9 1 eS s27]) ⟨⟨E,E,E,E,E,E,E,E,E,tV⟩,[],E,.inl E⟩ (fun i26 x28 s27 y36 hx33 hlt hy34=>?_) (?_)
    ·refine gA 6 E<|Kgk E (dT (Int.ofNat_lt.2 hlt))<|gA 6 E<|eo_o E (Kha hΓ (enc:=(eN .i64)) (Kgt hx33) E E E E E (fun _=>E))<|bK hy34 fun y37 hy37 h38=>gO 8 E<|Khq C (Lfd hy37) E Z E E E E E<|Khl hΓ (enc:=eS) [y37] E E E E E E E E E E E E Z<|bK h38 fun y39 hy39 h40=>Khy hΓ (enc:=eS) hy39 E E E E E E E E E (fun _=>E) E E E E<|gO 8 E ?_
     cases h40
     exact⟨⟨E,E,E,E,E,E,E,E,Kfr E (Kfq (nLl hlt hb32)),tV⟩,[],E,.inl E⟩
    exact gA 6 E<|Kgl E (dF (Int.lt_irrefl _))<|gA 4 E<|⟨⟨E,E,E,E,E,tV⟩,[],E,.inl E⟩
   refine bK h30 fun y41 hy41 h42=>gA 3 E<|Kht C (Kxh hy41) E Z E E E E E<|bK h42 fun y43 hy43 h44=>eo_o E (Kia hy43 E E)<|bK h44 fun y45 hy45 h46=>Khp [1,0] (.tup [I y45.1,.d (.v .nilIface)]) [.box 90 [.pn 0,.sl 4 y45.2.length],.dead,.box 139 (fS x7),rO 9 1 eS q29,rO 5 1 eU y45.2] C (Lfe hy45) E Z E E E E E E E E E E<|Kje 4 1 [.box 90 [.pn 0,.sl 1 y45.2.length],rO 5 1 eU y45.2,.box 139 (fS x7),rO 9 1 eS q29,.dead] E E E E E E<|gO 7 E ?_
   cases h46
   exact⟨⟨E,E,E,Kfr E (Kfq (nLl hlt hb11)),tV⟩,[_,_,_],E,.inr ⟨HB.mk E,FB.mk E,Z⟩⟩
  exact gA 6 E<|Kgl E (dF (Int.lt_irrefl _))<|gA 4 E<|⟨⟨E,tV⟩,[],E,.inl E⟩
 refine bK h9 fun y47 hy47 h48=>gA 4 E<|Khp [1,0] (I y47) [.box 90 [.pn 0,.sl 1 q8.length],rO 5 1 eU q8] C (Lff hy47) E Z E E E E E E E E E E<|gO 3 E<|jC E h48 (fun h49=>?_) fun h50=>bK h50 fun y51 hy51 h52=>gA 4 E<|Khp [1,0] (S y51) [.dead,.dead] C (Kdw hy51) E Z E E E E E E E E E E<|gO 5 E<|oSi h52▸gP E E
 exact gA 8 E<|oSi h49▸gP E E
theorem Lfh{n:Int}{low:Int}{high:Int}{r:Bool}(h:Kzt n low high=some r):Pure Tryz.prog 155 [I n,I low,I high] (B r):=by
 unfold Kzt at h
 refine QP Tryz.func155 E E E<|gA 11 E<|Kgp 4 [(6,B false),(14,B ((decide ((low:Int)≤n))&&(decide ((n:Int)≤high))))] [] ?_ ?_
 ·refine Kqh E E (fun hb=>?_) (fun hb=>?_)
  ·exact gO 5 E<|⟨⟨E,Kfs E (Kij hb),tV⟩,[],E,.inl E⟩
  exact gO 5 E<|⟨⟨E,Kfs E (Kik hb),tV⟩,[],E,.inl E⟩
 exact gO 4 E<|oSi h▸gP E E
theorem Lfi{v_at:Int}{r:Bool}(h:Kzu v_at=some r):Pure Tryz.prog 206 [I v_at] (B r):=by
 unfold Kzu at h
 exact QP Tryz.func206 E E E<|bK h fun y1 hy1 h2=>gA 8 E<|Khq C (Lfh hy1) E Z E E E E E<|gO 4 E<|oSi h2▸gP E E
theorem Lfj{s:Str}{v_some:Str}{r:Bool}(h:Kzv s v_some=some r):Pure Tryz.prog 159 [S s,S v_some] (B r):=by
 unfold Kzv at h
 exact QP Tryz.func159 E E E<|bK h fun y1 hy1 h2=>gA 9 E<|Khq C (Kxa hy1) E Z E E E E E<|gO 5 E<|oSi h2▸gP E E
theorem Lfk{s:Str}{r:Bool}(h:Kzw s=some r):Pure Tryz.prog 60 [S s] (B r):=by
 unfold Kzw at h
 refine QP Tryz.func60 E E E<|bK h fun y1 hy1 h2=>gA 9 E<|Khq C (Lfh hy1) E Z E E E E E<|gO 1 E<|bK h2 fun q3 hq3 h4=>Kgp 4 [(0,S s),(2,B false),(10,B q3)] [] ?_ ?_
 ·refine Kqh E E (fun hb=>?_) (fun hb=>?_)
  ·have h5:=cT hq3 hb
   exact bK h5 fun z6 hz6 h7=>gO 1 E<|Kqf E<|eo_o E (Khd hΓ hz6 E E E E E)<|bK h7 fun y8 hy8 h9=>Kqf E<|Khq C (Lfj hy8) E Z E E E E E<|gO 2 E<|oSi h9▸⟨⟨E,E,E,tV⟩,[],E,.inl E⟩
  have h10:=cF hq3 hb
  exact gO 5 E<|oSi h10▸⟨⟨E,E,E,tV⟩,[],E,.inl E⟩
 refine gO 1 E<|bK h4 fun q11 hq11 h12=>Kgp 3 [(2,B false),(14,B q11)] [] ?_ ?_
 ·refine Kqh E E (fun hb=>?_) (fun hb=>?_)
  ·have h13:=cT hq11 hb
   exact bK h13 fun y14 hy14 h15=>gO 1 E<|Kqf E<|Khq C (Lfj hy14) E Z E E E E E<|gO 2 E<|oSi h15▸⟨⟨E,E,tV⟩,[],E,.inl E⟩
  have h16:=cF hq11 hb
  exact gO 4 E<|oSi h16▸⟨⟨E,E,tV⟩,[],E,.inl E⟩
 exact gO 4 E<|oSi h12▸gP E E
theorem Lfl{n:Int}{low:Int}{high:Int}{r:Bool}(h:Kzx n low high=some r):Pure Tryz.prog 61 [I n,I low,I high] (B r):=by
 unfold Kzx at h
 refine QP Tryz.func61 E E E<|gA 11 E<|Kgp 4 [(6,B false),(14,B ((decide ((low:Int)≤n))&&(decide ((n:Int)≤high))))] [] ?_ ?_
 ·refine Kqh E E (fun hb=>?_) (fun hb=>?_)
  ·exact gO 5 E<|⟨⟨E,Kfs E (Kij hb),tV⟩,[],E,.inl E⟩
  exact gO 5 E<|⟨⟨E,Kfs E (Kik hb),tV⟩,[],E,.inl E⟩
 exact gO 4 E<|oSi h▸gP E E
theorem Lfm{kind:Int}{r:Str}(h:Kzy kind=some r):Pure Tryz.prog 207 [I kind] (S r):=by
 unfold Kzy at h
 exact QP Tryz.func207 E E E<|gA 7 E<|Khl hΓ (enc:=eS) [[],[98,106,116,117,115,114],[98,106],[66,110,74,112,109],[98,110],[98,110,112],[98,110,109],[98,110,116],[98,110],[98,110]] E E E E E E E E E E E E Z<|bK h fun x1 hx1 h2=>gO 1 E<|eo_o E (Kha hΓ (enc:=eS) hx1 E E E E E (fun _=>E))<|gO 5 E<|oSi h2▸gP E E
theorem Lfn{s:Str}{r:Int}(h:Kzz s=some r):Pure Tryz.prog 273 [S s] (I r):=by
 unfold Kzz at h
 refine QP Tryz.func273 E E E<|bK h fun y1 hy1 h2=>gA 9 E<|Khq C (Lfk hy1) E Z E E E E E<|gO 3 E<|jC E h2 (fun h3=>?_) fun h4=>gA 8 E<|oSi h4▸gP E E
 exact gA 7 E<|oSi h3▸gP E E
theorem Lfo{s:Str}{r:Bool}(h:Laa s=some r):Pure Tryz.prog 274 [S s] (B r):=by
 unfold Laa at h
 refine QP Tryz.func274 E E E<|bK h fun y1 hy1 h2=>gA 9 E<|Khq C (Lfl hy1) E Z E E E E E<|gO 1 E<|bK h2 fun q3 hq3 h4=>Kgp 4 [(2,B false),(10,B q3)] [] ?_ ?_
 ·refine Kqh E E (fun hb=>?_) (fun hb=>?_)
  ·have h5:=cT hq3 hb
   exact bK h5 fun y6 hy6 h7=>gO 1 E<|Kqf E<|Khq C (Kxa hy6) E Z E E E E E<|gO 3 E<|oSi h7▸⟨⟨E,E,tV⟩,[],E,.inl E⟩
  have h8:=cF hq3 hb
  exact gO 5 E<|oSi h8▸⟨⟨E,E,tV⟩,[],E,.inl E⟩
 exact gO 4 E<|oSi h4▸gP E E
theorem Lfp{l:List Str}{r:Int}(h:Lab l=some r):Pure Tryz.prog 275 [.d (Sl eS l)] (I r):=by
 unfold Lab at h
 refine QP Tryz.func275 E E E<|gA 13 E<|bK h fun q4 hq4 h5=>Kgz 0 E fun hb7=>Kki (R:=fun a6=>q4=.go a6) (fun a6=>[]) (fun a6=>[]) ?_ ?_
 ·refine gA 1 E<|Kgy l hq4 (fun i1 s2=>[(0,.d (Sl eS l)),(5,.d (Sl eS l)),(6,I (l.length:Int)),(7,I (i1:Int))]) (fun s2=>[]) ⟨⟨E,E,E,E,tV⟩,[],E,.inl E⟩ (fun i1 x3 s2 y11 hx8 hlt hy9 hout10=>?_) (fun s2 hgo=>?_)
  ·refine gA 6 E<|Kgk E (dT (Int.ofNat_lt.2 hlt))<|gA 7 E<|eo_o E (Kha hΓ (enc:=eS) (Kgt hx8) E E E E E (fun _=>E))<|bK hy9 fun y12 hy12 h13=>gO 9 E<|Khq C (Lfk hy12) E Z E E E E E<|gO 3 E<|jC E h13 (fun h14=>?_) fun h17=>gA 7 E<|bK h17 fun q18 hq18 h19=>Kgp 8 [(0,.d (Sl eS l)),(5,.d (Sl eS l)),(6,I (l.length:Int)),(7,I (i1:Int)),(25,B q18)] [] ?_ ?_
   ·refine gA 9 E<|bK h14 fun v15 hv15 h16=>?_
    cases h16
    obtain rfl:=hout10 _ rfl
    cases h5
    exact gA 4 E<|oSi hv15▸gP E E
   ·refine Kqh E E (fun hb=>?_) (fun hb=>?_)
    ·have h20:=cT hq18 hb
     exact bK h20 fun x21 hx21 h22=>gO 4 E<|Kqf E<|eo_o E (Kha hΓ (enc:=eS) hx21 E E E E E (fun _=>E))<|gO 4 E<|oSi h22▸⟨⟨E,E,E,E,E,tV⟩,[],E,.inl E⟩
    have h23:=cF hq18 hb
    exact gO 9 E<|oSi h23▸⟨⟨E,E,E,E,E,tV⟩,[],E,.inl E⟩
   refine gO 2 E<|jC E h19 (fun h24=>?_) fun h27=>gA 7 E ?_
   ·refine gA 8 E<|bK h24 fun v25 hv25 h26=>?_
    cases h26
    obtain rfl:=hout10 _ rfl
    cases h5
    exact gA 4 E<|oSi hv25▸gP E E
   cases h27
   exact⟨_,E,⟨⟨E,E,E,Kfr E (Kfq (nLl hlt hb7)),tV⟩,[],E,.inl E⟩⟩
  subst hgo
  exact gA 6 E<|Kgl E (dF (Int.lt_irrefl _))<|gA 4 E<|⟨_,E,⟨tV,[],E,.inl E⟩⟩
 intro a6 ha
 subst ha
 replace h5:=Kkf h5
 exact gA 7 E<|oSi h5▸gP E E
theorem Lfq{s:Kxx}{c:Int}{r:Int}(h:Lac s c=some r):Pure Tryz.prog 208 [.agg (fS s),.d (.v (.int .i32 c))] (I r):=by
 unfold Lac at h
 refine QP Tryz.func208 E E E<|gA 2 E<|Krp E E E E Z<|bK h fun q1 hq1 h2=>gO 9 E<|Kkk (q:=q1) (fun a3=>[]) (fun a3=>[.box 139 (fS s)]) ?_ ?_
 ·refine bK hq1 fun q4 hq4 h5=>gA 8 E<|Kkj [(1,.d (.v (.int .i32 c))),(2,.ptr 0 0),(6,.d (.v (.int .i32 c))),(7,B q4)] [.box 139 (fS s)] ?_ ?_
  ·refine jC E hq4 (fun h6=>?_) fun h7=>gA 6 E<|jC E h7 (fun h8=>?_) fun h9=>?_
   ·exact gA 1 E<|oSi h6▸⟨⟨E,E,E,E,tV⟩,[],E,.inl E⟩
   ·exact gA 1 E<|oSi h8▸⟨⟨E,E,E,E,tV⟩,[],E,.inl E⟩
   refine gA 6 E<|jC E h9 (fun h10=>?_) fun h11=>gA 4 E<|oSi h11▸⟨⟨E,E,E,E,tV⟩,[],E,.inl E⟩
   exact gA 1 E<|oSi h10▸⟨⟨E,E,E,E,tV⟩,[],E,.inl E⟩
  refine gA 1 E<|jC E h5 (fun h12=>?_) fun h17=>bK h17 fun q18 hq18 h19=>gA 7 E<|Kkj [(1,.d (.v (.int .i32 c))),(2,.ptr 0 0),(6,.d (.v (.int .i32 c))),(25,B q18)] [.box 139 (fS s)] ?_ ?_
  ·refine gA 2 E<|eo_s Z (nblt.1 E) (Klf false)<|Khx [.box 139 (fS s),mOb (kI .i32) false eS ([]:List (Int×Str))] E<|gO 2 E<|eo_u Z (Kly hΓ (kv:=(kI .i32)) (agg:=false) (enc:=eS) (id:=1) ([]:List (Int×Str)) 98 s.By E E E (Kla .i32) E E E E E)<|Khx [.box 139 (fS s),mOb (kI .i32) false eS (mSet ([]:List (Int×Str)) 98 s.By)] E<|gO 2 E<|eo_u Z (Kly hΓ (kv:=(kI .i32)) (agg:=false) (enc:=eS) (id:=1) (mSet ([]:List (Int×Str)) 98 s.By) 110 s.Node E E E (Kla .i32) E E E E E)<|Khx [.box 139 (fS s),mOb (kI .i32) false eS (mSet (mSet ([]:List (Int×Str)) 98 s.By) 110 s.Node)] E<|gO 2 E<|eo_u Z (Kly hΓ (kv:=(kI .i32)) (agg:=false) (enc:=eS) (id:=1) (mSet (mSet ([]:List (Int×Str)) 98 s.By) 110 s.Node) 106 s.Join E E E (Kla .i32) E E E E E)<|Khx [.box 139 (fS s),mOb (kI .i32) false eS (mSet (mSet (mSet ([]:List (Int×Str)) 98 s.By) 110 s.Node) 106 s.Join)] E<|gO 2 E<|eo_u Z (Kly hΓ (kv:=(kI .i32)) (agg:=false) (enc:=eS) (id:=1) (mSet (mSet (mSet ([]:List (Int×Str)) 98 s.By) 110 s.Node) 106 s.Join) 109 s.Name E E E (Kla .i32) E E E E E)<|Khx [.box 139 (fS s),mOb (kI .i32) false eS (mSet (mSet (mSet (mSet ([]:List (Int×Str)) 98 s.By) 110 s.Node) 106 s.Join) 109 s.Name)] E<|gO 2 E<|eo_o E (Klj hΓ (kv:=(kI .i32)) (agg:=false) (enc:=eS) (mSet (mSet (mSet (mSet ([]:List (Int×Str)) 98 s.By) 110 s.Node) 106 s.Join) 109 s.Name) c ([]:Str) E E E E (Kla .i32) E E E E E E E)<|bK h12 fun y13 hy13 h14=>Khq C (Lfn hy13) E Z E E E E E<|gO 5 E<|bK h14 fun v15 hv15 h16=>?_
   cases h16
   cases h2
   exact gA 2 E<|oSi hv15▸gP E E
  ·refine jC E hq18 (fun h20=>?_) fun h21=>gA 4 E<|oSi h21▸⟨⟨E,E,E,E,tV⟩,[],E,.inl E⟩
   exact gA 1 E<|oSi h20▸⟨⟨E,E,E,E,tV⟩,[],E,.inl E⟩
  refine gA 1 E<|jC E h19 (fun h22=>?_) fun h29=>gA 6 E<|jC E h29 (fun h30=>?_) fun h37=>?_
  ·refine gA 2 E<|eo_s Z (nblt.1 E) (Klf false)<|Khx [.box 139 (fS s),mOb (kI .i32) false eS ([]:List (Int×Str))] E<|gO 2 E<|eo_u Z (Kly hΓ (kv:=(kI .i32)) (agg:=false) (enc:=eS) (id:=1) ([]:List (Int×Str)) 66 s.By E E E (Kla .i32) E E E E E)<|Khx [.box 139 (fS s),mOb (kI .i32) false eS (mSet ([]:List (Int×Str)) 66 s.By)] E<|gO 2 E<|eo_u Z (Kly hΓ (kv:=(kI .i32)) (agg:=false) (enc:=eS) (id:=1) (mSet ([]:List (Int×Str)) 66 s.By) 74 s.Join E E E (Kla .i32) E E E E E)<|Khx [.box 139 (fS s),mOb (kI .i32) false eS (mSet (mSet ([]:List (Int×Str)) 66 s.By) 74 s.Join)] E<|gO 2 E<|eo_o E (Klj hΓ (kv:=(kI .i32)) (agg:=false) (enc:=eS) (mSet (mSet ([]:List (Int×Str)) 66 s.By) 74 s.Join) c ([]:Str) E E E E (Kla .i32) E E E E E E E)<|gO 9 E<|jC E h22 (fun h23=>?_) fun h28=>gA 2 E<|oSi h28▸⟨_,E,⟨tV,[_],E,.inr ⟨HB.mk E,FB.mk E,Z⟩⟩⟩
   refine bK h23 fun y24 hy24 h25=>gA 3 E<|Khq C (Lfn hy24) E Z E E E E E<|gO 5 E<|bK h25 fun v26 hv26 h27=>?_
   cases h27
   cases h2
   exact gA 2 E<|oSi hv26▸gP E E
  ·refine bK h30 fun y31 hy31 h32=>gA 4 E<|Khq C (Lfo hy31) E Z E E E E E<|gO 3 E<|jC E h32 (fun h33=>?_) fun h36=>gA 2 E<|oSi h36▸⟨_,E,⟨tV,[],E,.inl E⟩⟩
   refine gA 7 E<|bK h33 fun v34 hv34 h35=>?_
   cases h35
   cases h2
   exact gA 2 E<|oSi hv34▸gP E E
  refine gA 6 E<|jC E h37 (fun h38=>?_) fun h47=>bK h47 fun q48 hq48 h49=>gA 7 E<|Kkj [(1,.d (.v (.int .i32 c))),(2,.ptr 0 0),(55,B q48)] [.box 139 (fS s)] ?_ ?_
  ·refine gA 9 E<|jC E h38 (fun h39=>?_) fun h42=>bK h42 fun y43 hy43 h44=>gA 6 E<|Khq C (Lfp hy43) E Z E E E E E<|gO 5 E<|bK h44 fun v45 hv45 h46=>?_
   ·refine gA 8 E<|bK h39 fun v40 hv40 h41=>?_
    cases h41
    cases h2
    exact gA 2 E<|oSi hv40▸gP E E
   cases h46
   cases h2
   exact gA 2 E<|oSi hv45▸gP E E
  ·refine jC E hq48 (fun h50=>?_) fun h51=>gA 4 E<|oSi h51▸⟨⟨E,E,E,tV⟩,[],E,.inl E⟩
   exact gA 1 E<|oSi h50▸⟨⟨E,E,E,tV⟩,[],E,.inl E⟩
  refine gA 1 E<|jC E h49 (fun h52=>?_) fun h59=>gA 2 E<|oSi h59▸⟨_,E,⟨tV,[],E,.inl E⟩⟩
  refine gA 2 E<|eo_s Z (nblt.1 E) (Klf false)<|Khx [.box 139 (fS s),mOb (kI .i32) false (eN .i64) ([]:List (Int×Int))] E<|gO 2 E<|eo_u Z (Kly hΓ (kv:=(kI .i32)) (agg:=false) (enc:=(eN .i64)) (id:=1) ([]:List (Int×Int)) 117 s.Until E E E (Kla .i32) E E E E E)<|Khx [.box 139 (fS s),mOb (kI .i32) false (eN .i64) (mSet ([]:List (Int×Int)) 117 s.Until)] E<|gO 2 E<|eo_u Z (Kly hΓ (kv:=(kI .i32)) (agg:=false) (enc:=(eN .i64)) (id:=1) (mSet ([]:List (Int×Int)) 117 s.Until) 115 s.Uses E E E (Kla .i32) E E E E E)<|Khx [.box 139 (fS s),mOb (kI .i32) false (eN .i64) (mSet (mSet ([]:List (Int×Int)) 117 s.Until) 115 s.Uses)] E<|gO 2 E<|eo_o E (Klj hΓ (kv:=(kI .i32)) (agg:=false) (enc:=(eN .i64)) (mSet (mSet ([]:List (Int×Int)) 117 s.Until) 115 s.Uses) c (0:Int) E E E E (Kla .i32) E E E E E E E)<|bK h52 fun y53 hy53 h54=>Khq C (Lfl hy53) E Z E E E E E<|gO 3 E<|jC E h54 (fun h55=>?_) fun h58=>gA 2 E<|oSi h58▸⟨_,E,⟨tV,[_],E,.inr ⟨HB.mk E,FB.mk E,Z⟩⟩⟩
  refine gA 7 E<|bK h55 fun v56 hv56 h57=>?_
  cases h57
  cases h2
  exact gA 2 E<|oSi hv56▸gP E E
 intro a3 ha
 subst ha
 replace h2:=Kke h2
 exact gA 7 E<|oSi h2▸gP E E
end Go.Proofs.YtfnjahjbpaoepaaGreatDoor
