import Derived.Test.YthhdojhbohfmnaaGreatDoorXGM
import Derived.Test.YthhdojhbohfmnaaGreatDoorGt
import Derived.Test.YthhdojhbohfmnaaGreatDoorStr
import Derived.Test.YthhdojhbohfmnaaGreatDoorStr9
import Derived.Test.YthhdojhbohfmnaaGreatDoorStrC
import Derived.Test.YthhdojhbohfmnaaGreatDoorStrI
import Derived.Test.YthhdojhbohfmnaaGreatDoorStrK
import Derived.Test.YthhdojhbohfmnaaGreatDoorGk57
import Derived.Test.YthhdojhbohfmnaaGreatDoorGk62
import Derived.Test.YthhdojhbohfmnaaGreatDoorGk66
import Derived.Test.YthhdojhbohfmnaaGreatDoorGk67
import Derived.Test.YthhdojhbohfmnaaGreatDoorSoALays
import Derived.Test.YthhdojhbohfmnaaGreatDoorStrK
set_option maxHeartbeats 8000000
set_option linter.all false
set_option maxRecDepth 100000
namespace Go.Proofs.YthhdojhbohfmnaaGreatDoor
open Go.Gk
theorem E.{u}{α:Sort u}{a:α}:a=a:=rfl
theorem Z{n m:Nat}(h:Nat.ble n m=true:=by exact rfl):n≤m:=nBe h
theorem C{f:FuncId}{fn:Func}(h:Tryz.prog.funcs[f]?=some fn:=by exact rfl)(h1:fn.body.isNone=false:=by exact rfl)(h2:(fn.name== "runtime.NumGoroutine")=false:=by exact rfl):Callable Tryz.prog f:=Lkz h h1 h2
theorem bK{α β:Type}{x:Option α}{f:α→Option β}{r:β}{G:Prop}(h:bi x f=some r)(k:∀ a,x=some a→f a=some r→G):G:=let⟨a,b,c⟩:=Kfv h;k a b c
theorem gK{α:Type}{c:Bool}{x:Option α}{r:α}{G:Prop}(h:gd c x=some r)(k:c=true→x=some r→G):G:=let⟨a,b⟩:=Kfw h;k a b
section
variable{F N:Nat}{Q:GPost}{fr fr':Fr}{hp:List Ob}{ks:List Kt}
theorem jC{P:Program}{t:Tmp}{x y:Code}{b:Bool}{α:Type}{u v r:α}(hb:fr.get t=some (.d (.v (.bool b))))(h:(bif b then u else v)=r)(h1:u=r→St.holds P F N Q (.code x ks) fr hp)(h2:v=r→St.holds P F N Q (.code y ks) fr hp):St.holds P F N Q (.code (.cond (.tmp t) x y) ks) fr hp:=Kfo hb (fun e=>h1 (cT h e)) fun e=>h2 (cF h e)
theorem gA(n:Nat){st st':St}(h:mrun Γ N hp n st fr=(st',fr'))(k:St.holds Tryz.prog F N Q st' fr' hp):St.holds Tryz.prog F N Q st fr hp:=go hΓ n h k
theorem gO(n:Nat){full:Array Oper}{l:List Oper}{st':St}(h:mrun Γ N hp n (.ops full l ks) fr=(st',fr'))(k:St.holds Tryz.prog F N Q st' fr' hp):EO Tryz.prog F N full l (stk Tryz.prog F N Q ks) fr hp:=Kfl hΓ n h k
theorem jD{id:Nat}{ops:Array Oper}(h:St.holds Tryz.prog F N Q (.draw ops ops.toList ks) fr hp)(hB:Region.lexB .any ops=true:=by kernel_rfl):St.holds Tryz.prog F N Q (.code (.region id ops true) ks) fr hp:=Kfr hmix hB h
theorem QN{f:FuncId}{fn:Func}{c:Code}{gs:List G}{R:G→List Ob→Prop}(hf:Tryz.prog.funcs[f]?=some fn)(hb:fn.body=some c)(hN:gs.length≤fn.ntmps)(h:St.holds Tryz.prog hp.length fn.ntmps (Ret Tryz.prog fn hp.length R) (.code c []) (Fr.of 0 gs) hp):EC Tryz.prog f gs hp R:=Kqu (Fr.of 0 gs) hf hb (Fr.of_ok gs) hN fun _=>Kfn h
theorem QM{f:FuncId}{fn:Func}{c:Code}{gs:List G}{R:G→List Ob→Prop}(hf:Tryz.prog.funcs[f]?=some fn)(hb:fn.body=some c)(hN:gs.length≤fn.ntmps)(h:St.holds Tryz.prog hp.length fn.ntmps (fun e fr hp'=>Cv hp.length fn.ntmps (fun fr2 hp2=>Ret Tryz.prog fn hp.length R e fr2 hp2) fr hp') (.code c []) (Fr.of 0 gs) hp):EC Tryz.prog f gs hp R:=Klu (Fr.of 0 gs) hf hb (Fr.of_ok gs) hN fun _=>Kfn h
theorem QP{f:FuncId}{fn:Func}{c:Code}{gs:List G}{r:G}(hf:Tryz.prog.funcs[f]?=some fn)(hb:fn.body=some c)(hN:Nat.ble gs.length fn.ntmps=true)(hr:r.bel 0=true)(h:St.holds Tryz.prog 0 fn.ntmps (fun e fr hp=>(e=.normal∨e=.ret)∧Res Tryz.prog fn fr hp r) (.code c []) (Fr.of 0 gs) []):Pure Tryz.prog f gs r:=Pure.enter (Fr.of 0 gs) hf hb (Fr.of_ok gs) hN hr (Kfn h)
theorem gP{fn:Func}{gs:List G}{g:G}(h:resAll Γ fr hp fn.results.toList=some gs)(hg:retG gs=g):(Exit.ret=.normal∨Exit.ret=.ret)∧Res Tryz.prog fn fr hp g:=Khh hΓ (.inr rfl) h hg
end
abbrev Lbt(x:Kwe):List D:=[Sl (eN .i64) x.L,.v (.int .i64 x.v_at)]
abbrev Lbu(x:Kwf):List D:=[.v (.string ⟨x.Posture.toArray⟩),Sl eS x.Approvers,.v (.int .i64 x.Need),.v (.int .i64 x.Wait),.v (.int .i64 x.Most)]
abbrev Lbv(x:Kwg):List D:=[.v (.int .i64 x.At),.v (.string ⟨x.Key.toArray⟩),.v (.string ⟨x.By.toArray⟩),.v (.int .i64 x.Kind),.v (.string ⟨x.Node.toArray⟩),.v (.string ⟨x.Posture.toArray⟩),.v (.int .i64 x.Long)]
abbrev Lbw(x:Kwh):List D:=[.v (.int .i64 x.Step),.v (.int .i64 x.Why)]
abbrev Lbx(x:Kwj):List D:=[.v (.int .i64 x.asked.At),.v (.string ⟨x.asked.Key.toArray⟩),.v (.string ⟨x.asked.By.toArray⟩),.v (.int .i64 x.asked.Kind),.v (.string ⟨x.asked.Node.toArray⟩),.v (.string ⟨x.asked.Posture.toArray⟩),.v (.int .i64 x.asked.Long),.v (.string ⟨x.access.Posture.toArray⟩),Sl eS x.access.Approvers,.v (.int .i64 x.access.Need),.v (.int .i64 x.access.Wait),.v (.int .i64 x.access.Most),Slt 9 1 eS x.yes,.v (.bool x.denied),.v (.bool x.given),.v (.int .i64 x.v_from),.v (.int .i64 x.to)]
abbrev Lby(x:Kwk):List D:=[.v (.string ⟨x.Key.toArray⟩),.v (.string ⟨x.By.toArray⟩),.v (.string ⟨x.Node.toArray⟩),.v (.string ⟨x.Posture.toArray⟩),.v (.int .i64 x.State),.v (.int .i64 x.Yes),.v (.int .i64 x.From),.v (.int .i64 x.To)]
abbrev Lbz(x:Kwl):List D:=[.v (.string ⟨x.Node.toArray⟩),.v (.string ⟨x.Posture.toArray⟩)]
abbrev Lca(x:Kwn):List D:=[.v (.string ⟨x.Request.Key.toArray⟩),.v (.string ⟨x.Request.By.toArray⟩),.v (.string ⟨x.Request.Node.toArray⟩),.v (.string ⟨x.Request.Posture.toArray⟩),.v (.int .i64 x.Request.State),.v (.int .i64 x.Request.Yes),.v (.int .i64 x.Request.From),.v (.int .i64 x.Request.To),.v (.int .i64 x.asked),.v (.int .i64 x.long),Slt 9 1 eS x.yes,.v (.bool x.denied),.v (.bool x.given)]
abbrev Lcb(x:Kwo):List D:=[.v (.int .i64 x.Kind),.v (.int .i64 x.Number),.v (.string ⟨x.Words.toArray⟩),.v (.int .i64 x.Version.1),.v (.int .i64 x.Version.2.1),.v (.int .i64 x.Version.2.2.1),.v (.int .i64 x.Version.2.2.2)]
abbrev Lcc(x:Kwp):List D:=[.v (.string ⟨x.kind.toArray⟩),.v (.int .i64 x.v_at),.v (.int .i64 x.v_end),.v (.string ⟨x.name.toArray⟩),.v (.int .i64 x.value.Kind),.v (.int .i64 x.value.Number),.v (.string ⟨x.value.Words.toArray⟩),.v (.int .i64 x.value.Version.1),.v (.int .i64 x.value.Version.2.1),.v (.int .i64 x.value.Version.2.2.1),.v (.int .i64 x.value.Version.2.2.2)]
abbrev Lcd(x:Kwq):List D:=[.v (.string ⟨x.s.toArray⟩),.v (.string ⟨x.tok.kind.toArray⟩),.v (.int .i64 x.tok.v_at),.v (.int .i64 x.tok.v_end),.v (.string ⟨x.tok.name.toArray⟩),.v (.int .i64 x.tok.value.Kind),.v (.int .i64 x.tok.value.Number),.v (.string ⟨x.tok.value.Words.toArray⟩),.v (.int .i64 x.tok.value.Version.1),.v (.int .i64 x.tok.value.Version.2.1),.v (.int .i64 x.tok.value.Version.2.2.1),.v (.int .i64 x.tok.value.Version.2.2.2),.v (.bool x.bad),.v (.int .i64 x.v_at)]
abbrev arX(l0:List (Nat×Kwj))(l1:List (Nat×Kwn)):List Ar:=arG (fB 195 Lbx) l0++(arG (fB 208 Lca) l1)
abbrev mObH(m:List (Str×Nat)):Ob:=mOb kS false (eH (some 0)) m
abbrev rO{α:Type}(t:TypeId)(z:Nat)(e:α→List D)(l:List α):Ob:=.row t z l.length (l.flatMap e)
abbrev fQ(s:Kwe):List G:=[.d (Sl (eN .i64) s.L),I s.v_at]
abbrev bg(al:BagT):Ob:=.bag al.1 (arX al.2.1 al.2.2) []
theorem Lce{x:Int}{n:Int}{r:Int}(h:Kwt x n=some r):Pure Tryz.prog 118 [I x,I n] (I r):=by
 unfold Kwt at h
 refine QP Tryz.func118 E E E<|gA 12 E<|jC E h (fun h1=>?_) fun h2=>bK h2 fun y3 hy3 h4=>gA 6 E<|eo_o E (Khg hy3 E E)<|bK h4 fun q5 hq5 h6=>gO 10 E<|Kjt [(0,I q5)] [] ?_ ?_
 ·exact gA 7 E<|oSi h1▸gP E E
 ·refine jC E hq5 (fun h7=>?_) fun h8=>gA 1 E<|oSi h8▸⟨⟨E,tV⟩,[],E,.inl E⟩
  exact gA 6 E<|oSi h7▸⟨⟨E,tV⟩,[],E,.inl E⟩
 exact gA 8 E<|oSi h6▸gP E E
theorem Lcf{s:Kwe}{n:Int}{r:Int×Kwe}(h:Kwu s n=some r):EC Tryz.prog 46 [.ptr 0 0,I n] [.box 25 (fQ s)] fun g hp'=>g=I r.1∧hp'=[.box 25 (fQ r.2)]:=by
 unfold Kwu at h
 refine QN Tryz.func46 E Z<|gA 14 E<|Ksn hΓ E E E E E E E E Z<|Khd [.box 25 [.d (Sl (eN .i64) s.L),I (wi (s.v_at+1))]] E<|gO 13 E<|jC E h (fun h1=>?_) fun h4=>gA 3 E<|jD<|bK h4 fun y5 hy5 h6=>gA 10 E<|gl_o E (Khg hy5 E E)<|Kfm hΓ 4 E<|jD<|bK h6 fun y7 hy7 h8=>gA 10 E<|gl_o E (Khf hy7 E E)<|bK h8 fun x9 hx9 h10=>Kfm hΓ 10 E<|eo_o E (Kgf hΓ (enc:=(eN .i64)) hx9 E E E E E (fun _=>E))<|bK h10 fun y11 hy11 h12=>gO 1 E<|Kgv C (Lce hy11) E Z E E E E E<|bK h12 fun y13 hy13 h14=>gO 6 E<|Kgv C (Lce hy13) E Z E E E E E<|gO 4 E<|oSi h14▸Khi hΓ [] (.inr E) E E E E (.inl E)
 exact bK h1 fun y2 hy2 h3=>gA 8 E<|Kgv C (Lce hy2) E Z E E E E E<|gO 5 E<|oSi h3▸Khi hΓ [] (.inr E) E E E E (.inl E)
theorem Lcg{s:Kwe}{n:Int}{r:Bool×Kwe}(h:Kwv s n=some r):EC Tryz.prog 44 [.ptr 0 0,I n] [.box 25 (fQ s)] fun g hp'=>g=B r.1∧hp'=[.box 25 (fQ r.2)]:=by
 unfold Kwv at h
 exact QN Tryz.func44 E Z<|bK h fun y1 hy1 h2=>gA 9 E<|Kgu [0] (I y1.1) [.box 25 (fQ y1.2)] C (Lcf hy1) E Z E E E E E E E E E E<|gO 5 E<|oSi h2▸Khi hΓ [] (.inr E) E E E E (.inl E)
theorem Lch{s:Kwe}{low:Int}{high:Int}{r:Int×Kwe}(h:Kww s low high=some r):EC Tryz.prog 15 [.ptr 0 0,I low,I high] [.box 25 (fQ s)] fun g hp'=>g=I r.1∧hp'=[.box 25 (fQ r.2)]:=by
 unfold Kww at h
 refine QN Tryz.func15 E Z<|gA 13 E<|jC E h (fun h1=>?_) fun h2=>bK h2 fun y3 hy3 h4=>gA 10 E<|Kgu [0] (I y3.1) [.box 25 (fQ y3.2)] C (Lcf hy3) E Z E E E E E E E E E E<|gO 5 E<|oSi h4▸Khi hΓ [] (.inr E) E E E E (.inl E)
 exact gA 8 E<|oSi h1▸Khi hΓ [] (.inr E) E E E E (.inl E)
theorem Lci{s:Kwe}{l:List Int}{r:Int×Kwe}(h:Kwx s l=some r):EC Tryz.prog 79 [.ptr 0 0,.d (Sl (eN .i64) l)] [.box 25 (fQ s)] fun g hp'=>g=I r.1∧hp'=[.box 25 (fQ r.2)]:=by
 unfold Kwx at h
 exact QN Tryz.func79 E Z<|bK h fun y1 hy1 h2=>gA 11 E<|Kgu [0] (I y1.1) [.box 25 (fQ y1.2)] C (Lcf hy1) E Z E E E E E E E E E E<|bK h2 fun x3 hx3 h4=>eo_o E (Kgf hΓ (enc:=(eN .i64)) hx3 E E E E E (fun _=>E))<|gO 5 E<|oSi h4▸Khi hΓ [] (.inr E) E E E E (.inl E)
theorem Lcj{s:Kwe}{l:List Str}{r:Str×Kwe}(h:Kwy s l=some r):EC Tryz.prog 17 [.ptr 0 0,.d (Sl eS l)] [.box 25 (fQ s)] fun g hp'=>g=S r.1∧hp'=[.box 25 (fQ r.2)]:=by
 unfold Kwy at h
 exact QN Tryz.func17 E Z<|bK h fun y1 hy1 h2=>gA 11 E<|Kgu [0] (I y1.1) [.box 25 (fQ y1.2)] C (Lcf hy1) E Z E E E E E E E E E E<|bK h2 fun x3 hx3 h4=>eo_o E (Kgf hΓ (enc:=eS) hx3 E E E E E (fun _=>E))<|gO 5 E<|oSi h4▸Khi hΓ [] (.inr E) E E E E (.inl E)
theorem Lck{s:Kwe}{low:Int}{high:Int}{r:Int×Kwe}(h:Kwz s low high=some r):EC Tryz.prog 90 [.ptr 0 0,I low,I high] [.box 25 (fQ s)] fun g hp'=>g=I r.1∧hp'=[.box 25 (fQ r.2)]:=by
 unfold Kwz at h
 refine QN Tryz.func90 E Z<|bK h fun y1 hy1 h2=>gA 9 E<|Kgu [0] (B y1.1) [.box 25 (fQ y1.2)] C (Lcg hy1) E Z E E E E E E E E E E<|gO 2 E<|jC E h2 (fun h3=>?_) fun h6=>bK h6 fun y7 hy7 h8=>gA 7 E<|Kgu [0] (I y7.1) [.box 25 (fQ y7.2)] C (Lch hy7) E Z E E E E E E E E E E<|gO 4 E<|oSi h8▸Khi hΓ [] (.inr E) E E E E (.inl E)
 exact gA 9 E<|Kgp hΓ (enc:=(eN .i64)) [wi (low - 1),wi (high+1),low,high,-1099511627776,1099511627776] E E E E E E E E E E E E Z<|bK h3 fun y4 hy4 h5=>Kgu [0] (I y4.1) [.box 25 (fQ y4.2)] C (Lci hy4) E Z E E E E E E E E E E<|gO 5 E<|oSi h5▸Khi hΓ [] (.inr E) E E E E (.inl E)
theorem Lcl{s:Kwe}{r:(List Kwf)×Kwe}(h:Kxa s=some r):EC Tryz.prog 57 [.ptr 0 0] [.box 25 (fQ s)] fun g hp'=>g=.sl 1 r.1.length∧hp'=[.box 25 (fQ r.2),rO 178 5 Lbu r.1]:=by
 unfold Kxa at h
 refine QM Tryz.func57 E Z<|gA 7 E<|Kgs (t:=0) 178 5 E Z<|gO 5 E<|Kgp hΓ (enc:=eS) [[114,111,111,116],[116,117,120]] E E E E E E E E E E E E Z<|gO 4 E<|bK h fun q4 hq4 h5=>Kge 7 E fun hb7=>Kjt [(0,.ptr 0 0),(3,.sl 1 q4.2.length)] [.box 25 (fQ q4.1),rO 178 5 Lbu q4.2] ?_ ?_
 ·refine gA 1 E<|Khk [[114,111,111,116],[116,117,120]] hq4 (fun i1 s2=>[(0,.ptr 0 0),(3,.sl 1 s2.2.length),(7,.d (Sl eS [[114,111,111,116],[116,117,120]])),(8,I ([[114,111,111,116],[116,117,120]].length:Int)),(9,I (i1:Int))]) (fun s2=>[.box 25 (fQ s2.1),rO 178 5 Lbu s2.2]) ⟨⟨E,E,E,E,E,tV⟩,[],E,.inl E⟩ (fun i1 x3 s2 y11 hx8 hlt hy9=>?_) (?_)
  ·refine gA 6 E<|Kfp E (dT (Int.ofNat_lt.2 hlt))<|gA 6 E<|eo_o E (Kgf hΓ (enc:=eS) (Kfy hx8) E E E E E (fun _=>E))<|bK hy9 fun y12 hy12 h13=>gO 7 E<|Kgu [0] (B y12.1) [.box 25 (fQ y12.2),rO 178 5 Lbu s2.2] C (Lcg hy12) E Z E E E E E E E E E E<|gO 3 E<|jC E h13 (fun h14=>?_) fun h27=>gA 7 E ?_
   ·refine gA 2 E<|Kgp hΓ (enc:=eS) [[97,110,110]] E E E E E E E E E E E E Z<|Kgp hΓ (enc:=eS) [[97,110,110],[98,111,98]] E E E E E E E E E E E E Z<|Kgp hΓ (enc:=eS) [[97,110,110],[98,111,98],[99,105,100]] E E E E E E E E E E E E Z<|Kgp hΓ (enc:=(eL eS)) [[[97,110,110]],[[97,110,110],[98,111,98]],[[97,110,110],[98,111,98],[99,105,100]]] E E E E E E E E E E E E Z<|bK h14 fun y15 hy15 h16=>gO 1 E<|Kgu [0] (I y15.1) [.box 25 (fQ y15.2),rO 178 5 Lbu s2.2] C (Lcf hy15) E Z E E E E E E E E E E<|bK h16 fun x17 hx17 h18=>eo_o E (Kgf hΓ (enc:=(eL eS)) hx17 E E E E E (fun _=>E))<|bK h18 fun y19 hy19 h20=>gO 12 E<|Kgu [0] (I y19.1) [.box 25 (fQ y19.2),rO 178 5 Lbu s2.2] C (Lch hy19) E Z E E E E E E E E E E<|gO 1 E<|Kgp hΓ (enc:=(eN .i64)) [5,20,100] E E E E E E E E E E E E Z<|bK h20 fun y21 hy21 h22=>Kgu [0] (I y21.1) [.box 25 (fQ y21.2),rO 178 5 Lbu s2.2] C (Lci hy21) E Z E E E E E E E E E E<|gO 1 E<|Kgp hΓ (enc:=(eN .i64)) [10,50,345686400] E E E E E E E E E E E E Z<|bK h22 fun y23 hy23 h24=>Kgu [0] (I y23.1) [.box 25 (fQ y23.2),rO 178 5 Lbu s2.2] C (Lci hy23) E Z E E E E E E E E E E<|Kdo hΓ (gs:=[S x3,.d (Sl eS x17),I y19.1,I y21.1,I y23.1]) E E E E E E E<|Kgp hΓ (enc:=Lbu) [(⟨x3,x17,y19.1,y21.1,y23.1⟩:Kwf)] E E E E E E E E E E E E Z<|bK h24 fun y25 hy25 h26=>Khe hΓ (enc:=Lbu) hy25 E E E E E E E E E (fun _=>E) E E E E<|gO 8 E ?_
    cases h26
    exact⟨⟨E,E,E,E,Keq E (Kep (nLl hlt hb7)),tV⟩,[],E,.inl E⟩
   cases h27
   exact⟨⟨E,E,E,E,Keq E (Kep (nLl hlt hb7)),tV⟩,[],E,.inl E⟩
  exact gA 6 E<|Kfq E (dF (Int.lt_irrefl _))<|gA 4 E<|⟨⟨E,E,tV⟩,[],E,.inl E⟩
 refine bK h5 fun y28 hy28 h29=>gA 5 E<|Kgu [0] (B y28.1) [.box 25 (fQ y28.2),rO 178 5 Lbu q4.2] C (Lcg hy28) E Z E E E E E E E E E E<|bK h29 fun q30 hq30 h31=>gO 2 E<|Kju [(3,.sl 1 q30.2.length)] [.box 25 (fQ q30.1),rO 178 5 Lbu q30.2] ?_ ?_
 ·refine jC E hq30 (fun h32=>?_) fun h47=>gA 1 E<|Kjp<|oSi h47▸⟨⟨E,tV⟩,[],E,.inl E⟩
  exact Kit [] [] [3,8,12,14,16,19] [] hmix (by kernel_rfl) (by kernel_rfl) trivial Z<|go_E hΓ 2 E<|Kji hΓ (enc:=eS) [[],[114,111,111,116],[122,122]] E E E E E E E E E E E E<|bK h32 fun y33 hy33 h34=>ge_h [.box 25 (fQ y33.2),rO 178 5 Lbu q4.2] E E E (Kjc tV) (Kjh [0] (S y33.1) [.box 25 (fQ y33.2),rO 178 5 Lbu q4.2] C (Lcj hy33) E E E E E E E E E E)<|Kji hΓ (enc:=eS) [[98],[97]] E E E E E E E E E E E E<|Kji hΓ (enc:=eS) [[97]] E E E E E E E E E E E E<|Kji hΓ (enc:=(eL eS)) [[],[[98],[97]],[[97]]] E E E E E E E E E E E E<|bK h34 fun y35 hy35 h36=>go_E hΓ 1 E<|ge_h [.box 25 (fQ y35.2),rO 178 5 Lbu q4.2] E E E (Kjc tV) (Kjh [0] (I y35.1) [.box 25 (fQ y35.2),rO 178 5 Lbu q4.2] C (Lcf hy35) E E E E E E E E E E)<|bK h36 fun x37 hx37 h38=>ge_q E (.inl E) (fun _ _=>Kiv (qt_p (Kgf hΓ (enc:=(eL eS)) hx37 E E E E E (fun _=>E))))<|bK h38 fun y39 hy39 h40=>go_E hΓ 2 E<|ge_h [.box 25 (fQ y39.2),rO 178 5 Lbu q4.2] E E E (Kjc tV) (Kjh [0] (I y39.1) [.box 25 (fQ y39.2),rO 178 5 Lbu q4.2] C (Lck hy39) E E E E E E E E E E)<|bK h40 fun y41 hy41 h42=>go_E hΓ 1 E<|ge_h [.box 25 (fQ y41.2),rO 178 5 Lbu q4.2] E E E (Kjc tV) (Kjh [0] (I y41.1) [.box 25 (fQ y41.2),rO 178 5 Lbu q4.2] C (Lck hy41) E E E E E E E E E E)<|bK h42 fun y43 hy43 h44=>go_E hΓ 1 E<|ge_h [.box 25 (fQ y43.2),rO 178 5 Lbu q4.2] E E E (Kjc tV) (Kjh [0] (I y43.1) [.box 25 (fQ y43.2),rO 178 5 Lbu q4.2] C (Lck hy43) E E E E E E E E E E)<|ge_q E (.inl E) (fun _ _=>Kiv (qt_p (Kjk hΓ (gs:=[S y33.1,.d (Sl eS x37),I y39.1,I y41.1,I y43.1]) E E E E E E)))<|Kji hΓ (enc:=Lbu) [(⟨y33.1,x37,y39.1,y41.1,y43.1⟩:Kwf)] E E E E E E E E E E E E<|bK h44 fun y45 hy45 h46=>ge_h [.box 25 (fQ y43.2),.dead,rO 178 5 Lbu y45] E E E (Kjc tV) (Kjf (Kim hΓ (enc:=Lbu) (id:=1) (h2:=show Γ 178=some ⟨_,5,_,_⟩ from E) hy45 E E E E E E E E (fun _=>E) E))<|go_E hΓ 1 E<|Kiu<|Kjr 2 1 [.box 25 (fQ y43.2),rO 178 5 Lbu y45,.dead] E E E E E E<|Kjp<|oSi h46▸⟨⟨E,tV⟩,[_],E,.inr ⟨HB.mk E,FB.mk E,Z⟩⟩
 exact gA 8 E<|Kjp<|oSi h31▸Khi hΓ [] (.inr E) E E E E (.inl E)
theorem Lcm{s:Kwe}{many:Int}{r:(List Kwg)×Kwe}(h:Kxb s many=some r):EC Tryz.prog 58 [.ptr 0 0,I many] [.box 25 (fQ s)] fun g hp'=>g=.sl 1 r.1.length∧hp'=[.box 25 (fQ r.2),rO 180 7 Lbv r.1]:=by
 unfold Kxb at h
 refine QM Tryz.func58 E Z<|gA 7 E<|Kgs (t:=0) 180 7 E Z<|bK h fun y1 hy1 h2=>gO 5 E<|Kgu [0] (I y1.1) [.box 25 (fQ y1.2),rO 180 7 Lbv ([]:List Kwg)] C (Lcf hy1) E Z E E E E E E E E E E<|gO 10 E<|bK h2 fun q6 hq6 h7=>gK hq6 fun hb9 h10=>?_
 replace hb9:=of_decide_eq_true hb9
 refine Kjt [(0,.ptr 0 0),(5,.sl 1 q6.2.1.length)] [.box 25 (fQ q6.1),rO 180 7 Lbv q6.2.1] ?_ ?_
 ·refine gA 1 E<|Khm h10 (fun i3 s4=>[(0,.ptr 0 0),(5,.sl 1 s4.2.1.length),(6,I s4.2.2),(11,I many),(12,I (i3:Int))]) (fun s4=>[.box 25 (fQ s4.1),rO 180 7 Lbv s4.2.1]) ⟨⟨E,E,E,E,E,tV⟩,[],E,.inl E⟩ (fun i3 s4 y14 hlt hy12=>?_) (fun hge=>?_)
  ·refine gA 6 E<|Kfp E (dT hlt)<|gA 8 E<|Kgp hΓ (enc:=eS) [[113,49],[113,49],[113,49],[113,50]] E E E E E E E E E E E E Z<|bK hy12 fun y15 hy15 h16=>Kgu [0] (S y15.1) [.box 25 (fQ y15.2),rO 180 7 Lbv s4.2.1] C (Lcj hy15) E Z E E E E E E E E E E<|gO 1 E<|Kgp hΓ (enc:=eS) [[97,110,110],[97,110,110],[98,111,98],[99,105,100],[100,97,110]] E E E E E E E E E E E E Z<|bK h16 fun y17 hy17 h18=>Kgu [0] (S y17.1) [.box 25 (fQ y17.2),rO 180 7 Lbv s4.2.1] C (Lcj hy17) E Z E E E E E E E E E E<|gO 1 E<|Kgp hΓ (enc:=(eN .i64)) [1,1,2,2,2,3,4] E E E E E E E E E E E E Z<|bK h18 fun y19 hy19 h20=>Kgu [0] (I y19.1) [.box 25 (fQ y19.2),rO 180 7 Lbv s4.2.1] C (Lci hy19) E Z E E E E E E E E E E<|Kdo hΓ (gs:=[I s4.2.2,S y15.1,S y17.1,I y19.1,S [],S [],I 0]) E E E E E E E<|Ksi hΓ E E E Z<|Ksn hΓ E E E E E E E E Z<|Khd [.box 25 (fQ y19.2),rO 180 7 Lbv s4.2.1,.box 180 [I s4.2.2,S y15.1,S y17.1,I y19.1,S [],S [],I 0]] E<|bK h20 fun q21 hq21 h22=>gO 10 E<|Kjt [(0,.ptr 0 0),(5,.sl 1 s4.2.1.length),(6,I s4.2.2),(7,.ptr 2 0),(11,I many),(12,I (i3:Int))] [.box 25 (fQ q21.1),rO 180 7 Lbv s4.2.1,.box 180 [I q21.2.At,S q21.2.Key,S q21.2.By,I q21.2.Kind,S q21.2.Node,S q21.2.Posture,I q21.2.Long]] ?_ ?_
   ·refine jC E hq21 (fun h23=>?_) fun h30=>gA 1 E<|oSi h30▸⟨⟨E,E,E,E,E,E,tV⟩,[],E,.inl E⟩
    exact gA 2 E<|Kgp hΓ (enc:=eS) [[110,97],[110,98]] E E E E E E E E E E E E Z<|bK h23 fun y24 hy24 h25=>Kgu [0] (S y24.1) [.box 25 (fQ y24.2),rO 180 7 Lbv s4.2.1,.box 180 [I s4.2.2,S y15.1,S y17.1,I y19.1,S [],S [],I 0]] C (Lcj hy24) E Z E E E E E E E E E E<|gO 1 E<|Kgp hΓ (enc:=eS) [[114,111,111,116],[114,111,111,116],[116,117,120],[122,122]] E E E E E E E E E E E E Z<|bK h25 fun y26 hy26 h27=>Kgu [0] (S y26.1) [.box 25 (fQ y26.2),rO 180 7 Lbv s4.2.1,.box 180 [I s4.2.2,S y15.1,S y17.1,I y19.1,S [],S [],I 0]] C (Lcj hy26) E Z E E E E E E E E E E<|gO 1 E<|Kgp hΓ (enc:=(eN .i64)) [5,10,30,51] E E E E E E E E E E E E Z<|bK h27 fun y28 hy28 h29=>Kgu [0] (I y28.1) [.box 25 (fQ y28.2),rO 180 7 Lbv s4.2.1,.box 180 [I s4.2.2,S y15.1,S y17.1,I y19.1,S [],S [],I 0]] C (Lci hy28) E Z E E E E E E E E E E<|gO 1 E<|Ksn hΓ E E E E E E E E Z<|Khd [.box 25 (fQ y28.2),rO 180 7 Lbv s4.2.1,.box 180 [I s4.2.2,S y15.1,S y17.1,I y19.1,S y24.1,S [],I 0]] E<|gO 1 E<|Ksn hΓ E E E E E E E E Z<|Khd [.box 25 (fQ y28.2),rO 180 7 Lbv s4.2.1,.box 180 [I s4.2.2,S y15.1,S y17.1,I y19.1,S y24.1,S y26.1,I 0]] E<|gO 1 E<|Ksn hΓ E E E E E E E E Z<|Khd [.box 25 (fQ y28.2),rO 180 7 Lbv s4.2.1,.box 180 [I s4.2.2,S y15.1,S y17.1,I y19.1,S y24.1,S y26.1,I y28.1]] E<|gO 1 E<|oSi h29▸⟨⟨E,E,E,E,E,E,tV⟩,[],E,.inl E⟩
   exact gA 5 E<|Kgp hΓ (enc:=Lbv) [q21.2] E E E E E E E E E E E E Z<|bK h22 fun y31 hy31 h32=>Khe hΓ (enc:=Lbv) hy31 E E E E E E E E E (fun _=>E) E E E E<|gO 6 E<|Kgp hΓ (enc:=(eN .i64)) [1,1,3,10,40] E E E E E E E E E E E E Z<|bK h32 fun y33 hy33 h34=>Kgu [0] (I y33.1) [.box 25 (fQ y33.2),rO 180 7 Lbv y31,.box 180 [I q21.2.At,S q21.2.Key,S q21.2.By,I q21.2.Kind,S q21.2.Node,S q21.2.Posture,I q21.2.Long]] C (Lci hy33) E Z E E E E E E E E E E<|gO 9 E<|oSi h34▸⟨⟨E,E,E,E,Keq E (Kep (by omega)),tV⟩,[_],E,.inr ⟨HB.mk E,FB.mk E,Z⟩⟩
  exact gA 6 E<|Kfq E (dF hge)<|gA 4 E<|⟨⟨E,E,tV⟩,[],E,.inl E⟩
 refine gA 8 E<|bK h7 fun q35 hq35 h36=>Kfu 3 [(0,.ptr 0 0),(5,.sl 1 q6.2.1.length),(56,B q35.2)] [.box 25 (fQ q35.1),rO 180 7 Lbv q6.2.1] ?_ ?_
 ·refine Krc E E (fun hb=>?_) (fun hb=>?_)
  ·have h37:=cT hq35 hb
   exact bK h37 fun y38 hy38 h39=>gO 1 E<|Kra E<|Kgu [0] (B y38.1) [.box 25 (fQ y38.2),rO 180 7 Lbv q6.2.1] C (Lcg hy38) E Z E E E E E E E E E E<|gO 2 E<|oSi h39▸⟨⟨E,E,E,tV⟩,[],E,.inl E⟩
  have h40:=cF hq35 hb
  exact gO 4 E<|oSi h40▸⟨⟨E,E,E,tV⟩,[],E,.inl E⟩
 refine bK h36 fun q41 hq41 h42=>gO 2 E<|Kjt [(5,.sl 1 q41.2.length)] [.box 25 (fQ q41.1),rO 180 7 Lbv q41.2] ?_ ?_
 ·refine jC E hq41 (fun h43=>?_) fun h67=>gA 1 E<|oSi h67▸⟨⟨E,tV⟩,[],E,.inl E⟩
  refine bK h43 fun y44 hy44 h45=>gA 6 E<|Kgu [0] (I y44.1) [.box 25 (fQ y44.2),rO 180 7 Lbv q6.2.1] C (Lcf hy44) E Z E E E E E E E E E E<|bK h45 fun x46 hx46 h47=>?_
  have hj48:=Khn hx46
  refine eo_o E (Kgh hΓ hx46 E E E E E E)<|bK h47 fun y49 hy49 h50=>gO 6 E<|Kgu [0] (I y49.1) [.box 25 (fQ y49.2),rO 180 7 Lbv q6.2.1] C (Lcf hy49) E Z E E E E E E E E E E<|gO 9 E<|jC E h50 (fun h51=>?_) fun h57=>gA 6 E<|jC E h57 (fun h58=>?_) fun h61=>?_
  ·refine bK h51 fun y52 hy52 h53=>gA 4 E<|Kgu [0] (I y52.1) [.box 25 (fQ y52.2),rO 180 7 Lbv q6.2.1] C (Lck hy52) E Z E E E E E E E E E E<|gO 1 E<|Kgp hΓ (enc:=eS) [[],[113,49]] E E E E E E E E E E E E Z<|bK h53 fun y54 hy54 h55=>Kgu [0] (S y54.1) [.box 25 (fQ y54.2),rO 180 7 Lbv q6.2.1] C (Lcj hy54) E Z E E E E E E E E E E<|gO 2 E<|Kgo hΓ (enc:=Lbv) (z':=(⟨y52.1,x46.Key,x46.By,x46.Kind,x46.Node,x46.Posture,x46.Long⟩:Kwg)) y44.1.toNat 0 hj48 E E E E (fun _=>E) E E E E E E Z<|Khd [.box 25 (fQ y54.2),rO 180 7 Lbv (q6.2.1.set y44.1.toNat (⟨y52.1,x46.Key,x46.By,x46.Kind,x46.Node,x46.Posture,x46.Long⟩:Kwg))] E ?_
   have hj56:=Kkp (y:=(⟨y52.1,x46.Key,x46.By,x46.Kind,x46.Node,x46.Posture,x46.Long⟩:Kwg)) hj48
   exact Kkd 5 (n':=(q6.2.1.set y44.1.toNat (⟨y52.1,x46.Key,x46.By,x46.Kind,x46.Node,x46.Posture,x46.Long⟩:Kwg)).length) E List.length_set.symm<|gO 2 E<|Kgo hΓ (enc:=Lbv) (z':=(⟨y52.1,y54.1,x46.By,x46.Kind,x46.Node,x46.Posture,x46.Long⟩:Kwg)) y44.1.toNat 1 hj56 E E E E (fun _=>E) E E E E E E Z<|Khd [.box 25 (fQ y54.2),rO 180 7 Lbv ((q6.2.1.set y44.1.toNat (⟨y52.1,x46.Key,x46.By,x46.Kind,x46.Node,x46.Posture,x46.Long⟩:Kwg)).set y44.1.toNat (⟨y52.1,y54.1,x46.By,x46.Kind,x46.Node,x46.Posture,x46.Long⟩:Kwg))] E<|Kkd 5 (n':=((q6.2.1.set y44.1.toNat (⟨y52.1,x46.Key,x46.By,x46.Kind,x46.Node,x46.Posture,x46.Long⟩:Kwg)).set y44.1.toNat (⟨y52.1,y54.1,x46.By,x46.Kind,x46.Node,x46.Posture,x46.Long⟩:Kwg)).length) E List.length_set.symm<|gO 2 E<|oSi h55▸⟨⟨E,tV⟩,[],E,.inl E⟩
  ·exact bK h58 fun y59 hy59 h60=>gA 3 E<|Kgu [0] (I y59.1) [.box 25 (fQ y59.2),rO 180 7 Lbv q6.2.1] C (Lck hy59) E Z E E E E E E E E E E<|gO 2 E<|Kgo hΓ (enc:=Lbv) (z':=(⟨x46.At,x46.Key,x46.By,y59.1,x46.Node,x46.Posture,x46.Long⟩:Kwg)) y44.1.toNat 3 hj48 E E E E (fun _=>E) E E E E E E Z<|Khd [.box 25 (fQ y59.2),rO 180 7 Lbv (q6.2.1.set y44.1.toNat (⟨x46.At,x46.Key,x46.By,y59.1,x46.Node,x46.Posture,x46.Long⟩:Kwg))] E<|Kkd 5 (n':=(q6.2.1.set y44.1.toNat (⟨x46.At,x46.Key,x46.By,y59.1,x46.Node,x46.Posture,x46.Long⟩:Kwg)).length) E List.length_set.symm<|gO 2 E<|oSi h60▸⟨⟨E,tV⟩,[],E,.inl E⟩
  refine gA 4 E<|Kgp hΓ (enc:=eS) [[],[65],[110,97]] E E E E E E E E E E E E Z<|bK h61 fun y62 hy62 h63=>Kgu [0] (S y62.1) [.box 25 (fQ y62.2),rO 180 7 Lbv q6.2.1] C (Lcj hy62) E Z E E E E E E E E E E<|bK h63 fun y64 hy64 h65=>gO 1 E<|Kgu [0] (I y64.1) [.box 25 (fQ y64.2),rO 180 7 Lbv q6.2.1] C (Lck hy64) E Z E E E E E E E E E E<|gO 2 E<|Kgo hΓ (enc:=Lbv) (z':=(⟨x46.At,x46.Key,x46.By,x46.Kind,y62.1,x46.Posture,x46.Long⟩:Kwg)) y44.1.toNat 4 hj48 E E E E (fun _=>E) E E E E E E Z<|Khd [.box 25 (fQ y64.2),rO 180 7 Lbv (q6.2.1.set y44.1.toNat (⟨x46.At,x46.Key,x46.By,x46.Kind,y62.1,x46.Posture,x46.Long⟩:Kwg))] E ?_
  have hj66:=Kkp (y:=(⟨x46.At,x46.Key,x46.By,x46.Kind,y62.1,x46.Posture,x46.Long⟩:Kwg)) hj48
  exact Kkd 5 (n':=(q6.2.1.set y44.1.toNat (⟨x46.At,x46.Key,x46.By,x46.Kind,y62.1,x46.Posture,x46.Long⟩:Kwg)).length) E List.length_set.symm<|gO 2 E<|Kgo hΓ (enc:=Lbv) (z':=(⟨x46.At,x46.Key,x46.By,x46.Kind,y62.1,x46.Posture,y64.1⟩:Kwg)) y44.1.toNat 6 hj66 E E E E (fun _=>E) E E E E E E Z<|Khd [.box 25 (fQ y64.2),rO 180 7 Lbv ((q6.2.1.set y44.1.toNat (⟨x46.At,x46.Key,x46.By,x46.Kind,y62.1,x46.Posture,x46.Long⟩:Kwg)).set y44.1.toNat (⟨x46.At,x46.Key,x46.By,x46.Kind,y62.1,x46.Posture,y64.1⟩:Kwg))] E<|Kkd 5 (n':=((q6.2.1.set y44.1.toNat (⟨x46.At,x46.Key,x46.By,x46.Kind,y62.1,x46.Posture,x46.Long⟩:Kwg)).set y44.1.toNat (⟨x46.At,x46.Key,x46.By,x46.Kind,y62.1,x46.Posture,y64.1⟩:Kwg)).length) E List.length_set.symm<|gO 2 E<|oSi h65▸⟨⟨E,tV⟩,[],E,.inl E⟩
 exact gA 8 E<|Kjp<|oSi h42▸Khi hΓ [] (.inr E) E E E E (.inl E)
theorem Lcn{s:Kwe}{r:Int×Kwe}(h:Kxc s=some r):EC Tryz.prog 18 [.ptr 0 0] [.box 25 (fQ s)] fun g hp'=>g=I r.1∧hp'=[.box 25 (fQ r.2)]:=by
 unfold Kxc at h
 exact QN Tryz.func18 E Z<|bK h fun y1 hy1 h2=>gA 9 E<|Kgu [0] (I y1.1) [.box 25 (fQ y1.2)] C (Lcf hy1) E Z E E E E E E E E E E<|bK h2 fun y3 hy3 h4=>gO 1 E<|Kgu [0] (I y3.1) [.box 25 (fQ y3.2)] C (Lcf hy3) E Z E E E E E E E E E E<|gO 1 E<|Kgp hΓ (enc:=(eN .i64)) [345686399,-1,345686400] E E E E E E E E E E E E Z<|bK h4 fun y5 hy5 h6=>Kgu [0] (I y5.1) [.box 25 (fQ y5.2)] C (Lci hy5) E Z E E E E E E E E E E<|Kgp hΓ (enc:=(eN .i64)) [0,5,20,40,60,80,120,y1.1,y3.1,y5.1] E E E E E E E E E E E E Z<|bK h6 fun y7 hy7 h8=>Kgu [0] (I y7.1) [.box 25 (fQ y7.2)] C (Lci hy7) E Z E E E E E E E E E E<|gO 4 E<|oSi h8▸Khi hΓ [] (.inr E) E E E E (.inl E)
theorem Lco{k:Nat}{s:Str}{r:Bool}(h:Kxd k s=some r):Pure Tryz.prog 116 [S s] (B r):=by
 unfold Kxd at h
 refine QP Tryz.func116 E E E<|gA 11 E<|bK h fun q4 hq4 h5=>Kjs (R:=fun a6=>q4=.inl a6) (fun a6=>[(0,S s)]) (fun a6=>[]) ?_ ?_
 ·refine gA 1 E<|Kgb hq4 (fun s2=>[(0,S s),(3,I s2)]) (fun s2=>[]) ⟨⟨E,E,tV⟩,[],E,.inl E⟩ (fun s2 y10 hy8 hout9=>?_)
  refine gA 9 E<|Kfo E (fun hb=>?_) (fun hb=>?_)
  ·have h11:=cT hy8 hb
   refine bK h11 fun c12 hc12 h13=>gA 8 E<|eo_o E (Kgg hΓ hc12 E E E E)<|gO 8 E<|Kfu 3 [(0,S s),(3,I s2),(4,.d (.v (.int .u8 (c12.toNat:Int)))),(19,B ((decide (((c12.toNat:Int):Int)≥97))&&(decide (((c12.toNat:Int):Int)≤122))))] [] ?_ ?_
   ·refine Krc E E (fun hb=>?_) (fun hb=>?_)
    ·exact gO 4 E<|⟨⟨E,E,E,Ker E (Kho hb),tV⟩,[],E,.inl E⟩
    exact gO 4 E<|⟨⟨E,E,E,Ker E (Khp hb),tV⟩,[],E,.inl E⟩
   refine gO 1 E<|Kfu 19 [(0,S s),(3,I s2),(39,B (((decide (((c12.toNat:Int):Int)≥97))&&(decide (((c12.toNat:Int):Int)≤122)))||((decide ((s2:Int)>0))&&((((decide (((c12.toNat:Int):Int)≥48))&&(decide (((c12.toNat:Int):Int)≤57)))||(((c12.toNat:Int):Int)==45))||(((c12.toNat:Int):Int)==95)))))] [] ?_ ?_
   ·refine Krc E E (fun hb=>?_) (fun hb=>?_)
    ·exact gO 20 E<|⟨⟨E,E,Ker E (or_t hb),tV⟩,[],E,.inl E⟩
    refine gO 3 E<|Kfu 15 [(0,S s),(3,I s2),(20,B false),(38,B ((decide ((s2:Int)>0))&&((((decide (((c12.toNat:Int):Int)≥48))&&(decide (((c12.toNat:Int):Int)≤57)))||(((c12.toNat:Int):Int)==45))||(((c12.toNat:Int):Int)==95))))] [] ?_ ?_
    ·refine Krc E E (fun hb=>?_) (fun hb=>?_)
     ·refine gO 3 E<|Kfu 3 [(0,S s),(3,I s2),(4,.d (.v (.int .u8 (c12.toNat:Int)))),(20,B false),(23,B true),(29,B ((decide (((c12.toNat:Int):Int)≥48))&&(decide (((c12.toNat:Int):Int)≤57))))] [] ?_ ?_
      ·refine Krc E E (fun hb=>?_) (fun hb=>?_)
       ·exact gO 4 E<|⟨⟨E,E,E,E,E,Ker E (Kho hb),tV⟩,[],E,.inl E⟩
       exact gO 4 E<|⟨⟨E,E,E,E,E,Ker E (Khp hb),tV⟩,[],E,.inl E⟩
      refine gO 1 E<|Kfu 3 [(0,S s),(3,I s2),(4,.d (.v (.int .u8 (c12.toNat:Int)))),(20,B false),(23,B true),(33,B (((decide (((c12.toNat:Int):Int)≥48))&&(decide (((c12.toNat:Int):Int)≤57)))||(((c12.toNat:Int):Int)==45)))] [] ?_ ?_
      ·refine Krc E E (fun hb=>?_) (fun hb=>?_)
       ·exact gO 4 E<|⟨⟨E,E,E,E,E,Ker E (or_t hb),tV⟩,[],E,.inl E⟩
       exact gO 4 E<|⟨⟨E,E,E,E,E,Ker E (or_f hb),tV⟩,[],E,.inl E⟩
      refine gO 1 E<|Kfu 3 [(0,S s),(3,I s2),(20,B false),(23,B true),(37,B ((((decide (((c12.toNat:Int):Int)≥48))&&(decide (((c12.toNat:Int):Int)≤57)))||(((c12.toNat:Int):Int)==45))||(((c12.toNat:Int):Int)==95)))] [] ?_ ?_
      ·refine Krc E E (fun hb=>?_) (fun hb=>?_)
       ·exact gO 4 E<|⟨⟨E,E,E,E,Ker E (or_t hb),tV⟩,[],E,.inl E⟩
       exact gO 4 E<|⟨⟨E,E,E,E,Ker E (or_f hb),tV⟩,[],E,.inl E⟩
      exact gO 2 E<|⟨⟨E,E,E,Ker E (Kho hb),tV⟩,[],E,.inl E⟩
     exact gO 16 E<|⟨⟨E,E,E,Ker E (Khp hb),tV⟩,[],E,.inl E⟩
    exact gO 2 E<|⟨⟨E,E,Ker E (or_f hb),tV⟩,[],E,.inl E⟩
   refine gO 3 E<|jC E h13 (fun h14=>?_) fun h17=>gA 8 E<|oSi h17▸⟨_,E,⟨⟨E,E,tV⟩,[],E,.inl E⟩⟩
   refine gA 8 E<|bK h14 fun v15 hv15 h16=>?_
   cases h16
   obtain rfl:=hout9 _ rfl
   cases h5
   exact gA 4 E<|oSi hv15▸gP E E
  have h18:=cF hy8 hb
  refine gA 4 E ?_
  cases h18
  obtain rfl:=hout9 _ rfl
  exact⟨_,E,⟨⟨E,tV⟩,[],E,.inl E⟩⟩
 intro a6 ha
 subst ha
 replace h5:=Kjm h5
 refine gA 6 E<|Kfu 4 [(47,B ((!((s:Str)==[]))&&(decide (((s.length:Int):Int)≤40))))] [] ?_ ?_
 ·refine Krc E E (fun hb=>?_) (fun hb=>?_)
  ·exact gO 5 E<|⟨⟨Ker E (Kho hb),tV⟩,[],E,.inl E⟩
  exact gO 5 E<|⟨⟨Ker E (Khp hb),tV⟩,[],E,.inl E⟩
 exact gO 4 E<|oSi h5▸gP E E
theorem Lcp{k:Nat}{l:List Str}{r:Int}(h:Kxe k l=some r):Pure Tryz.prog 142 [.d (Sl eS l)] (I r):=by
 unfold Kxe at h
 refine QP Tryz.func142 E E E<|gA 13 E<|bK h fun q4 hq4 h5=>Kge 0 E fun hb7=>Kjs (R:=fun a6=>q4=.go a6) (fun a6=>[]) (fun a6=>[]) ?_ ?_
 ·refine gA 1 E<|Kgd l hq4 (fun i1 s2=>[(0,.d (Sl eS l)),(5,.d (Sl eS l)),(6,I (l.length:Int)),(7,I (i1:Int))]) (fun s2=>[]) ⟨⟨E,E,E,E,tV⟩,[],E,.inl E⟩ (fun i1 x3 s2 y11 hx8 hlt hy9 hout10=>?_) (fun s2 hgo=>?_)
  ·refine gA 6 E<|Kfp E (dT (Int.ofNat_lt.2 hlt))<|gA 7 E<|eo_o E (Kgf hΓ (enc:=eS) (Kfy hx8) E E E E E (fun _=>E))<|bK hy9 fun y12 hy12 h13=>gO 9 E<|Kgv C (Lco hy12) E Z E E E E E<|gO 3 E<|jC E h13 (fun h14=>?_) fun h17=>gA 7 E<|bK h17 fun q18 hq18 h19=>Kfu 8 [(0,.d (Sl eS l)),(5,.d (Sl eS l)),(6,I (l.length:Int)),(7,I (i1:Int)),(25,B q18)] [] ?_ ?_
   ·refine gA 9 E<|bK h14 fun v15 hv15 h16=>?_
    cases h16
    obtain rfl:=hout10 _ rfl
    cases h5
    exact gA 4 E<|oSi hv15▸gP E E
   ·refine Krc E E (fun hb=>?_) (fun hb=>?_)
    ·have h20:=cT hq18 hb
     exact bK h20 fun x21 hx21 h22=>gO 4 E<|Kra E<|eo_o E (Kgf hΓ (enc:=eS) hx21 E E E E E (fun _=>E))<|gO 4 E<|oSi h22▸⟨⟨E,E,E,E,E,tV⟩,[],E,.inl E⟩
    have h23:=cF hq18 hb
    exact gO 9 E<|oSi h23▸⟨⟨E,E,E,E,E,tV⟩,[],E,.inl E⟩
   refine gO 2 E<|jC E h19 (fun h24=>?_) fun h27=>gA 7 E ?_
   ·refine gA 8 E<|bK h24 fun v25 hv25 h26=>?_
    cases h26
    obtain rfl:=hout10 _ rfl
    cases h5
    exact gA 4 E<|oSi hv25▸gP E E
   cases h27
   exact⟨_,E,⟨⟨E,E,E,Keq E (Kep (nLl hlt hb7)),tV⟩,[],E,.inl E⟩⟩
  subst hgo
  exact gA 6 E<|Kfq E (dF (Int.lt_irrefl _))<|gA 4 E<|⟨_,E,⟨tV,[],E,.inl E⟩⟩
 intro a6 ha
 subst ha
 replace h5:=Kjn h5
 exact gA 7 E<|oSi h5▸gP E E
theorem Lcq{n:Int}{low:Int}{high:Int}{r:Bool}(h:Kxf n low high=some r):Pure Tryz.prog 94 [I n,I low,I high] (B r):=by
 unfold Kxf at h
 refine QP Tryz.func94 E E E<|gA 11 E<|Kfu 4 [(6,B false),(14,B ((decide ((n:Int)<low))||(decide ((n:Int)>high))))] [] ?_ ?_
 ·refine Krc E E (fun hb=>?_) (fun hb=>?_)
  ·exact gO 5 E<|⟨⟨E,Ker E (or_t hb),tV⟩,[],E,.inl E⟩
  exact gO 5 E<|⟨⟨E,Ker E (or_f hb),tV⟩,[],E,.inl E⟩
 exact gO 4 E<|oSi h▸gP E E
theorem Lcr{k:Nat}{l:List Kwf}{r:Int}(h:Kxg k l=some r):Pure Tryz.prog 63 [.d (Sl Lbu l)] (I r):=by
 unfold Kxg at h
 refine QP Tryz.func63 E E E<|gA 13 E<|jC E h (fun h1=>?_) fun h2=>gA 10 E<|bK h2 fun q6 hq6 h7=>Kge 0 E fun hb9=>Kjs (R:=fun a8=>q6=.go a8) (fun a8=>[]) (fun a8=>[]) ?_ ?_
 ·exact gA 7 E<|oSi h1▸gP E E
 ·refine gA 1 E<|Kgd l hq6 (fun i3 s4=>[(0,.d (Sl Lbu l)),(9,.d (Sl Lbu l)),(10,I (l.length:Int)),(11,I (i3:Int))]) (fun s4=>[]) ⟨⟨E,E,E,E,tV⟩,[],E,.inl E⟩ (fun i3 x5 s4 y13 hx10 hlt hy11 hout12=>?_) (fun s4 hgo=>?_)
  ·refine gA 6 E<|Kfp E (dT (Int.ofNat_lt.2 hlt))<|gA 7 E<|eo_o E (Kgf hΓ (enc:=Lbu) (Kfy hx10) E E E E E (fun _=>E))<|gO 1 E<|Ksi hΓ E E E Z<|gO 1 E<|Ksn hΓ E E E E E E E E Z<|Khd [.box 178 [S x5.Posture,.d (Sl eS x5.Approvers),I x5.Need,I x5.Wait,I x5.Most]] E<|bK hy11 fun y14 hy14 h15=>gO 8 E<|Kgv C (Lco hy14) E Z E E E E E<|gO 4 E<|jC E h15 (fun h16=>?_) fun h19=>bK h19 fun q20 hq20 h21=>gA 1 E<|Kjt [(0,.d (Sl Lbu l)),(4,.ptr 0 0),(9,.d (Sl Lbu l)),(10,I (l.length:Int)),(11,I (i3:Int)),(21,B q20)] [.box 178 [S x5.Posture,.d (Sl eS x5.Approvers),I x5.Need,I x5.Wait,I x5.Most]] ?_ ?_
   ·refine gA 10 E<|bK h16 fun v17 hv17 h18=>?_
    cases h18
    obtain rfl:=hout12 _ rfl
    cases h7
    exact gA 4 E<|oSi hv17▸gP E E
   ·refine jD<|gA 3 E<|Kdy E E (fun hb=>?_) (fun hb=>?_)
    ·have h22:=cT hq20 hb
     exact bK h22 fun x23 hx23 h24=>Kfm hΓ 5 E<|Kes E E (Kgf hΓ (enc:=Lbu) hx23 E E E E E (fun _=>E))<|Kfm hΓ 6 E<|oSi h24▸⟨⟨E,E,E,E,E,E,tV⟩,[],E,.inl E⟩
    have h25:=cF hq20 hb
    exact Kfm hΓ 12 E<|oSi h25▸⟨⟨E,E,E,E,E,E,tV⟩,[],E,.inl E⟩
   refine gA 1 E<|jC E h21 (fun h26=>?_) fun h29=>gA 9 E<|jC E h29 (fun h30=>?_) fun h33=>?_
   ·refine gA 10 E<|bK h26 fun v27 hv27 h28=>?_
    cases h28
    obtain rfl:=hout12 _ rfl
    cases h7
    exact gA 4 E<|oSi hv27▸gP E E
   ·refine gA 10 E<|bK h30 fun v31 hv31 h32=>?_
    cases h32
    obtain rfl:=hout12 _ rfl
    cases h7
    exact gA 4 E<|oSi hv31▸gP E E
   refine bK h33 fun y34 hy34 h35=>gA 8 E<|Kgv C (Lcp hy34) E Z E E E E E<|gO 9 E<|jC E h35 (fun h36=>?_) fun h39=>bK h39 fun y40 hy40 h41=>gA 9 E<|Kgv C (Lcq hy40) E Z E E E E E<|gO 1 E<|bK h41 fun q42 hq42 h43=>Kfu 4 [(0,.d (Sl Lbu l)),(4,.ptr 0 0),(9,.d (Sl Lbu l)),(10,I (l.length:Int)),(11,I (i3:Int)),(56,B q42)] [.box 178 [S x5.Posture,.d (Sl eS x5.Approvers),I x5.Need,I x5.Wait,I x5.Most]] ?_ ?_
   ·refine gA 10 E<|bK h36 fun v37 hv37 h38=>?_
    cases h38
    obtain rfl:=hout12 _ rfl
    cases h7
    exact gA 4 E<|oSi hv37▸gP E E
   ·refine Krc E E (fun hb=>?_) (fun hb=>?_)
    ·have h44:=cT hq42 hb
     exact gO 5 E<|oSi h44▸⟨⟨E,E,E,E,E,E,tV⟩,[],E,.inl E⟩
    have h45:=cF hq42 hb
    exact bK h45 fun y46 hy46 h47=>gO 2 E<|Kra E<|Kgv C (Lcq hy46) E Z E E E E E<|gO 2 E<|oSi h47▸⟨⟨E,E,E,E,E,E,tV⟩,[],E,.inl E⟩
   refine gO 1 E<|bK h43 fun q48 hq48 h49=>Kfu 4 [(0,.d (Sl Lbu l)),(9,.d (Sl Lbu l)),(10,I (l.length:Int)),(11,I (i3:Int)),(61,B q48)] [.box 178 [S x5.Posture,.d (Sl eS x5.Approvers),I x5.Need,I x5.Wait,I x5.Most]] ?_ ?_
   ·refine Krc E E (fun hb=>?_) (fun hb=>?_)
    ·have h50:=cT hq48 hb
     exact gO 5 E<|oSi h50▸⟨⟨E,E,E,E,E,tV⟩,[],E,.inl E⟩
    have h51:=cF hq48 hb
    exact bK h51 fun y52 hy52 h53=>gO 2 E<|Kra E<|Kgv C (Lcq hy52) E Z E E E E E<|gO 2 E<|oSi h53▸⟨⟨E,E,E,E,E,tV⟩,[],E,.inl E⟩
   refine gO 2 E<|jC E h49 (fun h54=>?_) fun h57=>gA 7 E ?_
   ·refine gA 8 E<|bK h54 fun v55 hv55 h56=>?_
    cases h56
    obtain rfl:=hout12 _ rfl
    cases h7
    exact gA 4 E<|oSi hv55▸gP E E
   cases h57
   exact⟨_,E,⟨⟨E,E,E,Keq E (Kep (nLl hlt hb9)),tV⟩,[_],E,.inr ⟨HB.mk E,FB.mk E,Z⟩⟩⟩
  subst hgo
  exact gA 6 E<|Kfq E (dF (Int.lt_irrefl _))<|gA 4 E<|⟨_,E,⟨tV,[],E,.inl E⟩⟩
 intro a8 ha
 subst ha
 replace h7:=Kjn h7
 exact gA 7 E<|oSi h7▸gP E E
theorem Lcs{n:Int}{r:Bool}(h:Kxh n=some r):Pure Tryz.prog 126 [I n] (B r):=by
 unfold Kxh at h
 refine QP Tryz.func126 E E E<|gA 10 E<|Kfu 3 [(2,B false),(8,B ((decide ((n:Int)≥0))&&(decide ((n:Int)<345686400))))] [] ?_ ?_
 ·refine Krc E E (fun hb=>?_) (fun hb=>?_)
  ·exact gO 4 E<|⟨⟨E,Ker E (Kho hb),tV⟩,[],E,.inl E⟩
  exact gO 4 E<|⟨⟨E,Ker E (Khp hb),tV⟩,[],E,.inl E⟩
 exact gO 4 E<|oSi h▸gP E E
theorem Lct{k:Nat}{a:Kwg}{r:Int}(h:Kxi k a=some r):Pure Tryz.prog 143 [.agg [I a.At,S a.Key,S a.By,I a.Kind,S a.Node,S a.Posture,I a.Long]] (I r):=by
 unfold Kxi at h
 refine QP Tryz.func143 E E E<|gA 2 E<|Ksj E E E E Z<|bK h fun y1 hy1 h2=>gO 9 E<|Kgv C (Lcs hy1) E Z E E E E E<|gO 4 E<|Kfo E (fun hb=>?_) (fun hb=>?_)
 ·have h3:=cT h2 hb
  exact gA 8 E<|oSi h3▸gP E E
 have h4:=cF h2 hb
 refine bK h4 fun y5 hy5 h6=>gA 4 E<|Kgv C (Lco hy5) E Z E E E E E<|gO 2 E<|bK h6 fun q7 hq7 h8=>Kfu 5 [(1,.ptr 0 0),(18,B q7)] [.box 180 [I a.At,S a.Key,S a.By,I a.Kind,S a.Node,S a.Posture,I a.Long]] ?_ ?_
 ·refine Krc E E (fun hb=>?_) (fun hb=>?_)
  ·have h9:=cT hq7 hb
   exact gO 6 E<|oSi h9▸⟨⟨E,E,tV⟩,[],E,.inl E⟩
  have h10:=cF hq7 hb
  exact bK h10 fun y11 hy11 h12=>gO 2 E<|Kra E<|Kgv C (Lco hy11) E Z E E E E E<|gO 3 E<|oSi h12▸⟨⟨E,E,tV⟩,[],E,.inl E⟩
 refine gO 3 E<|Kfo E (fun hb=>?_) (fun hb=>?_)
 ·have h13:=cT h8 hb
  exact gA 8 E<|oSi h13▸gP E E
 have h14:=cF h8 hb
 refine bK h14 fun y15 hy15 h16=>gA 4 E<|Kgv C (Lcq hy15) E Z E E E E E<|gO 3 E<|Kfo E (fun hb=>?_) (fun hb=>?_)
 ·have h17:=cT h16 hb
  exact gA 8 E<|oSi h17▸gP E E
 have h18:=cF h16 hb
 refine gA 6 E<|Kfu 14 [(1,.ptr 0 0),(41,B (((a.Kind:Int) != 1)&&(((!((a.Node:Str)==[]))||(!((a.Posture:Str)==[])))||((a.Long:Int) != 0))))] [.box 180 [I a.At,S a.Key,S a.By,I a.Kind,S a.Node,S a.Posture,I a.Long]] ?_ ?_
 ·refine Krc E E (fun hb=>?_) (fun hb=>?_)
  ·refine gO 4 E<|Kfu 4 [(1,.ptr 0 0),(27,B true),(35,B ((!((a.Node:Str)==[]))||(!((a.Posture:Str)==[]))))] [.box 180 [I a.At,S a.Key,S a.By,I a.Kind,S a.Node,S a.Posture,I a.Long]] ?_ ?_
   ·refine Krc E E (fun hb=>?_) (fun hb=>?_)
    ·exact gO 5 E<|⟨⟨E,E,Ker E (or_t hb),tV⟩,[],E,.inl E⟩
    exact gO 5 E<|⟨⟨E,E,Ker E (or_f hb),tV⟩,[],E,.inl E⟩
   refine gO 1 E<|Kfu 4 [(1,.ptr 0 0),(27,B true),(40,B (((!((a.Node:Str)==[]))||(!((a.Posture:Str)==[])))||((a.Long:Int) != 0)))] [.box 180 [I a.At,S a.Key,S a.By,I a.Kind,S a.Node,S a.Posture,I a.Long]] ?_ ?_
   ·refine Krc E E (fun hb=>?_) (fun hb=>?_)
    ·exact gO 5 E<|⟨⟨E,E,Ker E (or_t hb),tV⟩,[],E,.inl E⟩
    exact gO 5 E<|⟨⟨E,E,Ker E (or_f hb),tV⟩,[],E,.inl E⟩
   exact gO 2 E<|⟨⟨E,Ker E (Kho hb),tV⟩,[],E,.inl E⟩
  exact gO 15 E<|⟨⟨E,Ker E (Khp hb),tV⟩,[],E,.inl E⟩
 refine gO 3 E<|jC E h18 (fun h19=>?_) fun h20=>gA 6 E<|bK h20 fun q21 hq21 h22=>Kfu 11 [(1,.ptr 0 0),(57,B q21)] [.box 180 [I a.At,S a.Key,S a.By,I a.Kind,S a.Node,S a.Posture,I a.Long]] ?_ ?_
 ·exact gA 8 E<|oSi h19▸gP E E
 ·refine Krc E E (fun hb=>?_) (fun hb=>?_)
  ·have h23:=cT hq21 hb
   refine bK h23 fun y24 hy24 h25=>gO 2 E<|Kra E<|Kgv C (Lco hy24) E Z E E E E E<|gO 2 E<|bK h25 fun q26 hq26 h27=>Kfu 5 [(1,.ptr 0 0),(46,B true),(56,B q26)] [.box 180 [I a.At,S a.Key,S a.By,I a.Kind,S a.Node,S a.Posture,I a.Long]] ?_ ?_
   ·refine Krc E E (fun hb=>?_) (fun hb=>?_)
    ·have h28:=cT hq26 hb
     exact gO 6 E<|oSi h28▸⟨⟨E,E,E,tV⟩,[],E,.inl E⟩
    have h29:=cF hq26 hb
    exact bK h29 fun y30 hy30 h31=>gO 2 E<|Kra E<|Kgv C (Lco hy30) E Z E E E E E<|gO 3 E<|oSi h31▸⟨⟨E,E,E,tV⟩,[],E,.inl E⟩
   exact gO 2 E<|oSi h27▸⟨⟨E,E,tV⟩,[],E,.inl E⟩
  have h32:=cF hq21 hb
  exact gO 12 E<|oSi h32▸⟨⟨E,E,tV⟩,[],E,.inl E⟩
 refine gO 3 E<|jC E h22 (fun h33=>?_) fun h34=>gA 6 E<|bK h34 fun q35 hq35 h36=>Kfu 4 [(66,B q35)] [.box 180 [I a.At,S a.Key,S a.By,I a.Kind,S a.Node,S a.Posture,I a.Long]] ?_ ?_
 ·exact gA 8 E<|oSi h33▸gP E E
 ·refine Krc E E (fun hb=>?_) (fun hb=>?_)
  ·have h37:=cT hq35 hb
   exact bK h37 fun y38 hy38 h39=>gO 2 E<|Kra E<|Kgv C (Lcq hy38) E Z E E E E E<|gO 2 E<|oSi h39▸⟨⟨E,tV⟩,[],E,.inl E⟩
  have h40:=cF hq35 hb
  exact gO 5 E<|oSi h40▸⟨⟨E,tV⟩,[],E,.inl E⟩
 refine gO 3 E<|jC E h36 (fun h41=>?_) fun h42=>gA 9 E<|oSi h42▸gP E E
 exact gA 8 E<|oSi h41▸gP E E
theorem Lcu{x:Int}{r:Bool}(h:Kxj x=some r):Pure Tryz.prog 192 [I x] (B r):=by
 unfold Kxj at h
 exact QP Tryz.func192 E E E<|gA 14 E<|oSi h▸gP E E
theorem Lcv{x:Int}{y:Int}{r:Int}(h:Kxk x y=some r):Pure Tryz.prog 130 [I x,I y] (I r):=by
 unfold Kxk at h
 refine QP Tryz.func130 E E E<|bK h fun y1 hy1 h2=>gA 8 E<|Kgv C (Lcu hy1) E Z E E E E E<|bK h2 fun y3 hy3 h4=>gO 6 E<|Kgv C (Lcu hy3) E Z E E E E E<|gO 9 E<|jC E h4 (fun h5=>?_) fun h8=>gA 8 E<|jC E h8 (fun h9=>?_) fun h10=>?_
 ·refine gA 6 E<|jC E h5 (fun h6=>?_) fun h7=>gA 9 E<|oSi h7▸gP E E
  exact gA 8 E<|oSi h6▸gP E E
 ·exact gA 7 E<|oSi h9▸gP E E
 refine gA 10 E<|jC E h10 (fun h11=>?_) fun h12=>gA 10 E<|jC E h12 (fun h13=>?_) fun h14=>?_
 ·exact gA 7 E<|oSi h11▸gP E E
 ·exact gA 7 E<|oSi h13▸gP E E
 exact gA 8 E<|oSi h14▸gP E E
theorem Lcw{vals:List Int}{r:Int}(h:Kxl vals=some r):Pure Tryz.prog 129 [.d (Sl (eN .i64) vals)] (I r):=by
 unfold Kxl at h
 refine QP Tryz.func129 E E E<|gA 18 E<|bK h fun q4 hq4 h5=>Kge 6 E fun hb7=>Kjs (R:=fun a6=>q4=.go a6) (fun a6=>[(3,I 0)]) (fun a6=>[]) ?_ ?_
 ·refine gA 1 E<|Kgd vals hq4 (fun i1 s2=>[(3,I 0),(6,.d (Sl (eN .i64) vals)),(7,I (vals.length:Int)),(8,I (i1:Int))]) (fun s2=>[]) ⟨⟨E,E,E,E,tV⟩,[],E,.inl E⟩ (fun i1 x3 s2 y11 hx8 hlt hy9 hout10=>?_) (fun s2 hgo=>?_)
  ·refine gA 6 E<|Kfp E (dT (Int.ofNat_lt.2 hlt))<|gA 6 E<|eo_o E (Kgf hΓ (enc:=(eN .i64)) (Kfy hx8) E E E E E (fun _=>E))<|gO 11 E<|jC E hy9 (fun h12=>?_) fun h15=>gA 7 E ?_
   ·refine gA 9 E<|bK h12 fun v13 hv13 h14=>?_
    cases h14
    obtain rfl:=hout10 _ rfl
    cases h5
    exact gA 4 E<|oSi hv13▸gP E E
   cases h15
   exact⟨_,E,⟨⟨E,E,E,Keq E (Kep (nLl hlt hb7)),tV⟩,[],E,.inl E⟩⟩
  subst hgo
  exact gA 6 E<|Kfq E (dF (Int.lt_irrefl _))<|gA 4 E<|⟨_,E,⟨⟨E,tV⟩,[],E,.inl E⟩⟩
 intro a6 ha
 subst ha
 replace h5:=Kjn h5
 exact gA 8 E<|oSi h5▸gP E E
theorem Lcx{a:Kwg}{b:Kwg}{r:Int}(h:Kxm a b=some r):Pure Tryz.prog 144 [.agg [I a.At,S a.Key,S a.By,I a.Kind,S a.Node,S a.Posture,I a.Long],.agg [I b.At,S b.Key,S b.By,I b.Kind,S b.Node,S b.Posture,I b.Long]] (I r):=by
 unfold Kxm at h
 exact QP Tryz.func144 E E E<|gA 2 E<|Ksj E E E E Z<|Ksj E E E E Z<|gO 4 E<|jD<|bK h fun y1 hy1 h2=>gA 4 E<|Kgw C (Lcv hy1) E E E E E E<|bK h2 fun y3 hy3 h4=>Kfm hΓ 4 E<|Kgw C (Kuo hy3) E E E E E E<|bK h4 fun y5 hy5 h6=>Kfm hΓ 4 E<|Kgw C (Kuo hy5) E E E E E E<|Kgq hΓ (enc:=(eN .i64)) [y1,y3,y5] E E E E E E E E E E E E<|bK h6 fun y7 hy7 h8=>Kgw C (Lcw hy7) E E E E E E<|Kfm hΓ 4 E<|oSi h8▸gP E E
theorem Lcy{k:Nat}{l:List Kwg}{r:Int}(h:Kxn k l=some r):Pure Tryz.prog 65 [.d (Sl Lbv l)] (I r):=by
 unfold Kxn at h
 refine QP Tryz.func65 E E E<|gA 13 E<|jC E h (fun h1=>?_) fun h2=>gA 10 E<|bK h2 fun q6 hq6 h7=>Kge 0 E fun hb9=>Kjs (R:=fun a8=>q6=.go a8) (fun a8=>[]) (fun a8=>[]) ?_ ?_
 ·exact gA 7 E<|oSi h1▸gP E E
 ·refine gA 1 E<|Kgd l hq6 (fun i3 s4=>[(0,.d (Sl Lbv l)),(9,.d (Sl Lbv l)),(10,I (l.length:Int)),(11,I (i3:Int))]) (fun s4=>[]) ⟨⟨E,E,E,E,tV⟩,[],E,.inl E⟩ (fun i3 x5 s4 y13 hx10 hlt hy11 hout12=>?_) (fun s4 hgo=>?_)
  ·refine gA 6 E<|Kfp E (dT (Int.ofNat_lt.2 hlt))<|gA 7 E<|eo_o E (Kgf hΓ (enc:=Lbv) (Kfy hx10) E E E E E (fun _=>E))<|gO 1 E<|Ksi hΓ E E E Z<|gO 1 E<|Ksn hΓ E E E E E E E E Z<|Khd [.box 180 [I x5.At,S x5.Key,S x5.By,I x5.Kind,S x5.Node,S x5.Posture,I x5.Long]] E<|bK hy11 fun y14 hy14 h15=>gO 6 E<|Kgv C (Lct hy14) E Z E E E E E<|gO 9 E<|jC E h15 (fun h16=>?_) fun h19=>bK h19 fun q20 hq20 h21=>gA 3 E<|Kjt [(0,.d (Sl Lbv l)),(9,.d (Sl Lbv l)),(10,I (l.length:Int)),(11,I (i3:Int)),(32,B q20)] [.box 180 [I x5.At,S x5.Key,S x5.By,I x5.Kind,S x5.Node,S x5.Posture,I x5.Long]] ?_ ?_
   ·refine gA 10 E<|bK h16 fun v17 hv17 h18=>?_
    cases h18
    obtain rfl:=hout12 _ rfl
    cases h7
    exact gA 4 E<|oSi hv17▸gP E E
   ·refine jD<|gA 3 E<|Kdy E E (fun hb=>?_) (fun hb=>?_)
    ·have h22:=cT hq20 hb
     exact bK h22 fun x23 hx23 h24=>Kfm hΓ 3 E<|Kes E E (Kgf hΓ (enc:=Lbv) hx23 E E E E E (fun _=>E))<|bK h24 fun y25 hy25 h26=>Kfm hΓ 2 E<|Kgx C (Lcx hy25) E E E E E E E<|Kfm hΓ 3 E<|oSi h26▸⟨⟨E,E,E,E,E,tV⟩,[],E,.inl E⟩
    have h27:=cF hq20 hb
    exact Kfm hΓ 10 E<|oSi h27▸⟨⟨E,E,E,E,E,tV⟩,[],E,.inl E⟩
   refine gA 1 E<|jC E h21 (fun h28=>?_) fun h31=>gA 7 E ?_
   ·refine gA 8 E<|bK h28 fun v29 hv29 h30=>?_
    cases h30
    obtain rfl:=hout12 _ rfl
    cases h7
    exact gA 4 E<|oSi hv29▸gP E E
   cases h31
   exact⟨_,E,⟨⟨E,E,E,Keq E (Kep (nLl hlt hb9)),tV⟩,[_],E,.inr ⟨HB.mk E,FB.mk E,Z⟩⟩⟩
  subst hgo
  exact gA 6 E<|Kfq E (dF (Int.lt_irrefl _))<|gA 4 E<|⟨_,E,⟨tV,[],E,.inl E⟩⟩
 intro a8 ha
 subst ha
 replace h7:=Kjn h7
 exact gA 7 E<|oSi h7▸gP E E
theorem Lcz{k:Nat}{v_r:List Kwf}{l:List Kwg}{r:Int}(h:Kxo k v_r l=some r):Pure Tryz.prog 133 [.d (Sl Lbu v_r),.d (Sl Lbv l)] (I r):=by
 unfold Kxo at h
 refine QP Tryz.func133 E E E<|bK h fun y1 hy1 h2=>gA 9 E<|Kgv C (Lcr hy1) E Z E E E E E<|gO 9 E<|jC E h2 (fun h3=>?_) fun h4=>bK h4 fun y5 hy5 h6=>gA 5 E<|Kgv C (Lcy hy5) E Z E E E E E<|gO 4 E<|oSi h6▸gP E E
 exact gA 8 E<|oSi h3▸gP E E
theorem Lda{x:Kwf}{x2:Kwg}{r:Bool}(h:Kxp x x2=some r):EC Tryz.prog 244 [.agg [S x.Posture,.d (Sl eS x.Approvers),I x.Need,I x.Wait,I x.Most],.ptr 0 0] [.box 180 [I x2.At,S x2.Key,S x2.By,I x2.Kind,S x2.Node,S x2.Posture,I x2.Long]] fun g hp'=>g=B r∧hp'=[.box 180 [I x2.At,S x2.Key,S x2.By,I x2.Kind,S x2.Node,S x2.Posture,I x2.Long]]:=by
 unfold Kxp at h
 exact QN Tryz.func244 E Z<|gA 2 E<|Ksj E E E E Z<|gO 14 E<|oSi h▸Khi hΓ [_] (.inr E) E E E E (.inr ⟨HB.mk E,E⟩)
theorem Ldb{s:List Kwf}{f:Kwg}{r:Int}(h:Kxq s f=some r):EC Tryz.prog 243 [.d (Sl Lbu s),.fn (.func 244) [] [.ptr 0 0]] [.box 180 [I f.At,S f.Key,S f.By,I f.Kind,S f.Node,S f.Posture,I f.Long]] fun g hp'=>g=I r∧hp'=[.box 180 [I f.At,S f.Key,S f.By,I f.Kind,S f.Node,S f.Posture,I f.Long]]:=by
 unfold Kxq at h
 refine QN Tryz.func243 E Z<|gA 13 E<|bK h fun q4 hq4 h5=>Kge 0 E fun hb7=>Kjs (R:=fun a6=>q4=.go a6) (fun a6=>[]) (fun a6=>[.box 180 [I f.At,S f.Key,S f.By,I f.Kind,S f.Node,S f.Posture,I f.Long]]) ?_ ?_
 ·refine gA 1 E<|Kgd s hq4 (fun i1 s2=>[(0,.d (Sl Lbu s)),(1,.fn (.func 244) [] [.ptr 0 0]),(7,I (s.length:Int)),(8,I (i1:Int))]) (fun s2=>[.box 180 [I f.At,S f.Key,S f.By,I f.Kind,S f.Node,S f.Posture,I f.Long]]) ⟨⟨E,E,E,E,tV⟩,[],E,.inl E⟩ (fun i1 x3 s2 y11 hx8 hlt hy9 hout10=>?_) (fun s2 hgo=>?_)
  ·refine gA 6 E<|Kfp E (dT (Int.ofNat_lt.2 hlt))<|gA 15 E<|eo_o E (Kgf hΓ (enc:=Lbu) (Kfy hx8) E E E E E (fun _=>E))<|bK hy9 fun y12 hy12 h13=>gO 1 E<|Kgu [0] (B y12) [.box 180 [I f.At,S f.Key,S f.By,I f.Kind,S f.Node,S f.Posture,I f.Long]] C (Lda hy12) E Z E E E E E E E E E E<|gO 2 E<|jC E h13 (fun h14=>?_) fun h17=>gA 7 E ?_
   ·refine gA 9 E<|bK h14 fun v15 hv15 h16=>?_
    cases h16
    obtain rfl:=hout10 _ rfl
    cases h5
    exact gA 4 E<|oSi hv15▸Khi hΓ [] (.inr E) E E E E (.inl E)
   cases h17
   exact⟨_,E,⟨⟨E,E,E,Keq E (Kep (nLl hlt hb7)),tV⟩,[],E,.inl E⟩⟩
  subst hgo
  exact gA 6 E<|Kfq E (dF (Int.lt_irrefl _))<|gA 4 E<|⟨_,E,⟨tV,[],E,.inl E⟩⟩
 intro a6 ha
 subst ha
 replace h5:=Kjn h5
 exact gA 7 E<|oSi h5▸Khi hΓ [] (.inr E) E E E E (.inl E)
theorem Ldc{b:Kwi}{q:Nat}{a:Kwg}{al:BagT}{r:Int×Kwi×BagT}(h:Kxr b q a al=some r):EC Tryz.prog 194 [.ptr 1 0,.d (.hd (some 0) q),.agg [I a.At,S a.Key,S a.By,I a.Kind,S a.Node,S a.Posture,I a.Long]] [mObH b.list,.box 186 [.d (Sl Lbu b.access),.map 0],bg al] fun g hp'=>g=I r.1∧hp'=[mObH r.2.1.list,.box 186 [.d (Sl Lbu r.2.1.access),.map 0],bg r.2.2]:=by
 unfold Kxr at h
 refine QM Tryz.func194 E Z<|gA 2 E<|Ksj E E E E Z<|gO 7 E<|eo_o E ((Kmy hΓ E E E E).2)<|gO 2 E<|jC E h (fun h1=>?_) fun h2=>bK h2 fun y3 hy3 h4=>gA 9 E<|Kgu [3] (I y3) [mObH b.list,.box 186 [.d (Sl Lbu b.access),.map 0],bg al,.box 180 [I a.At,S a.Key,S a.By,I a.Kind,S a.Node,S a.Posture,I a.Long]] C (Ldb hy3) E Z E E E E E E E E E E<|gO 10 E<|jC E h4 (fun h5=>?_) fun h6=>?_
 ·exact gA 7 E<|Kjp<|oSi h1▸Khi hΓ [_] (.inr E) E E E E (.inr ⟨HB.mk E,E⟩)
 ·exact gA 7 E<|Kjp<|oSi h5▸Khi hΓ [_] (.inr E) E E E E (.inr ⟨HB.mk E,E⟩)
 refine gA 4 E<|jD<|bK h6 fun x7 hx7 h8=>gA 7 E<|gl_o E (Kgf hΓ (enc:=Lbu) hx7 E E E E E (fun _=>E))<|Kfm hΓ 5 E<|jC E h8 (fun h9=>?_) fun h10=>gA 3 E<|Kit [.dead,.box 186 [.d (Sl Lbu b.access),.map 0],.dead,.box 180 [I a.At,S a.Key,S a.By,I a.Kind,S a.Node,S a.Posture,I a.Long]] [3,5,6,10] [15,16] [] hmix (by kernel_rfl) (by kernel_rfl) ⟨E,E,tV⟩ Z<|bK h10 fun x11 hx11 h12=>go_E hΓ 12 E<|ge_q E (.inl E) (fun _ _=>Kiv (qt_p (Kgf hΓ (enc:=Lbu) hx11 E E E E E (fun _=>E))))<|go_E hΓ 1 E<|ge_q E (.inl E) (fun _ _=>Kiv (qt_p (Kme (Kkh hΓ [12] (gs:=[I a.At,S a.Key,S a.By,I a.Kind,S a.Node,S a.Posture,I a.Long,S x11.Posture,.d (Sl eS x11.Approvers),I x11.Need,I x11.Wait,I x11.Most,.d (.v (.slice none 0 0)),B false,B false,I 0,I 0]) E E E E E E) (g':=.agg [I a.At,S a.Key,S a.By,I a.Kind,S a.Node,S a.Posture,I a.Long,S x11.Posture,.d (Sl eS x11.Approvers),I x11.Need,I x11.Wait,I x11.Most,.d (Slt 9 1 eS (1,[])),B false,B false,I 0,I 0]) (G.Le.agg ⟨.refl _,.refl _,.refl _,.refl _,.refl _,.refl _,.refl _,.refl _,.refl _,.refl _,.refl _,.refl _,G.Le.tagN,.refl _,.refl _,.refl _,.refl _,tV⟩))))<|ge_h [mObH b.list,.box 186 [.d (Sl Lbu b.access),.map 0],bg al,.box 180 [I a.At,S a.Key,S a.By,I a.Kind,S a.Node,S a.Posture,I a.Long],.box 195 [I a.At,S a.Key,S a.By,I a.Kind,S a.Node,S a.Posture,I a.Long,S x11.Posture,.d (Sl eS x11.Approvers),I x11.Need,I x11.Wait,I x11.Most,.d (Slt 9 1 eS (1,[])),B false,B false,I 0,I 0]] E E E (Kjc ⟨E,E,tV⟩) (Kjf (Kjj E E E))<|Kja [mObH (mSet b.list a.Key (al.1.length+1)),.box 186 [.d (Sl Lbu b.access),.map 0],.bag (al.1++[false]) (arX ((al.1.length,(⟨a,x11,(1,[]),false,false,0,0⟩:Kwj)) :: al.2.1) al.2.2) [],.box 180 [I a.At,S a.Key,S a.By,I a.Kind,S a.Node,S a.Posture,I a.Long],.dead] E E (Kjc ⟨E,E,tV⟩) (Kjg (Klq (Kmn (hp2:=[mObH b.list,.box 186 [.d (Sl Lbu b.access),.map 0],.bag (al.1++[false]) (arX ((al.1.length,(⟨a,x11,(1,[]),false,false,0,0⟩:Kwj)) :: al.2.1) al.2.2) [],.box 180 [I a.At,S a.Key,S a.By,I a.Kind,S a.Node,S a.Posture,I a.Long],.dead]) (bg:=2) (id:=4) (a:=(fB 195 Lbx) al.1.length (⟨a,x11,(1,[]),false,false,0,0⟩:Kwj)) [(44,some 0)] ⟨E,tV⟩ E E ⟨E,E⟩ E E (Kmr _ Kmq) E E) (Klc hΓ (kv:=kS) (agg:=false) (enc:=(eH (some 0))) (id:=0) b.list a.Key (al.1.length+1) E E E Kks E E E E E) Z))<|Kiu<|gA 7 E<|Kjp<|oSi h12▸Khi hΓ [_,_] (.inr E) E E E E (.inr ⟨HB.mk E,E⟩)
 exact gA 7 E<|Kjp<|oSi h9▸Khi hΓ [_] (.inr E) E E E E (.inr ⟨HB.mk E,E⟩)
theorem Ldd{s:List Str}{v:Str}{r:Int}(h:Kxs s v=some r):Pure Tryz.prog 172 [.d (Sl eS s),S v] (I r):=by
 unfold Kxs at h
 refine QP Tryz.func172 E E E<|gA 13 E<|bK h fun q4 hq4 h5=>Kge 0 E fun hb7=>Kjs (R:=fun a6=>q4=.go a6) (fun a6=>[]) (fun a6=>[]) ?_ ?_
 ·refine gA 1 E<|Kgd s hq4 (fun i1 s2=>[(0,.d (Sl eS s)),(1,S v),(7,I (s.length:Int)),(8,I (i1:Int))]) (fun s2=>[]) ⟨⟨E,E,E,E,tV⟩,[],E,.inl E⟩ (fun i1 x3 s2 y11 hx8 hlt hy9 hout10=>?_) (fun s2 hgo=>?_)
  ·refine gA 6 E<|Kfp E (dT (Int.ofNat_lt.2 hlt))<|gA 15 E<|eo_o E (Kgf hΓ (enc:=eS) (Kfy hx8) E E E E E (fun _=>E))<|gO 4 E<|jC E hy9 (fun h12=>?_) fun h15=>gA 7 E ?_
   ·refine gA 9 E<|bK h12 fun v13 hv13 h14=>?_
    cases h14
    obtain rfl:=hout10 _ rfl
    cases h5
    exact gA 4 E<|oSi hv13▸gP E E
   cases h15
   exact⟨_,E,⟨⟨E,E,E,Keq E (Kep (nLl hlt hb7)),tV⟩,[],E,.inl E⟩⟩
  subst hgo
  exact gA 6 E<|Kfq E (dF (Int.lt_irrefl _))<|gA 4 E<|⟨_,E,⟨tV,[],E,.inl E⟩⟩
 intro a6 ha
 subst ha
 replace h5:=Kjn h5
 exact gA 7 E<|oSi h5▸gP E E
theorem Lde{s:List Str}{v:Str}{r:Bool}(h:Kxt s v=some r):Pure Tryz.prog 227 [.d (Sl eS s),S v] (B r):=by
 unfold Kxt at h
 exact QP Tryz.func227 E E E<|bK h fun y1 hy1 h2=>gA 9 E<|Kgv C (Ldd hy1) E Z E E E E E<|gO 5 E<|oSi h2▸gP E E
theorem Ldf{q:Nat}{v_by:Str}{al:BagT}{r:Bool}(h:Kxu q v_by al=some r):EC Tryz.prog 195 [.d (.hd (some 0) q),S v_by] [bg al] fun g hp'=>g=B r∧hp'=[bg al]:=by
 unfold Kxu at h
 exact QN Tryz.func195 E Z<|gK h fun hg2 h1=>gA 8 E<|eo_o E (Knc hg2 E)<|eo_o E (Knd hΓ hg2 E E E E E E)<|eo_o E (Knd hΓ hg2 E E E E E E)<|bK h1 fun m3 hm3 h4=>eo_o E (Kne hΓ (enc:=Lbx) (bg:=0) m3 E E (ArU.l _ (Kmp (fun _ _=>E) hm3 m3)) E (g:=.d (Sl eS m3.access.Approvers)) E E)<|bK h4 fun y5 hy5 h6=>gO 1 E<|Kgv C (Lde hy5) E Z E E E E E<|gO 4 E<|oSi h6▸Khi hΓ [] (.inr E) E E E E (.inl E)
theorem Ldg{q:Nat}{v_at:Int}{al:BagT}{r:Bool}(h:Kxv q v_at al=some r):EC Tryz.prog 197 [.d (.hd (some 0) q),I v_at] [bg al] fun g hp'=>g=B r∧hp'=[bg al]:=by
 unfold Kxv at h
 refine QN Tryz.func197 E Z<|bK h fun q1 hq1 h2=>gA 6 E<|Kjt [(4,B q1)] [bg al] ?_ ?_
 ·refine jD<|gK hq1 fun hg4 h3=>gA 1 E<|gl_o E (Knc hg4 E)<|gl_o E (Knd hΓ hg4 E E E E E E)<|bK h3 fun m5 hm5 h6=>gl_o E (Kne hΓ (enc:=Lbx) (bg:=0) m5 E E (ArU.l _ (Kmp (fun _ _=>E) hm5 m5)) E (g:=B m5.denied) E E)<|Kfm hΓ 2 E<|Kdy E E (fun hb=>?_) (fun hb=>?_)
  ·have h7:=cT h6 hb
   refine gK h7 fun hg9 h8=>Kfm hΓ 1 E<|Kes E E (Knc hg9 E)<|Kes E E (Knd hΓ hg9 E E E E E E)<|bK h8 fun m10 hm10 h11=>Kes E E (Kne hΓ (enc:=Lbx) (bg:=0) m10 E E (ArU.l _ (Kmp (fun _ _=>E) hm10 m10)) E (g:=B m10.given) E E)<|Kfm hΓ 3 E<|Kdy E E (fun hb=>?_) (fun hb=>?_)
   ·have h12:=cT h11 hb
    exact gK h12 fun hg14 h13=>Kfm hΓ 2 E<|Kes E E (Knc hg14 E)<|Kes E E (Knd hΓ hg14 E E E E E E)<|Kes E E (Knd hΓ hg14 E E E E E E)<|bK h13 fun m15 hm15 h16=>Kes E E (Kne hΓ (enc:=Lbx) (bg:=0) m15 E E (ArU.l _ (Kmp (fun _ _=>E) hm15 m15)) E (g:=I m15.asked.At) E E)<|gK h16 fun hg18 h17=>Kfm hΓ 1 E<|Kes E E (Knc hg18 E)<|Kes E E (Knd hΓ hg18 E E E E E E)<|Kes E E (Knd hΓ hg18 E E E E E E)<|bK h17 fun m19 hm19 h20=>Kes E E (Kne hΓ (enc:=Lbx) (bg:=0) m19 E E (ArU.l _ (Kmp (fun _ _=>E) hm19 m19)) E (g:=I m19.access.Wait) E E)<|Kfm hΓ 5 E<|oSi h20▸⟨⟨E,tV⟩,[],E,.inl E⟩
   have h21:=cF h11 hb
   exact Kfm hΓ 16 E<|oSi h21▸⟨⟨E,tV⟩,[],E,.inl E⟩
  have h22:=cF h6 hb
  exact Kfm hΓ 23 E<|oSi h22▸⟨⟨E,tV⟩,[],E,.inl E⟩
 exact gA 2 E<|oSi h2▸Khi hΓ [] (.inr E) E E E E (.inl E)
theorem Ldh{q:Nat}{a:Kwg}{al:BagT}{r:Int×BagT}(h:Kxw q a al=some r):EC Tryz.prog 196 [.d (.hd (some 0) q),.agg [I a.At,S a.Key,S a.By,I a.Kind,S a.Node,S a.Posture,I a.Long]] [bg al] fun g hp'=>g=I r.1∧hp'=[bg r.2]:=by
 unfold Kxw at h
 refine QN Tryz.func196 E Z<|gA 2 E<|Ksj E E E E Z<|bK h fun y1 hy1 h2=>gO 10 E<|Kgu [0] (B y1) [bg al,.box 180 [I a.At,S a.Key,S a.By,I a.Kind,S a.Node,S a.Posture,I a.Long]] C (Ldg hy1) E Z E E E E E E E E E E<|gO 4 E<|jC E h2 (fun h3=>?_) fun h4=>bK h4 fun q5 hq5 h6=>gA 1 E<|Kjt [(0,.d (.hd (some 0) q)),(3,.ptr 1 0),(11,B q5)] [bg al,.box 180 [I a.At,S a.Key,S a.By,I a.Kind,S a.Node,S a.Posture,I a.Long]] ?_ ?_
 ·exact gA 8 E<|oSi h3▸Khi hΓ [_] (.inr E) E E E E (.inr ⟨HB.mk E,E⟩)
 ·refine Kit [bg al,.box 180 [I a.At,S a.Key,S a.By,I a.Kind,S a.Node,S a.Posture,I a.Long]] [2,7,12] [3] [] hmix (by kernel_rfl) (by kernel_rfl) ⟨E,E,tV⟩ Z<|bK hq5 fun y7 hy7 h8=>go_E hΓ 3 E<|ge_h [bg al,.box 180 [I a.At,S a.Key,S a.By,I a.Kind,S a.Node,S a.Posture,I a.Long]] E E E (Kjc ⟨E,E,tV⟩) (Kjh [0] (B y7) [bg al,.box 180 [I a.At,S a.Key,S a.By,I a.Kind,S a.Node,S a.Posture,I a.Long]] C (Ldf hy7) E E E E E E E E E E)<|go_E hΓ 2 E<|Kiz E E (fun hb=>?_) (fun hb=>?_)
  ·have h9:=cT h8 hb
   exact go_E hΓ 10 E<|Kiu<|oSi h9▸⟨⟨E,E,E,tV⟩,[],E,.inl E⟩
  have h10:=cF h8 hb
  exact gK h10 fun hg12 h11=>go_E hΓ 3 E<|ge_q E (.inr ⟨_,_,E,E⟩) (fun _ _=>Kiv (qt_p (Knc hg12 E)))<|ge_q E (.inr ⟨_,_,E,E⟩) (fun _ _=>Kiv (qt_p (Knd hΓ hg12 E E E E E E)))<|ge_q E (.inr ⟨_,_,E,E⟩) (fun _ _=>Kiv (qt_p (Knd hΓ hg12 E E E E E E)))<|bK h11 fun m13 hm13 h14=>Kiw E E (fun hp hs=>Kne hΓ (enc:=Lbx) (bg:=0) m13 E (hs 0 _ E E) (ArU.l _ (Kmp (fun _ _=>E) hm13 m13)) E (g:=S m13.asked.By) E E) E<|go_E hΓ 3 E<|Kiu<|oSi h14▸⟨⟨E,E,E,tV⟩,[],E,.inl E⟩
 refine gA 1 E<|jC E h6 (fun h15=>?_) fun h16=>gA 1 E<|jD<|gK h16 fun hg18 h17=>gA 1 E<|gl_o E (Knc hg18 E)<|gl_o E (Knd hΓ hg18 E E E E E E)<|bK h17 fun m19 hm19 h20=>gl_o E (Kme (Kne hΓ (enc:=Lbx) (bg:=0) m19 E E (ArU.l _ (Kmp (fun _ _=>E) hm19 m19)) E (g:=.d (Slt 9 1 eS m19.yes)) E E) G.Le.unt)<|bK h20 fun y21 hy21 h22=>Kfm hΓ 2 E<|Kgw C (Lde hy21) E E E E E E<|Kfm hΓ 3 E<|jC E h22 (fun h23=>?_) fun h24=>?_
 ·exact gA 8 E<|oSi h15▸Khi hΓ [_] (.inr E) E E E E (.inr ⟨HB.mk E,E⟩)
 ·exact gA 8 E<|oSi h23▸Khi hΓ [_] (.inr E) E E E E (.inr ⟨HB.mk E,E⟩)
 refine gA 4 E<|Kit [bg al,.box 180 [I a.At,S a.Key,S a.By,I a.Kind,S a.Node,S a.Posture,I a.Long]] [4,6] [8,11] [8,11] hmix (by kernel_rfl) (by kernel_rfl) ⟨E,E,tV⟩ Z<|gK h24 fun hg26 h25=>go_E hΓ 2 E<|ge_q E (.inl E) (fun _ _=>Kiv (qt_p (Knc hg26 E)))<|ge_q E (.inl E) (fun _ _=>Kiv (qt_p (Knd hΓ hg26 E E E E E E)))<|bK h25 fun m27 hm27 h28=>ge_p E (fun hp hs=>Kne hΓ (enc:=Lbx) (bg:=0) m27 E (hs 0 _ E E) (ArU.l _ (Kmp (fun _ _=>E) hm27 m27)) E (g:=.d (Slt 9 1 eS m27.yes)) E E) E<|go_E hΓ 2 E<|Kji hΓ (enc:=eS) [a.By] E E E E E E E E E E E E<|bK h28 fun y29 hy29 h30=>ge_h [.bag y29.2 (arX al.2.1 al.2.2) [],.box 180 [I a.At,S a.Key,S a.By,I a.Kind,S a.Node,S a.Posture,I a.Long]] E E E (Kjb E) (Kjf (Kmd hΓ (enc:=eS) (bg:=0) hy29 E E E E E E E E (fun _=>E) E E))<|gK h30 fun hg32 h31=>ge_q E (.inl E) (fun _ _=>Kiv (qt_p (Knc hg32 E)))<|ge_q E (.inl E) (fun _ _=>Kiv (qt_p (Knd hΓ hg32 E E E E E E)))<|bK h31 fun m33 hm33 h34=>Kja [.bag y29.2 (arX (hSet al.2.1 q (⟨m33.asked,m33.access,y29.1,m33.denied,m33.given,m33.v_from,m33.to⟩:Kwj)) al.2.2) [],.box 180 [I a.At,S a.Key,S a.By,I a.Kind,S a.Node,S a.Posture,I a.Long]] E E (Kjb E) (Kjg (Knf hΓ (enc:=Lbx) (bg:=0) m33 (⟨m33.asked,m33.access,y29.1,m33.denied,m33.given,m33.v_from,m33.to⟩:Kwj) E E (ArU.l _ (Kmp (fun _ _=>E) hm33 (⟨m33.asked,m33.access,y29.1,m33.denied,m33.given,m33.v_from,m33.to⟩:Kwj))) E E (by intro e;cases e) E E E E E E E)) ?_
 refine Kiu<|gA 3 E<|jD<|gK h34 fun hg36 h35=>gA 1 E<|gl_o E (Knc hg36 E)<|gl_o E (Knd hΓ hg36 E E E E E E)<|bK h35 fun m37 hm37 h38=>gl_o E (Kme (Kne hΓ (enc:=Lbx) (bg:=0) m37 E E (ArU.l _ (Kmp (fun _ _=>E) hm37 m37)) E (g:=.d (Slt 9 1 eS m37.yes)) E E) G.Le.unt)<|gK h38 fun hg40 h39=>Kfm hΓ 2 E<|gl_o E (Knc hg40 E)<|gl_o E (Knd hΓ hg40 E E E E E E)<|gl_o E (Knd hΓ hg40 E E E E E E)<|bK h39 fun m41 hm41 h42=>gl_o E (Kne hΓ (enc:=Lbx) (bg:=0) m41 E E (ArU.l _ (Kmp (fun _ _=>E) hm41 m41)) E (g:=I m41.access.Need) E E)<|bK h42 fun q43 hq43 h44=>Kfm hΓ 3 E<|Kjt [] [bg q43,.box 180 [I a.At,S a.Key,S a.By,I a.Kind,S a.Node,S a.Posture,I a.Long]] ?_ ?_
 ·refine jC E hq43 (fun h45=>?_) fun h62=>gA 1 E<|oSi h62▸⟨tV,[],E,.inl E⟩
  refine Kit [.dead,.box 180 [I a.At,S a.Key,S a.By,I a.Kind,S a.Node,S a.Posture,I a.Long]] [4,6] [11,16,19,22] [] hmix (by kernel_rfl) (by kernel_rfl) ⟨E,tV⟩ Z<|gK h45 fun hg47 h46=>go_E hΓ 8 E<|ge_q E (.inl E) (fun _ _=>Kiv (qt_p (Knc hg47 E)))<|ge_q E (.inl E) (fun _ _=>Kiv (qt_p (Knd hΓ hg47 E E E E E E)))<|ge_q E (.inl E) (fun _ _=>Kiv (qt_p (Knd hΓ hg47 E E E E E E)))<|bK h46 fun m48 hm48 h49=>ge_h [.bag y29.2 (arX (hSet al.2.1 q (⟨m33.asked,m33.access,y29.1,m33.denied,m33.given,m33.v_from,m33.to⟩:Kwj)) al.2.2) [],.box 180 [I a.At,S a.Key,S a.By,I a.Kind,S a.Node,S a.Posture,I a.Long]] E E E (Kjc ⟨E,tV⟩) (Kiv (qt_p (Kne hΓ (enc:=Lbx) (bg:=0) m48 E E (ArU.l _ (Kmp (fun _ _=>E) hm48 m48)) E (g:=I m48.asked.Long) E E)))<|gK h49 fun hg51 h50=>go_E hΓ 2 E<|ge_q E (.inl E) (fun _ _=>Kiv (qt_p (Knc hg51 E)))<|ge_q E (.inl E) (fun _ _=>Kiv (qt_p (Knd hΓ hg51 E E E E E E)))<|bK h50 fun m52 hm52 h53=>Kja [.bag y29.2 (arX (hSet (hSet al.2.1 q (⟨m33.asked,m33.access,y29.1,m33.denied,m33.given,m33.v_from,m33.to⟩:Kwj)) q (⟨m52.asked,m52.access,m52.yes,m52.denied,true,m52.v_from,m52.to⟩:Kwj)) al.2.2) [],.box 180 [I a.At,S a.Key,S a.By,I a.Kind,S a.Node,S a.Posture,I a.Long]] E E (Kjc ⟨E,tV⟩) (Kjg (Knf hΓ (enc:=Lbx) (bg:=0) m52 (⟨m52.asked,m52.access,m52.yes,m52.denied,true,m52.v_from,m52.to⟩:Kwj) E E (ArU.l _ (Kmp (fun _ _=>E) hm52 (⟨m52.asked,m52.access,m52.yes,m52.denied,true,m52.v_from,m52.to⟩:Kwj))) E E (by intro e;cases e) E E E E E E E)) ?_
  refine gK h53 fun hg55 h54=>ge_q E (.inl E) (fun _ _=>Kiv (qt_p (Knc hg55 E)))<|ge_q E (.inl E) (fun _ _=>Kiv (qt_p (Knd hΓ hg55 E E E E E E)))<|bK h54 fun m56 hm56 h57=>Kja [.bag y29.2 (arX (hSet (hSet (hSet al.2.1 q (⟨m33.asked,m33.access,y29.1,m33.denied,m33.given,m33.v_from,m33.to⟩:Kwj)) q (⟨m52.asked,m52.access,m52.yes,m52.denied,true,m52.v_from,m52.to⟩:Kwj)) q (⟨m56.asked,m56.access,m56.yes,m56.denied,m56.given,a.At,m56.to⟩:Kwj)) al.2.2) [],.box 180 [I a.At,S a.Key,S a.By,I a.Kind,S a.Node,S a.Posture,I a.Long]] E E (Kjc ⟨E,tV⟩) (Kjg (Knf hΓ (enc:=Lbx) (bg:=0) m56 (⟨m56.asked,m56.access,m56.yes,m56.denied,m56.given,a.At,m56.to⟩:Kwj) E E (ArU.l _ (Kmp (fun _ _=>E) hm56 (⟨m56.asked,m56.access,m56.yes,m56.denied,m56.given,a.At,m56.to⟩:Kwj))) E E (by intro e;cases e) E E E E E E E)) ?_
  refine gK h57 fun hg59 h58=>ge_q E (.inl E) (fun _ _=>Kiv (qt_p (Knc hg59 E)))<|ge_q E (.inl E) (fun _ _=>Kiv (qt_p (Knd hΓ hg59 E E E E E E)))<|bK h58 fun m60 hm60 h61=>Kja [.bag y29.2 (arX (hSet (hSet (hSet (hSet al.2.1 q (⟨m33.asked,m33.access,y29.1,m33.denied,m33.given,m33.v_from,m33.to⟩:Kwj)) q (⟨m52.asked,m52.access,m52.yes,m52.denied,true,m52.v_from,m52.to⟩:Kwj)) q (⟨m56.asked,m56.access,m56.yes,m56.denied,m56.given,a.At,m56.to⟩:Kwj)) q (⟨m60.asked,m60.access,m60.yes,m60.denied,m60.given,m60.v_from,(if (wi (a.At+m48.asked.Long))<345686400 then wi (a.At+m48.asked.Long) else 345686400)⟩:Kwj)) al.2.2) [],.box 180 [I a.At,S a.Key,S a.By,I a.Kind,S a.Node,S a.Posture,I a.Long]] E E (Kjc ⟨E,tV⟩) (Kjg (Knf hΓ (enc:=Lbx) (bg:=0) m60 (⟨m60.asked,m60.access,m60.yes,m60.denied,m60.given,m60.v_from,(if (wi (a.At+m48.asked.Long))<345686400 then wi (a.At+m48.asked.Long) else 345686400)⟩:Kwj) E E (ArU.l _ (Kmp (fun _ _=>E) hm60 (⟨m60.asked,m60.access,m60.yes,m60.denied,m60.given,m60.v_from,(if (wi (a.At+m48.asked.Long))<345686400 then wi (a.At+m48.asked.Long) else 345686400)⟩:Kwj))) E E (by intro e;cases e) E E E E E E E)) ?_
  exact Kiu<|oSi h61▸⟨tV,[],E,.inl E⟩
 exact gA 7 E<|oSi h44▸Khi hΓ [_] (.inr E) E E E E (.inr ⟨HB.mk E,E⟩)
theorem Ldi{b:Kwi}{a:Kwg}{al:BagT}{r:Int×Kwi×BagT}(h:Kxx b a al=some r):EC Tryz.prog 134 [.ptr 1 0,.agg [I a.At,S a.Key,S a.By,I a.Kind,S a.Node,S a.Posture,I a.Long]] [mObH b.list,.box 186 [.d (Sl Lbu b.access),.map 0],bg al] fun g hp'=>g=I r.1∧hp'=[mObH r.2.1.list,.box 186 [.d (Sl Lbu r.2.1.access),.map 0],bg r.2.2]:=by
 unfold Kxx at h
 refine QM Tryz.func134 E Z<|gA 2 E<|Ksj E E E E Z<|gO 4 E<|jD<|gA 6 E<|gl_o E (Kmu hΓ (kv:=kS) (agg:=false) (enc:=(eH (some 0))) b.list a.Key (0:Nat) E E E E Kks E E E (Kmt E) E)<|Kfm hΓ 11 E<|jC E h (fun h1=>?_) fun h4=>gA 6 E<|eo_o E ((Kmy hΓ E E E E).1)<|gO 2 E<|jC E h4 (fun h5=>?_) fun h6=>?_
 ·exact bK h1 fun y2 hy2 h3=>gA 5 E<|Kgu [0,1,2] (I y2.1) [mObH y2.2.1.list,.box 186 [.d (Sl Lbu y2.2.1.access),.map 0],bg y2.2.2,.box 180 [I a.At,S a.Key,S a.By,I a.Kind,S a.Node,S a.Posture,I a.Long]] C (Ldc hy2) E Z E E E E E E E E E E<|gO 5 E<|Kjp<|oSi h3▸Khi hΓ [_] (.inr E) E E E E (.inr ⟨HB.mk E,E⟩)
 ·exact gA 7 E<|Kjp<|oSi h5▸Khi hΓ [_] (.inr E) E E E E (.inr ⟨HB.mk E,E⟩)
 refine bK h6 fun q7 hq7 h8=>gA 3 E<|Kjt [(3,.ptr 3 0),(5,.d (.hd (some 0) ((mGet b.list a.Key).getD 0))),(6,B q7)] [mObH b.list,.box 186 [.d (Sl Lbu b.access),.map 0],bg al,.box 180 [I a.At,S a.Key,S a.By,I a.Kind,S a.Node,S a.Posture,I a.Long]] ?_ ?_
 ·refine Kit [.dead,.dead,bg al,.box 180 [I a.At,S a.Key,S a.By,I a.Kind,S a.Node,S a.Posture,I a.Long]] [2,6,11] [3] [] hmix (by kernel_rfl) (by kernel_rfl) ⟨E,E,tV⟩ Z<|bK hq7 fun y9 hy9 h10=>go_E hΓ 3 E<|ge_h [mObH b.list,.box 186 [.d (Sl Lbu b.access),.map 0],bg al,.box 180 [I a.At,S a.Key,S a.By,I a.Kind,S a.Node,S a.Posture,I a.Long]] E E E (Kjc ⟨E,E,tV⟩) (Kjh [2] (B y9) [mObH b.list,.box 186 [.d (Sl Lbu b.access),.map 0],bg al,.box 180 [I a.At,S a.Key,S a.By,I a.Kind,S a.Node,S a.Posture,I a.Long]] C (Ldf hy9) E E E E E E E E E E)<|go_E hΓ 1 E<|Kiz E E (fun hb=>?_) (fun hb=>?_)
  ·have h11:=cT h10 hb
   exact go_E hΓ 10 E<|Kiu<|oSi h11▸⟨⟨E,E,E,tV⟩,[],E,.inl E⟩
  have h12:=cF h10 hb
  exact gK h12 fun hg14 h13=>go_E hΓ 3 E<|ge_q E (.inr ⟨_,_,E,E⟩) (fun _ _=>Kiv (qt_p (Knc hg14 E)))<|ge_q E (.inr ⟨_,_,E,E⟩) (fun _ _=>Kiv (qt_p (Knd hΓ hg14 E E E E E E)))<|ge_q E (.inr ⟨_,_,E,E⟩) (fun _ _=>Kiv (qt_p (Knd hΓ hg14 E E E E E E)))<|bK h13 fun m15 hm15 h16=>Kiw E E (fun hp hs=>Kne hΓ (enc:=Lbx) (bg:=2) m15 E (hs 2 _ E E) (ArU.l _ (Kmp (fun _ _=>E) hm15 m15)) E (g:=S m15.asked.By) E E) E<|go_E hΓ 3 E<|Kiu<|oSi h16▸⟨⟨E,E,E,tV⟩,[],E,.inl E⟩
 refine bK h8 fun q17 hq17 h18=>gA 8 E<|Kjv (q:=q17) (fun a19=>[]) (fun a19=>[mObH b.list,.box 186 [.d (Sl Lbu b.access),.map 0],bg a19,.box 180 [I a.At,S a.Key,S a.By,I a.Kind,S a.Node,S a.Posture,I a.Long]]) ?_ ?_
 ·refine gA 7 E<|jC E hq17 (fun h20=>?_) fun h25=>gA 6 E<|jC E h25 (fun h26=>?_) fun h41=>?_
  ·refine bK h20 fun y21 hy21 h22=>gA 4 E<|Kgu [2] (I y21.1) [mObH b.list,.box 186 [.d (Sl Lbu b.access),.map 0],bg y21.2,.box 180 [I a.At,S a.Key,S a.By,I a.Kind,S a.Node,S a.Posture,I a.Long]] C (Ldh hy21) E Z E E E E E E E E E E<|gO 5 E<|bK h22 fun v23 hv23 h24=>?_
   cases h24
   cases h18
   exact gA 2 E<|Kjp<|oSi hv23▸Khi hΓ [_] (.inr E) E E E E (.inr ⟨HB.mk E,E⟩)
  ·refine bK h26 fun y27 hy27 h28=>gA 6 E<|Kgu [2] (B y27) [mObH b.list,.box 186 [.d (Sl Lbu b.access),.map 0],bg al,.box 180 [I a.At,S a.Key,S a.By,I a.Kind,S a.Node,S a.Posture,I a.Long]] C (Ldg hy27) E Z E E E E E E E E E E<|gO 3 E<|jC E h28 (fun h29=>?_) fun h32=>gA 9 E<|jC E h32 (fun h33=>?_) fun h36=>?_
   ·refine gA 8 E<|bK h29 fun v30 hv30 h31=>?_
    cases h31
    cases h18
    exact gA 2 E<|Kjp<|oSi hv30▸Khi hΓ [_] (.inr E) E E E E (.inr ⟨HB.mk E,E⟩)
   ·refine gA 8 E<|bK h33 fun v34 hv34 h35=>?_
    cases h35
    cases h18
    exact gA 2 E<|Kjp<|oSi hv34▸Khi hΓ [_] (.inr E) E E E E (.inr ⟨HB.mk E,E⟩)
   refine gK h36 fun hg38 h37=>gA 4 E<|eo_o E (Knc hg38 E)<|eo_o E (Knd hΓ hg38 E E E E E E)<|bK h37 fun m39 hm39 h40=>eo_u Z (Knf hΓ (enc:=Lbx) (bg:=2) m39 (⟨m39.asked,m39.access,m39.yes,true,m39.given,m39.v_from,m39.to⟩:Kwj) E E (ArU.l _ (Kmp (fun _ _=>E) hm39 (⟨m39.asked,m39.access,m39.yes,true,m39.given,m39.v_from,m39.to⟩:Kwj))) E E (by intro e;cases e) E E E E E E E) ?_
   exact Khd [mObH b.list,.box 186 [.d (Sl Lbu b.access),.map 0],.bag al.1 (arX (hSet al.2.1 ((mGet b.list a.Key).getD 0) (⟨m39.asked,m39.access,m39.yes,true,m39.given,m39.v_from,m39.to⟩:Kwj)) al.2.2) [],.box 180 [I a.At,S a.Key,S a.By,I a.Kind,S a.Node,S a.Posture,I a.Long]] E<|gO 2 E<|oSi h40▸⟨_,E,⟨tV,[],E,.inl E⟩⟩
  refine bK h41 fun q42 hq42 h43=>gA 2 E<|Kjt [(3,.ptr 3 0),(5,.d (.hd (some 0) ((mGet b.list a.Key).getD 0))),(6,B q7),(52,B q42)] [mObH b.list,.box 186 [.d (Sl Lbu b.access),.map 0],bg al,.box 180 [I a.At,S a.Key,S a.By,I a.Kind,S a.Node,S a.Posture,I a.Long]] ?_ ?_
  ·refine jD<|gK hq42 fun hg45 h44=>gA 1 E<|gl_o E (Knc hg45 E)<|gl_o E (Knd hΓ hg45 E E E E E E)<|bK h44 fun m46 hm46 h47=>gl_o E (Kne hΓ (enc:=Lbx) (bg:=2) m46 E E (ArU.l _ (Kmp (fun _ _=>E) hm46 m46)) E (g:=B m46.given) E E)<|Kfm hΓ 2 E<|Kdy E E (fun hb=>?_) (fun hb=>?_)
   ·have h48:=cT h47 hb
    exact Kfm hΓ 9 E<|oSi h48▸⟨⟨E,E,E,E,tV⟩,[],E,.inl E⟩
   have h49:=cF h47 hb
   exact gK h49 fun hg51 h50=>Kfm hΓ 3 E<|Kes E E (Knc hg51 E)<|Kes E E (Knd hΓ hg51 E E E E E E)<|bK h50 fun m52 hm52 h53=>Kes E E (Kne hΓ (enc:=Lbx) (bg:=2) m52 E E (ArU.l _ (Kmp (fun _ _=>E) hm52 m52)) E (g:=I m52.to) E E)<|Kfm hΓ 3 E<|oSi h53▸⟨⟨E,E,E,E,tV⟩,[],E,.inl E⟩
  refine gA 1 E<|jC E h43 (fun h54=>?_) fun h57=>gA 9 E<|jC E h57 (fun h58=>?_) fun h61=>?_
  ·refine gA 8 E<|bK h54 fun v55 hv55 h56=>?_
   cases h56
   cases h18
   exact gA 2 E<|Kjp<|oSi hv55▸Khi hΓ [_] (.inr E) E E E E (.inr ⟨HB.mk E,E⟩)
  ·refine gA 8 E<|bK h58 fun v59 hv59 h60=>?_
   cases h60
   cases h18
   exact gA 2 E<|Kjp<|oSi hv59▸Khi hΓ [_] (.inr E) E E E E (.inr ⟨HB.mk E,E⟩)
  refine gK h61 fun hg63 h62=>gA 6 E<|eo_o E (Knc hg63 E)<|eo_o E (Knd hΓ hg63 E E E E E E)<|bK h62 fun m64 hm64 h65=>eo_u Z (Knf hΓ (enc:=Lbx) (bg:=2) m64 (⟨m64.asked,m64.access,m64.yes,m64.denied,m64.given,m64.v_from,a.At⟩:Kwj) E E (ArU.l _ (Kmp (fun _ _=>E) hm64 (⟨m64.asked,m64.access,m64.yes,m64.denied,m64.given,m64.v_from,a.At⟩:Kwj))) E E (by intro e;cases e) E E E E E E E) ?_
  exact Khd [mObH b.list,.box 186 [.d (Sl Lbu b.access),.map 0],.bag al.1 (arX (hSet al.2.1 ((mGet b.list a.Key).getD 0) (⟨m64.asked,m64.access,m64.yes,m64.denied,m64.given,m64.v_from,a.At⟩:Kwj)) al.2.2) [],.box 180 [I a.At,S a.Key,S a.By,I a.Kind,S a.Node,S a.Posture,I a.Long]] E<|gO 2 E<|oSi h65▸⟨_,E,⟨tV,[],E,.inl E⟩⟩
 intro a19 ha
 subst ha
 replace h18:=Kjm h18
 exact gA 7 E<|Kjp<|oSi h18▸Khi hΓ [_] (.inr E) E E E E (.inr ⟨HB.mk E,E⟩)
theorem Ldj{k:Nat}{v_r:List Kwf}{l:List Kwg}{al:BagT}{r:(List Kwh)×Int×BagT}(h:Kxy k v_r l al=some r):EC Tryz.prog 59 [.d (Sl Lbu v_r),.d (Sl Lbv l)] [bg al] fun g hp'=>g=.tup [.d (Sl Lbw r.1),I r.2.1]∧hp'=[bg r.2.2]:=by
 unfold Kxy at h
 refine QN Tryz.func59 E Z<|bK h fun y1 hy1 h2=>gA 11 E<|Kgv C (Lcz hy1) E Z E E E E E<|gO 9 E<|jC E h2 (fun h3=>?_) fun h4=>gA 5 E<|eo_s Z (nblt.1 E) (Kkw false)<|Khd [bg al,mObH ([]:List (Str×Nat))] E<|Kdo hΓ (gs:=[.d (Sl Lbu v_r),.map 1]) E E E E E E E<|Ksj E E E E Z<|gO 5 E<|Kgs (t:=0) 112 2 E Z<|gO 10 E<|bK h4 fun q8 hq8 h9=>Kge 22 E fun hb11=>Kjt [(8,.sl 3 q8.2.2.2.length)] [bg q8.1,mObH q8.2.1,.box 186 [.d (Sl Lbu q8.2.2.1),.map 1],rO 112 2 Lbw q8.2.2.2] ?_ ?_
 ·exact gA 9 E<|oSi h3▸Khi hΓ [] (.inr E) E E E E (.inl E)
 ·refine gA 1 E<|Khk l hq8 (fun i5 s6=>[(7,.ptr 2 0),(8,.sl 3 s6.2.2.2.length),(22,.d (Sl Lbv l)),(23,I (l.length:Int)),(24,I (i5:Int))]) (fun s6=>[bg s6.1,mObH s6.2.1,.box 186 [.d (Sl Lbu s6.2.2.1),.map 1],rO 112 2 Lbw s6.2.2.2]) ⟨⟨E,E,E,E,E,tV⟩,[],E,.inl E⟩ (fun i5 x7 s6 y15 hx12 hlt hy13=>?_) (?_)
  ·refine gA 6 E<|Kfp E (dT (Int.ofNat_lt.2 hlt))<|gA 7 E<|eo_o E (Kgf hΓ (enc:=Lbv) (Kfy hx12) E E E E E (fun _=>E))<|gO 1 E<|Ksi hΓ E E E Z<|gO 1 E<|Ksn hΓ E E E E E E E E Z<|Khd [bg s6.1,mObH s6.2.1,.box 186 [.d (Sl Lbu s6.2.2.1),.map 1],rO 112 2 Lbw s6.2.2.2,.box 180 [I x7.At,S x7.Key,S x7.By,I x7.Kind,S x7.Node,S x7.Posture,I x7.Long]] E<|bK hy13 fun y16 hy16 h17=>gO 6 E<|Kgu [1,2,0] (I y16.1) [bg y16.2.2,mObH y16.2.1.list,.box 186 [.d (Sl Lbu y16.2.1.access),.map 1],rO 112 2 Lbw s6.2.2.2,.box 180 [I x7.At,S x7.Key,S x7.By,I x7.Kind,S x7.Node,S x7.Posture,I x7.Long]] C (Ldi hy16) E Z E E E E E E E E E E<|gO 9 E<|jC E h17 (fun h18=>?_) fun h21=>gA 7 E ?_
   ·refine gA 4 E<|Kdo hΓ (gs:=[I (i5:Int),I y16.1]) E E E E E E E<|Kgp hΓ (enc:=Lbw) [(⟨(i5:Int),y16.1⟩:Kwh)] E E E E E E E E E E E E Z<|bK h18 fun y19 hy19 h20=>Khe hΓ (enc:=Lbw) hy19 E E E E E E E E E (fun _=>E) E E E E<|gO 8 E ?_
    cases h20
    exact⟨⟨E,E,E,E,Keq E (Kep (nLl hlt hb11)),tV⟩,[_],E,.inr ⟨HB.mk E,FB.mk E,Z⟩⟩
   cases h21
   exact⟨⟨E,E,E,E,Keq E (Kep (nLl hlt hb11)),tV⟩,[_],E,.inr ⟨HB.mk E,FB.mk E,Z⟩⟩
  exact gA 6 E<|Kfq E (dF (Int.lt_irrefl _))<|gA 4 E<|⟨⟨E,tV⟩,[],E,.inl E⟩
 exact gA 5 E<|Khb 3 [4,8,41] _ [bg q8.1,mObH q8.2.1,.box 186 [.d (Sl Lbu q8.2.2.1),.map 1],.dead] E E E Z<|gO 4 E<|oSi h9▸Khi hΓ [_,_,_] (.inr E) E E E E (.inr ⟨HB.mk E,E⟩)
theorem Ldk{v_at:Int}{r:Int}(h:Kxz v_at=some r):Pure Tryz.prog 119 [I v_at] (I r):=by
 unfold Kxz at h
 refine QP Tryz.func119 E E E<|bK h fun y1 hy1 h2=>gA 9 E<|Kgv C (Lcs hy1) E Z E E E E E<|gO 3 E<|jC E h2 (fun h3=>?_) fun h4=>gA 8 E<|oSi h4▸gP E E
 exact gA 7 E<|oSi h3▸gP E E
theorem Ldl{v_r:List Kwf}{l:List Kwg}{v_at:Int}{al:BagT}{r:Kwi×BagT}(h:Kya v_r l v_at al=some r):EC Tryz.prog 135 [.d (Sl Lbu v_r),.d (Sl Lbv l),I v_at] [bg al] fun g hp'=>g=.ptr 2 0∧hp'=[bg r.2,mObH r.1.list,.box 186 [.d (Sl Lbu r.1.access),.map 1]]:=by
 unfold Kya at h
 refine QM Tryz.func135 E Z<|gA 8 E<|eo_s Z (nblt.1 E) (Kkw false)<|Khd [bg al,mObH ([]:List (Str×Nat))] E<|Kdo hΓ (gs:=[.d (Sl Lbu v_r),.map 1]) E E E E E E E<|Ksj E E E E Z<|gO 11 E<|bK h fun q4 hq4 h5=>Kge 14 E fun hb7=>Kjt [(7,.ptr 2 0)] [bg q4.1,mObH q4.2.1,.box 186 [.d (Sl Lbu q4.2.2),.map 1]] ?_ ?_
 ·refine gA 1 E<|Khk l hq4 (fun i1 s2=>[(2,I v_at),(7,.ptr 2 0),(14,.d (Sl Lbv l)),(15,I (l.length:Int)),(16,I (i1:Int))]) (fun s2=>[bg s2.1,mObH s2.2.1,.box 186 [.d (Sl Lbu s2.2.2),.map 1]]) ⟨⟨E,E,E,E,E,tV⟩,[],E,.inl E⟩ (fun i1 x3 s2 y11 hx8 hlt hy9=>?_) (?_)
  ·refine gA 6 E<|Kfp E (dT (Int.ofNat_lt.2 hlt))<|gA 6 E<|eo_o E (Kgf hΓ (enc:=Lbv) (Kfy hx8) E E E E E (fun _=>E))<|gO 1 E<|Ksi hΓ E E E Z<|Ksn hΓ E E E E E E E E Z<|Khd [bg s2.1,mObH s2.2.1,.box 186 [.d (Sl Lbu s2.2.2),.map 1],.box 180 [I x3.At,S x3.Key,S x3.By,I x3.Kind,S x3.Node,S x3.Posture,I x3.Long]] E<|gO 10 E<|jC E hy9 (fun h12=>?_) fun h15=>gA 7 E ?_
   ·refine bK h12 fun y13 hy13 h14=>gA 3 E<|Kgu [1,2,0] (I y13.1) [bg y13.2.2,mObH y13.2.1.list,.box 186 [.d (Sl Lbu y13.2.1.access),.map 1],.box 180 [I x3.At,S x3.Key,S x3.By,I x3.Kind,S x3.Node,S x3.Posture,I x3.Long]] C (Ldi hy13) E Z E E E E E E E E E E<|gO 7 E ?_
    cases h14
    exact⟨⟨E,E,E,E,Keq E (Kep (nLl hlt hb7)),tV⟩,[_],E,.inr ⟨HB.mk E,FB.mk E,Z⟩⟩
   cases h15
   exact⟨⟨E,E,E,E,Keq E (Kep (nLl hlt hb7)),tV⟩,[_],E,.inr ⟨HB.mk E,FB.mk E,Z⟩⟩
  exact gA 6 E<|Kfq E (dF (Int.lt_irrefl _))<|gA 4 E<|⟨⟨E,tV⟩,[],E,.inl E⟩
 exact gA 8 E<|Kjp<|oSi h5▸Khi hΓ [] (.inr E) E E E E (.inl E)
theorem Ldm{q:Nat}{v_at:Int}{al:BagT}{r:Int}(h:Kyb q v_at al=some r):EC Tryz.prog 138 [.d (.hd (some 0) q),I v_at] [bg al] fun g hp'=>g=I r∧hp'=[bg al]:=by
 unfold Kyb at h
 refine QN Tryz.func138 E Z<|gK h fun hg2 h1=>gA 10 E<|eo_o E (Knc hg2 E)<|eo_o E (Knd hΓ hg2 E E E E E E)<|bK h1 fun m3 hm3 h4=>eo_o E (Kne hΓ (enc:=Lbx) (bg:=0) m3 E E (ArU.l _ (Kmp (fun _ _=>E) hm3 m3)) E (g:=B m3.denied) E E)<|gO 3 E<|jC E h4 (fun h5=>?_) fun h6=>gK h6 fun hg8 h7=>gA 3 E<|eo_o E (Knc hg8 E)<|eo_o E (Knd hΓ hg8 E E E E E E)<|bK h7 fun m9 hm9 h10=>eo_o E (Kne hΓ (enc:=Lbx) (bg:=0) m9 E E (ArU.l _ (Kmp (fun _ _=>E) hm9 m9)) E (g:=B m9.given) E E)<|gO 1 E<|bK h10 fun q11 hq11 h12=>Kfu 7 [(0,.d (.hd (some 0) q)),(1,I v_at),(22,B q11)] [bg al] ?_ ?_
 ·exact gA 8 E<|oSi h5▸Khi hΓ [] (.inr E) E E E E (.inl E)
 ·refine Krc E E (fun hb=>?_) (fun hb=>?_)
  ·have h13:=cT hq11 hb
   exact gK h13 fun hg15 h14=>gO 2 E<|Kra E<|eo_o E (Knc hg15 E)<|Kra E<|eo_o E (Knd hΓ hg15 E E E E E E)<|bK h14 fun m16 hm16 h17=>Kra E<|eo_o E (Kne hΓ (enc:=Lbx) (bg:=0) m16 E E (ArU.l _ (Kmp (fun _ _=>E) hm16 m16)) E (g:=I m16.to) E E)<|gO 3 E<|oSi h17▸⟨⟨E,E,E,tV⟩,[],E,.inl E⟩
  have h18:=cF hq11 hb
  exact gO 8 E<|oSi h18▸⟨⟨E,E,E,tV⟩,[],E,.inl E⟩
 refine gO 3 E<|jC E h12 (fun h19=>?_) fun h20=>gK h20 fun hg22 h21=>gA 3 E<|eo_o E (Knc hg22 E)<|eo_o E (Knd hΓ hg22 E E E E E E)<|bK h21 fun m23 hm23 h24=>eo_o E (Kne hΓ (enc:=Lbx) (bg:=0) m23 E E (ArU.l _ (Kmp (fun _ _=>E) hm23 m23)) E (g:=B m23.given) E E)<|gO 3 E<|jC E h24 (fun h25=>?_) fun h26=>?_
 ·exact gA 8 E<|oSi h19▸Khi hΓ [] (.inr E) E E E E (.inl E)
 ·exact gA 8 E<|oSi h25▸Khi hΓ [] (.inr E) E E E E (.inl E)
 refine bK h26 fun y27 hy27 h28=>gA 4 E<|Kgu [0] (B y27) [bg al] C (Ldg hy27) E Z E E E E E E E E E E<|gO 3 E<|jC E h28 (fun h29=>?_) fun h30=>gA 9 E<|oSi h30▸Khi hΓ [] (.inr E) E E E E (.inl E)
 exact gA 8 E<|oSi h29▸Khi hΓ [] (.inr E) E E E E (.inl E)
theorem Ldn{k:Nat}{v_r:List Kwf}{l:List Kwg}{v_at:Int}{al:BagT}{r:(List Kwk)×Int×BagT}(h:Kyc k v_r l v_at al=some r):EC Tryz.prog 60 [.d (Sl Lbu v_r),.d (Sl Lbv l),I v_at] [bg al] fun g hp'=>g=.tup [.d (Sl Lby r.1),I r.2.1]∧hp'=[bg r.2.2]:=by
 unfold Kyc at h
 refine QN Tryz.func60 E Z<|bK h fun y1 hy1 h2=>gA 11 E<|Kgv C (Lcz hy1) E Z E E E E E<|gO 9 E<|jC E h2 (fun h3=>?_) fun h4=>bK h4 fun y5 hy5 h6=>gA 6 E<|Kgv C (Ldk hy5) E Z E E E E E<|gO 9 E<|jC E h6 (fun h7=>?_) fun h8=>?_
 ·exact gA 9 E<|oSi h3▸Khi hΓ [] (.inr E) E E E E (.inl E)
 ·exact gA 9 E<|oSi h7▸Khi hΓ [] (.inr E) E E E E (.inl E)
 refine bK h8 fun y9 hy9 h10=>gA 7 E<|Kgu [0] (.ptr 2 0) [bg y9.2,mObH y9.1.list,.box 186 [.d (Sl Lbu y9.1.access),.map 1]] C (Ldl hy9) E Z E E E E E E E E E E<|gO 5 E<|Kgs (t:=0) 117 8 E Z<|gO 9 E<|Kgu [1] (.fn (.func 200) [] [.ptr 4 0]) [bg y9.2,mObH y9.1.list,.box 186 [.d (Sl Lbu y9.1.access),.map 1],rO 117 8 Lby ([]:List Kwk),.box 184 [.map 1]] C (EC.mapKeys (o:=mObH y9.1.list) Llc) E Z E E E E E E E E E E<|gK h10 fun hg12 h11=>Kgu [1,4] (.sl 5 (sortK y9.1.list).length) [bg y9.2,mObH y9.1.list,.box 186 [.d (Sl Lbu y9.1.access),.map 1],rO 117 8 Lby ([]:List Kwk),.box 184 [.map 1],rO 9 1 eS (sortK y9.1.list)] C (EC.sortedKeys false (eH (some 0)) str9 (Knj hg12) (Knk hg12) Llb) E Z E E E E E E E E E E<|Khb 5 [35] _ [bg y9.2,mObH y9.1.list,.box 186 [.d (Sl Lbu y9.1.access),.map 1],rO 117 8 Lby ([]:List Kwk),.box 184 [.map 1],.dead] E E E Z<|gO 4 E<|bK h11 fun q16 hq16 h17=>Kge 35 E fun hb19=>Kjt [(11,.sl 3 q16.length)] [bg y9.2,mObH y9.1.list,.box 186 [.d (Sl Lbu y9.1.access),.map 1],rO 117 8 Lby q16,.box 184 [.map 1],.dead] ?_ ?_
 ·refine gA 1 E<|Khk (sortK y9.1.list) hq16 (fun i13 s14=>[(2,I v_at),(10,.ptr 2 0),(11,.sl 3 s14.length),(35,.d (Sl eS (sortK y9.1.list))),(36,I ((sortK y9.1.list).length:Int)),(37,I (i13:Int))]) (fun s14=>[bg y9.2,mObH y9.1.list,.box 186 [.d (Sl Lbu y9.1.access),.map 1],rO 117 8 Lby s14,.box 184 [.map 1],.dead]) ⟨⟨E,E,E,E,E,E,tV⟩,[],E,.inl E⟩ (fun i13 x15 s14 y23 hx20 hlt hy21=>?_) (?_)
  ·refine gA 6 E<|Kfp E (dT (Int.ofNat_lt.2 hlt))<|gA 6 E<|eo_o E (Kgf hΓ (enc:=eS) (Kfy hx20) E E E E E (fun _=>E))<|gO 11 E<|eo_o E (Kmu hΓ (kv:=kS) (agg:=false) (enc:=(eH (some 0))) y9.1.list x15 (0:Nat) E E E E Kks E E E (Kmt E) E)<|gO 3 E<|Kit [bg y9.2] [6,11,16,23,28,32] [19,35] [] hmix (by kernel_rfl) (by kernel_rfl) ⟨E,tV⟩ Z<|gK hy21 fun hg25 h24=>go_E hΓ 3 E<|ge_q E (.inl E) (fun _ _=>Kiv (qt_p (Knc hg25 E)))<|ge_q E (.inl E) (fun _ _=>Kiv (qt_p (Knd hΓ hg25 E E E E E E)))<|ge_q E (.inl E) (fun _ _=>Kiv (qt_p (Knd hΓ hg25 E E E E E E)))<|bK h24 fun m26 hm26 h27=>ge_p E (fun hp hs=>Kne hΓ (enc:=Lbx) (bg:=0) m26 E (hs 0 _ E E) (ArU.l _ (Kmp (fun _ _=>E) hm26 m26)) E (g:=S m26.asked.By) E E) E<|gK h27 fun hg29 h28=>go_E hΓ 1 E<|ge_q E (.inl E) (fun _ _=>Kiv (qt_p (Knc hg29 E)))<|ge_q E (.inl E) (fun _ _=>Kiv (qt_p (Knd hΓ hg29 E E E E E E)))<|ge_q E (.inl E) (fun _ _=>Kiv (qt_p (Knd hΓ hg29 E E E E E E)))<|bK h28 fun m30 hm30 h31=>ge_p E (fun hp hs=>Kne hΓ (enc:=Lbx) (bg:=0) m30 E (hs 0 _ E E) (ArU.l _ (Kmp (fun _ _=>E) hm30 m30)) E (g:=S m30.asked.Node) E E) E<|gK h31 fun hg33 h32=>go_E hΓ 1 E<|ge_q E (.inl E) (fun _ _=>Kiv (qt_p (Knc hg33 E)))<|ge_q E (.inl E) (fun _ _=>Kiv (qt_p (Knd hΓ hg33 E E E E E E)))<|ge_q E (.inl E) (fun _ _=>Kiv (qt_p (Knd hΓ hg33 E E E E E E)))<|bK h32 fun m34 hm34 h35=>ge_p E (fun hp hs=>Kne hΓ (enc:=Lbx) (bg:=0) m34 E (hs 0 _ E E) (ArU.l _ (Kmp (fun _ _=>E) hm34 m34)) E (g:=S m34.asked.Posture) E E) E<|bK h35 fun y36 hy36 h37=>go_E hΓ 2 E<|ge_h [bg y9.2,mObH y9.1.list,.box 186 [.d (Sl Lbu y9.1.access),.map 1],rO 117 8 Lby s14,.box 184 [.map 1],.dead] E E E (Kjc ⟨E,tV⟩) (Kjh [0] (I y36) [bg y9.2,mObH y9.1.list,.box 186 [.d (Sl Lbu y9.1.access),.map 1],rO 117 8 Lby s14,.box 184 [.map 1],.dead] C (Ldm hy36) E E E E E E E E E E)<|gK h37 fun hg39 h38=>go_E hΓ 1 E<|ge_q E (.inl E) (fun _ _=>Kiv (qt_p (Knc hg39 E)))<|ge_q E (.inl E) (fun _ _=>Kiv (qt_p (Knd hΓ hg39 E E E E E E)))<|bK h38 fun m40 hm40 h41=>ge_p E (fun hp hs=>Kme (Kne hΓ (enc:=Lbx) (bg:=0) m40 E (hs 0 _ E E) (ArU.l _ (Kmp (fun _ _=>E) hm40 m40)) E (g:=.d (Slt 9 1 eS m40.yes)) E E) G.Le.unt) E<|gK h41 fun hg43 h42=>go_E hΓ 2 E<|ge_q E (.inl E) (fun _ _=>Kiv (qt_p (Knc hg43 E)))<|ge_q E (.inl E) (fun _ _=>Kiv (qt_p (Knd hΓ hg43 E E E E E E)))<|bK h42 fun m44 hm44 h45=>ge_p E (fun hp hs=>Kne hΓ (enc:=Lbx) (bg:=0) m44 E (hs 0 _ E E) (ArU.l _ (Kmp (fun _ _=>E) hm44 m44)) E (g:=I m44.v_from) E E) E<|gK h45 fun hg47 h46=>go_E hΓ 1 E<|ge_q E (.inl E) (fun _ _=>Kiv (qt_p (Knc hg47 E)))<|ge_q E (.inl E) (fun _ _=>Kiv (qt_p (Knd hΓ hg47 E E E E E E)))<|bK h46 fun m48 hm48 h49=>ge_p E (fun hp hs=>Kne hΓ (enc:=Lbx) (bg:=0) m48 E (hs 0 _ E E) (ArU.l _ (Kmp (fun _ _=>E) hm48 m48)) E (g:=I m48.to) E E) E<|ge_q E (.inl E) (fun _ _=>Kiv (qt_p (Kjk hΓ (gs:=[S x15,S m26.asked.By,S m30.asked.Node,S m34.asked.Posture,I y36,I (m40.yes.2.length:Int),I m44.v_from,I m48.to]) E E E E E E)))<|Kji hΓ (enc:=Lby) [(⟨x15,m26.asked.By,m30.asked.Node,m34.asked.Posture,y36,(m40.yes.2.length:Int),m44.v_from,m48.to⟩:Kwk)] E E E E E E E E E E E E<|bK h49 fun y50 hy50 h51=>ge_h [bg y9.2,mObH y9.1.list,.box 186 [.d (Sl Lbu y9.1.access),.map 1],.dead,.box 184 [.map 1],.dead,rO 117 8 Lby y50] E E E (Kjc ⟨E,tV⟩) (Kjf (Kim hΓ (enc:=Lby) (id:=3) (h2:=show Γ 117=some ⟨_,8,_,_⟩ from E) hy50 E E E E E E E E (fun _=>E) E))<|go_E hΓ 1 E<|Kiu<|gA 2 E<|Kip 6 3 [bg y9.2,mObH y9.1.list,.box 186 [.d (Sl Lbu y9.1.access),.map 1],rO 117 8 Lby y50,.box 184 [.map 1],.dead,.dead] E E E E E E<|gA 4 E ?_
   cases h51
   exact⟨⟨E,E,E,E,E,Keq E (Kep (nLl hlt hb19)),tV⟩,[_],E,.inr ⟨HB.mk E,FB.mk E,Z⟩⟩
  exact gA 6 E<|Kfq E (dF (Int.lt_irrefl _))<|gA 4 E<|⟨⟨E,tV⟩,[],E,.inl E⟩
 exact gA 5 E<|Khb 3 [6,11,84] _ [bg y9.2,mObH y9.1.list,.box 186 [.d (Sl Lbu y9.1.access),.map 1],.dead,.box 184 [.map 1],.dead] E E E Z<|gO 4 E<|oSi h17▸Khi hΓ [_,_,_,_,_] (.inr E) E E E E (.inr ⟨HB.mk E,E⟩)
theorem Ldo{s:List Kwl}{r:List Kwl}(h:Kyd s=some r):EC Tryz.prog 156 [.d (Sl Lbz s)] [] fun g hp'=>g=.sl 0 r.length∧hp'=[rO 78 2 Lbz r]:=by
 unfold Kyd at h
 refine QM Tryz.func156 E Z<|gA 2 E<|Kgs (t:=0) 78 2 E Z<|gO 6 E<|Kff hΓ E E E E E fun b hbn=>?_
 rcases b with _ | _
 ·exact gO 7 E<|Kgr hΓ (enc:=Lbz) ([]:List Kwl) E E E E E E E E E E E E Z<|bK h fun y1 hy1 h2=>gO 1 E<|Khe hΓ (enc:=Lbz) hy1 E E E E E E E E E (fun _=>E) E E E E<|gO 3 E<|Klt 0 [.dead,rO 78 2 Lbz y1] E Z<|Kip 1 0 [rO 78 2 Lbz y1,.dead] E E E E E E<|gA 1 E<|Kjp<|oSi h2▸Khi hΓ [_] (.inr E) E E E E (.inr ⟨HB.mk E,E⟩)
 obtain rfl:=List.eq_nil_of_length_eq_zero (hbn rfl).1
 replace h:(some ([]:List Kwl):Option (List Kwl))=some r:=h
 exact gO 5 E<|Kgs (t:=0) 78 2 E Z<|gO 4 E<|Klp 0 [.dead,rO 78 2 Lbz ([]:List Kwl)] E Z<|Kjr 1 0 [rO 78 2 Lbz ([]:List Kwl),.dead] E E E E E E<|Kjp<|oSi h▸Khi hΓ [_] (.inr E) E E E E (.inr ⟨HB.mk E,E⟩)
theorem Ldp{a:Kwl}{b:Kwl}{r:Int}(h:Kye a b=some r):Pure Tryz.prog 154 [.agg [S a.Node,S a.Posture],.agg [S b.Node,S b.Posture]] (I r):=by
 unfold Kye at h
 exact QP Tryz.func154 E E E<|gA 2 E<|Ksj E E E E Z<|Ksj E E E E Z<|gO 4 E<|jD<|bK h fun y1 hy1 h2=>gA 4 E<|Kgw C (Kuo hy1) E E E E E E<|bK h2 fun y3 hy3 h4=>Kfm hΓ 4 E<|Kgw C (Kuo hy3) E E E E E E<|Kgq hΓ (enc:=(eN .i64)) [y1,y3] E E E E E E E E E E E E<|bK h4 fun y5 hy5 h6=>Kgw C (Lcw hy5) E E E E E E<|Kfm hΓ 4 E<|oSi h6▸gP E E
theorem Ldq{x:List Kwl}(h:CmpT (fun a b=>Kye a b)∧x.length<4611686018427387904):EC Tryz.prog 151 [.sl 0 x.length,.fn (.func 154) [] []] [rO 78 2 Lbz x] fun g hp'=>∃ r,SrtP (fun a b=>Kye a b) x r∧g=.tup []∧hp'=[rO 78 2 Lbz r]:=
 haveI:Inhabited Kwl:=⟨(⟨[],[]⟩:Kwl)⟩
 EC.sortFuncD Tryz.sortf151 hΓ (show Γ 78=some _ from E) E (fun x=>[(.string ⟨x.Node.toArray⟩),(.string ⟨x.Posture.toArray⟩)]) Lbz (fun _=>E) (fun _=>E) (fun _=>E) (enters_of Tryz.func154 (by kernel_rfl) E) (fun h=>Ldp h) h.1 h.2
theorem Ldr{k:Nat}{s:List Kwl}{r:List Kwl}(h:Kyf k s=some r):EC Tryz.prog 153 [.sl 0 s.length] [rO 78 2 Lbz s] fun g hp'=>g=.sl 0 r.length∧hp'=[rO 78 2 Lbz r]:=by
 unfold Kyf at h
 refine QN Tryz.func153 E Z<|gA 13 E<|jC E h (fun h1=>?_) fun h2=>gA 8 E<|bK h2 fun q6 hq6 h7=>Kjs (R:=fun a8=>q6=.inl a8) (fun a8=>[(0,.sl 0 s.length)]) (fun a8=>[rO 78 2 Lbz s]) ?_ ?_
 ·exact gA 8 E<|oSi h1▸Khi hΓ [] (.inr E) E E E E (.inl E)
 ·refine gA 1 E<|Kgb hq6 (fun s4=>[(0,.sl 0 s.length),(3,I s4)]) (fun s4=>[rO 78 2 Lbz s]) ⟨⟨E,E,tV⟩,[],E,.inl E⟩ (fun s4 y12 hy10 hout11=>?_)
  refine gA 9 E<|jC E hy10 (fun h13=>?_) fun h60=>gA 4 E ?_
  ·refine gA 5 E<|jD<|bK h13 fun x14 hx14 h15=>?_
   have hj16:=Khn hx14
   refine gA 2 E<|gl_o E (Kgh hΓ hx14 E E E E E E)<|gl_o E (Kgm hΓ (enc:=Lbz) s4.toNat 0 hj16 E E E E (fun _=>E) (g:=.agg [S x14.Node,S x14.Posture]) E)<|bK h15 fun x17 hx17 h18=>?_
   have hj19:=Khn hx17
   refine Kfm hΓ 3 E<|gl_o E (Kgh hΓ hx17 E E E E E E)<|gl_o E (Kgm hΓ (enc:=Lbz) ((wi (s4 - 1)).toNat) 0 hj19 E E E E (fun _=>E) (g:=.agg [S x17.Node,S x17.Posture]) E)<|gl_o E (Khr hΓ [78] (b:=(((x14.Node:Str)==x17.Node)&&(((x14.Posture:Str)==x17.Posture)&&true))) (by kernel_rfl) (by kernel_rfl) E E E)<|Kfm hΓ 2 E<|jC E h18 (fun h20=>?_) fun h59=>gA 8 E<|oSi h59▸⟨_,E,⟨⟨E,E,tV⟩,[],E,.inl E⟩⟩
   refine bK h20 fun z21 hz21 h22=>gA 4 E<|eo_o E (Kkb hΓ hz21 E E E E E E)<|gO 9 E<|bK h22 fun q26 hq26 h27=>Kjt [(0,.sl 0 q26.1.length),(3,I q26.2)] [rO 78 2 Lbz q26.1] ?_ ?_
   ·refine gA 1 E<|Kgb hq26 (fun s24=>[(0,.sl 0 s24.1.length),(3,I s24.2.1),(4,.slo 0 2 s4.toNat z21.length),(5,I s24.2.2)]) (fun s24=>[rO 78 2 Lbz s24.1]) ⟨⟨E,E,E,E,tV⟩,[],E,.inl E⟩ (fun s24 y32 hy30 hout31=>?_)
    refine gA 9 E<|jC E hy30 (fun h33=>?_) fun h54=>gA 4 E ?_
    ·refine gA 5 E<|jD<|bK h33 fun x34 hx34 h35=>bK h35 fun x36 hx36 h37=>?_
     have hj38:s24.1[(s4.toNat+s24.2.2.toNat)]?=some x36:=hx36
     refine gA 2 E<|gl_o E (Kkf hΓ hx34 E E E E E E E)<|gl_o E (Kgm hΓ (enc:=Lbz) (s4.toNat+s24.2.2.toNat) 0 hj38 E E E E (fun _=>E) (g:=.agg [S x36.Node,S x36.Posture]) E)<|bK h37 fun x39 hx39 h40=>bK h40 fun x41 hx41 h42=>?_
     have hj43:s24.1[(s4.toNat+(wi (s24.2.2 - 1)).toNat)]?=some x41:=hx41
     refine Kfm hΓ 3 E<|gl_o E (Kkf hΓ hx39 E E E E E E E)<|gl_o E (Kgm hΓ (enc:=Lbz) (s4.toNat+(wi (s24.2.2 - 1)).toNat) 0 hj43 E E E E (fun _=>E) (g:=.agg [S x41.Node,S x41.Posture]) E)<|gl_o E (Khs hΓ [78] (b:=(((x36.Node:Str)==x41.Node)&&(((x36.Posture:Str)==x41.Posture)&&true))) (by kernel_rfl) (by kernel_rfl) E E E)<|Kfm hΓ 2 E<|jC E h42 (fun h44=>?_) fun h53=>gA 8 E<|oSi h53▸⟨_,E,⟨⟨E,E,E,E,tV⟩,[],E,.inl E⟩⟩
     refine bK h44 fun x45 hx45 h46=>bK h46 fun x47 hx47 h48=>?_
     have hj49:s24.1[(s4.toNat+s24.2.2.toNat)]?=some x47:=hx47
     refine gA 6 E<|eo_o E (Kkf hΓ hx45 E E E E E E E)<|eo_o E (Kgm hΓ (enc:=Lbz) (s4.toNat+s24.2.2.toNat) 0 hj49 E E E E (fun _=>E) (g:=.agg [S x47.Node,S x47.Posture]) E)<|bK h48 fun x50 hx50 h51=>?_
     have hj52:=Khn hx50
     exact eo_o E (Kgh hΓ hx50 E E E E E E)<|Kgo hΓ (enc:=Lbz) (z':=x47) s24.2.1.toNat 0 hj52 E E E E (fun _=>E) E E E E E E Z<|Khd [rO 78 2 Lbz (s24.1.set s24.2.1.toNat x47)] E<|Kkd 0 (n':=(s24.1.set s24.2.1.toNat x47).length) E List.length_set.symm<|gO 14 E<|oSi h51▸⟨_,E,⟨⟨E,E,E,E,tV⟩,[],E,.inl E⟩⟩
    cases h54
    obtain rfl:=hout31 _ rfl
    exact⟨⟨E,E,tV⟩,[],E,.inl E⟩
   refine bK h27 fun z55 hz55 h56=>gA 5 E<|eo_o E (Kkb hΓ hz55 E E E E E E)<|Kjy Z (Kka hΓ (enc:=Lbz) (a:=q26.2) hz55 E E E E E E E E E E (fun _=>E))<|gO 6 E<|Kkc hΓ hz55 E E E E E E E E<|gO 6 E<|bK h56 fun v57 hv57 h58=>?_
   cases h58
   obtain rfl:=hout11 _ rfl
   cases h7
   exact gA 4 E<|oSi hv57▸Khi hΓ [] (.inr E) E E E E (.inl E)
  cases h60
  obtain rfl:=hout11 _ rfl
  exact⟨_,E,⟨⟨E,tV⟩,[],E,.inl E⟩⟩
 intro a8 ha
 subst ha
 replace h7:=Kjm h7
 exact gA 8 E<|oSi h7▸Khi hΓ [] (.inr E) E E E E (.inl E)
theorem Lds{k:Nat}{l:List Kwl}{r:List Kwl}(h:Kyg k l=some r):EC Tryz.prog 155 [.d (Sl Lbz l)] [] fun g hp'=>g=.sl 0 r.length∧hp'=[rO 78 2 Lbz r]:=by
 unfold Kyg at h
 refine QM Tryz.func155 E Z<|bK h fun y1 hy1 h2=>gA 8 E<|Kgu [] (.sl 0 y1.length) [rO 78 2 Lbz y1] C (Ldo hy1) E Z E E E E E E E E E E ?_
 obtain⟨hok4,ha5⟩:=Kps h2
 refine gO 6 E<|Kpu [0] (.tup []) (fun y3=>[rO 78 2 Lbz y3]) C (Ldq hok4) E Z E E E E E E E E E (fun _=>E)<|fun y3 hy3=>?_
 have h6:=ha5 y3 hy3
 exact gK h6 fun hg8 h7=>Kkd 0 E (of_decide_eq_true hg8).symm<|bK h7 fun y9 hy9 h10=>gO 5 E<|Kgu [0] (.sl 0 y9.length) [rO 78 2 Lbz y9] C (Ldr hy9) E Z E E E E E E E E E E<|gO 4 E<|Kjp<|oSi h10▸Khi hΓ [] (.inr E) E E E E (.inl E)
theorem Ldt{k:Nat}{b:Kwi}{v_at:Int}{al:BagT}{r:List Kwl}(h:Kyh k b v_at al=some r):EC Tryz.prog 139 [.ptr 1 0,I v_at] [mObH b.list,.box 186 [.d (Sl Lbu b.access),.map 0],bg al] fun g hp'=>g=.d (Sl Lbz r)∧hp'=[mObH b.list,.box 186 [.d (Sl Lbu b.access),.map 0],bg al]:=by
 unfold Kyh at h
 refine QN Tryz.func139 E Z<|gA 7 E<|Kgs (t:=0) 78 2 E Z<|gO 9 E<|Kll hΓ (kv:=kS) (agg:=false) (enc:=(eH (some 0))) b.list E E E E E Z (fun mr1 bs2 cl3 hpm4 hbl5 hbn6=>?_)
 refine Khd [mObS kS false (eH (some 0)) b.list (rawM kS (eH (some 0)) mr1 bs2 cl3),.box 186 [.d (Sl Lbu b.access),.map 0],bg al,rO 78 2 Lbz ([]:List Kwl),.iter 0 cl3 []] E<|gO 2 E<|gA 1 E<|Kna (Knh h) hpm4 hbl5 hbn6 (fun s7=>[(1,I v_at),(5,.sl 3 s7.length),(12,.ptr 4 0)]) (fun sn9 s7=>[mObS kS false (eH (some 0)) b.list (rawM kS (eH (some 0)) mr1 bs2 cl3),.box 186 [.d (Sl Lbu b.access),.map 0],bg al,rO 78 2 Lbz s7,.iter 0 cl3 sn9]) ⟨⟨E,E,E,tV⟩,[],E,.inl E⟩ (fun sn9 s7 hdone12 hstep13=>?_)
 refine j_cv<|gA 2 E<|Klm (kv:=kS) (agg:=false) (enc:=(eH (some 0))) b.list mr1 bs2 cl3 sn9 [mObH b.list,.box 186 [.d (Sl Lbu b.access),.map 0],bg al,rO 78 2 Lbz s7,.dead] E E E E E Z (fun hdsn9=>?_) (fun j10 x8 b11 hjsn9 hbsn9 hnsn9=>?_)
 ·have h14:=hdone12 hdsn9
  exact gO 13 E<|Khb 3 [5,51] _ [mObH b.list,.box 186 [.d (Sl Lbu b.access),.map 0],bg al,.dead,.dead] E E E Z<|bK h14 fun y15 hy15 h16=>Kgv C (Pure.rows (Lds hy15) E E) E Z E E E E E<|gO 4 E<|oSi h16▸Khi hΓ [_,_] (.inr E) E E E E (.inr ⟨HB.mk E,E⟩)
 obtain⟨s17,h18⟩:=hstep13 j10 x8 b11 hjsn9 hbsn9 hnsn9
 have hssn9:=h18
 refine gO 10 E<|eo_o E (Kln (kv:=kS) (agg:=false) (enc:=(eH (some 0))) b.list mr1 bs2 cl3 sn9 hjsn9 hbsn9 E E E E (fun _=>E))<|gK h18 fun hg20 h19=>gO 7 E<|eo_o E (Knc hg20 E)<|eo_o E (Knd hΓ hg20 E E E E E E)<|bK h19 fun m21 hm21 h22=>eo_o E (Kne hΓ (enc:=Lbx) (bg:=2) m21 E E (ArU.l _ (Kmp (fun _ _=>E) hm21 m21)) E (g:=B m21.given) E E)<|gO 1 E<|bK h22 fun q23 hq23 h24=>Kfu 7 [(1,I v_at),(5,.sl 3 s7.length),(7,.d (.hd (some 0) x8.2)),(12,.ptr 4 0),(28,B q23)] [mObS kS false (eH (some 0)) b.list (rawM kS (eH (some 0)) mr1 bs2 cl3),.box 186 [.d (Sl Lbu b.access),.map 0],bg al,rO 78 2 Lbz s7,.iter 0 cl3 (sn9++[b11])] ?_ ?_
 ·refine Krc E E (fun hb=>?_) (fun hb=>?_)
  ·have h25:=cT hq23 hb
   exact gK h25 fun hg27 h26=>gO 1 E<|Kra E<|eo_o E (Knc hg27 E)<|Kra E<|eo_o E (Knd hΓ hg27 E E E E E E)<|bK h26 fun m28 hm28 h29=>Kra E<|eo_o E (Kne hΓ (enc:=Lbx) (bg:=2) m28 E E (ArU.l _ (Kmp (fun _ _=>E) hm28 m28)) E (g:=I m28.v_from) E E)<|gO 4 E<|oSi h29▸⟨⟨E,E,E,E,E,tV⟩,[],E,.inl E⟩
  have h30:=cF hq23 hb
  exact gO 8 E<|oSi h30▸⟨⟨E,E,E,E,E,tV⟩,[],E,.inl E⟩
 refine gO 1 E<|bK h24 fun q31 hq31 h32=>Kfu 7 [(1,I v_at),(5,.sl 3 s7.length),(7,.d (.hd (some 0) x8.2)),(12,.ptr 4 0),(36,B q31)] [mObS kS false (eH (some 0)) b.list (rawM kS (eH (some 0)) mr1 bs2 cl3),.box 186 [.d (Sl Lbu b.access),.map 0],bg al,rO 78 2 Lbz s7,.iter 0 cl3 (sn9++[b11])] ?_ ?_
 ·refine Krc E E (fun hb=>?_) (fun hb=>?_)
  ·have h33:=cT hq31 hb
   exact gK h33 fun hg35 h34=>gO 2 E<|Kra E<|eo_o E (Knc hg35 E)<|Kra E<|eo_o E (Knd hΓ hg35 E E E E E E)<|bK h34 fun m36 hm36 h37=>Kra E<|eo_o E (Kne hΓ (enc:=Lbx) (bg:=2) m36 E E (ArU.l _ (Kmp (fun _ _=>E) hm36 m36)) E (g:=I m36.to) E E)<|gO 3 E<|oSi h37▸⟨⟨E,E,E,E,E,tV⟩,[],E,.inl E⟩
  have h38:=cF hq31 hb
  exact gO 8 E<|oSi h38▸⟨⟨E,E,E,E,E,tV⟩,[],E,.inl E⟩
 refine gO 2 E<|jC E h32 (fun h39=>?_) fun h50=>gA 2 E<|Kjp ?_
 ·refine Kit [.dead,.dead,bg al] [5,10] [13] [] hmix (by kernel_rfl) (by kernel_rfl) ⟨E,tV⟩ Z<|gK h39 fun hg41 h40=>go_E hΓ 2 E<|ge_q E (.inl E) (fun _ _=>Kiv (qt_p (Knc hg41 E)))<|ge_q E (.inl E) (fun _ _=>Kiv (qt_p (Knd hΓ hg41 E E E E E E)))<|ge_q E (.inl E) (fun _ _=>Kiv (qt_p (Knd hΓ hg41 E E E E E E)))<|bK h40 fun m42 hm42 h43=>ge_p E (fun hp hs=>Kne hΓ (enc:=Lbx) (bg:=2) m42 E (hs 2 _ E E) (ArU.l _ (Kmp (fun _ _=>E) hm42 m42)) E (g:=S m42.asked.Node) E E) E<|gK h43 fun hg45 h44=>go_E hΓ 1 E<|ge_q E (.inl E) (fun _ _=>Kiv (qt_p (Knc hg45 E)))<|ge_q E (.inl E) (fun _ _=>Kiv (qt_p (Knd hΓ hg45 E E E E E E)))<|ge_q E (.inl E) (fun _ _=>Kiv (qt_p (Knd hΓ hg45 E E E E E E)))<|bK h44 fun m46 hm46 h47=>ge_p E (fun hp hs=>Kne hΓ (enc:=Lbx) (bg:=2) m46 E (hs 2 _ E E) (ArU.l _ (Kmp (fun _ _=>E) hm46 m46)) E (g:=S m46.asked.Posture) E E) E<|ge_q E (.inl E) (fun _ _=>Kiv (qt_p (Kjk hΓ (gs:=[S m42.asked.Node,S m46.asked.Posture]) E E E E E E)))<|Kji hΓ (enc:=Lbz) [(⟨m42.asked.Node,m46.asked.Posture⟩:Kwl)] E E E E E E E E E E E E<|bK h47 fun y48 hy48 h49=>ge_h [mObS kS false (eH (some 0)) b.list (rawM kS (eH (some 0)) mr1 bs2 cl3),.box 186 [.d (Sl Lbu b.access),.map 0],bg al,.dead,.iter 0 cl3 (sn9++[b11]),rO 78 2 Lbz y48] E E E (Kjc ⟨E,tV⟩) (Kjf (Kim hΓ (enc:=Lbz) (id:=3) (h2:=show Γ 78=some ⟨_,2,_,_⟩ from E) hy48 E E E E E E E E (fun _=>E) E))<|go_E hΓ 1 E<|Kiu<|gA 1 E<|Kjr 5 3 [mObS kS false (eH (some 0)) b.list (rawM kS (eH (some 0)) mr1 bs2 cl3),.box 186 [.d (Sl Lbu b.access),.map 0],bg al,rO 78 2 Lbz y48,.iter 0 cl3 (sn9++[b11]),.dead] E E E E E E<|Kjp ?_
  cases h49
  exact⟨j10,x8,b11,_,hjsn9,hbsn9,hnsn9,hssn9,⟨⟨E,E,E,tV⟩,[_],E,.inr ⟨HB.mk E,FB.mk E,Z⟩⟩⟩
 cases h50
 exact⟨j10,x8,b11,_,hjsn9,hbsn9,hnsn9,hssn9,⟨⟨E,E,E,tV⟩,[],E,.inl E⟩⟩
theorem Ldu{k:Nat}{v_r:List Kwf}{l:List Kwg}{v_at:Int}{al:BagT}{r:(List Kwl)×Int×BagT}(h:Kyi k v_r l v_at al=some r):EC Tryz.prog 61 [.d (Sl Lbu v_r),.d (Sl Lbv l),I v_at] [bg al] fun g hp'=>g=.tup [.d (Sl Lbz r.1),I r.2.1]∧hp'=[bg r.2.2]:=by
 unfold Kyi at h
 refine QN Tryz.func61 E Z<|bK h fun y1 hy1 h2=>gA 11 E<|Kgv C (Lcz hy1) E Z E E E E E<|gO 9 E<|jC E h2 (fun h3=>?_) fun h4=>bK h4 fun y5 hy5 h6=>gA 6 E<|Kgv C (Ldk hy5) E Z E E E E E<|gO 9 E<|jC E h6 (fun h7=>?_) fun h8=>?_
 ·exact gA 9 E<|oSi h3▸Khi hΓ [] (.inr E) E E E E (.inl E)
 ·exact gA 9 E<|oSi h7▸Khi hΓ [] (.inr E) E E E E (.inl E)
 exact bK h8 fun y9 hy9 h10=>gA 7 E<|Kgu [0] (.ptr 2 0) [bg y9.2,mObH y9.1.list,.box 186 [.d (Sl Lbu y9.1.access),.map 1]] C (Ldl hy9) E Z E E E E E E E E E E<|bK h10 fun y11 hy11 h12=>gO 1 E<|Kgu [1,2,0] (.d (Sl Lbz y11)) [bg y9.2,mObH y9.1.list,.box 186 [.d (Sl Lbu y9.1.access),.map 1]] C (Ldt hy11) E Z E E E E E E E E E E<|gO 5 E<|oSi h12▸Khi hΓ [_,_] (.inr E) E E E E (.inr ⟨HB.mk E,E⟩)
theorem Ldv{k:Nat}{s:List Int}{r:List Int}(h:Kyj k s=some r):EC Tryz.prog 141 [.sl 0 s.length] [rO 3 1 (eN .i64) s] fun g hp'=>g=.sl 0 r.length∧hp'=[rO 3 1 (eN .i64) r]:=by
 unfold Kyj at h
 refine QN Tryz.func141 E Z<|gA 2 E<|Kgs (t:=0) 3 1 E Z<|gO 10 E<|jC E h (fun h1=>?_) fun h2=>gA 8 E<|bK h2 fun q6 hq6 h7=>Kjs (R:=fun a8=>q6=.inl a8) (fun a8=>[(0,.sl 0 s.length)]) (fun a8=>[rO 3 1 (eN .i64) s,rO 3 1 (eN .i64) ([]:List Int)]) ?_ ?_
 ·exact gA 8 E<|oSi h1▸Khi hΓ [_] (.inr E) E E E E (.inr ⟨HB.mk E,E⟩)
 ·refine gA 1 E<|Kgb hq6 (fun s4=>[(0,.sl 0 s.length),(3,I s4)]) (fun s4=>[rO 3 1 (eN .i64) s,rO 3 1 (eN .i64) ([]:List Int)]) ⟨⟨E,E,tV⟩,[],E,.inl E⟩ (fun s4 y12 hy10 hout11=>?_)
  refine gA 9 E<|jC E hy10 (fun h13=>?_) fun h60=>gA 4 E ?_
  ·refine gA 5 E<|jD<|bK h13 fun x14 hx14 h15=>?_
   have hj16:=Khn hx14
   refine gA 2 E<|gl_o E (Kgh hΓ hx14 E E E E E E)<|gl_o E (Kgm hΓ (enc:=(eN .i64)) s4.toNat 0 hj16 E E E E (fun _=>E) (g:=I x14) E)<|bK h15 fun x17 hx17 h18=>?_
   have hj19:=Khn hx17
   refine Kfm hΓ 3 E<|gl_o E (Kgh hΓ hx17 E E E E E E)<|gl_o E (Kgm hΓ (enc:=(eN .i64)) ((wi (s4 - 1)).toNat) 0 hj19 E E E E (fun _=>E) (g:=I x17) E)<|Kfm hΓ 3 E<|jC E h18 (fun h20=>?_) fun h59=>gA 8 E<|oSi h59▸⟨_,E,⟨⟨E,E,tV⟩,[],E,.inl E⟩⟩
   refine bK h20 fun z21 hz21 h22=>gA 4 E<|eo_o E (Kkb hΓ hz21 E E E E E E)<|gO 9 E<|bK h22 fun q26 hq26 h27=>Kjt [(0,.sl 0 q26.1.length),(3,I q26.2)] [rO 3 1 (eN .i64) q26.1,rO 3 1 (eN .i64) ([]:List Int)] ?_ ?_
   ·refine gA 1 E<|Kgb hq26 (fun s24=>[(0,.sl 0 s24.1.length),(3,I s24.2.1),(4,.slo 0 1 s4.toNat z21.length),(5,I s24.2.2)]) (fun s24=>[rO 3 1 (eN .i64) s24.1,rO 3 1 (eN .i64) ([]:List Int)]) ⟨⟨E,E,E,E,tV⟩,[],E,.inl E⟩ (fun s24 y32 hy30 hout31=>?_)
    refine gA 9 E<|jC E hy30 (fun h33=>?_) fun h54=>gA 4 E ?_
    ·refine gA 5 E<|jD<|bK h33 fun x34 hx34 h35=>bK h35 fun x36 hx36 h37=>?_
     have hj38:s24.1[(s4.toNat+s24.2.2.toNat)]?=some x36:=hx36
     refine gA 2 E<|gl_o E (Kkf hΓ hx34 E E E E E E E)<|gl_o E (Kgm hΓ (enc:=(eN .i64)) (s4.toNat+s24.2.2.toNat) 0 hj38 E E E E (fun _=>E) (g:=I x36) E)<|bK h37 fun x39 hx39 h40=>bK h40 fun x41 hx41 h42=>?_
     have hj43:s24.1[(s4.toNat+(wi (s24.2.2 - 1)).toNat)]?=some x41:=hx41
     refine Kfm hΓ 3 E<|gl_o E (Kkf hΓ hx39 E E E E E E E)<|gl_o E (Kgm hΓ (enc:=(eN .i64)) (s4.toNat+(wi (s24.2.2 - 1)).toNat) 0 hj43 E E E E (fun _=>E) (g:=I x41) E)<|Kfm hΓ 3 E<|jC E h42 (fun h44=>?_) fun h53=>gA 8 E<|oSi h53▸⟨_,E,⟨⟨E,E,E,E,tV⟩,[],E,.inl E⟩⟩
     refine bK h44 fun x45 hx45 h46=>bK h46 fun x47 hx47 h48=>?_
     have hj49:s24.1[(s4.toNat+s24.2.2.toNat)]?=some x47:=hx47
     refine gA 6 E<|eo_o E (Kkf hΓ hx45 E E E E E E E)<|eo_o E (Kgm hΓ (enc:=(eN .i64)) (s4.toNat+s24.2.2.toNat) 0 hj49 E E E E (fun _=>E) (g:=I x47) E)<|bK h48 fun x50 hx50 h51=>?_
     have hj52:=Khn hx50
     exact eo_o E (Kgh hΓ hx50 E E E E E E)<|Kgo hΓ (enc:=(eN .i64)) (z':=x47) s24.2.1.toNat 0 hj52 E E E E (fun _=>E) E E E E E E Z<|Khd [rO 3 1 (eN .i64) (s24.1.set s24.2.1.toNat x47),rO 3 1 (eN .i64) ([]:List Int)] E<|Kkd 0 (n':=(s24.1.set s24.2.1.toNat x47).length) E List.length_set.symm<|gO 14 E<|oSi h51▸⟨_,E,⟨⟨E,E,E,E,tV⟩,[],E,.inl E⟩⟩
    cases h54
    obtain rfl:=hout31 _ rfl
    exact⟨⟨E,E,tV⟩,[],E,.inl E⟩
   refine bK h27 fun z55 hz55 h56=>gA 5 E<|eo_o E (Kkb hΓ hz55 E E E E E E)<|Kjy Z (Kka hΓ (enc:=(eN .i64)) (a:=q26.2) hz55 E E E E E E E E E E (fun _=>E))<|gO 6 E<|Kkc hΓ hz55 E E E E E E E E<|gO 6 E<|bK h56 fun v57 hv57 h58=>?_
   cases h58
   obtain rfl:=hout11 _ rfl
   cases h7
   exact gA 4 E<|oSi hv57▸Khi hΓ [_] (.inr E) E E E E (.inr ⟨HB.mk E,E⟩)
  cases h60
  obtain rfl:=hout11 _ rfl
  exact⟨_,E,⟨⟨E,tV⟩,[],E,.inl E⟩⟩
 intro a8 ha
 subst ha
 replace h7:=Kjm h7
 exact gA 8 E<|oSi h7▸Khi hΓ [_] (.inr E) E E E E (.inr ⟨HB.mk E,E⟩)
theorem Ldw{s1:List Kwl}{s2:List Kwl}{r:Bool}(h:Kyk s1 s2=some r):Pure Tryz.prog 42 [.d (Sl Lbz s1),.d (Sl Lbz s2)] (B r):=by
 unfold Kyk at h
 refine QP Tryz.func42 E E E<|gA 15 E<|jC E h (fun h1=>?_) fun h2=>gA 10 E<|bK h2 fun q6 hq6 h7=>Kge 0 E fun hb9=>Kjs (R:=fun a8=>q6=.go a8) (fun a8=>[]) (fun a8=>[]) ?_ ?_
 ·exact gA 7 E<|oSi h1▸gP E E
 ·refine gA 1 E<|Kgd s1 hq6 (fun i3 s4=>[(0,.d (Sl Lbz s1)),(1,.d (Sl Lbz s2)),(12,I (s1.length:Int)),(13,I (i3:Int))]) (fun s4=>[]) ⟨⟨E,E,E,E,tV⟩,[],E,.inl E⟩ (fun i3 x5 s4 y13 hx10 hlt hy11 hout12=>?_) (fun s4 hgo=>?_)
  ·refine gA 6 E<|Kfp E (dT (Int.ofNat_lt.2 hlt))<|gA 11 E<|jD<|gA 2 E<|gl_o E (Kgf hΓ (enc:=Lbz) (Kfy hx10) E E E E E (fun _=>E))<|bK hy11 fun x14 hx14 h15=>Kfm hΓ 3 E<|gl_o E (Kgf hΓ (enc:=Lbz) hx14 E E E E E (fun _=>E))<|Kfm hΓ 1 E<|gl_o E (Khs hΓ [78] (b:=(((x5.Node:Str)==x14.Node)&&(((x5.Posture:Str)==x14.Posture)&&true))) (by kernel_rfl) (by kernel_rfl) E E E)<|Kfm hΓ 2 E<|jC E h15 (fun h16=>?_) fun h19=>gA 7 E ?_
   ·refine gA 8 E<|bK h16 fun v17 hv17 h18=>?_
    cases h18
    obtain rfl:=hout12 _ rfl
    cases h7
    exact gA 4 E<|oSi hv17▸gP E E
   cases h19
   exact⟨_,E,⟨⟨E,E,E,Keq E (Kep (nLl hlt hb9)),tV⟩,[],E,.inl E⟩⟩
  subst hgo
  exact gA 6 E<|Kfq E (dF (Int.lt_irrefl _))<|gA 4 E<|⟨_,E,⟨tV,[],E,.inl E⟩⟩
 intro a8 ha
 subst ha
 replace h7:=Kjn h7
 exact gA 7 E<|oSi h7▸gP E E
theorem Ldx{k:Nat}{v_r:List Kwf}{l:List Kwg}{v_at:Int}{al:BagT}{r:Int×Bool×Int×BagT}(h:Kyl k v_r l v_at al=some r):EC Tryz.prog 62 [.d (Sl Lbu v_r),.d (Sl Lbv l),I v_at] [bg al] fun g hp'=>g=.tup [I r.1,B r.2.1,I r.2.2.1]∧hp'=[bg r.2.2.2]:=by
 unfold Kyl at h
 refine QN Tryz.func62 E Z<|bK h fun y1 hy1 h2=>gA 12 E<|Kgv C (Lcz hy1) E Z E E E E E<|gO 9 E<|Kfo E (fun hb=>?_) (fun hb=>?_)
 ·have h3:=cT h2 hb
  exact gA 10 E<|oSi h3▸Khi hΓ [] (.inr E) E E E E (.inl E)
 have h4:=cF h2 hb
 refine bK h4 fun y5 hy5 h6=>gA 6 E<|Kgv C (Ldk hy5) E Z E E E E E<|gO 9 E<|Kfo E (fun hb=>?_) (fun hb=>?_)
 ·have h7:=cT h6 hb
  exact gA 10 E<|oSi h7▸Khi hΓ [] (.inr E) E E E E (.inl E)
 have h8:=cF h6 hb
 refine bK h8 fun y9 hy9 h10=>gA 6 E<|Kgu [0] (.ptr 2 0) [bg y9.2,mObH y9.1.list,.box 186 [.d (Sl Lbu y9.1.access),.map 1]] C (Ldl hy9) E Z E E E E E E E E E E<|gO 5 E<|Kgs (t:=0) 3 1 E Z<|gO 9 E<|Kll hΓ (kv:=kS) (agg:=false) (enc:=(eH (some 0))) y9.1.list E E E E E Z (fun mr11 bs12 cl13 hpm14 hbl15 hbn16=>?_)
 refine Khd [bg y9.2,mObS kS false (eH (some 0)) y9.1.list (rawM kS (eH (some 0)) mr11 bs12 cl13),.box 186 [.d (Sl Lbu y9.1.access),.map 1],rO 3 1 (eN .i64) ([]:List Int),.iter 1 cl13 []] E<|gO 2 E<|gA 1 E<|Kna (Knh h10) hpm14 hbl15 hbn16 (fun s17=>[(2,I v_at),(11,.ptr 2 0),(12,.sl 3 s17.length),(35,.ptr 4 0)]) (fun sn19 s17=>[bg y9.2,mObS kS false (eH (some 0)) y9.1.list (rawM kS (eH (some 0)) mr11 bs12 cl13),.box 186 [.d (Sl Lbu y9.1.access),.map 1],rO 3 1 (eN .i64) s17,.iter 1 cl13 sn19]) ⟨⟨E,E,E,E,tV⟩,[],E,.inl E⟩ (fun sn19 s17 hdone22 hstep23=>?_)
 refine j_cv<|gA 2 E<|Klm (kv:=kS) (agg:=false) (enc:=(eH (some 0))) y9.1.list mr11 bs12 cl13 sn19 [bg y9.2,mObH y9.1.list,.box 186 [.d (Sl Lbu y9.1.access),.map 1],rO 3 1 (eN .i64) s17,.dead] E E E E E Z (fun hdsn19=>?_) (fun j20 x18 b21 hjsn19 hbsn19 hnsn19=>?_)
 ·have h24:=hdone22 hdsn19
  refine bK h24 fun y25 hy25 h26=>gO 13 E<|Kgu [3] (.tup []) [bg y9.2,mObH y9.1.list,.box 186 [.d (Sl Lbu y9.1.access),.map 1],rO 3 1 (eN .i64) y25,.dead] C (Kup hy25) E Z E E E E E E E E E E<|gK h26 fun hg28 h27=>Kkd 12 E (of_decide_eq_true hg28).symm<|bK h27 fun y29 hy29 h30=>gO 6 E<|Kgu [3] (.sl 3 y29.length) [bg y9.2,mObH y9.1.list,.box 186 [.d (Sl Lbu y9.1.access),.map 1],rO 3 1 (eN .i64) y29,.dead] C (Ldv hy29) E Z E E E E E E E E E E<|gO 4 E<|bK h30 fun q34 hq34 h35=>gK hq34 fun hb37 h38=>?_
  replace hb37:=of_decide_eq_true hb37
  refine Kjs (R:=fun a36=>q34=.go a36) (fun a36=>[]) (fun a36=>[bg y9.2,mObH y9.1.list,.box 186 [.d (Sl Lbu y9.1.access),.map 1],rO 3 1 (eN .i64) y29,.dead]) ?_ ?_
  ·refine gA 1 E<|Khl h38 (fun i31 s32=>[(2,I v_at),(11,.ptr 2 0),(58,.sl 3 y29.length),(59,I (y29.length:Int)),(60,I (i31:Int))]) (fun s32=>[bg y9.2,mObH y9.1.list,.box 186 [.d (Sl Lbu y9.1.access),.map 1],rO 3 1 (eN .i64) y29,.dead]) ⟨⟨E,E,E,E,E,tV⟩,[],E,.inl E⟩ (fun i31 s32 y42 hlt hy40 hout41=>?_) (fun s32 hgo hge=>?_)
   ·refine gA 6 E<|Kfp E (dT hlt)<|bK hy40 fun x43 hx43 h44=>?_
    have hj45:=Khn hx43
    refine gA 6 E<|eo_o E (Kgh hΓ hx43 E E E E E E)<|eo_o E (Kgm hΓ (enc:=(eN .i64)) ((i31:Int).toNat) 0 hj45 E E E E (fun _=>E) (g:=I x43) E)<|gO 9 E<|Kfu 3 [(2,I v_at),(11,.ptr 2 0),(16,I x43),(58,.sl 3 y29.length),(59,I (y29.length:Int)),(60,I (i31:Int)),(70,B ((decide ((x43:Int)>v_at))&&(decide ((x43:Int)<345686400))))] [bg y9.2,mObH y9.1.list,.box 186 [.d (Sl Lbu y9.1.access),.map 1],rO 3 1 (eN .i64) y29,.dead] ?_ ?_
    ·refine Krc E E (fun hb=>?_) (fun hb=>?_)
     ·exact gO 4 E<|⟨⟨E,E,E,E,E,E,Ker E (Kho hb),tV⟩,[],E,.inl E⟩
     exact gO 4 E<|⟨⟨E,E,E,E,E,E,Ker E (Khp hb),tV⟩,[],E,.inl E⟩
    refine gO 1 E<|bK h44 fun q46 hq46 h47=>Kfu 10 [(2,I v_at),(11,.ptr 2 0),(16,I x43),(58,.sl 3 y29.length),(59,I (y29.length:Int)),(60,I (i31:Int)),(81,B q46)] [bg y9.2,mObH y9.1.list,.box 186 [.d (Sl Lbu y9.1.access),.map 1],rO 3 1 (eN .i64) y29,.dead] ?_ ?_
    ·refine Krc E E (fun hb=>?_) (fun hb=>?_)
     ·have h48:=cT hq46 hb
      exact bK h48 fun y49 hy49 h50=>gO 2 E<|Kra E<|Kgu [1,2,0] (.d (Sl Lbz y49)) [bg y9.2,mObH y9.1.list,.box 186 [.d (Sl Lbu y9.1.access),.map 1],rO 3 1 (eN .i64) y29,.dead] C (Ldt hy49) E Z E E E E E E E E E E<|bK h50 fun y51 hy51 h52=>gO 3 E<|Kra E<|Kgu [1,2,0] (.d (Sl Lbz y51)) [bg y9.2,mObH y9.1.list,.box 186 [.d (Sl Lbu y9.1.access),.map 1],rO 3 1 (eN .i64) y29,.dead] C (Ldt hy51) E Z E E E E E E E E E E<|bK h52 fun y53 hy53 h54=>Kra E<|Kgv C (Ldw hy53) E Z E E E E E<|gO 3 E<|oSi h54▸⟨⟨E,E,E,E,E,E,E,tV⟩,[],E,.inl E⟩
     have h55:=cF hq46 hb
     exact gO 11 E<|oSi h55▸⟨⟨E,E,E,E,E,E,E,tV⟩,[],E,.inl E⟩
    refine gO 2 E<|jC E h47 (fun h56=>?_) fun h59=>gA 7 E<|oSi h59▸⟨_,E,⟨⟨E,E,E,E,Keq E (Kep (by omega)),tV⟩,[],E,.inl E⟩⟩
    refine gA 11 E<|bK h56 fun v57 hv57 h58=>?_
    cases h58
    obtain rfl:=hout41 _ rfl
    cases h35
    exact gA 4 E<|oSi hv57▸Khi hΓ [_,_,_,_] (.inr E) E E E E (.inr ⟨HB.mk E,E⟩)
   subst hgo
   exact gA 6 E<|Kfq E (dF hge)<|gA 4 E<|⟨_,E,⟨tV,[],E,.inl E⟩⟩
  intro a36 ha
  subst ha
  replace h35:=Kjn h35
  exact gA 9 E<|oSi h35▸Khi hΓ [_,_,_,_] (.inr E) E E E E (.inr ⟨HB.mk E,E⟩)
 obtain⟨s60,h61⟩:=hstep23 j20 x18 b21 hjsn19 hbsn19 hnsn19
 have hssn19:=h61
 refine gO 10 E<|eo_o E (Kln (kv:=kS) (agg:=false) (enc:=(eH (some 0))) y9.1.list mr11 bs12 cl13 sn19 hjsn19 hbsn19 E E E E (fun _=>E))<|gK h61 fun hg63 h62=>gO 7 E<|eo_o E (Knc hg63 E)<|eo_o E (Knd hΓ hg63 E E E E E E)<|bK h62 fun m64 hm64 h65=>eo_o E (Kne hΓ (enc:=Lbx) (bg:=0) m64 E E (ArU.l _ (Kmp (fun _ _=>E) hm64 m64)) E (g:=B m64.given) E E)<|gO 2 E<|jC E h65 (fun h66=>?_) fun h77=>gA 2 E<|Kjp ?_
 ·refine Kit [bg y9.2] [4,8] [10] [] hmix (by kernel_rfl) (by kernel_rfl) ⟨E,tV⟩ Z<|gK h66 fun hg68 h67=>go_E hΓ 2 E<|ge_q E (.inl E) (fun _ _=>Kiv (qt_p (Knc hg68 E)))<|ge_q E (.inl E) (fun _ _=>Kiv (qt_p (Knd hΓ hg68 E E E E E E)))<|bK h67 fun m69 hm69 h70=>ge_p E (fun hp hs=>Kne hΓ (enc:=Lbx) (bg:=0) m69 E (hs 0 _ E E) (ArU.l _ (Kmp (fun _ _=>E) hm69 m69)) E (g:=I m69.v_from) E E) E<|gK h70 fun hg72 h71=>go_E hΓ 1 E<|ge_q E (.inl E) (fun _ _=>Kiv (qt_p (Knc hg72 E)))<|ge_q E (.inl E) (fun _ _=>Kiv (qt_p (Knd hΓ hg72 E E E E E E)))<|bK h71 fun m73 hm73 h74=>ge_p E (fun hp hs=>Kne hΓ (enc:=Lbx) (bg:=0) m73 E (hs 0 _ E E) (ArU.l _ (Kmp (fun _ _=>E) hm73 m73)) E (g:=I m73.to) E E) E<|Kji hΓ (enc:=(eN .i64)) [m69.v_from,m73.to] E E E E E E E E E E E E<|bK h74 fun y75 hy75 h76=>ge_h [bg y9.2,mObS kS false (eH (some 0)) y9.1.list (rawM kS (eH (some 0)) mr11 bs12 cl13),.box 186 [.d (Sl Lbu y9.1.access),.map 1],.dead,.iter 1 cl13 (sn19++[b21]),rO 3 1 (eN .i64) y75] E E E (Kjc ⟨E,tV⟩) (Kjf (Kim hΓ (enc:=(eN .i64)) (id:=3) (h2:=show Γ 3=some ⟨_,1,_,_⟩ from E) hy75 E E E E E E E E (fun _=>E) E))<|go_E hΓ 1 E<|Kiu<|gA 1 E<|Kjr 5 3 [bg y9.2,mObS kS false (eH (some 0)) y9.1.list (rawM kS (eH (some 0)) mr11 bs12 cl13),.box 186 [.d (Sl Lbu y9.1.access),.map 1],rO 3 1 (eN .i64) y75,.iter 1 cl13 (sn19++[b21]),.dead] E E E E E E<|Kjp ?_
  cases h76
  exact⟨j20,x18,b21,_,hjsn19,hbsn19,hnsn19,hssn19,⟨⟨E,E,E,E,tV⟩,[_],E,.inr ⟨HB.mk E,FB.mk E,Z⟩⟩⟩
 cases h77
 exact⟨j20,x18,b21,_,hjsn19,hbsn19,hnsn19,hssn19,⟨⟨E,E,E,E,tV⟩,[],E,.inl E⟩⟩
theorem Ldy{n:Int}{low:Int}{high:Int}{r:Bool}(h:Kym n low high=some r):Pure Tryz.prog 182 [I n,I low,I high] (B r):=by
 unfold Kym at h
 refine QP Tryz.func182 E E E<|gA 11 E<|Kfu 4 [(6,B false),(14,B ((decide ((low:Int)≤n))&&(decide ((n:Int)≤high))))] [] ?_ ?_
 ·refine Krc E E (fun hb=>?_) (fun hb=>?_)
  ·exact gO 5 E<|⟨⟨E,Ker E (Kho hb),tV⟩,[],E,.inl E⟩
  exact gO 5 E<|⟨⟨E,Ker E (Khp hb),tV⟩,[],E,.inl E⟩
 exact gO 4 E<|oSi h▸gP E E
theorem Ldz{s:Str}{v_some:Str}{r:Bool}(h:Kyn s v_some=some r):Pure Tryz.prog 183 [S s,S v_some] (B r):=by
 unfold Kyn at h
 exact QP Tryz.func183 E E E<|bK h fun y1 hy1 h2=>gA 9 E<|Kgv C (Kuj hy1) E Z E E E E E<|gO 5 E<|oSi h2▸gP E E
theorem Lea{s:Str}{r:Bool}(h:Kyo s=some r):Pure Tryz.prog 102 [S s] (B r):=by
 unfold Kyo at h
 refine QP Tryz.func102 E E E<|bK h fun y1 hy1 h2=>gA 9 E<|Kgv C (Ldy hy1) E Z E E E E E<|gO 1 E<|bK h2 fun q3 hq3 h4=>Kfu 4 [(0,S s),(2,B false),(10,B q3)] [] ?_ ?_
 ·refine Krc E E (fun hb=>?_) (fun hb=>?_)
  ·have h5:=cT hq3 hb
   exact bK h5 fun z6 hz6 h7=>gO 1 E<|Kra E<|eo_o E (Kgi hΓ hz6 E E E E E)<|bK h7 fun y8 hy8 h9=>Kra E<|Kgv C (Ldz hy8) E Z E E E E E<|gO 2 E<|oSi h9▸⟨⟨E,E,E,tV⟩,[],E,.inl E⟩
  have h10:=cF hq3 hb
  exact gO 5 E<|oSi h10▸⟨⟨E,E,E,tV⟩,[],E,.inl E⟩
 refine gO 1 E<|bK h4 fun q11 hq11 h12=>Kfu 3 [(2,B false),(14,B q11)] [] ?_ ?_
 ·refine Krc E E (fun hb=>?_) (fun hb=>?_)
  ·have h13:=cT hq11 hb
   exact bK h13 fun y14 hy14 h15=>gO 1 E<|Kra E<|Kgv C (Ldz hy14) E Z E E E E E<|gO 2 E<|oSi h15▸⟨⟨E,E,tV⟩,[],E,.inl E⟩
  have h16:=cF hq11 hb
  exact gO 4 E<|oSi h16▸⟨⟨E,E,tV⟩,[],E,.inl E⟩
 exact gO 4 E<|oSi h12▸gP E E
theorem Leb{l:List Str}{r:Int}(h:Kyp l=some r):Pure Tryz.prog 117 [.d (Sl eS l)] (I r):=by
 unfold Kyp at h
 refine QP Tryz.func117 E E E<|gA 13 E<|bK h fun q4 hq4 h5=>Kge 0 E fun hb7=>Kjs (R:=fun a6=>q4=.go a6) (fun a6=>[]) (fun a6=>[]) ?_ ?_
 ·refine gA 1 E<|Kgd l hq4 (fun i1 s2=>[(0,.d (Sl eS l)),(5,.d (Sl eS l)),(6,I (l.length:Int)),(7,I (i1:Int))]) (fun s2=>[]) ⟨⟨E,E,E,E,tV⟩,[],E,.inl E⟩ (fun i1 x3 s2 y11 hx8 hlt hy9 hout10=>?_) (fun s2 hgo=>?_)
  ·refine gA 6 E<|Kfp E (dT (Int.ofNat_lt.2 hlt))<|gA 7 E<|eo_o E (Kgf hΓ (enc:=eS) (Kfy hx8) E E E E E (fun _=>E))<|bK hy9 fun y12 hy12 h13=>gO 9 E<|Kgv C (Lea hy12) E Z E E E E E<|gO 3 E<|jC E h13 (fun h14=>?_) fun h17=>gA 7 E<|bK h17 fun q18 hq18 h19=>Kfu 8 [(0,.d (Sl eS l)),(5,.d (Sl eS l)),(6,I (l.length:Int)),(7,I (i1:Int)),(25,B q18)] [] ?_ ?_
   ·refine gA 9 E<|bK h14 fun v15 hv15 h16=>?_
    cases h16
    obtain rfl:=hout10 _ rfl
    cases h5
    exact gA 4 E<|oSi hv15▸gP E E
   ·refine Krc E E (fun hb=>?_) (fun hb=>?_)
    ·have h20:=cT hq18 hb
     exact bK h20 fun x21 hx21 h22=>gO 4 E<|Kra E<|eo_o E (Kgf hΓ (enc:=eS) hx21 E E E E E (fun _=>E))<|gO 4 E<|oSi h22▸⟨⟨E,E,E,E,E,tV⟩,[],E,.inl E⟩
    have h23:=cF hq18 hb
    exact gO 9 E<|oSi h23▸⟨⟨E,E,E,E,E,tV⟩,[],E,.inl E⟩
   refine gO 2 E<|jC E h19 (fun h24=>?_) fun h27=>gA 7 E ?_
   ·refine gA 8 E<|bK h24 fun v25 hv25 h26=>?_
    cases h26
    obtain rfl:=hout10 _ rfl
    cases h5
    exact gA 4 E<|oSi hv25▸gP E E
   cases h27
   exact⟨_,E,⟨⟨E,E,E,Keq E (Kep (nLl hlt hb7)),tV⟩,[],E,.inl E⟩⟩
  subst hgo
  exact gA 6 E<|Kfq E (dF (Int.lt_irrefl _))<|gA 4 E<|⟨_,E,⟨tV,[],E,.inl E⟩⟩
 intro a6 ha
 subst ha
 replace h5:=Kjn h5
 exact gA 7 E<|oSi h5▸gP E E
theorem Lec{n:Int}{low:Int}{high:Int}{r:Bool}(h:Kyq n low high=some r):Pure Tryz.prog 104 [I n,I low,I high] (B r):=by
 unfold Kyq at h
 refine QP Tryz.func104 E E E<|gA 11 E<|Kfu 4 [(6,B false),(14,B ((decide ((low:Int)≤n))&&(decide ((n:Int)≤high))))] [] ?_ ?_
 ·refine Krc E E (fun hb=>?_) (fun hb=>?_)
  ·exact gO 5 E<|⟨⟨E,Ker E (Kho hb),tV⟩,[],E,.inl E⟩
  exact gO 5 E<|⟨⟨E,Ker E (Khp hb),tV⟩,[],E,.inl E⟩
 exact gO 4 E<|oSi h▸gP E E
theorem Led{v_r:List Kwf}{r:Int}(h:Kyr v_r=some r):Pure Tryz.prog 64 [.d (Sl Lbu v_r)] (I r):=by
 unfold Kyr at h
 refine QP Tryz.func64 E E E<|gA 13 E<|jC E h (fun h1=>?_) fun h2=>gA 10 E<|bK h2 fun q6 hq6 h7=>Kge 0 E fun hb9=>Kjs (R:=fun a8=>q6=.go a8) (fun a8=>[]) (fun a8=>[]) ?_ ?_
 ·exact gA 7 E<|oSi h1▸gP E E
 ·refine gA 1 E<|Kgd v_r hq6 (fun i3 s4=>[(0,.d (Sl Lbu v_r)),(9,.d (Sl Lbu v_r)),(10,I (v_r.length:Int)),(11,I (i3:Int))]) (fun s4=>[]) ⟨⟨E,E,E,E,tV⟩,[],E,.inl E⟩ (fun i3 x5 s4 y13 hx10 hlt hy11 hout12=>?_) (fun s4 hgo=>?_)
  ·refine gA 6 E<|Kfp E (dT (Int.ofNat_lt.2 hlt))<|gA 7 E<|eo_o E (Kgf hΓ (enc:=Lbu) (Kfy hx10) E E E E E (fun _=>E))<|gO 1 E<|Ksi hΓ E E E Z<|gO 1 E<|Ksn hΓ E E E E E E E E Z<|Khd [.box 178 [S x5.Posture,.d (Sl eS x5.Approvers),I x5.Need,I x5.Wait,I x5.Most]] E<|bK hy11 fun y14 hy14 h15=>gO 8 E<|Kgv C (Lea hy14) E Z E E E E E<|gO 4 E<|jC E h15 (fun h16=>?_) fun h19=>bK h19 fun q20 hq20 h21=>gA 1 E<|Kjt [(0,.d (Sl Lbu v_r)),(4,.ptr 0 0),(9,.d (Sl Lbu v_r)),(10,I (v_r.length:Int)),(11,I (i3:Int)),(21,B q20)] [.box 178 [S x5.Posture,.d (Sl eS x5.Approvers),I x5.Need,I x5.Wait,I x5.Most]] ?_ ?_
   ·refine gA 10 E<|bK h16 fun v17 hv17 h18=>?_
    cases h18
    obtain rfl:=hout12 _ rfl
    cases h7
    exact gA 4 E<|oSi hv17▸gP E E
   ·refine jD<|gA 3 E<|Kdy E E (fun hb=>?_) (fun hb=>?_)
    ·have h22:=cT hq20 hb
     exact bK h22 fun x23 hx23 h24=>Kfm hΓ 5 E<|Kes E E (Kgf hΓ (enc:=Lbu) hx23 E E E E E (fun _=>E))<|Kfm hΓ 6 E<|oSi h24▸⟨⟨E,E,E,E,E,E,tV⟩,[],E,.inl E⟩
    have h25:=cF hq20 hb
    exact Kfm hΓ 12 E<|oSi h25▸⟨⟨E,E,E,E,E,E,tV⟩,[],E,.inl E⟩
   refine gA 1 E<|jC E h21 (fun h26=>?_) fun h29=>gA 9 E<|jC E h29 (fun h30=>?_) fun h33=>?_
   ·refine gA 10 E<|bK h26 fun v27 hv27 h28=>?_
    cases h28
    obtain rfl:=hout12 _ rfl
    cases h7
    exact gA 4 E<|oSi hv27▸gP E E
   ·refine gA 10 E<|bK h30 fun v31 hv31 h32=>?_
    cases h32
    obtain rfl:=hout12 _ rfl
    cases h7
    exact gA 4 E<|oSi hv31▸gP E E
   refine bK h33 fun y34 hy34 h35=>gA 8 E<|Kgv C (Leb hy34) E Z E E E E E<|gO 9 E<|jC E h35 (fun h36=>?_) fun h39=>bK h39 fun y40 hy40 h41=>gA 9 E<|Kgv C (Lec hy40) E Z E E E E E<|gO 2 E<|bK h41 fun q42 hq42 h43=>Kfu 5 [(0,.d (Sl Lbu v_r)),(4,.ptr 0 0),(9,.d (Sl Lbu v_r)),(10,I (v_r.length:Int)),(11,I (i3:Int)),(58,B q42)] [.box 178 [S x5.Posture,.d (Sl eS x5.Approvers),I x5.Need,I x5.Wait,I x5.Most]] ?_ ?_
   ·refine gA 10 E<|bK h36 fun v37 hv37 h38=>?_
    cases h38
    obtain rfl:=hout12 _ rfl
    cases h7
    exact gA 4 E<|oSi hv37▸gP E E
   ·refine Krc E E (fun hb=>?_) (fun hb=>?_)
    ·have h44:=cT hq42 hb
     exact gO 6 E<|oSi h44▸⟨⟨E,E,E,E,E,E,tV⟩,[],E,.inl E⟩
    have h45:=cF hq42 hb
    exact bK h45 fun y46 hy46 h47=>gO 2 E<|Kra E<|Kgv C (Lec hy46) E Z E E E E E<|gO 3 E<|oSi h47▸⟨⟨E,E,E,E,E,E,tV⟩,[],E,.inl E⟩
   refine gO 1 E<|bK h43 fun q48 hq48 h49=>Kfu 5 [(0,.d (Sl Lbu v_r)),(9,.d (Sl Lbu v_r)),(10,I (v_r.length:Int)),(11,I (i3:Int)),(64,B q48)] [.box 178 [S x5.Posture,.d (Sl eS x5.Approvers),I x5.Need,I x5.Wait,I x5.Most]] ?_ ?_
   ·refine Krc E E (fun hb=>?_) (fun hb=>?_)
    ·have h50:=cT hq48 hb
     exact gO 6 E<|oSi h50▸⟨⟨E,E,E,E,E,tV⟩,[],E,.inl E⟩
    have h51:=cF hq48 hb
    exact bK h51 fun y52 hy52 h53=>gO 2 E<|Kra E<|Kgv C (Lec hy52) E Z E E E E E<|gO 3 E<|oSi h53▸⟨⟨E,E,E,E,E,tV⟩,[],E,.inl E⟩
   refine gO 2 E<|jC E h49 (fun h54=>?_) fun h57=>gA 7 E ?_
   ·refine gA 8 E<|bK h54 fun v55 hv55 h56=>?_
    cases h56
    obtain rfl:=hout12 _ rfl
    cases h7
    exact gA 4 E<|oSi hv55▸gP E E
   cases h57
   exact⟨_,E,⟨⟨E,E,E,Keq E (Kep (nLl hlt hb9)),tV⟩,[_],E,.inr ⟨HB.mk E,FB.mk E,Z⟩⟩⟩
  subst hgo
  exact gA 6 E<|Kfq E (dF (Int.lt_irrefl _))<|gA 4 E<|⟨_,E,⟨tV,[],E,.inl E⟩⟩
 intro a8 ha
 subst ha
 replace h7:=Kjn h7
 exact gA 7 E<|oSi h7▸gP E E
theorem Lee{v_at:Int}{r:Bool}(h:Kys v_at=some r):Pure Tryz.prog 101 [I v_at] (B r):=by
 unfold Kys at h
 exact QP Tryz.func101 E E E<|bK h fun y1 hy1 h2=>gA 8 E<|Kgv C (Ldy hy1) E Z E E E E E<|gO 4 E<|oSi h2▸gP E E
theorem Lef{a:Kwg}{b:Kwg}{r:Int}(h:Kyt a b=some r):Pure Tryz.prog 145 [.agg [I a.At,S a.Key,S a.By,I a.Kind,S a.Node,S a.Posture,I a.Long],.agg [I b.At,S b.Key,S b.By,I b.Kind,S b.Node,S b.Posture,I b.Long]] (I r):=by
 unfold Kyt at h
 exact QP Tryz.func145 E E E<|gA 2 E<|Ksj E E E E Z<|Ksj E E E E Z<|gO 4 E<|jD<|bK h fun y1 hy1 h2=>gA 4 E<|Kgw C (Lcv hy1) E E E E E E<|bK h2 fun y3 hy3 h4=>Kfm hΓ 4 E<|Kgw C (Kuo hy3) E E E E E E<|bK h4 fun y5 hy5 h6=>Kfm hΓ 4 E<|Kgw C (Kuo hy5) E E E E E E<|Kgq hΓ (enc:=(eN .i64)) [y1,y3,y5] E E E E E E E E E E E E<|bK h6 fun y7 hy7 h8=>Kgw C (Lcw hy7) E E E E E E<|Kfm hΓ 4 E<|oSi h8▸gP E E
end Go.Proofs.YthhdojhbohfmnaaGreatDoor
