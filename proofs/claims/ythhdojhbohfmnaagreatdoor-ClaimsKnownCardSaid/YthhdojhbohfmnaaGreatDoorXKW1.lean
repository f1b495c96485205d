import Derived.Test.YthhdojhbohfmnaaGreatDoorXKM
import Derived.Test.YthhdojhbohfmnaaGreatDoorGt
import Derived.Test.YthhdojhbohfmnaaGreatDoorStr
import Derived.Test.YthhdojhbohfmnaaGreatDoorStr9
import Derived.Test.YthhdojhbohfmnaaGreatDoorStrC
import Derived.Test.YthhdojhbohfmnaaGreatDoorGk64
import Derived.Test.YthhdojhbohfmnaaGreatDoorGk66
import Derived.Test.YthhdojhbohfmnaaGreatDoorBk5
import Derived.Test.YthhdojhbohfmnaaGreatDoorGk57
import Derived.Test.YthhdojhbohfmnaaGreatDoorSoLays
set_option maxHeartbeats 8000000
set_option linter.all false
set_option maxRecDepth 100000
namespace Go.Proofs.YthhdojhbohfmnaaGreatDoor
open Go.Gk
theorem E.{u}{α:Sort u}{a:α}:a=a:=rfl
theorem Z{n m:Nat}(h:Nat.ble n m=true:=by exact rfl):n≤m:=nBe h
theorem C{f:FuncId}{fn:Func}(h:Tryz.prog.funcs[f]?=some fn:=by exact rfl)(h1:fn.body.isNone=false:=by exact rfl)(h2:(fn.name== "runtime.NumGoroutine")=false:=by exact rfl):Callable Tryz.prog f:=Lex h h1 h2
theorem bK{α β:Type}{x:Option α}{f:α→Option β}{r:β}{G:Prop}(h:bi x f=some r)(k:∀ a,x=some a→f a=some r→G):G:=let⟨a,b,c⟩:=Kgk h;k a b c
theorem gK{α:Type}{c:Bool}{x:Option α}{r:α}{G:Prop}(h:gd c x=some r)(k:c=true→x=some r→G):G:=let⟨a,b⟩:=Kgl h;k a b
section
variable{F N:Nat}{Q:GPost}{fr fr':Fr}{hp:List Ob}{ks:List Kt}
theorem jC{P:Program}{t:Tmp}{x y:Code}{b:Bool}{α:Type}{u v r:α}(hb:fr.get t=some (.d (.v (.bool b))))(h:(bif b then u else v)=r)(h1:u=r→St.holds P F N Q (.code x ks) fr hp)(h2:v=r→St.holds P F N Q (.code y ks) fr hp):St.holds P F N Q (.code (.cond (.tmp t) x y) ks) fr hp:=Kgd hb (fun e=>h1 (cT h e)) fun e=>h2 (cF h e)
theorem gA(n:Nat){st st':St}(h:mrun Γ N hp n st fr=(st',fr'))(k:St.holds Tryz.prog F N Q st' fr' hp):St.holds Tryz.prog F N Q st fr hp:=go hΓ n h k
theorem gO(n:Nat){full:Array Oper}{l:List Oper}{st':St}(h:mrun Γ N hp n (.ops full l ks) fr=(st',fr'))(k:St.holds Tryz.prog F N Q st' fr' hp):EO Tryz.prog F N full l (stk Tryz.prog F N Q ks) fr hp:=Kga hΓ n h k
theorem jD{id:Nat}{ops:Array Oper}(h:St.holds Tryz.prog F N Q (.draw ops ops.toList ks) fr hp)(hB:Region.lexB .any ops=true:=by kernel_rfl):St.holds Tryz.prog F N Q (.code (.region id ops true) ks) fr hp:=Kgg hmix hB h
theorem QN{f:FuncId}{fn:Func}{c:Code}{gs:List G}{R:G→List Ob→Prop}(hf:Tryz.prog.funcs[f]?=some fn)(hb:fn.body=some c)(hN:gs.length≤fn.ntmps)(h:St.holds Tryz.prog hp.length fn.ntmps (Ret Tryz.prog fn hp.length R) (.code c []) (Fr.of 0 gs) hp):EC Tryz.prog f gs hp R:=Kpz (Fr.of 0 gs) hf hb (Fr.of_ok gs) hN fun _=>Kgc h
theorem QM{f:FuncId}{fn:Func}{c:Code}{gs:List G}{R:G→List Ob→Prop}(hf:Tryz.prog.funcs[f]?=some fn)(hb:fn.body=some c)(hN:gs.length≤fn.ntmps)(h:St.holds Tryz.prog hp.length fn.ntmps (fun e fr hp'=>Cv hp.length fn.ntmps (fun fr2 hp2=>Ret Tryz.prog fn hp.length R e fr2 hp2) fr hp') (.code c []) (Fr.of 0 gs) hp):EC Tryz.prog f gs hp R:=Klp (Fr.of 0 gs) hf hb (Fr.of_ok gs) hN fun _=>Kgc h
theorem QP{f:FuncId}{fn:Func}{c:Code}{gs:List G}{r:G}(hf:Tryz.prog.funcs[f]?=some fn)(hb:fn.body=some c)(hN:Nat.ble gs.length fn.ntmps=true)(hr:r.bel 0=true)(h:St.holds Tryz.prog 0 fn.ntmps (fun e fr hp=>(e=.normal∨e=.ret)∧Res Tryz.prog fn fr hp r) (.code c []) (Fr.of 0 gs) []):Pure Tryz.prog f gs r:=Pure.enter (Fr.of 0 gs) hf hb (Fr.of_ok gs) hN hr (Kgc h)
theorem gP{fn:Func}{gs:List G}{g:G}(h:resAll Γ fr hp fn.results.toList=some gs)(hg:retG gs=g):(Exit.ret=.normal∨Exit.ret=.ret)∧Res Tryz.prog fn fr hp g:=Khx hΓ (.inr rfl) h hg
end
abbrev rO{α:Type}(t:TypeId)(z:Nat)(e:α→List D)(l:List α):Ob:=.row t z l.length (l.flatMap e)
abbrev fQ(s:Kwz):List G:=[.d (Sl (eN .i64) s.L),I s.v_at]
theorem Lck{x:Int}{n:Int}{r:Int}(h:Kxi x n=some r):Pure Tryz.prog 118 [I x,I n] (I r):=by
 unfold Kxi at h
 refine QP Tryz.func118 E E E<|gA 12 E<|jC E h (fun h1=>?_) fun h2=>bK h2 fun y3 hy3 h4=>gA 6 E<|eo_o E (Khw hy3 E E)<|bK h4 fun q5 hq5 h6=>gO 10 E<|Kkb [(0,I q5)] [] ?_ ?_
 ·exact gA 7 E<|oSi h1▸gP E E
 ·refine jC E hq5 (fun h7=>?_) fun h8=>gA 1 E<|oSi h8▸⟨⟨E,tV⟩,[],E,.inl E⟩
  exact gA 6 E<|oSi h7▸⟨⟨E,tV⟩,[],E,.inl E⟩
 exact gA 8 E<|oSi h6▸gP E E
theorem Lcl{s:Kwz}{n:Int}{r:Int×Kwz}(h:Kxj s n=some r):EC Tryz.prog 46 [.ptr 0 0,I n] [.box 25 (fQ s)] fun g hp'=>g=I r.1∧hp'=[.box 25 (fQ r.2)]:=by
 unfold Kxj at h
 refine QN Tryz.func46 E Z<|gA 14 E<|Krs hΓ E E E E E E E E Z<|Kht [.box 25 [.d (Sl (eN .i64) s.L),I (wi (s.v_at+1))]] E<|gO 13 E<|jC E h (fun h1=>?_) fun h4=>gA 3 E<|jD<|bK h4 fun y5 hy5 h6=>gA 10 E<|gl_o E (Khw hy5 E E)<|Kgb hΓ 4 E<|jD<|bK h6 fun y7 hy7 h8=>gA 10 E<|gl_o E (Khv hy7 E E)<|bK h8 fun x9 hx9 h10=>Kgb hΓ 10 E<|eo_o E (Kgu hΓ (enc:=(eN .i64)) hx9 E E E E E (fun _=>E))<|bK h10 fun y11 hy11 h12=>gO 1 E<|Khl C (Lck hy11) E Z E E E E E<|bK h12 fun y13 hy13 h14=>gO 6 E<|Khl C (Lck hy13) E Z E E E E E<|gO 4 E<|oSi h14▸Khy hΓ [] (.inr E) E E E E (.inl E)
 exact bK h1 fun y2 hy2 h3=>gA 8 E<|Khl C (Lck hy2) E Z E E E E E<|gO 5 E<|oSi h3▸Khy hΓ [] (.inr E) E E E E (.inl E)
theorem Lcm{s:Kwz}{low:Int}{high:Int}{r:Int×Kwz}(h:Kxk s low high=some r):EC Tryz.prog 15 [.ptr 0 0,I low,I high] [.box 25 (fQ s)] fun g hp'=>g=I r.1∧hp'=[.box 25 (fQ r.2)]:=by
 unfold Kxk at h
 refine QN Tryz.func15 E Z<|gA 13 E<|jC E h (fun h1=>?_) fun h2=>bK h2 fun y3 hy3 h4=>gA 10 E<|Khk [0] (I y3.1) [.box 25 (fQ y3.2)] C (Lcl hy3) E Z E E E E E E E E E E<|gO 5 E<|oSi h4▸Khy hΓ [] (.inr E) E E E E (.inl E)
 exact gA 8 E<|oSi h1▸Khy hΓ [] (.inr E) E E E E (.inl E)
theorem Lcn{s:Kwz}{n:Int}{r:Bool×Kwz}(h:Kxl s n=some r):EC Tryz.prog 44 [.ptr 0 0,I n] [.box 25 (fQ s)] fun g hp'=>g=B r.1∧hp'=[.box 25 (fQ r.2)]:=by
 unfold Kxl at h
 exact QN Tryz.func44 E Z<|bK h fun y1 hy1 h2=>gA 9 E<|Khk [0] (I y1.1) [.box 25 (fQ y1.2)] C (Lcl hy1) E Z E E E E E E E E E E<|gO 5 E<|oSi h2▸Khy hΓ [] (.inr E) E E E E (.inl E)
theorem Lco{s:Kwz}{l:List Str}{r:Str×Kwz}(h:Kxm s l=some r):EC Tryz.prog 17 [.ptr 0 0,.d (Sl eS l)] [.box 25 (fQ s)] fun g hp'=>g=S r.1∧hp'=[.box 25 (fQ r.2)]:=by
 unfold Kxm at h
 exact QN Tryz.func17 E Z<|bK h fun y1 hy1 h2=>gA 11 E<|Khk [0] (I y1.1) [.box 25 (fQ y1.2)] C (Lcl hy1) E Z E E E E E E E E E E<|bK h2 fun x3 hx3 h4=>eo_o E (Kgu hΓ (enc:=eS) hx3 E E E E E (fun _=>E))<|gO 5 E<|oSi h4▸Khy hΓ [] (.inr E) E E E E (.inl E)
theorem Lcp{s:Kwz}{l:List Int}{r:Int×Kwz}(h:Kxn s l=some r):EC Tryz.prog 79 [.ptr 0 0,.d (Sl (eN .i64) l)] [.box 25 (fQ s)] fun g hp'=>g=I r.1∧hp'=[.box 25 (fQ r.2)]:=by
 unfold Kxn at h
 exact QN Tryz.func79 E Z<|bK h fun y1 hy1 h2=>gA 11 E<|Khk [0] (I y1.1) [.box 25 (fQ y1.2)] C (Lcl hy1) E Z E E E E E E E E E E<|bK h2 fun x3 hx3 h4=>eo_o E (Kgu hΓ (enc:=(eN .i64)) hx3 E E E E E (fun _=>E))<|gO 5 E<|oSi h4▸Khy hΓ [] (.inr E) E E E E (.inl E)
theorem Lcq{s:Kwz}{low:Int}{high:Int}{r:Int×Kwz}(h:Kxo s low high=some r):EC Tryz.prog 90 [.ptr 0 0,I low,I high] [.box 25 (fQ s)] fun g hp'=>g=I r.1∧hp'=[.box 25 (fQ r.2)]:=by
 unfold Kxo at h
 refine QN Tryz.func90 E Z<|bK h fun y1 hy1 h2=>gA 9 E<|Khk [0] (B y1.1) [.box 25 (fQ y1.2)] C (Lcn hy1) E Z E E E E E E E E E E<|gO 2 E<|jC E h2 (fun h3=>?_) fun h6=>bK h6 fun y7 hy7 h8=>gA 7 E<|Khk [0] (I y7.1) [.box 25 (fQ y7.2)] C (Lcm hy7) E Z E E E E E E E E E E<|gO 4 E<|oSi h8▸Khy hΓ [] (.inr E) E E E E (.inl E)
 exact gA 9 E<|Khf hΓ (enc:=(eN .i64)) [wi (low - 1),wi (high+1),low,high,-1099511627776,1099511627776] E E E E E E E E E E E E Z<|bK h3 fun y4 hy4 h5=>Khk [0] (I y4.1) [.box 25 (fQ y4.2)] C (Lcp hy4) E Z E E E E E E E E E E<|gO 5 E<|oSi h5▸Khy hΓ [] (.inr E) E E E E (.inl E)
theorem Lcr{s:Kwz}{r:Kxa×Kwz}(h:Kxp s=some r):EC Tryz.prog 89 [.ptr 0 0] [.box 25 (fQ s)] fun g hp'=>g=.agg [I r.1.Kind,I r.1.Number,S r.1.Words,I r.1.Version.1,I r.1.Version.2.1,I r.1.Version.2.2.1,I r.1.Version.2.2.2]∧hp'=[.box 25 (fQ r.2)]:=by
 unfold Kxp at h
 refine QN Tryz.func89 E Z<|gA 2 E<|Krn hΓ E E E Z<|gO 5 E<|Khf hΓ (enc:=(eN .i64)) [1,1,2,2,3,4] E E E E E E E E E E E E Z<|bK h fun y1 hy1 h2=>Khk [0] (I y1.1) [.box 25 (fQ y1.2),.box 29 [I 0,I 0,S [],I 0,I 0,I 0,I 0]] C (Lcp hy1) E Z E E E E E E E E E E<|Kec hΓ (gs:=[I y1.1,I 0,S [],I 0,I 0,I 0,I 0]) E E E E E E E<|Krn hΓ E E E Z<|Krs hΓ E E E E E E E E Z<|Kht [.box 25 (fQ y1.2),.box 29 [I 0,I 0,S [],I 0,I 0,I 0,I 0],.box 29 [I y1.1,I 0,S [],I 0,I 0,I 0,I 0]] E<|bK h2 fun q3 hq3 h4=>gO 9 E<|Kkb [(0,.ptr 0 0),(2,.ptr 1 0),(3,.ptr 2 0)] [.box 25 (fQ q3.1),.box 29 [I 0,I 0,S [],I 0,I 0,I 0,I 0],.box 29 [I q3.2.Kind,I q3.2.Number,S q3.2.Words,I q3.2.Version.1,I q3.2.Version.2.1,I q3.2.Version.2.2.1,I q3.2.Version.2.2.2]] ?_ ?_
 ·refine gA 7 E<|jC E hq3 (fun h5=>?_) fun h8=>gA 6 E<|jC E h8 (fun h9=>?_) fun h12=>?_
  ·exact gA 2 E<|Khf hΓ (enc:=(eN .i64)) [0,5,12,-3,100000000] E E E E E E E E E E E E Z<|bK h5 fun y6 hy6 h7=>Khk [0] (I y6.1) [.box 25 (fQ y6.2),.box 29 [I 0,I 0,S [],I 0,I 0,I 0,I 0],.box 29 [I y1.1,I 0,S [],I 0,I 0,I 0,I 0]] C (Lcp hy6) E Z E E E E E E E E E E<|gO 1 E<|Krs hΓ E E E E E E E E Z<|Kht [.box 25 (fQ y6.2),.box 29 [I 0,I 0,S [],I 0,I 0,I 0,I 0],.box 29 [I y1.1,I y6.1,S [],I 0,I 0,I 0,I 0]] E<|gO 2 E<|oSi h7▸⟨⟨E,E,E,tV⟩,[],E,.inl E⟩
  ·exact gA 2 E<|Khf hΓ (enc:=eS) [[108,105,110,117,120],[109,97,99],[],[97,32,34,98,92],[119,105,110]] E E E E E E E E E E E E Z<|bK h9 fun y10 hy10 h11=>Khk [0] (S y10.1) [.box 25 (fQ y10.2),.box 29 [I 0,I 0,S [],I 0,I 0,I 0,I 0],.box 29 [I y1.1,I 0,S [],I 0,I 0,I 0,I 0]] C (Lco hy10) E Z E E E E E E E E E E<|gO 1 E<|Krs hΓ E E E E E E E E Z<|Kht [.box 25 (fQ y10.2),.box 29 [I 0,I 0,S [],I 0,I 0,I 0,I 0],.box 29 [I y1.1,I 0,S y10.1,I 0,I 0,I 0,I 0]] E<|gO 2 E<|oSi h11▸⟨⟨E,E,E,tV⟩,[],E,.inl E⟩
  refine gA 6 E<|jC E h12 (fun h13=>?_) fun h16=>gA 2 E<|Khf hΓ (enc:=(eN .i64)) [0,2,12] E E E E E E E E E E E E Z<|bK h16 fun y17 hy17 h18=>Khk [0] (I y17.1) [.box 25 (fQ y17.2),.box 29 [I 0,I 0,S [],I 0,I 0,I 0,I 0],.box 29 [I y1.1,I 0,S [],I 0,I 0,I 0,I 0]] C (Lcp hy17) E Z E E E E E E E E E E<|gO 1 E<|Khf hΓ (enc:=(eN .i64)) [0,3] E E E E E E E E E E E E Z<|bK h18 fun y19 hy19 h20=>Khk [0] (I y19.1) [.box 25 (fQ y19.2),.box 29 [I 0,I 0,S [],I 0,I 0,I 0,I 0],.box 29 [I y1.1,I 0,S [],I 0,I 0,I 0,I 0]] C (Lcp hy19) E Z E E E E E E E E E E<|eo_o E (Kky hΓ (gs:=[I 1,I y17.1,I y19.1,I 0]) E E E E E E)<|gO 1 E<|Krs hΓ E E E E E E E E Z<|Kht [.box 25 (fQ y19.2),.box 29 [I 0,I 0,S [],I 0,I 0,I 0,I 0],.box 29 [I y1.1,I 0,S [],I 1,I y17.1,I y19.1,I 0]] E<|gO 2 E<|oSi h20▸⟨⟨E,E,E,tV⟩,[],E,.inl E⟩
  exact bK h13 fun y14 hy14 h15=>gA 2 E<|Khk [0] (I y14.1) [.box 25 (fQ y14.2),.box 29 [I 0,I 0,S [],I 0,I 0,I 0,I 0],.box 29 [I y1.1,I 0,S [],I 0,I 0,I 0,I 0]] C (Lcl hy14) E Z E E E E E E E E E E<|gO 1 E<|Krs hΓ E E E E E E E E Z<|Kht [.box 25 (fQ y14.2),.box 29 [I 0,I 0,S [],I 0,I 0,I 0,I 0],.box 29 [I y1.1,I y14.1,S [],I 0,I 0,I 0,I 0]] E<|gO 2 E<|oSi h15▸⟨⟨E,E,E,tV⟩,[],E,.inl E⟩
 refine bK h4 fun y21 hy21 h22=>gA 5 E<|Khk [0] (B y21.1) [.box 25 (fQ y21.2),.box 29 [I 0,I 0,S [],I 0,I 0,I 0,I 0],.box 29 [I q3.2.Kind,I q3.2.Number,S q3.2.Words,I q3.2.Version.1,I q3.2.Version.2.1,I q3.2.Version.2.2.1,I q3.2.Version.2.2.2]] C (Lcn hy21) E Z E E E E E E E E E E<|bK h22 fun q23 hq23 h24=>gO 2 E<|Kkb [(2,.ptr 1 0),(3,.ptr 2 0)] [.box 25 (fQ q23.1),.box 29 [I 0,I 0,S [],I 0,I 0,I 0,I 0],.box 29 [I q23.2.Kind,I q23.2.Number,S q23.2.Words,I q23.2.Version.1,I q23.2.Version.2.1,I q23.2.Version.2.2.1,I q23.2.Version.2.2.2]] ?_ ?_
 ·refine jC E hq23 (fun h25=>?_) fun h32=>gA 1 E<|oSi h32▸⟨⟨E,E,tV⟩,[],E,.inl E⟩
  exact bK h25 fun y26 hy26 h27=>gA 2 E<|Khk [0] (I y26.1) [.box 25 (fQ y26.2),.box 29 [I 0,I 0,S [],I 0,I 0,I 0,I 0],.box 29 [I q3.2.Kind,I q3.2.Number,S q3.2.Words,I q3.2.Version.1,I q3.2.Version.2.1,I q3.2.Version.2.2.1,I q3.2.Version.2.2.2]] C (Lcq hy26) E Z E E E E E E E E E E<|bK h27 fun y28 hy28 h29=>gO 1 E<|Khl C (Kvp hy28) E Z E E E E E<|Khf hΓ (enc:=eS) [[],[120],[195,169],y28] E E E E E E E E E E E E Z<|bK h29 fun y30 hy30 h31=>Khk [0] (S y30.1) [.box 25 (fQ y30.2),.box 29 [I 0,I 0,S [],I 0,I 0,I 0,I 0],.box 29 [I q3.2.Kind,I q3.2.Number,S q3.2.Words,I q3.2.Version.1,I q3.2.Version.2.1,I q3.2.Version.2.2.1,I q3.2.Version.2.2.2]] C (Lco hy30) E Z E E E E E E E E E E<|gO 1 E<|Krs hΓ E E E E E E E E Z<|Kht [.box 25 (fQ y30.2),.box 29 [I 0,I 0,S [],I 0,I 0,I 0,I 0],.box 29 [I q3.2.Kind,I y26.1,S q3.2.Words,I q3.2.Version.1,I q3.2.Version.2.1,I q3.2.Version.2.2.1,I q3.2.Version.2.2.2]] E<|gO 1 E<|Krs hΓ E E E E E E E E Z<|Kht [.box 25 (fQ y30.2),.box 29 [I 0,I 0,S [],I 0,I 0,I 0,I 0],.box 29 [I q3.2.Kind,I y26.1,S y30.1,I q3.2.Version.1,I q3.2.Version.2.1,I q3.2.Version.2.2.1,I q3.2.Version.2.2.2]] E<|gO 1 E<|oSi h31▸⟨⟨E,E,tV⟩,[],E,.inl E⟩
 exact gA 4 E<|Krs hΓ E E E E E E E E Z<|Kht [.box 25 (fQ q23.1),.box 29 [I q23.2.Kind,I q23.2.Number,S q23.2.Words,I q23.2.Version.1,I q23.2.Version.2.1,I q23.2.Version.2.2.1,I q23.2.Version.2.2.2],.box 29 [I q23.2.Kind,I q23.2.Number,S q23.2.Words,I q23.2.Version.1,I q23.2.Version.2.1,I q23.2.Version.2.2.1,I q23.2.Version.2.2.2]] E<|gO 3 E<|oSi h24▸Khy hΓ [_,_] (.inr E) E E E E (.inr ⟨HB.mk E,E⟩)
theorem Lcs{s:Kwz}{many:Int}{r:(List Kxb)×Kwz}(h:Kxq s many=some r):EC Tryz.prog 14 [.ptr 0 0,I many] [.box 25 (fQ s)] fun g hp'=>g=.sl 1 r.1.length∧hp'=[.box 25 (fQ r.2),rO 83 10 Kwu r.1]:=by
 unfold Kxq at h
 refine QM Tryz.func14 E Z<|gA 2 E<|Khi (t:=0) 83 10 E Z<|gO 4 E<|Khi (t:=0) 83 10 E Z<|bK h fun y1 hy1 h2=>gO 5 E<|Khk [0] (I y1.1) [.box 25 (fQ y1.2),rO 83 10 Kwu ([]:List Kxb),rO 83 10 Kwu ([]:List Kxb)] C (Lcl hy1) E Z E E E E E E E E E E<|gO 10 E<|bK h2 fun q6 hq6 h7=>gK hq6 fun hb9 h10=>?_
 replace hb9:=of_decide_eq_true hb9
 refine Kkb [(0,.ptr 0 0),(5,.sl 2 q6.2.1.length)] [.box 25 (fQ q6.1),rO 83 10 Kwu ([]:List Kxb),rO 83 10 Kwu q6.2.1] ?_ ?_
 ·refine gA 1 E<|Kic h10 (fun i3 s4=>[(0,.ptr 0 0),(5,.sl 2 s4.2.1.length),(6,I s4.2.2),(14,I many),(15,I (i3:Int))]) (fun s4=>[.box 25 (fQ s4.1),rO 83 10 Kwu ([]:List Kxb),rO 83 10 Kwu s4.2.1]) ⟨⟨E,E,E,E,E,tV⟩,[],E,.inl E⟩ (fun i3 s4 y14 hlt hy12=>?_) (fun hge=>?_)
  ·refine gA 6 E<|Kge E (dT hlt)<|gA 7 E<|Khf hΓ (enc:=eS) [[110,97],[110,98]] E E E E E E E E E E E E Z<|gO 4 E<|bK hy12 fun q18 hq18 h19=>Kgt 17 E fun hb21=>Kkb [(0,.ptr 0 0),(5,.sl 2 q18.2.length),(6,I s4.2.2),(14,I many),(15,I (i3:Int))] [.box 25 (fQ q18.1),rO 83 10 Kwu ([]:List Kxb),rO 83 10 Kwu q18.2] ?_ ?_
   ·refine gA 1 E<|Kia [[110,97],[110,98]] hq18 (fun i15 s16=>[(0,.ptr 0 0),(5,.sl 2 s16.2.length),(6,I s4.2.2),(14,I many),(15,I (i3:Int)),(17,.d (Sl eS [[110,97],[110,98]])),(18,I ([[110,97],[110,98]].length:Int)),(19,I (i15:Int))]) (fun s16=>[.box 25 (fQ s16.1),rO 83 10 Kwu ([]:List Kxb),rO 83 10 Kwu s16.2]) ⟨⟨E,E,E,E,E,E,E,E,tV⟩,[],E,.inl E⟩ (fun i15 x17 s16 y25 hx22 hlt hy23=>?_) (?_)
    ·refine gA 6 E<|Kge E (dT (Int.ofNat_lt.2 hlt))<|gA 6 E<|eo_o E (Kgu hΓ (enc:=eS) (Kgn hx22) E E E E E (fun _=>E))<|gO 6 E<|Khf hΓ (enc:=eS) [[100,105,115,107],[111,115],[118,101,114,115,105,111,110]] E E E E E E E E E E E E Z<|gO 4 E<|bK hy23 fun q29 hq29 h30=>Kgt 23 E fun hb32=>Kkb [(0,.ptr 0 0),(5,.sl 2 q29.2.length),(6,I s4.2.2),(14,I many),(15,I (i3:Int)),(17,.d (Sl eS [[110,97],[110,98]])),(18,I ([[110,97],[110,98]].length:Int)),(19,I (i15:Int))] [.box 25 (fQ q29.1),rO 83 10 Kwu ([]:List Kxb),rO 83 10 Kwu q29.2] ?_ ?_
     ·refine gA 1 E<|Kia [[100,105,115,107],[111,115],[118,101,114,115,105,111,110]] hq29 (fun i26 s27=>[(0,.ptr 0 0),(5,.sl 2 s27.2.length),(6,I s4.2.2),(8,S x17),(14,I many),(15,I (i3:Int)),(17,.d (Sl eS [[110,97],[110,98]])),(18,I ([[110,97],[110,98]].length:Int)),(19,I (i15:Int)),(23,.d (Sl eS [[100,105,115,107],[111,115],[118,101,114,115,105,111,110]])),(24,I ([[100,105,115,107],[111,115],[118,101,114,115,105,111,110]].length:Int)),(25,I (i26:Int))]) (fun s27=>[.box 25 (fQ s27.1),rO 83 10 Kwu ([]:List Kxb),rO 83 10 Kwu s27.2]) ⟨⟨E,E,E,E,E,E,E,E,E,E,E,E,tV⟩,[],E,.inl E⟩ (fun i26 x28 s27 y36 hx33 hlt hy34=>?_) (?_)
      ·refine gA 6 E<|Kge E (dT (Int.ofNat_lt.2 hlt))<|gA 6 E<|eo_o E (Kgu hΓ (enc:=eS) (Kgn hx33) E E E E E (fun _=>E))<|bK hy34 fun y37 hy37 h38=>gO 8 E<|Khk [0] (B y37.1) [.box 25 (fQ y37.2),rO 83 10 Kwu ([]:List Kxb),rO 83 10 Kwu s27.2] C (Lcn hy37) E Z E E E E E E E E E E<|gO 3 E<|jC E h38 (fun h39=>?_) fun h40=>gA 7 E<|Kec hΓ (gs:=[I s4.2.2,S x17,S x28,I 0,I 0,S [],I 0,I 0,I 0,I 0]) E E E E E E E<|Krn hΓ E E E Z<|Krs hΓ E E E E E E E E Z<|Kht [.box 25 (fQ y37.2),rO 83 10 Kwu ([]:List Kxb),rO 83 10 Kwu s27.2,.box 83 [I s4.2.2,S x17,S x28,I 0,I 0,S [],I 0,I 0,I 0,I 0]] E<|bK h40 fun q41 hq41 h42=>gO 8 E<|Kkb [(0,.ptr 0 0),(5,.sl 2 s27.2.length),(6,I s4.2.2),(8,S x17),(11,.ptr 3 0),(14,I many),(15,I (i3:Int)),(17,.d (Sl eS [[110,97],[110,98]])),(18,I ([[110,97],[110,98]].length:Int)),(19,I (i15:Int)),(23,.d (Sl eS [[100,105,115,107],[111,115],[118,101,114,115,105,111,110]])),(24,I ([[100,105,115,107],[111,115],[118,101,114,115,105,111,110]].length:Int)),(25,I (i26:Int))] [.box 25 (fQ q41.1),rO 83 10 Kwu ([]:List Kxb),rO 83 10 Kwu s27.2,.box 83 [I q41.2.At,S q41.2.Node,S q41.2.Name,I q41.2.Value.Kind,I q41.2.Value.Number,S q41.2.Value.Words,I q41.2.Value.Version.1,I q41.2.Value.Version.2.1,I q41.2.Value.Version.2.2.1,I q41.2.Value.Version.2.2.2]] ?_ ?_
       ·refine gA 8 E ?_
        cases h39
        exact⟨⟨E,E,E,E,E,E,E,E,E,E,E,Kfg E (Kff (nLl hlt hb32)),tV⟩,[],E,.inl E⟩
       ·refine gA 7 E<|jC E hq41 (fun h43=>?_) fun h46=>gA 6 E<|jC E h46 (fun h47=>?_) fun h50=>?_
        ·exact bK h43 fun y44 hy44 h45=>gA 2 E<|Khk [0] (I y44.1) [.box 25 (fQ y44.2),rO 83 10 Kwu ([]:List Kxb),rO 83 10 Kwu s27.2,.box 83 [I s4.2.2,S x17,S x28,I 0,I 0,S [],I 0,I 0,I 0,I 0]] C (Lcl hy44) E Z E E E E E E E E E E<|Kec hΓ (gs:=[I 3,I y44.1,S [],I 0,I 0,I 0,I 0]) E E E E E E E<|gO 1 E<|Krs hΓ E E E E E E E E Z<|Kht [.box 25 (fQ y44.2),rO 83 10 Kwu ([]:List Kxb),rO 83 10 Kwu s27.2,.box 83 [I s4.2.2,S x17,S x28,I 3,I y44.1,S [],I 0,I 0,I 0,I 0]] E<|gO 2 E<|oSi h45▸⟨⟨E,E,E,E,E,E,E,E,E,E,E,E,E,tV⟩,[],E,.inl E⟩
        ·exact gA 2 E<|Khf hΓ (enc:=eS) [[108,105,110,117,120],[108,105,110,117,120],[109,97,99]] E E E E E E E E E E E E Z<|bK h47 fun y48 hy48 h49=>Khk [0] (S y48.1) [.box 25 (fQ y48.2),rO 83 10 Kwu ([]:List Kxb),rO 83 10 Kwu s27.2,.box 83 [I s4.2.2,S x17,S x28,I 0,I 0,S [],I 0,I 0,I 0,I 0]] C (Lco hy48) E Z E E E E E E E E E E<|Kec hΓ (gs:=[I 2,I 0,S y48.1,I 0,I 0,I 0,I 0]) E E E E E E E<|gO 1 E<|Krs hΓ E E E E E E E E Z<|Kht [.box 25 (fQ y48.2),rO 83 10 Kwu ([]:List Kxb),rO 83 10 Kwu s27.2,.box 83 [I s4.2.2,S x17,S x28,I 2,I 0,S y48.1,I 0,I 0,I 0,I 0]] E<|gO 2 E<|oSi h49▸⟨⟨E,E,E,E,E,E,E,E,E,E,E,E,E,tV⟩,[],E,.inl E⟩
        exact gA 2 E<|Khf hΓ (enc:=(eN .i64)) [2,12] E E E E E E E E E E E E Z<|bK h50 fun y51 hy51 h52=>Khk [0] (I y51.1) [.box 25 (fQ y51.2),rO 83 10 Kwu ([]:List Kxb),rO 83 10 Kwu s27.2,.box 83 [I s4.2.2,S x17,S x28,I 0,I 0,S [],I 0,I 0,I 0,I 0]] C (Lcp hy51) E Z E E E E E E E E E E<|eo_o E (Kky hΓ (gs:=[I 1,I y51.1,I 0,I 0]) E E E E E E)<|Kec hΓ (gs:=[I 4,I 0,S [],I 1,I y51.1,I 0,I 0]) E E E E E E E<|gO 1 E<|Krs hΓ E E E E E E E E Z<|Kht [.box 25 (fQ y51.2),rO 83 10 Kwu ([]:List Kxb),rO 83 10 Kwu s27.2,.box 83 [I s4.2.2,S x17,S x28,I 4,I 0,S [],I 1,I y51.1,I 0,I 0]] E<|gO 2 E<|oSi h52▸⟨⟨E,E,E,E,E,E,E,E,E,E,E,E,E,tV⟩,[],E,.inl E⟩
       refine bK h42 fun y53 hy53 h54=>gA 5 E<|Khk [0] (B y53.1) [.box 25 (fQ y53.2),rO 83 10 Kwu ([]:List Kxb),rO 83 10 Kwu s27.2,.box 83 [I q41.2.At,S q41.2.Node,S q41.2.Name,I q41.2.Value.Kind,I q41.2.Value.Number,S q41.2.Value.Words,I q41.2.Value.Version.1,I q41.2.Value.Version.2.1,I q41.2.Value.Version.2.2.1,I q41.2.Value.Version.2.2.2]] C (Lcn hy53) E Z E E E E E E E E E E<|bK h54 fun q55 hq55 h56=>gO 2 E<|Kkb [(0,.ptr 0 0),(5,.sl 2 s27.2.length),(6,I s4.2.2),(8,S x17),(11,.ptr 3 0),(14,I many),(15,I (i3:Int)),(17,.d (Sl eS [[110,97],[110,98]])),(18,I ([[110,97],[110,98]].length:Int)),(19,I (i15:Int)),(23,.d (Sl eS [[100,105,115,107],[111,115],[118,101,114,115,105,111,110]])),(24,I ([[100,105,115,107],[111,115],[118,101,114,115,105,111,110]].length:Int)),(25,I (i26:Int))] [.box 25 (fQ q55.1),rO 83 10 Kwu ([]:List Kxb),rO 83 10 Kwu s27.2,.box 83 [I q55.2.At,S q55.2.Node,S q55.2.Name,I q55.2.Value.Kind,I q55.2.Value.Number,S q55.2.Value.Words,I q55.2.Value.Version.1,I q55.2.Value.Version.2.1,I q55.2.Value.Version.2.2.1,I q55.2.Value.Version.2.2.2]] ?_ ?_
       ·refine jC E hq55 (fun h57=>?_) fun h60=>gA 1 E<|oSi h60▸⟨⟨E,E,E,E,E,E,E,E,E,E,E,E,E,tV⟩,[],E,.inl E⟩
        exact bK h57 fun y58 hy58 h59=>gA 2 E<|Khk [0] (.agg [I y58.1.Kind,I y58.1.Number,S y58.1.Words,I y58.1.Version.1,I y58.1.Version.2.1,I y58.1.Version.2.2.1,I y58.1.Version.2.2.2]) [.box 25 (fQ y58.2),rO 83 10 Kwu ([]:List Kxb),rO 83 10 Kwu s27.2,.box 83 [I q41.2.At,S q41.2.Node,S q41.2.Name,I q41.2.Value.Kind,I q41.2.Value.Number,S q41.2.Value.Words,I q41.2.Value.Version.1,I q41.2.Value.Version.2.1,I q41.2.Value.Version.2.2.1,I q41.2.Value.Version.2.2.2]] C (Lcr hy58) E Z E E E E E E E E E E<|gO 1 E<|Krs hΓ E E E E E E E E Z<|Kht [.box 25 (fQ y58.2),rO 83 10 Kwu ([]:List Kxb),rO 83 10 Kwu s27.2,.box 83 [I q41.2.At,S q41.2.Node,S q41.2.Name,I y58.1.Kind,I y58.1.Number,S y58.1.Words,I y58.1.Version.1,I y58.1.Version.2.1,I y58.1.Version.2.2.1,I y58.1.Version.2.2.2]] E<|gO 1 E<|oSi h59▸⟨⟨E,E,E,E,E,E,E,E,E,E,E,E,E,tV⟩,[],E,.inl E⟩
       refine gA 4 E<|Khf hΓ (enc:=Kwu) [q55.2] E E E E E E E E E E E E Z<|bK h56 fun y61 hy61 h62=>Khu hΓ (enc:=Kwu) hy61 E E E E E E E E E (fun _=>E) E E E E<|gO 8 E ?_
       cases h62
       exact⟨⟨E,E,E,E,E,E,E,E,E,E,E,Kfg E (Kff (nLl hlt hb32)),tV⟩,[_],E,.inr ⟨HB.mk E,FB.mk E,Z⟩⟩
      exact gA 6 E<|Kgf E (dF (Int.lt_irrefl _))<|gA 4 E<|⟨⟨E,E,E,E,E,E,E,E,tV⟩,[],E,.inl E⟩
     refine gA 6 E ?_
     cases h30
     exact⟨⟨E,E,E,E,E,E,E,Kfg E (Kff (nLl hlt hb21)),tV⟩,[],E,.inl E⟩
    exact gA 6 E<|Kgf E (dF (Int.lt_irrefl _))<|gA 4 E<|⟨⟨E,E,E,E,E,tV⟩,[],E,.inl E⟩
   exact gA 4 E<|Khf hΓ (enc:=(eN .i64)) [1,5,20,60] E E E E E E E E E E E E Z<|bK h19 fun y63 hy63 h64=>Khk [0] (I y63.1) [.box 25 (fQ y63.2),rO 83 10 Kwu ([]:List Kxb),rO 83 10 Kwu q18.2] C (Lcp hy63) E Z E E E E E E E E E E<|gO 9 E<|oSi h64▸⟨⟨E,E,E,E,Kfg E (Kff (by omega)),tV⟩,[],E,.inl E⟩
  exact gA 6 E<|Kgf E (dF hge)<|gA 4 E<|⟨⟨E,E,tV⟩,[],E,.inl E⟩
 refine bK h7 fun y65 hy65 h66=>gA 5 E<|Khk [0] (B y65.1) [.box 25 (fQ y65.2),rO 83 10 Kwu ([]:List Kxb),rO 83 10 Kwu q6.2.1] C (Lcn hy65) E Z E E E E E E E E E E<|bK h66 fun q67 hq67 h68=>gO 2 E<|Kkb [(5,.sl 2 q67.2.length)] [.box 25 (fQ q67.1),rO 83 10 Kwu ([]:List Kxb),rO 83 10 Kwu q67.2] ?_ ?_
 ·refine jC E hq67 (fun h69=>?_) fun h80=>gA 1 E<|oSi h80▸⟨⟨E,tV⟩,[],E,.inl E⟩
  exact bK h69 fun y70 hy70 h71=>gA 3 E<|Khk [0] (I y70.1) [.box 25 (fQ y70.2),rO 83 10 Kwu ([]:List Kxb),rO 83 10 Kwu q6.2.1] C (Lcq hy70) E Z E E E E E E E E E E<|gO 1 E<|Khf hΓ (enc:=eS) [[],[110,97]] E E E E E E E E E E E E Z<|bK h71 fun y72 hy72 h73=>Khk [0] (S y72.1) [.box 25 (fQ y72.2),rO 83 10 Kwu ([]:List Kxb),rO 83 10 Kwu q6.2.1] C (Lco hy72) E Z E E E E E E E E E E<|gO 1 E<|Khf hΓ (enc:=eS) [[111,115],[65]] E E E E E E E E E E E E Z<|bK h73 fun y74 hy74 h75=>Khk [0] (S y74.1) [.box 25 (fQ y74.2),rO 83 10 Kwu ([]:List Kxb),rO 83 10 Kwu q6.2.1] C (Lco hy74) E Z E E E E E E E E E E<|bK h75 fun y76 hy76 h77=>gO 1 E<|Khk [0] (.agg [I y76.1.Kind,I y76.1.Number,S y76.1.Words,I y76.1.Version.1,I y76.1.Version.2.1,I y76.1.Version.2.2.1,I y76.1.Version.2.2.2]) [.box 25 (fQ y76.2),rO 83 10 Kwu ([]:List Kxb),rO 83 10 Kwu q6.2.1] C (Lcr hy76) E Z E E E E E E E E E E<|Kec hΓ (gs:=[I y70.1,S y72.1,S y74.1,I y76.1.Kind,I y76.1.Number,S y76.1.Words,I y76.1.Version.1,I y76.1.Version.2.1,I y76.1.Version.2.2.1,I y76.1.Version.2.2.2]) E E E E E E E<|Khf hΓ (enc:=Kwu) [(⟨y70.1,y72.1,y74.1,y76.1⟩:Kxb)] E E E E E E E E E E E E Z<|bK h77 fun y78 hy78 h79=>Khu hΓ (enc:=Kwu) hy78 E E E E E E E E E (fun _=>E) E E E E<|gO 2 E<|oSi h79▸⟨⟨E,tV⟩,[],E,.inl E⟩
 exact gA 8 E<|Klm 1 [.box 25 (fQ q67.1),.dead,rO 83 10 Kwu q67.2] E Z<|Kjz 2 1 [.box 25 (fQ q67.1),rO 83 10 Kwu q67.2,.dead] E E E E E E<|Kjx<|oSi h68▸Khy hΓ [_] (.inr E) E E E E (.inr ⟨HB.mk E,E⟩)
theorem Lct{s:List Kxb}{r:List Kxb}(h:Kxr s=some r):EC Tryz.prog 45 [.d (Sl Kwu s)] [] fun g hp'=>g=.sl 0 r.length∧hp'=[rO 83 10 Kwu r]:=by
 unfold Kxr at h
 refine QM Tryz.func45 E Z<|gA 2 E<|Khi (t:=0) 83 10 E Z<|gO 6 E<|Kfu hΓ E E E E E fun b hbn=>?_
 rcases b with _ | _
 ·exact gO 7 E<|Khh hΓ (enc:=Kwu) ([]:List Kxb) E E E E E E E E E E E E Z<|bK h fun y1 hy1 h2=>gO 1 E<|Khu hΓ (enc:=Kwu) hy1 E E E E E E E E E (fun _=>E) E E E E<|gO 3 E<|Klo 0 [.dead,rO 83 10 Kwu y1] E Z<|Kjc 1 0 [rO 83 10 Kwu y1,.dead] E E E E E E<|gA 1 E<|Kjx<|oSi h2▸Khy hΓ [_] (.inr E) E E E E (.inr ⟨HB.mk E,E⟩)
 obtain rfl:=List.eq_nil_of_length_eq_zero (hbn rfl).1
 replace h:(some ([]:List Kxb):Option (List Kxb))=some r:=h
 exact gO 5 E<|Khi (t:=0) 83 10 E Z<|gO 4 E<|Klm 0 [.dead,rO 83 10 Kwu ([]:List Kxb)] E Z<|Kjz 1 0 [rO 83 10 Kwu ([]:List Kxb),.dead] E E E E E E<|Kjx<|oSi h▸Khy hΓ [_] (.inr E) E E E E (.inr ⟨HB.mk E,E⟩)
theorem Lcu{s:Kwz}{r:Kxa×Kwz}(h:Kxs s=some r):EC Tryz.prog 47 [.ptr 0 0] [.box 25 (fQ s)] fun g hp'=>g=.agg [I r.1.Kind,I r.1.Number,S r.1.Words,I r.1.Version.1,I r.1.Version.2.1,I r.1.Version.2.2.1,I r.1.Version.2.2.2]∧hp'=[.box 25 (fQ r.2)]:=by
 unfold Kxs at h
 exact QN Tryz.func47 E Z<|gA 2 E<|Krn hΓ E E E Z<|bK h fun y1 hy1 h2=>gO 5 E<|Khk [0] (.agg [I y1.1.Kind,I y1.1.Number,S y1.1.Words,I y1.1.Version.1,I y1.1.Version.2.1,I y1.1.Version.2.2.1,I y1.1.Version.2.2.2]) [.box 25 (fQ y1.2),.box 29 [I 0,I 0,S [],I 0,I 0,I 0,I 0]] C (Lcr hy1) E Z E E E E E E E E E E<|Krs hΓ E E E E E E E E Z<|Kht [.box 25 (fQ y1.2),.box 29 [I y1.1.Kind,I y1.1.Number,S y1.1.Words,I y1.1.Version.1,I y1.1.Version.2.1,I y1.1.Version.2.2.1,I y1.1.Version.2.2.2]] E<|gO 3 E<|oSi h2▸Khy hΓ [_] (.inr E) E E E E (.inr ⟨HB.mk E,E⟩)
theorem Lcv{s:Kwz}{r:Int×Kwz}(h:Kxt s=some r):EC Tryz.prog 16 [.ptr 0 0] [.box 25 (fQ s)] fun g hp'=>g=I r.1∧hp'=[.box 25 (fQ r.2)]:=by
 unfold Kxt at h
 exact QN Tryz.func16 E Z<|gA 9 E<|Khf hΓ (enc:=(eN .i64)) [20,0,345686401] E E E E E E E E E E E E Z<|bK h fun y1 hy1 h2=>Khk [0] (I y1.1) [.box 25 (fQ y1.2)] C (Lcp hy1) E Z E E E E E E E E E E<|Khf hΓ (enc:=(eN .i64)) [1,20,30,50,50,100,345686400,y1.1] E E E E E E E E E E E E Z<|bK h2 fun y3 hy3 h4=>Khk [0] (I y3.1) [.box 25 (fQ y3.2)] C (Lcp hy3) E Z E E E E E E E E E E<|gO 4 E<|oSi h4▸Khy hΓ [] (.inr E) E E E E (.inl E)
theorem Lcw{s:Kwz}{r:Int×Kwz}(h:Kxu s=some r):EC Tryz.prog 18 [.ptr 0 0] [.box 25 (fQ s)] fun g hp'=>g=I r.1∧hp'=[.box 25 (fQ r.2)]:=by
 unfold Kxu at h
 exact QN Tryz.func18 E Z<|bK h fun y1 hy1 h2=>gA 9 E<|Khk [0] (I y1.1) [.box 25 (fQ y1.2)] C (Lcl hy1) E Z E E E E E E E E E E<|bK h2 fun y3 hy3 h4=>gO 1 E<|Khk [0] (I y3.1) [.box 25 (fQ y3.2)] C (Lcl hy3) E Z E E E E E E E E E E<|gO 1 E<|Khf hΓ (enc:=(eN .i64)) [345686399,-1,345686400] E E E E E E E E E E E E Z<|bK h4 fun y5 hy5 h6=>Khk [0] (I y5.1) [.box 25 (fQ y5.2)] C (Lcp hy5) E Z E E E E E E E E E E<|Khf hΓ (enc:=(eN .i64)) [0,5,20,40,60,80,120,y1.1,y3.1,y5.1] E E E E E E E E E E E E Z<|bK h6 fun y7 hy7 h8=>Khk [0] (I y7.1) [.box 25 (fQ y7.2)] C (Lcp hy7) E Z E E E E E E E E E E<|gO 4 E<|oSi h8▸Khy hΓ [] (.inr E) E E E E (.inl E)
theorem Lcx{n:Int}{r:Bool}(h:Kxv n=some r):Pure Tryz.prog 126 [I n] (B r):=by
 unfold Kxv at h
 refine QP Tryz.func126 E E E<|gA 10 E<|Kgj 3 [(2,B false),(8,B ((decide ((n:Int)≥0))&&(decide ((n:Int)<345686400))))] [] ?_ ?_
 ·refine Kqh E E (fun hb=>?_) (fun hb=>?_)
  ·exact gO 4 E<|⟨⟨E,Kfh E (Kie hb),tV⟩,[],E,.inl E⟩
  exact gO 4 E<|⟨⟨E,Kfh E (Kif hb),tV⟩,[],E,.inl E⟩
 exact gO 4 E<|oSi h▸gP E E
theorem Lcy{k:Nat}{s:Str}{r:Bool}(h:Kxw k s=some r):Pure Tryz.prog 116 [S s] (B r):=by
 unfold Kxw at h
 refine QP Tryz.func116 E E E<|gA 11 E<|bK h fun q4 hq4 h5=>Kka (R:=fun a6=>q4=.inl a6) (fun a6=>[(0,S s)]) (fun a6=>[]) ?_ ?_
 ·refine gA 1 E<|Kgq hq4 (fun s2=>[(0,S s),(3,I s2)]) (fun s2=>[]) ⟨⟨E,E,tV⟩,[],E,.inl E⟩ (fun s2 y10 hy8 hout9=>?_)
  refine gA 9 E<|Kgd E (fun hb=>?_) (fun hb=>?_)
  ·have h11:=cT hy8 hb
   refine bK h11 fun c12 hc12 h13=>gA 8 E<|eo_o E (Kgv hΓ hc12 E E E E)<|gO 8 E<|Kgj 3 [(0,S s),(3,I s2),(4,.d (.v (.int .u8 (c12.toNat:Int)))),(19,B ((decide (((c12.toNat:Int):Int)≥97))&&(decide (((c12.toNat:Int):Int)≤122))))] [] ?_ ?_
   ·refine Kqh E E (fun hb=>?_) (fun hb=>?_)
    ·exact gO 4 E<|⟨⟨E,E,E,Kfh E (Kie hb),tV⟩,[],E,.inl E⟩
    exact gO 4 E<|⟨⟨E,E,E,Kfh E (Kif hb),tV⟩,[],E,.inl E⟩
   refine gO 1 E<|Kgj 19 [(0,S s),(3,I s2),(39,B (((decide (((c12.toNat:Int):Int)≥97))&&(decide (((c12.toNat:Int):Int)≤122)))||((decide ((s2:Int)>0))&&((((decide (((c12.toNat:Int):Int)≥48))&&(decide (((c12.toNat:Int):Int)≤57)))||(((c12.toNat:Int):Int)==45))||(((c12.toNat:Int):Int)==95)))))] [] ?_ ?_
   ·refine Kqh E E (fun hb=>?_) (fun hb=>?_)
    ·exact gO 20 E<|⟨⟨E,E,Kfh E (or_t hb),tV⟩,[],E,.inl E⟩
    refine gO 3 E<|Kgj 15 [(0,S s),(3,I s2),(20,B false),(38,B ((decide ((s2:Int)>0))&&((((decide (((c12.toNat:Int):Int)≥48))&&(decide (((c12.toNat:Int):Int)≤57)))||(((c12.toNat:Int):Int)==45))||(((c12.toNat:Int):Int)==95))))] [] ?_ ?_
    ·refine Kqh E E (fun hb=>?_) (fun hb=>?_)
     ·refine gO 3 E<|Kgj 3 [(0,S s),(3,I s2),(4,.d (.v (.int .u8 (c12.toNat:Int)))),(20,B false),(23,B true),(29,B ((decide (((c12.toNat:Int):Int)≥48))&&(decide (((c12.toNat:Int):Int)≤57))))] [] ?_ ?_
      ·refine Kqh E E (fun hb=>?_) (fun hb=>?_)
       ·exact gO 4 E<|⟨⟨E,E,E,E,E,Kfh E (Kie hb),tV⟩,[],E,.inl E⟩
       exact gO 4 E<|⟨⟨E,E,E,E,E,Kfh E (Kif hb),tV⟩,[],E,.inl E⟩
      refine gO 1 E<|Kgj 3 [(0,S s),(3,I s2),(4,.d (.v (.int .u8 (c12.toNat:Int)))),(20,B false),(23,B true),(33,B (((decide (((c12.toNat:Int):Int)≥48))&&(decide (((c12.toNat:Int):Int)≤57)))||(((c12.toNat:Int):Int)==45)))] [] ?_ ?_
      ·refine Kqh E E (fun hb=>?_) (fun hb=>?_)
       ·exact gO 4 E<|⟨⟨E,E,E,E,E,Kfh E (or_t hb),tV⟩,[],E,.inl E⟩
       exact gO 4 E<|⟨⟨E,E,E,E,E,Kfh E (or_f hb),tV⟩,[],E,.inl E⟩
      refine gO 1 E<|Kgj 3 [(0,S s),(3,I s2),(20,B false),(23,B true),(37,B ((((decide (((c12.toNat:Int):Int)≥48))&&(decide (((c12.toNat:Int):Int)≤57)))||(((c12.toNat:Int):Int)==45))||(((c12.toNat:Int):Int)==95)))] [] ?_ ?_
      ·refine Kqh E E (fun hb=>?_) (fun hb=>?_)
       ·exact gO 4 E<|⟨⟨E,E,E,E,Kfh E (or_t hb),tV⟩,[],E,.inl E⟩
       exact gO 4 E<|⟨⟨E,E,E,E,Kfh E (or_f hb),tV⟩,[],E,.inl E⟩
      exact gO 2 E<|⟨⟨E,E,E,Kfh E (Kie hb),tV⟩,[],E,.inl E⟩
     exact gO 16 E<|⟨⟨E,E,E,Kfh E (Kif hb),tV⟩,[],E,.inl E⟩
    exact gO 2 E<|⟨⟨E,E,Kfh E (or_f hb),tV⟩,[],E,.inl E⟩
   refine gO 3 E<|jC E h13 (fun h14=>?_) fun h17=>gA 8 E<|oSi h17▸⟨_,E,⟨⟨E,E,tV⟩,[],E,.inl E⟩⟩
   refine gA 8 E<|bK h14 fun v15 hv15 h16=>?_
   cases h16
   obtain rfl:=hout9 _ rfl
   cases h5
   exact gA 4 E<|oSi hv15▸gP E E
  have h18:=cF hy8 hb
  refine gA 4 E ?_
  cases h18
  obtain rfl:=hout9 _ rfl
  exact⟨_,E,⟨⟨E,tV⟩,[],E,.inl E⟩⟩
 intro a6 ha
 subst ha
 replace h5:=Kju h5
 refine gA 6 E<|Kgj 4 [(47,B ((!((s:Str)==[]))&&(decide (((s.length:Int):Int)≤40))))] [] ?_ ?_
 ·refine Kqh E E (fun hb=>?_) (fun hb=>?_)
  ·exact gO 5 E<|⟨⟨Kfh E (Kie hb),tV⟩,[],E,.inl E⟩
  exact gO 5 E<|⟨⟨Kfh E (Kif hb),tV⟩,[],E,.inl E⟩
 exact gO 4 E<|oSi h5▸gP E E
theorem Lcz{n:Int}{low:Int}{high:Int}{r:Bool}(h:Kxx n low high=some r):Pure Tryz.prog 94 [I n,I low,I high] (B r):=by
 unfold Kxx at h
 refine QP Tryz.func94 E E E<|gA 11 E<|Kgj 4 [(6,B false),(14,B ((decide ((n:Int)<low))||(decide ((n:Int)>high))))] [] ?_ ?_
 ·refine Kqh E E (fun hb=>?_) (fun hb=>?_)
  ·exact gO 5 E<|⟨⟨E,Kfh E (or_t hb),tV⟩,[],E,.inl E⟩
  exact gO 5 E<|⟨⟨E,Kfh E (or_f hb),tV⟩,[],E,.inl E⟩
 exact gO 4 E<|oSi h▸gP E E
theorem Lda{s:Str}{r:Bool}(h:Kxy s=some r):Pure Tryz.prog 188 [S s] (B r):=by
 unfold Kxy at h
 refine QP Tryz.func188 E E E<|gA 13 E<|bK h fun q4 hq4 h5=>gK hq4 fun hb7 h8=>?_
 replace hb7:=of_decide_eq_true hb7
 refine Kka (R:=fun a6=>q4=.go a6) (fun a6=>[(0,S s)]) (fun a6=>[]) ?_ ?_
 ·refine gA 1 E<|Kib h8 (fun i1 s2=>[(0,S s),(5,I (s.length:Int)),(6,I (i1:Int))]) (fun s2=>[]) ⟨⟨E,E,E,tV⟩,[],E,.inl E⟩ (fun i1 s2 y12 hlt hy10 hout11=>?_) (fun s2 hgo hge=>?_)
  ·refine gA 6 E<|Kge E (dT hlt)<|bK hy10 fun c13 hc13 h14=>gA 14 E<|eo_o E (Kgv hΓ hc13 E E E E)<|gO 2 E<|bK h14 fun q15 hq15 h16=>Kgj 5 [(0,S s),(5,I (s.length:Int)),(6,I (i1:Int)),(18,B q15)] [] ?_ ?_
   ·refine Kqh E E (fun hb=>?_) (fun hb=>?_)
    ·have h17:=cT hq15 hb
     exact gO 6 E<|oSi h17▸⟨⟨E,E,E,E,tV⟩,[],E,.inl E⟩
    have h18:=cF hq15 hb
    exact bK h18 fun c19 hc19 h20=>gO 2 E<|Kqf E<|eo_o E (Kgv hΓ hc19 E E E E)<|gO 3 E<|oSi h20▸⟨⟨E,E,E,E,tV⟩,[],E,.inl E⟩
   refine gO 2 E<|jC E h16 (fun h21=>?_) fun h24=>gA 7 E<|oSi h24▸⟨_,E,⟨⟨E,E,Kfg E (Kff (by omega)),tV⟩,[],E,.inl E⟩⟩
   refine gA 8 E<|bK h21 fun v22 hv22 h23=>?_
   cases h23
   obtain rfl:=hout11 _ rfl
   cases h5
   exact gA 4 E<|oSi hv22▸gP E E
  subst hgo
  exact gA 6 E<|Kgf E (dF hge)<|gA 4 E<|⟨_,E,⟨⟨E,tV⟩,[],E,.inl E⟩⟩
 intro a6 ha
 subst ha
 replace h5:=Kjv h5
 exact gA 10 E<|oSi h5▸gP E E
theorem Ldb{k:Nat}{a:Kxa}{r:Int}(h:Kxz k a=some r):Pure Tryz.prog 124 [.agg [I a.Kind,I a.Number,S a.Words,I a.Version.1,I a.Version.2.1,I a.Version.2.2.1,I a.Version.2.2.2]] (I r):=by
 unfold Kxz at h
 refine QP Tryz.func124 E E E<|gA 2 E<|Kro E E E E Z<|bK h fun y1 hy1 h2=>gO 9 E<|Khl C (Lcz hy1) E Z E E E E E<|gO 3 E<|Kgd E (fun hb=>?_) (fun hb=>?_)
 ·have h3:=cT h2 hb
  exact gA 8 E<|oSi h3▸gP E E
 have h4:=cF h2 hb
 refine gA 6 E<|bK h4 fun q5 hq5 h6=>Kgj 4 [(1,.ptr 0 0),(17,B q5)] [.box 29 [I a.Kind,I a.Number,S a.Words,I a.Version.1,I a.Version.2.1,I a.Version.2.2.1,I a.Version.2.2.2]] ?_ ?_
 ·refine Kqh E E (fun hb=>?_) (fun hb=>?_)
  ·have h7:=cT hq5 hb
   exact bK h7 fun y8 hy8 h9=>gO 2 E<|Kqf E<|Khl C (Lcz hy8) E Z E E E E E<|gO 2 E<|oSi h9▸⟨⟨E,E,tV⟩,[],E,.inl E⟩
  have h10:=cF hq5 hb
  exact gO 5 E<|oSi h10▸⟨⟨E,E,tV⟩,[],E,.inl E⟩
 refine gO 1 E<|bK h6 fun q11 hq11 h12=>Kgj 9 [(1,.ptr 0 0),(27,B q11)] [.box 29 [I a.Kind,I a.Number,S a.Words,I a.Version.1,I a.Version.2.1,I a.Version.2.2.1,I a.Version.2.2.2]] ?_ ?_
 ·refine Kqh E E (fun hb=>?_) (fun hb=>?_)
  ·have h13:=cT hq11 hb
   exact gO 10 E<|oSi h13▸⟨⟨E,E,tV⟩,[],E,.inl E⟩
  have h14:=cF hq11 hb
  refine gO 4 E<|bK h14 fun q15 hq15 h16=>Kgj 4 [(1,.ptr 0 0),(18,B false),(26,B q15)] [.box 29 [I a.Kind,I a.Number,S a.Words,I a.Version.1,I a.Version.2.1,I a.Version.2.2.1,I a.Version.2.2.2]] ?_ ?_
  ·refine Kqh E E (fun hb=>?_) (fun hb=>?_)
   ·have h17:=cT hq15 hb
    exact bK h17 fun y18 hy18 h19=>gO 2 E<|Kqf E<|Khl C (Lcz hy18) E Z E E E E E<|gO 2 E<|oSi h19▸⟨⟨E,E,E,tV⟩,[],E,.inl E⟩
   have h20:=cF hq15 hb
   exact gO 5 E<|oSi h20▸⟨⟨E,E,E,tV⟩,[],E,.inl E⟩
  exact gO 2 E<|oSi h16▸⟨⟨E,E,tV⟩,[],E,.inl E⟩
 refine gO 3 E<|Kgd E (fun hb=>?_) (fun hb=>?_)
 ·have h21:=cT h12 hb
  exact gA 8 E<|oSi h21▸gP E E
 have h22:=cF h12 hb
 refine gA 6 E<|Kgj 4 [(1,.ptr 0 0),(36,B (((a.Kind:Int) != 1)&&((a.Kind:Int) != 3)))] [.box 29 [I a.Kind,I a.Number,S a.Words,I a.Version.1,I a.Version.2.1,I a.Version.2.2.1,I a.Version.2.2.2]] ?_ ?_
 ·refine Kqh E E (fun hb=>?_) (fun hb=>?_)
  ·exact gO 5 E<|⟨⟨E,Kfh E (Kie hb),tV⟩,[],E,.inl E⟩
  exact gO 5 E<|⟨⟨E,Kfh E (Kif hb),tV⟩,[],E,.inl E⟩
 refine gO 1 E<|Kgj 4 [(1,.ptr 0 0),(41,B ((((a.Kind:Int) != 1)&&((a.Kind:Int) != 3))&&((a.Number:Int) != 0)))] [.box 29 [I a.Kind,I a.Number,S a.Words,I a.Version.1,I a.Version.2.1,I a.Version.2.2.1,I a.Version.2.2.2]] ?_ ?_
 ·refine Kqh E E (fun hb=>?_) (fun hb=>?_)
  ·exact gO 5 E<|⟨⟨E,Kfh E (Kie hb),tV⟩,[],E,.inl E⟩
  exact gO 5 E<|⟨⟨E,Kfh E (Kif hb),tV⟩,[],E,.inl E⟩
 refine gO 3 E<|Kgd E (fun hb=>?_) (fun hb=>?_)
 ·have h23:=cT h22 hb
  exact gA 8 E<|oSi h23▸gP E E
 have h24:=cF h22 hb
 refine gA 6 E<|bK h24 fun q25 hq25 h26=>Kgj 5 [(1,.ptr 0 0),(51,B q25)] [.box 29 [I a.Kind,I a.Number,S a.Words,I a.Version.1,I a.Version.2.1,I a.Version.2.2.1,I a.Version.2.2.2]] ?_ ?_
 ·refine Kqh E E (fun hb=>?_) (fun hb=>?_)
  ·have h27:=cT hq25 hb
   exact bK h27 fun y28 hy28 h29=>gO 2 E<|Kqf E<|Khl C (Lda hy28) E Z E E E E E<|gO 3 E<|oSi h29▸⟨⟨E,E,tV⟩,[],E,.inl E⟩
  have h30:=cF hq25 hb
  exact gO 6 E<|oSi h30▸⟨⟨E,E,tV⟩,[],E,.inl E⟩
 refine gO 1 E<|Kgj 9 [(1,.ptr 0 0),(61,B (q25||(((a.Kind:Int) != 2)&&(!((a.Words:Str)==[])))))] [.box 29 [I a.Kind,I a.Number,S a.Words,I a.Version.1,I a.Version.2.1,I a.Version.2.2.1,I a.Version.2.2.2]] ?_ ?_
 ·refine Kqh E E (fun hb=>?_) (fun hb=>?_)
  ·exact gO 10 E<|⟨⟨E,Kfh E (or_t hb),tV⟩,[],E,.inl E⟩
  refine gO 4 E<|Kgj 4 [(1,.ptr 0 0),(52,B false),(60,B (((a.Kind:Int) != 2)&&(!((a.Words:Str)==[]))))] [.box 29 [I a.Kind,I a.Number,S a.Words,I a.Version.1,I a.Version.2.1,I a.Version.2.2.1,I a.Version.2.2.2]] ?_ ?_
  ·refine Kqh E E (fun hb=>?_) (fun hb=>?_)
   ·exact gO 5 E<|⟨⟨E,E,Kfh E (Kie hb),tV⟩,[],E,.inl E⟩
   exact gO 5 E<|⟨⟨E,E,Kfh E (Kif hb),tV⟩,[],E,.inl E⟩
  exact gO 2 E<|⟨⟨E,Kfh E (or_f hb),tV⟩,[],E,.inl E⟩
 refine gO 3 E<|Kgd E (fun hb=>?_) (fun hb=>?_)
 ·have h31:=cT h26 hb
  exact gA 8 E<|oSi h31▸gP E E
 have h32:=cF h26 hb
 refine gA 11 E<|bK h32 fun q36 hq36 h37=>Kka (R:=fun a38=>q36=.inl a38) (fun a38=>[]) (fun a38=>[.box 29 [I a.Kind,I a.Number,S a.Words,I a.Version.1,I a.Version.2.1,I a.Version.2.2.1,I a.Version.2.2.2]]) ?_ ?_
 ·refine gA 1 E<|Kgq hq36 (fun s34=>[(1,.ptr 0 0),(63,.agg [I a.Version.1,I a.Version.2.1,I a.Version.2.2.1,I a.Version.2.2.2]),(64,I s34)]) (fun s34=>[.box 29 [I a.Kind,I a.Number,S a.Words,I a.Version.1,I a.Version.2.1,I a.Version.2.2.1,I a.Version.2.2.2]]) ⟨⟨E,E,E,tV⟩,[],E,.inl E⟩ (fun s34 y42 hy40 hout41=>?_)
  refine gA 6 E<|Kgd E (fun hb=>?_) (fun hb=>?_)
  ·have h43:=cT hy40 hb
   refine bK h43 fun x44 hx44 h45=>gA 6 E<|eo_o E (Kkx hΓ (enc:=(eN .i64)) [a.Version.1,a.Version.2.1,a.Version.2.2.1,a.Version.2.2.2] hx44 E E E E E E E (fun _=>E) E)<|gO 10 E<|bK h45 fun q46 hq46 h47=>Kgj 3 [(1,.ptr 0 0),(4,I x44),(63,.agg [I a.Version.1,I a.Version.2.1,I a.Version.2.2.1,I a.Version.2.2.2]),(64,I s34),(73,B q46)] [.box 29 [I a.Kind,I a.Number,S a.Words,I a.Version.1,I a.Version.2.1,I a.Version.2.2.1,I a.Version.2.2.2]] ?_ ?_
   ·refine Kqh E E (fun hb=>?_) (fun hb=>?_)
    ·have h48:=cT hq46 hb
     exact bK h48 fun y49 hy49 h50=>gO 1 E<|Kqf E<|Khl C (Lcz hy49) E Z E E E E E<|gO 2 E<|oSi h50▸⟨⟨E,E,E,E,E,tV⟩,[],E,.inl E⟩
    have h51:=cF hq46 hb
    exact gO 4 E<|oSi h51▸⟨⟨E,E,E,E,E,tV⟩,[],E,.inl E⟩
   refine gO 2 E<|Kgd E (fun hb=>?_) (fun hb=>?_)
   ·have h52:=cT h47 hb
    refine gA 9 E<|bK h52 fun v53 hv53 h54=>?_
    cases h54
    obtain rfl:=hout41 _ rfl
    cases h37
    exact gA 4 E<|oSi hv53▸gP E E
   have h55:=cF h47 hb
   refine gA 8 E<|Kgj 3 [(1,.ptr 0 0),(63,.agg [I a.Version.1,I a.Version.2.1,I a.Version.2.2.1,I a.Version.2.2.2]),(64,I s34),(80,B (((a.Kind:Int) != 4)&&((x44:Int) != 0)))] [.box 29 [I a.Kind,I a.Number,S a.Words,I a.Version.1,I a.Version.2.1,I a.Version.2.2.1,I a.Version.2.2.2]] ?_ ?_
   ·refine Kqh E E (fun hb=>?_) (fun hb=>?_)
    ·exact gO 4 E<|⟨⟨E,E,E,Kfh E (Kie hb),tV⟩,[],E,.inl E⟩
    exact gO 4 E<|⟨⟨E,E,E,Kfh E (Kif hb),tV⟩,[],E,.inl E⟩
   refine gO 2 E<|jC E h55 (fun h56=>?_) fun h59=>gA 7 E<|oSi h59▸⟨_,E,⟨⟨E,E,E,tV⟩,[],E,.inl E⟩⟩
   refine gA 8 E<|bK h56 fun v57 hv57 h58=>?_
   cases h58
   obtain rfl:=hout41 _ rfl
   cases h37
   exact gA 4 E<|oSi hv57▸gP E E
  have h60:=cF hy40 hb
  refine gA 4 E ?_
  cases h60
  obtain rfl:=hout41 _ rfl
  exact⟨_,E,⟨tV,[],E,.inl E⟩⟩
 intro a38 ha
 subst ha
 replace h37:=Kju h37
 exact gA 7 E<|oSi h37▸gP E E
theorem Ldc{x:Int}{r:Bool}(h:Kya x=some r):Pure Tryz.prog 192 [I x] (B r):=by
 unfold Kya at h
 exact QP Tryz.func192 E E E<|gA 14 E<|oSi h▸gP E E
theorem Ldd{x:Int}{y:Int}{r:Int}(h:Kyb x y=some r):Pure Tryz.prog 130 [I x,I y] (I r):=by
 unfold Kyb at h
 refine QP Tryz.func130 E E E<|bK h fun y1 hy1 h2=>gA 8 E<|Khl C (Ldc hy1) E Z E E E E E<|bK h2 fun y3 hy3 h4=>gO 6 E<|Khl C (Ldc hy3) E Z E E E E E<|gO 9 E<|jC E h4 (fun h5=>?_) fun h8=>gA 8 E<|jC E h8 (fun h9=>?_) fun h10=>?_
 ·refine gA 6 E<|jC E h5 (fun h6=>?_) fun h7=>gA 9 E<|oSi h7▸gP E E
  exact gA 8 E<|oSi h6▸gP E E
 ·exact gA 7 E<|oSi h9▸gP E E
 refine gA 10 E<|jC E h10 (fun h11=>?_) fun h12=>gA 10 E<|jC E h12 (fun h13=>?_) fun h14=>?_
 ·exact gA 7 E<|oSi h11▸gP E E
 ·exact gA 7 E<|oSi h13▸gP E E
 exact gA 8 E<|oSi h14▸gP E E
theorem Lde{vals:List Int}{r:Int}(h:Kyc vals=some r):Pure Tryz.prog 129 [.d (Sl (eN .i64) vals)] (I r):=by
 unfold Kyc at h
 refine QP Tryz.func129 E E E<|gA 18 E<|bK h fun q4 hq4 h5=>Kgt 6 E fun hb7=>Kka (R:=fun a6=>q4=.go a6) (fun a6=>[(3,I 0)]) (fun a6=>[]) ?_ ?_
 ·refine gA 1 E<|Kgs vals hq4 (fun i1 s2=>[(3,I 0),(6,.d (Sl (eN .i64) vals)),(7,I (vals.length:Int)),(8,I (i1:Int))]) (fun s2=>[]) ⟨⟨E,E,E,E,tV⟩,[],E,.inl E⟩ (fun i1 x3 s2 y11 hx8 hlt hy9 hout10=>?_) (fun s2 hgo=>?_)
  ·refine gA 6 E<|Kge E (dT (Int.ofNat_lt.2 hlt))<|gA 6 E<|eo_o E (Kgu hΓ (enc:=(eN .i64)) (Kgn hx8) E E E E E (fun _=>E))<|gO 11 E<|jC E hy9 (fun h12=>?_) fun h15=>gA 7 E ?_
   ·refine gA 9 E<|bK h12 fun v13 hv13 h14=>?_
    cases h14
    obtain rfl:=hout10 _ rfl
    cases h5
    exact gA 4 E<|oSi hv13▸gP E E
   cases h15
   exact⟨_,E,⟨⟨E,E,E,Kfg E (Kff (nLl hlt hb7)),tV⟩,[],E,.inl E⟩⟩
  subst hgo
  exact gA 6 E<|Kgf E (dF (Int.lt_irrefl _))<|gA 4 E<|⟨_,E,⟨⟨E,tV⟩,[],E,.inl E⟩⟩
 intro a6 ha
 subst ha
 replace h5:=Kjv h5
 exact gA 8 E<|oSi h5▸gP E E
theorem Ldf{a:Kxb}{b:Kxb}{r:Int}(h:Kyd a b=some r):Pure Tryz.prog 122 [.agg [I a.At,S a.Node,S a.Name,I a.Value.Kind,I a.Value.Number,S a.Value.Words,I a.Value.Version.1,I a.Value.Version.2.1,I a.Value.Version.2.2.1,I a.Value.Version.2.2.2],.agg [I b.At,S b.Node,S b.Name,I b.Value.Kind,I b.Value.Number,S b.Value.Words,I b.Value.Version.1,I b.Value.Version.2.1,I b.Value.Version.2.2.1,I b.Value.Version.2.2.2]] (I r):=by
 unfold Kyd at h
 exact QP Tryz.func122 E E E<|gA 2 E<|Kro E E E E Z<|Kro E E E E Z<|gO 4 E<|jD<|bK h fun y1 hy1 h2=>gA 4 E<|Khm C (Ldd hy1) E E E E E E<|bK h2 fun y3 hy3 h4=>Kgb hΓ 4 E<|Khm C (Kvt hy3) E E E E E E<|bK h4 fun y5 hy5 h6=>Kgb hΓ 4 E<|Khm C (Kvt hy5) E E E E E E<|Khg hΓ (enc:=(eN .i64)) [y1,y3,y5] E E E E E E E E E E E E<|bK h6 fun y7 hy7 h8=>Khm C (Lde hy7) E E E E E E<|Kgb hΓ 4 E<|oSi h8▸gP E E
theorem Ldg{k:Nat}{l:List Kxb}{r:Int}(h:Kye k l=some r):Pure Tryz.prog 51 [.d (Sl Kwu l)] (I r):=by
 unfold Kye at h
 refine QP Tryz.func51 E E E<|gA 13 E<|jC E h (fun h1=>?_) fun h2=>gA 10 E<|bK h2 fun q6 hq6 h7=>Kgt 0 E fun hb9=>Kka (R:=fun a8=>q6=.go a8) (fun a8=>[]) (fun a8=>[]) ?_ ?_
 ·exact gA 7 E<|oSi h1▸gP E E
 ·refine gA 1 E<|Kgs l hq6 (fun i3 s4=>[(0,.d (Sl Kwu l)),(9,.d (Sl Kwu l)),(10,I (l.length:Int)),(11,I (i3:Int))]) (fun s4=>[]) ⟨⟨E,E,E,E,tV⟩,[],E,.inl E⟩ (fun i3 x5 s4 y13 hx10 hlt hy11 hout12=>?_) (fun s4 hgo=>?_)
  ·refine gA 6 E<|Kge E (dT (Int.ofNat_lt.2 hlt))<|gA 7 E<|eo_o E (Kgu hΓ (enc:=Kwu) (Kgn hx10) E E E E E (fun _=>E))<|gO 1 E<|Krn hΓ E E E Z<|gO 1 E<|Krs hΓ E E E E E E E E Z<|Kht [.box 83 [I x5.At,S x5.Node,S x5.Name,I x5.Value.Kind,I x5.Value.Number,S x5.Value.Words,I x5.Value.Version.1,I x5.Value.Version.2.1,I x5.Value.Version.2.2.1,I x5.Value.Version.2.2.2]] E<|bK hy11 fun y14 hy14 h15=>gO 7 E<|Khl C (Lcx hy14) E Z E E E E E<|gO 3 E<|jC E h15 (fun h16=>?_) fun h19=>bK h19 fun y20 hy20 h21=>gA 7 E<|Khl C (Lcy hy20) E Z E E E E E<|gO 2 E<|bK h21 fun q22 hq22 h23=>Kgj 5 [(0,.d (Sl Kwu l)),(3,I (i3:Int)),(4,.ptr 0 0),(9,.d (Sl Kwu l)),(10,I (l.length:Int)),(11,I (i3:Int)),(29,B q22)] [.box 83 [I x5.At,S x5.Node,S x5.Name,I x5.Value.Kind,I x5.Value.Number,S x5.Value.Words,I x5.Value.Version.1,I x5.Value.Version.2.1,I x5.Value.Version.2.2.1,I x5.Value.Version.2.2.2]] ?_ ?_
   ·refine gA 9 E<|bK h16 fun v17 hv17 h18=>?_
    cases h18
    obtain rfl:=hout12 _ rfl
    cases h7
    exact gA 4 E<|oSi hv17▸gP E E
   ·refine Kqh E E (fun hb=>?_) (fun hb=>?_)
    ·have h24:=cT hq22 hb
     exact gO 6 E<|oSi h24▸⟨⟨E,E,E,E,E,E,E,tV⟩,[],E,.inl E⟩
    have h25:=cF hq22 hb
    exact bK h25 fun y26 hy26 h27=>gO 2 E<|Kqf E<|Khl C (Lcy hy26) E Z E E E E E<|gO 3 E<|oSi h27▸⟨⟨E,E,E,E,E,E,E,tV⟩,[],E,.inl E⟩
   refine gO 2 E<|jC E h23 (fun h28=>?_) fun h31=>bK h31 fun y32 hy32 h33=>gA 7 E<|Khl C (Ldb hy32) E Z E E E E E<|gO 9 E<|jC E h33 (fun h34=>?_) fun h37=>?_
   ·refine gA 9 E<|bK h28 fun v29 hv29 h30=>?_
    cases h30
    obtain rfl:=hout12 _ rfl
    cases h7
    exact gA 4 E<|oSi hv29▸gP E E
   ·refine gA 10 E<|bK h34 fun v35 hv35 h36=>?_
    cases h36
    obtain rfl:=hout12 _ rfl
    cases h7
    exact gA 4 E<|oSi hv35▸gP E E
   refine bK h37 fun q38 hq38 h39=>gA 3 E<|Kkb [(0,.d (Sl Kwu l)),(9,.d (Sl Kwu l)),(10,I (l.length:Int)),(11,I (i3:Int)),(47,B q38)] [.box 83 [I x5.At,S x5.Node,S x5.Name,I x5.Value.Kind,I x5.Value.Number,S x5.Value.Words,I x5.Value.Version.1,I x5.Value.Version.2.1,I x5.Value.Version.2.2.1,I x5.Value.Version.2.2.2]] ?_ ?_
   ·refine jD<|gA 3 E<|Kem E E (fun hb=>?_) (fun hb=>?_)
    ·have h40:=cT hq38 hb
     exact bK h40 fun x41 hx41 h42=>Kgb hΓ 3 E<|Kfi E E (Kgu hΓ (enc:=Kwu) hx41 E E E E E (fun _=>E))<|bK h42 fun y43 hy43 h44=>Kgb hΓ 2 E<|Khn C (Ldf hy43) E E E E E E E<|Kgb hΓ 3 E<|oSi h44▸⟨⟨E,E,E,E,E,tV⟩,[],E,.inl E⟩
    have h45:=cF hq38 hb
    exact Kgb hΓ 10 E<|oSi h45▸⟨⟨E,E,E,E,E,tV⟩,[],E,.inl E⟩
   refine gA 1 E<|jC E h39 (fun h46=>?_) fun h49=>gA 7 E ?_
   ·refine gA 8 E<|bK h46 fun v47 hv47 h48=>?_
    cases h48
    obtain rfl:=hout12 _ rfl
    cases h7
    exact gA 4 E<|oSi hv47▸gP E E
   cases h49
   exact⟨_,E,⟨⟨E,E,E,Kfg E (Kff (nLl hlt hb9)),tV⟩,[_],E,.inr ⟨HB.mk E,FB.mk E,Z⟩⟩⟩
  subst hgo
  exact gA 6 E<|Kgf E (dF (Int.lt_irrefl _))<|gA 4 E<|⟨_,E,⟨tV,[],E,.inl E⟩⟩
 intro a8 ha
 subst ha
 replace h7:=Kjv h7
 exact gA 7 E<|oSi h7▸gP E E
theorem Ldh{fresh:Int}{r:Int}(h:Kyf fresh=some r):Pure Tryz.prog 178 [I fresh] (I r):=by
 unfold Kyf at h
 refine QP Tryz.func178 E E E<|bK h fun y1 hy1 h2=>gA 9 E<|Khl C (Lcz hy1) E Z E E E E E<|gO 2 E<|jC E h2 (fun h3=>?_) fun h4=>gA 8 E<|oSi h4▸gP E E
 exact gA 7 E<|oSi h3▸gP E E
theorem Ldi{k:Nat}{s:Str}{r:Bool}(h:Kyg k s=some r):Pure Tryz.prog 180 [S s] (B r):=by
 unfold Kyg at h
 exact QP Tryz.func180 E E E<|bK h fun y1 hy1 h2=>gA 8 E<|Khl C (Lcy hy1) E Z E E E E E<|gO 5 E<|oSi h2▸gP E E
theorem Ldj{k:Nat}{s:List Str}{r:Int}(h:Kyh k s=some r):Pure Tryz.prog 232 [.d (Sl eS s),.fn (.func 180) [] []] (I r):=by
 unfold Kyh at h
 refine QP Tryz.func232 E E E<|gA 13 E<|bK h fun q4 hq4 h5=>Kgt 0 E fun hb7=>Kka (R:=fun a6=>q4=.go a6) (fun a6=>[]) (fun a6=>[]) ?_ ?_
 ·refine gA 1 E<|Kgs s hq4 (fun i1 s2=>[(0,.d (Sl eS s)),(1,.fn (.func 180) [] []),(7,I (s.length:Int)),(8,I (i1:Int))]) (fun s2=>[]) ⟨⟨E,E,E,E,tV⟩,[],E,.inl E⟩ (fun i1 x3 s2 y11 hx8 hlt hy9 hout10=>?_) (fun s2 hgo=>?_)
  ·refine gA 6 E<|Kge E (dT (Int.ofNat_lt.2 hlt))<|gA 15 E<|eo_o E (Kgu hΓ (enc:=eS) (Kgn hx8) E E E E E (fun _=>E))<|bK hy9 fun y12 hy12 h13=>gO 1 E<|Khl C (Ldi hy12) E Z E E E E E<|gO 2 E<|jC E h13 (fun h14=>?_) fun h17=>gA 7 E ?_
   ·refine gA 9 E<|bK h14 fun v15 hv15 h16=>?_
    cases h16
    obtain rfl:=hout10 _ rfl
    cases h5
    exact gA 4 E<|oSi hv15▸gP E E
   cases h17
   exact⟨_,E,⟨⟨E,E,E,Kfg E (Kff (nLl hlt hb7)),tV⟩,[],E,.inl E⟩⟩
  subst hgo
  exact gA 6 E<|Kgf E (dF (Int.lt_irrefl _))<|gA 4 E<|⟨_,E,⟨tV,[],E,.inl E⟩⟩
 intro a6 ha
 subst ha
 replace h5:=Kjv h5
 exact gA 7 E<|oSi h5▸gP E E
theorem Ldk{k:Nat}{s:List Str}{r:Bool}(h:Kyi k s=some r):Pure Tryz.prog 179 [.d (Sl eS s),.fn (.func 180) [] []] (B r):=by
 unfold Kyi at h
 exact QP Tryz.func179 E E E<|bK h fun y1 hy1 h2=>gA 9 E<|Khl C (Ldj hy1) E Z E E E E E<|gO 5 E<|oSi h2▸gP E E
theorem Ldl{k:Nat}{l:List Kxb}{fresh:Int}{names:List Str}{r:Int}(h:Kyj k l fresh names=some r):Pure Tryz.prog 93 [.d (Sl Kwu l),I fresh,.d (Sl eS names)] (I r):=by
 unfold Kyj at h
 refine QP Tryz.func93 E E E<|bK h fun y1 hy1 h2=>gA 9 E<|Khl C (Ldg hy1) E Z E E E E E<|gO 9 E<|jC E h2 (fun h3=>?_) fun h4=>bK h4 fun y5 hy5 h6=>gA 6 E<|Khl C (Ldh hy5) E Z E E E E E<|gO 9 E<|jC E h6 (fun h7=>?_) fun h8=>?_
 ·exact gA 8 E<|oSi h3▸gP E E
 ·exact gA 8 E<|oSi h7▸gP E E
 refine bK h8 fun y9 hy9 h10=>gA 6 E<|Khl C (Ldk hy9) E Z E E E E E<|gO 2 E<|jC E h10 (fun h11=>?_) fun h12=>gA 8 E<|oSi h12▸gP E E
 exact gA 7 E<|oSi h11▸gP E E
theorem Ldm{v_at:Int}{r:Int}(h:Kyk v_at=some r):Pure Tryz.prog 119 [I v_at] (I r):=by
 unfold Kyk at h
 refine QP Tryz.func119 E E E<|bK h fun y1 hy1 h2=>gA 9 E<|Khl C (Lcx hy1) E Z E E E E E<|gO 3 E<|jC E h2 (fun h3=>?_) fun h4=>gA 8 E<|oSi h4▸gP E E
 exact gA 7 E<|oSi h3▸gP E E
theorem Ldn{l:List Kxb}{fresh:Int}{al:List Bool}{r:Kxd×(List Bool)}(h:Kyl l fresh al=some r):EC Tryz.prog 95 [.d (Sl Kwu l),I fresh] [.bag al [] []] fun g hp'=>g=.ptr 2 0∧hp'=[.bag r.2 [] [],mOb (kD Kwv) false (eT 83 10 Kwu) r.1.list,.box 240 [I r.1.fresh,.map 1]]:=by
 unfold Kyl at h
 refine QM Tryz.func95 E Z<|gA 8 E<|eo_s Z (nblt.1 E) (Kle false)<|Kht [.bag al [] [],mOb (kD Kwv) false (eT 83 10 Kwu) ([]:List (Kxc×(Tl Kxb)))] E<|Kec hΓ (gs:=[I fresh,.map 1]) E E E E E E E<|Kro E E E E Z<|gO 11 E<|bK h fun q4 hq4 h5=>Kgt 13 E fun hb7=>Kkb [(5,.ptr 2 0)] [.bag q4.1 [] [],mOb (kD Kwv) false (eT 83 10 Kwu) q4.2,.box 240 [I fresh,.map 1]] ?_ ?_
 ·refine gA 1 E<|Kia l hq4 (fun i1 s2=>[(5,.ptr 2 0),(13,.d (Sl Kwu l)),(14,I (l.length:Int)),(15,I (i1:Int))]) (fun s2=>[.bag s2.1 [] [],mOb (kD Kwv) false (eT 83 10 Kwu) s2.2,.box 240 [I fresh,.map 1]]) ⟨⟨E,E,E,E,tV⟩,[],E,.inl E⟩ (fun i1 x3 s2 y11 hx8 hlt hy9=>?_) (?_)
  ·refine gA 6 E<|Kge E (dT (Int.ofNat_lt.2 hlt))<|gA 6 E<|eo_o E (Kgu hΓ (enc:=Kwu) (Kgn hx8) E E E E E (fun _=>E))<|gO 1 E<|Krn hΓ E E E Z<|Krs hΓ E E E E E E E E Z<|Kht [.bag s2.1 [] [],mOb (kD Kwv) false (eT 83 10 Kwu) s2.2,.box 240 [I fresh,.map 1],.box 83 [I x3.At,S x3.Node,S x3.Name,I x3.Value.Kind,I x3.Value.Number,S x3.Value.Words,I x3.Value.Version.1,I x3.Value.Version.2.1,I x3.Value.Version.2.2.1,I x3.Value.Version.2.2.2]] E<|gO 8 E<|Kec hΓ (gs:=[S x3.Node,S x3.Name]) E E E E E E E<|Krn hΓ E E E Z<|Krs hΓ E E E E E E E E Z<|Kht [.bag s2.1 [] [],mOb (kD Kwv) false (eT 83 10 Kwu) s2.2,.box 240 [I fresh,.map 1],.box 83 [I x3.At,S x3.Node,S x3.Name,I x3.Value.Kind,I x3.Value.Number,S x3.Value.Words,I x3.Value.Version.1,I x3.Value.Version.2.1,I x3.Value.Version.2.2.1,I x3.Value.Version.2.2.2],.box 242 [S x3.Node,S x3.Name]] E<|gO 2 E<|Kmj (kv:=(kD Kwv)) (agg:=false) (enc:=(eT 83 10 Kwu)) (id:=1) s2.2 E Z (fun mr12 bs13 cl14 hbl15=>?_)
   refine j_hp [.bag s2.1 [] [],mObS (kD Kwv) false (eT 83 10 Kwu) s2.2 (rawM (kD Kwv) (eT 83 10 Kwu) mr12 bs13 cl14),.box 240 [I fresh,.map 1],.box 83 [I x3.At,S x3.Node,S x3.Name,I x3.Value.Kind,I x3.Value.Number,S x3.Value.Words,I x3.Value.Version.1,I x3.Value.Version.2.1,I x3.Value.Version.2.2.1,I x3.Value.Version.2.2.2],.box 242 [S x3.Node,S x3.Name]] E<|Kjg [.dead,.dead,.box 240 [I fresh,.map 1],.box 83 [I x3.At,S x3.Node,S x3.Name,I x3.Value.Kind,I x3.Value.Number,S x3.Value.Words,I x3.Value.Version.1,I x3.Value.Version.2.1,I x3.Value.Version.2.2.1,I x3.Value.Version.2.2.2],.box 242 [S x3.Node,S x3.Name]] [3,4,5] [7,9,11] [] hmix (by kernel_rfl) (by kernel_rfl) ⟨E,E,E,tV⟩ Z<|go_E hΓ 6 E<|Kjr hΓ (enc:=Kwu) [x3] E E E E E E E E E E E E<|ge_h [.bag s2.1 [] [],mObS (kD Kwv) false (eT 83 10 Kwu) (mEnt s2.2 (⟨x3.Node,x3.Name⟩:Kxc) ((1,[]):Tl Kxb)) (rawM (kD Kwv) (eT 83 10 Kwu) (entR mr12 (⟨x3.Node,x3.Name⟩:Kxc) ((1,[]):Tl Kxb)) (entB mr12 bs13 cl14 (⟨x3.Node,x3.Name⟩:Kxc)) (entC mr12 cl14 (⟨x3.Node,x3.Name⟩:Kxc))),.box 240 [I fresh,.map 1],.box 83 [I x3.At,S x3.Node,S x3.Name,I x3.Value.Kind,I x3.Value.Number,S x3.Value.Words,I x3.Value.Version.1,I x3.Value.Version.2.1,I x3.Value.Version.2.2.1,I x3.Value.Version.2.2.2],.box 242 [S x3.Node,S x3.Name]] E E E (Kjm ⟨E,E,E,tV⟩) (Kjp (Kou hΓ (kenc:=Kwv) (agg:=false) (enc:=(eT 83 10 Kwu)) (id:=1) s2.2 mr12 (⟨x3.Node,x3.Name⟩:Kxc) ((1,[]):Tl Kxb) E E E Kwy (fun _=>E) E E E (Kmc E) E hbl15 E))<|bK hy9 fun y16 hy16 h17=>go_E hΓ 1 E<|ge_h [.bag y16.2 [] [],mObS (kD Kwv) false (eT 83 10 Kwu) (mEnt s2.2 (⟨x3.Node,x3.Name⟩:Kxc) ((1,[]):Tl Kxb)) (rawM (kD Kwv) (eT 83 10 Kwu) (entR mr12 (⟨x3.Node,x3.Name⟩:Kxc) ((1,[]):Tl Kxb)) (entB mr12 bs13 cl14 (⟨x3.Node,x3.Name⟩:Kxc)) (entC mr12 cl14 (⟨x3.Node,x3.Name⟩:Kxc))),.box 240 [I fresh,.map 1],.box 83 [I x3.At,S x3.Node,S x3.Name,I x3.Value.Kind,I x3.Value.Number,S x3.Value.Words,I x3.Value.Version.1,I x3.Value.Version.2.1,I x3.Value.Version.2.2.1,I x3.Value.Version.2.2.2],.box 242 [S x3.Node,S x3.Name]] E E E (Kjm ⟨E,E,E,tV⟩) (Kjp (Klx hΓ (enc:=Kwu) (bg:=0) hy16 E E E E E E E E (fun _=>E) E E))<|go_E hΓ 1 E<|Kjk [.bag y16.2 [] [],mOb (kD Kwv) false (eT 83 10 Kwu) (mSet s2.2 (⟨x3.Node,x3.Name⟩:Kxc) y16.1),.box 240 [I fresh,.map 1],.box 83 [I x3.At,S x3.Node,S x3.Name,I x3.Value.Kind,I x3.Value.Number,S x3.Value.Words,I x3.Value.Version.1,I x3.Value.Version.2.1,I x3.Value.Version.2.2.1,I x3.Value.Version.2.2.2],.box 242 [S x3.Node,S x3.Name]] E E (Kjm ⟨E,E,E,tV⟩) (Kjq (Kov (kenc:=Kwv) (agg:=false) (enc:=(eT 83 10 Kwu)) (id:=1) s2.2 mr12 (⟨x3.Node,x3.Name⟩:Kxc) ((1,[]):Tl Kxb) y16.1 Kwy E E E E E hbl15 E))<|Kjh<|gA 6 E ?_
   cases h17
   exact⟨⟨E,E,E,Kfg E (Kff (nLl hlt hb7)),tV⟩,[_,_],E,.inr ⟨HB.mk E,FB.mk E,Z⟩⟩
  exact gA 6 E<|Kgf E (dF (Int.lt_irrefl _))<|gA 4 E<|⟨⟨E,tV⟩,[],E,.inl E⟩
 exact gA 8 E<|Kjx<|oSi h5▸Khy hΓ [] (.inr E) E E E E (.inl E)
theorem Ldo{k:Nat}{l:List Kxb}{fresh:Int}{node:Str}{name:Str}{v_at:Int}{al:List Bool}{r:Kxa×Bool×Int×(List Bool)}(h:Kyn k l fresh node name v_at al=some r):EC Tryz.prog 48 [.d (Sl Kwu l),I fresh,S node,S name,I v_at] [.bag al [] []] fun g hp'=>g=.tup [.agg [I r.1.Kind,I r.1.Number,S r.1.Words,I r.1.Version.1,I r.1.Version.2.1,I r.1.Version.2.2.1,I r.1.Version.2.2.2],B r.2.1,I r.2.2.1]∧hp'=[.bag r.2.2.2 [] []]:=by
 unfold Kyn at h
 refine QN Tryz.func48 E Z<|gA 2 E<|Krn hΓ E E E Z<|gO 11 E<|Khf hΓ (enc:=eS) [node,name] E E E E E E E E E E E E Z<|bK h fun y1 hy1 h2=>Khl C (Ldl hy1) E Z E E E E E<|gO 9 E<|jC E h2 (fun h3=>?_) fun h4=>bK h4 fun y5 hy5 h6=>gA 6 E<|Khl C (Ldm hy5) E Z E E E E E<|gO 9 E<|jC E h6 (fun h7=>?_) fun h8=>?_
 ·exact gA 2 E<|Kec hΓ (gs:=[I 0,I 0,S [],I 0,I 0,I 0,I 0]) E E E E E E E<|gO 1 E<|Krs hΓ E E E E E E E E Z<|Kht [.bag al [] [],.box 29 [I 0,I 0,S [],I 0,I 0,I 0,I 0]] E<|gO 6 E<|oSi h3▸Khy hΓ [_] (.inr E) E E E E (.inr ⟨HB.mk E,E⟩)
 ·exact gA 2 E<|Kec hΓ (gs:=[I 0,I 0,S [],I 0,I 0,I 0,I 0]) E E E E E E E<|gO 1 E<|Krs hΓ E E E E E E E E Z<|Kht [.bag al [] [],.box 29 [I 0,I 0,S [],I 0,I 0,I 0,I 0]] E<|gO 6 E<|oSi h7▸Khy hΓ [_] (.inr E) E E E E (.inr ⟨HB.mk E,E⟩)
 exact bK h8 fun y9 hy9 h10=>gA 6 E<|Khk [0] (.ptr 3 0) [.bag y9.2 [] [],.box 29 [I 0,I 0,S [],I 0,I 0,I 0,I 0],mOb (kD Kwv) false (eT 83 10 Kwu) y9.1.list,.box 240 [I y9.1.fresh,.map 2]] C (Ldn hy9) E Z E E E E E E E E E E<|bK h10 fun y11 hy11 h12=>gO 3 E<|Khk [2,3] (.tup [.agg [I y11.1.Kind,I y11.1.Number,S y11.1.Words,I y11.1.Version.1,I y11.1.Version.2.1,I y11.1.Version.2.2.1,I y11.1.Version.2.2.2],B y11.2]) [.bag y9.2 [] [],.box 29 [I 0,I 0,S [],I 0,I 0,I 0,I 0],mOb (kD Kwv) false (eT 83 10 Kwu) y9.1.list,.box 240 [I y9.1.fresh,.map 2]] C (Kat hy11) E Z E E E E E E E E E E<|gO 3 E<|Krn hΓ E E E Z<|Krs hΓ E E E E E E E E Z<|Kht [.bag y9.2 [] [],.box 29 [I 0,I 0,S [],I 0,I 0,I 0,I 0],mOb (kD Kwv) false (eT 83 10 Kwu) y9.1.list,.box 240 [I y9.1.fresh,.map 2],.box 29 [I y11.1.Kind,I y11.1.Number,S y11.1.Words,I y11.1.Version.1,I y11.1.Version.2.1,I y11.1.Version.2.2.1,I y11.1.Version.2.2.2]] E<|gO 7 E<|Krs hΓ E E E E E E E E Z<|Kht [.bag y9.2 [] [],.box 29 [I y11.1.Kind,I y11.1.Number,S y11.1.Words,I y11.1.Version.1,I y11.1.Version.2.1,I y11.1.Version.2.2.1,I y11.1.Version.2.2.2],mOb (kD Kwv) false (eT 83 10 Kwu) y9.1.list,.box 240 [I y9.1.fresh,.map 2],.box 29 [I y11.1.Kind,I y11.1.Number,S y11.1.Words,I y11.1.Version.1,I y11.1.Version.2.1,I y11.1.Version.2.2.1,I y11.1.Version.2.2.2]] E<|gO 5 E<|oSi h12▸Khy hΓ [_,_,_,_] (.inr E) E E E E (.inr ⟨HB.mk E,E⟩)
theorem Ldp{k:Nat}{data:List Kxb}{a:Int}{b:Int}{r:List Kxb}(h:Kyo k data a b=some r):EC Tryz.prog 238 [.sl 0 data.length,I a,I b,.fn (.func 122) [] []] [rO 83 10 Kwu data] fun g hp'=>g=.tup []∧hp'=[rO 83 10 Kwu r]:=by
 unfold Kyo at h
 refine QN Tryz.func238 E Z<|gA 7 E<|bK h fun q4 hq4 h5=>Kkb [] [rO 83 10 Kwu q4] ?_ ?_
 ·refine gA 1 E<|Kgq hq4 (fun s2=>[(0,.sl 0 s2.1.length),(1,I a),(2,I b),(3,.fn (.func 122) [] []),(8,I s2.2)]) (fun s2=>[rO 83 10 Kwu s2.1]) ⟨⟨E,E,E,E,E,tV⟩,[],E,.inl E⟩ (fun s2 y10 hy8 hout9=>?_)
  refine gA 8 E<|jC E hy8 (fun h11=>?_) fun h51=>gA 4 E ?_
  ·refine gA 10 E<|bK h11 fun q15 hq15 h16=>Kkb [(0,.sl 0 q15.length),(1,I a),(2,I b),(3,.fn (.func 122) [] []),(8,I s2.2)] [rO 83 10 Kwu q15] ?_ ?_
   ·refine gA 1 E<|Kgq hq15 (fun s13=>[(0,.sl 0 s13.1.length),(1,I a),(2,I b),(3,.fn (.func 122) [] []),(8,I s2.2),(9,I s13.2)]) (fun s13=>[rO 83 10 Kwu s13.1]) ⟨⟨E,E,E,E,E,E,tV⟩,[],E,.inl E⟩ (fun s13 y21 hy19 hout20=>?_)
    refine bK hy19 fun q22 hq22 h23=>gA 2 E<|Kkb [(0,.sl 0 s13.1.length),(1,I a),(2,I b),(3,.fn (.func 122) [] []),(8,I s2.2),(9,I s13.2),(34,B q22)] [rO 83 10 Kwu s13.1] ?_ ?_
    ·refine jD<|gA 4 E<|Kem E E (fun hb=>?_) (fun hb=>?_)
     ·have h24:=cT hq22 hb
      refine bK h24 fun x25 hx25 h26=>?_
      have hj27:=Kid hx25
      refine Kgb hΓ 3 E<|Kfi E E (Kgw hΓ hx25 E E E E E E)<|Kfi E E (Khc hΓ (enc:=Kwu) s13.2.toNat 0 hj27 E E E E (fun _=>E) (g:=.agg [I x25.At,S x25.Node,S x25.Name,I x25.Value.Kind,I x25.Value.Number,S x25.Value.Words,I x25.Value.Version.1,I x25.Value.Version.2.1,I x25.Value.Version.2.2.1,I x25.Value.Version.2.2.2]) E)<|bK h26 fun x28 hx28 h29=>?_
      have hj30:=Kid hx28
      exact Kgb hΓ 3 E<|Kfi E E (Kgw hΓ hx28 E E E E E E)<|Kfi E E (Khc hΓ (enc:=Kwu) ((wi (s13.2 - 1)).toNat) 0 hj30 E E E E (fun _=>E) (g:=.agg [I x28.At,S x28.Node,S x28.Name,I x28.Value.Kind,I x28.Value.Number,S x28.Value.Words,I x28.Value.Version.1,I x28.Value.Version.2.1,I x28.Value.Version.2.2.1,I x28.Value.Version.2.2.2]) E)<|bK h29 fun y31 hy31 h32=>Khn C (Ldf hy31) E E E E E E E<|Kgb hΓ 3 E<|oSi h32▸⟨⟨E,E,E,E,E,E,E,tV⟩,[],E,.inl E⟩
     have h33:=cF hq22 hb
     exact Kgb hΓ 14 E<|oSi h33▸⟨⟨E,E,E,E,E,E,E,tV⟩,[],E,.inl E⟩
    refine gA 1 E<|jC E h23 (fun h34=>?_) fun h50=>gA 4 E ?_
    ·refine gA 4 E<|Kjg [rO 83 10 Kwu s13.1] [9,13] [15,17] [15,17] hmix (by kernel_rfl) (by kernel_rfl) ⟨E,tV⟩ Z<|bK h34 fun x35 hx35 h36=>?_
     have hj37:=Kid hx35
     refine go_E hΓ 8 E<|ge_q E (.inl E) (fun _ _=>Kji (qt_p (Kgw hΓ hx35 E E E E E E)))<|ge_p E (fun hp hs=>Khc hΓ (enc:=Kwu) ((wi (s13.2 - 1)).toNat) 0 hj37 E E E (hs 0 _ E E) (fun _=>E) (g:=.agg [I x35.At,S x35.Node,S x35.Name,I x35.Value.Kind,I x35.Value.Number,S x35.Value.Words,I x35.Value.Version.1,I x35.Value.Version.2.1,I x35.Value.Version.2.2.1,I x35.Value.Version.2.2.2]) E) E<|bK h36 fun x38 hx38 h39=>?_
     have hj40:=Kid hx38
     refine go_E hΓ 2 E<|ge_q E (.inl E) (fun _ _=>Kji (qt_p (Kgw hΓ hx38 E E E E E E)))<|ge_p E (fun hp hs=>Khc hΓ (enc:=Kwu) s13.2.toNat 0 hj40 E E E (hs 0 _ E E) (fun _=>E) (g:=.agg [I x38.At,S x38.Node,S x38.Name,I x38.Value.Kind,I x38.Value.Number,S x38.Value.Words,I x38.Value.Version.1,I x38.Value.Version.2.1,I x38.Value.Version.2.2.1,I x38.Value.Version.2.2.2]) E) E<|bK h39 fun x41 hx41 h42=>?_
     have hj43:=Kid hx41
     refine ge_q E (.inl E) (fun _ _=>Kji (qt_p (Kgw hΓ hx41 E E E E E E)))<|Kjk [rO 83 10 Kwu (s13.1.set s13.2.toNat x35)] E E (Kjl E) (Kjq (Kkn hΓ (enc:=Kwu) (z':=x35) s13.2.toNat (by have:=(gEs.1 hj43).1;simpa using this) E E E E (fun _=>E) E E E E E)) ?_
     refine bK h42 fun x44 hx44 h45=>?_
     have hj46:=Kid hx44
     refine ge_q E (.inl E) (fun _ _=>Kji (qt_p (Kgw hΓ hx44 E E E E E E)))<|bK h45 fun x47 hx47 h48=>?_
     have hj49:(s13.1.set s13.2.toNat x35)[(wi (s13.2 - 1)).toNat]?=some x47:=hx47
     refine Kjk [rO 83 10 Kwu ((s13.1.set s13.2.toNat x35).set ((wi (s13.2 - 1)).toNat) x38)] E E (Kjl E) (Kjq (Kkn hΓ (enc:=Kwu) (z':=x38) ((wi (s13.2 - 1)).toNat) (by have:=(gEs.1 hj49).1;simpa using this) E E E E (fun _=>E) E E E E E)) ?_
     refine Kjh<|gA 2 E<|Kko 0 (n':=((s13.1.set s13.2.toNat x35).set ((wi (s13.2 - 1)).toNat) x38).length) E (by simp) ?_
     refine Kko 37 (n':=((s13.1.set s13.2.toNat x35).set ((wi (s13.2 - 1)).toNat) x38).length) E (by simp) ?_
     refine Kko 39 (n':=((s13.1.set s13.2.toNat x35).set ((wi (s13.2 - 1)).toNat) x38).length) E (by simp) ?_
     refine Kko 42 (n':=((s13.1.set s13.2.toNat x35).set ((wi (s13.2 - 1)).toNat) x38).length) E (by simp) ?_
     refine Kko 47 (n':=((s13.1.set s13.2.toNat x35).set ((wi (s13.2 - 1)).toNat) x38).length) E (by simp) ?_
     exact gA 5 E<|oSi h48▸⟨_,E,⟨⟨E,E,E,E,E,E,tV⟩,[],E,.inl E⟩⟩
    cases h50
    obtain rfl:=hout20 _ rfl
    exact⟨⟨E,E,E,E,E,tV⟩,[],E,.inl E⟩
   exact gA 7 E<|oSi h16▸⟨_,E,⟨⟨E,E,E,E,E,tV⟩,[],E,.inl E⟩⟩
  cases h51
  obtain rfl:=hout9 _ rfl
  exact⟨tV,[],E,.inl E⟩
 exact oSi h5▸Khy hΓ [] (.inl E) E E E E (.inl E)
theorem Ldq{k:Nat}{data:List Kxb}{a:Int}{b:Int}{n:Int}{r:List Kxb}(h:Kyp k data a b n=some r):EC Tryz.prog 346 [.sl 0 data.length,I a,I b,I n,.fn (.func 122) [] []] [rO 83 10 Kwu data] fun g hp'=>g=.tup []∧hp'=[rO 83 10 Kwu r]:=by
 unfold Kyp at h
 refine QN Tryz.func346 E Z<|gA 5 E<|bK h fun q4 hq4 h5=>Kkb [] [rO 83 10 Kwu q4] ?_ ?_
 ·refine gA 1 E<|Kgq hq4 (fun s2=>[(0,.sl 0 s2.1.length),(1,I a),(2,I b),(3,I n),(10,I s2.2)]) (fun s2=>[rO 83 10 Kwu s2.1]) ⟨⟨E,E,E,E,E,tV⟩,[],E,.inl E⟩ (fun s2 y10 hy8 hout9=>?_)
  refine gA 8 E<|jC E hy8 (fun h11=>?_) fun h27=>gA 4 E ?_
  ·refine gA 4 E<|Kjg [rO 83 10 Kwu s2.1] [13,19] [21,23] [21,23] hmix (by kernel_rfl) (by kernel_rfl) ⟨E,tV⟩ Z<|bK h11 fun x12 hx12 h13=>?_
   have hj14:=Kid hx12
   refine go_E hΓ 12 E<|ge_q E (.inl E) (fun _ _=>Kji (qt_p (Kgw hΓ hx12 E E E E E E)))<|ge_p E (fun hp hs=>Khc hΓ (enc:=Kwu) ((wi (b+s2.2)).toNat) 0 hj14 E E E (hs 0 _ E E) (fun _=>E) (g:=.agg [I x12.At,S x12.Node,S x12.Name,I x12.Value.Kind,I x12.Value.Number,S x12.Value.Words,I x12.Value.Version.1,I x12.Value.Version.2.1,I x12.Value.Version.2.2.1,I x12.Value.Version.2.2.2]) E) E<|bK h13 fun x15 hx15 h16=>?_
   have hj17:=Kid hx15
   refine go_E hΓ 4 E<|ge_q E (.inl E) (fun _ _=>Kji (qt_p (Kgw hΓ hx15 E E E E E E)))<|ge_p E (fun hp hs=>Khc hΓ (enc:=Kwu) ((wi (a+s2.2)).toNat) 0 hj17 E E E (hs 0 _ E E) (fun _=>E) (g:=.agg [I x15.At,S x15.Node,S x15.Name,I x15.Value.Kind,I x15.Value.Number,S x15.Value.Words,I x15.Value.Version.1,I x15.Value.Version.2.1,I x15.Value.Version.2.2.1,I x15.Value.Version.2.2.2]) E) E<|bK h16 fun x18 hx18 h19=>?_
   have hj20:=Kid hx18
   refine ge_q E (.inl E) (fun _ _=>Kji (qt_p (Kgw hΓ hx18 E E E E E E)))<|Kjk [rO 83 10 Kwu (s2.1.set ((wi (a+s2.2)).toNat) x12)] E E (Kjl E) (Kjq (Kkn hΓ (enc:=Kwu) (z':=x12) ((wi (a+s2.2)).toNat) (by have:=(gEs.1 hj20).1;simpa using this) E E E E (fun _=>E) E E E E E)) ?_
   refine bK h19 fun x21 hx21 h22=>?_
   have hj23:=Kid hx21
   refine ge_q E (.inl E) (fun _ _=>Kji (qt_p (Kgw hΓ hx21 E E E E E E)))<|bK h22 fun x24 hx24 h25=>?_
   have hj26:(s2.1.set ((wi (a+s2.2)).toNat) x12)[(wi (b+s2.2)).toNat]?=some x24:=hx24
   refine Kjk [rO 83 10 Kwu ((s2.1.set ((wi (a+s2.2)).toNat) x12).set ((wi (b+s2.2)).toNat) x15)] E E (Kjl E) (Kjq (Kkn hΓ (enc:=Kwu) (z':=x15) ((wi (b+s2.2)).toNat) (by have:=(gEs.1 hj26).1;simpa using this) E E E E (fun _=>E) E E E E E)) ?_
   refine Kjh<|gA 2 E<|Kko 0 (n':=((s2.1.set ((wi (a+s2.2)).toNat) x12).set ((wi (b+s2.2)).toNat) x15).length) E (by simp) ?_
   refine Kko 16 (n':=((s2.1.set ((wi (a+s2.2)).toNat) x12).set ((wi (b+s2.2)).toNat) x15).length) E (by simp) ?_
   refine Kko 20 (n':=((s2.1.set ((wi (a+s2.2)).toNat) x12).set ((wi (b+s2.2)).toNat) x15).length) E (by simp) ?_
   refine Kko 24 (n':=((s2.1.set ((wi (a+s2.2)).toNat) x12).set ((wi (b+s2.2)).toNat) x15).length) E (by simp) ?_
   refine Kko 30 (n':=((s2.1.set ((wi (a+s2.2)).toNat) x12).set ((wi (b+s2.2)).toNat) x15).length) E (by simp) ?_
   exact gA 5 E<|oSi h25▸⟨_,E,⟨⟨E,E,E,E,E,tV⟩,[],E,.inl E⟩⟩
  cases h27
  obtain rfl:=hout9 _ rfl
  exact⟨tV,[],E,.inl E⟩
 exact oSi h5▸Khy hΓ [] (.inl E) E E E E (.inl E)
theorem Ldr{k:Nat}{data:List Kxb}{a:Int}{m:Int}{b:Int}{r:List Kxb}(h:Kyq k data a m b=some r):EC Tryz.prog 301 [.sl 0 data.length,I a,I m,I b,.fn (.func 122) [] []] [rO 83 10 Kwu data] fun g hp'=>g=.tup []∧hp'=[rO 83 10 Kwu r]:=by
 unfold Kyq at h
 refine QN Tryz.func301 E Z<|gA 17 E<|bK h fun q4 hq4 h5=>Kkb [(0,.sl 0 q4.1.length),(2,I m),(4,.fn (.func 122) [] []),(10,I q4.2)] [rO 83 10 Kwu q4.1] ?_ ?_
 ·refine gA 1 E<|Kgq hq4 (fun s2=>[(0,.sl 0 s2.1.length),(2,I m),(4,.fn (.func 122) [] []),(10,I s2.2.1),(11,I s2.2.2)]) (fun s2=>[rO 83 10 Kwu s2.1]) ⟨⟨E,E,E,E,E,tV⟩,[],E,.inl E⟩ (fun s2 y10 hy8 hout9=>?_)
  refine gA 8 E<|jC E hy8 (fun h11=>?_) fun h22=>gA 4 E ?_
  ·refine gA 10 E<|jC E h11 (fun h12=>?_) fun h17=>bK h17 fun y18 hy18 h19=>gA 13 E<|Khk [0] (.tup []) [rO 83 10 Kwu y18] C (Ldq hy18) E Z E E E E E E E E E E<|gK h19 fun hg21 h20=>Kkk 0 E (of_decide_eq_true hg21).symm<|gO 9 E<|oSi h20▸⟨_,E,⟨⟨E,E,E,E,E,tV⟩,[],E,.inl E⟩⟩
   exact bK h12 fun y13 hy13 h14=>gA 9 E<|Khk [0] (.tup []) [rO 83 10 Kwu y13] C (Ldq hy13) E Z E E E E E E E E E E<|gK h14 fun hg16 h15=>Kkk 0 E (of_decide_eq_true hg16).symm<|gO 9 E<|oSi h15▸⟨_,E,⟨⟨E,E,E,E,E,tV⟩,[],E,.inl E⟩⟩
  cases h22
  obtain rfl:=hout9 _ rfl
  exact⟨⟨E,E,E,E,tV⟩,[],E,.inl E⟩
 exact bK h5 fun y23 hy23 h24=>gA 9 E<|Khk [0] (.tup []) [rO 83 10 Kwu y23] C (Ldq hy23) E Z E E E E E E E E E E<|gO 1 E<|oSi h24▸Khy hΓ [] (.inl E) E E E E (.inl E)
theorem Lds{k:Nat}{data:List Kxb}{a:Int}{m:Int}{b:Int}{r:List Kxb}(h:Kyr k data a m b=some r):EC Tryz.prog 239 [.sl 0 data.length,I a,I m,I b,.fn (.func 122) [] []] [rO 83 10 Kwu data] fun g hp'=>g=.tup []∧hp'=[rO 83 10 Kwu r]:=by
 induction k generalizing data a m b r with
 | zero=>unfold Kyr at h;cases h
 | succ k ih0=>
  have ih:∀ {data:List Kxb} {a:Int} {m:Int} {b:Int} {r:List Kxb},Kyr k data a m b=some r→EC Tryz.prog 239 [.sl 0 data.length,I a,I m,I b,.fn (.func 122) [] []] [rO 83 10 Kwu data] fun g hp'=>g=.tup []∧hp'=[rO 83 10 Kwu r]:=by intro data a m b r h;first | exact ih0 h | exact ih0 _ _ _ _ _ h
  refine Kpz (Fr.of 0 _) Tryz.func239 E (Fr.of_ok _) Z fun _=>?_
  refine Kgc ?_
  unfold Kyr at h
  refine gA 9 E ?_
  refine Kgd E (fun hb=>?_) (fun hb=>?_)
  ·have h1:=cT h hb
   refine gA 13 E ?_
   obtain⟨q5,hq5,h6⟩:=Kgk h1
   refine Kkb [(0,.sl 0 data.length),(1,I a),(10,I q5)] [rO 83 10 Kwu data] ?_ ?_
   ·refine gA 1 E ?_
    refine Kgq hq5 (fun s3=>[(0,.sl 0 data.length),(1,I a),(4,.fn (.func 122) [] []),(10,I s3.1),(11,I s3.2)]) (fun s3=>[rO 83 10 Kwu data]) ⟨⟨E,E,E,E,E,tV⟩,[],E,.inl E⟩ (fun s3 y11 hy9 hout10=>?_)
    refine gA 8 E ?_
    refine Kgd E (fun hb=>?_) (fun hb=>?_)
    ·have h12:=cT hy9 hb
     refine gA 15 E ?_
     refine jD ?_
     obtain⟨x13,hx13,h14⟩:=Kgk h12
     have hj15:=Kid hx13
     refine gA 3 E ?_
     refine gl_o E (Kgw hΓ hx13 E E E E E E) ?_
     refine gl_o E (Khc hΓ (enc:=Kwu) ((wi (shrV .u64 (IntKind.u64.wrap (wi (s3.1+s3.2))) 1)).toNat) 0 hj15 E E E E (fun _=>E) (g:=.agg [I x13.At,S x13.Node,S x13.Name,I x13.Value.Kind,I x13.Value.Number,S x13.Value.Words,I x13.Value.Version.1,I x13.Value.Version.2.1,I x13.Value.Version.2.2.1,I x13.Value.Version.2.2.2]) E) ?_
     obtain⟨x16,hx16,h17⟩:=Kgk h14
     have hj18:=Kid hx16
     refine Kgb hΓ 2 E ?_
     refine gl_o E (Kgw hΓ hx16 E E E E E E) ?_
     refine gl_o E (Khc hΓ (enc:=Kwu) a.toNat 0 hj18 E E E E (fun _=>E) (g:=.agg [I x16.At,S x16.Node,S x16.Name,I x16.Value.Kind,I x16.Value.Number,S x16.Value.Words,I x16.Value.Version.1,I x16.Value.Version.2.1,I x16.Value.Version.2.2.1,I x16.Value.Version.2.2.2]) E) ?_
     obtain⟨y19,hy19,h20⟩:=Kgk h17
     refine Khm C (Ldf hy19) E E E E E E ?_
     refine Kgb hΓ 3 E ?_
     refine Kgd E (fun hb=>?_) (fun hb=>?_)
     ·have h21:=cT h20 hb
      refine gA 6 E ?_
      obtain rfl:=oSi h21
      exact⟨_,E,⟨⟨E,E,E,E,E,tV⟩,[],E,.inl E⟩⟩
     have h22:=cF h20 hb
     refine gA 5 E ?_
     obtain rfl:=oSi h22
     exact⟨_,E,⟨⟨E,E,E,E,E,tV⟩,[],E,.inl E⟩⟩
    have h23:=cF hy9 hb
    refine gA 4 E ?_
    obtain rfl:=oSi h23
    obtain rfl:=hout10 _ rfl
    exact⟨⟨E,E,E,tV⟩,[],E,.inl E⟩
   refine gA 8 E ?_
   obtain⟨q27,hq27,h28⟩:=Kgk h6
   refine Kkb [] [rO 83 10 Kwu q27] ?_ ?_
   ·refine gA 1 E ?_
    refine Kgq hq27 (fun s25=>[(0,.sl 0 s25.1.length),(10,I q5),(13,I s25.2)]) (fun s25=>[rO 83 10 Kwu s25.1]) ⟨⟨E,E,E,tV⟩,[],E,.inl E⟩ (fun s25 y33 hy31 hout32=>?_)
    refine gA 9 E ?_
    refine Kgd E (fun hb=>?_) (fun hb=>?_)
    ·have h34:=cT hy31 hb
     refine gA 4 E ?_
     refine Kjg [rO 83 10 Kwu s25.1] [9,13] [15,17] [15,17] hmix (by kernel_rfl) (by kernel_rfl) ⟨E,tV⟩ Z ?_
     obtain⟨x35,hx35,h36⟩:=Kgk h34
     have hj37:=Kid hx35
     refine go_E hΓ 8 E ?_
     refine ge_q E (.inl E) (fun _ _=>Kji (qt_p (Kgw hΓ hx35 E E E E E E))) ?_
     refine ge_p E (fun hp hs=>Khc hΓ (enc:=Kwu) ((wi (s25.2+1)).toNat) 0 hj37 E E E (hs 0 _ E E) (fun _=>E) (g:=.agg [I x35.At,S x35.Node,S x35.Name,I x35.Value.Kind,I x35.Value.Number,S x35.Value.Words,I x35.Value.Version.1,I x35.Value.Version.2.1,I x35.Value.Version.2.2.1,I x35.Value.Version.2.2.2]) E) E ?_
     obtain⟨x38,hx38,h39⟩:=Kgk h36
     have hj40:=Kid hx38
     refine go_E hΓ 2 E ?_
     refine ge_q E (.inl E) (fun _ _=>Kji (qt_p (Kgw hΓ hx38 E E E E E E))) ?_
     refine ge_p E (fun hp hs=>Khc hΓ (enc:=Kwu) s25.2.toNat 0 hj40 E E E (hs 0 _ E E) (fun _=>E) (g:=.agg [I x38.At,S x38.Node,S x38.Name,I x38.Value.Kind,I x38.Value.Number,S x38.Value.Words,I x38.Value.Version.1,I x38.Value.Version.2.1,I x38.Value.Version.2.2.1,I x38.Value.Version.2.2.2]) E) E ?_
     obtain⟨x41,hx41,h42⟩:=Kgk h39
     have hj43:=Kid hx41
     refine ge_q E (.inl E) (fun _ _=>Kji (qt_p (Kgw hΓ hx41 E E E E E E))) ?_
     refine Kjk [rO 83 10 Kwu (s25.1.set s25.2.toNat x35)] E E (Kjl E) (Kjq (Kkn hΓ (enc:=Kwu) (z':=x35) s25.2.toNat (by have:=(gEs.1 hj43).1;simpa using this) E E E E (fun _=>E) E E E E E)) ?_
     obtain⟨x44,hx44,h45⟩:=Kgk h42
     have hj46:=Kid hx44
     refine ge_q E (.inl E) (fun _ _=>Kji (qt_p (Kgw hΓ hx44 E E E E E E))) ?_
     obtain⟨x47,hx47,h48⟩:=Kgk h45
     have hj49:(s25.1.set s25.2.toNat x35)[(wi (s25.2+1)).toNat]?=some x47:=hx47
     refine Kjk [rO 83 10 Kwu ((s25.1.set s25.2.toNat x35).set ((wi (s25.2+1)).toNat) x38)] E E (Kjl E) (Kjq (Kkn hΓ (enc:=Kwu) (z':=x38) ((wi (s25.2+1)).toNat) (by have:=(gEs.1 hj49).1;simpa using this) E E E E (fun _=>E) E E E E E)) ?_
     refine Kjh ?_
     refine gA 2 E ?_
     refine Kko 0 (n':=((s25.1.set s25.2.toNat x35).set ((wi (s25.2+1)).toNat) x38).length) E (by simp) ?_
     refine Kko 61 (n':=((s25.1.set s25.2.toNat x35).set ((wi (s25.2+1)).toNat) x38).length) E (by simp) ?_
     refine Kko 63 (n':=((s25.1.set s25.2.toNat x35).set ((wi (s25.2+1)).toNat) x38).length) E (by simp) ?_
     refine Kko 66 (n':=((s25.1.set s25.2.toNat x35).set ((wi (s25.2+1)).toNat) x38).length) E (by simp) ?_
     refine Kko 71 (n':=((s25.1.set s25.2.toNat x35).set ((wi (s25.2+1)).toNat) x38).length) E (by simp) ?_
     refine gA 5 E ?_
     obtain rfl:=oSi h48
     exact⟨_,E,⟨⟨E,E,E,tV⟩,[],E,.inl E⟩⟩
    have h50:=cF hy31 hb
    refine gA 4 E ?_
    obtain rfl:=oSi h50
    obtain rfl:=hout32 _ rfl
    exact⟨tV,[],E,.inl E⟩
   refine gA 3 E ?_
   obtain rfl:=oSi h28
   exact Khy hΓ [] (.inr E) E E E E (.inl E)
  have h51:=cF h hb
  refine gA 11 E ?_
  refine Kgd E (fun hb=>?_) (fun hb=>?_)
  ·have h52:=cT h51 hb
   refine gA 13 E ?_
   obtain⟨q56,hq56,h57⟩:=Kgk h52
   refine Kkb [(0,.sl 0 data.length),(2,I m),(14,I q56)] [rO 83 10 Kwu data] ?_ ?_
   ·refine gA 1 E ?_
    refine Kgq hq56 (fun s54=>[(0,.sl 0 data.length),(2,I m),(4,.fn (.func 122) [] []),(14,I s54.1),(15,I s54.2)]) (fun s54=>[rO 83 10 Kwu data]) ⟨⟨E,E,E,E,E,tV⟩,[],E,.inl E⟩ (fun s54 y62 hy60 hout61=>?_)
    refine gA 8 E ?_
    refine Kgd E (fun hb=>?_) (fun hb=>?_)
    ·have h63:=cT hy60 hb
     refine gA 15 E ?_
     refine jD ?_
     obtain⟨x64,hx64,h65⟩:=Kgk h63
     have hj66:=Kid hx64
     refine gA 3 E ?_
     refine gl_o E (Kgw hΓ hx64 E E E E E E) ?_
     refine gl_o E (Khc hΓ (enc:=Kwu) m.toNat 0 hj66 E E E E (fun _=>E) (g:=.agg [I x64.At,S x64.Node,S x64.Name,I x64.Value.Kind,I x64.Value.Number,S x64.Value.Words,I x64.Value.Version.1,I x64.Value.Version.2.1,I x64.Value.Version.2.2.1,I x64.Value.Version.2.2.2]) E) ?_
     obtain⟨x67,hx67,h68⟩:=Kgk h65
     have hj69:=Kid hx67
     refine Kgb hΓ 2 E ?_
     refine gl_o E (Kgw hΓ hx67 E E E E E E) ?_
     refine gl_o E (Khc hΓ (enc:=Kwu) ((wi (shrV .u64 (IntKind.u64.wrap (wi (s54.1+s54.2))) 1)).toNat) 0 hj69 E E E E (fun _=>E) (g:=.agg [I x67.At,S x67.Node,S x67.Name,I x67.Value.Kind,I x67.Value.Number,S x67.Value.Words,I x67.Value.Version.1,I x67.Value.Version.2.1,I x67.Value.Version.2.2.1,I x67.Value.Version.2.2.2]) E) ?_
     obtain⟨y70,hy70,h71⟩:=Kgk h68
     refine Khm C (Ldf hy70) E E E E E E ?_
     refine Kgb hΓ 4 E ?_
     refine Kgd E (fun hb=>?_) (fun hb=>?_)
     ·have h72:=cT h71 hb
      refine gA 6 E ?_
      obtain rfl:=oSi h72
      exact⟨_,E,⟨⟨E,E,E,E,E,tV⟩,[],E,.inl E⟩⟩
     have h73:=cF h71 hb
     refine gA 5 E ?_
     obtain rfl:=oSi h73
     exact⟨_,E,⟨⟨E,E,E,E,E,tV⟩,[],E,.inl E⟩⟩
    have h74:=cF hy60 hb
    refine gA 4 E ?_
    obtain rfl:=oSi h74
    obtain rfl:=hout61 _ rfl
    exact⟨⟨E,E,E,tV⟩,[],E,.inl E⟩
   refine gA 8 E ?_
   obtain⟨q78,hq78,h79⟩:=Kgk h57
   refine Kkb [] [rO 83 10 Kwu q78] ?_ ?_
   ·refine gA 1 E ?_
    refine Kgq hq78 (fun s76=>[(0,.sl 0 s76.1.length),(14,I q56),(17,I s76.2)]) (fun s76=>[rO 83 10 Kwu s76.1]) ⟨⟨E,E,E,tV⟩,[],E,.inl E⟩ (fun s76 y84 hy82 hout83=>?_)
    refine gA 8 E ?_
    refine Kgd E (fun hb=>?_) (fun hb=>?_)
    ·have h85:=cT hy82 hb
     refine gA 4 E ?_
     refine Kjg [rO 83 10 Kwu s76.1] [9,13] [15,17] [15,17] hmix (by kernel_rfl) (by kernel_rfl) ⟨E,tV⟩ Z ?_
     obtain⟨x86,hx86,h87⟩:=Kgk h85
     have hj88:=Kid hx86
     refine go_E hΓ 8 E ?_
     refine ge_q E (.inl E) (fun _ _=>Kji (qt_p (Kgw hΓ hx86 E E E E E E))) ?_
     refine ge_p E (fun hp hs=>Khc hΓ (enc:=Kwu) ((wi (s76.2 - 1)).toNat) 0 hj88 E E E (hs 0 _ E E) (fun _=>E) (g:=.agg [I x86.At,S x86.Node,S x86.Name,I x86.Value.Kind,I x86.Value.Number,S x86.Value.Words,I x86.Value.Version.1,I x86.Value.Version.2.1,I x86.Value.Version.2.2.1,I x86.Value.Version.2.2.2]) E) E ?_
     obtain⟨x89,hx89,h90⟩:=Kgk h87
     have hj91:=Kid hx89
     refine go_E hΓ 2 E ?_
     refine ge_q E (.inl E) (fun _ _=>Kji (qt_p (Kgw hΓ hx89 E E E E E E))) ?_
     refine ge_p E (fun hp hs=>Khc hΓ (enc:=Kwu) s76.2.toNat 0 hj91 E E E (hs 0 _ E E) (fun _=>E) (g:=.agg [I x89.At,S x89.Node,S x89.Name,I x89.Value.Kind,I x89.Value.Number,S x89.Value.Words,I x89.Value.Version.1,I x89.Value.Version.2.1,I x89.Value.Version.2.2.1,I x89.Value.Version.2.2.2]) E) E ?_
     obtain⟨x92,hx92,h93⟩:=Kgk h90
     have hj94:=Kid hx92
     refine ge_q E (.inl E) (fun _ _=>Kji (qt_p (Kgw hΓ hx92 E E E E E E))) ?_
     refine Kjk [rO 83 10 Kwu (s76.1.set s76.2.toNat x86)] E E (Kjl E) (Kjq (Kkn hΓ (enc:=Kwu) (z':=x86) s76.2.toNat (by have:=(gEs.1 hj94).1;simpa using this) E E E E (fun _=>E) E E E E E)) ?_
     obtain⟨x95,hx95,h96⟩:=Kgk h93
     have hj97:=Kid hx95
     refine ge_q E (.inl E) (fun _ _=>Kji (qt_p (Kgw hΓ hx95 E E E E E E))) ?_
     obtain⟨x98,hx98,h99⟩:=Kgk h96
     have hj100:(s76.1.set s76.2.toNat x86)[(wi (s76.2 - 1)).toNat]?=some x98:=hx98
     refine Kjk [rO 83 10 Kwu ((s76.1.set s76.2.toNat x86).set ((wi (s76.2 - 1)).toNat) x89)] E E (Kjl E) (Kjq (Kkn hΓ (enc:=Kwu) (z':=x89) ((wi (s76.2 - 1)).toNat) (by have:=(gEs.1 hj100).1;simpa using this) E E E E (fun _=>E) E E E E E)) ?_
     refine Kjh ?_
     refine gA 2 E ?_
     refine Kko 0 (n':=((s76.1.set s76.2.toNat x86).set ((wi (s76.2 - 1)).toNat) x89).length) E (by simp) ?_
     refine Kko 113 (n':=((s76.1.set s76.2.toNat x86).set ((wi (s76.2 - 1)).toNat) x89).length) E (by simp) ?_
     refine Kko 115 (n':=((s76.1.set s76.2.toNat x86).set ((wi (s76.2 - 1)).toNat) x89).length) E (by simp) ?_
     refine Kko 118 (n':=((s76.1.set s76.2.toNat x86).set ((wi (s76.2 - 1)).toNat) x89).length) E (by simp) ?_
     refine Kko 123 (n':=((s76.1.set s76.2.toNat x86).set ((wi (s76.2 - 1)).toNat) x89).length) E (by simp) ?_
     refine gA 5 E ?_
     obtain rfl:=oSi h99
     exact⟨_,E,⟨⟨E,E,E,tV⟩,[],E,.inl E⟩⟩
    have h101:=cF hy82 hb
    refine gA 4 E ?_
    obtain rfl:=oSi h101
    obtain rfl:=hout83 _ rfl
    exact⟨tV,[],E,.inl E⟩
   refine gA 3 E ?_
   obtain rfl:=oSi h79
   exact Khy hΓ [] (.inr E) E E E E (.inl E)
  have h102:=cF h51 hb
  obtain⟨q103,hq103,h104⟩:=Kgk h102
  refine gA 35 E ?_
  refine Kkb [(0,.sl 0 data.length),(1,I a),(2,I m),(3,I b),(4,.fn (.func 122) [] []),(18,I (wi (shrV .u64 (IntKind.u64.wrap (wi (a+b))) 1))),(19,I (wi ((wi (shrV .u64 (IntKind.u64.wrap (wi (a+b))) 1))+m))),(20,I q103.1),(21,I q103.2)] [rO 83 10 Kwu data] ?_ ?_
  ·refine Kgd E (fun hb=>?_) (fun hb=>?_)
   ·have h105:=cT hq103 hb
    refine gA 12 E ?_
    obtain rfl:=oSi h105
    exact⟨⟨E,E,E,E,E,E,E,E,E,tV⟩,[],E,.inl E⟩
   have h106:=cF hq103 hb
   refine gA 10 E ?_
   obtain rfl:=oSi h106
   exact⟨⟨E,E,E,E,E,E,E,E,E,tV⟩,[],E,.inl E⟩
  refine gA 9 E ?_
  obtain⟨q110,hq110,h111⟩:=Kgk h104
  refine Kkb [(0,.sl 0 data.length),(1,I a),(2,I m),(3,I b),(4,.fn (.func 122) [] []),(18,I (wi (shrV .u64 (IntKind.u64.wrap (wi (a+b))) 1))),(19,I (wi ((wi (shrV .u64 (IntKind.u64.wrap (wi (a+b))) 1))+m))),(20,I q110)] [rO 83 10 Kwu data] ?_ ?_
  ·refine gA 1 E ?_
   refine Kgq hq110 (fun s108=>[(0,.sl 0 data.length),(1,I a),(2,I m),(3,I b),(4,.fn (.func 122) [] []),(18,I (wi (shrV .u64 (IntKind.u64.wrap (wi (a+b))) 1))),(19,I (wi ((wi (shrV .u64 (IntKind.u64.wrap (wi (a+b))) 1))+m))),(20,I s108.1),(21,I s108.2),(22,I (wi ((wi ((wi (shrV .u64 (IntKind.u64.wrap (wi (a+b))) 1))+m)) - 1)))]) (fun s108=>[rO 83 10 Kwu data]) ⟨⟨E,E,E,E,E,E,E,E,E,E,tV⟩,[],E,.inl E⟩ (fun s108 y116 hy114 hout115=>?_)
   refine gA 8 E ?_
   refine Kgd E (fun hb=>?_) (fun hb=>?_)
   ·have h117:=cT hy114 hb
    refine gA 15 E ?_
    refine jD ?_
    obtain⟨x118,hx118,h119⟩:=Kgk h117
    have hj120:=Kid hx118
    refine gA 5 E ?_
    refine gl_o E (Kgw hΓ hx118 E E E E E E) ?_
    refine gl_o E (Khc hΓ (enc:=Kwu) ((wi ((wi ((wi ((wi (shrV .u64 (IntKind.u64.wrap (wi (a+b))) 1))+m)) - 1)) - (wi (shrV .u64 (IntKind.u64.wrap (wi (s108.1+s108.2))) 1)))).toNat) 0 hj120 E E E E (fun _=>E) (g:=.agg [I x118.At,S x118.Node,S x118.Name,I x118.Value.Kind,I x118.Value.Number,S x118.Value.Words,I x118.Value.Version.1,I x118.Value.Version.2.1,I x118.Value.Version.2.2.1,I x118.Value.Version.2.2.2]) E) ?_
    obtain⟨x121,hx121,h122⟩:=Kgk h119
    have hj123:=Kid hx121
    refine Kgb hΓ 2 E ?_
    refine gl_o E (Kgw hΓ hx121 E E E E E E) ?_
    refine gl_o E (Khc hΓ (enc:=Kwu) ((wi (shrV .u64 (IntKind.u64.wrap (wi (s108.1+s108.2))) 1)).toNat) 0 hj123 E E E E (fun _=>E) (g:=.agg [I x121.At,S x121.Node,S x121.Name,I x121.Value.Kind,I x121.Value.Number,S x121.Value.Words,I x121.Value.Version.1,I x121.Value.Version.2.1,I x121.Value.Version.2.2.1,I x121.Value.Version.2.2.2]) E) ?_
    obtain⟨y124,hy124,h125⟩:=Kgk h122
    refine Khm C (Ldf hy124) E E E E E E ?_
    refine Kgb hΓ 4 E ?_
    refine Kgd E (fun hb=>?_) (fun hb=>?_)
    ·have h126:=cT h125 hb
     refine gA 6 E ?_
     obtain rfl:=oSi h126
     exact⟨_,E,⟨⟨E,E,E,E,E,E,E,E,E,E,tV⟩,[],E,.inl E⟩⟩
    have h127:=cF h125 hb
    refine gA 5 E ?_
    obtain rfl:=oSi h127
    exact⟨_,E,⟨⟨E,E,E,E,E,E,E,E,E,E,tV⟩,[],E,.inl E⟩⟩
   have h128:=cF hy114 hb
   refine gA 4 E ?_
   obtain rfl:=oSi h128
   obtain rfl:=hout115 _ rfl
   exact⟨⟨E,E,E,E,E,E,E,E,tV⟩,[],E,.inl E⟩
  refine gA 16 E ?_
  refine Kgj 4 [(0,.sl 0 data.length),(1,I a),(2,I m),(3,I b),(4,.fn (.func 122) [] []),(18,I (wi (shrV .u64 (IntKind.u64.wrap (wi (a+b))) 1))),(20,I q110),(24,I (wi ((wi ((wi (shrV .u64 (IntKind.u64.wrap (wi (a+b))) 1))+m)) - q110))),(185,B ((decide ((q110:Int)<m))&&(decide ((m:Int)<(wi ((wi ((wi (shrV .u64 (IntKind.u64.wrap (wi (a+b))) 1))+m)) - q110))))))] [rO 83 10 Kwu data] ?_ ?_
  ·refine Kqh E E (fun hb=>?_) (fun hb=>?_)
   ·refine gO 5 E ?_
    exact⟨⟨E,E,E,E,E,E,E,E,Kfh E (Kie hb),tV⟩,[],E,.inl E⟩
   refine gO 5 E ?_
   exact⟨⟨E,E,E,E,E,E,E,E,Kfh E (Kif hb),tV⟩,[],E,.inl E⟩
  obtain⟨q129,hq129,h130⟩:=Kgk h111
  refine gO 2 E ?_
  refine Kkb [(0,.sl 0 q129.length),(1,I a),(3,I b),(4,.fn (.func 122) [] []),(18,I (wi (shrV .u64 (IntKind.u64.wrap (wi (a+b))) 1))),(20,I q110),(24,I (wi ((wi ((wi (shrV .u64 (IntKind.u64.wrap (wi (a+b))) 1))+m)) - q110)))] [rO 83 10 Kwu q129] ?_ ?_
  ·refine Kgd E (fun hb=>?_) (fun hb=>?_)
   ·have h131:=cT hq129 hb
    obtain⟨y132,hy132,h133⟩:=Kgk h131
    refine gA 6 E ?_
    refine Khk [0] (.tup []) [rO 83 10 Kwu y132] C (Ldr hy132) E Z E E E E E E E E E E ?_
    obtain⟨hg135,h134⟩:=Kgl h133
    refine Kkk 0 E (of_decide_eq_true hg135).symm ?_
    refine gO 1 E ?_
    obtain rfl:=oSi h134
    exact⟨⟨E,E,E,E,E,E,E,tV⟩,[],E,.inl E⟩
   have h136:=cF hq129 hb
   refine gA 1 E ?_
   obtain rfl:=oSi h136
   exact⟨⟨E,E,E,E,E,E,E,tV⟩,[],E,.inl E⟩
  refine gA 8 E ?_
  refine Kgj 4 [(0,.sl 0 q129.length),(1,I a),(3,I b),(4,.fn (.func 122) [] []),(18,I (wi (shrV .u64 (IntKind.u64.wrap (wi (a+b))) 1))),(20,I q110),(24,I (wi ((wi ((wi (shrV .u64 (IntKind.u64.wrap (wi (a+b))) 1))+m)) - q110))),(199,B ((decide ((a:Int)<q110))&&(decide ((q110:Int)<(wi (shrV .u64 (IntKind.u64.wrap (wi (a+b))) 1))))))] [rO 83 10 Kwu q129] ?_ ?_
  ·refine Kqh E E (fun hb=>?_) (fun hb=>?_)
   ·refine gO 5 E ?_
    exact⟨⟨E,E,E,E,E,E,E,Kfh E (Kie hb),tV⟩,[],E,.inl E⟩
   refine gO 5 E ?_
   exact⟨⟨E,E,E,E,E,E,E,Kfh E (Kif hb),tV⟩,[],E,.inl E⟩
  obtain⟨q137,hq137,h138⟩:=Kgk h130
  refine gO 2 E ?_
  refine Kkb [(0,.sl 0 q137.length),(3,I b),(4,.fn (.func 122) [] []),(18,I (wi (shrV .u64 (IntKind.u64.wrap (wi (a+b))) 1))),(24,I (wi ((wi ((wi (shrV .u64 (IntKind.u64.wrap (wi (a+b))) 1))+m)) - q110)))] [rO 83 10 Kwu q137] ?_ ?_
  ·refine Kgd E (fun hb=>?_) (fun hb=>?_)
   ·have h139:=cT hq137 hb
    obtain⟨y140,hy140,h141⟩:=Kgk h139
    refine gA 6 E ?_
    refine Khk [0] (.tup []) [rO 83 10 Kwu y140] C (ih hy140) E Z E E E E E E E E E E ?_
    obtain⟨hg143,h142⟩:=Kgl h141
    refine Kkk 0 E (of_decide_eq_true hg143).symm ?_
    refine gO 1 E ?_
    obtain rfl:=oSi h142
    exact⟨⟨E,E,E,E,E,tV⟩,[],E,.inl E⟩
   have h144:=cF hq137 hb
   refine gA 1 E ?_
   obtain rfl:=oSi h144
   exact⟨⟨E,E,E,E,E,tV⟩,[],E,.inl E⟩
  refine gA 7 E ?_
  refine Kgj 4 [(0,.sl 0 q137.length),(3,I b),(4,.fn (.func 122) [] []),(18,I (wi (shrV .u64 (IntKind.u64.wrap (wi (a+b))) 1))),(24,I (wi ((wi ((wi (shrV .u64 (IntKind.u64.wrap (wi (a+b))) 1))+m)) - q110))),(213,B ((decide ((wi (shrV .u64 (IntKind.u64.wrap (wi (a+b))) 1):Int)<(wi ((wi ((wi (shrV .u64 (IntKind.u64.wrap (wi (a+b))) 1))+m)) - q110))))&&(decide ((wi ((wi ((wi (shrV .u64 (IntKind.u64.wrap (wi (a+b))) 1))+m)) - q110):Int)<b))))] [rO 83 10 Kwu q137] ?_ ?_
  ·refine Kqh E E (fun hb=>?_) (fun hb=>?_)
   ·refine gO 5 E ?_
    exact⟨⟨E,E,E,E,E,Kfh E (Kie hb),tV⟩,[],E,.inl E⟩
   refine gO 5 E ?_
   exact⟨⟨E,E,E,E,E,Kfh E (Kif hb),tV⟩,[],E,.inl E⟩
  refine gO 2 E ?_
  refine Kgd E (fun hb=>?_) (fun hb=>?_)
  ·have h145:=cT h138 hb
   obtain⟨y146,hy146,h147⟩:=Kgk h145
   refine gA 6 E ?_
   refine Khk [0] (.tup []) [rO 83 10 Kwu y146] C (ih hy146) E Z E E E E E E E E E E ?_
   refine gO 1 E ?_
   obtain rfl:=oSi h147
   exact Khy hΓ [] (.inl E) E E E E (.inl E)
  have h148:=cF h138 hb
  refine gA 1 E ?_
  obtain rfl:=oSi h148
  exact Khy hΓ [] (.inl E) E E E E (.inl E)
theorem Ldt{k:Nat}{data:List Kxb}{n:Int}{r:List Kxb}(h:Kys k data n=some r):EC Tryz.prog 187 [.sl 0 data.length,I n,.fn (.func 122) [] []] [rO 83 10 Kwu data] fun g hp'=>g=.tup []∧hp'=[rO 83 10 Kwu r]:=by
 unfold Kys at h
 refine QN Tryz.func187 E Z<|gA 13 E<|bK h fun q4 hq4 h5=>Kkb [(0,.sl 0 q4.1.length),(1,I n),(2,.fn (.func 122) [] []),(6,I 20),(7,I q4.2)] [rO 83 10 Kwu q4.1] ?_ ?_
 ·refine gA 1 E<|Kgq hq4 (fun s2=>[(0,.sl 0 s2.1.length),(1,I n),(2,.fn (.func 122) [] []),(6,I 20),(7,I s2.2.1),(8,I s2.2.2)]) (fun s2=>[rO 83 10 Kwu s2.1]) ⟨⟨E,E,E,E,E,E,tV⟩,[],E,.inl E⟩ (fun s2 y10 hy8 hout9=>?_)
  refine gA 8 E<|jC E hy8 (fun h11=>?_) fun h16=>gA 4 E ?_
  ·exact bK h11 fun y12 hy12 h13=>gA 9 E<|Khk [0] (.tup []) [rO 83 10 Kwu y12] C (Ldp hy12) E Z E E E E E E E E E E<|gK h13 fun hg15 h14=>Kkk 0 E (of_decide_eq_true hg15).symm<|gO 15 E<|oSi h14▸⟨_,E,⟨⟨E,E,E,E,E,E,tV⟩,[],E,.inl E⟩⟩
  cases h16
  obtain rfl:=hout9 _ rfl
  exact⟨⟨E,E,E,E,E,tV⟩,[],E,.inl E⟩
 refine bK h5 fun y17 hy17 h18=>gA 7 E<|Khk [0] (.tup []) [rO 83 10 Kwu y17] C (Ldp hy17) E Z E E E E E E E E E E<|gK h18 fun hg20 h19=>Kkk 0 E (of_decide_eq_true hg20).symm<|gO 2 E<|bK h19 fun q24 hq24 h25=>Kkb [] [rO 83 10 Kwu q24] ?_ ?_
 ·refine gA 1 E<|Kgq hq24 (fun s22=>[(0,.sl 0 s22.1.length),(1,I n),(2,.fn (.func 122) [] []),(6,I s22.2)]) (fun s22=>[rO 83 10 Kwu s22.1]) ⟨⟨E,E,E,E,tV⟩,[],E,.inl E⟩ (fun s22 y30 hy28 hout29=>?_)
  refine gA 8 E<|jC E hy28 (fun h31=>?_) fun h54=>gA 4 E ?_
  ·refine gA 12 E<|bK h31 fun q35 hq35 h36=>Kkb [(0,.sl 0 q35.1.length),(1,I n),(2,.fn (.func 122) [] []),(6,I s22.2),(7,I q35.2)] [rO 83 10 Kwu q35.1] ?_ ?_
   ·refine gA 1 E<|Kgq hq35 (fun s33=>[(0,.sl 0 s33.1.length),(1,I n),(2,.fn (.func 122) [] []),(6,I s22.2),(7,I s33.2.1),(8,I s33.2.2)]) (fun s33=>[rO 83 10 Kwu s33.1]) ⟨⟨E,E,E,E,E,E,tV⟩,[],E,.inl E⟩ (fun s33 y41 hy39 hout40=>?_)
    refine gA 8 E<|jC E hy39 (fun h42=>?_) fun h47=>gA 4 E ?_
    ·exact bK h42 fun y43 hy43 h44=>gA 12 E<|Khk [0] (.tup []) [rO 83 10 Kwu y43] C (Lds hy43) E Z E E E E E E E E E E<|gK h44 fun hg46 h45=>Kkk 0 E (of_decide_eq_true hg46).symm<|gO 16 E<|oSi h45▸⟨_,E,⟨⟨E,E,E,E,E,E,tV⟩,[],E,.inl E⟩⟩
    cases h47
    obtain rfl:=hout40 _ rfl
    exact⟨⟨E,E,E,E,E,tV⟩,[],E,.inl E⟩
   refine gA 17 E<|jC E h36 (fun h48=>?_) fun h53=>gA 8 E<|oSi h53▸⟨_,E,⟨⟨E,E,E,E,tV⟩,[],E,.inl E⟩⟩
   exact bK h48 fun y49 hy49 h50=>gA 6 E<|Khk [0] (.tup []) [rO 83 10 Kwu y49] C (Lds hy49) E Z E E E E E E E E E E<|gK h50 fun hg52 h51=>Kkk 0 E (of_decide_eq_true hg52).symm<|gO 8 E<|oSi h51▸⟨_,E,⟨⟨E,E,E,E,tV⟩,[],E,.inl E⟩⟩
  cases h54
  obtain rfl:=hout29 _ rfl
  exact⟨tV,[],E,.inl E⟩
 exact oSi h25▸Khy hΓ [] (.inl E) E E E E (.inl E)
theorem Ldu{k:Nat}{x:List Kxb}{r:List Kxb}(h:Kyt k x=some r):EC Tryz.prog 121 [.sl 0 x.length,.fn (.func 122) [] []] [rO 83 10 Kwu x] fun g hp'=>g=.tup []∧hp'=[rO 83 10 Kwu r]:=by
 unfold Kyt at h
 exact QN Tryz.func121 E Z<|bK h fun y1 hy1 h2=>gA 5 E<|Khk [0] (.tup []) [rO 83 10 Kwu y1] C (Ldt hy1) E Z E E E E E E E E E E<|gO 1 E<|oSi h2▸Khy hΓ [] (.inl E) E E E E (.inl E)
theorem Ldv{k:Nat}{s:List Kxb}{r:List Kxb}(h:Kyu k s=some r):EC Tryz.prog 123 [.sl 0 s.length] [rO 83 10 Kwu s] fun g hp'=>g=.sl 0 r.length∧hp'=[rO 83 10 Kwu r]:=by
 unfold Kyu at h
 refine QN Tryz.func123 E Z<|gA 2 E<|Khi (t:=0) 83 10 E Z<|gO 10 E<|jC E h (fun h1=>?_) fun h2=>gA 8 E<|bK h2 fun q6 hq6 h7=>Kka (R:=fun a8=>q6=.inl a8) (fun a8=>[(0,.sl 0 s.length)]) (fun a8=>[rO 83 10 Kwu s,rO 83 10 Kwu ([]:List Kxb)]) ?_ ?_
 ·exact gA 8 E<|oSi h1▸Khy hΓ [_] (.inr E) E E E E (.inr ⟨HB.mk E,E⟩)
 ·refine gA 1 E<|Kgq hq6 (fun s4=>[(0,.sl 0 s.length),(3,I s4)]) (fun s4=>[rO 83 10 Kwu s,rO 83 10 Kwu ([]:List Kxb)]) ⟨⟨E,E,tV⟩,[],E,.inl E⟩ (fun s4 y12 hy10 hout11=>?_)
  refine gA 9 E<|jC E hy10 (fun h13=>?_) fun h60=>gA 4 E ?_
  ·refine gA 5 E<|jD<|bK h13 fun x14 hx14 h15=>?_
   have hj16:=Kid hx14
   refine gA 2 E<|gl_o E (Kgw hΓ hx14 E E E E E E)<|gl_o E (Khc hΓ (enc:=Kwu) s4.toNat 0 hj16 E E E E (fun _=>E) (g:=.agg [I x14.At,S x14.Node,S x14.Name,I x14.Value.Kind,I x14.Value.Number,S x14.Value.Words,I x14.Value.Version.1,I x14.Value.Version.2.1,I x14.Value.Version.2.2.1,I x14.Value.Version.2.2.2]) E)<|bK h15 fun x17 hx17 h18=>?_
   have hj19:=Kid hx17
   refine Kgb hΓ 3 E<|gl_o E (Kgw hΓ hx17 E E E E E E)<|gl_o E (Khc hΓ (enc:=Kwu) ((wi (s4 - 1)).toNat) 0 hj19 E E E E (fun _=>E) (g:=.agg [I x17.At,S x17.Node,S x17.Name,I x17.Value.Kind,I x17.Value.Number,S x17.Value.Words,I x17.Value.Version.1,I x17.Value.Version.2.1,I x17.Value.Version.2.2.1,I x17.Value.Version.2.2.2]) E)<|gl_o E (Koq hΓ [83,29] (b:=(((x14.At:Int)==x17.At)&&(((x14.Node:Str)==x17.Node)&&(((x14.Name:Str)==x17.Name)&&((((x14.Value.Kind:Int)==x17.Value.Kind)&&(((x14.Value.Number:Int)==x17.Value.Number)&&(((x14.Value.Words:Str)==x17.Value.Words)&&(decide (([x14.Value.Version.1,x14.Value.Version.2.1,x14.Value.Version.2.2.1,x14.Value.Version.2.2.2]:List Int)=[x17.Value.Version.1,x17.Value.Version.2.1,x17.Value.Version.2.2.1,x17.Value.Version.2.2.2])&&true))))&&true))))) (by kernel_rfl) (by kernel_rfl) E E E)<|Kgb hΓ 2 E<|jC E h18 (fun h20=>?_) fun h59=>gA 8 E<|oSi h59▸⟨_,E,⟨⟨E,E,tV⟩,[],E,.inl E⟩⟩
   refine bK h20 fun z21 hz21 h22=>gA 4 E<|eo_o E (Kki hΓ hz21 E E E E E E)<|gO 9 E<|bK h22 fun q26 hq26 h27=>Kkb [(0,.sl 0 q26.1.length),(3,I q26.2)] [rO 83 10 Kwu q26.1,rO 83 10 Kwu ([]:List Kxb)] ?_ ?_
   ·refine gA 1 E<|Kgq hq26 (fun s24=>[(0,.sl 0 s24.1.length),(3,I s24.2.1),(4,.slo 0 10 s4.toNat z21.length),(5,I s24.2.2)]) (fun s24=>[rO 83 10 Kwu s24.1,rO 83 10 Kwu ([]:List Kxb)]) ⟨⟨E,E,E,E,tV⟩,[],E,.inl E⟩ (fun s24 y32 hy30 hout31=>?_)
    refine gA 9 E<|jC E hy30 (fun h33=>?_) fun h54=>gA 4 E ?_
    ·refine gA 5 E<|jD<|bK h33 fun x34 hx34 h35=>bK h35 fun x36 hx36 h37=>?_
     have hj38:s24.1[(s4.toNat+s24.2.2.toNat)]?=some x36:=hx36
     refine gA 2 E<|gl_o E (Kkp hΓ hx34 E E E E E E E)<|gl_o E (Khc hΓ (enc:=Kwu) (s4.toNat+s24.2.2.toNat) 0 hj38 E E E E (fun _=>E) (g:=.agg [I x36.At,S x36.Node,S x36.Name,I x36.Value.Kind,I x36.Value.Number,S x36.Value.Words,I x36.Value.Version.1,I x36.Value.Version.2.1,I x36.Value.Version.2.2.1,I x36.Value.Version.2.2.2]) E)<|bK h37 fun x39 hx39 h40=>bK h40 fun x41 hx41 h42=>?_
     have hj43:s24.1[(s4.toNat+(wi (s24.2.2 - 1)).toNat)]?=some x41:=hx41
     refine Kgb hΓ 3 E<|gl_o E (Kkp hΓ hx39 E E E E E E E)<|gl_o E (Khc hΓ (enc:=Kwu) (s4.toNat+(wi (s24.2.2 - 1)).toNat) 0 hj43 E E E E (fun _=>E) (g:=.agg [I x41.At,S x41.Node,S x41.Name,I x41.Value.Kind,I x41.Value.Number,S x41.Value.Words,I x41.Value.Version.1,I x41.Value.Version.2.1,I x41.Value.Version.2.2.1,I x41.Value.Version.2.2.2]) E)<|gl_o E (Kor hΓ [83,29] (b:=(((x36.At:Int)==x41.At)&&(((x36.Node:Str)==x41.Node)&&(((x36.Name:Str)==x41.Name)&&((((x36.Value.Kind:Int)==x41.Value.Kind)&&(((x36.Value.Number:Int)==x41.Value.Number)&&(((x36.Value.Words:Str)==x41.Value.Words)&&(decide (([x36.Value.Version.1,x36.Value.Version.2.1,x36.Value.Version.2.2.1,x36.Value.Version.2.2.2]:List Int)=[x41.Value.Version.1,x41.Value.Version.2.1,x41.Value.Version.2.2.1,x41.Value.Version.2.2.2])&&true))))&&true))))) (by kernel_rfl) (by kernel_rfl) E E E)<|Kgb hΓ 2 E<|jC E h42 (fun h44=>?_) fun h53=>gA 8 E<|oSi h53▸⟨_,E,⟨⟨E,E,E,E,tV⟩,[],E,.inl E⟩⟩
     refine bK h44 fun x45 hx45 h46=>bK h46 fun x47 hx47 h48=>?_
     have hj49:s24.1[(s4.toNat+s24.2.2.toNat)]?=some x47:=hx47
     refine gA 6 E<|eo_o E (Kkp hΓ hx45 E E E E E E E)<|eo_o E (Khc hΓ (enc:=Kwu) (s4.toNat+s24.2.2.toNat) 0 hj49 E E E E (fun _=>E) (g:=.agg [I x47.At,S x47.Node,S x47.Name,I x47.Value.Kind,I x47.Value.Number,S x47.Value.Words,I x47.Value.Version.1,I x47.Value.Version.2.1,I x47.Value.Version.2.2.1,I x47.Value.Version.2.2.2]) E)<|bK h48 fun x50 hx50 h51=>?_
     have hj52:=Kid hx50
     exact eo_o E (Kgw hΓ hx50 E E E E E E)<|Khe hΓ (enc:=Kwu) (z':=x47) s24.2.1.toNat 0 hj52 E E E E (fun _=>E) E E E E E E Z<|Kht [rO 83 10 Kwu (s24.1.set s24.2.1.toNat x47),rO 83 10 Kwu ([]:List Kxb)] E<|Kkk 0 (n':=(s24.1.set s24.2.1.toNat x47).length) E List.length_set.symm<|gO 14 E<|oSi h51▸⟨_,E,⟨⟨E,E,E,E,tV⟩,[],E,.inl E⟩⟩
    cases h54
    obtain rfl:=hout31 _ rfl
    exact⟨⟨E,E,tV⟩,[],E,.inl E⟩
   refine bK h27 fun z55 hz55 h56=>gA 5 E<|eo_o E (Kki hΓ hz55 E E E E E E)<|Kkf Z (Kkh hΓ (enc:=Kwu) (a:=q26.2) hz55 E E E E E E E E E E (fun _=>E))<|gO 6 E<|Kkj hΓ hz55 E E E E E E E E<|gO 6 E<|bK h56 fun v57 hv57 h58=>?_
   cases h58
   obtain rfl:=hout11 _ rfl
   cases h7
   exact gA 4 E<|oSi hv57▸Khy hΓ [_] (.inr E) E E E E (.inr ⟨HB.mk E,E⟩)
  cases h60
  obtain rfl:=hout11 _ rfl
  exact⟨_,E,⟨⟨E,tV⟩,[],E,.inl E⟩⟩
 intro a8 ha
 subst ha
 replace h7:=Kju h7
 exact gA 8 E<|oSi h7▸Khy hΓ [_] (.inr E) E E E E (.inr ⟨HB.mk E,E⟩)
theorem Ldw{k:Nat}{a:List Kxb}{b:List Kxb}{r:(List Kxb)×Int}(h:Kyv k a b=some r):Pure Tryz.prog 49 [.d (Sl Kwu a),.d (Sl Kwu b)] (.tup [.d (Sl Kwu r.1),I r.2]):=by
 unfold Kyv at h
 refine QP Tryz.func49 E E E<|gA 11 E<|eo_o E (Kky hΓ (gs:=[.d (Sl Kwu a),.d (Sl Kwu b)]) E E E E E E)<|gO 3 E<|bK h fun q4 hq4 h5=>Kka (R:=fun a6=>q4=.inl a6) (fun a6=>[(0,.d (Sl Kwu a)),(1,.d (Sl Kwu b))]) (fun a6=>[]) ?_ ?_
 ·refine gA 1 E<|Kgq hq4 (fun s2=>[(0,.d (Sl Kwu a)),(1,.d (Sl Kwu b)),(13,.agg [.d (Sl Kwu a),.d (Sl Kwu b)]),(14,I s2)]) (fun s2=>[]) ⟨⟨E,E,E,E,tV⟩,[],E,.inl E⟩ (fun s2 y10 hy8 hout9=>?_)
  refine gA 6 E<|jC E hy8 (fun h11=>?_) fun h20=>gA 4 E ?_
  ·refine bK h11 fun x12 hx12 h13=>gA 6 E<|eo_o E (Kkx hΓ (enc:=(eL Kwu)) [a,b] hx12 E E E E E E E (fun _=>E) E)<|bK h13 fun y14 hy14 h15=>gO 6 E<|Khl C (Ldg hy14) E Z E E E E E<|gO 9 E<|jC E h15 (fun h16=>?_) fun h19=>gA 7 E<|oSi h19▸⟨_,E,⟨⟨E,E,E,E,tV⟩,[],E,.inl E⟩⟩
   refine gA 10 E<|bK h16 fun v17 hv17 h18=>?_
   cases h18
   obtain rfl:=hout9 _ rfl
   cases h5
   exact gA 4 E<|oSi hv17▸gP E E
  cases h20
  obtain rfl:=hout9 _ rfl
  exact⟨_,E,⟨⟨E,E,tV⟩,[],E,.inl E⟩⟩
 intro a6 ha
 subst ha
 replace h5:=Kju h5
 refine bK h5 fun y21 hy21 h22=>gA 4 E<|Khk [] (.sl 0 y21.length) [rO 83 10 Kwu y21] C (Lct hy21) E Z E E E E E E E E E E<|bK h22 fun y23 hy23 h24=>gO 1 E<|Khu hΓ (enc:=Kwu) hy23 E E E E E E E E E (fun _=>E) E E E E<|bK h24 fun y25 hy25 h26=>gO 6 E<|Khk [0] (.tup []) [rO 83 10 Kwu y25] C (Ldu hy25) E Z E E E E E E E E E E<|gK h26 fun hg28 h27=>Kkk 9 E (of_decide_eq_true hg28).symm<|bK h27 fun y29 hy29 h30=>gO 5 E<|Khk [0] (.sl 0 y29.length) [rO 83 10 Kwu y29] C (Ldv hy29) E Z E E E E E E E E E E<|gO 9 E<|bK h30 fun q34 hq34 h35=>Kka (R:=fun a36=>q34=.inl a36) (fun a36=>[(9,.sl 0 y29.length)]) (fun a36=>[rO 83 10 Kwu y29]) ?_ ?_
 ·refine gA 1 E<|Kgq hq34 (fun s32=>[(9,.sl 0 y29.length),(10,I s32)]) (fun s32=>[rO 83 10 Kwu y29]) ⟨⟨E,E,tV⟩,[],E,.inl E⟩ (fun s32 y40 hy38 hout39=>?_)
  refine gA 9 E<|jC E hy38 (fun h41=>?_) fun h54=>gA 4 E ?_
  ·refine gA 5 E<|jD<|bK h41 fun x42 hx42 h43=>?_
   have hj44:=Kid hx42
   refine gA 3 E<|gl_o E (Kgw hΓ hx42 E E E E E E)<|gl_o E (Khc hΓ (enc:=Kwu) ((wi (s32 - 1)).toNat) 0 hj44 E E E E (fun _=>E) (g:=.agg [I x42.At,S x42.Node,S x42.Name,I x42.Value.Kind,I x42.Value.Number,S x42.Value.Words,I x42.Value.Version.1,I x42.Value.Version.2.1,I x42.Value.Version.2.2.1,I x42.Value.Version.2.2.2]) E)<|bK h43 fun x45 hx45 h46=>?_
   have hj47:=Kid hx45
   refine Kgb hΓ 2 E<|gl_o E (Kgw hΓ hx45 E E E E E E)<|gl_o E (Khc hΓ (enc:=Kwu) s32.toNat 0 hj47 E E E E (fun _=>E) (g:=.agg [I x45.At,S x45.Node,S x45.Name,I x45.Value.Kind,I x45.Value.Number,S x45.Value.Words,I x45.Value.Version.1,I x45.Value.Version.2.1,I x45.Value.Version.2.2.1,I x45.Value.Version.2.2.2]) E)<|bK h46 fun y48 hy48 h49=>Khm C (Ldf hy48) E E E E E E<|Kgb hΓ 3 E<|jC E h49 (fun h50=>?_) fun h53=>gA 8 E<|oSi h53▸⟨_,E,⟨⟨E,E,tV⟩,[],E,.inl E⟩⟩
   refine gA 9 E<|bK h50 fun v51 hv51 h52=>?_
   cases h52
   obtain rfl:=hout39 _ rfl
   cases h35
   exact gA 4 E<|oSi hv51▸gP E E
  cases h54
  obtain rfl:=hout39 _ rfl
  exact⟨_,E,⟨⟨E,tV⟩,[],E,.inl E⟩⟩
 intro a36 ha
 subst ha
 replace h35:=Kju h35
 refine gA 9 E<|jC E h35 (fun h55=>?_) fun h56=>gA 6 E<|Khr 0 [4,9,48,51] _ [.dead] E E E Z<|gO 4 E<|oSi h56▸gP E E
 exact gA 8 E<|oSi h55▸gP E E
theorem Ldx{s1:List Int}{s2:List Int}{r:Int}(h:Kyw s1 s2=some r):Pure Tryz.prog 132 [.d (Sl (eN .i64) s1),.d (Sl (eN .i64) s2)] (I r):=by
 unfold Kyw at h
 refine QP Tryz.func132 E E E<|gA 13 E<|bK h fun q5 hq5 h6=>Kgt 0 E fun hb8=>Kka (R:=fun a7=>q5=.go a7) (fun a7=>[(0,.d (Sl (eN .i64) s1)),(1,.d (Sl (eN .i64) s2))]) (fun a7=>[]) ?_ ?_
 ·refine gA 1 E<|Kgs s1 hq5 (fun i1 s3=>[(0,.d (Sl (eN .i64) s1)),(1,.d (Sl (eN .i64) s2)),(9,.d (Sl (eN .i64) s1)),(10,I (s1.length:Int)),(11,I (i1:Int))]) (fun s3=>[]) ⟨⟨E,E,E,E,E,tV⟩,[],E,.inl E⟩ (fun i1 x4 s3 y12 hx9 hlt hy10 hout11=>?_) (fun s3 hgo=>?_)
  ·refine gA 6 E<|Kge E (dT (Int.ofNat_lt.2 hlt))<|gA 7 E<|eo_o E (Kgu hΓ (enc:=(eN .i64)) (Kgn hx9) E E E E E (fun _=>E))<|gO 14 E<|jC E hy10 (fun h13=>?_) fun h16=>bK h16 fun x17 hx17 h18=>gA 6 E<|eo_o E (Kgu hΓ (enc:=(eN .i64)) hx17 E E E E E (fun _=>E))<|bK h18 fun y19 hy19 h20=>gO 8 E<|Khl C (Ldd hy19) E Z E E E E E<|gO 9 E<|jC E h20 (fun h21=>?_) fun h24=>?_
   ·refine gA 9 E<|bK h13 fun v14 hv14 h15=>?_
    cases h15
    obtain rfl:=hout11 _ rfl
    cases h6
    exact gA 4 E<|oSi hv14▸gP E E
   ·refine gA 9 E<|bK h21 fun v22 hv22 h23=>?_
    cases h23
    obtain rfl:=hout11 _ rfl
    cases h6
    exact gA 4 E<|oSi hv22▸gP E E
   refine gA 7 E ?_
   cases h24
   exact⟨_,E,⟨⟨E,E,E,E,Kfg E (Kff (nLl hlt hb8)),tV⟩,[],E,.inl E⟩⟩
  subst hgo
  exact gA 6 E<|Kgf E (dF (Int.lt_irrefl _))<|gA 4 E<|⟨_,E,⟨⟨E,E,tV⟩,[],E,.inl E⟩⟩
 intro a7 ha
 subst ha
 replace h6:=Kjv h6
 refine gA 11 E<|jC E h6 (fun h25=>?_) fun h26=>gA 8 E<|oSi h26▸gP E E
 exact gA 7 E<|oSi h25▸gP E E
theorem Ldy{a:Kxa}{b:Kxa}{r:Int}(h:Kyx a b=some r):Pure Tryz.prog 125 [.agg [I a.Kind,I a.Number,S a.Words,I a.Version.1,I a.Version.2.1,I a.Version.2.2.1,I a.Version.2.2.2],.agg [I b.Kind,I b.Number,S b.Words,I b.Version.1,I b.Version.2.1,I b.Version.2.2.1,I b.Version.2.2.2]] (I r):=by
 unfold Kyx at h
 exact QP Tryz.func125 E E E<|gA 2 E<|Kro E E E E Z<|Kro E E E E Z<|gO 4 E<|Koi (ds:=[.v (.int .i64 a.Kind),.v (.int .i64 a.Number),.v (.string ⟨a.Words.toArray⟩),.v (.int .i64 a.Version.1),.v (.int .i64 a.Version.2.1),.v (.int .i64 a.Version.2.2.1),.v (.int .i64 a.Version.2.2.2)]) 0 2 [.dead,.box 29 [I b.Kind,I b.Number,S b.Words,I b.Version.1,I b.Version.2.1,I b.Version.2.2.1,I b.Version.2.2.2]] E E E Z<|Koi (ds:=[.v (.int .i64 b.Kind),.v (.int .i64 b.Number),.v (.string ⟨b.Words.toArray⟩),.v (.int .i64 b.Version.1),.v (.int .i64 b.Version.2.1),.v (.int .i64 b.Version.2.2.1),.v (.int .i64 b.Version.2.2.2)]) 1 3 [.dead,.dead] E E E Z<|jD<|bK h fun y1 hy1 h2=>gA 4 E<|Khm C (Ldd hy1) E E E E E E<|bK h2 fun y3 hy3 h4=>Kgb hΓ 4 E<|Khm C (Kvt hy3) E E E E E E<|Kgb hΓ 1 E<|gl_o E (Kos hΓ ([a.Version.1,a.Version.2.1,a.Version.2.2.1,a.Version.2.2.2]:List Int) E E E E E E E)<|Kgb hΓ 1 E<|gl_o E (Kos hΓ ([b.Version.1,b.Version.2.1,b.Version.2.2.1,b.Version.2.2.2]:List Int) E E E E E E E)<|bK h4 fun y5 hy5 h6=>Khm C (Ldx hy5) E E E E E E<|Khg hΓ (enc:=(eN .i64)) [y1,y3,y5] E E E E E E E E E E E E<|bK h6 fun y7 hy7 h8=>Khm C (Lde hy7) E E E E E E<|Kgb hΓ 4 E<|oSi h8▸gP E E
theorem Ldz{k:Nat}{a:Kxa}{b:Kxa}{r:Int×Bool×Int}(h:Kyy k a b=some r):Pure Tryz.prog 50 [.agg [I a.Kind,I a.Number,S a.Words,I a.Version.1,I a.Version.2.1,I a.Version.2.2.1,I a.Version.2.2.2],.agg [I b.Kind,I b.Number,S b.Words,I b.Version.1,I b.Version.2.1,I b.Version.2.2.1,I b.Version.2.2.2]] (.tup [I r.1,B r.2.1,I r.2.2]):=by
 unfold Kyy at h
 refine QP Tryz.func50 E E E<|gA 2 E<|Kro E E E E Z<|Kro E E E E Z<|gO 10 E<|eo_o E (Kky hΓ (gs:=[I a.Kind,I a.Number,S a.Words,I a.Version.1,I a.Version.2.1,I a.Version.2.2.1,I a.Version.2.2.2,I b.Kind,I b.Number,S b.Words,I b.Version.1,I b.Version.2.1,I b.Version.2.2.1,I b.Version.2.2.2]) E E E E E E)<|gO 3 E<|bK h fun q4 hq4 h5=>Kka (R:=fun a6=>q4=.inl a6) (fun a6=>[(2,.ptr 0 0),(3,.ptr 1 0)]) (fun a6=>[.box 29 [I a.Kind,I a.Number,S a.Words,I a.Version.1,I a.Version.2.1,I a.Version.2.2.1,I a.Version.2.2.2],.box 29 [I b.Kind,I b.Number,S b.Words,I b.Version.1,I b.Version.2.1,I b.Version.2.2.1,I b.Version.2.2.2]]) ?_ ?_
 ·refine gA 1 E<|Kgq hq4 (fun s2=>[(2,.ptr 0 0),(3,.ptr 1 0),(12,.agg [I a.Kind,I a.Number,S a.Words,I a.Version.1,I a.Version.2.1,I a.Version.2.2.1,I a.Version.2.2.2,I b.Kind,I b.Number,S b.Words,I b.Version.1,I b.Version.2.1,I b.Version.2.2.1,I b.Version.2.2.2]),(13,I s2)]) (fun s2=>[.box 29 [I a.Kind,I a.Number,S a.Words,I a.Version.1,I a.Version.2.1,I a.Version.2.2.1,I a.Version.2.2.2],.box 29 [I b.Kind,I b.Number,S b.Words,I b.Version.1,I b.Version.2.1,I b.Version.2.2.1,I b.Version.2.2.2]]) ⟨⟨E,E,E,E,tV⟩,[],E,.inl E⟩ (fun s2 y10 hy8 hout9=>?_)
  refine gA 6 E<|jC E hy8 (fun h11=>?_) fun h20=>gA 4 E ?_
  ·refine bK h11 fun x12 hx12 h13=>gA 6 E<|eo_o E (Kkx hΓ (enc:=Kwt) [a,b] hx12 E E E E E E E (fun _=>E) E)<|Krn hΓ E E E Z<|Krs hΓ E E E E E E E E Z<|Kht [.box 29 [I a.Kind,I a.Number,S a.Words,I a.Version.1,I a.Version.2.1,I a.Version.2.2.1,I a.Version.2.2.2],.box 29 [I b.Kind,I b.Number,S b.Words,I b.Version.1,I b.Version.2.1,I b.Version.2.2.1,I b.Version.2.2.2],.box 29 [I x12.Kind,I x12.Number,S x12.Words,I x12.Version.1,I x12.Version.2.1,I x12.Version.2.2.1,I x12.Version.2.2.2]] E<|bK h13 fun y14 hy14 h15=>gO 5 E<|Khl C (Ldb hy14) E Z E E E E E<|gO 9 E<|jC E h15 (fun h16=>?_) fun h19=>gA 7 E<|oSi h19▸⟨_,E,⟨⟨E,E,E,E,tV⟩,[_],E,.inr ⟨HB.mk E,FB.mk E,Z⟩⟩⟩
   refine gA 11 E<|bK h16 fun v17 hv17 h18=>?_
   cases h18
   obtain rfl:=hout9 _ rfl
   cases h5
   exact gA 4 E<|oSi hv17▸gP E E
  cases h20
  obtain rfl:=hout9 _ rfl
  exact⟨_,E,⟨⟨E,E,tV⟩,[],E,.inl E⟩⟩
 intro a6 ha
 subst ha
 replace h5:=Kju h5
 refine gA 11 E<|jC E h5 (fun h21=>?_) fun h22=>bK h22 fun y23 hy23 h24=>gA 6 E<|Khl C (Ldy hy23) E Z E E E E E<|gO 6 E<|oSi h24▸gP E E
 exact gA 9 E<|oSi h21▸gP E E
theorem Lea{n:Int}{low:Int}{high:Int}{r:Bool}(h:Kyz n low high=some r):Pure Tryz.prog 182 [I n,I low,I high] (B r):=by
 unfold Kyz at h
 refine QP Tryz.func182 E E E<|gA 11 E<|Kgj 4 [(6,B false),(14,B ((decide ((low:Int)≤n))&&(decide ((n:Int)≤high))))] [] ?_ ?_
 ·refine Kqh E E (fun hb=>?_) (fun hb=>?_)
  ·exact gO 5 E<|⟨⟨E,Kfh E (Kie hb),tV⟩,[],E,.inl E⟩
  exact gO 5 E<|⟨⟨E,Kfh E (Kif hb),tV⟩,[],E,.inl E⟩
 exact gO 4 E<|oSi h▸gP E E
theorem Leb{v_at:Int}{r:Bool}(h:Kza v_at=some r):Pure Tryz.prog 101 [I v_at] (B r):=by
 unfold Kza at h
 exact QP Tryz.func101 E E E<|bK h fun y1 hy1 h2=>gA 8 E<|Khl C (Lea hy1) E Z E E E E E<|gO 4 E<|oSi h2▸gP E E
theorem Lec{s:Str}{v_some:Str}{r:Bool}(h:Kzb s v_some=some r):Pure Tryz.prog 183 [S s,S v_some] (B r):=by
 unfold Kzb at h
 exact QP Tryz.func183 E E E<|bK h fun y1 hy1 h2=>gA 9 E<|Khl C (Kvn hy1) E Z E E E E E<|gO 5 E<|oSi h2▸gP E E
theorem Led{s:Str}{r:Bool}(h:Kzc s=some r):Pure Tryz.prog 102 [S s] (B r):=by
 unfold Kzc at h
 refine QP Tryz.func102 E E E<|bK h fun y1 hy1 h2=>gA 9 E<|Khl C (Lea hy1) E Z E E E E E<|gO 1 E<|bK h2 fun q3 hq3 h4=>Kgj 4 [(0,S s),(2,B false),(10,B q3)] [] ?_ ?_
 ·refine Kqh E E (fun hb=>?_) (fun hb=>?_)
  ·have h5:=cT hq3 hb
   exact bK h5 fun z6 hz6 h7=>gO 1 E<|Kqf E<|eo_o E (Kgx hΓ hz6 E E E E E)<|bK h7 fun y8 hy8 h9=>Kqf E<|Khl C (Lec hy8) E Z E E E E E<|gO 2 E<|oSi h9▸⟨⟨E,E,E,tV⟩,[],E,.inl E⟩
  have h10:=cF hq3 hb
  exact gO 5 E<|oSi h10▸⟨⟨E,E,E,tV⟩,[],E,.inl E⟩
 refine gO 1 E<|bK h4 fun q11 hq11 h12=>Kgj 3 [(2,B false),(14,B q11)] [] ?_ ?_
 ·refine Kqh E E (fun hb=>?_) (fun hb=>?_)
  ·have h13:=cT hq11 hb
   exact bK h13 fun y14 hy14 h15=>gO 1 E<|Kqf E<|Khl C (Lec hy14) E Z E E E E E<|gO 2 E<|oSi h15▸⟨⟨E,E,tV⟩,[],E,.inl E⟩
  have h16:=cF hq11 hb
  exact gO 4 E<|oSi h16▸⟨⟨E,E,tV⟩,[],E,.inl E⟩
 exact gO 4 E<|oSi h12▸gP E E
theorem Lee{n:Int}{low:Int}{high:Int}{r:Bool}(h:Kzd n low high=some r):Pure Tryz.prog 104 [I n,I low,I high] (B r):=by
 unfold Kzd at h
 refine QP Tryz.func104 E E E<|gA 11 E<|Kgj 4 [(6,B false),(14,B ((decide ((low:Int)≤n))&&(decide ((n:Int)≤high))))] [] ?_ ?_
 ·refine Kqh E E (fun hb=>?_) (fun hb=>?_)
  ·exact gO 5 E<|⟨⟨E,Kfh E (Kie hb),tV⟩,[],E,.inl E⟩
  exact gO 5 E<|⟨⟨E,Kfh E (Kif hb),tV⟩,[],E,.inl E⟩
 exact gO 4 E<|oSi h▸gP E E
theorem Lef{k:Nat}{a:Kxa}{r:Int}(h:Kze k a=some r):Pure Tryz.prog 52 [.agg [I a.Kind,I a.Number,S a.Words,I a.Version.1,I a.Version.2.1,I a.Version.2.2.1,I a.Version.2.2.2]] (I r):=by
 unfold Kze at h
 refine QP Tryz.func52 E E E<|gA 2 E<|Kro E E E E Z<|bK h fun y1 hy1 h2=>gO 9 E<|Khl C (Lee hy1) E Z E E E E E<|gO 4 E<|Kgd E (fun hb=>?_) (fun hb=>?_)
 ·have h3:=cT h2 hb
  exact gA 8 E<|oSi h3▸gP E E
 have h4:=cF h2 hb
 refine gA 6 E<|bK h4 fun q5 hq5 h6=>Kgj 5 [(1,.ptr 0 0),(20,B q5)] [.box 29 [I a.Kind,I a.Number,S a.Words,I a.Version.1,I a.Version.2.1,I a.Version.2.2.1,I a.Version.2.2.2]] ?_ ?_
 ·refine Kqh E E (fun hb=>?_) (fun hb=>?_)
  ·have h7:=cT hq5 hb
   exact bK h7 fun y8 hy8 h9=>gO 2 E<|Kqf E<|Khl C (Lee hy8) E Z E E E E E<|gO 3 E<|oSi h9▸⟨⟨E,E,tV⟩,[],E,.inl E⟩
  have h10:=cF hq5 hb
  exact gO 6 E<|oSi h10▸⟨⟨E,E,tV⟩,[],E,.inl E⟩
 refine gO 1 E<|bK h6 fun q11 hq11 h12=>Kgj 10 [(1,.ptr 0 0),(31,B q11)] [.box 29 [I a.Kind,I a.Number,S a.Words,I a.Version.1,I a.Version.2.1,I a.Version.2.2.1,I a.Version.2.2.2]] ?_ ?_
 ·refine Kqh E E (fun hb=>?_) (fun hb=>?_)
  ·have h13:=cT hq11 hb
   exact gO 11 E<|oSi h13▸⟨⟨E,E,tV⟩,[],E,.inl E⟩
  have h14:=cF hq11 hb
  refine gO 4 E<|bK h14 fun q15 hq15 h16=>Kgj 5 [(1,.ptr 0 0),(21,B false),(30,B q15)] [.box 29 [I a.Kind,I a.Number,S a.Words,I a.Version.1,I a.Version.2.1,I a.Version.2.2.1,I a.Version.2.2.2]] ?_ ?_
  ·refine Kqh E E (fun hb=>?_) (fun hb=>?_)
   ·have h17:=cT hq15 hb
    exact bK h17 fun y18 hy18 h19=>gO 2 E<|Kqf E<|Khl C (Lee hy18) E Z E E E E E<|gO 3 E<|oSi h19▸⟨⟨E,E,E,tV⟩,[],E,.inl E⟩
   have h20:=cF hq15 hb
   exact gO 6 E<|oSi h20▸⟨⟨E,E,E,tV⟩,[],E,.inl E⟩
  exact gO 2 E<|oSi h16▸⟨⟨E,E,tV⟩,[],E,.inl E⟩
 refine gO 3 E<|Kgd E (fun hb=>?_) (fun hb=>?_)
 ·have h21:=cT h12 hb
  exact gA 8 E<|oSi h21▸gP E E
 have h22:=cF h12 hb
 refine gA 6 E<|Kgj 4 [(1,.ptr 0 0),(40,B (((a.Kind:Int) != 1)&&((a.Kind:Int) != 3)))] [.box 29 [I a.Kind,I a.Number,S a.Words,I a.Version.1,I a.Version.2.1,I a.Version.2.2.1,I a.Version.2.2.2]] ?_ ?_
 ·refine Kqh E E (fun hb=>?_) (fun hb=>?_)
  ·exact gO 5 E<|⟨⟨E,Kfh E (Kie hb),tV⟩,[],E,.inl E⟩
  exact gO 5 E<|⟨⟨E,Kfh E (Kif hb),tV⟩,[],E,.inl E⟩
 refine gO 1 E<|Kgj 4 [(1,.ptr 0 0),(45,B ((((a.Kind:Int) != 1)&&((a.Kind:Int) != 3))&&((a.Number:Int) != 0)))] [.box 29 [I a.Kind,I a.Number,S a.Words,I a.Version.1,I a.Version.2.1,I a.Version.2.2.1,I a.Version.2.2.2]] ?_ ?_
 ·refine Kqh E E (fun hb=>?_) (fun hb=>?_)
  ·exact gO 5 E<|⟨⟨E,Kfh E (Kie hb),tV⟩,[],E,.inl E⟩
  exact gO 5 E<|⟨⟨E,Kfh E (Kif hb),tV⟩,[],E,.inl E⟩
 refine gO 3 E<|Kgd E (fun hb=>?_) (fun hb=>?_)
 ·have h23:=cT h22 hb
  exact gA 8 E<|oSi h23▸gP E E
 have h24:=cF h22 hb
 refine gA 6 E<|Kgj 4 [(1,.ptr 0 0),(54,B (((a.Kind:Int) != 2)&&(!((a.Words:Str)==[]))))] [.box 29 [I a.Kind,I a.Number,S a.Words,I a.Version.1,I a.Version.2.1,I a.Version.2.2.1,I a.Version.2.2.2]] ?_ ?_
 ·refine Kqh E E (fun hb=>?_) (fun hb=>?_)
  ·exact gO 5 E<|⟨⟨E,Kfh E (Kie hb),tV⟩,[],E,.inl E⟩
  exact gO 5 E<|⟨⟨E,Kfh E (Kif hb),tV⟩,[],E,.inl E⟩
 refine gO 1 E<|Kgj 5 [(1,.ptr 0 0),(60,B ((((a.Kind:Int) != 2)&&(!((a.Words:Str)==[])))||(decide (((a.Words.length:Int):Int)>100))))] [.box 29 [I a.Kind,I a.Number,S a.Words,I a.Version.1,I a.Version.2.1,I a.Version.2.2.1,I a.Version.2.2.2]] ?_ ?_
 ·refine Kqh E E (fun hb=>?_) (fun hb=>?_)
  ·exact gO 6 E<|⟨⟨E,Kfh E (or_t hb),tV⟩,[],E,.inl E⟩
  exact gO 6 E<|⟨⟨E,Kfh E (or_f hb),tV⟩,[],E,.inl E⟩
 refine gO 3 E<|Kgd E (fun hb=>?_) (fun hb=>?_)
 ·have h25:=cT h24 hb
  exact gA 8 E<|oSi h25▸gP E E
 have h26:=cF h24 hb
 refine gA 12 E<|bK h26 fun q30 hq30 h31=>gK hq30 fun hb33 h34=>?_
 replace hb33:=of_decide_eq_true hb33
 refine Kka (R:=fun a32=>q30=.go a32) (fun a32=>[(1,.ptr 0 0)]) (fun a32=>[.box 29 [I a.Kind,I a.Number,S a.Words,I a.Version.1,I a.Version.2.1,I a.Version.2.2.1,I a.Version.2.2.2]]) ?_ ?_
 ·refine gA 1 E<|Kib h34 (fun i27 s28=>[(1,.ptr 0 0),(63,I (a.Words.length:Int)),(64,I (i27:Int))]) (fun s28=>[.box 29 [I a.Kind,I a.Number,S a.Words,I a.Version.1,I a.Version.2.1,I a.Version.2.2.1,I a.Version.2.2.2]]) ⟨⟨E,E,E,tV⟩,[],E,.inl E⟩ (fun i27 s28 y38 hlt hy36 hout37=>?_) (fun s28 hgo hge=>?_)
  ·refine gA 6 E<|Kge E (dT hlt)<|bK hy36 fun c39 hc39 h40=>gA 15 E<|eo_o E (Kgv hΓ hc39 E E E E)<|bK h40 fun y41 hy41 h42=>gO 1 E<|Khl C (Lee hy41) E Z E E E E E<|gO 3 E<|jC E h42 (fun h43=>?_) fun h46=>gA 7 E<|oSi h46▸⟨_,E,⟨⟨E,E,Kfg E (Kff (by omega)),tV⟩,[],E,.inl E⟩⟩
   refine gA 8 E<|bK h43 fun v44 hv44 h45=>?_
   cases h45
   obtain rfl:=hout37 _ rfl
   cases h31
   exact gA 4 E<|oSi hv44▸gP E E
  subst hgo
  exact gA 6 E<|Kgf E (dF hge)<|gA 4 E<|⟨_,E,⟨⟨E,tV⟩,[],E,.inl E⟩⟩
 intro a32 ha
 subst ha
 replace h31:=Kjv h31
 refine gA 9 E<|bK h31 fun q50 hq50 h51=>Kka (R:=fun a52=>q50=.inl a52) (fun a52=>[(1,.ptr 0 0)]) (fun a52=>[.box 29 [I a.Kind,I a.Number,S a.Words,I a.Version.1,I a.Version.2.1,I a.Version.2.2.1,I a.Version.2.2.2]]) ?_ ?_
 ·refine gA 1 E<|Kgq hq50 (fun s48=>[(1,.ptr 0 0),(76,.agg [I a.Version.1,I a.Version.2.1,I a.Version.2.2.1,I a.Version.2.2.2]),(77,I s48)]) (fun s48=>[.box 29 [I a.Kind,I a.Number,S a.Words,I a.Version.1,I a.Version.2.1,I a.Version.2.2.1,I a.Version.2.2.2]]) ⟨⟨E,E,E,tV⟩,[],E,.inl E⟩ (fun s48 y56 hy54 hout55=>?_)
  refine gA 6 E<|jC E hy54 (fun h57=>?_) fun h70=>gA 4 E ?_
  ·refine bK h57 fun x58 hx58 h59=>gA 6 E<|eo_o E (Kkx hΓ (enc:=(eN .i64)) [a.Version.1,a.Version.2.1,a.Version.2.2.1,a.Version.2.2.2] hx58 E E E E E E E (fun _=>E) E)<|gO 9 E<|bK h59 fun q60 hq60 h61=>Kgj 4 [(1,.ptr 0 0),(76,.agg [I a.Version.1,I a.Version.2.1,I a.Version.2.2.1,I a.Version.2.2.2]),(77,I s48),(87,B q60)] [.box 29 [I a.Kind,I a.Number,S a.Words,I a.Version.1,I a.Version.2.1,I a.Version.2.2.1,I a.Version.2.2.2]] ?_ ?_
   ·refine Kqh E E (fun hb=>?_) (fun hb=>?_)
    ·have h62:=cT hq60 hb
     exact bK h62 fun y63 hy63 h64=>gO 1 E<|Kqf E<|Khl C (Lee hy63) E Z E E E E E<|gO 3 E<|oSi h64▸⟨⟨E,E,E,E,tV⟩,[],E,.inl E⟩
    have h65:=cF hq60 hb
    exact gO 5 E<|oSi h65▸⟨⟨E,E,E,E,tV⟩,[],E,.inl E⟩
   refine gO 2 E<|jC E h61 (fun h66=>?_) fun h69=>gA 7 E<|oSi h69▸⟨_,E,⟨⟨E,E,E,tV⟩,[],E,.inl E⟩⟩
   refine gA 8 E<|bK h66 fun v67 hv67 h68=>?_
   cases h68
   obtain rfl:=hout55 _ rfl
   cases h51
   exact gA 4 E<|oSi hv67▸gP E E
  cases h70
  obtain rfl:=hout55 _ rfl
  exact⟨_,E,⟨⟨E,tV⟩,[],E,.inl E⟩⟩
 intro a52 ha
 subst ha
 replace h51:=Kju h51
 refine gA 8 E<|Kgj 5 [(97,B (((a.Kind:Int) != 4)&&(!decide (([a.Version.1,a.Version.2.1,a.Version.2.2.1,a.Version.2.2.2]:List Int)=([0,0,0,0]:List Int)))))] [.box 29 [I a.Kind,I a.Number,S a.Words,I a.Version.1,I a.Version.2.1,I a.Version.2.2.1,I a.Version.2.2.2]] ?_ ?_
 ·refine Kqh E E (fun hb=>?_) (fun hb=>?_)
  ·exact gO 2 E<|Kqf E<|eo_o E (Kky hΓ (gs:=[I 0,I 0,I 0,I 0]) E E E E E E)<|Kqf E<|eo_o E (Kmb hΓ (l1:=([a.Version.1,a.Version.2.1,a.Version.2.2.1,a.Version.2.2.2]:List Int)) (l2:=([0,0,0,0]:List Int)) E E E E E (by kernel_rfl) E E E E E E)<|gO 2 E<|⟨⟨Kfh E (Kie hb),tV⟩,[],E,.inl E⟩
  exact gO 6 E<|⟨⟨Kfh E (Kif hb),tV⟩,[],E,.inl E⟩
 refine gO 2 E<|jC E h51 (fun h71=>?_) fun h72=>gA 8 E<|oSi h72▸gP E E
 exact gA 7 E<|oSi h71▸gP E E
theorem Leg{a:Kxb}{b:Kxb}{r:Int}(h:Kzf a b=some r):Pure Tryz.prog 103 [.agg [I a.At,S a.Node,S a.Name,I a.Value.Kind,I a.Value.Number,S a.Value.Words,I a.Value.Version.1,I a.Value.Version.2.1,I a.Value.Version.2.2.1,I a.Value.Version.2.2.2],.agg [I b.At,S b.Node,S b.Name,I b.Value.Kind,I b.Value.Number,S b.Value.Words,I b.Value.Version.1,I b.Value.Version.2.1,I b.Value.Version.2.2.1,I b.Value.Version.2.2.2]] (I r):=by
 unfold Kzf at h
 exact QP Tryz.func103 E E E<|gA 2 E<|Kro E E E E Z<|Kro E E E E Z<|gO 4 E<|jD<|bK h fun y1 hy1 h2=>gA 4 E<|Khm C (Ldd hy1) E E E E E E<|bK h2 fun y3 hy3 h4=>Kgb hΓ 4 E<|Khm C (Kvt hy3) E E E E E E<|bK h4 fun y5 hy5 h6=>Kgb hΓ 4 E<|Khm C (Kvt hy5) E E E E E E<|Khg hΓ (enc:=(eN .i64)) [y1,y3,y5] E E E E E E E E E E E E<|bK h6 fun y7 hy7 h8=>Khm C (Lde hy7) E E E E E E<|Kgb hΓ 4 E<|oSi h8▸gP E E
theorem Leh{k:Nat}{l:List Kxb}{r:Int}(h:Kzg k l=some r):Pure Tryz.prog 25 [.d (Sl Kwu l)] (I r):=by
 unfold Kzg at h
 refine QP Tryz.func25 E E E<|gA 13 E<|jC E h (fun h1=>?_) fun h2=>gA 10 E<|bK h2 fun q6 hq6 h7=>Kgt 0 E fun hb9=>Kka (R:=fun a8=>q6=.go a8) (fun a8=>[]) (fun a8=>[]) ?_ ?_
 ·exact gA 7 E<|oSi h1▸gP E E
 ·refine gA 1 E<|Kgs l hq6 (fun i3 s4=>[(0,.d (Sl Kwu l)),(9,.d (Sl Kwu l)),(10,I (l.length:Int)),(11,I (i3:Int))]) (fun s4=>[]) ⟨⟨E,E,E,E,tV⟩,[],E,.inl E⟩ (fun i3 x5 s4 y13 hx10 hlt hy11 hout12=>?_) (fun s4 hgo=>?_)
  ·refine gA 6 E<|Kge E (dT (Int.ofNat_lt.2 hlt))<|gA 7 E<|eo_o E (Kgu hΓ (enc:=Kwu) (Kgn hx10) E E E E E (fun _=>E))<|gO 1 E<|Krn hΓ E E E Z<|gO 1 E<|Krs hΓ E E E E E E E E Z<|Kht [.box 83 [I x5.At,S x5.Node,S x5.Name,I x5.Value.Kind,I x5.Value.Number,S x5.Value.Words,I x5.Value.Version.1,I x5.Value.Version.2.1,I x5.Value.Version.2.2.1,I x5.Value.Version.2.2.2]] E<|bK hy11 fun y14 hy14 h15=>gO 8 E<|Khl C (Leb hy14) E Z E E E E E<|gO 4 E<|jC E h15 (fun h16=>?_) fun h19=>bK h19 fun y20 hy20 h21=>gA 4 E<|Khl C (Led hy20) E Z E E E E E<|gO 2 E<|bK h21 fun q22 hq22 h23=>Kgj 5 [(0,.d (Sl Kwu l)),(3,I (i3:Int)),(4,.ptr 0 0),(9,.d (Sl Kwu l)),(10,I (l.length:Int)),(11,I (i3:Int)),(31,B q22)] [.box 83 [I x5.At,S x5.Node,S x5.Name,I x5.Value.Kind,I x5.Value.Number,S x5.Value.Words,I x5.Value.Version.1,I x5.Value.Version.2.1,I x5.Value.Version.2.2.1,I x5.Value.Version.2.2.2]] ?_ ?_
   ·refine gA 10 E<|bK h16 fun v17 hv17 h18=>?_
    cases h18
    obtain rfl:=hout12 _ rfl
    cases h7
    exact gA 4 E<|oSi hv17▸gP E E
   ·refine Kqh E E (fun hb=>?_) (fun hb=>?_)
    ·have h24:=cT hq22 hb
     exact gO 6 E<|oSi h24▸⟨⟨E,E,E,E,E,E,E,tV⟩,[],E,.inl E⟩
    have h25:=cF hq22 hb
    exact bK h25 fun y26 hy26 h27=>gO 2 E<|Kqf E<|Khl C (Led hy26) E Z E E E E E<|gO 3 E<|oSi h27▸⟨⟨E,E,E,E,E,E,E,tV⟩,[],E,.inl E⟩
   refine gO 3 E<|jC E h23 (fun h28=>?_) fun h31=>bK h31 fun y32 hy32 h33=>gA 8 E<|Khl C (Lef hy32) E Z E E E E E<|gO 9 E<|jC E h33 (fun h34=>?_) fun h37=>?_
   ·refine gA 10 E<|bK h28 fun v29 hv29 h30=>?_
    cases h30
    obtain rfl:=hout12 _ rfl
    cases h7
    exact gA 4 E<|oSi hv29▸gP E E
   ·refine gA 10 E<|bK h34 fun v35 hv35 h36=>?_
    cases h36
    obtain rfl:=hout12 _ rfl
    cases h7
    exact gA 4 E<|oSi hv35▸gP E E
   refine bK h37 fun q38 hq38 h39=>gA 3 E<|Kkb [(0,.d (Sl Kwu l)),(9,.d (Sl Kwu l)),(10,I (l.length:Int)),(11,I (i3:Int)),(49,B q38)] [.box 83 [I x5.At,S x5.Node,S x5.Name,I x5.Value.Kind,I x5.Value.Number,S x5.Value.Words,I x5.Value.Version.1,I x5.Value.Version.2.1,I x5.Value.Version.2.2.1,I x5.Value.Version.2.2.2]] ?_ ?_
   ·refine jD<|gA 3 E<|Kem E E (fun hb=>?_) (fun hb=>?_)
    ·have h40:=cT hq38 hb
     exact bK h40 fun x41 hx41 h42=>Kgb hΓ 3 E<|Kfi E E (Kgu hΓ (enc:=Kwu) hx41 E E E E E (fun _=>E))<|bK h42 fun y43 hy43 h44=>Kgb hΓ 2 E<|Khn C (Leg hy43) E E E E E E E<|Kgb hΓ 3 E<|oSi h44▸⟨⟨E,E,E,E,E,tV⟩,[],E,.inl E⟩
    have h45:=cF hq38 hb
    exact Kgb hΓ 10 E<|oSi h45▸⟨⟨E,E,E,E,E,tV⟩,[],E,.inl E⟩
   refine gA 1 E<|jC E h39 (fun h46=>?_) fun h49=>gA 7 E ?_
   ·refine gA 8 E<|bK h46 fun v47 hv47 h48=>?_
    cases h48
    obtain rfl:=hout12 _ rfl
    cases h7
    exact gA 4 E<|oSi hv47▸gP E E
   cases h49
   exact⟨_,E,⟨⟨E,E,E,Kfg E (Kff (nLl hlt hb9)),tV⟩,[_],E,.inr ⟨HB.mk E,FB.mk E,Z⟩⟩⟩
  subst hgo
  exact gA 6 E<|Kgf E (dF (Int.lt_irrefl _))<|gA 4 E<|⟨_,E,⟨tV,[],E,.inl E⟩⟩
 intro a8 ha
 subst ha
 replace h7:=Kjv h7
 exact gA 7 E<|oSi h7▸gP E E
theorem Lei{fresh:Int}{r:Int}(h:Kzh fresh=some r):Pure Tryz.prog 26 [I fresh] (I r):=by
 unfold Kzh at h
 refine QP Tryz.func26 E E E<|bK h fun y1 hy1 h2=>gA 9 E<|Khl C (Lee hy1) E Z E E E E E<|gO 3 E<|jC E h2 (fun h3=>?_) fun h4=>gA 8 E<|oSi h4▸gP E E
 exact gA 7 E<|oSi h3▸gP E E
theorem Lej{s:Str}{r:Int}(h:Kzi s=some r):Pure Tryz.prog 105 [S s] (I r):=by
 unfold Kzi at h
 refine QP Tryz.func105 E E E<|bK h fun y1 hy1 h2=>gA 9 E<|Khl C (Led hy1) E Z E E E E E<|gO 3 E<|jC E h2 (fun h3=>?_) fun h4=>gA 8 E<|oSi h4▸gP E E
 exact gA 7 E<|oSi h3▸gP E E
theorem Lek{s:Str}{r:Int}(h:Kzj s=some r):Pure Tryz.prog 27 [S s] (I r):=by
 unfold Kzj at h
 exact QP Tryz.func27 E E E<|bK h fun y1 hy1 h2=>gA 8 E<|Khl C (Lej hy1) E Z E E E E E<|gO 4 E<|oSi h2▸gP E E
theorem Lel{v_at:Int}{r:Int}(h:Kzk v_at=some r):Pure Tryz.prog 28 [I v_at] (I r):=by
 unfold Kzk at h
 refine QP Tryz.func28 E E E<|bK h fun y1 hy1 h2=>gA 9 E<|Khl C (Leb hy1) E Z E E E E E<|gO 3 E<|jC E h2 (fun h3=>?_) fun h4=>gA 8 E<|oSi h4▸gP E E
 exact gA 7 E<|oSi h3▸gP E E
theorem Lem{vals:List Int}{r:Int}(h:Kzl vals=some r):Pure Tryz.prog 23 [.d (Sl (eN .i64) vals)] (I r):=by
 unfold Kzl at h
 refine QP Tryz.func23 E E E<|gA 18 E<|bK h fun q4 hq4 h5=>Kgt 6 E fun hb7=>Kka (R:=fun a6=>q4=.go a6) (fun a6=>[(3,I 0)]) (fun a6=>[]) ?_ ?_
 ·refine gA 1 E<|Kgs vals hq4 (fun i1 s2=>[(3,I 0),(6,.d (Sl (eN .i64) vals)),(7,I (vals.length:Int)),(8,I (i1:Int))]) (fun s2=>[]) ⟨⟨E,E,E,E,tV⟩,[],E,.inl E⟩ (fun i1 x3 s2 y11 hx8 hlt hy9 hout10=>?_) (fun s2 hgo=>?_)
  ·refine gA 6 E<|Kge E (dT (Int.ofNat_lt.2 hlt))<|gA 6 E<|eo_o E (Kgu hΓ (enc:=(eN .i64)) (Kgn hx8) E E E E E (fun _=>E))<|gO 11 E<|jC E hy9 (fun h12=>?_) fun h15=>gA 7 E ?_
   ·refine gA 9 E<|bK h12 fun v13 hv13 h14=>?_
    cases h14
    obtain rfl:=hout10 _ rfl
    cases h5
    exact gA 4 E<|oSi hv13▸gP E E
   cases h15
   exact⟨_,E,⟨⟨E,E,E,Kfg E (Kff (nLl hlt hb7)),tV⟩,[],E,.inl E⟩⟩
  subst hgo
  exact gA 6 E<|Kgf E (dF (Int.lt_irrefl _))<|gA 4 E<|⟨_,E,⟨⟨E,tV⟩,[],E,.inl E⟩⟩
 intro a6 ha
 subst ha
 replace h5:=Kjv h5
 exact gA 8 E<|oSi h5▸gP E E
theorem Len{s:List Kxb}{v:Kxb}{r:Int}(h:Kzn s v=some r):Pure Tryz.prog 240 [.d (Sl Kwu s),.agg [I v.At,S v.Node,S v.Name,I v.Value.Kind,I v.Value.Number,S v.Value.Words,I v.Value.Version.1,I v.Value.Version.2.1,I v.Value.Version.2.2.1,I v.Value.Version.2.2.2]] (I r):=by
 unfold Kzn at h
 refine QP Tryz.func240 E E E<|gA 2 E<|Kro E E E E Z<|gO 11 E<|bK h fun q4 hq4 h5=>Kgt 0 E fun hb7=>Kka (R:=fun a6=>q4=.go a6) (fun a6=>[]) (fun a6=>[.box 83 [I v.At,S v.Node,S v.Name,I v.Value.Kind,I v.Value.Number,S v.Value.Words,I v.Value.Version.1,I v.Value.Version.2.1,I v.Value.Version.2.2.1,I v.Value.Version.2.2.2]]) ?_ ?_
 ·refine gA 1 E<|Kgs s hq4 (fun i1 s2=>[(0,.d (Sl Kwu s)),(3,.ptr 0 0),(7,I (s.length:Int)),(8,I (i1:Int))]) (fun s2=>[.box 83 [I v.At,S v.Node,S v.Name,I v.Value.Kind,I v.Value.Number,S v.Value.Words,I v.Value.Version.1,I v.Value.Version.2.1,I v.Value.Version.2.2.1,I v.Value.Version.2.2.2]]) ⟨⟨E,E,E,E,tV⟩,[],E,.inl E⟩ (fun i1 x3 s2 y11 hx8 hlt hy9 hout10=>?_) (fun s2 hgo=>?_)
  ·refine gA 6 E<|Kge E (dT (Int.ofNat_lt.2 hlt))<|gA 11 E<|jD<|gA 3 E<|gl_o E (Kgu hΓ (enc:=Kwu) (Kgn hx8) E E E E E (fun _=>E))<|Kgb hΓ 1 E<|gl_o E (Koq hΓ [83,29] (b:=(((v.At:Int)==x3.At)&&(((v.Node:Str)==x3.Node)&&(((v.Name:Str)==x3.Name)&&((((v.Value.Kind:Int)==x3.Value.Kind)&&(((v.Value.Number:Int)==x3.Value.Number)&&(((v.Value.Words:Str)==x3.Value.Words)&&(decide (([v.Value.Version.1,v.Value.Version.2.1,v.Value.Version.2.2.1,v.Value.Version.2.2.2]:List Int)=[x3.Value.Version.1,x3.Value.Version.2.1,x3.Value.Version.2.2.1,x3.Value.Version.2.2.2])&&true))))&&true))))) (by kernel_rfl) (by kernel_rfl) E E E)<|Kgb hΓ 2 E<|jC E hy9 (fun h12=>?_) fun h15=>gA 7 E ?_
   ·refine gA 9 E<|bK h12 fun v13 hv13 h14=>?_
    cases h14
    obtain rfl:=hout10 _ rfl
    cases h5
    exact gA 4 E<|oSi hv13▸gP E E
   cases h15
   exact⟨_,E,⟨⟨E,E,E,Kfg E (Kff (nLl hlt hb7)),tV⟩,[],E,.inl E⟩⟩
  subst hgo
  exact gA 6 E<|Kgf E (dF (Int.lt_irrefl _))<|gA 4 E<|⟨_,E,⟨tV,[],E,.inl E⟩⟩
 intro a6 ha
 subst ha
 replace h5:=Kjv h5
 exact gA 7 E<|oSi h5▸gP E E
theorem Leo{s:List Kxb}{v:Kxb}{r:Bool}(h:Kzo s v=some r):Pure Tryz.prog 190 [.d (Sl Kwu s),.agg [I v.At,S v.Node,S v.Name,I v.Value.Kind,I v.Value.Number,S v.Value.Words,I v.Value.Version.1,I v.Value.Version.2.1,I v.Value.Version.2.2.1,I v.Value.Version.2.2.2]] (B r):=by
 unfold Kzo at h
 exact QP Tryz.func190 E E E<|gA 2 E<|Kro E E E E Z<|bK h fun y1 hy1 h2=>gO 7 E<|Khl C (Len hy1) E Z E E E E E<|gO 5 E<|oSi h2▸gP E E
theorem Lep{x:List Kxb}(h:CmpT (fun a b=>Kzf a b)∧x.length<4611686018427387904):EC Tryz.prog 191 [.sl 0 x.length,.fn (.func 103) [] []] [rO 83 10 Kwu x] fun g hp'=>∃ r,SrtP (fun a b=>Kzf a b) x r∧g=.tup []∧hp'=[rO 83 10 Kwu r]:=
 haveI:Inhabited Kxb:=⟨(⟨0,[],[],(⟨0,0,[],(0,0,0,0)⟩:Kxa)⟩:Kxb)⟩
 EC.sortFuncD Tryz.sortf191 hΓ (show Γ 83=some _ from E) E (fun x=>[(.int .i64 x.At),(.string ⟨x.Node.toArray⟩),(.string ⟨x.Name.toArray⟩),(.int .i64 x.Value.Kind),(.int .i64 x.Value.Number),(.string ⟨x.Value.Words.toArray⟩),(.int .i64 x.Value.Version.1),(.int .i64 x.Value.Version.2.1),(.int .i64 x.Value.Version.2.2.1),(.int .i64 x.Value.Version.2.2.2)]) Kwu (fun _=>E) (fun _=>E) (fun _=>E) (enters_of Tryz.func103 (by kernel_rfl) E) (fun h=>Leg h) h.1 h.2
theorem Leq{k:Nat}{a:List Kxb}{b:List Kxb}{r:(List Kxb)×Bool}(h:Kzp k a b=some r):Pure Tryz.prog 128 [.d (Sl Kwu a),.d (Sl Kwu b),.fn (.func 103) [] []] (.tup [.d (Sl Kwu r.1),B r.2]):=by
 unfold Kzp at h
 refine QP Tryz.func128 E E E<|bK h fun y1 hy1 h2=>gA 9 E<|Khk [] (.sl 0 y1.length) [rO 83 10 Kwu y1] C (Lct hy1) E Z E E E E E E E E E E<|gO 11 E<|bK h2 fun q6 hq6 h7=>Kgt 14 E fun hb9=>Kkb [(2,.fn (.func 103) [] []),(8,.sl 0 q6.length)] [rO 83 10 Kwu q6] ?_ ?_
 ·refine gA 1 E<|Kia b hq6 (fun i3 s4=>[(2,.fn (.func 103) [] []),(8,.sl 0 s4.length),(14,.d (Sl Kwu b)),(15,I (b.length:Int)),(16,I (i3:Int))]) (fun s4=>[rO 83 10 Kwu s4]) ⟨⟨E,E,E,E,E,tV⟩,[],E,.inl E⟩ (fun i3 x5 s4 y13 hx10 hlt hy11=>?_) (?_)
  ·refine gA 6 E<|Kge E (dT (Int.ofNat_lt.2 hlt))<|gA 6 E<|eo_o E (Kgu hΓ (enc:=Kwu) (Kgn hx10) E E E E E (fun _=>E))<|gO 1 E<|Krn hΓ E E E Z<|Krs hΓ E E E E E E E E Z<|Kht [rO 83 10 Kwu s4,.box 83 [I x5.At,S x5.Node,S x5.Name,I x5.Value.Kind,I x5.Value.Number,S x5.Value.Words,I x5.Value.Version.1,I x5.Value.Version.2.1,I x5.Value.Version.2.2.1,I x5.Value.Version.2.2.2]] E<|bK hy11 fun y14 hy14 h15=>gO 6 E<|Kho C (Leo hy14) E Z E E E E E<|gO 3 E<|jC E h15 (fun h16=>?_) fun h19=>gA 7 E ?_
   ·refine gA 3 E<|Khf hΓ (enc:=Kwu) [x5] E E E E E E E E E E E E Z<|bK h16 fun y17 hy17 h18=>Khu hΓ (enc:=Kwu) hy17 E E E E E E E E E (fun _=>E) E E E E<|gO 8 E ?_
    cases h18
    exact⟨⟨E,E,E,E,Kfg E (Kff (nLl hlt hb9)),tV⟩,[_],E,.inr ⟨HB.mk E,FB.mk E,Z⟩⟩
   cases h19
   exact⟨⟨E,E,E,E,Kfg E (Kff (nLl hlt hb9)),tV⟩,[_],E,.inr ⟨HB.mk E,FB.mk E,Z⟩⟩
  exact gA 6 E<|Kgf E (dF (Int.lt_irrefl _))<|gA 4 E<|⟨⟨E,E,tV⟩,[],E,.inl E⟩
 obtain⟨hok21,ha22⟩:=Kox h7
 refine gA 5 E<|Koz [0] (.tup []) (fun y20=>[rO 83 10 Kwu y20]) C (Lep hok21) E Z E E E E E E E E E (fun _=>E)<|fun y20 hy20=>?_
 have h23:=ha22 y20 hy20
 refine gK h23 fun hg25 h24=>Kkk 8 E (of_decide_eq_true hg25).symm<|gO 8 E<|bK h24 fun q29 hq29 h30=>Kka (R:=fun a31=>q29=.inl a31) (fun a31=>[(8,.sl 0 y20.length)]) (fun a31=>[rO 83 10 Kwu y20]) ?_ ?_
 ·refine gA 1 E<|Kgq hq29 (fun s27=>[(2,.fn (.func 103) [] []),(8,.sl 0 y20.length),(11,I s27)]) (fun s27=>[rO 83 10 Kwu y20]) ⟨⟨E,E,E,tV⟩,[],E,.inl E⟩ (fun s27 y35 hy33 hout34=>?_)
  refine gA 9 E<|jC E hy33 (fun h36=>?_) fun h49=>gA 4 E ?_
  ·refine gA 5 E<|jD<|bK h36 fun x37 hx37 h38=>?_
   have hj39:=Kid hx37
   refine gA 4 E<|gl_o E (Kgw hΓ hx37 E E E E E E)<|gl_o E (Khc hΓ (enc:=Kwu) ((wi (s27 - 1)).toNat) 0 hj39 E E E E (fun _=>E) (g:=.agg [I x37.At,S x37.Node,S x37.Name,I x37.Value.Kind,I x37.Value.Number,S x37.Value.Words,I x37.Value.Version.1,I x37.Value.Version.2.1,I x37.Value.Version.2.2.1,I x37.Value.Version.2.2.2]) E)<|bK h38 fun x40 hx40 h41=>?_
   have hj42:=Kid hx40
   refine Kgb hΓ 2 E<|gl_o E (Kgw hΓ hx40 E E E E E E)<|gl_o E (Khc hΓ (enc:=Kwu) s27.toNat 0 hj42 E E E E (fun _=>E) (g:=.agg [I x40.At,S x40.Node,S x40.Name,I x40.Value.Kind,I x40.Value.Number,S x40.Value.Words,I x40.Value.Version.1,I x40.Value.Version.2.1,I x40.Value.Version.2.2.1,I x40.Value.Version.2.2.2]) E)<|bK h41 fun y43 hy43 h44=>Khm C (Leg hy43) E E E E E E<|Kgb hΓ 3 E<|jC E h44 (fun h45=>?_) fun h48=>gA 8 E<|oSi h48▸⟨_,E,⟨⟨E,E,E,tV⟩,[],E,.inl E⟩⟩
   refine gA 9 E<|bK h45 fun v46 hv46 h47=>?_
   cases h47
   obtain rfl:=hout34 _ rfl
   cases h30
   exact gA 4 E<|oSi hv46▸gP E E
  cases h49
  obtain rfl:=hout34 _ rfl
  exact⟨_,E,⟨⟨E,tV⟩,[],E,.inl E⟩⟩
 intro a31 ha
 subst ha
 replace h30:=Kju h30
 exact gA 5 E<|Khr 0 [6,8,50] _ [.dead] E E E Z<|gO 4 E<|oSi h30▸gP E E
theorem Ler{k:Nat}{a:List Kxb}{b:List Kxb}{r:(List Kxb)×Int}(h:Kzq k a b=some r):Pure Tryz.prog 54 [.d (Sl Kwu a),.d (Sl Kwu b)] (.tup [.d (Sl Kwu r.1),I r.2]):=by
 unfold Kzq at h
 refine QP Tryz.func54 E E E<|bK h fun y1 hy1 h2=>gA 10 E<|Khl C (Leq hy1) E Z E E E E E<|gO 16 E<|jC E h2 (fun h3=>?_) fun h4=>gA 8 E<|jC E h4 (fun h5=>?_) fun h6=>?_
 ·exact gA 9 E<|oSi h3▸gP E E
 ·exact gA 9 E<|oSi h5▸gP E E
 exact gA 11 E<|oSi h6▸gP E E
end Go.Proofs.YthhdojhbohfmnaaGreatDoor
