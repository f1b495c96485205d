import Derived.Test.YtfnjahjbpaoepaaGreatDoorXZM
import Derived.Test.YtfnjahjbpaoepaaGreatDoorGt
import Derived.Test.YtfnjahjbpaoepaaGreatDoorStr
import Derived.Test.YtfnjahjbpaoepaaGreatDoorStr2
import Derived.Test.YtfnjahjbpaoepaaGreatDoorStr4
import Derived.Test.YtfnjahjbpaoepaaGreatDoorStr5
import Derived.Test.YtfnjahjbpaoepaaGreatDoorStr6
import Derived.Test.YtfnjahjbpaoepaaGreatDoorStr7
import Derived.Test.YtfnjahjbpaoepaaGreatDoorStr8
import Derived.Test.YtfnjahjbpaoepaaGreatDoorBld
set_option maxHeartbeats 8000000
set_option linter.all false
set_option maxRecDepth 100000
namespace Go.Proofs.YtfnjahjbpaoepaaGreatDoor
open Go.Gk
theorem E.{u}{α:Sort u}{a:α}:a=a:=rfl
theorem Z{n m:Nat}(h:Nat.ble n m=true:=by exact rfl):n≤m:=nBe h
theorem C{f:FuncId}{fn:Func}(h:Tryz.prog.funcs[f]?=some fn:=by exact rfl)(h1:fn.body.isNone=false:=by exact rfl)(h2:(fn.name== "runtime.NumGoroutine")=false:=by exact rfl):Callable Tryz.prog f:=Lhm h h1 h2
theorem bK{α β:Type}{x:Option α}{f:α→Option β}{r:β}{G:Prop}(h:bi x f=some r)(k:∀ a,x=some a→f a=some r→G):G:=let⟨a,b,c⟩:=Kcy h;k a b c
theorem gK{α:Type}{c:Bool}{x:Option α}{r:α}{G:Prop}(h:gd c x=some r)(k:c=true→x=some r→G):G:=let⟨a,b⟩:=Kcz h;k a b
section
variable{F N:Nat}{Q:GPost}{fr fr':Fr}{hp:List Ob}{ks:List Kt}
theorem jC{P:Program}{t:Tmp}{x y:Code}{b:Bool}{α:Type}{u v r:α}(hb:fr.get t=some (.d (.v (.bool b))))(h:(bif b then u else v)=r)(h1:u=r→St.holds P F N Q (.code x ks) fr hp)(h2:v=r→St.holds P F N Q (.code y ks) fr hp):St.holds P F N Q (.code (.cond (.tmp t) x y) ks) fr hp:=Kcr hb (fun e=>h1 (cT h e)) fun e=>h2 (cF h e)
theorem gA(n:Nat){st st':St}(h:mrun Γ N hp n st fr=(st',fr'))(k:St.holds Tryz.prog F N Q st' fr' hp):St.holds Tryz.prog F N Q st fr hp:=go hΓ n h k
theorem gO(n:Nat){full:Array Oper}{l:List Oper}{st':St}(h:mrun Γ N hp n (.ops full l ks) fr=(st',fr'))(k:St.holds Tryz.prog F N Q st' fr' hp):EO Tryz.prog F N full l (stk Tryz.prog F N Q ks) fr hp:=Kco hΓ n h k
theorem jD{id:Nat}{ops:Array Oper}(h:St.holds Tryz.prog F N Q (.draw ops ops.toList ks) fr hp)(hB:Region.lexB .any ops=true:=by kernel_rfl):St.holds Tryz.prog F N Q (.code (.region id ops true) ks) fr hp:=Kcu hmix hB h
theorem QN{f:FuncId}{fn:Func}{c:Code}{gs:List G}{R:G→List Ob→Prop}(hf:Tryz.prog.funcs[f]?=some fn)(hb:fn.body=some c)(hN:gs.length≤fn.ntmps)(h:St.holds Tryz.prog hp.length fn.ntmps (Ret Tryz.prog fn hp.length R) (.code c []) (Fr.of 0 gs) hp):EC Tryz.prog f gs hp R:=Kku (Fr.of 0 gs) hf hb (Fr.of_ok gs) hN fun _=>Kcq h
theorem QM{f:FuncId}{fn:Func}{c:Code}{gs:List G}{R:G→List Ob→Prop}(hf:Tryz.prog.funcs[f]?=some fn)(hb:fn.body=some c)(hN:gs.length≤fn.ntmps)(h:St.holds Tryz.prog hp.length fn.ntmps (fun e fr hp'=>Cv hp.length fn.ntmps (fun fr2 hp2=>Ret Tryz.prog fn hp.length R e fr2 hp2) fr hp') (.code c []) (Fr.of 0 gs) hp):EC Tryz.prog f gs hp R:=Kim (Fr.of 0 gs) hf hb (Fr.of_ok gs) hN fun _=>Kcq h
theorem QP{f:FuncId}{fn:Func}{c:Code}{gs:List G}{r:G}(hf:Tryz.prog.funcs[f]?=some fn)(hb:fn.body=some c)(hN:Nat.ble gs.length fn.ntmps=true)(hr:r.bel 0=true)(h:St.holds Tryz.prog 0 fn.ntmps (fun e fr hp=>(e=.normal∨e=.ret)∧Res Tryz.prog fn fr hp r) (.code c []) (Fr.of 0 gs) []):Pure Tryz.prog f gs r:=Pure.enter (Fr.of 0 gs) hf hb (Fr.of_ok gs) hN hr (Kcq h)
theorem gP{fn:Func}{gs:List G}{g:G}(h:resAll Γ fr hp fn.results.toList=some gs)(hg:retG gs=g):(Exit.ret=.normal∨Exit.ret=.ret)∧Res Tryz.prog fn fr hp g:=Kem hΓ (.inr rfl) h hg
end
abbrev Lcf(x:Kxz):List D:=[Sl (eN .i64) x.L,.v (.int .i64 x.v_at)]
abbrev Lcg(x:Kya):List D:=[.v (.bool x.Six),.v (.int .u64 x.Hi),.v (.int .u64 x.Lo)]
abbrev Lch(x:Kyb):List D:=[.v (.string ⟨x.Name.toArray⟩),.v (.int .i64 x.Kind),.v (.bool x.Addr.Six),.v (.int .u64 x.Addr.Hi),.v (.int .u64 x.Addr.Lo),.v (.string ⟨x.To.toArray⟩),.v (.string ⟨x.Words.toArray⟩),.v (.int .i64 x.Life)]
abbrev Lci(x:Kyc):List D:=[.v (.string ⟨x.Root.toArray⟩),Sl Lch x.Records]
abbrev rO{α:Type}(t:TypeId)(z:Nat)(e:α→List D)(l:List α):Ob:=.row t z l.length (l.flatMap e)
abbrev fQ(s:Kxz):List G:=[.d (Sl (eN .i64) s.L),I s.v_at]
theorem Lcj{x:Int}{n:Int}{r:Int}(h:Kyd x n=some r):Pure Tryz.prog 124 [I x,I n] (I r):=by
 unfold Kyd at h
 refine QP Tryz.func124 E E E<|gA 12 E<|jC E h (fun h1=>?_) fun h2=>bK h2 fun y3 hy3 h4=>gA 6 E<|eo_o E (Kel hy3 E E)<|bK h4 fun q5 hq5 h6=>gO 10 E<|Khe [(0,I q5)] [] ?_ ?_
 ·exact gA 7 E<|oSi h1▸gP E E
 ·refine jC E hq5 (fun h7=>?_) fun h8=>gA 1 E<|oSi h8▸⟨⟨E,tV⟩,[],E,.inl E⟩
  exact gA 6 E<|oSi h7▸⟨⟨E,tV⟩,[],E,.inl E⟩
 exact gA 8 E<|oSi h6▸gP E E
theorem Lck{s:Kxz}{n:Int}{r:Int×Kxz}(h:Kye s n=some r):EC Tryz.prog 38 [.ptr 0 0,I n] [.box 25 (fQ s)] fun g hp'=>g=I r.1∧hp'=[.box 25 (fQ r.2)]:=by
 unfold Kye at h
 refine QN Tryz.func38 E Z<|gA 14 E<|Kmn hΓ E E E E E E E E Z<|Keg [.box 25 [.d (Sl (eN .i64) s.L),I (wi (s.v_at+1))]] E<|gO 13 E<|jC E h (fun h1=>?_) fun h4=>gA 3 E<|jD<|bK h4 fun y5 hy5 h6=>gA 10 E<|gl_o E (Kel hy5 E E)<|Kcp hΓ 4 E<|jD<|bK h6 fun y7 hy7 h8=>gA 10 E<|gl_o E (Kek hy7 E E)<|bK h8 fun x9 hx9 h10=>Kcp hΓ 10 E<|eo_o E (Kdi hΓ (enc:=(eN .i64)) hx9 E E E E E (fun _=>E))<|bK h10 fun y11 hy11 h12=>gO 1 E<|Kdy C (Lcj hy11) E Z E E E E E<|bK h12 fun y13 hy13 h14=>gO 6 E<|Kdy C (Lcj hy13) E Z E E E E E<|gO 4 E<|oSi h14▸Ken hΓ [] (.inr E) E E E E (.inl E)
 exact bK h1 fun y2 hy2 h3=>gA 8 E<|Kdy C (Lcj hy2) E Z E E E E E<|gO 5 E<|oSi h3▸Ken hΓ [] (.inr E) E E E E (.inl E)
theorem Lcl{s:Kxz}{n:Int}{r:Bool×Kxz}(h:Kyf s n=some r):EC Tryz.prog 39 [.ptr 0 0,I n] [.box 25 (fQ s)] fun g hp'=>g=B r.1∧hp'=[.box 25 (fQ r.2)]:=by
 unfold Kyf at h
 exact QN Tryz.func39 E Z<|bK h fun y1 hy1 h2=>gA 9 E<|Kdx [0] (I y1.1) [.box 25 (fQ y1.2)] C (Lck hy1) E Z E E E E E E E E E E<|gO 5 E<|oSi h2▸Ken hΓ [] (.inr E) E E E E (.inl E)
theorem Lcm{s:Kxz}{l:List Int}{r:Int×Kxz}(h:Kyg s l=some r):EC Tryz.prog 35 [.ptr 0 0,.d (Sl (eN .i64) l)] [.box 25 (fQ s)] fun g hp'=>g=I r.1∧hp'=[.box 25 (fQ r.2)]:=by
 unfold Kyg at h
 exact QN Tryz.func35 E Z<|bK h fun y1 hy1 h2=>gA 11 E<|Kdx [0] (I y1.1) [.box 25 (fQ y1.2)] C (Lck hy1) E Z E E E E E E E E E E<|bK h2 fun x3 hx3 h4=>eo_o E (Kdi hΓ (enc:=(eN .i64)) hx3 E E E E E (fun _=>E))<|gO 5 E<|oSi h4▸Ken hΓ [] (.inr E) E E E E (.inl E)
theorem Lcn{s:Kxz}{low:Int}{high:Int}{r:Int×Kxz}(h:Kyh s low high=some r):EC Tryz.prog 26 [.ptr 0 0,I low,I high] [.box 25 (fQ s)] fun g hp'=>g=I r.1∧hp'=[.box 25 (fQ r.2)]:=by
 unfold Kyh at h
 refine QN Tryz.func26 E Z<|gA 13 E<|jC E h (fun h1=>?_) fun h2=>bK h2 fun y3 hy3 h4=>gA 10 E<|Kdx [0] (I y3.1) [.box 25 (fQ y3.2)] C (Lck hy3) E Z E E E E E E E E E E<|gO 5 E<|oSi h4▸Ken hΓ [] (.inr E) E E E E (.inl E)
 exact gA 8 E<|oSi h1▸Ken hΓ [] (.inr E) E E E E (.inl E)
theorem Lco{n:Int}{r:Kya}(h:Kyi n=some r):Pure Tryz.prog 172 [I n] (.agg [B r.Six,U r.Hi,U r.Lo]):=by
 unfold Kyi at h
 exact QP Tryz.func172 E E E<|gA 2 E<|Kmi hΓ E E E Z<|gO 7 E<|Kau hΓ (gs:=[B false,U 0,U (IntKind.u64.wrap (1681915904+(IntKind.u64.wrap (n))))]) E E E E E E E<|Kmn hΓ E E E E E E E E Z<|Keg [.box 39 [B false,U 0,U (IntKind.u64.wrap (1681915904+(IntKind.u64.wrap (n))))]] E<|gO 3 E<|oSi h▸gP E E
theorem Lcp{n:Int}{r:Kya}(h:Kyj n=some r):Pure Tryz.prog 173 [I n] (.agg [B r.Six,U r.Hi,U r.Lo]):=by
 unfold Kyj at h
 exact QP Tryz.func173 E E E<|gA 2 E<|Kmi hΓ E E E Z<|gO 6 E<|Kau hΓ (gs:=[B true,U 18230571291595767808,U (IntKind.u64.wrap (n))]) E E E E E E E<|Kmn hΓ E E E E E E E E Z<|Keg [.box 39 [B true,U 18230571291595767808,U (IntKind.u64.wrap (n))]] E<|gO 3 E<|oSi h▸gP E E
theorem Lcq{s:Kxz}{l:List Str}{r:Str×Kxz}(h:Kyk s l=some r):EC Tryz.prog 40 [.ptr 0 0,.d (Sl eS l)] [.box 25 (fQ s)] fun g hp'=>g=S r.1∧hp'=[.box 25 (fQ r.2)]:=by
 unfold Kyk at h
 exact QN Tryz.func40 E Z<|bK h fun y1 hy1 h2=>gA 11 E<|Kdx [0] (I y1.1) [.box 25 (fQ y1.2)] C (Lck hy1) E Z E E E E E E E E E E<|bK h2 fun x3 hx3 h4=>eo_o E (Kdi hΓ (enc:=eS) hx3 E E E E E (fun _=>E))<|gO 5 E<|oSi h4▸Ken hΓ [] (.inr E) E E E E (.inl E)
theorem Lcr{s:Kxz}{r:Kya×Kxz}(h:Kyl s=some r):EC Tryz.prog 228 [.ptr 0 0] [.box 25 (fQ s)] fun g hp'=>g=.agg [B r.1.Six,U r.1.Hi,U r.1.Lo]∧hp'=[.box 25 (fQ r.2)]:=by
 unfold Kyl at h
 refine QN Tryz.func228 E Z<|gA 2 E<|Kmi hΓ E E E Z<|bK h fun y1 hy1 h2=>gO 6 E<|Kdx [0] (I y1.1) [.box 25 (fQ y1.2),.box 39 [B false,U 0,U 0]] C (Lck hy1) E Z E E E E E E E E E E<|gO 9 E<|jC E h2 (fun h3=>?_) fun h12=>gA 6 E<|jC E h12 (fun h13=>?_) fun h18=>?_
 ·exact gA 1 E<|Kge [] [] [2,7,11] [] hmix (by kernel_rfl) (by kernel_rfl) trivial Z<|Kgt hΓ (enc:=(eN .u64)) [0,18230571291595767808,2306139568115548160,9223372036854775808,18446744073709551615] E E E E E E E E E E E E<|bK h3 fun y4 hy4 h5=>go_E hΓ 1 E<|ge_h [.box 25 (fQ y4.2),.box 39 [B false,U 0,U 0]] E E E (Kgm tV) (Kgr [0] (I y4.1) [.box 25 (fQ y4.2),.box 39 [B false,U 0,U 0]] C (Lck hy4) E E E E E E E E E E)<|bK h5 fun x6 hx6 h7=>ge_q E (.inl E) (fun _ _=>Kgg (qt_p (Kdi hΓ (enc:=(eN .u64)) hx6 E E E E E (fun _=>E))))<|go_E hΓ 1 E<|Kgt hΓ (enc:=(eN .u64)) [0,1,2,4294967296,18446744073709551615] E E E E E E E E E E E E<|bK h7 fun y8 hy8 h9=>go_E hΓ 1 E<|ge_h [.box 25 (fQ y8.2),.box 39 [B false,U 0,U 0]] E E E (Kgm tV) (Kgr [0] (I y8.1) [.box 25 (fQ y8.2),.box 39 [B false,U 0,U 0]] C (Lck hy8) E E E E E E E E E E)<|bK h9 fun x10 hx10 h11=>ge_q E (.inl E) (fun _ _=>Kgg (qt_p (Kdi hΓ (enc:=(eN .u64)) hx10 E E E E E (fun _=>E))))<|go_E hΓ 1 E<|ge_q E (.inl E) (fun _ _=>Kgg (qt_p (Kgv hΓ (gs:=[B true,U x6,U x10]) E E E E E E)))<|Kgk [.box 25 (fQ y8.2),.box 39 [B true,U x6,U x10]] E E (Kgm tV) (Kgq (Khp hΓ E E E E E E E E E))<|Kgf<|gA 4 E<|oSi h11▸Ken hΓ [_] (.inr E) E E E E (.inr ⟨HB.mk E,E⟩)
 ·exact gA 2 E<|Kdt hΓ (enc:=(eN .u64)) [0,1,4294967295,2130706433,3232235521] E E E E E E E E E E E E Z<|bK h13 fun y14 hy14 h15=>gO 1 E<|Kdx [0] (I y14.1) [.box 25 (fQ y14.2),.box 39 [B false,U 0,U 0]] C (Lck hy14) E Z E E E E E E E E E E<|bK h15 fun x16 hx16 h17=>eo_o E (Kdi hΓ (enc:=(eN .u64)) hx16 E E E E E (fun _=>E))<|gO 1 E<|Kau hΓ (gs:=[B false,U 0,U x16]) E E E E E E E<|Kmn hΓ E E E E E E E E Z<|Keg [.box 25 (fQ y14.2),.box 39 [B false,U 0,U x16]] E<|gO 5 E<|oSi h17▸Ken hΓ [_] (.inr E) E E E E (.inr ⟨HB.mk E,E⟩)
 refine gA 6 E<|jC E h18 (fun h19=>?_) fun h24=>bK h24 fun y25 hy25 h26=>gA 6 E<|Kdx [0] (I y25.1) [.box 25 (fQ y25.2),.box 39 [B false,U 0,U 0]] C (Lcn hy25) E Z E E E E E E E E E E<|gO 2 E<|Kau hΓ (gs:=[B false,U 0,U (IntKind.u64.wrap (167772160+(IntKind.u64.wrap (y25.1))))]) E E E E E E E<|Kmn hΓ E E E E E E E E Z<|Keg [.box 25 (fQ y25.2),.box 39 [B false,U 0,U (IntKind.u64.wrap (167772160+(IntKind.u64.wrap (y25.1))))]] E<|gO 3 E<|oSi h26▸Ken hΓ [_] (.inr E) E E E E (.inr ⟨HB.mk E,E⟩)
 exact bK h19 fun y20 hy20 h21=>gA 3 E<|Kdx [0] (I y20.1) [.box 25 (fQ y20.2),.box 39 [B false,U 0,U 0]] C (Lcn hy20) E Z E E E E E E E E E E<|bK h21 fun y22 hy22 h23=>gO 2 E<|eo_o E (Kel hy22 E E)<|Kau hΓ (gs:=[B false,U 0,U y22]) E E E E E E E<|Kmn hΓ E E E E E E E E Z<|Keg [.box 25 (fQ y20.2),.box 39 [B false,U 0,U y22]] E<|gO 5 E<|oSi h23▸Ken hΓ [_] (.inr E) E E E E (.inr ⟨HB.mk E,E⟩)
theorem Lcs{s:Kxz}{r:Kya×Kxz}(h:Kym s=some r):EC Tryz.prog 147 [.ptr 0 0] [.box 25 (fQ s)] fun g hp'=>g=.agg [B r.1.Six,U r.1.Hi,U r.1.Lo]∧hp'=[.box 25 (fQ r.2)]:=by
 unfold Kym at h
 refine QN Tryz.func147 E Z<|gA 2 E<|Kmi hΓ E E E Z<|bK h fun y1 hy1 h2=>gO 5 E<|Kdx [0] (.agg [B y1.1.Six,U y1.1.Hi,U y1.1.Lo]) [.box 25 (fQ y1.2),.box 39 [B false,U 0,U 0]] C (Lcr hy1) E Z E E E E E E E E E E<|Kmi hΓ E E E Z<|Kmn hΓ E E E E E E E E Z<|Keg [.box 25 (fQ y1.2),.box 39 [B false,U 0,U 0],.box 39 [B y1.1.Six,U y1.1.Hi,U y1.1.Lo]] E<|bK h2 fun y3 hy3 h4=>gO 6 E<|Kdx [0] (B y3.1) [.box 25 (fQ y3.2),.box 39 [B false,U 0,U 0],.box 39 [B y1.1.Six,U y1.1.Hi,U y1.1.Lo]] C (Lcl hy3) E Z E E E E E E E E E E<|gO 2 E<|jC E h4 (fun h5=>?_) fun h12=>gA 5 E<|Kmn hΓ E E E E E E E E Z<|Keg [.box 25 (fQ y3.2),.box 39 [B y1.1.Six,U y1.1.Hi,U y1.1.Lo],.box 39 [B y1.1.Six,U y1.1.Hi,U y1.1.Lo]] E<|gO 3 E<|oSi h12▸Ken hΓ [_,_] (.inr E) E E E E (.inr ⟨HB.mk E,E⟩)
 exact bK h5 fun y6 hy6 h7=>gA 3 E<|Kdx [0] (I y6.1) [.box 25 (fQ y6.2),.box 39 [B false,U 0,U 0],.box 39 [B y1.1.Six,U y1.1.Hi,U y1.1.Lo]] C (Lck hy6) E Z E E E E E E E E E E<|gO 1 E<|Kdt hΓ (enc:=(eN .u64)) [4294967296,5,1099511627776] E E E E E E E E E E E E Z<|bK h7 fun y8 hy8 h9=>gO 1 E<|Kdx [0] (I y8.1) [.box 25 (fQ y8.2),.box 39 [B false,U 0,U 0],.box 39 [B y1.1.Six,U y1.1.Hi,U y1.1.Lo]] C (Lck hy8) E Z E E E E E E E E E E<|bK h9 fun x10 hx10 h11=>eo_o E (Kdi hΓ (enc:=(eN .u64)) hx10 E E E E E (fun _=>E))<|gO 1 E<|Kau hΓ (gs:=[B false,U (IntKind.u64.wrap (y6.1)),U x10]) E E E E E E E<|Kmn hΓ E E E E E E E E Z<|Keg [.box 25 (fQ y8.2),.box 39 [B false,U (IntKind.u64.wrap (y6.1)),U x10],.box 39 [B y1.1.Six,U y1.1.Hi,U y1.1.Lo]] E<|gO 4 E<|oSi h11▸Ken hΓ [_,_] (.inr E) E E E E (.inr ⟨HB.mk E,E⟩)
theorem Lct{s:Kxz}{low:Int}{high:Int}{r:Int×Kxz}(h:Kyn s low high=some r):EC Tryz.prog 52 [.ptr 0 0,I low,I high] [.box 25 (fQ s)] fun g hp'=>g=I r.1∧hp'=[.box 25 (fQ r.2)]:=by
 unfold Kyn at h
 refine QN Tryz.func52 E Z<|bK h fun y1 hy1 h2=>gA 9 E<|Kdx [0] (B y1.1) [.box 25 (fQ y1.2)] C (Lcl hy1) E Z E E E E E E E E E E<|gO 2 E<|jC E h2 (fun h3=>?_) fun h6=>bK h6 fun y7 hy7 h8=>gA 7 E<|Kdx [0] (I y7.1) [.box 25 (fQ y7.2)] C (Lcn hy7) E Z E E E E E E E E E E<|gO 4 E<|oSi h8▸Ken hΓ [] (.inr E) E E E E (.inl E)
 exact gA 9 E<|Kdt hΓ (enc:=(eN .i64)) [wi (low - 1),wi (high+1),low,high,-1099511627776,1099511627776] E E E E E E E E E E E E Z<|bK h3 fun y4 hy4 h5=>Kdx [0] (I y4.1) [.box 25 (fQ y4.2)] C (Lcm hy4) E Z E E E E E E E E E E<|gO 5 E<|oSi h5▸Ken hΓ [] (.inr E) E E E E (.inl E)
theorem Lcu{s:Kxz}{name:Str}{r:Kyb×Kxz}(h:Kyo s name=some r):EC Tryz.prog 76 [.ptr 0 0,S name] [.box 25 (fQ s)] fun g hp'=>g=.agg [S r.1.Name,I r.1.Kind,B r.1.Addr.Six,U r.1.Addr.Hi,U r.1.Addr.Lo,S r.1.To,S r.1.Words,I r.1.Life]∧hp'=[.box 25 (fQ r.2)]:=by
 unfold Kyo at h
 refine QN Tryz.func76 E Z<|gA 2 E<|Kmi hΓ E E E Z<|gO 6 E<|Kdt hΓ (enc:=(eN .i64)) [0,5,60,1000000] E E E E E E E E E E E E Z<|bK h fun y1 hy1 h2=>Kdx [0] (I y1.1) [.box 25 (fQ y1.2),.box 80 [S [],I 0,B false,U 0,U 0,S [],S [],I 0]] C (Lcm hy1) E Z E E E E E E E E E E<|Kau hΓ (gs:=[S name,I 0,B false,U 0,U 0,S [],S [],I y1.1]) E E E E E E E<|Kmi hΓ E E E Z<|Kmn hΓ E E E E E E E E Z<|Keg [.box 25 (fQ y1.2),.box 80 [S [],I 0,B false,U 0,U 0,S [],S [],I 0],.box 80 [S name,I 0,B false,U 0,U 0,S [],S [],I y1.1]] E<|bK h2 fun y3 hy3 h4=>gO 6 E<|Kdx [0] (I y3.1) [.box 25 (fQ y3.2),.box 80 [S [],I 0,B false,U 0,U 0,S [],S [],I 0],.box 80 [S name,I 0,B false,U 0,U 0,S [],S [],I y1.1]] C (Lck hy3) E Z E E E E E E E E E E<|bK h4 fun q5 hq5 h6=>gO 2 E<|Khe [(0,.ptr 0 0),(4,.ptr 1 0),(5,.ptr 2 0)] [.box 25 (fQ q5.1),.box 80 [S [],I 0,B false,U 0,U 0,S [],S [],I 0],.box 80 [S q5.2.Name,I q5.2.Kind,B q5.2.Addr.Six,U q5.2.Addr.Hi,U q5.2.Addr.Lo,S q5.2.To,S q5.2.Words,I q5.2.Life]] ?_ ?_
 ·refine bK hq5 fun q7 hq7 h8=>gA 8 E<|Khe [(0,.ptr 0 0),(4,.ptr 1 0),(5,.ptr 2 0),(12,I y3.1),(18,B q7)] [.box 25 (fQ y3.2),.box 80 [S [],I 0,B false,U 0,U 0,S [],S [],I 0],.box 80 [S name,I 0,B false,U 0,U 0,S [],S [],I y1.1]] ?_ ?_
  ·refine jC E hq7 (fun h9=>?_) fun h10=>gA 4 E<|oSi h10▸⟨⟨E,E,E,E,E,tV⟩,[],E,.inl E⟩
   exact gA 1 E<|oSi h9▸⟨⟨E,E,E,E,E,tV⟩,[],E,.inl E⟩
  refine gA 1 E<|jC E h8 (fun h11=>?_) fun h16=>gA 6 E<|jC E h16 (fun h17=>?_) fun h22=>?_
  ·exact bK h11 fun y12 hy12 h13=>gA 2 E<|Kdx [0] (I y12.1) [.box 25 (fQ y12.2),.box 80 [S [],I 0,B false,U 0,U 0,S [],S [],I 0],.box 80 [S name,I 0,B false,U 0,U 0,S [],S [],I y1.1]] C (Lcn hy12) E Z E E E E E E E E E E<|bK h13 fun y14 hy14 h15=>Kdy C (Lco hy14) E Z E E E E E<|gO 1 E<|Kmn hΓ E E E E E E E E Z<|Keg [.box 25 (fQ y12.2),.box 80 [S [],I 0,B false,U 0,U 0,S [],S [],I 0],.box 80 [S name,I 1,B false,U 0,U 0,S [],S [],I y1.1]] E<|gO 1 E<|Kmn hΓ E E E E E E E E Z<|Keg [.box 25 (fQ y12.2),.box 80 [S [],I 0,B false,U 0,U 0,S [],S [],I 0],.box 80 [S name,I 1,B y14.Six,U y14.Hi,U y14.Lo,S [],S [],I y1.1]] E<|gO 2 E<|oSi h15▸⟨⟨E,E,E,tV⟩,[],E,.inl E⟩
  ·exact bK h17 fun y18 hy18 h19=>gA 2 E<|Kdx [0] (I y18.1) [.box 25 (fQ y18.2),.box 80 [S [],I 0,B false,U 0,U 0,S [],S [],I 0],.box 80 [S name,I 0,B false,U 0,U 0,S [],S [],I y1.1]] C (Lcn hy18) E Z E E E E E E E E E E<|bK h19 fun y20 hy20 h21=>Kdy C (Lcp hy20) E Z E E E E E<|gO 1 E<|Kmn hΓ E E E E E E E E Z<|Keg [.box 25 (fQ y18.2),.box 80 [S [],I 0,B false,U 0,U 0,S [],S [],I 0],.box 80 [S name,I 28,B false,U 0,U 0,S [],S [],I y1.1]] E<|gO 1 E<|Kmn hΓ E E E E E E E E Z<|Keg [.box 25 (fQ y18.2),.box 80 [S [],I 0,B false,U 0,U 0,S [],S [],I 0],.box 80 [S name,I 28,B y20.Six,U y20.Hi,U y20.Lo,S [],S [],I y1.1]] E<|gO 2 E<|oSi h21▸⟨⟨E,E,E,tV⟩,[],E,.inl E⟩
  refine gA 6 E<|jC E h22 (fun h23=>?_) fun h26=>gA 6 E<|jC E h26 (fun h27=>?_) fun h30=>?_
  ·exact gA 2 E<|Kdt hΓ (enc:=eS) [[],[104,105],[97,32,98],[118,61,49]] E E E E E E E E E E E E Z<|bK h23 fun y24 hy24 h25=>Kdx [0] (S y24.1) [.box 25 (fQ y24.2),.box 80 [S [],I 0,B false,U 0,U 0,S [],S [],I 0],.box 80 [S name,I 0,B false,U 0,U 0,S [],S [],I y1.1]] C (Lcq hy24) E Z E E E E E E E E E E<|gO 1 E<|Kmn hΓ E E E E E E E E Z<|Keg [.box 25 (fQ y24.2),.box 80 [S [],I 0,B false,U 0,U 0,S [],S [],I 0],.box 80 [S name,I 16,B false,U 0,U 0,S [],S [],I y1.1]] E<|gO 1 E<|Kmn hΓ E E E E E E E E Z<|Keg [.box 25 (fQ y24.2),.box 80 [S [],I 0,B false,U 0,U 0,S [],S [],I 0],.box 80 [S name,I 16,B false,U 0,U 0,S [],S y24.1,I y1.1]] E<|gO 2 E<|oSi h25▸⟨⟨E,E,E,tV⟩,[],E,.inl E⟩
  ·exact gA 2 E<|Kdt hΓ (enc:=eS) [[97,46,110,101,116,46,120],[98,46,110,101,116,46,120]] E E E E E E E E E E E E Z<|bK h27 fun y28 hy28 h29=>Kdx [0] (S y28.1) [.box 25 (fQ y28.2),.box 80 [S [],I 0,B false,U 0,U 0,S [],S [],I 0],.box 80 [S name,I 0,B false,U 0,U 0,S [],S [],I y1.1]] C (Lcq hy28) E Z E E E E E E E E E E<|gO 1 E<|Kmn hΓ E E E E E E E E Z<|Keg [.box 25 (fQ y28.2),.box 80 [S [],I 0,B false,U 0,U 0,S [],S [],I 0],.box 80 [S name,I 12,B false,U 0,U 0,S [],S [],I y1.1]] E<|gO 1 E<|Kmn hΓ E E E E E E E E Z<|Keg [.box 25 (fQ y28.2),.box 80 [S [],I 0,B false,U 0,U 0,S [],S [],I 0],.box 80 [S name,I 12,B false,U 0,U 0,S y28.1,S [],I y1.1]] E<|gO 2 E<|oSi h29▸⟨⟨E,E,E,tV⟩,[],E,.inl E⟩
  exact gA 2 E<|Kdt hΓ (enc:=eS) [[97,46,110,101,116,46,120],[98,46,110,101,116,46,120],[99,46,110,101,116,46,120],[113,46,108,97,98,46,110,101,116,46,120],[100,46,110,101,116,46,120],[111,116,104,101,114]] E E E E E E E E E E E E Z<|bK h30 fun y31 hy31 h32=>Kdx [0] (S y31.1) [.box 25 (fQ y31.2),.box 80 [S [],I 0,B false,U 0,U 0,S [],S [],I 0],.box 80 [S name,I 0,B false,U 0,U 0,S [],S [],I y1.1]] C (Lcq hy31) E Z E E E E E E E E E E<|gO 1 E<|Kmn hΓ E E E E E E E E Z<|Keg [.box 25 (fQ y31.2),.box 80 [S [],I 0,B false,U 0,U 0,S [],S [],I 0],.box 80 [S name,I 5,B false,U 0,U 0,S [],S [],I y1.1]] E<|gO 1 E<|Kmn hΓ E E E E E E E E Z<|Keg [.box 25 (fQ y31.2),.box 80 [S [],I 0,B false,U 0,U 0,S [],S [],I 0],.box 80 [S name,I 5,B false,U 0,U 0,S y31.1,S [],I y1.1]] E<|gO 2 E<|oSi h32▸⟨⟨E,E,E,tV⟩,[],E,.inl E⟩
 refine bK h6 fun y33 hy33 h34=>gA 5 E<|Kdx [0] (B y33.1) [.box 25 (fQ y33.2),.box 80 [S [],I 0,B false,U 0,U 0,S [],S [],I 0],.box 80 [S q5.2.Name,I q5.2.Kind,B q5.2.Addr.Six,U q5.2.Addr.Hi,U q5.2.Addr.Lo,S q5.2.To,S q5.2.Words,I q5.2.Life]] C (Lcl hy33) E Z E E E E E E E E E E<|bK h34 fun q35 hq35 h36=>gO 2 E<|Khe [(4,.ptr 1 0),(5,.ptr 2 0)] [.box 25 (fQ q35.1),.box 80 [S [],I 0,B false,U 0,U 0,S [],S [],I 0],.box 80 [S q35.2.Name,I q35.2.Kind,B q35.2.Addr.Six,U q35.2.Addr.Hi,U q35.2.Addr.Lo,S q35.2.To,S q35.2.Words,I q35.2.Life]] ?_ ?_
 ·refine jC E hq35 (fun h37=>?_) fun h56=>gA 1 E<|oSi h56▸⟨⟨E,E,tV⟩,[],E,.inl E⟩
  refine bK h37 fun y38 hy38 h39=>gA 3 E<|Kdx [0] (I y38.1) [.box 25 (fQ y38.2),.box 80 [S [],I 0,B false,U 0,U 0,S [],S [],I 0],.box 80 [S q5.2.Name,I q5.2.Kind,B q5.2.Addr.Six,U q5.2.Addr.Hi,U q5.2.Addr.Lo,S q5.2.To,S q5.2.Words,I q5.2.Life]] C (Lck hy38) E Z E E E E E E E E E E<|gO 9 E<|jC E h39 (fun h40=>?_) fun h43=>gA 6 E<|jC E h43 (fun h44=>?_) fun h47=>?_
  ·exact gA 2 E<|Kdt hΓ (enc:=(eN .i64)) [0,2,5] E E E E E E E E E E E E Z<|bK h40 fun y41 hy41 h42=>Kdx [0] (I y41.1) [.box 25 (fQ y41.2),.box 80 [S [],I 0,B false,U 0,U 0,S [],S [],I 0],.box 80 [S q5.2.Name,I q5.2.Kind,B q5.2.Addr.Six,U q5.2.Addr.Hi,U q5.2.Addr.Lo,S q5.2.To,S q5.2.Words,I q5.2.Life]] C (Lcm hy41) E Z E E E E E E E E E E<|gO 1 E<|Kmn hΓ E E E E E E E E Z<|Keg [.box 25 (fQ y41.2),.box 80 [S [],I 0,B false,U 0,U 0,S [],S [],I 0],.box 80 [S q5.2.Name,I y41.1,B q5.2.Addr.Six,U q5.2.Addr.Hi,U q5.2.Addr.Lo,S q5.2.To,S q5.2.Words,I q5.2.Life]] E<|gO 2 E<|oSi h42▸⟨⟨E,E,tV⟩,[],E,.inl E⟩
  ·exact bK h44 fun y45 hy45 h46=>gA 2 E<|Kdx [0] (.agg [B y45.1.Six,U y45.1.Hi,U y45.1.Lo]) [.box 25 (fQ y45.2),.box 80 [S [],I 0,B false,U 0,U 0,S [],S [],I 0],.box 80 [S q5.2.Name,I q5.2.Kind,B q5.2.Addr.Six,U q5.2.Addr.Hi,U q5.2.Addr.Lo,S q5.2.To,S q5.2.Words,I q5.2.Life]] C (Lcs hy45) E Z E E E E E E E E E E<|gO 1 E<|Kmn hΓ E E E E E E E E Z<|Keg [.box 25 (fQ y45.2),.box 80 [S [],I 0,B false,U 0,U 0,S [],S [],I 0],.box 80 [S q5.2.Name,I q5.2.Kind,B y45.1.Six,U y45.1.Hi,U y45.1.Lo,S q5.2.To,S q5.2.Words,I q5.2.Life]] E<|gO 2 E<|oSi h46▸⟨⟨E,E,tV⟩,[],E,.inl E⟩
  refine gA 6 E<|jC E h47 (fun h48=>?_) fun h51=>gA 2 E<|Kdt hΓ (enc:=eS) [[32,120],[97,10,98],[],[121]] E E E E E E E E E E E E Z<|bK h51 fun y52 hy52 h53=>Kdx [0] (S y52.1) [.box 25 (fQ y52.2),.box 80 [S [],I 0,B false,U 0,U 0,S [],S [],I 0],.box 80 [S q5.2.Name,I q5.2.Kind,B q5.2.Addr.Six,U q5.2.Addr.Hi,U q5.2.Addr.Lo,S q5.2.To,S q5.2.Words,I q5.2.Life]] C (Lcq hy52) E Z E E E E E E E E E E<|bK h53 fun y54 hy54 h55=>gO 1 E<|Kdx [0] (I y54.1) [.box 25 (fQ y54.2),.box 80 [S [],I 0,B false,U 0,U 0,S [],S [],I 0],.box 80 [S q5.2.Name,I q5.2.Kind,B q5.2.Addr.Six,U q5.2.Addr.Hi,U q5.2.Addr.Lo,S q5.2.To,S q5.2.Words,I q5.2.Life]] C (Lct hy54) E Z E E E E E E E E E E<|gO 1 E<|Kmn hΓ E E E E E E E E Z<|Keg [.box 25 (fQ y54.2),.box 80 [S [],I 0,B false,U 0,U 0,S [],S [],I 0],.box 80 [S q5.2.Name,I q5.2.Kind,B q5.2.Addr.Six,U q5.2.Addr.Hi,U q5.2.Addr.Lo,S q5.2.To,S y52.1,I q5.2.Life]] E<|gO 1 E<|Kmn hΓ E E E E E E E E Z<|Keg [.box 25 (fQ y54.2),.box 80 [S [],I 0,B false,U 0,U 0,S [],S [],I 0],.box 80 [S q5.2.Name,I q5.2.Kind,B q5.2.Addr.Six,U q5.2.Addr.Hi,U q5.2.Addr.Lo,S q5.2.To,S y52.1,I y54.1]] E<|gO 2 E<|oSi h55▸⟨⟨E,E,tV⟩,[],E,.inl E⟩
  exact gA 2 E<|Kdt hΓ (enc:=eS) [[],[65],[120]] E E E E E E E E E E E E Z<|bK h48 fun y49 hy49 h50=>Kdx [0] (S y49.1) [.box 25 (fQ y49.2),.box 80 [S [],I 0,B false,U 0,U 0,S [],S [],I 0],.box 80 [S q5.2.Name,I q5.2.Kind,B q5.2.Addr.Six,U q5.2.Addr.Hi,U q5.2.Addr.Lo,S q5.2.To,S q5.2.Words,I q5.2.Life]] C (Lcq hy49) E Z E E E E E E E E E E<|gO 1 E<|Kmn hΓ E E E E E E E E Z<|Keg [.box 25 (fQ y49.2),.box 80 [S [],I 0,B false,U 0,U 0,S [],S [],I 0],.box 80 [S q5.2.Name,I q5.2.Kind,B q5.2.Addr.Six,U q5.2.Addr.Hi,U q5.2.Addr.Lo,S y49.1,S q5.2.Words,I q5.2.Life]] E<|gO 2 E<|oSi h50▸⟨⟨E,E,tV⟩,[],E,.inl E⟩
 exact gA 4 E<|Kmn hΓ E E E E E E E E Z<|Keg [.box 25 (fQ q35.1),.box 80 [S q35.2.Name,I q35.2.Kind,B q35.2.Addr.Six,U q35.2.Addr.Hi,U q35.2.Addr.Lo,S q35.2.To,S q35.2.Words,I q35.2.Life],.box 80 [S q35.2.Name,I q35.2.Kind,B q35.2.Addr.Six,U q35.2.Addr.Hi,U q35.2.Addr.Lo,S q35.2.To,S q35.2.Words,I q35.2.Life]] E<|gO 3 E<|oSi h36▸Ken hΓ [_,_] (.inr E) E E E E (.inr ⟨HB.mk E,E⟩)
theorem Lcv{x:Int}{r:Bool}(h:Kyp x=some r):Pure Tryz.prog 226 [I x] (B r):=by
 unfold Kyp at h
 exact QP Tryz.func226 E E E<|gA 14 E<|oSi h▸gP E E
theorem Lcw{x:Int}{y:Int}{r:Int}(h:Kyq x y=some r):Pure Tryz.prog 139 [I x,I y] (I r):=by
 unfold Kyq at h
 refine QP Tryz.func139 E E E<|bK h fun y1 hy1 h2=>gA 8 E<|Kdy C (Lcv hy1) E Z E E E E E<|bK h2 fun y3 hy3 h4=>gO 6 E<|Kdy C (Lcv hy3) E Z E E E E E<|gO 9 E<|jC E h4 (fun h5=>?_) fun h8=>gA 8 E<|jC E h8 (fun h9=>?_) fun h10=>?_
 ·refine gA 6 E<|jC E h5 (fun h6=>?_) fun h7=>gA 9 E<|oSi h7▸gP E E
  exact gA 8 E<|oSi h6▸gP E E
 ·exact gA 7 E<|oSi h9▸gP E E
 refine gA 10 E<|jC E h10 (fun h11=>?_) fun h12=>gA 10 E<|jC E h12 (fun h13=>?_) fun h14=>?_
 ·exact gA 7 E<|oSi h11▸gP E E
 ·exact gA 7 E<|oSi h13▸gP E E
 exact gA 8 E<|oSi h14▸gP E E
theorem Lcx{s1:List Int}{s2:List Int}{r:Int}(h:Kyr s1 s2=some r):Pure Tryz.prog 79 [.d (Sl (eN .i64) s1),.d (Sl (eN .i64) s2)] (I r):=by
 unfold Kyr at h
 refine QP Tryz.func79 E E E<|gA 13 E<|bK h fun q5 hq5 h6=>Kdh 0 E fun hb8=>Khd (R:=fun a7=>q5=.go a7) (fun a7=>[(0,.d (Sl (eN .i64) s1)),(1,.d (Sl (eN .i64) s2))]) (fun a7=>[]) ?_ ?_
 ·refine gA 1 E<|Kdg s1 hq5 (fun i1 s3=>[(0,.d (Sl (eN .i64) s1)),(1,.d (Sl (eN .i64) s2)),(9,.d (Sl (eN .i64) s1)),(10,I (s1.length:Int)),(11,I (i1:Int))]) (fun s3=>[]) ⟨⟨E,E,E,E,E,tV⟩,[],E,.inl E⟩ (fun i1 x4 s3 y12 hx9 hlt hy10 hout11=>?_) (fun s3 hgo=>?_)
  ·refine gA 6 E<|Kcs E (dT (Int.ofNat_lt.2 hlt))<|gA 7 E<|eo_o E (Kdi hΓ (enc:=(eN .i64)) (Kdb hx9) E E E E E (fun _=>E))<|gO 14 E<|jC E hy10 (fun h13=>?_) fun h16=>bK h16 fun x17 hx17 h18=>gA 6 E<|eo_o E (Kdi hΓ (enc:=(eN .i64)) hx17 E E E E E (fun _=>E))<|bK h18 fun y19 hy19 h20=>gO 8 E<|Kdy C (Lcw hy19) E Z E E E E E<|gO 9 E<|jC E h20 (fun h21=>?_) fun h24=>?_
   ·refine gA 9 E<|bK h13 fun v14 hv14 h15=>?_
    cases h15
    obtain rfl:=hout11 _ rfl
    cases h6
    exact gA 4 E<|oSi hv14▸gP E E
   ·refine gA 9 E<|bK h21 fun v22 hv22 h23=>?_
    cases h23
    obtain rfl:=hout11 _ rfl
    cases h6
    exact gA 4 E<|oSi hv22▸gP E E
   refine gA 7 E ?_
   cases h24
   exact⟨_,E,⟨⟨E,E,E,E,Kbx E (Kbw (nLl hlt hb8)),tV⟩,[],E,.inl E⟩⟩
  subst hgo
  exact gA 6 E<|Kct E (dF (Int.lt_irrefl _))<|gA 4 E<|⟨_,E,⟨⟨E,E,tV⟩,[],E,.inl E⟩⟩
 intro a7 ha
 subst ha
 replace h6:=Kgy h6
 refine gA 11 E<|jC E h6 (fun h25=>?_) fun h26=>gA 8 E<|oSi h26▸gP E E
 exact gA 7 E<|oSi h25▸gP E E
theorem Lcy{a:Kyb}{b:Kyb}{r:Int}(h:Kys a b=some r):Pure Tryz.prog 78 [.agg [S a.Name,I a.Kind,B a.Addr.Six,U a.Addr.Hi,U a.Addr.Lo,S a.To,S a.Words,I a.Life],.agg [S b.Name,I b.Kind,B b.Addr.Six,U b.Addr.Hi,U b.Addr.Lo,S b.To,S b.Words,I b.Life]] (I r):=by
 unfold Kys at h
 exact QP Tryz.func78 E E E<|gA 2 E<|Kmj E E E E Z<|Kmj E E E E Z<|gO 11 E<|Kdt hΓ (enc:=(eN .i64)) [a.Kind,wi (a.Addr.Lo)] E E E E E E E E E E E E Z<|gO 6 E<|Kdt hΓ (enc:=(eN .i64)) [b.Kind,wi (b.Addr.Lo)] E E E E E E E E E E E E Z<|bK h fun y1 hy1 h2=>Kdy C (Lcx hy1) E Z E E E E E<|gO 4 E<|oSi h2▸gP E E
theorem Lcz{k:Nat}{data:List Kyb}{a:Int}{b:Int}{r:List Kyb}(h:Kyt k data a b=some r):EC Tryz.prog 246 [.sl 0 data.length,I a,I b,.fn (.func 78) [] []] [rO 80 8 Lch data] fun g hp'=>g=.tup []∧hp'=[rO 80 8 Lch r]:=by
 unfold Kyt at h
 refine QN Tryz.func246 E Z<|gA 7 E<|bK h fun q4 hq4 h5=>Khe [] [rO 80 8 Lch q4] ?_ ?_
 ·refine gA 1 E<|Kde hq4 (fun s2=>[(0,.sl 0 s2.1.length),(1,I a),(2,I b),(3,.fn (.func 78) [] []),(8,I s2.2)]) (fun s2=>[rO 80 8 Lch s2.1]) ⟨⟨E,E,E,E,E,tV⟩,[],E,.inl E⟩ (fun s2 y10 hy8 hout9=>?_)
  refine gA 8 E<|jC E hy8 (fun h11=>?_) fun h51=>gA 4 E ?_
  ·refine gA 10 E<|bK h11 fun q15 hq15 h16=>Khe [(0,.sl 0 q15.length),(1,I a),(2,I b),(3,.fn (.func 78) [] []),(8,I s2.2)] [rO 80 8 Lch q15] ?_ ?_
   ·refine gA 1 E<|Kde hq15 (fun s13=>[(0,.sl 0 s13.1.length),(1,I a),(2,I b),(3,.fn (.func 78) [] []),(8,I s2.2),(9,I s13.2)]) (fun s13=>[rO 80 8 Lch s13.1]) ⟨⟨E,E,E,E,E,E,tV⟩,[],E,.inl E⟩ (fun s13 y21 hy19 hout20=>?_)
    refine bK hy19 fun q22 hq22 h23=>gA 2 E<|Khe [(0,.sl 0 s13.1.length),(1,I a),(2,I b),(3,.fn (.func 78) [] []),(8,I s2.2),(9,I s13.2),(34,B q22)] [rO 80 8 Lch s13.1] ?_ ?_
    ·refine jD<|gA 4 E<|Kbe E E (fun hb=>?_) (fun hb=>?_)
     ·have h24:=cT hq22 hb
      refine bK h24 fun x25 hx25 h26=>?_
      have hj27:=Kes hx25
      refine Kcp hΓ 3 E<|Kbz E E (Kdk hΓ hx25 E E E E E E)<|Kbz E E (Kdq hΓ (enc:=Lch) s13.2.toNat 0 hj27 E E E E (fun _=>E) (g:=.agg [S x25.Name,I x25.Kind,B x25.Addr.Six,U x25.Addr.Hi,U x25.Addr.Lo,S x25.To,S x25.Words,I x25.Life]) E)<|bK h26 fun x28 hx28 h29=>?_
      have hj30:=Kes hx28
      exact Kcp hΓ 3 E<|Kbz E E (Kdk hΓ hx28 E E E E E E)<|Kbz E E (Kdq hΓ (enc:=Lch) ((wi (s13.2 - 1)).toNat) 0 hj30 E E E E (fun _=>E) (g:=.agg [S x28.Name,I x28.Kind,B x28.Addr.Six,U x28.Addr.Hi,U x28.Addr.Lo,S x28.To,S x28.Words,I x28.Life]) E)<|bK h29 fun y31 hy31 h32=>Kea C (Lcy hy31) E E E E E E E<|Kcp hΓ 3 E<|oSi h32▸⟨⟨E,E,E,E,E,E,E,tV⟩,[],E,.inl E⟩
     have h33:=cF hq22 hb
     exact Kcp hΓ 14 E<|oSi h33▸⟨⟨E,E,E,E,E,E,E,tV⟩,[],E,.inl E⟩
    refine gA 1 E<|jC E h23 (fun h34=>?_) fun h50=>gA 4 E ?_
    ·refine gA 4 E<|Kge [rO 80 8 Lch s13.1] [9,13] [15,17] [15,17] hmix (by kernel_rfl) (by kernel_rfl) ⟨E,tV⟩ Z<|bK h34 fun x35 hx35 h36=>?_
     have hj37:=Kes hx35
     refine go_E hΓ 8 E<|ge_q E (.inl E) (fun _ _=>Kgg (qt_p (Kdk hΓ hx35 E E E E E E)))<|ge_p E (fun hp hs=>Kdq hΓ (enc:=Lch) ((wi (s13.2 - 1)).toNat) 0 hj37 E E E (hs 0 _ E E) (fun _=>E) (g:=.agg [S x35.Name,I x35.Kind,B x35.Addr.Six,U x35.Addr.Hi,U x35.Addr.Lo,S x35.To,S x35.Words,I x35.Life]) E) E<|bK h36 fun x38 hx38 h39=>?_
     have hj40:=Kes hx38
     refine go_E hΓ 2 E<|ge_q E (.inl E) (fun _ _=>Kgg (qt_p (Kdk hΓ hx38 E E E E E E)))<|ge_p E (fun hp hs=>Kdq hΓ (enc:=Lch) s13.2.toNat 0 hj40 E E E (hs 0 _ E E) (fun _=>E) (g:=.agg [S x38.Name,I x38.Kind,B x38.Addr.Six,U x38.Addr.Hi,U x38.Addr.Lo,S x38.To,S x38.Words,I x38.Life]) E) E<|bK h39 fun x41 hx41 h42=>?_
     have hj43:=Kes hx41
     refine ge_q E (.inl E) (fun _ _=>Kgg (qt_p (Kdk hΓ hx41 E E E E E E)))<|Kgk [rO 80 8 Lch (s13.1.set s13.2.toNat x35)] E E (Kgl E) (Kgq (Khr hΓ (enc:=Lch) (z':=x35) s13.2.toNat (by have:=(gEs.1 hj43).1;simpa using this) E E E E (fun _=>E) E E E E E)) ?_
     refine bK h42 fun x44 hx44 h45=>?_
     have hj46:=Kes hx44
     refine ge_q E (.inl E) (fun _ _=>Kgg (qt_p (Kdk hΓ hx44 E E E E E E)))<|bK h45 fun x47 hx47 h48=>?_
     have hj49:(s13.1.set s13.2.toNat x35)[(wi (s13.2 - 1)).toNat]?=some x47:=hx47
     refine Kgk [rO 80 8 Lch ((s13.1.set s13.2.toNat x35).set ((wi (s13.2 - 1)).toNat) x38)] E E (Kgl E) (Kgq (Khr hΓ (enc:=Lch) (z':=x38) ((wi (s13.2 - 1)).toNat) (by have:=(gEs.1 hj49).1;simpa using this) E E E E (fun _=>E) E E E E E)) ?_
     refine Kgf<|gA 2 E<|Khs 0 (n':=((s13.1.set s13.2.toNat x35).set ((wi (s13.2 - 1)).toNat) x38).length) E (by simp) ?_
     refine Khs 37 (n':=((s13.1.set s13.2.toNat x35).set ((wi (s13.2 - 1)).toNat) x38).length) E (by simp) ?_
     refine Khs 39 (n':=((s13.1.set s13.2.toNat x35).set ((wi (s13.2 - 1)).toNat) x38).length) E (by simp) ?_
     refine Khs 42 (n':=((s13.1.set s13.2.toNat x35).set ((wi (s13.2 - 1)).toNat) x38).length) E (by simp) ?_
     refine Khs 47 (n':=((s13.1.set s13.2.toNat x35).set ((wi (s13.2 - 1)).toNat) x38).length) E (by simp) ?_
     exact gA 5 E<|oSi h48▸⟨_,E,⟨⟨E,E,E,E,E,E,tV⟩,[],E,.inl E⟩⟩
    cases h50
    obtain rfl:=hout20 _ rfl
    exact⟨⟨E,E,E,E,E,tV⟩,[],E,.inl E⟩
   exact gA 7 E<|oSi h16▸⟨_,E,⟨⟨E,E,E,E,E,tV⟩,[],E,.inl E⟩⟩
  cases h51
  obtain rfl:=hout9 _ rfl
  exact⟨tV,[],E,.inl E⟩
 exact oSi h5▸Ken hΓ [] (.inl E) E E E E (.inl E)
theorem Lda{k:Nat}{data:List Kyb}{a:Int}{b:Int}{n:Int}{r:List Kyb}(h:Kyu k data a b n=some r):EC Tryz.prog 353 [.sl 0 data.length,I a,I b,I n,.fn (.func 78) [] []] [rO 80 8 Lch data] fun g hp'=>g=.tup []∧hp'=[rO 80 8 Lch r]:=by
 unfold Kyu at h
 refine QN Tryz.func353 E Z<|gA 5 E<|bK h fun q4 hq4 h5=>Khe [] [rO 80 8 Lch q4] ?_ ?_
 ·refine gA 1 E<|Kde hq4 (fun s2=>[(0,.sl 0 s2.1.length),(1,I a),(2,I b),(3,I n),(10,I s2.2)]) (fun s2=>[rO 80 8 Lch s2.1]) ⟨⟨E,E,E,E,E,tV⟩,[],E,.inl E⟩ (fun s2 y10 hy8 hout9=>?_)
  refine gA 8 E<|jC E hy8 (fun h11=>?_) fun h27=>gA 4 E ?_
  ·refine gA 4 E<|Kge [rO 80 8 Lch s2.1] [13,19] [21,23] [21,23] hmix (by kernel_rfl) (by kernel_rfl) ⟨E,tV⟩ Z<|bK h11 fun x12 hx12 h13=>?_
   have hj14:=Kes hx12
   refine go_E hΓ 12 E<|ge_q E (.inl E) (fun _ _=>Kgg (qt_p (Kdk hΓ hx12 E E E E E E)))<|ge_p E (fun hp hs=>Kdq hΓ (enc:=Lch) ((wi (b+s2.2)).toNat) 0 hj14 E E E (hs 0 _ E E) (fun _=>E) (g:=.agg [S x12.Name,I x12.Kind,B x12.Addr.Six,U x12.Addr.Hi,U x12.Addr.Lo,S x12.To,S x12.Words,I x12.Life]) E) E<|bK h13 fun x15 hx15 h16=>?_
   have hj17:=Kes hx15
   refine go_E hΓ 4 E<|ge_q E (.inl E) (fun _ _=>Kgg (qt_p (Kdk hΓ hx15 E E E E E E)))<|ge_p E (fun hp hs=>Kdq hΓ (enc:=Lch) ((wi (a+s2.2)).toNat) 0 hj17 E E E (hs 0 _ E E) (fun _=>E) (g:=.agg [S x15.Name,I x15.Kind,B x15.Addr.Six,U x15.Addr.Hi,U x15.Addr.Lo,S x15.To,S x15.Words,I x15.Life]) E) E<|bK h16 fun x18 hx18 h19=>?_
   have hj20:=Kes hx18
   refine ge_q E (.inl E) (fun _ _=>Kgg (qt_p (Kdk hΓ hx18 E E E E E E)))<|Kgk [rO 80 8 Lch (s2.1.set ((wi (a+s2.2)).toNat) x12)] E E (Kgl E) (Kgq (Khr hΓ (enc:=Lch) (z':=x12) ((wi (a+s2.2)).toNat) (by have:=(gEs.1 hj20).1;simpa using this) E E E E (fun _=>E) E E E E E)) ?_
   refine bK h19 fun x21 hx21 h22=>?_
   have hj23:=Kes hx21
   refine ge_q E (.inl E) (fun _ _=>Kgg (qt_p (Kdk hΓ hx21 E E E E E E)))<|bK h22 fun x24 hx24 h25=>?_
   have hj26:(s2.1.set ((wi (a+s2.2)).toNat) x12)[(wi (b+s2.2)).toNat]?=some x24:=hx24
   refine Kgk [rO 80 8 Lch ((s2.1.set ((wi (a+s2.2)).toNat) x12).set ((wi (b+s2.2)).toNat) x15)] E E (Kgl E) (Kgq (Khr hΓ (enc:=Lch) (z':=x15) ((wi (b+s2.2)).toNat) (by have:=(gEs.1 hj26).1;simpa using this) E E E E (fun _=>E) E E E E E)) ?_
   refine Kgf<|gA 2 E<|Khs 0 (n':=((s2.1.set ((wi (a+s2.2)).toNat) x12).set ((wi (b+s2.2)).toNat) x15).length) E (by simp) ?_
   refine Khs 16 (n':=((s2.1.set ((wi (a+s2.2)).toNat) x12).set ((wi (b+s2.2)).toNat) x15).length) E (by simp) ?_
   refine Khs 20 (n':=((s2.1.set ((wi (a+s2.2)).toNat) x12).set ((wi (b+s2.2)).toNat) x15).length) E (by simp) ?_
   refine Khs 24 (n':=((s2.1.set ((wi (a+s2.2)).toNat) x12).set ((wi (b+s2.2)).toNat) x15).length) E (by simp) ?_
   refine Khs 30 (n':=((s2.1.set ((wi (a+s2.2)).toNat) x12).set ((wi (b+s2.2)).toNat) x15).length) E (by simp) ?_
   exact gA 5 E<|oSi h25▸⟨_,E,⟨⟨E,E,E,E,E,tV⟩,[],E,.inl E⟩⟩
  cases h27
  obtain rfl:=hout9 _ rfl
  exact⟨tV,[],E,.inl E⟩
 exact oSi h5▸Ken hΓ [] (.inl E) E E E E (.inl E)
theorem Ldb{k:Nat}{data:List Kyb}{a:Int}{m:Int}{b:Int}{r:List Kyb}(h:Kyv k data a m b=some r):EC Tryz.prog 314 [.sl 0 data.length,I a,I m,I b,.fn (.func 78) [] []] [rO 80 8 Lch data] fun g hp'=>g=.tup []∧hp'=[rO 80 8 Lch r]:=by
 unfold Kyv at h
 refine QN Tryz.func314 E Z<|gA 17 E<|bK h fun q4 hq4 h5=>Khe [(0,.sl 0 q4.1.length),(2,I m),(4,.fn (.func 78) [] []),(10,I q4.2)] [rO 80 8 Lch q4.1] ?_ ?_
 ·refine gA 1 E<|Kde hq4 (fun s2=>[(0,.sl 0 s2.1.length),(2,I m),(4,.fn (.func 78) [] []),(10,I s2.2.1),(11,I s2.2.2)]) (fun s2=>[rO 80 8 Lch s2.1]) ⟨⟨E,E,E,E,E,tV⟩,[],E,.inl E⟩ (fun s2 y10 hy8 hout9=>?_)
  refine gA 8 E<|jC E hy8 (fun h11=>?_) fun h22=>gA 4 E ?_
  ·refine gA 10 E<|jC E h11 (fun h12=>?_) fun h17=>bK h17 fun y18 hy18 h19=>gA 13 E<|Kdx [0] (.tup []) [rO 80 8 Lch y18] C (Lda hy18) E Z E E E E E E E E E E<|gK h19 fun hg21 h20=>Kho 0 E (of_decide_eq_true hg21).symm<|gO 9 E<|oSi h20▸⟨_,E,⟨⟨E,E,E,E,E,tV⟩,[],E,.inl E⟩⟩
   exact bK h12 fun y13 hy13 h14=>gA 9 E<|Kdx [0] (.tup []) [rO 80 8 Lch y13] C (Lda hy13) E Z E E E E E E E E E E<|gK h14 fun hg16 h15=>Kho 0 E (of_decide_eq_true hg16).symm<|gO 9 E<|oSi h15▸⟨_,E,⟨⟨E,E,E,E,E,tV⟩,[],E,.inl E⟩⟩
  cases h22
  obtain rfl:=hout9 _ rfl
  exact⟨⟨E,E,E,E,tV⟩,[],E,.inl E⟩
 exact bK h5 fun y23 hy23 h24=>gA 9 E<|Kdx [0] (.tup []) [rO 80 8 Lch y23] C (Lda hy23) E Z E E E E E E E E E E<|gO 1 E<|oSi h24▸Ken hΓ [] (.inl E) E E E E (.inl E)
theorem Ldc{k:Nat}{data:List Kyb}{a:Int}{m:Int}{b:Int}{r:List Kyb}(h:Kyw k data a m b=some r):EC Tryz.prog 247 [.sl 0 data.length,I a,I m,I b,.fn (.func 78) [] []] [rO 80 8 Lch data] fun g hp'=>g=.tup []∧hp'=[rO 80 8 Lch r]:=by
 induction k generalizing data a m b r with
 | zero=>unfold Kyw at h;cases h
 | succ k ih0=>
  have ih:∀ {data:List Kyb} {a:Int} {m:Int} {b:Int} {r:List Kyb},Kyw k data a m b=some r→EC Tryz.prog 247 [.sl 0 data.length,I a,I m,I b,.fn (.func 78) [] []] [rO 80 8 Lch data] fun g hp'=>g=.tup []∧hp'=[rO 80 8 Lch r]:=by intro data a m b r h;first | exact ih0 h | exact ih0 _ _ _ _ _ h
  refine Kku (Fr.of 0 _) Tryz.func247 E (Fr.of_ok _) Z fun _=>?_
  refine Kcq ?_
  unfold Kyw at h
  refine gA 9 E ?_
  refine Kcr E (fun hb=>?_) (fun hb=>?_)
  ·have h1:=cT h hb
   refine gA 13 E ?_
   obtain⟨q5,hq5,h6⟩:=Kcy h1
   refine Khe [(0,.sl 0 data.length),(1,I a),(10,I q5)] [rO 80 8 Lch data] ?_ ?_
   ·refine gA 1 E ?_
    refine Kde hq5 (fun s3=>[(0,.sl 0 data.length),(1,I a),(4,.fn (.func 78) [] []),(10,I s3.1),(11,I s3.2)]) (fun s3=>[rO 80 8 Lch data]) ⟨⟨E,E,E,E,E,tV⟩,[],E,.inl E⟩ (fun s3 y11 hy9 hout10=>?_)
    refine gA 8 E ?_
    refine Kcr E (fun hb=>?_) (fun hb=>?_)
    ·have h12:=cT hy9 hb
     refine gA 15 E ?_
     refine jD ?_
     obtain⟨x13,hx13,h14⟩:=Kcy h12
     have hj15:=Kes hx13
     refine gA 3 E ?_
     refine gl_o E (Kdk hΓ hx13 E E E E E E) ?_
     refine gl_o E (Kdq hΓ (enc:=Lch) ((wi (shrV .u64 (IntKind.u64.wrap (wi (s3.1+s3.2))) 1)).toNat) 0 hj15 E E E E (fun _=>E) (g:=.agg [S x13.Name,I x13.Kind,B x13.Addr.Six,U x13.Addr.Hi,U x13.Addr.Lo,S x13.To,S x13.Words,I x13.Life]) E) ?_
     obtain⟨x16,hx16,h17⟩:=Kcy h14
     have hj18:=Kes hx16
     refine Kcp hΓ 2 E ?_
     refine gl_o E (Kdk hΓ hx16 E E E E E E) ?_
     refine gl_o E (Kdq hΓ (enc:=Lch) a.toNat 0 hj18 E E E E (fun _=>E) (g:=.agg [S x16.Name,I x16.Kind,B x16.Addr.Six,U x16.Addr.Hi,U x16.Addr.Lo,S x16.To,S x16.Words,I x16.Life]) E) ?_
     obtain⟨y19,hy19,h20⟩:=Kcy h17
     refine Kdz C (Lcy hy19) E E E E E E ?_
     refine Kcp hΓ 3 E ?_
     refine Kcr E (fun hb=>?_) (fun hb=>?_)
     ·have h21:=cT h20 hb
      refine gA 6 E ?_
      obtain rfl:=oSi h21
      exact⟨_,E,⟨⟨E,E,E,E,E,tV⟩,[],E,.inl E⟩⟩
     have h22:=cF h20 hb
     refine gA 5 E ?_
     obtain rfl:=oSi h22
     exact⟨_,E,⟨⟨E,E,E,E,E,tV⟩,[],E,.inl E⟩⟩
    have h23:=cF hy9 hb
    refine gA 4 E ?_
    obtain rfl:=oSi h23
    obtain rfl:=hout10 _ rfl
    exact⟨⟨E,E,E,tV⟩,[],E,.inl E⟩
   refine gA 8 E ?_
   obtain⟨q27,hq27,h28⟩:=Kcy h6
   refine Khe [] [rO 80 8 Lch q27] ?_ ?_
   ·refine gA 1 E ?_
    refine Kde hq27 (fun s25=>[(0,.sl 0 s25.1.length),(10,I q5),(13,I s25.2)]) (fun s25=>[rO 80 8 Lch s25.1]) ⟨⟨E,E,E,tV⟩,[],E,.inl E⟩ (fun s25 y33 hy31 hout32=>?_)
    refine gA 9 E ?_
    refine Kcr E (fun hb=>?_) (fun hb=>?_)
    ·have h34:=cT hy31 hb
     refine gA 4 E ?_
     refine Kge [rO 80 8 Lch s25.1] [9,13] [15,17] [15,17] hmix (by kernel_rfl) (by kernel_rfl) ⟨E,tV⟩ Z ?_
     obtain⟨x35,hx35,h36⟩:=Kcy h34
     have hj37:=Kes hx35
     refine go_E hΓ 8 E ?_
     refine ge_q E (.inl E) (fun _ _=>Kgg (qt_p (Kdk hΓ hx35 E E E E E E))) ?_
     refine ge_p E (fun hp hs=>Kdq hΓ (enc:=Lch) ((wi (s25.2+1)).toNat) 0 hj37 E E E (hs 0 _ E E) (fun _=>E) (g:=.agg [S x35.Name,I x35.Kind,B x35.Addr.Six,U x35.Addr.Hi,U x35.Addr.Lo,S x35.To,S x35.Words,I x35.Life]) E) E ?_
     obtain⟨x38,hx38,h39⟩:=Kcy h36
     have hj40:=Kes hx38
     refine go_E hΓ 2 E ?_
     refine ge_q E (.inl E) (fun _ _=>Kgg (qt_p (Kdk hΓ hx38 E E E E E E))) ?_
     refine ge_p E (fun hp hs=>Kdq hΓ (enc:=Lch) s25.2.toNat 0 hj40 E E E (hs 0 _ E E) (fun _=>E) (g:=.agg [S x38.Name,I x38.Kind,B x38.Addr.Six,U x38.Addr.Hi,U x38.Addr.Lo,S x38.To,S x38.Words,I x38.Life]) E) E ?_
     obtain⟨x41,hx41,h42⟩:=Kcy h39
     have hj43:=Kes hx41
     refine ge_q E (.inl E) (fun _ _=>Kgg (qt_p (Kdk hΓ hx41 E E E E E E))) ?_
     refine Kgk [rO 80 8 Lch (s25.1.set s25.2.toNat x35)] E E (Kgl E) (Kgq (Khr hΓ (enc:=Lch) (z':=x35) s25.2.toNat (by have:=(gEs.1 hj43).1;simpa using this) E E E E (fun _=>E) E E E E E)) ?_
     obtain⟨x44,hx44,h45⟩:=Kcy h42
     have hj46:=Kes hx44
     refine ge_q E (.inl E) (fun _ _=>Kgg (qt_p (Kdk hΓ hx44 E E E E E E))) ?_
     obtain⟨x47,hx47,h48⟩:=Kcy h45
     have hj49:(s25.1.set s25.2.toNat x35)[(wi (s25.2+1)).toNat]?=some x47:=hx47
     refine Kgk [rO 80 8 Lch ((s25.1.set s25.2.toNat x35).set ((wi (s25.2+1)).toNat) x38)] E E (Kgl E) (Kgq (Khr hΓ (enc:=Lch) (z':=x38) ((wi (s25.2+1)).toNat) (by have:=(gEs.1 hj49).1;simpa using this) E E E E (fun _=>E) E E E E E)) ?_
     refine Kgf ?_
     refine gA 2 E ?_
     refine Khs 0 (n':=((s25.1.set s25.2.toNat x35).set ((wi (s25.2+1)).toNat) x38).length) E (by simp) ?_
     refine Khs 61 (n':=((s25.1.set s25.2.toNat x35).set ((wi (s25.2+1)).toNat) x38).length) E (by simp) ?_
     refine Khs 63 (n':=((s25.1.set s25.2.toNat x35).set ((wi (s25.2+1)).toNat) x38).length) E (by simp) ?_
     refine Khs 66 (n':=((s25.1.set s25.2.toNat x35).set ((wi (s25.2+1)).toNat) x38).length) E (by simp) ?_
     refine Khs 71 (n':=((s25.1.set s25.2.toNat x35).set ((wi (s25.2+1)).toNat) x38).length) E (by simp) ?_
     refine gA 5 E ?_
     obtain rfl:=oSi h48
     exact⟨_,E,⟨⟨E,E,E,tV⟩,[],E,.inl E⟩⟩
    have h50:=cF hy31 hb
    refine gA 4 E ?_
    obtain rfl:=oSi h50
    obtain rfl:=hout32 _ rfl
    exact⟨tV,[],E,.inl E⟩
   refine gA 3 E ?_
   obtain rfl:=oSi h28
   exact Ken hΓ [] (.inr E) E E E E (.inl E)
  have h51:=cF h hb
  refine gA 11 E ?_
  refine Kcr E (fun hb=>?_) (fun hb=>?_)
  ·have h52:=cT h51 hb
   refine gA 13 E ?_
   obtain⟨q56,hq56,h57⟩:=Kcy h52
   refine Khe [(0,.sl 0 data.length),(2,I m),(14,I q56)] [rO 80 8 Lch data] ?_ ?_
   ·refine gA 1 E ?_
    refine Kde hq56 (fun s54=>[(0,.sl 0 data.length),(2,I m),(4,.fn (.func 78) [] []),(14,I s54.1),(15,I s54.2)]) (fun s54=>[rO 80 8 Lch data]) ⟨⟨E,E,E,E,E,tV⟩,[],E,.inl E⟩ (fun s54 y62 hy60 hout61=>?_)
    refine gA 8 E ?_
    refine Kcr E (fun hb=>?_) (fun hb=>?_)
    ·have h63:=cT hy60 hb
     refine gA 15 E ?_
     refine jD ?_
     obtain⟨x64,hx64,h65⟩:=Kcy h63
     have hj66:=Kes hx64
     refine gA 3 E ?_
     refine gl_o E (Kdk hΓ hx64 E E E E E E) ?_
     refine gl_o E (Kdq hΓ (enc:=Lch) m.toNat 0 hj66 E E E E (fun _=>E) (g:=.agg [S x64.Name,I x64.Kind,B x64.Addr.Six,U x64.Addr.Hi,U x64.Addr.Lo,S x64.To,S x64.Words,I x64.Life]) E) ?_
     obtain⟨x67,hx67,h68⟩:=Kcy h65
     have hj69:=Kes hx67
     refine Kcp hΓ 2 E ?_
     refine gl_o E (Kdk hΓ hx67 E E E E E E) ?_
     refine gl_o E (Kdq hΓ (enc:=Lch) ((wi (shrV .u64 (IntKind.u64.wrap (wi (s54.1+s54.2))) 1)).toNat) 0 hj69 E E E E (fun _=>E) (g:=.agg [S x67.Name,I x67.Kind,B x67.Addr.Six,U x67.Addr.Hi,U x67.Addr.Lo,S x67.To,S x67.Words,I x67.Life]) E) ?_
     obtain⟨y70,hy70,h71⟩:=Kcy h68
     refine Kdz C (Lcy hy70) E E E E E E ?_
     refine Kcp hΓ 4 E ?_
     refine Kcr E (fun hb=>?_) (fun hb=>?_)
     ·have h72:=cT h71 hb
      refine gA 6 E ?_
      obtain rfl:=oSi h72
      exact⟨_,E,⟨⟨E,E,E,E,E,tV⟩,[],E,.inl E⟩⟩
     have h73:=cF h71 hb
     refine gA 5 E ?_
     obtain rfl:=oSi h73
     exact⟨_,E,⟨⟨E,E,E,E,E,tV⟩,[],E,.inl E⟩⟩
    have h74:=cF hy60 hb
    refine gA 4 E ?_
    obtain rfl:=oSi h74
    obtain rfl:=hout61 _ rfl
    exact⟨⟨E,E,E,tV⟩,[],E,.inl E⟩
   refine gA 8 E ?_
   obtain⟨q78,hq78,h79⟩:=Kcy h57
   refine Khe [] [rO 80 8 Lch q78] ?_ ?_
   ·refine gA 1 E ?_
    refine Kde hq78 (fun s76=>[(0,.sl 0 s76.1.length),(14,I q56),(17,I s76.2)]) (fun s76=>[rO 80 8 Lch s76.1]) ⟨⟨E,E,E,tV⟩,[],E,.inl E⟩ (fun s76 y84 hy82 hout83=>?_)
    refine gA 8 E ?_
    refine Kcr E (fun hb=>?_) (fun hb=>?_)
    ·have h85:=cT hy82 hb
     refine gA 4 E ?_
     refine Kge [rO 80 8 Lch s76.1] [9,13] [15,17] [15,17] hmix (by kernel_rfl) (by kernel_rfl) ⟨E,tV⟩ Z ?_
     obtain⟨x86,hx86,h87⟩:=Kcy h85
     have hj88:=Kes hx86
     refine go_E hΓ 8 E ?_
     refine ge_q E (.inl E) (fun _ _=>Kgg (qt_p (Kdk hΓ hx86 E E E E E E))) ?_
     refine ge_p E (fun hp hs=>Kdq hΓ (enc:=Lch) ((wi (s76.2 - 1)).toNat) 0 hj88 E E E (hs 0 _ E E) (fun _=>E) (g:=.agg [S x86.Name,I x86.Kind,B x86.Addr.Six,U x86.Addr.Hi,U x86.Addr.Lo,S x86.To,S x86.Words,I x86.Life]) E) E ?_
     obtain⟨x89,hx89,h90⟩:=Kcy h87
     have hj91:=Kes hx89
     refine go_E hΓ 2 E ?_
     refine ge_q E (.inl E) (fun _ _=>Kgg (qt_p (Kdk hΓ hx89 E E E E E E))) ?_
     refine ge_p E (fun hp hs=>Kdq hΓ (enc:=Lch) s76.2.toNat 0 hj91 E E E (hs 0 _ E E) (fun _=>E) (g:=.agg [S x89.Name,I x89.Kind,B x89.Addr.Six,U x89.Addr.Hi,U x89.Addr.Lo,S x89.To,S x89.Words,I x89.Life]) E) E ?_
     obtain⟨x92,hx92,h93⟩:=Kcy h90
     have hj94:=Kes hx92
     refine ge_q E (.inl E) (fun _ _=>Kgg (qt_p (Kdk hΓ hx92 E E E E E E))) ?_
     refine Kgk [rO 80 8 Lch (s76.1.set s76.2.toNat x86)] E E (Kgl E) (Kgq (Khr hΓ (enc:=Lch) (z':=x86) s76.2.toNat (by have:=(gEs.1 hj94).1;simpa using this) E E E E (fun _=>E) E E E E E)) ?_
     obtain⟨x95,hx95,h96⟩:=Kcy h93
     have hj97:=Kes hx95
     refine ge_q E (.inl E) (fun _ _=>Kgg (qt_p (Kdk hΓ hx95 E E E E E E))) ?_
     obtain⟨x98,hx98,h99⟩:=Kcy h96
     have hj100:(s76.1.set s76.2.toNat x86)[(wi (s76.2 - 1)).toNat]?=some x98:=hx98
     refine Kgk [rO 80 8 Lch ((s76.1.set s76.2.toNat x86).set ((wi (s76.2 - 1)).toNat) x89)] E E (Kgl E) (Kgq (Khr hΓ (enc:=Lch) (z':=x89) ((wi (s76.2 - 1)).toNat) (by have:=(gEs.1 hj100).1;simpa using this) E E E E (fun _=>E) E E E E E)) ?_
     refine Kgf ?_
     refine gA 2 E ?_
     refine Khs 0 (n':=((s76.1.set s76.2.toNat x86).set ((wi (s76.2 - 1)).toNat) x89).length) E (by simp) ?_
     refine Khs 113 (n':=((s76.1.set s76.2.toNat x86).set ((wi (s76.2 - 1)).toNat) x89).length) E (by simp) ?_
     refine Khs 115 (n':=((s76.1.set s76.2.toNat x86).set ((wi (s76.2 - 1)).toNat) x89).length) E (by simp) ?_
     refine Khs 118 (n':=((s76.1.set s76.2.toNat x86).set ((wi (s76.2 - 1)).toNat) x89).length) E (by simp) ?_
     refine Khs 123 (n':=((s76.1.set s76.2.toNat x86).set ((wi (s76.2 - 1)).toNat) x89).length) E (by simp) ?_
     refine gA 5 E ?_
     obtain rfl:=oSi h99
     exact⟨_,E,⟨⟨E,E,E,tV⟩,[],E,.inl E⟩⟩
    have h101:=cF hy82 hb
    refine gA 4 E ?_
    obtain rfl:=oSi h101
    obtain rfl:=hout83 _ rfl
    exact⟨tV,[],E,.inl E⟩
   refine gA 3 E ?_
   obtain rfl:=oSi h79
   exact Ken hΓ [] (.inr E) E E E E (.inl E)
  have h102:=cF h51 hb
  obtain⟨q103,hq103,h104⟩:=Kcy h102
  refine gA 35 E ?_
  refine Khe [(0,.sl 0 data.length),(1,I a),(2,I m),(3,I b),(4,.fn (.func 78) [] []),(18,I (wi (shrV .u64 (IntKind.u64.wrap (wi (a+b))) 1))),(19,I (wi ((wi (shrV .u64 (IntKind.u64.wrap (wi (a+b))) 1))+m))),(20,I q103.1),(21,I q103.2)] [rO 80 8 Lch data] ?_ ?_
  ·refine Kcr E (fun hb=>?_) (fun hb=>?_)
   ·have h105:=cT hq103 hb
    refine gA 12 E ?_
    obtain rfl:=oSi h105
    exact⟨⟨E,E,E,E,E,E,E,E,E,tV⟩,[],E,.inl E⟩
   have h106:=cF hq103 hb
   refine gA 10 E ?_
   obtain rfl:=oSi h106
   exact⟨⟨E,E,E,E,E,E,E,E,E,tV⟩,[],E,.inl E⟩
  refine gA 9 E ?_
  obtain⟨q110,hq110,h111⟩:=Kcy h104
  refine Khe [(0,.sl 0 data.length),(1,I a),(2,I m),(3,I b),(4,.fn (.func 78) [] []),(18,I (wi (shrV .u64 (IntKind.u64.wrap (wi (a+b))) 1))),(19,I (wi ((wi (shrV .u64 (IntKind.u64.wrap (wi (a+b))) 1))+m))),(20,I q110)] [rO 80 8 Lch data] ?_ ?_
  ·refine gA 1 E ?_
   refine Kde hq110 (fun s108=>[(0,.sl 0 data.length),(1,I a),(2,I m),(3,I b),(4,.fn (.func 78) [] []),(18,I (wi (shrV .u64 (IntKind.u64.wrap (wi (a+b))) 1))),(19,I (wi ((wi (shrV .u64 (IntKind.u64.wrap (wi (a+b))) 1))+m))),(20,I s108.1),(21,I s108.2),(22,I (wi ((wi ((wi (shrV .u64 (IntKind.u64.wrap (wi (a+b))) 1))+m)) - 1)))]) (fun s108=>[rO 80 8 Lch data]) ⟨⟨E,E,E,E,E,E,E,E,E,E,tV⟩,[],E,.inl E⟩ (fun s108 y116 hy114 hout115=>?_)
   refine gA 8 E ?_
   refine Kcr E (fun hb=>?_) (fun hb=>?_)
   ·have h117:=cT hy114 hb
    refine gA 15 E ?_
    refine jD ?_
    obtain⟨x118,hx118,h119⟩:=Kcy h117
    have hj120:=Kes hx118
    refine gA 5 E ?_
    refine gl_o E (Kdk hΓ hx118 E E E E E E) ?_
    refine gl_o E (Kdq hΓ (enc:=Lch) ((wi ((wi ((wi ((wi (shrV .u64 (IntKind.u64.wrap (wi (a+b))) 1))+m)) - 1)) - (wi (shrV .u64 (IntKind.u64.wrap (wi (s108.1+s108.2))) 1)))).toNat) 0 hj120 E E E E (fun _=>E) (g:=.agg [S x118.Name,I x118.Kind,B x118.Addr.Six,U x118.Addr.Hi,U x118.Addr.Lo,S x118.To,S x118.Words,I x118.Life]) E) ?_
    obtain⟨x121,hx121,h122⟩:=Kcy h119
    have hj123:=Kes hx121
    refine Kcp hΓ 2 E ?_
    refine gl_o E (Kdk hΓ hx121 E E E E E E) ?_
    refine gl_o E (Kdq hΓ (enc:=Lch) ((wi (shrV .u64 (IntKind.u64.wrap (wi (s108.1+s108.2))) 1)).toNat) 0 hj123 E E E E (fun _=>E) (g:=.agg [S x121.Name,I x121.Kind,B x121.Addr.Six,U x121.Addr.Hi,U x121.Addr.Lo,S x121.To,S x121.Words,I x121.Life]) E) ?_
    obtain⟨y124,hy124,h125⟩:=Kcy h122
    refine Kdz C (Lcy hy124) E E E E E E ?_
    refine Kcp hΓ 4 E ?_
    refine Kcr E (fun hb=>?_) (fun hb=>?_)
    ·have h126:=cT h125 hb
     refine gA 6 E ?_
     obtain rfl:=oSi h126
     exact⟨_,E,⟨⟨E,E,E,E,E,E,E,E,E,E,tV⟩,[],E,.inl E⟩⟩
    have h127:=cF h125 hb
    refine gA 5 E ?_
    obtain rfl:=oSi h127
    exact⟨_,E,⟨⟨E,E,E,E,E,E,E,E,E,E,tV⟩,[],E,.inl E⟩⟩
   have h128:=cF hy114 hb
   refine gA 4 E ?_
   obtain rfl:=oSi h128
   obtain rfl:=hout115 _ rfl
   exact⟨⟨E,E,E,E,E,E,E,E,tV⟩,[],E,.inl E⟩
  refine gA 16 E ?_
  refine Kcx 4 [(0,.sl 0 data.length),(1,I a),(2,I m),(3,I b),(4,.fn (.func 78) [] []),(18,I (wi (shrV .u64 (IntKind.u64.wrap (wi (a+b))) 1))),(20,I q110),(24,I (wi ((wi ((wi (shrV .u64 (IntKind.u64.wrap (wi (a+b))) 1))+m)) - q110))),(185,B ((decide ((q110:Int)<m))&&(decide ((m:Int)<(wi ((wi ((wi (shrV .u64 (IntKind.u64.wrap (wi (a+b))) 1))+m)) - q110))))))] [rO 80 8 Lch data] ?_ ?_
  ·refine Klc E E (fun hb=>?_) (fun hb=>?_)
   ·refine gO 5 E ?_
    exact⟨⟨E,E,E,E,E,E,E,E,Kby E (Ket hb),tV⟩,[],E,.inl E⟩
   refine gO 5 E ?_
   exact⟨⟨E,E,E,E,E,E,E,E,Kby E (Keu hb),tV⟩,[],E,.inl E⟩
  obtain⟨q129,hq129,h130⟩:=Kcy h111
  refine gO 2 E ?_
  refine Khe [(0,.sl 0 q129.length),(1,I a),(3,I b),(4,.fn (.func 78) [] []),(18,I (wi (shrV .u64 (IntKind.u64.wrap (wi (a+b))) 1))),(20,I q110),(24,I (wi ((wi ((wi (shrV .u64 (IntKind.u64.wrap (wi (a+b))) 1))+m)) - q110)))] [rO 80 8 Lch q129] ?_ ?_
  ·refine Kcr E (fun hb=>?_) (fun hb=>?_)
   ·have h131:=cT hq129 hb
    obtain⟨y132,hy132,h133⟩:=Kcy h131
    refine gA 6 E ?_
    refine Kdx [0] (.tup []) [rO 80 8 Lch y132] C (Ldb hy132) E Z E E E E E E E E E E ?_
    obtain⟨hg135,h134⟩:=Kcz h133
    refine Kho 0 E (of_decide_eq_true hg135).symm ?_
    refine gO 1 E ?_
    obtain rfl:=oSi h134
    exact⟨⟨E,E,E,E,E,E,E,tV⟩,[],E,.inl E⟩
   have h136:=cF hq129 hb
   refine gA 1 E ?_
   obtain rfl:=oSi h136
   exact⟨⟨E,E,E,E,E,E,E,tV⟩,[],E,.inl E⟩
  refine gA 8 E ?_
  refine Kcx 4 [(0,.sl 0 q129.length),(1,I a),(3,I b),(4,.fn (.func 78) [] []),(18,I (wi (shrV .u64 (IntKind.u64.wrap (wi (a+b))) 1))),(20,I q110),(24,I (wi ((wi ((wi (shrV .u64 (IntKind.u64.wrap (wi (a+b))) 1))+m)) - q110))),(199,B ((decide ((a:Int)<q110))&&(decide ((q110:Int)<(wi (shrV .u64 (IntKind.u64.wrap (wi (a+b))) 1))))))] [rO 80 8 Lch q129] ?_ ?_
  ·refine Klc E E (fun hb=>?_) (fun hb=>?_)
   ·refine gO 5 E ?_
    exact⟨⟨E,E,E,E,E,E,E,Kby E (Ket hb),tV⟩,[],E,.inl E⟩
   refine gO 5 E ?_
   exact⟨⟨E,E,E,E,E,E,E,Kby E (Keu hb),tV⟩,[],E,.inl E⟩
  obtain⟨q137,hq137,h138⟩:=Kcy h130
  refine gO 2 E ?_
  refine Khe [(0,.sl 0 q137.length),(3,I b),(4,.fn (.func 78) [] []),(18,I (wi (shrV .u64 (IntKind.u64.wrap (wi (a+b))) 1))),(24,I (wi ((wi ((wi (shrV .u64 (IntKind.u64.wrap (wi (a+b))) 1))+m)) - q110)))] [rO 80 8 Lch q137] ?_ ?_
  ·refine Kcr E (fun hb=>?_) (fun hb=>?_)
   ·have h139:=cT hq137 hb
    obtain⟨y140,hy140,h141⟩:=Kcy h139
    refine gA 6 E ?_
    refine Kdx [0] (.tup []) [rO 80 8 Lch y140] C (ih hy140) E Z E E E E E E E E E E ?_
    obtain⟨hg143,h142⟩:=Kcz h141
    refine Kho 0 E (of_decide_eq_true hg143).symm ?_
    refine gO 1 E ?_
    obtain rfl:=oSi h142
    exact⟨⟨E,E,E,E,E,tV⟩,[],E,.inl E⟩
   have h144:=cF hq137 hb
   refine gA 1 E ?_
   obtain rfl:=oSi h144
   exact⟨⟨E,E,E,E,E,tV⟩,[],E,.inl E⟩
  refine gA 7 E ?_
  refine Kcx 4 [(0,.sl 0 q137.length),(3,I b),(4,.fn (.func 78) [] []),(18,I (wi (shrV .u64 (IntKind.u64.wrap (wi (a+b))) 1))),(24,I (wi ((wi ((wi (shrV .u64 (IntKind.u64.wrap (wi (a+b))) 1))+m)) - q110))),(213,B ((decide ((wi (shrV .u64 (IntKind.u64.wrap (wi (a+b))) 1):Int)<(wi ((wi ((wi (shrV .u64 (IntKind.u64.wrap (wi (a+b))) 1))+m)) - q110))))&&(decide ((wi ((wi ((wi (shrV .u64 (IntKind.u64.wrap (wi (a+b))) 1))+m)) - q110):Int)<b))))] [rO 80 8 Lch q137] ?_ ?_
  ·refine Klc E E (fun hb=>?_) (fun hb=>?_)
   ·refine gO 5 E ?_
    exact⟨⟨E,E,E,E,E,Kby E (Ket hb),tV⟩,[],E,.inl E⟩
   refine gO 5 E ?_
   exact⟨⟨E,E,E,E,E,Kby E (Keu hb),tV⟩,[],E,.inl E⟩
  refine gO 2 E ?_
  refine Kcr E (fun hb=>?_) (fun hb=>?_)
  ·have h145:=cT h138 hb
   obtain⟨y146,hy146,h147⟩:=Kcy h145
   refine gA 6 E ?_
   refine Kdx [0] (.tup []) [rO 80 8 Lch y146] C (ih hy146) E Z E E E E E E E E E E ?_
   refine gO 1 E ?_
   obtain rfl:=oSi h147
   exact Ken hΓ [] (.inl E) E E E E (.inl E)
  have h148:=cF h138 hb
  refine gA 1 E ?_
  obtain rfl:=oSi h148
  exact Ken hΓ [] (.inl E) E E E E (.inl E)
theorem Ldd{k:Nat}{data:List Kyb}{n:Int}{r:List Kyb}(h:Kyx k data n=some r):EC Tryz.prog 174 [.sl 0 data.length,I n,.fn (.func 78) [] []] [rO 80 8 Lch data] fun g hp'=>g=.tup []∧hp'=[rO 80 8 Lch r]:=by
 unfold Kyx at h
 refine QN Tryz.func174 E Z<|gA 13 E<|bK h fun q4 hq4 h5=>Khe [(0,.sl 0 q4.1.length),(1,I n),(2,.fn (.func 78) [] []),(6,I 20),(7,I q4.2)] [rO 80 8 Lch q4.1] ?_ ?_
 ·refine gA 1 E<|Kde hq4 (fun s2=>[(0,.sl 0 s2.1.length),(1,I n),(2,.fn (.func 78) [] []),(6,I 20),(7,I s2.2.1),(8,I s2.2.2)]) (fun s2=>[rO 80 8 Lch s2.1]) ⟨⟨E,E,E,E,E,E,tV⟩,[],E,.inl E⟩ (fun s2 y10 hy8 hout9=>?_)
  refine gA 8 E<|jC E hy8 (fun h11=>?_) fun h16=>gA 4 E ?_
  ·exact bK h11 fun y12 hy12 h13=>gA 9 E<|Kdx [0] (.tup []) [rO 80 8 Lch y12] C (Lcz hy12) E Z E E E E E E E E E E<|gK h13 fun hg15 h14=>Kho 0 E (of_decide_eq_true hg15).symm<|gO 15 E<|oSi h14▸⟨_,E,⟨⟨E,E,E,E,E,E,tV⟩,[],E,.inl E⟩⟩
  cases h16
  obtain rfl:=hout9 _ rfl
  exact⟨⟨E,E,E,E,E,tV⟩,[],E,.inl E⟩
 refine bK h5 fun y17 hy17 h18=>gA 7 E<|Kdx [0] (.tup []) [rO 80 8 Lch y17] C (Lcz hy17) E Z E E E E E E E E E E<|gK h18 fun hg20 h19=>Kho 0 E (of_decide_eq_true hg20).symm<|gO 2 E<|bK h19 fun q24 hq24 h25=>Khe [] [rO 80 8 Lch q24] ?_ ?_
 ·refine gA 1 E<|Kde hq24 (fun s22=>[(0,.sl 0 s22.1.length),(1,I n),(2,.fn (.func 78) [] []),(6,I s22.2)]) (fun s22=>[rO 80 8 Lch s22.1]) ⟨⟨E,E,E,E,tV⟩,[],E,.inl E⟩ (fun s22 y30 hy28 hout29=>?_)
  refine gA 8 E<|jC E hy28 (fun h31=>?_) fun h54=>gA 4 E ?_
  ·refine gA 12 E<|bK h31 fun q35 hq35 h36=>Khe [(0,.sl 0 q35.1.length),(1,I n),(2,.fn (.func 78) [] []),(6,I s22.2),(7,I q35.2)] [rO 80 8 Lch q35.1] ?_ ?_
   ·refine gA 1 E<|Kde hq35 (fun s33=>[(0,.sl 0 s33.1.length),(1,I n),(2,.fn (.func 78) [] []),(6,I s22.2),(7,I s33.2.1),(8,I s33.2.2)]) (fun s33=>[rO 80 8 Lch s33.1]) ⟨⟨E,E,E,E,E,E,tV⟩,[],E,.inl E⟩ (fun s33 y41 hy39 hout40=>?_)
    refine gA 8 E<|jC E hy39 (fun h42=>?_) fun h47=>gA 4 E ?_
    ·exact bK h42 fun y43 hy43 h44=>gA 12 E<|Kdx [0] (.tup []) [rO 80 8 Lch y43] C (Ldc hy43) E Z E E E E E E E E E E<|gK h44 fun hg46 h45=>Kho 0 E (of_decide_eq_true hg46).symm<|gO 16 E<|oSi h45▸⟨_,E,⟨⟨E,E,E,E,E,E,tV⟩,[],E,.inl E⟩⟩
    cases h47
    obtain rfl:=hout40 _ rfl
    exact⟨⟨E,E,E,E,E,tV⟩,[],E,.inl E⟩
   refine gA 17 E<|jC E h36 (fun h48=>?_) fun h53=>gA 8 E<|oSi h53▸⟨_,E,⟨⟨E,E,E,E,tV⟩,[],E,.inl E⟩⟩
   exact bK h48 fun y49 hy49 h50=>gA 6 E<|Kdx [0] (.tup []) [rO 80 8 Lch y49] C (Ldc hy49) E Z E E E E E E E E E E<|gK h50 fun hg52 h51=>Kho 0 E (of_decide_eq_true hg52).symm<|gO 8 E<|oSi h51▸⟨_,E,⟨⟨E,E,E,E,tV⟩,[],E,.inl E⟩⟩
  cases h54
  obtain rfl:=hout29 _ rfl
  exact⟨tV,[],E,.inl E⟩
 exact oSi h25▸Ken hΓ [] (.inl E) E E E E (.inl E)
theorem Lde{k:Nat}{x:List Kyb}{r:List Kyb}(h:Kyy k x=some r):EC Tryz.prog 77 [.sl 0 x.length,.fn (.func 78) [] []] [rO 80 8 Lch x] fun g hp'=>g=.tup []∧hp'=[rO 80 8 Lch r]:=by
 unfold Kyy at h
 exact QN Tryz.func77 E Z<|bK h fun y1 hy1 h2=>gA 5 E<|Kdx [0] (.tup []) [rO 80 8 Lch y1] C (Ldd hy1) E Z E E E E E E E E E E<|gO 1 E<|oSi h2▸Ken hΓ [] (.inl E) E E E E (.inl E)
theorem Ldf{a:Kyb}{b:Kyb}{x:Kxz}{r:Bool×Kxz}(h:Kyz a b x=some r):EC Tryz.prog 81 [.agg [S a.Name,I a.Kind,B a.Addr.Six,U a.Addr.Hi,U a.Addr.Lo,S a.To,S a.Words,I a.Life],.agg [S b.Name,I b.Kind,B b.Addr.Six,U b.Addr.Hi,U b.Addr.Lo,S b.To,S b.Words,I b.Life],.ptr 1 0] [.box 25 (fQ x),.box 23 [.ptr 0 0]] fun g hp'=>g=B r.1∧hp'=[.box 25 (fQ r.2),.box 23 [.ptr 0 0]]:=by
 unfold Kyz at h
 refine QN Tryz.func81 E Z<|gA 2 E<|Kmj E E E E Z<|Kmj E E E E Z<|gO 11 E<|Kcx 18 [(2,.ptr 1 0),(5,B false),(29,B (((a.Kind:Int)==b.Kind)&&(((((a.Addr.Six:Bool)==b.Addr.Six)&&(((a.Addr.Hi:Int)==b.Addr.Hi)&&(((a.Addr.Lo:Int)==b.Addr.Lo)&&true)))&&(!(((a.Addr.Six:Bool)==false)&&(((a.Addr.Hi:Int)==0)&&(((a.Addr.Lo:Int)==0)&&true)))))||(((a.Addr.Six:Bool)==false)&&(((a.Addr.Hi:Int)==0)&&(((a.Addr.Lo:Int)==0)&&true))))))] [.box 25 (fQ x),.box 23 [.ptr 0 0],.box 80 [S a.Name,I a.Kind,B a.Addr.Six,U a.Addr.Hi,U a.Addr.Lo,S a.To,S a.Words,I a.Life],.box 80 [S b.Name,I b.Kind,B b.Addr.Six,U b.Addr.Hi,U b.Addr.Lo,S b.To,S b.Words,I b.Life]] ?_ ?_
 ·refine Klc E E (fun hb=>?_) (fun hb=>?_)
  ·refine gO 4 E<|Kla E<|eo_o E (Kex hΓ [39] (b:=(((a.Addr.Six:Bool)==b.Addr.Six)&&(((a.Addr.Hi:Int)==b.Addr.Hi)&&(((a.Addr.Lo:Int)==b.Addr.Lo)&&true)))) (by kernel_rfl) (by kernel_rfl) E E E)<|gO 1 E<|Kcx 5 [(2,.ptr 1 0),(3,.ptr 2 0),(5,B false),(11,B true),(22,B ((((a.Addr.Six:Bool)==b.Addr.Six)&&(((a.Addr.Hi:Int)==b.Addr.Hi)&&(((a.Addr.Lo:Int)==b.Addr.Lo)&&true)))&&(!(((a.Addr.Six:Bool)==false)&&(((a.Addr.Hi:Int)==0)&&(((a.Addr.Lo:Int)==0)&&true))))))] [.box 25 (fQ x),.box 23 [.ptr 0 0],.box 80 [S a.Name,I a.Kind,B a.Addr.Six,U a.Addr.Hi,U a.Addr.Lo,S a.To,S a.Words,I a.Life],.box 80 [S b.Name,I b.Kind,B b.Addr.Six,U b.Addr.Hi,U b.Addr.Lo,S b.To,S b.Words,I b.Life]] ?_ ?_
   ·refine Klc E E (fun hb=>?_) (fun hb=>?_)
    ·exact gO 2 E<|Kla E<|Kau hΓ (gs:=[B false,U 0,U 0]) E E E E E E E<|Kla E<|eo_o E (Key hΓ [39] (b:=(((a.Addr.Six:Bool)==false)&&(((a.Addr.Hi:Int)==0)&&(((a.Addr.Lo:Int)==0)&&true)))) (by kernel_rfl) (by kernel_rfl) E E E)<|gO 2 E<|⟨⟨E,E,E,E,Kby E (Ket hb),tV⟩,[],E,.inl E⟩
    exact gO 6 E<|⟨⟨E,E,E,E,Kby E (Keu hb),tV⟩,[],E,.inl E⟩
   refine gO 1 E<|Kcx 5 [(2,.ptr 1 0),(5,B false),(11,B true),(28,B (((((a.Addr.Six:Bool)==b.Addr.Six)&&(((a.Addr.Hi:Int)==b.Addr.Hi)&&(((a.Addr.Lo:Int)==b.Addr.Lo)&&true)))&&(!(((a.Addr.Six:Bool)==false)&&(((a.Addr.Hi:Int)==0)&&(((a.Addr.Lo:Int)==0)&&true)))))||(((a.Addr.Six:Bool)==false)&&(((a.Addr.Hi:Int)==0)&&(((a.Addr.Lo:Int)==0)&&true)))))] [.box 25 (fQ x),.box 23 [.ptr 0 0],.box 80 [S a.Name,I a.Kind,B a.Addr.Six,U a.Addr.Hi,U a.Addr.Lo,S a.To,S a.Words,I a.Life],.box 80 [S b.Name,I b.Kind,B b.Addr.Six,U b.Addr.Hi,U b.Addr.Lo,S b.To,S b.Words,I b.Life]] ?_ ?_
   ·refine Klc E E (fun hb=>?_) (fun hb=>?_)
    ·exact gO 6 E<|⟨⟨E,E,E,Kby E (or_t hb),tV⟩,[],E,.inl E⟩
    exact gO 2 E<|Kla E<|Kau hΓ (gs:=[B false,U 0,U 0]) E E E E E E E<|Kla E<|eo_o E (Kex hΓ [39] (b:=(((a.Addr.Six:Bool)==false)&&(((a.Addr.Hi:Int)==0)&&(((a.Addr.Lo:Int)==0)&&true)))) (by kernel_rfl) (by kernel_rfl) E E E)<|gO 2 E<|⟨⟨E,E,E,Kby E (or_f hb),tV⟩,[],E,.inl E⟩
   exact gO 2 E<|⟨⟨E,E,Kby E (Ket hb),tV⟩,[],E,.inl E⟩
  exact gO 19 E<|⟨⟨E,E,Kby E (Keu hb),tV⟩,[],E,.inl E⟩
 refine gO 1 E<|bK h fun q1 hq1 h2=>Kcx 4 [(5,B false),(34,B q1.2)] [.box 25 (fQ q1.1),.box 23 [.ptr 0 0],.box 80 [S a.Name,I a.Kind,B a.Addr.Six,U a.Addr.Hi,U a.Addr.Lo,S a.To,S a.Words,I a.Life],.box 80 [S b.Name,I b.Kind,B b.Addr.Six,U b.Addr.Hi,U b.Addr.Lo,S b.To,S b.Words,I b.Life]] ?_ ?_
 ·refine Klc E E (fun hb=>?_) (fun hb=>?_)
  ·have h3:=cT hq1 hb
   exact bK h3 fun y4 hy4 h5=>gO 1 E<|Kla E<|Kdx [0] (B y4.1) [.box 25 (fQ y4.2),.box 23 [.ptr 0 0],.box 80 [S a.Name,I a.Kind,B a.Addr.Six,U a.Addr.Hi,U a.Addr.Lo,S a.To,S a.Words,I a.Life],.box 80 [S b.Name,I b.Kind,B b.Addr.Six,U b.Addr.Hi,U b.Addr.Lo,S b.To,S b.Words,I b.Life]] C (Lcl hy4) E Z E E E E E E E E E E<|gO 3 E<|oSi h5▸⟨⟨E,E,tV⟩,[],E,.inl E⟩
  have h6:=cF hq1 hb
  exact gO 5 E<|oSi h6▸⟨⟨E,E,tV⟩,[],E,.inl E⟩
 exact gO 4 E<|oSi h2▸Ken hΓ [_,_] (.inr E) E E E E (.inr ⟨HB.mk E,E⟩)
theorem Ldg{k:Nat}{s:List Kyb}{f:Kxz}{r:(List Kyb)×Kxz}(h:Kza k s f=some r):EC Tryz.prog 80 [.sl 0 s.length,.fn (.func 81) [] [.ptr 2 0]] [rO 80 8 Lch s,.box 25 (fQ f),.box 23 [.ptr 1 0]] fun g hp'=>g=.sl 0 r.1.length∧hp'=[rO 80 8 Lch r.1,.box 25 (fQ r.2),.box 23 [.ptr 1 0]]:=by
 unfold Kza at h
 refine QN Tryz.func80 E Z<|gA 2 E<|Kdv (t:=0) 80 8 E Z<|gO 10 E<|jC E h (fun h1=>?_) fun h2=>gA 8 E<|bK h2 fun q6 hq6 h7=>Khd (R:=fun a8=>q6=.inl a8) (fun a8=>[(0,.sl 0 s.length)]) (fun a8=>[rO 80 8 Lch s,.box 25 (fQ a8),.box 23 [.ptr 1 0],rO 80 8 Lch ([]:List Kyb)]) ?_ ?_
 ·exact gA 8 E<|oSi h1▸Ken hΓ [_] (.inr E) E E E E (.inr ⟨HB.mk E,E⟩)
 ·refine gA 1 E<|Kde hq6 (fun s4=>[(0,.sl 0 s.length),(1,.fn (.func 81) [] [.ptr 2 0]),(5,I s4.2)]) (fun s4=>[rO 80 8 Lch s,.box 25 (fQ s4.1),.box 23 [.ptr 1 0],rO 80 8 Lch ([]:List Kyb)]) ⟨⟨E,E,E,tV⟩,[],E,.inl E⟩ (fun s4 y12 hy10 hout11=>?_)
  refine gA 9 E<|jC E hy10 (fun h13=>?_) fun h64=>gA 4 E ?_
  ·refine gA 5 E<|Kge [rO 80 8 Lch s] [4,9] [10] [] hmix (by kernel_rfl) (by kernel_rfl) ⟨E,tV⟩ Z<|bK h13 fun x14 hx14 h15=>?_
   have hj16:=Kes hx14
   refine go_E hΓ 3 E<|ge_q E (.inl E) (fun _ _=>Kgg (qt_p (Kdk hΓ hx14 E E E E E E)))<|ge_p E (fun hp hs=>Kdq hΓ (enc:=Lch) s4.2.toNat 0 hj16 E E E (hs 0 _ E E) (fun _=>E) (g:=.agg [S x14.Name,I x14.Kind,B x14.Addr.Six,U x14.Addr.Hi,U x14.Addr.Lo,S x14.To,S x14.Words,I x14.Life]) E) E<|bK h15 fun x17 hx17 h18=>?_
   have hj19:=Kes hx17
   refine go_E hΓ 3 E<|ge_q E (.inl E) (fun _ _=>Kgg (qt_p (Kdk hΓ hx17 E E E E E E)))<|ge_p E (fun hp hs=>Kdq hΓ (enc:=Lch) ((wi (s4.2 - 1)).toNat) 0 hj19 E E E (hs 0 _ E E) (fun _=>E) (g:=.agg [S x17.Name,I x17.Kind,B x17.Addr.Six,U x17.Addr.Hi,U x17.Addr.Lo,S x17.To,S x17.Words,I x17.Life]) E) E<|bK h18 fun y20 hy20 h21=>ge_h [rO 80 8 Lch s,.box 25 (fQ y20.2),.box 23 [.ptr 1 0],rO 80 8 Lch ([]:List Kyb)] E E E (Kgm ⟨E,tV⟩) (Kgr [1,2] (B y20.1) [rO 80 8 Lch s,.box 25 (fQ y20.2),.box 23 [.ptr 1 0],rO 80 8 Lch ([]:List Kyb)] C (Ldf hy20) E E E E E E E E E E)<|Kgf<|gA 1 E<|jC E h21 (fun h22=>?_) fun h63=>gA 8 E<|oSi h63▸⟨_,E,⟨⟨E,E,E,tV⟩,[],E,.inl E⟩⟩
   refine bK h22 fun z23 hz23 h24=>gA 4 E<|eo_o E (Khm hΓ hz23 E E E E E E)<|gO 9 E<|bK h24 fun q28 hq28 h29=>Khe [(0,.sl 0 q28.1.length),(5,I q28.2.2)] [rO 80 8 Lch q28.1,.box 25 (fQ q28.2.1),.box 23 [.ptr 1 0],rO 80 8 Lch ([]:List Kyb)] ?_ ?_
   ·refine gA 1 E<|Kde hq28 (fun s26=>[(0,.sl 0 s26.1.length),(1,.fn (.func 81) [] [.ptr 2 0]),(5,I s26.2.2.1),(6,.slo 0 8 s4.2.toNat z23.length),(7,I s26.2.2.2)]) (fun s26=>[rO 80 8 Lch s26.1,.box 25 (fQ s26.2.1),.box 23 [.ptr 1 0],rO 80 8 Lch ([]:List Kyb)]) ⟨⟨E,E,E,E,E,tV⟩,[],E,.inl E⟩ (fun s26 y34 hy32 hout33=>?_)
    refine gA 9 E<|jC E hy32 (fun h35=>?_) fun h58=>gA 4 E ?_
    ·refine gA 5 E<|Kge [rO 80 8 Lch s26.1] [4,9] [10] [] hmix (by kernel_rfl) (by kernel_rfl) ⟨E,tV⟩ Z<|bK h35 fun x36 hx36 h37=>bK h37 fun x38 hx38 h39=>?_
     have hj40:s26.1[(s4.2.toNat+s26.2.2.2.toNat)]?=some x38:=hx38
     refine go_E hΓ 3 E<|ge_q E (.inl E) (fun _ _=>Kgg (qt_p (Kht hΓ hx36 E E E E E E E)))<|ge_p E (fun hp hs=>Kdq hΓ (enc:=Lch) (s4.2.toNat+s26.2.2.2.toNat) 0 hj40 E E E (hs 0 _ E E) (fun _=>E) (g:=.agg [S x38.Name,I x38.Kind,B x38.Addr.Six,U x38.Addr.Hi,U x38.Addr.Lo,S x38.To,S x38.Words,I x38.Life]) E) E<|bK h39 fun x41 hx41 h42=>bK h42 fun x43 hx43 h44=>?_
     have hj45:s26.1[(s4.2.toNat+(wi (s26.2.2.2 - 1)).toNat)]?=some x43:=hx43
     refine go_E hΓ 3 E<|ge_q E (.inl E) (fun _ _=>Kgg (qt_p (Kht hΓ hx41 E E E E E E E)))<|ge_p E (fun hp hs=>Kdq hΓ (enc:=Lch) (s4.2.toNat+(wi (s26.2.2.2 - 1)).toNat) 0 hj45 E E E (hs 0 _ E E) (fun _=>E) (g:=.agg [S x43.Name,I x43.Kind,B x43.Addr.Six,U x43.Addr.Hi,U x43.Addr.Lo,S x43.To,S x43.Words,I x43.Life]) E) E<|bK h44 fun y46 hy46 h47=>ge_h [rO 80 8 Lch s26.1,.box 25 (fQ y46.2),.box 23 [.ptr 1 0],rO 80 8 Lch ([]:List Kyb)] E E E (Kgm ⟨E,tV⟩) (Kgr [1,2] (B y46.1) [rO 80 8 Lch s26.1,.box 25 (fQ y46.2),.box 23 [.ptr 1 0],rO 80 8 Lch ([]:List Kyb)] C (Ldf hy46) E E E E E E E E E E)<|go_E hΓ 1 E<|Kgf<|gA 1 E<|jC E h47 (fun h48=>?_) fun h57=>gA 8 E<|oSi h57▸⟨_,E,⟨⟨E,E,E,E,E,tV⟩,[],E,.inl E⟩⟩
     refine bK h48 fun x49 hx49 h50=>bK h50 fun x51 hx51 h52=>?_
     have hj53:s26.1[(s4.2.toNat+s26.2.2.2.toNat)]?=some x51:=hx51
     refine gA 6 E<|eo_o E (Kht hΓ hx49 E E E E E E E)<|eo_o E (Kdq hΓ (enc:=Lch) (s4.2.toNat+s26.2.2.2.toNat) 0 hj53 E E E E (fun _=>E) (g:=.agg [S x51.Name,I x51.Kind,B x51.Addr.Six,U x51.Addr.Hi,U x51.Addr.Lo,S x51.To,S x51.Words,I x51.Life]) E)<|bK h52 fun x54 hx54 h55=>?_
     have hj56:=Kes hx54
     exact eo_o E (Kdk hΓ hx54 E E E E E E)<|Kds hΓ (enc:=Lch) (z':=x51) s26.2.2.1.toNat 0 hj56 E E E E (fun _=>E) E E E E E E Z<|Keg [rO 80 8 Lch (s26.1.set s26.2.2.1.toNat x51),.box 25 (fQ y46.2),.box 23 [.ptr 1 0],rO 80 8 Lch ([]:List Kyb)] E<|Kho 0 (n':=(s26.1.set s26.2.2.1.toNat x51).length) E List.length_set.symm<|gO 14 E<|oSi h55▸⟨_,E,⟨⟨E,E,E,E,E,tV⟩,[],E,.inl E⟩⟩
    cases h58
    obtain rfl:=hout33 _ rfl
    exact⟨⟨E,E,tV⟩,[],E,.inl E⟩
   refine bK h29 fun z59 hz59 h60=>gA 5 E<|eo_o E (Khm hΓ hz59 E E E E E E)<|Khj Z (Khl hΓ (enc:=Lch) (a:=q28.2.2) hz59 E E E E E E E E E E (fun _=>E))<|gO 6 E<|Khn hΓ hz59 E E E E E E E E<|gO 6 E<|bK h60 fun v61 hv61 h62=>?_
   cases h62
   obtain rfl:=hout11 _ rfl
   cases h7
   exact gA 4 E<|oSi hv61▸Ken hΓ [_] (.inr E) E E E E (.inr ⟨HB.mk E,E⟩)
  cases h64
  obtain rfl:=hout11 _ rfl
  exact⟨_,E,⟨⟨E,tV⟩,[],E,.inl E⟩⟩
 intro a8 ha
 subst ha
 replace h7:=Kgx h7
 exact gA 8 E<|oSi h7▸Ken hΓ [_] (.inr E) E E E E (.inr ⟨HB.mk E,E⟩)
theorem Ldh{s:Kxz}{r:Str×Kxz}(h:Kzb s=some r):EC Tryz.prog 82 [.ptr 0 0] [.box 25 (fQ s)] fun g hp'=>g=S r.1∧hp'=[.box 25 (fQ r.2)]:=by
 unfold Kzb at h
 refine QN Tryz.func82 E Z<|bK h fun y1 hy1 h2=>gA 9 E<|Kdx [0] (B y1.1) [.box 25 (fQ y1.2)] C (Lcl hy1) E Z E E E E E E E E E E<|gO 2 E<|jC E h2 (fun h3=>?_) fun h16=>gA 5 E<|Kdt hΓ (enc:=eS) [[110,101,116,46,120],[97,46,110,101,116,46,120],[98,46,110,101,116,46,120],[99,46,110,101,116,46,120],[97,46,98,46,110,101,116,46,120],[108,97,98,46,110,101,116,46,120],[113,46,108,97,98,46,110,101,116,46,120],[120],[97,110,101,116,46,120],[111,116,104,101,114],[97],[98]] E E E E E E E E E E E E Z<|bK h16 fun y17 hy17 h18=>Kdx [0] (S y17.1) [.box 25 (fQ y17.2)] C (Lcq hy17) E Z E E E E E E E E E E<|gO 4 E<|oSi h18▸Ken hΓ [] (.inr E) E E E E (.inl E)
 exact bK h3 fun y4 hy4 h5=>gA 3 E<|Kdy C (Kvf hy4) E Z E E E E E<|bK h5 fun y6 hy6 h7=>Kdy C (Kvf hy6) E Z E E E E E<|bK h7 fun y8 hy8 h9=>eo_o E (Kej hy8 E E)<|bK h9 fun y10 hy10 h11=>Kdy C (Kvf hy10) E Z E E E E E<|bK h11 fun y12 hy12 h13=>eo_o E (Kej hy12 E E)<|Kdt hΓ (enc:=eS) [[],[46],[97,46,46,98],[45,97],[65,46,98],[97,95,98],[95,120,46,121],y4,y8,y12,[97,46]] E E E E E E E E E E E E Z<|bK h13 fun y14 hy14 h15=>Kdx [0] (S y14.1) [.box 25 (fQ y14.2)] C (Lcq hy14) E Z E E E E E E E E E E<|gO 5 E<|oSi h15▸Ken hΓ [] (.inr E) E E E E (.inl E)
theorem Ldi{k:Nat}{s:Kxz}{r:Kyc×Kxz}(h:Kzc k s=some r):EC Tryz.prog 16 [.ptr 0 0] [.box 25 (fQ s)] fun g hp'=>g=.agg [S r.1.Root,.d (Sl Lch r.1.Records)]∧hp'=[.box 25 (fQ r.2)]:=by
 unfold Kzc at h
 refine QN Tryz.func16 E Z<|gA 2 E<|Kmj E E E E Z<|Kmi hΓ E E E Z<|gO 4 E<|eo_s Z (nblt.1 E) (Khx 80 8 1 (OpP.s (Khv hΓ [1] (gs:=[S [110,101,116,46,120],.d (.v (.slice none 0 0))]) E E E E E E)) E)<|Kmi hΓ E E E Z<|Kmn hΓ E E E E E E E E Z<|Keg [.box 25 (fQ s),.box 23 [.ptr 0 0],.box 48 [S [],.d (Sl Lch [])],rO 80 8 Lch ([]:List Kyb),.box 48 [S [110,101,116,46,120],.sl 3 ([]:List Kyb).length]] E<|gO 5 E<|Kdt hΓ (enc:=eS) [[42,46,108,97,98,46,110,101,116,46,120],[42,46,110,101,116,46,120],[97,46,110,101,116,46,120],[98,46,110,101,116,46,120],[99,46,110,101,116,46,120],[100,101,101,112,46,97,46,110,101,116,46,120],[110,101,116,46,120],[115,46,116,46,110,101,116,46,120]] E E E E E E E E E E E E Z<|gO 4 E<|bK h fun q4 hq4 h5=>Kdh 9 E fun hb7=>Khe [(1,.ptr 1 0),(2,.ptr 2 0),(3,.ptr 4 0)] [.box 25 (fQ q4.1),.box 23 [.ptr 0 0],.box 48 [S [],.d (Sl Lch [])],rO 80 8 Lch q4.2,.box 48 [S [110,101,116,46,120],.sl 3 q4.2.length]] ?_ ?_
 ·refine gA 1 E<|Kep [[42,46,108,97,98,46,110,101,116,46,120],[42,46,110,101,116,46,120],[97,46,110,101,116,46,120],[98,46,110,101,116,46,120],[99,46,110,101,116,46,120],[100,101,101,112,46,97,46,110,101,116,46,120],[110,101,116,46,120],[115,46,116,46,110,101,116,46,120]] hq4 (fun i1 s2=>[(1,.ptr 1 0),(2,.ptr 2 0),(3,.ptr 4 0),(9,.d (Sl eS [[42,46,108,97,98,46,110,101,116,46,120],[42,46,110,101,116,46,120],[97,46,110,101,116,46,120],[98,46,110,101,116,46,120],[99,46,110,101,116,46,120],[100,101,101,112,46,97,46,110,101,116,46,120],[110,101,116,46,120],[115,46,116,46,110,101,116,46,120]])),(10,I ([[42,46,108,97,98,46,110,101,116,46,120],[42,46,110,101,116,46,120],[97,46,110,101,116,46,120],[98,46,110,101,116,46,120],[99,46,110,101,116,46,120],[100,101,101,112,46,97,46,110,101,116,46,120],[110,101,116,46,120],[115,46,116,46,110,101,116,46,120]].length:Int)),(11,I (i1:Int))]) (fun s2=>[.box 25 (fQ s2.1),.box 23 [.ptr 0 0],.box 48 [S [],.d (Sl Lch [])],rO 80 8 Lch s2.2,.box 48 [S [110,101,116,46,120],.sl 3 s2.2.length]]) ⟨⟨E,E,E,E,E,E,tV⟩,[],E,.inl E⟩ (fun i1 x3 s2 y11 hx8 hlt hy9=>?_) (?_)
  ·refine gA 6 E<|Kcs E (dT (Int.ofNat_lt.2 hlt))<|gA 6 E<|eo_o E (Kdi hΓ (enc:=eS) (Kdb hx8) E E E E E (fun _=>E))<|bK hy9 fun y12 hy12 h13=>gO 8 E<|Kdx [0] (B y12.1) [.box 25 (fQ y12.2),.box 23 [.ptr 0 0],.box 48 [S [],.d (Sl Lch [])],rO 80 8 Lch s2.2,.box 48 [S [110,101,116,46,120],.sl 3 s2.2.length]] C (Lcl hy12) E Z E E E E E E E E E E<|gO 2 E<|jC E h13 (fun h14=>?_) fun h15=>gA 4 E<|Kdv (t:=0) 80 8 E Z<|gO 6 E<|Kdt hΓ (enc:=(eN .i64)) [1,1,2,3] E E E E E E E E E E E E Z<|bK h15 fun y16 hy16 h17=>Kdx [0] (I y16.1) [.box 25 (fQ y16.2),.box 23 [.ptr 0 0],.box 48 [S [],.d (Sl Lch [])],rO 80 8 Lch s2.2,.box 48 [S [110,101,116,46,120],.sl 3 s2.2.length],rO 80 8 Lch ([]:List Kyb)] C (Lcm hy16) E Z E E E E E E E E E E<|gO 3 E<|bK h17 fun q21 hq21 h22=>gK hq21 fun hb24 h25=>?_
   ·refine gA 8 E ?_
    cases h14
    exact⟨⟨E,E,E,E,E,Kbx E (Kbw (nLl hlt hb7)),tV⟩,[],E,.inl E⟩
   replace hb24:=of_decide_eq_true hb24
   refine Khe [(1,.ptr 1 0),(2,.ptr 2 0),(3,.ptr 4 0),(6,.sl 5 q21.2.length),(9,.d (Sl eS [[42,46,108,97,98,46,110,101,116,46,120],[42,46,110,101,116,46,120],[97,46,110,101,116,46,120],[98,46,110,101,116,46,120],[99,46,110,101,116,46,120],[100,101,101,112,46,97,46,110,101,116,46,120],[110,101,116,46,120],[115,46,116,46,110,101,116,46,120]])),(10,I ([[42,46,108,97,98,46,110,101,116,46,120],[42,46,110,101,116,46,120],[97,46,110,101,116,46,120],[98,46,110,101,116,46,120],[99,46,110,101,116,46,120],[100,101,101,112,46,97,46,110,101,116,46,120],[110,101,116,46,120],[115,46,116,46,110,101,116,46,120]].length:Int)),(11,I (i1:Int))] [.box 25 (fQ q21.1),.box 23 [.ptr 0 0],.box 48 [S [],.d (Sl Lch [])],rO 80 8 Lch s2.2,.box 48 [S [110,101,116,46,120],.sl 3 s2.2.length],rO 80 8 Lch q21.2] ?_ ?_
   ·refine gA 1 E<|Ker h25 (fun i18 s19=>[(1,.ptr 1 0),(2,.ptr 2 0),(3,.ptr 4 0),(5,S x3),(6,.sl 5 s19.2.length),(9,.d (Sl eS [[42,46,108,97,98,46,110,101,116,46,120],[42,46,110,101,116,46,120],[97,46,110,101,116,46,120],[98,46,110,101,116,46,120],[99,46,110,101,116,46,120],[100,101,101,112,46,97,46,110,101,116,46,120],[110,101,116,46,120],[115,46,116,46,110,101,116,46,120]])),(10,I ([[42,46,108,97,98,46,110,101,116,46,120],[42,46,110,101,116,46,120],[97,46,110,101,116,46,120],[98,46,110,101,116,46,120],[99,46,110,101,116,46,120],[100,101,101,112,46,97,46,110,101,116,46,120],[110,101,116,46,120],[115,46,116,46,110,101,116,46,120]].length:Int)),(11,I (i1:Int)),(19,I y16.1),(20,I (i18:Int))]) (fun s19=>[.box 25 (fQ s19.1),.box 23 [.ptr 0 0],.box 48 [S [],.d (Sl Lch [])],rO 80 8 Lch s2.2,.box 48 [S [110,101,116,46,120],.sl 3 s2.2.length],rO 80 8 Lch s19.2]) ⟨⟨E,E,E,E,E,E,E,E,E,E,tV⟩,[],E,.inl E⟩ (fun i18 s19 y29 hlt hy27=>?_) (fun hge=>?_)
    ·refine gA 6 E<|Kcs E (dT hlt)<|bK hy27 fun y30 hy30 h31=>gA 8 E<|Kdx [0] (.agg [S y30.1.Name,I y30.1.Kind,B y30.1.Addr.Six,U y30.1.Addr.Hi,U y30.1.Addr.Lo,S y30.1.To,S y30.1.Words,I y30.1.Life]) [.box 25 (fQ y30.2),.box 23 [.ptr 0 0],.box 48 [S [],.d (Sl Lch [])],rO 80 8 Lch s2.2,.box 48 [S [110,101,116,46,120],.sl 3 s2.2.length],rO 80 8 Lch s19.2] C (Lcu hy30) E Z E E E E E E E E E E<|Kmi hΓ E E E Z<|Kmn hΓ E E E E E E E E Z<|Keg [.box 25 (fQ y30.2),.box 23 [.ptr 0 0],.box 48 [S [],.d (Sl Lch [])],rO 80 8 Lch s2.2,.box 48 [S [110,101,116,46,120],.sl 3 s2.2.length],rO 80 8 Lch s19.2,.box 80 [S y30.1.Name,I y30.1.Kind,B y30.1.Addr.Six,U y30.1.Addr.Hi,U y30.1.Addr.Lo,S y30.1.To,S y30.1.Words,I y30.1.Life]] E<|gO 8 E<|bK h31 fun q32 hq32 h33=>Kcx 11 [(1,.ptr 1 0),(2,.ptr 2 0),(3,.ptr 4 0),(5,S x3),(6,.sl 5 s19.2.length),(7,.ptr 6 0),(9,.d (Sl eS [[42,46,108,97,98,46,110,101,116,46,120],[42,46,110,101,116,46,120],[97,46,110,101,116,46,120],[98,46,110,101,116,46,120],[99,46,110,101,116,46,120],[100,101,101,112,46,97,46,110,101,116,46,120],[110,101,116,46,120],[115,46,116,46,110,101,116,46,120]])),(10,I ([[42,46,108,97,98,46,110,101,116,46,120],[42,46,110,101,116,46,120],[97,46,110,101,116,46,120],[98,46,110,101,116,46,120],[99,46,110,101,116,46,120],[100,101,101,112,46,97,46,110,101,116,46,120],[110,101,116,46,120],[115,46,116,46,110,101,116,46,120]].length:Int)),(11,I (i1:Int)),(19,I y16.1),(20,I (i18:Int)),(39,B q32)] [.box 25 (fQ y30.2),.box 23 [.ptr 0 0],.box 48 [S [],.d (Sl Lch [])],rO 80 8 Lch s2.2,.box 48 [S [110,101,116,46,120],.sl 3 s2.2.length],rO 80 8 Lch s19.2,.box 80 [S y30.1.Name,I y30.1.Kind,B y30.1.Addr.Six,U y30.1.Addr.Hi,U y30.1.Addr.Lo,S y30.1.To,S y30.1.Words,I y30.1.Life]] ?_ ?_
     ·refine Klc E E (fun hb=>?_) (fun hb=>?_)
      ·have h34:=cT hq32 hb
       exact gO 12 E<|oSi h34▸⟨⟨E,E,E,E,E,E,E,E,E,E,E,E,tV⟩,[],E,.inl E⟩
      have h35:=cF hq32 hb
      refine gO 4 E<|bK h35 fun q36 hq36 h37=>Kcx 6 [(1,.ptr 1 0),(2,.ptr 2 0),(3,.ptr 4 0),(5,S x3),(6,.sl 5 s19.2.length),(7,.ptr 6 0),(9,.d (Sl eS [[42,46,108,97,98,46,110,101,116,46,120],[42,46,110,101,116,46,120],[97,46,110,101,116,46,120],[98,46,110,101,116,46,120],[99,46,110,101,116,46,120],[100,101,101,112,46,97,46,110,101,116,46,120],[110,101,116,46,120],[115,46,116,46,110,101,116,46,120]])),(10,I ([[42,46,108,97,98,46,110,101,116,46,120],[42,46,110,101,116,46,120],[97,46,110,101,116,46,120],[98,46,110,101,116,46,120],[99,46,110,101,116,46,120],[100,101,101,112,46,97,46,110,101,116,46,120],[110,101,116,46,120],[115,46,116,46,110,101,116,46,120]].length:Int)),(11,I (i1:Int)),(19,I y16.1),(20,I (i18:Int)),(28,B false),(38,B q36)] [.box 25 (fQ y30.2),.box 23 [.ptr 0 0],.box 48 [S [],.d (Sl Lch [])],rO 80 8 Lch s2.2,.box 48 [S [110,101,116,46,120],.sl 3 s2.2.length],rO 80 8 Lch s19.2,.box 80 [S y30.1.Name,I y30.1.Kind,B y30.1.Addr.Six,U y30.1.Addr.Hi,U y30.1.Addr.Lo,S y30.1.To,S y30.1.Words,I y30.1.Life]] ?_ ?_
      ·refine Klc E E (fun hb=>?_) (fun hb=>?_)
       ·have h38:=cT hq36 hb
        refine bK h38 fun x39 hx39 h40=>?_
        have hj41:=Kes hx39
        exact gO 1 E<|Kla E<|eo_o E (Kdk hΓ hx39 E E E E E E)<|gO 1 E<|Kla E<|eo_o E (Kdq hΓ (enc:=Lch) ((0:Int).toNat) 1 hj41 E E E E (fun _=>E) (g:=I x39.Kind) E)<|gO 3 E<|oSi h40▸⟨⟨E,E,E,E,E,E,E,E,E,E,E,E,E,tV⟩,[],E,.inl E⟩
       have h42:=cF hq36 hb
       exact gO 7 E<|oSi h42▸⟨⟨E,E,E,E,E,E,E,E,E,E,E,E,E,tV⟩,[],E,.inl E⟩
      exact gO 2 E<|oSi h37▸⟨⟨E,E,E,E,E,E,E,E,E,E,E,E,tV⟩,[],E,.inl E⟩
     refine gO 1 E<|bK h33 fun q43 hq43 h44=>Kcx 3 [(1,.ptr 1 0),(2,.ptr 2 0),(3,.ptr 4 0),(5,S x3),(6,.sl 5 s19.2.length),(7,.ptr 6 0),(9,.d (Sl eS [[42,46,108,97,98,46,110,101,116,46,120],[42,46,110,101,116,46,120],[97,46,110,101,116,46,120],[98,46,110,101,116,46,120],[99,46,110,101,116,46,120],[100,101,101,112,46,97,46,110,101,116,46,120],[110,101,116,46,120],[115,46,116,46,110,101,116,46,120]])),(10,I ([[42,46,108,97,98,46,110,101,116,46,120],[42,46,110,101,116,46,120],[97,46,110,101,116,46,120],[98,46,110,101,116,46,120],[99,46,110,101,116,46,120],[100,101,101,112,46,97,46,110,101,116,46,120],[110,101,116,46,120],[115,46,116,46,110,101,116,46,120]].length:Int)),(11,I (i1:Int)),(19,I y16.1),(20,I (i18:Int)),(43,B q43.2)] [.box 25 (fQ q43.1),.box 23 [.ptr 0 0],.box 48 [S [],.d (Sl Lch [])],rO 80 8 Lch s2.2,.box 48 [S [110,101,116,46,120],.sl 3 s2.2.length],rO 80 8 Lch s19.2,.box 80 [S y30.1.Name,I y30.1.Kind,B y30.1.Addr.Six,U y30.1.Addr.Hi,U y30.1.Addr.Lo,S y30.1.To,S y30.1.Words,I y30.1.Life]] ?_ ?_
     ·refine Klc E E (fun hb=>?_) (fun hb=>?_)
      ·have h45:=cT hq43 hb
       exact gO 4 E<|oSi h45▸⟨⟨E,E,E,E,E,E,E,E,E,E,E,E,tV⟩,[],E,.inl E⟩
      have h46:=cF hq43 hb
      exact bK h46 fun y47 hy47 h48=>gO 1 E<|Kla E<|Kdx [0] (B y47.1) [.box 25 (fQ y47.2),.box 23 [.ptr 0 0],.box 48 [S [],.d (Sl Lch [])],rO 80 8 Lch s2.2,.box 48 [S [110,101,116,46,120],.sl 3 s2.2.length],rO 80 8 Lch s19.2,.box 80 [S y30.1.Name,I y30.1.Kind,B y30.1.Addr.Six,U y30.1.Addr.Hi,U y30.1.Addr.Lo,S y30.1.To,S y30.1.Words,I y30.1.Life]] C (Lcl hy47) E Z E E E E E E E E E E<|gO 2 E<|oSi h48▸⟨⟨E,E,E,E,E,E,E,E,E,E,E,E,tV⟩,[],E,.inl E⟩
     refine gO 2 E<|jC E h44 (fun h49=>?_) fun h52=>gA 7 E<|oSi h52▸⟨⟨E,E,E,E,E,E,E,E,E,Kbx E (Kbw (by omega)),tV⟩,[_],E,.inr ⟨HB.mk E,FB.mk E,Z⟩⟩
     exact gA 3 E<|Kdt hΓ (enc:=Lch) [y30.1] E E E E E E E E E E E E Z<|bK h49 fun y50 hy50 h51=>Keh hΓ (enc:=Lch) hy50 E E E E E E E E E (fun _=>E) E E E E<|gO 8 E<|oSi h51▸⟨⟨E,E,E,E,E,E,E,E,E,Kbx E (Kbw (by omega)),tV⟩,[_],E,.inr ⟨HB.mk E,FB.mk E,Z⟩⟩
    exact gA 6 E<|Kct E (dF hge)<|gA 4 E<|⟨⟨E,E,E,E,E,E,E,tV⟩,[],E,.inl E⟩
   refine bK h22 fun y53 hy53 h54=>gA 4 E<|Kdx [5] (.tup []) [.box 25 (fQ q21.1),.box 23 [.ptr 0 0],.box 48 [S [],.d (Sl Lch [])],rO 80 8 Lch s2.2,.box 48 [S [110,101,116,46,120],.sl 3 s2.2.length],rO 80 8 Lch y53] C (Lde hy53) E Z E E E E E E E E E E<|gK h54 fun hg56 h55=>Kho 6 E (of_decide_eq_true hg56).symm<|bK h55 fun y57 hy57 h58=>gO 6 E<|Kdx [5,0,1] (.sl 5 y57.1.length) [.box 25 (fQ y57.2),.box 23 [.ptr 0 0],.box 48 [S [],.d (Sl Lch [])],rO 80 8 Lch s2.2,.box 48 [S [110,101,116,46,120],.sl 3 s2.2.length],rO 80 8 Lch y57.1] C (Ldg hy57) E Z E E E E E E E E E E<|gO 7 E<|Ked 5 [6,53,56] _ [.box 25 (fQ y57.2),.box 23 [.ptr 0 0],.box 48 [S [],.d (Sl Lch [])],rO 80 8 Lch s2.2,.box 48 [S [110,101,116,46,120],.sl 3 s2.2.length],.dead] E E E Z<|bK h58 fun y59 hy59 h60=>Kia 3 [.box 25 (fQ y57.2),.box 23 [.ptr 0 0],.box 48 [S [],.d (Sl Lch [])],rO 80 8 Lch s2.2,.box 48 [S [110,101,116,46,120],.junk],.dead] E Z<|Keh hΓ (enc:=Lch) hy59 E E E E E E E E E (fun _=>E) E E E E<|gO 1 E<|Kmn hΓ E E E E E E E E Z<|Keg [.box 25 (fQ y57.2),.box 23 [.ptr 0 0],.box 48 [S [],.d (Sl Lch [])],rO 80 8 Lch y59,.box 48 [S [110,101,116,46,120],.sl 3 y59.length],.dead] E<|gO 7 E ?_
   cases h60
   exact⟨⟨E,E,E,E,E,Kbx E (Kbw (nLl hlt hb7)),tV⟩,[_],E,.inr ⟨HB.mk E,FB.mk E,Z⟩⟩
  exact gA 6 E<|Kct E (dF (Int.lt_irrefl _))<|gA 4 E<|⟨⟨E,E,E,tV⟩,[],E,.inl E⟩
 refine bK h5 fun y61 hy61 h62=>gA 5 E<|Kdx [0] (B y61.1) [.box 25 (fQ y61.2),.box 23 [.ptr 0 0],.box 48 [S [],.d (Sl Lch [])],rO 80 8 Lch q4.2,.box 48 [S [110,101,116,46,120],.sl 3 q4.2.length]] C (Lcl hy61) E Z E E E E E E E E E E<|bK h62 fun q63 hq63 h64=>gO 2 E<|Khe [(2,.ptr 2 0),(3,.ptr 4 0)] [.box 25 (fQ q63.1),.box 23 [.ptr 0 0],.box 48 [S [],.d (Sl Lch [])],rO 80 8 Lch q4.2,.box 48 [S q63.2,.sl 3 q4.2.length]] ?_ ?_
 ·refine jC E hq63 (fun h65=>?_) fun h68=>gA 1 E<|oSi h68▸⟨⟨E,E,tV⟩,[],E,.inl E⟩
  exact bK h65 fun y66 hy66 h67=>gA 2 E<|Kdx [0] (S y66.1) [.box 25 (fQ y66.2),.box 23 [.ptr 0 0],.box 48 [S [],.d (Sl Lch [])],rO 80 8 Lch q4.2,.box 48 [S [110,101,116,46,120],.sl 3 q4.2.length]] C (Ldh hy66) E Z E E E E E E E E E E<|gO 1 E<|Kmn hΓ E E E E E E E E Z<|Keg [.box 25 (fQ y66.2),.box 23 [.ptr 0 0],.box 48 [S [],.d (Sl Lch [])],rO 80 8 Lch q4.2,.box 48 [S y66.1,.sl 3 q4.2.length]] E<|gO 1 E<|oSi h67▸⟨⟨E,E,tV⟩,[],E,.inl E⟩
 exact gA 4 E<|Ked 3 [65] _ [.box 25 (fQ q63.1),.box 23 [.ptr 0 0],.box 48 [S [],.d (Sl Lch [])],.dead,.box 48 [S q63.2,.d (Sl Lch q4.2)]] E E E Z<|Kmn hΓ E E E E E E E E Z<|Keg [.box 25 (fQ q63.1),.box 23 [.ptr 0 0],.box 48 [S q63.2,.d (Sl Lch q4.2)],.dead,.box 48 [S q63.2,.d (Sl Lch q4.2)]] E<|gO 3 E<|oSi h64▸Ken hΓ [_,_,_,_] (.inr E) E E E E (.inr ⟨HB.mk E,E⟩)
theorem Ldj{c:Int}{r:Bool}(h:Kzd c=some r):Pure Tryz.prog 192 [.d (.v (.int .u8 c))] (B r):=by
 unfold Kzd at h
 refine QP Tryz.func192 E E E<|gA 10 E<|Kcx 3 [(0,.d (.v (.int .u8 c))),(2,B false),(8,B ((decide ((c:Int)≥97))&&(decide ((c:Int)≤122))))] [] ?_ ?_
 ·refine Klc E E (fun hb=>?_) (fun hb=>?_)
  ·exact gO 4 E<|⟨⟨E,E,Kby E (Ket hb),tV⟩,[],E,.inl E⟩
  exact gO 4 E<|⟨⟨E,E,Kby E (Keu hb),tV⟩,[],E,.inl E⟩
 refine gO 1 E<|Kcx 7 [(2,B false),(16,B (((decide ((c:Int)≥97))&&(decide ((c:Int)≤122)))||((decide ((c:Int)≥48))&&(decide ((c:Int)≤57)))))] [] ?_ ?_
 ·refine Klc E E (fun hb=>?_) (fun hb=>?_)
  ·exact gO 8 E<|⟨⟨E,Kby E (or_t hb),tV⟩,[],E,.inl E⟩
  refine gO 3 E<|Kcx 3 [(2,B false),(9,B false),(15,B ((decide ((c:Int)≥48))&&(decide ((c:Int)≤57))))] [] ?_ ?_
  ·refine Klc E E (fun hb=>?_) (fun hb=>?_)
   ·exact gO 4 E<|⟨⟨E,E,Kby E (Ket hb),tV⟩,[],E,.inl E⟩
   exact gO 4 E<|⟨⟨E,E,Kby E (Keu hb),tV⟩,[],E,.inl E⟩
  exact gO 2 E<|⟨⟨E,Kby E (or_f hb),tV⟩,[],E,.inl E⟩
 exact gO 4 E<|oSi h▸gP E E
theorem Ldk{k:Nat}{s:Str}{r:Bool}(h:Kze k s=some r):Pure Tryz.prog 194 [S s] (B r):=by
 induction k generalizing s r with
 | zero=>unfold Kze at h;cases h
 | succ k ih0=>
  have ih:∀ {s:Str} {r:Bool},Kze k s=some r→Pure Tryz.prog 194 [S s] (B r):=by intro s r h;first | exact ih0 h | exact ih0 _ _ h
  refine Pure.enter (Fr.of 0 _) Tryz.func194 E (Fr.of_ok _) E E ?_
  refine Kcq ?_
  unfold Kze at h
  obtain⟨y1,hy1,h2⟩:=Kcy h
  refine gA 9 E ?_
  refine Kdy C (Kvb hy1) E Z E E E E E ?_
  refine gO 12 E ?_
  refine Kcr E (fun hb=>?_) (fun hb=>?_)
  ·have h3:=cT h2 hb
   obtain⟨y4,hy4,h5⟩:=Kcy h3
   refine gA 3 E ?_
   refine Kdy C (Kuz hy4) E Z E E E E E ?_
   refine gO 2 E ?_
   obtain⟨q6,hq6,h7⟩:=Kcy h5
   refine Kcx 3 [(0,S s),(2,B false),(18,B q6)] [] ?_ ?_
   ·refine Klc E E (fun hb=>?_) (fun hb=>?_)
    ·have h8:=cT hq6 hb
     obtain⟨y9,hy9,h10⟩:=Kcy h8
     refine gO 1 E ?_
     refine Kla E ?_
     refine Kdy C (ih hy9) E Z E E E E E ?_
     refine gO 2 E ?_
     obtain rfl:=oSi h10
     exact⟨⟨E,E,E,tV⟩,[],E,.inl E⟩
    have h11:=cF hq6 hb
    refine gO 4 E ?_
    obtain rfl:=oSi h11
    exact⟨⟨E,E,E,tV⟩,[],E,.inl E⟩
   refine gO 1 E ?_
   refine Kcx 4 [(2,B false),(23,B (q6&&(decide (((s.length:Int):Int)≤63))))] [] ?_ ?_
   ·refine Klc E E (fun hb=>?_) (fun hb=>?_)
    ·refine gO 5 E ?_
     exact⟨⟨E,Kby E (Ket hb),tV⟩,[],E,.inl E⟩
    refine gO 5 E ?_
    exact⟨⟨E,Kby E (Keu hb),tV⟩,[],E,.inl E⟩
   refine gO 5 E ?_
   obtain rfl:=oSi h7
   exact gP E E
  have h12:=cF h2 hb
  refine gA 10 E ?_
  obtain⟨q16,hq16,h17⟩:=Kcy h12
  obtain⟨hb19,h20⟩:=Kcz hq16
  replace hb19:=of_decide_eq_true hb19
  refine Khd (R:=fun a18=>q16=.go a18) (fun a18=>[(0,S s)]) (fun a18=>[]) ?_ ?_
  ·refine gA 1 E ?_
   refine Keq h20 (fun i13 s14=>[(0,S s),(25,I (s.length:Int)),(26,I (i13:Int))]) (fun s14=>[]) ⟨⟨E,E,E,tV⟩,[],E,.inl E⟩ (fun i13 s14 y24 hlt hy22 hout23=>?_) (fun s14 hgo hge=>?_)
   ·refine gA 6 E ?_
    refine Kcs E (dT hlt) ?_
    obtain⟨c25,hc25,h26⟩:=Kcy hy22
    refine gA 14 E ?_
    refine eo_o E (Kdj hΓ hc25 E E E E) ?_
    obtain⟨y27,hy27,h28⟩:=Kcy h26
    refine Kdy C (Ldj hy27) E Z E E E E E ?_
    refine gO 2 E ?_
    obtain⟨q29,hq29,h30⟩:=Kcy h28
    refine Kcx 5 [(0,S s),(25,I (s.length:Int)),(26,I (i13:Int)),(39,B q29)] [] ?_ ?_
    ·refine Klc E E (fun hb=>?_) (fun hb=>?_)
     ·have h31:=cT hq29 hb
      obtain⟨c32,hc32,h33⟩:=Kcy h31
      refine gO 2 E ?_
      refine Kla E ?_
      refine eo_o E (Kdj hΓ hc32 E E E E) ?_
      refine gO 3 E ?_
      obtain rfl:=oSi h33
      exact⟨⟨E,E,E,E,tV⟩,[],E,.inl E⟩
     have h34:=cF hq29 hb
     refine gO 6 E ?_
     obtain rfl:=oSi h34
     exact⟨⟨E,E,E,E,tV⟩,[],E,.inl E⟩
    refine gO 2 E ?_
    refine Kcr E (fun hb=>?_) (fun hb=>?_)
    ·have h35:=cT h30 hb
     refine gA 8 E ?_
     obtain⟨v36,hv36,h37⟩:=Kcy h35
     obtain rfl:=oSi h37
     obtain rfl:=hout23 _ rfl
     obtain rfl:=oSi h17
     refine gA 4 E ?_
     obtain rfl:=oSi hv36
     exact gP E E
    have h38:=cF h30 hb
    refine gA 7 E ?_
    obtain rfl:=oSi h38
    exact⟨_,E,⟨⟨E,E,Kbx E (Kbw (by omega)),tV⟩,[],E,.inl E⟩⟩
   subst hgo
   refine gA 6 E ?_
   refine Kct E (dF hge) ?_
   refine gA 4 E ?_
   exact⟨_,E,⟨⟨E,tV⟩,[],E,.inl E⟩⟩
  intro a18 ha
  subst ha
  replace h17:=Kgy h17
  refine gA 6 E ?_
  refine Kcx 4 [(0,S s),(47,B ((!((s:Str)==[]))&&(decide (((s.length:Int):Int)≤63))))] [] ?_ ?_
  ·refine Klc E E (fun hb=>?_) (fun hb=>?_)
   ·refine gO 5 E ?_
    exact⟨⟨E,Kby E (Ket hb),tV⟩,[],E,.inl E⟩
   refine gO 5 E ?_
   exact⟨⟨E,Kby E (Keu hb),tV⟩,[],E,.inl E⟩
  refine gO 1 E ?_
  obtain⟨q39,hq39,h40⟩:=Kcy h17
  refine Kcx 4 [(0,S s),(52,B q39)] [] ?_ ?_
  ·refine Klc E E (fun hb=>?_) (fun hb=>?_)
   ·have h41:=cT hq39 hb
    obtain⟨c42,hc42,h43⟩:=Kcy h41
    refine gO 1 E ?_
    refine Kla E ?_
    refine eo_o E (Kdj hΓ hc42 E E E E) ?_
    refine gO 3 E ?_
    obtain rfl:=oSi h43
    exact⟨⟨E,E,tV⟩,[],E,.inl E⟩
   have h44:=cF hq39 hb
   refine gO 5 E ?_
   obtain rfl:=oSi h44
   exact⟨⟨E,E,tV⟩,[],E,.inl E⟩
  refine gO 1 E ?_
  obtain⟨q45,hq45,h46⟩:=Kcy h40
  refine Kcx 7 [(60,B q45)] [] ?_ ?_
  ·refine Klc E E (fun hb=>?_) (fun hb=>?_)
   ·have h47:=cT hq45 hb
    obtain⟨c48,hc48,h49⟩:=Kcy h47
    refine gO 4 E ?_
    refine Kla E ?_
    refine eo_o E (Kdj hΓ hc48 E E E E) ?_
    refine gO 3 E ?_
    obtain rfl:=oSi h49
    exact⟨⟨E,tV⟩,[],E,.inl E⟩
   have h50:=cF hq45 hb
   refine gO 8 E ?_
   obtain rfl:=oSi h50
   exact⟨⟨E,tV⟩,[],E,.inl E⟩
  refine gO 4 E ?_
  obtain rfl:=oSi h46
  exact gP E E
theorem Ldl{k:Nat}{s:Str}{r:Int}(h:Kzf k s=some r):Pure Tryz.prog 102 [S s] (I r):=by
 unfold Kzf at h
 refine QP Tryz.func102 E E E<|gA 13 E<|jC E h (fun h1=>?_) fun h2=>bK h2 fun y3 hy3 h4=>gA 6 E<|Kdy C (Pure.rows (Kve hy3) E E) E Z E E E E E<|gO 4 E<|bK h4 fun q8 hq8 h9=>Kdh 9 E fun hb11=>Khd (R:=fun a10=>q8=.go a10) (fun a10=>[]) (fun a10=>[]) ?_ ?_
 ·exact gA 7 E<|oSi h1▸gP E E
 ·refine gA 1 E<|Kdg y3 hq8 (fun i5 s6=>[(9,.d (Sl eS y3)),(10,I (y3.length:Int)),(11,I (i5:Int))]) (fun s6=>[]) ⟨⟨E,E,E,tV⟩,[],E,.inl E⟩ (fun i5 x7 s6 y15 hx12 hlt hy13 hout14=>?_) (fun s6 hgo=>?_)
  ·refine gA 6 E<|Kcs E (dT (Int.ofNat_lt.2 hlt))<|gA 6 E<|eo_o E (Kdi hΓ (enc:=eS) (Kdb hx12) E E E E E (fun _=>E))<|bK hy13 fun y16 hy16 h17=>gO 7 E<|Kdy C (Ldk hy16) E Z E E E E E<|gO 3 E<|jC E h17 (fun h18=>?_) fun h21=>gA 7 E ?_
   ·refine gA 8 E<|bK h18 fun v19 hv19 h20=>?_
    cases h20
    obtain rfl:=hout14 _ rfl
    cases h9
    exact gA 4 E<|oSi hv19▸gP E E
   cases h21
   exact⟨_,E,⟨⟨E,E,Kbx E (Kbw (nLl hlt hb11)),tV⟩,[],E,.inl E⟩⟩
  subst hgo
  exact gA 6 E<|Kct E (dF (Int.lt_irrefl _))<|gA 4 E<|⟨_,E,⟨tV,[],E,.inl E⟩⟩
 intro a10 ha
 subst ha
 replace h9:=Kgy h9
 exact gA 7 E<|oSi h9▸gP E E
theorem Ldm{name:Str}{r:Str}(h:Kzg name=some r):Pure Tryz.prog 175 [S name] (S r):=by
 unfold Kzg at h
 exact QP Tryz.func175 E E E<|bK h fun y1 hy1 h2=>gA 8 E<|Kdy C (Kva hy1) E Z E E E E E<|gO 4 E<|oSi h2▸gP E E
theorem Ldn{kind:Int}{r:Bool}(h:Kzh kind=some r):Pure Tryz.prog 219 [I kind] (B r):=by
 unfold Kzh at h
 refine QP Tryz.func219 E E E<|bK h fun q1 hq1 h2=>gA 19 E<|Khe [(4,B q1)] [] ?_ ?_
 ·refine jC E hq1 (fun h3=>?_) fun h4=>gA 6 E<|jC E h4 (fun h5=>?_) fun h6=>?_
  ·exact gA 1 E<|oSi h3▸⟨⟨E,tV⟩,[],E,.inl E⟩
  ·exact gA 1 E<|oSi h5▸⟨⟨E,tV⟩,[],E,.inl E⟩
  refine gA 6 E<|jC E h6 (fun h7=>?_) fun h8=>gA 6 E<|jC E h8 (fun h9=>?_) fun h10=>?_
  ·exact gA 1 E<|oSi h7▸⟨⟨E,tV⟩,[],E,.inl E⟩
  ·exact gA 1 E<|oSi h9▸⟨⟨E,tV⟩,[],E,.inl E⟩
  exact gA 4 E<|oSi h10▸⟨⟨E,tV⟩,[],E,.inl E⟩
 refine gA 1 E<|jC E h2 (fun h11=>?_) fun h12=>gA 9 E<|oSi h12▸gP E E
 exact gA 8 E<|oSi h11▸gP E E
theorem Ldo{kind:Int}{r:Bool}(h:Kzi kind=some r):Pure Tryz.prog 84 [I kind] (B r):=by
 unfold Kzi at h
 refine QP Tryz.func84 E E E<|gA 10 E<|Kcx 3 [(2,B false),(8,B (((kind:Int)==1)||((kind:Int)==28)))] [] ?_ ?_
 ·refine Klc E E (fun hb=>?_) (fun hb=>?_)
  ·exact gO 4 E<|⟨⟨E,Kby E (or_t hb),tV⟩,[],E,.inl E⟩
  exact gO 4 E<|⟨⟨E,Kby E (or_f hb),tV⟩,[],E,.inl E⟩
 exact gO 4 E<|oSi h▸gP E E
theorem Ldp{a:Kya}{r:Int}(h:Kzj a=some r):Pure Tryz.prog 177 [.agg [B a.Six,U a.Hi,U a.Lo]] (I r):=by
 unfold Kzj at h
 refine QP Tryz.func177 E E E<|gA 2 E<|Kmj E E E E Z<|gO 10 E<|Kcx 9 [(15,B ((!a.Six)&&(((a.Hi:Int) != 0)||(decide ((a.Lo:Int)≥4294967296)))))] [.box 39 [B a.Six,U a.Hi,U a.Lo]] ?_ ?_
 ·refine Klc E E (fun hb=>?_) (fun hb=>?_)
  ·refine gO 4 E<|Kcx 4 [(6,B true),(14,B (((a.Hi:Int) != 0)||(decide ((a.Lo:Int)≥4294967296))))] [.box 39 [B a.Six,U a.Hi,U a.Lo]] ?_ ?_
   ·refine Klc E E (fun hb=>?_) (fun hb=>?_)
    ·exact gO 5 E<|⟨⟨E,Kby E (or_t hb),tV⟩,[],E,.inl E⟩
    exact gO 5 E<|⟨⟨E,Kby E (or_f hb),tV⟩,[],E,.inl E⟩
   exact gO 2 E<|⟨⟨Kby E (Ket hb),tV⟩,[],E,.inl E⟩
  exact gO 10 E<|⟨⟨Kby E (Keu hb),tV⟩,[],E,.inl E⟩
 refine gO 2 E<|jC E h (fun h1=>?_) fun h2=>gA 8 E<|oSi h2▸gP E E
 exact gA 7 E<|oSi h1▸gP E E
theorem Ldq{kind:Int}{r:Bool}(h:Kzk kind=some r):Pure Tryz.prog 188 [I kind] (B r):=by
 unfold Kzk at h
 refine QP Tryz.func188 E E E<|gA 10 E<|Kcx 3 [(2,B false),(8,B (((kind:Int)==5)||((kind:Int)==12)))] [] ?_ ?_
 ·refine Klc E E (fun hb=>?_) (fun hb=>?_)
  ·exact gO 4 E<|⟨⟨E,Kby E (or_t hb),tV⟩,[],E,.inl E⟩
  exact gO 4 E<|⟨⟨E,Kby E (or_f hb),tV⟩,[],E,.inl E⟩
 exact gO 4 E<|oSi h▸gP E E
theorem Ldr{k:Nat}{s:Str}{r:Bool}(h:Kzl k s=some r):Pure Tryz.prog 220 [S s] (B r):=by
 unfold Kzl at h
 refine QP Tryz.func220 E E E<|gA 11 E<|bK h fun q4 hq4 h5=>Khd (R:=fun a6=>q4=.inl a6) (fun a6=>[(0,S s)]) (fun a6=>[]) ?_ ?_
 ·refine gA 1 E<|Kde hq4 (fun s2=>[(0,S s),(3,I s2)]) (fun s2=>[]) ⟨⟨E,E,tV⟩,[],E,.inl E⟩ (fun s2 y10 hy8 hout9=>?_)
  refine gA 9 E<|jC E hy8 (fun h11=>?_) fun h24=>gA 4 E ?_
  ·refine bK h11 fun c12 hc12 h13=>gA 8 E<|eo_o E (Kdj hΓ hc12 E E E E)<|gO 2 E<|bK h13 fun q14 hq14 h15=>Kcx 5 [(0,S s),(3,I s2),(19,B q14)] [] ?_ ?_
   ·refine Klc E E (fun hb=>?_) (fun hb=>?_)
    ·have h16:=cT hq14 hb
     exact gO 6 E<|oSi h16▸⟨⟨E,E,E,tV⟩,[],E,.inl E⟩
    have h17:=cF hq14 hb
    exact bK h17 fun c18 hc18 h19=>gO 2 E<|Kla E<|eo_o E (Kdj hΓ hc18 E E E E)<|gO 3 E<|oSi h19▸⟨⟨E,E,E,tV⟩,[],E,.inl E⟩
   refine gO 2 E<|jC E h15 (fun h20=>?_) fun h23=>gA 8 E<|oSi h23▸⟨_,E,⟨⟨E,E,tV⟩,[],E,.inl E⟩⟩
   refine gA 8 E<|bK h20 fun v21 hv21 h22=>?_
   cases h22
   obtain rfl:=hout9 _ rfl
   cases h5
   exact gA 4 E<|oSi hv21▸gP E E
  cases h24
  obtain rfl:=hout9 _ rfl
  exact⟨_,E,⟨⟨E,tV⟩,[],E,.inl E⟩⟩
 intro a6 ha
 subst ha
 replace h5:=Kgx h5
 refine bK h5 fun y25 hy25 h26=>gA 4 E<|Kdy C (Kvj hy25) E Z E E E E E<|gO 1 E<|bK h26 fun q27 hq27 h28=>Kcx 5 [(0,S s),(27,B q27)] [] ?_ ?_
 ·refine Klc E E (fun hb=>?_) (fun hb=>?_)
  ·have h29:=cT hq27 hb
   exact bK h29 fun y30 hy30 h31=>gO 1 E<|Kla E<|Kdy C (Kvd hy30) E Z E E E E E<|gO 4 E<|oSi h31▸⟨⟨E,E,tV⟩,[],E,.inl E⟩
  have h32:=cF hq27 hb
  exact gO 6 E<|oSi h32▸⟨⟨E,E,tV⟩,[],E,.inl E⟩
 refine gO 1 E<|bK h28 fun q33 hq33 h34=>Kcx 4 [(32,B q33)] [] ?_ ?_
 ·refine Klc E E (fun hb=>?_) (fun hb=>?_)
  ·have h35:=cT hq33 hb
   exact bK h35 fun y36 hy36 h37=>gO 1 E<|Kla E<|Kdy C (Kvk hy36) E Z E E E E E<|gO 3 E<|oSi h37▸⟨⟨E,tV⟩,[],E,.inl E⟩
  have h38:=cF hq33 hb
  exact gO 5 E<|oSi h38▸⟨⟨E,tV⟩,[],E,.inl E⟩
 exact gO 4 E<|oSi h34▸gP E E
theorem Lds{n:Int}{low:Int}{high:Int}{r:Bool}(h:Kzm n low high=some r):Pure Tryz.prog 123 [I n,I low,I high] (B r):=by
 unfold Kzm at h
 refine QP Tryz.func123 E E E<|gA 11 E<|Kcx 4 [(6,B false),(14,B ((decide ((n:Int)<low))||(decide ((n:Int)>high))))] [] ?_ ?_
 ·refine Klc E E (fun hb=>?_) (fun hb=>?_)
  ·exact gO 5 E<|⟨⟨E,Kby E (or_t hb),tV⟩,[],E,.inl E⟩
  exact gO 5 E<|⟨⟨E,Kby E (or_f hb),tV⟩,[],E,.inl E⟩
 exact gO 4 E<|oSi h▸gP E E
theorem Ldt{k:Nat}{v_r:Kyb}{r:Int}(h:Kzn k v_r=some r):Pure Tryz.prog 126 [.agg [S v_r.Name,I v_r.Kind,B v_r.Addr.Six,U v_r.Addr.Hi,U v_r.Addr.Lo,S v_r.To,S v_r.Words,I v_r.Life]] (I r):=by
 unfold Kzn at h
 refine QP Tryz.func126 E E E<|gA 2 E<|Kmj E E E E Z<|bK h fun y1 hy1 h2=>gO 9 E<|Kdy C (Ldm hy1) E Z E E E E E<|bK h2 fun y3 hy3 h4=>Kdy C (Ldl hy3) E Z E E E E E<|gO 2 E<|Kcx 5 [(1,.ptr 0 0),(14,B (((y3:Int) != 0)||(decide (((v_r.Name.length:Int):Int)>253))))] [.box 80 [S v_r.Name,I v_r.Kind,B v_r.Addr.Six,U v_r.Addr.Hi,U v_r.Addr.Lo,S v_r.To,S v_r.Words,I v_r.Life]] ?_ ?_
 ·refine Klc E E (fun hb=>?_) (fun hb=>?_)
  ·exact gO 6 E<|⟨⟨E,Kby E (or_t hb),tV⟩,[],E,.inl E⟩
  exact gO 6 E<|⟨⟨E,Kby E (or_f hb),tV⟩,[],E,.inl E⟩
 refine gO 3 E<|Kcr E (fun hb=>?_) (fun hb=>?_)
 ·have h5:=cT h4 hb
  exact gA 8 E<|oSi h5▸gP E E
 have h6:=cF h4 hb
 refine bK h6 fun y7 hy7 h8=>gA 4 E<|Kdy C (Ldn hy7) E Z E E E E E<|gO 4 E<|Kcr E (fun hb=>?_) (fun hb=>?_)
 ·have h9:=cT h8 hb
  exact gA 8 E<|oSi h9▸gP E E
 have h10:=cF h8 hb
 refine bK h10 fun y11 hy11 h12=>gA 4 E<|Kdy C (Ldo hy11) E Z E E E E E<|gO 1 E<|bK h12 fun q13 hq13 h14=>Kcx 14 [(1,.ptr 0 0),(38,B q13)] [.box 80 [S v_r.Name,I v_r.Kind,B v_r.Addr.Six,U v_r.Addr.Hi,U v_r.Addr.Lo,S v_r.To,S v_r.Words,I v_r.Life]] ?_ ?_
 ·refine Klc E E (fun hb=>?_) (fun hb=>?_)
  ·have h15:=cT hq13 hb
   refine gO 8 E<|bK h15 fun q16 hq16 h17=>Kcx 5 [(1,.ptr 0 0),(24,B true),(37,B q16)] [.box 80 [S v_r.Name,I v_r.Kind,B v_r.Addr.Six,U v_r.Addr.Hi,U v_r.Addr.Lo,S v_r.To,S v_r.Words,I v_r.Life]] ?_ ?_
   ·refine Klc E E (fun hb=>?_) (fun hb=>?_)
    ·have h18:=cT hq16 hb
     exact gO 6 E<|oSi h18▸⟨⟨E,E,E,tV⟩,[],E,.inl E⟩
    have h19:=cF hq16 hb
    exact bK h19 fun y20 hy20 h21=>gO 2 E<|Kla E<|Kdy C (Ldp hy20) E Z E E E E E<|gO 3 E<|oSi h21▸⟨⟨E,E,E,tV⟩,[],E,.inl E⟩
   exact gO 2 E<|oSi h17▸⟨⟨E,E,tV⟩,[],E,.inl E⟩
  have h22:=cF hq13 hb
  exact gO 15 E<|oSi h22▸⟨⟨E,E,tV⟩,[],E,.inl E⟩
 refine gO 3 E<|Kcr E (fun hb=>?_) (fun hb=>?_)
 ·have h23:=cT h14 hb
  exact gA 8 E<|oSi h23▸gP E E
 have h24:=cF h14 hb
 refine bK h24 fun y25 hy25 h26=>gA 4 E<|Kdy C (Ldo hy25) E Z E E E E E<|gO 2 E<|Kcx 5 [(1,.ptr 0 0),(49,B ((!y25)&&(!(((v_r.Addr.Six:Bool)==false)&&(((v_r.Addr.Hi:Int)==0)&&(((v_r.Addr.Lo:Int)==0)&&true))))))] [.box 80 [S v_r.Name,I v_r.Kind,B v_r.Addr.Six,U v_r.Addr.Hi,U v_r.Addr.Lo,S v_r.To,S v_r.Words,I v_r.Life]] ?_ ?_
 ·refine Klc E E (fun hb=>?_) (fun hb=>?_)
  ·exact gO 2 E<|Kla E<|Kau hΓ (gs:=[B false,U 0,U 0]) E E E E E E E<|Kla E<|eo_o E (Key hΓ [39] (b:=(((v_r.Addr.Six:Bool)==false)&&(((v_r.Addr.Hi:Int)==0)&&(((v_r.Addr.Lo:Int)==0)&&true)))) (by kernel_rfl) (by kernel_rfl) E E E)<|gO 2 E<|⟨⟨E,Kby E (Ket hb),tV⟩,[],E,.inl E⟩
  exact gO 6 E<|⟨⟨E,Kby E (Keu hb),tV⟩,[],E,.inl E⟩
 refine gO 3 E<|Kcr E (fun hb=>?_) (fun hb=>?_)
 ·have h27:=cT h26 hb
  exact gA 8 E<|oSi h27▸gP E E
 have h28:=cF h26 hb
 refine bK h28 fun y29 hy29 h30=>gA 4 E<|Kdy C (Ldq hy29) E Z E E E E E<|gO 1 E<|bK h30 fun q31 hq31 h32=>Kcx 5 [(1,.ptr 0 0),(59,B q31)] [.box 80 [S v_r.Name,I v_r.Kind,B v_r.Addr.Six,U v_r.Addr.Hi,U v_r.Addr.Lo,S v_r.To,S v_r.Words,I v_r.Life]] ?_ ?_
 ·refine Klc E E (fun hb=>?_) (fun hb=>?_)
  ·have h33:=cT hq31 hb
   exact bK h33 fun y34 hy34 h35=>gO 2 E<|Kla E<|Kdy C (Ldl hy34) E Z E E E E E<|gO 3 E<|oSi h35▸⟨⟨E,E,tV⟩,[],E,.inl E⟩
  have h36:=cF hq31 hb
  exact gO 6 E<|oSi h36▸⟨⟨E,E,tV⟩,[],E,.inl E⟩
 refine gO 3 E<|Kcr E (fun hb=>?_) (fun hb=>?_)
 ·have h37:=cT h32 hb
  exact gA 8 E<|oSi h37▸gP E E
 have h38:=cF h32 hb
 refine bK h38 fun y39 hy39 h40=>gA 4 E<|Kdy C (Ldq hy39) E Z E E E E E<|gO 2 E<|Kcx 4 [(1,.ptr 0 0),(69,B ((!y39)&&(!((v_r.To:Str)==[]))))] [.box 80 [S v_r.Name,I v_r.Kind,B v_r.Addr.Six,U v_r.Addr.Hi,U v_r.Addr.Lo,S v_r.To,S v_r.Words,I v_r.Life]] ?_ ?_
 ·refine Klc E E (fun hb=>?_) (fun hb=>?_)
  ·exact gO 5 E<|⟨⟨E,Kby E (Ket hb),tV⟩,[],E,.inl E⟩
  exact gO 5 E<|⟨⟨E,Kby E (Keu hb),tV⟩,[],E,.inl E⟩
 refine gO 3 E<|Kcr E (fun hb=>?_) (fun hb=>?_)
 ·have h41:=cT h40 hb
  exact gA 8 E<|oSi h41▸gP E E
 have h42:=cF h40 hb
 refine gA 6 E<|bK h42 fun q43 hq43 h44=>Kcx 11 [(1,.ptr 0 0),(85,B q43)] [.box 80 [S v_r.Name,I v_r.Kind,B v_r.Addr.Six,U v_r.Addr.Hi,U v_r.Addr.Lo,S v_r.To,S v_r.Words,I v_r.Life]] ?_ ?_
 ·refine Klc E E (fun hb=>?_) (fun hb=>?_)
  ·have h45:=cT hq43 hb
   refine bK h45 fun y46 hy46 h47=>gO 2 E<|Kla E<|Kdy C (Ldr hy46) E Z E E E E E<|gO 2 E<|Kcx 5 [(1,.ptr 0 0),(74,B true),(84,B ((!y46)||(decide (((v_r.Words.length:Int):Int)>200))))] [.box 80 [S v_r.Name,I v_r.Kind,B v_r.Addr.Six,U v_r.Addr.Hi,U v_r.Addr.Lo,S v_r.To,S v_r.Words,I v_r.Life]] ?_ ?_
   ·refine Klc E E (fun hb=>?_) (fun hb=>?_)
    ·exact gO 6 E<|⟨⟨E,E,Kby E (or_t hb),tV⟩,[],E,.inl E⟩
    exact gO 6 E<|⟨⟨E,E,Kby E (or_f hb),tV⟩,[],E,.inl E⟩
   exact gO 2 E<|oSi h47▸⟨⟨E,E,tV⟩,[],E,.inl E⟩
  have h48:=cF hq43 hb
  exact gO 12 E<|oSi h48▸⟨⟨E,E,tV⟩,[],E,.inl E⟩
 refine gO 1 E<|Kcx 9 [(1,.ptr 0 0),(95,B (q43||(((v_r.Kind:Int) != 16)&&(!((v_r.Words:Str)==[])))))] [.box 80 [S v_r.Name,I v_r.Kind,B v_r.Addr.Six,U v_r.Addr.Hi,U v_r.Addr.Lo,S v_r.To,S v_r.Words,I v_r.Life]] ?_ ?_
 ·refine Klc E E (fun hb=>?_) (fun hb=>?_)
  ·exact gO 10 E<|⟨⟨E,Kby E (or_t hb),tV⟩,[],E,.inl E⟩
  refine gO 4 E<|Kcx 4 [(1,.ptr 0 0),(86,B false),(94,B (((v_r.Kind:Int) != 16)&&(!((v_r.Words:Str)==[]))))] [.box 80 [S v_r.Name,I v_r.Kind,B v_r.Addr.Six,U v_r.Addr.Hi,U v_r.Addr.Lo,S v_r.To,S v_r.Words,I v_r.Life]] ?_ ?_
  ·refine Klc E E (fun hb=>?_) (fun hb=>?_)
   ·exact gO 5 E<|⟨⟨E,E,Kby E (Ket hb),tV⟩,[],E,.inl E⟩
   exact gO 5 E<|⟨⟨E,E,Kby E (Keu hb),tV⟩,[],E,.inl E⟩
  exact gO 2 E<|⟨⟨E,Kby E (or_f hb),tV⟩,[],E,.inl E⟩
 refine gO 3 E<|jC E h44 (fun h49=>?_) fun h50=>bK h50 fun y51 hy51 h52=>gA 4 E<|Kdy C (Lds hy51) E Z E E E E E<|gO 3 E<|jC E h52 (fun h53=>?_) fun h54=>?_
 ·exact gA 8 E<|oSi h49▸gP E E
 ·exact gA 8 E<|oSi h53▸gP E E
 exact gA 9 E<|oSi h54▸gP E E
theorem Ldu{name:Str}{zone:Str}{r:Bool}(h:Kzo name zone=some r):Pure Tryz.prog 144 [S name,S zone] (B r):=by
 unfold Kzo at h
 refine QP Tryz.func144 E E E<|gA 11 E<|bK h fun q1 hq1 h2=>Kcx 5 [(4,B false),(13,B q1)] [] ?_ ?_
 ·refine Klc E E (fun hb=>?_) (fun hb=>?_)
  ·have h3:=cT hq1 hb
   exact gO 6 E<|oSi h3▸⟨⟨E,E,tV⟩,[],E,.inl E⟩
  have h4:=cF hq1 hb
  exact bK h4 fun y5 hy5 h6=>gO 2 E<|Kla E<|eo_o E (Kej hy5 E E)<|bK h6 fun y7 hy7 h8=>Kla E<|Kdy C (Kvc hy7) E Z E E E E E<|gO 2 E<|oSi h8▸⟨⟨E,E,tV⟩,[],E,.inl E⟩
 exact gO 4 E<|oSi h2▸gP E E
theorem Ldv{x:Int}{r:Bool}(h:Kzp x=some r):Pure Tryz.prog 253 [U x] (B r):=by
 unfold Kzp at h
 exact QP Tryz.func253 E E E<|gA 14 E<|oSi h▸gP E E
theorem Ldw{x:Int}{y:Int}{r:Int}(h:Kzq x y=some r):Pure Tryz.prog 182 [U x,U y] (I r):=by
 unfold Kzq at h
 refine QP Tryz.func182 E E E<|bK h fun y1 hy1 h2=>gA 8 E<|Kdy C (Ldv hy1) E Z E E E E E<|bK h2 fun y3 hy3 h4=>gO 6 E<|Kdy C (Ldv hy3) E Z E E E E E<|gO 9 E<|jC E h4 (fun h5=>?_) fun h8=>gA 8 E<|jC E h8 (fun h9=>?_) fun h10=>?_
 ·refine gA 6 E<|jC E h5 (fun h6=>?_) fun h7=>gA 9 E<|oSi h7▸gP E E
  exact gA 8 E<|oSi h6▸gP E E
 ·exact gA 7 E<|oSi h9▸gP E E
 refine gA 10 E<|jC E h10 (fun h11=>?_) fun h12=>gA 10 E<|jC E h12 (fun h13=>?_) fun h14=>?_
 ·exact gA 7 E<|oSi h11▸gP E E
 ·exact gA 7 E<|oSi h13▸gP E E
 exact gA 8 E<|oSi h14▸gP E E
theorem Ldx{vals:List Int}{r:Int}(h:Kzr vals=some r):Pure Tryz.prog 62 [.d (Sl (eN .i64) vals)] (I r):=by
 unfold Kzr at h
 refine QP Tryz.func62 E E E<|gA 18 E<|bK h fun q4 hq4 h5=>Kdh 6 E fun hb7=>Khd (R:=fun a6=>q4=.go a6) (fun a6=>[(3,I 0)]) (fun a6=>[]) ?_ ?_
 ·refine gA 1 E<|Kdg vals hq4 (fun i1 s2=>[(3,I 0),(6,.d (Sl (eN .i64) vals)),(7,I (vals.length:Int)),(8,I (i1:Int))]) (fun s2=>[]) ⟨⟨E,E,E,E,tV⟩,[],E,.inl E⟩ (fun i1 x3 s2 y11 hx8 hlt hy9 hout10=>?_) (fun s2 hgo=>?_)
  ·refine gA 6 E<|Kcs E (dT (Int.ofNat_lt.2 hlt))<|gA 6 E<|eo_o E (Kdi hΓ (enc:=(eN .i64)) (Kdb hx8) E E E E E (fun _=>E))<|gO 11 E<|jC E hy9 (fun h12=>?_) fun h15=>gA 7 E ?_
   ·refine gA 9 E<|bK h12 fun v13 hv13 h14=>?_
    cases h14
    obtain rfl:=hout10 _ rfl
    cases h5
    exact gA 4 E<|oSi hv13▸gP E E
   cases h15
   exact⟨_,E,⟨⟨E,E,E,Kbx E (Kbw (nLl hlt hb7)),tV⟩,[],E,.inl E⟩⟩
  subst hgo
  exact gA 6 E<|Kct E (dF (Int.lt_irrefl _))<|gA 4 E<|⟨_,E,⟨⟨E,tV⟩,[],E,.inl E⟩⟩
 intro a6 ha
 subst ha
 replace h5:=Kgy h5
 exact gA 8 E<|oSi h5▸gP E E
theorem Ldy{a:Kyb}{b:Kyb}{r:Int}(h:Kzs a b=some r):Pure Tryz.prog 176 [.agg [S a.Name,I a.Kind,B a.Addr.Six,U a.Addr.Hi,U a.Addr.Lo,S a.To,S a.Words,I a.Life],.agg [S b.Name,I b.Kind,B b.Addr.Six,U b.Addr.Hi,U b.Addr.Lo,S b.To,S b.Words,I b.Life]] (I r):=by
 unfold Kzs at h
 exact QP Tryz.func176 E E E<|gA 2 E<|Kmj E E E E Z<|Kmj E E E E Z<|gO 4 E<|jD<|bK h fun y1 hy1 h2=>gA 4 E<|Kdz C (Kvi hy1) E E E E E E<|bK h2 fun y3 hy3 h4=>Kcp hΓ 4 E<|Kdz C (Lcw hy3) E E E E E E<|bK h4 fun y5 hy5 h6=>Kcp hΓ 6 E<|Kdz C (Ldw hy5) E E E E E E<|bK h6 fun y7 hy7 h8=>Kcp hΓ 6 E<|Kdz C (Ldw hy7) E E E E E E<|bK h8 fun y9 hy9 h10=>Kcp hΓ 4 E<|Kdz C (Kvi hy9) E E E E E E<|bK h10 fun y11 hy11 h12=>Kcp hΓ 4 E<|Kdz C (Kvi hy11) E E E E E E<|Kdu hΓ (enc:=(eN .i64)) [y1,y3,y5,y7,y9,y11] E E E E E E E E E E E E<|bK h12 fun y13 hy13 h14=>Kdz C (Ldx hy13) E E E E E E<|Kcp hΓ 4 E<|oSi h14▸gP E E
theorem Ldz{k:Nat}{z:Kyc}{r:Int}(h:Kzt k z=some r):Pure Tryz.prog 83 [.agg [S z.Root,.d (Sl Lch z.Records)]] (I r):=by
 unfold Kzt at h
 refine QP Tryz.func83 E E E<|gA 2 E<|Kmj E E E E Z<|bK h fun y1 hy1 h2=>gO 8 E<|Kdy C (Ldl hy1) E Z E E E E E<|gO 9 E<|Kcr E (fun hb=>?_) (fun hb=>?_)
 ·have h3:=cT h2 hb
  exact gA 8 E<|oSi h3▸gP E E
 have h4:=cF h2 hb
 refine gA 11 E<|Kcr E (fun hb=>?_) (fun hb=>?_)
 ·have h5:=cT h4 hb
  exact gA 7 E<|oSi h5▸gP E E
 have h6:=cF h4 hb
 refine gA 11 E<|bK h6 fun q10 hq10 h11=>Kdh 20 E fun hb13=>Khd (R:=fun a12=>q10=.go a12) (fun a12=>[]) (fun a12=>[.box 48 [S z.Root,.d (Sl Lch z.Records)]]) ?_ ?_
 ·refine gA 1 E<|Kdg z.Records hq10 (fun i7 s8=>[(1,.ptr 0 0),(20,.d (Sl Lch z.Records)),(21,I (z.Records.length:Int)),(22,I (i7:Int))]) (fun s8=>[.box 48 [S z.Root,.d (Sl Lch z.Records)]]) ⟨⟨E,E,E,E,tV⟩,[],E,.inl E⟩ (fun i7 x9 s8 y17 hx14 hlt hy15 hout16=>?_) (fun s8 hgo=>?_)
  ·refine gA 6 E<|Kcs E (dT (Int.ofNat_lt.2 hlt))<|gA 7 E<|eo_o E (Kdi hΓ (enc:=Lch) (Kdb hx14) E E E E E (fun _=>E))<|gO 1 E<|Kmi hΓ E E E Z<|gO 1 E<|Kmn hΓ E E E E E E E E Z<|Keg [.box 48 [S z.Root,.d (Sl Lch z.Records)],.box 80 [S x9.Name,I x9.Kind,B x9.Addr.Six,U x9.Addr.Hi,U x9.Addr.Lo,S x9.To,S x9.Words,I x9.Life]] E<|bK hy15 fun y18 hy18 h19=>gO 6 E<|Kdy C (Ldt hy18) E Z E E E E E<|gO 9 E<|Kcr E (fun hb=>?_) (fun hb=>?_)
   ·have h20:=cT h19 hb
    refine gA 10 E<|bK h20 fun v21 hv21 h22=>?_
    cases h22
    obtain rfl:=hout16 _ rfl
    cases h11
    exact gA 4 E<|oSi hv21▸gP E E
   have h23:=cF h19 hb
   refine gA 4 E<|jD<|bK h23 fun y24 hy24 h25=>gA 2 E<|Kdz C (Ldm hy24) E E E E E E<|bK h25 fun y26 hy26 h27=>Kcp hΓ 2 E<|Kdz C (Ldu hy26) E E E E E E<|Kcp hΓ 3 E<|Kcr E (fun hb=>?_) (fun hb=>?_)
   ·have h28:=cT h27 hb
    refine gA 9 E<|bK h28 fun v29 hv29 h30=>?_
    cases h30
    obtain rfl:=hout16 _ rfl
    cases h11
    exact gA 4 E<|oSi hv29▸gP E E
   have h31:=cF h27 hb
   refine gA 9 E<|Kcr E (fun hb=>?_) (fun hb=>?_)
   ·have h32:=cT h31 hb
    refine gA 8 E ?_
    cases h32
    exact⟨_,E,⟨⟨E,E,E,Kbx E (Kbw (nLl hlt hb13)),tV⟩,[_],E,.inr ⟨HB.mk E,FB.mk E,Z⟩⟩⟩
   have h33:=cF h31 hb
   refine bK h33 fun x34 hx34 h35=>gA 8 E<|eo_o E (Kdi hΓ (enc:=Lch) hx34 E E E E E (fun _=>E))<|gO 1 E<|Kmi hΓ E E E Z<|Kmn hΓ E E E E E E E E Z<|Keg [.box 48 [S z.Root,.d (Sl Lch z.Records)],.box 80 [S x9.Name,I x9.Kind,B x9.Addr.Six,U x9.Addr.Hi,U x9.Addr.Lo,S x9.To,S x9.Words,I x9.Life],.box 80 [S x34.Name,I x34.Kind,B x34.Addr.Six,U x34.Addr.Hi,U x34.Addr.Lo,S x34.To,S x34.Words,I x34.Life]] E<|bK h35 fun y36 hy36 h37=>gO 6 E<|Kdy C (Ldy hy36) E Z E E E E E<|gO 11 E<|Kcr E (fun hb=>?_) (fun hb=>?_)
   ·have h38:=cT h37 hb
    refine gA 9 E<|bK h38 fun v39 hv39 h40=>?_
    cases h40
    obtain rfl:=hout16 _ rfl
    cases h11
    exact gA 4 E<|oSi hv39▸gP E E
   have h41:=cF h37 hb
   refine gA 7 E<|Kcr E (fun hb=>?_) (fun hb=>?_)
   ·have h42:=cT h41 hb
    refine gA 9 E<|bK h42 fun v43 hv43 h44=>?_
    cases h44
    obtain rfl:=hout16 _ rfl
    cases h11
    exact gA 4 E<|oSi hv43▸gP E E
   have h45:=cF h41 hb
   refine gA 8 E<|Kcx 9 [(1,.ptr 0 0),(20,.d (Sl Lch z.Records)),(21,I (z.Records.length:Int)),(22,I (i7:Int)),(71,B (((x34.Name:Str)==x9.Name)&&(((x34.Kind:Int)==5)||((x9.Kind:Int)==5))))] [.box 48 [S z.Root,.d (Sl Lch z.Records)],.box 80 [S x9.Name,I x9.Kind,B x9.Addr.Six,U x9.Addr.Hi,U x9.Addr.Lo,S x9.To,S x9.Words,I x9.Life],.box 80 [S x34.Name,I x34.Kind,B x34.Addr.Six,U x34.Addr.Hi,U x34.Addr.Lo,S x34.To,S x34.Words,I x34.Life]] ?_ ?_
   ·refine Klc E E (fun hb=>?_) (fun hb=>?_)
    ·refine gO 4 E<|Kcx 4 [(1,.ptr 0 0),(20,.d (Sl Lch z.Records)),(21,I (z.Records.length:Int)),(22,I (i7:Int)),(62,B true),(70,B (((x34.Kind:Int)==5)||((x9.Kind:Int)==5)))] [.box 48 [S z.Root,.d (Sl Lch z.Records)],.box 80 [S x9.Name,I x9.Kind,B x9.Addr.Six,U x9.Addr.Hi,U x9.Addr.Lo,S x9.To,S x9.Words,I x9.Life],.box 80 [S x34.Name,I x34.Kind,B x34.Addr.Six,U x34.Addr.Hi,U x34.Addr.Lo,S x34.To,S x34.Words,I x34.Life]] ?_ ?_
     ·refine Klc E E (fun hb=>?_) (fun hb=>?_)
      ·exact gO 5 E<|⟨⟨E,E,E,E,E,Kby E (or_t hb),tV⟩,[],E,.inl E⟩
      exact gO 5 E<|⟨⟨E,E,E,E,E,Kby E (or_f hb),tV⟩,[],E,.inl E⟩
     exact gO 2 E<|⟨⟨E,E,E,E,Kby E (Ket hb),tV⟩,[],E,.inl E⟩
    exact gO 10 E<|⟨⟨E,E,E,E,Kby E (Keu hb),tV⟩,[],E,.inl E⟩
   refine gO 3 E<|jC E h45 (fun h46=>?_) fun h49=>gA 8 E ?_
   ·refine gA 9 E<|bK h46 fun v47 hv47 h48=>?_
    cases h48
    obtain rfl:=hout16 _ rfl
    cases h11
    exact gA 4 E<|oSi hv47▸gP E E
   cases h49
   exact⟨_,E,⟨⟨E,E,E,Kbx E (Kbw (nLl hlt hb13)),tV⟩,[_,_],E,.inr ⟨HB.mk E,FB.mk E,Z⟩⟩⟩
  subst hgo
  exact gA 6 E<|Kct E (dF (Int.lt_irrefl _))<|gA 4 E<|⟨_,E,⟨tV,[],E,.inl E⟩⟩
 intro a12 ha
 subst ha
 replace h11:=Kgy h11
 exact gA 7 E<|oSi h11▸gP E E
theorem Lea{b:Str}{s:Str}{r:Int×Str}(h:Kzu b s=some r):EC Tryz.prog 55 [.ptr 1 0,S s] [rO 5 1 eU b,.box 90 [.pn 1,.sl 0 b.length]] fun g hp'=>g=.tup [I r.1,.d (.v .nilIface)]∧hp'=[.dead,.box 90 [.pn 1,.sl 2 r.2.length],rO 5 1 eU r.2]:=by
 unfold Kzu at h
 exact QM Tryz.func55 E Z<|Kga Z<|Kfy 0 2 [.dead,.box 90 [.pn 1,.sl 2 b.length],rO 5 1 eU b] E E E E E E<|bK h fun y1 hy1 h2=>gA 9 E<|Kdx [2,1] (.tup []) [.dead,.box 90 [.pn 1,.sl 2 b.length],rO 5 1 eU b] C (Kaa hy1) E Z E E E E E E E E E E<|bK h2 fun y3 hy3 h4=>gO 10 E<|Kia 2 [.dead,.box 90 [.pn 1,.junk],rO 5 1 eU b] E Z<|eo_s Z (nblt.1 E) (Kjq hΓ (id:=2) (h2:=show Γ 5=some ⟨_,1,_,_⟩ from E) hy3 E E E E E E E E E E E)<|gO 2 E<|Kmn hΓ E E E E E E E E Z<|Keg [.dead,.box 90 [.pn 1,.sl 3 y3.length],.dead,rO 5 1 eU y3] E<|Kfw 3 2 [.dead,.box 90 [.pn 1,.sl 2 y3.length],rO 5 1 eU y3,.dead] E E E E E E<|gO 11 E<|Kha<|oSi h4▸Ken hΓ [_] (.inr E) E E E E (.inr ⟨HB.mk E,E⟩)
theorem Leb{k:Nat}{a:Kya}{r:(Int×Int×Int×Int×Int×Int×Int×Int)}(h:Kzv k a=some r):Pure Tryz.prog 249 [.agg [B a.Six,U a.Hi,U a.Lo]] (.agg [U r.1,U r.2.1,U r.2.2.1,U r.2.2.2.1,U r.2.2.2.2.1,U r.2.2.2.2.2.1,U r.2.2.2.2.2.2.1,U r.2.2.2.2.2.2.2]):=by
 unfold Kzv at h
 refine QP Tryz.func249 E E E<|gA 2 E<|Kmj E E E E Z<|Kmi hΓ E E E Z<|gO 4 E<|Kmi hΓ E E E Z<|gO 8 E<|bK h fun q4 hq4 h5=>Khe [(2,.ptr 1 0),(3,.ptr 2 0)] [.box 39 [B a.Six,U a.Hi,U a.Lo],.box 266 [U 0,U 0,U 0,U 0,U 0,U 0,U 0,U 0],.box 266 [U q4.1,U q4.2.1,U q4.2.2.1,U q4.2.2.2.1,U q4.2.2.2.2.1,U q4.2.2.2.2.2.1,U q4.2.2.2.2.2.2.1,U q4.2.2.2.2.2.2.2]] ?_ ?_
 ·refine gA 1 E<|Kde hq4 (fun s2=>[(1,.ptr 0 0),(2,.ptr 1 0),(3,.ptr 2 0),(5,I s2.2)]) (fun s2=>[.box 39 [B a.Six,U a.Hi,U a.Lo],.box 266 [U 0,U 0,U 0,U 0,U 0,U 0,U 0,U 0],.box 266 [U s2.1.1,U s2.1.2.1,U s2.1.2.2.1,U s2.1.2.2.2.1,U s2.1.2.2.2.2.1,U s2.1.2.2.2.2.2.1,U s2.1.2.2.2.2.2.2.1,U s2.1.2.2.2.2.2.2.2]]) ⟨⟨E,E,E,E,tV⟩,[],E,.inl E⟩ (fun s2 y10 hy8 hout9=>?_)
  refine gA 6 E<|jC E hy8 (fun h11=>?_) fun h20=>gA 4 E ?_
  ·exact bK h11 fun y12 hy12 h13=>gA 18 E<|eo_o E (Kfa hy12 E E)<|bK h13 fun x14 hx14 h15=>gO 1 E<|eo_o E (Kiq hΓ hx14 E E E E E E)<|eo_u Z (Kis hΓ (l:=([s2.1.1,s2.1.2.1,s2.1.2.2.1,s2.1.2.2.2.1,s2.1.2.2.2.2.1,s2.1.2.2.2.2.2.1,s2.1.2.2.2.2.2.2.1,s2.1.2.2.2.2.2.2.2]:List Int)) (v:=(bitsV .and .u64 y12 65535)) (f:=fun z=>.d (.v (.int .u64 z))) hx14 E E E E E E E E E E)<|Keg [.box 39 [B a.Six,U a.Hi,U a.Lo],.box 266 [U 0,U 0,U 0,U 0,U 0,U 0,U 0,U 0],.box 266 [U (updA s2.2 0 (bitsV .and .u64 y12 65535) s2.1.1),U (updA s2.2 1 (bitsV .and .u64 y12 65535) s2.1.2.1),U (updA s2.2 2 (bitsV .and .u64 y12 65535) s2.1.2.2.1),U (updA s2.2 3 (bitsV .and .u64 y12 65535) s2.1.2.2.2.1),U (updA s2.2 4 (bitsV .and .u64 y12 65535) s2.1.2.2.2.2.1),U (updA s2.2 5 (bitsV .and .u64 y12 65535) s2.1.2.2.2.2.2.1),U (updA s2.2 6 (bitsV .and .u64 y12 65535) s2.1.2.2.2.2.2.2.1),U (updA s2.2 7 (bitsV .and .u64 y12 65535) s2.1.2.2.2.2.2.2.2)]] E<|bK h15 fun y16 hy16 h17=>gO 10 E<|eo_o E (Kfa hy16 E E)<|bK h17 fun x18 hx18 h19=>gO 1 E<|eo_o E (Kiq hΓ hx18 E E E E E E)<|eo_u Z (Kis hΓ (l:=([updA s2.2 0 (bitsV .and .u64 y12 65535) s2.1.1,updA s2.2 1 (bitsV .and .u64 y12 65535) s2.1.2.1,updA s2.2 2 (bitsV .and .u64 y12 65535) s2.1.2.2.1,updA s2.2 3 (bitsV .and .u64 y12 65535) s2.1.2.2.2.1,updA s2.2 4 (bitsV .and .u64 y12 65535) s2.1.2.2.2.2.1,updA s2.2 5 (bitsV .and .u64 y12 65535) s2.1.2.2.2.2.2.1,updA s2.2 6 (bitsV .and .u64 y12 65535) s2.1.2.2.2.2.2.2.1,updA s2.2 7 (bitsV .and .u64 y12 65535) s2.1.2.2.2.2.2.2.2]:List Int)) (v:=(bitsV .and .u64 y16 65535)) (f:=fun z=>.d (.v (.int .u64 z))) hx18 E E E E E E E E E E)<|Keg [.box 39 [B a.Six,U a.Hi,U a.Lo],.box 266 [U 0,U 0,U 0,U 0,U 0,U 0,U 0,U 0],.box 266 [U (updA (wi (4+s2.2)) 0 (bitsV .and .u64 y16 65535) (updA s2.2 0 (bitsV .and .u64 y12 65535) s2.1.1)),U (updA (wi (4+s2.2)) 1 (bitsV .and .u64 y16 65535) (updA s2.2 1 (bitsV .and .u64 y12 65535) s2.1.2.1)),U (updA (wi (4+s2.2)) 2 (bitsV .and .u64 y16 65535) (updA s2.2 2 (bitsV .and .u64 y12 65535) s2.1.2.2.1)),U (updA (wi (4+s2.2)) 3 (bitsV .and .u64 y16 65535) (updA s2.2 3 (bitsV .and .u64 y12 65535) s2.1.2.2.2.1)),U (updA (wi (4+s2.2)) 4 (bitsV .and .u64 y16 65535) (updA s2.2 4 (bitsV .and .u64 y12 65535) s2.1.2.2.2.2.1)),U (updA (wi (4+s2.2)) 5 (bitsV .and .u64 y16 65535) (updA s2.2 5 (bitsV .and .u64 y12 65535) s2.1.2.2.2.2.2.1)),U (updA (wi (4+s2.2)) 6 (bitsV .and .u64 y16 65535) (updA s2.2 6 (bitsV .and .u64 y12 65535) s2.1.2.2.2.2.2.2.1)),U (updA (wi (4+s2.2)) 7 (bitsV .and .u64 y16 65535) (updA s2.2 7 (bitsV .and .u64 y12 65535) s2.1.2.2.2.2.2.2.2))]] E<|gO 7 E<|oSi h19▸⟨_,E,⟨⟨E,E,E,E,tV⟩,[],E,.inl E⟩⟩
  cases h20
  obtain rfl:=hout9 _ rfl
  exact⟨⟨E,E,tV⟩,[],E,.inl E⟩
 exact gA 4 E<|Kmn hΓ E E E E E E E E Z<|Keg [.box 39 [B a.Six,U a.Hi,U a.Lo],.box 266 [U q4.1,U q4.2.1,U q4.2.2.1,U q4.2.2.2.1,U q4.2.2.2.2.1,U q4.2.2.2.2.2.1,U q4.2.2.2.2.2.2.1,U q4.2.2.2.2.2.2.2],.box 266 [U q4.1,U q4.2.1,U q4.2.2.1,U q4.2.2.2.1,U q4.2.2.2.2.1,U q4.2.2.2.2.2.1,U q4.2.2.2.2.2.2.1,U q4.2.2.2.2.2.2.2]] E<|gO 3 E<|oSi h5▸gP E E
theorem Lec{k:Nat}{g:(Int×Int×Int×Int×Int×Int×Int×Int)}{r:Int×Int}(h:Kzw k g=some r):Pure Tryz.prog 250 [.agg [U g.1,U g.2.1,U g.2.2.1,U g.2.2.2.1,U g.2.2.2.2.1,U g.2.2.2.2.2.1,U g.2.2.2.2.2.2.1,U g.2.2.2.2.2.2.2]] (.tup [I r.1,I r.2]):=by
 unfold Kzw at h
 refine QP Tryz.func250 E E E<|gA 2 E<|Kmj E E E E Z<|gO 10 E<|bK h fun q4 hq4 h5=>Khe [(2,I q4.1),(3,I q4.2)] [.box 266 [U g.1,U g.2.1,U g.2.2.1,U g.2.2.2.1,U g.2.2.2.2.1,U g.2.2.2.2.2.1,U g.2.2.2.2.2.2.1,U g.2.2.2.2.2.2.2]] ?_ ?_
 ·refine gA 1 E<|Kde hq4 (fun s2=>[(1,.ptr 0 0),(2,I s2.1),(3,I s2.2.1),(4,I s2.2.2)]) (fun s2=>[.box 266 [U g.1,U g.2.1,U g.2.2.1,U g.2.2.2.1,U g.2.2.2.2.1,U g.2.2.2.2.2.1,U g.2.2.2.2.2.2.1,U g.2.2.2.2.2.2.2]]) ⟨⟨E,E,E,E,tV⟩,[],E,.inl E⟩ (fun s2 y10 hy8 hout9=>?_)
  refine gA 7 E<|jC E hy8 (fun h11=>?_) fun h34=>gA 4 E ?_
  ·refine gA 10 E<|bK h11 fun q15 hq15 h16=>Khe [(1,.ptr 0 0),(2,I s2.1),(3,I s2.2.1),(4,I s2.2.2),(5,I q15)] [.box 266 [U g.1,U g.2.1,U g.2.2.1,U g.2.2.2.1,U g.2.2.2.2.1,U g.2.2.2.2.2.1,U g.2.2.2.2.2.2.1,U g.2.2.2.2.2.2.2]] ?_ ?_
   ·refine gA 1 E<|Kde hq15 (fun s13=>[(1,.ptr 0 0),(2,I s2.1),(3,I s2.2.1),(4,I s2.2.2),(5,I s13)]) (fun s13=>[.box 266 [U g.1,U g.2.1,U g.2.2.1,U g.2.2.2.1,U g.2.2.2.2.1,U g.2.2.2.2.2.1,U g.2.2.2.2.2.2.1,U g.2.2.2.2.2.2.2]]) ⟨⟨E,E,E,E,E,tV⟩,[],E,.inl E⟩ (fun s13 y21 hy19 hout20=>?_)
    refine gA 8 E<|bK hy19 fun q22 hq22 h23=>Kcx 7 [(1,.ptr 0 0),(2,I s2.1),(3,I s2.2.1),(4,I s2.2.2),(5,I s13),(21,B q22)] [.box 266 [U g.1,U g.2.1,U g.2.2.1,U g.2.2.2.1,U g.2.2.2.2.1,U g.2.2.2.2.2.1,U g.2.2.2.2.2.2.1,U g.2.2.2.2.2.2.2]] ?_ ?_
    ·refine Klc E E (fun hb=>?_) (fun hb=>?_)
     ·have h24:=cT hq22 hb
      exact bK h24 fun x25 hx25 h26=>gO 3 E<|Kla E<|eo_o E (Kiq hΓ hx25 E E E E E E)<|Kla E<|eo_o E (Kir hΓ (f:=fun z=>.d (.v (.int .u64 z))) hx25 E E E E E E)<|gO 3 E<|oSi h26▸⟨⟨E,E,E,E,E,E,tV⟩,[],E,.inl E⟩
     have h27:=cF hq22 hb
     exact gO 8 E<|oSi h27▸⟨⟨E,E,E,E,E,E,tV⟩,[],E,.inl E⟩
    refine gO 2 E<|jC E h23 (fun h28=>?_) fun h29=>gA 4 E ?_
    ·exact gA 9 E<|oSi h28▸⟨_,E,⟨⟨E,E,E,E,E,tV⟩,[],E,.inl E⟩⟩
    cases h29
    obtain rfl:=hout20 _ rfl
    exact⟨⟨E,E,E,E,E,tV⟩,[],E,.inl E⟩
   refine bK h16 fun q30 hq30 h31=>gA 9 E<|Khe [(1,.ptr 0 0),(2,I q30.1),(3,I q30.2),(4,I s2.2.2),(5,I q15)] [.box 266 [U g.1,U g.2.1,U g.2.2.1,U g.2.2.2.1,U g.2.2.2.2.1,U g.2.2.2.2.2.1,U g.2.2.2.2.2.2.1,U g.2.2.2.2.2.2.2]] ?_ ?_
   ·refine jC E hq30 (fun h32=>?_) fun h33=>gA 1 E<|oSi h33▸⟨⟨E,E,E,E,E,tV⟩,[],E,.inl E⟩
    exact gA 6 E<|oSi h32▸⟨⟨E,E,E,E,E,tV⟩,[],E,.inl E⟩
   exact gA 14 E<|oSi h31▸⟨_,E,⟨⟨E,E,E,E,tV⟩,[],E,.inl E⟩⟩
  cases h34
  obtain rfl:=hout9 _ rfl
  exact⟨⟨E,E,tV⟩,[],E,.inl E⟩
 exact gA 10 E<|oSi h5▸gP E E
theorem Led{k:Nat}{a:Kya}{r:Str}(h:Kzx k a=some r):Pure Tryz.prog 178 [.agg [B a.Six,U a.Hi,U a.Lo]] (S r):=by
 unfold Kzx at h
 refine QP Tryz.func178 E E E<|gA 2 E<|Kmj E E E E Z<|gO 11 E<|jC E h (fun h1=>?_) fun h22=>bK h22 fun y23 hy23 h24=>gA 5 E<|Kdy C (Leb hy23) E Z E E E E E<|Kmi hΓ E E E Z<|Kmn hΓ E E E E E E E E Z<|Keg [.box 39 [B a.Six,U a.Hi,U a.Lo],.box 266 [U y23.1,U y23.2.1,U y23.2.2.1,U y23.2.2.2.1,U y23.2.2.2.2.1,U y23.2.2.2.2.2.1,U y23.2.2.2.2.2.2.1,U y23.2.2.2.2.2.2.2]] E<|gO 4 E<|Kdv (t:=0) 9 1 E Z<|gO 9 E<|bK h24 fun q28 hq28 h29=>Khe [(5,.ptr 1 0),(6,.sl 2 q28.length)] [.box 39 [B a.Six,U a.Hi,U a.Lo],.box 266 [U y23.1,U y23.2.1,U y23.2.2.1,U y23.2.2.2.1,U y23.2.2.2.2.1,U y23.2.2.2.2.2.1,U y23.2.2.2.2.2.2.1,U y23.2.2.2.2.2.2.2],rO 9 1 eS q28] ?_ ?_
 ·refine gA 2 E<|Kdv (t:=0) 9 1 E Z<|gO 8 E<|bK h1 fun q5 hq5 h6=>Khe [(3,.sl 1 q5.length)] [.box 39 [B a.Six,U a.Hi,U a.Lo],rO 9 1 eS q5] ?_ ?_
  ·refine gA 1 E<|Kde hq5 (fun s3=>[(1,.ptr 0 0),(3,.sl 1 s3.1.length),(14,I s3.2)]) (fun s3=>[.box 39 [B a.Six,U a.Hi,U a.Lo],rO 9 1 eS s3.1]) ⟨⟨E,E,E,tV⟩,[],E,.inl E⟩ (fun s3 y11 hy9 hout10=>?_)
   refine gA 6 E<|jC E hy9 (fun h12=>?_) fun h19=>gA 4 E ?_
   ·exact bK h12 fun y13 hy13 h14=>gA 17 E<|eo_o E (Kfa hy13 E E)<|bK h14 fun y15 hy15 h16=>gO 1 E<|Kdy C (Kvn hy15) E Z E E E E E<|Kdt hΓ (enc:=eS) [y15] E E E E E E E E E E E E Z<|bK h16 fun y17 hy17 h18=>Keh hΓ (enc:=eS) hy17 E E E E E E E E E (fun _=>E) E E E E<|gO 8 E<|oSi h18▸⟨_,E,⟨⟨E,E,E,tV⟩,[],E,.inl E⟩⟩
   cases h19
   obtain rfl:=hout10 _ rfl
   exact⟨⟨E,tV⟩,[],E,.inl E⟩
  exact gA 2 E<|Kef 1 [3] _ [.box 39 [B a.Six,U a.Hi,U a.Lo],.dead] E E E Z<|bK h6 fun y20 hy20 h21=>gA 2 E<|Kdy C (Kvv hy20) E Z E E E E E<|gO 5 E<|oSi h21▸gP E E
 ·refine gA 1 E<|Kde hq28 (fun s26=>[(5,.ptr 1 0),(6,.sl 2 s26.1.length),(33,.agg [U y23.1,U y23.2.1,U y23.2.2.1,U y23.2.2.2.1,U y23.2.2.2.2.1,U y23.2.2.2.2.2.1,U y23.2.2.2.2.2.2.1,U y23.2.2.2.2.2.2.2]),(34,I s26.2)]) (fun s26=>[.box 39 [B a.Six,U a.Hi,U a.Lo],.box 266 [U y23.1,U y23.2.1,U y23.2.2.1,U y23.2.2.2.1,U y23.2.2.2.2.1,U y23.2.2.2.2.2.1,U y23.2.2.2.2.2.2.1,U y23.2.2.2.2.2.2.2],rO 9 1 eS s26.1]) ⟨⟨E,E,E,E,tV⟩,[],E,.inl E⟩ (fun s26 y34 hy32 hout33=>?_)
  refine gA 6 E<|jC E hy32 (fun h35=>?_) fun h42=>gA 4 E ?_
  ·exact bK h35 fun x36 hx36 h37=>gA 6 E<|eo_o E (Kib hΓ (enc:=(eN .u64)) [y23.1,y23.2.1,y23.2.2.1,y23.2.2.2.1,y23.2.2.2.2.1,y23.2.2.2.2.2.1,y23.2.2.2.2.2.2.1,y23.2.2.2.2.2.2.2] hx36 E E E E E E E (fun _=>E) E)<|bK h37 fun y38 hy38 h39=>gO 6 E<|Kdy C (Kvn hy38) E Z E E E E E<|Kdt hΓ (enc:=eS) [y38] E E E E E E E E E E E E Z<|bK h39 fun y40 hy40 h41=>Keh hΓ (enc:=eS) hy40 E E E E E E E E E (fun _=>E) E E E E<|gO 8 E<|oSi h41▸⟨_,E,⟨⟨E,E,E,E,tV⟩,[],E,.inl E⟩⟩
  cases h42
  obtain rfl:=hout33 _ rfl
  exact⟨⟨E,E,tV⟩,[],E,.inl E⟩
 refine gA 2 E<|Kef 2 [6] _ [.box 39 [B a.Six,U a.Hi,U a.Lo],.box 266 [U y23.1,U y23.2.1,U y23.2.2.1,U y23.2.2.2.1,U y23.2.2.2.2.1,U y23.2.2.2.2.2.1,U y23.2.2.2.2.2.2.1,U y23.2.2.2.2.2.2.2],.dead] E E E Z<|bK h29 fun y43 hy43 h44=>gA 2 E<|Kdy C (Lec hy43) E Z E E E E E<|gO 14 E<|jC E h44 (fun h45=>?_) fun h48=>gA 3 E<|jD<|bK h48 fun z49 hz49 h50=>gA 2 E<|gl_o E (Kdp hΓ (enc:=eS) hz49 E E E E E E (fun _=>E))<|bK h50 fun y51 hy51 h52=>Kdz C (Kvv hy51) E E E E E E<|bK h52 fun y53 hy53 h54=>gl_o E (Kej hy53 E E)<|bK h54 fun z55 hz55 h56=>Kcp hΓ 4 E<|gl_o E (Kdp hΓ (enc:=eS) hz55 E E E E E E (fun _=>E))<|bK h56 fun y57 hy57 h58=>Kdz C (Kvv hy57) E E E E E E<|bK h58 fun y59 hy59 h60=>gl_o E (Kej hy59 E E)<|Kcp hΓ 4 E<|oSi h60▸gP E E
 exact bK h45 fun y46 hy46 h47=>gA 3 E<|Kdy C (Kvv hy46) E Z E E E E E<|gO 5 E<|oSi h47▸gP E E
theorem Lee{k:Nat}{a:Kya}{r:Str×Int}(h:Kzy k a=some r):Pure Tryz.prog 85 [.agg [B a.Six,U a.Hi,U a.Lo]] (.tup [S r.1,I r.2]):=by
 unfold Kzy at h
 refine QP Tryz.func85 E E E<|gA 2 E<|Kmj E E E E Z<|bK h fun y1 hy1 h2=>gO 8 E<|Kdy C (Ldp hy1) E Z E E E E E<|gO 9 E<|jC E h2 (fun h3=>?_) fun h4=>bK h4 fun y5 hy5 h6=>gA 5 E<|Kdy C (Led hy5) E Z E E E E E<|gO 5 E<|oSi h6▸gP E E
 exact gA 9 E<|oSi h3▸gP E E
theorem Lef{kind:Int}{r:Str}(h:Kzz kind=some r):Pure Tryz.prog 86 [I kind] (S r):=by
 unfold Kzz at h
 refine QP Tryz.func86 E E E<|gA 18 E<|jC E h (fun h1=>?_) fun h2=>gA 6 E<|jC E h2 (fun h3=>?_) fun h4=>?_
 ·exact gA 8 E<|oSi h1▸gP E E
 ·exact gA 8 E<|oSi h3▸gP E E
 refine gA 6 E<|jC E h4 (fun h5=>?_) fun h6=>gA 6 E<|jC E h6 (fun h7=>?_) fun h8=>?_
 ·exact gA 8 E<|oSi h5▸gP E E
 ·exact gA 8 E<|oSi h7▸gP E E
 exact gA 9 E<|oSi h8▸gP E E
theorem Leg{b:Str}{r:Int}(h:Laa b=some r):EC Tryz.prog 57 [.ptr 1 0] [rO 5 1 eU b,.box 90 [.pn 1,.sl 0 b.length]] fun g hp'=>g=I r∧hp'=[rO 5 1 eU b,.box 90 [.pn 1,.sl 0 b.length]]:=by
 unfold Laa at h
 exact QN Tryz.func57 E Z<|gA 16 E<|oSi h▸Ken hΓ [] (.inr E) E E E E (.inl E)
theorem Leh{k:Nat}{z:Kyc}{r:Str×Int}(h:Lab k z=some r):Pure Tryz.prog 17 [.agg [S z.Root,.d (Sl Lch z.Records)]] (.tup [S r.1,I r.2]):=by
 unfold Lab at h
 refine QP Tryz.func17 E E E<|gA 2 E<|Kmj E E E E Z<|bK h fun y1 hy1 h2=>gO 8 E<|Kdy C (Ldz hy1) E Z E E E E E<|gO 9 E<|jC E h2 (fun h3=>?_) fun h4=>gA 4 E<|eo_s Z (nblt.1 E) (Kin hΓ [1] [.d (.v (.pointer none)),.d (.v (.slice none 0 0))] (hi:=show Γ 90=some ⟨_,_,_,_⟩ from E) E ⟨.refl _,.refl _,tV⟩)<|Keg [.box 48 [S z.Root,.d (Sl Lch z.Records)],.box 90 [.d (.v (.pointer none)),.d (.v (.slice none 0 0))]] E<|gO 2 E<|Kjm 1 0 [.box 48 [S z.Root,.d (Sl Lch z.Records)],.box 90 [.pn 1,.d (.v (.slice none 0 0))]] E E E<|Kiu 1 1 5 1 [.box 48 [S z.Root,.d (Sl Lch z.Records)],.box 90 [.pn 1,.sl 2 ([]:Str).length],rO 5 1 eU ([]:Str)] E E E Z<|bK h4 fun y5 hy5 h6=>gA 4 E<|eo_o E (Kej hy5 E E)<|bK h6 fun y7 hy7 h8=>eo_o E (Kej hy7 E E)<|bK h8 fun y9 hy9 h10=>Kdx [2,1] (.tup [I y9.1,.d (.v .nilIface)]) [.box 48 [S z.Root,.d (Sl Lch z.Records)],.box 90 [.pn 1,.sl 3 y9.2.length],.dead,rO 5 1 eU y9.2] C (Lea hy9) E Z E E E E E E E E E E<|Kfw 3 2 [.box 48 [S z.Root,.d (Sl Lch z.Records)],.box 90 [.pn 1,.sl 2 y9.2.length],rO 5 1 eU y9.2,.dead] E E E E E E<|gO 11 E<|bK h10 fun q14 hq14 h15=>Kdh 20 E fun hb17=>Khe [(5,.ptr 1 0)] [.box 48 [S z.Root,.d (Sl Lch z.Records)],.box 90 [.pn 1,.sl 2 q14.length],rO 5 1 eU q14,.dead] ?_ ?_
 ·exact gA 9 E<|oSi h3▸gP E E
 ·refine gA 1 E<|Kep z.Records hq14 (fun i11 s12=>[(5,.ptr 1 0),(20,.d (Sl Lch z.Records)),(21,I (z.Records.length:Int)),(22,I (i11:Int))]) (fun s12=>[.box 48 [S z.Root,.d (Sl Lch z.Records)],.box 90 [.pn 1,.sl 2 s12.length],rO 5 1 eU s12,.dead]) ⟨⟨E,E,E,E,tV⟩,[],E,.inl E⟩ (fun i11 x13 s12 y21 hx18 hlt hy19=>?_) (?_)
  ·refine gA 6 E<|Kcs E (dT (Int.ofNat_lt.2 hlt))<|gA 6 E<|eo_o E (Kdi hΓ (enc:=Lch) (Kdb hx18) E E E E E (fun _=>E))<|gO 1 E<|Kmi hΓ E E E Z<|Kmn hΓ E E E E E E E E Z<|Keg [.box 48 [S z.Root,.d (Sl Lch z.Records)],.box 90 [.pn 1,.sl 2 s12.length],rO 5 1 eU s12,.dead,.box 80 [S x13.Name,I x13.Kind,B x13.Addr.Six,U x13.Addr.Hi,U x13.Addr.Lo,S x13.To,S x13.Words,I x13.Life]] E<|bK hy19 fun y22 hy22 h23=>gO 8 E<|eo_o E (Kej hy22 E E)<|bK h23 fun y24 hy24 h25=>gO 8 E<|Kdy C (Ldo hy24) E Z E E E E E<|bK h25 fun q26 hq26 h27=>gO 2 E<|Khe [(5,.ptr 1 0),(7,.ptr 4 0),(8,S q26),(20,.d (Sl Lch z.Records)),(21,I (z.Records.length:Int)),(22,I (i11:Int))] [.box 48 [S z.Root,.d (Sl Lch z.Records)],.box 90 [.pn 1,.sl 2 s12.length],rO 5 1 eU s12,.dead,.box 80 [S x13.Name,I x13.Kind,B x13.Addr.Six,U x13.Addr.Hi,U x13.Addr.Lo,S x13.To,S x13.Words,I x13.Life]] ?_ ?_
   ·refine jC E hq26 (fun h28=>?_) fun h31=>gA 1 E<|oSi h31▸⟨⟨E,E,E,E,E,E,tV⟩,[],E,.inl E⟩
    exact bK h28 fun y29 hy29 h30=>gA 3 E<|Kdy C (Lee hy29) E Z E E E E E<|gO 5 E<|oSi h30▸⟨⟨E,E,E,E,E,E,tV⟩,[],E,.inl E⟩
   refine gA 1 E<|Kge [.dead,.dead,.dead,.dead,.box 80 [S x13.Name,I x13.Kind,B x13.Addr.Six,U x13.Addr.Hi,U x13.Addr.Lo,S x13.To,S x13.Words,I x13.Life]] [1,4,9] [16] [] hmix (by kernel_rfl) (by kernel_rfl) ⟨E,tV⟩ Z<|bK h27 fun y32 hy32 h33=>go_E hΓ 2 E<|ge_q E (.inl E) (fun _ _=>Kgg (qt_p (Kej hy32 E E)))<|bK h33 fun y34 hy34 h35=>go_E hΓ 2 E<|Kgs C (Lef hy34) E E E E E E<|bK h35 fun y36 hy36 h37=>ge_q E (.inl E) (fun _ _=>Kgg (qt_p (Kej hy36 E E)))<|bK h37 fun y38 hy38 h39=>ge_q E (.inl E) (fun _ _=>Kgg (qt_p (Kej hy38 E E)))<|bK h39 fun y40 hy40 h41=>go_E hΓ 2 E<|Kgs C (Kvl hy40) E E E E E E<|bK h41 fun y42 hy42 h43=>ge_q E (.inl E) (fun _ _=>Kgg (qt_p (Kej hy42 E E)))<|bK h43 fun y44 hy44 h45=>ge_q E (.inl E) (fun _ _=>Kgg (qt_p (Kej hy44 E E)))<|bK h45 fun y46 hy46 h47=>go_E hΓ 1 E<|ge_q E (.inl E) (fun _ _=>Kgg (qt_p (Kej hy46 E E)))<|bK h47 fun y48 hy48 h49=>ge_q E (.inl E) (fun _ _=>Kgg (qt_p (Kej hy48 E E)))<|bK h49 fun y50 hy50 h51=>ge_h [.box 48 [S z.Root,.d (Sl Lch z.Records)],.box 90 [.pn 1,.sl 5 y50.2.length],.dead,.dead,.box 80 [S x13.Name,I x13.Kind,B x13.Addr.Six,U x13.Addr.Hi,U x13.Addr.Lo,S x13.To,S x13.Words,I x13.Life],rO 5 1 eU y50.2] E E E (Kgm ⟨E,tV⟩) (Kgr [2,1] (.tup [I y50.1,.d (.v .nilIface)]) [.box 48 [S z.Root,.d (Sl Lch z.Records)],.box 90 [.pn 1,.sl 5 y50.2.length],.dead,.dead,.box 80 [S x13.Name,I x13.Kind,B x13.Addr.Six,U x13.Addr.Hi,U x13.Addr.Lo,S x13.To,S x13.Words,I x13.Life],rO 5 1 eU y50.2] C (Lea hy50) E E E E E E E E E E)<|Kgf<|gA 2 E<|Kfy 5 2 [.box 48 [S z.Root,.d (Sl Lch z.Records)],.box 90 [.pn 1,.sl 2 y50.2.length],rO 5 1 eU y50.2,.dead,.box 80 [S x13.Name,I x13.Kind,B x13.Addr.Six,U x13.Addr.Hi,U x13.Addr.Lo,S x13.To,S x13.Words,I x13.Life],.dead] E E E E E E<|gA 4 E ?_
   cases h51
   exact⟨⟨E,E,E,Kbx E (Kbw (nLl hlt hb17)),tV⟩,[_,_],E,.inr ⟨HB.mk E,FB.mk E,Z⟩⟩
  exact gA 6 E<|Kct E (dF (Int.lt_irrefl _))<|gA 4 E<|⟨⟨E,tV⟩,[],E,.inl E⟩
 refine bK h15 fun y52 hy52 h53=>gA 4 E<|Kdx [2,1] (I y52) [.box 48 [S z.Root,.d (Sl Lch z.Records)],.box 90 [.pn 1,.sl 2 q14.length],rO 5 1 eU q14,.dead] C (Leg hy52) E Z E E E E E E E E E E<|gO 3 E<|jC E h53 (fun h54=>?_) fun h55=>bK h55 fun y56 hy56 h57=>gA 4 E<|Kdx [2,1] (S y56) [.box 48 [S z.Root,.d (Sl Lch z.Records)],.dead,.dead,.dead] C (Kab hy56) E Z E E E E E E E E E E<|gO 5 E<|oSi h57▸gP E E
 exact gA 8 E<|oSi h54▸gP E E
theorem Lei{s:Str}{r:Bool}(h:Lac s=some r):Pure Tryz.prog 179 [S s] (B r):=by
 unfold Lac at h
 refine QP Tryz.func179 E E E<|gA 13 E<|jC E h (fun h1=>?_) fun h2=>bK h2 fun y3 hy3 h4=>gA 5 E<|Kdy C (Kva hy3) E Z E E E E E<|gO 8 E<|bK h4 fun q5 hq5 h6=>Kcx 4 [(0,S y3),(2,B false),(14,B q5)] [] ?_ ?_
 ·exact gA 7 E<|oSi h1▸gP E E
 ·refine Klc E E (fun hb=>?_) (fun hb=>?_)
  ·have h7:=cT hq5 hb
   exact bK h7 fun y8 hy8 h9=>gO 1 E<|Kla E<|Kdy C (Kvd hy8) E Z E E E E E<|gO 3 E<|oSi h9▸⟨⟨E,E,E,tV⟩,[],E,.inl E⟩
  have h10:=cF hq5 hb
  exact gO 5 E<|oSi h10▸⟨⟨E,E,E,tV⟩,[],E,.inl E⟩
 refine gO 1 E<|bK h6 fun q11 hq11 h12=>Kcx 4 [(0,S y3),(2,B false),(19,B q11)] [] ?_ ?_
 ·refine Klc E E (fun hb=>?_) (fun hb=>?_)
  ·have h13:=cT hq11 hb
   exact bK h13 fun c14 hc14 h15=>gO 1 E<|Kla E<|eo_o E (Kdj hΓ hc14 E E E E)<|gO 3 E<|oSi h15▸⟨⟨E,E,E,tV⟩,[],E,.inl E⟩
  have h16:=cF hq11 hb
  exact gO 5 E<|oSi h16▸⟨⟨E,E,E,tV⟩,[],E,.inl E⟩
 refine gO 1 E<|bK h12 fun q17 hq17 h18=>Kcx 7 [(2,B false),(27,B q17)] [] ?_ ?_
 ·refine Klc E E (fun hb=>?_) (fun hb=>?_)
  ·have h19:=cT hq17 hb
   exact bK h19 fun c20 hc20 h21=>gO 4 E<|Kla E<|eo_o E (Kdj hΓ hc20 E E E E)<|gO 3 E<|oSi h21▸⟨⟨E,E,tV⟩,[],E,.inl E⟩
  have h22:=cF hq17 hb
  exact gO 8 E<|oSi h22▸⟨⟨E,E,tV⟩,[],E,.inl E⟩
 exact gO 4 E<|oSi h18▸gP E E
theorem Lej{s:Str}{r:Int}(h:Lad s=some r):Pure Tryz.prog 87 [S s] (I r):=by
 unfold Lad at h
 refine QP Tryz.func87 E E E<|gA 13 E<|jC E h (fun h1=>?_) fun h2=>bK h2 fun y3 hy3 h4=>gA 6 E<|Kdy C (Pure.rows (Kve hy3) E E) E Z E E E E E<|gO 4 E<|bK h4 fun q8 hq8 h9=>Kdh 9 E fun hb11=>Khd (R:=fun a10=>q8=.go a10) (fun a10=>[]) (fun a10=>[]) ?_ ?_
 ·exact gA 7 E<|oSi h1▸gP E E
 ·refine gA 1 E<|Kdg y3 hq8 (fun i5 s6=>[(9,.d (Sl eS y3)),(10,I (y3.length:Int)),(11,I (i5:Int))]) (fun s6=>[]) ⟨⟨E,E,E,tV⟩,[],E,.inl E⟩ (fun i5 x7 s6 y15 hx12 hlt hy13 hout14=>?_) (fun s6 hgo=>?_)
  ·refine gA 6 E<|Kcs E (dT (Int.ofNat_lt.2 hlt))<|gA 6 E<|eo_o E (Kdi hΓ (enc:=eS) (Kdb hx12) E E E E E (fun _=>E))<|bK hy13 fun y16 hy16 h17=>gO 7 E<|Kdy C (Lei hy16) E Z E E E E E<|gO 3 E<|jC E h17 (fun h18=>?_) fun h21=>gA 7 E ?_
   ·refine gA 8 E<|bK h18 fun v19 hv19 h20=>?_
    cases h20
    obtain rfl:=hout14 _ rfl
    cases h9
    exact gA 4 E<|oSi hv19▸gP E E
   cases h21
   exact⟨_,E,⟨⟨E,E,Kbx E (Kbw (nLl hlt hb11)),tV⟩,[],E,.inl E⟩⟩
  subst hgo
  exact gA 6 E<|Kct E (dF (Int.lt_irrefl _))<|gA 4 E<|⟨_,E,⟨tV,[],E,.inl E⟩⟩
 intro a10 ha
 subst ha
 replace h9:=Kgy h9
 exact gA 7 E<|oSi h9▸gP E E
theorem Lek{r:List Int}(h:Lae=some r):Pure Tryz.prog 95 [] (.d (Sl (eN .i64) r)):=by
 unfold Lae at h
 exact QP Tryz.func95 E E E<|gA 7 E<|Kdt hΓ (enc:=(eN .i64)) [1,5,12,16,28] E E E E E E E E E E E E Z<|gO 4 E<|oSi h▸gP E E
theorem Lel{s:List Int}{v:Int}{r:Int}(h:Laf s v=some r):Pure Tryz.prog 94 [.d (Sl (eN .i64) s),I v] (I r):=by
 unfold Laf at h
 refine QP Tryz.func94 E E E<|gA 13 E<|bK h fun q4 hq4 h5=>Kdh 0 E fun hb7=>Khd (R:=fun a6=>q4=.go a6) (fun a6=>[]) (fun a6=>[]) ?_ ?_
 ·refine gA 1 E<|Kdg s hq4 (fun i1 s2=>[(0,.d (Sl (eN .i64) s)),(1,I v),(7,I (s.length:Int)),(8,I (i1:Int))]) (fun s2=>[]) ⟨⟨E,E,E,E,tV⟩,[],E,.inl E⟩ (fun i1 x3 s2 y11 hx8 hlt hy9 hout10=>?_) (fun s2 hgo=>?_)
  ·refine gA 6 E<|Kcs E (dT (Int.ofNat_lt.2 hlt))<|gA 15 E<|eo_o E (Kdi hΓ (enc:=(eN .i64)) (Kdb hx8) E E E E E (fun _=>E))<|gO 4 E<|jC E hy9 (fun h12=>?_) fun h15=>gA 7 E ?_
   ·refine gA 9 E<|bK h12 fun v13 hv13 h14=>?_
    cases h14
    obtain rfl:=hout10 _ rfl
    cases h5
    exact gA 4 E<|oSi hv13▸gP E E
   cases h15
   exact⟨_,E,⟨⟨E,E,E,Kbx E (Kbw (nLl hlt hb7)),tV⟩,[],E,.inl E⟩⟩
  subst hgo
  exact gA 6 E<|Kct E (dF (Int.lt_irrefl _))<|gA 4 E<|⟨_,E,⟨tV,[],E,.inl E⟩⟩
 intro a6 ha
 subst ha
 replace h5:=Kgy h5
 exact gA 7 E<|oSi h5▸gP E E
theorem Lem{s:List Int}{v:Int}{r:Bool}(h:Lag s v=some r):Pure Tryz.prog 133 [.d (Sl (eN .i64) s),I v] (B r):=by
 unfold Lag at h
 exact QP Tryz.func133 E E E<|bK h fun y1 hy1 h2=>gA 9 E<|Kdy C (Lel hy1) E Z E E E E E<|gO 5 E<|oSi h2▸gP E E
theorem Len{a:Kya}{r:Int}(h:Lah a=some r):Pure Tryz.prog 154 [.agg [B a.Six,U a.Hi,U a.Lo]] (I r):=by
 unfold Lah at h
 refine QP Tryz.func154 E E E<|gA 2 E<|Kmj E E E E Z<|gO 10 E<|Kcx 9 [(15,B ((!a.Six)&&((decide ((a.Hi:Int)>0))||(decide ((a.Lo:Int)>4294967295)))))] [.box 39 [B a.Six,U a.Hi,U a.Lo]] ?_ ?_
 ·refine Klc E E (fun hb=>?_) (fun hb=>?_)
  ·refine gO 4 E<|Kcx 4 [(6,B true),(14,B ((decide ((a.Hi:Int)>0))||(decide ((a.Lo:Int)>4294967295))))] [.box 39 [B a.Six,U a.Hi,U a.Lo]] ?_ ?_
   ·refine Klc E E (fun hb=>?_) (fun hb=>?_)
    ·exact gO 5 E<|⟨⟨E,Kby E (or_t hb),tV⟩,[],E,.inl E⟩
    exact gO 5 E<|⟨⟨E,Kby E (or_f hb),tV⟩,[],E,.inl E⟩
   exact gO 2 E<|⟨⟨Kby E (Ket hb),tV⟩,[],E,.inl E⟩
  exact gO 10 E<|⟨⟨Kby E (Keu hb),tV⟩,[],E,.inl E⟩
 refine gO 2 E<|jC E h (fun h1=>?_) fun h2=>gA 8 E<|oSi h2▸gP E E
 exact gA 7 E<|oSi h1▸gP E E
end Go.Proofs.YtfnjahjbpaoepaaGreatDoor
