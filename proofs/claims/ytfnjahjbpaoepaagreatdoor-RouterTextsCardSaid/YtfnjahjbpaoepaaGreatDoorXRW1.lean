import Derived.Test.YtfnjahjbpaoepaaGreatDoorXRM
import Derived.Test.YtfnjahjbpaoepaaGreatDoorGt
import Derived.Test.YtfnjahjbpaoepaaGreatDoorStr
import Derived.Test.YtfnjahjbpaoepaaGreatDoorStr2
import Derived.Test.YtfnjahjbpaoepaaGreatDoorStr4
import Derived.Test.YtfnjahjbpaoepaaGreatDoorStr5
import Derived.Test.YtfnjahjbpaoepaaGreatDoorStr6
import Derived.Test.YtfnjahjbpaoepaaGreatDoorStr7
import Derived.Test.YtfnjahjbpaoepaaGreatDoorBld
set_option maxHeartbeats 8000000
set_option linter.all false
set_option maxRecDepth 100000
namespace Go.Proofs.YtfnjahjbpaoepaaGreatDoor
open Go.Gk
theorem E.{u}{α:Sort u}{a:α}:a=a:=rfl
theorem Z{n m:Nat}(h:Nat.ble n m=true:=by exact rfl):n≤m:=nBe h
theorem C{f:FuncId}{fn:Func}(h:Tryz.prog.funcs[f]?=some fn:=by exact rfl)(h1:fn.body.isNone=false:=by exact rfl)(h2:(fn.name== "runtime.NumGoroutine")=false:=by exact rfl):Callable Tryz.prog f:=Lhi h h1 h2
theorem bK{α β:Type}{x:Option α}{f:α→Option β}{r:β}{G:Prop}(h:bi x f=some r)(k:∀ a,x=some a→f a=some r→G):G:=let⟨a,b,c⟩:=Kct h;k a b c
theorem gK{α:Type}{c:Bool}{x:Option α}{r:α}{G:Prop}(h:gd c x=some r)(k:c=true→x=some r→G):G:=let⟨a,b⟩:=Kcu h;k a b
section
variable{F N:Nat}{Q:GPost}{fr fr':Fr}{hp:List Ob}{ks:List Kt}
theorem jC{P:Program}{t:Tmp}{x y:Code}{b:Bool}{α:Type}{u v r:α}(hb:fr.get t=some (.d (.v (.bool b))))(h:(bif b then u else v)=r)(h1:u=r→St.holds P F N Q (.code x ks) fr hp)(h2:v=r→St.holds P F N Q (.code y ks) fr hp):St.holds P F N Q (.code (.cond (.tmp t) x y) ks) fr hp:=Kcm hb (fun e=>h1 (cT h e)) fun e=>h2 (cF h e)
theorem gA(n:Nat){st st':St}(h:mrun Γ N hp n st fr=(st',fr'))(k:St.holds Tryz.prog F N Q st' fr' hp):St.holds Tryz.prog F N Q st fr hp:=go hΓ n h k
theorem gO(n:Nat){full:Array Oper}{l:List Oper}{st':St}(h:mrun Γ N hp n (.ops full l ks) fr=(st',fr'))(k:St.holds Tryz.prog F N Q st' fr' hp):EO Tryz.prog F N full l (stk Tryz.prog F N Q ks) fr hp:=Kcj hΓ n h k
theorem jD{id:Nat}{ops:Array Oper}(h:St.holds Tryz.prog F N Q (.draw ops ops.toList ks) fr hp)(hB:Region.lexB .any ops=true:=by kernel_rfl):St.holds Tryz.prog F N Q (.code (.region id ops true) ks) fr hp:=Kcp hmix hB h
theorem QN{f:FuncId}{fn:Func}{c:Code}{gs:List G}{R:G→List Ob→Prop}(hf:Tryz.prog.funcs[f]?=some fn)(hb:fn.body=some c)(hN:gs.length≤fn.ntmps)(h:St.holds Tryz.prog hp.length fn.ntmps (Ret Tryz.prog fn hp.length R) (.code c []) (Fr.of 0 gs) hp):EC Tryz.prog f gs hp R:=Klb (Fr.of 0 gs) hf hb (Fr.of_ok gs) hN fun _=>Kcl h
theorem QM{f:FuncId}{fn:Func}{c:Code}{gs:List G}{R:G→List Ob→Prop}(hf:Tryz.prog.funcs[f]?=some fn)(hb:fn.body=some c)(hN:gs.length≤fn.ntmps)(h:St.holds Tryz.prog hp.length fn.ntmps (fun e fr hp'=>Cv hp.length fn.ntmps (fun fr2 hp2=>Ret Tryz.prog fn hp.length R e fr2 hp2) fr hp') (.code c []) (Fr.of 0 gs) hp):EC Tryz.prog f gs hp R:=Kiq (Fr.of 0 gs) hf hb (Fr.of_ok gs) hN fun _=>Kcl h
theorem QP{f:FuncId}{fn:Func}{c:Code}{gs:List G}{r:G}(hf:Tryz.prog.funcs[f]?=some fn)(hb:fn.body=some c)(hN:Nat.ble gs.length fn.ntmps=true)(hr:r.bel 0=true)(h:St.holds Tryz.prog 0 fn.ntmps (fun e fr hp=>(e=.normal∨e=.ret)∧Res Tryz.prog fn fr hp r) (.code c []) (Fr.of 0 gs) []):Pure Tryz.prog f gs r:=Pure.enter (Fr.of 0 gs) hf hb (Fr.of_ok gs) hN hr (Kcl h)
theorem gP{fn:Func}{gs:List G}{g:G}(h:resAll Γ fr hp fn.results.toList=some gs)(hg:retG gs=g):(Exit.ret=.normal∨Exit.ret=.ret)∧Res Tryz.prog fn fr hp g:=Kef hΓ (.inr rfl) h hg
end
abbrev Leg(x:Kzn):List D:=[Sl (eN .i64) x.L,.v (.int .i64 x.v_at)]
abbrev Leh(x:Kzo):List D:=[.v (.bool x.Six),.v (.int .u64 x.Hi),.v (.int .u64 x.Lo)]
abbrev Lei(x:Kzp):List D:=[.v (.bool x.Addr.Six),.v (.int .u64 x.Addr.Hi),.v (.int .u64 x.Addr.Lo),.v (.int .i64 x.Bits)]
abbrev Lej(x:Kzq):List D:=[.v (.bool x.Prefix.Addr.Six),.v (.int .u64 x.Prefix.Addr.Hi),.v (.int .u64 x.Prefix.Addr.Lo),.v (.int .i64 x.Prefix.Bits),.v (.string ⟨x.Node.toArray⟩),.v (.int .i64 x.Weight)]
abbrev Lek(x:Kzr):List D:=[.v (.string ⟨x.A.toArray⟩),.v (.string ⟨x.v_B.toArray⟩),.v (.int .i64 x.Millis)]
abbrev Lel(x:Kzs):List D:=[.v (.string ⟨x.to.toArray⟩),.v (.int .i64 x.millis)]
abbrev Lem(x:Kzt):List D:=[.v (.int .i64 x.millis),.v (.int .i64 x.links)]
abbrev mObB(m:List (Str×Bool)):Ob:=mOb kS false eB m
abbrev rO{α:Type}(t:TypeId)(z:Nat)(e:α→List D)(l:List α):Ob:=.row t z l.length (l.flatMap e)
abbrev fQ(s:Kzn):List G:=[.d (Sl (eN .i64) s.L),I s.v_at]
theorem Len{x:Int}{n:Int}{r:Int}(h:Kzu x n=some r):Pure Tryz.prog 124 [I x,I n] (I r):=by
 unfold Kzu at h
 refine QP Tryz.func124 E E E<|gA 12 E<|jC E h (fun h1=>?_) fun h2=>bK h2 fun y3 hy3 h4=>gA 6 E<|eo_o E (Kee hy3 E E)<|bK h4 fun q5 hq5 h6=>gO 10 E<|Kgq [(0,I q5)] [] ?_ ?_
 ·exact gA 7 E<|oSi h1▸gP E E
 ·refine jC E hq5 (fun h7=>?_) fun h8=>gA 1 E<|oSi h8▸⟨⟨E,tV⟩,[],E,.inl E⟩
  exact gA 6 E<|oSi h7▸⟨⟨E,tV⟩,[],E,.inl E⟩
 exact gA 8 E<|oSi h6▸gP E E
theorem Leo{s:Kzn}{n:Int}{r:Int×Kzn}(h:Kzv s n=some r):EC Tryz.prog 38 [.ptr 0 0,I n] [.box 25 (fQ s)] fun g hp'=>g=I r.1∧hp'=[.box 25 (fQ r.2)]:=by
 unfold Kzv at h
 refine QN Tryz.func38 E Z<|gA 14 E<|Kmu hΓ E E E E E E E E Z<|Kdz [.box 25 [.d (Sl (eN .i64) s.L),I (wi (s.v_at+1))]] E<|gO 13 E<|jC E h (fun h1=>?_) fun h4=>gA 3 E<|jD<|bK h4 fun y5 hy5 h6=>gA 10 E<|gl_o E (Kee hy5 E E)<|Kck hΓ 4 E<|jD<|bK h6 fun y7 hy7 h8=>gA 10 E<|gl_o E (Ked hy7 E E)<|bK h8 fun x9 hx9 h10=>Kck hΓ 10 E<|eo_o E (Kdd hΓ (enc:=(eN .i64)) hx9 E E E E E (fun _=>E))<|bK h10 fun y11 hy11 h12=>gO 1 E<|Kdq C (Len hy11) E Z E E E E E<|bK h12 fun y13 hy13 h14=>gO 6 E<|Kdq C (Len hy13) E Z E E E E E<|gO 4 E<|oSi h14▸Keg hΓ [] (.inr E) E E E E (.inl E)
 exact bK h1 fun y2 hy2 h3=>gA 8 E<|Kdq C (Len hy2) E Z E E E E E<|gO 5 E<|oSi h3▸Keg hΓ [] (.inr E) E E E E (.inl E)
theorem Lep{s:Kzn}{n:Int}{r:Bool×Kzn}(h:Kzw s n=some r):EC Tryz.prog 39 [.ptr 0 0,I n] [.box 25 (fQ s)] fun g hp'=>g=B r.1∧hp'=[.box 25 (fQ r.2)]:=by
 unfold Kzw at h
 exact QN Tryz.func39 E Z<|bK h fun y1 hy1 h2=>gA 9 E<|Kdp [0] (I y1.1) [.box 25 (fQ y1.2)] C (Leo hy1) E Z E E E E E E E E E E<|gO 5 E<|oSi h2▸Keg hΓ [] (.inr E) E E E E (.inl E)
theorem Leq{s:Kzn}{l:List Int}{r:Int×Kzn}(h:Kzx s l=some r):EC Tryz.prog 35 [.ptr 0 0,.d (Sl (eN .i64) l)] [.box 25 (fQ s)] fun g hp'=>g=I r.1∧hp'=[.box 25 (fQ r.2)]:=by
 unfold Kzx at h
 exact QN Tryz.func35 E Z<|bK h fun y1 hy1 h2=>gA 11 E<|Kdp [0] (I y1.1) [.box 25 (fQ y1.2)] C (Leo hy1) E Z E E E E E E E E E E<|bK h2 fun x3 hx3 h4=>eo_o E (Kdd hΓ (enc:=(eN .i64)) hx3 E E E E E (fun _=>E))<|gO 5 E<|oSi h4▸Keg hΓ [] (.inr E) E E E E (.inl E)
theorem Ler{s:Kzn}{low:Int}{high:Int}{r:Int×Kzn}(h:Kzy s low high=some r):EC Tryz.prog 26 [.ptr 0 0,I low,I high] [.box 25 (fQ s)] fun g hp'=>g=I r.1∧hp'=[.box 25 (fQ r.2)]:=by
 unfold Kzy at h
 refine QN Tryz.func26 E Z<|gA 13 E<|jC E h (fun h1=>?_) fun h2=>bK h2 fun y3 hy3 h4=>gA 10 E<|Kdp [0] (I y3.1) [.box 25 (fQ y3.2)] C (Leo hy3) E Z E E E E E E E E E E<|gO 5 E<|oSi h4▸Keg hΓ [] (.inr E) E E E E (.inl E)
 exact gA 8 E<|oSi h1▸Keg hΓ [] (.inr E) E E E E (.inl E)
theorem Les{s:Kzn}{r:Kzo×Kzn}(h:Kzz s=some r):EC Tryz.prog 228 [.ptr 0 0] [.box 25 (fQ s)] fun g hp'=>g=.agg [B r.1.Six,U r.1.Hi,U r.1.Lo]∧hp'=[.box 25 (fQ r.2)]:=by
 unfold Kzz at h
 refine QN Tryz.func228 E Z<|gA 2 E<|Kmp hΓ E E E Z<|bK h fun y1 hy1 h2=>gO 6 E<|Kdp [0] (I y1.1) [.box 25 (fQ y1.2),.box 39 [B false,U 0,U 0]] C (Leo hy1) E Z E E E E E E E E E E<|gO 9 E<|jC E h2 (fun h3=>?_) fun h12=>gA 6 E<|jC E h12 (fun h13=>?_) fun h18=>?_
 ·exact gA 1 E<|Kfr [] [] [2,7,11] [] hmix (by kernel_rfl) (by kernel_rfl) trivial Z<|Kgg hΓ (enc:=(eN .u64)) [0,18230571291595767808,2306139568115548160,9223372036854775808,18446744073709551615] E E E E E E E E E E E E<|bK h3 fun y4 hy4 h5=>go_E hΓ 1 E<|ge_h [.box 25 (fQ y4.2),.box 39 [B false,U 0,U 0]] E E E (Kfz tV) (Kge [0] (I y4.1) [.box 25 (fQ y4.2),.box 39 [B false,U 0,U 0]] C (Leo hy4) E E E E E E E E E E)<|bK h5 fun x6 hx6 h7=>ge_q E (.inl E) (fun _ _=>Kft (qt_p (Kdd hΓ (enc:=(eN .u64)) hx6 E E E E E (fun _=>E))))<|go_E hΓ 1 E<|Kgg hΓ (enc:=(eN .u64)) [0,1,2,4294967296,18446744073709551615] E E E E E E E E E E E E<|bK h7 fun y8 hy8 h9=>go_E hΓ 1 E<|ge_h [.box 25 (fQ y8.2),.box 39 [B false,U 0,U 0]] E E E (Kfz tV) (Kge [0] (I y8.1) [.box 25 (fQ y8.2),.box 39 [B false,U 0,U 0]] C (Leo hy8) E E E E E E E E E E)<|bK h9 fun x10 hx10 h11=>ge_q E (.inl E) (fun _ _=>Kft (qt_p (Kdd hΓ (enc:=(eN .u64)) hx10 E E E E E (fun _=>E))))<|go_E hΓ 1 E<|ge_q E (.inl E) (fun _ _=>Kft (qt_p (Kgh hΓ (gs:=[B true,U x6,U x10]) E E E E E E)))<|Kfx [.box 25 (fQ y8.2),.box 39 [B true,U x6,U x10]] E E (Kfz tV) (Kgd (Kgu hΓ E E E E E E E E E))<|Kfs<|gA 4 E<|oSi h11▸Keg hΓ [_] (.inr E) E E E E (.inr ⟨HB.mk E,E⟩)
 ·exact gA 2 E<|Kdk hΓ (enc:=(eN .u64)) [0,1,4294967295,2130706433,3232235521] E E E E E E E E E E E E Z<|bK h13 fun y14 hy14 h15=>gO 1 E<|Kdp [0] (I y14.1) [.box 25 (fQ y14.2),.box 39 [B false,U 0,U 0]] C (Leo hy14) E Z E E E E E E E E E E<|bK h15 fun x16 hx16 h17=>eo_o E (Kdd hΓ (enc:=(eN .u64)) hx16 E E E E E (fun _=>E))<|gO 1 E<|Kav hΓ (gs:=[B false,U 0,U x16]) E E E E E E E<|Kmu hΓ E E E E E E E E Z<|Kdz [.box 25 (fQ y14.2),.box 39 [B false,U 0,U x16]] E<|gO 5 E<|oSi h17▸Keg hΓ [_] (.inr E) E E E E (.inr ⟨HB.mk E,E⟩)
 refine gA 6 E<|jC E h18 (fun h19=>?_) fun h24=>bK h24 fun y25 hy25 h26=>gA 6 E<|Kdp [0] (I y25.1) [.box 25 (fQ y25.2),.box 39 [B false,U 0,U 0]] C (Ler hy25) E Z E E E E E E E E E E<|gO 2 E<|Kav hΓ (gs:=[B false,U 0,U (IntKind.u64.wrap (167772160+(IntKind.u64.wrap (y25.1))))]) E E E E E E E<|Kmu hΓ E E E E E E E E Z<|Kdz [.box 25 (fQ y25.2),.box 39 [B false,U 0,U (IntKind.u64.wrap (167772160+(IntKind.u64.wrap (y25.1))))]] E<|gO 3 E<|oSi h26▸Keg hΓ [_] (.inr E) E E E E (.inr ⟨HB.mk E,E⟩)
 exact bK h19 fun y20 hy20 h21=>gA 3 E<|Kdp [0] (I y20.1) [.box 25 (fQ y20.2),.box 39 [B false,U 0,U 0]] C (Ler hy20) E Z E E E E E E E E E E<|bK h21 fun y22 hy22 h23=>gO 2 E<|eo_o E (Kee hy22 E E)<|Kav hΓ (gs:=[B false,U 0,U y22]) E E E E E E E<|Kmu hΓ E E E E E E E E Z<|Kdz [.box 25 (fQ y20.2),.box 39 [B false,U 0,U y22]] E<|gO 5 E<|oSi h23▸Keg hΓ [_] (.inr E) E E E E (.inr ⟨HB.mk E,E⟩)
theorem Let{k:Nat}{a:Kzo}{r:(Int×Int×Int×Int×Int×Int×Int×Int×Int)}(h:Laa k a=some r):Pure Tryz.prog 158 [.agg [B a.Six,U a.Hi,U a.Lo]] (.agg [I r.1,I r.2.1,I r.2.2.1,I r.2.2.2.1,I r.2.2.2.2.1,I r.2.2.2.2.2.1,I r.2.2.2.2.2.2.1,I r.2.2.2.2.2.2.2.1,I r.2.2.2.2.2.2.2.2]):=by
 unfold Laa at h
 refine QP Tryz.func158 E E E<|gA 2 E<|Kmq E E E E Z<|Kmp hΓ E E E Z<|gO 4 E<|Kmp hΓ E E E Z<|gO 8 E<|bK h fun q4 hq4 h5=>Kgq [(1,.ptr 0 0),(2,.ptr 1 0),(3,.ptr 2 0)] [.box 39 [B a.Six,U a.Hi,U a.Lo],.box 198 [I 0,I 0,I 0,I 0,I 0,I 0,I 0,I 0,I 0],.box 198 [I q4.1,I q4.2.1,I q4.2.2.1,I q4.2.2.2.1,I q4.2.2.2.2.1,I q4.2.2.2.2.2.1,I q4.2.2.2.2.2.2.1,I q4.2.2.2.2.2.2.2.1,I q4.2.2.2.2.2.2.2.2]] ?_ ?_
 ·refine gA 1 E<|Kcz hq4 (fun s2=>[(1,.ptr 0 0),(2,.ptr 1 0),(3,.ptr 2 0),(5,I s2.2.2.2.2.2.2.2.2.2)]) (fun s2=>[.box 39 [B a.Six,U a.Hi,U a.Lo],.box 198 [I 0,I 0,I 0,I 0,I 0,I 0,I 0,I 0,I 0],.box 198 [I s2.1,I s2.2.1,I s2.2.2.1,I s2.2.2.2.1,I s2.2.2.2.2.1,I s2.2.2.2.2.2.1,I s2.2.2.2.2.2.2.1,I s2.2.2.2.2.2.2.2.1,I s2.2.2.2.2.2.2.2.2.1]]) ⟨⟨E,E,E,E,tV⟩,[],E,.inl E⟩ (fun s2 y10 hy8 hout9=>?_)
  refine gA 6 E<|jC E hy8 (fun h11=>?_) fun h20=>gA 4 E ?_
  ·exact bK h11 fun y12 hy12 h13=>gA 17 E<|eo_o E (Kep hy12 E E)<|bK h13 fun x14 hx14 h15=>gO 2 E<|eo_o E (Kiu hΓ hx14 E E E E E E)<|eo_u Z (Kiw hΓ (l:=([s2.1,s2.2.1,s2.2.2.1,s2.2.2.2.1,s2.2.2.2.2.1,s2.2.2.2.2.2.1,s2.2.2.2.2.2.2.1,s2.2.2.2.2.2.2.2.1,s2.2.2.2.2.2.2.2.2.1]:List Int)) (v:=(wi (bitsV .and .u64 y12 65535))) (f:=fun z=>.d (.v (.int .i64 z))) hx14 E E E E E E E E E E)<|Kdz [.box 39 [B a.Six,U a.Hi,U a.Lo],.box 198 [I 0,I 0,I 0,I 0,I 0,I 0,I 0,I 0,I 0],.box 198 [I (updA s2.2.2.2.2.2.2.2.2.2 0 (wi (bitsV .and .u64 y12 65535)) s2.1),I (updA s2.2.2.2.2.2.2.2.2.2 1 (wi (bitsV .and .u64 y12 65535)) s2.2.1),I (updA s2.2.2.2.2.2.2.2.2.2 2 (wi (bitsV .and .u64 y12 65535)) s2.2.2.1),I (updA s2.2.2.2.2.2.2.2.2.2 3 (wi (bitsV .and .u64 y12 65535)) s2.2.2.2.1),I (updA s2.2.2.2.2.2.2.2.2.2 4 (wi (bitsV .and .u64 y12 65535)) s2.2.2.2.2.1),I (updA s2.2.2.2.2.2.2.2.2.2 5 (wi (bitsV .and .u64 y12 65535)) s2.2.2.2.2.2.1),I (updA s2.2.2.2.2.2.2.2.2.2 6 (wi (bitsV .and .u64 y12 65535)) s2.2.2.2.2.2.2.1),I (updA s2.2.2.2.2.2.2.2.2.2 7 (wi (bitsV .and .u64 y12 65535)) s2.2.2.2.2.2.2.2.1),I (updA s2.2.2.2.2.2.2.2.2.2 8 (wi (bitsV .and .u64 y12 65535)) s2.2.2.2.2.2.2.2.2.1)]] E<|bK h15 fun y16 hy16 h17=>gO 9 E<|eo_o E (Kep hy16 E E)<|bK h17 fun x18 hx18 h19=>gO 2 E<|eo_o E (Kiu hΓ hx18 E E E E E E)<|eo_u Z (Kiw hΓ (l:=([updA s2.2.2.2.2.2.2.2.2.2 0 (wi (bitsV .and .u64 y12 65535)) s2.1,updA s2.2.2.2.2.2.2.2.2.2 1 (wi (bitsV .and .u64 y12 65535)) s2.2.1,updA s2.2.2.2.2.2.2.2.2.2 2 (wi (bitsV .and .u64 y12 65535)) s2.2.2.1,updA s2.2.2.2.2.2.2.2.2.2 3 (wi (bitsV .and .u64 y12 65535)) s2.2.2.2.1,updA s2.2.2.2.2.2.2.2.2.2 4 (wi (bitsV .and .u64 y12 65535)) s2.2.2.2.2.1,updA s2.2.2.2.2.2.2.2.2.2 5 (wi (bitsV .and .u64 y12 65535)) s2.2.2.2.2.2.1,updA s2.2.2.2.2.2.2.2.2.2 6 (wi (bitsV .and .u64 y12 65535)) s2.2.2.2.2.2.2.1,updA s2.2.2.2.2.2.2.2.2.2 7 (wi (bitsV .and .u64 y12 65535)) s2.2.2.2.2.2.2.2.1,updA s2.2.2.2.2.2.2.2.2.2 8 (wi (bitsV .and .u64 y12 65535)) s2.2.2.2.2.2.2.2.2.1]:List Int)) (v:=(wi (bitsV .and .u64 y16 65535))) (f:=fun z=>.d (.v (.int .i64 z))) hx18 E E E E E E E E E E)<|Kdz [.box 39 [B a.Six,U a.Hi,U a.Lo],.box 198 [I 0,I 0,I 0,I 0,I 0,I 0,I 0,I 0,I 0],.box 198 [I (updA (wi (4+s2.2.2.2.2.2.2.2.2.2)) 0 (wi (bitsV .and .u64 y16 65535)) (updA s2.2.2.2.2.2.2.2.2.2 0 (wi (bitsV .and .u64 y12 65535)) s2.1)),I (updA (wi (4+s2.2.2.2.2.2.2.2.2.2)) 1 (wi (bitsV .and .u64 y16 65535)) (updA s2.2.2.2.2.2.2.2.2.2 1 (wi (bitsV .and .u64 y12 65535)) s2.2.1)),I (updA (wi (4+s2.2.2.2.2.2.2.2.2.2)) 2 (wi (bitsV .and .u64 y16 65535)) (updA s2.2.2.2.2.2.2.2.2.2 2 (wi (bitsV .and .u64 y12 65535)) s2.2.2.1)),I (updA (wi (4+s2.2.2.2.2.2.2.2.2.2)) 3 (wi (bitsV .and .u64 y16 65535)) (updA s2.2.2.2.2.2.2.2.2.2 3 (wi (bitsV .and .u64 y12 65535)) s2.2.2.2.1)),I (updA (wi (4+s2.2.2.2.2.2.2.2.2.2)) 4 (wi (bitsV .and .u64 y16 65535)) (updA s2.2.2.2.2.2.2.2.2.2 4 (wi (bitsV .and .u64 y12 65535)) s2.2.2.2.2.1)),I (updA (wi (4+s2.2.2.2.2.2.2.2.2.2)) 5 (wi (bitsV .and .u64 y16 65535)) (updA s2.2.2.2.2.2.2.2.2.2 5 (wi (bitsV .and .u64 y12 65535)) s2.2.2.2.2.2.1)),I (updA (wi (4+s2.2.2.2.2.2.2.2.2.2)) 6 (wi (bitsV .and .u64 y16 65535)) (updA s2.2.2.2.2.2.2.2.2.2 6 (wi (bitsV .and .u64 y12 65535)) s2.2.2.2.2.2.2.1)),I (updA (wi (4+s2.2.2.2.2.2.2.2.2.2)) 7 (wi (bitsV .and .u64 y16 65535)) (updA s2.2.2.2.2.2.2.2.2.2 7 (wi (bitsV .and .u64 y12 65535)) s2.2.2.2.2.2.2.2.1)),I (updA (wi (4+s2.2.2.2.2.2.2.2.2.2)) 8 (wi (bitsV .and .u64 y16 65535)) (updA s2.2.2.2.2.2.2.2.2.2 8 (wi (bitsV .and .u64 y12 65535)) s2.2.2.2.2.2.2.2.2.1))]] E<|gO 7 E<|oSi h19▸⟨_,E,⟨⟨E,E,E,E,tV⟩,[],E,.inl E⟩⟩
  cases h20
  obtain rfl:=hout9 _ rfl
  exact⟨⟨E,E,E,tV⟩,[],E,.inl E⟩
 refine bK h5 fun q21 hq21 h22=>gA 8 E<|Kgq [(2,.ptr 1 0),(3,.ptr 2 0)] [.box 39 [B a.Six,U a.Hi,U a.Lo],.box 198 [I 0,I 0,I 0,I 0,I 0,I 0,I 0,I 0,I 0],.box 198 [I q4.1,I q4.2.1,I q4.2.2.1,I q4.2.2.2.1,I q4.2.2.2.2.1,I q4.2.2.2.2.2.1,I q4.2.2.2.2.2.2.1,I q4.2.2.2.2.2.2.2.1,I q21]] ?_ ?_
 ·refine jC E hq21 (fun h23=>?_) fun h24=>gA 1 E<|oSi h24▸⟨⟨E,E,tV⟩,[],E,.inl E⟩
  exact gA 1 E<|eo_o E (Kiu hΓ (l:=List.replicate 9 ()) (z:=()) E E E E E E E)<|Kmu hΓ E E E E E E E E Z<|Kdz [.box 39 [B a.Six,U a.Hi,U a.Lo],.box 198 [I 0,I 0,I 0,I 0,I 0,I 0,I 0,I 0,I 0],.box 198 [I q4.1,I q4.2.1,I q4.2.2.1,I q4.2.2.2.1,I q4.2.2.2.2.1,I q4.2.2.2.2.2.1,I q4.2.2.2.2.2.2.1,I q4.2.2.2.2.2.2.2.1,I 1]] E<|gO 1 E<|oSi h23▸⟨⟨E,E,tV⟩,[],E,.inl E⟩
 exact gA 4 E<|Kmu hΓ E E E E E E E E Z<|Kdz [.box 39 [B a.Six,U a.Hi,U a.Lo],.box 198 [I q4.1,I q4.2.1,I q4.2.2.1,I q4.2.2.2.1,I q4.2.2.2.2.1,I q4.2.2.2.2.2.1,I q4.2.2.2.2.2.2.1,I q4.2.2.2.2.2.2.2.1,I q21],.box 198 [I q4.1,I q4.2.1,I q4.2.2.1,I q4.2.2.2.1,I q4.2.2.2.2.1,I q4.2.2.2.2.2.1,I q4.2.2.2.2.2.2.1,I q4.2.2.2.2.2.2.2.1,I q21]] E<|gO 3 E<|oSi h22▸gP E E
theorem Leu{a:Kzo}{r:Int}(h:Lab a=some r):Pure Tryz.prog 156 [.agg [B a.Six,U a.Hi,U a.Lo]] (I r):=by
 unfold Lab at h
 refine QP Tryz.func156 E E E<|gA 2 E<|Kmq E E E E Z<|gO 10 E<|jC E h (fun h1=>?_) fun h2=>gA 8 E<|oSi h2▸gP E E
 exact gA 7 E<|oSi h1▸gP E E
theorem Lev{k:Nat}{a:Kzo}{bits:Int}{r:(Int×Int×Int×Int×Int×Int×Int×Int×Int)}(h:Lac k a bits=some r):Pure Tryz.prog 157 [.agg [B a.Six,U a.Hi,U a.Lo],I bits] (.agg [I r.1,I r.2.1,I r.2.2.1,I r.2.2.2.1,I r.2.2.2.2.1,I r.2.2.2.2.2.1,I r.2.2.2.2.2.2.1,I r.2.2.2.2.2.2.2.1,I r.2.2.2.2.2.2.2.2]):=by
 unfold Lac at h
 refine QP Tryz.func157 E E E<|gA 2 E<|Kmq E E E E Z<|Kmp hΓ E E E Z<|bK h fun y1 hy1 h2=>gO 5 E<|Kdq C (Let hy1) E Z E E E E E<|Kmp hΓ E E E Z<|Kmu hΓ E E E E E E E E Z<|Kdz [.box 39 [B a.Six,U a.Hi,U a.Lo],.box 198 [I 0,I 0,I 0,I 0,I 0,I 0,I 0,I 0,I 0],.box 198 [I y1.1,I y1.2.1,I y1.2.2.1,I y1.2.2.2.1,I y1.2.2.2.2.1,I y1.2.2.2.2.2.1,I y1.2.2.2.2.2.2.1,I y1.2.2.2.2.2.2.2.1,I y1.2.2.2.2.2.2.2.2]] E<|bK h2 fun y3 hy3 h4=>gO 6 E<|Kdq C (Leu hy3) E Z E E E E E<|gO 5 E<|bK h4 fun q8 hq8 h9=>gK hq8 fun hb11 h12=>?_
 replace hb11:=of_decide_eq_true hb11
 refine Kgq [(4,.ptr 1 0),(5,.ptr 2 0)] [.box 39 [B a.Six,U a.Hi,U a.Lo],.box 198 [I 0,I 0,I 0,I 0,I 0,I 0,I 0,I 0,I 0],.box 198 [I q8.1,I q8.2.1,I q8.2.2.1,I q8.2.2.2.1,I q8.2.2.2.2.1,I q8.2.2.2.2.2.1,I q8.2.2.2.2.2.2.1,I q8.2.2.2.2.2.2.2.1,I q8.2.2.2.2.2.2.2.2]] ?_ ?_
 ·refine gA 1 E<|Kej h12 (fun i5 s6=>[(4,.ptr 1 0),(5,.ptr 2 0),(12,I (wi (y3 - bits))),(13,I (i5:Int))]) (fun s6=>[.box 39 [B a.Six,U a.Hi,U a.Lo],.box 198 [I 0,I 0,I 0,I 0,I 0,I 0,I 0,I 0,I 0],.box 198 [I s6.1,I s6.2.1,I s6.2.2.1,I s6.2.2.2.1,I s6.2.2.2.2.1,I s6.2.2.2.2.2.1,I s6.2.2.2.2.2.2.1,I s6.2.2.2.2.2.2.2.1,I s6.2.2.2.2.2.2.2.2]]) ⟨⟨E,E,E,E,tV⟩,[],E,.inl E⟩ (fun i5 s6 y16 hlt hy14=>?_) (fun hge=>?_)
  ·exact gA 6 E<|Kcn E (dT hlt)<|gA 10 E<|Kfr [.dead,.dead,.box 198 [I s6.1,I s6.2.1,I s6.2.2.1,I s6.2.2.2.1,I s6.2.2.2.2.1,I s6.2.2.2.2.2.1,I s6.2.2.2.2.2.2.1,I s6.2.2.2.2.2.2.2.1,I s6.2.2.2.2.2.2.2.2]] [3] [9] [9] hmix (by kernel_rfl) (by kernel_rfl) ⟨E,tV⟩ Z<|bK hy14 fun y17 hy17 h18=>go_E hΓ 1 E<|ge_q E (.inl E) (fun _ _=>Kft (qt_p (Ked hy17 E E)))<|bK h18 fun x19 hx19 h20=>ge_q E (.inl E) (fun _ _=>Kft (qt_p (Kiu hΓ hx19 E E E E E E)))<|ge_p E (fun hp hs=>Kiv hΓ (f:=fun z=>.d (.v (.int .i64 z))) hx19 E E E E (hs 2 _ E E) E) E<|bK h20 fun y21 hy21 h22=>go_E hΓ 1 E<|ge_q E (.inl E) (fun _ _=>Kft (qt_p (Kee hy21 E E)))<|bK h22 fun y23 hy23 h24=>ge_q E (.inl E) (fun _ _=>Kft (qt_p (Keo hy23 E E)))<|bK h24 fun x25 hx25 h26=>go_E hΓ 1 E<|ge_q E (.inl E) (fun _ _=>Kft (qt_p (Kiu hΓ hx25 E E E E E E)))<|Kfx [.box 39 [B a.Six,U a.Hi,U a.Lo],.box 198 [I 0,I 0,I 0,I 0,I 0,I 0,I 0,I 0,I 0],.box 198 [I (updA y17 0 (bitsV .andNot .i64 x19 y23) s6.1),I (updA y17 1 (bitsV .andNot .i64 x19 y23) s6.2.1),I (updA y17 2 (bitsV .andNot .i64 x19 y23) s6.2.2.1),I (updA y17 3 (bitsV .andNot .i64 x19 y23) s6.2.2.2.1),I (updA y17 4 (bitsV .andNot .i64 x19 y23) s6.2.2.2.2.1),I (updA y17 5 (bitsV .andNot .i64 x19 y23) s6.2.2.2.2.2.1),I (updA y17 6 (bitsV .andNot .i64 x19 y23) s6.2.2.2.2.2.2.1),I (updA y17 7 (bitsV .andNot .i64 x19 y23) s6.2.2.2.2.2.2.2.1),I (updA y17 8 (bitsV .andNot .i64 x19 y23) s6.2.2.2.2.2.2.2.2)]] E E (Kfy E) (Kgd (Kiw hΓ (l:=([s6.1,s6.2.1,s6.2.2.1,s6.2.2.2.1,s6.2.2.2.2.1,s6.2.2.2.2.2.1,s6.2.2.2.2.2.2.1,s6.2.2.2.2.2.2.2.1,s6.2.2.2.2.2.2.2.2]:List Int)) (v:=(bitsV .andNot .i64 x19 y23)) (f:=fun z=>.d (.v (.int .i64 z))) hx25 E E E E E E E E E E))<|Kfs<|gA 6 E<|oSi h26▸⟨⟨E,E,E,Kbw E (Kbv (by omega)),tV⟩,[],E,.inl E⟩
  exact gA 6 E<|Kco E (dF hge)<|gA 4 E<|⟨⟨E,E,tV⟩,[],E,.inl E⟩
 exact gA 4 E<|Kmu hΓ E E E E E E E E Z<|Kdz [.box 39 [B a.Six,U a.Hi,U a.Lo],.box 198 [I q8.1,I q8.2.1,I q8.2.2.1,I q8.2.2.2.1,I q8.2.2.2.2.1,I q8.2.2.2.2.2.1,I q8.2.2.2.2.2.2.1,I q8.2.2.2.2.2.2.2.1,I q8.2.2.2.2.2.2.2.2],.box 198 [I q8.1,I q8.2.1,I q8.2.2.1,I q8.2.2.2.1,I q8.2.2.2.2.1,I q8.2.2.2.2.2.1,I q8.2.2.2.2.2.2.1,I q8.2.2.2.2.2.2.2.1,I q8.2.2.2.2.2.2.2.2]] E<|gO 3 E<|oSi h9▸gP E E
theorem Lew{k:Nat}{w:(Int×Int×Int×Int×Int×Int×Int×Int×Int)}{r:Kzo}(h:Lad k w=some r):Pure Tryz.prog 295 [.agg [I w.1,I w.2.1,I w.2.2.1,I w.2.2.2.1,I w.2.2.2.2.1,I w.2.2.2.2.2.1,I w.2.2.2.2.2.2.1,I w.2.2.2.2.2.2.2.1,I w.2.2.2.2.2.2.2.2]] (.agg [B r.Six,U r.Hi,U r.Lo]):=by
 unfold Lad at h
 refine QP Tryz.func295 E E E<|gA 2 E<|Kmq E E E E Z<|Kmp hΓ E E E Z<|gO 4 E<|Kmp hΓ E E E Z<|gO 8 E<|bK h fun q4 hq4 h5=>Kgq [(1,.ptr 0 0),(2,.ptr 1 0),(3,.ptr 2 0)] [.box 198 [I w.1,I w.2.1,I w.2.2.1,I w.2.2.2.1,I w.2.2.2.2.1,I w.2.2.2.2.2.1,I w.2.2.2.2.2.2.1,I w.2.2.2.2.2.2.2.1,I w.2.2.2.2.2.2.2.2],.box 39 [B false,U 0,U 0],.box 39 [B q4.Six,U q4.Hi,U q4.Lo]] ?_ ?_
 ·refine gA 1 E<|Kcz hq4 (fun s2=>[(1,.ptr 0 0),(2,.ptr 1 0),(3,.ptr 2 0),(5,I s2.2)]) (fun s2=>[.box 198 [I w.1,I w.2.1,I w.2.2.1,I w.2.2.2.1,I w.2.2.2.2.1,I w.2.2.2.2.2.1,I w.2.2.2.2.2.2.1,I w.2.2.2.2.2.2.2.1,I w.2.2.2.2.2.2.2.2],.box 39 [B false,U 0,U 0],.box 39 [B s2.1.Six,U s2.1.Hi,U s2.1.Lo]]) ⟨⟨E,E,E,E,tV⟩,[],E,.inl E⟩ (fun s2 y10 hy8 hout9=>?_)
  refine gA 6 E<|jC E hy8 (fun h11=>?_) fun h20=>gA 4 E ?_
  ·exact gA 11 E<|Kfr [.box 198 [I w.1,I w.2.1,I w.2.2.1,I w.2.2.2.1,I w.2.2.2.2.1,I w.2.2.2.2.2.1,I w.2.2.2.2.2.2.1,I w.2.2.2.2.2.2.2.1,I w.2.2.2.2.2.2.2.2],.dead,.box 39 [B s2.1.Six,U s2.1.Hi,U s2.1.Lo]] [1,4] [11] [11] hmix (by kernel_rfl) (by kernel_rfl) ⟨E,E,tV⟩ Z<|bK h11 fun x12 hx12 h13=>go_E hΓ 3 E<|ge_q E (.inl E) (fun _ _=>Kft (qt_p (Kiu hΓ hx12 E E E E E E)))<|ge_p E (fun hp hs=>Kiv hΓ (f:=fun z=>.d (.v (.int .i64 z))) hx12 E E E E (hs 0 _ E E) E) E<|bK h13 fun y14 hy14 h15=>go_E hΓ 3 E<|ge_q E (.inl E) (fun _ _=>Kft (qt_p (Keo hy14 E E)))<|go_E hΓ 2 E<|Kfx [.box 198 [I w.1,I w.2.1,I w.2.2.1,I w.2.2.2.1,I w.2.2.2.2.1,I w.2.2.2.2.2.1,I w.2.2.2.2.2.2.1,I w.2.2.2.2.2.2.2.1,I w.2.2.2.2.2.2.2.2],.box 39 [B false,U 0,U 0],.box 39 [B s2.1.Six,U s2.1.Hi,U (bitsV .or .u64 s2.1.Lo y14)]] E E (Kfy E) (Kgd (Kgu hΓ E E E E E E E E E))<|Kfs<|gA 1 E<|Kfr [.box 198 [I w.1,I w.2.1,I w.2.2.1,I w.2.2.2.1,I w.2.2.2.2.1,I w.2.2.2.2.2.1,I w.2.2.2.2.2.2.1,I w.2.2.2.2.2.2.2.1,I w.2.2.2.2.2.2.2.2],.dead,.box 39 [B s2.1.Six,U s2.1.Hi,U (bitsV .or .u64 s2.1.Lo y14)]] [1,5] [12] [12] hmix (by kernel_rfl) (by kernel_rfl) ⟨E,E,tV⟩ Z<|bK h15 fun x16 hx16 h17=>go_E hΓ 4 E<|ge_q E (.inl E) (fun _ _=>Kft (qt_p (Kiu hΓ hx16 E E E E E E)))<|ge_p E (fun hp hs=>Kiv hΓ (f:=fun z=>.d (.v (.int .i64 z))) hx16 E E E E (hs 0 _ E E) E) E<|bK h17 fun y18 hy18 h19=>go_E hΓ 3 E<|ge_q E (.inl E) (fun _ _=>Kft (qt_p (Keo hy18 E E)))<|go_E hΓ 2 E<|Kfx [.box 198 [I w.1,I w.2.1,I w.2.2.1,I w.2.2.2.1,I w.2.2.2.2.1,I w.2.2.2.2.2.1,I w.2.2.2.2.2.2.1,I w.2.2.2.2.2.2.2.1,I w.2.2.2.2.2.2.2.2],.box 39 [B false,U 0,U 0],.box 39 [B s2.1.Six,U (bitsV .or .u64 s2.1.Hi y18),U (bitsV .or .u64 s2.1.Lo y14)]] E E (Kfy E) (Kgd (Kgu hΓ E E E E E E E E E))<|Kfs<|gA 6 E<|oSi h19▸⟨_,E,⟨⟨E,E,E,E,tV⟩,[],E,.inl E⟩⟩
  cases h20
  obtain rfl:=hout9 _ rfl
  exact⟨⟨E,E,E,tV⟩,[],E,.inl E⟩
 exact gA 3 E<|eo_o E (Kiu hΓ (l:=List.replicate 9 ()) (z:=()) E E E E E E E)<|gO 3 E<|Kmu hΓ E E E E E E E E Z<|Kdz [.box 198 [I w.1,I w.2.1,I w.2.2.1,I w.2.2.2.1,I w.2.2.2.2.1,I w.2.2.2.2.2.1,I w.2.2.2.2.2.2.1,I w.2.2.2.2.2.2.2.1,I w.2.2.2.2.2.2.2.2],.box 39 [B false,U 0,U 0],.box 39 [B (decide ((w.2.2.2.2.2.2.2.2:Int)>0)),U q4.Hi,U q4.Lo]] E<|gO 5 E<|Kmu hΓ E E E E E E E E Z<|Kdz [.box 198 [I w.1,I w.2.1,I w.2.2.1,I w.2.2.2.1,I w.2.2.2.2.1,I w.2.2.2.2.2.1,I w.2.2.2.2.2.2.1,I w.2.2.2.2.2.2.2.1,I w.2.2.2.2.2.2.2.2],.box 39 [B (decide ((w.2.2.2.2.2.2.2.2:Int)>0)),U q4.Hi,U q4.Lo],.box 39 [B (decide ((w.2.2.2.2.2.2.2.2:Int)>0)),U q4.Hi,U q4.Lo]] E<|gO 3 E<|oSi h5▸gP E E
theorem Lex{k:Nat}{a:Kzo}{bits:Int}{r:Kzp}(h:Lae k a bits=some r):Pure Tryz.prog 229 [.agg [B a.Six,U a.Hi,U a.Lo],I bits] (.agg [B r.Addr.Six,U r.Addr.Hi,U r.Addr.Lo,I r.Bits]):=by
 unfold Lae at h
 exact QP Tryz.func229 E E E<|gA 2 E<|Kmq E E E E Z<|Kmp hΓ E E E Z<|bK h fun y1 hy1 h2=>gO 6 E<|Kdq C (Lev hy1) E Z E E E E E<|bK h2 fun y3 hy3 h4=>Kdq C (Lew hy3) E Z E E E E E<|gO 1 E<|Kav hΓ (gs:=[B y3.Six,U y3.Hi,U y3.Lo,I bits]) E E E E E E E<|Kmu hΓ E E E E E E E E Z<|Kdz [.box 39 [B a.Six,U a.Hi,U a.Lo],.box 41 [B y3.Six,U y3.Hi,U y3.Lo,I bits]] E<|gO 3 E<|oSi h4▸gP E E
theorem Ley{k:Nat}{s:Kzn}{r:Kzp×Kzn}(h:Laf k s=some r):EC Tryz.prog 146 [.ptr 0 0] [.box 25 (fQ s)] fun g hp'=>g=.agg [B r.1.Addr.Six,U r.1.Addr.Hi,U r.1.Addr.Lo,I r.1.Bits]∧hp'=[.box 25 (fQ r.2)]:=by
 unfold Laf at h
 refine QN Tryz.func146 E Z<|gA 2 E<|Kmp hΓ E E E Z<|bK h fun y1 hy1 h2=>gO 5 E<|Kdp [0] (.agg [B y1.1.Six,U y1.1.Hi,U y1.1.Lo]) [.box 25 (fQ y1.2),.box 41 [B false,U 0,U 0,I 0]] C (Les hy1) E Z E E E E E E E E E E<|Kmp hΓ E E E Z<|Kmu hΓ E E E E E E E E Z<|Kdz [.box 25 (fQ y1.2),.box 41 [B false,U 0,U 0,I 0],.box 39 [B y1.1.Six,U y1.1.Hi,U y1.1.Lo]] E<|gO 5 E<|Kdk hΓ (enc:=(eN .i64)) [0,8,24,27,28,29,30,31,32] E E E E E E E E E E E E Z<|bK h2 fun y3 hy3 h4=>Kdp [0] (I y3.1) [.box 25 (fQ y3.2),.box 41 [B false,U 0,U 0,I 0],.box 39 [B y1.1.Six,U y1.1.Hi,U y1.1.Lo]] C (Leq hy3) E Z E E E E E E E E E E<|bK h4 fun q5 hq5 h6=>gO 10 E<|Kgq [(2,.ptr 1 0),(3,.ptr 2 0),(4,I q5.2)] [.box 25 (fQ q5.1),.box 41 [B false,U 0,U 0,I 0],.box 39 [B y1.1.Six,U y1.1.Hi,U y1.1.Lo]] ?_ ?_
 ·refine jC E hq5 (fun h7=>?_) fun h10=>gA 1 E<|oSi h10▸⟨⟨E,E,E,tV⟩,[],E,.inl E⟩
  exact gA 2 E<|Kdk hΓ (enc:=(eN .i64)) [0,8,32,48,63,64,65,96,127,128] E E E E E E E E E E E E Z<|bK h7 fun y8 hy8 h9=>Kdp [0] (I y8.1) [.box 25 (fQ y8.2),.box 41 [B false,U 0,U 0,I 0],.box 39 [B y1.1.Six,U y1.1.Hi,U y1.1.Lo]] C (Leq hy8) E Z E E E E E E E E E E<|gO 2 E<|oSi h9▸⟨⟨E,E,E,tV⟩,[],E,.inl E⟩
 exact bK h6 fun y11 hy11 h12=>gA 5 E<|Kdq C (Lex hy11) E Z E E E E E<|Kmu hΓ E E E E E E E E Z<|Kdz [.box 25 (fQ q5.1),.box 41 [B y11.Addr.Six,U y11.Addr.Hi,U y11.Addr.Lo,I y11.Bits],.box 39 [B y1.1.Six,U y1.1.Hi,U y1.1.Lo]] E<|gO 3 E<|oSi h12▸Keg hΓ [_,_] (.inr E) E E E E (.inr ⟨HB.mk E,E⟩)
theorem Lez{s:Kzn}{r:Kzo×Kzn}(h:Lag s=some r):EC Tryz.prog 147 [.ptr 0 0] [.box 25 (fQ s)] fun g hp'=>g=.agg [B r.1.Six,U r.1.Hi,U r.1.Lo]∧hp'=[.box 25 (fQ r.2)]:=by
 unfold Lag at h
 refine QN Tryz.func147 E Z<|gA 2 E<|Kmp hΓ E E E Z<|bK h fun y1 hy1 h2=>gO 5 E<|Kdp [0] (.agg [B y1.1.Six,U y1.1.Hi,U y1.1.Lo]) [.box 25 (fQ y1.2),.box 39 [B false,U 0,U 0]] C (Les hy1) E Z E E E E E E E E E E<|Kmp hΓ E E E Z<|Kmu hΓ E E E E E E E E Z<|Kdz [.box 25 (fQ y1.2),.box 39 [B false,U 0,U 0],.box 39 [B y1.1.Six,U y1.1.Hi,U y1.1.Lo]] E<|bK h2 fun y3 hy3 h4=>gO 6 E<|Kdp [0] (B y3.1) [.box 25 (fQ y3.2),.box 39 [B false,U 0,U 0],.box 39 [B y1.1.Six,U y1.1.Hi,U y1.1.Lo]] C (Lep hy3) E Z E E E E E E E E E E<|gO 2 E<|jC E h4 (fun h5=>?_) fun h12=>gA 5 E<|Kmu hΓ E E E E E E E E Z<|Kdz [.box 25 (fQ y3.2),.box 39 [B y1.1.Six,U y1.1.Hi,U y1.1.Lo],.box 39 [B y1.1.Six,U y1.1.Hi,U y1.1.Lo]] E<|gO 3 E<|oSi h12▸Keg hΓ [_,_] (.inr E) E E E E (.inr ⟨HB.mk E,E⟩)
 exact bK h5 fun y6 hy6 h7=>gA 3 E<|Kdp [0] (I y6.1) [.box 25 (fQ y6.2),.box 39 [B false,U 0,U 0],.box 39 [B y1.1.Six,U y1.1.Hi,U y1.1.Lo]] C (Leo hy6) E Z E E E E E E E E E E<|gO 1 E<|Kdk hΓ (enc:=(eN .u64)) [4294967296,5,1099511627776] E E E E E E E E E E E E Z<|bK h7 fun y8 hy8 h9=>gO 1 E<|Kdp [0] (I y8.1) [.box 25 (fQ y8.2),.box 39 [B false,U 0,U 0],.box 39 [B y1.1.Six,U y1.1.Hi,U y1.1.Lo]] C (Leo hy8) E Z E E E E E E E E E E<|bK h9 fun x10 hx10 h11=>eo_o E (Kdd hΓ (enc:=(eN .u64)) hx10 E E E E E (fun _=>E))<|gO 1 E<|Kav hΓ (gs:=[B false,U (IntKind.u64.wrap (y6.1)),U x10]) E E E E E E E<|Kmu hΓ E E E E E E E E Z<|Kdz [.box 25 (fQ y8.2),.box 39 [B false,U (IntKind.u64.wrap (y6.1)),U x10],.box 39 [B y1.1.Six,U y1.1.Hi,U y1.1.Lo]] E<|gO 4 E<|oSi h11▸Keg hΓ [_,_] (.inr E) E E E E (.inr ⟨HB.mk E,E⟩)
theorem Lfa{s:Kzn}{low:Int}{high:Int}{r:Int×Kzn}(h:Lah s low high=some r):EC Tryz.prog 52 [.ptr 0 0,I low,I high] [.box 25 (fQ s)] fun g hp'=>g=I r.1∧hp'=[.box 25 (fQ r.2)]:=by
 unfold Lah at h
 refine QN Tryz.func52 E Z<|bK h fun y1 hy1 h2=>gA 9 E<|Kdp [0] (B y1.1) [.box 25 (fQ y1.2)] C (Lep hy1) E Z E E E E E E E E E E<|gO 2 E<|jC E h2 (fun h3=>?_) fun h6=>bK h6 fun y7 hy7 h8=>gA 7 E<|Kdp [0] (I y7.1) [.box 25 (fQ y7.2)] C (Ler hy7) E Z E E E E E E E E E E<|gO 4 E<|oSi h8▸Keg hΓ [] (.inr E) E E E E (.inl E)
 exact gA 9 E<|Kdk hΓ (enc:=(eN .i64)) [wi (low - 1),wi (high+1),low,high,-1099511627776,1099511627776] E E E E E E E E E E E E Z<|bK h3 fun y4 hy4 h5=>Kdp [0] (I y4.1) [.box 25 (fQ y4.2)] C (Leq hy4) E Z E E E E E E E E E E<|gO 5 E<|oSi h5▸Keg hΓ [] (.inr E) E E E E (.inl E)
theorem Lfb{k:Nat}{s:Kzn}{r:Kzp×Kzn}(h:Lai k s=some r):EC Tryz.prog 51 [.ptr 0 0] [.box 25 (fQ s)] fun g hp'=>g=.agg [B r.1.Addr.Six,U r.1.Addr.Hi,U r.1.Addr.Lo,I r.1.Bits]∧hp'=[.box 25 (fQ r.2)]:=by
 unfold Lai at h
 refine QN Tryz.func51 E Z<|gA 2 E<|Kmp hΓ E E E Z<|bK h fun y1 hy1 h2=>gO 5 E<|Kdp [0] (.agg [B y1.1.Addr.Six,U y1.1.Addr.Hi,U y1.1.Addr.Lo,I y1.1.Bits]) [.box 25 (fQ y1.2),.box 41 [B false,U 0,U 0,I 0]] C (Ley hy1) E Z E E E E E E E E E E<|Kmp hΓ E E E Z<|Kmu hΓ E E E E E E E E Z<|Kdz [.box 25 (fQ y1.2),.box 41 [B false,U 0,U 0,I 0],.box 41 [B y1.1.Addr.Six,U y1.1.Addr.Hi,U y1.1.Addr.Lo,I y1.1.Bits]] E<|bK h2 fun y3 hy3 h4=>gO 6 E<|Kdp [0] (B y3.1) [.box 25 (fQ y3.2),.box 41 [B false,U 0,U 0,I 0],.box 41 [B y1.1.Addr.Six,U y1.1.Addr.Hi,U y1.1.Addr.Lo,I y1.1.Bits]] C (Lep hy3) E Z E E E E E E E E E E<|bK h4 fun q5 hq5 h6=>gO 2 E<|Kgq [(2,.ptr 1 0),(3,.ptr 2 0)] [.box 25 (fQ q5.1),.box 41 [B false,U 0,U 0,I 0],.box 41 [B q5.2.Addr.Six,U q5.2.Addr.Hi,U q5.2.Addr.Lo,I q5.2.Bits]] ?_ ?_
 ·refine jC E hq5 (fun h7=>?_) fun h12=>gA 1 E<|oSi h12▸⟨⟨E,E,tV⟩,[],E,.inl E⟩
  exact bK h7 fun y8 hy8 h9=>gA 2 E<|Kdp [0] (.agg [B y8.1.Six,U y8.1.Hi,U y8.1.Lo]) [.box 25 (fQ y8.2),.box 41 [B false,U 0,U 0,I 0],.box 41 [B y1.1.Addr.Six,U y1.1.Addr.Hi,U y1.1.Addr.Lo,I y1.1.Bits]] C (Lez hy8) E Z E E E E E E E E E E<|bK h9 fun y10 hy10 h11=>gO 1 E<|Kdp [0] (I y10.1) [.box 25 (fQ y10.2),.box 41 [B false,U 0,U 0,I 0],.box 41 [B y1.1.Addr.Six,U y1.1.Addr.Hi,U y1.1.Addr.Lo,I y1.1.Bits]] C (Lfa hy10) E Z E E E E E E E E E E<|Kav hΓ (gs:=[B y8.1.Six,U y8.1.Hi,U y8.1.Lo,I y10.1]) E E E E E E E<|Kmu hΓ E E E E E E E E Z<|Kdz [.box 25 (fQ y10.2),.box 41 [B false,U 0,U 0,I 0],.box 41 [B y8.1.Six,U y8.1.Hi,U y8.1.Lo,I y10.1]] E<|gO 1 E<|oSi h11▸⟨⟨E,E,tV⟩,[],E,.inl E⟩
 exact gA 4 E<|Kmu hΓ E E E E E E E E Z<|Kdz [.box 25 (fQ q5.1),.box 41 [B q5.2.Addr.Six,U q5.2.Addr.Hi,U q5.2.Addr.Lo,I q5.2.Bits],.box 41 [B q5.2.Addr.Six,U q5.2.Addr.Hi,U q5.2.Addr.Lo,I q5.2.Bits]] E<|gO 3 E<|oSi h6▸Keg hΓ [_,_] (.inr E) E E E E (.inr ⟨HB.mk E,E⟩)
theorem Lfc{s:Kzn}{l:List Str}{r:Str×Kzn}(h:Laj s l=some r):EC Tryz.prog 40 [.ptr 0 0,.d (Sl eS l)] [.box 25 (fQ s)] fun g hp'=>g=S r.1∧hp'=[.box 25 (fQ r.2)]:=by
 unfold Laj at h
 exact QN Tryz.func40 E Z<|bK h fun y1 hy1 h2=>gA 11 E<|Kdp [0] (I y1.1) [.box 25 (fQ y1.2)] C (Leo hy1) E Z E E E E E E E E E E<|bK h2 fun x3 hx3 h4=>eo_o E (Kdd hΓ (enc:=eS) hx3 E E E E E (fun _=>E))<|gO 5 E<|oSi h4▸Keg hΓ [] (.inr E) E E E E (.inl E)
theorem Lfd{k:Nat}{s:Kzn}{r:(List Kzq)×Kzn}(h:Lak k s=some r):EC Tryz.prog 7 [.ptr 0 0] [.box 25 (fQ s)] fun g hp'=>g=.sl 1 r.1.length∧hp'=[.box 25 (fQ r.2),rO 43 6 Lej r.1]:=by
 unfold Lak at h
 refine QM Tryz.func7 E Z<|gA 7 E<|Kdn (t:=0) 43 6 E Z<|gO 5 E<|Kav hΓ (gs:=[B false,U 0,U 0,I 0]) E E E E E E E<|Kav hΓ (gs:=[B false,U 0,U 167772160]) E E E E E E E<|Kav hΓ (gs:=[B false,U 0,U 167772160,I 8]) E E E E E E E<|Kav hΓ (gs:=[B false,U 0,U 167772160]) E E E E E E E<|Kav hΓ (gs:=[B false,U 0,U 167772160,I 16]) E E E E E E E<|Kav hΓ (gs:=[B true,U 0,U 0]) E E E E E E E<|Kav hΓ (gs:=[B true,U 0,U 0,I 0]) E E E E E E E<|Kdk hΓ (enc:=Lei) [(⟨(⟨false,0,0⟩:Kzo),0⟩:Kzp),(⟨(⟨false,0,167772160⟩:Kzo),8⟩:Kzp),(⟨(⟨false,0,167772160⟩:Kzo),16⟩:Kzp),(⟨(⟨true,0,0⟩:Kzo),0⟩:Kzp)] E E E E E E E E E E E E Z<|gO 4 E<|bK h fun q4 hq4 h5=>Kdc 15 E fun hb7=>Kgq [(0,.ptr 0 0),(3,.sl 1 q4.2.length)] [.box 25 (fQ q4.1),rO 43 6 Lej q4.2] ?_ ?_
 ·refine gA 1 E<|Kei [(⟨(⟨false,0,0⟩:Kzo),0⟩:Kzp),(⟨(⟨false,0,167772160⟩:Kzo),8⟩:Kzp),(⟨(⟨false,0,167772160⟩:Kzo),16⟩:Kzp),(⟨(⟨true,0,0⟩:Kzo),0⟩:Kzp)] hq4 (fun i1 s2=>[(0,.ptr 0 0),(3,.sl 1 s2.2.length),(15,.d (Sl Lei [(⟨(⟨false,0,0⟩:Kzo),0⟩:Kzp),(⟨(⟨false,0,167772160⟩:Kzo),8⟩:Kzp),(⟨(⟨false,0,167772160⟩:Kzo),16⟩:Kzp),(⟨(⟨true,0,0⟩:Kzo),0⟩:Kzp)])),(16,I ([(⟨(⟨false,0,0⟩:Kzo),0⟩:Kzp),(⟨(⟨false,0,167772160⟩:Kzo),8⟩:Kzp),(⟨(⟨false,0,167772160⟩:Kzo),16⟩:Kzp),(⟨(⟨true,0,0⟩:Kzo),0⟩:Kzp)].length:Int)),(17,I (i1:Int))]) (fun s2=>[.box 25 (fQ s2.1),rO 43 6 Lej s2.2]) ⟨⟨E,E,E,E,E,tV⟩,[],E,.inl E⟩ (fun i1 x3 s2 y11 hx8 hlt hy9=>?_) (?_)
  ·refine gA 6 E<|Kcn E (dT (Int.ofNat_lt.2 hlt))<|gA 6 E<|eo_o E (Kdd hΓ (enc:=Lei) (Kcw hx8) E E E E E (fun _=>E))<|gO 1 E<|Kmp hΓ E E E Z<|Kmu hΓ E E E E E E E E Z<|Kdz [.box 25 (fQ s2.1),rO 43 6 Lej s2.2,.box 41 [B x3.Addr.Six,U x3.Addr.Hi,U x3.Addr.Lo,I x3.Bits]] E<|gO 4 E<|Kdk hΓ (enc:=eS) [[110,97],[110,98],[110,99],[110,100]] E E E E E E E E E E E E Z<|gO 4 E<|bK hy9 fun q15 hq15 h16=>Kdc 21 E fun hb18=>Kgq [(0,.ptr 0 0),(3,.sl 1 q15.2.length),(15,.d (Sl Lei [(⟨(⟨false,0,0⟩:Kzo),0⟩:Kzp),(⟨(⟨false,0,167772160⟩:Kzo),8⟩:Kzp),(⟨(⟨false,0,167772160⟩:Kzo),16⟩:Kzp),(⟨(⟨true,0,0⟩:Kzo),0⟩:Kzp)])),(16,I ([(⟨(⟨false,0,0⟩:Kzo),0⟩:Kzp),(⟨(⟨false,0,167772160⟩:Kzo),8⟩:Kzp),(⟨(⟨false,0,167772160⟩:Kzo),16⟩:Kzp),(⟨(⟨true,0,0⟩:Kzo),0⟩:Kzp)].length:Int)),(17,I (i1:Int))] [.box 25 (fQ q15.1),rO 43 6 Lej q15.2,.box 41 [B x3.Addr.Six,U x3.Addr.Hi,U x3.Addr.Lo,I x3.Bits]] ?_ ?_
   ·refine gA 1 E<|Kei [[110,97],[110,98],[110,99],[110,100]] hq15 (fun i12 s13=>[(0,.ptr 0 0),(3,.sl 1 s13.2.length),(5,.ptr 2 0),(15,.d (Sl Lei [(⟨(⟨false,0,0⟩:Kzo),0⟩:Kzp),(⟨(⟨false,0,167772160⟩:Kzo),8⟩:Kzp),(⟨(⟨false,0,167772160⟩:Kzo),16⟩:Kzp),(⟨(⟨true,0,0⟩:Kzo),0⟩:Kzp)])),(16,I ([(⟨(⟨false,0,0⟩:Kzo),0⟩:Kzp),(⟨(⟨false,0,167772160⟩:Kzo),8⟩:Kzp),(⟨(⟨false,0,167772160⟩:Kzo),16⟩:Kzp),(⟨(⟨true,0,0⟩:Kzo),0⟩:Kzp)].length:Int)),(17,I (i1:Int)),(21,.d (Sl eS [[110,97],[110,98],[110,99],[110,100]])),(22,I ([[110,97],[110,98],[110,99],[110,100]].length:Int)),(23,I (i12:Int))]) (fun s13=>[.box 25 (fQ s13.1),rO 43 6 Lej s13.2,.box 41 [B x3.Addr.Six,U x3.Addr.Hi,U x3.Addr.Lo,I x3.Bits]]) ⟨⟨E,E,E,E,E,E,E,E,E,tV⟩,[],E,.inl E⟩ (fun i12 x14 s13 y22 hx19 hlt hy20=>?_) (?_)
    ·refine gA 6 E<|Kcn E (dT (Int.ofNat_lt.2 hlt))<|gA 6 E<|eo_o E (Kdd hΓ (enc:=eS) (Kcw hx19) E E E E E (fun _=>E))<|bK hy20 fun y23 hy23 h24=>gO 7 E<|Kdp [0] (B y23.1) [.box 25 (fQ y23.2),rO 43 6 Lej s13.2,.box 41 [B x3.Addr.Six,U x3.Addr.Hi,U x3.Addr.Lo,I x3.Bits]] C (Lep hy23) E Z E E E E E E E E E E<|gO 2 E<|jC E h24 (fun h25=>?_) fun h30=>gA 7 E ?_
     ·refine Kfr [.dead,.dead,.box 41 [B x3.Addr.Six,U x3.Addr.Hi,U x3.Addr.Lo,I x3.Bits]] [1] [5,8] [] hmix (by kernel_rfl) (by kernel_rfl) ⟨E,tV⟩ Z<|go_E hΓ 4 E<|Kgg hΓ (enc:=(eN .i64)) [0,5,5,9] E E E E E E E E E E E E<|bK h25 fun y26 hy26 h27=>ge_h [.box 25 (fQ y26.2),rO 43 6 Lej s13.2,.box 41 [B x3.Addr.Six,U x3.Addr.Hi,U x3.Addr.Lo,I x3.Bits]] E E E (Kfz ⟨E,tV⟩) (Kge [0] (I y26.1) [.box 25 (fQ y26.2),rO 43 6 Lej s13.2,.box 41 [B x3.Addr.Six,U x3.Addr.Hi,U x3.Addr.Lo,I x3.Bits]] C (Leq hy26) E E E E E E E E E E)<|ge_q E (.inl E) (fun _ _=>Kft (qt_p (Kgh hΓ (gs:=[B x3.Addr.Six,U x3.Addr.Hi,U x3.Addr.Lo,I x3.Bits,S x14,I y26.1]) E E E E E E)))<|Kgg hΓ (enc:=Lej) [(⟨x3,x14,y26.1⟩:Kzq)] E E E E E E E E E E E E<|bK h27 fun y28 hy28 h29=>ge_h [.box 25 (fQ y26.2),.dead,.box 41 [B x3.Addr.Six,U x3.Addr.Hi,U x3.Addr.Lo,I x3.Bits],rO 43 6 Lej y28] E E E (Kfz ⟨E,tV⟩) (Kgc (Kfh hΓ (enc:=Lej) (id:=1) (h2:=show Γ 43=some ⟨_,6,_,_⟩ from E) hy28 E E E E E E E E (fun _=>E) E))<|go_E hΓ 1 E<|Kfs<|gA 2 E<|Kfl 3 1 [.box 25 (fQ y26.2),rO 43 6 Lej y28,.box 41 [B x3.Addr.Six,U x3.Addr.Hi,U x3.Addr.Lo,I x3.Bits],.dead] E E E E E E<|gA 4 E ?_
      cases h29
      exact⟨⟨E,E,E,E,E,E,E,E,Kbw E (Kbv (nLl hlt hb18)),tV⟩,[_],E,.inr ⟨HB.mk E,FB.mk E,Z⟩⟩
     cases h30
     exact⟨⟨E,E,E,E,E,E,E,E,Kbw E (Kbv (nLl hlt hb18)),tV⟩,[],E,.inl E⟩
    exact gA 6 E<|Kco E (dF (Int.lt_irrefl _))<|gA 4 E<|⟨⟨E,E,E,E,E,tV⟩,[],E,.inl E⟩
   refine gA 6 E ?_
   cases h16
   exact⟨⟨E,E,E,E,Kbw E (Kbv (nLl hlt hb7)),tV⟩,[_],E,.inr ⟨HB.mk E,FB.mk E,Z⟩⟩
  exact gA 6 E<|Kco E (dF (Int.lt_irrefl _))<|gA 4 E<|⟨⟨E,E,tV⟩,[],E,.inl E⟩
 refine bK h5 fun y31 hy31 h32=>gA 5 E<|Kdp [0] (B y31.1) [.box 25 (fQ y31.2),rO 43 6 Lej q4.2] C (Lep hy31) E Z E E E E E E E E E E<|bK h32 fun q33 hq33 h34=>gO 2 E<|Kgq [(3,.sl 1 q33.2.length)] [.box 25 (fQ q33.1),rO 43 6 Lej q33.2] ?_ ?_
 ·refine jC E hq33 (fun h35=>?_) fun h44=>gA 1 E<|oSi h44▸⟨⟨E,tV⟩,[],E,.inl E⟩
  exact bK h35 fun y36 hy36 h37=>gA 3 E<|Kdp [0] (.agg [B y36.1.Addr.Six,U y36.1.Addr.Hi,U y36.1.Addr.Lo,I y36.1.Bits]) [.box 25 (fQ y36.2),rO 43 6 Lej q4.2] C (Lfb hy36) E Z E E E E E E E E E E<|gO 1 E<|Kdk hΓ (enc:=eS) [[],[110,97]] E E E E E E E E E E E E Z<|bK h37 fun y38 hy38 h39=>Kdp [0] (S y38.1) [.box 25 (fQ y38.2),rO 43 6 Lej q4.2] C (Lfc hy38) E Z E E E E E E E E E E<|bK h39 fun y40 hy40 h41=>gO 1 E<|Kdp [0] (I y40.1) [.box 25 (fQ y40.2),rO 43 6 Lej q4.2] C (Lfa hy40) E Z E E E E E E E E E E<|Kav hΓ (gs:=[B y36.1.Addr.Six,U y36.1.Addr.Hi,U y36.1.Addr.Lo,I y36.1.Bits,S y38.1,I y40.1]) E E E E E E E<|Kdk hΓ (enc:=Lej) [(⟨y36.1,y38.1,y40.1⟩:Kzq)] E E E E E E E E E E E E Z<|bK h41 fun y42 hy42 h43=>Kea hΓ (enc:=Lej) hy42 E E E E E E E E E (fun _=>E) E E E E<|gO 2 E<|oSi h43▸⟨⟨E,tV⟩,[],E,.inl E⟩
 exact gA 8 E<|Kgm<|oSi h34▸Keg hΓ [] (.inr E) E E E E (.inl E)
theorem Lfe{a:Kzo}{r:Int}(h:Lal a=some r):Pure Tryz.prog 177 [.agg [B a.Six,U a.Hi,U a.Lo]] (I r):=by
 unfold Lal at h
 refine QP Tryz.func177 E E E<|gA 2 E<|Kmq E E E E Z<|gO 10 E<|Kcs 9 [(15,B ((!a.Six)&&(((a.Hi:Int) != 0)||(decide ((a.Lo:Int)≥4294967296)))))] [.box 39 [B a.Six,U a.Hi,U a.Lo]] ?_ ?_
 ·refine Klj E E (fun hb=>?_) (fun hb=>?_)
  ·refine gO 4 E<|Kcs 4 [(6,B true),(14,B (((a.Hi:Int) != 0)||(decide ((a.Lo:Int)≥4294967296))))] [.box 39 [B a.Six,U a.Hi,U a.Lo]] ?_ ?_
   ·refine Klj E E (fun hb=>?_) (fun hb=>?_)
    ·exact gO 5 E<|⟨⟨E,Kbx E (or_t hb),tV⟩,[],E,.inl E⟩
    exact gO 5 E<|⟨⟨E,Kbx E (or_f hb),tV⟩,[],E,.inl E⟩
   exact gO 2 E<|⟨⟨Kbx E (Kek hb),tV⟩,[],E,.inl E⟩
  exact gO 10 E<|⟨⟨Kbx E (Kel hb),tV⟩,[],E,.inl E⟩
 refine gO 2 E<|jC E h (fun h1=>?_) fun h2=>gA 8 E<|oSi h2▸gP E E
 exact gA 7 E<|oSi h1▸gP E E
theorem Lff{a:Kzo}{r:Int}(h:Lam a=some r):Pure Tryz.prog 230 [.agg [B a.Six,U a.Hi,U a.Lo]] (I r):=by
 unfold Lam at h
 refine QP Tryz.func230 E E E<|gA 2 E<|Kmq E E E E Z<|gO 10 E<|jC E h (fun h1=>?_) fun h2=>gA 8 E<|oSi h2▸gP E E
 exact gA 7 E<|oSi h1▸gP E E
theorem Lfg{n:Int}{low:Int}{high:Int}{r:Bool}(h:Lan n low high=some r):Pure Tryz.prog 123 [I n,I low,I high] (B r):=by
 unfold Lan at h
 refine QP Tryz.func123 E E E<|gA 11 E<|Kcs 4 [(6,B false),(14,B ((decide ((n:Int)<low))||(decide ((n:Int)>high))))] [] ?_ ?_
 ·refine Klj E E (fun hb=>?_) (fun hb=>?_)
  ·exact gO 5 E<|⟨⟨E,Kbx E (or_t hb),tV⟩,[],E,.inl E⟩
  exact gO 5 E<|⟨⟨E,Kbx E (or_f hb),tV⟩,[],E,.inl E⟩
 exact gO 4 E<|oSi h▸gP E E
theorem Lfh{n:Int}{r:Int×Int}(h:Lao n=some r):Pure Tryz.prog 296 [I n] (.tup [U r.1,U r.2]):=by
 unfold Lao at h
 refine QP Tryz.func296 E E E<|gA 15 E<|jC E h (fun h1=>?_) fun h2=>gA 7 E<|jC E h2 (fun h3=>?_) fun h6=>?_
 ·exact gA 9 E<|oSi h1▸gP E E
 ·exact bK h3 fun y4 hy4 h5=>gA 4 E<|eo_o E (Keo hy4 E E)<|gO 8 E<|oSi h5▸gP E E
 refine gA 7 E<|jC E h6 (fun h7=>?_) fun h8=>gA 4 E<|jD<|bK h8 fun y9 hy9 h10=>gA 1 E<|gl_o E (Keo hy9 E E)<|Kck hΓ 6 E<|oSi h10▸gP E E
 exact gA 9 E<|oSi h7▸gP E E
theorem Lfi{a:Kzo}{n:Int}{r:Kzo}(h:Lap a n=some r):Pure Tryz.prog 231 [.agg [B a.Six,U a.Hi,U a.Lo],I n] (.agg [B r.Six,U r.Hi,U r.Lo]):=by
 unfold Lap at h
 exact QP Tryz.func231 E E E<|gA 2 E<|Kmq E E E E Z<|Kmp hΓ E E E Z<|bK h fun y1 hy1 h2=>gO 5 E<|Kdq C (Lff hy1) E Z E E E E E<|bK h2 fun y3 hy3 h4=>gO 2 E<|Kdq C (Lfh hy3) E Z E E E E E<|gO 14 E<|Kmu hΓ E E E E E E E E Z<|Kdz [.box 39 [B a.Six,U (bitsV .andNot .u64 a.Hi y3.1),U a.Lo],.box 39 [B false,U 0,U 0]] E<|gO 9 E<|Kmu hΓ E E E E E E E E Z<|Kdz [.box 39 [B a.Six,U (bitsV .andNot .u64 a.Hi y3.1),U (bitsV .andNot .u64 a.Lo y3.2)],.box 39 [B false,U 0,U 0]] E<|gO 5 E<|Kmu hΓ E E E E E E E E Z<|Kdz [.box 39 [B a.Six,U (bitsV .andNot .u64 a.Hi y3.1),U (bitsV .andNot .u64 a.Lo y3.2)],.box 39 [B a.Six,U (bitsV .andNot .u64 a.Hi y3.1),U (bitsV .andNot .u64 a.Lo y3.2)]] E<|gO 3 E<|oSi h4▸gP E E
theorem Lfj{p:Kzp}{r:Int}(h:Laq p=some r):Pure Tryz.prog 148 [.agg [B p.Addr.Six,U p.Addr.Hi,U p.Addr.Lo,I p.Bits]] (I r):=by
 unfold Laq at h
 refine QP Tryz.func148 E E E<|gA 2 E<|Kmq E E E E Z<|bK h fun y1 hy1 h2=>gO 9 E<|Kdq C (Lfe hy1) E Z E E E E E<|gO 4 E<|jC E h2 (fun h3=>?_) fun h4=>gA 1 E<|jD<|bK h4 fun y5 hy5 h6=>gA 4 E<|Kdr C (Lff hy5) E E E E E E<|bK h6 fun y7 hy7 h8=>Kdr C (Lfg hy7) E E E E E E<|Kck hΓ 3 E<|jC E h8 (fun h9=>?_) fun h10=>?_
 ·exact gA 8 E<|oSi h3▸gP E E
 ·exact gA 8 E<|oSi h9▸gP E E
 refine gA 1 E<|jD<|bK h10 fun y11 hy11 h12=>gA 4 E<|Kdr C (Lfi hy11) E E E E E E<|Kck hΓ 2 E<|gl_o E (Ken hΓ [39] (b:=(((y11.Six:Bool)==p.Addr.Six)&&(((y11.Hi:Int)==p.Addr.Hi)&&(((y11.Lo:Int)==p.Addr.Lo)&&true)))) (by kernel_rfl) (by kernel_rfl) E E E)<|Kck hΓ 3 E<|jC E h12 (fun h13=>?_) fun h14=>gA 9 E<|oSi h14▸gP E E
 exact gA 8 E<|oSi h13▸gP E E
theorem Lfk{k:Nat}{s:Str}{r:Bool}(h:Lar k s=some r):Pure Tryz.prog 149 [S s] (B r):=by
 unfold Lar at h
 refine QP Tryz.func149 E E E<|gA 11 E<|bK h fun q4 hq4 h5=>Kgp (R:=fun a6=>q4=.inl a6) (fun a6=>[(0,S s)]) (fun a6=>[]) ?_ ?_
 ·refine gA 1 E<|Kcz hq4 (fun s2=>[(0,S s),(3,I s2)]) (fun s2=>[]) ⟨⟨E,E,tV⟩,[],E,.inl E⟩ (fun s2 y10 hy8 hout9=>?_)
  refine gA 9 E<|Kcm E (fun hb=>?_) (fun hb=>?_)
  ·have h11:=cT hy8 hb
   refine bK h11 fun c12 hc12 h13=>gA 8 E<|eo_o E (Kde hΓ hc12 E E E E)<|gO 8 E<|Kcs 3 [(0,S s),(3,I s2),(4,.d (.v (.int .u8 (c12.toNat:Int)))),(19,B ((decide (((c12.toNat:Int):Int)≥97))&&(decide (((c12.toNat:Int):Int)≤122))))] [] ?_ ?_
   ·refine Klj E E (fun hb=>?_) (fun hb=>?_)
    ·exact gO 4 E<|⟨⟨E,E,E,Kbx E (Kek hb),tV⟩,[],E,.inl E⟩
    exact gO 4 E<|⟨⟨E,E,E,Kbx E (Kel hb),tV⟩,[],E,.inl E⟩
   refine gO 1 E<|Kcs 19 [(0,S s),(3,I s2),(39,B (((decide (((c12.toNat:Int):Int)≥97))&&(decide (((c12.toNat:Int):Int)≤122)))||((decide ((s2:Int)>0))&&((((decide (((c12.toNat:Int):Int)≥48))&&(decide (((c12.toNat:Int):Int)≤57)))||(((c12.toNat:Int):Int)==45))||(((c12.toNat:Int):Int)==95)))))] [] ?_ ?_
   ·refine Klj E E (fun hb=>?_) (fun hb=>?_)
    ·exact gO 20 E<|⟨⟨E,E,Kbx E (or_t hb),tV⟩,[],E,.inl E⟩
    refine gO 3 E<|Kcs 15 [(0,S s),(3,I s2),(20,B false),(38,B ((decide ((s2:Int)>0))&&((((decide (((c12.toNat:Int):Int)≥48))&&(decide (((c12.toNat:Int):Int)≤57)))||(((c12.toNat:Int):Int)==45))||(((c12.toNat:Int):Int)==95))))] [] ?_ ?_
    ·refine Klj E E (fun hb=>?_) (fun hb=>?_)
     ·refine gO 3 E<|Kcs 3 [(0,S s),(3,I s2),(4,.d (.v (.int .u8 (c12.toNat:Int)))),(20,B false),(23,B true),(29,B ((decide (((c12.toNat:Int):Int)≥48))&&(decide (((c12.toNat:Int):Int)≤57))))] [] ?_ ?_
      ·refine Klj E E (fun hb=>?_) (fun hb=>?_)
       ·exact gO 4 E<|⟨⟨E,E,E,E,E,Kbx E (Kek hb),tV⟩,[],E,.inl E⟩
       exact gO 4 E<|⟨⟨E,E,E,E,E,Kbx E (Kel hb),tV⟩,[],E,.inl E⟩
      refine gO 1 E<|Kcs 3 [(0,S s),(3,I s2),(4,.d (.v (.int .u8 (c12.toNat:Int)))),(20,B false),(23,B true),(33,B (((decide (((c12.toNat:Int):Int)≥48))&&(decide (((c12.toNat:Int):Int)≤57)))||(((c12.toNat:Int):Int)==45)))] [] ?_ ?_
      ·refine Klj E E (fun hb=>?_) (fun hb=>?_)
       ·exact gO 4 E<|⟨⟨E,E,E,E,E,Kbx E (or_t hb),tV⟩,[],E,.inl E⟩
       exact gO 4 E<|⟨⟨E,E,E,E,E,Kbx E (or_f hb),tV⟩,[],E,.inl E⟩
      refine gO 1 E<|Kcs 3 [(0,S s),(3,I s2),(20,B false),(23,B true),(37,B ((((decide (((c12.toNat:Int):Int)≥48))&&(decide (((c12.toNat:Int):Int)≤57)))||(((c12.toNat:Int):Int)==45))||(((c12.toNat:Int):Int)==95)))] [] ?_ ?_
      ·refine Klj E E (fun hb=>?_) (fun hb=>?_)
       ·exact gO 4 E<|⟨⟨E,E,E,E,Kbx E (or_t hb),tV⟩,[],E,.inl E⟩
       exact gO 4 E<|⟨⟨E,E,E,E,Kbx E (or_f hb),tV⟩,[],E,.inl E⟩
      exact gO 2 E<|⟨⟨E,E,E,Kbx E (Kek hb),tV⟩,[],E,.inl E⟩
     exact gO 16 E<|⟨⟨E,E,E,Kbx E (Kel hb),tV⟩,[],E,.inl E⟩
    exact gO 2 E<|⟨⟨E,E,Kbx E (or_f hb),tV⟩,[],E,.inl E⟩
   refine gO 3 E<|jC E h13 (fun h14=>?_) fun h17=>gA 8 E<|oSi h17▸⟨_,E,⟨⟨E,E,tV⟩,[],E,.inl E⟩⟩
   refine gA 8 E<|bK h14 fun v15 hv15 h16=>?_
   cases h16
   obtain rfl:=hout9 _ rfl
   cases h5
   exact gA 4 E<|oSi hv15▸gP E E
  have h18:=cF hy8 hb
  refine gA 4 E ?_
  cases h18
  obtain rfl:=hout9 _ rfl
  exact⟨_,E,⟨⟨E,tV⟩,[],E,.inl E⟩⟩
 intro a6 ha
 subst ha
 replace h5:=Kgj h5
 refine gA 6 E<|Kcs 4 [(47,B ((!((s:Str)==[]))&&(decide (((s.length:Int):Int)≤40))))] [] ?_ ?_
 ·refine Klj E E (fun hb=>?_) (fun hb=>?_)
  ·exact gO 5 E<|⟨⟨Kbx E (Kek hb),tV⟩,[],E,.inl E⟩
  exact gO 5 E<|⟨⟨Kbx E (Kel hb),tV⟩,[],E,.inl E⟩
 exact gO 4 E<|oSi h5▸gP E E
theorem Lfl{x:Int}{r:Bool}(h:Las x=some r):Pure Tryz.prog 253 [U x] (B r):=by
 unfold Las at h
 exact QP Tryz.func253 E E E<|gA 14 E<|oSi h▸gP E E
theorem Lfm{x:Int}{y:Int}{r:Int}(h:Lat x y=some r):Pure Tryz.prog 182 [U x,U y] (I r):=by
 unfold Lat at h
 refine QP Tryz.func182 E E E<|bK h fun y1 hy1 h2=>gA 8 E<|Kdq C (Lfl hy1) E Z E E E E E<|bK h2 fun y3 hy3 h4=>gO 6 E<|Kdq C (Lfl hy3) E Z E E E E E<|gO 9 E<|jC E h4 (fun h5=>?_) fun h8=>gA 8 E<|jC E h8 (fun h9=>?_) fun h10=>?_
 ·refine gA 6 E<|jC E h5 (fun h6=>?_) fun h7=>gA 9 E<|oSi h7▸gP E E
  exact gA 8 E<|oSi h6▸gP E E
 ·exact gA 7 E<|oSi h9▸gP E E
 refine gA 10 E<|jC E h10 (fun h11=>?_) fun h12=>gA 10 E<|jC E h12 (fun h13=>?_) fun h14=>?_
 ·exact gA 7 E<|oSi h11▸gP E E
 ·exact gA 7 E<|oSi h13▸gP E E
 exact gA 8 E<|oSi h14▸gP E E
theorem Lfn{vals:List Int}{r:Int}(h:Lau vals=some r):Pure Tryz.prog 62 [.d (Sl (eN .i64) vals)] (I r):=by
 unfold Lau at h
 refine QP Tryz.func62 E E E<|gA 18 E<|bK h fun q4 hq4 h5=>Kdc 6 E fun hb7=>Kgp (R:=fun a6=>q4=.go a6) (fun a6=>[(3,I 0)]) (fun a6=>[]) ?_ ?_
 ·refine gA 1 E<|Kdb vals hq4 (fun i1 s2=>[(3,I 0),(6,.d (Sl (eN .i64) vals)),(7,I (vals.length:Int)),(8,I (i1:Int))]) (fun s2=>[]) ⟨⟨E,E,E,E,tV⟩,[],E,.inl E⟩ (fun i1 x3 s2 y11 hx8 hlt hy9 hout10=>?_) (fun s2 hgo=>?_)
  ·refine gA 6 E<|Kcn E (dT (Int.ofNat_lt.2 hlt))<|gA 6 E<|eo_o E (Kdd hΓ (enc:=(eN .i64)) (Kcw hx8) E E E E E (fun _=>E))<|gO 11 E<|jC E hy9 (fun h12=>?_) fun h15=>gA 7 E ?_
   ·refine gA 9 E<|bK h12 fun v13 hv13 h14=>?_
    cases h14
    obtain rfl:=hout10 _ rfl
    cases h5
    exact gA 4 E<|oSi hv13▸gP E E
   cases h15
   exact⟨_,E,⟨⟨E,E,E,Kbw E (Kbv (nLl hlt hb7)),tV⟩,[],E,.inl E⟩⟩
  subst hgo
  exact gA 6 E<|Kco E (dF (Int.lt_irrefl _))<|gA 4 E<|⟨_,E,⟨⟨E,tV⟩,[],E,.inl E⟩⟩
 intro a6 ha
 subst ha
 replace h5:=Kgk h5
 exact gA 8 E<|oSi h5▸gP E E
theorem Lfo{a:Kzo}{b:Kzo}{r:Int}(h:Lav a b=some r):Pure Tryz.prog 297 [.agg [B a.Six,U a.Hi,U a.Lo],.agg [B b.Six,U b.Hi,U b.Lo]] (I r):=by
 unfold Lav at h
 refine QP Tryz.func297 E E E<|gA 2 E<|Kmq E E E E Z<|Kmq E E E E Z<|gO 13 E<|jC E h (fun h1=>?_) fun h4=>gA 3 E<|jD<|bK h4 fun y5 hy5 h6=>gA 4 E<|Kdr C (Lfm hy5) E E E E E E<|bK h6 fun y7 hy7 h8=>Kck hΓ 4 E<|Kdr C (Lfm hy7) E E E E E E<|Kdl hΓ (enc:=(eN .i64)) [y5,y7] E E E E E E E E E E E E<|bK h8 fun y9 hy9 h10=>Kdr C (Lfn hy9) E E E E E E<|Kck hΓ 4 E<|oSi h10▸gP E E
 refine gA 7 E<|jC E h1 (fun h2=>?_) fun h3=>gA 9 E<|oSi h3▸gP E E
 exact gA 8 E<|oSi h2▸gP E E
theorem Lfp{x:Int}{r:Bool}(h:Law x=some r):Pure Tryz.prog 226 [I x] (B r):=by
 unfold Law at h
 exact QP Tryz.func226 E E E<|gA 14 E<|oSi h▸gP E E
theorem Lfq{x:Int}{y:Int}{r:Int}(h:Lax x y=some r):Pure Tryz.prog 139 [I x,I y] (I r):=by
 unfold Lax at h
 refine QP Tryz.func139 E E E<|bK h fun y1 hy1 h2=>gA 8 E<|Kdq C (Lfp hy1) E Z E E E E E<|bK h2 fun y3 hy3 h4=>gO 6 E<|Kdq C (Lfp hy3) E Z E E E E E<|gO 9 E<|jC E h4 (fun h5=>?_) fun h8=>gA 8 E<|jC E h8 (fun h9=>?_) fun h10=>?_
 ·refine gA 6 E<|jC E h5 (fun h6=>?_) fun h7=>gA 9 E<|oSi h7▸gP E E
  exact gA 8 E<|oSi h6▸gP E E
 ·exact gA 7 E<|oSi h9▸gP E E
 refine gA 10 E<|jC E h10 (fun h11=>?_) fun h12=>gA 10 E<|jC E h12 (fun h13=>?_) fun h14=>?_
 ·exact gA 7 E<|oSi h11▸gP E E
 ·exact gA 7 E<|oSi h13▸gP E E
 exact gA 8 E<|oSi h14▸gP E E
theorem Lfr{p:Kzp}{q:Kzp}{r:Int}(h:Laz p q=some r):Pure Tryz.prog 232 [.agg [B p.Addr.Six,U p.Addr.Hi,U p.Addr.Lo,I p.Bits],.agg [B q.Addr.Six,U q.Addr.Hi,U q.Addr.Lo,I q.Bits]] (I r):=by
 unfold Laz at h
 exact QP Tryz.func232 E E E<|gA 2 E<|Kmq E E E E Z<|Kmq E E E E Z<|gO 4 E<|jD<|bK h fun y1 hy1 h2=>gA 4 E<|Kdr C (Lfo hy1) E E E E E E<|bK h2 fun y3 hy3 h4=>Kck hΓ 4 E<|Kdr C (Lfq hy3) E E E E E E<|Kdl hΓ (enc:=(eN .i64)) [y1,y3] E E E E E E E E E E E E<|bK h4 fun y5 hy5 h6=>Kdr C (Lfn hy5) E E E E E E<|Kck hΓ 4 E<|oSi h6▸gP E E
theorem Lfs{a:Kzq}{b:Kzq}{r:Int}(h:Lba a b=some r):Pure Tryz.prog 150 [.agg [B a.Prefix.Addr.Six,U a.Prefix.Addr.Hi,U a.Prefix.Addr.Lo,I a.Prefix.Bits,S a.Node,I a.Weight],.agg [B b.Prefix.Addr.Six,U b.Prefix.Addr.Hi,U b.Prefix.Addr.Lo,I b.Prefix.Bits,S b.Node,I b.Weight]] (I r):=by
 unfold Lba at h
 exact QP Tryz.func150 E E E<|gA 2 E<|Kmq E E E E Z<|Kmq E E E E Z<|gO 4 E<|jD<|bK h fun y1 hy1 h2=>gA 4 E<|Kdr C (Lfr hy1) E E E E E E<|bK h2 fun y3 hy3 h4=>Kck hΓ 4 E<|Kdr C (Kuu hy3) E E E E E E<|Kdl hΓ (enc:=(eN .i64)) [y1,y3] E E E E E E E E E E E E<|bK h4 fun y5 hy5 h6=>Kdr C (Lfn hy5) E E E E E E<|Kck hΓ 4 E<|oSi h6▸gP E E
theorem Lft{k:Nat}{l:List Kzq}{r:Int}(h:Lbb k l=some r):Pure Tryz.prog 53 [.d (Sl Lej l)] (I r):=by
 unfold Lbb at h
 refine QP Tryz.func53 E E E<|gA 13 E<|jC E h (fun h1=>?_) fun h2=>gA 10 E<|bK h2 fun q6 hq6 h7=>Kdc 0 E fun hb9=>Kgp (R:=fun a8=>q6=.go a8) (fun a8=>[]) (fun a8=>[]) ?_ ?_
 ·exact gA 7 E<|oSi h1▸gP E E
 ·refine gA 1 E<|Kdb l hq6 (fun i3 s4=>[(0,.d (Sl Lej l)),(9,.d (Sl Lej l)),(10,I (l.length:Int)),(11,I (i3:Int))]) (fun s4=>[]) ⟨⟨E,E,E,E,tV⟩,[],E,.inl E⟩ (fun i3 x5 s4 y13 hx10 hlt hy11 hout12=>?_) (fun s4 hgo=>?_)
  ·refine gA 6 E<|Kcn E (dT (Int.ofNat_lt.2 hlt))<|gA 7 E<|eo_o E (Kdd hΓ (enc:=Lej) (Kcw hx10) E E E E E (fun _=>E))<|gO 1 E<|Kmp hΓ E E E Z<|gO 1 E<|Kmu hΓ E E E E E E E E Z<|Kdz [.box 43 [B x5.Prefix.Addr.Six,U x5.Prefix.Addr.Hi,U x5.Prefix.Addr.Lo,I x5.Prefix.Bits,S x5.Node,I x5.Weight]] E<|bK hy11 fun y14 hy14 h15=>gO 7 E<|Kdq C (Lfj hy14) E Z E E E E E<|gO 9 E<|jC E h15 (fun h16=>?_) fun h19=>bK h19 fun y20 hy20 h21=>gA 7 E<|Kdq C (Lfk hy20) E Z E E E E E<|gO 4 E<|jC E h21 (fun h22=>?_) fun h25=>?_
   ·refine gA 10 E<|bK h16 fun v17 hv17 h18=>?_
    cases h18
    obtain rfl:=hout12 _ rfl
    cases h7
    exact gA 4 E<|oSi hv17▸gP E E
   ·refine gA 9 E<|bK h22 fun v23 hv23 h24=>?_
    cases h24
    obtain rfl:=hout12 _ rfl
    cases h7
    exact gA 4 E<|oSi hv23▸gP E E
   refine bK h25 fun y26 hy26 h27=>gA 4 E<|Kdq C (Lfg hy26) E Z E E E E E<|gO 3 E<|jC E h27 (fun h28=>?_) fun h31=>bK h31 fun q32 hq32 h33=>gA 1 E<|Kgq [(0,.d (Sl Lej l)),(9,.d (Sl Lej l)),(10,I (l.length:Int)),(11,I (i3:Int)),(31,B q32)] [.box 43 [B x5.Prefix.Addr.Six,U x5.Prefix.Addr.Hi,U x5.Prefix.Addr.Lo,I x5.Prefix.Bits,S x5.Node,I x5.Weight]] ?_ ?_
   ·refine gA 9 E<|bK h28 fun v29 hv29 h30=>?_
    cases h30
    obtain rfl:=hout12 _ rfl
    cases h7
    exact gA 4 E<|oSi hv29▸gP E E
   ·refine jD<|gA 3 E<|Kbf E E (fun hb=>?_) (fun hb=>?_)
    ·have h34:=cT hq32 hb
     exact bK h34 fun x35 hx35 h36=>Kck hΓ 3 E<|Kby E E (Kdd hΓ (enc:=Lej) hx35 E E E E E (fun _=>E))<|bK h36 fun y37 hy37 h38=>Kck hΓ 2 E<|Kds C (Lfs hy37) E E E E E E E<|Kck hΓ 4 E<|oSi h38▸⟨⟨E,E,E,E,E,tV⟩,[],E,.inl E⟩
    have h39:=cF hq32 hb
    exact Kck hΓ 11 E<|oSi h39▸⟨⟨E,E,E,E,E,tV⟩,[],E,.inl E⟩
   refine gA 1 E<|jC E h33 (fun h40=>?_) fun h43=>gA 8 E ?_
   ·refine gA 9 E<|bK h40 fun v41 hv41 h42=>?_
    cases h42
    obtain rfl:=hout12 _ rfl
    cases h7
    exact gA 4 E<|oSi hv41▸gP E E
   cases h43
   exact⟨_,E,⟨⟨E,E,E,Kbw E (Kbv (nLl hlt hb9)),tV⟩,[_],E,.inr ⟨HB.mk E,FB.mk E,Z⟩⟩⟩
  subst hgo
  exact gA 6 E<|Kco E (dF (Int.lt_irrefl _))<|gA 4 E<|⟨_,E,⟨tV,[],E,.inl E⟩⟩
 intro a8 ha
 subst ha
 replace h7:=Kgk h7
 exact gA 7 E<|oSi h7▸gP E E
theorem Lfu{k:Nat}{a:Kzo}{r:(Int×Int×Int×Int×Int×Int×Int×Int)}(h:Lbc k a=some r):Pure Tryz.prog 249 [.agg [B a.Six,U a.Hi,U a.Lo]] (.agg [U r.1,U r.2.1,U r.2.2.1,U r.2.2.2.1,U r.2.2.2.2.1,U r.2.2.2.2.2.1,U r.2.2.2.2.2.2.1,U r.2.2.2.2.2.2.2]):=by
 unfold Lbc at h
 refine QP Tryz.func249 E E E<|gA 2 E<|Kmq E E E E Z<|Kmp hΓ E E E Z<|gO 4 E<|Kmp hΓ E E E Z<|gO 8 E<|bK h fun q4 hq4 h5=>Kgq [(2,.ptr 1 0),(3,.ptr 2 0)] [.box 39 [B a.Six,U a.Hi,U a.Lo],.box 266 [U 0,U 0,U 0,U 0,U 0,U 0,U 0,U 0],.box 266 [U q4.1,U q4.2.1,U q4.2.2.1,U q4.2.2.2.1,U q4.2.2.2.2.1,U q4.2.2.2.2.2.1,U q4.2.2.2.2.2.2.1,U q4.2.2.2.2.2.2.2]] ?_ ?_
 ·refine gA 1 E<|Kcz hq4 (fun s2=>[(1,.ptr 0 0),(2,.ptr 1 0),(3,.ptr 2 0),(5,I s2.2)]) (fun s2=>[.box 39 [B a.Six,U a.Hi,U a.Lo],.box 266 [U 0,U 0,U 0,U 0,U 0,U 0,U 0,U 0],.box 266 [U s2.1.1,U s2.1.2.1,U s2.1.2.2.1,U s2.1.2.2.2.1,U s2.1.2.2.2.2.1,U s2.1.2.2.2.2.2.1,U s2.1.2.2.2.2.2.2.1,U s2.1.2.2.2.2.2.2.2]]) ⟨⟨E,E,E,E,tV⟩,[],E,.inl E⟩ (fun s2 y10 hy8 hout9=>?_)
  refine gA 6 E<|jC E hy8 (fun h11=>?_) fun h20=>gA 4 E ?_
  ·exact bK h11 fun y12 hy12 h13=>gA 18 E<|eo_o E (Kep hy12 E E)<|bK h13 fun x14 hx14 h15=>gO 1 E<|eo_o E (Kiu hΓ hx14 E E E E E E)<|eo_u Z (Kiw hΓ (l:=([s2.1.1,s2.1.2.1,s2.1.2.2.1,s2.1.2.2.2.1,s2.1.2.2.2.2.1,s2.1.2.2.2.2.2.1,s2.1.2.2.2.2.2.2.1,s2.1.2.2.2.2.2.2.2]:List Int)) (v:=(bitsV .and .u64 y12 65535)) (f:=fun z=>.d (.v (.int .u64 z))) hx14 E E E E E E E E E E)<|Kdz [.box 39 [B a.Six,U a.Hi,U a.Lo],.box 266 [U 0,U 0,U 0,U 0,U 0,U 0,U 0,U 0],.box 266 [U (updA s2.2 0 (bitsV .and .u64 y12 65535) s2.1.1),U (updA s2.2 1 (bitsV .and .u64 y12 65535) s2.1.2.1),U (updA s2.2 2 (bitsV .and .u64 y12 65535) s2.1.2.2.1),U (updA s2.2 3 (bitsV .and .u64 y12 65535) s2.1.2.2.2.1),U (updA s2.2 4 (bitsV .and .u64 y12 65535) s2.1.2.2.2.2.1),U (updA s2.2 5 (bitsV .and .u64 y12 65535) s2.1.2.2.2.2.2.1),U (updA s2.2 6 (bitsV .and .u64 y12 65535) s2.1.2.2.2.2.2.2.1),U (updA s2.2 7 (bitsV .and .u64 y12 65535) s2.1.2.2.2.2.2.2.2)]] E<|bK h15 fun y16 hy16 h17=>gO 10 E<|eo_o E (Kep hy16 E E)<|bK h17 fun x18 hx18 h19=>gO 1 E<|eo_o E (Kiu hΓ hx18 E E E E E E)<|eo_u Z (Kiw hΓ (l:=([updA s2.2 0 (bitsV .and .u64 y12 65535) s2.1.1,updA s2.2 1 (bitsV .and .u64 y12 65535) s2.1.2.1,updA s2.2 2 (bitsV .and .u64 y12 65535) s2.1.2.2.1,updA s2.2 3 (bitsV .and .u64 y12 65535) s2.1.2.2.2.1,updA s2.2 4 (bitsV .and .u64 y12 65535) s2.1.2.2.2.2.1,updA s2.2 5 (bitsV .and .u64 y12 65535) s2.1.2.2.2.2.2.1,updA s2.2 6 (bitsV .and .u64 y12 65535) s2.1.2.2.2.2.2.2.1,updA s2.2 7 (bitsV .and .u64 y12 65535) s2.1.2.2.2.2.2.2.2]:List Int)) (v:=(bitsV .and .u64 y16 65535)) (f:=fun z=>.d (.v (.int .u64 z))) hx18 E E E E E E E E E E)<|Kdz [.box 39 [B a.Six,U a.Hi,U a.Lo],.box 266 [U 0,U 0,U 0,U 0,U 0,U 0,U 0,U 0],.box 266 [U (updA (wi (4+s2.2)) 0 (bitsV .and .u64 y16 65535) (updA s2.2 0 (bitsV .and .u64 y12 65535) s2.1.1)),U (updA (wi (4+s2.2)) 1 (bitsV .and .u64 y16 65535) (updA s2.2 1 (bitsV .and .u64 y12 65535) s2.1.2.1)),U (updA (wi (4+s2.2)) 2 (bitsV .and .u64 y16 65535) (updA s2.2 2 (bitsV .and .u64 y12 65535) s2.1.2.2.1)),U (updA (wi (4+s2.2)) 3 (bitsV .and .u64 y16 65535) (updA s2.2 3 (bitsV .and .u64 y12 65535) s2.1.2.2.2.1)),U (updA (wi (4+s2.2)) 4 (bitsV .and .u64 y16 65535) (updA s2.2 4 (bitsV .and .u64 y12 65535) s2.1.2.2.2.2.1)),U (updA (wi (4+s2.2)) 5 (bitsV .and .u64 y16 65535) (updA s2.2 5 (bitsV .and .u64 y12 65535) s2.1.2.2.2.2.2.1)),U (updA (wi (4+s2.2)) 6 (bitsV .and .u64 y16 65535) (updA s2.2 6 (bitsV .and .u64 y12 65535) s2.1.2.2.2.2.2.2.1)),U (updA (wi (4+s2.2)) 7 (bitsV .and .u64 y16 65535) (updA s2.2 7 (bitsV .and .u64 y12 65535) s2.1.2.2.2.2.2.2.2))]] E<|gO 7 E<|oSi h19▸⟨_,E,⟨⟨E,E,E,E,tV⟩,[],E,.inl E⟩⟩
  cases h20
  obtain rfl:=hout9 _ rfl
  exact⟨⟨E,E,tV⟩,[],E,.inl E⟩
 exact gA 4 E<|Kmu hΓ E E E E E E E E Z<|Kdz [.box 39 [B a.Six,U a.Hi,U a.Lo],.box 266 [U q4.1,U q4.2.1,U q4.2.2.1,U q4.2.2.2.1,U q4.2.2.2.2.1,U q4.2.2.2.2.2.1,U q4.2.2.2.2.2.2.1,U q4.2.2.2.2.2.2.2],.box 266 [U q4.1,U q4.2.1,U q4.2.2.1,U q4.2.2.2.1,U q4.2.2.2.2.1,U q4.2.2.2.2.2.1,U q4.2.2.2.2.2.2.1,U q4.2.2.2.2.2.2.2]] E<|gO 3 E<|oSi h5▸gP E E
theorem Lfv{k:Nat}{g:(Int×Int×Int×Int×Int×Int×Int×Int)}{r:Int×Int}(h:Lbd k g=some r):Pure Tryz.prog 250 [.agg [U g.1,U g.2.1,U g.2.2.1,U g.2.2.2.1,U g.2.2.2.2.1,U g.2.2.2.2.2.1,U g.2.2.2.2.2.2.1,U g.2.2.2.2.2.2.2]] (.tup [I r.1,I r.2]):=by
 unfold Lbd at h
 refine QP Tryz.func250 E E E<|gA 2 E<|Kmq E E E E Z<|gO 10 E<|bK h fun q4 hq4 h5=>Kgq [(2,I q4.1),(3,I q4.2)] [.box 266 [U g.1,U g.2.1,U g.2.2.1,U g.2.2.2.1,U g.2.2.2.2.1,U g.2.2.2.2.2.1,U g.2.2.2.2.2.2.1,U g.2.2.2.2.2.2.2]] ?_ ?_
 ·refine gA 1 E<|Kcz hq4 (fun s2=>[(1,.ptr 0 0),(2,I s2.1),(3,I s2.2.1),(4,I s2.2.2)]) (fun s2=>[.box 266 [U g.1,U g.2.1,U g.2.2.1,U g.2.2.2.1,U g.2.2.2.2.1,U g.2.2.2.2.2.1,U g.2.2.2.2.2.2.1,U g.2.2.2.2.2.2.2]]) ⟨⟨E,E,E,E,tV⟩,[],E,.inl E⟩ (fun s2 y10 hy8 hout9=>?_)
  refine gA 7 E<|jC E hy8 (fun h11=>?_) fun h34=>gA 4 E ?_
  ·refine gA 10 E<|bK h11 fun q15 hq15 h16=>Kgq [(1,.ptr 0 0),(2,I s2.1),(3,I s2.2.1),(4,I s2.2.2),(5,I q15)] [.box 266 [U g.1,U g.2.1,U g.2.2.1,U g.2.2.2.1,U g.2.2.2.2.1,U g.2.2.2.2.2.1,U g.2.2.2.2.2.2.1,U g.2.2.2.2.2.2.2]] ?_ ?_
   ·refine gA 1 E<|Kcz hq15 (fun s13=>[(1,.ptr 0 0),(2,I s2.1),(3,I s2.2.1),(4,I s2.2.2),(5,I s13)]) (fun s13=>[.box 266 [U g.1,U g.2.1,U g.2.2.1,U g.2.2.2.1,U g.2.2.2.2.1,U g.2.2.2.2.2.1,U g.2.2.2.2.2.2.1,U g.2.2.2.2.2.2.2]]) ⟨⟨E,E,E,E,E,tV⟩,[],E,.inl E⟩ (fun s13 y21 hy19 hout20=>?_)
    refine gA 8 E<|bK hy19 fun q22 hq22 h23=>Kcs 7 [(1,.ptr 0 0),(2,I s2.1),(3,I s2.2.1),(4,I s2.2.2),(5,I s13),(21,B q22)] [.box 266 [U g.1,U g.2.1,U g.2.2.1,U g.2.2.2.1,U g.2.2.2.2.1,U g.2.2.2.2.2.1,U g.2.2.2.2.2.2.1,U g.2.2.2.2.2.2.2]] ?_ ?_
    ·refine Klj E E (fun hb=>?_) (fun hb=>?_)
     ·have h24:=cT hq22 hb
      exact bK h24 fun x25 hx25 h26=>gO 3 E<|Klh E<|eo_o E (Kiu hΓ hx25 E E E E E E)<|Klh E<|eo_o E (Kiv hΓ (f:=fun z=>.d (.v (.int .u64 z))) hx25 E E E E E E)<|gO 3 E<|oSi h26▸⟨⟨E,E,E,E,E,E,tV⟩,[],E,.inl E⟩
     have h27:=cF hq22 hb
     exact gO 8 E<|oSi h27▸⟨⟨E,E,E,E,E,E,tV⟩,[],E,.inl E⟩
    refine gO 2 E<|jC E h23 (fun h28=>?_) fun h29=>gA 4 E ?_
    ·exact gA 9 E<|oSi h28▸⟨_,E,⟨⟨E,E,E,E,E,tV⟩,[],E,.inl E⟩⟩
    cases h29
    obtain rfl:=hout20 _ rfl
    exact⟨⟨E,E,E,E,E,tV⟩,[],E,.inl E⟩
   refine bK h16 fun q30 hq30 h31=>gA 9 E<|Kgq [(1,.ptr 0 0),(2,I q30.1),(3,I q30.2),(4,I s2.2.2),(5,I q15)] [.box 266 [U g.1,U g.2.1,U g.2.2.1,U g.2.2.2.1,U g.2.2.2.2.1,U g.2.2.2.2.2.1,U g.2.2.2.2.2.2.1,U g.2.2.2.2.2.2.2]] ?_ ?_
   ·refine jC E hq30 (fun h32=>?_) fun h33=>gA 1 E<|oSi h33▸⟨⟨E,E,E,E,E,tV⟩,[],E,.inl E⟩
    exact gA 6 E<|oSi h32▸⟨⟨E,E,E,E,E,tV⟩,[],E,.inl E⟩
   exact gA 14 E<|oSi h31▸⟨_,E,⟨⟨E,E,E,E,tV⟩,[],E,.inl E⟩⟩
  cases h34
  obtain rfl:=hout9 _ rfl
  exact⟨⟨E,E,tV⟩,[],E,.inl E⟩
 exact gA 10 E<|oSi h5▸gP E E
theorem Lfw{k:Nat}{a:Kzo}{r:Str}(h:Lbe k a=some r):Pure Tryz.prog 178 [.agg [B a.Six,U a.Hi,U a.Lo]] (S r):=by
 unfold Lbe at h
 refine QP Tryz.func178 E E E<|gA 2 E<|Kmq E E E E Z<|gO 11 E<|jC E h (fun h1=>?_) fun h22=>bK h22 fun y23 hy23 h24=>gA 5 E<|Kdq C (Lfu hy23) E Z E E E E E<|Kmp hΓ E E E Z<|Kmu hΓ E E E E E E E E Z<|Kdz [.box 39 [B a.Six,U a.Hi,U a.Lo],.box 266 [U y23.1,U y23.2.1,U y23.2.2.1,U y23.2.2.2.1,U y23.2.2.2.2.1,U y23.2.2.2.2.2.1,U y23.2.2.2.2.2.2.1,U y23.2.2.2.2.2.2.2]] E<|gO 4 E<|Kdn (t:=0) 9 1 E Z<|gO 9 E<|bK h24 fun q28 hq28 h29=>Kgq [(5,.ptr 1 0),(6,.sl 2 q28.length)] [.box 39 [B a.Six,U a.Hi,U a.Lo],.box 266 [U y23.1,U y23.2.1,U y23.2.2.1,U y23.2.2.2.1,U y23.2.2.2.2.1,U y23.2.2.2.2.2.1,U y23.2.2.2.2.2.2.1,U y23.2.2.2.2.2.2.2],rO 9 1 eS q28] ?_ ?_
 ·refine gA 2 E<|Kdn (t:=0) 9 1 E Z<|gO 8 E<|bK h1 fun q5 hq5 h6=>Kgq [(3,.sl 1 q5.length)] [.box 39 [B a.Six,U a.Hi,U a.Lo],rO 9 1 eS q5] ?_ ?_
  ·refine gA 1 E<|Kcz hq5 (fun s3=>[(1,.ptr 0 0),(3,.sl 1 s3.1.length),(14,I s3.2)]) (fun s3=>[.box 39 [B a.Six,U a.Hi,U a.Lo],rO 9 1 eS s3.1]) ⟨⟨E,E,E,tV⟩,[],E,.inl E⟩ (fun s3 y11 hy9 hout10=>?_)
   refine gA 6 E<|jC E hy9 (fun h12=>?_) fun h19=>gA 4 E ?_
   ·exact bK h12 fun y13 hy13 h14=>gA 17 E<|eo_o E (Kep hy13 E E)<|bK h14 fun y15 hy15 h16=>gO 1 E<|Kdq C (Kuy hy15) E Z E E E E E<|Kdk hΓ (enc:=eS) [y15] E E E E E E E E E E E E Z<|bK h16 fun y17 hy17 h18=>Kea hΓ (enc:=eS) hy17 E E E E E E E E E (fun _=>E) E E E E<|gO 8 E<|oSi h18▸⟨_,E,⟨⟨E,E,E,tV⟩,[],E,.inl E⟩⟩
   cases h19
   obtain rfl:=hout10 _ rfl
   exact⟨⟨E,tV⟩,[],E,.inl E⟩
  exact gA 2 E<|Kdy 1 [3] _ [.box 39 [B a.Six,U a.Hi,U a.Lo],.dead] E E E Z<|bK h6 fun y20 hy20 h21=>gA 2 E<|Kdq C (Kvg hy20) E Z E E E E E<|gO 5 E<|oSi h21▸gP E E
 ·refine gA 1 E<|Kcz hq28 (fun s26=>[(5,.ptr 1 0),(6,.sl 2 s26.1.length),(33,.agg [U y23.1,U y23.2.1,U y23.2.2.1,U y23.2.2.2.1,U y23.2.2.2.2.1,U y23.2.2.2.2.2.1,U y23.2.2.2.2.2.2.1,U y23.2.2.2.2.2.2.2]),(34,I s26.2)]) (fun s26=>[.box 39 [B a.Six,U a.Hi,U a.Lo],.box 266 [U y23.1,U y23.2.1,U y23.2.2.1,U y23.2.2.2.1,U y23.2.2.2.2.1,U y23.2.2.2.2.2.1,U y23.2.2.2.2.2.2.1,U y23.2.2.2.2.2.2.2],rO 9 1 eS s26.1]) ⟨⟨E,E,E,E,tV⟩,[],E,.inl E⟩ (fun s26 y34 hy32 hout33=>?_)
  refine gA 6 E<|jC E hy32 (fun h35=>?_) fun h42=>gA 4 E ?_
  ·exact bK h35 fun x36 hx36 h37=>gA 6 E<|eo_o E (Khb hΓ (enc:=(eN .u64)) [y23.1,y23.2.1,y23.2.2.1,y23.2.2.2.1,y23.2.2.2.2.1,y23.2.2.2.2.2.1,y23.2.2.2.2.2.2.1,y23.2.2.2.2.2.2.2] hx36 E E E E E E E (fun _=>E) E)<|bK h37 fun y38 hy38 h39=>gO 6 E<|Kdq C (Kuy hy38) E Z E E E E E<|Kdk hΓ (enc:=eS) [y38] E E E E E E E E E E E E Z<|bK h39 fun y40 hy40 h41=>Kea hΓ (enc:=eS) hy40 E E E E E E E E E (fun _=>E) E E E E<|gO 8 E<|oSi h41▸⟨_,E,⟨⟨E,E,E,E,tV⟩,[],E,.inl E⟩⟩
  cases h42
  obtain rfl:=hout33 _ rfl
  exact⟨⟨E,E,tV⟩,[],E,.inl E⟩
 refine gA 2 E<|Kdy 2 [6] _ [.box 39 [B a.Six,U a.Hi,U a.Lo],.box 266 [U y23.1,U y23.2.1,U y23.2.2.1,U y23.2.2.2.1,U y23.2.2.2.2.1,U y23.2.2.2.2.2.1,U y23.2.2.2.2.2.2.1,U y23.2.2.2.2.2.2.2],.dead] E E E Z<|bK h29 fun y43 hy43 h44=>gA 2 E<|Kdq C (Lfv hy43) E Z E E E E E<|gO 14 E<|jC E h44 (fun h45=>?_) fun h48=>gA 3 E<|jD<|bK h48 fun z49 hz49 h50=>gA 2 E<|gl_o E (Kdj hΓ (enc:=eS) hz49 E E E E E E (fun _=>E))<|bK h50 fun y51 hy51 h52=>Kdr C (Kvg hy51) E E E E E E<|bK h52 fun y53 hy53 h54=>gl_o E (Kec hy53 E E)<|bK h54 fun z55 hz55 h56=>Kck hΓ 4 E<|gl_o E (Kdj hΓ (enc:=eS) hz55 E E E E E E (fun _=>E))<|bK h56 fun y57 hy57 h58=>Kdr C (Kvg hy57) E E E E E E<|bK h58 fun y59 hy59 h60=>gl_o E (Kec hy59 E E)<|Kck hΓ 4 E<|oSi h60▸gP E E
 exact bK h45 fun y46 hy46 h47=>gA 3 E<|Kdq C (Kvg hy46) E Z E E E E E<|gO 5 E<|oSi h47▸gP E E
theorem Lfx{k:Nat}{p:Kzp}{r:Str}(h:Lbf k p=some r):Pure Tryz.prog 151 [.agg [B p.Addr.Six,U p.Addr.Hi,U p.Addr.Lo,I p.Bits]] (S r):=by
 unfold Lbf at h
 exact QP Tryz.func151 E E E<|gA 2 E<|Kmq E E E E Z<|gO 4 E<|jD<|bK h fun y1 hy1 h2=>gA 2 E<|Kdr C (Lfw hy1) E E E E E E<|bK h2 fun y3 hy3 h4=>gl_o E (Kec hy3 E E)<|bK h4 fun y5 hy5 h6=>Kck hΓ 2 E<|Kdr C (Kuw hy5) E E E E E E<|bK h6 fun y7 hy7 h8=>gl_o E (Kec hy7 E E)<|Kck hΓ 4 E<|oSi h8▸gP E E
theorem Lfy{k:Nat}{p:Kzp}{r:Str×Int}(h:Lbg k p=some r):Pure Tryz.prog 54 [.agg [B p.Addr.Six,U p.Addr.Hi,U p.Addr.Lo,I p.Bits]] (.tup [S r.1,I r.2]):=by
 unfold Lbg at h
 refine QP Tryz.func54 E E E<|gA 2 E<|Kmq E E E E Z<|bK h fun y1 hy1 h2=>gO 8 E<|Kdq C (Lfj hy1) E Z E E E E E<|gO 9 E<|jC E h2 (fun h3=>?_) fun h4=>bK h4 fun y5 hy5 h6=>gA 5 E<|Kdq C (Lfx hy5) E Z E E E E E<|gO 5 E<|oSi h6▸gP E E
 exact gA 9 E<|oSi h3▸gP E E
theorem Lfz{b:Str}{s:Str}{r:Int×Str}(h:Lbh b s=some r):EC Tryz.prog 55 [.ptr 1 0,S s] [rO 5 1 eU b,.box 90 [.pn 1,.sl 0 b.length]] fun g hp'=>g=.tup [I r.1,.d (.v .nilIface)]∧hp'=[.dead,.box 90 [.pn 1,.sl 2 r.2.length],rO 5 1 eU r.2]:=by
 unfold Lbh at h
 exact QM Tryz.func55 E Z<|Kfn Z<|Kfl 0 2 [.dead,.box 90 [.pn 1,.sl 2 b.length],rO 5 1 eU b] E E E E E E<|bK h fun y1 hy1 h2=>gA 9 E<|Kdp [2,1] (.tup []) [.dead,.box 90 [.pn 1,.sl 2 b.length],rO 5 1 eU b] C (Kaa hy1) E Z E E E E E E E E E E<|bK h2 fun y3 hy3 h4=>gO 10 E<|Kgz 2 [.dead,.box 90 [.pn 1,.junk],rO 5 1 eU b] E Z<|eo_s Z (nblt.1 E) (Kjx hΓ (id:=2) (h2:=show Γ 5=some ⟨_,1,_,_⟩ from E) hy3 E E E E E E E E E E E)<|gO 2 E<|Kmu hΓ E E E E E E E E Z<|Kdz [.dead,.box 90 [.pn 1,.sl 3 y3.length],.dead,rO 5 1 eU y3] E<|Kfj 3 2 [.dead,.box 90 [.pn 1,.sl 2 y3.length],rO 5 1 eU y3,.dead] E E E E E E<|gO 11 E<|Kgm<|oSi h4▸Keg hΓ [_] (.inr E) E E E E (.inr ⟨HB.mk E,E⟩)
theorem Lga{b:Str}{r:Int}(h:Lbi b=some r):EC Tryz.prog 57 [.ptr 1 0] [rO 5 1 eU b,.box 90 [.pn 1,.sl 0 b.length]] fun g hp'=>g=I r∧hp'=[rO 5 1 eU b,.box 90 [.pn 1,.sl 0 b.length]]:=by
 unfold Lbi at h
 exact QN Tryz.func57 E Z<|gA 16 E<|oSi h▸Keg hΓ [] (.inr E) E E E E (.inl E)
theorem Lgb{k:Nat}{v_r:List Kzq}{r:Str×Int}(h:Lbj k v_r=some r):Pure Tryz.prog 8 [.d (Sl Lej v_r)] (.tup [S r.1,I r.2]):=by
 unfold Lbj at h
 refine QP Tryz.func8 E E E<|bK h fun y1 hy1 h2=>gA 10 E<|Kdq C (Lft hy1) E Z E E E E E<|gO 9 E<|jC E h2 (fun h3=>?_) fun h4=>gA 4 E<|eo_s Z (nblt.1 E) (Kir hΓ [1] [.d (.v (.pointer none)),.d (.v (.slice none 0 0))] (hi:=show Γ 90=some ⟨_,_,_,_⟩ from E) E ⟨.refl _,.refl _,tV⟩)<|Kdz [.box 90 [.d (.v (.pointer none)),.d (.v (.slice none 0 0))]] E<|gO 2 E<|Kjt 0 0 [.box 90 [.pn 0,.d (.v (.slice none 0 0))]] E E E<|Kjb 0 1 5 1 [.box 90 [.pn 0,.sl 1 ([]:Str).length],rO 5 1 eU ([]:Str)] E E E Z<|gA 8 E<|bK h4 fun q8 hq8 h9=>Kdc 15 E fun hb11=>Kgq [(5,.ptr 0 0)] [.box 90 [.pn 0,.sl 1 q8.length],rO 5 1 eU q8] ?_ ?_
 ·exact gA 9 E<|oSi h3▸gP E E
 ·refine gA 1 E<|Kei v_r hq8 (fun i5 s6=>[(5,.ptr 0 0),(15,.d (Sl Lej v_r)),(16,I (v_r.length:Int)),(17,I (i5:Int))]) (fun s6=>[.box 90 [.pn 0,.sl 1 s6.length],rO 5 1 eU s6]) ⟨⟨E,E,E,E,tV⟩,[],E,.inl E⟩ (fun i5 x7 s6 y15 hx12 hlt hy13=>?_) (?_)
  ·refine gA 6 E<|Kcn E (dT (Int.ofNat_lt.2 hlt))<|gA 6 E<|eo_o E (Kdd hΓ (enc:=Lej) (Kcw hx12) E E E E E (fun _=>E))<|gO 1 E<|Kmp hΓ E E E Z<|Kmu hΓ E E E E E E E E Z<|Kdz [.box 90 [.pn 0,.sl 1 s6.length],rO 5 1 eU s6,.box 43 [B x7.Prefix.Addr.Six,U x7.Prefix.Addr.Hi,U x7.Prefix.Addr.Lo,I x7.Prefix.Bits,S x7.Node,I x7.Weight]] E<|bK hy13 fun y16 hy16 h17=>gO 6 E<|Kdq C (Lfy hy16) E Z E E E E E<|gO 7 E<|Kfr [.dead,.dead,.box 43 [B x7.Prefix.Addr.Six,U x7.Prefix.Addr.Hi,U x7.Prefix.Addr.Lo,I x7.Prefix.Bits,S x7.Node,I x7.Weight]] [3,7] [11] [] hmix (by kernel_rfl) (by kernel_rfl) ⟨E,tV⟩ Z<|bK h17 fun y18 hy18 h19=>go_E hΓ 1 E<|ge_q E (.inl E) (fun _ _=>Kft (qt_p (Kec hy18 E E)))<|bK h19 fun y20 hy20 h21=>go_E hΓ 2 E<|ge_q E (.inl E) (fun _ _=>Kft (qt_p (Kec hy20 E E)))<|bK h21 fun y22 hy22 h23=>ge_q E (.inl E) (fun _ _=>Kft (qt_p (Kec hy22 E E)))<|bK h23 fun y24 hy24 h25=>go_E hΓ 2 E<|Kgf C (Kuw hy24) E E E E E E<|bK h25 fun y26 hy26 h27=>ge_q E (.inl E) (fun _ _=>Kft (qt_p (Kec hy26 E E)))<|bK h27 fun y28 hy28 h29=>ge_q E (.inl E) (fun _ _=>Kft (qt_p (Kec hy28 E E)))<|bK h29 fun y30 hy30 h31=>ge_h [.box 90 [.pn 0,.sl 3 y30.2.length],.dead,.box 43 [B x7.Prefix.Addr.Six,U x7.Prefix.Addr.Hi,U x7.Prefix.Addr.Lo,I x7.Prefix.Bits,S x7.Node,I x7.Weight],rO 5 1 eU y30.2] E E E (Kfz ⟨E,tV⟩) (Kge [1,0] (.tup [I y30.1,.d (.v .nilIface)]) [.box 90 [.pn 0,.sl 3 y30.2.length],.dead,.box 43 [B x7.Prefix.Addr.Six,U x7.Prefix.Addr.Hi,U x7.Prefix.Addr.Lo,I x7.Prefix.Bits,S x7.Node,I x7.Weight],rO 5 1 eU y30.2] C (Lfz hy30) E E E E E E E E E E)<|Kfs<|gA 2 E<|Kfl 3 1 [.box 90 [.pn 0,.sl 1 y30.2.length],rO 5 1 eU y30.2,.box 43 [B x7.Prefix.Addr.Six,U x7.Prefix.Addr.Hi,U x7.Prefix.Addr.Lo,I x7.Prefix.Bits,S x7.Node,I x7.Weight],.dead] E E E E E E<|gA 4 E ?_
   cases h31
   exact⟨⟨E,E,E,Kbw E (Kbv (nLl hlt hb11)),tV⟩,[_,_],E,.inr ⟨HB.mk E,FB.mk E,Z⟩⟩
  exact gA 6 E<|Kco E (dF (Int.lt_irrefl _))<|gA 4 E<|⟨⟨E,tV⟩,[],E,.inl E⟩
 refine bK h9 fun y32 hy32 h33=>gA 4 E<|Kdp [1,0] (I y32) [.box 90 [.pn 0,.sl 1 q8.length],rO 5 1 eU q8] C (Lga hy32) E Z E E E E E E E E E E<|gO 3 E<|jC E h33 (fun h34=>?_) fun h35=>bK h35 fun y36 hy36 h37=>gA 4 E<|Kdp [1,0] (S y36) [.dead,.dead] C (Kab hy36) E Z E E E E E E E E E E<|gO 5 E<|oSi h37▸gP E E
 exact gA 8 E<|oSi h34▸gP E E
theorem Lgc{a:Kzo}{r:Int}(h:Lbk a=some r):Pure Tryz.prog 154 [.agg [B a.Six,U a.Hi,U a.Lo]] (I r):=by
 unfold Lbk at h
 refine QP Tryz.func154 E E E<|gA 2 E<|Kmq E E E E Z<|gO 10 E<|Kcs 9 [(15,B ((!a.Six)&&((decide ((a.Hi:Int)>0))||(decide ((a.Lo:Int)>4294967295)))))] [.box 39 [B a.Six,U a.Hi,U a.Lo]] ?_ ?_
 ·refine Klj E E (fun hb=>?_) (fun hb=>?_)
  ·refine gO 4 E<|Kcs 4 [(6,B true),(14,B ((decide ((a.Hi:Int)>0))||(decide ((a.Lo:Int)>4294967295))))] [.box 39 [B a.Six,U a.Hi,U a.Lo]] ?_ ?_
   ·refine Klj E E (fun hb=>?_) (fun hb=>?_)
    ·exact gO 5 E<|⟨⟨E,Kbx E (or_t hb),tV⟩,[],E,.inl E⟩
    exact gO 5 E<|⟨⟨E,Kbx E (or_f hb),tV⟩,[],E,.inl E⟩
   exact gO 2 E<|⟨⟨Kbx E (Kek hb),tV⟩,[],E,.inl E⟩
  exact gO 10 E<|⟨⟨Kbx E (Kel hb),tV⟩,[],E,.inl E⟩
 refine gO 2 E<|jC E h (fun h1=>?_) fun h2=>gA 8 E<|oSi h2▸gP E E
 exact gA 7 E<|oSi h1▸gP E E
theorem Lgd{n:Int}{low:Int}{high:Int}{r:Bool}(h:Lbl n low high=some r):Pure Tryz.prog 155 [I n,I low,I high] (B r):=by
 unfold Lbl at h
 refine QP Tryz.func155 E E E<|gA 11 E<|Kcs 4 [(6,B false),(14,B ((decide ((low:Int)≤n))&&(decide ((n:Int)≤high))))] [] ?_ ?_
 ·refine Klj E E (fun hb=>?_) (fun hb=>?_)
  ·exact gO 5 E<|⟨⟨E,Kbx E (Kek hb),tV⟩,[],E,.inl E⟩
  exact gO 5 E<|⟨⟨E,Kbx E (Kel hb),tV⟩,[],E,.inl E⟩
 exact gO 4 E<|oSi h▸gP E E
theorem Lge{k:Nat}{p:Kzp}{r:Int}(h:Lbm k p=some r):Pure Tryz.prog 59 [.agg [B p.Addr.Six,U p.Addr.Hi,U p.Addr.Lo,I p.Bits]] (I r):=by
 unfold Lbm at h
 refine QP Tryz.func59 E E E<|gA 2 E<|Kmq E E E E Z<|bK h fun y1 hy1 h2=>gO 8 E<|Kdq C (Lgc hy1) E Z E E E E E<|gO 9 E<|jC E h2 (fun h3=>?_) fun h4=>gA 4 E<|jD<|bK h4 fun y5 hy5 h6=>gA 4 E<|Kdr C (Leu hy5) E E E E E E<|bK h6 fun y7 hy7 h8=>Kdr C (Lgd hy7) E E E E E E<|Kck hΓ 3 E<|jC E h8 (fun h9=>?_) fun h10=>?_
 ·exact gA 8 E<|oSi h3▸gP E E
 ·exact gA 7 E<|oSi h9▸gP E E
 refine gA 4 E<|jD<|bK h10 fun y11 hy11 h12=>gA 4 E<|Kdr C (Lev hy11) E E E E E E<|bK h12 fun y13 hy13 h14=>Kck hΓ 2 E<|Kdr C (Let hy13) E E E E E E<|gl_o E (Kiz hΓ (l1:=([y11.1,y11.2.1,y11.2.2.1,y11.2.2.2.1,y11.2.2.2.2.1,y11.2.2.2.2.2.1,y11.2.2.2.2.2.2.1,y11.2.2.2.2.2.2.2.1,y11.2.2.2.2.2.2.2.2]:List Int)) (l2:=([y13.1,y13.2.1,y13.2.2.1,y13.2.2.2.1,y13.2.2.2.2.1,y13.2.2.2.2.2.1,y13.2.2.2.2.2.2.1,y13.2.2.2.2.2.2.2.1,y13.2.2.2.2.2.2.2.2]:List Int)) E E E E E (by kernel_rfl) E E E E E E)<|Kck hΓ 2 E<|jC E h14 (fun h15=>?_) fun h16=>gA 8 E<|oSi h16▸gP E E
 exact gA 7 E<|oSi h15▸gP E E
theorem Lgf{s:Str}{v_some:Str}{r:Bool}(h:Lbn s v_some=some r):Pure Tryz.prog 159 [S s,S v_some] (B r):=by
 unfold Lbn at h
 exact QP Tryz.func159 E E E<|bK h fun y1 hy1 h2=>gA 9 E<|Kdq C (Kuq hy1) E Z E E E E E<|gO 5 E<|oSi h2▸gP E E
theorem Lgg{s:Str}{r:Bool}(h:Lbo s=some r):Pure Tryz.prog 60 [S s] (B r):=by
 unfold Lbo at h
 refine QP Tryz.func60 E E E<|bK h fun y1 hy1 h2=>gA 9 E<|Kdq C (Lgd hy1) E Z E E E E E<|gO 1 E<|bK h2 fun q3 hq3 h4=>Kcs 4 [(0,S s),(2,B false),(10,B q3)] [] ?_ ?_
 ·refine Klj E E (fun hb=>?_) (fun hb=>?_)
  ·have h5:=cT hq3 hb
   exact bK h5 fun z6 hz6 h7=>gO 1 E<|Klh E<|eo_o E (Kdf hΓ hz6 E E E E E)<|bK h7 fun y8 hy8 h9=>Klh E<|Kdq C (Lgf hy8) E Z E E E E E<|gO 2 E<|oSi h9▸⟨⟨E,E,E,tV⟩,[],E,.inl E⟩
  have h10:=cF hq3 hb
  exact gO 5 E<|oSi h10▸⟨⟨E,E,E,tV⟩,[],E,.inl E⟩
 refine gO 1 E<|bK h4 fun q11 hq11 h12=>Kcs 3 [(2,B false),(14,B q11)] [] ?_ ?_
 ·refine Klj E E (fun hb=>?_) (fun hb=>?_)
  ·have h13:=cT hq11 hb
   exact bK h13 fun y14 hy14 h15=>gO 1 E<|Klh E<|Kdq C (Lgf hy14) E Z E E E E E<|gO 2 E<|oSi h15▸⟨⟨E,E,tV⟩,[],E,.inl E⟩
  have h16:=cF hq11 hb
  exact gO 4 E<|oSi h16▸⟨⟨E,E,tV⟩,[],E,.inl E⟩
 exact gO 4 E<|oSi h12▸gP E E
theorem Lgh{n:Int}{low:Int}{high:Int}{r:Bool}(h:Lbp n low high=some r):Pure Tryz.prog 61 [I n,I low,I high] (B r):=by
 unfold Lbp at h
 refine QP Tryz.func61 E E E<|gA 11 E<|Kcs 4 [(6,B false),(14,B ((decide ((low:Int)≤n))&&(decide ((n:Int)≤high))))] [] ?_ ?_
 ·refine Klj E E (fun hb=>?_) (fun hb=>?_)
  ·exact gO 5 E<|⟨⟨E,Kbx E (Kek hb),tV⟩,[],E,.inl E⟩
  exact gO 5 E<|⟨⟨E,Kbx E (Kel hb),tV⟩,[],E,.inl E⟩
 exact gO 4 E<|oSi h▸gP E E
theorem Lgi{n:Int}{r:Int}(h:Lbq n=some r):Pure Tryz.prog 302 [I n] (I r):=by
 unfold Lbq at h
 refine QP Tryz.func302 E E E<|gA 14 E<|jC E h (fun h1=>?_) fun h2=>gA 7 E<|jC E h2 (fun h3=>?_) fun h4=>?_
 ·exact gA 8 E<|oSi h1▸gP E E
 ·exact gA 8 E<|oSi h3▸gP E E
 exact gA 9 E<|oSi h4▸gP E E
theorem Lgj{k:Nat}{w:(Int×Int×Int×Int×Int×Int×Int×Int×Int)}{v:(Int×Int×Int×Int×Int×Int×Int×Int×Int)}{r:Int}(h:Lbr k w v=some r):Pure Tryz.prog 235 [.agg [I w.1,I w.2.1,I w.2.2.1,I w.2.2.2.1,I w.2.2.2.2.1,I w.2.2.2.2.2.1,I w.2.2.2.2.2.2.1,I w.2.2.2.2.2.2.2.1,I w.2.2.2.2.2.2.2.2],.agg [I v.1,I v.2.1,I v.2.2.1,I v.2.2.2.1,I v.2.2.2.2.1,I v.2.2.2.2.2.1,I v.2.2.2.2.2.2.1,I v.2.2.2.2.2.2.2.1,I v.2.2.2.2.2.2.2.2]] (I r):=by
 unfold Lbr at h
 refine QP Tryz.func235 E E E<|gA 2 E<|Kmq E E E E Z<|Kmq E E E E Z<|gO 9 E<|bK h fun q4 hq4 h5=>Kgp (R:=fun a6=>q4=.inl a6) (fun a6=>[]) (fun a6=>[.box 198 [I w.1,I w.2.1,I w.2.2.1,I w.2.2.2.1,I w.2.2.2.2.1,I w.2.2.2.2.2.1,I w.2.2.2.2.2.2.1,I w.2.2.2.2.2.2.2.1,I w.2.2.2.2.2.2.2.2],.box 198 [I v.1,I v.2.1,I v.2.2.1,I v.2.2.2.1,I v.2.2.2.2.1,I v.2.2.2.2.2.1,I v.2.2.2.2.2.2.1,I v.2.2.2.2.2.2.2.1,I v.2.2.2.2.2.2.2.2]]) ?_ ?_
 ·refine gA 1 E<|Kcz hq4 (fun s2=>[(2,.ptr 0 0),(3,.ptr 1 0),(5,I s2)]) (fun s2=>[.box 198 [I w.1,I w.2.1,I w.2.2.1,I w.2.2.2.1,I w.2.2.2.2.1,I w.2.2.2.2.2.1,I w.2.2.2.2.2.2.1,I w.2.2.2.2.2.2.2.1,I w.2.2.2.2.2.2.2.2],.box 198 [I v.1,I v.2.1,I v.2.2.1,I v.2.2.2.1,I v.2.2.2.2.1,I v.2.2.2.2.2.1,I v.2.2.2.2.2.2.1,I v.2.2.2.2.2.2.2.1,I v.2.2.2.2.2.2.2.2]]) ⟨⟨E,E,E,tV⟩,[],E,.inl E⟩ (fun s2 y10 hy8 hout9=>?_)
  refine gA 7 E<|jC E hy8 (fun h11=>?_) fun h26=>gA 4 E ?_
  ·refine gA 5 E<|jD<|bK h11 fun x12 hx12 h13=>gA 1 E<|gl_o E (Kiu hΓ hx12 E E E E E E)<|gl_o E (Kiv hΓ (f:=fun z=>.d (.v (.int .i64 z))) hx12 E E E E E E)<|bK h13 fun x14 hx14 h15=>Kck hΓ 1 E<|gl_o E (Kiu hΓ hx14 E E E E E E)<|gl_o E (Kiv hΓ (f:=fun z=>.d (.v (.int .i64 z))) hx14 E E E E E E)<|Kck hΓ 3 E<|jC E h15 (fun h16=>?_) fun h25=>gA 8 E<|oSi h25▸⟨_,E,⟨⟨E,E,E,tV⟩,[],E,.inl E⟩⟩
   refine gA 1 E<|jD<|bK h16 fun x17 hx17 h18=>gA 1 E<|gl_o E (Kiu hΓ hx17 E E E E E E)<|gl_o E (Kiv hΓ (f:=fun z=>.d (.v (.int .i64 z))) hx17 E E E E E E)<|bK h18 fun x19 hx19 h20=>Kck hΓ 1 E<|gl_o E (Kiu hΓ hx19 E E E E E E)<|gl_o E (Kiv hΓ (f:=fun z=>.d (.v (.int .i64 z))) hx19 E E E E E E)<|bK h20 fun y21 hy21 h22=>Kck hΓ 1 E<|Kdr C (Lgi hy21) E E E E E E<|Kck hΓ 6 E<|bK h22 fun v23 hv23 h24=>?_
   cases h24
   obtain rfl:=hout9 _ rfl
   cases h5
   exact gA 4 E<|oSi hv23▸gP E E
  cases h26
  obtain rfl:=hout9 _ rfl
  exact⟨_,E,⟨tV,[],E,.inl E⟩⟩
 intro a6 ha
 subst ha
 replace h5:=Kgj h5
 exact gA 7 E<|oSi h5▸gP E E
theorem Lgk{k:Nat}{a:Kzo}{b:Kzo}{r:Int}(h:Lbs k a b=some r):Pure Tryz.prog 160 [.agg [B a.Six,U a.Hi,U a.Lo],.agg [B b.Six,U b.Hi,U b.Lo]] (I r):=by
 unfold Lbs at h
 exact QP Tryz.func160 E E E<|gA 2 E<|Kmq E E E E Z<|Kmq E E E E Z<|gO 4 E<|jD<|bK h fun y1 hy1 h2=>gA 1 E<|Kdr C (Let hy1) E E E E E E<|bK h2 fun y3 hy3 h4=>Kck hΓ 1 E<|Kdr C (Let hy3) E E E E E E<|bK h4 fun y5 hy5 h6=>Kdr C (Lgj hy5) E E E E E E<|Kck hΓ 4 E<|oSi h6▸gP E E
theorem Lgl{k:Nat}{a:Kzp}{b:Kzp}{r:Int}(h:Lbt k a b=some r):Pure Tryz.prog 63 [.agg [B a.Addr.Six,U a.Addr.Hi,U a.Addr.Lo,I a.Bits],.agg [B b.Addr.Six,U b.Addr.Hi,U b.Addr.Lo,I b.Bits]] (I r):=by
 unfold Lbt at h
 exact QP Tryz.func63 E E E<|gA 2 E<|Kmq E E E E Z<|Kmq E E E E Z<|gO 4 E<|jD<|bK h fun y1 hy1 h2=>gA 4 E<|Kdr C (Lgk hy1) E E E E E E<|bK h2 fun y3 hy3 h4=>Kck hΓ 4 E<|Kdr C (Lfq hy3) E E E E E E<|Kdl hΓ (enc:=(eN .i64)) [y1,y3] E E E E E E E E E E E E<|bK h4 fun y5 hy5 h6=>Kdr C (Lfn hy5) E E E E E E<|Kck hΓ 4 E<|oSi h6▸gP E E
theorem Lgm{k:Nat}{l:List Kzq}{r:Int}(h:Lbu k l=some r):Pure Tryz.prog 9 [.d (Sl Lej l)] (I r):=by
 unfold Lbu at h
 refine QP Tryz.func9 E E E<|gA 13 E<|jC E h (fun h1=>?_) fun h2=>gA 10 E<|bK h2 fun q6 hq6 h7=>Kdc 0 E fun hb9=>Kgp (R:=fun a8=>q6=.go a8) (fun a8=>[]) (fun a8=>[]) ?_ ?_
 ·exact gA 7 E<|oSi h1▸gP E E
 ·refine gA 1 E<|Kdb l hq6 (fun i3 s4=>[(0,.d (Sl Lej l)),(9,.d (Sl Lej l)),(10,I (l.length:Int)),(11,I (i3:Int))]) (fun s4=>[]) ⟨⟨E,E,E,E,tV⟩,[],E,.inl E⟩ (fun i3 x5 s4 y13 hx10 hlt hy11 hout12=>?_) (fun s4 hgo=>?_)
  ·refine gA 6 E<|Kcn E (dT (Int.ofNat_lt.2 hlt))<|gA 7 E<|eo_o E (Kdd hΓ (enc:=Lej) (Kcw hx10) E E E E E (fun _=>E))<|gO 1 E<|Kmp hΓ E E E Z<|gO 1 E<|Kmu hΓ E E E E E E E E Z<|Kdz [.box 43 [B x5.Prefix.Addr.Six,U x5.Prefix.Addr.Hi,U x5.Prefix.Addr.Lo,I x5.Prefix.Bits,S x5.Node,I x5.Weight]] E<|bK hy11 fun y14 hy14 h15=>gO 7 E<|Kdq C (Lge hy14) E Z E E E E E<|gO 9 E<|jC E h15 (fun h16=>?_) fun h19=>bK h19 fun y20 hy20 h21=>gA 7 E<|Kdq C (Lgg hy20) E Z E E E E E<|gO 4 E<|jC E h21 (fun h22=>?_) fun h25=>?_
   ·refine gA 10 E<|bK h16 fun v17 hv17 h18=>?_
    cases h18
    obtain rfl:=hout12 _ rfl
    cases h7
    exact gA 4 E<|oSi hv17▸gP E E
   ·refine gA 9 E<|bK h22 fun v23 hv23 h24=>?_
    cases h24
    obtain rfl:=hout12 _ rfl
    cases h7
    exact gA 4 E<|oSi hv23▸gP E E
   refine bK h25 fun y26 hy26 h27=>gA 4 E<|Kdq C (Lgh hy26) E Z E E E E E<|gO 4 E<|jC E h27 (fun h28=>?_) fun h31=>bK h31 fun q32 hq32 h33=>gA 1 E<|Kgq [(0,.d (Sl Lej l)),(9,.d (Sl Lej l)),(10,I (l.length:Int)),(11,I (i3:Int)),(32,B q32)] [.box 43 [B x5.Prefix.Addr.Six,U x5.Prefix.Addr.Hi,U x5.Prefix.Addr.Lo,I x5.Prefix.Bits,S x5.Node,I x5.Weight]] ?_ ?_
   ·refine gA 9 E<|bK h28 fun v29 hv29 h30=>?_
    cases h30
    obtain rfl:=hout12 _ rfl
    cases h7
    exact gA 4 E<|oSi hv29▸gP E E
   ·refine Kfr [.box 43 [B x5.Prefix.Addr.Six,U x5.Prefix.Addr.Hi,U x5.Prefix.Addr.Lo,I x5.Prefix.Bits,S x5.Node,I x5.Weight]] [10,19] [] [] hmix (by kernel_rfl) (by kernel_rfl) ⟨E,tV⟩ Z<|go_E hΓ 3 E<|Kfw E E (fun hb=>?_) (fun hb=>?_)
    ·have h34:=cT hq32 hb
     exact bK h34 fun x35 hx35 h36=>go_E hΓ 3 E<|ge_q E (.inr ⟨_,_,E,E⟩) (fun _ _=>Kft (qt_p (Kdd hΓ (enc:=Lej) hx35 E E E E E (fun _=>E))))<|bK h36 fun y37 hy37 h38=>go_E hΓ 4 E<|Kgs E C (Lgl hy37) E E E E E E<|bK h38 fun x39 hx39 h40=>go_E hΓ 3 E<|ge_q E (.inr ⟨_,_,E,E⟩) (fun _ _=>Kft (qt_p (Kdd hΓ (enc:=Lej) hx39 E E E E E (fun _=>E))))<|bK h40 fun y41 hy41 h42=>go_E hΓ 4 E<|Kgs E C (Kuu hy41) E E E E E E<|Kgt hΓ (enc:=(eN .i64)) [y37,y41] E E E E E E E E E E E E E<|bK h42 fun y43 hy43 h44=>Kgs E C (Lfn hy43) E E E E E E<|go_E hΓ 3 E<|Kfs<|oSi h44▸⟨⟨E,E,E,E,E,tV⟩,[],E,.inl E⟩
    have h45:=cF hq32 hb
    exact go_E hΓ 23 E<|Kfs<|oSi h45▸⟨⟨E,E,E,E,E,tV⟩,[],E,.inl E⟩
   refine gA 1 E<|jC E h33 (fun h46=>?_) fun h49=>gA 8 E ?_
   ·refine gA 9 E<|bK h46 fun v47 hv47 h48=>?_
    cases h48
    obtain rfl:=hout12 _ rfl
    cases h7
    exact gA 4 E<|oSi hv47▸gP E E
   cases h49
   exact⟨_,E,⟨⟨E,E,E,Kbw E (Kbv (nLl hlt hb9)),tV⟩,[_],E,.inr ⟨HB.mk E,FB.mk E,Z⟩⟩⟩
  subst hgo
  exact gA 6 E<|Kco E (dF (Int.lt_irrefl _))<|gA 4 E<|⟨_,E,⟨tV,[],E,.inl E⟩⟩
 intro a8 ha
 subst ha
 replace h7:=Kgk h7
 exact gA 7 E<|oSi h7▸gP E E
theorem Lgn{k:Nat}{a:Kzo}{r:List Int}(h:Lbv k a=some r):EC Tryz.prog 183 [.agg [B a.Six,U a.Hi,U a.Lo]] [] fun g hp'=>g=.sl 0 r.length∧hp'=[rO 3 1 (eN .i64) r]:=by
 unfold Lbv at h
 refine QM Tryz.func183 E Z<|gA 2 E<|Kmq E E E E Z<|bK h fun y1 hy1 h2=>gO 6 E<|Kdq C (Let hy1) E Z E E E E E<|Kmp hΓ E E E Z<|Kmu hΓ E E E E E E E E Z<|Kdz [.box 39 [B a.Six,U a.Hi,U a.Lo],.box 198 [I y1.1,I y1.2.1,I y1.2.2.1,I y1.2.2.2.1,I y1.2.2.2.2.1,I y1.2.2.2.2.2.1,I y1.2.2.2.2.2.2.1,I y1.2.2.2.2.2.2.2.1,I y1.2.2.2.2.2.2.2.2]] E<|gO 4 E<|Kdn (t:=0) 3 1 E Z<|gO 8 E<|bK h2 fun q6 hq6 h7=>Kgq [(4,.sl 2 q6.length)] [.box 39 [B a.Six,U a.Hi,U a.Lo],.box 198 [I y1.1,I y1.2.1,I y1.2.2.1,I y1.2.2.2.1,I y1.2.2.2.2.1,I y1.2.2.2.2.2.1,I y1.2.2.2.2.2.2.1,I y1.2.2.2.2.2.2.2.1,I y1.2.2.2.2.2.2.2.2],rO 3 1 (eN .i64) q6] ?_ ?_
 ·refine gA 1 E<|Kcz hq6 (fun s4=>[(3,.ptr 1 0),(4,.sl 2 s4.1.length),(5,I s4.2)]) (fun s4=>[.box 39 [B a.Six,U a.Hi,U a.Lo],.box 198 [I y1.1,I y1.2.1,I y1.2.2.1,I y1.2.2.2.1,I y1.2.2.2.2.1,I y1.2.2.2.2.2.1,I y1.2.2.2.2.2.2.1,I y1.2.2.2.2.2.2.2.1,I y1.2.2.2.2.2.2.2.2],rO 3 1 (eN .i64) s4.1]) ⟨⟨E,E,E,tV⟩,[],E,.inl E⟩ (fun s4 y12 hy10 hout11=>?_)
  refine gA 7 E<|jC E hy10 (fun h13=>?_) fun h18=>gA 4 E ?_
  ·exact bK h13 fun x14 hx14 h15=>gA 7 E<|eo_o E (Kiu hΓ hx14 E E E E E E)<|eo_o E (Kiv hΓ (f:=fun z=>.d (.v (.int .i64 z))) hx14 E E E E E E)<|Kdk hΓ (enc:=(eN .i64)) [x14] E E E E E E E E E E E E Z<|bK h15 fun y16 hy16 h17=>Kea hΓ (enc:=(eN .i64)) hy16 E E E E E E E E E (fun _=>E) E E E E<|gO 9 E<|oSi h17▸⟨_,E,⟨⟨E,E,E,tV⟩,[],E,.inl E⟩⟩
  cases h18
  obtain rfl:=hout11 _ rfl
  exact⟨⟨E,tV⟩,[],E,.inl E⟩
 exact gA 8 E<|Kii 0 [.dead,.box 198 [I y1.1,I y1.2.1,I y1.2.2.1,I y1.2.2.2.1,I y1.2.2.2.2.1,I y1.2.2.2.2.2.1,I y1.2.2.2.2.2.2.1,I y1.2.2.2.2.2.2.2.1,I y1.2.2.2.2.2.2.2.2],rO 3 1 (eN .i64) q6] E Z<|Kgo 2 0 [rO 3 1 (eN .i64) q6,.box 198 [I y1.1,I y1.2.1,I y1.2.2.1,I y1.2.2.2.1,I y1.2.2.2.2.1,I y1.2.2.2.2.2.1,I y1.2.2.2.2.2.2.1,I y1.2.2.2.2.2.2.2.1,I y1.2.2.2.2.2.2.2.2],.dead] E E E E E E<|Kgm<|oSi h7▸Keg hΓ [_,_] (.inr E) E E E E (.inr ⟨HB.mk E,E⟩)
theorem Lgo{s:Str}{r:Bool}(h:Lbw s=some r):Pure Tryz.prog 186 [S s] (B r):=by
 unfold Lbw at h
 exact QP Tryz.func186 E E E<|gA 13 E<|oSi h▸gP E E
theorem Lgp{s:List Str}{r:Int}(h:Lbx s=some r):Pure Tryz.prog 254 [.d (Sl eS s),.fn (.func 186) [] []] (I r):=by
 unfold Lbx at h
 refine QP Tryz.func254 E E E<|gA 13 E<|bK h fun q4 hq4 h5=>Kdc 0 E fun hb7=>Kgp (R:=fun a6=>q4=.go a6) (fun a6=>[]) (fun a6=>[]) ?_ ?_
 ·refine gA 1 E<|Kdb s hq4 (fun i1 s2=>[(0,.d (Sl eS s)),(1,.fn (.func 186) [] []),(7,I (s.length:Int)),(8,I (i1:Int))]) (fun s2=>[]) ⟨⟨E,E,E,E,tV⟩,[],E,.inl E⟩ (fun i1 x3 s2 y11 hx8 hlt hy9 hout10=>?_) (fun s2 hgo=>?_)
  ·refine gA 6 E<|Kcn E (dT (Int.ofNat_lt.2 hlt))<|gA 15 E<|eo_o E (Kdd hΓ (enc:=eS) (Kcw hx8) E E E E E (fun _=>E))<|bK hy9 fun y12 hy12 h13=>gO 1 E<|Kdq C (Lgo hy12) E Z E E E E E<|gO 2 E<|jC E h13 (fun h14=>?_) fun h17=>gA 7 E ?_
   ·refine gA 9 E<|bK h14 fun v15 hv15 h16=>?_
    cases h16
    obtain rfl:=hout10 _ rfl
    cases h5
    exact gA 4 E<|oSi hv15▸gP E E
   cases h17
   exact⟨_,E,⟨⟨E,E,E,Kbw E (Kbv (nLl hlt hb7)),tV⟩,[],E,.inl E⟩⟩
  subst hgo
  exact gA 6 E<|Kco E (dF (Int.lt_irrefl _))<|gA 4 E<|⟨_,E,⟨tV,[],E,.inl E⟩⟩
 intro a6 ha
 subst ha
 replace h5:=Kgk h5
 exact gA 7 E<|oSi h5▸gP E E
theorem Lgq{s:List Str}{r:Bool}(h:Lby s=some r):Pure Tryz.prog 185 [.d (Sl eS s),.fn (.func 186) [] []] (B r):=by
 unfold Lby at h
 exact QP Tryz.func185 E E E<|bK h fun y1 hy1 h2=>gA 9 E<|Kdq C (Lgp hy1) E Z E E E E E<|gO 5 E<|oSi h2▸gP E E
theorem Lgr{k:Nat}{a:Kzo}{r:Str}(h:Lbz k a=some r):Pure Tryz.prog 92 [.agg [B a.Six,U a.Hi,U a.Lo]] (S r):=by
 unfold Lbz at h
 refine QP Tryz.func92 E E E<|gA 2 E<|Kmq E E E E Z<|gO 11 E<|jC E h (fun h1=>?_) fun h21=>gA 4 E<|Kdn (t:=0) 9 1 E Z<|bK h21 fun y22 hy22 h23=>gO 6 E<|Kdq C (Pure.rows (Lgn hy22) E E) E Z E E E E E<|gO 4 E<|bK h23 fun q27 hq27 h28=>Kdc 44 E fun hb30=>Kgq [(7,.sl 1 q27.length)] [.box 39 [B a.Six,U a.Hi,U a.Lo],rO 9 1 eS q27] ?_ ?_
 ·refine bK h1 fun y2 hy2 h3=>gA 3 E<|Kdq C (Let hy2) E Z E E E E E<|Kmp hΓ E E E Z<|Kmu hΓ E E E E E E E E Z<|Kdz [.box 39 [B a.Six,U a.Hi,U a.Lo],.box 198 [I y2.1,I y2.2.1,I y2.2.2.1,I y2.2.2.2.1,I y2.2.2.2.2.1,I y2.2.2.2.2.2.1,I y2.2.2.2.2.2.2.1,I y2.2.2.2.2.2.2.2.1,I y2.2.2.2.2.2.2.2.2]] E<|gO 4 E<|Kdn (t:=0) 9 1 E Z<|gO 5 E<|eo_o E (Kiu hΓ (l:=List.replicate 9 ()) (z:=()) E E E E E E E)<|gO 2 E<|eo_o E (Kiu hΓ (l:=List.replicate 9 ()) (z:=()) E E E E E E E)<|gO 2 E<|eo_o E (Kiu hΓ (l:=List.replicate 9 ()) (z:=()) E E E E E E E)<|gO 2 E<|eo_o E (Kiu hΓ (l:=List.replicate 9 ()) (z:=()) E E E E E E E)<|gO 2 E<|Kdk hΓ (enc:=(eN .i64)) [shrV .i64 y2.2.1 8,bitsV .and .i64 y2.2.1 255,shrV .i64 y2.1 8,bitsV .and .i64 y2.1 255] E E E E E E E E E E E E Z<|gO 4 E<|bK h3 fun q7 hq7 h8=>Kdc 29 E fun hb10=>Kgq [(4,.sl 2 q7.length)] [.box 39 [B a.Six,U a.Hi,U a.Lo],.box 198 [I y2.1,I y2.2.1,I y2.2.2.1,I y2.2.2.2.1,I y2.2.2.2.2.1,I y2.2.2.2.2.2.1,I y2.2.2.2.2.2.2.1,I y2.2.2.2.2.2.2.2.1,I y2.2.2.2.2.2.2.2.2],rO 9 1 eS q7] ?_ ?_
  ·refine gA 1 E<|Kei [shrV .i64 y2.2.1 8,bitsV .and .i64 y2.2.1 255,shrV .i64 y2.1 8,bitsV .and .i64 y2.1 255] hq7 (fun i4 s5=>[(4,.sl 2 s5.length),(29,.d (Sl (eN .i64) [shrV .i64 y2.2.1 8,bitsV .and .i64 y2.2.1 255,shrV .i64 y2.1 8,bitsV .and .i64 y2.1 255])),(30,I ([shrV .i64 y2.2.1 8,bitsV .and .i64 y2.2.1 255,shrV .i64 y2.1 8,bitsV .and .i64 y2.1 255].length:Int)),(31,I (i4:Int))]) (fun s5=>[.box 39 [B a.Six,U a.Hi,U a.Lo],.box 198 [I y2.1,I y2.2.1,I y2.2.2.1,I y2.2.2.2.1,I y2.2.2.2.2.1,I y2.2.2.2.2.2.1,I y2.2.2.2.2.2.2.1,I y2.2.2.2.2.2.2.2.1,I y2.2.2.2.2.2.2.2.2],rO 9 1 eS s5]) ⟨⟨E,E,E,E,tV⟩,[],E,.inl E⟩ (fun i4 x6 s5 y14 hx11 hlt hy12=>?_) (?_)
   ·refine gA 6 E<|Kcn E (dT (Int.ofNat_lt.2 hlt))<|gA 6 E<|eo_o E (Kdd hΓ (enc:=(eN .i64)) (Kcw hx11) E E E E E (fun _=>E))<|bK hy12 fun y15 hy15 h16=>gO 7 E<|Kdq C (Kuw hy15) E Z E E E E E<|Kdk hΓ (enc:=eS) [y15] E E E E E E E E E E E E Z<|bK h16 fun y17 hy17 h18=>Kea hΓ (enc:=eS) hy17 E E E E E E E E E (fun _=>E) E E E E<|gO 8 E ?_
    cases h18
    exact⟨⟨E,E,E,Kbw E (Kbv (nLl hlt hb10)),tV⟩,[],E,.inl E⟩
   exact gA 6 E<|Kco E (dF (Int.lt_irrefl _))<|gA 4 E<|⟨⟨E,tV⟩,[],E,.inl E⟩
  exact gA 2 E<|Kdy 2 [4] _ [.box 39 [B a.Six,U a.Hi,U a.Lo],.box 198 [I y2.1,I y2.2.1,I y2.2.2.1,I y2.2.2.2.1,I y2.2.2.2.2.1,I y2.2.2.2.2.2.1,I y2.2.2.2.2.2.2.1,I y2.2.2.2.2.2.2.2.1,I y2.2.2.2.2.2.2.2.2],.dead] E E E Z<|bK h8 fun y19 hy19 h20=>gA 2 E<|Kdq C (Kvg hy19) E Z E E E E E<|gO 5 E<|oSi h20▸gP E E
 ·refine gA 1 E<|Kei y22 hq27 (fun i24 s25=>[(7,.sl 1 s25.length),(44,.d (Sl (eN .i64) y22)),(45,I (y22.length:Int)),(46,I (i24:Int))]) (fun s25=>[.box 39 [B a.Six,U a.Hi,U a.Lo],rO 9 1 eS s25]) ⟨⟨E,E,E,E,tV⟩,[],E,.inl E⟩ (fun i24 x26 s25 y34 hx31 hlt hy32=>?_) (?_)
  ·refine gA 6 E<|Kcn E (dT (Int.ofNat_lt.2 hlt))<|gA 6 E<|eo_o E (Kdd hΓ (enc:=(eN .i64)) (Kcw hx31) E E E E E (fun _=>E))<|bK hy32 fun y35 hy35 h36=>gO 7 E<|Kdq C (Kux hy35) E Z E E E E E<|Kdk hΓ (enc:=eS) [y35] E E E E E E E E E E E E Z<|bK h36 fun y37 hy37 h38=>Kea hΓ (enc:=eS) hy37 E E E E E E E E E (fun _=>E) E E E E<|gO 8 E ?_
   cases h38
   exact⟨⟨E,E,E,Kbw E (Kbv (nLl hlt hb30)),tV⟩,[],E,.inl E⟩
  exact gA 6 E<|Kco E (dF (Int.lt_irrefl _))<|gA 4 E<|⟨⟨E,tV⟩,[],E,.inl E⟩
 refine gA 3 E<|Kdy 1 [7] _ [.box 39 [B a.Six,U a.Hi,U a.Lo],.dead] E E E Z<|gA 4 E<|bK h28 fun q42 hq42 h43=>Kgp (R:=fun a44=>q42=.inl a44) (fun a44=>[(7,.d (Sl eS q27))]) (fun a44=>[.box 39 [B a.Six,U a.Hi,U a.Lo],.dead]) ?_ ?_
 ·refine gA 1 E<|Kcz hq42 (fun s40=>[(7,.d (Sl eS q27)),(10,I s40)]) (fun s40=>[.box 39 [B a.Six,U a.Hi,U a.Lo],.dead]) ⟨⟨E,E,tV⟩,[],E,.inl E⟩ (fun s40 y48 hy46 hout47=>?_)
  refine gA 7 E<|jC E hy46 (fun h49=>?_) fun h84=>gA 4 E ?_
  ·refine gA 9 E<|bK h49 fun q53 hq53 h54=>Kgp (R:=fun a55=>q53=.inl a55) (fun a55=>[(7,.d (Sl eS q27)),(10,I s40)]) (fun a55=>[.box 39 [B a.Six,U a.Hi,U a.Lo],.dead]) ?_ ?_
   ·refine gA 1 E<|Kcz hq53 (fun s51=>[(7,.d (Sl eS q27)),(10,I s40),(11,I s51)]) (fun s51=>[.box 39 [B a.Six,U a.Hi,U a.Lo],.dead]) ⟨⟨E,E,E,tV⟩,[],E,.inl E⟩ (fun s51 y59 hy57 hout58=>?_)
    refine gA 9 E<|jC E hy57 (fun h60=>?_) fun h83=>gA 4 E ?_
    ·refine bK h60 fun z61 hz61 h62=>gA 11 E<|eo_o E (Kdj hΓ (enc:=eS) hz61 E E E E E E (fun _=>E))<|bK h62 fun y63 hy63 h64=>Kdq C (Lgq hy63) E Z E E E E E<|gO 3 E<|jC E h64 (fun h65=>?_) fun h82=>gA 8 E<|oSi h82▸⟨_,E,⟨⟨E,E,E,tV⟩,[],E,.inl E⟩⟩
     refine gA 1 E<|jD<|bK h65 fun z66 hz66 h67=>gA 2 E<|gl_o E (Kdj hΓ (enc:=eS) hz66 E E E E E E (fun _=>E))<|bK h67 fun y68 hy68 h69=>Kdr C (Kvg hy68) E E E E E E<|bK h69 fun y70 hy70 h71=>gl_o E (Kec hy70 E E)<|bK h71 fun z72 hz72 h73=>Kck hΓ 4 E<|gl_o E (Kdj hΓ (enc:=eS) hz72 E E E E E E (fun _=>E))<|bK h73 fun y74 hy74 h75=>Kdr C (Kvg hy74) E E E E E E<|bK h75 fun y76 hy76 h77=>gl_o E (Kec hy76 E E)<|Kck hΓ 6 E<|bK h77 fun v78 hv78 h79=>?_
     cases h79
     obtain rfl:=hout58 _ rfl
     cases h54
     refine gA 5 E<|bK hv78 fun v80 hv80 h81=>?_
     cases h81
     obtain rfl:=hout47 _ rfl
     cases h43
     exact gA 4 E<|oSi hv80▸gP E E
    cases h83
    obtain rfl:=hout58 _ rfl
    exact⟨_,E,⟨⟨E,E,tV⟩,[],E,.inl E⟩⟩
   intro a55 ha
   subst ha
   replace h54:=Kgj h54
   exact gA 7 E<|oSi h54▸⟨_,E,⟨⟨E,E,tV⟩,[],E,.inl E⟩⟩
  cases h84
  obtain rfl:=hout47 _ rfl
  exact⟨_,E,⟨⟨E,tV⟩,[],E,.inl E⟩⟩
 intro a44 ha
 subst ha
 replace h43:=Kgj h43
 exact bK h43 fun y85 hy85 h86=>gA 4 E<|Kdq C (Kvg hy85) E Z E E E E E<|gO 4 E<|oSi h86▸gP E E
theorem Lgs{k:Nat}{p:Kzp}{r:Str}(h:Lca k p=some r):Pure Tryz.prog 65 [.agg [B p.Addr.Six,U p.Addr.Hi,U p.Addr.Lo,I p.Bits]] (S r):=by
 unfold Lca at h
 exact QP Tryz.func65 E E E<|gA 2 E<|Kmq E E E E Z<|gO 4 E<|jD<|bK h fun y1 hy1 h2=>gA 2 E<|Kdr C (Lgr hy1) E E E E E E<|bK h2 fun y3 hy3 h4=>gl_o E (Kec hy3 E E)<|bK h4 fun y5 hy5 h6=>Kck hΓ 2 E<|Kdr C (Kuw hy5) E E E E E E<|bK h6 fun y7 hy7 h8=>gl_o E (Kec hy7 E E)<|Kck hΓ 4 E<|oSi h8▸gP E E
theorem Lgt{k:Nat}{l:List Kzq}{r:Str}(h:Lcb k l=some r):Pure Tryz.prog 10 [.d (Sl Lej l)] (S r):=by
 unfold Lcb at h
 refine QP Tryz.func10 E E E<|gA 7 E<|eo_s Z (nblt.1 E) (Kir hΓ [1] [.d (.v (.pointer none)),.d (.v (.slice none 0 0))] (hi:=show Γ 90=some ⟨_,_,_,_⟩ from E) E ⟨.refl _,.refl _,tV⟩)<|Kdz [.box 90 [.d (.v (.pointer none)),.d (.v (.slice none 0 0))]] E<|gO 2 E<|Kjt 0 0 [.box 90 [.pn 0,.d (.v (.slice none 0 0))]] E E E<|Kjb 0 1 5 1 [.box 90 [.pn 0,.sl 1 ([]:Str).length],rO 5 1 eU ([]:Str)] E E E Z<|gA 8 E<|bK h fun q4 hq4 h5=>Kdc 6 E fun hb7=>Kgq [(3,.ptr 0 0)] [.box 90 [.pn 0,.sl 1 q4.length],rO 5 1 eU q4] ?_ ?_
 ·refine gA 1 E<|Kei l hq4 (fun i1 s2=>[(3,.ptr 0 0),(6,.d (Sl Lej l)),(7,I (l.length:Int)),(8,I (i1:Int))]) (fun s2=>[.box 90 [.pn 0,.sl 1 s2.length],rO 5 1 eU s2]) ⟨⟨E,E,E,E,tV⟩,[],E,.inl E⟩ (fun i1 x3 s2 y11 hx8 hlt hy9=>?_) (?_)
  ·refine gA 6 E<|Kcn E (dT (Int.ofNat_lt.2 hlt))<|gA 6 E<|eo_o E (Kdd hΓ (enc:=Lej) (Kcw hx8) E E E E E (fun _=>E))<|gO 1 E<|Kmp hΓ E E E Z<|Kmu hΓ E E E E E E E E Z<|Kdz [.box 90 [.pn 0,.sl 1 s2.length],rO 5 1 eU s2,.box 43 [B x3.Prefix.Addr.Six,U x3.Prefix.Addr.Hi,U x3.Prefix.Addr.Lo,I x3.Prefix.Bits,S x3.Node,I x3.Weight]] E<|gO 2 E<|Kfr [.dead,.dead,.box 43 [B x3.Prefix.Addr.Six,U x3.Prefix.Addr.Hi,U x3.Prefix.Addr.Lo,I x3.Prefix.Bits,S x3.Node,I x3.Weight]] [1,5,9] [13] [] hmix (by kernel_rfl) (by kernel_rfl) ⟨E,tV⟩ Z<|bK hy9 fun y12 hy12 h13=>go_E hΓ 2 E<|Kgf C (Lgs hy12) E E E E E E<|bK h13 fun y14 hy14 h15=>ge_q E (.inl E) (fun _ _=>Kft (qt_p (Kec hy14 E E)))<|bK h15 fun y16 hy16 h17=>go_E hΓ 2 E<|ge_q E (.inl E) (fun _ _=>Kft (qt_p (Kec hy16 E E)))<|bK h17 fun y18 hy18 h19=>ge_q E (.inl E) (fun _ _=>Kft (qt_p (Kec hy18 E E)))<|bK h19 fun y20 hy20 h21=>go_E hΓ 2 E<|Kgf C (Kuw hy20) E E E E E E<|bK h21 fun y22 hy22 h23=>ge_q E (.inl E) (fun _ _=>Kft (qt_p (Kec hy22 E E)))<|bK h23 fun y24 hy24 h25=>ge_q E (.inl E) (fun _ _=>Kft (qt_p (Kec hy24 E E)))<|bK h25 fun y26 hy26 h27=>ge_h [.box 90 [.pn 0,.sl 3 y26.2.length],.dead,.box 43 [B x3.Prefix.Addr.Six,U x3.Prefix.Addr.Hi,U x3.Prefix.Addr.Lo,I x3.Prefix.Bits,S x3.Node,I x3.Weight],rO 5 1 eU y26.2] E E E (Kfz ⟨E,tV⟩) (Kge [1,0] (.tup [I y26.1,.d (.v .nilIface)]) [.box 90 [.pn 0,.sl 3 y26.2.length],.dead,.box 43 [B x3.Prefix.Addr.Six,U x3.Prefix.Addr.Hi,U x3.Prefix.Addr.Lo,I x3.Prefix.Bits,S x3.Node,I x3.Weight],rO 5 1 eU y26.2] C (Lfz hy26) E E E E E E E E E E)<|Kfs<|gA 2 E<|Kfl 3 1 [.box 90 [.pn 0,.sl 1 y26.2.length],rO 5 1 eU y26.2,.box 43 [B x3.Prefix.Addr.Six,U x3.Prefix.Addr.Hi,U x3.Prefix.Addr.Lo,I x3.Prefix.Bits,S x3.Node,I x3.Weight],.dead] E E E E E E<|gA 4 E ?_
   cases h27
   exact⟨⟨E,E,E,Kbw E (Kbv (nLl hlt hb7)),tV⟩,[_,_],E,.inr ⟨HB.mk E,FB.mk E,Z⟩⟩
  exact gA 6 E<|Kco E (dF (Int.lt_irrefl _))<|gA 4 E<|⟨⟨E,tV⟩,[],E,.inl E⟩
 exact bK h5 fun y28 hy28 h29=>gA 3 E<|Kdp [1,0] (S y28) [.dead,.dead] C (Kab hy28) E Z E E E E E E E E E E<|gO 4 E<|oSi h29▸gP E E
theorem Lgu{s:Kzn}{t:Str}{v_with:Str}{r:Str×Kzn}(h:Lcc s t v_with=some r):EC Tryz.prog 66 [.ptr 0 0,S t,S v_with] [.box 25 (fQ s)] fun g hp'=>g=S r.1∧hp'=[.box 25 (fQ r.2)]:=by
 unfold Lcc at h
 refine QN Tryz.func66 E Z<|gA 11 E<|Kcs 3 [(0,.ptr 0 0),(1,S t),(2,S v_with),(14,B (((t:Str)==[])||((v_with:Str)==[])))] [.box 25 (fQ s)] ?_ ?_
 ·refine Klj E E (fun hb=>?_) (fun hb=>?_)
  ·exact gO 4 E<|⟨⟨E,E,E,Kbx E (or_t hb),tV⟩,[],E,.inl E⟩
  exact gO 4 E<|⟨⟨E,E,E,Kbx E (or_f hb),tV⟩,[],E,.inl E⟩
 refine gO 2 E<|jC E h (fun h1=>?_) fun h2=>bK h2 fun y3 hy3 h4=>gA 7 E<|Kdp [0] (I y3.1) [.box 25 (fQ y3.2)] C (Leo hy3) E Z E E E E E E E E E E<|bK h4 fun y5 hy5 h6=>gO 9 E<|Kdp [0] (I y5.1) [.box 25 (fQ y5.2)] C (Leo hy5) E Z E E E E E E E E E E<|bK h6 fun c7 hc7 h8=>eo_o E (Kde hΓ hc7 E E E E)<|bK h8 fun y9 hy9 h10=>gO 7 E<|Kdp [0] (I y9.1) [.box 25 (fQ y9.2)] C (Leo hy9) E Z E E E E E E E E E E<|gO 9 E<|jC E h10 (fun h11=>?_) fun h20=>?_
 ·exact gA 8 E<|oSi h1▸Keg hΓ [] (.inr E) E E E E (.inl E)
 ·exact gA 1 E<|jD<|bK h11 fun z12 hz12 h13=>gA 2 E<|gl_o E (Kdf hΓ hz12 E E E E E)<|Kck hΓ 2 E<|gl_o E (Khs hΓ E E E E E)<|bK h13 fun y14 hy14 h15=>gl_o E (Kec hy14 E E)<|bK h15 fun z16 hz16 h17=>Kck hΓ 3 E<|gl_o E (Kdf hΓ hz16 E E E E E)<|bK h17 fun y18 hy18 h19=>gl_o E (Kec hy18 E E)<|Kck hΓ 6 E<|oSi h19▸Keg hΓ [] (.inr E) E E E E (.inl E)
 refine gA 6 E<|jC E h20 (fun h21=>?_) fun h30=>gA 4 E<|jD<|bK h30 fun z31 hz31 h32=>gA 2 E<|gl_o E (Kdf hΓ hz31 E E E E E)<|bK h32 fun z33 hz33 h34=>Kck hΓ 3 E<|gl_o E (Kdf hΓ hz33 E E E E E)<|bK h34 fun y35 hy35 h36=>gl_o E (Kec hy35 E E)<|Kck hΓ 4 E<|oSi h36▸Keg hΓ [] (.inr E) E E E E (.inl E)
 exact gA 1 E<|jD<|bK h21 fun z22 hz22 h23=>gA 2 E<|gl_o E (Kdf hΓ hz22 E E E E E)<|Kck hΓ 2 E<|gl_o E (Khs hΓ E E E E E)<|bK h23 fun y24 hy24 h25=>gl_o E (Kec hy24 E E)<|bK h25 fun z26 hz26 h27=>Kck hΓ 2 E<|gl_o E (Kdf hΓ hz26 E E E E E)<|bK h27 fun y28 hy28 h29=>gl_o E (Kec hy28 E E)<|Kck hΓ 6 E<|oSi h29▸Keg hΓ [] (.inr E) E E E E (.inl E)
theorem Lgv{k:Nat}{s:Kzn}{r:Str×Kzn}(h:Lcd k s=some r):EC Tryz.prog 11 [.ptr 0 0] [.box 25 (fQ s)] fun g hp'=>g=S r.1∧hp'=[.box 25 (fQ r.2)]:=by
 unfold Lcd at h
 refine QN Tryz.func11 E Z<|bK h fun y1 hy1 h2=>gA 8 E<|Kdp [0] (.sl 1 y1.1.length) [.box 25 (fQ y1.2),rO 43 6 Lej y1.1] C (Lfd hy1) E Z E E E E E E E E E E<|Kdw 1 [6] _ [.box 25 (fQ y1.2),.dead] E E E Z<|bK h2 fun y3 hy3 h4=>gO 12 E<|Kdq C (Lgm hy3) E Z E E E E E<|bK h4 fun q5 hq5 h6=>gO 3 E<|Kgq [(0,.ptr 0 0),(4,S q5)] [.box 25 (fQ y1.2),.dead] ?_ ?_
 ·refine jC E hq5 (fun h7=>?_) fun h10=>gA 1 E<|oSi h10▸⟨⟨E,E,tV⟩,[],E,.inl E⟩
  exact bK h7 fun y8 hy8 h9=>gA 2 E<|Kdq C (Lgt hy8) E Z E E E E E<|gO 2 E<|oSi h9▸⟨⟨E,E,tV⟩,[],E,.inl E⟩
 refine gA 5 E<|Kdk hΓ (enc:=(eN .i64)) [0,0,1,2] E E E E E E E E E E E E Z<|bK h6 fun y11 hy11 h12=>Kdp [0] (I y11.1) [.box 25 (fQ y11.2),.dead] C (Leq hy11) E Z E E E E E E E E E E<|gO 3 E<|bK h12 fun q16 hq16 h17=>gK hq16 fun hb19 h20=>?_
 replace hb19:=of_decide_eq_true hb19
 refine Kgq [(4,S q16.2)] [.box 25 (fQ q16.1),.dead] ?_ ?_
 ·refine gA 1 E<|Kej h20 (fun i13 s14=>[(0,.ptr 0 0),(4,S s14.2),(14,I y11.1),(15,I (i13:Int))]) (fun s14=>[.box 25 (fQ s14.1),.dead]) ⟨⟨E,E,E,E,tV⟩,[],E,.inl E⟩ (fun i13 s14 y24 hlt hy22=>?_) (fun hge=>?_)
  ·exact gA 6 E<|Kcn E (dT hlt)<|bK hy22 fun y25 hy25 h26=>gA 7 E<|Kdp [0] (S y25.1) [.box 25 (fQ y25.2),.dead] C (Lgu hy25) E Z E E E E E E E E E E<|gO 8 E<|oSi h26▸⟨⟨E,E,E,Kbw E (Kbv (by omega)),tV⟩,[],E,.inl E⟩
  exact gA 6 E<|Kco E (dF hge)<|gA 4 E<|⟨⟨E,tV⟩,[],E,.inl E⟩
 exact gA 8 E<|oSi h17▸Keg hΓ [_] (.inr E) E E E E (.inr ⟨HB.mk E,E⟩)
theorem Lgw{s:Str}{r:(List Str)×Bool}(h:Lce s=some r):Pure Tryz.prog 67 [S s] (.tup [.d (Sl eS r.1),B r.2]):=by
 unfold Lce at h
 refine QP Tryz.func67 E E E<|bK h fun y1 hy1 h2=>gA 9 E<|Kdq C (Pure.rows (Kur hy1) E E) E Z E E E E E<|bK h2 fun x3 hx3 h4=>gO 16 E<|eo_o E (Kdd hΓ (enc:=eS) hx3 E E E E E (fun _=>E))<|gO 4 E<|jC E h4 (fun h5=>?_) fun h8=>gA 10 E<|oSi h8▸gP E E
 exact bK h5 fun z6 hz6 h7=>gA 4 E<|eo_o E (Kdj hΓ (enc:=eS) hz6 E E E E E E (fun _=>E))<|gO 6 E<|oSi h7▸gP E E
theorem Lgx{s:List Str}{v:Str}{r:Int}(h:Lcf s v=some r):Pure Tryz.prog 191 [.d (Sl eS s),S v] (I r):=by
 unfold Lcf at h
 refine QP Tryz.func191 E E E<|gA 13 E<|bK h fun q4 hq4 h5=>Kdc 0 E fun hb7=>Kgp (R:=fun a6=>q4=.go a6) (fun a6=>[]) (fun a6=>[]) ?_ ?_
 ·refine gA 1 E<|Kdb s hq4 (fun i1 s2=>[(0,.d (Sl eS s)),(1,S v),(7,I (s.length:Int)),(8,I (i1:Int))]) (fun s2=>[]) ⟨⟨E,E,E,E,tV⟩,[],E,.inl E⟩ (fun i1 x3 s2 y11 hx8 hlt hy9 hout10=>?_) (fun s2 hgo=>?_)
  ·refine gA 6 E<|Kcn E (dT (Int.ofNat_lt.2 hlt))<|gA 15 E<|eo_o E (Kdd hΓ (enc:=eS) (Kcw hx8) E E E E E (fun _=>E))<|gO 4 E<|jC E hy9 (fun h12=>?_) fun h15=>gA 7 E ?_
   ·refine gA 9 E<|bK h12 fun v13 hv13 h14=>?_
    cases h14
    obtain rfl:=hout10 _ rfl
    cases h5
    exact gA 4 E<|oSi hv13▸gP E E
   cases h15
   exact⟨_,E,⟨⟨E,E,E,Kbw E (Kbv (nLl hlt hb7)),tV⟩,[],E,.inl E⟩⟩
  subst hgo
  exact gA 6 E<|Kco E (dF (Int.lt_irrefl _))<|gA 4 E<|⟨_,E,⟨tV,[],E,.inl E⟩⟩
 intro a6 ha
 subst ha
 replace h5:=Kgk h5
 exact gA 7 E<|oSi h5▸gP E E
theorem Lgy{s:List Str}{v:Str}{r:Bool}(h:Lcg s v=some r):Pure Tryz.prog 166 [.d (Sl eS s),S v] (B r):=by
 unfold Lcg at h
 exact QP Tryz.func166 E E E<|bK h fun y1 hy1 h2=>gA 9 E<|Kdq C (Lgx hy1) E Z E E E E E<|gO 5 E<|oSi h2▸gP E E
theorem Lgz{s:Str}{r:(List Str)×Bool}(h:Lch s=some r):Pure Tryz.prog 97 [S s] (.tup [.d (Sl eS r.1),B r.2]):=by
 unfold Lch at h
 exact QP Tryz.func97 E E E<|bK h fun y1 hy1 h2=>gA 9 E<|Kdq C (Pure.rows (Kur hy1) E E) E Z E E E E E<|bK h2 fun y3 hy3 h4=>gO 7 E<|Kdq C (Lgy hy3) E Z E E E E E<|gO 6 E<|oSi h4▸gP E E
theorem Lha{k:Nat}{s:Str}{most:Int}{r:Int×Bool}(h:Lci k s most=some r):Pure Tryz.prog 238 [S s,I most] (.tup [I r.1,B r.2]):=by
 unfold Lci at h
 refine QP Tryz.func238 E E E<|bK h fun y1 hy1 h2=>gA 9 E<|Kdq C (Kup hy1) E Z E E E E E<|gO 9 E<|Kcs 5 [(0,S s),(6,S y1),(19,B (((y1:Str)==[])||(decide (((y1.length:Int):Int)>most))))] [] ?_ ?_
 ·refine Klj E E (fun hb=>?_) (fun hb=>?_)
  ·exact gO 6 E<|⟨⟨E,E,Kbx E (or_t hb),tV⟩,[],E,.inl E⟩
  exact gO 6 E<|⟨⟨E,E,Kbx E (or_f hb),tV⟩,[],E,.inl E⟩
 refine gO 1 E<|bK h2 fun q3 hq3 h4=>Kcs 8 [(0,S s),(6,S y1),(28,B q3)] [] ?_ ?_
 ·refine Klj E E (fun hb=>?_) (fun hb=>?_)
  ·have h5:=cT hq3 hb
   exact gO 9 E<|oSi h5▸⟨⟨E,E,E,tV⟩,[],E,.inl E⟩
  have h6:=cF hq3 hb
  refine bK h6 fun c7 hc7 h8=>gO 1 E<|Klh E<|eo_o E (Kde hΓ hc7 E E E E)<|gO 2 E<|Kcs 3 [(0,S s),(6,S y1),(20,B false),(27,B ((((c7.toNat:Int):Int)==48)&&(!((s:Str)==[48]))))] [] ?_ ?_
  ·refine Klj E E (fun hb=>?_) (fun hb=>?_)
   ·exact gO 4 E<|⟨⟨E,E,E,Kbx E (Kek hb),tV⟩,[],E,.inl E⟩
   exact gO 4 E<|⟨⟨E,E,E,Kbx E (Kel hb),tV⟩,[],E,.inl E⟩
  exact gO 2 E<|oSi h8▸⟨⟨E,E,E,tV⟩,[],E,.inl E⟩
 refine gO 2 E<|jC E h4 (fun h9=>?_) fun h10=>gA 8 E<|bK h10 fun q14 hq14 h15=>Kgp (R:=fun a16=>q14=.inl a16) (fun a16=>[(0,S s)]) (fun a16=>[]) ?_ ?_
 ·exact gA 8 E<|oSi h9▸gP E E
 ·refine gA 1 E<|Kcz hq14 (fun s12=>[(0,S s),(6,S y1),(7,I s12)]) (fun s12=>[]) ⟨⟨E,E,E,tV⟩,[],E,.inl E⟩ (fun s12 y20 hy18 hout19=>?_)
  refine gA 9 E<|jC E hy18 (fun h21=>?_) fun h34=>gA 4 E ?_
  ·refine bK h21 fun c22 hc22 h23=>gA 8 E<|eo_o E (Kde hΓ hc22 E E E E)<|gO 2 E<|bK h23 fun q24 hq24 h25=>Kcs 5 [(0,S s),(6,S y1),(7,I s12),(44,B q24)] [] ?_ ?_
   ·refine Klj E E (fun hb=>?_) (fun hb=>?_)
    ·have h26:=cT hq24 hb
     exact gO 6 E<|oSi h26▸⟨⟨E,E,E,E,tV⟩,[],E,.inl E⟩
    have h27:=cF hq24 hb
    exact bK h27 fun c28 hc28 h29=>gO 2 E<|Klh E<|eo_o E (Kde hΓ hc28 E E E E)<|gO 3 E<|oSi h29▸⟨⟨E,E,E,E,tV⟩,[],E,.inl E⟩
   refine gO 2 E<|jC E h25 (fun h30=>?_) fun h33=>gA 8 E<|oSi h33▸⟨_,E,⟨⟨E,E,E,tV⟩,[],E,.inl E⟩⟩
   refine gA 9 E<|bK h30 fun v31 hv31 h32=>?_
   cases h32
   obtain rfl:=hout19 _ rfl
   cases h15
   exact gA 4 E<|oSi hv31▸gP E E
  cases h34
  obtain rfl:=hout19 _ rfl
  exact⟨_,E,⟨⟨E,tV⟩,[],E,.inl E⟩⟩
 intro a16 ha
 subst ha
 replace h15:=Kgj h15
 exact bK h15 fun y35 hy35 h36=>gA 4 E<|Kdq C (Kvj hy35) E Z E E E E E<|gO 8 E<|jD<|gA 2 E<|gl_o E (Kjh hΓ E E E E)<|Kck hΓ 5 E<|oSi h36▸gP E E
theorem Lhb{k:Nat}{s:Str}{r:Int×Bool}(h:Lcj k s=some r):Pure Tryz.prog 317 [S s] (.tup [U r.1,B r.2]):=by
 unfold Lcj at h
 refine QP Tryz.func317 E E E<|bK h fun y1 hy1 h2=>gA 9 E<|Kdq C (Pure.rows (Kur hy1) E E) E Z E E E E E<|gO 11 E<|Kcm E (fun hb=>?_) (fun hb=>?_)
 ·have h3:=cT h2 hb
  exact gA 8 E<|oSi h3▸gP E E
 have h4:=cF h2 hb
 refine gA 15 E<|bK h4 fun q8 hq8 h9=>Kdc 15 E fun hb11=>Kgp (R:=fun a10=>q8=.go a10) (fun a10=>[(5,U a10)]) (fun a10=>[]) ?_ ?_
 ·refine gA 1 E<|Kdb y1 hq8 (fun i5 s6=>[(5,U s6),(15,.d (Sl eS y1)),(16,I (y1.length:Int)),(17,I (i5:Int))]) (fun s6=>[]) ⟨⟨E,E,E,E,tV⟩,[],E,.inl E⟩ (fun i5 x7 s6 y15 hx12 hlt hy13 hout14=>?_) (fun s6 hgo=>?_)
  ·refine gA 6 E<|Kcn E (dT (Int.ofNat_lt.2 hlt))<|gA 6 E<|eo_o E (Kdd hΓ (enc:=eS) (Kcw hx12) E E E E E (fun _=>E))<|bK hy13 fun y16 hy16 h17=>gO 7 E<|Kdq C (Lha hy16) E Z E E E E E<|gO 13 E<|Kcs 3 [(5,U s6),(8,I y16.1),(15,.d (Sl eS y1)),(16,I (y1.length:Int)),(17,I (i5:Int)),(31,B ((!y16.2)||(decide ((y16.1:Int)<0))))] [] ?_ ?_
   ·refine Klj E E (fun hb=>?_) (fun hb=>?_)
    ·exact gO 4 E<|⟨⟨E,E,E,E,E,Kbx E (or_t hb),tV⟩,[],E,.inl E⟩
    exact gO 4 E<|⟨⟨E,E,E,E,E,Kbx E (or_f hb),tV⟩,[],E,.inl E⟩
   refine gO 1 E<|Kcs 3 [(5,U s6),(8,I y16.1),(15,.d (Sl eS y1)),(16,I (y1.length:Int)),(17,I (i5:Int)),(35,B (((!y16.2)||(decide ((y16.1:Int)<0)))||(decide ((y16.1:Int)>255))))] [] ?_ ?_
   ·refine Klj E E (fun hb=>?_) (fun hb=>?_)
    ·exact gO 4 E<|⟨⟨E,E,E,E,E,Kbx E (or_t hb),tV⟩,[],E,.inl E⟩
    exact gO 4 E<|⟨⟨E,E,E,E,E,Kbx E (or_f hb),tV⟩,[],E,.inl E⟩
   refine gO 2 E<|jC E h17 (fun h18=>?_) fun h21=>gA 16 E ?_
   ·refine gA 10 E<|bK h18 fun v19 hv19 h20=>?_
    cases h20
    obtain rfl:=hout14 _ rfl
    cases h9
    exact gA 4 E<|oSi hv19▸gP E E
   cases h21
   exact⟨_,E,⟨⟨E,E,E,Kbw E (Kbv (nLl hlt hb11)),tV⟩,[],E,.inl E⟩⟩
  subst hgo
  exact gA 6 E<|Kco E (dF (Int.lt_irrefl _))<|gA 4 E<|⟨_,E,⟨⟨E,tV⟩,[],E,.inl E⟩⟩
 intro a10 ha
 subst ha
 replace h9:=Kgk h9
 exact gA 9 E<|oSi h9▸gP E E
theorem Lhc{k:Nat}{s:Str}{last:Bool}{r:(List Int)×Bool}(h:Lck k s last=some r):Pure Tryz.prog 318 [S s,B last] (.tup [.d (Sl (eN .u64) r.1),B r.2]):=by
 unfold Lck at h
 refine QP Tryz.func318 E E E<|gA 13 E<|Kcm E (fun hb=>?_) (fun hb=>?_)
 ·have h1:=cT h hb
  exact gA 8 E<|oSi h1▸gP E E
 have h2:=cF h hb
 refine gA 4 E<|Kdn (t:=0) 37 1 E Z<|bK h2 fun y3 hy3 h4=>gO 5 E<|Kdq C (Pure.rows (Kur hy3) E E) E Z E E E E E<|gO 11 E<|bK h4 fun q8 hq8 h9=>Kdc 7 E fun hb11=>Kgp (R:=fun a10=>q8=.go a10) (fun a10=>[(6,.sl 0 a10.length)]) (fun a10=>[rO 37 1 (eN .u64) a10]) ?_ ?_
 ·refine gA 1 E<|Kdb y3 hq8 (fun i5 s6=>[(1,B last),(6,.sl 0 s6.length),(7,.d (Sl eS y3)),(18,.d (Sl eS y3)),(19,I (y3.length:Int)),(20,I (i5:Int))]) (fun s6=>[rO 37 1 (eN .u64) s6]) ⟨⟨E,E,E,E,E,E,tV⟩,[],E,.inl E⟩ (fun i5 x7 s6 y15 hx12 hlt hy13 hout14=>?_) (fun s6 hgo=>?_)
  ·refine gA 6 E<|Kcn E (dT (Int.ofNat_lt.2 hlt))<|gA 7 E<|eo_o E (Kdd hΓ (enc:=eS) (Kcw hx12) E E E E E (fun _=>E))<|gO 10 E<|Kcs 6 [(1,B last),(6,.sl 0 s6.length),(7,.d (Sl eS y3)),(9,S x7),(18,.d (Sl eS y3)),(19,I (y3.length:Int)),(20,I (i5:Int)),(32,B (last&&(((i5:Int):Int)==(wi ((y3.length:Int) - 1)))))] [rO 37 1 (eN .u64) s6] ?_ ?_
   ·refine Klj E E (fun hb=>?_) (fun hb=>?_)
    ·exact gO 7 E<|⟨⟨E,E,E,E,E,E,E,Kbx E (Kek hb),tV⟩,[],E,.inl E⟩
    exact gO 7 E<|⟨⟨E,E,E,E,E,E,E,Kbx E (Kel hb),tV⟩,[],E,.inl E⟩
   refine gO 1 E<|bK hy13 fun q16 hq16 h17=>Kcs 3 [(1,B last),(6,.sl 0 s6.length),(7,.d (Sl eS y3)),(9,S x7),(18,.d (Sl eS y3)),(19,I (y3.length:Int)),(20,I (i5:Int)),(36,B q16)] [rO 37 1 (eN .u64) s6] ?_ ?_
   ·refine Klj E E (fun hb=>?_) (fun hb=>?_)
    ·have h18:=cT hq16 hb
     exact bK h18 fun y19 hy19 h20=>gO 1 E<|Klh E<|Kdq C (Kuv hy19) E Z E E E E E<|gO 2 E<|oSi h20▸⟨⟨E,E,E,E,E,E,E,E,tV⟩,[],E,.inl E⟩
    have h21:=cF hq16 hb
    exact gO 4 E<|oSi h21▸⟨⟨E,E,E,E,E,E,E,E,tV⟩,[],E,.inl E⟩
   refine gO 2 E<|Kcm E (fun hb=>?_) (fun hb=>?_)
   ·have h22:=cT h17 hb
    refine bK h22 fun y23 hy23 h24=>gA 3 E<|Kdq C (Lhb hy23) E Z E E E E E<|gO 14 E<|Kdk hΓ (enc:=(eN .u64)) [shrV .u64 y23.1 16,bitsV .and .u64 y23.1 65535] E E E E E E E E E E E E Z<|bK h24 fun y25 hy25 h26=>Kea hΓ (enc:=(eN .u64)) hy25 E E E E E E E E E (fun _=>E) E E E E<|gO 2 E<|Kdw 0 [4,48] _ [.dead] E E E Z<|gO 7 E<|bK h26 fun v27 hv27 h28=>?_
    cases h28
    obtain rfl:=hout14 _ rfl
    cases h9
    exact gA 4 E<|oSi hv27▸gP E E
   have h29:=cF h17 hb
   refine gA 8 E<|Kcs 4 [(1,B last),(6,.sl 0 s6.length),(7,.d (Sl eS y3)),(9,S x7),(18,.d (Sl eS y3)),(19,I (y3.length:Int)),(20,I (i5:Int)),(56,B (((x7:Str)==[])||(decide (((x7.length:Int):Int)>4))))] [rO 37 1 (eN .u64) s6] ?_ ?_
   ·refine Klj E E (fun hb=>?_) (fun hb=>?_)
    ·exact gO 5 E<|⟨⟨E,E,E,E,E,E,E,Kbx E (or_t hb),tV⟩,[],E,.inl E⟩
    exact gO 5 E<|⟨⟨E,E,E,E,E,E,E,Kbx E (or_f hb),tV⟩,[],E,.inl E⟩
   refine gO 1 E<|bK h29 fun q30 hq30 h31=>Kcs 4 [(1,B last),(6,.sl 0 s6.length),(7,.d (Sl eS y3)),(9,S x7),(18,.d (Sl eS y3)),(19,I (y3.length:Int)),(20,I (i5:Int)),(61,B q30)] [rO 37 1 (eN .u64) s6] ?_ ?_
   ·refine Klj E E (fun hb=>?_) (fun hb=>?_)
    ·have h32:=cT hq30 hb
     exact gO 5 E<|oSi h32▸⟨⟨E,E,E,E,E,E,E,E,tV⟩,[],E,.inl E⟩
    have h33:=cF hq30 hb
    exact bK h33 fun y34 hy34 h35=>gO 1 E<|Klh E<|Kdq C (Kuq hy34) E Z E E E E E<|gO 3 E<|oSi h35▸⟨⟨E,E,E,E,E,E,E,E,tV⟩,[],E,.inl E⟩
   refine gO 2 E<|jC E h31 (fun h36=>?_) fun h39=>bK h39 fun y40 hy40 h41=>gA 5 E ?_
   ·refine gA 10 E<|bK h36 fun v37 hv37 h38=>?_
    cases h38
    obtain rfl:=hout14 _ rfl
    cases h9
    exact gA 4 E<|oSi hv37▸gP E E
   rcases y40 with _ | z42
   ·refine Kjk C (Kvl hy40) E Z E E E E fun et43 ex44=>gO 11 E<|eo_o E (Kjg hΓ E E E E)<|gO 13 E<|bK h41 fun v45 hv45 h46=>?_
    cases h46
    obtain rfl:=hout14 _ rfl
    cases h9
    exact gA 4 E<|oSi hv45▸gP E E
   refine Kdq C (Kvk hy40) E Z E E E E E<|gO 11 E<|eo_o E (Kji hΓ E E E E)<|gO 8 E<|Kdk hΓ (enc:=(eN .u64)) [z42] E E E E E E E E E E E E Z<|bK h41 fun y47 hy47 h48=>Kea hΓ (enc:=(eN .u64)) hy47 E E E E E E E E E (fun _=>E) E E E E<|gO 8 E ?_
   cases h48
   exact⟨_,E,⟨⟨E,E,E,E,E,Kbw E (Kbv (nLl hlt hb11)),tV⟩,[],E,.inl E⟩⟩
  subst hgo
  exact gA 6 E<|Kco E (dF (Int.lt_irrefl _))<|gA 4 E<|⟨_,E,⟨⟨E,tV⟩,[],E,.inl E⟩⟩
 intro a10 ha
 subst ha
 replace h9:=Kgk h9
 exact gA 5 E<|Kdw 0 [4,6,74] _ [.dead] E E E Z<|gO 4 E<|oSi h9▸gP E E
theorem Lhd{k:Nat}{s:Str}{r:Kzo×Int}(h:Lcl k s=some r):Pure Tryz.prog 256 [S s] (.tup [.agg [B r.1.Six,U r.1.Hi,U r.1.Lo],I r.2]):=by
 unfold Lcl at h
 refine QP Tryz.func256 E E E<|gA 2 E<|Kmp hΓ E E E Z<|bK h fun y1 hy1 h2=>gO 7 E<|Kdq C (Kuv hy1) E Z E E E E E<|gO 3 E<|Kcm E (fun hb=>?_) (fun hb=>?_)
 ·have h3:=cT h2 hb
  refine bK h3 fun y4 hy4 h5=>gA 3 E<|Kdq C (Lhb hy4) E Z E E E E E<|gO 14 E<|jC E h5 (fun h6=>?_) fun h7=>gA 5 E<|Kav hΓ (gs:=[B false,U 0,U y4.1]) E E E E E E E<|Kmu hΓ E E E E E E E E Z<|Kdz [.box 39 [B false,U 0,U y4.1]] E<|gO 5 E<|oSi h7▸gP E E
  exact gA 2 E<|Kav hΓ (gs:=[B false,U 0,U 0]) E E E E E E E<|Kmu hΓ E E E E E E E E Z<|Kdz [.box 39 [B false,U 0,U 0]] E<|gO 6 E<|oSi h6▸gP E E
 have h8:=cF h2 hb
 refine bK h8 fun y9 hy9 h10=>gA 5 E<|Kdq C (Kvt hy9) E Z E E E E E<|bK h10 fun y11 hy11 h12=>gO 14 E<|Kdq C (Lhc hy11) E Z E E E E E<|bK h12 fun y13 hy13 h14=>gO 10 E<|Kdq C (Lhc hy13) E Z E E E E E<|gO 13 E<|Kcs 3 [(2,.ptr 0 0),(8,B y9.2.2),(9,.d (Sl (eN .u64) y11.1)),(11,.d (Sl (eN .u64) y13.1)),(52,B ((!y11.2)||(!y13.2)))] [.box 39 [B false,U 0,U 0]] ?_ ?_
 ·refine Klj E E (fun hb=>?_) (fun hb=>?_)
  ·exact gO 4 E<|⟨⟨E,E,E,E,Kbx E (or_t hb),tV⟩,[],E,.inl E⟩
  exact gO 4 E<|⟨⟨E,E,E,E,Kbx E (or_f hb),tV⟩,[],E,.inl E⟩
 refine gO 1 E<|Kcs 10 [(2,.ptr 0 0),(8,B y9.2.2),(9,.d (Sl (eN .u64) y11.1)),(11,.d (Sl (eN .u64) y13.1)),(63,B (((!y11.2)||(!y13.2))||(y9.2.2&&(decide ((wi ((y11.1.length:Int)+(y13.1.length:Int)):Int)>7)))))] [.box 39 [B false,U 0,U 0]] ?_ ?_
 ·refine Klj E E (fun hb=>?_) (fun hb=>?_)
  ·exact gO 11 E<|⟨⟨E,E,E,E,Kbx E (or_t hb),tV⟩,[],E,.inl E⟩
  refine gO 2 E<|Kcs 7 [(2,.ptr 0 0),(8,B y9.2.2),(9,.d (Sl (eN .u64) y11.1)),(11,.d (Sl (eN .u64) y13.1)),(53,B false),(62,B (y9.2.2&&(decide ((wi ((y11.1.length:Int)+(y13.1.length:Int)):Int)>7))))] [.box 39 [B false,U 0,U 0]] ?_ ?_
  ·refine Klj E E (fun hb=>?_) (fun hb=>?_)
   ·exact gO 8 E<|⟨⟨E,E,E,E,E,Kbx E (Kek hb),tV⟩,[],E,.inl E⟩
   exact gO 8 E<|⟨⟨E,E,E,E,E,Kbx E (Kel hb),tV⟩,[],E,.inl E⟩
  exact gO 2 E<|⟨⟨E,E,E,E,Kbx E (or_f hb),tV⟩,[],E,.inl E⟩
 refine gO 1 E<|Kcs 8 [(2,.ptr 0 0),(9,.d (Sl (eN .u64) y11.1)),(11,.d (Sl (eN .u64) y13.1)),(72,B ((((!y11.2)||(!y13.2))||(y9.2.2&&(decide ((wi ((y11.1.length:Int)+(y13.1.length:Int)):Int)>7))))||((!y9.2.2)&&(((y11.1.length:Int):Int) != 8))))] [.box 39 [B false,U 0,U 0]] ?_ ?_
 ·refine Klj E E (fun hb=>?_) (fun hb=>?_)
  ·exact gO 9 E<|⟨⟨E,E,E,Kbx E (or_t hb),tV⟩,[],E,.inl E⟩
  refine gO 3 E<|Kcs 4 [(2,.ptr 0 0),(9,.d (Sl (eN .u64) y11.1)),(11,.d (Sl (eN .u64) y13.1)),(64,B false),(71,B ((!y9.2.2)&&(((y11.1.length:Int):Int) != 8)))] [.box 39 [B false,U 0,U 0]] ?_ ?_
  ·refine Klj E E (fun hb=>?_) (fun hb=>?_)
   ·exact gO 5 E<|⟨⟨E,E,E,E,Kbx E (Kek hb),tV⟩,[],E,.inl E⟩
   exact gO 5 E<|⟨⟨E,E,E,E,Kbx E (Kel hb),tV⟩,[],E,.inl E⟩
  exact gO 2 E<|⟨⟨E,E,E,Kbx E (or_f hb),tV⟩,[],E,.inl E⟩
 refine gO 2 E<|jC E h14 (fun h15=>?_) fun h16=>gA 4 E<|Kmp hΓ E E E Z<|gO 4 E<|eo_o E (Kjr hΓ (n:=8) (a:=(0:Int)) E E E E E E E)<|gO 1 E<|eo_s Z (nblt.1 E) (Kjs hΓ (pre:=[]) (post:=[]) (l:=[0,0,0,0,0,0,0,0]) (xs:=y11.1) (k:=.u64) (p:=0) (o:=(0:Int).toNat) (n:=8 - (0:Int).toNat) (Kjp (a:=0) (n:=8) E) E E E E E E E E E)<|Kdz [.box 39 [B false,U 0,U 0],.box 266 [U (cpA (0:Int).toNat y11.1 0 0),U (cpA (0:Int).toNat y11.1 1 0),U (cpA (0:Int).toNat y11.1 2 0),U (cpA (0:Int).toNat y11.1 3 0),U (cpA (0:Int).toNat y11.1 4 0),U (cpA (0:Int).toNat y11.1 5 0),U (cpA (0:Int).toNat y11.1 6 0),U (cpA (0:Int).toNat y11.1 7 0)]] E<|gK h16 fun hg18 h17=>gO 7 E<|eo_o E (Kjr hΓ (n:=8) (a:=(wi (8 - (y13.1.length:Int)))) E E E E E E hg18)<|gO 1 E<|eo_s Z (nblt.1 E) (Kjs hΓ (pre:=[]) (post:=[]) (l:=[cpA (0:Int).toNat y11.1 0 0,cpA (0:Int).toNat y11.1 1 0,cpA (0:Int).toNat y11.1 2 0,cpA (0:Int).toNat y11.1 3 0,cpA (0:Int).toNat y11.1 4 0,cpA (0:Int).toNat y11.1 5 0,cpA (0:Int).toNat y11.1 6 0,cpA (0:Int).toNat y11.1 7 0]) (xs:=y13.1) (k:=.u64) (p:=0) (o:=(wi (8 - (y13.1.length:Int))).toNat) (n:=8 - (wi (8 - (y13.1.length:Int))).toNat) (Kjp hg18) E E E E E E E E E)<|Kdz [.box 39 [B false,U 0,U 0],.box 266 [U (cpA (wi (8 - (y13.1.length:Int))).toNat y13.1 0 (cpA (0:Int).toNat y11.1 0 0)),U (cpA (wi (8 - (y13.1.length:Int))).toNat y13.1 1 (cpA (0:Int).toNat y11.1 1 0)),U (cpA (wi (8 - (y13.1.length:Int))).toNat y13.1 2 (cpA (0:Int).toNat y11.1 2 0)),U (cpA (wi (8 - (y13.1.length:Int))).toNat y13.1 3 (cpA (0:Int).toNat y11.1 3 0)),U (cpA (wi (8 - (y13.1.length:Int))).toNat y13.1 4 (cpA (0:Int).toNat y11.1 4 0)),U (cpA (wi (8 - (y13.1.length:Int))).toNat y13.1 5 (cpA (0:Int).toNat y11.1 5 0)),U (cpA (wi (8 - (y13.1.length:Int))).toNat y13.1 6 (cpA (0:Int).toNat y11.1 6 0)),U (cpA (wi (8 - (y13.1.length:Int))).toNat y13.1 7 (cpA (0:Int).toNat y11.1 7 0))]] E<|gO 4 E<|Kav hΓ (gs:=[B true,U 0,U 0]) E E E E E E E<|Kmp hΓ E E E Z<|Kmu hΓ E E E E E E E E Z<|Kdz [.box 39 [B false,U 0,U 0],.box 266 [U (cpA (wi (8 - (y13.1.length:Int))).toNat y13.1 0 (cpA (0:Int).toNat y11.1 0 0)),U (cpA (wi (8 - (y13.1.length:Int))).toNat y13.1 1 (cpA (0:Int).toNat y11.1 1 0)),U (cpA (wi (8 - (y13.1.length:Int))).toNat y13.1 2 (cpA (0:Int).toNat y11.1 2 0)),U (cpA (wi (8 - (y13.1.length:Int))).toNat y13.1 3 (cpA (0:Int).toNat y11.1 3 0)),U (cpA (wi (8 - (y13.1.length:Int))).toNat y13.1 4 (cpA (0:Int).toNat y11.1 4 0)),U (cpA (wi (8 - (y13.1.length:Int))).toNat y13.1 5 (cpA (0:Int).toNat y11.1 5 0)),U (cpA (wi (8 - (y13.1.length:Int))).toNat y13.1 6 (cpA (0:Int).toNat y11.1 6 0)),U (cpA (wi (8 - (y13.1.length:Int))).toNat y13.1 7 (cpA (0:Int).toNat y11.1 7 0))],.box 39 [B true,U 0,U 0]] E<|gO 8 E<|Kjz (ds:=[.v (.int .u64 (cpA (wi (8 - (y13.1.length:Int))).toNat y13.1 0 (cpA (0:Int).toNat y11.1 0 0))),.v (.int .u64 (cpA (wi (8 - (y13.1.length:Int))).toNat y13.1 1 (cpA (0:Int).toNat y11.1 1 0))),.v (.int .u64 (cpA (wi (8 - (y13.1.length:Int))).toNat y13.1 2 (cpA (0:Int).toNat y11.1 2 0))),.v (.int .u64 (cpA (wi (8 - (y13.1.length:Int))).toNat y13.1 3 (cpA (0:Int).toNat y11.1 3 0))),.v (.int .u64 (cpA (wi (8 - (y13.1.length:Int))).toNat y13.1 4 (cpA (0:Int).toNat y11.1 4 0))),.v (.int .u64 (cpA (wi (8 - (y13.1.length:Int))).toNat y13.1 5 (cpA (0:Int).toNat y11.1 5 0))),.v (.int .u64 (cpA (wi (8 - (y13.1.length:Int))).toNat y13.1 6 (cpA (0:Int).toNat y11.1 6 0))),.v (.int .u64 (cpA (wi (8 - (y13.1.length:Int))).toNat y13.1 7 (cpA (0:Int).toNat y11.1 7 0)))]) 1 13 [.box 39 [B false,U 0,U 0],.dead,.box 39 [B true,U 0,U 0]] E E E Z<|bK h17 fun q22 hq22 h23=>Kgq [(2,.ptr 0 0),(14,.ptr 2 0)] [.box 39 [B false,U 0,U 0],.dead,.box 39 [B q22.Six,U q22.Hi,U q22.Lo]] ?_ ?_
 ·exact gA 2 E<|Kav hΓ (gs:=[B false,U 0,U 0]) E E E E E E E<|Kmu hΓ E E E E E E E E Z<|Kdz [.box 39 [B false,U 0,U 0]] E<|gO 5 E<|oSi h15▸gP E E
 ·refine gA 1 E<|Kcz hq22 (fun s20=>[(2,.ptr 0 0),(13,.rp [.v (.int .u64 (cpA (wi (8 - (y13.1.length:Int))).toNat y13.1 0 (cpA (0:Int).toNat y11.1 0 0))),.v (.int .u64 (cpA (wi (8 - (y13.1.length:Int))).toNat y13.1 1 (cpA (0:Int).toNat y11.1 1 0))),.v (.int .u64 (cpA (wi (8 - (y13.1.length:Int))).toNat y13.1 2 (cpA (0:Int).toNat y11.1 2 0))),.v (.int .u64 (cpA (wi (8 - (y13.1.length:Int))).toNat y13.1 3 (cpA (0:Int).toNat y11.1 3 0))),.v (.int .u64 (cpA (wi (8 - (y13.1.length:Int))).toNat y13.1 4 (cpA (0:Int).toNat y11.1 4 0))),.v (.int .u64 (cpA (wi (8 - (y13.1.length:Int))).toNat y13.1 5 (cpA (0:Int).toNat y11.1 5 0))),.v (.int .u64 (cpA (wi (8 - (y13.1.length:Int))).toNat y13.1 6 (cpA (0:Int).toNat y11.1 6 0))),.v (.int .u64 (cpA (wi (8 - (y13.1.length:Int))).toNat y13.1 7 (cpA (0:Int).toNat y11.1 7 0)))]),(14,.ptr 2 0),(84,I s20.2)]) (fun s20=>[.box 39 [B false,U 0,U 0],.dead,.box 39 [B s20.1.Six,U s20.1.Hi,U s20.1.Lo]]) ⟨⟨E,E,E,E,tV⟩,[],E,.inl E⟩ (fun s20 y28 hy26 hout27=>?_)
  refine gA 6 E<|jC E hy26 (fun h29=>?_) fun h34=>gA 4 E ?_
  ·exact gA 10 E<|Kfr [.dead,.dead,.box 39 [B s20.1.Six,U s20.1.Hi,U s20.1.Lo]] [1,8] [16,18] [16,18] hmix (by kernel_rfl) (by kernel_rfl) ⟨E,tV⟩ Z<|bK h29 fun x30 hx30 h31=>go_E hΓ 4 E<|ge_q E (.inl E) (fun _ _=>Kft (qt_p (Kka hΓ (l:=[cpA (wi (8 - (y13.1.length:Int))).toNat y13.1 0 (cpA (0:Int).toNat y11.1 0 0),cpA (wi (8 - (y13.1.length:Int))).toNat y13.1 1 (cpA (0:Int).toNat y11.1 1 0),cpA (wi (8 - (y13.1.length:Int))).toNat y13.1 2 (cpA (0:Int).toNat y11.1 2 0),cpA (wi (8 - (y13.1.length:Int))).toNat y13.1 3 (cpA (0:Int).toNat y11.1 3 0),cpA (wi (8 - (y13.1.length:Int))).toNat y13.1 4 (cpA (0:Int).toNat y11.1 4 0),cpA (wi (8 - (y13.1.length:Int))).toNat y13.1 5 (cpA (0:Int).toNat y11.1 5 0),cpA (wi (8 - (y13.1.length:Int))).toNat y13.1 6 (cpA (0:Int).toNat y11.1 6 0),cpA (wi (8 - (y13.1.length:Int))).toNat y13.1 7 (cpA (0:Int).toNat y11.1 7 0)]) hx30 E E E E E E E)))<|bK h31 fun x32 hx32 h33=>go_E hΓ 7 E<|ge_q E (.inl E) (fun _ _=>Kft (qt_p (Kka hΓ (l:=[cpA (wi (8 - (y13.1.length:Int))).toNat y13.1 0 (cpA (0:Int).toNat y11.1 0 0),cpA (wi (8 - (y13.1.length:Int))).toNat y13.1 1 (cpA (0:Int).toNat y11.1 1 0),cpA (wi (8 - (y13.1.length:Int))).toNat y13.1 2 (cpA (0:Int).toNat y11.1 2 0),cpA (wi (8 - (y13.1.length:Int))).toNat y13.1 3 (cpA (0:Int).toNat y11.1 3 0),cpA (wi (8 - (y13.1.length:Int))).toNat y13.1 4 (cpA (0:Int).toNat y11.1 4 0),cpA (wi (8 - (y13.1.length:Int))).toNat y13.1 5 (cpA (0:Int).toNat y11.1 5 0),cpA (wi (8 - (y13.1.length:Int))).toNat y13.1 6 (cpA (0:Int).toNat y11.1 6 0),cpA (wi (8 - (y13.1.length:Int))).toNat y13.1 7 (cpA (0:Int).toNat y11.1 7 0)]) hx32 E E E E E E E)))<|go_E hΓ 3 E<|Kfx [.box 39 [B false,U 0,U 0],.dead,.box 39 [B s20.1.Six,U (bitsV .or .u64 (shlV .u64 s20.1.Hi 16) x30),U s20.1.Lo]] E E (Kfy E) (Kgd (Kgu hΓ E E E E E E E E E))<|go_E hΓ 1 E<|Kfx [.box 39 [B false,U 0,U 0],.dead,.box 39 [B s20.1.Six,U (bitsV .or .u64 (shlV .u64 s20.1.Hi 16) x30),U (bitsV .or .u64 (shlV .u64 s20.1.Lo 16) x32)]] E E (Kfy E) (Kgd (Kgu hΓ E E E E E E E E E))<|Kfs<|gA 6 E<|oSi h33▸⟨_,E,⟨⟨E,E,E,E,tV⟩,[],E,.inl E⟩⟩
  cases h34
  obtain rfl:=hout27 _ rfl
  exact⟨⟨E,E,tV⟩,[],E,.inl E⟩
 exact gA 4 E<|Kmu hΓ E E E E E E E E Z<|Kdz [.box 39 [B q22.Six,U q22.Hi,U q22.Lo],.dead,.box 39 [B q22.Six,U q22.Hi,U q22.Lo]] E<|gO 4 E<|oSi h23▸gP E E
theorem Lhe{k:Nat}{s:Str}{r:Kzo×Int}(h:Lcm k s=some r):Pure Tryz.prog 190 [S s] (.tup [.agg [B r.1.Six,U r.1.Hi,U r.1.Lo],I r.2]):=by
 unfold Lcm at h
 refine QP Tryz.func190 E E E<|gA 2 E<|Kmp hΓ E E E Z<|bK h fun y1 hy1 h2=>gO 6 E<|Kdq C (Lhd hy1) E Z E E E E E<|gO 3 E<|Kmp hΓ E E E Z<|Kmu hΓ E E E E E E E E Z<|Kdz [.box 39 [B false,U 0,U 0],.box 39 [B y1.1.Six,U y1.1.Hi,U y1.1.Lo]] E<|gO 9 E<|bK h2 fun q3 hq3 h4=>Kcs 5 [(2,.ptr 0 0),(4,.ptr 1 0),(18,B q3)] [.box 39 [B false,U 0,U 0],.box 39 [B y1.1.Six,U y1.1.Hi,U y1.1.Lo]] ?_ ?_
 ·refine Klj E E (fun hb=>?_) (fun hb=>?_)
  ·have h5:=cT hq3 hb
   exact gO 6 E<|oSi h5▸⟨⟨E,E,E,tV⟩,[],E,.inl E⟩
  have h6:=cF hq3 hb
  exact bK h6 fun y7 hy7 h8=>gO 1 E<|Klh E<|Kdq C (Lfw hy7) E Z E E E E E<|gO 4 E<|oSi h8▸⟨⟨E,E,E,tV⟩,[],E,.inl E⟩
 refine gO 2 E<|jC E h4 (fun h9=>?_) fun h10=>gA 5 E<|Kmu hΓ E E E E E E E E Z<|Kdz [.box 39 [B y1.1.Six,U y1.1.Hi,U y1.1.Lo],.box 39 [B y1.1.Six,U y1.1.Hi,U y1.1.Lo]] E<|gO 4 E<|oSi h10▸gP E E
 exact gA 2 E<|Kav hΓ (gs:=[B false,U 0,U 0]) E E E E E E E<|Kmu hΓ E E E E E E E E Z<|Kdz [.box 39 [B false,U 0,U 0],.box 39 [B y1.1.Six,U y1.1.Hi,U y1.1.Lo]] E<|gO 5 E<|oSi h9▸gP E E
theorem Lhf{k:Nat}{s:Str}{r:Kzp×Int}(h:Lcn k s=some r):Pure Tryz.prog 163 [S s] (.tup [.agg [B r.1.Addr.Six,U r.1.Addr.Hi,U r.1.Addr.Lo,I r.1.Bits],I r.2]):=by
 unfold Lcn at h
 refine QP Tryz.func163 E E E<|gA 2 E<|Kmp hΓ E E E Z<|bK h fun y1 hy1 h2=>gO 6 E<|Kdq C (Kvt hy1) E Z E E E E E<|bK h2 fun y3 hy3 h4=>gO 12 E<|Kdq C (Lhe hy3) E Z E E E E E<|gO 3 E<|Kmp hΓ E E E Z<|Kmu hΓ E E E E E E E E Z<|Kdz [.box 41 [B false,U 0,U 0,I 0],.box 39 [B y3.1.Six,U y3.1.Hi,U y3.1.Lo]] E<|bK h4 fun y5 hy5 h6=>gO 6 E<|Kdq C (Lha hy5) E Z E E E E E<|gO 11 E<|Kav hΓ (gs:=[B y3.1.Six,U y3.1.Hi,U y3.1.Lo,I y5.1]) E E E E E E E<|Kmp hΓ E E E Z<|Kmu hΓ E E E E E E E E Z<|Kdz [.box 41 [B false,U 0,U 0,I 0],.box 39 [B y3.1.Six,U y3.1.Hi,U y3.1.Lo],.box 41 [B y3.1.Six,U y3.1.Hi,U y3.1.Lo,I y5.1]] E<|gO 8 E<|Kcs 3 [(2,.ptr 0 0),(11,.ptr 2 0),(36,B (((y3.2:Int) != 0)||(!y5.2)))] [.box 41 [B false,U 0,U 0,I 0],.box 39 [B y3.1.Six,U y3.1.Hi,U y3.1.Lo],.box 41 [B y3.1.Six,U y3.1.Hi,U y3.1.Lo,I y5.1]] ?_ ?_
 ·refine Klj E E (fun hb=>?_) (fun hb=>?_)
  ·exact gO 4 E<|⟨⟨E,E,Kbx E (or_t hb),tV⟩,[],E,.inl E⟩
  exact gO 4 E<|⟨⟨E,E,Kbx E (or_f hb),tV⟩,[],E,.inl E⟩
 refine gO 1 E<|bK h6 fun q7 hq7 h8=>Kcs 4 [(2,.ptr 0 0),(11,.ptr 2 0),(41,B q7)] [.box 41 [B false,U 0,U 0,I 0],.box 39 [B y3.1.Six,U y3.1.Hi,U y3.1.Lo],.box 41 [B y3.1.Six,U y3.1.Hi,U y3.1.Lo,I y5.1]] ?_ ?_
 ·refine Klj E E (fun hb=>?_) (fun hb=>?_)
  ·have h9:=cT hq7 hb
   exact gO 5 E<|oSi h9▸⟨⟨E,E,E,tV⟩,[],E,.inl E⟩
  have h10:=cF hq7 hb
  exact bK h10 fun y11 hy11 h12=>gO 1 E<|Klh E<|Kdq C (Lfj hy11) E Z E E E E E<|gO 3 E<|oSi h12▸⟨⟨E,E,E,tV⟩,[],E,.inl E⟩
 refine gO 2 E<|jC E h8 (fun h13=>?_) fun h14=>gA 5 E<|Kmu hΓ E E E E E E E E Z<|Kdz [.box 41 [B y3.1.Six,U y3.1.Hi,U y3.1.Lo,I y5.1],.box 39 [B y3.1.Six,U y3.1.Hi,U y3.1.Lo],.box 41 [B y3.1.Six,U y3.1.Hi,U y3.1.Lo,I y5.1]] E<|gO 4 E<|oSi h14▸gP E E
 exact gA 2 E<|Kav hΓ (gs:=[B false,U 0,U 0,I 0]) E E E E E E E<|Kmu hΓ E E E E E E E E Z<|Kdz [.box 41 [B false,U 0,U 0,I 0],.box 39 [B y3.1.Six,U y3.1.Hi,U y3.1.Lo],.box 41 [B y3.1.Six,U y3.1.Hi,U y3.1.Lo,I y5.1]] E<|gO 5 E<|oSi h13▸gP E E
theorem Lhg{k:Nat}{s:Str}{r:Int×Bool}(h:Lco k s=some r):Pure Tryz.prog 164 [S s] (.tup [I r.1,B r.2]):=by
 unfold Lco at h
 exact QP Tryz.func164 E E E<|bK h fun y1 hy1 h2=>gA 9 E<|Kdq C (Lha hy1) E Z E E E E E<|gO 7 E<|oSi h2▸gP E E
theorem Lhh{k:Nat}{line:Str}{r:Kzq×Bool}(h:Lcp k line=some r):Pure Tryz.prog 68 [S line] (.tup [.agg [B r.1.Prefix.Addr.Six,U r.1.Prefix.Addr.Hi,U r.1.Prefix.Addr.Lo,I r.1.Prefix.Bits,S r.1.Node,I r.1.Weight],B r.2]):=by
 unfold Lcp at h
 refine QP Tryz.func68 E E E<|gA 2 E<|Kmp hΓ E E E Z<|bK h fun y1 hy1 h2=>gO 6 E<|Kdq C (Lgz hy1) E Z E E E E E<|gO 13 E<|Kcs 4 [(2,.ptr 0 0),(4,.d (Sl eS y1.1)),(20,B ((!y1.2)||(((y1.1.length:Int):Int) != 3)))] [.box 43 [B false,U 0,U 0,I 0,S [],I 0]] ?_ ?_
 ·refine Klj E E (fun hb=>?_) (fun hb=>?_)
  ·exact gO 5 E<|⟨⟨E,E,Kbx E (or_t hb),tV⟩,[],E,.inl E⟩
  exact gO 5 E<|⟨⟨E,E,Kbx E (or_f hb),tV⟩,[],E,.inl E⟩
 refine gO 2 E<|jC E h2 (fun h3=>?_) fun h4=>bK h4 fun x5 hx5 h6=>gA 5 E<|eo_o E (Kdd hΓ (enc:=eS) hx5 E E E E E (fun _=>E))<|bK h6 fun y7 hy7 h8=>gO 1 E<|Kdq C (Lhf hy7) E Z E E E E E<|gO 3 E<|Kmp hΓ E E E Z<|Kmu hΓ E E E E E E E E Z<|Kdz [.box 43 [B false,U 0,U 0,I 0,S [],I 0],.box 41 [B y7.1.Addr.Six,U y7.1.Addr.Hi,U y7.1.Addr.Lo,I y7.1.Bits]] E<|bK h8 fun x9 hx9 h10=>gO 6 E<|eo_o E (Kdd hΓ (enc:=eS) hx9 E E E E E (fun _=>E))<|bK h10 fun y11 hy11 h12=>gO 1 E<|Kdq C (Lhg hy11) E Z E E E E E<|bK h12 fun q13 hq13 h14=>gO 8 E<|Kgq [(2,.ptr 0 0),(3,B q13.2)] [.box 43 [B y7.1.Addr.Six,U y7.1.Addr.Hi,U y7.1.Addr.Lo,I y7.1.Bits,S q13.1,I y11.1],.box 41 [B y7.1.Addr.Six,U y7.1.Addr.Hi,U y7.1.Addr.Lo,I y7.1.Bits]] ?_ ?_
 ·exact gA 2 E<|Kav hΓ (gs:=[B false,U 0,U 0,I 0,S [],I 0]) E E E E E E E<|Kmu hΓ E E E E E E E E Z<|Kdz [.box 43 [B false,U 0,U 0,I 0,S [],I 0]] E<|gO 5 E<|oSi h3▸gP E E
 ·refine Kfr [.dead,.box 41 [B y7.1.Addr.Six,U y7.1.Addr.Hi,U y7.1.Addr.Lo,I y7.1.Bits]] [0] [11] [] hmix (by kernel_rfl) (by kernel_rfl) ⟨E,tV⟩ Z<|bK hq13 fun x15 hx15 h16=>go_E hΓ 2 E<|ge_q E (.inl E) (fun _ _=>Kft (qt_p (Kdd hΓ (enc:=eS) hx15 E E E E E (fun _=>E))))<|go_E hΓ 2 E<|ge_q E (.inl E) (fun _ _=>Kft (qt_p (Kgh hΓ (gs:=[B y7.1.Addr.Six,U y7.1.Addr.Hi,U y7.1.Addr.Lo,I y7.1.Bits,S x15,I y11.1]) E E E E E E)))<|go_E hΓ 2 E<|Kfw E E (fun hb=>?_) (fun hb=>?_)
  ·have h17:=cT h16 hb
   exact go_E hΓ 3 E<|Kfx [.box 43 [B y7.1.Addr.Six,U y7.1.Addr.Hi,U y7.1.Addr.Lo,I y7.1.Bits,S x15,I y11.1],.box 41 [B y7.1.Addr.Six,U y7.1.Addr.Hi,U y7.1.Addr.Lo,I y7.1.Bits]] E E (Kfz ⟨E,tV⟩) (Kgd (Kgu hΓ E E E E E E E E E))<|go_E hΓ 1 E<|Kfs<|oSi h17▸⟨⟨E,E,tV⟩,[],E,.inl E⟩
  have h18:=cF h16 hb
  exact go_E hΓ 3 E<|Kfx [.box 43 [B y7.1.Addr.Six,U y7.1.Addr.Hi,U y7.1.Addr.Lo,I y7.1.Bits,S x15,I y11.1],.box 41 [B y7.1.Addr.Six,U y7.1.Addr.Hi,U y7.1.Addr.Lo,I y7.1.Bits]] E E (Kfz ⟨E,tV⟩) (Kgd (Kgu hΓ E E E E E E E E E))<|go_E hΓ 1 E<|Kfs<|oSi h18▸⟨⟨E,E,tV⟩,[],E,.inl E⟩
 exact gA 2 E<|oSi h14▸gP E E
end Go.Proofs.YtfnjahjbpaoepaaGreatDoor
