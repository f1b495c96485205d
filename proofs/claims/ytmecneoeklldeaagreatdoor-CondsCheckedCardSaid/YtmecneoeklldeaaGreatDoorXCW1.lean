import Derived.Test.YtmecneoeklldeaaGreatDoorXCM
import Derived.Test.YtmecneoeklldeaaGreatDoorGt
import Derived.Test.YtmecneoeklldeaaGreatDoorStr
import Derived.Test.YtmecneoeklldeaaGreatDoorStr9
import Derived.Test.YtmecneoeklldeaaGreatDoorMStr3
import Derived.Test.YtmecneoeklldeaaGreatDoorLays
import Derived.Test.YtmecneoeklldeaaGreatDoorStrSS
import Derived.Test.YtmecneoeklldeaaGreatDoorStrK
import Derived.Test.YtmecneoeklldeaaGreatDoorGk60
import Derived.Test.YtmecneoeklldeaaGreatDoorRpT
import Derived.Test.YtmecneoeklldeaaGreatDoorGk62
import Derived.Test.YtmecneoeklldeaaGreatDoorStrK
set_option maxHeartbeats 8000000
set_option linter.all false
set_option maxRecDepth 100000
namespace Go.Proofs.YtmecneoeklldeaaGreatDoor
open Go.Gk
theorem E.{u}{α:Sort u}{a:α}:a=a:=rfl
theorem Z{n m:Nat}(h:Nat.ble n m=true:=by exact rfl):n≤m:=nBe h
theorem C{f:FuncId}{fn:Func}(h:Tryz.prog.funcs[f]?=some fn:=by exact rfl)(h1:fn.body.isNone=false:=by exact rfl)(h2:(fn.name== "runtime.NumGoroutine")=false:=by exact rfl):Callable Tryz.prog f:=Lbh h h1 h2
theorem bK{α β:Type}{x:Option α}{f:α→Option β}{r:β}{G:Prop}(h:bi x f=some r)(k:∀ a,x=some a→f a=some r→G):G:=let⟨a,b,c⟩:=Khf h;k a b c
theorem gK{α:Type}{c:Bool}{x:Option α}{r:α}{G:Prop}(h:gd c x=some r)(k:c=true→x=some r→G):G:=let⟨a,b⟩:=Khg h;k a b
section
variable{F N:Nat}{Q:GPost}{fr fr':Fr}{hp:List Ob}{ks:List Kt}
theorem jC{P:Program}{t:Tmp}{x y:Code}{b:Bool}{α:Type}{u v r:α}(hb:fr.get t=some (.d (.v (.bool b))))(h:(bif b then u else v)=r)(h1:u=r→St.holds P F N Q (.code x ks) fr hp)(h2:v=r→St.holds P F N Q (.code y ks) fr hp):St.holds P F N Q (.code (.cond (.tmp t) x y) ks) fr hp:=Kgy hb (fun e=>h1 (cT h e)) fun e=>h2 (cF h e)
theorem gA(n:Nat){st st':St}(h:mrun Γ N hp n st fr=(st',fr'))(k:St.holds Tryz.prog F N Q st' fr' hp):St.holds Tryz.prog F N Q st fr hp:=go hΓ n h k
theorem gO(n:Nat){full:Array Oper}{l:List Oper}{st':St}(h:mrun Γ N hp n (.ops full l ks) fr=(st',fr'))(k:St.holds Tryz.prog F N Q st' fr' hp):EO Tryz.prog F N full l (stk Tryz.prog F N Q ks) fr hp:=Kgv hΓ n h k
theorem jD{id:Nat}{ops:Array Oper}(h:St.holds Tryz.prog F N Q (.draw ops ops.toList ks) fr hp)(hB:Region.lexB .any ops=true:=by kernel_rfl):St.holds Tryz.prog F N Q (.code (.region id ops true) ks) fr hp:=Khb hmix hB h
theorem QN{f:FuncId}{fn:Func}{c:Code}{gs:List G}{R:G→List Ob→Prop}(hf:Tryz.prog.funcs[f]?=some fn)(hb:fn.body=some c)(hN:gs.length≤fn.ntmps)(h:St.holds Tryz.prog hp.length fn.ntmps (Ret Tryz.prog fn hp.length R) (.code c []) (Fr.of 0 gs) hp):EC Tryz.prog f gs hp R:=Kol (Fr.of 0 gs) hf hb (Fr.of_ok gs) hN fun _=>Kgx h
theorem QM{f:FuncId}{fn:Func}{c:Code}{gs:List G}{R:G→List Ob→Prop}(hf:Tryz.prog.funcs[f]?=some fn)(hb:fn.body=some c)(hN:gs.length≤fn.ntmps)(h:St.holds Tryz.prog hp.length fn.ntmps (fun e fr hp'=>Cv hp.length fn.ntmps (fun fr2 hp2=>Ret Tryz.prog fn hp.length R e fr2 hp2) fr hp') (.code c []) (Fr.of 0 gs) hp):EC Tryz.prog f gs hp R:=Kmh (Fr.of 0 gs) hf hb (Fr.of_ok gs) hN fun _=>Kgx h
theorem QP{f:FuncId}{fn:Func}{c:Code}{gs:List G}{r:G}(hf:Tryz.prog.funcs[f]?=some fn)(hb:fn.body=some c)(hN:Nat.ble gs.length fn.ntmps=true)(hr:r.bel 0=true)(h:St.holds Tryz.prog 0 fn.ntmps (fun e fr hp=>(e=.normal∨e=.ret)∧Res Tryz.prog fn fr hp r) (.code c []) (Fr.of 0 gs) []):Pure Tryz.prog f gs r:=Pure.enter (Fr.of 0 gs) hf hb (Fr.of_ok gs) hN hr (Kgx h)
theorem gP{fn:Func}{gs:List G}{g:G}(h:resAll Γ fr hp fn.results.toList=some gs)(hg:retG gs=g):(Exit.ret=.normal∨Exit.ret=.ret)∧Res Tryz.prog fn fr hp g:=Kir hΓ (.inr rfl) h hg
end
abbrev Kyw(x:Kup):List D:=[Sl (eN .i64) x.L,.v (.int .i64 x.v_at)]
abbrev Kyx(x:Kuq):List D:=[.v (.int .i64 x.Kind),.v (.int .i64 x.Number),.v (.string ⟨x.Words.toArray⟩),.v (.int .i64 x.Version.1),.v (.int .i64 x.Version.2.1),.v (.int .i64 x.Version.2.2.1),.v (.int .i64 x.Version.2.2.2)]
abbrev Kyy(x:Kut):List D:=[.v (.string ⟨x.kind.toArray⟩),.v (.int .i64 x.v_at),.v (.int .i64 x.v_end),.v (.string ⟨x.name.toArray⟩),.v (.int .i64 x.value.Kind),.v (.int .i64 x.value.Number),.v (.string ⟨x.value.Words.toArray⟩),.v (.int .i64 x.value.Version.1),.v (.int .i64 x.value.Version.2.1),.v (.int .i64 x.value.Version.2.2.1),.v (.int .i64 x.value.Version.2.2.2)]
abbrev Kyz(x:Kuu):List D:=[.v (.string ⟨x.s.toArray⟩),.v (.string ⟨x.tok.kind.toArray⟩),.v (.int .i64 x.tok.v_at),.v (.int .i64 x.tok.v_end),.v (.string ⟨x.tok.name.toArray⟩),.v (.int .i64 x.tok.value.Kind),.v (.int .i64 x.tok.value.Number),.v (.string ⟨x.tok.value.Words.toArray⟩),.v (.int .i64 x.tok.value.Version.1),.v (.int .i64 x.tok.value.Version.2.1),.v (.int .i64 x.tok.value.Version.2.2.1),.v (.int .i64 x.tok.value.Version.2.2.2),.v (.bool x.bad),.v (.int .i64 x.v_at)]
abbrev mObB(m:List (Str×Bool)):Ob:=mOb kS false eB m
abbrev rO{α:Type}(t:TypeId)(z:Nat)(e:α→List D)(l:List α):Ob:=.row t z l.length (l.flatMap e)
abbrev fQ(s:Kup):List G:=[.d (Sl (eN .i64) s.L),I s.v_at]
theorem Kza{x:Int}{n:Int}{r:Int}(h:Kuv x n=some r):Pure Tryz.prog 65 [I x,I n] (I r):=by
 unfold Kuv at h
 refine QP Tryz.func65 E E E<|gA 12 E<|jC E h (fun h1=>?_) fun h2=>bK h2 fun y3 hy3 h4=>gA 6 E<|eo_o E (Kiq hy3 E E)<|bK h4 fun q5 hq5 h6=>gO 10 E<|Kku [(0,I q5)] [] ?_ ?_
 ·exact gA 7 E<|oSi h1▸gP E E
 ·refine jC E hq5 (fun h7=>?_) fun h8=>gA 1 E<|oSi h8▸⟨⟨E,tV⟩,[],E,.inl E⟩
  exact gA 6 E<|oSi h7▸⟨⟨E,tV⟩,[],E,.inl E⟩
 exact gA 8 E<|oSi h6▸gP E E
theorem Kzb{s:Kup}{n:Int}{r:Int×Kup}(h:Kuw s n=some r):EC Tryz.prog 23 [.ptr 0 0,I n] [.box 25 (fQ s)] fun g hp'=>g=I r.1∧hp'=[.box 25 (fQ r.2)]:=by
 unfold Kuw at h
 refine QN Tryz.func23 E Z<|gA 14 E<|Kqf hΓ E E E E E E E E Z<|Kil [.box 25 [.d (Sl (eN .i64) s.L),I (wi (s.v_at+1))]] E<|gO 13 E<|jC E h (fun h1=>?_) fun h4=>gA 3 E<|jD<|bK h4 fun y5 hy5 h6=>gA 10 E<|gl_o E (Kiq hy5 E E)<|Kgw hΓ 4 E<|jD<|bK h6 fun y7 hy7 h8=>gA 10 E<|gl_o E (Kip hy7 E E)<|bK h8 fun x9 hx9 h10=>Kgw hΓ 10 E<|eo_o E (Khp hΓ (enc:=(eN .i64)) hx9 E E E E E (fun _=>E))<|bK h10 fun y11 hy11 h12=>gO 1 E<|Kie C (Kza hy11) E Z E E E E E<|bK h12 fun y13 hy13 h14=>gO 6 E<|Kie C (Kza hy13) E Z E E E E E<|gO 4 E<|oSi h14▸Kis hΓ [] (.inr E) E E E E (.inl E)
 exact bK h1 fun y2 hy2 h3=>gA 8 E<|Kie C (Kza hy2) E Z E E E E E<|gO 5 E<|oSi h3▸Kis hΓ [] (.inr E) E E E E (.inl E)
theorem Kzc{s:Kup}{l:List Int}{r:Int×Kup}(h:Kux s l=some r):EC Tryz.prog 26 [.ptr 0 0,.d (Sl (eN .i64) l)] [.box 25 (fQ s)] fun g hp'=>g=I r.1∧hp'=[.box 25 (fQ r.2)]:=by
 unfold Kux at h
 exact QN Tryz.func26 E Z<|bK h fun y1 hy1 h2=>gA 11 E<|Kid [0] (I y1.1) [.box 25 (fQ y1.2)] C (Kzb hy1) E Z E E E E E E E E E E<|bK h2 fun x3 hx3 h4=>eo_o E (Khp hΓ (enc:=(eN .i64)) hx3 E E E E E (fun _=>E))<|gO 5 E<|oSi h4▸Kis hΓ [] (.inr E) E E E E (.inl E)
theorem Kzd{s:Kup}{n:Int}{r:Bool×Kup}(h:Kuy s n=some r):EC Tryz.prog 24 [.ptr 0 0,I n] [.box 25 (fQ s)] fun g hp'=>g=B r.1∧hp'=[.box 25 (fQ r.2)]:=by
 unfold Kuy at h
 exact QN Tryz.func24 E Z<|bK h fun y1 hy1 h2=>gA 9 E<|Kid [0] (I y1.1) [.box 25 (fQ y1.2)] C (Kzb hy1) E Z E E E E E E E E E E<|gO 5 E<|oSi h2▸Kis hΓ [] (.inr E) E E E E (.inl E)
theorem Kze{s:Kup}{l:List Str}{r:Str×Kup}(h:Kuz s l=some r):EC Tryz.prog 25 [.ptr 0 0,.d (Sl eS l)] [.box 25 (fQ s)] fun g hp'=>g=S r.1∧hp'=[.box 25 (fQ r.2)]:=by
 unfold Kuz at h
 exact QN Tryz.func25 E Z<|bK h fun y1 hy1 h2=>gA 11 E<|Kid [0] (I y1.1) [.box 25 (fQ y1.2)] C (Kzb hy1) E Z E E E E E E E E E E<|bK h2 fun x3 hx3 h4=>eo_o E (Khp hΓ (enc:=eS) hx3 E E E E E (fun _=>E))<|gO 5 E<|oSi h4▸Kis hΓ [] (.inr E) E E E E (.inl E)
theorem Kzf{r:List Str}(h:Kva=some r):Pure Tryz.prog 96 [] (.d (Sl eS r)):=by
 unfold Kva at h
 exact QP Tryz.func96 E E E<|gA 7 E<|Khz hΓ (enc:=eS) [[61,61],[33,61],[60],[60,61],[62],[62,61]] E E E E E E E E E E E E Z<|gO 4 E<|oSi h▸gP E E
theorem Kzg{k:Nat}{s:Kup}{most:Int}{r:Kur×Kup}(h:Kvb k s most=some r):EC Tryz.prog 50 [.ptr 0 0,I most] [.box 25 (fQ s)] fun g hp'=>g=.agg [I r.1.Kind,S r.1.Name,S r.1.Op,I r.1.Value.Kind,I r.1.Value.Number,S r.1.Value.Words,I r.1.Value.Version.1,I r.1.Value.Version.2.1,I r.1.Value.Version.2.2.1,I r.1.Value.Version.2.2.2,.d (.ro r.1.Kids.n r.1.Kids.xs)]∧hp'=[.box 25 (fQ r.2)]:=by
 induction k generalizing s most r with
 | zero=>unfold Kvb at h;cases h
 | succ k ih0=>
  have ih:∀ {s:Kup} {most:Int} {r:Kur×Kup},Kvb k s most=some r→EC Tryz.prog 50 [.ptr 0 0,I most] [.box 25 (fQ s)] fun g hp'=>g=.agg [I r.1.Kind,S r.1.Name,S r.1.Op,I r.1.Value.Kind,I r.1.Value.Number,S r.1.Value.Words,I r.1.Value.Version.1,I r.1.Value.Version.2.1,I r.1.Value.Version.2.2.1,I r.1.Value.Version.2.2.2,.d (.ro r.1.Kids.n r.1.Kids.xs)]∧hp'=[.box 25 (fQ r.2)]:=by intro s most r h;first | exact ih0 h | exact ih0 _ _ _ h
  refine Kol (Fr.of 0 _) Tryz.func50 E (Fr.of_ok _) Z fun _=>?_
  refine Kgx ?_
  unfold Kvb at h
  refine gA 2 E ?_
  refine Kqa hΓ E E E Z ?_
  refine gO 8 E ?_
  obtain⟨q1,hq1,h2⟩:=Khf h
  refine Khe 3 [(0,.ptr 0 0),(1,I most),(4,.ptr 1 0),(13,B q1.2)] [.box 25 (fQ q1.1),.box 47 [I 0,S [],S [],I 0,I 0,S [],I 0,I 0,I 0,I 0,.d (.ro (KD.mk 0 []).n (KD.mk 0 []).xs)]] ?_ ?_
  ·refine Kot E E (fun hb=>?_) (fun hb=>?_)
   ·have h3:=cT hq1 hb
    refine gO 4 E ?_
    obtain rfl:=oSi h3
    exact⟨⟨E,E,E,E,tV⟩,[],E,.inl E⟩
   have h4:=cF hq1 hb
   obtain⟨y5,hy5,h6⟩:=Khf h4
   refine gO 1 E ?_
   refine Kor E ?_
   refine Kid [0] (B y5.1) [.box 25 (fQ y5.2),.box 47 [I 0,S [],S [],I 0,I 0,S [],I 0,I 0,I 0,I 0,.d (.ro (KD.mk 0 []).n (KD.mk 0 []).xs)]] C (Kzd hy5) E Z E E E E E E E E E E ?_
   refine gO 2 E ?_
   obtain rfl:=oSi h6
   exact⟨⟨E,E,E,E,tV⟩,[],E,.inl E⟩
  refine gO 2 E ?_
  refine Kgy E (fun hb=>?_) (fun hb=>?_)
  ·have h7:=cT h2 hb
   obtain⟨y8,hy8,h9⟩:=Khf h7
   refine gA 4 E ?_
   refine Kid [0] (I y8.1) [.box 25 (fQ y8.2),.box 47 [I 0,S [],S [],I 0,I 0,S [],I 0,I 0,I 0,I 0,.d (.ro (KD.mk 0 []).n (KD.mk 0 []).xs)]] C (Kzb hy8) E Z E E E E E E E E E E ?_
   refine gO 9 E ?_
   refine Kgy E (fun hb=>?_) (fun hb=>?_)
   ·have h10:=cT h9 hb
    refine gA 3 E ?_
    refine Khz hΓ (enc:=eS) [[61,61],[61,61],[33,61]] E E E E E E E E E E E E Z ?_
    obtain⟨y11,hy11,h12⟩:=Khf h10
    refine Kid [0] (S y11.1) [.box 25 (fQ y11.2),.box 47 [I 0,S [],S [],I 0,I 0,S [],I 0,I 0,I 0,I 0,.d (.ro (KD.mk 0 []).n (KD.mk 0 []).xs)]] C (Kze hy11) E Z E E E E E E E E E E ?_
    obtain⟨y13,hy13,h14⟩:=Khf h12
    refine gO 1 E ?_
    refine Kid [0] (I y13.1) [.box 25 (fQ y13.2),.box 47 [I 0,S [],S [],I 0,I 0,S [],I 0,I 0,I 0,I 0,.d (.ro (KD.mk 0 []).n (KD.mk 0 []).xs)]] C (Kzb hy13) E Z E E E E E E E E E E ?_
    refine Kfd hΓ (gs:=[I 3,I y13.1,S [],I 0,I 0,I 0,I 0]) E E E E E E E ?_
    refine eo_s Z (nblt.1 E) (Klk 47 11 10 (OpP.s (Kli hΓ [10] (gs:=[I 1,S [100,105,115,107],S y11.1,I 3,I y13.1,S [],I 0,I 0,I 0,I 0,.d (.v (.slice none 0 0))]) E E E E E E)) E) ?_
    refine Kij 2 [24] _ [.box 25 (fQ y13.2),.box 47 [I 0,S [],S [],I 0,I 0,S [],I 0,I 0,I 0,I 0,.d (.ro (KD.mk 0 []).n (KD.mk 0 []).xs)],.dead] E E E Z ?_
    refine Kqf hΓ E E E E E E E E Z ?_
    refine Kil [.box 25 (fQ y13.2),.box 47 [I 1,S [100,105,115,107],S y11.1,I 3,I y13.1,S [],I 0,I 0,I 0,I 0,.d (.ro (pk Kus ([]:List Kur)).n (pk Kus ([]:List Kur)).xs)],.dead] E ?_
    refine gO 6 E ?_
    obtain rfl:=oSi h14
    exact Kis hΓ [_,_] (.inr E) E E E E (.inr ⟨HB.mk E,E⟩)
   have h15:=cF h9 hb
   refine gA 6 E ?_
   refine Kgy E (fun hb=>?_) (fun hb=>?_)
   ·have h16:=cT h15 hb
    obtain⟨y17,hy17,h18⟩:=Khf h16
    refine gA 3 E ?_
    refine Kie C (Kzf hy17) E Z E E E E E ?_
    obtain⟨y19,hy19,h20⟩:=Khf h18
    refine Kid [0] (S y19.1) [.box 25 (fQ y19.2),.box 47 [I 0,S [],S [],I 0,I 0,S [],I 0,I 0,I 0,I 0,.d (.ro (KD.mk 0 []).n (KD.mk 0 []).xs)]] C (Kze hy19) E Z E E E E E E E E E E ?_
    refine gO 1 E ?_
    refine Khz hΓ (enc:=(eN .i64)) [2,5,12] E E E E E E E E E E E E Z ?_
    obtain⟨y21,hy21,h22⟩:=Khf h20
    refine Kid [0] (I y21.1) [.box 25 (fQ y21.2),.box 47 [I 0,S [],S [],I 0,I 0,S [],I 0,I 0,I 0,I 0,.d (.ro (KD.mk 0 []).n (KD.mk 0 []).xs)]] C (Kzc hy21) E Z E E E E E E E E E E ?_
    refine eo_o E (Klp hΓ (gs:=[I 1,I y21.1,I 0,I 0]) E E E E E E) ?_
    refine Kfd hΓ (gs:=[I 4,I 0,S [],I 1,I y21.1,I 0,I 0]) E E E E E E E ?_
    refine eo_s Z (nblt.1 E) (Klk 47 11 10 (OpP.s (Kli hΓ [10] (gs:=[I 1,S [118,101,114,115,105,111,110],S y19.1,I 4,I 0,S [],I 1,I y21.1,I 0,I 0,.d (.v (.slice none 0 0))]) E E E E E E)) E) ?_
    refine Kij 2 [35] _ [.box 25 (fQ y21.2),.box 47 [I 0,S [],S [],I 0,I 0,S [],I 0,I 0,I 0,I 0,.d (.ro (KD.mk 0 []).n (KD.mk 0 []).xs)],.dead] E E E Z ?_
    refine Kqf hΓ E E E E E E E E Z ?_
    refine Kil [.box 25 (fQ y21.2),.box 47 [I 1,S [118,101,114,115,105,111,110],S y19.1,I 4,I 0,S [],I 1,I y21.1,I 0,I 0,.d (.ro (pk Kus ([]:List Kur)).n (pk Kus ([]:List Kur)).xs)],.dead] E ?_
    refine gO 6 E ?_
    obtain rfl:=oSi h22
    exact Kis hΓ [_,_] (.inr E) E E E E (.inr ⟨HB.mk E,E⟩)
   have h23:=cF h15 hb
   refine gA 6 E ?_
   refine Kgy E (fun hb=>?_) (fun hb=>?_)
   ·have h24:=cT h23 hb
    refine gA 3 E ?_
    refine Khz hΓ (enc:=eS) [[115,105,122,101],[111,115]] E E E E E E E E E E E E Z ?_
    obtain⟨y25,hy25,h26⟩:=Khf h24
    refine Kid [0] (S y25.1) [.box 25 (fQ y25.2),.box 47 [I 0,S [],S [],I 0,I 0,S [],I 0,I 0,I 0,I 0,.d (.ro (KD.mk 0 []).n (KD.mk 0 []).xs)]] C (Kze hy25) E Z E E E E E E E E E E ?_
    obtain⟨y27,hy27,h28⟩:=Khf h26
    refine gO 1 E ?_
    refine Kie C (Kzf hy27) E Z E E E E E ?_
    obtain⟨y29,hy29,h30⟩:=Khf h28
    refine Kid [0] (S y29.1) [.box 25 (fQ y29.2),.box 47 [I 0,S [],S [],I 0,I 0,S [],I 0,I 0,I 0,I 0,.d (.ro (KD.mk 0 []).n (KD.mk 0 []).xs)]] C (Kze hy29) E Z E E E E E E E E E E ?_
    refine gO 1 E ?_
    refine Khz hΓ (enc:=(eN .i64)) [0,5,-3] E E E E E E E E E E E E Z ?_
    obtain⟨y31,hy31,h32⟩:=Khf h30
    refine Kid [0] (I y31.1) [.box 25 (fQ y31.2),.box 47 [I 0,S [],S [],I 0,I 0,S [],I 0,I 0,I 0,I 0,.d (.ro (KD.mk 0 []).n (KD.mk 0 []).xs)]] C (Kzc hy31) E Z E E E E E E E E E E ?_
    refine Kfd hΓ (gs:=[I 1,I y31.1,S [],I 0,I 0,I 0,I 0]) E E E E E E E ?_
    refine eo_s Z (nblt.1 E) (Klk 47 11 10 (OpP.s (Kli hΓ [10] (gs:=[I 1,S y25.1,S y29.1,I 1,I y31.1,S [],I 0,I 0,I 0,I 0,.d (.v (.slice none 0 0))]) E E E E E E)) E) ?_
    refine Kij 2 [48] _ [.box 25 (fQ y31.2),.box 47 [I 0,S [],S [],I 0,I 0,S [],I 0,I 0,I 0,I 0,.d (.ro (KD.mk 0 []).n (KD.mk 0 []).xs)],.dead] E E E Z ?_
    refine Kqf hΓ E E E E E E E E Z ?_
    refine Kil [.box 25 (fQ y31.2),.box 47 [I 1,S y25.1,S y29.1,I 1,I y31.1,S [],I 0,I 0,I 0,I 0,.d (.ro (pk Kus ([]:List Kur)).n (pk Kus ([]:List Kur)).xs)],.dead] E ?_
    refine gO 6 E ?_
    obtain rfl:=oSi h32
    exact Kis hΓ [_,_] (.inr E) E E E E (.inr ⟨HB.mk E,E⟩)
   have h33:=cF h23 hb
   obtain⟨y34,hy34,h35⟩:=Khf h33
   refine gA 6 E ?_
   refine Kie C (Kzf hy34) E Z E E E E E ?_
   obtain⟨y36,hy36,h37⟩:=Khf h35
   refine Kid [0] (S y36.1) [.box 25 (fQ y36.2),.box 47 [I 0,S [],S [],I 0,I 0,S [],I 0,I 0,I 0,I 0,.d (.ro (KD.mk 0 []).n (KD.mk 0 []).xs)]] C (Kze hy36) E Z E E E E E E E E E E ?_
   refine gO 1 E ?_
   refine Khz hΓ (enc:=eS) [[108,105,110,117,120],[109,97,99],[120,34,121,92,122]] E E E E E E E E E E E E Z ?_
   obtain⟨y38,hy38,h39⟩:=Khf h37
   refine Kid [0] (S y38.1) [.box 25 (fQ y38.2),.box 47 [I 0,S [],S [],I 0,I 0,S [],I 0,I 0,I 0,I 0,.d (.ro (KD.mk 0 []).n (KD.mk 0 []).xs)]] C (Kze hy38) E Z E E E E E E E E E E ?_
   refine Kfd hΓ (gs:=[I 2,I 0,S y38.1,I 0,I 0,I 0,I 0]) E E E E E E E ?_
   refine eo_s Z (nblt.1 E) (Klk 47 11 10 (OpP.s (Kli hΓ [10] (gs:=[I 1,S [111,115],S y36.1,I 2,I 0,S y38.1,I 0,I 0,I 0,I 0,.d (.v (.slice none 0 0))]) E E E E E E)) E) ?_
   refine Kij 2 [56] _ [.box 25 (fQ y38.2),.box 47 [I 0,S [],S [],I 0,I 0,S [],I 0,I 0,I 0,I 0,.d (.ro (KD.mk 0 []).n (KD.mk 0 []).xs)],.dead] E E E Z ?_
   refine Kqf hΓ E E E E E E E E Z ?_
   refine Kil [.box 25 (fQ y38.2),.box 47 [I 1,S [111,115],S y36.1,I 2,I 0,S y38.1,I 0,I 0,I 0,I 0,.d (.ro (pk Kus ([]:List Kur)).n (pk Kus ([]:List Kur)).xs)],.dead] E ?_
   refine gO 4 E ?_
   obtain rfl:=oSi h39
   exact Kis hΓ [_,_] (.inr E) E E E E (.inr ⟨HB.mk E,E⟩)
  have h40:=cF h2 hb
  refine gA 5 E ?_
  refine Khz hΓ (enc:=(eN .i64)) [2,3,4] E E E E E E E E E E E E Z ?_
  obtain⟨y41,hy41,h42⟩:=Khf h40
  refine Kid [0] (I y41.1) [.box 25 (fQ y41.2),.box 47 [I 0,S [],S [],I 0,I 0,S [],I 0,I 0,I 0,I 0,.d (.ro (KD.mk 0 []).n (KD.mk 0 []).xs)]] C (Kzc hy41) E Z E E E E E E E E E E ?_
  refine eo_s Z (nblt.1 E) (Klk 47 11 10 (OpP.s (Kli hΓ [10] (gs:=[I y41.1,S [],S [],I 0,I 0,S [],I 0,I 0,I 0,I 0,.d (.v (.slice none 0 0))]) E E E E E E)) E) ?_
  refine Kqa hΓ E E E Z ?_
  refine Kqf hΓ E E E E E E E E Z ?_
  refine Kil [.box 25 (fQ y41.2),.box 47 [I 0,S [],S [],I 0,I 0,S [],I 0,I 0,I 0,I 0,.d (.ro (KD.mk 0 []).n (KD.mk 0 []).xs)],rO 47 11 Kus ([]:List Kur),.box 47 [I y41.1,S [],S [],I 0,I 0,S [],I 0,I 0,I 0,I 0,.sl 2 ([]:List Kur).length]] E ?_
  obtain⟨q43,hq43,h44⟩:=Khf h42
  refine gO 15 E ?_
  refine Kku [(0,.ptr 0 0),(1,I most),(4,.ptr 1 0),(5,.ptr 3 0),(6,I q43.2)] [.box 25 (fQ q43.1),.box 47 [I 0,S [],S [],I 0,I 0,S [],I 0,I 0,I 0,I 0,.d (.ro (KD.mk 0 []).n (KD.mk 0 []).xs)],rO 47 11 Kus ([]:List Kur),.box 47 [I y41.1,S [],S [],I 0,I 0,S [],I 0,I 0,I 0,I 0,.sl 2 ([]:List Kur).length]] ?_ ?_
  ·refine Kgy E (fun hb=>?_) (fun hb=>?_)
   ·have h45:=cT hq43 hb
    refine gA 2 E ?_
    refine Khz hΓ (enc:=(eN .i64)) [2,2,3] E E E E E E E E E E E E Z ?_
    obtain⟨y46,hy46,h47⟩:=Khf h45
    refine Kid [0] (I y46.1) [.box 25 (fQ y46.2),.box 47 [I 0,S [],S [],I 0,I 0,S [],I 0,I 0,I 0,I 0,.d (.ro (KD.mk 0 []).n (KD.mk 0 []).xs)],rO 47 11 Kus ([]:List Kur),.box 47 [I y41.1,S [],S [],I 0,I 0,S [],I 0,I 0,I 0,I 0,.sl 2 ([]:List Kur).length]] C (Kzc hy46) E Z E E E E E E E E E E ?_
    refine gO 2 E ?_
    obtain rfl:=oSi h47
    exact⟨⟨E,E,E,E,E,tV⟩,[],E,.inl E⟩
   have h48:=cF hq43 hb
   refine gA 1 E ?_
   obtain rfl:=oSi h48
   exact⟨⟨E,E,E,E,E,tV⟩,[],E,.inl E⟩
  refine gA 8 E ?_
  obtain⟨q52,hq52,h53⟩:=Khf h44
  obtain⟨hb55,h56⟩:=Khg hq52
  replace hb55:=of_decide_eq_true hb55
  refine Kku [(4,.ptr 1 0),(5,.ptr 3 0)] [.box 25 (fQ q52.1),.box 47 [I 0,S [],S [],I 0,I 0,S [],I 0,I 0,I 0,I 0,.d (.ro (KD.mk 0 []).n (KD.mk 0 []).xs)],rO 47 11 Kus q52.2,.box 47 [I y41.1,S [],S [],I 0,I 0,S [],I 0,I 0,I 0,I 0,.sl 2 q52.2.length]] ?_ ?_
  ·refine gA 1 E ?_
   refine Kiw h56 (fun i49 s50=>[(0,.ptr 0 0),(1,I most),(4,.ptr 1 0),(5,.ptr 3 0),(67,I q43.2),(68,I (i49:Int))]) (fun s50=>[.box 25 (fQ s50.1),.box 47 [I 0,S [],S [],I 0,I 0,S [],I 0,I 0,I 0,I 0,.d (.ro (KD.mk 0 []).n (KD.mk 0 []).xs)],rO 47 11 Kus s50.2,.box 47 [I y41.1,S [],S [],I 0,I 0,S [],I 0,I 0,I 0,I 0,.sl 2 s50.2.length]]) ⟨⟨E,E,E,E,E,E,tV⟩,[],E,.inl E⟩ (fun i49 s50 y60 hlt hy58=>?_) (fun hge=>?_)
   ·refine gA 6 E ?_
    refine Kgz E (dT hlt) ?_
    obtain⟨y61,hy61,h62⟩:=Khf hy58
    refine gA 9 E ?_
    refine Kid [0] (.agg [I y61.1.Kind,S y61.1.Name,S y61.1.Op,I y61.1.Value.Kind,I y61.1.Value.Number,S y61.1.Value.Words,I y61.1.Value.Version.1,I y61.1.Value.Version.2.1,I y61.1.Value.Version.2.2.1,I y61.1.Value.Version.2.2.2,.d (.ro y61.1.Kids.n y61.1.Kids.xs)]) [.box 25 (fQ y61.2),.box 47 [I 0,S [],S [],I 0,I 0,S [],I 0,I 0,I 0,I 0,.d (.ro (KD.mk 0 []).n (KD.mk 0 []).xs)],rO 47 11 Kus s50.2,.box 47 [I y41.1,S [],S [],I 0,I 0,S [],I 0,I 0,I 0,I 0,.sl 2 s50.2.length]] C (ih hy61) E Z E E E E E E E E E E ?_
    refine Kqa hΓ E E E Z ?_
    refine Kqf hΓ E E E E E E E E Z ?_
    refine Kil [.box 25 (fQ y61.2),.box 47 [I 0,S [],S [],I 0,I 0,S [],I 0,I 0,I 0,I 0,.d (.ro (KD.mk 0 []).n (KD.mk 0 []).xs)],rO 47 11 Kus s50.2,.box 47 [I y41.1,S [],S [],I 0,I 0,S [],I 0,I 0,I 0,I 0,.sl 2 s50.2.length],.box 47 [I y61.1.Kind,S y61.1.Name,S y61.1.Op,I y61.1.Value.Kind,I y61.1.Value.Number,S y61.1.Value.Words,I y61.1.Value.Version.1,I y61.1.Value.Version.2.1,I y61.1.Value.Version.2.2.1,I y61.1.Value.Version.2.2.2,.d (.ro y61.1.Kids.n y61.1.Kids.xs)]] E ?_
    refine gO 10 E ?_
    refine Khe 4 [(0,.ptr 0 0),(1,I most),(4,.ptr 1 0),(5,.ptr 3 0),(7,.ptr 4 0),(67,I q43.2),(68,I (i49:Int)),(83,B (((y61.1.Kind:Int)==y41.1)&&((y41.1:Int) != 2)))] [.box 25 (fQ y61.2),.box 47 [I 0,S [],S [],I 0,I 0,S [],I 0,I 0,I 0,I 0,.d (.ro (KD.mk 0 []).n (KD.mk 0 []).xs)],rO 47 11 Kus s50.2,.box 47 [I y41.1,S [],S [],I 0,I 0,S [],I 0,I 0,I 0,I 0,.sl 2 s50.2.length],.box 47 [I y61.1.Kind,S y61.1.Name,S y61.1.Op,I y61.1.Value.Kind,I y61.1.Value.Number,S y61.1.Value.Words,I y61.1.Value.Version.1,I y61.1.Value.Version.2.1,I y61.1.Value.Version.2.2.1,I y61.1.Value.Version.2.2.2,.d (.ro y61.1.Kids.n y61.1.Kids.xs)]] ?_ ?_
    ·refine Kot E E (fun hb=>?_) (fun hb=>?_)
     ·refine gO 5 E ?_
      exact⟨⟨E,E,E,E,E,E,E,Kgd E (Kiy hb),tV⟩,[],E,.inl E⟩
     refine gO 5 E ?_
     exact⟨⟨E,E,E,E,E,E,E,Kgd E (Kiz hb),tV⟩,[],E,.inl E⟩
    refine gO 2 E ?_
    refine Kgy E (fun hb=>?_) (fun hb=>?_)
    ·have h63:=cT h62 hb
     obtain⟨l64,hl64,h65⟩:=Khf h63
     refine gA 4 E ?_
     refine eo_o E (Kmi (Kpn hΓ (g:=.d (.ro y61.1.Kids.n y61.1.Kids.xs)) E) (G.Le.unk Kxu hl64)) ?_
     obtain⟨y66,hy66,h67⟩:=Khf h65
     refine Kln 2 [.box 25 (fQ y61.2),.box 47 [I 0,S [],S [],I 0,I 0,S [],I 0,I 0,I 0,I 0,.d (.ro (KD.mk 0 []).n (KD.mk 0 []).xs)],rO 47 11 Kus s50.2,.box 47 [I y41.1,S [],S [],I 0,I 0,S [],I 0,I 0,I 0,I 0,.junk],.box 47 [I y61.1.Kind,S y61.1.Name,S y61.1.Op,I y61.1.Value.Kind,I y61.1.Value.Number,S y61.1.Value.Words,I y61.1.Value.Version.1,I y61.1.Value.Version.2.1,I y61.1.Value.Version.2.2.1,I y61.1.Value.Version.2.2.2,.d (.ro y61.1.Kids.n y61.1.Kids.xs)]] E Z ?_
     refine Kim hΓ (enc:=Kus) hy66 E E E E E E E E E (fun _=>E) E E E E ?_
     refine gO 1 E ?_
     refine Kqf hΓ E E E E E E E E Z ?_
     refine Kil [.box 25 (fQ y61.2),.box 47 [I 0,S [],S [],I 0,I 0,S [],I 0,I 0,I 0,I 0,.d (.ro (KD.mk 0 []).n (KD.mk 0 []).xs)],rO 47 11 Kus y66,.box 47 [I y41.1,S [],S [],I 0,I 0,S [],I 0,I 0,I 0,I 0,.sl 2 y66.length],.box 47 [I y61.1.Kind,S y61.1.Name,S y61.1.Op,I y61.1.Value.Kind,I y61.1.Value.Number,S y61.1.Value.Words,I y61.1.Value.Version.1,I y61.1.Value.Version.2.1,I y61.1.Value.Version.2.2.1,I y61.1.Value.Version.2.2.2,.d (.ro y61.1.Kids.n y61.1.Kids.xs)]] E ?_
     refine gO 7 E ?_
     obtain rfl:=oSi h67
     exact⟨⟨E,E,E,E,E,Kgc E (Kgb (by omega)),tV⟩,[_],E,.inr ⟨HB.mk E,FB.mk E,Z⟩⟩
    have h68:=cF h62 hb
    refine gA 4 E ?_
    refine Khz hΓ (enc:=Kus) [y61.1] E E E E E E E E E E E E Z ?_
    obtain⟨y69,hy69,h70⟩:=Khf h68
    refine Kln 2 [.box 25 (fQ y61.2),.box 47 [I 0,S [],S [],I 0,I 0,S [],I 0,I 0,I 0,I 0,.d (.ro (KD.mk 0 []).n (KD.mk 0 []).xs)],rO 47 11 Kus s50.2,.box 47 [I y41.1,S [],S [],I 0,I 0,S [],I 0,I 0,I 0,I 0,.junk],.box 47 [I y61.1.Kind,S y61.1.Name,S y61.1.Op,I y61.1.Value.Kind,I y61.1.Value.Number,S y61.1.Value.Words,I y61.1.Value.Version.1,I y61.1.Value.Version.2.1,I y61.1.Value.Version.2.2.1,I y61.1.Value.Version.2.2.2,.d (.ro y61.1.Kids.n y61.1.Kids.xs)]] E Z ?_
    refine Kim hΓ (enc:=Kus) hy69 E E E E E E E E E (fun _=>E) E E E E ?_
    refine gO 1 E ?_
    refine Kqf hΓ E E E E E E E E Z ?_
    refine Kil [.box 25 (fQ y61.2),.box 47 [I 0,S [],S [],I 0,I 0,S [],I 0,I 0,I 0,I 0,.d (.ro (KD.mk 0 []).n (KD.mk 0 []).xs)],rO 47 11 Kus y69,.box 47 [I y41.1,S [],S [],I 0,I 0,S [],I 0,I 0,I 0,I 0,.sl 2 y69.length],.box 47 [I y61.1.Kind,S y61.1.Name,S y61.1.Op,I y61.1.Value.Kind,I y61.1.Value.Number,S y61.1.Value.Words,I y61.1.Value.Version.1,I y61.1.Value.Version.2.1,I y61.1.Value.Version.2.2.1,I y61.1.Value.Version.2.2.2,.d (.ro y61.1.Kids.n y61.1.Kids.xs)]] E ?_
    refine gO 7 E ?_
    obtain rfl:=oSi h70
    exact⟨⟨E,E,E,E,E,Kgc E (Kgb (by omega)),tV⟩,[_],E,.inr ⟨HB.mk E,FB.mk E,Z⟩⟩
   refine gA 6 E ?_
   refine Kha E (dF hge) ?_
   refine gA 4 E ?_
   exact⟨⟨E,E,tV⟩,[],E,.inl E⟩
  refine gA 4 E ?_
  refine Kij 2 [97] _ [.box 25 (fQ q52.1),.box 47 [I 0,S [],S [],I 0,I 0,S [],I 0,I 0,I 0,I 0,.d (.ro (KD.mk 0 []).n (KD.mk 0 []).xs)],.dead,.box 47 [I y41.1,S [],S [],I 0,I 0,S [],I 0,I 0,I 0,I 0,.d (.ro (pk Kus q52.2).n (pk Kus q52.2).xs)]] E E E Z ?_
  refine Kqf hΓ E E E E E E E E Z ?_
  refine Kil [.box 25 (fQ q52.1),.box 47 [I y41.1,S [],S [],I 0,I 0,S [],I 0,I 0,I 0,I 0,.d (.ro (pk Kus q52.2).n (pk Kus q52.2).xs)],.dead,.box 47 [I y41.1,S [],S [],I 0,I 0,S [],I 0,I 0,I 0,I 0,.d (.ro (pk Kus q52.2).n (pk Kus q52.2).xs)]] E ?_
  refine gO 3 E ?_
  obtain rfl:=oSi h53
  exact Kis hΓ [_,_,_] (.inr E) E E E E (.inr ⟨HB.mk E,E⟩)
theorem Kzh{s:Kup}{low:Int}{high:Int}{r:Int×Kup}(h:Kvc s low high=some r):EC Tryz.prog 6 [.ptr 0 0,I low,I high] [.box 25 (fQ s)] fun g hp'=>g=I r.1∧hp'=[.box 25 (fQ r.2)]:=by
 unfold Kvc at h
 refine QN Tryz.func6 E Z<|gA 13 E<|jC E h (fun h1=>?_) fun h2=>bK h2 fun y3 hy3 h4=>gA 10 E<|Kid [0] (I y3.1) [.box 25 (fQ y3.2)] C (Kzb hy3) E Z E E E E E E E E E E<|gO 5 E<|oSi h4▸Kis hΓ [] (.inr E) E E E E (.inl E)
 exact gA 8 E<|oSi h1▸Kis hΓ [] (.inr E) E E E E (.inl E)
theorem Kzi{s:Kup}{low:Int}{high:Int}{r:Int×Kup}(h:Kvd s low high=some r):EC Tryz.prog 28 [.ptr 0 0,I low,I high] [.box 25 (fQ s)] fun g hp'=>g=I r.1∧hp'=[.box 25 (fQ r.2)]:=by
 unfold Kvd at h
 refine QN Tryz.func28 E Z<|bK h fun y1 hy1 h2=>gA 9 E<|Kid [0] (B y1.1) [.box 25 (fQ y1.2)] C (Kzd hy1) E Z E E E E E E E E E E<|gO 2 E<|jC E h2 (fun h3=>?_) fun h6=>bK h6 fun y7 hy7 h8=>gA 7 E<|Kid [0] (I y7.1) [.box 25 (fQ y7.2)] C (Kzh hy7) E Z E E E E E E E E E E<|gO 4 E<|oSi h8▸Kis hΓ [] (.inr E) E E E E (.inl E)
 exact gA 9 E<|Khz hΓ (enc:=(eN .i64)) [wi (low - 1),wi (high+1),low,high,-1099511627776,1099511627776] E E E E E E E E E E E E Z<|bK h3 fun y4 hy4 h5=>Kid [0] (I y4.1) [.box 25 (fQ y4.2)] C (Kzc hy4) E Z E E E E E E E E E E<|gO 5 E<|oSi h5▸Kis hΓ [] (.inr E) E E E E (.inl E)
theorem Kzj{s:Kup}{r:Kuq×Kup}(h:Kve s=some r):EC Tryz.prog 27 [.ptr 0 0] [.box 25 (fQ s)] fun g hp'=>g=.agg [I r.1.Kind,I r.1.Number,S r.1.Words,I r.1.Version.1,I r.1.Version.2.1,I r.1.Version.2.2.1,I r.1.Version.2.2.2]∧hp'=[.box 25 (fQ r.2)]:=by
 unfold Kve at h
 refine QN Tryz.func27 E Z<|gA 2 E<|Kqa hΓ E E E Z<|gO 5 E<|Khz hΓ (enc:=(eN .i64)) [1,1,2,2,3,4] E E E E E E E E E E E E Z<|bK h fun y1 hy1 h2=>Kid [0] (I y1.1) [.box 25 (fQ y1.2),.box 40 [I 0,I 0,S [],I 0,I 0,I 0,I 0]] C (Kzc hy1) E Z E E E E E E E E E E<|Kfd hΓ (gs:=[I y1.1,I 0,S [],I 0,I 0,I 0,I 0]) E E E E E E E<|Kqa hΓ E E E Z<|Kqf hΓ E E E E E E E E Z<|Kil [.box 25 (fQ y1.2),.box 40 [I 0,I 0,S [],I 0,I 0,I 0,I 0],.box 40 [I y1.1,I 0,S [],I 0,I 0,I 0,I 0]] E<|bK h2 fun q3 hq3 h4=>gO 9 E<|Kku [(0,.ptr 0 0),(2,.ptr 1 0),(3,.ptr 2 0)] [.box 25 (fQ q3.1),.box 40 [I 0,I 0,S [],I 0,I 0,I 0,I 0],.box 40 [I q3.2.Kind,I q3.2.Number,S q3.2.Words,I q3.2.Version.1,I q3.2.Version.2.1,I q3.2.Version.2.2.1,I q3.2.Version.2.2.2]] ?_ ?_
 ·refine gA 7 E<|jC E hq3 (fun h5=>?_) fun h8=>gA 6 E<|jC E h8 (fun h9=>?_) fun h12=>?_
  ·exact gA 2 E<|Khz hΓ (enc:=(eN .i64)) [0,5,12,-3,100000000] E E E E E E E E E E E E Z<|bK h5 fun y6 hy6 h7=>Kid [0] (I y6.1) [.box 25 (fQ y6.2),.box 40 [I 0,I 0,S [],I 0,I 0,I 0,I 0],.box 40 [I y1.1,I 0,S [],I 0,I 0,I 0,I 0]] C (Kzc hy6) E Z E E E E E E E E E E<|gO 1 E<|Kqf hΓ E E E E E E E E Z<|Kil [.box 25 (fQ y6.2),.box 40 [I 0,I 0,S [],I 0,I 0,I 0,I 0],.box 40 [I y1.1,I y6.1,S [],I 0,I 0,I 0,I 0]] E<|gO 2 E<|oSi h7▸⟨⟨E,E,E,tV⟩,[],E,.inl E⟩
  ·exact gA 2 E<|Khz hΓ (enc:=eS) [[108,105,110,117,120],[109,97,99],[],[97,32,34,98,92],[119,105,110]] E E E E E E E E E E E E Z<|bK h9 fun y10 hy10 h11=>Kid [0] (S y10.1) [.box 25 (fQ y10.2),.box 40 [I 0,I 0,S [],I 0,I 0,I 0,I 0],.box 40 [I y1.1,I 0,S [],I 0,I 0,I 0,I 0]] C (Kze hy10) E Z E E E E E E E E E E<|gO 1 E<|Kqf hΓ E E E E E E E E Z<|Kil [.box 25 (fQ y10.2),.box 40 [I 0,I 0,S [],I 0,I 0,I 0,I 0],.box 40 [I y1.1,I 0,S y10.1,I 0,I 0,I 0,I 0]] E<|gO 2 E<|oSi h11▸⟨⟨E,E,E,tV⟩,[],E,.inl E⟩
  refine gA 6 E<|jC E h12 (fun h13=>?_) fun h16=>gA 2 E<|Khz hΓ (enc:=(eN .i64)) [0,2,12] E E E E E E E E E E E E Z<|bK h16 fun y17 hy17 h18=>Kid [0] (I y17.1) [.box 25 (fQ y17.2),.box 40 [I 0,I 0,S [],I 0,I 0,I 0,I 0],.box 40 [I y1.1,I 0,S [],I 0,I 0,I 0,I 0]] C (Kzc hy17) E Z E E E E E E E E E E<|gO 1 E<|Khz hΓ (enc:=(eN .i64)) [0,3] E E E E E E E E E E E E Z<|bK h18 fun y19 hy19 h20=>Kid [0] (I y19.1) [.box 25 (fQ y19.2),.box 40 [I 0,I 0,S [],I 0,I 0,I 0,I 0],.box 40 [I y1.1,I 0,S [],I 0,I 0,I 0,I 0]] C (Kzc hy19) E Z E E E E E E E E E E<|eo_o E (Klp hΓ (gs:=[I 1,I y17.1,I y19.1,I 0]) E E E E E E)<|gO 1 E<|Kqf hΓ E E E E E E E E Z<|Kil [.box 25 (fQ y19.2),.box 40 [I 0,I 0,S [],I 0,I 0,I 0,I 0],.box 40 [I y1.1,I 0,S [],I 1,I y17.1,I y19.1,I 0]] E<|gO 2 E<|oSi h20▸⟨⟨E,E,E,tV⟩,[],E,.inl E⟩
  exact bK h13 fun y14 hy14 h15=>gA 2 E<|Kid [0] (I y14.1) [.box 25 (fQ y14.2),.box 40 [I 0,I 0,S [],I 0,I 0,I 0,I 0],.box 40 [I y1.1,I 0,S [],I 0,I 0,I 0,I 0]] C (Kzb hy14) E Z E E E E E E E E E E<|gO 1 E<|Kqf hΓ E E E E E E E E Z<|Kil [.box 25 (fQ y14.2),.box 40 [I 0,I 0,S [],I 0,I 0,I 0,I 0],.box 40 [I y1.1,I y14.1,S [],I 0,I 0,I 0,I 0]] E<|gO 2 E<|oSi h15▸⟨⟨E,E,E,tV⟩,[],E,.inl E⟩
 refine bK h4 fun y21 hy21 h22=>gA 5 E<|Kid [0] (B y21.1) [.box 25 (fQ y21.2),.box 40 [I 0,I 0,S [],I 0,I 0,I 0,I 0],.box 40 [I q3.2.Kind,I q3.2.Number,S q3.2.Words,I q3.2.Version.1,I q3.2.Version.2.1,I q3.2.Version.2.2.1,I q3.2.Version.2.2.2]] C (Kzd hy21) E Z E E E E E E E E E E<|bK h22 fun q23 hq23 h24=>gO 2 E<|Kku [(2,.ptr 1 0),(3,.ptr 2 0)] [.box 25 (fQ q23.1),.box 40 [I 0,I 0,S [],I 0,I 0,I 0,I 0],.box 40 [I q23.2.Kind,I q23.2.Number,S q23.2.Words,I q23.2.Version.1,I q23.2.Version.2.1,I q23.2.Version.2.2.1,I q23.2.Version.2.2.2]] ?_ ?_
 ·refine jC E hq23 (fun h25=>?_) fun h32=>gA 1 E<|oSi h32▸⟨⟨E,E,tV⟩,[],E,.inl E⟩
  exact bK h25 fun y26 hy26 h27=>gA 2 E<|Kid [0] (I y26.1) [.box 25 (fQ y26.2),.box 40 [I 0,I 0,S [],I 0,I 0,I 0,I 0],.box 40 [I q3.2.Kind,I q3.2.Number,S q3.2.Words,I q3.2.Version.1,I q3.2.Version.2.1,I q3.2.Version.2.2.1,I q3.2.Version.2.2.2]] C (Kzi hy26) E Z E E E E E E E E E E<|bK h27 fun y28 hy28 h29=>gO 1 E<|Kie C (Kth hy28) E Z E E E E E<|Khz hΓ (enc:=eS) [[],[120],[195,169],y28] E E E E E E E E E E E E Z<|bK h29 fun y30 hy30 h31=>Kid [0] (S y30.1) [.box 25 (fQ y30.2),.box 40 [I 0,I 0,S [],I 0,I 0,I 0,I 0],.box 40 [I q3.2.Kind,I q3.2.Number,S q3.2.Words,I q3.2.Version.1,I q3.2.Version.2.1,I q3.2.Version.2.2.1,I q3.2.Version.2.2.2]] C (Kze hy30) E Z E E E E E E E E E E<|gO 1 E<|Kqf hΓ E E E E E E E E Z<|Kil [.box 25 (fQ y30.2),.box 40 [I 0,I 0,S [],I 0,I 0,I 0,I 0],.box 40 [I q3.2.Kind,I y26.1,S q3.2.Words,I q3.2.Version.1,I q3.2.Version.2.1,I q3.2.Version.2.2.1,I q3.2.Version.2.2.2]] E<|gO 1 E<|Kqf hΓ E E E E E E E E Z<|Kil [.box 25 (fQ y30.2),.box 40 [I 0,I 0,S [],I 0,I 0,I 0,I 0],.box 40 [I q3.2.Kind,I y26.1,S y30.1,I q3.2.Version.1,I q3.2.Version.2.1,I q3.2.Version.2.2.1,I q3.2.Version.2.2.2]] E<|gO 1 E<|oSi h31▸⟨⟨E,E,tV⟩,[],E,.inl E⟩
 exact gA 4 E<|Kqf hΓ E E E E E E E E Z<|Kil [.box 25 (fQ q23.1),.box 40 [I q23.2.Kind,I q23.2.Number,S q23.2.Words,I q23.2.Version.1,I q23.2.Version.2.1,I q23.2.Version.2.2.1,I q23.2.Version.2.2.2],.box 40 [I q23.2.Kind,I q23.2.Number,S q23.2.Words,I q23.2.Version.1,I q23.2.Version.2.1,I q23.2.Version.2.2.1,I q23.2.Version.2.2.2]] E<|gO 3 E<|oSi h24▸Kis hΓ [_,_] (.inr E) E E E E (.inr ⟨HB.mk E,E⟩)
theorem Kzk{s:List Kur}{r:List Kur}(h:Kvf s=some r):EC Tryz.prog 51 [.d (Sl Kus s)] [] fun g hp'=>g=.sl 0 r.length∧hp'=[rO 47 11 Kus r]:=by
 unfold Kvf at h
 refine QM Tryz.func51 E Z<|gA 2 E<|Kib (t:=0) 47 11 E Z<|gO 6 E<|Kgp hΓ E E E E E fun b hbn=>?_
 rcases b with _ | _
 ·exact gO 7 E<|Kia hΓ (enc:=Kus) ([]:List Kur) E E E E E E E E E E E E Z<|bK h fun y1 hy1 h2=>gO 1 E<|Kim hΓ (enc:=Kus) hy1 E E E E E E E E E (fun _=>E) E E E E<|gO 3 E<|Kmg 0 [.dead,rO 47 11 Kus y1] E Z<|Kju 1 0 [rO 47 11 Kus y1,.dead] E E E E E E<|gA 1 E<|Kkp<|oSi h2▸Kis hΓ [_] (.inr E) E E E E (.inr ⟨HB.mk E,E⟩)
 obtain rfl:=List.eq_nil_of_length_eq_zero (hbn rfl).1
 replace h:(some ([]:List Kur):Option (List Kur))=some r:=h
 exact gO 5 E<|Kib (t:=0) 47 11 E Z<|gO 4 E<|Kme 0 [.dead,rO 47 11 Kus ([]:List Kur)] E Z<|Kks 1 0 [rO 47 11 Kus ([]:List Kur),.dead] E E E E E E<|Kkp<|oSi h▸Kis hΓ [_] (.inr E) E E E E (.inr ⟨HB.mk E,E⟩)
theorem Kzl{k:Nat}{s:Kup}{r:Kur×Kup}(h:Kvg k s=some r):EC Tryz.prog 15 [.ptr 0 0] [.box 25 (fQ s)] fun g hp'=>g=.agg [I r.1.Kind,S r.1.Name,S r.1.Op,I r.1.Value.Kind,I r.1.Value.Number,S r.1.Value.Words,I r.1.Value.Version.1,I r.1.Value.Version.2.1,I r.1.Value.Version.2.2.1,I r.1.Value.Version.2.2.2,.d (.ro r.1.Kids.n r.1.Kids.xs)]∧hp'=[.box 25 (fQ r.2)]:=by
 unfold Kvg at h
 refine QN Tryz.func15 E Z<|gA 2 E<|Kqa hΓ E E E Z<|gO 6 E<|Khz hΓ (enc:=(eN .i64)) [0,1,2,2] E E E E E E E E E E E E Z<|bK h fun y1 hy1 h2=>Kid [0] (I y1.1) [.box 25 (fQ y1.2),.box 47 [I 0,S [],S [],I 0,I 0,S [],I 0,I 0,I 0,I 0,.d (.ro (KD.mk 0 []).n (KD.mk 0 []).xs)]] C (Kzc hy1) E Z E E E E E E E E E E<|bK h2 fun y3 hy3 h4=>Kid [0] (.agg [I y3.1.Kind,S y3.1.Name,S y3.1.Op,I y3.1.Value.Kind,I y3.1.Value.Number,S y3.1.Value.Words,I y3.1.Value.Version.1,I y3.1.Value.Version.2.1,I y3.1.Value.Version.2.2.1,I y3.1.Value.Version.2.2.2,.d (.ro y3.1.Kids.n y3.1.Kids.xs)]) [.box 25 (fQ y3.2),.box 47 [I 0,S [],S [],I 0,I 0,S [],I 0,I 0,I 0,I 0,.d (.ro (KD.mk 0 []).n (KD.mk 0 []).xs)]] C (Kzg hy3) E Z E E E E E E E E E E<|Kqa hΓ E E E Z<|Kqf hΓ E E E E E E E E Z<|Kil [.box 25 (fQ y3.2),.box 47 [I 0,S [],S [],I 0,I 0,S [],I 0,I 0,I 0,I 0,.d (.ro (KD.mk 0 []).n (KD.mk 0 []).xs)],.box 47 [I y3.1.Kind,S y3.1.Name,S y3.1.Op,I y3.1.Value.Kind,I y3.1.Value.Number,S y3.1.Value.Words,I y3.1.Value.Version.1,I y3.1.Value.Version.2.1,I y3.1.Value.Version.2.2.1,I y3.1.Value.Version.2.2.2,.d (.ro y3.1.Kids.n y3.1.Kids.xs)]] E<|bK h4 fun y5 hy5 h6=>gO 6 E<|Kid [0] (B y5.1) [.box 25 (fQ y5.2),.box 47 [I 0,S [],S [],I 0,I 0,S [],I 0,I 0,I 0,I 0,.d (.ro (KD.mk 0 []).n (KD.mk 0 []).xs)],.box 47 [I y3.1.Kind,S y3.1.Name,S y3.1.Op,I y3.1.Value.Kind,I y3.1.Value.Number,S y3.1.Value.Words,I y3.1.Value.Version.1,I y3.1.Value.Version.2.1,I y3.1.Value.Version.2.2.1,I y3.1.Value.Version.2.2.2,.d (.ro y3.1.Kids.n y3.1.Kids.xs)]] C (Kzd hy5) E Z E E E E E E E E E E<|bK h6 fun q7 hq7 h8=>gO 2 E<|Kkv [(0,.ptr 0 0),(2,.ptr 1 0),(3,.ptr 2 0)] [.box 25 (fQ q7.1),.box 47 [I 0,S [],S [],I 0,I 0,S [],I 0,I 0,I 0,I 0,.d (.ro (KD.mk 0 []).n (KD.mk 0 []).xs)],.box 47 [I q7.2.Kind,S q7.2.Name,S q7.2.Op,I q7.2.Value.Kind,I q7.2.Value.Number,S q7.2.Value.Words,I q7.2.Value.Version.1,I q7.2.Value.Version.2.1,I q7.2.Value.Version.2.2.1,I q7.2.Value.Version.2.2.2,.d (.ro q7.2.Kids.n q7.2.Kids.xs)]] ?_ ?_
 ·refine jC E hq7 (fun h9=>?_) fun h40=>gA 1 E<|Kkp<|oSi h40▸⟨⟨E,E,E,tV⟩,[],E,.inl E⟩
  refine bK h9 fun y10 hy10 h11=>gA 3 E<|Kid [0] (I y10.1) [.box 25 (fQ y10.2),.box 47 [I 0,S [],S [],I 0,I 0,S [],I 0,I 0,I 0,I 0,.d (.ro (KD.mk 0 []).n (KD.mk 0 []).xs)],.box 47 [I y3.1.Kind,S y3.1.Name,S y3.1.Op,I y3.1.Value.Kind,I y3.1.Value.Number,S y3.1.Value.Words,I y3.1.Value.Version.1,I y3.1.Value.Version.2.1,I y3.1.Value.Version.2.2.1,I y3.1.Value.Version.2.2.2,.d (.ro y3.1.Kids.n y3.1.Kids.xs)]] C (Kzb hy10) E Z E E E E E E E E E E<|gO 9 E<|jC E h11 (fun h12=>?_) fun h15=>gA 6 E<|jC E h15 (fun h16=>?_) fun h19=>?_
  ·exact gA 2 E<|Khz hΓ (enc:=eS) [[],[65],[116,114,117,101],[118,49],[118],[111,115]] E E E E E E E E E E E E Z<|bK h12 fun y13 hy13 h14=>Kid [0] (S y13.1) [.box 25 (fQ y13.2),.box 47 [I 0,S [],S [],I 0,I 0,S [],I 0,I 0,I 0,I 0,.d (.ro (KD.mk 0 []).n (KD.mk 0 []).xs)],.box 47 [I y3.1.Kind,S y3.1.Name,S y3.1.Op,I y3.1.Value.Kind,I y3.1.Value.Number,S y3.1.Value.Words,I y3.1.Value.Version.1,I y3.1.Value.Version.2.1,I y3.1.Value.Version.2.2.1,I y3.1.Value.Version.2.2.2,.d (.ro y3.1.Kids.n y3.1.Kids.xs)]] C (Kze hy13) E Z E E E E E E E E E E<|gO 1 E<|Kqf hΓ E E E E E E E E Z<|Kil [.box 25 (fQ y13.2),.box 47 [I 0,S [],S [],I 0,I 0,S [],I 0,I 0,I 0,I 0,.d (.ro (KD.mk 0 []).n (KD.mk 0 []).xs)],.box 47 [I y3.1.Kind,S y13.1,S y3.1.Op,I y3.1.Value.Kind,I y3.1.Value.Number,S y3.1.Value.Words,I y3.1.Value.Version.1,I y3.1.Value.Version.2.1,I y3.1.Value.Version.2.2.1,I y3.1.Value.Version.2.2.2,.d (.ro y3.1.Kids.n y3.1.Kids.xs)]] E<|gO 2 E<|Kkp<|oSi h14▸⟨⟨E,E,E,tV⟩,[],E,.inl E⟩
  ·exact gA 2 E<|Khz hΓ (enc:=eS) [[],[61],[61,61],[60]] E E E E E E E E E E E E Z<|bK h16 fun y17 hy17 h18=>Kid [0] (S y17.1) [.box 25 (fQ y17.2),.box 47 [I 0,S [],S [],I 0,I 0,S [],I 0,I 0,I 0,I 0,.d (.ro (KD.mk 0 []).n (KD.mk 0 []).xs)],.box 47 [I y3.1.Kind,S y3.1.Name,S y3.1.Op,I y3.1.Value.Kind,I y3.1.Value.Number,S y3.1.Value.Words,I y3.1.Value.Version.1,I y3.1.Value.Version.2.1,I y3.1.Value.Version.2.2.1,I y3.1.Value.Version.2.2.2,.d (.ro y3.1.Kids.n y3.1.Kids.xs)]] C (Kze hy17) E Z E E E E E E E E E E<|gO 1 E<|Kqf hΓ E E E E E E E E Z<|Kil [.box 25 (fQ y17.2),.box 47 [I 0,S [],S [],I 0,I 0,S [],I 0,I 0,I 0,I 0,.d (.ro (KD.mk 0 []).n (KD.mk 0 []).xs)],.box 47 [I y3.1.Kind,S y3.1.Name,S y17.1,I y3.1.Value.Kind,I y3.1.Value.Number,S y3.1.Value.Words,I y3.1.Value.Version.1,I y3.1.Value.Version.2.1,I y3.1.Value.Version.2.2.1,I y3.1.Value.Version.2.2.2,.d (.ro y3.1.Kids.n y3.1.Kids.xs)]] E<|gO 2 E<|Kkp<|oSi h18▸⟨⟨E,E,E,tV⟩,[],E,.inl E⟩
  refine gA 6 E<|jC E h19 (fun h20=>?_) fun h23=>gA 6 E<|jC E h23 (fun h24=>?_) fun h27=>?_
  ·exact bK h20 fun y21 hy21 h22=>gA 2 E<|Kid [0] (.agg [I y21.1.Kind,I y21.1.Number,S y21.1.Words,I y21.1.Version.1,I y21.1.Version.2.1,I y21.1.Version.2.2.1,I y21.1.Version.2.2.2]) [.box 25 (fQ y21.2),.box 47 [I 0,S [],S [],I 0,I 0,S [],I 0,I 0,I 0,I 0,.d (.ro (KD.mk 0 []).n (KD.mk 0 []).xs)],.box 47 [I y3.1.Kind,S y3.1.Name,S y3.1.Op,I y3.1.Value.Kind,I y3.1.Value.Number,S y3.1.Value.Words,I y3.1.Value.Version.1,I y3.1.Value.Version.2.1,I y3.1.Value.Version.2.2.1,I y3.1.Value.Version.2.2.2,.d (.ro y3.1.Kids.n y3.1.Kids.xs)]] C (Kzj hy21) E Z E E E E E E E E E E<|gO 1 E<|Kqf hΓ E E E E E E E E Z<|Kil [.box 25 (fQ y21.2),.box 47 [I 0,S [],S [],I 0,I 0,S [],I 0,I 0,I 0,I 0,.d (.ro (KD.mk 0 []).n (KD.mk 0 []).xs)],.box 47 [I y3.1.Kind,S y3.1.Name,S y3.1.Op,I y21.1.Kind,I y21.1.Number,S y21.1.Words,I y21.1.Version.1,I y21.1.Version.2.1,I y21.1.Version.2.2.1,I y21.1.Version.2.2.2,.d (.ro y3.1.Kids.n y3.1.Kids.xs)]] E<|gO 2 E<|Kkp<|oSi h22▸⟨⟨E,E,E,tV⟩,[],E,.inl E⟩
  ·exact bK h24 fun y25 hy25 h26=>gA 2 E<|Kid [0] (I y25.1) [.box 25 (fQ y25.2),.box 47 [I 0,S [],S [],I 0,I 0,S [],I 0,I 0,I 0,I 0,.d (.ro (KD.mk 0 []).n (KD.mk 0 []).xs)],.box 47 [I y3.1.Kind,S y3.1.Name,S y3.1.Op,I y3.1.Value.Kind,I y3.1.Value.Number,S y3.1.Value.Words,I y3.1.Value.Version.1,I y3.1.Value.Version.2.1,I y3.1.Value.Version.2.2.1,I y3.1.Value.Version.2.2.2,.d (.ro y3.1.Kids.n y3.1.Kids.xs)]] C (Kzi hy25) E Z E E E E E E E E E E<|gO 1 E<|Kqf hΓ E E E E E E E E Z<|Kil [.box 25 (fQ y25.2),.box 47 [I 0,S [],S [],I 0,I 0,S [],I 0,I 0,I 0,I 0,.d (.ro (KD.mk 0 []).n (KD.mk 0 []).xs)],.box 47 [I y25.1,S y3.1.Name,S y3.1.Op,I y3.1.Value.Kind,I y3.1.Value.Number,S y3.1.Value.Words,I y3.1.Value.Version.1,I y3.1.Value.Version.2.1,I y3.1.Value.Version.2.2.1,I y3.1.Value.Version.2.2.2,.d (.ro y3.1.Kids.n y3.1.Kids.xs)]] E<|gO 2 E<|Kkp<|oSi h26▸⟨⟨E,E,E,tV⟩,[],E,.inl E⟩
  refine gA 6 E<|jC E h27 (fun h28=>?_) fun h37=>Kjy [.dead,.dead,.box 47 [I y3.1.Kind,S y3.1.Name,S y3.1.Op,I y3.1.Value.Kind,I y3.1.Value.Number,S y3.1.Value.Words,I y3.1.Value.Version.1,I y3.1.Value.Version.2.1,I y3.1.Value.Version.2.2.1,I y3.1.Value.Version.2.2.2,.d (.ro y3.1.Kids.n y3.1.Kids.xs)]] [3,4] [2,7] [7] hmix (by kernel_rfl) (by kernel_rfl) ⟨E,tV⟩ Z<|go_E hΓ 1 E<|Kkj hΓ (enc:=(eN .i64)) [2,3,4] E E E E E E E E E E E E<|bK h37 fun y38 hy38 h39=>ge_h [.box 25 (fQ y38.2),.box 47 [I 0,S [],S [],I 0,I 0,S [],I 0,I 0,I 0,I 0,.d (.ro (KD.mk 0 []).n (KD.mk 0 []).xs)],.box 47 [I y3.1.Kind,S y3.1.Name,S y3.1.Op,I y3.1.Value.Kind,I y3.1.Value.Number,S y3.1.Value.Words,I y3.1.Value.Version.1,I y3.1.Value.Version.2.1,I y3.1.Value.Version.2.2.1,I y3.1.Value.Version.2.2.2,.d (.ro y3.1.Kids.n y3.1.Kids.xs)]] E E E (Kke ⟨E,tV⟩) (Kki [0] (I y38.1) [.box 25 (fQ y38.2),.box 47 [I 0,S [],S [],I 0,I 0,S [],I 0,I 0,I 0,I 0,.d (.ro (KD.mk 0 []).n (KD.mk 0 []).xs)],.box 47 [I y3.1.Kind,S y3.1.Name,S y3.1.Op,I y3.1.Value.Kind,I y3.1.Value.Number,S y3.1.Value.Words,I y3.1.Value.Version.1,I y3.1.Value.Version.2.1,I y3.1.Value.Version.2.2.1,I y3.1.Value.Version.2.2.2,.d (.ro y3.1.Kids.n y3.1.Kids.xs)]] C (Kzc hy38) E E E E E E E E E E)<|go_E hΓ 2 E<|Kkj hΓ (enc:=Kus) [y3.1,y3.1] E E E E E E E E E E E E<|ge_q E (.inl E) (fun _ _=>Kka (qt_p (Kkk hΓ (gs:=[I y38.1,S [],S [],I 0,I 0,S [],I 0,I 0,I 0,I 0,.d (.ro (pk Kus [y3.1,y3.1]).n (pk Kus [y3.1,y3.1]).xs)]) E E E E E E)))<|Kkc [.box 25 (fQ y38.2),.box 47 [I 0,S [],S [],I 0,I 0,S [],I 0,I 0,I 0,I 0,.d (.ro (KD.mk 0 []).n (KD.mk 0 []).xs)],.box 47 [I y38.1,S [],S [],I 0,I 0,S [],I 0,I 0,I 0,I 0,.d (.ro (pk Kus [y3.1,y3.1]).n (pk Kus [y3.1,y3.1]).xs)]] E E (Kkd E) (Kkh (Klf hΓ E E E E E E E E E))<|Kjz<|gA 1 E<|Kkp<|oSi h39▸⟨⟨E,E,E,tV⟩,[],E,.inl E⟩
  exact bK h28 fun l29 hl29 h30=>gA 2 E<|eo_o E (Kmi (Kpn hΓ (g:=.d (.ro y3.1.Kids.n y3.1.Kids.xs)) E) (G.Le.unk Kxu hl29))<|bK h30 fun y31 hy31 h32=>Kid [] (.sl 3 y31.length) [.box 25 (fQ y10.2),.box 47 [I 0,S [],S [],I 0,I 0,S [],I 0,I 0,I 0,I 0,.d (.ro (KD.mk 0 []).n (KD.mk 0 []).xs)],.box 47 [I y3.1.Kind,S y3.1.Name,S y3.1.Op,I y3.1.Value.Kind,I y3.1.Value.Number,S y3.1.Value.Words,I y3.1.Value.Version.1,I y3.1.Value.Version.2.1,I y3.1.Value.Version.2.2.1,I y3.1.Value.Version.2.2.2,.d (.ro y3.1.Kids.n y3.1.Kids.xs)],rO 47 11 Kus y31] C (Kzk hy31) E Z E E E E E E E E E E<|bK h32 fun y33 hy33 h34=>gO 1 E<|Kid [0] (.agg [I y33.1.Kind,S y33.1.Name,S y33.1.Op,I y33.1.Value.Kind,I y33.1.Value.Number,S y33.1.Value.Words,I y33.1.Value.Version.1,I y33.1.Value.Version.2.1,I y33.1.Value.Version.2.2.1,I y33.1.Value.Version.2.2.2,.d (.ro y33.1.Kids.n y33.1.Kids.xs)]) [.box 25 (fQ y33.2),.box 47 [I 0,S [],S [],I 0,I 0,S [],I 0,I 0,I 0,I 0,.d (.ro (KD.mk 0 []).n (KD.mk 0 []).xs)],.box 47 [I y3.1.Kind,S y3.1.Name,S y3.1.Op,I y3.1.Value.Kind,I y3.1.Value.Number,S y3.1.Value.Words,I y3.1.Value.Version.1,I y3.1.Value.Version.2.1,I y3.1.Value.Version.2.2.1,I y3.1.Value.Version.2.2.2,.d (.ro y3.1.Kids.n y3.1.Kids.xs)],rO 47 11 Kus y31] C (Kzg hy33) E Z E E E E E E E E E E<|Khz hΓ (enc:=Kus) [y33.1] E E E E E E E E E E E E Z<|bK h34 fun y35 hy35 h36=>Kim hΓ (enc:=Kus) hy35 E E E E E E E E E (fun _=>E) E E E E<|gO 1 E<|Kqf hΓ E E E E E E E E Z<|Kil [.box 25 (fQ y33.2),.box 47 [I 0,S [],S [],I 0,I 0,S [],I 0,I 0,I 0,I 0,.d (.ro (KD.mk 0 []).n (KD.mk 0 []).xs)],.box 47 [I y3.1.Kind,S y3.1.Name,S y3.1.Op,I y3.1.Value.Kind,I y3.1.Value.Number,S y3.1.Value.Words,I y3.1.Value.Version.1,I y3.1.Value.Version.2.1,I y3.1.Value.Version.2.2.1,I y3.1.Value.Version.2.2.2,.sl 3 y35.length],rO 47 11 Kus y35] E<|gO 2 E<|Kkr 3 [50] _ [.box 25 (fQ y33.2),.box 47 [I 0,S [],S [],I 0,I 0,S [],I 0,I 0,I 0,I 0,.d (.ro (KD.mk 0 []).n (KD.mk 0 []).xs)],.box 47 [I y3.1.Kind,S y3.1.Name,S y3.1.Op,I y3.1.Value.Kind,I y3.1.Value.Number,S y3.1.Value.Words,I y3.1.Value.Version.1,I y3.1.Value.Version.2.1,I y3.1.Value.Version.2.2.1,I y3.1.Value.Version.2.2.2,.d (.ro (pk Kus y35).n (pk Kus y35).xs)],.dead] E E E Z<|Kkp<|oSi h36▸⟨⟨E,E,E,tV⟩,[_],E,.inr ⟨HB.mk E,FB.mk E,Z⟩⟩
 refine bK h8 fun y41 hy41 h42=>gA 5 E<|Kid [0] (B y41.1) [.box 25 (fQ y41.2),.box 47 [I 0,S [],S [],I 0,I 0,S [],I 0,I 0,I 0,I 0,.d (.ro (KD.mk 0 []).n (KD.mk 0 []).xs)],.box 47 [I q7.2.Kind,S q7.2.Name,S q7.2.Op,I q7.2.Value.Kind,I q7.2.Value.Number,S q7.2.Value.Words,I q7.2.Value.Version.1,I q7.2.Value.Version.2.1,I q7.2.Value.Version.2.2.1,I q7.2.Value.Version.2.2.2,.d (.ro q7.2.Kids.n q7.2.Kids.xs)]] C (Kzd hy41) E Z E E E E E E E E E E<|bK h42 fun q43 hq43 h44=>gO 2 E<|Kku [(2,.ptr 1 0),(3,.ptr 2 0)] [.box 25 (fQ q43.1),.box 47 [I 0,S [],S [],I 0,I 0,S [],I 0,I 0,I 0,I 0,.d (.ro (KD.mk 0 []).n (KD.mk 0 []).xs)],.box 47 [I q43.2.Kind,S q43.2.Name,S q43.2.Op,I q43.2.Value.Kind,I q43.2.Value.Number,S q43.2.Value.Words,I q43.2.Value.Version.1,I q43.2.Value.Version.2.1,I q43.2.Value.Version.2.2.1,I q43.2.Value.Version.2.2.2,.d (.ro q43.2.Kids.n q43.2.Kids.xs)]] ?_ ?_
 ·refine jC E hq43 (fun h45=>?_) fun h60=>gA 1 E<|oSi h60▸⟨⟨E,E,tV⟩,[],E,.inl E⟩
  refine gA 3 E<|Khz hΓ (enc:=(eN .i64)) [28,29,30] E E E E E E E E E E E E Z<|bK h45 fun y46 hy46 h47=>Kid [0] (I y46.1) [.box 25 (fQ y46.2),.box 47 [I 0,S [],S [],I 0,I 0,S [],I 0,I 0,I 0,I 0,.d (.ro (KD.mk 0 []).n (KD.mk 0 []).xs)],.box 47 [I q7.2.Kind,S q7.2.Name,S q7.2.Op,I q7.2.Value.Kind,I q7.2.Value.Number,S q7.2.Value.Words,I q7.2.Value.Version.1,I q7.2.Value.Version.2.1,I q7.2.Value.Version.2.2.1,I q7.2.Value.Version.2.2.2,.d (.ro q7.2.Kids.n q7.2.Kids.xs)]] C (Kzc hy46) E Z E E E E E E E E E E<|gO 3 E<|bK h47 fun q51 hq51 h52=>gK hq51 fun hb54 h55=>?_
  replace hb54:=of_decide_eq_true hb54
  refine Kku [(2,.ptr 1 0),(3,.ptr 2 0)] [.box 25 (fQ y46.2),.box 47 [I 0,S [],S [],I 0,I 0,S [],I 0,I 0,I 0,I 0,.d (.ro (KD.mk 0 []).n (KD.mk 0 []).xs)],.box 47 [I q51.Kind,S q51.Name,S q51.Op,I q51.Value.Kind,I q51.Value.Number,S q51.Value.Words,I q51.Value.Version.1,I q51.Value.Version.2.1,I q51.Value.Version.2.2.1,I q51.Value.Version.2.2.2,.d (.ro q51.Kids.n q51.Kids.xs)]] ?_ ?_
  ·refine gA 1 E<|Kiw h55 (fun i48 s49=>[(2,.ptr 1 0),(3,.ptr 2 0),(56,I y46.1),(57,I (i48:Int))]) (fun s49=>[.box 25 (fQ y46.2),.box 47 [I 0,S [],S [],I 0,I 0,S [],I 0,I 0,I 0,I 0,.d (.ro (KD.mk 0 []).n (KD.mk 0 []).xs)],.box 47 [I s49.Kind,S s49.Name,S s49.Op,I s49.Value.Kind,I s49.Value.Number,S s49.Value.Words,I s49.Value.Version.1,I s49.Value.Version.2.1,I s49.Value.Version.2.2.1,I s49.Value.Version.2.2.2,.d (.ro s49.Kids.n s49.Kids.xs)]]) ⟨⟨E,E,E,E,tV⟩,[],E,.inl E⟩ (fun i48 s49 y59 hlt hy57=>?_) (fun hge=>?_)
   ·exact gA 6 E<|Kgz E (dT hlt)<|gA 6 E<|Khz hΓ (enc:=Kus) [s49] E E E E E E E E E E E E Z<|Kfd hΓ (gs:=[I 2,S [],S [],I 0,I 0,S [],I 0,I 0,I 0,I 0,.d (.ro (pk Kus [s49]).n (pk Kus [s49]).xs)]) E E E E E E E<|Kqf hΓ E E E E E E E E Z<|Kil [.box 25 (fQ y46.2),.box 47 [I 0,S [],S [],I 0,I 0,S [],I 0,I 0,I 0,I 0,.d (.ro (KD.mk 0 []).n (KD.mk 0 []).xs)],.box 47 [I 2,S [],S [],I 0,I 0,S [],I 0,I 0,I 0,I 0,.d (.ro (pk Kus [s49]).n (pk Kus [s49]).xs)]] E<|gO 7 E<|oSi hy57▸⟨⟨E,E,E,Kgc E (Kgb (by omega)),tV⟩,[],E,.inl E⟩
   exact gA 6 E<|Kha E (dF hge)<|gA 4 E<|⟨⟨E,E,tV⟩,[],E,.inl E⟩
  exact oSi h52▸⟨⟨E,E,tV⟩,[],E,.inl E⟩
 exact gA 4 E<|Kqf hΓ E E E E E E E E Z<|Kil [.box 25 (fQ q43.1),.box 47 [I q43.2.Kind,S q43.2.Name,S q43.2.Op,I q43.2.Value.Kind,I q43.2.Value.Number,S q43.2.Value.Words,I q43.2.Value.Version.1,I q43.2.Value.Version.2.1,I q43.2.Value.Version.2.2.1,I q43.2.Value.Version.2.2.2,.d (.ro q43.2.Kids.n q43.2.Kids.xs)],.box 47 [I q43.2.Kind,S q43.2.Name,S q43.2.Op,I q43.2.Value.Kind,I q43.2.Value.Number,S q43.2.Value.Words,I q43.2.Value.Version.1,I q43.2.Value.Version.2.1,I q43.2.Value.Version.2.2.1,I q43.2.Value.Version.2.2.2,.d (.ro q43.2.Kids.n q43.2.Kids.xs)]] E<|gO 3 E<|oSi h44▸Kis hΓ [_,_] (.inr E) E E E E (.inr ⟨HB.mk E,E⟩)
theorem Kzm{k:Nat}{c:Kur}{r:Int×Int}(h:Kvh k c=some r):Pure Tryz.prog 59 [.agg [I c.Kind,S c.Name,S c.Op,I c.Value.Kind,I c.Value.Number,S c.Value.Words,I c.Value.Version.1,I c.Value.Version.2.1,I c.Value.Version.2.2.1,I c.Value.Version.2.2.2,.d (.ro c.Kids.n c.Kids.xs)]] (.tup [I r.1,I r.2]):=by
 induction k generalizing c r with
 | zero=>unfold Kvh at h;cases h
 | succ k ih0=>
  have ih:∀ {c:Kur} {r:Int×Int},Kvh k c=some r→Pure Tryz.prog 59 [.agg [I c.Kind,S c.Name,S c.Op,I c.Value.Kind,I c.Value.Number,S c.Value.Words,I c.Value.Version.1,I c.Value.Version.2.1,I c.Value.Version.2.2.1,I c.Value.Version.2.2.2,.d (.ro c.Kids.n c.Kids.xs)]] (.tup [I r.1,I r.2]):=by intro c r h;first | exact ih0 h | exact ih0 _ _ h
  refine Pure.enter (Fr.of 0 _) Tryz.func59 E (Fr.of_ok _) E E ?_
  refine Kgx ?_
  unfold Kvh at h
  refine gA 2 E ?_
  refine Kqb E E E E Z ?_
  obtain⟨q1,hq1,h2⟩:=Khf h
  refine gO 12 E ?_
  refine Kku [(1,.ptr 0 0),(2,I q1),(3,I 0)] [.box 47 [I c.Kind,S c.Name,S c.Op,I c.Value.Kind,I c.Value.Number,S c.Value.Words,I c.Value.Version.1,I c.Value.Version.2.1,I c.Value.Version.2.2.1,I c.Value.Version.2.2.2,.d (.ro c.Kids.n c.Kids.xs)]] ?_ ?_
  ·refine Kgy E (fun hb=>?_) (fun hb=>?_)
   ·have h3:=cT hq1 hb
    refine gA 3 E ?_
    obtain rfl:=oSi h3
    exact⟨⟨E,E,E,tV⟩,[],E,.inl E⟩
   have h4:=cF hq1 hb
   refine gA 1 E ?_
   obtain rfl:=oSi h4
   exact⟨⟨E,E,E,tV⟩,[],E,.inl E⟩
  obtain⟨l5,hl5,h6⟩:=Khf h2
  refine gA 5 E ?_
  refine eo_o E (Kmi (Kpn hΓ (g:=.d (.ro c.Kids.n c.Kids.xs)) E) (G.Le.unk Kxu hl5)) ?_
  refine gO 4 E ?_
  obtain⟨q10,hq10,h11⟩:=Khf h6
  refine Kho 12 E fun hb13=>?_
  refine Kku [(2,I q10.1),(3,I q10.2)] [.box 47 [I c.Kind,S c.Name,S c.Op,I c.Value.Kind,I c.Value.Number,S c.Value.Words,I c.Value.Version.1,I c.Value.Version.2.1,I c.Value.Version.2.2.1,I c.Value.Version.2.2.2,.d (.ro c.Kids.n c.Kids.xs)]] ?_ ?_
  ·refine gA 1 E ?_
   refine Kiu l5 hq10 (fun i7 s8=>[(2,I s8.1),(3,I s8.2),(12,.d (Sl Kus l5)),(13,I (l5.length:Int)),(14,I (i7:Int))]) (fun s8=>[.box 47 [I c.Kind,S c.Name,S c.Op,I c.Value.Kind,I c.Value.Number,S c.Value.Words,I c.Value.Version.1,I c.Value.Version.2.1,I c.Value.Version.2.2.1,I c.Value.Version.2.2.2,.d (.ro c.Kids.n c.Kids.xs)]]) ⟨⟨E,E,E,E,E,tV⟩,[],E,.inl E⟩ (fun i7 x9 s8 y17 hx14 hlt hy15=>?_) (?_)
   ·refine gA 6 E ?_
    refine Kgz E (dT (Int.ofNat_lt.2 hlt)) ?_
    refine gA 6 E ?_
    refine eo_o E (Khp hΓ (enc:=Kus) (Khi hx14) E E E E E (fun _=>E)) ?_
    refine gO 1 E ?_
    refine Kqa hΓ E E E Z ?_
    refine Kqf hΓ E E E E E E E E Z ?_
    refine Kil [.box 47 [I c.Kind,S c.Name,S c.Op,I c.Value.Kind,I c.Value.Number,S c.Value.Words,I c.Value.Version.1,I c.Value.Version.2.1,I c.Value.Version.2.2.1,I c.Value.Version.2.2.2,.d (.ro c.Kids.n c.Kids.xs)],.box 47 [I x9.Kind,S x9.Name,S x9.Op,I x9.Value.Kind,I x9.Value.Number,S x9.Value.Words,I x9.Value.Version.1,I x9.Value.Version.2.1,I x9.Value.Version.2.2.1,I x9.Value.Version.2.2.2,.d (.ro x9.Kids.n x9.Kids.xs)]] E ?_
    obtain⟨y18,hy18,h19⟩:=Khf hy15
    refine gO 5 E ?_
    refine Kie C (ih hy18) E Z E E E E E ?_
    refine gO 23 E ?_
    obtain rfl:=oSi h19
    exact⟨⟨E,E,E,E,Kgc E (Kgb (nLl hlt hb13)),tV⟩,[_],E,.inr ⟨HB.mk E,FB.mk E,Z⟩⟩
   refine gA 6 E ?_
   refine Kha E (dF (Int.lt_irrefl _)) ?_
   refine gA 4 E ?_
   exact⟨⟨E,E,tV⟩,[],E,.inl E⟩
  refine gA 11 E ?_
  obtain rfl:=oSi h11
  exact gP E E
theorem Kzn{n:Int}{low:Int}{high:Int}{r:Bool}(h:Kvi n low high=some r):Pure Tryz.prog 100 [I n,I low,I high] (B r):=by
 unfold Kvi at h
 refine QP Tryz.func100 E E E<|gA 11 E<|Khe 4 [(6,B false),(14,B ((decide ((n:Int)<low))||(decide ((n:Int)>high))))] [] ?_ ?_
 ·refine Kot E E (fun hb=>?_) (fun hb=>?_)
  ·exact gO 5 E<|⟨⟨E,Kgd E (or_t hb),tV⟩,[],E,.inl E⟩
  exact gO 5 E<|⟨⟨E,Kgd E (or_f hb),tV⟩,[],E,.inl E⟩
 exact gO 4 E<|oSi h▸gP E E
theorem Kzo{v_k:Kur}{x:Kur}{r:Bool}(h:Kvj v_k x=some r):EC Tryz.prog 138 [.agg [I v_k.Kind,S v_k.Name,S v_k.Op,I v_k.Value.Kind,I v_k.Value.Number,S v_k.Value.Words,I v_k.Value.Version.1,I v_k.Value.Version.2.1,I v_k.Value.Version.2.2.1,I v_k.Value.Version.2.2.2,.d (.ro v_k.Kids.n v_k.Kids.xs)],.ptr 0 0] [.box 47 [I x.Kind,S x.Name,S x.Op,I x.Value.Kind,I x.Value.Number,S x.Value.Words,I x.Value.Version.1,I x.Value.Version.2.1,I x.Value.Version.2.2.1,I x.Value.Version.2.2.2,.d (.ro x.Kids.n x.Kids.xs)]] fun g hp'=>g=B r∧hp'=[.box 47 [I x.Kind,S x.Name,S x.Op,I x.Value.Kind,I x.Value.Number,S x.Value.Words,I x.Value.Version.1,I x.Value.Version.2.1,I x.Value.Version.2.2.1,I x.Value.Version.2.2.2,.d (.ro x.Kids.n x.Kids.xs)]]:=by
 unfold Kvj at h
 exact QN Tryz.func138 E Z<|gA 2 E<|Kqb E E E E Z<|gO 14 E<|oSi h▸Kis hΓ [_] (.inr E) E E E E (.inr ⟨HB.mk E,E⟩)
theorem Kzp{s:List Kur}{f:Kur}{r:Int}(h:Kvk s f=some r):EC Tryz.prog 186 [.d (Sl Kus s),.fn (.func 138) [] [.ptr 0 0]] [.box 47 [I f.Kind,S f.Name,S f.Op,I f.Value.Kind,I f.Value.Number,S f.Value.Words,I f.Value.Version.1,I f.Value.Version.2.1,I f.Value.Version.2.2.1,I f.Value.Version.2.2.2,.d (.ro f.Kids.n f.Kids.xs)]] fun g hp'=>g=I r∧hp'=[.box 47 [I f.Kind,S f.Name,S f.Op,I f.Value.Kind,I f.Value.Number,S f.Value.Words,I f.Value.Version.1,I f.Value.Version.2.1,I f.Value.Version.2.2.1,I f.Value.Version.2.2.2,.d (.ro f.Kids.n f.Kids.xs)]]:=by
 unfold Kvk at h
 refine QN Tryz.func186 E Z<|gA 13 E<|bK h fun q4 hq4 h5=>Kho 0 E fun hb7=>Kkt (R:=fun a6=>q4=.go a6) (fun a6=>[]) (fun a6=>[.box 47 [I f.Kind,S f.Name,S f.Op,I f.Value.Kind,I f.Value.Number,S f.Value.Words,I f.Value.Version.1,I f.Value.Version.2.1,I f.Value.Version.2.2.1,I f.Value.Version.2.2.2,.d (.ro f.Kids.n f.Kids.xs)]]) ?_ ?_
 ·refine gA 1 E<|Khn s hq4 (fun i1 s2=>[(0,.d (Sl Kus s)),(1,.fn (.func 138) [] [.ptr 0 0]),(7,I (s.length:Int)),(8,I (i1:Int))]) (fun s2=>[.box 47 [I f.Kind,S f.Name,S f.Op,I f.Value.Kind,I f.Value.Number,S f.Value.Words,I f.Value.Version.1,I f.Value.Version.2.1,I f.Value.Version.2.2.1,I f.Value.Version.2.2.2,.d (.ro f.Kids.n f.Kids.xs)]]) ⟨⟨E,E,E,E,tV⟩,[],E,.inl E⟩ (fun i1 x3 s2 y11 hx8 hlt hy9 hout10=>?_) (fun s2 hgo=>?_)
  ·refine gA 6 E<|Kgz E (dT (Int.ofNat_lt.2 hlt))<|gA 15 E<|eo_o E (Khp hΓ (enc:=Kus) (Khi hx8) E E E E E (fun _=>E))<|bK hy9 fun y12 hy12 h13=>gO 1 E<|Kid [0] (B y12) [.box 47 [I f.Kind,S f.Name,S f.Op,I f.Value.Kind,I f.Value.Number,S f.Value.Words,I f.Value.Version.1,I f.Value.Version.2.1,I f.Value.Version.2.2.1,I f.Value.Version.2.2.2,.d (.ro f.Kids.n f.Kids.xs)]] C (Kzo hy12) E Z E E E E E E E E E E<|gO 2 E<|jC E h13 (fun h14=>?_) fun h17=>gA 7 E ?_
   ·refine gA 9 E<|bK h14 fun v15 hv15 h16=>?_
    cases h16
    obtain rfl:=hout10 _ rfl
    cases h5
    exact gA 4 E<|oSi hv15▸Kis hΓ [] (.inr E) E E E E (.inl E)
   cases h17
   exact⟨_,E,⟨⟨E,E,E,Kgc E (Kgb (nLl hlt hb7)),tV⟩,[],E,.inl E⟩⟩
  subst hgo
  exact gA 6 E<|Kha E (dF (Int.lt_irrefl _))<|gA 4 E<|⟨_,E,⟨tV,[],E,.inl E⟩⟩
 intro a6 ha
 subst ha
 replace h5:=Kkn h5
 exact gA 7 E<|oSi h5▸Kis hΓ [] (.inr E) E E E E (.inl E)
theorem Kzq{s:List Kur}{f:Kur}{r:Bool}(h:Kvl s f=some r):EC Tryz.prog 135 [.d (Sl Kus s),.fn (.func 138) [] [.ptr 0 0]] [.box 47 [I f.Kind,S f.Name,S f.Op,I f.Value.Kind,I f.Value.Number,S f.Value.Words,I f.Value.Version.1,I f.Value.Version.2.1,I f.Value.Version.2.2.1,I f.Value.Version.2.2.2,.d (.ro f.Kids.n f.Kids.xs)]] fun g hp'=>g=B r∧hp'=[.box 47 [I f.Kind,S f.Name,S f.Op,I f.Value.Kind,I f.Value.Number,S f.Value.Words,I f.Value.Version.1,I f.Value.Version.2.1,I f.Value.Version.2.2.1,I f.Value.Version.2.2.2,.d (.ro f.Kids.n f.Kids.xs)]]:=by
 unfold Kvl at h
 exact QN Tryz.func135 E Z<|bK h fun y1 hy1 h2=>gA 9 E<|Kid [0] (I y1) [.box 47 [I f.Kind,S f.Name,S f.Op,I f.Value.Kind,I f.Value.Number,S f.Value.Words,I f.Value.Version.1,I f.Value.Version.2.1,I f.Value.Version.2.2.1,I f.Value.Version.2.2.2,.d (.ro f.Kids.n f.Kids.xs)]] C (Kzp hy1) E Z E E E E E E E E E E<|gO 5 E<|oSi h2▸Kis hΓ [] (.inr E) E E E E (.inl E)
theorem Kzr{c:Kur}{r:Bool}(h:Kvm c=some r):Pure Tryz.prog 101 [.agg [I c.Kind,S c.Name,S c.Op,I c.Value.Kind,I c.Value.Number,S c.Value.Words,I c.Value.Version.1,I c.Value.Version.2.1,I c.Value.Version.2.2.1,I c.Value.Version.2.2.2,.d (.ro c.Kids.n c.Kids.xs)]] (B r):=by
 unfold Kvm at h
 refine QP Tryz.func101 E E E<|gA 2 E<|Kqb E E E E Z<|bK h fun l1 hl1 h2=>gO 6 E<|eo_o E (Kmi (Kpn hΓ (g:=.d (.ro c.Kids.n c.Kids.xs)) E) (G.Le.unk Kxu hl1))<|bK h2 fun q3 hq3 h4=>gO 11 E<|Kkw (q:=q3) (fun a5=>[(1,.ptr 0 0)]) (fun a5=>[.box 47 [I c.Kind,S c.Name,S c.Op,I c.Value.Kind,I c.Value.Number,S c.Value.Words,I c.Value.Version.1,I c.Value.Version.2.1,I c.Value.Version.2.2.1,I c.Value.Version.2.2.2,.d (.ro c.Kids.n c.Kids.xs)]]) ?_ ?_
 ·refine gA 7 E<|jC E hq3 (fun h6=>?_) fun h9=>gA 6 E<|jC E h9 (fun h10=>?_) fun h15=>?_
  ·refine gA 9 E<|bK h6 fun v7 hv7 h8=>?_
   cases h8
   cases h4
   exact gA 2 E<|oSi hv7▸gP E E
  ·refine gA 6 E<|jC E h10 (fun h11=>?_) fun h14=>gA 2 E<|oSi h14▸⟨_,E,⟨⟨E,tV⟩,[],E,.inl E⟩⟩
   refine gA 7 E<|bK h11 fun v12 hv12 h13=>?_
   cases h13
   cases h4
   exact gA 2 E<|oSi hv12▸gP E E
  refine gA 5 E<|bK h15 fun q16 hq16 h17=>Khe 5 [(1,.ptr 0 0),(16,B q16)] [.box 47 [I c.Kind,S c.Name,S c.Op,I c.Value.Kind,I c.Value.Number,S c.Value.Words,I c.Value.Version.1,I c.Value.Version.2.1,I c.Value.Version.2.2.1,I c.Value.Version.2.2.2,.d (.ro c.Kids.n c.Kids.xs)]] ?_ ?_
  ·refine Kot E E (fun hb=>?_) (fun hb=>?_)
   ·have h18:=cT hq16 hb
    exact gO 6 E<|oSi h18▸⟨⟨E,E,tV⟩,[],E,.inl E⟩
   have h19:=cF hq16 hb
   exact bK h19 fun l20 hl20 h21=>gO 1 E<|Kor E<|eo_o E (Kmi (Kpn hΓ (g:=.d (.ro c.Kids.n c.Kids.xs)) E) (G.Le.unk Kxu hl20))<|bK h21 fun y22 hy22 h23=>gO 1 E<|Kor E<|Kid [0] (B y22) [.box 47 [I c.Kind,S c.Name,S c.Op,I c.Value.Kind,I c.Value.Number,S c.Value.Words,I c.Value.Version.1,I c.Value.Version.2.1,I c.Value.Version.2.2.1,I c.Value.Version.2.2.2,.d (.ro c.Kids.n c.Kids.xs)]] C (Kzq hy22) E Z E E E E E E E E E E<|gO 2 E<|oSi h23▸⟨⟨E,E,tV⟩,[],E,.inl E⟩
  refine gO 2 E<|jC E h17 (fun h24=>?_) fun h27=>gA 2 E<|oSi h27▸⟨_,E,⟨⟨E,tV⟩,[],E,.inl E⟩⟩
  refine gA 7 E<|bK h24 fun v25 hv25 h26=>?_
  cases h26
  cases h4
  exact gA 2 E<|oSi hv25▸gP E E
 intro a5 ha
 subst ha
 replace h4:=Kkm h4
 refine gA 7 E<|Khe 4 [(1,.ptr 0 0),(32,B (((c.Name:Str)==[])&&((c.Op:Str)==[])))] [.box 47 [I c.Kind,S c.Name,S c.Op,I c.Value.Kind,I c.Value.Number,S c.Value.Words,I c.Value.Version.1,I c.Value.Version.2.1,I c.Value.Version.2.2.1,I c.Value.Version.2.2.2,.d (.ro c.Kids.n c.Kids.xs)]] ?_ ?_
 ·refine Kot E E (fun hb=>?_) (fun hb=>?_)
  ·exact gO 5 E<|⟨⟨E,Kgd E (Kiy hb),tV⟩,[],E,.inl E⟩
  exact gO 5 E<|⟨⟨E,Kgd E (Kiz hb),tV⟩,[],E,.inl E⟩
 refine gO 1 E<|Khe 5 [(38,B ((((c.Name:Str)==[])&&((c.Op:Str)==[]))&&(((c.Value.Kind:Int)==0)&&(((c.Value.Number:Int)==0)&&(((c.Value.Words:Str)==[])&&(decide (([c.Value.Version.1,c.Value.Version.2.1,c.Value.Version.2.2.1,c.Value.Version.2.2.2]:List Int)=[0,0,0,0])&&true))))))] [.box 47 [I c.Kind,S c.Name,S c.Op,I c.Value.Kind,I c.Value.Number,S c.Value.Words,I c.Value.Version.1,I c.Value.Version.2.1,I c.Value.Version.2.2.1,I c.Value.Version.2.2.2,.d (.ro c.Kids.n c.Kids.xs)]] ?_ ?_
 ·refine Kot E E (fun hb=>?_) (fun hb=>?_)
  ·exact gO 2 E<|Kor E<|Kfd hΓ (gs:=[I 0,I 0,S [],I 0,I 0,I 0,I 0]) E E E E E E E<|Kor E<|eo_o E (Knk hΓ [40] (b:=(((c.Value.Kind:Int)==0)&&(((c.Value.Number:Int)==0)&&(((c.Value.Words:Str)==[])&&(decide (([c.Value.Version.1,c.Value.Version.2.1,c.Value.Version.2.2.1,c.Value.Version.2.2.2]:List Int)=[0,0,0,0])&&true))))) (by kernel_rfl) (by kernel_rfl) E E E)<|gO 2 E<|⟨⟨Kgd E (Kiy hb),tV⟩,[],E,.inl E⟩
  exact gO 6 E<|⟨⟨Kgd E (Kiz hb),tV⟩,[],E,.inl E⟩
 exact gO 4 E<|oSi h4▸gP E E
theorem Kzs{k:Nat}{s:Str}{r:Bool}(h:Kvn k s=some r):Pure Tryz.prog 68 [S s] (B r):=by
 unfold Kvn at h
 refine QP Tryz.func68 E E E<|gA 11 E<|bK h fun q4 hq4 h5=>Kkt (R:=fun a6=>q4=.inl a6) (fun a6=>[(0,S s)]) (fun a6=>[]) ?_ ?_
 ·refine gA 1 E<|Khl hq4 (fun s2=>[(0,S s),(3,I s2)]) (fun s2=>[]) ⟨⟨E,E,tV⟩,[],E,.inl E⟩ (fun s2 y10 hy8 hout9=>?_)
  refine gA 9 E<|Kgy E (fun hb=>?_) (fun hb=>?_)
  ·have h11:=cT hy8 hb
   refine bK h11 fun c12 hc12 h13=>gA 8 E<|eo_o E (Khq hΓ hc12 E E E E)<|gO 8 E<|Khe 3 [(0,S s),(3,I s2),(4,.d (.v (.int .u8 (c12.toNat:Int)))),(19,B ((decide (((c12.toNat:Int):Int)≥97))&&(decide (((c12.toNat:Int):Int)≤122))))] [] ?_ ?_
   ·refine Kot E E (fun hb=>?_) (fun hb=>?_)
    ·exact gO 4 E<|⟨⟨E,E,E,Kgd E (Kiy hb),tV⟩,[],E,.inl E⟩
    exact gO 4 E<|⟨⟨E,E,E,Kgd E (Kiz hb),tV⟩,[],E,.inl E⟩
   refine gO 1 E<|Khe 19 [(0,S s),(3,I s2),(39,B (((decide (((c12.toNat:Int):Int)≥97))&&(decide (((c12.toNat:Int):Int)≤122)))||((decide ((s2:Int)>0))&&((((decide (((c12.toNat:Int):Int)≥48))&&(decide (((c12.toNat:Int):Int)≤57)))||(((c12.toNat:Int):Int)==45))||(((c12.toNat:Int):Int)==95)))))] [] ?_ ?_
   ·refine Kot E E (fun hb=>?_) (fun hb=>?_)
    ·exact gO 20 E<|⟨⟨E,E,Kgd E (or_t hb),tV⟩,[],E,.inl E⟩
    refine gO 3 E<|Khe 15 [(0,S s),(3,I s2),(20,B false),(38,B ((decide ((s2:Int)>0))&&((((decide (((c12.toNat:Int):Int)≥48))&&(decide (((c12.toNat:Int):Int)≤57)))||(((c12.toNat:Int):Int)==45))||(((c12.toNat:Int):Int)==95))))] [] ?_ ?_
    ·refine Kot E E (fun hb=>?_) (fun hb=>?_)
     ·refine gO 3 E<|Khe 3 [(0,S s),(3,I s2),(4,.d (.v (.int .u8 (c12.toNat:Int)))),(20,B false),(23,B true),(29,B ((decide (((c12.toNat:Int):Int)≥48))&&(decide (((c12.toNat:Int):Int)≤57))))] [] ?_ ?_
      ·refine Kot E E (fun hb=>?_) (fun hb=>?_)
       ·exact gO 4 E<|⟨⟨E,E,E,E,E,Kgd E (Kiy hb),tV⟩,[],E,.inl E⟩
       exact gO 4 E<|⟨⟨E,E,E,E,E,Kgd E (Kiz hb),tV⟩,[],E,.inl E⟩
      refine gO 1 E<|Khe 3 [(0,S s),(3,I s2),(4,.d (.v (.int .u8 (c12.toNat:Int)))),(20,B false),(23,B true),(33,B (((decide (((c12.toNat:Int):Int)≥48))&&(decide (((c12.toNat:Int):Int)≤57)))||(((c12.toNat:Int):Int)==45)))] [] ?_ ?_
      ·refine Kot E E (fun hb=>?_) (fun hb=>?_)
       ·exact gO 4 E<|⟨⟨E,E,E,E,E,Kgd E (or_t hb),tV⟩,[],E,.inl E⟩
       exact gO 4 E<|⟨⟨E,E,E,E,E,Kgd E (or_f hb),tV⟩,[],E,.inl E⟩
      refine gO 1 E<|Khe 3 [(0,S s),(3,I s2),(20,B false),(23,B true),(37,B ((((decide (((c12.toNat:Int):Int)≥48))&&(decide (((c12.toNat:Int):Int)≤57)))||(((c12.toNat:Int):Int)==45))||(((c12.toNat:Int):Int)==95)))] [] ?_ ?_
      ·refine Kot E E (fun hb=>?_) (fun hb=>?_)
       ·exact gO 4 E<|⟨⟨E,E,E,E,Kgd E (or_t hb),tV⟩,[],E,.inl E⟩
       exact gO 4 E<|⟨⟨E,E,E,E,Kgd E (or_f hb),tV⟩,[],E,.inl E⟩
      exact gO 2 E<|⟨⟨E,E,E,Kgd E (Kiy hb),tV⟩,[],E,.inl E⟩
     exact gO 16 E<|⟨⟨E,E,E,Kgd E (Kiz hb),tV⟩,[],E,.inl E⟩
    exact gO 2 E<|⟨⟨E,E,Kgd E (or_f hb),tV⟩,[],E,.inl E⟩
   refine gO 3 E<|jC E h13 (fun h14=>?_) fun h17=>gA 8 E<|oSi h17▸⟨_,E,⟨⟨E,E,tV⟩,[],E,.inl E⟩⟩
   refine gA 8 E<|bK h14 fun v15 hv15 h16=>?_
   cases h16
   obtain rfl:=hout9 _ rfl
   cases h5
   exact gA 4 E<|oSi hv15▸gP E E
  have h18:=cF hy8 hb
  refine gA 4 E ?_
  cases h18
  obtain rfl:=hout9 _ rfl
  exact⟨_,E,⟨⟨E,tV⟩,[],E,.inl E⟩⟩
 intro a6 ha
 subst ha
 replace h5:=Kkm h5
 refine gA 6 E<|Khe 4 [(47,B ((!((s:Str)==[]))&&(decide (((s.length:Int):Int)≤40))))] [] ?_ ?_
 ·refine Kot E E (fun hb=>?_) (fun hb=>?_)
  ·exact gO 5 E<|⟨⟨Kgd E (Kiy hb),tV⟩,[],E,.inl E⟩
  exact gO 5 E<|⟨⟨Kgd E (Kiz hb),tV⟩,[],E,.inl E⟩
 exact gO 4 E<|oSi h5▸gP E E
theorem Kzt{c:Int}{r:Bool}(h:Kvo c=some r):Pure Tryz.prog 139 [.d (.v (.int .u8 c))] (B r):=by
 unfold Kvo at h
 refine QP Tryz.func139 E E E<|gA 10 E<|Khe 3 [(2,B false),(8,B ((decide ((c:Int)≥48))&&(decide ((c:Int)≤57))))] [] ?_ ?_
 ·refine Kot E E (fun hb=>?_) (fun hb=>?_)
  ·exact gO 4 E<|⟨⟨E,Kgd E (Kiy hb),tV⟩,[],E,.inl E⟩
  exact gO 4 E<|⟨⟨E,Kgd E (Kiz hb),tV⟩,[],E,.inl E⟩
 exact gO 4 E<|oSi h▸gP E E
theorem Kzu{s:Str}{r:Bool}(h:Kvp s=some r):Pure Tryz.prog 102 [S s] (B r):=by
 unfold Kvp at h
 refine QP Tryz.func102 E E E<|gA 11 E<|bK h fun q1 hq1 h2=>Khe 4 [(0,S s),(2,B false),(10,B q1)] [] ?_ ?_
 ·refine Kot E E (fun hb=>?_) (fun hb=>?_)
  ·have h3:=cT hq1 hb
   exact bK h3 fun c4 hc4 h5=>gO 1 E<|Kor E<|eo_o E (Khq hΓ hc4 E E E E)<|gO 3 E<|oSi h5▸⟨⟨E,E,E,tV⟩,[],E,.inl E⟩
  have h6:=cF hq1 hb
  exact gO 5 E<|oSi h6▸⟨⟨E,E,E,tV⟩,[],E,.inl E⟩
 refine gO 1 E<|bK h2 fun q7 hq7 h8=>Khe 4 [(2,B false),(15,B q7)] [] ?_ ?_
 ·refine Kot E E (fun hb=>?_) (fun hb=>?_)
  ·have h9:=cT hq7 hb
   exact bK h9 fun c10 hc10 h11=>gO 1 E<|Kor E<|eo_o E (Khq hΓ hc10 E E E E)<|bK h11 fun y12 hy12 h13=>Kor E<|Kie C (Kzt hy12) E Z E E E E E<|gO 2 E<|oSi h13▸⟨⟨E,E,tV⟩,[],E,.inl E⟩
  have h14:=cF hq7 hb
  exact gO 5 E<|oSi h14▸⟨⟨E,E,tV⟩,[],E,.inl E⟩
 exact gO 4 E<|oSi h8▸gP E E
theorem Kzv{s:List Str}{v:Str}{r:Int}(h:Kvq s v=some r):Pure Tryz.prog 89 [.d (Sl eS s),S v] (I r):=by
 unfold Kvq at h
 refine QP Tryz.func89 E E E<|gA 13 E<|bK h fun q4 hq4 h5=>Kho 0 E fun hb7=>Kkt (R:=fun a6=>q4=.go a6) (fun a6=>[]) (fun a6=>[]) ?_ ?_
 ·refine gA 1 E<|Khn s hq4 (fun i1 s2=>[(0,.d (Sl eS s)),(1,S v),(7,I (s.length:Int)),(8,I (i1:Int))]) (fun s2=>[]) ⟨⟨E,E,E,E,tV⟩,[],E,.inl E⟩ (fun i1 x3 s2 y11 hx8 hlt hy9 hout10=>?_) (fun s2 hgo=>?_)
  ·refine gA 6 E<|Kgz E (dT (Int.ofNat_lt.2 hlt))<|gA 15 E<|eo_o E (Khp hΓ (enc:=eS) (Khi hx8) E E E E E (fun _=>E))<|gO 4 E<|jC E hy9 (fun h12=>?_) fun h15=>gA 7 E ?_
   ·refine gA 9 E<|bK h12 fun v13 hv13 h14=>?_
    cases h14
    obtain rfl:=hout10 _ rfl
    cases h5
    exact gA 4 E<|oSi hv13▸gP E E
   cases h15
   exact⟨_,E,⟨⟨E,E,E,Kgc E (Kgb (nLl hlt hb7)),tV⟩,[],E,.inl E⟩⟩
  subst hgo
  exact gA 6 E<|Kha E (dF (Int.lt_irrefl _))<|gA 4 E<|⟨_,E,⟨tV,[],E,.inl E⟩⟩
 intro a6 ha
 subst ha
 replace h5:=Kkn h5
 exact gA 7 E<|oSi h5▸gP E E
theorem Kzw{s:List Str}{v:Str}{r:Bool}(h:Kvr s v=some r):Pure Tryz.prog 46 [.d (Sl eS s),S v] (B r):=by
 unfold Kvr at h
 exact QP Tryz.func46 E E E<|bK h fun y1 hy1 h2=>gA 9 E<|Kie C (Kzv hy1) E Z E E E E E<|gO 5 E<|oSi h2▸gP E E
theorem Kzx{op:Str}{r:Bool}(h:Kvs op=some r):Pure Tryz.prog 103 [S op] (B r):=by
 unfold Kvs at h
 exact QP Tryz.func103 E E E<|gA 7 E<|Khz hΓ (enc:=eS) [[61,61],[33,61],[60],[60,61],[62],[62,61]] E E E E E E E E E E E E Z<|bK h fun y1 hy1 h2=>gO 1 E<|Kie C (Kzw hy1) E Z E E E E E<|gO 4 E<|oSi h2▸gP E E
theorem Kzy{s:Str}{r:Bool}(h:Kvt s=some r):Pure Tryz.prog 109 [S s] (B r):=by
 unfold Kvt at h
 refine QP Tryz.func109 E E E<|gA 13 E<|bK h fun q4 hq4 h5=>gK hq4 fun hb7 h8=>?_
 replace hb7:=of_decide_eq_true hb7
 refine Kkt (R:=fun a6=>q4=.go a6) (fun a6=>[(0,S s)]) (fun a6=>[]) ?_ ?_
 ·refine gA 1 E<|Kiv h8 (fun i1 s2=>[(0,S s),(5,I (s.length:Int)),(6,I (i1:Int))]) (fun s2=>[]) ⟨⟨E,E,E,tV⟩,[],E,.inl E⟩ (fun i1 s2 y12 hlt hy10 hout11=>?_) (fun s2 hgo hge=>?_)
  ·refine gA 6 E<|Kgz E (dT hlt)<|bK hy10 fun c13 hc13 h14=>gA 14 E<|eo_o E (Khq hΓ hc13 E E E E)<|gO 2 E<|bK h14 fun q15 hq15 h16=>Khe 5 [(0,S s),(5,I (s.length:Int)),(6,I (i1:Int)),(18,B q15)] [] ?_ ?_
   ·refine Kot E E (fun hb=>?_) (fun hb=>?_)
    ·have h17:=cT hq15 hb
     exact gO 6 E<|oSi h17▸⟨⟨E,E,E,E,tV⟩,[],E,.inl E⟩
    have h18:=cF hq15 hb
    exact bK h18 fun c19 hc19 h20=>gO 2 E<|Kor E<|eo_o E (Khq hΓ hc19 E E E E)<|gO 3 E<|oSi h20▸⟨⟨E,E,E,E,tV⟩,[],E,.inl E⟩
   refine gO 2 E<|jC E h16 (fun h21=>?_) fun h24=>gA 7 E<|oSi h24▸⟨_,E,⟨⟨E,E,Kgc E (Kgb (by omega)),tV⟩,[],E,.inl E⟩⟩
   refine gA 8 E<|bK h21 fun v22 hv22 h23=>?_
   cases h23
   obtain rfl:=hout11 _ rfl
   cases h5
   exact gA 4 E<|oSi hv22▸gP E E
  subst hgo
  exact gA 6 E<|Kha E (dF hge)<|gA 4 E<|⟨_,E,⟨⟨E,tV⟩,[],E,.inl E⟩⟩
 intro a6 ha
 subst ha
 replace h5:=Kkn h5
 exact gA 10 E<|oSi h5▸gP E E
theorem Kzz{k:Nat}{a:Kuq}{r:Int}(h:Kvu k a=some r):Pure Tryz.prog 69 [.agg [I a.Kind,I a.Number,S a.Words,I a.Version.1,I a.Version.2.1,I a.Version.2.2.1,I a.Version.2.2.2]] (I r):=by
 unfold Kvu at h
 refine QP Tryz.func69 E E E<|gA 2 E<|Kqb E E E E Z<|bK h fun y1 hy1 h2=>gO 9 E<|Kie C (Kzn hy1) E Z E E E E E<|gO 3 E<|Kgy E (fun hb=>?_) (fun hb=>?_)
 ·have h3:=cT h2 hb
  exact gA 8 E<|oSi h3▸gP E E
 have h4:=cF h2 hb
 refine gA 6 E<|bK h4 fun q5 hq5 h6=>Khe 4 [(1,.ptr 0 0),(17,B q5)] [.box 40 [I a.Kind,I a.Number,S a.Words,I a.Version.1,I a.Version.2.1,I a.Version.2.2.1,I a.Version.2.2.2]] ?_ ?_
 ·refine Kot E E (fun hb=>?_) (fun hb=>?_)
  ·have h7:=cT hq5 hb
   exact bK h7 fun y8 hy8 h9=>gO 2 E<|Kor E<|Kie C (Kzn hy8) E Z E E E E E<|gO 2 E<|oSi h9▸⟨⟨E,E,tV⟩,[],E,.inl E⟩
  have h10:=cF hq5 hb
  exact gO 5 E<|oSi h10▸⟨⟨E,E,tV⟩,[],E,.inl E⟩
 refine gO 1 E<|bK h6 fun q11 hq11 h12=>Khe 9 [(1,.ptr 0 0),(27,B q11)] [.box 40 [I a.Kind,I a.Number,S a.Words,I a.Version.1,I a.Version.2.1,I a.Version.2.2.1,I a.Version.2.2.2]] ?_ ?_
 ·refine Kot E E (fun hb=>?_) (fun hb=>?_)
  ·have h13:=cT hq11 hb
   exact gO 10 E<|oSi h13▸⟨⟨E,E,tV⟩,[],E,.inl E⟩
  have h14:=cF hq11 hb
  refine gO 4 E<|bK h14 fun q15 hq15 h16=>Khe 4 [(1,.ptr 0 0),(18,B false),(26,B q15)] [.box 40 [I a.Kind,I a.Number,S a.Words,I a.Version.1,I a.Version.2.1,I a.Version.2.2.1,I a.Version.2.2.2]] ?_ ?_
  ·refine Kot E E (fun hb=>?_) (fun hb=>?_)
   ·have h17:=cT hq15 hb
    exact bK h17 fun y18 hy18 h19=>gO 2 E<|Kor E<|Kie C (Kzn hy18) E Z E E E E E<|gO 2 E<|oSi h19▸⟨⟨E,E,E,tV⟩,[],E,.inl E⟩
   have h20:=cF hq15 hb
   exact gO 5 E<|oSi h20▸⟨⟨E,E,E,tV⟩,[],E,.inl E⟩
  exact gO 2 E<|oSi h16▸⟨⟨E,E,tV⟩,[],E,.inl E⟩
 refine gO 3 E<|Kgy E (fun hb=>?_) (fun hb=>?_)
 ·have h21:=cT h12 hb
  exact gA 8 E<|oSi h21▸gP E E
 have h22:=cF h12 hb
 refine gA 6 E<|Khe 4 [(1,.ptr 0 0),(36,B (((a.Kind:Int) != 1)&&((a.Kind:Int) != 3)))] [.box 40 [I a.Kind,I a.Number,S a.Words,I a.Version.1,I a.Version.2.1,I a.Version.2.2.1,I a.Version.2.2.2]] ?_ ?_
 ·refine Kot E E (fun hb=>?_) (fun hb=>?_)
  ·exact gO 5 E<|⟨⟨E,Kgd E (Kiy hb),tV⟩,[],E,.inl E⟩
  exact gO 5 E<|⟨⟨E,Kgd E (Kiz hb),tV⟩,[],E,.inl E⟩
 refine gO 1 E<|Khe 4 [(1,.ptr 0 0),(41,B ((((a.Kind:Int) != 1)&&((a.Kind:Int) != 3))&&((a.Number:Int) != 0)))] [.box 40 [I a.Kind,I a.Number,S a.Words,I a.Version.1,I a.Version.2.1,I a.Version.2.2.1,I a.Version.2.2.2]] ?_ ?_
 ·refine Kot E E (fun hb=>?_) (fun hb=>?_)
  ·exact gO 5 E<|⟨⟨E,Kgd E (Kiy hb),tV⟩,[],E,.inl E⟩
  exact gO 5 E<|⟨⟨E,Kgd E (Kiz hb),tV⟩,[],E,.inl E⟩
 refine gO 3 E<|Kgy E (fun hb=>?_) (fun hb=>?_)
 ·have h23:=cT h22 hb
  exact gA 8 E<|oSi h23▸gP E E
 have h24:=cF h22 hb
 refine gA 6 E<|bK h24 fun q25 hq25 h26=>Khe 5 [(1,.ptr 0 0),(51,B q25)] [.box 40 [I a.Kind,I a.Number,S a.Words,I a.Version.1,I a.Version.2.1,I a.Version.2.2.1,I a.Version.2.2.2]] ?_ ?_
 ·refine Kot E E (fun hb=>?_) (fun hb=>?_)
  ·have h27:=cT hq25 hb
   exact bK h27 fun y28 hy28 h29=>gO 2 E<|Kor E<|Kie C (Kzy hy28) E Z E E E E E<|gO 3 E<|oSi h29▸⟨⟨E,E,tV⟩,[],E,.inl E⟩
  have h30:=cF hq25 hb
  exact gO 6 E<|oSi h30▸⟨⟨E,E,tV⟩,[],E,.inl E⟩
 refine gO 1 E<|Khe 9 [(1,.ptr 0 0),(61,B (q25||(((a.Kind:Int) != 2)&&(!((a.Words:Str)==[])))))] [.box 40 [I a.Kind,I a.Number,S a.Words,I a.Version.1,I a.Version.2.1,I a.Version.2.2.1,I a.Version.2.2.2]] ?_ ?_
 ·refine Kot E E (fun hb=>?_) (fun hb=>?_)
  ·exact gO 10 E<|⟨⟨E,Kgd E (or_t hb),tV⟩,[],E,.inl E⟩
  refine gO 4 E<|Khe 4 [(1,.ptr 0 0),(52,B false),(60,B (((a.Kind:Int) != 2)&&(!((a.Words:Str)==[]))))] [.box 40 [I a.Kind,I a.Number,S a.Words,I a.Version.1,I a.Version.2.1,I a.Version.2.2.1,I a.Version.2.2.2]] ?_ ?_
  ·refine Kot E E (fun hb=>?_) (fun hb=>?_)
   ·exact gO 5 E<|⟨⟨E,E,Kgd E (Kiy hb),tV⟩,[],E,.inl E⟩
   exact gO 5 E<|⟨⟨E,E,Kgd E (Kiz hb),tV⟩,[],E,.inl E⟩
  exact gO 2 E<|⟨⟨E,Kgd E (or_f hb),tV⟩,[],E,.inl E⟩
 refine gO 3 E<|Kgy E (fun hb=>?_) (fun hb=>?_)
 ·have h31:=cT h26 hb
  exact gA 8 E<|oSi h31▸gP E E
 have h32:=cF h26 hb
 refine gA 11 E<|bK h32 fun q36 hq36 h37=>Kkt (R:=fun a38=>q36=.inl a38) (fun a38=>[]) (fun a38=>[.box 40 [I a.Kind,I a.Number,S a.Words,I a.Version.1,I a.Version.2.1,I a.Version.2.2.1,I a.Version.2.2.2]]) ?_ ?_
 ·refine gA 1 E<|Khl hq36 (fun s34=>[(1,.ptr 0 0),(63,.agg [I a.Version.1,I a.Version.2.1,I a.Version.2.2.1,I a.Version.2.2.2]),(64,I s34)]) (fun s34=>[.box 40 [I a.Kind,I a.Number,S a.Words,I a.Version.1,I a.Version.2.1,I a.Version.2.2.1,I a.Version.2.2.2]]) ⟨⟨E,E,E,tV⟩,[],E,.inl E⟩ (fun s34 y42 hy40 hout41=>?_)
  refine gA 6 E<|Kgy E (fun hb=>?_) (fun hb=>?_)
  ·have h43:=cT hy40 hb
   refine bK h43 fun x44 hx44 h45=>gA 6 E<|eo_o E (Klo hΓ (enc:=(eN .i64)) [a.Version.1,a.Version.2.1,a.Version.2.2.1,a.Version.2.2.2] hx44 E E E E E E E (fun _=>E) E)<|gO 10 E<|bK h45 fun q46 hq46 h47=>Khe 3 [(1,.ptr 0 0),(4,I x44),(63,.agg [I a.Version.1,I a.Version.2.1,I a.Version.2.2.1,I a.Version.2.2.2]),(64,I s34),(73,B q46)] [.box 40 [I a.Kind,I a.Number,S a.Words,I a.Version.1,I a.Version.2.1,I a.Version.2.2.1,I a.Version.2.2.2]] ?_ ?_
   ·refine Kot E E (fun hb=>?_) (fun hb=>?_)
    ·have h48:=cT hq46 hb
     exact bK h48 fun y49 hy49 h50=>gO 1 E<|Kor E<|Kie C (Kzn hy49) E Z E E E E E<|gO 2 E<|oSi h50▸⟨⟨E,E,E,E,E,tV⟩,[],E,.inl E⟩
    have h51:=cF hq46 hb
    exact gO 4 E<|oSi h51▸⟨⟨E,E,E,E,E,tV⟩,[],E,.inl E⟩
   refine gO 2 E<|Kgy E (fun hb=>?_) (fun hb=>?_)
   ·have h52:=cT h47 hb
    refine gA 9 E<|bK h52 fun v53 hv53 h54=>?_
    cases h54
    obtain rfl:=hout41 _ rfl
    cases h37
    exact gA 4 E<|oSi hv53▸gP E E
   have h55:=cF h47 hb
   refine gA 8 E<|Khe 3 [(1,.ptr 0 0),(63,.agg [I a.Version.1,I a.Version.2.1,I a.Version.2.2.1,I a.Version.2.2.2]),(64,I s34),(80,B (((a.Kind:Int) != 4)&&((x44:Int) != 0)))] [.box 40 [I a.Kind,I a.Number,S a.Words,I a.Version.1,I a.Version.2.1,I a.Version.2.2.1,I a.Version.2.2.2]] ?_ ?_
   ·refine Kot E E (fun hb=>?_) (fun hb=>?_)
    ·exact gO 4 E<|⟨⟨E,E,E,Kgd E (Kiy hb),tV⟩,[],E,.inl E⟩
    exact gO 4 E<|⟨⟨E,E,E,Kgd E (Kiz hb),tV⟩,[],E,.inl E⟩
   refine gO 2 E<|jC E h55 (fun h56=>?_) fun h59=>gA 7 E<|oSi h59▸⟨_,E,⟨⟨E,E,E,tV⟩,[],E,.inl E⟩⟩
   refine gA 8 E<|bK h56 fun v57 hv57 h58=>?_
   cases h58
   obtain rfl:=hout41 _ rfl
   cases h37
   exact gA 4 E<|oSi hv57▸gP E E
  have h60:=cF hy40 hb
  refine gA 4 E ?_
  cases h60
  obtain rfl:=hout41 _ rfl
  exact⟨_,E,⟨tV,[],E,.inl E⟩⟩
 intro a38 ha
 subst ha
 replace h37:=Kkm h37
 exact gA 7 E<|oSi h37▸gP E E
theorem Laa{k:Nat}{c:Kur}{r:Int}(h:Kvv k c=some r):Pure Tryz.prog 60 [.agg [I c.Kind,S c.Name,S c.Op,I c.Value.Kind,I c.Value.Number,S c.Value.Words,I c.Value.Version.1,I c.Value.Version.2.1,I c.Value.Version.2.2.1,I c.Value.Version.2.2.2,.d (.ro c.Kids.n c.Kids.xs)]] (I r):=by
 induction k generalizing c r with
 | zero=>unfold Kvv at h;cases h
 | succ k ih0=>
  have ih:∀ {c:Kur} {r:Int},Kvv k c=some r→Pure Tryz.prog 60 [.agg [I c.Kind,S c.Name,S c.Op,I c.Value.Kind,I c.Value.Number,S c.Value.Words,I c.Value.Version.1,I c.Value.Version.2.1,I c.Value.Version.2.2.1,I c.Value.Version.2.2.2,.d (.ro c.Kids.n c.Kids.xs)]] (I r):=by intro c r h;first | exact ih0 h | exact ih0 _ _ h
  refine Pure.enter (Fr.of 0 _) Tryz.func60 E (Fr.of_ok _) E E ?_
  refine Kgx ?_
  unfold Kvv at h
  refine gA 2 E ?_
  refine Kqb E E E E Z ?_
  obtain⟨y1,hy1,h2⟩:=Khf h
  refine gO 8 E ?_
  refine Kie C (Kzn hy1) E Z E E E E E ?_
  refine gO 2 E ?_
  refine Kgy E (fun hb=>?_) (fun hb=>?_)
  ·have h3:=cT h2 hb
   refine gA 7 E ?_
   obtain rfl:=oSi h3
   exact gP E E
  have h4:=cF h2 hb
  obtain⟨y5,hy5,h6⟩:=Khf h4
  refine gA 6 E ?_
  refine Kie C (Kzr hy5) E Z E E E E E ?_
  refine gO 3 E ?_
  refine Kgy E (fun hb=>?_) (fun hb=>?_)
  ·have h7:=cT h6 hb
   refine gA 7 E ?_
   obtain rfl:=oSi h7
   exact gP E E
  have h8:=cF h6 hb
  obtain⟨q9,hq9,h10⟩:=Khf h8
  refine gA 10 E ?_
  refine Kkw (q:=q9) (fun a11=>[(1,.ptr 0 0)]) (fun a11=>[.box 47 [I c.Kind,S c.Name,S c.Op,I c.Value.Kind,I c.Value.Number,S c.Value.Words,I c.Value.Version.1,I c.Value.Version.2.1,I c.Value.Version.2.2.1,I c.Value.Version.2.2.2,.d (.ro c.Kids.n c.Kids.xs)]]) ?_ ?_
  ·refine Kgy E (fun hb=>?_) (fun hb=>?_)
   ·have h12:=cT hq9 hb
    obtain⟨y13,hy13,h14⟩:=Khf h12
    refine gA 6 E ?_
    refine Kie C (Kzs hy13) E Z E E E E E ?_
    refine gO 2 E ?_
    refine Khe 4 [(1,.ptr 0 0),(25,B ((!y13)||((c.Name:Str)==[116,114,117,101])))] [.box 47 [I c.Kind,S c.Name,S c.Op,I c.Value.Kind,I c.Value.Number,S c.Value.Words,I c.Value.Version.1,I c.Value.Version.2.1,I c.Value.Version.2.2.1,I c.Value.Version.2.2.2,.d (.ro c.Kids.n c.Kids.xs)]] ?_ ?_
    ·refine Kot E E (fun hb=>?_) (fun hb=>?_)
     ·refine gO 5 E ?_
      exact⟨⟨E,Kgd E (or_t hb),tV⟩,[],E,.inl E⟩
     refine gO 5 E ?_
     exact⟨⟨E,Kgd E (or_f hb),tV⟩,[],E,.inl E⟩
    refine gO 1 E ?_
    refine Khe 4 [(1,.ptr 0 0),(30,B (((!y13)||((c.Name:Str)==[116,114,117,101]))||((c.Name:Str)==[102,97,108,115,101])))] [.box 47 [I c.Kind,S c.Name,S c.Op,I c.Value.Kind,I c.Value.Number,S c.Value.Words,I c.Value.Version.1,I c.Value.Version.2.1,I c.Value.Version.2.2.1,I c.Value.Version.2.2.2,.d (.ro c.Kids.n c.Kids.xs)]] ?_ ?_
    ·refine Kot E E (fun hb=>?_) (fun hb=>?_)
     ·refine gO 5 E ?_
      exact⟨⟨E,Kgd E (or_t hb),tV⟩,[],E,.inl E⟩
     refine gO 5 E ?_
     exact⟨⟨E,Kgd E (or_f hb),tV⟩,[],E,.inl E⟩
    refine gO 1 E ?_
    obtain⟨q15,hq15,h16⟩:=Khf h14
    refine Khe 4 [(1,.ptr 0 0),(35,B q15)] [.box 47 [I c.Kind,S c.Name,S c.Op,I c.Value.Kind,I c.Value.Number,S c.Value.Words,I c.Value.Version.1,I c.Value.Version.2.1,I c.Value.Version.2.2.1,I c.Value.Version.2.2.2,.d (.ro c.Kids.n c.Kids.xs)]] ?_ ?_
    ·refine Kot E E (fun hb=>?_) (fun hb=>?_)
     ·have h17:=cT hq15 hb
      refine gO 5 E ?_
      obtain rfl:=oSi h17
      exact⟨⟨E,E,tV⟩,[],E,.inl E⟩
     have h18:=cF hq15 hb
     obtain⟨y19,hy19,h20⟩:=Khf h18
     refine gO 2 E ?_
     refine Kor E ?_
     refine Kie C (Kzu hy19) E Z E E E E E ?_
     refine gO 2 E ?_
     obtain rfl:=oSi h20
     exact⟨⟨E,E,tV⟩,[],E,.inl E⟩
    refine gO 3 E ?_
    refine Kgy E (fun hb=>?_) (fun hb=>?_)
    ·have h21:=cT h16 hb
     refine gA 8 E ?_
     obtain⟨v22,hv22,h23⟩:=Khf h21
     obtain rfl:=oSi h23
     obtain rfl:=oSi h10
     refine gA 2 E ?_
     obtain rfl:=oSi hv22
     exact gP E E
    have h24:=cF h16 hb
    obtain⟨y25,hy25,h26⟩:=Khf h24
    refine gA 4 E ?_
    refine Kie C (Kzx hy25) E Z E E E E E ?_
    refine gO 4 E ?_
    refine Kgy E (fun hb=>?_) (fun hb=>?_)
    ·have h27:=cT h26 hb
     refine gA 8 E ?_
     obtain⟨v28,hv28,h29⟩:=Khf h27
     obtain rfl:=oSi h29
     obtain rfl:=oSi h10
     refine gA 2 E ?_
     obtain rfl:=oSi hv28
     exact gP E E
    have h30:=cF h26 hb
    obtain⟨y31,hy31,h32⟩:=Khf h30
    refine gA 8 E ?_
    refine Kie C (Kzz hy31) E Z E E E E E ?_
    refine gO 9 E ?_
    refine Kgy E (fun hb=>?_) (fun hb=>?_)
    ·have h33:=cT h32 hb
     refine gA 8 E ?_
     obtain⟨v34,hv34,h35⟩:=Khf h33
     obtain rfl:=oSi h35
     obtain rfl:=oSi h10
     refine gA 2 E ?_
     obtain rfl:=oSi hv34
     exact gP E E
    have h36:=cF h32 hb
    refine gA 9 E ?_
    refine Khe 4 [(1,.ptr 0 0),(55,B (((c.Value.Kind:Int)==3)&&(!((c.Op:Str)==[61,61]))))] [.box 47 [I c.Kind,S c.Name,S c.Op,I c.Value.Kind,I c.Value.Number,S c.Value.Words,I c.Value.Version.1,I c.Value.Version.2.1,I c.Value.Version.2.2.1,I c.Value.Version.2.2.2,.d (.ro c.Kids.n c.Kids.xs)]] ?_ ?_
    ·refine Kot E E (fun hb=>?_) (fun hb=>?_)
     ·refine gO 5 E ?_
      exact⟨⟨E,Kgd E (Kiy hb),tV⟩,[],E,.inl E⟩
     refine gO 5 E ?_
     exact⟨⟨E,Kgd E (Kiz hb),tV⟩,[],E,.inl E⟩
    refine gO 1 E ?_
    refine Khe 4 [(1,.ptr 0 0),(60,B ((((c.Value.Kind:Int)==3)&&(!((c.Op:Str)==[61,61])))&&(!((c.Op:Str)==[33,61]))))] [.box 47 [I c.Kind,S c.Name,S c.Op,I c.Value.Kind,I c.Value.Number,S c.Value.Words,I c.Value.Version.1,I c.Value.Version.2.1,I c.Value.Version.2.2.1,I c.Value.Version.2.2.2,.d (.ro c.Kids.n c.Kids.xs)]] ?_ ?_
    ·refine Kot E E (fun hb=>?_) (fun hb=>?_)
     ·refine gO 5 E ?_
      exact⟨⟨E,Kgd E (Kiy hb),tV⟩,[],E,.inl E⟩
     refine gO 5 E ?_
     exact⟨⟨E,Kgd E (Kiz hb),tV⟩,[],E,.inl E⟩
    refine gO 2 E ?_
    refine Kgy E (fun hb=>?_) (fun hb=>?_)
    ·have h37:=cT h36 hb
     refine gA 6 E ?_
     obtain⟨v38,hv38,h39⟩:=Khf h37
     obtain rfl:=oSi h39
     obtain rfl:=oSi h10
     refine gA 2 E ?_
     obtain rfl:=oSi hv38
     exact gP E E
    have h40:=cF h36 hb
    refine gA 1 E ?_
    obtain rfl:=oSi h40
    exact⟨_,E,⟨⟨E,tV⟩,[],E,.inl E⟩⟩
   have h41:=cF hq9 hb
   refine gA 1 E ?_
   obtain rfl:=oSi h41
   exact⟨_,E,⟨⟨E,tV⟩,[],E,.inl E⟩⟩
  intro a11 ha
  subst ha
  replace h10:=Kkm h10
  obtain⟨l42,hl42,h43⟩:=Khf h10
  refine gA 5 E ?_
  refine eo_o E (Kmi (Kpn hΓ (g:=.d (.ro c.Kids.n c.Kids.xs)) E) (G.Le.unk Kxu hl42)) ?_
  refine gO 4 E ?_
  obtain⟨q47,hq47,h48⟩:=Khf h43
  refine Kho 62 E fun hb50=>?_
  refine Kkt (R:=fun a49=>q47=.go a49) (fun a49=>[]) (fun a49=>[.box 47 [I c.Kind,S c.Name,S c.Op,I c.Value.Kind,I c.Value.Number,S c.Value.Words,I c.Value.Version.1,I c.Value.Version.2.1,I c.Value.Version.2.2.1,I c.Value.Version.2.2.2,.d (.ro c.Kids.n c.Kids.xs)]]) ?_ ?_
  ·refine gA 1 E ?_
   refine Khn l42 hq47 (fun i44 s45=>[(62,.d (Sl Kus l42)),(63,I (l42.length:Int)),(64,I (i44:Int))]) (fun s45=>[.box 47 [I c.Kind,S c.Name,S c.Op,I c.Value.Kind,I c.Value.Number,S c.Value.Words,I c.Value.Version.1,I c.Value.Version.2.1,I c.Value.Version.2.2.1,I c.Value.Version.2.2.2,.d (.ro c.Kids.n c.Kids.xs)]]) ⟨⟨E,E,E,tV⟩,[],E,.inl E⟩ (fun i44 x46 s45 y54 hx51 hlt hy52 hout53=>?_) (fun s45 hgo=>?_)
   ·refine gA 6 E ?_
    refine Kgz E (dT (Int.ofNat_lt.2 hlt)) ?_
    refine gA 6 E ?_
    refine eo_o E (Khp hΓ (enc:=Kus) (Khi hx51) E E E E E (fun _=>E)) ?_
    refine gO 1 E ?_
    refine Kqa hΓ E E E Z ?_
    refine Kqf hΓ E E E E E E E E Z ?_
    refine Kil [.box 47 [I c.Kind,S c.Name,S c.Op,I c.Value.Kind,I c.Value.Number,S c.Value.Words,I c.Value.Version.1,I c.Value.Version.2.1,I c.Value.Version.2.2.1,I c.Value.Version.2.2.2,.d (.ro c.Kids.n c.Kids.xs)],.box 47 [I x46.Kind,S x46.Name,S x46.Op,I x46.Value.Kind,I x46.Value.Number,S x46.Value.Words,I x46.Value.Version.1,I x46.Value.Version.2.1,I x46.Value.Version.2.2.1,I x46.Value.Version.2.2.2,.d (.ro x46.Kids.n x46.Kids.xs)]] E ?_
    obtain⟨y55,hy55,h56⟩:=Khf hy52
    refine gO 5 E ?_
    refine Kie C (ih hy55) E Z E E E E E ?_
    refine gO 9 E ?_
    refine Kgy E (fun hb=>?_) (fun hb=>?_)
    ·have h57:=cT h56 hb
     refine gA 9 E ?_
     obtain⟨v58,hv58,h59⟩:=Khf h57
     obtain rfl:=oSi h59
     obtain rfl:=hout53 _ rfl
     obtain rfl:=oSi h48
     refine gA 4 E ?_
     obtain rfl:=oSi hv58
     exact gP E E
    have h60:=cF h56 hb
    refine gA 7 E ?_
    obtain rfl:=oSi h60
    exact⟨_,E,⟨⟨E,E,Kgc E (Kgb (nLl hlt hb50)),tV⟩,[_],E,.inr ⟨HB.mk E,FB.mk E,Z⟩⟩⟩
   subst hgo
   refine gA 6 E ?_
   refine Kha E (dF (Int.lt_irrefl _)) ?_
   refine gA 4 E ?_
   exact⟨_,E,⟨tV,[],E,.inl E⟩⟩
  intro a49 ha
  subst ha
  replace h48:=Kkn h48
  refine gA 7 E ?_
  obtain rfl:=oSi h48
  exact gP E E
theorem Lab{k:Nat}{c:Kur}{r:Int}(h:Kvw k c=some r):Pure Tryz.prog 19 [.agg [I c.Kind,S c.Name,S c.Op,I c.Value.Kind,I c.Value.Number,S c.Value.Words,I c.Value.Version.1,I c.Value.Version.2.1,I c.Value.Version.2.2.1,I c.Value.Version.2.2.2,.d (.ro c.Kids.n c.Kids.xs)]] (I r):=by
 unfold Kvw at h
 refine QP Tryz.func19 E E E<|gA 2 E<|Kqb E E E E Z<|bK h fun y1 hy1 h2=>gO 7 E<|Kie C (Kzm hy1) E Z E E E E E<|gO 12 E<|Khe 3 [(1,.ptr 0 0),(15,B ((decide ((y1.1:Int)>100))||(decide ((y1.2:Int)>30))))] [.box 47 [I c.Kind,S c.Name,S c.Op,I c.Value.Kind,I c.Value.Number,S c.Value.Words,I c.Value.Version.1,I c.Value.Version.2.1,I c.Value.Version.2.2.1,I c.Value.Version.2.2.2,.d (.ro c.Kids.n c.Kids.xs)]] ?_ ?_
 ·refine Kot E E (fun hb=>?_) (fun hb=>?_)
  ·exact gO 4 E<|⟨⟨E,Kgd E (or_t hb),tV⟩,[],E,.inl E⟩
  exact gO 4 E<|⟨⟨E,Kgd E (or_f hb),tV⟩,[],E,.inl E⟩
 refine gO 2 E<|jC E h2 (fun h3=>?_) fun h4=>bK h4 fun y5 hy5 h6=>gA 5 E<|Kie C (Laa hy5) E Z E E E E E<|gO 4 E<|oSi h6▸gP E E
 exact gA 7 E<|oSi h3▸gP E E
theorem Lac{b:Bool}{r:Str}(h:Kvx b=some r):Pure Tryz.prog 114 [B b] (S r):=by
 unfold Kvx at h
 refine QP Tryz.func114 E E E<|gA 11 E<|jC E h (fun h1=>?_) fun h2=>gA 8 E<|oSi h2▸gP E E
 exact gA 7 E<|oSi h1▸gP E E
theorem Lad{b:Bool}{r:Str}(h:Kvy b=some r):Pure Tryz.prog 75 [B b] (S r):=by
 unfold Kvy at h
 exact QP Tryz.func75 E E E<|bK h fun y1 hy1 h2=>gA 8 E<|Kie C (Lac hy1) E Z E E E E E<|gO 4 E<|oSi h2▸gP E E
theorem Lae{k:Nat}{a:Kuq}{r:Str}(h:Kvz k a=some r):Pure Tryz.prog 32 [.agg [I a.Kind,I a.Number,S a.Words,I a.Version.1,I a.Version.2.1,I a.Version.2.2.1,I a.Version.2.2.2]] (S r):=by
 unfold Kvz at h
 refine QP Tryz.func32 E E E<|gA 2 E<|Kqb E E E E Z<|gO 17 E<|jC E h (fun h1=>?_) fun h4=>gA 6 E<|jC E h4 (fun h5=>?_) fun h6=>?_
 ·exact bK h1 fun y2 hy2 h3=>gA 4 E<|Kie C (Ktj hy2) E Z E E E E E<|gO 6 E<|oSi h3▸gP E E
 ·refine gA 1 E ?_
  cases h5
 refine gA 6 E<|jC E h6 (fun h7=>?_) fun h10=>gA 5 E<|Kib (t:=0) 9 1 E Z<|gO 10 E<|bK h10 fun q14 hq14 h15=>Kku [(3,.sl 1 q14.length)] [.box 40 [I a.Kind,I a.Number,S a.Words,I a.Version.1,I a.Version.2.1,I a.Version.2.2.1,I a.Version.2.2.2],rO 9 1 eS q14] ?_ ?_
 ·exact bK h7 fun y8 hy8 h9=>gA 5 E<|Kie C (Lad hy8) E Z E E E E E<|gO 6 E<|oSi h9▸gP E E
 ·refine gA 1 E<|Khl hq14 (fun s12=>[(3,.sl 1 s12.1.length),(29,.agg [I a.Version.1,I a.Version.2.1,I a.Version.2.2.1,I a.Version.2.2.2]),(30,I s12.2)]) (fun s12=>[.box 40 [I a.Kind,I a.Number,S a.Words,I a.Version.1,I a.Version.2.1,I a.Version.2.2.1,I a.Version.2.2.2],rO 9 1 eS s12.1]) ⟨⟨E,E,E,tV⟩,[],E,.inl E⟩ (fun s12 y20 hy18 hout19=>?_)
  refine gA 6 E<|jC E hy18 (fun h21=>?_) fun h28=>gA 4 E ?_
  ·exact bK h21 fun x22 hx22 h23=>gA 6 E<|eo_o E (Klo hΓ (enc:=(eN .i64)) [a.Version.1,a.Version.2.1,a.Version.2.2.1,a.Version.2.2.2] hx22 E E E E E E E (fun _=>E) E)<|bK h23 fun y24 hy24 h25=>gO 6 E<|Kie C (Ktj hy24) E Z E E E E E<|Khz hΓ (enc:=eS) [y24] E E E E E E E E E E E E Z<|bK h25 fun y26 hy26 h27=>Kim hΓ (enc:=eS) hy26 E E E E E E E E E (fun _=>E) E E E E<|gO 8 E<|oSi h27▸⟨_,E,⟨⟨E,E,E,tV⟩,[],E,.inl E⟩⟩
  cases h28
  obtain rfl:=hout19 _ rfl
  exact⟨⟨E,tV⟩,[],E,.inl E⟩
 exact bK h15 fun y29 hy29 h30=>gA 4 E<|Kig C (Ktm hy29) E Z E E E E E<|bK h30 fun y31 hy31 h32=>eo_o E (Kio hy31 E E)<|gO 4 E<|oSi h32▸gP E E
theorem Laf{k:Nat}{a:Kuq}{r:Str}(h:Kwa k a=some r):Pure Tryz.prog 32 [.agg [I a.Kind,I a.Number,S a.Words,I a.Version.1,I a.Version.2.1,I a.Version.2.2.1,I a.Version.2.2.2]] (S r):=by
 cases hb:(a.Kind:Int)==2 with
 | true=>
  have h1:=cT h hb
  obtain⟨h2,h3⟩:=Khg h1
  cases h3
  have hk:a.Kind=2:=eq_of_beq hb
  rw[hk]
  exact Ksx a.Words (nBe h2) _ _ _ _ _
 | false=>exact Lae (cF h hb)
theorem Lag{k:Nat}{c:Kur}{r:Str}(h:Kwb k c=some r):Pure Tryz.prog 52 [.agg [I c.Kind,S c.Name,S c.Op,I c.Value.Kind,I c.Value.Number,S c.Value.Words,I c.Value.Version.1,I c.Value.Version.2.1,I c.Value.Version.2.2.1,I c.Value.Version.2.2.2,.d (.ro c.Kids.n c.Kids.xs)]] (S r):=by
 induction k generalizing c r with
 | zero=>unfold Kwb at h;cases h
 | succ k ih0=>
  have ih:∀ {c:Kur} {r:Str},Kwb k c=some r→Pure Tryz.prog 52 [.agg [I c.Kind,S c.Name,S c.Op,I c.Value.Kind,I c.Value.Number,S c.Value.Words,I c.Value.Version.1,I c.Value.Version.2.1,I c.Value.Version.2.2.1,I c.Value.Version.2.2.2,.d (.ro c.Kids.n c.Kids.xs)]] (S r):=by intro c r h;first | exact ih0 h | exact ih0 _ _ h
  refine Pure.enter (Fr.of 0 _) Tryz.func52 E (Fr.of_ok _) E E ?_
  refine Kgx ?_
  unfold Kwb at h
  refine gA 2 E ?_
  refine Kqb E E E E Z ?_
  refine gO 17 E ?_
  refine Kgy E (fun hb=>?_) (fun hb=>?_)
  ·have h1:=cT h hb
   refine gA 1 E ?_
   refine jD ?_
   obtain⟨y2,hy2,h3⟩:=Khf h1
   refine gA 2 E ?_
   refine gl_o E (Kio hy2 E E) ?_
   obtain⟨y4,hy4,h5⟩:=Khf h3
   refine Kgw hΓ 2 E ?_
   refine gl_o E (Kio hy4 E E) ?_
   obtain⟨y6,hy6,h7⟩:=Khf h5
   refine gl_o E (Kio hy6 E E) ?_
   obtain⟨y8,hy8,h9⟩:=Khf h7
   refine Kgw hΓ 2 E ?_
   refine Kif C (Laf hy8) E E E E E E ?_
   obtain⟨y10,hy10,h11⟩:=Khf h9
   refine gl_o E (Kio hy10 E E) ?_
   refine Kgw hΓ 6 E ?_
   obtain rfl:=oSi h11
   exact gP E E
  have h12:=cF h hb
  refine gA 6 E ?_
  refine Kgy E (fun hb=>?_) (fun hb=>?_)
  ·have h13:=cT h12 hb
   obtain⟨l14,hl14,h15⟩:=Khf h13
   refine gA 4 E ?_
   refine eo_o E (Kmi (Kpn hΓ (g:=.d (.ro c.Kids.n c.Kids.xs)) E) (G.Le.unk Kxu hl14)) ?_
   obtain⟨x16,hx16,h17⟩:=Khf h15
   refine eo_o E (Khp hΓ (enc:=Kus) hx16 E E E E E (fun _=>E)) ?_
   refine gO 5 E ?_
   refine Kgy E (fun hb=>?_) (fun hb=>?_)
   ·have h18:=cT h17 hb
    obtain⟨l19,hl19,h20⟩:=Khf h18
    refine gA 3 E ?_
    refine eo_o E (Kmi (Kpn hΓ (g:=.d (.ro c.Kids.n c.Kids.xs)) E) (G.Le.unk Kxu hl19)) ?_
    obtain⟨x21,hx21,h22⟩:=Khf h20
    refine eo_o E (Khp hΓ (enc:=Kus) hx21 E E E E E (fun _=>E)) ?_
    obtain⟨y23,hy23,h24⟩:=Khf h22
    refine gO 1 E ?_
    refine Kie C (ih hy23) E Z E E E E E ?_
    obtain⟨y25,hy25,h26⟩:=Khf h24
    refine eo_o E (Kio hy25 E E) ?_
    refine gO 7 E ?_
    obtain rfl:=oSi h26
    exact gP E E
   have h27:=cF h17 hb
   obtain⟨l28,hl28,h29⟩:=Khf h27
   refine gA 5 E ?_
   refine eo_o E (Kmi (Kpn hΓ (g:=.d (.ro c.Kids.n c.Kids.xs)) E) (G.Le.unk Kxu hl28)) ?_
   obtain⟨x30,hx30,h31⟩:=Khf h29
   refine eo_o E (Khp hΓ (enc:=Kus) hx30 E E E E E (fun _=>E)) ?_
   obtain⟨y32,hy32,h33⟩:=Khf h31
   refine gO 1 E ?_
   refine Kie C (ih hy32) E Z E E E E E ?_
   obtain⟨y34,hy34,h35⟩:=Khf h33
   refine eo_o E (Kio hy34 E E) ?_
   obtain⟨y36,hy36,h37⟩:=Khf h35
   refine eo_o E (Kio hy36 E E) ?_
   refine gO 6 E ?_
   obtain rfl:=oSi h37
   exact gP E E
  have h38:=cF h12 hb
  refine gA 5 E ?_
  refine Kib (t:=0) 9 1 E Z ?_
  obtain⟨l39,hl39,h40⟩:=Khf h38
  refine gO 6 E ?_
  refine eo_o E (Kmi (Kpn hΓ (g:=.d (.ro c.Kids.n c.Kids.xs)) E) (G.Le.unk Kxu hl39)) ?_
  refine gO 4 E ?_
  obtain⟨q44,hq44,h45⟩:=Khf h40
  refine Kho 44 E fun hb47=>?_
  refine Kku [(1,.ptr 0 0),(3,.sl 1 q44.length)] [.box 47 [I c.Kind,S c.Name,S c.Op,I c.Value.Kind,I c.Value.Number,S c.Value.Words,I c.Value.Version.1,I c.Value.Version.2.1,I c.Value.Version.2.2.1,I c.Value.Version.2.2.2,.d (.ro c.Kids.n c.Kids.xs)],rO 9 1 eS q44] ?_ ?_
  ·refine gA 1 E ?_
   refine Kiu l39 hq44 (fun i41 s42=>[(1,.ptr 0 0),(3,.sl 1 s42.length),(44,.d (Sl Kus l39)),(45,I (l39.length:Int)),(46,I (i41:Int))]) (fun s42=>[.box 47 [I c.Kind,S c.Name,S c.Op,I c.Value.Kind,I c.Value.Number,S c.Value.Words,I c.Value.Version.1,I c.Value.Version.2.1,I c.Value.Version.2.2.1,I c.Value.Version.2.2.2,.d (.ro c.Kids.n c.Kids.xs)],rO 9 1 eS s42]) ⟨⟨E,E,E,E,E,tV⟩,[],E,.inl E⟩ (fun i41 x43 s42 y51 hx48 hlt hy49=>?_) (?_)
   ·refine gA 6 E ?_
    refine Kgz E (dT (Int.ofNat_lt.2 hlt)) ?_
    refine gA 6 E ?_
    refine eo_o E (Khp hΓ (enc:=Kus) (Khi hx48) E E E E E (fun _=>E)) ?_
    refine gO 1 E ?_
    refine Kqa hΓ E E E Z ?_
    refine Kqf hΓ E E E E E E E E Z ?_
    refine Kil [.box 47 [I c.Kind,S c.Name,S c.Op,I c.Value.Kind,I c.Value.Number,S c.Value.Words,I c.Value.Version.1,I c.Value.Version.2.1,I c.Value.Version.2.2.1,I c.Value.Version.2.2.2,.d (.ro c.Kids.n c.Kids.xs)],rO 9 1 eS s42,.box 47 [I x43.Kind,S x43.Name,S x43.Op,I x43.Value.Kind,I x43.Value.Number,S x43.Value.Words,I x43.Value.Version.1,I x43.Value.Version.2.1,I x43.Value.Version.2.2.1,I x43.Value.Version.2.2.2,.d (.ro x43.Kids.n x43.Kids.xs)]] E ?_
    obtain⟨y52,hy52,h53⟩:=Khf hy49
    refine gO 5 E ?_
    refine Kie C (ih hy52) E Z E E E E E ?_
    refine gO 10 E ?_
    refine Khe 4 [(1,.ptr 0 0),(3,.sl 1 s42.length),(6,S y52),(44,.d (Sl Kus l39)),(45,I (l39.length:Int)),(46,I (i41:Int)),(59,B (((c.Kind:Int)==3)&&((x43.Kind:Int)==4)))] [.box 47 [I c.Kind,S c.Name,S c.Op,I c.Value.Kind,I c.Value.Number,S c.Value.Words,I c.Value.Version.1,I c.Value.Version.2.1,I c.Value.Version.2.2.1,I c.Value.Version.2.2.2,.d (.ro c.Kids.n c.Kids.xs)],rO 9 1 eS s42,.box 47 [I x43.Kind,S x43.Name,S x43.Op,I x43.Value.Kind,I x43.Value.Number,S x43.Value.Words,I x43.Value.Version.1,I x43.Value.Version.2.1,I x43.Value.Version.2.2.1,I x43.Value.Version.2.2.2,.d (.ro x43.Kids.n x43.Kids.xs)]] ?_ ?_
    ·refine Kot E E (fun hb=>?_) (fun hb=>?_)
     ·refine gO 5 E ?_
      exact⟨⟨E,E,E,E,E,E,Kgd E (Kiy hb),tV⟩,[],E,.inl E⟩
     refine gO 5 E ?_
     exact⟨⟨E,E,E,E,E,E,Kgd E (Kiz hb),tV⟩,[],E,.inl E⟩
    obtain⟨q54,hq54,h55⟩:=Khf h53
    refine gO 2 E ?_
    refine Kku [(1,.ptr 0 0),(3,.sl 1 s42.length),(6,S q54),(44,.d (Sl Kus l39)),(45,I (l39.length:Int)),(46,I (i41:Int))] [.box 47 [I c.Kind,S c.Name,S c.Op,I c.Value.Kind,I c.Value.Number,S c.Value.Words,I c.Value.Version.1,I c.Value.Version.2.1,I c.Value.Version.2.2.1,I c.Value.Version.2.2.2,.d (.ro c.Kids.n c.Kids.xs)],rO 9 1 eS s42,.box 47 [I x43.Kind,S x43.Name,S x43.Op,I x43.Value.Kind,I x43.Value.Number,S x43.Value.Words,I x43.Value.Version.1,I x43.Value.Version.2.1,I x43.Value.Version.2.2.1,I x43.Value.Version.2.2.2,.d (.ro x43.Kids.n x43.Kids.xs)]] ?_ ?_
    ·refine Kgy E (fun hb=>?_) (fun hb=>?_)
     ·have h56:=cT hq54 hb
      obtain⟨y57,hy57,h58⟩:=Khf h56
      refine gA 2 E ?_
      refine eo_o E (Kio hy57 E E) ?_
      obtain⟨y59,hy59,h60⟩:=Khf h58
      refine eo_o E (Kio hy59 E E) ?_
      refine gO 2 E ?_
      obtain rfl:=oSi h60
      exact⟨⟨E,E,E,E,E,E,tV⟩,[],E,.inl E⟩
     have h61:=cF hq54 hb
     refine gA 1 E ?_
     obtain rfl:=oSi h61
     exact⟨⟨E,E,E,E,E,E,tV⟩,[],E,.inl E⟩
    refine gA 4 E ?_
    refine Khz hΓ (enc:=eS) [q54] E E E E E E E E E E E E Z ?_
    obtain⟨y62,hy62,h63⟩:=Khf h55
    refine Kim hΓ (enc:=eS) hy62 E E E E E E E E E (fun _=>E) E E E E ?_
    refine gO 8 E ?_
    obtain rfl:=oSi h63
    exact⟨⟨E,E,E,E,Kgc E (Kgb (nLl hlt hb47)),tV⟩,[_],E,.inr ⟨HB.mk E,FB.mk E,Z⟩⟩
   refine gA 6 E ?_
   refine Kha E (dF (Int.lt_irrefl _)) ?_
   refine gA 4 E ?_
   exact⟨⟨E,E,tV⟩,[],E,.inl E⟩
  refine gA 9 E ?_
  refine Kgy E (fun hb=>?_) (fun hb=>?_)
  ·have h64:=cT h45 hb
   obtain⟨y65,hy65,h66⟩:=Khf h64
   refine gA 3 E ?_
   refine Kig C (Ktm hy65) E Z E E E E E ?_
   refine gO 5 E ?_
   obtain rfl:=oSi h66
   exact gP E E
  have h67:=cF h45 hb
  obtain⟨y68,hy68,h69⟩:=Khf h67
  refine gA 5 E ?_
  refine Kig C (Ktm hy68) E Z E E E E E ?_
  refine gO 4 E ?_
  obtain rfl:=oSi h69
  exact gP E E
theorem Lah{k:Nat}{c:Kur}{r:Str×Int}(h:Kwc k c=some r):Pure Tryz.prog 16 [.agg [I c.Kind,S c.Name,S c.Op,I c.Value.Kind,I c.Value.Number,S c.Value.Words,I c.Value.Version.1,I c.Value.Version.2.1,I c.Value.Version.2.2.1,I c.Value.Version.2.2.2,.d (.ro c.Kids.n c.Kids.xs)]] (.tup [S r.1,I r.2]):=by
 unfold Kwc at h
 refine QP Tryz.func16 E E E<|gA 2 E<|Kqb E E E E Z<|bK h fun y1 hy1 h2=>gO 8 E<|Kie C (Lab hy1) E Z E E E E E<|gO 9 E<|jC E h2 (fun h3=>?_) fun h4=>bK h4 fun y5 hy5 h6=>gA 5 E<|Kie C (Lag hy5) E Z E E E E E<|gO 11 E<|jC E h6 (fun h7=>?_) fun h8=>?_
 ·exact gA 9 E<|oSi h3▸gP E E
 ·exact gA 8 E<|oSi h7▸gP E E
 exact gA 10 E<|oSi h8▸gP E E
theorem Lai{k:Nat}{out:List (Str×Bool)}{c:Kur}{r:List (Str×Bool)}(h:Kwd k out c=some r):EC Tryz.prog 53 [.map 0,.agg [I c.Kind,S c.Name,S c.Op,I c.Value.Kind,I c.Value.Number,S c.Value.Words,I c.Value.Version.1,I c.Value.Version.2.1,I c.Value.Version.2.2.1,I c.Value.Version.2.2.2,.d (.ro c.Kids.n c.Kids.xs)]] [mObB out] fun g hp'=>g=.tup []∧hp'=[mObB r]:=by
 induction k generalizing out c r with
 | zero=>unfold Kwd at h;cases h
 | succ k ih0=>
  have ih:∀ {out:List (Str×Bool)} {c:Kur} {r:List (Str×Bool)},Kwd k out c=some r→EC Tryz.prog 53 [.map 0,.agg [I c.Kind,S c.Name,S c.Op,I c.Value.Kind,I c.Value.Number,S c.Value.Words,I c.Value.Version.1,I c.Value.Version.2.1,I c.Value.Version.2.2.1,I c.Value.Version.2.2.2,.d (.ro c.Kids.n c.Kids.xs)]] [mObB out] fun g hp'=>g=.tup []∧hp'=[mObB r]:=by intro out c r h;first | exact ih0 h | exact ih0 _ _ _ h
  refine Kol (Fr.of 0 _) Tryz.func53 E (Fr.of_ok _) Z fun _=>?_
  refine Kgx ?_
  unfold Kwd at h
  refine gA 2 E ?_
  refine Kqb E E E E Z ?_
  obtain⟨q1,hq1,h2⟩:=Khf h
  refine gO 10 E ?_
  refine Kku [(0,.map 0),(3,.ptr 1 0)] [mObB q1,.box 47 [I c.Kind,S c.Name,S c.Op,I c.Value.Kind,I c.Value.Number,S c.Value.Words,I c.Value.Version.1,I c.Value.Version.2.1,I c.Value.Version.2.2.1,I c.Value.Version.2.2.2,.d (.ro c.Kids.n c.Kids.xs)]] ?_ ?_
  ·refine Kgy E (fun hb=>?_) (fun hb=>?_)
   ·have h3:=cT hq1 hb
    refine gA 4 E ?_
    refine eo_u Z (Kmb hΓ (kv:=kS) (agg:=false) (enc:=eB) (id:=0) out c.Name true E E E Kls E E E E E) ?_
    refine Kil [mObB (mSet out c.Name true),.box 47 [I c.Kind,S c.Name,S c.Op,I c.Value.Kind,I c.Value.Number,S c.Value.Words,I c.Value.Version.1,I c.Value.Version.2.1,I c.Value.Version.2.2.1,I c.Value.Version.2.2.2,.d (.ro c.Kids.n c.Kids.xs)]] E ?_
    refine gO 1 E ?_
    obtain rfl:=oSi h3
    exact⟨⟨E,E,tV⟩,[],E,.inl E⟩
   have h4:=cF hq1 hb
   refine gA 1 E ?_
   obtain rfl:=oSi h4
   exact⟨⟨E,E,tV⟩,[],E,.inl E⟩
  obtain⟨l5,hl5,h6⟩:=Khf h2
  refine gA 4 E ?_
  refine eo_o E (Kmi (Kpn hΓ (g:=.d (.ro c.Kids.n c.Kids.xs)) E) (G.Le.unk Kxu hl5)) ?_
  refine gO 4 E ?_
  obtain⟨q10,hq10,h11⟩:=Khf h6
  refine Kho 13 E fun hb13=>?_
  refine Kku [] [mObB q10,.box 47 [I c.Kind,S c.Name,S c.Op,I c.Value.Kind,I c.Value.Number,S c.Value.Words,I c.Value.Version.1,I c.Value.Version.2.1,I c.Value.Version.2.2.1,I c.Value.Version.2.2.2,.d (.ro c.Kids.n c.Kids.xs)]] ?_ ?_
  ·refine gA 1 E ?_
   refine Kiu l5 hq10 (fun i7 s8=>[(0,.map 0),(13,.d (Sl Kus l5)),(14,I (l5.length:Int)),(15,I (i7:Int))]) (fun s8=>[mObB s8,.box 47 [I c.Kind,S c.Name,S c.Op,I c.Value.Kind,I c.Value.Number,S c.Value.Words,I c.Value.Version.1,I c.Value.Version.2.1,I c.Value.Version.2.2.1,I c.Value.Version.2.2.2,.d (.ro c.Kids.n c.Kids.xs)]]) ⟨⟨E,E,E,E,tV⟩,[],E,.inl E⟩ (fun i7 x9 s8 y17 hx14 hlt hy15=>?_) (?_)
   ·refine gA 6 E ?_
    refine Kgz E (dT (Int.ofNat_lt.2 hlt)) ?_
    refine gA 6 E ?_
    refine eo_o E (Khp hΓ (enc:=Kus) (Khi hx14) E E E E E (fun _=>E)) ?_
    refine gO 1 E ?_
    refine Kqa hΓ E E E Z ?_
    refine Kqf hΓ E E E E E E E E Z ?_
    refine Kil [mObB s8,.box 47 [I c.Kind,S c.Name,S c.Op,I c.Value.Kind,I c.Value.Number,S c.Value.Words,I c.Value.Version.1,I c.Value.Version.2.1,I c.Value.Version.2.2.1,I c.Value.Version.2.2.2,.d (.ro c.Kids.n c.Kids.xs)],.box 47 [I x9.Kind,S x9.Name,S x9.Op,I x9.Value.Kind,I x9.Value.Number,S x9.Value.Words,I x9.Value.Version.1,I x9.Value.Version.2.1,I x9.Value.Version.2.2.1,I x9.Value.Version.2.2.2,.d (.ro x9.Kids.n x9.Kids.xs)]] E ?_
    obtain⟨y18,hy18,h19⟩:=Khf hy15
    refine gO 5 E ?_
    refine Kid [0] (.tup []) [mObB y18,.box 47 [I c.Kind,S c.Name,S c.Op,I c.Value.Kind,I c.Value.Number,S c.Value.Words,I c.Value.Version.1,I c.Value.Version.2.1,I c.Value.Version.2.2.1,I c.Value.Version.2.2.2,.d (.ro c.Kids.n c.Kids.xs)],.box 47 [I x9.Kind,S x9.Name,S x9.Op,I x9.Value.Kind,I x9.Value.Number,S x9.Value.Words,I x9.Value.Version.1,I x9.Value.Version.2.1,I x9.Value.Version.2.2.1,I x9.Value.Version.2.2.2,.d (.ro x9.Kids.n x9.Kids.xs)]] C (ih hy18) E Z E E E E E E E E E E ?_
    refine gO 7 E ?_
    obtain rfl:=oSi h19
    exact⟨⟨E,E,E,Kgc E (Kgb (nLl hlt hb13)),tV⟩,[_],E,.inr ⟨HB.mk E,FB.mk E,Z⟩⟩
   refine gA 6 E ?_
   refine Kha E (dF (Int.lt_irrefl _)) ?_
   refine gA 4 E ?_
   exact⟨tV,[],E,.inl E⟩
  obtain rfl:=oSi h11
  exact Kis hΓ [_] (.inl E) E E E E (.inr ⟨HB.mk E,E⟩)
theorem Laj{k:Nat}{c:Kur}{r:(List Str)×Int}(h:Kwe k c=some r):Pure Tryz.prog 17 [.agg [I c.Kind,S c.Name,S c.Op,I c.Value.Kind,I c.Value.Number,S c.Value.Words,I c.Value.Version.1,I c.Value.Version.2.1,I c.Value.Version.2.2.1,I c.Value.Version.2.2.2,.d (.ro c.Kids.n c.Kids.xs)]] (.tup [.d (Sl eS r.1),I r.2]):=by
 unfold Kwe at h
 refine QP Tryz.func17 E E E<|gA 2 E<|Kqb E E E E Z<|bK h fun y1 hy1 h2=>gO 8 E<|Kie C (Lab hy1) E Z E E E E E<|gO 9 E<|jC E h2 (fun h3=>?_) fun h4=>gA 4 E<|eo_s Z (nblt.1 E) (Klx false)<|Kil [.box 47 [I c.Kind,S c.Name,S c.Op,I c.Value.Kind,I c.Value.Number,S c.Value.Words,I c.Value.Version.1,I c.Value.Version.2.1,I c.Value.Version.2.2.1,I c.Value.Version.2.2.2,.d (.ro c.Kids.n c.Kids.xs)],mObB ([]:List (Str×Bool))] E<|bK h4 fun y5 hy5 h6=>gO 7 E<|Kid [1] (.tup []) [.box 47 [I c.Kind,S c.Name,S c.Op,I c.Value.Kind,I c.Value.Number,S c.Value.Words,I c.Value.Version.1,I c.Value.Version.2.1,I c.Value.Version.2.2.1,I c.Value.Version.2.2.2,.d (.ro c.Kids.n c.Kids.xs)],mObB y5] C (Lai hy5) E Z E E E E E E E E E E<|gO 5 E<|Kid [1] (.fn (.func 98) [] [.ptr 2 0]) [.box 47 [I c.Kind,S c.Name,S c.Op,I c.Value.Kind,I c.Value.Number,S c.Value.Words,I c.Value.Version.1,I c.Value.Version.2.1,I c.Value.Version.2.2.1,I c.Value.Version.2.2.2,.d (.ro c.Kids.n c.Kids.xs)],mObB y5,.box 92 [.map 1]] C (EC.mapKeys (o:=mObB y5) bm55) E Z E E E E E E E E E E<|gK h6 fun hg8 h7=>Kid [1,2] (.sl 3 (sortK y5).length) [.box 47 [I c.Kind,S c.Name,S c.Op,I c.Value.Kind,I c.Value.Number,S c.Value.Words,I c.Value.Version.1,I c.Value.Version.2.1,I c.Value.Version.2.2.1,I c.Value.Version.2.2.2,.d (.ro c.Kids.n c.Kids.xs)],mObB y5,.box 92 [.map 1],rO 9 1 eS (sortK y5)] C (EC.sortedKeys false eB str9 (Kmn hg8) (Kmo hg8) sk55) E Z E E E E E E E E E E<|Kij 3 [17] _ [.box 47 [I c.Kind,S c.Name,S c.Op,I c.Value.Kind,I c.Value.Number,S c.Value.Words,I c.Value.Version.1,I c.Value.Version.2.1,I c.Value.Version.2.2.1,I c.Value.Version.2.2.2,.d (.ro c.Kids.n c.Kids.xs)],mObB y5,.box 92 [.map 1],.dead] E E E Z<|gO 5 E<|oSi h7▸gP E E
 exact gA 9 E<|oSi h3▸gP E E
theorem Lak{k:Nat}{c:Kur}{r:Int}(h:Kwf k c=some r):Pure Tryz.prog 56 [.agg [I c.Kind,S c.Name,S c.Op,I c.Value.Kind,I c.Value.Number,S c.Value.Words,I c.Value.Version.1,I c.Value.Version.2.1,I c.Value.Version.2.2.1,I c.Value.Version.2.2.2,.d (.ro c.Kids.n c.Kids.xs)]] (I r):=by
 induction k generalizing c r with
 | zero=>unfold Kwf at h;cases h
 | succ k ih0=>
  have ih:∀ {c:Kur} {r:Int},Kwf k c=some r→Pure Tryz.prog 56 [.agg [I c.Kind,S c.Name,S c.Op,I c.Value.Kind,I c.Value.Number,S c.Value.Words,I c.Value.Version.1,I c.Value.Version.2.1,I c.Value.Version.2.2.1,I c.Value.Version.2.2.2,.d (.ro c.Kids.n c.Kids.xs)]] (I r):=by intro c r h;first | exact ih0 h | exact ih0 _ _ h
  refine Pure.enter (Fr.of 0 _) Tryz.func56 E (Fr.of_ok _) E E ?_
  refine Kgx ?_
  unfold Kwf at h
  refine gA 2 E ?_
  refine Kqb E E E E Z ?_
  obtain⟨q1,hq1,h2⟩:=Khf h
  refine gO 16 E ?_
  refine Kku [(1,.ptr 0 0),(3,I q1)] [.box 47 [I c.Kind,S c.Name,S c.Op,I c.Value.Kind,I c.Value.Number,S c.Value.Words,I c.Value.Version.1,I c.Value.Version.2.1,I c.Value.Version.2.2.1,I c.Value.Version.2.2.2,.d (.ro c.Kids.n c.Kids.xs)]] ?_ ?_
  ·refine Kgy E (fun hb=>?_) (fun hb=>?_)
   ·have h3:=cT hq1 hb
    refine gA 3 E ?_
    obtain rfl:=oSi h3
    exact⟨⟨E,E,tV⟩,[],E,.inl E⟩
   have h4:=cF hq1 hb
   refine gA 1 E ?_
   obtain rfl:=oSi h4
   exact⟨⟨E,E,tV⟩,[],E,.inl E⟩
  obtain⟨l5,hl5,h6⟩:=Khf h2
  refine gA 5 E ?_
  refine eo_o E (Kmi (Kpn hΓ (g:=.d (.ro c.Kids.n c.Kids.xs)) E) (G.Le.unk Kxu hl5)) ?_
  refine gO 4 E ?_
  obtain⟨q10,hq10,h11⟩:=Khf h6
  refine Kho 10 E fun hb13=>?_
  refine Kku [(3,I q10)] [.box 47 [I c.Kind,S c.Name,S c.Op,I c.Value.Kind,I c.Value.Number,S c.Value.Words,I c.Value.Version.1,I c.Value.Version.2.1,I c.Value.Version.2.2.1,I c.Value.Version.2.2.2,.d (.ro c.Kids.n c.Kids.xs)]] ?_ ?_
  ·refine gA 1 E ?_
   refine Kiu l5 hq10 (fun i7 s8=>[(3,I s8),(10,.d (Sl Kus l5)),(11,I (l5.length:Int)),(12,I (i7:Int))]) (fun s8=>[.box 47 [I c.Kind,S c.Name,S c.Op,I c.Value.Kind,I c.Value.Number,S c.Value.Words,I c.Value.Version.1,I c.Value.Version.2.1,I c.Value.Version.2.2.1,I c.Value.Version.2.2.2,.d (.ro c.Kids.n c.Kids.xs)]]) ⟨⟨E,E,E,E,tV⟩,[],E,.inl E⟩ (fun i7 x9 s8 y17 hx14 hlt hy15=>?_) (?_)
   ·refine gA 6 E ?_
    refine Kgz E (dT (Int.ofNat_lt.2 hlt)) ?_
    refine gA 6 E ?_
    refine eo_o E (Khp hΓ (enc:=Kus) (Khi hx14) E E E E E (fun _=>E)) ?_
    refine gO 1 E ?_
    refine Kqa hΓ E E E Z ?_
    refine Kqf hΓ E E E E E E E E Z ?_
    refine Kil [.box 47 [I c.Kind,S c.Name,S c.Op,I c.Value.Kind,I c.Value.Number,S c.Value.Words,I c.Value.Version.1,I c.Value.Version.2.1,I c.Value.Version.2.2.1,I c.Value.Version.2.2.2,.d (.ro c.Kids.n c.Kids.xs)],.box 47 [I x9.Kind,S x9.Name,S x9.Op,I x9.Value.Kind,I x9.Value.Number,S x9.Value.Words,I x9.Value.Version.1,I x9.Value.Version.2.1,I x9.Value.Version.2.2.1,I x9.Value.Version.2.2.2,.d (.ro x9.Kids.n x9.Kids.xs)]] E ?_
    obtain⟨y18,hy18,h19⟩:=Khf hy15
    refine gO 5 E ?_
    refine Kie C (ih hy18) E Z E E E E E ?_
    refine gO 9 E ?_
    obtain rfl:=oSi h19
    exact⟨⟨E,E,E,Kgc E (Kgb (nLl hlt hb13)),tV⟩,[_],E,.inr ⟨HB.mk E,FB.mk E,Z⟩⟩
   refine gA 6 E ?_
   refine Kha E (dF (Int.lt_irrefl _)) ?_
   refine gA 4 E ?_
   exact⟨⟨E,tV⟩,[],E,.inl E⟩
  refine gA 8 E ?_
  obtain rfl:=oSi h11
  exact gP E E
theorem Lal{k:Nat}{c:Kur}{r:Int}(h:Kwg k c=some r):Pure Tryz.prog 57 [.agg [I c.Kind,S c.Name,S c.Op,I c.Value.Kind,I c.Value.Number,S c.Value.Words,I c.Value.Version.1,I c.Value.Version.2.1,I c.Value.Version.2.2.1,I c.Value.Version.2.2.2,.d (.ro c.Kids.n c.Kids.xs)]] (I r):=by
 induction k generalizing c r with
 | zero=>unfold Kwg at h;cases h
 | succ k ih0=>
  have ih:∀ {c:Kur} {r:Int},Kwg k c=some r→Pure Tryz.prog 57 [.agg [I c.Kind,S c.Name,S c.Op,I c.Value.Kind,I c.Value.Number,S c.Value.Words,I c.Value.Version.1,I c.Value.Version.2.1,I c.Value.Version.2.2.1,I c.Value.Version.2.2.2,.d (.ro c.Kids.n c.Kids.xs)]] (I r):=by intro c r h;first | exact ih0 h | exact ih0 _ _ h
  refine Pure.enter (Fr.of 0 _) Tryz.func57 E (Fr.of_ok _) E E ?_
  refine Kgx ?_
  unfold Kwg at h
  refine gA 2 E ?_
  refine Kqb E E E E Z ?_
  obtain⟨l1,hl1,h2⟩:=Khf h
  refine gO 12 E ?_
  refine eo_o E (Kmi (Kpn hΓ (g:=.d (.ro c.Kids.n c.Kids.xs)) E) (G.Le.unk Kxu hl1)) ?_
  refine gO 4 E ?_
  obtain⟨q6,hq6,h7⟩:=Khf h2
  refine Kho 7 E fun hb9=>?_
  refine Kku [(3,I q6)] [.box 47 [I c.Kind,S c.Name,S c.Op,I c.Value.Kind,I c.Value.Number,S c.Value.Words,I c.Value.Version.1,I c.Value.Version.2.1,I c.Value.Version.2.2.1,I c.Value.Version.2.2.2,.d (.ro c.Kids.n c.Kids.xs)]] ?_ ?_
  ·refine gA 1 E ?_
   refine Kiu l1 hq6 (fun i3 s4=>[(3,I s4),(7,.d (Sl Kus l1)),(8,I (l1.length:Int)),(9,I (i3:Int))]) (fun s4=>[.box 47 [I c.Kind,S c.Name,S c.Op,I c.Value.Kind,I c.Value.Number,S c.Value.Words,I c.Value.Version.1,I c.Value.Version.2.1,I c.Value.Version.2.2.1,I c.Value.Version.2.2.2,.d (.ro c.Kids.n c.Kids.xs)]]) ⟨⟨E,E,E,E,tV⟩,[],E,.inl E⟩ (fun i3 x5 s4 y13 hx10 hlt hy11=>?_) (?_)
   ·refine gA 6 E ?_
    refine Kgz E (dT (Int.ofNat_lt.2 hlt)) ?_
    refine gA 6 E ?_
    refine eo_o E (Khp hΓ (enc:=Kus) (Khi hx10) E E E E E (fun _=>E)) ?_
    refine gO 1 E ?_
    refine Kqa hΓ E E E Z ?_
    refine Kqf hΓ E E E E E E E E Z ?_
    refine Kil [.box 47 [I c.Kind,S c.Name,S c.Op,I c.Value.Kind,I c.Value.Number,S c.Value.Words,I c.Value.Version.1,I c.Value.Version.2.1,I c.Value.Version.2.2.1,I c.Value.Version.2.2.2,.d (.ro c.Kids.n c.Kids.xs)],.box 47 [I x5.Kind,S x5.Name,S x5.Op,I x5.Value.Kind,I x5.Value.Number,S x5.Value.Words,I x5.Value.Version.1,I x5.Value.Version.2.1,I x5.Value.Version.2.2.1,I x5.Value.Version.2.2.2,.d (.ro x5.Kids.n x5.Kids.xs)]] E ?_
    obtain⟨y14,hy14,h15⟩:=Khf hy11
    refine gO 5 E ?_
    refine Kie C (ih hy14) E Z E E E E E ?_
    refine gO 9 E ?_
    obtain rfl:=oSi h15
    exact⟨⟨E,E,E,Kgc E (Kgb (nLl hlt hb9)),tV⟩,[_],E,.inr ⟨HB.mk E,FB.mk E,Z⟩⟩
   refine gA 6 E ?_
   refine Kha E (dF (Int.lt_irrefl _)) ?_
   refine gA 4 E ?_
   exact⟨⟨E,tV⟩,[],E,.inl E⟩
  refine gA 9 E ?_
  obtain rfl:=oSi h7
  exact gP E E
theorem Lam{n:Int}{low:Int}{high:Int}{r:Bool}(h:Kwh n low high=some r):Pure Tryz.prog 79 [I n,I low,I high] (B r):=by
 unfold Kwh at h
 refine QP Tryz.func79 E E E<|gA 11 E<|Khe 4 [(6,B false),(14,B ((decide ((low:Int)≤n))&&(decide ((n:Int)≤high))))] [] ?_ ?_
 ·refine Kot E E (fun hb=>?_) (fun hb=>?_)
  ·exact gO 5 E<|⟨⟨E,Kgd E (Kiy hb),tV⟩,[],E,.inl E⟩
  exact gO 5 E<|⟨⟨E,Kgd E (Kiz hb),tV⟩,[],E,.inl E⟩
 exact gO 4 E<|oSi h▸gP E E
theorem Lan{v_k:Kur}{x:Kur}{r:Bool}(h:Kwi v_k x=some r):EC Tryz.prog 136 [.agg [I v_k.Kind,S v_k.Name,S v_k.Op,I v_k.Value.Kind,I v_k.Value.Number,S v_k.Value.Words,I v_k.Value.Version.1,I v_k.Value.Version.2.1,I v_k.Value.Version.2.2.1,I v_k.Value.Version.2.2.2,.d (.ro v_k.Kids.n v_k.Kids.xs)],.ptr 0 0] [.box 47 [I x.Kind,S x.Name,S x.Op,I x.Value.Kind,I x.Value.Number,S x.Value.Words,I x.Value.Version.1,I x.Value.Version.2.1,I x.Value.Version.2.2.1,I x.Value.Version.2.2.2,.d (.ro x.Kids.n x.Kids.xs)]] fun g hp'=>g=B r∧hp'=[.box 47 [I x.Kind,S x.Name,S x.Op,I x.Value.Kind,I x.Value.Number,S x.Value.Words,I x.Value.Version.1,I x.Value.Version.2.1,I x.Value.Version.2.2.1,I x.Value.Version.2.2.2,.d (.ro x.Kids.n x.Kids.xs)]]:=by
 unfold Kwi at h
 exact QN Tryz.func136 E Z<|gA 2 E<|Kqb E E E E Z<|gO 14 E<|oSi h▸Kis hΓ [_] (.inr E) E E E E (.inr ⟨HB.mk E,E⟩)
theorem Lao{s:List Kur}{f:Kur}{r:Int}(h:Kwj s f=some r):EC Tryz.prog 186 [.d (Sl Kus s),.fn (.func 136) [] [.ptr 0 0]] [.box 47 [I f.Kind,S f.Name,S f.Op,I f.Value.Kind,I f.Value.Number,S f.Value.Words,I f.Value.Version.1,I f.Value.Version.2.1,I f.Value.Version.2.2.1,I f.Value.Version.2.2.2,.d (.ro f.Kids.n f.Kids.xs)]] fun g hp'=>g=I r∧hp'=[.box 47 [I f.Kind,S f.Name,S f.Op,I f.Value.Kind,I f.Value.Number,S f.Value.Words,I f.Value.Version.1,I f.Value.Version.2.1,I f.Value.Version.2.2.1,I f.Value.Version.2.2.2,.d (.ro f.Kids.n f.Kids.xs)]]:=by
 unfold Kwj at h
 refine QN Tryz.func186 E Z<|gA 13 E<|bK h fun q4 hq4 h5=>Kho 0 E fun hb7=>Kkt (R:=fun a6=>q4=.go a6) (fun a6=>[]) (fun a6=>[.box 47 [I f.Kind,S f.Name,S f.Op,I f.Value.Kind,I f.Value.Number,S f.Value.Words,I f.Value.Version.1,I f.Value.Version.2.1,I f.Value.Version.2.2.1,I f.Value.Version.2.2.2,.d (.ro f.Kids.n f.Kids.xs)]]) ?_ ?_
 ·refine gA 1 E<|Khn s hq4 (fun i1 s2=>[(0,.d (Sl Kus s)),(1,.fn (.func 136) [] [.ptr 0 0]),(7,I (s.length:Int)),(8,I (i1:Int))]) (fun s2=>[.box 47 [I f.Kind,S f.Name,S f.Op,I f.Value.Kind,I f.Value.Number,S f.Value.Words,I f.Value.Version.1,I f.Value.Version.2.1,I f.Value.Version.2.2.1,I f.Value.Version.2.2.2,.d (.ro f.Kids.n f.Kids.xs)]]) ⟨⟨E,E,E,E,tV⟩,[],E,.inl E⟩ (fun i1 x3 s2 y11 hx8 hlt hy9 hout10=>?_) (fun s2 hgo=>?_)
  ·refine gA 6 E<|Kgz E (dT (Int.ofNat_lt.2 hlt))<|gA 15 E<|eo_o E (Khp hΓ (enc:=Kus) (Khi hx8) E E E E E (fun _=>E))<|bK hy9 fun y12 hy12 h13=>gO 1 E<|Kid [0] (B y12) [.box 47 [I f.Kind,S f.Name,S f.Op,I f.Value.Kind,I f.Value.Number,S f.Value.Words,I f.Value.Version.1,I f.Value.Version.2.1,I f.Value.Version.2.2.1,I f.Value.Version.2.2.2,.d (.ro f.Kids.n f.Kids.xs)]] C (Lan hy12) E Z E E E E E E E E E E<|gO 2 E<|jC E h13 (fun h14=>?_) fun h17=>gA 7 E ?_
   ·refine gA 9 E<|bK h14 fun v15 hv15 h16=>?_
    cases h16
    obtain rfl:=hout10 _ rfl
    cases h5
    exact gA 4 E<|oSi hv15▸Kis hΓ [] (.inr E) E E E E (.inl E)
   cases h17
   exact⟨_,E,⟨⟨E,E,E,Kgc E (Kgb (nLl hlt hb7)),tV⟩,[],E,.inl E⟩⟩
  subst hgo
  exact gA 6 E<|Kha E (dF (Int.lt_irrefl _))<|gA 4 E<|⟨_,E,⟨tV,[],E,.inl E⟩⟩
 intro a6 ha
 subst ha
 replace h5:=Kkn h5
 exact gA 7 E<|oSi h5▸Kis hΓ [] (.inr E) E E E E (.inl E)
theorem Lap{s:List Kur}{f:Kur}{r:Bool}(h:Kwk s f=some r):EC Tryz.prog 135 [.d (Sl Kus s),.fn (.func 136) [] [.ptr 0 0]] [.box 47 [I f.Kind,S f.Name,S f.Op,I f.Value.Kind,I f.Value.Number,S f.Value.Words,I f.Value.Version.1,I f.Value.Version.2.1,I f.Value.Version.2.2.1,I f.Value.Version.2.2.2,.d (.ro f.Kids.n f.Kids.xs)]] fun g hp'=>g=B r∧hp'=[.box 47 [I f.Kind,S f.Name,S f.Op,I f.Value.Kind,I f.Value.Number,S f.Value.Words,I f.Value.Version.1,I f.Value.Version.2.1,I f.Value.Version.2.2.1,I f.Value.Version.2.2.2,.d (.ro f.Kids.n f.Kids.xs)]]:=by
 unfold Kwk at h
 exact QN Tryz.func135 E Z<|bK h fun y1 hy1 h2=>gA 9 E<|Kid [0] (I y1) [.box 47 [I f.Kind,S f.Name,S f.Op,I f.Value.Kind,I f.Value.Number,S f.Value.Words,I f.Value.Version.1,I f.Value.Version.2.1,I f.Value.Version.2.2.1,I f.Value.Version.2.2.2,.d (.ro f.Kids.n f.Kids.xs)]] C (Lao hy1) E Z E E E E E E E E E E<|gO 5 E<|oSi h2▸Kis hΓ [] (.inr E) E E E E (.inl E)
theorem Laq{n:Int}{low:Int}{high:Int}{r:Bool}(h:Kwl n low high=some r):Pure Tryz.prog 77 [I n,I low,I high] (B r):=by
 unfold Kwl at h
 refine QP Tryz.func77 E E E<|gA 11 E<|Khe 4 [(6,B false),(14,B ((decide ((low:Int)≤n))&&(decide ((n:Int)≤high))))] [] ?_ ?_
 ·refine Kot E E (fun hb=>?_) (fun hb=>?_)
  ·exact gO 5 E<|⟨⟨E,Kgd E (Kiy hb),tV⟩,[],E,.inl E⟩
  exact gO 5 E<|⟨⟨E,Kgd E (Kiz hb),tV⟩,[],E,.inl E⟩
 exact gO 4 E<|oSi h▸gP E E
theorem Lar{s:Str}{v_some:Str}{r:Bool}(h:Kwm s v_some=some r):Pure Tryz.prog 78 [S s,S v_some] (B r):=by
 unfold Kwm at h
 exact QP Tryz.func78 E E E<|bK h fun y1 hy1 h2=>gA 9 E<|Kie C (Ktf hy1) E Z E E E E E<|gO 5 E<|oSi h2▸gP E E
theorem Las{s:Str}{r:Bool}(h:Kwn s=some r):Pure Tryz.prog 36 [S s] (B r):=by
 unfold Kwn at h
 refine QP Tryz.func36 E E E<|bK h fun y1 hy1 h2=>gA 9 E<|Kie C (Laq hy1) E Z E E E E E<|gO 1 E<|bK h2 fun q3 hq3 h4=>Khe 4 [(0,S s),(2,B false),(10,B q3)] [] ?_ ?_
 ·refine Kot E E (fun hb=>?_) (fun hb=>?_)
  ·have h5:=cT hq3 hb
   exact bK h5 fun z6 hz6 h7=>gO 1 E<|Kor E<|eo_o E (Khs hΓ hz6 E E E E E)<|bK h7 fun y8 hy8 h9=>Kor E<|Kie C (Lar hy8) E Z E E E E E<|gO 2 E<|oSi h9▸⟨⟨E,E,E,tV⟩,[],E,.inl E⟩
  have h10:=cF hq3 hb
  exact gO 5 E<|oSi h10▸⟨⟨E,E,E,tV⟩,[],E,.inl E⟩
 refine gO 1 E<|bK h4 fun q11 hq11 h12=>Khe 3 [(2,B false),(14,B q11)] [] ?_ ?_
 ·refine Kot E E (fun hb=>?_) (fun hb=>?_)
  ·have h13:=cT hq11 hb
   exact bK h13 fun y14 hy14 h15=>gO 1 E<|Kor E<|Kie C (Lar hy14) E Z E E E E E<|gO 2 E<|oSi h15▸⟨⟨E,E,tV⟩,[],E,.inl E⟩
  have h16:=cF hq11 hb
  exact gO 4 E<|oSi h16▸⟨⟨E,E,tV⟩,[],E,.inl E⟩
 exact gO 4 E<|oSi h12▸gP E E
theorem Lat{s:Str}{r:Bool}(h:Kwo s=some r):Pure Tryz.prog 137 [S s] (B r):=by
 unfold Kwo at h
 refine QP Tryz.func137 E E E<|bK h fun y1 hy1 h2=>gA 8 E<|Kie C (Las hy1) E Z E E E E E<|gO 1 E<|Khe 3 [(0,S s),(2,B false),(8,B (y1&&(!((s:Str)==[116,114,117,101]))))] [] ?_ ?_
 ·refine Kot E E (fun hb=>?_) (fun hb=>?_)
  ·exact gO 4 E<|⟨⟨E,E,Kgd E (Kiy hb),tV⟩,[],E,.inl E⟩
  exact gO 4 E<|⟨⟨E,E,Kgd E (Kiz hb),tV⟩,[],E,.inl E⟩
 refine gO 1 E<|Khe 3 [(0,S s),(2,B false),(12,B ((y1&&(!((s:Str)==[116,114,117,101])))&&(!((s:Str)==[102,97,108,115,101]))))] [] ?_ ?_
 ·refine Kot E E (fun hb=>?_) (fun hb=>?_)
  ·exact gO 4 E<|⟨⟨E,E,Kgd E (Kiy hb),tV⟩,[],E,.inl E⟩
  exact gO 4 E<|⟨⟨E,E,Kgd E (Kiz hb),tV⟩,[],E,.inl E⟩
 refine gO 1 E<|bK h2 fun q3 hq3 h4=>Khe 20 [(2,B false),(33,B q3)] [] ?_ ?_
 ·refine Kot E E (fun hb=>?_) (fun hb=>?_)
  ·have h5:=cT hq3 hb
   refine bK h5 fun c6 hc6 h7=>gO 1 E<|Kor E<|eo_o E (Khq hΓ hc6 E E E E)<|gO 2 E<|Khe 4 [(0,S s),(2,B false),(13,B true),(21,B ((((c6.toNat:Int):Int)==118)&&(decide (((s.length:Int):Int)>1))))] [] ?_ ?_
   ·refine Kot E E (fun hb=>?_) (fun hb=>?_)
    ·exact gO 5 E<|⟨⟨E,E,E,Kgd E (Kiy hb),tV⟩,[],E,.inl E⟩
    exact gO 5 E<|⟨⟨E,E,E,Kgd E (Kiz hb),tV⟩,[],E,.inl E⟩
   refine gO 1 E<|bK h7 fun q8 hq8 h9=>Khe 4 [(0,S s),(2,B false),(13,B true),(26,B q8)] [] ?_ ?_
   ·refine Kot E E (fun hb=>?_) (fun hb=>?_)
    ·have h10:=cT hq8 hb
     exact bK h10 fun c11 hc11 h12=>gO 1 E<|Kor E<|eo_o E (Khq hΓ hc11 E E E E)<|gO 3 E<|oSi h12▸⟨⟨E,E,E,E,tV⟩,[],E,.inl E⟩
    have h13:=cF hq8 hb
    exact gO 5 E<|oSi h13▸⟨⟨E,E,E,E,tV⟩,[],E,.inl E⟩
   refine gO 1 E<|bK h9 fun q14 hq14 h15=>Khe 4 [(2,B false),(13,B true),(31,B q14)] [] ?_ ?_
   ·refine Kot E E (fun hb=>?_) (fun hb=>?_)
    ·have h16:=cT hq14 hb
     exact bK h16 fun c17 hc17 h18=>gO 1 E<|Kor E<|eo_o E (Khq hΓ hc17 E E E E)<|gO 3 E<|oSi h18▸⟨⟨E,E,E,tV⟩,[],E,.inl E⟩
    have h19:=cF hq14 hb
    exact gO 5 E<|oSi h19▸⟨⟨E,E,E,tV⟩,[],E,.inl E⟩
   exact gO 3 E<|oSi h15▸⟨⟨E,E,tV⟩,[],E,.inl E⟩
  have h20:=cF hq3 hb
  exact gO 21 E<|oSi h20▸⟨⟨E,E,tV⟩,[],E,.inl E⟩
 exact gO 4 E<|oSi h4▸gP E E
theorem Lau{k:Nat}{a:Kuq}{r:Int}(h:Kwp k a=some r):Pure Tryz.prog 37 [.agg [I a.Kind,I a.Number,S a.Words,I a.Version.1,I a.Version.2.1,I a.Version.2.2.1,I a.Version.2.2.2]] (I r):=by
 unfold Kwp at h
 refine QP Tryz.func37 E E E<|gA 2 E<|Kqb E E E E Z<|bK h fun y1 hy1 h2=>gO 9 E<|Kie C (Lam hy1) E Z E E E E E<|gO 4 E<|Kgy E (fun hb=>?_) (fun hb=>?_)
 ·have h3:=cT h2 hb
  exact gA 8 E<|oSi h3▸gP E E
 have h4:=cF h2 hb
 refine gA 6 E<|bK h4 fun q5 hq5 h6=>Khe 5 [(1,.ptr 0 0),(20,B q5)] [.box 40 [I a.Kind,I a.Number,S a.Words,I a.Version.1,I a.Version.2.1,I a.Version.2.2.1,I a.Version.2.2.2]] ?_ ?_
 ·refine Kot E E (fun hb=>?_) (fun hb=>?_)
  ·have h7:=cT hq5 hb
   exact bK h7 fun y8 hy8 h9=>gO 2 E<|Kor E<|Kie C (Lam hy8) E Z E E E E E<|gO 3 E<|oSi h9▸⟨⟨E,E,tV⟩,[],E,.inl E⟩
  have h10:=cF hq5 hb
  exact gO 6 E<|oSi h10▸⟨⟨E,E,tV⟩,[],E,.inl E⟩
 refine gO 1 E<|bK h6 fun q11 hq11 h12=>Khe 10 [(1,.ptr 0 0),(31,B q11)] [.box 40 [I a.Kind,I a.Number,S a.Words,I a.Version.1,I a.Version.2.1,I a.Version.2.2.1,I a.Version.2.2.2]] ?_ ?_
 ·refine Kot E E (fun hb=>?_) (fun hb=>?_)
  ·have h13:=cT hq11 hb
   exact gO 11 E<|oSi h13▸⟨⟨E,E,tV⟩,[],E,.inl E⟩
  have h14:=cF hq11 hb
  refine gO 4 E<|bK h14 fun q15 hq15 h16=>Khe 5 [(1,.ptr 0 0),(21,B false),(30,B q15)] [.box 40 [I a.Kind,I a.Number,S a.Words,I a.Version.1,I a.Version.2.1,I a.Version.2.2.1,I a.Version.2.2.2]] ?_ ?_
  ·refine Kot E E (fun hb=>?_) (fun hb=>?_)
   ·have h17:=cT hq15 hb
    exact bK h17 fun y18 hy18 h19=>gO 2 E<|Kor E<|Kie C (Lam hy18) E Z E E E E E<|gO 3 E<|oSi h19▸⟨⟨E,E,E,tV⟩,[],E,.inl E⟩
   have h20:=cF hq15 hb
   exact gO 6 E<|oSi h20▸⟨⟨E,E,E,tV⟩,[],E,.inl E⟩
  exact gO 2 E<|oSi h16▸⟨⟨E,E,tV⟩,[],E,.inl E⟩
 refine gO 3 E<|Kgy E (fun hb=>?_) (fun hb=>?_)
 ·have h21:=cT h12 hb
  exact gA 8 E<|oSi h21▸gP E E
 have h22:=cF h12 hb
 refine gA 6 E<|Khe 4 [(1,.ptr 0 0),(40,B (((a.Kind:Int) != 1)&&((a.Kind:Int) != 3)))] [.box 40 [I a.Kind,I a.Number,S a.Words,I a.Version.1,I a.Version.2.1,I a.Version.2.2.1,I a.Version.2.2.2]] ?_ ?_
 ·refine Kot E E (fun hb=>?_) (fun hb=>?_)
  ·exact gO 5 E<|⟨⟨E,Kgd E (Kiy hb),tV⟩,[],E,.inl E⟩
  exact gO 5 E<|⟨⟨E,Kgd E (Kiz hb),tV⟩,[],E,.inl E⟩
 refine gO 1 E<|Khe 4 [(1,.ptr 0 0),(45,B ((((a.Kind:Int) != 1)&&((a.Kind:Int) != 3))&&((a.Number:Int) != 0)))] [.box 40 [I a.Kind,I a.Number,S a.Words,I a.Version.1,I a.Version.2.1,I a.Version.2.2.1,I a.Version.2.2.2]] ?_ ?_
 ·refine Kot E E (fun hb=>?_) (fun hb=>?_)
  ·exact gO 5 E<|⟨⟨E,Kgd E (Kiy hb),tV⟩,[],E,.inl E⟩
  exact gO 5 E<|⟨⟨E,Kgd E (Kiz hb),tV⟩,[],E,.inl E⟩
 refine gO 3 E<|Kgy E (fun hb=>?_) (fun hb=>?_)
 ·have h23:=cT h22 hb
  exact gA 8 E<|oSi h23▸gP E E
 have h24:=cF h22 hb
 refine gA 6 E<|Khe 4 [(1,.ptr 0 0),(54,B (((a.Kind:Int) != 2)&&(!((a.Words:Str)==[]))))] [.box 40 [I a.Kind,I a.Number,S a.Words,I a.Version.1,I a.Version.2.1,I a.Version.2.2.1,I a.Version.2.2.2]] ?_ ?_
 ·refine Kot E E (fun hb=>?_) (fun hb=>?_)
  ·exact gO 5 E<|⟨⟨E,Kgd E (Kiy hb),tV⟩,[],E,.inl E⟩
  exact gO 5 E<|⟨⟨E,Kgd E (Kiz hb),tV⟩,[],E,.inl E⟩
 refine gO 1 E<|Khe 5 [(1,.ptr 0 0),(60,B ((((a.Kind:Int) != 2)&&(!((a.Words:Str)==[])))||(decide (((a.Words.length:Int):Int)>100))))] [.box 40 [I a.Kind,I a.Number,S a.Words,I a.Version.1,I a.Version.2.1,I a.Version.2.2.1,I a.Version.2.2.2]] ?_ ?_
 ·refine Kot E E (fun hb=>?_) (fun hb=>?_)
  ·exact gO 6 E<|⟨⟨E,Kgd E (or_t hb),tV⟩,[],E,.inl E⟩
  exact gO 6 E<|⟨⟨E,Kgd E (or_f hb),tV⟩,[],E,.inl E⟩
 refine gO 3 E<|Kgy E (fun hb=>?_) (fun hb=>?_)
 ·have h25:=cT h24 hb
  exact gA 8 E<|oSi h25▸gP E E
 have h26:=cF h24 hb
 refine gA 12 E<|bK h26 fun q30 hq30 h31=>gK hq30 fun hb33 h34=>?_
 replace hb33:=of_decide_eq_true hb33
 refine Kkt (R:=fun a32=>q30=.go a32) (fun a32=>[(1,.ptr 0 0)]) (fun a32=>[.box 40 [I a.Kind,I a.Number,S a.Words,I a.Version.1,I a.Version.2.1,I a.Version.2.2.1,I a.Version.2.2.2]]) ?_ ?_
 ·refine gA 1 E<|Kiv h34 (fun i27 s28=>[(1,.ptr 0 0),(63,I (a.Words.length:Int)),(64,I (i27:Int))]) (fun s28=>[.box 40 [I a.Kind,I a.Number,S a.Words,I a.Version.1,I a.Version.2.1,I a.Version.2.2.1,I a.Version.2.2.2]]) ⟨⟨E,E,E,tV⟩,[],E,.inl E⟩ (fun i27 s28 y38 hlt hy36 hout37=>?_) (fun s28 hgo hge=>?_)
  ·refine gA 6 E<|Kgz E (dT hlt)<|bK hy36 fun c39 hc39 h40=>gA 15 E<|eo_o E (Khq hΓ hc39 E E E E)<|bK h40 fun y41 hy41 h42=>gO 1 E<|Kie C (Lam hy41) E Z E E E E E<|gO 3 E<|jC E h42 (fun h43=>?_) fun h46=>gA 7 E<|oSi h46▸⟨_,E,⟨⟨E,E,Kgc E (Kgb (by omega)),tV⟩,[],E,.inl E⟩⟩
   refine gA 8 E<|bK h43 fun v44 hv44 h45=>?_
   cases h45
   obtain rfl:=hout37 _ rfl
   cases h31
   exact gA 4 E<|oSi hv44▸gP E E
  subst hgo
  exact gA 6 E<|Kha E (dF hge)<|gA 4 E<|⟨_,E,⟨⟨E,tV⟩,[],E,.inl E⟩⟩
 intro a32 ha
 subst ha
 replace h31:=Kkn h31
 refine gA 9 E<|bK h31 fun q50 hq50 h51=>Kkt (R:=fun a52=>q50=.inl a52) (fun a52=>[(1,.ptr 0 0)]) (fun a52=>[.box 40 [I a.Kind,I a.Number,S a.Words,I a.Version.1,I a.Version.2.1,I a.Version.2.2.1,I a.Version.2.2.2]]) ?_ ?_
 ·refine gA 1 E<|Khl hq50 (fun s48=>[(1,.ptr 0 0),(76,.agg [I a.Version.1,I a.Version.2.1,I a.Version.2.2.1,I a.Version.2.2.2]),(77,I s48)]) (fun s48=>[.box 40 [I a.Kind,I a.Number,S a.Words,I a.Version.1,I a.Version.2.1,I a.Version.2.2.1,I a.Version.2.2.2]]) ⟨⟨E,E,E,tV⟩,[],E,.inl E⟩ (fun s48 y56 hy54 hout55=>?_)
  refine gA 6 E<|jC E hy54 (fun h57=>?_) fun h70=>gA 4 E ?_
  ·refine bK h57 fun x58 hx58 h59=>gA 6 E<|eo_o E (Klo hΓ (enc:=(eN .i64)) [a.Version.1,a.Version.2.1,a.Version.2.2.1,a.Version.2.2.2] hx58 E E E E E E E (fun _=>E) E)<|gO 9 E<|bK h59 fun q60 hq60 h61=>Khe 4 [(1,.ptr 0 0),(76,.agg [I a.Version.1,I a.Version.2.1,I a.Version.2.2.1,I a.Version.2.2.2]),(77,I s48),(87,B q60)] [.box 40 [I a.Kind,I a.Number,S a.Words,I a.Version.1,I a.Version.2.1,I a.Version.2.2.1,I a.Version.2.2.2]] ?_ ?_
   ·refine Kot E E (fun hb=>?_) (fun hb=>?_)
    ·have h62:=cT hq60 hb
     exact bK h62 fun y63 hy63 h64=>gO 1 E<|Kor E<|Kie C (Lam hy63) E Z E E E E E<|gO 3 E<|oSi h64▸⟨⟨E,E,E,E,tV⟩,[],E,.inl E⟩
    have h65:=cF hq60 hb
    exact gO 5 E<|oSi h65▸⟨⟨E,E,E,E,tV⟩,[],E,.inl E⟩
   refine gO 2 E<|jC E h61 (fun h66=>?_) fun h69=>gA 7 E<|oSi h69▸⟨_,E,⟨⟨E,E,E,tV⟩,[],E,.inl E⟩⟩
   refine gA 8 E<|bK h66 fun v67 hv67 h68=>?_
   cases h68
   obtain rfl:=hout55 _ rfl
   cases h51
   exact gA 4 E<|oSi hv67▸gP E E
  cases h70
  obtain rfl:=hout55 _ rfl
  exact⟨_,E,⟨⟨E,tV⟩,[],E,.inl E⟩⟩
 intro a52 ha
 subst ha
 replace h51:=Kkm h51
 refine gA 8 E<|Khe 5 [(97,B (((a.Kind:Int) != 4)&&(!decide (([a.Version.1,a.Version.2.1,a.Version.2.2.1,a.Version.2.2.2]:List Int)=([0,0,0,0]:List Int)))))] [.box 40 [I a.Kind,I a.Number,S a.Words,I a.Version.1,I a.Version.2.1,I a.Version.2.2.1,I a.Version.2.2.2]] ?_ ?_
 ·refine Kot E E (fun hb=>?_) (fun hb=>?_)
  ·exact gO 2 E<|Kor E<|eo_o E (Klp hΓ (gs:=[I 0,I 0,I 0,I 0]) E E E E E E)<|Kor E<|eo_o E (Kml hΓ (l1:=([a.Version.1,a.Version.2.1,a.Version.2.2.1,a.Version.2.2.2]:List Int)) (l2:=([0,0,0,0]:List Int)) E E E E E (by kernel_rfl) E E E E E E)<|gO 2 E<|⟨⟨Kgd E (Kiy hb),tV⟩,[],E,.inl E⟩
  exact gO 6 E<|⟨⟨Kgd E (Kiz hb),tV⟩,[],E,.inl E⟩
 refine gO 2 E<|jC E h51 (fun h71=>?_) fun h72=>gA 8 E<|oSi h72▸gP E E
 exact gA 7 E<|oSi h71▸gP E E
theorem Lav{k:Nat}{c:Kur}{r:Int}(h:Kwq k c=some r):Pure Tryz.prog 99 [.agg [I c.Kind,S c.Name,S c.Op,I c.Value.Kind,I c.Value.Number,S c.Value.Words,I c.Value.Version.1,I c.Value.Version.2.1,I c.Value.Version.2.2.1,I c.Value.Version.2.2.2,.d (.ro c.Kids.n c.Kids.xs)]] (I r):=by
 unfold Kwq at h
 refine QP Tryz.func99 E E E<|gA 2 E<|Kqb E E E E Z<|bK h fun y1 hy1 h2=>gO 17 E<|Kie C (Lam hy1) E Z E E E E E<|gO 4 E<|Kgy E (fun hb=>?_) (fun hb=>?_)
 ·have h3:=cT h2 hb
  exact gA 8 E<|oSi h3▸gP E E
 have h4:=cF h2 hb
 refine gA 4 E<|bK h4 fun q5 hq5 h6=>Khe 5 [(1,.ptr 0 0),(3,B ((c.Kind:Int)==1)),(20,B q5)] [.box 47 [I c.Kind,S c.Name,S c.Op,I c.Value.Kind,I c.Value.Number,S c.Value.Words,I c.Value.Version.1,I c.Value.Version.2.1,I c.Value.Version.2.2.1,I c.Value.Version.2.2.2,.d (.ro c.Kids.n c.Kids.xs)]] ?_ ?_
 ·refine Kot E E (fun hb=>?_) (fun hb=>?_)
  ·have h7:=cT hq5 hb
   exact bK h7 fun l8 hl8 h9=>gO 1 E<|Kor E<|eo_o E (Kmi (Kpn hΓ (g:=.d (.ro c.Kids.n c.Kids.xs)) E) (G.Le.unk Kxu hl8))<|gO 4 E<|oSi h9▸⟨⟨E,E,E,tV⟩,[],E,.inl E⟩
  have h10:=cF hq5 hb
  exact gO 6 E<|oSi h10▸⟨⟨E,E,E,tV⟩,[],E,.inl E⟩
 refine gO 1 E<|bK h6 fun q11 hq11 h12=>Khe 10 [(1,.ptr 0 0),(3,B ((c.Kind:Int)==1)),(31,B q11)] [.box 47 [I c.Kind,S c.Name,S c.Op,I c.Value.Kind,I c.Value.Number,S c.Value.Words,I c.Value.Version.1,I c.Value.Version.2.1,I c.Value.Version.2.2.1,I c.Value.Version.2.2.2,.d (.ro c.Kids.n c.Kids.xs)]] ?_ ?_
 ·refine Kot E E (fun hb=>?_) (fun hb=>?_)
  ·have h13:=cT hq11 hb
   exact gO 11 E<|oSi h13▸⟨⟨E,E,E,tV⟩,[],E,.inl E⟩
  have h14:=cF hq11 hb
  refine gO 4 E<|bK h14 fun q15 hq15 h16=>Khe 5 [(1,.ptr 0 0),(3,B ((c.Kind:Int)==1)),(21,B false),(30,B q15)] [.box 47 [I c.Kind,S c.Name,S c.Op,I c.Value.Kind,I c.Value.Number,S c.Value.Words,I c.Value.Version.1,I c.Value.Version.2.1,I c.Value.Version.2.2.1,I c.Value.Version.2.2.2,.d (.ro c.Kids.n c.Kids.xs)]] ?_ ?_
  ·refine Kot E E (fun hb=>?_) (fun hb=>?_)
   ·have h17:=cT hq15 hb
    exact bK h17 fun l18 hl18 h19=>gO 1 E<|Kor E<|eo_o E (Kmi (Kpn hΓ (g:=.d (.ro c.Kids.n c.Kids.xs)) E) (G.Le.unk Kxu hl18))<|gO 4 E<|oSi h19▸⟨⟨E,E,E,E,tV⟩,[],E,.inl E⟩
   have h20:=cF hq15 hb
   exact gO 6 E<|oSi h20▸⟨⟨E,E,E,E,tV⟩,[],E,.inl E⟩
  exact gO 2 E<|oSi h16▸⟨⟨E,E,E,tV⟩,[],E,.inl E⟩
 refine gO 1 E<|bK h12 fun q21 hq21 h22=>Khe 14 [(1,.ptr 0 0),(3,B ((c.Kind:Int)==1)),(46,B q21)] [.box 47 [I c.Kind,S c.Name,S c.Op,I c.Value.Kind,I c.Value.Number,S c.Value.Words,I c.Value.Version.1,I c.Value.Version.2.1,I c.Value.Version.2.2.1,I c.Value.Version.2.2.2,.d (.ro c.Kids.n c.Kids.xs)]] ?_ ?_
 ·refine Kot E E (fun hb=>?_) (fun hb=>?_)
  ·have h23:=cT hq21 hb
   exact gO 15 E<|oSi h23▸⟨⟨E,E,E,tV⟩,[],E,.inl E⟩
  have h24:=cF hq21 hb
  refine gO 3 E<|Khe 4 [(1,.ptr 0 0),(3,B ((c.Kind:Int)==1)),(32,B false),(39,B ((!((c.Kind:Int)==1))&&((c.Kind:Int) != 2)))] [.box 47 [I c.Kind,S c.Name,S c.Op,I c.Value.Kind,I c.Value.Number,S c.Value.Words,I c.Value.Version.1,I c.Value.Version.2.1,I c.Value.Version.2.2.1,I c.Value.Version.2.2.2,.d (.ro c.Kids.n c.Kids.xs)]] ?_ ?_
  ·refine Kot E E (fun hb=>?_) (fun hb=>?_)
   ·exact gO 5 E<|⟨⟨E,E,E,Kgd E (Kiy hb),tV⟩,[],E,.inl E⟩
   exact gO 5 E<|⟨⟨E,E,E,Kgd E (Kiz hb),tV⟩,[],E,.inl E⟩
  refine gO 1 E<|bK h24 fun q25 hq25 h26=>Khe 5 [(1,.ptr 0 0),(3,B ((c.Kind:Int)==1)),(32,B false),(45,B q25)] [.box 47 [I c.Kind,S c.Name,S c.Op,I c.Value.Kind,I c.Value.Number,S c.Value.Words,I c.Value.Version.1,I c.Value.Version.2.1,I c.Value.Version.2.2.1,I c.Value.Version.2.2.2,.d (.ro c.Kids.n c.Kids.xs)]] ?_ ?_
  ·refine Kot E E (fun hb=>?_) (fun hb=>?_)
   ·have h27:=cT hq25 hb
    exact bK h27 fun l28 hl28 h29=>gO 1 E<|Kor E<|eo_o E (Kmi (Kpn hΓ (g:=.d (.ro c.Kids.n c.Kids.xs)) E) (G.Le.unk Kxu hl28))<|gO 4 E<|oSi h29▸⟨⟨E,E,E,E,tV⟩,[],E,.inl E⟩
   have h30:=cF hq25 hb
   exact gO 6 E<|oSi h30▸⟨⟨E,E,E,E,tV⟩,[],E,.inl E⟩
  exact gO 2 E<|oSi h26▸⟨⟨E,E,E,tV⟩,[],E,.inl E⟩
 refine gO 3 E<|Kgy E (fun hb=>?_) (fun hb=>?_)
 ·have h31:=cT h22 hb
  exact gA 8 E<|oSi h31▸gP E E
 have h32:=cF h22 hb
 refine gA 5 E<|Khe 15 [(1,.ptr 0 0),(3,B ((c.Kind:Int)==1)),(65,B ((!((c.Kind:Int)==1))&&(((!((c.Name:Str)==[]))||(!((c.Op:Str)==[])))||(!(((c.Value.Kind:Int)==0)&&(((c.Value.Number:Int)==0)&&(((c.Value.Words:Str)==[])&&(decide (([c.Value.Version.1,c.Value.Version.2.1,c.Value.Version.2.2.1,c.Value.Version.2.2.2]:List Int)=[0,0,0,0])&&true))))))))] [.box 47 [I c.Kind,S c.Name,S c.Op,I c.Value.Kind,I c.Value.Number,S c.Value.Words,I c.Value.Version.1,I c.Value.Version.2.1,I c.Value.Version.2.2.1,I c.Value.Version.2.2.2,.d (.ro c.Kids.n c.Kids.xs)]] ?_ ?_
 ·refine Kot E E (fun hb=>?_) (fun hb=>?_)
  ·refine gO 4 E<|Khe 4 [(1,.ptr 0 0),(3,B ((c.Kind:Int)==1)),(50,B true),(58,B ((!((c.Name:Str)==[]))||(!((c.Op:Str)==[]))))] [.box 47 [I c.Kind,S c.Name,S c.Op,I c.Value.Kind,I c.Value.Number,S c.Value.Words,I c.Value.Version.1,I c.Value.Version.2.1,I c.Value.Version.2.2.1,I c.Value.Version.2.2.2,.d (.ro c.Kids.n c.Kids.xs)]] ?_ ?_
   ·refine Kot E E (fun hb=>?_) (fun hb=>?_)
    ·exact gO 5 E<|⟨⟨E,E,E,Kgd E (or_t hb),tV⟩,[],E,.inl E⟩
    exact gO 5 E<|⟨⟨E,E,E,Kgd E (or_f hb),tV⟩,[],E,.inl E⟩
   refine gO 1 E<|Khe 5 [(1,.ptr 0 0),(3,B ((c.Kind:Int)==1)),(50,B true),(64,B (((!((c.Name:Str)==[]))||(!((c.Op:Str)==[])))||(!(((c.Value.Kind:Int)==0)&&(((c.Value.Number:Int)==0)&&(((c.Value.Words:Str)==[])&&(decide (([c.Value.Version.1,c.Value.Version.2.1,c.Value.Version.2.2.1,c.Value.Version.2.2.2]:List Int)=[0,0,0,0])&&true)))))))] [.box 47 [I c.Kind,S c.Name,S c.Op,I c.Value.Kind,I c.Value.Number,S c.Value.Words,I c.Value.Version.1,I c.Value.Version.2.1,I c.Value.Version.2.2.1,I c.Value.Version.2.2.2,.d (.ro c.Kids.n c.Kids.xs)]] ?_ ?_
   ·refine Kot E E (fun hb=>?_) (fun hb=>?_)
    ·exact gO 6 E<|⟨⟨E,E,E,Kgd E (or_t hb),tV⟩,[],E,.inl E⟩
    exact gO 2 E<|Kor E<|Kfd hΓ (gs:=[I 0,I 0,S [],I 0,I 0,I 0,I 0]) E E E E E E E<|Kor E<|eo_o E (Knl hΓ [40] (b:=(((c.Value.Kind:Int)==0)&&(((c.Value.Number:Int)==0)&&(((c.Value.Words:Str)==[])&&(decide (([c.Value.Version.1,c.Value.Version.2.1,c.Value.Version.2.2.1,c.Value.Version.2.2.2]:List Int)=[0,0,0,0])&&true))))) (by kernel_rfl) (by kernel_rfl) E E E)<|gO 2 E<|⟨⟨E,E,E,Kgd E (or_f hb),tV⟩,[],E,.inl E⟩
   exact gO 2 E<|⟨⟨E,E,Kgd E (Kiy hb),tV⟩,[],E,.inl E⟩
  exact gO 16 E<|⟨⟨E,E,Kgd E (Kiz hb),tV⟩,[],E,.inl E⟩
 refine gO 3 E<|Kgy E (fun hb=>?_) (fun hb=>?_)
 ·have h33:=cT h32 hb
  exact gA 8 E<|oSi h33▸gP E E
 have h34:=cF h32 hb
 refine gA 6 E<|Khe 4 [(1,.ptr 0 0),(3,B ((c.Kind:Int)==1)),(74,B (((c.Kind:Int)==3)||((c.Kind:Int)==4)))] [.box 47 [I c.Kind,S c.Name,S c.Op,I c.Value.Kind,I c.Value.Number,S c.Value.Words,I c.Value.Version.1,I c.Value.Version.2.1,I c.Value.Version.2.2.1,I c.Value.Version.2.2.2,.d (.ro c.Kids.n c.Kids.xs)]] ?_ ?_
 ·refine Kot E E (fun hb=>?_) (fun hb=>?_)
  ·exact gO 5 E<|⟨⟨E,E,Kgd E (or_t hb),tV⟩,[],E,.inl E⟩
  exact gO 5 E<|⟨⟨E,E,Kgd E (or_f hb),tV⟩,[],E,.inl E⟩
 refine gO 1 E<|bK h34 fun q35 hq35 h36=>Khe 5 [(1,.ptr 0 0),(3,B ((c.Kind:Int)==1)),(80,B q35)] [.box 47 [I c.Kind,S c.Name,S c.Op,I c.Value.Kind,I c.Value.Number,S c.Value.Words,I c.Value.Version.1,I c.Value.Version.2.1,I c.Value.Version.2.2.1,I c.Value.Version.2.2.2,.d (.ro c.Kids.n c.Kids.xs)]] ?_ ?_
 ·refine Kot E E (fun hb=>?_) (fun hb=>?_)
  ·have h37:=cT hq35 hb
   exact bK h37 fun l38 hl38 h39=>gO 1 E<|Kor E<|eo_o E (Kmi (Kpn hΓ (g:=.d (.ro c.Kids.n c.Kids.xs)) E) (G.Le.unk Kxu hl38))<|bK h39 fun y40 hy40 h41=>gO 1 E<|Kor E<|Kid [0] (B y40) [.box 47 [I c.Kind,S c.Name,S c.Op,I c.Value.Kind,I c.Value.Number,S c.Value.Words,I c.Value.Version.1,I c.Value.Version.2.1,I c.Value.Version.2.2.1,I c.Value.Version.2.2.2,.d (.ro c.Kids.n c.Kids.xs)]] C (Lap hy40) E Z E E E E E E E E E E<|gO 2 E<|oSi h41▸⟨⟨E,E,E,tV⟩,[],E,.inl E⟩
  have h42:=cF hq35 hb
  exact gO 6 E<|oSi h42▸⟨⟨E,E,E,tV⟩,[],E,.inl E⟩
 refine gO 3 E<|Kgy E (fun hb=>?_) (fun hb=>?_)
 ·have h43:=cT h36 hb
  exact gA 8 E<|oSi h43▸gP E E
 have h44:=cF h36 hb
 refine gA 7 E<|Kgy E (fun hb=>?_) (fun hb=>?_)
 ·have h45:=cT h44 hb
  exact gA 8 E<|oSi h45▸gP E E
 have h46:=cF h44 hb
 refine bK h46 fun y47 hy47 h48=>gA 4 E<|Kie C (Lat hy47) E Z E E E E E<|gO 4 E<|Kgy E (fun hb=>?_) (fun hb=>?_)
 ·have h49:=cT h48 hb
  exact gA 8 E<|oSi h49▸gP E E
 have h50:=cF h48 hb
 refine gA 1 E<|jD<|bK h50 fun y51 hy51 h52=>Kif C (Kzf hy51) E E E E E E<|bK h52 fun y53 hy53 h54=>Kgw hΓ 2 E<|Kif C (Kzw hy53) E E E E E E<|Kgw hΓ 4 E<|Kgy E (fun hb=>?_) (fun hb=>?_)
 ·have h55:=cT h54 hb
  exact gA 8 E<|oSi h55▸gP E E
 have h56:=cF h54 hb
 refine bK h56 fun y57 hy57 h58=>gA 8 E<|Kie C (Lau hy57) E Z E E E E E<|gO 9 E<|Kgy E (fun hb=>?_) (fun hb=>?_)
 ·have h59:=cT h58 hb
  exact gA 8 E<|oSi h59▸gP E E
 have h60:=cF h58 hb
 refine gA 10 E<|Khe 4 [(1,.ptr 0 0),(109,B (((c.Value.Kind:Int)==3)&&(!((c.Op:Str)==[61,61]))))] [.box 47 [I c.Kind,S c.Name,S c.Op,I c.Value.Kind,I c.Value.Number,S c.Value.Words,I c.Value.Version.1,I c.Value.Version.2.1,I c.Value.Version.2.2.1,I c.Value.Version.2.2.2,.d (.ro c.Kids.n c.Kids.xs)]] ?_ ?_
 ·refine Kot E E (fun hb=>?_) (fun hb=>?_)
  ·exact gO 5 E<|⟨⟨E,Kgd E (Kiy hb),tV⟩,[],E,.inl E⟩
  exact gO 5 E<|⟨⟨E,Kgd E (Kiz hb),tV⟩,[],E,.inl E⟩
 refine gO 1 E<|Khe 4 [(114,B ((((c.Value.Kind:Int)==3)&&(!((c.Op:Str)==[61,61])))&&(!((c.Op:Str)==[33,61]))))] [.box 47 [I c.Kind,S c.Name,S c.Op,I c.Value.Kind,I c.Value.Number,S c.Value.Words,I c.Value.Version.1,I c.Value.Version.2.1,I c.Value.Version.2.2.1,I c.Value.Version.2.2.2,.d (.ro c.Kids.n c.Kids.xs)]] ?_ ?_
 ·refine Kot E E (fun hb=>?_) (fun hb=>?_)
  ·exact gO 5 E<|⟨⟨Kgd E (Kiy hb),tV⟩,[],E,.inl E⟩
  exact gO 5 E<|⟨⟨Kgd E (Kiz hb),tV⟩,[],E,.inl E⟩
 refine gO 2 E<|jC E h60 (fun h61=>?_) fun h62=>gA 8 E<|oSi h62▸gP E E
 exact gA 7 E<|oSi h61▸gP E E
theorem Law{k:Nat}{c:Kur}{r:Int}(h:Kwr k c=some r):Pure Tryz.prog 58 [.agg [I c.Kind,S c.Name,S c.Op,I c.Value.Kind,I c.Value.Number,S c.Value.Words,I c.Value.Version.1,I c.Value.Version.2.1,I c.Value.Version.2.2.1,I c.Value.Version.2.2.2,.d (.ro c.Kids.n c.Kids.xs)]] (I r):=by
 induction k generalizing c r with
 | zero=>unfold Kwr at h;cases h
 | succ k ih0=>
  have ih:∀ {c:Kur} {r:Int},Kwr k c=some r→Pure Tryz.prog 58 [.agg [I c.Kind,S c.Name,S c.Op,I c.Value.Kind,I c.Value.Number,S c.Value.Words,I c.Value.Version.1,I c.Value.Version.2.1,I c.Value.Version.2.2.1,I c.Value.Version.2.2.2,.d (.ro c.Kids.n c.Kids.xs)]] (I r):=by intro c r h;first | exact ih0 h | exact ih0 _ _ h
  refine Pure.enter (Fr.of 0 _) Tryz.func58 E (Fr.of_ok _) E E ?_
  refine Kgx ?_
  unfold Kwr at h
  refine gA 2 E ?_
  refine Kqb E E E E Z ?_
  obtain⟨y1,hy1,h2⟩:=Khf h
  refine gO 7 E ?_
  refine Kie C (Lav hy1) E Z E E E E E ?_
  refine gO 9 E ?_
  refine Kgy E (fun hb=>?_) (fun hb=>?_)
  ·have h3:=cT h2 hb
   refine gA 8 E ?_
   obtain rfl:=oSi h3
   exact gP E E
  have h4:=cF h2 hb
  obtain⟨l5,hl5,h6⟩:=Khf h4
  refine gA 6 E ?_
  refine eo_o E (Kmi (Kpn hΓ (g:=.d (.ro c.Kids.n c.Kids.xs)) E) (G.Le.unk Kxu hl5)) ?_
  refine gO 4 E ?_
  obtain⟨q10,hq10,h11⟩:=Khf h6
  refine Kho 13 E fun hb13=>?_
  refine Kkt (R:=fun a12=>q10=.go a12) (fun a12=>[]) (fun a12=>[.box 47 [I c.Kind,S c.Name,S c.Op,I c.Value.Kind,I c.Value.Number,S c.Value.Words,I c.Value.Version.1,I c.Value.Version.2.1,I c.Value.Version.2.2.1,I c.Value.Version.2.2.2,.d (.ro c.Kids.n c.Kids.xs)]]) ?_ ?_
  ·refine gA 1 E ?_
   refine Khn l5 hq10 (fun i7 s8=>[(13,.d (Sl Kus l5)),(14,I (l5.length:Int)),(15,I (i7:Int))]) (fun s8=>[.box 47 [I c.Kind,S c.Name,S c.Op,I c.Value.Kind,I c.Value.Number,S c.Value.Words,I c.Value.Version.1,I c.Value.Version.2.1,I c.Value.Version.2.2.1,I c.Value.Version.2.2.2,.d (.ro c.Kids.n c.Kids.xs)]]) ⟨⟨E,E,E,tV⟩,[],E,.inl E⟩ (fun i7 x9 s8 y17 hx14 hlt hy15 hout16=>?_) (fun s8 hgo=>?_)
   ·refine gA 6 E ?_
    refine Kgz E (dT (Int.ofNat_lt.2 hlt)) ?_
    refine gA 6 E ?_
    refine eo_o E (Khp hΓ (enc:=Kus) (Khi hx14) E E E E E (fun _=>E)) ?_
    refine gO 1 E ?_
    refine Kqa hΓ E E E Z ?_
    refine Kqf hΓ E E E E E E E E Z ?_
    refine Kil [.box 47 [I c.Kind,S c.Name,S c.Op,I c.Value.Kind,I c.Value.Number,S c.Value.Words,I c.Value.Version.1,I c.Value.Version.2.1,I c.Value.Version.2.2.1,I c.Value.Version.2.2.2,.d (.ro c.Kids.n c.Kids.xs)],.box 47 [I x9.Kind,S x9.Name,S x9.Op,I x9.Value.Kind,I x9.Value.Number,S x9.Value.Words,I x9.Value.Version.1,I x9.Value.Version.2.1,I x9.Value.Version.2.2.1,I x9.Value.Version.2.2.2,.d (.ro x9.Kids.n x9.Kids.xs)]] E ?_
    obtain⟨y18,hy18,h19⟩:=Khf hy15
    refine gO 5 E ?_
    refine Kie C (ih hy18) E Z E E E E E ?_
    refine gO 9 E ?_
    refine Kgy E (fun hb=>?_) (fun hb=>?_)
    ·have h20:=cT h19 hb
     refine gA 9 E ?_
     obtain⟨v21,hv21,h22⟩:=Khf h20
     obtain rfl:=oSi h22
     obtain rfl:=hout16 _ rfl
     obtain rfl:=oSi h11
     refine gA 4 E ?_
     obtain rfl:=oSi hv21
     exact gP E E
    have h23:=cF h19 hb
    refine gA 7 E ?_
    obtain rfl:=oSi h23
    exact⟨_,E,⟨⟨E,E,Kgc E (Kgb (nLl hlt hb13)),tV⟩,[_],E,.inr ⟨HB.mk E,FB.mk E,Z⟩⟩⟩
   subst hgo
   refine gA 6 E ?_
   refine Kha E (dF (Int.lt_irrefl _)) ?_
   refine gA 4 E ?_
   exact⟨_,E,⟨tV,[],E,.inl E⟩⟩
  intro a12 ha
  subst ha
  replace h11:=Kkn h11
  refine gA 7 E ?_
  obtain rfl:=oSi h11
  exact gP E E
theorem Lax{k:Nat}{c:Kur}{r:Int}(h:Kws k c=some r):Pure Tryz.prog 18 [.agg [I c.Kind,S c.Name,S c.Op,I c.Value.Kind,I c.Value.Number,S c.Value.Words,I c.Value.Version.1,I c.Value.Version.2.1,I c.Value.Version.2.2.1,I c.Value.Version.2.2.2,.d (.ro c.Kids.n c.Kids.xs)]] (I r):=by
 unfold Kws at h
 refine QP Tryz.func18 E E E<|gA 2 E<|Kqb E E E E Z<|bK h fun y1 hy1 h2=>gO 7 E<|Kie C (Lak hy1) E Z E E E E E<|gO 2 E<|bK h2 fun q3 hq3 h4=>Khe 4 [(1,.ptr 0 0),(10,B q3)] [.box 47 [I c.Kind,S c.Name,S c.Op,I c.Value.Kind,I c.Value.Number,S c.Value.Words,I c.Value.Version.1,I c.Value.Version.2.1,I c.Value.Version.2.2.1,I c.Value.Version.2.2.2,.d (.ro c.Kids.n c.Kids.xs)]] ?_ ?_
 ·refine Kot E E (fun hb=>?_) (fun hb=>?_)
  ·have h5:=cT hq3 hb
   exact gO 5 E<|oSi h5▸⟨⟨E,E,tV⟩,[],E,.inl E⟩
  have h6:=cF hq3 hb
  exact bK h6 fun y7 hy7 h8=>gO 1 E<|Kor E<|Kie C (Lal hy7) E Z E E E E E<|gO 3 E<|oSi h8▸⟨⟨E,E,tV⟩,[],E,.inl E⟩
 refine gO 2 E<|jC E h4 (fun h9=>?_) fun h10=>bK h10 fun y11 hy11 h12=>gA 5 E<|Kie C (Law hy11) E Z E E E E E<|gO 4 E<|oSi h12▸gP E E
 exact gA 7 E<|oSi h9▸gP E E
theorem Laz{k:Nat}{a:Kuq}{r:Str}(h:Kwt k a=some r):Pure Tryz.prog 39 [.agg [I a.Kind,I a.Number,S a.Words,I a.Version.1,I a.Version.2.1,I a.Version.2.2.1,I a.Version.2.2.2]] (S r):=by
 unfold Kwt at h
 refine QP Tryz.func39 E E E<|gA 2 E<|Kqb E E E E Z<|gO 17 E<|jC E h (fun h1=>?_) fun h4=>gA 6 E<|jC E h4 (fun h5=>?_) fun h8=>?_
 ·exact bK h1 fun y2 hy2 h3=>gA 4 E<|Kie C (Ktj hy2) E Z E E E E E<|gO 6 E<|oSi h3▸gP E E
 ·exact gA 2 E<|Khz hΓ (enc:=eS) [[102,97,108,115,101],[116,114,117,101]] E E E E E E E E E E E E Z<|bK h5 fun x6 hx6 h7=>gO 2 E<|eo_o E (Khp hΓ (enc:=eS) hx6 E E E E E (fun _=>E))<|gO 7 E<|oSi h7▸gP E E
 refine gA 6 E<|jC E h8 (fun h9=>?_) fun h32=>bK h32 fun y33 hy33 h34=>gA 7 E<|Kie C (Ktl hy33) E Z E E E E E<|bK h34 fun y35 hy35 h36=>Kie C (Ktl hy35) E Z E E E E E<|bK h36 fun y37 hy37 h38=>eo_o E (Kio hy37 E E)<|bK h38 fun y39 hy39 h40=>eo_o E (Kio hy39 E E)<|gO 4 E<|oSi h40▸gP E E
 refine gA 2 E<|Kib (t:=0) 9 1 E Z<|gO 10 E<|bK h9 fun q13 hq13 h14=>Kku [(3,.sl 1 q13.length)] [.box 40 [I a.Kind,I a.Number,S a.Words,I a.Version.1,I a.Version.2.1,I a.Version.2.2.1,I a.Version.2.2.2],rO 9 1 eS q13] ?_ ?_
 ·refine gA 1 E<|Khl hq13 (fun s11=>[(3,.sl 1 s11.1.length),(23,.agg [I a.Version.1,I a.Version.2.1,I a.Version.2.2.1,I a.Version.2.2.2]),(24,I s11.2)]) (fun s11=>[.box 40 [I a.Kind,I a.Number,S a.Words,I a.Version.1,I a.Version.2.1,I a.Version.2.2.1,I a.Version.2.2.2],rO 9 1 eS s11.1]) ⟨⟨E,E,E,tV⟩,[],E,.inl E⟩ (fun s11 y19 hy17 hout18=>?_)
  refine gA 6 E<|jC E hy17 (fun h20=>?_) fun h27=>gA 4 E ?_
  ·exact bK h20 fun x21 hx21 h22=>gA 6 E<|eo_o E (Klo hΓ (enc:=(eN .i64)) [a.Version.1,a.Version.2.1,a.Version.2.2.1,a.Version.2.2.2] hx21 E E E E E E E (fun _=>E) E)<|bK h22 fun y23 hy23 h24=>gO 6 E<|Kie C (Ktj hy23) E Z E E E E E<|Khz hΓ (enc:=eS) [y23] E E E E E E E E E E E E Z<|bK h24 fun y25 hy25 h26=>Kim hΓ (enc:=eS) hy25 E E E E E E E E E (fun _=>E) E E E E<|gO 8 E<|oSi h26▸⟨_,E,⟨⟨E,E,E,tV⟩,[],E,.inl E⟩⟩
  cases h27
  obtain rfl:=hout18 _ rfl
  exact⟨⟨E,tV⟩,[],E,.inl E⟩
 exact bK h14 fun y28 hy28 h29=>gA 4 E<|Kig C (Ktm hy28) E Z E E E E E<|bK h29 fun y30 hy30 h31=>eo_o E (Kio hy30 E E)<|gO 6 E<|oSi h31▸gP E E
end Go.Proofs.YtmecneoeklldeaaGreatDoor
