import Derived.Test.YthhdojhbohfmnaaGreatDoorXJM
import Derived.Test.YthhdojhbohfmnaaGreatDoorGt
import Derived.Test.YthhdojhbohfmnaaGreatDoorStr
import Derived.Test.YthhdojhbohfmnaaGreatDoorStr9
import Derived.Test.YthhdojhbohfmnaaGreatDoorStrC
import Derived.Test.YthhdojhbohfmnaaGreatDoorStrI
import Derived.Test.YthhdojhbohfmnaaGreatDoorGk64
import Derived.Test.YthhdojhbohfmnaaGreatDoorGk67
import Derived.Test.YthhdojhbohfmnaaGreatDoorBk5
import Derived.Test.YthhdojhbohfmnaaGreatDoorXJW1
set_option maxHeartbeats 8000000
set_option linter.all false
set_option maxRecDepth 100000
namespace Go.Proofs.YthhdojhbohfmnaaGreatDoor
open Go.Gk
theorem Lkh{k:Nat}{v_r:Ldb}{c:Lcw}{node:Str}{v_at:Int}{n:Int}{r:Ldc×Int}(h:Lff k v_r c node v_at n=some r):EC Tryz.prog 177 [.ptr 1 0,.agg [I c.Kind,S c.Name,S c.Op,I c.Value.Kind,I c.Value.Number,S c.Value.Words,I c.Value.Version.1,I c.Value.Version.2.1,I c.Value.Version.2.2.1,I c.Value.Version.2.2.2,.d (.ro c.Kids.n c.Kids.xs)],S node,I v_at,.ptr 2 0] [mOb (kD Lcp) false (eT 83 10 Lcn) v_r.list,.box 240 [I v_r.fresh,.map 0],.box 3 [I n]] fun g hp'=>g=.agg [I r.1.is,.d (Sl (eN .i64) r.1.proof)]∧hp'=[mOb (kD Lcp) false (eT 83 10 Lcn) v_r.list,.box 240 [I v_r.fresh,.map 0],.box 3 [I r.2]]:=by
 induction k generalizing v_r c node v_at n r with
 | zero=>unfold Lff at h;cases h
 | succ k ih0=>
  have ih:∀ {v_r:Ldb} {c:Lcw} {node:Str} {v_at:Int} {n:Int} {r:Ldc×Int},Lff k v_r c node v_at n=some r→EC Tryz.prog 177 [.ptr 1 0,.agg [I c.Kind,S c.Name,S c.Op,I c.Value.Kind,I c.Value.Number,S c.Value.Words,I c.Value.Version.1,I c.Value.Version.2.1,I c.Value.Version.2.2.1,I c.Value.Version.2.2.2,.d (.ro c.Kids.n c.Kids.xs)],S node,I v_at,.ptr 2 0] [mOb (kD Lcp) false (eT 83 10 Lcn) v_r.list,.box 240 [I v_r.fresh,.map 0],.box 3 [I n]] fun g hp'=>g=.agg [I r.1.is,.d (Sl (eN .i64) r.1.proof)]∧hp'=[mOb (kD Lcp) false (eT 83 10 Lcn) v_r.list,.box 240 [I v_r.fresh,.map 0],.box 3 [I r.2]]:=by intro v_r c node v_at n r h;first | exact ih0 h | exact ih0 _ _ _ _ _ _ h
  refine Kqo (Fr.of 0 _) Tryz.func177 E (Fr.of_ok _) Z fun _=>?_
  refine Khr ?_
  unfold Lff at h
  refine gA 2 E ?_
  refine Ksd E E E E Z ?_
  refine Ksc hΓ E E E Z ?_
  refine gO 16 E ?_
  refine Khs E (fun hb=>?_) (fun hb=>?_)
  ·have h1:=cT h hb
   refine gA 15 E ?_
   refine Ksh hΓ E E E E E E E E Z ?_
   refine Kjh [mOb (kD Lcp) false (eT 83 10 Lcn) v_r.list,.box 240 [I v_r.fresh,.map 0],.box 3 [I (wi (n+1))],.box 32 [I c.Kind,S c.Name,S c.Op,I c.Value.Kind,I c.Value.Number,S c.Value.Words,I c.Value.Version.1,I c.Value.Version.2.1,I c.Value.Version.2.2.1,I c.Value.Version.2.2.2,.d (.ro c.Kids.n c.Kids.xs)],.box 140 [I 0,.d (Sl (eN .i64) [])]] E ?_
   obtain⟨y2,hy2,h3⟩:=Khz h1
   refine gO 9 E ?_
   refine Kiy [0,1] (.tup [.agg [I y2.1.Kind,I y2.1.Number,S y2.1.Words,I y2.1.Version.1,I y2.1.Version.2.1,I y2.1.Version.2.2.1,I y2.1.Version.2.2.2],B y2.2]) [mOb (kD Lcp) false (eT 83 10 Lcn) v_r.list,.box 240 [I v_r.fresh,.map 0],.box 3 [I (wi (n+1))],.box 32 [I c.Kind,S c.Name,S c.Op,I c.Value.Kind,I c.Value.Number,S c.Value.Words,I c.Value.Version.1,I c.Value.Version.2.1,I c.Value.Version.2.2.1,I c.Value.Version.2.2.2,.d (.ro c.Kids.n c.Kids.xs)],.box 140 [I 0,.d (Sl (eN .i64) [])]] C (Kat hy2) E Z E E E E E E E E E E ?_
   refine gO 3 E ?_
   refine Ksc hΓ E E E Z ?_
   refine Ksh hΓ E E E E E E E E Z ?_
   refine Kjh [mOb (kD Lcp) false (eT 83 10 Lcn) v_r.list,.box 240 [I v_r.fresh,.map 0],.box 3 [I (wi (n+1))],.box 32 [I c.Kind,S c.Name,S c.Op,I c.Value.Kind,I c.Value.Number,S c.Value.Words,I c.Value.Version.1,I c.Value.Version.2.1,I c.Value.Version.2.2.1,I c.Value.Version.2.2.2,.d (.ro c.Kids.n c.Kids.xs)],.box 140 [I 0,.d (Sl (eN .i64) [])],.box 29 [I y2.1.Kind,I y2.1.Number,S y2.1.Words,I y2.1.Version.1,I y2.1.Version.2.1,I y2.1.Version.2.2.1,I y2.1.Version.2.2.2]] E ?_
   refine gO 9 E ?_
   refine Khy 7 [(6,.ptr 3 0),(10,.ptr 4 0),(11,I n),(12,.ptr 5 0),(45,B ((!y2.2)||((y2.1.Kind:Int) != c.Value.Kind)))] [mOb (kD Lcp) false (eT 83 10 Lcn) v_r.list,.box 240 [I v_r.fresh,.map 0],.box 3 [I (wi (n+1))],.box 32 [I c.Kind,S c.Name,S c.Op,I c.Value.Kind,I c.Value.Number,S c.Value.Words,I c.Value.Version.1,I c.Value.Version.2.1,I c.Value.Version.2.2.1,I c.Value.Version.2.2.2,.d (.ro c.Kids.n c.Kids.xs)],.box 140 [I 0,.d (Sl (eN .i64) [])],.box 29 [I y2.1.Kind,I y2.1.Number,S y2.1.Words,I y2.1.Version.1,I y2.1.Version.2.1,I y2.1.Version.2.2.1,I y2.1.Version.2.2.2]] ?_ ?_
   ·refine Kqw E E (fun hb=>?_) (fun hb=>?_)
    ·refine gO 8 E ?_
     exact⟨⟨E,E,E,E,Kgw E (or_t hb),tV⟩,[],E,.inl E⟩
    refine gO 8 E ?_
    exact⟨⟨E,E,E,E,Kgw E (or_f hb),tV⟩,[],E,.inl E⟩
   refine gO 2 E ?_
   refine Khs E (fun hb=>?_) (fun hb=>?_)
   ·have h4:=cT h3 hb
    refine gA 2 E ?_
    refine Kfq hΓ (gs:=[I 2,.d (Sl (eN .i64) [])]) E E E E E E E ?_
    refine Ksh hΓ E E E E E E E E Z ?_
    refine Kjh [mOb (kD Lcp) false (eT 83 10 Lcn) v_r.list,.box 240 [I v_r.fresh,.map 0],.box 3 [I (wi (n+1))],.box 32 [I c.Kind,S c.Name,S c.Op,I c.Value.Kind,I c.Value.Number,S c.Value.Words,I c.Value.Version.1,I c.Value.Version.2.1,I c.Value.Version.2.2.1,I c.Value.Version.2.2.2,.d (.ro c.Kids.n c.Kids.xs)],.box 140 [I 2,.d (Sl (eN .i64) [])],.box 29 [I y2.1.Kind,I y2.1.Number,S y2.1.Words,I y2.1.Version.1,I y2.1.Version.2.1,I y2.1.Version.2.2.1,I y2.1.Version.2.2.2]] E ?_
    refine gO 6 E ?_
    obtain rfl:=oSi h4
    exact Kjm hΓ [_,_,_] (.inr E) E E E E (.inr ⟨HB.mk E,E⟩)
   have h5:=cF h3 hb
   refine gA 4 E ?_
   refine jD ?_
   obtain⟨y6,hy6,h7⟩:=Khz h5
   refine gA 5 E ?_
   refine Kja C (Lkc hy6) E E E E E E ?_
   obtain⟨y8,hy8,h9⟩:=Khz h7
   refine Kja C (Lkd hy8) E E E E E E ?_
   refine Khq hΓ 2 E ?_
   refine Khs E (fun hb=>?_) (fun hb=>?_)
   ·have h10:=cT h9 hb
    refine gA 3 E ?_
    refine Kit hΓ (enc:=(eN .i64)) [n] E E E E E E E E E E E E Z ?_
    refine Kfq hΓ (gs:=[I 1,.d (Sl (eN .i64) [n])]) E E E E E E E ?_
    refine Ksh hΓ E E E E E E E E Z ?_
    refine Kjh [mOb (kD Lcp) false (eT 83 10 Lcn) v_r.list,.box 240 [I v_r.fresh,.map 0],.box 3 [I (wi (n+1))],.box 32 [I c.Kind,S c.Name,S c.Op,I c.Value.Kind,I c.Value.Number,S c.Value.Words,I c.Value.Version.1,I c.Value.Version.2.1,I c.Value.Version.2.2.1,I c.Value.Version.2.2.2,.d (.ro c.Kids.n c.Kids.xs)],.box 140 [I 1,.d (Sl (eN .i64) [n])],.box 29 [I y2.1.Kind,I y2.1.Number,S y2.1.Words,I y2.1.Version.1,I y2.1.Version.2.1,I y2.1.Version.2.2.1,I y2.1.Version.2.2.2]] E ?_
    refine gO 6 E ?_
    obtain rfl:=oSi h10
    exact Kjm hΓ [_,_,_] (.inr E) E E E E (.inr ⟨HB.mk E,E⟩)
   have h11:=cF h9 hb
   refine gA 5 E ?_
   refine Kit hΓ (enc:=(eN .i64)) [n] E E E E E E E E E E E E Z ?_
   refine Kfq hΓ (gs:=[I 0,.d (Sl (eN .i64) [n])]) E E E E E E E ?_
   refine Ksh hΓ E E E E E E E E Z ?_
   refine Kjh [mOb (kD Lcp) false (eT 83 10 Lcn) v_r.list,.box 240 [I v_r.fresh,.map 0],.box 3 [I (wi (n+1))],.box 32 [I c.Kind,S c.Name,S c.Op,I c.Value.Kind,I c.Value.Number,S c.Value.Words,I c.Value.Version.1,I c.Value.Version.2.1,I c.Value.Version.2.2.1,I c.Value.Version.2.2.2,.d (.ro c.Kids.n c.Kids.xs)],.box 140 [I 0,.d (Sl (eN .i64) [n])],.box 29 [I y2.1.Kind,I y2.1.Number,S y2.1.Words,I y2.1.Version.1,I y2.1.Version.2.1,I y2.1.Version.2.2.1,I y2.1.Version.2.2.2]] E ?_
   refine gO 5 E ?_
   obtain rfl:=oSi h11
   exact Kjm hΓ [_,_,_] (.inr E) E E E E (.inr ⟨HB.mk E,E⟩)
  have h12:=cF h hb
  refine gA 6 E ?_
  refine Khs E (fun hb=>?_) (fun hb=>?_)
  ·have h13:=cT h12 hb
   obtain⟨l14,hl14,h15⟩:=Khz h13
   refine gA 4 E ?_
   refine eo_o E (Knu (Krq hΓ (g:=.d (.ro c.Kids.n c.Kids.xs)) E) (G.Le.unk Lht hl14)) ?_
   obtain⟨x16,hx16,h17⟩:=Khz h15
   refine eo_o E (Kij hΓ (enc:=Lcx) hx16 E E E E E (fun _=>E)) ?_
   obtain⟨y18,hy18,h19⟩:=Khz h17
   refine gO 4 E ?_
   refine Kiy [0,1,2] (.agg [I y18.1.is,.d (Sl (eN .i64) y18.1.proof)]) [mOb (kD Lcp) false (eT 83 10 Lcn) v_r.list,.box 240 [I v_r.fresh,.map 0],.box 3 [I y18.2],.box 32 [I c.Kind,S c.Name,S c.Op,I c.Value.Kind,I c.Value.Number,S c.Value.Words,I c.Value.Version.1,I c.Value.Version.2.1,I c.Value.Version.2.2.1,I c.Value.Version.2.2.2,.d (.ro c.Kids.n c.Kids.xs)],.box 140 [I 0,.d (Sl (eN .i64) [])]] C (ih hy18) E Z E E E E E E E E E E ?_
   refine Ksc hΓ E E E Z ?_
   refine Ksh hΓ E E E E E E E E Z ?_
   refine Kjh [mOb (kD Lcp) false (eT 83 10 Lcn) v_r.list,.box 240 [I v_r.fresh,.map 0],.box 3 [I y18.2],.box 32 [I c.Kind,S c.Name,S c.Op,I c.Value.Kind,I c.Value.Number,S c.Value.Words,I c.Value.Version.1,I c.Value.Version.2.1,I c.Value.Version.2.2.1,I c.Value.Version.2.2.2,.d (.ro c.Kids.n c.Kids.xs)],.box 140 [I 0,.d (Sl (eN .i64) [])],.box 140 [I y18.1.is,.d (Sl (eN .i64) y18.1.proof)]] E ?_
   obtain⟨q20,hq20,h21⟩:=Khz h19
   refine gO 9 E ?_
   refine Kls [(10,.ptr 4 0),(14,.ptr 5 0)] [mOb (kD Lcp) false (eT 83 10 Lcn) v_r.list,.box 240 [I v_r.fresh,.map 0],.box 3 [I y18.2],.box 32 [I c.Kind,S c.Name,S c.Op,I c.Value.Kind,I c.Value.Number,S c.Value.Words,I c.Value.Version.1,I c.Value.Version.2.1,I c.Value.Version.2.2.1,I c.Value.Version.2.2.2,.d (.ro c.Kids.n c.Kids.xs)],.box 140 [I 0,.d (Sl (eN .i64) [])],.box 140 [I q20,.d (Sl (eN .i64) y18.1.proof)]] ?_ ?_
   ·refine gA 7 E ?_
    refine Khs E (fun hb=>?_) (fun hb=>?_)
    ·have h22:=cT hq20 hb
     refine gA 2 E ?_
     refine Ksh hΓ E E E E E E E E Z ?_
     refine Kjh [mOb (kD Lcp) false (eT 83 10 Lcn) v_r.list,.box 240 [I v_r.fresh,.map 0],.box 3 [I y18.2],.box 32 [I c.Kind,S c.Name,S c.Op,I c.Value.Kind,I c.Value.Number,S c.Value.Words,I c.Value.Version.1,I c.Value.Version.2.1,I c.Value.Version.2.2.1,I c.Value.Version.2.2.2,.d (.ro c.Kids.n c.Kids.xs)],.box 140 [I 0,.d (Sl (eN .i64) [])],.box 140 [I 0,.d (Sl (eN .i64) y18.1.proof)]] E ?_
     refine gO 2 E ?_
     obtain rfl:=oSi h22
     exact⟨⟨E,E,tV⟩,[],E,.inl E⟩
    have h23:=cF hq20 hb
    refine gA 6 E ?_
    refine Khs E (fun hb=>?_) (fun hb=>?_)
    ·have h24:=cT h23 hb
     refine gA 2 E ?_
     refine Ksh hΓ E E E E E E E E Z ?_
     refine Kjh [mOb (kD Lcp) false (eT 83 10 Lcn) v_r.list,.box 240 [I v_r.fresh,.map 0],.box 3 [I y18.2],.box 32 [I c.Kind,S c.Name,S c.Op,I c.Value.Kind,I c.Value.Number,S c.Value.Words,I c.Value.Version.1,I c.Value.Version.2.1,I c.Value.Version.2.2.1,I c.Value.Version.2.2.2,.d (.ro c.Kids.n c.Kids.xs)],.box 140 [I 0,.d (Sl (eN .i64) [])],.box 140 [I 1,.d (Sl (eN .i64) y18.1.proof)]] E ?_
     refine gO 2 E ?_
     obtain rfl:=oSi h24
     exact⟨⟨E,E,tV⟩,[],E,.inl E⟩
    have h25:=cF h23 hb
    refine gA 2 E ?_
    obtain rfl:=oSi h25
    exact⟨⟨E,E,tV⟩,[],E,.inl E⟩
   refine gA 4 E ?_
   refine Ksh hΓ E E E E E E E E Z ?_
   refine Kjh [mOb (kD Lcp) false (eT 83 10 Lcn) v_r.list,.box 240 [I v_r.fresh,.map 0],.box 3 [I y18.2],.box 32 [I c.Kind,S c.Name,S c.Op,I c.Value.Kind,I c.Value.Number,S c.Value.Words,I c.Value.Version.1,I c.Value.Version.2.1,I c.Value.Version.2.2.1,I c.Value.Version.2.2.2,.d (.ro c.Kids.n c.Kids.xs)],.box 140 [I q20,.d (Sl (eN .i64) y18.1.proof)],.box 140 [I q20,.d (Sl (eN .i64) y18.1.proof)]] E ?_
   refine gO 5 E ?_
   obtain rfl:=oSi h21
   exact Kjm hΓ [_,_,_] (.inr E) E E E E (.inr ⟨HB.mk E,E⟩)
  have h26:=cF h12 hb
  refine gA 6 E ?_
  refine Khs E (fun hb=>?_) (fun hb=>?_)
  ·have h27:=cT h26 hb
   obtain⟨y28,hy28,h29⟩:=Khz h27
   refine gA 7 E ?_
   refine Kiy [0,1,2] (.agg [I y28.1.is,.d (Sl (eN .i64) y28.1.proof)]) [mOb (kD Lcp) false (eT 83 10 Lcn) v_r.list,.box 240 [I v_r.fresh,.map 0],.box 3 [I y28.2],.box 32 [I c.Kind,S c.Name,S c.Op,I c.Value.Kind,I c.Value.Number,S c.Value.Words,I c.Value.Version.1,I c.Value.Version.2.1,I c.Value.Version.2.2.1,I c.Value.Version.2.2.2,.d (.ro c.Kids.n c.Kids.xs)],.box 140 [I 0,.d (Sl (eN .i64) [])]] C (Lkg ih hy28) E Z E E E E E E E E E E ?_
   refine Ksh hΓ E E E E E E E E Z ?_
   refine Kjh [mOb (kD Lcp) false (eT 83 10 Lcn) v_r.list,.box 240 [I v_r.fresh,.map 0],.box 3 [I y28.2],.box 32 [I c.Kind,S c.Name,S c.Op,I c.Value.Kind,I c.Value.Number,S c.Value.Words,I c.Value.Version.1,I c.Value.Version.2.1,I c.Value.Version.2.2.1,I c.Value.Version.2.2.2,.d (.ro c.Kids.n c.Kids.xs)],.box 140 [I y28.1.is,.d (Sl (eN .i64) y28.1.proof)]] E ?_
   refine gO 5 E ?_
   obtain rfl:=oSi h29
   exact Kjm hΓ [_,_] (.inr E) E E E E (.inr ⟨HB.mk E,E⟩)
  have h30:=cF h26 hb
  obtain⟨y31,hy31,h32⟩:=Khz h30
  refine gA 10 E ?_
  refine Kiy [0,1,2] (.agg [I y31.1.is,.d (Sl (eN .i64) y31.1.proof)]) [mOb (kD Lcp) false (eT 83 10 Lcn) v_r.list,.box 240 [I v_r.fresh,.map 0],.box 3 [I y31.2],.box 32 [I c.Kind,S c.Name,S c.Op,I c.Value.Kind,I c.Value.Number,S c.Value.Words,I c.Value.Version.1,I c.Value.Version.2.1,I c.Value.Version.2.2.1,I c.Value.Version.2.2.2,.d (.ro c.Kids.n c.Kids.xs)],.box 140 [I 0,.d (Sl (eN .i64) [])]] C (Lkg ih hy31) E Z E E E E E E E E E E ?_
  refine Ksh hΓ E E E E E E E E Z ?_
  refine Kjh [mOb (kD Lcp) false (eT 83 10 Lcn) v_r.list,.box 240 [I v_r.fresh,.map 0],.box 3 [I y31.2],.box 32 [I c.Kind,S c.Name,S c.Op,I c.Value.Kind,I c.Value.Number,S c.Value.Words,I c.Value.Version.1,I c.Value.Version.2.1,I c.Value.Version.2.2.1,I c.Value.Version.2.2.2,.d (.ro c.Kids.n c.Kids.xs)],.box 140 [I y31.1.is,.d (Sl (eN .i64) y31.1.proof)]] E ?_
  refine gO 3 E ?_
  obtain rfl:=oSi h32
  exact Kjm hΓ [_,_] (.inr E) E E E E (.inr ⟨HB.mk E,E⟩)
theorem Lki{k:Nat}{c:Lcw}{l:List Lcy}{fresh:Int}{node:Str}{v_at:Int}{al:List Bool}{r:Ldc×Int×(List Bool)}(h:Lfg k c l fresh node v_at al=some r):EC Tryz.prog 92 [.agg [I c.Kind,S c.Name,S c.Op,I c.Value.Kind,I c.Value.Number,S c.Value.Words,I c.Value.Version.1,I c.Value.Version.2.1,I c.Value.Version.2.2.1,I c.Value.Version.2.2.2,.d (.ro c.Kids.n c.Kids.xs)],.d (Sl Lcn l),I fresh,S node,I v_at] [.bag al [] []] fun g hp'=>g=.tup [.agg [I r.1.is,.d (Sl (eN .i64) r.1.proof)],I r.2.1]∧hp'=[.bag r.2.2 [] []]:=by
 unfold Lfg at h
 refine QN Tryz.func92 E Z<|gA 2 E<|Ksd E E E E Z<|Ksc hΓ E E E Z<|bK h fun y1 hy1 h2=>gO 7 E<|Kiz C (Ljn hy1) E Z E E E E E<|gO 9 E<|jC E h2 (fun h3=>?_) fun h4=>gA 8 E<|Kit hΓ (enc:=eS) [node] E E E E E E E E E E E E Z<|bK h4 fun y5 hy5 h6=>Kiz C (Ljy hy5) E Z E E E E E<|gO 9 E<|jC E h6 (fun h7=>?_) fun h8=>?_
 ·exact gA 2 E<|Kfq hΓ (gs:=[I 0,.d (Sl (eN .i64) [])]) E E E E E E E<|gO 1 E<|Ksh hΓ E E E E E E E E Z<|Kjh [.bag al [] [],.box 32 [I c.Kind,S c.Name,S c.Op,I c.Value.Kind,I c.Value.Number,S c.Value.Words,I c.Value.Version.1,I c.Value.Version.2.1,I c.Value.Version.2.2.1,I c.Value.Version.2.2.2,.d (.ro c.Kids.n c.Kids.xs)],.box 140 [I 0,.d (Sl (eN .i64) [])]] E<|gO 5 E<|oSi h3▸Kjm hΓ [_,_] (.inr E) E E E E (.inr ⟨HB.mk E,E⟩)
 ·exact gA 2 E<|Kfq hΓ (gs:=[I 0,.d (Sl (eN .i64) [])]) E E E E E E E<|gO 1 E<|Ksh hΓ E E E E E E E E Z<|Kjh [.bag al [] [],.box 32 [I c.Kind,S c.Name,S c.Op,I c.Value.Kind,I c.Value.Number,S c.Value.Words,I c.Value.Version.1,I c.Value.Version.2.1,I c.Value.Version.2.2.1,I c.Value.Version.2.2.2,.d (.ro c.Kids.n c.Kids.xs)],.box 140 [I 0,.d (Sl (eN .i64) [])]] E<|gO 5 E<|oSi h7▸Kjm hΓ [_,_] (.inr E) E E E E (.inr ⟨HB.mk E,E⟩)
 refine bK h8 fun y9 hy9 h10=>gA 6 E<|Kiz C (Ljz hy9) E Z E E E E E<|gO 9 E<|jC E h10 (fun h11=>?_) fun h12=>gA 4 E<|Ksc hΓ E E E Z<|Ksh hΓ E E E E E E E E Z<|Kjh [.bag al [] [],.box 32 [I c.Kind,S c.Name,S c.Op,I c.Value.Kind,I c.Value.Number,S c.Value.Words,I c.Value.Version.1,I c.Value.Version.2.1,I c.Value.Version.2.2.1,I c.Value.Version.2.2.2,.d (.ro c.Kids.n c.Kids.xs)],.box 140 [I 0,.d (Sl (eN .i64) [])],.box 3 [I 0]] E<|gO 3 E<|Kkv [.dead,.box 32 [I c.Kind,S c.Name,S c.Op,I c.Value.Kind,I c.Value.Number,S c.Value.Words,I c.Value.Version.1,I c.Value.Version.2.1,I c.Value.Version.2.2.1,I c.Value.Version.2.2.2,.d (.ro c.Kids.n c.Kids.xs)]] [3] [2,6,7] [] hmix (by kernel_rfl) (by kernel_rfl) ⟨E,tV⟩ Z<|bK h12 fun y13 hy13 h14=>go_E hΓ 2 E<|ge_h [.bag y13.2 [] [],.box 32 [I c.Kind,S c.Name,S c.Op,I c.Value.Kind,I c.Value.Number,S c.Value.Words,I c.Value.Version.1,I c.Value.Version.2.1,I c.Value.Version.2.2.1,I c.Value.Version.2.2.2,.d (.ro c.Kids.n c.Kids.xs)],.box 140 [I 0,.d (Sl (eN .i64) [])],.box 3 [I 0],mOb (kD Lcp) false (eT 83 10 Lcn) y13.1.list,.box 240 [I y13.1.fresh,.map 4]] E E E (Klb ⟨E,tV⟩) (Klg [0] (.ptr 5 0) [.bag y13.2 [] [],.box 32 [I c.Kind,S c.Name,S c.Op,I c.Value.Kind,I c.Value.Number,S c.Value.Words,I c.Value.Version.1,I c.Value.Version.2.1,I c.Value.Version.2.2.1,I c.Value.Version.2.2.2,.d (.ro c.Kids.n c.Kids.xs)],.box 140 [I 0,.d (Sl (eN .i64) [])],.box 3 [I 0],mOb (kD Lcp) false (eT 83 10 Lcn) y13.1.list,.box 240 [I y13.1.fresh,.map 4]] C (Lka hy13) E E E E E E E E E E)<|bK h14 fun y15 hy15 h16=>go_E hΓ 3 E<|ge_h [.bag y13.2 [] [],.box 32 [I c.Kind,S c.Name,S c.Op,I c.Value.Kind,I c.Value.Number,S c.Value.Words,I c.Value.Version.1,I c.Value.Version.2.1,I c.Value.Version.2.2.1,I c.Value.Version.2.2.2,.d (.ro c.Kids.n c.Kids.xs)],.box 140 [I 0,.d (Sl (eN .i64) [])],.box 3 [I y15.2],mOb (kD Lcp) false (eT 83 10 Lcn) y13.1.list,.box 240 [I y13.1.fresh,.map 4]] E E E (Klb ⟨E,tV⟩) (Klg [4,5,3] (.agg [I y15.1.is,.d (Sl (eN .i64) y15.1.proof)]) [.bag y13.2 [] [],.box 32 [I c.Kind,S c.Name,S c.Op,I c.Value.Kind,I c.Value.Number,S c.Value.Words,I c.Value.Version.1,I c.Value.Version.2.1,I c.Value.Version.2.2.1,I c.Value.Version.2.2.2,.d (.ro c.Kids.n c.Kids.xs)],.box 140 [I 0,.d (Sl (eN .i64) [])],.box 3 [I y15.2],mOb (kD Lcp) false (eT 83 10 Lcn) y13.1.list,.box 240 [I y13.1.fresh,.map 4]] C (Lkh hy15) E E E E E E E E E E)<|Kkz [.bag y13.2 [] [],.box 32 [I c.Kind,S c.Name,S c.Op,I c.Value.Kind,I c.Value.Number,S c.Value.Words,I c.Value.Version.1,I c.Value.Version.2.1,I c.Value.Version.2.2.1,I c.Value.Version.2.2.2,.d (.ro c.Kids.n c.Kids.xs)],.box 140 [I y15.1.is,.d (Sl (eN .i64) y15.1.proof)],.box 3 [I y15.2],mOb (kD Lcp) false (eT 83 10 Lcn) y13.1.list,.box 240 [I y13.1.fresh,.map 4]] E E (Klb ⟨E,tV⟩) (Klf (Kmd hΓ E E E E E E E E E))<|go_E hΓ 1 E<|Kkw<|gA 2 E<|oSi h16▸Kjm hΓ [_,_,_,_,_] (.inr E) E E E E (.inr ⟨HB.mk E,E⟩)
 exact gA 2 E<|Kfq hΓ (gs:=[I 0,.d (Sl (eN .i64) [])]) E E E E E E E<|gO 1 E<|Ksh hΓ E E E E E E E E Z<|Kjh [.bag al [] [],.box 32 [I c.Kind,S c.Name,S c.Op,I c.Value.Kind,I c.Value.Number,S c.Value.Words,I c.Value.Version.1,I c.Value.Version.2.1,I c.Value.Version.2.2.1,I c.Value.Version.2.2.2,.d (.ro c.Kids.n c.Kids.xs)],.box 140 [I 0,.d (Sl (eN .i64) [])]] E<|gO 5 E<|oSi h11▸Kjm hΓ [_,_] (.inr E) E E E E (.inr ⟨HB.mk E,E⟩)
theorem Lkj{k:Nat}{c:Lcw}{l:List Lcy}{fresh:Int}{node:Str}{v_at:Int}{al:List Bool}{r:Int×Int×(List Bool)}(h:Lfh k c l fresh node v_at al=some r):EC Tryz.prog 20 [.agg [I c.Kind,S c.Name,S c.Op,I c.Value.Kind,I c.Value.Number,S c.Value.Words,I c.Value.Version.1,I c.Value.Version.2.1,I c.Value.Version.2.2.1,I c.Value.Version.2.2.2,.d (.ro c.Kids.n c.Kids.xs)],.d (Sl Lcn l),I fresh,S node,I v_at] [.bag al [] []] fun g hp'=>g=.tup [I r.1,I r.2.1]∧hp'=[.bag r.2.2 [] []]:=by
 unfold Lfh at h
 exact QN Tryz.func20 E Z<|gA 2 E<|Ksd E E E E Z<|bK h fun y1 hy1 h2=>gO 11 E<|Kiy [0] (.tup [.agg [I y1.1.is,.d (Sl (eN .i64) y1.1.proof)],I y1.2.1]) [.bag y1.2.2 [] [],.box 32 [I c.Kind,S c.Name,S c.Op,I c.Value.Kind,I c.Value.Number,S c.Value.Words,I c.Value.Version.1,I c.Value.Version.2.1,I c.Value.Version.2.2.1,I c.Value.Version.2.2.2,.d (.ro c.Kids.n c.Kids.xs)]] C (Lki hy1) E Z E E E E E E E E E E<|gO 3 E<|Ksc hΓ E E E Z<|Ksh hΓ E E E E E E E E Z<|Kjh [.bag y1.2.2 [] [],.box 32 [I c.Kind,S c.Name,S c.Op,I c.Value.Kind,I c.Value.Number,S c.Value.Words,I c.Value.Version.1,I c.Value.Version.2.1,I c.Value.Version.2.2.1,I c.Value.Version.2.2.2,.d (.ro c.Kids.n c.Kids.xs)],.box 140 [I y1.1.is,.d (Sl (eN .i64) y1.1.proof)]] E<|gO 13 E<|oSi h2▸Kjm hΓ [_,_] (.inr E) E E E E (.inr ⟨HB.mk E,E⟩)
theorem Lkk{k:Nat}{c:Lcw}{l:List Lcy}{fresh:Int}{node:Str}{v_at:Int}{al:List Bool}{r:(List Int)×Int×(List Bool)}(h:Lfi k c l fresh node v_at al=some r):EC Tryz.prog 21 [.agg [I c.Kind,S c.Name,S c.Op,I c.Value.Kind,I c.Value.Number,S c.Value.Words,I c.Value.Version.1,I c.Value.Version.2.1,I c.Value.Version.2.2.1,I c.Value.Version.2.2.2,.d (.ro c.Kids.n c.Kids.xs)],.d (Sl Lcn l),I fresh,S node,I v_at] [.bag al [] []] fun g hp'=>g=.tup [.d (Sl (eN .i64) r.1),I r.2.1]∧hp'=[.bag r.2.2 [] []]:=by
 unfold Lfi at h
 exact QN Tryz.func21 E Z<|gA 2 E<|Ksd E E E E Z<|bK h fun y1 hy1 h2=>gO 11 E<|Kiy [0] (.tup [.agg [I y1.1.is,.d (Sl (eN .i64) y1.1.proof)],I y1.2.1]) [.bag y1.2.2 [] [],.box 32 [I c.Kind,S c.Name,S c.Op,I c.Value.Kind,I c.Value.Number,S c.Value.Words,I c.Value.Version.1,I c.Value.Version.2.1,I c.Value.Version.2.2.1,I c.Value.Version.2.2.2,.d (.ro c.Kids.n c.Kids.xs)]] C (Lki hy1) E Z E E E E E E E E E E<|gO 3 E<|Ksc hΓ E E E Z<|Ksh hΓ E E E E E E E E Z<|Kjh [.bag y1.2.2 [] [],.box 32 [I c.Kind,S c.Name,S c.Op,I c.Value.Kind,I c.Value.Number,S c.Value.Words,I c.Value.Version.1,I c.Value.Version.2.1,I c.Value.Version.2.2.1,I c.Value.Version.2.2.2,.d (.ro c.Kids.n c.Kids.xs)],.box 140 [I y1.1.is,.d (Sl (eN .i64) y1.1.proof)]] E<|gO 13 E<|oSi h2▸Kjm hΓ [_,_] (.inr E) E E E E (.inr ⟨HB.mk E,E⟩)
theorem Lkl{k:Nat}{s:List Int}{r:List Int}(h:Lfj k s=some r):EC Tryz.prog 141 [.sl 0 s.length] [rO 3 1 (eN .i64) s] fun g hp'=>g=.sl 0 r.length∧hp'=[rO 3 1 (eN .i64) r]:=by
 unfold Lfj at h
 refine QN Tryz.func141 E Z<|gA 2 E<|Kiw (t:=0) 3 1 E Z<|gO 10 E<|jC E h (fun h1=>?_) fun h2=>gA 8 E<|bK h2 fun q6 hq6 h7=>Klr (R:=fun a8=>q6=.inl a8) (fun a8=>[(0,.sl 0 s.length)]) (fun a8=>[rO 3 1 (eN .i64) s,rO 3 1 (eN .i64) ([]:List Int)]) ?_ ?_
 ·exact gA 8 E<|oSi h1▸Kjm hΓ [_] (.inr E) E E E E (.inr ⟨HB.mk E,E⟩)
 ·refine gA 1 E<|Kif hq6 (fun s4=>[(0,.sl 0 s.length),(3,I s4)]) (fun s4=>[rO 3 1 (eN .i64) s,rO 3 1 (eN .i64) ([]:List Int)]) ⟨⟨E,E,tV⟩,[],E,.inl E⟩ (fun s4 y12 hy10 hout11=>?_)
  refine gA 9 E<|jC E hy10 (fun h13=>?_) fun h60=>gA 4 E ?_
  ·refine gA 5 E<|jD<|bK h13 fun x14 hx14 h15=>?_
   have hj16:=Kjr hx14
   refine gA 2 E<|gl_o E (Kil hΓ hx14 E E E E E E)<|gl_o E (Kiq hΓ (enc:=(eN .i64)) s4.toNat 0 hj16 E E E E (fun _=>E) (g:=I x14) E)<|bK h15 fun x17 hx17 h18=>?_
   have hj19:=Kjr hx17
   refine Khq hΓ 3 E<|gl_o E (Kil hΓ hx17 E E E E E E)<|gl_o E (Kiq hΓ (enc:=(eN .i64)) ((wi (s4 - 1)).toNat) 0 hj19 E E E E (fun _=>E) (g:=I x17) E)<|Khq hΓ 3 E<|jC E h18 (fun h20=>?_) fun h59=>gA 8 E<|oSi h59▸⟨_,E,⟨⟨E,E,tV⟩,[],E,.inl E⟩⟩
   refine bK h20 fun z21 hz21 h22=>gA 4 E<|eo_o E (Kma hΓ hz21 E E E E E E)<|gO 9 E<|bK h22 fun q26 hq26 h27=>Kls [(0,.sl 0 q26.1.length),(3,I q26.2)] [rO 3 1 (eN .i64) q26.1,rO 3 1 (eN .i64) ([]:List Int)] ?_ ?_
   ·refine gA 1 E<|Kif hq26 (fun s24=>[(0,.sl 0 s24.1.length),(3,I s24.2.1),(4,.slo 0 1 s4.toNat z21.length),(5,I s24.2.2)]) (fun s24=>[rO 3 1 (eN .i64) s24.1,rO 3 1 (eN .i64) ([]:List Int)]) ⟨⟨E,E,E,E,tV⟩,[],E,.inl E⟩ (fun s24 y32 hy30 hout31=>?_)
    refine gA 9 E<|jC E hy30 (fun h33=>?_) fun h54=>gA 4 E ?_
    ·refine gA 5 E<|jD<|bK h33 fun x34 hx34 h35=>bK h35 fun x36 hx36 h37=>?_
     have hj38:s24.1[(s4.toNat+s24.2.2.toNat)]?=some x36:=hx36
     refine gA 2 E<|gl_o E (Kme hΓ hx34 E E E E E E E)<|gl_o E (Kiq hΓ (enc:=(eN .i64)) (s4.toNat+s24.2.2.toNat) 0 hj38 E E E E (fun _=>E) (g:=I x36) E)<|bK h37 fun x39 hx39 h40=>bK h40 fun x41 hx41 h42=>?_
     have hj43:s24.1[(s4.toNat+(wi (s24.2.2 - 1)).toNat)]?=some x41:=hx41
     refine Khq hΓ 3 E<|gl_o E (Kme hΓ hx39 E E E E E E E)<|gl_o E (Kiq hΓ (enc:=(eN .i64)) (s4.toNat+(wi (s24.2.2 - 1)).toNat) 0 hj43 E E E E (fun _=>E) (g:=I x41) E)<|Khq hΓ 3 E<|jC E h42 (fun h44=>?_) fun h53=>gA 8 E<|oSi h53▸⟨_,E,⟨⟨E,E,E,E,tV⟩,[],E,.inl E⟩⟩
     refine bK h44 fun x45 hx45 h46=>bK h46 fun x47 hx47 h48=>?_
     have hj49:s24.1[(s4.toNat+s24.2.2.toNat)]?=some x47:=hx47
     refine gA 6 E<|eo_o E (Kme hΓ hx45 E E E E E E E)<|eo_o E (Kiq hΓ (enc:=(eN .i64)) (s4.toNat+s24.2.2.toNat) 0 hj49 E E E E (fun _=>E) (g:=I x47) E)<|bK h48 fun x50 hx50 h51=>?_
     have hj52:=Kjr hx50
     exact eo_o E (Kil hΓ hx50 E E E E E E)<|Kis hΓ (enc:=(eN .i64)) (z':=x47) s24.2.1.toNat 0 hj52 E E E E (fun _=>E) E E E E E E Z<|Kjh [rO 3 1 (eN .i64) (s24.1.set s24.2.1.toNat x47),rO 3 1 (eN .i64) ([]:List Int)] E<|Kmc 0 (n':=(s24.1.set s24.2.1.toNat x47).length) E List.length_set.symm<|gO 14 E<|oSi h51▸⟨_,E,⟨⟨E,E,E,E,tV⟩,[],E,.inl E⟩⟩
    cases h54
    obtain rfl:=hout31 _ rfl
    exact⟨⟨E,E,tV⟩,[],E,.inl E⟩
   refine bK h27 fun z55 hz55 h56=>gA 5 E<|eo_o E (Kma hΓ hz55 E E E E E E)<|Klx Z (Klz hΓ (enc:=(eN .i64)) (a:=q26.2) hz55 E E E E E E E E E E (fun _=>E))<|gO 6 E<|Kmb hΓ hz55 E E E E E E E E<|gO 6 E<|bK h56 fun v57 hv57 h58=>?_
   cases h58
   obtain rfl:=hout11 _ rfl
   cases h7
   exact gA 4 E<|oSi hv57▸Kjm hΓ [_] (.inr E) E E E E (.inr ⟨HB.mk E,E⟩)
  cases h60
  obtain rfl:=hout11 _ rfl
  exact⟨_,E,⟨⟨E,tV⟩,[],E,.inl E⟩⟩
 intro a8 ha
 subst ha
 replace h7:=Klk h7
 exact gA 8 E<|oSi h7▸Kjm hΓ [_] (.inr E) E E E E (.inr ⟨HB.mk E,E⟩)
theorem Lkm{k:Nat}{l:List Lcy}{fresh:Int}{node:Str}{r:List Int}(h:Lfk k l fresh node=some r):EC Tryz.prog 96 [.d (Sl Lcn l),I fresh,S node] [] fun g hp'=>g=.sl 0 r.length∧hp'=[rO 3 1 (eN .i64) r]:=by
 unfold Lfk at h
 refine QM Tryz.func96 E Z<|gA 2 E<|Kiw (t:=0) 3 1 E Z<|gO 4 E<|Kiw (t:=0) 3 1 E Z<|gO 10 E<|bK h fun q4 hq4 h5=>Kii 10 E fun hb7=>Kls [(7,.sl 1 q4.length)] [rO 3 1 (eN .i64) ([]:List Int),rO 3 1 (eN .i64) q4] ?_ ?_
 ·refine gA 1 E<|Kjo l hq4 (fun i1 s2=>[(1,I fresh),(2,S node),(7,.sl 1 s2.length),(10,.d (Sl Lcn l)),(11,I (l.length:Int)),(12,I (i1:Int))]) (fun s2=>[rO 3 1 (eN .i64) ([]:List Int),rO 3 1 (eN .i64) s2]) ⟨⟨E,E,E,E,E,E,tV⟩,[],E,.inl E⟩ (fun i1 x3 s2 y11 hx8 hlt hy9=>?_) (?_)
  ·refine gA 6 E<|Kht E (dT (Int.ofNat_lt.2 hlt))<|gA 6 E<|eo_o E (Kij hΓ (enc:=Lcn) (Kic hx8) E E E E E (fun _=>E))<|gO 1 E<|Ksc hΓ E E E Z<|Ksh hΓ E E E E E E E E Z<|Kjh [rO 3 1 (eN .i64) ([]:List Int),rO 3 1 (eN .i64) s2,.box 83 [I x3.At,S x3.Node,S x3.Name,I x3.Value.Kind,I x3.Value.Number,S x3.Value.Words,I x3.Value.Version.1,I x3.Value.Version.2.1,I x3.Value.Version.2.2.1,I x3.Value.Version.2.2.2]] E<|gO 10 E<|jC E hy9 (fun h12=>?_) fun h15=>gA 7 E ?_
   ·refine gA 8 E<|Kit hΓ (enc:=(eN .i64)) [x3.At,wi (x3.At+fresh)] E E E E E E E E E E E E Z<|bK h12 fun y13 hy13 h14=>Kji hΓ (enc:=(eN .i64)) hy13 E E E E E E E E E (fun _=>E) E E E E<|gO 8 E ?_
    cases h14
    exact⟨⟨E,E,E,E,E,Kgv E (Kgu (nLl hlt hb7)),tV⟩,[_],E,.inr ⟨HB.mk E,FB.mk E,Z⟩⟩
   cases h15
   exact⟨⟨E,E,E,E,E,Kgv E (Kgu (nLl hlt hb7)),tV⟩,[_],E,.inr ⟨HB.mk E,FB.mk E,Z⟩⟩
  exact gA 6 E<|Khu E (dF (Int.lt_irrefl _))<|gA 4 E<|⟨⟨E,tV⟩,[],E,.inl E⟩
 exact bK h5 fun y16 hy16 h17=>gA 4 E<|Kiy [1] (.tup []) [rO 3 1 (eN .i64) ([]:List Int),rO 3 1 (eN .i64) y16] C (Lav hy16) E Z E E E E E E E E E E<|gK h17 fun hg19 h18=>Kmc 7 E (of_decide_eq_true hg19).symm<|bK h18 fun y20 hy20 h21=>gO 5 E<|Kiy [1] (.sl 1 y20.length) [rO 3 1 (eN .i64) ([]:List Int),rO 3 1 (eN .i64) y20] C (Lkl hy20) E Z E E E E E E E E E E<|gO 4 E<|Kni 0 [.dead,rO 3 1 (eN .i64) y20] E Z<|Klq 1 0 [rO 3 1 (eN .i64) y20,.dead] E E E E E E<|Kln<|oSi h21▸Kjm hΓ [_] (.inr E) E E E E (.inr ⟨HB.mk E,E⟩)
theorem Lkn{k:Nat}{v_r:Ldb}{c:Lcw}{node:Str}{v_at:Int}{r:Int}(h:Lfl k v_r c node v_at=some r):EC Tryz.prog 97 [.ptr 1 0,.agg [I c.Kind,S c.Name,S c.Op,I c.Value.Kind,I c.Value.Number,S c.Value.Words,I c.Value.Version.1,I c.Value.Version.2.1,I c.Value.Version.2.2.1,I c.Value.Version.2.2.2,.d (.ro c.Kids.n c.Kids.xs)],S node,I v_at] [mOb (kD Lcp) false (eT 83 10 Lcn) v_r.list,.box 240 [I v_r.fresh,.map 0]] fun g hp'=>g=I r∧hp'=[mOb (kD Lcp) false (eT 83 10 Lcn) v_r.list,.box 240 [I v_r.fresh,.map 0]]:=by
 unfold Lfl at h
 exact QN Tryz.func97 E Z<|gA 2 E<|Ksd E E E E Z<|gO 5 E<|Ksc hΓ E E E Z<|Ksh hΓ E E E E E E E E Z<|Kjh [mOb (kD Lcp) false (eT 83 10 Lcn) v_r.list,.box 240 [I v_r.fresh,.map 0],.box 32 [I c.Kind,S c.Name,S c.Op,I c.Value.Kind,I c.Value.Number,S c.Value.Words,I c.Value.Version.1,I c.Value.Version.2.1,I c.Value.Version.2.2.1,I c.Value.Version.2.2.2,.d (.ro c.Kids.n c.Kids.xs)],.box 3 [I 0]] E<|bK h fun y1 hy1 h2=>gO 8 E<|Kiy [0,1,3] (.agg [I y1.1.is,.d (Sl (eN .i64) y1.1.proof)]) [mOb (kD Lcp) false (eT 83 10 Lcn) v_r.list,.box 240 [I v_r.fresh,.map 0],.box 32 [I c.Kind,S c.Name,S c.Op,I c.Value.Kind,I c.Value.Number,S c.Value.Words,I c.Value.Version.1,I c.Value.Version.2.1,I c.Value.Version.2.2.1,I c.Value.Version.2.2.2,.d (.ro c.Kids.n c.Kids.xs)],.box 3 [I y1.2]] C (Lkh hy1) E Z E E E E E E E E E E<|gO 5 E<|oSi h2▸Kjm hΓ [_,_] (.inr E) E E E E (.inr ⟨HB.mk E,E⟩)
theorem Lko{k:Nat}{c:Lcw}{l:List Lcy}{fresh:Int}{node:Str}{w:Lcz}{al:List Bool}{r:Int×Int×(List Bool)}(h:Lfm k c l fresh node w al=some r):EC Tryz.prog 22 [.agg [I c.Kind,S c.Name,S c.Op,I c.Value.Kind,I c.Value.Number,S c.Value.Words,I c.Value.Version.1,I c.Value.Version.2.1,I c.Value.Version.2.2.1,I c.Value.Version.2.2.2,.d (.ro c.Kids.n c.Kids.xs)],.d (Sl Lcn l),I fresh,S node,.agg [I w.From,I w.To]] [.bag al [] []] fun g hp'=>g=.tup [I r.1,I r.2.1]∧hp'=[.bag r.2.2 [] []]:=by
 unfold Lfm at h
 refine QN Tryz.func22 E Z<|gA 2 E<|Ksd E E E E Z<|Ksd E E E E Z<|bK h fun y1 hy1 h2=>gO 8 E<|Kiz C (Ljn hy1) E Z E E E E E<|gO 9 E<|Khs E (fun hb=>?_) (fun hb=>?_)
 ·have h3:=cT h2 hb
  exact gA 9 E<|oSi h3▸Kjm hΓ [_,_] (.inr E) E E E E (.inr ⟨HB.mk E,E⟩)
 have h4:=cF h2 hb
 refine gA 8 E<|Kit hΓ (enc:=eS) [node] E E E E E E E E E E E E Z<|bK h4 fun y5 hy5 h6=>Kiz C (Ljy hy5) E Z E E E E E<|gO 9 E<|Khs E (fun hb=>?_) (fun hb=>?_)
 ·have h7:=cT h6 hb
  exact gA 9 E<|oSi h7▸Kjm hΓ [_,_] (.inr E) E E E E (.inr ⟨HB.mk E,E⟩)
 have h8:=cF h6 hb
 refine bK h8 fun y9 hy9 h10=>gA 9 E<|Kiz C (Liz hy9) E Z E E E E E<|gO 1 E<|Khy 4 [(1,.d (Sl Lcn l)),(2,I fresh),(3,S node),(5,.ptr 1 0),(9,.ptr 2 0),(41,B (y9||(decide ((w.To:Int)>345686400))))] [.bag al [] [],.box 32 [I c.Kind,S c.Name,S c.Op,I c.Value.Kind,I c.Value.Number,S c.Value.Words,I c.Value.Version.1,I c.Value.Version.2.1,I c.Value.Version.2.2.1,I c.Value.Version.2.2.2,.d (.ro c.Kids.n c.Kids.xs)],.box 46 [I w.From,I w.To]] ?_ ?_
 ·refine Kqw E E (fun hb=>?_) (fun hb=>?_)
  ·exact gO 5 E<|⟨⟨E,E,E,E,E,Kgw E (or_t hb),tV⟩,[],E,.inl E⟩
  exact gO 5 E<|⟨⟨E,E,E,E,E,Kgw E (or_f hb),tV⟩,[],E,.inl E⟩
 refine gO 2 E<|jC E h10 (fun h11=>?_) fun h12=>bK h12 fun y13 hy13 h14=>gA 6 E<|Kiy [0] (.ptr 4 0) [.bag y13.2 [] [],.box 32 [I c.Kind,S c.Name,S c.Op,I c.Value.Kind,I c.Value.Number,S c.Value.Words,I c.Value.Version.1,I c.Value.Version.2.1,I c.Value.Version.2.2.1,I c.Value.Version.2.2.2,.d (.ro c.Kids.n c.Kids.xs)],.box 46 [I w.From,I w.To],mOb (kD Lcp) false (eT 83 10 Lcn) y13.1.list,.box 240 [I y13.1.fresh,.map 3]] C (Lka hy13) E Z E E E E E E E E E E<|gO 4 E<|jD<|gA 8 E<|Kkv [.dead,.dead,.box 46 [I w.From,I w.To]] [5] [3,7] [] hmix (by kernel_rfl) (by kernel_rfl) ⟨E,tV⟩ Z<|bK h14 fun y15 hy15 h16=>go_E hΓ 3 E<|ge_h [.bag y13.2 [] [],.box 32 [I c.Kind,S c.Name,S c.Op,I c.Value.Kind,I c.Value.Number,S c.Value.Words,I c.Value.Version.1,I c.Value.Version.2.1,I c.Value.Version.2.2.1,I c.Value.Version.2.2.2,.d (.ro c.Kids.n c.Kids.xs)],.box 46 [I w.From,I w.To],mOb (kD Lcp) false (eT 83 10 Lcn) y13.1.list,.box 240 [I y13.1.fresh,.map 3],rO 3 1 (eN .i64) y15] E E E (Klb ⟨E,tV⟩) (Klg [] (.sl 5 y15.length) [.bag y13.2 [] [],.box 32 [I c.Kind,S c.Name,S c.Op,I c.Value.Kind,I c.Value.Number,S c.Value.Words,I c.Value.Version.1,I c.Value.Version.2.1,I c.Value.Version.2.2.1,I c.Value.Version.2.2.2,.d (.ro c.Kids.n c.Kids.xs)],.box 46 [I w.From,I w.To],mOb (kD Lcp) false (eT 83 10 Lcn) y13.1.list,.box 240 [I y13.1.fresh,.map 3],rO 3 1 (eN .i64) y15] C (Lkm hy15) E E E E E E E E E E)<|go_E hΓ 2 E<|Klh hΓ (enc:=(eN .i64)) [w.To] E E E E E E E E E E E E<|bK h16 fun y17 hy17 h18=>ge_h [.bag y13.2 [] [],.box 32 [I c.Kind,S c.Name,S c.Op,I c.Value.Kind,I c.Value.Number,S c.Value.Words,I c.Value.Version.1,I c.Value.Version.2.1,I c.Value.Version.2.2.1,I c.Value.Version.2.2.2,.d (.ro c.Kids.n c.Kids.xs)],.box 46 [I w.From,I w.To],mOb (kD Lcp) false (eT 83 10 Lcn) y13.1.list,.box 240 [I y13.1.fresh,.map 3],.dead,.dead] E E E (Klb ⟨E,tV⟩) (Kle (Kpn (ds:=y17.flatMap (eN .i64)) 6 (nblt.1 E) (Kko hΓ (enc:=(eN .i64)) (id:=5) (h2:=show Γ 3=some ⟨_,1,_,_⟩ from E) hy17 E E E E E E E E (fun _=>E) E) E E E))<|go_E hΓ 2 E<|Kkw<|gA 1 E<|bK h18 fun q22 hq22 h23=>Kii 54 E fun hb25=>Kls [(15,I q22.1)] [.bag y13.2 [] [],.box 32 [I c.Kind,S c.Name,S c.Op,I c.Value.Kind,I c.Value.Number,S c.Value.Words,I c.Value.Version.1,I c.Value.Version.2.1,I c.Value.Version.2.2.1,I c.Value.Version.2.2.2,.d (.ro c.Kids.n c.Kids.xs)],.box 46 [I w.From,I w.To],mOb (kD Lcp) false (eT 83 10 Lcn) y13.1.list,.box 240 [I y13.1.fresh,.map 3],.dead,.dead] ?_ ?_
 ·exact gA 8 E<|oSi h11▸Kjm hΓ [_,_] (.inr E) E E E E (.inr ⟨HB.mk E,E⟩)
 ·refine gA 1 E<|Kjo y17 hq22 (fun i19 s20=>[(3,S node),(5,.ptr 1 0),(9,.ptr 2 0),(14,.ptr 4 0),(15,I s20.1),(16,I s20.2),(54,.d (Sl (eN .i64) y17)),(55,I (y17.length:Int)),(56,I (i19:Int))]) (fun s20=>[.bag y13.2 [] [],.box 32 [I c.Kind,S c.Name,S c.Op,I c.Value.Kind,I c.Value.Number,S c.Value.Words,I c.Value.Version.1,I c.Value.Version.2.1,I c.Value.Version.2.2.1,I c.Value.Version.2.2.2,.d (.ro c.Kids.n c.Kids.xs)],.box 46 [I w.From,I w.To],mOb (kD Lcp) false (eT 83 10 Lcn) y13.1.list,.box 240 [I y13.1.fresh,.map 3],.dead,.dead]) ⟨⟨E,E,E,E,E,E,E,E,E,tV⟩,[],E,.inl E⟩ (fun i19 x21 s20 y29 hx26 hlt hy27=>?_) (?_)
  ·refine gA 6 E<|Kht E (dT (Int.ofNat_lt.2 hlt))<|gA 6 E<|eo_o E (Kij hΓ (enc:=(eN .i64)) (Kic hx26) E E E E E (fun _=>E))<|gO 21 E<|jC E hy27 (fun h30=>?_) fun h31=>bK h31 fun y32 hy32 h33=>gA 9 E<|Kiy [3,4] (I y32) [.bag y13.2 [] [],.box 32 [I c.Kind,S c.Name,S c.Op,I c.Value.Kind,I c.Value.Number,S c.Value.Words,I c.Value.Version.1,I c.Value.Version.2.1,I c.Value.Version.2.2.1,I c.Value.Version.2.2.2,.d (.ro c.Kids.n c.Kids.xs)],.box 46 [I w.From,I w.To],mOb (kD Lcp) false (eT 83 10 Lcn) y13.1.list,.box 240 [I y13.1.fresh,.map 3],.dead,.dead] C (Lkn hy32) E Z E E E E E E E E E E<|bK h33 fun q34 hq34 h35=>gO 3 E<|Kls [(3,S node),(5,.ptr 1 0),(9,.ptr 2 0),(14,.ptr 4 0),(15,I q34),(18,I (if w.To<x21 then w.To else x21)),(54,.d (Sl (eN .i64) y17)),(55,I (y17.length:Int)),(56,I (i19:Int))] [.bag y13.2 [] [],.box 32 [I c.Kind,S c.Name,S c.Op,I c.Value.Kind,I c.Value.Number,S c.Value.Words,I c.Value.Version.1,I c.Value.Version.2.1,I c.Value.Version.2.2.1,I c.Value.Version.2.2.2,.d (.ro c.Kids.n c.Kids.xs)],.box 46 [I w.From,I w.To],mOb (kD Lcp) false (eT 83 10 Lcn) y13.1.list,.box 240 [I y13.1.fresh,.map 3],.dead,.dead] ?_ ?_
   ·refine gA 8 E ?_
    cases h30
    exact⟨⟨E,E,E,E,E,E,E,E,Kgv E (Kgu (nLl hlt hb25)),tV⟩,[],E,.inl E⟩
   ·refine jC E hq34 (fun h36=>?_) fun h37=>gA 1 E<|oSi h37▸⟨⟨E,E,E,E,E,E,E,E,E,tV⟩,[],E,.inl E⟩
    exact gA 8 E<|oSi h36▸⟨⟨E,E,E,E,E,E,E,E,E,tV⟩,[],E,.inl E⟩
   refine gA 11 E ?_
   cases h35
   exact⟨⟨E,E,E,E,E,E,E,E,Kgv E (Kgu (nLl hlt hb25)),tV⟩,[],E,.inl E⟩
  exact gA 6 E<|Khu E (dF (Int.lt_irrefl _))<|gA 4 E<|⟨⟨E,tV⟩,[],E,.inl E⟩
 exact gA 9 E<|oSi h23▸Kjm hΓ [_,_,_,_,_,_] (.inr E) E E E E (.inr ⟨HB.mk E,E⟩)
theorem Lkp{k:Nat}{c:Lcw}{r:Int}(h:Lfn k c=some r):Pure Tryz.prog 98 [.agg [I c.Kind,S c.Name,S c.Op,I c.Value.Kind,I c.Value.Number,S c.Value.Words,I c.Value.Version.1,I c.Value.Version.2.1,I c.Value.Version.2.2.1,I c.Value.Version.2.2.2,.d (.ro c.Kids.n c.Kids.xs)]] (I r):=by
 induction k generalizing c r with
 | zero=>unfold Lfn at h;cases h
 | succ k ih0=>
  have ih:∀ {c:Lcw} {r:Int},Lfn k c=some r→Pure Tryz.prog 98 [.agg [I c.Kind,S c.Name,S c.Op,I c.Value.Kind,I c.Value.Number,S c.Value.Words,I c.Value.Version.1,I c.Value.Version.2.1,I c.Value.Version.2.2.1,I c.Value.Version.2.2.2,.d (.ro c.Kids.n c.Kids.xs)]] (I r):=by intro c r h;first | exact ih0 h | exact ih0 _ _ h
  refine Pure.enter (Fr.of 0 _) Tryz.func98 E (Fr.of_ok _) E E ?_
  refine Khr ?_
  unfold Lfn at h
  refine gA 2 E ?_
  refine Ksd E E E E Z ?_
  obtain⟨q1,hq1,h2⟩:=Khz h
  refine gO 16 E ?_
  refine Kls [(1,.ptr 0 0),(3,I q1)] [.box 32 [I c.Kind,S c.Name,S c.Op,I c.Value.Kind,I c.Value.Number,S c.Value.Words,I c.Value.Version.1,I c.Value.Version.2.1,I c.Value.Version.2.2.1,I c.Value.Version.2.2.2,.d (.ro c.Kids.n c.Kids.xs)]] ?_ ?_
  ·refine Khs E (fun hb=>?_) (fun hb=>?_)
   ·have h3:=cT hq1 hb
    refine gA 3 E ?_
    obtain rfl:=oSi h3
    exact⟨⟨E,E,tV⟩,[],E,.inl E⟩
   have h4:=cF hq1 hb
   refine gA 1 E ?_
   obtain rfl:=oSi h4
   exact⟨⟨E,E,tV⟩,[],E,.inl E⟩
  obtain⟨l5,hl5,h6⟩:=Khz h2
  refine gA 5 E ?_
  refine eo_o E (Knu (Krq hΓ (g:=.d (.ro c.Kids.n c.Kids.xs)) E) (G.Le.unk Lht hl5)) ?_
  refine gO 4 E ?_
  obtain⟨q10,hq10,h11⟩:=Khz h6
  refine Kii 10 E fun hb13=>?_
  refine Kls [(3,I q10)] [.box 32 [I c.Kind,S c.Name,S c.Op,I c.Value.Kind,I c.Value.Number,S c.Value.Words,I c.Value.Version.1,I c.Value.Version.2.1,I c.Value.Version.2.2.1,I c.Value.Version.2.2.2,.d (.ro c.Kids.n c.Kids.xs)]] ?_ ?_
  ·refine gA 1 E ?_
   refine Kjo l5 hq10 (fun i7 s8=>[(3,I s8),(10,.d (Sl Lcx l5)),(11,I (l5.length:Int)),(12,I (i7:Int))]) (fun s8=>[.box 32 [I c.Kind,S c.Name,S c.Op,I c.Value.Kind,I c.Value.Number,S c.Value.Words,I c.Value.Version.1,I c.Value.Version.2.1,I c.Value.Version.2.2.1,I c.Value.Version.2.2.2,.d (.ro c.Kids.n c.Kids.xs)]]) ⟨⟨E,E,E,E,tV⟩,[],E,.inl E⟩ (fun i7 x9 s8 y17 hx14 hlt hy15=>?_) (?_)
   ·refine gA 6 E ?_
    refine Kht E (dT (Int.ofNat_lt.2 hlt)) ?_
    refine gA 6 E ?_
    refine eo_o E (Kij hΓ (enc:=Lcx) (Kic hx14) E E E E E (fun _=>E)) ?_
    refine gO 1 E ?_
    refine Ksc hΓ E E E Z ?_
    refine Ksh hΓ E E E E E E E E Z ?_
    refine Kjh [.box 32 [I c.Kind,S c.Name,S c.Op,I c.Value.Kind,I c.Value.Number,S c.Value.Words,I c.Value.Version.1,I c.Value.Version.2.1,I c.Value.Version.2.2.1,I c.Value.Version.2.2.2,.d (.ro c.Kids.n c.Kids.xs)],.box 32 [I x9.Kind,S x9.Name,S x9.Op,I x9.Value.Kind,I x9.Value.Number,S x9.Value.Words,I x9.Value.Version.1,I x9.Value.Version.2.1,I x9.Value.Version.2.2.1,I x9.Value.Version.2.2.2,.d (.ro x9.Kids.n x9.Kids.xs)]] E ?_
    obtain⟨y18,hy18,h19⟩:=Khz hy15
    refine gO 5 E ?_
    refine Kiz C (ih hy18) E Z E E E E E ?_
    refine gO 9 E ?_
    obtain rfl:=oSi h19
    exact⟨⟨E,E,E,Kgv E (Kgu (nLl hlt hb13)),tV⟩,[_],E,.inr ⟨HB.mk E,FB.mk E,Z⟩⟩
   refine gA 6 E ?_
   refine Khu E (dF (Int.lt_irrefl _)) ?_
   refine gA 4 E ?_
   exact⟨⟨E,tV⟩,[],E,.inl E⟩
  refine gA 8 E ?_
  obtain rfl:=oSi h11
  exact gP E E
theorem Lkq{k:Nat}{c:Lcw}{r:Int}(h:Lfo k c=some r):Pure Tryz.prog 99 [.agg [I c.Kind,S c.Name,S c.Op,I c.Value.Kind,I c.Value.Number,S c.Value.Words,I c.Value.Version.1,I c.Value.Version.2.1,I c.Value.Version.2.2.1,I c.Value.Version.2.2.2,.d (.ro c.Kids.n c.Kids.xs)]] (I r):=by
 induction k generalizing c r with
 | zero=>unfold Lfo at h;cases h
 | succ k ih0=>
  have ih:∀ {c:Lcw} {r:Int},Lfo k c=some r→Pure Tryz.prog 99 [.agg [I c.Kind,S c.Name,S c.Op,I c.Value.Kind,I c.Value.Number,S c.Value.Words,I c.Value.Version.1,I c.Value.Version.2.1,I c.Value.Version.2.2.1,I c.Value.Version.2.2.2,.d (.ro c.Kids.n c.Kids.xs)]] (I r):=by intro c r h;first | exact ih0 h | exact ih0 _ _ h
  refine Pure.enter (Fr.of 0 _) Tryz.func99 E (Fr.of_ok _) E E ?_
  refine Khr ?_
  unfold Lfo at h
  refine gA 2 E ?_
  refine Ksd E E E E Z ?_
  obtain⟨l1,hl1,h2⟩:=Khz h
  refine gO 12 E ?_
  refine eo_o E (Knu (Krq hΓ (g:=.d (.ro c.Kids.n c.Kids.xs)) E) (G.Le.unk Lht hl1)) ?_
  refine gO 4 E ?_
  obtain⟨q6,hq6,h7⟩:=Khz h2
  refine Kii 7 E fun hb9=>?_
  refine Kls [(3,I q6)] [.box 32 [I c.Kind,S c.Name,S c.Op,I c.Value.Kind,I c.Value.Number,S c.Value.Words,I c.Value.Version.1,I c.Value.Version.2.1,I c.Value.Version.2.2.1,I c.Value.Version.2.2.2,.d (.ro c.Kids.n c.Kids.xs)]] ?_ ?_
  ·refine gA 1 E ?_
   refine Kjo l1 hq6 (fun i3 s4=>[(3,I s4),(7,.d (Sl Lcx l1)),(8,I (l1.length:Int)),(9,I (i3:Int))]) (fun s4=>[.box 32 [I c.Kind,S c.Name,S c.Op,I c.Value.Kind,I c.Value.Number,S c.Value.Words,I c.Value.Version.1,I c.Value.Version.2.1,I c.Value.Version.2.2.1,I c.Value.Version.2.2.2,.d (.ro c.Kids.n c.Kids.xs)]]) ⟨⟨E,E,E,E,tV⟩,[],E,.inl E⟩ (fun i3 x5 s4 y13 hx10 hlt hy11=>?_) (?_)
   ·refine gA 6 E ?_
    refine Kht E (dT (Int.ofNat_lt.2 hlt)) ?_
    refine gA 6 E ?_
    refine eo_o E (Kij hΓ (enc:=Lcx) (Kic hx10) E E E E E (fun _=>E)) ?_
    refine gO 1 E ?_
    refine Ksc hΓ E E E Z ?_
    refine Ksh hΓ E E E E E E E E Z ?_
    refine Kjh [.box 32 [I c.Kind,S c.Name,S c.Op,I c.Value.Kind,I c.Value.Number,S c.Value.Words,I c.Value.Version.1,I c.Value.Version.2.1,I c.Value.Version.2.2.1,I c.Value.Version.2.2.2,.d (.ro c.Kids.n c.Kids.xs)],.box 32 [I x5.Kind,S x5.Name,S x5.Op,I x5.Value.Kind,I x5.Value.Number,S x5.Value.Words,I x5.Value.Version.1,I x5.Value.Version.2.1,I x5.Value.Version.2.2.1,I x5.Value.Version.2.2.2,.d (.ro x5.Kids.n x5.Kids.xs)]] E ?_
    obtain⟨y14,hy14,h15⟩:=Khz hy11
    refine gO 5 E ?_
    refine Kiz C (ih hy14) E Z E E E E E ?_
    refine gO 9 E ?_
    obtain rfl:=oSi h15
    exact⟨⟨E,E,E,Kgv E (Kgu (nLl hlt hb9)),tV⟩,[_],E,.inr ⟨HB.mk E,FB.mk E,Z⟩⟩
   refine gA 6 E ?_
   refine Khu E (dF (Int.lt_irrefl _)) ?_
   refine gA 4 E ?_
   exact⟨⟨E,tV⟩,[],E,.inl E⟩
  refine gA 9 E ?_
  obtain rfl:=oSi h7
  exact gP E E
theorem Lkr{n:Int}{low:Int}{high:Int}{r:Bool}(h:Lfp n low high=some r):Pure Tryz.prog 104 [I n,I low,I high] (B r):=by
 unfold Lfp at h
 refine QP Tryz.func104 E E E<|gA 11 E<|Khy 4 [(6,B false),(14,B ((decide ((low:Int)≤n))&&(decide ((n:Int)≤high))))] [] ?_ ?_
 ·refine Kqw E E (fun hb=>?_) (fun hb=>?_)
  ·exact gO 5 E<|⟨⟨E,Kgw E (Kjs hb),tV⟩,[],E,.inl E⟩
  exact gO 5 E<|⟨⟨E,Kgw E (Kjt hb),tV⟩,[],E,.inl E⟩
 exact gO 4 E<|oSi h▸gP E E
theorem Lks{v_k:Lcw}{x:Lcw}{r:Bool}(h:Lfq v_k x=some r):EC Tryz.prog 234 [.agg [I v_k.Kind,S v_k.Name,S v_k.Op,I v_k.Value.Kind,I v_k.Value.Number,S v_k.Value.Words,I v_k.Value.Version.1,I v_k.Value.Version.2.1,I v_k.Value.Version.2.2.1,I v_k.Value.Version.2.2.2,.d (.ro v_k.Kids.n v_k.Kids.xs)],.ptr 0 0] [.box 32 [I x.Kind,S x.Name,S x.Op,I x.Value.Kind,I x.Value.Number,S x.Value.Words,I x.Value.Version.1,I x.Value.Version.2.1,I x.Value.Version.2.2.1,I x.Value.Version.2.2.2,.d (.ro x.Kids.n x.Kids.xs)]] fun g hp'=>g=B r∧hp'=[.box 32 [I x.Kind,S x.Name,S x.Op,I x.Value.Kind,I x.Value.Number,S x.Value.Words,I x.Value.Version.1,I x.Value.Version.2.1,I x.Value.Version.2.2.1,I x.Value.Version.2.2.2,.d (.ro x.Kids.n x.Kids.xs)]]:=by
 unfold Lfq at h
 exact QN Tryz.func234 E Z<|gA 2 E<|Ksd E E E E Z<|gO 14 E<|oSi h▸Kjm hΓ [_] (.inr E) E E E E (.inr ⟨HB.mk E,E⟩)
theorem Lkt{s:List Lcw}{f:Lcw}{r:Int}(h:Lfr s f=some r):EC Tryz.prog 297 [.d (Sl Lcx s),.fn (.func 234) [] [.ptr 0 0]] [.box 32 [I f.Kind,S f.Name,S f.Op,I f.Value.Kind,I f.Value.Number,S f.Value.Words,I f.Value.Version.1,I f.Value.Version.2.1,I f.Value.Version.2.2.1,I f.Value.Version.2.2.2,.d (.ro f.Kids.n f.Kids.xs)]] fun g hp'=>g=I r∧hp'=[.box 32 [I f.Kind,S f.Name,S f.Op,I f.Value.Kind,I f.Value.Number,S f.Value.Words,I f.Value.Version.1,I f.Value.Version.2.1,I f.Value.Version.2.2.1,I f.Value.Version.2.2.2,.d (.ro f.Kids.n f.Kids.xs)]]:=by
 unfold Lfr at h
 refine QN Tryz.func297 E Z<|gA 13 E<|bK h fun q4 hq4 h5=>Kii 0 E fun hb7=>Klr (R:=fun a6=>q4=.go a6) (fun a6=>[]) (fun a6=>[.box 32 [I f.Kind,S f.Name,S f.Op,I f.Value.Kind,I f.Value.Number,S f.Value.Words,I f.Value.Version.1,I f.Value.Version.2.1,I f.Value.Version.2.2.1,I f.Value.Version.2.2.2,.d (.ro f.Kids.n f.Kids.xs)]]) ?_ ?_
 ·refine gA 1 E<|Kih s hq4 (fun i1 s2=>[(0,.d (Sl Lcx s)),(1,.fn (.func 234) [] [.ptr 0 0]),(7,I (s.length:Int)),(8,I (i1:Int))]) (fun s2=>[.box 32 [I f.Kind,S f.Name,S f.Op,I f.Value.Kind,I f.Value.Number,S f.Value.Words,I f.Value.Version.1,I f.Value.Version.2.1,I f.Value.Version.2.2.1,I f.Value.Version.2.2.2,.d (.ro f.Kids.n f.Kids.xs)]]) ⟨⟨E,E,E,E,tV⟩,[],E,.inl E⟩ (fun i1 x3 s2 y11 hx8 hlt hy9 hout10=>?_) (fun s2 hgo=>?_)
  ·refine gA 6 E<|Kht E (dT (Int.ofNat_lt.2 hlt))<|gA 15 E<|eo_o E (Kij hΓ (enc:=Lcx) (Kic hx8) E E E E E (fun _=>E))<|bK hy9 fun y12 hy12 h13=>gO 1 E<|Kiy [0] (B y12) [.box 32 [I f.Kind,S f.Name,S f.Op,I f.Value.Kind,I f.Value.Number,S f.Value.Words,I f.Value.Version.1,I f.Value.Version.2.1,I f.Value.Version.2.2.1,I f.Value.Version.2.2.2,.d (.ro f.Kids.n f.Kids.xs)]] C (Lks hy12) E Z E E E E E E E E E E<|gO 2 E<|jC E h13 (fun h14=>?_) fun h17=>gA 7 E ?_
   ·refine gA 9 E<|bK h14 fun v15 hv15 h16=>?_
    cases h16
    obtain rfl:=hout10 _ rfl
    cases h5
    exact gA 4 E<|oSi hv15▸Kjm hΓ [] (.inr E) E E E E (.inl E)
   cases h17
   exact⟨_,E,⟨⟨E,E,E,Kgv E (Kgu (nLl hlt hb7)),tV⟩,[],E,.inl E⟩⟩
  subst hgo
  exact gA 6 E<|Khu E (dF (Int.lt_irrefl _))<|gA 4 E<|⟨_,E,⟨tV,[],E,.inl E⟩⟩
 intro a6 ha
 subst ha
 replace h5:=Kll h5
 exact gA 7 E<|oSi h5▸Kjm hΓ [] (.inr E) E E E E (.inl E)
theorem Lku{s:List Lcw}{f:Lcw}{r:Bool}(h:Lfs s f=some r):EC Tryz.prog 233 [.d (Sl Lcx s),.fn (.func 234) [] [.ptr 0 0]] [.box 32 [I f.Kind,S f.Name,S f.Op,I f.Value.Kind,I f.Value.Number,S f.Value.Words,I f.Value.Version.1,I f.Value.Version.2.1,I f.Value.Version.2.2.1,I f.Value.Version.2.2.2,.d (.ro f.Kids.n f.Kids.xs)]] fun g hp'=>g=B r∧hp'=[.box 32 [I f.Kind,S f.Name,S f.Op,I f.Value.Kind,I f.Value.Number,S f.Value.Words,I f.Value.Version.1,I f.Value.Version.2.1,I f.Value.Version.2.2.1,I f.Value.Version.2.2.2,.d (.ro f.Kids.n f.Kids.xs)]]:=by
 unfold Lfs at h
 exact QN Tryz.func233 E Z<|bK h fun y1 hy1 h2=>gA 9 E<|Kiy [0] (I y1) [.box 32 [I f.Kind,S f.Name,S f.Op,I f.Value.Kind,I f.Value.Number,S f.Value.Words,I f.Value.Version.1,I f.Value.Version.2.1,I f.Value.Version.2.2.1,I f.Value.Version.2.2.2,.d (.ro f.Kids.n f.Kids.xs)]] C (Lkt hy1) E Z E E E E E E E E E E<|gO 5 E<|oSi h2▸Kjm hΓ [] (.inr E) E E E E (.inl E)
theorem Lkv{n:Int}{low:Int}{high:Int}{r:Bool}(h:Lft n low high=some r):Pure Tryz.prog 182 [I n,I low,I high] (B r):=by
 unfold Lft at h
 refine QP Tryz.func182 E E E<|gA 11 E<|Khy 4 [(6,B false),(14,B ((decide ((low:Int)≤n))&&(decide ((n:Int)≤high))))] [] ?_ ?_
 ·refine Kqw E E (fun hb=>?_) (fun hb=>?_)
  ·exact gO 5 E<|⟨⟨E,Kgw E (Kjs hb),tV⟩,[],E,.inl E⟩
  exact gO 5 E<|⟨⟨E,Kgw E (Kjt hb),tV⟩,[],E,.inl E⟩
 exact gO 4 E<|oSi h▸gP E E
theorem Lkw{s:Str}{v_some:Str}{r:Bool}(h:Lfu s v_some=some r):Pure Tryz.prog 183 [S s,S v_some] (B r):=by
 unfold Lfu at h
 exact QP Tryz.func183 E E E<|bK h fun y1 hy1 h2=>gA 9 E<|Kiz C (Lao hy1) E Z E E E E E<|gO 5 E<|oSi h2▸gP E E
theorem Lkx{s:Str}{r:Bool}(h:Lfv s=some r):Pure Tryz.prog 102 [S s] (B r):=by
 unfold Lfv at h
 refine QP Tryz.func102 E E E<|bK h fun y1 hy1 h2=>gA 9 E<|Kiz C (Lkv hy1) E Z E E E E E<|gO 1 E<|bK h2 fun q3 hq3 h4=>Khy 4 [(0,S s),(2,B false),(10,B q3)] [] ?_ ?_
 ·refine Kqw E E (fun hb=>?_) (fun hb=>?_)
  ·have h5:=cT hq3 hb
   exact bK h5 fun z6 hz6 h7=>gO 1 E<|Kqu E<|eo_o E (Kim hΓ hz6 E E E E E)<|bK h7 fun y8 hy8 h9=>Kqu E<|Kiz C (Lkw hy8) E Z E E E E E<|gO 2 E<|oSi h9▸⟨⟨E,E,E,tV⟩,[],E,.inl E⟩
  have h10:=cF hq3 hb
  exact gO 5 E<|oSi h10▸⟨⟨E,E,E,tV⟩,[],E,.inl E⟩
 refine gO 1 E<|bK h4 fun q11 hq11 h12=>Khy 3 [(2,B false),(14,B q11)] [] ?_ ?_
 ·refine Kqw E E (fun hb=>?_) (fun hb=>?_)
  ·have h13:=cT hq11 hb
   exact bK h13 fun y14 hy14 h15=>gO 1 E<|Kqu E<|Kiz C (Lkw hy14) E Z E E E E E<|gO 2 E<|oSi h15▸⟨⟨E,E,tV⟩,[],E,.inl E⟩
  have h16:=cF hq11 hb
  exact gO 4 E<|oSi h16▸⟨⟨E,E,tV⟩,[],E,.inl E⟩
 exact gO 4 E<|oSi h12▸gP E E
theorem Lky{s:Str}{r:Bool}(h:Lfw s=some r):Pure Tryz.prog 235 [S s] (B r):=by
 unfold Lfw at h
 refine QP Tryz.func235 E E E<|bK h fun y1 hy1 h2=>gA 8 E<|Kiz C (Lkx hy1) E Z E E E E E<|gO 1 E<|Khy 3 [(0,S s),(2,B false),(8,B (y1&&(!((s:Str)==[116,114,117,101]))))] [] ?_ ?_
 ·refine Kqw E E (fun hb=>?_) (fun hb=>?_)
  ·exact gO 4 E<|⟨⟨E,E,Kgw E (Kjs hb),tV⟩,[],E,.inl E⟩
  exact gO 4 E<|⟨⟨E,E,Kgw E (Kjt hb),tV⟩,[],E,.inl E⟩
 refine gO 1 E<|Khy 3 [(0,S s),(2,B false),(12,B ((y1&&(!((s:Str)==[116,114,117,101])))&&(!((s:Str)==[102,97,108,115,101]))))] [] ?_ ?_
 ·refine Kqw E E (fun hb=>?_) (fun hb=>?_)
  ·exact gO 4 E<|⟨⟨E,E,Kgw E (Kjs hb),tV⟩,[],E,.inl E⟩
  exact gO 4 E<|⟨⟨E,E,Kgw E (Kjt hb),tV⟩,[],E,.inl E⟩
 refine gO 1 E<|bK h2 fun q3 hq3 h4=>Khy 20 [(2,B false),(33,B q3)] [] ?_ ?_
 ·refine Kqw E E (fun hb=>?_) (fun hb=>?_)
  ·have h5:=cT hq3 hb
   refine bK h5 fun c6 hc6 h7=>gO 1 E<|Kqu E<|eo_o E (Kik hΓ hc6 E E E E)<|gO 2 E<|Khy 4 [(0,S s),(2,B false),(13,B true),(21,B ((((c6.toNat:Int):Int)==118)&&(decide (((s.length:Int):Int)>1))))] [] ?_ ?_
   ·refine Kqw E E (fun hb=>?_) (fun hb=>?_)
    ·exact gO 5 E<|⟨⟨E,E,E,Kgw E (Kjs hb),tV⟩,[],E,.inl E⟩
    exact gO 5 E<|⟨⟨E,E,E,Kgw E (Kjt hb),tV⟩,[],E,.inl E⟩
   refine gO 1 E<|bK h7 fun q8 hq8 h9=>Khy 4 [(0,S s),(2,B false),(13,B true),(26,B q8)] [] ?_ ?_
   ·refine Kqw E E (fun hb=>?_) (fun hb=>?_)
    ·have h10:=cT hq8 hb
     exact bK h10 fun c11 hc11 h12=>gO 1 E<|Kqu E<|eo_o E (Kik hΓ hc11 E E E E)<|gO 3 E<|oSi h12▸⟨⟨E,E,E,E,tV⟩,[],E,.inl E⟩
    have h13:=cF hq8 hb
    exact gO 5 E<|oSi h13▸⟨⟨E,E,E,E,tV⟩,[],E,.inl E⟩
   refine gO 1 E<|bK h9 fun q14 hq14 h15=>Khy 4 [(2,B false),(13,B true),(31,B q14)] [] ?_ ?_
   ·refine Kqw E E (fun hb=>?_) (fun hb=>?_)
    ·have h16:=cT hq14 hb
     exact bK h16 fun c17 hc17 h18=>gO 1 E<|Kqu E<|eo_o E (Kik hΓ hc17 E E E E)<|gO 3 E<|oSi h18▸⟨⟨E,E,E,tV⟩,[],E,.inl E⟩
    have h19:=cF hq14 hb
    exact gO 5 E<|oSi h19▸⟨⟨E,E,E,tV⟩,[],E,.inl E⟩
   exact gO 3 E<|oSi h15▸⟨⟨E,E,tV⟩,[],E,.inl E⟩
  have h20:=cF hq3 hb
  exact gO 21 E<|oSi h20▸⟨⟨E,E,tV⟩,[],E,.inl E⟩
 exact gO 4 E<|oSi h4▸gP E E
theorem Lkz{k:Nat}{a:Lcv}{r:Int}(h:Lfx k a=some r):Pure Tryz.prog 52 [.agg [I a.Kind,I a.Number,S a.Words,I a.Version.1,I a.Version.2.1,I a.Version.2.2.1,I a.Version.2.2.2]] (I r):=by
 unfold Lfx at h
 refine QP Tryz.func52 E E E<|gA 2 E<|Ksd E E E E Z<|bK h fun y1 hy1 h2=>gO 9 E<|Kiz C (Lkr hy1) E Z E E E E E<|gO 4 E<|Khs E (fun hb=>?_) (fun hb=>?_)
 ·have h3:=cT h2 hb
  exact gA 8 E<|oSi h3▸gP E E
 have h4:=cF h2 hb
 refine gA 6 E<|bK h4 fun q5 hq5 h6=>Khy 5 [(1,.ptr 0 0),(20,B q5)] [.box 29 [I a.Kind,I a.Number,S a.Words,I a.Version.1,I a.Version.2.1,I a.Version.2.2.1,I a.Version.2.2.2]] ?_ ?_
 ·refine Kqw E E (fun hb=>?_) (fun hb=>?_)
  ·have h7:=cT hq5 hb
   exact bK h7 fun y8 hy8 h9=>gO 2 E<|Kqu E<|Kiz C (Lkr hy8) E Z E E E E E<|gO 3 E<|oSi h9▸⟨⟨E,E,tV⟩,[],E,.inl E⟩
  have h10:=cF hq5 hb
  exact gO 6 E<|oSi h10▸⟨⟨E,E,tV⟩,[],E,.inl E⟩
 refine gO 1 E<|bK h6 fun q11 hq11 h12=>Khy 10 [(1,.ptr 0 0),(31,B q11)] [.box 29 [I a.Kind,I a.Number,S a.Words,I a.Version.1,I a.Version.2.1,I a.Version.2.2.1,I a.Version.2.2.2]] ?_ ?_
 ·refine Kqw E E (fun hb=>?_) (fun hb=>?_)
  ·have h13:=cT hq11 hb
   exact gO 11 E<|oSi h13▸⟨⟨E,E,tV⟩,[],E,.inl E⟩
  have h14:=cF hq11 hb
  refine gO 4 E<|bK h14 fun q15 hq15 h16=>Khy 5 [(1,.ptr 0 0),(21,B false),(30,B q15)] [.box 29 [I a.Kind,I a.Number,S a.Words,I a.Version.1,I a.Version.2.1,I a.Version.2.2.1,I a.Version.2.2.2]] ?_ ?_
  ·refine Kqw E E (fun hb=>?_) (fun hb=>?_)
   ·have h17:=cT hq15 hb
    exact bK h17 fun y18 hy18 h19=>gO 2 E<|Kqu E<|Kiz C (Lkr hy18) E Z E E E E E<|gO 3 E<|oSi h19▸⟨⟨E,E,E,tV⟩,[],E,.inl E⟩
   have h20:=cF hq15 hb
   exact gO 6 E<|oSi h20▸⟨⟨E,E,E,tV⟩,[],E,.inl E⟩
  exact gO 2 E<|oSi h16▸⟨⟨E,E,tV⟩,[],E,.inl E⟩
 refine gO 3 E<|Khs E (fun hb=>?_) (fun hb=>?_)
 ·have h21:=cT h12 hb
  exact gA 8 E<|oSi h21▸gP E E
 have h22:=cF h12 hb
 refine gA 6 E<|Khy 4 [(1,.ptr 0 0),(40,B (((a.Kind:Int) != 1)&&((a.Kind:Int) != 3)))] [.box 29 [I a.Kind,I a.Number,S a.Words,I a.Version.1,I a.Version.2.1,I a.Version.2.2.1,I a.Version.2.2.2]] ?_ ?_
 ·refine Kqw E E (fun hb=>?_) (fun hb=>?_)
  ·exact gO 5 E<|⟨⟨E,Kgw E (Kjs hb),tV⟩,[],E,.inl E⟩
  exact gO 5 E<|⟨⟨E,Kgw E (Kjt hb),tV⟩,[],E,.inl E⟩
 refine gO 1 E<|Khy 4 [(1,.ptr 0 0),(45,B ((((a.Kind:Int) != 1)&&((a.Kind:Int) != 3))&&((a.Number:Int) != 0)))] [.box 29 [I a.Kind,I a.Number,S a.Words,I a.Version.1,I a.Version.2.1,I a.Version.2.2.1,I a.Version.2.2.2]] ?_ ?_
 ·refine Kqw E E (fun hb=>?_) (fun hb=>?_)
  ·exact gO 5 E<|⟨⟨E,Kgw E (Kjs hb),tV⟩,[],E,.inl E⟩
  exact gO 5 E<|⟨⟨E,Kgw E (Kjt hb),tV⟩,[],E,.inl E⟩
 refine gO 3 E<|Khs E (fun hb=>?_) (fun hb=>?_)
 ·have h23:=cT h22 hb
  exact gA 8 E<|oSi h23▸gP E E
 have h24:=cF h22 hb
 refine gA 6 E<|Khy 4 [(1,.ptr 0 0),(54,B (((a.Kind:Int) != 2)&&(!((a.Words:Str)==[]))))] [.box 29 [I a.Kind,I a.Number,S a.Words,I a.Version.1,I a.Version.2.1,I a.Version.2.2.1,I a.Version.2.2.2]] ?_ ?_
 ·refine Kqw E E (fun hb=>?_) (fun hb=>?_)
  ·exact gO 5 E<|⟨⟨E,Kgw E (Kjs hb),tV⟩,[],E,.inl E⟩
  exact gO 5 E<|⟨⟨E,Kgw E (Kjt hb),tV⟩,[],E,.inl E⟩
 refine gO 1 E<|Khy 5 [(1,.ptr 0 0),(60,B ((((a.Kind:Int) != 2)&&(!((a.Words:Str)==[])))||(decide (((a.Words.length:Int):Int)>100))))] [.box 29 [I a.Kind,I a.Number,S a.Words,I a.Version.1,I a.Version.2.1,I a.Version.2.2.1,I a.Version.2.2.2]] ?_ ?_
 ·refine Kqw E E (fun hb=>?_) (fun hb=>?_)
  ·exact gO 6 E<|⟨⟨E,Kgw E (or_t hb),tV⟩,[],E,.inl E⟩
  exact gO 6 E<|⟨⟨E,Kgw E (or_f hb),tV⟩,[],E,.inl E⟩
 refine gO 3 E<|Khs E (fun hb=>?_) (fun hb=>?_)
 ·have h25:=cT h24 hb
  exact gA 8 E<|oSi h25▸gP E E
 have h26:=cF h24 hb
 refine gA 12 E<|bK h26 fun q30 hq30 h31=>gK hq30 fun hb33 h34=>?_
 replace hb33:=of_decide_eq_true hb33
 refine Klr (R:=fun a32=>q30=.go a32) (fun a32=>[(1,.ptr 0 0)]) (fun a32=>[.box 29 [I a.Kind,I a.Number,S a.Words,I a.Version.1,I a.Version.2.1,I a.Version.2.2.1,I a.Version.2.2.2]]) ?_ ?_
 ·refine gA 1 E<|Kjp h34 (fun i27 s28=>[(1,.ptr 0 0),(63,I (a.Words.length:Int)),(64,I (i27:Int))]) (fun s28=>[.box 29 [I a.Kind,I a.Number,S a.Words,I a.Version.1,I a.Version.2.1,I a.Version.2.2.1,I a.Version.2.2.2]]) ⟨⟨E,E,E,tV⟩,[],E,.inl E⟩ (fun i27 s28 y38 hlt hy36 hout37=>?_) (fun s28 hgo hge=>?_)
  ·refine gA 6 E<|Kht E (dT hlt)<|bK hy36 fun c39 hc39 h40=>gA 15 E<|eo_o E (Kik hΓ hc39 E E E E)<|bK h40 fun y41 hy41 h42=>gO 1 E<|Kiz C (Lkr hy41) E Z E E E E E<|gO 3 E<|jC E h42 (fun h43=>?_) fun h46=>gA 7 E<|oSi h46▸⟨_,E,⟨⟨E,E,Kgv E (Kgu (by omega)),tV⟩,[],E,.inl E⟩⟩
   refine gA 8 E<|bK h43 fun v44 hv44 h45=>?_
   cases h45
   obtain rfl:=hout37 _ rfl
   cases h31
   exact gA 4 E<|oSi hv44▸gP E E
  subst hgo
  exact gA 6 E<|Khu E (dF hge)<|gA 4 E<|⟨_,E,⟨⟨E,tV⟩,[],E,.inl E⟩⟩
 intro a32 ha
 subst ha
 replace h31:=Kll h31
 refine gA 9 E<|bK h31 fun q50 hq50 h51=>Klr (R:=fun a52=>q50=.inl a52) (fun a52=>[(1,.ptr 0 0)]) (fun a52=>[.box 29 [I a.Kind,I a.Number,S a.Words,I a.Version.1,I a.Version.2.1,I a.Version.2.2.1,I a.Version.2.2.2]]) ?_ ?_
 ·refine gA 1 E<|Kif hq50 (fun s48=>[(1,.ptr 0 0),(76,.agg [I a.Version.1,I a.Version.2.1,I a.Version.2.2.1,I a.Version.2.2.2]),(77,I s48)]) (fun s48=>[.box 29 [I a.Kind,I a.Number,S a.Words,I a.Version.1,I a.Version.2.1,I a.Version.2.2.1,I a.Version.2.2.2]]) ⟨⟨E,E,E,tV⟩,[],E,.inl E⟩ (fun s48 y56 hy54 hout55=>?_)
  refine gA 6 E<|jC E hy54 (fun h57=>?_) fun h70=>gA 4 E ?_
  ·refine bK h57 fun x58 hx58 h59=>gA 6 E<|eo_o E (Kmm hΓ (enc:=(eN .i64)) [a.Version.1,a.Version.2.1,a.Version.2.2.1,a.Version.2.2.2] hx58 E E E E E E E (fun _=>E) E)<|gO 9 E<|bK h59 fun q60 hq60 h61=>Khy 4 [(1,.ptr 0 0),(76,.agg [I a.Version.1,I a.Version.2.1,I a.Version.2.2.1,I a.Version.2.2.2]),(77,I s48),(87,B q60)] [.box 29 [I a.Kind,I a.Number,S a.Words,I a.Version.1,I a.Version.2.1,I a.Version.2.2.1,I a.Version.2.2.2]] ?_ ?_
   ·refine Kqw E E (fun hb=>?_) (fun hb=>?_)
    ·have h62:=cT hq60 hb
     exact bK h62 fun y63 hy63 h64=>gO 1 E<|Kqu E<|Kiz C (Lkr hy63) E Z E E E E E<|gO 3 E<|oSi h64▸⟨⟨E,E,E,E,tV⟩,[],E,.inl E⟩
    have h65:=cF hq60 hb
    exact gO 5 E<|oSi h65▸⟨⟨E,E,E,E,tV⟩,[],E,.inl E⟩
   refine gO 2 E<|jC E h61 (fun h66=>?_) fun h69=>gA 7 E<|oSi h69▸⟨_,E,⟨⟨E,E,E,tV⟩,[],E,.inl E⟩⟩
   refine gA 8 E<|bK h66 fun v67 hv67 h68=>?_
   cases h68
   obtain rfl:=hout55 _ rfl
   cases h51
   exact gA 4 E<|oSi hv67▸gP E E
  cases h70
  obtain rfl:=hout55 _ rfl
  exact⟨_,E,⟨⟨E,tV⟩,[],E,.inl E⟩⟩
 intro a52 ha
 subst ha
 replace h51:=Klk h51
 refine gA 8 E<|Khy 5 [(97,B (((a.Kind:Int) != 4)&&(!decide (([a.Version.1,a.Version.2.1,a.Version.2.2.1,a.Version.2.2.2]:List Int)=([0,0,0,0]:List Int)))))] [.box 29 [I a.Kind,I a.Number,S a.Words,I a.Version.1,I a.Version.2.1,I a.Version.2.2.1,I a.Version.2.2.2]] ?_ ?_
 ·refine Kqw E E (fun hb=>?_) (fun hb=>?_)
  ·exact gO 2 E<|Kqu E<|eo_o E (Kmn hΓ (gs:=[I 0,I 0,I 0,I 0]) E E E E E E)<|Kqu E<|eo_o E (Knx hΓ (l1:=([a.Version.1,a.Version.2.1,a.Version.2.2.1,a.Version.2.2.2]:List Int)) (l2:=([0,0,0,0]:List Int)) E E E E E (by kernel_rfl) E E E E E E)<|gO 2 E<|⟨⟨Kgw E (Kjs hb),tV⟩,[],E,.inl E⟩
  exact gO 6 E<|⟨⟨Kgw E (Kjt hb),tV⟩,[],E,.inl E⟩
 refine gO 2 E<|jC E h51 (fun h71=>?_) fun h72=>gA 8 E<|oSi h72▸gP E E
 exact gA 7 E<|oSi h71▸gP E E
theorem Lla{k:Nat}{c:Lcw}{r:Int}(h:Lfy k c=some r):Pure Tryz.prog 181 [.agg [I c.Kind,S c.Name,S c.Op,I c.Value.Kind,I c.Value.Number,S c.Value.Words,I c.Value.Version.1,I c.Value.Version.2.1,I c.Value.Version.2.2.1,I c.Value.Version.2.2.2,.d (.ro c.Kids.n c.Kids.xs)]] (I r):=by
 unfold Lfy at h
 refine QP Tryz.func181 E E E<|gA 2 E<|Ksd E E E E Z<|bK h fun y1 hy1 h2=>gO 17 E<|Kiz C (Lkr hy1) E Z E E E E E<|gO 4 E<|Khs E (fun hb=>?_) (fun hb=>?_)
 ·have h3:=cT h2 hb
  exact gA 8 E<|oSi h3▸gP E E
 have h4:=cF h2 hb
 refine gA 4 E<|bK h4 fun q5 hq5 h6=>Khy 5 [(1,.ptr 0 0),(3,B ((c.Kind:Int)==1)),(20,B q5)] [.box 32 [I c.Kind,S c.Name,S c.Op,I c.Value.Kind,I c.Value.Number,S c.Value.Words,I c.Value.Version.1,I c.Value.Version.2.1,I c.Value.Version.2.2.1,I c.Value.Version.2.2.2,.d (.ro c.Kids.n c.Kids.xs)]] ?_ ?_
 ·refine Kqw E E (fun hb=>?_) (fun hb=>?_)
  ·have h7:=cT hq5 hb
   exact bK h7 fun l8 hl8 h9=>gO 1 E<|Kqu E<|eo_o E (Knu (Krq hΓ (g:=.d (.ro c.Kids.n c.Kids.xs)) E) (G.Le.unk Lht hl8))<|gO 4 E<|oSi h9▸⟨⟨E,E,E,tV⟩,[],E,.inl E⟩
  have h10:=cF hq5 hb
  exact gO 6 E<|oSi h10▸⟨⟨E,E,E,tV⟩,[],E,.inl E⟩
 refine gO 1 E<|bK h6 fun q11 hq11 h12=>Khy 10 [(1,.ptr 0 0),(3,B ((c.Kind:Int)==1)),(31,B q11)] [.box 32 [I c.Kind,S c.Name,S c.Op,I c.Value.Kind,I c.Value.Number,S c.Value.Words,I c.Value.Version.1,I c.Value.Version.2.1,I c.Value.Version.2.2.1,I c.Value.Version.2.2.2,.d (.ro c.Kids.n c.Kids.xs)]] ?_ ?_
 ·refine Kqw E E (fun hb=>?_) (fun hb=>?_)
  ·have h13:=cT hq11 hb
   exact gO 11 E<|oSi h13▸⟨⟨E,E,E,tV⟩,[],E,.inl E⟩
  have h14:=cF hq11 hb
  refine gO 4 E<|bK h14 fun q15 hq15 h16=>Khy 5 [(1,.ptr 0 0),(3,B ((c.Kind:Int)==1)),(21,B false),(30,B q15)] [.box 32 [I c.Kind,S c.Name,S c.Op,I c.Value.Kind,I c.Value.Number,S c.Value.Words,I c.Value.Version.1,I c.Value.Version.2.1,I c.Value.Version.2.2.1,I c.Value.Version.2.2.2,.d (.ro c.Kids.n c.Kids.xs)]] ?_ ?_
  ·refine Kqw E E (fun hb=>?_) (fun hb=>?_)
   ·have h17:=cT hq15 hb
    exact bK h17 fun l18 hl18 h19=>gO 1 E<|Kqu E<|eo_o E (Knu (Krq hΓ (g:=.d (.ro c.Kids.n c.Kids.xs)) E) (G.Le.unk Lht hl18))<|gO 4 E<|oSi h19▸⟨⟨E,E,E,E,tV⟩,[],E,.inl E⟩
   have h20:=cF hq15 hb
   exact gO 6 E<|oSi h20▸⟨⟨E,E,E,E,tV⟩,[],E,.inl E⟩
  exact gO 2 E<|oSi h16▸⟨⟨E,E,E,tV⟩,[],E,.inl E⟩
 refine gO 1 E<|bK h12 fun q21 hq21 h22=>Khy 14 [(1,.ptr 0 0),(3,B ((c.Kind:Int)==1)),(46,B q21)] [.box 32 [I c.Kind,S c.Name,S c.Op,I c.Value.Kind,I c.Value.Number,S c.Value.Words,I c.Value.Version.1,I c.Value.Version.2.1,I c.Value.Version.2.2.1,I c.Value.Version.2.2.2,.d (.ro c.Kids.n c.Kids.xs)]] ?_ ?_
 ·refine Kqw E E (fun hb=>?_) (fun hb=>?_)
  ·have h23:=cT hq21 hb
   exact gO 15 E<|oSi h23▸⟨⟨E,E,E,tV⟩,[],E,.inl E⟩
  have h24:=cF hq21 hb
  refine gO 3 E<|Khy 4 [(1,.ptr 0 0),(3,B ((c.Kind:Int)==1)),(32,B false),(39,B ((!((c.Kind:Int)==1))&&((c.Kind:Int) != 2)))] [.box 32 [I c.Kind,S c.Name,S c.Op,I c.Value.Kind,I c.Value.Number,S c.Value.Words,I c.Value.Version.1,I c.Value.Version.2.1,I c.Value.Version.2.2.1,I c.Value.Version.2.2.2,.d (.ro c.Kids.n c.Kids.xs)]] ?_ ?_
  ·refine Kqw E E (fun hb=>?_) (fun hb=>?_)
   ·exact gO 5 E<|⟨⟨E,E,E,Kgw E (Kjs hb),tV⟩,[],E,.inl E⟩
   exact gO 5 E<|⟨⟨E,E,E,Kgw E (Kjt hb),tV⟩,[],E,.inl E⟩
  refine gO 1 E<|bK h24 fun q25 hq25 h26=>Khy 5 [(1,.ptr 0 0),(3,B ((c.Kind:Int)==1)),(32,B false),(45,B q25)] [.box 32 [I c.Kind,S c.Name,S c.Op,I c.Value.Kind,I c.Value.Number,S c.Value.Words,I c.Value.Version.1,I c.Value.Version.2.1,I c.Value.Version.2.2.1,I c.Value.Version.2.2.2,.d (.ro c.Kids.n c.Kids.xs)]] ?_ ?_
  ·refine Kqw E E (fun hb=>?_) (fun hb=>?_)
   ·have h27:=cT hq25 hb
    exact bK h27 fun l28 hl28 h29=>gO 1 E<|Kqu E<|eo_o E (Knu (Krq hΓ (g:=.d (.ro c.Kids.n c.Kids.xs)) E) (G.Le.unk Lht hl28))<|gO 4 E<|oSi h29▸⟨⟨E,E,E,E,tV⟩,[],E,.inl E⟩
   have h30:=cF hq25 hb
   exact gO 6 E<|oSi h30▸⟨⟨E,E,E,E,tV⟩,[],E,.inl E⟩
  exact gO 2 E<|oSi h26▸⟨⟨E,E,E,tV⟩,[],E,.inl E⟩
 refine gO 3 E<|Khs E (fun hb=>?_) (fun hb=>?_)
 ·have h31:=cT h22 hb
  exact gA 8 E<|oSi h31▸gP E E
 have h32:=cF h22 hb
 refine gA 5 E<|Khy 15 [(1,.ptr 0 0),(3,B ((c.Kind:Int)==1)),(65,B ((!((c.Kind:Int)==1))&&(((!((c.Name:Str)==[]))||(!((c.Op:Str)==[])))||(!(((c.Value.Kind:Int)==0)&&(((c.Value.Number:Int)==0)&&(((c.Value.Words:Str)==[])&&(decide (([c.Value.Version.1,c.Value.Version.2.1,c.Value.Version.2.2.1,c.Value.Version.2.2.2]:List Int)=[0,0,0,0])&&true))))))))] [.box 32 [I c.Kind,S c.Name,S c.Op,I c.Value.Kind,I c.Value.Number,S c.Value.Words,I c.Value.Version.1,I c.Value.Version.2.1,I c.Value.Version.2.2.1,I c.Value.Version.2.2.2,.d (.ro c.Kids.n c.Kids.xs)]] ?_ ?_
 ·refine Kqw E E (fun hb=>?_) (fun hb=>?_)
  ·refine gO 4 E<|Khy 4 [(1,.ptr 0 0),(3,B ((c.Kind:Int)==1)),(50,B true),(58,B ((!((c.Name:Str)==[]))||(!((c.Op:Str)==[]))))] [.box 32 [I c.Kind,S c.Name,S c.Op,I c.Value.Kind,I c.Value.Number,S c.Value.Words,I c.Value.Version.1,I c.Value.Version.2.1,I c.Value.Version.2.2.1,I c.Value.Version.2.2.2,.d (.ro c.Kids.n c.Kids.xs)]] ?_ ?_
   ·refine Kqw E E (fun hb=>?_) (fun hb=>?_)
    ·exact gO 5 E<|⟨⟨E,E,E,Kgw E (or_t hb),tV⟩,[],E,.inl E⟩
    exact gO 5 E<|⟨⟨E,E,E,Kgw E (or_f hb),tV⟩,[],E,.inl E⟩
   refine gO 1 E<|Khy 5 [(1,.ptr 0 0),(3,B ((c.Kind:Int)==1)),(50,B true),(64,B (((!((c.Name:Str)==[]))||(!((c.Op:Str)==[])))||(!(((c.Value.Kind:Int)==0)&&(((c.Value.Number:Int)==0)&&(((c.Value.Words:Str)==[])&&(decide (([c.Value.Version.1,c.Value.Version.2.1,c.Value.Version.2.2.1,c.Value.Version.2.2.2]:List Int)=[0,0,0,0])&&true)))))))] [.box 32 [I c.Kind,S c.Name,S c.Op,I c.Value.Kind,I c.Value.Number,S c.Value.Words,I c.Value.Version.1,I c.Value.Version.2.1,I c.Value.Version.2.2.1,I c.Value.Version.2.2.2,.d (.ro c.Kids.n c.Kids.xs)]] ?_ ?_
   ·refine Kqw E E (fun hb=>?_) (fun hb=>?_)
    ·exact gO 6 E<|⟨⟨E,E,E,Kgw E (or_t hb),tV⟩,[],E,.inl E⟩
    exact gO 2 E<|Kqu E<|Kfq hΓ (gs:=[I 0,I 0,S [],I 0,I 0,I 0,I 0]) E E E E E E E<|Kqu E<|eo_o E (Kpi hΓ [29] (b:=(((c.Value.Kind:Int)==0)&&(((c.Value.Number:Int)==0)&&(((c.Value.Words:Str)==[])&&(decide (([c.Value.Version.1,c.Value.Version.2.1,c.Value.Version.2.2.1,c.Value.Version.2.2.2]:List Int)=[0,0,0,0])&&true))))) (by kernel_rfl) (by kernel_rfl) E E E)<|gO 2 E<|⟨⟨E,E,E,Kgw E (or_f hb),tV⟩,[],E,.inl E⟩
   exact gO 2 E<|⟨⟨E,E,Kgw E (Kjs hb),tV⟩,[],E,.inl E⟩
  exact gO 16 E<|⟨⟨E,E,Kgw E (Kjt hb),tV⟩,[],E,.inl E⟩
 refine gO 3 E<|Khs E (fun hb=>?_) (fun hb=>?_)
 ·have h33:=cT h32 hb
  exact gA 8 E<|oSi h33▸gP E E
 have h34:=cF h32 hb
 refine gA 6 E<|Khy 4 [(1,.ptr 0 0),(3,B ((c.Kind:Int)==1)),(74,B (((c.Kind:Int)==3)||((c.Kind:Int)==4)))] [.box 32 [I c.Kind,S c.Name,S c.Op,I c.Value.Kind,I c.Value.Number,S c.Value.Words,I c.Value.Version.1,I c.Value.Version.2.1,I c.Value.Version.2.2.1,I c.Value.Version.2.2.2,.d (.ro c.Kids.n c.Kids.xs)]] ?_ ?_
 ·refine Kqw E E (fun hb=>?_) (fun hb=>?_)
  ·exact gO 5 E<|⟨⟨E,E,Kgw E (or_t hb),tV⟩,[],E,.inl E⟩
  exact gO 5 E<|⟨⟨E,E,Kgw E (or_f hb),tV⟩,[],E,.inl E⟩
 refine gO 1 E<|bK h34 fun q35 hq35 h36=>Khy 5 [(1,.ptr 0 0),(3,B ((c.Kind:Int)==1)),(80,B q35)] [.box 32 [I c.Kind,S c.Name,S c.Op,I c.Value.Kind,I c.Value.Number,S c.Value.Words,I c.Value.Version.1,I c.Value.Version.2.1,I c.Value.Version.2.2.1,I c.Value.Version.2.2.2,.d (.ro c.Kids.n c.Kids.xs)]] ?_ ?_
 ·refine Kqw E E (fun hb=>?_) (fun hb=>?_)
  ·have h37:=cT hq35 hb
   exact bK h37 fun l38 hl38 h39=>gO 1 E<|Kqu E<|eo_o E (Knu (Krq hΓ (g:=.d (.ro c.Kids.n c.Kids.xs)) E) (G.Le.unk Lht hl38))<|bK h39 fun y40 hy40 h41=>gO 1 E<|Kqu E<|Kiy [0] (B y40) [.box 32 [I c.Kind,S c.Name,S c.Op,I c.Value.Kind,I c.Value.Number,S c.Value.Words,I c.Value.Version.1,I c.Value.Version.2.1,I c.Value.Version.2.2.1,I c.Value.Version.2.2.2,.d (.ro c.Kids.n c.Kids.xs)]] C (Lku hy40) E Z E E E E E E E E E E<|gO 2 E<|oSi h41▸⟨⟨E,E,E,tV⟩,[],E,.inl E⟩
  have h42:=cF hq35 hb
  exact gO 6 E<|oSi h42▸⟨⟨E,E,E,tV⟩,[],E,.inl E⟩
 refine gO 3 E<|Khs E (fun hb=>?_) (fun hb=>?_)
 ·have h43:=cT h36 hb
  exact gA 8 E<|oSi h43▸gP E E
 have h44:=cF h36 hb
 refine gA 7 E<|Khs E (fun hb=>?_) (fun hb=>?_)
 ·have h45:=cT h44 hb
  exact gA 8 E<|oSi h45▸gP E E
 have h46:=cF h44 hb
 refine bK h46 fun y47 hy47 h48=>gA 4 E<|Kiz C (Lky hy47) E Z E E E E E<|gO 4 E<|Khs E (fun hb=>?_) (fun hb=>?_)
 ·have h49:=cT h48 hb
  exact gA 8 E<|oSi h49▸gP E E
 have h50:=cF h48 hb
 refine gA 1 E<|jD<|bK h50 fun y51 hy51 h52=>Kja C (Lin hy51) E E E E E E<|bK h52 fun y53 hy53 h54=>Khq hΓ 2 E<|Kja C (Lji hy53) E E E E E E<|Khq hΓ 4 E<|Khs E (fun hb=>?_) (fun hb=>?_)
 ·have h55:=cT h54 hb
  exact gA 8 E<|oSi h55▸gP E E
 have h56:=cF h54 hb
 refine bK h56 fun y57 hy57 h58=>gA 8 E<|Kiz C (Lkz hy57) E Z E E E E E<|gO 9 E<|Khs E (fun hb=>?_) (fun hb=>?_)
 ·have h59:=cT h58 hb
  exact gA 8 E<|oSi h59▸gP E E
 have h60:=cF h58 hb
 refine gA 10 E<|Khy 4 [(1,.ptr 0 0),(109,B (((c.Value.Kind:Int)==3)&&(!((c.Op:Str)==[61,61]))))] [.box 32 [I c.Kind,S c.Name,S c.Op,I c.Value.Kind,I c.Value.Number,S c.Value.Words,I c.Value.Version.1,I c.Value.Version.2.1,I c.Value.Version.2.2.1,I c.Value.Version.2.2.2,.d (.ro c.Kids.n c.Kids.xs)]] ?_ ?_
 ·refine Kqw E E (fun hb=>?_) (fun hb=>?_)
  ·exact gO 5 E<|⟨⟨E,Kgw E (Kjs hb),tV⟩,[],E,.inl E⟩
  exact gO 5 E<|⟨⟨E,Kgw E (Kjt hb),tV⟩,[],E,.inl E⟩
 refine gO 1 E<|Khy 4 [(114,B ((((c.Value.Kind:Int)==3)&&(!((c.Op:Str)==[61,61])))&&(!((c.Op:Str)==[33,61]))))] [.box 32 [I c.Kind,S c.Name,S c.Op,I c.Value.Kind,I c.Value.Number,S c.Value.Words,I c.Value.Version.1,I c.Value.Version.2.1,I c.Value.Version.2.2.1,I c.Value.Version.2.2.2,.d (.ro c.Kids.n c.Kids.xs)]] ?_ ?_
 ·refine Kqw E E (fun hb=>?_) (fun hb=>?_)
  ·exact gO 5 E<|⟨⟨Kgw E (Kjs hb),tV⟩,[],E,.inl E⟩
  exact gO 5 E<|⟨⟨Kgw E (Kjt hb),tV⟩,[],E,.inl E⟩
 refine gO 2 E<|jC E h60 (fun h61=>?_) fun h62=>gA 8 E<|oSi h62▸gP E E
 exact gA 7 E<|oSi h61▸gP E E
theorem Llb{k:Nat}{c:Lcw}{r:Int}(h:Lfz k c=some r):Pure Tryz.prog 100 [.agg [I c.Kind,S c.Name,S c.Op,I c.Value.Kind,I c.Value.Number,S c.Value.Words,I c.Value.Version.1,I c.Value.Version.2.1,I c.Value.Version.2.2.1,I c.Value.Version.2.2.2,.d (.ro c.Kids.n c.Kids.xs)]] (I r):=by
 induction k generalizing c r with
 | zero=>unfold Lfz at h;cases h
 | succ k ih0=>
  have ih:∀ {c:Lcw} {r:Int},Lfz k c=some r→Pure Tryz.prog 100 [.agg [I c.Kind,S c.Name,S c.Op,I c.Value.Kind,I c.Value.Number,S c.Value.Words,I c.Value.Version.1,I c.Value.Version.2.1,I c.Value.Version.2.2.1,I c.Value.Version.2.2.2,.d (.ro c.Kids.n c.Kids.xs)]] (I r):=by intro c r h;first | exact ih0 h | exact ih0 _ _ h
  refine Pure.enter (Fr.of 0 _) Tryz.func100 E (Fr.of_ok _) E E ?_
  refine Khr ?_
  unfold Lfz at h
  refine gA 2 E ?_
  refine Ksd E E E E Z ?_
  obtain⟨y1,hy1,h2⟩:=Khz h
  refine gO 7 E ?_
  refine Kiz C (Lla hy1) E Z E E E E E ?_
  refine gO 9 E ?_
  refine Khs E (fun hb=>?_) (fun hb=>?_)
  ·have h3:=cT h2 hb
   refine gA 8 E ?_
   obtain rfl:=oSi h3
   exact gP E E
  have h4:=cF h2 hb
  obtain⟨l5,hl5,h6⟩:=Khz h4
  refine gA 6 E ?_
  refine eo_o E (Knu (Krq hΓ (g:=.d (.ro c.Kids.n c.Kids.xs)) E) (G.Le.unk Lht hl5)) ?_
  refine gO 4 E ?_
  obtain⟨q10,hq10,h11⟩:=Khz h6
  refine Kii 13 E fun hb13=>?_
  refine Klr (R:=fun a12=>q10=.go a12) (fun a12=>[]) (fun a12=>[.box 32 [I c.Kind,S c.Name,S c.Op,I c.Value.Kind,I c.Value.Number,S c.Value.Words,I c.Value.Version.1,I c.Value.Version.2.1,I c.Value.Version.2.2.1,I c.Value.Version.2.2.2,.d (.ro c.Kids.n c.Kids.xs)]]) ?_ ?_
  ·refine gA 1 E ?_
   refine Kih l5 hq10 (fun i7 s8=>[(13,.d (Sl Lcx l5)),(14,I (l5.length:Int)),(15,I (i7:Int))]) (fun s8=>[.box 32 [I c.Kind,S c.Name,S c.Op,I c.Value.Kind,I c.Value.Number,S c.Value.Words,I c.Value.Version.1,I c.Value.Version.2.1,I c.Value.Version.2.2.1,I c.Value.Version.2.2.2,.d (.ro c.Kids.n c.Kids.xs)]]) ⟨⟨E,E,E,tV⟩,[],E,.inl E⟩ (fun i7 x9 s8 y17 hx14 hlt hy15 hout16=>?_) (fun s8 hgo=>?_)
   ·refine gA 6 E ?_
    refine Kht E (dT (Int.ofNat_lt.2 hlt)) ?_
    refine gA 6 E ?_
    refine eo_o E (Kij hΓ (enc:=Lcx) (Kic hx14) E E E E E (fun _=>E)) ?_
    refine gO 1 E ?_
    refine Ksc hΓ E E E Z ?_
    refine Ksh hΓ E E E E E E E E Z ?_
    refine Kjh [.box 32 [I c.Kind,S c.Name,S c.Op,I c.Value.Kind,I c.Value.Number,S c.Value.Words,I c.Value.Version.1,I c.Value.Version.2.1,I c.Value.Version.2.2.1,I c.Value.Version.2.2.2,.d (.ro c.Kids.n c.Kids.xs)],.box 32 [I x9.Kind,S x9.Name,S x9.Op,I x9.Value.Kind,I x9.Value.Number,S x9.Value.Words,I x9.Value.Version.1,I x9.Value.Version.2.1,I x9.Value.Version.2.2.1,I x9.Value.Version.2.2.2,.d (.ro x9.Kids.n x9.Kids.xs)]] E ?_
    obtain⟨y18,hy18,h19⟩:=Khz hy15
    refine gO 5 E ?_
    refine Kiz C (ih hy18) E Z E E E E E ?_
    refine gO 9 E ?_
    refine Khs E (fun hb=>?_) (fun hb=>?_)
    ·have h20:=cT h19 hb
     refine gA 9 E ?_
     obtain⟨v21,hv21,h22⟩:=Khz h20
     obtain rfl:=oSi h22
     obtain rfl:=hout16 _ rfl
     obtain rfl:=oSi h11
     refine gA 4 E ?_
     obtain rfl:=oSi hv21
     exact gP E E
    have h23:=cF h19 hb
    refine gA 7 E ?_
    obtain rfl:=oSi h23
    exact⟨_,E,⟨⟨E,E,Kgv E (Kgu (nLl hlt hb13)),tV⟩,[_],E,.inr ⟨HB.mk E,FB.mk E,Z⟩⟩⟩
   subst hgo
   refine gA 6 E ?_
   refine Khu E (dF (Int.lt_irrefl _)) ?_
   refine gA 4 E ?_
   exact⟨_,E,⟨tV,[],E,.inl E⟩⟩
  intro a12 ha
  subst ha
  replace h11:=Kll h11
  refine gA 7 E ?_
  obtain rfl:=oSi h11
  exact gP E E
theorem Llc{k:Nat}{c:Lcw}{r:Int}(h:Lga k c=some r):Pure Tryz.prog 24 [.agg [I c.Kind,S c.Name,S c.Op,I c.Value.Kind,I c.Value.Number,S c.Value.Words,I c.Value.Version.1,I c.Value.Version.2.1,I c.Value.Version.2.2.1,I c.Value.Version.2.2.2,.d (.ro c.Kids.n c.Kids.xs)]] (I r):=by
 unfold Lga at h
 refine QP Tryz.func24 E E E<|gA 2 E<|Ksd E E E E Z<|bK h fun y1 hy1 h2=>gO 7 E<|Kiz C (Lkp hy1) E Z E E E E E<|gO 2 E<|bK h2 fun q3 hq3 h4=>Khy 4 [(1,.ptr 0 0),(10,B q3)] [.box 32 [I c.Kind,S c.Name,S c.Op,I c.Value.Kind,I c.Value.Number,S c.Value.Words,I c.Value.Version.1,I c.Value.Version.2.1,I c.Value.Version.2.2.1,I c.Value.Version.2.2.2,.d (.ro c.Kids.n c.Kids.xs)]] ?_ ?_
 ·refine Kqw E E (fun hb=>?_) (fun hb=>?_)
  ·have h5:=cT hq3 hb
   exact gO 5 E<|oSi h5▸⟨⟨E,E,tV⟩,[],E,.inl E⟩
  have h6:=cF hq3 hb
  exact bK h6 fun y7 hy7 h8=>gO 1 E<|Kqu E<|Kiz C (Lkq hy7) E Z E E E E E<|gO 3 E<|oSi h8▸⟨⟨E,E,tV⟩,[],E,.inl E⟩
 refine gO 2 E<|jC E h4 (fun h9=>?_) fun h10=>bK h10 fun y11 hy11 h12=>gA 5 E<|Kiz C (Llb hy11) E Z E E E E E<|gO 4 E<|oSi h12▸gP E E
 exact gA 7 E<|oSi h9▸gP E E
theorem Lld{v_at:Int}{r:Bool}(h:Lgb v_at=some r):Pure Tryz.prog 101 [I v_at] (B r):=by
 unfold Lgb at h
 exact QP Tryz.func101 E E E<|bK h fun y1 hy1 h2=>gA 8 E<|Kiz C (Lkv hy1) E Z E E E E E<|gO 4 E<|oSi h2▸gP E E
theorem Lle{a:Lcy}{b:Lcy}{r:Int}(h:Lgc a b=some r):Pure Tryz.prog 103 [.agg [I a.At,S a.Node,S a.Name,I a.Value.Kind,I a.Value.Number,S a.Value.Words,I a.Value.Version.1,I a.Value.Version.2.1,I a.Value.Version.2.2.1,I a.Value.Version.2.2.2],.agg [I b.At,S b.Node,S b.Name,I b.Value.Kind,I b.Value.Number,S b.Value.Words,I b.Value.Version.1,I b.Value.Version.2.1,I b.Value.Version.2.2.1,I b.Value.Version.2.2.2]] (I r):=by
 unfold Lgc at h
 exact QP Tryz.func103 E E E<|gA 2 E<|Ksd E E E E Z<|Ksd E E E E Z<|gO 4 E<|jD<|bK h fun y1 hy1 h2=>gA 4 E<|Kja C (Ljq hy1) E E E E E E<|bK h2 fun y3 hy3 h4=>Khq hΓ 4 E<|Kja C (Lau hy3) E E E E E E<|bK h4 fun y5 hy5 h6=>Khq hΓ 4 E<|Kja C (Lau hy5) E E E E E E<|Kiu hΓ (enc:=(eN .i64)) [y1,y3,y5] E E E E E E E E E E E E<|bK h6 fun y7 hy7 h8=>Kja C (Ljr hy7) E E E E E E<|Khq hΓ 4 E<|oSi h8▸gP E E
theorem Llf{k:Nat}{l:List Lcy}{r:Int}(h:Lgd k l=some r):Pure Tryz.prog 25 [.d (Sl Lcn l)] (I r):=by
 unfold Lgd at h
 refine QP Tryz.func25 E E E<|gA 13 E<|jC E h (fun h1=>?_) fun h2=>gA 10 E<|bK h2 fun q6 hq6 h7=>Kii 0 E fun hb9=>Klr (R:=fun a8=>q6=.go a8) (fun a8=>[]) (fun a8=>[]) ?_ ?_
 ·exact gA 7 E<|oSi h1▸gP E E
 ·refine gA 1 E<|Kih l hq6 (fun i3 s4=>[(0,.d (Sl Lcn l)),(9,.d (Sl Lcn l)),(10,I (l.length:Int)),(11,I (i3:Int))]) (fun s4=>[]) ⟨⟨E,E,E,E,tV⟩,[],E,.inl E⟩ (fun i3 x5 s4 y13 hx10 hlt hy11 hout12=>?_) (fun s4 hgo=>?_)
  ·refine gA 6 E<|Kht E (dT (Int.ofNat_lt.2 hlt))<|gA 7 E<|eo_o E (Kij hΓ (enc:=Lcn) (Kic hx10) E E E E E (fun _=>E))<|gO 1 E<|Ksc hΓ E E E Z<|gO 1 E<|Ksh hΓ E E E E E E E E Z<|Kjh [.box 83 [I x5.At,S x5.Node,S x5.Name,I x5.Value.Kind,I x5.Value.Number,S x5.Value.Words,I x5.Value.Version.1,I x5.Value.Version.2.1,I x5.Value.Version.2.2.1,I x5.Value.Version.2.2.2]] E<|bK hy11 fun y14 hy14 h15=>gO 8 E<|Kiz C (Lld hy14) E Z E E E E E<|gO 4 E<|jC E h15 (fun h16=>?_) fun h19=>bK h19 fun y20 hy20 h21=>gA 4 E<|Kiz C (Lkx hy20) E Z E E E E E<|gO 2 E<|bK h21 fun q22 hq22 h23=>Khy 5 [(0,.d (Sl Lcn l)),(3,I (i3:Int)),(4,.ptr 0 0),(9,.d (Sl Lcn l)),(10,I (l.length:Int)),(11,I (i3:Int)),(31,B q22)] [.box 83 [I x5.At,S x5.Node,S x5.Name,I x5.Value.Kind,I x5.Value.Number,S x5.Value.Words,I x5.Value.Version.1,I x5.Value.Version.2.1,I x5.Value.Version.2.2.1,I x5.Value.Version.2.2.2]] ?_ ?_
   ·refine gA 10 E<|bK h16 fun v17 hv17 h18=>?_
    cases h18
    obtain rfl:=hout12 _ rfl
    cases h7
    exact gA 4 E<|oSi hv17▸gP E E
   ·refine Kqw E E (fun hb=>?_) (fun hb=>?_)
    ·have h24:=cT hq22 hb
     exact gO 6 E<|oSi h24▸⟨⟨E,E,E,E,E,E,E,tV⟩,[],E,.inl E⟩
    have h25:=cF hq22 hb
    exact bK h25 fun y26 hy26 h27=>gO 2 E<|Kqu E<|Kiz C (Lkx hy26) E Z E E E E E<|gO 3 E<|oSi h27▸⟨⟨E,E,E,E,E,E,E,tV⟩,[],E,.inl E⟩
   refine gO 3 E<|jC E h23 (fun h28=>?_) fun h31=>bK h31 fun y32 hy32 h33=>gA 8 E<|Kiz C (Lkz hy32) E Z E E E E E<|gO 9 E<|jC E h33 (fun h34=>?_) fun h37=>?_
   ·refine gA 10 E<|bK h28 fun v29 hv29 h30=>?_
    cases h30
    obtain rfl:=hout12 _ rfl
    cases h7
    exact gA 4 E<|oSi hv29▸gP E E
   ·refine gA 10 E<|bK h34 fun v35 hv35 h36=>?_
    cases h36
    obtain rfl:=hout12 _ rfl
    cases h7
    exact gA 4 E<|oSi hv35▸gP E E
   refine bK h37 fun q38 hq38 h39=>gA 3 E<|Kls [(0,.d (Sl Lcn l)),(9,.d (Sl Lcn l)),(10,I (l.length:Int)),(11,I (i3:Int)),(49,B q38)] [.box 83 [I x5.At,S x5.Node,S x5.Name,I x5.Value.Kind,I x5.Value.Number,S x5.Value.Words,I x5.Value.Version.1,I x5.Value.Version.2.1,I x5.Value.Version.2.2.1,I x5.Value.Version.2.2.2]] ?_ ?_
   ·refine jD<|gA 3 E<|Kga E E (fun hb=>?_) (fun hb=>?_)
    ·have h40:=cT hq38 hb
     exact bK h40 fun x41 hx41 h42=>Khq hΓ 3 E<|Kgx E E (Kij hΓ (enc:=Lcn) hx41 E E E E E (fun _=>E))<|bK h42 fun y43 hy43 h44=>Khq hΓ 2 E<|Kjb C (Lle hy43) E E E E E E E<|Khq hΓ 3 E<|oSi h44▸⟨⟨E,E,E,E,E,tV⟩,[],E,.inl E⟩
    have h45:=cF hq38 hb
    exact Khq hΓ 10 E<|oSi h45▸⟨⟨E,E,E,E,E,tV⟩,[],E,.inl E⟩
   refine gA 1 E<|jC E h39 (fun h46=>?_) fun h49=>gA 7 E ?_
   ·refine gA 8 E<|bK h46 fun v47 hv47 h48=>?_
    cases h48
    obtain rfl:=hout12 _ rfl
    cases h7
    exact gA 4 E<|oSi hv47▸gP E E
   cases h49
   exact⟨_,E,⟨⟨E,E,E,Kgv E (Kgu (nLl hlt hb9)),tV⟩,[_],E,.inr ⟨HB.mk E,FB.mk E,Z⟩⟩⟩
  subst hgo
  exact gA 6 E<|Khu E (dF (Int.lt_irrefl _))<|gA 4 E<|⟨_,E,⟨tV,[],E,.inl E⟩⟩
 intro a8 ha
 subst ha
 replace h7:=Kll h7
 exact gA 7 E<|oSi h7▸gP E E
theorem Llg{fresh:Int}{r:Int}(h:Lge fresh=some r):Pure Tryz.prog 26 [I fresh] (I r):=by
 unfold Lge at h
 refine QP Tryz.func26 E E E<|bK h fun y1 hy1 h2=>gA 9 E<|Kiz C (Lkr hy1) E Z E E E E E<|gO 3 E<|jC E h2 (fun h3=>?_) fun h4=>gA 8 E<|oSi h4▸gP E E
 exact gA 7 E<|oSi h3▸gP E E
theorem Llh{s:Str}{r:Int}(h:Lgf s=some r):Pure Tryz.prog 105 [S s] (I r):=by
 unfold Lgf at h
 refine QP Tryz.func105 E E E<|bK h fun y1 hy1 h2=>gA 9 E<|Kiz C (Lkx hy1) E Z E E E E E<|gO 3 E<|jC E h2 (fun h3=>?_) fun h4=>gA 8 E<|oSi h4▸gP E E
 exact gA 7 E<|oSi h3▸gP E E
theorem Lli{s:Str}{r:Int}(h:Lgg s=some r):Pure Tryz.prog 27 [S s] (I r):=by
 unfold Lgg at h
 exact QP Tryz.func27 E E E<|bK h fun y1 hy1 h2=>gA 8 E<|Kiz C (Llh hy1) E Z E E E E E<|gO 4 E<|oSi h2▸gP E E
theorem Llj{vals:List Int}{r:Int}(h:Lgh vals=some r):Pure Tryz.prog 23 [.d (Sl (eN .i64) vals)] (I r):=by
 unfold Lgh at h
 refine QP Tryz.func23 E E E<|gA 18 E<|bK h fun q4 hq4 h5=>Kii 6 E fun hb7=>Klr (R:=fun a6=>q4=.go a6) (fun a6=>[(3,I 0)]) (fun a6=>[]) ?_ ?_
 ·refine gA 1 E<|Kih vals hq4 (fun i1 s2=>[(3,I 0),(6,.d (Sl (eN .i64) vals)),(7,I (vals.length:Int)),(8,I (i1:Int))]) (fun s2=>[]) ⟨⟨E,E,E,E,tV⟩,[],E,.inl E⟩ (fun i1 x3 s2 y11 hx8 hlt hy9 hout10=>?_) (fun s2 hgo=>?_)
  ·refine gA 6 E<|Kht E (dT (Int.ofNat_lt.2 hlt))<|gA 6 E<|eo_o E (Kij hΓ (enc:=(eN .i64)) (Kic hx8) E E E E E (fun _=>E))<|gO 11 E<|jC E hy9 (fun h12=>?_) fun h15=>gA 7 E ?_
   ·refine gA 9 E<|bK h12 fun v13 hv13 h14=>?_
    cases h14
    obtain rfl:=hout10 _ rfl
    cases h5
    exact gA 4 E<|oSi hv13▸gP E E
   cases h15
   exact⟨_,E,⟨⟨E,E,E,Kgv E (Kgu (nLl hlt hb7)),tV⟩,[],E,.inl E⟩⟩
  subst hgo
  exact gA 6 E<|Khu E (dF (Int.lt_irrefl _))<|gA 4 E<|⟨_,E,⟨⟨E,tV⟩,[],E,.inl E⟩⟩
 intro a6 ha
 subst ha
 replace h5:=Kll h5
 exact gA 8 E<|oSi h5▸gP E E
theorem Llk{v_at:Int}{r:Int}(h:Lgi v_at=some r):Pure Tryz.prog 28 [I v_at] (I r):=by
 unfold Lgi at h
 refine QP Tryz.func28 E E E<|bK h fun y1 hy1 h2=>gA 9 E<|Kiz C (Lld hy1) E Z E E E E E<|gO 3 E<|jC E h2 (fun h3=>?_) fun h4=>gA 8 E<|oSi h4▸gP E E
 exact gA 7 E<|oSi h3▸gP E E
theorem Lll{w:Lcz}{r:Int}(h:Lgj w=some r):Pure Tryz.prog 29 [.agg [I w.From,I w.To]] (I r):=by
 unfold Lgj at h
 refine QP Tryz.func29 E E E<|gA 2 E<|Ksd E E E E Z<|gO 10 E<|Khy 6 [(1,.ptr 0 0),(12,B ((decide ((w.From:Int)<0))||(decide ((w.From:Int)>w.To))))] [.box 46 [I w.From,I w.To]] ?_ ?_
 ·refine Kqw E E (fun hb=>?_) (fun hb=>?_)
  ·exact gO 7 E<|⟨⟨E,Kgw E (or_t hb),tV⟩,[],E,.inl E⟩
  exact gO 7 E<|⟨⟨E,Kgw E (or_f hb),tV⟩,[],E,.inl E⟩
 refine gO 1 E<|Khy 4 [(17,B (((decide ((w.From:Int)<0))||(decide ((w.From:Int)>w.To)))||(decide ((w.To:Int)>345686400))))] [.box 46 [I w.From,I w.To]] ?_ ?_
 ·refine Kqw E E (fun hb=>?_) (fun hb=>?_)
  ·exact gO 5 E<|⟨⟨Kgw E (or_t hb),tV⟩,[],E,.inl E⟩
  exact gO 5 E<|⟨⟨Kgw E (or_f hb),tV⟩,[],E,.inl E⟩
 refine gO 2 E<|jC E h (fun h1=>?_) fun h2=>gA 8 E<|oSi h2▸gP E E
 exact gA 7 E<|oSi h1▸gP E E
theorem Llm{k:Nat}{c:Lcw}{r:List Lcw}(h:Lgk k c=some r):Pure Tryz.prog 185 [.agg [I c.Kind,S c.Name,S c.Op,I c.Value.Kind,I c.Value.Number,S c.Value.Words,I c.Value.Version.1,I c.Value.Version.2.1,I c.Value.Version.2.2.1,I c.Value.Version.2.2.2,.d (.ro c.Kids.n c.Kids.xs)]] (.d (Sl Lcx r)):=by
 induction k generalizing c r with
 | zero=>unfold Lgk at h;cases h
 | succ k ih0=>
  have ih:∀ {c:Lcw} {r:List Lcw},Lgk k c=some r→Pure Tryz.prog 185 [.agg [I c.Kind,S c.Name,S c.Op,I c.Value.Kind,I c.Value.Number,S c.Value.Words,I c.Value.Version.1,I c.Value.Version.2.1,I c.Value.Version.2.2.1,I c.Value.Version.2.2.2,.d (.ro c.Kids.n c.Kids.xs)]] (.d (Sl Lcx r)):=by intro c r h;first | exact ih0 h | exact ih0 _ _ h
  refine Pure.enter (Fr.of 0 _) Tryz.func185 E (Fr.of_ok _) E E ?_
  refine Khr ?_
  unfold Lgk at h
  refine gA 2 E ?_
  refine Ksd E E E E Z ?_
  refine gO 11 E ?_
  refine Khs E (fun hb=>?_) (fun hb=>?_)
  ·have h1:=cT h hb
   refine gA 3 E ?_
   refine Kit hΓ (enc:=Lcx) [c] E E E E E E E E E E E E Z ?_
   refine gO 5 E ?_
   obtain rfl:=oSi h1
   exact gP E E
  have h2:=cF h hb
  refine gA 4 E ?_
  refine Kiw (t:=0) 32 11 E Z ?_
  obtain⟨l3,hl3,h4⟩:=Khz h2
  refine gO 6 E ?_
  refine eo_o E (Knu (Krq hΓ (g:=.d (.ro c.Kids.n c.Kids.xs)) E) (G.Le.unk Lht hl3)) ?_
  refine gO 4 E ?_
  obtain⟨q8,hq8,h9⟩:=Khz h4
  refine Kii 12 E fun hb11=>?_
  refine Kls [(3,.sl 1 q8.length)] [.box 32 [I c.Kind,S c.Name,S c.Op,I c.Value.Kind,I c.Value.Number,S c.Value.Words,I c.Value.Version.1,I c.Value.Version.2.1,I c.Value.Version.2.2.1,I c.Value.Version.2.2.2,.d (.ro c.Kids.n c.Kids.xs)],rO 32 11 Lcx q8] ?_ ?_
  ·refine gA 1 E ?_
   refine Kjo l3 hq8 (fun i5 s6=>[(3,.sl 1 s6.length),(12,.d (Sl Lcx l3)),(13,I (l3.length:Int)),(14,I (i5:Int))]) (fun s6=>[.box 32 [I c.Kind,S c.Name,S c.Op,I c.Value.Kind,I c.Value.Number,S c.Value.Words,I c.Value.Version.1,I c.Value.Version.2.1,I c.Value.Version.2.2.1,I c.Value.Version.2.2.2,.d (.ro c.Kids.n c.Kids.xs)],rO 32 11 Lcx s6]) ⟨⟨E,E,E,E,tV⟩,[],E,.inl E⟩ (fun i5 x7 s6 y15 hx12 hlt hy13=>?_) (?_)
   ·refine gA 6 E ?_
    refine Kht E (dT (Int.ofNat_lt.2 hlt)) ?_
    refine gA 6 E ?_
    refine eo_o E (Kij hΓ (enc:=Lcx) (Kic hx12) E E E E E (fun _=>E)) ?_
    refine gO 1 E ?_
    refine Ksc hΓ E E E Z ?_
    refine Ksh hΓ E E E E E E E E Z ?_
    refine Kjh [.box 32 [I c.Kind,S c.Name,S c.Op,I c.Value.Kind,I c.Value.Number,S c.Value.Words,I c.Value.Version.1,I c.Value.Version.2.1,I c.Value.Version.2.2.1,I c.Value.Version.2.2.2,.d (.ro c.Kids.n c.Kids.xs)],rO 32 11 Lcx s6,.box 32 [I x7.Kind,S x7.Name,S x7.Op,I x7.Value.Kind,I x7.Value.Number,S x7.Value.Words,I x7.Value.Version.1,I x7.Value.Version.2.1,I x7.Value.Version.2.2.1,I x7.Value.Version.2.2.2,.d (.ro x7.Kids.n x7.Kids.xs)]] E ?_
    obtain⟨y16,hy16,h17⟩:=Khz hy13
    refine gO 5 E ?_
    refine Kiz C (ih hy16) E Z E E E E E ?_
    obtain⟨y18,hy18,h19⟩:=Khz h17
    refine Kji hΓ (enc:=Lcx) hy18 E E E E E E E E E (fun _=>E) E E E E ?_
    refine gO 8 E ?_
    obtain rfl:=oSi h19
    exact⟨⟨E,E,E,Kgv E (Kgu (nLl hlt hb11)),tV⟩,[_],E,.inr ⟨HB.mk E,FB.mk E,Z⟩⟩
   refine gA 6 E ?_
   refine Khu E (dF (Int.lt_irrefl _)) ?_
   refine gA 4 E ?_
   exact⟨⟨E,tV⟩,[],E,.inl E⟩
  refine gA 5 E ?_
  refine Kjf 1 [2,3,23] _ [.box 32 [I c.Kind,S c.Name,S c.Op,I c.Value.Kind,I c.Value.Number,S c.Value.Words,I c.Value.Version.1,I c.Value.Version.2.1,I c.Value.Version.2.2.1,I c.Value.Version.2.2.2,.d (.ro c.Kids.n c.Kids.xs)],.dead] E E E Z ?_
  refine gO 3 E ?_
  obtain rfl:=oSi h9
  exact gP E E
theorem Lln{a:Lcv}{b:Lcv}{r:Int×Bool}(h:Lgm a b=some r):Pure Tryz.prog 56 [.agg [I a.Kind,I a.Number,S a.Words,I a.Version.1,I a.Version.2.1,I a.Version.2.2.1,I a.Version.2.2.2],.agg [I b.Kind,I b.Number,S b.Words,I b.Version.1,I b.Version.2.1,I b.Version.2.2.1,I b.Version.2.2.2]] (.tup [I r.1,B r.2]):=by
 unfold Lgm at h
 refine QP Tryz.func56 E E E<|gA 2 E<|Ksd E E E E Z<|Ksd E E E E Z<|gO 14 E<|jC E h (fun h1=>?_) fun h2=>gA 3 E<|Kox (ds:=[.v (.int .i64 a.Kind),.v (.int .i64 a.Number),.v (.string ⟨a.Words.toArray⟩),.v (.int .i64 a.Version.1),.v (.int .i64 a.Version.2.1),.v (.int .i64 a.Version.2.2.1),.v (.int .i64 a.Version.2.2.2)]) 0 2 [.dead,.box 29 [I b.Kind,I b.Number,S b.Words,I b.Version.1,I b.Version.2.1,I b.Version.2.2.1,I b.Version.2.2.2]] E E E Z<|Kox (ds:=[.v (.int .i64 b.Kind),.v (.int .i64 b.Number),.v (.string ⟨b.Words.toArray⟩),.v (.int .i64 b.Version.1),.v (.int .i64 b.Version.2.1),.v (.int .i64 b.Version.2.2.1),.v (.int .i64 b.Version.2.2.2)]) 1 3 [.dead,.dead] E E E Z<|jD<|bK h2 fun y3 hy3 h4=>gA 4 E<|Kja C (Ljq hy3) E E E E E E<|bK h4 fun y5 hy5 h6=>Khq hΓ 4 E<|Kja C (Lau hy5) E E E E E E<|Khq hΓ 1 E<|gl_o E (Kpj hΓ ([a.Version.1,a.Version.2.1,a.Version.2.2.1,a.Version.2.2.2]:List Int) E E E E E E E)<|Khq hΓ 1 E<|gl_o E (Kpj hΓ ([b.Version.1,b.Version.2.1,b.Version.2.2.1,b.Version.2.2.2]:List Int) E E E E E E E)<|bK h6 fun y7 hy7 h8=>Kja C (Lkb hy7) E E E E E E<|Kiu hΓ (enc:=(eN .i64)) [y3,y5,y7] E E E E E E E E E E E E<|bK h8 fun y9 hy9 h10=>Kja C (Ljr hy9) E E E E E E<|Khq hΓ 5 E<|oSi h10▸gP E E
 exact gA 8 E<|oSi h1▸gP E E
theorem Llo{c:Lcw}{l:List Lcy}{fresh:Int}{node:Str}{v_at:Int}{r:Int}(h:Lgn c l fresh node v_at=some r):Pure Tryz.prog 186 [.agg [I c.Kind,S c.Name,S c.Op,I c.Value.Kind,I c.Value.Number,S c.Value.Words,I c.Value.Version.1,I c.Value.Version.2.1,I c.Value.Version.2.2.1,I c.Value.Version.2.2.2,.d (.ro c.Kids.n c.Kids.xs)],.d (Sl Lcn l),I fresh,S node,I v_at] (I r):=by
 unfold Lgn at h
 refine QP Tryz.func186 E E E<|gA 2 E<|Ksd E E E E Z<|bK h fun y1 hy1 h2=>gO 11 E<|Kiz C (Kal hy1) E Z E E E E E<|gO 3 E<|Ksc hΓ E E E Z<|Ksh hΓ E E E E E E E E Z<|Kjh [.box 32 [I c.Kind,S c.Name,S c.Op,I c.Value.Kind,I c.Value.Number,S c.Value.Words,I c.Value.Version.1,I c.Value.Version.2.1,I c.Value.Version.2.2.1,I c.Value.Version.2.2.2,.d (.ro c.Kids.n c.Kids.xs)],.box 29 [I y1.1.Kind,I y1.1.Number,S y1.1.Words,I y1.1.Version.1,I y1.1.Version.2.1,I y1.1.Version.2.2.1,I y1.1.Version.2.2.2]] E<|bK h2 fun y3 hy3 h4=>gO 8 E<|Kiz C (Lln hy3) E Z E E E E E<|gO 13 E<|Khy 3 [(5,.ptr 0 0),(13,I y3.1),(38,B ((!y1.2)||(!y3.2)))] [.box 32 [I c.Kind,S c.Name,S c.Op,I c.Value.Kind,I c.Value.Number,S c.Value.Words,I c.Value.Version.1,I c.Value.Version.2.1,I c.Value.Version.2.2.1,I c.Value.Version.2.2.2,.d (.ro c.Kids.n c.Kids.xs)],.box 29 [I y1.1.Kind,I y1.1.Number,S y1.1.Words,I y1.1.Version.1,I y1.1.Version.2.1,I y1.1.Version.2.2.1,I y1.1.Version.2.2.2]] ?_ ?_
 ·refine Kqw E E (fun hb=>?_) (fun hb=>?_)
  ·exact gO 4 E<|⟨⟨E,E,Kgw E (or_t hb),tV⟩,[],E,.inl E⟩
  exact gO 4 E<|⟨⟨E,E,Kgw E (or_f hb),tV⟩,[],E,.inl E⟩
 refine gO 2 E<|jC E h4 (fun h5=>?_) fun h6=>gA 4 E<|eo_s Z (nblt.1 E) (Kmv false)<|Kjh [.box 32 [I c.Kind,S c.Name,S c.Op,I c.Value.Kind,I c.Value.Number,S c.Value.Words,I c.Value.Version.1,I c.Value.Version.2.1,I c.Value.Version.2.2.1,I c.Value.Version.2.2.2,.d (.ro c.Kids.n c.Kids.xs)],.box 29 [I y1.1.Kind,I y1.1.Number,S y1.1.Words,I y1.1.Version.1,I y1.1.Version.2.1,I y1.1.Version.2.2.1,I y1.1.Version.2.2.2],mObB ([]:List (Str×Bool))] E<|gO 2 E<|eo_u Z (Kng hΓ (kv:=kS) (agg:=false) (enc:=eB) (id:=2) ([]:List (Str×Bool)) [61,61] ((y3.1:Int)==0) E E E Kmq E E E E E)<|Kjh [.box 32 [I c.Kind,S c.Name,S c.Op,I c.Value.Kind,I c.Value.Number,S c.Value.Words,I c.Value.Version.1,I c.Value.Version.2.1,I c.Value.Version.2.2.1,I c.Value.Version.2.2.2,.d (.ro c.Kids.n c.Kids.xs)],.box 29 [I y1.1.Kind,I y1.1.Number,S y1.1.Words,I y1.1.Version.1,I y1.1.Version.2.1,I y1.1.Version.2.2.1,I y1.1.Version.2.2.2],mObB (mSet ([]:List (Str×Bool)) [61,61] ((y3.1:Int)==0))] E<|gO 2 E<|eo_u Z (Kng hΓ (kv:=kS) (agg:=false) (enc:=eB) (id:=2) (mSet ([]:List (Str×Bool)) [61,61] ((y3.1:Int)==0)) [33,61] ((y3.1:Int) != 0) E E E Kmq E E E E E)<|Kjh [.box 32 [I c.Kind,S c.Name,S c.Op,I c.Value.Kind,I c.Value.Number,S c.Value.Words,I c.Value.Version.1,I c.Value.Version.2.1,I c.Value.Version.2.2.1,I c.Value.Version.2.2.2,.d (.ro c.Kids.n c.Kids.xs)],.box 29 [I y1.1.Kind,I y1.1.Number,S y1.1.Words,I y1.1.Version.1,I y1.1.Version.2.1,I y1.1.Version.2.2.1,I y1.1.Version.2.2.2],mObB (mSet (mSet ([]:List (Str×Bool)) [61,61] ((y3.1:Int)==0)) [33,61] ((y3.1:Int) != 0))] E<|gO 2 E<|eo_u Z (Kng hΓ (kv:=kS) (agg:=false) (enc:=eB) (id:=2) (mSet (mSet ([]:List (Str×Bool)) [61,61] ((y3.1:Int)==0)) [33,61] ((y3.1:Int) != 0)) [60] (decide ((y3.1:Int)<0)) E E E Kmq E E E E E)<|Kjh [.box 32 [I c.Kind,S c.Name,S c.Op,I c.Value.Kind,I c.Value.Number,S c.Value.Words,I c.Value.Version.1,I c.Value.Version.2.1,I c.Value.Version.2.2.1,I c.Value.Version.2.2.2,.d (.ro c.Kids.n c.Kids.xs)],.box 29 [I y1.1.Kind,I y1.1.Number,S y1.1.Words,I y1.1.Version.1,I y1.1.Version.2.1,I y1.1.Version.2.2.1,I y1.1.Version.2.2.2],mObB (mSet (mSet (mSet ([]:List (Str×Bool)) [61,61] ((y3.1:Int)==0)) [33,61] ((y3.1:Int) != 0)) [60] (decide ((y3.1:Int)<0)))] E<|gO 2 E<|eo_u Z (Kng hΓ (kv:=kS) (agg:=false) (enc:=eB) (id:=2) (mSet (mSet (mSet ([]:List (Str×Bool)) [61,61] ((y3.1:Int)==0)) [33,61] ((y3.1:Int) != 0)) [60] (decide ((y3.1:Int)<0))) [60,61] (decide ((y3.1:Int)≤0)) E E E Kmq E E E E E)<|Kjh [.box 32 [I c.Kind,S c.Name,S c.Op,I c.Value.Kind,I c.Value.Number,S c.Value.Words,I c.Value.Version.1,I c.Value.Version.2.1,I c.Value.Version.2.2.1,I c.Value.Version.2.2.2,.d (.ro c.Kids.n c.Kids.xs)],.box 29 [I y1.1.Kind,I y1.1.Number,S y1.1.Words,I y1.1.Version.1,I y1.1.Version.2.1,I y1.1.Version.2.2.1,I y1.1.Version.2.2.2],mObB (mSet (mSet (mSet (mSet ([]:List (Str×Bool)) [61,61] ((y3.1:Int)==0)) [33,61] ((y3.1:Int) != 0)) [60] (decide ((y3.1:Int)<0))) [60,61] (decide ((y3.1:Int)≤0)))] E<|gO 2 E<|eo_u Z (Kng hΓ (kv:=kS) (agg:=false) (enc:=eB) (id:=2) (mSet (mSet (mSet (mSet ([]:List (Str×Bool)) [61,61] ((y3.1:Int)==0)) [33,61] ((y3.1:Int) != 0)) [60] (decide ((y3.1:Int)<0))) [60,61] (decide ((y3.1:Int)≤0))) [62] (decide ((y3.1:Int)>0)) E E E Kmq E E E E E)<|Kjh [.box 32 [I c.Kind,S c.Name,S c.Op,I c.Value.Kind,I c.Value.Number,S c.Value.Words,I c.Value.Version.1,I c.Value.Version.2.1,I c.Value.Version.2.2.1,I c.Value.Version.2.2.2,.d (.ro c.Kids.n c.Kids.xs)],.box 29 [I y1.1.Kind,I y1.1.Number,S y1.1.Words,I y1.1.Version.1,I y1.1.Version.2.1,I y1.1.Version.2.2.1,I y1.1.Version.2.2.2],mObB (mSet (mSet (mSet (mSet (mSet ([]:List (Str×Bool)) [61,61] ((y3.1:Int)==0)) [33,61] ((y3.1:Int) != 0)) [60] (decide ((y3.1:Int)<0))) [60,61] (decide ((y3.1:Int)≤0))) [62] (decide ((y3.1:Int)>0)))] E<|gO 2 E<|eo_u Z (Kng hΓ (kv:=kS) (agg:=false) (enc:=eB) (id:=2) (mSet (mSet (mSet (mSet (mSet ([]:List (Str×Bool)) [61,61] ((y3.1:Int)==0)) [33,61] ((y3.1:Int) != 0)) [60] (decide ((y3.1:Int)<0))) [60,61] (decide ((y3.1:Int)≤0))) [62] (decide ((y3.1:Int)>0))) [62,61] (decide ((y3.1:Int)≥0)) E E E Kmq E E E E E)<|Kjh [.box 32 [I c.Kind,S c.Name,S c.Op,I c.Value.Kind,I c.Value.Number,S c.Value.Words,I c.Value.Version.1,I c.Value.Version.2.1,I c.Value.Version.2.2.1,I c.Value.Version.2.2.2,.d (.ro c.Kids.n c.Kids.xs)],.box 29 [I y1.1.Kind,I y1.1.Number,S y1.1.Words,I y1.1.Version.1,I y1.1.Version.2.1,I y1.1.Version.2.2.1,I y1.1.Version.2.2.2],mObB (mSet (mSet (mSet (mSet (mSet (mSet ([]:List (Str×Bool)) [61,61] ((y3.1:Int)==0)) [33,61] ((y3.1:Int) != 0)) [60] (decide ((y3.1:Int)<0))) [60,61] (decide ((y3.1:Int)≤0))) [62] (decide ((y3.1:Int)>0))) [62,61] (decide ((y3.1:Int)≥0)))] E<|gO 3 E<|eo_o E (Kmz hΓ (kv:=kS) (agg:=false) (enc:=eB) (mSet (mSet (mSet (mSet (mSet (mSet ([]:List (Str×Bool)) [61,61] ((y3.1:Int)==0)) [33,61] ((y3.1:Int) != 0)) [60] (decide ((y3.1:Int)<0))) [60,61] (decide ((y3.1:Int)≤0))) [62] (decide ((y3.1:Int)>0))) [62,61] (decide ((y3.1:Int)≥0))) c.Op (false:Bool) E E E E Kmq E E E E E E E)<|gO 9 E<|jC E h6 (fun h7=>?_) fun h8=>?_
 ·exact gA 7 E<|oSi h5▸gP E E
 ·exact gA 7 E<|oSi h7▸gP E E
 exact gA 8 E<|oSi h8▸gP E E
theorem Llp{k:Nat}{c:Lcw}{l:List Lcy}{fresh:Int}{node:Str}{v_at:Int}{r:List Int}(h:Lgo k c l fresh node v_at=some r):EC Tryz.prog 107 [.agg [I c.Kind,S c.Name,S c.Op,I c.Value.Kind,I c.Value.Number,S c.Value.Words,I c.Value.Version.1,I c.Value.Version.2.1,I c.Value.Version.2.2.1,I c.Value.Version.2.2.2,.d (.ro c.Kids.n c.Kids.xs)],.d (Sl Lcn l),I fresh,S node,I v_at] [] fun g hp'=>g=.sl 0 r.length∧hp'=[rO 3 1 (eN .i64) r]:=by
 unfold Lgo at h
 refine QM Tryz.func107 E Z<|gA 2 E<|Ksd E E E E Z<|gO 5 E<|Kiw (t:=0) 3 1 E Z<|bK h fun y1 hy1 h2=>gO 6 E<|Kiz C (Llm hy1) E Z E E E E E<|gO 4 E<|bK h2 fun q6 hq6 h7=>Kii 15 E fun hb9=>Kls [(11,.sl 1 q6.length)] [.box 32 [I c.Kind,S c.Name,S c.Op,I c.Value.Kind,I c.Value.Number,S c.Value.Words,I c.Value.Version.1,I c.Value.Version.2.1,I c.Value.Version.2.2.1,I c.Value.Version.2.2.2,.d (.ro c.Kids.n c.Kids.xs)],rO 3 1 (eN .i64) q6] ?_ ?_
 ·refine gA 1 E<|Kjo y1 hq6 (fun i3 s4=>[(1,.d (Sl Lcn l)),(2,I fresh),(3,S node),(4,I v_at),(11,.sl 1 s4.length),(15,.d (Sl Lcx y1)),(16,I (y1.length:Int)),(17,I (i3:Int))]) (fun s4=>[.box 32 [I c.Kind,S c.Name,S c.Op,I c.Value.Kind,I c.Value.Number,S c.Value.Words,I c.Value.Version.1,I c.Value.Version.2.1,I c.Value.Version.2.2.1,I c.Value.Version.2.2.2,.d (.ro c.Kids.n c.Kids.xs)],rO 3 1 (eN .i64) s4]) ⟨⟨E,E,E,E,E,E,E,E,tV⟩,[],E,.inl E⟩ (fun i3 x5 s4 y13 hx10 hlt hy11=>?_) (?_)
  ·refine gA 6 E<|Kht E (dT (Int.ofNat_lt.2 hlt))<|gA 6 E<|eo_o E (Kij hΓ (enc:=Lcx) (Kic hx10) E E E E E (fun _=>E))<|gO 1 E<|Ksc hΓ E E E Z<|Ksh hΓ E E E E E E E E Z<|Kjh [.box 32 [I c.Kind,S c.Name,S c.Op,I c.Value.Kind,I c.Value.Number,S c.Value.Words,I c.Value.Version.1,I c.Value.Version.2.1,I c.Value.Version.2.2.1,I c.Value.Version.2.2.2,.d (.ro c.Kids.n c.Kids.xs)],rO 3 1 (eN .i64) s4,.box 32 [I x5.Kind,S x5.Name,S x5.Op,I x5.Value.Kind,I x5.Value.Number,S x5.Value.Words,I x5.Value.Version.1,I x5.Value.Version.2.1,I x5.Value.Version.2.2.1,I x5.Value.Version.2.2.2,.d (.ro x5.Kids.n x5.Kids.xs)]] E<|bK hy11 fun y14 hy14 h15=>gO 9 E<|Kiz C (Llo hy14) E Z E E E E E<|Kit hΓ (enc:=(eN .i64)) [y14] E E E E E E E E E E E E Z<|bK h15 fun y16 hy16 h17=>Kji hΓ (enc:=(eN .i64)) hy16 E E E E E E E E E (fun _=>E) E E E E<|gO 8 E ?_
   cases h17
   exact⟨⟨E,E,E,E,E,E,E,Kgv E (Kgu (nLl hlt hb9)),tV⟩,[_],E,.inr ⟨HB.mk E,FB.mk E,Z⟩⟩
  exact gA 6 E<|Khu E (dF (Int.lt_irrefl _))<|gA 4 E<|⟨⟨E,tV⟩,[],E,.inl E⟩
 exact gA 8 E<|Kni 0 [.dead,rO 3 1 (eN .i64) q6] E Z<|Klq 1 0 [rO 3 1 (eN .i64) q6,.dead] E E E E E E<|Kln<|oSi h7▸Kjm hΓ [_] (.inr E) E E E E (.inr ⟨HB.mk E,E⟩)
theorem Llq{s:List Int}{v:Int}{r:Int}(h:Lgp s v=some r):Pure Tryz.prog 237 [.d (Sl (eN .i64) s),I v] (I r):=by
 unfold Lgp at h
 refine QP Tryz.func237 E E E<|gA 13 E<|bK h fun q4 hq4 h5=>Kii 0 E fun hb7=>Klr (R:=fun a6=>q4=.go a6) (fun a6=>[]) (fun a6=>[]) ?_ ?_
 ·refine gA 1 E<|Kih s hq4 (fun i1 s2=>[(0,.d (Sl (eN .i64) s)),(1,I v),(7,I (s.length:Int)),(8,I (i1:Int))]) (fun s2=>[]) ⟨⟨E,E,E,E,tV⟩,[],E,.inl E⟩ (fun i1 x3 s2 y11 hx8 hlt hy9 hout10=>?_) (fun s2 hgo=>?_)
  ·refine gA 6 E<|Kht E (dT (Int.ofNat_lt.2 hlt))<|gA 15 E<|eo_o E (Kij hΓ (enc:=(eN .i64)) (Kic hx8) E E E E E (fun _=>E))<|gO 4 E<|jC E hy9 (fun h12=>?_) fun h15=>gA 7 E ?_
   ·refine gA 9 E<|bK h12 fun v13 hv13 h14=>?_
    cases h14
    obtain rfl:=hout10 _ rfl
    cases h5
    exact gA 4 E<|oSi hv13▸gP E E
   cases h15
   exact⟨_,E,⟨⟨E,E,E,Kgv E (Kgu (nLl hlt hb7)),tV⟩,[],E,.inl E⟩⟩
  subst hgo
  exact gA 6 E<|Khu E (dF (Int.lt_irrefl _))<|gA 4 E<|⟨_,E,⟨tV,[],E,.inl E⟩⟩
 intro a6 ha
 subst ha
 replace h5:=Kll h5
 exact gA 7 E<|oSi h5▸gP E E
theorem Llr{s:List Int}{v:Int}{r:Bool}(h:Lgq s v=some r):Pure Tryz.prog 184 [.d (Sl (eN .i64) s),I v] (B r):=by
 unfold Lgq at h
 exact QP Tryz.func184 E E E<|bK h fun y1 hy1 h2=>gA 9 E<|Kiz C (Llq hy1) E Z E E E E E<|gO 5 E<|oSi h2▸gP E E
theorem Lls{k:Nat}{c:Lcw}{known:List Int}{n:Int}{r:Int}(h:Lgr k c known n=some r):Pure Tryz.prog 106 [.agg [I c.Kind,S c.Name,S c.Op,I c.Value.Kind,I c.Value.Number,S c.Value.Words,I c.Value.Version.1,I c.Value.Version.2.1,I c.Value.Version.2.2.1,I c.Value.Version.2.2.2,.d (.ro c.Kids.n c.Kids.xs)],.d (Sl (eN .i64) known),I n] (I r):=by
 induction k generalizing c known n r with
 | zero=>unfold Lgr at h;cases h
 | succ k ih0=>
  have ih:∀ {c:Lcw} {known:List Int} {n:Int} {r:Int},Lgr k c known n=some r→Pure Tryz.prog 106 [.agg [I c.Kind,S c.Name,S c.Op,I c.Value.Kind,I c.Value.Number,S c.Value.Words,I c.Value.Version.1,I c.Value.Version.2.1,I c.Value.Version.2.2.1,I c.Value.Version.2.2.2,.d (.ro c.Kids.n c.Kids.xs)],.d (Sl (eN .i64) known),I n] (I r):=by intro c known n r h;first | exact ih0 h | exact ih0 _ _ _ _ h
  refine Pure.enter (Fr.of 0 _) Tryz.func106 E (Fr.of_ok _) E E ?_
  refine Khr ?_
  unfold Lgr at h
  refine gA 2 E ?_
  refine Ksd E E E E Z ?_
  refine gO 11 E ?_
  refine Khs E (fun hb=>?_) (fun hb=>?_)
  ·have h1:=cT h hb
   obtain⟨x2,hx2,h3⟩:=Khz h1
   refine gA 4 E ?_
   refine eo_o E (Kij hΓ (enc:=(eN .i64)) hx2 E E E E E (fun _=>E)) ?_
   refine gO 6 E ?_
   obtain rfl:=oSi h3
   exact gP E E
  have h4:=cF h hb
  refine gA 4 E ?_
  refine Kiw (t:=0) 3 1 E Z ?_
  obtain⟨l5,hl5,h6⟩:=Khz h4
  refine gO 6 E ?_
  refine eo_o E (Knu (Krq hΓ (g:=.d (.ro c.Kids.n c.Kids.xs)) E) (G.Le.unk Lht hl5)) ?_
  refine gO 4 E ?_
  obtain⟨q10,hq10,h11⟩:=Khz h6
  refine Kii 20 E fun hb13=>?_
  refine Kls [(3,.ptr 0 0),(7,.sl 1 q10.1.length)] [.box 32 [I c.Kind,S c.Name,S c.Op,I c.Value.Kind,I c.Value.Number,S c.Value.Words,I c.Value.Version.1,I c.Value.Version.2.1,I c.Value.Version.2.2.1,I c.Value.Version.2.2.2,.d (.ro c.Kids.n c.Kids.xs)],rO 3 1 (eN .i64) q10.1] ?_ ?_
  ·refine gA 1 E ?_
   refine Kjo l5 hq10 (fun i7 s8=>[(1,.d (Sl (eN .i64) known)),(2,I s8.2),(3,.ptr 0 0),(7,.sl 1 s8.1.length),(20,.d (Sl Lcx l5)),(21,I (l5.length:Int)),(22,I (i7:Int))]) (fun s8=>[.box 32 [I c.Kind,S c.Name,S c.Op,I c.Value.Kind,I c.Value.Number,S c.Value.Words,I c.Value.Version.1,I c.Value.Version.2.1,I c.Value.Version.2.2.1,I c.Value.Version.2.2.2,.d (.ro c.Kids.n c.Kids.xs)],rO 3 1 (eN .i64) s8.1]) ⟨⟨E,E,E,E,E,E,E,tV⟩,[],E,.inl E⟩ (fun i7 x9 s8 y17 hx14 hlt hy15=>?_) (?_)
   ·refine gA 6 E ?_
    refine Kht E (dT (Int.ofNat_lt.2 hlt)) ?_
    refine gA 6 E ?_
    refine eo_o E (Kij hΓ (enc:=Lcx) (Kic hx14) E E E E E (fun _=>E)) ?_
    refine gO 1 E ?_
    refine Ksc hΓ E E E Z ?_
    refine Ksh hΓ E E E E E E E E Z ?_
    refine Kjh [.box 32 [I c.Kind,S c.Name,S c.Op,I c.Value.Kind,I c.Value.Number,S c.Value.Words,I c.Value.Version.1,I c.Value.Version.2.1,I c.Value.Version.2.2.1,I c.Value.Version.2.2.2,.d (.ro c.Kids.n c.Kids.xs)],rO 3 1 (eN .i64) s8.1,.box 32 [I x9.Kind,S x9.Name,S x9.Op,I x9.Value.Kind,I x9.Value.Number,S x9.Value.Words,I x9.Value.Version.1,I x9.Value.Version.2.1,I x9.Value.Version.2.2.1,I x9.Value.Version.2.2.2,.d (.ro x9.Kids.n x9.Kids.xs)]] E ?_
    obtain⟨y18,hy18,h19⟩:=Khz hy15
    refine gO 8 E ?_
    refine Kiz C (ih hy18) E Z E E E E E ?_
    refine Kit hΓ (enc:=(eN .i64)) [y18] E E E E E E E E E E E E Z ?_
    obtain⟨y20,hy20,h21⟩:=Khz h19
    refine Kji hΓ (enc:=(eN .i64)) hy20 E E E E E E E E E (fun _=>E) E E E E ?_
    obtain⟨y22,hy22,h23⟩:=Khz h21
    refine gO 6 E ?_
    refine Kiz C (Lkp hy22) E Z E E E E E ?_
    refine gO 9 E ?_
    obtain rfl:=oSi h23
    exact⟨⟨E,E,E,E,E,E,Kgv E (Kgu (nLl hlt hb13)),tV⟩,[_],E,.inr ⟨HB.mk E,FB.mk E,Z⟩⟩
   refine gA 6 E ?_
   refine Khu E (dF (Int.lt_irrefl _)) ?_
   refine gA 4 E ?_
   exact⟨⟨E,E,tV⟩,[],E,.inl E⟩
  obtain⟨q24,hq24,h25⟩:=Khz h11
  refine gA 14 E ?_
  refine Klu (q:=q24) (fun a26=>[(7,.sl 1 q10.1.length),(10,I a26.1),(11,I a26.2)]) (fun a26=>[.box 32 [I c.Kind,S c.Name,S c.Op,I c.Value.Kind,I c.Value.Number,S c.Value.Words,I c.Value.Version.1,I c.Value.Version.2.1,I c.Value.Version.2.2.1,I c.Value.Version.2.2.2,.d (.ro c.Kids.n c.Kids.xs)],rO 3 1 (eN .i64) q10.1]) ?_ ?_
  ·refine gA 7 E ?_
   refine Khs E (fun hb=>?_) (fun hb=>?_)
   ·have h27:=cT hq24 hb
    refine gA 2 E ?_
    refine Kit hΓ (enc:=(eN .i64)) [1,0,2] E E E E E E E E E E E E Z ?_
    obtain⟨x28,hx28,h29⟩:=Khz h27
    have hj30:=Kjr hx28
    refine gO 1 E ?_
    refine eo_o E (Kil hΓ hx28 E E E E E E) ?_
    refine eo_o E (Kiq hΓ (sz:=1) (enc:=(eN .i64)) ((0:Int).toNat) 0 hj30 E E E E (fun _=>E) (g:=I x28) E) ?_
    obtain⟨x31,hx31,h32⟩:=Khz h29
    refine eo_o E (Kij hΓ (enc:=(eN .i64)) hx31 E E E E E (fun _=>E)) ?_
    refine gO 6 E ?_
    obtain⟨v33,hv33,h34⟩:=Khz h32
    obtain rfl:=oSi h34
    obtain rfl:=oSi h25
    refine gA 2 E ?_
    obtain rfl:=oSi hv33
    exact gP E E
   have h35:=cF hq24 hb
   refine gA 6 E ?_
   refine Khs E (fun hb=>?_) (fun hb=>?_)
   ·have h36:=cT h35 hb
    refine gA 7 E ?_
    obtain rfl:=oSi h36
    exact⟨_,E,⟨⟨E,E,E,tV⟩,[],E,.inl E⟩⟩
   have h37:=cF h35 hb
   refine gA 2 E ?_
   obtain rfl:=oSi h37
   exact⟨_,E,⟨⟨E,E,E,tV⟩,[],E,.inl E⟩⟩
  intro a26 ha
  subst ha
  replace h25:=Klk h25
  obtain⟨y38,hy38,h39⟩:=Khz h25
  refine gA 7 E ?_
  refine Kjc C (Llr hy38) E Z E E E E E ?_
  refine gO 3 E ?_
  refine Khs E (fun hb=>?_) (fun hb=>?_)
  ·have h40:=cT h39 hb
   refine gA 9 E ?_
   obtain rfl:=oSi h40
   exact gP E E
  have h41:=cF h39 hb
  obtain⟨y42,hy42,h43⟩:=Khz h41
  refine gA 3 E ?_
  refine Kjc C (Llr hy42) E Z E E E E E ?_
  refine gO 3 E ?_
  refine Khs E (fun hb=>?_) (fun hb=>?_)
  ·have h44:=cT h43 hb
   refine gA 8 E ?_
   obtain rfl:=oSi h44
   exact gP E E
  have h45:=cF h43 hb
  refine gA 10 E ?_
  obtain rfl:=oSi h45
  exact gP E E
theorem Llt{k:Nat}{c:Lcw}{l:List Lcy}{fresh:Int}{node:Str}{v_at:Int}{r:Int}(h:Lgs k c l fresh node v_at=some r):Pure Tryz.prog 30 [.agg [I c.Kind,S c.Name,S c.Op,I c.Value.Kind,I c.Value.Number,S c.Value.Words,I c.Value.Version.1,I c.Value.Version.2.1,I c.Value.Version.2.2.1,I c.Value.Version.2.2.2,.d (.ro c.Kids.n c.Kids.xs)],.d (Sl Lcn l),I fresh,S node,I v_at] (I r):=by
 unfold Lgs at h
 exact QP Tryz.func30 E E E<|gA 2 E<|Ksd E E E E Z<|gO 4 E<|jD<|bK h fun y1 hy1 h2=>gA 6 E<|Kja C (Pure.rows (Llp hy1) E E) E E E E E E<|bK h2 fun y3 hy3 h4=>Kja C (Lls hy3) E E E E E E<|Khq hΓ 4 E<|oSi h4▸gP E E
theorem Llu{k:Nat}{c:Lcw}{known:List Int}{v_some:List Int}{want:Int}{r:Bool}(h:Lgt k c known v_some want=some r):Pure Tryz.prog 109 [.agg [I c.Kind,S c.Name,S c.Op,I c.Value.Kind,I c.Value.Number,S c.Value.Words,I c.Value.Version.1,I c.Value.Version.2.1,I c.Value.Version.2.2.1,I c.Value.Version.2.2.2,.d (.ro c.Kids.n c.Kids.xs)],.d (Sl (eN .i64) known),.d (Sl (eN .i64) v_some),I want] (B r):=by
 unfold Lgt at h
 refine QP Tryz.func109 E E E<|gA 2 E<|Ksd E E E E Z<|bK h fun y1 hy1 h2=>gO 7 E<|Kon hΓ (enc:=(eN .i64)) hy1 E E E E E E E E E E E Z<|gO 11 E<|bK h2 fun q6 hq6 h7=>gK hq6 fun hb9 h10=>?_
 replace hb9:=of_decide_eq_true hb9
 refine Kls [(3,I want),(4,.ptr 0 0),(9,.sl 1 q6.length)] [.box 32 [I c.Kind,S c.Name,S c.Op,I c.Value.Kind,I c.Value.Number,S c.Value.Words,I c.Value.Version.1,I c.Value.Version.2.1,I c.Value.Version.2.2.1,I c.Value.Version.2.2.2,.d (.ro c.Kids.n c.Kids.xs)],rO 3 1 (eN .i64) q6] ?_ ?_
 ·refine gA 1 E<|Kjq h10 (fun i3 s4=>[(1,.d (Sl (eN .i64) known)),(2,.d (Sl (eN .i64) v_some)),(3,I want),(4,.ptr 0 0),(9,.sl 1 s4.length),(15,I (y1.length:Int)),(16,I (i3:Int))]) (fun s4=>[.box 32 [I c.Kind,S c.Name,S c.Op,I c.Value.Kind,I c.Value.Number,S c.Value.Words,I c.Value.Version.1,I c.Value.Version.2.1,I c.Value.Version.2.2.1,I c.Value.Version.2.2.2,.d (.ro c.Kids.n c.Kids.xs)],rO 3 1 (eN .i64) s4]) ⟨⟨E,E,E,E,E,E,E,tV⟩,[],E,.inl E⟩ (fun i3 s4 y14 hlt hy12=>?_) (fun hge=>?_)
  ·refine gA 6 E<|Kht E (dT hlt)<|bK hy12 fun x15 hx15 h16=>?_
   have hj17:=Kjr hx15
   refine gA 14 E<|eo_o E (Kil hΓ hx15 E E E E E E)<|Kis hΓ (enc:=(eN .i64)) (z':=2) ((i3:Int).toNat) 0 hj17 E E E E (fun _=>E) E E E E E E Z<|Kjh [.box 32 [I c.Kind,S c.Name,S c.Op,I c.Value.Kind,I c.Value.Number,S c.Value.Words,I c.Value.Version.1,I c.Value.Version.2.1,I c.Value.Version.2.2.1,I c.Value.Version.2.2.2,.d (.ro c.Kids.n c.Kids.xs)],rO 3 1 (eN .i64) (s4.set ((i3:Int).toNat) 2)] E<|Kmc 9 (n':=(s4.set ((i3:Int).toNat) 2).length) E List.length_set.symm<|bK h16 fun y18 hy18 h19=>gO 6 E<|Kiz C (Llr hy18) E Z E E E E E<|gO 2 E<|jC E h19 (fun h20=>?_) fun h26=>gA 7 E<|oSi h26▸⟨⟨E,E,E,E,E,E,Kgv E (Kgu (by omega)),tV⟩,[],E,.inl E⟩
   refine bK h20 fun x21 hx21 h22=>gA 5 E<|eo_o E (Kij hΓ (enc:=(eN .i64)) hx21 E E E E E (fun _=>E))<|bK h22 fun x23 hx23 h24=>?_
   have hj25:=Kjr hx23
   exact gO 1 E<|eo_o E (Kil hΓ hx23 E E E E E E)<|Kis hΓ (enc:=(eN .i64)) (z':=x21) ((i3:Int).toNat) 0 hj25 E E E E (fun _=>E) E E E E E E Z<|Kjh [.box 32 [I c.Kind,S c.Name,S c.Op,I c.Value.Kind,I c.Value.Number,S c.Value.Words,I c.Value.Version.1,I c.Value.Version.2.1,I c.Value.Version.2.2.1,I c.Value.Version.2.2.2,.d (.ro c.Kids.n c.Kids.xs)],rO 3 1 (eN .i64) ((s4.set ((i3:Int).toNat) 2).set ((i3:Int).toNat) x21)] E<|Kmc 9 (n':=((s4.set ((i3:Int).toNat) 2).set ((i3:Int).toNat) x21).length) E List.length_set.symm<|gO 7 E<|oSi h24▸⟨⟨E,E,E,E,E,E,Kgv E (Kgu (by omega)),tV⟩,[],E,.inl E⟩
  exact gA 6 E<|Khu E (dF hge)<|gA 4 E<|⟨⟨E,E,E,tV⟩,[],E,.inl E⟩
 exact bK h7 fun y27 hy27 h28=>gA 5 E<|Kjc C (Lls hy27) E Z E E E E E<|gO 6 E<|oSi h28▸gP E E
theorem Llv{k:Nat}{v_some:List Int}{v_from:Int}{left:Int}{x:Lcw}{x2:List Int}{x3:Int}{r:Tl Int}(h:Lgu k v_some v_from left x x2 x3=some r):EC Tryz.prog 108 [.d (Sl (eN .i64) v_some),I v_from,I left,.ptr 0 0,.ptr 1 0,.ptr 2 0,.ptr 3 0] [.box 32 [I x.Kind,S x.Name,S x.Op,I x.Value.Kind,I x.Value.Number,S x.Value.Words,I x.Value.Version.1,I x.Value.Version.2.1,I x.Value.Version.2.2.1,I x.Value.Version.2.2.2,.d (.ro x.Kids.n x.Kids.xs)],.box 22 [.d (Sl (eN .i64) x2)],.box 3 [I x3],.box 154 [.fn (.func 108) [] [.ptr 0 0,.ptr 1 0,.ptr 2 0,.ptr 3 0]]] fun g hp'=>g=.d (Slt 3 1 (eN .i64) r)∧hp'=[.box 32 [I x.Kind,S x.Name,S x.Op,I x.Value.Kind,I x.Value.Number,S x.Value.Words,I x.Value.Version.1,I x.Value.Version.2.1,I x.Value.Version.2.2.1,I x.Value.Version.2.2.2,.d (.ro x.Kids.n x.Kids.xs)],.box 22 [.d (Sl (eN .i64) x2)],.box 3 [I x3],.box 154 [.fn (.func 108) [] [.ptr 0 0,.ptr 1 0,.ptr 2 0,.ptr 3 0]]]:=by
 induction k generalizing v_some v_from left x x2 x3 r with
 | zero=>unfold Lgu at h;cases h
 | succ k ih0=>
  have ih:∀ {v_some:List Int} {v_from:Int} {left:Int} {x:Lcw} {x2:List Int} {x3:Int} {r:Tl Int},Lgu k v_some v_from left x x2 x3=some r→EC Tryz.prog 108 [.d (Sl (eN .i64) v_some),I v_from,I left,.ptr 0 0,.ptr 1 0,.ptr 2 0,.ptr 3 0] [.box 32 [I x.Kind,S x.Name,S x.Op,I x.Value.Kind,I x.Value.Number,S x.Value.Words,I x.Value.Version.1,I x.Value.Version.2.1,I x.Value.Version.2.2.1,I x.Value.Version.2.2.2,.d (.ro x.Kids.n x.Kids.xs)],.box 22 [.d (Sl (eN .i64) x2)],.box 3 [I x3],.box 154 [.fn (.func 108) [] [.ptr 0 0,.ptr 1 0,.ptr 2 0,.ptr 3 0]]] fun g hp'=>g=.d (Slt 3 1 (eN .i64) r)∧hp'=[.box 32 [I x.Kind,S x.Name,S x.Op,I x.Value.Kind,I x.Value.Number,S x.Value.Words,I x.Value.Version.1,I x.Value.Version.2.1,I x.Value.Version.2.2.1,I x.Value.Version.2.2.2,.d (.ro x.Kids.n x.Kids.xs)],.box 22 [.d (Sl (eN .i64) x2)],.box 3 [I x3],.box 154 [.fn (.func 108) [] [.ptr 0 0,.ptr 1 0,.ptr 2 0,.ptr 3 0]]]:=by intro v_some v_from left x x2 x3 r h;first | exact ih0 h | exact ih0 _ _ _ _ _ _ _ h
  refine Kqo (Fr.of 0 _) Tryz.func108 E (Fr.of_ok _) Z fun _=>?_
  refine Khr ?_
  unfold Lgu at h
  refine gA 2 E ?_
  refine eo_o E (Kpo 3 1 (eN .i64)) ?_
  refine gO 9 E ?_
  refine Khs E (fun hb=>?_) (fun hb=>?_)
  ·have h1:=cT h hb
   obtain⟨y2,hy2,h3⟩:=Khz h1
   refine gA 7 E ?_
   refine Kiz C (Llu hy2) E Z E E E E E ?_
   refine gO 2 E ?_
   refine Khs E (fun hb=>?_) (fun hb=>?_)
   ·have h4:=cT h3 hb
    refine gA 3 E ?_
    refine Ksi 20 (g':=.d (Slt 3 1 (eN .i64) (0,v_some))) E G.Le.tag0 ?_
    refine gO 6 E ?_
    obtain rfl:=oSi h4
    exact Kjm hΓ [] (.inr E) E E E E (.inl E)
   have h5:=cF h3 hb
   refine gA 4 E ?_
   refine eo_o E (Kpo 3 1 (eN .i64)) ?_
   refine gO 4 E ?_
   obtain rfl:=oSi h5
   exact Kjm hΓ [] (.inr E) E E E E (.inl E)
  have h6:=cF h hb
  refine gA 9 E ?_
  obtain⟨q10,hq10,h11⟩:=Khz h6
  refine Klr (R:=fun a12=>q10=.inl a12) (fun a12=>[]) (fun a12=>[.box 32 [I x.Kind,S x.Name,S x.Op,I x.Value.Kind,I x.Value.Number,S x.Value.Words,I x.Value.Version.1,I x.Value.Version.2.1,I x.Value.Version.2.2.1,I x.Value.Version.2.2.2,.d (.ro x.Kids.n x.Kids.xs)],.box 22 [.d (Sl (eN .i64) x2)],.box 3 [I x3],.box 154 [.fn (.func 108) [] [.ptr 0 0,.ptr 1 0,.ptr 2 0,.ptr 3 0]]]) ?_ ?_
  ·refine gA 1 E ?_
   refine Kif hq10 (fun s8=>[(0,.d (Sl (eN .i64) v_some)),(2,I left),(4,.ptr 1 0),(6,.ptr 3 0),(11,I s8)]) (fun s8=>[.box 32 [I x.Kind,S x.Name,S x.Op,I x.Value.Kind,I x.Value.Number,S x.Value.Words,I x.Value.Version.1,I x.Value.Version.2.1,I x.Value.Version.2.2.1,I x.Value.Version.2.2.2,.d (.ro x.Kids.n x.Kids.xs)],.box 22 [.d (Sl (eN .i64) x2)],.box 3 [I x3],.box 154 [.fn (.func 108) [] [.ptr 0 0,.ptr 1 0,.ptr 2 0,.ptr 3 0]]]) ⟨⟨E,E,E,E,E,tV⟩,[],E,.inl E⟩ (fun s8 y16 hy14 hout15=>?_)
   refine gA 11 E ?_
   refine Khs E (fun hb=>?_) (fun hb=>?_)
   ·have h17:=cT hy14 hb
    obtain⟨x18,hx18,h19⟩:=Khz h17
    refine gA 9 E ?_
    refine eo_o E (Kij hΓ (enc:=(eN .i64)) hx18 E E E E E (fun _=>E)) ?_
    refine gO 4 E ?_
    refine Khs E (fun hb=>?_) (fun hb=>?_)
    ·have h20:=cT h19 hb
     refine gA 9 E ?_
     obtain rfl:=oSi h20
     exact⟨_,E,⟨⟨E,E,E,E,E,tV⟩,[],E,.inl E⟩⟩
    have h21:=cF h19 hb
    refine gA 3 E ?_
    refine Kkv [.dead,.dead,.dead,.box 154 [.fn (.func 108) [] [.ptr 0 0,.ptr 1 0,.ptr 2 0,.ptr 3 0]]] [0] [2,5,10] [] hmix (by kernel_rfl) (by kernel_rfl) ⟨E,tV⟩ Z ?_
    obtain⟨y22,hy22,h23⟩:=Khz h21
    refine go_E hΓ 2 E ?_
    refine ge_h [.box 32 [I x.Kind,S x.Name,S x.Op,I x.Value.Kind,I x.Value.Number,S x.Value.Words,I x.Value.Version.1,I x.Value.Version.2.1,I x.Value.Version.2.2.1,I x.Value.Version.2.2.2,.d (.ro x.Kids.n x.Kids.xs)],.box 22 [.d (Sl (eN .i64) x2)],.box 3 [I x3],.box 154 [.fn (.func 108) [] [.ptr 0 0,.ptr 1 0,.ptr 2 0,.ptr 3 0]],rO 3 1 (eN .i64) y22] E E E (Klb ⟨E,tV⟩) (Klg [] (.sl 4 y22.length) [.box 32 [I x.Kind,S x.Name,S x.Op,I x.Value.Kind,I x.Value.Number,S x.Value.Words,I x.Value.Version.1,I x.Value.Version.2.1,I x.Value.Version.2.2.1,I x.Value.Version.2.2.2,.d (.ro x.Kids.n x.Kids.xs)],.box 22 [.d (Sl (eN .i64) x2)],.box 3 [I x3],.box 154 [.fn (.func 108) [] [.ptr 0 0,.ptr 1 0,.ptr 2 0,.ptr 3 0]],rO 3 1 (eN .i64) y22] C (Lkf hy22) E E E E E E E E E E) ?_
    refine go_E hΓ 1 E ?_
    refine Klh hΓ (enc:=(eN .i64)) [s8] E E E E E E E E E E E E ?_
    obtain⟨y24,hy24,h25⟩:=Khz h23
    refine ge_h [.box 32 [I x.Kind,S x.Name,S x.Op,I x.Value.Kind,I x.Value.Number,S x.Value.Words,I x.Value.Version.1,I x.Value.Version.2.1,I x.Value.Version.2.2.1,I x.Value.Version.2.2.2,.d (.ro x.Kids.n x.Kids.xs)],.box 22 [.d (Sl (eN .i64) x2)],.box 3 [I x3],.box 154 [.fn (.func 108) [] [.ptr 0 0,.ptr 1 0,.ptr 2 0,.ptr 3 0]],.dead,.dead] E E E (Klb ⟨E,tV⟩) (Kle (Kpn (ds:=y24.flatMap (eN .i64)) 5 (nblt.1 E) (Kko hΓ (enc:=(eN .i64)) (id:=4) (h2:=show Γ 3=some ⟨_,1,_,_⟩ from E) hy24 E E E E E E E E (fun _=>E) E) E E E)) ?_
    obtain⟨y26,hy26,h27⟩:=Khz h25
    refine go_E hΓ 4 E ?_
    refine ge_h [.box 32 [I x.Kind,S x.Name,S x.Op,I x.Value.Kind,I x.Value.Number,S x.Value.Words,I x.Value.Version.1,I x.Value.Version.2.1,I x.Value.Version.2.2.1,I x.Value.Version.2.2.2,.d (.ro x.Kids.n x.Kids.xs)],.box 22 [.d (Sl (eN .i64) x2)],.box 3 [I x3],.box 154 [.fn (.func 108) [] [.ptr 0 0,.ptr 1 0,.ptr 2 0,.ptr 3 0]],.dead,.dead] E E E (Klb ⟨E,tV⟩) (Klg [0,1,2,3] (.d (Slt 3 1 (eN .i64) y26)) [.box 32 [I x.Kind,S x.Name,S x.Op,I x.Value.Kind,I x.Value.Number,S x.Value.Words,I x.Value.Version.1,I x.Value.Version.2.1,I x.Value.Version.2.2.1,I x.Value.Version.2.2.2,.d (.ro x.Kids.n x.Kids.xs)],.box 22 [.d (Sl (eN .i64) x2)],.box 3 [I x3],.box 154 [.fn (.func 108) [] [.ptr 0 0,.ptr 1 0,.ptr 2 0,.ptr 3 0]],.dead,.dead] C (ih hy26) E E E E E E E E E E) ?_
    refine go_E hΓ 1 E ?_
    refine Kkw ?_
    obtain⟨b28,hb28,h29⟩:=Khz h27
    refine gA 4 E ?_
    refine eo_o E ((Koh hΓ hb28 E E E E).2) ?_
    refine gO 2 E ?_
    refine Khs E (fun hb=>?_) (fun hb=>?_)
    ·have h30:=cT h29 hb
     refine gA 9 E ?_
     obtain⟨v31,hv31,h32⟩:=Khz h30
     obtain rfl:=oSi h32
     obtain rfl:=hout15 _ rfl
     obtain rfl:=oSi h11
     refine gA 4 E ?_
     obtain rfl:=oSi hv31
     exact Kjm hΓ [_,_] (.inr E) E E E E (.inr ⟨HB.mk E,E⟩)
    have h33:=cF h29 hb
    refine gA 8 E ?_
    obtain rfl:=oSi h33
    exact⟨_,E,⟨⟨E,E,E,E,E,tV⟩,[_,_],E,.inr ⟨HB.mk E,FB.mk E,Z⟩⟩⟩
   have h34:=cF hy14 hb
   refine gA 4 E ?_
   obtain rfl:=oSi h34
   obtain rfl:=hout15 _ rfl
   exact⟨_,E,⟨tV,[],E,.inl E⟩⟩
  intro a12 ha
  subst ha
  replace h11:=Klk h11
  refine gA 3 E ?_
  refine eo_o E (Kpo 3 1 (eN .i64)) ?_
  refine gO 3 E ?_
  obtain rfl:=oSi h11
  exact Kjm hΓ [] (.inr E) E E E E (.inl E)
theorem Llw{k:Nat}{c:Lcw}{l:List Lcy}{fresh:Int}{node:Str}{v_at:Int}{r:List Int}(h:Lgv k c l fresh node v_at=some r):Pure Tryz.prog 32 [.agg [I c.Kind,S c.Name,S c.Op,I c.Value.Kind,I c.Value.Number,S c.Value.Words,I c.Value.Version.1,I c.Value.Version.2.1,I c.Value.Version.2.2.1,I c.Value.Version.2.2.2,.d (.ro c.Kids.n c.Kids.xs)],.d (Sl Lcn l),I fresh,S node,I v_at] (.d (Sl (eN .i64) r)):=by
 unfold Lgv at h
 refine QP Tryz.func32 E E E<|gA 2 E<|Ksd E E E E Z<|bK h fun y1 hy1 h2=>gO 10 E<|Kiz C (Pure.rows (Llp hy1) E E) E Z E E E E E<|Ksc hΓ E E E Z<|Ksh hΓ E E E E E E E E Z<|Kjh [.box 32 [I c.Kind,S c.Name,S c.Op,I c.Value.Kind,I c.Value.Number,S c.Value.Words,I c.Value.Version.1,I c.Value.Version.2.1,I c.Value.Version.2.2.1,I c.Value.Version.2.2.2,.d (.ro c.Kids.n c.Kids.xs)],.box 22 [.d (Sl (eN .i64) y1)]] E<|bK h2 fun y3 hy3 h4=>gO 6 E<|Kiz C (Lls hy3) E Z E E E E E<|Ksc hΓ E E E Z<|Ksh hΓ E E E E E E E E Z<|Kjh [.box 32 [I c.Kind,S c.Name,S c.Op,I c.Value.Kind,I c.Value.Number,S c.Value.Words,I c.Value.Version.1,I c.Value.Version.2.1,I c.Value.Version.2.2.1,I c.Value.Version.2.2.2,.d (.ro c.Kids.n c.Kids.xs)],.box 22 [.d (Sl (eN .i64) y1)],.box 3 [I y3]] E<|gO 9 E<|jC E h4 (fun h5=>?_) fun h6=>gA 4 E<|Ksc hΓ E E E Z<|gO 5 E<|Ksh hΓ E E E E E E E E Z<|Kjh [.box 32 [I c.Kind,S c.Name,S c.Op,I c.Value.Kind,I c.Value.Number,S c.Value.Words,I c.Value.Version.1,I c.Value.Version.2.1,I c.Value.Version.2.2.1,I c.Value.Version.2.2.2,.d (.ro c.Kids.n c.Kids.xs)],.box 22 [.d (Sl (eN .i64) y1)],.box 3 [I y3],.box 154 [.fn (.func 108) [] [.ptr 0 0,.ptr 1 0,.ptr 2 0,.ptr 3 0]]] E<|gO 8 E<|bK h6 fun q10 hq10 h11=>Klr (R:=fun a12=>q10=.inl a12) (fun a12=>[]) (fun a12=>[.box 32 [I c.Kind,S c.Name,S c.Op,I c.Value.Kind,I c.Value.Number,S c.Value.Words,I c.Value.Version.1,I c.Value.Version.2.1,I c.Value.Version.2.2.1,I c.Value.Version.2.2.2,.d (.ro c.Kids.n c.Kids.xs)],.box 22 [.d (Sl (eN .i64) y1)],.box 3 [I y3],.box 154 [.fn (.func 108) [] [.ptr 0 0,.ptr 1 0,.ptr 2 0,.ptr 3 0]]]) ?_ ?_
 ·exact gA 7 E<|oSi h5▸gP E E
 ·refine gA 1 E<|Kif hq10 (fun s8=>[(11,.ptr 1 0),(13,.ptr 3 0),(14,I s8)]) (fun s8=>[.box 32 [I c.Kind,S c.Name,S c.Op,I c.Value.Kind,I c.Value.Number,S c.Value.Words,I c.Value.Version.1,I c.Value.Version.2.1,I c.Value.Version.2.2.1,I c.Value.Version.2.2.2,.d (.ro c.Kids.n c.Kids.xs)],.box 22 [.d (Sl (eN .i64) y1)],.box 3 [I y3],.box 154 [.fn (.func 108) [] [.ptr 0 0,.ptr 1 0,.ptr 2 0,.ptr 3 0]]]) ⟨⟨E,E,E,tV⟩,[],E,.inl E⟩ (fun s8 y16 hy14 hout15=>?_)
  refine gA 9 E<|jC E hy14 (fun h17=>?_) fun h26=>gA 4 E ?_
  ·refine bK h17 fun y18 hy18 h19=>gA 8 E<|Kiy [0,1,2,3] (.d (Slt 3 1 (eN .i64) y18)) [.box 32 [I c.Kind,S c.Name,S c.Op,I c.Value.Kind,I c.Value.Number,S c.Value.Words,I c.Value.Version.1,I c.Value.Version.2.1,I c.Value.Version.2.2.1,I c.Value.Version.2.2.2,.d (.ro c.Kids.n c.Kids.xs)],.box 22 [.d (Sl (eN .i64) y1)],.box 3 [I y3],.box 154 [.fn (.func 108) [] [.ptr 0 0,.ptr 1 0,.ptr 2 0,.ptr 3 0]]] C (Llv hy18) E Z E E E E E E E E E E<|bK h19 fun b20 hb20 h21=>gO 6 E<|eo_o E ((Koh hΓ hb20 E E E E).2)<|gO 2 E<|jC E h21 (fun h22=>?_) fun h25=>gA 8 E<|oSi h25▸⟨_,E,⟨⟨E,E,E,tV⟩,[],E,.inl E⟩⟩
   refine gA 2 E<|eo_o E (Knu (Krq hΓ (g:=.d (Slt 3 1 (eN .i64) y18)) E) G.Le.unt)<|gO 6 E<|bK h22 fun v23 hv23 h24=>?_
   cases h24
   obtain rfl:=hout15 _ rfl
   cases h11
   exact gA 4 E<|oSi hv23▸gP E E
  cases h26
  obtain rfl:=hout15 _ rfl
  exact⟨_,E,⟨tV,[],E,.inl E⟩⟩
 intro a12 ha
 subst ha
 replace h11:=Klk h11
 exact gA 7 E<|oSi h11▸gP E E
theorem Llx{s1:List Int}{s2:List Int}{r:Bool}(h:Lgw s1 s2=some r):Pure Tryz.prog 31 [.d (Sl (eN .i64) s1),.d (Sl (eN .i64) s2)] (B r):=by
 unfold Lgw at h
 refine QP Tryz.func31 E E E<|gA 15 E<|jC E h (fun h1=>?_) fun h2=>gA 10 E<|bK h2 fun q6 hq6 h7=>Kii 0 E fun hb9=>Klr (R:=fun a8=>q6=.go a8) (fun a8=>[]) (fun a8=>[]) ?_ ?_
 ·exact gA 7 E<|oSi h1▸gP E E
 ·refine gA 1 E<|Kih s1 hq6 (fun i3 s4=>[(0,.d (Sl (eN .i64) s1)),(1,.d (Sl (eN .i64) s2)),(12,I (s1.length:Int)),(13,I (i3:Int))]) (fun s4=>[]) ⟨⟨E,E,E,E,tV⟩,[],E,.inl E⟩ (fun i3 x5 s4 y13 hx10 hlt hy11 hout12=>?_) (fun s4 hgo=>?_)
  ·refine gA 6 E<|Kht E (dT (Int.ofNat_lt.2 hlt))<|gA 11 E<|jD<|gA 2 E<|gl_o E (Kij hΓ (enc:=(eN .i64)) (Kic hx10) E E E E E (fun _=>E))<|bK hy11 fun x14 hx14 h15=>Khq hΓ 3 E<|gl_o E (Kij hΓ (enc:=(eN .i64)) hx14 E E E E E (fun _=>E))<|Khq hΓ 4 E<|jC E h15 (fun h16=>?_) fun h19=>gA 7 E ?_
   ·refine gA 8 E<|bK h16 fun v17 hv17 h18=>?_
    cases h18
    obtain rfl:=hout12 _ rfl
    cases h7
    exact gA 4 E<|oSi hv17▸gP E E
   cases h19
   exact⟨_,E,⟨⟨E,E,E,Kgv E (Kgu (nLl hlt hb9)),tV⟩,[],E,.inl E⟩⟩
  subst hgo
  exact gA 6 E<|Khu E (dF (Int.lt_irrefl _))<|gA 4 E<|⟨_,E,⟨tV,[],E,.inl E⟩⟩
 intro a8 ha
 subst ha
 replace h7:=Kll h7
 exact gA 7 E<|oSi h7▸gP E E
theorem Lly{k:Nat}{l:List Lcy}{fresh:Int}{r:List Int}(h:Lgx k l fresh=some r):EC Tryz.prog 111 [.d (Sl Lcn l),I fresh] [] fun g hp'=>g=.sl 0 r.length∧hp'=[rO 3 1 (eN .i64) r]:=by
 unfold Lgx at h
 refine QM Tryz.func111 E Z<|gA 7 E<|Kiv hΓ (enc:=(eN .i64)) [0,345686400] E E E E E E E E E E E E Z<|gO 11 E<|bK h fun q4 hq4 h5=>Kii 9 E fun hb7=>Kls [(5,.sl 0 q4.length)] [rO 3 1 (eN .i64) q4] ?_ ?_
 ·refine gA 1 E<|Kjo l hq4 (fun i1 s2=>[(1,I fresh),(5,.sl 0 s2.length),(9,.d (Sl Lcn l)),(10,I (l.length:Int)),(11,I (i1:Int))]) (fun s2=>[rO 3 1 (eN .i64) s2]) ⟨⟨E,E,E,E,E,tV⟩,[],E,.inl E⟩ (fun i1 x3 s2 y11 hx8 hlt hy9=>?_) (?_)
  ·refine gA 6 E<|Kht E (dT (Int.ofNat_lt.2 hlt))<|gA 6 E<|eo_o E (Kij hΓ (enc:=Lcn) (Kic hx8) E E E E E (fun _=>E))<|gO 1 E<|Ksc hΓ E E E Z<|Ksh hΓ E E E E E E E E Z<|Kjh [rO 3 1 (eN .i64) s2,.box 83 [I x3.At,S x3.Node,S x3.Name,I x3.Value.Kind,I x3.Value.Number,S x3.Value.Words,I x3.Value.Version.1,I x3.Value.Version.2.1,I x3.Value.Version.2.2.1,I x3.Value.Version.2.2.2]] E<|gO 11 E<|Kit hΓ (enc:=(eN .i64)) [x3.At,(if 345686400<(wi (x3.At+fresh)) then 345686400 else wi (x3.At+fresh))] E E E E E E E E E E E E Z<|bK hy9 fun y12 hy12 h13=>Kji hΓ (enc:=(eN .i64)) hy12 E E E E E E E E E (fun _=>E) E E E E<|gO 8 E ?_
   cases h13
   exact⟨⟨E,E,E,E,Kgv E (Kgu (nLl hlt hb7)),tV⟩,[_],E,.inr ⟨HB.mk E,FB.mk E,Z⟩⟩
  exact gA 6 E<|Khu E (dF (Int.lt_irrefl _))<|gA 4 E<|⟨⟨E,tV⟩,[],E,.inl E⟩
 exact bK h5 fun y14 hy14 h15=>gA 4 E<|Kiy [0] (.tup []) [rO 3 1 (eN .i64) y14] C (Lav hy14) E Z E E E E E E E E E E<|gK h15 fun hg17 h16=>Kmc 5 E (of_decide_eq_true hg17).symm<|bK h16 fun y18 hy18 h19=>gO 5 E<|Kiy [0] (.sl 0 y18.length) [rO 3 1 (eN .i64) y18] C (Lkl hy18) E Z E E E E E E E E E E<|gO 4 E<|Kln<|oSi h19▸Kjm hΓ [] (.inr E) E E E E (.inl E)
theorem Llz{k:Nat}{c:Lcw}{l:List Lcy}{fresh:Int}{node:Str}{w:Lcz}{r:Int}(h:Lgy k c l fresh node w=some r):Pure Tryz.prog 33 [.agg [I c.Kind,S c.Name,S c.Op,I c.Value.Kind,I c.Value.Number,S c.Value.Words,I c.Value.Version.1,I c.Value.Version.2.1,I c.Value.Version.2.2.1,I c.Value.Version.2.2.2,.d (.ro c.Kids.n c.Kids.xs)],.d (Sl Lcn l),I fresh,S node,.agg [I w.From,I w.To]] (I r):=by
 unfold Lgy at h
 refine QP Tryz.func33 E E E<|gA 2 E<|Ksd E E E E Z<|Ksd E E E E Z<|bK h fun y1 hy1 h2=>gO 7 E<|Kiz C (Pure.rows (Lly hy1) E E) E Z E E E E E<|gO 17 E<|bK h2 fun q6 hq6 h7=>gK hq6 fun hb9 h10=>?_
 replace hb9:=of_decide_eq_true hb9
 refine Kls [(12,I q6)] [.box 32 [I c.Kind,S c.Name,S c.Op,I c.Value.Kind,I c.Value.Number,S c.Value.Words,I c.Value.Version.1,I c.Value.Version.2.1,I c.Value.Version.2.2.1,I c.Value.Version.2.2.2,.d (.ro c.Kids.n c.Kids.xs)],.box 46 [I w.From,I w.To]] ?_ ?_
 ·refine gA 1 E<|Kjq h10 (fun i3 s4=>[(1,.d (Sl Lcn l)),(2,I fresh),(3,S node),(5,.ptr 0 0),(9,.ptr 1 0),(11,.d (Sl (eN .i64) y1)),(12,I s4),(19,I (wi ((y1.length:Int) - 1))),(20,I (i3:Int))]) (fun s4=>[.box 32 [I c.Kind,S c.Name,S c.Op,I c.Value.Kind,I c.Value.Number,S c.Value.Words,I c.Value.Version.1,I c.Value.Version.2.1,I c.Value.Version.2.2.1,I c.Value.Version.2.2.2,.d (.ro c.Kids.n c.Kids.xs)],.box 46 [I w.From,I w.To]]) ⟨⟨E,E,E,E,E,E,E,E,E,tV⟩,[],E,.inl E⟩ (fun i3 s4 y14 hlt hy12=>?_) (fun hge=>?_)
  ·refine gA 6 E<|Kht E (dT hlt)<|gA 11 E<|jD<|bK hy12 fun x15 hx15 h16=>gA 6 E<|gl_o E (Kij hΓ (enc:=(eN .i64)) hx15 E E E E E (fun _=>E))<|bK h16 fun y17 hy17 h18=>Khq hΓ 1 E<|Kja C (Llt hy17) E E E E E E<|Khq hΓ 3 E<|jC E h18 (fun h19=>?_) fun h24=>gA 7 E<|oSi h24▸⟨⟨E,E,E,E,E,E,E,E,Kgv E (Kgu (by omega)),tV⟩,[],E,.inl E⟩
   exact jD<|bK h19 fun x20 hx20 h21=>gA 4 E<|gl_o E (Kij hΓ (enc:=(eN .i64)) hx20 E E E E E (fun _=>E))<|bK h21 fun x22 hx22 h23=>Khq hΓ 6 E<|gl_o E (Kij hΓ (enc:=(eN .i64)) hx22 E E E E E (fun _=>E))<|Khq hΓ 15 E<|oSi h23▸⟨⟨E,E,E,E,E,E,E,E,Kgv E (Kgu (by omega)),tV⟩,[],E,.inl E⟩
  exact gA 6 E<|Khu E (dF hge)<|gA 4 E<|⟨⟨E,tV⟩,[],E,.inl E⟩
 exact gA 8 E<|oSi h7▸gP E E
theorem Lma{k:Nat}{s:Str}{v_at:Int}{r:Int}(h:Lgz k s v_at=some r):Pure Tryz.prog 279 [S s,I v_at] (I r):=by
 unfold Lgz at h
 refine QP Tryz.func279 E E E<|gA 6 E<|bK h fun q4 hq4 h5=>Kls [(1,I q4)] [] ?_ ?_
 ·refine gA 1 E<|Kif hq4 (fun s2=>[(0,S s),(1,I s2)]) (fun s2=>[]) ⟨⟨E,E,tV⟩,[],E,.inl E⟩ (fun s2 y10 hy8 hout9=>?_)
  refine gA 8 E<|bK hy8 fun q11 hq11 h12=>Khy 5 [(0,S s),(1,I s2),(14,B q11)] [] ?_ ?_
  ·refine Kqw E E (fun hb=>?_) (fun hb=>?_)
   ·have h13:=cT hq11 hb
    exact bK h13 fun c14 hc14 h15=>gO 2 E<|Kqu E<|eo_o E (Kik hΓ hc14 E E E E)<|bK h15 fun y16 hy16 h17=>Kqu E<|Kiz C (Ljf hy16) E Z E E E E E<|gO 2 E<|oSi h17▸⟨⟨E,E,E,tV⟩,[],E,.inl E⟩
   have h18:=cF hq11 hb
   exact gO 6 E<|oSi h18▸⟨⟨E,E,E,tV⟩,[],E,.inl E⟩
  refine gO 2 E<|jC E h12 (fun h19=>?_) fun h20=>gA 4 E ?_
  ·exact gA 9 E<|oSi h19▸⟨_,E,⟨⟨E,E,tV⟩,[],E,.inl E⟩⟩
  cases h20
  obtain rfl:=hout9 _ rfl
  exact⟨⟨E,tV⟩,[],E,.inl E⟩
 exact gA 8 E<|oSi h5▸gP E E
theorem Lmb{k:Nat}{s:Str}{most:Int}{r:Int×Bool}(h:Lha k s most=some r):Pure Tryz.prog 335 [S s,I most] (.tup [I r.1,B r.2]):=by
 unfold Lha at h
 refine QP Tryz.func335 E E E<|bK h fun y1 hy1 h2=>gA 9 E<|Kiz C (Lan hy1) E Z E E E E E<|gO 9 E<|Khy 5 [(0,S s),(6,S y1),(19,B (((y1:Str)==[])||(decide (((y1.length:Int):Int)>most))))] [] ?_ ?_
 ·refine Kqw E E (fun hb=>?_) (fun hb=>?_)
  ·exact gO 6 E<|⟨⟨E,E,Kgw E (or_t hb),tV⟩,[],E,.inl E⟩
  exact gO 6 E<|⟨⟨E,E,Kgw E (or_f hb),tV⟩,[],E,.inl E⟩
 refine gO 1 E<|bK h2 fun q3 hq3 h4=>Khy 8 [(0,S s),(6,S y1),(28,B q3)] [] ?_ ?_
 ·refine Kqw E E (fun hb=>?_) (fun hb=>?_)
  ·have h5:=cT hq3 hb
   exact gO 9 E<|oSi h5▸⟨⟨E,E,E,tV⟩,[],E,.inl E⟩
  have h6:=cF hq3 hb
  refine bK h6 fun c7 hc7 h8=>gO 1 E<|Kqu E<|eo_o E (Kik hΓ hc7 E E E E)<|gO 2 E<|Khy 3 [(0,S s),(6,S y1),(20,B false),(27,B ((((c7.toNat:Int):Int)==48)&&(!((s:Str)==[48]))))] [] ?_ ?_
  ·refine Kqw E E (fun hb=>?_) (fun hb=>?_)
   ·exact gO 4 E<|⟨⟨E,E,E,Kgw E (Kjs hb),tV⟩,[],E,.inl E⟩
   exact gO 4 E<|⟨⟨E,E,E,Kgw E (Kjt hb),tV⟩,[],E,.inl E⟩
  exact gO 2 E<|oSi h8▸⟨⟨E,E,E,tV⟩,[],E,.inl E⟩
 refine gO 2 E<|jC E h4 (fun h9=>?_) fun h10=>gA 8 E<|bK h10 fun q14 hq14 h15=>Klr (R:=fun a16=>q14=.inl a16) (fun a16=>[(0,S s)]) (fun a16=>[]) ?_ ?_
 ·exact gA 8 E<|oSi h9▸gP E E
 ·refine gA 1 E<|Kif hq14 (fun s12=>[(0,S s),(6,S y1),(7,I s12)]) (fun s12=>[]) ⟨⟨E,E,E,tV⟩,[],E,.inl E⟩ (fun s12 y20 hy18 hout19=>?_)
  refine gA 9 E<|jC E hy18 (fun h21=>?_) fun h34=>gA 4 E ?_
  ·refine bK h21 fun c22 hc22 h23=>gA 8 E<|eo_o E (Kik hΓ hc22 E E E E)<|gO 2 E<|bK h23 fun q24 hq24 h25=>Khy 5 [(0,S s),(6,S y1),(7,I s12),(44,B q24)] [] ?_ ?_
   ·refine Kqw E E (fun hb=>?_) (fun hb=>?_)
    ·have h26:=cT hq24 hb
     exact gO 6 E<|oSi h26▸⟨⟨E,E,E,E,tV⟩,[],E,.inl E⟩
    have h27:=cF hq24 hb
    exact bK h27 fun c28 hc28 h29=>gO 2 E<|Kqu E<|eo_o E (Kik hΓ hc28 E E E E)<|gO 3 E<|oSi h29▸⟨⟨E,E,E,E,tV⟩,[],E,.inl E⟩
   refine gO 2 E<|jC E h25 (fun h30=>?_) fun h33=>gA 8 E<|oSi h33▸⟨_,E,⟨⟨E,E,E,tV⟩,[],E,.inl E⟩⟩
   refine gA 9 E<|bK h30 fun v31 hv31 h32=>?_
   cases h32
   obtain rfl:=hout19 _ rfl
   cases h15
   exact gA 4 E<|oSi hv31▸gP E E
  cases h34
  obtain rfl:=hout19 _ rfl
  exact⟨_,E,⟨⟨E,tV⟩,[],E,.inl E⟩⟩
 intro a16 ha
 subst ha
 replace h15:=Klk h15
 exact bK h15 fun y35 hy35 h36=>gA 4 E<|Kiz C (Las hy35) E Z E E E E E<|gO 8 E<|jD<|gA 2 E<|gl_o E (Kol hΓ E E E E)<|Khq hΓ 5 E<|oSi h36▸gP E E
theorem Lmc{k:Nat}{s:Str}{r:Int×Bool}(h:Lhb k s=some r):Pure Tryz.prog 280 [S s] (.tup [I r.1,B r.2]):=by
 unfold Lhb at h
 exact QP Tryz.func280 E E E<|bK h fun y1 hy1 h2=>gA 9 E<|Kiz C (Lmb hy1) E Z E E E E E<|gO 7 E<|oSi h2▸gP E E
theorem Lmd{k:Nat}{t:Ldd}{s:Str}{r:Ldd}(h:Lhc k t s=some r):EC Tryz.prog 213 [.ptr 0 0,S s] [.box 129 [S t.kind,I t.v_at,I t.v_end,S t.name,I t.value.Kind,I t.value.Number,S t.value.Words,I t.value.Version.1,I t.value.Version.2.1,I t.value.Version.2.2.1,I t.value.Version.2.2.2]] fun g hp'=>g=.tup []∧hp'=[.box 129 [S r.kind,I r.v_at,I r.v_end,S r.name,I r.value.Kind,I r.value.Number,S r.value.Words,I r.value.Version.1,I r.value.Version.2.1,I r.value.Version.2.2.1,I r.value.Version.2.2.2]]:=by
 unfold Lhc at h
 refine QN Tryz.func213 E Z<|bK h fun c1 hc1 h2=>gA 14 E<|eo_o E (Kik hΓ hc1 E E E E)<|bK h2 fun q3 hq3 h4=>gO 3 E<|Kls [(0,.ptr 0 0),(1,S s),(4,I q3)] [.box 129 [S t.kind,I t.v_at,I t.v_end,S t.name,I t.value.Kind,I t.value.Number,S t.value.Words,I t.value.Version.1,I t.value.Version.2.1,I t.value.Version.2.2.1,I t.value.Version.2.2.2]] ?_ ?_
 ·refine jC E hq3 (fun h5=>?_) fun h6=>gA 1 E<|oSi h6▸⟨⟨E,E,E,tV⟩,[],E,.inl E⟩
  exact gA 5 E<|oSi h5▸⟨⟨E,E,E,tV⟩,[],E,.inl E⟩
 refine bK h4 fun y7 hy7 h8=>gA 6 E<|Kiz C (Lma hy7) E Z E E E E E<|gO 2 E<|Ksh hΓ E E E E E E E E Z<|Kjh [.box 129 [S t.kind,I t.v_at,I y7,S t.name,I t.value.Kind,I t.value.Number,S t.value.Words,I t.value.Version.1,I t.value.Version.2.1,I t.value.Version.2.2.1,I t.value.Version.2.2.2]] E<|gO 3 E<|jD<|bK h8 fun z9 hz9 h10=>gA 9 E<|gl_o E (Kim hΓ hz9 E E E E E)<|bK h10 fun y11 hy11 h12=>Kja C (Lmc hy11) E E E E E E<|Khq hΓ 12 E<|jC E h12 (fun h13=>?_) fun h14=>gA 1 E<|oSi h14▸Kjm hΓ [] (.inl E) E E E E (.inl E)
 exact gA 4 E<|Kfq hΓ (gs:=[I 1,I y11.1,S [],I 0,I 0,I 0,I 0]) E E E E E E E<|gO 2 E<|Ksh hΓ E E E E E E E E Z<|Kjh [.box 129 [S [118,97,108,117,101],I t.v_at,I y7,S t.name,I t.value.Kind,I t.value.Number,S t.value.Words,I t.value.Version.1,I t.value.Version.2.1,I t.value.Version.2.2.1,I t.value.Version.2.2.2]] E<|gO 2 E<|Ksh hΓ E E E E E E E E Z<|Kjh [.box 129 [S [118,97,108,117,101],I t.v_at,I y7,S t.name,I 1,I y11.1,S [],I 0,I 0,I 0,I 0]] E<|gO 1 E<|oSi h13▸Kjm hΓ [] (.inl E) E E E E (.inl E)
theorem Lme{k:Nat}{t:Ldd}{s:Str}{r:Ldd}(h:Lhd k t s=some r):EC Tryz.prog 214 [.ptr 0 0,S s] [.box 129 [S t.kind,I t.v_at,I t.v_end,S t.name,I t.value.Kind,I t.value.Number,S t.value.Words,I t.value.Version.1,I t.value.Version.2.1,I t.value.Version.2.2.1,I t.value.Version.2.2.2]] fun g hp'=>g=.tup []∧hp'=[.box 129 [S r.kind,I r.v_at,I r.v_end,S r.name,I r.value.Kind,I r.value.Number,S r.value.Words,I r.value.Version.1,I r.value.Version.2.1,I r.value.Version.2.2.1,I r.value.Version.2.2.2]]:=by
 unfold Lhd at h
 refine QN Tryz.func214 E Z<|gA 2 E<|Kiw (t:=0) 5 1 E Z<|gO 12 E<|bK h fun q4 hq4 h5=>Klr (R:=fun a6=>q4=.inl a6) (fun a6=>[]) (fun a6=>[.box 129 [S t.kind,I t.v_at,I t.v_end,S t.name,I t.value.Kind,I t.value.Number,S t.value.Words,I t.value.Version.1,I t.value.Version.2.1,I t.value.Version.2.2.1,I t.value.Version.2.2.2],rO 5 1 (eN .u8) a6]) ?_ ?_
 ·refine gA 1 E<|Kif hq4 (fun s2=>[(0,.ptr 0 0),(1,S s),(4,.sl 1 s2.1.length),(5,I s2.2)]) (fun s2=>[.box 129 [S t.kind,I t.v_at,I t.v_end,S t.name,I t.value.Kind,I t.value.Number,S t.value.Words,I t.value.Version.1,I t.value.Version.2.1,I t.value.Version.2.2.1,I t.value.Version.2.2.2],rO 5 1 (eN .u8) s2.1]) ⟨⟨E,E,E,E,tV⟩,[],E,.inl E⟩ (fun s2 y10 hy8 hout9=>?_)
  refine gA 9 E<|Khs E (fun hb=>?_) (fun hb=>?_)
  ·have h11:=cT hy8 hb
   refine bK h11 fun c12 hc12 h13=>gA 8 E<|eo_o E (Kik hΓ hc12 E E E E)<|bK h13 fun q14 hq14 h15=>gO 4 E<|Klu (q:=q14) (fun a16=>[(0,.ptr 0 0),(1,S s),(4,.sl 1 s2.1.length),(5,I a16.1),(6,.d (.v (.int .u8 a16.2)))]) (fun a16=>[.box 129 [S t.kind,I t.v_at,I t.v_end,S t.name,I t.value.Kind,I t.value.Number,S t.value.Words,I t.value.Version.1,I t.value.Version.2.1,I t.value.Version.2.2.1,I t.value.Version.2.2.2],rO 5 1 (eN .u8) s2.1]) ?_ ?_
   ·refine gA 8 E<|Khs E (fun hb=>?_) (fun hb=>?_)
    ·have h17:=cT hq14 hb
     refine bK h17 fun y18 hy18 h19=>gA 8 E<|eo_o E (Kjx hΓ hy18 E E E E E E E E E)<|Kfq hΓ (gs:=[I 2,I 0,S y18,I 0,I 0,I 0,I 0]) E E E E E E E<|gO 2 E<|Ksh hΓ E E E E E E E E Z<|Kjh [.box 129 [S [118,97,108,117,101],I t.v_at,I t.v_end,S t.name,I t.value.Kind,I t.value.Number,S t.value.Words,I t.value.Version.1,I t.value.Version.2.1,I t.value.Version.2.2.1,I t.value.Version.2.2.2],rO 5 1 (eN .u8) s2.1] E<|gO 2 E<|Ksh hΓ E E E E E E E E Z<|Kjh [.box 129 [S [118,97,108,117,101],I t.v_at,I (wi (s2.2+1)),S t.name,I t.value.Kind,I t.value.Number,S t.value.Words,I t.value.Version.1,I t.value.Version.2.1,I t.value.Version.2.2.1,I t.value.Version.2.2.2],rO 5 1 (eN .u8) s2.1] E<|gO 2 E<|Ksh hΓ E E E E E E E E Z<|Kjh [.box 129 [S [118,97,108,117,101],I t.v_at,I (wi (s2.2+1)),S t.name,I 2,I 0,S y18,I 0,I 0,I 0,I 0],rO 5 1 (eN .u8) s2.1] E<|gO 4 E<|bK h19 fun v20 hv20 h21=>?_
     cases h21
     cases h15
     refine gA 4 E<|bK hv20 fun v22 hv22 h23=>?_
     cases h23
     obtain rfl:=hout9 _ rfl
     cases h5
     exact gA 3 E<|oSi hv22▸Kjm hΓ [_] (.inr E) E E E E (.inr ⟨HB.mk E,E⟩)
    have h24:=cF hq14 hb
    refine gA 5 E<|Khy 3 [(0,.ptr 0 0),(1,S s),(4,.sl 1 s2.1.length),(5,I s2.2),(6,.d (.v (.int .u8 (c12.toNat:Int)))),(44,B ((decide (((c12.toNat:Int):Int)<32))||(decide (((c12.toNat:Int):Int)>126))))] [.box 129 [S t.kind,I t.v_at,I t.v_end,S t.name,I t.value.Kind,I t.value.Number,S t.value.Words,I t.value.Version.1,I t.value.Version.2.1,I t.value.Version.2.2.1,I t.value.Version.2.2.2],rO 5 1 (eN .u8) s2.1] ?_ ?_
    ·refine Kqw E E (fun hb=>?_) (fun hb=>?_)
     ·exact gO 4 E<|⟨⟨E,E,E,E,E,Kgw E (or_t hb),tV⟩,[],E,.inl E⟩
     exact gO 4 E<|⟨⟨E,E,E,E,E,Kgw E (or_f hb),tV⟩,[],E,.inl E⟩
    refine gO 3 E<|jC E h24 (fun h25=>?_) fun h30=>gA 7 E<|jC E h30 (fun h31=>?_) fun h52=>?_
    ·refine gA 2 E<|bK h25 fun v26 hv26 h27=>?_
     cases h27
     cases h15
     refine gA 4 E<|bK hv26 fun v28 hv28 h29=>?_
     cases h29
     obtain rfl:=hout9 _ rfl
     cases h5
     exact gA 3 E<|oSi hv28▸Kjm hΓ [_] (.inr E) E E E E (.inr ⟨HB.mk E,E⟩)
    ·refine gA 15 E<|bK h31 fun q32 hq32 h33=>Khy 11 [(0,.ptr 0 0),(1,S s),(4,.sl 1 s2.1.length),(5,I (wi (s2.2+1))),(65,B q32)] [.box 129 [S t.kind,I t.v_at,I t.v_end,S t.name,I t.value.Kind,I t.value.Number,S t.value.Words,I t.value.Version.1,I t.value.Version.2.1,I t.value.Version.2.2.1,I t.value.Version.2.2.2],rO 5 1 (eN .u8) s2.1] ?_ ?_
     ·refine Kqw E E (fun hb=>?_) (fun hb=>?_)
      ·have h34:=cT hq32 hb
       exact gO 12 E<|oSi h34▸⟨⟨E,E,E,E,E,tV⟩,[],E,.inl E⟩
      have h35:=cF hq32 hb
      refine bK h35 fun c36 hc36 h37=>gO 2 E<|Kqu E<|eo_o E (Kik hΓ hc36 E E E E)<|gO 2 E<|bK h37 fun q38 hq38 h39=>Khy 5 [(0,.ptr 0 0),(1,S s),(4,.sl 1 s2.1.length),(5,I (wi (s2.2+1))),(54,B false),(64,B q38)] [.box 129 [S t.kind,I t.v_at,I t.v_end,S t.name,I t.value.Kind,I t.value.Number,S t.value.Words,I t.value.Version.1,I t.value.Version.2.1,I t.value.Version.2.2.1,I t.value.Version.2.2.2],rO 5 1 (eN .u8) s2.1] ?_ ?_
      ·refine Kqw E E (fun hb=>?_) (fun hb=>?_)
       ·have h40:=cT hq38 hb
        exact bK h40 fun c41 hc41 h42=>gO 2 E<|Kqu E<|eo_o E (Kik hΓ hc41 E E E E)<|gO 3 E<|oSi h42▸⟨⟨E,E,E,E,E,E,tV⟩,[],E,.inl E⟩
       have h43:=cF hq38 hb
       exact gO 6 E<|oSi h43▸⟨⟨E,E,E,E,E,E,tV⟩,[],E,.inl E⟩
      exact gO 2 E<|oSi h39▸⟨⟨E,E,E,E,E,tV⟩,[],E,.inl E⟩
     refine gO 2 E<|jC E h33 (fun h44=>?_) fun h49=>bK h49 fun c50 hc50 h51=>gA 5 E<|eo_o E (Kik hΓ hc50 E E E E)<|gO 3 E<|oSi h51▸⟨_,E,⟨⟨E,E,E,E,E,tV⟩,[],E,.inl E⟩⟩
     refine gA 3 E<|bK h44 fun v45 hv45 h46=>?_
     cases h46
     cases h15
     refine gA 4 E<|bK hv45 fun v47 hv47 h48=>?_
     cases h48
     obtain rfl:=hout9 _ rfl
     cases h5
     exact gA 3 E<|oSi hv47▸Kjm hΓ [_] (.inr E) E E E E (.inr ⟨HB.mk E,E⟩)
    exact gA 2 E<|oSi h52▸⟨_,E,⟨⟨E,E,E,E,E,tV⟩,[],E,.inl E⟩⟩
   intro a16 ha
   subst ha
   replace h15:=Klk h15
   exact gA 4 E<|Kit hΓ (enc:=(eN .u8)) [a16.2] E E E E E E E E E E E E Z<|bK h15 fun y53 hy53 h54=>Kji hΓ (enc:=(eN .u8)) hy53 E E E E E E E E E (fun _=>E) E E E E<|gO 9 E<|oSi h54▸⟨_,E,⟨⟨E,E,E,E,tV⟩,[],E,.inl E⟩⟩
  have h55:=cF hy8 hb
  refine gA 4 E ?_
  cases h55
  obtain rfl:=hout9 _ rfl
  exact⟨_,E,⟨tV,[],E,.inl E⟩⟩
 intro a6 ha
 subst ha
 replace h5:=Klk h5
 exact oSi h5▸Kjm hΓ [_] (.inl E) E E E E (.inr ⟨HB.mk E,E⟩)
theorem Lmf{k:Nat}{l:List Str}{r:(List Int)×Bool}(h:Lhe k l=some r):Pure Tryz.prog 281 [.d (Sl eS l)] (.tup [.d (Sl (eN .i64) r.1),B r.2]):=by
 unfold Lhe at h
 refine QP Tryz.func281 E E E<|gA 8 E<|Kiw (t:=0) 3 1 E Z<|gO 10 E<|bK h fun q4 hq4 h5=>Kii 9 E fun hb7=>Klr (R:=fun a6=>q4=.go a6) (fun a6=>[(4,.sl 0 a6.length)]) (fun a6=>[rO 3 1 (eN .i64) a6]) ?_ ?_
 ·refine gA 1 E<|Kih l hq4 (fun i1 s2=>[(4,.sl 0 s2.length),(9,.d (Sl eS l)),(10,I (l.length:Int)),(11,I (i1:Int))]) (fun s2=>[rO 3 1 (eN .i64) s2]) ⟨⟨E,E,E,E,tV⟩,[],E,.inl E⟩ (fun i1 x3 s2 y11 hx8 hlt hy9 hout10=>?_) (fun s2 hgo=>?_)
  ·refine gA 6 E<|Kht E (dT (Int.ofNat_lt.2 hlt))<|gA 6 E<|eo_o E (Kij hΓ (enc:=eS) (Kic hx8) E E E E E (fun _=>E))<|bK hy9 fun y12 hy12 h13=>gO 7 E<|Kiz C (Lmc hy12) E Z E E E E E<|gO 14 E<|jC E h13 (fun h14=>?_) fun h17=>gA 5 E<|Kit hΓ (enc:=(eN .i64)) [y12.1] E E E E E E E E E E E E Z<|bK h17 fun y18 hy18 h19=>Kji hΓ (enc:=(eN .i64)) hy18 E E E E E E E E E (fun _=>E) E E E E<|gO 8 E ?_
   ·refine gA 10 E<|bK h14 fun v15 hv15 h16=>?_
    cases h16
    obtain rfl:=hout10 _ rfl
    cases h5
    exact gA 4 E<|oSi hv15▸gP E E
   cases h19
   exact⟨_,E,⟨⟨E,E,E,Kgv E (Kgu (nLl hlt hb7)),tV⟩,[],E,.inl E⟩⟩
  subst hgo
  exact gA 6 E<|Khu E (dF (Int.lt_irrefl _))<|gA 4 E<|⟨_,E,⟨⟨E,tV⟩,[],E,.inl E⟩⟩
 intro a6 ha
 subst ha
 replace h5:=Kll h5
 exact gA 5 E<|Kjf 0 [2,4,27] _ [.dead] E E E Z<|gO 4 E<|oSi h5▸gP E E
theorem Lmg{k:Nat}{t:Ldd}{s:Str}{r:Ldd}(h:Lhf k t s=some r):EC Tryz.prog 216 [.ptr 0 0,S s] [.box 129 [S t.kind,I t.v_at,I t.v_end,S t.name,I t.value.Kind,I t.value.Number,S t.value.Words,I t.value.Version.1,I t.value.Version.2.1,I t.value.Version.2.2.1,I t.value.Version.2.2.2]] fun g hp'=>g=.tup []∧hp'=[.box 129 [S r.kind,I r.v_at,I r.v_end,S r.name,I r.value.Kind,I r.value.Number,S r.value.Words,I r.value.Version.1,I r.value.Version.2.1,I r.value.Version.2.2.1,I r.value.Version.2.2.2]]:=by
 unfold Lhf at h
 refine QN Tryz.func216 E Z<|gA 10 E<|Ksh hΓ E E E E E E E E Z<|Kjh [.box 129 [S t.kind,I t.v_at,I (wi (t.v_at+1)),S t.name,I t.value.Kind,I t.value.Number,S t.value.Words,I t.value.Version.1,I t.value.Version.2.1,I t.value.Version.2.2.1,I t.value.Version.2.2.2]] E<|gO 3 E<|bK h fun q4 hq4 h5=>Kls [(0,.ptr 0 0),(1,S s)] [.box 129 [S t.kind,I t.v_at,I q4,S t.name,I t.value.Kind,I t.value.Number,S t.value.Words,I t.value.Version.1,I t.value.Version.2.1,I t.value.Version.2.2.1,I t.value.Version.2.2.2]] ?_ ?_
 ·refine gA 1 E<|Kif hq4 (fun s2=>[(0,.ptr 0 0),(1,S s)]) (fun s2=>[.box 129 [S t.kind,I t.v_at,I s2,S t.name,I t.value.Kind,I t.value.Number,S t.value.Words,I t.value.Version.1,I t.value.Version.2.1,I t.value.Version.2.2.1,I t.value.Version.2.2.2]]) ⟨⟨E,E,tV⟩,[],E,.inl E⟩ (fun s2 y10 hy8 hout9=>?_)
  refine gA 11 E<|bK hy8 fun q11 hq11 h12=>Khy 17 [(0,.ptr 0 0),(1,S s),(39,B q11)] [.box 129 [S t.kind,I t.v_at,I s2,S t.name,I t.value.Kind,I t.value.Number,S t.value.Words,I t.value.Version.1,I t.value.Version.2.1,I t.value.Version.2.2.1,I t.value.Version.2.2.2]] ?_ ?_
  ·refine Kqw E E (fun hb=>?_) (fun hb=>?_)
   ·have h13:=cT hq11 hb
    refine bK h13 fun c14 hc14 h15=>gO 5 E<|Kqu E<|eo_o E (Kik hΓ hc14 E E E E)<|bK h15 fun y16 hy16 h17=>Kqu E<|Kiz C (Ljf hy16) E Z E E E E E<|gO 1 E<|bK h17 fun q18 hq18 h19=>Khy 8 [(0,.ptr 0 0),(1,S s),(22,B true),(38,B q18)] [.box 129 [S t.kind,I t.v_at,I s2,S t.name,I t.value.Kind,I t.value.Number,S t.value.Words,I t.value.Version.1,I t.value.Version.2.1,I t.value.Version.2.2.1,I t.value.Version.2.2.2]] ?_ ?_
    ·refine Kqw E E (fun hb=>?_) (fun hb=>?_)
     ·have h20:=cT hq18 hb
      exact gO 9 E<|oSi h20▸⟨⟨E,E,E,E,tV⟩,[],E,.inl E⟩
     have h21:=cF hq18 hb
     exact bK h21 fun c22 hc22 h23=>gO 5 E<|Kqu E<|eo_o E (Kik hΓ hc22 E E E E)<|gO 3 E<|oSi h23▸⟨⟨E,E,E,E,tV⟩,[],E,.inl E⟩
    exact gO 2 E<|oSi h19▸⟨⟨E,E,E,tV⟩,[],E,.inl E⟩
   have h24:=cF hq11 hb
   exact gO 18 E<|oSi h24▸⟨⟨E,E,E,tV⟩,[],E,.inl E⟩
  refine gO 2 E<|jC E h12 (fun h25=>?_) fun h26=>gA 4 E ?_
  ·exact gA 11 E<|Ksh hΓ E E E E E E E E Z<|Kjh [.box 129 [S t.kind,I t.v_at,I (wi (s2+1)),S t.name,I t.value.Kind,I t.value.Number,S t.value.Words,I t.value.Version.1,I t.value.Version.2.1,I t.value.Version.2.2.1,I t.value.Version.2.2.2]] E<|gO 2 E<|oSi h25▸⟨_,E,⟨⟨E,E,tV⟩,[],E,.inl E⟩⟩
  cases h26
  obtain rfl:=hout9 _ rfl
  exact⟨⟨E,E,tV⟩,[],E,.inl E⟩
 refine gA 2 E<|jD<|bK h5 fun z27 hz27 h28=>gA 10 E<|gl_o E (Kim hΓ hz27 E E E E E)<|bK h28 fun y29 hy29 h30=>Kja C (Pure.rows (Lap hy29) E E) E E E E E E<|bK h30 fun y31 hy31 h32=>Khq hΓ 6 E<|Kiz C (Lmf hy31) E Z E E E E E<|gO 13 E<|Khy 4 [(0,.ptr 0 0),(5,.d (Sl (eN .i64) y31.1)),(70,B ((!y31.2)||(decide (((y29.length:Int):Int)>4))))] [.box 129 [S t.kind,I t.v_at,I q4,S t.name,I t.value.Kind,I t.value.Number,S t.value.Words,I t.value.Version.1,I t.value.Version.2.1,I t.value.Version.2.2.1,I t.value.Version.2.2.2]] ?_ ?_
 ·refine Kqw E E (fun hb=>?_) (fun hb=>?_)
  ·exact gO 5 E<|⟨⟨E,E,Kgw E (or_t hb),tV⟩,[],E,.inl E⟩
  exact gO 5 E<|⟨⟨E,E,Kgw E (or_f hb),tV⟩,[],E,.inl E⟩
 refine gO 2 E<|jC E h32 (fun h33=>?_) fun h34=>gA 6 E<|Kfq hΓ (gs:=[I 4,I 0,S [],I 0,I 0,I 0,I 0]) E E E E E E E<|gO 2 E<|Ksh hΓ E E E E E E E E Z<|Kjh [.box 129 [S [118,97,108,117,101],I t.v_at,I q4,S t.name,I t.value.Kind,I t.value.Number,S t.value.Words,I t.value.Version.1,I t.value.Version.2.1,I t.value.Version.2.2.1,I t.value.Version.2.2.2]] E<|gO 2 E<|Ksh hΓ E E E E E E E E Z<|Kjh [.box 129 [S [118,97,108,117,101],I t.v_at,I q4,S t.name,I 4,I 0,S [],I 0,I 0,I 0,I 0]] E<|gO 7 E<|eo_o E (Kou hΓ (n:=4) (a:=(0:Int)) E E E E E E E)<|gO 1 E<|eo_s Z (nblt.1 E) (Kov hΓ (pre:=[S [118,97,108,117,101],I t.v_at,I q4,S t.name,I 4,I 0,S []]) (post:=[]) (l:=[0,0,0,0]) (xs:=y31.1) (k:=.i64) (p:=7) (o:=(0:Int).toNat) (n:=4 - (0:Int).toNat) (Kos (a:=0) (n:=4) E) E E E E E E E E E)<|Kjh [.box 129 [S [118,97,108,117,101],I t.v_at,I q4,S t.name,I 4,I 0,S [],I (cpA (0:Int).toNat y31.1 0 0),I (cpA (0:Int).toNat y31.1 1 0),I (cpA (0:Int).toNat y31.1 2 0),I (cpA (0:Int).toNat y31.1 3 0)]] E<|gO 1 E<|oSi h34▸Kjm hΓ [] (.inl E) E E E E (.inl E)
 exact gA 2 E<|oSi h33▸Kjm hΓ [] (.inr E) E E E E (.inl E)
theorem Lmh{c:Int}{r:Bool}(h:Lhg c=some r):Pure Tryz.prog 282 [.d (.v (.int .u8 c))] (B r):=by
 unfold Lhg at h
 refine QP Tryz.func282 E E E<|gA 10 E<|Khy 3 [(0,.d (.v (.int .u8 c))),(2,B false),(8,B ((decide ((c:Int)≥97))&&(decide ((c:Int)≤122))))] [] ?_ ?_
 ·refine Kqw E E (fun hb=>?_) (fun hb=>?_)
  ·exact gO 4 E<|⟨⟨E,E,Kgw E (Kjs hb),tV⟩,[],E,.inl E⟩
  exact gO 4 E<|⟨⟨E,E,Kgw E (Kjt hb),tV⟩,[],E,.inl E⟩
 refine gO 1 E<|bK h fun q1 hq1 h2=>Khy 3 [(0,.d (.v (.int .u8 c))),(2,B false),(12,B q1)] [] ?_ ?_
 ·refine Kqw E E (fun hb=>?_) (fun hb=>?_)
  ·have h3:=cT hq1 hb
   exact gO 4 E<|oSi h3▸⟨⟨E,E,E,tV⟩,[],E,.inl E⟩
  have h4:=cF hq1 hb
  exact bK h4 fun y5 hy5 h6=>gO 1 E<|Kqu E<|Kiz C (Ljf hy5) E Z E E E E E<|gO 2 E<|oSi h6▸⟨⟨E,E,E,tV⟩,[],E,.inl E⟩
 refine gO 1 E<|Khy 3 [(0,.d (.v (.int .u8 c))),(2,B false),(16,B (q1||((c:Int)==45)))] [] ?_ ?_
 ·refine Kqw E E (fun hb=>?_) (fun hb=>?_)
  ·exact gO 4 E<|⟨⟨E,E,Kgw E (or_t hb),tV⟩,[],E,.inl E⟩
  exact gO 4 E<|⟨⟨E,E,Kgw E (or_f hb),tV⟩,[],E,.inl E⟩
 refine gO 1 E<|Khy 3 [(2,B false),(20,B ((q1||((c:Int)==45))||((c:Int)==95)))] [] ?_ ?_
 ·refine Kqw E E (fun hb=>?_) (fun hb=>?_)
  ·exact gO 4 E<|⟨⟨E,Kgw E (or_t hb),tV⟩,[],E,.inl E⟩
  exact gO 4 E<|⟨⟨E,Kgw E (or_f hb),tV⟩,[],E,.inl E⟩
 exact gO 4 E<|oSi h2▸gP E E
end Go.Proofs.YthhdojhbohfmnaaGreatDoor
