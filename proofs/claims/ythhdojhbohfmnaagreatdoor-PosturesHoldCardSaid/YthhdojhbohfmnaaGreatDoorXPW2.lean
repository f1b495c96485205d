import Derived.Test.YthhdojhbohfmnaaGreatDoorXPM
import Derived.Test.YthhdojhbohfmnaaGreatDoorGt
import Derived.Test.YthhdojhbohfmnaaGreatDoorStr
import Derived.Test.YthhdojhbohfmnaaGreatDoorStr9
import Derived.Test.YthhdojhbohfmnaaGreatDoorStrC
import Derived.Test.YthhdojhbohfmnaaGreatDoorStrI
import Derived.Test.YthhdojhbohfmnaaGreatDoorGk64
import Derived.Test.YthhdojhbohfmnaaGreatDoorBk5
import Derived.Test.YthhdojhbohfmnaaGreatDoorXPW1
set_option maxHeartbeats 8000000
set_option linter.all false
set_option maxRecDepth 100000
namespace Go.Proofs.YthhdojhbohfmnaaGreatDoor
open Go.Gk
theorem Lgf{rc_posture_Record_judge:Kyj→Kye→Str→Int→Int→Option (Kyl×Int)}(ih_posture_Record_judge:∀ {v_r:Kyj} {c:Kye} {node:Str} {v_at:Int} {n:Int} {r:Kyl×Int},rc_posture_Record_judge v_r c node v_at n=some r→EC Tryz.prog 177 [.ptr 1 0,.agg [I c.Kind,S c.Name,S c.Op,I c.Value.Kind,I c.Value.Number,S c.Value.Words,I c.Value.Version.1,I c.Value.Version.2.1,I c.Value.Version.2.2.1,I c.Value.Version.2.2.2,.d (.ro c.Kids.n c.Kids.xs)],S node,I v_at,.ptr 2 0] [mOb (kD Kxw) false (eT 83 10 Kxv) v_r.list,.box 240 [I v_r.fresh,.map 0],.box 3 [I n]] fun g hp'=>g=.agg [I r.1.is,.d (Sl (eN .i64) r.1.proof)]∧hp'=[mOb (kD Kxw) false (eT 83 10 Kxv) v_r.list,.box 240 [I v_r.fresh,.map 0],.box 3 [I r.2]]){v_r:Kyj}{c:Kye}{node:Str}{v_at:Int}{n:Int}{weak:Int}{strong:Int}{r:Kyl×Int}(h:Las rc_posture_Record_judge v_r c node v_at n weak strong=some r):EC Tryz.prog 231 [.ptr 1 0,.agg [I c.Kind,S c.Name,S c.Op,I c.Value.Kind,I c.Value.Number,S c.Value.Words,I c.Value.Version.1,I c.Value.Version.2.1,I c.Value.Version.2.2.1,I c.Value.Version.2.2.2,.d (.ro c.Kids.n c.Kids.xs)],S node,I v_at,.ptr 2 0,I weak,I strong] [mOb (kD Kxw) false (eT 83 10 Kxv) v_r.list,.box 240 [I v_r.fresh,.map 0],.box 3 [I n]] fun g hp'=>g=.agg [I r.1.is,.d (Sl (eN .i64) r.1.proof)]∧hp'=[mOb (kD Kxw) false (eT 83 10 Kxv) v_r.list,.box 240 [I v_r.fresh,.map 0],.box 3 [I r.2]]:=by
 unfold Las at h
 refine QN Tryz.func231 E Z<|gA 2 E<|Kpv E E E E Z<|Kpu hΓ E E E Z<|gO 5 E<|Kdq hΓ (gs:=[I weak,.d (Sl (eN .i64) [])]) E E E E E E E<|Kpu hΓ E E E Z<|Kpz hΓ E E E E E E E E Z<|Khg [mOb (kD Kxw) false (eT 83 10 Kxv) v_r.list,.box 240 [I v_r.fresh,.map 0],.box 3 [I n],.box 32 [I c.Kind,S c.Name,S c.Op,I c.Value.Kind,I c.Value.Number,S c.Value.Words,I c.Value.Version.1,I c.Value.Version.2.1,I c.Value.Version.2.2.1,I c.Value.Version.2.2.2,.d (.ro c.Kids.n c.Kids.xs)],.box 140 [I 0,.d (Sl (eN .i64) [])],.box 140 [I weak,.d (Sl (eN .i64) [])]] E<|bK h fun l1 hl1 h2=>gO 6 E<|eo_o E (Klt (Kpi hΓ (g:=.d (.ro c.Kids.n c.Kids.xs)) E) (G.Le.unk Ldg hl1))<|gO 4 E<|bK h2 fun q6 hq6 h7=>Kgg 22 E fun hb9=>Kjs [(14,.ptr 4 0),(15,.ptr 5 0)] [mOb (kD Kxw) false (eT 83 10 Kxv) v_r.list,.box 240 [I v_r.fresh,.map 0],.box 3 [I q6.1],.box 32 [I c.Kind,S c.Name,S c.Op,I c.Value.Kind,I c.Value.Number,S c.Value.Words,I c.Value.Version.1,I c.Value.Version.2.1,I c.Value.Version.2.2.1,I c.Value.Version.2.2.2,.d (.ro c.Kids.n c.Kids.xs)],.box 140 [I 0,.d (Sl (eN .i64) [])],.box 140 [I q6.2.is,.d (Sl (eN .i64) q6.2.proof)]] ?_ ?_
 ·refine gA 1 E<|Khn l1 hq6 (fun i3 s4=>[(0,.ptr 1 0),(2,S node),(3,I v_at),(4,.ptr 2 0),(6,I strong),(14,.ptr 4 0),(15,.ptr 5 0),(22,.d (Sl Kyf l1)),(23,I (l1.length:Int)),(24,I (i3:Int))]) (fun s4=>[mOb (kD Kxw) false (eT 83 10 Kxv) v_r.list,.box 240 [I v_r.fresh,.map 0],.box 3 [I s4.1],.box 32 [I c.Kind,S c.Name,S c.Op,I c.Value.Kind,I c.Value.Number,S c.Value.Words,I c.Value.Version.1,I c.Value.Version.2.1,I c.Value.Version.2.2.1,I c.Value.Version.2.2.2,.d (.ro c.Kids.n c.Kids.xs)],.box 140 [I 0,.d (Sl (eN .i64) [])],.box 140 [I s4.2.is,.d (Sl (eN .i64) s4.2.proof)]]) ⟨⟨E,E,E,E,E,E,E,E,E,E,tV⟩,[],E,.inl E⟩ (fun i3 x5 s4 y13 hx10 hlt hy11=>?_) (?_)
  ·refine gA 6 E<|Kfr E (dT (Int.ofNat_lt.2 hlt))<|gA 6 E<|eo_o E (Kgh hΓ (enc:=Kyf) (Kga hx10) E E E E E (fun _=>E))<|gO 1 E<|Kpu hΓ E E E Z<|Kpz hΓ E E E E E E E E Z<|Khg [mOb (kD Kxw) false (eT 83 10 Kxv) v_r.list,.box 240 [I v_r.fresh,.map 0],.box 3 [I s4.1],.box 32 [I c.Kind,S c.Name,S c.Op,I c.Value.Kind,I c.Value.Number,S c.Value.Words,I c.Value.Version.1,I c.Value.Version.2.1,I c.Value.Version.2.2.1,I c.Value.Version.2.2.2,.d (.ro c.Kids.n c.Kids.xs)],.box 140 [I 0,.d (Sl (eN .i64) [])],.box 140 [I s4.2.is,.d (Sl (eN .i64) s4.2.proof)],.box 32 [I x5.Kind,S x5.Name,S x5.Op,I x5.Value.Kind,I x5.Value.Number,S x5.Value.Words,I x5.Value.Version.1,I x5.Value.Version.2.1,I x5.Value.Version.2.2.1,I x5.Value.Version.2.2.2,.d (.ro x5.Kids.n x5.Kids.xs)]] E<|bK hy11 fun y14 hy14 h15=>gO 9 E<|Kgw [0,1,2] (.agg [I y14.1.is,.d (Sl (eN .i64) y14.1.proof)]) [mOb (kD Kxw) false (eT 83 10 Kxv) v_r.list,.box 240 [I v_r.fresh,.map 0],.box 3 [I y14.2],.box 32 [I c.Kind,S c.Name,S c.Op,I c.Value.Kind,I c.Value.Number,S c.Value.Words,I c.Value.Version.1,I c.Value.Version.2.1,I c.Value.Version.2.2.1,I c.Value.Version.2.2.2,.d (.ro c.Kids.n c.Kids.xs)],.box 140 [I 0,.d (Sl (eN .i64) [])],.box 140 [I s4.2.is,.d (Sl (eN .i64) s4.2.proof)],.box 32 [I x5.Kind,S x5.Name,S x5.Op,I x5.Value.Kind,I x5.Value.Number,S x5.Value.Words,I x5.Value.Version.1,I x5.Value.Version.2.1,I x5.Value.Version.2.2.1,I x5.Value.Version.2.2.2,.d (.ro x5.Kids.n x5.Kids.xs)]] C (ih_posture_Record_judge hy14) E Z E E E E E E E E E E<|Kpu hΓ E E E Z<|Kpz hΓ E E E E E E E E Z<|Khg [mOb (kD Kxw) false (eT 83 10 Kxv) v_r.list,.box 240 [I v_r.fresh,.map 0],.box 3 [I y14.2],.box 32 [I c.Kind,S c.Name,S c.Op,I c.Value.Kind,I c.Value.Number,S c.Value.Words,I c.Value.Version.1,I c.Value.Version.2.1,I c.Value.Version.2.2.1,I c.Value.Version.2.2.2,.d (.ro c.Kids.n c.Kids.xs)],.box 140 [I 0,.d (Sl (eN .i64) [])],.box 140 [I s4.2.is,.d (Sl (eN .i64) s4.2.proof)],.box 32 [I x5.Kind,S x5.Name,S x5.Op,I x5.Value.Kind,I x5.Value.Number,S x5.Value.Words,I x5.Value.Version.1,I x5.Value.Version.2.1,I x5.Value.Version.2.2.1,I x5.Value.Version.2.2.2,.d (.ro x5.Kids.n x5.Kids.xs)],.box 140 [I y14.1.is,.d (Sl (eN .i64) y14.1.proof)]] E<|gO 12 E<|Kfq E (fun hb=>?_) (fun hb=>?_)
   ·have h16:=cT h15 hb
    refine gA 7 E<|bK h16 fun q17 hq17 h18=>Kfw 6 [(0,.ptr 1 0),(2,S node),(3,I v_at),(4,.ptr 2 0),(6,I strong),(14,.ptr 4 0),(15,.ptr 5 0),(18,.ptr 7 0),(22,.d (Sl Kyf l1)),(23,I (l1.length:Int)),(24,I (i3:Int)),(56,B q17)] [mOb (kD Kxw) false (eT 83 10 Kxv) v_r.list,.box 240 [I v_r.fresh,.map 0],.box 3 [I y14.2],.box 32 [I c.Kind,S c.Name,S c.Op,I c.Value.Kind,I c.Value.Number,S c.Value.Words,I c.Value.Version.1,I c.Value.Version.2.1,I c.Value.Version.2.2.1,I c.Value.Version.2.2.2,.d (.ro c.Kids.n c.Kids.xs)],.box 140 [I 0,.d (Sl (eN .i64) [])],.box 140 [I s4.2.is,.d (Sl (eN .i64) s4.2.proof)],.box 32 [I x5.Kind,S x5.Name,S x5.Op,I x5.Value.Kind,I x5.Value.Number,S x5.Value.Words,I x5.Value.Version.1,I x5.Value.Version.2.1,I x5.Value.Version.2.2.1,I x5.Value.Version.2.2.2,.d (.ro x5.Kids.n x5.Kids.xs)],.box 140 [I y14.1.is,.d (Sl (eN .i64) y14.1.proof)]] ?_ ?_
    ·refine Koo E E (fun hb=>?_) (fun hb=>?_)
     ·have h19:=cT hq17 hb
      exact gO 7 E<|oSi h19▸⟨⟨E,E,E,E,E,E,E,E,E,E,E,E,tV⟩,[],E,.inl E⟩
     have h20:=cF hq17 hb
     exact bK h20 fun y21 hy21 h22=>gO 4 E<|Kom E<|Kgx C (Lgd hy21) E Z E E E E E<|gO 2 E<|oSi h22▸⟨⟨E,E,E,E,E,E,E,E,E,E,E,E,tV⟩,[],E,.inl E⟩
    refine gO 2 E<|jC E h18 (fun h23=>?_) fun h24=>gA 8 E ?_
    ·refine gA 2 E<|Kpz hΓ E E E E E E E E Z<|Khg [mOb (kD Kxw) false (eT 83 10 Kxv) v_r.list,.box 240 [I v_r.fresh,.map 0],.box 3 [I y14.2],.box 32 [I c.Kind,S c.Name,S c.Op,I c.Value.Kind,I c.Value.Number,S c.Value.Words,I c.Value.Version.1,I c.Value.Version.2.1,I c.Value.Version.2.2.1,I c.Value.Version.2.2.2,.d (.ro c.Kids.n c.Kids.xs)],.box 140 [I 0,.d (Sl (eN .i64) [])],.box 140 [I y14.1.is,.d (Sl (eN .i64) y14.1.proof)],.box 32 [I x5.Kind,S x5.Name,S x5.Op,I x5.Value.Kind,I x5.Value.Number,S x5.Value.Words,I x5.Value.Version.1,I x5.Value.Version.2.1,I x5.Value.Version.2.2.1,I x5.Value.Version.2.2.2,.d (.ro x5.Kids.n x5.Kids.xs)],.box 140 [I y14.1.is,.d (Sl (eN .i64) y14.1.proof)]] E<|gO 8 E ?_
     cases h23
     exact⟨⟨E,E,E,E,E,E,E,E,E,Kes E (Ker (nLl hlt hb9)),tV⟩,[_,_],E,.inr ⟨HB.mk E,FB.mk E,Z⟩⟩
    cases h24
    exact⟨⟨E,E,E,E,E,E,E,E,E,Kes E (Ker (nLl hlt hb9)),tV⟩,[_,_],E,.inr ⟨HB.mk E,FB.mk E,Z⟩⟩
   have h25:=cF h15 hb
   refine gA 9 E<|Kfq E (fun hb=>?_) (fun hb=>?_)
   ·have h26:=cT h25 hb
    refine gA 8 E ?_
    cases h26
    exact⟨⟨E,E,E,E,E,E,E,E,E,Kes E (Ker (nLl hlt hb9)),tV⟩,[_,_],E,.inr ⟨HB.mk E,FB.mk E,Z⟩⟩
   have h27:=cF h25 hb
   refine gA 6 E<|Kfw 4 [(0,.ptr 1 0),(2,S node),(3,I v_at),(4,.ptr 2 0),(6,I strong),(14,.ptr 4 0),(15,.ptr 5 0),(18,.ptr 7 0),(22,.d (Sl Kyf l1)),(23,I (l1.length:Int)),(24,I (i3:Int)),(71,B (((y14.1.is:Int)==2)||((s4.2.is:Int)==2)))] [mOb (kD Kxw) false (eT 83 10 Kxv) v_r.list,.box 240 [I v_r.fresh,.map 0],.box 3 [I y14.2],.box 32 [I c.Kind,S c.Name,S c.Op,I c.Value.Kind,I c.Value.Number,S c.Value.Words,I c.Value.Version.1,I c.Value.Version.2.1,I c.Value.Version.2.2.1,I c.Value.Version.2.2.2,.d (.ro c.Kids.n c.Kids.xs)],.box 140 [I 0,.d (Sl (eN .i64) [])],.box 140 [I s4.2.is,.d (Sl (eN .i64) s4.2.proof)],.box 32 [I x5.Kind,S x5.Name,S x5.Op,I x5.Value.Kind,I x5.Value.Number,S x5.Value.Words,I x5.Value.Version.1,I x5.Value.Version.2.1,I x5.Value.Version.2.2.1,I x5.Value.Version.2.2.2,.d (.ro x5.Kids.n x5.Kids.xs)],.box 140 [I y14.1.is,.d (Sl (eN .i64) y14.1.proof)]] ?_ ?_
   ·refine Koo E E (fun hb=>?_) (fun hb=>?_)
    ·exact gO 5 E<|⟨⟨E,E,E,E,E,E,E,E,E,E,E,Ket E (or_t hb),tV⟩,[],E,.inl E⟩
    exact gO 5 E<|⟨⟨E,E,E,E,E,E,E,E,E,E,E,Ket E (or_f hb),tV⟩,[],E,.inl E⟩
   refine gO 3 E<|jC E h27 (fun h28=>?_) fun h29=>Kiv [.dead,.dead,.dead,.dead,.dead,.box 140 [I s4.2.is,.d (Sl (eN .i64) s4.2.proof)],.dead,.box 140 [I y14.1.is,.d (Sl (eN .i64) y14.1.proof)]] [1,4] [2,5,7] [7] hmix (by kernel_rfl) (by kernel_rfl) ⟨E,E,tV⟩ Z<|bK h29 fun y30 hy30 h31=>go_E hΓ 2 E<|ge_h [mOb (kD Kxw) false (eT 83 10 Kxv) v_r.list,.box 240 [I v_r.fresh,.map 0],.box 3 [I y14.2],.box 32 [I c.Kind,S c.Name,S c.Op,I c.Value.Kind,I c.Value.Number,S c.Value.Words,I c.Value.Version.1,I c.Value.Version.2.1,I c.Value.Version.2.2.1,I c.Value.Version.2.2.2,.d (.ro c.Kids.n c.Kids.xs)],.box 140 [I 0,.d (Sl (eN .i64) [])],.box 140 [I s4.2.is,.d (Sl (eN .i64) s4.2.proof)],.box 32 [I x5.Kind,S x5.Name,S x5.Op,I x5.Value.Kind,I x5.Value.Number,S x5.Value.Words,I x5.Value.Version.1,I x5.Value.Version.2.1,I x5.Value.Version.2.2.1,I x5.Value.Version.2.2.2,.d (.ro x5.Kids.n x5.Kids.xs)],.box 140 [I y14.1.is,.d (Sl (eN .i64) y14.1.proof)],rO 3 1 (eN .i64) y30] E E E (Kjb ⟨E,E,tV⟩) (Kjg [] (.sl 8 y30.length) [mOb (kD Kxw) false (eT 83 10 Kxv) v_r.list,.box 240 [I v_r.fresh,.map 0],.box 3 [I y14.2],.box 32 [I c.Kind,S c.Name,S c.Op,I c.Value.Kind,I c.Value.Number,S c.Value.Words,I c.Value.Version.1,I c.Value.Version.2.1,I c.Value.Version.2.2.1,I c.Value.Version.2.2.2,.d (.ro c.Kids.n c.Kids.xs)],.box 140 [I 0,.d (Sl (eN .i64) [])],.box 140 [I s4.2.is,.d (Sl (eN .i64) s4.2.proof)],.box 32 [I x5.Kind,S x5.Name,S x5.Op,I x5.Value.Kind,I x5.Value.Number,S x5.Value.Words,I x5.Value.Version.1,I x5.Value.Version.2.1,I x5.Value.Version.2.2.1,I x5.Value.Version.2.2.2,.d (.ro x5.Kids.n x5.Kids.xs)],.box 140 [I y14.1.is,.d (Sl (eN .i64) y14.1.proof)],rO 3 1 (eN .i64) y30] C (Lge hy30) E E E E E E E E E E)<|bK h31 fun y32 hy32 h33=>go_E hΓ 2 E<|ge_h [mOb (kD Kxw) false (eT 83 10 Kxv) v_r.list,.box 240 [I v_r.fresh,.map 0],.box 3 [I y14.2],.box 32 [I c.Kind,S c.Name,S c.Op,I c.Value.Kind,I c.Value.Number,S c.Value.Words,I c.Value.Version.1,I c.Value.Version.2.1,I c.Value.Version.2.2.1,I c.Value.Version.2.2.2,.d (.ro c.Kids.n c.Kids.xs)],.box 140 [I 0,.d (Sl (eN .i64) [])],.box 140 [I s4.2.is,.d (Sl (eN .i64) s4.2.proof)],.box 32 [I x5.Kind,S x5.Name,S x5.Op,I x5.Value.Kind,I x5.Value.Number,S x5.Value.Words,I x5.Value.Version.1,I x5.Value.Version.2.1,I x5.Value.Version.2.2.1,I x5.Value.Version.2.2.2,.d (.ro x5.Kids.n x5.Kids.xs)],.box 140 [I y14.1.is,.d (Sl (eN .i64) y14.1.proof)],.dead,rO 3 1 (eN .i64) y32] E E E (Kjb ⟨E,E,tV⟩) (Kje (Kio hΓ (enc:=(eN .i64)) (id:=8) (h2:=show Γ 3=some ⟨_,1,_,_⟩ from E) hy32 E E E E E E E E (fun _=>E) E))<|go_E hΓ 1 E<|Kiz [mOb (kD Kxw) false (eT 83 10 Kxv) v_r.list,.box 240 [I v_r.fresh,.map 0],.box 3 [I y14.2],.box 32 [I c.Kind,S c.Name,S c.Op,I c.Value.Kind,I c.Value.Number,S c.Value.Words,I c.Value.Version.1,I c.Value.Version.2.1,I c.Value.Version.2.2.1,I c.Value.Version.2.2.2,.d (.ro c.Kids.n c.Kids.xs)],.box 140 [I 0,.d (Sl (eN .i64) [])],.box 140 [I s4.2.is,.sl 9 y32.length],.box 32 [I x5.Kind,S x5.Name,S x5.Op,I x5.Value.Kind,I x5.Value.Number,S x5.Value.Words,I x5.Value.Version.1,I x5.Value.Version.2.1,I x5.Value.Version.2.2.1,I x5.Value.Version.2.2.2,.d (.ro x5.Kids.n x5.Kids.xs)],.box 140 [I y14.1.is,.d (Sl (eN .i64) y14.1.proof)],.dead,rO 3 1 (eN .i64) y32] E E (Kja E) (Kjf (Kkd hΓ E E E E E E E E E))<|Kiw<|gA 3 E<|Khf 9 [39] _ [mOb (kD Kxw) false (eT 83 10 Kxv) v_r.list,.box 240 [I v_r.fresh,.map 0],.box 3 [I y14.2],.box 32 [I c.Kind,S c.Name,S c.Op,I c.Value.Kind,I c.Value.Number,S c.Value.Words,I c.Value.Version.1,I c.Value.Version.2.1,I c.Value.Version.2.2.1,I c.Value.Version.2.2.2,.d (.ro c.Kids.n c.Kids.xs)],.box 140 [I 0,.d (Sl (eN .i64) [])],.box 140 [I s4.2.is,.d (Sl (eN .i64) y32)],.box 32 [I x5.Kind,S x5.Name,S x5.Op,I x5.Value.Kind,I x5.Value.Number,S x5.Value.Words,I x5.Value.Version.1,I x5.Value.Version.2.1,I x5.Value.Version.2.2.1,I x5.Value.Version.2.2.2,.d (.ro x5.Kids.n x5.Kids.xs)],.box 140 [I y14.1.is,.d (Sl (eN .i64) y14.1.proof)],.dead,.dead] E E E Z<|gA 4 E ?_
   ·refine gA 1 E<|Kdq hΓ (gs:=[I 2,.d (Sl (eN .i64) [])]) E E E E E E E<|Kpz hΓ E E E E E E E E Z<|Khg [mOb (kD Kxw) false (eT 83 10 Kxv) v_r.list,.box 240 [I v_r.fresh,.map 0],.box 3 [I y14.2],.box 32 [I c.Kind,S c.Name,S c.Op,I c.Value.Kind,I c.Value.Number,S c.Value.Words,I c.Value.Version.1,I c.Value.Version.2.1,I c.Value.Version.2.2.1,I c.Value.Version.2.2.2,.d (.ro c.Kids.n c.Kids.xs)],.box 140 [I 0,.d (Sl (eN .i64) [])],.box 140 [I 2,.d (Sl (eN .i64) [])],.box 32 [I x5.Kind,S x5.Name,S x5.Op,I x5.Value.Kind,I x5.Value.Number,S x5.Value.Words,I x5.Value.Version.1,I x5.Value.Version.2.1,I x5.Value.Version.2.2.1,I x5.Value.Version.2.2.2,.d (.ro x5.Kids.n x5.Kids.xs)],.box 140 [I y14.1.is,.d (Sl (eN .i64) y14.1.proof)]] E<|gO 8 E ?_
    cases h28
    exact⟨⟨E,E,E,E,E,E,E,E,E,Kes E (Ker (nLl hlt hb9)),tV⟩,[_,_],E,.inr ⟨HB.mk E,FB.mk E,Z⟩⟩
   cases h33
   exact⟨⟨E,E,E,E,E,E,E,E,E,Kes E (Ker (nLl hlt hb9)),tV⟩,[_,_,_,_],E,.inr ⟨HB.mk E,FB.mk E,Z⟩⟩
  exact gA 6 E<|Kfs E (dF (Int.lt_irrefl _))<|gA 4 E<|⟨⟨E,E,tV⟩,[],E,.inl E⟩
 exact gA 4 E<|Kpz hΓ E E E E E E E E Z<|Khg [mOb (kD Kxw) false (eT 83 10 Kxv) v_r.list,.box 240 [I v_r.fresh,.map 0],.box 3 [I q6.1],.box 32 [I c.Kind,S c.Name,S c.Op,I c.Value.Kind,I c.Value.Number,S c.Value.Words,I c.Value.Version.1,I c.Value.Version.2.1,I c.Value.Version.2.2.1,I c.Value.Version.2.2.2,.d (.ro c.Kids.n c.Kids.xs)],.box 140 [I q6.2.is,.d (Sl (eN .i64) q6.2.proof)],.box 140 [I q6.2.is,.d (Sl (eN .i64) q6.2.proof)]] E<|gO 3 E<|oSi h7▸Khl hΓ [_,_,_] (.inr E) E E E E (.inr ⟨HB.mk E,E⟩)
theorem Lgg{k:Nat}{v_r:Kyj}{c:Kye}{node:Str}{v_at:Int}{n:Int}{r:Kyl×Int}(h:Lat k v_r c node v_at n=some r):EC Tryz.prog 177 [.ptr 1 0,.agg [I c.Kind,S c.Name,S c.Op,I c.Value.Kind,I c.Value.Number,S c.Value.Words,I c.Value.Version.1,I c.Value.Version.2.1,I c.Value.Version.2.2.1,I c.Value.Version.2.2.2,.d (.ro c.Kids.n c.Kids.xs)],S node,I v_at,.ptr 2 0] [mOb (kD Kxw) false (eT 83 10 Kxv) v_r.list,.box 240 [I v_r.fresh,.map 0],.box 3 [I n]] fun g hp'=>g=.agg [I r.1.is,.d (Sl (eN .i64) r.1.proof)]∧hp'=[mOb (kD Kxw) false (eT 83 10 Kxv) v_r.list,.box 240 [I v_r.fresh,.map 0],.box 3 [I r.2]]:=by
 induction k generalizing v_r c node v_at n r with
 | zero=>unfold Lat at h;cases h
 | succ k ih0=>
  have ih:∀ {v_r:Kyj} {c:Kye} {node:Str} {v_at:Int} {n:Int} {r:Kyl×Int},Lat k v_r c node v_at n=some r→EC Tryz.prog 177 [.ptr 1 0,.agg [I c.Kind,S c.Name,S c.Op,I c.Value.Kind,I c.Value.Number,S c.Value.Words,I c.Value.Version.1,I c.Value.Version.2.1,I c.Value.Version.2.2.1,I c.Value.Version.2.2.2,.d (.ro c.Kids.n c.Kids.xs)],S node,I v_at,.ptr 2 0] [mOb (kD Kxw) false (eT 83 10 Kxv) v_r.list,.box 240 [I v_r.fresh,.map 0],.box 3 [I n]] fun g hp'=>g=.agg [I r.1.is,.d (Sl (eN .i64) r.1.proof)]∧hp'=[mOb (kD Kxw) false (eT 83 10 Kxv) v_r.list,.box 240 [I v_r.fresh,.map 0],.box 3 [I r.2]]:=by intro v_r c node v_at n r h;first | exact ih0 h | exact ih0 _ _ _ _ _ _ h
  refine Kog (Fr.of 0 _) Tryz.func177 E (Fr.of_ok _) Z fun _=>?_
  refine Kfp ?_
  unfold Lat at h
  refine gA 2 E ?_
  refine Kpv E E E E Z ?_
  refine Kpu hΓ E E E Z ?_
  refine gO 16 E ?_
  refine Kfq E (fun hb=>?_) (fun hb=>?_)
  ·have h1:=cT h hb
   refine gA 15 E ?_
   refine Kpz hΓ E E E E E E E E Z ?_
   refine Khg [mOb (kD Kxw) false (eT 83 10 Kxv) v_r.list,.box 240 [I v_r.fresh,.map 0],.box 3 [I (wi (n+1))],.box 32 [I c.Kind,S c.Name,S c.Op,I c.Value.Kind,I c.Value.Number,S c.Value.Words,I c.Value.Version.1,I c.Value.Version.2.1,I c.Value.Version.2.2.1,I c.Value.Version.2.2.2,.d (.ro c.Kids.n c.Kids.xs)],.box 140 [I 0,.d (Sl (eN .i64) [])]] E ?_
   obtain⟨y2,hy2,h3⟩:=Kfx h1
   refine gO 9 E ?_
   refine Kgw [0,1] (.tup [.agg [I y2.1.Kind,I y2.1.Number,S y2.1.Words,I y2.1.Version.1,I y2.1.Version.2.1,I y2.1.Version.2.2.1,I y2.1.Version.2.2.2],B y2.2]) [mOb (kD Kxw) false (eT 83 10 Kxv) v_r.list,.box 240 [I v_r.fresh,.map 0],.box 3 [I (wi (n+1))],.box 32 [I c.Kind,S c.Name,S c.Op,I c.Value.Kind,I c.Value.Number,S c.Value.Words,I c.Value.Version.1,I c.Value.Version.2.1,I c.Value.Version.2.2.1,I c.Value.Version.2.2.2,.d (.ro c.Kids.n c.Kids.xs)],.box 140 [I 0,.d (Sl (eN .i64) [])]] C (Kat hy2) E Z E E E E E E E E E E ?_
   refine gO 3 E ?_
   refine Kpu hΓ E E E Z ?_
   refine Kpz hΓ E E E E E E E E Z ?_
   refine Khg [mOb (kD Kxw) false (eT 83 10 Kxv) v_r.list,.box 240 [I v_r.fresh,.map 0],.box 3 [I (wi (n+1))],.box 32 [I c.Kind,S c.Name,S c.Op,I c.Value.Kind,I c.Value.Number,S c.Value.Words,I c.Value.Version.1,I c.Value.Version.2.1,I c.Value.Version.2.2.1,I c.Value.Version.2.2.2,.d (.ro c.Kids.n c.Kids.xs)],.box 140 [I 0,.d (Sl (eN .i64) [])],.box 29 [I y2.1.Kind,I y2.1.Number,S y2.1.Words,I y2.1.Version.1,I y2.1.Version.2.1,I y2.1.Version.2.2.1,I y2.1.Version.2.2.2]] E ?_
   refine gO 9 E ?_
   refine Kfw 7 [(6,.ptr 3 0),(10,.ptr 4 0),(11,I n),(12,.ptr 5 0),(45,B ((!y2.2)||((y2.1.Kind:Int) != c.Value.Kind)))] [mOb (kD Kxw) false (eT 83 10 Kxv) v_r.list,.box 240 [I v_r.fresh,.map 0],.box 3 [I (wi (n+1))],.box 32 [I c.Kind,S c.Name,S c.Op,I c.Value.Kind,I c.Value.Number,S c.Value.Words,I c.Value.Version.1,I c.Value.Version.2.1,I c.Value.Version.2.2.1,I c.Value.Version.2.2.2,.d (.ro c.Kids.n c.Kids.xs)],.box 140 [I 0,.d (Sl (eN .i64) [])],.box 29 [I y2.1.Kind,I y2.1.Number,S y2.1.Words,I y2.1.Version.1,I y2.1.Version.2.1,I y2.1.Version.2.2.1,I y2.1.Version.2.2.2]] ?_ ?_
   ·refine Koo E E (fun hb=>?_) (fun hb=>?_)
    ·refine gO 8 E ?_
     exact⟨⟨E,E,E,E,Ket E (or_t hb),tV⟩,[],E,.inl E⟩
    refine gO 8 E ?_
    exact⟨⟨E,E,E,E,Ket E (or_f hb),tV⟩,[],E,.inl E⟩
   refine gO 2 E ?_
   refine Kfq E (fun hb=>?_) (fun hb=>?_)
   ·have h4:=cT h3 hb
    refine gA 2 E ?_
    refine Kdq hΓ (gs:=[I 2,.d (Sl (eN .i64) [])]) E E E E E E E ?_
    refine Kpz hΓ E E E E E E E E Z ?_
    refine Khg [mOb (kD Kxw) false (eT 83 10 Kxv) v_r.list,.box 240 [I v_r.fresh,.map 0],.box 3 [I (wi (n+1))],.box 32 [I c.Kind,S c.Name,S c.Op,I c.Value.Kind,I c.Value.Number,S c.Value.Words,I c.Value.Version.1,I c.Value.Version.2.1,I c.Value.Version.2.2.1,I c.Value.Version.2.2.2,.d (.ro c.Kids.n c.Kids.xs)],.box 140 [I 2,.d (Sl (eN .i64) [])],.box 29 [I y2.1.Kind,I y2.1.Number,S y2.1.Words,I y2.1.Version.1,I y2.1.Version.2.1,I y2.1.Version.2.2.1,I y2.1.Version.2.2.2]] E ?_
    refine gO 6 E ?_
    obtain rfl:=oSi h4
    exact Khl hΓ [_,_,_] (.inr E) E E E E (.inr ⟨HB.mk E,E⟩)
   have h5:=cF h3 hb
   refine gA 4 E ?_
   refine jD ?_
   obtain⟨y6,hy6,h7⟩:=Kfx h5
   refine gA 5 E ?_
   refine Kgy C (Lgb hy6) E E E E E E ?_
   obtain⟨y8,hy8,h9⟩:=Kfx h7
   refine Kgy C (Lgc hy8) E E E E E E ?_
   refine Kfo hΓ 2 E ?_
   refine Kfq E (fun hb=>?_) (fun hb=>?_)
   ·have h10:=cT h9 hb
    refine gA 3 E ?_
    refine Kgr hΓ (enc:=(eN .i64)) [n] E E E E E E E E E E E E Z ?_
    refine Kdq hΓ (gs:=[I 1,.d (Sl (eN .i64) [n])]) E E E E E E E ?_
    refine Kpz hΓ E E E E E E E E Z ?_
    refine Khg [mOb (kD Kxw) false (eT 83 10 Kxv) v_r.list,.box 240 [I v_r.fresh,.map 0],.box 3 [I (wi (n+1))],.box 32 [I c.Kind,S c.Name,S c.Op,I c.Value.Kind,I c.Value.Number,S c.Value.Words,I c.Value.Version.1,I c.Value.Version.2.1,I c.Value.Version.2.2.1,I c.Value.Version.2.2.2,.d (.ro c.Kids.n c.Kids.xs)],.box 140 [I 1,.d (Sl (eN .i64) [n])],.box 29 [I y2.1.Kind,I y2.1.Number,S y2.1.Words,I y2.1.Version.1,I y2.1.Version.2.1,I y2.1.Version.2.2.1,I y2.1.Version.2.2.2]] E ?_
    refine gO 6 E ?_
    obtain rfl:=oSi h10
    exact Khl hΓ [_,_,_] (.inr E) E E E E (.inr ⟨HB.mk E,E⟩)
   have h11:=cF h9 hb
   refine gA 5 E ?_
   refine Kgr hΓ (enc:=(eN .i64)) [n] E E E E E E E E E E E E Z ?_
   refine Kdq hΓ (gs:=[I 0,.d (Sl (eN .i64) [n])]) E E E E E E E ?_
   refine Kpz hΓ E E E E E E E E Z ?_
   refine Khg [mOb (kD Kxw) false (eT 83 10 Kxv) v_r.list,.box 240 [I v_r.fresh,.map 0],.box 3 [I (wi (n+1))],.box 32 [I c.Kind,S c.Name,S c.Op,I c.Value.Kind,I c.Value.Number,S c.Value.Words,I c.Value.Version.1,I c.Value.Version.2.1,I c.Value.Version.2.2.1,I c.Value.Version.2.2.2,.d (.ro c.Kids.n c.Kids.xs)],.box 140 [I 0,.d (Sl (eN .i64) [n])],.box 29 [I y2.1.Kind,I y2.1.Number,S y2.1.Words,I y2.1.Version.1,I y2.1.Version.2.1,I y2.1.Version.2.2.1,I y2.1.Version.2.2.2]] E ?_
   refine gO 5 E ?_
   obtain rfl:=oSi h11
   exact Khl hΓ [_,_,_] (.inr E) E E E E (.inr ⟨HB.mk E,E⟩)
  have h12:=cF h hb
  refine gA 6 E ?_
  refine Kfq E (fun hb=>?_) (fun hb=>?_)
  ·have h13:=cT h12 hb
   obtain⟨l14,hl14,h15⟩:=Kfx h13
   refine gA 4 E ?_
   refine eo_o E (Klt (Kpi hΓ (g:=.d (.ro c.Kids.n c.Kids.xs)) E) (G.Le.unk Ldg hl14)) ?_
   obtain⟨x16,hx16,h17⟩:=Kfx h15
   refine eo_o E (Kgh hΓ (enc:=Kyf) hx16 E E E E E (fun _=>E)) ?_
   obtain⟨y18,hy18,h19⟩:=Kfx h17
   refine gO 4 E ?_
   refine Kgw [0,1,2] (.agg [I y18.1.is,.d (Sl (eN .i64) y18.1.proof)]) [mOb (kD Kxw) false (eT 83 10 Kxv) v_r.list,.box 240 [I v_r.fresh,.map 0],.box 3 [I y18.2],.box 32 [I c.Kind,S c.Name,S c.Op,I c.Value.Kind,I c.Value.Number,S c.Value.Words,I c.Value.Version.1,I c.Value.Version.2.1,I c.Value.Version.2.2.1,I c.Value.Version.2.2.2,.d (.ro c.Kids.n c.Kids.xs)],.box 140 [I 0,.d (Sl (eN .i64) [])]] C (ih hy18) E Z E E E E E E E E E E ?_
   refine Kpu hΓ E E E Z ?_
   refine Kpz hΓ E E E E E E E E Z ?_
   refine Khg [mOb (kD Kxw) false (eT 83 10 Kxv) v_r.list,.box 240 [I v_r.fresh,.map 0],.box 3 [I y18.2],.box 32 [I c.Kind,S c.Name,S c.Op,I c.Value.Kind,I c.Value.Number,S c.Value.Words,I c.Value.Version.1,I c.Value.Version.2.1,I c.Value.Version.2.2.1,I c.Value.Version.2.2.2,.d (.ro c.Kids.n c.Kids.xs)],.box 140 [I 0,.d (Sl (eN .i64) [])],.box 140 [I y18.1.is,.d (Sl (eN .i64) y18.1.proof)]] E ?_
   obtain⟨q20,hq20,h21⟩:=Kfx h19
   refine gO 9 E ?_
   refine Kjs [(10,.ptr 4 0),(14,.ptr 5 0)] [mOb (kD Kxw) false (eT 83 10 Kxv) v_r.list,.box 240 [I v_r.fresh,.map 0],.box 3 [I y18.2],.box 32 [I c.Kind,S c.Name,S c.Op,I c.Value.Kind,I c.Value.Number,S c.Value.Words,I c.Value.Version.1,I c.Value.Version.2.1,I c.Value.Version.2.2.1,I c.Value.Version.2.2.2,.d (.ro c.Kids.n c.Kids.xs)],.box 140 [I 0,.d (Sl (eN .i64) [])],.box 140 [I q20,.d (Sl (eN .i64) y18.1.proof)]] ?_ ?_
   ·refine gA 7 E ?_
    refine Kfq E (fun hb=>?_) (fun hb=>?_)
    ·have h22:=cT hq20 hb
     refine gA 2 E ?_
     refine Kpz hΓ E E E E E E E E Z ?_
     refine Khg [mOb (kD Kxw) false (eT 83 10 Kxv) v_r.list,.box 240 [I v_r.fresh,.map 0],.box 3 [I y18.2],.box 32 [I c.Kind,S c.Name,S c.Op,I c.Value.Kind,I c.Value.Number,S c.Value.Words,I c.Value.Version.1,I c.Value.Version.2.1,I c.Value.Version.2.2.1,I c.Value.Version.2.2.2,.d (.ro c.Kids.n c.Kids.xs)],.box 140 [I 0,.d (Sl (eN .i64) [])],.box 140 [I 0,.d (Sl (eN .i64) y18.1.proof)]] E ?_
     refine gO 2 E ?_
     obtain rfl:=oSi h22
     exact⟨⟨E,E,tV⟩,[],E,.inl E⟩
    have h23:=cF hq20 hb
    refine gA 6 E ?_
    refine Kfq E (fun hb=>?_) (fun hb=>?_)
    ·have h24:=cT h23 hb
     refine gA 2 E ?_
     refine Kpz hΓ E E E E E E E E Z ?_
     refine Khg [mOb (kD Kxw) false (eT 83 10 Kxv) v_r.list,.box 240 [I v_r.fresh,.map 0],.box 3 [I y18.2],.box 32 [I c.Kind,S c.Name,S c.Op,I c.Value.Kind,I c.Value.Number,S c.Value.Words,I c.Value.Version.1,I c.Value.Version.2.1,I c.Value.Version.2.2.1,I c.Value.Version.2.2.2,.d (.ro c.Kids.n c.Kids.xs)],.box 140 [I 0,.d (Sl (eN .i64) [])],.box 140 [I 1,.d (Sl (eN .i64) y18.1.proof)]] E ?_
     refine gO 2 E ?_
     obtain rfl:=oSi h24
     exact⟨⟨E,E,tV⟩,[],E,.inl E⟩
    have h25:=cF h23 hb
    refine gA 2 E ?_
    obtain rfl:=oSi h25
    exact⟨⟨E,E,tV⟩,[],E,.inl E⟩
   refine gA 4 E ?_
   refine Kpz hΓ E E E E E E E E Z ?_
   refine Khg [mOb (kD Kxw) false (eT 83 10 Kxv) v_r.list,.box 240 [I v_r.fresh,.map 0],.box 3 [I y18.2],.box 32 [I c.Kind,S c.Name,S c.Op,I c.Value.Kind,I c.Value.Number,S c.Value.Words,I c.Value.Version.1,I c.Value.Version.2.1,I c.Value.Version.2.2.1,I c.Value.Version.2.2.2,.d (.ro c.Kids.n c.Kids.xs)],.box 140 [I q20,.d (Sl (eN .i64) y18.1.proof)],.box 140 [I q20,.d (Sl (eN .i64) y18.1.proof)]] E ?_
   refine gO 5 E ?_
   obtain rfl:=oSi h21
   exact Khl hΓ [_,_,_] (.inr E) E E E E (.inr ⟨HB.mk E,E⟩)
  have h26:=cF h12 hb
  refine gA 6 E ?_
  refine Kfq E (fun hb=>?_) (fun hb=>?_)
  ·have h27:=cT h26 hb
   obtain⟨y28,hy28,h29⟩:=Kfx h27
   refine gA 7 E ?_
   refine Kgw [0,1,2] (.agg [I y28.1.is,.d (Sl (eN .i64) y28.1.proof)]) [mOb (kD Kxw) false (eT 83 10 Kxv) v_r.list,.box 240 [I v_r.fresh,.map 0],.box 3 [I y28.2],.box 32 [I c.Kind,S c.Name,S c.Op,I c.Value.Kind,I c.Value.Number,S c.Value.Words,I c.Value.Version.1,I c.Value.Version.2.1,I c.Value.Version.2.2.1,I c.Value.Version.2.2.2,.d (.ro c.Kids.n c.Kids.xs)],.box 140 [I 0,.d (Sl (eN .i64) [])]] C (Lgf ih hy28) E Z E E E E E E E E E E ?_
   refine Kpz hΓ E E E E E E E E Z ?_
   refine Khg [mOb (kD Kxw) false (eT 83 10 Kxv) v_r.list,.box 240 [I v_r.fresh,.map 0],.box 3 [I y28.2],.box 32 [I c.Kind,S c.Name,S c.Op,I c.Value.Kind,I c.Value.Number,S c.Value.Words,I c.Value.Version.1,I c.Value.Version.2.1,I c.Value.Version.2.2.1,I c.Value.Version.2.2.2,.d (.ro c.Kids.n c.Kids.xs)],.box 140 [I y28.1.is,.d (Sl (eN .i64) y28.1.proof)]] E ?_
   refine gO 5 E ?_
   obtain rfl:=oSi h29
   exact Khl hΓ [_,_] (.inr E) E E E E (.inr ⟨HB.mk E,E⟩)
  have h30:=cF h26 hb
  obtain⟨y31,hy31,h32⟩:=Kfx h30
  refine gA 10 E ?_
  refine Kgw [0,1,2] (.agg [I y31.1.is,.d (Sl (eN .i64) y31.1.proof)]) [mOb (kD Kxw) false (eT 83 10 Kxv) v_r.list,.box 240 [I v_r.fresh,.map 0],.box 3 [I y31.2],.box 32 [I c.Kind,S c.Name,S c.Op,I c.Value.Kind,I c.Value.Number,S c.Value.Words,I c.Value.Version.1,I c.Value.Version.2.1,I c.Value.Version.2.2.1,I c.Value.Version.2.2.2,.d (.ro c.Kids.n c.Kids.xs)],.box 140 [I 0,.d (Sl (eN .i64) [])]] C (Lgf ih hy31) E Z E E E E E E E E E E ?_
  refine Kpz hΓ E E E E E E E E Z ?_
  refine Khg [mOb (kD Kxw) false (eT 83 10 Kxv) v_r.list,.box 240 [I v_r.fresh,.map 0],.box 3 [I y31.2],.box 32 [I c.Kind,S c.Name,S c.Op,I c.Value.Kind,I c.Value.Number,S c.Value.Words,I c.Value.Version.1,I c.Value.Version.2.1,I c.Value.Version.2.2.1,I c.Value.Version.2.2.2,.d (.ro c.Kids.n c.Kids.xs)],.box 140 [I y31.1.is,.d (Sl (eN .i64) y31.1.proof)]] E ?_
  refine gO 3 E ?_
  obtain rfl:=oSi h32
  exact Khl hΓ [_,_] (.inr E) E E E E (.inr ⟨HB.mk E,E⟩)
theorem Lgh{k:Nat}{v_r:Kyj}{c:Kye}{node:Str}{v_at:Int}{r:Int}(h:Lau k v_r c node v_at=some r):EC Tryz.prog 97 [.ptr 1 0,.agg [I c.Kind,S c.Name,S c.Op,I c.Value.Kind,I c.Value.Number,S c.Value.Words,I c.Value.Version.1,I c.Value.Version.2.1,I c.Value.Version.2.2.1,I c.Value.Version.2.2.2,.d (.ro c.Kids.n c.Kids.xs)],S node,I v_at] [mOb (kD Kxw) false (eT 83 10 Kxv) v_r.list,.box 240 [I v_r.fresh,.map 0]] fun g hp'=>g=I r∧hp'=[mOb (kD Kxw) false (eT 83 10 Kxv) v_r.list,.box 240 [I v_r.fresh,.map 0]]:=by
 unfold Lau at h
 exact QN Tryz.func97 E Z<|gA 2 E<|Kpv E E E E Z<|gO 5 E<|Kpu hΓ E E E Z<|Kpz hΓ E E E E E E E E Z<|Khg [mOb (kD Kxw) false (eT 83 10 Kxv) v_r.list,.box 240 [I v_r.fresh,.map 0],.box 32 [I c.Kind,S c.Name,S c.Op,I c.Value.Kind,I c.Value.Number,S c.Value.Words,I c.Value.Version.1,I c.Value.Version.2.1,I c.Value.Version.2.2.1,I c.Value.Version.2.2.2,.d (.ro c.Kids.n c.Kids.xs)],.box 3 [I 0]] E<|bK h fun y1 hy1 h2=>gO 8 E<|Kgw [0,1,3] (.agg [I y1.1.is,.d (Sl (eN .i64) y1.1.proof)]) [mOb (kD Kxw) false (eT 83 10 Kxv) v_r.list,.box 240 [I v_r.fresh,.map 0],.box 32 [I c.Kind,S c.Name,S c.Op,I c.Value.Kind,I c.Value.Number,S c.Value.Words,I c.Value.Version.1,I c.Value.Version.2.1,I c.Value.Version.2.2.1,I c.Value.Version.2.2.2,.d (.ro c.Kids.n c.Kids.xs)],.box 3 [I y1.2]] C (Lgg hy1) E Z E E E E E E E E E E<|gO 5 E<|oSi h2▸Khl hΓ [_,_] (.inr E) E E E E (.inr ⟨HB.mk E,E⟩)
theorem Lgi{k:Nat}{v_r:Kyj}{p:List Kyg}{node:Str}{v_at:Int}{r:List Str}(h:Lav k v_r p node v_at=some r):EC Tryz.prog 114 [.ptr 1 0,.d (Sl Kxu p),S node,I v_at] [mOb (kD Kxw) false (eT 83 10 Kxv) v_r.list,.box 240 [I v_r.fresh,.map 0]] fun g hp'=>g=.sl 2 r.length∧hp'=[mOb (kD Kxw) false (eT 83 10 Kxv) v_r.list,.box 240 [I v_r.fresh,.map 0],rO 9 1 eS r]:=by
 unfold Lav at h
 refine QM Tryz.func114 E Z<|gA 7 E<|Kgu (t:=0) 9 1 E Z<|gO 10 E<|bK h fun q4 hq4 h5=>Kgg 12 E fun hb7=>Kjs [(9,.sl 2 q4.length)] [mOb (kD Kxw) false (eT 83 10 Kxv) v_r.list,.box 240 [I v_r.fresh,.map 0],rO 9 1 eS q4] ?_ ?_
 ·refine gA 1 E<|Khn p hq4 (fun i1 s2=>[(0,.ptr 1 0),(2,S node),(3,I v_at),(9,.sl 2 s2.length),(12,.d (Sl Kxu p)),(13,I (p.length:Int)),(14,I (i1:Int))]) (fun s2=>[mOb (kD Kxw) false (eT 83 10 Kxv) v_r.list,.box 240 [I v_r.fresh,.map 0],rO 9 1 eS s2]) ⟨⟨E,E,E,E,E,E,E,tV⟩,[],E,.inl E⟩ (fun i1 x3 s2 y11 hx8 hlt hy9=>?_) (?_)
  ·refine gA 6 E<|Kfr E (dT (Int.ofNat_lt.2 hlt))<|gA 6 E<|eo_o E (Kgh hΓ (enc:=Kxu) (Kga hx8) E E E E E (fun _=>E))<|gO 1 E<|Kpu hΓ E E E Z<|Kpz hΓ E E E E E E E E Z<|Khg [mOb (kD Kxw) false (eT 83 10 Kxv) v_r.list,.box 240 [I v_r.fresh,.map 0],rO 9 1 eS s2,.box 159 [S x3.Key,I x3.Cond.Kind,S x3.Cond.Name,S x3.Cond.Op,I x3.Cond.Value.Kind,I x3.Cond.Value.Number,S x3.Cond.Value.Words,I x3.Cond.Value.Version.1,I x3.Cond.Value.Version.2.1,I x3.Cond.Value.Version.2.2.1,I x3.Cond.Value.Version.2.2.2,.d (.ro x3.Cond.Kids.n x3.Cond.Kids.xs)]] E<|bK hy9 fun y12 hy12 h13=>gO 9 E<|Kgw [0,1] (I y12) [mOb (kD Kxw) false (eT 83 10 Kxv) v_r.list,.box 240 [I v_r.fresh,.map 0],rO 9 1 eS s2,.box 159 [S x3.Key,I x3.Cond.Kind,S x3.Cond.Name,S x3.Cond.Op,I x3.Cond.Value.Kind,I x3.Cond.Value.Number,S x3.Cond.Value.Words,I x3.Cond.Value.Version.1,I x3.Cond.Value.Version.2.1,I x3.Cond.Value.Version.2.2.1,I x3.Cond.Value.Version.2.2.2,.d (.ro x3.Cond.Kids.n x3.Cond.Kids.xs)]] C (Lgh hy12) E Z E E E E E E E E E E<|gO 3 E<|jC E h13 (fun h14=>?_) fun h17=>gA 7 E ?_
   ·refine gA 4 E<|Kgr hΓ (enc:=eS) [x3.Key] E E E E E E E E E E E E Z<|bK h14 fun y15 hy15 h16=>Khh hΓ (enc:=eS) hy15 E E E E E E E E E (fun _=>E) E E E E<|gO 8 E ?_
    cases h16
    exact⟨⟨E,E,E,E,E,E,Kes E (Ker (nLl hlt hb7)),tV⟩,[_],E,.inr ⟨HB.mk E,FB.mk E,Z⟩⟩
   cases h17
   exact⟨⟨E,E,E,E,E,E,Kes E (Ker (nLl hlt hb7)),tV⟩,[_],E,.inr ⟨HB.mk E,FB.mk E,Z⟩⟩
  exact gA 6 E<|Kfs E (dF (Int.lt_irrefl _))<|gA 4 E<|⟨⟨E,tV⟩,[],E,.inl E⟩
 exact gA 8 E<|Kjn<|oSi h5▸Khl hΓ [] (.inr E) E E E E (.inl E)
theorem Lgj{k:Nat}{p:List Kyg}{l:List Kyh}{fresh:Int}{nodes:List Str}{v_at:Int}{al:List Bool}{r:(List Kyk)×Int×(List Bool)}(h:Law k p l fresh nodes v_at al=some r):EC Tryz.prog 36 [.d (Sl Kxu p),.d (Sl Kxv l),I fresh,.d (Sl eS nodes),I v_at] [.bag al [] []] fun g hp'=>g=.tup [.d (Sl Kxx r.1),I r.2.1]∧hp'=[.bag r.2.2 [] []]:=by
 unfold Law at h
 refine QN Tryz.func36 E Z<|bK h fun y1 hy1 h2=>gA 14 E<|Kgx C (Lfy hy1) E Z E E E E E<|gO 9 E<|jC E h2 (fun h3=>?_) fun h4=>bK h4 fun y5 hy5 h6=>gA 6 E<|Kgw [0] (.ptr 2 0) [.bag y5.2 [] [],mOb (kD Kxw) false (eT 83 10 Kxv) y5.1.list,.box 240 [I y5.1.fresh,.map 1]] C (Lfz hy5) E Z E E E E E E E E E E<|gO 5 E<|Kgu (t:=0) 78 2 E Z<|gO 10 E<|bK h6 fun q10 hq10 h11=>Kgg 31 E fun hb13=>Kjs [(14,.sl 3 q10.length)] [.bag y5.2 [] [],mOb (kD Kxw) false (eT 83 10 Kxv) y5.1.list,.box 240 [I y5.1.fresh,.map 1],rO 78 2 Kxx q10] ?_ ?_
 ·exact gA 9 E<|oSi h3▸Khl hΓ [] (.inr E) E E E E (.inl E)
 ·refine gA 1 E<|Khn nodes hq10 (fun i7 s8=>[(0,.d (Sl Kxu p)),(4,I v_at),(13,.ptr 2 0),(14,.sl 3 s8.length),(31,.d (Sl eS nodes)),(32,I (nodes.length:Int)),(33,I (i7:Int))]) (fun s8=>[.bag y5.2 [] [],mOb (kD Kxw) false (eT 83 10 Kxv) y5.1.list,.box 240 [I y5.1.fresh,.map 1],rO 78 2 Kxx s8]) ⟨⟨E,E,E,E,E,E,E,tV⟩,[],E,.inl E⟩ (fun i7 x9 s8 y17 hx14 hlt hy15=>?_) (?_)
  ·refine gA 6 E<|Kfr E (dT (Int.ofNat_lt.2 hlt))<|gA 6 E<|eo_o E (Kgh hΓ (enc:=eS) (Kga hx14) E E E E E (fun _=>E))<|bK hy15 fun y18 hy18 h19=>gO 10 E<|Kgw [1,2] (.sl 4 y18.length) [.bag y5.2 [] [],mOb (kD Kxw) false (eT 83 10 Kxv) y5.1.list,.box 240 [I y5.1.fresh,.map 1],rO 78 2 Kxx s8,rO 9 1 eS y18] C (Lgi hy18) E Z E E E E E E E E E E<|Khd 4 [41] _ [.bag y5.2 [] [],mOb (kD Kxw) false (eT 83 10 Kxv) y5.1.list,.box 240 [I y5.1.fresh,.map 1],rO 78 2 Kxx s8,.dead] E E E Z<|gO 4 E<|bK h19 fun q23 hq23 h24=>Kgg 41 E fun hb26=>Kjs [(0,.d (Sl Kxu p)),(4,I v_at),(13,.ptr 2 0),(14,.sl 3 q23.length),(31,.d (Sl eS nodes)),(32,I (nodes.length:Int)),(33,I (i7:Int))] [.bag y5.2 [] [],mOb (kD Kxw) false (eT 83 10 Kxv) y5.1.list,.box 240 [I y5.1.fresh,.map 1],rO 78 2 Kxx q23,.dead] ?_ ?_
   ·refine gA 1 E<|Khn y18 hq23 (fun i20 s21=>[(0,.d (Sl Kxu p)),(4,I v_at),(13,.ptr 2 0),(14,.sl 3 s21.length),(16,S x9),(31,.d (Sl eS nodes)),(32,I (nodes.length:Int)),(33,I (i7:Int)),(41,.d (Sl eS y18)),(42,I (y18.length:Int)),(43,I (i20:Int))]) (fun s21=>[.bag y5.2 [] [],mOb (kD Kxw) false (eT 83 10 Kxv) y5.1.list,.box 240 [I y5.1.fresh,.map 1],rO 78 2 Kxx s21,.dead]) ⟨⟨E,E,E,E,E,E,E,E,E,E,E,tV⟩,[],E,.inl E⟩ (fun i20 x22 s21 y30 hx27 hlt hy28=>?_) (?_)
    ·refine gA 6 E<|Kfr E (dT (Int.ofNat_lt.2 hlt))<|gA 6 E<|eo_o E (Kgh hΓ (enc:=eS) (Kga hx27) E E E E E (fun _=>E))<|gO 8 E<|Kdq hΓ (gs:=[S x9,S x22]) E E E E E E E<|Kgr hΓ (enc:=Kxx) [(⟨x9,x22⟩:Kyk)] E E E E E E E E E E E E Z<|bK hy28 fun y31 hy31 h32=>Khh hΓ (enc:=Kxx) hy31 E E E E E E E E E (fun _=>E) E E E E<|gO 8 E ?_
     cases h32
     exact⟨⟨E,E,E,E,E,E,E,E,E,E,Kes E (Ker (nLl hlt hb26)),tV⟩,[],E,.inl E⟩
    exact gA 6 E<|Kfs E (dF (Int.lt_irrefl _))<|gA 4 E<|⟨⟨E,E,E,E,E,E,E,tV⟩,[],E,.inl E⟩
   refine gA 6 E ?_
   cases h24
   exact⟨⟨E,E,E,E,E,E,Kes E (Ker (nLl hlt hb13)),tV⟩,[_],E,.inr ⟨HB.mk E,FB.mk E,Z⟩⟩
  exact gA 6 E<|Kfs E (dF (Int.lt_irrefl _))<|gA 4 E<|⟨⟨E,tV⟩,[],E,.inl E⟩
 refine gA 9 E<|jC E h11 (fun h33=>?_) fun h34=>gA 6 E<|Khd 3 [10,14,55,58] _ [.bag y5.2 [] [],mOb (kD Kxw) false (eT 83 10 Kxv) y5.1.list,.box 240 [I y5.1.fresh,.map 1],.dead] E E E Z<|gO 4 E<|oSi h34▸Khl hΓ [_,_,_] (.inr E) E E E E (.inr ⟨HB.mk E,E⟩)
 exact gA 8 E<|oSi h33▸Khl hΓ [_,_,_] (.inr E) E E E E (.inr ⟨HB.mk E,E⟩)
theorem Lgk{k:Nat}{s:List Int}{r:List Int}(h:Lax k s=some r):EC Tryz.prog 141 [.sl 0 s.length] [rO 3 1 (eN .i64) s] fun g hp'=>g=.sl 0 r.length∧hp'=[rO 3 1 (eN .i64) r]:=by
 unfold Lax at h
 refine QN Tryz.func141 E Z<|gA 2 E<|Kgu (t:=0) 3 1 E Z<|gO 10 E<|jC E h (fun h1=>?_) fun h2=>gA 8 E<|bK h2 fun q6 hq6 h7=>Kjr (R:=fun a8=>q6=.inl a8) (fun a8=>[(0,.sl 0 s.length)]) (fun a8=>[rO 3 1 (eN .i64) s,rO 3 1 (eN .i64) ([]:List Int)]) ?_ ?_
 ·exact gA 8 E<|oSi h1▸Khl hΓ [_] (.inr E) E E E E (.inr ⟨HB.mk E,E⟩)
 ·refine gA 1 E<|Kgd hq6 (fun s4=>[(0,.sl 0 s.length),(3,I s4)]) (fun s4=>[rO 3 1 (eN .i64) s,rO 3 1 (eN .i64) ([]:List Int)]) ⟨⟨E,E,tV⟩,[],E,.inl E⟩ (fun s4 y12 hy10 hout11=>?_)
  refine gA 9 E<|jC E hy10 (fun h13=>?_) fun h60=>gA 4 E ?_
  ·refine gA 5 E<|jD<|bK h13 fun x14 hx14 h15=>?_
   have hj16:=Khq hx14
   refine gA 2 E<|gl_o E (Kgj hΓ hx14 E E E E E E)<|gl_o E (Kgo hΓ (enc:=(eN .i64)) s4.toNat 0 hj16 E E E E (fun _=>E) (g:=I x14) E)<|bK h15 fun x17 hx17 h18=>?_
   have hj19:=Khq hx17
   refine Kfo hΓ 3 E<|gl_o E (Kgj hΓ hx17 E E E E E E)<|gl_o E (Kgo hΓ (enc:=(eN .i64)) ((wi (s4 - 1)).toNat) 0 hj19 E E E E (fun _=>E) (g:=I x17) E)<|Kfo hΓ 3 E<|jC E h18 (fun h20=>?_) fun h59=>gA 8 E<|oSi h59▸⟨_,E,⟨⟨E,E,tV⟩,[],E,.inl E⟩⟩
   refine bK h20 fun z21 hz21 h22=>gA 4 E<|eo_o E (Kka hΓ hz21 E E E E E E)<|gO 9 E<|bK h22 fun q26 hq26 h27=>Kjs [(0,.sl 0 q26.1.length),(3,I q26.2)] [rO 3 1 (eN .i64) q26.1,rO 3 1 (eN .i64) ([]:List Int)] ?_ ?_
   ·refine gA 1 E<|Kgd hq26 (fun s24=>[(0,.sl 0 s24.1.length),(3,I s24.2.1),(4,.slo 0 1 s4.toNat z21.length),(5,I s24.2.2)]) (fun s24=>[rO 3 1 (eN .i64) s24.1,rO 3 1 (eN .i64) ([]:List Int)]) ⟨⟨E,E,E,E,tV⟩,[],E,.inl E⟩ (fun s24 y32 hy30 hout31=>?_)
    refine gA 9 E<|jC E hy30 (fun h33=>?_) fun h54=>gA 4 E ?_
    ·refine gA 5 E<|jD<|bK h33 fun x34 hx34 h35=>bK h35 fun x36 hx36 h37=>?_
     have hj38:s24.1[(s4.toNat+s24.2.2.toNat)]?=some x36:=hx36
     refine gA 2 E<|gl_o E (Kke hΓ hx34 E E E E E E E)<|gl_o E (Kgo hΓ (enc:=(eN .i64)) (s4.toNat+s24.2.2.toNat) 0 hj38 E E E E (fun _=>E) (g:=I x36) E)<|bK h37 fun x39 hx39 h40=>bK h40 fun x41 hx41 h42=>?_
     have hj43:s24.1[(s4.toNat+(wi (s24.2.2 - 1)).toNat)]?=some x41:=hx41
     refine Kfo hΓ 3 E<|gl_o E (Kke hΓ hx39 E E E E E E E)<|gl_o E (Kgo hΓ (enc:=(eN .i64)) (s4.toNat+(wi (s24.2.2 - 1)).toNat) 0 hj43 E E E E (fun _=>E) (g:=I x41) E)<|Kfo hΓ 3 E<|jC E h42 (fun h44=>?_) fun h53=>gA 8 E<|oSi h53▸⟨_,E,⟨⟨E,E,E,E,tV⟩,[],E,.inl E⟩⟩
     refine bK h44 fun x45 hx45 h46=>bK h46 fun x47 hx47 h48=>?_
     have hj49:s24.1[(s4.toNat+s24.2.2.toNat)]?=some x47:=hx47
     refine gA 6 E<|eo_o E (Kke hΓ hx45 E E E E E E E)<|eo_o E (Kgo hΓ (enc:=(eN .i64)) (s4.toNat+s24.2.2.toNat) 0 hj49 E E E E (fun _=>E) (g:=I x47) E)<|bK h48 fun x50 hx50 h51=>?_
     have hj52:=Khq hx50
     exact eo_o E (Kgj hΓ hx50 E E E E E E)<|Kgq hΓ (enc:=(eN .i64)) (z':=x47) s24.2.1.toNat 0 hj52 E E E E (fun _=>E) E E E E E E Z<|Khg [rO 3 1 (eN .i64) (s24.1.set s24.2.1.toNat x47),rO 3 1 (eN .i64) ([]:List Int)] E<|Kkc 0 (n':=(s24.1.set s24.2.1.toNat x47).length) E List.length_set.symm<|gO 14 E<|oSi h51▸⟨_,E,⟨⟨E,E,E,E,tV⟩,[],E,.inl E⟩⟩
    cases h54
    obtain rfl:=hout31 _ rfl
    exact⟨⟨E,E,tV⟩,[],E,.inl E⟩
   refine bK h27 fun z55 hz55 h56=>gA 5 E<|eo_o E (Kka hΓ hz55 E E E E E E)<|Kjx Z (Kjz hΓ (enc:=(eN .i64)) (a:=q26.2) hz55 E E E E E E E E E E (fun _=>E))<|gO 6 E<|Kkb hΓ hz55 E E E E E E E E<|gO 6 E<|bK h56 fun v57 hv57 h58=>?_
   cases h58
   obtain rfl:=hout11 _ rfl
   cases h7
   exact gA 4 E<|oSi hv57▸Khl hΓ [_] (.inr E) E E E E (.inr ⟨HB.mk E,E⟩)
  cases h60
  obtain rfl:=hout11 _ rfl
  exact⟨_,E,⟨⟨E,tV⟩,[],E,.inl E⟩⟩
 intro a8 ha
 subst ha
 replace h7:=Kjk h7
 exact gA 8 E<|oSi h7▸Khl hΓ [_] (.inr E) E E E E (.inr ⟨HB.mk E,E⟩)
theorem Lgl{k:Nat}{l:List Kyh}{fresh:Int}{node:Str}{r:List Int}(h:Laz k l fresh node=some r):EC Tryz.prog 96 [.d (Sl Kxv l),I fresh,S node] [] fun g hp'=>g=.sl 0 r.length∧hp'=[rO 3 1 (eN .i64) r]:=by
 unfold Laz at h
 refine QM Tryz.func96 E Z<|gA 2 E<|Kgu (t:=0) 3 1 E Z<|gO 4 E<|Kgu (t:=0) 3 1 E Z<|gO 10 E<|bK h fun q4 hq4 h5=>Kgg 10 E fun hb7=>Kjs [(7,.sl 1 q4.length)] [rO 3 1 (eN .i64) ([]:List Int),rO 3 1 (eN .i64) q4] ?_ ?_
 ·refine gA 1 E<|Khn l hq4 (fun i1 s2=>[(1,I fresh),(2,S node),(7,.sl 1 s2.length),(10,.d (Sl Kxv l)),(11,I (l.length:Int)),(12,I (i1:Int))]) (fun s2=>[rO 3 1 (eN .i64) ([]:List Int),rO 3 1 (eN .i64) s2]) ⟨⟨E,E,E,E,E,E,tV⟩,[],E,.inl E⟩ (fun i1 x3 s2 y11 hx8 hlt hy9=>?_) (?_)
  ·refine gA 6 E<|Kfr E (dT (Int.ofNat_lt.2 hlt))<|gA 6 E<|eo_o E (Kgh hΓ (enc:=Kxv) (Kga hx8) E E E E E (fun _=>E))<|gO 1 E<|Kpu hΓ E E E Z<|Kpz hΓ E E E E E E E E Z<|Khg [rO 3 1 (eN .i64) ([]:List Int),rO 3 1 (eN .i64) s2,.box 83 [I x3.At,S x3.Node,S x3.Name,I x3.Value.Kind,I x3.Value.Number,S x3.Value.Words,I x3.Value.Version.1,I x3.Value.Version.2.1,I x3.Value.Version.2.2.1,I x3.Value.Version.2.2.2]] E<|gO 10 E<|jC E hy9 (fun h12=>?_) fun h15=>gA 7 E ?_
   ·refine gA 8 E<|Kgr hΓ (enc:=(eN .i64)) [x3.At,wi (x3.At+fresh)] E E E E E E E E E E E E Z<|bK h12 fun y13 hy13 h14=>Khh hΓ (enc:=(eN .i64)) hy13 E E E E E E E E E (fun _=>E) E E E E<|gO 8 E ?_
    cases h14
    exact⟨⟨E,E,E,E,E,Kes E (Ker (nLl hlt hb7)),tV⟩,[_],E,.inr ⟨HB.mk E,FB.mk E,Z⟩⟩
   cases h15
   exact⟨⟨E,E,E,E,E,Kes E (Ker (nLl hlt hb7)),tV⟩,[_],E,.inr ⟨HB.mk E,FB.mk E,Z⟩⟩
  exact gA 6 E<|Kfs E (dF (Int.lt_irrefl _))<|gA 4 E<|⟨⟨E,tV⟩,[],E,.inl E⟩
 exact bK h5 fun y16 hy16 h17=>gA 4 E<|Kgw [1] (.tup []) [rO 3 1 (eN .i64) ([]:List Int),rO 3 1 (eN .i64) y16] C (Kwu hy16) E Z E E E E E E E E E E<|gK h17 fun hg19 h18=>Kkc 7 E (of_decide_eq_true hg19).symm<|bK h18 fun y20 hy20 h21=>gO 5 E<|Kgw [1] (.sl 1 y20.length) [rO 3 1 (eN .i64) ([]:List Int),rO 3 1 (eN .i64) y20] C (Lgk hy20) E Z E E E E E E E E E E<|gO 4 E<|Klh 0 [.dead,rO 3 1 (eN .i64) y20] E Z<|Kjq 1 0 [rO 3 1 (eN .i64) y20,.dead] E E E E E E<|Kjn<|oSi h21▸Khl hΓ [_] (.inr E) E E E E (.inr ⟨HB.mk E,E⟩)
theorem Lgm{s1:List Str}{s2:List Str}{r:Bool}(h:Lba s1 s2=some r):Pure Tryz.prog 115 [.d (Sl eS s1),.d (Sl eS s2)] (B r):=by
 unfold Lba at h
 refine QP Tryz.func115 E E E<|gA 15 E<|jC E h (fun h1=>?_) fun h2=>gA 10 E<|bK h2 fun q6 hq6 h7=>Kgg 0 E fun hb9=>Kjr (R:=fun a8=>q6=.go a8) (fun a8=>[]) (fun a8=>[]) ?_ ?_
 ·exact gA 7 E<|oSi h1▸gP E E
 ·refine gA 1 E<|Kgf s1 hq6 (fun i3 s4=>[(0,.d (Sl eS s1)),(1,.d (Sl eS s2)),(12,I (s1.length:Int)),(13,I (i3:Int))]) (fun s4=>[]) ⟨⟨E,E,E,E,tV⟩,[],E,.inl E⟩ (fun i3 x5 s4 y13 hx10 hlt hy11 hout12=>?_) (fun s4 hgo=>?_)
  ·refine gA 6 E<|Kfr E (dT (Int.ofNat_lt.2 hlt))<|gA 11 E<|jD<|gA 2 E<|gl_o E (Kgh hΓ (enc:=eS) (Kga hx10) E E E E E (fun _=>E))<|bK hy11 fun x14 hx14 h15=>Kfo hΓ 3 E<|gl_o E (Kgh hΓ (enc:=eS) hx14 E E E E E (fun _=>E))<|Kfo hΓ 4 E<|jC E h15 (fun h16=>?_) fun h19=>gA 7 E ?_
   ·refine gA 8 E<|bK h16 fun v17 hv17 h18=>?_
    cases h18
    obtain rfl:=hout12 _ rfl
    cases h7
    exact gA 4 E<|oSi hv17▸gP E E
   cases h19
   exact⟨_,E,⟨⟨E,E,E,Kes E (Ker (nLl hlt hb9)),tV⟩,[],E,.inl E⟩⟩
  subst hgo
  exact gA 6 E<|Kfs E (dF (Int.lt_irrefl _))<|gA 4 E<|⟨_,E,⟨tV,[],E,.inl E⟩⟩
 intro a8 ha
 subst ha
 replace h7:=Kjl h7
 exact gA 7 E<|oSi h7▸gP E E
theorem Lgn{k:Nat}{p:List Kyg}{l:List Kyh}{fresh:Int}{nodes:List Str}{v_at:Int}{al:List Bool}{r:Int×Bool×Int×(List Bool)}(h:Lbb k p l fresh nodes v_at al=some r):EC Tryz.prog 37 [.d (Sl Kxu p),.d (Sl Kxv l),I fresh,.d (Sl eS nodes),I v_at] [.bag al [] []] fun g hp'=>g=.tup [I r.1,B r.2.1,I r.2.2.1]∧hp'=[.bag r.2.2.2 [] []]:=by
 unfold Lbb at h
 refine QN Tryz.func37 E Z<|bK h fun y1 hy1 h2=>gA 15 E<|Kgx C (Lfy hy1) E Z E E E E E<|gO 9 E<|Kfq E (fun hb=>?_) (fun hb=>?_)
 ·have h3:=cT h2 hb
  exact gA 10 E<|oSi h3▸Khl hΓ [] (.inr E) E E E E (.inl E)
 have h4:=cF h2 hb
 refine bK h4 fun y5 hy5 h6=>gA 6 E<|Kgw [0] (.ptr 2 0) [.bag y5.2 [] [],mOb (kD Kxw) false (eT 83 10 Kxv) y5.1.list,.box 240 [I y5.1.fresh,.map 1]] C (Lfz hy5) E Z E E E E E E E E E E<|gO 17 E<|bK h6 fun q10 hq10 h11=>Kgg 33 E fun hb13=>Kjs [(15,I q10.1),(16,B q10.2)] [.bag y5.2 [] [],mOb (kD Kxw) false (eT 83 10 Kxv) y5.1.list,.box 240 [I y5.1.fresh,.map 1]] ?_ ?_
 ·refine gA 1 E<|Khn nodes hq10 (fun i7 s8=>[(0,.d (Sl Kxu p)),(1,.d (Sl Kxv l)),(2,I fresh),(4,I v_at),(14,.ptr 2 0),(15,I s8.1),(16,B s8.2),(33,.d (Sl eS nodes)),(34,I (nodes.length:Int)),(35,I (i7:Int))]) (fun s8=>[.bag y5.2 [] [],mOb (kD Kxw) false (eT 83 10 Kxv) y5.1.list,.box 240 [I y5.1.fresh,.map 1]]) ⟨⟨E,E,E,E,E,E,E,E,E,E,tV⟩,[],E,.inl E⟩ (fun i7 x9 s8 y17 hx14 hlt hy15=>?_) (?_)
  ·refine gA 6 E<|Kfr E (dT (Int.ofNat_lt.2 hlt))<|gA 6 E<|eo_o E (Kgh hΓ (enc:=eS) (Kga hx14) E E E E E (fun _=>E))<|bK hy15 fun y18 hy18 h19=>gO 9 E<|Kgx C (Pure.rows (Lgl hy18) E E) E Z E E E E E<|gO 4 E<|bK h19 fun q23 hq23 h24=>Kgg 42 E fun hb26=>Kjs [(0,.d (Sl Kxu p)),(1,.d (Sl Kxv l)),(2,I fresh),(4,I v_at),(14,.ptr 2 0),(15,I q23.1),(16,B q23.2),(33,.d (Sl eS nodes)),(34,I (nodes.length:Int)),(35,I (i7:Int))] [.bag y5.2 [] [],mOb (kD Kxw) false (eT 83 10 Kxv) y5.1.list,.box 240 [I y5.1.fresh,.map 1]] ?_ ?_
   ·refine gA 1 E<|Khn y18 hq23 (fun i20 s21=>[(0,.d (Sl Kxu p)),(1,.d (Sl Kxv l)),(2,I fresh),(4,I v_at),(14,.ptr 2 0),(15,I s21.1),(16,B s21.2),(18,S x9),(33,.d (Sl eS nodes)),(34,I (nodes.length:Int)),(35,I (i7:Int)),(42,.d (Sl (eN .i64) y18)),(43,I (y18.length:Int)),(44,I (i20:Int))]) (fun s21=>[.bag y5.2 [] [],mOb (kD Kxw) false (eT 83 10 Kxv) y5.1.list,.box 240 [I y5.1.fresh,.map 1]]) ⟨⟨E,E,E,E,E,E,E,E,E,E,E,E,E,E,tV⟩,[],E,.inl E⟩ (fun i20 x22 s21 y30 hx27 hlt hy28=>?_) (?_)
    ·refine gA 6 E<|Kfr E (dT (Int.ofNat_lt.2 hlt))<|gA 6 E<|eo_o E (Kgh hΓ (enc:=(eN .i64)) (Kga hx27) E E E E E (fun _=>E))<|gO 10 E<|Kfw 4 [(0,.d (Sl Kxu p)),(1,.d (Sl Kxv l)),(2,I fresh),(4,I v_at),(14,.ptr 2 0),(15,I s21.1),(16,B s21.2),(18,S x9),(20,I x22),(33,.d (Sl eS nodes)),(34,I (nodes.length:Int)),(35,I (i7:Int)),(42,.d (Sl (eN .i64) y18)),(43,I (y18.length:Int)),(44,I (i20:Int)),(55,B ((decide ((x22:Int)>v_at))&&(decide ((x22:Int)<s21.1))))] [.bag y5.2 [] [],mOb (kD Kxw) false (eT 83 10 Kxv) y5.1.list,.box 240 [I y5.1.fresh,.map 1]] ?_ ?_
     ·refine Koo E E (fun hb=>?_) (fun hb=>?_)
      ·exact gO 5 E<|⟨⟨E,E,E,E,E,E,E,E,E,E,E,E,E,E,E,Ket E (Khr hb),tV⟩,[],E,.inl E⟩
      exact gO 5 E<|⟨⟨E,E,E,E,E,E,E,E,E,E,E,E,E,E,E,Ket E (Khs hb),tV⟩,[],E,.inl E⟩
     refine gO 1 E<|bK hy28 fun q31 hq31 h32=>Kfw 14 [(0,.d (Sl Kxu p)),(1,.d (Sl Kxv l)),(2,I fresh),(4,I v_at),(14,.ptr 2 0),(15,I s21.1),(16,B s21.2),(18,S x9),(20,I x22),(33,.d (Sl eS nodes)),(34,I (nodes.length:Int)),(35,I (i7:Int)),(42,.d (Sl (eN .i64) y18)),(43,I (y18.length:Int)),(44,I (i20:Int)),(70,B q31)] [.bag y5.2 [] [],mOb (kD Kxw) false (eT 83 10 Kxv) y5.1.list,.box 240 [I y5.1.fresh,.map 1]] ?_ ?_
     ·refine Koo E E (fun hb=>?_) (fun hb=>?_)
      ·have h33:=cT hq31 hb
       exact bK h33 fun y34 hy34 h35=>gO 4 E<|Kom E<|Kgw [1,2] (.sl 3 y34.length) [.bag y5.2 [] [],mOb (kD Kxw) false (eT 83 10 Kxv) y5.1.list,.box 240 [I y5.1.fresh,.map 1],rO 9 1 eS y34] C (Lgi hy34) E Z E E E E E E E E E E<|Khd 3 [61] _ [.bag y5.2 [] [],mOb (kD Kxw) false (eT 83 10 Kxv) y5.1.list,.box 240 [I y5.1.fresh,.map 1],.dead] E E E Z<|bK h35 fun y36 hy36 h37=>gO 5 E<|Kom E<|Kgw [1,2] (.sl 4 y36.length) [.bag y5.2 [] [],mOb (kD Kxw) false (eT 83 10 Kxv) y5.1.list,.box 240 [I y5.1.fresh,.map 1],.dead,rO 9 1 eS y36] C (Lgi hy36) E Z E E E E E E E E E E<|Khd 4 [67] _ [.bag y5.2 [] [],mOb (kD Kxw) false (eT 83 10 Kxv) y5.1.list,.box 240 [I y5.1.fresh,.map 1],.dead,.dead] E E E Z<|bK h37 fun y38 hy38 h39=>Kom E<|Kgx C (Lgm hy38) E Z E E E E E<|gO 3 E<|oSi h39▸⟨⟨E,E,E,E,E,E,E,E,E,E,E,E,E,E,E,E,tV⟩,[_,_],E,.inr ⟨HB.mk E,FB.mk E,Z⟩⟩
      have h40:=cF hq31 hb
      exact gO 15 E<|oSi h40▸⟨⟨E,E,E,E,E,E,E,E,E,E,E,E,E,E,E,E,tV⟩,[],E,.inl E⟩
     refine gO 2 E<|jC E h32 (fun h41=>?_) fun h42=>gA 7 E ?_
     ·refine gA 11 E ?_
      cases h41
      exact⟨⟨E,E,E,E,E,E,E,E,E,E,E,E,E,Kes E (Ker (nLl hlt hb26)),tV⟩,[],E,.inl E⟩
     cases h42
     exact⟨⟨E,E,E,E,E,E,E,E,E,E,E,E,E,Kes E (Ker (nLl hlt hb26)),tV⟩,[],E,.inl E⟩
    exact gA 6 E<|Kfs E (dF (Int.lt_irrefl _))<|gA 4 E<|⟨⟨E,E,E,E,E,E,E,E,E,E,tV⟩,[],E,.inl E⟩
   refine gA 6 E ?_
   cases h24
   exact⟨⟨E,E,E,E,E,E,E,E,E,Kes E (Ker (nLl hlt hb13)),tV⟩,[],E,.inl E⟩
  exact gA 6 E<|Kfs E (dF (Int.lt_irrefl _))<|gA 4 E<|⟨⟨E,E,tV⟩,[],E,.inl E⟩
 refine gA 8 E<|jC E h11 (fun h43=>?_) fun h44=>gA 11 E<|oSi h44▸Khl hΓ [_,_] (.inr E) E E E E (.inr ⟨HB.mk E,E⟩)
 exact gA 9 E<|oSi h43▸Khl hΓ [_,_] (.inr E) E E E E (.inr ⟨HB.mk E,E⟩)
theorem Lgo{n:Int}{low:Int}{high:Int}{r:Bool}(h:Lbc n low high=some r):Pure Tryz.prog 182 [I n,I low,I high] (B r):=by
 unfold Lbc at h
 refine QP Tryz.func182 E E E<|gA 11 E<|Kfw 4 [(6,B false),(14,B ((decide ((low:Int)≤n))&&(decide ((n:Int)≤high))))] [] ?_ ?_
 ·refine Koo E E (fun hb=>?_) (fun hb=>?_)
  ·exact gO 5 E<|⟨⟨E,Ket E (Khr hb),tV⟩,[],E,.inl E⟩
  exact gO 5 E<|⟨⟨E,Ket E (Khs hb),tV⟩,[],E,.inl E⟩
 exact gO 4 E<|oSi h▸gP E E
theorem Lgp{s:Str}{v_some:Str}{r:Bool}(h:Lbd s v_some=some r):Pure Tryz.prog 183 [S s,S v_some] (B r):=by
 unfold Lbd at h
 exact QP Tryz.func183 E E E<|bK h fun y1 hy1 h2=>gA 9 E<|Kgx C (Kwn hy1) E Z E E E E E<|gO 5 E<|oSi h2▸gP E E
theorem Lgq{s:Str}{r:Bool}(h:Lbe s=some r):Pure Tryz.prog 102 [S s] (B r):=by
 unfold Lbe at h
 refine QP Tryz.func102 E E E<|bK h fun y1 hy1 h2=>gA 9 E<|Kgx C (Lgo hy1) E Z E E E E E<|gO 1 E<|bK h2 fun q3 hq3 h4=>Kfw 4 [(0,S s),(2,B false),(10,B q3)] [] ?_ ?_
 ·refine Koo E E (fun hb=>?_) (fun hb=>?_)
  ·have h5:=cT hq3 hb
   exact bK h5 fun z6 hz6 h7=>gO 1 E<|Kom E<|eo_o E (Kgk hΓ hz6 E E E E E)<|bK h7 fun y8 hy8 h9=>Kom E<|Kgx C (Lgp hy8) E Z E E E E E<|gO 2 E<|oSi h9▸⟨⟨E,E,E,tV⟩,[],E,.inl E⟩
  have h10:=cF hq3 hb
  exact gO 5 E<|oSi h10▸⟨⟨E,E,E,tV⟩,[],E,.inl E⟩
 refine gO 1 E<|bK h4 fun q11 hq11 h12=>Kfw 3 [(2,B false),(14,B q11)] [] ?_ ?_
 ·refine Koo E E (fun hb=>?_) (fun hb=>?_)
  ·have h13:=cT hq11 hb
   exact bK h13 fun y14 hy14 h15=>gO 1 E<|Kom E<|Kgx C (Lgp hy14) E Z E E E E E<|gO 2 E<|oSi h15▸⟨⟨E,E,tV⟩,[],E,.inl E⟩
  have h16:=cF hq11 hb
  exact gO 4 E<|oSi h16▸⟨⟨E,E,tV⟩,[],E,.inl E⟩
 exact gO 4 E<|oSi h12▸gP E E
theorem Lgr{k:Nat}{c:Kye}{r:Int}(h:Lbf k c=some r):Pure Tryz.prog 98 [.agg [I c.Kind,S c.Name,S c.Op,I c.Value.Kind,I c.Value.Number,S c.Value.Words,I c.Value.Version.1,I c.Value.Version.2.1,I c.Value.Version.2.2.1,I c.Value.Version.2.2.2,.d (.ro c.Kids.n c.Kids.xs)]] (I r):=by
 induction k generalizing c r with
 | zero=>unfold Lbf at h;cases h
 | succ k ih0=>
  have ih:∀ {c:Kye} {r:Int},Lbf k c=some r→Pure Tryz.prog 98 [.agg [I c.Kind,S c.Name,S c.Op,I c.Value.Kind,I c.Value.Number,S c.Value.Words,I c.Value.Version.1,I c.Value.Version.2.1,I c.Value.Version.2.2.1,I c.Value.Version.2.2.2,.d (.ro c.Kids.n c.Kids.xs)]] (I r):=by intro c r h;first | exact ih0 h | exact ih0 _ _ h
  refine Pure.enter (Fr.of 0 _) Tryz.func98 E (Fr.of_ok _) E E ?_
  refine Kfp ?_
  unfold Lbf at h
  refine gA 2 E ?_
  refine Kpv E E E E Z ?_
  obtain⟨q1,hq1,h2⟩:=Kfx h
  refine gO 16 E ?_
  refine Kjs [(1,.ptr 0 0),(3,I q1)] [.box 32 [I c.Kind,S c.Name,S c.Op,I c.Value.Kind,I c.Value.Number,S c.Value.Words,I c.Value.Version.1,I c.Value.Version.2.1,I c.Value.Version.2.2.1,I c.Value.Version.2.2.2,.d (.ro c.Kids.n c.Kids.xs)]] ?_ ?_
  ·refine Kfq E (fun hb=>?_) (fun hb=>?_)
   ·have h3:=cT hq1 hb
    refine gA 3 E ?_
    obtain rfl:=oSi h3
    exact⟨⟨E,E,tV⟩,[],E,.inl E⟩
   have h4:=cF hq1 hb
   refine gA 1 E ?_
   obtain rfl:=oSi h4
   exact⟨⟨E,E,tV⟩,[],E,.inl E⟩
  obtain⟨l5,hl5,h6⟩:=Kfx h2
  refine gA 5 E ?_
  refine eo_o E (Klt (Kpi hΓ (g:=.d (.ro c.Kids.n c.Kids.xs)) E) (G.Le.unk Ldg hl5)) ?_
  refine gO 4 E ?_
  obtain⟨q10,hq10,h11⟩:=Kfx h6
  refine Kgg 10 E fun hb13=>?_
  refine Kjs [(3,I q10)] [.box 32 [I c.Kind,S c.Name,S c.Op,I c.Value.Kind,I c.Value.Number,S c.Value.Words,I c.Value.Version.1,I c.Value.Version.2.1,I c.Value.Version.2.2.1,I c.Value.Version.2.2.2,.d (.ro c.Kids.n c.Kids.xs)]] ?_ ?_
  ·refine gA 1 E ?_
   refine Khn l5 hq10 (fun i7 s8=>[(3,I s8),(10,.d (Sl Kyf l5)),(11,I (l5.length:Int)),(12,I (i7:Int))]) (fun s8=>[.box 32 [I c.Kind,S c.Name,S c.Op,I c.Value.Kind,I c.Value.Number,S c.Value.Words,I c.Value.Version.1,I c.Value.Version.2.1,I c.Value.Version.2.2.1,I c.Value.Version.2.2.2,.d (.ro c.Kids.n c.Kids.xs)]]) ⟨⟨E,E,E,E,tV⟩,[],E,.inl E⟩ (fun i7 x9 s8 y17 hx14 hlt hy15=>?_) (?_)
   ·refine gA 6 E ?_
    refine Kfr E (dT (Int.ofNat_lt.2 hlt)) ?_
    refine gA 6 E ?_
    refine eo_o E (Kgh hΓ (enc:=Kyf) (Kga hx14) E E E E E (fun _=>E)) ?_
    refine gO 1 E ?_
    refine Kpu hΓ E E E Z ?_
    refine Kpz hΓ E E E E E E E E Z ?_
    refine Khg [.box 32 [I c.Kind,S c.Name,S c.Op,I c.Value.Kind,I c.Value.Number,S c.Value.Words,I c.Value.Version.1,I c.Value.Version.2.1,I c.Value.Version.2.2.1,I c.Value.Version.2.2.2,.d (.ro c.Kids.n c.Kids.xs)],.box 32 [I x9.Kind,S x9.Name,S x9.Op,I x9.Value.Kind,I x9.Value.Number,S x9.Value.Words,I x9.Value.Version.1,I x9.Value.Version.2.1,I x9.Value.Version.2.2.1,I x9.Value.Version.2.2.2,.d (.ro x9.Kids.n x9.Kids.xs)]] E ?_
    obtain⟨y18,hy18,h19⟩:=Kfx hy15
    refine gO 5 E ?_
    refine Kgx C (ih hy18) E Z E E E E E ?_
    refine gO 9 E ?_
    obtain rfl:=oSi h19
    exact⟨⟨E,E,E,Kes E (Ker (nLl hlt hb13)),tV⟩,[_],E,.inr ⟨HB.mk E,FB.mk E,Z⟩⟩
   refine gA 6 E ?_
   refine Kfs E (dF (Int.lt_irrefl _)) ?_
   refine gA 4 E ?_
   exact⟨⟨E,tV⟩,[],E,.inl E⟩
  refine gA 8 E ?_
  obtain rfl:=oSi h11
  exact gP E E
theorem Lgs{k:Nat}{c:Kye}{r:Int}(h:Lbg k c=some r):Pure Tryz.prog 99 [.agg [I c.Kind,S c.Name,S c.Op,I c.Value.Kind,I c.Value.Number,S c.Value.Words,I c.Value.Version.1,I c.Value.Version.2.1,I c.Value.Version.2.2.1,I c.Value.Version.2.2.2,.d (.ro c.Kids.n c.Kids.xs)]] (I r):=by
 induction k generalizing c r with
 | zero=>unfold Lbg at h;cases h
 | succ k ih0=>
  have ih:∀ {c:Kye} {r:Int},Lbg k c=some r→Pure Tryz.prog 99 [.agg [I c.Kind,S c.Name,S c.Op,I c.Value.Kind,I c.Value.Number,S c.Value.Words,I c.Value.Version.1,I c.Value.Version.2.1,I c.Value.Version.2.2.1,I c.Value.Version.2.2.2,.d (.ro c.Kids.n c.Kids.xs)]] (I r):=by intro c r h;first | exact ih0 h | exact ih0 _ _ h
  refine Pure.enter (Fr.of 0 _) Tryz.func99 E (Fr.of_ok _) E E ?_
  refine Kfp ?_
  unfold Lbg at h
  refine gA 2 E ?_
  refine Kpv E E E E Z ?_
  obtain⟨l1,hl1,h2⟩:=Kfx h
  refine gO 12 E ?_
  refine eo_o E (Klt (Kpi hΓ (g:=.d (.ro c.Kids.n c.Kids.xs)) E) (G.Le.unk Ldg hl1)) ?_
  refine gO 4 E ?_
  obtain⟨q6,hq6,h7⟩:=Kfx h2
  refine Kgg 7 E fun hb9=>?_
  refine Kjs [(3,I q6)] [.box 32 [I c.Kind,S c.Name,S c.Op,I c.Value.Kind,I c.Value.Number,S c.Value.Words,I c.Value.Version.1,I c.Value.Version.2.1,I c.Value.Version.2.2.1,I c.Value.Version.2.2.2,.d (.ro c.Kids.n c.Kids.xs)]] ?_ ?_
  ·refine gA 1 E ?_
   refine Khn l1 hq6 (fun i3 s4=>[(3,I s4),(7,.d (Sl Kyf l1)),(8,I (l1.length:Int)),(9,I (i3:Int))]) (fun s4=>[.box 32 [I c.Kind,S c.Name,S c.Op,I c.Value.Kind,I c.Value.Number,S c.Value.Words,I c.Value.Version.1,I c.Value.Version.2.1,I c.Value.Version.2.2.1,I c.Value.Version.2.2.2,.d (.ro c.Kids.n c.Kids.xs)]]) ⟨⟨E,E,E,E,tV⟩,[],E,.inl E⟩ (fun i3 x5 s4 y13 hx10 hlt hy11=>?_) (?_)
   ·refine gA 6 E ?_
    refine Kfr E (dT (Int.ofNat_lt.2 hlt)) ?_
    refine gA 6 E ?_
    refine eo_o E (Kgh hΓ (enc:=Kyf) (Kga hx10) E E E E E (fun _=>E)) ?_
    refine gO 1 E ?_
    refine Kpu hΓ E E E Z ?_
    refine Kpz hΓ E E E E E E E E Z ?_
    refine Khg [.box 32 [I c.Kind,S c.Name,S c.Op,I c.Value.Kind,I c.Value.Number,S c.Value.Words,I c.Value.Version.1,I c.Value.Version.2.1,I c.Value.Version.2.2.1,I c.Value.Version.2.2.2,.d (.ro c.Kids.n c.Kids.xs)],.box 32 [I x5.Kind,S x5.Name,S x5.Op,I x5.Value.Kind,I x5.Value.Number,S x5.Value.Words,I x5.Value.Version.1,I x5.Value.Version.2.1,I x5.Value.Version.2.2.1,I x5.Value.Version.2.2.2,.d (.ro x5.Kids.n x5.Kids.xs)]] E ?_
    obtain⟨y14,hy14,h15⟩:=Kfx hy11
    refine gO 5 E ?_
    refine Kgx C (ih hy14) E Z E E E E E ?_
    refine gO 9 E ?_
    obtain rfl:=oSi h15
    exact⟨⟨E,E,E,Kes E (Ker (nLl hlt hb9)),tV⟩,[_],E,.inr ⟨HB.mk E,FB.mk E,Z⟩⟩
   refine gA 6 E ?_
   refine Kfs E (dF (Int.lt_irrefl _)) ?_
   refine gA 4 E ?_
   exact⟨⟨E,tV⟩,[],E,.inl E⟩
  refine gA 9 E ?_
  obtain rfl:=oSi h7
  exact gP E E
theorem Lgt{n:Int}{low:Int}{high:Int}{r:Bool}(h:Lbh n low high=some r):Pure Tryz.prog 104 [I n,I low,I high] (B r):=by
 unfold Lbh at h
 refine QP Tryz.func104 E E E<|gA 11 E<|Kfw 4 [(6,B false),(14,B ((decide ((low:Int)≤n))&&(decide ((n:Int)≤high))))] [] ?_ ?_
 ·refine Koo E E (fun hb=>?_) (fun hb=>?_)
  ·exact gO 5 E<|⟨⟨E,Ket E (Khr hb),tV⟩,[],E,.inl E⟩
  exact gO 5 E<|⟨⟨E,Ket E (Khs hb),tV⟩,[],E,.inl E⟩
 exact gO 4 E<|oSi h▸gP E E
theorem Lgu{v_k:Kye}{x:Kye}{r:Bool}(h:Lbi v_k x=some r):EC Tryz.prog 234 [.agg [I v_k.Kind,S v_k.Name,S v_k.Op,I v_k.Value.Kind,I v_k.Value.Number,S v_k.Value.Words,I v_k.Value.Version.1,I v_k.Value.Version.2.1,I v_k.Value.Version.2.2.1,I v_k.Value.Version.2.2.2,.d (.ro v_k.Kids.n v_k.Kids.xs)],.ptr 0 0] [.box 32 [I x.Kind,S x.Name,S x.Op,I x.Value.Kind,I x.Value.Number,S x.Value.Words,I x.Value.Version.1,I x.Value.Version.2.1,I x.Value.Version.2.2.1,I x.Value.Version.2.2.2,.d (.ro x.Kids.n x.Kids.xs)]] fun g hp'=>g=B r∧hp'=[.box 32 [I x.Kind,S x.Name,S x.Op,I x.Value.Kind,I x.Value.Number,S x.Value.Words,I x.Value.Version.1,I x.Value.Version.2.1,I x.Value.Version.2.2.1,I x.Value.Version.2.2.2,.d (.ro x.Kids.n x.Kids.xs)]]:=by
 unfold Lbi at h
 exact QN Tryz.func234 E Z<|gA 2 E<|Kpv E E E E Z<|gO 14 E<|oSi h▸Khl hΓ [_] (.inr E) E E E E (.inr ⟨HB.mk E,E⟩)
theorem Lgv{s:List Kye}{f:Kye}{r:Int}(h:Lbj s f=some r):EC Tryz.prog 297 [.d (Sl Kyf s),.fn (.func 234) [] [.ptr 0 0]] [.box 32 [I f.Kind,S f.Name,S f.Op,I f.Value.Kind,I f.Value.Number,S f.Value.Words,I f.Value.Version.1,I f.Value.Version.2.1,I f.Value.Version.2.2.1,I f.Value.Version.2.2.2,.d (.ro f.Kids.n f.Kids.xs)]] fun g hp'=>g=I r∧hp'=[.box 32 [I f.Kind,S f.Name,S f.Op,I f.Value.Kind,I f.Value.Number,S f.Value.Words,I f.Value.Version.1,I f.Value.Version.2.1,I f.Value.Version.2.2.1,I f.Value.Version.2.2.2,.d (.ro f.Kids.n f.Kids.xs)]]:=by
 unfold Lbj at h
 refine QN Tryz.func297 E Z<|gA 13 E<|bK h fun q4 hq4 h5=>Kgg 0 E fun hb7=>Kjr (R:=fun a6=>q4=.go a6) (fun a6=>[]) (fun a6=>[.box 32 [I f.Kind,S f.Name,S f.Op,I f.Value.Kind,I f.Value.Number,S f.Value.Words,I f.Value.Version.1,I f.Value.Version.2.1,I f.Value.Version.2.2.1,I f.Value.Version.2.2.2,.d (.ro f.Kids.n f.Kids.xs)]]) ?_ ?_
 ·refine gA 1 E<|Kgf s hq4 (fun i1 s2=>[(0,.d (Sl Kyf s)),(1,.fn (.func 234) [] [.ptr 0 0]),(7,I (s.length:Int)),(8,I (i1:Int))]) (fun s2=>[.box 32 [I f.Kind,S f.Name,S f.Op,I f.Value.Kind,I f.Value.Number,S f.Value.Words,I f.Value.Version.1,I f.Value.Version.2.1,I f.Value.Version.2.2.1,I f.Value.Version.2.2.2,.d (.ro f.Kids.n f.Kids.xs)]]) ⟨⟨E,E,E,E,tV⟩,[],E,.inl E⟩ (fun i1 x3 s2 y11 hx8 hlt hy9 hout10=>?_) (fun s2 hgo=>?_)
  ·refine gA 6 E<|Kfr E (dT (Int.ofNat_lt.2 hlt))<|gA 15 E<|eo_o E (Kgh hΓ (enc:=Kyf) (Kga hx8) E E E E E (fun _=>E))<|bK hy9 fun y12 hy12 h13=>gO 1 E<|Kgw [0] (B y12) [.box 32 [I f.Kind,S f.Name,S f.Op,I f.Value.Kind,I f.Value.Number,S f.Value.Words,I f.Value.Version.1,I f.Value.Version.2.1,I f.Value.Version.2.2.1,I f.Value.Version.2.2.2,.d (.ro f.Kids.n f.Kids.xs)]] C (Lgu hy12) E Z E E E E E E E E E E<|gO 2 E<|jC E h13 (fun h14=>?_) fun h17=>gA 7 E ?_
   ·refine gA 9 E<|bK h14 fun v15 hv15 h16=>?_
    cases h16
    obtain rfl:=hout10 _ rfl
    cases h5
    exact gA 4 E<|oSi hv15▸Khl hΓ [] (.inr E) E E E E (.inl E)
   cases h17
   exact⟨_,E,⟨⟨E,E,E,Kes E (Ker (nLl hlt hb7)),tV⟩,[],E,.inl E⟩⟩
  subst hgo
  exact gA 6 E<|Kfs E (dF (Int.lt_irrefl _))<|gA 4 E<|⟨_,E,⟨tV,[],E,.inl E⟩⟩
 intro a6 ha
 subst ha
 replace h5:=Kjl h5
 exact gA 7 E<|oSi h5▸Khl hΓ [] (.inr E) E E E E (.inl E)
theorem Lgw{s:List Kye}{f:Kye}{r:Bool}(h:Lbk s f=some r):EC Tryz.prog 233 [.d (Sl Kyf s),.fn (.func 234) [] [.ptr 0 0]] [.box 32 [I f.Kind,S f.Name,S f.Op,I f.Value.Kind,I f.Value.Number,S f.Value.Words,I f.Value.Version.1,I f.Value.Version.2.1,I f.Value.Version.2.2.1,I f.Value.Version.2.2.2,.d (.ro f.Kids.n f.Kids.xs)]] fun g hp'=>g=B r∧hp'=[.box 32 [I f.Kind,S f.Name,S f.Op,I f.Value.Kind,I f.Value.Number,S f.Value.Words,I f.Value.Version.1,I f.Value.Version.2.1,I f.Value.Version.2.2.1,I f.Value.Version.2.2.2,.d (.ro f.Kids.n f.Kids.xs)]]:=by
 unfold Lbk at h
 exact QN Tryz.func233 E Z<|bK h fun y1 hy1 h2=>gA 9 E<|Kgw [0] (I y1) [.box 32 [I f.Kind,S f.Name,S f.Op,I f.Value.Kind,I f.Value.Number,S f.Value.Words,I f.Value.Version.1,I f.Value.Version.2.1,I f.Value.Version.2.2.1,I f.Value.Version.2.2.2,.d (.ro f.Kids.n f.Kids.xs)]] C (Lgv hy1) E Z E E E E E E E E E E<|gO 5 E<|oSi h2▸Khl hΓ [] (.inr E) E E E E (.inl E)
theorem Lgx{s:Str}{r:Bool}(h:Lbl s=some r):Pure Tryz.prog 235 [S s] (B r):=by
 unfold Lbl at h
 refine QP Tryz.func235 E E E<|bK h fun y1 hy1 h2=>gA 8 E<|Kgx C (Lgq hy1) E Z E E E E E<|gO 1 E<|Kfw 3 [(0,S s),(2,B false),(8,B (y1&&(!((s:Str)==[116,114,117,101]))))] [] ?_ ?_
 ·refine Koo E E (fun hb=>?_) (fun hb=>?_)
  ·exact gO 4 E<|⟨⟨E,E,Ket E (Khr hb),tV⟩,[],E,.inl E⟩
  exact gO 4 E<|⟨⟨E,E,Ket E (Khs hb),tV⟩,[],E,.inl E⟩
 refine gO 1 E<|Kfw 3 [(0,S s),(2,B false),(12,B ((y1&&(!((s:Str)==[116,114,117,101])))&&(!((s:Str)==[102,97,108,115,101]))))] [] ?_ ?_
 ·refine Koo E E (fun hb=>?_) (fun hb=>?_)
  ·exact gO 4 E<|⟨⟨E,E,Ket E (Khr hb),tV⟩,[],E,.inl E⟩
  exact gO 4 E<|⟨⟨E,E,Ket E (Khs hb),tV⟩,[],E,.inl E⟩
 refine gO 1 E<|bK h2 fun q3 hq3 h4=>Kfw 20 [(2,B false),(33,B q3)] [] ?_ ?_
 ·refine Koo E E (fun hb=>?_) (fun hb=>?_)
  ·have h5:=cT hq3 hb
   refine bK h5 fun c6 hc6 h7=>gO 1 E<|Kom E<|eo_o E (Kgi hΓ hc6 E E E E)<|gO 2 E<|Kfw 4 [(0,S s),(2,B false),(13,B true),(21,B ((((c6.toNat:Int):Int)==118)&&(decide (((s.length:Int):Int)>1))))] [] ?_ ?_
   ·refine Koo E E (fun hb=>?_) (fun hb=>?_)
    ·exact gO 5 E<|⟨⟨E,E,E,Ket E (Khr hb),tV⟩,[],E,.inl E⟩
    exact gO 5 E<|⟨⟨E,E,E,Ket E (Khs hb),tV⟩,[],E,.inl E⟩
   refine gO 1 E<|bK h7 fun q8 hq8 h9=>Kfw 4 [(0,S s),(2,B false),(13,B true),(26,B q8)] [] ?_ ?_
   ·refine Koo E E (fun hb=>?_) (fun hb=>?_)
    ·have h10:=cT hq8 hb
     exact bK h10 fun c11 hc11 h12=>gO 1 E<|Kom E<|eo_o E (Kgi hΓ hc11 E E E E)<|gO 3 E<|oSi h12▸⟨⟨E,E,E,E,tV⟩,[],E,.inl E⟩
    have h13:=cF hq8 hb
    exact gO 5 E<|oSi h13▸⟨⟨E,E,E,E,tV⟩,[],E,.inl E⟩
   refine gO 1 E<|bK h9 fun q14 hq14 h15=>Kfw 4 [(2,B false),(13,B true),(31,B q14)] [] ?_ ?_
   ·refine Koo E E (fun hb=>?_) (fun hb=>?_)
    ·have h16:=cT hq14 hb
     exact bK h16 fun c17 hc17 h18=>gO 1 E<|Kom E<|eo_o E (Kgi hΓ hc17 E E E E)<|gO 3 E<|oSi h18▸⟨⟨E,E,E,tV⟩,[],E,.inl E⟩
    have h19:=cF hq14 hb
    exact gO 5 E<|oSi h19▸⟨⟨E,E,E,tV⟩,[],E,.inl E⟩
   exact gO 3 E<|oSi h15▸⟨⟨E,E,tV⟩,[],E,.inl E⟩
  have h20:=cF hq3 hb
  exact gO 21 E<|oSi h20▸⟨⟨E,E,tV⟩,[],E,.inl E⟩
 exact gO 4 E<|oSi h4▸gP E E
theorem Lgy{k:Nat}{a:Kyd}{r:Int}(h:Lbm k a=some r):Pure Tryz.prog 52 [.agg [I a.Kind,I a.Number,S a.Words,I a.Version.1,I a.Version.2.1,I a.Version.2.2.1,I a.Version.2.2.2]] (I r):=by
 unfold Lbm at h
 refine QP Tryz.func52 E E E<|gA 2 E<|Kpv E E E E Z<|bK h fun y1 hy1 h2=>gO 9 E<|Kgx C (Lgt hy1) E Z E E E E E<|gO 4 E<|Kfq E (fun hb=>?_) (fun hb=>?_)
 ·have h3:=cT h2 hb
  exact gA 8 E<|oSi h3▸gP E E
 have h4:=cF h2 hb
 refine gA 6 E<|bK h4 fun q5 hq5 h6=>Kfw 5 [(1,.ptr 0 0),(20,B q5)] [.box 29 [I a.Kind,I a.Number,S a.Words,I a.Version.1,I a.Version.2.1,I a.Version.2.2.1,I a.Version.2.2.2]] ?_ ?_
 ·refine Koo E E (fun hb=>?_) (fun hb=>?_)
  ·have h7:=cT hq5 hb
   exact bK h7 fun y8 hy8 h9=>gO 2 E<|Kom E<|Kgx C (Lgt hy8) E Z E E E E E<|gO 3 E<|oSi h9▸⟨⟨E,E,tV⟩,[],E,.inl E⟩
  have h10:=cF hq5 hb
  exact gO 6 E<|oSi h10▸⟨⟨E,E,tV⟩,[],E,.inl E⟩
 refine gO 1 E<|bK h6 fun q11 hq11 h12=>Kfw 10 [(1,.ptr 0 0),(31,B q11)] [.box 29 [I a.Kind,I a.Number,S a.Words,I a.Version.1,I a.Version.2.1,I a.Version.2.2.1,I a.Version.2.2.2]] ?_ ?_
 ·refine Koo E E (fun hb=>?_) (fun hb=>?_)
  ·have h13:=cT hq11 hb
   exact gO 11 E<|oSi h13▸⟨⟨E,E,tV⟩,[],E,.inl E⟩
  have h14:=cF hq11 hb
  refine gO 4 E<|bK h14 fun q15 hq15 h16=>Kfw 5 [(1,.ptr 0 0),(21,B false),(30,B q15)] [.box 29 [I a.Kind,I a.Number,S a.Words,I a.Version.1,I a.Version.2.1,I a.Version.2.2.1,I a.Version.2.2.2]] ?_ ?_
  ·refine Koo E E (fun hb=>?_) (fun hb=>?_)
   ·have h17:=cT hq15 hb
    exact bK h17 fun y18 hy18 h19=>gO 2 E<|Kom E<|Kgx C (Lgt hy18) E Z E E E E E<|gO 3 E<|oSi h19▸⟨⟨E,E,E,tV⟩,[],E,.inl E⟩
   have h20:=cF hq15 hb
   exact gO 6 E<|oSi h20▸⟨⟨E,E,E,tV⟩,[],E,.inl E⟩
  exact gO 2 E<|oSi h16▸⟨⟨E,E,tV⟩,[],E,.inl E⟩
 refine gO 3 E<|Kfq E (fun hb=>?_) (fun hb=>?_)
 ·have h21:=cT h12 hb
  exact gA 8 E<|oSi h21▸gP E E
 have h22:=cF h12 hb
 refine gA 6 E<|Kfw 4 [(1,.ptr 0 0),(40,B (((a.Kind:Int) != 1)&&((a.Kind:Int) != 3)))] [.box 29 [I a.Kind,I a.Number,S a.Words,I a.Version.1,I a.Version.2.1,I a.Version.2.2.1,I a.Version.2.2.2]] ?_ ?_
 ·refine Koo E E (fun hb=>?_) (fun hb=>?_)
  ·exact gO 5 E<|⟨⟨E,Ket E (Khr hb),tV⟩,[],E,.inl E⟩
  exact gO 5 E<|⟨⟨E,Ket E (Khs hb),tV⟩,[],E,.inl E⟩
 refine gO 1 E<|Kfw 4 [(1,.ptr 0 0),(45,B ((((a.Kind:Int) != 1)&&((a.Kind:Int) != 3))&&((a.Number:Int) != 0)))] [.box 29 [I a.Kind,I a.Number,S a.Words,I a.Version.1,I a.Version.2.1,I a.Version.2.2.1,I a.Version.2.2.2]] ?_ ?_
 ·refine Koo E E (fun hb=>?_) (fun hb=>?_)
  ·exact gO 5 E<|⟨⟨E,Ket E (Khr hb),tV⟩,[],E,.inl E⟩
  exact gO 5 E<|⟨⟨E,Ket E (Khs hb),tV⟩,[],E,.inl E⟩
 refine gO 3 E<|Kfq E (fun hb=>?_) (fun hb=>?_)
 ·have h23:=cT h22 hb
  exact gA 8 E<|oSi h23▸gP E E
 have h24:=cF h22 hb
 refine gA 6 E<|Kfw 4 [(1,.ptr 0 0),(54,B (((a.Kind:Int) != 2)&&(!((a.Words:Str)==[]))))] [.box 29 [I a.Kind,I a.Number,S a.Words,I a.Version.1,I a.Version.2.1,I a.Version.2.2.1,I a.Version.2.2.2]] ?_ ?_
 ·refine Koo E E (fun hb=>?_) (fun hb=>?_)
  ·exact gO 5 E<|⟨⟨E,Ket E (Khr hb),tV⟩,[],E,.inl E⟩
  exact gO 5 E<|⟨⟨E,Ket E (Khs hb),tV⟩,[],E,.inl E⟩
 refine gO 1 E<|Kfw 5 [(1,.ptr 0 0),(60,B ((((a.Kind:Int) != 2)&&(!((a.Words:Str)==[])))||(decide (((a.Words.length:Int):Int)>100))))] [.box 29 [I a.Kind,I a.Number,S a.Words,I a.Version.1,I a.Version.2.1,I a.Version.2.2.1,I a.Version.2.2.2]] ?_ ?_
 ·refine Koo E E (fun hb=>?_) (fun hb=>?_)
  ·exact gO 6 E<|⟨⟨E,Ket E (or_t hb),tV⟩,[],E,.inl E⟩
  exact gO 6 E<|⟨⟨E,Ket E (or_f hb),tV⟩,[],E,.inl E⟩
 refine gO 3 E<|Kfq E (fun hb=>?_) (fun hb=>?_)
 ·have h25:=cT h24 hb
  exact gA 8 E<|oSi h25▸gP E E
 have h26:=cF h24 hb
 refine gA 12 E<|bK h26 fun q30 hq30 h31=>gK hq30 fun hb33 h34=>?_
 replace hb33:=of_decide_eq_true hb33
 refine Kjr (R:=fun a32=>q30=.go a32) (fun a32=>[(1,.ptr 0 0)]) (fun a32=>[.box 29 [I a.Kind,I a.Number,S a.Words,I a.Version.1,I a.Version.2.1,I a.Version.2.2.1,I a.Version.2.2.2]]) ?_ ?_
 ·refine gA 1 E<|Kho h34 (fun i27 s28=>[(1,.ptr 0 0),(63,I (a.Words.length:Int)),(64,I (i27:Int))]) (fun s28=>[.box 29 [I a.Kind,I a.Number,S a.Words,I a.Version.1,I a.Version.2.1,I a.Version.2.2.1,I a.Version.2.2.2]]) ⟨⟨E,E,E,tV⟩,[],E,.inl E⟩ (fun i27 s28 y38 hlt hy36 hout37=>?_) (fun s28 hgo hge=>?_)
  ·refine gA 6 E<|Kfr E (dT hlt)<|bK hy36 fun c39 hc39 h40=>gA 15 E<|eo_o E (Kgi hΓ hc39 E E E E)<|bK h40 fun y41 hy41 h42=>gO 1 E<|Kgx C (Lgt hy41) E Z E E E E E<|gO 3 E<|jC E h42 (fun h43=>?_) fun h46=>gA 7 E<|oSi h46▸⟨_,E,⟨⟨E,E,Kes E (Ker (by omega)),tV⟩,[],E,.inl E⟩⟩
   refine gA 8 E<|bK h43 fun v44 hv44 h45=>?_
   cases h45
   obtain rfl:=hout37 _ rfl
   cases h31
   exact gA 4 E<|oSi hv44▸gP E E
  subst hgo
  exact gA 6 E<|Kfs E (dF hge)<|gA 4 E<|⟨_,E,⟨⟨E,tV⟩,[],E,.inl E⟩⟩
 intro a32 ha
 subst ha
 replace h31:=Kjl h31
 refine gA 9 E<|bK h31 fun q50 hq50 h51=>Kjr (R:=fun a52=>q50=.inl a52) (fun a52=>[(1,.ptr 0 0)]) (fun a52=>[.box 29 [I a.Kind,I a.Number,S a.Words,I a.Version.1,I a.Version.2.1,I a.Version.2.2.1,I a.Version.2.2.2]]) ?_ ?_
 ·refine gA 1 E<|Kgd hq50 (fun s48=>[(1,.ptr 0 0),(76,.agg [I a.Version.1,I a.Version.2.1,I a.Version.2.2.1,I a.Version.2.2.2]),(77,I s48)]) (fun s48=>[.box 29 [I a.Kind,I a.Number,S a.Words,I a.Version.1,I a.Version.2.1,I a.Version.2.2.1,I a.Version.2.2.2]]) ⟨⟨E,E,E,tV⟩,[],E,.inl E⟩ (fun s48 y56 hy54 hout55=>?_)
  refine gA 6 E<|jC E hy54 (fun h57=>?_) fun h70=>gA 4 E ?_
  ·refine bK h57 fun x58 hx58 h59=>gA 6 E<|eo_o E (Kkm hΓ (enc:=(eN .i64)) [a.Version.1,a.Version.2.1,a.Version.2.2.1,a.Version.2.2.2] hx58 E E E E E E E (fun _=>E) E)<|gO 9 E<|bK h59 fun q60 hq60 h61=>Kfw 4 [(1,.ptr 0 0),(76,.agg [I a.Version.1,I a.Version.2.1,I a.Version.2.2.1,I a.Version.2.2.2]),(77,I s48),(87,B q60)] [.box 29 [I a.Kind,I a.Number,S a.Words,I a.Version.1,I a.Version.2.1,I a.Version.2.2.1,I a.Version.2.2.2]] ?_ ?_
   ·refine Koo E E (fun hb=>?_) (fun hb=>?_)
    ·have h62:=cT hq60 hb
     exact bK h62 fun y63 hy63 h64=>gO 1 E<|Kom E<|Kgx C (Lgt hy63) E Z E E E E E<|gO 3 E<|oSi h64▸⟨⟨E,E,E,E,tV⟩,[],E,.inl E⟩
    have h65:=cF hq60 hb
    exact gO 5 E<|oSi h65▸⟨⟨E,E,E,E,tV⟩,[],E,.inl E⟩
   refine gO 2 E<|jC E h61 (fun h66=>?_) fun h69=>gA 7 E<|oSi h69▸⟨_,E,⟨⟨E,E,E,tV⟩,[],E,.inl E⟩⟩
   refine gA 8 E<|bK h66 fun v67 hv67 h68=>?_
   cases h68
   obtain rfl:=hout55 _ rfl
   cases h51
   exact gA 4 E<|oSi hv67▸gP E E
  cases h70
  obtain rfl:=hout55 _ rfl
  exact⟨_,E,⟨⟨E,tV⟩,[],E,.inl E⟩⟩
 intro a52 ha
 subst ha
 replace h51:=Kjk h51
 refine gA 8 E<|Kfw 5 [(97,B (((a.Kind:Int) != 4)&&(!decide (([a.Version.1,a.Version.2.1,a.Version.2.2.1,a.Version.2.2.2]:List Int)=([0,0,0,0]:List Int)))))] [.box 29 [I a.Kind,I a.Number,S a.Words,I a.Version.1,I a.Version.2.1,I a.Version.2.2.1,I a.Version.2.2.2]] ?_ ?_
 ·refine Koo E E (fun hb=>?_) (fun hb=>?_)
  ·exact gO 2 E<|Kom E<|eo_o E (Kkn hΓ (gs:=[I 0,I 0,I 0,I 0]) E E E E E E)<|Kom E<|eo_o E (Klw hΓ (l1:=([a.Version.1,a.Version.2.1,a.Version.2.2.1,a.Version.2.2.2]:List Int)) (l2:=([0,0,0,0]:List Int)) E E E E E (by kernel_rfl) E E E E E E)<|gO 2 E<|⟨⟨Ket E (Khr hb),tV⟩,[],E,.inl E⟩
  exact gO 6 E<|⟨⟨Ket E (Khs hb),tV⟩,[],E,.inl E⟩
 refine gO 2 E<|jC E h51 (fun h71=>?_) fun h72=>gA 8 E<|oSi h72▸gP E E
 exact gA 7 E<|oSi h71▸gP E E
theorem Lgz{k:Nat}{c:Kye}{r:Int}(h:Lbn k c=some r):Pure Tryz.prog 181 [.agg [I c.Kind,S c.Name,S c.Op,I c.Value.Kind,I c.Value.Number,S c.Value.Words,I c.Value.Version.1,I c.Value.Version.2.1,I c.Value.Version.2.2.1,I c.Value.Version.2.2.2,.d (.ro c.Kids.n c.Kids.xs)]] (I r):=by
 unfold Lbn at h
 refine QP Tryz.func181 E E E<|gA 2 E<|Kpv E E E E Z<|bK h fun y1 hy1 h2=>gO 17 E<|Kgx C (Lgt hy1) E Z E E E E E<|gO 4 E<|Kfq E (fun hb=>?_) (fun hb=>?_)
 ·have h3:=cT h2 hb
  exact gA 8 E<|oSi h3▸gP E E
 have h4:=cF h2 hb
 refine gA 4 E<|bK h4 fun q5 hq5 h6=>Kfw 5 [(1,.ptr 0 0),(3,B ((c.Kind:Int)==1)),(20,B q5)] [.box 32 [I c.Kind,S c.Name,S c.Op,I c.Value.Kind,I c.Value.Number,S c.Value.Words,I c.Value.Version.1,I c.Value.Version.2.1,I c.Value.Version.2.2.1,I c.Value.Version.2.2.2,.d (.ro c.Kids.n c.Kids.xs)]] ?_ ?_
 ·refine Koo E E (fun hb=>?_) (fun hb=>?_)
  ·have h7:=cT hq5 hb
   exact bK h7 fun l8 hl8 h9=>gO 1 E<|Kom E<|eo_o E (Klt (Kpi hΓ (g:=.d (.ro c.Kids.n c.Kids.xs)) E) (G.Le.unk Ldg hl8))<|gO 4 E<|oSi h9▸⟨⟨E,E,E,tV⟩,[],E,.inl E⟩
  have h10:=cF hq5 hb
  exact gO 6 E<|oSi h10▸⟨⟨E,E,E,tV⟩,[],E,.inl E⟩
 refine gO 1 E<|bK h6 fun q11 hq11 h12=>Kfw 10 [(1,.ptr 0 0),(3,B ((c.Kind:Int)==1)),(31,B q11)] [.box 32 [I c.Kind,S c.Name,S c.Op,I c.Value.Kind,I c.Value.Number,S c.Value.Words,I c.Value.Version.1,I c.Value.Version.2.1,I c.Value.Version.2.2.1,I c.Value.Version.2.2.2,.d (.ro c.Kids.n c.Kids.xs)]] ?_ ?_
 ·refine Koo E E (fun hb=>?_) (fun hb=>?_)
  ·have h13:=cT hq11 hb
   exact gO 11 E<|oSi h13▸⟨⟨E,E,E,tV⟩,[],E,.inl E⟩
  have h14:=cF hq11 hb
  refine gO 4 E<|bK h14 fun q15 hq15 h16=>Kfw 5 [(1,.ptr 0 0),(3,B ((c.Kind:Int)==1)),(21,B false),(30,B q15)] [.box 32 [I c.Kind,S c.Name,S c.Op,I c.Value.Kind,I c.Value.Number,S c.Value.Words,I c.Value.Version.1,I c.Value.Version.2.1,I c.Value.Version.2.2.1,I c.Value.Version.2.2.2,.d (.ro c.Kids.n c.Kids.xs)]] ?_ ?_
  ·refine Koo E E (fun hb=>?_) (fun hb=>?_)
   ·have h17:=cT hq15 hb
    exact bK h17 fun l18 hl18 h19=>gO 1 E<|Kom E<|eo_o E (Klt (Kpi hΓ (g:=.d (.ro c.Kids.n c.Kids.xs)) E) (G.Le.unk Ldg hl18))<|gO 4 E<|oSi h19▸⟨⟨E,E,E,E,tV⟩,[],E,.inl E⟩
   have h20:=cF hq15 hb
   exact gO 6 E<|oSi h20▸⟨⟨E,E,E,E,tV⟩,[],E,.inl E⟩
  exact gO 2 E<|oSi h16▸⟨⟨E,E,E,tV⟩,[],E,.inl E⟩
 refine gO 1 E<|bK h12 fun q21 hq21 h22=>Kfw 14 [(1,.ptr 0 0),(3,B ((c.Kind:Int)==1)),(46,B q21)] [.box 32 [I c.Kind,S c.Name,S c.Op,I c.Value.Kind,I c.Value.Number,S c.Value.Words,I c.Value.Version.1,I c.Value.Version.2.1,I c.Value.Version.2.2.1,I c.Value.Version.2.2.2,.d (.ro c.Kids.n c.Kids.xs)]] ?_ ?_
 ·refine Koo E E (fun hb=>?_) (fun hb=>?_)
  ·have h23:=cT hq21 hb
   exact gO 15 E<|oSi h23▸⟨⟨E,E,E,tV⟩,[],E,.inl E⟩
  have h24:=cF hq21 hb
  refine gO 3 E<|Kfw 4 [(1,.ptr 0 0),(3,B ((c.Kind:Int)==1)),(32,B false),(39,B ((!((c.Kind:Int)==1))&&((c.Kind:Int) != 2)))] [.box 32 [I c.Kind,S c.Name,S c.Op,I c.Value.Kind,I c.Value.Number,S c.Value.Words,I c.Value.Version.1,I c.Value.Version.2.1,I c.Value.Version.2.2.1,I c.Value.Version.2.2.2,.d (.ro c.Kids.n c.Kids.xs)]] ?_ ?_
  ·refine Koo E E (fun hb=>?_) (fun hb=>?_)
   ·exact gO 5 E<|⟨⟨E,E,E,Ket E (Khr hb),tV⟩,[],E,.inl E⟩
   exact gO 5 E<|⟨⟨E,E,E,Ket E (Khs hb),tV⟩,[],E,.inl E⟩
  refine gO 1 E<|bK h24 fun q25 hq25 h26=>Kfw 5 [(1,.ptr 0 0),(3,B ((c.Kind:Int)==1)),(32,B false),(45,B q25)] [.box 32 [I c.Kind,S c.Name,S c.Op,I c.Value.Kind,I c.Value.Number,S c.Value.Words,I c.Value.Version.1,I c.Value.Version.2.1,I c.Value.Version.2.2.1,I c.Value.Version.2.2.2,.d (.ro c.Kids.n c.Kids.xs)]] ?_ ?_
  ·refine Koo E E (fun hb=>?_) (fun hb=>?_)
   ·have h27:=cT hq25 hb
    exact bK h27 fun l28 hl28 h29=>gO 1 E<|Kom E<|eo_o E (Klt (Kpi hΓ (g:=.d (.ro c.Kids.n c.Kids.xs)) E) (G.Le.unk Ldg hl28))<|gO 4 E<|oSi h29▸⟨⟨E,E,E,E,tV⟩,[],E,.inl E⟩
   have h30:=cF hq25 hb
   exact gO 6 E<|oSi h30▸⟨⟨E,E,E,E,tV⟩,[],E,.inl E⟩
  exact gO 2 E<|oSi h26▸⟨⟨E,E,E,tV⟩,[],E,.inl E⟩
 refine gO 3 E<|Kfq E (fun hb=>?_) (fun hb=>?_)
 ·have h31:=cT h22 hb
  exact gA 8 E<|oSi h31▸gP E E
 have h32:=cF h22 hb
 refine gA 5 E<|Kfw 15 [(1,.ptr 0 0),(3,B ((c.Kind:Int)==1)),(65,B ((!((c.Kind:Int)==1))&&(((!((c.Name:Str)==[]))||(!((c.Op:Str)==[])))||(!(((c.Value.Kind:Int)==0)&&(((c.Value.Number:Int)==0)&&(((c.Value.Words:Str)==[])&&(decide (([c.Value.Version.1,c.Value.Version.2.1,c.Value.Version.2.2.1,c.Value.Version.2.2.2]:List Int)=[0,0,0,0])&&true))))))))] [.box 32 [I c.Kind,S c.Name,S c.Op,I c.Value.Kind,I c.Value.Number,S c.Value.Words,I c.Value.Version.1,I c.Value.Version.2.1,I c.Value.Version.2.2.1,I c.Value.Version.2.2.2,.d (.ro c.Kids.n c.Kids.xs)]] ?_ ?_
 ·refine Koo E E (fun hb=>?_) (fun hb=>?_)
  ·refine gO 4 E<|Kfw 4 [(1,.ptr 0 0),(3,B ((c.Kind:Int)==1)),(50,B true),(58,B ((!((c.Name:Str)==[]))||(!((c.Op:Str)==[]))))] [.box 32 [I c.Kind,S c.Name,S c.Op,I c.Value.Kind,I c.Value.Number,S c.Value.Words,I c.Value.Version.1,I c.Value.Version.2.1,I c.Value.Version.2.2.1,I c.Value.Version.2.2.2,.d (.ro c.Kids.n c.Kids.xs)]] ?_ ?_
   ·refine Koo E E (fun hb=>?_) (fun hb=>?_)
    ·exact gO 5 E<|⟨⟨E,E,E,Ket E (or_t hb),tV⟩,[],E,.inl E⟩
    exact gO 5 E<|⟨⟨E,E,E,Ket E (or_f hb),tV⟩,[],E,.inl E⟩
   refine gO 1 E<|Kfw 5 [(1,.ptr 0 0),(3,B ((c.Kind:Int)==1)),(50,B true),(64,B (((!((c.Name:Str)==[]))||(!((c.Op:Str)==[])))||(!(((c.Value.Kind:Int)==0)&&(((c.Value.Number:Int)==0)&&(((c.Value.Words:Str)==[])&&(decide (([c.Value.Version.1,c.Value.Version.2.1,c.Value.Version.2.2.1,c.Value.Version.2.2.2]:List Int)=[0,0,0,0])&&true)))))))] [.box 32 [I c.Kind,S c.Name,S c.Op,I c.Value.Kind,I c.Value.Number,S c.Value.Words,I c.Value.Version.1,I c.Value.Version.2.1,I c.Value.Version.2.2.1,I c.Value.Version.2.2.2,.d (.ro c.Kids.n c.Kids.xs)]] ?_ ?_
   ·refine Koo E E (fun hb=>?_) (fun hb=>?_)
    ·exact gO 6 E<|⟨⟨E,E,E,Ket E (or_t hb),tV⟩,[],E,.inl E⟩
    exact gO 2 E<|Kom E<|Kdq hΓ (gs:=[I 0,I 0,S [],I 0,I 0,I 0,I 0]) E E E E E E E<|Kom E<|eo_o E (Knc hΓ [29] (b:=(((c.Value.Kind:Int)==0)&&(((c.Value.Number:Int)==0)&&(((c.Value.Words:Str)==[])&&(decide (([c.Value.Version.1,c.Value.Version.2.1,c.Value.Version.2.2.1,c.Value.Version.2.2.2]:List Int)=[0,0,0,0])&&true))))) (by kernel_rfl) (by kernel_rfl) E E E)<|gO 2 E<|⟨⟨E,E,E,Ket E (or_f hb),tV⟩,[],E,.inl E⟩
   exact gO 2 E<|⟨⟨E,E,Ket E (Khr hb),tV⟩,[],E,.inl E⟩
  exact gO 16 E<|⟨⟨E,E,Ket E (Khs hb),tV⟩,[],E,.inl E⟩
 refine gO 3 E<|Kfq E (fun hb=>?_) (fun hb=>?_)
 ·have h33:=cT h32 hb
  exact gA 8 E<|oSi h33▸gP E E
 have h34:=cF h32 hb
 refine gA 6 E<|Kfw 4 [(1,.ptr 0 0),(3,B ((c.Kind:Int)==1)),(74,B (((c.Kind:Int)==3)||((c.Kind:Int)==4)))] [.box 32 [I c.Kind,S c.Name,S c.Op,I c.Value.Kind,I c.Value.Number,S c.Value.Words,I c.Value.Version.1,I c.Value.Version.2.1,I c.Value.Version.2.2.1,I c.Value.Version.2.2.2,.d (.ro c.Kids.n c.Kids.xs)]] ?_ ?_
 ·refine Koo E E (fun hb=>?_) (fun hb=>?_)
  ·exact gO 5 E<|⟨⟨E,E,Ket E (or_t hb),tV⟩,[],E,.inl E⟩
  exact gO 5 E<|⟨⟨E,E,Ket E (or_f hb),tV⟩,[],E,.inl E⟩
 refine gO 1 E<|bK h34 fun q35 hq35 h36=>Kfw 5 [(1,.ptr 0 0),(3,B ((c.Kind:Int)==1)),(80,B q35)] [.box 32 [I c.Kind,S c.Name,S c.Op,I c.Value.Kind,I c.Value.Number,S c.Value.Words,I c.Value.Version.1,I c.Value.Version.2.1,I c.Value.Version.2.2.1,I c.Value.Version.2.2.2,.d (.ro c.Kids.n c.Kids.xs)]] ?_ ?_
 ·refine Koo E E (fun hb=>?_) (fun hb=>?_)
  ·have h37:=cT hq35 hb
   exact bK h37 fun l38 hl38 h39=>gO 1 E<|Kom E<|eo_o E (Klt (Kpi hΓ (g:=.d (.ro c.Kids.n c.Kids.xs)) E) (G.Le.unk Ldg hl38))<|bK h39 fun y40 hy40 h41=>gO 1 E<|Kom E<|Kgw [0] (B y40) [.box 32 [I c.Kind,S c.Name,S c.Op,I c.Value.Kind,I c.Value.Number,S c.Value.Words,I c.Value.Version.1,I c.Value.Version.2.1,I c.Value.Version.2.2.1,I c.Value.Version.2.2.2,.d (.ro c.Kids.n c.Kids.xs)]] C (Lgw hy40) E Z E E E E E E E E E E<|gO 2 E<|oSi h41▸⟨⟨E,E,E,tV⟩,[],E,.inl E⟩
  have h42:=cF hq35 hb
  exact gO 6 E<|oSi h42▸⟨⟨E,E,E,tV⟩,[],E,.inl E⟩
 refine gO 3 E<|Kfq E (fun hb=>?_) (fun hb=>?_)
 ·have h43:=cT h36 hb
  exact gA 8 E<|oSi h43▸gP E E
 have h44:=cF h36 hb
 refine gA 7 E<|Kfq E (fun hb=>?_) (fun hb=>?_)
 ·have h45:=cT h44 hb
  exact gA 8 E<|oSi h45▸gP E E
 have h46:=cF h44 hb
 refine bK h46 fun y47 hy47 h48=>gA 4 E<|Kgx C (Lgx hy47) E Z E E E E E<|gO 4 E<|Kfq E (fun hb=>?_) (fun hb=>?_)
 ·have h49:=cT h48 hb
  exact gA 8 E<|oSi h49▸gP E E
 have h50:=cF h48 hb
 refine gA 1 E<|jD<|bK h50 fun y51 hy51 h52=>Kgy C (Leg hy51) E E E E E E<|bK h52 fun y53 hy53 h54=>Kfo hΓ 2 E<|Kgy C (Lfe hy53) E E E E E E<|Kfo hΓ 4 E<|Kfq E (fun hb=>?_) (fun hb=>?_)
 ·have h55:=cT h54 hb
  exact gA 8 E<|oSi h55▸gP E E
 have h56:=cF h54 hb
 refine bK h56 fun y57 hy57 h58=>gA 8 E<|Kgx C (Lgy hy57) E Z E E E E E<|gO 9 E<|Kfq E (fun hb=>?_) (fun hb=>?_)
 ·have h59:=cT h58 hb
  exact gA 8 E<|oSi h59▸gP E E
 have h60:=cF h58 hb
 refine gA 10 E<|Kfw 4 [(1,.ptr 0 0),(109,B (((c.Value.Kind:Int)==3)&&(!((c.Op:Str)==[61,61]))))] [.box 32 [I c.Kind,S c.Name,S c.Op,I c.Value.Kind,I c.Value.Number,S c.Value.Words,I c.Value.Version.1,I c.Value.Version.2.1,I c.Value.Version.2.2.1,I c.Value.Version.2.2.2,.d (.ro c.Kids.n c.Kids.xs)]] ?_ ?_
 ·refine Koo E E (fun hb=>?_) (fun hb=>?_)
  ·exact gO 5 E<|⟨⟨E,Ket E (Khr hb),tV⟩,[],E,.inl E⟩
  exact gO 5 E<|⟨⟨E,Ket E (Khs hb),tV⟩,[],E,.inl E⟩
 refine gO 1 E<|Kfw 4 [(114,B ((((c.Value.Kind:Int)==3)&&(!((c.Op:Str)==[61,61])))&&(!((c.Op:Str)==[33,61]))))] [.box 32 [I c.Kind,S c.Name,S c.Op,I c.Value.Kind,I c.Value.Number,S c.Value.Words,I c.Value.Version.1,I c.Value.Version.2.1,I c.Value.Version.2.2.1,I c.Value.Version.2.2.2,.d (.ro c.Kids.n c.Kids.xs)]] ?_ ?_
 ·refine Koo E E (fun hb=>?_) (fun hb=>?_)
  ·exact gO 5 E<|⟨⟨Ket E (Khr hb),tV⟩,[],E,.inl E⟩
  exact gO 5 E<|⟨⟨Ket E (Khs hb),tV⟩,[],E,.inl E⟩
 refine gO 2 E<|jC E h60 (fun h61=>?_) fun h62=>gA 8 E<|oSi h62▸gP E E
 exact gA 7 E<|oSi h61▸gP E E
theorem Lha{k:Nat}{c:Kye}{r:Int}(h:Lbo k c=some r):Pure Tryz.prog 100 [.agg [I c.Kind,S c.Name,S c.Op,I c.Value.Kind,I c.Value.Number,S c.Value.Words,I c.Value.Version.1,I c.Value.Version.2.1,I c.Value.Version.2.2.1,I c.Value.Version.2.2.2,.d (.ro c.Kids.n c.Kids.xs)]] (I r):=by
 induction k generalizing c r with
 | zero=>unfold Lbo at h;cases h
 | succ k ih0=>
  have ih:∀ {c:Kye} {r:Int},Lbo k c=some r→Pure Tryz.prog 100 [.agg [I c.Kind,S c.Name,S c.Op,I c.Value.Kind,I c.Value.Number,S c.Value.Words,I c.Value.Version.1,I c.Value.Version.2.1,I c.Value.Version.2.2.1,I c.Value.Version.2.2.2,.d (.ro c.Kids.n c.Kids.xs)]] (I r):=by intro c r h;first | exact ih0 h | exact ih0 _ _ h
  refine Pure.enter (Fr.of 0 _) Tryz.func100 E (Fr.of_ok _) E E ?_
  refine Kfp ?_
  unfold Lbo at h
  refine gA 2 E ?_
  refine Kpv E E E E Z ?_
  obtain⟨y1,hy1,h2⟩:=Kfx h
  refine gO 7 E ?_
  refine Kgx C (Lgz hy1) E Z E E E E E ?_
  refine gO 9 E ?_
  refine Kfq E (fun hb=>?_) (fun hb=>?_)
  ·have h3:=cT h2 hb
   refine gA 8 E ?_
   obtain rfl:=oSi h3
   exact gP E E
  have h4:=cF h2 hb
  obtain⟨l5,hl5,h6⟩:=Kfx h4
  refine gA 6 E ?_
  refine eo_o E (Klt (Kpi hΓ (g:=.d (.ro c.Kids.n c.Kids.xs)) E) (G.Le.unk Ldg hl5)) ?_
  refine gO 4 E ?_
  obtain⟨q10,hq10,h11⟩:=Kfx h6
  refine Kgg 13 E fun hb13=>?_
  refine Kjr (R:=fun a12=>q10=.go a12) (fun a12=>[]) (fun a12=>[.box 32 [I c.Kind,S c.Name,S c.Op,I c.Value.Kind,I c.Value.Number,S c.Value.Words,I c.Value.Version.1,I c.Value.Version.2.1,I c.Value.Version.2.2.1,I c.Value.Version.2.2.2,.d (.ro c.Kids.n c.Kids.xs)]]) ?_ ?_
  ·refine gA 1 E ?_
   refine Kgf l5 hq10 (fun i7 s8=>[(13,.d (Sl Kyf l5)),(14,I (l5.length:Int)),(15,I (i7:Int))]) (fun s8=>[.box 32 [I c.Kind,S c.Name,S c.Op,I c.Value.Kind,I c.Value.Number,S c.Value.Words,I c.Value.Version.1,I c.Value.Version.2.1,I c.Value.Version.2.2.1,I c.Value.Version.2.2.2,.d (.ro c.Kids.n c.Kids.xs)]]) ⟨⟨E,E,E,tV⟩,[],E,.inl E⟩ (fun i7 x9 s8 y17 hx14 hlt hy15 hout16=>?_) (fun s8 hgo=>?_)
   ·refine gA 6 E ?_
    refine Kfr E (dT (Int.ofNat_lt.2 hlt)) ?_
    refine gA 6 E ?_
    refine eo_o E (Kgh hΓ (enc:=Kyf) (Kga hx14) E E E E E (fun _=>E)) ?_
    refine gO 1 E ?_
    refine Kpu hΓ E E E Z ?_
    refine Kpz hΓ E E E E E E E E Z ?_
    refine Khg [.box 32 [I c.Kind,S c.Name,S c.Op,I c.Value.Kind,I c.Value.Number,S c.Value.Words,I c.Value.Version.1,I c.Value.Version.2.1,I c.Value.Version.2.2.1,I c.Value.Version.2.2.2,.d (.ro c.Kids.n c.Kids.xs)],.box 32 [I x9.Kind,S x9.Name,S x9.Op,I x9.Value.Kind,I x9.Value.Number,S x9.Value.Words,I x9.Value.Version.1,I x9.Value.Version.2.1,I x9.Value.Version.2.2.1,I x9.Value.Version.2.2.2,.d (.ro x9.Kids.n x9.Kids.xs)]] E ?_
    obtain⟨y18,hy18,h19⟩:=Kfx hy15
    refine gO 5 E ?_
    refine Kgx C (ih hy18) E Z E E E E E ?_
    refine gO 9 E ?_
    refine Kfq E (fun hb=>?_) (fun hb=>?_)
    ·have h20:=cT h19 hb
     refine gA 9 E ?_
     obtain⟨v21,hv21,h22⟩:=Kfx h20
     obtain rfl:=oSi h22
     obtain rfl:=hout16 _ rfl
     obtain rfl:=oSi h11
     refine gA 4 E ?_
     obtain rfl:=oSi hv21
     exact gP E E
    have h23:=cF h19 hb
    refine gA 7 E ?_
    obtain rfl:=oSi h23
    exact⟨_,E,⟨⟨E,E,Kes E (Ker (nLl hlt hb13)),tV⟩,[_],E,.inr ⟨HB.mk E,FB.mk E,Z⟩⟩⟩
   subst hgo
   refine gA 6 E ?_
   refine Kfs E (dF (Int.lt_irrefl _)) ?_
   refine gA 4 E ?_
   exact⟨_,E,⟨tV,[],E,.inl E⟩⟩
  intro a12 ha
  subst ha
  replace h11:=Kjl h11
  refine gA 7 E ?_
  obtain rfl:=oSi h11
  exact gP E E
theorem Lhb{k:Nat}{c:Kye}{r:Int}(h:Lbp k c=some r):Pure Tryz.prog 24 [.agg [I c.Kind,S c.Name,S c.Op,I c.Value.Kind,I c.Value.Number,S c.Value.Words,I c.Value.Version.1,I c.Value.Version.2.1,I c.Value.Version.2.2.1,I c.Value.Version.2.2.2,.d (.ro c.Kids.n c.Kids.xs)]] (I r):=by
 unfold Lbp at h
 refine QP Tryz.func24 E E E<|gA 2 E<|Kpv E E E E Z<|bK h fun y1 hy1 h2=>gO 7 E<|Kgx C (Lgr hy1) E Z E E E E E<|gO 2 E<|bK h2 fun q3 hq3 h4=>Kfw 4 [(1,.ptr 0 0),(10,B q3)] [.box 32 [I c.Kind,S c.Name,S c.Op,I c.Value.Kind,I c.Value.Number,S c.Value.Words,I c.Value.Version.1,I c.Value.Version.2.1,I c.Value.Version.2.2.1,I c.Value.Version.2.2.2,.d (.ro c.Kids.n c.Kids.xs)]] ?_ ?_
 ·refine Koo E E (fun hb=>?_) (fun hb=>?_)
  ·have h5:=cT hq3 hb
   exact gO 5 E<|oSi h5▸⟨⟨E,E,tV⟩,[],E,.inl E⟩
  have h6:=cF hq3 hb
  exact bK h6 fun y7 hy7 h8=>gO 1 E<|Kom E<|Kgx C (Lgs hy7) E Z E E E E E<|gO 3 E<|oSi h8▸⟨⟨E,E,tV⟩,[],E,.inl E⟩
 refine gO 2 E<|jC E h4 (fun h9=>?_) fun h10=>bK h10 fun y11 hy11 h12=>gA 5 E<|Kgx C (Lha hy11) E Z E E E E E<|gO 4 E<|oSi h12▸gP E E
 exact gA 7 E<|oSi h9▸gP E E
theorem Lhc{k:Nat}{p:List Kyg}{r:Int}(h:Lbq k p=some r):Pure Tryz.prog 38 [.d (Sl Kxu p)] (I r):=by
 unfold Lbq at h
 refine QP Tryz.func38 E E E<|gA 13 E<|jC E h (fun h1=>?_) fun h2=>gA 10 E<|bK h2 fun q6 hq6 h7=>Kgg 0 E fun hb9=>Kjr (R:=fun a8=>q6=.go a8) (fun a8=>[]) (fun a8=>[]) ?_ ?_
 ·exact gA 7 E<|oSi h1▸gP E E
 ·refine gA 1 E<|Kgf p hq6 (fun i3 s4=>[(0,.d (Sl Kxu p)),(9,.d (Sl Kxu p)),(10,I (p.length:Int)),(11,I (i3:Int))]) (fun s4=>[]) ⟨⟨E,E,E,E,tV⟩,[],E,.inl E⟩ (fun i3 x5 s4 y13 hx10 hlt hy11 hout12=>?_) (fun s4 hgo=>?_)
  ·refine gA 6 E<|Kfr E (dT (Int.ofNat_lt.2 hlt))<|gA 7 E<|eo_o E (Kgh hΓ (enc:=Kxu) (Kga hx10) E E E E E (fun _=>E))<|gO 1 E<|Kpu hΓ E E E Z<|gO 1 E<|Kpz hΓ E E E E E E E E Z<|Khg [.box 159 [S x5.Key,I x5.Cond.Kind,S x5.Cond.Name,S x5.Cond.Op,I x5.Cond.Value.Kind,I x5.Cond.Value.Number,S x5.Cond.Value.Words,I x5.Cond.Value.Version.1,I x5.Cond.Value.Version.2.1,I x5.Cond.Value.Version.2.2.1,I x5.Cond.Value.Version.2.2.2,.d (.ro x5.Cond.Kids.n x5.Cond.Kids.xs)]] E<|bK hy11 fun y14 hy14 h15=>gO 8 E<|Kgx C (Lgq hy14) E Z E E E E E<|gO 4 E<|jC E h15 (fun h16=>?_) fun h19=>bK h19 fun q20 hq20 h21=>gA 1 E<|Kjs [(0,.d (Sl Kxu p)),(4,.ptr 0 0),(9,.d (Sl Kxu p)),(10,I (p.length:Int)),(11,I (i3:Int)),(21,B q20)] [.box 159 [S x5.Key,I x5.Cond.Kind,S x5.Cond.Name,S x5.Cond.Op,I x5.Cond.Value.Kind,I x5.Cond.Value.Number,S x5.Cond.Value.Words,I x5.Cond.Value.Version.1,I x5.Cond.Value.Version.2.1,I x5.Cond.Value.Version.2.2.1,I x5.Cond.Value.Version.2.2.2,.d (.ro x5.Cond.Kids.n x5.Cond.Kids.xs)]] ?_ ?_
   ·refine gA 10 E<|bK h16 fun v17 hv17 h18=>?_
    cases h18
    obtain rfl:=hout12 _ rfl
    cases h7
    exact gA 4 E<|oSi hv17▸gP E E
   ·refine jD<|gA 3 E<|Kea E E (fun hb=>?_) (fun hb=>?_)
    ·have h22:=cT hq20 hb
     exact bK h22 fun x23 hx23 h24=>Kfo hΓ 5 E<|Keu E E (Kgh hΓ (enc:=Kxu) hx23 E E E E E (fun _=>E))<|Kfo hΓ 6 E<|oSi h24▸⟨⟨E,E,E,E,E,E,tV⟩,[],E,.inl E⟩
    have h25:=cF hq20 hb
    exact Kfo hΓ 12 E<|oSi h25▸⟨⟨E,E,E,E,E,E,tV⟩,[],E,.inl E⟩
   refine gA 1 E<|jC E h21 (fun h26=>?_) fun h29=>bK h29 fun y30 hy30 h31=>gA 7 E<|Kgx C (Lhb hy30) E Z E E E E E<|gO 9 E<|jC E h31 (fun h32=>?_) fun h35=>?_
   ·refine gA 10 E<|bK h26 fun v27 hv27 h28=>?_
    cases h28
    obtain rfl:=hout12 _ rfl
    cases h7
    exact gA 4 E<|oSi hv27▸gP E E
   ·refine gA 9 E<|bK h32 fun v33 hv33 h34=>?_
    cases h34
    obtain rfl:=hout12 _ rfl
    cases h7
    exact gA 4 E<|oSi hv33▸gP E E
   refine gA 7 E ?_
   cases h35
   exact⟨_,E,⟨⟨E,E,E,Kes E (Ker (nLl hlt hb9)),tV⟩,[_],E,.inr ⟨HB.mk E,FB.mk E,Z⟩⟩⟩
  subst hgo
  exact gA 6 E<|Kfs E (dF (Int.lt_irrefl _))<|gA 4 E<|⟨_,E,⟨tV,[],E,.inl E⟩⟩
 intro a8 ha
 subst ha
 replace h7:=Kjl h7
 exact gA 7 E<|oSi h7▸gP E E
theorem Lhd{v_at:Int}{r:Bool}(h:Lbr v_at=some r):Pure Tryz.prog 101 [I v_at] (B r):=by
 unfold Lbr at h
 exact QP Tryz.func101 E E E<|bK h fun y1 hy1 h2=>gA 8 E<|Kgx C (Lgo hy1) E Z E E E E E<|gO 4 E<|oSi h2▸gP E E
theorem Lhe{a:Kyh}{b:Kyh}{r:Int}(h:Lbs a b=some r):Pure Tryz.prog 103 [.agg [I a.At,S a.Node,S a.Name,I a.Value.Kind,I a.Value.Number,S a.Value.Words,I a.Value.Version.1,I a.Value.Version.2.1,I a.Value.Version.2.2.1,I a.Value.Version.2.2.2],.agg [I b.At,S b.Node,S b.Name,I b.Value.Kind,I b.Value.Number,S b.Value.Words,I b.Value.Version.1,I b.Value.Version.2.1,I b.Value.Version.2.2.1,I b.Value.Version.2.2.2]] (I r):=by
 unfold Lbs at h
 exact QP Tryz.func103 E E E<|gA 2 E<|Kpv E E E E Z<|Kpv E E E E Z<|gO 4 E<|jD<|bK h fun y1 hy1 h2=>gA 4 E<|Kgy C (Lfn hy1) E E E E E E<|bK h2 fun y3 hy3 h4=>Kfo hΓ 4 E<|Kgy C (Kwt hy3) E E E E E E<|bK h4 fun y5 hy5 h6=>Kfo hΓ 4 E<|Kgy C (Kwt hy5) E E E E E E<|Kgs hΓ (enc:=(eN .i64)) [y1,y3,y5] E E E E E E E E E E E E<|bK h6 fun y7 hy7 h8=>Kgy C (Lfo hy7) E E E E E E<|Kfo hΓ 4 E<|oSi h8▸gP E E
theorem Lhf{k:Nat}{l:List Kyh}{r:Int}(h:Lbt k l=some r):Pure Tryz.prog 25 [.d (Sl Kxv l)] (I r):=by
 unfold Lbt at h
 refine QP Tryz.func25 E E E<|gA 13 E<|jC E h (fun h1=>?_) fun h2=>gA 10 E<|bK h2 fun q6 hq6 h7=>Kgg 0 E fun hb9=>Kjr (R:=fun a8=>q6=.go a8) (fun a8=>[]) (fun a8=>[]) ?_ ?_
 ·exact gA 7 E<|oSi h1▸gP E E
 ·refine gA 1 E<|Kgf l hq6 (fun i3 s4=>[(0,.d (Sl Kxv l)),(9,.d (Sl Kxv l)),(10,I (l.length:Int)),(11,I (i3:Int))]) (fun s4=>[]) ⟨⟨E,E,E,E,tV⟩,[],E,.inl E⟩ (fun i3 x5 s4 y13 hx10 hlt hy11 hout12=>?_) (fun s4 hgo=>?_)
  ·refine gA 6 E<|Kfr E (dT (Int.ofNat_lt.2 hlt))<|gA 7 E<|eo_o E (Kgh hΓ (enc:=Kxv) (Kga hx10) E E E E E (fun _=>E))<|gO 1 E<|Kpu hΓ E E E Z<|gO 1 E<|Kpz hΓ E E E E E E E E Z<|Khg [.box 83 [I x5.At,S x5.Node,S x5.Name,I x5.Value.Kind,I x5.Value.Number,S x5.Value.Words,I x5.Value.Version.1,I x5.Value.Version.2.1,I x5.Value.Version.2.2.1,I x5.Value.Version.2.2.2]] E<|bK hy11 fun y14 hy14 h15=>gO 8 E<|Kgx C (Lhd hy14) E Z E E E E E<|gO 4 E<|jC E h15 (fun h16=>?_) fun h19=>bK h19 fun y20 hy20 h21=>gA 4 E<|Kgx C (Lgq hy20) E Z E E E E E<|gO 2 E<|bK h21 fun q22 hq22 h23=>Kfw 5 [(0,.d (Sl Kxv l)),(3,I (i3:Int)),(4,.ptr 0 0),(9,.d (Sl Kxv l)),(10,I (l.length:Int)),(11,I (i3:Int)),(31,B q22)] [.box 83 [I x5.At,S x5.Node,S x5.Name,I x5.Value.Kind,I x5.Value.Number,S x5.Value.Words,I x5.Value.Version.1,I x5.Value.Version.2.1,I x5.Value.Version.2.2.1,I x5.Value.Version.2.2.2]] ?_ ?_
   ·refine gA 10 E<|bK h16 fun v17 hv17 h18=>?_
    cases h18
    obtain rfl:=hout12 _ rfl
    cases h7
    exact gA 4 E<|oSi hv17▸gP E E
   ·refine Koo E E (fun hb=>?_) (fun hb=>?_)
    ·have h24:=cT hq22 hb
     exact gO 6 E<|oSi h24▸⟨⟨E,E,E,E,E,E,E,tV⟩,[],E,.inl E⟩
    have h25:=cF hq22 hb
    exact bK h25 fun y26 hy26 h27=>gO 2 E<|Kom E<|Kgx C (Lgq hy26) E Z E E E E E<|gO 3 E<|oSi h27▸⟨⟨E,E,E,E,E,E,E,tV⟩,[],E,.inl E⟩
   refine gO 3 E<|jC E h23 (fun h28=>?_) fun h31=>bK h31 fun y32 hy32 h33=>gA 8 E<|Kgx C (Lgy hy32) E Z E E E E E<|gO 9 E<|jC E h33 (fun h34=>?_) fun h37=>?_
   ·refine gA 10 E<|bK h28 fun v29 hv29 h30=>?_
    cases h30
    obtain rfl:=hout12 _ rfl
    cases h7
    exact gA 4 E<|oSi hv29▸gP E E
   ·refine gA 10 E<|bK h34 fun v35 hv35 h36=>?_
    cases h36
    obtain rfl:=hout12 _ rfl
    cases h7
    exact gA 4 E<|oSi hv35▸gP E E
   refine bK h37 fun q38 hq38 h39=>gA 3 E<|Kjs [(0,.d (Sl Kxv l)),(9,.d (Sl Kxv l)),(10,I (l.length:Int)),(11,I (i3:Int)),(49,B q38)] [.box 83 [I x5.At,S x5.Node,S x5.Name,I x5.Value.Kind,I x5.Value.Number,S x5.Value.Words,I x5.Value.Version.1,I x5.Value.Version.2.1,I x5.Value.Version.2.2.1,I x5.Value.Version.2.2.2]] ?_ ?_
   ·refine jD<|gA 3 E<|Kea E E (fun hb=>?_) (fun hb=>?_)
    ·have h40:=cT hq38 hb
     exact bK h40 fun x41 hx41 h42=>Kfo hΓ 3 E<|Keu E E (Kgh hΓ (enc:=Kxv) hx41 E E E E E (fun _=>E))<|bK h42 fun y43 hy43 h44=>Kfo hΓ 2 E<|Kgz C (Lhe hy43) E E E E E E E<|Kfo hΓ 3 E<|oSi h44▸⟨⟨E,E,E,E,E,tV⟩,[],E,.inl E⟩
    have h45:=cF hq38 hb
    exact Kfo hΓ 10 E<|oSi h45▸⟨⟨E,E,E,E,E,tV⟩,[],E,.inl E⟩
   refine gA 1 E<|jC E h39 (fun h46=>?_) fun h49=>gA 7 E ?_
   ·refine gA 8 E<|bK h46 fun v47 hv47 h48=>?_
    cases h48
    obtain rfl:=hout12 _ rfl
    cases h7
    exact gA 4 E<|oSi hv47▸gP E E
   cases h49
   exact⟨_,E,⟨⟨E,E,E,Kes E (Ker (nLl hlt hb9)),tV⟩,[_],E,.inr ⟨HB.mk E,FB.mk E,Z⟩⟩⟩
  subst hgo
  exact gA 6 E<|Kfs E (dF (Int.lt_irrefl _))<|gA 4 E<|⟨_,E,⟨tV,[],E,.inl E⟩⟩
 intro a8 ha
 subst ha
 replace h7:=Kjl h7
 exact gA 7 E<|oSi h7▸gP E E
theorem Lhg{fresh:Int}{r:Int}(h:Lbu fresh=some r):Pure Tryz.prog 26 [I fresh] (I r):=by
 unfold Lbu at h
 refine QP Tryz.func26 E E E<|bK h fun y1 hy1 h2=>gA 9 E<|Kgx C (Lgt hy1) E Z E E E E E<|gO 3 E<|jC E h2 (fun h3=>?_) fun h4=>gA 8 E<|oSi h4▸gP E E
 exact gA 7 E<|oSi h3▸gP E E
theorem Lhh{l:List Str}{r:Int}(h:Lbv l=some r):Pure Tryz.prog 117 [.d (Sl eS l)] (I r):=by
 unfold Lbv at h
 refine QP Tryz.func117 E E E<|gA 13 E<|bK h fun q4 hq4 h5=>Kgg 0 E fun hb7=>Kjr (R:=fun a6=>q4=.go a6) (fun a6=>[]) (fun a6=>[]) ?_ ?_
 ·refine gA 1 E<|Kgf l hq4 (fun i1 s2=>[(0,.d (Sl eS l)),(5,.d (Sl eS l)),(6,I (l.length:Int)),(7,I (i1:Int))]) (fun s2=>[]) ⟨⟨E,E,E,E,tV⟩,[],E,.inl E⟩ (fun i1 x3 s2 y11 hx8 hlt hy9 hout10=>?_) (fun s2 hgo=>?_)
  ·refine gA 6 E<|Kfr E (dT (Int.ofNat_lt.2 hlt))<|gA 7 E<|eo_o E (Kgh hΓ (enc:=eS) (Kga hx8) E E E E E (fun _=>E))<|bK hy9 fun y12 hy12 h13=>gO 9 E<|Kgx C (Lgq hy12) E Z E E E E E<|gO 3 E<|jC E h13 (fun h14=>?_) fun h17=>gA 7 E<|bK h17 fun q18 hq18 h19=>Kfw 8 [(0,.d (Sl eS l)),(5,.d (Sl eS l)),(6,I (l.length:Int)),(7,I (i1:Int)),(25,B q18)] [] ?_ ?_
   ·refine gA 9 E<|bK h14 fun v15 hv15 h16=>?_
    cases h16
    obtain rfl:=hout10 _ rfl
    cases h5
    exact gA 4 E<|oSi hv15▸gP E E
   ·refine Koo E E (fun hb=>?_) (fun hb=>?_)
    ·have h20:=cT hq18 hb
     exact bK h20 fun x21 hx21 h22=>gO 4 E<|Kom E<|eo_o E (Kgh hΓ (enc:=eS) hx21 E E E E E (fun _=>E))<|gO 4 E<|oSi h22▸⟨⟨E,E,E,E,E,tV⟩,[],E,.inl E⟩
    have h23:=cF hq18 hb
    exact gO 9 E<|oSi h23▸⟨⟨E,E,E,E,E,tV⟩,[],E,.inl E⟩
   refine gO 2 E<|jC E h19 (fun h24=>?_) fun h27=>gA 7 E ?_
   ·refine gA 8 E<|bK h24 fun v25 hv25 h26=>?_
    cases h26
    obtain rfl:=hout10 _ rfl
    cases h5
    exact gA 4 E<|oSi hv25▸gP E E
   cases h27
   exact⟨_,E,⟨⟨E,E,E,Kes E (Ker (nLl hlt hb7)),tV⟩,[],E,.inl E⟩⟩
  subst hgo
  exact gA 6 E<|Kfs E (dF (Int.lt_irrefl _))<|gA 4 E<|⟨_,E,⟨tV,[],E,.inl E⟩⟩
 intro a6 ha
 subst ha
 replace h5:=Kjl h5
 exact gA 7 E<|oSi h5▸gP E E
theorem Lhi{l:List Str}{r:Int}(h:Lbw l=some r):Pure Tryz.prog 40 [.d (Sl eS l)] (I r):=by
 unfold Lbw at h
 refine QP Tryz.func40 E E E<|gA 13 E<|jC E h (fun h1=>?_) fun h2=>bK h2 fun y3 hy3 h4=>gA 5 E<|Kgx C (Lhh hy3) E Z E E E E E<|gO 4 E<|oSi h4▸gP E E
 exact gA 7 E<|oSi h1▸gP E E
theorem Lhj{v_at:Int}{r:Int}(h:Lbx v_at=some r):Pure Tryz.prog 28 [I v_at] (I r):=by
 unfold Lbx at h
 refine QP Tryz.func28 E E E<|bK h fun y1 hy1 h2=>gA 9 E<|Kgx C (Lhd hy1) E Z E E E E E<|gO 3 E<|jC E h2 (fun h3=>?_) fun h4=>gA 8 E<|oSi h4▸gP E E
 exact gA 7 E<|oSi h3▸gP E E
theorem Lhk{vals:List Int}{r:Int}(h:Lby vals=some r):Pure Tryz.prog 23 [.d (Sl (eN .i64) vals)] (I r):=by
 unfold Lby at h
 refine QP Tryz.func23 E E E<|gA 18 E<|bK h fun q4 hq4 h5=>Kgg 6 E fun hb7=>Kjr (R:=fun a6=>q4=.go a6) (fun a6=>[(3,I 0)]) (fun a6=>[]) ?_ ?_
 ·refine gA 1 E<|Kgf vals hq4 (fun i1 s2=>[(3,I 0),(6,.d (Sl (eN .i64) vals)),(7,I (vals.length:Int)),(8,I (i1:Int))]) (fun s2=>[]) ⟨⟨E,E,E,E,tV⟩,[],E,.inl E⟩ (fun i1 x3 s2 y11 hx8 hlt hy9 hout10=>?_) (fun s2 hgo=>?_)
  ·refine gA 6 E<|Kfr E (dT (Int.ofNat_lt.2 hlt))<|gA 6 E<|eo_o E (Kgh hΓ (enc:=(eN .i64)) (Kga hx8) E E E E E (fun _=>E))<|gO 11 E<|jC E hy9 (fun h12=>?_) fun h15=>gA 7 E ?_
   ·refine gA 9 E<|bK h12 fun v13 hv13 h14=>?_
    cases h14
    obtain rfl:=hout10 _ rfl
    cases h5
    exact gA 4 E<|oSi hv13▸gP E E
   cases h15
   exact⟨_,E,⟨⟨E,E,E,Kes E (Ker (nLl hlt hb7)),tV⟩,[],E,.inl E⟩⟩
  subst hgo
  exact gA 6 E<|Kfs E (dF (Int.lt_irrefl _))<|gA 4 E<|⟨_,E,⟨⟨E,tV⟩,[],E,.inl E⟩⟩
 intro a6 ha
 subst ha
 replace h5:=Kjl h5
 exact gA 8 E<|oSi h5▸gP E E
theorem Lhl{k:Nat}{s:Str}{v_at:Int}{r:Int}(h:Lbz k s v_at=some r):Pure Tryz.prog 279 [S s,I v_at] (I r):=by
 unfold Lbz at h
 refine QP Tryz.func279 E E E<|gA 6 E<|bK h fun q4 hq4 h5=>Kjs [(1,I q4)] [] ?_ ?_
 ·refine gA 1 E<|Kgd hq4 (fun s2=>[(0,S s),(1,I s2)]) (fun s2=>[]) ⟨⟨E,E,tV⟩,[],E,.inl E⟩ (fun s2 y10 hy8 hout9=>?_)
  refine gA 8 E<|bK hy8 fun q11 hq11 h12=>Kfw 5 [(0,S s),(1,I s2),(14,B q11)] [] ?_ ?_
  ·refine Koo E E (fun hb=>?_) (fun hb=>?_)
   ·have h13:=cT hq11 hb
    exact bK h13 fun c14 hc14 h15=>gO 2 E<|Kom E<|eo_o E (Kgi hΓ hc14 E E E E)<|bK h15 fun y16 hy16 h17=>Kom E<|Kgx C (Lfb hy16) E Z E E E E E<|gO 2 E<|oSi h17▸⟨⟨E,E,E,tV⟩,[],E,.inl E⟩
   have h18:=cF hq11 hb
   exact gO 6 E<|oSi h18▸⟨⟨E,E,E,tV⟩,[],E,.inl E⟩
  refine gO 2 E<|jC E h12 (fun h19=>?_) fun h20=>gA 4 E ?_
  ·exact gA 9 E<|oSi h19▸⟨_,E,⟨⟨E,E,tV⟩,[],E,.inl E⟩⟩
  cases h20
  obtain rfl:=hout9 _ rfl
  exact⟨⟨E,tV⟩,[],E,.inl E⟩
 exact gA 8 E<|oSi h5▸gP E E
theorem Lhm{k:Nat}{s:Str}{most:Int}{r:Int×Bool}(h:Lca k s most=some r):Pure Tryz.prog 335 [S s,I most] (.tup [I r.1,B r.2]):=by
 unfold Lca at h
 refine QP Tryz.func335 E E E<|bK h fun y1 hy1 h2=>gA 9 E<|Kgx C (Kwm hy1) E Z E E E E E<|gO 9 E<|Kfw 5 [(0,S s),(6,S y1),(19,B (((y1:Str)==[])||(decide (((y1.length:Int):Int)>most))))] [] ?_ ?_
 ·refine Koo E E (fun hb=>?_) (fun hb=>?_)
  ·exact gO 6 E<|⟨⟨E,E,Ket E (or_t hb),tV⟩,[],E,.inl E⟩
  exact gO 6 E<|⟨⟨E,E,Ket E (or_f hb),tV⟩,[],E,.inl E⟩
 refine gO 1 E<|bK h2 fun q3 hq3 h4=>Kfw 8 [(0,S s),(6,S y1),(28,B q3)] [] ?_ ?_
 ·refine Koo E E (fun hb=>?_) (fun hb=>?_)
  ·have h5:=cT hq3 hb
   exact gO 9 E<|oSi h5▸⟨⟨E,E,E,tV⟩,[],E,.inl E⟩
  have h6:=cF hq3 hb
  refine bK h6 fun c7 hc7 h8=>gO 1 E<|Kom E<|eo_o E (Kgi hΓ hc7 E E E E)<|gO 2 E<|Kfw 3 [(0,S s),(6,S y1),(20,B false),(27,B ((((c7.toNat:Int):Int)==48)&&(!((s:Str)==[48]))))] [] ?_ ?_
  ·refine Koo E E (fun hb=>?_) (fun hb=>?_)
   ·exact gO 4 E<|⟨⟨E,E,E,Ket E (Khr hb),tV⟩,[],E,.inl E⟩
   exact gO 4 E<|⟨⟨E,E,E,Ket E (Khs hb),tV⟩,[],E,.inl E⟩
  exact gO 2 E<|oSi h8▸⟨⟨E,E,E,tV⟩,[],E,.inl E⟩
 refine gO 2 E<|jC E h4 (fun h9=>?_) fun h10=>gA 8 E<|bK h10 fun q14 hq14 h15=>Kjr (R:=fun a16=>q14=.inl a16) (fun a16=>[(0,S s)]) (fun a16=>[]) ?_ ?_
 ·exact gA 8 E<|oSi h9▸gP E E
 ·refine gA 1 E<|Kgd hq14 (fun s12=>[(0,S s),(6,S y1),(7,I s12)]) (fun s12=>[]) ⟨⟨E,E,E,tV⟩,[],E,.inl E⟩ (fun s12 y20 hy18 hout19=>?_)
  refine gA 9 E<|jC E hy18 (fun h21=>?_) fun h34=>gA 4 E ?_
  ·refine bK h21 fun c22 hc22 h23=>gA 8 E<|eo_o E (Kgi hΓ hc22 E E E E)<|gO 2 E<|bK h23 fun q24 hq24 h25=>Kfw 5 [(0,S s),(6,S y1),(7,I s12),(44,B q24)] [] ?_ ?_
   ·refine Koo E E (fun hb=>?_) (fun hb=>?_)
    ·have h26:=cT hq24 hb
     exact gO 6 E<|oSi h26▸⟨⟨E,E,E,E,tV⟩,[],E,.inl E⟩
    have h27:=cF hq24 hb
    exact bK h27 fun c28 hc28 h29=>gO 2 E<|Kom E<|eo_o E (Kgi hΓ hc28 E E E E)<|gO 3 E<|oSi h29▸⟨⟨E,E,E,E,tV⟩,[],E,.inl E⟩
   refine gO 2 E<|jC E h25 (fun h30=>?_) fun h33=>gA 8 E<|oSi h33▸⟨_,E,⟨⟨E,E,E,tV⟩,[],E,.inl E⟩⟩
   refine gA 9 E<|bK h30 fun v31 hv31 h32=>?_
   cases h32
   obtain rfl:=hout19 _ rfl
   cases h15
   exact gA 4 E<|oSi hv31▸gP E E
  cases h34
  obtain rfl:=hout19 _ rfl
  exact⟨_,E,⟨⟨E,tV⟩,[],E,.inl E⟩⟩
 intro a16 ha
 subst ha
 replace h15:=Kjk h15
 exact bK h15 fun y35 hy35 h36=>gA 4 E<|Kgx C (Kwr hy35) E Z E E E E E<|gO 8 E<|jD<|gA 2 E<|gl_o E (Kmh hΓ E E E E)<|Kfo hΓ 5 E<|oSi h36▸gP E E
theorem Lhn{k:Nat}{s:Str}{r:Int×Bool}(h:Lcb k s=some r):Pure Tryz.prog 280 [S s] (.tup [I r.1,B r.2]):=by
 unfold Lcb at h
 exact QP Tryz.func280 E E E<|bK h fun y1 hy1 h2=>gA 9 E<|Kgx C (Lhm hy1) E Z E E E E E<|gO 7 E<|oSi h2▸gP E E
theorem Lho{k:Nat}{t:Kym}{s:Str}{r:Kym}(h:Lcc k t s=some r):EC Tryz.prog 213 [.ptr 0 0,S s] [.box 129 [S t.kind,I t.v_at,I t.v_end,S t.name,I t.value.Kind,I t.value.Number,S t.value.Words,I t.value.Version.1,I t.value.Version.2.1,I t.value.Version.2.2.1,I t.value.Version.2.2.2]] fun g hp'=>g=.tup []∧hp'=[.box 129 [S r.kind,I r.v_at,I r.v_end,S r.name,I r.value.Kind,I r.value.Number,S r.value.Words,I r.value.Version.1,I r.value.Version.2.1,I r.value.Version.2.2.1,I r.value.Version.2.2.2]]:=by
 unfold Lcc at h
 refine QN Tryz.func213 E Z<|bK h fun c1 hc1 h2=>gA 14 E<|eo_o E (Kgi hΓ hc1 E E E E)<|bK h2 fun q3 hq3 h4=>gO 3 E<|Kjs [(0,.ptr 0 0),(1,S s),(4,I q3)] [.box 129 [S t.kind,I t.v_at,I t.v_end,S t.name,I t.value.Kind,I t.value.Number,S t.value.Words,I t.value.Version.1,I t.value.Version.2.1,I t.value.Version.2.2.1,I t.value.Version.2.2.2]] ?_ ?_
 ·refine jC E hq3 (fun h5=>?_) fun h6=>gA 1 E<|oSi h6▸⟨⟨E,E,E,tV⟩,[],E,.inl E⟩
  exact gA 5 E<|oSi h5▸⟨⟨E,E,E,tV⟩,[],E,.inl E⟩
 refine bK h4 fun y7 hy7 h8=>gA 6 E<|Kgx C (Lhl hy7) E Z E E E E E<|gO 2 E<|Kpz hΓ E E E E E E E E Z<|Khg [.box 129 [S t.kind,I t.v_at,I y7,S t.name,I t.value.Kind,I t.value.Number,S t.value.Words,I t.value.Version.1,I t.value.Version.2.1,I t.value.Version.2.2.1,I t.value.Version.2.2.2]] E<|gO 3 E<|jD<|bK h8 fun z9 hz9 h10=>gA 9 E<|gl_o E (Kgk hΓ hz9 E E E E E)<|bK h10 fun y11 hy11 h12=>Kgy C (Lhn hy11) E E E E E E<|Kfo hΓ 12 E<|jC E h12 (fun h13=>?_) fun h14=>gA 1 E<|oSi h14▸Khl hΓ [] (.inl E) E E E E (.inl E)
 exact gA 4 E<|Kdq hΓ (gs:=[I 1,I y11.1,S [],I 0,I 0,I 0,I 0]) E E E E E E E<|gO 2 E<|Kpz hΓ E E E E E E E E Z<|Khg [.box 129 [S [118,97,108,117,101],I t.v_at,I y7,S t.name,I t.value.Kind,I t.value.Number,S t.value.Words,I t.value.Version.1,I t.value.Version.2.1,I t.value.Version.2.2.1,I t.value.Version.2.2.2]] E<|gO 2 E<|Kpz hΓ E E E E E E E E Z<|Khg [.box 129 [S [118,97,108,117,101],I t.v_at,I y7,S t.name,I 1,I y11.1,S [],I 0,I 0,I 0,I 0]] E<|gO 1 E<|oSi h13▸Khl hΓ [] (.inl E) E E E E (.inl E)
theorem Lhp{k:Nat}{t:Kym}{s:Str}{r:Kym}(h:Lcd k t s=some r):EC Tryz.prog 214 [.ptr 0 0,S s] [.box 129 [S t.kind,I t.v_at,I t.v_end,S t.name,I t.value.Kind,I t.value.Number,S t.value.Words,I t.value.Version.1,I t.value.Version.2.1,I t.value.Version.2.2.1,I t.value.Version.2.2.2]] fun g hp'=>g=.tup []∧hp'=[.box 129 [S r.kind,I r.v_at,I r.v_end,S r.name,I r.value.Kind,I r.value.Number,S r.value.Words,I r.value.Version.1,I r.value.Version.2.1,I r.value.Version.2.2.1,I r.value.Version.2.2.2]]:=by
 unfold Lcd at h
 refine QN Tryz.func214 E Z<|gA 2 E<|Kgu (t:=0) 5 1 E Z<|gO 12 E<|bK h fun q4 hq4 h5=>Kjr (R:=fun a6=>q4=.inl a6) (fun a6=>[]) (fun a6=>[.box 129 [S t.kind,I t.v_at,I t.v_end,S t.name,I t.value.Kind,I t.value.Number,S t.value.Words,I t.value.Version.1,I t.value.Version.2.1,I t.value.Version.2.2.1,I t.value.Version.2.2.2],rO 5 1 (eN .u8) a6]) ?_ ?_
 ·refine gA 1 E<|Kgd hq4 (fun s2=>[(0,.ptr 0 0),(1,S s),(4,.sl 1 s2.1.length),(5,I s2.2)]) (fun s2=>[.box 129 [S t.kind,I t.v_at,I t.v_end,S t.name,I t.value.Kind,I t.value.Number,S t.value.Words,I t.value.Version.1,I t.value.Version.2.1,I t.value.Version.2.2.1,I t.value.Version.2.2.2],rO 5 1 (eN .u8) s2.1]) ⟨⟨E,E,E,E,tV⟩,[],E,.inl E⟩ (fun s2 y10 hy8 hout9=>?_)
  refine gA 9 E<|Kfq E (fun hb=>?_) (fun hb=>?_)
  ·have h11:=cT hy8 hb
   refine bK h11 fun c12 hc12 h13=>gA 8 E<|eo_o E (Kgi hΓ hc12 E E E E)<|bK h13 fun q14 hq14 h15=>gO 4 E<|Kju (q:=q14) (fun a16=>[(0,.ptr 0 0),(1,S s),(4,.sl 1 s2.1.length),(5,I a16.1),(6,.d (.v (.int .u8 a16.2)))]) (fun a16=>[.box 129 [S t.kind,I t.v_at,I t.v_end,S t.name,I t.value.Kind,I t.value.Number,S t.value.Words,I t.value.Version.1,I t.value.Version.2.1,I t.value.Version.2.2.1,I t.value.Version.2.2.2],rO 5 1 (eN .u8) s2.1]) ?_ ?_
   ·refine gA 8 E<|Kfq E (fun hb=>?_) (fun hb=>?_)
    ·have h17:=cT hq14 hb
     refine bK h17 fun y18 hy18 h19=>gA 8 E<|eo_o E (Khx hΓ hy18 E E E E E E E E E)<|Kdq hΓ (gs:=[I 2,I 0,S y18,I 0,I 0,I 0,I 0]) E E E E E E E<|gO 2 E<|Kpz hΓ E E E E E E E E Z<|Khg [.box 129 [S [118,97,108,117,101],I t.v_at,I t.v_end,S t.name,I t.value.Kind,I t.value.Number,S t.value.Words,I t.value.Version.1,I t.value.Version.2.1,I t.value.Version.2.2.1,I t.value.Version.2.2.2],rO 5 1 (eN .u8) s2.1] E<|gO 2 E<|Kpz hΓ E E E E E E E E Z<|Khg [.box 129 [S [118,97,108,117,101],I t.v_at,I (wi (s2.2+1)),S t.name,I t.value.Kind,I t.value.Number,S t.value.Words,I t.value.Version.1,I t.value.Version.2.1,I t.value.Version.2.2.1,I t.value.Version.2.2.2],rO 5 1 (eN .u8) s2.1] E<|gO 2 E<|Kpz hΓ E E E E E E E E Z<|Khg [.box 129 [S [118,97,108,117,101],I t.v_at,I (wi (s2.2+1)),S t.name,I 2,I 0,S y18,I 0,I 0,I 0,I 0],rO 5 1 (eN .u8) s2.1] E<|gO 4 E<|bK h19 fun v20 hv20 h21=>?_
     cases h21
     cases h15
     refine gA 4 E<|bK hv20 fun v22 hv22 h23=>?_
     cases h23
     obtain rfl:=hout9 _ rfl
     cases h5
     exact gA 3 E<|oSi hv22▸Khl hΓ [_] (.inr E) E E E E (.inr ⟨HB.mk E,E⟩)
    have h24:=cF hq14 hb
    refine gA 5 E<|Kfw 3 [(0,.ptr 0 0),(1,S s),(4,.sl 1 s2.1.length),(5,I s2.2),(6,.d (.v (.int .u8 (c12.toNat:Int)))),(44,B ((decide (((c12.toNat:Int):Int)<32))||(decide (((c12.toNat:Int):Int)>126))))] [.box 129 [S t.kind,I t.v_at,I t.v_end,S t.name,I t.value.Kind,I t.value.Number,S t.value.Words,I t.value.Version.1,I t.value.Version.2.1,I t.value.Version.2.2.1,I t.value.Version.2.2.2],rO 5 1 (eN .u8) s2.1] ?_ ?_
    ·refine Koo E E (fun hb=>?_) (fun hb=>?_)
     ·exact gO 4 E<|⟨⟨E,E,E,E,E,Ket E (or_t hb),tV⟩,[],E,.inl E⟩
     exact gO 4 E<|⟨⟨E,E,E,E,E,Ket E (or_f hb),tV⟩,[],E,.inl E⟩
    refine gO 3 E<|jC E h24 (fun h25=>?_) fun h30=>gA 7 E<|jC E h30 (fun h31=>?_) fun h52=>?_
    ·refine gA 2 E<|bK h25 fun v26 hv26 h27=>?_
     cases h27
     cases h15
     refine gA 4 E<|bK hv26 fun v28 hv28 h29=>?_
     cases h29
     obtain rfl:=hout9 _ rfl
     cases h5
     exact gA 3 E<|oSi hv28▸Khl hΓ [_] (.inr E) E E E E (.inr ⟨HB.mk E,E⟩)
    ·refine gA 15 E<|bK h31 fun q32 hq32 h33=>Kfw 11 [(0,.ptr 0 0),(1,S s),(4,.sl 1 s2.1.length),(5,I (wi (s2.2+1))),(65,B q32)] [.box 129 [S t.kind,I t.v_at,I t.v_end,S t.name,I t.value.Kind,I t.value.Number,S t.value.Words,I t.value.Version.1,I t.value.Version.2.1,I t.value.Version.2.2.1,I t.value.Version.2.2.2],rO 5 1 (eN .u8) s2.1] ?_ ?_
     ·refine Koo E E (fun hb=>?_) (fun hb=>?_)
      ·have h34:=cT hq32 hb
       exact gO 12 E<|oSi h34▸⟨⟨E,E,E,E,E,tV⟩,[],E,.inl E⟩
      have h35:=cF hq32 hb
      refine bK h35 fun c36 hc36 h37=>gO 2 E<|Kom E<|eo_o E (Kgi hΓ hc36 E E E E)<|gO 2 E<|bK h37 fun q38 hq38 h39=>Kfw 5 [(0,.ptr 0 0),(1,S s),(4,.sl 1 s2.1.length),(5,I (wi (s2.2+1))),(54,B false),(64,B q38)] [.box 129 [S t.kind,I t.v_at,I t.v_end,S t.name,I t.value.Kind,I t.value.Number,S t.value.Words,I t.value.Version.1,I t.value.Version.2.1,I t.value.Version.2.2.1,I t.value.Version.2.2.2],rO 5 1 (eN .u8) s2.1] ?_ ?_
      ·refine Koo E E (fun hb=>?_) (fun hb=>?_)
       ·have h40:=cT hq38 hb
        exact bK h40 fun c41 hc41 h42=>gO 2 E<|Kom E<|eo_o E (Kgi hΓ hc41 E E E E)<|gO 3 E<|oSi h42▸⟨⟨E,E,E,E,E,E,tV⟩,[],E,.inl E⟩
       have h43:=cF hq38 hb
       exact gO 6 E<|oSi h43▸⟨⟨E,E,E,E,E,E,tV⟩,[],E,.inl E⟩
      exact gO 2 E<|oSi h39▸⟨⟨E,E,E,E,E,tV⟩,[],E,.inl E⟩
     refine gO 2 E<|jC E h33 (fun h44=>?_) fun h49=>bK h49 fun c50 hc50 h51=>gA 5 E<|eo_o E (Kgi hΓ hc50 E E E E)<|gO 3 E<|oSi h51▸⟨_,E,⟨⟨E,E,E,E,E,tV⟩,[],E,.inl E⟩⟩
     refine gA 3 E<|bK h44 fun v45 hv45 h46=>?_
     cases h46
     cases h15
     refine gA 4 E<|bK hv45 fun v47 hv47 h48=>?_
     cases h48
     obtain rfl:=hout9 _ rfl
     cases h5
     exact gA 3 E<|oSi hv47▸Khl hΓ [_] (.inr E) E E E E (.inr ⟨HB.mk E,E⟩)
    exact gA 2 E<|oSi h52▸⟨_,E,⟨⟨E,E,E,E,E,tV⟩,[],E,.inl E⟩⟩
   intro a16 ha
   subst ha
   replace h15:=Kjk h15
   exact gA 4 E<|Kgr hΓ (enc:=(eN .u8)) [a16.2] E E E E E E E E E E E E Z<|bK h15 fun y53 hy53 h54=>Khh hΓ (enc:=(eN .u8)) hy53 E E E E E E E E E (fun _=>E) E E E E<|gO 9 E<|oSi h54▸⟨_,E,⟨⟨E,E,E,E,tV⟩,[],E,.inl E⟩⟩
  have h55:=cF hy8 hb
  refine gA 4 E ?_
  cases h55
  obtain rfl:=hout9 _ rfl
  exact⟨_,E,⟨tV,[],E,.inl E⟩⟩
 intro a6 ha
 subst ha
 replace h5:=Kjk h5
 exact oSi h5▸Khl hΓ [_] (.inl E) E E E E (.inr ⟨HB.mk E,E⟩)
theorem Lhq{k:Nat}{l:List Str}{r:(List Int)×Bool}(h:Lce k l=some r):Pure Tryz.prog 281 [.d (Sl eS l)] (.tup [.d (Sl (eN .i64) r.1),B r.2]):=by
 unfold Lce at h
 refine QP Tryz.func281 E E E<|gA 8 E<|Kgu (t:=0) 3 1 E Z<|gO 10 E<|bK h fun q4 hq4 h5=>Kgg 9 E fun hb7=>Kjr (R:=fun a6=>q4=.go a6) (fun a6=>[(4,.sl 0 a6.length)]) (fun a6=>[rO 3 1 (eN .i64) a6]) ?_ ?_
 ·refine gA 1 E<|Kgf l hq4 (fun i1 s2=>[(4,.sl 0 s2.length),(9,.d (Sl eS l)),(10,I (l.length:Int)),(11,I (i1:Int))]) (fun s2=>[rO 3 1 (eN .i64) s2]) ⟨⟨E,E,E,E,tV⟩,[],E,.inl E⟩ (fun i1 x3 s2 y11 hx8 hlt hy9 hout10=>?_) (fun s2 hgo=>?_)
  ·refine gA 6 E<|Kfr E (dT (Int.ofNat_lt.2 hlt))<|gA 6 E<|eo_o E (Kgh hΓ (enc:=eS) (Kga hx8) E E E E E (fun _=>E))<|bK hy9 fun y12 hy12 h13=>gO 7 E<|Kgx C (Lhn hy12) E Z E E E E E<|gO 14 E<|jC E h13 (fun h14=>?_) fun h17=>gA 5 E<|Kgr hΓ (enc:=(eN .i64)) [y12.1] E E E E E E E E E E E E Z<|bK h17 fun y18 hy18 h19=>Khh hΓ (enc:=(eN .i64)) hy18 E E E E E E E E E (fun _=>E) E E E E<|gO 8 E ?_
   ·refine gA 10 E<|bK h14 fun v15 hv15 h16=>?_
    cases h16
    obtain rfl:=hout10 _ rfl
    cases h5
    exact gA 4 E<|oSi hv15▸gP E E
   cases h19
   exact⟨_,E,⟨⟨E,E,E,Kes E (Ker (nLl hlt hb7)),tV⟩,[],E,.inl E⟩⟩
  subst hgo
  exact gA 6 E<|Kfs E (dF (Int.lt_irrefl _))<|gA 4 E<|⟨_,E,⟨⟨E,tV⟩,[],E,.inl E⟩⟩
 intro a6 ha
 subst ha
 replace h5:=Kjl h5
 exact gA 5 E<|Khd 0 [2,4,27] _ [.dead] E E E Z<|gO 4 E<|oSi h5▸gP E E
theorem Lhr{k:Nat}{t:Kym}{s:Str}{r:Kym}(h:Lcf k t s=some r):EC Tryz.prog 216 [.ptr 0 0,S s] [.box 129 [S t.kind,I t.v_at,I t.v_end,S t.name,I t.value.Kind,I t.value.Number,S t.value.Words,I t.value.Version.1,I t.value.Version.2.1,I t.value.Version.2.2.1,I t.value.Version.2.2.2]] fun g hp'=>g=.tup []∧hp'=[.box 129 [S r.kind,I r.v_at,I r.v_end,S r.name,I r.value.Kind,I r.value.Number,S r.value.Words,I r.value.Version.1,I r.value.Version.2.1,I r.value.Version.2.2.1,I r.value.Version.2.2.2]]:=by
 unfold Lcf at h
 refine QN Tryz.func216 E Z<|gA 10 E<|Kpz hΓ E E E E E E E E Z<|Khg [.box 129 [S t.kind,I t.v_at,I (wi (t.v_at+1)),S t.name,I t.value.Kind,I t.value.Number,S t.value.Words,I t.value.Version.1,I t.value.Version.2.1,I t.value.Version.2.2.1,I t.value.Version.2.2.2]] E<|gO 3 E<|bK h fun q4 hq4 h5=>Kjs [(0,.ptr 0 0),(1,S s)] [.box 129 [S t.kind,I t.v_at,I q4,S t.name,I t.value.Kind,I t.value.Number,S t.value.Words,I t.value.Version.1,I t.value.Version.2.1,I t.value.Version.2.2.1,I t.value.Version.2.2.2]] ?_ ?_
 ·refine gA 1 E<|Kgd hq4 (fun s2=>[(0,.ptr 0 0),(1,S s)]) (fun s2=>[.box 129 [S t.kind,I t.v_at,I s2,S t.name,I t.value.Kind,I t.value.Number,S t.value.Words,I t.value.Version.1,I t.value.Version.2.1,I t.value.Version.2.2.1,I t.value.Version.2.2.2]]) ⟨⟨E,E,tV⟩,[],E,.inl E⟩ (fun s2 y10 hy8 hout9=>?_)
  refine gA 11 E<|bK hy8 fun q11 hq11 h12=>Kfw 17 [(0,.ptr 0 0),(1,S s),(39,B q11)] [.box 129 [S t.kind,I t.v_at,I s2,S t.name,I t.value.Kind,I t.value.Number,S t.value.Words,I t.value.Version.1,I t.value.Version.2.1,I t.value.Version.2.2.1,I t.value.Version.2.2.2]] ?_ ?_
  ·refine Koo E E (fun hb=>?_) (fun hb=>?_)
   ·have h13:=cT hq11 hb
    refine bK h13 fun c14 hc14 h15=>gO 5 E<|Kom E<|eo_o E (Kgi hΓ hc14 E E E E)<|bK h15 fun y16 hy16 h17=>Kom E<|Kgx C (Lfb hy16) E Z E E E E E<|gO 1 E<|bK h17 fun q18 hq18 h19=>Kfw 8 [(0,.ptr 0 0),(1,S s),(22,B true),(38,B q18)] [.box 129 [S t.kind,I t.v_at,I s2,S t.name,I t.value.Kind,I t.value.Number,S t.value.Words,I t.value.Version.1,I t.value.Version.2.1,I t.value.Version.2.2.1,I t.value.Version.2.2.2]] ?_ ?_
    ·refine Koo E E (fun hb=>?_) (fun hb=>?_)
     ·have h20:=cT hq18 hb
      exact gO 9 E<|oSi h20▸⟨⟨E,E,E,E,tV⟩,[],E,.inl E⟩
     have h21:=cF hq18 hb
     exact bK h21 fun c22 hc22 h23=>gO 5 E<|Kom E<|eo_o E (Kgi hΓ hc22 E E E E)<|gO 3 E<|oSi h23▸⟨⟨E,E,E,E,tV⟩,[],E,.inl E⟩
    exact gO 2 E<|oSi h19▸⟨⟨E,E,E,tV⟩,[],E,.inl E⟩
   have h24:=cF hq11 hb
   exact gO 18 E<|oSi h24▸⟨⟨E,E,E,tV⟩,[],E,.inl E⟩
  refine gO 2 E<|jC E h12 (fun h25=>?_) fun h26=>gA 4 E ?_
  ·exact gA 11 E<|Kpz hΓ E E E E E E E E Z<|Khg [.box 129 [S t.kind,I t.v_at,I (wi (s2+1)),S t.name,I t.value.Kind,I t.value.Number,S t.value.Words,I t.value.Version.1,I t.value.Version.2.1,I t.value.Version.2.2.1,I t.value.Version.2.2.2]] E<|gO 2 E<|oSi h25▸⟨_,E,⟨⟨E,E,tV⟩,[],E,.inl E⟩⟩
  cases h26
  obtain rfl:=hout9 _ rfl
  exact⟨⟨E,E,tV⟩,[],E,.inl E⟩
 refine gA 2 E<|jD<|bK h5 fun z27 hz27 h28=>gA 10 E<|gl_o E (Kgk hΓ hz27 E E E E E)<|bK h28 fun y29 hy29 h30=>Kgy C (Pure.rows (Kwo hy29) E E) E E E E E E<|bK h30 fun y31 hy31 h32=>Kfo hΓ 6 E<|Kgx C (Lhq hy31) E Z E E E E E<|gO 13 E<|Kfw 4 [(0,.ptr 0 0),(5,.d (Sl (eN .i64) y31.1)),(70,B ((!y31.2)||(decide (((y29.length:Int):Int)>4))))] [.box 129 [S t.kind,I t.v_at,I q4,S t.name,I t.value.Kind,I t.value.Number,S t.value.Words,I t.value.Version.1,I t.value.Version.2.1,I t.value.Version.2.2.1,I t.value.Version.2.2.2]] ?_ ?_
 ·refine Koo E E (fun hb=>?_) (fun hb=>?_)
  ·exact gO 5 E<|⟨⟨E,E,Ket E (or_t hb),tV⟩,[],E,.inl E⟩
  exact gO 5 E<|⟨⟨E,E,Ket E (or_f hb),tV⟩,[],E,.inl E⟩
 refine gO 2 E<|jC E h32 (fun h33=>?_) fun h34=>gA 6 E<|Kdq hΓ (gs:=[I 4,I 0,S [],I 0,I 0,I 0,I 0]) E E E E E E E<|gO 2 E<|Kpz hΓ E E E E E E E E Z<|Khg [.box 129 [S [118,97,108,117,101],I t.v_at,I q4,S t.name,I t.value.Kind,I t.value.Number,S t.value.Words,I t.value.Version.1,I t.value.Version.2.1,I t.value.Version.2.2.1,I t.value.Version.2.2.2]] E<|gO 2 E<|Kpz hΓ E E E E E E E E Z<|Khg [.box 129 [S [118,97,108,117,101],I t.v_at,I q4,S t.name,I 4,I 0,S [],I 0,I 0,I 0,I 0]] E<|gO 7 E<|eo_o E (Kmo hΓ (n:=4) (a:=(0:Int)) E E E E E E E)<|gO 1 E<|eo_s Z (nblt.1 E) (Kmp hΓ (pre:=[S [118,97,108,117,101],I t.v_at,I q4,S t.name,I 4,I 0,S []]) (post:=[]) (l:=[0,0,0,0]) (xs:=y31.1) (k:=.i64) (p:=7) (o:=(0:Int).toNat) (n:=4 - (0:Int).toNat) (Kmm (a:=0) (n:=4) E) E E E E E E E E E)<|Khg [.box 129 [S [118,97,108,117,101],I t.v_at,I q4,S t.name,I 4,I 0,S [],I (cpA (0:Int).toNat y31.1 0 0),I (cpA (0:Int).toNat y31.1 1 0),I (cpA (0:Int).toNat y31.1 2 0),I (cpA (0:Int).toNat y31.1 3 0)]] E<|gO 1 E<|oSi h34▸Khl hΓ [] (.inl E) E E E E (.inl E)
 exact gA 2 E<|oSi h33▸Khl hΓ [] (.inr E) E E E E (.inl E)
theorem Lhs{c:Int}{r:Bool}(h:Lcg c=some r):Pure Tryz.prog 282 [.d (.v (.int .u8 c))] (B r):=by
 unfold Lcg at h
 refine QP Tryz.func282 E E E<|gA 10 E<|Kfw 3 [(0,.d (.v (.int .u8 c))),(2,B false),(8,B ((decide ((c:Int)≥97))&&(decide ((c:Int)≤122))))] [] ?_ ?_
 ·refine Koo E E (fun hb=>?_) (fun hb=>?_)
  ·exact gO 4 E<|⟨⟨E,E,Ket E (Khr hb),tV⟩,[],E,.inl E⟩
  exact gO 4 E<|⟨⟨E,E,Ket E (Khs hb),tV⟩,[],E,.inl E⟩
 refine gO 1 E<|bK h fun q1 hq1 h2=>Kfw 3 [(0,.d (.v (.int .u8 c))),(2,B false),(12,B q1)] [] ?_ ?_
 ·refine Koo E E (fun hb=>?_) (fun hb=>?_)
  ·have h3:=cT hq1 hb
   exact gO 4 E<|oSi h3▸⟨⟨E,E,E,tV⟩,[],E,.inl E⟩
  have h4:=cF hq1 hb
  exact bK h4 fun y5 hy5 h6=>gO 1 E<|Kom E<|Kgx C (Lfb hy5) E Z E E E E E<|gO 2 E<|oSi h6▸⟨⟨E,E,E,tV⟩,[],E,.inl E⟩
 refine gO 1 E<|Kfw 3 [(0,.d (.v (.int .u8 c))),(2,B false),(16,B (q1||((c:Int)==45)))] [] ?_ ?_
 ·refine Koo E E (fun hb=>?_) (fun hb=>?_)
  ·exact gO 4 E<|⟨⟨E,E,Ket E (or_t hb),tV⟩,[],E,.inl E⟩
  exact gO 4 E<|⟨⟨E,E,Ket E (or_f hb),tV⟩,[],E,.inl E⟩
 refine gO 1 E<|Kfw 3 [(2,B false),(20,B ((q1||((c:Int)==45))||((c:Int)==95)))] [] ?_ ?_
 ·refine Koo E E (fun hb=>?_) (fun hb=>?_)
  ·exact gO 4 E<|⟨⟨E,Ket E (or_t hb),tV⟩,[],E,.inl E⟩
  exact gO 4 E<|⟨⟨E,Ket E (or_f hb),tV⟩,[],E,.inl E⟩
 exact gO 4 E<|oSi h2▸gP E E
theorem Lht{k:Nat}{t:Kym}{s:Str}{r:Kym}(h:Lch k t s=some r):EC Tryz.prog 217 [.ptr 0 0,S s] [.box 129 [S t.kind,I t.v_at,I t.v_end,S t.name,I t.value.Kind,I t.value.Number,S t.value.Words,I t.value.Version.1,I t.value.Version.2.1,I t.value.Version.2.2.1,I t.value.Version.2.2.2]] fun g hp'=>g=.tup []∧hp'=[.box 129 [S r.kind,I r.v_at,I r.v_end,S r.name,I r.value.Kind,I r.value.Number,S r.value.Words,I r.value.Version.1,I r.value.Version.2.1,I r.value.Version.2.2.1,I r.value.Version.2.2.2]]:=by
 unfold Lch at h
 refine QN Tryz.func217 E Z<|gA 9 E<|Kpz hΓ E E E E E E E E Z<|Khg [.box 129 [S t.kind,I t.v_at,I t.v_at,S t.name,I t.value.Kind,I t.value.Number,S t.value.Words,I t.value.Version.1,I t.value.Version.2.1,I t.value.Version.2.2.1,I t.value.Version.2.2.2]] E<|gO 3 E<|bK h fun q4 hq4 h5=>Kjs [(0,.ptr 0 0),(1,S s)] [.box 129 [S t.kind,I t.v_at,I q4,S t.name,I t.value.Kind,I t.value.Number,S t.value.Words,I t.value.Version.1,I t.value.Version.2.1,I t.value.Version.2.2.1,I t.value.Version.2.2.2]] ?_ ?_
 ·refine gA 1 E<|Kgd hq4 (fun s2=>[(0,.ptr 0 0),(1,S s)]) (fun s2=>[.box 129 [S t.kind,I t.v_at,I s2,S t.name,I t.value.Kind,I t.value.Number,S t.value.Words,I t.value.Version.1,I t.value.Version.2.1,I t.value.Version.2.2.1,I t.value.Version.2.2.2]]) ⟨⟨E,E,tV⟩,[],E,.inl E⟩ (fun s2 y10 hy8 hout9=>?_)
  refine gA 11 E<|bK hy8 fun q11 hq11 h12=>Kfw 8 [(0,.ptr 0 0),(1,S s),(26,B q11)] [.box 129 [S t.kind,I t.v_at,I s2,S t.name,I t.value.Kind,I t.value.Number,S t.value.Words,I t.value.Version.1,I t.value.Version.2.1,I t.value.Version.2.2.1,I t.value.Version.2.2.2]] ?_ ?_
  ·refine Koo E E (fun hb=>?_) (fun hb=>?_)
   ·have h13:=cT hq11 hb
    exact bK h13 fun c14 hc14 h15=>gO 5 E<|Kom E<|eo_o E (Kgi hΓ hc14 E E E E)<|bK h15 fun y16 hy16 h17=>Kom E<|Kgx C (Lhs hy16) E Z E E E E E<|gO 2 E<|oSi h17▸⟨⟨E,E,E,tV⟩,[],E,.inl E⟩
   have h18:=cF hq11 hb
   exact gO 9 E<|oSi h18▸⟨⟨E,E,E,tV⟩,[],E,.inl E⟩
  refine gO 2 E<|jC E h12 (fun h19=>?_) fun h20=>gA 4 E ?_
  ·exact gA 11 E<|Kpz hΓ E E E E E E E E Z<|Khg [.box 129 [S t.kind,I t.v_at,I (wi (s2+1)),S t.name,I t.value.Kind,I t.value.Number,S t.value.Words,I t.value.Version.1,I t.value.Version.2.1,I t.value.Version.2.2.1,I t.value.Version.2.2.2]] E<|gO 2 E<|oSi h19▸⟨_,E,⟨⟨E,E,tV⟩,[],E,.inl E⟩⟩
  cases h20
  obtain rfl:=hout9 _ rfl
  exact⟨⟨E,E,tV⟩,[],E,.inl E⟩
 refine gA 2 E<|Kiv [.box 129 [S t.kind,I t.v_at,I q4,S t.name,I t.value.Kind,I t.value.Number,S t.value.Words,I t.value.Version.1,I t.value.Version.2.1,I t.value.Version.2.2.1,I t.value.Version.2.2.2]] [6,10] [14,17] [14,17] hmix (by kernel_rfl) (by kernel_rfl) ⟨E,tV⟩ Z<|bK h5 fun z21 hz21 h22=>go_E hΓ 11 E<|ge_q E (.inl E) (fun _ _=>Kix (qt_p (Kgk hΓ hz21 E E E E E)))<|go_E hΓ 2 E<|Kiz [.box 129 [S [110,97,109,101],I t.v_at,I q4,S t.name,I t.value.Kind,I t.value.Number,S t.value.Words,I t.value.Version.1,I t.value.Version.2.1,I t.value.Version.2.2.1,I t.value.Version.2.2.2]] E E (Kja E) (Kjf (Kkd hΓ E E E E E E E E E))<|go_E hΓ 2 E<|Kiz [.box 129 [S [110,97,109,101],I t.v_at,I q4,S z21,I t.value.Kind,I t.value.Number,S t.value.Words,I t.value.Version.1,I t.value.Version.2.1,I t.value.Version.2.2.1,I t.value.Version.2.2.2]] E E (Kja E) (Kjf (Kkd hΓ E E E E E E E E E))<|Kiw<|gA 9 E<|Kfw 6 [(0,.ptr 0 0),(61,B (((z21:Str)==[116,114,117,101])||((z21:Str)==[102,97,108,115,101])))] [.box 129 [S [110,97,109,101],I t.v_at,I q4,S z21,I t.value.Kind,I t.value.Number,S t.value.Words,I t.value.Version.1,I t.value.Version.2.1,I t.value.Version.2.2.1,I t.value.Version.2.2.2]] ?_ ?_
 ·refine Koo E E (fun hb=>?_) (fun hb=>?_)
  ·exact gO 7 E<|⟨⟨E,Ket E (or_t hb),tV⟩,[],E,.inl E⟩
  exact gO 7 E<|⟨⟨E,Ket E (or_f hb),tV⟩,[],E,.inl E⟩
 refine gO 2 E<|jC E h22 (fun h23=>?_) fun h26=>gA 1 E<|oSi h26▸Khl hΓ [] (.inl E) E E E E (.inl E)
 refine gA 4 E<|Kdq hΓ (gs:=[I 3,I 0,S [],I 0,I 0,I 0,I 0]) E E E E E E E<|gO 2 E<|Kpz hΓ E E E E E E E E Z<|Khg [.box 129 [S [118,97,108,117,101],I t.v_at,I q4,S z21,I t.value.Kind,I t.value.Number,S t.value.Words,I t.value.Version.1,I t.value.Version.2.1,I t.value.Version.2.2.1,I t.value.Version.2.2.2]] E<|gO 2 E<|Kpz hΓ E E E E E E E E Z<|Khg [.box 129 [S [118,97,108,117,101],I t.v_at,I q4,S z21,I 3,I 0,S [],I 0,I 0,I 0,I 0]] E<|gO 11 E<|jC E h23 (fun h24=>?_) fun h25=>gA 1 E<|oSi h25▸Khl hΓ [] (.inl E) E E E E (.inl E)
 exact gA 5 E<|Kpz hΓ E E E E E E E E Z<|Khg [.box 129 [S [118,97,108,117,101],I t.v_at,I q4,S z21,I 3,I 1,S [],I 0,I 0,I 0,I 0]] E<|gO 1 E<|oSi h24▸Khl hΓ [] (.inl E) E E E E (.inl E)
theorem Lhu{k:Nat}{s:Str}{v_at:Int}{r:Kym}(h:Lci k s v_at=some r):Pure Tryz.prog 161 [S s,I v_at] (.agg [S r.kind,I r.v_at,I r.v_end,S r.name,I r.value.Kind,I r.value.Number,S r.value.Words,I r.value.Version.1,I r.value.Version.2.1,I r.value.Version.2.2.1,I r.value.Version.2.2.2]):=by
 unfold Lci at h
 refine QP Tryz.func161 E E E<|gA 2 E<|Kpu hΓ E E E Z<|gO 5 E<|Kdq hΓ (gs:=[S [98,97,100],I v_at,I 0,S [],I 0,I 0,S [],I 0,I 0,I 0,I 0]) E E E E E E E<|Kpu hΓ E E E Z<|Kpz hΓ E E E E E E E E Z<|Khg [.box 129 [S [],I 0,I 0,S [],I 0,I 0,S [],I 0,I 0,I 0,I 0],.box 129 [S [98,97,100],I v_at,I 0,S [],I 0,I 0,S [],I 0,I 0,I 0,I 0]] E<|gO 11 E<|Kfq E (fun hb=>?_) (fun hb=>?_)
 ·have h1:=cT h hb
  exact gA 3 E<|Kpz hΓ E E E E E E E E Z<|Khg [.box 129 [S [],I 0,I 0,S [],I 0,I 0,S [],I 0,I 0,I 0,I 0],.box 129 [S [101,110,100],I v_at,I 0,S [],I 0,I 0,S [],I 0,I 0,I 0,I 0]] E<|gO 5 E<|Kpz hΓ E E E E E E E E Z<|Khg [.box 129 [S [101,110,100],I v_at,I 0,S [],I 0,I 0,S [],I 0,I 0,I 0,I 0],.box 129 [S [101,110,100],I v_at,I 0,S [],I 0,I 0,S [],I 0,I 0,I 0,I 0]] E<|gO 4 E<|oSi h1▸gP E E
 have h2:=cF h hb
 refine gA 5 E<|Kgr hΓ (enc:=eS) [[61,61],[33,61],[60,61],[62,61],[38,38],[124,124],[60],[62],[33],[40],[41]] E E E E E E E E E E E E Z<|gO 4 E<|bK h2 fun q6 hq6 h7=>Kgg 17 E fun hb9=>Kjr (R:=fun a8=>q6=.go a8) (fun a8=>[(0,S s),(1,I v_at),(4,.ptr 0 0),(5,.ptr 1 0)]) (fun a8=>[.box 129 [S [],I 0,I 0,S [],I 0,I 0,S [],I 0,I 0,I 0,I 0],.box 129 [S [98,97,100],I v_at,I 0,S [],I 0,I 0,S [],I 0,I 0,I 0,I 0]]) ?_ ?_
 ·refine gA 1 E<|Kgf [[61,61],[33,61],[60,61],[62,61],[38,38],[124,124],[60],[62],[33],[40],[41]] hq6 (fun i3 s4=>[(0,S s),(1,I v_at),(4,.ptr 0 0),(5,.ptr 1 0),(17,.d (Sl eS [[61,61],[33,61],[60,61],[62,61],[38,38],[124,124],[60],[62],[33],[40],[41]])),(18,I ([[61,61],[33,61],[60,61],[62,61],[38,38],[124,124],[60],[62],[33],[40],[41]].length:Int)),(19,I (i3:Int))]) (fun s4=>[.box 129 [S [],I 0,I 0,S [],I 0,I 0,S [],I 0,I 0,I 0,I 0],.box 129 [S [98,97,100],I v_at,I 0,S [],I 0,I 0,S [],I 0,I 0,I 0,I 0]]) ⟨⟨E,E,E,E,E,E,E,tV⟩,[],E,.inl E⟩ (fun i3 x5 s4 y13 hx10 hlt hy11 hout12=>?_) (fun s4 hgo=>?_)
  ·refine gA 6 E<|Kfr E (dT (Int.ofNat_lt.2 hlt))<|gA 6 E<|eo_o E (Kgh hΓ (enc:=eS) (Kga hx10) E E E E E (fun _=>E))<|bK hy11 fun z14 hz14 h15=>gO 8 E<|eo_o E (Kgk hΓ hz14 E E E E E)<|bK h15 fun y16 hy16 h17=>gO 1 E<|Kgx C (Kwl hy16) E Z E E E E E<|gO 2 E<|jC E h17 (fun h18=>?_) fun h21=>gA 7 E ?_
   ·refine gA 8 E<|Kpz hΓ E E E E E E E E Z<|Khg [.box 129 [S [],I 0,I 0,S [],I 0,I 0,S [],I 0,I 0,I 0,I 0],.box 129 [S x5,I v_at,I 0,S [],I 0,I 0,S [],I 0,I 0,I 0,I 0]] E<|gO 1 E<|Kpz hΓ E E E E E E E E Z<|Khg [.box 129 [S [],I 0,I 0,S [],I 0,I 0,S [],I 0,I 0,I 0,I 0],.box 129 [S x5,I v_at,I (wi (v_at+(x5.length:Int))),S [],I 0,I 0,S [],I 0,I 0,I 0,I 0]] E<|gO 5 E<|Kpz hΓ E E E E E E E E Z<|Khg [.box 129 [S x5,I v_at,I (wi (v_at+(x5.length:Int))),S [],I 0,I 0,S [],I 0,I 0,I 0,I 0],.box 129 [S x5,I v_at,I (wi (v_at+(x5.length:Int))),S [],I 0,I 0,S [],I 0,I 0,I 0,I 0]] E<|gO 5 E<|bK h18 fun v19 hv19 h20=>?_
    cases h20
    obtain rfl:=hout12 _ rfl
    cases h7
    exact gA 4 E<|oSi hv19▸gP E E
   cases h21
   exact⟨_,E,⟨⟨E,E,E,E,E,E,Kes E (Ker (nLl hlt hb9)),tV⟩,[],E,.inl E⟩⟩
  subst hgo
  exact gA 6 E<|Kfs E (dF (Int.lt_irrefl _))<|gA 4 E<|⟨_,E,⟨⟨E,E,E,E,tV⟩,[],E,.inl E⟩⟩
 intro a8 ha
 subst ha
 replace h7:=Kjl h7
 refine bK h7 fun c22 hc22 h23=>gA 6 E<|eo_o E (Kgi hΓ hc22 E E E E)<|bK h23 fun q24 hq24 h25=>gO 3 E<|Kjs [(4,.ptr 0 0),(5,.ptr 1 0)] [.box 129 [S [],I 0,I 0,S [],I 0,I 0,S [],I 0,I 0,I 0,I 0],.box 129 [S q24.kind,I q24.v_at,I q24.v_end,S q24.name,I q24.value.Kind,I q24.value.Number,S q24.value.Words,I q24.value.Version.1,I q24.value.Version.2.1,I q24.value.Version.2.2.1,I q24.value.Version.2.2.2]] ?_ ?_
 ·refine bK hq24 fun y26 hy26 h27=>gA 4 E<|Kgx C (Lfb hy26) E Z E E E E E<|gO 1 E<|bK h27 fun q28 hq28 h29=>Kfw 17 [(0,S s),(1,I v_at),(4,.ptr 0 0),(5,.ptr 1 0),(8,.d (.v (.int .u8 (c22.toNat:Int)))),(60,B q28)] [.box 129 [S [],I 0,I 0,S [],I 0,I 0,S [],I 0,I 0,I 0,I 0],.box 129 [S [98,97,100],I v_at,I 0,S [],I 0,I 0,S [],I 0,I 0,I 0,I 0]] ?_ ?_
  ·refine Koo E E (fun hb=>?_) (fun hb=>?_)
   ·have h30:=cT hq28 hb
    exact gO 18 E<|oSi h30▸⟨⟨E,E,E,E,E,E,tV⟩,[],E,.inl E⟩
   have h31:=cF hq28 hb
   refine gO 3 E<|Kfw 6 [(0,S s),(1,I v_at),(4,.ptr 0 0),(5,.ptr 1 0),(8,.d (.v (.int .u8 (c22.toNat:Int)))),(43,B false),(52,B ((((c22.toNat:Int):Int)==45)&&(decide ((wi (v_at+1):Int)<(s.length:Int)))))] [.box 129 [S [],I 0,I 0,S [],I 0,I 0,S [],I 0,I 0,I 0,I 0],.box 129 [S [98,97,100],I v_at,I 0,S [],I 0,I 0,S [],I 0,I 0,I 0,I 0]] ?_ ?_
   ·refine Koo E E (fun hb=>?_) (fun hb=>?_)
    ·exact gO 7 E<|⟨⟨E,E,E,E,E,E,Ket E (Khr hb),tV⟩,[],E,.inl E⟩
    exact gO 7 E<|⟨⟨E,E,E,E,E,E,Ket E (Khs hb),tV⟩,[],E,.inl E⟩
   refine gO 1 E<|bK h31 fun q32 hq32 h33=>Kfw 6 [(0,S s),(1,I v_at),(4,.ptr 0 0),(5,.ptr 1 0),(8,.d (.v (.int .u8 (c22.toNat:Int)))),(43,B false),(59,B q32)] [.box 129 [S [],I 0,I 0,S [],I 0,I 0,S [],I 0,I 0,I 0,I 0],.box 129 [S [98,97,100],I v_at,I 0,S [],I 0,I 0,S [],I 0,I 0,I 0,I 0]] ?_ ?_
   ·refine Koo E E (fun hb=>?_) (fun hb=>?_)
    ·have h34:=cT hq32 hb
     exact bK h34 fun c35 hc35 h36=>gO 3 E<|Kom E<|eo_o E (Kgi hΓ hc35 E E E E)<|bK h36 fun y37 hy37 h38=>Kom E<|Kgx C (Lfb hy37) E Z E E E E E<|gO 2 E<|oSi h38▸⟨⟨E,E,E,E,E,E,E,tV⟩,[],E,.inl E⟩
    have h39:=cF hq32 hb
    exact gO 7 E<|oSi h39▸⟨⟨E,E,E,E,E,E,E,tV⟩,[],E,.inl E⟩
   exact gO 2 E<|oSi h33▸⟨⟨E,E,E,E,E,E,tV⟩,[],E,.inl E⟩
  refine gO 3 E<|Kfq E (fun hb=>?_) (fun hb=>?_)
  ·have h40:=cT h29 hb
   exact bK h40 fun y41 hy41 h42=>gA 2 E<|Kgw [1] (.tup []) [.box 129 [S [],I 0,I 0,S [],I 0,I 0,S [],I 0,I 0,I 0,I 0],.box 129 [S y41.kind,I y41.v_at,I y41.v_end,S y41.name,I y41.value.Kind,I y41.value.Number,S y41.value.Words,I y41.value.Version.1,I y41.value.Version.2.1,I y41.value.Version.2.2.1,I y41.value.Version.2.2.2]] C (Lho hy41) E Z E E E E E E E E E E<|gO 2 E<|oSi h42▸⟨⟨E,E,tV⟩,[],E,.inl E⟩
  have h43:=cF h29 hb
  refine gA 7 E<|Kfq E (fun hb=>?_) (fun hb=>?_)
  ·have h44:=cT h43 hb
   exact bK h44 fun y45 hy45 h46=>gA 2 E<|Kgw [1] (.tup []) [.box 129 [S [],I 0,I 0,S [],I 0,I 0,S [],I 0,I 0,I 0,I 0],.box 129 [S y45.kind,I y45.v_at,I y45.v_end,S y45.name,I y45.value.Kind,I y45.value.Number,S y45.value.Words,I y45.value.Version.1,I y45.value.Version.2.1,I y45.value.Version.2.2.1,I y45.value.Version.2.2.2]] C (Lhp hy45) E Z E E E E E E E E E E<|gO 2 E<|oSi h46▸⟨⟨E,E,tV⟩,[],E,.inl E⟩
  have h47:=cF h43 hb
  refine bK h47 fun z48 hz48 h49=>gA 4 E<|eo_o E (Kgk hΓ hz48 E E E E E)<|bK h49 fun y50 hy50 h51=>Kgx C (Lfc hy50) E Z E E E E E<|gO 3 E<|Kfq E (fun hb=>?_) (fun hb=>?_)
  ·have h52:=cT h51 hb
   exact bK h52 fun y53 hy53 h54=>gA 2 E<|Kgw [1] (.tup []) [.box 129 [S [],I 0,I 0,S [],I 0,I 0,S [],I 0,I 0,I 0,I 0],.box 129 [S y53.kind,I y53.v_at,I y53.v_end,S y53.name,I y53.value.Kind,I y53.value.Number,S y53.value.Words,I y53.value.Version.1,I y53.value.Version.2.1,I y53.value.Version.2.2.1,I y53.value.Version.2.2.2]] C (Lhr hy53) E Z E E E E E E E E E E<|gO 2 E<|oSi h54▸⟨⟨E,E,tV⟩,[],E,.inl E⟩
  have h55:=cF h51 hb
  refine gA 5 E<|Kfw 3 [(0,S s),(4,.ptr 0 0),(5,.ptr 1 0),(81,B ((decide (((c22.toNat:Int):Int)≥97))&&(decide (((c22.toNat:Int):Int)≤122))))] [.box 129 [S [],I 0,I 0,S [],I 0,I 0,S [],I 0,I 0,I 0,I 0],.box 129 [S [98,97,100],I v_at,I 0,S [],I 0,I 0,S [],I 0,I 0,I 0,I 0]] ?_ ?_
  ·refine Koo E E (fun hb=>?_) (fun hb=>?_)
   ·exact gO 4 E<|⟨⟨E,E,E,Ket E (Khr hb),tV⟩,[],E,.inl E⟩
   exact gO 4 E<|⟨⟨E,E,E,Ket E (Khs hb),tV⟩,[],E,.inl E⟩
  refine gO 3 E<|jC E h55 (fun h56=>?_) fun h59=>gA 2 E<|oSi h59▸⟨⟨E,E,tV⟩,[],E,.inl E⟩
  exact bK h56 fun y57 hy57 h58=>gA 2 E<|Kgw [1] (.tup []) [.box 129 [S [],I 0,I 0,S [],I 0,I 0,S [],I 0,I 0,I 0,I 0],.box 129 [S y57.kind,I y57.v_at,I y57.v_end,S y57.name,I y57.value.Kind,I y57.value.Number,S y57.value.Words,I y57.value.Version.1,I y57.value.Version.2.1,I y57.value.Version.2.2.1,I y57.value.Version.2.2.2]] C (Lht hy57) E Z E E E E E E E E E E<|gO 2 E<|oSi h58▸⟨⟨E,E,tV⟩,[],E,.inl E⟩
 exact gA 4 E<|Kpz hΓ E E E E E E E E Z<|Khg [.box 129 [S q24.kind,I q24.v_at,I q24.v_end,S q24.name,I q24.value.Kind,I q24.value.Number,S q24.value.Words,I q24.value.Version.1,I q24.value.Version.2.1,I q24.value.Version.2.2.1,I q24.value.Version.2.2.2],.box 129 [S q24.kind,I q24.v_at,I q24.v_end,S q24.name,I q24.value.Kind,I q24.value.Number,S q24.value.Words,I q24.value.Version.1,I q24.value.Version.2.1,I q24.value.Version.2.2.1,I q24.value.Version.2.2.2]] E<|gO 3 E<|oSi h25▸gP E E
theorem Lhv{k:Nat}{p:Kyn}{r:Kyn}(h:Lcj k p=some r):EC Tryz.prog 81 [.ptr 0 0] [.box 131 [S p.s,S p.tok.kind,I p.tok.v_at,I p.tok.v_end,S p.tok.name,I p.tok.value.Kind,I p.tok.value.Number,S p.tok.value.Words,I p.tok.value.Version.1,I p.tok.value.Version.2.1,I p.tok.value.Version.2.2.1,I p.tok.value.Version.2.2.2,B p.bad,I p.v_at]] fun g hp'=>g=.tup []∧hp'=[.box 131 [S r.s,S r.tok.kind,I r.tok.v_at,I r.tok.v_end,S r.tok.name,I r.tok.value.Kind,I r.tok.value.Number,S r.tok.value.Words,I r.tok.value.Version.1,I r.tok.value.Version.2.1,I r.tok.value.Version.2.2.1,I r.tok.value.Version.2.2.2,B r.bad,I r.v_at]]:=by
 unfold Lcj at h
 refine QN Tryz.func81 E Z<|gA 11 E<|bK h fun q4 hq4 h5=>Kjs [(0,.ptr 0 0),(2,I q4)] [.box 131 [S p.s,S p.tok.kind,I p.tok.v_at,I p.tok.v_end,S p.tok.name,I p.tok.value.Kind,I p.tok.value.Number,S p.tok.value.Words,I p.tok.value.Version.1,I p.tok.value.Version.2.1,I p.tok.value.Version.2.2.1,I p.tok.value.Version.2.2.2,B p.bad,I p.v_at]] ?_ ?_
 ·refine gA 1 E<|Kgd hq4 (fun s2=>[(0,.ptr 0 0),(2,I s2)]) (fun s2=>[.box 131 [S p.s,S p.tok.kind,I p.tok.v_at,I p.tok.v_end,S p.tok.name,I p.tok.value.Kind,I p.tok.value.Number,S p.tok.value.Words,I p.tok.value.Version.1,I p.tok.value.Version.2.1,I p.tok.value.Version.2.2.1,I p.tok.value.Version.2.2.2,B p.bad,I p.v_at]]) ⟨⟨E,E,tV⟩,[],E,.inl E⟩ (fun s2 y10 hy8 hout9=>?_)
  refine gA 11 E<|bK hy8 fun q11 hq11 h12=>Kfw 17 [(0,.ptr 0 0),(2,I s2),(32,B q11)] [.box 131 [S p.s,S p.tok.kind,I p.tok.v_at,I p.tok.v_end,S p.tok.name,I p.tok.value.Kind,I p.tok.value.Number,S p.tok.value.Words,I p.tok.value.Version.1,I p.tok.value.Version.2.1,I p.tok.value.Version.2.2.1,I p.tok.value.Version.2.2.2,B p.bad,I p.v_at]] ?_ ?_
  ·refine Koo E E (fun hb=>?_) (fun hb=>?_)
   ·have h13:=cT hq11 hb
    refine bK h13 fun c14 hc14 h15=>gO 5 E<|Kom E<|eo_o E (Kgi hΓ hc14 E E E E)<|gO 2 E<|bK h15 fun q16 hq16 h17=>Kfw 8 [(0,.ptr 0 0),(2,I s2),(15,B true),(31,B q16)] [.box 131 [S p.s,S p.tok.kind,I p.tok.v_at,I p.tok.v_end,S p.tok.name,I p.tok.value.Kind,I p.tok.value.Number,S p.tok.value.Words,I p.tok.value.Version.1,I p.tok.value.Version.2.1,I p.tok.value.Version.2.2.1,I p.tok.value.Version.2.2.2,B p.bad,I p.v_at]] ?_ ?_
    ·refine Koo E E (fun hb=>?_) (fun hb=>?_)
     ·have h18:=cT hq16 hb
      exact gO 9 E<|oSi h18▸⟨⟨E,E,E,E,tV⟩,[],E,.inl E⟩
     have h19:=cF hq16 hb
     exact bK h19 fun c20 hc20 h21=>gO 5 E<|Kom E<|eo_o E (Kgi hΓ hc20 E E E E)<|gO 3 E<|oSi h21▸⟨⟨E,E,E,E,tV⟩,[],E,.inl E⟩
    exact gO 2 E<|oSi h17▸⟨⟨E,E,E,tV⟩,[],E,.inl E⟩
   have h22:=cF hq11 hb
   exact gO 18 E<|oSi h22▸⟨⟨E,E,E,tV⟩,[],E,.inl E⟩
  refine gO 2 E<|jC E h12 (fun h23=>?_) fun h24=>gA 4 E ?_
  ·exact gA 9 E<|oSi h23▸⟨_,E,⟨⟨E,E,tV⟩,[],E,.inl E⟩⟩
  cases h24
  obtain rfl:=hout9 _ rfl
  exact⟨⟨E,E,tV⟩,[],E,.inl E⟩
 exact bK h5 fun y25 hy25 h26=>gA 8 E<|Kgx C (Lhu hy25) E Z E E E E E<|gO 2 E<|Kpz hΓ E E E E E E E E Z<|Khg [.box 131 [S p.s,S y25.kind,I y25.v_at,I y25.v_end,S y25.name,I y25.value.Kind,I y25.value.Number,S y25.value.Words,I y25.value.Version.1,I y25.value.Version.2.1,I y25.value.Version.2.2.1,I y25.value.Version.2.2.2,B p.bad,I p.v_at]] E<|gO 1 E<|oSi h26▸Khl hΓ [] (.inl E) E E E E (.inl E)
theorem Lhw{p:Kyn}{r:Kye×Kyn}(h:Lck p=some r):EC Tryz.prog 83 [.ptr 0 0] [.box 131 [S p.s,S p.tok.kind,I p.tok.v_at,I p.tok.v_end,S p.tok.name,I p.tok.value.Kind,I p.tok.value.Number,S p.tok.value.Words,I p.tok.value.Version.1,I p.tok.value.Version.2.1,I p.tok.value.Version.2.2.1,I p.tok.value.Version.2.2.2,B p.bad,I p.v_at]] fun g hp'=>g=.agg [I r.1.Kind,S r.1.Name,S r.1.Op,I r.1.Value.Kind,I r.1.Value.Number,S r.1.Value.Words,I r.1.Value.Version.1,I r.1.Value.Version.2.1,I r.1.Value.Version.2.2.1,I r.1.Value.Version.2.2.2,.d (.ro r.1.Kids.n r.1.Kids.xs)]∧hp'=[.box 131 [S r.2.s,S r.2.tok.kind,I r.2.tok.v_at,I r.2.tok.v_end,S r.2.tok.name,I r.2.tok.value.Kind,I r.2.tok.value.Number,S r.2.tok.value.Words,I r.2.tok.value.Version.1,I r.2.tok.value.Version.2.1,I r.2.tok.value.Version.2.2.1,I r.2.tok.value.Version.2.2.2,B r.2.bad,I r.2.v_at]]:=by
 unfold Lck at h
 refine QN Tryz.func83 E Z<|gA 2 E<|Kpu hΓ E E E Z<|bK h fun q1 hq1 h2=>gO 12 E<|Kjs [(2,.ptr 1 0)] [.box 131 [S q1.s,S q1.tok.kind,I q1.tok.v_at,I q1.tok.v_end,S q1.tok.name,I q1.tok.value.Kind,I q1.tok.value.Number,S q1.tok.value.Words,I q1.tok.value.Version.1,I q1.tok.value.Version.2.1,I q1.tok.value.Version.2.2.1,I q1.tok.value.Version.2.2.2,B q1.bad,I q1.v_at],.box 32 [I 0,S [],S [],I 0,I 0,S [],I 0,I 0,I 0,I 0,.d (.ro (KD.mk 0 []).n (KD.mk 0 []).xs)]] ?_ ?_
 ·refine jC E hq1 (fun h3=>?_) fun h4=>gA 1 E<|oSi h4▸⟨⟨E,tV⟩,[],E,.inl E⟩
  exact gA 10 E<|Kpz hΓ E E E E E E E E Z<|Khg [.box 131 [S p.s,S p.tok.kind,I p.tok.v_at,I p.tok.v_end,S p.tok.name,I p.tok.value.Kind,I p.tok.value.Number,S p.tok.value.Words,I p.tok.value.Version.1,I p.tok.value.Version.2.1,I p.tok.value.Version.2.2.1,I p.tok.value.Version.2.2.2,B true,I p.v_at],.box 32 [I 0,S [],S [],I 0,I 0,S [],I 0,I 0,I 0,I 0,.d (.ro (KD.mk 0 []).n (KD.mk 0 []).xs)]] E<|gO 2 E<|Kpz hΓ E E E E E E E E Z<|Khg [.box 131 [S p.s,S p.tok.kind,I p.tok.v_at,I p.tok.v_end,S p.tok.name,I p.tok.value.Kind,I p.tok.value.Number,S p.tok.value.Words,I p.tok.value.Version.1,I p.tok.value.Version.2.1,I p.tok.value.Version.2.2.1,I p.tok.value.Version.2.2.2,B true,I p.tok.v_at],.box 32 [I 0,S [],S [],I 0,I 0,S [],I 0,I 0,I 0,I 0,.d (.ro (KD.mk 0 []).n (KD.mk 0 []).xs)]] E<|gO 1 E<|oSi h3▸⟨⟨E,tV⟩,[],E,.inl E⟩
 exact gA 3 E<|Kdq hΓ (gs:=[I 0,S [],S [],I 0,I 0,S [],I 0,I 0,I 0,I 0,.d (.ro (KD.mk 0 []).n (KD.mk 0 []).xs)]) E E E E E E E<|Kpz hΓ E E E E E E E E Z<|Khg [.box 131 [S q1.s,S q1.tok.kind,I q1.tok.v_at,I q1.tok.v_end,S q1.tok.name,I q1.tok.value.Kind,I q1.tok.value.Number,S q1.tok.value.Words,I q1.tok.value.Version.1,I q1.tok.value.Version.2.1,I q1.tok.value.Version.2.2.1,I q1.tok.value.Version.2.2.2,B q1.bad,I q1.v_at],.box 32 [I 0,S [],S [],I 0,I 0,S [],I 0,I 0,I 0,I 0,.d (.ro (KD.mk 0 []).n (KD.mk 0 []).xs)]] E<|gO 3 E<|oSi h2▸Khl hΓ [_] (.inr E) E E E E (.inr ⟨HB.mk E,E⟩)
end Go.Proofs.YthhdojhbohfmnaaGreatDoor
