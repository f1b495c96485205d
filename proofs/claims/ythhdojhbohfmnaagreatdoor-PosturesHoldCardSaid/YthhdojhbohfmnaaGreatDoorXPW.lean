import Derived.Test.YthhdojhbohfmnaaGreatDoorXPM
import Derived.Test.YthhdojhbohfmnaaGreatDoorGt
import Derived.Test.YthhdojhbohfmnaaGreatDoorStr
import Derived.Test.YthhdojhbohfmnaaGreatDoorStr9
import Derived.Test.YthhdojhbohfmnaaGreatDoorStrC
import Derived.Test.YthhdojhbohfmnaaGreatDoorStrI
import Derived.Test.YthhdojhbohfmnaaGreatDoorGk64
import Derived.Test.YthhdojhbohfmnaaGreatDoorBk5
import Derived.Test.YthhdojhbohfmnaaGreatDoorXPW2
set_option maxHeartbeats 8000000
set_option linter.all false
set_option maxRecDepth 100000
namespace Go.Proofs.YthhdojhbohfmnaaGreatDoor
open Go.Gk
theorem Ldi{k:Nat}{p:Kyn}{r:Kye×Kyn}(h:Lcl k p=some r):EC Tryz.prog 283 [.ptr 0 0] [.box 131 [S p.s,S p.tok.kind,I p.tok.v_at,I p.tok.v_end,S p.tok.name,I p.tok.value.Kind,I p.tok.value.Number,S p.tok.value.Words,I p.tok.value.Version.1,I p.tok.value.Version.2.1,I p.tok.value.Version.2.2.1,I p.tok.value.Version.2.2.2,B p.bad,I p.v_at]] fun g hp'=>g=.agg [I r.1.Kind,S r.1.Name,S r.1.Op,I r.1.Value.Kind,I r.1.Value.Number,S r.1.Value.Words,I r.1.Value.Version.1,I r.1.Value.Version.2.1,I r.1.Value.Version.2.2.1,I r.1.Value.Version.2.2.2,.d (.ro r.1.Kids.n r.1.Kids.xs)]∧hp'=[.box 131 [S r.2.s,S r.2.tok.kind,I r.2.tok.v_at,I r.2.tok.v_end,S r.2.tok.name,I r.2.tok.value.Kind,I r.2.tok.value.Number,S r.2.tok.value.Words,I r.2.tok.value.Version.1,I r.2.tok.value.Version.2.1,I r.2.tok.value.Version.2.2.1,I r.2.tok.value.Version.2.2.2,B r.2.bad,I r.2.v_at]]:=by
 unfold Lcl at h
 refine QN Tryz.func283 E Z<|gA 2 E<|Kpu hΓ E E E Z<|gO 9 E<|Kdq hΓ (gs:=[I 3,I 1,S [],I 0,I 0,I 0,I 0]) E E E E E E E<|Kdq hΓ (gs:=[I 1,S p.tok.name,S [61,61],I 3,I 1,S [],I 0,I 0,I 0,I 0,.d (.ro (KD.mk 0 []).n (KD.mk 0 []).xs)]) E E E E E E E<|Kpu hΓ E E E Z<|Kpz hΓ E E E E E E E E Z<|Khg [.box 131 [S p.s,S p.tok.kind,I p.tok.v_at,I p.tok.v_end,S p.tok.name,I p.tok.value.Kind,I p.tok.value.Number,S p.tok.value.Words,I p.tok.value.Version.1,I p.tok.value.Version.2.1,I p.tok.value.Version.2.2.1,I p.tok.value.Version.2.2.2,B p.bad,I p.v_at],.box 32 [I 0,S [],S [],I 0,I 0,S [],I 0,I 0,I 0,I 0,.d (.ro (KD.mk 0 []).n (KD.mk 0 []).xs)],.box 32 [I 1,S p.tok.name,S [61,61],I 3,I 1,S [],I 0,I 0,I 0,I 0,.d (.ro (KD.mk 0 []).n (KD.mk 0 []).xs)]] E<|bK h fun y1 hy1 h2=>gO 5 E<|Kgw [0] (.tup []) [.box 131 [S y1.s,S y1.tok.kind,I y1.tok.v_at,I y1.tok.v_end,S y1.tok.name,I y1.tok.value.Kind,I y1.tok.value.Number,S y1.tok.value.Words,I y1.tok.value.Version.1,I y1.tok.value.Version.2.1,I y1.tok.value.Version.2.2.1,I y1.tok.value.Version.2.2.2,B y1.bad,I y1.v_at],.box 32 [I 0,S [],S [],I 0,I 0,S [],I 0,I 0,I 0,I 0,.d (.ro (KD.mk 0 []).n (KD.mk 0 []).xs)],.box 32 [I 1,S p.tok.name,S [61,61],I 3,I 1,S [],I 0,I 0,I 0,I 0,.d (.ro (KD.mk 0 []).n (KD.mk 0 []).xs)]] C (Lhv hy1) E Z E E E E E E E E E E<|bK h2 fun y3 hy3 h4=>gO 10 E<|Kgx C (Lff hy3) E Z E E E E E<|gO 3 E<|jC E h4 (fun h5=>?_) fun h6=>gA 10 E<|Kpz hΓ E E E E E E E E Z<|Khg [.box 131 [S y1.s,S y1.tok.kind,I y1.tok.v_at,I y1.tok.v_end,S y1.tok.name,I y1.tok.value.Kind,I y1.tok.value.Number,S y1.tok.value.Words,I y1.tok.value.Version.1,I y1.tok.value.Version.2.1,I y1.tok.value.Version.2.2.1,I y1.tok.value.Version.2.2.2,B y1.bad,I y1.v_at],.box 32 [I 0,S [],S [],I 0,I 0,S [],I 0,I 0,I 0,I 0,.d (.ro (KD.mk 0 []).n (KD.mk 0 []).xs)],.box 32 [I 1,S p.tok.name,S y1.tok.kind,I 3,I 1,S [],I 0,I 0,I 0,I 0,.d (.ro (KD.mk 0 []).n (KD.mk 0 []).xs)]] E<|bK h6 fun y7 hy7 h8=>gO 5 E<|Kgw [0] (.tup []) [.box 131 [S y7.s,S y7.tok.kind,I y7.tok.v_at,I y7.tok.v_end,S y7.tok.name,I y7.tok.value.Kind,I y7.tok.value.Number,S y7.tok.value.Words,I y7.tok.value.Version.1,I y7.tok.value.Version.2.1,I y7.tok.value.Version.2.2.1,I y7.tok.value.Version.2.2.2,B y7.bad,I y7.v_at],.box 32 [I 0,S [],S [],I 0,I 0,S [],I 0,I 0,I 0,I 0,.d (.ro (KD.mk 0 []).n (KD.mk 0 []).xs)],.box 32 [I 1,S p.tok.name,S y1.tok.kind,I 3,I 1,S [],I 0,I 0,I 0,I 0,.d (.ro (KD.mk 0 []).n (KD.mk 0 []).xs)]] C (Lhv hy7) E Z E E E E E E E E E E<|gO 13 E<|jC E h8 (fun h9=>?_) fun h12=>?_
 ·exact gA 3 E<|Kpz hΓ E E E E E E E E Z<|Khg [.box 131 [S y1.s,S y1.tok.kind,I y1.tok.v_at,I y1.tok.v_end,S y1.tok.name,I y1.tok.value.Kind,I y1.tok.value.Number,S y1.tok.value.Words,I y1.tok.value.Version.1,I y1.tok.value.Version.2.1,I y1.tok.value.Version.2.2.1,I y1.tok.value.Version.2.2.2,B y1.bad,I y1.v_at],.box 32 [I 1,S p.tok.name,S [61,61],I 3,I 1,S [],I 0,I 0,I 0,I 0,.d (.ro (KD.mk 0 []).n (KD.mk 0 []).xs)],.box 32 [I 1,S p.tok.name,S [61,61],I 3,I 1,S [],I 0,I 0,I 0,I 0,.d (.ro (KD.mk 0 []).n (KD.mk 0 []).xs)]] E<|gO 4 E<|oSi h5▸Khl hΓ [_,_] (.inr E) E E E E (.inr ⟨HB.mk E,E⟩)
 ·exact bK h9 fun y10 hy10 h11=>gA 3 E<|Kgw [0] (.agg [I y10.1.Kind,S y10.1.Name,S y10.1.Op,I y10.1.Value.Kind,I y10.1.Value.Number,S y10.1.Value.Words,I y10.1.Value.Version.1,I y10.1.Value.Version.2.1,I y10.1.Value.Version.2.2.1,I y10.1.Value.Version.2.2.2,.d (.ro y10.1.Kids.n y10.1.Kids.xs)]) [.box 131 [S y10.2.s,S y10.2.tok.kind,I y10.2.tok.v_at,I y10.2.tok.v_end,S y10.2.tok.name,I y10.2.tok.value.Kind,I y10.2.tok.value.Number,S y10.2.tok.value.Words,I y10.2.tok.value.Version.1,I y10.2.tok.value.Version.2.1,I y10.2.tok.value.Version.2.2.1,I y10.2.tok.value.Version.2.2.2,B y10.2.bad,I y10.2.v_at],.box 32 [I 0,S [],S [],I 0,I 0,S [],I 0,I 0,I 0,I 0,.d (.ro (KD.mk 0 []).n (KD.mk 0 []).xs)],.box 32 [I 1,S p.tok.name,S y1.tok.kind,I 3,I 1,S [],I 0,I 0,I 0,I 0,.d (.ro (KD.mk 0 []).n (KD.mk 0 []).xs)]] C (Lhw hy10) E Z E E E E E E E E E E<|Kpz hΓ E E E E E E E E Z<|Khg [.box 131 [S y10.2.s,S y10.2.tok.kind,I y10.2.tok.v_at,I y10.2.tok.v_end,S y10.2.tok.name,I y10.2.tok.value.Kind,I y10.2.tok.value.Number,S y10.2.tok.value.Words,I y10.2.tok.value.Version.1,I y10.2.tok.value.Version.2.1,I y10.2.tok.value.Version.2.2.1,I y10.2.tok.value.Version.2.2.2,B y10.2.bad,I y10.2.v_at],.box 32 [I y10.1.Kind,S y10.1.Name,S y10.1.Op,I y10.1.Value.Kind,I y10.1.Value.Number,S y10.1.Value.Words,I y10.1.Value.Version.1,I y10.1.Value.Version.2.1,I y10.1.Value.Version.2.2.1,I y10.1.Value.Version.2.2.2,.d (.ro y10.1.Kids.n y10.1.Kids.xs)],.box 32 [I 1,S p.tok.name,S y1.tok.kind,I 3,I 1,S [],I 0,I 0,I 0,I 0,.d (.ro (KD.mk 0 []).n (KD.mk 0 []).xs)]] E<|gO 4 E<|oSi h11▸Khl hΓ [_,_] (.inr E) E E E E (.inr ⟨HB.mk E,E⟩)
 exact gA 10 E<|Kpz hΓ E E E E E E E E Z<|Khg [.box 131 [S y7.s,S y7.tok.kind,I y7.tok.v_at,I y7.tok.v_end,S y7.tok.name,I y7.tok.value.Kind,I y7.tok.value.Number,S y7.tok.value.Words,I y7.tok.value.Version.1,I y7.tok.value.Version.2.1,I y7.tok.value.Version.2.2.1,I y7.tok.value.Version.2.2.2,B y7.bad,I y7.v_at],.box 32 [I 0,S [],S [],I 0,I 0,S [],I 0,I 0,I 0,I 0,.d (.ro (KD.mk 0 []).n (KD.mk 0 []).xs)],.box 32 [I 1,S p.tok.name,S y1.tok.kind,I y7.tok.value.Kind,I y7.tok.value.Number,S y7.tok.value.Words,I y7.tok.value.Version.1,I y7.tok.value.Version.2.1,I y7.tok.value.Version.2.2.1,I y7.tok.value.Version.2.2.2,.d (.ro (KD.mk 0 []).n (KD.mk 0 []).xs)]] E<|bK h12 fun y13 hy13 h14=>gO 5 E<|Kgw [0] (.tup []) [.box 131 [S y13.s,S y13.tok.kind,I y13.tok.v_at,I y13.tok.v_end,S y13.tok.name,I y13.tok.value.Kind,I y13.tok.value.Number,S y13.tok.value.Words,I y13.tok.value.Version.1,I y13.tok.value.Version.2.1,I y13.tok.value.Version.2.2.1,I y13.tok.value.Version.2.2.2,B y13.bad,I y13.v_at],.box 32 [I 0,S [],S [],I 0,I 0,S [],I 0,I 0,I 0,I 0,.d (.ro (KD.mk 0 []).n (KD.mk 0 []).xs)],.box 32 [I 1,S p.tok.name,S y1.tok.kind,I y7.tok.value.Kind,I y7.tok.value.Number,S y7.tok.value.Words,I y7.tok.value.Version.1,I y7.tok.value.Version.2.1,I y7.tok.value.Version.2.2.1,I y7.tok.value.Version.2.2.2,.d (.ro (KD.mk 0 []).n (KD.mk 0 []).xs)]] C (Lhv hy13) E Z E E E E E E E E E E<|gO 5 E<|Kpz hΓ E E E E E E E E Z<|Khg [.box 131 [S y13.s,S y13.tok.kind,I y13.tok.v_at,I y13.tok.v_end,S y13.tok.name,I y13.tok.value.Kind,I y13.tok.value.Number,S y13.tok.value.Words,I y13.tok.value.Version.1,I y13.tok.value.Version.2.1,I y13.tok.value.Version.2.2.1,I y13.tok.value.Version.2.2.2,B y13.bad,I y13.v_at],.box 32 [I 1,S p.tok.name,S y1.tok.kind,I y7.tok.value.Kind,I y7.tok.value.Number,S y7.tok.value.Words,I y7.tok.value.Version.1,I y7.tok.value.Version.2.1,I y7.tok.value.Version.2.2.1,I y7.tok.value.Version.2.2.2,.d (.ro (KD.mk 0 []).n (KD.mk 0 []).xs)],.box 32 [I 1,S p.tok.name,S y1.tok.kind,I y7.tok.value.Kind,I y7.tok.value.Number,S y7.tok.value.Words,I y7.tok.value.Version.1,I y7.tok.value.Version.2.1,I y7.tok.value.Version.2.2.1,I y7.tok.value.Version.2.2.2,.d (.ro (KD.mk 0 []).n (KD.mk 0 []).xs)]] E<|gO 3 E<|oSi h14▸Khl hΓ [_,_] (.inr E) E E E E (.inr ⟨HB.mk E,E⟩)
theorem Ldj{rc_posture_parser_cond:Kyn→Option (Kye×Kyn)}(ih_posture_parser_cond:∀ {p:Kyn} {r:Kye×Kyn},rc_posture_parser_cond p=some r→EC Tryz.prog 82 [.ptr 0 0] [.box 131 [S p.s,S p.tok.kind,I p.tok.v_at,I p.tok.v_end,S p.tok.name,I p.tok.value.Kind,I p.tok.value.Number,S p.tok.value.Words,I p.tok.value.Version.1,I p.tok.value.Version.2.1,I p.tok.value.Version.2.2.1,I p.tok.value.Version.2.2.2,B p.bad,I p.v_at]] fun g hp'=>g=.agg [I r.1.Kind,S r.1.Name,S r.1.Op,I r.1.Value.Kind,I r.1.Value.Number,S r.1.Value.Words,I r.1.Value.Version.1,I r.1.Value.Version.2.1,I r.1.Value.Version.2.2.1,I r.1.Value.Version.2.2.2,.d (.ro r.1.Kids.n r.1.Kids.xs)]∧hp'=[.box 131 [S r.2.s,S r.2.tok.kind,I r.2.tok.v_at,I r.2.tok.v_end,S r.2.tok.name,I r.2.tok.value.Kind,I r.2.tok.value.Number,S r.2.tok.value.Words,I r.2.tok.value.Version.1,I r.2.tok.value.Version.2.1,I r.2.tok.value.Version.2.2.1,I r.2.tok.value.Version.2.2.2,B r.2.bad,I r.2.v_at]]){k:Nat}{p:Kyn}{r:Kye×Kyn}(h:Lcm rc_posture_parser_cond k p=some r):EC Tryz.prog 218 [.ptr 0 0] [.box 131 [S p.s,S p.tok.kind,I p.tok.v_at,I p.tok.v_end,S p.tok.name,I p.tok.value.Kind,I p.tok.value.Number,S p.tok.value.Words,I p.tok.value.Version.1,I p.tok.value.Version.2.1,I p.tok.value.Version.2.2.1,I p.tok.value.Version.2.2.2,B p.bad,I p.v_at]] fun g hp'=>g=.agg [I r.1.Kind,S r.1.Name,S r.1.Op,I r.1.Value.Kind,I r.1.Value.Number,S r.1.Value.Words,I r.1.Value.Version.1,I r.1.Value.Version.2.1,I r.1.Value.Version.2.2.1,I r.1.Value.Version.2.2.2,.d (.ro r.1.Kids.n r.1.Kids.xs)]∧hp'=[.box 131 [S r.2.s,S r.2.tok.kind,I r.2.tok.v_at,I r.2.tok.v_end,S r.2.tok.name,I r.2.tok.value.Kind,I r.2.tok.value.Number,S r.2.tok.value.Words,I r.2.tok.value.Version.1,I r.2.tok.value.Version.2.1,I r.2.tok.value.Version.2.2.1,I r.2.tok.value.Version.2.2.2,B r.2.bad,I r.2.v_at]]:=by
 induction k generalizing p r with
 | zero=>unfold Lcm at h;cases h
 | succ k ih0=>
  have ih:∀ {p:Kyn} {r:Kye×Kyn},Lcm rc_posture_parser_cond k p=some r→EC Tryz.prog 218 [.ptr 0 0] [.box 131 [S p.s,S p.tok.kind,I p.tok.v_at,I p.tok.v_end,S p.tok.name,I p.tok.value.Kind,I p.tok.value.Number,S p.tok.value.Words,I p.tok.value.Version.1,I p.tok.value.Version.2.1,I p.tok.value.Version.2.2.1,I p.tok.value.Version.2.2.2,B p.bad,I p.v_at]] fun g hp'=>g=.agg [I r.1.Kind,S r.1.Name,S r.1.Op,I r.1.Value.Kind,I r.1.Value.Number,S r.1.Value.Words,I r.1.Value.Version.1,I r.1.Value.Version.2.1,I r.1.Value.Version.2.2.1,I r.1.Value.Version.2.2.2,.d (.ro r.1.Kids.n r.1.Kids.xs)]∧hp'=[.box 131 [S r.2.s,S r.2.tok.kind,I r.2.tok.v_at,I r.2.tok.v_end,S r.2.tok.name,I r.2.tok.value.Kind,I r.2.tok.value.Number,S r.2.tok.value.Words,I r.2.tok.value.Version.1,I r.2.tok.value.Version.2.1,I r.2.tok.value.Version.2.2.1,I r.2.tok.value.Version.2.2.2,B r.2.bad,I r.2.v_at]]:=by intro p r h;first | exact ih0 h | exact ih0 _ _ h
  refine Kog (Fr.of 0 _) Tryz.func218 E (Fr.of_ok _) Z fun _=>?_
  refine Kfp ?_
  unfold Lcm at h
  refine gA 2 E ?_
  refine Kpu hΓ E E E Z ?_
  refine gO 19 E ?_
  refine Kfq E (fun hb=>?_) (fun hb=>?_)
  ·have h1:=cT h hb
   obtain⟨y2,hy2,h3⟩:=Kfx h1
   refine gA 3 E ?_
   refine Kgw [0] (.tup []) [.box 131 [S y2.s,S y2.tok.kind,I y2.tok.v_at,I y2.tok.v_end,S y2.tok.name,I y2.tok.value.Kind,I y2.tok.value.Number,S y2.tok.value.Words,I y2.tok.value.Version.1,I y2.tok.value.Version.2.1,I y2.tok.value.Version.2.2.1,I y2.tok.value.Version.2.2.2,B y2.bad,I y2.v_at],.box 32 [I 0,S [],S [],I 0,I 0,S [],I 0,I 0,I 0,I 0,.d (.ro (KD.mk 0 []).n (KD.mk 0 []).xs)]] C (Lhv hy2) E Z E E E E E E E E E E ?_
   obtain⟨y4,hy4,h5⟩:=Kfx h3
   refine gO 5 E ?_
   refine Kgw [0] (.agg [I y4.1.Kind,S y4.1.Name,S y4.1.Op,I y4.1.Value.Kind,I y4.1.Value.Number,S y4.1.Value.Words,I y4.1.Value.Version.1,I y4.1.Value.Version.2.1,I y4.1.Value.Version.2.2.1,I y4.1.Value.Version.2.2.2,.d (.ro y4.1.Kids.n y4.1.Kids.xs)]) [.box 131 [S y4.2.s,S y4.2.tok.kind,I y4.2.tok.v_at,I y4.2.tok.v_end,S y4.2.tok.name,I y4.2.tok.value.Kind,I y4.2.tok.value.Number,S y4.2.tok.value.Words,I y4.2.tok.value.Version.1,I y4.2.tok.value.Version.2.1,I y4.2.tok.value.Version.2.2.1,I y4.2.tok.value.Version.2.2.2,B y4.2.bad,I y4.2.v_at],.box 32 [I 0,S [],S [],I 0,I 0,S [],I 0,I 0,I 0,I 0,.d (.ro (KD.mk 0 []).n (KD.mk 0 []).xs)]] C (ih hy4) E Z E E E E E E E E E E ?_
   refine Kgr hΓ (enc:=Kyf) [y4.1] E E E E E E E E E E E E Z ?_
   refine Kdq hΓ (gs:=[I 2,S [],S [],I 0,I 0,S [],I 0,I 0,I 0,I 0,.d (.ro (pk Kyf [y4.1]).n (pk Kyf [y4.1]).xs)]) E E E E E E E ?_
   refine Kpz hΓ E E E E E E E E Z ?_
   refine Khg [.box 131 [S y4.2.s,S y4.2.tok.kind,I y4.2.tok.v_at,I y4.2.tok.v_end,S y4.2.tok.name,I y4.2.tok.value.Kind,I y4.2.tok.value.Number,S y4.2.tok.value.Words,I y4.2.tok.value.Version.1,I y4.2.tok.value.Version.2.1,I y4.2.tok.value.Version.2.2.1,I y4.2.tok.value.Version.2.2.2,B y4.2.bad,I y4.2.v_at],.box 32 [I 2,S [],S [],I 0,I 0,S [],I 0,I 0,I 0,I 0,.d (.ro (pk Kyf [y4.1]).n (pk Kyf [y4.1]).xs)]] E ?_
   refine gO 5 E ?_
   obtain rfl:=oSi h5
   exact Khl hΓ [_] (.inr E) E E E E (.inr ⟨HB.mk E,E⟩)
  have h6:=cF h hb
  refine gA 6 E ?_
  refine Kfq E (fun hb=>?_) (fun hb=>?_)
  ·have h7:=cT h6 hb
   obtain⟨y8,hy8,h9⟩:=Kfx h7
   refine gA 3 E ?_
   refine Kgw [0] (.tup []) [.box 131 [S y8.s,S y8.tok.kind,I y8.tok.v_at,I y8.tok.v_end,S y8.tok.name,I y8.tok.value.Kind,I y8.tok.value.Number,S y8.tok.value.Words,I y8.tok.value.Version.1,I y8.tok.value.Version.2.1,I y8.tok.value.Version.2.2.1,I y8.tok.value.Version.2.2.2,B y8.bad,I y8.v_at],.box 32 [I 0,S [],S [],I 0,I 0,S [],I 0,I 0,I 0,I 0,.d (.ro (KD.mk 0 []).n (KD.mk 0 []).xs)]] C (Lhv hy8) E Z E E E E E E E E E E ?_
   obtain⟨y10,hy10,h11⟩:=Kfx h9
   refine gO 5 E ?_
   refine Kgw [0] (.agg [I y10.1.Kind,S y10.1.Name,S y10.1.Op,I y10.1.Value.Kind,I y10.1.Value.Number,S y10.1.Value.Words,I y10.1.Value.Version.1,I y10.1.Value.Version.2.1,I y10.1.Value.Version.2.2.1,I y10.1.Value.Version.2.2.2,.d (.ro y10.1.Kids.n y10.1.Kids.xs)]) [.box 131 [S y10.2.s,S y10.2.tok.kind,I y10.2.tok.v_at,I y10.2.tok.v_end,S y10.2.tok.name,I y10.2.tok.value.Kind,I y10.2.tok.value.Number,S y10.2.tok.value.Words,I y10.2.tok.value.Version.1,I y10.2.tok.value.Version.2.1,I y10.2.tok.value.Version.2.2.1,I y10.2.tok.value.Version.2.2.2,B y10.2.bad,I y10.2.v_at],.box 32 [I 0,S [],S [],I 0,I 0,S [],I 0,I 0,I 0,I 0,.d (.ro (KD.mk 0 []).n (KD.mk 0 []).xs)]] C (ih_posture_parser_cond hy10) E Z E E E E E E E E E E ?_
   refine Kpu hΓ E E E Z ?_
   refine Kpz hΓ E E E E E E E E Z ?_
   refine Khg [.box 131 [S y10.2.s,S y10.2.tok.kind,I y10.2.tok.v_at,I y10.2.tok.v_end,S y10.2.tok.name,I y10.2.tok.value.Kind,I y10.2.tok.value.Number,S y10.2.tok.value.Words,I y10.2.tok.value.Version.1,I y10.2.tok.value.Version.2.1,I y10.2.tok.value.Version.2.2.1,I y10.2.tok.value.Version.2.2.2,B y10.2.bad,I y10.2.v_at],.box 32 [I 0,S [],S [],I 0,I 0,S [],I 0,I 0,I 0,I 0,.d (.ro (KD.mk 0 []).n (KD.mk 0 []).xs)],.box 32 [I y10.1.Kind,S y10.1.Name,S y10.1.Op,I y10.1.Value.Kind,I y10.1.Value.Number,S y10.1.Value.Words,I y10.1.Value.Version.1,I y10.1.Value.Version.2.1,I y10.1.Value.Version.2.2.1,I y10.1.Value.Version.2.2.2,.d (.ro y10.1.Kids.n y10.1.Kids.xs)]] E ?_
   refine gO 11 E ?_
   refine Kfq E (fun hb=>?_) (fun hb=>?_)
   ·have h12:=cT h11 hb
    refine gA 3 E ?_
    refine Kpz hΓ E E E E E E E E Z ?_
    refine Khg [.box 131 [S y10.2.s,S y10.2.tok.kind,I y10.2.tok.v_at,I y10.2.tok.v_end,S y10.2.tok.name,I y10.2.tok.value.Kind,I y10.2.tok.value.Number,S y10.2.tok.value.Words,I y10.2.tok.value.Version.1,I y10.2.tok.value.Version.2.1,I y10.2.tok.value.Version.2.2.1,I y10.2.tok.value.Version.2.2.2,B y10.2.bad,I y10.2.v_at],.box 32 [I y10.1.Kind,S y10.1.Name,S y10.1.Op,I y10.1.Value.Kind,I y10.1.Value.Number,S y10.1.Value.Words,I y10.1.Value.Version.1,I y10.1.Value.Version.2.1,I y10.1.Value.Version.2.2.1,I y10.1.Value.Version.2.2.2,.d (.ro y10.1.Kids.n y10.1.Kids.xs)],.box 32 [I y10.1.Kind,S y10.1.Name,S y10.1.Op,I y10.1.Value.Kind,I y10.1.Value.Number,S y10.1.Value.Words,I y10.1.Value.Version.1,I y10.1.Value.Version.2.1,I y10.1.Value.Version.2.2.1,I y10.1.Value.Version.2.2.2,.d (.ro y10.1.Kids.n y10.1.Kids.xs)]] E ?_
    refine gO 6 E ?_
    obtain rfl:=oSi h12
    exact Khl hΓ [_,_] (.inr E) E E E E (.inr ⟨HB.mk E,E⟩)
   have h13:=cF h11 hb
   refine gA 13 E ?_
   refine Kfq E (fun hb=>?_) (fun hb=>?_)
   ·have h14:=cT h13 hb
    obtain⟨y15,hy15,h16⟩:=Kfx h14
    refine gA 3 E ?_
    refine Kgw [0] (.agg [I y15.1.Kind,S y15.1.Name,S y15.1.Op,I y15.1.Value.Kind,I y15.1.Value.Number,S y15.1.Value.Words,I y15.1.Value.Version.1,I y15.1.Value.Version.2.1,I y15.1.Value.Version.2.2.1,I y15.1.Value.Version.2.2.2,.d (.ro y15.1.Kids.n y15.1.Kids.xs)]) [.box 131 [S y15.2.s,S y15.2.tok.kind,I y15.2.tok.v_at,I y15.2.tok.v_end,S y15.2.tok.name,I y15.2.tok.value.Kind,I y15.2.tok.value.Number,S y15.2.tok.value.Words,I y15.2.tok.value.Version.1,I y15.2.tok.value.Version.2.1,I y15.2.tok.value.Version.2.2.1,I y15.2.tok.value.Version.2.2.2,B y15.2.bad,I y15.2.v_at],.box 32 [I 0,S [],S [],I 0,I 0,S [],I 0,I 0,I 0,I 0,.d (.ro (KD.mk 0 []).n (KD.mk 0 []).xs)],.box 32 [I y10.1.Kind,S y10.1.Name,S y10.1.Op,I y10.1.Value.Kind,I y10.1.Value.Number,S y10.1.Value.Words,I y10.1.Value.Version.1,I y10.1.Value.Version.2.1,I y10.1.Value.Version.2.2.1,I y10.1.Value.Version.2.2.2,.d (.ro y10.1.Kids.n y10.1.Kids.xs)]] C (Lhw hy15) E Z E E E E E E E E E E ?_
    refine Kpz hΓ E E E E E E E E Z ?_
    refine Khg [.box 131 [S y15.2.s,S y15.2.tok.kind,I y15.2.tok.v_at,I y15.2.tok.v_end,S y15.2.tok.name,I y15.2.tok.value.Kind,I y15.2.tok.value.Number,S y15.2.tok.value.Words,I y15.2.tok.value.Version.1,I y15.2.tok.value.Version.2.1,I y15.2.tok.value.Version.2.2.1,I y15.2.tok.value.Version.2.2.2,B y15.2.bad,I y15.2.v_at],.box 32 [I y15.1.Kind,S y15.1.Name,S y15.1.Op,I y15.1.Value.Kind,I y15.1.Value.Number,S y15.1.Value.Words,I y15.1.Value.Version.1,I y15.1.Value.Version.2.1,I y15.1.Value.Version.2.2.1,I y15.1.Value.Version.2.2.2,.d (.ro y15.1.Kids.n y15.1.Kids.xs)],.box 32 [I y10.1.Kind,S y10.1.Name,S y10.1.Op,I y10.1.Value.Kind,I y10.1.Value.Number,S y10.1.Value.Words,I y10.1.Value.Version.1,I y10.1.Value.Version.2.1,I y10.1.Value.Version.2.2.1,I y10.1.Value.Version.2.2.2,.d (.ro y10.1.Kids.n y10.1.Kids.xs)]] E ?_
    refine gO 6 E ?_
    obtain rfl:=oSi h16
    exact Khl hΓ [_,_] (.inr E) E E E E (.inr ⟨HB.mk E,E⟩)
   have h17:=cF h13 hb
   obtain⟨y18,hy18,h19⟩:=Kfx h17
   refine gA 5 E ?_
   refine Kgw [0] (.tup []) [.box 131 [S y18.s,S y18.tok.kind,I y18.tok.v_at,I y18.tok.v_end,S y18.tok.name,I y18.tok.value.Kind,I y18.tok.value.Number,S y18.tok.value.Words,I y18.tok.value.Version.1,I y18.tok.value.Version.2.1,I y18.tok.value.Version.2.2.1,I y18.tok.value.Version.2.2.2,B y18.bad,I y18.v_at],.box 32 [I 0,S [],S [],I 0,I 0,S [],I 0,I 0,I 0,I 0,.d (.ro (KD.mk 0 []).n (KD.mk 0 []).xs)],.box 32 [I y10.1.Kind,S y10.1.Name,S y10.1.Op,I y10.1.Value.Kind,I y10.1.Value.Number,S y10.1.Value.Words,I y10.1.Value.Version.1,I y10.1.Value.Version.2.1,I y10.1.Value.Version.2.2.1,I y10.1.Value.Version.2.2.2,.d (.ro y10.1.Kids.n y10.1.Kids.xs)]] C (Lhv hy18) E Z E E E E E E E E E E ?_
   refine gO 5 E ?_
   refine Kpz hΓ E E E E E E E E Z ?_
   refine Khg [.box 131 [S y18.s,S y18.tok.kind,I y18.tok.v_at,I y18.tok.v_end,S y18.tok.name,I y18.tok.value.Kind,I y18.tok.value.Number,S y18.tok.value.Words,I y18.tok.value.Version.1,I y18.tok.value.Version.2.1,I y18.tok.value.Version.2.2.1,I y18.tok.value.Version.2.2.2,B y18.bad,I y18.v_at],.box 32 [I y10.1.Kind,S y10.1.Name,S y10.1.Op,I y10.1.Value.Kind,I y10.1.Value.Number,S y10.1.Value.Words,I y10.1.Value.Version.1,I y10.1.Value.Version.2.1,I y10.1.Value.Version.2.2.1,I y10.1.Value.Version.2.2.2,.d (.ro y10.1.Kids.n y10.1.Kids.xs)],.box 32 [I y10.1.Kind,S y10.1.Name,S y10.1.Op,I y10.1.Value.Kind,I y10.1.Value.Number,S y10.1.Value.Words,I y10.1.Value.Version.1,I y10.1.Value.Version.2.1,I y10.1.Value.Version.2.2.1,I y10.1.Value.Version.2.2.2,.d (.ro y10.1.Kids.n y10.1.Kids.xs)]] E ?_
   refine gO 5 E ?_
   obtain rfl:=oSi h19
   exact Khl hΓ [_,_] (.inr E) E E E E (.inr ⟨HB.mk E,E⟩)
  have h20:=cF h6 hb
  refine gA 6 E ?_
  refine Kfq E (fun hb=>?_) (fun hb=>?_)
  ·have h21:=cT h20 hb
   obtain⟨y22,hy22,h23⟩:=Kfx h21
   refine gA 3 E ?_
   refine Kgw [0] (.agg [I y22.1.Kind,S y22.1.Name,S y22.1.Op,I y22.1.Value.Kind,I y22.1.Value.Number,S y22.1.Value.Words,I y22.1.Value.Version.1,I y22.1.Value.Version.2.1,I y22.1.Value.Version.2.2.1,I y22.1.Value.Version.2.2.2,.d (.ro y22.1.Kids.n y22.1.Kids.xs)]) [.box 131 [S y22.2.s,S y22.2.tok.kind,I y22.2.tok.v_at,I y22.2.tok.v_end,S y22.2.tok.name,I y22.2.tok.value.Kind,I y22.2.tok.value.Number,S y22.2.tok.value.Words,I y22.2.tok.value.Version.1,I y22.2.tok.value.Version.2.1,I y22.2.tok.value.Version.2.2.1,I y22.2.tok.value.Version.2.2.2,B y22.2.bad,I y22.2.v_at],.box 32 [I 0,S [],S [],I 0,I 0,S [],I 0,I 0,I 0,I 0,.d (.ro (KD.mk 0 []).n (KD.mk 0 []).xs)]] C (Ldi hy22) E Z E E E E E E E E E E ?_
   refine Kpz hΓ E E E E E E E E Z ?_
   refine Khg [.box 131 [S y22.2.s,S y22.2.tok.kind,I y22.2.tok.v_at,I y22.2.tok.v_end,S y22.2.tok.name,I y22.2.tok.value.Kind,I y22.2.tok.value.Number,S y22.2.tok.value.Words,I y22.2.tok.value.Version.1,I y22.2.tok.value.Version.2.1,I y22.2.tok.value.Version.2.2.1,I y22.2.tok.value.Version.2.2.2,B y22.2.bad,I y22.2.v_at],.box 32 [I y22.1.Kind,S y22.1.Name,S y22.1.Op,I y22.1.Value.Kind,I y22.1.Value.Number,S y22.1.Value.Words,I y22.1.Value.Version.1,I y22.1.Value.Version.2.1,I y22.1.Value.Version.2.2.1,I y22.1.Value.Version.2.2.2,.d (.ro y22.1.Kids.n y22.1.Kids.xs)]] E ?_
   refine gO 5 E ?_
   obtain rfl:=oSi h23
   exact Khl hΓ [_] (.inr E) E E E E (.inr ⟨HB.mk E,E⟩)
  have h24:=cF h20 hb
  obtain⟨y25,hy25,h26⟩:=Kfx h24
  refine gA 6 E ?_
  refine Kgw [0] (.agg [I y25.1.Kind,S y25.1.Name,S y25.1.Op,I y25.1.Value.Kind,I y25.1.Value.Number,S y25.1.Value.Words,I y25.1.Value.Version.1,I y25.1.Value.Version.2.1,I y25.1.Value.Version.2.2.1,I y25.1.Value.Version.2.2.2,.d (.ro y25.1.Kids.n y25.1.Kids.xs)]) [.box 131 [S y25.2.s,S y25.2.tok.kind,I y25.2.tok.v_at,I y25.2.tok.v_end,S y25.2.tok.name,I y25.2.tok.value.Kind,I y25.2.tok.value.Number,S y25.2.tok.value.Words,I y25.2.tok.value.Version.1,I y25.2.tok.value.Version.2.1,I y25.2.tok.value.Version.2.2.1,I y25.2.tok.value.Version.2.2.2,B y25.2.bad,I y25.2.v_at],.box 32 [I 0,S [],S [],I 0,I 0,S [],I 0,I 0,I 0,I 0,.d (.ro (KD.mk 0 []).n (KD.mk 0 []).xs)]] C (Lhw hy25) E Z E E E E E E E E E E ?_
  refine Kpz hΓ E E E E E E E E Z ?_
  refine Khg [.box 131 [S y25.2.s,S y25.2.tok.kind,I y25.2.tok.v_at,I y25.2.tok.v_end,S y25.2.tok.name,I y25.2.tok.value.Kind,I y25.2.tok.value.Number,S y25.2.tok.value.Words,I y25.2.tok.value.Version.1,I y25.2.tok.value.Version.2.1,I y25.2.tok.value.Version.2.2.1,I y25.2.tok.value.Version.2.2.2,B y25.2.bad,I y25.2.v_at],.box 32 [I y25.1.Kind,S y25.1.Name,S y25.1.Op,I y25.1.Value.Kind,I y25.1.Value.Number,S y25.1.Value.Words,I y25.1.Value.Version.1,I y25.1.Value.Version.2.1,I y25.1.Value.Version.2.2.1,I y25.1.Value.Version.2.2.2,.d (.ro y25.1.Kids.n y25.1.Kids.xs)]] E ?_
  refine gO 3 E ?_
  obtain rfl:=oSi h26
  exact Khl hΓ [_] (.inr E) E E E E (.inr ⟨HB.mk E,E⟩)
theorem Ldk{kind:Int}{l:List Kye}{r:Kye}(h:Lcn kind l=some r):Pure Tryz.prog 163 [I kind,.d (Sl Kyf l)] (.agg [I r.Kind,S r.Name,S r.Op,I r.Value.Kind,I r.Value.Number,S r.Value.Words,I r.Value.Version.1,I r.Value.Version.2.1,I r.Value.Version.2.2.1,I r.Value.Version.2.2.2,.d (.ro r.Kids.n r.Kids.xs)]):=by
 unfold Lcn at h
 refine QP Tryz.func163 E E E<|gA 2 E<|Kpu hΓ E E E Z<|gO 10 E<|jC E h (fun h1=>?_) fun h4=>gA 5 E<|eo_s Z (nblt.1 E) (Kki 32 11 10 (OpP.s (Kkg hΓ [10] (gs:=[I kind,S [],S [],I 0,I 0,S [],I 0,I 0,I 0,I 0,.d (.v (.slice none 0 0))]) E E E E E E)) E)<|Kpu hΓ E E E Z<|Kpz hΓ E E E E E E E E Z<|Khg [.box 32 [I 0,S [],S [],I 0,I 0,S [],I 0,I 0,I 0,I 0,.d (.ro (KD.mk 0 []).n (KD.mk 0 []).xs)],rO 32 11 Kyf ([]:List Kye),.box 32 [I kind,S [],S [],I 0,I 0,S [],I 0,I 0,I 0,I 0,.sl 1 ([]:List Kye).length]] E<|gO 10 E<|bK h4 fun q8 hq8 h9=>Kgg 16 E fun hb11=>Kjs [(4,.ptr 0 0),(5,.ptr 2 0)] [.box 32 [I 0,S [],S [],I 0,I 0,S [],I 0,I 0,I 0,I 0,.d (.ro (KD.mk 0 []).n (KD.mk 0 []).xs)],rO 32 11 Kyf q8,.box 32 [I kind,S [],S [],I 0,I 0,S [],I 0,I 0,I 0,I 0,.sl 1 q8.length]] ?_ ?_
 ·exact bK h1 fun x2 hx2 h3=>gA 3 E<|eo_o E (Kgh hΓ (enc:=Kyf) hx2 E E E E E (fun _=>E))<|gO 1 E<|Kpz hΓ E E E E E E E E Z<|Khg [.box 32 [I x2.Kind,S x2.Name,S x2.Op,I x2.Value.Kind,I x2.Value.Number,S x2.Value.Words,I x2.Value.Version.1,I x2.Value.Version.2.1,I x2.Value.Version.2.2.1,I x2.Value.Version.2.2.2,.d (.ro x2.Kids.n x2.Kids.xs)]] E<|gO 4 E<|oSi h3▸gP E E
 ·refine gA 1 E<|Khn l hq8 (fun i5 s6=>[(0,I kind),(4,.ptr 0 0),(5,.ptr 2 0),(16,.d (Sl Kyf l)),(17,I (l.length:Int)),(18,I (i5:Int))]) (fun s6=>[.box 32 [I 0,S [],S [],I 0,I 0,S [],I 0,I 0,I 0,I 0,.d (.ro (KD.mk 0 []).n (KD.mk 0 []).xs)],rO 32 11 Kyf s6,.box 32 [I kind,S [],S [],I 0,I 0,S [],I 0,I 0,I 0,I 0,.sl 1 s6.length]]) ⟨⟨E,E,E,E,E,E,tV⟩,[],E,.inl E⟩ (fun i5 x7 s6 y15 hx12 hlt hy13=>?_) (?_)
  ·refine gA 6 E<|Kfr E (dT (Int.ofNat_lt.2 hlt))<|gA 6 E<|eo_o E (Kgh hΓ (enc:=Kyf) (Kga hx12) E E E E E (fun _=>E))<|gO 1 E<|Kpu hΓ E E E Z<|Kpz hΓ E E E E E E E E Z<|Khg [.box 32 [I 0,S [],S [],I 0,I 0,S [],I 0,I 0,I 0,I 0,.d (.ro (KD.mk 0 []).n (KD.mk 0 []).xs)],rO 32 11 Kyf s6,.box 32 [I kind,S [],S [],I 0,I 0,S [],I 0,I 0,I 0,I 0,.sl 1 s6.length],.box 32 [I x7.Kind,S x7.Name,S x7.Op,I x7.Value.Kind,I x7.Value.Number,S x7.Value.Words,I x7.Value.Version.1,I x7.Value.Version.2.1,I x7.Value.Version.2.2.1,I x7.Value.Version.2.2.2,.d (.ro x7.Kids.n x7.Kids.xs)]] E<|gO 10 E<|jC E hy13 (fun h16=>?_) fun h21=>gA 4 E<|Kgr hΓ (enc:=Kyf) [x7] E E E E E E E E E E E E Z<|bK h21 fun y22 hy22 h23=>Kkl 1 [.box 32 [I 0,S [],S [],I 0,I 0,S [],I 0,I 0,I 0,I 0,.d (.ro (KD.mk 0 []).n (KD.mk 0 []).xs)],rO 32 11 Kyf s6,.box 32 [I kind,S [],S [],I 0,I 0,S [],I 0,I 0,I 0,I 0,.junk],.box 32 [I x7.Kind,S x7.Name,S x7.Op,I x7.Value.Kind,I x7.Value.Number,S x7.Value.Words,I x7.Value.Version.1,I x7.Value.Version.2.1,I x7.Value.Version.2.2.1,I x7.Value.Version.2.2.2,.d (.ro x7.Kids.n x7.Kids.xs)]] E Z<|Khh hΓ (enc:=Kyf) hy22 E E E E E E E E E (fun _=>E) E E E E<|gO 1 E<|Kpz hΓ E E E E E E E E Z<|Khg [.box 32 [I 0,S [],S [],I 0,I 0,S [],I 0,I 0,I 0,I 0,.d (.ro (KD.mk 0 []).n (KD.mk 0 []).xs)],rO 32 11 Kyf y22,.box 32 [I kind,S [],S [],I 0,I 0,S [],I 0,I 0,I 0,I 0,.sl 1 y22.length],.box 32 [I x7.Kind,S x7.Name,S x7.Op,I x7.Value.Kind,I x7.Value.Number,S x7.Value.Words,I x7.Value.Version.1,I x7.Value.Version.2.1,I x7.Value.Version.2.2.1,I x7.Value.Version.2.2.2,.d (.ro x7.Kids.n x7.Kids.xs)]] E<|gO 7 E ?_
   ·refine bK h16 fun l17 hl17 h18=>gA 4 E<|eo_o E (Klt (Kpi hΓ (g:=.d (.ro x7.Kids.n x7.Kids.xs)) E) (G.Le.unk Ldg hl17))<|bK h18 fun y19 hy19 h20=>Kkl 1 [.box 32 [I 0,S [],S [],I 0,I 0,S [],I 0,I 0,I 0,I 0,.d (.ro (KD.mk 0 []).n (KD.mk 0 []).xs)],rO 32 11 Kyf s6,.box 32 [I kind,S [],S [],I 0,I 0,S [],I 0,I 0,I 0,I 0,.junk],.box 32 [I x7.Kind,S x7.Name,S x7.Op,I x7.Value.Kind,I x7.Value.Number,S x7.Value.Words,I x7.Value.Version.1,I x7.Value.Version.2.1,I x7.Value.Version.2.2.1,I x7.Value.Version.2.2.2,.d (.ro x7.Kids.n x7.Kids.xs)]] E Z<|Khh hΓ (enc:=Kyf) hy19 E E E E E E E E E (fun _=>E) E E E E<|gO 1 E<|Kpz hΓ E E E E E E E E Z<|Khg [.box 32 [I 0,S [],S [],I 0,I 0,S [],I 0,I 0,I 0,I 0,.d (.ro (KD.mk 0 []).n (KD.mk 0 []).xs)],rO 32 11 Kyf y19,.box 32 [I kind,S [],S [],I 0,I 0,S [],I 0,I 0,I 0,I 0,.sl 1 y19.length],.box 32 [I x7.Kind,S x7.Name,S x7.Op,I x7.Value.Kind,I x7.Value.Number,S x7.Value.Words,I x7.Value.Version.1,I x7.Value.Version.2.1,I x7.Value.Version.2.2.1,I x7.Value.Version.2.2.2,.d (.ro x7.Kids.n x7.Kids.xs)]] E<|gO 7 E ?_
    cases h20
    exact⟨⟨E,E,E,E,E,Kes E (Ker (nLl hlt hb11)),tV⟩,[_],E,.inr ⟨HB.mk E,FB.mk E,Z⟩⟩
   cases h23
   exact⟨⟨E,E,E,E,E,Kes E (Ker (nLl hlt hb11)),tV⟩,[_],E,.inr ⟨HB.mk E,FB.mk E,Z⟩⟩
  exact gA 6 E<|Kfs E (dF (Int.lt_irrefl _))<|gA 4 E<|⟨⟨E,E,tV⟩,[],E,.inl E⟩
 exact gA 4 E<|Khd 1 [39] _ [.box 32 [I 0,S [],S [],I 0,I 0,S [],I 0,I 0,I 0,I 0,.d (.ro (KD.mk 0 []).n (KD.mk 0 []).xs)],.dead,.box 32 [I kind,S [],S [],I 0,I 0,S [],I 0,I 0,I 0,I 0,.d (.ro (pk Kyf q8).n (pk Kyf q8).xs)]] E E E Z<|Kpz hΓ E E E E E E E E Z<|Khg [.box 32 [I kind,S [],S [],I 0,I 0,S [],I 0,I 0,I 0,I 0,.d (.ro (pk Kyf q8).n (pk Kyf q8).xs)],.dead,.box 32 [I kind,S [],S [],I 0,I 0,S [],I 0,I 0,I 0,I 0,.d (.ro (pk Kyf q8).n (pk Kyf q8).xs)]] E<|gO 3 E<|oSi h9▸gP E E
theorem Ldl{rc_posture_parser_cond:Kyn→Option (Kye×Kyn)}(ih_posture_parser_cond:∀ {p:Kyn} {r:Kye×Kyn},rc_posture_parser_cond p=some r→EC Tryz.prog 82 [.ptr 0 0] [.box 131 [S p.s,S p.tok.kind,I p.tok.v_at,I p.tok.v_end,S p.tok.name,I p.tok.value.Kind,I p.tok.value.Number,S p.tok.value.Words,I p.tok.value.Version.1,I p.tok.value.Version.2.1,I p.tok.value.Version.2.2.1,I p.tok.value.Version.2.2.2,B p.bad,I p.v_at]] fun g hp'=>g=.agg [I r.1.Kind,S r.1.Name,S r.1.Op,I r.1.Value.Kind,I r.1.Value.Number,S r.1.Value.Words,I r.1.Value.Version.1,I r.1.Value.Version.2.1,I r.1.Value.Version.2.2.1,I r.1.Value.Version.2.2.2,.d (.ro r.1.Kids.n r.1.Kids.xs)]∧hp'=[.box 131 [S r.2.s,S r.2.tok.kind,I r.2.tok.v_at,I r.2.tok.v_end,S r.2.tok.name,I r.2.tok.value.Kind,I r.2.tok.value.Number,S r.2.tok.value.Words,I r.2.tok.value.Version.1,I r.2.tok.value.Version.2.1,I r.2.tok.value.Version.2.2.1,I r.2.tok.value.Version.2.2.2,B r.2.bad,I r.2.v_at]]){k:Nat}{p:Kyn}{r:Kye×Kyn}(h:Lco rc_posture_parser_cond k p=some r):EC Tryz.prog 162 [.ptr 0 0] [.box 131 [S p.s,S p.tok.kind,I p.tok.v_at,I p.tok.v_end,S p.tok.name,I p.tok.value.Kind,I p.tok.value.Number,S p.tok.value.Words,I p.tok.value.Version.1,I p.tok.value.Version.2.1,I p.tok.value.Version.2.2.1,I p.tok.value.Version.2.2.2,B p.bad,I p.v_at]] fun g hp'=>g=.agg [I r.1.Kind,S r.1.Name,S r.1.Op,I r.1.Value.Kind,I r.1.Value.Number,S r.1.Value.Words,I r.1.Value.Version.1,I r.1.Value.Version.2.1,I r.1.Value.Version.2.2.1,I r.1.Value.Version.2.2.2,.d (.ro r.1.Kids.n r.1.Kids.xs)]∧hp'=[.box 131 [S r.2.s,S r.2.tok.kind,I r.2.tok.v_at,I r.2.tok.v_end,S r.2.tok.name,I r.2.tok.value.Kind,I r.2.tok.value.Number,S r.2.tok.value.Words,I r.2.tok.value.Version.1,I r.2.tok.value.Version.2.1,I r.2.tok.value.Version.2.2.1,I r.2.tok.value.Version.2.2.2,B r.2.bad,I r.2.v_at]]:=by
 unfold Lco at h
 refine QN Tryz.func162 E Z<|gA 2 E<|Kpu hΓ E E E Z<|bK h fun y1 hy1 h2=>gO 5 E<|Kgw [0] (.agg [I y1.1.Kind,S y1.1.Name,S y1.1.Op,I y1.1.Value.Kind,I y1.1.Value.Number,S y1.1.Value.Words,I y1.1.Value.Version.1,I y1.1.Value.Version.2.1,I y1.1.Value.Version.2.2.1,I y1.1.Value.Version.2.2.2,.d (.ro y1.1.Kids.n y1.1.Kids.xs)]) [.box 131 [S y1.2.s,S y1.2.tok.kind,I y1.2.tok.v_at,I y1.2.tok.v_end,S y1.2.tok.name,I y1.2.tok.value.Kind,I y1.2.tok.value.Number,S y1.2.tok.value.Words,I y1.2.tok.value.Version.1,I y1.2.tok.value.Version.2.1,I y1.2.tok.value.Version.2.2.1,I y1.2.tok.value.Version.2.2.2,B y1.2.bad,I y1.2.v_at],.box 32 [I 0,S [],S [],I 0,I 0,S [],I 0,I 0,I 0,I 0,.d (.ro (KD.mk 0 []).n (KD.mk 0 []).xs)]] C (Ldj ih_posture_parser_cond hy1) E Z E E E E E E E E E E<|Kgt hΓ (enc:=Kyf) [y1.1] E E E E E E E E E E E E Z<|gO 4 E<|bK h2 fun q6 hq6 h7=>Kjs [(2,.ptr 1 0),(3,.sl 2 q6.2.length)] [.box 131 [S q6.1.s,S q6.1.tok.kind,I q6.1.tok.v_at,I q6.1.tok.v_end,S q6.1.tok.name,I q6.1.tok.value.Kind,I q6.1.tok.value.Number,S q6.1.tok.value.Words,I q6.1.tok.value.Version.1,I q6.1.tok.value.Version.2.1,I q6.1.tok.value.Version.2.2.1,I q6.1.tok.value.Version.2.2.2,B q6.1.bad,I q6.1.v_at],.box 32 [I 0,S [],S [],I 0,I 0,S [],I 0,I 0,I 0,I 0,.d (.ro (KD.mk 0 []).n (KD.mk 0 []).xs)],rO 32 11 Kyf q6.2] ?_ ?_
 ·refine gA 1 E<|Kgd hq6 (fun s4=>[(0,.ptr 0 0),(2,.ptr 1 0),(3,.sl 2 s4.2.length)]) (fun s4=>[.box 131 [S s4.1.s,S s4.1.tok.kind,I s4.1.tok.v_at,I s4.1.tok.v_end,S s4.1.tok.name,I s4.1.tok.value.Kind,I s4.1.tok.value.Number,S s4.1.tok.value.Words,I s4.1.tok.value.Version.1,I s4.1.tok.value.Version.2.1,I s4.1.tok.value.Version.2.2.1,I s4.1.tok.value.Version.2.2.2,B s4.1.bad,I s4.1.v_at],.box 32 [I 0,S [],S [],I 0,I 0,S [],I 0,I 0,I 0,I 0,.d (.ro (KD.mk 0 []).n (KD.mk 0 []).xs)],rO 32 11 Kyf s4.2]) ⟨⟨E,E,E,tV⟩,[],E,.inl E⟩ (fun s4 y12 hy10 hout11=>?_)
  refine gA 9 E<|Kfw 7 [(0,.ptr 0 0),(2,.ptr 1 0),(3,.sl 2 s4.2.length),(19,B ((!s4.1.bad)&&((s4.1.tok.kind:Str)==[38,38])))] [.box 131 [S s4.1.s,S s4.1.tok.kind,I s4.1.tok.v_at,I s4.1.tok.v_end,S s4.1.tok.name,I s4.1.tok.value.Kind,I s4.1.tok.value.Number,S s4.1.tok.value.Words,I s4.1.tok.value.Version.1,I s4.1.tok.value.Version.2.1,I s4.1.tok.value.Version.2.2.1,I s4.1.tok.value.Version.2.2.2,B s4.1.bad,I s4.1.v_at],.box 32 [I 0,S [],S [],I 0,I 0,S [],I 0,I 0,I 0,I 0,.d (.ro (KD.mk 0 []).n (KD.mk 0 []).xs)],rO 32 11 Kyf s4.2] ?_ ?_
  ·refine Koo E E (fun hb=>?_) (fun hb=>?_)
   ·exact gO 8 E<|⟨⟨E,E,E,Ket E (Khr hb),tV⟩,[],E,.inl E⟩
   exact gO 8 E<|⟨⟨E,E,E,Ket E (Khs hb),tV⟩,[],E,.inl E⟩
  refine gO 2 E<|jC E hy10 (fun h13=>?_) fun h20=>gA 4 E ?_
  ·exact bK h13 fun y14 hy14 h15=>gA 6 E<|Kgw [0] (.tup []) [.box 131 [S y14.s,S y14.tok.kind,I y14.tok.v_at,I y14.tok.v_end,S y14.tok.name,I y14.tok.value.Kind,I y14.tok.value.Number,S y14.tok.value.Words,I y14.tok.value.Version.1,I y14.tok.value.Version.2.1,I y14.tok.value.Version.2.2.1,I y14.tok.value.Version.2.2.2,B y14.bad,I y14.v_at],.box 32 [I 0,S [],S [],I 0,I 0,S [],I 0,I 0,I 0,I 0,.d (.ro (KD.mk 0 []).n (KD.mk 0 []).xs)],rO 32 11 Kyf s4.2] C (Lhv hy14) E Z E E E E E E E E E E<|bK h15 fun y16 hy16 h17=>gO 5 E<|Kgw [0] (.agg [I y16.1.Kind,S y16.1.Name,S y16.1.Op,I y16.1.Value.Kind,I y16.1.Value.Number,S y16.1.Value.Words,I y16.1.Value.Version.1,I y16.1.Value.Version.2.1,I y16.1.Value.Version.2.2.1,I y16.1.Value.Version.2.2.2,.d (.ro y16.1.Kids.n y16.1.Kids.xs)]) [.box 131 [S y16.2.s,S y16.2.tok.kind,I y16.2.tok.v_at,I y16.2.tok.v_end,S y16.2.tok.name,I y16.2.tok.value.Kind,I y16.2.tok.value.Number,S y16.2.tok.value.Words,I y16.2.tok.value.Version.1,I y16.2.tok.value.Version.2.1,I y16.2.tok.value.Version.2.2.1,I y16.2.tok.value.Version.2.2.2,B y16.2.bad,I y16.2.v_at],.box 32 [I 0,S [],S [],I 0,I 0,S [],I 0,I 0,I 0,I 0,.d (.ro (KD.mk 0 []).n (KD.mk 0 []).xs)],rO 32 11 Kyf s4.2] C (Ldj ih_posture_parser_cond hy16) E Z E E E E E E E E E E<|Kgr hΓ (enc:=Kyf) [y16.1] E E E E E E E E E E E E Z<|bK h17 fun y18 hy18 h19=>Khh hΓ (enc:=Kyf) hy18 E E E E E E E E E (fun _=>E) E E E E<|gO 3 E<|oSi h19▸⟨_,E,⟨⟨E,E,E,tV⟩,[],E,.inl E⟩⟩
  cases h20
  obtain rfl:=hout11 _ rfl
  exact⟨⟨E,E,tV⟩,[],E,.inl E⟩
 exact bK h7 fun y21 hy21 h22=>gA 4 E<|Khd 2 [3,27] _ [.box 131 [S q6.1.s,S q6.1.tok.kind,I q6.1.tok.v_at,I q6.1.tok.v_end,S q6.1.tok.name,I q6.1.tok.value.Kind,I q6.1.tok.value.Number,S q6.1.tok.value.Words,I q6.1.tok.value.Version.1,I q6.1.tok.value.Version.2.1,I q6.1.tok.value.Version.2.2.1,I q6.1.tok.value.Version.2.2.2,B q6.1.bad,I q6.1.v_at],.box 32 [I 0,S [],S [],I 0,I 0,S [],I 0,I 0,I 0,I 0,.d (.ro (KD.mk 0 []).n (KD.mk 0 []).xs)],.dead] E E E Z<|Kgx C (Ldk hy21) E Z E E E E E<|Kpz hΓ E E E E E E E E Z<|Khg [.box 131 [S q6.1.s,S q6.1.tok.kind,I q6.1.tok.v_at,I q6.1.tok.v_end,S q6.1.tok.name,I q6.1.tok.value.Kind,I q6.1.tok.value.Number,S q6.1.tok.value.Words,I q6.1.tok.value.Version.1,I q6.1.tok.value.Version.2.1,I q6.1.tok.value.Version.2.2.1,I q6.1.tok.value.Version.2.2.2,B q6.1.bad,I q6.1.v_at],.box 32 [I y21.Kind,S y21.Name,S y21.Op,I y21.Value.Kind,I y21.Value.Number,S y21.Value.Words,I y21.Value.Version.1,I y21.Value.Version.2.1,I y21.Value.Version.2.2.1,I y21.Value.Version.2.2.2,.d (.ro y21.Kids.n y21.Kids.xs)],.dead] E<|gO 3 E<|oSi h22▸Khl hΓ [_,_] (.inr E) E E E E (.inr ⟨HB.mk E,E⟩)
theorem Ldm{k:Nat}{p:Kyn}{r:Kye×Kyn}(h:Lcp k p=some r):EC Tryz.prog 82 [.ptr 0 0] [.box 131 [S p.s,S p.tok.kind,I p.tok.v_at,I p.tok.v_end,S p.tok.name,I p.tok.value.Kind,I p.tok.value.Number,S p.tok.value.Words,I p.tok.value.Version.1,I p.tok.value.Version.2.1,I p.tok.value.Version.2.2.1,I p.tok.value.Version.2.2.2,B p.bad,I p.v_at]] fun g hp'=>g=.agg [I r.1.Kind,S r.1.Name,S r.1.Op,I r.1.Value.Kind,I r.1.Value.Number,S r.1.Value.Words,I r.1.Value.Version.1,I r.1.Value.Version.2.1,I r.1.Value.Version.2.2.1,I r.1.Value.Version.2.2.2,.d (.ro r.1.Kids.n r.1.Kids.xs)]∧hp'=[.box 131 [S r.2.s,S r.2.tok.kind,I r.2.tok.v_at,I r.2.tok.v_end,S r.2.tok.name,I r.2.tok.value.Kind,I r.2.tok.value.Number,S r.2.tok.value.Words,I r.2.tok.value.Version.1,I r.2.tok.value.Version.2.1,I r.2.tok.value.Version.2.2.1,I r.2.tok.value.Version.2.2.2,B r.2.bad,I r.2.v_at]]:=by
 induction k generalizing p r with
 | zero=>unfold Lcp at h;cases h
 | succ k ih0=>
  have ih:∀ {p:Kyn} {r:Kye×Kyn},Lcp k p=some r→EC Tryz.prog 82 [.ptr 0 0] [.box 131 [S p.s,S p.tok.kind,I p.tok.v_at,I p.tok.v_end,S p.tok.name,I p.tok.value.Kind,I p.tok.value.Number,S p.tok.value.Words,I p.tok.value.Version.1,I p.tok.value.Version.2.1,I p.tok.value.Version.2.2.1,I p.tok.value.Version.2.2.2,B p.bad,I p.v_at]] fun g hp'=>g=.agg [I r.1.Kind,S r.1.Name,S r.1.Op,I r.1.Value.Kind,I r.1.Value.Number,S r.1.Value.Words,I r.1.Value.Version.1,I r.1.Value.Version.2.1,I r.1.Value.Version.2.2.1,I r.1.Value.Version.2.2.2,.d (.ro r.1.Kids.n r.1.Kids.xs)]∧hp'=[.box 131 [S r.2.s,S r.2.tok.kind,I r.2.tok.v_at,I r.2.tok.v_end,S r.2.tok.name,I r.2.tok.value.Kind,I r.2.tok.value.Number,S r.2.tok.value.Words,I r.2.tok.value.Version.1,I r.2.tok.value.Version.2.1,I r.2.tok.value.Version.2.2.1,I r.2.tok.value.Version.2.2.2,B r.2.bad,I r.2.v_at]]:=by intro p r h;first | exact ih0 h | exact ih0 _ _ h
  refine Kog (Fr.of 0 _) Tryz.func82 E (Fr.of_ok _) Z fun _=>?_
  refine Kfp ?_
  unfold Lcp at h
  refine gA 2 E ?_
  refine Kpu hΓ E E E Z ?_
  obtain⟨y1,hy1,h2⟩:=Kfx h
  refine gO 5 E ?_
  refine Kgw [0] (.agg [I y1.1.Kind,S y1.1.Name,S y1.1.Op,I y1.1.Value.Kind,I y1.1.Value.Number,S y1.1.Value.Words,I y1.1.Value.Version.1,I y1.1.Value.Version.2.1,I y1.1.Value.Version.2.2.1,I y1.1.Value.Version.2.2.2,.d (.ro y1.1.Kids.n y1.1.Kids.xs)]) [.box 131 [S y1.2.s,S y1.2.tok.kind,I y1.2.tok.v_at,I y1.2.tok.v_end,S y1.2.tok.name,I y1.2.tok.value.Kind,I y1.2.tok.value.Number,S y1.2.tok.value.Words,I y1.2.tok.value.Version.1,I y1.2.tok.value.Version.2.1,I y1.2.tok.value.Version.2.2.1,I y1.2.tok.value.Version.2.2.2,B y1.2.bad,I y1.2.v_at],.box 32 [I 0,S [],S [],I 0,I 0,S [],I 0,I 0,I 0,I 0,.d (.ro (KD.mk 0 []).n (KD.mk 0 []).xs)]] C (Ldl ih hy1) E Z E E E E E E E E E E ?_
  refine Kgt hΓ (enc:=Kyf) [y1.1] E E E E E E E E E E E E Z ?_
  refine gO 4 E ?_
  obtain⟨q6,hq6,h7⟩:=Kfx h2
  refine Kjs [(2,.ptr 1 0),(3,.sl 2 q6.2.length)] [.box 131 [S q6.1.s,S q6.1.tok.kind,I q6.1.tok.v_at,I q6.1.tok.v_end,S q6.1.tok.name,I q6.1.tok.value.Kind,I q6.1.tok.value.Number,S q6.1.tok.value.Words,I q6.1.tok.value.Version.1,I q6.1.tok.value.Version.2.1,I q6.1.tok.value.Version.2.2.1,I q6.1.tok.value.Version.2.2.2,B q6.1.bad,I q6.1.v_at],.box 32 [I 0,S [],S [],I 0,I 0,S [],I 0,I 0,I 0,I 0,.d (.ro (KD.mk 0 []).n (KD.mk 0 []).xs)],rO 32 11 Kyf q6.2] ?_ ?_
  ·refine gA 1 E ?_
   refine Kgd hq6 (fun s4=>[(0,.ptr 0 0),(2,.ptr 1 0),(3,.sl 2 s4.2.length)]) (fun s4=>[.box 131 [S s4.1.s,S s4.1.tok.kind,I s4.1.tok.v_at,I s4.1.tok.v_end,S s4.1.tok.name,I s4.1.tok.value.Kind,I s4.1.tok.value.Number,S s4.1.tok.value.Words,I s4.1.tok.value.Version.1,I s4.1.tok.value.Version.2.1,I s4.1.tok.value.Version.2.2.1,I s4.1.tok.value.Version.2.2.2,B s4.1.bad,I s4.1.v_at],.box 32 [I 0,S [],S [],I 0,I 0,S [],I 0,I 0,I 0,I 0,.d (.ro (KD.mk 0 []).n (KD.mk 0 []).xs)],rO 32 11 Kyf s4.2]) ⟨⟨E,E,E,tV⟩,[],E,.inl E⟩ (fun s4 y12 hy10 hout11=>?_)
   refine gA 9 E ?_
   refine Kfw 7 [(0,.ptr 0 0),(2,.ptr 1 0),(3,.sl 2 s4.2.length),(19,B ((!s4.1.bad)&&((s4.1.tok.kind:Str)==[124,124])))] [.box 131 [S s4.1.s,S s4.1.tok.kind,I s4.1.tok.v_at,I s4.1.tok.v_end,S s4.1.tok.name,I s4.1.tok.value.Kind,I s4.1.tok.value.Number,S s4.1.tok.value.Words,I s4.1.tok.value.Version.1,I s4.1.tok.value.Version.2.1,I s4.1.tok.value.Version.2.2.1,I s4.1.tok.value.Version.2.2.2,B s4.1.bad,I s4.1.v_at],.box 32 [I 0,S [],S [],I 0,I 0,S [],I 0,I 0,I 0,I 0,.d (.ro (KD.mk 0 []).n (KD.mk 0 []).xs)],rO 32 11 Kyf s4.2] ?_ ?_
   ·refine Koo E E (fun hb=>?_) (fun hb=>?_)
    ·refine gO 8 E ?_
     exact⟨⟨E,E,E,Ket E (Khr hb),tV⟩,[],E,.inl E⟩
    refine gO 8 E ?_
    exact⟨⟨E,E,E,Ket E (Khs hb),tV⟩,[],E,.inl E⟩
   refine gO 2 E ?_
   refine Kfq E (fun hb=>?_) (fun hb=>?_)
   ·have h13:=cT hy10 hb
    obtain⟨y14,hy14,h15⟩:=Kfx h13
    refine gA 6 E ?_
    refine Kgw [0] (.tup []) [.box 131 [S y14.s,S y14.tok.kind,I y14.tok.v_at,I y14.tok.v_end,S y14.tok.name,I y14.tok.value.Kind,I y14.tok.value.Number,S y14.tok.value.Words,I y14.tok.value.Version.1,I y14.tok.value.Version.2.1,I y14.tok.value.Version.2.2.1,I y14.tok.value.Version.2.2.2,B y14.bad,I y14.v_at],.box 32 [I 0,S [],S [],I 0,I 0,S [],I 0,I 0,I 0,I 0,.d (.ro (KD.mk 0 []).n (KD.mk 0 []).xs)],rO 32 11 Kyf s4.2] C (Lhv hy14) E Z E E E E E E E E E E ?_
    obtain⟨y16,hy16,h17⟩:=Kfx h15
    refine gO 5 E ?_
    refine Kgw [0] (.agg [I y16.1.Kind,S y16.1.Name,S y16.1.Op,I y16.1.Value.Kind,I y16.1.Value.Number,S y16.1.Value.Words,I y16.1.Value.Version.1,I y16.1.Value.Version.2.1,I y16.1.Value.Version.2.2.1,I y16.1.Value.Version.2.2.2,.d (.ro y16.1.Kids.n y16.1.Kids.xs)]) [.box 131 [S y16.2.s,S y16.2.tok.kind,I y16.2.tok.v_at,I y16.2.tok.v_end,S y16.2.tok.name,I y16.2.tok.value.Kind,I y16.2.tok.value.Number,S y16.2.tok.value.Words,I y16.2.tok.value.Version.1,I y16.2.tok.value.Version.2.1,I y16.2.tok.value.Version.2.2.1,I y16.2.tok.value.Version.2.2.2,B y16.2.bad,I y16.2.v_at],.box 32 [I 0,S [],S [],I 0,I 0,S [],I 0,I 0,I 0,I 0,.d (.ro (KD.mk 0 []).n (KD.mk 0 []).xs)],rO 32 11 Kyf s4.2] C (Ldl ih hy16) E Z E E E E E E E E E E ?_
    refine Kgr hΓ (enc:=Kyf) [y16.1] E E E E E E E E E E E E Z ?_
    obtain⟨y18,hy18,h19⟩:=Kfx h17
    refine Khh hΓ (enc:=Kyf) hy18 E E E E E E E E E (fun _=>E) E E E E ?_
    refine gO 3 E ?_
    obtain rfl:=oSi h19
    exact⟨_,E,⟨⟨E,E,E,tV⟩,[],E,.inl E⟩⟩
   have h20:=cF hy10 hb
   refine gA 4 E ?_
   obtain rfl:=oSi h20
   obtain rfl:=hout11 _ rfl
   exact⟨⟨E,E,tV⟩,[],E,.inl E⟩
  obtain⟨y21,hy21,h22⟩:=Kfx h7
  refine gA 4 E ?_
  refine Khd 2 [3,27] _ [.box 131 [S q6.1.s,S q6.1.tok.kind,I q6.1.tok.v_at,I q6.1.tok.v_end,S q6.1.tok.name,I q6.1.tok.value.Kind,I q6.1.tok.value.Number,S q6.1.tok.value.Words,I q6.1.tok.value.Version.1,I q6.1.tok.value.Version.2.1,I q6.1.tok.value.Version.2.2.1,I q6.1.tok.value.Version.2.2.2,B q6.1.bad,I q6.1.v_at],.box 32 [I 0,S [],S [],I 0,I 0,S [],I 0,I 0,I 0,I 0,.d (.ro (KD.mk 0 []).n (KD.mk 0 []).xs)],.dead] E E E Z ?_
  refine Kgx C (Ldk hy21) E Z E E E E E ?_
  refine Kpz hΓ E E E E E E E E Z ?_
  refine Khg [.box 131 [S q6.1.s,S q6.1.tok.kind,I q6.1.tok.v_at,I q6.1.tok.v_end,S q6.1.tok.name,I q6.1.tok.value.Kind,I q6.1.tok.value.Number,S q6.1.tok.value.Words,I q6.1.tok.value.Version.1,I q6.1.tok.value.Version.2.1,I q6.1.tok.value.Version.2.2.1,I q6.1.tok.value.Version.2.2.2,B q6.1.bad,I q6.1.v_at],.box 32 [I y21.Kind,S y21.Name,S y21.Op,I y21.Value.Kind,I y21.Value.Number,S y21.Value.Words,I y21.Value.Version.1,I y21.Value.Version.2.1,I y21.Value.Version.2.2.1,I y21.Value.Version.2.2.2,.d (.ro y21.Kids.n y21.Kids.xs)],.dead] E ?_
  refine gO 3 E ?_
  obtain rfl:=oSi h22
  exact Khl hΓ [_,_] (.inr E) E E E E (.inr ⟨HB.mk E,E⟩)
theorem Ldn{k:Nat}{text:Str}{r:Kye×Int×Int}(h:Lcq k text=some r):Pure Tryz.prog 9 [S text] (.tup [.agg [I r.1.Kind,S r.1.Name,S r.1.Op,I r.1.Value.Kind,I r.1.Value.Number,S r.1.Value.Words,I r.1.Value.Version.1,I r.1.Value.Version.2.1,I r.1.Value.Version.2.2.1,I r.1.Value.Version.2.2.2,.d (.ro r.1.Kids.n r.1.Kids.xs)],I r.2.1,I r.2.2]):=by
 unfold Lcq at h
 refine QP Tryz.func9 E E E<|gA 2 E<|Kpu hΓ E E E Z<|gO 12 E<|Kfq E (fun hb=>?_) (fun hb=>?_)
 ·have h1:=cT h hb
  exact gA 2 E<|Kdq hΓ (gs:=[I 0,S [],S [],I 0,I 0,S [],I 0,I 0,I 0,I 0,.d (.ro (KD.mk 0 []).n (KD.mk 0 []).xs)]) E E E E E E E<|Kpz hΓ E E E E E E E E Z<|Khg [.box 32 [I 0,S [],S [],I 0,I 0,S [],I 0,I 0,I 0,I 0,.d (.ro (KD.mk 0 []).n (KD.mk 0 []).xs)]] E<|gO 6 E<|oSi h1▸gP E E
 have h2:=cF h hb
 refine gA 5 E<|Kdq hΓ (gs:=[S text,S [],I 0,I 0,S [],I 0,I 0,S [],I 0,I 0,I 0,I 0,B false,I 0]) E E E E E E E<|Kpv E E E E Z<|bK h2 fun y3 hy3 h4=>gO 6 E<|Kgw [1] (.tup []) [.box 32 [I 0,S [],S [],I 0,I 0,S [],I 0,I 0,I 0,I 0,.d (.ro (KD.mk 0 []).n (KD.mk 0 []).xs)],.box 131 [S y3.s,S y3.tok.kind,I y3.tok.v_at,I y3.tok.v_end,S y3.tok.name,I y3.tok.value.Kind,I y3.tok.value.Number,S y3.tok.value.Words,I y3.tok.value.Version.1,I y3.tok.value.Version.2.1,I y3.tok.value.Version.2.2.1,I y3.tok.value.Version.2.2.2,B y3.bad,I y3.v_at]] C (Lhv hy3) E Z E E E E E E E E E E<|bK h4 fun y5 hy5 h6=>gO 5 E<|Kgw [1] (.agg [I y5.1.Kind,S y5.1.Name,S y5.1.Op,I y5.1.Value.Kind,I y5.1.Value.Number,S y5.1.Value.Words,I y5.1.Value.Version.1,I y5.1.Value.Version.2.1,I y5.1.Value.Version.2.2.1,I y5.1.Value.Version.2.2.2,.d (.ro y5.1.Kids.n y5.1.Kids.xs)]) [.box 32 [I 0,S [],S [],I 0,I 0,S [],I 0,I 0,I 0,I 0,.d (.ro (KD.mk 0 []).n (KD.mk 0 []).xs)],.box 131 [S y5.2.s,S y5.2.tok.kind,I y5.2.tok.v_at,I y5.2.tok.v_end,S y5.2.tok.name,I y5.2.tok.value.Kind,I y5.2.tok.value.Number,S y5.2.tok.value.Words,I y5.2.tok.value.Version.1,I y5.2.tok.value.Version.2.1,I y5.2.tok.value.Version.2.2.1,I y5.2.tok.value.Version.2.2.2,B y5.2.bad,I y5.2.v_at]] C (Ldm hy5) E Z E E E E E E E E E E<|Kpu hΓ E E E Z<|Kpz hΓ E E E E E E E E Z<|Khg [.box 32 [I 0,S [],S [],I 0,I 0,S [],I 0,I 0,I 0,I 0,.d (.ro (KD.mk 0 []).n (KD.mk 0 []).xs)],.box 131 [S y5.2.s,S y5.2.tok.kind,I y5.2.tok.v_at,I y5.2.tok.v_end,S y5.2.tok.name,I y5.2.tok.value.Kind,I y5.2.tok.value.Number,S y5.2.tok.value.Words,I y5.2.tok.value.Version.1,I y5.2.tok.value.Version.2.1,I y5.2.tok.value.Version.2.2.1,I y5.2.tok.value.Version.2.2.2,B y5.2.bad,I y5.2.v_at],.box 32 [I y5.1.Kind,S y5.1.Name,S y5.1.Op,I y5.1.Value.Kind,I y5.1.Value.Number,S y5.1.Value.Words,I y5.1.Value.Version.1,I y5.1.Value.Version.2.1,I y5.1.Value.Version.2.2.1,I y5.1.Value.Version.2.2.2,.d (.ro y5.1.Kids.n y5.1.Kids.xs)]] E<|gO 11 E<|Kfw 7 [(2,.ptr 0 0),(5,.ptr 1 0),(6,.ptr 2 0),(31,B ((!y5.2.bad)&&(!((y5.2.tok.kind:Str)==[101,110,100]))))] [.box 32 [I 0,S [],S [],I 0,I 0,S [],I 0,I 0,I 0,I 0,.d (.ro (KD.mk 0 []).n (KD.mk 0 []).xs)],.box 131 [S y5.2.s,S y5.2.tok.kind,I y5.2.tok.v_at,I y5.2.tok.v_end,S y5.2.tok.name,I y5.2.tok.value.Kind,I y5.2.tok.value.Number,S y5.2.tok.value.Words,I y5.2.tok.value.Version.1,I y5.2.tok.value.Version.2.1,I y5.2.tok.value.Version.2.2.1,I y5.2.tok.value.Version.2.2.2,B y5.2.bad,I y5.2.v_at],.box 32 [I y5.1.Kind,S y5.1.Name,S y5.1.Op,I y5.1.Value.Kind,I y5.1.Value.Number,S y5.1.Value.Words,I y5.1.Value.Version.1,I y5.1.Value.Version.2.1,I y5.1.Value.Version.2.2.1,I y5.1.Value.Version.2.2.2,.d (.ro y5.1.Kids.n y5.1.Kids.xs)]] ?_ ?_
 ·refine Koo E E (fun hb=>?_) (fun hb=>?_)
  ·exact gO 8 E<|⟨⟨E,E,E,Ket E (Khr hb),tV⟩,[],E,.inl E⟩
  exact gO 8 E<|⟨⟨E,E,E,Ket E (Khs hb),tV⟩,[],E,.inl E⟩
 refine bK h6 fun q7 hq7 h8=>gO 2 E<|Kjs [(2,.ptr 0 0),(5,.ptr 1 0),(6,.ptr 2 0)] [.box 32 [I 0,S [],S [],I 0,I 0,S [],I 0,I 0,I 0,I 0,.d (.ro (KD.mk 0 []).n (KD.mk 0 []).xs)],.box 131 [S q7.s,S q7.tok.kind,I q7.tok.v_at,I q7.tok.v_end,S q7.tok.name,I q7.tok.value.Kind,I q7.tok.value.Number,S q7.tok.value.Words,I q7.tok.value.Version.1,I q7.tok.value.Version.2.1,I q7.tok.value.Version.2.2.1,I q7.tok.value.Version.2.2.2,B q7.bad,I q7.v_at],.box 32 [I y5.1.Kind,S y5.1.Name,S y5.1.Op,I y5.1.Value.Kind,I y5.1.Value.Number,S y5.1.Value.Words,I y5.1.Value.Version.1,I y5.1.Value.Version.2.1,I y5.1.Value.Version.2.2.1,I y5.1.Value.Version.2.2.2,.d (.ro y5.1.Kids.n y5.1.Kids.xs)]] ?_ ?_
 ·refine jC E hq7 (fun h9=>?_) fun h12=>gA 1 E<|oSi h12▸⟨⟨E,E,E,tV⟩,[],E,.inl E⟩
  exact bK h9 fun y10 hy10 h11=>gA 2 E<|Kgw [1] (.agg [I y10.1.Kind,S y10.1.Name,S y10.1.Op,I y10.1.Value.Kind,I y10.1.Value.Number,S y10.1.Value.Words,I y10.1.Value.Version.1,I y10.1.Value.Version.2.1,I y10.1.Value.Version.2.2.1,I y10.1.Value.Version.2.2.2,.d (.ro y10.1.Kids.n y10.1.Kids.xs)]) [.box 32 [I 0,S [],S [],I 0,I 0,S [],I 0,I 0,I 0,I 0,.d (.ro (KD.mk 0 []).n (KD.mk 0 []).xs)],.box 131 [S y10.2.s,S y10.2.tok.kind,I y10.2.tok.v_at,I y10.2.tok.v_end,S y10.2.tok.name,I y10.2.tok.value.Kind,I y10.2.tok.value.Number,S y10.2.tok.value.Words,I y10.2.tok.value.Version.1,I y10.2.tok.value.Version.2.1,I y10.2.tok.value.Version.2.2.1,I y10.2.tok.value.Version.2.2.2,B y10.2.bad,I y10.2.v_at],.box 32 [I y5.1.Kind,S y5.1.Name,S y5.1.Op,I y5.1.Value.Kind,I y5.1.Value.Number,S y5.1.Value.Words,I y5.1.Value.Version.1,I y5.1.Value.Version.2.1,I y5.1.Value.Version.2.2.1,I y5.1.Value.Version.2.2.2,.d (.ro y5.1.Kids.n y5.1.Kids.xs)]] C (Lhw hy10) E Z E E E E E E E E E E<|gO 1 E<|oSi h11▸⟨⟨E,E,E,tV⟩,[],E,.inl E⟩
 refine gA 10 E<|jC E h8 (fun h13=>?_) fun h14=>bK h14 fun y15 hy15 h16=>gA 6 E<|Kgx C (Lfj hy15) E Z E E E E E<|gO 9 E<|jC E h16 (fun h17=>?_) fun h18=>?_
 ·exact gA 1 E<|Kiv [.dead,.box 131 [S q7.s,S q7.tok.kind,I q7.tok.v_at,I q7.tok.v_end,S q7.tok.name,I q7.tok.value.Kind,I q7.tok.value.Number,S q7.tok.value.Words,I q7.tok.value.Version.1,I q7.tok.value.Version.2.1,I q7.tok.value.Version.2.2.1,I q7.tok.value.Version.2.2.2,B q7.bad,I q7.v_at]] [4] [5] [] hmix (by kernel_rfl) (by kernel_rfl) ⟨E,tV⟩ Z<|ge_q E (.inl E) (fun _ _=>Kix (qt_p (Kji hΓ (gs:=[I 0,S [],S [],I 0,I 0,S [],I 0,I 0,I 0,I 0,.d (.ro (KD.mk 0 []).n (KD.mk 0 []).xs)]) E E E E E E)))<|go_E hΓ 4 E<|Kiz [.box 32 [I 0,S [],S [],I 0,I 0,S [],I 0,I 0,I 0,I 0,.d (.ro (KD.mk 0 []).n (KD.mk 0 []).xs)],.box 131 [S q7.s,S q7.tok.kind,I q7.tok.v_at,I q7.tok.v_end,S q7.tok.name,I q7.tok.value.Kind,I q7.tok.value.Number,S q7.tok.value.Words,I q7.tok.value.Version.1,I q7.tok.value.Version.2.1,I q7.tok.value.Version.2.2.1,I q7.tok.value.Version.2.2.2,B q7.bad,I q7.v_at],.box 32 [I y5.1.Kind,S y5.1.Name,S y5.1.Op,I y5.1.Value.Kind,I y5.1.Value.Number,S y5.1.Value.Words,I y5.1.Value.Version.1,I y5.1.Value.Version.2.1,I y5.1.Value.Version.2.2.1,I y5.1.Value.Version.2.2.2,.d (.ro y5.1.Kids.n y5.1.Kids.xs)]] E E (Kjb ⟨E,tV⟩) (Kjf (Kkd hΓ E E E E E E E E E))<|go_E hΓ 2 E<|Kiw<|gA 3 E<|oSi h13▸gP E E
 ·exact gA 2 E<|Kdq hΓ (gs:=[I 0,S [],S [],I 0,I 0,S [],I 0,I 0,I 0,I 0,.d (.ro (KD.mk 0 []).n (KD.mk 0 []).xs)]) E E E E E E E<|gO 1 E<|Kpz hΓ E E E E E E E E Z<|Khg [.box 32 [I 0,S [],S [],I 0,I 0,S [],I 0,I 0,I 0,I 0,.d (.ro (KD.mk 0 []).n (KD.mk 0 []).xs)],.box 131 [S q7.s,S q7.tok.kind,I q7.tok.v_at,I q7.tok.v_end,S q7.tok.name,I q7.tok.value.Kind,I q7.tok.value.Number,S q7.tok.value.Words,I q7.tok.value.Version.1,I q7.tok.value.Version.2.1,I q7.tok.value.Version.2.2.1,I q7.tok.value.Version.2.2.2,B q7.bad,I q7.v_at],.box 32 [I y5.1.Kind,S y5.1.Name,S y5.1.Op,I y5.1.Value.Kind,I y5.1.Value.Number,S y5.1.Value.Words,I y5.1.Value.Version.1,I y5.1.Value.Version.2.1,I y5.1.Value.Version.2.2.1,I y5.1.Value.Version.2.2.2,.d (.ro y5.1.Kids.n y5.1.Kids.xs)]] E<|gO 6 E<|oSi h17▸gP E E
 exact gA 5 E<|Kpz hΓ E E E E E E E E Z<|Khg [.box 32 [I y5.1.Kind,S y5.1.Name,S y5.1.Op,I y5.1.Value.Kind,I y5.1.Value.Number,S y5.1.Value.Words,I y5.1.Value.Version.1,I y5.1.Value.Version.2.1,I y5.1.Value.Version.2.2.1,I y5.1.Value.Version.2.2.2,.d (.ro y5.1.Kids.n y5.1.Kids.xs)],.box 131 [S q7.s,S q7.tok.kind,I q7.tok.v_at,I q7.tok.v_end,S q7.tok.name,I q7.tok.value.Kind,I q7.tok.value.Number,S q7.tok.value.Words,I q7.tok.value.Version.1,I q7.tok.value.Version.2.1,I q7.tok.value.Version.2.2.1,I q7.tok.value.Version.2.2.2,B q7.bad,I q7.v_at],.box 32 [I y5.1.Kind,S y5.1.Name,S y5.1.Op,I y5.1.Value.Kind,I y5.1.Value.Number,S y5.1.Value.Words,I y5.1.Value.Version.1,I y5.1.Value.Version.2.1,I y5.1.Value.Version.2.2.1,I y5.1.Value.Version.2.2.2,.d (.ro y5.1.Kids.n y5.1.Kids.xs)]] E<|gO 5 E<|oSi h18▸gP E E
theorem Ldo{k:Nat}{r:Bool}(h:Lcr k=some r):Pure Tryz.prog 12 [] (B r):=by
 unfold Lcr at h
 refine QP Tryz.func12 E E E<|bK h fun y1 hy1 h2=>gA 7 E<|Kgx C (Ldn hy1) E Z E E E E E<|gO 4 E<|Kpu hΓ E E E Z<|Kpz hΓ E E E E E E E E Z<|Khg [.box 32 [I y1.1.Kind,S y1.1.Name,S y1.1.Op,I y1.1.Value.Kind,I y1.1.Value.Number,S y1.1.Value.Words,I y1.1.Value.Version.1,I y1.1.Value.Version.2.1,I y1.1.Value.Version.2.2.1,I y1.1.Value.Version.2.2.2,.d (.ro y1.1.Kids.n y1.1.Kids.xs)]] E<|gO 9 E<|Kfw 4 [(0,B false),(1,.ptr 0 0),(15,B (((y1.2.2:Int)==0)&&((y1.1.Kind:Int)==1)))] [.box 32 [I y1.1.Kind,S y1.1.Name,S y1.1.Op,I y1.1.Value.Kind,I y1.1.Value.Number,S y1.1.Value.Words,I y1.1.Value.Version.1,I y1.1.Value.Version.2.1,I y1.1.Value.Version.2.2.1,I y1.1.Value.Version.2.2.2,.d (.ro y1.1.Kids.n y1.1.Kids.xs)]] ?_ ?_
 ·refine Koo E E (fun hb=>?_) (fun hb=>?_)
  ·exact gO 5 E<|⟨⟨E,E,Ket E (Khr hb),tV⟩,[],E,.inl E⟩
  exact gO 5 E<|⟨⟨E,E,Ket E (Khs hb),tV⟩,[],E,.inl E⟩
 refine gO 1 E<|Kfw 4 [(0,B false),(20,B ((((y1.2.2:Int)==0)&&((y1.1.Kind:Int)==1))&&((y1.1.Name:Str)==[97])))] [.box 32 [I y1.1.Kind,S y1.1.Name,S y1.1.Op,I y1.1.Value.Kind,I y1.1.Value.Number,S y1.1.Value.Words,I y1.1.Value.Version.1,I y1.1.Value.Version.2.1,I y1.1.Value.Version.2.2.1,I y1.1.Value.Version.2.2.2,.d (.ro y1.1.Kids.n y1.1.Kids.xs)]] ?_ ?_
 ·refine Koo E E (fun hb=>?_) (fun hb=>?_)
  ·exact gO 5 E<|⟨⟨E,Ket E (Khr hb),tV⟩,[],E,.inl E⟩
  exact gO 5 E<|⟨⟨E,Ket E (Khs hb),tV⟩,[],E,.inl E⟩
 exact gO 4 E<|oSi h2▸gP E E
theorem Ldp{k:Nat}{l:List Kyh}{fresh:Int}{r:List Int}(h:Lcs k l fresh=some r):EC Tryz.prog 111 [.d (Sl Kxv l),I fresh] [] fun g hp'=>g=.sl 0 r.length∧hp'=[rO 3 1 (eN .i64) r]:=by
 unfold Lcs at h
 refine QM Tryz.func111 E Z<|gA 7 E<|Kgt hΓ (enc:=(eN .i64)) [0,345686400] E E E E E E E E E E E E Z<|gO 11 E<|bK h fun q4 hq4 h5=>Kgg 9 E fun hb7=>Kjs [(5,.sl 0 q4.length)] [rO 3 1 (eN .i64) q4] ?_ ?_
 ·refine gA 1 E<|Khn l hq4 (fun i1 s2=>[(1,I fresh),(5,.sl 0 s2.length),(9,.d (Sl Kxv l)),(10,I (l.length:Int)),(11,I (i1:Int))]) (fun s2=>[rO 3 1 (eN .i64) s2]) ⟨⟨E,E,E,E,E,tV⟩,[],E,.inl E⟩ (fun i1 x3 s2 y11 hx8 hlt hy9=>?_) (?_)
  ·refine gA 6 E<|Kfr E (dT (Int.ofNat_lt.2 hlt))<|gA 6 E<|eo_o E (Kgh hΓ (enc:=Kxv) (Kga hx8) E E E E E (fun _=>E))<|gO 1 E<|Kpu hΓ E E E Z<|Kpz hΓ E E E E E E E E Z<|Khg [rO 3 1 (eN .i64) s2,.box 83 [I x3.At,S x3.Node,S x3.Name,I x3.Value.Kind,I x3.Value.Number,S x3.Value.Words,I x3.Value.Version.1,I x3.Value.Version.2.1,I x3.Value.Version.2.2.1,I x3.Value.Version.2.2.2]] E<|gO 11 E<|Kgr hΓ (enc:=(eN .i64)) [x3.At,(if 345686400<(wi (x3.At+fresh)) then 345686400 else wi (x3.At+fresh))] E E E E E E E E E E E E Z<|bK hy9 fun y12 hy12 h13=>Khh hΓ (enc:=(eN .i64)) hy12 E E E E E E E E E (fun _=>E) E E E E<|gO 8 E ?_
   cases h13
   exact⟨⟨E,E,E,E,Kes E (Ker (nLl hlt hb7)),tV⟩,[_],E,.inr ⟨HB.mk E,FB.mk E,Z⟩⟩
  exact gA 6 E<|Kfs E (dF (Int.lt_irrefl _))<|gA 4 E<|⟨⟨E,tV⟩,[],E,.inl E⟩
 exact bK h5 fun y14 hy14 h15=>gA 4 E<|Kgw [0] (.tup []) [rO 3 1 (eN .i64) y14] C (Kwu hy14) E Z E E E E E E E E E E<|gK h15 fun hg17 h16=>Kkc 5 E (of_decide_eq_true hg17).symm<|bK h16 fun y18 hy18 h19=>gO 5 E<|Kgw [0] (.sl 0 y18.length) [rO 3 1 (eN .i64) y18] C (Lgk hy18) E Z E E E E E E E E E E<|gO 4 E<|Kjn<|oSi h19▸Khl hΓ [] (.inr E) E E E E (.inl E)
theorem Ldq{k:Nat}{c:Kye}{r:List Kye}(h:Lct k c=some r):Pure Tryz.prog 185 [.agg [I c.Kind,S c.Name,S c.Op,I c.Value.Kind,I c.Value.Number,S c.Value.Words,I c.Value.Version.1,I c.Value.Version.2.1,I c.Value.Version.2.2.1,I c.Value.Version.2.2.2,.d (.ro c.Kids.n c.Kids.xs)]] (.d (Sl Kyf r)):=by
 induction k generalizing c r with
 | zero=>unfold Lct at h;cases h
 | succ k ih0=>
  have ih:∀ {c:Kye} {r:List Kye},Lct k c=some r→Pure Tryz.prog 185 [.agg [I c.Kind,S c.Name,S c.Op,I c.Value.Kind,I c.Value.Number,S c.Value.Words,I c.Value.Version.1,I c.Value.Version.2.1,I c.Value.Version.2.2.1,I c.Value.Version.2.2.2,.d (.ro c.Kids.n c.Kids.xs)]] (.d (Sl Kyf r)):=by intro c r h;first | exact ih0 h | exact ih0 _ _ h
  refine Pure.enter (Fr.of 0 _) Tryz.func185 E (Fr.of_ok _) E E ?_
  refine Kfp ?_
  unfold Lct at h
  refine gA 2 E ?_
  refine Kpv E E E E Z ?_
  refine gO 11 E ?_
  refine Kfq E (fun hb=>?_) (fun hb=>?_)
  ·have h1:=cT h hb
   refine gA 3 E ?_
   refine Kgr hΓ (enc:=Kyf) [c] E E E E E E E E E E E E Z ?_
   refine gO 5 E ?_
   obtain rfl:=oSi h1
   exact gP E E
  have h2:=cF h hb
  refine gA 4 E ?_
  refine Kgu (t:=0) 32 11 E Z ?_
  obtain⟨l3,hl3,h4⟩:=Kfx h2
  refine gO 6 E ?_
  refine eo_o E (Klt (Kpi hΓ (g:=.d (.ro c.Kids.n c.Kids.xs)) E) (G.Le.unk Ldg hl3)) ?_
  refine gO 4 E ?_
  obtain⟨q8,hq8,h9⟩:=Kfx h4
  refine Kgg 12 E fun hb11=>?_
  refine Kjs [(3,.sl 1 q8.length)] [.box 32 [I c.Kind,S c.Name,S c.Op,I c.Value.Kind,I c.Value.Number,S c.Value.Words,I c.Value.Version.1,I c.Value.Version.2.1,I c.Value.Version.2.2.1,I c.Value.Version.2.2.2,.d (.ro c.Kids.n c.Kids.xs)],rO 32 11 Kyf q8] ?_ ?_
  ·refine gA 1 E ?_
   refine Khn l3 hq8 (fun i5 s6=>[(3,.sl 1 s6.length),(12,.d (Sl Kyf l3)),(13,I (l3.length:Int)),(14,I (i5:Int))]) (fun s6=>[.box 32 [I c.Kind,S c.Name,S c.Op,I c.Value.Kind,I c.Value.Number,S c.Value.Words,I c.Value.Version.1,I c.Value.Version.2.1,I c.Value.Version.2.2.1,I c.Value.Version.2.2.2,.d (.ro c.Kids.n c.Kids.xs)],rO 32 11 Kyf s6]) ⟨⟨E,E,E,E,tV⟩,[],E,.inl E⟩ (fun i5 x7 s6 y15 hx12 hlt hy13=>?_) (?_)
   ·refine gA 6 E ?_
    refine Kfr E (dT (Int.ofNat_lt.2 hlt)) ?_
    refine gA 6 E ?_
    refine eo_o E (Kgh hΓ (enc:=Kyf) (Kga hx12) E E E E E (fun _=>E)) ?_
    refine gO 1 E ?_
    refine Kpu hΓ E E E Z ?_
    refine Kpz hΓ E E E E E E E E Z ?_
    refine Khg [.box 32 [I c.Kind,S c.Name,S c.Op,I c.Value.Kind,I c.Value.Number,S c.Value.Words,I c.Value.Version.1,I c.Value.Version.2.1,I c.Value.Version.2.2.1,I c.Value.Version.2.2.2,.d (.ro c.Kids.n c.Kids.xs)],rO 32 11 Kyf s6,.box 32 [I x7.Kind,S x7.Name,S x7.Op,I x7.Value.Kind,I x7.Value.Number,S x7.Value.Words,I x7.Value.Version.1,I x7.Value.Version.2.1,I x7.Value.Version.2.2.1,I x7.Value.Version.2.2.2,.d (.ro x7.Kids.n x7.Kids.xs)]] E ?_
    obtain⟨y16,hy16,h17⟩:=Kfx hy13
    refine gO 5 E ?_
    refine Kgx C (ih hy16) E Z E E E E E ?_
    obtain⟨y18,hy18,h19⟩:=Kfx h17
    refine Khh hΓ (enc:=Kyf) hy18 E E E E E E E E E (fun _=>E) E E E E ?_
    refine gO 8 E ?_
    obtain rfl:=oSi h19
    exact⟨⟨E,E,E,Kes E (Ker (nLl hlt hb11)),tV⟩,[_],E,.inr ⟨HB.mk E,FB.mk E,Z⟩⟩
   refine gA 6 E ?_
   refine Kfs E (dF (Int.lt_irrefl _)) ?_
   refine gA 4 E ?_
   exact⟨⟨E,tV⟩,[],E,.inl E⟩
  refine gA 5 E ?_
  refine Khd 1 [2,3,23] _ [.box 32 [I c.Kind,S c.Name,S c.Op,I c.Value.Kind,I c.Value.Number,S c.Value.Words,I c.Value.Version.1,I c.Value.Version.2.1,I c.Value.Version.2.2.1,I c.Value.Version.2.2.2,.d (.ro c.Kids.n c.Kids.xs)],.dead] E E E Z ?_
  refine gO 3 E ?_
  obtain rfl:=oSi h9
  exact gP E E
theorem Ldr{a:Kyd}{b:Kyd}{r:Int×Bool}(h:Lcv a b=some r):Pure Tryz.prog 56 [.agg [I a.Kind,I a.Number,S a.Words,I a.Version.1,I a.Version.2.1,I a.Version.2.2.1,I a.Version.2.2.2],.agg [I b.Kind,I b.Number,S b.Words,I b.Version.1,I b.Version.2.1,I b.Version.2.2.1,I b.Version.2.2.2]] (.tup [I r.1,B r.2]):=by
 unfold Lcv at h
 refine QP Tryz.func56 E E E<|gA 2 E<|Kpv E E E E Z<|Kpv E E E E Z<|gO 14 E<|jC E h (fun h1=>?_) fun h2=>gA 3 E<|Kmr (ds:=[.v (.int .i64 a.Kind),.v (.int .i64 a.Number),.v (.string ⟨a.Words.toArray⟩),.v (.int .i64 a.Version.1),.v (.int .i64 a.Version.2.1),.v (.int .i64 a.Version.2.2.1),.v (.int .i64 a.Version.2.2.2)]) 0 2 [.dead,.box 29 [I b.Kind,I b.Number,S b.Words,I b.Version.1,I b.Version.2.1,I b.Version.2.2.1,I b.Version.2.2.2]] E E E Z<|Kmr (ds:=[.v (.int .i64 b.Kind),.v (.int .i64 b.Number),.v (.string ⟨b.Words.toArray⟩),.v (.int .i64 b.Version.1),.v (.int .i64 b.Version.2.1),.v (.int .i64 b.Version.2.2.1),.v (.int .i64 b.Version.2.2.2)]) 1 3 [.dead,.dead] E E E Z<|jD<|bK h2 fun y3 hy3 h4=>gA 4 E<|Kgy C (Lfn hy3) E E E E E E<|bK h4 fun y5 hy5 h6=>Kfo hΓ 4 E<|Kgy C (Kwt hy5) E E E E E E<|Kfo hΓ 1 E<|gl_o E (Knd hΓ ([a.Version.1,a.Version.2.1,a.Version.2.2.1,a.Version.2.2.2]:List Int) E E E E E E E)<|Kfo hΓ 1 E<|gl_o E (Knd hΓ ([b.Version.1,b.Version.2.1,b.Version.2.2.1,b.Version.2.2.2]:List Int) E E E E E E E)<|bK h6 fun y7 hy7 h8=>Kgy C (Lga hy7) E E E E E E<|Kgs hΓ (enc:=(eN .i64)) [y3,y5,y7] E E E E E E E E E E E E<|bK h8 fun y9 hy9 h10=>Kgy C (Lfo hy9) E E E E E E<|Kfo hΓ 5 E<|oSi h10▸gP E E
 exact gA 8 E<|oSi h1▸gP E E
theorem Lds{c:Kye}{l:List Kyh}{fresh:Int}{node:Str}{v_at:Int}{r:Int}(h:Lcw c l fresh node v_at=some r):Pure Tryz.prog 186 [.agg [I c.Kind,S c.Name,S c.Op,I c.Value.Kind,I c.Value.Number,S c.Value.Words,I c.Value.Version.1,I c.Value.Version.2.1,I c.Value.Version.2.2.1,I c.Value.Version.2.2.2,.d (.ro c.Kids.n c.Kids.xs)],.d (Sl Kxv l),I fresh,S node,I v_at] (I r):=by
 unfold Lcw at h
 refine QP Tryz.func186 E E E<|gA 2 E<|Kpv E E E E Z<|bK h fun y1 hy1 h2=>gO 11 E<|Kgx C (Kal hy1) E Z E E E E E<|gO 3 E<|Kpu hΓ E E E Z<|Kpz hΓ E E E E E E E E Z<|Khg [.box 32 [I c.Kind,S c.Name,S c.Op,I c.Value.Kind,I c.Value.Number,S c.Value.Words,I c.Value.Version.1,I c.Value.Version.2.1,I c.Value.Version.2.2.1,I c.Value.Version.2.2.2,.d (.ro c.Kids.n c.Kids.xs)],.box 29 [I y1.1.Kind,I y1.1.Number,S y1.1.Words,I y1.1.Version.1,I y1.1.Version.2.1,I y1.1.Version.2.2.1,I y1.1.Version.2.2.2]] E<|bK h2 fun y3 hy3 h4=>gO 8 E<|Kgx C (Ldr hy3) E Z E E E E E<|gO 13 E<|Kfw 3 [(5,.ptr 0 0),(13,I y3.1),(38,B ((!y1.2)||(!y3.2)))] [.box 32 [I c.Kind,S c.Name,S c.Op,I c.Value.Kind,I c.Value.Number,S c.Value.Words,I c.Value.Version.1,I c.Value.Version.2.1,I c.Value.Version.2.2.1,I c.Value.Version.2.2.2,.d (.ro c.Kids.n c.Kids.xs)],.box 29 [I y1.1.Kind,I y1.1.Number,S y1.1.Words,I y1.1.Version.1,I y1.1.Version.2.1,I y1.1.Version.2.2.1,I y1.1.Version.2.2.2]] ?_ ?_
 ·refine Koo E E (fun hb=>?_) (fun hb=>?_)
  ·exact gO 4 E<|⟨⟨E,E,Ket E (or_t hb),tV⟩,[],E,.inl E⟩
  exact gO 4 E<|⟨⟨E,E,Ket E (or_f hb),tV⟩,[],E,.inl E⟩
 refine gO 2 E<|jC E h4 (fun h5=>?_) fun h6=>gA 4 E<|eo_s Z (nblt.1 E) (Kkv false)<|Khg [.box 32 [I c.Kind,S c.Name,S c.Op,I c.Value.Kind,I c.Value.Number,S c.Value.Words,I c.Value.Version.1,I c.Value.Version.2.1,I c.Value.Version.2.2.1,I c.Value.Version.2.2.2,.d (.ro c.Kids.n c.Kids.xs)],.box 29 [I y1.1.Kind,I y1.1.Number,S y1.1.Words,I y1.1.Version.1,I y1.1.Version.2.1,I y1.1.Version.2.2.1,I y1.1.Version.2.2.2],mObB ([]:List (Str×Bool))] E<|gO 2 E<|eo_u Z (Klf hΓ (kv:=kS) (agg:=false) (enc:=eB) (id:=2) ([]:List (Str×Bool)) [61,61] ((y3.1:Int)==0) E E E Kkq E E E E E)<|Khg [.box 32 [I c.Kind,S c.Name,S c.Op,I c.Value.Kind,I c.Value.Number,S c.Value.Words,I c.Value.Version.1,I c.Value.Version.2.1,I c.Value.Version.2.2.1,I c.Value.Version.2.2.2,.d (.ro c.Kids.n c.Kids.xs)],.box 29 [I y1.1.Kind,I y1.1.Number,S y1.1.Words,I y1.1.Version.1,I y1.1.Version.2.1,I y1.1.Version.2.2.1,I y1.1.Version.2.2.2],mObB (mSet ([]:List (Str×Bool)) [61,61] ((y3.1:Int)==0))] E<|gO 2 E<|eo_u Z (Klf hΓ (kv:=kS) (agg:=false) (enc:=eB) (id:=2) (mSet ([]:List (Str×Bool)) [61,61] ((y3.1:Int)==0)) [33,61] ((y3.1:Int) != 0) E E E Kkq E E E E E)<|Khg [.box 32 [I c.Kind,S c.Name,S c.Op,I c.Value.Kind,I c.Value.Number,S c.Value.Words,I c.Value.Version.1,I c.Value.Version.2.1,I c.Value.Version.2.2.1,I c.Value.Version.2.2.2,.d (.ro c.Kids.n c.Kids.xs)],.box 29 [I y1.1.Kind,I y1.1.Number,S y1.1.Words,I y1.1.Version.1,I y1.1.Version.2.1,I y1.1.Version.2.2.1,I y1.1.Version.2.2.2],mObB (mSet (mSet ([]:List (Str×Bool)) [61,61] ((y3.1:Int)==0)) [33,61] ((y3.1:Int) != 0))] E<|gO 2 E<|eo_u Z (Klf hΓ (kv:=kS) (agg:=false) (enc:=eB) (id:=2) (mSet (mSet ([]:List (Str×Bool)) [61,61] ((y3.1:Int)==0)) [33,61] ((y3.1:Int) != 0)) [60] (decide ((y3.1:Int)<0)) E E E Kkq E E E E E)<|Khg [.box 32 [I c.Kind,S c.Name,S c.Op,I c.Value.Kind,I c.Value.Number,S c.Value.Words,I c.Value.Version.1,I c.Value.Version.2.1,I c.Value.Version.2.2.1,I c.Value.Version.2.2.2,.d (.ro c.Kids.n c.Kids.xs)],.box 29 [I y1.1.Kind,I y1.1.Number,S y1.1.Words,I y1.1.Version.1,I y1.1.Version.2.1,I y1.1.Version.2.2.1,I y1.1.Version.2.2.2],mObB (mSet (mSet (mSet ([]:List (Str×Bool)) [61,61] ((y3.1:Int)==0)) [33,61] ((y3.1:Int) != 0)) [60] (decide ((y3.1:Int)<0)))] E<|gO 2 E<|eo_u Z (Klf hΓ (kv:=kS) (agg:=false) (enc:=eB) (id:=2) (mSet (mSet (mSet ([]:List (Str×Bool)) [61,61] ((y3.1:Int)==0)) [33,61] ((y3.1:Int) != 0)) [60] (decide ((y3.1:Int)<0))) [60,61] (decide ((y3.1:Int)≤0)) E E E Kkq E E E E E)<|Khg [.box 32 [I c.Kind,S c.Name,S c.Op,I c.Value.Kind,I c.Value.Number,S c.Value.Words,I c.Value.Version.1,I c.Value.Version.2.1,I c.Value.Version.2.2.1,I c.Value.Version.2.2.2,.d (.ro c.Kids.n c.Kids.xs)],.box 29 [I y1.1.Kind,I y1.1.Number,S y1.1.Words,I y1.1.Version.1,I y1.1.Version.2.1,I y1.1.Version.2.2.1,I y1.1.Version.2.2.2],mObB (mSet (mSet (mSet (mSet ([]:List (Str×Bool)) [61,61] ((y3.1:Int)==0)) [33,61] ((y3.1:Int) != 0)) [60] (decide ((y3.1:Int)<0))) [60,61] (decide ((y3.1:Int)≤0)))] E<|gO 2 E<|eo_u Z (Klf hΓ (kv:=kS) (agg:=false) (enc:=eB) (id:=2) (mSet (mSet (mSet (mSet ([]:List (Str×Bool)) [61,61] ((y3.1:Int)==0)) [33,61] ((y3.1:Int) != 0)) [60] (decide ((y3.1:Int)<0))) [60,61] (decide ((y3.1:Int)≤0))) [62] (decide ((y3.1:Int)>0)) E E E Kkq E E E E E)<|Khg [.box 32 [I c.Kind,S c.Name,S c.Op,I c.Value.Kind,I c.Value.Number,S c.Value.Words,I c.Value.Version.1,I c.Value.Version.2.1,I c.Value.Version.2.2.1,I c.Value.Version.2.2.2,.d (.ro c.Kids.n c.Kids.xs)],.box 29 [I y1.1.Kind,I y1.1.Number,S y1.1.Words,I y1.1.Version.1,I y1.1.Version.2.1,I y1.1.Version.2.2.1,I y1.1.Version.2.2.2],mObB (mSet (mSet (mSet (mSet (mSet ([]:List (Str×Bool)) [61,61] ((y3.1:Int)==0)) [33,61] ((y3.1:Int) != 0)) [60] (decide ((y3.1:Int)<0))) [60,61] (decide ((y3.1:Int)≤0))) [62] (decide ((y3.1:Int)>0)))] E<|gO 2 E<|eo_u Z (Klf hΓ (kv:=kS) (agg:=false) (enc:=eB) (id:=2) (mSet (mSet (mSet (mSet (mSet ([]:List (Str×Bool)) [61,61] ((y3.1:Int)==0)) [33,61] ((y3.1:Int) != 0)) [60] (decide ((y3.1:Int)<0))) [60,61] (decide ((y3.1:Int)≤0))) [62] (decide ((y3.1:Int)>0))) [62,61] (decide ((y3.1:Int)≥0)) E E E Kkq E E E E E)<|Khg [.box 32 [I c.Kind,S c.Name,S c.Op,I c.Value.Kind,I c.Value.Number,S c.Value.Words,I c.Value.Version.1,I c.Value.Version.2.1,I c.Value.Version.2.2.1,I c.Value.Version.2.2.2,.d (.ro c.Kids.n c.Kids.xs)],.box 29 [I y1.1.Kind,I y1.1.Number,S y1.1.Words,I y1.1.Version.1,I y1.1.Version.2.1,I y1.1.Version.2.2.1,I y1.1.Version.2.2.2],mObB (mSet (mSet (mSet (mSet (mSet (mSet ([]:List (Str×Bool)) [61,61] ((y3.1:Int)==0)) [33,61] ((y3.1:Int) != 0)) [60] (decide ((y3.1:Int)<0))) [60,61] (decide ((y3.1:Int)≤0))) [62] (decide ((y3.1:Int)>0))) [62,61] (decide ((y3.1:Int)≥0)))] E<|gO 3 E<|eo_o E (Kkz hΓ (kv:=kS) (agg:=false) (enc:=eB) (mSet (mSet (mSet (mSet (mSet (mSet ([]:List (Str×Bool)) [61,61] ((y3.1:Int)==0)) [33,61] ((y3.1:Int) != 0)) [60] (decide ((y3.1:Int)<0))) [60,61] (decide ((y3.1:Int)≤0))) [62] (decide ((y3.1:Int)>0))) [62,61] (decide ((y3.1:Int)≥0))) c.Op (false:Bool) E E E E Kkq E E E E E E E)<|gO 9 E<|jC E h6 (fun h7=>?_) fun h8=>?_
 ·exact gA 7 E<|oSi h5▸gP E E
 ·exact gA 7 E<|oSi h7▸gP E E
 exact gA 8 E<|oSi h8▸gP E E
theorem Ldt{k:Nat}{c:Kye}{l:List Kyh}{fresh:Int}{node:Str}{v_at:Int}{r:List Int}(h:Lcx k c l fresh node v_at=some r):EC Tryz.prog 107 [.agg [I c.Kind,S c.Name,S c.Op,I c.Value.Kind,I c.Value.Number,S c.Value.Words,I c.Value.Version.1,I c.Value.Version.2.1,I c.Value.Version.2.2.1,I c.Value.Version.2.2.2,.d (.ro c.Kids.n c.Kids.xs)],.d (Sl Kxv l),I fresh,S node,I v_at] [] fun g hp'=>g=.sl 0 r.length∧hp'=[rO 3 1 (eN .i64) r]:=by
 unfold Lcx at h
 refine QM Tryz.func107 E Z<|gA 2 E<|Kpv E E E E Z<|gO 5 E<|Kgu (t:=0) 3 1 E Z<|bK h fun y1 hy1 h2=>gO 6 E<|Kgx C (Ldq hy1) E Z E E E E E<|gO 4 E<|bK h2 fun q6 hq6 h7=>Kgg 15 E fun hb9=>Kjs [(11,.sl 1 q6.length)] [.box 32 [I c.Kind,S c.Name,S c.Op,I c.Value.Kind,I c.Value.Number,S c.Value.Words,I c.Value.Version.1,I c.Value.Version.2.1,I c.Value.Version.2.2.1,I c.Value.Version.2.2.2,.d (.ro c.Kids.n c.Kids.xs)],rO 3 1 (eN .i64) q6] ?_ ?_
 ·refine gA 1 E<|Khn y1 hq6 (fun i3 s4=>[(1,.d (Sl Kxv l)),(2,I fresh),(3,S node),(4,I v_at),(11,.sl 1 s4.length),(15,.d (Sl Kyf y1)),(16,I (y1.length:Int)),(17,I (i3:Int))]) (fun s4=>[.box 32 [I c.Kind,S c.Name,S c.Op,I c.Value.Kind,I c.Value.Number,S c.Value.Words,I c.Value.Version.1,I c.Value.Version.2.1,I c.Value.Version.2.2.1,I c.Value.Version.2.2.2,.d (.ro c.Kids.n c.Kids.xs)],rO 3 1 (eN .i64) s4]) ⟨⟨E,E,E,E,E,E,E,E,tV⟩,[],E,.inl E⟩ (fun i3 x5 s4 y13 hx10 hlt hy11=>?_) (?_)
  ·refine gA 6 E<|Kfr E (dT (Int.ofNat_lt.2 hlt))<|gA 6 E<|eo_o E (Kgh hΓ (enc:=Kyf) (Kga hx10) E E E E E (fun _=>E))<|gO 1 E<|Kpu hΓ E E E Z<|Kpz hΓ E E E E E E E E Z<|Khg [.box 32 [I c.Kind,S c.Name,S c.Op,I c.Value.Kind,I c.Value.Number,S c.Value.Words,I c.Value.Version.1,I c.Value.Version.2.1,I c.Value.Version.2.2.1,I c.Value.Version.2.2.2,.d (.ro c.Kids.n c.Kids.xs)],rO 3 1 (eN .i64) s4,.box 32 [I x5.Kind,S x5.Name,S x5.Op,I x5.Value.Kind,I x5.Value.Number,S x5.Value.Words,I x5.Value.Version.1,I x5.Value.Version.2.1,I x5.Value.Version.2.2.1,I x5.Value.Version.2.2.2,.d (.ro x5.Kids.n x5.Kids.xs)]] E<|bK hy11 fun y14 hy14 h15=>gO 9 E<|Kgx C (Lds hy14) E Z E E E E E<|Kgr hΓ (enc:=(eN .i64)) [y14] E E E E E E E E E E E E Z<|bK h15 fun y16 hy16 h17=>Khh hΓ (enc:=(eN .i64)) hy16 E E E E E E E E E (fun _=>E) E E E E<|gO 8 E ?_
   cases h17
   exact⟨⟨E,E,E,E,E,E,E,Kes E (Ker (nLl hlt hb9)),tV⟩,[_],E,.inr ⟨HB.mk E,FB.mk E,Z⟩⟩
  exact gA 6 E<|Kfs E (dF (Int.lt_irrefl _))<|gA 4 E<|⟨⟨E,tV⟩,[],E,.inl E⟩
 exact gA 8 E<|Klh 0 [.dead,rO 3 1 (eN .i64) q6] E Z<|Kjq 1 0 [rO 3 1 (eN .i64) q6,.dead] E E E E E E<|Kjn<|oSi h7▸Khl hΓ [_] (.inr E) E E E E (.inr ⟨HB.mk E,E⟩)
theorem Ldu{s:List Int}{v:Int}{r:Int}(h:Lcy s v=some r):Pure Tryz.prog 237 [.d (Sl (eN .i64) s),I v] (I r):=by
 unfold Lcy at h
 refine QP Tryz.func237 E E E<|gA 13 E<|bK h fun q4 hq4 h5=>Kgg 0 E fun hb7=>Kjr (R:=fun a6=>q4=.go a6) (fun a6=>[]) (fun a6=>[]) ?_ ?_
 ·refine gA 1 E<|Kgf s hq4 (fun i1 s2=>[(0,.d (Sl (eN .i64) s)),(1,I v),(7,I (s.length:Int)),(8,I (i1:Int))]) (fun s2=>[]) ⟨⟨E,E,E,E,tV⟩,[],E,.inl E⟩ (fun i1 x3 s2 y11 hx8 hlt hy9 hout10=>?_) (fun s2 hgo=>?_)
  ·refine gA 6 E<|Kfr E (dT (Int.ofNat_lt.2 hlt))<|gA 15 E<|eo_o E (Kgh hΓ (enc:=(eN .i64)) (Kga hx8) E E E E E (fun _=>E))<|gO 4 E<|jC E hy9 (fun h12=>?_) fun h15=>gA 7 E ?_
   ·refine gA 9 E<|bK h12 fun v13 hv13 h14=>?_
    cases h14
    obtain rfl:=hout10 _ rfl
    cases h5
    exact gA 4 E<|oSi hv13▸gP E E
   cases h15
   exact⟨_,E,⟨⟨E,E,E,Kes E (Ker (nLl hlt hb7)),tV⟩,[],E,.inl E⟩⟩
  subst hgo
  exact gA 6 E<|Kfs E (dF (Int.lt_irrefl _))<|gA 4 E<|⟨_,E,⟨tV,[],E,.inl E⟩⟩
 intro a6 ha
 subst ha
 replace h5:=Kjl h5
 exact gA 7 E<|oSi h5▸gP E E
theorem Ldv{s:List Int}{v:Int}{r:Bool}(h:Lcz s v=some r):Pure Tryz.prog 184 [.d (Sl (eN .i64) s),I v] (B r):=by
 unfold Lcz at h
 exact QP Tryz.func184 E E E<|bK h fun y1 hy1 h2=>gA 9 E<|Kgx C (Ldu hy1) E Z E E E E E<|gO 5 E<|oSi h2▸gP E E
theorem Ldw{k:Nat}{c:Kye}{known:List Int}{n:Int}{r:Int}(h:Lda k c known n=some r):Pure Tryz.prog 106 [.agg [I c.Kind,S c.Name,S c.Op,I c.Value.Kind,I c.Value.Number,S c.Value.Words,I c.Value.Version.1,I c.Value.Version.2.1,I c.Value.Version.2.2.1,I c.Value.Version.2.2.2,.d (.ro c.Kids.n c.Kids.xs)],.d (Sl (eN .i64) known),I n] (I r):=by
 induction k generalizing c known n r with
 | zero=>unfold Lda at h;cases h
 | succ k ih0=>
  have ih:∀ {c:Kye} {known:List Int} {n:Int} {r:Int},Lda k c known n=some r→Pure Tryz.prog 106 [.agg [I c.Kind,S c.Name,S c.Op,I c.Value.Kind,I c.Value.Number,S c.Value.Words,I c.Value.Version.1,I c.Value.Version.2.1,I c.Value.Version.2.2.1,I c.Value.Version.2.2.2,.d (.ro c.Kids.n c.Kids.xs)],.d (Sl (eN .i64) known),I n] (I r):=by intro c known n r h;first | exact ih0 h | exact ih0 _ _ _ _ h
  refine Pure.enter (Fr.of 0 _) Tryz.func106 E (Fr.of_ok _) E E ?_
  refine Kfp ?_
  unfold Lda at h
  refine gA 2 E ?_
  refine Kpv E E E E Z ?_
  refine gO 11 E ?_
  refine Kfq E (fun hb=>?_) (fun hb=>?_)
  ·have h1:=cT h hb
   obtain⟨x2,hx2,h3⟩:=Kfx h1
   refine gA 4 E ?_
   refine eo_o E (Kgh hΓ (enc:=(eN .i64)) hx2 E E E E E (fun _=>E)) ?_
   refine gO 6 E ?_
   obtain rfl:=oSi h3
   exact gP E E
  have h4:=cF h hb
  refine gA 4 E ?_
  refine Kgu (t:=0) 3 1 E Z ?_
  obtain⟨l5,hl5,h6⟩:=Kfx h4
  refine gO 6 E ?_
  refine eo_o E (Klt (Kpi hΓ (g:=.d (.ro c.Kids.n c.Kids.xs)) E) (G.Le.unk Ldg hl5)) ?_
  refine gO 4 E ?_
  obtain⟨q10,hq10,h11⟩:=Kfx h6
  refine Kgg 20 E fun hb13=>?_
  refine Kjs [(3,.ptr 0 0),(7,.sl 1 q10.1.length)] [.box 32 [I c.Kind,S c.Name,S c.Op,I c.Value.Kind,I c.Value.Number,S c.Value.Words,I c.Value.Version.1,I c.Value.Version.2.1,I c.Value.Version.2.2.1,I c.Value.Version.2.2.2,.d (.ro c.Kids.n c.Kids.xs)],rO 3 1 (eN .i64) q10.1] ?_ ?_
  ·refine gA 1 E ?_
   refine Khn l5 hq10 (fun i7 s8=>[(1,.d (Sl (eN .i64) known)),(2,I s8.2),(3,.ptr 0 0),(7,.sl 1 s8.1.length),(20,.d (Sl Kyf l5)),(21,I (l5.length:Int)),(22,I (i7:Int))]) (fun s8=>[.box 32 [I c.Kind,S c.Name,S c.Op,I c.Value.Kind,I c.Value.Number,S c.Value.Words,I c.Value.Version.1,I c.Value.Version.2.1,I c.Value.Version.2.2.1,I c.Value.Version.2.2.2,.d (.ro c.Kids.n c.Kids.xs)],rO 3 1 (eN .i64) s8.1]) ⟨⟨E,E,E,E,E,E,E,tV⟩,[],E,.inl E⟩ (fun i7 x9 s8 y17 hx14 hlt hy15=>?_) (?_)
   ·refine gA 6 E ?_
    refine Kfr E (dT (Int.ofNat_lt.2 hlt)) ?_
    refine gA 6 E ?_
    refine eo_o E (Kgh hΓ (enc:=Kyf) (Kga hx14) E E E E E (fun _=>E)) ?_
    refine gO 1 E ?_
    refine Kpu hΓ E E E Z ?_
    refine Kpz hΓ E E E E E E E E Z ?_
    refine Khg [.box 32 [I c.Kind,S c.Name,S c.Op,I c.Value.Kind,I c.Value.Number,S c.Value.Words,I c.Value.Version.1,I c.Value.Version.2.1,I c.Value.Version.2.2.1,I c.Value.Version.2.2.2,.d (.ro c.Kids.n c.Kids.xs)],rO 3 1 (eN .i64) s8.1,.box 32 [I x9.Kind,S x9.Name,S x9.Op,I x9.Value.Kind,I x9.Value.Number,S x9.Value.Words,I x9.Value.Version.1,I x9.Value.Version.2.1,I x9.Value.Version.2.2.1,I x9.Value.Version.2.2.2,.d (.ro x9.Kids.n x9.Kids.xs)]] E ?_
    obtain⟨y18,hy18,h19⟩:=Kfx hy15
    refine gO 8 E ?_
    refine Kgx C (ih hy18) E Z E E E E E ?_
    refine Kgr hΓ (enc:=(eN .i64)) [y18] E E E E E E E E E E E E Z ?_
    obtain⟨y20,hy20,h21⟩:=Kfx h19
    refine Khh hΓ (enc:=(eN .i64)) hy20 E E E E E E E E E (fun _=>E) E E E E ?_
    obtain⟨y22,hy22,h23⟩:=Kfx h21
    refine gO 6 E ?_
    refine Kgx C (Lgr hy22) E Z E E E E E ?_
    refine gO 9 E ?_
    obtain rfl:=oSi h23
    exact⟨⟨E,E,E,E,E,E,Kes E (Ker (nLl hlt hb13)),tV⟩,[_],E,.inr ⟨HB.mk E,FB.mk E,Z⟩⟩
   refine gA 6 E ?_
   refine Kfs E (dF (Int.lt_irrefl _)) ?_
   refine gA 4 E ?_
   exact⟨⟨E,E,tV⟩,[],E,.inl E⟩
  obtain⟨q24,hq24,h25⟩:=Kfx h11
  refine gA 14 E ?_
  refine Kju (q:=q24) (fun a26=>[(7,.sl 1 q10.1.length),(10,I a26.1),(11,I a26.2)]) (fun a26=>[.box 32 [I c.Kind,S c.Name,S c.Op,I c.Value.Kind,I c.Value.Number,S c.Value.Words,I c.Value.Version.1,I c.Value.Version.2.1,I c.Value.Version.2.2.1,I c.Value.Version.2.2.2,.d (.ro c.Kids.n c.Kids.xs)],rO 3 1 (eN .i64) q10.1]) ?_ ?_
  ·refine gA 7 E ?_
   refine Kfq E (fun hb=>?_) (fun hb=>?_)
   ·have h27:=cT hq24 hb
    refine gA 2 E ?_
    refine Kgr hΓ (enc:=(eN .i64)) [1,0,2] E E E E E E E E E E E E Z ?_
    obtain⟨x28,hx28,h29⟩:=Kfx h27
    have hj30:=Khq hx28
    refine gO 1 E ?_
    refine eo_o E (Kgj hΓ hx28 E E E E E E) ?_
    refine eo_o E (Kgo hΓ (sz:=1) (enc:=(eN .i64)) ((0:Int).toNat) 0 hj30 E E E E (fun _=>E) (g:=I x28) E) ?_
    obtain⟨x31,hx31,h32⟩:=Kfx h29
    refine eo_o E (Kgh hΓ (enc:=(eN .i64)) hx31 E E E E E (fun _=>E)) ?_
    refine gO 6 E ?_
    obtain⟨v33,hv33,h34⟩:=Kfx h32
    obtain rfl:=oSi h34
    obtain rfl:=oSi h25
    refine gA 2 E ?_
    obtain rfl:=oSi hv33
    exact gP E E
   have h35:=cF hq24 hb
   refine gA 6 E ?_
   refine Kfq E (fun hb=>?_) (fun hb=>?_)
   ·have h36:=cT h35 hb
    refine gA 7 E ?_
    obtain rfl:=oSi h36
    exact⟨_,E,⟨⟨E,E,E,tV⟩,[],E,.inl E⟩⟩
   have h37:=cF h35 hb
   refine gA 2 E ?_
   obtain rfl:=oSi h37
   exact⟨_,E,⟨⟨E,E,E,tV⟩,[],E,.inl E⟩⟩
  intro a26 ha
  subst ha
  replace h25:=Kjk h25
  obtain⟨y38,hy38,h39⟩:=Kfx h25
  refine gA 7 E ?_
  refine Kha C (Ldv hy38) E Z E E E E E ?_
  refine gO 3 E ?_
  refine Kfq E (fun hb=>?_) (fun hb=>?_)
  ·have h40:=cT h39 hb
   refine gA 9 E ?_
   obtain rfl:=oSi h40
   exact gP E E
  have h41:=cF h39 hb
  obtain⟨y42,hy42,h43⟩:=Kfx h41
  refine gA 3 E ?_
  refine Kha C (Ldv hy42) E Z E E E E E ?_
  refine gO 3 E ?_
  refine Kfq E (fun hb=>?_) (fun hb=>?_)
  ·have h44:=cT h43 hb
   refine gA 8 E ?_
   obtain rfl:=oSi h44
   exact gP E E
  have h45:=cF h43 hb
  refine gA 10 E ?_
  obtain rfl:=oSi h45
  exact gP E E
theorem Ldx{k:Nat}{c:Kye}{l:List Kyh}{fresh:Int}{node:Str}{v_at:Int}{r:Int}(h:Ldb k c l fresh node v_at=some r):Pure Tryz.prog 30 [.agg [I c.Kind,S c.Name,S c.Op,I c.Value.Kind,I c.Value.Number,S c.Value.Words,I c.Value.Version.1,I c.Value.Version.2.1,I c.Value.Version.2.2.1,I c.Value.Version.2.2.2,.d (.ro c.Kids.n c.Kids.xs)],.d (Sl Kxv l),I fresh,S node,I v_at] (I r):=by
 unfold Ldb at h
 exact QP Tryz.func30 E E E<|gA 2 E<|Kpv E E E E Z<|gO 4 E<|jD<|bK h fun y1 hy1 h2=>gA 6 E<|Kgy C (Pure.rows (Ldt hy1) E E) E E E E E E<|bK h2 fun y3 hy3 h4=>Kgy C (Ldw hy3) E E E E E E<|Kfo hΓ 4 E<|oSi h4▸gP E E
theorem Ldy{k:Nat}{p:List Kyg}{l:List Kyh}{fresh:Int}{nodes:List Str}{v_at:Int}{r:List Kyk}(h:Ldc k p l fresh nodes v_at=some r):EC Tryz.prog 43 [.d (Sl Kxu p),.d (Sl Kxv l),I fresh,.d (Sl eS nodes),I v_at] [] fun g hp'=>g=.sl 0 r.length∧hp'=[rO 78 2 Kxx r]:=by
 unfold Ldc at h
 refine QM Tryz.func43 E Z<|gA 7 E<|Kgu (t:=0) 78 2 E Z<|gO 10 E<|bK h fun q4 hq4 h5=>Kgg 16 E fun hb7=>Kjs [(11,.sl 0 q4.length)] [rO 78 2 Kxx q4] ?_ ?_
 ·refine gA 1 E<|Khn nodes hq4 (fun i1 s2=>[(0,.d (Sl Kxu p)),(1,.d (Sl Kxv l)),(2,I fresh),(4,I v_at),(11,.sl 0 s2.length),(16,.d (Sl eS nodes)),(17,I (nodes.length:Int)),(18,I (i1:Int))]) (fun s2=>[rO 78 2 Kxx s2]) ⟨⟨E,E,E,E,E,E,E,E,tV⟩,[],E,.inl E⟩ (fun i1 x3 s2 y11 hx8 hlt hy9=>?_) (?_)
  ·refine gA 6 E<|Kfr E (dT (Int.ofNat_lt.2 hlt))<|gA 6 E<|eo_o E (Kgh hΓ (enc:=eS) (Kga hx8) E E E E E (fun _=>E))<|gO 11 E<|bK hy9 fun q15 hq15 h16=>Kgg 0 E fun hb18=>Kjs [(0,.d (Sl Kxu p)),(1,.d (Sl Kxv l)),(2,I fresh),(4,I v_at),(11,.sl 0 q15.length),(16,.d (Sl eS nodes)),(17,I (nodes.length:Int)),(18,I (i1:Int))] [rO 78 2 Kxx q15] ?_ ?_
   ·refine gA 1 E<|Khn p hq15 (fun i12 s13=>[(0,.d (Sl Kxu p)),(1,.d (Sl Kxv l)),(2,I fresh),(4,I v_at),(11,.sl 0 s13.length),(13,S x3),(16,.d (Sl eS nodes)),(17,I (nodes.length:Int)),(18,I (i1:Int)),(22,.d (Sl Kxu p)),(23,I (p.length:Int)),(24,I (i12:Int))]) (fun s13=>[rO 78 2 Kxx s13]) ⟨⟨E,E,E,E,E,E,E,E,E,E,E,E,tV⟩,[],E,.inl E⟩ (fun i12 x14 s13 y22 hx19 hlt hy20=>?_) (?_)
    ·refine gA 6 E<|Kfr E (dT (Int.ofNat_lt.2 hlt))<|gA 6 E<|eo_o E (Kgh hΓ (enc:=Kxu) (Kga hx19) E E E E E (fun _=>E))<|gO 1 E<|Kpu hΓ E E E Z<|Kpz hΓ E E E E E E E E Z<|Khg [rO 78 2 Kxx s13,.box 159 [S x14.Key,I x14.Cond.Kind,S x14.Cond.Name,S x14.Cond.Op,I x14.Cond.Value.Kind,I x14.Cond.Value.Number,S x14.Cond.Value.Words,I x14.Cond.Value.Version.1,I x14.Cond.Value.Version.2.1,I x14.Cond.Value.Version.2.2.1,I x14.Cond.Value.Version.2.2.2,.d (.ro x14.Cond.Kids.n x14.Cond.Kids.xs)]] E<|bK hy20 fun y23 hy23 h24=>gO 10 E<|Kgx C (Ldx hy23) E Z E E E E E<|gO 3 E<|jC E h24 (fun h25=>?_) fun h28=>gA 7 E ?_
     ·refine gA 5 E<|Kdq hΓ (gs:=[S x3,S x14.Key]) E E E E E E E<|Kgr hΓ (enc:=Kxx) [(⟨x3,x14.Key⟩:Kyk)] E E E E E E E E E E E E Z<|bK h25 fun y26 hy26 h27=>Khh hΓ (enc:=Kxx) hy26 E E E E E E E E E (fun _=>E) E E E E<|gO 8 E ?_
      cases h27
      exact⟨⟨E,E,E,E,E,E,E,E,E,E,E,Kes E (Ker (nLl hlt hb18)),tV⟩,[_],E,.inr ⟨HB.mk E,FB.mk E,Z⟩⟩
     cases h28
     exact⟨⟨E,E,E,E,E,E,E,E,E,E,E,Kes E (Ker (nLl hlt hb18)),tV⟩,[_],E,.inr ⟨HB.mk E,FB.mk E,Z⟩⟩
    exact gA 6 E<|Kfs E (dF (Int.lt_irrefl _))<|gA 4 E<|⟨⟨E,E,E,E,E,E,E,E,tV⟩,[],E,.inl E⟩
   refine gA 6 E ?_
   cases h16
   exact⟨⟨E,E,E,E,E,E,E,Kes E (Ker (nLl hlt hb7)),tV⟩,[],E,.inl E⟩
  exact gA 6 E<|Kfs E (dF (Int.lt_irrefl _))<|gA 4 E<|⟨⟨E,tV⟩,[],E,.inl E⟩
 exact gA 8 E<|Kjn<|oSi h5▸Khl hΓ [] (.inr E) E E E E (.inl E)
theorem Ldz{s1:List Kyk}{s2:List Kyk}{r:Bool}(h:Ldd s1 s2=some r):Pure Tryz.prog 42 [.d (Sl Kxx s1),.d (Sl Kxx s2)] (B r):=by
 unfold Ldd at h
 refine QP Tryz.func42 E E E<|gA 15 E<|jC E h (fun h1=>?_) fun h2=>gA 10 E<|bK h2 fun q6 hq6 h7=>Kgg 0 E fun hb9=>Kjr (R:=fun a8=>q6=.go a8) (fun a8=>[]) (fun a8=>[]) ?_ ?_
 ·exact gA 7 E<|oSi h1▸gP E E
 ·refine gA 1 E<|Kgf s1 hq6 (fun i3 s4=>[(0,.d (Sl Kxx s1)),(1,.d (Sl Kxx s2)),(12,I (s1.length:Int)),(13,I (i3:Int))]) (fun s4=>[]) ⟨⟨E,E,E,E,tV⟩,[],E,.inl E⟩ (fun i3 x5 s4 y13 hx10 hlt hy11 hout12=>?_) (fun s4 hgo=>?_)
  ·refine gA 6 E<|Kfr E (dT (Int.ofNat_lt.2 hlt))<|gA 11 E<|jD<|gA 2 E<|gl_o E (Kgh hΓ (enc:=Kxx) (Kga hx10) E E E E E (fun _=>E))<|bK hy11 fun x14 hx14 h15=>Kfo hΓ 3 E<|gl_o E (Kgh hΓ (enc:=Kxx) hx14 E E E E E (fun _=>E))<|Kfo hΓ 1 E<|gl_o E (Khu hΓ [78] (b:=(((x5.Node:Str)==x14.Node)&&(((x5.Posture:Str)==x14.Posture)&&true))) (by kernel_rfl) (by kernel_rfl) E E E)<|Kfo hΓ 2 E<|jC E h15 (fun h16=>?_) fun h19=>gA 7 E ?_
   ·refine gA 8 E<|bK h16 fun v17 hv17 h18=>?_
    cases h18
    obtain rfl:=hout12 _ rfl
    cases h7
    exact gA 4 E<|oSi hv17▸gP E E
   cases h19
   exact⟨_,E,⟨⟨E,E,E,Kes E (Ker (nLl hlt hb9)),tV⟩,[],E,.inl E⟩⟩
  subst hgo
  exact gA 6 E<|Kfs E (dF (Int.lt_irrefl _))<|gA 4 E<|⟨_,E,⟨tV,[],E,.inl E⟩⟩
 intro a8 ha
 subst ha
 replace h7:=Kjl h7
 exact gA 7 E<|oSi h7▸gP E E
theorem Lea{k:Nat}{p:List Kyg}{l:List Kyh}{fresh:Int}{nodes:List Str}{v_at:Int}{r:Int×Bool}(h:Lde k p l fresh nodes v_at=some r):Pure Tryz.prog 41 [.d (Sl Kxu p),.d (Sl Kxv l),I fresh,.d (Sl eS nodes),I v_at] (.tup [I r.1,B r.2]):=by
 unfold Lde at h
 refine QP Tryz.func41 E E E<|bK h fun y1 hy1 h2=>gA 11 E<|Kgx C (Pure.rows (Ldp hy1) E E) E Z E E E E E<|gO 4 E<|bK h2 fun q6 hq6 h7=>Kgg 16 E fun hb9=>Kjr (R:=fun a8=>q6=.go a8) (fun a8=>[]) (fun a8=>[]) ?_ ?_
 ·refine gA 1 E<|Kgf y1 hq6 (fun i3 s4=>[(0,.d (Sl Kxu p)),(1,.d (Sl Kxv l)),(2,I fresh),(3,.d (Sl eS nodes)),(4,I v_at),(16,.d (Sl (eN .i64) y1)),(17,I (y1.length:Int)),(18,I (i3:Int))]) (fun s4=>[]) ⟨⟨E,E,E,E,E,E,E,E,tV⟩,[],E,.inl E⟩ (fun i3 x5 s4 y13 hx10 hlt hy11 hout12=>?_) (fun s4 hgo=>?_)
  ·refine gA 6 E<|Kfr E (dT (Int.ofNat_lt.2 hlt))<|gA 6 E<|eo_o E (Kgh hΓ (enc:=(eN .i64)) (Kga hx10) E E E E E (fun _=>E))<|gO 10 E<|Kfw 3 [(0,.d (Sl Kxu p)),(1,.d (Sl Kxv l)),(2,I fresh),(3,.d (Sl eS nodes)),(4,I v_at),(13,I x5),(16,.d (Sl (eN .i64) y1)),(17,I (y1.length:Int)),(18,I (i3:Int)),(28,B ((decide ((x5:Int)>v_at))&&(decide ((x5:Int)<345686400))))] [] ?_ ?_
   ·refine Koo E E (fun hb=>?_) (fun hb=>?_)
    ·exact gO 4 E<|⟨⟨E,E,E,E,E,E,E,E,E,Ket E (Khr hb),tV⟩,[],E,.inl E⟩
    exact gO 4 E<|⟨⟨E,E,E,E,E,E,E,E,E,Ket E (Khs hb),tV⟩,[],E,.inl E⟩
   refine gO 1 E<|bK hy11 fun q14 hq14 h15=>Kfw 16 [(0,.d (Sl Kxu p)),(1,.d (Sl Kxv l)),(2,I fresh),(3,.d (Sl eS nodes)),(4,I v_at),(13,I x5),(16,.d (Sl (eN .i64) y1)),(17,I (y1.length:Int)),(18,I (i3:Int)),(45,B q14)] [] ?_ ?_
   ·refine Koo E E (fun hb=>?_) (fun hb=>?_)
    ·have h16:=cT hq14 hb
     exact bK h16 fun y17 hy17 h18=>gO 5 E<|Kom E<|Kgx C (Pure.rows (Ldy hy17) E E) E Z E E E E E<|bK h18 fun y19 hy19 h20=>gO 6 E<|Kom E<|Kgx C (Pure.rows (Ldy hy19) E E) E Z E E E E E<|bK h20 fun y21 hy21 h22=>Kom E<|Kgx C (Ldz hy21) E Z E E E E E<|gO 3 E<|oSi h22▸⟨⟨E,E,E,E,E,E,E,E,E,E,tV⟩,[],E,.inl E⟩
    have h23:=cF hq14 hb
    exact gO 17 E<|oSi h23▸⟨⟨E,E,E,E,E,E,E,E,E,E,tV⟩,[],E,.inl E⟩
   refine gO 2 E<|jC E h15 (fun h24=>?_) fun h27=>gA 7 E ?_
   ·refine gA 10 E<|bK h24 fun v25 hv25 h26=>?_
    cases h26
    obtain rfl:=hout12 _ rfl
    cases h7
    exact gA 4 E<|oSi hv25▸gP E E
   cases h27
   exact⟨_,E,⟨⟨E,E,E,E,E,E,E,Kes E (Ker (nLl hlt hb9)),tV⟩,[],E,.inl E⟩⟩
  subst hgo
  exact gA 6 E<|Kfs E (dF (Int.lt_irrefl _))<|gA 4 E<|⟨_,E,⟨tV,[],E,.inl E⟩⟩
 intro a8 ha
 subst ha
 replace h7:=Kjl h7
 exact gA 8 E<|oSi h7▸gP E E
theorem Leb{k:Nat}{l:List Int}{al:List Bool}{r:Bool×(List Bool)}(h:Ldf k l al=some r):EC Tryz.prog 5 [.d (Sl (eN .i64) l)] [.bag al [] []] fun g hp'=>g=B r.1∧hp'=[.bag r.2 [] []]:=by
 unfold Ldf at h
 refine QN Tryz.func5 E Z<|gA 8 E<|Kdq hΓ (gs:=[.d (Sl (eN .i64) l),I 0]) E E E E E E E<|Kpv E E E E Z<|bK h fun y1 hy1 h2=>gO 6 E<|Kgw [1] (.sl 2 y1.1.length) [.bag al [] [],.box 25 (fQ y1.2),rO 159 12 Kxu y1.1] C (Leo hy1) E Z E E E E E E E E E E<|Khd 2 [21] _ [.bag al [] [],.box 25 (fQ y1.2),.dead] E E E Z<|bK h2 fun y3 hy3 h4=>gO 2 E<|Kgw [1] (I y3.1) [.bag al [] [],.box 25 (fQ y3.2),.dead] C (Lej hy3) E Z E E E E E E E E E E<|bK h4 fun y5 hy5 h6=>Kgw [1] (.sl 3 y5.1.length) [.bag al [] [],.box 25 (fQ y5.2),.dead,rO 83 10 Kxv y5.1] C (Lep hy5) E Z E E E E E E E E E E<|Khd 3 [25] _ [.bag al [] [],.box 25 (fQ y5.2),.dead,.dead] E E E Z<|bK h6 fun y7 hy7 h8=>gO 1 E<|Kgw [1] (I y7.1) [.bag al [] [],.box 25 (fQ y7.2),.dead,.dead] C (Leq hy7) E Z E E E E E E E E E E<|bK h8 fun y9 hy9 h10=>gO 1 E<|Kgw [1] (.d (Sl eS y9.1)) [.bag al [] [],.box 25 (fQ y9.2),.dead,.dead] C (Les hy9) E Z E E E E E E E E E E<|bK h10 fun y11 hy11 h12=>gO 1 E<|Kgw [1] (I y11.1) [.bag al [] [],.box 25 (fQ y11.2),.dead,.dead] C (Let hy11) E Z E E E E E E E E E E<|bK h12 fun y13 hy13 h14=>gO 14 E<|Kgw [0] (.tup [.d (Sl Kxx y13.1),I y13.2.1]) [.bag y13.2.2 [] [],.box 25 (fQ y11.2),.dead,.dead] C (Lgj hy13) E Z E E E E E E E E E E<|bK h14 fun y15 hy15 h16=>gO 14 E<|Kgw [0] (.tup [I y15.1,B y15.2.1,I y15.2.2.1]) [.bag y15.2.2.2 [] [],.box 25 (fQ y11.2),.dead,.dead] C (Lgn hy15) E Z E E E E E E E E E E<|bK h16 fun y17 hy17 h18=>gO 12 E<|Kgx C (Lhc hy17) E Z E E E E E<|bK h18 fun y19 hy19 h20=>gO 7 E<|Kgx C (Lfk hy19) E Z E E E E E<|gO 4 E<|Kfq E (fun hb=>?_) (fun hb=>?_)
 ·have h21:=cT h20 hb
  exact gA 7 E<|oSi h21▸Khl hΓ [_,_,_] (.inr E) E E E E (.inr ⟨HB.mk E,E⟩)
 have h22:=cF h20 hb
 refine bK h22 fun y23 hy23 h24=>gA 6 E<|Kgx C (Lhf hy23) E Z E E E E E<|bK h24 fun y25 hy25 h26=>gO 1 E<|Kgx C (Lhg hy25) E Z E E E E E<|bK h26 fun y27 hy27 h28=>gO 1 E<|Kgx C (Lhi hy27) E Z E E E E E<|bK h28 fun y29 hy29 h30=>gO 1 E<|Kgx C (Lhj hy29) E Z E E E E E<|Kgr hΓ (enc:=(eN .i64)) [y17,y23,y25,y27,y29] E E E E E E E E E E E E Z<|bK h30 fun y31 hy31 h32=>Kgx C (Lhk hy31) E Z E E E E E<|gO 10 E<|Kfq E (fun hb=>?_) (fun hb=>?_)
 ·have h33:=cT h32 hb
  refine gA 6 E<|Kfw 4 [(2,B false),(9,.d (Sl Kxx y13.1)),(12,B y15.2.1),(77,B (((y13.2.1:Int)==y31)&&((y15.2.2.1:Int)==y31)))] [.bag y15.2.2.2 [] [],.box 25 (fQ y11.2),.dead,.dead] ?_ ?_
  ·refine Koo E E (fun hb=>?_) (fun hb=>?_)
   ·exact gO 5 E<|⟨⟨E,E,E,Ket E (Khr hb),tV⟩,[],E,.inl E⟩
   exact gO 5 E<|⟨⟨E,E,E,Ket E (Khs hb),tV⟩,[],E,.inl E⟩
  refine gO 1 E<|Kfw 4 [(2,B false),(12,B y15.2.1),(82,B ((((y13.2.1:Int)==y31)&&((y15.2.2.1:Int)==y31))&&(((y13.1.length:Int):Int)==0)))] [.bag y15.2.2.2 [] [],.box 25 (fQ y11.2),.dead,.dead] ?_ ?_
  ·refine Koo E E (fun hb=>?_) (fun hb=>?_)
   ·exact gO 5 E<|⟨⟨E,E,Ket E (Khr hb),tV⟩,[],E,.inl E⟩
   exact gO 5 E<|⟨⟨E,E,Ket E (Khs hb),tV⟩,[],E,.inl E⟩
  refine gO 1 E<|Kfw 3 [(2,B false),(86,B (((((y13.2.1:Int)==y31)&&((y15.2.2.1:Int)==y31))&&(((y13.1.length:Int):Int)==0))&&(!y15.2.1)))] [.bag y15.2.2.2 [] [],.box 25 (fQ y11.2),.dead,.dead] ?_ ?_
  ·refine Koo E E (fun hb=>?_) (fun hb=>?_)
   ·exact gO 4 E<|⟨⟨E,Ket E (Khr hb),tV⟩,[],E,.inl E⟩
   exact gO 4 E<|⟨⟨E,Ket E (Khs hb),tV⟩,[],E,.inl E⟩
  refine gO 1 E<|bK h33 fun q34 hq34 h35=>Kfw 2 [(2,B false),(89,B q34)] [.bag y15.2.2.2 [] [],.box 25 (fQ y11.2),.dead,.dead] ?_ ?_
  ·refine Koo E E (fun hb=>?_) (fun hb=>?_)
   ·have h36:=cT hq34 hb
    exact bK h36 fun y37 hy37 h38=>Kom E<|Kgx C (Ldo hy37) E Z E E E E E<|gO 2 E<|oSi h38▸⟨⟨E,E,tV⟩,[],E,.inl E⟩
   have h39:=cF hq34 hb
   exact gO 3 E<|oSi h39▸⟨⟨E,E,tV⟩,[],E,.inl E⟩
  exact gO 5 E<|oSi h35▸Khl hΓ [_,_,_] (.inr E) E E E E (.inr ⟨HB.mk E,E⟩)
 have h40:=cF h32 hb
 refine bK h40 fun y41 hy41 h42=>gA 9 E<|Kgx C (Lea hy41) E Z E E E E E<|gO 12 E<|Kfw 3 [(2,B false),(4,.d (Sl Kxu y1.1)),(5,.d (Sl Kxv y5.1)),(6,I y7.1),(7,.d (Sl eS y9.1)),(8,I y11.1),(9,.d (Sl Kxx y13.1)),(11,I y15.1),(12,B y15.2.1),(15,I y41.1),(16,B y41.2),(104,B (((y13.2.1:Int)==0)&&((y15.2.2.1:Int)==0)))] [.bag y15.2.2.2 [] [],.box 25 (fQ y11.2),.dead,.dead] ?_ ?_
 ·refine Koo E E (fun hb=>?_) (fun hb=>?_)
  ·exact gO 4 E<|⟨⟨E,E,E,E,E,E,E,E,E,E,E,Ket E (Khr hb),tV⟩,[],E,.inl E⟩
  exact gO 4 E<|⟨⟨E,E,E,E,E,E,E,E,E,E,E,Ket E (Khs hb),tV⟩,[],E,.inl E⟩
 refine gO 1 E<|bK h42 fun q43 hq43 h44=>Kfw 9 [(2,B false),(11,I y15.1),(12,B y15.2.1),(15,I y41.1),(16,B y41.2),(114,B q43)] [.bag y15.2.2.2 [] [],.box 25 (fQ y11.2),.dead,.dead] ?_ ?_
 ·refine Koo E E (fun hb=>?_) (fun hb=>?_)
  ·have h45:=cT hq43 hb
   exact bK h45 fun y46 hy46 h47=>gO 6 E<|Kom E<|Kgx C (Pure.rows (Ldy hy46) E E) E Z E E E E E<|bK h47 fun y48 hy48 h49=>Kom E<|Kgx C (Ldz hy48) E Z E E E E E<|gO 2 E<|oSi h49▸⟨⟨E,E,E,E,E,E,tV⟩,[],E,.inl E⟩
  have h50:=cF hq43 hb
  exact gO 10 E<|oSi h50▸⟨⟨E,E,E,E,E,E,tV⟩,[],E,.inl E⟩
 refine gO 1 E<|Kfw 4 [(2,B false),(12,B y15.2.1),(16,B y41.2),(119,B (q43&&((y15.1:Int)==y41.1)))] [.bag y15.2.2.2 [] [],.box 25 (fQ y11.2),.dead,.dead] ?_ ?_
 ·refine Koo E E (fun hb=>?_) (fun hb=>?_)
  ·exact gO 5 E<|⟨⟨E,E,E,Ket E (Khr hb),tV⟩,[],E,.inl E⟩
  exact gO 5 E<|⟨⟨E,E,E,Ket E (Khs hb),tV⟩,[],E,.inl E⟩
 refine gO 1 E<|Kfw 4 [(2,B false),(124,B ((q43&&((y15.1:Int)==y41.1))&&((y15.2.1:Bool)==y41.2)))] [.bag y15.2.2.2 [] [],.box 25 (fQ y11.2),.dead,.dead] ?_ ?_
 ·refine Koo E E (fun hb=>?_) (fun hb=>?_)
  ·exact gO 5 E<|⟨⟨E,Ket E (Khr hb),tV⟩,[],E,.inl E⟩
  exact gO 5 E<|⟨⟨E,Ket E (Khs hb),tV⟩,[],E,.inl E⟩
 refine gO 1 E<|bK h44 fun q51 hq51 h52=>Kfw 2 [(2,B false),(127,B q51)] [.bag y15.2.2.2 [] [],.box 25 (fQ y11.2),.dead,.dead] ?_ ?_
 ·refine Koo E E (fun hb=>?_) (fun hb=>?_)
  ·have h53:=cT hq51 hb
   exact bK h53 fun y54 hy54 h55=>Kom E<|Kgx C (Ldo hy54) E Z E E E E E<|gO 2 E<|oSi h55▸⟨⟨E,E,tV⟩,[],E,.inl E⟩
  have h56:=cF hq51 hb
  exact gO 3 E<|oSi h56▸⟨⟨E,E,tV⟩,[],E,.inl E⟩
 exact gO 4 E<|oSi h52▸Khl hΓ [_,_,_] (.inr E) E E E E (.inr ⟨HB.mk E,E⟩)
end Go.Proofs.YthhdojhbohfmnaaGreatDoor
