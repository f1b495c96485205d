import Derived.Test.YthhdojhbohfmnaaGreatDoorXGM
import Derived.Test.YthhdojhbohfmnaaGreatDoorGt
import Derived.Test.YthhdojhbohfmnaaGreatDoorStr
import Derived.Test.YthhdojhbohfmnaaGreatDoorStr9
import Derived.Test.YthhdojhbohfmnaaGreatDoorStrC
import Derived.Test.YthhdojhbohfmnaaGreatDoorStrI
import Derived.Test.YthhdojhbohfmnaaGreatDoorStrK
import Derived.Test.YthhdojhbohfmnaaGreatDoorGk57
import Derived.Test.YthhdojhbohfmnaaGreatDoorGk62
import Derived.Test.YthhdojhbohfmnaaGreatDoorGk66
import Derived.Test.YthhdojhbohfmnaaGreatDoorGk67
import Derived.Test.YthhdojhbohfmnaaGreatDoorSoALays
import Derived.Test.YthhdojhbohfmnaaGreatDoorStrK
import Derived.Test.YthhdojhbohfmnaaGreatDoorXGW2
set_option maxHeartbeats 8000000
set_option linter.all false
set_option maxRecDepth 100000
namespace Go.Proofs.YthhdojhbohfmnaaGreatDoor
open Go.Gk
theorem Laz{rc_posture_parser_cond:Kwq→Option (Kwr×Kwq)}(ih_posture_parser_cond:∀ {p:Kwq} {r:Kwr×Kwq},rc_posture_parser_cond p=some r→EC Tryz.prog 82 [.ptr 0 0] [.box 131 [S p.s,S p.tok.kind,I p.tok.v_at,I p.tok.v_end,S p.tok.name,I p.tok.value.Kind,I p.tok.value.Number,S p.tok.value.Words,I p.tok.value.Version.1,I p.tok.value.Version.2.1,I p.tok.value.Version.2.2.1,I p.tok.value.Version.2.2.2,B p.bad,I p.v_at]] fun g hp'=>g=.agg [I r.1.Kind,S r.1.Name,S r.1.Op,I r.1.Value.Kind,I r.1.Value.Number,S r.1.Value.Words,I r.1.Value.Version.1,I r.1.Value.Version.2.1,I r.1.Value.Version.2.2.1,I r.1.Value.Version.2.2.2,.d (.ro r.1.Kids.n r.1.Kids.xs)]∧hp'=[.box 131 [S r.2.s,S r.2.tok.kind,I r.2.tok.v_at,I r.2.tok.v_end,S r.2.tok.name,I r.2.tok.value.Kind,I r.2.tok.value.Number,S r.2.tok.value.Words,I r.2.tok.value.Version.1,I r.2.tok.value.Version.2.1,I r.2.tok.value.Version.2.2.1,I r.2.tok.value.Version.2.2.2,B r.2.bad,I r.2.v_at]]){k:Nat}{p:Kwq}{r:Kwr×Kwq}(h:Lac rc_posture_parser_cond k p=some r):EC Tryz.prog 218 [.ptr 0 0] [.box 131 [S p.s,S p.tok.kind,I p.tok.v_at,I p.tok.v_end,S p.tok.name,I p.tok.value.Kind,I p.tok.value.Number,S p.tok.value.Words,I p.tok.value.Version.1,I p.tok.value.Version.2.1,I p.tok.value.Version.2.2.1,I p.tok.value.Version.2.2.2,B p.bad,I p.v_at]] fun g hp'=>g=.agg [I r.1.Kind,S r.1.Name,S r.1.Op,I r.1.Value.Kind,I r.1.Value.Number,S r.1.Value.Words,I r.1.Value.Version.1,I r.1.Value.Version.2.1,I r.1.Value.Version.2.2.1,I r.1.Value.Version.2.2.2,.d (.ro r.1.Kids.n r.1.Kids.xs)]∧hp'=[.box 131 [S r.2.s,S r.2.tok.kind,I r.2.tok.v_at,I r.2.tok.v_end,S r.2.tok.name,I r.2.tok.value.Kind,I r.2.tok.value.Number,S r.2.tok.value.Words,I r.2.tok.value.Version.1,I r.2.tok.value.Version.2.1,I r.2.tok.value.Version.2.2.1,I r.2.tok.value.Version.2.2.2,B r.2.bad,I r.2.v_at]]:=by
 induction k generalizing p r with
 | zero=>unfold Lac at h;cases h
 | succ k ih0=>
  have ih:∀ {p:Kwq} {r:Kwr×Kwq},Lac rc_posture_parser_cond k p=some r→EC Tryz.prog 218 [.ptr 0 0] [.box 131 [S p.s,S p.tok.kind,I p.tok.v_at,I p.tok.v_end,S p.tok.name,I p.tok.value.Kind,I p.tok.value.Number,S p.tok.value.Words,I p.tok.value.Version.1,I p.tok.value.Version.2.1,I p.tok.value.Version.2.2.1,I p.tok.value.Version.2.2.2,B p.bad,I p.v_at]] fun g hp'=>g=.agg [I r.1.Kind,S r.1.Name,S r.1.Op,I r.1.Value.Kind,I r.1.Value.Number,S r.1.Value.Words,I r.1.Value.Version.1,I r.1.Value.Version.2.1,I r.1.Value.Version.2.2.1,I r.1.Value.Version.2.2.2,.d (.ro r.1.Kids.n r.1.Kids.xs)]∧hp'=[.box 131 [S r.2.s,S r.2.tok.kind,I r.2.tok.v_at,I r.2.tok.v_end,S r.2.tok.name,I r.2.tok.value.Kind,I r.2.tok.value.Number,S r.2.tok.value.Words,I r.2.tok.value.Version.1,I r.2.tok.value.Version.2.1,I r.2.tok.value.Version.2.2.1,I r.2.tok.value.Version.2.2.2,B r.2.bad,I r.2.v_at]]:=by intro p r h;first | exact ih0 h | exact ih0 _ _ h
  refine Kqu (Fr.of 0 _) Tryz.func218 E (Fr.of_ok _) Z fun _=>?_
  refine Kfn ?_
  unfold Lac at h
  refine gA 2 E ?_
  refine Ksi hΓ E E E Z ?_
  refine gO 19 E ?_
  refine Kfo E (fun hb=>?_) (fun hb=>?_)
  ·have h1:=cT h hb
   obtain⟨y2,hy2,h3⟩:=Kfv h1
   refine gA 3 E ?_
   refine Kgu [0] (.tup []) [.box 131 [S y2.s,S y2.tok.kind,I y2.tok.v_at,I y2.tok.v_end,S y2.tok.name,I y2.tok.value.Kind,I y2.tok.value.Number,S y2.tok.value.Words,I y2.tok.value.Version.1,I y2.tok.value.Version.2.1,I y2.tok.value.Version.2.2.1,I y2.tok.value.Version.2.2.2,B y2.bad,I y2.v_at],.box 32 [I 0,S [],S [],I 0,I 0,S [],I 0,I 0,I 0,I 0,.d (.ro (KD.mk 0 []).n (KD.mk 0 []).xs)]] C (Lfm hy2) E Z E E E E E E E E E E ?_
   obtain⟨y4,hy4,h5⟩:=Kfv h3
   refine gO 5 E ?_
   refine Kgu [0] (.agg [I y4.1.Kind,S y4.1.Name,S y4.1.Op,I y4.1.Value.Kind,I y4.1.Value.Number,S y4.1.Value.Words,I y4.1.Value.Version.1,I y4.1.Value.Version.2.1,I y4.1.Value.Version.2.2.1,I y4.1.Value.Version.2.2.2,.d (.ro y4.1.Kids.n y4.1.Kids.xs)]) [.box 131 [S y4.2.s,S y4.2.tok.kind,I y4.2.tok.v_at,I y4.2.tok.v_end,S y4.2.tok.name,I y4.2.tok.value.Kind,I y4.2.tok.value.Number,S y4.2.tok.value.Words,I y4.2.tok.value.Version.1,I y4.2.tok.value.Version.2.1,I y4.2.tok.value.Version.2.2.1,I y4.2.tok.value.Version.2.2.2,B y4.2.bad,I y4.2.v_at],.box 32 [I 0,S [],S [],I 0,I 0,S [],I 0,I 0,I 0,I 0,.d (.ro (KD.mk 0 []).n (KD.mk 0 []).xs)]] C (ih hy4) E Z E E E E E E E E E E ?_
   refine Kgp hΓ (enc:=Kws) [y4.1] E E E E E E E E E E E E Z ?_
   refine Kdo hΓ (gs:=[I 2,S [],S [],I 0,I 0,S [],I 0,I 0,I 0,I 0,.d (.ro (pk Kws [y4.1]).n (pk Kws [y4.1]).xs)]) E E E E E E E ?_
   refine Ksn hΓ E E E E E E E E Z ?_
   refine Khd [.box 131 [S y4.2.s,S y4.2.tok.kind,I y4.2.tok.v_at,I y4.2.tok.v_end,S y4.2.tok.name,I y4.2.tok.value.Kind,I y4.2.tok.value.Number,S y4.2.tok.value.Words,I y4.2.tok.value.Version.1,I y4.2.tok.value.Version.2.1,I y4.2.tok.value.Version.2.2.1,I y4.2.tok.value.Version.2.2.2,B y4.2.bad,I y4.2.v_at],.box 32 [I 2,S [],S [],I 0,I 0,S [],I 0,I 0,I 0,I 0,.d (.ro (pk Kws [y4.1]).n (pk Kws [y4.1]).xs)]] E ?_
   refine gO 5 E ?_
   obtain rfl:=oSi h5
   exact Khi hΓ [_] (.inr E) E E E E (.inr ⟨HB.mk E,E⟩)
  have h6:=cF h hb
  refine gA 6 E ?_
  refine Kfo E (fun hb=>?_) (fun hb=>?_)
  ·have h7:=cT h6 hb
   obtain⟨y8,hy8,h9⟩:=Kfv h7
   refine gA 3 E ?_
   refine Kgu [0] (.tup []) [.box 131 [S y8.s,S y8.tok.kind,I y8.tok.v_at,I y8.tok.v_end,S y8.tok.name,I y8.tok.value.Kind,I y8.tok.value.Number,S y8.tok.value.Words,I y8.tok.value.Version.1,I y8.tok.value.Version.2.1,I y8.tok.value.Version.2.2.1,I y8.tok.value.Version.2.2.2,B y8.bad,I y8.v_at],.box 32 [I 0,S [],S [],I 0,I 0,S [],I 0,I 0,I 0,I 0,.d (.ro (KD.mk 0 []).n (KD.mk 0 []).xs)]] C (Lfm hy8) E Z E E E E E E E E E E ?_
   obtain⟨y10,hy10,h11⟩:=Kfv h9
   refine gO 5 E ?_
   refine Kgu [0] (.agg [I y10.1.Kind,S y10.1.Name,S y10.1.Op,I y10.1.Value.Kind,I y10.1.Value.Number,S y10.1.Value.Words,I y10.1.Value.Version.1,I y10.1.Value.Version.2.1,I y10.1.Value.Version.2.2.1,I y10.1.Value.Version.2.2.2,.d (.ro y10.1.Kids.n y10.1.Kids.xs)]) [.box 131 [S y10.2.s,S y10.2.tok.kind,I y10.2.tok.v_at,I y10.2.tok.v_end,S y10.2.tok.name,I y10.2.tok.value.Kind,I y10.2.tok.value.Number,S y10.2.tok.value.Words,I y10.2.tok.value.Version.1,I y10.2.tok.value.Version.2.1,I y10.2.tok.value.Version.2.2.1,I y10.2.tok.value.Version.2.2.2,B y10.2.bad,I y10.2.v_at],.box 32 [I 0,S [],S [],I 0,I 0,S [],I 0,I 0,I 0,I 0,.d (.ro (KD.mk 0 []).n (KD.mk 0 []).xs)]] C (ih_posture_parser_cond hy10) E Z E E E E E E E E E E ?_
   refine Ksi hΓ E E E Z ?_
   refine Ksn hΓ E E E E E E E E Z ?_
   refine Khd [.box 131 [S y10.2.s,S y10.2.tok.kind,I y10.2.tok.v_at,I y10.2.tok.v_end,S y10.2.tok.name,I y10.2.tok.value.Kind,I y10.2.tok.value.Number,S y10.2.tok.value.Words,I y10.2.tok.value.Version.1,I y10.2.tok.value.Version.2.1,I y10.2.tok.value.Version.2.2.1,I y10.2.tok.value.Version.2.2.2,B y10.2.bad,I y10.2.v_at],.box 32 [I 0,S [],S [],I 0,I 0,S [],I 0,I 0,I 0,I 0,.d (.ro (KD.mk 0 []).n (KD.mk 0 []).xs)],.box 32 [I y10.1.Kind,S y10.1.Name,S y10.1.Op,I y10.1.Value.Kind,I y10.1.Value.Number,S y10.1.Value.Words,I y10.1.Value.Version.1,I y10.1.Value.Version.2.1,I y10.1.Value.Version.2.2.1,I y10.1.Value.Version.2.2.2,.d (.ro y10.1.Kids.n y10.1.Kids.xs)]] E ?_
   refine gO 11 E ?_
   refine Kfo E (fun hb=>?_) (fun hb=>?_)
   ·have h12:=cT h11 hb
    refine gA 3 E ?_
    refine Ksn hΓ E E E E E E E E Z ?_
    refine Khd [.box 131 [S y10.2.s,S y10.2.tok.kind,I y10.2.tok.v_at,I y10.2.tok.v_end,S y10.2.tok.name,I y10.2.tok.value.Kind,I y10.2.tok.value.Number,S y10.2.tok.value.Words,I y10.2.tok.value.Version.1,I y10.2.tok.value.Version.2.1,I y10.2.tok.value.Version.2.2.1,I y10.2.tok.value.Version.2.2.2,B y10.2.bad,I y10.2.v_at],.box 32 [I y10.1.Kind,S y10.1.Name,S y10.1.Op,I y10.1.Value.Kind,I y10.1.Value.Number,S y10.1.Value.Words,I y10.1.Value.Version.1,I y10.1.Value.Version.2.1,I y10.1.Value.Version.2.2.1,I y10.1.Value.Version.2.2.2,.d (.ro y10.1.Kids.n y10.1.Kids.xs)],.box 32 [I y10.1.Kind,S y10.1.Name,S y10.1.Op,I y10.1.Value.Kind,I y10.1.Value.Number,S y10.1.Value.Words,I y10.1.Value.Version.1,I y10.1.Value.Version.2.1,I y10.1.Value.Version.2.2.1,I y10.1.Value.Version.2.2.2,.d (.ro y10.1.Kids.n y10.1.Kids.xs)]] E ?_
    refine gO 6 E ?_
    obtain rfl:=oSi h12
    exact Khi hΓ [_,_] (.inr E) E E E E (.inr ⟨HB.mk E,E⟩)
   have h13:=cF h11 hb
   refine gA 13 E ?_
   refine Kfo E (fun hb=>?_) (fun hb=>?_)
   ·have h14:=cT h13 hb
    obtain⟨y15,hy15,h16⟩:=Kfv h14
    refine gA 3 E ?_
    refine Kgu [0] (.agg [I y15.1.Kind,S y15.1.Name,S y15.1.Op,I y15.1.Value.Kind,I y15.1.Value.Number,S y15.1.Value.Words,I y15.1.Value.Version.1,I y15.1.Value.Version.2.1,I y15.1.Value.Version.2.2.1,I y15.1.Value.Version.2.2.2,.d (.ro y15.1.Kids.n y15.1.Kids.xs)]) [.box 131 [S y15.2.s,S y15.2.tok.kind,I y15.2.tok.v_at,I y15.2.tok.v_end,S y15.2.tok.name,I y15.2.tok.value.Kind,I y15.2.tok.value.Number,S y15.2.tok.value.Words,I y15.2.tok.value.Version.1,I y15.2.tok.value.Version.2.1,I y15.2.tok.value.Version.2.2.1,I y15.2.tok.value.Version.2.2.2,B y15.2.bad,I y15.2.v_at],.box 32 [I 0,S [],S [],I 0,I 0,S [],I 0,I 0,I 0,I 0,.d (.ro (KD.mk 0 []).n (KD.mk 0 []).xs)],.box 32 [I y10.1.Kind,S y10.1.Name,S y10.1.Op,I y10.1.Value.Kind,I y10.1.Value.Number,S y10.1.Value.Words,I y10.1.Value.Version.1,I y10.1.Value.Version.2.1,I y10.1.Value.Version.2.2.1,I y10.1.Value.Version.2.2.2,.d (.ro y10.1.Kids.n y10.1.Kids.xs)]] C (Lfn hy15) E Z E E E E E E E E E E ?_
    refine Ksn hΓ E E E E E E E E Z ?_
    refine Khd [.box 131 [S y15.2.s,S y15.2.tok.kind,I y15.2.tok.v_at,I y15.2.tok.v_end,S y15.2.tok.name,I y15.2.tok.value.Kind,I y15.2.tok.value.Number,S y15.2.tok.value.Words,I y15.2.tok.value.Version.1,I y15.2.tok.value.Version.2.1,I y15.2.tok.value.Version.2.2.1,I y15.2.tok.value.Version.2.2.2,B y15.2.bad,I y15.2.v_at],.box 32 [I y15.1.Kind,S y15.1.Name,S y15.1.Op,I y15.1.Value.Kind,I y15.1.Value.Number,S y15.1.Value.Words,I y15.1.Value.Version.1,I y15.1.Value.Version.2.1,I y15.1.Value.Version.2.2.1,I y15.1.Value.Version.2.2.2,.d (.ro y15.1.Kids.n y15.1.Kids.xs)],.box 32 [I y10.1.Kind,S y10.1.Name,S y10.1.Op,I y10.1.Value.Kind,I y10.1.Value.Number,S y10.1.Value.Words,I y10.1.Value.Version.1,I y10.1.Value.Version.2.1,I y10.1.Value.Version.2.2.1,I y10.1.Value.Version.2.2.2,.d (.ro y10.1.Kids.n y10.1.Kids.xs)]] E ?_
    refine gO 6 E ?_
    obtain rfl:=oSi h16
    exact Khi hΓ [_,_] (.inr E) E E E E (.inr ⟨HB.mk E,E⟩)
   have h17:=cF h13 hb
   obtain⟨y18,hy18,h19⟩:=Kfv h17
   refine gA 5 E ?_
   refine Kgu [0] (.tup []) [.box 131 [S y18.s,S y18.tok.kind,I y18.tok.v_at,I y18.tok.v_end,S y18.tok.name,I y18.tok.value.Kind,I y18.tok.value.Number,S y18.tok.value.Words,I y18.tok.value.Version.1,I y18.tok.value.Version.2.1,I y18.tok.value.Version.2.2.1,I y18.tok.value.Version.2.2.2,B y18.bad,I y18.v_at],.box 32 [I 0,S [],S [],I 0,I 0,S [],I 0,I 0,I 0,I 0,.d (.ro (KD.mk 0 []).n (KD.mk 0 []).xs)],.box 32 [I y10.1.Kind,S y10.1.Name,S y10.1.Op,I y10.1.Value.Kind,I y10.1.Value.Number,S y10.1.Value.Words,I y10.1.Value.Version.1,I y10.1.Value.Version.2.1,I y10.1.Value.Version.2.2.1,I y10.1.Value.Version.2.2.2,.d (.ro y10.1.Kids.n y10.1.Kids.xs)]] C (Lfm hy18) E Z E E E E E E E E E E ?_
   refine gO 5 E ?_
   refine Ksn hΓ E E E E E E E E Z ?_
   refine Khd [.box 131 [S y18.s,S y18.tok.kind,I y18.tok.v_at,I y18.tok.v_end,S y18.tok.name,I y18.tok.value.Kind,I y18.tok.value.Number,S y18.tok.value.Words,I y18.tok.value.Version.1,I y18.tok.value.Version.2.1,I y18.tok.value.Version.2.2.1,I y18.tok.value.Version.2.2.2,B y18.bad,I y18.v_at],.box 32 [I y10.1.Kind,S y10.1.Name,S y10.1.Op,I y10.1.Value.Kind,I y10.1.Value.Number,S y10.1.Value.Words,I y10.1.Value.Version.1,I y10.1.Value.Version.2.1,I y10.1.Value.Version.2.2.1,I y10.1.Value.Version.2.2.2,.d (.ro y10.1.Kids.n y10.1.Kids.xs)],.box 32 [I y10.1.Kind,S y10.1.Name,S y10.1.Op,I y10.1.Value.Kind,I y10.1.Value.Number,S y10.1.Value.Words,I y10.1.Value.Version.1,I y10.1.Value.Version.2.1,I y10.1.Value.Version.2.2.1,I y10.1.Value.Version.2.2.2,.d (.ro y10.1.Kids.n y10.1.Kids.xs)]] E ?_
   refine gO 5 E ?_
   obtain rfl:=oSi h19
   exact Khi hΓ [_,_] (.inr E) E E E E (.inr ⟨HB.mk E,E⟩)
  have h20:=cF h6 hb
  refine gA 6 E ?_
  refine Kfo E (fun hb=>?_) (fun hb=>?_)
  ·have h21:=cT h20 hb
   obtain⟨y22,hy22,h23⟩:=Kfv h21
   refine gA 3 E ?_
   refine Kgu [0] (.agg [I y22.1.Kind,S y22.1.Name,S y22.1.Op,I y22.1.Value.Kind,I y22.1.Value.Number,S y22.1.Value.Words,I y22.1.Value.Version.1,I y22.1.Value.Version.2.1,I y22.1.Value.Version.2.2.1,I y22.1.Value.Version.2.2.2,.d (.ro y22.1.Kids.n y22.1.Kids.xs)]) [.box 131 [S y22.2.s,S y22.2.tok.kind,I y22.2.tok.v_at,I y22.2.tok.v_end,S y22.2.tok.name,I y22.2.tok.value.Kind,I y22.2.tok.value.Number,S y22.2.tok.value.Words,I y22.2.tok.value.Version.1,I y22.2.tok.value.Version.2.1,I y22.2.tok.value.Version.2.2.1,I y22.2.tok.value.Version.2.2.2,B y22.2.bad,I y22.2.v_at],.box 32 [I 0,S [],S [],I 0,I 0,S [],I 0,I 0,I 0,I 0,.d (.ro (KD.mk 0 []).n (KD.mk 0 []).xs)]] C (Lfp hy22) E Z E E E E E E E E E E ?_
   refine Ksn hΓ E E E E E E E E Z ?_
   refine Khd [.box 131 [S y22.2.s,S y22.2.tok.kind,I y22.2.tok.v_at,I y22.2.tok.v_end,S y22.2.tok.name,I y22.2.tok.value.Kind,I y22.2.tok.value.Number,S y22.2.tok.value.Words,I y22.2.tok.value.Version.1,I y22.2.tok.value.Version.2.1,I y22.2.tok.value.Version.2.2.1,I y22.2.tok.value.Version.2.2.2,B y22.2.bad,I y22.2.v_at],.box 32 [I y22.1.Kind,S y22.1.Name,S y22.1.Op,I y22.1.Value.Kind,I y22.1.Value.Number,S y22.1.Value.Words,I y22.1.Value.Version.1,I y22.1.Value.Version.2.1,I y22.1.Value.Version.2.2.1,I y22.1.Value.Version.2.2.2,.d (.ro y22.1.Kids.n y22.1.Kids.xs)]] E ?_
   refine gO 5 E ?_
   obtain rfl:=oSi h23
   exact Khi hΓ [_] (.inr E) E E E E (.inr ⟨HB.mk E,E⟩)
  have h24:=cF h20 hb
  obtain⟨y25,hy25,h26⟩:=Kfv h24
  refine gA 6 E ?_
  refine Kgu [0] (.agg [I y25.1.Kind,S y25.1.Name,S y25.1.Op,I y25.1.Value.Kind,I y25.1.Value.Number,S y25.1.Value.Words,I y25.1.Value.Version.1,I y25.1.Value.Version.2.1,I y25.1.Value.Version.2.2.1,I y25.1.Value.Version.2.2.2,.d (.ro y25.1.Kids.n y25.1.Kids.xs)]) [.box 131 [S y25.2.s,S y25.2.tok.kind,I y25.2.tok.v_at,I y25.2.tok.v_end,S y25.2.tok.name,I y25.2.tok.value.Kind,I y25.2.tok.value.Number,S y25.2.tok.value.Words,I y25.2.tok.value.Version.1,I y25.2.tok.value.Version.2.1,I y25.2.tok.value.Version.2.2.1,I y25.2.tok.value.Version.2.2.2,B y25.2.bad,I y25.2.v_at],.box 32 [I 0,S [],S [],I 0,I 0,S [],I 0,I 0,I 0,I 0,.d (.ro (KD.mk 0 []).n (KD.mk 0 []).xs)]] C (Lfn hy25) E Z E E E E E E E E E E ?_
  refine Ksn hΓ E E E E E E E E Z ?_
  refine Khd [.box 131 [S y25.2.s,S y25.2.tok.kind,I y25.2.tok.v_at,I y25.2.tok.v_end,S y25.2.tok.name,I y25.2.tok.value.Kind,I y25.2.tok.value.Number,S y25.2.tok.value.Words,I y25.2.tok.value.Version.1,I y25.2.tok.value.Version.2.1,I y25.2.tok.value.Version.2.2.1,I y25.2.tok.value.Version.2.2.2,B y25.2.bad,I y25.2.v_at],.box 32 [I y25.1.Kind,S y25.1.Name,S y25.1.Op,I y25.1.Value.Kind,I y25.1.Value.Number,S y25.1.Value.Words,I y25.1.Value.Version.1,I y25.1.Value.Version.2.1,I y25.1.Value.Version.2.2.1,I y25.1.Value.Version.2.2.2,.d (.ro y25.1.Kids.n y25.1.Kids.xs)]] E ?_
  refine gO 3 E ?_
  obtain rfl:=oSi h26
  exact Khi hΓ [_] (.inr E) E E E E (.inr ⟨HB.mk E,E⟩)
theorem Lba{kind:Int}{l:List Kwr}{r:Kwr}(h:Lad kind l=some r):Pure Tryz.prog 163 [I kind,.d (Sl Kws l)] (.agg [I r.Kind,S r.Name,S r.Op,I r.Value.Kind,I r.Value.Number,S r.Value.Words,I r.Value.Version.1,I r.Value.Version.2.1,I r.Value.Version.2.2.1,I r.Value.Version.2.2.2,.d (.ro r.Kids.n r.Kids.xs)]):=by
 unfold Lad at h
 refine QP Tryz.func163 E E E<|gA 2 E<|Ksi hΓ E E E Z<|gO 10 E<|jC E h (fun h1=>?_) fun h4=>gA 5 E<|eo_s Z (nblt.1 E) (Kkj 32 11 10 (OpP.s (Kkh hΓ [10] (gs:=[I kind,S [],S [],I 0,I 0,S [],I 0,I 0,I 0,I 0,.d (.v (.slice none 0 0))]) E E E E E E)) E)<|Ksi hΓ E E E Z<|Ksn hΓ E E E E E E E E Z<|Khd [.box 32 [I 0,S [],S [],I 0,I 0,S [],I 0,I 0,I 0,I 0,.d (.ro (KD.mk 0 []).n (KD.mk 0 []).xs)],rO 32 11 Kws ([]:List Kwr),.box 32 [I kind,S [],S [],I 0,I 0,S [],I 0,I 0,I 0,I 0,.sl 1 ([]:List Kwr).length]] E<|gO 10 E<|bK h4 fun q8 hq8 h9=>Kge 16 E fun hb11=>Kjt [(4,.ptr 0 0),(5,.ptr 2 0)] [.box 32 [I 0,S [],S [],I 0,I 0,S [],I 0,I 0,I 0,I 0,.d (.ro (KD.mk 0 []).n (KD.mk 0 []).xs)],rO 32 11 Kws q8,.box 32 [I kind,S [],S [],I 0,I 0,S [],I 0,I 0,I 0,I 0,.sl 1 q8.length]] ?_ ?_
 ·exact bK h1 fun x2 hx2 h3=>gA 3 E<|eo_o E (Kgf hΓ (enc:=Kws) hx2 E E E E E (fun _=>E))<|gO 1 E<|Ksn hΓ E E E E E E E E Z<|Khd [.box 32 [I x2.Kind,S x2.Name,S x2.Op,I x2.Value.Kind,I x2.Value.Number,S x2.Value.Words,I x2.Value.Version.1,I x2.Value.Version.2.1,I x2.Value.Version.2.2.1,I x2.Value.Version.2.2.2,.d (.ro x2.Kids.n x2.Kids.xs)]] E<|gO 4 E<|oSi h3▸gP E E
 ·refine gA 1 E<|Khk l hq8 (fun i5 s6=>[(0,I kind),(4,.ptr 0 0),(5,.ptr 2 0),(16,.d (Sl Kws l)),(17,I (l.length:Int)),(18,I (i5:Int))]) (fun s6=>[.box 32 [I 0,S [],S [],I 0,I 0,S [],I 0,I 0,I 0,I 0,.d (.ro (KD.mk 0 []).n (KD.mk 0 []).xs)],rO 32 11 Kws s6,.box 32 [I kind,S [],S [],I 0,I 0,S [],I 0,I 0,I 0,I 0,.sl 1 s6.length]]) ⟨⟨E,E,E,E,E,E,tV⟩,[],E,.inl E⟩ (fun i5 x7 s6 y15 hx12 hlt hy13=>?_) (?_)
  ·refine gA 6 E<|Kfp E (dT (Int.ofNat_lt.2 hlt))<|gA 6 E<|eo_o E (Kgf hΓ (enc:=Kws) (Kfy hx12) E E E E E (fun _=>E))<|gO 1 E<|Ksi hΓ E E E Z<|Ksn hΓ E E E E E E E E Z<|Khd [.box 32 [I 0,S [],S [],I 0,I 0,S [],I 0,I 0,I 0,I 0,.d (.ro (KD.mk 0 []).n (KD.mk 0 []).xs)],rO 32 11 Kws s6,.box 32 [I kind,S [],S [],I 0,I 0,S [],I 0,I 0,I 0,I 0,.sl 1 s6.length],.box 32 [I x7.Kind,S x7.Name,S x7.Op,I x7.Value.Kind,I x7.Value.Number,S x7.Value.Words,I x7.Value.Version.1,I x7.Value.Version.2.1,I x7.Value.Version.2.2.1,I x7.Value.Version.2.2.2,.d (.ro x7.Kids.n x7.Kids.xs)]] E<|gO 10 E<|jC E hy13 (fun h16=>?_) fun h21=>gA 4 E<|Kgp hΓ (enc:=Kws) [x7] E E E E E E E E E E E E Z<|bK h21 fun y22 hy22 h23=>Kkm 1 [.box 32 [I 0,S [],S [],I 0,I 0,S [],I 0,I 0,I 0,I 0,.d (.ro (KD.mk 0 []).n (KD.mk 0 []).xs)],rO 32 11 Kws s6,.box 32 [I kind,S [],S [],I 0,I 0,S [],I 0,I 0,I 0,I 0,.junk],.box 32 [I x7.Kind,S x7.Name,S x7.Op,I x7.Value.Kind,I x7.Value.Number,S x7.Value.Words,I x7.Value.Version.1,I x7.Value.Version.2.1,I x7.Value.Version.2.2.1,I x7.Value.Version.2.2.2,.d (.ro x7.Kids.n x7.Kids.xs)]] E Z<|Khe hΓ (enc:=Kws) hy22 E E E E E E E E E (fun _=>E) E E E E<|gO 1 E<|Ksn hΓ E E E E E E E E Z<|Khd [.box 32 [I 0,S [],S [],I 0,I 0,S [],I 0,I 0,I 0,I 0,.d (.ro (KD.mk 0 []).n (KD.mk 0 []).xs)],rO 32 11 Kws y22,.box 32 [I kind,S [],S [],I 0,I 0,S [],I 0,I 0,I 0,I 0,.sl 1 y22.length],.box 32 [I x7.Kind,S x7.Name,S x7.Op,I x7.Value.Kind,I x7.Value.Number,S x7.Value.Words,I x7.Value.Version.1,I x7.Value.Version.2.1,I x7.Value.Version.2.2.1,I x7.Value.Version.2.2.2,.d (.ro x7.Kids.n x7.Kids.xs)]] E<|gO 7 E ?_
   ·refine bK h16 fun l17 hl17 h18=>gA 4 E<|eo_o E (Kme (Krw hΓ (g:=.d (.ro x7.Kids.n x7.Kids.xs)) E) (G.Le.unk Law hl17))<|bK h18 fun y19 hy19 h20=>Kkm 1 [.box 32 [I 0,S [],S [],I 0,I 0,S [],I 0,I 0,I 0,I 0,.d (.ro (KD.mk 0 []).n (KD.mk 0 []).xs)],rO 32 11 Kws s6,.box 32 [I kind,S [],S [],I 0,I 0,S [],I 0,I 0,I 0,I 0,.junk],.box 32 [I x7.Kind,S x7.Name,S x7.Op,I x7.Value.Kind,I x7.Value.Number,S x7.Value.Words,I x7.Value.Version.1,I x7.Value.Version.2.1,I x7.Value.Version.2.2.1,I x7.Value.Version.2.2.2,.d (.ro x7.Kids.n x7.Kids.xs)]] E Z<|Khe hΓ (enc:=Kws) hy19 E E E E E E E E E (fun _=>E) E E E E<|gO 1 E<|Ksn hΓ E E E E E E E E Z<|Khd [.box 32 [I 0,S [],S [],I 0,I 0,S [],I 0,I 0,I 0,I 0,.d (.ro (KD.mk 0 []).n (KD.mk 0 []).xs)],rO 32 11 Kws y19,.box 32 [I kind,S [],S [],I 0,I 0,S [],I 0,I 0,I 0,I 0,.sl 1 y19.length],.box 32 [I x7.Kind,S x7.Name,S x7.Op,I x7.Value.Kind,I x7.Value.Number,S x7.Value.Words,I x7.Value.Version.1,I x7.Value.Version.2.1,I x7.Value.Version.2.2.1,I x7.Value.Version.2.2.2,.d (.ro x7.Kids.n x7.Kids.xs)]] E<|gO 7 E ?_
    cases h20
    exact⟨⟨E,E,E,E,E,Keq E (Kep (nLl hlt hb11)),tV⟩,[_],E,.inr ⟨HB.mk E,FB.mk E,Z⟩⟩
   cases h23
   exact⟨⟨E,E,E,E,E,Keq E (Kep (nLl hlt hb11)),tV⟩,[_],E,.inr ⟨HB.mk E,FB.mk E,Z⟩⟩
  exact gA 6 E<|Kfq E (dF (Int.lt_irrefl _))<|gA 4 E<|⟨⟨E,E,tV⟩,[],E,.inl E⟩
 exact gA 4 E<|Khb 1 [39] _ [.box 32 [I 0,S [],S [],I 0,I 0,S [],I 0,I 0,I 0,I 0,.d (.ro (KD.mk 0 []).n (KD.mk 0 []).xs)],.dead,.box 32 [I kind,S [],S [],I 0,I 0,S [],I 0,I 0,I 0,I 0,.d (.ro (pk Kws q8).n (pk Kws q8).xs)]] E E E Z<|Ksn hΓ E E E E E E E E Z<|Khd [.box 32 [I kind,S [],S [],I 0,I 0,S [],I 0,I 0,I 0,I 0,.d (.ro (pk Kws q8).n (pk Kws q8).xs)],.dead,.box 32 [I kind,S [],S [],I 0,I 0,S [],I 0,I 0,I 0,I 0,.d (.ro (pk Kws q8).n (pk Kws q8).xs)]] E<|gO 3 E<|oSi h9▸gP E E
theorem Lbb{rc_posture_parser_cond:Kwq→Option (Kwr×Kwq)}(ih_posture_parser_cond:∀ {p:Kwq} {r:Kwr×Kwq},rc_posture_parser_cond p=some r→EC Tryz.prog 82 [.ptr 0 0] [.box 131 [S p.s,S p.tok.kind,I p.tok.v_at,I p.tok.v_end,S p.tok.name,I p.tok.value.Kind,I p.tok.value.Number,S p.tok.value.Words,I p.tok.value.Version.1,I p.tok.value.Version.2.1,I p.tok.value.Version.2.2.1,I p.tok.value.Version.2.2.2,B p.bad,I p.v_at]] fun g hp'=>g=.agg [I r.1.Kind,S r.1.Name,S r.1.Op,I r.1.Value.Kind,I r.1.Value.Number,S r.1.Value.Words,I r.1.Value.Version.1,I r.1.Value.Version.2.1,I r.1.Value.Version.2.2.1,I r.1.Value.Version.2.2.2,.d (.ro r.1.Kids.n r.1.Kids.xs)]∧hp'=[.box 131 [S r.2.s,S r.2.tok.kind,I r.2.tok.v_at,I r.2.tok.v_end,S r.2.tok.name,I r.2.tok.value.Kind,I r.2.tok.value.Number,S r.2.tok.value.Words,I r.2.tok.value.Version.1,I r.2.tok.value.Version.2.1,I r.2.tok.value.Version.2.2.1,I r.2.tok.value.Version.2.2.2,B r.2.bad,I r.2.v_at]]){k:Nat}{p:Kwq}{r:Kwr×Kwq}(h:Lae rc_posture_parser_cond k p=some r):EC Tryz.prog 162 [.ptr 0 0] [.box 131 [S p.s,S p.tok.kind,I p.tok.v_at,I p.tok.v_end,S p.tok.name,I p.tok.value.Kind,I p.tok.value.Number,S p.tok.value.Words,I p.tok.value.Version.1,I p.tok.value.Version.2.1,I p.tok.value.Version.2.2.1,I p.tok.value.Version.2.2.2,B p.bad,I p.v_at]] fun g hp'=>g=.agg [I r.1.Kind,S r.1.Name,S r.1.Op,I r.1.Value.Kind,I r.1.Value.Number,S r.1.Value.Words,I r.1.Value.Version.1,I r.1.Value.Version.2.1,I r.1.Value.Version.2.2.1,I r.1.Value.Version.2.2.2,.d (.ro r.1.Kids.n r.1.Kids.xs)]∧hp'=[.box 131 [S r.2.s,S r.2.tok.kind,I r.2.tok.v_at,I r.2.tok.v_end,S r.2.tok.name,I r.2.tok.value.Kind,I r.2.tok.value.Number,S r.2.tok.value.Words,I r.2.tok.value.Version.1,I r.2.tok.value.Version.2.1,I r.2.tok.value.Version.2.2.1,I r.2.tok.value.Version.2.2.2,B r.2.bad,I r.2.v_at]]:=by
 unfold Lae at h
 refine QN Tryz.func162 E Z<|gA 2 E<|Ksi hΓ E E E Z<|bK h fun y1 hy1 h2=>gO 5 E<|Kgu [0] (.agg [I y1.1.Kind,S y1.1.Name,S y1.1.Op,I y1.1.Value.Kind,I y1.1.Value.Number,S y1.1.Value.Words,I y1.1.Value.Version.1,I y1.1.Value.Version.2.1,I y1.1.Value.Version.2.2.1,I y1.1.Value.Version.2.2.2,.d (.ro y1.1.Kids.n y1.1.Kids.xs)]) [.box 131 [S y1.2.s,S y1.2.tok.kind,I y1.2.tok.v_at,I y1.2.tok.v_end,S y1.2.tok.name,I y1.2.tok.value.Kind,I y1.2.tok.value.Number,S y1.2.tok.value.Words,I y1.2.tok.value.Version.1,I y1.2.tok.value.Version.2.1,I y1.2.tok.value.Version.2.2.1,I y1.2.tok.value.Version.2.2.2,B y1.2.bad,I y1.2.v_at],.box 32 [I 0,S [],S [],I 0,I 0,S [],I 0,I 0,I 0,I 0,.d (.ro (KD.mk 0 []).n (KD.mk 0 []).xs)]] C (Laz ih_posture_parser_cond hy1) E Z E E E E E E E E E E<|Kgr hΓ (enc:=Kws) [y1.1] E E E E E E E E E E E E Z<|gO 4 E<|bK h2 fun q6 hq6 h7=>Kjt [(2,.ptr 1 0),(3,.sl 2 q6.2.length)] [.box 131 [S q6.1.s,S q6.1.tok.kind,I q6.1.tok.v_at,I q6.1.tok.v_end,S q6.1.tok.name,I q6.1.tok.value.Kind,I q6.1.tok.value.Number,S q6.1.tok.value.Words,I q6.1.tok.value.Version.1,I q6.1.tok.value.Version.2.1,I q6.1.tok.value.Version.2.2.1,I q6.1.tok.value.Version.2.2.2,B q6.1.bad,I q6.1.v_at],.box 32 [I 0,S [],S [],I 0,I 0,S [],I 0,I 0,I 0,I 0,.d (.ro (KD.mk 0 []).n (KD.mk 0 []).xs)],rO 32 11 Kws q6.2] ?_ ?_
 ·refine gA 1 E<|Kgb hq6 (fun s4=>[(0,.ptr 0 0),(2,.ptr 1 0),(3,.sl 2 s4.2.length)]) (fun s4=>[.box 131 [S s4.1.s,S s4.1.tok.kind,I s4.1.tok.v_at,I s4.1.tok.v_end,S s4.1.tok.name,I s4.1.tok.value.Kind,I s4.1.tok.value.Number,S s4.1.tok.value.Words,I s4.1.tok.value.Version.1,I s4.1.tok.value.Version.2.1,I s4.1.tok.value.Version.2.2.1,I s4.1.tok.value.Version.2.2.2,B s4.1.bad,I s4.1.v_at],.box 32 [I 0,S [],S [],I 0,I 0,S [],I 0,I 0,I 0,I 0,.d (.ro (KD.mk 0 []).n (KD.mk 0 []).xs)],rO 32 11 Kws s4.2]) ⟨⟨E,E,E,tV⟩,[],E,.inl E⟩ (fun s4 y12 hy10 hout11=>?_)
  refine gA 9 E<|Kfu 7 [(0,.ptr 0 0),(2,.ptr 1 0),(3,.sl 2 s4.2.length),(19,B ((!s4.1.bad)&&((s4.1.tok.kind:Str)==[38,38])))] [.box 131 [S s4.1.s,S s4.1.tok.kind,I s4.1.tok.v_at,I s4.1.tok.v_end,S s4.1.tok.name,I s4.1.tok.value.Kind,I s4.1.tok.value.Number,S s4.1.tok.value.Words,I s4.1.tok.value.Version.1,I s4.1.tok.value.Version.2.1,I s4.1.tok.value.Version.2.2.1,I s4.1.tok.value.Version.2.2.2,B s4.1.bad,I s4.1.v_at],.box 32 [I 0,S [],S [],I 0,I 0,S [],I 0,I 0,I 0,I 0,.d (.ro (KD.mk 0 []).n (KD.mk 0 []).xs)],rO 32 11 Kws s4.2] ?_ ?_
  ·refine Krc E E (fun hb=>?_) (fun hb=>?_)
   ·exact gO 8 E<|⟨⟨E,E,E,Ker E (Kho hb),tV⟩,[],E,.inl E⟩
   exact gO 8 E<|⟨⟨E,E,E,Ker E (Khp hb),tV⟩,[],E,.inl E⟩
  refine gO 2 E<|jC E hy10 (fun h13=>?_) fun h20=>gA 4 E ?_
  ·exact bK h13 fun y14 hy14 h15=>gA 6 E<|Kgu [0] (.tup []) [.box 131 [S y14.s,S y14.tok.kind,I y14.tok.v_at,I y14.tok.v_end,S y14.tok.name,I y14.tok.value.Kind,I y14.tok.value.Number,S y14.tok.value.Words,I y14.tok.value.Version.1,I y14.tok.value.Version.2.1,I y14.tok.value.Version.2.2.1,I y14.tok.value.Version.2.2.2,B y14.bad,I y14.v_at],.box 32 [I 0,S [],S [],I 0,I 0,S [],I 0,I 0,I 0,I 0,.d (.ro (KD.mk 0 []).n (KD.mk 0 []).xs)],rO 32 11 Kws s4.2] C (Lfm hy14) E Z E E E E E E E E E E<|bK h15 fun y16 hy16 h17=>gO 5 E<|Kgu [0] (.agg [I y16.1.Kind,S y16.1.Name,S y16.1.Op,I y16.1.Value.Kind,I y16.1.Value.Number,S y16.1.Value.Words,I y16.1.Value.Version.1,I y16.1.Value.Version.2.1,I y16.1.Value.Version.2.2.1,I y16.1.Value.Version.2.2.2,.d (.ro y16.1.Kids.n y16.1.Kids.xs)]) [.box 131 [S y16.2.s,S y16.2.tok.kind,I y16.2.tok.v_at,I y16.2.tok.v_end,S y16.2.tok.name,I y16.2.tok.value.Kind,I y16.2.tok.value.Number,S y16.2.tok.value.Words,I y16.2.tok.value.Version.1,I y16.2.tok.value.Version.2.1,I y16.2.tok.value.Version.2.2.1,I y16.2.tok.value.Version.2.2.2,B y16.2.bad,I y16.2.v_at],.box 32 [I 0,S [],S [],I 0,I 0,S [],I 0,I 0,I 0,I 0,.d (.ro (KD.mk 0 []).n (KD.mk 0 []).xs)],rO 32 11 Kws s4.2] C (Laz ih_posture_parser_cond hy16) E Z E E E E E E E E E E<|Kgp hΓ (enc:=Kws) [y16.1] E E E E E E E E E E E E Z<|bK h17 fun y18 hy18 h19=>Khe hΓ (enc:=Kws) hy18 E E E E E E E E E (fun _=>E) E E E E<|gO 3 E<|oSi h19▸⟨_,E,⟨⟨E,E,E,tV⟩,[],E,.inl E⟩⟩
  cases h20
  obtain rfl:=hout11 _ rfl
  exact⟨⟨E,E,tV⟩,[],E,.inl E⟩
 exact bK h7 fun y21 hy21 h22=>gA 4 E<|Khb 2 [3,27] _ [.box 131 [S q6.1.s,S q6.1.tok.kind,I q6.1.tok.v_at,I q6.1.tok.v_end,S q6.1.tok.name,I q6.1.tok.value.Kind,I q6.1.tok.value.Number,S q6.1.tok.value.Words,I q6.1.tok.value.Version.1,I q6.1.tok.value.Version.2.1,I q6.1.tok.value.Version.2.2.1,I q6.1.tok.value.Version.2.2.2,B q6.1.bad,I q6.1.v_at],.box 32 [I 0,S [],S [],I 0,I 0,S [],I 0,I 0,I 0,I 0,.d (.ro (KD.mk 0 []).n (KD.mk 0 []).xs)],.dead] E E E Z<|Kgv C (Lba hy21) E Z E E E E E<|Ksn hΓ E E E E E E E E Z<|Khd [.box 131 [S q6.1.s,S q6.1.tok.kind,I q6.1.tok.v_at,I q6.1.tok.v_end,S q6.1.tok.name,I q6.1.tok.value.Kind,I q6.1.tok.value.Number,S q6.1.tok.value.Words,I q6.1.tok.value.Version.1,I q6.1.tok.value.Version.2.1,I q6.1.tok.value.Version.2.2.1,I q6.1.tok.value.Version.2.2.2,B q6.1.bad,I q6.1.v_at],.box 32 [I y21.Kind,S y21.Name,S y21.Op,I y21.Value.Kind,I y21.Value.Number,S y21.Value.Words,I y21.Value.Version.1,I y21.Value.Version.2.1,I y21.Value.Version.2.2.1,I y21.Value.Version.2.2.2,.d (.ro y21.Kids.n y21.Kids.xs)],.dead] E<|gO 3 E<|oSi h22▸Khi hΓ [_,_] (.inr E) E E E E (.inr ⟨HB.mk E,E⟩)
theorem Lbc{k:Nat}{p:Kwq}{r:Kwr×Kwq}(h:Laf k p=some r):EC Tryz.prog 82 [.ptr 0 0] [.box 131 [S p.s,S p.tok.kind,I p.tok.v_at,I p.tok.v_end,S p.tok.name,I p.tok.value.Kind,I p.tok.value.Number,S p.tok.value.Words,I p.tok.value.Version.1,I p.tok.value.Version.2.1,I p.tok.value.Version.2.2.1,I p.tok.value.Version.2.2.2,B p.bad,I p.v_at]] fun g hp'=>g=.agg [I r.1.Kind,S r.1.Name,S r.1.Op,I r.1.Value.Kind,I r.1.Value.Number,S r.1.Value.Words,I r.1.Value.Version.1,I r.1.Value.Version.2.1,I r.1.Value.Version.2.2.1,I r.1.Value.Version.2.2.2,.d (.ro r.1.Kids.n r.1.Kids.xs)]∧hp'=[.box 131 [S r.2.s,S r.2.tok.kind,I r.2.tok.v_at,I r.2.tok.v_end,S r.2.tok.name,I r.2.tok.value.Kind,I r.2.tok.value.Number,S r.2.tok.value.Words,I r.2.tok.value.Version.1,I r.2.tok.value.Version.2.1,I r.2.tok.value.Version.2.2.1,I r.2.tok.value.Version.2.2.2,B r.2.bad,I r.2.v_at]]:=by
 induction k generalizing p r with
 | zero=>unfold Laf at h;cases h
 | succ k ih0=>
  have ih:∀ {p:Kwq} {r:Kwr×Kwq},Laf k p=some r→EC Tryz.prog 82 [.ptr 0 0] [.box 131 [S p.s,S p.tok.kind,I p.tok.v_at,I p.tok.v_end,S p.tok.name,I p.tok.value.Kind,I p.tok.value.Number,S p.tok.value.Words,I p.tok.value.Version.1,I p.tok.value.Version.2.1,I p.tok.value.Version.2.2.1,I p.tok.value.Version.2.2.2,B p.bad,I p.v_at]] fun g hp'=>g=.agg [I r.1.Kind,S r.1.Name,S r.1.Op,I r.1.Value.Kind,I r.1.Value.Number,S r.1.Value.Words,I r.1.Value.Version.1,I r.1.Value.Version.2.1,I r.1.Value.Version.2.2.1,I r.1.Value.Version.2.2.2,.d (.ro r.1.Kids.n r.1.Kids.xs)]∧hp'=[.box 131 [S r.2.s,S r.2.tok.kind,I r.2.tok.v_at,I r.2.tok.v_end,S r.2.tok.name,I r.2.tok.value.Kind,I r.2.tok.value.Number,S r.2.tok.value.Words,I r.2.tok.value.Version.1,I r.2.tok.value.Version.2.1,I r.2.tok.value.Version.2.2.1,I r.2.tok.value.Version.2.2.2,B r.2.bad,I r.2.v_at]]:=by intro p r h;first | exact ih0 h | exact ih0 _ _ h
  refine Kqu (Fr.of 0 _) Tryz.func82 E (Fr.of_ok _) Z fun _=>?_
  refine Kfn ?_
  unfold Laf at h
  refine gA 2 E ?_
  refine Ksi hΓ E E E Z ?_
  obtain⟨y1,hy1,h2⟩:=Kfv h
  refine gO 5 E ?_
  refine Kgu [0] (.agg [I y1.1.Kind,S y1.1.Name,S y1.1.Op,I y1.1.Value.Kind,I y1.1.Value.Number,S y1.1.Value.Words,I y1.1.Value.Version.1,I y1.1.Value.Version.2.1,I y1.1.Value.Version.2.2.1,I y1.1.Value.Version.2.2.2,.d (.ro y1.1.Kids.n y1.1.Kids.xs)]) [.box 131 [S y1.2.s,S y1.2.tok.kind,I y1.2.tok.v_at,I y1.2.tok.v_end,S y1.2.tok.name,I y1.2.tok.value.Kind,I y1.2.tok.value.Number,S y1.2.tok.value.Words,I y1.2.tok.value.Version.1,I y1.2.tok.value.Version.2.1,I y1.2.tok.value.Version.2.2.1,I y1.2.tok.value.Version.2.2.2,B y1.2.bad,I y1.2.v_at],.box 32 [I 0,S [],S [],I 0,I 0,S [],I 0,I 0,I 0,I 0,.d (.ro (KD.mk 0 []).n (KD.mk 0 []).xs)]] C (Lbb ih hy1) E Z E E E E E E E E E E ?_
  refine Kgr hΓ (enc:=Kws) [y1.1] E E E E E E E E E E E E Z ?_
  refine gO 4 E ?_
  obtain⟨q6,hq6,h7⟩:=Kfv h2
  refine Kjt [(2,.ptr 1 0),(3,.sl 2 q6.2.length)] [.box 131 [S q6.1.s,S q6.1.tok.kind,I q6.1.tok.v_at,I q6.1.tok.v_end,S q6.1.tok.name,I q6.1.tok.value.Kind,I q6.1.tok.value.Number,S q6.1.tok.value.Words,I q6.1.tok.value.Version.1,I q6.1.tok.value.Version.2.1,I q6.1.tok.value.Version.2.2.1,I q6.1.tok.value.Version.2.2.2,B q6.1.bad,I q6.1.v_at],.box 32 [I 0,S [],S [],I 0,I 0,S [],I 0,I 0,I 0,I 0,.d (.ro (KD.mk 0 []).n (KD.mk 0 []).xs)],rO 32 11 Kws q6.2] ?_ ?_
  ·refine gA 1 E ?_
   refine Kgb hq6 (fun s4=>[(0,.ptr 0 0),(2,.ptr 1 0),(3,.sl 2 s4.2.length)]) (fun s4=>[.box 131 [S s4.1.s,S s4.1.tok.kind,I s4.1.tok.v_at,I s4.1.tok.v_end,S s4.1.tok.name,I s4.1.tok.value.Kind,I s4.1.tok.value.Number,S s4.1.tok.value.Words,I s4.1.tok.value.Version.1,I s4.1.tok.value.Version.2.1,I s4.1.tok.value.Version.2.2.1,I s4.1.tok.value.Version.2.2.2,B s4.1.bad,I s4.1.v_at],.box 32 [I 0,S [],S [],I 0,I 0,S [],I 0,I 0,I 0,I 0,.d (.ro (KD.mk 0 []).n (KD.mk 0 []).xs)],rO 32 11 Kws s4.2]) ⟨⟨E,E,E,tV⟩,[],E,.inl E⟩ (fun s4 y12 hy10 hout11=>?_)
   refine gA 9 E ?_
   refine Kfu 7 [(0,.ptr 0 0),(2,.ptr 1 0),(3,.sl 2 s4.2.length),(19,B ((!s4.1.bad)&&((s4.1.tok.kind:Str)==[124,124])))] [.box 131 [S s4.1.s,S s4.1.tok.kind,I s4.1.tok.v_at,I s4.1.tok.v_end,S s4.1.tok.name,I s4.1.tok.value.Kind,I s4.1.tok.value.Number,S s4.1.tok.value.Words,I s4.1.tok.value.Version.1,I s4.1.tok.value.Version.2.1,I s4.1.tok.value.Version.2.2.1,I s4.1.tok.value.Version.2.2.2,B s4.1.bad,I s4.1.v_at],.box 32 [I 0,S [],S [],I 0,I 0,S [],I 0,I 0,I 0,I 0,.d (.ro (KD.mk 0 []).n (KD.mk 0 []).xs)],rO 32 11 Kws s4.2] ?_ ?_
   ·refine Krc E E (fun hb=>?_) (fun hb=>?_)
    ·refine gO 8 E ?_
     exact⟨⟨E,E,E,Ker E (Kho hb),tV⟩,[],E,.inl E⟩
    refine gO 8 E ?_
    exact⟨⟨E,E,E,Ker E (Khp hb),tV⟩,[],E,.inl E⟩
   refine gO 2 E ?_
   refine Kfo E (fun hb=>?_) (fun hb=>?_)
   ·have h13:=cT hy10 hb
    obtain⟨y14,hy14,h15⟩:=Kfv h13
    refine gA 6 E ?_
    refine Kgu [0] (.tup []) [.box 131 [S y14.s,S y14.tok.kind,I y14.tok.v_at,I y14.tok.v_end,S y14.tok.name,I y14.tok.value.Kind,I y14.tok.value.Number,S y14.tok.value.Words,I y14.tok.value.Version.1,I y14.tok.value.Version.2.1,I y14.tok.value.Version.2.2.1,I y14.tok.value.Version.2.2.2,B y14.bad,I y14.v_at],.box 32 [I 0,S [],S [],I 0,I 0,S [],I 0,I 0,I 0,I 0,.d (.ro (KD.mk 0 []).n (KD.mk 0 []).xs)],rO 32 11 Kws s4.2] C (Lfm hy14) E Z E E E E E E E E E E ?_
    obtain⟨y16,hy16,h17⟩:=Kfv h15
    refine gO 5 E ?_
    refine Kgu [0] (.agg [I y16.1.Kind,S y16.1.Name,S y16.1.Op,I y16.1.Value.Kind,I y16.1.Value.Number,S y16.1.Value.Words,I y16.1.Value.Version.1,I y16.1.Value.Version.2.1,I y16.1.Value.Version.2.2.1,I y16.1.Value.Version.2.2.2,.d (.ro y16.1.Kids.n y16.1.Kids.xs)]) [.box 131 [S y16.2.s,S y16.2.tok.kind,I y16.2.tok.v_at,I y16.2.tok.v_end,S y16.2.tok.name,I y16.2.tok.value.Kind,I y16.2.tok.value.Number,S y16.2.tok.value.Words,I y16.2.tok.value.Version.1,I y16.2.tok.value.Version.2.1,I y16.2.tok.value.Version.2.2.1,I y16.2.tok.value.Version.2.2.2,B y16.2.bad,I y16.2.v_at],.box 32 [I 0,S [],S [],I 0,I 0,S [],I 0,I 0,I 0,I 0,.d (.ro (KD.mk 0 []).n (KD.mk 0 []).xs)],rO 32 11 Kws s4.2] C (Lbb ih hy16) E Z E E E E E E E E E E ?_
    refine Kgp hΓ (enc:=Kws) [y16.1] E E E E E E E E E E E E Z ?_
    obtain⟨y18,hy18,h19⟩:=Kfv h17
    refine Khe hΓ (enc:=Kws) hy18 E E E E E E E E E (fun _=>E) E E E E ?_
    refine gO 3 E ?_
    obtain rfl:=oSi h19
    exact⟨_,E,⟨⟨E,E,E,tV⟩,[],E,.inl E⟩⟩
   have h20:=cF hy10 hb
   refine gA 4 E ?_
   obtain rfl:=oSi h20
   obtain rfl:=hout11 _ rfl
   exact⟨⟨E,E,tV⟩,[],E,.inl E⟩
  obtain⟨y21,hy21,h22⟩:=Kfv h7
  refine gA 4 E ?_
  refine Khb 2 [3,27] _ [.box 131 [S q6.1.s,S q6.1.tok.kind,I q6.1.tok.v_at,I q6.1.tok.v_end,S q6.1.tok.name,I q6.1.tok.value.Kind,I q6.1.tok.value.Number,S q6.1.tok.value.Words,I q6.1.tok.value.Version.1,I q6.1.tok.value.Version.2.1,I q6.1.tok.value.Version.2.2.1,I q6.1.tok.value.Version.2.2.2,B q6.1.bad,I q6.1.v_at],.box 32 [I 0,S [],S [],I 0,I 0,S [],I 0,I 0,I 0,I 0,.d (.ro (KD.mk 0 []).n (KD.mk 0 []).xs)],.dead] E E E Z ?_
  refine Kgv C (Lba hy21) E Z E E E E E ?_
  refine Ksn hΓ E E E E E E E E Z ?_
  refine Khd [.box 131 [S q6.1.s,S q6.1.tok.kind,I q6.1.tok.v_at,I q6.1.tok.v_end,S q6.1.tok.name,I q6.1.tok.value.Kind,I q6.1.tok.value.Number,S q6.1.tok.value.Words,I q6.1.tok.value.Version.1,I q6.1.tok.value.Version.2.1,I q6.1.tok.value.Version.2.2.1,I q6.1.tok.value.Version.2.2.2,B q6.1.bad,I q6.1.v_at],.box 32 [I y21.Kind,S y21.Name,S y21.Op,I y21.Value.Kind,I y21.Value.Number,S y21.Value.Words,I y21.Value.Version.1,I y21.Value.Version.2.1,I y21.Value.Version.2.2.1,I y21.Value.Version.2.2.2,.d (.ro y21.Kids.n y21.Kids.xs)],.dead] E ?_
  refine gO 3 E ?_
  obtain rfl:=oSi h22
  exact Khi hΓ [_,_] (.inr E) E E E E (.inr ⟨HB.mk E,E⟩)
theorem Lbd{k:Nat}{c:Kwr}{r:Int×Int}(h:Lag k c=some r):Pure Tryz.prog 164 [.agg [I c.Kind,S c.Name,S c.Op,I c.Value.Kind,I c.Value.Number,S c.Value.Words,I c.Value.Version.1,I c.Value.Version.2.1,I c.Value.Version.2.2.1,I c.Value.Version.2.2.2,.d (.ro c.Kids.n c.Kids.xs)]] (.tup [I r.1,I r.2]):=by
 induction k generalizing c r with
 | zero=>unfold Lag at h;cases h
 | succ k ih0=>
  have ih:∀ {c:Kwr} {r:Int×Int},Lag k c=some r→Pure Tryz.prog 164 [.agg [I c.Kind,S c.Name,S c.Op,I c.Value.Kind,I c.Value.Number,S c.Value.Words,I c.Value.Version.1,I c.Value.Version.2.1,I c.Value.Version.2.2.1,I c.Value.Version.2.2.2,.d (.ro c.Kids.n c.Kids.xs)]] (.tup [I r.1,I r.2]):=by intro c r h;first | exact ih0 h | exact ih0 _ _ h
  refine Pure.enter (Fr.of 0 _) Tryz.func164 E (Fr.of_ok _) E E ?_
  refine Kfn ?_
  unfold Lag at h
  refine gA 2 E ?_
  refine Ksj E E E E Z ?_
  obtain⟨q1,hq1,h2⟩:=Kfv h
  refine gO 12 E ?_
  refine Kjt [(1,.ptr 0 0),(2,I q1),(3,I 0)] [.box 32 [I c.Kind,S c.Name,S c.Op,I c.Value.Kind,I c.Value.Number,S c.Value.Words,I c.Value.Version.1,I c.Value.Version.2.1,I c.Value.Version.2.2.1,I c.Value.Version.2.2.2,.d (.ro c.Kids.n c.Kids.xs)]] ?_ ?_
  ·refine Kfo E (fun hb=>?_) (fun hb=>?_)
   ·have h3:=cT hq1 hb
    refine gA 3 E ?_
    obtain rfl:=oSi h3
    exact⟨⟨E,E,E,tV⟩,[],E,.inl E⟩
   have h4:=cF hq1 hb
   refine gA 1 E ?_
   obtain rfl:=oSi h4
   exact⟨⟨E,E,E,tV⟩,[],E,.inl E⟩
  obtain⟨l5,hl5,h6⟩:=Kfv h2
  refine gA 5 E ?_
  refine eo_o E (Kme (Krw hΓ (g:=.d (.ro c.Kids.n c.Kids.xs)) E) (G.Le.unk Law hl5)) ?_
  refine gO 4 E ?_
  obtain⟨q10,hq10,h11⟩:=Kfv h6
  refine Kge 12 E fun hb13=>?_
  refine Kjt [(2,I q10.1),(3,I q10.2)] [.box 32 [I c.Kind,S c.Name,S c.Op,I c.Value.Kind,I c.Value.Number,S c.Value.Words,I c.Value.Version.1,I c.Value.Version.2.1,I c.Value.Version.2.2.1,I c.Value.Version.2.2.2,.d (.ro c.Kids.n c.Kids.xs)]] ?_ ?_
  ·refine gA 1 E ?_
   refine Khk l5 hq10 (fun i7 s8=>[(2,I s8.1),(3,I s8.2),(12,.d (Sl Kws l5)),(13,I (l5.length:Int)),(14,I (i7:Int))]) (fun s8=>[.box 32 [I c.Kind,S c.Name,S c.Op,I c.Value.Kind,I c.Value.Number,S c.Value.Words,I c.Value.Version.1,I c.Value.Version.2.1,I c.Value.Version.2.2.1,I c.Value.Version.2.2.2,.d (.ro c.Kids.n c.Kids.xs)]]) ⟨⟨E,E,E,E,E,tV⟩,[],E,.inl E⟩ (fun i7 x9 s8 y17 hx14 hlt hy15=>?_) (?_)
   ·refine gA 6 E ?_
    refine Kfp E (dT (Int.ofNat_lt.2 hlt)) ?_
    refine gA 6 E ?_
    refine eo_o E (Kgf hΓ (enc:=Kws) (Kfy hx14) E E E E E (fun _=>E)) ?_
    refine gO 1 E ?_
    refine Ksi hΓ E E E Z ?_
    refine Ksn hΓ E E E E E E E E Z ?_
    refine Khd [.box 32 [I c.Kind,S c.Name,S c.Op,I c.Value.Kind,I c.Value.Number,S c.Value.Words,I c.Value.Version.1,I c.Value.Version.2.1,I c.Value.Version.2.2.1,I c.Value.Version.2.2.2,.d (.ro c.Kids.n c.Kids.xs)],.box 32 [I x9.Kind,S x9.Name,S x9.Op,I x9.Value.Kind,I x9.Value.Number,S x9.Value.Words,I x9.Value.Version.1,I x9.Value.Version.2.1,I x9.Value.Version.2.2.1,I x9.Value.Version.2.2.2,.d (.ro x9.Kids.n x9.Kids.xs)]] E ?_
    obtain⟨y18,hy18,h19⟩:=Kfv hy15
    refine gO 5 E ?_
    refine Kgv C (ih hy18) E Z E E E E E ?_
    refine gO 23 E ?_
    obtain rfl:=oSi h19
    exact⟨⟨E,E,E,E,Keq E (Kep (nLl hlt hb13)),tV⟩,[_],E,.inr ⟨HB.mk E,FB.mk E,Z⟩⟩
   refine gA 6 E ?_
   refine Kfq E (dF (Int.lt_irrefl _)) ?_
   refine gA 4 E ?_
   exact⟨⟨E,E,tV⟩,[],E,.inl E⟩
  refine gA 11 E ?_
  obtain rfl:=oSi h11
  exact gP E E
theorem Lbe{v_k:Kwr}{x:Kwr}{r:Bool}(h:Lah v_k x=some r):EC Tryz.prog 284 [.agg [I v_k.Kind,S v_k.Name,S v_k.Op,I v_k.Value.Kind,I v_k.Value.Number,S v_k.Value.Words,I v_k.Value.Version.1,I v_k.Value.Version.2.1,I v_k.Value.Version.2.2.1,I v_k.Value.Version.2.2.2,.d (.ro v_k.Kids.n v_k.Kids.xs)],.ptr 0 0] [.box 32 [I x.Kind,S x.Name,S x.Op,I x.Value.Kind,I x.Value.Number,S x.Value.Words,I x.Value.Version.1,I x.Value.Version.2.1,I x.Value.Version.2.2.1,I x.Value.Version.2.2.2,.d (.ro x.Kids.n x.Kids.xs)]] fun g hp'=>g=B r∧hp'=[.box 32 [I x.Kind,S x.Name,S x.Op,I x.Value.Kind,I x.Value.Number,S x.Value.Words,I x.Value.Version.1,I x.Value.Version.2.1,I x.Value.Version.2.2.1,I x.Value.Version.2.2.2,.d (.ro x.Kids.n x.Kids.xs)]]:=by
 unfold Lah at h
 exact QN Tryz.func284 E Z<|gA 2 E<|Ksj E E E E Z<|gO 14 E<|oSi h▸Khi hΓ [_] (.inr E) E E E E (.inr ⟨HB.mk E,E⟩)
theorem Lbf{s:List Kwr}{f:Kwr}{r:Int}(h:Lai s f=some r):EC Tryz.prog 297 [.d (Sl Kws s),.fn (.func 284) [] [.ptr 0 0]] [.box 32 [I f.Kind,S f.Name,S f.Op,I f.Value.Kind,I f.Value.Number,S f.Value.Words,I f.Value.Version.1,I f.Value.Version.2.1,I f.Value.Version.2.2.1,I f.Value.Version.2.2.2,.d (.ro f.Kids.n f.Kids.xs)]] fun g hp'=>g=I r∧hp'=[.box 32 [I f.Kind,S f.Name,S f.Op,I f.Value.Kind,I f.Value.Number,S f.Value.Words,I f.Value.Version.1,I f.Value.Version.2.1,I f.Value.Version.2.2.1,I f.Value.Version.2.2.2,.d (.ro f.Kids.n f.Kids.xs)]]:=by
 unfold Lai at h
 refine QN Tryz.func297 E Z<|gA 13 E<|bK h fun q4 hq4 h5=>Kge 0 E fun hb7=>Kjs (R:=fun a6=>q4=.go a6) (fun a6=>[]) (fun a6=>[.box 32 [I f.Kind,S f.Name,S f.Op,I f.Value.Kind,I f.Value.Number,S f.Value.Words,I f.Value.Version.1,I f.Value.Version.2.1,I f.Value.Version.2.2.1,I f.Value.Version.2.2.2,.d (.ro f.Kids.n f.Kids.xs)]]) ?_ ?_
 ·refine gA 1 E<|Kgd s hq4 (fun i1 s2=>[(0,.d (Sl Kws s)),(1,.fn (.func 284) [] [.ptr 0 0]),(7,I (s.length:Int)),(8,I (i1:Int))]) (fun s2=>[.box 32 [I f.Kind,S f.Name,S f.Op,I f.Value.Kind,I f.Value.Number,S f.Value.Words,I f.Value.Version.1,I f.Value.Version.2.1,I f.Value.Version.2.2.1,I f.Value.Version.2.2.2,.d (.ro f.Kids.n f.Kids.xs)]]) ⟨⟨E,E,E,E,tV⟩,[],E,.inl E⟩ (fun i1 x3 s2 y11 hx8 hlt hy9 hout10=>?_) (fun s2 hgo=>?_)
  ·refine gA 6 E<|Kfp E (dT (Int.ofNat_lt.2 hlt))<|gA 15 E<|eo_o E (Kgf hΓ (enc:=Kws) (Kfy hx8) E E E E E (fun _=>E))<|bK hy9 fun y12 hy12 h13=>gO 1 E<|Kgu [0] (B y12) [.box 32 [I f.Kind,S f.Name,S f.Op,I f.Value.Kind,I f.Value.Number,S f.Value.Words,I f.Value.Version.1,I f.Value.Version.2.1,I f.Value.Version.2.2.1,I f.Value.Version.2.2.2,.d (.ro f.Kids.n f.Kids.xs)]] C (Lbe hy12) E Z E E E E E E E E E E<|gO 2 E<|jC E h13 (fun h14=>?_) fun h17=>gA 7 E ?_
   ·refine gA 9 E<|bK h14 fun v15 hv15 h16=>?_
    cases h16
    obtain rfl:=hout10 _ rfl
    cases h5
    exact gA 4 E<|oSi hv15▸Khi hΓ [] (.inr E) E E E E (.inl E)
   cases h17
   exact⟨_,E,⟨⟨E,E,E,Keq E (Kep (nLl hlt hb7)),tV⟩,[],E,.inl E⟩⟩
  subst hgo
  exact gA 6 E<|Kfq E (dF (Int.lt_irrefl _))<|gA 4 E<|⟨_,E,⟨tV,[],E,.inl E⟩⟩
 intro a6 ha
 subst ha
 replace h5:=Kjn h5
 exact gA 7 E<|oSi h5▸Khi hΓ [] (.inr E) E E E E (.inl E)
theorem Lbg{s:List Kwr}{f:Kwr}{r:Bool}(h:Laj s f=some r):EC Tryz.prog 233 [.d (Sl Kws s),.fn (.func 284) [] [.ptr 0 0]] [.box 32 [I f.Kind,S f.Name,S f.Op,I f.Value.Kind,I f.Value.Number,S f.Value.Words,I f.Value.Version.1,I f.Value.Version.2.1,I f.Value.Version.2.2.1,I f.Value.Version.2.2.2,.d (.ro f.Kids.n f.Kids.xs)]] fun g hp'=>g=B r∧hp'=[.box 32 [I f.Kind,S f.Name,S f.Op,I f.Value.Kind,I f.Value.Number,S f.Value.Words,I f.Value.Version.1,I f.Value.Version.2.1,I f.Value.Version.2.2.1,I f.Value.Version.2.2.2,.d (.ro f.Kids.n f.Kids.xs)]]:=by
 unfold Laj at h
 exact QN Tryz.func233 E Z<|bK h fun y1 hy1 h2=>gA 9 E<|Kgu [0] (I y1) [.box 32 [I f.Kind,S f.Name,S f.Op,I f.Value.Kind,I f.Value.Number,S f.Value.Words,I f.Value.Version.1,I f.Value.Version.2.1,I f.Value.Version.2.2.1,I f.Value.Version.2.2.2,.d (.ro f.Kids.n f.Kids.xs)]] C (Lbf hy1) E Z E E E E E E E E E E<|gO 5 E<|oSi h2▸Khi hΓ [] (.inr E) E E E E (.inl E)
theorem Lbh{c:Kwr}{r:Bool}(h:Lak c=some r):Pure Tryz.prog 219 [.agg [I c.Kind,S c.Name,S c.Op,I c.Value.Kind,I c.Value.Number,S c.Value.Words,I c.Value.Version.1,I c.Value.Version.2.1,I c.Value.Version.2.2.1,I c.Value.Version.2.2.2,.d (.ro c.Kids.n c.Kids.xs)]] (B r):=by
 unfold Lak at h
 refine QP Tryz.func219 E E E<|gA 2 E<|Ksj E E E E Z<|bK h fun l1 hl1 h2=>gO 6 E<|eo_o E (Kme (Krw hΓ (g:=.d (.ro c.Kids.n c.Kids.xs)) E) (G.Le.unk Law hl1))<|bK h2 fun q3 hq3 h4=>gO 11 E<|Kjv (q:=q3) (fun a5=>[(1,.ptr 0 0)]) (fun a5=>[.box 32 [I c.Kind,S c.Name,S c.Op,I c.Value.Kind,I c.Value.Number,S c.Value.Words,I c.Value.Version.1,I c.Value.Version.2.1,I c.Value.Version.2.2.1,I c.Value.Version.2.2.2,.d (.ro c.Kids.n c.Kids.xs)]]) ?_ ?_
 ·refine gA 7 E<|jC E hq3 (fun h6=>?_) fun h9=>gA 6 E<|jC E h9 (fun h10=>?_) fun h15=>?_
  ·refine gA 9 E<|bK h6 fun v7 hv7 h8=>?_
   cases h8
   cases h4
   exact gA 2 E<|oSi hv7▸gP E E
  ·refine gA 6 E<|jC E h10 (fun h11=>?_) fun h14=>gA 2 E<|oSi h14▸⟨_,E,⟨⟨E,tV⟩,[],E,.inl E⟩⟩
   refine gA 7 E<|bK h11 fun v12 hv12 h13=>?_
   cases h13
   cases h4
   exact gA 2 E<|oSi hv12▸gP E E
  refine gA 5 E<|bK h15 fun q16 hq16 h17=>Kfu 5 [(1,.ptr 0 0),(16,B q16)] [.box 32 [I c.Kind,S c.Name,S c.Op,I c.Value.Kind,I c.Value.Number,S c.Value.Words,I c.Value.Version.1,I c.Value.Version.2.1,I c.Value.Version.2.2.1,I c.Value.Version.2.2.2,.d (.ro c.Kids.n c.Kids.xs)]] ?_ ?_
  ·refine Krc E E (fun hb=>?_) (fun hb=>?_)
   ·have h18:=cT hq16 hb
    exact gO 6 E<|oSi h18▸⟨⟨E,E,tV⟩,[],E,.inl E⟩
   have h19:=cF hq16 hb
   exact bK h19 fun l20 hl20 h21=>gO 1 E<|Kra E<|eo_o E (Kme (Krw hΓ (g:=.d (.ro c.Kids.n c.Kids.xs)) E) (G.Le.unk Law hl20))<|bK h21 fun y22 hy22 h23=>gO 1 E<|Kra E<|Kgu [0] (B y22) [.box 32 [I c.Kind,S c.Name,S c.Op,I c.Value.Kind,I c.Value.Number,S c.Value.Words,I c.Value.Version.1,I c.Value.Version.2.1,I c.Value.Version.2.2.1,I c.Value.Version.2.2.2,.d (.ro c.Kids.n c.Kids.xs)]] C (Lbg hy22) E Z E E E E E E E E E E<|gO 2 E<|oSi h23▸⟨⟨E,E,tV⟩,[],E,.inl E⟩
  refine gO 2 E<|jC E h17 (fun h24=>?_) fun h27=>gA 2 E<|oSi h27▸⟨_,E,⟨⟨E,tV⟩,[],E,.inl E⟩⟩
  refine gA 7 E<|bK h24 fun v25 hv25 h26=>?_
  cases h26
  cases h4
  exact gA 2 E<|oSi hv25▸gP E E
 intro a5 ha
 subst ha
 replace h4:=Kjm h4
 refine gA 7 E<|Kfu 4 [(1,.ptr 0 0),(32,B (((c.Name:Str)==[])&&((c.Op:Str)==[])))] [.box 32 [I c.Kind,S c.Name,S c.Op,I c.Value.Kind,I c.Value.Number,S c.Value.Words,I c.Value.Version.1,I c.Value.Version.2.1,I c.Value.Version.2.2.1,I c.Value.Version.2.2.2,.d (.ro c.Kids.n c.Kids.xs)]] ?_ ?_
 ·refine Krc E E (fun hb=>?_) (fun hb=>?_)
  ·exact gO 5 E<|⟨⟨E,Ker E (Kho hb),tV⟩,[],E,.inl E⟩
  exact gO 5 E<|⟨⟨E,Ker E (Khp hb),tV⟩,[],E,.inl E⟩
 refine gO 1 E<|Kfu 5 [(38,B ((((c.Name:Str)==[])&&((c.Op:Str)==[]))&&(((c.Value.Kind:Int)==0)&&(((c.Value.Number:Int)==0)&&(((c.Value.Words:Str)==[])&&(decide (([c.Value.Version.1,c.Value.Version.2.1,c.Value.Version.2.2.1,c.Value.Version.2.2.2]:List Int)=[0,0,0,0])&&true))))))] [.box 32 [I c.Kind,S c.Name,S c.Op,I c.Value.Kind,I c.Value.Number,S c.Value.Words,I c.Value.Version.1,I c.Value.Version.2.1,I c.Value.Version.2.2.1,I c.Value.Version.2.2.2,.d (.ro c.Kids.n c.Kids.xs)]] ?_ ?_
 ·refine Krc E E (fun hb=>?_) (fun hb=>?_)
  ·exact gO 2 E<|Kra E<|Kdo hΓ (gs:=[I 0,I 0,S [],I 0,I 0,I 0,I 0]) E E E E E E E<|Kra E<|eo_o E (Kpq hΓ [29] (b:=(((c.Value.Kind:Int)==0)&&(((c.Value.Number:Int)==0)&&(((c.Value.Words:Str)==[])&&(decide (([c.Value.Version.1,c.Value.Version.2.1,c.Value.Version.2.2.1,c.Value.Version.2.2.2]:List Int)=[0,0,0,0])&&true))))) (by kernel_rfl) (by kernel_rfl) E E E)<|gO 2 E<|⟨⟨Ker E (Kho hb),tV⟩,[],E,.inl E⟩
  exact gO 6 E<|⟨⟨Ker E (Khp hb),tV⟩,[],E,.inl E⟩
 exact gO 4 E<|oSi h4▸gP E E
theorem Lbi{s:Str}{r:Bool}(h:Lal s=some r):Pure Tryz.prog 188 [S s] (B r):=by
 unfold Lal at h
 refine QP Tryz.func188 E E E<|gA 13 E<|bK h fun q4 hq4 h5=>gK hq4 fun hb7 h8=>?_
 replace hb7:=of_decide_eq_true hb7
 refine Kjs (R:=fun a6=>q4=.go a6) (fun a6=>[(0,S s)]) (fun a6=>[]) ?_ ?_
 ·refine gA 1 E<|Khl h8 (fun i1 s2=>[(0,S s),(5,I (s.length:Int)),(6,I (i1:Int))]) (fun s2=>[]) ⟨⟨E,E,E,tV⟩,[],E,.inl E⟩ (fun i1 s2 y12 hlt hy10 hout11=>?_) (fun s2 hgo hge=>?_)
  ·refine gA 6 E<|Kfp E (dT hlt)<|bK hy10 fun c13 hc13 h14=>gA 14 E<|eo_o E (Kgg hΓ hc13 E E E E)<|gO 2 E<|bK h14 fun q15 hq15 h16=>Kfu 5 [(0,S s),(5,I (s.length:Int)),(6,I (i1:Int)),(18,B q15)] [] ?_ ?_
   ·refine Krc E E (fun hb=>?_) (fun hb=>?_)
    ·have h17:=cT hq15 hb
     exact gO 6 E<|oSi h17▸⟨⟨E,E,E,E,tV⟩,[],E,.inl E⟩
    have h18:=cF hq15 hb
    exact bK h18 fun c19 hc19 h20=>gO 2 E<|Kra E<|eo_o E (Kgg hΓ hc19 E E E E)<|gO 3 E<|oSi h20▸⟨⟨E,E,E,E,tV⟩,[],E,.inl E⟩
   refine gO 2 E<|jC E h16 (fun h21=>?_) fun h24=>gA 7 E<|oSi h24▸⟨_,E,⟨⟨E,E,Keq E (Kep (by omega)),tV⟩,[],E,.inl E⟩⟩
   refine gA 8 E<|bK h21 fun v22 hv22 h23=>?_
   cases h23
   obtain rfl:=hout11 _ rfl
   cases h5
   exact gA 4 E<|oSi hv22▸gP E E
  subst hgo
  exact gA 6 E<|Kfq E (dF hge)<|gA 4 E<|⟨_,E,⟨⟨E,tV⟩,[],E,.inl E⟩⟩
 intro a6 ha
 subst ha
 replace h5:=Kjn h5
 exact gA 10 E<|oSi h5▸gP E E
theorem Lbj{k:Nat}{a:Kwo}{r:Int}(h:Lam k a=some r):Pure Tryz.prog 124 [.agg [I a.Kind,I a.Number,S a.Words,I a.Version.1,I a.Version.2.1,I a.Version.2.2.1,I a.Version.2.2.2]] (I r):=by
 unfold Lam at h
 refine QP Tryz.func124 E E E<|gA 2 E<|Ksj E E E E Z<|bK h fun y1 hy1 h2=>gO 9 E<|Kgv C (Lcq hy1) E Z E E E E E<|gO 3 E<|Kfo E (fun hb=>?_) (fun hb=>?_)
 ·have h3:=cT h2 hb
  exact gA 8 E<|oSi h3▸gP E E
 have h4:=cF h2 hb
 refine gA 6 E<|bK h4 fun q5 hq5 h6=>Kfu 4 [(1,.ptr 0 0),(17,B q5)] [.box 29 [I a.Kind,I a.Number,S a.Words,I a.Version.1,I a.Version.2.1,I a.Version.2.2.1,I a.Version.2.2.2]] ?_ ?_
 ·refine Krc E E (fun hb=>?_) (fun hb=>?_)
  ·have h7:=cT hq5 hb
   exact bK h7 fun y8 hy8 h9=>gO 2 E<|Kra E<|Kgv C (Lcq hy8) E Z E E E E E<|gO 2 E<|oSi h9▸⟨⟨E,E,tV⟩,[],E,.inl E⟩
  have h10:=cF hq5 hb
  exact gO 5 E<|oSi h10▸⟨⟨E,E,tV⟩,[],E,.inl E⟩
 refine gO 1 E<|bK h6 fun q11 hq11 h12=>Kfu 9 [(1,.ptr 0 0),(27,B q11)] [.box 29 [I a.Kind,I a.Number,S a.Words,I a.Version.1,I a.Version.2.1,I a.Version.2.2.1,I a.Version.2.2.2]] ?_ ?_
 ·refine Krc E E (fun hb=>?_) (fun hb=>?_)
  ·have h13:=cT hq11 hb
   exact gO 10 E<|oSi h13▸⟨⟨E,E,tV⟩,[],E,.inl E⟩
  have h14:=cF hq11 hb
  refine gO 4 E<|bK h14 fun q15 hq15 h16=>Kfu 4 [(1,.ptr 0 0),(18,B false),(26,B q15)] [.box 29 [I a.Kind,I a.Number,S a.Words,I a.Version.1,I a.Version.2.1,I a.Version.2.2.1,I a.Version.2.2.2]] ?_ ?_
  ·refine Krc E E (fun hb=>?_) (fun hb=>?_)
   ·have h17:=cT hq15 hb
    exact bK h17 fun y18 hy18 h19=>gO 2 E<|Kra E<|Kgv C (Lcq hy18) E Z E E E E E<|gO 2 E<|oSi h19▸⟨⟨E,E,E,tV⟩,[],E,.inl E⟩
   have h20:=cF hq15 hb
   exact gO 5 E<|oSi h20▸⟨⟨E,E,E,tV⟩,[],E,.inl E⟩
  exact gO 2 E<|oSi h16▸⟨⟨E,E,tV⟩,[],E,.inl E⟩
 refine gO 3 E<|Kfo E (fun hb=>?_) (fun hb=>?_)
 ·have h21:=cT h12 hb
  exact gA 8 E<|oSi h21▸gP E E
 have h22:=cF h12 hb
 refine gA 6 E<|Kfu 4 [(1,.ptr 0 0),(36,B (((a.Kind:Int) != 1)&&((a.Kind:Int) != 3)))] [.box 29 [I a.Kind,I a.Number,S a.Words,I a.Version.1,I a.Version.2.1,I a.Version.2.2.1,I a.Version.2.2.2]] ?_ ?_
 ·refine Krc E E (fun hb=>?_) (fun hb=>?_)
  ·exact gO 5 E<|⟨⟨E,Ker E (Kho hb),tV⟩,[],E,.inl E⟩
  exact gO 5 E<|⟨⟨E,Ker E (Khp hb),tV⟩,[],E,.inl E⟩
 refine gO 1 E<|Kfu 4 [(1,.ptr 0 0),(41,B ((((a.Kind:Int) != 1)&&((a.Kind:Int) != 3))&&((a.Number:Int) != 0)))] [.box 29 [I a.Kind,I a.Number,S a.Words,I a.Version.1,I a.Version.2.1,I a.Version.2.2.1,I a.Version.2.2.2]] ?_ ?_
 ·refine Krc E E (fun hb=>?_) (fun hb=>?_)
  ·exact gO 5 E<|⟨⟨E,Ker E (Kho hb),tV⟩,[],E,.inl E⟩
  exact gO 5 E<|⟨⟨E,Ker E (Khp hb),tV⟩,[],E,.inl E⟩
 refine gO 3 E<|Kfo E (fun hb=>?_) (fun hb=>?_)
 ·have h23:=cT h22 hb
  exact gA 8 E<|oSi h23▸gP E E
 have h24:=cF h22 hb
 refine gA 6 E<|bK h24 fun q25 hq25 h26=>Kfu 5 [(1,.ptr 0 0),(51,B q25)] [.box 29 [I a.Kind,I a.Number,S a.Words,I a.Version.1,I a.Version.2.1,I a.Version.2.2.1,I a.Version.2.2.2]] ?_ ?_
 ·refine Krc E E (fun hb=>?_) (fun hb=>?_)
  ·have h27:=cT hq25 hb
   exact bK h27 fun y28 hy28 h29=>gO 2 E<|Kra E<|Kgv C (Lbi hy28) E Z E E E E E<|gO 3 E<|oSi h29▸⟨⟨E,E,tV⟩,[],E,.inl E⟩
  have h30:=cF hq25 hb
  exact gO 6 E<|oSi h30▸⟨⟨E,E,tV⟩,[],E,.inl E⟩
 refine gO 1 E<|Kfu 9 [(1,.ptr 0 0),(61,B (q25||(((a.Kind:Int) != 2)&&(!((a.Words:Str)==[])))))] [.box 29 [I a.Kind,I a.Number,S a.Words,I a.Version.1,I a.Version.2.1,I a.Version.2.2.1,I a.Version.2.2.2]] ?_ ?_
 ·refine Krc E E (fun hb=>?_) (fun hb=>?_)
  ·exact gO 10 E<|⟨⟨E,Ker E (or_t hb),tV⟩,[],E,.inl E⟩
  refine gO 4 E<|Kfu 4 [(1,.ptr 0 0),(52,B false),(60,B (((a.Kind:Int) != 2)&&(!((a.Words:Str)==[]))))] [.box 29 [I a.Kind,I a.Number,S a.Words,I a.Version.1,I a.Version.2.1,I a.Version.2.2.1,I a.Version.2.2.2]] ?_ ?_
  ·refine Krc E E (fun hb=>?_) (fun hb=>?_)
   ·exact gO 5 E<|⟨⟨E,E,Ker E (Kho hb),tV⟩,[],E,.inl E⟩
   exact gO 5 E<|⟨⟨E,E,Ker E (Khp hb),tV⟩,[],E,.inl E⟩
  exact gO 2 E<|⟨⟨E,Ker E (or_f hb),tV⟩,[],E,.inl E⟩
 refine gO 3 E<|Kfo E (fun hb=>?_) (fun hb=>?_)
 ·have h31:=cT h26 hb
  exact gA 8 E<|oSi h31▸gP E E
 have h32:=cF h26 hb
 refine gA 11 E<|bK h32 fun q36 hq36 h37=>Kjs (R:=fun a38=>q36=.inl a38) (fun a38=>[]) (fun a38=>[.box 29 [I a.Kind,I a.Number,S a.Words,I a.Version.1,I a.Version.2.1,I a.Version.2.2.1,I a.Version.2.2.2]]) ?_ ?_
 ·refine gA 1 E<|Kgb hq36 (fun s34=>[(1,.ptr 0 0),(63,.agg [I a.Version.1,I a.Version.2.1,I a.Version.2.2.1,I a.Version.2.2.2]),(64,I s34)]) (fun s34=>[.box 29 [I a.Kind,I a.Number,S a.Words,I a.Version.1,I a.Version.2.1,I a.Version.2.2.1,I a.Version.2.2.2]]) ⟨⟨E,E,E,tV⟩,[],E,.inl E⟩ (fun s34 y42 hy40 hout41=>?_)
  refine gA 6 E<|Kfo E (fun hb=>?_) (fun hb=>?_)
  ·have h43:=cT hy40 hb
   refine bK h43 fun x44 hx44 h45=>gA 6 E<|eo_o E (Kkn hΓ (enc:=(eN .i64)) [a.Version.1,a.Version.2.1,a.Version.2.2.1,a.Version.2.2.2] hx44 E E E E E E E (fun _=>E) E)<|gO 10 E<|bK h45 fun q46 hq46 h47=>Kfu 3 [(1,.ptr 0 0),(4,I x44),(63,.agg [I a.Version.1,I a.Version.2.1,I a.Version.2.2.1,I a.Version.2.2.2]),(64,I s34),(73,B q46)] [.box 29 [I a.Kind,I a.Number,S a.Words,I a.Version.1,I a.Version.2.1,I a.Version.2.2.1,I a.Version.2.2.2]] ?_ ?_
   ·refine Krc E E (fun hb=>?_) (fun hb=>?_)
    ·have h48:=cT hq46 hb
     exact bK h48 fun y49 hy49 h50=>gO 1 E<|Kra E<|Kgv C (Lcq hy49) E Z E E E E E<|gO 2 E<|oSi h50▸⟨⟨E,E,E,E,E,tV⟩,[],E,.inl E⟩
    have h51:=cF hq46 hb
    exact gO 4 E<|oSi h51▸⟨⟨E,E,E,E,E,tV⟩,[],E,.inl E⟩
   refine gO 2 E<|Kfo E (fun hb=>?_) (fun hb=>?_)
   ·have h52:=cT h47 hb
    refine gA 9 E<|bK h52 fun v53 hv53 h54=>?_
    cases h54
    obtain rfl:=hout41 _ rfl
    cases h37
    exact gA 4 E<|oSi hv53▸gP E E
   have h55:=cF h47 hb
   refine gA 8 E<|Kfu 3 [(1,.ptr 0 0),(63,.agg [I a.Version.1,I a.Version.2.1,I a.Version.2.2.1,I a.Version.2.2.2]),(64,I s34),(80,B (((a.Kind:Int) != 4)&&((x44:Int) != 0)))] [.box 29 [I a.Kind,I a.Number,S a.Words,I a.Version.1,I a.Version.2.1,I a.Version.2.2.1,I a.Version.2.2.2]] ?_ ?_
   ·refine Krc E E (fun hb=>?_) (fun hb=>?_)
    ·exact gO 4 E<|⟨⟨E,E,E,Ker E (Kho hb),tV⟩,[],E,.inl E⟩
    exact gO 4 E<|⟨⟨E,E,E,Ker E (Khp hb),tV⟩,[],E,.inl E⟩
   refine gO 2 E<|jC E h55 (fun h56=>?_) fun h59=>gA 7 E<|oSi h59▸⟨_,E,⟨⟨E,E,E,tV⟩,[],E,.inl E⟩⟩
   refine gA 8 E<|bK h56 fun v57 hv57 h58=>?_
   cases h58
   obtain rfl:=hout41 _ rfl
   cases h37
   exact gA 4 E<|oSi hv57▸gP E E
  have h60:=cF hy40 hb
  refine gA 4 E ?_
  cases h60
  obtain rfl:=hout41 _ rfl
  exact⟨_,E,⟨tV,[],E,.inl E⟩⟩
 intro a38 ha
 subst ha
 replace h37:=Kjm h37
 exact gA 7 E<|oSi h37▸gP E E
theorem Lbk{k:Nat}{c:Kwr}{r:Int}(h:Lan k c=some r):Pure Tryz.prog 165 [.agg [I c.Kind,S c.Name,S c.Op,I c.Value.Kind,I c.Value.Number,S c.Value.Words,I c.Value.Version.1,I c.Value.Version.2.1,I c.Value.Version.2.2.1,I c.Value.Version.2.2.2,.d (.ro c.Kids.n c.Kids.xs)]] (I r):=by
 induction k generalizing c r with
 | zero=>unfold Lan at h;cases h
 | succ k ih0=>
  have ih:∀ {c:Kwr} {r:Int},Lan k c=some r→Pure Tryz.prog 165 [.agg [I c.Kind,S c.Name,S c.Op,I c.Value.Kind,I c.Value.Number,S c.Value.Words,I c.Value.Version.1,I c.Value.Version.2.1,I c.Value.Version.2.2.1,I c.Value.Version.2.2.2,.d (.ro c.Kids.n c.Kids.xs)]] (I r):=by intro c r h;first | exact ih0 h | exact ih0 _ _ h
  refine Pure.enter (Fr.of 0 _) Tryz.func165 E (Fr.of_ok _) E E ?_
  refine Kfn ?_
  unfold Lan at h
  refine gA 2 E ?_
  refine Ksj E E E E Z ?_
  obtain⟨y1,hy1,h2⟩:=Kfv h
  refine gO 8 E ?_
  refine Kgv C (Lcq hy1) E Z E E E E E ?_
  refine gO 2 E ?_
  refine Kfo E (fun hb=>?_) (fun hb=>?_)
  ·have h3:=cT h2 hb
   refine gA 7 E ?_
   obtain rfl:=oSi h3
   exact gP E E
  have h4:=cF h2 hb
  obtain⟨y5,hy5,h6⟩:=Kfv h4
  refine gA 6 E ?_
  refine Kgv C (Lbh hy5) E Z E E E E E ?_
  refine gO 3 E ?_
  refine Kfo E (fun hb=>?_) (fun hb=>?_)
  ·have h7:=cT h6 hb
   refine gA 7 E ?_
   obtain rfl:=oSi h7
   exact gP E E
  have h8:=cF h6 hb
  obtain⟨q9,hq9,h10⟩:=Kfv h8
  refine gA 10 E ?_
  refine Kjv (q:=q9) (fun a11=>[(1,.ptr 0 0)]) (fun a11=>[.box 32 [I c.Kind,S c.Name,S c.Op,I c.Value.Kind,I c.Value.Number,S c.Value.Words,I c.Value.Version.1,I c.Value.Version.2.1,I c.Value.Version.2.2.1,I c.Value.Version.2.2.2,.d (.ro c.Kids.n c.Kids.xs)]]) ?_ ?_
  ·refine Kfo E (fun hb=>?_) (fun hb=>?_)
   ·have h12:=cT hq9 hb
    obtain⟨y13,hy13,h14⟩:=Kfv h12
    refine gA 6 E ?_
    refine Kgv C (Lco hy13) E Z E E E E E ?_
    refine gO 2 E ?_
    refine Kfu 4 [(1,.ptr 0 0),(25,B ((!y13)||((c.Name:Str)==[116,114,117,101])))] [.box 32 [I c.Kind,S c.Name,S c.Op,I c.Value.Kind,I c.Value.Number,S c.Value.Words,I c.Value.Version.1,I c.Value.Version.2.1,I c.Value.Version.2.2.1,I c.Value.Version.2.2.2,.d (.ro c.Kids.n c.Kids.xs)]] ?_ ?_
    ·refine Krc E E (fun hb=>?_) (fun hb=>?_)
     ·refine gO 5 E ?_
      exact⟨⟨E,Ker E (or_t hb),tV⟩,[],E,.inl E⟩
     refine gO 5 E ?_
     exact⟨⟨E,Ker E (or_f hb),tV⟩,[],E,.inl E⟩
    refine gO 1 E ?_
    refine Kfu 4 [(1,.ptr 0 0),(30,B (((!y13)||((c.Name:Str)==[116,114,117,101]))||((c.Name:Str)==[102,97,108,115,101])))] [.box 32 [I c.Kind,S c.Name,S c.Op,I c.Value.Kind,I c.Value.Number,S c.Value.Words,I c.Value.Version.1,I c.Value.Version.2.1,I c.Value.Version.2.2.1,I c.Value.Version.2.2.2,.d (.ro c.Kids.n c.Kids.xs)]] ?_ ?_
    ·refine Krc E E (fun hb=>?_) (fun hb=>?_)
     ·refine gO 5 E ?_
      exact⟨⟨E,Ker E (or_t hb),tV⟩,[],E,.inl E⟩
     refine gO 5 E ?_
     exact⟨⟨E,Ker E (or_f hb),tV⟩,[],E,.inl E⟩
    refine gO 1 E ?_
    obtain⟨q15,hq15,h16⟩:=Kfv h14
    refine Kfu 4 [(1,.ptr 0 0),(35,B q15)] [.box 32 [I c.Kind,S c.Name,S c.Op,I c.Value.Kind,I c.Value.Number,S c.Value.Words,I c.Value.Version.1,I c.Value.Version.2.1,I c.Value.Version.2.2.1,I c.Value.Version.2.2.2,.d (.ro c.Kids.n c.Kids.xs)]] ?_ ?_
    ·refine Krc E E (fun hb=>?_) (fun hb=>?_)
     ·have h17:=cT hq15 hb
      refine gO 5 E ?_
      obtain rfl:=oSi h17
      exact⟨⟨E,E,tV⟩,[],E,.inl E⟩
     have h18:=cF hq15 hb
     obtain⟨y19,hy19,h20⟩:=Kfv h18
     refine gO 2 E ?_
     refine Kra E ?_
     refine Kgv C (Lfg hy19) E Z E E E E E ?_
     refine gO 2 E ?_
     obtain rfl:=oSi h20
     exact⟨⟨E,E,tV⟩,[],E,.inl E⟩
    refine gO 3 E ?_
    refine Kfo E (fun hb=>?_) (fun hb=>?_)
    ·have h21:=cT h16 hb
     refine gA 8 E ?_
     obtain⟨v22,hv22,h23⟩:=Kfv h21
     obtain rfl:=oSi h23
     obtain rfl:=oSi h10
     refine gA 2 E ?_
     obtain rfl:=oSi hv22
     exact gP E E
    have h24:=cF h16 hb
    obtain⟨y25,hy25,h26⟩:=Kfv h24
    refine gA 4 E ?_
    refine Kgv C (Lfo hy25) E Z E E E E E ?_
    refine gO 4 E ?_
    refine Kfo E (fun hb=>?_) (fun hb=>?_)
    ·have h27:=cT h26 hb
     refine gA 8 E ?_
     obtain⟨v28,hv28,h29⟩:=Kfv h27
     obtain rfl:=oSi h29
     obtain rfl:=oSi h10
     refine gA 2 E ?_
     obtain rfl:=oSi hv28
     exact gP E E
    have h30:=cF h26 hb
    obtain⟨y31,hy31,h32⟩:=Kfv h30
    refine gA 8 E ?_
    refine Kgv C (Lbj hy31) E Z E E E E E ?_
    refine gO 9 E ?_
    refine Kfo E (fun hb=>?_) (fun hb=>?_)
    ·have h33:=cT h32 hb
     refine gA 8 E ?_
     obtain⟨v34,hv34,h35⟩:=Kfv h33
     obtain rfl:=oSi h35
     obtain rfl:=oSi h10
     refine gA 2 E ?_
     obtain rfl:=oSi hv34
     exact gP E E
    have h36:=cF h32 hb
    refine gA 9 E ?_
    refine Kfu 4 [(1,.ptr 0 0),(55,B (((c.Value.Kind:Int)==3)&&(!((c.Op:Str)==[61,61]))))] [.box 32 [I c.Kind,S c.Name,S c.Op,I c.Value.Kind,I c.Value.Number,S c.Value.Words,I c.Value.Version.1,I c.Value.Version.2.1,I c.Value.Version.2.2.1,I c.Value.Version.2.2.2,.d (.ro c.Kids.n c.Kids.xs)]] ?_ ?_
    ·refine Krc E E (fun hb=>?_) (fun hb=>?_)
     ·refine gO 5 E ?_
      exact⟨⟨E,Ker E (Kho hb),tV⟩,[],E,.inl E⟩
     refine gO 5 E ?_
     exact⟨⟨E,Ker E (Khp hb),tV⟩,[],E,.inl E⟩
    refine gO 1 E ?_
    refine Kfu 4 [(1,.ptr 0 0),(60,B ((((c.Value.Kind:Int)==3)&&(!((c.Op:Str)==[61,61])))&&(!((c.Op:Str)==[33,61]))))] [.box 32 [I c.Kind,S c.Name,S c.Op,I c.Value.Kind,I c.Value.Number,S c.Value.Words,I c.Value.Version.1,I c.Value.Version.2.1,I c.Value.Version.2.2.1,I c.Value.Version.2.2.2,.d (.ro c.Kids.n c.Kids.xs)]] ?_ ?_
    ·refine Krc E E (fun hb=>?_) (fun hb=>?_)
     ·refine gO 5 E ?_
      exact⟨⟨E,Ker E (Kho hb),tV⟩,[],E,.inl E⟩
     refine gO 5 E ?_
     exact⟨⟨E,Ker E (Khp hb),tV⟩,[],E,.inl E⟩
    refine gO 2 E ?_
    refine Kfo E (fun hb=>?_) (fun hb=>?_)
    ·have h37:=cT h36 hb
     refine gA 6 E ?_
     obtain⟨v38,hv38,h39⟩:=Kfv h37
     obtain rfl:=oSi h39
     obtain rfl:=oSi h10
     refine gA 2 E ?_
     obtain rfl:=oSi hv38
     exact gP E E
    have h40:=cF h36 hb
    refine gA 1 E ?_
    obtain rfl:=oSi h40
    exact⟨_,E,⟨⟨E,tV⟩,[],E,.inl E⟩⟩
   have h41:=cF hq9 hb
   refine gA 1 E ?_
   obtain rfl:=oSi h41
   exact⟨_,E,⟨⟨E,tV⟩,[],E,.inl E⟩⟩
  intro a11 ha
  subst ha
  replace h10:=Kjm h10
  obtain⟨l42,hl42,h43⟩:=Kfv h10
  refine gA 5 E ?_
  refine eo_o E (Kme (Krw hΓ (g:=.d (.ro c.Kids.n c.Kids.xs)) E) (G.Le.unk Law hl42)) ?_
  refine gO 4 E ?_
  obtain⟨q47,hq47,h48⟩:=Kfv h43
  refine Kge 62 E fun hb50=>?_
  refine Kjs (R:=fun a49=>q47=.go a49) (fun a49=>[]) (fun a49=>[.box 32 [I c.Kind,S c.Name,S c.Op,I c.Value.Kind,I c.Value.Number,S c.Value.Words,I c.Value.Version.1,I c.Value.Version.2.1,I c.Value.Version.2.2.1,I c.Value.Version.2.2.2,.d (.ro c.Kids.n c.Kids.xs)]]) ?_ ?_
  ·refine gA 1 E ?_
   refine Kgd l42 hq47 (fun i44 s45=>[(62,.d (Sl Kws l42)),(63,I (l42.length:Int)),(64,I (i44:Int))]) (fun s45=>[.box 32 [I c.Kind,S c.Name,S c.Op,I c.Value.Kind,I c.Value.Number,S c.Value.Words,I c.Value.Version.1,I c.Value.Version.2.1,I c.Value.Version.2.2.1,I c.Value.Version.2.2.2,.d (.ro c.Kids.n c.Kids.xs)]]) ⟨⟨E,E,E,tV⟩,[],E,.inl E⟩ (fun i44 x46 s45 y54 hx51 hlt hy52 hout53=>?_) (fun s45 hgo=>?_)
   ·refine gA 6 E ?_
    refine Kfp E (dT (Int.ofNat_lt.2 hlt)) ?_
    refine gA 6 E ?_
    refine eo_o E (Kgf hΓ (enc:=Kws) (Kfy hx51) E E E E E (fun _=>E)) ?_
    refine gO 1 E ?_
    refine Ksi hΓ E E E Z ?_
    refine Ksn hΓ E E E E E E E E Z ?_
    refine Khd [.box 32 [I c.Kind,S c.Name,S c.Op,I c.Value.Kind,I c.Value.Number,S c.Value.Words,I c.Value.Version.1,I c.Value.Version.2.1,I c.Value.Version.2.2.1,I c.Value.Version.2.2.2,.d (.ro c.Kids.n c.Kids.xs)],.box 32 [I x46.Kind,S x46.Name,S x46.Op,I x46.Value.Kind,I x46.Value.Number,S x46.Value.Words,I x46.Value.Version.1,I x46.Value.Version.2.1,I x46.Value.Version.2.2.1,I x46.Value.Version.2.2.2,.d (.ro x46.Kids.n x46.Kids.xs)]] E ?_
    obtain⟨y55,hy55,h56⟩:=Kfv hy52
    refine gO 5 E ?_
    refine Kgv C (ih hy55) E Z E E E E E ?_
    refine gO 9 E ?_
    refine Kfo E (fun hb=>?_) (fun hb=>?_)
    ·have h57:=cT h56 hb
     refine gA 9 E ?_
     obtain⟨v58,hv58,h59⟩:=Kfv h57
     obtain rfl:=oSi h59
     obtain rfl:=hout53 _ rfl
     obtain rfl:=oSi h48
     refine gA 4 E ?_
     obtain rfl:=oSi hv58
     exact gP E E
    have h60:=cF h56 hb
    refine gA 7 E ?_
    obtain rfl:=oSi h60
    exact⟨_,E,⟨⟨E,E,Keq E (Kep (nLl hlt hb50)),tV⟩,[_],E,.inr ⟨HB.mk E,FB.mk E,Z⟩⟩⟩
   subst hgo
   refine gA 6 E ?_
   refine Kfq E (dF (Int.lt_irrefl _)) ?_
   refine gA 4 E ?_
   exact⟨_,E,⟨tV,[],E,.inl E⟩⟩
  intro a49 ha
  subst ha
  replace h48:=Kjn h48
  refine gA 7 E ?_
  obtain rfl:=oSi h48
  exact gP E E
theorem Lbl{k:Nat}{c:Kwr}{r:Int}(h:Lao k c=some r):Pure Tryz.prog 84 [.agg [I c.Kind,S c.Name,S c.Op,I c.Value.Kind,I c.Value.Number,S c.Value.Words,I c.Value.Version.1,I c.Value.Version.2.1,I c.Value.Version.2.2.1,I c.Value.Version.2.2.2,.d (.ro c.Kids.n c.Kids.xs)]] (I r):=by
 unfold Lao at h
 refine QP Tryz.func84 E E E<|gA 2 E<|Ksj E E E E Z<|bK h fun y1 hy1 h2=>gO 7 E<|Kgv C (Lbd hy1) E Z E E E E E<|gO 12 E<|Kfu 3 [(1,.ptr 0 0),(15,B ((decide ((y1.1:Int)>100))||(decide ((y1.2:Int)>30))))] [.box 32 [I c.Kind,S c.Name,S c.Op,I c.Value.Kind,I c.Value.Number,S c.Value.Words,I c.Value.Version.1,I c.Value.Version.2.1,I c.Value.Version.2.2.1,I c.Value.Version.2.2.2,.d (.ro c.Kids.n c.Kids.xs)]] ?_ ?_
 ·refine Krc E E (fun hb=>?_) (fun hb=>?_)
  ·exact gO 4 E<|⟨⟨E,Ker E (or_t hb),tV⟩,[],E,.inl E⟩
  exact gO 4 E<|⟨⟨E,Ker E (or_f hb),tV⟩,[],E,.inl E⟩
 refine gO 2 E<|jC E h2 (fun h3=>?_) fun h4=>bK h4 fun y5 hy5 h6=>gA 5 E<|Kgv C (Lbk hy5) E Z E E E E E<|gO 4 E<|oSi h6▸gP E E
 exact gA 7 E<|oSi h3▸gP E E
theorem Lbm{k:Nat}{text:Str}{r:Kwr×Int×Int}(h:Lap k text=some r):Pure Tryz.prog 9 [S text] (.tup [.agg [I r.1.Kind,S r.1.Name,S r.1.Op,I r.1.Value.Kind,I r.1.Value.Number,S r.1.Value.Words,I r.1.Value.Version.1,I r.1.Value.Version.2.1,I r.1.Value.Version.2.2.1,I r.1.Value.Version.2.2.2,.d (.ro r.1.Kids.n r.1.Kids.xs)],I r.2.1,I r.2.2]):=by
 unfold Lap at h
 refine QP Tryz.func9 E E E<|gA 2 E<|Ksi hΓ E E E Z<|gO 12 E<|Kfo E (fun hb=>?_) (fun hb=>?_)
 ·have h1:=cT h hb
  exact gA 2 E<|Kdo hΓ (gs:=[I 0,S [],S [],I 0,I 0,S [],I 0,I 0,I 0,I 0,.d (.ro (KD.mk 0 []).n (KD.mk 0 []).xs)]) E E E E E E E<|Ksn hΓ E E E E E E E E Z<|Khd [.box 32 [I 0,S [],S [],I 0,I 0,S [],I 0,I 0,I 0,I 0,.d (.ro (KD.mk 0 []).n (KD.mk 0 []).xs)]] E<|gO 6 E<|oSi h1▸gP E E
 have h2:=cF h hb
 refine gA 5 E<|Kdo hΓ (gs:=[S text,S [],I 0,I 0,S [],I 0,I 0,S [],I 0,I 0,I 0,I 0,B false,I 0]) E E E E E E E<|Ksj E E E E Z<|bK h2 fun y3 hy3 h4=>gO 6 E<|Kgu [1] (.tup []) [.box 32 [I 0,S [],S [],I 0,I 0,S [],I 0,I 0,I 0,I 0,.d (.ro (KD.mk 0 []).n (KD.mk 0 []).xs)],.box 131 [S y3.s,S y3.tok.kind,I y3.tok.v_at,I y3.tok.v_end,S y3.tok.name,I y3.tok.value.Kind,I y3.tok.value.Number,S y3.tok.value.Words,I y3.tok.value.Version.1,I y3.tok.value.Version.2.1,I y3.tok.value.Version.2.2.1,I y3.tok.value.Version.2.2.2,B y3.bad,I y3.v_at]] C (Lfm hy3) E Z E E E E E E E E E E<|bK h4 fun y5 hy5 h6=>gO 5 E<|Kgu [1] (.agg [I y5.1.Kind,S y5.1.Name,S y5.1.Op,I y5.1.Value.Kind,I y5.1.Value.Number,S y5.1.Value.Words,I y5.1.Value.Version.1,I y5.1.Value.Version.2.1,I y5.1.Value.Version.2.2.1,I y5.1.Value.Version.2.2.2,.d (.ro y5.1.Kids.n y5.1.Kids.xs)]) [.box 32 [I 0,S [],S [],I 0,I 0,S [],I 0,I 0,I 0,I 0,.d (.ro (KD.mk 0 []).n (KD.mk 0 []).xs)],.box 131 [S y5.2.s,S y5.2.tok.kind,I y5.2.tok.v_at,I y5.2.tok.v_end,S y5.2.tok.name,I y5.2.tok.value.Kind,I y5.2.tok.value.Number,S y5.2.tok.value.Words,I y5.2.tok.value.Version.1,I y5.2.tok.value.Version.2.1,I y5.2.tok.value.Version.2.2.1,I y5.2.tok.value.Version.2.2.2,B y5.2.bad,I y5.2.v_at]] C (Lbc hy5) E Z E E E E E E E E E E<|Ksi hΓ E E E Z<|Ksn hΓ E E E E E E E E Z<|Khd [.box 32 [I 0,S [],S [],I 0,I 0,S [],I 0,I 0,I 0,I 0,.d (.ro (KD.mk 0 []).n (KD.mk 0 []).xs)],.box 131 [S y5.2.s,S y5.2.tok.kind,I y5.2.tok.v_at,I y5.2.tok.v_end,S y5.2.tok.name,I y5.2.tok.value.Kind,I y5.2.tok.value.Number,S y5.2.tok.value.Words,I y5.2.tok.value.Version.1,I y5.2.tok.value.Version.2.1,I y5.2.tok.value.Version.2.2.1,I y5.2.tok.value.Version.2.2.2,B y5.2.bad,I y5.2.v_at],.box 32 [I y5.1.Kind,S y5.1.Name,S y5.1.Op,I y5.1.Value.Kind,I y5.1.Value.Number,S y5.1.Value.Words,I y5.1.Value.Version.1,I y5.1.Value.Version.2.1,I y5.1.Value.Version.2.2.1,I y5.1.Value.Version.2.2.2,.d (.ro y5.1.Kids.n y5.1.Kids.xs)]] E<|gO 11 E<|Kfu 7 [(2,.ptr 0 0),(5,.ptr 1 0),(6,.ptr 2 0),(31,B ((!y5.2.bad)&&(!((y5.2.tok.kind:Str)==[101,110,100]))))] [.box 32 [I 0,S [],S [],I 0,I 0,S [],I 0,I 0,I 0,I 0,.d (.ro (KD.mk 0 []).n (KD.mk 0 []).xs)],.box 131 [S y5.2.s,S y5.2.tok.kind,I y5.2.tok.v_at,I y5.2.tok.v_end,S y5.2.tok.name,I y5.2.tok.value.Kind,I y5.2.tok.value.Number,S y5.2.tok.value.Words,I y5.2.tok.value.Version.1,I y5.2.tok.value.Version.2.1,I y5.2.tok.value.Version.2.2.1,I y5.2.tok.value.Version.2.2.2,B y5.2.bad,I y5.2.v_at],.box 32 [I y5.1.Kind,S y5.1.Name,S y5.1.Op,I y5.1.Value.Kind,I y5.1.Value.Number,S y5.1.Value.Words,I y5.1.Value.Version.1,I y5.1.Value.Version.2.1,I y5.1.Value.Version.2.2.1,I y5.1.Value.Version.2.2.2,.d (.ro y5.1.Kids.n y5.1.Kids.xs)]] ?_ ?_
 ·refine Krc E E (fun hb=>?_) (fun hb=>?_)
  ·exact gO 8 E<|⟨⟨E,E,E,Ker E (Kho hb),tV⟩,[],E,.inl E⟩
  exact gO 8 E<|⟨⟨E,E,E,Ker E (Khp hb),tV⟩,[],E,.inl E⟩
 refine bK h6 fun q7 hq7 h8=>gO 2 E<|Kjt [(2,.ptr 0 0),(5,.ptr 1 0),(6,.ptr 2 0)] [.box 32 [I 0,S [],S [],I 0,I 0,S [],I 0,I 0,I 0,I 0,.d (.ro (KD.mk 0 []).n (KD.mk 0 []).xs)],.box 131 [S q7.s,S q7.tok.kind,I q7.tok.v_at,I q7.tok.v_end,S q7.tok.name,I q7.tok.value.Kind,I q7.tok.value.Number,S q7.tok.value.Words,I q7.tok.value.Version.1,I q7.tok.value.Version.2.1,I q7.tok.value.Version.2.2.1,I q7.tok.value.Version.2.2.2,B q7.bad,I q7.v_at],.box 32 [I y5.1.Kind,S y5.1.Name,S y5.1.Op,I y5.1.Value.Kind,I y5.1.Value.Number,S y5.1.Value.Words,I y5.1.Value.Version.1,I y5.1.Value.Version.2.1,I y5.1.Value.Version.2.2.1,I y5.1.Value.Version.2.2.2,.d (.ro y5.1.Kids.n y5.1.Kids.xs)]] ?_ ?_
 ·refine jC E hq7 (fun h9=>?_) fun h12=>gA 1 E<|oSi h12▸⟨⟨E,E,E,tV⟩,[],E,.inl E⟩
  exact bK h9 fun y10 hy10 h11=>gA 2 E<|Kgu [1] (.agg [I y10.1.Kind,S y10.1.Name,S y10.1.Op,I y10.1.Value.Kind,I y10.1.Value.Number,S y10.1.Value.Words,I y10.1.Value.Version.1,I y10.1.Value.Version.2.1,I y10.1.Value.Version.2.2.1,I y10.1.Value.Version.2.2.2,.d (.ro y10.1.Kids.n y10.1.Kids.xs)]) [.box 32 [I 0,S [],S [],I 0,I 0,S [],I 0,I 0,I 0,I 0,.d (.ro (KD.mk 0 []).n (KD.mk 0 []).xs)],.box 131 [S y10.2.s,S y10.2.tok.kind,I y10.2.tok.v_at,I y10.2.tok.v_end,S y10.2.tok.name,I y10.2.tok.value.Kind,I y10.2.tok.value.Number,S y10.2.tok.value.Words,I y10.2.tok.value.Version.1,I y10.2.tok.value.Version.2.1,I y10.2.tok.value.Version.2.2.1,I y10.2.tok.value.Version.2.2.2,B y10.2.bad,I y10.2.v_at],.box 32 [I y5.1.Kind,S y5.1.Name,S y5.1.Op,I y5.1.Value.Kind,I y5.1.Value.Number,S y5.1.Value.Words,I y5.1.Value.Version.1,I y5.1.Value.Version.2.1,I y5.1.Value.Version.2.2.1,I y5.1.Value.Version.2.2.2,.d (.ro y5.1.Kids.n y5.1.Kids.xs)]] C (Lfn hy10) E Z E E E E E E E E E E<|gO 1 E<|oSi h11▸⟨⟨E,E,E,tV⟩,[],E,.inl E⟩
 refine gA 10 E<|jC E h8 (fun h13=>?_) fun h14=>bK h14 fun y15 hy15 h16=>gA 6 E<|Kgv C (Lbl hy15) E Z E E E E E<|gO 9 E<|jC E h16 (fun h17=>?_) fun h18=>?_
 ·exact gA 1 E<|Kit [.dead,.box 131 [S q7.s,S q7.tok.kind,I q7.tok.v_at,I q7.tok.v_end,S q7.tok.name,I q7.tok.value.Kind,I q7.tok.value.Number,S q7.tok.value.Words,I q7.tok.value.Version.1,I q7.tok.value.Version.2.1,I q7.tok.value.Version.2.2.1,I q7.tok.value.Version.2.2.2,B q7.bad,I q7.v_at]] [4] [5] [] hmix (by kernel_rfl) (by kernel_rfl) ⟨E,tV⟩ Z<|ge_q E (.inl E) (fun _ _=>Kiv (qt_p (Kjk hΓ (gs:=[I 0,S [],S [],I 0,I 0,S [],I 0,I 0,I 0,I 0,.d (.ro (KD.mk 0 []).n (KD.mk 0 []).xs)]) E E E E E E)))<|go_E hΓ 4 E<|Kja [.box 32 [I 0,S [],S [],I 0,I 0,S [],I 0,I 0,I 0,I 0,.d (.ro (KD.mk 0 []).n (KD.mk 0 []).xs)],.box 131 [S q7.s,S q7.tok.kind,I q7.tok.v_at,I q7.tok.v_end,S q7.tok.name,I q7.tok.value.Kind,I q7.tok.value.Number,S q7.tok.value.Words,I q7.tok.value.Version.1,I q7.tok.value.Version.2.1,I q7.tok.value.Version.2.2.1,I q7.tok.value.Version.2.2.2,B q7.bad,I q7.v_at],.box 32 [I y5.1.Kind,S y5.1.Name,S y5.1.Op,I y5.1.Value.Kind,I y5.1.Value.Number,S y5.1.Value.Words,I y5.1.Value.Version.1,I y5.1.Value.Version.2.1,I y5.1.Value.Version.2.2.1,I y5.1.Value.Version.2.2.2,.d (.ro y5.1.Kids.n y5.1.Kids.xs)]] E E (Kjc ⟨E,tV⟩) (Kjg (Kke hΓ E E E E E E E E E))<|go_E hΓ 2 E<|Kiu<|gA 3 E<|oSi h13▸gP E E
 ·exact gA 2 E<|Kdo hΓ (gs:=[I 0,S [],S [],I 0,I 0,S [],I 0,I 0,I 0,I 0,.d (.ro (KD.mk 0 []).n (KD.mk 0 []).xs)]) E E E E E E E<|gO 1 E<|Ksn hΓ E E E E E E E E Z<|Khd [.box 32 [I 0,S [],S [],I 0,I 0,S [],I 0,I 0,I 0,I 0,.d (.ro (KD.mk 0 []).n (KD.mk 0 []).xs)],.box 131 [S q7.s,S q7.tok.kind,I q7.tok.v_at,I q7.tok.v_end,S q7.tok.name,I q7.tok.value.Kind,I q7.tok.value.Number,S q7.tok.value.Words,I q7.tok.value.Version.1,I q7.tok.value.Version.2.1,I q7.tok.value.Version.2.2.1,I q7.tok.value.Version.2.2.2,B q7.bad,I q7.v_at],.box 32 [I y5.1.Kind,S y5.1.Name,S y5.1.Op,I y5.1.Value.Kind,I y5.1.Value.Number,S y5.1.Value.Words,I y5.1.Value.Version.1,I y5.1.Value.Version.2.1,I y5.1.Value.Version.2.2.1,I y5.1.Value.Version.2.2.2,.d (.ro y5.1.Kids.n y5.1.Kids.xs)]] E<|gO 6 E<|oSi h17▸gP E E
 exact gA 5 E<|Ksn hΓ E E E E E E E E Z<|Khd [.box 32 [I y5.1.Kind,S y5.1.Name,S y5.1.Op,I y5.1.Value.Kind,I y5.1.Value.Number,S y5.1.Value.Words,I y5.1.Value.Version.1,I y5.1.Value.Version.2.1,I y5.1.Value.Version.2.2.1,I y5.1.Value.Version.2.2.2,.d (.ro y5.1.Kids.n y5.1.Kids.xs)],.box 131 [S q7.s,S q7.tok.kind,I q7.tok.v_at,I q7.tok.v_end,S q7.tok.name,I q7.tok.value.Kind,I q7.tok.value.Number,S q7.tok.value.Words,I q7.tok.value.Version.1,I q7.tok.value.Version.2.1,I q7.tok.value.Version.2.2.1,I q7.tok.value.Version.2.2.2,B q7.bad,I q7.v_at],.box 32 [I y5.1.Kind,S y5.1.Name,S y5.1.Op,I y5.1.Value.Kind,I y5.1.Value.Number,S y5.1.Value.Words,I y5.1.Value.Version.1,I y5.1.Value.Version.2.1,I y5.1.Value.Version.2.2.1,I y5.1.Value.Version.2.2.2,.d (.ro y5.1.Kids.n y5.1.Kids.xs)]] E<|gO 5 E<|oSi h18▸gP E E
theorem Lbn{k:Nat}{r:Bool}(h:Laq k=some r):Pure Tryz.prog 12 [] (B r):=by
 unfold Laq at h
 refine QP Tryz.func12 E E E<|bK h fun y1 hy1 h2=>gA 7 E<|Kgv C (Lbm hy1) E Z E E E E E<|gO 4 E<|Ksi hΓ E E E Z<|Ksn hΓ E E E E E E E E Z<|Khd [.box 32 [I y1.1.Kind,S y1.1.Name,S y1.1.Op,I y1.1.Value.Kind,I y1.1.Value.Number,S y1.1.Value.Words,I y1.1.Value.Version.1,I y1.1.Value.Version.2.1,I y1.1.Value.Version.2.2.1,I y1.1.Value.Version.2.2.2,.d (.ro y1.1.Kids.n y1.1.Kids.xs)]] E<|gO 9 E<|Kfu 4 [(0,B false),(1,.ptr 0 0),(15,B (((y1.2.2:Int)==0)&&((y1.1.Kind:Int)==1)))] [.box 32 [I y1.1.Kind,S y1.1.Name,S y1.1.Op,I y1.1.Value.Kind,I y1.1.Value.Number,S y1.1.Value.Words,I y1.1.Value.Version.1,I y1.1.Value.Version.2.1,I y1.1.Value.Version.2.2.1,I y1.1.Value.Version.2.2.2,.d (.ro y1.1.Kids.n y1.1.Kids.xs)]] ?_ ?_
 ·refine Krc E E (fun hb=>?_) (fun hb=>?_)
  ·exact gO 5 E<|⟨⟨E,E,Ker E (Kho hb),tV⟩,[],E,.inl E⟩
  exact gO 5 E<|⟨⟨E,E,Ker E (Khp hb),tV⟩,[],E,.inl E⟩
 refine gO 1 E<|Kfu 4 [(0,B false),(20,B ((((y1.2.2:Int)==0)&&((y1.1.Kind:Int)==1))&&((y1.1.Name:Str)==[97])))] [.box 32 [I y1.1.Kind,S y1.1.Name,S y1.1.Op,I y1.1.Value.Kind,I y1.1.Value.Number,S y1.1.Value.Words,I y1.1.Value.Version.1,I y1.1.Value.Version.2.1,I y1.1.Value.Version.2.2.1,I y1.1.Value.Version.2.2.2,.d (.ro y1.1.Kids.n y1.1.Kids.xs)]] ?_ ?_
 ·refine Krc E E (fun hb=>?_) (fun hb=>?_)
  ·exact gO 5 E<|⟨⟨E,Ker E (Kho hb),tV⟩,[],E,.inl E⟩
  exact gO 5 E<|⟨⟨E,Ker E (Khp hb),tV⟩,[],E,.inl E⟩
 exact gO 4 E<|oSi h2▸gP E E
theorem Lbo{s:List Kwl}{v:Kwl}{r:Int}(h:Lar s v=some r):Pure Tryz.prog 274 [.d (Sl Lbz s),.agg [S v.Node,S v.Posture]] (I r):=by
 unfold Lar at h
 refine QP Tryz.func274 E E E<|gA 2 E<|Ksj E E E E Z<|gO 11 E<|bK h fun q4 hq4 h5=>Kge 0 E fun hb7=>Kjs (R:=fun a6=>q4=.go a6) (fun a6=>[]) (fun a6=>[.box 78 [S v.Node,S v.Posture]]) ?_ ?_
 ·refine gA 1 E<|Kgd s hq4 (fun i1 s2=>[(0,.d (Sl Lbz s)),(3,.ptr 0 0),(7,I (s.length:Int)),(8,I (i1:Int))]) (fun s2=>[.box 78 [S v.Node,S v.Posture]]) ⟨⟨E,E,E,E,tV⟩,[],E,.inl E⟩ (fun i1 x3 s2 y11 hx8 hlt hy9 hout10=>?_) (fun s2 hgo=>?_)
  ·refine gA 6 E<|Kfp E (dT (Int.ofNat_lt.2 hlt))<|gA 11 E<|jD<|gA 3 E<|gl_o E (Kgf hΓ (enc:=Lbz) (Kfy hx8) E E E E E (fun _=>E))<|Kfm hΓ 1 E<|gl_o E (Khr hΓ [78] (b:=(((v.Node:Str)==x3.Node)&&(((v.Posture:Str)==x3.Posture)&&true))) (by kernel_rfl) (by kernel_rfl) E E E)<|Kfm hΓ 2 E<|jC E hy9 (fun h12=>?_) fun h15=>gA 7 E ?_
   ·refine gA 9 E<|bK h12 fun v13 hv13 h14=>?_
    cases h14
    obtain rfl:=hout10 _ rfl
    cases h5
    exact gA 4 E<|oSi hv13▸gP E E
   cases h15
   exact⟨_,E,⟨⟨E,E,E,Keq E (Kep (nLl hlt hb7)),tV⟩,[],E,.inl E⟩⟩
  subst hgo
  exact gA 6 E<|Kfq E (dF (Int.lt_irrefl _))<|gA 4 E<|⟨_,E,⟨tV,[],E,.inl E⟩⟩
 intro a6 ha
 subst ha
 replace h5:=Kjn h5
 exact gA 7 E<|oSi h5▸gP E E
theorem Lbp{s:List Kwl}{v:Kwl}{r:Bool}(h:Las s v=some r):Pure Tryz.prog 206 [.d (Sl Lbz s),.agg [S v.Node,S v.Posture]] (B r):=by
 unfold Las at h
 exact QP Tryz.func206 E E E<|gA 2 E<|Ksj E E E E Z<|bK h fun y1 hy1 h2=>gO 7 E<|Kgv C (Lbo hy1) E Z E E E E E<|gO 5 E<|oSi h2▸gP E E
theorem Lbq{k:Nat}{a:List Kwl}{b:List Kwl}{r:(List Kwl)×Bool}(h:Lat k a b=some r):Pure Tryz.prog 157 [.d (Sl Lbz a),.d (Sl Lbz b),.fn (.func 152) [] []] (.tup [.d (Sl Lbz r.1),B r.2]):=by
 unfold Lat at h
 refine QP Tryz.func157 E E E<|bK h fun y1 hy1 h2=>gA 9 E<|Kgu [] (.sl 0 y1.length) [rO 78 2 Lbz y1] C (Ldo hy1) E Z E E E E E E E E E E<|gO 11 E<|bK h2 fun q6 hq6 h7=>Kge 14 E fun hb9=>Kjt [(2,.fn (.func 152) [] []),(8,.sl 0 q6.length)] [rO 78 2 Lbz q6] ?_ ?_
 ·refine gA 1 E<|Khk b hq6 (fun i3 s4=>[(2,.fn (.func 152) [] []),(8,.sl 0 s4.length),(14,.d (Sl Lbz b)),(15,I (b.length:Int)),(16,I (i3:Int))]) (fun s4=>[rO 78 2 Lbz s4]) ⟨⟨E,E,E,E,E,tV⟩,[],E,.inl E⟩ (fun i3 x5 s4 y13 hx10 hlt hy11=>?_) (?_)
  ·refine gA 6 E<|Kfp E (dT (Int.ofNat_lt.2 hlt))<|gA 6 E<|eo_o E (Kgf hΓ (enc:=Lbz) (Kfy hx10) E E E E E (fun _=>E))<|gO 1 E<|Ksi hΓ E E E Z<|Ksn hΓ E E E E E E E E Z<|Khd [rO 78 2 Lbz s4,.box 78 [S x5.Node,S x5.Posture]] E<|bK hy11 fun y14 hy14 h15=>gO 6 E<|Kgy C (Lbp hy14) E Z E E E E E<|gO 3 E<|jC E h15 (fun h16=>?_) fun h19=>gA 7 E ?_
   ·refine gA 3 E<|Kgp hΓ (enc:=Lbz) [x5] E E E E E E E E E E E E Z<|bK h16 fun y17 hy17 h18=>Khe hΓ (enc:=Lbz) hy17 E E E E E E E E E (fun _=>E) E E E E<|gO 8 E ?_
    cases h18
    exact⟨⟨E,E,E,E,Keq E (Kep (nLl hlt hb9)),tV⟩,[_],E,.inr ⟨HB.mk E,FB.mk E,Z⟩⟩
   cases h19
   exact⟨⟨E,E,E,E,Keq E (Kep (nLl hlt hb9)),tV⟩,[_],E,.inr ⟨HB.mk E,FB.mk E,Z⟩⟩
  exact gA 6 E<|Kfq E (dF (Int.lt_irrefl _))<|gA 4 E<|⟨⟨E,E,tV⟩,[],E,.inl E⟩
 obtain⟨hok21,ha22⟩:=Kps h7
 refine gA 5 E<|Kpu [0] (.tup []) (fun y20=>[rO 78 2 Lbz y20]) C (Let hok21) E Z E E E E E E E E E (fun _=>E)<|fun y20 hy20=>?_
 have h23:=ha22 y20 hy20
 refine gK h23 fun hg25 h24=>Kkd 8 E (of_decide_eq_true hg25).symm<|gO 8 E<|bK h24 fun q29 hq29 h30=>Kjs (R:=fun a31=>q29=.inl a31) (fun a31=>[(8,.sl 0 y20.length)]) (fun a31=>[rO 78 2 Lbz y20]) ?_ ?_
 ·refine gA 1 E<|Kgb hq29 (fun s27=>[(2,.fn (.func 152) [] []),(8,.sl 0 y20.length),(11,I s27)]) (fun s27=>[rO 78 2 Lbz y20]) ⟨⟨E,E,E,tV⟩,[],E,.inl E⟩ (fun s27 y35 hy33 hout34=>?_)
  refine gA 9 E<|jC E hy33 (fun h36=>?_) fun h49=>gA 4 E ?_
  ·refine gA 5 E<|jD<|bK h36 fun x37 hx37 h38=>?_
   have hj39:=Khn hx37
   refine gA 4 E<|gl_o E (Kgh hΓ hx37 E E E E E E)<|gl_o E (Kgm hΓ (enc:=Lbz) ((wi (s27 - 1)).toNat) 0 hj39 E E E E (fun _=>E) (g:=.agg [S x37.Node,S x37.Posture]) E)<|bK h38 fun x40 hx40 h41=>?_
   have hj42:=Khn hx40
   refine Kfm hΓ 2 E<|gl_o E (Kgh hΓ hx40 E E E E E E)<|gl_o E (Kgm hΓ (enc:=Lbz) s27.toNat 0 hj42 E E E E (fun _=>E) (g:=.agg [S x40.Node,S x40.Posture]) E)<|bK h41 fun y43 hy43 h44=>Kgw C (Les hy43) E E E E E E<|Kfm hΓ 3 E<|jC E h44 (fun h45=>?_) fun h48=>gA 8 E<|oSi h48▸⟨_,E,⟨⟨E,E,E,tV⟩,[],E,.inl E⟩⟩
   refine gA 9 E<|bK h45 fun v46 hv46 h47=>?_
   cases h47
   obtain rfl:=hout34 _ rfl
   cases h30
   exact gA 4 E<|oSi hv46▸gP E E
  cases h49
  obtain rfl:=hout34 _ rfl
  exact⟨_,E,⟨⟨E,tV⟩,[],E,.inl E⟩⟩
 intro a31 ha
 subst ha
 replace h30:=Kjm h30
 exact gA 5 E<|Khb 0 [6,8,50] _ [.dead] E E E Z<|gO 4 E<|oSi h30▸gP E E
theorem Lbr{k:Nat}{a:List Kwl}{b:List Kwl}{r:(List Kwl)×Int}(h:Lau k a b=some r):Pure Tryz.prog 76 [.d (Sl Lbz a),.d (Sl Lbz b)] (.tup [.d (Sl Lbz r.1),I r.2]):=by
 unfold Lau at h
 refine QP Tryz.func76 E E E<|bK h fun y1 hy1 h2=>gA 10 E<|Kgv C (Lbq hy1) E Z E E E E E<|gO 15 E<|jC E h2 (fun h3=>?_) fun h4=>gA 10 E<|oSi h4▸gP E E
 exact gA 8 E<|oSi h3▸gP E E
theorem Lbs{k:Nat}{l:List Int}{al:BagT}{r:Bool×BagT}(h:Lav k l al=some r):EC Tryz.prog 7 [.d (Sl (eN .i64) l)] [bg al] fun g hp'=>g=B r.1∧hp'=[bg r.2]:=by
 unfold Lav at h
 refine QN Tryz.func7 E Z<|gA 8 E<|Kdo hΓ (gs:=[.d (Sl (eN .i64) l),I 0]) E E E E E E E<|Ksj E E E E Z<|bK h fun y1 hy1 h2=>gO 6 E<|Kgu [1] (.sl 2 y1.1.length) [bg al,.box 25 (fQ y1.2),rO 178 5 Lbu y1.1] C (Lcl hy1) E Z E E E E E E E E E E<|Khb 2 [31] _ [bg al,.box 25 (fQ y1.2),.dead] E E E Z<|bK h2 fun y3 hy3 h4=>gO 2 E<|Kgu [1] (I y3.1) [bg al,.box 25 (fQ y3.2),.dead] C (Lch hy3) E Z E E E E E E E E E E<|bK h4 fun y5 hy5 h6=>Kgu [1] (.sl 3 y5.1.length) [bg al,.box 25 (fQ y5.2),.dead,rO 180 7 Lbv y5.1] C (Lcm hy5) E Z E E E E E E E E E E<|Khb 3 [35] _ [bg al,.box 25 (fQ y5.2),.dead,.dead] E E E Z<|bK h6 fun y7 hy7 h8=>gO 1 E<|Kgu [1] (I y7.1) [bg al,.box 25 (fQ y7.2),.dead,.dead] C (Lcn hy7) E Z E E E E E E E E E E<|bK h8 fun y9 hy9 h10=>gO 9 E<|Kgu [0] (.tup [.d (Sl Lbw y9.1),I y9.2.1]) [bg y9.2.2,.box 25 (fQ y7.2),.dead,.dead] C (Ldj hy9) E Z E E E E E E E E E E<|bK h10 fun y11 hy11 h12=>gO 12 E<|Kgu [0] (.tup [.d (Sl Lby y11.1),I y11.2.1]) [bg y11.2.2,.box 25 (fQ y7.2),.dead,.dead] C (Ldn hy11) E Z E E E E E E E E E E<|bK h12 fun y13 hy13 h14=>gO 12 E<|Kgu [0] (.tup [.d (Sl Lbz y13.1),I y13.2.1]) [bg y13.2.2,.box 25 (fQ y7.2),.dead,.dead] C (Ldu hy13) E Z E E E E E E E E E E<|bK h14 fun y15 hy15 h16=>gO 12 E<|Kgu [0] (.tup [I y15.1,B y15.2.1,I y15.2.2.1]) [bg y15.2.2.2,.box 25 (fQ y7.2),.dead,.dead] C (Ldx hy15) E Z E E E E E E E E E E<|bK h16 fun y17 hy17 h18=>gO 13 E<|Kgv C (Lcr hy17) E Z E E E E E<|bK h18 fun y19 hy19 h20=>gO 1 E<|Kgv C (Led hy19) E Z E E E E E<|gO 2 E<|bK h20 fun q21 hq21 h22=>Kfu 6 [(3,.ptr 1 0),(4,.d (Sl Lbu y1.1)),(5,.d (Sl Lbv y5.1)),(6,I y7.1),(7,.d (Sl Lbw y9.1)),(8,I y9.2.1),(9,.d (Sl Lby y11.1)),(10,I y11.2.1),(11,.d (Sl Lbz y13.1)),(12,I y13.2.1),(13,I y15.1),(14,B y15.2.1),(15,I y15.2.2.1),(77,B q21)] [bg y15.2.2.2,.box 25 (fQ y7.2),.dead,.dead] ?_ ?_
 ·refine Krc E E (fun hb=>?_) (fun hb=>?_)
  ·have h23:=cT hq21 hb
   exact gO 7 E<|oSi h23▸⟨⟨E,E,E,E,E,E,E,E,E,E,E,E,E,E,tV⟩,[],E,.inl E⟩
  have h24:=cF hq21 hb
  exact bK h24 fun y25 hy25 h26=>gO 1 E<|Kra E<|Kgv C (Lcy hy25) E Z E E E E E<|bK h26 fun y27 hy27 h28=>gO 1 E<|Kra E<|Kgv C (Leg hy27) E Z E E E E E<|gO 3 E<|oSi h28▸⟨⟨E,E,E,E,E,E,E,E,E,E,E,E,E,E,tV⟩,[],E,.inl E⟩
 refine gO 2 E<|Kfo E (fun hb=>?_) (fun hb=>?_)
 ·have h29:=cT h22 hb
  exact gA 7 E<|oSi h29▸Khi hΓ [_,_,_] (.inr E) E E E E (.inr ⟨HB.mk E,E⟩)
 have h30:=cF h22 hb
 refine bK h30 fun y31 hy31 h32=>gA 5 E<|Kgv C (Led hy31) E Z E E E E E<|bK h32 fun y33 hy33 h34=>gO 1 E<|Kgv C (Leg hy33) E Z E E E E E<|Kgp hΓ (enc:=(eN .i64)) [y31,y33] E E E E E E E E E E E E Z<|bK h34 fun y35 hy35 h36=>Kgv C (Leh hy35) E Z E E E E E<|bK h36 fun y37 hy37 h38=>gO 7 E<|Kgv C (Lei hy37) E Z E E E E E<|Kgp hΓ (enc:=(eN .i64)) [y35,y37] E E E E E E E E E E E E Z<|bK h38 fun y39 hy39 h40=>Kgv C (Leh hy39) E Z E E E E E<|gO 10 E<|Kfu 4 [(3,.ptr 1 0),(4,.d (Sl Lbu y1.1)),(5,.d (Sl Lbv y5.1)),(6,I y7.1),(7,.d (Sl Lbw y9.1)),(9,.d (Sl Lby y11.1)),(11,.d (Sl Lbz y13.1)),(12,I y13.2.1),(13,I y15.1),(14,B y15.2.1),(15,I y15.2.2.1),(16,I y35),(17,I y39),(96,B (((y9.2.1:Int) != y35)||((y11.2.1:Int) != y39)))] [bg y15.2.2.2,.box 25 (fQ y7.2),.dead,.dead] ?_ ?_
 ·refine Krc E E (fun hb=>?_) (fun hb=>?_)
  ·exact gO 5 E<|⟨⟨E,E,E,E,E,E,E,E,E,E,E,E,E,Ker E (or_t hb),tV⟩,[],E,.inl E⟩
  exact gO 5 E<|⟨⟨E,E,E,E,E,E,E,E,E,E,E,E,E,Ker E (or_f hb),tV⟩,[],E,.inl E⟩
 refine gO 1 E<|Kfu 4 [(3,.ptr 1 0),(4,.d (Sl Lbu y1.1)),(5,.d (Sl Lbv y5.1)),(6,I y7.1),(7,.d (Sl Lbw y9.1)),(9,.d (Sl Lby y11.1)),(11,.d (Sl Lbz y13.1)),(13,I y15.1),(14,B y15.2.1),(15,I y15.2.2.1),(16,I y35),(17,I y39),(101,B ((((y9.2.1:Int) != y35)||((y11.2.1:Int) != y39))||((y13.2.1:Int) != y39)))] [bg y15.2.2.2,.box 25 (fQ y7.2),.dead,.dead] ?_ ?_
 ·refine Krc E E (fun hb=>?_) (fun hb=>?_)
  ·exact gO 5 E<|⟨⟨E,E,E,E,E,E,E,E,E,E,E,E,Ker E (or_t hb),tV⟩,[],E,.inl E⟩
  exact gO 5 E<|⟨⟨E,E,E,E,E,E,E,E,E,E,E,E,Ker E (or_f hb),tV⟩,[],E,.inl E⟩
 refine gO 1 E<|Kfu 4 [(3,.ptr 1 0),(4,.d (Sl Lbu y1.1)),(5,.d (Sl Lbv y5.1)),(6,I y7.1),(7,.d (Sl Lbw y9.1)),(9,.d (Sl Lby y11.1)),(11,.d (Sl Lbz y13.1)),(13,I y15.1),(14,B y15.2.1),(16,I y35),(17,I y39),(106,B (((((y9.2.1:Int) != y35)||((y11.2.1:Int) != y39))||((y13.2.1:Int) != y39))||((y15.2.2.1:Int) != y39)))] [bg y15.2.2.2,.box 25 (fQ y7.2),.dead,.dead] ?_ ?_
 ·refine Krc E E (fun hb=>?_) (fun hb=>?_)
  ·exact gO 5 E<|⟨⟨E,E,E,E,E,E,E,E,E,E,E,Ker E (or_t hb),tV⟩,[],E,.inl E⟩
  exact gO 5 E<|⟨⟨E,E,E,E,E,E,E,E,E,E,E,Ker E (or_f hb),tV⟩,[],E,.inl E⟩
 refine gO 1 E<|bK h40 fun q41 hq41 h42=>Kfu 11 [(3,.ptr 1 0),(4,.d (Sl Lbu y1.1)),(5,.d (Sl Lbv y5.1)),(6,I y7.1),(9,.d (Sl Lby y11.1)),(11,.d (Sl Lbz y13.1)),(13,I y15.1),(14,B y15.2.1),(17,I y39),(118,B q41.2)] [bg q41.1,.box 25 (fQ y7.2),.dead,.dead] ?_ ?_
 ·refine Krc E E (fun hb=>?_) (fun hb=>?_)
  ·have h43:=cT hq41 hb
   exact gO 12 E<|oSi h43▸⟨⟨E,E,E,E,E,E,E,E,E,E,tV⟩,[],E,.inl E⟩
  have h44:=cF hq41 hb
  refine gO 3 E<|bK h44 fun q45 hq45 h46=>Kfu 7 [(3,.ptr 1 0),(4,.d (Sl Lbu y1.1)),(5,.d (Sl Lbv y5.1)),(6,I y7.1),(9,.d (Sl Lby y11.1)),(11,.d (Sl Lbz y13.1)),(13,I y15.1),(14,B y15.2.1),(17,I y39),(107,B false),(117,B q45.2)] [bg q45.1,.box 25 (fQ y7.2),.dead,.dead] ?_ ?_
  ·refine Krc E E (fun hb=>?_) (fun hb=>?_)
   ·have h47:=cT hq45 hb
    exact bK h47 fun y48 hy48 h49=>gO 3 E<|Kra E<|Kgu [0] (.d (Sl Lbw y48.1)) [bg y48.2,.box 25 (fQ y7.2),.dead,.dead] C (Lem hy48) E Z E E E E E E E E E E<|bK h49 fun y50 hy50 h51=>Kra E<|Kgv C (Len hy50) E Z E E E E E<|gO 3 E<|oSi h51▸⟨⟨E,E,E,E,E,E,E,E,E,E,E,tV⟩,[],E,.inl E⟩
   have h52:=cF hq45 hb
   exact gO 8 E<|oSi h52▸⟨⟨E,E,E,E,E,E,E,E,E,E,E,tV⟩,[],E,.inl E⟩
  exact gO 2 E<|oSi h46▸⟨⟨E,E,E,E,E,E,E,E,E,E,tV⟩,[],E,.inl E⟩
 refine gO 2 E<|Kfo E (fun hb=>?_) (fun hb=>?_)
 ·have h53:=cT h42 hb
  exact gA 7 E<|oSi h53▸Khi hΓ [_,_,_] (.inr E) E E E E (.inr ⟨HB.mk E,E⟩)
 have h54:=cF h42 hb
 refine bK h54 fun q55 hq55 h56=>gA 9 E<|Kjv (q:=q55) (fun a57=>[(3,.ptr 1 0)]) (fun a57=>[bg a57,.box 25 (fQ y7.2),.dead,.dead]) ?_ ?_
 ·refine Kfo E (fun hb=>?_) (fun hb=>?_)
  ·have h58:=cT hq55 hb
   refine bK h58 fun y59 hy59 h60=>gA 5 E<|Kgu [0] (.tup [I y59.1,B y59.2.1]) [bg y59.2.2,.box 25 (fQ y7.2),.dead,.dead] C (Lev hy59) E Z E E E E E E E E E E<|bK h60 fun y61 hy61 h62=>gO 13 E<|Kgu [0] (.sl 4 y61.1.length) [bg y61.2,.box 25 (fQ y7.2),.dead,.dead,rO 117 8 Lby y61.1] C (Leq hy61) E Z E E E E E E E E E E<|Khb 4 [132] _ [bg y61.2,.box 25 (fQ y7.2),.dead,.dead,.dead] E E E Z<|bK h62 fun y63 hy63 h64=>Kgv C (Lew hy63) E Z E E E E E<|gO 2 E<|bK h64 fun q65 hq65 h66=>Kfu 8 [(3,.ptr 1 0),(13,I y15.1),(14,B y15.2.1),(18,I y59.1),(19,B y59.2.1),(143,B q65.2)] [bg q65.1,.box 25 (fQ y7.2),.dead,.dead,.dead] ?_ ?_
   ·refine Krc E E (fun hb=>?_) (fun hb=>?_)
    ·have h67:=cT hq65 hb
     exact gO 9 E<|oSi h67▸⟨⟨E,E,E,E,E,E,tV⟩,[],E,.inl E⟩
    have h68:=cF hq65 hb
    exact bK h68 fun y69 hy69 h70=>gO 4 E<|Kra E<|Kgu [0] (.sl 5 y69.1.length) [bg y69.2,.box 25 (fQ y7.2),.dead,.dead,.dead,rO 78 2 Lbz y69.1] C (Leu hy69) E Z E E E E E E E E E E<|Khb 5 [140] _ [bg y69.2,.box 25 (fQ y7.2),.dead,.dead,.dead,.dead] E E E Z<|bK h70 fun y71 hy71 h72=>Kra E<|Kgv C (Ldw hy71) E Z E E E E E<|gO 3 E<|oSi h72▸⟨⟨E,E,E,E,E,E,tV⟩,[_],E,.inr ⟨HB.mk E,FB.mk E,Z⟩⟩
   refine gO 1 E<|Kfu 4 [(3,.ptr 1 0),(14,B y15.2.1),(19,B y59.2.1),(148,B (q65.2||((y15.1:Int) != y59.1)))] [bg q65.1,.box 25 (fQ y7.2),.dead,.dead,.dead] ?_ ?_
   ·refine Krc E E (fun hb=>?_) (fun hb=>?_)
    ·exact gO 5 E<|⟨⟨E,E,E,Ker E (or_t hb),tV⟩,[],E,.inl E⟩
    exact gO 5 E<|⟨⟨E,E,E,Ker E (or_f hb),tV⟩,[],E,.inl E⟩
   refine gO 1 E<|Kfu 4 [(3,.ptr 1 0),(153,B ((q65.2||((y15.1:Int) != y59.1))||(!((y15.2.1:Bool)==y59.2.1))))] [bg q65.1,.box 25 (fQ y7.2),.dead,.dead,.dead] ?_ ?_
   ·refine Krc E E (fun hb=>?_) (fun hb=>?_)
    ·exact gO 5 E<|⟨⟨E,Ker E (or_t hb),tV⟩,[],E,.inl E⟩
    exact gO 5 E<|⟨⟨E,Ker E (or_f hb),tV⟩,[],E,.inl E⟩
   refine gO 2 E<|jC E h66 (fun h73=>?_) fun h76=>gA 1 E<|oSi h76▸⟨_,E,⟨⟨E,tV⟩,[_],E,.inr ⟨HB.mk E,FB.mk E,Z⟩⟩⟩
   refine gA 6 E<|bK h73 fun v74 hv74 h75=>?_
   cases h75
   cases h56
   exact gA 2 E<|oSi hv74▸Khi hΓ [_,_,_,_] (.inr E) E E E E (.inr ⟨HB.mk E,E⟩)
  have h77:=cF hq55 hb
  exact gA 1 E<|oSi h77▸⟨_,E,⟨⟨E,tV⟩,[],E,.inl E⟩⟩
 intro a57 ha
 subst ha
 replace h56:=Kjm h56
 refine bK h56 fun y78 hy78 h79=>gA 4 E<|Kgu [1] (.sl 4 y78.1.length) [bg a57,.box 25 (fQ y78.2),.dead,.dead,rO 78 2 Lbz y78.1] C (Lex hy78) E Z E E E E E E E E E E<|Khb 4 [155] _ [bg a57,.box 25 (fQ y78.2),.dead,.dead,.dead] E E E Z<|bK h79 fun y80 hy80 h81=>gO 1 E<|Kgu [1] (.sl 5 y80.1.length) [bg a57,.box 25 (fQ y80.2),.dead,.dead,.dead,rO 78 2 Lbz y80.1] C (Lex hy80) E Z E E E E E E E E E E<|Khb 5 [157] _ [bg a57,.box 25 (fQ y80.2),.dead,.dead,.dead,.dead] E E E Z<|bK h81 fun y82 hy82 h83=>gO 8 E<|Kgv C (Ley hy82) E Z E E E E E<|bK h83 fun y84 hy84 h85=>gO 11 E<|Kgv C (Lez hy84) E Z E E E E E<|bK h85 fun y86 hy86 h87=>gO 1 E<|Kgv C (Lez hy86) E Z E E E E E<|Kgp hΓ (enc:=(eN .i64)) [y84,y86] E E E E E E E E E E E E Z<|bK h87 fun y88 hy88 h89=>Kgv C (Leh hy88) E Z E E E E E<|gO 9 E<|Kfo E (fun hb=>?_) (fun hb=>?_)
 ·have h90:=cT h89 hb
  refine gA 6 E<|Kfu 4 [(179,B (((y82.2:Int)==y88)&&(((y82.1.length:Int):Int)==0)))] [bg a57,.box 25 (fQ y80.2),.dead,.dead,.dead,.dead] ?_ ?_
  ·refine Krc E E (fun hb=>?_) (fun hb=>?_)
   ·exact gO 5 E<|⟨⟨Ker E (Kho hb),tV⟩,[],E,.inl E⟩
   exact gO 5 E<|⟨⟨Ker E (Khp hb),tV⟩,[],E,.inl E⟩
  refine gO 1 E<|bK h90 fun q91 hq91 h92=>Kfu 2 [(182,B q91)] [bg a57,.box 25 (fQ y80.2),.dead,.dead,.dead,.dead] ?_ ?_
  ·refine Krc E E (fun hb=>?_) (fun hb=>?_)
   ·have h93:=cT hq91 hb
    exact bK h93 fun y94 hy94 h95=>Kra E<|Kgv C (Lbn hy94) E Z E E E E E<|gO 2 E<|oSi h95▸⟨⟨E,tV⟩,[],E,.inl E⟩
   have h96:=cF hq91 hb
   exact gO 3 E<|oSi h96▸⟨⟨E,tV⟩,[],E,.inl E⟩
  exact gO 5 E<|oSi h92▸Khi hΓ [_,_,_,_,_] (.inr E) E E E E (.inr ⟨HB.mk E,E⟩)
 have h97:=cF h89 hb
 refine bK h97 fun y98 hy98 h99=>gA 6 E<|Kgv C (Lbr hy98) E Z E E E E E<|gO 13 E<|bK h99 fun q100 hq100 h101=>Kfu 4 [(196,B q100)] [bg a57,.box 25 (fQ y80.2),.dead,.dead,.dead,.dead] ?_ ?_
 ·refine Krc E E (fun hb=>?_) (fun hb=>?_)
  ·have h102:=cT hq100 hb
   exact bK h102 fun y103 hy103 h104=>gO 2 E<|Kra E<|Kgv C (Ldw hy103) E Z E E E E E<|gO 2 E<|oSi h104▸⟨⟨E,tV⟩,[],E,.inl E⟩
  have h105:=cF hq100 hb
  exact gO 5 E<|oSi h105▸⟨⟨E,tV⟩,[],E,.inl E⟩
 refine gO 1 E<|bK h101 fun q106 hq106 h107=>Kfu 2 [(199,B q106)] [bg a57,.box 25 (fQ y80.2),.dead,.dead,.dead,.dead] ?_ ?_
 ·refine Krc E E (fun hb=>?_) (fun hb=>?_)
  ·have h108:=cT hq106 hb
   exact bK h108 fun y109 hy109 h110=>Kra E<|Kgv C (Lbn hy109) E Z E E E E E<|gO 2 E<|oSi h110▸⟨⟨E,tV⟩,[],E,.inl E⟩
  have h111:=cF hq106 hb
  exact gO 3 E<|oSi h111▸⟨⟨E,tV⟩,[],E,.inl E⟩
 exact gO 4 E<|oSi h107▸Khi hΓ [_,_,_,_,_] (.inr E) E E E E (.inr ⟨HB.mk E,E⟩)
end Go.Proofs.YthhdojhbohfmnaaGreatDoor
