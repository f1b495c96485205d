import Derived.Test.YtmecneoeklldeaaGreatDoorXCM
import Derived.Test.YtmecneoeklldeaaGreatDoorGt
import Derived.Test.YtmecneoeklldeaaGreatDoorStr
import Derived.Test.YtmecneoeklldeaaGreatDoorStr9
import Derived.Test.YtmecneoeklldeaaGreatDoorMStr3
import Derived.Test.YtmecneoeklldeaaGreatDoorLays
import Derived.Test.YtmecneoeklldeaaGreatDoorStrSS
import Derived.Test.YtmecneoeklldeaaGreatDoorStrK
import Derived.Test.YtmecneoeklldeaaGreatDoorGk60
import Derived.Test.YtmecneoeklldeaaGreatDoorRpT
import Derived.Test.YtmecneoeklldeaaGreatDoorGk62
import Derived.Test.YtmecneoeklldeaaGreatDoorStrK
import Derived.Test.YtmecneoeklldeaaGreatDoorXCW1
set_option maxHeartbeats 8000000
set_option linter.all false
set_option maxRecDepth 100000
namespace Go.Proofs.YtmecneoeklldeaaGreatDoor
open Go.Gk
theorem Kxw{k:Nat}{c:Kur}{r:Str}(h:Kwu k c=some r):Pure Tryz.prog 61 [.agg [I c.Kind,S c.Name,S c.Op,I c.Value.Kind,I c.Value.Number,S c.Value.Words,I c.Value.Version.1,I c.Value.Version.2.1,I c.Value.Version.2.2.1,I c.Value.Version.2.2.2,.d (.ro c.Kids.n c.Kids.xs)]] (S r):=by
 induction k generalizing c r with
 | zero=>unfold Kwu at h;cases h
 | succ k ih0=>
  have ih:∀ {c:Kur} {r:Str},Kwu k c=some r→Pure Tryz.prog 61 [.agg [I c.Kind,S c.Name,S c.Op,I c.Value.Kind,I c.Value.Number,S c.Value.Words,I c.Value.Version.1,I c.Value.Version.2.1,I c.Value.Version.2.2.1,I c.Value.Version.2.2.2,.d (.ro c.Kids.n c.Kids.xs)]] (S r):=by intro c r h;first | exact ih0 h | exact ih0 _ _ h
  refine Pure.enter (Fr.of 0 _) Tryz.func61 E (Fr.of_ok _) E E ?_
  refine Kgx ?_
  unfold Kwu at h
  refine gA 2 E ?_
  refine Kqb E E E E Z ?_
  refine gO 5 E ?_
  refine Kib (t:=0) 9 1 E Z ?_
  obtain⟨l1,hl1,h2⟩:=Khf h
  refine gO 6 E ?_
  refine eo_o E (Kmi (Kpn hΓ (g:=.d (.ro c.Kids.n c.Kids.xs)) E) (G.Le.unk Kxu hl1)) ?_
  refine gO 4 E ?_
  obtain⟨q6,hq6,h7⟩:=Khf h2
  refine Kho 8 E fun hb9=>?_
  refine Kku [(1,.ptr 0 0),(3,.sl 1 q6.length)] [.box 47 [I c.Kind,S c.Name,S c.Op,I c.Value.Kind,I c.Value.Number,S c.Value.Words,I c.Value.Version.1,I c.Value.Version.2.1,I c.Value.Version.2.2.1,I c.Value.Version.2.2.2,.d (.ro c.Kids.n c.Kids.xs)],rO 9 1 eS q6] ?_ ?_
  ·refine gA 1 E ?_
   refine Kiu l1 hq6 (fun i3 s4=>[(1,.ptr 0 0),(3,.sl 1 s4.length),(8,.d (Sl Kus l1)),(9,I (l1.length:Int)),(10,I (i3:Int))]) (fun s4=>[.box 47 [I c.Kind,S c.Name,S c.Op,I c.Value.Kind,I c.Value.Number,S c.Value.Words,I c.Value.Version.1,I c.Value.Version.2.1,I c.Value.Version.2.2.1,I c.Value.Version.2.2.2,.d (.ro c.Kids.n c.Kids.xs)],rO 9 1 eS s4]) ⟨⟨E,E,E,E,E,tV⟩,[],E,.inl E⟩ (fun i3 x5 s4 y13 hx10 hlt hy11=>?_) (?_)
   ·refine gA 6 E ?_
    refine Kgz E (dT (Int.ofNat_lt.2 hlt)) ?_
    refine gA 6 E ?_
    refine eo_o E (Khp hΓ (enc:=Kus) (Khi hx10) E E E E E (fun _=>E)) ?_
    refine gO 1 E ?_
    refine Kqa hΓ E E E Z ?_
    refine Kqf hΓ E E E E E E E E Z ?_
    refine Kil [.box 47 [I c.Kind,S c.Name,S c.Op,I c.Value.Kind,I c.Value.Number,S c.Value.Words,I c.Value.Version.1,I c.Value.Version.2.1,I c.Value.Version.2.2.1,I c.Value.Version.2.2.2,.d (.ro c.Kids.n c.Kids.xs)],rO 9 1 eS s4,.box 47 [I x5.Kind,S x5.Name,S x5.Op,I x5.Value.Kind,I x5.Value.Number,S x5.Value.Words,I x5.Value.Version.1,I x5.Value.Version.2.1,I x5.Value.Version.2.2.1,I x5.Value.Version.2.2.2,.d (.ro x5.Kids.n x5.Kids.xs)]] E ?_
    obtain⟨y14,hy14,h15⟩:=Khf hy11
    refine gO 5 E ?_
    refine Kie C (ih hy14) E Z E E E E E ?_
    refine gO 10 E ?_
    refine Khe 4 [(1,.ptr 0 0),(3,.sl 1 s4.length),(5,.ptr 2 0),(6,S y14),(8,.d (Sl Kus l1)),(9,I (l1.length:Int)),(10,I (i3:Int)),(23,B (((c.Kind:Int)==2)&&((x5.Kind:Int) != 2)))] [.box 47 [I c.Kind,S c.Name,S c.Op,I c.Value.Kind,I c.Value.Number,S c.Value.Words,I c.Value.Version.1,I c.Value.Version.2.1,I c.Value.Version.2.2.1,I c.Value.Version.2.2.2,.d (.ro c.Kids.n c.Kids.xs)],rO 9 1 eS s4,.box 47 [I x5.Kind,S x5.Name,S x5.Op,I x5.Value.Kind,I x5.Value.Number,S x5.Value.Words,I x5.Value.Version.1,I x5.Value.Version.2.1,I x5.Value.Version.2.2.1,I x5.Value.Version.2.2.2,.d (.ro x5.Kids.n x5.Kids.xs)]] ?_ ?_
    ·refine Kot E E (fun hb=>?_) (fun hb=>?_)
     ·refine gO 5 E ?_
      exact⟨⟨E,E,E,E,E,E,E,Kgd E (Kiy hb),tV⟩,[],E,.inl E⟩
     refine gO 5 E ?_
     exact⟨⟨E,E,E,E,E,E,E,Kgd E (Kiz hb),tV⟩,[],E,.inl E⟩
    refine gO 1 E ?_
    refine Khe 9 [(1,.ptr 0 0),(3,.sl 1 s4.length),(6,S y14),(8,.d (Sl Kus l1)),(9,I (l1.length:Int)),(10,I (i3:Int)),(33,B ((((c.Kind:Int)==2)&&((x5.Kind:Int) != 2))||(((c.Kind:Int)==3)&&((x5.Kind:Int)==4))))] [.box 47 [I c.Kind,S c.Name,S c.Op,I c.Value.Kind,I c.Value.Number,S c.Value.Words,I c.Value.Version.1,I c.Value.Version.2.1,I c.Value.Version.2.2.1,I c.Value.Version.2.2.2,.d (.ro c.Kids.n c.Kids.xs)],rO 9 1 eS s4,.box 47 [I x5.Kind,S x5.Name,S x5.Op,I x5.Value.Kind,I x5.Value.Number,S x5.Value.Words,I x5.Value.Version.1,I x5.Value.Version.2.1,I x5.Value.Version.2.2.1,I x5.Value.Version.2.2.2,.d (.ro x5.Kids.n x5.Kids.xs)]] ?_ ?_
    ·refine Kot E E (fun hb=>?_) (fun hb=>?_)
     ·refine gO 10 E ?_
      exact⟨⟨E,E,E,E,E,E,Kgd E (or_t hb),tV⟩,[],E,.inl E⟩
     refine gO 4 E ?_
     refine Khe 4 [(1,.ptr 0 0),(3,.sl 1 s4.length),(6,S y14),(8,.d (Sl Kus l1)),(9,I (l1.length:Int)),(10,I (i3:Int)),(24,B false),(32,B (((c.Kind:Int)==3)&&((x5.Kind:Int)==4)))] [.box 47 [I c.Kind,S c.Name,S c.Op,I c.Value.Kind,I c.Value.Number,S c.Value.Words,I c.Value.Version.1,I c.Value.Version.2.1,I c.Value.Version.2.2.1,I c.Value.Version.2.2.2,.d (.ro c.Kids.n c.Kids.xs)],rO 9 1 eS s4,.box 47 [I x5.Kind,S x5.Name,S x5.Op,I x5.Value.Kind,I x5.Value.Number,S x5.Value.Words,I x5.Value.Version.1,I x5.Value.Version.2.1,I x5.Value.Version.2.2.1,I x5.Value.Version.2.2.2,.d (.ro x5.Kids.n x5.Kids.xs)]] ?_ ?_
     ·refine Kot E E (fun hb=>?_) (fun hb=>?_)
      ·refine gO 5 E ?_
       exact⟨⟨E,E,E,E,E,E,E,Kgd E (Kiy hb),tV⟩,[],E,.inl E⟩
      refine gO 5 E ?_
      exact⟨⟨E,E,E,E,E,E,E,Kgd E (Kiz hb),tV⟩,[],E,.inl E⟩
     refine gO 2 E ?_
     exact⟨⟨E,E,E,E,E,E,Kgd E (or_f hb),tV⟩,[],E,.inl E⟩
    obtain⟨q16,hq16,h17⟩:=Khf h15
    refine gO 2 E ?_
    refine Kku [(1,.ptr 0 0),(3,.sl 1 s4.length),(6,S q16),(8,.d (Sl Kus l1)),(9,I (l1.length:Int)),(10,I (i3:Int))] [.box 47 [I c.Kind,S c.Name,S c.Op,I c.Value.Kind,I c.Value.Number,S c.Value.Words,I c.Value.Version.1,I c.Value.Version.2.1,I c.Value.Version.2.2.1,I c.Value.Version.2.2.2,.d (.ro c.Kids.n c.Kids.xs)],rO 9 1 eS s4,.box 47 [I x5.Kind,S x5.Name,S x5.Op,I x5.Value.Kind,I x5.Value.Number,S x5.Value.Words,I x5.Value.Version.1,I x5.Value.Version.2.1,I x5.Value.Version.2.2.1,I x5.Value.Version.2.2.2,.d (.ro x5.Kids.n x5.Kids.xs)]] ?_ ?_
    ·refine Kgy E (fun hb=>?_) (fun hb=>?_)
     ·have h18:=cT hq16 hb
      obtain⟨y19,hy19,h20⟩:=Khf h18
      refine gA 2 E ?_
      refine eo_o E (Kio hy19 E E) ?_
      obtain⟨y21,hy21,h22⟩:=Khf h20
      refine eo_o E (Kio hy21 E E) ?_
      refine gO 2 E ?_
      obtain rfl:=oSi h22
      exact⟨⟨E,E,E,E,E,E,tV⟩,[],E,.inl E⟩
     have h23:=cF hq16 hb
     refine gA 1 E ?_
     obtain rfl:=oSi h23
     exact⟨⟨E,E,E,E,E,E,tV⟩,[],E,.inl E⟩
    refine gA 4 E ?_
    refine Khz hΓ (enc:=eS) [q16] E E E E E E E E E E E E Z ?_
    obtain⟨y24,hy24,h25⟩:=Khf h17
    refine Kim hΓ (enc:=eS) hy24 E E E E E E E E E (fun _=>E) E E E E ?_
    refine gO 8 E ?_
    obtain rfl:=oSi h25
    exact⟨⟨E,E,E,E,Kgc E (Kgb (nLl hlt hb9)),tV⟩,[_],E,.inr ⟨HB.mk E,FB.mk E,Z⟩⟩
   refine gA 6 E ?_
   refine Kha E (dF (Int.lt_irrefl _)) ?_
   refine gA 4 E ?_
   exact⟨⟨E,E,tV⟩,[],E,.inl E⟩
  refine gA 15 E ?_
  refine Kgy E (fun hb=>?_) (fun hb=>?_)
  ·have h26:=cT h7 hb
   refine gA 1 E ?_
   refine jD ?_
   obtain⟨y27,hy27,h28⟩:=Khf h26
   refine gA 2 E ?_
   refine gl_o E (Kio hy27 E E) ?_
   obtain⟨y29,hy29,h30⟩:=Khf h28
   refine Kgw hΓ 2 E ?_
   refine gl_o E (Kio hy29 E E) ?_
   obtain⟨y31,hy31,h32⟩:=Khf h30
   refine gl_o E (Kio hy31 E E) ?_
   obtain⟨y33,hy33,h34⟩:=Khf h32
   refine Kgw hΓ 2 E ?_
   refine Kif C (Laz hy33) E E E E E E ?_
   obtain⟨y35,hy35,h36⟩:=Khf h34
   refine gl_o E (Kio hy35 E E) ?_
   refine Kgw hΓ 6 E ?_
   obtain rfl:=oSi h36
   exact gP E E
  have h37:=cF h7 hb
  refine gA 6 E ?_
  refine Kgy E (fun hb=>?_) (fun hb=>?_)
  ·have h38:=cT h37 hb
   obtain⟨x39,hx39,h40⟩:=Khf h38
   have hj41:=Kix hx39
   refine gA 3 E ?_
   refine eo_o E (Khr hΓ hx39 E E E E E E) ?_
   refine eo_o E (Khw hΓ (sz:=1) (enc:=eS) ((0:Int).toNat) 0 hj41 E E E E (fun _=>E) (g:=S x39) E) ?_
   obtain⟨y42,hy42,h43⟩:=Khf h40
   refine eo_o E (Kio hy42 E E) ?_
   refine gO 6 E ?_
   obtain rfl:=oSi h43
   exact gP E E
  have h44:=cF h37 hb
  refine gA 6 E ?_
  refine Kgy E (fun hb=>?_) (fun hb=>?_)
  ·have h45:=cT h44 hb
   obtain⟨y46,hy46,h47⟩:=Khf h45
   refine gA 3 E ?_
   refine Kig C (Ktm hy46) E Z E E E E E ?_
   refine gO 6 E ?_
   obtain rfl:=oSi h47
   exact gP E E
  have h48:=cF h44 hb
  obtain⟨y49,hy49,h50⟩:=Khf h48
  refine gA 6 E ?_
  refine Kig C (Ktm hy49) E Z E E E E E ?_
  refine gO 4 E ?_
  obtain rfl:=oSi h50
  exact gP E E
theorem Kxx{k:Nat}{c:Kur}{r:Str×Int}(h:Kwv k c=some r):Pure Tryz.prog 20 [.agg [I c.Kind,S c.Name,S c.Op,I c.Value.Kind,I c.Value.Number,S c.Value.Words,I c.Value.Version.1,I c.Value.Version.2.1,I c.Value.Version.2.2.1,I c.Value.Version.2.2.2,.d (.ro c.Kids.n c.Kids.xs)]] (.tup [S r.1,I r.2]):=by
 unfold Kwv at h
 refine QP Tryz.func20 E E E<|gA 2 E<|Kqb E E E E Z<|bK h fun y1 hy1 h2=>gO 8 E<|Kie C (Lax hy1) E Z E E E E E<|gO 9 E<|jC E h2 (fun h3=>?_) fun h4=>bK h4 fun y5 hy5 h6=>gA 5 E<|Kie C (Kxw hy5) E Z E E E E E<|gO 11 E<|jC E h6 (fun h7=>?_) fun h8=>?_
 ·exact gA 9 E<|oSi h3▸gP E E
 ·exact gA 8 E<|oSi h7▸gP E E
 exact gA 10 E<|oSi h8▸gP E E
theorem Kxy{k:Nat}{c:Kur}{r:List Kur}(h:Kww k c=some r):Pure Tryz.prog 62 [.agg [I c.Kind,S c.Name,S c.Op,I c.Value.Kind,I c.Value.Number,S c.Value.Words,I c.Value.Version.1,I c.Value.Version.2.1,I c.Value.Version.2.2.1,I c.Value.Version.2.2.2,.d (.ro c.Kids.n c.Kids.xs)]] (.d (Sl Kus r)):=by
 induction k generalizing c r with
 | zero=>unfold Kww at h;cases h
 | succ k ih0=>
  have ih:∀ {c:Kur} {r:List Kur},Kww k c=some r→Pure Tryz.prog 62 [.agg [I c.Kind,S c.Name,S c.Op,I c.Value.Kind,I c.Value.Number,S c.Value.Words,I c.Value.Version.1,I c.Value.Version.2.1,I c.Value.Version.2.2.1,I c.Value.Version.2.2.2,.d (.ro c.Kids.n c.Kids.xs)]] (.d (Sl Kus r)):=by intro c r h;first | exact ih0 h | exact ih0 _ _ h
  refine Pure.enter (Fr.of 0 _) Tryz.func62 E (Fr.of_ok _) E E ?_
  refine Kgx ?_
  unfold Kww at h
  refine gA 2 E ?_
  refine Kqb E E E E Z ?_
  refine gO 11 E ?_
  refine Kgy E (fun hb=>?_) (fun hb=>?_)
  ·have h1:=cT h hb
   refine gA 3 E ?_
   refine Khz hΓ (enc:=Kus) [c] E E E E E E E E E E E E Z ?_
   refine gO 5 E ?_
   obtain rfl:=oSi h1
   exact gP E E
  have h2:=cF h hb
  refine gA 4 E ?_
  refine Kib (t:=0) 47 11 E Z ?_
  obtain⟨l3,hl3,h4⟩:=Khf h2
  refine gO 6 E ?_
  refine eo_o E (Kmi (Kpn hΓ (g:=.d (.ro c.Kids.n c.Kids.xs)) E) (G.Le.unk Kxu hl3)) ?_
  refine gO 4 E ?_
  obtain⟨q8,hq8,h9⟩:=Khf h4
  refine Kho 12 E fun hb11=>?_
  refine Kku [(3,.sl 1 q8.length)] [.box 47 [I c.Kind,S c.Name,S c.Op,I c.Value.Kind,I c.Value.Number,S c.Value.Words,I c.Value.Version.1,I c.Value.Version.2.1,I c.Value.Version.2.2.1,I c.Value.Version.2.2.2,.d (.ro c.Kids.n c.Kids.xs)],rO 47 11 Kus q8] ?_ ?_
  ·refine gA 1 E ?_
   refine Kiu l3 hq8 (fun i5 s6=>[(3,.sl 1 s6.length),(12,.d (Sl Kus l3)),(13,I (l3.length:Int)),(14,I (i5:Int))]) (fun s6=>[.box 47 [I c.Kind,S c.Name,S c.Op,I c.Value.Kind,I c.Value.Number,S c.Value.Words,I c.Value.Version.1,I c.Value.Version.2.1,I c.Value.Version.2.2.1,I c.Value.Version.2.2.2,.d (.ro c.Kids.n c.Kids.xs)],rO 47 11 Kus s6]) ⟨⟨E,E,E,E,tV⟩,[],E,.inl E⟩ (fun i5 x7 s6 y15 hx12 hlt hy13=>?_) (?_)
   ·refine gA 6 E ?_
    refine Kgz E (dT (Int.ofNat_lt.2 hlt)) ?_
    refine gA 6 E ?_
    refine eo_o E (Khp hΓ (enc:=Kus) (Khi hx12) E E E E E (fun _=>E)) ?_
    refine gO 1 E ?_
    refine Kqa hΓ E E E Z ?_
    refine Kqf hΓ E E E E E E E E Z ?_
    refine Kil [.box 47 [I c.Kind,S c.Name,S c.Op,I c.Value.Kind,I c.Value.Number,S c.Value.Words,I c.Value.Version.1,I c.Value.Version.2.1,I c.Value.Version.2.2.1,I c.Value.Version.2.2.2,.d (.ro c.Kids.n c.Kids.xs)],rO 47 11 Kus s6,.box 47 [I x7.Kind,S x7.Name,S x7.Op,I x7.Value.Kind,I x7.Value.Number,S x7.Value.Words,I x7.Value.Version.1,I x7.Value.Version.2.1,I x7.Value.Version.2.2.1,I x7.Value.Version.2.2.2,.d (.ro x7.Kids.n x7.Kids.xs)]] E ?_
    obtain⟨y16,hy16,h17⟩:=Khf hy13
    refine gO 5 E ?_
    refine Kie C (ih hy16) E Z E E E E E ?_
    obtain⟨y18,hy18,h19⟩:=Khf h17
    refine Kim hΓ (enc:=Kus) hy18 E E E E E E E E E (fun _=>E) E E E E ?_
    refine gO 8 E ?_
    obtain rfl:=oSi h19
    exact⟨⟨E,E,E,Kgc E (Kgb (nLl hlt hb11)),tV⟩,[_],E,.inr ⟨HB.mk E,FB.mk E,Z⟩⟩
   refine gA 6 E ?_
   refine Kha E (dF (Int.lt_irrefl _)) ?_
   refine gA 4 E ?_
   exact⟨⟨E,tV⟩,[],E,.inl E⟩
  refine gA 5 E ?_
  refine Kij 1 [2,3,23] _ [.box 47 [I c.Kind,S c.Name,S c.Op,I c.Value.Kind,I c.Value.Number,S c.Value.Words,I c.Value.Version.1,I c.Value.Version.2.1,I c.Value.Version.2.2.1,I c.Value.Version.2.2.2,.d (.ro c.Kids.n c.Kids.xs)],.dead] E E E Z ?_
  refine gO 3 E ?_
  obtain rfl:=oSi h9
  exact gP E E
theorem Kxz{k:Nat}{s:List Str}{r:List Str}(h:Kwx k s=some r):EC Tryz.prog 64 [.sl 0 s.length] [rO 9 1 eS s] fun g hp'=>g=.sl 0 r.length∧hp'=[rO 9 1 eS r]:=by
 unfold Kwx at h
 refine QN Tryz.func64 E Z<|gA 13 E<|jC E h (fun h1=>?_) fun h2=>gA 8 E<|bK h2 fun q6 hq6 h7=>Kkt (R:=fun a8=>q6=.inl a8) (fun a8=>[(0,.sl 0 s.length)]) (fun a8=>[rO 9 1 eS s]) ?_ ?_
 ·exact gA 8 E<|oSi h1▸Kis hΓ [] (.inr E) E E E E (.inl E)
 ·refine gA 1 E<|Khl hq6 (fun s4=>[(0,.sl 0 s.length),(3,I s4)]) (fun s4=>[rO 9 1 eS s]) ⟨⟨E,E,tV⟩,[],E,.inl E⟩ (fun s4 y12 hy10 hout11=>?_)
  refine gA 9 E<|jC E hy10 (fun h13=>?_) fun h60=>gA 4 E ?_
  ·refine gA 5 E<|jD<|bK h13 fun x14 hx14 h15=>?_
   have hj16:=Kix hx14
   refine gA 2 E<|gl_o E (Khr hΓ hx14 E E E E E E)<|gl_o E (Khw hΓ (enc:=eS) s4.toNat 0 hj16 E E E E (fun _=>E) (g:=S x14) E)<|bK h15 fun x17 hx17 h18=>?_
   have hj19:=Kix hx17
   refine Kgw hΓ 3 E<|gl_o E (Khr hΓ hx17 E E E E E E)<|gl_o E (Khw hΓ (enc:=eS) ((wi (s4 - 1)).toNat) 0 hj19 E E E E (fun _=>E) (g:=S x17) E)<|Kgw hΓ 3 E<|jC E h18 (fun h20=>?_) fun h59=>gA 8 E<|oSi h59▸⟨_,E,⟨⟨E,E,tV⟩,[],E,.inl E⟩⟩
   refine bK h20 fun z21 hz21 h22=>gA 4 E<|eo_o E (Klc hΓ hz21 E E E E E E)<|gO 9 E<|bK h22 fun q26 hq26 h27=>Kku [(0,.sl 0 q26.1.length),(3,I q26.2)] [rO 9 1 eS q26.1] ?_ ?_
   ·refine gA 1 E<|Khl hq26 (fun s24=>[(0,.sl 0 s24.1.length),(3,I s24.2.1),(4,.slo 0 1 s4.toNat z21.length),(5,I s24.2.2)]) (fun s24=>[rO 9 1 eS s24.1]) ⟨⟨E,E,E,E,tV⟩,[],E,.inl E⟩ (fun s24 y32 hy30 hout31=>?_)
    refine gA 9 E<|jC E hy30 (fun h33=>?_) fun h54=>gA 4 E ?_
    ·refine gA 5 E<|jD<|bK h33 fun x34 hx34 h35=>bK h35 fun x36 hx36 h37=>?_
     have hj38:s24.1[(s4.toNat+s24.2.2.toNat)]?=some x36:=hx36
     refine gA 2 E<|gl_o E (Klg hΓ hx34 E E E E E E E)<|gl_o E (Khw hΓ (enc:=eS) (s4.toNat+s24.2.2.toNat) 0 hj38 E E E E (fun _=>E) (g:=S x36) E)<|bK h37 fun x39 hx39 h40=>bK h40 fun x41 hx41 h42=>?_
     have hj43:s24.1[(s4.toNat+(wi (s24.2.2 - 1)).toNat)]?=some x41:=hx41
     refine Kgw hΓ 3 E<|gl_o E (Klg hΓ hx39 E E E E E E E)<|gl_o E (Khw hΓ (enc:=eS) (s4.toNat+(wi (s24.2.2 - 1)).toNat) 0 hj43 E E E E (fun _=>E) (g:=S x41) E)<|Kgw hΓ 3 E<|jC E h42 (fun h44=>?_) fun h53=>gA 8 E<|oSi h53▸⟨_,E,⟨⟨E,E,E,E,tV⟩,[],E,.inl E⟩⟩
     refine bK h44 fun x45 hx45 h46=>bK h46 fun x47 hx47 h48=>?_
     have hj49:s24.1[(s4.toNat+s24.2.2.toNat)]?=some x47:=hx47
     refine gA 6 E<|eo_o E (Klg hΓ hx45 E E E E E E E)<|eo_o E (Khw hΓ (enc:=eS) (s4.toNat+s24.2.2.toNat) 0 hj49 E E E E (fun _=>E) (g:=S x47) E)<|bK h48 fun x50 hx50 h51=>?_
     have hj52:=Kix hx50
     exact eo_o E (Khr hΓ hx50 E E E E E E)<|Khy hΓ (enc:=eS) (z':=x47) s24.2.1.toNat 0 hj52 E E E E (fun _=>E) E E E E E E Z<|Kil [rO 9 1 eS (s24.1.set s24.2.1.toNat x47)] E<|Kle 0 (n':=(s24.1.set s24.2.1.toNat x47).length) E List.length_set.symm<|gO 14 E<|oSi h51▸⟨_,E,⟨⟨E,E,E,E,tV⟩,[],E,.inl E⟩⟩
    cases h54
    obtain rfl:=hout31 _ rfl
    exact⟨⟨E,E,tV⟩,[],E,.inl E⟩
   refine bK h27 fun z55 hz55 h56=>gA 5 E<|eo_o E (Klc hΓ hz55 E E E E E E)<|Kkz Z (Klb hΓ (enc:=eS) (a:=q26.2) hz55 E E E E E E E E E E (fun _=>E))<|gO 6 E<|Kld hΓ hz55 E E E E E E E E<|gO 6 E<|bK h56 fun v57 hv57 h58=>?_
   cases h58
   obtain rfl:=hout11 _ rfl
   cases h7
   exact gA 4 E<|oSi hv57▸Kis hΓ [] (.inr E) E E E E (.inl E)
  cases h60
  obtain rfl:=hout11 _ rfl
  exact⟨_,E,⟨⟨E,tV⟩,[],E,.inl E⟩⟩
 intro a8 ha
 subst ha
 replace h7:=Kkm h7
 exact gA 8 E<|oSi h7▸Kis hΓ [] (.inr E) E E E E (.inl E)
theorem Kya{k:Nat}{c:Kur}{r:List Str}(h:Kwy k c=some r):EC Tryz.prog 22 [.agg [I c.Kind,S c.Name,S c.Op,I c.Value.Kind,I c.Value.Number,S c.Value.Words,I c.Value.Version.1,I c.Value.Version.2.1,I c.Value.Version.2.2.1,I c.Value.Version.2.2.2,.d (.ro c.Kids.n c.Kids.xs)]] [] fun g hp'=>g=.sl 0 r.length∧hp'=[rO 9 1 eS r]:=by
 unfold Kwy at h
 refine QM Tryz.func22 E Z<|gA 2 E<|Kqb E E E E Z<|gO 5 E<|Kib (t:=0) 9 1 E Z<|bK h fun y1 hy1 h2=>gO 6 E<|Kie C (Kxy hy1) E Z E E E E E<|gO 4 E<|bK h2 fun q6 hq6 h7=>Kho 7 E fun hb9=>Kku [(3,.sl 1 q6.length)] [.box 47 [I c.Kind,S c.Name,S c.Op,I c.Value.Kind,I c.Value.Number,S c.Value.Words,I c.Value.Version.1,I c.Value.Version.2.1,I c.Value.Version.2.2.1,I c.Value.Version.2.2.2,.d (.ro c.Kids.n c.Kids.xs)],rO 9 1 eS q6] ?_ ?_
 ·refine gA 1 E<|Kiu y1 hq6 (fun i3 s4=>[(3,.sl 1 s4.length),(7,.d (Sl Kus y1)),(8,I (y1.length:Int)),(9,I (i3:Int))]) (fun s4=>[.box 47 [I c.Kind,S c.Name,S c.Op,I c.Value.Kind,I c.Value.Number,S c.Value.Words,I c.Value.Version.1,I c.Value.Version.2.1,I c.Value.Version.2.2.1,I c.Value.Version.2.2.2,.d (.ro c.Kids.n c.Kids.xs)],rO 9 1 eS s4]) ⟨⟨E,E,E,E,tV⟩,[],E,.inl E⟩ (fun i3 x5 s4 y13 hx10 hlt hy11=>?_) (?_)
  ·refine gA 6 E<|Kgz E (dT (Int.ofNat_lt.2 hlt))<|gA 6 E<|eo_o E (Khp hΓ (enc:=Kus) (Khi hx10) E E E E E (fun _=>E))<|gO 1 E<|Kqa hΓ E E E Z<|Kqf hΓ E E E E E E E E Z<|Kil [.box 47 [I c.Kind,S c.Name,S c.Op,I c.Value.Kind,I c.Value.Number,S c.Value.Words,I c.Value.Version.1,I c.Value.Version.2.1,I c.Value.Version.2.2.1,I c.Value.Version.2.2.2,.d (.ro c.Kids.n c.Kids.xs)],rO 9 1 eS s4,.box 47 [I x5.Kind,S x5.Name,S x5.Op,I x5.Value.Kind,I x5.Value.Number,S x5.Value.Words,I x5.Value.Version.1,I x5.Value.Version.2.1,I x5.Value.Version.2.2.1,I x5.Value.Version.2.2.2,.d (.ro x5.Kids.n x5.Kids.xs)]] E<|gO 6 E<|Khz hΓ (enc:=eS) [x5.Name] E E E E E E E E E E E E Z<|bK hy11 fun y14 hy14 h15=>Kim hΓ (enc:=eS) hy14 E E E E E E E E E (fun _=>E) E E E E<|gO 8 E ?_
   cases h15
   exact⟨⟨E,E,E,Kgc E (Kgb (nLl hlt hb9)),tV⟩,[_],E,.inr ⟨HB.mk E,FB.mk E,Z⟩⟩
  exact gA 6 E<|Kha E (dF (Int.lt_irrefl _))<|gA 4 E<|⟨⟨E,tV⟩,[],E,.inl E⟩
 exact bK h7 fun y16 hy16 h17=>gA 4 E<|Kid [1] (.tup []) [.box 47 [I c.Kind,S c.Name,S c.Op,I c.Value.Kind,I c.Value.Number,S c.Value.Words,I c.Value.Version.1,I c.Value.Version.2.1,I c.Value.Version.2.2.1,I c.Value.Version.2.2.2,.d (.ro c.Kids.n c.Kids.xs)],rO 9 1 eS y16] C (Ktq hy16) E Z E E E E E E E E E E<|gK h17 fun hg19 h18=>Kle 3 E (of_decide_eq_true hg19).symm<|bK h18 fun y20 hy20 h21=>gO 5 E<|Kid [1] (.sl 1 y20.length) [.box 47 [I c.Kind,S c.Name,S c.Op,I c.Value.Kind,I c.Value.Number,S c.Value.Words,I c.Value.Version.1,I c.Value.Version.2.1,I c.Value.Version.2.2.1,I c.Value.Version.2.2.2,.d (.ro c.Kids.n c.Kids.xs)],rO 9 1 eS y20] C (Kxz hy20) E Z E E E E E E E E E E<|gO 4 E<|Kme 0 [.dead,rO 9 1 eS y20] E Z<|Kks 1 0 [rO 9 1 eS y20,.dead] E E E E E E<|Kkp<|oSi h21▸Kis hΓ [_] (.inr E) E E E E (.inr ⟨HB.mk E,E⟩)
theorem Kyb{s1:List Str}{s2:List Str}{r:Bool}(h:Kwz s1 s2=some r):Pure Tryz.prog 21 [.d (Sl eS s1),.d (Sl eS s2)] (B r):=by
 unfold Kwz at h
 refine QP Tryz.func21 E E E<|gA 15 E<|jC E h (fun h1=>?_) fun h2=>gA 10 E<|bK h2 fun q6 hq6 h7=>Kho 0 E fun hb9=>Kkt (R:=fun a8=>q6=.go a8) (fun a8=>[]) (fun a8=>[]) ?_ ?_
 ·exact gA 7 E<|oSi h1▸gP E E
 ·refine gA 1 E<|Khn s1 hq6 (fun i3 s4=>[(0,.d (Sl eS s1)),(1,.d (Sl eS s2)),(12,I (s1.length:Int)),(13,I (i3:Int))]) (fun s4=>[]) ⟨⟨E,E,E,E,tV⟩,[],E,.inl E⟩ (fun i3 x5 s4 y13 hx10 hlt hy11 hout12=>?_) (fun s4 hgo=>?_)
  ·refine gA 6 E<|Kgz E (dT (Int.ofNat_lt.2 hlt))<|gA 11 E<|jD<|gA 2 E<|gl_o E (Khp hΓ (enc:=eS) (Khi hx10) E E E E E (fun _=>E))<|bK hy11 fun x14 hx14 h15=>Kgw hΓ 3 E<|gl_o E (Khp hΓ (enc:=eS) hx14 E E E E E (fun _=>E))<|Kgw hΓ 4 E<|jC E h15 (fun h16=>?_) fun h19=>gA 7 E ?_
   ·refine gA 8 E<|bK h16 fun v17 hv17 h18=>?_
    cases h18
    obtain rfl:=hout12 _ rfl
    cases h7
    exact gA 4 E<|oSi hv17▸gP E E
   cases h19
   exact⟨_,E,⟨⟨E,E,E,Kgc E (Kgb (nLl hlt hb9)),tV⟩,[],E,.inl E⟩⟩
  subst hgo
  exact gA 6 E<|Kha E (dF (Int.lt_irrefl _))<|gA 4 E<|⟨_,E,⟨tV,[],E,.inl E⟩⟩
 intro a8 ha
 subst ha
 replace h7:=Kkn h7
 exact gA 7 E<|oSi h7▸gP E E
theorem Kyc{k:Nat}{s:Str}{v_at:Int}{r:Int}(h:Kxa k s v_at=some r):Pure Tryz.prog 208 [S s,I v_at] (I r):=by
 unfold Kxa at h
 refine QP Tryz.func208 E E E<|gA 6 E<|bK h fun q4 hq4 h5=>Kku [(1,I q4)] [] ?_ ?_
 ·refine gA 1 E<|Khl hq4 (fun s2=>[(0,S s),(1,I s2)]) (fun s2=>[]) ⟨⟨E,E,tV⟩,[],E,.inl E⟩ (fun s2 y10 hy8 hout9=>?_)
  refine gA 8 E<|bK hy8 fun q11 hq11 h12=>Khe 5 [(0,S s),(1,I s2),(14,B q11)] [] ?_ ?_
  ·refine Kot E E (fun hb=>?_) (fun hb=>?_)
   ·have h13:=cT hq11 hb
    exact bK h13 fun c14 hc14 h15=>gO 2 E<|Kor E<|eo_o E (Khq hΓ hc14 E E E E)<|bK h15 fun y16 hy16 h17=>Kor E<|Kie C (Kzt hy16) E Z E E E E E<|gO 2 E<|oSi h17▸⟨⟨E,E,E,tV⟩,[],E,.inl E⟩
   have h18:=cF hq11 hb
   exact gO 6 E<|oSi h18▸⟨⟨E,E,E,tV⟩,[],E,.inl E⟩
  refine gO 2 E<|jC E h12 (fun h19=>?_) fun h20=>gA 4 E ?_
  ·exact gA 9 E<|oSi h19▸⟨_,E,⟨⟨E,E,tV⟩,[],E,.inl E⟩⟩
  cases h20
  obtain rfl:=hout9 _ rfl
  exact⟨⟨E,tV⟩,[],E,.inl E⟩
 exact gA 8 E<|oSi h5▸gP E E
theorem Kyd{k:Nat}{s:Str}{most:Int}{r:Int×Bool}(h:Kxb k s most=some r):Pure Tryz.prog 119 [S s,I most] (.tup [I r.1,B r.2]):=by
 unfold Kxb at h
 refine QP Tryz.func119 E E E<|bK h fun y1 hy1 h2=>gA 9 E<|Kie C (Kte hy1) E Z E E E E E<|gO 9 E<|Khe 5 [(0,S s),(6,S y1),(19,B (((y1:Str)==[])||(decide (((y1.length:Int):Int)>most))))] [] ?_ ?_
 ·refine Kot E E (fun hb=>?_) (fun hb=>?_)
  ·exact gO 6 E<|⟨⟨E,E,Kgd E (or_t hb),tV⟩,[],E,.inl E⟩
  exact gO 6 E<|⟨⟨E,E,Kgd E (or_f hb),tV⟩,[],E,.inl E⟩
 refine gO 1 E<|bK h2 fun q3 hq3 h4=>Khe 8 [(0,S s),(6,S y1),(28,B q3)] [] ?_ ?_
 ·refine Kot E E (fun hb=>?_) (fun hb=>?_)
  ·have h5:=cT hq3 hb
   exact gO 9 E<|oSi h5▸⟨⟨E,E,E,tV⟩,[],E,.inl E⟩
  have h6:=cF hq3 hb
  refine bK h6 fun c7 hc7 h8=>gO 1 E<|Kor E<|eo_o E (Khq hΓ hc7 E E E E)<|gO 2 E<|Khe 3 [(0,S s),(6,S y1),(20,B false),(27,B ((((c7.toNat:Int):Int)==48)&&(!((s:Str)==[48]))))] [] ?_ ?_
  ·refine Kot E E (fun hb=>?_) (fun hb=>?_)
   ·exact gO 4 E<|⟨⟨E,E,E,Kgd E (Kiy hb),tV⟩,[],E,.inl E⟩
   exact gO 4 E<|⟨⟨E,E,E,Kgd E (Kiz hb),tV⟩,[],E,.inl E⟩
  exact gO 2 E<|oSi h8▸⟨⟨E,E,E,tV⟩,[],E,.inl E⟩
 refine gO 2 E<|jC E h4 (fun h9=>?_) fun h10=>gA 8 E<|bK h10 fun q14 hq14 h15=>Kkt (R:=fun a16=>q14=.inl a16) (fun a16=>[(0,S s)]) (fun a16=>[]) ?_ ?_
 ·exact gA 8 E<|oSi h9▸gP E E
 ·refine gA 1 E<|Khl hq14 (fun s12=>[(0,S s),(6,S y1),(7,I s12)]) (fun s12=>[]) ⟨⟨E,E,E,tV⟩,[],E,.inl E⟩ (fun s12 y20 hy18 hout19=>?_)
  refine gA 9 E<|jC E hy18 (fun h21=>?_) fun h34=>gA 4 E ?_
  ·refine bK h21 fun c22 hc22 h23=>gA 8 E<|eo_o E (Khq hΓ hc22 E E E E)<|gO 2 E<|bK h23 fun q24 hq24 h25=>Khe 5 [(0,S s),(6,S y1),(7,I s12),(44,B q24)] [] ?_ ?_
   ·refine Kot E E (fun hb=>?_) (fun hb=>?_)
    ·have h26:=cT hq24 hb
     exact gO 6 E<|oSi h26▸⟨⟨E,E,E,E,tV⟩,[],E,.inl E⟩
    have h27:=cF hq24 hb
    exact bK h27 fun c28 hc28 h29=>gO 2 E<|Kor E<|eo_o E (Khq hΓ hc28 E E E E)<|gO 3 E<|oSi h29▸⟨⟨E,E,E,E,tV⟩,[],E,.inl E⟩
   refine gO 2 E<|jC E h25 (fun h30=>?_) fun h33=>gA 8 E<|oSi h33▸⟨_,E,⟨⟨E,E,E,tV⟩,[],E,.inl E⟩⟩
   refine gA 9 E<|bK h30 fun v31 hv31 h32=>?_
   cases h32
   obtain rfl:=hout19 _ rfl
   cases h15
   exact gA 4 E<|oSi hv31▸gP E E
  cases h34
  obtain rfl:=hout19 _ rfl
  exact⟨_,E,⟨⟨E,tV⟩,[],E,.inl E⟩⟩
 intro a16 ha
 subst ha
 replace h15:=Kkm h15
 exact bK h15 fun y35 hy35 h36=>gA 4 E<|Kie C (Ktk hy35) E Z E E E E E<|gO 8 E<|jD<|gA 2 E<|gl_o E (Kms hΓ E E E E)<|Kgw hΓ 5 E<|oSi h36▸gP E E
theorem Kye{k:Nat}{s:Str}{r:Int×Bool}(h:Kxc k s=some r):Pure Tryz.prog 85 [S s] (.tup [I r.1,B r.2]):=by
 unfold Kxc at h
 exact QP Tryz.func85 E E E<|bK h fun y1 hy1 h2=>gA 9 E<|Kie C (Kyd hy1) E Z E E E E E<|gO 7 E<|oSi h2▸gP E E
theorem Kyf{k:Nat}{t:Kut}{s:Str}{r:Kut}(h:Kxd k t s=some r):EC Tryz.prog 171 [.ptr 0 0,S s] [.box 128 [S t.kind,I t.v_at,I t.v_end,S t.name,I t.value.Kind,I t.value.Number,S t.value.Words,I t.value.Version.1,I t.value.Version.2.1,I t.value.Version.2.2.1,I t.value.Version.2.2.2]] fun g hp'=>g=.tup []∧hp'=[.box 128 [S r.kind,I r.v_at,I r.v_end,S r.name,I r.value.Kind,I r.value.Number,S r.value.Words,I r.value.Version.1,I r.value.Version.2.1,I r.value.Version.2.2.1,I r.value.Version.2.2.2]]:=by
 unfold Kxd at h
 refine QN Tryz.func171 E Z<|bK h fun c1 hc1 h2=>gA 14 E<|eo_o E (Khq hΓ hc1 E E E E)<|bK h2 fun q3 hq3 h4=>gO 3 E<|Kku [(0,.ptr 0 0),(1,S s),(4,I q3)] [.box 128 [S t.kind,I t.v_at,I t.v_end,S t.name,I t.value.Kind,I t.value.Number,S t.value.Words,I t.value.Version.1,I t.value.Version.2.1,I t.value.Version.2.2.1,I t.value.Version.2.2.2]] ?_ ?_
 ·refine jC E hq3 (fun h5=>?_) fun h6=>gA 1 E<|oSi h6▸⟨⟨E,E,E,tV⟩,[],E,.inl E⟩
  exact gA 5 E<|oSi h5▸⟨⟨E,E,E,tV⟩,[],E,.inl E⟩
 refine bK h4 fun y7 hy7 h8=>gA 6 E<|Kie C (Kyc hy7) E Z E E E E E<|gO 2 E<|Kqf hΓ E E E E E E E E Z<|Kil [.box 128 [S t.kind,I t.v_at,I y7,S t.name,I t.value.Kind,I t.value.Number,S t.value.Words,I t.value.Version.1,I t.value.Version.2.1,I t.value.Version.2.2.1,I t.value.Version.2.2.2]] E<|gO 3 E<|jD<|bK h8 fun z9 hz9 h10=>gA 9 E<|gl_o E (Khs hΓ hz9 E E E E E)<|bK h10 fun y11 hy11 h12=>Kif C (Kye hy11) E E E E E E<|Kgw hΓ 12 E<|jC E h12 (fun h13=>?_) fun h14=>gA 1 E<|oSi h14▸Kis hΓ [] (.inl E) E E E E (.inl E)
 exact gA 4 E<|Kfd hΓ (gs:=[I 1,I y11.1,S [],I 0,I 0,I 0,I 0]) E E E E E E E<|gO 2 E<|Kqf hΓ E E E E E E E E Z<|Kil [.box 128 [S [118,97,108,117,101],I t.v_at,I y7,S t.name,I t.value.Kind,I t.value.Number,S t.value.Words,I t.value.Version.1,I t.value.Version.2.1,I t.value.Version.2.2.1,I t.value.Version.2.2.2]] E<|gO 2 E<|Kqf hΓ E E E E E E E E Z<|Kil [.box 128 [S [118,97,108,117,101],I t.v_at,I y7,S t.name,I 1,I y11.1,S [],I 0,I 0,I 0,I 0]] E<|gO 1 E<|oSi h13▸Kis hΓ [] (.inl E) E E E E (.inl E)
theorem Kyg{k:Nat}{t:Kut}{s:Str}{r:Kut}(h:Kxe k t s=some r):EC Tryz.prog 172 [.ptr 0 0,S s] [.box 128 [S t.kind,I t.v_at,I t.v_end,S t.name,I t.value.Kind,I t.value.Number,S t.value.Words,I t.value.Version.1,I t.value.Version.2.1,I t.value.Version.2.2.1,I t.value.Version.2.2.2]] fun g hp'=>g=.tup []∧hp'=[.box 128 [S r.kind,I r.v_at,I r.v_end,S r.name,I r.value.Kind,I r.value.Number,S r.value.Words,I r.value.Version.1,I r.value.Version.2.1,I r.value.Version.2.2.1,I r.value.Version.2.2.2]]:=by
 unfold Kxe at h
 refine QN Tryz.func172 E Z<|gA 2 E<|Kib (t:=0) 5 1 E Z<|gO 12 E<|bK h fun q4 hq4 h5=>Kkt (R:=fun a6=>q4=.inl a6) (fun a6=>[]) (fun a6=>[.box 128 [S t.kind,I t.v_at,I t.v_end,S t.name,I t.value.Kind,I t.value.Number,S t.value.Words,I t.value.Version.1,I t.value.Version.2.1,I t.value.Version.2.2.1,I t.value.Version.2.2.2],rO 5 1 (eN .u8) a6]) ?_ ?_
 ·refine gA 1 E<|Khl hq4 (fun s2=>[(0,.ptr 0 0),(1,S s),(4,.sl 1 s2.1.length),(5,I s2.2)]) (fun s2=>[.box 128 [S t.kind,I t.v_at,I t.v_end,S t.name,I t.value.Kind,I t.value.Number,S t.value.Words,I t.value.Version.1,I t.value.Version.2.1,I t.value.Version.2.2.1,I t.value.Version.2.2.2],rO 5 1 (eN .u8) s2.1]) ⟨⟨E,E,E,E,tV⟩,[],E,.inl E⟩ (fun s2 y10 hy8 hout9=>?_)
  refine gA 9 E<|Kgy E (fun hb=>?_) (fun hb=>?_)
  ·have h11:=cT hy8 hb
   refine bK h11 fun c12 hc12 h13=>gA 8 E<|eo_o E (Khq hΓ hc12 E E E E)<|bK h13 fun q14 hq14 h15=>gO 4 E<|Kkw (q:=q14) (fun a16=>[(0,.ptr 0 0),(1,S s),(4,.sl 1 s2.1.length),(5,I a16.1),(6,.d (.v (.int .u8 a16.2)))]) (fun a16=>[.box 128 [S t.kind,I t.v_at,I t.v_end,S t.name,I t.value.Kind,I t.value.Number,S t.value.Words,I t.value.Version.1,I t.value.Version.2.1,I t.value.Version.2.2.1,I t.value.Version.2.2.2],rO 5 1 (eN .u8) s2.1]) ?_ ?_
   ·refine gA 8 E<|Kgy E (fun hb=>?_) (fun hb=>?_)
    ·have h17:=cT hq14 hb
     refine bK h17 fun y18 hy18 h19=>gA 8 E<|eo_o E (Kjc hΓ hy18 E E E E E E E E E)<|Kfd hΓ (gs:=[I 2,I 0,S y18,I 0,I 0,I 0,I 0]) E E E E E E E<|gO 2 E<|Kqf hΓ E E E E E E E E Z<|Kil [.box 128 [S [118,97,108,117,101],I t.v_at,I t.v_end,S t.name,I t.value.Kind,I t.value.Number,S t.value.Words,I t.value.Version.1,I t.value.Version.2.1,I t.value.Version.2.2.1,I t.value.Version.2.2.2],rO 5 1 (eN .u8) s2.1] E<|gO 2 E<|Kqf hΓ E E E E E E E E Z<|Kil [.box 128 [S [118,97,108,117,101],I t.v_at,I (wi (s2.2+1)),S t.name,I t.value.Kind,I t.value.Number,S t.value.Words,I t.value.Version.1,I t.value.Version.2.1,I t.value.Version.2.2.1,I t.value.Version.2.2.2],rO 5 1 (eN .u8) s2.1] E<|gO 2 E<|Kqf hΓ E E E E E E E E Z<|Kil [.box 128 [S [118,97,108,117,101],I t.v_at,I (wi (s2.2+1)),S t.name,I 2,I 0,S y18,I 0,I 0,I 0,I 0],rO 5 1 (eN .u8) s2.1] E<|gO 4 E<|bK h19 fun v20 hv20 h21=>?_
     cases h21
     cases h15
     refine gA 4 E<|bK hv20 fun v22 hv22 h23=>?_
     cases h23
     obtain rfl:=hout9 _ rfl
     cases h5
     exact gA 3 E<|oSi hv22▸Kis hΓ [_] (.inr E) E E E E (.inr ⟨HB.mk E,E⟩)
    have h24:=cF hq14 hb
    refine gA 5 E<|Khe 3 [(0,.ptr 0 0),(1,S s),(4,.sl 1 s2.1.length),(5,I s2.2),(6,.d (.v (.int .u8 (c12.toNat:Int)))),(44,B ((decide (((c12.toNat:Int):Int)<32))||(decide (((c12.toNat:Int):Int)>126))))] [.box 128 [S t.kind,I t.v_at,I t.v_end,S t.name,I t.value.Kind,I t.value.Number,S t.value.Words,I t.value.Version.1,I t.value.Version.2.1,I t.value.Version.2.2.1,I t.value.Version.2.2.2],rO 5 1 (eN .u8) s2.1] ?_ ?_
    ·refine Kot E E (fun hb=>?_) (fun hb=>?_)
     ·exact gO 4 E<|⟨⟨E,E,E,E,E,Kgd E (or_t hb),tV⟩,[],E,.inl E⟩
     exact gO 4 E<|⟨⟨E,E,E,E,E,Kgd E (or_f hb),tV⟩,[],E,.inl E⟩
    refine gO 3 E<|jC E h24 (fun h25=>?_) fun h30=>gA 7 E<|jC E h30 (fun h31=>?_) fun h52=>?_
    ·refine gA 2 E<|bK h25 fun v26 hv26 h27=>?_
     cases h27
     cases h15
     refine gA 4 E<|bK hv26 fun v28 hv28 h29=>?_
     cases h29
     obtain rfl:=hout9 _ rfl
     cases h5
     exact gA 3 E<|oSi hv28▸Kis hΓ [_] (.inr E) E E E E (.inr ⟨HB.mk E,E⟩)
    ·refine gA 15 E<|bK h31 fun q32 hq32 h33=>Khe 11 [(0,.ptr 0 0),(1,S s),(4,.sl 1 s2.1.length),(5,I (wi (s2.2+1))),(65,B q32)] [.box 128 [S t.kind,I t.v_at,I t.v_end,S t.name,I t.value.Kind,I t.value.Number,S t.value.Words,I t.value.Version.1,I t.value.Version.2.1,I t.value.Version.2.2.1,I t.value.Version.2.2.2],rO 5 1 (eN .u8) s2.1] ?_ ?_
     ·refine Kot E E (fun hb=>?_) (fun hb=>?_)
      ·have h34:=cT hq32 hb
       exact gO 12 E<|oSi h34▸⟨⟨E,E,E,E,E,tV⟩,[],E,.inl E⟩
      have h35:=cF hq32 hb
      refine bK h35 fun c36 hc36 h37=>gO 2 E<|Kor E<|eo_o E (Khq hΓ hc36 E E E E)<|gO 2 E<|bK h37 fun q38 hq38 h39=>Khe 5 [(0,.ptr 0 0),(1,S s),(4,.sl 1 s2.1.length),(5,I (wi (s2.2+1))),(54,B false),(64,B q38)] [.box 128 [S t.kind,I t.v_at,I t.v_end,S t.name,I t.value.Kind,I t.value.Number,S t.value.Words,I t.value.Version.1,I t.value.Version.2.1,I t.value.Version.2.2.1,I t.value.Version.2.2.2],rO 5 1 (eN .u8) s2.1] ?_ ?_
      ·refine Kot E E (fun hb=>?_) (fun hb=>?_)
       ·have h40:=cT hq38 hb
        exact bK h40 fun c41 hc41 h42=>gO 2 E<|Kor E<|eo_o E (Khq hΓ hc41 E E E E)<|gO 3 E<|oSi h42▸⟨⟨E,E,E,E,E,E,tV⟩,[],E,.inl E⟩
       have h43:=cF hq38 hb
       exact gO 6 E<|oSi h43▸⟨⟨E,E,E,E,E,E,tV⟩,[],E,.inl E⟩
      exact gO 2 E<|oSi h39▸⟨⟨E,E,E,E,E,tV⟩,[],E,.inl E⟩
     refine gO 2 E<|jC E h33 (fun h44=>?_) fun h49=>bK h49 fun c50 hc50 h51=>gA 5 E<|eo_o E (Khq hΓ hc50 E E E E)<|gO 3 E<|oSi h51▸⟨_,E,⟨⟨E,E,E,E,E,tV⟩,[],E,.inl E⟩⟩
     refine gA 3 E<|bK h44 fun v45 hv45 h46=>?_
     cases h46
     cases h15
     refine gA 4 E<|bK hv45 fun v47 hv47 h48=>?_
     cases h48
     obtain rfl:=hout9 _ rfl
     cases h5
     exact gA 3 E<|oSi hv47▸Kis hΓ [_] (.inr E) E E E E (.inr ⟨HB.mk E,E⟩)
    exact gA 2 E<|oSi h52▸⟨_,E,⟨⟨E,E,E,E,E,tV⟩,[],E,.inl E⟩⟩
   intro a16 ha
   subst ha
   replace h15:=Kkm h15
   exact gA 4 E<|Khz hΓ (enc:=(eN .u8)) [a16.2] E E E E E E E E E E E E Z<|bK h15 fun y53 hy53 h54=>Kim hΓ (enc:=(eN .u8)) hy53 E E E E E E E E E (fun _=>E) E E E E<|gO 9 E<|oSi h54▸⟨_,E,⟨⟨E,E,E,E,tV⟩,[],E,.inl E⟩⟩
  have h55:=cF hy8 hb
  refine gA 4 E ?_
  cases h55
  obtain rfl:=hout9 _ rfl
  exact⟨_,E,⟨tV,[],E,.inl E⟩⟩
 intro a6 ha
 subst ha
 replace h5:=Kkm h5
 exact oSi h5▸Kis hΓ [_] (.inl E) E E E E (.inr ⟨HB.mk E,E⟩)
theorem Kyh{k:Nat}{l:List Str}{r:(List Int)×Bool}(h:Kxf k l=some r):Pure Tryz.prog 209 [.d (Sl eS l)] (.tup [.d (Sl (eN .i64) r.1),B r.2]):=by
 unfold Kxf at h
 refine QP Tryz.func209 E E E<|gA 8 E<|Kib (t:=0) 3 1 E Z<|gO 10 E<|bK h fun q4 hq4 h5=>Kho 9 E fun hb7=>Kkt (R:=fun a6=>q4=.go a6) (fun a6=>[(4,.sl 0 a6.length)]) (fun a6=>[rO 3 1 (eN .i64) a6]) ?_ ?_
 ·refine gA 1 E<|Khn l hq4 (fun i1 s2=>[(4,.sl 0 s2.length),(9,.d (Sl eS l)),(10,I (l.length:Int)),(11,I (i1:Int))]) (fun s2=>[rO 3 1 (eN .i64) s2]) ⟨⟨E,E,E,E,tV⟩,[],E,.inl E⟩ (fun i1 x3 s2 y11 hx8 hlt hy9 hout10=>?_) (fun s2 hgo=>?_)
  ·refine gA 6 E<|Kgz E (dT (Int.ofNat_lt.2 hlt))<|gA 6 E<|eo_o E (Khp hΓ (enc:=eS) (Khi hx8) E E E E E (fun _=>E))<|bK hy9 fun y12 hy12 h13=>gO 7 E<|Kie C (Kye hy12) E Z E E E E E<|gO 14 E<|jC E h13 (fun h14=>?_) fun h17=>gA 5 E<|Khz hΓ (enc:=(eN .i64)) [y12.1] E E E E E E E E E E E E Z<|bK h17 fun y18 hy18 h19=>Kim hΓ (enc:=(eN .i64)) hy18 E E E E E E E E E (fun _=>E) E E E E<|gO 8 E ?_
   ·refine gA 10 E<|bK h14 fun v15 hv15 h16=>?_
    cases h16
    obtain rfl:=hout10 _ rfl
    cases h5
    exact gA 4 E<|oSi hv15▸gP E E
   cases h19
   exact⟨_,E,⟨⟨E,E,E,Kgc E (Kgb (nLl hlt hb7)),tV⟩,[],E,.inl E⟩⟩
  subst hgo
  exact gA 6 E<|Kha E (dF (Int.lt_irrefl _))<|gA 4 E<|⟨_,E,⟨⟨E,tV⟩,[],E,.inl E⟩⟩
 intro a6 ha
 subst ha
 replace h5:=Kkn h5
 exact gA 5 E<|Kij 0 [2,4,27] _ [.dead] E E E Z<|gO 4 E<|oSi h5▸gP E E
theorem Kyi{k:Nat}{t:Kut}{s:Str}{r:Kut}(h:Kxg k t s=some r):EC Tryz.prog 173 [.ptr 0 0,S s] [.box 128 [S t.kind,I t.v_at,I t.v_end,S t.name,I t.value.Kind,I t.value.Number,S t.value.Words,I t.value.Version.1,I t.value.Version.2.1,I t.value.Version.2.2.1,I t.value.Version.2.2.2]] fun g hp'=>g=.tup []∧hp'=[.box 128 [S r.kind,I r.v_at,I r.v_end,S r.name,I r.value.Kind,I r.value.Number,S r.value.Words,I r.value.Version.1,I r.value.Version.2.1,I r.value.Version.2.2.1,I r.value.Version.2.2.2]]:=by
 unfold Kxg at h
 refine QN Tryz.func173 E Z<|gA 10 E<|Kqf hΓ E E E E E E E E Z<|Kil [.box 128 [S t.kind,I t.v_at,I (wi (t.v_at+1)),S t.name,I t.value.Kind,I t.value.Number,S t.value.Words,I t.value.Version.1,I t.value.Version.2.1,I t.value.Version.2.2.1,I t.value.Version.2.2.2]] E<|gO 3 E<|bK h fun q4 hq4 h5=>Kku [(0,.ptr 0 0),(1,S s)] [.box 128 [S t.kind,I t.v_at,I q4,S t.name,I t.value.Kind,I t.value.Number,S t.value.Words,I t.value.Version.1,I t.value.Version.2.1,I t.value.Version.2.2.1,I t.value.Version.2.2.2]] ?_ ?_
 ·refine gA 1 E<|Khl hq4 (fun s2=>[(0,.ptr 0 0),(1,S s)]) (fun s2=>[.box 128 [S t.kind,I t.v_at,I s2,S t.name,I t.value.Kind,I t.value.Number,S t.value.Words,I t.value.Version.1,I t.value.Version.2.1,I t.value.Version.2.2.1,I t.value.Version.2.2.2]]) ⟨⟨E,E,tV⟩,[],E,.inl E⟩ (fun s2 y10 hy8 hout9=>?_)
  refine gA 11 E<|bK hy8 fun q11 hq11 h12=>Khe 17 [(0,.ptr 0 0),(1,S s),(39,B q11)] [.box 128 [S t.kind,I t.v_at,I s2,S t.name,I t.value.Kind,I t.value.Number,S t.value.Words,I t.value.Version.1,I t.value.Version.2.1,I t.value.Version.2.2.1,I t.value.Version.2.2.2]] ?_ ?_
  ·refine Kot E E (fun hb=>?_) (fun hb=>?_)
   ·have h13:=cT hq11 hb
    refine bK h13 fun c14 hc14 h15=>gO 5 E<|Kor E<|eo_o E (Khq hΓ hc14 E E E E)<|bK h15 fun y16 hy16 h17=>Kor E<|Kie C (Kzt hy16) E Z E E E E E<|gO 1 E<|bK h17 fun q18 hq18 h19=>Khe 8 [(0,.ptr 0 0),(1,S s),(22,B true),(38,B q18)] [.box 128 [S t.kind,I t.v_at,I s2,S t.name,I t.value.Kind,I t.value.Number,S t.value.Words,I t.value.Version.1,I t.value.Version.2.1,I t.value.Version.2.2.1,I t.value.Version.2.2.2]] ?_ ?_
    ·refine Kot E E (fun hb=>?_) (fun hb=>?_)
     ·have h20:=cT hq18 hb
      exact gO 9 E<|oSi h20▸⟨⟨E,E,E,E,tV⟩,[],E,.inl E⟩
     have h21:=cF hq18 hb
     exact bK h21 fun c22 hc22 h23=>gO 5 E<|Kor E<|eo_o E (Khq hΓ hc22 E E E E)<|gO 3 E<|oSi h23▸⟨⟨E,E,E,E,tV⟩,[],E,.inl E⟩
    exact gO 2 E<|oSi h19▸⟨⟨E,E,E,tV⟩,[],E,.inl E⟩
   have h24:=cF hq11 hb
   exact gO 18 E<|oSi h24▸⟨⟨E,E,E,tV⟩,[],E,.inl E⟩
  refine gO 2 E<|jC E h12 (fun h25=>?_) fun h26=>gA 4 E ?_
  ·exact gA 11 E<|Kqf hΓ E E E E E E E E Z<|Kil [.box 128 [S t.kind,I t.v_at,I (wi (s2+1)),S t.name,I t.value.Kind,I t.value.Number,S t.value.Words,I t.value.Version.1,I t.value.Version.2.1,I t.value.Version.2.2.1,I t.value.Version.2.2.2]] E<|gO 2 E<|oSi h25▸⟨_,E,⟨⟨E,E,tV⟩,[],E,.inl E⟩⟩
  cases h26
  obtain rfl:=hout9 _ rfl
  exact⟨⟨E,E,tV⟩,[],E,.inl E⟩
 refine gA 2 E<|jD<|bK h5 fun z27 hz27 h28=>gA 10 E<|gl_o E (Khs hΓ hz27 E E E E E)<|bK h28 fun y29 hy29 h30=>Kif C (Pure.rows (Ktg hy29) E E) E E E E E E<|bK h30 fun y31 hy31 h32=>Kgw hΓ 6 E<|Kie C (Kyh hy31) E Z E E E E E<|gO 13 E<|Khe 4 [(0,.ptr 0 0),(5,.d (Sl (eN .i64) y31.1)),(70,B ((!y31.2)||(decide (((y29.length:Int):Int)>4))))] [.box 128 [S t.kind,I t.v_at,I q4,S t.name,I t.value.Kind,I t.value.Number,S t.value.Words,I t.value.Version.1,I t.value.Version.2.1,I t.value.Version.2.2.1,I t.value.Version.2.2.2]] ?_ ?_
 ·refine Kot E E (fun hb=>?_) (fun hb=>?_)
  ·exact gO 5 E<|⟨⟨E,E,Kgd E (or_t hb),tV⟩,[],E,.inl E⟩
  exact gO 5 E<|⟨⟨E,E,Kgd E (or_f hb),tV⟩,[],E,.inl E⟩
 refine gO 2 E<|jC E h32 (fun h33=>?_) fun h34=>gA 6 E<|Kfd hΓ (gs:=[I 4,I 0,S [],I 0,I 0,I 0,I 0]) E E E E E E E<|gO 2 E<|Kqf hΓ E E E E E E E E Z<|Kil [.box 128 [S [118,97,108,117,101],I t.v_at,I q4,S t.name,I t.value.Kind,I t.value.Number,S t.value.Words,I t.value.Version.1,I t.value.Version.2.1,I t.value.Version.2.2.1,I t.value.Version.2.2.2]] E<|gO 2 E<|Kqf hΓ E E E E E E E E Z<|Kil [.box 128 [S [118,97,108,117,101],I t.v_at,I q4,S t.name,I 4,I 0,S [],I 0,I 0,I 0,I 0]] E<|gO 7 E<|eo_o E (Kmz hΓ (n:=4) (a:=(0:Int)) E E E E E E E)<|gO 1 E<|eo_s Z (nblt.1 E) (Kna hΓ (pre:=[S [118,97,108,117,101],I t.v_at,I q4,S t.name,I 4,I 0,S []]) (post:=[]) (l:=[0,0,0,0]) (xs:=y31.1) (k:=.i64) (p:=7) (o:=(0:Int).toNat) (n:=4 - (0:Int).toNat) (Kmx (a:=0) (n:=4) E) E E E E E E E E E)<|Kil [.box 128 [S [118,97,108,117,101],I t.v_at,I q4,S t.name,I 4,I 0,S [],I (cpA (0:Int).toNat y31.1 0 0),I (cpA (0:Int).toNat y31.1 1 0),I (cpA (0:Int).toNat y31.1 2 0),I (cpA (0:Int).toNat y31.1 3 0)]] E<|gO 1 E<|oSi h34▸Kis hΓ [] (.inl E) E E E E (.inl E)
 exact gA 2 E<|oSi h33▸Kis hΓ [] (.inr E) E E E E (.inl E)
theorem Kyj{c:Int}{r:Bool}(h:Kxh c=some r):Pure Tryz.prog 210 [.d (.v (.int .u8 c))] (B r):=by
 unfold Kxh at h
 refine QP Tryz.func210 E E E<|gA 10 E<|Khe 3 [(0,.d (.v (.int .u8 c))),(2,B false),(8,B ((decide ((c:Int)≥97))&&(decide ((c:Int)≤122))))] [] ?_ ?_
 ·refine Kot E E (fun hb=>?_) (fun hb=>?_)
  ·exact gO 4 E<|⟨⟨E,E,Kgd E (Kiy hb),tV⟩,[],E,.inl E⟩
  exact gO 4 E<|⟨⟨E,E,Kgd E (Kiz hb),tV⟩,[],E,.inl E⟩
 refine gO 1 E<|bK h fun q1 hq1 h2=>Khe 3 [(0,.d (.v (.int .u8 c))),(2,B false),(12,B q1)] [] ?_ ?_
 ·refine Kot E E (fun hb=>?_) (fun hb=>?_)
  ·have h3:=cT hq1 hb
   exact gO 4 E<|oSi h3▸⟨⟨E,E,E,tV⟩,[],E,.inl E⟩
  have h4:=cF hq1 hb
  exact bK h4 fun y5 hy5 h6=>gO 1 E<|Kor E<|Kie C (Kzt hy5) E Z E E E E E<|gO 2 E<|oSi h6▸⟨⟨E,E,E,tV⟩,[],E,.inl E⟩
 refine gO 1 E<|Khe 3 [(0,.d (.v (.int .u8 c))),(2,B false),(16,B (q1||((c:Int)==45)))] [] ?_ ?_
 ·refine Kot E E (fun hb=>?_) (fun hb=>?_)
  ·exact gO 4 E<|⟨⟨E,E,Kgd E (or_t hb),tV⟩,[],E,.inl E⟩
  exact gO 4 E<|⟨⟨E,E,Kgd E (or_f hb),tV⟩,[],E,.inl E⟩
 refine gO 1 E<|Khe 3 [(2,B false),(20,B ((q1||((c:Int)==45))||((c:Int)==95)))] [] ?_ ?_
 ·refine Kot E E (fun hb=>?_) (fun hb=>?_)
  ·exact gO 4 E<|⟨⟨E,Kgd E (or_t hb),tV⟩,[],E,.inl E⟩
  exact gO 4 E<|⟨⟨E,Kgd E (or_f hb),tV⟩,[],E,.inl E⟩
 exact gO 4 E<|oSi h2▸gP E E
theorem Kyk{k:Nat}{t:Kut}{s:Str}{r:Kut}(h:Kxi k t s=some r):EC Tryz.prog 174 [.ptr 0 0,S s] [.box 128 [S t.kind,I t.v_at,I t.v_end,S t.name,I t.value.Kind,I t.value.Number,S t.value.Words,I t.value.Version.1,I t.value.Version.2.1,I t.value.Version.2.2.1,I t.value.Version.2.2.2]] fun g hp'=>g=.tup []∧hp'=[.box 128 [S r.kind,I r.v_at,I r.v_end,S r.name,I r.value.Kind,I r.value.Number,S r.value.Words,I r.value.Version.1,I r.value.Version.2.1,I r.value.Version.2.2.1,I r.value.Version.2.2.2]]:=by
 unfold Kxi at h
 refine QN Tryz.func174 E Z<|gA 9 E<|Kqf hΓ E E E E E E E E Z<|Kil [.box 128 [S t.kind,I t.v_at,I t.v_at,S t.name,I t.value.Kind,I t.value.Number,S t.value.Words,I t.value.Version.1,I t.value.Version.2.1,I t.value.Version.2.2.1,I t.value.Version.2.2.2]] E<|gO 3 E<|bK h fun q4 hq4 h5=>Kku [(0,.ptr 0 0),(1,S s)] [.box 128 [S t.kind,I t.v_at,I q4,S t.name,I t.value.Kind,I t.value.Number,S t.value.Words,I t.value.Version.1,I t.value.Version.2.1,I t.value.Version.2.2.1,I t.value.Version.2.2.2]] ?_ ?_
 ·refine gA 1 E<|Khl hq4 (fun s2=>[(0,.ptr 0 0),(1,S s)]) (fun s2=>[.box 128 [S t.kind,I t.v_at,I s2,S t.name,I t.value.Kind,I t.value.Number,S t.value.Words,I t.value.Version.1,I t.value.Version.2.1,I t.value.Version.2.2.1,I t.value.Version.2.2.2]]) ⟨⟨E,E,tV⟩,[],E,.inl E⟩ (fun s2 y10 hy8 hout9=>?_)
  refine gA 11 E<|bK hy8 fun q11 hq11 h12=>Khe 8 [(0,.ptr 0 0),(1,S s),(26,B q11)] [.box 128 [S t.kind,I t.v_at,I s2,S t.name,I t.value.Kind,I t.value.Number,S t.value.Words,I t.value.Version.1,I t.value.Version.2.1,I t.value.Version.2.2.1,I t.value.Version.2.2.2]] ?_ ?_
  ·refine Kot E E (fun hb=>?_) (fun hb=>?_)
   ·have h13:=cT hq11 hb
    exact bK h13 fun c14 hc14 h15=>gO 5 E<|Kor E<|eo_o E (Khq hΓ hc14 E E E E)<|bK h15 fun y16 hy16 h17=>Kor E<|Kie C (Kyj hy16) E Z E E E E E<|gO 2 E<|oSi h17▸⟨⟨E,E,E,tV⟩,[],E,.inl E⟩
   have h18:=cF hq11 hb
   exact gO 9 E<|oSi h18▸⟨⟨E,E,E,tV⟩,[],E,.inl E⟩
  refine gO 2 E<|jC E h12 (fun h19=>?_) fun h20=>gA 4 E ?_
  ·exact gA 11 E<|Kqf hΓ E E E E E E E E Z<|Kil [.box 128 [S t.kind,I t.v_at,I (wi (s2+1)),S t.name,I t.value.Kind,I t.value.Number,S t.value.Words,I t.value.Version.1,I t.value.Version.2.1,I t.value.Version.2.2.1,I t.value.Version.2.2.2]] E<|gO 2 E<|oSi h19▸⟨_,E,⟨⟨E,E,tV⟩,[],E,.inl E⟩⟩
  cases h20
  obtain rfl:=hout9 _ rfl
  exact⟨⟨E,E,tV⟩,[],E,.inl E⟩
 refine gA 2 E<|Kjy [.box 128 [S t.kind,I t.v_at,I q4,S t.name,I t.value.Kind,I t.value.Number,S t.value.Words,I t.value.Version.1,I t.value.Version.2.1,I t.value.Version.2.2.1,I t.value.Version.2.2.2]] [6,10] [14,17] [14,17] hmix (by kernel_rfl) (by kernel_rfl) ⟨E,tV⟩ Z<|bK h5 fun z21 hz21 h22=>go_E hΓ 11 E<|ge_q E (.inl E) (fun _ _=>Kka (qt_p (Khs hΓ hz21 E E E E E)))<|go_E hΓ 2 E<|Kkc [.box 128 [S [110,97,109,101],I t.v_at,I q4,S t.name,I t.value.Kind,I t.value.Number,S t.value.Words,I t.value.Version.1,I t.value.Version.2.1,I t.value.Version.2.2.1,I t.value.Version.2.2.2]] E E (Kkd E) (Kkh (Klf hΓ E E E E E E E E E))<|go_E hΓ 2 E<|Kkc [.box 128 [S [110,97,109,101],I t.v_at,I q4,S z21,I t.value.Kind,I t.value.Number,S t.value.Words,I t.value.Version.1,I t.value.Version.2.1,I t.value.Version.2.2.1,I t.value.Version.2.2.2]] E E (Kkd E) (Kkh (Klf hΓ E E E E E E E E E))<|Kjz<|gA 9 E<|Khe 6 [(0,.ptr 0 0),(61,B (((z21:Str)==[116,114,117,101])||((z21:Str)==[102,97,108,115,101])))] [.box 128 [S [110,97,109,101],I t.v_at,I q4,S z21,I t.value.Kind,I t.value.Number,S t.value.Words,I t.value.Version.1,I t.value.Version.2.1,I t.value.Version.2.2.1,I t.value.Version.2.2.2]] ?_ ?_
 ·refine Kot E E (fun hb=>?_) (fun hb=>?_)
  ·exact gO 7 E<|⟨⟨E,Kgd E (or_t hb),tV⟩,[],E,.inl E⟩
  exact gO 7 E<|⟨⟨E,Kgd E (or_f hb),tV⟩,[],E,.inl E⟩
 refine gO 2 E<|jC E h22 (fun h23=>?_) fun h26=>gA 1 E<|oSi h26▸Kis hΓ [] (.inl E) E E E E (.inl E)
 refine gA 4 E<|Kfd hΓ (gs:=[I 3,I 0,S [],I 0,I 0,I 0,I 0]) E E E E E E E<|gO 2 E<|Kqf hΓ E E E E E E E E Z<|Kil [.box 128 [S [118,97,108,117,101],I t.v_at,I q4,S z21,I t.value.Kind,I t.value.Number,S t.value.Words,I t.value.Version.1,I t.value.Version.2.1,I t.value.Version.2.2.1,I t.value.Version.2.2.2]] E<|gO 2 E<|Kqf hΓ E E E E E E E E Z<|Kil [.box 128 [S [118,97,108,117,101],I t.v_at,I q4,S z21,I 3,I 0,S [],I 0,I 0,I 0,I 0]] E<|gO 11 E<|jC E h23 (fun h24=>?_) fun h25=>gA 1 E<|oSi h25▸Kis hΓ [] (.inl E) E E E E (.inl E)
 exact gA 5 E<|Kqf hΓ E E E E E E E E Z<|Kil [.box 128 [S [118,97,108,117,101],I t.v_at,I q4,S z21,I 3,I 1,S [],I 0,I 0,I 0,I 0]] E<|gO 1 E<|oSi h24▸Kis hΓ [] (.inl E) E E E E (.inl E)
theorem Kyl{k:Nat}{s:Str}{v_at:Int}{r:Kut}(h:Kxj k s v_at=some r):Pure Tryz.prog 120 [S s,I v_at] (.agg [S r.kind,I r.v_at,I r.v_end,S r.name,I r.value.Kind,I r.value.Number,S r.value.Words,I r.value.Version.1,I r.value.Version.2.1,I r.value.Version.2.2.1,I r.value.Version.2.2.2]):=by
 unfold Kxj at h
 refine QP Tryz.func120 E E E<|gA 2 E<|Kqa hΓ E E E Z<|gO 5 E<|Kfd hΓ (gs:=[S [98,97,100],I v_at,I 0,S [],I 0,I 0,S [],I 0,I 0,I 0,I 0]) E E E E E E E<|Kqa hΓ E E E Z<|Kqf hΓ E E E E E E E E Z<|Kil [.box 128 [S [],I 0,I 0,S [],I 0,I 0,S [],I 0,I 0,I 0,I 0],.box 128 [S [98,97,100],I v_at,I 0,S [],I 0,I 0,S [],I 0,I 0,I 0,I 0]] E<|gO 11 E<|Kgy E (fun hb=>?_) (fun hb=>?_)
 ·have h1:=cT h hb
  exact gA 3 E<|Kqf hΓ E E E E E E E E Z<|Kil [.box 128 [S [],I 0,I 0,S [],I 0,I 0,S [],I 0,I 0,I 0,I 0],.box 128 [S [101,110,100],I v_at,I 0,S [],I 0,I 0,S [],I 0,I 0,I 0,I 0]] E<|gO 5 E<|Kqf hΓ E E E E E E E E Z<|Kil [.box 128 [S [101,110,100],I v_at,I 0,S [],I 0,I 0,S [],I 0,I 0,I 0,I 0],.box 128 [S [101,110,100],I v_at,I 0,S [],I 0,I 0,S [],I 0,I 0,I 0,I 0]] E<|gO 4 E<|oSi h1▸gP E E
 have h2:=cF h hb
 refine gA 5 E<|Khz hΓ (enc:=eS) [[61,61],[33,61],[60,61],[62,61],[38,38],[124,124],[60],[62],[33],[40],[41]] E E E E E E E E E E E E Z<|gO 4 E<|bK h2 fun q6 hq6 h7=>Kho 17 E fun hb9=>Kkt (R:=fun a8=>q6=.go a8) (fun a8=>[(0,S s),(1,I v_at),(4,.ptr 0 0),(5,.ptr 1 0)]) (fun a8=>[.box 128 [S [],I 0,I 0,S [],I 0,I 0,S [],I 0,I 0,I 0,I 0],.box 128 [S [98,97,100],I v_at,I 0,S [],I 0,I 0,S [],I 0,I 0,I 0,I 0]]) ?_ ?_
 ·refine gA 1 E<|Khn [[61,61],[33,61],[60,61],[62,61],[38,38],[124,124],[60],[62],[33],[40],[41]] hq6 (fun i3 s4=>[(0,S s),(1,I v_at),(4,.ptr 0 0),(5,.ptr 1 0),(17,.d (Sl eS [[61,61],[33,61],[60,61],[62,61],[38,38],[124,124],[60],[62],[33],[40],[41]])),(18,I ([[61,61],[33,61],[60,61],[62,61],[38,38],[124,124],[60],[62],[33],[40],[41]].length:Int)),(19,I (i3:Int))]) (fun s4=>[.box 128 [S [],I 0,I 0,S [],I 0,I 0,S [],I 0,I 0,I 0,I 0],.box 128 [S [98,97,100],I v_at,I 0,S [],I 0,I 0,S [],I 0,I 0,I 0,I 0]]) ⟨⟨E,E,E,E,E,E,E,tV⟩,[],E,.inl E⟩ (fun i3 x5 s4 y13 hx10 hlt hy11 hout12=>?_) (fun s4 hgo=>?_)
  ·refine gA 6 E<|Kgz E (dT (Int.ofNat_lt.2 hlt))<|gA 6 E<|eo_o E (Khp hΓ (enc:=eS) (Khi hx10) E E E E E (fun _=>E))<|bK hy11 fun z14 hz14 h15=>gO 8 E<|eo_o E (Khs hΓ hz14 E E E E E)<|bK h15 fun y16 hy16 h17=>gO 1 E<|Kie C (Ktd hy16) E Z E E E E E<|gO 2 E<|jC E h17 (fun h18=>?_) fun h21=>gA 7 E ?_
   ·refine gA 8 E<|Kqf hΓ E E E E E E E E Z<|Kil [.box 128 [S [],I 0,I 0,S [],I 0,I 0,S [],I 0,I 0,I 0,I 0],.box 128 [S x5,I v_at,I 0,S [],I 0,I 0,S [],I 0,I 0,I 0,I 0]] E<|gO 1 E<|Kqf hΓ E E E E E E E E Z<|Kil [.box 128 [S [],I 0,I 0,S [],I 0,I 0,S [],I 0,I 0,I 0,I 0],.box 128 [S x5,I v_at,I (wi (v_at+(x5.length:Int))),S [],I 0,I 0,S [],I 0,I 0,I 0,I 0]] E<|gO 5 E<|Kqf hΓ E E E E E E E E Z<|Kil [.box 128 [S x5,I v_at,I (wi (v_at+(x5.length:Int))),S [],I 0,I 0,S [],I 0,I 0,I 0,I 0],.box 128 [S x5,I v_at,I (wi (v_at+(x5.length:Int))),S [],I 0,I 0,S [],I 0,I 0,I 0,I 0]] E<|gO 5 E<|bK h18 fun v19 hv19 h20=>?_
    cases h20
    obtain rfl:=hout12 _ rfl
    cases h7
    exact gA 4 E<|oSi hv19▸gP E E
   cases h21
   exact⟨_,E,⟨⟨E,E,E,E,E,E,Kgc E (Kgb (nLl hlt hb9)),tV⟩,[],E,.inl E⟩⟩
  subst hgo
  exact gA 6 E<|Kha E (dF (Int.lt_irrefl _))<|gA 4 E<|⟨_,E,⟨⟨E,E,E,E,tV⟩,[],E,.inl E⟩⟩
 intro a8 ha
 subst ha
 replace h7:=Kkn h7
 refine bK h7 fun c22 hc22 h23=>gA 6 E<|eo_o E (Khq hΓ hc22 E E E E)<|bK h23 fun q24 hq24 h25=>gO 3 E<|Kku [(4,.ptr 0 0),(5,.ptr 1 0)] [.box 128 [S [],I 0,I 0,S [],I 0,I 0,S [],I 0,I 0,I 0,I 0],.box 128 [S q24.kind,I q24.v_at,I q24.v_end,S q24.name,I q24.value.Kind,I q24.value.Number,S q24.value.Words,I q24.value.Version.1,I q24.value.Version.2.1,I q24.value.Version.2.2.1,I q24.value.Version.2.2.2]] ?_ ?_
 ·refine bK hq24 fun y26 hy26 h27=>gA 4 E<|Kie C (Kzt hy26) E Z E E E E E<|gO 1 E<|bK h27 fun q28 hq28 h29=>Khe 17 [(0,S s),(1,I v_at),(4,.ptr 0 0),(5,.ptr 1 0),(8,.d (.v (.int .u8 (c22.toNat:Int)))),(60,B q28)] [.box 128 [S [],I 0,I 0,S [],I 0,I 0,S [],I 0,I 0,I 0,I 0],.box 128 [S [98,97,100],I v_at,I 0,S [],I 0,I 0,S [],I 0,I 0,I 0,I 0]] ?_ ?_
  ·refine Kot E E (fun hb=>?_) (fun hb=>?_)
   ·have h30:=cT hq28 hb
    exact gO 18 E<|oSi h30▸⟨⟨E,E,E,E,E,E,tV⟩,[],E,.inl E⟩
   have h31:=cF hq28 hb
   refine gO 3 E<|Khe 6 [(0,S s),(1,I v_at),(4,.ptr 0 0),(5,.ptr 1 0),(8,.d (.v (.int .u8 (c22.toNat:Int)))),(43,B false),(52,B ((((c22.toNat:Int):Int)==45)&&(decide ((wi (v_at+1):Int)<(s.length:Int)))))] [.box 128 [S [],I 0,I 0,S [],I 0,I 0,S [],I 0,I 0,I 0,I 0],.box 128 [S [98,97,100],I v_at,I 0,S [],I 0,I 0,S [],I 0,I 0,I 0,I 0]] ?_ ?_
   ·refine Kot E E (fun hb=>?_) (fun hb=>?_)
    ·exact gO 7 E<|⟨⟨E,E,E,E,E,E,Kgd E (Kiy hb),tV⟩,[],E,.inl E⟩
    exact gO 7 E<|⟨⟨E,E,E,E,E,E,Kgd E (Kiz hb),tV⟩,[],E,.inl E⟩
   refine gO 1 E<|bK h31 fun q32 hq32 h33=>Khe 6 [(0,S s),(1,I v_at),(4,.ptr 0 0),(5,.ptr 1 0),(8,.d (.v (.int .u8 (c22.toNat:Int)))),(43,B false),(59,B q32)] [.box 128 [S [],I 0,I 0,S [],I 0,I 0,S [],I 0,I 0,I 0,I 0],.box 128 [S [98,97,100],I v_at,I 0,S [],I 0,I 0,S [],I 0,I 0,I 0,I 0]] ?_ ?_
   ·refine Kot E E (fun hb=>?_) (fun hb=>?_)
    ·have h34:=cT hq32 hb
     exact bK h34 fun c35 hc35 h36=>gO 3 E<|Kor E<|eo_o E (Khq hΓ hc35 E E E E)<|bK h36 fun y37 hy37 h38=>Kor E<|Kie C (Kzt hy37) E Z E E E E E<|gO 2 E<|oSi h38▸⟨⟨E,E,E,E,E,E,E,tV⟩,[],E,.inl E⟩
    have h39:=cF hq32 hb
    exact gO 7 E<|oSi h39▸⟨⟨E,E,E,E,E,E,E,tV⟩,[],E,.inl E⟩
   exact gO 2 E<|oSi h33▸⟨⟨E,E,E,E,E,E,tV⟩,[],E,.inl E⟩
  refine gO 3 E<|Kgy E (fun hb=>?_) (fun hb=>?_)
  ·have h40:=cT h29 hb
   exact bK h40 fun y41 hy41 h42=>gA 2 E<|Kid [1] (.tup []) [.box 128 [S [],I 0,I 0,S [],I 0,I 0,S [],I 0,I 0,I 0,I 0],.box 128 [S y41.kind,I y41.v_at,I y41.v_end,S y41.name,I y41.value.Kind,I y41.value.Number,S y41.value.Words,I y41.value.Version.1,I y41.value.Version.2.1,I y41.value.Version.2.2.1,I y41.value.Version.2.2.2]] C (Kyf hy41) E Z E E E E E E E E E E<|gO 2 E<|oSi h42▸⟨⟨E,E,tV⟩,[],E,.inl E⟩
  have h43:=cF h29 hb
  refine gA 7 E<|Kgy E (fun hb=>?_) (fun hb=>?_)
  ·have h44:=cT h43 hb
   exact bK h44 fun y45 hy45 h46=>gA 2 E<|Kid [1] (.tup []) [.box 128 [S [],I 0,I 0,S [],I 0,I 0,S [],I 0,I 0,I 0,I 0],.box 128 [S y45.kind,I y45.v_at,I y45.v_end,S y45.name,I y45.value.Kind,I y45.value.Number,S y45.value.Words,I y45.value.Version.1,I y45.value.Version.2.1,I y45.value.Version.2.2.1,I y45.value.Version.2.2.2]] C (Kyg hy45) E Z E E E E E E E E E E<|gO 2 E<|oSi h46▸⟨⟨E,E,tV⟩,[],E,.inl E⟩
  have h47:=cF h43 hb
  refine bK h47 fun z48 hz48 h49=>gA 4 E<|eo_o E (Khs hΓ hz48 E E E E E)<|bK h49 fun y50 hy50 h51=>Kie C (Kzu hy50) E Z E E E E E<|gO 3 E<|Kgy E (fun hb=>?_) (fun hb=>?_)
  ·have h52:=cT h51 hb
   exact bK h52 fun y53 hy53 h54=>gA 2 E<|Kid [1] (.tup []) [.box 128 [S [],I 0,I 0,S [],I 0,I 0,S [],I 0,I 0,I 0,I 0],.box 128 [S y53.kind,I y53.v_at,I y53.v_end,S y53.name,I y53.value.Kind,I y53.value.Number,S y53.value.Words,I y53.value.Version.1,I y53.value.Version.2.1,I y53.value.Version.2.2.1,I y53.value.Version.2.2.2]] C (Kyi hy53) E Z E E E E E E E E E E<|gO 2 E<|oSi h54▸⟨⟨E,E,tV⟩,[],E,.inl E⟩
  have h55:=cF h51 hb
  refine gA 5 E<|Khe 3 [(0,S s),(4,.ptr 0 0),(5,.ptr 1 0),(81,B ((decide (((c22.toNat:Int):Int)≥97))&&(decide (((c22.toNat:Int):Int)≤122))))] [.box 128 [S [],I 0,I 0,S [],I 0,I 0,S [],I 0,I 0,I 0,I 0],.box 128 [S [98,97,100],I v_at,I 0,S [],I 0,I 0,S [],I 0,I 0,I 0,I 0]] ?_ ?_
  ·refine Kot E E (fun hb=>?_) (fun hb=>?_)
   ·exact gO 4 E<|⟨⟨E,E,E,Kgd E (Kiy hb),tV⟩,[],E,.inl E⟩
   exact gO 4 E<|⟨⟨E,E,E,Kgd E (Kiz hb),tV⟩,[],E,.inl E⟩
  refine gO 3 E<|jC E h55 (fun h56=>?_) fun h59=>gA 2 E<|oSi h59▸⟨⟨E,E,tV⟩,[],E,.inl E⟩
  exact bK h56 fun y57 hy57 h58=>gA 2 E<|Kid [1] (.tup []) [.box 128 [S [],I 0,I 0,S [],I 0,I 0,S [],I 0,I 0,I 0,I 0],.box 128 [S y57.kind,I y57.v_at,I y57.v_end,S y57.name,I y57.value.Kind,I y57.value.Number,S y57.value.Words,I y57.value.Version.1,I y57.value.Version.2.1,I y57.value.Version.2.2.1,I y57.value.Version.2.2.2]] C (Kyk hy57) E Z E E E E E E E E E E<|gO 2 E<|oSi h58▸⟨⟨E,E,tV⟩,[],E,.inl E⟩
 exact gA 4 E<|Kqf hΓ E E E E E E E E Z<|Kil [.box 128 [S q24.kind,I q24.v_at,I q24.v_end,S q24.name,I q24.value.Kind,I q24.value.Number,S q24.value.Words,I q24.value.Version.1,I q24.value.Version.2.1,I q24.value.Version.2.2.1,I q24.value.Version.2.2.2],.box 128 [S q24.kind,I q24.v_at,I q24.v_end,S q24.name,I q24.value.Kind,I q24.value.Number,S q24.value.Words,I q24.value.Version.1,I q24.value.Version.2.1,I q24.value.Version.2.2.1,I q24.value.Version.2.2.2]] E<|gO 3 E<|oSi h25▸gP E E
theorem Kym{k:Nat}{p:Kuu}{r:Kuu}(h:Kxk k p=some r):EC Tryz.prog 93 [.ptr 0 0] [.box 130 [S p.s,S p.tok.kind,I p.tok.v_at,I p.tok.v_end,S p.tok.name,I p.tok.value.Kind,I p.tok.value.Number,S p.tok.value.Words,I p.tok.value.Version.1,I p.tok.value.Version.2.1,I p.tok.value.Version.2.2.1,I p.tok.value.Version.2.2.2,B p.bad,I p.v_at]] fun g hp'=>g=.tup []∧hp'=[.box 130 [S r.s,S r.tok.kind,I r.tok.v_at,I r.tok.v_end,S r.tok.name,I r.tok.value.Kind,I r.tok.value.Number,S r.tok.value.Words,I r.tok.value.Version.1,I r.tok.value.Version.2.1,I r.tok.value.Version.2.2.1,I r.tok.value.Version.2.2.2,B r.bad,I r.v_at]]:=by
 unfold Kxk at h
 refine QN Tryz.func93 E Z<|gA 11 E<|bK h fun q4 hq4 h5=>Kku [(0,.ptr 0 0),(2,I q4)] [.box 130 [S p.s,S p.tok.kind,I p.tok.v_at,I p.tok.v_end,S p.tok.name,I p.tok.value.Kind,I p.tok.value.Number,S p.tok.value.Words,I p.tok.value.Version.1,I p.tok.value.Version.2.1,I p.tok.value.Version.2.2.1,I p.tok.value.Version.2.2.2,B p.bad,I p.v_at]] ?_ ?_
 ·refine gA 1 E<|Khl hq4 (fun s2=>[(0,.ptr 0 0),(2,I s2)]) (fun s2=>[.box 130 [S p.s,S p.tok.kind,I p.tok.v_at,I p.tok.v_end,S p.tok.name,I p.tok.value.Kind,I p.tok.value.Number,S p.tok.value.Words,I p.tok.value.Version.1,I p.tok.value.Version.2.1,I p.tok.value.Version.2.2.1,I p.tok.value.Version.2.2.2,B p.bad,I p.v_at]]) ⟨⟨E,E,tV⟩,[],E,.inl E⟩ (fun s2 y10 hy8 hout9=>?_)
  refine gA 11 E<|bK hy8 fun q11 hq11 h12=>Khe 17 [(0,.ptr 0 0),(2,I s2),(32,B q11)] [.box 130 [S p.s,S p.tok.kind,I p.tok.v_at,I p.tok.v_end,S p.tok.name,I p.tok.value.Kind,I p.tok.value.Number,S p.tok.value.Words,I p.tok.value.Version.1,I p.tok.value.Version.2.1,I p.tok.value.Version.2.2.1,I p.tok.value.Version.2.2.2,B p.bad,I p.v_at]] ?_ ?_
  ·refine Kot E E (fun hb=>?_) (fun hb=>?_)
   ·have h13:=cT hq11 hb
    refine bK h13 fun c14 hc14 h15=>gO 5 E<|Kor E<|eo_o E (Khq hΓ hc14 E E E E)<|gO 2 E<|bK h15 fun q16 hq16 h17=>Khe 8 [(0,.ptr 0 0),(2,I s2),(15,B true),(31,B q16)] [.box 130 [S p.s,S p.tok.kind,I p.tok.v_at,I p.tok.v_end,S p.tok.name,I p.tok.value.Kind,I p.tok.value.Number,S p.tok.value.Words,I p.tok.value.Version.1,I p.tok.value.Version.2.1,I p.tok.value.Version.2.2.1,I p.tok.value.Version.2.2.2,B p.bad,I p.v_at]] ?_ ?_
    ·refine Kot E E (fun hb=>?_) (fun hb=>?_)
     ·have h18:=cT hq16 hb
      exact gO 9 E<|oSi h18▸⟨⟨E,E,E,E,tV⟩,[],E,.inl E⟩
     have h19:=cF hq16 hb
     exact bK h19 fun c20 hc20 h21=>gO 5 E<|Kor E<|eo_o E (Khq hΓ hc20 E E E E)<|gO 3 E<|oSi h21▸⟨⟨E,E,E,E,tV⟩,[],E,.inl E⟩
    exact gO 2 E<|oSi h17▸⟨⟨E,E,E,tV⟩,[],E,.inl E⟩
   have h22:=cF hq11 hb
   exact gO 18 E<|oSi h22▸⟨⟨E,E,E,tV⟩,[],E,.inl E⟩
  refine gO 2 E<|jC E h12 (fun h23=>?_) fun h24=>gA 4 E ?_
  ·exact gA 9 E<|oSi h23▸⟨_,E,⟨⟨E,E,tV⟩,[],E,.inl E⟩⟩
  cases h24
  obtain rfl:=hout9 _ rfl
  exact⟨⟨E,E,tV⟩,[],E,.inl E⟩
 exact bK h5 fun y25 hy25 h26=>gA 8 E<|Kie C (Kyl hy25) E Z E E E E E<|gO 2 E<|Kqf hΓ E E E E E E E E Z<|Kil [.box 130 [S p.s,S y25.kind,I y25.v_at,I y25.v_end,S y25.name,I y25.value.Kind,I y25.value.Number,S y25.value.Words,I y25.value.Version.1,I y25.value.Version.2.1,I y25.value.Version.2.2.1,I y25.value.Version.2.2.2,B p.bad,I p.v_at]] E<|gO 1 E<|oSi h26▸Kis hΓ [] (.inl E) E E E E (.inl E)
theorem Kyn{p:Kuu}{r:Kur×Kuu}(h:Kxl p=some r):EC Tryz.prog 95 [.ptr 0 0] [.box 130 [S p.s,S p.tok.kind,I p.tok.v_at,I p.tok.v_end,S p.tok.name,I p.tok.value.Kind,I p.tok.value.Number,S p.tok.value.Words,I p.tok.value.Version.1,I p.tok.value.Version.2.1,I p.tok.value.Version.2.2.1,I p.tok.value.Version.2.2.2,B p.bad,I p.v_at]] fun g hp'=>g=.agg [I r.1.Kind,S r.1.Name,S r.1.Op,I r.1.Value.Kind,I r.1.Value.Number,S r.1.Value.Words,I r.1.Value.Version.1,I r.1.Value.Version.2.1,I r.1.Value.Version.2.2.1,I r.1.Value.Version.2.2.2,.d (.ro r.1.Kids.n r.1.Kids.xs)]∧hp'=[.box 130 [S r.2.s,S r.2.tok.kind,I r.2.tok.v_at,I r.2.tok.v_end,S r.2.tok.name,I r.2.tok.value.Kind,I r.2.tok.value.Number,S r.2.tok.value.Words,I r.2.tok.value.Version.1,I r.2.tok.value.Version.2.1,I r.2.tok.value.Version.2.2.1,I r.2.tok.value.Version.2.2.2,B r.2.bad,I r.2.v_at]]:=by
 unfold Kxl at h
 refine QN Tryz.func95 E Z<|gA 2 E<|Kqa hΓ E E E Z<|bK h fun q1 hq1 h2=>gO 12 E<|Kku [(2,.ptr 1 0)] [.box 130 [S q1.s,S q1.tok.kind,I q1.tok.v_at,I q1.tok.v_end,S q1.tok.name,I q1.tok.value.Kind,I q1.tok.value.Number,S q1.tok.value.Words,I q1.tok.value.Version.1,I q1.tok.value.Version.2.1,I q1.tok.value.Version.2.2.1,I q1.tok.value.Version.2.2.2,B q1.bad,I q1.v_at],.box 47 [I 0,S [],S [],I 0,I 0,S [],I 0,I 0,I 0,I 0,.d (.ro (KD.mk 0 []).n (KD.mk 0 []).xs)]] ?_ ?_
 ·refine jC E hq1 (fun h3=>?_) fun h4=>gA 1 E<|oSi h4▸⟨⟨E,tV⟩,[],E,.inl E⟩
  exact gA 10 E<|Kqf hΓ E E E E E E E E Z<|Kil [.box 130 [S p.s,S p.tok.kind,I p.tok.v_at,I p.tok.v_end,S p.tok.name,I p.tok.value.Kind,I p.tok.value.Number,S p.tok.value.Words,I p.tok.value.Version.1,I p.tok.value.Version.2.1,I p.tok.value.Version.2.2.1,I p.tok.value.Version.2.2.2,B true,I p.v_at],.box 47 [I 0,S [],S [],I 0,I 0,S [],I 0,I 0,I 0,I 0,.d (.ro (KD.mk 0 []).n (KD.mk 0 []).xs)]] E<|gO 2 E<|Kqf hΓ E E E E E E E E Z<|Kil [.box 130 [S p.s,S p.tok.kind,I p.tok.v_at,I p.tok.v_end,S p.tok.name,I p.tok.value.Kind,I p.tok.value.Number,S p.tok.value.Words,I p.tok.value.Version.1,I p.tok.value.Version.2.1,I p.tok.value.Version.2.2.1,I p.tok.value.Version.2.2.2,B true,I p.tok.v_at],.box 47 [I 0,S [],S [],I 0,I 0,S [],I 0,I 0,I 0,I 0,.d (.ro (KD.mk 0 []).n (KD.mk 0 []).xs)]] E<|gO 1 E<|oSi h3▸⟨⟨E,tV⟩,[],E,.inl E⟩
 exact gA 3 E<|Kfd hΓ (gs:=[I 0,S [],S [],I 0,I 0,S [],I 0,I 0,I 0,I 0,.d (.ro (KD.mk 0 []).n (KD.mk 0 []).xs)]) E E E E E E E<|Kqf hΓ E E E E E E E E Z<|Kil [.box 130 [S q1.s,S q1.tok.kind,I q1.tok.v_at,I q1.tok.v_end,S q1.tok.name,I q1.tok.value.Kind,I q1.tok.value.Number,S q1.tok.value.Words,I q1.tok.value.Version.1,I q1.tok.value.Version.2.1,I q1.tok.value.Version.2.2.1,I q1.tok.value.Version.2.2.2,B q1.bad,I q1.v_at],.box 47 [I 0,S [],S [],I 0,I 0,S [],I 0,I 0,I 0,I 0,.d (.ro (KD.mk 0 []).n (KD.mk 0 []).xs)]] E<|gO 3 E<|oSi h2▸Kis hΓ [_] (.inr E) E E E E (.inr ⟨HB.mk E,E⟩)
theorem Kyo{k:Nat}{p:Kuu}{r:Kur×Kuu}(h:Kxm k p=some r):EC Tryz.prog 218 [.ptr 0 0] [.box 130 [S p.s,S p.tok.kind,I p.tok.v_at,I p.tok.v_end,S p.tok.name,I p.tok.value.Kind,I p.tok.value.Number,S p.tok.value.Words,I p.tok.value.Version.1,I p.tok.value.Version.2.1,I p.tok.value.Version.2.2.1,I p.tok.value.Version.2.2.2,B p.bad,I p.v_at]] fun g hp'=>g=.agg [I r.1.Kind,S r.1.Name,S r.1.Op,I r.1.Value.Kind,I r.1.Value.Number,S r.1.Value.Words,I r.1.Value.Version.1,I r.1.Value.Version.2.1,I r.1.Value.Version.2.2.1,I r.1.Value.Version.2.2.2,.d (.ro r.1.Kids.n r.1.Kids.xs)]∧hp'=[.box 130 [S r.2.s,S r.2.tok.kind,I r.2.tok.v_at,I r.2.tok.v_end,S r.2.tok.name,I r.2.tok.value.Kind,I r.2.tok.value.Number,S r.2.tok.value.Words,I r.2.tok.value.Version.1,I r.2.tok.value.Version.2.1,I r.2.tok.value.Version.2.2.1,I r.2.tok.value.Version.2.2.2,B r.2.bad,I r.2.v_at]]:=by
 unfold Kxm at h
 refine QN Tryz.func218 E Z<|gA 2 E<|Kqa hΓ E E E Z<|gO 9 E<|Kfd hΓ (gs:=[I 3,I 1,S [],I 0,I 0,I 0,I 0]) E E E E E E E<|Kfd hΓ (gs:=[I 1,S p.tok.name,S [61,61],I 3,I 1,S [],I 0,I 0,I 0,I 0,.d (.ro (KD.mk 0 []).n (KD.mk 0 []).xs)]) E E E E E E E<|Kqa hΓ E E E Z<|Kqf hΓ E E E E E E E E Z<|Kil [.box 130 [S p.s,S p.tok.kind,I p.tok.v_at,I p.tok.v_end,S p.tok.name,I p.tok.value.Kind,I p.tok.value.Number,S p.tok.value.Words,I p.tok.value.Version.1,I p.tok.value.Version.2.1,I p.tok.value.Version.2.2.1,I p.tok.value.Version.2.2.2,B p.bad,I p.v_at],.box 47 [I 0,S [],S [],I 0,I 0,S [],I 0,I 0,I 0,I 0,.d (.ro (KD.mk 0 []).n (KD.mk 0 []).xs)],.box 47 [I 1,S p.tok.name,S [61,61],I 3,I 1,S [],I 0,I 0,I 0,I 0,.d (.ro (KD.mk 0 []).n (KD.mk 0 []).xs)]] E<|bK h fun y1 hy1 h2=>gO 5 E<|Kid [0] (.tup []) [.box 130 [S y1.s,S y1.tok.kind,I y1.tok.v_at,I y1.tok.v_end,S y1.tok.name,I y1.tok.value.Kind,I y1.tok.value.Number,S y1.tok.value.Words,I y1.tok.value.Version.1,I y1.tok.value.Version.2.1,I y1.tok.value.Version.2.2.1,I y1.tok.value.Version.2.2.2,B y1.bad,I y1.v_at],.box 47 [I 0,S [],S [],I 0,I 0,S [],I 0,I 0,I 0,I 0,.d (.ro (KD.mk 0 []).n (KD.mk 0 []).xs)],.box 47 [I 1,S p.tok.name,S [61,61],I 3,I 1,S [],I 0,I 0,I 0,I 0,.d (.ro (KD.mk 0 []).n (KD.mk 0 []).xs)]] C (Kym hy1) E Z E E E E E E E E E E<|bK h2 fun y3 hy3 h4=>gO 10 E<|Kie C (Kzx hy3) E Z E E E E E<|gO 3 E<|jC E h4 (fun h5=>?_) fun h6=>gA 10 E<|Kqf hΓ E E E E E E E E Z<|Kil [.box 130 [S y1.s,S y1.tok.kind,I y1.tok.v_at,I y1.tok.v_end,S y1.tok.name,I y1.tok.value.Kind,I y1.tok.value.Number,S y1.tok.value.Words,I y1.tok.value.Version.1,I y1.tok.value.Version.2.1,I y1.tok.value.Version.2.2.1,I y1.tok.value.Version.2.2.2,B y1.bad,I y1.v_at],.box 47 [I 0,S [],S [],I 0,I 0,S [],I 0,I 0,I 0,I 0,.d (.ro (KD.mk 0 []).n (KD.mk 0 []).xs)],.box 47 [I 1,S p.tok.name,S y1.tok.kind,I 3,I 1,S [],I 0,I 0,I 0,I 0,.d (.ro (KD.mk 0 []).n (KD.mk 0 []).xs)]] E<|bK h6 fun y7 hy7 h8=>gO 5 E<|Kid [0] (.tup []) [.box 130 [S y7.s,S y7.tok.kind,I y7.tok.v_at,I y7.tok.v_end,S y7.tok.name,I y7.tok.value.Kind,I y7.tok.value.Number,S y7.tok.value.Words,I y7.tok.value.Version.1,I y7.tok.value.Version.2.1,I y7.tok.value.Version.2.2.1,I y7.tok.value.Version.2.2.2,B y7.bad,I y7.v_at],.box 47 [I 0,S [],S [],I 0,I 0,S [],I 0,I 0,I 0,I 0,.d (.ro (KD.mk 0 []).n (KD.mk 0 []).xs)],.box 47 [I 1,S p.tok.name,S y1.tok.kind,I 3,I 1,S [],I 0,I 0,I 0,I 0,.d (.ro (KD.mk 0 []).n (KD.mk 0 []).xs)]] C (Kym hy7) E Z E E E E E E E E E E<|gO 13 E<|jC E h8 (fun h9=>?_) fun h12=>?_
 ·exact gA 3 E<|Kqf hΓ E E E E E E E E Z<|Kil [.box 130 [S y1.s,S y1.tok.kind,I y1.tok.v_at,I y1.tok.v_end,S y1.tok.name,I y1.tok.value.Kind,I y1.tok.value.Number,S y1.tok.value.Words,I y1.tok.value.Version.1,I y1.tok.value.Version.2.1,I y1.tok.value.Version.2.2.1,I y1.tok.value.Version.2.2.2,B y1.bad,I y1.v_at],.box 47 [I 1,S p.tok.name,S [61,61],I 3,I 1,S [],I 0,I 0,I 0,I 0,.d (.ro (KD.mk 0 []).n (KD.mk 0 []).xs)],.box 47 [I 1,S p.tok.name,S [61,61],I 3,I 1,S [],I 0,I 0,I 0,I 0,.d (.ro (KD.mk 0 []).n (KD.mk 0 []).xs)]] E<|gO 4 E<|oSi h5▸Kis hΓ [_,_] (.inr E) E E E E (.inr ⟨HB.mk E,E⟩)
 ·exact bK h9 fun y10 hy10 h11=>gA 3 E<|Kid [0] (.agg [I y10.1.Kind,S y10.1.Name,S y10.1.Op,I y10.1.Value.Kind,I y10.1.Value.Number,S y10.1.Value.Words,I y10.1.Value.Version.1,I y10.1.Value.Version.2.1,I y10.1.Value.Version.2.2.1,I y10.1.Value.Version.2.2.2,.d (.ro y10.1.Kids.n y10.1.Kids.xs)]) [.box 130 [S y10.2.s,S y10.2.tok.kind,I y10.2.tok.v_at,I y10.2.tok.v_end,S y10.2.tok.name,I y10.2.tok.value.Kind,I y10.2.tok.value.Number,S y10.2.tok.value.Words,I y10.2.tok.value.Version.1,I y10.2.tok.value.Version.2.1,I y10.2.tok.value.Version.2.2.1,I y10.2.tok.value.Version.2.2.2,B y10.2.bad,I y10.2.v_at],.box 47 [I 0,S [],S [],I 0,I 0,S [],I 0,I 0,I 0,I 0,.d (.ro (KD.mk 0 []).n (KD.mk 0 []).xs)],.box 47 [I 1,S p.tok.name,S y1.tok.kind,I 3,I 1,S [],I 0,I 0,I 0,I 0,.d (.ro (KD.mk 0 []).n (KD.mk 0 []).xs)]] C (Kyn hy10) E Z E E E E E E E E E E<|Kqf hΓ E E E E E E E E Z<|Kil [.box 130 [S y10.2.s,S y10.2.tok.kind,I y10.2.tok.v_at,I y10.2.tok.v_end,S y10.2.tok.name,I y10.2.tok.value.Kind,I y10.2.tok.value.Number,S y10.2.tok.value.Words,I y10.2.tok.value.Version.1,I y10.2.tok.value.Version.2.1,I y10.2.tok.value.Version.2.2.1,I y10.2.tok.value.Version.2.2.2,B y10.2.bad,I y10.2.v_at],.box 47 [I y10.1.Kind,S y10.1.Name,S y10.1.Op,I y10.1.Value.Kind,I y10.1.Value.Number,S y10.1.Value.Words,I y10.1.Value.Version.1,I y10.1.Value.Version.2.1,I y10.1.Value.Version.2.2.1,I y10.1.Value.Version.2.2.2,.d (.ro y10.1.Kids.n y10.1.Kids.xs)],.box 47 [I 1,S p.tok.name,S y1.tok.kind,I 3,I 1,S [],I 0,I 0,I 0,I 0,.d (.ro (KD.mk 0 []).n (KD.mk 0 []).xs)]] E<|gO 4 E<|oSi h11▸Kis hΓ [_,_] (.inr E) E E E E (.inr ⟨HB.mk E,E⟩)
 exact gA 10 E<|Kqf hΓ E E E E E E E E Z<|Kil [.box 130 [S y7.s,S y7.tok.kind,I y7.tok.v_at,I y7.tok.v_end,S y7.tok.name,I y7.tok.value.Kind,I y7.tok.value.Number,S y7.tok.value.Words,I y7.tok.value.Version.1,I y7.tok.value.Version.2.1,I y7.tok.value.Version.2.2.1,I y7.tok.value.Version.2.2.2,B y7.bad,I y7.v_at],.box 47 [I 0,S [],S [],I 0,I 0,S [],I 0,I 0,I 0,I 0,.d (.ro (KD.mk 0 []).n (KD.mk 0 []).xs)],.box 47 [I 1,S p.tok.name,S y1.tok.kind,I y7.tok.value.Kind,I y7.tok.value.Number,S y7.tok.value.Words,I y7.tok.value.Version.1,I y7.tok.value.Version.2.1,I y7.tok.value.Version.2.2.1,I y7.tok.value.Version.2.2.2,.d (.ro (KD.mk 0 []).n (KD.mk 0 []).xs)]] E<|bK h12 fun y13 hy13 h14=>gO 5 E<|Kid [0] (.tup []) [.box 130 [S y13.s,S y13.tok.kind,I y13.tok.v_at,I y13.tok.v_end,S y13.tok.name,I y13.tok.value.Kind,I y13.tok.value.Number,S y13.tok.value.Words,I y13.tok.value.Version.1,I y13.tok.value.Version.2.1,I y13.tok.value.Version.2.2.1,I y13.tok.value.Version.2.2.2,B y13.bad,I y13.v_at],.box 47 [I 0,S [],S [],I 0,I 0,S [],I 0,I 0,I 0,I 0,.d (.ro (KD.mk 0 []).n (KD.mk 0 []).xs)],.box 47 [I 1,S p.tok.name,S y1.tok.kind,I y7.tok.value.Kind,I y7.tok.value.Number,S y7.tok.value.Words,I y7.tok.value.Version.1,I y7.tok.value.Version.2.1,I y7.tok.value.Version.2.2.1,I y7.tok.value.Version.2.2.2,.d (.ro (KD.mk 0 []).n (KD.mk 0 []).xs)]] C (Kym hy13) E Z E E E E E E E E E E<|gO 5 E<|Kqf hΓ E E E E E E E E Z<|Kil [.box 130 [S y13.s,S y13.tok.kind,I y13.tok.v_at,I y13.tok.v_end,S y13.tok.name,I y13.tok.value.Kind,I y13.tok.value.Number,S y13.tok.value.Words,I y13.tok.value.Version.1,I y13.tok.value.Version.2.1,I y13.tok.value.Version.2.2.1,I y13.tok.value.Version.2.2.2,B y13.bad,I y13.v_at],.box 47 [I 1,S p.tok.name,S y1.tok.kind,I y7.tok.value.Kind,I y7.tok.value.Number,S y7.tok.value.Words,I y7.tok.value.Version.1,I y7.tok.value.Version.2.1,I y7.tok.value.Version.2.2.1,I y7.tok.value.Version.2.2.2,.d (.ro (KD.mk 0 []).n (KD.mk 0 []).xs)],.box 47 [I 1,S p.tok.name,S y1.tok.kind,I y7.tok.value.Kind,I y7.tok.value.Number,S y7.tok.value.Words,I y7.tok.value.Version.1,I y7.tok.value.Version.2.1,I y7.tok.value.Version.2.2.1,I y7.tok.value.Version.2.2.2,.d (.ro (KD.mk 0 []).n (KD.mk 0 []).xs)]] E<|gO 3 E<|oSi h14▸Kis hΓ [_,_] (.inr E) E E E E (.inr ⟨HB.mk E,E⟩)
theorem Kyp{rc_posture_parser_cond:Kuu→Option (Kur×Kuu)}(ih_posture_parser_cond:∀ {p:Kuu} {r:Kur×Kuu},rc_posture_parser_cond p=some r→EC Tryz.prog 94 [.ptr 0 0] [.box 130 [S p.s,S p.tok.kind,I p.tok.v_at,I p.tok.v_end,S p.tok.name,I p.tok.value.Kind,I p.tok.value.Number,S p.tok.value.Words,I p.tok.value.Version.1,I p.tok.value.Version.2.1,I p.tok.value.Version.2.2.1,I p.tok.value.Version.2.2.2,B p.bad,I p.v_at]] fun g hp'=>g=.agg [I r.1.Kind,S r.1.Name,S r.1.Op,I r.1.Value.Kind,I r.1.Value.Number,S r.1.Value.Words,I r.1.Value.Version.1,I r.1.Value.Version.2.1,I r.1.Value.Version.2.2.1,I r.1.Value.Version.2.2.2,.d (.ro r.1.Kids.n r.1.Kids.xs)]∧hp'=[.box 130 [S r.2.s,S r.2.tok.kind,I r.2.tok.v_at,I r.2.tok.v_end,S r.2.tok.name,I r.2.tok.value.Kind,I r.2.tok.value.Number,S r.2.tok.value.Words,I r.2.tok.value.Version.1,I r.2.tok.value.Version.2.1,I r.2.tok.value.Version.2.2.1,I r.2.tok.value.Version.2.2.2,B r.2.bad,I r.2.v_at]]){k:Nat}{p:Kuu}{r:Kur×Kuu}(h:Kxn rc_posture_parser_cond k p=some r):EC Tryz.prog 185 [.ptr 0 0] [.box 130 [S p.s,S p.tok.kind,I p.tok.v_at,I p.tok.v_end,S p.tok.name,I p.tok.value.Kind,I p.tok.value.Number,S p.tok.value.Words,I p.tok.value.Version.1,I p.tok.value.Version.2.1,I p.tok.value.Version.2.2.1,I p.tok.value.Version.2.2.2,B p.bad,I p.v_at]] fun g hp'=>g=.agg [I r.1.Kind,S r.1.Name,S r.1.Op,I r.1.Value.Kind,I r.1.Value.Number,S r.1.Value.Words,I r.1.Value.Version.1,I r.1.Value.Version.2.1,I r.1.Value.Version.2.2.1,I r.1.Value.Version.2.2.2,.d (.ro r.1.Kids.n r.1.Kids.xs)]∧hp'=[.box 130 [S r.2.s,S r.2.tok.kind,I r.2.tok.v_at,I r.2.tok.v_end,S r.2.tok.name,I r.2.tok.value.Kind,I r.2.tok.value.Number,S r.2.tok.value.Words,I r.2.tok.value.Version.1,I r.2.tok.value.Version.2.1,I r.2.tok.value.Version.2.2.1,I r.2.tok.value.Version.2.2.2,B r.2.bad,I r.2.v_at]]:=by
 induction k generalizing p r with
 | zero=>unfold Kxn at h;cases h
 | succ k ih0=>
  have ih:∀ {p:Kuu} {r:Kur×Kuu},Kxn rc_posture_parser_cond k p=some r→EC Tryz.prog 185 [.ptr 0 0] [.box 130 [S p.s,S p.tok.kind,I p.tok.v_at,I p.tok.v_end,S p.tok.name,I p.tok.value.Kind,I p.tok.value.Number,S p.tok.value.Words,I p.tok.value.Version.1,I p.tok.value.Version.2.1,I p.tok.value.Version.2.2.1,I p.tok.value.Version.2.2.2,B p.bad,I p.v_at]] fun g hp'=>g=.agg [I r.1.Kind,S r.1.Name,S r.1.Op,I r.1.Value.Kind,I r.1.Value.Number,S r.1.Value.Words,I r.1.Value.Version.1,I r.1.Value.Version.2.1,I r.1.Value.Version.2.2.1,I r.1.Value.Version.2.2.2,.d (.ro r.1.Kids.n r.1.Kids.xs)]∧hp'=[.box 130 [S r.2.s,S r.2.tok.kind,I r.2.tok.v_at,I r.2.tok.v_end,S r.2.tok.name,I r.2.tok.value.Kind,I r.2.tok.value.Number,S r.2.tok.value.Words,I r.2.tok.value.Version.1,I r.2.tok.value.Version.2.1,I r.2.tok.value.Version.2.2.1,I r.2.tok.value.Version.2.2.2,B r.2.bad,I r.2.v_at]]:=by intro p r h;first | exact ih0 h | exact ih0 _ _ h
  refine Kol (Fr.of 0 _) Tryz.func185 E (Fr.of_ok _) Z fun _=>?_
  refine Kgx ?_
  unfold Kxn at h
  refine gA 2 E ?_
  refine Kqa hΓ E E E Z ?_
  refine gO 19 E ?_
  refine Kgy E (fun hb=>?_) (fun hb=>?_)
  ·have h1:=cT h hb
   obtain⟨y2,hy2,h3⟩:=Khf h1
   refine gA 3 E ?_
   refine Kid [0] (.tup []) [.box 130 [S y2.s,S y2.tok.kind,I y2.tok.v_at,I y2.tok.v_end,S y2.tok.name,I y2.tok.value.Kind,I y2.tok.value.Number,S y2.tok.value.Words,I y2.tok.value.Version.1,I y2.tok.value.Version.2.1,I y2.tok.value.Version.2.2.1,I y2.tok.value.Version.2.2.2,B y2.bad,I y2.v_at],.box 47 [I 0,S [],S [],I 0,I 0,S [],I 0,I 0,I 0,I 0,.d (.ro (KD.mk 0 []).n (KD.mk 0 []).xs)]] C (Kym hy2) E Z E E E E E E E E E E ?_
   obtain⟨y4,hy4,h5⟩:=Khf h3
   refine gO 5 E ?_
   refine Kid [0] (.agg [I y4.1.Kind,S y4.1.Name,S y4.1.Op,I y4.1.Value.Kind,I y4.1.Value.Number,S y4.1.Value.Words,I y4.1.Value.Version.1,I y4.1.Value.Version.2.1,I y4.1.Value.Version.2.2.1,I y4.1.Value.Version.2.2.2,.d (.ro y4.1.Kids.n y4.1.Kids.xs)]) [.box 130 [S y4.2.s,S y4.2.tok.kind,I y4.2.tok.v_at,I y4.2.tok.v_end,S y4.2.tok.name,I y4.2.tok.value.Kind,I y4.2.tok.value.Number,S y4.2.tok.value.Words,I y4.2.tok.value.Version.1,I y4.2.tok.value.Version.2.1,I y4.2.tok.value.Version.2.2.1,I y4.2.tok.value.Version.2.2.2,B y4.2.bad,I y4.2.v_at],.box 47 [I 0,S [],S [],I 0,I 0,S [],I 0,I 0,I 0,I 0,.d (.ro (KD.mk 0 []).n (KD.mk 0 []).xs)]] C (ih hy4) E Z E E E E E E E E E E ?_
   refine Khz hΓ (enc:=Kus) [y4.1] E E E E E E E E E E E E Z ?_
   refine Kfd hΓ (gs:=[I 2,S [],S [],I 0,I 0,S [],I 0,I 0,I 0,I 0,.d (.ro (pk Kus [y4.1]).n (pk Kus [y4.1]).xs)]) E E E E E E E ?_
   refine Kqf hΓ E E E E E E E E Z ?_
   refine Kil [.box 130 [S y4.2.s,S y4.2.tok.kind,I y4.2.tok.v_at,I y4.2.tok.v_end,S y4.2.tok.name,I y4.2.tok.value.Kind,I y4.2.tok.value.Number,S y4.2.tok.value.Words,I y4.2.tok.value.Version.1,I y4.2.tok.value.Version.2.1,I y4.2.tok.value.Version.2.2.1,I y4.2.tok.value.Version.2.2.2,B y4.2.bad,I y4.2.v_at],.box 47 [I 2,S [],S [],I 0,I 0,S [],I 0,I 0,I 0,I 0,.d (.ro (pk Kus [y4.1]).n (pk Kus [y4.1]).xs)]] E ?_
   refine gO 5 E ?_
   obtain rfl:=oSi h5
   exact Kis hΓ [_] (.inr E) E E E E (.inr ⟨HB.mk E,E⟩)
  have h6:=cF h hb
  refine gA 6 E ?_
  refine Kgy E (fun hb=>?_) (fun hb=>?_)
  ·have h7:=cT h6 hb
   obtain⟨y8,hy8,h9⟩:=Khf h7
   refine gA 3 E ?_
   refine Kid [0] (.tup []) [.box 130 [S y8.s,S y8.tok.kind,I y8.tok.v_at,I y8.tok.v_end,S y8.tok.name,I y8.tok.value.Kind,I y8.tok.value.Number,S y8.tok.value.Words,I y8.tok.value.Version.1,I y8.tok.value.Version.2.1,I y8.tok.value.Version.2.2.1,I y8.tok.value.Version.2.2.2,B y8.bad,I y8.v_at],.box 47 [I 0,S [],S [],I 0,I 0,S [],I 0,I 0,I 0,I 0,.d (.ro (KD.mk 0 []).n (KD.mk 0 []).xs)]] C (Kym hy8) E Z E E E E E E E E E E ?_
   obtain⟨y10,hy10,h11⟩:=Khf h9
   refine gO 5 E ?_
   refine Kid [0] (.agg [I y10.1.Kind,S y10.1.Name,S y10.1.Op,I y10.1.Value.Kind,I y10.1.Value.Number,S y10.1.Value.Words,I y10.1.Value.Version.1,I y10.1.Value.Version.2.1,I y10.1.Value.Version.2.2.1,I y10.1.Value.Version.2.2.2,.d (.ro y10.1.Kids.n y10.1.Kids.xs)]) [.box 130 [S y10.2.s,S y10.2.tok.kind,I y10.2.tok.v_at,I y10.2.tok.v_end,S y10.2.tok.name,I y10.2.tok.value.Kind,I y10.2.tok.value.Number,S y10.2.tok.value.Words,I y10.2.tok.value.Version.1,I y10.2.tok.value.Version.2.1,I y10.2.tok.value.Version.2.2.1,I y10.2.tok.value.Version.2.2.2,B y10.2.bad,I y10.2.v_at],.box 47 [I 0,S [],S [],I 0,I 0,S [],I 0,I 0,I 0,I 0,.d (.ro (KD.mk 0 []).n (KD.mk 0 []).xs)]] C (ih_posture_parser_cond hy10) E Z E E E E E E E E E E ?_
   refine Kqa hΓ E E E Z ?_
   refine Kqf hΓ E E E E E E E E Z ?_
   refine Kil [.box 130 [S y10.2.s,S y10.2.tok.kind,I y10.2.tok.v_at,I y10.2.tok.v_end,S y10.2.tok.name,I y10.2.tok.value.Kind,I y10.2.tok.value.Number,S y10.2.tok.value.Words,I y10.2.tok.value.Version.1,I y10.2.tok.value.Version.2.1,I y10.2.tok.value.Version.2.2.1,I y10.2.tok.value.Version.2.2.2,B y10.2.bad,I y10.2.v_at],.box 47 [I 0,S [],S [],I 0,I 0,S [],I 0,I 0,I 0,I 0,.d (.ro (KD.mk 0 []).n (KD.mk 0 []).xs)],.box 47 [I y10.1.Kind,S y10.1.Name,S y10.1.Op,I y10.1.Value.Kind,I y10.1.Value.Number,S y10.1.Value.Words,I y10.1.Value.Version.1,I y10.1.Value.Version.2.1,I y10.1.Value.Version.2.2.1,I y10.1.Value.Version.2.2.2,.d (.ro y10.1.Kids.n y10.1.Kids.xs)]] E ?_
   refine gO 11 E ?_
   refine Kgy E (fun hb=>?_) (fun hb=>?_)
   ·have h12:=cT h11 hb
    refine gA 3 E ?_
    refine Kqf hΓ E E E E E E E E Z ?_
    refine Kil [.box 130 [S y10.2.s,S y10.2.tok.kind,I y10.2.tok.v_at,I y10.2.tok.v_end,S y10.2.tok.name,I y10.2.tok.value.Kind,I y10.2.tok.value.Number,S y10.2.tok.value.Words,I y10.2.tok.value.Version.1,I y10.2.tok.value.Version.2.1,I y10.2.tok.value.Version.2.2.1,I y10.2.tok.value.Version.2.2.2,B y10.2.bad,I y10.2.v_at],.box 47 [I y10.1.Kind,S y10.1.Name,S y10.1.Op,I y10.1.Value.Kind,I y10.1.Value.Number,S y10.1.Value.Words,I y10.1.Value.Version.1,I y10.1.Value.Version.2.1,I y10.1.Value.Version.2.2.1,I y10.1.Value.Version.2.2.2,.d (.ro y10.1.Kids.n y10.1.Kids.xs)],.box 47 [I y10.1.Kind,S y10.1.Name,S y10.1.Op,I y10.1.Value.Kind,I y10.1.Value.Number,S y10.1.Value.Words,I y10.1.Value.Version.1,I y10.1.Value.Version.2.1,I y10.1.Value.Version.2.2.1,I y10.1.Value.Version.2.2.2,.d (.ro y10.1.Kids.n y10.1.Kids.xs)]] E ?_
    refine gO 6 E ?_
    obtain rfl:=oSi h12
    exact Kis hΓ [_,_] (.inr E) E E E E (.inr ⟨HB.mk E,E⟩)
   have h13:=cF h11 hb
   refine gA 13 E ?_
   refine Kgy E (fun hb=>?_) (fun hb=>?_)
   ·have h14:=cT h13 hb
    obtain⟨y15,hy15,h16⟩:=Khf h14
    refine gA 3 E ?_
    refine Kid [0] (.agg [I y15.1.Kind,S y15.1.Name,S y15.1.Op,I y15.1.Value.Kind,I y15.1.Value.Number,S y15.1.Value.Words,I y15.1.Value.Version.1,I y15.1.Value.Version.2.1,I y15.1.Value.Version.2.2.1,I y15.1.Value.Version.2.2.2,.d (.ro y15.1.Kids.n y15.1.Kids.xs)]) [.box 130 [S y15.2.s,S y15.2.tok.kind,I y15.2.tok.v_at,I y15.2.tok.v_end,S y15.2.tok.name,I y15.2.tok.value.Kind,I y15.2.tok.value.Number,S y15.2.tok.value.Words,I y15.2.tok.value.Version.1,I y15.2.tok.value.Version.2.1,I y15.2.tok.value.Version.2.2.1,I y15.2.tok.value.Version.2.2.2,B y15.2.bad,I y15.2.v_at],.box 47 [I 0,S [],S [],I 0,I 0,S [],I 0,I 0,I 0,I 0,.d (.ro (KD.mk 0 []).n (KD.mk 0 []).xs)],.box 47 [I y10.1.Kind,S y10.1.Name,S y10.1.Op,I y10.1.Value.Kind,I y10.1.Value.Number,S y10.1.Value.Words,I y10.1.Value.Version.1,I y10.1.Value.Version.2.1,I y10.1.Value.Version.2.2.1,I y10.1.Value.Version.2.2.2,.d (.ro y10.1.Kids.n y10.1.Kids.xs)]] C (Kyn hy15) E Z E E E E E E E E E E ?_
    refine Kqf hΓ E E E E E E E E Z ?_
    refine Kil [.box 130 [S y15.2.s,S y15.2.tok.kind,I y15.2.tok.v_at,I y15.2.tok.v_end,S y15.2.tok.name,I y15.2.tok.value.Kind,I y15.2.tok.value.Number,S y15.2.tok.value.Words,I y15.2.tok.value.Version.1,I y15.2.tok.value.Version.2.1,I y15.2.tok.value.Version.2.2.1,I y15.2.tok.value.Version.2.2.2,B y15.2.bad,I y15.2.v_at],.box 47 [I y15.1.Kind,S y15.1.Name,S y15.1.Op,I y15.1.Value.Kind,I y15.1.Value.Number,S y15.1.Value.Words,I y15.1.Value.Version.1,I y15.1.Value.Version.2.1,I y15.1.Value.Version.2.2.1,I y15.1.Value.Version.2.2.2,.d (.ro y15.1.Kids.n y15.1.Kids.xs)],.box 47 [I y10.1.Kind,S y10.1.Name,S y10.1.Op,I y10.1.Value.Kind,I y10.1.Value.Number,S y10.1.Value.Words,I y10.1.Value.Version.1,I y10.1.Value.Version.2.1,I y10.1.Value.Version.2.2.1,I y10.1.Value.Version.2.2.2,.d (.ro y10.1.Kids.n y10.1.Kids.xs)]] E ?_
    refine gO 6 E ?_
    obtain rfl:=oSi h16
    exact Kis hΓ [_,_] (.inr E) E E E E (.inr ⟨HB.mk E,E⟩)
   have h17:=cF h13 hb
   obtain⟨y18,hy18,h19⟩:=Khf h17
   refine gA 5 E ?_
   refine Kid [0] (.tup []) [.box 130 [S y18.s,S y18.tok.kind,I y18.tok.v_at,I y18.tok.v_end,S y18.tok.name,I y18.tok.value.Kind,I y18.tok.value.Number,S y18.tok.value.Words,I y18.tok.value.Version.1,I y18.tok.value.Version.2.1,I y18.tok.value.Version.2.2.1,I y18.tok.value.Version.2.2.2,B y18.bad,I y18.v_at],.box 47 [I 0,S [],S [],I 0,I 0,S [],I 0,I 0,I 0,I 0,.d (.ro (KD.mk 0 []).n (KD.mk 0 []).xs)],.box 47 [I y10.1.Kind,S y10.1.Name,S y10.1.Op,I y10.1.Value.Kind,I y10.1.Value.Number,S y10.1.Value.Words,I y10.1.Value.Version.1,I y10.1.Value.Version.2.1,I y10.1.Value.Version.2.2.1,I y10.1.Value.Version.2.2.2,.d (.ro y10.1.Kids.n y10.1.Kids.xs)]] C (Kym hy18) E Z E E E E E E E E E E ?_
   refine gO 5 E ?_
   refine Kqf hΓ E E E E E E E E Z ?_
   refine Kil [.box 130 [S y18.s,S y18.tok.kind,I y18.tok.v_at,I y18.tok.v_end,S y18.tok.name,I y18.tok.value.Kind,I y18.tok.value.Number,S y18.tok.value.Words,I y18.tok.value.Version.1,I y18.tok.value.Version.2.1,I y18.tok.value.Version.2.2.1,I y18.tok.value.Version.2.2.2,B y18.bad,I y18.v_at],.box 47 [I y10.1.Kind,S y10.1.Name,S y10.1.Op,I y10.1.Value.Kind,I y10.1.Value.Number,S y10.1.Value.Words,I y10.1.Value.Version.1,I y10.1.Value.Version.2.1,I y10.1.Value.Version.2.2.1,I y10.1.Value.Version.2.2.2,.d (.ro y10.1.Kids.n y10.1.Kids.xs)],.box 47 [I y10.1.Kind,S y10.1.Name,S y10.1.Op,I y10.1.Value.Kind,I y10.1.Value.Number,S y10.1.Value.Words,I y10.1.Value.Version.1,I y10.1.Value.Version.2.1,I y10.1.Value.Version.2.2.1,I y10.1.Value.Version.2.2.2,.d (.ro y10.1.Kids.n y10.1.Kids.xs)]] E ?_
   refine gO 5 E ?_
   obtain rfl:=oSi h19
   exact Kis hΓ [_,_] (.inr E) E E E E (.inr ⟨HB.mk E,E⟩)
  have h20:=cF h6 hb
  refine gA 6 E ?_
  refine Kgy E (fun hb=>?_) (fun hb=>?_)
  ·have h21:=cT h20 hb
   obtain⟨y22,hy22,h23⟩:=Khf h21
   refine gA 3 E ?_
   refine Kid [0] (.agg [I y22.1.Kind,S y22.1.Name,S y22.1.Op,I y22.1.Value.Kind,I y22.1.Value.Number,S y22.1.Value.Words,I y22.1.Value.Version.1,I y22.1.Value.Version.2.1,I y22.1.Value.Version.2.2.1,I y22.1.Value.Version.2.2.2,.d (.ro y22.1.Kids.n y22.1.Kids.xs)]) [.box 130 [S y22.2.s,S y22.2.tok.kind,I y22.2.tok.v_at,I y22.2.tok.v_end,S y22.2.tok.name,I y22.2.tok.value.Kind,I y22.2.tok.value.Number,S y22.2.tok.value.Words,I y22.2.tok.value.Version.1,I y22.2.tok.value.Version.2.1,I y22.2.tok.value.Version.2.2.1,I y22.2.tok.value.Version.2.2.2,B y22.2.bad,I y22.2.v_at],.box 47 [I 0,S [],S [],I 0,I 0,S [],I 0,I 0,I 0,I 0,.d (.ro (KD.mk 0 []).n (KD.mk 0 []).xs)]] C (Kyo hy22) E Z E E E E E E E E E E ?_
   refine Kqf hΓ E E E E E E E E Z ?_
   refine Kil [.box 130 [S y22.2.s,S y22.2.tok.kind,I y22.2.tok.v_at,I y22.2.tok.v_end,S y22.2.tok.name,I y22.2.tok.value.Kind,I y22.2.tok.value.Number,S y22.2.tok.value.Words,I y22.2.tok.value.Version.1,I y22.2.tok.value.Version.2.1,I y22.2.tok.value.Version.2.2.1,I y22.2.tok.value.Version.2.2.2,B y22.2.bad,I y22.2.v_at],.box 47 [I y22.1.Kind,S y22.1.Name,S y22.1.Op,I y22.1.Value.Kind,I y22.1.Value.Number,S y22.1.Value.Words,I y22.1.Value.Version.1,I y22.1.Value.Version.2.1,I y22.1.Value.Version.2.2.1,I y22.1.Value.Version.2.2.2,.d (.ro y22.1.Kids.n y22.1.Kids.xs)]] E ?_
   refine gO 5 E ?_
   obtain rfl:=oSi h23
   exact Kis hΓ [_] (.inr E) E E E E (.inr ⟨HB.mk E,E⟩)
  have h24:=cF h20 hb
  obtain⟨y25,hy25,h26⟩:=Khf h24
  refine gA 6 E ?_
  refine Kid [0] (.agg [I y25.1.Kind,S y25.1.Name,S y25.1.Op,I y25.1.Value.Kind,I y25.1.Value.Number,S y25.1.Value.Words,I y25.1.Value.Version.1,I y25.1.Value.Version.2.1,I y25.1.Value.Version.2.2.1,I y25.1.Value.Version.2.2.2,.d (.ro y25.1.Kids.n y25.1.Kids.xs)]) [.box 130 [S y25.2.s,S y25.2.tok.kind,I y25.2.tok.v_at,I y25.2.tok.v_end,S y25.2.tok.name,I y25.2.tok.value.Kind,I y25.2.tok.value.Number,S y25.2.tok.value.Words,I y25.2.tok.value.Version.1,I y25.2.tok.value.Version.2.1,I y25.2.tok.value.Version.2.2.1,I y25.2.tok.value.Version.2.2.2,B y25.2.bad,I y25.2.v_at],.box 47 [I 0,S [],S [],I 0,I 0,S [],I 0,I 0,I 0,I 0,.d (.ro (KD.mk 0 []).n (KD.mk 0 []).xs)]] C (Kyn hy25) E Z E E E E E E E E E E ?_
  refine Kqf hΓ E E E E E E E E Z ?_
  refine Kil [.box 130 [S y25.2.s,S y25.2.tok.kind,I y25.2.tok.v_at,I y25.2.tok.v_end,S y25.2.tok.name,I y25.2.tok.value.Kind,I y25.2.tok.value.Number,S y25.2.tok.value.Words,I y25.2.tok.value.Version.1,I y25.2.tok.value.Version.2.1,I y25.2.tok.value.Version.2.2.1,I y25.2.tok.value.Version.2.2.2,B y25.2.bad,I y25.2.v_at],.box 47 [I y25.1.Kind,S y25.1.Name,S y25.1.Op,I y25.1.Value.Kind,I y25.1.Value.Number,S y25.1.Value.Words,I y25.1.Value.Version.1,I y25.1.Value.Version.2.1,I y25.1.Value.Version.2.2.1,I y25.1.Value.Version.2.2.2,.d (.ro y25.1.Kids.n y25.1.Kids.xs)]] E ?_
  refine gO 3 E ?_
  obtain rfl:=oSi h26
  exact Kis hΓ [_] (.inr E) E E E E (.inr ⟨HB.mk E,E⟩)
theorem Kyq{kind:Int}{l:List Kur}{r:Kur}(h:Kxo kind l=some r):Pure Tryz.prog 133 [I kind,.d (Sl Kus l)] (.agg [I r.Kind,S r.Name,S r.Op,I r.Value.Kind,I r.Value.Number,S r.Value.Words,I r.Value.Version.1,I r.Value.Version.2.1,I r.Value.Version.2.2.1,I r.Value.Version.2.2.2,.d (.ro r.Kids.n r.Kids.xs)]):=by
 unfold Kxo at h
 refine QP Tryz.func133 E E E<|gA 2 E<|Kqa hΓ E E E Z<|gO 10 E<|jC E h (fun h1=>?_) fun h4=>gA 5 E<|eo_s Z (nblt.1 E) (Klk 47 11 10 (OpP.s (Kli hΓ [10] (gs:=[I kind,S [],S [],I 0,I 0,S [],I 0,I 0,I 0,I 0,.d (.v (.slice none 0 0))]) E E E E E E)) E)<|Kqa hΓ E E E Z<|Kqf hΓ E E E E E E E E Z<|Kil [.box 47 [I 0,S [],S [],I 0,I 0,S [],I 0,I 0,I 0,I 0,.d (.ro (KD.mk 0 []).n (KD.mk 0 []).xs)],rO 47 11 Kus ([]:List Kur),.box 47 [I kind,S [],S [],I 0,I 0,S [],I 0,I 0,I 0,I 0,.sl 1 ([]:List Kur).length]] E<|gO 10 E<|bK h4 fun q8 hq8 h9=>Kho 16 E fun hb11=>Kku [(4,.ptr 0 0),(5,.ptr 2 0)] [.box 47 [I 0,S [],S [],I 0,I 0,S [],I 0,I 0,I 0,I 0,.d (.ro (KD.mk 0 []).n (KD.mk 0 []).xs)],rO 47 11 Kus q8,.box 47 [I kind,S [],S [],I 0,I 0,S [],I 0,I 0,I 0,I 0,.sl 1 q8.length]] ?_ ?_
 ·exact bK h1 fun x2 hx2 h3=>gA 3 E<|eo_o E (Khp hΓ (enc:=Kus) hx2 E E E E E (fun _=>E))<|gO 1 E<|Kqf hΓ E E E E E E E E Z<|Kil [.box 47 [I x2.Kind,S x2.Name,S x2.Op,I x2.Value.Kind,I x2.Value.Number,S x2.Value.Words,I x2.Value.Version.1,I x2.Value.Version.2.1,I x2.Value.Version.2.2.1,I x2.Value.Version.2.2.2,.d (.ro x2.Kids.n x2.Kids.xs)]] E<|gO 4 E<|oSi h3▸gP E E
 ·refine gA 1 E<|Kiu l hq8 (fun i5 s6=>[(0,I kind),(4,.ptr 0 0),(5,.ptr 2 0),(16,.d (Sl Kus l)),(17,I (l.length:Int)),(18,I (i5:Int))]) (fun s6=>[.box 47 [I 0,S [],S [],I 0,I 0,S [],I 0,I 0,I 0,I 0,.d (.ro (KD.mk 0 []).n (KD.mk 0 []).xs)],rO 47 11 Kus s6,.box 47 [I kind,S [],S [],I 0,I 0,S [],I 0,I 0,I 0,I 0,.sl 1 s6.length]]) ⟨⟨E,E,E,E,E,E,tV⟩,[],E,.inl E⟩ (fun i5 x7 s6 y15 hx12 hlt hy13=>?_) (?_)
  ·refine gA 6 E<|Kgz E (dT (Int.ofNat_lt.2 hlt))<|gA 6 E<|eo_o E (Khp hΓ (enc:=Kus) (Khi hx12) E E E E E (fun _=>E))<|gO 1 E<|Kqa hΓ E E E Z<|Kqf hΓ E E E E E E E E Z<|Kil [.box 47 [I 0,S [],S [],I 0,I 0,S [],I 0,I 0,I 0,I 0,.d (.ro (KD.mk 0 []).n (KD.mk 0 []).xs)],rO 47 11 Kus s6,.box 47 [I kind,S [],S [],I 0,I 0,S [],I 0,I 0,I 0,I 0,.sl 1 s6.length],.box 47 [I x7.Kind,S x7.Name,S x7.Op,I x7.Value.Kind,I x7.Value.Number,S x7.Value.Words,I x7.Value.Version.1,I x7.Value.Version.2.1,I x7.Value.Version.2.2.1,I x7.Value.Version.2.2.2,.d (.ro x7.Kids.n x7.Kids.xs)]] E<|gO 10 E<|jC E hy13 (fun h16=>?_) fun h21=>gA 4 E<|Khz hΓ (enc:=Kus) [x7] E E E E E E E E E E E E Z<|bK h21 fun y22 hy22 h23=>Kln 1 [.box 47 [I 0,S [],S [],I 0,I 0,S [],I 0,I 0,I 0,I 0,.d (.ro (KD.mk 0 []).n (KD.mk 0 []).xs)],rO 47 11 Kus s6,.box 47 [I kind,S [],S [],I 0,I 0,S [],I 0,I 0,I 0,I 0,.junk],.box 47 [I x7.Kind,S x7.Name,S x7.Op,I x7.Value.Kind,I x7.Value.Number,S x7.Value.Words,I x7.Value.Version.1,I x7.Value.Version.2.1,I x7.Value.Version.2.2.1,I x7.Value.Version.2.2.2,.d (.ro x7.Kids.n x7.Kids.xs)]] E Z<|Kim hΓ (enc:=Kus) hy22 E E E E E E E E E (fun _=>E) E E E E<|gO 1 E<|Kqf hΓ E E E E E E E E Z<|Kil [.box 47 [I 0,S [],S [],I 0,I 0,S [],I 0,I 0,I 0,I 0,.d (.ro (KD.mk 0 []).n (KD.mk 0 []).xs)],rO 47 11 Kus y22,.box 47 [I kind,S [],S [],I 0,I 0,S [],I 0,I 0,I 0,I 0,.sl 1 y22.length],.box 47 [I x7.Kind,S x7.Name,S x7.Op,I x7.Value.Kind,I x7.Value.Number,S x7.Value.Words,I x7.Value.Version.1,I x7.Value.Version.2.1,I x7.Value.Version.2.2.1,I x7.Value.Version.2.2.2,.d (.ro x7.Kids.n x7.Kids.xs)]] E<|gO 7 E ?_
   ·refine bK h16 fun l17 hl17 h18=>gA 4 E<|eo_o E (Kmi (Kpn hΓ (g:=.d (.ro x7.Kids.n x7.Kids.xs)) E) (G.Le.unk Kxu hl17))<|bK h18 fun y19 hy19 h20=>Kln 1 [.box 47 [I 0,S [],S [],I 0,I 0,S [],I 0,I 0,I 0,I 0,.d (.ro (KD.mk 0 []).n (KD.mk 0 []).xs)],rO 47 11 Kus s6,.box 47 [I kind,S [],S [],I 0,I 0,S [],I 0,I 0,I 0,I 0,.junk],.box 47 [I x7.Kind,S x7.Name,S x7.Op,I x7.Value.Kind,I x7.Value.Number,S x7.Value.Words,I x7.Value.Version.1,I x7.Value.Version.2.1,I x7.Value.Version.2.2.1,I x7.Value.Version.2.2.2,.d (.ro x7.Kids.n x7.Kids.xs)]] E Z<|Kim hΓ (enc:=Kus) hy19 E E E E E E E E E (fun _=>E) E E E E<|gO 1 E<|Kqf hΓ E E E E E E E E Z<|Kil [.box 47 [I 0,S [],S [],I 0,I 0,S [],I 0,I 0,I 0,I 0,.d (.ro (KD.mk 0 []).n (KD.mk 0 []).xs)],rO 47 11 Kus y19,.box 47 [I kind,S [],S [],I 0,I 0,S [],I 0,I 0,I 0,I 0,.sl 1 y19.length],.box 47 [I x7.Kind,S x7.Name,S x7.Op,I x7.Value.Kind,I x7.Value.Number,S x7.Value.Words,I x7.Value.Version.1,I x7.Value.Version.2.1,I x7.Value.Version.2.2.1,I x7.Value.Version.2.2.2,.d (.ro x7.Kids.n x7.Kids.xs)]] E<|gO 7 E ?_
    cases h20
    exact⟨⟨E,E,E,E,E,Kgc E (Kgb (nLl hlt hb11)),tV⟩,[_],E,.inr ⟨HB.mk E,FB.mk E,Z⟩⟩
   cases h23
   exact⟨⟨E,E,E,E,E,Kgc E (Kgb (nLl hlt hb11)),tV⟩,[_],E,.inr ⟨HB.mk E,FB.mk E,Z⟩⟩
  exact gA 6 E<|Kha E (dF (Int.lt_irrefl _))<|gA 4 E<|⟨⟨E,E,tV⟩,[],E,.inl E⟩
 exact gA 4 E<|Kij 1 [39] _ [.box 47 [I 0,S [],S [],I 0,I 0,S [],I 0,I 0,I 0,I 0,.d (.ro (KD.mk 0 []).n (KD.mk 0 []).xs)],.dead,.box 47 [I kind,S [],S [],I 0,I 0,S [],I 0,I 0,I 0,I 0,.d (.ro (pk Kus q8).n (pk Kus q8).xs)]] E E E Z<|Kqf hΓ E E E E E E E E Z<|Kil [.box 47 [I kind,S [],S [],I 0,I 0,S [],I 0,I 0,I 0,I 0,.d (.ro (pk Kus q8).n (pk Kus q8).xs)],.dead,.box 47 [I kind,S [],S [],I 0,I 0,S [],I 0,I 0,I 0,I 0,.d (.ro (pk Kus q8).n (pk Kus q8).xs)]] E<|gO 3 E<|oSi h9▸gP E E
theorem Kyr{rc_posture_parser_cond:Kuu→Option (Kur×Kuu)}(ih_posture_parser_cond:∀ {p:Kuu} {r:Kur×Kuu},rc_posture_parser_cond p=some r→EC Tryz.prog 94 [.ptr 0 0] [.box 130 [S p.s,S p.tok.kind,I p.tok.v_at,I p.tok.v_end,S p.tok.name,I p.tok.value.Kind,I p.tok.value.Number,S p.tok.value.Words,I p.tok.value.Version.1,I p.tok.value.Version.2.1,I p.tok.value.Version.2.2.1,I p.tok.value.Version.2.2.2,B p.bad,I p.v_at]] fun g hp'=>g=.agg [I r.1.Kind,S r.1.Name,S r.1.Op,I r.1.Value.Kind,I r.1.Value.Number,S r.1.Value.Words,I r.1.Value.Version.1,I r.1.Value.Version.2.1,I r.1.Value.Version.2.2.1,I r.1.Value.Version.2.2.2,.d (.ro r.1.Kids.n r.1.Kids.xs)]∧hp'=[.box 130 [S r.2.s,S r.2.tok.kind,I r.2.tok.v_at,I r.2.tok.v_end,S r.2.tok.name,I r.2.tok.value.Kind,I r.2.tok.value.Number,S r.2.tok.value.Words,I r.2.tok.value.Version.1,I r.2.tok.value.Version.2.1,I r.2.tok.value.Version.2.2.1,I r.2.tok.value.Version.2.2.2,B r.2.bad,I r.2.v_at]]){k:Nat}{p:Kuu}{r:Kur×Kuu}(h:Kxp rc_posture_parser_cond k p=some r):EC Tryz.prog 132 [.ptr 0 0] [.box 130 [S p.s,S p.tok.kind,I p.tok.v_at,I p.tok.v_end,S p.tok.name,I p.tok.value.Kind,I p.tok.value.Number,S p.tok.value.Words,I p.tok.value.Version.1,I p.tok.value.Version.2.1,I p.tok.value.Version.2.2.1,I p.tok.value.Version.2.2.2,B p.bad,I p.v_at]] fun g hp'=>g=.agg [I r.1.Kind,S r.1.Name,S r.1.Op,I r.1.Value.Kind,I r.1.Value.Number,S r.1.Value.Words,I r.1.Value.Version.1,I r.1.Value.Version.2.1,I r.1.Value.Version.2.2.1,I r.1.Value.Version.2.2.2,.d (.ro r.1.Kids.n r.1.Kids.xs)]∧hp'=[.box 130 [S r.2.s,S r.2.tok.kind,I r.2.tok.v_at,I r.2.tok.v_end,S r.2.tok.name,I r.2.tok.value.Kind,I r.2.tok.value.Number,S r.2.tok.value.Words,I r.2.tok.value.Version.1,I r.2.tok.value.Version.2.1,I r.2.tok.value.Version.2.2.1,I r.2.tok.value.Version.2.2.2,B r.2.bad,I r.2.v_at]]:=by
 unfold Kxp at h
 refine QN Tryz.func132 E Z<|gA 2 E<|Kqa hΓ E E E Z<|bK h fun y1 hy1 h2=>gO 5 E<|Kid [0] (.agg [I y1.1.Kind,S y1.1.Name,S y1.1.Op,I y1.1.Value.Kind,I y1.1.Value.Number,S y1.1.Value.Words,I y1.1.Value.Version.1,I y1.1.Value.Version.2.1,I y1.1.Value.Version.2.2.1,I y1.1.Value.Version.2.2.2,.d (.ro y1.1.Kids.n y1.1.Kids.xs)]) [.box 130 [S y1.2.s,S y1.2.tok.kind,I y1.2.tok.v_at,I y1.2.tok.v_end,S y1.2.tok.name,I y1.2.tok.value.Kind,I y1.2.tok.value.Number,S y1.2.tok.value.Words,I y1.2.tok.value.Version.1,I y1.2.tok.value.Version.2.1,I y1.2.tok.value.Version.2.2.1,I y1.2.tok.value.Version.2.2.2,B y1.2.bad,I y1.2.v_at],.box 47 [I 0,S [],S [],I 0,I 0,S [],I 0,I 0,I 0,I 0,.d (.ro (KD.mk 0 []).n (KD.mk 0 []).xs)]] C (Kyp ih_posture_parser_cond hy1) E Z E E E E E E E E E E<|Kia hΓ (enc:=Kus) [y1.1] E E E E E E E E E E E E Z<|gO 4 E<|bK h2 fun q6 hq6 h7=>Kku [(2,.ptr 1 0),(3,.sl 2 q6.2.length)] [.box 130 [S q6.1.s,S q6.1.tok.kind,I q6.1.tok.v_at,I q6.1.tok.v_end,S q6.1.tok.name,I q6.1.tok.value.Kind,I q6.1.tok.value.Number,S q6.1.tok.value.Words,I q6.1.tok.value.Version.1,I q6.1.tok.value.Version.2.1,I q6.1.tok.value.Version.2.2.1,I q6.1.tok.value.Version.2.2.2,B q6.1.bad,I q6.1.v_at],.box 47 [I 0,S [],S [],I 0,I 0,S [],I 0,I 0,I 0,I 0,.d (.ro (KD.mk 0 []).n (KD.mk 0 []).xs)],rO 47 11 Kus q6.2] ?_ ?_
 ·refine gA 1 E<|Khl hq6 (fun s4=>[(0,.ptr 0 0),(2,.ptr 1 0),(3,.sl 2 s4.2.length)]) (fun s4=>[.box 130 [S s4.1.s,S s4.1.tok.kind,I s4.1.tok.v_at,I s4.1.tok.v_end,S s4.1.tok.name,I s4.1.tok.value.Kind,I s4.1.tok.value.Number,S s4.1.tok.value.Words,I s4.1.tok.value.Version.1,I s4.1.tok.value.Version.2.1,I s4.1.tok.value.Version.2.2.1,I s4.1.tok.value.Version.2.2.2,B s4.1.bad,I s4.1.v_at],.box 47 [I 0,S [],S [],I 0,I 0,S [],I 0,I 0,I 0,I 0,.d (.ro (KD.mk 0 []).n (KD.mk 0 []).xs)],rO 47 11 Kus s4.2]) ⟨⟨E,E,E,tV⟩,[],E,.inl E⟩ (fun s4 y12 hy10 hout11=>?_)
  refine gA 9 E<|Khe 7 [(0,.ptr 0 0),(2,.ptr 1 0),(3,.sl 2 s4.2.length),(19,B ((!s4.1.bad)&&((s4.1.tok.kind:Str)==[38,38])))] [.box 130 [S s4.1.s,S s4.1.tok.kind,I s4.1.tok.v_at,I s4.1.tok.v_end,S s4.1.tok.name,I s4.1.tok.value.Kind,I s4.1.tok.value.Number,S s4.1.tok.value.Words,I s4.1.tok.value.Version.1,I s4.1.tok.value.Version.2.1,I s4.1.tok.value.Version.2.2.1,I s4.1.tok.value.Version.2.2.2,B s4.1.bad,I s4.1.v_at],.box 47 [I 0,S [],S [],I 0,I 0,S [],I 0,I 0,I 0,I 0,.d (.ro (KD.mk 0 []).n (KD.mk 0 []).xs)],rO 47 11 Kus s4.2] ?_ ?_
  ·refine Kot E E (fun hb=>?_) (fun hb=>?_)
   ·exact gO 8 E<|⟨⟨E,E,E,Kgd E (Kiy hb),tV⟩,[],E,.inl E⟩
   exact gO 8 E<|⟨⟨E,E,E,Kgd E (Kiz hb),tV⟩,[],E,.inl E⟩
  refine gO 2 E<|jC E hy10 (fun h13=>?_) fun h20=>gA 4 E ?_
  ·exact bK h13 fun y14 hy14 h15=>gA 6 E<|Kid [0] (.tup []) [.box 130 [S y14.s,S y14.tok.kind,I y14.tok.v_at,I y14.tok.v_end,S y14.tok.name,I y14.tok.value.Kind,I y14.tok.value.Number,S y14.tok.value.Words,I y14.tok.value.Version.1,I y14.tok.value.Version.2.1,I y14.tok.value.Version.2.2.1,I y14.tok.value.Version.2.2.2,B y14.bad,I y14.v_at],.box 47 [I 0,S [],S [],I 0,I 0,S [],I 0,I 0,I 0,I 0,.d (.ro (KD.mk 0 []).n (KD.mk 0 []).xs)],rO 47 11 Kus s4.2] C (Kym hy14) E Z E E E E E E E E E E<|bK h15 fun y16 hy16 h17=>gO 5 E<|Kid [0] (.agg [I y16.1.Kind,S y16.1.Name,S y16.1.Op,I y16.1.Value.Kind,I y16.1.Value.Number,S y16.1.Value.Words,I y16.1.Value.Version.1,I y16.1.Value.Version.2.1,I y16.1.Value.Version.2.2.1,I y16.1.Value.Version.2.2.2,.d (.ro y16.1.Kids.n y16.1.Kids.xs)]) [.box 130 [S y16.2.s,S y16.2.tok.kind,I y16.2.tok.v_at,I y16.2.tok.v_end,S y16.2.tok.name,I y16.2.tok.value.Kind,I y16.2.tok.value.Number,S y16.2.tok.value.Words,I y16.2.tok.value.Version.1,I y16.2.tok.value.Version.2.1,I y16.2.tok.value.Version.2.2.1,I y16.2.tok.value.Version.2.2.2,B y16.2.bad,I y16.2.v_at],.box 47 [I 0,S [],S [],I 0,I 0,S [],I 0,I 0,I 0,I 0,.d (.ro (KD.mk 0 []).n (KD.mk 0 []).xs)],rO 47 11 Kus s4.2] C (Kyp ih_posture_parser_cond hy16) E Z E E E E E E E E E E<|Khz hΓ (enc:=Kus) [y16.1] E E E E E E E E E E E E Z<|bK h17 fun y18 hy18 h19=>Kim hΓ (enc:=Kus) hy18 E E E E E E E E E (fun _=>E) E E E E<|gO 3 E<|oSi h19▸⟨_,E,⟨⟨E,E,E,tV⟩,[],E,.inl E⟩⟩
  cases h20
  obtain rfl:=hout11 _ rfl
  exact⟨⟨E,E,tV⟩,[],E,.inl E⟩
 exact bK h7 fun y21 hy21 h22=>gA 4 E<|Kij 2 [3,27] _ [.box 130 [S q6.1.s,S q6.1.tok.kind,I q6.1.tok.v_at,I q6.1.tok.v_end,S q6.1.tok.name,I q6.1.tok.value.Kind,I q6.1.tok.value.Number,S q6.1.tok.value.Words,I q6.1.tok.value.Version.1,I q6.1.tok.value.Version.2.1,I q6.1.tok.value.Version.2.2.1,I q6.1.tok.value.Version.2.2.2,B q6.1.bad,I q6.1.v_at],.box 47 [I 0,S [],S [],I 0,I 0,S [],I 0,I 0,I 0,I 0,.d (.ro (KD.mk 0 []).n (KD.mk 0 []).xs)],.dead] E E E Z<|Kie C (Kyq hy21) E Z E E E E E<|Kqf hΓ E E E E E E E E Z<|Kil [.box 130 [S q6.1.s,S q6.1.tok.kind,I q6.1.tok.v_at,I q6.1.tok.v_end,S q6.1.tok.name,I q6.1.tok.value.Kind,I q6.1.tok.value.Number,S q6.1.tok.value.Words,I q6.1.tok.value.Version.1,I q6.1.tok.value.Version.2.1,I q6.1.tok.value.Version.2.2.1,I q6.1.tok.value.Version.2.2.2,B q6.1.bad,I q6.1.v_at],.box 47 [I y21.Kind,S y21.Name,S y21.Op,I y21.Value.Kind,I y21.Value.Number,S y21.Value.Words,I y21.Value.Version.1,I y21.Value.Version.2.1,I y21.Value.Version.2.2.1,I y21.Value.Version.2.2.2,.d (.ro y21.Kids.n y21.Kids.xs)],.dead] E<|gO 3 E<|oSi h22▸Kis hΓ [_,_] (.inr E) E E E E (.inr ⟨HB.mk E,E⟩)
theorem Kys{k:Nat}{p:Kuu}{r:Kur×Kuu}(h:Kxq k p=some r):EC Tryz.prog 94 [.ptr 0 0] [.box 130 [S p.s,S p.tok.kind,I p.tok.v_at,I p.tok.v_end,S p.tok.name,I p.tok.value.Kind,I p.tok.value.Number,S p.tok.value.Words,I p.tok.value.Version.1,I p.tok.value.Version.2.1,I p.tok.value.Version.2.2.1,I p.tok.value.Version.2.2.2,B p.bad,I p.v_at]] fun g hp'=>g=.agg [I r.1.Kind,S r.1.Name,S r.1.Op,I r.1.Value.Kind,I r.1.Value.Number,S r.1.Value.Words,I r.1.Value.Version.1,I r.1.Value.Version.2.1,I r.1.Value.Version.2.2.1,I r.1.Value.Version.2.2.2,.d (.ro r.1.Kids.n r.1.Kids.xs)]∧hp'=[.box 130 [S r.2.s,S r.2.tok.kind,I r.2.tok.v_at,I r.2.tok.v_end,S r.2.tok.name,I r.2.tok.value.Kind,I r.2.tok.value.Number,S r.2.tok.value.Words,I r.2.tok.value.Version.1,I r.2.tok.value.Version.2.1,I r.2.tok.value.Version.2.2.1,I r.2.tok.value.Version.2.2.2,B r.2.bad,I r.2.v_at]]:=by
 induction k generalizing p r with
 | zero=>unfold Kxq at h;cases h
 | succ k ih0=>
  have ih:∀ {p:Kuu} {r:Kur×Kuu},Kxq k p=some r→EC Tryz.prog 94 [.ptr 0 0] [.box 130 [S p.s,S p.tok.kind,I p.tok.v_at,I p.tok.v_end,S p.tok.name,I p.tok.value.Kind,I p.tok.value.Number,S p.tok.value.Words,I p.tok.value.Version.1,I p.tok.value.Version.2.1,I p.tok.value.Version.2.2.1,I p.tok.value.Version.2.2.2,B p.bad,I p.v_at]] fun g hp'=>g=.agg [I r.1.Kind,S r.1.Name,S r.1.Op,I r.1.Value.Kind,I r.1.Value.Number,S r.1.Value.Words,I r.1.Value.Version.1,I r.1.Value.Version.2.1,I r.1.Value.Version.2.2.1,I r.1.Value.Version.2.2.2,.d (.ro r.1.Kids.n r.1.Kids.xs)]∧hp'=[.box 130 [S r.2.s,S r.2.tok.kind,I r.2.tok.v_at,I r.2.tok.v_end,S r.2.tok.name,I r.2.tok.value.Kind,I r.2.tok.value.Number,S r.2.tok.value.Words,I r.2.tok.value.Version.1,I r.2.tok.value.Version.2.1,I r.2.tok.value.Version.2.2.1,I r.2.tok.value.Version.2.2.2,B r.2.bad,I r.2.v_at]]:=by intro p r h;first | exact ih0 h | exact ih0 _ _ h
  refine Kol (Fr.of 0 _) Tryz.func94 E (Fr.of_ok _) Z fun _=>?_
  refine Kgx ?_
  unfold Kxq at h
  refine gA 2 E ?_
  refine Kqa hΓ E E E Z ?_
  obtain⟨y1,hy1,h2⟩:=Khf h
  refine gO 5 E ?_
  refine Kid [0] (.agg [I y1.1.Kind,S y1.1.Name,S y1.1.Op,I y1.1.Value.Kind,I y1.1.Value.Number,S y1.1.Value.Words,I y1.1.Value.Version.1,I y1.1.Value.Version.2.1,I y1.1.Value.Version.2.2.1,I y1.1.Value.Version.2.2.2,.d (.ro y1.1.Kids.n y1.1.Kids.xs)]) [.box 130 [S y1.2.s,S y1.2.tok.kind,I y1.2.tok.v_at,I y1.2.tok.v_end,S y1.2.tok.name,I y1.2.tok.value.Kind,I y1.2.tok.value.Number,S y1.2.tok.value.Words,I y1.2.tok.value.Version.1,I y1.2.tok.value.Version.2.1,I y1.2.tok.value.Version.2.2.1,I y1.2.tok.value.Version.2.2.2,B y1.2.bad,I y1.2.v_at],.box 47 [I 0,S [],S [],I 0,I 0,S [],I 0,I 0,I 0,I 0,.d (.ro (KD.mk 0 []).n (KD.mk 0 []).xs)]] C (Kyr ih hy1) E Z E E E E E E E E E E ?_
  refine Kia hΓ (enc:=Kus) [y1.1] E E E E E E E E E E E E Z ?_
  refine gO 4 E ?_
  obtain⟨q6,hq6,h7⟩:=Khf h2
  refine Kku [(2,.ptr 1 0),(3,.sl 2 q6.2.length)] [.box 130 [S q6.1.s,S q6.1.tok.kind,I q6.1.tok.v_at,I q6.1.tok.v_end,S q6.1.tok.name,I q6.1.tok.value.Kind,I q6.1.tok.value.Number,S q6.1.tok.value.Words,I q6.1.tok.value.Version.1,I q6.1.tok.value.Version.2.1,I q6.1.tok.value.Version.2.2.1,I q6.1.tok.value.Version.2.2.2,B q6.1.bad,I q6.1.v_at],.box 47 [I 0,S [],S [],I 0,I 0,S [],I 0,I 0,I 0,I 0,.d (.ro (KD.mk 0 []).n (KD.mk 0 []).xs)],rO 47 11 Kus q6.2] ?_ ?_
  ·refine gA 1 E ?_
   refine Khl hq6 (fun s4=>[(0,.ptr 0 0),(2,.ptr 1 0),(3,.sl 2 s4.2.length)]) (fun s4=>[.box 130 [S s4.1.s,S s4.1.tok.kind,I s4.1.tok.v_at,I s4.1.tok.v_end,S s4.1.tok.name,I s4.1.tok.value.Kind,I s4.1.tok.value.Number,S s4.1.tok.value.Words,I s4.1.tok.value.Version.1,I s4.1.tok.value.Version.2.1,I s4.1.tok.value.Version.2.2.1,I s4.1.tok.value.Version.2.2.2,B s4.1.bad,I s4.1.v_at],.box 47 [I 0,S [],S [],I 0,I 0,S [],I 0,I 0,I 0,I 0,.d (.ro (KD.mk 0 []).n (KD.mk 0 []).xs)],rO 47 11 Kus s4.2]) ⟨⟨E,E,E,tV⟩,[],E,.inl E⟩ (fun s4 y12 hy10 hout11=>?_)
   refine gA 9 E ?_
   refine Khe 7 [(0,.ptr 0 0),(2,.ptr 1 0),(3,.sl 2 s4.2.length),(19,B ((!s4.1.bad)&&((s4.1.tok.kind:Str)==[124,124])))] [.box 130 [S s4.1.s,S s4.1.tok.kind,I s4.1.tok.v_at,I s4.1.tok.v_end,S s4.1.tok.name,I s4.1.tok.value.Kind,I s4.1.tok.value.Number,S s4.1.tok.value.Words,I s4.1.tok.value.Version.1,I s4.1.tok.value.Version.2.1,I s4.1.tok.value.Version.2.2.1,I s4.1.tok.value.Version.2.2.2,B s4.1.bad,I s4.1.v_at],.box 47 [I 0,S [],S [],I 0,I 0,S [],I 0,I 0,I 0,I 0,.d (.ro (KD.mk 0 []).n (KD.mk 0 []).xs)],rO 47 11 Kus s4.2] ?_ ?_
   ·refine Kot E E (fun hb=>?_) (fun hb=>?_)
    ·refine gO 8 E ?_
     exact⟨⟨E,E,E,Kgd E (Kiy hb),tV⟩,[],E,.inl E⟩
    refine gO 8 E ?_
    exact⟨⟨E,E,E,Kgd E (Kiz hb),tV⟩,[],E,.inl E⟩
   refine gO 2 E ?_
   refine Kgy E (fun hb=>?_) (fun hb=>?_)
   ·have h13:=cT hy10 hb
    obtain⟨y14,hy14,h15⟩:=Khf h13
    refine gA 6 E ?_
    refine Kid [0] (.tup []) [.box 130 [S y14.s,S y14.tok.kind,I y14.tok.v_at,I y14.tok.v_end,S y14.tok.name,I y14.tok.value.Kind,I y14.tok.value.Number,S y14.tok.value.Words,I y14.tok.value.Version.1,I y14.tok.value.Version.2.1,I y14.tok.value.Version.2.2.1,I y14.tok.value.Version.2.2.2,B y14.bad,I y14.v_at],.box 47 [I 0,S [],S [],I 0,I 0,S [],I 0,I 0,I 0,I 0,.d (.ro (KD.mk 0 []).n (KD.mk 0 []).xs)],rO 47 11 Kus s4.2] C (Kym hy14) E Z E E E E E E E E E E ?_
    obtain⟨y16,hy16,h17⟩:=Khf h15
    refine gO 5 E ?_
    refine Kid [0] (.agg [I y16.1.Kind,S y16.1.Name,S y16.1.Op,I y16.1.Value.Kind,I y16.1.Value.Number,S y16.1.Value.Words,I y16.1.Value.Version.1,I y16.1.Value.Version.2.1,I y16.1.Value.Version.2.2.1,I y16.1.Value.Version.2.2.2,.d (.ro y16.1.Kids.n y16.1.Kids.xs)]) [.box 130 [S y16.2.s,S y16.2.tok.kind,I y16.2.tok.v_at,I y16.2.tok.v_end,S y16.2.tok.name,I y16.2.tok.value.Kind,I y16.2.tok.value.Number,S y16.2.tok.value.Words,I y16.2.tok.value.Version.1,I y16.2.tok.value.Version.2.1,I y16.2.tok.value.Version.2.2.1,I y16.2.tok.value.Version.2.2.2,B y16.2.bad,I y16.2.v_at],.box 47 [I 0,S [],S [],I 0,I 0,S [],I 0,I 0,I 0,I 0,.d (.ro (KD.mk 0 []).n (KD.mk 0 []).xs)],rO 47 11 Kus s4.2] C (Kyr ih hy16) E Z E E E E E E E E E E ?_
    refine Khz hΓ (enc:=Kus) [y16.1] E E E E E E E E E E E E Z ?_
    obtain⟨y18,hy18,h19⟩:=Khf h17
    refine Kim hΓ (enc:=Kus) hy18 E E E E E E E E E (fun _=>E) E E E E ?_
    refine gO 3 E ?_
    obtain rfl:=oSi h19
    exact⟨_,E,⟨⟨E,E,E,tV⟩,[],E,.inl E⟩⟩
   have h20:=cF hy10 hb
   refine gA 4 E ?_
   obtain rfl:=oSi h20
   obtain rfl:=hout11 _ rfl
   exact⟨⟨E,E,tV⟩,[],E,.inl E⟩
  obtain⟨y21,hy21,h22⟩:=Khf h7
  refine gA 4 E ?_
  refine Kij 2 [3,27] _ [.box 130 [S q6.1.s,S q6.1.tok.kind,I q6.1.tok.v_at,I q6.1.tok.v_end,S q6.1.tok.name,I q6.1.tok.value.Kind,I q6.1.tok.value.Number,S q6.1.tok.value.Words,I q6.1.tok.value.Version.1,I q6.1.tok.value.Version.2.1,I q6.1.tok.value.Version.2.2.1,I q6.1.tok.value.Version.2.2.2,B q6.1.bad,I q6.1.v_at],.box 47 [I 0,S [],S [],I 0,I 0,S [],I 0,I 0,I 0,I 0,.d (.ro (KD.mk 0 []).n (KD.mk 0 []).xs)],.dead] E E E Z ?_
  refine Kie C (Kyq hy21) E Z E E E E E ?_
  refine Kqf hΓ E E E E E E E E Z ?_
  refine Kil [.box 130 [S q6.1.s,S q6.1.tok.kind,I q6.1.tok.v_at,I q6.1.tok.v_end,S q6.1.tok.name,I q6.1.tok.value.Kind,I q6.1.tok.value.Number,S q6.1.tok.value.Words,I q6.1.tok.value.Version.1,I q6.1.tok.value.Version.2.1,I q6.1.tok.value.Version.2.2.1,I q6.1.tok.value.Version.2.2.2,B q6.1.bad,I q6.1.v_at],.box 47 [I y21.Kind,S y21.Name,S y21.Op,I y21.Value.Kind,I y21.Value.Number,S y21.Value.Words,I y21.Value.Version.1,I y21.Value.Version.2.1,I y21.Value.Version.2.2.1,I y21.Value.Version.2.2.2,.d (.ro y21.Kids.n y21.Kids.xs)],.dead] E ?_
  refine gO 3 E ?_
  obtain rfl:=oSi h22
  exact Kis hΓ [_,_] (.inr E) E E E E (.inr ⟨HB.mk E,E⟩)
theorem Kyt{k:Nat}{text:Str}{r:Kur×Int×Int}(h:Kxr k text=some r):Pure Tryz.prog 49 [S text] (.tup [.agg [I r.1.Kind,S r.1.Name,S r.1.Op,I r.1.Value.Kind,I r.1.Value.Number,S r.1.Value.Words,I r.1.Value.Version.1,I r.1.Value.Version.2.1,I r.1.Value.Version.2.2.1,I r.1.Value.Version.2.2.2,.d (.ro r.1.Kids.n r.1.Kids.xs)],I r.2.1,I r.2.2]):=by
 unfold Kxr at h
 refine QP Tryz.func49 E E E<|gA 2 E<|Kqa hΓ E E E Z<|gO 12 E<|Kgy E (fun hb=>?_) (fun hb=>?_)
 ·have h1:=cT h hb
  exact gA 2 E<|Kfd hΓ (gs:=[I 0,S [],S [],I 0,I 0,S [],I 0,I 0,I 0,I 0,.d (.ro (KD.mk 0 []).n (KD.mk 0 []).xs)]) E E E E E E E<|Kqf hΓ E E E E E E E E Z<|Kil [.box 47 [I 0,S [],S [],I 0,I 0,S [],I 0,I 0,I 0,I 0,.d (.ro (KD.mk 0 []).n (KD.mk 0 []).xs)]] E<|gO 6 E<|oSi h1▸gP E E
 have h2:=cF h hb
 refine gA 5 E<|Kfd hΓ (gs:=[S text,S [],I 0,I 0,S [],I 0,I 0,S [],I 0,I 0,I 0,I 0,B false,I 0]) E E E E E E E<|Kqb E E E E Z<|bK h2 fun y3 hy3 h4=>gO 6 E<|Kid [1] (.tup []) [.box 47 [I 0,S [],S [],I 0,I 0,S [],I 0,I 0,I 0,I 0,.d (.ro (KD.mk 0 []).n (KD.mk 0 []).xs)],.box 130 [S y3.s,S y3.tok.kind,I y3.tok.v_at,I y3.tok.v_end,S y3.tok.name,I y3.tok.value.Kind,I y3.tok.value.Number,S y3.tok.value.Words,I y3.tok.value.Version.1,I y3.tok.value.Version.2.1,I y3.tok.value.Version.2.2.1,I y3.tok.value.Version.2.2.2,B y3.bad,I y3.v_at]] C (Kym hy3) E Z E E E E E E E E E E<|bK h4 fun y5 hy5 h6=>gO 5 E<|Kid [1] (.agg [I y5.1.Kind,S y5.1.Name,S y5.1.Op,I y5.1.Value.Kind,I y5.1.Value.Number,S y5.1.Value.Words,I y5.1.Value.Version.1,I y5.1.Value.Version.2.1,I y5.1.Value.Version.2.2.1,I y5.1.Value.Version.2.2.2,.d (.ro y5.1.Kids.n y5.1.Kids.xs)]) [.box 47 [I 0,S [],S [],I 0,I 0,S [],I 0,I 0,I 0,I 0,.d (.ro (KD.mk 0 []).n (KD.mk 0 []).xs)],.box 130 [S y5.2.s,S y5.2.tok.kind,I y5.2.tok.v_at,I y5.2.tok.v_end,S y5.2.tok.name,I y5.2.tok.value.Kind,I y5.2.tok.value.Number,S y5.2.tok.value.Words,I y5.2.tok.value.Version.1,I y5.2.tok.value.Version.2.1,I y5.2.tok.value.Version.2.2.1,I y5.2.tok.value.Version.2.2.2,B y5.2.bad,I y5.2.v_at]] C (Kys hy5) E Z E E E E E E E E E E<|Kqa hΓ E E E Z<|Kqf hΓ E E E E E E E E Z<|Kil [.box 47 [I 0,S [],S [],I 0,I 0,S [],I 0,I 0,I 0,I 0,.d (.ro (KD.mk 0 []).n (KD.mk 0 []).xs)],.box 130 [S y5.2.s,S y5.2.tok.kind,I y5.2.tok.v_at,I y5.2.tok.v_end,S y5.2.tok.name,I y5.2.tok.value.Kind,I y5.2.tok.value.Number,S y5.2.tok.value.Words,I y5.2.tok.value.Version.1,I y5.2.tok.value.Version.2.1,I y5.2.tok.value.Version.2.2.1,I y5.2.tok.value.Version.2.2.2,B y5.2.bad,I y5.2.v_at],.box 47 [I y5.1.Kind,S y5.1.Name,S y5.1.Op,I y5.1.Value.Kind,I y5.1.Value.Number,S y5.1.Value.Words,I y5.1.Value.Version.1,I y5.1.Value.Version.2.1,I y5.1.Value.Version.2.2.1,I y5.1.Value.Version.2.2.2,.d (.ro y5.1.Kids.n y5.1.Kids.xs)]] E<|gO 11 E<|Khe 7 [(2,.ptr 0 0),(5,.ptr 1 0),(6,.ptr 2 0),(31,B ((!y5.2.bad)&&(!((y5.2.tok.kind:Str)==[101,110,100]))))] [.box 47 [I 0,S [],S [],I 0,I 0,S [],I 0,I 0,I 0,I 0,.d (.ro (KD.mk 0 []).n (KD.mk 0 []).xs)],.box 130 [S y5.2.s,S y5.2.tok.kind,I y5.2.tok.v_at,I y5.2.tok.v_end,S y5.2.tok.name,I y5.2.tok.value.Kind,I y5.2.tok.value.Number,S y5.2.tok.value.Words,I y5.2.tok.value.Version.1,I y5.2.tok.value.Version.2.1,I y5.2.tok.value.Version.2.2.1,I y5.2.tok.value.Version.2.2.2,B y5.2.bad,I y5.2.v_at],.box 47 [I y5.1.Kind,S y5.1.Name,S y5.1.Op,I y5.1.Value.Kind,I y5.1.Value.Number,S y5.1.Value.Words,I y5.1.Value.Version.1,I y5.1.Value.Version.2.1,I y5.1.Value.Version.2.2.1,I y5.1.Value.Version.2.2.2,.d (.ro y5.1.Kids.n y5.1.Kids.xs)]] ?_ ?_
 ·refine Kot E E (fun hb=>?_) (fun hb=>?_)
  ·exact gO 8 E<|⟨⟨E,E,E,Kgd E (Kiy hb),tV⟩,[],E,.inl E⟩
  exact gO 8 E<|⟨⟨E,E,E,Kgd E (Kiz hb),tV⟩,[],E,.inl E⟩
 refine bK h6 fun q7 hq7 h8=>gO 2 E<|Kku [(2,.ptr 0 0),(5,.ptr 1 0),(6,.ptr 2 0)] [.box 47 [I 0,S [],S [],I 0,I 0,S [],I 0,I 0,I 0,I 0,.d (.ro (KD.mk 0 []).n (KD.mk 0 []).xs)],.box 130 [S q7.s,S q7.tok.kind,I q7.tok.v_at,I q7.tok.v_end,S q7.tok.name,I q7.tok.value.Kind,I q7.tok.value.Number,S q7.tok.value.Words,I q7.tok.value.Version.1,I q7.tok.value.Version.2.1,I q7.tok.value.Version.2.2.1,I q7.tok.value.Version.2.2.2,B q7.bad,I q7.v_at],.box 47 [I y5.1.Kind,S y5.1.Name,S y5.1.Op,I y5.1.Value.Kind,I y5.1.Value.Number,S y5.1.Value.Words,I y5.1.Value.Version.1,I y5.1.Value.Version.2.1,I y5.1.Value.Version.2.2.1,I y5.1.Value.Version.2.2.2,.d (.ro y5.1.Kids.n y5.1.Kids.xs)]] ?_ ?_
 ·refine jC E hq7 (fun h9=>?_) fun h12=>gA 1 E<|oSi h12▸⟨⟨E,E,E,tV⟩,[],E,.inl E⟩
  exact bK h9 fun y10 hy10 h11=>gA 2 E<|Kid [1] (.agg [I y10.1.Kind,S y10.1.Name,S y10.1.Op,I y10.1.Value.Kind,I y10.1.Value.Number,S y10.1.Value.Words,I y10.1.Value.Version.1,I y10.1.Value.Version.2.1,I y10.1.Value.Version.2.2.1,I y10.1.Value.Version.2.2.2,.d (.ro y10.1.Kids.n y10.1.Kids.xs)]) [.box 47 [I 0,S [],S [],I 0,I 0,S [],I 0,I 0,I 0,I 0,.d (.ro (KD.mk 0 []).n (KD.mk 0 []).xs)],.box 130 [S y10.2.s,S y10.2.tok.kind,I y10.2.tok.v_at,I y10.2.tok.v_end,S y10.2.tok.name,I y10.2.tok.value.Kind,I y10.2.tok.value.Number,S y10.2.tok.value.Words,I y10.2.tok.value.Version.1,I y10.2.tok.value.Version.2.1,I y10.2.tok.value.Version.2.2.1,I y10.2.tok.value.Version.2.2.2,B y10.2.bad,I y10.2.v_at],.box 47 [I y5.1.Kind,S y5.1.Name,S y5.1.Op,I y5.1.Value.Kind,I y5.1.Value.Number,S y5.1.Value.Words,I y5.1.Value.Version.1,I y5.1.Value.Version.2.1,I y5.1.Value.Version.2.2.1,I y5.1.Value.Version.2.2.2,.d (.ro y5.1.Kids.n y5.1.Kids.xs)]] C (Kyn hy10) E Z E E E E E E E E E E<|gO 1 E<|oSi h11▸⟨⟨E,E,E,tV⟩,[],E,.inl E⟩
 refine gA 10 E<|jC E h8 (fun h13=>?_) fun h14=>bK h14 fun y15 hy15 h16=>gA 6 E<|Kie C (Lab hy15) E Z E E E E E<|gO 9 E<|jC E h16 (fun h17=>?_) fun h18=>?_
 ·exact gA 1 E<|Kjy [.dead,.box 130 [S q7.s,S q7.tok.kind,I q7.tok.v_at,I q7.tok.v_end,S q7.tok.name,I q7.tok.value.Kind,I q7.tok.value.Number,S q7.tok.value.Words,I q7.tok.value.Version.1,I q7.tok.value.Version.2.1,I q7.tok.value.Version.2.2.1,I q7.tok.value.Version.2.2.2,B q7.bad,I q7.v_at]] [4] [5] [] hmix (by kernel_rfl) (by kernel_rfl) ⟨E,tV⟩ Z<|ge_q E (.inl E) (fun _ _=>Kka (qt_p (Kkk hΓ (gs:=[I 0,S [],S [],I 0,I 0,S [],I 0,I 0,I 0,I 0,.d (.ro (KD.mk 0 []).n (KD.mk 0 []).xs)]) E E E E E E)))<|go_E hΓ 4 E<|Kkc [.box 47 [I 0,S [],S [],I 0,I 0,S [],I 0,I 0,I 0,I 0,.d (.ro (KD.mk 0 []).n (KD.mk 0 []).xs)],.box 130 [S q7.s,S q7.tok.kind,I q7.tok.v_at,I q7.tok.v_end,S q7.tok.name,I q7.tok.value.Kind,I q7.tok.value.Number,S q7.tok.value.Words,I q7.tok.value.Version.1,I q7.tok.value.Version.2.1,I q7.tok.value.Version.2.2.1,I q7.tok.value.Version.2.2.2,B q7.bad,I q7.v_at],.box 47 [I y5.1.Kind,S y5.1.Name,S y5.1.Op,I y5.1.Value.Kind,I y5.1.Value.Number,S y5.1.Value.Words,I y5.1.Value.Version.1,I y5.1.Value.Version.2.1,I y5.1.Value.Version.2.2.1,I y5.1.Value.Version.2.2.2,.d (.ro y5.1.Kids.n y5.1.Kids.xs)]] E E (Kke ⟨E,tV⟩) (Kkh (Klf hΓ E E E E E E E E E))<|go_E hΓ 2 E<|Kjz<|gA 3 E<|oSi h13▸gP E E
 ·exact gA 2 E<|Kfd hΓ (gs:=[I 0,S [],S [],I 0,I 0,S [],I 0,I 0,I 0,I 0,.d (.ro (KD.mk 0 []).n (KD.mk 0 []).xs)]) E E E E E E E<|gO 1 E<|Kqf hΓ E E E E E E E E Z<|Kil [.box 47 [I 0,S [],S [],I 0,I 0,S [],I 0,I 0,I 0,I 0,.d (.ro (KD.mk 0 []).n (KD.mk 0 []).xs)],.box 130 [S q7.s,S q7.tok.kind,I q7.tok.v_at,I q7.tok.v_end,S q7.tok.name,I q7.tok.value.Kind,I q7.tok.value.Number,S q7.tok.value.Words,I q7.tok.value.Version.1,I q7.tok.value.Version.2.1,I q7.tok.value.Version.2.2.1,I q7.tok.value.Version.2.2.2,B q7.bad,I q7.v_at],.box 47 [I y5.1.Kind,S y5.1.Name,S y5.1.Op,I y5.1.Value.Kind,I y5.1.Value.Number,S y5.1.Value.Words,I y5.1.Value.Version.1,I y5.1.Value.Version.2.1,I y5.1.Value.Version.2.2.1,I y5.1.Value.Version.2.2.2,.d (.ro y5.1.Kids.n y5.1.Kids.xs)]] E<|gO 6 E<|oSi h17▸gP E E
 exact gA 5 E<|Kqf hΓ E E E E E E E E Z<|Kil [.box 47 [I y5.1.Kind,S y5.1.Name,S y5.1.Op,I y5.1.Value.Kind,I y5.1.Value.Number,S y5.1.Value.Words,I y5.1.Value.Version.1,I y5.1.Value.Version.2.1,I y5.1.Value.Version.2.2.1,I y5.1.Value.Version.2.2.2,.d (.ro y5.1.Kids.n y5.1.Kids.xs)],.box 130 [S q7.s,S q7.tok.kind,I q7.tok.v_at,I q7.tok.v_end,S q7.tok.name,I q7.tok.value.Kind,I q7.tok.value.Number,S q7.tok.value.Words,I q7.tok.value.Version.1,I q7.tok.value.Version.2.1,I q7.tok.value.Version.2.2.1,I q7.tok.value.Version.2.2.2,B q7.bad,I q7.v_at],.box 47 [I y5.1.Kind,S y5.1.Name,S y5.1.Op,I y5.1.Value.Kind,I y5.1.Value.Number,S y5.1.Value.Words,I y5.1.Value.Version.1,I y5.1.Value.Version.2.1,I y5.1.Value.Version.2.2.1,I y5.1.Value.Version.2.2.2,.d (.ro y5.1.Kids.n y5.1.Kids.xs)]] E<|gO 5 E<|oSi h18▸gP E E
theorem Kyu{k:Nat}{r:Bool}(h:Kxs k=some r):Pure Tryz.prog 14 [] (B r):=by
 unfold Kxs at h
 refine QP Tryz.func14 E E E<|bK h fun y1 hy1 h2=>gA 7 E<|Kie C (Kyt hy1) E Z E E E E E<|gO 4 E<|Kqa hΓ E E E Z<|Kqf hΓ E E E E E E E E Z<|Kil [.box 47 [I y1.1.Kind,S y1.1.Name,S y1.1.Op,I y1.1.Value.Kind,I y1.1.Value.Number,S y1.1.Value.Words,I y1.1.Value.Version.1,I y1.1.Value.Version.2.1,I y1.1.Value.Version.2.2.1,I y1.1.Value.Version.2.2.2,.d (.ro y1.1.Kids.n y1.1.Kids.xs)]] E<|gO 9 E<|Khe 4 [(0,B false),(1,.ptr 0 0),(15,B (((y1.2.2:Int)==0)&&((y1.1.Kind:Int)==1)))] [.box 47 [I y1.1.Kind,S y1.1.Name,S y1.1.Op,I y1.1.Value.Kind,I y1.1.Value.Number,S y1.1.Value.Words,I y1.1.Value.Version.1,I y1.1.Value.Version.2.1,I y1.1.Value.Version.2.2.1,I y1.1.Value.Version.2.2.2,.d (.ro y1.1.Kids.n y1.1.Kids.xs)]] ?_ ?_
 ·refine Kot E E (fun hb=>?_) (fun hb=>?_)
  ·exact gO 5 E<|⟨⟨E,E,Kgd E (Kiy hb),tV⟩,[],E,.inl E⟩
  exact gO 5 E<|⟨⟨E,E,Kgd E (Kiz hb),tV⟩,[],E,.inl E⟩
 refine gO 1 E<|Khe 4 [(0,B false),(20,B ((((y1.2.2:Int)==0)&&((y1.1.Kind:Int)==1))&&((y1.1.Name:Str)==[97])))] [.box 47 [I y1.1.Kind,S y1.1.Name,S y1.1.Op,I y1.1.Value.Kind,I y1.1.Value.Number,S y1.1.Value.Words,I y1.1.Value.Version.1,I y1.1.Value.Version.2.1,I y1.1.Value.Version.2.2.1,I y1.1.Value.Version.2.2.2,.d (.ro y1.1.Kids.n y1.1.Kids.xs)]] ?_ ?_
 ·refine Kot E E (fun hb=>?_) (fun hb=>?_)
  ·exact gO 5 E<|⟨⟨E,Kgd E (Kiy hb),tV⟩,[],E,.inl E⟩
  exact gO 5 E<|⟨⟨E,Kgd E (Kiz hb),tV⟩,[],E,.inl E⟩
 exact gO 4 E<|oSi h2▸gP E E
theorem Kyv{k:Nat}{l:List Int}{r:Bool}(h:Kxt k l=some r):Pure Tryz.prog 4 [.d (Sl (eN .i64) l)] (B r):=by
 unfold Kxt at h
 refine QP Tryz.func4 E E E<|gA 8 E<|Kfd hΓ (gs:=[.d (Sl (eN .i64) l),I 0]) E E E E E E E<|Kqb E E E E Z<|bK h fun y1 hy1 h2=>gO 6 E<|Kid [0] (.agg [I y1.1.Kind,S y1.1.Name,S y1.1.Op,I y1.1.Value.Kind,I y1.1.Value.Number,S y1.1.Value.Words,I y1.1.Value.Version.1,I y1.1.Value.Version.2.1,I y1.1.Value.Version.2.2.1,I y1.1.Value.Version.2.2.2,.d (.ro y1.1.Kids.n y1.1.Kids.xs)]) [.box 25 (fQ y1.2)] C (Kzl hy1) E Z E E E E E E E E E E<|Kqa hΓ E E E Z<|Kqf hΓ E E E E E E E E Z<|Kil [.box 25 (fQ y1.2),.box 47 [I y1.1.Kind,S y1.1.Name,S y1.1.Op,I y1.1.Value.Kind,I y1.1.Value.Number,S y1.1.Value.Words,I y1.1.Value.Version.1,I y1.1.Value.Version.2.1,I y1.1.Value.Version.2.2.1,I y1.1.Value.Version.2.2.2,.d (.ro y1.1.Kids.n y1.1.Kids.xs)]] E<|bK h2 fun y3 hy3 h4=>gO 5 E<|Kie C (Lah hy3) E Z E E E E E<|bK h4 fun y5 hy5 h6=>gO 10 E<|Kie C (Laj hy5) E Z E E E E E<|bK h6 fun y7 hy7 h8=>gO 10 E<|Kie C (Lax hy7) E Z E E E E E<|bK h8 fun y9 hy9 h10=>gO 7 E<|Kie C (Lab hy9) E Z E E E E E<|gO 3 E<|Khe 4 [(4,.ptr 1 0),(5,S y3.1),(6,I y3.2),(7,.d (Sl eS y5.1)),(9,I y7),(37,B (((y9:Int) != y7)||((y5.2:Int) != y7)))] [.box 25 (fQ y1.2),.box 47 [I y1.1.Kind,S y1.1.Name,S y1.1.Op,I y1.1.Value.Kind,I y1.1.Value.Number,S y1.1.Value.Words,I y1.1.Value.Version.1,I y1.1.Value.Version.2.1,I y1.1.Value.Version.2.2.1,I y1.1.Value.Version.2.2.2,.d (.ro y1.1.Kids.n y1.1.Kids.xs)]] ?_ ?_
 ·refine Kot E E (fun hb=>?_) (fun hb=>?_)
  ·exact gO 5 E<|⟨⟨E,E,E,E,E,Kgd E (or_t hb),tV⟩,[],E,.inl E⟩
  exact gO 5 E<|⟨⟨E,E,E,E,E,Kgd E (or_f hb),tV⟩,[],E,.inl E⟩
 refine gO 2 E<|Kgy E (fun hb=>?_) (fun hb=>?_)
 ·have h11:=cT h10 hb
  exact gA 7 E<|oSi h11▸gP E E
 have h12:=cF h10 hb
 refine bK h12 fun y13 hy13 h14=>gA 5 E<|Kie C (Kxx hy13) E Z E E E E E<|gO 13 E<|Khe 4 [(4,.ptr 1 0),(7,.d (Sl eS y5.1)),(9,I y7),(50,B (((y3.2:Int)==y13.2)&&((y3.1:Str)==y13.1)))] [.box 25 (fQ y1.2),.box 47 [I y1.1.Kind,S y1.1.Name,S y1.1.Op,I y1.1.Value.Kind,I y1.1.Value.Number,S y1.1.Value.Words,I y1.1.Value.Version.1,I y1.1.Value.Version.2.1,I y1.1.Value.Version.2.2.1,I y1.1.Value.Version.2.2.2,.d (.ro y1.1.Kids.n y1.1.Kids.xs)]] ?_ ?_
 ·refine Kot E E (fun hb=>?_) (fun hb=>?_)
  ·exact gO 5 E<|⟨⟨E,E,E,Kgd E (Kiy hb),tV⟩,[],E,.inl E⟩
  exact gO 5 E<|⟨⟨E,E,E,Kgd E (Kiz hb),tV⟩,[],E,.inl E⟩
 refine gO 1 E<|bK h14 fun q15 hq15 h16=>Khe 9 [(60,B q15)] [.box 25 (fQ y1.2),.box 47 [I y1.1.Kind,S y1.1.Name,S y1.1.Op,I y1.1.Value.Kind,I y1.1.Value.Number,S y1.1.Value.Words,I y1.1.Value.Version.1,I y1.1.Value.Version.2.1,I y1.1.Value.Version.2.2.1,I y1.1.Value.Version.2.2.2,.d (.ro y1.1.Kids.n y1.1.Kids.xs)]] ?_ ?_
 ·refine Kot E E (fun hb=>?_) (fun hb=>?_)
  ·have h17:=cT hq15 hb
   refine gO 3 E<|bK h17 fun q18 hq18 h19=>Khe 5 [(51,B true),(59,B q18)] [.box 25 (fQ y1.2),.box 47 [I y1.1.Kind,S y1.1.Name,S y1.1.Op,I y1.1.Value.Kind,I y1.1.Value.Number,S y1.1.Value.Words,I y1.1.Value.Version.1,I y1.1.Value.Version.2.1,I y1.1.Value.Version.2.2.1,I y1.1.Value.Version.2.2.2,.d (.ro y1.1.Kids.n y1.1.Kids.xs)]] ?_ ?_
   ·refine Kot E E (fun hb=>?_) (fun hb=>?_)
    ·have h20:=cT hq18 hb
     exact gO 6 E<|oSi h20▸⟨⟨E,E,tV⟩,[],E,.inl E⟩
    have h21:=cF hq18 hb
    exact bK h21 fun y22 hy22 h23=>gO 2 E<|Kor E<|Kie C (Pure.rows (Kya hy22) E E) E Z E E E E E<|bK h23 fun y24 hy24 h25=>Kor E<|Kie C (Kyb hy24) E Z E E E E E<|gO 2 E<|oSi h25▸⟨⟨E,E,tV⟩,[],E,.inl E⟩
   exact gO 2 E<|oSi h19▸⟨⟨E,tV⟩,[],E,.inl E⟩
  have h26:=cF hq15 hb
  exact gO 10 E<|oSi h26▸⟨⟨E,tV⟩,[],E,.inl E⟩
 refine gO 1 E<|bK h16 fun q27 hq27 h28=>Khe 2 [(63,B q27)] [.box 25 (fQ y1.2),.box 47 [I y1.1.Kind,S y1.1.Name,S y1.1.Op,I y1.1.Value.Kind,I y1.1.Value.Number,S y1.1.Value.Words,I y1.1.Value.Version.1,I y1.1.Value.Version.2.1,I y1.1.Value.Version.2.2.1,I y1.1.Value.Version.2.2.2,.d (.ro y1.1.Kids.n y1.1.Kids.xs)]] ?_ ?_
 ·refine Kot E E (fun hb=>?_) (fun hb=>?_)
  ·have h29:=cT hq27 hb
   exact bK h29 fun y30 hy30 h31=>Kor E<|Kie C (Kyu hy30) E Z E E E E E<|gO 2 E<|oSi h31▸⟨⟨E,tV⟩,[],E,.inl E⟩
  have h32:=cF hq27 hb
  exact gO 3 E<|oSi h32▸⟨⟨E,tV⟩,[],E,.inl E⟩
 exact gO 4 E<|oSi h28▸gP E E
end Go.Proofs.YtmecneoeklldeaaGreatDoor
