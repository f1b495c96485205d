import Derived.Test.YtjmlnnanfkiakaaGreatDoorXLM
import Derived.Test.YtjmlnnanfkiakaaGreatDoorGt
import Derived.Test.YtjmlnnanfkiakaaGreatDoorStrS
import Derived.Test.YtjmlnnanfkiakaaGreatDoorXLW3
set_option maxHeartbeats 8000000
set_option linter.all false
set_option maxRecDepth 100000
namespace Go.Proofs.YtjmlnnanfkiakaaGreatDoor
open Go.Gk
theorem Lkx{k:Nat}{d:Lex}{l:List Ley}{al:BagT}{r:(List Int)×BagT}(h:Lkj k d l al=some r):EC Tryz.prog 169 [.agg (fD d),.d (Sl Lln l)] [bg al] fun g hp'=>g=.sl 1 r.1.length∧hp'=[bg r.2,rO 3 1 (eN .i64) r.1]:=by
 unfold Lkj at h
 refine QM Tryz.func169 E Z<|gA 2 E<|Kqg E E E E Z<|Kdn (t:=0) 3 1 E Z<|gO 4 E<|Kdn (t:=0) 3 1 E Z<|gO 10 E<|bK h fun q4 hq4 h5=>Kcy 1 E fun hb7=>Kgp [(5,.sl 3 q4.2.length)] [bg q4.1,.box 29 (fD d),rO 3 1 (eN .i64) ([]:List Int),rO 3 1 (eN .i64) q4.2] ?_ ?_
 ·refine gA 1 E<|Kee l hq4 (fun i1 s2=>[(1,.d (Sl Lln l)),(2,.ptr 1 0),(5,.sl 3 s2.2.length),(10,.d (Sl Lln l)),(11,I (l.length:Int)),(12,I (i1:Int))]) (fun s2=>[bg s2.1,.box 29 (fD d),rO 3 1 (eN .i64) ([]:List Int),rO 3 1 (eN .i64) s2.2]) ⟨⟨E,E,E,E,E,E,tV⟩,[],E,.inl E⟩ (fun i1 x3 s2 y11 hx8 hlt hy9=>?_) (?_)
  ·refine gA 6 E<|Kcj E (dT (Int.ofNat_lt.2 hlt))<|gA 6 E<|eo_o E (Kcz hΓ (enc:=Lln) (Kcs hx8) E E E E E (fun _=>E))<|gO 1 E<|Kqf hΓ E E E Z<|Kqk hΓ E E E E E E E E Z<|Kdx [bg s2.1,.box 29 (fD d),rO 3 1 (eN .i64) ([]:List Int),rO 3 1 (eN .i64) s2.2,.box 37 (fS x3)] E<|gO 7 E<|Kdk hΓ (enc:=(eN .i64)) [x3.At] E E E E E E E E E E E E Z<|bK hy9 fun y12 hy12 h13=>Kdy hΓ (enc:=(eN .i64)) hy12 E E E E E E E E E (fun _=>E) E E E E<|bK h13 fun y14 hy14 h15=>gO 9 E<|Kdp [0] (.sl 5 y14.1.length) [bg y14.2,.box 29 (fD d),rO 3 1 (eN .i64) ([]:List Int),rO 3 1 (eN .i64) y12,.box 37 (fS x3),rO 77 8 Llr y14.1] C (Lqu hy14) E Z E E E E E E E E E E<|Kdv 5 [25] _ [bg y14.2,.box 29 (fD d),rO 3 1 (eN .i64) ([]:List Int),rO 3 1 (eN .i64) y12,.box 37 (fS x3),.dead] E E E Z<|gO 4 E<|bK h15 fun q19 hq19 h20=>Kcy 25 E fun hb22=>Kgp [(1,.d (Sl Lln l)),(2,.ptr 1 0),(5,.sl 3 q19.length),(10,.d (Sl Lln l)),(11,I (l.length:Int)),(12,I (i1:Int))] [bg y14.2,.box 29 (fD d),rO 3 1 (eN .i64) ([]:List Int),rO 3 1 (eN .i64) q19,.box 37 (fS x3),.dead] ?_ ?_
   ·refine gA 1 E<|Kee y14.1 hq19 (fun i16 s17=>[(1,.d (Sl Lln l)),(2,.ptr 1 0),(5,.sl 3 s17.length),(10,.d (Sl Lln l)),(11,I (l.length:Int)),(12,I (i1:Int)),(25,.d (Sl Llr y14.1)),(26,I (y14.1.length:Int)),(27,I (i16:Int))]) (fun s17=>[bg y14.2,.box 29 (fD d),rO 3 1 (eN .i64) ([]:List Int),rO 3 1 (eN .i64) s17,.box 37 (fS x3),.dead]) ⟨⟨E,E,E,E,E,E,E,E,E,tV⟩,[],E,.inl E⟩ (fun i16 x18 s17 y26 hx23 hlt hy24=>?_) (?_)
    ·refine gA 6 E<|Kcj E (dT (Int.ofNat_lt.2 hlt))<|gA 6 E<|eo_o E (Kcz hΓ (enc:=Llr) (Kcs hx23) E E E E E (fun _=>E))<|gO 1 E<|Kqf hΓ E E E Z<|Kqk hΓ E E E E E E E E Z<|Kdx [bg y14.2,.box 29 (fD d),rO 3 1 (eN .i64) ([]:List Int),rO 3 1 (eN .i64) s17,.box 37 (fS x3),.dead,.box 77 (fM x18)] E<|gO 9 E<|jC E hy24 (fun h27=>?_) fun h30=>gA 7 E ?_
     ·refine gA 4 E<|Kdk hΓ (enc:=(eN .i64)) [x18.Expires] E E E E E E E E E E E E Z<|bK h27 fun y28 hy28 h29=>Kdy hΓ (enc:=(eN .i64)) hy28 E E E E E E E E E (fun _=>E) E E E E<|gO 8 E ?_
      cases h29
      exact⟨⟨E,E,E,E,E,E,E,E,Kbp E (Kbo (nLl hlt hb22)),tV⟩,[_],E,.inr ⟨HB.mk E,FB.mk E,Z⟩⟩
     cases h30
     exact⟨⟨E,E,E,E,E,E,E,E,Kbp E (Kbo (nLl hlt hb22)),tV⟩,[_],E,.inr ⟨HB.mk E,FB.mk E,Z⟩⟩
    exact gA 6 E<|Kck E (dF (Int.lt_irrefl _))<|gA 4 E<|⟨⟨E,E,E,E,E,E,tV⟩,[],E,.inl E⟩
   refine gA 6 E ?_
   cases h20
   exact⟨⟨E,E,E,E,E,Kbp E (Kbo (nLl hlt hb7)),tV⟩,[_,_],E,.inr ⟨HB.mk E,FB.mk E,Z⟩⟩
  exact gA 6 E<|Kck E (dF (Int.lt_irrefl _))<|gA 4 E<|⟨⟨E,tV⟩,[],E,.inl E⟩
 exact bK h5 fun y31 hy31 h32=>gA 4 E<|Kdp [3] (.tup []) [bg q4.1,.box 29 (fD d),rO 3 1 (eN .i64) ([]:List Int),rO 3 1 (eN .i64) y31] C (Lej hy31) E Z E E E E E E E E E E<|gK h32 fun hg34 h33=>Kha 5 E (of_decide_eq_true hg34).symm<|bK h33 fun y35 hy35 h36=>gO 5 E<|Kdp [3] (.sl 3 y35.length) [bg q4.1,.box 29 (fD d),rO 3 1 (eN .i64) ([]:List Int),rO 3 1 (eN .i64) y35] C (Lqv hy35) E Z E E E E E E E E E E<|gO 4 E<|Kix 1 [bg q4.1,.dead,rO 3 1 (eN .i64) ([]:List Int),rO 3 1 (eN .i64) y35] E Z<|Kgn 3 1 [bg q4.1,rO 3 1 (eN .i64) y35,rO 3 1 (eN .i64) ([]:List Int),.dead] E E E E E E<|Kgk<|oSi h36▸Kec hΓ [_,_] (.inr E) E E E E (.inr ⟨HB.mk E,E⟩)
theorem Lky{k:Nat}{d:Lex}{l:List Ley}{v_at:Int}{al:BagT}{r:(List Str)×BagT}(h:Lkk k d l v_at al=some r):EC Tryz.prog 74 [.agg (fD d),.d (Sl Lln l),I v_at] [bg al] fun g hp'=>g=.sl 1 r.1.length∧hp'=[bg r.2,rO 9 1 eS r.1]:=by
 unfold Lkk at h
 refine QM Tryz.func74 E Z<|gA 2 E<|Kqg E E E E Z<|gO 5 E<|Kdn (t:=0) 9 1 E Z<|bK h fun y1 hy1 h2=>gO 8 E<|Kdp [0] (.sl 3 y1.1.length) [bg y1.2,.box 29 (fD d),rO 9 1 eS ([]:List Str),rO 77 8 Llr y1.1] C (Lqu hy1) E Z E E E E E E E E E E<|Kdv 3 [13] _ [bg y1.2,.box 29 (fD d),rO 9 1 eS ([]:List Str),.dead] E E E Z<|gO 4 E<|bK h2 fun q6 hq6 h7=>Kcy 13 E fun hb9=>Kgp [(7,.sl 2 q6.length)] [bg y1.2,.box 29 (fD d),rO 9 1 eS q6,.dead] ?_ ?_
 ·refine gA 1 E<|Kee y1.1 hq6 (fun i3 s4=>[(2,I v_at),(7,.sl 2 s4.length),(13,.d (Sl Llr y1.1)),(14,I (y1.1.length:Int)),(15,I (i3:Int))]) (fun s4=>[bg y1.2,.box 29 (fD d),rO 9 1 eS s4,.dead]) ⟨⟨E,E,E,E,E,tV⟩,[],E,.inl E⟩ (fun i3 x5 s4 y13 hx10 hlt hy11=>?_) (?_)
  ·refine gA 6 E<|Kcj E (dT (Int.ofNat_lt.2 hlt))<|gA 6 E<|eo_o E (Kcz hΓ (enc:=Llr) (Kcs hx10) E E E E E (fun _=>E))<|gO 1 E<|Kqf hΓ E E E Z<|Kqk hΓ E E E E E E E E Z<|Kdx [bg y1.2,.box 29 (fD d),rO 9 1 eS s4,.dead,.box 77 (fM x5)] E<|gO 7 E<|Kco 5 [(2,I v_at),(7,.sl 2 s4.length),(9,.ptr 4 0),(13,.d (Sl Llr y1.1)),(14,I (y1.1.length:Int)),(15,I (i3:Int)),(26,B (x5.Approved&&(decide ((v_at:Int)<x5.Expires))))] [bg y1.2,.box 29 (fD d),rO 9 1 eS s4,.dead,.box 77 (fM x5)] ?_ ?_
   ·refine Koz E E (fun hb=>?_) (fun hb=>?_)
    ·exact gO 6 E<|⟨⟨E,E,E,E,E,E,Kbq E (Kei hb),tV⟩,[],E,.inl E⟩
    exact gO 6 E<|⟨⟨E,E,E,E,E,E,Kbq E (Kej hb),tV⟩,[],E,.inl E⟩
   refine gO 2 E<|jC E hy11 (fun h14=>?_) fun h17=>gA 7 E ?_
   ·refine gA 4 E<|Kdk hΓ (enc:=eS) [x5.Node] E E E E E E E E E E E E Z<|bK h14 fun y15 hy15 h16=>Kdy hΓ (enc:=eS) hy15 E E E E E E E E E (fun _=>E) E E E E<|gO 8 E ?_
    cases h16
    exact⟨⟨E,E,E,E,Kbp E (Kbo (nLl hlt hb9)),tV⟩,[_],E,.inr ⟨HB.mk E,FB.mk E,Z⟩⟩
   cases h17
   exact⟨⟨E,E,E,E,Kbp E (Kbo (nLl hlt hb9)),tV⟩,[_],E,.inr ⟨HB.mk E,FB.mk E,Z⟩⟩
  exact gA 6 E<|Kck E (dF (Int.lt_irrefl _))<|gA 4 E<|⟨⟨E,tV⟩,[],E,.inl E⟩
 exact gA 8 E<|Kix 1 [bg y1.2,.dead,rO 9 1 eS q6,.dead] E Z<|Kgn 2 1 [bg y1.2,rO 9 1 eS q6,.dead,.dead] E E E E E E<|Kgk<|oSi h7▸Kec hΓ [_,_] (.inr E) E E E E (.inr ⟨HB.mk E,E⟩)
theorem Lkz{s1:List Str}{s2:List Str}{r:Bool}(h:Lkl s1 s2=some r):Pure Tryz.prog 65 [.d (Sl eS s1),.d (Sl eS s2)] (B r):=by
 unfold Lkl at h
 refine QP Tryz.func65 E E E<|gA 15 E<|jC E h (fun h1=>?_) fun h2=>gA 10 E<|bK h2 fun q6 hq6 h7=>Kcy 0 E fun hb9=>Kgo (R:=fun a8=>q6=.go a8) (fun a8=>[]) (fun a8=>[]) ?_ ?_
 ·exact gA 7 E<|oSi h1▸gP E E
 ·refine gA 1 E<|Kcx s1 hq6 (fun i3 s4=>[(0,.d (Sl eS s1)),(1,.d (Sl eS s2)),(12,I (s1.length:Int)),(13,I (i3:Int))]) (fun s4=>[]) ⟨⟨E,E,E,E,tV⟩,[],E,.inl E⟩ (fun i3 x5 s4 y13 hx10 hlt hy11 hout12=>?_) (fun s4 hgo=>?_)
  ·refine gA 6 E<|Kcj E (dT (Int.ofNat_lt.2 hlt))<|gA 11 E<|jD<|gA 2 E<|gl_o E (Kcz hΓ (enc:=eS) (Kcs hx10) E E E E E (fun _=>E))<|bK hy11 fun x14 hx14 h15=>Kcg hΓ 3 E<|gl_o E (Kcz hΓ (enc:=eS) hx14 E E E E E (fun _=>E))<|Kcg hΓ 4 E<|jC E h15 (fun h16=>?_) fun h19=>gA 7 E ?_
   ·refine gA 8 E<|bK h16 fun v17 hv17 h18=>?_
    cases h18
    obtain rfl:=hout12 _ rfl
    cases h7
    exact gA 4 E<|oSi hv17▸gP E E
   cases h19
   exact⟨_,E,⟨⟨E,E,E,Kbp E (Kbo (nLl hlt hb9)),tV⟩,[],E,.inl E⟩⟩
  subst hgo
  exact gA 6 E<|Kck E (dF (Int.lt_irrefl _))<|gA 4 E<|⟨_,E,⟨tV,[],E,.inl E⟩⟩
 intro a8 ha
 subst ha
 replace h7:=Kgi h7
 exact gA 7 E<|oSi h7▸gP E E
theorem Lla{k:Nat}{d:Lex}{l:List Ley}{v_at:Int}{al:BagT}{r:Int×Bool×BagT}(h:Lkm k d l v_at al=some r):EC Tryz.prog 73 [.agg (fD d),.d (Sl Lln l),I v_at] [bg al] fun g hp'=>g=.tup [I r.1,B r.2.1]∧hp'=[bg r.2.2]:=by
 unfold Lkm at h
 refine QN Tryz.func73 E Z<|gA 2 E<|Kqg E E E E Z<|bK h fun y1 hy1 h2=>gO 9 E<|Kdp [0] (.sl 2 y1.1.length) [bg y1.2,.box 29 (fD d),rO 3 1 (eN .i64) y1.1] C (Lkx hy1) E Z E E E E E E E E E E<|Kdv 2 [12] _ [bg y1.2,.box 29 (fD d),.dead] E E E Z<|gO 4 E<|bK h2 fun q6 hq6 h7=>Kcy 12 E fun hb9=>Kgo (R:=fun a8=>q6=.go a8) (fun a8=>[]) (fun a8=>[bg a8,.box 29 (fD d),.dead]) ?_ ?_
 ·refine gA 1 E<|Kcx y1.1 hq6 (fun i3 s4=>[(1,.d (Sl Lln l)),(2,I v_at),(3,.ptr 1 0),(12,.d (Sl (eN .i64) y1.1)),(13,I (y1.1.length:Int)),(14,I (i3:Int))]) (fun s4=>[bg s4,.box 29 (fD d),.dead]) ⟨⟨E,E,E,E,E,E,tV⟩,[],E,.inl E⟩ (fun i3 x5 s4 y13 hx10 hlt hy11 hout12=>?_) (fun s4 hgo=>?_)
  ·refine gA 6 E<|Kcj E (dT (Int.ofNat_lt.2 hlt))<|gA 6 E<|eo_o E (Kcz hΓ (enc:=(eN .i64)) (Kcs hx10) E E E E E (fun _=>E))<|bK hy11 fun q14 hq14 h15=>gO 5 E<|Kgq [(1,.d (Sl Lln l)),(2,I v_at),(3,.ptr 1 0),(9,I x5),(12,.d (Sl (eN .i64) y1.1)),(13,I (y1.1.length:Int)),(14,I (i3:Int)),(33,B q14.2)] [bg q14.1,.box 29 (fD d),.dead] ?_ ?_
   ·refine Kfl [.dead,.box 29 (fD d)] [4,8] [7,12,13] [] hmix (by kernel_rfl) (by kernel_rfl) ⟨E,tV⟩ Z<|go_E hΓ 4 E<|Kfs E E (fun hb=>?_) (fun hb=>?_)
    ·have h16:=cT hq14 hb
     exact bK h16 fun y17 hy17 h18=>go_E hΓ 3 E<|Kgs [bg y17.2,.box 29 (fD d),.dead,rO 9 1 eS y17.1] E E E E (Kfv ⟨E,tV⟩) (Kga [0] (.sl 3 y17.1.length) [bg y17.2,.box 29 (fD d),.dead,rO 9 1 eS y17.1] C (Lky hy17) E E E E E E E E E E)<|bK h18 fun y19 hy19 h20=>go_E hΓ 4 E<|Kgs [bg y19.2,.box 29 (fD d),.dead,rO 9 1 eS y17.1,rO 9 1 eS y19.1] E E E E (Kfv ⟨E,tV⟩) (Kga [0] (.sl 4 y19.1.length) [bg y19.2,.box 29 (fD d),.dead,rO 9 1 eS y17.1,rO 9 1 eS y19.1] C (Lky hy19) E E E E E E E E E E)<|bK h20 fun y21 hy21 h22=>Kgs [bg y19.2,.box 29 (fD d),.dead,rO 9 1 eS y17.1,rO 9 1 eS y19.1] E E E E (Kfv ⟨E,tV⟩) (Kkc C (Lkz hy21) E E E E E)<|go_E hΓ 2 E<|Kfn<|Kgm 3 [25] _ [bg y19.2,.box 29 (fD d),.dead,.dead,rO 9 1 eS y19.1] E E E Z<|Kgm 4 [30] _ [bg y19.2,.box 29 (fD d),.dead,.dead,.dead] E E E Z<|Kgk<|oSi h22▸⟨⟨E,E,E,E,E,E,E,E,tV⟩,[_,_],E,.inr ⟨HB.mk E,FB.mk E,Z⟩⟩
    have h23:=cF hq14 hb
    exact go_E hΓ 12 E<|Kfn<|Kgk<|oSi h23▸⟨⟨E,E,E,E,E,E,E,E,tV⟩,[],E,.inl E⟩
   refine gA 1 E<|jC E h15 (fun h24=>?_) fun h27=>gA 7 E ?_
   ·refine gA 10 E<|bK h24 fun v25 hv25 h26=>?_
    cases h26
    obtain rfl:=hout12 _ rfl
    cases h7
    exact gA 4 E<|oSi hv25▸Kec hΓ [_,_] (.inr E) E E E E (.inr ⟨HB.mk E,E⟩)
   cases h27
   exact⟨_,E,⟨⟨E,E,E,E,E,Kbp E (Kbo (nLl hlt hb9)),tV⟩,[],E,.inl E⟩⟩
  subst hgo
  exact gA 6 E<|Kck E (dF (Int.lt_irrefl _))<|gA 4 E<|⟨_,E,⟨tV,[],E,.inl E⟩⟩
 intro a8 ha
 subst ha
 replace h7:=Kgi h7
 exact gA 8 E<|oSi h7▸Kec hΓ [_,_] (.inr E) E E E E (.inr ⟨HB.mk E,E⟩)
theorem Llb{a:Lfc}{b:Lfc}{r:Int}(h:Lkn a b=some r):Pure Tryz.prog 170 [.agg (fM a),.agg (fM b)] (I r):=by
 unfold Lkn at h
 exact QP Tryz.func170 E E E<|gA 2 E<|Kqg E E E E Z<|Kqg E E E E Z<|bK h fun y1 hy1 h2=>gO 9 E<|Kdq C (Lmk hy1) E Z E E E E E<|gO 4 E<|oSi h2▸gP E E
theorem Llc{k:Nat}{data:List Lfc}{a:Int}{b:Int}{r:List Lfc}(h:Lko k data a b=some r):EC Tryz.prog 308 [.sl 0 data.length,I a,I b,.fn (.func 170) [] []] [rO 77 8 Llr data] fun g hp'=>g=.tup []∧hp'=[rO 77 8 Llr r]:=by
 unfold Lko at h
 refine QN Tryz.func308 E Z<|gA 7 E<|bK h fun q4 hq4 h5=>Kgp [] [rO 77 8 Llr q4] ?_ ?_
 ·refine gA 1 E<|Kcv hq4 (fun s2=>[(0,.sl 0 s2.1.length),(1,I a),(2,I b),(3,.fn (.func 170) [] []),(8,I s2.2)]) (fun s2=>[rO 77 8 Llr s2.1]) ⟨⟨E,E,E,E,E,tV⟩,[],E,.inl E⟩ (fun s2 y10 hy8 hout9=>?_)
  refine gA 8 E<|jC E hy8 (fun h11=>?_) fun h51=>gA 4 E ?_
  ·refine gA 10 E<|bK h11 fun q15 hq15 h16=>Kgp [(0,.sl 0 q15.length),(1,I a),(2,I b),(3,.fn (.func 170) [] []),(8,I s2.2)] [rO 77 8 Llr q15] ?_ ?_
   ·refine gA 1 E<|Kcv hq15 (fun s13=>[(0,.sl 0 s13.1.length),(1,I a),(2,I b),(3,.fn (.func 170) [] []),(8,I s2.2),(9,I s13.2)]) (fun s13=>[rO 77 8 Llr s13.1]) ⟨⟨E,E,E,E,E,E,tV⟩,[],E,.inl E⟩ (fun s13 y21 hy19 hout20=>?_)
    refine bK hy19 fun q22 hq22 h23=>gA 2 E<|Kgp [(0,.sl 0 s13.1.length),(1,I a),(2,I b),(3,.fn (.func 170) [] []),(8,I s2.2),(9,I s13.2),(34,B q22)] [rO 77 8 Llr s13.1] ?_ ?_
    ·refine jD<|gA 4 E<|Kaw E E (fun hb=>?_) (fun hb=>?_)
     ·have h24:=cT hq22 hb
      refine bK h24 fun x25 hx25 h26=>?_
      have hj27:=Keh hx25
      refine Kcg hΓ 3 E<|Kbr E E (Kdb hΓ hx25 E E E E E E)<|Kbr E E (Kdh hΓ (enc:=Llr) s13.2.toNat 0 hj27 E E E E (fun _=>E) (g:=.agg (fM x25)) E)<|bK h26 fun x28 hx28 h29=>?_
      have hj30:=Keh hx28
      exact Kcg hΓ 3 E<|Kbr E E (Kdb hΓ hx28 E E E E E E)<|Kbr E E (Kdh hΓ (enc:=Llr) ((wi (s13.2 - 1)).toNat) 0 hj30 E E E E (fun _=>E) (g:=.agg (fM x28)) E)<|bK h29 fun y31 hy31 h32=>Kds C (Llb hy31) E E E E E E E<|Kcg hΓ 3 E<|oSi h32▸⟨⟨E,E,E,E,E,E,E,tV⟩,[],E,.inl E⟩
     have h33:=cF hq22 hb
     exact Kcg hΓ 14 E<|oSi h33▸⟨⟨E,E,E,E,E,E,E,tV⟩,[],E,.inl E⟩
    refine gA 1 E<|jC E h23 (fun h34=>?_) fun h50=>gA 4 E ?_
    ·refine gA 4 E<|Kfl [rO 77 8 Llr s13.1] [9,13] [15,17] [15,17] hmix (by kernel_rfl) (by kernel_rfl) ⟨E,tV⟩ Z<|bK h34 fun x35 hx35 h36=>?_
     have hj37:=Keh hx35
     refine go_E hΓ 8 E<|ge_q E (.inl E) (fun _ _=>Kfo (qt_p (Kdb hΓ hx35 E E E E E E)))<|ge_p E (fun hp hs=>Kdh hΓ (enc:=Llr) ((wi (s13.2 - 1)).toNat) 0 hj37 E E E (hs 0 _ E E) (fun _=>E) (g:=.agg (fM x35)) E) E<|bK h36 fun x38 hx38 h39=>?_
     have hj40:=Keh hx38
     refine go_E hΓ 2 E<|ge_q E (.inl E) (fun _ _=>Kfo (qt_p (Kdb hΓ hx38 E E E E E E)))<|ge_p E (fun hp hs=>Kdh hΓ (enc:=Llr) s13.2.toNat 0 hj40 E E E (hs 0 _ E E) (fun _=>E) (g:=.agg (fM x38)) E) E<|bK h39 fun x41 hx41 h42=>?_
     have hj43:=Keh hx41
     refine ge_q E (.inl E) (fun _ _=>Kfo (qt_p (Kdb hΓ hx41 E E E E E E)))<|Kft [rO 77 8 Llr (s13.1.set s13.2.toNat x35)] E E (Kfu E) (Kfz (Khd hΓ (enc:=Llr) (z':=x35) s13.2.toNat (by have:=(gEs.1 hj43).1;simpa using this) E E E E (fun _=>E) E E E E E)) ?_
     refine bK h42 fun x44 hx44 h45=>?_
     have hj46:=Keh hx44
     refine ge_q E (.inl E) (fun _ _=>Kfo (qt_p (Kdb hΓ hx44 E E E E E E)))<|bK h45 fun x47 hx47 h48=>?_
     have hj49:(s13.1.set s13.2.toNat x35)[(wi (s13.2 - 1)).toNat]?=some x47:=hx47
     refine Kft [rO 77 8 Llr ((s13.1.set s13.2.toNat x35).set ((wi (s13.2 - 1)).toNat) x38)] E E (Kfu E) (Kfz (Khd hΓ (enc:=Llr) (z':=x38) ((wi (s13.2 - 1)).toNat) (by have:=(gEs.1 hj49).1;simpa using this) E E E E (fun _=>E) E E E E E)) ?_
     refine Kfn<|gA 2 E<|Khe 0 (n':=((s13.1.set s13.2.toNat x35).set ((wi (s13.2 - 1)).toNat) x38).length) E (by simp) ?_
     refine Khe 37 (n':=((s13.1.set s13.2.toNat x35).set ((wi (s13.2 - 1)).toNat) x38).length) E (by simp) ?_
     refine Khe 39 (n':=((s13.1.set s13.2.toNat x35).set ((wi (s13.2 - 1)).toNat) x38).length) E (by simp) ?_
     refine Khe 42 (n':=((s13.1.set s13.2.toNat x35).set ((wi (s13.2 - 1)).toNat) x38).length) E (by simp) ?_
     refine Khe 47 (n':=((s13.1.set s13.2.toNat x35).set ((wi (s13.2 - 1)).toNat) x38).length) E (by simp) ?_
     exact gA 5 E<|oSi h48▸⟨_,E,⟨⟨E,E,E,E,E,E,tV⟩,[],E,.inl E⟩⟩
    cases h50
    obtain rfl:=hout20 _ rfl
    exact⟨⟨E,E,E,E,E,tV⟩,[],E,.inl E⟩
   exact gA 7 E<|oSi h16▸⟨_,E,⟨⟨E,E,E,E,E,tV⟩,[],E,.inl E⟩⟩
  cases h51
  obtain rfl:=hout9 _ rfl
  exact⟨tV,[],E,.inl E⟩
 exact oSi h5▸Kec hΓ [] (.inl E) E E E E (.inl E)
theorem Lld{k:Nat}{data:List Lfc}{n:Int}{r:List Lfc}(h:Lkp k data n=some r):EC Tryz.prog 250 [.sl 0 data.length,I n,.fn (.func 170) [] []] [rO 77 8 Llr data] fun g hp'=>g=.tup []∧hp'=[rO 77 8 Llr r]:=by
 unfold Lkp at h
 refine QN Tryz.func250 E Z<|gA 13 E<|bK h fun q4 hq4 h5=>Kgp [(0,.sl 0 q4.1.length),(1,I n),(2,.fn (.func 170) [] []),(6,I 20),(7,I q4.2)] [rO 77 8 Llr q4.1] ?_ ?_
 ·refine gA 1 E<|Kcv hq4 (fun s2=>[(0,.sl 0 s2.1.length),(1,I n),(2,.fn (.func 170) [] []),(6,I 20),(7,I s2.2.1),(8,I s2.2.2)]) (fun s2=>[rO 77 8 Llr s2.1]) ⟨⟨E,E,E,E,E,E,tV⟩,[],E,.inl E⟩ (fun s2 y10 hy8 hout9=>?_)
  refine gA 8 E<|jC E hy8 (fun h11=>?_) fun h16=>gA 4 E ?_
  ·exact bK h11 fun y12 hy12 h13=>gA 9 E<|Kdp [0] (.tup []) [rO 77 8 Llr y12] C (Llc hy12) E Z E E E E E E E E E E<|gK h13 fun hg15 h14=>Kha 0 E (of_decide_eq_true hg15).symm<|gO 15 E<|oSi h14▸⟨_,E,⟨⟨E,E,E,E,E,E,tV⟩,[],E,.inl E⟩⟩
  cases h16
  obtain rfl:=hout9 _ rfl
  exact⟨⟨E,E,E,E,E,tV⟩,[],E,.inl E⟩
 refine bK h5 fun y17 hy17 h18=>gA 7 E<|Kdp [0] (.tup []) [rO 77 8 Llr y17] C (Llc hy17) E Z E E E E E E E E E E<|gK h18 fun hg20 h19=>Kha 0 E (of_decide_eq_true hg20).symm<|gO 2 E<|bK h19 fun q24 hq24 h25=>Kgp [] [rO 77 8 Llr y17] ?_ ?_
 ·refine gA 1 E<|Kcv hq24 (fun s22=>[(0,.sl 0 y17.length),(1,I n),(2,.fn (.func 170) [] []),(6,I s22)]) (fun s22=>[rO 77 8 Llr y17]) ⟨⟨E,E,E,E,tV⟩,[],E,.inl E⟩ (fun s22 y30 hy28 hout29=>?_)
  refine gA 8 E<|jC E hy28 (fun h31=>?_) fun h46=>gA 4 E ?_
  ·refine gA 12 E<|bK h31 fun q35 hq35 h36=>Kgp [(0,.sl 0 y17.length),(1,I n),(2,.fn (.func 170) [] []),(6,I s22),(7,I 0)] [rO 77 8 Llr y17] ?_ ?_
   ·refine gA 1 E<|Kcv hq35 (fun s33=>[(0,.sl 0 y17.length),(1,I n),(2,.fn (.func 170) [] []),(6,I s22),(7,I 0),(8,I (wi (2 * s22)))]) (fun s33=>[rO 77 8 Llr y17]) ⟨⟨E,E,E,E,E,E,tV⟩,[],E,.inl E⟩ (fun s33 y41 hy39 hout40=>?_)
    refine gA 8 E<|jC E hy39 (fun h42=>?_) fun h43=>gA 4 E ?_
    ·refine gA 12 E ?_
     cases h42
    cases h43
    obtain rfl:=hout40 _ rfl
    exact⟨⟨E,E,E,E,E,tV⟩,[],E,.inl E⟩
   refine gA 17 E<|jC E h36 (fun h44=>?_) fun h45=>gA 8 E<|oSi h45▸⟨_,E,⟨⟨E,E,E,E,tV⟩,[],E,.inl E⟩⟩
   refine gA 6 E ?_
   cases h44
  cases h46
  obtain rfl:=hout29 _ rfl
  exact⟨tV,[],E,.inl E⟩
 exact oSi h25▸Kec hΓ [] (.inl E) E E E E (.inl E)
theorem Lle{k:Nat}{x:List Lfc}{r:List Lfc}(h:Lkq k x=some r):EC Tryz.prog 165 [.sl 0 x.length,.fn (.func 170) [] []] [rO 77 8 Llr x] fun g hp'=>g=.tup []∧hp'=[rO 77 8 Llr r]:=by
 unfold Lkq at h
 exact QN Tryz.func165 E Z<|bK h fun y1 hy1 h2=>gA 5 E<|Kdp [0] (.tup []) [rO 77 8 Llr y1] C (Lld hy1) E Z E E E E E E E E E E<|gO 1 E<|oSi h2▸Kec hΓ [] (.inl E) E E E E (.inl E)
theorem Llf{k:Nat}{d:Lex}{l:List Ley}{v_at:Int}{within:Int}{al:BagT}{r:(List Str)×BagT}(h:Lkr k d l v_at within al=some r):EC Tryz.prog 75 [.agg (fD d),.d (Sl Lln l),I v_at,I within] [bg al] fun g hp'=>g=.sl 1 r.1.length∧hp'=[bg r.2,rO 9 1 eS r.1]:=by
 unfold Lkr at h
 refine QM Tryz.func75 E Z<|gA 2 E<|Kqg E E E E Z<|gO 5 E<|Kdn (t:=0) 77 8 E Z<|bK h fun y1 hy1 h2=>gO 8 E<|Kdp [0] (.sl 3 y1.1.length) [bg y1.2,.box 29 (fD d),rO 77 8 Llr ([]:List Lfc),rO 77 8 Llr y1.1] C (Lqu hy1) E Z E E E E E E E E E E<|Kdv 3 [18] _ [bg y1.2,.box 29 (fD d),rO 77 8 Llr ([]:List Lfc),.dead] E E E Z<|gO 4 E<|bK h2 fun q6 hq6 h7=>Kcy 18 E fun hb9=>Kgp [(9,.sl 2 q6.length)] [bg y1.2,.box 29 (fD d),rO 77 8 Llr q6,.dead] ?_ ?_
 ·refine gA 1 E<|Kee y1.1 hq6 (fun i3 s4=>[(2,I v_at),(3,I within),(9,.sl 2 s4.length),(18,.d (Sl Llr y1.1)),(19,I (y1.1.length:Int)),(20,I (i3:Int))]) (fun s4=>[bg y1.2,.box 29 (fD d),rO 77 8 Llr s4,.dead]) ⟨⟨E,E,E,E,E,E,tV⟩,[],E,.inl E⟩ (fun i3 x5 s4 y13 hx10 hlt hy11=>?_) (?_)
  ·refine gA 6 E<|Kcj E (dT (Int.ofNat_lt.2 hlt))<|gA 6 E<|eo_o E (Kcz hΓ (enc:=Llr) (Kcs hx10) E E E E E (fun _=>E))<|gO 1 E<|Kqf hΓ E E E Z<|Kqk hΓ E E E E E E E E Z<|Kdx [bg y1.2,.box 29 (fD d),rO 77 8 Llr s4,.dead,.box 77 (fM x5)] E<|gO 7 E<|Kco 5 [(2,I v_at),(3,I within),(9,.sl 2 s4.length),(11,.ptr 4 0),(18,.d (Sl Llr y1.1)),(19,I (y1.1.length:Int)),(20,I (i3:Int)),(31,B (x5.Approved&&(decide ((v_at:Int)<x5.Expires))))] [bg y1.2,.box 29 (fD d),rO 77 8 Llr s4,.dead,.box 77 (fM x5)] ?_ ?_
   ·refine Koz E E (fun hb=>?_) (fun hb=>?_)
    ·exact gO 6 E<|⟨⟨E,E,E,E,E,E,E,Kbq E (Kei hb),tV⟩,[],E,.inl E⟩
    exact gO 6 E<|⟨⟨E,E,E,E,E,E,E,Kbq E (Kej hb),tV⟩,[],E,.inl E⟩
   refine gO 1 E<|Kco 7 [(2,I v_at),(3,I within),(9,.sl 2 s4.length),(11,.ptr 4 0),(18,.d (Sl Llr y1.1)),(19,I (y1.1.length:Int)),(20,I (i3:Int)),(39,B ((x5.Approved&&(decide ((v_at:Int)<x5.Expires)))&&(decide ((x5.Expires:Int)≤(wi (v_at+within))))))] [bg y1.2,.box 29 (fD d),rO 77 8 Llr s4,.dead,.box 77 (fM x5)] ?_ ?_
   ·refine Koz E E (fun hb=>?_) (fun hb=>?_)
    ·exact gO 8 E<|⟨⟨E,E,E,E,E,E,E,Kbq E (Kei hb),tV⟩,[],E,.inl E⟩
    exact gO 8 E<|⟨⟨E,E,E,E,E,E,E,Kbq E (Kej hb),tV⟩,[],E,.inl E⟩
   refine gO 2 E<|jC E hy11 (fun h14=>?_) fun h17=>gA 7 E ?_
   ·refine gA 3 E<|Kdk hΓ (enc:=Llr) [x5] E E E E E E E E E E E E Z<|bK h14 fun y15 hy15 h16=>Kdy hΓ (enc:=Llr) hy15 E E E E E E E E E (fun _=>E) E E E E<|gO 8 E ?_
    cases h16
    exact⟨⟨E,E,E,E,E,Kbp E (Kbo (nLl hlt hb9)),tV⟩,[_],E,.inr ⟨HB.mk E,FB.mk E,Z⟩⟩
   cases h17
   exact⟨⟨E,E,E,E,E,Kbp E (Kbo (nLl hlt hb9)),tV⟩,[_],E,.inr ⟨HB.mk E,FB.mk E,Z⟩⟩
  exact gA 6 E<|Kck E (dF (Int.lt_irrefl _))<|gA 4 E<|⟨⟨E,tV⟩,[],E,.inl E⟩
 refine bK h7 fun y18 hy18 h19=>gA 4 E<|Kdp [2] (.tup []) [bg y1.2,.box 29 (fD d),rO 77 8 Llr y18,.dead] C (Lle hy18) E Z E E E E E E E E E E<|gK h19 fun hg21 h20=>Kha 9 E (of_decide_eq_true hg21).symm<|gO 4 E<|Kdn (t:=0) 9 1 E Z<|gO 10 E<|bK h20 fun q25 hq25 h26=>gK hq25 fun hb28 h29=>?_
 replace hb28:=of_decide_eq_true hb28
 refine Kgp [(12,.sl 4 q25.length)] [bg y1.2,.box 29 (fD d),rO 77 8 Llr y18,.dead,rO 9 1 eS q25] ?_ ?_
 ·refine gA 1 E<|Keg h29 (fun i22 s23=>[(12,.sl 4 s23.length),(47,.sl 2 y18.length),(48,I (y18.length:Int)),(49,I (i22:Int))]) (fun s23=>[bg y1.2,.box 29 (fD d),rO 77 8 Llr y18,.dead,rO 9 1 eS s23]) ⟨⟨E,E,E,E,tV⟩,[],E,.inl E⟩ (fun i22 s23 y33 hlt hy31=>?_) (fun hge=>?_)
  ·refine gA 6 E<|Kcj E (dT hlt)<|bK hy31 fun x34 hx34 h35=>?_
   have hj36:=Keh hx34
   exact gA 6 E<|eo_o E (Kdb hΓ hx34 E E E E E E)<|eo_o E (Kdh hΓ (enc:=Llr) ((i22:Int).toNat) 0 hj36 E E E E (fun _=>E) (g:=.agg (fM x34)) E)<|Kqf hΓ E E E Z<|Kqk hΓ E E E E E E E E Z<|Kdx [bg y1.2,.box 29 (fD d),rO 77 8 Llr y18,.dead,rO 9 1 eS s23,.box 77 (fM x34)] E<|gO 6 E<|Kdk hΓ (enc:=eS) [x34.Node] E E E E E E E E E E E E Z<|bK h35 fun y37 hy37 h38=>Kdy hΓ (enc:=eS) hy37 E E E E E E E E E (fun _=>E) E E E E<|gO 8 E<|oSi h38▸⟨⟨E,E,E,Kbp E (Kbo (by omega)),tV⟩,[_],E,.inr ⟨HB.mk E,FB.mk E,Z⟩⟩
  exact gA 6 E<|Kck E (dF hge)<|gA 4 E<|⟨⟨E,tV⟩,[],E,.inl E⟩
 exact gA 8 E<|Kix 1 [bg y1.2,.dead,rO 77 8 Llr y18,.dead,rO 9 1 eS q25] E Z<|Kgn 4 1 [bg y1.2,rO 9 1 eS q25,rO 77 8 Llr y18,.dead,.dead] E E E E E E<|Kgk<|oSi h26▸Kec hΓ [_,_,_] (.inr E) E E E E (.inr ⟨HB.mk E,E⟩)
theorem Llg{k:Nat}{d:Lex}{l:List Ley}{node:Str}{w:Lfa}{al:BagT}{r:Int×BagT}(h:Lks k d l node w al=some r):EC Tryz.prog 76 [.agg (fD d),.d (Sl Lln l),S node,.agg [I w.From,I w.To]] [bg al] fun g hp'=>g=I r.1∧hp'=[bg r.2]:=by
 unfold Lks at h
 refine QN Tryz.func76 E Z<|gA 2 E<|Kqg E E E E Z<|Kqg E E E E Z<|bK h fun y1 hy1 h2=>gO 7 E<|Kdp [0] (.sl 3 y1.1.length) [bg y1.2,.box 29 (fD d),.box 114 [I w.From,I w.To],rO 3 1 (eN .i64) y1.1] C (Lkx hy1) E Z E E E E E E E E E E<|Kdk hΓ (enc:=(eN .i64)) [0,345686400] E E E E E E E E E E E E Z<|bK h2 fun y3 hy3 h4=>Kdy hΓ (enc:=(eN .i64)) hy3 E E E E E E E E E (fun _=>E) E E E E<|bK h4 fun y5 hy5 h6=>gO 6 E<|Kdp [3] (.tup []) [bg y1.2,.box 29 (fD d),.box 114 [I w.From,I w.To],rO 3 1 (eN .i64) y5] C (Lej hy5) E Z E E E E E E E E E E<|gK h6 fun hg8 h7=>Kha 9 E (of_decide_eq_true hg8).symm<|gO 16 E<|bK h7 fun q12 hq12 h13=>gK hq12 fun hb15 h16=>?_
 replace hb15:=of_decide_eq_true hb15
 refine Kgp [(10,I q12.2)] [bg q12.1,.box 29 (fD d),.box 114 [I w.From,I w.To],rO 3 1 (eN .i64) y5] ?_ ?_
 ·refine gA 1 E<|Keg h16 (fun i9 s10=>[(1,.d (Sl Lln l)),(2,S node),(4,.ptr 1 0),(7,.ptr 2 0),(9,.sl 3 y5.length),(10,I s10.2),(22,I (wi ((y5.length:Int) - 1))),(23,I (i9:Int))]) (fun s10=>[bg s10.1,.box 29 (fD d),.box 114 [I w.From,I w.To],rO 3 1 (eN .i64) y5]) ⟨⟨E,E,E,E,E,E,E,E,tV⟩,[],E,.inl E⟩ (fun i9 s10 y20 hlt hy18=>?_) (fun hge=>?_)
  ·refine gA 6 E<|Kcj E (dT hlt)<|gA 11 E<|jD<|bK hy18 fun x21 hx21 h22=>?_
   have hj23:=Keh hx21
   refine gA 3 E<|gl_o E (Kdb hΓ hx21 E E E E E E)<|gl_o E (Kdh hΓ (enc:=(eN .i64)) ((wi ((i9:Int)+1)).toNat) 0 hj23 E E E E (fun _=>E) (g:=I x21) E)<|bK h22 fun x24 hx24 h25=>?_
   have hj26:=Keh hx24
   refine Kcg hΓ 5 E<|gl_o E (Kdb hΓ hx24 E E E E E E)<|gl_o E (Kdh hΓ (enc:=(eN .i64)) ((i9:Int).toNat) 0 hj26 E E E E (fun _=>E) (g:=I x24) E)<|bK h25 fun q27 hq27 h28=>Kcg hΓ 8 E<|Kgq [(1,.d (Sl Lln l)),(2,S node),(4,.ptr 1 0),(7,.ptr 2 0),(9,.sl 3 y5.length),(10,I s10.2),(12,I (wi ((if w.To<x21 then w.To else x21) - (if w.From>x24 then w.From else x24)))),(22,I (wi ((y5.length:Int) - 1))),(23,I (i9:Int)),(54,B q27.2)] [bg q27.1,.box 29 (fD d),.box 114 [I w.From,I w.To],rO 3 1 (eN .i64) y5] ?_ ?_
   ·refine Kfl [.dead,.box 29 (fD d),.dead,rO 3 1 (eN .i64) y5] [3,8] [9,11] [] hmix (by kernel_rfl) (by kernel_rfl) ⟨E,E,tV⟩ Z<|go_E hΓ 3 E<|Kfs E E (fun hb=>?_) (fun hb=>?_)
    ·have h29:=cT hq27 hb
     refine bK h29 fun x30 hx30 h31=>?_
     have hj32:=Keh hx30
     exact go_E hΓ 4 E<|ge_q E (.inr ⟨_,_,E,E⟩) (fun _ _=>Kfo (qt_p (Kdb hΓ hx30 E E E E E E)))<|Kfp E E (fun hp hs=>Kdh hΓ (enc:=(eN .i64)) ((i9:Int).toNat) 0 hj32 E E E (hs 3 _ E E) (fun _=>E) (g:=I x30) E) E<|bK h31 fun y33 hy33 h34=>Kgs [bg y33.2,.box 29 (fD d),.box 114 [I w.From,I w.To],rO 3 1 (eN .i64) y5,rO 9 1 eS y33.1] E E E E (Kfv ⟨E,E,tV⟩) (Kga [0] (.sl 4 y33.1.length) [bg y33.2,.box 29 (fD d),.box 114 [I w.From,I w.To],rO 3 1 (eN .i64) y5,rO 9 1 eS y33.1] C (Lky hy33) E E E E E E E E E E)<|bK h34 fun y35 hy35 h36=>go_E hΓ 1 E<|Kgs [bg y33.2,.box 29 (fD d),.box 114 [I w.From,I w.To],rO 3 1 (eN .i64) y5,rO 9 1 eS y33.1] E E E E (Kfv ⟨E,E,tV⟩) (Kkc C (Lmw hy35) E E E E E)<|go_E hΓ 1 E<|Kfn<|Kgm 4 [51] _ [bg y33.2,.box 29 (fD d),.box 114 [I w.From,I w.To],rO 3 1 (eN .i64) y5,.dead] E E E Z<|Kgk<|oSi h36▸⟨⟨E,E,E,E,E,E,E,E,E,E,tV⟩,[_],E,.inr ⟨HB.mk E,FB.mk E,Z⟩⟩
    have h37:=cF hq27 hb
    exact go_E hΓ 10 E<|Kfn<|Kgk<|oSi h37▸⟨⟨E,E,E,E,E,E,E,E,E,E,tV⟩,[],E,.inl E⟩
   refine gA 1 E<|jC E h28 (fun h38=>?_) fun h39=>gA 7 E<|oSi h39▸⟨⟨E,E,E,E,E,E,E,Kbp E (Kbo (by omega)),tV⟩,[],E,.inl E⟩
   exact gA 12 E<|oSi h38▸⟨⟨E,E,E,E,E,E,E,Kbp E (Kbo (by omega)),tV⟩,[],E,.inl E⟩
  exact gA 6 E<|Kck E (dF hge)<|gA 4 E<|⟨⟨E,tV⟩,[],E,.inl E⟩
 exact gA 8 E<|oSi h13▸Kec hΓ [_,_,_] (.inr E) E E E E (.inr ⟨HB.mk E,E⟩)
theorem Llh{k:Nat}{d:Lex}{user:Str}{tag:Str}{r:Bool×Int}(h:Lkt k d user tag=some r):Pure Tryz.prog 27 [.agg (fD d),S user,S tag] (.tup [B r.1,I r.2]):=by
 unfold Lkt at h
 refine QP Tryz.func27 E E E<|gA 2 E<|Kqg E E E E Z<|bK h fun y1 hy1 h2=>gO 8 E<|Kdq C (Lnr hy1) E Z E E E E E<|gO 9 E<|Kci E (fun hb=>?_) (fun hb=>?_)
 ·have h3:=cT h2 hb
  exact gA 9 E<|oSi h3▸gP E E
 have h4:=cF h2 hb
 refine bK h4 fun y5 hy5 h6=>gA 7 E<|Kdq C (Loq hy5) E Z E E E E E<|bK h6 fun y7 hy7 h8=>gO 13 E<|Kdq C (Lmw hy7) E Z E E E E E<|gO 2 E<|Kco 3 [(9,B y5.1),(31,B ((!y7)||(!y5.2)))] [.box 29 (fD d)] ?_ ?_
 ·refine Koz E E (fun hb=>?_) (fun hb=>?_)
  ·exact gO 4 E<|⟨⟨E,Kbq E (or_t hb),tV⟩,[],E,.inl E⟩
  exact gO 4 E<|⟨⟨E,Kbq E (or_f hb),tV⟩,[],E,.inl E⟩
 refine gO 2 E<|jC E h8 (fun h9=>?_) fun h10=>gA 10 E<|oSi h10▸gP E E
 exact gA 8 E<|oSi h9▸gP E E
theorem Lli{k:Nat}{r:Bool}(h:Lku k=some r):Pure Tryz.prog 16 [] (B r):=by
 unfold Lku at h
 refine QP Tryz.func16 E E E<|gA 7 E<|Kdk hΓ (enc:=eS) [[97]] E E E E E E E E E E E E Z<|Kdk hΓ (enc:=eS) [[97]] E E E E E E E E E E E E Z<|Kam hΓ (gs:=[S [116],.d (Sl eS [[97]])]) E E E E E E E<|Kdk hΓ (enc:=Lll) [(⟨[116],[[97]]⟩:Lew)] E E E E E E E E E E E E Z<|Kam hΓ (gs:=[.d (Sl eS [[97]]),.d (Sl Lll [(⟨[116],[[97]]⟩:Lew)]),I 1,B false]) E E E E E E E<|bK h fun y1 hy1 h2=>Kdq C (Llh hy1) E Z E E E E E<|gO 12 E<|Kco 2 [(0,B false),(16,B (((y1.2:Int)==0)&&y1.1))] [] ?_ ?_
 ·refine Koz E E (fun hb=>?_) (fun hb=>?_)
  ·exact gO 3 E<|⟨⟨E,Kbq E (Kei hb),tV⟩,[],E,.inl E⟩
  exact gO 3 E<|⟨⟨E,Kbq E (Kej hb),tV⟩,[],E,.inl E⟩
 exact gO 4 E<|oSi h2▸gP E E
theorem Llj{k:Nat}{l:List Int}{al:BagT}{r:Bool×BagT}(h:Lkv k l al=some r):EC Tryz.prog 8 [.d (Sl (eN .i64) l)] [bg al] fun g hp'=>g=B r.1∧hp'=[bg r.2]:=by
 unfold Lkv at h
 refine QN Tryz.func8 E Z<|gA 8 E<|Kam hΓ (gs:=[.d (Sl (eN .i64) l),I 0]) E E E E E E E<|Kqg E E E E Z<|bK h fun y1 hy1 h2=>gO 7 E<|Kdp [1] (I y1.1) [bg al,.box 25 (fQ y1.2)] C (Lma hy1) E Z E E E E E E E E E E<|bK h2 fun y3 hy3 h4=>Kdp [1] (.agg [.d (Sl eS y3.1.d.Users),.d (Sl Lll y3.1.d.Owners),I y3.1.d.Life,B y3.1.d.Approve,.d (Sl Lln y3.1.l),I y3.1.fault]) [bg al,.box 25 (fQ y3.2)] C (Lnk hy3) E Z E E E E E E E E E E<|bK h4 fun y5 hy5 h6=>gO 1 E<|Kdp [1] (I y5.1) [bg al,.box 25 (fQ y5.2)] C (Lnl hy5) E Z E E E E E E E E E E<|gO 1 E<|Kdk hΓ (enc:=(eN .i64)) [0,10,60,200,345686400,-1] E E E E E E E E E E E E Z<|bK h6 fun y7 hy7 h8=>Kdp [1] (I y7.1) [bg al,.box 25 (fQ y7.2)] C (Lmb hy7) E Z E E E E E E E E E E<|gO 1 E<|Kdk hΓ (enc:=eS) [[110,97],[110,97],[110,98],[65]] E E E E E E E E E E E E Z<|bK h8 fun y9 hy9 h10=>Kdp [1] (S y9.1) [bg al,.box 25 (fQ y9.2)] C (Lme hy9) E Z E E E E E E E E E E<|bK h10 fun y11 hy11 h12=>gO 1 E<|Kdp [1] (.agg [I y11.1.From,I y11.1.To]) [bg al,.box 25 (fQ y11.2)] C (Lnm hy11) E Z E E E E E E E E E E<|Kqf hΓ E E E Z<|Kqf hΓ E E E Z<|Kqk hΓ E E E E E E E E Z<|Kdx [bg al,.box 25 (fQ y11.2),.box 33 [.d (Sl eS y3.1.d.Users),.d (Sl Lll y3.1.d.Owners),I y3.1.d.Life,B y3.1.d.Approve,.d (Sl Lln y3.1.l),I y3.1.fault],.box 114 [I 0,I 0]] E<|gO 3 E<|Kqk hΓ E E E E E E E E Z<|Kdx [bg al,.box 25 (fQ y11.2),.box 33 [.d (Sl eS y3.1.d.Users),.d (Sl Lll y3.1.d.Owners),I y3.1.d.Life,B y3.1.d.Approve,.d (Sl Lln y3.1.l),I y3.1.fault],.box 114 [I y11.1.From,I y11.1.To]] E<|bK h12 fun y13 hy13 h14=>gO 9 E<|Kdp [0] (.tup [.d (Sl eS y13.1),I y13.2.1]) [bg y13.2.2,.box 25 (fQ y11.2),.box 33 [.d (Sl eS y3.1.d.Users),.d (Sl Lll y3.1.d.Owners),I y3.1.d.Life,B y3.1.d.Approve,.d (Sl Lln y3.1.l),I y3.1.fault],.box 114 [I y11.1.From,I y11.1.To]] C (Lpk hy13) E Z E E E E E E E E E E<|bK h14 fun y15 hy15 h16=>gO 15 E<|Kdp [0] (.tup [.d (Sl eS y15.1),I y15.2.1]) [bg y15.2.2,.box 25 (fQ y11.2),.box 33 [.d (Sl eS y3.1.d.Users),.d (Sl Lll y3.1.d.Owners),I y3.1.d.Life,B y3.1.d.Approve,.d (Sl Lln y3.1.l),I y3.1.fault],.box 114 [I y11.1.From,I y11.1.To]] C (Lps hy15) E Z E E E E E E E E E E<|bK h16 fun y17 hy17 h18=>gO 14 E<|Kdp [0] (.tup [I y17.1,B y17.2.1,I y17.2.2.1]) [bg y17.2.2.2,.box 25 (fQ y11.2),.box 33 [.d (Sl eS y3.1.d.Users),.d (Sl Lll y3.1.d.Owners),I y3.1.d.Life,B y3.1.d.Approve,.d (Sl Lln y3.1.l),I y3.1.fault],.box 114 [I y11.1.From,I y11.1.To]] C (Lpv hy17) E Z E E E E E E E E E E<|bK h18 fun y19 hy19 h20=>gO 17 E<|Kdp [0] (.tup [I y19.1,I y19.2.1]) [bg y19.2.2,.box 25 (fQ y11.2),.box 33 [.d (Sl eS y3.1.d.Users),.d (Sl Lll y3.1.d.Owners),I y3.1.d.Life,B y3.1.d.Approve,.d (Sl Lln y3.1.l),I y3.1.fault],.box 114 [I y11.1.From,I y11.1.To]] C (Lpw hy19) E Z E E E E E E E E E E<|gO 8 E<|jD<|bK h20 fun y21 hy21 h22=>gA 3 E<|Kdr C (Lpx hy21) E E E E E E<|Kdl hΓ (enc:=(eN .i64)) [y3.1.fault,y21] E E E E E E E E E E E E<|bK h22 fun y23 hy23 h24=>Kdr C (Lnj hy23) E E E E E E<|Kcg hΓ 9 E<|Kco 3 [(4,.ptr 2 0),(5,I y5.1),(6,I y7.1),(7,S y9.1),(8,.ptr 3 0),(9,.d (Sl eS y13.1)),(10,I y13.2.1),(11,.d (Sl eS y15.1)),(12,I y15.2.1),(13,I y17.1),(14,B y17.2.1),(15,I y17.2.2.1),(16,I y19.1),(17,I y19.2.1),(18,I y23),(85,I y23),(91,B ((decide ((y7.1:Int)<0))||(decide ((y7.1:Int)>345686400))))] [bg y19.2.2,.box 25 (fQ y11.2),.box 33 [.d (Sl eS y3.1.d.Users),.d (Sl Lll y3.1.d.Owners),I y3.1.d.Life,B y3.1.d.Approve,.d (Sl Lln y3.1.l),I y3.1.fault],.box 114 [I y11.1.From,I y11.1.To]] ?_ ?_
 ·refine Koz E E (fun hb=>?_) (fun hb=>?_)
  ·exact gO 4 E<|⟨⟨E,E,E,E,E,E,E,E,E,E,E,E,E,E,E,E,Kbq E (or_t hb),tV⟩,[],E,.inl E⟩
  exact gO 4 E<|⟨⟨E,E,E,E,E,E,E,E,E,E,E,E,E,E,E,E,Kbq E (or_f hb),tV⟩,[],E,.inl E⟩
 refine bK h24 fun y25 hy25 h26=>Kdq C (Lpy hy25) E Z E E E E E<|Kdk hΓ (enc:=(eN .i64)) [y23,y25] E E E E E E E E E E E E Z<|bK h26 fun y27 hy27 h28=>Kdq C (Lnj hy27) E Z E E E E E<|gO 4 E<|jD<|bK h28 fun y29 hy29 h30=>gA 3 E<|Kdr C (Lpz hy29) E E E E E E<|bK h30 fun y31 hy31 h32=>Kcg hΓ 1 E<|Kdr C (Lqa hy31) E E E E E E<|Kdl hΓ (enc:=(eN .i64)) [y3.1.fault,y29,y31] E E E E E E E E E E E E<|bK h32 fun y33 hy33 h34=>Kdr C (Lnj hy33) E E E E E E<|Kcg hΓ 10 E<|Kco 4 [(4,.ptr 2 0),(5,I y5.1),(6,I y7.1),(7,S y9.1),(8,.ptr 3 0),(9,.d (Sl eS y13.1)),(11,.d (Sl eS y15.1)),(12,I y15.2.1),(13,I y17.1),(14,B y17.2.1),(16,I y19.1),(17,I y19.2.1),(18,I y23),(19,I y27),(20,I y33),(110,B (((y13.2.1:Int) != y23)||((y17.2.2.1:Int) != y23)))] [bg y19.2.2,.box 25 (fQ y11.2),.box 33 [.d (Sl eS y3.1.d.Users),.d (Sl Lll y3.1.d.Owners),I y3.1.d.Life,B y3.1.d.Approve,.d (Sl Lln y3.1.l),I y3.1.fault],.box 114 [I y11.1.From,I y11.1.To]] ?_ ?_
 ·refine Koz E E (fun hb=>?_) (fun hb=>?_)
  ·exact gO 5 E<|⟨⟨E,E,E,E,E,E,E,E,E,E,E,E,E,E,E,Kbq E (or_t hb),tV⟩,[],E,.inl E⟩
  exact gO 5 E<|⟨⟨E,E,E,E,E,E,E,E,E,E,E,E,E,E,E,Kbq E (or_f hb),tV⟩,[],E,.inl E⟩
 refine gO 1 E<|Kco 4 [(4,.ptr 2 0),(5,I y5.1),(6,I y7.1),(7,S y9.1),(8,.ptr 3 0),(9,.d (Sl eS y13.1)),(11,.d (Sl eS y15.1)),(13,I y17.1),(14,B y17.2.1),(16,I y19.1),(17,I y19.2.1),(18,I y23),(19,I y27),(20,I y33),(115,B ((((y13.2.1:Int) != y23)||((y17.2.2.1:Int) != y23))||((y15.2.1:Int) != y27)))] [bg y19.2.2,.box 25 (fQ y11.2),.box 33 [.d (Sl eS y3.1.d.Users),.d (Sl Lll y3.1.d.Owners),I y3.1.d.Life,B y3.1.d.Approve,.d (Sl Lln y3.1.l),I y3.1.fault],.box 114 [I y11.1.From,I y11.1.To]] ?_ ?_
 ·refine Koz E E (fun hb=>?_) (fun hb=>?_)
  ·exact gO 5 E<|⟨⟨E,E,E,E,E,E,E,E,E,E,E,E,E,E,Kbq E (or_t hb),tV⟩,[],E,.inl E⟩
  exact gO 5 E<|⟨⟨E,E,E,E,E,E,E,E,E,E,E,E,E,E,Kbq E (or_f hb),tV⟩,[],E,.inl E⟩
 refine gO 1 E<|Kco 4 [(4,.ptr 2 0),(5,I y5.1),(6,I y7.1),(7,S y9.1),(8,.ptr 3 0),(9,.d (Sl eS y13.1)),(11,.d (Sl eS y15.1)),(13,I y17.1),(14,B y17.2.1),(16,I y19.1),(18,I y23),(19,I y27),(20,I y33),(120,B (((((y13.2.1:Int) != y23)||((y17.2.2.1:Int) != y23))||((y15.2.1:Int) != y27))||((y19.2.1:Int) != y33)))] [bg y19.2.2,.box 25 (fQ y11.2),.box 33 [.d (Sl eS y3.1.d.Users),.d (Sl Lll y3.1.d.Owners),I y3.1.d.Life,B y3.1.d.Approve,.d (Sl Lln y3.1.l),I y3.1.fault],.box 114 [I y11.1.From,I y11.1.To]] ?_ ?_
 ·refine Koz E E (fun hb=>?_) (fun hb=>?_)
  ·exact gO 5 E<|⟨⟨E,E,E,E,E,E,E,E,E,E,E,E,E,Kbq E (or_t hb),tV⟩,[],E,.inl E⟩
  exact gO 5 E<|⟨⟨E,E,E,E,E,E,E,E,E,E,E,E,E,Kbq E (or_f hb),tV⟩,[],E,.inl E⟩
 refine gO 2 E<|Kci E (fun hb=>?_) (fun hb=>?_)
 ·have h35:=cT h34 hb
  exact gA 7 E<|oSi h35▸Kec hΓ [_,_,_] (.inr E) E E E E (.inr ⟨HB.mk E,E⟩)
 have h36:=cF h34 hb
 refine bK h36 fun q37 hq37 h38=>gA 9 E<|Kgr (q:=q37) (fun a39=>[(4,.ptr 2 0),(5,I y5.1),(6,I y7.1),(7,S y9.1),(8,.ptr 3 0),(11,.d (Sl eS y15.1)),(16,I y19.1),(19,I y27),(20,I y33)]) (fun a39=>[bg a39,.box 25 (fQ y11.2),.box 33 [.d (Sl eS y3.1.d.Users),.d (Sl Lll y3.1.d.Owners),I y3.1.d.Life,B y3.1.d.Approve,.d (Sl Lln y3.1.l),I y3.1.fault],.box 114 [I y11.1.From,I y11.1.To]]) ?_ ?_
 ·refine Kci E (fun hb=>?_) (fun hb=>?_)
  ·have h40:=cT hq37 hb
   refine bK h40 fun y41 hy41 h42=>gA 7 E<|Kdp [0] (.tup [I y41.1,B y41.2.1]) [bg y41.2.2,.box 25 (fQ y11.2),.box 33 [.d (Sl eS y3.1.d.Users),.d (Sl Lll y3.1.d.Owners),I y3.1.d.Life,B y3.1.d.Approve,.d (Sl Lln y3.1.l),I y3.1.fault],.box 114 [I y11.1.From,I y11.1.To]] C (Lla hy41) E Z E E E E E E E E E E<|bK h42 fun y43 hy43 h44=>gO 15 E<|Kdp [0] (.sl 4 y43.1.length) [bg y43.2,.box 25 (fQ y11.2),.box 33 [.d (Sl eS y3.1.d.Users),.d (Sl Lll y3.1.d.Owners),I y3.1.d.Life,B y3.1.d.Approve,.d (Sl Lln y3.1.l),I y3.1.fault],.box 114 [I y11.1.From,I y11.1.To],rO 9 1 eS y43.1] C (Lky hy43) E Z E E E E E E E E E E<|Kdv 4 [138] _ [bg y43.2,.box 25 (fQ y11.2),.box 33 [.d (Sl eS y3.1.d.Users),.d (Sl Lll y3.1.d.Owners),I y3.1.d.Life,B y3.1.d.Approve,.d (Sl Lln y3.1.l),I y3.1.fault],.box 114 [I y11.1.From,I y11.1.To],.dead] E E E Z<|bK h44 fun y45 hy45 h46=>Kdq C (Lkz hy45) E Z E E E E E<|gO 2 E<|Kco 4 [(4,.ptr 2 0),(5,I y5.1),(6,I y7.1),(7,S y9.1),(8,.ptr 3 0),(11,.d (Sl eS y15.1)),(14,B y17.2.1),(16,I y19.1),(19,I y27),(20,I y33),(22,B y41.2.1),(145,B ((!y45)||((y17.1:Int) != y41.1)))] [bg y43.2,.box 25 (fQ y11.2),.box 33 [.d (Sl eS y3.1.d.Users),.d (Sl Lll y3.1.d.Owners),I y3.1.d.Life,B y3.1.d.Approve,.d (Sl Lln y3.1.l),I y3.1.fault],.box 114 [I y11.1.From,I y11.1.To],.dead] ?_ ?_
   ·refine Koz E E (fun hb=>?_) (fun hb=>?_)
    ·exact gO 5 E<|⟨⟨E,E,E,E,E,E,E,E,E,E,E,Kbq E (or_t hb),tV⟩,[],E,.inl E⟩
    exact gO 5 E<|⟨⟨E,E,E,E,E,E,E,E,E,E,E,Kbq E (or_f hb),tV⟩,[],E,.inl E⟩
   refine gO 1 E<|Kco 4 [(4,.ptr 2 0),(5,I y5.1),(6,I y7.1),(7,S y9.1),(8,.ptr 3 0),(11,.d (Sl eS y15.1)),(16,I y19.1),(19,I y27),(20,I y33),(150,B (((!y45)||((y17.1:Int) != y41.1))||(!((y17.2.1:Bool)==y41.2.1))))] [bg y43.2,.box 25 (fQ y11.2),.box 33 [.d (Sl eS y3.1.d.Users),.d (Sl Lll y3.1.d.Owners),I y3.1.d.Life,B y3.1.d.Approve,.d (Sl Lln y3.1.l),I y3.1.fault],.box 114 [I y11.1.From,I y11.1.To],.dead] ?_ ?_
   ·refine Koz E E (fun hb=>?_) (fun hb=>?_)
    ·exact gO 5 E<|⟨⟨E,E,E,E,E,E,E,E,E,Kbq E (or_t hb),tV⟩,[],E,.inl E⟩
    exact gO 5 E<|⟨⟨E,E,E,E,E,E,E,E,E,Kbq E (or_f hb),tV⟩,[],E,.inl E⟩
   refine gO 2 E<|jC E h46 (fun h47=>?_) fun h50=>gA 1 E<|oSi h50▸⟨_,E,⟨⟨E,E,E,E,E,E,E,E,E,tV⟩,[_],E,.inr ⟨HB.mk E,FB.mk E,Z⟩⟩⟩
   refine gA 6 E<|bK h47 fun v48 hv48 h49=>?_
   cases h49
   cases h38
   exact gA 2 E<|oSi hv48▸Kec hΓ [_,_,_,_] (.inr E) E E E E (.inr ⟨HB.mk E,E⟩)
  have h51:=cF hq37 hb
  exact gA 1 E<|oSi h51▸⟨_,E,⟨⟨E,E,E,E,E,E,E,E,E,tV⟩,[],E,.inl E⟩⟩
 intro a39 ha
 subst ha
 replace h38:=Kgh h38
 refine gA 6 E<|bK h38 fun q52 hq52 h53=>Kco 10 [(4,.ptr 2 0),(7,S y9.1),(8,.ptr 3 0),(16,I y19.1),(20,I y33),(163,B q52.2)] [bg q52.1,.box 25 (fQ y11.2),.box 33 [.d (Sl eS y3.1.d.Users),.d (Sl Lll y3.1.d.Owners),I y3.1.d.Life,B y3.1.d.Approve,.d (Sl Lln y3.1.l),I y3.1.fault],.box 114 [I y11.1.From,I y11.1.To]] ?_ ?_
 ·refine Koz E E (fun hb=>?_) (fun hb=>?_)
  ·have h54:=cT hq52 hb
   exact gO 11 E<|oSi h54▸⟨⟨E,E,E,E,E,E,tV⟩,[],E,.inl E⟩
  have h55:=cF hq52 hb
  exact bK h55 fun y56 hy56 h57=>gO 7 E<|Kox E<|Kdp [0] (.sl 4 y56.1.length) [bg y56.2,.box 25 (fQ y11.2),.box 33 [.d (Sl eS y3.1.d.Users),.d (Sl Lll y3.1.d.Owners),I y3.1.d.Life,B y3.1.d.Approve,.d (Sl Lln y3.1.l),I y3.1.fault],.box 114 [I y11.1.From,I y11.1.To],rO 9 1 eS y56.1] C (Llf hy56) E Z E E E E E E E E E E<|Kdv 4 [161] _ [bg y56.2,.box 25 (fQ y11.2),.box 33 [.d (Sl eS y3.1.d.Users),.d (Sl Lll y3.1.d.Owners),I y3.1.d.Life,B y3.1.d.Approve,.d (Sl Lln y3.1.l),I y3.1.fault],.box 114 [I y11.1.From,I y11.1.To],.dead] E E E Z<|bK h57 fun y58 hy58 h59=>Kox E<|Kdq C (Lkz hy58) E Z E E E E E<|gO 2 E<|oSi h59▸⟨⟨E,E,E,E,E,E,tV⟩,[_],E,.inr ⟨HB.mk E,FB.mk E,Z⟩⟩
 refine gO 1 E<|bK h53 fun q60 hq60 h61=>Kco 14 [(178,B q60.2)] [bg q60.1,.box 25 (fQ y11.2),.box 33 [.d (Sl eS y3.1.d.Users),.d (Sl Lll y3.1.d.Owners),I y3.1.d.Life,B y3.1.d.Approve,.d (Sl Lln y3.1.l),I y3.1.fault],.box 114 [I y11.1.From,I y11.1.To]] ?_ ?_
 ·refine Koz E E (fun hb=>?_) (fun hb=>?_)
  ·have h62:=cT hq60 hb
   refine gO 3 E<|bK h62 fun q63 hq63 h64=>Kco 10 [(164,B true),(177,B q63.2)] [bg q63.1,.box 25 (fQ y11.2),.box 33 [.d (Sl eS y3.1.d.Users),.d (Sl Lll y3.1.d.Owners),I y3.1.d.Life,B y3.1.d.Approve,.d (Sl Lln y3.1.l),I y3.1.fault],.box 114 [I y11.1.From,I y11.1.To]] ?_ ?_
   ·refine Koz E E (fun hb=>?_) (fun hb=>?_)
    ·have h65:=cT hq63 hb
     exact gO 11 E<|oSi h65▸⟨⟨E,E,tV⟩,[],E,.inl E⟩
    have h66:=cF hq63 hb
    exact bK h66 fun y67 hy67 h68=>gO 7 E<|Kox E<|Kdp [0] (I y67.1) [bg y67.2,.box 25 (fQ y11.2),.box 33 [.d (Sl eS y3.1.d.Users),.d (Sl Lll y3.1.d.Owners),I y3.1.d.Life,B y3.1.d.Approve,.d (Sl Lln y3.1.l),I y3.1.fault],.box 114 [I y11.1.From,I y11.1.To]] C (Llg hy67) E Z E E E E E E E E E E<|gO 3 E<|oSi h68▸⟨⟨E,E,tV⟩,[],E,.inl E⟩
   exact gO 2 E<|oSi h64▸⟨⟨E,tV⟩,[],E,.inl E⟩
  have h69:=cF hq60 hb
  exact gO 15 E<|oSi h69▸⟨⟨E,tV⟩,[],E,.inl E⟩
 refine gO 1 E<|bK h61 fun q70 hq70 h71=>Kco 2 [(181,B q70)] [bg q60.1,.box 25 (fQ y11.2),.box 33 [.d (Sl eS y3.1.d.Users),.d (Sl Lll y3.1.d.Owners),I y3.1.d.Life,B y3.1.d.Approve,.d (Sl Lln y3.1.l),I y3.1.fault],.box 114 [I y11.1.From,I y11.1.To]] ?_ ?_
 ·refine Koz E E (fun hb=>?_) (fun hb=>?_)
  ·have h72:=cT hq70 hb
   exact bK h72 fun y73 hy73 h74=>Kox E<|Kdq C (Lli hy73) E Z E E E E E<|gO 2 E<|oSi h74▸⟨⟨E,tV⟩,[],E,.inl E⟩
  have h75:=cF hq70 hb
  exact gO 3 E<|oSi h75▸⟨⟨E,tV⟩,[],E,.inl E⟩
 exact gO 4 E<|oSi h71▸Kec hΓ [_,_,_] (.inr E) E E E E (.inr ⟨HB.mk E,E⟩)
end Go.Proofs.YtjmlnnanfkiakaaGreatDoor
