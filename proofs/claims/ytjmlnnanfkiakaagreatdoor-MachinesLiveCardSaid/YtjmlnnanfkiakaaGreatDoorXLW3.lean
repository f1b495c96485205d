import Derived.Test.YtjmlnnanfkiakaaGreatDoorXLM
import Derived.Test.YtjmlnnanfkiakaaGreatDoorGt
import Derived.Test.YtjmlnnanfkiakaaGreatDoorStrS
import Derived.Test.YtjmlnnanfkiakaaGreatDoorXLW2
set_option maxHeartbeats 8000000
set_option linter.all false
set_option maxRecDepth 100000
namespace Go.Proofs.YtjmlnnanfkiakaaGreatDoor
open Go.Gk
theorem Lpp{k:Nat}{data:List Lfc}{a:Int}{b:Int}{r:List Lfc}(h:Ljc k data a b=some r):EC Tryz.prog 308 [.sl 0 data.length,I a,I b,.fn (.func 166) [] []] [rO 77 8 Llr data] fun g hp'=>g=.tup []∧hp'=[rO 77 8 Llr r]:=by
 unfold Ljc at h
 refine QN Tryz.func308 E Z<|gA 7 E<|bK h fun q4 hq4 h5=>Kgp [] [rO 77 8 Llr q4] ?_ ?_
 ·refine gA 1 E<|Kcv hq4 (fun s2=>[(0,.sl 0 s2.1.length),(1,I a),(2,I b),(3,.fn (.func 166) [] []),(8,I s2.2)]) (fun s2=>[rO 77 8 Llr s2.1]) ⟨⟨E,E,E,E,E,tV⟩,[],E,.inl E⟩ (fun s2 y10 hy8 hout9=>?_)
  refine gA 8 E<|jC E hy8 (fun h11=>?_) fun h51=>gA 4 E ?_
  ·refine gA 10 E<|bK h11 fun q15 hq15 h16=>Kgp [(0,.sl 0 q15.length),(1,I a),(2,I b),(3,.fn (.func 166) [] []),(8,I s2.2)] [rO 77 8 Llr q15] ?_ ?_
   ·refine gA 1 E<|Kcv hq15 (fun s13=>[(0,.sl 0 s13.1.length),(1,I a),(2,I b),(3,.fn (.func 166) [] []),(8,I s2.2),(9,I s13.2)]) (fun s13=>[rO 77 8 Llr s13.1]) ⟨⟨E,E,E,E,E,E,tV⟩,[],E,.inl E⟩ (fun s13 y21 hy19 hout20=>?_)
    refine bK hy19 fun q22 hq22 h23=>gA 2 E<|Kgp [(0,.sl 0 s13.1.length),(1,I a),(2,I b),(3,.fn (.func 166) [] []),(8,I s2.2),(9,I s13.2),(34,B q22)] [rO 77 8 Llr s13.1] ?_ ?_
    ·refine jD<|gA 4 E<|Kaw E E (fun hb=>?_) (fun hb=>?_)
     ·have h24:=cT hq22 hb
      refine bK h24 fun x25 hx25 h26=>?_
      have hj27:=Keh hx25
      refine Kcg hΓ 3 E<|Kbr E E (Kdb hΓ hx25 E E E E E E)<|Kbr E E (Kdh hΓ (enc:=Llr) s13.2.toNat 0 hj27 E E E E (fun _=>E) (g:=.agg (fM x25)) E)<|bK h26 fun x28 hx28 h29=>?_
      have hj30:=Keh hx28
      exact Kcg hΓ 3 E<|Kbr E E (Kdb hΓ hx28 E E E E E E)<|Kbr E E (Kdh hΓ (enc:=Llr) ((wi (s13.2 - 1)).toNat) 0 hj30 E E E E (fun _=>E) (g:=.agg (fM x28)) E)<|bK h29 fun y31 hy31 h32=>Kds C (Lpo hy31) E E E E E E E<|Kcg hΓ 3 E<|oSi h32▸⟨⟨E,E,E,E,E,E,E,tV⟩,[],E,.inl E⟩
     have h33:=cF hq22 hb
     exact Kcg hΓ 14 E<|oSi h33▸⟨⟨E,E,E,E,E,E,E,tV⟩,[],E,.inl E⟩
    refine gA 1 E<|jC E h23 (fun h34=>?_) fun h50=>gA 4 E ?_
    ·refine gA 4 E<|Kfl [rO 77 8 Llr s13.1] [9,13] [15,17] [15,17] hmix (by kernel_rfl) (by kernel_rfl) ⟨E,tV⟩ Z<|bK h34 fun x35 hx35 h36=>?_
     have hj37:=Keh hx35
     refine go_E hΓ 8 E<|ge_q E (.inl E) (fun _ _=>Kfo (qt_p (Kdb hΓ hx35 E E E E E E)))<|ge_p E (fun hp hs=>Kdh hΓ (enc:=Llr) ((wi (s13.2 - 1)).toNat) 0 hj37 E E E (hs 0 _ E E) (fun _=>E) (g:=.agg (fM x35)) E) E<|bK h36 fun x38 hx38 h39=>?_
     have hj40:=Keh hx38
     refine go_E hΓ 2 E<|ge_q E (.inl E) (fun _ _=>Kfo (qt_p (Kdb hΓ hx38 E E E E E E)))<|ge_p E (fun hp hs=>Kdh hΓ (enc:=Llr) s13.2.toNat 0 hj40 E E E (hs 0 _ E E) (fun _=>E) (g:=.agg (fM x38)) E) E<|bK h39 fun x41 hx41 h42=>?_
     have hj43:=Keh hx41
     refine ge_q E (.inl E) (fun _ _=>Kfo (qt_p (Kdb hΓ hx41 E E E E E E)))<|Kft [rO 77 8 Llr (s13.1.set s13.2.toNat x35)] E E (Kfu E) (Kfz (Khd hΓ (enc:=Llr) (z':=x35) s13.2.toNat (by have:=(gEs.1 hj43).1;simpa using this) E E E E (fun _=>E) E E E E E)) ?_
     refine bK h42 fun x44 hx44 h45=>?_
     have hj46:=Keh hx44
     refine ge_q E (.inl E) (fun _ _=>Kfo (qt_p (Kdb hΓ hx44 E E E E E E)))<|bK h45 fun x47 hx47 h48=>?_
     have hj49:(s13.1.set s13.2.toNat x35)[(wi (s13.2 - 1)).toNat]?=some x47:=hx47
     refine Kft [rO 77 8 Llr ((s13.1.set s13.2.toNat x35).set ((wi (s13.2 - 1)).toNat) x38)] E E (Kfu E) (Kfz (Khd hΓ (enc:=Llr) (z':=x38) ((wi (s13.2 - 1)).toNat) (by have:=(gEs.1 hj49).1;simpa using this) E E E E (fun _=>E) E E E E E)) ?_
     refine Kfn<|gA 2 E<|Khe 0 (n':=((s13.1.set s13.2.toNat x35).set ((wi (s13.2 - 1)).toNat) x38).length) E (by simp) ?_
     refine Khe 37 (n':=((s13.1.set s13.2.toNat x35).set ((wi (s13.2 - 1)).toNat) x38).length) E (by simp) ?_
     refine Khe 39 (n':=((s13.1.set s13.2.toNat x35).set ((wi (s13.2 - 1)).toNat) x38).length) E (by simp) ?_
     refine Khe 42 (n':=((s13.1.set s13.2.toNat x35).set ((wi (s13.2 - 1)).toNat) x38).length) E (by simp) ?_
     refine Khe 47 (n':=((s13.1.set s13.2.toNat x35).set ((wi (s13.2 - 1)).toNat) x38).length) E (by simp) ?_
     exact gA 5 E<|oSi h48▸⟨_,E,⟨⟨E,E,E,E,E,E,tV⟩,[],E,.inl E⟩⟩
    cases h50
    obtain rfl:=hout20 _ rfl
    exact⟨⟨E,E,E,E,E,tV⟩,[],E,.inl E⟩
   exact gA 7 E<|oSi h16▸⟨_,E,⟨⟨E,E,E,E,E,tV⟩,[],E,.inl E⟩⟩
  cases h51
  obtain rfl:=hout9 _ rfl
  exact⟨tV,[],E,.inl E⟩
 exact oSi h5▸Kec hΓ [] (.inl E) E E E E (.inl E)
theorem Lpq{k:Nat}{data:List Lfc}{n:Int}{r:List Lfc}(h:Ljd k data n=some r):EC Tryz.prog 250 [.sl 0 data.length,I n,.fn (.func 166) [] []] [rO 77 8 Llr data] fun g hp'=>g=.tup []∧hp'=[rO 77 8 Llr r]:=by
 unfold Ljd at h
 refine QN Tryz.func250 E Z<|gA 13 E<|bK h fun q4 hq4 h5=>Kgp [(0,.sl 0 q4.1.length),(1,I n),(2,.fn (.func 166) [] []),(6,I 20),(7,I q4.2)] [rO 77 8 Llr q4.1] ?_ ?_
 ·refine gA 1 E<|Kcv hq4 (fun s2=>[(0,.sl 0 s2.1.length),(1,I n),(2,.fn (.func 166) [] []),(6,I 20),(7,I s2.2.1),(8,I s2.2.2)]) (fun s2=>[rO 77 8 Llr s2.1]) ⟨⟨E,E,E,E,E,E,tV⟩,[],E,.inl E⟩ (fun s2 y10 hy8 hout9=>?_)
  refine gA 8 E<|jC E hy8 (fun h11=>?_) fun h16=>gA 4 E ?_
  ·exact bK h11 fun y12 hy12 h13=>gA 9 E<|Kdp [0] (.tup []) [rO 77 8 Llr y12] C (Lpp hy12) E Z E E E E E E E E E E<|gK h13 fun hg15 h14=>Kha 0 E (of_decide_eq_true hg15).symm<|gO 15 E<|oSi h14▸⟨_,E,⟨⟨E,E,E,E,E,E,tV⟩,[],E,.inl E⟩⟩
  cases h16
  obtain rfl:=hout9 _ rfl
  exact⟨⟨E,E,E,E,E,tV⟩,[],E,.inl E⟩
 refine bK h5 fun y17 hy17 h18=>gA 7 E<|Kdp [0] (.tup []) [rO 77 8 Llr y17] C (Lpp hy17) E Z E E E E E E E E E E<|gK h18 fun hg20 h19=>Kha 0 E (of_decide_eq_true hg20).symm<|gO 2 E<|bK h19 fun q24 hq24 h25=>Kgp [] [rO 77 8 Llr y17] ?_ ?_
 ·refine gA 1 E<|Kcv hq24 (fun s22=>[(0,.sl 0 y17.length),(1,I n),(2,.fn (.func 166) [] []),(6,I s22)]) (fun s22=>[rO 77 8 Llr y17]) ⟨⟨E,E,E,E,tV⟩,[],E,.inl E⟩ (fun s22 y30 hy28 hout29=>?_)
  refine gA 8 E<|jC E hy28 (fun h31=>?_) fun h46=>gA 4 E ?_
  ·refine gA 12 E<|bK h31 fun q35 hq35 h36=>Kgp [(0,.sl 0 y17.length),(1,I n),(2,.fn (.func 166) [] []),(6,I s22),(7,I 0)] [rO 77 8 Llr y17] ?_ ?_
   ·refine gA 1 E<|Kcv hq35 (fun s33=>[(0,.sl 0 y17.length),(1,I n),(2,.fn (.func 166) [] []),(6,I s22),(7,I 0),(8,I (wi (2 * s22)))]) (fun s33=>[rO 77 8 Llr y17]) ⟨⟨E,E,E,E,E,E,tV⟩,[],E,.inl E⟩ (fun s33 y41 hy39 hout40=>?_)
    refine gA 8 E<|jC E hy39 (fun h42=>?_) fun h43=>gA 4 E ?_
    ·refine gA 12 E ?_
     cases h42
    cases h43
    obtain rfl:=hout40 _ rfl
    exact⟨⟨E,E,E,E,E,tV⟩,[],E,.inl E⟩
   refine gA 17 E<|jC E h36 (fun h44=>?_) fun h45=>gA 8 E<|oSi h45▸⟨_,E,⟨⟨E,E,E,E,tV⟩,[],E,.inl E⟩⟩
   refine gA 6 E ?_
   cases h44
  cases h46
  obtain rfl:=hout29 _ rfl
  exact⟨tV,[],E,.inl E⟩
 exact oSi h25▸Kec hΓ [] (.inl E) E E E E (.inl E)
theorem Lpr{k:Nat}{x:List Lfc}{r:List Lfc}(h:Lje k x=some r):EC Tryz.prog 165 [.sl 0 x.length,.fn (.func 166) [] []] [rO 77 8 Llr x] fun g hp'=>g=.tup []∧hp'=[rO 77 8 Llr r]:=by
 unfold Lje at h
 exact QN Tryz.func165 E Z<|bK h fun y1 hy1 h2=>gA 5 E<|Kdp [0] (.tup []) [rO 77 8 Llr y1] C (Lpq hy1) E Z E E E E E E E E E E<|gO 1 E<|oSi h2▸Kec hΓ [] (.inl E) E E E E (.inl E)
theorem Lps{k:Nat}{d:Lex}{l:List Ley}{moment:Int}{within:Int}{al:BagT}{r:(List Str)×Int×BagT}(h:Ljf k d l moment within al=some r):EC Tryz.prog 69 [.agg (fD d),.d (Sl Lln l),I moment,I within] [bg al] fun g hp'=>g=.tup [.d (Sl eS r.1),I r.2.1]∧hp'=[bg r.2.2]:=by
 unfold Ljf at h
 refine QN Tryz.func69 E Z<|gA 2 E<|Kqg E E E E Z<|Kqg E E E E Z<|Kqg E E E E Z<|bK h fun y1 hy1 h2=>gO 9 E ?_
 rcases y1 with⟨_ | z3,z4,z5⟩
 ·refine Kdp [0] (.tup [.d (.v (.pointer none)),I z4]) [bg z5,.box 29 (fD d),.box 3 [I moment],.box 3 [I within]] C (Lpb hy1) E Z E E E E E E E E E E<|gO 14 E<|jC E h2 (fun h6=>?_) fun h7=>bK h7 fun y8 hy8 h9=>gA 6 E<|Kdq C (Lnp hy8) E Z E E E E E<|gO 2 E<|jC E h9 (fun h10=>?_) fun h11=>?_
  ·exact gA 9 E<|oSi h6▸Kec hΓ [_,_,_] (.inr E) E E E E (.inr ⟨HB.mk E,E⟩)
  ·exact gA 8 E<|oSi h10▸Kec hΓ [_,_,_] (.inr E) E E E E (.inr ⟨HB.mk E,E⟩)
  refine gA 6 E ?_
  cases h11
 refine Kdp [0] (.tup [.ptr 8 0,I z4]) (bg z5::.box 29 (fD d)::.box 3 [I moment]::.box 3 [I within]::oN z3 4 5 6 7 []) C (Lpc hy1) E Z E E E E E E E E E E<|gO 14 E<|jC E h2 (fun h12=>?_) fun h13=>bK h13 fun y14 hy14 h15=>gA 6 E<|Kdq C (Lnp hy14) E Z E E E E E<|gO 2 E<|jC E h15 (fun h16=>?_) fun h17=>?_
 ·exact gA 9 E<|oSi h12▸Kec hΓ [_,_,_,_,_,_,_,_] (.inr E) E E E E (.inr ⟨HB.mk E,E⟩)
 ·exact gA 8 E<|oSi h16▸Kec hΓ [_,_,_,_,_,_,_,_] (.inr E) E E E E (.inr ⟨HB.mk E,E⟩)
 exact bK h17 fun y18 hy18 h19=>gA 6 E<|Kdp [4,5,6,7,8] (.sl 9 y18.length) (bg z5::.box 29 (fD d)::.box 3 [I moment]::.box 3 [I within]::oN z3 4 5 6 7 [rO 77 8 Llr y18]) C (Lpi hy18) E Z E E E E E E E E E E<|bK h19 fun y20 hy20 h21=>gO 1 E<|Kdp [9,2,3] (.sl 9 y20.length) (bg z5::.box 29 (fD d)::.box 3 [I moment]::.box 3 [I within]::oN z3 4 5 6 7 [rO 77 8 Llr y20]) C (Lpn hy20) E Z E E E E E E E E E E<|bK h21 fun y22 hy22 h23=>gO 6 E<|Kdp [9] (.tup []) (bg z5::.box 29 (fD d)::.box 3 [I moment]::.box 3 [I within]::oN z3 4 5 6 7 [rO 77 8 Llr y22]) C (Lpr hy22) E Z E E E E E E E E E E<|gK h23 fun hg25 h24=>Kha 12 E (of_decide_eq_true hg25).symm<|bK h24 fun y26 hy26 h27=>gO 5 E<|Kke C (Lpj hy26) (Kkd (fun _=>E) _) E Z E E E E<|Kdx (bg z5::.box 29 (fD d)::.box 3 [I moment]::.box 3 [I within]::oN z3 4 5 6 7 [rO 77 8 Llr y22,rO 9 1 eS y26]) E<|Kdv 10 [33] _ (bg z5::.box 29 (fD d)::.box 3 [I moment]::.box 3 [I within]::oN z3 4 5 6 7 [rO 77 8 Llr y22,.dead]) E E E Z<|gO 5 E<|oSi h27▸Kec hΓ [_,_,_,_,_,_,_,_,_,_] (.inr E) E E E E (.inr ⟨HB.mk E,E⟩)
theorem Lpt{d:Lex}{l:List Ley}{al:BagT}{r:Lfe×BagT}(h:Ljg d l al=some r):EC Tryz.prog 93 [.agg (fD d),.d (Sl Lln l)] [bg al] fun g hp'=>g=.ptr 5 0∧hp'=(bg r.2::oN r.1 1 2 3 4 []):=by
 unfold Ljg at h
 exact QM Tryz.func93 E Z<|gA 2 E<|Kqg E E E E Z<|bK h fun y1 hy1 h2=>gO 7 E<|Kdp [0] (.ptr 6 0) (bg y1.2::.box 29 (fD d)::oN y1.1 2 3 4 5 []) C (Lpa hy1) E Z E E E E E E E E E E<|gO 4 E<|Kix 1 (bg y1.2::.dead::oN y1.1 2 3 4 5 []) E Z<|Kgn 2 1 [bg y1.2,mObB y1.1.users,.dead,mObH y1.1.passes,mObM y1.1.there,mObT y1.1.story,bN y1.1 1 3 4 5] E E E E E E<|Kgn 3 2 [bg y1.2,mObB y1.1.users,mObH y1.1.passes,.dead,mObM y1.1.there,mObT y1.1.story,bN y1.1 1 2 4 5] E E E E E E<|Kgn 4 3 [bg y1.2,mObB y1.1.users,mObH y1.1.passes,mObM y1.1.there,.dead,mObT y1.1.story,bN y1.1 1 2 3 5] E E E E E E<|Kgn 5 4 [bg y1.2,mObB y1.1.users,mObH y1.1.passes,mObM y1.1.there,mObT y1.1.story,.dead,bN y1.1 1 2 3 4] E E E E E E<|Kgn 6 5 (bg y1.2::oN y1.1 1 2 3 4 [.dead]) E E E E E E<|Kgk<|oSi h2▸Kec hΓ [_] (.inr E) E E E E (.inr ⟨HB.mk E,E⟩)
theorem Lpu{st:Option (List (Value×List D)×List Nat×Nat)}{n:Lfe}{node:Str}{r:List Lfa}(h:Ljh n node=some r):EC Tryz.prog 168 [.ptr 4 0,S node] [mObB n.users,mObH n.passes,mObM n.there,mObS kS false (eT 233 11 Lls) n.story st,bN n 0 1 2 3] fun g hp'=>g=.sl 5 r.length∧hp'=[mObB n.users,mObH n.passes,mObM n.there,mObS kS false (eT 233 11 Lls) n.story st,bN n 0 1 2 3,rO 114 2 Llp r]:=by
 unfold Ljh at h
 refine QM Tryz.func168 E Z<|gA 12 E<|eo_o E (Kjn (Kkf hΓ (kv:=kS) (te:=233) (sz:=11) (enc:=Lls) n.story node E E E E Khq E E E E E) G.Le.unt)<|gO 5 E<|Kdn (t:=0) 114 2 E Z<|gO 10 E<|bK h fun q4 hq4 h5=>Kcy 5 E fun hb7=>Kgp [(6,.sl 5 q4.length)] [mObB n.users,mObH n.passes,mObM n.there,mObS kS false (eT 233 11 Lls) n.story st,bN n 0 1 2 3,rO 114 2 Llp q4] ?_ ?_
 ·refine gA 1 E<|Kee (((mGet n.story node).getD (1,[])).2) hq4 (fun i1 s2=>[(5,.d (Sl Lls (((mGet n.story node).getD (1,[])).2))),(6,.sl 5 s2.length),(17,.d (Sl Lls (((mGet n.story node).getD (1,[])).2))),(18,I ((((mGet n.story node).getD (1,[])).2).length:Int)),(19,I (i1:Int))]) (fun s2=>[mObB n.users,mObH n.passes,mObM n.there,mObS kS false (eT 233 11 Lls) n.story st,bN n 0 1 2 3,rO 114 2 Llp s2]) ⟨⟨E,E,E,E,E,tV⟩,[],E,.inl E⟩ (fun i1 x3 s2 y11 hx8 hlt hy9=>?_) (?_)
  ·refine gA 6 E<|Kcj E (dT (Int.ofNat_lt.2 hlt))<|gA 7 E<|eo_o E (Kcz hΓ (enc:=Lls) (Kcs hx8) E E E E E (fun _=>E))<|gO 1 E<|Kqf hΓ E E E Z<|gO 1 E<|Kqk hΓ E E E E E E E E Z<|Kdx [mObB n.users,mObH n.passes,mObM n.there,mObS kS false (eT 233 11 Lls) n.story st,bN n 0 1 2 3,rO 114 2 Llp s2,.box 233 [I x3.v_at,S x3.is.Node,S x3.is.User,S x3.is.Name,S x3.is.Public,.d (Sl eS x3.is.Tags),I x3.is.Joined,I x3.is.Expires,B x3.is.Approved,B x3.gone,B x3.key]] E<|bK hy9 fun q12 hq12 h13=>gO 17 E<|Kgp [(5,.d (Sl Lls (((mGet n.story node).getD (1,[])).2))),(6,.sl 5 s2.length),(8,.ptr 6 0),(9,I q12),(17,.d (Sl Lls (((mGet n.story node).getD (1,[])).2))),(18,I ((((mGet n.story node).getD (1,[])).2).length:Int)),(19,I (i1:Int))] [mObB n.users,mObH n.passes,mObM n.there,mObS kS false (eT 233 11 Lls) n.story st,bN n 0 1 2 3,rO 114 2 Llp s2,.box 233 [I x3.v_at,S x3.is.Node,S x3.is.User,S x3.is.Name,S x3.is.Public,.d (Sl eS x3.is.Tags),I x3.is.Joined,I x3.is.Expires,B x3.is.Approved,B x3.gone,B x3.key]] ?_ ?_
   ·refine jC E hq12 (fun h14=>?_) fun h17=>gA 1 E<|oSi h17▸⟨⟨E,E,E,E,E,E,E,tV⟩,[],E,.inl E⟩
    exact bK h14 fun x15 hx15 h16=>gA 4 E<|eo_o E (Kcz hΓ (enc:=Lls) hx15 E E E E E (fun _=>E))<|gO 4 E<|oSi h16▸⟨⟨E,E,E,E,E,E,E,tV⟩,[],E,.inl E⟩
   refine gA 7 E<|Kco 5 [(5,.d (Sl Lls (((mGet n.story node).getD (1,[])).2))),(6,.sl 5 s2.length),(8,.ptr 6 0),(9,I q12),(17,.d (Sl Lls (((mGet n.story node).getD (1,[])).2))),(18,I ((((mGet n.story node).getD (1,[])).2).length:Int)),(19,I (i1:Int)),(42,B (x3.gone||(!x3.is.Approved)))] [mObB n.users,mObH n.passes,mObM n.there,mObS kS false (eT 233 11 Lls) n.story st,bN n 0 1 2 3,rO 114 2 Llp s2,.box 233 [I x3.v_at,S x3.is.Node,S x3.is.User,S x3.is.Name,S x3.is.Public,.d (Sl eS x3.is.Tags),I x3.is.Joined,I x3.is.Expires,B x3.is.Approved,B x3.gone,B x3.key]] ?_ ?_
   ·refine Koz E E (fun hb=>?_) (fun hb=>?_)
    ·exact gO 6 E<|⟨⟨E,E,E,E,E,E,E,Kbq E (or_t hb),tV⟩,[],E,.inl E⟩
    exact gO 6 E<|⟨⟨E,E,E,E,E,E,E,Kbq E (or_f hb),tV⟩,[],E,.inl E⟩
   refine gO 2 E<|jC E h13 (fun h18=>?_) fun h19=>gA 21 E<|jC E h19 (fun h20=>?_) fun h21=>?_
   ·refine gA 8 E ?_
    cases h18
    exact⟨⟨E,E,E,E,Kbp E (Kbo (nLl hlt hb7)),tV⟩,[_],E,.inr ⟨HB.mk E,FB.mk E,Z⟩⟩
   ·refine gA 8 E ?_
    cases h20
    exact⟨⟨E,E,E,E,Kbp E (Kbo (nLl hlt hb7)),tV⟩,[_],E,.inr ⟨HB.mk E,FB.mk E,Z⟩⟩
   refine bK h21 fun q22 hq22 h23=>gA 12 E<|Kgp [(5,.d (Sl Lls (((mGet n.story node).getD (1,[])).2))),(6,.sl 5 s2.length),(8,.ptr 6 0),(9,I (if x3.is.Expires<q12 then x3.is.Expires else q12)),(10,I (wi ((s2.length:Int) - 1))),(17,.d (Sl Lls (((mGet n.story node).getD (1,[])).2))),(18,I ((((mGet n.story node).getD (1,[])).2).length:Int)),(19,I (i1:Int)),(66,B q22)] [mObB n.users,mObH n.passes,mObM n.there,mObS kS false (eT 233 11 Lls) n.story st,bN n 0 1 2 3,rO 114 2 Llp s2,.box 233 [I x3.v_at,S x3.is.Node,S x3.is.User,S x3.is.Name,S x3.is.Public,.d (Sl eS x3.is.Tags),I x3.is.Joined,I x3.is.Expires,B x3.is.Approved,B x3.gone,B x3.key]] ?_ ?_
   ·refine jD<|gA 3 E<|Kaw E E (fun hb=>?_) (fun hb=>?_)
    ·have h24:=cT hq22 hb
     refine bK h24 fun x25 hx25 h26=>?_
     have hj27:=Keh hx25
     exact Kcg hΓ 2 E<|Kbr E E (Kdb hΓ hx25 E E E E E E)<|Kcg hΓ 1 E<|Kbr E E (Kdh hΓ (enc:=Llp) ((wi ((s2.length:Int) - 1)).toNat) 1 hj27 E E E E (fun _=>E) (g:=I x25.To) E)<|Kcg hΓ 5 E<|oSi h26▸⟨⟨E,E,E,E,E,E,E,E,E,tV⟩,[],E,.inl E⟩
    have h28:=cF hq22 hb
    exact Kcg hΓ 10 E<|oSi h28▸⟨⟨E,E,E,E,E,E,E,E,E,tV⟩,[],E,.inl E⟩
   refine gA 1 E<|jC E h23 (fun h29=>?_) fun h33=>gA 7 E<|Kam hΓ (gs:=[I x3.v_at,I (if x3.is.Expires<q12 then x3.is.Expires else q12)]) E E E E E E E<|Kdk hΓ (enc:=Llp) [(⟨x3.v_at,(if x3.is.Expires<q12 then x3.is.Expires else q12)⟩:Lfa)] E E E E E E E E E E E E Z<|bK h33 fun y34 hy34 h35=>Kdy hΓ (enc:=Llp) hy34 E E E E E E E E E (fun _=>E) E E E E<|gO 8 E ?_
   ·refine bK h29 fun x30 hx30 h31=>?_
    have hj32:=Keh hx30
    refine gA 5 E<|eo_o E (Kdb hΓ hx30 E E E E E E)<|gO 1 E<|Kdj hΓ (enc:=Llp) (z':=(⟨x30.From,(if x3.is.Expires<q12 then x3.is.Expires else q12)⟩:Lfa)) ((wi ((s2.length:Int) - 1)).toNat) 1 hj32 E E E E (fun _=>E) E E E E E E Z<|Kdx [mObB n.users,mObH n.passes,mObM n.there,mObS kS false (eT 233 11 Lls) n.story st,bN n 0 1 2 3,rO 114 2 Llp (s2.set ((wi ((s2.length:Int) - 1)).toNat) (⟨x30.From,(if x3.is.Expires<q12 then x3.is.Expires else q12)⟩:Lfa)),.box 233 [I x3.v_at,S x3.is.Node,S x3.is.User,S x3.is.Name,S x3.is.Public,.d (Sl eS x3.is.Tags),I x3.is.Joined,I x3.is.Expires,B x3.is.Approved,B x3.gone,B x3.key]] E<|Kha 6 (n':=(s2.set ((wi ((s2.length:Int) - 1)).toNat) (⟨x30.From,(if x3.is.Expires<q12 then x3.is.Expires else q12)⟩:Lfa)).length) E List.length_set.symm<|gO 10 E ?_
    cases h31
    exact⟨⟨E,E,E,E,Kbp E (Kbo (nLl hlt hb7)),tV⟩,[_],E,.inr ⟨HB.mk E,FB.mk E,Z⟩⟩
   cases h35
   exact⟨⟨E,E,E,E,Kbp E (Kbo (nLl hlt hb7)),tV⟩,[_],E,.inr ⟨HB.mk E,FB.mk E,Z⟩⟩
  exact gA 6 E<|Kck E (dF (Int.lt_irrefl _))<|gA 4 E<|⟨⟨E,tV⟩,[],E,.inl E⟩
 exact gA 8 E<|Kgk<|oSi h5▸Kec hΓ [] (.inr E) E E E E (.inl E)
theorem Lpv{k:Nat}{d:Lex}{l:List Ley}{moment:Int}{al:BagT}{r:Int×Bool×Int×BagT}(h:Lji k d l moment al=some r):EC Tryz.prog 70 [.agg (fD d),.d (Sl Lln l),I moment] [bg al] fun g hp'=>g=.tup [I r.1,B r.2.1,I r.2.2.1]∧hp'=[bg r.2.2.2]:=by
 unfold Lji at h
 refine QN Tryz.func70 E Z<|gA 2 E<|Kqg E E E E Z<|bK h fun y1 hy1 h2=>gO 10 E<|Kdq C (Log hy1) E Z E E E E E<|gO 9 E<|Kci E (fun hb=>?_) (fun hb=>?_)
 ·have h3:=cT h2 hb
  exact gA 10 E<|oSi h3▸Kec hΓ [_] (.inr E) E E E E (.inr ⟨HB.mk E,E⟩)
 have h4:=cF h2 hb
 refine bK h4 fun y5 hy5 h6=>gA 6 E<|Kdq C (Lns hy5) E Z E E E E E<|gO 3 E<|Kci E (fun hb=>?_) (fun hb=>?_)
 ·have h7:=cT h6 hb
  exact gA 9 E<|oSi h7▸Kec hΓ [_] (.inr E) E E E E (.inr ⟨HB.mk E,E⟩)
 have h8:=cF h6 hb
 refine bK h8 fun y9 hy9 h10=>gA 6 E<|Kdp [0] (.ptr 6 0) (bg y9.2::.box 29 (fD d)::oN y9.1 2 3 4 5 []) C (Lpt hy9) E Z E E E E E E E E E E<|gO 16 E<|Kiq hΓ (kv:=kS) (agg:=false) (enc:=(eT 233 11 Lls)) y9.1.story E E E E E Z (fun mr11 bs12 cl13 hpm14 hbl15 hbn16=>?_)
 refine Kdx [bg y9.2,.box 29 (fD d),mObB y9.1.users,mObH y9.1.passes,mObM y9.1.there,mObS kS false (eT 233 11 Lls) y9.1.story (rawM kS (eT 233 11 Lls) mr11 bs12 cl13),bN y9.1 2 3 4 5,.iter 5 cl13 []] E<|gO 2 E<|bK h10 fun q22 hq22 h23=>gA 1 E<|Kit hq22 hpm14 hbl15 hbn16 (fun s17=>[(2,I moment),(10,.ptr 6 0),(11,I s17.1),(12,B s17.2),(34,.ptr 7 0)]) (fun sn19 s17=>[bg y9.2,.box 29 (fD d),mObB y9.1.users,mObH y9.1.passes,mObM y9.1.there,mObS kS false (eT 233 11 Lls) y9.1.story (rawM kS (eT 233 11 Lls) mr11 bs12 cl13),bN y9.1 2 3 4 5,.iter 5 cl13 sn19]) ⟨⟨E,E,E,E,E,tV⟩,[],E,.inl E⟩ (fun sn19 s17 hdone24 hstep25=>?_)
 refine gA 2 E<|Kir (kv:=kS) (agg:=false) (enc:=(eT 233 11 Lls)) y9.1.story mr11 bs12 cl13 sn19 (bg y9.2::.box 29 (fD d)::oN y9.1 2 3 4 5 [.dead]) E E E E E Z (fun hdsn19=>?_) (fun j20 x18 b21 hjsn19 hbsn19 hnsn19=>?_)
 ·have hqsn19:=hdone24 hdsn19
  subst hqsn19
  refine gO 17 E<|jC E h23 (fun h26=>?_) fun h27=>gA 11 E<|oSi h27▸Kec hΓ [_,_,_,_,_,_,_] (.inr E) E E E E (.inr ⟨HB.mk E,E⟩)
  exact gA 9 E<|oSi h26▸Kec hΓ [_,_,_,_,_,_,_] (.inr E) E E E E (.inr ⟨HB.mk E,E⟩)
 obtain⟨s28,h29⟩:=hstep25 j20 x18 b21 hjsn19 hbsn19 hnsn19
 have hssn19:=h29
 refine gO 10 E<|eo_o E (Kis (kv:=kS) (agg:=false) (enc:=(eT 233 11 Lls)) y9.1.story mr11 bs12 cl13 sn19 hjsn19 hbsn19 E E E E (fun _=>E))<|bK h29 fun y30 hy30 h31=>gO 8 E<|Kdp [2,3,4,5,6] (.sl 8 y30.length) [bg y9.2,.box 29 (fD d),mObB y9.1.users,mObH y9.1.passes,mObM y9.1.there,mObS kS false (eT 233 11 Lls) y9.1.story (rawM kS (eT 233 11 Lls) mr11 bs12 cl13),bN y9.1 2 3 4 5,.iter 5 cl13 (sn19++[b21]),rO 114 2 Llp y30] C (Lpu hy30) E Z E E E E E E E E E E<|Kdv 8 [41] _ [bg y9.2,.box 29 (fD d),mObB y9.1.users,mObH y9.1.passes,mObM y9.1.there,mObS kS false (eT 233 11 Lls) y9.1.story (rawM kS (eT 233 11 Lls) mr11 bs12 cl13),bN y9.1 2 3 4 5,.iter 5 cl13 (sn19++[b21]),.dead] E E E Z<|gO 4 E<|bK h31 fun q35 hq35 h36=>Kcy 41 E fun hb38=>Kgp [(2,I moment),(10,.ptr 6 0),(11,I q35.1),(12,B q35.2),(34,.ptr 7 0)] [bg y9.2,.box 29 (fD d),mObB y9.1.users,mObH y9.1.passes,mObM y9.1.there,mObS kS false (eT 233 11 Lls) y9.1.story (rawM kS (eT 233 11 Lls) mr11 bs12 cl13),bN y9.1 2 3 4 5,.iter 5 cl13 (sn19++[b21]),.dead] ?_ ?_
 ·refine gA 1 E<|Kee y30 hq35 (fun i32 s33=>[(2,I moment),(10,.ptr 6 0),(11,I s33.1),(12,B s33.2),(34,.ptr 7 0),(41,.d (Sl Llp y30)),(42,I (y30.length:Int)),(43,I (i32:Int))]) (fun s33=>[bg y9.2,.box 29 (fD d),mObB y9.1.users,mObH y9.1.passes,mObM y9.1.there,mObS kS false (eT 233 11 Lls) y9.1.story (rawM kS (eT 233 11 Lls) mr11 bs12 cl13),bN y9.1 2 3 4 5,.iter 5 cl13 (sn19++[b21]),.dead]) ⟨⟨E,E,E,E,E,E,E,E,tV⟩,[],E,.inl E⟩ (fun i32 x34 s33 y42 hx39 hlt hy40=>?_) (?_)
  ·refine gA 6 E<|Kcj E (dT (Int.ofNat_lt.2 hlt))<|gA 6 E<|eo_o E (Kcz hΓ (enc:=Llp) (Kcs hx39) E E E E E (fun _=>E))<|gO 1 E<|Kqf hΓ E E E Z<|Kqk hΓ E E E E E E E E Z<|Kdx [bg y9.2,.box 29 (fD d),mObB y9.1.users,mObH y9.1.passes,mObM y9.1.there,mObS kS false (eT 233 11 Lls) y9.1.story (rawM kS (eT 233 11 Lls) mr11 bs12 cl13),bN y9.1 2 3 4 5,.iter 5 cl13 (sn19++[b21]),.dead,.box 114 [I x34.From,I x34.To]] E<|gO 8 E<|eo_o E (Khm hΓ (gs:=[I x34.From,I x34.To]) E E E E E E)<|gO 3 E<|bK hy40 fun q46 hq46 h47=>Kgp [(2,I moment),(10,.ptr 6 0),(11,I q46.1),(12,B q46.2),(34,.ptr 7 0),(41,.d (Sl Llp y30)),(42,I (y30.length:Int)),(43,I (i32:Int))] [bg y9.2,.box 29 (fD d),mObB y9.1.users,mObH y9.1.passes,mObM y9.1.there,mObS kS false (eT 233 11 Lls) y9.1.story (rawM kS (eT 233 11 Lls) mr11 bs12 cl13),bN y9.1 2 3 4 5,.iter 5 cl13 (sn19++[b21]),.dead,.box 114 [I x34.From,I x34.To]] ?_ ?_
   ·refine gA 1 E<|Kcv hq46 (fun s44=>[(2,I moment),(10,.ptr 6 0),(11,I s44.1),(12,B s44.2.1),(34,.ptr 7 0),(41,.d (Sl Llp y30)),(42,I (y30.length:Int)),(43,I (i32:Int)),(51,.agg [I x34.From,I x34.To]),(52,I s44.2.2)]) (fun s44=>[bg y9.2,.box 29 (fD d),mObB y9.1.users,mObH y9.1.passes,mObM y9.1.there,mObS kS false (eT 233 11 Lls) y9.1.story (rawM kS (eT 233 11 Lls) mr11 bs12 cl13),bN y9.1 2 3 4 5,.iter 5 cl13 (sn19++[b21]),.dead,.box 114 [I x34.From,I x34.To]]) ⟨⟨E,E,E,E,E,E,E,E,E,E,tV⟩,[],E,.inl E⟩ (fun s44 y52 hy50 hout51=>?_)
    refine gA 6 E<|Kci E (fun hb=>?_) (fun hb=>?_)
    ·have h53:=cT hy50 hb
     refine bK h53 fun x54 hx54 h55=>gA 6 E<|eo_o E (Khl hΓ (enc:=(eN .i64)) [x34.From,x34.To] hx54 E E E E E E E (fun _=>E) E)<|gO 9 E<|Kco 4 [(2,I moment),(10,.ptr 6 0),(11,I s44.1),(12,B s44.2.1),(17,I x54),(34,.ptr 7 0),(41,.d (Sl Llp y30)),(42,I (y30.length:Int)),(43,I (i32:Int)),(51,.agg [I x34.From,I x34.To]),(52,I s44.2.2),(62,B ((decide ((x54:Int)>moment))&&(decide ((x54:Int)<s44.1))))] [bg y9.2,.box 29 (fD d),mObB y9.1.users,mObH y9.1.passes,mObM y9.1.there,mObS kS false (eT 233 11 Lls) y9.1.story (rawM kS (eT 233 11 Lls) mr11 bs12 cl13),bN y9.1 2 3 4 5,.iter 5 cl13 (sn19++[b21]),.dead,.box 114 [I x34.From,I x34.To]] ?_ ?_
     ·refine Koz E E (fun hb=>?_) (fun hb=>?_)
      ·exact gO 5 E<|⟨⟨E,E,E,E,E,E,E,E,E,E,E,Kbq E (Kei hb),tV⟩,[],E,.inl E⟩
      exact gO 5 E<|⟨⟨E,E,E,E,E,E,E,E,E,E,E,Kbq E (Kej hb),tV⟩,[],E,.inl E⟩
     refine gO 2 E<|jC E h55 (fun h56=>?_) fun h57=>gA 7 E<|oSi h57▸⟨_,E,⟨⟨E,E,E,E,E,E,E,E,E,E,tV⟩,[],E,.inl E⟩⟩
     exact gA 11 E<|oSi h56▸⟨_,E,⟨⟨E,E,E,E,E,E,E,E,E,E,tV⟩,[],E,.inl E⟩⟩
    have h58:=cF hy50 hb
    refine gA 4 E ?_
    cases h58
    obtain rfl:=hout51 _ rfl
    exact⟨⟨E,E,E,E,E,E,E,E,tV⟩,[],E,.inl E⟩
   refine gA 6 E ?_
   cases h47
   exact⟨⟨E,E,E,E,E,E,E,Kbp E (Kbo (nLl hlt hb38)),tV⟩,[_],E,.inr ⟨HB.mk E,FB.mk E,Z⟩⟩
  exact gA 6 E<|Kck E (dF (Int.lt_irrefl _))<|gA 4 E<|⟨⟨E,E,E,E,E,tV⟩,[],E,.inl E⟩
 refine gA 1 E ?_
 cases h36
 exact⟨j20,x18,b21,_,hjsn19,hbsn19,hnsn19,hssn19,⟨⟨E,E,E,E,E,tV⟩,[_],E,.inr ⟨HB.mk E,FB.mk E,Z⟩⟩⟩
theorem Lpw{k:Nat}{d:Lex}{l:List Ley}{node:Str}{w:Lfa}{al:BagT}{r:Int×Int×BagT}(h:Ljj k d l node w al=some r):EC Tryz.prog 71 [.agg (fD d),.d (Sl Lln l),S node,.agg [I w.From,I w.To]] [bg al] fun g hp'=>g=.tup [I r.1,I r.2.1]∧hp'=[bg r.2.2]:=by
 unfold Ljj at h
 refine QN Tryz.func71 E Z<|gA 2 E<|Kqg E E E E Z<|Kqg E E E E Z<|bK h fun y1 hy1 h2=>gO 9 E<|Kdq C (Log hy1) E Z E E E E E<|gO 9 E<|Kci E (fun hb=>?_) (fun hb=>?_)
 ·have h3:=cT h2 hb
  exact gA 9 E<|oSi h3▸Kec hΓ [_,_] (.inr E) E E E E (.inr ⟨HB.mk E,E⟩)
 have h4:=cF h2 hb
 refine bK h4 fun y5 hy5 h6=>gA 6 E<|Kdq C (Lnn hy5) E Z E E E E E<|gO 3 E<|Kci E (fun hb=>?_) (fun hb=>?_)
 ·have h7:=cT h6 hb
  exact gA 8 E<|oSi h7▸Kec hΓ [_,_] (.inr E) E E E E (.inr ⟨HB.mk E,E⟩)
 have h8:=cF h6 hb
 refine bK h8 fun y9 hy9 h10=>gA 9 E<|Kdq C (Lnp hy9) E Z E E E E E<|gO 1 E<|Kco 4 [(1,.d (Sl Lln l)),(2,S node),(4,.ptr 1 0),(7,.ptr 2 0),(32,B (y9||(decide ((w.To:Int)>345686400))))] [bg al,.box 29 (fD d),.box 114 [I w.From,I w.To]] ?_ ?_
 ·refine Koz E E (fun hb=>?_) (fun hb=>?_)
  ·exact gO 5 E<|⟨⟨E,E,E,E,Kbq E (or_t hb),tV⟩,[],E,.inl E⟩
  exact gO 5 E<|⟨⟨E,E,E,E,Kbq E (or_f hb),tV⟩,[],E,.inl E⟩
 refine gO 2 E<|jC E h10 (fun h11=>?_) fun h12=>bK h12 fun y13 hy13 h14=>gA 12 E<|Kdp [0] (.ptr 7 0) (bg y13.2::.box 29 (fD d)::.box 114 [I w.From,I w.To]::oN y13.1 3 4 5 6 []) C (Lpt hy13) E Z E E E E E E E E E E<|bK h14 fun y15 hy15 h16=>gO 1 E<|Kdp [3,4,5,6,7] (.sl 8 y15.length) (bg y13.2::.box 29 (fD d)::.box 114 [I w.From,I w.To]::oN y13.1 3 4 5 6 [rO 114 2 Llp y15]) C (Lpu hy15) E Z E E E E E E E E E E<|Kdv 8 [37] _ (bg y13.2::.box 29 (fD d)::.box 114 [I w.From,I w.To]::oN y13.1 3 4 5 6 [.dead]) E E E Z<|gO 4 E<|bK h16 fun q20 hq20 h21=>Kcy 37 E fun hb23=>Kgp [(11,I q20)] (bg y13.2::.box 29 (fD d)::.box 114 [I w.From,I w.To]::oN y13.1 3 4 5 6 [.dead]) ?_ ?_
 ·exact gA 8 E<|oSi h11▸Kec hΓ [_,_] (.inr E) E E E E (.inr ⟨HB.mk E,E⟩)
 ·refine gA 1 E<|Kee y15 hq20 (fun i17 s18=>[(7,.ptr 2 0),(11,I s18),(37,.d (Sl Llp y15)),(38,I (y15.length:Int)),(39,I (i17:Int))]) (fun s18=>(bg y13.2::.box 29 (fD d)::.box 114 [I w.From,I w.To]::oN y13.1 3 4 5 6 [.dead])) ⟨⟨E,E,E,E,E,tV⟩,[],E,.inl E⟩ (fun i17 x19 s18 y27 hx24 hlt hy25=>?_) (?_)
  ·refine gA 6 E<|Kcj E (dT (Int.ofNat_lt.2 hlt))<|gA 6 E<|eo_o E (Kcz hΓ (enc:=Llp) (Kcs hx24) E E E E E (fun _=>E))<|gO 1 E<|Kqf hΓ E E E Z<|Kqk hΓ E E E E E E E E Z<|Kdx (bg y13.2::.box 29 (fD d)::.box 114 [I w.From,I w.To]::oN y13.1 3 4 5 6 [.dead,.box 114 [I x19.From,I x19.To]]) E<|gO 25 E ?_
   cases hy25
   exact⟨⟨E,E,E,E,Kbp E (Kbo (nLl hlt hb23)),tV⟩,[_],E,.inr ⟨HB.mk E,FB.mk E,Z⟩⟩
  exact gA 6 E<|Kck E (dF (Int.lt_irrefl _))<|gA 4 E<|⟨⟨E,tV⟩,[],E,.inl E⟩
 exact gA 9 E<|oSi h21▸Kec hΓ [_,_,_,_,_,_,_,_] (.inr E) E E E E (.inr ⟨HB.mk E,E⟩)
theorem Lpx{v_at:Int}{r:Int}(h:Ljk v_at=some r):Pure Tryz.prog 46 [I v_at] (I r):=by
 unfold Ljk at h
 refine QP Tryz.func46 E E E<|bK h fun y1 hy1 h2=>gA 9 E<|Kdq C (Lmz hy1) E Z E E E E E<|gO 3 E<|jC E h2 (fun h3=>?_) fun h4=>gA 8 E<|oSi h4▸gP E E
 exact gA 7 E<|oSi h3▸gP E E
theorem Lpy{is:Bool}{e:Int}{r:Int}(h:Ljl is e=some r):Pure Tryz.prog 59 [B is,I e] (I r):=by
 unfold Ljl at h
 refine QP Tryz.func59 E E E<|gA 11 E<|jC E h (fun h1=>?_) fun h2=>gA 8 E<|oSi h2▸gP E E
 exact gA 8 E<|oSi h1▸gP E E
theorem Lpz{s:Str}{r:Int}(h:Ljm s=some r):Pure Tryz.prog 47 [S s] (I r):=by
 unfold Ljm at h
 exact QP Tryz.func47 E E E<|bK h fun y1 hy1 h2=>gA 8 E<|Kdq C (Lnb hy1) E Z E E E E E<|gO 4 E<|oSi h2▸gP E E
theorem Lqa{w:Lfa}{r:Int}(h:Ljn w=some r):Pure Tryz.prog 72 [.agg [I w.From,I w.To]] (I r):=by
 unfold Ljn at h
 refine QP Tryz.func72 E E E<|gA 2 E<|Kqg E E E E Z<|gO 10 E<|Kco 6 [(1,.ptr 0 0),(12,B ((decide ((w.From:Int)<0))||(decide ((w.From:Int)>w.To))))] [.box 114 [I w.From,I w.To]] ?_ ?_
 ·refine Koz E E (fun hb=>?_) (fun hb=>?_)
  ·exact gO 7 E<|⟨⟨E,Kbq E (or_t hb),tV⟩,[],E,.inl E⟩
  exact gO 7 E<|⟨⟨E,Kbq E (or_f hb),tV⟩,[],E,.inl E⟩
 refine gO 1 E<|Kco 4 [(17,B (((decide ((w.From:Int)<0))||(decide ((w.From:Int)>w.To)))||(decide ((w.To:Int)>345686400))))] [.box 114 [I w.From,I w.To]] ?_ ?_
 ·refine Koz E E (fun hb=>?_) (fun hb=>?_)
  ·exact gO 5 E<|⟨⟨Kbq E (or_t hb),tV⟩,[],E,.inl E⟩
  exact gO 5 E<|⟨⟨Kbq E (or_f hb),tV⟩,[],E,.inl E⟩
 refine gO 2 E<|jC E h (fun h1=>?_) fun h2=>gA 8 E<|oSi h2▸gP E E
 exact gA 7 E<|oSi h1▸gP E E
theorem Lqb{d:Lex}{r:Lfh}(h:Ljo d=some r):EC Tryz.prog 197 [.agg (fD d)] [] fun g hp'=>g=.ptr 4 0∧hp'=(oH r 0 1 2 3 []):=by
 unfold Ljo at h
 exact QM Tryz.func197 E Z<|gA 2 E<|Kqg E E E E Z<|gO 6 E<|eo_s Z (nblt.1 E) (Khw false)<|Kdx [.box 29 (fD d),mObH ([]:List (Str×Nat))] E<|eo_s Z (nblt.1 E) (Khw false)<|Kdx [.box 29 (fD d),mObH ([]:List (Str×Nat)),mObH ([]:List (Str×Nat))] E<|eo_s Z (nblt.1 E) (Khw false)<|Kdx [.box 29 (fD d),mObH ([]:List (Str×Nat)),mObH ([]:List (Str×Nat)),mObB ([]:List (Str×Bool))] E<|eo_s Z (nblt.1 E) (Khw false)<|Kdx [.box 29 (fD d),mObH ([]:List (Str×Nat)),mObH ([]:List (Str×Nat)),mObB ([]:List (Str×Bool)),mObV ([]:List (Str×Vl))] E<|Kam hΓ (gs:=[.d (Sl eS d.Users),.d (Sl Lll d.Owners),I d.Life,B d.Approve,.map 1,.map 2,.map 3,.map 4]) E E E E E E E<|Kqg E E E E Z<|gO 4 E<|Kix 0 [.dead,mObH ([]:List (Str×Nat)),mObH ([]:List (Str×Nat)),mObB ([]:List (Str×Bool)),mObV ([]:List (Str×Vl)),.box 220 [.d (Sl eS d.Users),.d (Sl Lll d.Owners),I d.Life,B d.Approve,.map 1,.map 2,.map 3,.map 4]] E Z<|Kgn 1 0 [mObH ([]:List (Str×Nat)),.dead,mObH ([]:List (Str×Nat)),mObB ([]:List (Str×Bool)),mObV ([]:List (Str×Vl)),.box 220 [.d (Sl eS d.Users),.d (Sl Lll d.Owners),I d.Life,B d.Approve,.map 0,.map 2,.map 3,.map 4]] E E E E E E<|Kgn 2 1 [mObH ([]:List (Str×Nat)),mObH ([]:List (Str×Nat)),.dead,mObB ([]:List (Str×Bool)),mObV ([]:List (Str×Vl)),.box 220 [.d (Sl eS d.Users),.d (Sl Lll d.Owners),I d.Life,B d.Approve,.map 0,.map 1,.map 3,.map 4]] E E E E E E<|Kgn 3 2 [mObH ([]:List (Str×Nat)),mObH ([]:List (Str×Nat)),mObB ([]:List (Str×Bool)),.dead,mObV ([]:List (Str×Vl)),.box 220 [.d (Sl eS d.Users),.d (Sl Lll d.Owners),I d.Life,B d.Approve,.map 0,.map 1,.map 2,.map 4]] E E E E E E<|Kgn 4 3 [mObH ([]:List (Str×Nat)),mObH ([]:List (Str×Nat)),mObB ([]:List (Str×Bool)),mObV ([]:List (Str×Vl)),.dead,.box 220 [.d (Sl eS d.Users),.d (Sl Lll d.Owners),I d.Life,B d.Approve,.map 0,.map 1,.map 2,.map 3]] E E E E E E<|Kgn 5 4 [mObH ([]:List (Str×Nat)),mObH ([]:List (Str×Nat)),mObB ([]:List (Str×Bool)),mObV ([]:List (Str×Vl)),.box 220 [.d (Sl eS d.Users),.d (Sl Lll d.Owners),I d.Life,B d.Approve,.map 0,.map 1,.map 2,.map 3],.dead] E E E E E E<|Kgk<|oSi h▸Kec hΓ [_] (.inr E) E E E E (.inr ⟨HB.mk E,E⟩)
theorem Lqc{d:Lex}{tag:Str}{r:(List Str)×Bool}(h:Ljp d tag=some r):Pure Tryz.prog 109 [.agg (fD d),S tag] (.tup [.d (Sl eS r.1),B r.2]):=by
 unfold Ljp at h
 refine QP Tryz.func109 E E E<|gA 2 E<|Kqg E E E E Z<|gO 13 E<|bK h fun q4 hq4 h5=>Kcy 9 E fun hb7=>Kgo (R:=fun a6=>q4=.go a6) (fun a6=>[]) (fun a6=>[.box 29 (fD d)]) ?_ ?_
 ·refine gA 1 E<|Kcx d.Owners hq4 (fun i1 s2=>[(1,S tag),(9,.d (Sl Lll d.Owners)),(10,I (d.Owners.length:Int)),(11,I (i1:Int))]) (fun s2=>[.box 29 (fD d)]) ⟨⟨E,E,E,E,tV⟩,[],E,.inl E⟩ (fun i1 x3 s2 y11 hx8 hlt hy9 hout10=>?_) (fun s2 hgo=>?_)
  ·refine gA 6 E<|Kcj E (dT (Int.ofNat_lt.2 hlt))<|gA 6 E<|eo_o E (Kcz hΓ (enc:=Lll) (Kcs hx8) E E E E E (fun _=>E))<|gO 1 E<|Kqf hΓ E E E Z<|Kqk hΓ E E E E E E E E Z<|Kdx [.box 29 (fD d),.box 155 [S x3.Tag,.d (Sl eS x3.Users)]] E<|gO 10 E<|jC E hy9 (fun h12=>?_) fun h15=>gA 7 E ?_
   ·refine gA 11 E<|bK h12 fun v13 hv13 h14=>?_
    cases h14
    obtain rfl:=hout10 _ rfl
    cases h5
    exact gA 4 E<|oSi hv13▸gP E E
   cases h15
   exact⟨_,E,⟨⟨E,E,E,Kbp E (Kbo (nLl hlt hb7)),tV⟩,[_],E,.inr ⟨HB.mk E,FB.mk E,Z⟩⟩⟩
  subst hgo
  exact gA 6 E<|Kck E (dF (Int.lt_irrefl _))<|gA 4 E<|⟨_,E,⟨tV,[],E,.inl E⟩⟩
 intro a6 ha
 subst ha
 replace h5:=Kgi h5
 exact gA 8 E<|oSi h5▸gP E E
theorem Lqd{d:Lex}{user:Str}{tags:List Str}{r:Int}(h:Ljq d user tags=some r):Pure Tryz.prog 278 [.agg (fD d),S user,.d (Sl eS tags)] (I r):=by
 unfold Ljq at h
 refine QP Tryz.func278 E E E<|gA 2 E<|Kqg E E E E Z<|gO 11 E<|bK h fun q4 hq4 h5=>Kcy 11 E fun hb7=>Kgo (R:=fun a6=>q4=.go a6) (fun a6=>[]) (fun a6=>[.box 29 (fD d)]) ?_ ?_
 ·refine gA 1 E<|Kcx tags hq4 (fun i1 s2=>[(1,S user),(3,.ptr 0 0),(11,.d (Sl eS tags)),(12,I (tags.length:Int)),(13,I (i1:Int))]) (fun s2=>[.box 29 (fD d)]) ⟨⟨E,E,E,E,E,tV⟩,[],E,.inl E⟩ (fun i1 x3 s2 y11 hx8 hlt hy9 hout10=>?_) (fun s2 hgo=>?_)
  ·refine gA 6 E<|Kcj E (dT (Int.ofNat_lt.2 hlt))<|gA 6 E<|eo_o E (Kcz hΓ (enc:=eS) (Kcs hx8) E E E E E (fun _=>E))<|bK hy9 fun y12 hy12 h13=>gO 8 E<|Kdq C (Lqc hy12) E Z E E E E E<|gO 14 E<|jC E h13 (fun h14=>?_) fun h17=>bK h17 fun y18 hy18 h19=>gA 6 E<|Kdq C (Lmw hy18) E Z E E E E E<|gO 3 E<|jC E h19 (fun h20=>?_) fun h23=>?_
   ·refine gA 9 E<|bK h14 fun v15 hv15 h16=>?_
    cases h16
    obtain rfl:=hout10 _ rfl
    cases h5
    exact gA 4 E<|oSi hv15▸gP E E
   ·refine gA 8 E<|bK h20 fun v21 hv21 h22=>?_
    cases h22
    obtain rfl:=hout10 _ rfl
    cases h5
    exact gA 4 E<|oSi hv21▸gP E E
   refine gA 7 E ?_
   cases h23
   exact⟨_,E,⟨⟨E,E,E,E,Kbp E (Kbo (nLl hlt hb7)),tV⟩,[],E,.inl E⟩⟩
  subst hgo
  exact gA 6 E<|Kck E (dF (Int.lt_irrefl _))<|gA 4 E<|⟨_,E,⟨tV,[],E,.inl E⟩⟩
 intro a6 ha
 subst ha
 replace h5:=Kgi h5
 exact gA 7 E<|oSi h5▸gP E E
theorem Lqe{v_h:Lfh}{s:Ley}{al:BagT}{r:Int×Lfh×BagT}(h:Ljr v_h s al=some r):EC Tryz.prog 202 [.ptr 4 0,.agg (fS s)] (oH v_h 0 1 2 3 [bg al]) fun g hp'=>g=I r.1∧hp'=(oH r.2.1 0 1 2 3 [bg r.2.2]):=by
 unfold Ljr at h
 refine QM Tryz.func202 E Z<|gA 2 E<|Kqg E E E E Z<|gO 4 E<|jD<|gA 6 E<|gl_o E (Kkv hΓ (kv:=kS) (agg:=false) (enc:=(eH (some 0))) v_h.keys s.Join (0:Nat) E E E E Khq E E E (Kku E) E)<|Kcg hΓ 6 E<|jD<|bK h fun y1 hy1 h2=>gA 7 E<|Kdr C (Lmw hy1) E E E E E E<|Kcg hΓ 4 E<|Kci E (fun hb=>?_) (fun hb=>?_)
 ·have h3:=cT h2 hb
  exact gA 8 E<|Kgk<|oSi h3▸Kec hΓ [_] (.inr E) E E E E (.inr ⟨HB.mk E,E⟩)
 have h4:=cF h2 hb
 refine gA 6 E<|Kco 3 [(0,.ptr 4 0),(3,.ptr 6 0),(5,.d (.hd (some 0) ((mGet v_h.keys s.Join).getD 0))),(31,B (((s.Kind:Int)==2)&&(((mGet v_h.keys s.Join).getD 0)==0)))] (oH v_h 0 1 2 3 [bg al,.box 37 (fS s)]) ?_ ?_
 ·refine Koz E E (fun hb=>?_) (fun hb=>?_)
  ·exact gO 1 E<|Kox E<|eo_o E ((Kkz hΓ E E E E).1)<|gO 2 E<|⟨⟨E,E,E,Kbq E (Kei hb),tV⟩,[],E,.inl E⟩
  exact gO 4 E<|⟨⟨E,E,E,Kbq E (Kej hb),tV⟩,[],E,.inl E⟩
 refine gO 3 E<|Kci E (fun hb=>?_) (fun hb=>?_)
 ·have h5:=cT h4 hb
  exact gA 8 E<|Kgk<|oSi h5▸Kec hΓ [_] (.inr E) E E E E (.inr ⟨HB.mk E,E⟩)
 have h6:=cF h4 hb
 refine bK h6 fun q7 hq7 h8=>gA 1 E<|Kgp [(0,.ptr 4 0),(3,.ptr 6 0),(5,.d (.hd (some 0) ((mGet v_h.keys s.Join).getD 0))),(32,B q7)] (oH v_h 0 1 2 3 [bg al,.box 37 (fS s)]) ?_ ?_
 ·refine jD<|gA 4 E<|Kaw E E (fun hb=>?_) (fun hb=>?_)
  ·have h9:=cT hq7 hb
   exact gK h9 fun hg11 h10=>Kcg hΓ 1 E<|Kbr E E (Kmi hg11 E)<|Kbr E E (Kmj hΓ hg11 E E E E E E)<|Kbr E E (Kmj hΓ hg11 E E E E E E)<|bK h10 fun m12 hm12 h13=>Kbr E E (Kmk hΓ (enc:=Llw) (bg:=5) m12 E E (ArU.r _ (ArU.r _ (ArU.r _ (ArU.l _ (Kko (fun _ _=>E) hm12 m12))))) E (g:=S m12.Join.By) E E)<|Kcg hΓ 6 E<|oSi h13▸⟨⟨E,E,E,E,tV⟩,[],E,.inl E⟩
  have h14:=cF hq7 hb
  exact Kcg hΓ 11 E<|oSi h14▸⟨⟨E,E,E,E,tV⟩,[],E,.inl E⟩
 refine gA 1 E<|Kci E (fun hb=>?_) (fun hb=>?_)
 ·have h15:=cT h8 hb
  exact gA 8 E<|Kgk<|oSi h15▸Kec hΓ [_] (.inr E) E E E E (.inr ⟨HB.mk E,E⟩)
 have h16:=cF h8 hb
 refine gA 6 E<|bK h16 fun q17 hq17 h18=>Kco 5 [(0,.ptr 4 0),(3,.ptr 6 0),(5,.d (.hd (some 0) ((mGet v_h.keys s.Join).getD 0))),(55,B q17)] (oH v_h 0 1 2 3 [bg al,.box 37 (fS s)]) ?_ ?_
 ·refine Koz E E (fun hb=>?_) (fun hb=>?_)
  ·have h19:=cT hq17 hb
   exact gK h19 fun hg21 h20=>gO 1 E<|Kox E<|eo_o E (Kmi hg21 E)<|Kox E<|eo_o E (Kmj hΓ hg21 E E E E E E)<|bK h20 fun m22 hm22 h23=>Kox E<|eo_o E (Kmk hΓ (enc:=Llw) (bg:=5) m22 E E (ArU.r _ (ArU.r _ (ArU.r _ (ArU.l _ (Kko (fun _ _=>E) hm22 m22))))) E (g:=B m22.revoked) E E)<|gO 2 E<|oSi h23▸⟨⟨E,E,E,E,tV⟩,[],E,.inl E⟩
  have h24:=cF hq17 hb
  exact gO 6 E<|oSi h24▸⟨⟨E,E,E,E,tV⟩,[],E,.inl E⟩
 refine gO 3 E<|Kci E (fun hb=>?_) (fun hb=>?_)
 ·have h25:=cT h18 hb
  exact gA 8 E<|Kgk<|oSi h25▸Kec hΓ [_] (.inr E) E E E E (.inr ⟨HB.mk E,E⟩)
 have h26:=cF h18 hb
 refine gA 8 E<|Kci E (fun hb=>?_) (fun hb=>?_)
 ·have h27:=cT h26 hb
  refine gK h27 fun hg29 h28=>gA 3 E<|eo_o E (Kmi hg29 E)<|eo_o E (Kmj hΓ hg29 E E E E E E)<|bK h28 fun m30 hm30 h31=>eo_u Z (Kml hΓ (enc:=Llw) (bg:=5) m30 (⟨m30.Join,true,m30.used⟩:Lfj) E E (ArU.r _ (ArU.r _ (ArU.r _ (ArU.l _ (Kko (fun _ _=>E) hm30 (⟨m30.Join,true,m30.used⟩:Lfj)))))) E E (by intro e;cases e) E E E E E E E) ?_
  exact Kdx (oH v_h 0 1 2 3 [.bag al.1 (arX al.2.1 al.2.2.1 al.2.2.2.1 (hSet al.2.2.2.2.1 ((mGet v_h.keys s.Join).getD 0) (⟨m30.Join,true,m30.used⟩:Lfj)) al.2.2.2.2.2) [],.box 37 (fS s)]) E<|gO 10 E<|Kgk<|oSi h31▸Kec hΓ [_] (.inr E) E E E E (.inr ⟨HB.mk E,E⟩)
 have h32:=cF h26 hb
 refine gA 3 E<|eo_o E ((Kkz hΓ E E E E).2)<|gO 3 E<|Kci E (fun hb=>?_) (fun hb=>?_)
 ·have h33:=cT h32 hb
  exact gA 8 E<|Kgk<|oSi h33▸Kec hΓ [_] (.inr E) E E E E (.inr ⟨HB.mk E,E⟩)
 have h34:=cF h32 hb
 refine bK h34 fun y35 hy35 h36=>gA 4 E<|Kdq C (Lmx hy35) E Z E E E E E<|gO 2 E<|Kco 6 [(0,.ptr 4 0),(3,.ptr 6 0),(77,B ((!y35)||(decide ((s.Until:Int)≤s.At))))] (oH v_h 0 1 2 3 [bg al,.box 37 (fS s)]) ?_ ?_
 ·refine Koz E E (fun hb=>?_) (fun hb=>?_)
  ·exact gO 7 E<|⟨⟨E,E,Kbq E (or_t hb),tV⟩,[],E,.inl E⟩
  exact gO 7 E<|⟨⟨E,E,Kbq E (or_f hb),tV⟩,[],E,.inl E⟩
 refine gO 1 E<|Kco 4 [(0,.ptr 4 0),(3,.ptr 6 0),(82,B (((!y35)||(decide ((s.Until:Int)≤s.At)))||(decide ((s.Until:Int)>345686400))))] (oH v_h 0 1 2 3 [bg al,.box 37 (fS s)]) ?_ ?_
 ·refine Koz E E (fun hb=>?_) (fun hb=>?_)
  ·exact gO 5 E<|⟨⟨E,E,Kbq E (or_t hb),tV⟩,[],E,.inl E⟩
  exact gO 5 E<|⟨⟨E,E,Kbq E (or_f hb),tV⟩,[],E,.inl E⟩
 refine gO 3 E<|jC E h36 (fun h37=>?_) fun h38=>gA 5 E<|jD<|bK h38 fun y39 hy39 h40=>gA 8 E<|Kdr C (Lqd hy39) E E E E E E<|Kcg hΓ 9 E<|jC E h40 (fun h41=>?_) fun h42=>?_
 ·exact gA 8 E<|Kgk<|oSi h37▸Kec hΓ [_] (.inr E) E E E E (.inr ⟨HB.mk E,E⟩)
 ·exact gA 8 E<|Kgk<|oSi h41▸Kec hΓ [_] (.inr E) E E E E (.inr ⟨HB.mk E,E⟩)
 exact gA 3 E<|Kfl [.dead,.dead,.dead,.dead,bH v_h 0 1 2 3,.dead,.box 37 (fS s)] [3,5,7,9,11,14,16,18] [21,22] [] hmix (by kernel_rfl) (by kernel_rfl) ⟨E,E,tV⟩ Z<|bK h42 fun y43 hy43 h44=>go_E hΓ 12 E<|Kgb C (Pure.rows (Lok hy43) E E) E E E E E E<|go_E hΓ 6 E<|ge_q E (.inl E) (fun _ _=>Kfo (qt_p (Kgf hΓ (gs:=[S s.Join,S s.By,.d (Sl eS y43),I s.Until,I s.Uses,B s.Ready]) E E E E E E)))<|ge_q E (.inl E) (fun _ _=>Kfo (qt_p (Kgf hΓ (gs:=[S s.Join,S s.By,.d (Sl eS y43),I s.Until,I s.Uses,B s.Ready,B false,I 0]) E E E E E E)))<|ge_h (oH v_h 0 1 2 3 [bg al,.box 37 (fS s),.box 227 [S s.Join,S s.By,.d (Sl eS y43),I s.Until,I s.Uses,B s.Ready,B false,I 0]]) E E E (Kfv ⟨E,E,tV⟩) (Kfy (Kge E E E))<|Kft [mObH (mSet v_h.keys s.Join (al.1.length+1)),mObH v_h.nodes,mObB v_h.ever,mObV v_h.History,bH v_h 0 1 2 3,.bag (al.1++[false]) (arX al.2.1 al.2.2.1 al.2.2.2.1 ((al.1.length,(⟨(⟨s.Join,s.By,y43,s.Until,s.Uses,s.Ready⟩:Lff),false,0⟩:Lfj)) :: al.2.2.2.2.1) al.2.2.2.2.2) [],.box 37 (fS s),.dead] E E (Kfv ⟨E,E,tV⟩) (Kfz (Kiy (Kkm (hp2:=(oH v_h 0 1 2 3 [.bag (al.1++[false]) (arX al.2.1 al.2.2.1 al.2.2.2.1 ((al.1.length,(⟨(⟨s.Join,s.By,y43,s.Until,s.Uses,s.Ready⟩:Lff),false,0⟩:Lfj)) :: al.2.2.2.2.1) al.2.2.2.2.2) [],.box 37 (fS s),.dead])) (bg:=5) (id:=7) (a:=(fB 227 Llw) al.1.length (⟨(⟨s.Join,s.By,y43,s.Until,s.Uses,s.Ready⟩:Lff),false,0⟩:Lfj)) [(116,some 0)] ⟨E,tV⟩ E E ⟨E,E⟩ E E (Kks _ (Kks _ (Kks _ (Kkr _ Kkq)))) E E) (Kie hΓ (kv:=kS) (agg:=false) (enc:=(eH (some 0))) (id:=0) v_h.keys s.Join (al.1.length+1) E E E Khq E E E E E) Z))<|Kfn<|gA 7 E<|Kgk<|oSi h44▸Kec hΓ [_,_] (.inr E) E E E E (.inr ⟨HB.mk E,E⟩)
theorem Lqf{v_h:Lfh}{v_public:Str}{al:BagT}{r:Bool}(h:Ljs v_h v_public al=some r):EC Tryz.prog 279 [.ptr 4 0,S v_public] (oH v_h 0 1 2 3 [bg al]) fun g hp'=>g=B r∧hp'=(oH v_h 0 1 2 3 [bg al]):=by
 unfold Ljs at h
 refine QN Tryz.func279 E Z<|gA 12 E<|Kiq hΓ (kv:=kS) (agg:=false) (enc:=(eH (some 0))) v_h.nodes E E E E E Z (fun mr1 bs2 cl3 hpm4 hbl5 hbn6=>?_)
 refine Kdx [mObH v_h.keys,mObS kS false (eH (some 0)) v_h.nodes (rawM kS (eH (some 0)) mr1 bs2 cl3),mObB v_h.ever,mObV v_h.History,bH v_h 0 1 2 3,bg al,.iter 1 cl3 []] E<|gO 2 E<|bK h fun q12 hq12 h13=>gA 1 E<|Klm hq12 hpm4 hbl5 hbn6 (fun s7=>[(1,S v_public),(11,.ptr 6 0)]) (fun sn9 s7=>[mObH v_h.keys,mObS kS false (eH (some 0)) v_h.nodes (rawM kS (eH (some 0)) mr1 bs2 cl3),mObB v_h.ever,mObV v_h.History,bH v_h 0 1 2 3,bg al,.iter 1 cl3 sn9]) ⟨⟨E,E,tV⟩,[],E,.inl E⟩ (fun sn9 s7 hdone14 hstep15=>?_)
 refine gA 2 E<|Kir (kv:=kS) (agg:=false) (enc:=(eH (some 0))) v_h.nodes mr1 bs2 cl3 sn9 (oH v_h 0 1 2 3 [bg al,.dead]) E E E E E Z (fun hdsn9=>?_) (fun j10 x8 b11 hjsn9 hbsn9 hnsn9=>?_)
 ·have hqsn9:=hdone14 hdsn9
  subst hqsn9
  replace h13:=Kgi h13
  exact gO 16 E<|oSi h13▸Kec hΓ [_] (.inr E) E E E E (.inr ⟨HB.mk E,E⟩)
 obtain⟨s16,h17,houtsn9⟩:=hstep15 j10 x8 b11 hjsn9 hbsn9 hnsn9
 have hssn9:=h17
 refine gO 10 E<|eo_o E (Kis (kv:=kS) (agg:=false) (enc:=(eH (some 0))) v_h.nodes mr1 bs2 cl3 sn9 hjsn9 hbsn9 E E E E (fun _=>E))<|gK h17 fun hg19 h18=>gO 7 E<|eo_o E (Kmi hg19 E)<|eo_o E (Kmj hΓ hg19 E E E E E E)<|bK h18 fun m20 hm20 h21=>eo_o E (Kmk hΓ (enc:=Llr) (bg:=5) m20 E E (ArU.r _ (ArU.r _ (ArU.l _ (Kko (fun _ _=>E) hm20 m20)))) E (g:=S m20.Public) E E)<|gO 4 E<|jC E h21 (fun h22=>?_) fun h25=>gA 2 E ?_
 ·refine gA 5 E<|Kni (kv:=kS) (agg:=false) (enc:=(eH (some 0))) (id:=1) v_h.nodes (oH v_h 0 1 2 3 [bg al,.iter 1 cl3 (sn9++[b11])]) E E Z<|gA 2 E<|bK h22 fun v23 hv23 h24=>?_
  cases h24
  obtain rfl:=houtsn9 _ rfl
  cases h13
  exact gA 3 E<|oSi hv23▸Kec hΓ [_] (.inr E) E E E E (.inr ⟨HB.mk E,E⟩)
 cases h25
 exact⟨j10,x8,b11,_,hjsn9,hbsn9,hnsn9,hssn9,⟨⟨E,E,tV⟩,[],E,.inl E⟩⟩
theorem Lqg{v_h:Lfh}{s:Ley}{al:BagT}{r:Int×Lfh×BagT}(h:Ljt v_h s al=some r):EC Tryz.prog 203 [.ptr 4 0,.agg (fS s)] (oH v_h 0 1 2 3 [bg al]) fun g hp'=>g=I r.1∧hp'=(oH r.2.1 0 1 2 3 [bg r.2.2]):=by
 unfold Ljt at h
 refine QM Tryz.func203 E Z<|gA 2 E<|Kqg E E E E Z<|gO 4 E<|jD<|gA 6 E<|gl_o E (Kkv hΓ (kv:=kS) (agg:=false) (enc:=(eH (some 0))) v_h.keys s.Join (0:Nat) E E E E Khq E E E (Kku E) E)<|Kcg hΓ 17 E<|jC E h (fun h1=>?_) fun h2=>bK h2 fun q3 hq3 h4=>gA 1 E<|Kgp [(0,.ptr 4 0),(3,.ptr 6 0),(5,.d (.hd (some 0) ((mGet v_h.keys s.Join).getD 0))),(22,B q3)] (oH v_h 0 1 2 3 [bg al,.box 37 (fS s)]) ?_ ?_
 ·exact gA 8 E<|Kgk<|oSi h1▸Kec hΓ [_] (.inr E) E E E E (.inr ⟨HB.mk E,E⟩)
 ·refine jD<|gA 4 E<|Kaw E E (fun hb=>?_) (fun hb=>?_)
  ·have h5:=cT hq3 hb
   refine bK h5 fun y6 hy6 h7=>Kcg hΓ 7 E<|Kds C (Lmw hy6) E E E E E E E<|Kcg hΓ 3 E<|Kaw E E (fun hb=>?_) (fun hb=>?_)
   ·have h8:=cT h7 hb
    exact Kcg hΓ 10 E<|oSi h8▸⟨⟨E,E,E,E,tV⟩,[],E,.inl E⟩
   have h9:=cF h7 hb
   refine Kcg hΓ 4 E<|Kaw E E (fun hb=>?_) (fun hb=>?_)
   ·have h10:=cT h9 hb
    exact Kcg hΓ 1 E<|Kbr E E ((Kkz hΓ E E E E).1)<|Kcg hΓ 4 E<|oSi h10▸⟨⟨E,E,E,E,tV⟩,[],E,.inl E⟩
   have h11:=cF h9 hb
   exact Kcg hΓ 6 E<|oSi h11▸⟨⟨E,E,E,E,tV⟩,[],E,.inl E⟩
  have h12:=cF hq3 hb
  refine Kcg hΓ 15 E<|Kaw E E (fun hb=>?_) (fun hb=>?_)
  ·have h13:=cT h12 hb
   exact Kcg hΓ 1 E<|Kbr E E ((Kkz hΓ E E E E).1)<|Kcg hΓ 4 E<|oSi h13▸⟨⟨E,E,E,E,tV⟩,[],E,.inl E⟩
  have h14:=cF h12 hb
  exact Kcg hΓ 6 E<|oSi h14▸⟨⟨E,E,E,E,tV⟩,[],E,.inl E⟩
 refine gA 1 E<|jC E h4 (fun h15=>?_) fun h16=>bK h16 fun q17 hq17 h18=>gA 1 E<|Kgp [(0,.ptr 4 0),(3,.ptr 6 0),(5,.d (.hd (some 0) ((mGet v_h.keys s.Join).getD 0))),(46,B q17)] (oH v_h 0 1 2 3 [bg al,.box 37 (fS s)]) ?_ ?_
 ·exact gA 8 E<|Kgk<|oSi h15▸Kec hΓ [_] (.inr E) E E E E (.inr ⟨HB.mk E,E⟩)
 ·refine jD<|gA 1 E<|gl_o E ((Kkz hΓ E E E E).2)<|Kcg hΓ 1 E<|Kaw E E (fun hb=>?_) (fun hb=>?_)
  ·have h19:=cT hq17 hb
   refine gK h19 fun hg21 h20=>Kcg hΓ 1 E<|Kbr E E (Kmi hg21 E)<|Kbr E E (Kmj hΓ hg21 E E E E E E)<|bK h20 fun m22 hm22 h23=>Kbr E E (Kmk hΓ (enc:=Llw) (bg:=5) m22 E E (ArU.r _ (ArU.r _ (ArU.r _ (ArU.l _ (Kko (fun _ _=>E) hm22 m22))))) E (g:=B m22.revoked) E E)<|Kcg hΓ 1 E<|Kaw E E (fun hb=>?_) (fun hb=>?_)
   ·have h24:=cT h23 hb
    exact Kcg hΓ 12 E<|oSi h24▸⟨⟨E,E,E,E,tV⟩,[],E,.inl E⟩
   have h25:=cF h23 hb
   exact gK h25 fun hg27 h26=>Kcg hΓ 3 E<|Kbr E E (Kmi hg27 E)<|Kbr E E (Kmj hΓ hg27 E E E E E E)<|Kbr E E (Kmj hΓ hg27 E E E E E E)<|bK h26 fun m28 hm28 h29=>Kbr E E (Kmk hΓ (enc:=Llw) (bg:=5) m28 E E (ArU.r _ (ArU.r _ (ArU.r _ (ArU.l _ (Kko (fun _ _=>E) hm28 m28))))) E (g:=I m28.Join.Until) E E)<|Kcg hΓ 5 E<|oSi h29▸⟨⟨E,E,E,E,tV⟩,[],E,.inl E⟩
  have h30:=cF hq17 hb
  exact Kcg hΓ 17 E<|oSi h30▸⟨⟨E,E,E,E,tV⟩,[],E,.inl E⟩
 refine gA 1 E<|jC E h18 (fun h31=>?_) fun h32=>bK h32 fun q33 hq33 h34=>gA 1 E<|Kgp [(0,.ptr 4 0),(3,.ptr 6 0),(5,.d (.hd (some 0) ((mGet v_h.keys s.Join).getD 0))),(65,B q33)] (oH v_h 0 1 2 3 [bg al,.box 37 (fS s)]) ?_ ?_
 ·exact gA 8 E<|Kgk<|oSi h31▸Kec hΓ [_] (.inr E) E E E E (.inr ⟨HB.mk E,E⟩)
 ·refine jD<|gA 1 E<|gl_o E ((Kkz hΓ E E E E).2)<|Kcg hΓ 1 E<|Kaw E E (fun hb=>?_) (fun hb=>?_)
  ·have h35:=cT hq33 hb
   exact gK h35 fun hg37 h36=>Kcg hΓ 1 E<|Kbr E E (Kmi hg37 E)<|Kbr E E (Kmj hΓ hg37 E E E E E E)<|bK h36 fun m38 hm38 h39=>Kbr E E (Kmk hΓ (enc:=Llw) (bg:=5) m38 E E (ArU.r _ (ArU.r _ (ArU.r _ (ArU.l _ (Kko (fun _ _=>E) hm38 m38))))) E (g:=I m38.used) E E)<|gK h39 fun hg41 h40=>Kcg hΓ 1 E<|Kbr E E (Kmi hg41 E)<|Kbr E E (Kmj hΓ hg41 E E E E E E)<|Kbr E E (Kmj hΓ hg41 E E E E E E)<|bK h40 fun m42 hm42 h43=>Kbr E E (Kmk hΓ (enc:=Llw) (bg:=5) m42 E E (ArU.r _ (ArU.r _ (ArU.r _ (ArU.l _ (Kko (fun _ _=>E) hm42 m42))))) E (g:=I m42.Join.Left) E E)<|Kcg hΓ 4 E<|oSi h43▸⟨⟨E,E,E,E,tV⟩,[],E,.inl E⟩
  have h44:=cF hq33 hb
  exact Kcg hΓ 13 E<|oSi h44▸⟨⟨E,E,E,E,tV⟩,[],E,.inl E⟩
 refine gA 1 E<|jC E h34 (fun h45=>?_) fun h46=>gA 1 E<|jD<|gA 6 E<|gl_o E (Kia hΓ (kv:=kS) (agg:=false) (enc:=eB) v_h.ever s.Node (false:Bool) E E E E Khq E E E E E E E)<|Kcg hΓ 3 E<|jC E h46 (fun h47=>?_) fun h48=>?_
 ·exact gA 8 E<|Kgk<|oSi h45▸Kec hΓ [_] (.inr E) E E E E (.inr ⟨HB.mk E,E⟩)
 ·exact gA 8 E<|Kgk<|oSi h47▸Kec hΓ [_] (.inr E) E E E E (.inr ⟨HB.mk E,E⟩)
 refine bK h48 fun y49 hy49 h50=>gA 5 E<|Kdp [0,1,2,3,4,5] (B y49) (oH v_h 0 1 2 3 [bg al,.box 37 (fS s)]) C (Lqf hy49) E Z E E E E E E E E E E<|gO 3 E<|jC E h50 (fun h51=>?_) fun h52=>gA 6 E<|eo_o E (Kiu hΓ (kv:=kS) (agg:=false) (enc:=(eH (some 0))) v_h.nodes E E E E)<|gO 4 E<|jC E h52 (fun h53=>?_) fun h54=>?_
 ·exact gA 8 E<|Kgk<|oSi h51▸Kec hΓ [_] (.inr E) E E E E (.inr ⟨HB.mk E,E⟩)
 ·exact gA 8 E<|Kgk<|oSi h53▸Kec hΓ [_] (.inr E) E E E E (.inr ⟨HB.mk E,E⟩)
 refine gA 4 E<|Kfl [.dead,.dead,.dead,.dead,bH v_h 0 1 2 3,.dead,.box 37 (fS s)] [1,3,5,7,9,11,16,23] [26] [] hmix (by kernel_rfl) (by kernel_rfl) ⟨E,E,tV⟩ Z<|go_E hΓ 25 E<|ge_q E (.inl E) (fun _ _=>Kfo (qt_p (Kgf hΓ (gs:=[S s.Node,S s.By,S s.Name,S s.Public,.d (Sl eS []),I s.At,I (if 345686400<(wi (s.At+v_h.d.Life)) then 345686400 else wi (s.At+v_h.d.Life)),B (!v_h.d.Approve)]) E E E E E E)))<|ge_h (oH v_h 0 1 2 3 [bg al,.box 37 (fS s),.box 77 [S s.Node,S s.By,S s.Name,S s.Public,.d (Sl eS []),I s.At,I (if 345686400<(wi (s.At+v_h.d.Life)) then 345686400 else wi (s.At+v_h.d.Life)),B (!v_h.d.Approve)]]) E E E (Kfv ⟨E,E,tV⟩) (Kfy (Kge E E E))<|go_E hΓ 1 E<|Kfn<|gA 5 E<|eo_o E ((Kkz hΓ E E E E).2)<|bK h54 fun q55 hq55 h56=>gO 2 E<|Kgp [(0,.ptr 4 0),(3,.ptr 6 0),(6,.ptr 7 0)] (oH v_h 0 1 2 3 [bg q55.1,.box 37 (fS s),.box 77 (fM q55.2)]) ?_ ?_
 ·refine jC E hq55 (fun h57=>?_) fun h90=>gA 1 E<|oSi h90▸⟨⟨E,E,E,tV⟩,[],E,.inl E⟩
  refine gK h57 fun hg59 h58=>gA 3 E<|eo_o E (Kmi hg59 E)<|eo_o E (Kmj hΓ hg59 E E E E E E)<|bK h58 fun m60 hm60 h61=>eo_o E (Kmk hΓ (enc:=Llw) (bg:=5) m60 E E (ArU.r _ (ArU.r _ (ArU.r _ (ArU.l _ (Kko (fun _ _=>E) hm60 m60))))) E (g:=I m60.used) E E)<|gK h61 fun hg63 h62=>gO 1 E<|eo_o E (Kmi hg63 E)<|eo_o E (Kmj hΓ hg63 E E E E E E)<|bK h62 fun m64 hm64 h65=>eo_u Z (Kml hΓ (enc:=Llw) (bg:=5) m64 (⟨m64.Join,m64.revoked,wi (m60.used+1)⟩:Lfj) E E (ArU.r _ (ArU.r _ (ArU.r _ (ArU.l _ (Kko (fun _ _=>E) hm64 (⟨m64.Join,m64.revoked,wi (m60.used+1)⟩:Lfj)))))) E E (by intro e;cases e) E E E E E E E) ?_
  refine Kdx (oH v_h 0 1 2 3 [.bag al.1 (arX al.2.1 al.2.2.1 al.2.2.2.1 (hSet al.2.2.2.2.1 ((mGet v_h.keys s.Join).getD 0) (⟨m64.Join,m64.revoked,wi (m60.used+1)⟩:Lfj)) al.2.2.2.2.2) [],.box 37 (fS s),.box 77 [S s.Node,S s.By,S s.Name,S s.Public,.d (Sl eS []),I s.At,I (if 345686400<(wi (s.At+v_h.d.Life)) then 345686400 else wi (s.At+v_h.d.Life)),B (!v_h.d.Approve)]]) E<|gO 10 E<|bK h65 fun q66 hq66 h67=>Kco 6 [(0,.ptr 4 0),(3,.ptr 6 0),(5,.d (.hd (some 0) ((mGet v_h.keys s.Join).getD 0))),(6,.ptr 7 0),(136,.ptr 7 0),(147,B q66)] (oH v_h 0 1 2 3 [.bag al.1 (arX al.2.1 al.2.2.1 al.2.2.2.1 (hSet al.2.2.2.2.1 ((mGet v_h.keys s.Join).getD 0) (⟨m64.Join,m64.revoked,wi (m60.used+1)⟩:Lfj)) al.2.2.2.2.2) [],.box 37 (fS s),.box 77 [S s.Node,S s.By,S s.Name,S s.Public,.d (Sl eS []),I s.At,I (if 345686400<(wi (s.At+v_h.d.Life)) then 345686400 else wi (s.At+v_h.d.Life)),B (!v_h.d.Approve)]]) ?_ ?_
  ·refine Koz E E (fun hb=>?_) (fun hb=>?_)
   ·have h68:=cT hq66 hb
    exact gO 7 E<|oSi h68▸⟨⟨E,E,E,E,E,E,tV⟩,[],E,.inl E⟩
   have h69:=cF hq66 hb
   exact gK h69 fun hg71 h70=>gO 1 E<|Kox E<|eo_o E (Kmi hg71 E)<|Kox E<|eo_o E (Kmj hΓ hg71 E E E E E E)<|Kox E<|eo_o E (Kmj hΓ hg71 E E E E E E)<|bK h70 fun m72 hm72 h73=>Kox E<|eo_o E (Kmk hΓ (enc:=Llw) (bg:=5) m72 E E (ArU.r _ (ArU.r _ (ArU.r _ (ArU.l _ (Kko (fun _ _=>E) hm72 m72))))) E (g:=B m72.Join.Ready) E E)<|gO 2 E<|oSi h73▸⟨⟨E,E,E,E,E,E,tV⟩,[],E,.inl E⟩
  refine gO 2 E<|Kqk hΓ E E E E E E E E Z<|Kdx (oH v_h 0 1 2 3 [.bag al.1 (arX al.2.1 al.2.2.1 al.2.2.2.1 (hSet al.2.2.2.2.1 ((mGet v_h.keys s.Join).getD 0) (⟨m64.Join,m64.revoked,wi (m60.used+1)⟩:Lfj)) al.2.2.2.2.2) [],.box 37 (fS s),.box 77 [S s.Node,S s.By,S s.Name,S s.Public,.d (Sl eS []),I s.At,I (if 345686400<(wi (s.At+v_h.d.Life)) then 345686400 else wi (s.At+v_h.d.Life)),B q66]]) E<|gK h67 fun hg75 h74=>gO 6 E<|eo_o E (Kmi hg75 E)<|eo_o E (Kmj hΓ hg75 E E E E E E)<|eo_o E (Kmj hΓ hg75 E E E E E E)<|bK h74 fun m76 hm76 h77=>eo_o E (Kmk hΓ (enc:=Llw) (bg:=5) m76 E E (ArU.r _ (ArU.r _ (ArU.r _ (ArU.l _ (Kko (fun _ _=>E) hm76 m76))))) E (g:=S m76.Join.By) E E)<|gO 2 E<|Kqk hΓ E E E E E E E E Z<|Kdx (oH v_h 0 1 2 3 [.bag al.1 (arX al.2.1 al.2.2.1 al.2.2.2.1 (hSet al.2.2.2.2.1 ((mGet v_h.keys s.Join).getD 0) (⟨m64.Join,m64.revoked,wi (m60.used+1)⟩:Lfj)) al.2.2.2.2.2) [],.box 37 (fS s),.box 77 [S s.Node,S m76.Join.By,S s.Name,S s.Public,.d (Sl eS []),I s.At,I (if 345686400<(wi (s.At+v_h.d.Life)) then 345686400 else wi (s.At+v_h.d.Life)),B q66]]) E<|gK h77 fun hg79 h78=>gO 5 E<|eo_o E (Kmi hg79 E)<|eo_o E (Kmj hΓ hg79 E E E E E E)<|eo_o E (Kmj hΓ hg79 E E E E E E)<|bK h78 fun m80 hm80 h81=>eo_o E (Kmk hΓ (enc:=Llw) (bg:=5) m80 E E (ArU.r _ (ArU.r _ (ArU.r _ (ArU.l _ (Kko (fun _ _=>E) hm80 m80))))) E (g:=.d (Sl eS m80.Join.Tags)) E E)<|gO 4 E<|jC E h81 (fun h82=>?_) fun h89=>gA 1 E<|oSi h89▸⟨⟨E,E,E,tV⟩,[],E,.inl E⟩
  exact gK h82 fun hg84 h83=>gA 5 E<|eo_o E (Kmi hg84 E)<|eo_o E (Kmj hΓ hg84 E E E E E E)<|eo_o E (Kmj hΓ hg84 E E E E E E)<|bK h83 fun m85 hm85 h86=>eo_o E (Kmk hΓ (enc:=Llw) (bg:=5) m85 E E (ArU.r _ (ArU.r _ (ArU.r _ (ArU.l _ (Kko (fun _ _=>E) hm85 m85))))) E (g:=.d (Sl eS m85.Join.Tags)) E E)<|bK h86 fun y87 hy87 h88=>Kdq C (Pure.rows (Lok hy87) E E) E Z E E E E E<|gO 2 E<|Kqk hΓ E E E E E E E E Z<|Kdx (oH v_h 0 1 2 3 [.bag al.1 (arX al.2.1 al.2.2.1 al.2.2.2.1 (hSet al.2.2.2.2.1 ((mGet v_h.keys s.Join).getD 0) (⟨m64.Join,m64.revoked,wi (m60.used+1)⟩:Lfj)) al.2.2.2.2.2) [],.box 37 (fS s),.box 77 [S s.Node,S [],S s.Name,S s.Public,.d (Sl eS []),I s.At,I (if 345686400<(wi (s.At+v_h.d.Life)) then 345686400 else wi (s.At+v_h.d.Life)),B q66]]) E<|gO 2 E<|Kqk hΓ E E E E E E E E Z<|Kdx (oH v_h 0 1 2 3 [.bag al.1 (arX al.2.1 al.2.2.1 al.2.2.2.1 (hSet al.2.2.2.2.1 ((mGet v_h.keys s.Join).getD 0) (⟨m64.Join,m64.revoked,wi (m60.used+1)⟩:Lfj)) al.2.2.2.2.2) [],.box 37 (fS s),.box 77 [S s.Node,S [],S s.Name,S s.Public,.d (Sl eS y87),I s.At,I (if 345686400<(wi (s.At+v_h.d.Life)) then 345686400 else wi (s.At+v_h.d.Life)),B q66]]) E<|gO 2 E<|Kqk hΓ E E E E E E E E Z<|Kdx (oH v_h 0 1 2 3 [.bag al.1 (arX al.2.1 al.2.2.1 al.2.2.2.1 (hSet al.2.2.2.2.1 ((mGet v_h.keys s.Join).getD 0) (⟨m64.Join,m64.revoked,wi (m60.used+1)⟩:Lfj)) al.2.2.2.2.2) [],.box 37 (fS s),.box 77 [S s.Node,S [],S s.Name,S s.Public,.d (Sl eS y87),I s.At,I 345686400,B q66]]) E<|gO 1 E<|oSi h88▸⟨⟨E,E,E,tV⟩,[],E,.inl E⟩
 refine gA 2 E<|Knh (kv:=kS) (agg:=false) (enc:=(eH (some 0))) (id:=1) v_h.nodes E Z (fun mr91 bs92 cl93 hbl94=>?_)
 refine j_hp [mObH v_h.keys,mObS kS false (eH (some 0)) v_h.nodes (rawM kS (eH (some 0)) mr91 bs92 cl93),mObB v_h.ever,mObV v_h.History,bH v_h 0 1 2 3,bg q55.1,.box 37 (fS s),.box 77 (fM q55.2)] E<|Knh (kv:=kS) (agg:=false) (enc:=eB) (id:=2) v_h.ever E Z (fun mr95 bs96 cl97 hbl98=>?_)
 exact j_hp [mObH v_h.keys,mObS kS false (eH (some 0)) v_h.nodes (rawM kS (eH (some 0)) mr91 bs92 cl93),mObS kS false eB v_h.ever (rawM kS eB mr95 bs96 cl97),mObV v_h.History,bH v_h 0 1 2 3,bg q55.1,.box 37 (fS s),.box 77 (fM q55.2)] E<|Kfl [.dead,.dead,.dead,.dead,bH v_h 0 1 2 3,.dead,.box 37 (fS s)] [3,5,9,11] [13,15,16,18] [] hmix (by kernel_rfl) (by kernel_rfl) ⟨E,E,tV⟩ Z<|go_E hΓ 13 E<|ge_h [mObH v_h.keys,mObS kS false (eH (some 0)) (mEnt v_h.nodes s.Node (0:Nat)) (rawM kS (eH (some 0)) (entR mr91 s.Node (0:Nat)) (entB mr91 bs92 cl93 s.Node) (entC mr91 cl93 s.Node)),mObS kS false eB v_h.ever (rawM kS eB mr95 bs96 cl97),mObV v_h.History,bH v_h 0 1 2 3,bg q55.1,.box 37 (fS s),.box 77 (fM q55.2)] E E E (Kfv ⟨E,E,tV⟩) (Kfy (Knj hΓ (kv:=kS) (agg:=false) (enc:=(eH (some 0))) (id:=1) v_h.nodes mr91 s.Node (0:Nat) E E E E Khq E E E (Kku E) E hbl94 E))<|go_E hΓ 1 E<|Kft [mObH v_h.keys,mObH (mSet v_h.nodes s.Node (q55.1.1.length+1)),mObS kS false eB v_h.ever (rawM kS eB mr95 bs96 cl97),mObV v_h.History,bH v_h 0 1 2 3,.bag (q55.1.1++[false]) (arX q55.1.2.1 q55.1.2.2.1 ((q55.1.1.length,q55.2) :: q55.1.2.2.2.1) q55.1.2.2.2.2.1 q55.1.2.2.2.2.2) [],.box 37 (fS s),.dead] E E (Kfv ⟨E,E,tV⟩) (Kfz (Kiy (Kkm (hp2:=[mObH v_h.keys,mObS kS false (eH (some 0)) (mEnt v_h.nodes s.Node (0:Nat)) (rawM kS (eH (some 0)) (entR mr91 s.Node (0:Nat)) (entB mr91 bs92 cl93 s.Node) (entC mr91 cl93 s.Node)),mObS kS false eB v_h.ever (rawM kS eB mr95 bs96 cl97),mObV v_h.History,bH v_h 0 1 2 3,.bag (q55.1.1++[false]) (arX q55.1.2.1 q55.1.2.2.1 ((q55.1.1.length,q55.2) :: q55.1.2.2.2.1) q55.1.2.2.2.2.1 q55.1.2.2.2.2.2) [],.box 37 (fS s),.dead]) (bg:=5) (id:=7) (a:=(fB 77 Llr) q55.1.1.length q55.2) [(192,some 0)] ⟨E,tV⟩ E E ⟨E,E⟩ E E (Kks _ (Kks _ (Kkr _ Kkq))) E E) (Knk (kv:=kS) (agg:=false) (enc:=(eH (some 0))) (id:=1) v_h.nodes mr91 s.Node (0:Nat) (q55.1.1.length+1) Khq E E E E E hbl94 E) Z))<|ge_h [mObH v_h.keys,mObH (mSet v_h.nodes s.Node (q55.1.1.length+1)),mObS kS false eB (mEnt v_h.ever s.Node (false:Bool)) (rawM kS eB (entR mr95 s.Node (false:Bool)) (entB mr95 bs96 cl97 s.Node) (entC mr95 cl97 s.Node)),mObV v_h.History,bH v_h 0 1 2 3,.bag (q55.1.1++[false]) (arX q55.1.2.1 q55.1.2.2.1 ((q55.1.1.length,q55.2) :: q55.1.2.2.2.1) q55.1.2.2.2.2.1 q55.1.2.2.2.2.2) [],.box 37 (fS s),.dead] E E E (Kfv ⟨E,E,tV⟩) (Kfy (Knj hΓ (kv:=kS) (agg:=false) (enc:=eB) (id:=2) v_h.ever mr95 s.Node (false:Bool) E E E E Khq E E E (Kkt E E E) E hbl98 E))<|go_E hΓ 1 E<|Kft [mObH v_h.keys,mObH (mSet v_h.nodes s.Node (q55.1.1.length+1)),mObB (mSet v_h.ever s.Node true),mObV v_h.History,bH v_h 0 1 2 3,.bag (q55.1.1++[false]) (arX q55.1.2.1 q55.1.2.2.1 ((q55.1.1.length,q55.2) :: q55.1.2.2.2.1) q55.1.2.2.2.2.1 q55.1.2.2.2.2.2) [],.box 37 (fS s),.dead] E E (Kfv ⟨E,E,tV⟩) (Kfz (Knk (kv:=kS) (agg:=false) (enc:=eB) (id:=2) v_h.ever mr95 s.Node (false:Bool) true Khq E E E E E hbl98 E))<|Kfn<|gA 2 E<|Kfl [.dead,.dead,.dead,.dead,bH v_h 0 1 2 3,.dead,.box 37 (fS s)] [3,5,7,9] [11,12] [] hmix (by kernel_rfl) (by kernel_rfl) ⟨E,E,tV⟩ Z<|go_E hΓ 10 E<|ge_q E (.inl E) (fun _ _=>Kfo (qt_p (Kgf hΓ (gs:=[S s.Public,I s.At,I 345686400]) E E E E E E)))<|ge_h [mObH v_h.keys,mObH (mSet v_h.nodes s.Node (q55.1.1.length+1)),mObB (mSet v_h.ever s.Node true),mObV v_h.History,bH v_h 0 1 2 3,.bag (q55.1.1++[false]) (arX q55.1.2.1 q55.1.2.2.1 ((q55.1.1.length,q55.2) :: q55.1.2.2.2.1) q55.1.2.2.2.2.1 q55.1.2.2.2.2.2) [],.box 37 (fS s),.dead,rO 107 3 Llx [(⟨s.Public,s.At,345686400⟩:Lfk)]] E E E (Kfv ⟨E,E,tV⟩) (Kfy (Knl hΓ (enc:=Llx) [(⟨s.Public,s.At,345686400⟩:Lfk)] E E E E E E E E E E E E E E))<|Kft [mObH v_h.keys,mObH (mSet v_h.nodes s.Node (q55.1.1.length+1)),mObB (mSet v_h.ever s.Node true),mObV (mSet v_h.History s.Node ((q55.1.1++[false]).length+1,[(⟨s.Public,s.At,345686400⟩:Lfk)].length)),bH v_h 0 1 2 3,.bag ((q55.1.1++[false])++[true]) (arX q55.1.2.1 (((q55.1.1++[false]).length,[(⟨s.Public,s.At,345686400⟩:Lfk)]) :: q55.1.2.2.1) ((q55.1.1.length,q55.2) :: q55.1.2.2.2.1) q55.1.2.2.2.2.1 q55.1.2.2.2.2.2) [],.box 37 (fS s),.dead,.dead] E E (Kfv ⟨E,E,tV⟩) (Kfz (Kiy (Knd (hp2:=[mObH v_h.keys,mObH (mSet v_h.nodes s.Node (q55.1.1.length+1)),mObB (mSet v_h.ever s.Node true),mObV v_h.History,bH v_h 0 1 2 3,.bag ((q55.1.1++[false])++[true]) (arX q55.1.2.1 (((q55.1.1++[false]).length,[(⟨s.Public,s.At,345686400⟩:Lfk)]) :: q55.1.2.2.1) ((q55.1.1.length,q55.2) :: q55.1.2.2.2.1) q55.1.2.2.2.2.1 q55.1.2.2.2.2.2) [],.box 37 (fS s),.dead,.dead]) (enc:=Llx) (id:=8) (bg:=5) 208 (nblt.1 E) (nblt.1 E) E E E (Kks _ (Kkr _ Kkq)) E E) (Kie hΓ (kv:=kS) (agg:=false) (enc:=(eV 107 3)) (id:=3) v_h.History s.Node ((q55.1.1++[false]).length+1,[(⟨s.Public,s.At,345686400⟩:Lfk)].length) E E E Khq E E E E E) Z))<|Kfn<|gA 7 E<|Kgk<|oSi h56▸Kec hΓ [_,_,_] (.inr E) E E E E (.inr ⟨HB.mk E,E⟩)
theorem Lqh{t:Str}{x:Lex}{x2:Str}{r:Bool}(h:Lju t x x2=some r):EC Tryz.prog 247 [S t,.ptr 0 0,.ptr 1 0] [.box 29 (fD x),.box 9 [S x2]] fun g hp'=>g=B r∧hp'=[.box 29 (fD x),.box 9 [S x2]]:=by
 unfold Lju at h
 exact QN Tryz.func247 E Z<|bK h fun y1 hy1 h2=>gA 9 E<|Kdq C (Lqc hy1) E Z E E E E E<|bK h2 fun y3 hy3 h4=>gO 11 E<|Kdq C (Lmw hy3) E Z E E E E E<|gO 4 E<|oSi h4▸Kec hΓ [] (.inr E) E E E E (.inl E)
theorem Lqi{s:List Str}{f:Lex}{f2:Str}{r:Int}(h:Ljv s f f2=some r):EC Tryz.prog 246 [.d (Sl eS s),.fn (.func 247) [] [.ptr 0 0,.ptr 1 0]] [.box 29 (fD f),.box 9 [S f2]] fun g hp'=>g=I r∧hp'=[.box 29 (fD f),.box 9 [S f2]]:=by
 unfold Ljv at h
 refine QN Tryz.func246 E Z<|gA 13 E<|bK h fun q4 hq4 h5=>Kcy 0 E fun hb7=>Kgo (R:=fun a6=>q4=.go a6) (fun a6=>[]) (fun a6=>[.box 29 (fD f),.box 9 [S f2]]) ?_ ?_
 ·refine gA 1 E<|Kcx s hq4 (fun i1 s2=>[(0,.d (Sl eS s)),(1,.fn (.func 247) [] [.ptr 0 0,.ptr 1 0]),(7,I (s.length:Int)),(8,I (i1:Int))]) (fun s2=>[.box 29 (fD f),.box 9 [S f2]]) ⟨⟨E,E,E,E,tV⟩,[],E,.inl E⟩ (fun i1 x3 s2 y11 hx8 hlt hy9 hout10=>?_) (fun s2 hgo=>?_)
  ·refine gA 6 E<|Kcj E (dT (Int.ofNat_lt.2 hlt))<|gA 15 E<|eo_o E (Kcz hΓ (enc:=eS) (Kcs hx8) E E E E E (fun _=>E))<|bK hy9 fun y12 hy12 h13=>gO 1 E<|Kdp [0,1] (B y12) [.box 29 (fD f),.box 9 [S f2]] C (Lqh hy12) E Z E E E E E E E E E E<|gO 2 E<|jC E h13 (fun h14=>?_) fun h17=>gA 7 E ?_
   ·refine gA 9 E<|bK h14 fun v15 hv15 h16=>?_
    cases h16
    obtain rfl:=hout10 _ rfl
    cases h5
    exact gA 4 E<|oSi hv15▸Kec hΓ [] (.inr E) E E E E (.inl E)
   cases h17
   exact⟨_,E,⟨⟨E,E,E,Kbp E (Kbo (nLl hlt hb7)),tV⟩,[],E,.inl E⟩⟩
  subst hgo
  exact gA 6 E<|Kck E (dF (Int.lt_irrefl _))<|gA 4 E<|⟨_,E,⟨tV,[],E,.inl E⟩⟩
 intro a6 ha
 subst ha
 replace h5:=Kgi h5
 exact gA 7 E<|oSi h5▸Kec hΓ [] (.inr E) E E E E (.inl E)
theorem Lqj{s:List Str}{f:Lex}{f2:Str}{r:Bool}(h:Ljw s f f2=some r):EC Tryz.prog 158 [.d (Sl eS s),.fn (.func 247) [] [.ptr 0 0,.ptr 1 0]] [.box 29 (fD f),.box 9 [S f2]] fun g hp'=>g=B r∧hp'=[.box 29 (fD f),.box 9 [S f2]]:=by
 unfold Ljw at h
 exact QN Tryz.func158 E Z<|bK h fun y1 hy1 h2=>gA 9 E<|Kdp [0,1] (I y1) [.box 29 (fD f),.box 9 [S f2]] C (Lqi hy1) E Z E E E E E E E E E E<|gO 5 E<|oSi h2▸Kec hΓ [] (.inr E) E E E E (.inl E)
theorem Lqk{d:Lex}{user:Str}{m:Lfc}{r:Bool}(h:Ljx d user m=some r):Pure Tryz.prog 160 [.agg (fD d),S user,.agg (fM m)] (B r):=by
 unfold Ljx at h
 refine QP Tryz.func160 E E E<|gA 2 E<|Kqg E E E E Z<|Kqg E E E E Z<|Kqg E E E E Z<|gO 10 E<|bK h fun q1 hq1 h2=>Kco 5 [(6,B false),(16,B q1)] [.box 29 (fD d),.box 9 [S user],.box 77 (fM m)] ?_ ?_
 ·refine Koz E E (fun hb=>?_) (fun hb=>?_)
  ·have h3:=cT hq1 hb
   exact gO 6 E<|oSi h3▸⟨⟨E,E,tV⟩,[],E,.inl E⟩
  have h4:=cF hq1 hb
  exact bK h4 fun y5 hy5 h6=>gO 3 E<|Kox E<|Kdp [0,1] (B y5) [.box 29 (fD d),.box 9 [S user],.box 77 (fM m)] C (Lqj hy5) E Z E E E E E E E E E E<|gO 2 E<|oSi h6▸⟨⟨E,E,tV⟩,[],E,.inl E⟩
 exact gO 4 E<|oSi h2▸gP E E
theorem Lql{v_h:Lfh}{s:Ley}{m:Nat}{al:BagT}{r:Int×Lfh×BagT}(h:Ljy v_h s m al=some r):EC Tryz.prog 204 [.ptr 4 0,.agg (fS s),.d (.hd (some 0) m)] (oH v_h 0 1 2 3 [bg al]) fun g hp'=>g=I r.1∧hp'=(oH r.2.1 0 1 2 3 [bg r.2.2]):=by
 unfold Ljy at h
 refine QM Tryz.func204 E Z<|gA 2 E<|Kqg E E E E Z<|gO 4 E<|jD<|gA 6 E<|gl_o E (Kkv hΓ (kv:=kS) (agg:=false) (enc:=(eV 107 3)) v_h.History s.Node ((0,0):Vl) E E E E Khq E E E (Kmp E) E)<|bK h fun q1 hq1 h2=>Kcg hΓ 10 E<|Kgr (q:=q1) (fun a3=>[]) (fun a3=>[mObH v_h.keys,mObH a3.1,mObB v_h.ever,mObV a3.2.1,bH v_h 0 1 2 3,bg a3.2.2,.box 37 (fS s)]) ?_ ?_
 ·refine gA 7 E<|jC E hq1 (fun h4=>?_) fun h42=>gA 6 E<|jC E h42 (fun h43=>?_) fun h56=>?_
  ·refine bK h4 fun y5 hy5 h6=>gA 6 E<|Kdp [0,1,2,3,4,5] (B y5) (oH v_h 0 1 2 3 [bg al,.box 37 (fS s)]) C (Lqf hy5) E Z E E E E E E E E E E<|gO 2 E<|jC E h6 (fun h7=>?_) fun h10=>gK h10 fun hg12 h11=>gA 7 E<|eo_o E (Kmi hg12 E)<|eo_o E (Kmj hΓ hg12 E E E E E E)<|bK h11 fun m13 hm13 h14=>eo_u Z (Kml hΓ (enc:=Llr) (bg:=5) m13 (⟨m13.Node,m13.User,m13.Name,s.Public,m13.Tags,m13.Joined,m13.Expires,m13.Approved⟩:Lfc) E E (ArU.r _ (ArU.r _ (ArU.l _ (Kko (fun _ _=>E) hm13 (⟨m13.Node,m13.User,m13.Name,s.Public,m13.Tags,m13.Joined,m13.Expires,m13.Approved⟩:Lfc))))) E E (by intro e;cases e) E E E E E E E) ?_
   ·refine gA 8 E<|bK h7 fun v8 hv8 h9=>?_
    cases h9
    cases h2
    exact gA 2 E<|Kgk<|oSi hv8▸Kec hΓ [_] (.inr E) E E E E (.inr ⟨HB.mk E,E⟩)
   refine Kdx (oH v_h 0 1 2 3 [.bag al.1 (arX al.2.1 al.2.2.1 (hSet al.2.2.2.1 m (⟨m13.Node,m13.User,m13.Name,s.Public,m13.Tags,m13.Joined,m13.Expires,m13.Approved⟩:Lfc)) al.2.2.2.2.1 al.2.2.2.2.2) [],.box 37 (fS s)]) E<|gK h14 fun hg16 h15=>gO 5 E<|eo_o E (Kmi hg16 E)<|eo_o E (Kmj hΓ hg16 E E E E E E)<|bK h15 fun m17 hm17 h18=>eo_u Z (Kml hΓ (enc:=Llr) (bg:=5) m17 (⟨m17.Node,m17.User,m17.Name,m17.Public,m17.Tags,m17.Joined,345686400,m17.Approved⟩:Lfc) E E (ArU.r _ (ArU.r _ (ArU.l _ (Kko (fun _ _=>E) hm17 (⟨m17.Node,m17.User,m17.Name,m17.Public,m17.Tags,m17.Joined,345686400,m17.Approved⟩:Lfc))))) E E (by intro e;cases e) E E E E E E E) ?_
   refine Kdx (oH v_h 0 1 2 3 [.bag al.1 (arX al.2.1 al.2.2.1 (hSet (hSet al.2.2.2.1 m (⟨m13.Node,m13.User,m13.Name,s.Public,m13.Tags,m13.Joined,m13.Expires,m13.Approved⟩:Lfc)) m (⟨m17.Node,m17.User,m17.Name,m17.Public,m17.Tags,m17.Joined,345686400,m17.Approved⟩:Lfc)) al.2.2.2.2.1 al.2.2.2.2.2) [],.box 37 (fS s)]) E<|gK h18 fun hg20 h19=>gO 6 E<|eo_o E (Kmi hg20 E)<|eo_o E (Kmj hΓ hg20 E E E E E E)<|bK h19 fun m21 hm21 h22=>eo_o E (Kmk hΓ (enc:=Llr) (bg:=5) m21 E E (ArU.r _ (ArU.r _ (ArU.l _ (Kko (fun _ _=>E) hm21 m21)))) E (g:=S m21.User) E E)<|bK h22 fun q23 hq23 h24=>gO 3 E<|Kgp [(0,.ptr 4 0),(4,.ptr 6 0),(7,.d (.rv 107 3 ((mGet v_h.History s.Node).getD (0,0)).1 ((mGet v_h.History s.Node).getD (0,0)).2))] (oH v_h 0 1 2 3 [bg q23,.box 37 (fS s)]) ?_ ?_
   ·refine jC E hq23 (fun h25=>?_) fun h30=>gA 1 E<|oSi h30▸⟨⟨E,E,E,tV⟩,[],E,.inl E⟩
    refine Kfl [.dead,.dead,.dead,.dead,bH v_h 0 1 2 3,.dead,.box 37 (fS s)] [2,7] [12] [] hmix (by kernel_rfl) (by kernel_rfl) ⟨E,E,tV⟩ Z<|gK h25 fun hg27 h26=>go_E hΓ 10 E<|ge_q E (.inl E) (fun _ _=>Kfo (qt_p (Kmi hg27 E)))<|ge_q E (.inl E) (fun _ _=>Kfo (qt_p (Kmj hΓ hg27 E E E E E E)))<|bK h26 fun m28 hm28 h29=>Kft (oH v_h 0 1 2 3 [.bag al.1 (arX al.2.1 al.2.2.1 (hSet (hSet (hSet al.2.2.2.1 m (⟨m13.Node,m13.User,m13.Name,s.Public,m13.Tags,m13.Joined,m13.Expires,m13.Approved⟩:Lfc)) m (⟨m17.Node,m17.User,m17.Name,m17.Public,m17.Tags,m17.Joined,345686400,m17.Approved⟩:Lfc)) m (⟨m28.Node,m28.User,m28.Name,m28.Public,m28.Tags,m28.Joined,(if 345686400<(wi (s.At+v_h.d.Life)) then 345686400 else wi (s.At+v_h.d.Life)),m28.Approved⟩:Lfc)) al.2.2.2.2.1 al.2.2.2.2.2) [],.box 37 (fS s)]) E E (Kfv ⟨E,E,tV⟩) (Kfz (Kml hΓ (enc:=Llr) (bg:=5) m28 (⟨m28.Node,m28.User,m28.Name,m28.Public,m28.Tags,m28.Joined,(if 345686400<(wi (s.At+v_h.d.Life)) then 345686400 else wi (s.At+v_h.d.Life)),m28.Approved⟩:Lfc) E E (ArU.r _ (ArU.r _ (ArU.l _ (Kko (fun _ _=>E) hm28 (⟨m28.Node,m28.User,m28.Name,m28.Public,m28.Tags,m28.Joined,(if 345686400<(wi (s.At+v_h.d.Life)) then 345686400 else wi (s.At+v_h.d.Life)),m28.Approved⟩:Lfc))))) E E (by intro e;cases e) E E E E E E E)) ?_
    exact Kfn<|oSi h29▸⟨⟨E,E,E,tV⟩,[],E,.inl E⟩
   refine gA 5 E<|eo_o E (Kms hΓ E E E)<|gK h24 fun hg32 h31=>gK h31 fun hg34 h33=>gO 3 E<|eo_o E (Kmt hΓ hg34 E E E E E E)<|eo_o E (Kmj hΓ hg32 E E E E E E)<|bK h33 fun m35 hm35 h36=>bK h36 fun x37 hx37 h38=>?_
   have hj39:=Keh hx37
   exact eo_u Z (Kmv hΓ (enc:=Llx) (bg:=5) (z':=(⟨x37.Public,x37.From,s.At⟩:Lfk)) (wi (((((mGet v_h.History s.Node).getD (0,0)).2:Nat):Int) - 1)).toNat 2 hj39 E E E (ArU.r _ (ArU.l _ (Kko (fun _ _=>E) hm35 (m35.set (wi (((((mGet v_h.History s.Node).getD (0,0)).2:Nat):Int) - 1)).toNat (⟨x37.Public,x37.From,s.At⟩:Lfk))))) E (fun _=>E) E E E E E E E)<|Kdx (oH v_h 0 1 2 3 [.bag q23.1 (arX q23.2.1 (hSet q23.2.2.1 (((mGet v_h.History s.Node).getD (0,0)).1) (m35.set (wi (((((mGet v_h.History s.Node).getD (0,0)).2:Nat):Int) - 1)).toNat (⟨x37.Public,x37.From,s.At⟩:Lfk))) q23.2.2.2.1 q23.2.2.2.2.1 q23.2.2.2.2.2) [],.box 37 (fS s)]) E<|gO 2 E<|Kfl [.dead,.dead,.dead,.dead,bH v_h 0 1 2 3,.dead,.box 37 (fS s)] [3,5,8,10] [13,14] [] hmix (by kernel_rfl) (by kernel_rfl) ⟨E,E,tV⟩ Z<|go_E hΓ 11 E<|ge_q E (.inl E) (fun _ _=>Kfo (qt_p (Kgf hΓ (gs:=[S s.Public,I s.At,I 345686400]) E E E E E E)))<|Kgc hΓ (enc:=Llx) [(⟨s.Public,s.At,345686400⟩:Lfk)] E E E E E E E E E E E E<|bK h38 fun y40 hy40 h41=>ge_h (oH v_h 0 1 2 3 [.bag y40.2.1 (arX q23.2.1 y40.2.2 q23.2.2.2.1 q23.2.2.2.2.1 q23.2.2.2.2.2) [],.box 37 (fS s)]) E E E (Kfv ⟨E,E,tV⟩) (Kfy (Knc hΓ (enc:=Llx) (bg:=5) (fun l=>arX q23.2.1 l q23.2.2.2.1 q23.2.2.2.2.1 q23.2.2.2.2.2) hy40 (Kmy _ (Kmx _ Kmw)) E E E E E E E E (fun _=>E) E E))<|Kft [mObH v_h.keys,mObH v_h.nodes,mObB v_h.ever,mObV (mSet v_h.History s.Node y40.1),bH v_h 0 1 2 3,.bag y40.2.1 (arX q23.2.1 y40.2.2 q23.2.2.2.1 q23.2.2.2.2.1 q23.2.2.2.2.2) [],.box 37 (fS s)] E E (Kfv ⟨E,E,tV⟩) (Kfz (Kie hΓ (kv:=kS) (agg:=false) (enc:=(eV 107 3)) (id:=3) v_h.History s.Node y40.1 E E E Khq E E E E E))<|Kfn<|gA 1 E<|oSi h41▸⟨_,E,⟨tV,[],E,.inl E⟩⟩
  ·refine gA 2 E<|jD<|gK h43 fun hg45 h44=>gA 1 E<|gl_o E (Kmi hg45 E)<|gl_o E (Kmj hΓ hg45 E E E E E E)<|bK h44 fun m46 hm46 h47=>gl_o E (Kmk hΓ (enc:=Llr) (bg:=5) m46 E E (ArU.r _ (ArU.r _ (ArU.l _ (Kko (fun _ _=>E) hm46 m46)))) E (g:=S m46.Name) E E)<|Kcg hΓ 5 E<|jC E h47 (fun h48=>?_) fun h51=>gK h51 fun hg53 h52=>gA 6 E<|eo_o E (Kmi hg53 E)<|eo_o E (Kmj hΓ hg53 E E E E E E)<|bK h52 fun m54 hm54 h55=>eo_u Z (Kml hΓ (enc:=Llr) (bg:=5) m54 (⟨m54.Node,m54.User,s.Name,m54.Public,m54.Tags,m54.Joined,m54.Expires,m54.Approved⟩:Lfc) E E (ArU.r _ (ArU.r _ (ArU.l _ (Kko (fun _ _=>E) hm54 (⟨m54.Node,m54.User,s.Name,m54.Public,m54.Tags,m54.Joined,m54.Expires,m54.Approved⟩:Lfc))))) E E (by intro e;cases e) E E E E E E E) ?_
   ·refine gA 8 E<|bK h48 fun v49 hv49 h50=>?_
    cases h50
    cases h2
    exact gA 2 E<|Kgk<|oSi hv49▸Kec hΓ [_] (.inr E) E E E E (.inr ⟨HB.mk E,E⟩)
   exact Kdx (oH v_h 0 1 2 3 [.bag al.1 (arX al.2.1 al.2.2.1 (hSet al.2.2.2.1 m (⟨m54.Node,m54.User,s.Name,m54.Public,m54.Tags,m54.Joined,m54.Expires,m54.Approved⟩:Lfc)) al.2.2.2.2.1 al.2.2.2.2.2) [],.box 37 (fS s)]) E<|gO 2 E<|oSi h55▸⟨_,E,⟨tV,[],E,.inl E⟩⟩
  refine gA 6 E<|jC E h56 (fun h57=>?_) fun h82=>gA 6 E<|jC E h82 (fun h83=>?_) fun h96=>?_
  ·refine gA 9 E<|jC E h57 (fun h58=>?_) fun h61=>gA 4 E<|jD<|bK h61 fun y62 hy62 h63=>gA 8 E<|Kdr C (Lqd hy62) E E E E E E<|Kcg hΓ 9 E<|jC E h63 (fun h64=>?_) fun h67=>?_
   ·refine gA 8 E<|bK h58 fun v59 hv59 h60=>?_
    cases h60
    cases h2
    exact gA 2 E<|Kgk<|oSi hv59▸Kec hΓ [_] (.inr E) E E E E (.inr ⟨HB.mk E,E⟩)
   ·refine gA 9 E<|bK h64 fun v65 hv65 h66=>?_
    cases h66
    cases h2
    exact gA 2 E<|Kgk<|oSi hv65▸Kec hΓ [_] (.inr E) E E E E (.inr ⟨HB.mk E,E⟩)
   refine bK h67 fun y68 hy68 h69=>gA 8 E<|Kdq C (Pure.rows (Lok hy68) E E) E Z E E E E E<|gK h69 fun hg71 h70=>eo_o E (Kmi hg71 E)<|eo_o E (Kmj hΓ hg71 E E E E E E)<|bK h70 fun m72 hm72 h73=>eo_u Z (Kml hΓ (enc:=Llr) (bg:=5) m72 (⟨m72.Node,[],m72.Name,m72.Public,m72.Tags,m72.Joined,m72.Expires,m72.Approved⟩:Lfc) E E (ArU.r _ (ArU.r _ (ArU.l _ (Kko (fun _ _=>E) hm72 (⟨m72.Node,[],m72.Name,m72.Public,m72.Tags,m72.Joined,m72.Expires,m72.Approved⟩:Lfc))))) E E (by intro e;cases e) E E E E E E E) ?_
   refine Kdx (oH v_h 0 1 2 3 [.bag al.1 (arX al.2.1 al.2.2.1 (hSet al.2.2.2.1 m (⟨m72.Node,[],m72.Name,m72.Public,m72.Tags,m72.Joined,m72.Expires,m72.Approved⟩:Lfc)) al.2.2.2.2.1 al.2.2.2.2.2) [],.box 37 (fS s)]) E<|gK h73 fun hg75 h74=>eo_o E (Kmi hg75 E)<|eo_o E (Kmj hΓ hg75 E E E E E E)<|bK h74 fun m76 hm76 h77=>eo_u Z (Kml hΓ (enc:=Llr) (bg:=5) m76 (⟨m76.Node,m76.User,m76.Name,m76.Public,y68,m76.Joined,m76.Expires,m76.Approved⟩:Lfc) E E (ArU.r _ (ArU.r _ (ArU.l _ (Kko (fun _ _=>E) hm76 (⟨m76.Node,m76.User,m76.Name,m76.Public,y68,m76.Joined,m76.Expires,m76.Approved⟩:Lfc))))) E E (by intro e;cases e) E E E E E E E) ?_
   refine Kdx (oH v_h 0 1 2 3 [.bag al.1 (arX al.2.1 al.2.2.1 (hSet (hSet al.2.2.2.1 m (⟨m72.Node,[],m72.Name,m72.Public,m72.Tags,m72.Joined,m72.Expires,m72.Approved⟩:Lfc)) m (⟨m76.Node,m76.User,m76.Name,m76.Public,y68,m76.Joined,m76.Expires,m76.Approved⟩:Lfc)) al.2.2.2.2.1 al.2.2.2.2.2) [],.box 37 (fS s)]) E<|gK h77 fun hg79 h78=>eo_o E (Kmi hg79 E)<|eo_o E (Kmj hΓ hg79 E E E E E E)<|bK h78 fun m80 hm80 h81=>eo_u Z (Kml hΓ (enc:=Llr) (bg:=5) m80 (⟨m80.Node,m80.User,m80.Name,m80.Public,m80.Tags,m80.Joined,345686400,m80.Approved⟩:Lfc) E E (ArU.r _ (ArU.r _ (ArU.l _ (Kko (fun _ _=>E) hm80 (⟨m80.Node,m80.User,m80.Name,m80.Public,m80.Tags,m80.Joined,345686400,m80.Approved⟩:Lfc))))) E E (by intro e;cases e) E E E E E E E) ?_
   exact Kdx (oH v_h 0 1 2 3 [.bag al.1 (arX al.2.1 al.2.2.1 (hSet (hSet (hSet al.2.2.2.1 m (⟨m72.Node,[],m72.Name,m72.Public,m72.Tags,m72.Joined,m72.Expires,m72.Approved⟩:Lfc)) m (⟨m76.Node,m76.User,m76.Name,m76.Public,y68,m76.Joined,m76.Expires,m76.Approved⟩:Lfc)) m (⟨m80.Node,m80.User,m80.Name,m80.Public,m80.Tags,m80.Joined,345686400,m80.Approved⟩:Lfc)) al.2.2.2.2.1 al.2.2.2.2.2) [],.box 37 (fS s)]) E<|gO 2 E<|oSi h81▸⟨_,E,⟨tV,[],E,.inl E⟩⟩
  ·refine gA 2 E<|jD<|gK h83 fun hg85 h84=>gA 1 E<|gl_o E (Kmi hg85 E)<|gl_o E (Kmj hΓ hg85 E E E E E E)<|bK h84 fun m86 hm86 h87=>gl_o E (Kmk hΓ (enc:=Llr) (bg:=5) m86 E E (ArU.r _ (ArU.r _ (ArU.l _ (Kko (fun _ _=>E) hm86 m86)))) E (g:=I m86.Expires) E E)<|Kcg hΓ 5 E<|jC E h87 (fun h88=>?_) fun h91=>gK h91 fun hg93 h92=>gA 6 E<|eo_o E (Kmi hg93 E)<|eo_o E (Kmj hΓ hg93 E E E E E E)<|bK h92 fun m94 hm94 h95=>eo_u Z (Kml hΓ (enc:=Llr) (bg:=5) m94 (⟨m94.Node,m94.User,m94.Name,m94.Public,m94.Tags,m94.Joined,s.At,m94.Approved⟩:Lfc) E E (ArU.r _ (ArU.r _ (ArU.l _ (Kko (fun _ _=>E) hm94 (⟨m94.Node,m94.User,m94.Name,m94.Public,m94.Tags,m94.Joined,s.At,m94.Approved⟩:Lfc))))) E E (by intro e;cases e) E E E E E E E) ?_
   ·refine gA 8 E<|bK h88 fun v89 hv89 h90=>?_
    cases h90
    cases h2
    exact gA 2 E<|Kgk<|oSi hv89▸Kec hΓ [_] (.inr E) E E E E (.inr ⟨HB.mk E,E⟩)
   exact Kdx (oH v_h 0 1 2 3 [.bag al.1 (arX al.2.1 al.2.2.1 (hSet al.2.2.2.1 m (⟨m94.Node,m94.User,m94.Name,m94.Public,m94.Tags,m94.Joined,s.At,m94.Approved⟩:Lfc)) al.2.2.2.2.1 al.2.2.2.2.2) [],.box 37 (fS s)]) E<|gO 2 E<|oSi h95▸⟨_,E,⟨tV,[],E,.inl E⟩⟩
  refine gA 1 E<|Kfl [.dead,.dead,.dead,.dead,bH v_h 0 1 2 3,.dead,.box 37 (fS s)] [3,5] [6] [] hmix (by kernel_rfl) (by kernel_rfl) ⟨E,E,tV⟩ Z<|go_E hΓ 6 E<|Kft [mObH v_h.keys,mObH (mDel v_h.nodes s.Node),mObB v_h.ever,mObV v_h.History,bH v_h 0 1 2 3,bg al,.box 37 (fS s)] E E (Kfv ⟨E,E,tV⟩) (Kfy (Knf hΓ (kv:=kS) (agg:=false) (enc:=(eH (some 0))) (id:=1) v_h.nodes s.Node E E E Khq E E E E))<|Kfn<|gA 4 E<|eo_o E (Kms hΓ E E E)<|gK h96 fun hg98 h97=>gK h97 fun hg100 h99=>gO 3 E<|eo_o E (Kmt hΓ hg100 E E E E E E)<|eo_o E (Kmj hΓ hg98 E E E E E E)<|bK h99 fun m101 hm101 h102=>bK h102 fun x103 hx103 h104=>?_
  have hj105:=Keh hx103
  exact eo_u Z (Kmv hΓ (enc:=Llx) (bg:=5) (z':=(⟨x103.Public,x103.From,s.At⟩:Lfk)) (wi (((((mGet v_h.History s.Node).getD (0,0)).2:Nat):Int) - 1)).toNat 2 hj105 E E E (ArU.r _ (ArU.l _ (Kko (fun _ _=>E) hm101 (m101.set (wi (((((mGet v_h.History s.Node).getD (0,0)).2:Nat):Int) - 1)).toNat (⟨x103.Public,x103.From,s.At⟩:Lfk))))) E (fun _=>E) E E E E E E E)<|Kdx [mObH v_h.keys,mObH (mDel v_h.nodes s.Node),mObB v_h.ever,mObV v_h.History,bH v_h 0 1 2 3,.bag al.1 (arX al.2.1 (hSet al.2.2.1 (((mGet v_h.History s.Node).getD (0,0)).1) (m101.set (wi (((((mGet v_h.History s.Node).getD (0,0)).2:Nat):Int) - 1)).toNat (⟨x103.Public,x103.From,s.At⟩:Lfk))) al.2.2.2.1 al.2.2.2.2.1 al.2.2.2.2.2) [],.box 37 (fS s)] E<|gO 2 E<|oSi h104▸⟨_,E,⟨tV,[],E,.inl E⟩⟩
 intro a3 ha
 subst ha
 replace h2:=Kgh h2
 exact gA 7 E<|Kgk<|oSi h2▸Kec hΓ [_] (.inr E) E E E E (.inr ⟨HB.mk E,E⟩)
theorem Lqm{v_h:Lfh}{s:Ley}{al:BagT}{r:Int×Lfh×BagT}(h:Ljz v_h s al=some r):EC Tryz.prog 98 [.ptr 4 0,.agg (fS s)] (oH v_h 0 1 2 3 [bg al]) fun g hp'=>g=I r.1∧hp'=(oH r.2.1 0 1 2 3 [bg r.2.2]):=by
 unfold Ljz at h
 refine QM Tryz.func98 E Z<|gA 2 E<|Kqg E E E E Z<|bK h fun q1 hq1 h2=>gO 18 E<|Kgp [(0,.ptr 4 0),(3,.ptr 6 0),(7,I s.Kind),(8,B q1)] (oH v_h 0 1 2 3 [bg al,.box 37 (fS s)]) ?_ ?_
 ·refine jC E hq1 (fun h3=>?_) fun h4=>gA 4 E<|oSi h4▸⟨⟨E,E,E,E,tV⟩,[],E,.inl E⟩
  exact gA 1 E<|oSi h3▸⟨⟨E,E,E,E,tV⟩,[],E,.inl E⟩
 refine gA 1 E<|jC E h2 (fun h5=>?_) fun h8=>gA 6 E<|jC E h8 (fun h9=>?_) fun h12=>?_
 ·exact bK h5 fun y6 hy6 h7=>gA 4 E<|Kdp [0,1,2,3,4,5] (I y6.1) (oH y6.2.1 0 1 2 3 [bg y6.2.2,.box 37 (fS s)]) C (Lqe hy6) E Z E E E E E E E E E E<|gO 6 E<|Kgk<|oSi h7▸Kec hΓ [_] (.inr E) E E E E (.inr ⟨HB.mk E,E⟩)
 ·exact bK h9 fun y10 hy10 h11=>gA 4 E<|Kdp [0,1,2,3,4,5] (I y10.1) (oH y10.2.1 0 1 2 3 [bg y10.2.2,.box 37 (fS s)]) C (Lqg hy10) E Z E E E E E E E E E E<|gO 6 E<|Kgk<|oSi h11▸Kec hΓ [_] (.inr E) E E E E (.inr ⟨HB.mk E,E⟩)
 refine gA 5 E<|jD<|bK h12 fun y13 hy13 h14=>gA 7 E<|Kdr C (Lmw hy13) E E E E E E<|Kcg hΓ 3 E<|jC E h14 (fun h15=>?_) fun h16=>gA 3 E<|jD<|gA 6 E<|gl_o E (Kkv hΓ (kv:=kS) (agg:=false) (enc:=(eH (some 0))) v_h.nodes s.Node (0:Nat) E E E E Khq E E E (Kku E) E)<|Kcg hΓ 7 E<|eo_o E ((Kkz hΓ E E E E).1)<|gO 2 E<|jC E h16 (fun h17=>?_) fun h18=>?_
 ·exact gA 7 E<|Kgk<|oSi h15▸Kec hΓ [_] (.inr E) E E E E (.inr ⟨HB.mk E,E⟩)
 ·exact gA 7 E<|Kgk<|oSi h17▸Kec hΓ [_] (.inr E) E E E E (.inr ⟨HB.mk E,E⟩)
 refine gA 10 E<|jC E h18 (fun h19=>?_) fun h30=>gA 4 E<|jD<|gK h30 fun hg32 h31=>gA 7 E<|gl_o E (Kmi hg32 E)<|bK h31 fun m33 hm33 h34=>gl_o E (Kmk hΓ (enc:=Llr) (bg:=5) m33 E E (ArU.r _ (ArU.r _ (ArU.l _ (Kko (fun _ _=>E) hm33 m33)))) E (g:=.agg (fM m33)) E E)<|bK h34 fun y35 hy35 h36=>Kdr C (Lqk hy35) E E E E E E<|Kcg hΓ 3 E<|jC E h36 (fun h37=>?_) fun h38=>?_
 ·refine gK h19 fun hg21 h20=>gA 4 E<|eo_o E (Kmi hg21 E)<|eo_o E (Kmj hΓ hg21 E E E E E E)<|bK h20 fun m22 hm22 h23=>eo_o E (Kmk hΓ (enc:=Llr) (bg:=5) m22 E E (ArU.r _ (ArU.r _ (ArU.l _ (Kko (fun _ _=>E) hm22 m22)))) E (g:=B m22.Approved) E E)<|gO 2 E<|jC E h23 (fun h24=>?_) fun h25=>gK h25 fun hg27 h26=>gA 5 E<|eo_o E (Kmi hg27 E)<|eo_o E (Kmj hΓ hg27 E E E E E E)<|bK h26 fun m28 hm28 h29=>eo_u Z (Kml hΓ (enc:=Llr) (bg:=5) m28 (⟨m28.Node,m28.User,m28.Name,m28.Public,m28.Tags,m28.Joined,m28.Expires,true⟩:Lfc) E E (ArU.r _ (ArU.r _ (ArU.l _ (Kko (fun _ _=>E) hm28 (⟨m28.Node,m28.User,m28.Name,m28.Public,m28.Tags,m28.Joined,m28.Expires,true⟩:Lfc))))) E E (by intro e;cases e) E E E E E E E) ?_
  ·exact gA 8 E<|Kgk<|oSi h24▸Kec hΓ [_] (.inr E) E E E E (.inr ⟨HB.mk E,E⟩)
  exact Kdx (oH v_h 0 1 2 3 [.bag al.1 (arX al.2.1 al.2.2.1 (hSet al.2.2.2.1 ((mGet v_h.nodes s.Node).getD 0) (⟨m28.Node,m28.User,m28.Name,m28.Public,m28.Tags,m28.Joined,m28.Expires,true⟩:Lfc)) al.2.2.2.2.1 al.2.2.2.2.2) [],.box 37 (fS s)]) E<|gO 9 E<|Kgk<|oSi h29▸Kec hΓ [_] (.inr E) E E E E (.inr ⟨HB.mk E,E⟩)
 ·exact gA 7 E<|Kgk<|oSi h37▸Kec hΓ [_] (.inr E) E E E E (.inr ⟨HB.mk E,E⟩)
 exact bK h38 fun y39 hy39 h40=>gA 7 E<|Kdp [0,1,2,3,4,5] (I y39.1) (oH y39.2.1 0 1 2 3 [bg y39.2.2,.box 37 (fS s)]) C (Lql hy39) E Z E E E E E E E E E E<|gO 4 E<|Kgk<|oSi h40▸Kec hΓ [_] (.inr E) E E E E (.inr ⟨HB.mk E,E⟩)
theorem Lqn{d:Lex}{l:List Ley}{v_at:Int}{al:BagT}{r:Lfh×(List Lfi)×BagT}(h:Lka d l v_at al=some r):EC Tryz.prog 94 [.agg (fD d),.d (Sl Lln l),I v_at] [bg al] fun g hp'=>g=.tup [.ptr 5 0,.sl 6 r.2.1.length]∧hp'=(bg r.2.2::oH r.1 1 2 3 4 [rO 48 2 Llv r.2.1]):=by
 unfold Lka at h
 refine QM Tryz.func94 E Z<|gA 2 E<|Kqg E E E E Z<|bK h fun y1 hy1 h2=>gO 7 E<|Kdp [] (.ptr 6 0) (bg al::.box 29 (fD d)::oH y1 2 3 4 5 []) C (Lqb hy1) E Z E E E E E E E E E E<|gO 5 E<|Kdn (t:=0) 48 2 E Z<|gO 10 E<|bK h2 fun q6 hq6 h7=>Kcy 15 E fun hb9=>bK h7 fun q10 hq10 h11=>Kgp [(8,.ptr 6 0),(9,.sl 7 q10.2.2.2.2.2.2.2.2.2.length)] [bg q10.1,.box 29 (fD d),mObH q10.2.1,mObH q10.2.2.1,mObB q10.2.2.2.1,mObV q10.2.2.2.2.1,.box 220 [.d (Sl eS q10.2.2.2.2.2.1),.d (Sl Lll q10.2.2.2.2.2.2.1),I q10.2.2.2.2.2.2.2.1,B q10.2.2.2.2.2.2.2.2.1,.map 2,.map 3,.map 4,.map 5],rO 48 2 Llv q10.2.2.2.2.2.2.2.2.2] ?_ ?_
 ·refine gA 1 E<|Kcx l hq6 (fun i3 s4=>[(2,I v_at),(8,.ptr 6 0),(9,.sl 7 s4.2.2.2.2.2.2.2.2.2.length),(15,.d (Sl Lln l)),(16,I (l.length:Int)),(17,I (i3:Int))]) (fun s4=>[bg s4.1,.box 29 (fD d),mObH s4.2.1,mObH s4.2.2.1,mObB s4.2.2.2.1,mObV s4.2.2.2.2.1,.box 220 [.d (Sl eS s4.2.2.2.2.2.1),.d (Sl Lll s4.2.2.2.2.2.2.1),I s4.2.2.2.2.2.2.2.1,B s4.2.2.2.2.2.2.2.2.1,.map 2,.map 3,.map 4,.map 5],rO 48 2 Llv s4.2.2.2.2.2.2.2.2.2]) ⟨⟨E,E,E,E,E,E,tV⟩,[],E,.inl E⟩ (fun i3 x5 s4 y15 hx12 hlt hy13 hout14=>?_) (fun s4 hgo=>?_)
  ·refine gA 6 E<|Kcj E (dT (Int.ofNat_lt.2 hlt))<|gA 7 E<|eo_o E (Kcz hΓ (enc:=Lln) (Kcs hx12) E E E E E (fun _=>E))<|gO 1 E<|Kqf hΓ E E E Z<|gO 1 E<|Kqk hΓ E E E E E E E E Z<|Kdx [bg s4.1,.box 29 (fD d),mObH s4.2.1,mObH s4.2.2.1,mObB s4.2.2.2.1,mObV s4.2.2.2.2.1,.box 220 [.d (Sl eS s4.2.2.2.2.2.1),.d (Sl Lll s4.2.2.2.2.2.2.1),I s4.2.2.2.2.2.2.2.1,B s4.2.2.2.2.2.2.2.2.1,.map 2,.map 3,.map 4,.map 5],rO 48 2 Llv s4.2.2.2.2.2.2.2.2.2,.box 37 (fS x5)] E<|gO 11 E<|jC E hy13 (fun h16=>?_) fun h17=>bK h17 fun y18 hy18 h19=>gA 6 E<|Kdp [2,3,4,5,6,0] (I y18.1) (bg y18.2.2::.box 29 (fD d)::oH y18.2.1 2 3 4 5 [rO 48 2 Llv s4.2.2.2.2.2.2.2.2.2,.box 37 (fS x5)]) C (Lqm hy18) E Z E E E E E E E E E E<|gO 9 E<|jC E h19 (fun h20=>?_) fun h23=>?_
   ·refine gA 6 E ?_
    cases h16
    obtain rfl:=hout14 _ rfl
    exact oSi hq10▸⟨⟨E,E,tV⟩,[_],E,.inr ⟨HB.mk E,FB.mk E,Z⟩⟩
   ·refine gA 4 E<|Kam hΓ (gs:=[I (i3:Int),I y18.1]) E E E E E E E<|Kdk hΓ (enc:=Llv) [(⟨(i3:Int),y18.1⟩:Lfi)] E E E E E E E E E E E E Z<|bK h20 fun y21 hy21 h22=>Kdy hΓ (enc:=Llv) hy21 E E E E E E E E E (fun _=>E) E E E E<|gO 8 E ?_
    cases h22
    exact⟨_,E,⟨⟨E,E,E,E,E,Kbp E (Kbo (nLl hlt hb9)),tV⟩,[_],E,.inr ⟨HB.mk E,FB.mk E,Z⟩⟩⟩
   refine gA 7 E ?_
   cases h23
   exact⟨_,E,⟨⟨E,E,E,E,E,Kbp E (Kbo (nLl hlt hb9)),tV⟩,[_],E,.inr ⟨HB.mk E,FB.mk E,Z⟩⟩⟩
  subst hgo
  exact gA 6 E<|Kck E (dF (Int.lt_irrefl _))<|gA 4 E<|oSi hq10▸⟨⟨E,E,tV⟩,[],E,.inl E⟩
 exact gA 10 E<|Kix 1 [bg q10.1,.dead,mObH q10.2.1,mObH q10.2.2.1,mObB q10.2.2.2.1,mObV q10.2.2.2.2.1,.box 220 [.d (Sl eS q10.2.2.2.2.2.1),.d (Sl Lll q10.2.2.2.2.2.2.1),I q10.2.2.2.2.2.2.2.1,B q10.2.2.2.2.2.2.2.2.1,.map 2,.map 3,.map 4,.map 5],rO 48 2 Llv q10.2.2.2.2.2.2.2.2.2] E Z<|Kgn 2 1 [bg q10.1,mObH q10.2.1,.dead,mObH q10.2.2.1,mObB q10.2.2.2.1,mObV q10.2.2.2.2.1,.box 220 [.d (Sl eS q10.2.2.2.2.2.1),.d (Sl Lll q10.2.2.2.2.2.2.1),I q10.2.2.2.2.2.2.2.1,B q10.2.2.2.2.2.2.2.2.1,.map 1,.map 3,.map 4,.map 5],rO 48 2 Llv q10.2.2.2.2.2.2.2.2.2] E E E E E E<|Kgn 3 2 [bg q10.1,mObH q10.2.1,mObH q10.2.2.1,.dead,mObB q10.2.2.2.1,mObV q10.2.2.2.2.1,.box 220 [.d (Sl eS q10.2.2.2.2.2.1),.d (Sl Lll q10.2.2.2.2.2.2.1),I q10.2.2.2.2.2.2.2.1,B q10.2.2.2.2.2.2.2.2.1,.map 1,.map 2,.map 4,.map 5],rO 48 2 Llv q10.2.2.2.2.2.2.2.2.2] E E E E E E<|Kgn 4 3 [bg q10.1,mObH q10.2.1,mObH q10.2.2.1,mObB q10.2.2.2.1,.dead,mObV q10.2.2.2.2.1,.box 220 [.d (Sl eS q10.2.2.2.2.2.1),.d (Sl Lll q10.2.2.2.2.2.2.1),I q10.2.2.2.2.2.2.2.1,B q10.2.2.2.2.2.2.2.2.1,.map 1,.map 2,.map 3,.map 5],rO 48 2 Llv q10.2.2.2.2.2.2.2.2.2] E E E E E E<|Kgn 5 4 [bg q10.1,mObH q10.2.1,mObH q10.2.2.1,mObB q10.2.2.2.1,mObV q10.2.2.2.2.1,.dead,.box 220 [.d (Sl eS q10.2.2.2.2.2.1),.d (Sl Lll q10.2.2.2.2.2.2.1),I q10.2.2.2.2.2.2.2.1,B q10.2.2.2.2.2.2.2.2.1,.map 1,.map 2,.map 3,.map 4],rO 48 2 Llv q10.2.2.2.2.2.2.2.2.2] E E E E E E<|Kgn 6 5 [bg q10.1,mObH q10.2.1,mObH q10.2.2.1,mObB q10.2.2.2.1,mObV q10.2.2.2.2.1,.box 220 [.d (Sl eS q10.2.2.2.2.2.1),.d (Sl Lll q10.2.2.2.2.2.2.1),I q10.2.2.2.2.2.2.2.1,B q10.2.2.2.2.2.2.2.2.1,.map 1,.map 2,.map 3,.map 4],.dead,rO 48 2 Llv q10.2.2.2.2.2.2.2.2.2] E E E E E E<|Kgn 7 6 [bg q10.1,mObH q10.2.1,mObH q10.2.2.1,mObB q10.2.2.2.1,mObV q10.2.2.2.2.1,.box 220 [.d (Sl eS q10.2.2.2.2.2.1),.d (Sl Lll q10.2.2.2.2.2.2.1),I q10.2.2.2.2.2.2.2.1,B q10.2.2.2.2.2.2.2.2.1,.map 1,.map 2,.map 3,.map 4],rO 48 2 Llv q10.2.2.2.2.2.2.2.2.2,.dead] E E E E E E<|Kgk<|oSi h11▸Kec hΓ [_] (.inr E) E E E E (.inr ⟨HB.mk E,E⟩)
theorem Lqo{x:Int}{r:Int}(h:Lkb x=some r):Pure Tryz.prog 294 [U x] (I r):=by
 unfold Lkb at h
 refine QP Tryz.func294 E E E<|bK h fun q1 hq1 h2=>gA 12 E<|Kgp [(0,U q1.1),(2,I q1.2)] [] ?_ ?_
 ·refine jC E hq1 (fun h3=>?_) fun h4=>gA 1 E<|oSi h4▸⟨⟨E,E,tV⟩,[],E,.inl E⟩
  exact gA 10 E<|oSi h3▸⟨⟨E,E,tV⟩,[],E,.inl E⟩
 refine bK h2 fun q5 hq5 h6=>gA 8 E<|Kgp [(0,U q5.1),(2,I q5.2)] [] ?_ ?_
 ·refine jC E hq5 (fun h7=>?_) fun h8=>gA 1 E<|oSi h8▸⟨⟨E,E,tV⟩,[],E,.inl E⟩
  exact gA 12 E<|oSi h7▸⟨⟨E,E,tV⟩,[],E,.inl E⟩
 refine bK h6 fun q9 hq9 h10=>gA 8 E<|Kgp [(0,U q9.1),(2,I q9.2)] [] ?_ ?_
 ·refine jC E hq9 (fun h11=>?_) fun h12=>gA 1 E<|oSi h12▸⟨⟨E,E,tV⟩,[],E,.inl E⟩
  exact gA 12 E<|oSi h11▸⟨⟨E,E,tV⟩,[],E,.inl E⟩
 exact bK h10 fun c13 hc13 h14=>gA 6 E<|eo_o E (Kda hΓ hc13 E E E E)<|gO 6 E<|oSi h14▸gP E E
theorem Lqp{x:Int}{r:Int}(h:Lkc x=some r):Pure Tryz.prog 215 [U x] (I r):=by
 unfold Lkc at h
 exact QP Tryz.func215 E E E<|gA 6 E<|Kif<|bK h fun y1 hy1 h2=>gA 5 E<|Kdq C (Lqo hy1) E Z E E E E E<|gO 4 E<|oSi h2▸gP E E
theorem Lqq{a:Lfc}{b:Lfc}{r:Int}(h:Lkd a b=some r):Pure Tryz.prog 146 [.agg (fM a),.agg (fM b)] (I r):=by
 unfold Lkd at h
 exact QP Tryz.func146 E E E<|gA 2 E<|Kqg E E E E Z<|Kqg E E E E Z<|bK h fun y1 hy1 h2=>gO 9 E<|Kdq C (Lem hy1) E Z E E E E E<|gO 4 E<|oSi h2▸gP E E
theorem Lqr{k:Nat}{data:List Lfc}{a:Int}{b:Int}{r:List Lfc}(h:Lke k data a b=some r):EC Tryz.prog 308 [.sl 0 data.length,I a,I b,.fn (.func 146) [] []] [rO 77 8 Llr data] fun g hp'=>g=.tup []∧hp'=[rO 77 8 Llr r]:=by
 unfold Lke at h
 refine QN Tryz.func308 E Z<|gA 7 E<|bK h fun q4 hq4 h5=>Kgp [] [rO 77 8 Llr q4] ?_ ?_
 ·refine gA 1 E<|Kcv hq4 (fun s2=>[(0,.sl 0 s2.1.length),(1,I a),(2,I b),(3,.fn (.func 146) [] []),(8,I s2.2)]) (fun s2=>[rO 77 8 Llr s2.1]) ⟨⟨E,E,E,E,E,tV⟩,[],E,.inl E⟩ (fun s2 y10 hy8 hout9=>?_)
  refine gA 8 E<|jC E hy8 (fun h11=>?_) fun h51=>gA 4 E ?_
  ·refine gA 10 E<|bK h11 fun q15 hq15 h16=>Kgp [(0,.sl 0 q15.length),(1,I a),(2,I b),(3,.fn (.func 146) [] []),(8,I s2.2)] [rO 77 8 Llr q15] ?_ ?_
   ·refine gA 1 E<|Kcv hq15 (fun s13=>[(0,.sl 0 s13.1.length),(1,I a),(2,I b),(3,.fn (.func 146) [] []),(8,I s2.2),(9,I s13.2)]) (fun s13=>[rO 77 8 Llr s13.1]) ⟨⟨E,E,E,E,E,E,tV⟩,[],E,.inl E⟩ (fun s13 y21 hy19 hout20=>?_)
    refine bK hy19 fun q22 hq22 h23=>gA 2 E<|Kgp [(0,.sl 0 s13.1.length),(1,I a),(2,I b),(3,.fn (.func 146) [] []),(8,I s2.2),(9,I s13.2),(34,B q22)] [rO 77 8 Llr s13.1] ?_ ?_
    ·refine jD<|gA 4 E<|Kaw E E (fun hb=>?_) (fun hb=>?_)
     ·have h24:=cT hq22 hb
      refine bK h24 fun x25 hx25 h26=>?_
      have hj27:=Keh hx25
      refine Kcg hΓ 3 E<|Kbr E E (Kdb hΓ hx25 E E E E E E)<|Kbr E E (Kdh hΓ (enc:=Llr) s13.2.toNat 0 hj27 E E E E (fun _=>E) (g:=.agg (fM x25)) E)<|bK h26 fun x28 hx28 h29=>?_
      have hj30:=Keh hx28
      exact Kcg hΓ 3 E<|Kbr E E (Kdb hΓ hx28 E E E E E E)<|Kbr E E (Kdh hΓ (enc:=Llr) ((wi (s13.2 - 1)).toNat) 0 hj30 E E E E (fun _=>E) (g:=.agg (fM x28)) E)<|bK h29 fun y31 hy31 h32=>Kds C (Lqq hy31) E E E E E E E<|Kcg hΓ 3 E<|oSi h32▸⟨⟨E,E,E,E,E,E,E,tV⟩,[],E,.inl E⟩
     have h33:=cF hq22 hb
     exact Kcg hΓ 14 E<|oSi h33▸⟨⟨E,E,E,E,E,E,E,tV⟩,[],E,.inl E⟩
    refine gA 1 E<|jC E h23 (fun h34=>?_) fun h50=>gA 4 E ?_
    ·refine gA 4 E<|Kfl [rO 77 8 Llr s13.1] [9,13] [15,17] [15,17] hmix (by kernel_rfl) (by kernel_rfl) ⟨E,tV⟩ Z<|bK h34 fun x35 hx35 h36=>?_
     have hj37:=Keh hx35
     refine go_E hΓ 8 E<|ge_q E (.inl E) (fun _ _=>Kfo (qt_p (Kdb hΓ hx35 E E E E E E)))<|ge_p E (fun hp hs=>Kdh hΓ (enc:=Llr) ((wi (s13.2 - 1)).toNat) 0 hj37 E E E (hs 0 _ E E) (fun _=>E) (g:=.agg (fM x35)) E) E<|bK h36 fun x38 hx38 h39=>?_
     have hj40:=Keh hx38
     refine go_E hΓ 2 E<|ge_q E (.inl E) (fun _ _=>Kfo (qt_p (Kdb hΓ hx38 E E E E E E)))<|ge_p E (fun hp hs=>Kdh hΓ (enc:=Llr) s13.2.toNat 0 hj40 E E E (hs 0 _ E E) (fun _=>E) (g:=.agg (fM x38)) E) E<|bK h39 fun x41 hx41 h42=>?_
     have hj43:=Keh hx41
     refine ge_q E (.inl E) (fun _ _=>Kfo (qt_p (Kdb hΓ hx41 E E E E E E)))<|Kft [rO 77 8 Llr (s13.1.set s13.2.toNat x35)] E E (Kfu E) (Kfz (Khd hΓ (enc:=Llr) (z':=x35) s13.2.toNat (by have:=(gEs.1 hj43).1;simpa using this) E E E E (fun _=>E) E E E E E)) ?_
     refine bK h42 fun x44 hx44 h45=>?_
     have hj46:=Keh hx44
     refine ge_q E (.inl E) (fun _ _=>Kfo (qt_p (Kdb hΓ hx44 E E E E E E)))<|bK h45 fun x47 hx47 h48=>?_
     have hj49:(s13.1.set s13.2.toNat x35)[(wi (s13.2 - 1)).toNat]?=some x47:=hx47
     refine Kft [rO 77 8 Llr ((s13.1.set s13.2.toNat x35).set ((wi (s13.2 - 1)).toNat) x38)] E E (Kfu E) (Kfz (Khd hΓ (enc:=Llr) (z':=x38) ((wi (s13.2 - 1)).toNat) (by have:=(gEs.1 hj49).1;simpa using this) E E E E (fun _=>E) E E E E E)) ?_
     refine Kfn<|gA 2 E<|Khe 0 (n':=((s13.1.set s13.2.toNat x35).set ((wi (s13.2 - 1)).toNat) x38).length) E (by simp) ?_
     refine Khe 37 (n':=((s13.1.set s13.2.toNat x35).set ((wi (s13.2 - 1)).toNat) x38).length) E (by simp) ?_
     refine Khe 39 (n':=((s13.1.set s13.2.toNat x35).set ((wi (s13.2 - 1)).toNat) x38).length) E (by simp) ?_
     refine Khe 42 (n':=((s13.1.set s13.2.toNat x35).set ((wi (s13.2 - 1)).toNat) x38).length) E (by simp) ?_
     refine Khe 47 (n':=((s13.1.set s13.2.toNat x35).set ((wi (s13.2 - 1)).toNat) x38).length) E (by simp) ?_
     exact gA 5 E<|oSi h48▸⟨_,E,⟨⟨E,E,E,E,E,E,tV⟩,[],E,.inl E⟩⟩
    cases h50
    obtain rfl:=hout20 _ rfl
    exact⟨⟨E,E,E,E,E,tV⟩,[],E,.inl E⟩
   exact gA 7 E<|oSi h16▸⟨_,E,⟨⟨E,E,E,E,E,tV⟩,[],E,.inl E⟩⟩
  cases h51
  obtain rfl:=hout9 _ rfl
  exact⟨tV,[],E,.inl E⟩
 exact oSi h5▸Kec hΓ [] (.inl E) E E E E (.inl E)
theorem Lqs{k:Nat}{data:List Lfc}{a:Int}{b:Int}{limit:Int}{r:List Lfc}(h:Lkf k data a b limit=some r):EC Tryz.prog 234 [.sl 0 data.length,I a,I b,I limit,.fn (.func 146) [] []] [rO 77 8 Llr data] fun g hp'=>g=.tup []∧hp'=[rO 77 8 Llr r]:=by
 unfold Lkf at h
 refine QN Tryz.func234 E Z<|gA 10 E<|bK h fun q4 hq4 h5=>gA 1 E<|Kcv hq4 (fun s2=>[(0,.sl 0 data.length),(1,I a),(2,I b),(3,I limit),(4,.fn (.func 146) [] []),(10,B true),(11,B true)]) (fun s2=>[rO 77 8 Llr data]) ⟨⟨E,E,E,E,E,E,E,tV⟩,[],E,.inl E⟩ (fun s2 y10 hy8 hout9=>?_)
 refine gA 16 E<|jC E hy8 (fun h11=>?_) fun h16=>gA 9 E<|jC E h16 (fun h17=>?_) fun h18=>?_
 ·refine bK h11 fun y12 hy12 h13=>gA 6 E<|Kdp [0] (.tup []) [rO 77 8 Llr y12] C (Lqr hy12) E Z E E E E E E E E E E<|gO 5 E<|bK h13 fun v14 hv14 h15=>?_
  cases h15
  obtain rfl:=hout9 _ rfl
  cases h5
  exact gA 2 E<|oSi hv14▸Kec hΓ [] (.inr E) E E E E (.inl E)
 ·refine gA 6 E ?_
  cases h17
 refine gA 18 E ?_
 cases h18
theorem Lqt{k:Nat}{x:List Lfc}{r:List Lfc}(h:Lkg k x=some r):EC Tryz.prog 145 [.sl 0 x.length,.fn (.func 146) [] []] [rO 77 8 Llr x] fun g hp'=>g=.tup []∧hp'=[rO 77 8 Llr r]:=by
 unfold Lkg at h
 exact QN Tryz.func145 E Z<|bK h fun y1 hy1 h2=>gA 12 E<|Kdq C (Lqp hy1) E Z E E E E E<|bK h2 fun y3 hy3 h4=>gO 1 E<|Kdp [0] (.tup []) [rO 77 8 Llr y3] C (Lqs hy3) E Z E E E E E E E E E E<|gO 1 E<|oSi h4▸Kec hΓ [] (.inl E) E E E E (.inl E)
theorem Lqu{k:Nat}{d:Lex}{l:List Ley}{v_at:Int}{al:BagT}{r:(List Lfc)×BagT}(h:Lkh k d l v_at al=some r):EC Tryz.prog 49 [.agg (fD d),.d (Sl Lln l),I v_at] [bg al] fun g hp'=>g=.sl 1 r.1.length∧hp'=[bg r.2,rO 77 8 Llr r.1]:=by
 unfold Lkh at h
 refine QM Tryz.func49 E Z<|gA 2 E<|Kqg E E E E Z<|bK h fun y1 hy1 h2=>gO 8 E<|Kdp [0] (.tup [.ptr 6 0,.sl 7 y1.2.1.length]) (bg y1.2.2::.box 29 (fD d)::oH y1.1 2 3 4 5 [rO 48 2 Llv y1.2.1]) C (Lqn hy1) E Z E E E E E E E E E E<|Kdv 7 [16] _ (bg y1.2.2::.box 29 (fD d)::oH y1.1 2 3 4 5 [.dead]) E E E Z<|gO 9 E<|Kdn (t:=0) 77 8 E Z<|gO 9 E<|Kiq hΓ (kv:=kS) (agg:=false) (enc:=(eH (some 0))) y1.1.nodes E E E E E Z (fun mr3 bs4 cl5 hpm6 hbl7 hbn8=>?_)
 refine Kdx [bg y1.2.2,.box 29 (fD d),mObH y1.1.keys,mObS kS false (eH (some 0)) y1.1.nodes (rawM kS (eH (some 0)) mr3 bs4 cl5),mObB y1.1.ever,mObV y1.1.History,bH y1.1 2 3 4 5,.dead,rO 77 8 Llr ([]:List Lfc),.iter 3 cl5 []] E<|gO 2 E<|gA 1 E<|Klb (Knn h2) hpm6 hbl7 hbn8 (fun s9=>[(9,.sl 8 s9.length),(23,.ptr 9 0)]) (fun sn11 s9=>[bg y1.2.2,.box 29 (fD d),mObH y1.1.keys,mObS kS false (eH (some 0)) y1.1.nodes (rawM kS (eH (some 0)) mr3 bs4 cl5),mObB y1.1.ever,mObV y1.1.History,bH y1.1 2 3 4 5,.dead,rO 77 8 Llr s9,.iter 3 cl5 sn11]) ⟨⟨E,E,tV⟩,[],E,.inl E⟩ (fun sn11 s9 hdone14 hstep15=>?_)
 refine gA 2 E<|Kir (kv:=kS) (agg:=false) (enc:=(eH (some 0))) y1.1.nodes mr3 bs4 cl5 sn11 (bg y1.2.2::.box 29 (fD d)::oH y1.1 2 3 4 5 [.dead,rO 77 8 Llr s9,.dead]) E E E E E Z (fun hdsn11=>?_) (fun j12 x10 b13 hjsn11 hbsn11 hnsn11=>?_)
 ·have h16:=hdone14 hdsn11
  exact bK h16 fun y17 hy17 h18=>gO 13 E<|Kdp [8] (.tup []) (bg y1.2.2::.box 29 (fD d)::oH y1.1 2 3 4 5 [.dead,rO 77 8 Llr y17,.dead]) C (Lqt hy17) E Z E E E E E E E E E E<|gK h18 fun hg20 h19=>Kha 9 E (of_decide_eq_true hg20).symm<|gO 9 E<|Kix 1 (bg y1.2.2::.dead::oH y1.1 2 3 4 5 [.dead,rO 77 8 Llr y17,.dead]) E Z<|Kgn 8 1 (bg y1.2.2::rO 77 8 Llr y17::oH y1.1 2 3 4 5 [.dead,.dead,.dead]) E E E E E E<|Kgk<|oSi h19▸Kec hΓ [_,_,_,_,_,_,_,_] (.inr E) E E E E (.inr ⟨HB.mk E,E⟩)
 obtain⟨s21,h22⟩:=hstep15 j12 x10 b13 hjsn11 hbsn11 hnsn11
 have hssn11:=h22
 refine gO 10 E<|eo_o E (Kis (kv:=kS) (agg:=false) (enc:=(eH (some 0))) y1.1.nodes mr3 bs4 cl5 sn11 hjsn11 hbsn11 E E E E (fun _=>E))<|gK h22 fun hg24 h23=>gO 7 E<|eo_o E (Kmi hg24 E)<|bK h23 fun m25 hm25 h26=>eo_o E (Kmk hΓ (enc:=Llr) (bg:=0) m25 E E (ArU.r _ (ArU.r _ (ArU.l _ (Kko (fun _ _=>E) hm25 m25)))) E (g:=.agg (fM m25)) E E)<|Kdk hΓ (enc:=Llr) [m25] E E E E E E E E E E E E Z<|bK h26 fun y27 hy27 h28=>Kdy hΓ (enc:=Llr) hy27 E E E E E E E E E (fun _=>E) E E E E<|gO 3 E ?_
 cases h28
 exact⟨j12,x10,b13,_,hjsn11,hbsn11,hnsn11,hssn11,⟨⟨E,E,tV⟩,[],E,.inl E⟩⟩
theorem Lqv{k:Nat}{s:List Int}{r:List Int}(h:Lki k s=some r):EC Tryz.prog 252 [.sl 0 s.length] [rO 3 1 (eN .i64) s] fun g hp'=>g=.sl 0 r.length∧hp'=[rO 3 1 (eN .i64) r]:=by
 unfold Lki at h
 refine QN Tryz.func252 E Z<|gA 2 E<|Kdn (t:=0) 3 1 E Z<|gO 10 E<|jC E h (fun h1=>?_) fun h2=>gA 8 E<|bK h2 fun q6 hq6 h7=>Kgo (R:=fun a8=>q6=.inl a8) (fun a8=>[(0,.sl 0 s.length)]) (fun a8=>[rO 3 1 (eN .i64) s,rO 3 1 (eN .i64) ([]:List Int)]) ?_ ?_
 ·exact gA 8 E<|oSi h1▸Kec hΓ [_] (.inr E) E E E E (.inr ⟨HB.mk E,E⟩)
 ·refine gA 1 E<|Kcv hq6 (fun s4=>[(0,.sl 0 s.length),(3,I s4)]) (fun s4=>[rO 3 1 (eN .i64) s,rO 3 1 (eN .i64) ([]:List Int)]) ⟨⟨E,E,tV⟩,[],E,.inl E⟩ (fun s4 y12 hy10 hout11=>?_)
  refine gA 9 E<|jC E hy10 (fun h13=>?_) fun h60=>gA 4 E ?_
  ·refine gA 5 E<|jD<|bK h13 fun x14 hx14 h15=>?_
   have hj16:=Keh hx14
   refine gA 2 E<|gl_o E (Kdb hΓ hx14 E E E E E E)<|gl_o E (Kdh hΓ (enc:=(eN .i64)) s4.toNat 0 hj16 E E E E (fun _=>E) (g:=I x14) E)<|bK h15 fun x17 hx17 h18=>?_
   have hj19:=Keh hx17
   refine Kcg hΓ 3 E<|gl_o E (Kdb hΓ hx17 E E E E E E)<|gl_o E (Kdh hΓ (enc:=(eN .i64)) ((wi (s4 - 1)).toNat) 0 hj19 E E E E (fun _=>E) (g:=I x17) E)<|Kcg hΓ 3 E<|jC E h18 (fun h20=>?_) fun h59=>gA 8 E<|oSi h59▸⟨_,E,⟨⟨E,E,tV⟩,[],E,.inl E⟩⟩
   refine bK h20 fun z21 hz21 h22=>gA 4 E<|eo_o E (Kgy hΓ hz21 E E E E E E)<|gO 9 E<|bK h22 fun q26 hq26 h27=>Kgp [(0,.sl 0 q26.1.length),(3,I q26.2)] [rO 3 1 (eN .i64) q26.1,rO 3 1 (eN .i64) ([]:List Int)] ?_ ?_
   ·refine gA 1 E<|Kcv hq26 (fun s24=>[(0,.sl 0 s24.1.length),(3,I s24.2.1),(4,.slo 0 1 s4.toNat z21.length),(5,I s24.2.2)]) (fun s24=>[rO 3 1 (eN .i64) s24.1,rO 3 1 (eN .i64) ([]:List Int)]) ⟨⟨E,E,E,E,tV⟩,[],E,.inl E⟩ (fun s24 y32 hy30 hout31=>?_)
    refine gA 9 E<|jC E hy30 (fun h33=>?_) fun h54=>gA 4 E ?_
    ·refine gA 5 E<|jD<|bK h33 fun x34 hx34 h35=>bK h35 fun x36 hx36 h37=>?_
     have hj38:s24.1[(s4.toNat+s24.2.2.toNat)]?=some x36:=hx36
     refine gA 2 E<|gl_o E (Khf hΓ hx34 E E E E E E E)<|gl_o E (Kdh hΓ (enc:=(eN .i64)) (s4.toNat+s24.2.2.toNat) 0 hj38 E E E E (fun _=>E) (g:=I x36) E)<|bK h37 fun x39 hx39 h40=>bK h40 fun x41 hx41 h42=>?_
     have hj43:s24.1[(s4.toNat+(wi (s24.2.2 - 1)).toNat)]?=some x41:=hx41
     refine Kcg hΓ 3 E<|gl_o E (Khf hΓ hx39 E E E E E E E)<|gl_o E (Kdh hΓ (enc:=(eN .i64)) (s4.toNat+(wi (s24.2.2 - 1)).toNat) 0 hj43 E E E E (fun _=>E) (g:=I x41) E)<|Kcg hΓ 3 E<|jC E h42 (fun h44=>?_) fun h53=>gA 8 E<|oSi h53▸⟨_,E,⟨⟨E,E,E,E,tV⟩,[],E,.inl E⟩⟩
     refine bK h44 fun x45 hx45 h46=>bK h46 fun x47 hx47 h48=>?_
     have hj49:s24.1[(s4.toNat+s24.2.2.toNat)]?=some x47:=hx47
     refine gA 6 E<|eo_o E (Khf hΓ hx45 E E E E E E E)<|eo_o E (Kdh hΓ (enc:=(eN .i64)) (s4.toNat+s24.2.2.toNat) 0 hj49 E E E E (fun _=>E) (g:=I x47) E)<|bK h48 fun x50 hx50 h51=>?_
     have hj52:=Keh hx50
     exact eo_o E (Kdb hΓ hx50 E E E E E E)<|Kdj hΓ (enc:=(eN .i64)) (z':=x47) s24.2.1.toNat 0 hj52 E E E E (fun _=>E) E E E E E E Z<|Kdx [rO 3 1 (eN .i64) (s24.1.set s24.2.1.toNat x47),rO 3 1 (eN .i64) ([]:List Int)] E<|Kha 0 (n':=(s24.1.set s24.2.1.toNat x47).length) E List.length_set.symm<|gO 14 E<|oSi h51▸⟨_,E,⟨⟨E,E,E,E,tV⟩,[],E,.inl E⟩⟩
    cases h54
    obtain rfl:=hout31 _ rfl
    exact⟨⟨E,E,tV⟩,[],E,.inl E⟩
   refine bK h27 fun z55 hz55 h56=>gA 5 E<|eo_o E (Kgy hΓ hz55 E E E E E E)<|Kgv Z (Kgx hΓ (enc:=(eN .i64)) (a:=q26.2) hz55 E E E E E E E E E E (fun _=>E))<|gO 6 E<|Kgz hΓ hz55 E E E E E E E E<|gO 6 E<|bK h56 fun v57 hv57 h58=>?_
   cases h58
   obtain rfl:=hout11 _ rfl
   cases h7
   exact gA 4 E<|oSi hv57▸Kec hΓ [_] (.inr E) E E E E (.inr ⟨HB.mk E,E⟩)
  cases h60
  obtain rfl:=hout11 _ rfl
  exact⟨_,E,⟨⟨E,tV⟩,[],E,.inl E⟩⟩
 intro a8 ha
 subst ha
 replace h7:=Kgh h7
 exact gA 8 E<|oSi h7▸Kec hΓ [_] (.inr E) E E E E (.inr ⟨HB.mk E,E⟩)
end Go.Proofs.YtjmlnnanfkiakaaGreatDoor
